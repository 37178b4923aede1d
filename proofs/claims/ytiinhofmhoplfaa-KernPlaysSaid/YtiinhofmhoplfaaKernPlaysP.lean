/-
  The statement 'KernPlaysSaid': the Go law 'verge' KernPlays returns true at every input, and every argument reads as it did. No conditions.
  The frame is written by a program of ours (frame.py) after the guide's own shell; the walk is the theorem that is named in 'lifted'.
-/
import Derived.Test.YtiinhofmhoplfaaRows
import Derived.Test.YtiinhofmhoplfaaFit
import Derived.Test.YtiinhofmhoplfaaKpE
import Derived.WalkKit
import Derived.ProofKit
import Derived.OpenShut
import Derived.ShutString
import Derived.ChangeOld
import Derived.Below
namespace Go.Proofs.Ytiinhofmhoplfaa.kernPlays
open Go.ChangeShapes Go.WideShapes Go.ChangeAt Go.RowKit
set_option linter.unusedVariables false

theorem own : ownKnob Try.prog.godebug = none := by kernel_rfl
theorem laidOut : laidOutB Try.prog = true := by kernel_rfl

set_option maxRecDepth 100000 in
theorem lifted (os : Os) (started : os.Started) (H : Type) (enc : TypeId × Value → H) :
    ReturnsInHanded {} Try.checked os 10 .any (Rows.kernPlaysSpec.pre6 enc Try.prog Try.f10 Rows.kernPlaysRow.domain false) (Rows.kernPlaysSpec.post enc Try.prog Try.f10 false true false false) := by
  refine returnsInHanded_of_change (C := Try.checked) own started (by kernel_rfl) Try.func10
    (ChangeSpec.witness6 (enc := enc) (C := Try.checked) false ⟨#[], #[.slice none 0 0, .slice none 0 0], []⟩ 8 (by kernel_rfl) (by kernel_rfl) (by kernel_rfl) (by kernel_rfl)) ?_
  intro W base args ds gs before hval0 hW hcnd _
  have hval : ∀ (j : Nat) t v, Try.f10.params[j]? = some t → args[j]? = some v → Value.okWide Try.prog W .any base t v := hval0
  have hW' := hW
  obtain ⟨p, q, hA0, hV, rfl, hfz, hnd⟩ := hW
  have hA : DataW.TrodAll enc Try.prog W 0 (fun _ => true) true Try.f10.params.toList args.toList ds p := hA0
  rw [Try.params10] at hA hval
  obtain ⟨v0, vs0, d0, ds0, p0, q0, hargs, rfl, rfl, h0, r0⟩ := trodAll_cons hA
  obtain ⟨v1, vs1, d1, ds1, p1, q1, rfl, rfl, rfl, h1, r1⟩ := trodAll_cons r0
  obtain ⟨rfl, rfl, rfl⟩ := trodAll_nil r1
  obtain rfl : args = #[v0, v1] := by cases args; simp_all
  obtain ⟨rfl, rfl⟩ := trodVars_none hV
  have k0 := h0
  have lt0 : ∀ x ∈ p0, x.block < W.heap.size := by obtain ⟨m, hm⟩ := k0; exact DataW.trod_lt m _ _ _ hm
  obtain ⟨a0, n0, c0, rfl, r0⟩ := Vg.rows_of_fit (K := [.u8, .i64, .i64, .i64, .i64, .i64, .i64, .i64, .i64, .i64]) (by decide) (Vg.open_rows (n := 8) Try.underlying104 (by kernel_rfl) (hval 0 104 v0 rfl rfl) h0)
  obtain ⟨D0, r0⟩ : ∃ D, Vg.intRows W [.u8, .i64, .i64, .i64, .i64, .i64, .i64, .i64, .i64, .i64] a0 n0 c0 D := ⟨_, r0⟩
  have ri0 := r0
  have k1 := h1
  have lt1 : ∀ x ∈ p1, x.block < W.heap.size := by obtain ⟨m, hm⟩ := k1; exact DataW.trod_lt m _ _ _ hm
  obtain ⟨a1, n1, c1, rfl, r1⟩ := Vg.rows_of_fit (K := [.i64, .i64, .i64, .i64]) (by decide) (Vg.open_rows (n := 8) Try.underlying105 (by kernel_rfl) (hval 1 105 v1 rfl rfl) h1)
  obtain ⟨D1, r1⟩ : ∃ D, Vg.intRows W [.i64, .i64, .i64, .i64] a1 n1 c1 D := ⟨_, r1⟩
  have ri1 := r1
  clear hA0 hval0
  refine Calls.mono (KernPlays_walk a0 n0 c0 D0 a1 n1 c1 D1 W ri0 ri1) fun e W' ⟨he, bel0⟩ => ?_
  subst he
  have bel : Below W.heap.size W W' := Vg.Grows.below bel0
  exact ⟨_, rfl, _, _, _, [], _, [], hW', trodAll_mk1 (shut_bool Try.underlying4 _), (trodAll_cons_mk (Below.trod laidOut (by kernel_rfl) (of_decide_eq_true (by kernel_rfl)) k0 bel lt0) (trodAll_cons_mk (Below.trod laidOut (by kernel_rfl) (of_decide_eq_true (by kernel_rfl)) k1 bel lt1) trodAll_mk0)), rfl, bel.frame _, fun h => by cases h⟩

theorem over : Rows.kernPlaysRow.holds Try.pinned (OpenSpec.ofChange Rows.kernPlaysSpec) :=
  OpenClaim.holds_of_wide 10 Try.f10 rfl rfl rfl rfl rfl rfl rfl ⟨rfl, rfl, rfl, rfl, rfl⟩ rfl rfl rfl rfl rfl (by kernel_rfl) Try.func10 (by kernel_rfl)
    (of_decide_eq_true (by kernel_rfl)) (by unfold Func.isWrapper; rw [if_neg (of_decide_eq_false (by kernel_rfl))]; exact ⟨rfl, rfl⟩)
    (fun os started H enc _ => lifted os started H enc)

theorem proved : Rows.KernPlaysSaid := over
#print axioms proved
end Go.Proofs.Ytiinhofmhoplfaa.kernPlays
