/-
  The statement 'BottomPlaysSaid': the Go law 'verge' BottomPlays returns true at every input, and every argument reads as it did. No conditions.
  The frame is written by a program of ours (frame.py) after the guide's own shell; the walk is the theorem that is named in 'lifted'.
-/
import Derived.Test.YtiinhofmhoplfaaRows
import Derived.Test.YtiinhofmhoplfaaFit
import Derived.Test.YtiinhofmhoplfaaBotJ
import Derived.WalkKit
import Derived.ProofKit
import Derived.OpenShut
import Derived.ShutString
import Derived.ChangeOld
import Derived.Below
import Derived.Test.YtiinhofmhoplfaaSized
namespace Go.Proofs.Ytiinhofmhoplfaa.bottomPlays
open Go.ChangeShapes Go.WideShapes Go.ChangeAt Go.RowKit
set_option linter.unusedVariables false

theorem own : ownKnob Try.prog.godebug = none := by kernel_rfl
theorem laidOut : laidOutB Try.prog = true := by kernel_rfl

set_option maxRecDepth 100000 in
theorem lifted (os : Os) (started : os.Started) (H : Type) (enc : TypeId × Value → H) :
    ReturnsInHanded {} Try.checked os 8 .any (Rows.bottomPlaysSpec.pre6 enc Try.prog Try.f8 Rows.bottomPlaysRow.domain false) (Rows.bottomPlaysSpec.post enc Try.prog Try.f8 false true false false) := by
  refine returnsInHanded_of_change_sized (C := Try.checked) own started (by kernel_rfl) Try.func8
    (ChangeSpec.witness6 (enc := enc) (C := Try.checked) false ⟨#[], #[.slice none 0 0, .slice none 0 0], []⟩ 8 (by kernel_rfl) (by kernel_rfl) (by kernel_rfl) (by kernel_rfl)) ?_
  intro W base args ds gs before hval0 hW hcnd hsz _
  have hval : ∀ (j : Nat) t v, Try.f8.params[j]? = some t → args[j]? = some v → Value.okWide Try.prog W .any base t v := hval0
  have hW' := hW
  obtain ⟨p, q, hA0, hV, rfl, hfz, hnd⟩ := hW
  have hA : DataW.TrodAll enc Try.prog W 0 (fun _ => true) true Try.f8.params.toList args.toList ds p := hA0
  rw [Try.params8] at hA hval
  obtain ⟨v0, vs0, d0, ds0, p0, q0, hargs, rfl, rfl, h0, r0⟩ := trodAll_cons hA
  obtain ⟨v1, vs1, d1, ds1, p1, q1, rfl, rfl, rfl, h1, r1⟩ := trodAll_cons r0
  obtain ⟨rfl, rfl, rfl⟩ := trodAll_nil r1
  obtain rfl : args = #[v0, v1] := by cases args; simp_all
  obtain ⟨rfl, rfl⟩ := trodVars_none hV
  have k0 := h0
  have lt0 : ∀ x ∈ p0, x.block < W.heap.size := by obtain ⟨m, hm⟩ := k0; exact DataW.trod_lt m _ _ _ hm
  obtain ⟨a0, n0, c0, rfl, r0⟩ := Vg.rows_of_fit (K := [.i64, .i64, .i64, .i64]) (by decide) (Vg.open_rows (n := 8) Try.underlying73 (by kernel_rfl) (hval 0 73 v0 rfl rfl) h0)
  obtain ⟨D0, r0⟩ : ∃ D, Vg.intRows W [.i64, .i64, .i64, .i64] a0 n0 c0 D := ⟨_, r0⟩
  have ri0 := r0
  have k1 := h1
  have lt1 : ∀ x ∈ p1, x.block < W.heap.size := by obtain ⟨m, hm⟩ := k1; exact DataW.trod_lt m _ _ _ hm
  obtain ⟨a1, n1, c1, rfl, r1⟩ := Vg.rows_of_fit (K := [.i64, .i64, .i64, .i64]) (by decide) (Vg.open_rows (n := 8) Try.underlying74 (by kernel_rfl) (hval 1 74 v1 rfl rfl) h1)
  obtain ⟨D1, r1⟩ : ∃ D, Vg.intRows W [.i64, .i64, .i64, .i64] a1 n1 c1 D := ⟨_, r1⟩
  have ri1 := r1
  have sz0 := Vg.len_sized Try.underlying73 k0 hsz (j := 0) (by kernel_rfl) rfl
  have hb0 : Try.prog.bytesOf 102 = 32 := by kernel_rfl
  have sz0 : n0 * 32 ≤ 140737488351232 := by have h9 := sz0; change n0 * Try.prog.bytesOf 102 ≤ _ at h9; rw [hb0] at h9; exact h9
  have sz1 := Vg.len_sized Try.underlying74 k1 hsz (j := 1) (by kernel_rfl) rfl
  have hb1 : Try.prog.bytesOf 84 = 32 := by kernel_rfl
  have sz1 : n1 * 32 ≤ 140737488351232 := by have h9 := sz1; change n1 * Try.prog.bytesOf 84 ≤ _ at h9; rw [hb1] at h9; exact h9
  clear hA0 hval0
  refine Calls.mono (BottomPlays_walk a0 n0 c0 D0 a1 n1 c1 D1 W ri0 ri1 (by omega)) fun e W' ⟨he, bel0⟩ => ?_
  subst he
  have bel : Below W.heap.size W W' := Vg.Grows.below bel0
  exact ⟨_, rfl, _, _, _, [], _, [], hW', trodAll_mk1 (shut_bool Try.underlying4 _), (trodAll_cons_mk (Below.trod laidOut (by kernel_rfl) (of_decide_eq_true (by kernel_rfl)) k0 bel lt0) (trodAll_cons_mk (Below.trod laidOut (by kernel_rfl) (of_decide_eq_true (by kernel_rfl)) k1 bel lt1) trodAll_mk0)), rfl, bel.frame _, fun h => by cases h⟩

theorem over : Rows.bottomPlaysRow.holds Try.pinned (OpenSpec.ofChange Rows.bottomPlaysSpec) :=
  OpenClaim.holds_of_wide 8 Try.f8 rfl rfl rfl rfl rfl rfl rfl ⟨rfl, rfl, rfl, rfl, rfl⟩ rfl rfl rfl rfl rfl (by kernel_rfl) Try.func8 (by kernel_rfl)
    (of_decide_eq_true (by kernel_rfl)) (by unfold Func.isWrapper; rw [if_neg (of_decide_eq_false (by kernel_rfl))]; exact ⟨rfl, rfl⟩)
    (fun os started H enc _ => lifted os started H enc)

theorem proved : Rows.BottomPlaysSaid := over
#print axioms proved
end Go.Proofs.Ytiinhofmhoplfaa.bottomPlays
