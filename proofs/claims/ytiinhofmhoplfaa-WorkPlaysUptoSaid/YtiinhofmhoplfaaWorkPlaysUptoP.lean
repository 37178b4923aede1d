/-
  The statement 'WorkPlaysUptoSaid': the Go law 'verge' WorkPlaysUpto returns true at every input, and every argument reads as it did. Condition: what it reads is of bulk at most 1048576 (the given second form).
  The frame is written by a program of ours (frame.py) after the guide's own shell; the walk is the theorem that is named in 'lifted'.
-/
import Derived.Test.YtiinhofmhoplfaaRows
import Derived.Test.YtiinhofmhoplfaaFit
import Derived.Test.YtiinhofmhoplfaaWorkW
import Derived.WalkKit
import Derived.ProofKit
import Derived.OpenShut
import Derived.ShutString
import Derived.ChangeOld
import Derived.Below
import Derived.JoinedCond
import Derived.Test.YtiinhofmhoplfaaBulk
namespace Go.Proofs.Ytiinhofmhoplfaa.workPlaysUpto
open Go.ChangeShapes Go.WideShapes Go.ChangeAt Go.RowKit
set_option linter.unusedVariables false

theorem own : ownKnob Try.prog.godebug = none := by kernel_rfl
theorem laidOut : laidOutB Try.prog = true := by kernel_rfl

set_option maxRecDepth 100000 in
theorem lifted (os : Os) (started : os.Started) (H : Type) (enc : TypeId × Value → H) (FF : Stop.Interp) :
    ReturnsInHanded {} Try.checked os 3 .any ((Rows.OpenSpec.upto Rows.workPlaysSpec).pre6 enc Try.prog Try.f3 Rows.workPlaysUptoRow.domain false) (((Rows.OpenSpec.upto Rows.workPlaysSpec).at FF).post enc Try.prog Try.f3 false true false false) := by
  refine returnsInHanded_of_cond (C := Try.checked) (s := Rows.OpenSpec.upto Rows.workPlaysSpec) (k := Rows.uptoSmall) rfl own started (by kernel_rfl) Try.func3
    (OpenSpec.witness (enc := enc) (C := Try.checked) (s := Rows.OpenSpec.upto Rows.workPlaysSpec) (k := Rows.uptoSmall) rfl false ⟨#[], #[.slice none 0 0, .slice none 0 0], []⟩ 8 (by kernel_rfl) (by kernel_rfl) (by kernel_rfl) (x := ([.nil, .nil], [], [])) (by kernel_rfl) rfl (by kernel_rfl)) ?_
  intro W base args ds gs before hval0 hW hcnd hk _
  have hval : ∀ (j : Nat) t v, Try.f3.params[j]? = some t → args[j]? = some v → Value.okWide Try.prog W .any base t v := hval0
  have hW' := hW
  obtain ⟨p, q, hA0, hV, rfl, hfz, hnd⟩ := hW
  have hA : DataW.TrodAll enc Try.prog W 0 (fun _ => true) true Try.f3.params.toList args.toList ds p := hA0
  rw [Try.params3] at hA hval
  obtain ⟨v0, vs0, d0, ds0, p0, q0, hargs, rfl, rfl, h0, r0⟩ := trodAll_cons hA
  obtain ⟨v1, vs1, d1, ds1, p1, q1, rfl, rfl, rfl, h1, r1⟩ := trodAll_cons r0
  obtain ⟨rfl, rfl, rfl⟩ := trodAll_nil r1
  obtain rfl : args = #[v0, v1] := by cases args; simp_all
  obtain ⟨rfl, rfl⟩ := trodVars_none hV
  have k0 := h0
  have lt0 : ∀ x ∈ p0, x.block < W.heap.size := by obtain ⟨m, hm⟩ := k0; exact DataW.trod_lt m _ _ _ hm
  obtain ⟨a0, n0, c0, rfl, r0⟩ := Vg.rows_of_fit (K := [.i64]) (by decide) (Vg.open_rows (n := 8) Try.underlying22 (by kernel_rfl) (hval 0 22 v0 rfl rfl) h0)
  obtain ⟨D0, r0⟩ : ∃ D, Vg.intRows W [.i64] a0 n0 c0 D := ⟨_, r0⟩
  have ri0 := r0
  have k1 := h1
  have lt1 : ∀ x ∈ p1, x.block < W.heap.size := by obtain ⟨m, hm⟩ := k1; exact DataW.trod_lt m _ _ _ hm
  obtain ⟨a1, n1, c1, rfl, r1⟩ := Vg.rows_of_fit (K := [.i64, .i64, .i64]) (by decide) (Vg.open_rows (n := 8) Try.underlying23 (by kernel_rfl) (hval 1 23 v1 rfl rfl) h1)
  obtain ⟨D1, r1⟩ : ∃ D, Vg.intRows W [.i64, .i64, .i64] a1 n1 c1 D := ⟨_, r1⟩
  have ri1 := r1
  have hk1 : Rows.uptoBulkAll _ ≤ 1048576 := of_decide_eq_true hk
  simp only [List.append_nil, Rows.uptoBulkAll] at hk1
  have nb0 := Vg.len_bulk Try.underlying22 k0
  have nb0 : n0 ≤ 1048576 := by omega
  have nb1 := Vg.len_bulk Try.underlying23 k1
  have nb1 : n1 ≤ 1048576 := by omega
  clear hA0 hval0
  refine Calls.mono (WorkPlays_walk a0 n0 c0 D0 a1 n1 c1 D1 W ri0 ri1 nb0) fun e W' ⟨he, bel0⟩ => ?_
  subst he
  have bel : Below W.heap.size W W' := Vg.Grows.below bel0
  exact ⟨_, rfl, _, _, _, [], _, [], hW', trodAll_mk1 (shut_bool Try.underlying4 _), (trodAll_cons_mk (Below.trod laidOut (by kernel_rfl) (of_decide_eq_true (by kernel_rfl)) k0 bel lt0) (trodAll_cons_mk (Below.trod laidOut (by kernel_rfl) (of_decide_eq_true (by kernel_rfl)) k1 bel lt1) trodAll_mk0)), rfl, bel.frame _, fun h => by cases h⟩

theorem over : Rows.workPlaysUptoRow.holds Try.pinned (Rows.OpenSpec.upto Rows.workPlaysSpec) :=
  OpenClaim.holds_of_cond 3 Try.f3 rfl rfl rfl rfl rfl rfl rfl ⟨rfl, rfl, rfl, rfl, rfl⟩ rfl rfl rfl rfl rfl (by kernel_rfl) Try.func3 (by kernel_rfl)
    (of_decide_eq_true (by kernel_rfl)) (by unfold Func.isWrapper; rw [if_neg (of_decide_eq_false (by kernel_rfl))]; exact ⟨rfl, rfl⟩)
    (fun os started H enc _ F => lifted os started H enc F)

theorem proved : Rows.WorkPlaysUptoSaid := over
#print axioms proved
end Go.Proofs.Ytiinhofmhoplfaa.workPlaysUpto
