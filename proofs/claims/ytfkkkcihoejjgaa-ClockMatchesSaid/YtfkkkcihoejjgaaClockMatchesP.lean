/-
  The statement 'ClockMatchesSaid': the Go law 'verge' ClockMatches returns true at every input, and every argument reads as it did. No conditions.
  The frame is written by a program of ours (frame.py) after the guide's own shell; the walk is the theorem that is named in 'lifted'.
-/
import Derived.Test.YtfkkkcihoejjgaaRows
import Derived.Test.YtfkkkcihoejjgaaFit
import Derived.Test.YtfkkkcihoejjgaaClockH
import Derived.WalkKit
import Derived.ProofKit
import Derived.OpenShut
import Derived.ShutString
import Derived.ChangeOld
import Derived.Below
namespace Go.Proofs.Ytfkkkcihoejjgaa.clockMatches
open Go.ChangeShapes Go.WideShapes Go.ChangeAt Go.RowKit
set_option linter.unusedVariables false

theorem own : ownKnob Try.prog.godebug = none := by kernel_rfl
theorem laidOut : laidOutB Try.prog = true := by kernel_rfl

set_option maxRecDepth 100000 in
theorem lifted (os : Os) (started : os.Started) (H : Type) (enc : TypeId × Value → H) :
    ReturnsInHanded {} Try.checked os 11 .any (Rows.clockMatchesSpec.pre6 enc Try.prog Try.f11 Rows.clockMatchesRow.domain false) (Rows.clockMatchesSpec.post enc Try.prog Try.f11 false true false false) := by
  refine returnsInHanded_of_change (C := Try.checked) own started (by kernel_rfl) Try.func11
    (ChangeSpec.witness6 (enc := enc) (C := Try.checked) false ⟨#[], #[.agg #[.int .u32 0, .int .u32 0, .bool false, .bool false, .int .i64 0], .int .u32 0, .int .i64 0], []⟩ 8 (by kernel_rfl) (by kernel_rfl) (by kernel_rfl) (by kernel_rfl)) ?_
  intro W base args ds gs before hval0 hW hcnd _
  have hval : ∀ (j : Nat) t v, Try.f11.params[j]? = some t → args[j]? = some v → Value.okWide Try.prog W .any base t v := hval0
  have hW' := hW
  obtain ⟨p, q, hA0, hV, rfl, hfz, hnd⟩ := hW
  have hA : DataW.TrodAll enc Try.prog W 0 (fun _ => true) true Try.f11.params.toList args.toList ds p := hA0
  rw [Try.params11] at hA hval
  obtain ⟨v0, vs0, d0, ds0, p0, q0, hargs, rfl, rfl, h0, r0⟩ := trodAll_cons hA
  obtain ⟨v1, vs1, d1, ds1, p1, q1, rfl, rfl, rfl, h1, r1⟩ := trodAll_cons r0
  obtain ⟨v2, vs2, d2, ds2, p2, q2, rfl, rfl, rfl, h2, r2⟩ := trodAll_cons r1
  obtain ⟨rfl, rfl, rfl⟩ := trodAll_nil r2
  obtain rfl : args = #[v0, v1, v2] := by cases args; simp_all
  obtain ⟨rfl, rfl⟩ := trodVars_none hV
  have k0 := h0
  have lt0 : ∀ x ∈ p0, x.block < W.heap.size := by obtain ⟨m, hm⟩ := k0; exact DataW.trod_lt m _ _ _ hm
  obtain ⟨l0, rfl, F0⟩ := Vg.open_struct (n := 8) (L := [.inl (some .u32), .inl (some .u32), .inl (none), .inl (none), .inl (some .i64)]) Try.underlying29 (by kernel_rfl) (hval 0 29 v0 rfl rfl) h0
  obtain ⟨u0_0, m0_0, rfl, g0_0, G0_0⟩ := Vg.Fits.cons_inv F0
  obtain ⟨u0_1, m0_1, rfl, g0_1, G0_1⟩ := Vg.Fits.cons_inv G0_0
  obtain ⟨u0_2, m0_2, rfl, g0_2, G0_2⟩ := Vg.Fits.cons_inv G0_1
  obtain ⟨u0_3, m0_3, rfl, g0_3, G0_3⟩ := Vg.Fits.cons_inv G0_2
  obtain ⟨u0_4, m0_4, rfl, g0_4, G0_4⟩ := Vg.Fits.cons_inv G0_3
  obtain rfl := Vg.Fits.nil_inv G0_4
  obtain ⟨a0_0, rfl, w0_0⟩ := Vg.fit1_int g0_0
  obtain ⟨b0_0l, b0_0h⟩ := bounds_u32 w0_0
  obtain ⟨a0_1, rfl, w0_1⟩ := Vg.fit1_int g0_1
  obtain ⟨b0_1l, b0_1h⟩ := bounds_u32 w0_1
  obtain ⟨a0_2, rfl⟩ := Vg.fit1_bool g0_2
  obtain ⟨a0_3, rfl⟩ := Vg.fit1_bool g0_3
  obtain ⟨a0_4, rfl, w0_4⟩ := Vg.fit1_int g0_4
  obtain ⟨b0_4l, b0_4h⟩ := bounds_i64 w0_4
  have k1 := h1
  have lt1 : ∀ x ∈ p1, x.block < W.heap.size := by obtain ⟨m, hm⟩ := k1; exact DataW.trod_lt m _ _ _ hm
  obtain ⟨a1, rfl, -, -, w1⟩ := open_int Try.underlying25 (hval 1 25 v1 rfl rfl) h1
  obtain ⟨b1l, b1h⟩ := bounds_u32 w1
  have k2 := h2
  have lt2 : ∀ x ∈ p2, x.block < W.heap.size := by obtain ⟨m, hm⟩ := k2; exact DataW.trod_lt m _ _ _ hm
  obtain ⟨a2, rfl, -, -, w2⟩ := open_int Try.underlying2 (hval 2 2 v2 rfl rfl) h2
  obtain ⟨b2l, b2h⟩ := bounds_i64 w2
  clear hA0 hval0
  refine Calls.mono (ClockMatches_walk a0_0 a0_1 a0_2 a0_3 a0_4 a1 a2 W ⟨b0_0l, b0_0h⟩ ⟨b0_1l, b0_1h⟩ b1l b1h b2l b2h) fun e W' ⟨he, bel0⟩ => ?_
  subst he
  have bel : Below W.heap.size W W' := Vg.Grows.below bel0
  exact ⟨_, rfl, _, _, _, [], _, [], hW', trodAll_mk1 (shut_bool Try.underlying4 _), (trodAll_cons_mk (Below.trod laidOut (by kernel_rfl) (of_decide_eq_true (by kernel_rfl)) k0 bel lt0) (trodAll_cons_mk (Below.trod laidOut (by kernel_rfl) (of_decide_eq_true (by kernel_rfl)) k1 bel lt1) (trodAll_cons_mk (Below.trod laidOut (by kernel_rfl) (of_decide_eq_true (by kernel_rfl)) k2 bel lt2) trodAll_mk0))), rfl, bel.frame _, fun h => by cases h⟩

theorem over : Rows.clockMatchesRow.holds Try.pinned (OpenSpec.ofChange Rows.clockMatchesSpec) :=
  OpenClaim.holds_of_wide 11 Try.f11 rfl rfl rfl rfl rfl rfl rfl ⟨rfl, rfl, rfl, rfl, rfl⟩ rfl rfl rfl rfl rfl (by kernel_rfl) Try.func11 (by kernel_rfl)
    (of_decide_eq_true (by kernel_rfl)) (by unfold Func.isWrapper; rw [if_neg (of_decide_eq_false (by kernel_rfl))]; exact ⟨rfl, rfl⟩)
    (fun os started H enc _ => lifted os started H enc)

theorem proved : Rows.ClockMatchesSaid := over
#print axioms proved
end Go.Proofs.Ytfkkkcihoejjgaa.clockMatches
