/-
  The card 'TopDemanded', second form, of the door seat: the Go law 'verge' TopDemanded returns true at every input of bulk at most 1048576, and every argument reads as it did; the package's table of 'math/bits' is the listed variable.
  Conditions: what it reads is of bulk at most 1048576 (the given second form). The frame after the kit's worked examples; the walk is 'TopDemanded_walk'.
-/
import Derived.Test.YtekjnagojphmkaaDoorRows
import Derived.Test.YtekjnagojphmkaaDoorCards
import Derived.Test.YtekjnagojphmkaaDoorTie
import Derived.Test.YtekjnagojphmkaaDoorFit
import Derived.Test.YtekjnagojphmkaaDoorDemW
import Derived.Test.YtekjnagojphmkaaDoorBulk
import Derived.Deep.DeepHandedRow
import Derived.Deep.DeepWitnessRowRef
import Derived.JoinedCond
import Derived.WalkKit
import Derived.ProofKit
import Derived.OpenShut
import Derived.LaidMore
import Derived.Stop.Joined
import Derived.ChangeOld
import Derived.Below
import Derived.SevenTiedAt
namespace Go.Proofs.YtekjnagojphmkaaDoor.topDemanded
open Go Go.ChangeShapes Go.WideShapes Go.ChangeAt Go.RowKit
set_option linter.unusedVariables false
set_option maxRecDepth 20000

theorem own : ownKnob Tryd.prog.godebug = none := by kernel_rfl
theorem laidOut : laidOutB Tryd.prog = true := by kernel_rfl
theorem gTab : Tryd.prog.globalNamed "math/bits.deBruijn64tab" = some 0 := by kernel_rfl
theorem tTab : (Tryd.prog.globals[0]?).map (·.type) = some 181 := by kernel_rfl
abbrev laid : List (String × DataW Unit) := [("math/bits.deBruijn64tab", Rows.laid_math_bits_deBruijn64tab)]

/-- The door's own heap meets the condition. -/
theorem door_met (os : Os) (args : Array Value) : laidMetH Tryd.prog laid ((World.doorLaid Tryd.prog 400 os).forCall (fun _ _ => 0) ⟨#[], args, []⟩).memory :=
  laidMetH_of_parts3 (fuel := 8) (laidMet_of_run' 8 (by kernel_rfl) (by kernel_rfl)) (by kernel_rfl) (by kernel_rfl)

def tabD {H : Type} : List (DataW H) := Lib.deBruijn64tab.map fun (k : Nat) => DataW.lit (.int .u8 (k : Int))
theorem tabD_eq : (Rows.laid_math_bits_deBruijn64tab : DataW Unit) = .agg tabD := by kernel_rfl

/-- What the condition gives the walk: the table's cells. -/
theorem of_laid {W : World} (h : laidMetH Tryd.prog laid W) : Vg.Tab W := by
  rw [MakeChecks.laidMetH_plain _ _ _ (by kernel_rfl)] at h
  obtain ⟨ps, ⟨g0, t0, cs0, f0, p0, q0, hg0, ht0, hv0, hd0, _, _⟩, _, _⟩ := h
  obtain rfl := Option.some.inj (gTab.symm.trans hg0)
  obtain rfl := Option.some.inj (tTab.symm.trans ht0)
  rw [tabD_eq] at hd0
  obtain ⟨xs, m, rfl, hx, hlen, hn, hel⟩ := DataW.trod_array Tryd.underlying181 hd0
  have c1 : Tryd.prog.cellsOf 5 = 1 := by kernel_rfl
  intro j hj
  have hxs : xs[j]? = some xs[j] := List.getElem?_eq_getElem (by omega)
  have h0 := (hel j hj).trans hxs
  have hx1 : tabD = xs.map (·.1) := by simpa using congrArg Prod.fst hx
  have hdj : (xs[j]).1 = DataW.lit (.int .u8 ((Lib.deBruijn64tab.getD j 0 : Nat) : Int)) := by
    have h1 : (xs.map (·.1))[j]? = some (xs[j]).1 := by rw [List.getElem?_map, hxs]; rfl
    rw [← hx1] at h1
    have hl : j < Lib.deBruijn64tab.length := hj
    rw [tabD, List.getElem?_map, List.getElem?_eq_getElem hl] at h1
    rw [List.getD_eq_getElem?_getD, List.getElem?_eq_getElem hl]
    exact (Option.some.inj h1).symm
  obtain ⟨k, e1, e2, _⟩ := DataW.trod_int Tryd.underlying5 (show DataW.trod _ Tryd.prog W 0 _ false m 5 _ = some (xs[j]) from h0)
  have hk : k = ((Lib.deBruijn64tab.getD j 0 : Nat) : Int) := by
    have := congrArg Prod.fst e2
    rw [hdj] at this
    injection this with h3
    injection h3 with _ h4
    exact h4.symm
  have hc := World.var?_cell hg0 hv0 j
  rw [hc, ← Array.getElem?_toList]
  have h6 := congrArg (fun l => l[0]?) e1
  simp only [c1, Nat.mul_one, List.getElem?_take, List.getElem?_drop] at h6
  simpa [hk] using h6

theorem reads (os : Os) {H : Type} (enc : TypeId × Value → H) : ∃ places, DataW.whole enc Tryd.prog ((World.doorLaid Tryd.prog 400 os).forCall (fun _ _ => 0) ⟨#[], #[.slice none 0 0, .slice none 0 0, .slice none 0 0], []⟩).memory Tryd.f4.params.toList Rows.topDemandedSpec.vars false #[Value.slice none 0 0, Value.slice none 0 0, Value.slice none 0 0].toList 8 = some ([.nil, .nil, .nil], [], places) :=
  ⟨[], by kernel_rfl⟩
set_option maxRecDepth 100000 in
theorem lifted (os : Os) (started : os.Started) (H : Type) (enc : TypeId × Value → H) (F : Stop.Interp) :
    ReturnsInHanded {} Tryd.checked os 4 .any ((Rows.OpenSpec.upto Rows.topDemandedSpec).preRow enc Tryd.prog Tryd.f4 Rows.topDemandedUptoRow.domain false Rows.topDemandedUptoRow.laid) (((Rows.OpenSpec.upto Rows.topDemandedSpec).at F).post enc Tryd.prog Tryd.f4 false true false false) := by
  obtain ⟨places, hx⟩ := reads os enc
  refine returnsInHanded_of_row (C := Tryd.checked) (s := Rows.OpenSpec.upto Rows.topDemandedSpec) own started (by kernel_rfl) Tryd.func4
    (witness_row_atRef (enc := enc) (C := Tryd.checked) false (World.doorLaid Tryd.prog 400 os) #[.slice none 0 0, .slice none 0 0, .slice none 0 0] rfl (by kernel_rfl) (by kernel_rfl) (by kernel_rfl)
      (OpenSpec.preRow_of_cond 8 hx (by kernel_rfl) (fun k hk => by cases hk; kernel_rfl) (by kernel_rfl) (door_met os _))) ?_
  intro W base args ds gs before hval0 hW _ hcond hsz hL _ _
  have hval : ∀ (j : Nat) t v, Tryd.f4.params[j]? = some t → args[j]? = some v → Value.okWide Tryd.prog W .any base t v := hval0
  have hk := hcond _ rfl
  have hW' := hW
  obtain ⟨p, q, hA0, hV, rfl, hfz, hnd⟩ := hW
  have hA : DataW.TrodAll enc Tryd.prog W 0 (fun _ => true) true Tryd.f4.params.toList args.toList ds p := hA0
  rw [Tryd.params4] at hA hval
  obtain ⟨v0, vs0, d0, ds0, p0, q0, hargs, rfl, rfl, h0, r0⟩ := trodAll_cons hA
  obtain ⟨v1, vs1, d1, ds1, p1, q1, rfl, rfl, rfl, h1, r1⟩ := trodAll_cons r0
  obtain ⟨v2, vs2, d2, ds2, p2, q2, rfl, rfl, rfl, h2, r2⟩ := trodAll_cons r1
  obtain ⟨rfl, rfl, rfl⟩ := trodAll_nil r2
  obtain rfl : args = #[v0, v1, v2] := by cases args; simp_all
  obtain ⟨rfl, rfl⟩ := trodVars_none hV
  have hk1 : Rows.uptoBulkAll _ ≤ 1048576 := of_decide_eq_true hk
  simp only [List.append_nil, Rows.uptoBulkAll] at hk1
  have k0 := h0
  have lt0 : ∀ x ∈ p0, x.block < W.heap.size := by obtain ⟨m, hm⟩ := k0; exact DataW.trod_lt m _ _ _ hm
  obtain ⟨a0, n0, c0, rfl, r0⟩ := Vg.rows_of_fit (K := [.i64, .i64, .i64, .i64]) (by decide) (Vg.open_rows (n := 8) Tryd.underlying52 (by kernel_rfl) (hval 0 52 v0 rfl rfl) h0)
  obtain ⟨D0, r0⟩ : ∃ D, Vg.intRows W [.i64, .i64, .i64, .i64] a0 n0 c0 D := ⟨_, r0⟩
  have ri0 := r0
  have k1 := h1
  have lt1 : ∀ x ∈ p1, x.block < W.heap.size := by obtain ⟨m, hm⟩ := k1; exact DataW.trod_lt m _ _ _ hm
  obtain ⟨a1, n1, c1, rfl, r1⟩ := Vg.rows_of_fit (K := [.i64, .i64, .i64, .i64]) (by decide) (Vg.open_rows (n := 8) Tryd.underlying22 (by kernel_rfl) (hval 1 22 v1 rfl rfl) h1)
  obtain ⟨D1, r1⟩ : ∃ D, Vg.intRows W [.i64, .i64, .i64, .i64] a1 n1 c1 D := ⟨_, r1⟩
  have ri1 := r1
  have k2 := h2
  have lt2 : ∀ x ∈ p2, x.block < W.heap.size := by obtain ⟨m, hm⟩ := k2; exact DataW.trod_lt m _ _ _ hm
  obtain ⟨a2, n2, c2, rfl, r2⟩ := Vg.rows_of_fit (K := [.u8]) (by decide) (Vg.open_rows (n := 8) Tryd.underlying53 (by kernel_rfl) (hval 2 53 v2 rfl rfl) h2)
  obtain ⟨D2, r2⟩ : ∃ D, Vg.intRows W [.u8] a2 n2 c2 D := ⟨_, r2⟩
  have ri2 := r2
  have nb0 := Vg.len_bulk Tryd.underlying52 k0
  have nb1 := Vg.len_bulk Tryd.underlying22 k1
  clear hA0 hval0
  refine Calls.mono (TopDemanded_walk a0 n0 c0 D0 a1 n1 c1 D1 a2 n2 c2 D2 W ri0 ri1 ri2 (by omega) (by omega) (of_laid hL)) fun e W' ⟨he, bel0⟩ => ?_
  subst he
  have bel : Below W.heap.size W W' := Vg.Grows.below bel0
  exact ⟨_, rfl, _, _, _, [], _, [], hW', trodAll_mk1 (shut_bool Tryd.underlying4 _), (trodAll_cons_mk (Below.trod laidOut (by kernel_rfl) (of_decide_eq_true (by kernel_rfl)) k0 bel lt0) (trodAll_cons_mk (Below.trod laidOut (by kernel_rfl) (of_decide_eq_true (by kernel_rfl)) k1 bel lt1) (trodAll_cons_mk (Below.trod laidOut (by kernel_rfl) (of_decide_eq_true (by kernel_rfl)) k2 bel lt2) trodAll_mk0))), rfl, bel.frame _, fun h => by cases h⟩

theorem over : Rows.TopDemandedUptoSaid :=
  OpenClaim.holds_of_cond 4 Tryd.f4 rfl rfl rfl rfl rfl rfl rfl ⟨rfl, rfl, rfl, rfl, rfl⟩ rfl rfl rfl rfl rfl (by kernel_rfl) Tryd.func4 (by kernel_rfl)
    (of_decide_eq_true (by kernel_rfl)) (by unfold Func.isWrapper; first | (rw [if_pos (by decide +kernel)]; kernel_rfl) | (rw [if_neg (by decide +kernel)]; exact ⟨rfl, rfl⟩))
    (fun os started H enc _ F => by rw [OpenClaim.pre_eq_preRow]; exact lifted os started H enc F)

theorem proved : Rows.TopDemandedUptoCardSaid :=
  Claim7.holds_tied_plain_at .later [] [.data] true (true, "ece4af5d61f97d5623512769f4cf104230996d22c73c6455a4336fbcd3c5cda4") false
    over (fun _ h => by cases h) (by kernel_rfl) (fun _ h => by cases h) topDemandedUpto_row_tie rfl ⟨rfl, rfl⟩ (by kernel_rfl) rfl
    (fun f fn hf hfn => by
      obtain rfl : f = 4 := Option.some.inj ((show Tryd.prog.funcNamed "verge/vergetop.TopDemanded" = some 4 by kernel_rfl).symm.trans hf) |>.symm
      obtain rfl : fn = Tryd.f4 := (Option.some.inj (Tryd.func4.symm.trans hfn)).symm
      exact ⟨by kernel_rfl, fun j t ht => by
        rw [Tryd.params4] at ht
        have hm : t ∈ [52, 22, 53] := by simpa using Array.mem_of_getElem? ht
        have hall : ([52, 22, 53].all fun u => !Tryd.prog.wantsStandIn u) = true := by kernel_rfl
        exact (show Tryd.prog.wantsStandIn t = false by simpa using List.all_eq_true.1 hall t hm)⟩)
    (by kernel_rfl)
#print axioms proved
end Go.Proofs.YtekjnagojphmkaaDoor.topDemanded
