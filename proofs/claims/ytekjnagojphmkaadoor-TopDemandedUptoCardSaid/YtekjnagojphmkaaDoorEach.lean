/- Package bits: the iterator Each. -/
import Derived.Test.YtekjnagojphmkaaDoorBits
import Derived.Test.YtekjnagojphmkaaDoorKept
set_option linter.unusedSimpArgs false
set_option linter.unusedVariables false
set_option maxHeartbeats 4000000
set_option maxRecDepth 100000
namespace Vg
open Go
theorem Tab.kept {w w' : World} {S : Nat → Prop} (h : Tab w) (hk : Kept S w w') (h0 : S 0) : Tab w' := fun j hj =>
  (World.cell?_of_block (w := w) (hk.block 0 h0)).trans (h j hj)
abbrev Bit (b : Nat) := { i : Nat // b.testBit i = true }
/-- The numbers of b below k, rising, each with what it is. -/
def blS (b : Nat) : Nat → List (Bit b)
  | 0 => []
  | k + 1 => if h : b.testBit k = true then blS b k ++ [⟨k, h⟩] else blS b k
theorem blS_map (b : Nat) : ∀ k, (blS b k).map (·.1) = blK b k
  | 0 => rfl
  | k + 1 => by
    rw [blS, blK_succ]
    by_cases h : b.testBit k = true
    · rw [dif_pos h, if_pos h, List.map_append, blS_map b k]; rfl
    · rw [dif_neg h, if_neg h, blS_map b k]
theorem blS_skip {b k : Nat} : ∀ {n : Nat}, (∀ j, k ≤ j → j < k + n → b.testBit j = false) → blS b (k + n) = blS b k
  | 0, _ => rfl
  | n + 1, h => by
    rw [← Nat.add_assoc, blS, dif_neg (by rw [h (k + n) (by omega) (by omega)]; simp)]
    exact blS_skip fun j h1 h2 => h j h1 (by omega)
theorem blS_to {b k t : Nat} (hk : k ≤ t) (h : ∀ j, k ≤ j → j < t → b.testBit j = false) : blS b t = blS b k := by
  obtain ⟨n, rfl⟩ : ∃ n, t = k + n := ⟨t - k, by omega⟩
  exact blS_skip h
theorem blS_next {b k t : Nat} (hk : k ≤ t) (h : ∀ j, k ≤ j → j < t → b.testBit j = false) (ht : b.testBit t = true) : blS b (t + 1) = blS b k ++ [⟨t, ht⟩] := by
  rw [blS, dif_pos ht, blS_to hk h]
theorem blS_len (b k : Nat) : (blS b k).length ≤ k := by
  have := congrArg List.length (blS_map b k)
  rw [List.length_map] at this
  rw [this]
  exact blK_len b k
end Vg
namespace Go.Proofs.YtekjnagojphmkaaDoor
open Go.ChangeShapes Go.WideShapes Go.ChangeAt Go.RowKit Go.Shelf
attribute [local go_sem] Oper.semAt_some
abbrev u64C (b : Nat) : Obj := .cells #[.int .u64 b] 75
theorem bits_each (b : Nat) (w : World) :
    Calls Tryd.prog 31 #[.int .u64 b] w fun e w' => e = .returned (.func (.func 67) #[] #[.pointer (some ⟨w.heap.size, 0, none⟩)]) ∧ w' = w.alloc (u64C b) := by
  go_enter Tryd.func31, Tryd.ntmps31
  go_wp2
  go_ret
  exact ⟨rfl, rfl⟩
theorem each_stops (k : Nat) (hk : 1 ≤ k) (S : Nat → Prop) (B1 b : Nat) (hb : b < 18446744073709551616) (w : World) (hS0 : S 0) (hS1 : S B1) (hlt : ∀ k, S k → k < w.heap.size)
    (hc1 : Vg.blk w B1 = some (u64C b)) (hT : Vg.Tab w) :
    SeqStopsK Fence.wide k Tryd.prog 67 #[.pointer (some ⟨B1, 0, none⟩)] (fun i : Vg.Bit b => #[.int .i64 (i.1 : Nat)]) (Vg.Kept S) (fun ys => ys = Vg.blS b 64) (fun _ => True) 64 w := fun l J Jx W hW hJ hJx hY hJ0 => by
  have kW : Vg.Kept S w W := Vg.Kept.of_below hW hlt
  have D1 := Lib.hid (kW.blk hc1 hS1)
  have DT := Lib.hid (hT.kept kW hS0)
  have e1 := Vg.cells_of D1.out 0
  simp at e1
  refine callsIn_of_wp Tryd.func67 rfl trivial ?_ rfl
  simp only [Tryd.ntmps67, List.size_toArray, List.length_cons, List.length_nil, Nat.reduceAdd, Nat.reduceSub, Array.replicate_succ, Array.replicate_zero, List.push_toArray, List.append_toArray, List.nil_append, List.cons_append]
  gi_wp2
  gi_loopw [3] (fun c wr => ∃ j c' : Nat, c = .int .u64 c' ∧ j ≤ 64 ∧ Vg.FromB b j c' ∧ J (Vg.blS b j) wr ∧ Vg.Kept S W wr) (fun c _ => (intOf c).toNat)
  case atStart => exact ⟨0, b, rfl, by omega, Vg.FromB.start b, hJ0, Vg.Kept.refl _ _⟩
  case round =>
    obtain ⟨j, c, rfl, hj, hF, hJj, hkp⟩ := hrel
    have hc := hF.lt hb
    by_cases h0 : c = 0
    · subst h0
      have hJe : J (Vg.blS b 64) wr := by
        rw [Vg.blS_to hj fun i h1 _ => hF.done i h1]
        exact hJj
      clear hF hJj
      gi_wp2
      go_end0
      exact ⟨⟨_, rfl⟩, .inl ⟨_, rfl, hJe⟩⟩
    · obtain ⟨ht, hjt, htb, hbt, hF2⟩ := hF.next (by omega) hc
      have hol := Vg.blS_len b j
      have hT2 := DT.out.kept hkp hS0
      have hc0 : ((c : Int) == 0) = false := by simp; exact h0
      have e1 : IntKind.u64.wrap ((c : Int) - 1) = ((c - 1 : Nat) : Int) := by rw [IntKind.wrap_u64]; omega
      have key : bits .and .u64 (c : Int) ((c - 1 : Nat) : Int) = ((c &&& (c - 1) : Nat) : Int) := u64_and_nat _ _ hc (by omega)
      have hlt2 : c &&& (c - 1) < c := by have : c &&& (c - 1) ≤ c - 1 := Nat.and_le_right; omega
      obtain ⟨t, hct⟩ : ∃ t, Lib.ctz 64 c = t := ⟨_, rfl⟩
      rw [hct] at ht hjt htb hbt hF2
      have hsn := Vg.blS_next hjt hbt htb
      obtain ⟨fn, tmps, assign, body, hy1, hR⟩ := hY (Vg.blS b j) ⟨t, htb⟩ wr hJj (by omega)
      rw [← hsn] at hR
      have H_hF := Lib.hid hF; clear hF; have H_hF2 := Lib.hid hF2; clear hF2; have H_hsn := Lib.hid hsn; clear hsn; have H_hol := Lib.hid hol; clear hol; have H_hT2 := Lib.hid hT2; clear hT2; have H_hbt := Lib.hid hbt; clear hbt
      gi_wp2_with (refine ⟨trivial, ?_⟩; gi_at_call 68; refine (callsIn_wide.2 (ctz64 c _ (by omega) hc H_hT2.out)).mono ?_; rintro e w1 ⟨rfl, rfl⟩; rw [hct])
      refine hR.mono ?_
      rintro e W3 (⟨rfl, hJ3, hk3⟩ | ⟨rfl, hJx3⟩)
      · gi_wp2
        go_roundw
        case rel => exact ⟨t + 1, c &&& (c - 1), by first | rfl | simp only [e1, key], by omega, H_hF2.out, hJ3, hkp.trans hk3⟩
        case measure => first | (simp [intOf]; omega) | (simp only [e1, key]; simp [intOf]; omega)
      · gi_wp2
        refine bodyPost_ret (results_none rfl _ _ _) rfl ?_
        exact ⟨⟨_, rfl⟩, .inr ⟨_, trivial, hJx3⟩⟩
end Go.Proofs.YtekjnagojphmkaaDoor
