/- The laws of layer 1: lives, and the five walks: each law returns true and leaves the world as it was. -/
import Derived.Test.YtmbddmmjhmjpdaaWrap
namespace Go.Proofs.Ytmbddmmjhmjpdaa
open Go.ChangeShapes Go.WideShapes Go.ChangeAt Go.RowKit

theorem lives01 (w : World) : Calls Try.prog 14 #[] w fun e w' => e = .returned (.bool true) ∧ w = w' := by
  have e1 : Vg.extend 5 4 = (4294967300, 0) := by decide
  have e2 : Vg.near 5 4 = (4, 0) := by decide
  have e3 : Vg.extend (-1) 4 = (0, 1) := by decide
  have e4 : Vg.near 2 4294967290 = (0, 3) := by decide
  have e5 : Vg.extend 4503599627370496 1 = (0, 6) := by decide
  have e6 : Vg.low 4294967301 = 5 := by decide
  have e7 : Vg.diff 1 4294967295 = 2 := by decide
  have e8 : Vg.afterB 1 4294967295 = true := by decide
  have e9 : Vg.afterB 4 4 = false := by decide
  go_enter Try.func14, Try.ntmps14
  go_wp2_with (first | (go_at_call 21; refine (extend_any _ _ _).mono ?_; rintro e w' ⟨rfl, rfl⟩) | (go_at_call 23; refine (near_any _ _ _).mono ?_; rintro e w' ⟨rfl, rfl⟩) | (go_at_call 15; refine (low_any _ _).mono ?_; rintro e w' ⟨rfl, rfl⟩) | (go_at_call 17; refine (diff_any _ _ _).mono ?_; rintro e w' ⟨rfl, rfl⟩) | (go_at_call 19; refine (after_any _ _ _).mono ?_; rintro e w' ⟨rfl, rfl⟩))
  go_ret
  exact ⟨rfl, rfl⟩

theorem WrapCounts_walk (t a b : Int) (w : World) (ha : 0 ≤ a) (ha' : a ≤ 4294967295) (hb : 0 ≤ b) (hb' : b ≤ 4294967295) : Calls Try.prog 3 #[.int .i64 t, .int .u32 a, .int .u32 b] w fun e w' => e = .returned (.bool true) ∧ w = w' := by
  go_enter Try.func3, Try.ntmps3
  go_wp2_with (first | (go_at_call 14; refine (lives01 _).mono ?_; rintro e w' ⟨rfl, rfl⟩) | (go_at_call 15; refine (low_any _ _).mono ?_; rintro e w' ⟨rfl, rfl⟩) | (go_at_call 16; refine (reflow_any _ _).mono ?_; rintro e w' ⟨rfl, rfl⟩) | (go_at_call 17; refine (diff_any _ _ _).mono ?_; rintro e w' ⟨rfl, rfl⟩) | (go_at_call 18; refine (refdiff_any _ _ _ (by omega) (by omega) (by omega) (by omega)).mono ?_; rintro e w' ⟨rfl, rfl⟩) | (go_at_call 19; refine (after_any _ _ _).mono ?_; rintro e w' ⟨rfl, rfl⟩) | (go_at_call 20; refine (refafter_any _ _ _ (by omega) (by omega) (by omega) (by omega)).mono ?_; rintro e w' ⟨rfl, rfl⟩))
  go_ret
  exact ⟨rfl, rfl⟩

theorem WrapTimes_walk (last lo : Int) (w : World) (ha : 0 ≤ lo) (ha' : lo ≤ 4294967295) : Calls Try.prog 4 #[.int .i64 last, .int .u32 lo] w fun e w' => e = .returned (.bool true) ∧ w = w' := by
  go_enter Try.func4, Try.ntmps4
  go_wp2_with (first | (go_at_call 14; refine (lives01 _).mono ?_; rintro e w' ⟨rfl, rfl⟩) | (go_at_call 21; refine (extend_any _ _ _).mono ?_; rintro e w' ⟨rfl, rfl⟩) | (go_at_call 22; refine (refextend_any _ _ _ (by omega) (by omega)).mono ?_; rintro e w' ⟨rfl, rfl⟩) | (go_at_call 23; refine (near_any _ _ _).mono ?_; rintro e w' ⟨rfl, rfl⟩) | (go_at_call 24; refine (refnear_any _ _ _ (by omega) (by omega)).mono ?_; rintro e w' ⟨rfl, rfl⟩))
  go_ret
  exact ⟨rfl, rfl⟩

theorem WrapBack_walk (last b : Int) (w : World) (ha : 0 ≤ b) (ha' : b ≤ 4294967295) : Calls Try.prog 5 #[.int .i64 last, .int .u32 b] w fun e w' => e = .returned (.bool true) ∧ w = w' := by
  by_cases h : 0 ≤ last ∧ last ≤ 2251799813685248
  · obtain ⟨h1, h2⟩ := h
    have e1 : Vg.extend last (Vg.low (last + b)) = (last + b, 0) := by
      unfold Vg.extend Vg.low
      rw [Vg.timeB_true.2 (by omega)]
      rw [show last + ((last + b) % 4294967296 - last % 4294967296) % 4294967296 = last + b from by omega, Vg.timeB_true.2 (by omega)]
      rfl
    by_cases hb : b < 2147483648
    · have e2 : Vg.near last (Vg.low (last + b)) = (last + b, 0) := Vg.near_ok (by unfold Vg.low; omega) (by omega) (by omega) h1 (by omega) (by omega) (by omega)
      have e3 : Vg.near (last + b) (Vg.low last) = (last, 0) := by
        rw [Vg.near_ok (d := -b) (by unfold Vg.low; omega) (by omega) (by omega) (by omega) (by omega) (by omega) (by omega)]
        congr 1; omega
      go_enter Try.func5, Try.ntmps5
      go_wp2_with (first | (go_at_call 14; refine (lives01 _).mono ?_; rintro e w' ⟨rfl, rfl⟩) | (go_at_call 21; refine (extend_any _ _ _).mono ?_; rintro e w' ⟨rfl, rfl⟩) | (go_at_call 23; refine (near_any _ _ _).mono ?_; rintro e w' ⟨rfl, rfl⟩) | (go_at_call 15; refine (low_any _ _).mono ?_; rintro e w' ⟨rfl, rfl⟩))
      go_ret
      exact ⟨rfl, rfl⟩
    · go_enter Try.func5, Try.ntmps5
      go_wp2_with (first | (go_at_call 14; refine (lives01 _).mono ?_; rintro e w' ⟨rfl, rfl⟩) | (go_at_call 21; refine (extend_any _ _ _).mono ?_; rintro e w' ⟨rfl, rfl⟩) | (go_at_call 23; refine (near_any _ _ _).mono ?_; rintro e w' ⟨rfl, rfl⟩) | (go_at_call 15; refine (low_any _ _).mono ?_; rintro e w' ⟨rfl, rfl⟩))
      go_ret
      exact ⟨rfl, rfl⟩
  · by_cases h1 : last < 0
    · go_enter Try.func5, Try.ntmps5
      go_wp2_with (first | (go_at_call 14; refine (lives01 _).mono ?_; rintro e w' ⟨rfl, rfl⟩))
      go_ret
      exact ⟨rfl, rfl⟩
    · have h2 : 2251799813685248 < last := by omega
      go_enter Try.func5, Try.ntmps5
      go_wp2_with (first | (go_at_call 14; refine (lives01 _).mono ?_; rintro e w' ⟨rfl, rfl⟩))
      go_ret
      exact ⟨rfl, rfl⟩

theorem WrapTurns_walk (a b : Int) (w : World) (ha : 0 ≤ a) (ha' : a ≤ 4294967295) (hb : 0 ≤ b) (hb' : b ≤ 4294967295) : Calls Try.prog 6 #[.int .u32 a, .int .u32 b] w fun e w' => e = .returned (.bool true) ∧ w = w' := by
  have e2 : Vg.afterB ((a + b) % 4294967296) a = (decide (0 < b) && decide (b < 2147483648)) := by
    unfold Vg.afterB Vg.diff
    rw [← Bool.decide_and, decide_eq_decide]
    split <;> omega
  by_cases h : (a - b) % 4294967296 = 2147483648
  · have d1 : Vg.diff a b = -2147483648 := by unfold Vg.diff; split <;> omega
    have d2 : Vg.diff b a = -2147483648 := by unfold Vg.diff; split <;> omega
    have e1 : Vg.low (b + -2147483648) = a := by unfold Vg.low; omega
    by_cases hb0 : 0 < b
    · go_enter Try.func6, Try.ntmps6
      go_wp2_with (first | (go_at_call 14; refine (lives01 _).mono ?_; rintro e w' ⟨rfl, rfl⟩) | (go_at_call 17; refine (diff_any _ _ _).mono ?_; rintro e w' ⟨rfl, rfl⟩) | (go_at_call 15; refine (low_any _ _).mono ?_; rintro e w' ⟨rfl, rfl⟩) | (go_at_call 19; refine (after_any _ _ _).mono ?_; rintro e w' ⟨rfl, rfl⟩))
      go_ret
      exact ⟨rfl, rfl⟩
    · have e3 : Vg.afterB (a + b) a = false := by unfold Vg.afterB Vg.diff; rw [decide_eq_false_iff_not]; split <;> omega
      go_enter Try.func6, Try.ntmps6
      go_wp2_with (first | (go_at_call 14; refine (lives01 _).mono ?_; rintro e w' ⟨rfl, rfl⟩) | (go_at_call 17; refine (diff_any _ _ _).mono ?_; rintro e w' ⟨rfl, rfl⟩) | (go_at_call 15; refine (low_any _ _).mono ?_; rintro e w' ⟨rfl, rfl⟩) | (go_at_call 19; refine (after_any _ _ _).mono ?_; rintro e w' ⟨rfl, rfl⟩))
      go_ret
      exact ⟨rfl, rfl⟩
  · have hh : ((a - b) % 4294967296 == 2147483648) = false := by simpa using h
    obtain ⟨d, hd⟩ : ∃ d, Vg.diff b a = d := ⟨_, rfl⟩
    have d2 : Vg.diff a b = -d := by rw [← hd]; unfold Vg.diff; split <;> split <;> omega
    have e1 : Vg.low (b + -d) = a := by rw [← hd]; unfold Vg.low Vg.diff; split <;> omega
    have hd0 := Vg.diff_bd b a
    rw [hd] at hd0
    by_cases hb0 : 0 < b
    · go_enter Try.func6, Try.ntmps6
      go_wp2_with (first | (go_at_call 14; refine (lives01 _).mono ?_; rintro e w' ⟨rfl, rfl⟩) | (go_at_call 17; refine (diff_any _ _ _).mono ?_; rintro e w' ⟨rfl, rfl⟩) | (go_at_call 15; refine (low_any _ _).mono ?_; rintro e w' ⟨rfl, rfl⟩) | (go_at_call 19; refine (after_any _ _ _).mono ?_; rintro e w' ⟨rfl, rfl⟩))
      go_ret
      exact ⟨rfl, rfl⟩
    · have e3 : Vg.afterB (a + b) a = false := by unfold Vg.afterB Vg.diff; rw [decide_eq_false_iff_not]; split <;> omega
      go_enter Try.func6, Try.ntmps6
      go_wp2_with (first | (go_at_call 14; refine (lives01 _).mono ?_; rintro e w' ⟨rfl, rfl⟩) | (go_at_call 17; refine (diff_any _ _ _).mono ?_; rintro e w' ⟨rfl, rfl⟩) | (go_at_call 15; refine (low_any _ _).mono ?_; rintro e w' ⟨rfl, rfl⟩) | (go_at_call 19; refine (after_any _ _ _).mono ?_; rintro e w' ⟨rfl, rfl⟩))
      go_ret
      exact ⟨rfl, rfl⟩

theorem WrapLeast_walk (last lo : Int) (w : World) (ha : 0 ≤ lo) (ha' : lo ≤ 4294967295) : Calls Try.prog 7 #[.int .i64 last, .int .u32 lo] w fun e w' => e = .returned (.bool true) ∧ w = w' := by
  by_cases h : Vg.timeB last = true ∧ Vg.timeB (last + (lo - Vg.low last) % 4294967296) = true
  · obtain ⟨h1, h2⟩ := h
    have g1 := Vg.timeB_true.1 h1
    have g2 := Vg.timeB_true.1 h2
    have e1 : Vg.extend last lo = (last + (lo - Vg.low last) % 4294967296, 0) := by unfold Vg.extend; rw [h1, h2]; rfl
    obtain ⟨t, ht⟩ : ∃ t, last + (lo - Vg.low last) % 4294967296 = t := ⟨_, rfl⟩
    rw [ht] at e1 g2 h2
    have e2 : Vg.low t = lo := by rw [← ht]; unfold Vg.low; omega
    have e3 : Vg.extend t lo = (t, 0) := by unfold Vg.extend; rw [e2, h2]; simp [h2]
    have l1 : last ≤ t := by omega
    have l2 : t - last < 4294967296 := by omega
    clear ht
    go_enter Try.func7, Try.ntmps7
    go_wp2_with (first | (go_at_call 14; refine (lives01 _).mono ?_; rintro e w' ⟨rfl, rfl⟩) | (go_at_call 21; refine (extend_any _ _ _).mono ?_; rintro e w' ⟨rfl, rfl⟩) | (go_at_call 15; refine (low_any _ _).mono ?_; rintro e w' ⟨rfl, rfl⟩))
    go_ret
    exact ⟨rfl, rfl⟩
  · have e0 : (Vg.extend last lo).1 = 0 ∧ ((Vg.extend last lo).2 == 0) = false := by
      unfold Vg.extend
      split
      · simp
      · split
        · simp
        · simp_all
    obtain ⟨e1, e2⟩ := e0
    clear h
    have e3 : ((Vg.extend last lo).2 != 0) = true := by rw [bne, e2]; rfl
    go_enter Try.func7, Try.ntmps7
    go_wp2_with (first | (go_at_call 14; refine (lives01 _).mono ?_; rintro e w' ⟨rfl, rfl⟩) | (go_at_call 21; refine (extend_any _ _ _).mono ?_; rintro e w' ⟨rfl, rfl⟩) | (go_at_call 15; refine (low_any _ _).mono ?_; rintro e w' ⟨rfl, rfl⟩))
    go_ret
    exact ⟨rfl, rfl⟩
end Go.Proofs.Ytmbddmmjhmjpdaa
