/- The plain acts of law 15. -/
import Derived.Test.YtlgkcpgmnpoanaaServerA
set_option linter.unusedSimpArgs false
set_option linter.unusedVariables false
set_option maxHeartbeats 400000
set_option maxRecDepth 20000
namespace Go.Proofs.Ytlgkcpgmnpoanaa
open Go.ChangeShapes Go.WideShapes Go.ChangeAt Go.RowKit
theorem by15 (t n : Int) (w : World) (ht : 0 ≤ t ∧ t ≤ 4503599627370496) (hn : -9223372036854775808 ≤ n ∧ n ≤ 9223372036854775807) :
    Calls Try.prog 66 #[.int .i64 t, .int .i64 n] w fun e w' => e = .returned (.int .i64 (Vg.byt t n)) ∧ w = w' := by
  by_cases h1 : n < 0
  · go_enter Try.func66, Try.ntmps66
    go_wp2
    go_ret
    exact ⟨ret_int (by unfold Vg.byt; rw [if_pos (.inl h1)]), rfl⟩
  · by_cases h2 : 4503599627370496 - t < n
    · go_enter Try.func66, Try.ntmps66
      go_wp2
      go_ret
      exact ⟨ret_int (by unfold Vg.byt; rw [if_pos (.inr h2)]), rfl⟩
    · go_enter Try.func66, Try.ntmps66
      go_wp2
      go_ret
      exact ⟨ret_int (by unfold Vg.byt; rw [if_neg (by omega)]), rfl⟩
set_option maxHeartbeats 4000000 in
theorem plain15 (k n at_ last : Int) (w : World) (hl : 0 ≤ last ∧ last ≤ 4503599627370496) (hn : -9223372036854775808 ≤ n ∧ n ≤ 9223372036854775807) (ha : -9223372036854775808 ≤ at_ ∧ at_ ≤ 9223372036854775807) :
    Calls Try.prog 29 #[.agg #[.int .i64 k, .int .i64 n, .int .i64 at_], .int .i64 last] w fun e w' => e = .returned (.agg #[.int .i64 (Vg.effs last (k, n, at_)).1, .int .i64 (Vg.effs last (k, n, at_)).2.1, .int .i64 (Vg.effs last (k, n, at_)).2.2]) ∧ Vg.Grows w w' := by
  by_cases h2 : k = 2
  · subst h2
    have he : Vg.effs last (2, n, at_) = (0, n, Vg.byt (max (Vg.byt last at_) 0) n) := rfl
    rw [he]
    have hb := Vg.byt_bd (n := at_) hl
    obtain ⟨t1, ht1⟩ : ∃ t1, Vg.byt last at_ = t1 := ⟨_, rfl⟩
    rw [ht1] at hb ⊢
    have HT := Lib.hid ht1
    clear ht1 he
    by_cases hp : 0 ≤ t1
    · rw [show max t1 0 = t1 by omega]
      have hm0 : 0 ≤ t1 ∧ t1 ≤ 4503599627370496 := by omega
      go_enter Try.func29, Try.ntmps29
      go_wp2_with fail
      go_region_with (first | ((with_reducible refine (by15 last at_ _ hl ha).mono ?_); rintro e w1 ⟨rfl, rfl⟩; rw [HT.out]) | ((with_reducible refine (by15 t1 n _ hm0 hn).mono ?_); rintro e w1 ⟨rfl, rfl⟩))
      all_goals go_wp2
      all_goals go_returns
      all_goals exact ⟨rfl, by (repeat' (first | (with_reducible exact Vg.Grows.refl _) | (with_reducible assumption) | (with_reducible refine Vg.Grows.alloc ?_ _) | (with_reducible refine Vg.Grows.plus ?_ _ _) | (with_reducible refine Vg.Grows.drewN ?_ _) | (with_reducible refine Vg.Grows.drew ?_) | (with_reducible refine Vg.Grows.setCell ?_ ?_ _) | (with_reducible refine Vg.Grows.put ?_ ?_ _) | omega | (simp; omega) | (simp; done)))⟩
    · rw [show max t1 0 = 0 by omega]
      have hm0 : (0 : Int) ≤ 0 ∧ (0 : Int) ≤ 4503599627370496 := by omega
      go_enter Try.func29, Try.ntmps29
      go_wp2_with fail
      go_region_with (first | ((with_reducible refine (by15 last at_ _ hl ha).mono ?_); rintro e w1 ⟨rfl, rfl⟩; rw [HT.out]) | ((with_reducible refine (by15 0 n _ hm0 hn).mono ?_); rintro e w1 ⟨rfl, rfl⟩))
      all_goals go_wp2
      all_goals go_returns
      all_goals exact ⟨rfl, by (repeat' (first | (with_reducible exact Vg.Grows.refl _) | (with_reducible assumption) | (with_reducible refine Vg.Grows.alloc ?_ _) | (with_reducible refine Vg.Grows.plus ?_ _ _) | (with_reducible refine Vg.Grows.drewN ?_ _) | (with_reducible refine Vg.Grows.drew ?_) | (with_reducible refine Vg.Grows.setCell ?_ ?_ _) | (with_reducible refine Vg.Grows.put ?_ ?_ _) | omega | (simp; omega) | (simp; done)))⟩
  by_cases h3 : k = 3
  · subst h3
    have he : Vg.effs last (3, n, at_) = (1, n, Vg.byt last at_) := rfl
    rw [he]
    clear he h2
    go_enter Try.func29, Try.ntmps29
    go_wp2_with (go_at_call 66; refine (by15 _ _ _ hl ha).mono ?_; rintro e w1 ⟨rfl, rfl⟩)
    go_returns
    exact ⟨rfl, by (repeat' (first | (with_reducible exact Vg.Grows.refl _) | (with_reducible assumption) | (with_reducible refine Vg.Grows.alloc ?_ _) | (with_reducible refine Vg.Grows.plus ?_ _ _) | (with_reducible refine Vg.Grows.drewN ?_ _) | (with_reducible refine Vg.Grows.drew ?_) | (with_reducible refine Vg.Grows.setCell ?_ ?_ _) | (with_reducible refine Vg.Grows.put ?_ ?_ _) | omega | (simp; omega) | (simp; done)))⟩
  · have he : Vg.effs last (k, n, at_) = (k, n, at_) := by unfold Vg.effs; simp [h2, h3]
    have hb2 : (k == 2) = false := by simp [h2]
    have hb3 : (k == 3) = false := by simp [h3]
    rw [he]
    clear he h2 h3
    go_enter Try.func29, Try.ntmps29
    go_wp2
    go_returns
    exact ⟨rfl, by (repeat' (first | (with_reducible exact Vg.Grows.refl _) | (with_reducible assumption) | (with_reducible refine Vg.Grows.alloc ?_ _) | (with_reducible refine Vg.Grows.plus ?_ _ _) | (with_reducible refine Vg.Grows.drewN ?_ _) | (with_reducible refine Vg.Grows.drew ?_) | (with_reducible refine Vg.Grows.setCell ?_ ?_ _) | (with_reducible refine Vg.Grows.put ?_ ?_ _) | omega | (simp; omega) | (simp; done)))⟩
end Go.Proofs.Ytlgkcpgmnpoanaa
