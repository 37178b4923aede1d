/- ClockGoes, ClockMatches: the walks. -/
import Derived.Test.YtfkkkcihoejjgaaRing
set_option linter.unusedSimpArgs false
set_option linter.unusedVariables false
set_option maxHeartbeats 2000000
set_option maxRecDepth 100000
namespace Go.Proofs.Ytfkkkcihoejjgaa
open Go.ChangeShapes Go.WideShapes Go.ChangeAt Go.RowKit Go.Shelf
theorem ClockMatches_walk (c n : Int) (ar la : Bool) (last at_ m : Int) (w : World) (hc : 0 ≤ c ∧ c ≤ 4294967295) (hn : 0 ≤ n ∧ n ≤ 4294967295) (ha0 : 0 ≤ at_) (ha1 : at_ ≤ 4294967295) (hm0 : -9223372036854775808 ≤ m) (hm1 : m ≤ 9223372036854775807) :
    Calls Try.prog 11 #[ckV c n ar la last, .int .u32 at_, .int .i64 m] w fun e w' => e = .returned (.bool true) ∧ Vg.Grows w w' := by
  by_cases g1 : m < 0
  · go_enter Try.func11, Try.ntmps11
    go_wp2_with ((go_at_call 26; (with_reducible refine (lives03 _).mono ?_); rintro e w1 ⟨rfl, x1, n1, rfl⟩))
    go_ret
    exact ⟨rfl, by (repeat' (first | (with_reducible exact Vg.Grows.refl _) | (with_reducible assumption) | (with_reducible refine Vg.Grows.alloc ?_ _) | (with_reducible refine Vg.Grows.plus ?_ _ _) | (with_reducible refine Vg.Grows.drewN ?_ _) | (with_reducible refine Vg.Grows.drew ?_) | (with_reducible refine Vg.Grows.setCell ?_ ?_ _) | (with_reducible refine Vg.Grows.put ?_ ?_ _) | omega | (simp; omega) | (simp; done)))⟩
  by_cases g2 : 68719476736 < m
  · go_enter Try.func11, Try.ntmps11
    go_wp2_with ((go_at_call 26; (with_reducible refine (lives03 _).mono ?_); rintro e w1 ⟨rfl, x1, n1, rfl⟩))
    go_ret
    exact ⟨rfl, by (repeat' (first | (with_reducible exact Vg.Grows.refl _) | (with_reducible assumption) | (with_reducible refine Vg.Grows.alloc ?_ _) | (with_reducible refine Vg.Grows.plus ?_ _ _) | (with_reducible refine Vg.Grows.drewN ?_ _) | (with_reducible refine Vg.Grows.drew ?_) | (with_reducible refine Vg.Grows.setCell ?_ ?_ _) | (with_reducible refine Vg.Grows.put ?_ ?_ _) | omega | (simp; omega) | (simp; done)))⟩
  obtain ⟨l, hl⟩ : ∃ l, Vg.left ⟨c, at_, true, false⟩ = l := ⟨_, rfl⟩
  have hl2 : Vg.ahead ⟨c, at_, true, false⟩ + 1 = l := hl
  obtain ⟨⟨t, no⟩, hx⟩ : ∃ p, Vg.ckNow c last = p := ⟨_, rfl⟩
  by_cases h : no = 0
  · subst h
    by_cases hov : 4503599627370496 - t < m
    · have hs := Vg.ckStep_over (k := ⟨c, at_, true, false, last⟩) (m := m) hx (by omega) hov
      have H_hl := Lib.hid hl; clear hl; have H_hl2 := Lib.hid hl2; clear hl2; have H_hx := Lib.hid hx; clear hx; have H_hs := Lib.hid hs; clear hs
      go_enter Try.func11, Try.ntmps11
      go_wp2_with (first | (go_at_call 26; (with_reducible refine (lives03 _).mono ?_); rintro e w1 ⟨rfl, x1, n1, rfl⟩) | (go_at_call 34; (with_reducible refine (hw_arm _ _ _ _ _ _).mono ?_); rintro e w1 ⟨rfl, x2, n2, rfl⟩) | (go_at_call 35; (with_reducible refine (hw_left _ _ _ _ _).mono ?_); rintro e w1 ⟨rfl, x3, n3, rfl⟩; rw [H_hl.out]) | (go_at_call 18; (with_reducible refine (clock_step' H_hs.out _ hc).mono ?_); rintro e w1 ⟨rfl, x4, n4, rfl⟩))
      go_ret
      exact ⟨rfl, by (repeat' (first | (with_reducible exact Vg.Grows.refl _) | (with_reducible assumption) | (with_reducible refine Vg.Grows.alloc ?_ _) | (with_reducible refine Vg.Grows.plus ?_ _ _) | (with_reducible refine Vg.Grows.drewN ?_ _) | (with_reducible refine Vg.Grows.drew ?_) | (with_reducible refine Vg.Grows.setCell ?_ ?_ _) | (with_reducible refine Vg.Grows.put ?_ ?_ _) | omega | (simp; omega) | (simp; done)))⟩
    · have hs := Vg.ckStep_ok (k := ⟨c, at_, true, false, last⟩) (m := m) hx (by omega) (by omega)
      unfold Vg.ckOf Vg.go at hs
      simp only [Bool.true_and, Bool.false_or] at hs
      by_cases hh : Vg.ahead ⟨c, at_, true, false⟩ < m
      · rw [decide_eq_true hh] at hs
        have hle : l ≤ m := by omega
        simp only [Bool.not_true] at hs
        obtain ⟨c2, hc2⟩ : ∃ c2, (c + m) % 4294967296 = c2 := ⟨_, rfl⟩
        rw [hc2] at hs
        clear hh
        have H_hl := Lib.hid hl; clear hl; have H_hl2 := Lib.hid hl2; clear hl2; have H_hx := Lib.hid hx; clear hx; have H_hs := Lib.hid hs; clear hs; have H_hc2 := Lib.hid hc2; clear hc2
        go_enter Try.func11, Try.ntmps11
        go_wp2_with (first | (go_at_call 26; (with_reducible refine (lives03 _).mono ?_); rintro e w1 ⟨rfl, x1, n1, rfl⟩) | (go_at_call 34; (with_reducible refine (hw_arm _ _ _ _ _ _).mono ?_); rintro e w1 ⟨rfl, x2, n2, rfl⟩) | (go_at_call 35; (with_reducible refine (hw_left _ _ _ _ _).mono ?_); rintro e w1 ⟨rfl, x3, n3, rfl⟩; rw [H_hl.out]) | (go_at_call 18; (with_reducible refine (clock_step' H_hs.out _ hc).mono ?_); rintro e w1 ⟨rfl, x4, n4, rfl⟩))
        go_ret
        exact ⟨by simp <;> omega, by (repeat' (first | (with_reducible exact Vg.Grows.refl _) | (with_reducible assumption) | (with_reducible refine Vg.Grows.alloc ?_ _) | (with_reducible refine Vg.Grows.plus ?_ _ _) | (with_reducible refine Vg.Grows.drewN ?_ _) | (with_reducible refine Vg.Grows.drew ?_) | (with_reducible refine Vg.Grows.setCell ?_ ?_ _) | (with_reducible refine Vg.Grows.put ?_ ?_ _) | omega | (simp; omega) | (simp; done)))⟩
      · rw [decide_eq_false hh] at hs
        have hle : ¬ l ≤ m := by omega
        have hlt : m < l := by omega
        simp only [Bool.not_false] at hs
        obtain ⟨c2, hc2⟩ : ∃ c2, (c + m) % 4294967296 = c2 := ⟨_, rfl⟩
        rw [hc2] at hs
        clear hh
        have H_hl := Lib.hid hl; clear hl; have H_hl2 := Lib.hid hl2; clear hl2; have H_hx := Lib.hid hx; clear hx; have H_hs := Lib.hid hs; clear hs; have H_hc2 := Lib.hid hc2; clear hc2
        go_enter Try.func11, Try.ntmps11
        go_wp2_with (first | (go_at_call 26; (with_reducible refine (lives03 _).mono ?_); rintro e w1 ⟨rfl, x1, n1, rfl⟩) | (go_at_call 34; (with_reducible refine (hw_arm _ _ _ _ _ _).mono ?_); rintro e w1 ⟨rfl, x2, n2, rfl⟩) | (go_at_call 35; (with_reducible refine (hw_left _ _ _ _ _).mono ?_); rintro e w1 ⟨rfl, x3, n3, rfl⟩; rw [H_hl.out]) | (go_at_call 18; (with_reducible refine (clock_step' H_hs.out _ hc).mono ?_); rintro e w1 ⟨rfl, x4, n4, rfl⟩))
        go_ret
        exact ⟨by simp <;> omega, by (repeat' (first | (with_reducible exact Vg.Grows.refl _) | (with_reducible assumption) | (with_reducible refine Vg.Grows.alloc ?_ _) | (with_reducible refine Vg.Grows.plus ?_ _ _) | (with_reducible refine Vg.Grows.drewN ?_ _) | (with_reducible refine Vg.Grows.drew ?_) | (with_reducible refine Vg.Grows.setCell ?_ ?_ _) | (with_reducible refine Vg.Grows.put ?_ ?_ _) | omega | (simp; omega) | (simp; done)))⟩
  · have hx2 := Vg.ckNow_no (c := c) (last := last) (by rw [hx]; exact h)
    have hs := Vg.ckStep_bad (k := ⟨c, at_, true, false, last⟩) (m := m) (by show (Vg.ckNow c last).2 ≠ 0; rw [hx2]; simp)
    clear h hx
    have H_hl := Lib.hid hl; clear hl; have H_hl2 := Lib.hid hl2; clear hl2; have H_hx2 := Lib.hid hx2; clear hx2; have H_hs := Lib.hid hs; clear hs
    go_enter Try.func11, Try.ntmps11
    go_wp2_with (first | (go_at_call 26; (with_reducible refine (lives03 _).mono ?_); rintro e w1 ⟨rfl, x1, n1, rfl⟩) | (go_at_call 34; (with_reducible refine (hw_arm _ _ _ _ _ _).mono ?_); rintro e w1 ⟨rfl, x2, n2, rfl⟩) | (go_at_call 35; (with_reducible refine (hw_left _ _ _ _ _).mono ?_); rintro e w1 ⟨rfl, x3, n3, rfl⟩; rw [H_hl.out]) | (go_at_call 18; (with_reducible refine (clock_step' H_hs.out _ hc).mono ?_); rintro e w1 ⟨rfl, x4, n4, rfl⟩))
    go_ret
    exact ⟨rfl, by (repeat' (first | (with_reducible exact Vg.Grows.refl _) | (with_reducible assumption) | (with_reducible refine Vg.Grows.alloc ?_ _) | (with_reducible refine Vg.Grows.plus ?_ _ _) | (with_reducible refine Vg.Grows.drewN ?_ _) | (with_reducible refine Vg.Grows.drew ?_) | (with_reducible refine Vg.Grows.setCell ?_ ?_ _) | (with_reducible refine Vg.Grows.put ?_ ?_ _) | omega | (simp; omega) | (simp; done)))⟩
theorem ClockGoes_walk (c n : Int) (ar la : Bool) (last p q : Int) (w : World) (hc : 0 ≤ c ∧ c ≤ 4294967295) (hp0 : -9223372036854775808 ≤ p) (hp1 : p ≤ 9223372036854775807) (hq0 : -9223372036854775808 ≤ q) (hq1 : q ≤ 9223372036854775807) :
    Calls Try.prog 5 #[ckV c n ar la last, .int .i64 p, .int .i64 q] w fun e w' => e = .returned (.bool true) ∧ Vg.Grows w w' := by
  by_cases g1 : p < 0
  · go_enter Try.func5, Try.ntmps5
    go_wp2_with ((go_at_call 26; (with_reducible refine (lives03 _).mono ?_); rintro e w1 ⟨rfl, x1, n1, rfl⟩))
    go_ret
    exact ⟨rfl, by (repeat' (first | (with_reducible exact Vg.Grows.refl _) | (with_reducible assumption) | (with_reducible refine Vg.Grows.alloc ?_ _) | (with_reducible refine Vg.Grows.plus ?_ _ _) | (with_reducible refine Vg.Grows.drewN ?_ _) | (with_reducible refine Vg.Grows.drew ?_) | (with_reducible refine Vg.Grows.setCell ?_ ?_ _) | (with_reducible refine Vg.Grows.put ?_ ?_ _) | omega | (simp; omega) | (simp; done)))⟩
  by_cases g2 : q < 0
  · go_enter Try.func5, Try.ntmps5
    go_wp2_with ((go_at_call 26; (with_reducible refine (lives03 _).mono ?_); rintro e w1 ⟨rfl, x1, n1, rfl⟩))
    go_ret
    exact ⟨rfl, by (repeat' (first | (with_reducible exact Vg.Grows.refl _) | (with_reducible assumption) | (with_reducible refine Vg.Grows.alloc ?_ _) | (with_reducible refine Vg.Grows.plus ?_ _ _) | (with_reducible refine Vg.Grows.drewN ?_ _) | (with_reducible refine Vg.Grows.drew ?_) | (with_reducible refine Vg.Grows.setCell ?_ ?_ _) | (with_reducible refine Vg.Grows.put ?_ ?_ _) | omega | (simp; omega) | (simp; done)))⟩
  by_cases g3 : 68719476736 < p
  · go_enter Try.func5, Try.ntmps5
    go_wp2_with ((go_at_call 26; (with_reducible refine (lives03 _).mono ?_); rintro e w1 ⟨rfl, x1, n1, rfl⟩))
    go_ret
    exact ⟨rfl, by (repeat' (first | (with_reducible exact Vg.Grows.refl _) | (with_reducible assumption) | (with_reducible refine Vg.Grows.alloc ?_ _) | (with_reducible refine Vg.Grows.plus ?_ _ _) | (with_reducible refine Vg.Grows.drewN ?_ _) | (with_reducible refine Vg.Grows.drew ?_) | (with_reducible refine Vg.Grows.setCell ?_ ?_ _) | (with_reducible refine Vg.Grows.put ?_ ?_ _) | omega | (simp; omega) | (simp; done)))⟩
  by_cases g4 : 68719476736 < q
  · go_enter Try.func5, Try.ntmps5
    go_wp2_with ((go_at_call 26; (with_reducible refine (lives03 _).mono ?_); rintro e w1 ⟨rfl, x1, n1, rfl⟩))
    go_ret
    exact ⟨rfl, by (repeat' (first | (with_reducible exact Vg.Grows.refl _) | (with_reducible assumption) | (with_reducible refine Vg.Grows.alloc ?_ _) | (with_reducible refine Vg.Grows.plus ?_ _ _) | (with_reducible refine Vg.Grows.drewN ?_ _) | (with_reducible refine Vg.Grows.drew ?_) | (with_reducible refine Vg.Grows.setCell ?_ ?_ _) | (with_reducible refine Vg.Grows.put ?_ ?_ _) | omega | (simp; omega) | (simp; done)))⟩
  obtain ⟨⟨t, no⟩, hx⟩ : ∃ p, Vg.ckNow c last = p := ⟨_, rfl⟩
  by_cases h : no = 0
  · subst h
    have hok := Vg.ckNow_ok hx
    have hlow := Vg.ckNow_low hc hx
    have ht0 := hok.2.1
    have ht1 := hok.2.2.1
    by_cases hov : 4503599627370496 - t < p + q
    · have hs3 := Vg.ckStep_over (k := ⟨c, n, ar, la, last⟩) (m := p + q) hx (by omega) hov
      obtain ⟨⟨⟨c1, n1, a1, l1, t1⟩, v1⟩, hs1⟩ : ∃ r, Vg.ckStep ⟨c, n, ar, la, last⟩ p = r := ⟨_, rfl⟩
      have hc1 : 0 ≤ c1 ∧ c1 ≤ 4294967295 := by
        by_cases hh : 4503599627370496 - t < p
        · have := Vg.ckStep_over (k := ⟨c, n, ar, la, last⟩) (m := p) hx (by omega) hh
          rw [this] at hs1
          simp only [Prod.mk.injEq, Vg.Ck.mk.injEq] at hs1
          omega
        · have := Vg.ckStep_ok (k := ⟨c, n, ar, la, last⟩) (m := p) hx (by omega) (by omega)
          rw [this] at hs1
          unfold Vg.ckOf at hs1
          simp only [Prod.mk.injEq, Vg.Ck.mk.injEq] at hs1
          rw [← hs1.1.1]; exact Vg.go_count_bd _ _
      obtain ⟨⟨⟨c2, n2, a2, l2, t2⟩, v2⟩, hs2⟩ : ∃ r, Vg.ckStep ⟨c1, n1, a1, l1, t1⟩ q = r := ⟨_, rfl⟩
      have H_hok := Lib.hid hok; clear hok; have H_hlow := Lib.hid hlow; clear hlow; have H_hx := Lib.hid hx; clear hx; have H_hs1 := Lib.hid hs1; clear hs1; have H_hs2 := Lib.hid hs2; clear hs2; have H_hs3 := Lib.hid hs3; clear hs3
      go_enter Try.func5, Try.ntmps5
      go_wp2_with (first | (go_at_call 26; (with_reducible refine (lives03 _).mono ?_); rintro e w1 ⟨rfl, x1, n1, rfl⟩) | (go_at_call 19; (with_reducible refine (clock_now' H_hx.out _ hc).mono ?_); rintro e w1 ⟨rfl, y1, n11, rfl⟩) | (go_at_call 18; (with_reducible refine (clock_step' H_hs1.out _ hc).mono ?_); rintro e w1 ⟨rfl, x4, n4, rfl⟩) | (go_at_call 18; (with_reducible refine (clock_step' H_hs2.out _ hc1).mono ?_); rintro e w1 ⟨rfl, x5, n5, rfl⟩) | (go_at_call 18; (with_reducible refine (clock_step' H_hs3.out _ hc).mono ?_); rintro e w1 ⟨rfl, x6, n6, rfl⟩))
      go_ret
      exact ⟨rfl, by (repeat' (first | (with_reducible exact Vg.Grows.refl _) | (with_reducible assumption) | (with_reducible refine Vg.Grows.alloc ?_ _) | (with_reducible refine Vg.Grows.plus ?_ _ _) | (with_reducible refine Vg.Grows.drewN ?_ _) | (with_reducible refine Vg.Grows.drew ?_) | (with_reducible refine Vg.Grows.setCell ?_ ?_ _) | (with_reducible refine Vg.Grows.put ?_ ?_ _) | omega | (simp; omega) | (simp; done)))⟩
    · have hs3 := Vg.ckStep_ok (k := ⟨c, n, ar, la, last⟩) (m := p + q) hx (by omega) (by omega)
      have hs1 := Vg.ckStep_ok (k := ⟨c, n, ar, la, last⟩) (m := p) hx (by omega) (by omega)
      have hs2 := Vg.ckStep_step (h := ⟨c, n, ar, la⟩) (t := t) (n := p) (m := q) ht0 (by omega) (by omega) (by omega) hlow
      have hn2 := Vg.ckNow_go (h := ⟨c, n, ar, la⟩) (t := t) (m := p + q) ht0 (by omega) (by omega) hlow
      have hc1 := Vg.go_count_bd ⟨c, n, ar, la⟩ p
      have hc2 := Vg.go_count_bd ⟨c, n, ar, la⟩ (p + q)
      simp only [] at hs1 hs3
      obtain ⟨⟨c1, n1, a1, l1⟩, hg1⟩ : ∃ r, Vg.go ⟨c, n, ar, la⟩ p = r := ⟨_, rfl⟩
      obtain ⟨⟨c2, n2, a2, l2⟩, hg2⟩ : ∃ r, Vg.go ⟨c, n, ar, la⟩ (p + q) = r := ⟨_, rfl⟩
      rw [hg1] at hs1 hs2 hc1
      rw [hg2] at hs2 hs3 hn2 hc2
      unfold Vg.ckOf at hs1 hs2 hs3
      simp only [] at hs1 hs2 hs3 hc1 hc2 hn2
      obtain ⟨t2, ht2⟩ : ∃ t2, t + (p + q) = t2 := ⟨_, rfl⟩
      rw [ht2] at hs2 hs3 hn2
      have hte : t + p + q = t2 := by omega
      have hteb : (t2 == t + p + q) = true := by rw [hte]; simp
      have H_hok := Lib.hid hok; clear hok; have H_hlow := Lib.hid hlow; clear hlow; have H_hx := Lib.hid hx; clear hx; have H_hs1 := Lib.hid hs1; clear hs1; have H_hs2 := Lib.hid hs2; clear hs2; have H_hs3 := Lib.hid hs3; clear hs3; have H_hn2 := Lib.hid hn2; clear hn2; have H_hg1 := Lib.hid hg1; clear hg1; have H_hg2 := Lib.hid hg2; clear hg2; have H_ht2 := Lib.hid ht2; clear ht2; have H_hte := Lib.hid hte; clear hte
      go_enter Try.func5, Try.ntmps5
      go_wp2_with (first | (go_at_call 26; (with_reducible refine (lives03 _).mono ?_); rintro e w1 ⟨rfl, x1, n1, rfl⟩) | (go_at_call 19; (with_reducible refine (clock_now' H_hx.out _ hc).mono ?_); rintro e w1 ⟨rfl, y1, n11, rfl⟩) | (go_at_call 19; (with_reducible refine (clock_now' H_hn2.out _ hc2).mono ?_); rintro e w1 ⟨rfl, y2, n12, rfl⟩) | (go_at_call 18; (with_reducible refine (clock_step' H_hs1.out _ hc).mono ?_); rintro e w1 ⟨rfl, x4, n4, rfl⟩) | (go_at_call 18; (with_reducible refine (clock_step' H_hs2.out _ hc1).mono ?_); rintro e w1 ⟨rfl, x5, n5, rfl⟩) | (go_at_call 18; (with_reducible refine (clock_step' H_hs3.out _ hc).mono ?_); rintro e w1 ⟨rfl, x6, n6, rfl⟩) | (go_at_call 27; (with_reducible refine (clock_check' H_hn2.out _ hc2).mono ?_); rintro e w1 ⟨rfl, y3, n13, rfl⟩))
      all_goals go_ret
      all_goals exact ⟨rfl, by (repeat' (first | (with_reducible exact Vg.Grows.refl _) | (with_reducible assumption) | (with_reducible refine Vg.Grows.alloc ?_ _) | (with_reducible refine Vg.Grows.plus ?_ _ _) | (with_reducible refine Vg.Grows.drewN ?_ _) | (with_reducible refine Vg.Grows.drew ?_) | (with_reducible refine Vg.Grows.setCell ?_ ?_ _) | (with_reducible refine Vg.Grows.put ?_ ?_ _) | omega | (simp; omega) | (simp; done)))⟩
  · have hx2 := Vg.ckNow_no (c := c) (last := last) (by rw [hx]; exact h)
    have hs1 := Vg.ckStep_bad (k := ⟨c, n, ar, la, last⟩) (m := p) (by show (Vg.ckNow c last).2 ≠ 0; rw [hx2]; simp)
    have hs3 := Vg.ckStep_bad (k := ⟨c, n, ar, la, last⟩) (m := p + q) (by show (Vg.ckNow c last).2 ≠ 0; rw [hx2]; simp)
    obtain ⟨⟨⟨c2, n2, a2, l2, t2⟩, v2⟩, hs2⟩ : ∃ r, Vg.ckStep ⟨0, 0, false, false, 0⟩ q = r := ⟨_, rfl⟩
    clear h hx
    have H_hx2 := Lib.hid hx2; clear hx2; have H_hs1 := Lib.hid hs1; clear hs1; have H_hs2 := Lib.hid hs2; clear hs2; have H_hs3 := Lib.hid hs3; clear hs3
    go_enter Try.func5, Try.ntmps5
    go_wp2_with (first | (go_at_call 26; (with_reducible refine (lives03 _).mono ?_); rintro e w1 ⟨rfl, x1, n1, rfl⟩) | (go_at_call 19; (with_reducible refine (clock_now' H_hx2.out _ hc).mono ?_); rintro e w1 ⟨rfl, y1, n11, rfl⟩) | (go_at_call 18; (with_reducible refine (clock_step' H_hs1.out _ hc).mono ?_); rintro e w1 ⟨rfl, x4, n4, rfl⟩) | (go_at_call 18; (with_reducible refine (clock_step' H_hs2.out _ (by omega)).mono ?_); rintro e w1 ⟨rfl, x5, n5, rfl⟩) | (go_at_call 18; (with_reducible refine (clock_step' H_hs3.out _ hc).mono ?_); rintro e w1 ⟨rfl, x6, n6, rfl⟩))
    go_ret
    exact ⟨rfl, by (repeat' (first | (with_reducible exact Vg.Grows.refl _) | (with_reducible assumption) | (with_reducible refine Vg.Grows.alloc ?_ _) | (with_reducible refine Vg.Grows.plus ?_ _ _) | (with_reducible refine Vg.Grows.drewN ?_ _) | (with_reducible refine Vg.Grows.drew ?_) | (with_reducible refine Vg.Grows.setCell ?_ ?_ _) | (with_reducible refine Vg.Grows.put ?_ ?_ _) | omega | (simp; omega) | (simp; done)))⟩
end Go.Proofs.Ytfkkkcihoejjgaa
