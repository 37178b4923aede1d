/- Stats: contracts of the document's Check, of right, of, join, Add, Join and Mean on both sides. -/
import Derived.Test.YtlgkcpgmnpoanaaStats
set_option linter.unusedSimpArgs false
set_option linter.unusedVariables false
set_option maxHeartbeats 2000000
set_option maxRecDepth 20000
namespace Go.Proofs.Ytlgkcpgmnpoanaa
open Go.ChangeShapes Go.WideShapes Go.ChangeAt Go.RowKit
theorem ref20_check (x : Vg.St) (w : World) : Calls Try.prog 58 #[stV x] w fun e w' => e = .returned (.int .i64 x.ck) ∧ Vg.Grows w w' := by
  obtain ⟨j, m, wo, s, l⟩ := x
  obtain ⟨c, hc⟩ : ∃ c, Vg.St.ck ⟨j, m, wo, s, l⟩ = c := ⟨_, rfl⟩
  rw [hc]
  have HC := Lib.hid hc
  clear hc
  go_enter Try.func58, Try.ntmps58
  go_wp2
  go_loopw [17] (fun i wr => ∃ k : Nat, k ≤ 5 ∧ i = .int .i64 k ∧ (∀ i, i < k → Vg.timeB (Vg.St.el ⟨j, m, wo, s, l⟩ i) = true ∧ (j = 0 → Vg.St.el ⟨j, m, wo, s, l⟩ i = 0)) ∧ wr = (w.alloc (.cells #[.int .i64 j, .int .i64 m, .int .i64 wo, .int .i64 s, .int .i64 l] 94)).alloc (.cells #[.int .i64 j, .int .i64 m, .int .i64 wo, .int .i64 s, .int .i64 l] 2)) (fun i _ => 5 - (intOf i).toNat)
  case atStart => exact ⟨0, by omega, rfl, fun i hi => by omega, rfl⟩
  case round =>
    obtain ⟨k, hk, rfl, hall, rfl⟩ := hrel
    have HA := Lib.hid hall
    clear hall
    by_cases hlt : k < 5
    · obtain ⟨v, hv⟩ : ∃ v, Vg.St.el ⟨j, m, wo, s, l⟩ k = v := ⟨_, rfl⟩
      by_cases hgood : Vg.timeB v = true ∧ (j = 0 → v = 0)
      · have hn : ∀ i, i < k + 1 → Vg.timeB (Vg.St.el ⟨j, m, wo, s, l⟩ i) = true ∧ (j = 0 → Vg.St.el ⟨j, m, wo, s, l⟩ i = 0) := fun i hi => by
          by_cases h : i = k
          · rw [h, hv]; exact hgood
          · exact HA.out i (by omega)
        obtain ⟨ht, hz⟩ := hgood
        by_cases hj : j = 0
        · have hv0 := hz hj
          have hvb : (v == 0) = true := by simp [hv0]
          have hjb : (j == 0) = true := by simp [hj]
          have HN := Lib.hid hn
          clear hn hz hj hv0
          rcases (by omega : k = 0 ∨ k = 1 ∨ k = 2 ∨ k = 3 ∨ k = 4) with rfl | rfl | rfl | rfl | rfl <;> simp only [Vg.St.el] at hv <;> subst hv
          · clear hlt; go_wp2_with ((go_at_call 67; refine (reftime_any _ _).mono ?_; rintro e w' ⟨rfl, rfl⟩)); exact ⟨⟨1, by omega, rfl, HN.out, by trivial⟩, by simp [intOf]⟩
          · clear hlt; go_wp2_with ((go_at_call 67; refine (reftime_any _ _).mono ?_; rintro e w' ⟨rfl, rfl⟩)); exact ⟨⟨2, by omega, rfl, HN.out, by trivial⟩, by simp [intOf]⟩
          · clear hlt; go_wp2_with ((go_at_call 67; refine (reftime_any _ _).mono ?_; rintro e w' ⟨rfl, rfl⟩)); exact ⟨⟨3, by omega, rfl, HN.out, by trivial⟩, by simp [intOf]⟩
          · clear hlt; go_wp2_with ((go_at_call 67; refine (reftime_any _ _).mono ?_; rintro e w' ⟨rfl, rfl⟩)); exact ⟨⟨4, by omega, rfl, HN.out, by trivial⟩, by simp [intOf]⟩
          · clear hlt; go_wp2_with ((go_at_call 67; refine (reftime_any _ _).mono ?_; rintro e w' ⟨rfl, rfl⟩)); exact ⟨⟨5, by omega, rfl, HN.out, by trivial⟩, by simp [intOf]⟩
        · have hjb : (j == 0) = false := by simp [hj]
          have HN := Lib.hid hn
          clear hn hz hj
          rcases (by omega : k = 0 ∨ k = 1 ∨ k = 2 ∨ k = 3 ∨ k = 4) with rfl | rfl | rfl | rfl | rfl <;> simp only [Vg.St.el] at hv <;> subst hv
          · clear hlt; go_wp2_with ((go_at_call 67; refine (reftime_any _ _).mono ?_; rintro e w' ⟨rfl, rfl⟩)); exact ⟨⟨1, by omega, rfl, HN.out, by trivial⟩, by simp [intOf]⟩
          · clear hlt; go_wp2_with ((go_at_call 67; refine (reftime_any _ _).mono ?_; rintro e w' ⟨rfl, rfl⟩)); exact ⟨⟨2, by omega, rfl, HN.out, by trivial⟩, by simp [intOf]⟩
          · clear hlt; go_wp2_with ((go_at_call 67; refine (reftime_any _ _).mono ?_; rintro e w' ⟨rfl, rfl⟩)); exact ⟨⟨3, by omega, rfl, HN.out, by trivial⟩, by simp [intOf]⟩
          · clear hlt; go_wp2_with ((go_at_call 67; refine (reftime_any _ _).mono ?_; rintro e w' ⟨rfl, rfl⟩)); exact ⟨⟨4, by omega, rfl, HN.out, by trivial⟩, by simp [intOf]⟩
          · clear hlt; go_wp2_with ((go_at_call 67; refine (reftime_any _ _).mono ?_; rintro e w' ⟨rfl, rfl⟩)); exact ⟨⟨5, by omega, rfl, HN.out, by trivial⟩, by simp [intOf]⟩
      · have e : c = 2 := by
          rw [← HC.out]
          refine Vg.St.ck_no fun h => hgood ?_
          have hz := h.2.2.2.2.2.2.2
          obtain ⟨h0, h1, h2, h3, h4, _⟩ := h
          simp only [] at h0 h1 h2 h3 h4 hz
          rw [← hv]
          rcases (by omega : k = 0 ∨ k = 1 ∨ k = 2 ∨ k = 3 ∨ k = 4) with rfl | rfl | rfl | rfl | rfl
          · exact ⟨h0, fun h => h⟩
          · exact ⟨h1, fun h => (hz h).1⟩
          · exact ⟨h2, fun h => (hz h).2.1⟩
          · exact ⟨h3, fun h => (hz h).2.2.1⟩
          · exact ⟨h4, fun h => (hz h).2.2.2⟩
        have HE := Lib.hid e
        clear e
        cases ht : Vg.timeB v with
        | false =>
          clear hgood
          rcases (by omega : k = 0 ∨ k = 1 ∨ k = 2 ∨ k = 3 ∨ k = 4) with rfl | rfl | rfl | rfl | rfl <;> simp only [Vg.St.el] at hv <;> subst hv
          all_goals
            clear hlt
            go_wp2_with ((go_at_call 67; refine (reftime_any _ _).mono ?_; rintro e w' ⟨rfl, rfl⟩))
            go_ret
            exact ⟨by rw [HE.out]; rfl, by (repeat' (first | (with_reducible exact Vg.Grows.refl _) | (with_reducible assumption) | (with_reducible refine Vg.Grows.alloc ?_ _) | (with_reducible refine Vg.Grows.plus ?_ _ _) | (with_reducible refine Vg.Grows.drewN ?_ _) | (with_reducible refine Vg.Grows.drew ?_) | (with_reducible refine Vg.Grows.setCell ?_ ?_ _) | (with_reducible refine Vg.Grows.put ?_ ?_ _) | omega | (simp; omega) | (simp; done)))⟩
        | true =>
          have hj : j = 0 := Decidable.byContradiction fun h => hgood ⟨ht, fun h' => absurd h' h⟩
          have hv0 : v ≠ 0 := fun h => hgood ⟨ht, fun _ => h⟩
          have hjb : (j == 0) = true := by simp [hj]
          have hvb : (v == 0) = false := by simp [hv0]
          have hvn : (v != 0) = true := by simp [hv0]
          clear hgood hv0
          rcases (by omega : k = 0 ∨ k = 1 ∨ k = 2 ∨ k = 3 ∨ k = 4) with rfl | rfl | rfl | rfl | rfl <;> simp only [Vg.St.el] at hv <;> subst hv
          · exfalso; rw [hjb] at hvb; cases hvb
          all_goals
            clear hlt hj
            go_wp2_with ((go_at_call 67; refine (reftime_any _ _).mono ?_; rintro e w' ⟨rfl, rfl⟩))
            go_ret
            exact ⟨by rw [HE.out]; rfl, by (repeat' (first | (with_reducible exact Vg.Grows.refl _) | (with_reducible assumption) | (with_reducible refine Vg.Grows.alloc ?_ _) | (with_reducible refine Vg.Grows.plus ?_ _ _) | (with_reducible refine Vg.Grows.drewN ?_ _) | (with_reducible refine Vg.Grows.drew ?_) | (with_reducible refine Vg.Grows.setCell ?_ ?_ _) | (with_reducible refine Vg.Grows.put ?_ ?_ _) | omega | (simp; omega) | (simp; done)))⟩
    · obtain rfl : k = 5 := by omega
      obtain ⟨t0, t1, t2, t3, t4⟩ := Vg.St.el_all fun i hi => (HA.out i hi).1
      have hz : j = 0 → m = 0 ∧ wo = 0 ∧ s = 0 ∧ l = 0 := fun h => ⟨(HA.out 1 (by omega)).2 h, (HA.out 2 (by omega)).2 h, (HA.out 3 (by omega)).2 h, (HA.out 4 (by omega)).2 h⟩
      have T : Hid ((Vg.timeB j = true ∧ Vg.timeB m = true ∧ Vg.timeB wo = true ∧ Vg.timeB s = true ∧ Vg.timeB l = true) ∧ (j = 0 → m = 0 ∧ wo = 0 ∧ s = 0 ∧ l = 0)) := Lib.hid ⟨⟨t0, t1, t2, t3, t4⟩, hz⟩
      clear t0 t1 t2 t3 t4 hz hlt hk
      by_cases q1 : j < m
      · have e : c = 2 := by rw [← HC.out]; exact Vg.St.ck_no (fun h => by have := h.2.2.2.2.2.1; simp only [] at this; omega)
        have HE := Lib.hid e
        clear e
        go_wp2
        go_ret
        exact ⟨by rw [HE.out]; rfl, by (repeat' (first | (with_reducible exact Vg.Grows.refl _) | (with_reducible assumption) | (with_reducible refine Vg.Grows.alloc ?_ _) | (with_reducible refine Vg.Grows.plus ?_ _ _) | (with_reducible refine Vg.Grows.drewN ?_ _) | (with_reducible refine Vg.Grows.drew ?_) | (with_reducible refine Vg.Grows.setCell ?_ ?_ _) | (with_reducible refine Vg.Grows.put ?_ ?_ _) | omega | (simp; omega) | (simp; done)))⟩
      · by_cases q2 : s < wo
        · have e : c = 2 := by rw [← HC.out]; exact Vg.St.ck_no (fun h => by have := h.2.2.2.2.2.2.1; simp only [] at this; omega)
          have HE := Lib.hid e
          clear e
          go_wp2
          go_ret
          exact ⟨by rw [HE.out]; rfl, by (repeat' (first | (with_reducible exact Vg.Grows.refl _) | (with_reducible assumption) | (with_reducible refine Vg.Grows.alloc ?_ _) | (with_reducible refine Vg.Grows.plus ?_ _ _) | (with_reducible refine Vg.Grows.drewN ?_ _) | (with_reducible refine Vg.Grows.drew ?_) | (with_reducible refine Vg.Grows.setCell ?_ ?_ _) | (with_reducible refine Vg.Grows.put ?_ ?_ _) | omega | (simp; omega) | (simp; done)))⟩
        · have e : c = 0 := by rw [← HC.out]; exact Vg.St.ck_ok ⟨T.out.1.1, T.out.1.2.1, T.out.1.2.2.1, T.out.1.2.2.2.1, T.out.1.2.2.2.2, by simp only []; omega, by simp only []; omega, T.out.2⟩
          have HE := Lib.hid e
          clear e
          go_wp2
          go_ret
          exact ⟨by rw [HE.out]; rfl, by (repeat' (first | (with_reducible exact Vg.Grows.refl _) | (with_reducible assumption) | (with_reducible refine Vg.Grows.alloc ?_ _) | (with_reducible refine Vg.Grows.plus ?_ _ _) | (with_reducible refine Vg.Grows.drewN ?_ _) | (with_reducible refine Vg.Grows.drew ?_) | (with_reducible refine Vg.Grows.setCell ?_ ?_ _) | (with_reducible refine Vg.Grows.put ?_ ?_ _) | omega | (simp; omega) | (simp; done)))⟩
theorem stats_right (x : Vg.Jb) (w : World) : Calls Try.prog 76 #[jbV x] w fun e w' => e = .returned (.bool x.rb) ∧ Vg.Grows w w' := by
  obtain ⟨t, a, r, d, l⟩ := x
  obtain ⟨c, hc⟩ : ∃ c, Vg.Jb.rb ⟨t, a, r, d, l⟩ = c := ⟨_, rfl⟩
  rw [hc]
  have HC := Lib.hid hc
  clear hc
  have hc0 : ∀ (p : Bool), Vg.Jb.rb ⟨t, a, r, d, l⟩ = p → c = p := fun p h => by rw [← HC.out]; exact h
  have HC0 := Lib.hid hc0
  clear hc0
  by_cases q1 : 0 ≤ a
  · by_cases q2 : a ≤ r
    · by_cases q3 : r ≤ d
      · cases q4 : Vg.timeB d with
        | true =>
          cases q5 : Vg.timeB l with
          | true =>
            have e := HC0.out true (by unfold Vg.Jb.rb; simp [q1, q2, q3, q4, q5])
            have HE := Lib.hid e
            clear e
            go_enter Try.func76, Try.ntmps76
            go_wp2_with ((go_at_call 80; refine (stime_any _ _).mono ?_; rintro e w' ⟨rfl, rfl⟩))
            go_ret
            exact ⟨by rw [HE.out]; rfl, by (repeat' (first | (with_reducible exact Vg.Grows.refl _) | (with_reducible assumption) | (with_reducible refine Vg.Grows.alloc ?_ _) | (with_reducible refine Vg.Grows.plus ?_ _ _) | (with_reducible refine Vg.Grows.drewN ?_ _) | (with_reducible refine Vg.Grows.drew ?_) | (with_reducible refine Vg.Grows.setCell ?_ ?_ _) | (with_reducible refine Vg.Grows.put ?_ ?_ _) | omega | (simp; omega) | (simp; done)))⟩
          | false =>
            have e := HC0.out false (by unfold Vg.Jb.rb; simp [q1, q2, q3, q4, q5])
            have HE := Lib.hid e
            clear e
            go_enter Try.func76, Try.ntmps76
            go_wp2_with ((go_at_call 80; refine (stime_any _ _).mono ?_; rintro e w' ⟨rfl, rfl⟩))
            go_ret
            exact ⟨by rw [HE.out]; rfl, by (repeat' (first | (with_reducible exact Vg.Grows.refl _) | (with_reducible assumption) | (with_reducible refine Vg.Grows.alloc ?_ _) | (with_reducible refine Vg.Grows.plus ?_ _ _) | (with_reducible refine Vg.Grows.drewN ?_ _) | (with_reducible refine Vg.Grows.drew ?_) | (with_reducible refine Vg.Grows.setCell ?_ ?_ _) | (with_reducible refine Vg.Grows.put ?_ ?_ _) | omega | (simp; omega) | (simp; done)))⟩
        | false =>
          have e := HC0.out false (by unfold Vg.Jb.rb; simp [q1, q2, q3, q4])
          have HE := Lib.hid e
          clear e
          go_enter Try.func76, Try.ntmps76
          go_wp2_with ((go_at_call 80; refine (stime_any _ _).mono ?_; rintro e w' ⟨rfl, rfl⟩))
          go_ret
          exact ⟨by rw [HE.out]; rfl, by (repeat' (first | (with_reducible exact Vg.Grows.refl _) | (with_reducible assumption) | (with_reducible refine Vg.Grows.alloc ?_ _) | (with_reducible refine Vg.Grows.plus ?_ _ _) | (with_reducible refine Vg.Grows.drewN ?_ _) | (with_reducible refine Vg.Grows.drew ?_) | (with_reducible refine Vg.Grows.setCell ?_ ?_ _) | (with_reducible refine Vg.Grows.put ?_ ?_ _) | omega | (simp; omega) | (simp; done)))⟩
      · have e := HC0.out false (by unfold Vg.Jb.rb; simp [q3])
        have HE := Lib.hid e
        clear e
        go_enter Try.func76, Try.ntmps76
        go_wp2
        go_ret
        exact ⟨by rw [HE.out]; rfl, by (repeat' (first | (with_reducible exact Vg.Grows.refl _) | (with_reducible assumption) | (with_reducible refine Vg.Grows.alloc ?_ _) | (with_reducible refine Vg.Grows.plus ?_ _ _) | (with_reducible refine Vg.Grows.drewN ?_ _) | (with_reducible refine Vg.Grows.drew ?_) | (with_reducible refine Vg.Grows.setCell ?_ ?_ _) | (with_reducible refine Vg.Grows.put ?_ ?_ _) | omega | (simp; omega) | (simp; done)))⟩
    · have e := HC0.out false (by unfold Vg.Jb.rb; simp [q2])
      have HE := Lib.hid e
      clear e
      go_enter Try.func76, Try.ntmps76
      go_wp2
      go_ret
      exact ⟨by rw [HE.out]; rfl, by (repeat' (first | (with_reducible exact Vg.Grows.refl _) | (with_reducible assumption) | (with_reducible refine Vg.Grows.alloc ?_ _) | (with_reducible refine Vg.Grows.plus ?_ _ _) | (with_reducible refine Vg.Grows.drewN ?_ _) | (with_reducible refine Vg.Grows.drew ?_) | (with_reducible refine Vg.Grows.setCell ?_ ?_ _) | (with_reducible refine Vg.Grows.put ?_ ?_ _) | omega | (simp; omega) | (simp; done)))⟩
  · have e := HC0.out false (by unfold Vg.Jb.rb; simp [q1])
    have HE := Lib.hid e
    clear e
    go_enter Try.func76, Try.ntmps76
    go_wp2
    go_ret
    exact ⟨by rw [HE.out]; rfl, by (repeat' (first | (with_reducible exact Vg.Grows.refl _) | (with_reducible assumption) | (with_reducible refine Vg.Grows.alloc ?_ _) | (with_reducible refine Vg.Grows.plus ?_ _ _) | (with_reducible refine Vg.Grows.drewN ?_ _) | (with_reducible refine Vg.Grows.drew ?_) | (with_reducible refine Vg.Grows.setCell ?_ ?_ _) | (with_reducible refine Vg.Grows.put ?_ ?_ _) | omega | (simp; omega) | (simp; done)))⟩
theorem ref20_right (x : Vg.Jb) (w : World) : Calls Try.prog 79 #[jbV x] w fun e w' => e = .returned (.bool x.rb) ∧ Vg.Grows w w' := by
  obtain ⟨t, a, r, d, l⟩ := x
  obtain ⟨c, hc⟩ : ∃ c, Vg.Jb.rb ⟨t, a, r, d, l⟩ = c := ⟨_, rfl⟩
  rw [hc]
  have HC := Lib.hid hc
  clear hc
  have hc0 : ∀ (p : Bool), Vg.Jb.rb ⟨t, a, r, d, l⟩ = p → c = p := fun p h => by rw [← HC.out]; exact h
  have HC0 := Lib.hid hc0
  clear hc0
  by_cases q1 : 0 ≤ a
  · by_cases q2 : a ≤ r
    · by_cases q3 : r ≤ d
      · cases q4 : Vg.timeB d with
        | true =>
          cases q5 : Vg.timeB l with
          | true =>
            have e := HC0.out true (by unfold Vg.Jb.rb; simp [q1, q2, q3, q4, q5])
            have HE := Lib.hid e
            clear e
            go_enter Try.func79, Try.ntmps79
            go_wp2_with ((go_at_call 67; refine (reftime_any _ _).mono ?_; rintro e w' ⟨rfl, rfl⟩))
            go_ret
            exact ⟨by rw [HE.out]; rfl, by (repeat' (first | (with_reducible exact Vg.Grows.refl _) | (with_reducible assumption) | (with_reducible refine Vg.Grows.alloc ?_ _) | (with_reducible refine Vg.Grows.plus ?_ _ _) | (with_reducible refine Vg.Grows.drewN ?_ _) | (with_reducible refine Vg.Grows.drew ?_) | (with_reducible refine Vg.Grows.setCell ?_ ?_ _) | (with_reducible refine Vg.Grows.put ?_ ?_ _) | omega | (simp; omega) | (simp; done)))⟩
          | false =>
            have e := HC0.out false (by unfold Vg.Jb.rb; simp [q1, q2, q3, q4, q5])
            have HE := Lib.hid e
            clear e
            go_enter Try.func79, Try.ntmps79
            go_wp2_with ((go_at_call 67; refine (reftime_any _ _).mono ?_; rintro e w' ⟨rfl, rfl⟩))
            go_ret
            exact ⟨by rw [HE.out]; rfl, by (repeat' (first | (with_reducible exact Vg.Grows.refl _) | (with_reducible assumption) | (with_reducible refine Vg.Grows.alloc ?_ _) | (with_reducible refine Vg.Grows.plus ?_ _ _) | (with_reducible refine Vg.Grows.drewN ?_ _) | (with_reducible refine Vg.Grows.drew ?_) | (with_reducible refine Vg.Grows.setCell ?_ ?_ _) | (with_reducible refine Vg.Grows.put ?_ ?_ _) | omega | (simp; omega) | (simp; done)))⟩
        | false =>
          have e := HC0.out false (by unfold Vg.Jb.rb; simp [q1, q2, q3, q4])
          have HE := Lib.hid e
          clear e
          go_enter Try.func79, Try.ntmps79
          go_wp2_with ((go_at_call 67; refine (reftime_any _ _).mono ?_; rintro e w' ⟨rfl, rfl⟩))
          go_ret
          exact ⟨by rw [HE.out]; rfl, by (repeat' (first | (with_reducible exact Vg.Grows.refl _) | (with_reducible assumption) | (with_reducible refine Vg.Grows.alloc ?_ _) | (with_reducible refine Vg.Grows.plus ?_ _ _) | (with_reducible refine Vg.Grows.drewN ?_ _) | (with_reducible refine Vg.Grows.drew ?_) | (with_reducible refine Vg.Grows.setCell ?_ ?_ _) | (with_reducible refine Vg.Grows.put ?_ ?_ _) | omega | (simp; omega) | (simp; done)))⟩
      · have e := HC0.out false (by unfold Vg.Jb.rb; simp [q3])
        have HE := Lib.hid e
        clear e
        go_enter Try.func79, Try.ntmps79
        go_wp2
        go_ret
        exact ⟨by rw [HE.out]; rfl, by (repeat' (first | (with_reducible exact Vg.Grows.refl _) | (with_reducible assumption) | (with_reducible refine Vg.Grows.alloc ?_ _) | (with_reducible refine Vg.Grows.plus ?_ _ _) | (with_reducible refine Vg.Grows.drewN ?_ _) | (with_reducible refine Vg.Grows.drew ?_) | (with_reducible refine Vg.Grows.setCell ?_ ?_ _) | (with_reducible refine Vg.Grows.put ?_ ?_ _) | omega | (simp; omega) | (simp; done)))⟩
    · have e := HC0.out false (by unfold Vg.Jb.rb; simp [q2])
      have HE := Lib.hid e
      clear e
      go_enter Try.func79, Try.ntmps79
      go_wp2
      go_ret
      exact ⟨by rw [HE.out]; rfl, by (repeat' (first | (with_reducible exact Vg.Grows.refl _) | (with_reducible assumption) | (with_reducible refine Vg.Grows.alloc ?_ _) | (with_reducible refine Vg.Grows.plus ?_ _ _) | (with_reducible refine Vg.Grows.drewN ?_ _) | (with_reducible refine Vg.Grows.drew ?_) | (with_reducible refine Vg.Grows.setCell ?_ ?_ _) | (with_reducible refine Vg.Grows.put ?_ ?_ _) | omega | (simp; omega) | (simp; done)))⟩
  · have e := HC0.out false (by unfold Vg.Jb.rb; simp [q1])
    have HE := Lib.hid e
    clear e
    go_enter Try.func79, Try.ntmps79
    go_wp2
    go_ret
    exact ⟨by rw [HE.out]; rfl, by (repeat' (first | (with_reducible exact Vg.Grows.refl _) | (with_reducible assumption) | (with_reducible refine Vg.Grows.alloc ?_ _) | (with_reducible refine Vg.Grows.plus ?_ _ _) | (with_reducible refine Vg.Grows.drewN ?_ _) | (with_reducible refine Vg.Grows.drew ?_) | (with_reducible refine Vg.Grows.setCell ?_ ?_ _) | (with_reducible refine Vg.Grows.put ?_ ?_ _) | omega | (simp; omega) | (simp; done)))⟩
theorem stats_of (x : Vg.Jb) (w : World) (h : x.rb = true) : Calls Try.prog 78 #[jbV x] w fun e w' => e = .returned (stV x.st) ∧ Vg.Grows w w' := by
  have hb := Vg.Jb.rb_true.1 h
  obtain ⟨t, a, r, d, l⟩ := x
  simp only [] at hb
  clear h
  by_cases q : l < d - a
  · have e : Vg.Jb.st ⟨t, a, r, d, l⟩ = ⟨1, 1, d - a, d - a, r - a⟩ := by unfold Vg.Jb.st; simp only [if_pos q]
    rw [e]
    clear e
    go_enter Try.func78, Try.ntmps78
    go_wp2
    go_returns
    exact ⟨rfl, by (repeat' (first | (with_reducible exact Vg.Grows.refl _) | (with_reducible assumption) | (with_reducible refine Vg.Grows.alloc ?_ _) | (with_reducible refine Vg.Grows.plus ?_ _ _) | (with_reducible refine Vg.Grows.drewN ?_ _) | (with_reducible refine Vg.Grows.drew ?_) | (with_reducible refine Vg.Grows.setCell ?_ ?_ _) | (with_reducible refine Vg.Grows.put ?_ ?_ _) | omega | (simp; omega) | (simp; done)))⟩
  · have e : Vg.Jb.st ⟨t, a, r, d, l⟩ = ⟨1, 0, d - a, d - a, r - a⟩ := by unfold Vg.Jb.st; simp only [if_neg q]
    rw [e]
    clear e
    go_enter Try.func78, Try.ntmps78
    go_wp2
    go_returns
    exact ⟨rfl, by (repeat' (first | (with_reducible exact Vg.Grows.refl _) | (with_reducible assumption) | (with_reducible refine Vg.Grows.alloc ?_ _) | (with_reducible refine Vg.Grows.plus ?_ _ _) | (with_reducible refine Vg.Grows.drewN ?_ _) | (with_reducible refine Vg.Grows.drew ?_) | (with_reducible refine Vg.Grows.setCell ?_ ?_ _) | (with_reducible refine Vg.Grows.put ?_ ?_ _) | omega | (simp; omega) | (simp; done)))⟩
theorem stats_jo (x y : Vg.St) (w : World) (hx : x.OK) (hy : y.OK) : Calls Try.prog 77 #[stV x, stV y] w fun e w' => e = .returned (.tuple #[stV (x.jo y), .bool (x.fit y)]) ∧ Vg.Grows w w' := by
  have a := hx.bd
  have b := hy.bd
  obtain ⟨j, m, wo, s, l⟩ := x
  obtain ⟨j', m', wo', s', l'⟩ := y
  simp only [] at a b
  clear hx hy
  obtain ⟨f, hf⟩ : ∃ f, Vg.St.fit ⟨j, m, wo, s, l⟩ ⟨j', m', wo', s', l'⟩ = f := ⟨_, rfl⟩
  rw [hf]
  obtain ⟨mw, hmw⟩ : ∃ mw, max wo wo' = mw := ⟨_, rfl⟩
  obtain ⟨ml, hml⟩ : ∃ ml, max l l' = ml := ⟨_, rfl⟩
  have e : Vg.St.jo ⟨j, m, wo, s, l⟩ ⟨j', m', wo', s', l'⟩ = ⟨j + j', m + m', mw, s + s', ml⟩ := by unfold Vg.St.jo; simp only [hmw, hml]
  rw [e]
  clear e
  have hf2 : f = (decide (j + j' ≤ 4503599627370496) && decide (s + s' ≤ 4503599627370496)) := by rw [← hf]; rfl
  have HF := Lib.hid hf2
  clear hf hf2
  have c1 : (wo < wo' ∧ mw = wo') ∨ (¬ wo < wo' ∧ mw = wo) := by omega
  have c2 : (l < l' ∧ ml = l') ∨ (¬ l < l' ∧ ml = l) := by omega
  have c3 : decide (j + j' ≤ 4503599627370496) = true ∨ decide (j + j' ≤ 4503599627370496) = false := by cases decide (j + j' ≤ 4503599627370496) <;> simp
  clear hmw hml
  rcases c3 with q3 | q3 <;> rcases c1 with ⟨q1, rfl⟩ | ⟨q1, rfl⟩ <;> rcases c2 with ⟨q2, rfl⟩ | ⟨q2, rfl⟩
  all_goals
    go_enter Try.func77, Try.ntmps77
    go_wp2
    go_region
  all_goals
    go_wp2
    go_region
  all_goals
    go_wp2
    go_returns
    exact ⟨by rw [HF.out]; simp [*], by (repeat' (first | (with_reducible exact Vg.Grows.refl _) | (with_reducible assumption) | (with_reducible refine Vg.Grows.alloc ?_ _) | (with_reducible refine Vg.Grows.plus ?_ _ _) | (with_reducible refine Vg.Grows.drewN ?_ _) | (with_reducible refine Vg.Grows.drew ?_) | (with_reducible refine Vg.Grows.setCell ?_ ?_ _) | (with_reducible refine Vg.Grows.put ?_ ?_ _) | omega | (simp; omega) | (simp; done)))⟩
end Go.Proofs.Ytlgkcpgmnpoanaa
