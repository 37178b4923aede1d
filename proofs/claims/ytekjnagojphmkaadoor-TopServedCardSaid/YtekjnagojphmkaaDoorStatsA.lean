/- Stats: contracts of the document's Check, of right, of, join, Add, Join and Mean on both sides. -/
import Derived.Test.YtekjnagojphmkaaDoorStats
set_option linter.unusedSimpArgs false
set_option linter.unusedVariables false
set_option maxHeartbeats 2000000
set_option maxRecDepth 20000
namespace Go.Proofs.YtekjnagojphmkaaDoor
open Go.ChangeShapes Go.WideShapes Go.ChangeAt Go.RowKit
theorem stats_right (x : Vg.Jb) (w : World) : Calls Tryd.prog 39 #[jbV x] w fun e w' => e = .returned (.bool x.rb) ∧ Vg.Grows w w' := by
  obtain ⟨t, a, r, d, l⟩ := x
  obtain ⟨c, hc⟩ : ∃ c, Vg.Jb.rb ⟨t, a, r, d, l⟩ = c := ⟨_, rfl⟩
  rw [hc]
  have HC := Lib.hid hc
  clear hc
  have hc0 : ∀ (p : Bool), Vg.Jb.rb ⟨t, a, r, d, l⟩ = p → c = p := fun p h => by rw [← HC.out]; exact h
  have HC0 := Lib.hid hc0
  clear hc0
  by_cases q1 : 0 ≤ a
  · by_cases q2 : a ≤ r
    · by_cases q3 : r ≤ d
      · cases q4 : Vg.timeB d with
        | true =>
          cases q5 : Vg.timeB l with
          | true =>
            have e := HC0.out true (by unfold Vg.Jb.rb; simp [q1, q2, q3, q4, q5])
            have HE := Lib.hid e
            clear e
            go_enter Tryd.func39, Tryd.ntmps39
            go_wp2_with ((go_at_call 73; refine (stime_any _ _).mono ?_; rintro e w' ⟨rfl, rfl⟩))
            go_ret
            exact ⟨by rw [HE.out]; rfl, by (repeat' (first | (with_reducible exact Vg.Grows.refl _) | (with_reducible assumption) | (with_reducible refine Vg.Grows.alloc ?_ _) | (with_reducible refine Vg.Grows.plus ?_ _ _) | (with_reducible refine Vg.Grows.drewN ?_ _) | (with_reducible refine Vg.Grows.drew ?_) | (with_reducible refine Vg.Grows.setCell ?_ ?_ _) | (with_reducible refine Vg.Grows.put ?_ ?_ _) | omega | (simp; omega) | (simp; done)))⟩
          | false =>
            have e := HC0.out false (by unfold Vg.Jb.rb; simp [q1, q2, q3, q4, q5])
            have HE := Lib.hid e
            clear e
            go_enter Tryd.func39, Tryd.ntmps39
            go_wp2_with ((go_at_call 73; refine (stime_any _ _).mono ?_; rintro e w' ⟨rfl, rfl⟩))
            go_ret
            exact ⟨by rw [HE.out]; rfl, by (repeat' (first | (with_reducible exact Vg.Grows.refl _) | (with_reducible assumption) | (with_reducible refine Vg.Grows.alloc ?_ _) | (with_reducible refine Vg.Grows.plus ?_ _ _) | (with_reducible refine Vg.Grows.drewN ?_ _) | (with_reducible refine Vg.Grows.drew ?_) | (with_reducible refine Vg.Grows.setCell ?_ ?_ _) | (with_reducible refine Vg.Grows.put ?_ ?_ _) | omega | (simp; omega) | (simp; done)))⟩
        | false =>
          have e := HC0.out false (by unfold Vg.Jb.rb; simp [q1, q2, q3, q4])
          have HE := Lib.hid e
          clear e
          go_enter Tryd.func39, Tryd.ntmps39
          go_wp2_with ((go_at_call 73; refine (stime_any _ _).mono ?_; rintro e w' ⟨rfl, rfl⟩))
          go_ret
          exact ⟨by rw [HE.out]; rfl, by (repeat' (first | (with_reducible exact Vg.Grows.refl _) | (with_reducible assumption) | (with_reducible refine Vg.Grows.alloc ?_ _) | (with_reducible refine Vg.Grows.plus ?_ _ _) | (with_reducible refine Vg.Grows.drewN ?_ _) | (with_reducible refine Vg.Grows.drew ?_) | (with_reducible refine Vg.Grows.setCell ?_ ?_ _) | (with_reducible refine Vg.Grows.put ?_ ?_ _) | omega | (simp; omega) | (simp; done)))⟩
      · have e := HC0.out false (by unfold Vg.Jb.rb; simp [q3])
        have HE := Lib.hid e
        clear e
        go_enter Tryd.func39, Tryd.ntmps39
        go_wp2
        go_ret
        exact ⟨by rw [HE.out]; rfl, by (repeat' (first | (with_reducible exact Vg.Grows.refl _) | (with_reducible assumption) | (with_reducible refine Vg.Grows.alloc ?_ _) | (with_reducible refine Vg.Grows.plus ?_ _ _) | (with_reducible refine Vg.Grows.drewN ?_ _) | (with_reducible refine Vg.Grows.drew ?_) | (with_reducible refine Vg.Grows.setCell ?_ ?_ _) | (with_reducible refine Vg.Grows.put ?_ ?_ _) | omega | (simp; omega) | (simp; done)))⟩
    · have e := HC0.out false (by unfold Vg.Jb.rb; simp [q2])
      have HE := Lib.hid e
      clear e
      go_enter Tryd.func39, Tryd.ntmps39
      go_wp2
      go_ret
      exact ⟨by rw [HE.out]; rfl, by (repeat' (first | (with_reducible exact Vg.Grows.refl _) | (with_reducible assumption) | (with_reducible refine Vg.Grows.alloc ?_ _) | (with_reducible refine Vg.Grows.plus ?_ _ _) | (with_reducible refine Vg.Grows.drewN ?_ _) | (with_reducible refine Vg.Grows.drew ?_) | (with_reducible refine Vg.Grows.setCell ?_ ?_ _) | (with_reducible refine Vg.Grows.put ?_ ?_ _) | omega | (simp; omega) | (simp; done)))⟩
  · have e := HC0.out false (by unfold Vg.Jb.rb; simp [q1])
    have HE := Lib.hid e
    clear e
    go_enter Tryd.func39, Tryd.ntmps39
    go_wp2
    go_ret
    exact ⟨by rw [HE.out]; rfl, by (repeat' (first | (with_reducible exact Vg.Grows.refl _) | (with_reducible assumption) | (with_reducible refine Vg.Grows.alloc ?_ _) | (with_reducible refine Vg.Grows.plus ?_ _ _) | (with_reducible refine Vg.Grows.drewN ?_ _) | (with_reducible refine Vg.Grows.drew ?_) | (with_reducible refine Vg.Grows.setCell ?_ ?_ _) | (with_reducible refine Vg.Grows.put ?_ ?_ _) | omega | (simp; omega) | (simp; done)))⟩
theorem stats_of (x : Vg.Jb) (w : World) (h : x.rb = true) : Calls Tryd.prog 41 #[jbV x] w fun e w' => e = .returned (stV x.st) ∧ Vg.Grows w w' := by
  have hb := Vg.Jb.rb_true.1 h
  obtain ⟨t, a, r, d, l⟩ := x
  simp only [] at hb
  clear h
  by_cases q : l < d - a
  · have e : Vg.Jb.st ⟨t, a, r, d, l⟩ = ⟨1, 1, d - a, d - a, r - a⟩ := by unfold Vg.Jb.st; simp only [if_pos q]
    rw [e]
    clear e
    go_enter Tryd.func41, Tryd.ntmps41
    go_wp2
    go_returns
    exact ⟨rfl, by (repeat' (first | (with_reducible exact Vg.Grows.refl _) | (with_reducible assumption) | (with_reducible refine Vg.Grows.alloc ?_ _) | (with_reducible refine Vg.Grows.plus ?_ _ _) | (with_reducible refine Vg.Grows.drewN ?_ _) | (with_reducible refine Vg.Grows.drew ?_) | (with_reducible refine Vg.Grows.setCell ?_ ?_ _) | (with_reducible refine Vg.Grows.put ?_ ?_ _) | omega | (simp; omega) | (simp; done)))⟩
  · have e : Vg.Jb.st ⟨t, a, r, d, l⟩ = ⟨1, 0, d - a, d - a, r - a⟩ := by unfold Vg.Jb.st; simp only [if_neg q]
    rw [e]
    clear e
    go_enter Tryd.func41, Tryd.ntmps41
    go_wp2
    go_returns
    exact ⟨rfl, by (repeat' (first | (with_reducible exact Vg.Grows.refl _) | (with_reducible assumption) | (with_reducible refine Vg.Grows.alloc ?_ _) | (with_reducible refine Vg.Grows.plus ?_ _ _) | (with_reducible refine Vg.Grows.drewN ?_ _) | (with_reducible refine Vg.Grows.drew ?_) | (with_reducible refine Vg.Grows.setCell ?_ ?_ _) | (with_reducible refine Vg.Grows.put ?_ ?_ _) | omega | (simp; omega) | (simp; done)))⟩
theorem stats_jo (x y : Vg.St) (w : World) (hx : x.OK) (hy : y.OK) : Calls Tryd.prog 40 #[stV x, stV y] w fun e w' => e = .returned (.tuple #[stV (x.jo y), .bool (x.fit y)]) ∧ Vg.Grows w w' := by
  have a := hx.bd
  have b := hy.bd
  obtain ⟨j, m, wo, s, l⟩ := x
  obtain ⟨j', m', wo', s', l'⟩ := y
  simp only [] at a b
  clear hx hy
  obtain ⟨f, hf⟩ : ∃ f, Vg.St.fit ⟨j, m, wo, s, l⟩ ⟨j', m', wo', s', l'⟩ = f := ⟨_, rfl⟩
  rw [hf]
  obtain ⟨mw, hmw⟩ : ∃ mw, max wo wo' = mw := ⟨_, rfl⟩
  obtain ⟨ml, hml⟩ : ∃ ml, max l l' = ml := ⟨_, rfl⟩
  have e : Vg.St.jo ⟨j, m, wo, s, l⟩ ⟨j', m', wo', s', l'⟩ = ⟨j + j', m + m', mw, s + s', ml⟩ := by unfold Vg.St.jo; simp only [hmw, hml]
  rw [e]
  clear e
  have hf2 : f = (decide (j + j' ≤ 4503599627370496) && decide (s + s' ≤ 4503599627370496)) := by rw [← hf]; rfl
  have HF := Lib.hid hf2
  clear hf hf2
  have c1 : (wo < wo' ∧ mw = wo') ∨ (¬ wo < wo' ∧ mw = wo) := by omega
  have c2 : (l < l' ∧ ml = l') ∨ (¬ l < l' ∧ ml = l) := by omega
  have c3 : decide (j + j' ≤ 4503599627370496) = true ∨ decide (j + j' ≤ 4503599627370496) = false := by cases decide (j + j' ≤ 4503599627370496) <;> simp
  clear hmw hml
  rcases c3 with q3 | q3 <;> rcases c1 with ⟨q1, rfl⟩ | ⟨q1, rfl⟩ <;> rcases c2 with ⟨q2, rfl⟩ | ⟨q2, rfl⟩
  all_goals
    go_enter Tryd.func40, Tryd.ntmps40
    go_wp2
    go_region
  all_goals
    go_wp2
    go_region
  all_goals
    go_wp2
    go_returns
    exact ⟨by rw [HF.out]; simp [*], by (repeat' (first | (with_reducible exact Vg.Grows.refl _) | (with_reducible assumption) | (with_reducible refine Vg.Grows.alloc ?_ _) | (with_reducible refine Vg.Grows.plus ?_ _ _) | (with_reducible refine Vg.Grows.drewN ?_ _) | (with_reducible refine Vg.Grows.drew ?_) | (with_reducible refine Vg.Grows.setCell ?_ ?_ _) | (with_reducible refine Vg.Grows.put ?_ ?_ _) | omega | (simp; omega) | (simp; done)))⟩
end Go.Proofs.YtekjnagojphmkaaDoor
