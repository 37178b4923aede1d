/- Contracts of package shot and of vergeref04: Check, aim, Plan, Looks. -/
import Derived.Test.YtfkkkcihoejjgaaWrap
set_option linter.unusedSimpArgs false
set_option linter.unusedVariables false
set_option maxHeartbeats 1000000
set_option maxRecDepth 20000
namespace Vg
/-- A timing is right. -/
def tmB (mn mx : Int) : Bool := decide (1 ≤ mn) && decide (mx < 2147483648) && decide (2 * mn ≤ mx)
theorem tmB_true {mn mx : Int} : tmB mn mx = true ↔ 1 ≤ mn ∧ mx < 2147483648 ∧ 2 * mn ≤ mx := by simp [tmB, and_assoc]
def tmC (mn mx : Int) : Int := if tmB mn mx = true then 0 else 2
def aim (mn mx now dl : Int) : Int × Int :=
  if dl - now ≤ 0 then (1, now) else if dl - now < mn then (2, now + mn) else if dl - now ≤ mx then (3, dl) else (4, min (now + mx) (dl - mn))
def plan (mn mx now dl : Int) : Int × Int × Int :=
  if tmB mn mx = true then (if timeB now = true ∧ timeB dl = true then (if timeB (aim mn mx now dl).2 = true then ((aim mn mx now dl).1, (aim mn mx now dl).2, 0) else (0, 0, 6)) else (0, 0, 1)) else (0, 0, 2)
def looks (mn mx now dl : Int) : Int × Int :=
  if (plan mn mx now dl).2.2 ≠ 0 ∨ (plan mn mx now dl).1 ≠ 4 then (0, (plan mn mx now dl).2.2) else ((if (dl - now) % mx = 0 then (dl - now) / mx - 1 else (dl - now) / mx), 0)
theorem plan_ok {mn mx now dl : Int} (h1 : tmB mn mx = true) (h2 : timeB now = true) (h3 : timeB dl = true) : plan mn mx now dl = if timeB (aim mn mx now dl).2 = true then ((aim mn mx now dl).1, (aim mn mx now dl).2, 0) else (0, 0, 6) := by
  unfold plan; rw [if_pos h1, if_pos ⟨h2, h3⟩]
end Vg
namespace Go.Proofs.Ytfkkkcihoejjgaa
open Go.ChangeShapes Go.WideShapes Go.ChangeAt Go.RowKit
abbrev tmV (mn mx : Int) : Value := .agg #[.int .i64 mn, .int .i64 mx]
theorem shot_time (t : Int) (w : World) :
    Calls Try.prog 39 #[.int .i64 t] w fun e w' => e = .returned (.bool (Vg.timeB t)) ∧ w = w' := by
  go_enter Try.func39, Try.ntmps39
  go_wp2
  all_goals go_ret
  all_goals exact ⟨ret_bool (by first | (simp [Vg.timeB, *]; done) | (simp [Vg.timeB]; omega)), rfl⟩
theorem shot_check (mn mx : Int) (w : World) (hm : -9223372036854775808 ≤ mx) :
    Calls Try.prog 31 #[tmV mn mx] w fun e w' => e = .returned (.int .i64 (Vg.tmC mn mx)) ∧ Vg.Grows w w' := by
  by_cases h : Vg.tmB mn mx = true
  · have hb := Vg.tmB_true.1 h
    have e : Vg.tmC mn mx = 0 := if_pos h
    rw [e]
    clear e h
    go_enter Try.func31, Try.ntmps31
    go_wp2
    go_ret
    exact ⟨rfl, by (repeat' (first | (with_reducible exact Vg.Grows.refl _) | (with_reducible assumption) | (with_reducible refine Vg.Grows.alloc ?_ _) | (with_reducible refine Vg.Grows.plus ?_ _ _) | (with_reducible refine Vg.Grows.drewN ?_ _) | (with_reducible refine Vg.Grows.drew ?_) | (with_reducible refine Vg.Grows.setCell ?_ ?_ _) | (with_reducible refine Vg.Grows.put ?_ ?_ _) | omega | (simp; omega) | (simp; done)))⟩
  · have hb : ¬ (1 ≤ mn ∧ mx < 2147483648 ∧ 2 * mn ≤ mx) := fun hh => h (Vg.tmB_true.2 hh)
    have e : Vg.tmC mn mx = 2 := if_neg h
    rw [e]
    clear e h
    by_cases h1 : mn < 1
    · clear hb
      go_enter Try.func31, Try.ntmps31
      go_wp2
      go_ret
      exact ⟨rfl, by (repeat' (first | (with_reducible exact Vg.Grows.refl _) | (with_reducible assumption) | (with_reducible refine Vg.Grows.alloc ?_ _) | (with_reducible refine Vg.Grows.plus ?_ _ _) | (with_reducible refine Vg.Grows.drewN ?_ _) | (with_reducible refine Vg.Grows.drew ?_) | (with_reducible refine Vg.Grows.setCell ?_ ?_ _) | (with_reducible refine Vg.Grows.put ?_ ?_ _) | omega | (simp; omega) | (simp; done)))⟩
    · by_cases h2 : 2147483648 ≤ mx
      · clear hb
        go_enter Try.func31, Try.ntmps31
        go_wp2
        go_ret
        exact ⟨rfl, by (repeat' (first | (with_reducible exact Vg.Grows.refl _) | (with_reducible assumption) | (with_reducible refine Vg.Grows.alloc ?_ _) | (with_reducible refine Vg.Grows.plus ?_ _ _) | (with_reducible refine Vg.Grows.drewN ?_ _) | (with_reducible refine Vg.Grows.drew ?_) | (with_reducible refine Vg.Grows.setCell ?_ ?_ _) | (with_reducible refine Vg.Grows.put ?_ ?_ _) | omega | (simp; omega) | (simp; done)))⟩
      · have h3 : mx < 2 * mn := by omega
        clear hb
        by_cases h4 : 0 ≤ mx
        · have h5 : mx / 2 < mn := by omega
          go_enter Try.func31, Try.ntmps31
          go_wp2
          go_ret
          exact ⟨rfl, by (repeat' (first | (with_reducible exact Vg.Grows.refl _) | (with_reducible assumption) | (with_reducible refine Vg.Grows.alloc ?_ _) | (with_reducible refine Vg.Grows.plus ?_ _ _) | (with_reducible refine Vg.Grows.drewN ?_ _) | (with_reducible refine Vg.Grows.drew ?_) | (with_reducible refine Vg.Grows.setCell ?_ ?_ _) | (with_reducible refine Vg.Grows.put ?_ ?_ _) | omega | (simp; omega) | (simp; done)))⟩
        · have h5 : mx.tdiv 2 ≤ 0 := by
            have : mx.tdiv 2 = -((-mx) / 2) := by rw [← Int.tdiv_eq_ediv_of_nonneg (by omega), Int.neg_tdiv, Int.neg_neg]
            omega
          have h6 : mx.tdiv 2 < mn := by omega
          go_enter Try.func31, Try.ntmps31
          go_wp2
          go_ret
          exact ⟨rfl, by (repeat' (first | (with_reducible exact Vg.Grows.refl _) | (with_reducible assumption) | (with_reducible refine Vg.Grows.alloc ?_ _) | (with_reducible refine Vg.Grows.plus ?_ _ _) | (with_reducible refine Vg.Grows.drewN ?_ _) | (with_reducible refine Vg.Grows.drew ?_) | (with_reducible refine Vg.Grows.setCell ?_ ?_ _) | (with_reducible refine Vg.Grows.put ?_ ?_ _) | omega | (simp; omega) | (simp; done)))⟩
theorem ref04_check (mn mx : Int) (w : World) (hm : -9223372036854775808 ≤ mx) :
    Calls Try.prog 32 #[tmV mn mx] w fun e w' => e = .returned (.int .i64 (Vg.tmC mn mx)) ∧ Vg.Grows w w' := by
  by_cases h : Vg.tmB mn mx = true
  · have hb := Vg.tmB_true.1 h
    have e : Vg.tmC mn mx = 0 := if_pos h
    rw [e]
    clear e h
    go_enter Try.func32, Try.ntmps32
    go_wp2
    go_ret
    exact ⟨rfl, by (repeat' (first | (with_reducible exact Vg.Grows.refl _) | (with_reducible assumption) | (with_reducible refine Vg.Grows.alloc ?_ _) | (with_reducible refine Vg.Grows.plus ?_ _ _) | (with_reducible refine Vg.Grows.drewN ?_ _) | (with_reducible refine Vg.Grows.drew ?_) | (with_reducible refine Vg.Grows.setCell ?_ ?_ _) | (with_reducible refine Vg.Grows.put ?_ ?_ _) | omega | (simp; omega) | (simp; done)))⟩
  · have hb : ¬ (1 ≤ mn ∧ mx < 2147483648 ∧ 2 * mn ≤ mx) := fun hh => h (Vg.tmB_true.2 hh)
    have e : Vg.tmC mn mx = 2 := if_neg h
    rw [e]
    clear e h
    by_cases h1 : mn < 1
    · clear hb
      go_enter Try.func32, Try.ntmps32
      go_wp2
      go_ret
      exact ⟨rfl, by (repeat' (first | (with_reducible exact Vg.Grows.refl _) | (with_reducible assumption) | (with_reducible refine Vg.Grows.alloc ?_ _) | (with_reducible refine Vg.Grows.plus ?_ _ _) | (with_reducible refine Vg.Grows.drewN ?_ _) | (with_reducible refine Vg.Grows.drew ?_) | (with_reducible refine Vg.Grows.setCell ?_ ?_ _) | (with_reducible refine Vg.Grows.put ?_ ?_ _) | omega | (simp; omega) | (simp; done)))⟩
    · by_cases h2 : 2147483648 ≤ mx
      · clear hb
        go_enter Try.func32, Try.ntmps32
        go_wp2
        go_ret
        exact ⟨rfl, by (repeat' (first | (with_reducible exact Vg.Grows.refl _) | (with_reducible assumption) | (with_reducible refine Vg.Grows.alloc ?_ _) | (with_reducible refine Vg.Grows.plus ?_ _ _) | (with_reducible refine Vg.Grows.drewN ?_ _) | (with_reducible refine Vg.Grows.drew ?_) | (with_reducible refine Vg.Grows.setCell ?_ ?_ _) | (with_reducible refine Vg.Grows.put ?_ ?_ _) | omega | (simp; omega) | (simp; done)))⟩
      · have h3 : mx < 2 * mn := by omega
        clear hb
        by_cases h4 : 0 ≤ mx
        · have h5 : mx / 2 < mn := by omega
          go_enter Try.func32, Try.ntmps32
          go_wp2
          go_ret
          exact ⟨rfl, by (repeat' (first | (with_reducible exact Vg.Grows.refl _) | (with_reducible assumption) | (with_reducible refine Vg.Grows.alloc ?_ _) | (with_reducible refine Vg.Grows.plus ?_ _ _) | (with_reducible refine Vg.Grows.drewN ?_ _) | (with_reducible refine Vg.Grows.drew ?_) | (with_reducible refine Vg.Grows.setCell ?_ ?_ _) | (with_reducible refine Vg.Grows.put ?_ ?_ _) | omega | (simp; omega) | (simp; done)))⟩
        · have h5 : mx.tdiv 2 ≤ 0 := by
            have : mx.tdiv 2 = -((-mx) / 2) := by rw [← Int.tdiv_eq_ediv_of_nonneg (by omega), Int.neg_tdiv, Int.neg_neg]
            omega
          have h6 : mx.tdiv 2 < mn := by omega
          go_enter Try.func32, Try.ntmps32
          go_wp2
          go_ret
          exact ⟨rfl, by (repeat' (first | (with_reducible exact Vg.Grows.refl _) | (with_reducible assumption) | (with_reducible refine Vg.Grows.alloc ?_ _) | (with_reducible refine Vg.Grows.plus ?_ _ _) | (with_reducible refine Vg.Grows.drewN ?_ _) | (with_reducible refine Vg.Grows.drew ?_) | (with_reducible refine Vg.Grows.setCell ?_ ?_ _) | (with_reducible refine Vg.Grows.put ?_ ?_ _) | omega | (simp; omega) | (simp; done)))⟩
theorem shot_aim (mn mx now dl : Int) (w : World) (h1 : 1 ≤ mn ∧ mx < 2147483648 ∧ 2 * mn ≤ mx) (h2 : 0 ≤ now ∧ now ≤ 4503599627370496) (h3 : 0 ≤ dl ∧ dl ≤ 4503599627370496) :
    Calls Try.prog 40 #[tmV mn mx, .int .i64 now, .int .i64 dl] w fun e w' => e = .returned (.tuple #[.int .u8 (Vg.aim mn mx now dl).1, .int .i64 (Vg.aim mn mx now dl).2]) ∧ Vg.Grows w w' := by
  by_cases a1 : dl - now ≤ 0
  · have e : Vg.aim mn mx now dl = (1, now) := by unfold Vg.aim; rw [if_pos a1]
    rw [e]
    clear e
    go_enter Try.func40, Try.ntmps40
    go_wp2
    go_ret2
    exact ⟨rfl, by (repeat' (first | (with_reducible exact Vg.Grows.refl _) | (with_reducible assumption) | (with_reducible refine Vg.Grows.alloc ?_ _) | (with_reducible refine Vg.Grows.plus ?_ _ _) | (with_reducible refine Vg.Grows.drewN ?_ _) | (with_reducible refine Vg.Grows.drew ?_) | (with_reducible refine Vg.Grows.setCell ?_ ?_ _) | (with_reducible refine Vg.Grows.put ?_ ?_ _) | omega | (simp; omega) | (simp; done)))⟩
  · by_cases a2 : dl - now < mn
    · have e : Vg.aim mn mx now dl = (2, now + mn) := by unfold Vg.aim; rw [if_neg a1, if_pos a2]
      rw [e]
      clear e
      go_enter Try.func40, Try.ntmps40
      go_wp2
      go_region
      all_goals go_wp2
      all_goals go_ret2
      all_goals exact ⟨rfl, by (repeat' (first | (with_reducible exact Vg.Grows.refl _) | (with_reducible assumption) | (with_reducible refine Vg.Grows.alloc ?_ _) | (with_reducible refine Vg.Grows.plus ?_ _ _) | (with_reducible refine Vg.Grows.drewN ?_ _) | (with_reducible refine Vg.Grows.drew ?_) | (with_reducible refine Vg.Grows.setCell ?_ ?_ _) | (with_reducible refine Vg.Grows.put ?_ ?_ _) | omega | (simp; omega) | (simp; done)))⟩
    · by_cases a3 : dl - now ≤ mx
      · have e : Vg.aim mn mx now dl = (3, dl) := by unfold Vg.aim; rw [if_neg a1, if_neg a2, if_pos a3]
        rw [e]
        clear e
        go_enter Try.func40, Try.ntmps40
        go_wp2
        go_ret2
        exact ⟨rfl, by (repeat' (first | (with_reducible exact Vg.Grows.refl _) | (with_reducible assumption) | (with_reducible refine Vg.Grows.alloc ?_ _) | (with_reducible refine Vg.Grows.plus ?_ _ _) | (with_reducible refine Vg.Grows.drewN ?_ _) | (with_reducible refine Vg.Grows.drew ?_) | (with_reducible refine Vg.Grows.setCell ?_ ?_ _) | (with_reducible refine Vg.Grows.put ?_ ?_ _) | omega | (simp; omega) | (simp; done)))⟩
      · by_cases a4 : dl - mn < now + mx
        · have e : Vg.aim mn mx now dl = (4, dl - mn) := by unfold Vg.aim; rw [if_neg a1, if_neg a2, if_neg a3, show min (now + mx) (dl - mn) = dl - mn by omega]
          rw [e]
          clear e
          go_enter Try.func40, Try.ntmps40
          go_wp2
          go_region
          all_goals go_wp2
          all_goals go_ret2
          all_goals exact ⟨rfl, by (repeat' (first | (with_reducible exact Vg.Grows.refl _) | (with_reducible assumption) | (with_reducible refine Vg.Grows.alloc ?_ _) | (with_reducible refine Vg.Grows.plus ?_ _ _) | (with_reducible refine Vg.Grows.drewN ?_ _) | (with_reducible refine Vg.Grows.drew ?_) | (with_reducible refine Vg.Grows.setCell ?_ ?_ _) | (with_reducible refine Vg.Grows.put ?_ ?_ _) | omega | (simp; omega) | (simp; done)))⟩
        · have e : Vg.aim mn mx now dl = (4, now + mx) := by unfold Vg.aim; rw [if_neg a1, if_neg a2, if_neg a3, show min (now + mx) (dl - mn) = now + mx by omega]
          rw [e]
          clear e
          go_enter Try.func40, Try.ntmps40
          go_wp2
          go_region
          all_goals go_wp2
          all_goals go_ret2
          all_goals exact ⟨rfl, by (repeat' (first | (with_reducible exact Vg.Grows.refl _) | (with_reducible assumption) | (with_reducible refine Vg.Grows.alloc ?_ _) | (with_reducible refine Vg.Grows.plus ?_ _ _) | (with_reducible refine Vg.Grows.drewN ?_ _) | (with_reducible refine Vg.Grows.drew ?_) | (with_reducible refine Vg.Grows.setCell ?_ ?_ _) | (with_reducible refine Vg.Grows.put ?_ ?_ _) | omega | (simp; omega) | (simp; done)))⟩
theorem shot_plan (mn mx now dl : Int) (w : World) (hm : -9223372036854775808 ≤ mx) :
    Calls Try.prog 17 #[tmV mn mx, .int .i64 now, .int .i64 dl] w fun e w' => e = .returned (.tuple #[.int .u8 (Vg.plan mn mx now dl).1, .int .i64 (Vg.plan mn mx now dl).2.1, .int .i64 (Vg.plan mn mx now dl).2.2]) ∧ Vg.Grows w w' := by
  by_cases h1 : Vg.tmB mn mx = true
  · have hc : Vg.tmC mn mx = 0 := if_pos h1
    have hb := Vg.tmB_true.1 h1
    cases h2 : Vg.timeB now with
    | true =>
      have hn := Vg.timeB_true.1 h2
      cases h3 : Vg.timeB dl with
      | true =>
        have hd := Vg.timeB_true.1 h3
        obtain ⟨⟨k, at_⟩, ha⟩ : ∃ p, Vg.aim mn mx now dl = p := ⟨_, rfl⟩
        have e := Vg.plan_ok h1 h2 h3
        rw [ha] at e
        rw [e]
        cases h4 : Vg.timeB at_ with
        | true =>
          rw [if_pos rfl]
          have H_e := Lib.hid e; clear e; have H_h1 := Lib.hid h1; clear h1; have H_hc := Lib.hid hc; clear hc; have H_ha := Lib.hid ha; clear ha
          go_enter Try.func17, Try.ntmps17
          go_wp2_with (first | (go_at_call 31; (with_reducible refine (shot_check mn mx _ hm).mono ?_); rintro e w1 ⟨rfl, xa, na, rfl⟩; rw [H_hc.out]) | (go_at_call 39; refine (shot_time _ _).mono ?_; rintro e w' ⟨rfl, rfl⟩) | (go_at_call 40; (with_reducible refine (shot_aim mn mx now dl _ hb hn hd).mono ?_); rintro e w1 ⟨rfl, xb, nb, rfl⟩; rw [H_ha.out]))
          go_ret3
          exact ⟨rfl, by (repeat' (first | (with_reducible exact Vg.Grows.refl _) | (with_reducible assumption) | (with_reducible refine Vg.Grows.alloc ?_ _) | (with_reducible refine Vg.Grows.plus ?_ _ _) | (with_reducible refine Vg.Grows.drewN ?_ _) | (with_reducible refine Vg.Grows.drew ?_) | (with_reducible refine Vg.Grows.setCell ?_ ?_ _) | (with_reducible refine Vg.Grows.put ?_ ?_ _) | omega | (simp; omega) | (simp; done)))⟩
        | false =>
          rw [if_neg (by simp)]
          have H_e := Lib.hid e; clear e; have H_h1 := Lib.hid h1; clear h1; have H_hc := Lib.hid hc; clear hc; have H_ha := Lib.hid ha; clear ha
          go_enter Try.func17, Try.ntmps17
          go_wp2_with (first | (go_at_call 31; (with_reducible refine (shot_check mn mx _ hm).mono ?_); rintro e w1 ⟨rfl, xa, na, rfl⟩; rw [H_hc.out]) | (go_at_call 39; refine (shot_time _ _).mono ?_; rintro e w' ⟨rfl, rfl⟩) | (go_at_call 40; (with_reducible refine (shot_aim mn mx now dl _ hb hn hd).mono ?_); rintro e w1 ⟨rfl, xb, nb, rfl⟩; rw [H_ha.out]))
          go_ret3
          exact ⟨rfl, by (repeat' (first | (with_reducible exact Vg.Grows.refl _) | (with_reducible assumption) | (with_reducible refine Vg.Grows.alloc ?_ _) | (with_reducible refine Vg.Grows.plus ?_ _ _) | (with_reducible refine Vg.Grows.drewN ?_ _) | (with_reducible refine Vg.Grows.drew ?_) | (with_reducible refine Vg.Grows.setCell ?_ ?_ _) | (with_reducible refine Vg.Grows.put ?_ ?_ _) | omega | (simp; omega) | (simp; done)))⟩
      | false =>
        have e : Vg.plan mn mx now dl = (0, 0, 1) := by unfold Vg.plan; rw [if_pos h1, if_neg (by rw [h3]; simp)]
        rw [e]
        have H_e := Lib.hid e; clear e; have H_h1 := Lib.hid h1; clear h1; have H_hc := Lib.hid hc; clear hc
        go_enter Try.func17, Try.ntmps17
        go_wp2_with (first | (go_at_call 31; (with_reducible refine (shot_check mn mx _ hm).mono ?_); rintro e w1 ⟨rfl, xa, na, rfl⟩; rw [H_hc.out]) | (go_at_call 39; refine (shot_time _ _).mono ?_; rintro e w' ⟨rfl, rfl⟩))
        go_ret3
        exact ⟨rfl, by (repeat' (first | (with_reducible exact Vg.Grows.refl _) | (with_reducible assumption) | (with_reducible refine Vg.Grows.alloc ?_ _) | (with_reducible refine Vg.Grows.plus ?_ _ _) | (with_reducible refine Vg.Grows.drewN ?_ _) | (with_reducible refine Vg.Grows.drew ?_) | (with_reducible refine Vg.Grows.setCell ?_ ?_ _) | (with_reducible refine Vg.Grows.put ?_ ?_ _) | omega | (simp; omega) | (simp; done)))⟩
    | false =>
      have e : Vg.plan mn mx now dl = (0, 0, 1) := by unfold Vg.plan; rw [if_pos h1, if_neg (by rw [h2]; simp)]
      rw [e]
      have H_e := Lib.hid e; clear e; have H_h1 := Lib.hid h1; clear h1; have H_hc := Lib.hid hc; clear hc
      go_enter Try.func17, Try.ntmps17
      go_wp2_with (first | (go_at_call 31; (with_reducible refine (shot_check mn mx _ hm).mono ?_); rintro e w1 ⟨rfl, xa, na, rfl⟩; rw [H_hc.out]) | (go_at_call 39; refine (shot_time _ _).mono ?_; rintro e w' ⟨rfl, rfl⟩))
      go_ret3
      exact ⟨rfl, by (repeat' (first | (with_reducible exact Vg.Grows.refl _) | (with_reducible assumption) | (with_reducible refine Vg.Grows.alloc ?_ _) | (with_reducible refine Vg.Grows.plus ?_ _ _) | (with_reducible refine Vg.Grows.drewN ?_ _) | (with_reducible refine Vg.Grows.drew ?_) | (with_reducible refine Vg.Grows.setCell ?_ ?_ _) | (with_reducible refine Vg.Grows.put ?_ ?_ _) | omega | (simp; omega) | (simp; done)))⟩
  · have hc : Vg.tmC mn mx = 2 := if_neg h1
    have e : Vg.plan mn mx now dl = (0, 0, 2) := by unfold Vg.plan; rw [if_neg h1]
    rw [e]
    have H_e := Lib.hid e; clear e; have H_h1 := Lib.hid h1; clear h1; have H_hc := Lib.hid hc; clear hc
    go_enter Try.func17, Try.ntmps17
    go_wp2_with ((go_at_call 31; (with_reducible refine (shot_check mn mx _ hm).mono ?_); rintro e w1 ⟨rfl, xa, na, rfl⟩; rw [H_hc.out]))
    go_ret3
    exact ⟨rfl, by (repeat' (first | (with_reducible exact Vg.Grows.refl _) | (with_reducible assumption) | (with_reducible refine Vg.Grows.alloc ?_ _) | (with_reducible refine Vg.Grows.plus ?_ _ _) | (with_reducible refine Vg.Grows.drewN ?_ _) | (with_reducible refine Vg.Grows.drew ?_) | (with_reducible refine Vg.Grows.setCell ?_ ?_ _) | (with_reducible refine Vg.Grows.put ?_ ?_ _) | omega | (simp; omega) | (simp; done)))⟩
theorem ref04_plan (mn mx now dl : Int) (w : World) (hm : -9223372036854775808 ≤ mx) :
    Calls Try.prog 29 #[tmV mn mx, .int .i64 now, .int .i64 dl] w fun e w' => e = .returned (.tuple #[.int .u8 (Vg.plan mn mx now dl).1, .int .i64 (Vg.plan mn mx now dl).2.1, .int .i64 (Vg.plan mn mx now dl).2.2]) ∧ Vg.Grows w w' := by
  by_cases h1 : Vg.tmB mn mx = true
  · have hc : Vg.tmC mn mx = 0 := if_pos h1
    have hb := Vg.tmB_true.1 h1
    cases h2 : Vg.timeB now with
    | true =>
      have hn := Vg.timeB_true.1 h2
      cases h3 : Vg.timeB dl with
      | true =>
        have hd := Vg.timeB_true.1 h3
        have e := Vg.plan_ok h1 h2 h3
        by_cases a1 : dl - now ≤ 0
        · have ha : Vg.aim mn mx now dl = (1, now) := by unfold Vg.aim; rw [if_pos a1]
          rw [ha, if_pos (show Vg.timeB now = true from h2)] at e
          rw [e]
          have H_e := Lib.hid e; clear e; have H_h1 := Lib.hid h1; clear h1; have H_hc := Lib.hid hc; clear hc; have H_ha := Lib.hid ha; clear ha
          go_enter Try.func29, Try.ntmps29
          go_wp2_with (first | (go_at_call 32; (with_reducible refine (ref04_check mn mx _ hm).mono ?_); rintro e w1 ⟨rfl, xa, na, rfl⟩; rw [H_hc.out]) | (go_at_call 45; refine (reftime_any _ _).mono ?_; rintro e w' ⟨rfl, rfl⟩))
          go_ret3
          exact ⟨rfl, by (repeat' (first | (with_reducible exact Vg.Grows.refl _) | (with_reducible assumption) | (with_reducible refine Vg.Grows.alloc ?_ _) | (with_reducible refine Vg.Grows.plus ?_ _ _) | (with_reducible refine Vg.Grows.drewN ?_ _) | (with_reducible refine Vg.Grows.drew ?_) | (with_reducible refine Vg.Grows.setCell ?_ ?_ _) | (with_reducible refine Vg.Grows.put ?_ ?_ _) | omega | (simp; omega) | (simp; done)))⟩
        · by_cases a2 : dl - now < mn
          · have ha : Vg.aim mn mx now dl = (2, now + mn) := by unfold Vg.aim; rw [if_neg a1, if_pos a2]
            cases h4 : Vg.timeB (now + mn) with
            | true =>
              rw [ha, if_pos h4] at e
              rw [e]
              have H_e := Lib.hid e; clear e; have H_h1 := Lib.hid h1; clear h1; have H_hc := Lib.hid hc; clear hc; have H_ha := Lib.hid ha; clear ha
              go_enter Try.func29, Try.ntmps29
              go_wp2_with (first | (go_at_call 32; (with_reducible refine (ref04_check mn mx _ hm).mono ?_); rintro e w1 ⟨rfl, xa, na, rfl⟩; rw [H_hc.out]) | (go_at_call 45; refine (reftime_any _ _).mono ?_; rintro e w' ⟨rfl, rfl⟩))
              go_region
              all_goals go_wp2
              all_goals go_ret3
              all_goals exact ⟨rfl, by (repeat' (first | (with_reducible exact Vg.Grows.refl _) | (with_reducible assumption) | (with_reducible refine Vg.Grows.alloc ?_ _) | (with_reducible refine Vg.Grows.plus ?_ _ _) | (with_reducible refine Vg.Grows.drewN ?_ _) | (with_reducible refine Vg.Grows.drew ?_) | (with_reducible refine Vg.Grows.setCell ?_ ?_ _) | (with_reducible refine Vg.Grows.put ?_ ?_ _) | omega | (simp; omega) | (simp; done)))⟩
            | false =>
              rw [ha, if_neg (by rw [h4]; simp)] at e
              rw [e]
              have H_e := Lib.hid e; clear e; have H_h1 := Lib.hid h1; clear h1; have H_hc := Lib.hid hc; clear hc; have H_ha := Lib.hid ha; clear ha
              go_enter Try.func29, Try.ntmps29
              go_wp2_with (first | (go_at_call 32; (with_reducible refine (ref04_check mn mx _ hm).mono ?_); rintro e w1 ⟨rfl, xa, na, rfl⟩; rw [H_hc.out]) | (go_at_call 45; refine (reftime_any _ _).mono ?_; rintro e w' ⟨rfl, rfl⟩))
              go_ret3
              exact ⟨rfl, by (repeat' (first | (with_reducible exact Vg.Grows.refl _) | (with_reducible assumption) | (with_reducible refine Vg.Grows.alloc ?_ _) | (with_reducible refine Vg.Grows.plus ?_ _ _) | (with_reducible refine Vg.Grows.drewN ?_ _) | (with_reducible refine Vg.Grows.drew ?_) | (with_reducible refine Vg.Grows.setCell ?_ ?_ _) | (with_reducible refine Vg.Grows.put ?_ ?_ _) | omega | (simp; omega) | (simp; done)))⟩
          · by_cases a3 : dl - now ≤ mx
            · have ha : Vg.aim mn mx now dl = (3, dl) := by unfold Vg.aim; rw [if_neg a1, if_neg a2, if_pos a3]
              rw [ha, if_pos (show Vg.timeB dl = true from h3)] at e
              rw [e]
              have H_e := Lib.hid e; clear e; have H_h1 := Lib.hid h1; clear h1; have H_hc := Lib.hid hc; clear hc; have H_ha := Lib.hid ha; clear ha
              go_enter Try.func29, Try.ntmps29
              go_wp2_with (first | (go_at_call 32; (with_reducible refine (ref04_check mn mx _ hm).mono ?_); rintro e w1 ⟨rfl, xa, na, rfl⟩; rw [H_hc.out]) | (go_at_call 45; refine (reftime_any _ _).mono ?_; rintro e w' ⟨rfl, rfl⟩))
              go_ret3
              exact ⟨rfl, by (repeat' (first | (with_reducible exact Vg.Grows.refl _) | (with_reducible assumption) | (with_reducible refine Vg.Grows.alloc ?_ _) | (with_reducible refine Vg.Grows.plus ?_ _ _) | (with_reducible refine Vg.Grows.drewN ?_ _) | (with_reducible refine Vg.Grows.drew ?_) | (with_reducible refine Vg.Grows.setCell ?_ ?_ _) | (with_reducible refine Vg.Grows.put ?_ ?_ _) | omega | (simp; omega) | (simp; done)))⟩
            · by_cases a4 : mn ≤ dl - now - mx
              · have ha : Vg.aim mn mx now dl = (4, now + mx) := by unfold Vg.aim; rw [if_neg a1, if_neg a2, if_neg a3, show min (now + mx) (dl - mn) = now + mx by omega]
                rw [ha, if_pos (show Vg.timeB (now + mx) = true from Vg.timeB_true.2 (by omega))] at e
                rw [e]
                have H_e := Lib.hid e; clear e; have H_h1 := Lib.hid h1; clear h1; have H_hc := Lib.hid hc; clear hc; have H_ha := Lib.hid ha; clear ha
                go_enter Try.func29, Try.ntmps29
                go_wp2_with (first | (go_at_call 32; (with_reducible refine (ref04_check mn mx _ hm).mono ?_); rintro e w1 ⟨rfl, xa, na, rfl⟩; rw [H_hc.out]) | (go_at_call 45; refine (reftime_any _ _).mono ?_; rintro e w' ⟨rfl, rfl⟩))
                go_region
                all_goals go_wp2
                all_goals go_ret3
                all_goals exact ⟨rfl, by (repeat' (first | (with_reducible exact Vg.Grows.refl _) | (with_reducible assumption) | (with_reducible refine Vg.Grows.alloc ?_ _) | (with_reducible refine Vg.Grows.plus ?_ _ _) | (with_reducible refine Vg.Grows.drewN ?_ _) | (with_reducible refine Vg.Grows.drew ?_) | (with_reducible refine Vg.Grows.setCell ?_ ?_ _) | (with_reducible refine Vg.Grows.put ?_ ?_ _) | omega | (simp; omega) | (simp; done)))⟩
              · have ha : Vg.aim mn mx now dl = (4, dl - mn) := by unfold Vg.aim; rw [if_neg a1, if_neg a2, if_neg a3, show min (now + mx) (dl - mn) = dl - mn by omega]
                rw [ha, if_pos (show Vg.timeB (dl - mn) = true from Vg.timeB_true.2 (by omega))] at e
                rw [e]
                have H_e := Lib.hid e; clear e; have H_h1 := Lib.hid h1; clear h1; have H_hc := Lib.hid hc; clear hc; have H_ha := Lib.hid ha; clear ha
                go_enter Try.func29, Try.ntmps29
                go_wp2_with (first | (go_at_call 32; (with_reducible refine (ref04_check mn mx _ hm).mono ?_); rintro e w1 ⟨rfl, xa, na, rfl⟩; rw [H_hc.out]) | (go_at_call 45; refine (reftime_any _ _).mono ?_; rintro e w' ⟨rfl, rfl⟩))
                go_region
                all_goals go_wp2
                all_goals go_ret3
                all_goals exact ⟨rfl, by (repeat' (first | (with_reducible exact Vg.Grows.refl _) | (with_reducible assumption) | (with_reducible refine Vg.Grows.alloc ?_ _) | (with_reducible refine Vg.Grows.plus ?_ _ _) | (with_reducible refine Vg.Grows.drewN ?_ _) | (with_reducible refine Vg.Grows.drew ?_) | (with_reducible refine Vg.Grows.setCell ?_ ?_ _) | (with_reducible refine Vg.Grows.put ?_ ?_ _) | omega | (simp; omega) | (simp; done)))⟩
      | false =>
        have e : Vg.plan mn mx now dl = (0, 0, 1) := by unfold Vg.plan; rw [if_pos h1, if_neg (by rw [h3]; simp)]
        rw [e]
        have H_e := Lib.hid e; clear e; have H_h1 := Lib.hid h1; clear h1; have H_hc := Lib.hid hc; clear hc
        go_enter Try.func29, Try.ntmps29
        go_wp2_with (first | (go_at_call 32; (with_reducible refine (ref04_check mn mx _ hm).mono ?_); rintro e w1 ⟨rfl, xa, na, rfl⟩; rw [H_hc.out]) | (go_at_call 45; refine (reftime_any _ _).mono ?_; rintro e w' ⟨rfl, rfl⟩))
        go_ret3
        exact ⟨rfl, by (repeat' (first | (with_reducible exact Vg.Grows.refl _) | (with_reducible assumption) | (with_reducible refine Vg.Grows.alloc ?_ _) | (with_reducible refine Vg.Grows.plus ?_ _ _) | (with_reducible refine Vg.Grows.drewN ?_ _) | (with_reducible refine Vg.Grows.drew ?_) | (with_reducible refine Vg.Grows.setCell ?_ ?_ _) | (with_reducible refine Vg.Grows.put ?_ ?_ _) | omega | (simp; omega) | (simp; done)))⟩
    | false =>
      have e : Vg.plan mn mx now dl = (0, 0, 1) := by unfold Vg.plan; rw [if_pos h1, if_neg (by rw [h2]; simp)]
      rw [e]
      have H_e := Lib.hid e; clear e; have H_h1 := Lib.hid h1; clear h1; have H_hc := Lib.hid hc; clear hc
      go_enter Try.func29, Try.ntmps29
      go_wp2_with (first | (go_at_call 32; (with_reducible refine (ref04_check mn mx _ hm).mono ?_); rintro e w1 ⟨rfl, xa, na, rfl⟩; rw [H_hc.out]) | (go_at_call 45; refine (reftime_any _ _).mono ?_; rintro e w' ⟨rfl, rfl⟩))
      go_ret3
      exact ⟨rfl, by (repeat' (first | (with_reducible exact Vg.Grows.refl _) | (with_reducible assumption) | (with_reducible refine Vg.Grows.alloc ?_ _) | (with_reducible refine Vg.Grows.plus ?_ _ _) | (with_reducible refine Vg.Grows.drewN ?_ _) | (with_reducible refine Vg.Grows.drew ?_) | (with_reducible refine Vg.Grows.setCell ?_ ?_ _) | (with_reducible refine Vg.Grows.put ?_ ?_ _) | omega | (simp; omega) | (simp; done)))⟩
  · have hc : Vg.tmC mn mx = 2 := if_neg h1
    have e : Vg.plan mn mx now dl = (0, 0, 2) := by unfold Vg.plan; rw [if_neg h1]
    rw [e]
    have H_e := Lib.hid e; clear e; have H_h1 := Lib.hid h1; clear h1; have H_hc := Lib.hid hc; clear hc
    go_enter Try.func29, Try.ntmps29
    go_wp2_with ((go_at_call 32; (with_reducible refine (ref04_check mn mx _ hm).mono ?_); rintro e w1 ⟨rfl, xa, na, rfl⟩; rw [H_hc.out]))
    go_ret3
    exact ⟨rfl, by (repeat' (first | (with_reducible exact Vg.Grows.refl _) | (with_reducible assumption) | (with_reducible refine Vg.Grows.alloc ?_ _) | (with_reducible refine Vg.Grows.plus ?_ _ _) | (with_reducible refine Vg.Grows.drewN ?_ _) | (with_reducible refine Vg.Grows.drew ?_) | (with_reducible refine Vg.Grows.setCell ?_ ?_ _) | (with_reducible refine Vg.Grows.put ?_ ?_ _) | omega | (simp; omega) | (simp; done)))⟩
theorem shot_looks (mn mx now dl : Int) (w : World) (hm : -9223372036854775808 ≤ mx) :
    Calls Try.prog 15 #[tmV mn mx, .int .i64 now, .int .i64 dl] w fun e w' => e = .returned (.tuple #[.int .i64 (Vg.looks mn mx now dl).1, .int .i64 (Vg.looks mn mx now dl).2]) ∧ Vg.Grows w w' := by
  obtain ⟨⟨k, at_, no⟩, hp⟩ : ∃ p, Vg.plan mn mx now dl = p := ⟨_, rfl⟩
  by_cases h1 : no = 0
  · by_cases h2 : k = 4
    · subst h1 h2
      have hb : 1 ≤ mn ∧ mx < 2147483648 ∧ 2 * mn ≤ mx ∧ 0 ≤ now ∧ now ≤ 4503599627370496 ∧ 0 ≤ dl ∧ dl ≤ 4503599627370496 ∧ 0 < dl - now := by
        unfold Vg.plan at hp
        split at hp
        · rename_i q1
          split at hp
          · rename_i q2
            have b1 := Vg.tmB_true.1 q1
            have b2 := Vg.timeB_true.1 q2.1
            have b3 := Vg.timeB_true.1 q2.2
            refine ⟨b1.1, b1.2.1, b1.2.2, b2.1, b2.2, b3.1, b3.2, ?_⟩
            split at hp
            · have : (Vg.aim mn mx now dl).1 = 4 := congrArg Prod.fst hp
              unfold Vg.aim at this
              by_cases q4 : dl - now ≤ 0
              · rw [if_pos q4] at this; simp at this
              · omega
            · simp at hp
          · simp at hp
        · simp at hp
      have hsub : IntKind.i64.wrap (dl - now) = dl - now := by rw [IntWalk.i64_in _ (by omega)]
      have hmx : 0 < mx := by omega
      have hq0 : 0 ≤ (dl - now) / mx := Int.ediv_nonneg (by omega) (by omega)
      have hq1 : (dl - now) / mx ≤ dl - now := Int.ediv_le_self _ (by omega)
      by_cases h3 : (dl - now) % mx = 0
      · have e : Vg.looks mn mx now dl = ((dl - now) / mx - 1, 0) := by unfold Vg.looks; rw [hp]; simp [h3]
        have h3b : ((dl - now) % mx == 0) = true := by simp [h3]
        have hsub2 : IntKind.i64.wrap ((dl - now) / mx - 1) = (dl - now) / mx - 1 := by rw [IntWalk.i64_in _ (by omega)]
        rw [e]
        have H_e := Lib.hid e; clear e; have H_hp := Lib.hid hp; clear hp; have H_h3 := Lib.hid h3; clear h3
        go_enter Try.func15, Try.ntmps15
        go_wp2_with ((go_at_call 17; (with_reducible refine (shot_plan mn mx now dl _ hm).mono ?_); rintro e w1 ⟨rfl, xa, na, rfl⟩; rw [H_hp.out]))
        go_ret2
        exact ⟨rfl, by (repeat' (first | (with_reducible exact Vg.Grows.refl _) | (with_reducible assumption) | (with_reducible refine Vg.Grows.alloc ?_ _) | (with_reducible refine Vg.Grows.plus ?_ _ _) | (with_reducible refine Vg.Grows.drewN ?_ _) | (with_reducible refine Vg.Grows.drew ?_) | (with_reducible refine Vg.Grows.setCell ?_ ?_ _) | (with_reducible refine Vg.Grows.put ?_ ?_ _) | omega | (simp; omega) | (simp; done)))⟩
      · have e : Vg.looks mn mx now dl = ((dl - now) / mx, 0) := by unfold Vg.looks; rw [hp]; simp [h3]
        have h3b : ((dl - now) % mx == 0) = false := by simp [h3]
        rw [e]
        have H_e := Lib.hid e; clear e; have H_hp := Lib.hid hp; clear hp; have H_h3 := Lib.hid h3; clear h3
        go_enter Try.func15, Try.ntmps15
        go_wp2_with ((go_at_call 17; (with_reducible refine (shot_plan mn mx now dl _ hm).mono ?_); rintro e w1 ⟨rfl, xa, na, rfl⟩; rw [H_hp.out]))
        go_ret2
        exact ⟨rfl, by (repeat' (first | (with_reducible exact Vg.Grows.refl _) | (with_reducible assumption) | (with_reducible refine Vg.Grows.alloc ?_ _) | (with_reducible refine Vg.Grows.plus ?_ _ _) | (with_reducible refine Vg.Grows.drewN ?_ _) | (with_reducible refine Vg.Grows.drew ?_) | (with_reducible refine Vg.Grows.setCell ?_ ?_ _) | (with_reducible refine Vg.Grows.put ?_ ?_ _) | omega | (simp; omega) | (simp; done)))⟩
    · subst h1
      have e : Vg.looks mn mx now dl = (0, 0) := by unfold Vg.looks; rw [hp]; simp [h2]
      have h2b : (k == 4) = false := by simp [h2]
      rw [e]
      have H_e := Lib.hid e; clear e; have H_hp := Lib.hid hp; clear hp; have H_h2 := Lib.hid h2; clear h2
      go_enter Try.func15, Try.ntmps15
      go_wp2_with ((go_at_call 17; (with_reducible refine (shot_plan mn mx now dl _ hm).mono ?_); rintro e w1 ⟨rfl, xa, na, rfl⟩; rw [H_hp.out]))
      go_ret2
      exact ⟨rfl, by (repeat' (first | (with_reducible exact Vg.Grows.refl _) | (with_reducible assumption) | (with_reducible refine Vg.Grows.alloc ?_ _) | (with_reducible refine Vg.Grows.plus ?_ _ _) | (with_reducible refine Vg.Grows.drewN ?_ _) | (with_reducible refine Vg.Grows.drew ?_) | (with_reducible refine Vg.Grows.setCell ?_ ?_ _) | (with_reducible refine Vg.Grows.put ?_ ?_ _) | omega | (simp; omega) | (simp; done)))⟩
  · have e : Vg.looks mn mx now dl = (0, no) := by unfold Vg.looks; rw [hp]; simp [h1]
    have h1b : (no == 0) = false := by simp [h1]
    rw [e]
    have H_e := Lib.hid e; clear e; have H_hp := Lib.hid hp; clear hp; have H_h1 := Lib.hid h1; clear h1
    go_enter Try.func15, Try.ntmps15
    go_wp2_with ((go_at_call 17; (with_reducible refine (shot_plan mn mx now dl _ hm).mono ?_); rintro e w1 ⟨rfl, xa, na, rfl⟩; rw [H_hp.out]))
    go_ret2
    exact ⟨rfl, by (repeat' (first | (with_reducible exact Vg.Grows.refl _) | (with_reducible assumption) | (with_reducible refine Vg.Grows.alloc ?_ _) | (with_reducible refine Vg.Grows.plus ?_ _ _) | (with_reducible refine Vg.Grows.drewN ?_ _) | (with_reducible refine Vg.Grows.drew ?_) | (with_reducible refine Vg.Grows.setCell ?_ ?_ _) | (with_reducible refine Vg.Grows.put ?_ ?_ _) | omega | (simp; omega) | (simp; done)))⟩
end Go.Proofs.Ytfkkkcihoejjgaa
