/- Law 4: lives, ShotPlans, ShotArms, ShotWithin. -/
import Derived.Test.YtfkkkcihoejjgaaShotA
set_option linter.unusedSimpArgs false
set_option linter.unusedVariables false
set_option maxHeartbeats 1000000
set_option maxRecDepth 20000
namespace Go.Proofs.Ytfkkkcihoejjgaa
open Go.ChangeShapes Go.WideShapes Go.ChangeAt Go.RowKit
theorem lives04 (w : World) : Calls Try.prog 30 #[] w fun e w' => e = .returned (.bool true) ∧ Vg.Grows w w' := by
  have e1 : Vg.plan 4 100 10 12 = (2, 14, 0) := by kernel_rfl
  have e2 : Vg.plan 4 100 10 50 = (3, 50, 0) := by kernel_rfl
  have e3 : Vg.plan 4 100 10 112 = (4, 108, 0) := by kernel_rfl
  have e4 : Vg.plan 4 100 10 300 = (4, 110, 0) := by kernel_rfl
  have e5 : Vg.plan 4 100 10 9 = (1, 10, 0) := by kernel_rfl
  have e6 : Vg.looks 4 100 10 300 = (2, 0) := by kernel_rfl
  have e7 : Vg.plan 4 100 (-1) 9 = (0, 0, 1) := by kernel_rfl
  have e8 : armV 10 0 false false 10 4 100 50 = .tuple #[ckV 10 50 true false 10, .int .u8 3, .int .i64 0] := by kernel_rfl
  have e9 : Vg.tmC 4 100 = 0 := by kernel_rfl
  have e10 : (if Vg.timeB 10 = true then Value.tuple #[ckV (Vg.low 10) 0 false false 10, .int .i64 0] else .tuple #[ckV 0 0 false false 0, .int .i64 1]) = .tuple #[ckV 10 0 false false 10, .int .i64 0] := by kernel_rfl
  have H_e1 := Lib.hid e1; clear e1; have H_e2 := Lib.hid e2; clear e2; have H_e3 := Lib.hid e3; clear e3; have H_e4 := Lib.hid e4; clear e4; have H_e5 := Lib.hid e5; clear e5; have H_e6 := Lib.hid e6; clear e6; have H_e7 := Lib.hid e7; clear e7; have H_e8 := Lib.hid e8; clear e8; have H_e9 := Lib.hid e9; clear e9; have H_e10 := Lib.hid e10; clear e10
  go_enter Try.func30, Try.ntmps30
  go_wp2_with (first | (go_at_call 17; (with_reducible refine (shot_plan 4 100 10 12 _ (by omega)).mono ?_); rintro e w1 ⟨rfl, x1, n1, rfl⟩; rw [H_e1.out]) | (go_at_call 17; (with_reducible refine (shot_plan 4 100 10 50 _ (by omega)).mono ?_); rintro e w1 ⟨rfl, x2, n2, rfl⟩; rw [H_e2.out]) | (go_at_call 17; (with_reducible refine (shot_plan 4 100 10 112 _ (by omega)).mono ?_); rintro e w1 ⟨rfl, x3, n3, rfl⟩; rw [H_e3.out]) | (go_at_call 17; (with_reducible refine (shot_plan 4 100 10 300 _ (by omega)).mono ?_); rintro e w1 ⟨rfl, x4, n4, rfl⟩; rw [H_e4.out]) | (go_at_call 17; (with_reducible refine (shot_plan 4 100 10 9 _ (by omega)).mono ?_); rintro e w1 ⟨rfl, x5, n5, rfl⟩; rw [H_e5.out]) | (go_at_call 17; (with_reducible refine (shot_plan 4 100 (-1) 9 _ (by omega)).mono ?_); rintro e w1 ⟨rfl, x7, n7, rfl⟩; rw [H_e7.out]) | (go_at_call 15; (with_reducible refine (shot_looks 4 100 10 300 _ (by omega)).mono ?_); rintro e w1 ⟨rfl, x6, n6, rfl⟩; rw [H_e6.out]) | (go_at_call 14; (with_reducible refine (clock_make 10 _).mono ?_); rintro e w1 ⟨rfl, x10, n10, rfl⟩; rw [H_e10.out]) | (go_at_call 16; (with_reducible refine (shot_arm 10 0 false false 10 4 100 50 _ (by omega) (by omega)).mono ?_); rintro e w1 ⟨rfl, x8, n8, rfl⟩; rw [H_e8.out]) | (go_at_call 31; (with_reducible refine (shot_check 4 100 _ (by omega)).mono ?_); rintro e w1 ⟨rfl, x9, n9, rfl⟩; rw [H_e9.out]))
  go_ret
  exact ⟨rfl, by (repeat' (first | (with_reducible exact Vg.Grows.refl _) | (with_reducible assumption) | (with_reducible refine Vg.Grows.alloc ?_ _) | (with_reducible refine Vg.Grows.plus ?_ _ _) | (with_reducible refine Vg.Grows.drewN ?_ _) | (with_reducible refine Vg.Grows.drew ?_) | (with_reducible refine Vg.Grows.setCell ?_ ?_ _) | (with_reducible refine Vg.Grows.put ?_ ?_ _) | omega | (simp; omega) | (simp; done)))⟩
theorem ShotPlans_walk (mn mx now dl : Int) (w : World) (hm : -9223372036854775808 ≤ mx) :
    Calls Try.prog 7 #[tmV mn mx, .int .i64 now, .int .i64 dl] w fun e w' => e = .returned (.bool true) ∧ Vg.Grows w w' := by
  obtain ⟨⟨k, at_, no⟩, hp⟩ : ∃ p, Vg.plan mn mx now dl = p := ⟨_, rfl⟩
  obtain ⟨c, hc⟩ : ∃ c, Vg.tmC mn mx = c := ⟨_, rfl⟩
  have H_hp := Lib.hid hp; clear hp; have H_hc := Lib.hid hc; clear hc
  go_enter Try.func7, Try.ntmps7
  go_wp2_with (first | (go_at_call 17; (with_reducible refine (shot_plan mn mx now dl _ hm).mono ?_); rintro e w1 ⟨rfl, x1, n1, rfl⟩; rw [H_hp.out]) | (go_at_call 29; (with_reducible refine (ref04_plan mn mx now dl _ hm).mono ?_); rintro e w1 ⟨rfl, x2, n2, rfl⟩; rw [H_hp.out]) | (go_at_call 30; (with_reducible refine (lives04 _).mono ?_); rintro e w1 ⟨rfl, x3, n3, rfl⟩) | (go_at_call 31; (with_reducible refine (shot_check mn mx _ hm).mono ?_); rintro e w1 ⟨rfl, x4, n4, rfl⟩; rw [H_hc.out]) | (go_at_call 32; (with_reducible refine (ref04_check mn mx _ hm).mono ?_); rintro e w1 ⟨rfl, x5, n5, rfl⟩; rw [H_hc.out]))
  go_region_held3 (fun w' => Vg.Grows w w' ∧ w.heap.size < w'.heap.size ∧ w'.cell? ⟨w.heap.size, 0, none⟩ = some (.int .i64 mn) ∧ w'.cell? ⟨w.heap.size, 1, none⟩ = some (.int .i64 mx))
    ((go_split_ands; (try dsimp only); refine ⟨by (repeat' (first | (with_reducible exact Vg.Grows.refl _) | (with_reducible assumption) | (with_reducible refine Vg.Grows.alloc ?_ _) | (with_reducible refine Vg.Grows.plus ?_ _ _) | (with_reducible refine Vg.Grows.drewN ?_ _) | (with_reducible refine Vg.Grows.drew ?_) | (with_reducible refine Vg.Grows.setCell ?_ ?_ _) | (with_reducible refine Vg.Grows.put ?_ ?_ _) | omega | (simp; omega) | (simp; done))), ?_⟩; go_simp))
    (first | (go_at_call 30; (with_reducible refine (lives04 _).mono ?_); rintro e w1 ⟨rfl, x3, n3, rfl⟩) | (go_at_call 31; (with_reducible refine (shot_check mn mx _ hm).mono ?_); rintro e w1 ⟨rfl, x4, n4, rfl⟩; rw [H_hc.out]) | (go_at_call 32; (with_reducible refine (ref04_check mn mx _ hm).mono ?_); rintro e w1 ⟨rfl, x5, n5, rfl⟩; rw [H_hc.out]))
  all_goals go_wp2
  all_goals go_ret
  all_goals exact ⟨rfl, by (repeat' (first | (with_reducible exact Vg.Grows.refl _) | (with_reducible assumption) | (with_reducible refine Vg.Grows.alloc ?_ _) | (with_reducible refine Vg.Grows.plus ?_ _ _) | (with_reducible refine Vg.Grows.drewN ?_ _) | (with_reducible refine Vg.Grows.drew ?_) | (with_reducible refine Vg.Grows.setCell ?_ ?_ _) | (with_reducible refine Vg.Grows.put ?_ ?_ _) | omega | (simp; omega) | (simp; done)))⟩
theorem ShotArms_walk (c n : Int) (ar la : Bool) (last mn mx dl : Int) (w : World) (hc : 0 ≤ c ∧ c ≤ 4294967295) (hm : -9223372036854775808 ≤ mx) :
    Calls Try.prog 8 #[ckV c n ar la last, tmV mn mx, .int .i64 dl] w fun e w' => e = .returned (.bool true) ∧ Vg.Grows w w' := by
  obtain ⟨c', n', ar', la', last', k, no, ha⟩ : ∃ c' n' ar' la' last' k no, armV c n ar la last mn mx dl = .tuple #[ckV c' n' ar' la' last', .int .u8 k, .int .i64 no] := by
    unfold armV
    split
    · split
      · split
        · exact ⟨_, _, _, _, _, _, _, rfl⟩
        · exact ⟨_, _, _, _, _, _, _, rfl⟩
      · exact ⟨_, _, _, _, _, _, _, rfl⟩
    · exact ⟨_, _, _, _, _, _, _, rfl⟩
  have H_ha := Lib.hid ha; clear ha
  go_enter Try.func8, Try.ntmps8
  go_wp2_with (first | (go_at_call 16; (with_reducible refine (shot_arm c n ar la last mn mx dl _ hc hm).mono ?_); rintro e w1 ⟨rfl, x1, n1, rfl⟩; rw [H_ha.out]) | (go_at_call 33; (with_reducible refine (ref04_arm c n ar la last mn mx dl _ hc hm).mono ?_); rintro e w1 ⟨rfl, x2, n2, rfl⟩; rw [H_ha.out]) | (go_at_call 30; (with_reducible refine (lives04 _).mono ?_); rintro e w1 ⟨rfl, x3, n3, rfl⟩))
  go_ret
  exact ⟨rfl, by (repeat' (first | (with_reducible exact Vg.Grows.refl _) | (with_reducible assumption) | (with_reducible refine Vg.Grows.alloc ?_ _) | (with_reducible refine Vg.Grows.plus ?_ _ _) | (with_reducible refine Vg.Grows.drewN ?_ _) | (with_reducible refine Vg.Grows.drew ?_) | (with_reducible refine Vg.Grows.setCell ?_ ?_ _) | (with_reducible refine Vg.Grows.put ?_ ?_ _) | omega | (simp; omega) | (simp; done)))⟩
theorem ShotWithin_walk (mn mx now dl : Int) (w : World) (hm : -9223372036854775808 ≤ mx) :
    Calls Try.prog 9 #[tmV mn mx, .int .i64 now, .int .i64 dl] w fun e w' => e = .returned (.bool true) ∧ Vg.Grows w w' := by
  by_cases h1 : Vg.tmB mn mx = true
  · have hb := Vg.tmB_true.1 h1
    by_cases h2 : Vg.timeB now = true ∧ Vg.timeB dl = true
    · have hn := Vg.timeB_true.1 h2.1
      have hd := Vg.timeB_true.1 h2.2
      have e := Vg.plan_ok h1 h2.1 h2.2
      by_cases a1 : dl - now ≤ 0
      · have ha : Vg.aim mn mx now dl = (1, now) := by unfold Vg.aim; rw [if_pos a1]
        rw [ha, if_pos (show Vg.timeB now = true from h2.1)] at e
        have H_e := Lib.hid e; clear e; have H_h1 := Lib.hid h1; clear h1; have H_h2 := Lib.hid h2; clear h2; have H_ha := Lib.hid ha; clear ha
        go_enter Try.func9, Try.ntmps9
        go_wp2_with (first | (go_at_call 17; (with_reducible refine (shot_plan mn mx now dl _ hm).mono ?_); rintro e w1 ⟨rfl, x1, n1, rfl⟩; rw [H_e.out]) | (go_at_call 30; (with_reducible refine (lives04 _).mono ?_); rintro e w1 ⟨rfl, x3, n3, rfl⟩))
        go_ret
        exact ⟨by simp <;> omega, by (repeat' (first | (with_reducible exact Vg.Grows.refl _) | (with_reducible assumption) | (with_reducible refine Vg.Grows.alloc ?_ _) | (with_reducible refine Vg.Grows.plus ?_ _ _) | (with_reducible refine Vg.Grows.drewN ?_ _) | (with_reducible refine Vg.Grows.drew ?_) | (with_reducible refine Vg.Grows.setCell ?_ ?_ _) | (with_reducible refine Vg.Grows.put ?_ ?_ _) | omega | (simp; omega) | (simp; done)))⟩
      · by_cases a2 : dl - now < mn
        · have ha : Vg.aim mn mx now dl = (2, now + mn) := by unfold Vg.aim; rw [if_neg a1, if_pos a2]
          cases h4 : Vg.timeB (now + mn) with
          | true =>
            have h4b := Vg.timeB_true.1 h4
            rw [ha, if_pos h4] at e
            have H_e := Lib.hid e; clear e; have H_h1 := Lib.hid h1; clear h1; have H_h2 := Lib.hid h2; clear h2; have H_ha := Lib.hid ha; clear ha; have H_h4 := Lib.hid h4; clear h4
            go_enter Try.func9, Try.ntmps9
            go_wp2_with (first | (go_at_call 17; (with_reducible refine (shot_plan mn mx now dl _ hm).mono ?_); rintro e w1 ⟨rfl, x1, n1, rfl⟩; rw [H_e.out]) | (go_at_call 30; (with_reducible refine (lives04 _).mono ?_); rintro e w1 ⟨rfl, x3, n3, rfl⟩))
            go_ret
            exact ⟨by simp <;> omega, by (repeat' (first | (with_reducible exact Vg.Grows.refl _) | (with_reducible assumption) | (with_reducible refine Vg.Grows.alloc ?_ _) | (with_reducible refine Vg.Grows.plus ?_ _ _) | (with_reducible refine Vg.Grows.drewN ?_ _) | (with_reducible refine Vg.Grows.drew ?_) | (with_reducible refine Vg.Grows.setCell ?_ ?_ _) | (with_reducible refine Vg.Grows.put ?_ ?_ _) | omega | (simp; omega) | (simp; done)))⟩
          | false =>
            rw [ha, if_neg (by rw [h4]; simp)] at e
            have H_e := Lib.hid e; clear e; have H_h1 := Lib.hid h1; clear h1; have H_h2 := Lib.hid h2; clear h2; have H_ha := Lib.hid ha; clear ha; have H_h4 := Lib.hid h4; clear h4
            go_enter Try.func9, Try.ntmps9
            go_wp2_with (first | (go_at_call 17; (with_reducible refine (shot_plan mn mx now dl _ hm).mono ?_); rintro e w1 ⟨rfl, x1, n1, rfl⟩; rw [H_e.out]) | (go_at_call 30; (with_reducible refine (lives04 _).mono ?_); rintro e w1 ⟨rfl, x3, n3, rfl⟩))
            go_ret
            exact ⟨rfl, by (repeat' (first | (with_reducible exact Vg.Grows.refl _) | (with_reducible assumption) | (with_reducible refine Vg.Grows.alloc ?_ _) | (with_reducible refine Vg.Grows.plus ?_ _ _) | (with_reducible refine Vg.Grows.drewN ?_ _) | (with_reducible refine Vg.Grows.drew ?_) | (with_reducible refine Vg.Grows.setCell ?_ ?_ _) | (with_reducible refine Vg.Grows.put ?_ ?_ _) | omega | (simp; omega) | (simp; done)))⟩
        · by_cases a3 : dl - now ≤ mx
          · have ha : Vg.aim mn mx now dl = (3, dl) := by unfold Vg.aim; rw [if_neg a1, if_neg a2, if_pos a3]
            rw [ha, if_pos (show Vg.timeB dl = true from h2.2)] at e
            have H_e := Lib.hid e; clear e; have H_h1 := Lib.hid h1; clear h1; have H_h2 := Lib.hid h2; clear h2; have H_ha := Lib.hid ha; clear ha
            go_enter Try.func9, Try.ntmps9
            go_wp2_with (first | (go_at_call 17; (with_reducible refine (shot_plan mn mx now dl _ hm).mono ?_); rintro e w1 ⟨rfl, x1, n1, rfl⟩; rw [H_e.out]) | (go_at_call 30; (with_reducible refine (lives04 _).mono ?_); rintro e w1 ⟨rfl, x3, n3, rfl⟩))
            go_ret
            exact ⟨by simp <;> omega, by (repeat' (first | (with_reducible exact Vg.Grows.refl _) | (with_reducible assumption) | (with_reducible refine Vg.Grows.alloc ?_ _) | (with_reducible refine Vg.Grows.plus ?_ _ _) | (with_reducible refine Vg.Grows.drewN ?_ _) | (with_reducible refine Vg.Grows.drew ?_) | (with_reducible refine Vg.Grows.setCell ?_ ?_ _) | (with_reducible refine Vg.Grows.put ?_ ?_ _) | omega | (simp; omega) | (simp; done)))⟩
          · obtain ⟨at_, hat⟩ : ∃ at_, min (now + mx) (dl - mn) = at_ := ⟨_, rfl⟩
            have ha : Vg.aim mn mx now dl = (4, at_) := by unfold Vg.aim; rw [if_neg a1, if_neg a2, if_neg a3, hat]
            have b1 : now + mn ≤ at_ ∧ at_ ≤ now + mx ∧ at_ < dl := by omega
            rw [ha, if_pos (show Vg.timeB at_ = true from Vg.timeB_true.2 (by omega))] at e
            have hne : (at_ == dl) = false := by simp; omega
            have H_e := Lib.hid e; clear e; have H_h1 := Lib.hid h1; clear h1; have H_h2 := Lib.hid h2; clear h2; have H_ha := Lib.hid ha; clear ha; have H_hat := Lib.hid hat; clear hat
            go_enter Try.func9, Try.ntmps9
            go_wp2_with (first | (go_at_call 17; (with_reducible refine (shot_plan mn mx now dl _ hm).mono ?_); rintro e w1 ⟨rfl, x1, n1, rfl⟩; rw [H_e.out]) | (go_at_call 30; (with_reducible refine (lives04 _).mono ?_); rintro e w1 ⟨rfl, x3, n3, rfl⟩))
            go_ret
            exact ⟨by simp <;> omega, by (repeat' (first | (with_reducible exact Vg.Grows.refl _) | (with_reducible assumption) | (with_reducible refine Vg.Grows.alloc ?_ _) | (with_reducible refine Vg.Grows.plus ?_ _ _) | (with_reducible refine Vg.Grows.drewN ?_ _) | (with_reducible refine Vg.Grows.drew ?_) | (with_reducible refine Vg.Grows.setCell ?_ ?_ _) | (with_reducible refine Vg.Grows.put ?_ ?_ _) | omega | (simp; omega) | (simp; done)))⟩
    · have e : Vg.plan mn mx now dl = (0, 0, 1) := by unfold Vg.plan; rw [if_pos h1, if_neg h2]
      have H_e := Lib.hid e; clear e; have H_h1 := Lib.hid h1; clear h1; have H_h2 := Lib.hid h2; clear h2
      go_enter Try.func9, Try.ntmps9
      go_wp2_with (first | (go_at_call 17; (with_reducible refine (shot_plan mn mx now dl _ hm).mono ?_); rintro e w1 ⟨rfl, x1, n1, rfl⟩; rw [H_e.out]) | (go_at_call 30; (with_reducible refine (lives04 _).mono ?_); rintro e w1 ⟨rfl, x3, n3, rfl⟩))
      go_ret
      exact ⟨rfl, by (repeat' (first | (with_reducible exact Vg.Grows.refl _) | (with_reducible assumption) | (with_reducible refine Vg.Grows.alloc ?_ _) | (with_reducible refine Vg.Grows.plus ?_ _ _) | (with_reducible refine Vg.Grows.drewN ?_ _) | (with_reducible refine Vg.Grows.drew ?_) | (with_reducible refine Vg.Grows.setCell ?_ ?_ _) | (with_reducible refine Vg.Grows.put ?_ ?_ _) | omega | (simp; omega) | (simp; done)))⟩
  · have e : Vg.plan mn mx now dl = (0, 0, 2) := by unfold Vg.plan; rw [if_neg h1]
    have H_e := Lib.hid e; clear e; have H_h1 := Lib.hid h1; clear h1
    go_enter Try.func9, Try.ntmps9
    go_wp2_with (first | (go_at_call 17; (with_reducible refine (shot_plan mn mx now dl _ hm).mono ?_); rintro e w1 ⟨rfl, x1, n1, rfl⟩; rw [H_e.out]) | (go_at_call 30; (with_reducible refine (lives04 _).mono ?_); rintro e w1 ⟨rfl, x3, n3, rfl⟩))
    go_ret
    exact ⟨rfl, by (repeat' (first | (with_reducible exact Vg.Grows.refl _) | (with_reducible assumption) | (with_reducible refine Vg.Grows.alloc ?_ _) | (with_reducible refine Vg.Grows.plus ?_ _ _) | (with_reducible refine Vg.Grows.drewN ?_ _) | (with_reducible refine Vg.Grows.drew ?_) | (with_reducible refine Vg.Grows.setCell ?_ ?_ _) | (with_reducible refine Vg.Grows.put ?_ ?_ _) | omega | (simp; omega) | (simp; done)))⟩
end Go.Proofs.Ytfkkkcihoejjgaa
