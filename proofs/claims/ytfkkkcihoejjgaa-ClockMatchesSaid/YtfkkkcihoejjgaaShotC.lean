/- ShotChain: plain law and walk. -/
import Derived.Test.YtfkkkcihoejjgaaShotL
set_option linter.unusedSimpArgs false
set_option linter.unusedVariables false
set_option maxHeartbeats 1000000
set_option maxRecDepth 20000
namespace Vg
theorem plan_far {mn mx now dl : Int} (h1 : tmB mn mx = true) (h2 : timeB now = true) (h3 : timeB dl = true) (h : mn ≤ dl - now) :
    plan mn mx now dl = if dl - now ≤ mx then (3, dl, 0) else (4, min (now + mx) (dl - mn), 0) := by
  have b := tmB_true.1 h1
  have n := timeB_true.1 h2
  have d := timeB_true.1 h3
  rw [plan_ok h1 h2 h3]
  by_cases a3 : dl - now ≤ mx
  · have ha : aim mn mx now dl = (3, dl) := by unfold aim; rw [if_neg (by omega), if_neg (by omega), if_pos a3]
    rw [ha, if_pos (show timeB dl = true from h3), if_pos a3]
  · have ha : aim mn mx now dl = (4, min (now + mx) (dl - mn)) := by unfold aim; rw [if_neg (by omega), if_neg (by omega), if_neg a3]
    rw [ha, if_pos (show timeB (min (now + mx) (dl - mn)) = true from timeB_true.2 (by omega)), if_neg a3]
theorem left_looks {l mx : Int} (h : 0 < mx) : (if l % mx = 0 then l / mx - 1 else l / mx) = (l - 1) / mx := by
  have e := Int.mul_ediv_add_emod l mx
  have r0 := Int.emod_nonneg l (show mx ≠ 0 by omega)
  have r1 := Int.emod_lt_of_pos l h
  by_cases hr : l % mx = 0
  · rw [if_pos hr]
    have z : (mx - 1) / mx = 0 := Int.ediv_eq_zero_of_lt (by omega) (by omega)
    have e2 : l - 1 = (mx - 1) + mx * (l / mx - 1) := by rw [Int.mul_sub]; omega
    have e3 : (l - 1) / mx = (mx - 1) / mx + (l / mx - 1) := (congrArg (· / mx) e2).trans (Int.add_mul_ediv_left _ _ (by omega))
    omega
  · rw [if_neg hr]
    have z : (l % mx - 1) / mx = 0 := Int.ediv_eq_zero_of_lt (by omega) (by omega)
    have e2 : l - 1 = (l % mx - 1) + mx * (l / mx) := by omega
    have e3 : (l - 1) / mx = (l % mx - 1) / mx + l / mx := (congrArg (· / mx) e2).trans (Int.add_mul_ediv_left _ _ (by omega))
    omega
theorem looks_far {mn mx now dl : Int} (h1 : tmB mn mx = true) (h2 : timeB now = true) (h3 : timeB dl = true) (h : mn ≤ dl - now) : looks mn mx now dl = ((dl - now - 1) / mx, 0) := by
  have b := tmB_true.1 h1
  unfold looks
  rw [plan_far h1 h2 h3 h]
  by_cases a3 : dl - now ≤ mx
  · rw [if_pos a3]
    simp only []
    rw [if_pos (.inr (by omega)), Int.ediv_eq_zero_of_lt (by omega) (by omega)]
  · rw [if_neg a3]
    simp only []
    rw [if_neg (by omega), left_looks (by omega)]
theorem looks_step {mn mx now dl : Int} (hb : 1 ≤ mn ∧ mx < 2147483648 ∧ 2 * mn ≤ mx) (h : mx < dl - now) : (dl - now - 1) / mx = (dl - min (now + mx) (dl - mn) - 1) / mx + 1 := by
  by_cases h4 : now + mx ≤ dl - mn
  · rw [show min (now + mx) (dl - mn) = now + mx by omega, show dl - now - 1 = (dl - (now + mx) - 1) + mx * 1 by omega, Int.add_mul_ediv_left _ _ (by omega)]
  · rw [show min (now + mx) (dl - mn) = dl - mn by omega, show dl - now - 1 = (dl - now - 1 - mx) + mx * 1 by omega, Int.add_mul_ediv_left _ _ (by omega), Int.ediv_eq_zero_of_lt (by omega) (by omega), show dl - (dl - mn) - 1 = mn - 1 by omega, Int.ediv_eq_zero_of_lt (by omega) (by omega)]
end Vg
namespace Go.Proofs.Ytfkkkcihoejjgaa
open Go.ChangeShapes Go.WideShapes Go.ChangeAt Go.RowKit
theorem ShotChain_walk (mn mx now dl : Int) (w : World) (hm : -9223372036854775808 ≤ mx) :
    Calls Try.prog 10 #[tmV mn mx, .int .i64 now, .int .i64 dl] w fun e w' => e = .returned (.bool true) ∧ Vg.Grows w w' := by
  obtain ⟨⟨k, at_, no⟩, hp⟩ : ∃ p, Vg.plan mn mx now dl = p := ⟨_, rfl⟩
  by_cases hno : no = 0
  · subst hno
    have hok : Vg.tmB mn mx = true ∧ Vg.timeB now = true ∧ Vg.timeB dl = true := by
      unfold Vg.plan at hp
      by_cases q1 : Vg.tmB mn mx = true
      · rw [if_pos q1] at hp
        by_cases q2 : Vg.timeB now = true ∧ Vg.timeB dl = true
        · exact ⟨q1, q2⟩
        · rw [if_neg q2] at hp; simp at hp
      · rw [if_neg q1] at hp; simp at hp
    obtain ⟨t1, t2, t3⟩ := hok
    have hb := Vg.tmB_true.1 t1
    have hn := Vg.timeB_true.1 t2
    have hd := Vg.timeB_true.1 t3
    by_cases hfar : mn ≤ dl - now
    · have hlk := Vg.looks_far t1 t2 t3 hfar
      have hmany0 : 0 ≤ (dl - now - 1) / mx := Int.ediv_nonneg (by omega) (by omega)
      have hmany1 : (dl - now - 1) / mx ≤ dl - now - 1 := Int.ediv_le_self _ (by omega)
      have hq0 : 0 ≤ (dl - now) / mx := Int.ediv_nonneg (by omega) (by omega)
      obtain ⟨many, hmn⟩ : ∃ many, (dl - now - 1) / mx = many := ⟨_, rfl⟩
      rw [hmn] at hlk hmany0 hmany1
      by_cases hbig : 2000 < (dl - now) / mx
      · have H_hp := Lib.hid hp; clear hp; have H_hlk := Lib.hid hlk; clear hlk; have H_t1 := Lib.hid t1; clear t1; have H_t2 := Lib.hid t2; clear t2; have H_t3 := Lib.hid t3; clear t3; have H_hmn := Lib.hid hmn; clear hmn
        go_enter Try.func10, Try.ntmps10
        go_wp2_with (first | (go_at_call 30; (with_reducible refine (lives04 _).mono ?_); rintro e w1 ⟨rfl, x3, n3, rfl⟩) | (go_at_call 17; (with_reducible refine (shot_plan mn mx now dl _ hm).mono ?_); rintro e w1 ⟨rfl, x1, n1, rfl⟩; rw [H_hp.out]) | (go_at_call 15; (with_reducible refine (shot_looks mn mx now dl _ hm).mono ?_); rintro e w1 ⟨rfl, x2, n2, rfl⟩; rw [H_hlk.out]))
        go_ret
        exact ⟨rfl, by (repeat' (first | (with_reducible exact Vg.Grows.refl _) | (with_reducible assumption) | (with_reducible refine Vg.Grows.alloc ?_ _) | (with_reducible refine Vg.Grows.plus ?_ _ _) | (with_reducible refine Vg.Grows.drewN ?_ _) | (with_reducible refine Vg.Grows.drew ?_) | (with_reducible refine Vg.Grows.setCell ?_ ?_ _) | (with_reducible refine Vg.Grows.put ?_ ?_ _) | omega | (simp; omega) | (simp; done)))⟩
      · have H_hp := Lib.hid hp; clear hp; have H_hlk := Lib.hid hlk; clear hlk; have H_t1 := Lib.hid t1; clear t1; have H_t2 := Lib.hid t2; clear t2; have H_t3 := Lib.hid t3; clear t3; have H_hmn := Lib.hid hmn; clear hmn
        go_enter Try.func10, Try.ntmps10
        go_wp2_with (first | (go_at_call 30; (with_reducible refine (lives04 _).mono ?_); rintro e w1 ⟨rfl, x3, n3, rfl⟩) | (go_at_call 17; (with_reducible refine (shot_plan mn mx now dl _ hm).mono ?_); rintro e w1 ⟨rfl, x1, n1, rfl⟩; rw [H_hp.out]) | (go_at_call 15; (with_reducible refine (shot_looks mn mx now dl _ hm).mono ?_); rintro e w1 ⟨rfl, x2, n2, rfl⟩; rw [H_hlk.out]))
        go_loopw [1, 12] (fun nw lk wr => ∃ (nw' lk' : Int), nw = .int .i64 nw' ∧ lk = .int .i64 lk' ∧ 0 ≤ nw' ∧ nw' ≤ 4503599627370496 ∧ mn ≤ dl - nw' ∧ 0 ≤ lk' ∧ lk' ≤ many ∧ lk' + (dl - nw' - 1) / mx = many ∧ Vg.Grows (w.alloc (.cells #[.int .i64 mn, .int .i64 mx] 23)) wr) (fun nw _ _ => (dl - intOf nw).toNat)
        case atStart => exact ⟨now, 0, rfl, rfl, by omega, by omega, by omega, by omega, by omega, by rw [H_hmn.out]; omega, by (repeat' (first | (with_reducible exact Vg.Grows.refl _) | (with_reducible assumption) | (with_reducible refine Vg.Grows.alloc ?_ _) | (with_reducible refine Vg.Grows.plus ?_ _ _) | (with_reducible refine Vg.Grows.drewN ?_ _) | (with_reducible refine Vg.Grows.drew ?_) | (with_reducible refine Vg.Grows.setCell ?_ ?_ _) | (with_reducible refine Vg.Grows.put ?_ ?_ _) | omega | (simp; omega) | (simp; done)))⟩
        case round =>
          obtain ⟨nw', lk', rfl, rfl, g1, g2, g3, g4, g5, g6, y, m, rfl⟩ := hrel
          have hpl := Vg.plan_far (now := nw') H_t1.out (Vg.timeB_true.2 ⟨g1, g2⟩) H_t3.out g3
          by_cases a3 : dl - nw' ≤ mx
          · rw [if_pos a3] at hpl
            have hz : (dl - nw' - 1) / mx = 0 := Int.ediv_eq_zero_of_lt (by omega) (by omega)
            have hlm : lk' = many := by omega
            subst hlm
            have H_hpl := Lib.hid hpl; clear hpl; have H_g6 := Lib.hid g6; clear g6; have H_hz := Lib.hid hz; clear hz
            go_wp2_with ((go_at_call 17; (with_reducible refine (shot_plan mn mx nw' dl _ hm).mono ?_); rintro e w1 ⟨rfl, x1, n1, rfl⟩; rw [H_hpl.out]))
            go_ret
            exact ⟨rfl, by (repeat' (first | (with_reducible exact Vg.Grows.refl _) | (with_reducible assumption) | (with_reducible refine Vg.Grows.alloc ?_ _) | (with_reducible refine Vg.Grows.plus ?_ _ _) | (with_reducible refine Vg.Grows.drewN ?_ _) | (with_reducible refine Vg.Grows.drew ?_) | (with_reducible refine Vg.Grows.setCell ?_ ?_ _) | (with_reducible refine Vg.Grows.put ?_ ?_ _) | omega | (simp; omega) | (simp; done)))⟩
          · rw [if_neg a3] at hpl
            have hst := Vg.looks_step (now := nw') (dl := dl) hb (by omega)
            obtain ⟨at2, hat⟩ : ∃ a, min (nw' + mx) (dl - mn) = a := ⟨_, rfl⟩
            have b1 : nw' + mn ≤ at2 ∧ mn ≤ dl - at2 := by omega
            rw [hat] at hpl hst
            have hl0 : 0 ≤ (dl - at2 - 1) / mx := Int.ediv_nonneg (by omega) (by omega)
            have g7 : lk' + 1 + (dl - at2 - 1) / mx = many := by omega
            have g8 : lk' + 1 ≤ many := by omega
            have H_hpl := Lib.hid hpl; clear hpl; have H_g6 := Lib.hid g6; clear g6; have H_hst := Lib.hid hst; clear hst; have H_hat := Lib.hid hat; clear hat; have H_g7 := Lib.hid g7; clear g7; have H_hl0 := Lib.hid hl0; clear hl0
            go_wp2_with ((go_at_call 17; (with_reducible refine (shot_plan mn mx nw' dl _ hm).mono ?_); rintro e w1 ⟨rfl, x1, n1, rfl⟩; rw [H_hpl.out]))
            exact ⟨⟨at2, lk' + 1, rfl, rfl, by omega, by omega, by omega, by omega, by omega, H_g7.out, by (repeat' (first | (with_reducible exact Vg.Grows.refl _) | (with_reducible assumption) | (with_reducible refine Vg.Grows.alloc ?_ _) | (with_reducible refine Vg.Grows.plus ?_ _ _) | (with_reducible refine Vg.Grows.drewN ?_ _) | (with_reducible refine Vg.Grows.drew ?_) | (with_reducible refine Vg.Grows.setCell ?_ ?_ _) | (with_reducible refine Vg.Grows.put ?_ ?_ _) | omega | (simp; omega) | (simp; done)))⟩, by simp [intOf]; omega⟩
    · have hlk : Vg.looks mn mx now dl = (0, 0) := by
        unfold Vg.looks
        rw [hp]
        have hk : k ≠ 4 := by
          intro hk
          subst hk
          rw [Vg.plan_ok t1 t2 t3] at hp
          unfold Vg.aim at hp
          by_cases a1 : dl - now ≤ 0
          · rw [if_pos a1] at hp
            split at hp <;> simp at hp
          · rw [if_neg a1, if_pos (show dl - now < mn by omega)] at hp
            split at hp <;> simp at hp
        simp [hk]
      have hlt : dl - now < mn := by omega
      have H_hp := Lib.hid hp; clear hp; have H_hlk := Lib.hid hlk; clear hlk; have H_t1 := Lib.hid t1; clear t1; have H_t2 := Lib.hid t2; clear t2; have H_t3 := Lib.hid t3; clear t3
      go_enter Try.func10, Try.ntmps10
      go_wp2_with (first | (go_at_call 30; (with_reducible refine (lives04 _).mono ?_); rintro e w1 ⟨rfl, x3, n3, rfl⟩) | (go_at_call 17; (with_reducible refine (shot_plan mn mx now dl _ hm).mono ?_); rintro e w1 ⟨rfl, x1, n1, rfl⟩; rw [H_hp.out]) | (go_at_call 15; (with_reducible refine (shot_looks mn mx now dl _ hm).mono ?_); rintro e w1 ⟨rfl, x2, n2, rfl⟩; rw [H_hlk.out]))
      go_ret
      exact ⟨rfl, by (repeat' (first | (with_reducible exact Vg.Grows.refl _) | (with_reducible assumption) | (with_reducible refine Vg.Grows.alloc ?_ _) | (with_reducible refine Vg.Grows.plus ?_ _ _) | (with_reducible refine Vg.Grows.drewN ?_ _) | (with_reducible refine Vg.Grows.drew ?_) | (with_reducible refine Vg.Grows.setCell ?_ ?_ _) | (with_reducible refine Vg.Grows.put ?_ ?_ _) | omega | (simp; omega) | (simp; done)))⟩
  · have hlk : Vg.looks mn mx now dl = (0, no) := by unfold Vg.looks; rw [hp]; simp [hno]
    have hnb : (no == 0) = false := by simp [hno]
    have H_hp := Lib.hid hp; clear hp; have H_hlk := Lib.hid hlk; clear hlk; have H_hno := Lib.hid hno; clear hno
    go_enter Try.func10, Try.ntmps10
    go_wp2_with (first | (go_at_call 30; (with_reducible refine (lives04 _).mono ?_); rintro e w1 ⟨rfl, x3, n3, rfl⟩) | (go_at_call 17; (with_reducible refine (shot_plan mn mx now dl _ hm).mono ?_); rintro e w1 ⟨rfl, x1, n1, rfl⟩; rw [H_hp.out]) | (go_at_call 15; (with_reducible refine (shot_looks mn mx now dl _ hm).mono ?_); rintro e w1 ⟨rfl, x2, n2, rfl⟩; rw [H_hlk.out]))
    go_ret
    exact ⟨rfl, by (repeat' (first | (with_reducible exact Vg.Grows.refl _) | (with_reducible assumption) | (with_reducible refine Vg.Grows.alloc ?_ _) | (with_reducible refine Vg.Grows.plus ?_ _ _) | (with_reducible refine Vg.Grows.drewN ?_ _) | (with_reducible refine Vg.Grows.drew ?_) | (with_reducible refine Vg.Grows.setCell ?_ ?_ _) | (with_reducible refine Vg.Grows.put ?_ ?_ _) | omega | (simp; omega) | (simp; done)))⟩
end Go.Proofs.Ytfkkkcihoejjgaa
