/- TopExact: the walk. -/
import Derived.Test.YtfkkkcihoejjgaaShotR
set_option linter.unusedSimpArgs false
set_option linter.unusedVariables false
set_option maxHeartbeats 4000000
set_option maxRecDepth 100000
namespace Go.Proofs.Ytfkkkcihoejjgaa
open Go.ChangeShapes Go.WideShapes Go.ChangeAt Go.RowKit Go.Shelf
theorem begins_top (w : World) : Calls Try.prog 13 #[] w fun e w' => e = .returned (.bool true) ∧ w = w' := by
  have e1 : Vg.low 4294967301 = 5 := by decide
  have e2 : Vg.diff 3 5 = -2 := by decide
  go_enter Try.func13, Try.ntmps13
  go_wp2_with (first | (go_at_call 36; refine (low_any _ _).mono ?_; rintro e w' ⟨rfl, rfl⟩) | (go_at_call 37; refine (diff_any _ _ _).mono ?_; rintro e w' ⟨rfl, rfl⟩))
  go_ret
  exact ⟨rfl, rfl⟩
theorem TopExact_walk (st mn mx dl : Int) (w : World) (hs0 : -9223372036854775808 ≤ st) (hs1 : st ≤ 9223372036854775807) (hm : -9223372036854775808 ≤ mx) (hd0 : -9223372036854775808 ≤ dl) (hd1 : dl ≤ 9223372036854775807) :
    Calls Try.prog 3 #[.int .i64 st, tmV mn mx, .int .i64 dl] w fun e w' => e = .returned (.bool true) ∧ Vg.Grows w w' := by
  cases hst : Vg.timeB st with
  | false =>
    have hk : (if Vg.timeB st = true then Value.tuple #[ckV (Vg.low st) 0 false false st, .int .i64 0] else .tuple #[ckV 0 0 false false 0, .int .i64 1]) = .tuple #[ckV 0 0 false false 0, .int .i64 1] := if_neg (by rw [hst]; simp)
    have H_hk := Lib.hid hk; clear hk; have H_hst := Lib.hid hst; clear hst
    go_enter Try.func3, Try.ntmps3
    go_wp2_with (first | (go_at_call 13; (with_reducible refine (begins_top _).mono ?_); rintro e w1 ⟨rfl, rfl⟩) | (go_at_call 14; (with_reducible refine (clock_make st _).mono ?_); rintro e w1 ⟨rfl, x2, n2, rfl⟩; rw [H_hk.out]))
    go_ret
    exact ⟨rfl, by (repeat' (first | (with_reducible exact Vg.Grows.refl _) | (with_reducible assumption) | (with_reducible refine Vg.Grows.alloc ?_ _) | (with_reducible refine Vg.Grows.plus ?_ _ _) | (with_reducible refine Vg.Grows.drewN ?_ _) | (with_reducible refine Vg.Grows.drew ?_) | (with_reducible refine Vg.Grows.setCell ?_ ?_ _) | (with_reducible refine Vg.Grows.put ?_ ?_ _) | omega | (simp; omega) | (simp; done)))⟩
  | true =>
    have hstb := Vg.timeB_true.1 hst
    have hk : (if Vg.timeB st = true then Value.tuple #[ckV (Vg.low st) 0 false false st, .int .i64 0] else .tuple #[ckV 0 0 false false 0, .int .i64 1]) = .tuple #[ckV (Vg.low st) 0 false false st, .int .i64 0] := if_pos hst
    obtain ⟨⟨lk, no⟩, hlk⟩ : ∃ p, Vg.looks mn mx st dl = p := ⟨_, rfl⟩
    by_cases hno : no = 0
    · subst hno
      by_cases hbig : 300 < lk
      · have H_hk := Lib.hid hk; clear hk; have H_hst := Lib.hid hst; clear hst; have H_hlk := Lib.hid hlk; clear hlk
        go_enter Try.func3, Try.ntmps3
        go_wp2_with (first | (go_at_call 13; (with_reducible refine (begins_top _).mono ?_); rintro e w1 ⟨rfl, rfl⟩) | (go_at_call 14; (with_reducible refine (clock_make st _).mono ?_); rintro e w1 ⟨rfl, x2, n2, rfl⟩; rw [H_hk.out]) | (go_at_call 15; (with_reducible refine (shot_looks mn mx st dl _ hm).mono ?_); rintro e w1 ⟨rfl, x3, n3, rfl⟩; rw [H_hlk.out]))
        go_ret
        exact ⟨rfl, by (repeat' (first | (with_reducible exact Vg.Grows.refl _) | (with_reducible assumption) | (with_reducible refine Vg.Grows.alloc ?_ _) | (with_reducible refine Vg.Grows.plus ?_ _ _) | (with_reducible refine Vg.Grows.drewN ?_ _) | (with_reducible refine Vg.Grows.drew ?_) | (with_reducible refine Vg.Grows.setCell ?_ ?_ _) | (with_reducible refine Vg.Grows.put ?_ ?_ _) | omega | (simp; omega) | (simp; done)))⟩
      · have hok : Vg.tmB mn mx = true ∧ Vg.timeB dl = true := by
          have hp : (Vg.plan mn mx st dl).2.2 = 0 := by
            by_cases hh : (Vg.plan mn mx st dl).2.2 = 0
            · exact hh
            · unfold Vg.looks at hlk
              rw [if_pos (.inl hh)] at hlk
              exact absurd (congrArg Prod.snd hlk) hh
          unfold Vg.plan at hp
          by_cases q1 : Vg.tmB mn mx = true
          · rw [if_pos q1] at hp
            by_cases q2 : Vg.timeB st = true ∧ Vg.timeB dl = true
            · exact ⟨q1, q2.2⟩
            · rw [if_neg q2] at hp; simp at hp
          · rw [if_neg q1] at hp; simp at hp
        obtain ⟨t1, t3⟩ := hok
        have hb := Vg.tmB_true.1 t1
        have hd := Vg.timeB_true.1 t3
        have hsub0 : IntKind.i64.wrap (dl - st) = dl - st := by rw [IntWalk.i64_in _ (by omega)]
        by_cases hfar : dl - st < mn
        · have H_hk := Lib.hid hk; clear hk; have H_hst := Lib.hid hst; clear hst; have H_hlk := Lib.hid hlk; clear hlk; have H_t1 := Lib.hid t1; clear t1; have H_t3 := Lib.hid t3; clear t3
          go_enter Try.func3, Try.ntmps3
          go_wp2_with (first | (go_at_call 13; (with_reducible refine (begins_top _).mono ?_); rintro e w1 ⟨rfl, rfl⟩) | (go_at_call 14; (with_reducible refine (clock_make st _).mono ?_); rintro e w1 ⟨rfl, x2, n2, rfl⟩; rw [H_hk.out]) | (go_at_call 15; (with_reducible refine (shot_looks mn mx st dl _ hm).mono ?_); rintro e w1 ⟨rfl, x3, n3, rfl⟩; rw [H_hlk.out]))
          go_ret
          exact ⟨rfl, by (repeat' (first | (with_reducible exact Vg.Grows.refl _) | (with_reducible assumption) | (with_reducible refine Vg.Grows.alloc ?_ _) | (with_reducible refine Vg.Grows.plus ?_ _ _) | (with_reducible refine Vg.Grows.drewN ?_ _) | (with_reducible refine Vg.Grows.drew ?_) | (with_reducible refine Vg.Grows.setCell ?_ ?_ _) | (with_reducible refine Vg.Grows.put ?_ ?_ _) | omega | (simp; omega) | (simp; done)))⟩
        · have hlk2 := Vg.looks_far t1 hst t3 (show mn ≤ dl - st by omega)
          rw [hlk] at hlk2
          have hlke : lk = (dl - st - 1) / mx := (Prod.mk.inj hlk2).1
          have hlk0 : 0 ≤ lk := by rw [hlke]; exact Int.ediv_nonneg (by omega) (by omega)
          have H_hk := Lib.hid hk; clear hk; have H_hst := Lib.hid hst; clear hst; have H_hlk := Lib.hid hlk; clear hlk; have H_t1 := Lib.hid t1; clear t1; have H_t3 := Lib.hid t3; clear t3; have H_hlke := Lib.hid hlke; clear hlke; have H_hlk2 := Lib.hid hlk2; clear hlk2
          go_enter Try.func3, Try.ntmps3
          go_wp2_with (first | (go_at_call 13; (with_reducible refine (begins_top _).mono ?_); rintro e w1 ⟨rfl, rfl⟩) | (go_at_call 14; (with_reducible refine (clock_make st _).mono ?_); rintro e w1 ⟨rfl, x2, n2, rfl⟩; rw [H_hk.out]) | (go_at_call 15; (with_reducible refine (shot_looks mn mx st dl _ hm).mono ?_); rintro e w1 ⟨rfl, x3, n3, rfl⟩; rw [H_hlk.out]))
          obtain ⟨b4, hb4⟩ : ∃ b, w.heap.size = b := ⟨_, rfl⟩
          obtain ⟨b7, hb7⟩ : ∃ b, w.heap.size + 1 + Vg.sz x2 = b := ⟨_, rfl⟩
          obtain ⟨W0, hW0⟩ : ∃ W0, Vg.plus ((Vg.plus (w.alloc (Obj.cells #[.int .i64 mn, .int .i64 mx] 23)) x2 n2).alloc (ckO ⟨Vg.low st, 0, false, false, st⟩)) x3 n3 = W0 := ⟨_, rfl⟩
          have g1 : Vg.blk W0 b4 = some (Obj.cells #[.int .i64 mn, .int .i64 mx] 23) := by rw [← hW0, ← hb4]; simp [go_sem]
          have g2 : Vg.blk W0 b7 = some (ckO ⟨Vg.low st, 0, false, false, st⟩) := by rw [← hW0, ← hb7]; simp [go_sem]
          have g4 : Vg.Grows w W0 := by rw [← hW0]; (repeat' (first | (with_reducible exact Vg.Grows.refl _) | (with_reducible assumption) | (with_reducible refine Vg.Grows.alloc ?_ _) | (with_reducible refine Vg.Grows.plus ?_ _ _) | (with_reducible refine Vg.Grows.drewN ?_ _) | (with_reducible refine Vg.Grows.drew ?_) | (with_reducible refine Vg.Grows.setCell ?_ ?_ _) | (with_reducible refine Vg.Grows.put ?_ ?_ _) | omega | (simp; omega) | (simp; done)))
          have n1' : b4 ≠ b7 := by omega
          have n2' : b7 ≠ b4 := by omega
          have n3' : w.heap.size ≤ b4 := by omega
          have n4' : w.heap.size ≤ b7 := by omega
          simp only [hb7]
          simp only [hb4]
          rw [hW0]
          have H_hb4 := Lib.hid hb4; clear hb4; have H_hb7 := Lib.hid hb7; clear hb7; have H_hW0 := Lib.hid hW0; clear hW0; have H_g1 := Lib.hid g1; clear g1; have H_g2 := Lib.hid g2; clear g2
          go_loopw [11] (fun my wr => ∃ (nw many n' : Int) (a' : Bool), my = .int .i64 many ∧ 0 ≤ nw ∧ nw ≤ 4503599627370496 ∧ mn ≤ dl - nw ∧ 0 ≤ many ∧ many ≤ lk ∧ many + (dl - nw - 1) / mx = lk ∧ Vg.Grows w wr ∧ Vg.blk wr b4 = some (Obj.cells #[.int .i64 mn, .int .i64 mx] 23) ∧ Vg.blk wr b7 = some (ckO ⟨Vg.low nw, n', a', false, nw⟩)) (fun my _ => (lk - intOf my).toNat)
          case atStart => exact ⟨st, 0, 0, false, rfl, by omega, by omega, by omega, by omega, by omega, by rw [H_hlke.out]; omega, g4, H_g1.out, H_g2.out⟩
          case round =>
            obtain ⟨nw, many, n', a', rfl, g1, g2, g3, g5, g6, g7, hgr, d4, d7⟩ := hrel
            have hpl := Vg.plan_far (now := nw) H_t1.out (Vg.timeB_true.2 ⟨g1, g2⟩) H_t3.out g3
            have hself := Vg.ckNow_self g1 g2
            have hlb : 0 ≤ Vg.low nw ∧ Vg.low nw ≤ 4294967295 := by unfold Vg.low; omega
            by_cases a3 : dl - nw ≤ mx
            · rw [if_pos a3] at hpl
              have hz : (dl - nw - 1) / mx = 0 := Int.ediv_eq_zero_of_lt (by omega) (by omega)
              have hlm : many = lk := by omega
              have ha : armV (Vg.low nw) n' a' false nw mn mx dl = .tuple #[ckV (Vg.low nw) (Vg.low dl) true false nw, .int .u8 3, .int .i64 0] := by unfold armV; rw [hself]; simp [hpl]
              have hst := Vg.ring_all (now := nw) (at_ := dl) g1 (by omega) (by omega) (by omega)
              obtain ⟨c1, hc1⟩ : ∃ c1, Vg.low nw = c1 := ⟨_, rfl⟩
              obtain ⟨c3, hc3⟩ : ∃ c3, Vg.low dl = c3 := ⟨_, rfl⟩
              rw [hc1, hc3] at ha hst
              rw [hc1] at d7 hlb
              have hsub : IntKind.i64.wrap (dl - nw) = dl - nw := by rw [IntWalk.i64_in _ (by omega)]
              have hmb : (many == lk) = true := by simp [hlm]
              have hle : ¬ dl ≤ nw := by omega
              have hlb0 := Vg.lt_of d4
              have hlb7 := Vg.lt_of d7
              have c_d4 := Vg.cells_of d4; have f_d4 := Vg.frozen_of d4; have p_d4 := Vg.setCell_of d4; have l_d4 := Vg.lt_of d4; have H_d4 := Lib.hid d4; clear d4; have c_d7 := Vg.cells_of d7; have f_d7 := Vg.frozen_of d7; have p_d7 := Vg.setCell_of d7; have l_d7 := Vg.lt_of d7; have H_d7 := Lib.hid d7; clear d7
              have H_hpl := Lib.hid hpl; clear hpl; have H_ha := Lib.hid ha; clear ha; have H_hst := Lib.hid hst; clear hst; have H_hself := Lib.hid hself; clear hself; have H_g7 := Lib.hid g7; clear g7; have H_hz := Lib.hid hz; clear hz; have H_hlm := Lib.hid hlm; clear hlm; have H_hc1 := Lib.hid hc1; clear hc1; have H_hc3 := Lib.hid hc3; clear hc3
              go_wp2_with (first | (go_at_call 16; (with_reducible refine (shot_arm' H_ha.out _ hlb hm).mono ?_); rintro e w1 ⟨rfl, y1, m1, rfl⟩) | (go_at_call 17; (with_reducible refine (shot_plan' H_hpl.out _ hm).mono ?_); rintro e w1 ⟨rfl, y2, m2, rfl⟩) | (go_at_call 18; (with_reducible refine (clock_step' H_hst.out _ hlb).mono ?_); rintro e w1 ⟨rfl, y3, m3, rfl⟩))
              go_ret
              exact ⟨by simp, by (repeat' (first | (with_reducible exact Vg.Grows.refl _) | (with_reducible assumption) | (with_reducible refine Vg.Grows.alloc ?_ _) | (with_reducible refine Vg.Grows.plus ?_ _ _) | (with_reducible refine Vg.Grows.drewN ?_ _) | (with_reducible refine Vg.Grows.drew ?_) | (with_reducible refine Vg.Grows.setCell ?_ ?_ _) | (with_reducible refine Vg.Grows.put ?_ ?_ _) | omega | (simp; omega) | (simp; done)))⟩
            · rw [if_neg a3] at hpl
              have hls := Vg.looks_step (now := nw) (dl := dl) hb (by omega)
              obtain ⟨at2, hat⟩ : ∃ a, min (nw + mx) (dl - mn) = a := ⟨_, rfl⟩
              have b1 : nw + mn ≤ at2 ∧ mn ≤ dl - at2 ∧ at2 ≤ nw + mx := by omega
              rw [hat] at hpl hls
              have hl0 : 0 ≤ (dl - at2 - 1) / mx := Int.ediv_nonneg (by omega) (by omega)
              have g8 : many + 1 + (dl - at2 - 1) / mx = lk := by omega
              have g9 : many + 1 ≤ lk := by omega
              have ha : armV (Vg.low nw) n' a' false nw mn mx dl = .tuple #[ckV (Vg.low nw) (Vg.low at2) true false nw, .int .u8 4, .int .i64 0] := by unfold armV; rw [hself]; simp [hpl]
              have hst := Vg.ring_all (now := nw) (at_ := at2) g1 (by omega) (by omega) (by omega)
              obtain ⟨c1, hc1⟩ : ∃ c1, Vg.low nw = c1 := ⟨_, rfl⟩
              obtain ⟨c3, hc3⟩ : ∃ c3, Vg.low at2 = c3 := ⟨_, rfl⟩
              rw [hc1, hc3] at ha hst
              rw [hc1] at d7 hlb
              have hsub : IntKind.i64.wrap (at2 - nw) = at2 - nw := by rw [IntWalk.i64_in _ (by omega)]
              have hle : ¬ at2 ≤ nw := by omega
              have hle2 : at2 ≤ dl := by omega
              have hlb0 := Vg.lt_of d4
              have hlb7 := Vg.lt_of d7
              have c_d4 := Vg.cells_of d4; have f_d4 := Vg.frozen_of d4; have p_d4 := Vg.setCell_of d4; have l_d4 := Vg.lt_of d4; have H_d4 := Lib.hid d4; clear d4; have c_d7 := Vg.cells_of d7; have f_d7 := Vg.frozen_of d7; have p_d7 := Vg.setCell_of d7; have l_d7 := Vg.lt_of d7; have H_d7 := Lib.hid d7; clear d7
              have H_hpl := Lib.hid hpl; clear hpl; have H_ha := Lib.hid ha; clear ha; have H_hst := Lib.hid hst; clear hst; have H_hself := Lib.hid hself; clear hself; have H_g7 := Lib.hid g7; clear g7; have H_hls := Lib.hid hls; clear hls; have H_hat := Lib.hid hat; clear hat; have H_hl0 := Lib.hid hl0; clear hl0; have H_hc1 := Lib.hid hc1; clear hc1; have H_hc3 := Lib.hid hc3; clear hc3; have H_g8 := Lib.hid g8; clear g8
              go_wp2_with (first | (go_at_call 16; (with_reducible refine (shot_arm' H_ha.out _ hlb hm).mono ?_); rintro e w1 ⟨rfl, y1, m1, rfl⟩) | (go_at_call 17; (with_reducible refine (shot_plan' H_hpl.out _ hm).mono ?_); rintro e w1 ⟨rfl, y2, m2, rfl⟩) | (go_at_call 18; (with_reducible refine (clock_step' H_hst.out _ hlb).mono ?_); rintro e w1 ⟨rfl, y3, m3, rfl⟩))
              refine ⟨⟨at2, many + 1, c3, false, rfl, by omega, by omega, by omega, by omega, by omega, H_g8.out, by (repeat' (first | (with_reducible exact Vg.Grows.refl _) | (with_reducible assumption) | (with_reducible refine Vg.Grows.alloc ?_ _) | (with_reducible refine Vg.Grows.plus ?_ _ _) | (with_reducible refine Vg.Grows.drewN ?_ _) | (with_reducible refine Vg.Grows.drew ?_) | (with_reducible refine Vg.Grows.setCell ?_ ?_ _) | (with_reducible refine Vg.Grows.put ?_ ?_ _) | omega | (simp; omega) | (simp; done))), ?_, ?_⟩, by simp [intOf]; omega⟩
              · go_simp; exact H_d4.out
              · rw [H_hc3.out]; go_simp
    · have hnb : (no == 0) = false := by simp [hno]
      have H_hk := Lib.hid hk; clear hk; have H_hst := Lib.hid hst; clear hst; have H_hlk := Lib.hid hlk; clear hlk; have H_hno := Lib.hid hno; clear hno
      go_enter Try.func3, Try.ntmps3
      go_wp2_with (first | (go_at_call 13; (with_reducible refine (begins_top _).mono ?_); rintro e w1 ⟨rfl, rfl⟩) | (go_at_call 14; (with_reducible refine (clock_make st _).mono ?_); rintro e w1 ⟨rfl, x2, n2, rfl⟩; rw [H_hk.out]) | (go_at_call 15; (with_reducible refine (shot_looks mn mx st dl _ hm).mono ?_); rintro e w1 ⟨rfl, x3, n3, rfl⟩; rw [H_hlk.out]))
      go_ret
      exact ⟨rfl, by (repeat' (first | (with_reducible exact Vg.Grows.refl _) | (with_reducible assumption) | (with_reducible refine Vg.Grows.alloc ?_ _) | (with_reducible refine Vg.Grows.plus ?_ _ _) | (with_reducible refine Vg.Grows.drewN ?_ _) | (with_reducible refine Vg.Grows.drew ?_) | (with_reducible refine Vg.Grows.setCell ?_ ?_ _) | (with_reducible refine Vg.Grows.put ?_ ?_ _) | omega | (simp; omega) | (simp; done)))⟩
end Go.Proofs.Ytfkkkcihoejjgaa
