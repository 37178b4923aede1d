/- ShotRings: the walk. -/
import Derived.Test.YtfkkkcihoejjgaaRing
set_option linter.unusedSimpArgs false
set_option linter.unusedVariables false
set_option maxHeartbeats 2000000
set_option maxRecDepth 100000
namespace Go.Proofs.Ytfkkkcihoejjgaa
open Go.ChangeShapes Go.WideShapes Go.ChangeAt Go.RowKit Go.Shelf
theorem shot_arm' {c n : Int} {ar la : Bool} {last mn mx dl : Int} {v : Value} (h : armV c n ar la last mn mx dl = v) (w : World) (hc : 0 ≤ c ∧ c ≤ 4294967295) (hm : -9223372036854775808 ≤ mx) :
    Calls Try.prog 16 #[ckV c n ar la last, tmV mn mx, .int .i64 dl] w fun e w' => e = .returned v ∧ Vg.Grows w w' := by
  refine (shot_arm c n ar la last mn mx dl w hc hm).mono ?_
  rw [h]; exact fun e w' q => q
theorem shot_plan' {mn mx now dl k a no : Int} (h : Vg.plan mn mx now dl = (k, a, no)) (w : World) (hm : -9223372036854775808 ≤ mx) :
    Calls Try.prog 17 #[tmV mn mx, .int .i64 now, .int .i64 dl] w fun e w' => e = .returned (.tuple #[.int .u8 k, .int .i64 a, .int .i64 no]) ∧ Vg.Grows w w' := by
  refine (shot_plan mn mx now dl w hm).mono ?_
  rw [h]; exact fun e w' q => q
theorem ShotRings_walk (c n : Int) (ar la : Bool) (last mn mx dl : Int) (w : World) (hc : 0 ≤ c ∧ c ≤ 4294967295) (hm : -9223372036854775808 ≤ mx) :
    Calls Try.prog 12 #[ckV c n ar la last, tmV mn mx, .int .i64 dl] w fun e w' => e = .returned (.bool true) ∧ Vg.Grows w w' := by
  obtain ⟨⟨t, no⟩, hx⟩ : ∃ p, Vg.ckNow c last = p := ⟨_, rfl⟩
  by_cases h : no = 0
  · subst h
    obtain ⟨⟨k, at_, np⟩, hp⟩ : ∃ p, Vg.plan mn mx t dl = p := ⟨_, rfl⟩
    have hlow := Vg.ckNow_low hc hx
    by_cases h1 : np = 0
    · subst h1
      by_cases h2 : k = 1
      · subst h2
        have ha : armV c n ar false last mn mx dl = .tuple #[ckV c n false false t, .int .u8 1, .int .i64 0] := by unfold armV; rw [hx]; simp [hp]
        have H_hx := Lib.hid hx; clear hx; have H_hp := Lib.hid hp; clear hp; have H_hlow := Lib.hid hlow; clear hlow; have H_ha := Lib.hid ha; clear ha
        go_enter Try.func12, Try.ntmps12
        go_wp2_with (first | (go_at_call 30; (with_reducible refine (lives04 _).mono ?_); rintro e w1 ⟨rfl, x1, n1, rfl⟩) | (go_at_call 19; (with_reducible refine (clock_now' H_hx.out _ hc).mono ?_); rintro e w1 ⟨rfl, x2, n2, rfl⟩) | (go_at_call 16; (with_reducible refine (shot_arm' H_ha.out _ hc hm).mono ?_); rintro e w1 ⟨rfl, x3, n3, rfl⟩) | (go_at_call 17; (with_reducible refine (shot_plan' H_hp.out _ hm).mono ?_); rintro e w1 ⟨rfl, x4, n4, rfl⟩))
        go_ret
        exact ⟨rfl, by (repeat' (first | (with_reducible exact Vg.Grows.refl _) | (with_reducible assumption) | (with_reducible refine Vg.Grows.alloc ?_ _) | (with_reducible refine Vg.Grows.plus ?_ _ _) | (with_reducible refine Vg.Grows.drewN ?_ _) | (with_reducible refine Vg.Grows.drew ?_) | (with_reducible refine Vg.Grows.setCell ?_ ?_ _) | (with_reducible refine Vg.Grows.put ?_ ?_ _) | omega | (simp; omega) | (simp; done)))⟩
      · have hb := Vg.plan_bd hp h2
        have ha : armV c n ar false last mn mx dl = .tuple #[ckV c (Vg.low at_) true false t, .int .u8 k, .int .i64 0] := by unfold armV; rw [hx]; simp [hp, h2]
        rw [hlow] at ha
        have hs1 := Vg.ring_before (now := t) (at_ := at_) (by omega) (by omega) (by omega) (by omega)
        have hs2 := Vg.ring_last (at_ := at_) (by omega) (by omega)
        have h2b : (k == 1) = false := by simp [h2]
        have hl1 : 0 ≤ Vg.low t ∧ Vg.low t ≤ 4294967295 := by unfold Vg.low; omega
        have hl2 : 0 ≤ Vg.low (at_ - 1) ∧ Vg.low (at_ - 1) ≤ 4294967295 := by unfold Vg.low; omega
        obtain ⟨b1, b2, b3, b4⟩ := hb
        obtain ⟨c1, hc1⟩ : ∃ c1, Vg.low t = c1 := ⟨_, rfl⟩
        obtain ⟨c2, hc2⟩ : ∃ c2, Vg.low (at_ - 1) = c2 := ⟨_, rfl⟩
        obtain ⟨c3, hc3⟩ : ∃ c3, Vg.low at_ = c3 := ⟨_, rfl⟩
        rw [hc1, hc3, hc2] at hs1
        rw [hc2, hc3] at hs2
        rw [hc1, hc3] at ha
        rw [hc1] at hl1
        rw [hc2] at hl2
        have hcc : c = c1 := by rw [hlow, hc1]
        subst hcc
        have hsub : IntKind.i64.wrap (at_ - t) = at_ - t := by rw [IntWalk.i64_in _ (by omega)]
        have hsub2 : IntKind.i64.wrap (at_ - t - 1) = at_ - t - 1 := by rw [IntWalk.i64_in _ (by omega)]
        have H_hx := Lib.hid hx; clear hx; have H_hp := Lib.hid hp; clear hp; have H_hlow := Lib.hid hlow; clear hlow; have H_ha := Lib.hid ha; clear ha; have H_hs1 := Lib.hid hs1; clear hs1; have H_hs2 := Lib.hid hs2; clear hs2; have H_h2 := Lib.hid h2; clear h2; have H_hc1 := Lib.hid hc1; clear hc1; have H_hc2 := Lib.hid hc2; clear hc2; have H_hc3 := Lib.hid hc3; clear hc3
        go_enter Try.func12, Try.ntmps12
        go_wp2_with (first | (go_at_call 30; (with_reducible refine (lives04 _).mono ?_); rintro e w1 ⟨rfl, x1, n1, rfl⟩) | (go_at_call 19; (with_reducible refine (clock_now' H_hx.out _ hc).mono ?_); rintro e w1 ⟨rfl, x2, n2, rfl⟩) | (go_at_call 16; (with_reducible refine (shot_arm' H_ha.out _ hc hm).mono ?_); rintro e w1 ⟨rfl, x3, n3, rfl⟩) | (go_at_call 17; (with_reducible refine (shot_plan' H_hp.out _ hm).mono ?_); rintro e w1 ⟨rfl, x4, n4, rfl⟩) | (go_at_call 18; (with_reducible refine (clock_step' H_hs1.out _ hl1).mono ?_); rintro e w1 ⟨rfl, x5, n5, rfl⟩) | (go_at_call 18; (with_reducible refine (clock_step' H_hs2.out _ hl2).mono ?_); rintro e w1 ⟨rfl, x6, n6, rfl⟩))
        go_ret
        exact ⟨rfl, by (repeat' (first | (with_reducible exact Vg.Grows.refl _) | (with_reducible assumption) | (with_reducible refine Vg.Grows.alloc ?_ _) | (with_reducible refine Vg.Grows.plus ?_ _ _) | (with_reducible refine Vg.Grows.drewN ?_ _) | (with_reducible refine Vg.Grows.drew ?_) | (with_reducible refine Vg.Grows.setCell ?_ ?_ _) | (with_reducible refine Vg.Grows.put ?_ ?_ _) | omega | (simp; omega) | (simp; done)))⟩
    · have ha : armV c n ar false last mn mx dl = .tuple #[ckV 0 0 false false 0, .int .u8 0, .int .i64 np] := by unfold armV; rw [hx]; simp [hp, h1]
      have h1b : (np == 0) = false := by simp [h1]
      have H_hx := Lib.hid hx; clear hx; have H_hp := Lib.hid hp; clear hp; have H_hlow := Lib.hid hlow; clear hlow; have H_ha := Lib.hid ha; clear ha; have H_h1 := Lib.hid h1; clear h1
      go_enter Try.func12, Try.ntmps12
      go_wp2_with (first | (go_at_call 30; (with_reducible refine (lives04 _).mono ?_); rintro e w1 ⟨rfl, x1, n1, rfl⟩) | (go_at_call 19; (with_reducible refine (clock_now' H_hx.out _ hc).mono ?_); rintro e w1 ⟨rfl, x2, n2, rfl⟩) | (go_at_call 16; (with_reducible refine (shot_arm' H_ha.out _ hc hm).mono ?_); rintro e w1 ⟨rfl, x3, n3, rfl⟩))
      go_ret
      exact ⟨rfl, by (repeat' (first | (with_reducible exact Vg.Grows.refl _) | (with_reducible assumption) | (with_reducible refine Vg.Grows.alloc ?_ _) | (with_reducible refine Vg.Grows.plus ?_ _ _) | (with_reducible refine Vg.Grows.drewN ?_ _) | (with_reducible refine Vg.Grows.drew ?_) | (with_reducible refine Vg.Grows.setCell ?_ ?_ _) | (with_reducible refine Vg.Grows.put ?_ ?_ _) | omega | (simp; omega) | (simp; done)))⟩
  · have h2 : no = 2 := by
      have := Vg.ckNow_no (c := c) (last := last) (by rw [hx]; exact h)
      rw [hx] at this
      exact (Prod.mk.inj this).2
    subst h2
    have ha : armV c n ar false last mn mx dl = .tuple #[ckV 0 0 false false 0, .int .u8 0, .int .i64 2] := by unfold armV; rw [hx]; simp
    have H_hx := Lib.hid hx; clear hx; have H_h := Lib.hid h; clear h; have H_ha := Lib.hid ha; clear ha
    go_enter Try.func12, Try.ntmps12
    go_wp2_with (first | (go_at_call 30; (with_reducible refine (lives04 _).mono ?_); rintro e w1 ⟨rfl, x1, n1, rfl⟩) | (go_at_call 19; (with_reducible refine (clock_now' H_hx.out _ hc).mono ?_); rintro e w1 ⟨rfl, x2, n2, rfl⟩) | (go_at_call 16; (with_reducible refine (shot_arm' H_ha.out _ hc hm).mono ?_); rintro e w1 ⟨rfl, x3, n3, rfl⟩))
    go_ret
    exact ⟨rfl, by (repeat' (first | (with_reducible exact Vg.Grows.refl _) | (with_reducible assumption) | (with_reducible refine Vg.Grows.alloc ?_ _) | (with_reducible refine Vg.Grows.plus ?_ _ _) | (with_reducible refine Vg.Grows.drewN ?_ _) | (with_reducible refine Vg.Grows.drew ?_) | (with_reducible refine Vg.Grows.setCell ?_ ?_ _) | (with_reducible refine Vg.Grows.put ?_ ?_ _) | omega | (simp; omega) | (simp; done)))⟩
end Go.Proofs.Ytfkkkcihoejjgaa
