/- Contracts of shot.Arm and vergeref04.Arm; lives of law 4; ShotPlans, ShotArms, ShotWithin. -/
import Derived.Test.YtfkkkcihoejjgaaShot
import Derived.Test.YtfkkkcihoejjgaaClock
import Derived.Test.YtfkkkcihoejjgaaFit
set_option linter.unusedSimpArgs false
set_option linter.unusedVariables false
set_option maxHeartbeats 1000000
set_option maxRecDepth 20000
namespace Go.Proofs.Ytfkkkcihoejjgaa
open Go.ChangeShapes Go.WideShapes Go.ChangeAt Go.RowKit
/-- What a clock comes to, that is armed. -/
def armV (c n : Int) (ar la : Bool) (last mn mx dl : Int) : Value :=
  if (Vg.ckNow c last).2 = 0 then
    (if (Vg.plan mn mx (Vg.ckNow c last).1 dl).2.2 = 0 then
      (if (Vg.plan mn mx (Vg.ckNow c last).1 dl).1 = 1 then .tuple #[ckV c n false la (Vg.ckNow c last).1, .int .u8 1, .int .i64 0]
       else .tuple #[ckV c (Vg.low (Vg.plan mn mx (Vg.ckNow c last).1 dl).2.1) true la (Vg.ckNow c last).1, .int .u8 (Vg.plan mn mx (Vg.ckNow c last).1 dl).1, .int .i64 0])
     else .tuple #[ckV 0 0 false false 0, .int .u8 0, .int .i64 (Vg.plan mn mx (Vg.ckNow c last).1 dl).2.2])
  else .tuple #[ckV 0 0 false false 0, .int .u8 0, .int .i64 2]
theorem shot_arm (c n : Int) (ar la : Bool) (last mn mx dl : Int) (w : World) (hc : 0 ≤ c ∧ c ≤ 4294967295) (hm : -9223372036854775808 ≤ mx) :
    Calls Try.prog 16 #[ckV c n ar la last, tmV mn mx, .int .i64 dl] w fun e w' => e = .returned (armV c n ar la last mn mx dl) ∧ Vg.Grows w w' := by
  obtain ⟨⟨t, no⟩, hx⟩ : ∃ p, Vg.ckNow c last = p := ⟨_, rfl⟩
  by_cases h : no = 0
  · subst h
    obtain ⟨⟨k, at_, np⟩, hp⟩ : ∃ p, Vg.plan mn mx t dl = p := ⟨_, rfl⟩
    by_cases h1 : np = 0
    · subst h1
      have hk : Vg.tmC mn mx = 0 := by
        unfold Vg.tmC; unfold Vg.plan at hp
        by_cases q : Vg.tmB mn mx = true
        · rw [if_pos q]
        · rw [if_neg q] at hp; simp at hp
      by_cases h2 : k = 1
      · subst h2
        have e : armV c n ar la last mn mx dl = .tuple #[ckV c n false la t, .int .u8 1, .int .i64 0] := by unfold armV; rw [hx]; simp [hp]
        rw [e]
        have H_e := Lib.hid e; clear e; have H_hx := Lib.hid hx; clear hx; have H_hp := Lib.hid hp; clear hp; have H_hk := Lib.hid hk; clear hk
        go_enter Try.func16, Try.ntmps16
        go_wp2_with (first | (go_at_call 21; (with_reducible refine (clock_read c n ar la last _ hc).mono ?_); rintro e w1 ⟨rfl, xa, na, rfl⟩; rw [H_hx.out]; (try simp only [if_true])) | (go_at_call 17; (with_reducible refine (shot_plan mn mx t dl _ hm).mono ?_); rintro e w1 ⟨rfl, xb, nb, rfl⟩; rw [H_hp.out]) | (go_at_call 38; (with_reducible refine (hw_disarm _ _ _ _ _).mono ?_); rintro e w1 ⟨rfl, xd, nd, rfl⟩))
        go_returns
        exact ⟨rfl, by (repeat' (first | (with_reducible exact Vg.Grows.refl _) | (with_reducible assumption) | (with_reducible refine Vg.Grows.alloc ?_ _) | (with_reducible refine Vg.Grows.plus ?_ _ _) | (with_reducible refine Vg.Grows.drewN ?_ _) | (with_reducible refine Vg.Grows.drew ?_) | (with_reducible refine Vg.Grows.setCell ?_ ?_ _) | (with_reducible refine Vg.Grows.put ?_ ?_ _) | omega | (simp; omega) | (simp; done)))⟩
      · have e : armV c n ar la last mn mx dl = .tuple #[ckV c (Vg.low at_) true la t, .int .u8 k, .int .i64 0] := by unfold armV; rw [hx]; simp [hp, h2]
        have h2b : (k == 1) = false := by simp [h2]
        rw [e]
        have H_e := Lib.hid e; clear e; have H_hx := Lib.hid hx; clear hx; have H_hp := Lib.hid hp; clear hp; have H_h2 := Lib.hid h2; clear h2; have H_hk := Lib.hid hk; clear hk
        go_enter Try.func16, Try.ntmps16
        go_wp2_with (first | (go_at_call 21; (with_reducible refine (clock_read c n ar la last _ hc).mono ?_); rintro e w1 ⟨rfl, xa, na, rfl⟩; rw [H_hx.out]; (try simp only [if_true])) | (go_at_call 17; (with_reducible refine (shot_plan mn mx t dl _ hm).mono ?_); rintro e w1 ⟨rfl, xb, nb, rfl⟩; rw [H_hp.out]) | (go_at_call 38; (with_reducible refine (hw_disarm _ _ _ _ _).mono ?_); rintro e w1 ⟨rfl, xd, nd, rfl⟩))
        go_region_with (first | (go_at_call 36; refine (low_any _ _).mono ?_; rintro e w' ⟨rfl, rfl⟩) | (go_at_call 34; (with_reducible refine (hw_arm _ _ _ _ _ _).mono ?_); rintro e w1 ⟨rfl, xe, ne, rfl⟩))
        all_goals go_wp2
        all_goals go_returns
        all_goals exact ⟨rfl, by (repeat' (first | (with_reducible exact Vg.Grows.refl _) | (with_reducible assumption) | (with_reducible refine Vg.Grows.alloc ?_ _) | (with_reducible refine Vg.Grows.plus ?_ _ _) | (with_reducible refine Vg.Grows.drewN ?_ _) | (with_reducible refine Vg.Grows.drew ?_) | (with_reducible refine Vg.Grows.setCell ?_ ?_ _) | (with_reducible refine Vg.Grows.put ?_ ?_ _) | omega | (simp; omega) | (simp; done)))⟩
    · have e : armV c n ar la last mn mx dl = .tuple #[ckV 0 0 false false 0, .int .u8 0, .int .i64 np] := by unfold armV; rw [hx]; simp [hp, h1]
      have h1b : (np == 0) = false := by simp [h1]
      rw [e]
      have H_e := Lib.hid e; clear e; have H_hx := Lib.hid hx; clear hx; have H_h1 := Lib.hid h1; clear h1
      have H_hp := Lib.hid hp; clear hp
      go_enter Try.func16, Try.ntmps16
      go_wp2_with (first | (go_at_call 21; (with_reducible refine (clock_read c n ar la last _ hc).mono ?_); rintro e w1 ⟨rfl, xa, na, rfl⟩; rw [H_hx.out]; (try simp only [if_true])) | (go_at_call 17; (with_reducible refine (shot_plan mn mx t dl _ hm).mono ?_); rintro e w1 ⟨rfl, xb, nb, rfl⟩; rw [H_hp.out]) | (go_at_call 38; (with_reducible refine (hw_disarm _ _ _ _ _).mono ?_); rintro e w1 ⟨rfl, xd, nd, rfl⟩))
      go_returns
      exact ⟨rfl, by (repeat' (first | (with_reducible exact Vg.Grows.refl _) | (with_reducible assumption) | (with_reducible refine Vg.Grows.alloc ?_ _) | (with_reducible refine Vg.Grows.plus ?_ _ _) | (with_reducible refine Vg.Grows.drewN ?_ _) | (with_reducible refine Vg.Grows.drew ?_) | (with_reducible refine Vg.Grows.setCell ?_ ?_ _) | (with_reducible refine Vg.Grows.put ?_ ?_ _) | omega | (simp; omega) | (simp; done)))⟩
  · have h2 : no = 2 := by
      have := Vg.ckNow_no (c := c) (last := last) (by rw [hx]; exact h)
      rw [hx] at this
      exact (Prod.mk.inj this).2
    subst h2
    have e : armV c n ar la last mn mx dl = .tuple #[ckV 0 0 false false 0, .int .u8 0, .int .i64 2] := by unfold armV; rw [hx]; simp
    have hr : (if (2 : Int) = 0 then Value.tuple #[ckV c n ar la t, .int .i64 t, .int .i64 0] else .tuple #[ckV 0 0 false false 0, .int .i64 0, .int .i64 2]) = .tuple #[ckV 0 0 false false 0, .int .i64 0, .int .i64 2] := if_neg (by omega)
    rw [e]
    have H_e := Lib.hid e; clear e; have H_hx := Lib.hid hx; clear hx; have H_h := Lib.hid h; clear h; have H_hr := Lib.hid hr; clear hr
    go_enter Try.func16, Try.ntmps16
    go_wp2_with ((go_at_call 21; (with_reducible refine (clock_read c n ar la last _ hc).mono ?_); rintro e w1 ⟨rfl, xa, na, rfl⟩; rw [H_hx.out]; simp only []; rw [H_hr.out]))
    go_returns
    exact ⟨rfl, by (repeat' (first | (with_reducible exact Vg.Grows.refl _) | (with_reducible assumption) | (with_reducible refine Vg.Grows.alloc ?_ _) | (with_reducible refine Vg.Grows.plus ?_ _ _) | (with_reducible refine Vg.Grows.drewN ?_ _) | (with_reducible refine Vg.Grows.drew ?_) | (with_reducible refine Vg.Grows.setCell ?_ ?_ _) | (with_reducible refine Vg.Grows.put ?_ ?_ _) | omega | (simp; omega) | (simp; done)))⟩
theorem ref04_arm (c n : Int) (ar la : Bool) (last mn mx dl : Int) (w : World) (hc : 0 ≤ c ∧ c ≤ 4294967295) (hm : -9223372036854775808 ≤ mx) :
    Calls Try.prog 33 #[ckV c n ar la last, tmV mn mx, .int .i64 dl] w fun e w' => e = .returned (armV c n ar la last mn mx dl) ∧ Vg.Grows w w' := by
  obtain ⟨⟨t, no⟩, hx⟩ : ∃ p, Vg.ckNow c last = p := ⟨_, rfl⟩
  by_cases h : no = 0
  · subst h
    obtain ⟨⟨k, at_, np⟩, hp⟩ : ∃ p, Vg.plan mn mx t dl = p := ⟨_, rfl⟩
    by_cases h1 : np = 0
    · subst h1
      have hk : Vg.tmC mn mx = 0 := by
        unfold Vg.tmC; unfold Vg.plan at hp
        by_cases q : Vg.tmB mn mx = true
        · rw [if_pos q]
        · rw [if_neg q] at hp; simp at hp
      by_cases h2 : k = 1
      · subst h2
        have e : armV c n ar la last mn mx dl = .tuple #[ckV c n false la t, .int .u8 1, .int .i64 0] := by unfold armV; rw [hx]; simp [hp]
        rw [e]
        have H_e := Lib.hid e; clear e; have H_hx := Lib.hid hx; clear hx; have H_hp := Lib.hid hp; clear hp; have H_hk := Lib.hid hk; clear hk
        go_enter Try.func33, Try.ntmps33
        go_wp2_with (first | (go_at_call 22; (with_reducible refine (ref03_read c n ar la last _ hc).mono ?_); rintro e w1 ⟨rfl, xa, na, rfl⟩; rw [H_hx.out]; (try simp only [if_true])) | (go_at_call 29; (with_reducible refine (ref04_plan mn mx t dl _ hm).mono ?_); rintro e w1 ⟨rfl, xb, nb, rfl⟩; rw [H_hp.out]) | (go_at_call 32; (with_reducible refine (ref04_check mn mx _ hm).mono ?_); rintro e w1 ⟨rfl, xc, nc, rfl⟩; rw [H_hk.out]) | (go_at_call 48; (with_reducible refine (hw_refdisarm _ _ _ _ _).mono ?_); rintro e w1 ⟨rfl, xd, nd, rfl⟩))
        go_returns
        exact ⟨rfl, by (repeat' (first | (with_reducible exact Vg.Grows.refl _) | (with_reducible assumption) | (with_reducible refine Vg.Grows.alloc ?_ _) | (with_reducible refine Vg.Grows.plus ?_ _ _) | (with_reducible refine Vg.Grows.drewN ?_ _) | (with_reducible refine Vg.Grows.drew ?_) | (with_reducible refine Vg.Grows.setCell ?_ ?_ _) | (with_reducible refine Vg.Grows.put ?_ ?_ _) | omega | (simp; omega) | (simp; done)))⟩
      · have e : armV c n ar la last mn mx dl = .tuple #[ckV c (Vg.low at_) true la t, .int .u8 k, .int .i64 0] := by unfold armV; rw [hx]; simp [hp, h2]
        have h2b : (k == 1) = false := by simp [h2]
        rw [e]
        have H_e := Lib.hid e; clear e; have H_hx := Lib.hid hx; clear hx; have H_hp := Lib.hid hp; clear hp; have H_h2 := Lib.hid h2; clear h2; have H_hk := Lib.hid hk; clear hk
        go_enter Try.func33, Try.ntmps33
        go_wp2_with (first | (go_at_call 22; (with_reducible refine (ref03_read c n ar la last _ hc).mono ?_); rintro e w1 ⟨rfl, xa, na, rfl⟩; rw [H_hx.out]; (try simp only [if_true])) | (go_at_call 29; (with_reducible refine (ref04_plan mn mx t dl _ hm).mono ?_); rintro e w1 ⟨rfl, xb, nb, rfl⟩; rw [H_hp.out]) | (go_at_call 32; (with_reducible refine (ref04_check mn mx _ hm).mono ?_); rintro e w1 ⟨rfl, xc, nc, rfl⟩; rw [H_hk.out]) | (go_at_call 48; (with_reducible refine (hw_refdisarm _ _ _ _ _).mono ?_); rintro e w1 ⟨rfl, xd, nd, rfl⟩))
        go_region_with (first | (go_at_call 47; refine (reflow_any _ _).mono ?_; rintro e w' ⟨rfl, rfl⟩) | (go_at_call 49; (with_reducible refine (hw_refarm _ _ _ _ _ _).mono ?_); rintro e w1 ⟨rfl, xe, ne, rfl⟩))
        all_goals go_wp2
        all_goals go_returns
        all_goals exact ⟨rfl, by (repeat' (first | (with_reducible exact Vg.Grows.refl _) | (with_reducible assumption) | (with_reducible refine Vg.Grows.alloc ?_ _) | (with_reducible refine Vg.Grows.plus ?_ _ _) | (with_reducible refine Vg.Grows.drewN ?_ _) | (with_reducible refine Vg.Grows.drew ?_) | (with_reducible refine Vg.Grows.setCell ?_ ?_ _) | (with_reducible refine Vg.Grows.put ?_ ?_ _) | omega | (simp; omega) | (simp; done)))⟩
    · have e : armV c n ar la last mn mx dl = .tuple #[ckV 0 0 false false 0, .int .u8 0, .int .i64 np] := by unfold armV; rw [hx]; simp [hp, h1]
      have h1b : (np == 0) = false := by simp [h1]
      rw [e]
      have H_e := Lib.hid e; clear e; have H_hx := Lib.hid hx; clear hx; have H_h1 := Lib.hid h1; clear h1
      by_cases q : Vg.tmB mn mx = true
      · have hk : Vg.tmC mn mx = 0 := if_pos q
        have H_hp := Lib.hid hp; clear hp; have H_hk := Lib.hid hk; clear hk; have H_q := Lib.hid q; clear q
        go_enter Try.func33, Try.ntmps33
        go_wp2_with (first | (go_at_call 22; (with_reducible refine (ref03_read c n ar la last _ hc).mono ?_); rintro e w1 ⟨rfl, xa, na, rfl⟩; rw [H_hx.out]; (try simp only [if_true])) | (go_at_call 29; (with_reducible refine (ref04_plan mn mx t dl _ hm).mono ?_); rintro e w1 ⟨rfl, xb, nb, rfl⟩; rw [H_hp.out]) | (go_at_call 32; (with_reducible refine (ref04_check mn mx _ hm).mono ?_); rintro e w1 ⟨rfl, xc, nc, rfl⟩; rw [H_hk.out]) | (go_at_call 48; (with_reducible refine (hw_refdisarm _ _ _ _ _).mono ?_); rintro e w1 ⟨rfl, xd, nd, rfl⟩))
        go_returns
        exact ⟨rfl, by (repeat' (first | (with_reducible exact Vg.Grows.refl _) | (with_reducible assumption) | (with_reducible refine Vg.Grows.alloc ?_ _) | (with_reducible refine Vg.Grows.plus ?_ _ _) | (with_reducible refine Vg.Grows.drewN ?_ _) | (with_reducible refine Vg.Grows.drew ?_) | (with_reducible refine Vg.Grows.setCell ?_ ?_ _) | (with_reducible refine Vg.Grows.put ?_ ?_ _) | omega | (simp; omega) | (simp; done)))⟩
      · have hk : Vg.tmC mn mx = 2 := if_neg q
        have hp2 : Vg.plan mn mx t dl = (0, 0, 2) := by unfold Vg.plan; rw [if_neg q]
        rw [hp2] at hp
        simp only [Prod.mk.injEq] at hp
        obtain ⟨rfl, rfl, rfl⟩ := hp
        have H_hp2 := Lib.hid hp2; clear hp2; have H_hk := Lib.hid hk; clear hk; have H_q := Lib.hid q; clear q
        go_enter Try.func33, Try.ntmps33
        go_wp2_with (first | (go_at_call 22; (with_reducible refine (ref03_read c n ar la last _ hc).mono ?_); rintro e w1 ⟨rfl, xa, na, rfl⟩; rw [H_hx.out]; (try simp only [if_true])) | (go_at_call 32; (with_reducible refine (ref04_check mn mx _ hm).mono ?_); rintro e w1 ⟨rfl, xc, nc, rfl⟩; rw [H_hk.out]) | (go_at_call 48; (with_reducible refine (hw_refdisarm _ _ _ _ _).mono ?_); rintro e w1 ⟨rfl, xd, nd, rfl⟩))
        go_returns
        exact ⟨rfl, by (repeat' (first | (with_reducible exact Vg.Grows.refl _) | (with_reducible assumption) | (with_reducible refine Vg.Grows.alloc ?_ _) | (with_reducible refine Vg.Grows.plus ?_ _ _) | (with_reducible refine Vg.Grows.drewN ?_ _) | (with_reducible refine Vg.Grows.drew ?_) | (with_reducible refine Vg.Grows.setCell ?_ ?_ _) | (with_reducible refine Vg.Grows.put ?_ ?_ _) | omega | (simp; omega) | (simp; done)))⟩
  · have h2 : no = 2 := by
      have := Vg.ckNow_no (c := c) (last := last) (by rw [hx]; exact h)
      rw [hx] at this
      exact (Prod.mk.inj this).2
    subst h2
    have e : armV c n ar la last mn mx dl = .tuple #[ckV 0 0 false false 0, .int .u8 0, .int .i64 2] := by unfold armV; rw [hx]; simp
    have hr : (if (2 : Int) = 0 then Value.tuple #[ckV c n ar la t, .int .i64 t, .int .i64 0] else .tuple #[ckV 0 0 false false 0, .int .i64 0, .int .i64 2]) = .tuple #[ckV 0 0 false false 0, .int .i64 0, .int .i64 2] := if_neg (by omega)
    rw [e]
    have H_e := Lib.hid e; clear e; have H_hx := Lib.hid hx; clear hx; have H_h := Lib.hid h; clear h; have H_hr := Lib.hid hr; clear hr
    go_enter Try.func33, Try.ntmps33
    go_wp2_with ((go_at_call 22; (with_reducible refine (ref03_read c n ar la last _ hc).mono ?_); rintro e w1 ⟨rfl, xa, na, rfl⟩; rw [H_hx.out]; simp only []; rw [H_hr.out]))
    go_returns
    exact ⟨rfl, by (repeat' (first | (with_reducible exact Vg.Grows.refl _) | (with_reducible assumption) | (with_reducible refine Vg.Grows.alloc ?_ _) | (with_reducible refine Vg.Grows.plus ?_ _ _) | (with_reducible refine Vg.Grows.drewN ?_ _) | (with_reducible refine Vg.Grows.drew ?_) | (with_reducible refine Vg.Grows.setCell ?_ ?_ _) | (with_reducible refine Vg.Grows.put ?_ ?_ _) | omega | (simp; omega) | (simp; done)))⟩
end Go.Proofs.Ytfkkkcihoejjgaa
