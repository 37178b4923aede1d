/- Stats: contracts of Join and Mean. -/
import Derived.Test.YtlgkcpgmnpoanaaStatsB
set_option linter.unusedSimpArgs false
set_option linter.unusedVariables false
set_option maxHeartbeats 400000
set_option maxRecDepth 20000
namespace Go.Proofs.Ytlgkcpgmnpoanaa
open Go.ChangeShapes Go.WideShapes Go.ChangeAt Go.RowKit
theorem stats_join (x y : Vg.St) (w : World) : Calls Try.prog 59 #[stV x, stV y] w fun e w' => e = .returned (.tuple #[stV (x.join y).1, .int .i64 (x.join y).2]) ∧ Vg.Grows w w' := by
  by_cases h1 : x.OK
  · by_cases h2 : y.OK
    · have hck := Vg.St.ck_ok h1
      have hcy := Vg.St.ck_ok h2
      cases h3 : x.fit y with
      | true =>
        have e : x.join y = (x.jo y, 0) := by unfold Vg.St.join; rw [if_pos ⟨h1, h2⟩, if_pos h3]
        rw [e]
        have H_e := Lib.hid e; clear e; have H_hck := Lib.hid hck; clear hck; have H_h1 := Lib.hid h1; clear h1; have H_h2 := Lib.hid h2; clear h2; have H_h3 := Lib.hid h3; clear h3; have H_hcy := Lib.hid hcy; clear hcy
        go_enter Try.func59, Try.ntmps59
        go_wp2_with (first | (go_at_call 57; (with_reducible refine (stats_check x _).mono ?_); rintro e w1 ⟨rfl, xa, na, rfl⟩; rw [H_hck.out]) | (go_at_call 57; (with_reducible refine (stats_check y _).mono ?_); rintro e w1 ⟨rfl, xb, nb, rfl⟩; rw [H_hcy.out]) | (go_at_call 77; (with_reducible refine (stats_jo x y _ H_h1.out H_h2.out).mono ?_); rintro e w1 ⟨rfl, xd, nd, rfl⟩; rw [H_h3.out]))
        go_returns
        exact ⟨rfl, by (repeat' (first | (with_reducible exact Vg.Grows.refl _) | (with_reducible assumption) | (with_reducible refine Vg.Grows.alloc ?_ _) | (with_reducible refine Vg.Grows.plus ?_ _ _) | (with_reducible refine Vg.Grows.drewN ?_ _) | (with_reducible refine Vg.Grows.drew ?_) | (with_reducible refine Vg.Grows.setCell ?_ ?_ _) | (with_reducible refine Vg.Grows.put ?_ ?_ _) | omega | (simp; omega) | (simp; done)))⟩
      | false =>
        have e : x.join y = (⟨0, 0, 0, 0, 0⟩, 10) := by unfold Vg.St.join; rw [if_pos ⟨h1, h2⟩, if_neg (by rw [h3]; simp)]; rfl
        rw [e]
        have H_e := Lib.hid e; clear e; have H_hck := Lib.hid hck; clear hck; have H_h1 := Lib.hid h1; clear h1; have H_h2 := Lib.hid h2; clear h2; have H_h3 := Lib.hid h3; clear h3; have H_hcy := Lib.hid hcy; clear hcy
        go_enter Try.func59, Try.ntmps59
        go_wp2_with (first | (go_at_call 57; (with_reducible refine (stats_check x _).mono ?_); rintro e w1 ⟨rfl, xa, na, rfl⟩; rw [H_hck.out]) | (go_at_call 57; (with_reducible refine (stats_check y _).mono ?_); rintro e w1 ⟨rfl, xb, nb, rfl⟩; rw [H_hcy.out]) | (go_at_call 77; (with_reducible refine (stats_jo x y _ H_h1.out H_h2.out).mono ?_); rintro e w1 ⟨rfl, xd, nd, rfl⟩; rw [H_h3.out]))
        go_returns
        exact ⟨rfl, by (repeat' (first | (with_reducible exact Vg.Grows.refl _) | (with_reducible assumption) | (with_reducible refine Vg.Grows.alloc ?_ _) | (with_reducible refine Vg.Grows.plus ?_ _ _) | (with_reducible refine Vg.Grows.drewN ?_ _) | (with_reducible refine Vg.Grows.drew ?_) | (with_reducible refine Vg.Grows.setCell ?_ ?_ _) | (with_reducible refine Vg.Grows.put ?_ ?_ _) | omega | (simp; omega) | (simp; done)))⟩
    · have hck := Vg.St.ck_ok h1
      have hcy := Vg.St.ck_no h2
      have e : x.join y = (⟨0, 0, 0, 0, 0⟩, 2) := by unfold Vg.St.join; rw [if_neg (fun h => h2 h.2)]; rfl
      rw [e]
      have H_e := Lib.hid e; clear e; have H_hck := Lib.hid hck; clear hck; have H_h1 := Lib.hid h1; clear h1; have H_h2 := Lib.hid h2; clear h2; have H_hcy := Lib.hid hcy; clear hcy
      go_enter Try.func59, Try.ntmps59
      go_wp2_with (first | (go_at_call 57; (with_reducible refine (stats_check x _).mono ?_); rintro e w1 ⟨rfl, xa, na, rfl⟩; rw [H_hck.out]) | (go_at_call 57; (with_reducible refine (stats_check y _).mono ?_); rintro e w1 ⟨rfl, xb, nb, rfl⟩; rw [H_hcy.out]))
      go_returns
      exact ⟨rfl, by (repeat' (first | (with_reducible exact Vg.Grows.refl _) | (with_reducible assumption) | (with_reducible refine Vg.Grows.alloc ?_ _) | (with_reducible refine Vg.Grows.plus ?_ _ _) | (with_reducible refine Vg.Grows.drewN ?_ _) | (with_reducible refine Vg.Grows.drew ?_) | (with_reducible refine Vg.Grows.setCell ?_ ?_ _) | (with_reducible refine Vg.Grows.put ?_ ?_ _) | omega | (simp; omega) | (simp; done)))⟩
  · have hck := Vg.St.ck_no h1
    have e : x.join y = (⟨0, 0, 0, 0, 0⟩, 2) := by unfold Vg.St.join; rw [if_neg (fun h => h1 h.1)]; rfl
    rw [e]
    have H_e := Lib.hid e; clear e; have H_hck := Lib.hid hck; clear hck; have H_h1 := Lib.hid h1; clear h1
    go_enter Try.func59, Try.ntmps59
    go_wp2_with ((go_at_call 57; (with_reducible refine (stats_check x _).mono ?_); rintro e w1 ⟨rfl, xa, na, rfl⟩; rw [H_hck.out]))
    go_returns
    exact ⟨rfl, by (repeat' (first | (with_reducible exact Vg.Grows.refl _) | (with_reducible assumption) | (with_reducible refine Vg.Grows.alloc ?_ _) | (with_reducible refine Vg.Grows.plus ?_ _ _) | (with_reducible refine Vg.Grows.drewN ?_ _) | (with_reducible refine Vg.Grows.drew ?_) | (with_reducible refine Vg.Grows.setCell ?_ ?_ _) | (with_reducible refine Vg.Grows.put ?_ ?_ _) | omega | (simp; omega) | (simp; done)))⟩
theorem stats_mean (x : Vg.St) (w : World) : Calls Try.prog 54 #[stV x] w fun e w' => e = .returned (.tuple #[.int .i64 x.mean.1, .int .i64 x.mean.2]) ∧ Vg.Grows w w' := by
  by_cases h1 : x.OK
  · have hck := Vg.St.ck_ok h1
    have hb := h1.bd
    by_cases h2 : x.j = 0
    · have e : x.mean = (0, 3) := by unfold Vg.St.mean; rw [if_pos h1, if_pos h2]
      have h2b : (x.j == 0) = true := by simp [h2]
      rw [e]
      have H_e := Lib.hid e; clear e; have H_hck := Lib.hid hck; clear hck; have H_h1 := Lib.hid h1; clear h1; have H_h2 := Lib.hid h2; clear h2; have H_hb := Lib.hid hb; clear hb
      go_enter Try.func54, Try.ntmps54
      go_wp2_with ((go_at_call 57; (with_reducible refine (stats_check x _).mono ?_); rintro e w1 ⟨rfl, xa, na, rfl⟩; rw [H_hck.out]))
      go_ret2
      exact ⟨rfl, by (repeat' (first | (with_reducible exact Vg.Grows.refl _) | (with_reducible assumption) | (with_reducible refine Vg.Grows.alloc ?_ _) | (with_reducible refine Vg.Grows.plus ?_ _ _) | (with_reducible refine Vg.Grows.drewN ?_ _) | (with_reducible refine Vg.Grows.drew ?_) | (with_reducible refine Vg.Grows.setCell ?_ ?_ _) | (with_reducible refine Vg.Grows.put ?_ ?_ _) | omega | (simp; omega) | (simp; done)))⟩
    · have e : x.mean = (x.s / x.j, 0) := by unfold Vg.St.mean; rw [if_pos h1, if_neg h2]
      have h2b : (x.j == 0) = false := by simp [h2]
      have h2p : 1 ≤ x.j := by omega
      rw [e]
      have H_e := Lib.hid e; clear e; have H_hck := Lib.hid hck; clear hck; have H_h1 := Lib.hid h1; clear h1
      go_enter Try.func54, Try.ntmps54
      go_wp2_with ((go_at_call 57; (with_reducible refine (stats_check x _).mono ?_); rintro e w1 ⟨rfl, xa, na, rfl⟩; rw [H_hck.out]))
      go_ret2
      exact ⟨rfl, by (repeat' (first | (with_reducible exact Vg.Grows.refl _) | (with_reducible assumption) | (with_reducible refine Vg.Grows.alloc ?_ _) | (with_reducible refine Vg.Grows.plus ?_ _ _) | (with_reducible refine Vg.Grows.drewN ?_ _) | (with_reducible refine Vg.Grows.drew ?_) | (with_reducible refine Vg.Grows.setCell ?_ ?_ _) | (with_reducible refine Vg.Grows.put ?_ ?_ _) | omega | (simp; omega) | (simp; done)))⟩
  · have hck := Vg.St.ck_no h1
    have e : x.mean = (0, 2) := by unfold Vg.St.mean; rw [if_neg h1]
    rw [e]
    have H_e := Lib.hid e; clear e; have H_hck := Lib.hid hck; clear hck; have H_h1 := Lib.hid h1; clear h1
    go_enter Try.func54, Try.ntmps54
    go_wp2_with ((go_at_call 57; (with_reducible refine (stats_check x _).mono ?_); rintro e w1 ⟨rfl, xa, na, rfl⟩; rw [H_hck.out]))
    go_ret2
    exact ⟨rfl, by (repeat' (first | (with_reducible exact Vg.Grows.refl _) | (with_reducible assumption) | (with_reducible refine Vg.Grows.alloc ?_ _) | (with_reducible refine Vg.Grows.plus ?_ _ _) | (with_reducible refine Vg.Grows.drewN ?_ _) | (with_reducible refine Vg.Grows.drew ?_) | (with_reducible refine Vg.Grows.setCell ?_ ?_ _) | (with_reducible refine Vg.Grows.put ?_ ?_ _) | omega | (simp; omega) | (simp; done)))⟩
theorem ref20_mean (x : Vg.St) (w : World) : Calls Try.prog 55 #[stV x] w fun e w' => e = .returned (.tuple #[.int .i64 x.mean.1, .int .i64 x.mean.2]) ∧ Vg.Grows w w' := by
  by_cases h1 : x.OK
  · have hck := Vg.St.ck_ok h1
    have hb := h1.bd
    by_cases h2 : x.j = 0
    · have e : x.mean = (0, 3) := by unfold Vg.St.mean; rw [if_pos h1, if_pos h2]
      have h2b : (x.j == 0) = true := by simp [h2]
      rw [e]
      have H_e := Lib.hid e; clear e; have H_hck := Lib.hid hck; clear hck; have H_h1 := Lib.hid h1; clear h1; have H_h2 := Lib.hid h2; clear h2; have H_hb := Lib.hid hb; clear hb
      go_enter Try.func55, Try.ntmps55
      go_wp2_with ((go_at_call 58; (with_reducible refine (ref20_check x _).mono ?_); rintro e w1 ⟨rfl, xa, na, rfl⟩; rw [H_hck.out]))
      go_ret2
      exact ⟨rfl, by (repeat' (first | (with_reducible exact Vg.Grows.refl _) | (with_reducible assumption) | (with_reducible refine Vg.Grows.alloc ?_ _) | (with_reducible refine Vg.Grows.plus ?_ _ _) | (with_reducible refine Vg.Grows.drewN ?_ _) | (with_reducible refine Vg.Grows.drew ?_) | (with_reducible refine Vg.Grows.setCell ?_ ?_ _) | (with_reducible refine Vg.Grows.put ?_ ?_ _) | omega | (simp; omega) | (simp; done)))⟩
    · have e : x.mean = (x.s / x.j, 0) := by unfold Vg.St.mean; rw [if_pos h1, if_neg h2]
      have h2b : (x.j == 0) = false := by simp [h2]
      have h2p : 1 ≤ x.j := by omega
      rw [e]
      have H_e := Lib.hid e; clear e; have H_hck := Lib.hid hck; clear hck; have H_h1 := Lib.hid h1; clear h1
      go_enter Try.func55, Try.ntmps55
      go_wp2_with ((go_at_call 58; (with_reducible refine (ref20_check x _).mono ?_); rintro e w1 ⟨rfl, xa, na, rfl⟩; rw [H_hck.out]))
      go_ret2
      exact ⟨rfl, by (repeat' (first | (with_reducible exact Vg.Grows.refl _) | (with_reducible assumption) | (with_reducible refine Vg.Grows.alloc ?_ _) | (with_reducible refine Vg.Grows.plus ?_ _ _) | (with_reducible refine Vg.Grows.drewN ?_ _) | (with_reducible refine Vg.Grows.drew ?_) | (with_reducible refine Vg.Grows.setCell ?_ ?_ _) | (with_reducible refine Vg.Grows.put ?_ ?_ _) | omega | (simp; omega) | (simp; done)))⟩
  · have hck := Vg.St.ck_no h1
    have e : x.mean = (0, 2) := by unfold Vg.St.mean; rw [if_neg h1]
    rw [e]
    have H_e := Lib.hid e; clear e; have H_hck := Lib.hid hck; clear hck; have H_h1 := Lib.hid h1; clear h1
    go_enter Try.func55, Try.ntmps55
    go_wp2_with ((go_at_call 58; (with_reducible refine (ref20_check x _).mono ?_); rintro e w1 ⟨rfl, xa, na, rfl⟩; rw [H_hck.out]))
    go_ret2
    exact ⟨rfl, by (repeat' (first | (with_reducible exact Vg.Grows.refl _) | (with_reducible assumption) | (with_reducible refine Vg.Grows.alloc ?_ _) | (with_reducible refine Vg.Grows.plus ?_ _ _) | (with_reducible refine Vg.Grows.drewN ?_ _) | (with_reducible refine Vg.Grows.drew ?_) | (with_reducible refine Vg.Grows.setCell ?_ ?_ _) | (with_reducible refine Vg.Grows.put ?_ ?_ _) | omega | (simp; omega) | (simp; done)))⟩
end Go.Proofs.Ytlgkcpgmnpoanaa
