/- Stats: lives, StatsAdd, StatsJoin. -/
import Derived.Test.YtlgkcpgmnpoanaaStatsD
import Derived.Test.YtlgkcpgmnpoanaaStatsE
import Derived.Test.YtlgkcpgmnpoanaaFit
set_option linter.unusedSimpArgs false
set_option linter.unusedVariables false
set_option maxHeartbeats 1000000
set_option maxRecDepth 20000
namespace Vg
open Go
/-- Rows of five numbers that came in, as a list of jobs. -/
def jobsOf (D : Nat → Nat → Int) (n : Nat) : List Jb := (List.range n).map fun i => ⟨D i 0, D i 1, D i 2, D i 3, D i 4⟩
theorem jobsOf_length (D : Nat → Nat → Int) (n : Nat) : (jobsOf D n).length = n := by simp [jobsOf]
theorem JR.of_rows {w : World} {a : Option Addr} {len cap : Nat} {D : Nat → Nat → Int} (h : intRows w [.i64, .i64, .i64, .i64, .i64] a len cap D) : JR w a len cap (jobsOf D len) := by
  refine ⟨(jobsOf_length D len).symm, h.1, h.2.1, fun k hk => ?_⟩
  rw [jobsOf_length] at hk
  obtain ⟨b, off, rfl, hb, hc⟩ := h.open (by decide) (by omega)
  have e : (jobsOf D len)[k]'(by rw [jobsOf_length]; exact hk) = ⟨D k 0, D k 1, D k 2, D k 3, D k 4⟩ := by simp [jobsOf]
  rw [e]
  exact ⟨b, off, rfl, hb, (hc k hk 0 (by decide)).1, (hc k hk 1 (by decide)).1, (hc k hk 2 (by decide)).1, (hc k hk 3 (by decide)).1, (hc k hk 4 (by decide)).1⟩
end Vg
namespace Go.Proofs.Ytlgkcpgmnpoanaa
open Go.ChangeShapes Go.WideShapes Go.ChangeAt Go.RowKit
theorem lives20 (w : World) : Calls Try.prog 56 #[] w fun e w' => e = .returned (.bool true) ∧ Vg.Grows w w' := by
  have e1 : Vg.ofGo ⟨0, 0, 0, 0, 0⟩ [⟨0, 10, 12, 30, 15⟩, ⟨0, 20, 20, 31, 15⟩] = (⟨2, 1, 20, 31, 2⟩, 0) := by kernel_rfl
  have e2 : Vg.St.mean ⟨2, 1, 20, 31, 2⟩ = (15, 0) := by kernel_rfl
  have e3 : Vg.St.join ⟨2, 1, 20, 31, 2⟩ ⟨2, 1, 20, 31, 2⟩ = (⟨4, 2, 20, 62, 2⟩, 0) := by kernel_rfl
  have e4 : Vg.St.mean ⟨0, 0, 0, 0, 0⟩ = (0, 3) := by kernel_rfl
  have e5 : Vg.St.add ⟨2, 1, 20, 31, 2⟩ ⟨0, 5, 4, 0, 0⟩ = (⟨0, 0, 0, 0, 0⟩, 2) := by kernel_rfl
  have e6 : Vg.St.ck ⟨2, 1, 20, 31, 2⟩ = 0 := by kernel_rfl
  have H_e1 := Lib.hid e1; clear e1; have H_e2 := Lib.hid e2; clear e2; have H_e3 := Lib.hid e3; clear e3; have H_e4 := Lib.hid e4; clear e4; have H_e5 := Lib.hid e5; clear e5; have H_e6 := Lib.hid e6; clear e6
  go_enter Try.func56, Try.ntmps56
  go_wp2_with fail
  refine (stats_ofl (L := [⟨0, 10, 12, 30, 15⟩, ⟨0, 20, 20, 31, 15⟩]) ⟨rfl, ?_, ?_, ?_⟩).mono ?_
  · simp
  · unfold maxLen; simp
  · intro k hk
    refine ⟨w.heap.size, 0, rfl, by go_simp, ?_⟩
    have hk : k = 0 ∨ k = 1 := by simp at hk; omega
    rcases hk with rfl | rfl
    · simp [go_sem]
    · simp [go_sem]
  · rintro e w1 ⟨rfl, x1, n1, rfl⟩
    rw [H_e1.out]
    go_wp2_with (first | (go_at_call 54; (with_reducible refine (stats_mean ⟨2, 1, 20, 31, 2⟩ _).mono ?_); rintro e w1 ⟨rfl, x2, n2, rfl⟩; rw [H_e2.out]) | (go_at_call 54; (with_reducible refine (stats_mean ⟨0, 0, 0, 0, 0⟩ _).mono ?_); rintro e w1 ⟨rfl, x4, n4, rfl⟩; rw [H_e4.out]) | (go_at_call 59; (with_reducible refine (stats_join ⟨2, 1, 20, 31, 2⟩ ⟨2, 1, 20, 31, 2⟩ _).mono ?_); rintro e w1 ⟨rfl, x3, n3, rfl⟩; rw [H_e3.out]) | (go_at_call 52; (with_reducible refine (stats_add ⟨2, 1, 20, 31, 2⟩ ⟨0, 5, 4, 0, 0⟩ _).mono ?_); rintro e w1 ⟨rfl, x5, n5, rfl⟩; rw [H_e5.out]) | (go_at_call 57; (with_reducible refine (stats_check ⟨2, 1, 20, 31, 2⟩ _).mono ?_); rintro e w1 ⟨rfl, x6, n6, rfl⟩; rw [H_e6.out]))
    go_ret
    exact ⟨rfl, by (repeat' (first | (with_reducible exact Vg.Grows.refl _) | (with_reducible assumption) | (with_reducible refine Vg.Grows.alloc ?_ _) | (with_reducible refine Vg.Grows.plus ?_ _ _) | (with_reducible refine Vg.Grows.drewN ?_ _) | (with_reducible refine Vg.Grows.drew ?_) | (with_reducible refine Vg.Grows.setCell ?_ ?_ _) | (with_reducible refine Vg.Grows.put ?_ ?_ _) | omega | (simp; omega) | (simp; done)))⟩
theorem StatsAdd_walk (x : Vg.St) (y : Vg.Jb) (w : World) : Calls Try.prog 11 #[stV x, jbV y] w fun e w' => e = .returned (.bool true) ∧ Vg.Grows w w' := by
  obtain ⟨⟨z, no⟩, ha⟩ : ∃ p, x.add y = p := ⟨_, rfl⟩
  obtain ⟨⟨mn, mo⟩, hm⟩ : ∃ p, x.mean = p := ⟨_, rfl⟩
  have H_ha := Lib.hid ha; clear ha; have H_hm := Lib.hid hm; clear hm
  go_enter Try.func11, Try.ntmps11
  go_wp2_with (first | (go_at_call 52; (with_reducible refine (stats_add x y _).mono ?_); rintro e w1 ⟨rfl, xa, na, rfl⟩; rw [H_ha.out]) | (go_at_call 53; (with_reducible refine (ref20_add x y _).mono ?_); rintro e w1 ⟨rfl, xb, nb, rfl⟩; rw [H_ha.out]) | (go_at_call 54; (with_reducible refine (stats_mean x _).mono ?_); rintro e w1 ⟨rfl, xc, nc, rfl⟩; rw [H_hm.out]) | (go_at_call 55; (with_reducible refine (ref20_mean x _).mono ?_); rintro e w1 ⟨rfl, xd, nd, rfl⟩; rw [H_hm.out]))
  obtain ⟨b0, hb0⟩ : ∃ b, w.heap.size = b := ⟨_, rfl⟩
  obtain ⟨b1, hb1⟩ : ∃ b, w.heap.size + 1 + 1 + Vg.sz xa = b := ⟨_, rfl⟩
  obtain ⟨b2, hb2⟩ : ∃ b, w.heap.size + 1 + 1 + 1 + Vg.sz xa + Vg.sz xb = b := ⟨_, rfl⟩
  obtain ⟨wz, hwz⟩ : ∃ wz, Vg.plus ((Vg.plus ((Vg.plus ((w.alloc (stC x)).alloc (.cells #[.int .i64 y.t, .int .i64 y.a, .int .i64 y.r, .int .i64 y.d, .int .i64 y.l] 96)) xa na).alloc (stC z)) xb nb).alloc (stC z)) (xc ++ xd) nd = wz := ⟨_, rfl⟩
  have g0 : Vg.blk wz b0 = some (stC x) := by rw [← hwz, ← hb0]; simp [go_sem]
  have g1 : Vg.blk wz b1 = some (stC z) := by rw [← hwz, ← hb1]; simp [go_sem]
  have g2 : Vg.blk wz b2 = some (stC z) := by rw [← hwz, ← hb2]; simp [go_sem]
  have hgz : Vg.Grows w wz := by rw [← hwz]; (repeat' (first | (with_reducible exact Vg.Grows.refl _) | (with_reducible assumption) | (with_reducible refine Vg.Grows.alloc ?_ _) | (with_reducible refine Vg.Grows.plus ?_ _ _) | (with_reducible refine Vg.Grows.drewN ?_ _) | (with_reducible refine Vg.Grows.drew ?_) | (with_reducible refine Vg.Grows.setCell ?_ ?_ _) | (with_reducible refine Vg.Grows.put ?_ ?_ _) | omega | (simp; omega) | (simp; done)))
  rw [hwz, hb2, hb1, hb0]
  have c_g0 := Vg.cells_of g0; have f_g0 := Vg.frozen_of g0; have p_g0 := Vg.setCell_of g0; have l_g0 := Vg.lt_of g0; have H_g0 := Lib.hid g0; clear g0; have c_g1 := Vg.cells_of g1; have f_g1 := Vg.frozen_of g1; have p_g1 := Vg.setCell_of g1; have l_g1 := Vg.lt_of g1; have H_g1 := Lib.hid g1; clear g1; have c_g2 := Vg.cells_of g2; have f_g2 := Vg.frozen_of g2; have p_g2 := Vg.setCell_of g2; have l_g2 := Vg.lt_of g2; have H_g2 := Lib.hid g2; clear g2
  have H_hb0 := Lib.hid hb0; clear hb0; have H_hb1 := Lib.hid hb1; clear hb1; have H_hb2 := Lib.hid hb2; clear hb2; have H_hwz := Lib.hid hwz; clear hwz
  obtain ⟨c, hc⟩ : ∃ c, x.ck = c := ⟨_, rfl⟩
  have H_hc := Lib.hid hc; clear hc
  go_region_held3 (fun w' => Vg.Grows wz w' ∧ b0 < w'.heap.size ∧ b1 < w'.heap.size ∧ b2 < w'.heap.size ∧ w'.cell? ⟨b0, 0, none⟩ = some (.int .i64 x.j) ∧ w'.cell? ⟨b0, 1, none⟩ = some (.int .i64 x.m) ∧ w'.cell? ⟨b0, 2, none⟩ = some (.int .i64 x.w) ∧ w'.cell? ⟨b0, 3, none⟩ = some (.int .i64 x.s) ∧ w'.cell? ⟨b0, 4, none⟩ = some (.int .i64 x.l) ∧ w'.cell? ⟨b1, 0, none⟩ = some (.int .i64 z.j) ∧ w'.cell? ⟨b1, 1, none⟩ = some (.int .i64 z.m) ∧ w'.cell? ⟨b1, 2, none⟩ = some (.int .i64 z.w) ∧ w'.cell? ⟨b1, 3, none⟩ = some (.int .i64 z.s) ∧ w'.cell? ⟨b1, 4, none⟩ = some (.int .i64 z.l) ∧ w'.cell? ⟨b2, 0, none⟩ = some (.int .i64 z.j) ∧ w'.cell? ⟨b2, 1, none⟩ = some (.int .i64 z.m) ∧ w'.cell? ⟨b2, 2, none⟩ = some (.int .i64 z.w) ∧ w'.cell? ⟨b2, 3, none⟩ = some (.int .i64 z.s) ∧ w'.cell? ⟨b2, 4, none⟩ = some (.int .i64 z.l))
    ((go_split_ands; (try dsimp only); refine ⟨by (repeat' (first | (with_reducible exact Vg.Grows.refl _) | (with_reducible assumption) | (with_reducible refine Vg.Grows.alloc ?_ _) | (with_reducible refine Vg.Grows.plus ?_ _ _) | (with_reducible refine Vg.Grows.drewN ?_ _) | (with_reducible refine Vg.Grows.drew ?_) | (with_reducible refine Vg.Grows.setCell ?_ ?_ _) | (with_reducible refine Vg.Grows.put ?_ ?_ _) | omega | (simp; omega) | (simp; done))), ?_⟩; go_simp))
    (first | (go_at_call 56; (with_reducible refine (lives20 _).mono ?_); rintro e w1 ⟨rfl, xe, ne, rfl⟩) | (go_at_call 57; (with_reducible refine (stats_check x _).mono ?_); rintro e w1 ⟨rfl, xf, nf, rfl⟩; rw [H_hc.out]) | (go_at_call 58; (with_reducible refine (ref20_check x _).mono ?_); rintro e w1 ⟨rfl, xg, ng, rfl⟩; rw [H_hc.out]))
  go_wp2
  go_ret
  exact ⟨rfl, by (repeat' (first | (with_reducible exact Vg.Grows.refl _) | (with_reducible assumption) | (with_reducible refine Vg.Grows.alloc ?_ _) | (with_reducible refine Vg.Grows.plus ?_ _ _) | (with_reducible refine Vg.Grows.drewN ?_ _) | (with_reducible refine Vg.Grows.drew ?_) | (with_reducible refine Vg.Grows.setCell ?_ ?_ _) | (with_reducible refine Vg.Grows.put ?_ ?_ _) | omega | (simp; omega) | (simp; done)))⟩
theorem StatsJoin_walk (x y : Vg.St) (a : Option Addr) (len cap : Nat) (L : List Vg.Jb) (w : World) (hr : Vg.JR w a len cap L) : Calls Try.prog 12 #[stV x, stV y, .slice a len cap] w fun e w' => e = .returned (.bool true) ∧ Vg.Grows w w' := by
  obtain ⟨⟨z, no⟩, ha⟩ : ∃ p, x.join y = p := ⟨_, rfl⟩
  obtain ⟨⟨u, nu⟩, hu⟩ : ∃ p, Vg.ofGo ⟨0, 0, 0, 0, 0⟩ L = p := ⟨_, rfl⟩
  have H_ha := Lib.hid ha; clear ha; have H_hu := Lib.hid hu; clear hu; have H_hr := Lib.hid hr; clear hr
  go_enter Try.func12, Try.ntmps12
  go_wp2_with (first | (go_at_call 59; (with_reducible refine (stats_join x y _).mono ?_); rintro e w1 ⟨rfl, xa, na, rfl⟩; rw [H_ha.out]) | (go_at_call 60; (with_reducible refine (ref20_join x y _).mono ?_); rintro e w1 ⟨rfl, xb, nb, rfl⟩; rw [H_ha.out]) | (go_at_call 61; (with_reducible refine (stats_ofl (H_hr.out.grows (by (repeat' (first | (with_reducible exact Vg.Grows.refl _) | (with_reducible assumption) | (with_reducible refine Vg.Grows.alloc ?_ _) | (with_reducible refine Vg.Grows.plus ?_ _ _) | (with_reducible refine Vg.Grows.drewN ?_ _) | (with_reducible refine Vg.Grows.drew ?_) | (with_reducible refine Vg.Grows.setCell ?_ ?_ _) | (with_reducible refine Vg.Grows.put ?_ ?_ _) | omega | (simp; omega) | (simp; done)))))).mono ?_); rintro e w1 ⟨rfl, xc, nc, rfl⟩; rw [H_hu.out]) | (go_at_call 62; (with_reducible refine (ref20_ofl (H_hr.out.grows (by (repeat' (first | (with_reducible exact Vg.Grows.refl _) | (with_reducible assumption) | (with_reducible refine Vg.Grows.alloc ?_ _) | (with_reducible refine Vg.Grows.plus ?_ _ _) | (with_reducible refine Vg.Grows.drewN ?_ _) | (with_reducible refine Vg.Grows.drew ?_) | (with_reducible refine Vg.Grows.setCell ?_ ?_ _) | (with_reducible refine Vg.Grows.put ?_ ?_ _) | omega | (simp; omega) | (simp; done)))))).mono ?_); rintro e w1 ⟨rfl, xd, nd, rfl⟩; rw [H_hu.out]) | (go_at_call 56; (with_reducible refine (lives20 _).mono ?_); rintro e w1 ⟨rfl, xe, ne, rfl⟩))
  go_ret
  exact ⟨rfl, by (repeat' (first | (with_reducible exact Vg.Grows.refl _) | (with_reducible assumption) | (with_reducible refine Vg.Grows.alloc ?_ _) | (with_reducible refine Vg.Grows.plus ?_ _ _) | (with_reducible refine Vg.Grows.drewN ?_ _) | (with_reducible refine Vg.Grows.drew ?_) | (with_reducible refine Vg.Grows.setCell ?_ ?_ _) | (with_reducible refine Vg.Grows.put ?_ ?_ _) | omega | (simp; omega) | (simp; done)))⟩
end Go.Proofs.Ytlgkcpgmnpoanaa
