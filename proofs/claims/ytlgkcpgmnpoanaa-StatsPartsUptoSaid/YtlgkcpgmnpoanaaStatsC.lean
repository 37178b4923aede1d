/- Stats: the document's Join and Add. -/
import Derived.Test.YtlgkcpgmnpoanaaStatsB
set_option linter.unusedSimpArgs false
set_option linter.unusedVariables false
set_option maxHeartbeats 400000
set_option maxRecDepth 20000
namespace Go.Proofs.Ytlgkcpgmnpoanaa
open Go.ChangeShapes Go.WideShapes Go.ChangeAt Go.RowKit
set_option maxHeartbeats 4000000 in
theorem ref20_join (x y : Vg.St) (w : World) : Calls Try.prog 60 #[stV x, stV y] w fun e w' => e = .returned (.tuple #[stV (x.join y).1, .int .i64 (x.join y).2]) ∧ Vg.Grows w w' := by
  by_cases h1 : x.OK
  · by_cases h2 : y.OK
    · have hck := Vg.St.ck_ok h1
      have hcy := Vg.St.ck_ok h2
      have a := h1.bd
      have b := h2.bd
      have hj := Vg.St.jo_ok h1 h2
      obtain ⟨mw, hmw⟩ : ∃ mw, max x.w y.w = mw := ⟨_, rfl⟩
      obtain ⟨ml, hml⟩ : ∃ ml, max x.l y.l = ml := ⟨_, rfl⟩
      have ej : x.jo y = ⟨x.j + y.j, x.m + y.m, mw, x.s + y.s, ml⟩ := by unfold Vg.St.jo; rw [hmw, hml]
      have c1 : (x.w < y.w ∧ mw = y.w) ∨ (¬ x.w < y.w ∧ mw = x.w) := by omega
      have c2 : (x.l < y.l ∧ ml = y.l) ∨ (¬ x.l < y.l ∧ ml = x.l) := by omega
      cases h3 : x.fit y with
      | true =>
        have e : x.join y = (x.jo y, 0) := by unfold Vg.St.join; rw [if_pos ⟨h1, h2⟩, if_pos h3]
        have hcj := Vg.St.ck_ok (hj.2 h3)
        rw [e]
        rw [ej] at hcj ⊢
        clear hmw hml ej hj
        have H_e := Lib.hid e; clear e; have H_hck := Lib.hid hck; clear hck; have H_h1 := Lib.hid h1; clear h1; have H_h2 := Lib.hid h2; clear h2; have H_h3 := Lib.hid h3; clear h3; have H_hcy := Lib.hid hcy; clear hcy; have H_hcj := Lib.hid hcj; clear hcj
        rcases c1 with ⟨q1, rfl⟩ | ⟨q1, rfl⟩ <;> rcases c2 with ⟨q2, rfl⟩ | ⟨q2, rfl⟩
        all_goals
          go_enter Try.func60, Try.ntmps60
          go_wp2_with (first | (go_at_call 58; (with_reducible refine (ref20_check x _).mono ?_); rintro e w1 ⟨rfl, xa, na, rfl⟩; rw [H_hck.out]) | (go_at_call 58; (with_reducible refine (ref20_check y _).mono ?_); rintro e w1 ⟨rfl, xb, nb, rfl⟩; rw [H_hcy.out]) | (go_at_call 58; (with_reducible refine (ref20_check ⟨_, _, _, _, _⟩ _).mono ?_); rintro e w1 ⟨rfl, xc, nc, rfl⟩; rw [H_hcj.out]))
          go_returns
          exact ⟨rfl, by (repeat' (first | (with_reducible exact Vg.Grows.refl _) | (with_reducible assumption) | (with_reducible refine Vg.Grows.alloc ?_ _) | (with_reducible refine Vg.Grows.plus ?_ _ _) | (with_reducible refine Vg.Grows.drewN ?_ _) | (with_reducible refine Vg.Grows.drew ?_) | (with_reducible refine Vg.Grows.setCell ?_ ?_ _) | (with_reducible refine Vg.Grows.put ?_ ?_ _) | omega | (simp; omega) | (simp; done)))⟩
      | false =>
        have e : x.join y = (⟨0, 0, 0, 0, 0⟩, 10) := by unfold Vg.St.join; rw [if_pos ⟨h1, h2⟩, if_neg (by rw [h3]; simp)]; rfl
        have hcj := Vg.St.ck_no (fun h => by rw [hj.1 h] at h3; cases h3)
        rw [e]
        rw [ej] at hcj
        clear hmw hml ej hj
        have H_e := Lib.hid e; clear e; have H_hck := Lib.hid hck; clear hck; have H_h1 := Lib.hid h1; clear h1; have H_h2 := Lib.hid h2; clear h2; have H_h3 := Lib.hid h3; clear h3; have H_hcy := Lib.hid hcy; clear hcy; have H_hcj := Lib.hid hcj; clear hcj
        rcases c1 with ⟨q1, rfl⟩ | ⟨q1, rfl⟩ <;> rcases c2 with ⟨q2, rfl⟩ | ⟨q2, rfl⟩
        all_goals
          go_enter Try.func60, Try.ntmps60
          go_wp2_with (first | (go_at_call 58; (with_reducible refine (ref20_check x _).mono ?_); rintro e w1 ⟨rfl, xa, na, rfl⟩; rw [H_hck.out]) | (go_at_call 58; (with_reducible refine (ref20_check y _).mono ?_); rintro e w1 ⟨rfl, xb, nb, rfl⟩; rw [H_hcy.out]) | (go_at_call 58; (with_reducible refine (ref20_check ⟨_, _, _, _, _⟩ _).mono ?_); rintro e w1 ⟨rfl, xc, nc, rfl⟩; rw [H_hcj.out]))
          go_returns
          exact ⟨rfl, by (repeat' (first | (with_reducible exact Vg.Grows.refl _) | (with_reducible assumption) | (with_reducible refine Vg.Grows.alloc ?_ _) | (with_reducible refine Vg.Grows.plus ?_ _ _) | (with_reducible refine Vg.Grows.drewN ?_ _) | (with_reducible refine Vg.Grows.drew ?_) | (with_reducible refine Vg.Grows.setCell ?_ ?_ _) | (with_reducible refine Vg.Grows.put ?_ ?_ _) | omega | (simp; omega) | (simp; done)))⟩
    · have hck := Vg.St.ck_ok h1
      have hcy := Vg.St.ck_no h2
      have e : x.join y = (⟨0, 0, 0, 0, 0⟩, 2) := by unfold Vg.St.join; rw [if_neg (fun h => h2 h.2)]; rfl
      rw [e]
      have H_e := Lib.hid e; clear e; have H_hck := Lib.hid hck; clear hck; have H_h1 := Lib.hid h1; clear h1; have H_h2 := Lib.hid h2; clear h2; have H_hcy := Lib.hid hcy; clear hcy
      go_enter Try.func60, Try.ntmps60
      go_wp2_with (first | (go_at_call 58; (with_reducible refine (ref20_check x _).mono ?_); rintro e w1 ⟨rfl, xa, na, rfl⟩; rw [H_hck.out]) | (go_at_call 58; (with_reducible refine (ref20_check y _).mono ?_); rintro e w1 ⟨rfl, xb, nb, rfl⟩; rw [H_hcy.out]))
      go_returns
      exact ⟨rfl, by (repeat' (first | (with_reducible exact Vg.Grows.refl _) | (with_reducible assumption) | (with_reducible refine Vg.Grows.alloc ?_ _) | (with_reducible refine Vg.Grows.plus ?_ _ _) | (with_reducible refine Vg.Grows.drewN ?_ _) | (with_reducible refine Vg.Grows.drew ?_) | (with_reducible refine Vg.Grows.setCell ?_ ?_ _) | (with_reducible refine Vg.Grows.put ?_ ?_ _) | omega | (simp; omega) | (simp; done)))⟩
  · have hck := Vg.St.ck_no h1
    have e : x.join y = (⟨0, 0, 0, 0, 0⟩, 2) := by unfold Vg.St.join; rw [if_neg (fun h => h1 h.1)]; rfl
    rw [e]
    have H_e := Lib.hid e; clear e; have H_hck := Lib.hid hck; clear hck; have H_h1 := Lib.hid h1; clear h1
    go_enter Try.func60, Try.ntmps60
    go_wp2_with ((go_at_call 58; (with_reducible refine (ref20_check x _).mono ?_); rintro e w1 ⟨rfl, xa, na, rfl⟩; rw [H_hck.out]))
    go_returns
    exact ⟨rfl, by (repeat' (first | (with_reducible exact Vg.Grows.refl _) | (with_reducible assumption) | (with_reducible refine Vg.Grows.alloc ?_ _) | (with_reducible refine Vg.Grows.plus ?_ _ _) | (with_reducible refine Vg.Grows.drewN ?_ _) | (with_reducible refine Vg.Grows.drew ?_) | (with_reducible refine Vg.Grows.setCell ?_ ?_ _) | (with_reducible refine Vg.Grows.put ?_ ?_ _) | omega | (simp; omega) | (simp; done)))⟩
set_option maxHeartbeats 2000000 in
theorem ref20_add (x : Vg.St) (y : Vg.Jb) (w : World) : Calls Try.prog 53 #[stV x, jbV y] w fun e w' => e = .returned (.tuple #[stV (x.add y).1, .int .i64 (x.add y).2]) ∧ Vg.Grows w w' := by
  by_cases h1 : x.OK
  · cases h2 : y.rb with
    | true =>
      have hck := Vg.St.ck_ok h1
      have hy := Vg.Jb.st_ok h2
      have hb := Vg.Jb.rb_true.1 h2
      obtain ⟨z, hz⟩ : ∃ z, y.st = z := ⟨_, rfl⟩
      obtain ⟨mm, hmm⟩ : ∃ mm : Int, (if y.l < y.d - y.a then 1 else 0) = mm := ⟨_, rfl⟩
      have ez : z = ⟨1, mm, y.d - y.a, y.d - y.a, y.r - y.a⟩ := by rw [← hz, ← hmm]; rfl
      have c1 : (y.l < y.d - y.a ∧ mm = 1) ∨ (¬ y.l < y.d - y.a ∧ mm = 0) := by
        by_cases q : y.l < y.d - y.a
        · rw [if_pos q] at hmm; exact .inl ⟨q, hmm.symm⟩
        · rw [if_neg q] at hmm; exact .inr ⟨q, hmm.symm⟩
      have hjn : x.join z = if x.fit z = true then (x.jo z, 0) else (⟨0, 0, 0, 0, 0⟩, 10) := by
        unfold Vg.St.join; rw [if_pos ⟨h1, by rw [← hz]; exact hy⟩]; rfl
      have had : x.add y = if x.fit z = true then (x.jo z, 0) else (x, 10) := by
        unfold Vg.St.add; rw [if_pos ⟨h1, h2⟩, hz]
      clear hz hmm
      cases h3 : x.fit z with
      | true =>
        rw [if_pos h3] at hjn had
        rw [had]
        obtain ⟨r, hr⟩ : ∃ r, x.jo z = r := ⟨_, rfl⟩
        rw [hr] at hjn had ⊢
        have H_had := Lib.hid had; clear had; have H_hjn := Lib.hid hjn; clear hjn; have H_hck := Lib.hid hck; clear hck; have H_h1 := Lib.hid h1; clear h1; have H_h2 := Lib.hid h2; clear h2; have H_h3 := Lib.hid h3; clear h3; have H_hy := Lib.hid hy; clear hy; have H_hr := Lib.hid hr; clear hr
        rcases c1 with ⟨q1, rfl⟩ | ⟨q1, rfl⟩
        all_goals
          subst ez
          go_enter Try.func53, Try.ntmps53
          go_wp2_with (first | (go_at_call 58; (with_reducible refine (ref20_check x _).mono ?_); rintro e w1 ⟨rfl, xa, na, rfl⟩; rw [H_hck.out]) | (go_at_call 79; (with_reducible refine (ref20_right y _).mono ?_); rintro e w1 ⟨rfl, xb, nb, rfl⟩; rw [H_h2.out]) | (go_at_call 60; (with_reducible refine (ref20_join x ⟨_, _, _, _, _⟩ _).mono ?_); rintro e w1 ⟨rfl, xc, nc, rfl⟩; rw [H_hjn.out]))
          go_returns
          exact ⟨rfl, by (repeat' (first | (with_reducible exact Vg.Grows.refl _) | (with_reducible assumption) | (with_reducible refine Vg.Grows.alloc ?_ _) | (with_reducible refine Vg.Grows.plus ?_ _ _) | (with_reducible refine Vg.Grows.drewN ?_ _) | (with_reducible refine Vg.Grows.drew ?_) | (with_reducible refine Vg.Grows.setCell ?_ ?_ _) | (with_reducible refine Vg.Grows.put ?_ ?_ _) | omega | (simp; omega) | (simp; done)))⟩
      | false =>
        rw [if_neg (by rw [h3]; simp)] at hjn had
        rw [had]
        have H_had := Lib.hid had; clear had; have H_hjn := Lib.hid hjn; clear hjn; have H_hck := Lib.hid hck; clear hck; have H_h1 := Lib.hid h1; clear h1; have H_h2 := Lib.hid h2; clear h2; have H_h3 := Lib.hid h3; clear h3; have H_hy := Lib.hid hy; clear hy
        rcases c1 with ⟨q1, rfl⟩ | ⟨q1, rfl⟩
        all_goals
          subst ez
          go_enter Try.func53, Try.ntmps53
          go_wp2_with (first | (go_at_call 58; (with_reducible refine (ref20_check x _).mono ?_); rintro e w1 ⟨rfl, xa, na, rfl⟩; rw [H_hck.out]) | (go_at_call 79; (with_reducible refine (ref20_right y _).mono ?_); rintro e w1 ⟨rfl, xb, nb, rfl⟩; rw [H_h2.out]) | (go_at_call 60; (with_reducible refine (ref20_join x ⟨_, _, _, _, _⟩ _).mono ?_); rintro e w1 ⟨rfl, xc, nc, rfl⟩; rw [H_hjn.out]))
          go_returns
          exact ⟨rfl, by (repeat' (first | (with_reducible exact Vg.Grows.refl _) | (with_reducible assumption) | (with_reducible refine Vg.Grows.alloc ?_ _) | (with_reducible refine Vg.Grows.plus ?_ _ _) | (with_reducible refine Vg.Grows.drewN ?_ _) | (with_reducible refine Vg.Grows.drew ?_) | (with_reducible refine Vg.Grows.setCell ?_ ?_ _) | (with_reducible refine Vg.Grows.put ?_ ?_ _) | omega | (simp; omega) | (simp; done)))⟩
    | false =>
      have hck := Vg.St.ck_ok h1
      have e : x.add y = (⟨0, 0, 0, 0, 0⟩, 2) := by unfold Vg.St.add; rw [if_neg (by rw [h2]; simp)]; rfl
      rw [e]
      have H_e := Lib.hid e; clear e; have H_hck := Lib.hid hck; clear hck; have H_h1 := Lib.hid h1; clear h1; have H_h2 := Lib.hid h2; clear h2
      go_enter Try.func53, Try.ntmps53
      go_wp2_with (first | (go_at_call 58; (with_reducible refine (ref20_check x _).mono ?_); rintro e w1 ⟨rfl, xa, na, rfl⟩; rw [H_hck.out]) | (go_at_call 79; (with_reducible refine (ref20_right y _).mono ?_); rintro e w1 ⟨rfl, xb, nb, rfl⟩; rw [H_h2.out]))
      go_returns
      exact ⟨rfl, by (repeat' (first | (with_reducible exact Vg.Grows.refl _) | (with_reducible assumption) | (with_reducible refine Vg.Grows.alloc ?_ _) | (with_reducible refine Vg.Grows.plus ?_ _ _) | (with_reducible refine Vg.Grows.drewN ?_ _) | (with_reducible refine Vg.Grows.drew ?_) | (with_reducible refine Vg.Grows.setCell ?_ ?_ _) | (with_reducible refine Vg.Grows.put ?_ ?_ _) | omega | (simp; omega) | (simp; done)))⟩
  · have hck := Vg.St.ck_no h1
    have e : x.add y = (⟨0, 0, 0, 0, 0⟩, 2) := by unfold Vg.St.add; rw [if_neg (fun h => h1 h.1)]; rfl
    rw [e]
    have H_e := Lib.hid e; clear e; have H_hck := Lib.hid hck; clear hck; have H_h1 := Lib.hid h1; clear h1
    go_enter Try.func53, Try.ntmps53
    go_wp2_with ((go_at_call 58; (with_reducible refine (ref20_check x _).mono ?_); rintro e w1 ⟨rfl, xa, na, rfl⟩; rw [H_hck.out]))
    go_returns
    exact ⟨rfl, by (repeat' (first | (with_reducible exact Vg.Grows.refl _) | (with_reducible assumption) | (with_reducible refine Vg.Grows.alloc ?_ _) | (with_reducible refine Vg.Grows.plus ?_ _ _) | (with_reducible refine Vg.Grows.drewN ?_ _) | (with_reducible refine Vg.Grows.drew ?_) | (with_reducible refine Vg.Grows.setCell ?_ ?_ _) | (with_reducible refine Vg.Grows.put ?_ ?_ _) | omega | (simp; omega) | (simp; done)))⟩
end Go.Proofs.Ytlgkcpgmnpoanaa
