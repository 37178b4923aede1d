/- BottomPlays or KernPlays: BotO, BotU, BotV (wip/bin/merge.py puts them together: a claim has at most 60 files). -/
import Derived.Test.YtiinhofmhoplfaaBpA
set_option linter.unusedSimpArgs false
set_option linter.unusedVariables false
set_option maxHeartbeats 40000000
set_option maxRecDepth 100000
namespace Vg
open Go
theorem Srv.left_nonneg {s : Srv} {bu : Int} (h : s.Inv bu) : 0 ≤ s.left bu := by
  obtain ⟨-, -, -, -, h5⟩ := h
  unfold Srv.left
  split <;> omega
theorem Bo.cand_in {Bs : List Bp} {Q : List Wq} {k : Nat} (h : k < Bs.length) : Bo.cand Bs Q k = if Wk.waiting Q k = 0 ∨ 0 < Bs[k].s.left Bs[k].t.bu then none else match Bs[k].s.L with | [] => none | y :: _ => some y.1 := by
  unfold Bo.cand
  rw [List.getElem?_eq_getElem h]
  rfl
end Vg
namespace Go.Proofs.Ytiinhofmhoplfaa
open Go.ChangeShapes Go.WideShapes Go.ChangeAt Go.RowKit
section
variable {w w' : World} {S S' : Nat → Prop} {v u : Value} {ps : List Vg.Sp} {rs rs' : List Vg.Wp} {Bs : List Vg.Bp} {Q Q' : List Vg.Wq} {k n q : Nat} {is : Bool} {x y r m bu pe : Int} {ta sa wa wa' : Option Addr} {tc sc wc wc' : Nat} {s : Vg.Srv}
theorem ra_nextz (h : RA w 0 s u) (hx : ((s.L.headD (0, 0)).1, !s.L.isEmpty) = (x, is)) :
    Calls Try.prog 112 #[.agg #[.int .i64 bu, .int .i64 pe, u, .int .i64 s.last]] w fun e w' => e = .returned (.tuple #[.int .i64 x, .bool is]) ∧ Vg.Grows w w' := by
  simp only [Prod.mk.injEq] at hx
  obtain ⟨rfl, rfl⟩ := hx
  exact ra_next h
theorem rb_next (h : RB S w v ps rs) (hB : ps.map (·.2) = Bs) (hQ : rs.map (·.2) = Q) (hI : Vg.Bo.Inv k Bs Q) (hx : Vg.Bo.next Bs Q = (x, is)) :
    Calls Try.prog 56 #[v] w fun e w' => e = .returned (.tuple #[.int .i64 x, .bool is]) ∧ Vg.Grows w w' := by
  obtain ⟨ta, tc, sa, sc, wa, wc, rfl, t1, t2⟩ := h.shape
  obtain ⟨n, hn⟩ : ∃ n, ps.length = n := ⟨_, rfl⟩
  obtain ⟨q, hq⟩ : ∃ q, rs.length = q := ⟨_, rfl⟩
  have hBl : Bs.length = n := by rw [← hB, List.length_map]; exact hn
  unfold Vg.Bo.next at hx
  rw [hBl] at hx
  rw [hn, hq] at h
  rw [hn] at t1 ⊢
  rw [hq]
  have H_h := Lib.hid h; clear h; have H_hB := Lib.hid hB; clear hB; have H_hQ := Lib.hid hQ; clear hQ; have H_hI := Lib.hid hI; clear hI; have H_hx := Lib.hid hx; clear hx; have H_hn := Lib.hid hn; clear hn; have H_hq := Lib.hid hq; clear hq; have H_hBl := Lib.hid hBl; clear hBl
  go_enter Try.func56, Try.ntmps56
  go_wp2_with fail
  go_loopw [4, 5, 12] (fun vb vi i wr => ∃ (j : Nat) (b : Int) (bi : Bool), j ≤ n ∧ i = .int .i64 j ∧ vb = .int .i64 b ∧ vi = .bool bi ∧ Vg.Bo.nextK Bs Q j = (b, bi) ∧ Vg.Grows (w.alloc (rbC (.slice ta n tc) (.slice sa n sc) (.slice wa q wc))) wr) (fun _ _ i _ => n - (intOf i).toNat)
  case atStart => exact ⟨0, 0, false, by omega, rfl, rfl, rfl, rfl, by (repeat' (first | (with_reducible exact Vg.Grows.refl _) | (with_reducible assumption) | (with_reducible refine Vg.Grows.alloc ?_ _) | (with_reducible refine Vg.Grows.plus ?_ _ _) | (with_reducible refine Vg.Grows.drewN ?_ _) | (with_reducible refine Vg.Grows.drew ?_) | (with_reducible refine Vg.Grows.setCell ?_ ?_ _) | (with_reducible refine Vg.Grows.put ?_ ?_ _) | omega | (simp; omega) | (simp; done)))⟩
  case round =>
    obtain ⟨j, b, bi, hj, rfl, rfl, rfl, hnk, hgr⟩ := hrel
    have B1 := hgr.blk (Vg.alloc_heap_at rfl)
    have hg0 : Vg.Grows w wr := Vg.Grows.trans (Vg.Grows.alloc (Vg.Grows.refl _) _) hgr
    have hF := H_h.out.grows hg0
    by_cases hlt : j < n
    · have hjB : j < Bs.length := by rw [H_hBl.out]; exact hlt
      have hjp : j < ps.length := by rw [H_hn.out]; exact hlt
      have hin2 : (j : Int) < n := by omega
      have hin0 : (0 : Int) ≤ j := by omega
      obtain ⟨-, -, -, -, hsr, hrq2⟩ := hF.parts
      obtain ⟨g, o, rfl, hg, s1, s2, c0, c1, c2, c3⟩ := hsr.1.serv H_hn.out j hjp
      obtain ⟨⟨⟨hb1, hb2⟩, hpe, hpr, hsi⟩, hiQ⟩ := H_hI.out.at j hjB
      have hra := (hF.ra j hjp).1
      have hBi : Bs[j] = ps[j].2 := by
        have e : (ps.map (·.2))[j]'(by simpa using hjp) = Bs[j] := by simp only [H_hB.out]
        rw [← e, List.getElem_map]
      have hpos := Vg.Wk.left_pos H_hI.out.wk j hiQ
      have hcd := Vg.Bo.cand_in (Q := Q) hjB
      have hnk1 : Vg.Bo.nextK Bs Q (j + 1) = Vg.Bo.least (Vg.Bo.cand Bs Q j) (Vg.Bo.nextK Bs Q j) := rfl
      rw [hcd, hnk, hBi] at hnk1
      rw [hBi] at hb1 hb2 hsi
      clear hcd hBi hpe hpr
      obtain ⟨lf, hlf⟩ : ∃ x, Vg.Wk.left Q j = x := ⟨_, rfl⟩
      obtain ⟨wt, hwt⟩ : ∃ x, Vg.Wk.waiting Q j = x := ⟨_, rfl⟩
      rw [hlf, hwt] at hpos
      rw [hwt] at hnk1
      have hwt0 : 0 ≤ wt := by rw [← hwt, Vg.Wk.waiting_in hiQ]; omega
      obtain ⟨sa', sc', hu, hrr⟩ := hra
      rw [hu] at c2
      have hra : RA wr 0 ps[j].2.s (.slice sa' ps[j].2.s.L.length sc') := ⟨sa', sc', rfl, by rw [← hu]; exact hrr⟩
      obtain ⟨⟨u, ⟨⟨pr, bu, pe, dp⟩, ⟨L, last⟩⟩⟩, hx2⟩ : ∃ y, ps[j] = y := ⟨_, rfl⟩
      rw [hx2] at c0 c1 c2 c3 hra hb1 hb2 hsi hnk1
      simp only [] at c0 c1 c2 c3 hra hb1 hb2 hsi hnk1
      obtain ⟨sl, hsl⟩ : ∃ x, (Vg.Srv.mk L last).left bu = x := ⟨_, rfl⟩
      have hs0 := Vg.Srv.left_nonneg hsi
      rw [hsl] at hnk1 hs0
      obtain ⟨⟨at_, so⟩, hnx⟩ : ∃ p : Int × Bool, ((L.headD (0, 0)).1, !L.isEmpty) = p := ⟨_, rfl⟩
      obtain ⟨N, hN⟩ : ∃ N, L.length = N := ⟨_, rfl⟩
      rw [hN] at c2 hra
      clear hrr hu hsr
      have c_B1 := Vg.cells_of B1; have f_B1 := Vg.frozen_of B1; have p_B1 := Vg.setCell_of B1; have l_B1 := Vg.lt_of B1; have H_B1 := Lib.hid B1; clear B1
      by_cases q1 : 0 < lf
      · by_cases q2 : sl = 0
        · cases L with
          | nil =>
            simp only [List.headD_nil, List.isEmpty_nil, Bool.not_true, Prod.mk.injEq] at hnx
            obtain ⟨rfl, rfl⟩ := hnx
            have hnx : ((([] : List (Int × Int)).headD (0, 0)).1, !([] : List (Int × Int)).isEmpty) = ((0 : Int), false) := rfl
            have hsk : Vg.Bo.nextK Bs Q (j + 1) = (b, bi) := by rw [hnk1, if_neg (by omega)]; rfl
            subst q2
            clear hnk1 hwt hwt0 hN
            have H_hF := Lib.hid hF; clear hF; have H_hx2 := Lib.hid hx2; clear hx2; have H_hgr := Lib.hid hgr; clear hgr; have H_hlf := Lib.hid hlf; clear hlf; have H_hsl := Lib.hid hsl; clear hsl; have H_hnx := Lib.hid hnx; clear hnx; have H_hra := Lib.hid hra; clear hra; have H_hrq2 := Lib.hid hrq2; clear hrq2; have H_hsi := Lib.hid hsi; clear hsi; have H_hnk := Lib.hid hnk; clear hnk; have H_hsk := Lib.hid hsk; clear hsk; have H_hpos := Lib.hid hpos; clear hpos
            go_wp2_with (first | (go_at_call 112; (with_reducible refine (ra_nextz (H_hra.out.grows (by (repeat' (first | (with_reducible exact Vg.Grows.refl _) | (with_reducible assumption) | (with_reducible refine Vg.Grows.alloc ?_ _) | (with_reducible refine Vg.Grows.plus ?_ _ _) | (with_reducible refine Vg.Grows.drewN ?_ _) | (with_reducible refine Vg.Grows.drew ?_) | (with_reducible refine Vg.Grows.setCell ?_ ?_ _) | (with_reducible refine Vg.Grows.put ?_ ?_ _) | omega | (simp; omega) | (simp; done))))) H_hnx.out).mono ?_); rintro e w1 ⟨rfl, x1, n1, rfl⟩) | (go_at_call 18; (with_reducible refine (rq_leftz (H_hrq2.out.grows (by (repeat' (first | (with_reducible exact Vg.Grows.refl _) | (with_reducible assumption) | (with_reducible refine Vg.Grows.alloc ?_ _) | (with_reducible refine Vg.Grows.plus ?_ _ _) | (with_reducible refine Vg.Grows.drewN ?_ _) | (with_reducible refine Vg.Grows.drew ?_) | (with_reducible refine Vg.Grows.setCell ?_ ?_ _) | (with_reducible refine Vg.Grows.put ?_ ?_ _) | omega | (simp; omega) | (simp; done))))) H_hQ.out H_hlf.out).mono ?_); rintro e w2 ⟨rfl, rfl⟩) | (go_at_call 101; (with_reducible refine (ra_leftz (H_hra.out.grows (by (repeat' (first | (with_reducible exact Vg.Grows.refl _) | (with_reducible assumption) | (with_reducible refine Vg.Grows.alloc ?_ _) | (with_reducible refine Vg.Grows.plus ?_ _ _) | (with_reducible refine Vg.Grows.drewN ?_ _) | (with_reducible refine Vg.Grows.drew ?_) | (with_reducible refine Vg.Grows.setCell ?_ ?_ _) | (with_reducible refine Vg.Grows.put ?_ ?_ _) | omega | (simp; omega) | (simp; done))))) H_hsi.out ⟨hb1, hb2⟩ H_hsl.out).mono ?_); rintro e w3 ⟨rfl, x3, n3, rfl⟩))
            exact ⟨⟨j + 1, b, bi, by omega, by go_num, rfl, rfl, H_hsk.out, Vg.Grows.trans H_hgr.out (by (repeat' (first | (with_reducible exact Vg.Grows.refl _) | (with_reducible assumption) | (with_reducible refine Vg.Grows.alloc ?_ _) | (with_reducible refine Vg.Grows.plus ?_ _ _) | (with_reducible refine Vg.Grows.drewN ?_ _) | (with_reducible refine Vg.Grows.drew ?_) | (with_reducible refine Vg.Grows.setCell ?_ ?_ _) | (with_reducible refine Vg.Grows.put ?_ ?_ _) | omega | (simp; omega) | (simp; done))))⟩, by simp [intOf]; omega⟩
          | cons y l =>
            simp only [List.headD_cons, List.isEmpty_cons, Bool.not_false, Prod.mk.injEq] at hnx
            obtain ⟨rfl, rfl⟩ := hnx
            have hnx : (((y :: l).headD (0, 0)).1, !(y :: l).isEmpty) = (y.1, true) := rfl
            rw [if_neg (by omega)] at hnk1
            simp only [Vg.Bo.least] at hnk1
            obtain ⟨ya, hya⟩ : ∃ a, y.1 = a := ⟨_, rfl⟩
            rw [hya] at hnk1 hnx
            subst q2
            clear hwt hwt0 hN hya
            cases bi with
            | false =>
              have hsk : Vg.Bo.nextK Bs Q (j + 1) = (ya, true) := by rw [hnk1, if_pos (.inl rfl)]
              clear hnk1
              have H_hF := Lib.hid hF; clear hF; have H_hx2 := Lib.hid hx2; clear hx2; have H_hgr := Lib.hid hgr; clear hgr; have H_hlf := Lib.hid hlf; clear hlf; have H_hsl := Lib.hid hsl; clear hsl; have H_hnx := Lib.hid hnx; clear hnx; have H_hra := Lib.hid hra; clear hra; have H_hrq2 := Lib.hid hrq2; clear hrq2; have H_hsi := Lib.hid hsi; clear hsi; have H_hnk := Lib.hid hnk; clear hnk; have H_hsk := Lib.hid hsk; clear hsk; have H_hpos := Lib.hid hpos; clear hpos
              go_wp2_with (first | (go_at_call 112; (with_reducible refine (ra_nextz (H_hra.out.grows (by (repeat' (first | (with_reducible exact Vg.Grows.refl _) | (with_reducible assumption) | (with_reducible refine Vg.Grows.alloc ?_ _) | (with_reducible refine Vg.Grows.plus ?_ _ _) | (with_reducible refine Vg.Grows.drewN ?_ _) | (with_reducible refine Vg.Grows.drew ?_) | (with_reducible refine Vg.Grows.setCell ?_ ?_ _) | (with_reducible refine Vg.Grows.put ?_ ?_ _) | omega | (simp; omega) | (simp; done))))) H_hnx.out).mono ?_); rintro e w1 ⟨rfl, x1, n1, rfl⟩) | (go_at_call 18; (with_reducible refine (rq_leftz (H_hrq2.out.grows (by (repeat' (first | (with_reducible exact Vg.Grows.refl _) | (with_reducible assumption) | (with_reducible refine Vg.Grows.alloc ?_ _) | (with_reducible refine Vg.Grows.plus ?_ _ _) | (with_reducible refine Vg.Grows.drewN ?_ _) | (with_reducible refine Vg.Grows.drew ?_) | (with_reducible refine Vg.Grows.setCell ?_ ?_ _) | (with_reducible refine Vg.Grows.put ?_ ?_ _) | omega | (simp; omega) | (simp; done))))) H_hQ.out H_hlf.out).mono ?_); rintro e w2 ⟨rfl, rfl⟩) | (go_at_call 101; (with_reducible refine (ra_leftz (H_hra.out.grows (by (repeat' (first | (with_reducible exact Vg.Grows.refl _) | (with_reducible assumption) | (with_reducible refine Vg.Grows.alloc ?_ _) | (with_reducible refine Vg.Grows.plus ?_ _ _) | (with_reducible refine Vg.Grows.drewN ?_ _) | (with_reducible refine Vg.Grows.drew ?_) | (with_reducible refine Vg.Grows.setCell ?_ ?_ _) | (with_reducible refine Vg.Grows.put ?_ ?_ _) | omega | (simp; omega) | (simp; done))))) H_hsi.out ⟨hb1, hb2⟩ H_hsl.out).mono ?_); rintro e w3 ⟨rfl, x3, n3, rfl⟩))
              exact ⟨⟨j + 1, ya, true, by omega, by go_num, rfl, rfl, H_hsk.out, Vg.Grows.trans H_hgr.out (by (repeat' (first | (with_reducible exact Vg.Grows.refl _) | (with_reducible assumption) | (with_reducible refine Vg.Grows.alloc ?_ _) | (with_reducible refine Vg.Grows.plus ?_ _ _) | (with_reducible refine Vg.Grows.drewN ?_ _) | (with_reducible refine Vg.Grows.drew ?_) | (with_reducible refine Vg.Grows.setCell ?_ ?_ _) | (with_reducible refine Vg.Grows.put ?_ ?_ _) | omega | (simp; omega) | (simp; done))))⟩, by simp [intOf]; omega⟩
            | true =>
              by_cases q3 : ya < b
              · have hsk : Vg.Bo.nextK Bs Q (j + 1) = (ya, true) := by rw [hnk1, if_pos (.inr q3)]
                clear hnk1
                have H_hF := Lib.hid hF; clear hF; have H_hx2 := Lib.hid hx2; clear hx2; have H_hgr := Lib.hid hgr; clear hgr; have H_hlf := Lib.hid hlf; clear hlf; have H_hsl := Lib.hid hsl; clear hsl; have H_hnx := Lib.hid hnx; clear hnx; have H_hra := Lib.hid hra; clear hra; have H_hrq2 := Lib.hid hrq2; clear hrq2; have H_hsi := Lib.hid hsi; clear hsi; have H_hnk := Lib.hid hnk; clear hnk; have H_hsk := Lib.hid hsk; clear hsk; have H_hpos := Lib.hid hpos; clear hpos
                go_wp2_with (first | (go_at_call 112; (with_reducible refine (ra_nextz (H_hra.out.grows (by (repeat' (first | (with_reducible exact Vg.Grows.refl _) | (with_reducible assumption) | (with_reducible refine Vg.Grows.alloc ?_ _) | (with_reducible refine Vg.Grows.plus ?_ _ _) | (with_reducible refine Vg.Grows.drewN ?_ _) | (with_reducible refine Vg.Grows.drew ?_) | (with_reducible refine Vg.Grows.setCell ?_ ?_ _) | (with_reducible refine Vg.Grows.put ?_ ?_ _) | omega | (simp; omega) | (simp; done))))) H_hnx.out).mono ?_); rintro e w1 ⟨rfl, x1, n1, rfl⟩) | (go_at_call 18; (with_reducible refine (rq_leftz (H_hrq2.out.grows (by (repeat' (first | (with_reducible exact Vg.Grows.refl _) | (with_reducible assumption) | (with_reducible refine Vg.Grows.alloc ?_ _) | (with_reducible refine Vg.Grows.plus ?_ _ _) | (with_reducible refine Vg.Grows.drewN ?_ _) | (with_reducible refine Vg.Grows.drew ?_) | (with_reducible refine Vg.Grows.setCell ?_ ?_ _) | (with_reducible refine Vg.Grows.put ?_ ?_ _) | omega | (simp; omega) | (simp; done))))) H_hQ.out H_hlf.out).mono ?_); rintro e w2 ⟨rfl, rfl⟩) | (go_at_call 101; (with_reducible refine (ra_leftz (H_hra.out.grows (by (repeat' (first | (with_reducible exact Vg.Grows.refl _) | (with_reducible assumption) | (with_reducible refine Vg.Grows.alloc ?_ _) | (with_reducible refine Vg.Grows.plus ?_ _ _) | (with_reducible refine Vg.Grows.drewN ?_ _) | (with_reducible refine Vg.Grows.drew ?_) | (with_reducible refine Vg.Grows.setCell ?_ ?_ _) | (with_reducible refine Vg.Grows.put ?_ ?_ _) | omega | (simp; omega) | (simp; done))))) H_hsi.out ⟨hb1, hb2⟩ H_hsl.out).mono ?_); rintro e w3 ⟨rfl, x3, n3, rfl⟩))
                exact ⟨⟨j + 1, ya, true, by omega, by go_num, rfl, rfl, H_hsk.out, Vg.Grows.trans H_hgr.out (by (repeat' (first | (with_reducible exact Vg.Grows.refl _) | (with_reducible assumption) | (with_reducible refine Vg.Grows.alloc ?_ _) | (with_reducible refine Vg.Grows.plus ?_ _ _) | (with_reducible refine Vg.Grows.drewN ?_ _) | (with_reducible refine Vg.Grows.drew ?_) | (with_reducible refine Vg.Grows.setCell ?_ ?_ _) | (with_reducible refine Vg.Grows.put ?_ ?_ _) | omega | (simp; omega) | (simp; done))))⟩, by simp [intOf]; omega⟩
              · have hsk : Vg.Bo.nextK Bs Q (j + 1) = (b, true) := by rw [hnk1, if_neg (by simp [q3])]
                clear hnk1
                have H_hF := Lib.hid hF; clear hF; have H_hx2 := Lib.hid hx2; clear hx2; have H_hgr := Lib.hid hgr; clear hgr; have H_hlf := Lib.hid hlf; clear hlf; have H_hsl := Lib.hid hsl; clear hsl; have H_hnx := Lib.hid hnx; clear hnx; have H_hra := Lib.hid hra; clear hra; have H_hrq2 := Lib.hid hrq2; clear hrq2; have H_hsi := Lib.hid hsi; clear hsi; have H_hnk := Lib.hid hnk; clear hnk; have H_hsk := Lib.hid hsk; clear hsk; have H_hpos := Lib.hid hpos; clear hpos
                go_wp2_with (first | (go_at_call 112; (with_reducible refine (ra_nextz (H_hra.out.grows (by (repeat' (first | (with_reducible exact Vg.Grows.refl _) | (with_reducible assumption) | (with_reducible refine Vg.Grows.alloc ?_ _) | (with_reducible refine Vg.Grows.plus ?_ _ _) | (with_reducible refine Vg.Grows.drewN ?_ _) | (with_reducible refine Vg.Grows.drew ?_) | (with_reducible refine Vg.Grows.setCell ?_ ?_ _) | (with_reducible refine Vg.Grows.put ?_ ?_ _) | omega | (simp; omega) | (simp; done))))) H_hnx.out).mono ?_); rintro e w1 ⟨rfl, x1, n1, rfl⟩) | (go_at_call 18; (with_reducible refine (rq_leftz (H_hrq2.out.grows (by (repeat' (first | (with_reducible exact Vg.Grows.refl _) | (with_reducible assumption) | (with_reducible refine Vg.Grows.alloc ?_ _) | (with_reducible refine Vg.Grows.plus ?_ _ _) | (with_reducible refine Vg.Grows.drewN ?_ _) | (with_reducible refine Vg.Grows.drew ?_) | (with_reducible refine Vg.Grows.setCell ?_ ?_ _) | (with_reducible refine Vg.Grows.put ?_ ?_ _) | omega | (simp; omega) | (simp; done))))) H_hQ.out H_hlf.out).mono ?_); rintro e w2 ⟨rfl, rfl⟩) | (go_at_call 101; (with_reducible refine (ra_leftz (H_hra.out.grows (by (repeat' (first | (with_reducible exact Vg.Grows.refl _) | (with_reducible assumption) | (with_reducible refine Vg.Grows.alloc ?_ _) | (with_reducible refine Vg.Grows.plus ?_ _ _) | (with_reducible refine Vg.Grows.drewN ?_ _) | (with_reducible refine Vg.Grows.drew ?_) | (with_reducible refine Vg.Grows.setCell ?_ ?_ _) | (with_reducible refine Vg.Grows.put ?_ ?_ _) | omega | (simp; omega) | (simp; done))))) H_hsi.out ⟨hb1, hb2⟩ H_hsl.out).mono ?_); rintro e w3 ⟨rfl, x3, n3, rfl⟩))
                exact ⟨⟨j + 1, b, true, by omega, by go_num, rfl, rfl, H_hsk.out, Vg.Grows.trans H_hgr.out (by (repeat' (first | (with_reducible exact Vg.Grows.refl _) | (with_reducible assumption) | (with_reducible refine Vg.Grows.alloc ?_ _) | (with_reducible refine Vg.Grows.plus ?_ _ _) | (with_reducible refine Vg.Grows.drewN ?_ _) | (with_reducible refine Vg.Grows.drew ?_) | (with_reducible refine Vg.Grows.setCell ?_ ?_ _) | (with_reducible refine Vg.Grows.put ?_ ?_ _) | omega | (simp; omega) | (simp; done))))⟩, by simp [intOf]; omega⟩
        · have hsk : Vg.Bo.nextK Bs Q (j + 1) = (b, bi) := by rw [hnk1, if_pos (by omega)]; rfl
          have q2b : (sl == 0) = false := by simp [q2]
          clear hnk1 hwt hwt0 hN q2
          have H_hF := Lib.hid hF; clear hF; have H_hx2 := Lib.hid hx2; clear hx2; have H_hgr := Lib.hid hgr; clear hgr; have H_hlf := Lib.hid hlf; clear hlf; have H_hsl := Lib.hid hsl; clear hsl; have H_hnx := Lib.hid hnx; clear hnx; have H_hra := Lib.hid hra; clear hra; have H_hrq2 := Lib.hid hrq2; clear hrq2; have H_hsi := Lib.hid hsi; clear hsi; have H_hnk := Lib.hid hnk; clear hnk; have H_hsk := Lib.hid hsk; clear hsk; have H_hpos := Lib.hid hpos; clear hpos
          go_wp2_with (first | (go_at_call 112; (with_reducible refine (ra_nextz (H_hra.out.grows (by (repeat' (first | (with_reducible exact Vg.Grows.refl _) | (with_reducible assumption) | (with_reducible refine Vg.Grows.alloc ?_ _) | (with_reducible refine Vg.Grows.plus ?_ _ _) | (with_reducible refine Vg.Grows.drewN ?_ _) | (with_reducible refine Vg.Grows.drew ?_) | (with_reducible refine Vg.Grows.setCell ?_ ?_ _) | (with_reducible refine Vg.Grows.put ?_ ?_ _) | omega | (simp; omega) | (simp; done))))) H_hnx.out).mono ?_); rintro e w1 ⟨rfl, x1, n1, rfl⟩) | (go_at_call 18; (with_reducible refine (rq_leftz (H_hrq2.out.grows (by (repeat' (first | (with_reducible exact Vg.Grows.refl _) | (with_reducible assumption) | (with_reducible refine Vg.Grows.alloc ?_ _) | (with_reducible refine Vg.Grows.plus ?_ _ _) | (with_reducible refine Vg.Grows.drewN ?_ _) | (with_reducible refine Vg.Grows.drew ?_) | (with_reducible refine Vg.Grows.setCell ?_ ?_ _) | (with_reducible refine Vg.Grows.put ?_ ?_ _) | omega | (simp; omega) | (simp; done))))) H_hQ.out H_hlf.out).mono ?_); rintro e w2 ⟨rfl, rfl⟩) | (go_at_call 101; (with_reducible refine (ra_leftz (H_hra.out.grows (by (repeat' (first | (with_reducible exact Vg.Grows.refl _) | (with_reducible assumption) | (with_reducible refine Vg.Grows.alloc ?_ _) | (with_reducible refine Vg.Grows.plus ?_ _ _) | (with_reducible refine Vg.Grows.drewN ?_ _) | (with_reducible refine Vg.Grows.drew ?_) | (with_reducible refine Vg.Grows.setCell ?_ ?_ _) | (with_reducible refine Vg.Grows.put ?_ ?_ _) | omega | (simp; omega) | (simp; done))))) H_hsi.out ⟨hb1, hb2⟩ H_hsl.out).mono ?_); rintro e w3 ⟨rfl, x3, n3, rfl⟩))
          exact ⟨⟨j + 1, b, bi, by omega, by go_num, rfl, rfl, H_hsk.out, Vg.Grows.trans H_hgr.out (by (repeat' (first | (with_reducible exact Vg.Grows.refl _) | (with_reducible assumption) | (with_reducible refine Vg.Grows.alloc ?_ _) | (with_reducible refine Vg.Grows.plus ?_ _ _) | (with_reducible refine Vg.Grows.drewN ?_ _) | (with_reducible refine Vg.Grows.drew ?_) | (with_reducible refine Vg.Grows.setCell ?_ ?_ _) | (with_reducible refine Vg.Grows.put ?_ ?_ _) | omega | (simp; omega) | (simp; done))))⟩, by simp [intOf]; omega⟩
      · have hsk : Vg.Bo.nextK Bs Q (j + 1) = (b, bi) := by rw [hnk1, if_pos (by omega)]; rfl
        clear hnk1 hwt hwt0 hN
        have H_hF := Lib.hid hF; clear hF; have H_hx2 := Lib.hid hx2; clear hx2; have H_hgr := Lib.hid hgr; clear hgr; have H_hlf := Lib.hid hlf; clear hlf; have H_hsl := Lib.hid hsl; clear hsl; have H_hnx := Lib.hid hnx; clear hnx; have H_hra := Lib.hid hra; clear hra; have H_hrq2 := Lib.hid hrq2; clear hrq2; have H_hsi := Lib.hid hsi; clear hsi; have H_hnk := Lib.hid hnk; clear hnk; have H_hsk := Lib.hid hsk; clear hsk; have H_hpos := Lib.hid hpos; clear hpos
        go_wp2_with (first | (go_at_call 112; (with_reducible refine (ra_nextz (H_hra.out.grows (by (repeat' (first | (with_reducible exact Vg.Grows.refl _) | (with_reducible assumption) | (with_reducible refine Vg.Grows.alloc ?_ _) | (with_reducible refine Vg.Grows.plus ?_ _ _) | (with_reducible refine Vg.Grows.drewN ?_ _) | (with_reducible refine Vg.Grows.drew ?_) | (with_reducible refine Vg.Grows.setCell ?_ ?_ _) | (with_reducible refine Vg.Grows.put ?_ ?_ _) | omega | (simp; omega) | (simp; done))))) H_hnx.out).mono ?_); rintro e w1 ⟨rfl, x1, n1, rfl⟩) | (go_at_call 18; (with_reducible refine (rq_leftz (H_hrq2.out.grows (by (repeat' (first | (with_reducible exact Vg.Grows.refl _) | (with_reducible assumption) | (with_reducible refine Vg.Grows.alloc ?_ _) | (with_reducible refine Vg.Grows.plus ?_ _ _) | (with_reducible refine Vg.Grows.drewN ?_ _) | (with_reducible refine Vg.Grows.drew ?_) | (with_reducible refine Vg.Grows.setCell ?_ ?_ _) | (with_reducible refine Vg.Grows.put ?_ ?_ _) | omega | (simp; omega) | (simp; done))))) H_hQ.out H_hlf.out).mono ?_); rintro e w2 ⟨rfl, rfl⟩) | (go_at_call 101; (with_reducible refine (ra_leftz (H_hra.out.grows (by (repeat' (first | (with_reducible exact Vg.Grows.refl _) | (with_reducible assumption) | (with_reducible refine Vg.Grows.alloc ?_ _) | (with_reducible refine Vg.Grows.plus ?_ _ _) | (with_reducible refine Vg.Grows.drewN ?_ _) | (with_reducible refine Vg.Grows.drew ?_) | (with_reducible refine Vg.Grows.setCell ?_ ?_ _) | (with_reducible refine Vg.Grows.put ?_ ?_ _) | omega | (simp; omega) | (simp; done))))) H_hsi.out ⟨hb1, hb2⟩ H_hsl.out).mono ?_); rintro e w3 ⟨rfl, x3, n3, rfl⟩))
        exact ⟨⟨j + 1, b, bi, by omega, by go_num, rfl, rfl, H_hsk.out, Vg.Grows.trans H_hgr.out (by (repeat' (first | (with_reducible exact Vg.Grows.refl _) | (with_reducible assumption) | (with_reducible refine Vg.Grows.alloc ?_ _) | (with_reducible refine Vg.Grows.plus ?_ _ _) | (with_reducible refine Vg.Grows.drewN ?_ _) | (with_reducible refine Vg.Grows.drew ?_) | (with_reducible refine Vg.Grows.setCell ?_ ?_ _) | (with_reducible refine Vg.Grows.put ?_ ?_ _) | omega | (simp; omega) | (simp; done))))⟩, by simp [intOf]; omega⟩
    · have hjn : j = n := by omega
      subst hjn
      have hx := H_hx.out
      rw [hnk] at hx
      simp only [Prod.mk.injEq] at hx
      obtain ⟨rfl, rfl⟩ := hx
      have c_B1 := Vg.cells_of B1; have f_B1 := Vg.frozen_of B1; have p_B1 := Vg.setCell_of B1; have l_B1 := Vg.lt_of B1; have H_B1 := Lib.hid B1; clear B1
      have H_hF := Lib.hid hF; clear hF; have H_hnk := Lib.hid hnk; clear hnk; have H_hgr := Lib.hid hgr; clear hgr
      go_wp2_with fail
      go_returns
      exact ⟨rfl, Vg.Grows.trans (Vg.Grows.alloc (Vg.Grows.refl _) _) H_hgr.out⟩
end
end Go.Proofs.Ytiinhofmhoplfaa
namespace Go.Proofs.Ytiinhofmhoplfaa
open Go.ChangeShapes Go.WideShapes Go.ChangeAt Go.RowKit
section
variable {w w' : World} {S S' : Nat → Prop} {v u : Value} {ps : List Vg.Sp} {rs rs' : List Vg.Wp} {Bs Bs' : List Vg.Bp} {Q Q' : List Vg.Wq} {k n q : Nat} {is : Bool} {x y r m bu pe en i : Int} {ta sa wa wa' : Option Addr} {tc sc wc wc' : Nat} {s s' : Vg.Srv}
theorem rq_goz {i c : Int} (h : RQ w S rs v) (hQ : rs.map (·.2) = Q) (hk : Vg.Wk.Inv k Q) (hp : Vg.Wk.go Q i c = (Q', is, r)) :
    Calls Try.prog 21 #[v, .int .i64 i, .int .i64 c] w fun e w' => ∃ rs' a n c', e = .returned (.tuple #[.slice a n c', .bool is, .int .i64 r]) ∧ rs'.length = n ∧ RQ w' (fun k => S k ∨ w.heap.size ≤ k) rs' (.slice a n c') ∧ rs'.map (·.2) = Q' ∧ Vg.Grows w w' := by
  subst hQ
  refine (rq_go i c (h.mono (S' := fun k => S k ∨ w.heap.size ≤ k) fun k hk => .inl hk) hk (fun j hj => .inr hj)).mono ?_
  rintro e w' ⟨rs', v', rfl, h1, h2, h3⟩
  rw [hp] at h2 ⊢
  obtain ⟨a, c, rfl⟩ := h1.shape
  exact ⟨rs', a, _, c, rfl, rfl, h1, h2, h3⟩
theorem ra_usez (n en : Int) (h : RA w 0 s u) (hinv : s.Inv bu) (hp : 1 ≤ pe ∧ pe ≤ 1099511627776) (hbu : 1 ≤ bu ∧ bu ≤ 1099511627776) (hen : -9223372036854775808 ≤ en ∧ en ≤ 9223372036854775807) (hx : s.use bu pe n en = (s', r)) :
    Calls Try.prog 103 #[.agg #[.int .i64 bu, .int .i64 pe, u, .int .i64 s.last], .int .i64 n, .int .i64 en] w fun e w' => ∃ sa' N sc', e = .returned (.tuple #[.agg #[.int .i64 bu, .int .i64 pe, .slice sa' N sc', .int .i64 s'.last], .int .i64 r]) ∧ s'.L.length = N ∧
      RA w' 0 s' (.slice sa' N sc') ∧ (∀ k, (Value.slice sa' N sc').ownBlock = some k → u.ownBlock = some k ∨ w.heap.size ≤ k) ∧ Vg.Grows w w' := by
  refine (ra_use n en h (Nat.zero_le _) hinv hp hbu hen).mono ?_
  rintro e w' ⟨v', rfl, h1, h2, h3⟩
  rw [hx] at h1 ⊢
  obtain ⟨sa', sc', rfl, hr⟩ := h1
  exact ⟨sa', _, sc', rfl, rfl, ⟨sa', sc', rfl, hr⟩, h2, h3⟩
theorem RB.bound (h : RB S w v ps rs) (h0 : 0 < ps.length) : RB (fun k => S k ∧ k < w.heap.size) w v ps rs := by
  obtain ⟨ta, tc, sa, sc, wa, wc, h1, h2, h3, h4, h5⟩ := h.ex
  refine ⟨⟨ta, tc, sa, sc, wa, wc, h1, h2, fun k hk => ⟨h3 k hk, ?_⟩, ⟨h4.1, fun k hk => ⟨h4.2 k hk, (h4.1.own_lt k hk).2⟩⟩, h5.boundz⟩, fun i hi => ⟨(h.ra i hi).1, fun k hk => ⟨(h.ra i hi).2 k hk, ((h.ra i hi).1.own k hk).2⟩⟩⟩
  obtain ⟨g, off, e, hg, -⟩ := h2.2.2 0 (by simpa using h0)
  rw [e] at hk
  have : g = k := by simpa [Value.ownBlock] using hk
  omega
theorem rb_withz {pr dp : Int} {j : Nat} (h : RB S w v ps rs) (hi : j < ps.length) (hn : ps.length = n) (hle : n ≤ 64) (ht : ps[j].2.t = ⟨pr, bu, pe, dp⟩) (hu : RA w 0 s u) (hS : ∀ k, u.ownBlock = some k → S k) :
    Calls Try.prog 104 #[v, .int .i64 j, .agg #[.int .i64 bu, .int .i64 pe, u, .int .i64 s.last]] w fun e w' => ∃ ta tc sa sc wa q wc, e = .returned (.agg #[.slice ta n tc, .slice sa n sc, .slice wa q wc]) ∧ RB (fun k => S k ∨ w.heap.size ≤ k) w' (.agg #[.slice ta n tc, .slice sa n sc, .slice wa q wc]) (ps.set j (u, ⟨⟨pr, bu, pe, dp⟩, s⟩)) rs ∧ Vg.Grows w w' := by
  have := rb_with h hi (by omega) hu (fun k hk => .inl (hS k hk))
  rw [ht, hn] at this
  refine this.mono ?_
  rintro e w' ⟨ta, tc, sa, sc, wa, wc, h1, h2, h3⟩
  exact ⟨ta, tc, sa, sc, wa, _, wc, h1, h2, h3⟩
theorem rb_run (i m en : Int) (h : RB S w v ps rs) (hB : ps.map (·.2) = Bs) (hQ : rs.map (·.2) = Q) (hI : Vg.Bo.Inv k Bs Q) (hn : ps.length = n) (hen : -9223372036854775808 ≤ en ∧ en ≤ 9223372036854775807) (hx : Vg.Bo.run Bs Q i m en = (Bs', Q', is, r)) :
    Calls Try.prog 49 #[v, .int .i64 i, .int .i64 m, .int .i64 en] w fun e w' => ∃ ps' rs' ta tc sa sc wa q wc, e = .returned (.tuple #[.agg #[.slice ta n tc, .slice sa n sc, .slice wa q wc], .bool is, .int .i64 r]) ∧ RB (fun k => S k ∨ w.heap.size ≤ k) w' (.agg #[.slice ta n tc, .slice sa n sc, .slice wa q wc]) ps' rs' ∧ ps'.map (·.2) = Bs' ∧ rs'.map (·.2) = Q' ∧ Vg.Grows w w' := by
  obtain ⟨ta, tc, sa, sc, wa, wc, rfl, t1, t2⟩ := h.shape
  obtain ⟨q, hq⟩ : ∃ q, rs.length = q := ⟨_, rfl⟩
  have hBl : Bs.length = n := by rw [← hB, List.length_map]; exact hn
  rw [hn, hq] at h
  rw [hn] at t1 ⊢
  rw [hq]
  by_cases hin : 0 ≤ i ∧ i < (n : Int)
  · obtain ⟨i, rfl⟩ : ∃ n : Nat, i = n := ⟨i.toNat, by omega⟩
    have hi : i < ps.length := by omega
    have hiB : i < Bs.length := by omega
    have hin1 : i < n := by omega
    have hin2 : (i : Int) < n := by omega
    have hin0 : (0 : Int) ≤ i := by omega
    have hhas : decide ((0 : Int) ≤ (i : Int) ∧ (i : Int) < (ps.length : Int)) = true := by rw [hn]; simp; omega
    clear hin
    obtain ⟨lf, hlf⟩ : ∃ x, Vg.Bo.left Bs Q i = x := ⟨_, rfl⟩
    obtain ⟨ab, hab⟩ : ∃ x, Vg.Bo.able Bs Q i = x := ⟨_, rfl⟩
    rw [Vg.Bo.run_in hiB] at hx
    rw [hlf] at hx
    by_cases hbad : m < 0 ∨ lf < m
    · rw [if_pos hbad] at hx
      simp only [Prod.mk.injEq] at hx
      obtain ⟨rfl, rfl, rfl, rfl⟩ := hx
      by_cases b1 : m < 0
      · clear hbad
        have H_h := Lib.hid h; clear h; have H_hB := Lib.hid hB; clear hB; have H_hQ := Lib.hid hQ; clear hQ; have H_hI := Lib.hid hI; clear hI; have H_hn := Lib.hid hn; clear hn; have H_hq := Lib.hid hq; clear hq; have H_hBl := Lib.hid hBl; clear hBl; have H_hhas := Lib.hid hhas; clear hhas; have H_hlf := Lib.hid hlf; clear hlf; have H_hab := Lib.hid hab; clear hab
        go_enter Try.func49, Try.ntmps49
        go_wp2_with ((go_at_call 60; (with_reducible refine (rb_has i (H_h.out.grows (by (repeat' (first | (with_reducible exact Vg.Grows.refl _) | (with_reducible assumption) | (with_reducible refine Vg.Grows.alloc ?_ _) | (with_reducible refine Vg.Grows.plus ?_ _ _) | (with_reducible refine Vg.Grows.drewN ?_ _) | (with_reducible refine Vg.Grows.drew ?_) | (with_reducible refine Vg.Grows.setCell ?_ ?_ _) | (with_reducible refine Vg.Grows.put ?_ ?_ _) | omega | (simp; omega) | (simp; done)))))).mono ?_); rintro e w1 ⟨rfl, x1, n1, rfl⟩; rw [H_hhas.out]))
        go_returns
        exact ⟨ps, rs, _, _, _, _, _, _, _, rfl, (H_h.out.grows (by (repeat' (first | (with_reducible exact Vg.Grows.refl _) | (with_reducible assumption) | (with_reducible refine Vg.Grows.alloc ?_ _) | (with_reducible refine Vg.Grows.plus ?_ _ _) | (with_reducible refine Vg.Grows.drewN ?_ _) | (with_reducible refine Vg.Grows.drew ?_) | (with_reducible refine Vg.Grows.setCell ?_ ?_ _) | (with_reducible refine Vg.Grows.put ?_ ?_ _) | omega | (simp; omega) | (simp; done))))).mono fun k hk => .inl hk, H_hB.out, H_hQ.out, by (repeat' (first | (with_reducible exact Vg.Grows.refl _) | (with_reducible assumption) | (with_reducible refine Vg.Grows.alloc ?_ _) | (with_reducible refine Vg.Grows.plus ?_ _ _) | (with_reducible refine Vg.Grows.drewN ?_ _) | (with_reducible refine Vg.Grows.drew ?_) | (with_reducible refine Vg.Grows.setCell ?_ ?_ _) | (with_reducible refine Vg.Grows.put ?_ ?_ _) | omega | (simp; omega) | (simp; done)))⟩
      · have b2 : lf < m := by omega
        clear hbad
        have H_h := Lib.hid h; clear h; have H_hB := Lib.hid hB; clear hB; have H_hQ := Lib.hid hQ; clear hQ; have H_hI := Lib.hid hI; clear hI; have H_hn := Lib.hid hn; clear hn; have H_hq := Lib.hid hq; clear hq; have H_hBl := Lib.hid hBl; clear hBl; have H_hhas := Lib.hid hhas; clear hhas; have H_hlf := Lib.hid hlf; clear hlf; have H_hab := Lib.hid hab; clear hab
        go_enter Try.func49, Try.ntmps49
        go_wp2_with (first | (go_at_call 60; (with_reducible refine (rb_has i (H_h.out.grows (by (repeat' (first | (with_reducible exact Vg.Grows.refl _) | (with_reducible assumption) | (with_reducible refine Vg.Grows.alloc ?_ _) | (with_reducible refine Vg.Grows.plus ?_ _ _) | (with_reducible refine Vg.Grows.drewN ?_ _) | (with_reducible refine Vg.Grows.drew ?_) | (with_reducible refine Vg.Grows.setCell ?_ ?_ _) | (with_reducible refine Vg.Grows.put ?_ ?_ _) | omega | (simp; omega) | (simp; done)))))).mono ?_); rintro e w1 ⟨rfl, x1, n1, rfl⟩; rw [H_hhas.out]) | (go_at_call 45; (with_reducible refine (rb_left i (H_h.out.grows (by (repeat' (first | (with_reducible exact Vg.Grows.refl _) | (with_reducible assumption) | (with_reducible refine Vg.Grows.alloc ?_ _) | (with_reducible refine Vg.Grows.plus ?_ _ _) | (with_reducible refine Vg.Grows.drewN ?_ _) | (with_reducible refine Vg.Grows.drew ?_) | (with_reducible refine Vg.Grows.setCell ?_ ?_ _) | (with_reducible refine Vg.Grows.put ?_ ?_ _) | omega | (simp; omega) | (simp; done))))) H_hB.out H_hQ.out H_hI.out H_hlf.out).mono ?_); rintro e w2 ⟨rfl, x2, n2, rfl⟩))
        go_returns
        exact ⟨ps, rs, _, _, _, _, _, _, _, rfl, (H_h.out.grows (by (repeat' (first | (with_reducible exact Vg.Grows.refl _) | (with_reducible assumption) | (with_reducible refine Vg.Grows.alloc ?_ _) | (with_reducible refine Vg.Grows.plus ?_ _ _) | (with_reducible refine Vg.Grows.drewN ?_ _) | (with_reducible refine Vg.Grows.drew ?_) | (with_reducible refine Vg.Grows.setCell ?_ ?_ _) | (with_reducible refine Vg.Grows.put ?_ ?_ _) | omega | (simp; omega) | (simp; done))))).mono fun k hk => .inl hk, H_hB.out, H_hQ.out, by (repeat' (first | (with_reducible exact Vg.Grows.refl _) | (with_reducible assumption) | (with_reducible refine Vg.Grows.alloc ?_ _) | (with_reducible refine Vg.Grows.plus ?_ _ _) | (with_reducible refine Vg.Grows.drewN ?_ _) | (with_reducible refine Vg.Grows.drew ?_) | (with_reducible refine Vg.Grows.setCell ?_ ?_ _) | (with_reducible refine Vg.Grows.put ?_ ?_ _) | omega | (simp; omega) | (simp; done)))⟩
    · rw [if_neg hbad] at hx
      have b1 : ¬ m < 0 := by omega
      have b2 : ¬ lf < m := by omega
      clear hbad
      cases ab with
      | false =>
        rw [if_pos (by simp [hab])] at hx
        simp only [Prod.mk.injEq] at hx
        obtain ⟨rfl, rfl, rfl, rfl⟩ := hx
        have H_h := Lib.hid h; clear h; have H_hB := Lib.hid hB; clear hB; have H_hQ := Lib.hid hQ; clear hQ; have H_hI := Lib.hid hI; clear hI; have H_hn := Lib.hid hn; clear hn; have H_hq := Lib.hid hq; clear hq; have H_hBl := Lib.hid hBl; clear hBl; have H_hhas := Lib.hid hhas; clear hhas; have H_hlf := Lib.hid hlf; clear hlf; have H_hab := Lib.hid hab; clear hab
        go_enter Try.func49, Try.ntmps49
        go_wp2_with (first | (go_at_call 60; (with_reducible refine (rb_has i (H_h.out.grows (by (repeat' (first | (with_reducible exact Vg.Grows.refl _) | (with_reducible assumption) | (with_reducible refine Vg.Grows.alloc ?_ _) | (with_reducible refine Vg.Grows.plus ?_ _ _) | (with_reducible refine Vg.Grows.drewN ?_ _) | (with_reducible refine Vg.Grows.drew ?_) | (with_reducible refine Vg.Grows.setCell ?_ ?_ _) | (with_reducible refine Vg.Grows.put ?_ ?_ _) | omega | (simp; omega) | (simp; done)))))).mono ?_); rintro e w1 ⟨rfl, x1, n1, rfl⟩; rw [H_hhas.out]) | (go_at_call 45; (with_reducible refine (rb_left i (H_h.out.grows (by (repeat' (first | (with_reducible exact Vg.Grows.refl _) | (with_reducible assumption) | (with_reducible refine Vg.Grows.alloc ?_ _) | (with_reducible refine Vg.Grows.plus ?_ _ _) | (with_reducible refine Vg.Grows.drewN ?_ _) | (with_reducible refine Vg.Grows.drew ?_) | (with_reducible refine Vg.Grows.setCell ?_ ?_ _) | (with_reducible refine Vg.Grows.put ?_ ?_ _) | omega | (simp; omega) | (simp; done))))) H_hB.out H_hQ.out H_hI.out H_hlf.out).mono ?_); rintro e w2 ⟨rfl, x2, n2, rfl⟩) | (go_at_call 58; (with_reducible refine (rb_able i (H_h.out.grows (by (repeat' (first | (with_reducible exact Vg.Grows.refl _) | (with_reducible assumption) | (with_reducible refine Vg.Grows.alloc ?_ _) | (with_reducible refine Vg.Grows.plus ?_ _ _) | (with_reducible refine Vg.Grows.drewN ?_ _) | (with_reducible refine Vg.Grows.drew ?_) | (with_reducible refine Vg.Grows.setCell ?_ ?_ _) | (with_reducible refine Vg.Grows.put ?_ ?_ _) | omega | (simp; omega) | (simp; done))))) H_hB.out H_hQ.out H_hI.out H_hab.out).mono ?_); rintro e w3 ⟨rfl, x3, n3, rfl⟩))
        go_returns
        exact ⟨ps, rs, _, _, _, _, _, _, _, rfl, (H_h.out.grows (by (repeat' (first | (with_reducible exact Vg.Grows.refl _) | (with_reducible assumption) | (with_reducible refine Vg.Grows.alloc ?_ _) | (with_reducible refine Vg.Grows.plus ?_ _ _) | (with_reducible refine Vg.Grows.drewN ?_ _) | (with_reducible refine Vg.Grows.drew ?_) | (with_reducible refine Vg.Grows.setCell ?_ ?_ _) | (with_reducible refine Vg.Grows.put ?_ ?_ _) | omega | (simp; omega) | (simp; done))))).mono fun k hk => .inl hk, H_hB.out, H_hQ.out, by (repeat' (first | (with_reducible exact Vg.Grows.refl _) | (with_reducible assumption) | (with_reducible refine Vg.Grows.alloc ?_ _) | (with_reducible refine Vg.Grows.plus ?_ _ _) | (with_reducible refine Vg.Grows.drewN ?_ _) | (with_reducible refine Vg.Grows.drew ?_) | (with_reducible refine Vg.Grows.setCell ?_ ?_ _) | (with_reducible refine Vg.Grows.put ?_ ?_ _) | omega | (simp; omega) | (simp; done)))⟩
      | true =>
        rw [if_neg (by simp [hab])] at hx
        obtain ⟨-, -, -, -, hsr, -⟩ := h.parts
        obtain ⟨g, o, rfl, hg, s1, s2, c0, c1, c2, c3⟩ := hsr.1.serv hn i hi
        obtain ⟨⟨⟨hb1, hb2⟩, hpe, hpr, hsi⟩, hiQ⟩ := hI.at i hiB
        have hra := h.ra i hi
        have hBi : Bs[i] = ps[i].2 := by subst hB; rw [List.getElem_map]
        rw [hBi] at hb1 hb2 hsi hpe hx
        obtain ⟨⟨sa', sc', hu, hrr⟩, hro⟩ := hra
        rw [hu] at c2 hro
        have hra : RA w 0 ps[i].2.s (.slice sa' ps[i].2.s.L.length sc') := ⟨sa', sc', rfl, by rw [← hu]; exact hrr⟩
        obtain ⟨⟨u, ⟨⟨pr, bu, pe, dp⟩, ⟨L, last⟩⟩⟩, hx2⟩ : ∃ y, ps[i] = y := ⟨_, rfl⟩
        have hpt : ps[i].2.t = ⟨pr, bu, pe, dp⟩ := by rw [hx2]
        rw [hx2] at c0 c1 c2 c3 hra hb1 hb2 hsi hpe hro hx
        simp only [] at c0 c1 c2 c3 hra hb1 hb2 hsi hpe hro hx
        obtain ⟨⟨s', r1⟩, hus⟩ : ∃ p, (Vg.Srv.mk L last).use bu pe m en = p := ⟨_, rfl⟩
        rw [hus] at hx
        simp only [] at hx
        obtain ⟨N, hN⟩ : ∃ N, L.length = N := ⟨_, rfl⟩
        rw [hN] at c2 hra hro
        clear hrr hu hsr hpr
        by_cases hr1 : r1 = 0
        · skip
          subst hr1
          rw [if_neg (fun hh => hh rfl)] at hx
          obtain ⟨⟨Q2, is2, r2⟩, hgo⟩ : ∃ p, Vg.Wk.go Q i m = p := ⟨_, rfl⟩
          rw [hgo] at hx
          simp only [Prod.mk.injEq] at hx
          obtain ⟨hBs, rfl, rfl, rfl⟩ := hx
          have hwk := hI.wk
          have hn64 : n ≤ 64 := by have := hI.le; omega
          have hbd := h.bound (by omega)
          have hrl := hra.own
          have hps : (ps.set i (Value.slice none 0 0, ⟨⟨pr, bu, pe, dp⟩, s'⟩)).map (·.2) = Bs' := by rw [List.map_set, hB]; exact hBs
          have hps2 : ∀ z, (ps.set i (z, ⟨⟨pr, bu, pe, dp⟩, s'⟩)).map (·.2) = Bs' := fun z => by rw [List.map_set, hB]; exact hBs
          have H_h := Lib.hid h; clear h; have H_hB := Lib.hid hB; clear hB; have H_hQ := Lib.hid hQ; clear hQ; have H_hI := Lib.hid hI; clear hI; have H_hn := Lib.hid hn; clear hn; have H_hq := Lib.hid hq; clear hq; have H_hBl := Lib.hid hBl; clear hBl; have H_hhas := Lib.hid hhas; clear hhas; have H_hlf := Lib.hid hlf; clear hlf; have H_hab := Lib.hid hab; clear hab; have H_hra := Lib.hid hra; clear hra; have H_hro := Lib.hid hro; clear hro; have H_hsi := Lib.hid hsi; clear hsi; have H_hx2 := Lib.hid hx2; clear hx2; have H_hBi := Lib.hid hBi; clear hBi; have H_hus := Lib.hid hus; clear hus; have H_hBs := Lib.hid hBs; clear hBs; have H_hpt := Lib.hid hpt; clear hpt; have H_hN := Lib.hid hN; clear hN; have H_hpe := Lib.hid hpe; clear hpe; have H_hgo := Lib.hid hgo; clear hgo; have H_hwk := Lib.hid hwk; clear hwk; have H_hbd := Lib.hid hbd; clear hbd; have H_hrl := Lib.hid hrl; clear hrl; have H_hps := Lib.hid hps; clear hps; have H_hps2 := Lib.hid hps2; clear hps2
          go_enter Try.func49, Try.ntmps49
          go_upto_region 8 with (first | (go_at_call 60; (with_reducible refine (rb_has i (H_h.out.grows (by (repeat' (first | (with_reducible exact Vg.Grows.refl _) | (with_reducible assumption) | (with_reducible refine Vg.Grows.alloc ?_ _) | (with_reducible refine Vg.Grows.plus ?_ _ _) | (with_reducible refine Vg.Grows.drewN ?_ _) | (with_reducible refine Vg.Grows.drew ?_) | (with_reducible refine Vg.Grows.setCell ?_ ?_ _) | (with_reducible refine Vg.Grows.put ?_ ?_ _) | omega | (simp; omega) | (simp; done)))))).mono ?_); rintro e w1 ⟨rfl, x1, n1, rfl⟩; rw [H_hhas.out]) | (go_at_call 45; (with_reducible refine (rb_left i (H_h.out.grows (by (repeat' (first | (with_reducible exact Vg.Grows.refl _) | (with_reducible assumption) | (with_reducible refine Vg.Grows.alloc ?_ _) | (with_reducible refine Vg.Grows.plus ?_ _ _) | (with_reducible refine Vg.Grows.drewN ?_ _) | (with_reducible refine Vg.Grows.drew ?_) | (with_reducible refine Vg.Grows.setCell ?_ ?_ _) | (with_reducible refine Vg.Grows.put ?_ ?_ _) | omega | (simp; omega) | (simp; done))))) H_hB.out H_hQ.out H_hI.out H_hlf.out).mono ?_); rintro e w2 ⟨rfl, x2, n2, rfl⟩) | (go_at_call 58; (with_reducible refine (rb_able i (H_h.out.grows (by (repeat' (first | (with_reducible exact Vg.Grows.refl _) | (with_reducible assumption) | (with_reducible refine Vg.Grows.alloc ?_ _) | (with_reducible refine Vg.Grows.plus ?_ _ _) | (with_reducible refine Vg.Grows.drewN ?_ _) | (with_reducible refine Vg.Grows.drew ?_) | (with_reducible refine Vg.Grows.setCell ?_ ?_ _) | (with_reducible refine Vg.Grows.put ?_ ?_ _) | omega | (simp; omega) | (simp; done))))) H_hB.out H_hQ.out H_hI.out H_hab.out).mono ?_); rintro e w3 ⟨rfl, x3, n3, rfl⟩) | (go_at_call 103; (with_reducible refine (ra_usez m en (H_hra.out.grows (by (repeat' (first | (with_reducible exact Vg.Grows.refl _) | (with_reducible assumption) | (with_reducible refine Vg.Grows.alloc ?_ _) | (with_reducible refine Vg.Grows.plus ?_ _ _) | (with_reducible refine Vg.Grows.drewN ?_ _) | (with_reducible refine Vg.Grows.drew ?_) | (with_reducible refine Vg.Grows.setCell ?_ ?_ _) | (with_reducible refine Vg.Grows.put ?_ ?_ _) | omega | (simp; omega) | (simp; done))))) H_hsi.out H_hpe.out ⟨hb1, hb2⟩ hen H_hus.out).mono ?_); rintro e w4 ⟨sa4, N4, sc4, rfl, hl4, ha4, ho4, hg4⟩; have b4 := hg4.blk (b := w.heap.size) (o := rbC (.slice ta n tc) (.slice (some ⟨g, o, none⟩) n sc) (.slice wa q wc)) (by go_simp); have b8 := hg4.blk (b := w.heap.size + 1) (o := rb0) (by go_simp); have hgw4 := Vg.Grows.trans (a := w) (by (repeat' (first | (with_reducible exact Vg.Grows.refl _) | (with_reducible assumption) | (with_reducible refine Vg.Grows.alloc ?_ _) | (with_reducible refine Vg.Grows.plus ?_ _ _) | (with_reducible refine Vg.Grows.drewN ?_ _) | (with_reducible refine Vg.Grows.drew ?_) | (with_reducible refine Vg.Grows.setCell ?_ ?_ _) | (with_reducible refine Vg.Grows.put ?_ ?_ _) | omega | (simp; omega) | (simp; done)))) hg4; have hsz4 := hg4.size; simp only [World.size_alloc, Vg.plus_size, Vg.put_size, World.size_setCell, World.size_drew, World.heap_drewN] at hsz4 ho4; have H_hl4 := Lib.hid hl4; clear hl4; have H_ha4 := Lib.hid ha4; clear ha4; have H_ho4 := Lib.hid ho4; clear ho4; have H_hgw4 := Lib.hid hgw4; clear hgw4; have H_b4 := Lib.hid b4; clear b4; have H_b8 := Lib.hid b8; clear b8))
          obtain ⟨W5, hW5⟩ : ∃ W5, w4.alloc (rservC bu pe (.slice sa4 N4 sc4) s'.last) = W5 := ⟨_, rfl⟩
          have g45 : Vg.Grows w4 W5 := by rw [← hW5]; exact (Vg.Grows.refl _).alloc _
          have x11 : Vg.blk W5 w4.heap.size = some (rservC bu pe (.slice sa4 N4 sc4) s'.last) := by rw [← hW5]; exact Vg.alloc_heap_at rfl
          have hs5 : W5.heap.size = w4.heap.size + 1 := by rw [← hW5]; simp
          rw [hW5]
          clear hW5
          have x4 := g45.blk H_b4.out
          have x8 := g45.blk H_b8.out
          have hgw5 := H_hgw4.out.trans g45
          have hrb5 := (H_hbd.out.grows hgw5).mono (S' := fun k => (S k ∧ k < w.heap.size) ∨ w.heap.size + 2 ≤ k) fun k hk => .inl hk
          have ha5 := H_ha4.out.grows g45
          have hS5 : ∀ k, (Value.slice sa4 N4 sc4).ownBlock = some k → ((S k ∧ k < w.heap.size) ∨ w.heap.size + 2 ≤ k) := fun k hk => by
            rcases H_ho4.out k hk with h1 | h1
            · exact .inl ⟨H_hro.out k h1, (H_hrl.out k h1).2⟩
            · exact .inr (by omega)
          obtain ⟨b11, hb11⟩ : ∃ b11, w4.heap.size = b11 := ⟨_, rfl⟩
          rw [hb11] at x11 hs5 hsz4 ⊢
          have m1 : b11 ≠ w.heap.size := by omega
          have m2 : w.heap.size ≠ b11 := by omega
          have c_x4 := Vg.cells_of x4; have f_x4 := Vg.frozen_of x4; have p_x4 := Vg.setCell_of x4; have l_x4 := Vg.lt_of x4; have H_x4 := Lib.hid x4; clear x4; have c_x11 := Vg.cells_of x11; have f_x11 := Vg.frozen_of x11; have p_x11 := Vg.setCell_of x11; have l_x11 := Vg.lt_of x11; have H_x11 := Lib.hid x11; clear x11
          have H_g45 := Lib.hid g45; clear g45; have H_x8 := Lib.hid x8; clear x8; have H_hgw5 := Lib.hid hgw5; clear hgw5; have H_hrb5 := Lib.hid hrb5; clear hrb5; have H_ha5 := Lib.hid ha5; clear ha5; have H_hS5 := Lib.hid hS5; clear hS5; have H_hb11 := Lib.hid hb11; clear hb11
          go_upto_region 9 with ((go_at_call 104; (with_reducible refine (rb_withz H_hrb5.out hi H_hn.out hn64 H_hpt.out H_ha5.out H_hS5.out).mono ?_); rintro e w6 ⟨ta6, tc6, sa6, sc6, wa6, q6, wc6, rfl, h6, hg6⟩; have y8 := hg6.blk H_x8.out; have hsz6 := hg6.size; clear c_x4 f_x4 p_x4 c_x11 f_x11 p_x11; clear l_x4 l_x11; have H_h6 := Lib.hid h6; clear h6; have H_hg6 := Lib.hid hg6; clear hg6; have H_y8 := Lib.hid y8; clear y8))
          obtain ⟨W7, hW7⟩ : ∃ W7, w6.alloc (rbC (.slice ta6 n tc6) (.slice sa6 n sc6) (.slice wa6 q6 wc6)) = W7 := ⟨_, rfl⟩
          have g67 : Vg.Grows w6 W7 := by rw [← hW7]; exact (Vg.Grows.refl _).alloc _
          have z13 : Vg.blk W7 w6.heap.size = some (rbC (.slice ta6 n tc6) (.slice sa6 n sc6) (.slice wa6 q6 wc6)) := by rw [← hW7]; exact Vg.alloc_heap_at rfl
          have hs7 : W7.heap.size = w6.heap.size + 1 := by rw [← hW7]; simp
          rw [hW7]
          clear hW7
          have z8 := g67.blk H_y8.out
          have h7 := (H_h6.out.bound (by rw [List.length_set]; omega)).grows g67
          obtain ⟨-, -, -, -, -, hq7⟩ := h7.parts
          obtain ⟨b13, hb13⟩ : ∃ b13, w6.heap.size = b13 := ⟨_, rfl⟩
          rw [hb13] at z13 hs7 hsz6 ⊢
          have m3 : b13 ≠ w.heap.size + 1 := by omega
          have m4 : w.heap.size + 1 ≠ b13 := by omega
          have c_z13 := Vg.cells_of z13; have f_z13 := Vg.frozen_of z13; have p_z13 := Vg.setCell_of z13; have l_z13 := Vg.lt_of z13; have H_z13 := Lib.hid z13; clear z13
          have H_g67 := Lib.hid g67; clear g67; have H_z8 := Lib.hid z8; clear z8; have H_h7 := Lib.hid h7; clear h7; have H_hq7 := Lib.hid hq7; clear hq7; have H_hb13 := Lib.hid hb13; clear hb13
          go_upto_region 10 with ((go_at_call 21; (with_reducible refine (rq_goz H_hq7.out H_hQ.out H_hwk.out H_hgo.out).mono ?_); rintro e w8 ⟨rs', a8, q8, c8, rfl, hl8, hr8, hm8, hg8⟩; have v8 := hg8.blk H_z8.out; have v13 := hg8.blk H_z13.out; clear c_z13 f_z13 p_z13; have c_v8 := Vg.cells_of v8; have f_v8 := Vg.frozen_of v8; have p_v8 := Vg.setCell_of v8; have l_v8 := Vg.lt_of v8; have H_v8 := Lib.hid v8; clear v8; have c_v13 := Vg.cells_of v13; have f_v13 := Vg.frozen_of v13; have p_v13 := Vg.setCell_of v13; have l_v13 := Vg.lt_of v13; have H_v13 := Lib.hid v13; clear v13; have H_hl8 := Lib.hid hl8; clear hl8; have H_hr8 := Lib.hid hr8; clear hr8; have H_hm8 := Lib.hid hm8; clear hm8; have H_hg8 := Lib.hid hg8; clear hg8))
          have hgw8 := ((((H_hgw5.out.trans H_hg6.out).trans H_g67.out).trans H_hg8.out))
          have h9 := H_h7.out.queues (rs' := rs') (wa' := a8) (wc' := c8) H_hg8.out (by rw [H_hl8.out]; exact H_hr8.out)
          rw [H_hl8.out] at h9
          have hkp : ∀ o o', Vg.Kept (fun k => ((((S k ∧ k < w.heap.size) ∨ w.heap.size + 2 ≤ k) ∨ W5.heap.size ≤ k) ∧ k < w6.heap.size) ∨ W7.heap.size ≤ k) w8 (Vg.put (Vg.put w8 (w.heap.size + 1) o') b13 o) := fun o o' => ⟨by rw [Vg.put_size, Vg.put_size]; exact Nat.le_refl _, fun k hk => (Vg.put_heap_other (by have := H_hb13.out; omega)).trans (Vg.put_heap_other (by omega))⟩
          have hpc : ∀ (o : Obj) (cs : Array Value) (i : Nat), (Vg.put (Vg.put w8 (w.heap.size + 1) (.cells cs 80)) b13 o).cell? ⟨w.heap.size + 1, i, none⟩ = cs[i]? := fun o cs i => Vg.cells_of ((Vg.put_heap_other m3).trans (Vg.put_heap_same l_v8)) i
          have hg9 : ∀ o o', Vg.Grows w (Vg.put (Vg.put w8 (w.heap.size + 1) o') b13 o) := fun o o' => Vg.Grows.put (Vg.Grows.put hgw8 (Nat.le_succ _) _) (by omega) _
          have H_hgw8 := Lib.hid hgw8; clear hgw8; have H_h9 := Lib.hid h9; clear h9; have H_hkp := Lib.hid hkp; clear hkp; have H_hpc := Lib.hid hpc; clear hpc; have H_hg9 := Lib.hid hg9; clear hg9
          go_wp2_with fail
          refine bodyPost_ret (by simp [results, Try.results49, go_sem, H_hpc.out] <;> try rfl) rfl ?_
          have hfin := (H_h9.out.kept (H_hkp.out (rbC (.slice ta6 n tc6) (.slice sa6 n sc6) (.slice a8 q8 c8)) (rbC (.slice ta6 n tc6) (.slice sa6 n sc6) (.slice a8 q8 c8)))).mono (S' := fun k => S k ∨ w.heap.size ≤ k) (fun k hk => by
            rcases hk with ⟨(hk | hk) | hk, _⟩ | hk
            · exact .inl hk.1
            · exact .inr (by omega)
            · exact .inr (by omega)
            · exact .inr (by omega))
          exact ⟨_, rs', _, _, _, _, _, _, _, rfl, hfin, H_hps2.out _, H_hm8.out, H_hg9.out _ _⟩
        · rw [if_pos hr1] at hx
          simp only [Prod.mk.injEq] at hx
          obtain ⟨hBs, rfl, rfl, rfl⟩ := hx
          have hs' : s' = ⟨L, last⟩ := by
            have := Vg.Srv.use_no (s := ⟨L, last⟩) (bu := bu) (pe := pe) (n := m) (en := en) (by rw [hus]; exact hr1)
            rw [hus] at this
            exact this
          have hBs2 : Bs' = Bs := by
            rw [← hBs, hs']
            have : (⟨⟨pr, bu, pe, dp⟩, ⟨L, last⟩⟩ : Vg.Bp) = Bs[i] := by rw [hBi, hx2]
            rw [this, List.set_getElem_self]
          have hrb : (r1 != 0) = true := by simp [hr1]
          clear hr1
          have H_h := Lib.hid h; clear h; have H_hB := Lib.hid hB; clear hB; have H_hQ := Lib.hid hQ; clear hQ; have H_hI := Lib.hid hI; clear hI; have H_hn := Lib.hid hn; clear hn; have H_hq := Lib.hid hq; clear hq; have H_hBl := Lib.hid hBl; clear hBl; have H_hhas := Lib.hid hhas; clear hhas; have H_hlf := Lib.hid hlf; clear hlf; have H_hab := Lib.hid hab; clear hab; have H_hra := Lib.hid hra; clear hra; have H_hro := Lib.hid hro; clear hro; have H_hsi := Lib.hid hsi; clear hsi; have H_hx2 := Lib.hid hx2; clear hx2; have H_hBi := Lib.hid hBi; clear hBi; have H_hus := Lib.hid hus; clear hus; have H_hBs := Lib.hid hBs; clear hBs; have H_hs' := Lib.hid hs'; clear hs'; have H_hBs2 := Lib.hid hBs2; clear hBs2; have H_hpt := Lib.hid hpt; clear hpt; have H_hN := Lib.hid hN; clear hN; have H_hpe := Lib.hid hpe; clear hpe
          go_enter Try.func49, Try.ntmps49
          go_wp2_with (first | (go_at_call 60; (with_reducible refine (rb_has i (H_h.out.grows (by (repeat' (first | (with_reducible exact Vg.Grows.refl _) | (with_reducible assumption) | (with_reducible refine Vg.Grows.alloc ?_ _) | (with_reducible refine Vg.Grows.plus ?_ _ _) | (with_reducible refine Vg.Grows.drewN ?_ _) | (with_reducible refine Vg.Grows.drew ?_) | (with_reducible refine Vg.Grows.setCell ?_ ?_ _) | (with_reducible refine Vg.Grows.put ?_ ?_ _) | omega | (simp; omega) | (simp; done)))))).mono ?_); rintro e w1 ⟨rfl, x1, n1, rfl⟩; rw [H_hhas.out]) | (go_at_call 45; (with_reducible refine (rb_left i (H_h.out.grows (by (repeat' (first | (with_reducible exact Vg.Grows.refl _) | (with_reducible assumption) | (with_reducible refine Vg.Grows.alloc ?_ _) | (with_reducible refine Vg.Grows.plus ?_ _ _) | (with_reducible refine Vg.Grows.drewN ?_ _) | (with_reducible refine Vg.Grows.drew ?_) | (with_reducible refine Vg.Grows.setCell ?_ ?_ _) | (with_reducible refine Vg.Grows.put ?_ ?_ _) | omega | (simp; omega) | (simp; done))))) H_hB.out H_hQ.out H_hI.out H_hlf.out).mono ?_); rintro e w2 ⟨rfl, x2, n2, rfl⟩) | (go_at_call 58; (with_reducible refine (rb_able i (H_h.out.grows (by (repeat' (first | (with_reducible exact Vg.Grows.refl _) | (with_reducible assumption) | (with_reducible refine Vg.Grows.alloc ?_ _) | (with_reducible refine Vg.Grows.plus ?_ _ _) | (with_reducible refine Vg.Grows.drewN ?_ _) | (with_reducible refine Vg.Grows.drew ?_) | (with_reducible refine Vg.Grows.setCell ?_ ?_ _) | (with_reducible refine Vg.Grows.put ?_ ?_ _) | omega | (simp; omega) | (simp; done))))) H_hB.out H_hQ.out H_hI.out H_hab.out).mono ?_); rintro e w3 ⟨rfl, x3, n3, rfl⟩) | (go_at_call 103; (with_reducible refine (ra_usez m en (H_hra.out.grows (by (repeat' (first | (with_reducible exact Vg.Grows.refl _) | (with_reducible assumption) | (with_reducible refine Vg.Grows.alloc ?_ _) | (with_reducible refine Vg.Grows.plus ?_ _ _) | (with_reducible refine Vg.Grows.drewN ?_ _) | (with_reducible refine Vg.Grows.drew ?_) | (with_reducible refine Vg.Grows.setCell ?_ ?_ _) | (with_reducible refine Vg.Grows.put ?_ ?_ _) | omega | (simp; omega) | (simp; done))))) H_hsi.out H_hpe.out ⟨hb1, hb2⟩ hen H_hus.out).mono ?_); rintro e w4 ⟨sa4, N4, sc4, rfl, hl4, ha4, ho4, x4, n4, rfl⟩; have H_hl4 := Lib.hid hl4; clear hl4; have H_ha4 := Lib.hid ha4; clear ha4; have H_ho4 := Lib.hid ho4; clear ho4))
          go_returns
          exact ⟨ps, rs, _, _, _, _, _, _, _, rfl, (H_h.out.grows (by (repeat' (first | (with_reducible exact Vg.Grows.refl _) | (with_reducible assumption) | (with_reducible refine Vg.Grows.alloc ?_ _) | (with_reducible refine Vg.Grows.plus ?_ _ _) | (with_reducible refine Vg.Grows.drewN ?_ _) | (with_reducible refine Vg.Grows.drew ?_) | (with_reducible refine Vg.Grows.setCell ?_ ?_ _) | (with_reducible refine Vg.Grows.put ?_ ?_ _) | omega | (simp; omega) | (simp; done))))).mono fun k hk => .inl hk, by rw [H_hBs2.out]; exact H_hB.out, H_hQ.out, by (repeat' (first | (with_reducible exact Vg.Grows.refl _) | (with_reducible assumption) | (with_reducible refine Vg.Grows.alloc ?_ _) | (with_reducible refine Vg.Grows.plus ?_ _ _) | (with_reducible refine Vg.Grows.drewN ?_ _) | (with_reducible refine Vg.Grows.drew ?_) | (with_reducible refine Vg.Grows.setCell ?_ ?_ _) | (with_reducible refine Vg.Grows.put ?_ ?_ _) | omega | (simp; omega) | (simp; done)))⟩
  · rw [Vg.Bo.run_out (by omega)] at hx
    simp only [Prod.mk.injEq] at hx
    obtain ⟨rfl, rfl, rfl, rfl⟩ := hx
    have hhas : decide (0 ≤ i ∧ i < (ps.length : Int)) = false := decide_eq_false (by rw [hn]; exact hin)
    clear hin
    have H_h := Lib.hid h; clear h; have H_hB := Lib.hid hB; clear hB; have H_hQ := Lib.hid hQ; clear hQ; have H_hI := Lib.hid hI; clear hI; have H_hn := Lib.hid hn; clear hn; have H_hq := Lib.hid hq; clear hq; have H_hBl := Lib.hid hBl; clear hBl; have H_hhas := Lib.hid hhas; clear hhas
    go_enter Try.func49, Try.ntmps49
    go_wp2_with ((go_at_call 60; (with_reducible refine (rb_has i (H_h.out.grows (by (repeat' (first | (with_reducible exact Vg.Grows.refl _) | (with_reducible assumption) | (with_reducible refine Vg.Grows.alloc ?_ _) | (with_reducible refine Vg.Grows.plus ?_ _ _) | (with_reducible refine Vg.Grows.drewN ?_ _) | (with_reducible refine Vg.Grows.drew ?_) | (with_reducible refine Vg.Grows.setCell ?_ ?_ _) | (with_reducible refine Vg.Grows.put ?_ ?_ _) | omega | (simp; omega) | (simp; done)))))).mono ?_); rintro e w1 ⟨rfl, x1, n1, rfl⟩; rw [H_hhas.out]))
    go_returns
    exact ⟨ps, rs, _, _, _, _, _, _, _, rfl, (H_h.out.grows (by (repeat' (first | (with_reducible exact Vg.Grows.refl _) | (with_reducible assumption) | (with_reducible refine Vg.Grows.alloc ?_ _) | (with_reducible refine Vg.Grows.plus ?_ _ _) | (with_reducible refine Vg.Grows.drewN ?_ _) | (with_reducible refine Vg.Grows.drew ?_) | (with_reducible refine Vg.Grows.setCell ?_ ?_ _) | (with_reducible refine Vg.Grows.put ?_ ?_ _) | omega | (simp; omega) | (simp; done))))).mono fun k hk => .inl hk, H_hB.out, H_hQ.out, by (repeat' (first | (with_reducible exact Vg.Grows.refl _) | (with_reducible assumption) | (with_reducible refine Vg.Grows.alloc ?_ _) | (with_reducible refine Vg.Grows.plus ?_ _ _) | (with_reducible refine Vg.Grows.drewN ?_ _) | (with_reducible refine Vg.Grows.drew ?_) | (with_reducible refine Vg.Grows.setCell ?_ ?_ _) | (with_reducible refine Vg.Grows.put ?_ ?_ _) | omega | (simp; omega) | (simp; done)))⟩
end
end Go.Proofs.Ytiinhofmhoplfaa
namespace Vg
open Go
theorem Bo.later_iff {now : Int} {x : Bp} : Bo.later now x = true ↔ ¬ (now < x.s.last ∨ 4503599627370496 < now) := by
  unfold Bo.later
  simp
/-- The first k are refilled. -/
def Bo.rfk (Bs : List Bp) (now : Int) (k : Nat) : List Bp := (Bs.take k).map (Bo.rf now) ++ Bs.drop k
theorem Bo.rfk_len (Bs : List Bp) (now : Int) (k : Nat) : (Bo.rfk Bs now k).length = Bs.length := by
  unfold Bo.rfk; rw [List.length_append, List.length_map, List.length_take, List.length_drop]; omega
theorem Bo.rfk_at {Bs : List Bp} {now : Int} {k : Nat} (h : k < Bs.length) : (Bo.rfk Bs now k)[k]? = some Bs[k] := by
  unfold Bo.rfk
  rw [List.getElem?_append_right (by simp; omega)]
  simp [Nat.min_eq_left (Nat.le_of_lt h), List.getElem?_eq_getElem h]
theorem Bo.rfk_succ {Bs : List Bp} {now : Int} {k : Nat} (h : k < Bs.length) : (Bo.rfk Bs now k).set k (Bo.rf now Bs[k]) = Bo.rfk Bs now (k + 1) := by
  unfold Bo.rfk
  rw [List.take_succ_eq_append_getElem h, List.drop_eq_getElem_cons h, List.map_append, List.set_append]
  simp [Nat.min_eq_left (Nat.le_of_lt h)]
  rw [List.drop_eq_getElem_cons h]
  rfl
theorem Srv.rf_no {s : Srv} {now : Int} (h : now < s.last ∨ 4503599627370496 < now) : s.refill now = (s, 0, 1) := if_pos h
theorem Srv.rf_yes {s : Srv} {now : Int} (h : ¬ (now < s.last ∨ 4503599627370496 < now)) : s.refill now = (⟨(due now s.L).2, now⟩, (due now s.L).1, 0) := if_neg h
theorem Bo.rfk_full (Bs : List Bp) (now : Int) : Bo.rfk Bs now Bs.length = Bs.map (Bo.rf now) := by unfold Bo.rfk; simp
end Vg
namespace Go.Proofs.Ytiinhofmhoplfaa
open Go.ChangeShapes Go.WideShapes Go.ChangeAt Go.RowKit
section
variable {w w' : World} {S S' : Nat → Prop} {v u : Value} {ps : List Vg.Sp} {rs rs' : List Vg.Wp} {Bs Bs' : List Vg.Bp} {Q Q' : List Vg.Wq} {k n q : Nat} {is : Bool} {x y r m bu pe en i now : Int} {ta sa wa wa' : Option Addr} {tc sc wc wc' : Nat} {s s' : Vg.Srv}
theorem ra_refillz (now : Int) (h : RA w 0 s u) (hinv : s.Inv bu) (hbu : 1 ≤ bu ∧ bu ≤ 1099511627776) (hx : s.refill now = (s', x, r)) :
    Calls Try.prog 106 #[.agg #[.int .i64 bu, .int .i64 pe, u, .int .i64 s.last], .int .i64 now] w fun e w' => ∃ sa' N sc', e = .returned (.tuple #[.agg #[.int .i64 bu, .int .i64 pe, .slice sa' N sc', .int .i64 s'.last], .int .i64 x, .int .i64 r]) ∧ s'.L.length = N ∧
      RA w' 0 s' (.slice sa' N sc') ∧ (∀ k, (Value.slice sa' N sc').ownBlock = some k → u.ownBlock = some k ∨ w.heap.size ≤ k) ∧ Vg.Grows w w' := by
  refine (ra_refill now h (Nat.zero_le _) hinv hbu).mono ?_
  rintro e w' ⟨v', rfl, h1, h2, h3⟩
  rw [hx] at h1 ⊢
  obtain ⟨sa', sc', rfl, hr⟩ := h1
  exact ⟨sa', _, sc', rfl, rfl, ⟨sa', sc', rfl, hr⟩, h2, h3⟩
theorem rb_refill (now : Int) (h : RB S w v ps rs) (hB : ps.map (·.2) = Bs) (hI : Vg.Bo.Inv k Bs Q) (hn : ps.length = n) (hx : Vg.Bo.refill Bs now = (Bs', r)) :
    Calls Try.prog 51 #[v, .int .i64 now] w fun e w' => ∃ ps' ta tc sa sc wa q wc, e = .returned (.tuple #[.agg #[.slice ta n tc, .slice sa n sc, .slice wa q wc], .int .i64 r]) ∧ RB (fun k => S k ∨ w.heap.size ≤ k) w' (.agg #[.slice ta n tc, .slice sa n sc, .slice wa q wc]) ps' rs ∧ ps'.map (·.2) = Bs' ∧ Vg.Grows w w' := by
  obtain ⟨ta, tc, sa, sc, wa, wc, rfl, t1, t2⟩ := h.shape
  obtain ⟨q, hq⟩ : ∃ q, rs.length = q := ⟨_, rfl⟩
  have hBl : Bs.length = n := by rw [← hB, List.length_map]; exact hn
  have hn64 : n ≤ 64 := by have := hI.le; omega
  rw [hn, hq] at h
  rw [hn] at t1 ⊢
  rw [hq]
  by_cases hn0 : n = 0
  · have hB0 : Bs = [] := List.eq_nil_of_length_eq_zero (by omega)
    subst hB0
    have hx : (([] : List Vg.Bp), (0 : Int)) = (Bs', r) := hx
    simp only [Prod.mk.injEq] at hx
    obtain ⟨rfl, rfl⟩ := hx
    subst hn0
    have H_h := Lib.hid h; clear h; have H_hB := Lib.hid hB; clear hB; have H_hI := Lib.hid hI; clear hI; have H_hn := Lib.hid hn; clear hn; have H_hq := Lib.hid hq; clear hq; have H_hBl := Lib.hid hBl; clear hBl
    go_enter Try.func51, Try.ntmps51
    go_upto_region 2 with fail
    obtain ⟨W1, hW1, x2, x4, x6, hgw, hs1⟩ : ∃ W1, ((w.alloc (rbC (.slice ta 0 tc) (.slice sa 0 sc) (.slice wa q wc))).alloc rb0).alloc (rbC (.slice ta 0 tc) (.slice sa 0 sc) (.slice wa q wc)) = W1 ∧ Vg.blk W1 w.heap.size = some (rbC (.slice ta 0 tc) (.slice sa 0 sc) (.slice wa q wc)) ∧ Vg.blk W1 (w.heap.size + 1) = some rb0 ∧ Vg.blk W1 (w.heap.size + 1 + 1) = some (rbC (.slice ta 0 tc) (.slice sa 0 sc) (.slice wa q wc)) ∧ Vg.Grows w W1 ∧ W1.heap.size = w.heap.size + 3 := ⟨_, rfl, by go_simp, by go_simp, by go_simp, by (repeat' (first | (with_reducible exact Vg.Grows.refl _) | (with_reducible assumption) | (with_reducible refine Vg.Grows.alloc ?_ _) | (with_reducible refine Vg.Grows.plus ?_ _ _) | (with_reducible refine Vg.Grows.drewN ?_ _) | (with_reducible refine Vg.Grows.drew ?_) | (with_reducible refine Vg.Grows.setCell ?_ ?_ _) | (with_reducible refine Vg.Grows.put ?_ ?_ _) | omega | (simp; omega) | (simp; done))), by simp⟩
    rw [hW1]
    clear hW1
    have hpc : ∀ (cs : Array Value) (i : Nat), (Vg.put W1 (w.heap.size + 1) (.cells cs 80)).cell? ⟨w.heap.size + 1, i, none⟩ = cs[i]? := fun cs i => Vg.cells_of (Vg.put_heap_same (Vg.lt_of x4)) i
    have c_x2 := Vg.cells_of x2; have f_x2 := Vg.frozen_of x2; have p_x2 := Vg.setCell_of x2; have l_x2 := Vg.lt_of x2; have H_x2 := Lib.hid x2; clear x2; have c_x4 := Vg.cells_of x4; have f_x4 := Vg.frozen_of x4; have p_x4 := Vg.setCell_of x4; have l_x4 := Vg.lt_of x4; have H_x4 := Lib.hid x4; clear x4; have c_x6 := Vg.cells_of x6; have f_x6 := Vg.frozen_of x6; have p_x6 := Vg.setCell_of x6; have l_x6 := Vg.lt_of x6; have H_x6 := Lib.hid x6; clear x6
    have H_hpc := Lib.hid hpc; clear hpc
    go_wp2_with fail
    go_loopw [15] (fun i wr => i = .int .i64 0 ∧ wr = W1) (fun _ _ => 0)
    case atStart => exact ⟨rfl, rfl⟩
    case round =>
      obtain ⟨rfl, rfl⟩ := hrel
      go_wp2_with fail
      refine bodyPost_ret (by simp [results, Try.results51, go_sem, H_hpc.out] <;> try rfl) rfl ?_
      have hg9 := Vg.Grows.put hgw (Nat.le_succ w.heap.size) (rbC (.slice ta 0 tc) (.slice sa 0 sc) (.slice wa q wc))
      exact ⟨ps, _, _, _, _, _, _, _, rfl, (H_h.out.grows hg9).mono fun k hk => .inl hk, H_hB.out, hg9⟩
  · have hbd := h.bound (by omega)
    have H_h := Lib.hid h; clear h; have H_hB := Lib.hid hB; clear hB; have H_hI := Lib.hid hI; clear hI; have H_hn := Lib.hid hn; clear hn; have H_hq := Lib.hid hq; clear hq; have H_hBl := Lib.hid hBl; clear hBl; have H_hbd := Lib.hid hbd; clear hbd; have H_hx := Lib.hid hx; clear hx
    go_enter Try.func51, Try.ntmps51
    go_upto_region 2 with fail
    obtain ⟨W1, hW1, x2, x4, x6, hgw, hs1⟩ : ∃ W1, ((w.alloc (rbC (.slice ta n tc) (.slice sa n sc) (.slice wa q wc))).alloc rb0).alloc (rbC (.slice ta n tc) (.slice sa n sc) (.slice wa q wc)) = W1 ∧ Vg.blk W1 w.heap.size = some (rbC (.slice ta n tc) (.slice sa n sc) (.slice wa q wc)) ∧ Vg.blk W1 (w.heap.size + 1) = some rb0 ∧ Vg.blk W1 (w.heap.size + 1 + 1) = some (rbC (.slice ta n tc) (.slice sa n sc) (.slice wa q wc)) ∧ Vg.Grows w W1 ∧ W1.heap.size = w.heap.size + 3 := ⟨_, rfl, by go_simp, by go_simp, by go_simp, by (repeat' (first | (with_reducible exact Vg.Grows.refl _) | (with_reducible assumption) | (with_reducible refine Vg.Grows.alloc ?_ _) | (with_reducible refine Vg.Grows.plus ?_ _ _) | (with_reducible refine Vg.Grows.drewN ?_ _) | (with_reducible refine Vg.Grows.drew ?_) | (with_reducible refine Vg.Grows.setCell ?_ ?_ _) | (with_reducible refine Vg.Grows.put ?_ ?_ _) | omega | (simp; omega) | (simp; done))), by simp⟩
    rw [hW1]
    clear hW1
    have hrb := (H_hbd.out.grows hgw).mono (S' := fun k => (S k ∧ k < w.heap.size) ∨ w.heap.size + 3 ≤ k) fun k hk => .inl hk
    have hb0 : ps.map (·.2) = Vg.Bo.rfk Bs now 0 := by rw [H_hB.out]; simp [Vg.Bo.rfk]
    have c_x2 := Vg.cells_of x2; have f_x2 := Vg.frozen_of x2; have p_x2 := Vg.setCell_of x2; have l_x2 := Vg.lt_of x2; have H_x2 := Lib.hid x2; clear x2; have c_x4 := Vg.cells_of x4; have f_x4 := Vg.frozen_of x4; have p_x4 := Vg.setCell_of x4; have l_x4 := Vg.lt_of x4; have H_x4 := Lib.hid x4; clear x4; have c_x6 := Vg.cells_of x6; have f_x6 := Vg.frozen_of x6; have p_x6 := Vg.setCell_of x6; have l_x6 := Vg.lt_of x6; have H_x6 := Lib.hid x6; clear x6
    have H_hrb := Lib.hid hrb; clear hrb; have H_hb0 := Lib.hid hb0; clear hb0
    go_wp2_with fail
    go_loopw [15] (fun i wr => ∃ (j : Nat) (ps' : List Vg.Sp) (ta1 tc1 sa1 sc1 wa1 q1 wc1 : _), j ≤ n ∧ i = .int .i64 j ∧ RB (fun k => (S k ∧ k < w.heap.size) ∨ w.heap.size + 3 ≤ k) wr (.agg #[.slice ta1 n tc1, .slice sa1 n sc1, .slice wa1 q1 wc1]) ps' rs ∧ Vg.blk wr w.heap.size = some (rbC (.slice ta n tc) (.slice sa n sc) (.slice wa q wc)) ∧ Vg.blk wr (w.heap.size + 1) = some rb0 ∧ Vg.blk wr (w.heap.size + 1 + 1) = some (rbC (.slice ta1 n tc1) (.slice sa1 n sc1) (.slice wa1 q1 wc1)) ∧ ps'.map (·.2) = Vg.Bo.rfk Bs now j ∧ (Bs.take j).all (Vg.Bo.later now) = true ∧ Vg.Grows w wr ∧ w.heap.size + 3 ≤ wr.heap.size) (fun i _ => n - (intOf i).toNat)
    case atStart => exact ⟨0, ps, _, _, _, _, _, _, _, by omega, rfl, H_hrb.out, H_x2.out, H_x4.out, H_x6.out, H_hb0.out, by simp, hgw, by omega⟩
    case round =>
      obtain ⟨j, ps', ta1, tc1, sa1, sc1, wa1, q1, wc1, hj, rfl, hR, y2, y4, y6, hps, hall, hgr, hszr⟩ := hrel
      have hpl : ps'.length = n := by
        have := congrArg List.length hps
        rw [List.length_map, Vg.Bo.rfk_len, H_hBl.out] at this
        exact this
      by_cases hlt : j < n
      · have hjB : j < Bs.length := by rw [H_hBl.out]; exact hlt
        have hjp : j < ps'.length := by omega
        have hin2 : (j : Int) < n := by omega
        have hin0 : (0 : Int) ≤ j := by omega
        have hat : ps'[j].2 = Bs[j] := by
          have e1 : (ps'.map (·.2))[j]? = some Bs[j] := by rw [hps]; exact Vg.Bo.rfk_at hjB
          rw [List.getElem?_map, List.getElem?_eq_getElem hjp] at e1
          simpa using e1
        obtain ⟨-, -, -, -, hsr, -⟩ := hR.parts
        obtain ⟨g, o, rfl, hg, s1, s2, c0, c1, c2, c3⟩ := hsr.1.serv hpl j hjp
        obtain ⟨⟨⟨hb1, hb2⟩, hpe, hpr, hsi⟩, hiQ⟩ := H_hI.out.at j hjB
        obtain ⟨⟨sa', sc', hu, hrr⟩, hro⟩ := hR.ra j hjp
        rw [hu] at c2 hro
        have hra : RA wr 0 ps'[j].2.s (.slice sa' ps'[j].2.s.L.length sc') := ⟨sa', sc', rfl, by rw [← hu]; exact hrr⟩
        rw [← hat] at hb1 hb2 hsi
        obtain ⟨⟨u, ⟨⟨pr, bu, pe, dp⟩, ⟨L, last⟩⟩⟩, hx2⟩ : ∃ y, ps'[j] = y := ⟨_, rfl⟩
        have hpt : ps'[j].2.t = ⟨pr, bu, pe, dp⟩ := by rw [hx2]
        rw [hx2] at c0 c1 c2 c3 hra hb1 hb2 hsi hro hat
        simp only [] at c0 c1 c2 c3 hra hb1 hb2 hsi hro hat
        obtain ⟨N, hN⟩ : ∃ N, L.length = N := ⟨_, rfl⟩
        rw [hN] at c2 hra hro
        have htk : Bs.take (j + 1) = Bs.take j ++ [Bs[j]] := List.take_succ_eq_append_getElem hjB
        clear hrr hu hsr hpr
        by_cases hl : now < last ∨ 4503599627370496 < now
        · have hrf := Vg.Srv.rf_no (s := ⟨L, last⟩) hl
          have hx := H_hx.out
          have hno : Bs.all (Vg.Bo.later now) ≠ true := fun hh => by
            have := List.all_eq_true.1 hh Bs[j] (List.getElem_mem hjB)
            rw [← hat] at this
            exact (Vg.Bo.later_iff.1 this) hl
          unfold Vg.Bo.refill at hx
          rw [if_neg hno] at hx
          simp only [Prod.mk.injEq] at hx
          obtain ⟨rfl, rfl⟩ := hx
          clear hl
          have hpc : ∀ (W : World) (hW : w.heap.size + 1 < W.heap.size) (cs : Array Value) (i : Nat), (Vg.put W (w.heap.size + 1) (.cells cs 80)).cell? ⟨w.heap.size + 1, i, none⟩ = cs[i]? := fun W hW cs i => Vg.cells_of (Vg.put_heap_same hW) i
          have c_y2 := Vg.cells_of y2; have f_y2 := Vg.frozen_of y2; have p_y2 := Vg.setCell_of y2; have l_y2 := Vg.lt_of y2; have H_y2 := Lib.hid y2; clear y2; have c_y4 := Vg.cells_of y4; have f_y4 := Vg.frozen_of y4; have p_y4 := Vg.setCell_of y4; have l_y4 := Vg.lt_of y4; have H_y4 := Lib.hid y4; clear y4; have c_y6 := Vg.cells_of y6; have f_y6 := Vg.frozen_of y6; have p_y6 := Vg.setCell_of y6; have l_y6 := Vg.lt_of y6; have H_y6 := Lib.hid y6; clear y6
          have H_hR := Lib.hid hR; clear hR; have H_hps := Lib.hid hps; clear hps; have H_hall := Lib.hid hall; clear hall; have H_hgr := Lib.hid hgr; clear hgr; have H_hra := Lib.hid hra; clear hra; have H_hro := Lib.hid hro; clear hro; have H_hsi := Lib.hid hsi; clear hsi; have H_hx2 := Lib.hid hx2; clear hx2; have H_hpt := Lib.hid hpt; clear hpt; have H_hN := Lib.hid hN; clear hN; have H_htk := Lib.hid htk; clear htk; have H_hrf := Lib.hid hrf; clear hrf; have H_hno := Lib.hid hno; clear hno; have H_hpc := Lib.hid hpc; clear hpc; have H_hpl := Lib.hid hpl; clear hpl; have H_hat := Lib.hid hat; clear hat
          go_upto_region 7 with ((go_at_call 106; (with_reducible refine (ra_refillz now (H_hra.out.grows (by (repeat' (first | (with_reducible exact Vg.Grows.refl _) | (with_reducible assumption) | (with_reducible refine Vg.Grows.alloc ?_ _) | (with_reducible refine Vg.Grows.plus ?_ _ _) | (with_reducible refine Vg.Grows.drewN ?_ _) | (with_reducible refine Vg.Grows.drew ?_) | (with_reducible refine Vg.Grows.setCell ?_ ?_ _) | (with_reducible refine Vg.Grows.put ?_ ?_ _) | omega | (simp; omega) | (simp; done))))) H_hsi.out ⟨hb1, hb2⟩ H_hrf.out).mono ?_); rintro e w4 ⟨sa4, N4, sc4, rfl, hl4, ha4, ho4, hg4⟩; have z2 := hg4.blk H_y2.out; have z4 := hg4.blk H_y4.out; have z6 := hg4.blk H_y6.out; clear c_y2 f_y2 p_y2 c_y4 f_y4 p_y4 c_y6 f_y6 p_y6; have c_z2 := Vg.cells_of z2; have f_z2 := Vg.frozen_of z2; have p_z2 := Vg.setCell_of z2; have l_z2 := Vg.lt_of z2; have H_z2 := Lib.hid z2; clear z2; have c_z4 := Vg.cells_of z4; have f_z4 := Vg.frozen_of z4; have p_z4 := Vg.setCell_of z4; have l_z4 := Vg.lt_of z4; have H_z4 := Lib.hid z4; clear z4; have c_z6 := Vg.cells_of z6; have f_z6 := Vg.frozen_of z6; have p_z6 := Vg.setCell_of z6; have l_z6 := Vg.lt_of z6; have H_z6 := Lib.hid z6; clear z6; have H_hl4 := Lib.hid hl4; clear hl4; have H_ha4 := Lib.hid ha4; clear ha4; have H_ho4 := Lib.hid ho4; clear ho4; have H_hg4 := Lib.hid hg4; clear hg4))
          obtain ⟨W5, hW5, v2, v4, hg5⟩ : ∃ W5, w4.alloc (rservC bu pe (.slice sa4 N4 sc4) last) = W5 ∧ Vg.blk W5 w.heap.size = some (rbC (.slice ta n tc) (.slice sa n sc) (.slice wa q wc)) ∧ Vg.blk W5 (w.heap.size + 1) = some rb0 ∧ Vg.Grows w4 W5 := ⟨_, rfl, ((Vg.Grows.refl w4).alloc _).blk H_z2.out, ((Vg.Grows.refl w4).alloc _).blk H_z4.out, (Vg.Grows.refl w4).alloc _⟩
          rw [hW5]
          clear hW5
          clear c_z2 f_z2 p_z2 c_z4 f_z4 p_z4 c_z6 f_z6 p_z6
          have c_v2 := Vg.cells_of v2; have f_v2 := Vg.frozen_of v2; have p_v2 := Vg.setCell_of v2; have l_v2 := Vg.lt_of v2; have H_v2 := Lib.hid v2; clear v2; have c_v4 := Vg.cells_of v4; have f_v4 := Vg.frozen_of v4; have p_v4 := Vg.setCell_of v4; have l_v4 := Vg.lt_of v4; have H_v4 := Lib.hid v4; clear v4
          have hpc := H_hpc.out W5 l_v4
          have hgf := fun o' => Vg.Grows.put ((H_hgr.out.trans H_hg4.out).trans hg5) (Nat.le_succ w.heap.size) o'
          have H_hpc := Lib.hid hpc; clear hpc; have H_hgf := Lib.hid hgf; clear hgf
          go_wp2_with fail
          refine bodyPost_ret (by simp [results, Try.results51, go_sem, H_hpc.out] <;> try rfl) rfl ?_
          exact ⟨ps, _, _, _, _, _, _, _, rfl, (H_h.out.grows (H_hgf.out _)).mono fun k hk => .inl hk, H_hB.out, H_hgf.out _⟩
        · have hrf := Vg.Srv.rf_yes (s := ⟨L, last⟩) hl
          obtain ⟨⟨dx, L2⟩, hdue⟩ : ∃ p, Vg.due now L = p := ⟨_, rfl⟩
          simp only [hdue] at hrf
          have hB2 : Vg.Bo.rf now Bs[j] = ⟨⟨pr, bu, pe, dp⟩, ⟨L2, now⟩⟩ := by
            rw [← hat]
            unfold Vg.Bo.rf
            simp only [hrf]
          have hall2 : (Bs.take (j + 1)).all (Vg.Bo.later now) = true := by
            rw [htk, List.all_append, hall, ← hat]
            simp only [List.all_cons, List.all_nil, Bool.and_true, Bool.true_and]
            exact Vg.Bo.later_iff.2 hl
          have hps2 : ∀ z, (ps'.set j (z, ⟨⟨pr, bu, pe, dp⟩, ⟨L2, now⟩⟩)).map (·.2) = Vg.Bo.rfk Bs now (j + 1) := fun z => by
            rw [List.map_set, hps, ← Vg.Bo.rfk_succ hjB, hB2]
          clear hl hdue
          have c_y2 := Vg.cells_of y2; have f_y2 := Vg.frozen_of y2; have p_y2 := Vg.setCell_of y2; have l_y2 := Vg.lt_of y2; have H_y2 := Lib.hid y2; clear y2; have c_y4 := Vg.cells_of y4; have f_y4 := Vg.frozen_of y4; have p_y4 := Vg.setCell_of y4; have l_y4 := Vg.lt_of y4; have H_y4 := Lib.hid y4; clear y4; have c_y6 := Vg.cells_of y6; have f_y6 := Vg.frozen_of y6; have p_y6 := Vg.setCell_of y6; have l_y6 := Vg.lt_of y6; have H_y6 := Lib.hid y6; clear y6
          have H_hR := Lib.hid hR; clear hR; have H_hps := Lib.hid hps; clear hps; have H_hall := Lib.hid hall; clear hall; have H_hgr := Lib.hid hgr; clear hgr; have H_hra := Lib.hid hra; clear hra; have H_hro := Lib.hid hro; clear hro; have H_hsi := Lib.hid hsi; clear hsi; have H_hx2 := Lib.hid hx2; clear hx2; have H_hpt := Lib.hid hpt; clear hpt; have H_hN := Lib.hid hN; clear hN; have H_htk := Lib.hid htk; clear htk; have H_hrf := Lib.hid hrf; clear hrf; have H_hpl := Lib.hid hpl; clear hpl; have H_hat := Lib.hid hat; clear hat; have H_hB2 := Lib.hid hB2; clear hB2; have H_hall2 := Lib.hid hall2; clear hall2; have H_hps2 := Lib.hid hps2; clear hps2
          go_upto_region 8 with ((go_at_call 106; (with_reducible refine (ra_refillz now (H_hra.out.grows (by (repeat' (first | (with_reducible exact Vg.Grows.refl _) | (with_reducible assumption) | (with_reducible refine Vg.Grows.alloc ?_ _) | (with_reducible refine Vg.Grows.plus ?_ _ _) | (with_reducible refine Vg.Grows.drewN ?_ _) | (with_reducible refine Vg.Grows.drew ?_) | (with_reducible refine Vg.Grows.setCell ?_ ?_ _) | (with_reducible refine Vg.Grows.put ?_ ?_ _) | omega | (simp; omega) | (simp; done))))) H_hsi.out ⟨hb1, hb2⟩ H_hrf.out).mono ?_); rintro e w4 ⟨sa4, N4, sc4, rfl, hl4, ha4, ho4, hg4⟩; have z2 := hg4.blk H_y2.out; have z4 := hg4.blk H_y4.out; have z6 := hg4.blk H_y6.out; have hsz4 := hg4.size; clear c_y2 f_y2 p_y2 c_y4 f_y4 p_y4 c_y6 f_y6 p_y6; have c_z2 := Vg.cells_of z2; have f_z2 := Vg.frozen_of z2; have p_z2 := Vg.setCell_of z2; have l_z2 := Vg.lt_of z2; have H_z2 := Lib.hid z2; clear z2; have c_z4 := Vg.cells_of z4; have f_z4 := Vg.frozen_of z4; have p_z4 := Vg.setCell_of z4; have l_z4 := Vg.lt_of z4; have H_z4 := Lib.hid z4; clear z4; have c_z6 := Vg.cells_of z6; have f_z6 := Vg.frozen_of z6; have p_z6 := Vg.setCell_of z6; have l_z6 := Vg.lt_of z6; have H_z6 := Lib.hid z6; clear z6; have H_hl4 := Lib.hid hl4; clear hl4; have H_ha4 := Lib.hid ha4; clear ha4; have H_ho4 := Lib.hid ho4; clear ho4; have H_hg4 := Lib.hid hg4; clear hg4))
          obtain ⟨W5, hW5⟩ : ∃ W5, w4.alloc (rservC bu pe (.slice sa4 N4 sc4) now) = W5 := ⟨_, rfl⟩
          have g45 : Vg.Grows w4 W5 := by rw [← hW5]; exact (Vg.Grows.refl _).alloc _
          have x8 : Vg.blk W5 w4.heap.size = some (rservC bu pe (.slice sa4 N4 sc4) now) := by rw [← hW5]; exact Vg.alloc_heap_at rfl
          have hs5 : W5.heap.size = w4.heap.size + 1 := by rw [← hW5]; simp
          rw [hW5]
          clear hW5
          have v2 := g45.blk H_z2.out
          have v4 := g45.blk H_z4.out
          have v6 := g45.blk H_z6.out
          have hgw5 := (H_hgr.out.trans H_hg4.out).trans g45
          have hR5 := H_hR.out.grows (H_hg4.out.trans g45)
          have ha5 := H_ha4.out.grows g45
          have hS5 : ∀ k, (Value.slice sa4 N4 sc4).ownBlock = some k → ((S k ∧ k < w.heap.size) ∨ w.heap.size + 3 ≤ k) := fun k hk => by
            rcases H_ho4.out k hk with h1 | h1
            · exact H_hro.out k h1
            · exact .inr (by omega)
          obtain ⟨b8, hb8⟩ : ∃ b8, w4.heap.size = b8 := ⟨_, rfl⟩
          rw [hb8] at x8 hs5 hsz4 ⊢
          clear c_z2 f_z2 p_z2 c_z4 f_z4 p_z4 c_z6 f_z6 p_z6
          clear l_z2 l_z4 l_z6
          have c_v2 := Vg.cells_of v2; have f_v2 := Vg.frozen_of v2; have p_v2 := Vg.setCell_of v2; have l_v2 := Vg.lt_of v2; have H_v2 := Lib.hid v2; clear v2; have c_v4 := Vg.cells_of v4; have f_v4 := Vg.frozen_of v4; have p_v4 := Vg.setCell_of v4; have l_v4 := Vg.lt_of v4; have H_v4 := Lib.hid v4; clear v4; have c_v6 := Vg.cells_of v6; have f_v6 := Vg.frozen_of v6; have p_v6 := Vg.setCell_of v6; have l_v6 := Vg.lt_of v6; have H_v6 := Lib.hid v6; clear v6; have c_x8 := Vg.cells_of x8; have f_x8 := Vg.frozen_of x8; have p_x8 := Vg.setCell_of x8; have l_x8 := Vg.lt_of x8; have H_x8 := Lib.hid x8; clear x8
          have H_g45 := Lib.hid g45; clear g45; have H_hgw5 := Lib.hid hgw5; clear hgw5; have H_hR5 := Lib.hid hR5; clear hR5; have H_ha5 := Lib.hid ha5; clear ha5; have H_hS5 := Lib.hid hS5; clear hS5; have H_hb8 := Lib.hid hb8; clear hb8
          go_upto_region 9 with ((go_at_call 104; (with_reducible refine (rb_withz H_hR5.out hjp H_hpl.out hn64 H_hpt.out H_ha5.out H_hS5.out).mono ?_); rintro e w6 ⟨ta6, tc6, sa6, sc6, wa6, q6, wc6, rfl, h6, hg6⟩; have u2 := hg6.blk H_v2.out; have u4 := hg6.blk H_v4.out; have u6 := hg6.blk H_v6.out; have hsz6 := hg6.size; clear c_v2 f_v2 p_v2 c_v4 f_v4 p_v4 c_v6 f_v6 p_v6 c_x8 f_x8 p_x8; clear l_v2 l_v4 l_v6 l_x8; have c_u2 := Vg.cells_of u2; have f_u2 := Vg.frozen_of u2; have p_u2 := Vg.setCell_of u2; have l_u2 := Vg.lt_of u2; have H_u2 := Lib.hid u2; clear u2; have c_u4 := Vg.cells_of u4; have f_u4 := Vg.frozen_of u4; have p_u4 := Vg.setCell_of u4; have l_u4 := Vg.lt_of u4; have H_u4 := Lib.hid u4; clear u4; have c_u6 := Vg.cells_of u6; have f_u6 := Vg.frozen_of u6; have p_u6 := Vg.setCell_of u6; have l_u6 := Vg.lt_of u6; have H_u6 := Lib.hid u6; clear u6; have H_h6 := Lib.hid h6; clear h6; have H_hg6 := Lib.hid hg6; clear hg6))
          go_wp2_with fail
          have hk6 : ∀ o, Vg.Kept (fun k => (S k ∧ k < w.heap.size) ∨ w.heap.size + 3 ≤ k) w6 (Vg.put w6 (w.heap.size + 1 + 1) o) := fun o => ⟨by rw [Vg.put_size]; exact Nat.le_refl _, fun k hk => Vg.put_heap_other (by omega)⟩
          have h7 := fun o => (H_h6.out.mono (S' := fun k => (S k ∧ k < w.heap.size) ∨ w.heap.size + 3 ≤ k) (fun k hk => hk.elim id fun hk => .inr (by omega))).kept (hk6 o)
          exact ⟨⟨j + 1, _, _, _, _, _, _, _, _, by omega, by go_num, h7 _, (Vg.put_heap_other (by omega)).trans H_u2.out, (Vg.put_heap_other (by omega)).trans H_u4.out, Vg.put_heap_same l_u6, H_hps2.out _, H_hall2.out, Vg.Grows.put (H_hgw5.out.trans H_hg6.out) (by omega) _, by rw [Vg.put_size]; omega⟩, by simp [intOf]; omega⟩
      · have hjn : j = n := by omega
        have hx := H_hx.out
        have hall3 : Bs.all (Vg.Bo.later now) = true := by rw [List.take_of_length_le (by rw [H_hBl.out]; omega)] at hall; exact hall
        have hf := Vg.Bo.rfk_full Bs now
        rw [H_hBl.out, ← hjn, ← hps] at hf
        unfold Vg.Bo.refill at hx
        rw [if_pos hall3] at hx
        simp only [Prod.mk.injEq] at hx
        obtain ⟨rfl, rfl⟩ := hx
        have hpc : ∀ (cs : Array Value) (i : Nat), (Vg.put wr (w.heap.size + 1) (.cells cs 80)).cell? ⟨w.heap.size + 1, i, none⟩ = cs[i]? := fun cs i => Vg.cells_of (Vg.put_heap_same (Vg.lt_of y4)) i
        have hk6 : ∀ o, Vg.Kept (fun k => (S k ∧ k < w.heap.size) ∨ w.heap.size + 3 ≤ k) wr (Vg.put wr (w.heap.size + 1) o) := fun o => ⟨by rw [Vg.put_size]; exact Nat.le_refl _, fun k hk => Vg.put_heap_other (by omega)⟩
        have h7 := fun o => (hR.kept (hk6 o)).mono (S' := fun k => S k ∨ w.heap.size ≤ k) fun k hk => by
          rcases hk with hk | hk
          · exact .inl hk.1
          · exact .inr (by omega)
        have hg7 := fun o => Vg.Grows.put hgr (Nat.le_succ w.heap.size) o
        clear hR
        have hjn2 : ¬ (j : Int) < n := by omega
        have c_y2 := Vg.cells_of y2; have f_y2 := Vg.frozen_of y2; have p_y2 := Vg.setCell_of y2; have l_y2 := Vg.lt_of y2; have H_y2 := Lib.hid y2; clear y2; have c_y4 := Vg.cells_of y4; have f_y4 := Vg.frozen_of y4; have p_y4 := Vg.setCell_of y4; have l_y4 := Vg.lt_of y4; have H_y4 := Lib.hid y4; clear y4; have c_y6 := Vg.cells_of y6; have f_y6 := Vg.frozen_of y6; have p_y6 := Vg.setCell_of y6; have l_y6 := Vg.lt_of y6; have H_y6 := Lib.hid y6; clear y6
        have H_hps := Lib.hid hps; clear hps; have H_hall := Lib.hid hall; clear hall; have H_hall3 := Lib.hid hall3; clear hall3; have H_hpl := Lib.hid hpl; clear hpl; have H_hf := Lib.hid hf; clear hf; have H_hpc := Lib.hid hpc; clear hpc; have H_h7 := Lib.hid h7; clear h7; have H_hg7 := Lib.hid hg7; clear hg7; have H_hgr := Lib.hid hgr; clear hgr
        go_wp2_with fail
        refine bodyPost_ret (by simp [results, Try.results51, go_sem, H_hpc.out] <;> try rfl) rfl ?_
        exact ⟨ps', _, _, _, _, _, _, _, rfl, H_h7.out _, H_hf.out, H_hg7.out _⟩
end
end Go.Proofs.Ytiinhofmhoplfaa
