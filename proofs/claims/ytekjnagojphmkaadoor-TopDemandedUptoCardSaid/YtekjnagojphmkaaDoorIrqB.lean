/- Package irq: Raise. -/
import Derived.Test.YtekjnagojphmkaaDoorIrqA
set_option linter.unusedSimpArgs false
set_option linter.unusedVariables false
set_option maxHeartbeats 8000000
set_option maxRecDepth 100000
namespace Go.Proofs.YtekjnagojphmkaaDoor
open Go.ChangeShapes Go.WideShapes Go.ChangeAt Go.RowKit
section
variable {w w' : World} {b lo n mk pc sc l c g o : Nat} {xs : List Vg.Lq} {s s' : Vg.Iq} {lv sv : Value} {pa sa a : Option Addr} {ow : Nat → Nat} {OB : Nat → Prop} {x : Int}
theorem IQ.setf {i j : Nat} {u : Value} {y : Vg.Ln} (h : IQ w b lo n xs s mk (.slice (some ⟨g, o, none⟩) l c) sv pa pc sa sc ow) (hl : xs.length = l) (hi : i < xs.length) (hj : j < 5)
    (hset : (Vg.lcells xs).set (i * 5 + j) u = Vg.lcells (xs.set i { xs[i] with p := y })) (hy : y.many = xs[i].p.many ∧ y.wd = xs[i].p.wd ∧ y.q = xs[i].p.q ∧ y.ml = xs[i].p.ml) :
    IQ (w.setCell ⟨g, o + i * 5 + j, none⟩ u) b lo n (xs.set i { xs[i] with p := y }) (s.setl i y) mk (.slice (some ⟨g, o, none⟩) l c) sv pa pc sa sc ow ∧ Vg.Same (fun k => k = g) w (w.setCell ⟨g, o + i * 5 + j, none⟩ u) := by
  have hr := h.lrow
  rw [hl] at hr
  have hll := Vg.lcells_length xs
  obtain ⟨q1, q2⟩ := hr.set (j := i * 5 + j) (u := u) (by omega)
  rw [hset, ← Nat.add_assoc] at q1
  rw [← Nat.add_assoc] at q2
  refine ⟨h.lines (by simp) (by rw [hl]; exact q1) ((Vg.Touch.of_same q2).mono fun k _ hk => by rw [hk]; rfl) (fun k hk hk' => ?_) ?_ rfl rfl rfl, q2⟩
  · by_cases hki : i = k
    · subst hki
      rw [List.getElem_set_self]
      exact ⟨rfl, rfl, hy.1, hy.2.1, hy.2.2.1, hy.2.2.2⟩
    · rw [List.getElem_set_ne hki]
      exact ⟨rfl, rfl, rfl, rfl, rfl, rfl⟩
  · rw [List.map_set, h.ls]; rfl
theorem irq_raise_no (i : Nat) (top bot : Int) (h : IQ w b lo n xs s mk lv sv pa pc sa sc ow) {y : Vg.Ln} (hi : s.ls[i]? = some y) (h1 : 1 ≤ top) (h2 : top ≤ 1099511627776) (h3 : 0 ≤ bot) (h4 : bot ≤ 1099511627776) (hb4 : s.c.pe.testBit i = true) (hlo : 0 ≤ y.lost ∧ y.lost ≤ 4611686018427387904) :
    Calls Tryd.prog 7 #[.pointer (some ⟨b, 0, none⟩), .int .i64 i, .int .i64 top, .int .i64 bot] w fun e w' => e = .returned (.int .i64 4) ∧ (∃ ys, IQ w' b lo n ys (s.setl i { y with lost := y.lost + 1 }) mk lv sv pa pc sa sc ow) ∧ Vg.Touch (fun k => lv.ownBlock = some k) w w' := by
  have hlen : xs.length = s.ls.length := by rw [← h.ls]; simp
  obtain ⟨hil, hil2⟩ := List.getElem?_eq_some_iff.1 hi
  have hix : i < xs.length := by omega
  have hp : xs[i].p = y := by rw [← hil2]; simp [← h.ls]
  obtain ⟨hl1, hl2, hl3⟩ := h.len64
  obtain ⟨g, o, c, hlv, hg1, hg2, hc1, hc2, d0, d1, d2, d3, d4⟩ := h.lrow.line rfl i hix
  obtain ⟨l, hl⟩ : ∃ l, xs.length = l := ⟨_, rfl⟩
  have hb := h.tab
  have his := h.is
  obtain ⟨ed, hed⟩ : ∃ ed, 2 ^ n - 1 = ed := ⟨_, rfl⟩
  obtain ⟨pe, hpe⟩ : ∃ pe, s.c.pe = pe := ⟨_, rfl⟩
  obtain ⟨en, hen⟩ : ∃ en, s.c.en = en := ⟨_, rfl⟩
  obtain ⟨m, hm⟩ : ∃ m, s.S.length = m := ⟨_, rfl⟩
  obtain ⟨la, hla⟩ : ∃ la, s.last = la := ⟨_, rfl⟩
  rw [hed, hpe, hen, hm, hla, hlv, hl] at hb
  rw [hm] at his
  rw [hpe] at hb4
  rw [hp] at d3
  subst hlv
  rw [hl] at h hc1 ⊢
  have hix' : i < l := by omega
  have hin : i < n := by omega
  obtain ⟨top0, bot0, lost, srv, many, wd, q, ml⟩ := y
  simp only at d3 hlo ⊢
  clear d0 d1 d2 d4 hlen hil2
  have c7 := Vg.cells_of hb 7
  simp at c7
  have H_h := Lib.hid h; clear h; have H_hed := Lib.hid hed; clear hed; have H_hpe := Lib.hid hpe; clear hpe; have H_hen := Lib.hid hen; clear hen; have H_hm := Lib.hid hm; clear hm; have H_hla := Lib.hid hla; clear hla; have H_his := Lib.hid his; clear his; have H_hl := Lib.hid hl; clear hl; have H_hp := Lib.hid hp; clear hp; have H_hb4 := Lib.hid hb4; clear hb4; have H_c7 := Lib.hid c7; clear c7; have H_hi := Lib.hid hi; clear hi
  have c_hb := Vg.cells_of hb; have f_hb := Vg.frozen_of hb; have p_hb := Vg.setCell_of hb; have l_hb := Vg.lt_of hb; have H_hb := Lib.hid hb; clear hb
  go_enter Tryd.func7, Tryd.ntmps7
  go_wp2_with (first | (go_at_call 28; (with_reducible refine (irq_find i H_c7.out hix' hc1 hc2).mono ?_); rintro e w1 ⟨rfl, rfl⟩) | (go_at_call 29; (with_reducible refine (ic_raise_no i hin (H_his.out.grows (by (repeat' (first | (with_reducible exact Vg.Grows.refl _) | (with_reducible assumption) | (with_reducible refine Vg.Grows.alloc ?_ _) | (with_reducible refine Vg.Grows.plus ?_ _ _) | (with_reducible refine Vg.Grows.drewN ?_ _) | (with_reducible refine Vg.Grows.drew ?_) | (with_reducible refine Vg.Grows.setCell ?_ ?_ _) | (with_reducible refine Vg.Grows.put ?_ ?_ _) | omega | (simp; omega) | (simp; done))))) H_hed.out H_hpe.out H_hen.out H_hb4.out).mono ?_); rintro e w1 ⟨v, rfl, ⟨pa', pc', sa', m', sc', rfl, hI, f1, f2⟩, hg1⟩; have h1w := H_h.out.grows hg1; have yq := h1w.lrow; rw [H_hl.out] at yq; have hfz := yq.frozen; obtain ⟨g', o', c', hlv', -, hg3, -, -, u0, u1, u2, u3, u4⟩ := yq.line H_hl.out i hix; simp only [Value.slice.injEq, Option.some.injEq, Addr.mk.injEq, true_and, and_true] at hlv'; obtain ⟨⟨rfl, rfl⟩, rfl⟩ := hlv'; rw [H_hp.out] at u3; simp only at u3; clear d3 u0 u1 u2 u4; have H_yq := Lib.hid yq; clear yq; have H_h1w := Lib.hid h1w; clear h1w; have H_hI := Lib.hid hI; clear hI; have H_f1 := Lib.hid f1; clear f1; have H_f2 := Lib.hid f2; clear f2; have H_hg1 := Lib.hid hg1; clear hg1))
  go_ret
  obtain ⟨r1, r2⟩ := H_h1w.out.setf (i := i) (j := 3) (y := ⟨top0, bot0, lost + 1, srv, many, wd, q, ml⟩) H_hl.out hix (by omega) ((Vg.lcells_set3 xs i hix (lost + 1)).trans (by rw [H_hp.out])) (by rw [H_hp.out]; exact ⟨rfl, rfl, rfl, rfl⟩)
  have hgg : ∀ (W : World), Vg.Grows (w1.setCell ⟨g, o + i * 5 + 3, none⟩ (.int .i64 (lost + 1))) W → _ := fun W hW => (⟨(⟨_, r1.grows hW⟩ : ∃ ys, IQ W b lo n ys _ mk _ sv pa pc sa sc ow), ((Vg.Touch.of_grows H_hg1.out).trans ((Vg.Touch.of_same r2).mono fun k _ hk => by rw [hk]; rfl)).trans (Vg.Touch.of_grows hW)⟩ : _ ∧ Vg.Touch (fun k => (Value.slice (some ⟨g, o, none⟩) l c).ownBlock = some k) w W)
  exact ⟨rfl, hgg _ (by (repeat' (first | (with_reducible exact Vg.Grows.refl _) | (with_reducible assumption) | (with_reducible refine Vg.Grows.alloc ?_ _) | (with_reducible refine Vg.Grows.plus ?_ _ _) | (with_reducible refine Vg.Grows.drewN ?_ _) | (with_reducible refine Vg.Grows.drew ?_) | (with_reducible refine Vg.Grows.setCell ?_ ?_ _) | (with_reducible refine Vg.Grows.put ?_ ?_ _) | omega | (simp; omega) | (simp; done))))⟩
theorem irq_raise (i : Nat) (top bot : Int) (h : IQ w b lo n xs s mk lv sv pa pc sa sc ow) {y : Vg.Ln} (hi : s.ls[i]? = some y) (h1 : 1 ≤ top) (h2 : top ≤ 1099511627776) (h3 : 0 ≤ bot) (h4 : bot ≤ 1099511627776) (hb4 : s.c.pe.testBit i = false) :
    Calls Tryd.prog 7 #[.pointer (some ⟨b, 0, none⟩), .int .i64 i, .int .i64 top, .int .i64 bot] w fun e w' => e = .returned (.int .i64 0) ∧ (∃ ys pa' pc' sa' sc' ow', IQ w' b lo n ys ⟨s.c.raise i, s.ls.set i { y with top := top, bot := bot }, s.S, s.last⟩ mk lv sv pa' pc' sa' sc' ow' ∧ ∀ k, ow' k ≠ 0 → ow k ≠ 0 ∨ w.heap.size ≤ k) ∧ Vg.Touch (fun k => k = b ∨ lv.ownBlock = some k) w w' := by
  have hlen : xs.length = s.ls.length := by rw [← h.ls]; simp
  obtain ⟨hil, hil2⟩ := List.getElem?_eq_some_iff.1 hi
  have hix : i < xs.length := by omega
  have hp : xs[i].p = y := by rw [← hil2]; simp [← h.ls]
  obtain ⟨hl1, hl2, hl3⟩ := h.len64
  obtain ⟨g, o, c, hlv, hg1, hg2, hc1, hc2, d0, d1, d2, d3, d4⟩ := h.lrow.line rfl i hix
  obtain ⟨l, hl⟩ : ∃ l, xs.length = l := ⟨_, rfl⟩
  have hb := h.tab
  have his := h.is
  obtain ⟨ed, hed⟩ : ∃ ed, 2 ^ n - 1 = ed := ⟨_, rfl⟩
  obtain ⟨pe, hpe⟩ : ∃ pe, s.c.pe = pe := ⟨_, rfl⟩
  obtain ⟨en, hen⟩ : ∃ en, s.c.en = en := ⟨_, rfl⟩
  obtain ⟨m, hm⟩ : ∃ m, s.S.length = m := ⟨_, rfl⟩
  obtain ⟨la, hla⟩ : ∃ la, s.last = la := ⟨_, rfl⟩
  rw [hed, hpe, hen, hm, hla, hlv, hl] at hb
  rw [hm] at his
  rw [hpe] at hb4
  subst hlv
  rw [hl] at h hc1 ⊢
  have hix' : i < l := by omega
  have hin : i < n := by omega
  have hbg : b ≠ g := fun hh => by have h9 := h.ol g rfl; rw [← hh, h.ob] at h9; omega
  have hgb : g ≠ b := fun hh => hbg hh.symm
  have hbl := Vg.lt_of hb
  clear d0 d1 d2 d3 d4 hlen hil2
  have c7 := Vg.cells_of hb 7
  simp at c7
  have H_h := Lib.hid h; clear h; have H_hed := Lib.hid hed; clear hed; have H_hpe := Lib.hid hpe; clear hpe; have H_hen := Lib.hid hen; clear hen; have H_hm := Lib.hid hm; clear hm; have H_hla := Lib.hid hla; clear hla; have H_his := Lib.hid his; clear his; have H_hl := Lib.hid hl; clear hl; have H_hp := Lib.hid hp; clear hp; have H_hb4 := Lib.hid hb4; clear hb4; have H_c7 := Lib.hid c7; clear c7; have H_hi := Lib.hid hi; clear hi
  have c_hb := Vg.cells_of hb; have f_hb := Vg.frozen_of hb; have p_hb := Vg.setCell_of hb; have l_hb := Vg.lt_of hb; have H_hb := Lib.hid hb; clear hb
  go_enter Tryd.func7, Tryd.ntmps7
  go_wp2_with (first | (go_at_call 28; (with_reducible refine (irq_find i H_c7.out hix' hc1 hc2).mono ?_); rintro e w1 ⟨rfl, rfl⟩) | (go_at_call 29; (with_reducible refine (ic_raise i hin (H_his.out.grows (by (repeat' (first | (with_reducible exact Vg.Grows.refl _) | (with_reducible assumption) | (with_reducible refine Vg.Grows.alloc ?_ _) | (with_reducible refine Vg.Grows.plus ?_ _ _) | (with_reducible refine Vg.Grows.drewN ?_ _) | (with_reducible refine Vg.Grows.drew ?_) | (with_reducible refine Vg.Grows.setCell ?_ ?_ _) | (with_reducible refine Vg.Grows.put ?_ ?_ _) | omega | (simp; omega) | (simp; done))))) H_hed.out H_hpe.out H_hen.out H_hb4.out).mono ?_); rintro e w1 ⟨v, rfl, ⟨pa', pc', sa', m', sc', rfl, hI, f1, f2⟩, hg1⟩; have h1w := H_h.out.grows hg1; have yq := h1w.lrow; rw [H_hl.out] at yq; have hfz := yq.frozen; obtain ⟨g', o', c', hlv', -, hg3, -, -, u0, u1, u2, u3, u4⟩ := yq.line H_hl.out i hix; simp only [Value.slice.injEq, Option.some.injEq, Addr.mk.injEq, true_and, and_true] at hlv'; obtain ⟨⟨rfl, rfl⟩, rfl⟩ := hlv'; have yb := hg1.blk H_hb.out; have hsz := hg1.size; clear c_hb f_hb p_hb u0 u3 u4; have c_yb := Vg.cells_of yb; have f_yb := Vg.frozen_of yb; have p_yb := Vg.setCell_of yb; have l_yb := Vg.lt_of yb; have H_yb := Lib.hid yb; clear yb; have H_yq := Lib.hid yq; clear yq; have H_h1w := Lib.hid h1w; clear h1w; have H_hI := Lib.hid hI; clear hI; have H_f1 := Lib.hid f1; clear f1; have H_f2 := Lib.hid f2; clear f2; have H_hg1 := Lib.hid hg1; clear hg1))
  go_ret
  have hmm : m' = s.S.length := by rw [← H_hI.out.m]; show s.c.st.length = _; rw [H_h.out.ok.st]; simp
  have ht9 := ((Vg.Touch.of_grows (t := fun k => k = b) H_hg1.out).put rfl (irqC (s.c.raise i).pe (s.c.raise i).en ed pa' n pc' sa' m' sc' (.slice (some ⟨g, o, none⟩) l c) sv mk la))
  have hpe0 : s.ls = [] → (s.c.raise i).pe = 0 := fun hh => by rw [hh] at hil; simp at hil
  obtain ⟨ow', h9, h10⟩ := H_h.out.tabs (c' := s.c.raise i) (mk' := mk) (last' := la) ht9 H_h.out.ok.st hpe0 hmm (by rw [H_hed.out]; exact Vg.blk_put_same l_yb) (H_hI.out.put (fun k hk => by have := H_f1.out k hk; have := l_hb; omega) (fun k hk => by have := H_f2.out k hk; have := l_hb; omega) _) H_h.out.hmk (fun k hk => .inr (by rw [Vg.put_size]; exact H_f1.out k hk)) (fun k hk => .inr (by rw [Vg.put_size]; exact H_f2.out k hk))
  obtain ⟨r1, r2⟩ := h9.setf (i := i) (j := 1) (y := { y with top := top }) H_hl.out hix (by omega) ((Vg.lcells_set1 xs i hix top).trans (by rw [H_hp.out])) (by rw [H_hp.out]; exact ⟨rfl, rfl, rfl, rfl⟩)
  obtain ⟨zs, hz⟩ : ∃ zs, xs.set i { xs[i] with p := { y with top := top } } = zs := ⟨_, rfl⟩
  rw [hz] at r1
  have hzl : zs.length = l := by rw [← hz, List.length_set]; exact H_hl.out
  have hzi : i < zs.length := by omega
  have hzp : zs[i].p = { y with top := top } := by simp [← hz]
  obtain ⟨r3, r4⟩ := r1.setf (i := i) (j := 2) (y := { y with top := top, bot := bot }) hzl hzi (by omega) ((Vg.lcells_set2 zs i hzi bot).trans (by rw [hzp])) (by rw [hzp]; exact ⟨rfl, rfl, rfl, rfl⟩)
  have ht2 : Vg.Touch (fun k => k = b ∨ (Value.slice (some ⟨g, o, none⟩) l c).ownBlock = some k) w _ := (ht9.mono fun k _ hk => .inl hk).trans ((Vg.Touch.of_same (r2.trans r4)).mono fun k _ hk => .inr (by rw [hk]; rfl))
  rw [Vg.put_setCell_other hbg, Vg.put_setCell_other hbg] at r3 ht2
  simp only [Vg.Iq.setl, List.set_set] at r3
  have hgA : ∀ (W : World) (O : Obj), Vg.Grows W (W.alloc O) := fun W O => (Vg.Grows.refl _).alloc _
  rw [H_hla.out]
  exact ⟨rfl, ⟨_, pa', pc', sa', sc', ow', r3.grows (hgA _ _), h10⟩, ht2.trans (Vg.Touch.of_grows (hgA _ _))⟩
end
end Go.Proofs.YtekjnagojphmkaaDoor
