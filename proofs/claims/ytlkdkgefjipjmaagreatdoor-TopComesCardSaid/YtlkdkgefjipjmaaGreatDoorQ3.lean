/- PoolA, PoolL (put together). -/
import Derived.Test.YtlkdkgefjipjmaaGreatDoorQ2
import Derived.Test.YtlkdkgefjipjmaaGreatDoorQ0
set_option linter.unusedSimpArgs false
set_option linter.unusedVariables false
set_option maxHeartbeats 40000000
set_option maxRecDepth 100000
namespace Vg
open Go
def Pl.out1 (s : Pl) (l : Nat) (a z : Int) : Pl := if a = -1 then { s with E := s.E.set (l * 2) z } else { s with K := s.K.set (a.toNat * 3 + 2) z }
def Pl.out2 (s : Pl) (l : Nat) (a z : Int) : Pl := if z = -1 then { s with E := s.E.set (l * 2 + 1) a } else { s with K := s.K.set (z.toNat * 3 + 1) a }
def Pl.out (s : Pl) (l : Nat) (a z : Int) : Pl := (s.out1 l a z).out2 l a z
def Pl.pile (s : Pl) (i : Nat) : Pl := { s with K := ((s.K.set (i * 3) (-1)).set (i * 3 + 1) (-1)).set (i * 3 + 2) s.top, top := i, free := s.free + 1 }
end Vg
namespace Go.Proofs.YtlkdkgefjipjmaaGreatDoor
open Go.ChangeShapes Go.WideShapes Go.ChangeAt Go.RowKit
section
variable {w w0 w' : World} {b g1 g2 n m : Nat} {s : Vg.Pl}
theorem POn.setTF (h : POn w0 w b g1 g2 n m s) (x y : Int) : POn w0 (Vg.put w b (poolC g1 g2 n m x y)) b g1 g2 n m { s with top := x, free := y } := by
 obtain ⟨h, ht⟩ := h
 exact ⟨⟨Vg.blk_put_same h.lt.1, (Vg.blk_put_other h.n1).trans h.lk, (Vg.blk_put_other h.n2).trans h.ls, h.n1, h.n2, h.n3, h.kl, h.el, h.nn, h.mm⟩, ht.put (.inl rfl) _⟩
theorem pl_out (i l : Nat) (h : PO w b g1 g2 n m s) (hi : i < n) (hl : l < m) {a z : Int} (hK1 : s.K[i * 3]? = some (l : Int)) (hK2 : s.K[i * 3 + 1]? = some a) (hK3 : s.K[i * 3 + 2]? = some z) (ha : a = -1 \/ (0 <= a /\ a < n)) (hz : z = -1 \/ (0 <= z /\ z < n)) :
  Calls Tryz.prog 212 #[.pointer (some ⟨b, 0, none⟩), .int .i64 i] w fun e w' => e = .returned (.tuple #[]) /\ POn w w' b g1 g2 n m (s.out l a z) := by
 have x1 := h.tab
 have hn := h.nn
 have hm := h.mm
 have hkl := h.kl
 have cK1 := Vg.rowP_cell h.lk hK1
 have cK2 := Vg.rowP_cell h.lk hK2
 have cK3 := Vg.rowP_cell h.lk hK3
 obtain ⟨fb, fK, fE⟩ := h.froz
 obtain ⟨lb, lK, lE⟩ := h.lt
 have hiI : (i : Int) < n := by omega
 have hlI : (l : Int) < m := by omega
 have hnn : n <= n := Nat.le_refl _
 have hmm2 : m <= m := Nat.le_refl _
 obtain ⟨c_x1, f_x1, p_x1, l_x1, H_x1⟩ := Vg.lay x1; clear x1
 have H_h := h_ h; have H_hK1 := h_ hK1; have H_hK2 := h_ hK2; have H_hK3 := h_ hK3; clear h hK1 hK2 hK3
 go_enter Tryz.func212, Tryz.ntmps212
 go_upto_region 1 with fail
 obtain ⟨bx, hbx⟩ : ∃ bx, w.heap.size = bx := ⟨_, rfl⟩
 obtain ⟨w0, hw0⟩ : ∃ w0, w.alloc (.cells #[.int .i64 l, .int .i64 a, .int .i64 z] 346) = w0 := ⟨_, rfl⟩
 have v0 : Vg.blk w0 bx = some (.cells #[.int .i64 l, .int .i64 a, .int .i64 z] 346) := by rw [<- hw0, <- hbx]; exact Vg.alloc_heap_at rfl
 have hp0 : POn w w0 b g1 g2 n m s := (POn.refl H_h.out).grows (by rw [<- hw0]; exact (Vg.Grows.refl w).alloc _)
 have nx : b < bx /\ g1 < bx /\ g2 < bx := by omega
 simp only [hbx]
 rw [hw0]
 clear c_x1 f_x1 p_x1 l_x1 H_x1 cK1 cK2 cK3 fb fK fE lb lK lE hw0
 have y0 := hp0.1.tab
 obtain ⟨lb, lK, lE⟩ := hp0.1.lt
 have hlI0 : (0 : Int) <= l := by omega
 obtain ⟨c_y0, f_y0, p_y0, l_y0, H_y0⟩ := Vg.lay y0; clear y0; obtain ⟨c_v0, f_v0, p_v0, l_v0, H_v0⟩ := Vg.lay v0; clear v0
 have H_hp0 := h_ hp0; clear hp0
 go_quiet (fail)
 obtain ⟨w1, hw1⟩ : ∃ w1, w0.drewN nq = w1 := ⟨_, rfl⟩
 have hp1 := H_hp0.out.grows (w' := w1) (by rw [<- hw1]; exact (Vg.Grows.refl w0).drewN _)
 have v1 : Vg.blk w1 bx = some (.cells #[.int .i64 l, .int .i64 a, .int .i64 z] 346) := by rw [<- hw1]; exact H_v0.out
 rw [hw1]
 clear c_y0 f_y0 p_y0 l_y0 c_v0 f_v0 p_v0 l_v0 H_y0 H_v0 H_hp0 lb lK lE hw1
 have y1 := hp1.1.tab
 obtain ⟨e1, e2, cE1, cE2⟩ := hp1.1.listc hl
 obtain ⟨fb, fK, fE⟩ := hp1.1.froz
 obtain ⟨lb, lK, lE⟩ := hp1.1.lt
 have nb1 : bx ≠ b := by omega
 have nb2 : bx ≠ g1 := by omega
 have nb3 : bx ≠ g2 := by omega
 obtain ⟨c_y1, f_y1, p_y1, l_y1, H_y1⟩ := Vg.lay y1; clear y1; obtain ⟨c_v1, f_v1, p_v1, l_v1, H_v1⟩ := Vg.lay v1; clear v1
 have H_hp1 := h_ hp1; have H_hbx := h_ hbx; clear hp1 hbx
 go_upto_if 22 with fail
 go_cut [] (fun wz => POn w wz b g1 g2 n m (s.out1 l a z) /\ Vg.blk wz bx = some (.cells #[.int .i64 l, .int .i64 a, .int .i64 z] 346))
 case first =>
  by_cases h1 : a = -1
  ·have hf : s.out1 l a z = { s with E := s.E.set (l * 2) z } := by unfold Vg.Pl.out1; rw [if_pos h1]
   subst h1
   have H_hf := h_ hf; clear hf
   go_wp2_with fail
   go_meet
   rw [H_hf.out]
   exact ⟨H_hp1.out.setE (l * 2) z, (Vg.blk_setCell_other (Ne.symm nb3)).trans H_v1.out⟩
  ·obtain ⟨q, rfl⟩ : ∃ q : Nat, a = q := ⟨a.toNat, by omega⟩
   have hqn : q < n := by omega
   have hqI : (q : Int) < n := by omega
   have hqI0 : (0 : Int) <= q := by omega
   have hq1 : ¬ (q : Int) = -1 := by omega
   have hf : s.out1 l q z = { s with K := s.K.set (q * 3 + 2) z } := by unfold Vg.Pl.out1; rw [if_neg h1]; simp
   have H_hf := h_ hf; clear hf
   go_upto_region 4 with fail
   go_still_tail 10, (by kernel_rfl)
   obtain ⟨w3, hw3⟩ : ∃ w3, w1.drew = w3 := ⟨_, rfl⟩
   have hp3 := H_hp1.out.grows (w' := w3) (by rw [<- hw3]; exact (Vg.Grows.refl w1).drew)
   have v3 : Vg.blk w3 bx = some (.cells #[.int .i64 l, .int .i64 q, .int .i64 z] 346) := by rw [<- hw3]; exact H_v1.out
   change wpList _ _ _ _ _ w1.drew
   rw [hw3]
   clear c_y1 f_y1 p_y1 l_y1 c_v1 f_v1 p_v1 l_v1 cE1 cE2 fb fK fE lb lK lE H_y1 H_hp1 hw3
   have y3 := hp3.1.tab
   obtain ⟨k4, k5, k6, -, -, cK6⟩ := hp3.1.linkc hqn
   obtain ⟨fb, fK, fE⟩ := hp3.1.froz
   obtain ⟨lb, lK, lE⟩ := hp3.1.lt
   obtain ⟨c_y3, f_y3, p_y3, l_y3, H_y3⟩ := Vg.lay y3; clear y3; obtain ⟨c_v3, f_v3, p_v3, l_v3, H_v3⟩ := Vg.lay v3; clear v3
   have H_hp3 := h_ hp3; clear hp3
   go_wp2_with fail
   go_meet
   rw [H_hf.out]
   exact ⟨H_hp3.out.setK (q * 3 + 2) z, (Vg.blk_setCell_other (Ne.symm nb2)).trans H_v3.out⟩
 case rest =>
  obtain ⟨hp4, v4⟩ := hcut
  clear c_y1 f_y1 p_y1 l_y1 c_v1 f_v1 p_v1 l_v1 cE1 cE2 fb fK fE lb lK lE H_y1 H_hp1 H_v1
  have y4 := hp4.1.tab
  obtain ⟨e1, e2, cE1, cE2⟩ := hp4.1.listc hl
  obtain ⟨fb, fK, fE⟩ := hp4.1.froz
  obtain ⟨lb, lK, lE⟩ := hp4.1.lt
  obtain ⟨c_y4, f_y4, p_y4, l_y4, H_y4⟩ := Vg.lay y4; clear y4; obtain ⟨c_v4, f_v4, p_v4, l_v4, H_v4⟩ := Vg.lay v4; clear v4
  have H_hp4 := h_ hp4; clear hp4
  by_cases h1 : z = -1
  ·have hf : s.out l a z = { s.out1 l a z with E := (s.out1 l a z).E.set (l * 2 + 1) a } := by unfold Vg.Pl.out Vg.Pl.out2; rw [if_pos h1]
   subst h1
   have H_hf := h_ hf; clear hf
   go_wp2_with fail
   go_returns
   rw [H_hf.out]
   exact ⟨rfl, H_hp4.out.setE (l * 2 + 1) a⟩
  ·obtain ⟨q, rfl⟩ : ∃ q : Nat, z = q := ⟨z.toNat, by omega⟩
   have hqn : q < n := by omega
   have hqI : (q : Int) < n := by omega
   have hqI0 : (0 : Int) <= q := by omega
   have hq1 : ¬ (q : Int) = -1 := by omega
   have hf : s.out l a q = { s.out1 l a q with K := (s.out1 l a q).K.set (q * 3 + 1) a } := by unfold Vg.Pl.out Vg.Pl.out2; rw [if_neg h1]; simp
   have H_hf := h_ hf; clear hf
   go_upto_region 7 with fail
   go_still_tail 10, (by kernel_rfl)
   obtain ⟨w5, hw5⟩ : ∃ w5, wc.drew = w5 := ⟨_, rfl⟩
   have hp5 := H_hp4.out.grows (w' := w5) (by rw [<- hw5]; exact (Vg.Grows.refl wc).drew)
   have v5 : Vg.blk w5 bx = some (.cells #[.int .i64 l, .int .i64 a, .int .i64 q] 346) := by rw [<- hw5]; exact H_v4.out
   change wpList _ _ _ _ _ wc.drew
   rw [hw5]
   clear c_y4 f_y4 p_y4 l_y4 c_v4 f_v4 p_v4 l_v4 cE1 cE2 fb fK fE lb lK lE H_y4 H_hp4 hw5
   have y5 := hp5.1.tab
   obtain ⟨k4, k5, k6, -, cK5, -⟩ := hp5.1.linkc hqn
   obtain ⟨fb, fK, fE⟩ := hp5.1.froz
   obtain ⟨lb, lK, lE⟩ := hp5.1.lt
   obtain ⟨c_y5, f_y5, p_y5, l_y5, H_y5⟩ := Vg.lay y5; clear y5; obtain ⟨c_v5, f_v5, p_v5, l_v5, H_v5⟩ := Vg.lay v5; clear v5
   have H_hp5 := h_ hp5; clear hp5
   go_wp2_with fail
   go_returns
   rw [H_hf.out]
   exact ⟨rfl, H_hp5.out.setK (q * 3 + 1) a⟩
theorem pl_where (i : Nat) (h : PO w b g1 g2 n m s) (hi : i < n) {l : Int} (hK : s.K[i * 3]? = some l) (hl : ¬ l = -1) :
  Calls Tryz.prog 211 #[.pointer (some ⟨b, 0, none⟩), .int .i64 i] w fun e w' => e = .returned (.tuple #[.int .i64 l, .int .i64 0]) /\ w = w' := by
 have x1 := h.tab
 have hn := h.nn
 have hkl := h.kl
 have cK1 := Vg.rowP_cell h.lk hK
 obtain ⟨lb, lK, lE⟩ := h.lt
 have hiI : (i : Int) < n := by omega
 have hiI0 : (0 : Int) <= i := by omega
 have hnn : n <= n := Nat.le_refl _
 obtain ⟨c_x1, f_x1, p_x1, l_x1, H_x1⟩ := Vg.lay x1; clear x1
 have H_h := h_ h; have H_hK := h_ hK; clear h hK
 go_enter Tryz.func211, Tryz.ntmps211
 go_wp2
 go_returns
 exact ⟨rfl, rfl⟩
theorem pl_first (l : Nat) (h : PO w b g1 g2 n m s) (hl : l < m) {f : Int} (hE : s.E[l * 2]? = some f) :
  Calls Tryz.prog 180 #[.pointer (some ⟨b, 0, none⟩), .int .i64 l] w fun e w' => e = .returned (.tuple #[.int .i64 (if f = -1 then 0 else f), .bool (!decide (f = -1))]) /\ w = w' := by
 have x1 := h.tab
 have hm := h.mm
 have cE1 := Vg.rowP_cell h.ls hE
 obtain ⟨lb, lK, lE⟩ := h.lt
 have hlI : (l : Int) < m := by omega
 have hlI0 : (0 : Int) <= l := by omega
 have hmm2 : m <= m := Nat.le_refl _
 have hhas : decide (0 <= (l : Int) /\ (l : Int) < (m : Int)) = true := decide_eq_true (by omega)
 obtain ⟨c_x1, f_x1, p_x1, l_x1, H_x1⟩ := Vg.lay x1; clear x1
 have H_h := h_ h; have H_hE := h_ hE; have H_hhas := h_ hhas; clear h hE hhas
 by_cases h1 : f = -1
 ·subst h1
  go_enter Tryz.func180, Tryz.ntmps180
  go_wp2_with ((go_at_call 198; refine (pl_has l H_h.out H_hhas.out).mono ?_; rintro e w1 ⟨rfl, rfl⟩))
  go_returns
  exact ⟨by simp, rfl⟩
 ·rw [if_neg h1, decide_eq_false h1]
  go_enter Tryz.func180, Tryz.ntmps180
  go_wp2_with ((go_at_call 198; refine (pl_has l H_h.out H_hhas.out).mono ?_; rintro e w1 ⟨rfl, rfl⟩))
  go_returns
  exact ⟨by simp, rfl⟩
theorem pl_next (i : Nat) (h : PO w b g1 g2 n m s) (hi : i < n) {l z : Int} (hK : s.K[i * 3]? = some l) (hl : ¬ l = -1) (hK3 : s.K[i * 3 + 2]? = some z) :
  Calls Tryz.prog 222 #[.pointer (some ⟨b, 0, none⟩), .int .i64 i] w fun e w' => e = .returned (.tuple #[.int .i64 (if z = -1 then 0 else z), .bool (!decide (z = -1))]) /\ w = w' := by
 have x1 := h.tab
 have hn := h.nn
 have cK3 := Vg.rowP_cell h.lk hK3
 obtain ⟨lb, lK, lE⟩ := h.lt
 have hiI : (i : Int) < n := by omega
 have hiI0 : (0 : Int) <= i := by omega
 have hnn : n <= n := Nat.le_refl _
 obtain ⟨c_x1, f_x1, p_x1, l_x1, H_x1⟩ := Vg.lay x1; clear x1
 have H_h := h_ h; have H_hK := h_ hK; have H_hl := h_ hl; clear h hK hl
 by_cases h1 : z = -1
 ·subst h1
  go_enter Tryz.func222, Tryz.ntmps222
  go_wp2_with ((go_at_call 211; refine (pl_where i H_h.out hi H_hK.out H_hl.out).mono ?_; rintro e w1 ⟨rfl, rfl⟩))
  go_returns
  exact ⟨by simp, rfl⟩
 ·rw [if_neg h1, decide_eq_false h1]
  go_enter Tryz.func222, Tryz.ntmps222
  go_wp2_with ((go_at_call 211; refine (pl_where i H_h.out hi H_hK.out H_hl.out).mono ?_; rintro e w1 ⟨rfl, rfl⟩))
  go_returns
  exact ⟨by simp, rfl⟩
theorem PO.touch' {w2 : World} {s' : Vg.Pl} (h1 : POn w0 w b g1 g2 n m s) (h2 : POn w w2 b g1 g2 n m s') : POn w0 w2 b g1 g2 n m s' := ⟨h2.1, h1.2.trans h2.2⟩
theorem pl_take_no (l : Nat) (h : PO w b g1 g2 n m s) (hl : l < m) (ht : s.top = -1) :
  Calls Tryz.prog 151 #[.pointer (some ⟨b, 0, none⟩), .int .i64 l] w fun e w' => e = .returned (.tuple #[.int .i64 0, .int .i64 5]) /\ w = w' := by
 have x1 := h.tab
 rw [ht] at x1
 have hhas : decide (0 <= (l : Int) /\ (l : Int) < (m : Int)) = true := decide_eq_true (by omega)
 obtain ⟨c_x1, f_x1, p_x1, l_x1, H_x1⟩ := Vg.lay x1; clear x1
 have H_h := h_ h; have H_hhas := h_ hhas; clear h hhas
 go_enter Tryz.func151, Tryz.ntmps151
 go_wp2_with ((go_at_call 198; refine (pl_has l H_h.out H_hhas.out).mono ?_; rintro e w1 ⟨rfl, rfl⟩))
 go_returns
 exact ⟨rfl, rfl⟩
theorem pl_take (l i : Nat) (h : PO w b g1 g2 n m s) (hl : l < m) (ht : s.top = i) (hi : i < n) {z : Int} (hK3 : s.K[i * 3 + 2]? = some z) (hfr : 0 <= s.free /\ s.free <= 1000000) {last : Int} (hla : s.E[l * 2 + 1]? = some last) (hlr : last = -1 \/ (0 <= last /\ last < n)) :
  Calls Tryz.prog 151 #[.pointer (some ⟨b, 0, none⟩), .int .i64 l] w fun e w' => e = .returned (.tuple #[.int .i64 i, .int .i64 0]) /\ POn w w' b g1 g2 n m (({ s with top := z, free := s.free - 1 } : Vg.Pl).put i l last) := by
 have x1 := h.tab
 have hn := h.nn
 have hm := h.mm
 have hkl := h.kl
 rw [ht] at x1
 obtain ⟨fr, hfre⟩ : ∃ fr, s.free = fr := ⟨_, rfl⟩
 rw [hfre] at x1 hfr
 have cK3 := Vg.rowP_cell h.lk hK3
 obtain ⟨fb, fK, fE⟩ := h.froz
 obtain ⟨lb, lK, lE⟩ := h.lt
 have hiI : (i : Int) < n := by omega
 have hiI0 : (0 : Int) <= i := by omega
 have hi1 : ¬ (i : Int) = -1 := by omega
 have hnn : n <= n := Nat.le_refl _
 have hw1 : IntKind.i64.wrap (fr - 1) = fr - 1 := by rw [IntKind.wrap_i64]; omega
 have hhas : decide (0 <= (l : Int) /\ (l : Int) < (m : Int)) = true := decide_eq_true (by omega)
 obtain ⟨c_x1, f_x1, p_x1, l_x1, H_x1⟩ := Vg.lay x1; clear x1
 have H_h := h_ h; have H_hhas := h_ hhas; have H_hla := h_ hla; have H_hfre := h_ hfre; clear h hhas hla hfre
 go_enter Tryz.func151, Tryz.ntmps151
 go_upto_region 8 with ((go_at_call 198; refine (pl_has l H_h.out H_hhas.out).mono ?_; rintro e w1 ⟨rfl, rfl⟩))
 have hp1 := (POn.refl H_h.out).setTF z (fr - 1)
 obtain ⟨w1, hw1⟩ : ∃ w1, Vg.put w b (poolC g1 g2 n m z (fr - 1)) = w1 := ⟨_, rfl⟩
 rw [hw1] at hp1 ⊢
 clear hw1 c_x1 f_x1 p_x1 l_x1 H_x1 cK3 fb fK fE lb lK lE
 have hla2 : (({ s with top := z, free := fr - 1 } : Vg.Pl)).E[l * 2 + 1]? = some last := H_hla.out
 have H_hp1 := h_ hp1; have H_hla2 := h_ hla2; clear hp1 hla2
 go_wp2_with ((go_at_call 199; refine (pl_put i l H_hp1.out.1 hi hl H_hla2.out hlr).mono ?_; rintro e w2 ⟨rfl, hp2⟩; have H_hp2 := h_ hp2; clear hp2))
 go_returns
 rw [H_hfre.out]
 exact ⟨rfl, PO.touch' H_hp1.out H_hp2.out⟩
theorem pl_give (i l : Nat) (h : PO w b g1 g2 n m s) (hi : i < n) (hl : l < m) {a z : Int} (hK1 : s.K[i * 3]? = some (l : Int)) (hK2 : s.K[i * 3 + 1]? = some a) (hK3 : s.K[i * 3 + 2]? = some z) (ha : a = -1 \/ (0 <= a /\ a < n)) (hz : z = -1 \/ (0 <= z /\ z < n)) (hfr : 0 <= s.free /\ s.free <= 1000000) :
  Calls Tryz.prog 226 #[.pointer (some ⟨b, 0, none⟩), .int .i64 i] w fun e w' => e = .returned (.int .i64 0) /\ POn w w' b g1 g2 n m ((s.out l a z).pile i) := by
 have hn := h.nn
 have hlm : ¬ (l : Int) = -1 := by omega
 obtain ⟨tp, htp⟩ : ∃ tp, (s.out l a z).top = tp := ⟨_, rfl⟩
 obtain ⟨fr, hfre⟩ : ∃ fr, (s.out l a z).free = fr := ⟨_, rfl⟩
 have hfr2 : 0 <= fr /\ fr <= 1000000 := by
  rw [<- hfre]
  unfold Vg.Pl.out Vg.Pl.out1 Vg.Pl.out2
  split <;> split <;> exact hfr
 have hiI : (i : Int) < n := by omega
 have hiI0 : (0 : Int) <= i := by omega
 have hnn : n <= n := Nat.le_refl _
 have hw1 : IntKind.i64.wrap (fr + 1) = fr + 1 := by rw [IntKind.wrap_i64]; omega
 have H_h := h_ h; have H_hK1 := h_ hK1; have H_hK2 := h_ hK2; have H_hK3 := h_ hK3; have H_htp := h_ htp; have H_hfre := h_ hfre; have H_hlm := h_ hlm; clear h hK1 hK2 hK3 htp hfre hlm
 go_enter Tryz.func226, Tryz.ntmps226
 go_upto_region 5 with (first | (go_at_call 211; refine (pl_where i H_h.out hi H_hK1.out H_hlm.out).mono ?_; rintro e w1 ⟨rfl, rfl⟩) | (go_at_call 212; refine (pl_out i l H_h.out hi hl H_hK1.out H_hK2.out H_hK3.out ha hz).mono ?_; rintro e w1 ⟨rfl, hp1⟩; have H_hp1 := h_ hp1; clear hp1))
 have y0 := H_hp1.out.1.tab
 rw [H_htp.out, H_hfre.out] at y0
 obtain ⟨k1, k2, k3, cK1, cK2, cK3⟩ := H_hp1.out.1.linkc hi
 obtain ⟨fb, fK, fE⟩ := H_hp1.out.1.froz
 obtain ⟨lb, lK, lE⟩ := H_hp1.out.1.lt
 obtain ⟨c_y0, f_y0, p_y0, l_y0, H_y0⟩ := Vg.lay y0; clear y0
 go_still_tail 11, (by kernel_rfl)
 obtain ⟨w2, hw2⟩ : ∃ w2, w1.drew = w2 := ⟨_, rfl⟩
 have hp2 := H_hp1.out.grows (w' := w2) (by rw [<- hw2]; exact (Vg.Grows.refl w1).drew)
 change wpList _ _ _ _ _ w1.drew
 rw [hw2]
 clear c_y0 f_y0 p_y0 l_y0 H_y0 cK1 cK2 cK3 fb fK fE lb lK lE hw2
 have y2 := hp2.1.tab
 rw [H_htp.out, H_hfre.out] at y2
 obtain ⟨k1, k2, k3, cK1, cK2, cK3⟩ := hp2.1.linkc hi
 obtain ⟨fb, fK, fE⟩ := hp2.1.froz
 obtain ⟨lb, lK, lE⟩ := hp2.1.lt
 have nbg := hp2.1.n1
 obtain ⟨c_y2, f_y2, p_y2, l_y2, H_y2⟩ := Vg.lay y2; clear y2
 have H_hp2 := h_ hp2; clear hp2
 go_upto_region 6 with fail
 have hp3 := ((H_hp2.out.setK (i * 3) (-1)).setK (i * 3 + 1) (-1)).setK (i * 3 + 2) tp
 obtain ⟨w3, hw3⟩ : ∃ w3, (((w2.setCell ⟨g1, i * 3, none⟩ (.int .i64 (-1))).setCell ⟨g1, i * 3 + 1, none⟩ (.int .i64 (-1))).setCell ⟨g1, i * 3 + 2, none⟩ (.int .i64 tp)) = w3 := ⟨_, rfl⟩
 rw [hw3] at hp3 ⊢
 clear hw3 c_y2 f_y2 p_y2 l_y2 H_y2 cK1 cK2 cK3 fb fK fE lb lK lE
 have y3 := hp3.1.tab
 have y3 : Vg.blk w3 b = some (poolC g1 g2 n m tp fr) := by rw [y3]; show some (poolC g1 g2 n m (s.out l a z).top (s.out l a z).free) = _; rw [H_htp.out, H_hfre.out]
 obtain ⟨c_y3, f_y3, p_y3, l_y3, H_y3⟩ := Vg.lay y3; clear y3
 have H_hp3 := h_ hp3; clear hp3
 go_wp2_with fail
 go_returns
 have h9 := H_hp3.out.setTF i (fr + 1)
 have hf : (s.out l a z).pile i = { s.out l a z with K := (((s.out l a z).K.set (i * 3) (-1)).set (i * 3 + 1) (-1)).set (i * 3 + 2) tp, top := i, free := fr + 1 } := by
  unfold Vg.Pl.pile; rw [H_htp.out, H_hfre.out]
 rw [hf]
 exact ⟨rfl, h9⟩
theorem pl_move (i l l2 : Nat) (h : PO w b g1 g2 n m s) (hi : i < n) (hl : l < m) (hl2 : l2 < m) {a z : Int} (hK1 : s.K[i * 3]? = some (l : Int)) (hK2 : s.K[i * 3 + 1]? = some a) (hK3 : s.K[i * 3 + 2]? = some z) (ha : a = -1 \/ (0 <= a /\ a < n)) (hz : z = -1 \/ (0 <= z /\ z < n))
  {last : Int} (hla : (s.out l a z).E[l2 * 2 + 1]? = some last) (hlr : last = -1 \/ (0 <= last /\ last < n)) :
  Calls Tryz.prog 183 #[.pointer (some ⟨b, 0, none⟩), .int .i64 i, .int .i64 l2] w fun e w' => e = .returned (.int .i64 0) /\ POn w w' b g1 g2 n m ((s.out l a z).put i l2 last) := by
 have hlm : ¬ (l : Int) = -1 := by omega
 have hhas : decide (0 <= (l2 : Int) /\ (l2 : Int) < (m : Int)) = true := decide_eq_true (by omega)
 have H_h := h_ h; have H_hK1 := h_ hK1; have H_hK2 := h_ hK2; have H_hK3 := h_ hK3; have H_hlm := h_ hlm; have H_hhas := h_ hhas; have H_hla := h_ hla; clear h hK1 hK2 hK3 hlm hhas hla
 go_enter Tryz.func183, Tryz.ntmps183
 go_wp2_with (first | (go_at_call 211; refine (pl_where i H_h.out hi H_hK1.out H_hlm.out).mono ?_; rintro e w1 ⟨rfl, rfl⟩) | (go_at_call 198; refine (pl_has l2 H_h.out H_hhas.out).mono ?_; rintro e w1 ⟨rfl, rfl⟩) | (go_at_call 212; refine (pl_out i l H_h.out hi hl H_hK1.out H_hK2.out H_hK3.out ha hz).mono ?_; rintro e w1 ⟨rfl, hp1⟩; have H_hp1 := h_ hp1; clear hp1) | (go_at_call 199; refine (pl_put i l2 H_hp1.out.1 hi hl2 H_hla.out hlr).mono ?_; rintro e w2 ⟨rfl, hp2⟩; have H_hp2 := h_ hp2; clear hp2))
 go_returns
 exact ⟨rfl, PO.touch' H_hp1.out H_hp2.out⟩
end
end Go.Proofs.YtlkdkgefjipjmaaGreatDoor
namespace Vg
open Go
def hdT : List Nat -> Int -> Int
 | [], t => t
 | i :: _, _ => i
def lstT : List Nat -> Int -> Int
 | [], p => p
 | i :: r, _ => lstT r i
theorem lstT_snoc : ∀ (A : List Nat) (i : Nat) (p : Int), lstT (A ++ [i]) p = i
 | [], i, p => rfl
 | j :: A, i, p => lstT_snoc A i j
theorem lstT_append : ∀ (A B : List Nat) (p : Int), lstT (A ++ B) p = lstT B (lstT A p)
 | [], B, p => rfl
 | j :: A, B, p => lstT_append A B j
theorem hdT_append (A B : List Nat) (t : Int) : hdT (A ++ B) t = hdT A (hdT B t) := by cases A <;> rfl
theorem lstT_mem : ∀ (A : List Nat) (p : Int), lstT A p = p \/ ∃ i ∈ A, lstT A p = (i : Int)
 | [], p => .inl rfl
 | j :: A, p => by
  rcases lstT_mem A j with h | ⟨i, hi, h⟩
  ·exact .inr ⟨j, by simp, h⟩
  ·exact .inr ⟨i, by simp [hi], h⟩
theorem hdT_mem (A : List Nat) (t : Int) : hdT A t = t \/ ∃ i ∈ A, hdT A t = (i : Int) := by
 cases A with
 | nil => exact .inl rfl
 | cons j A => exact .inr ⟨j, by simp, rfl⟩
def chn (K : List Int) (l : Nat) : Int -> List Nat -> Int -> Prop
 | _, [], _ => True
 | p, i :: r, t => K[i * 3]? = some (l : Int) /\ K[i * 3 + 1]? = some p /\ K[i * 3 + 2]? = some (hdT r t) /\ chn K l i r t
theorem chn_append (K : List Int) (l : Nat) : ∀ (A B : List Nat) (p t : Int), chn K l p (A ++ B) t ↔ chn K l p A (hdT B t) /\ chn K l (lstT A p) B t
 | [], B, p, t => by simp [chn, lstT]
 | i :: A, B, p, t => by
  simp only [List.cons_append, chn, lstT, chn_append K l A B i t, hdT_append]
  constructor
  ·rintro ⟨a, b, c, d, e⟩; exact ⟨⟨a, b, c, d⟩, e⟩
  ·rintro ⟨⟨a, b, c, d⟩, e⟩; exact ⟨a, b, c, d, e⟩
theorem chn_congr {K K' : List Int} {l : Nat} : ∀ {A : List Nat} {p t : Int}, (∀ i ∈ A, ∀ c, c < 3 -> K'[i * 3 + c]? = K[i * 3 + c]?) -> chn K l p A t -> chn K' l p A t
 | [], _, _, _, _ => trivial
 | i :: A, p, t, h, hc => by
  obtain ⟨h1, h2, h3, h4⟩ := hc
  have h0 := h i (by simp)
  exact ⟨(h0 0 (by omega)).trans h1, (h0 1 (by omega)).trans h2, (h0 2 (by omega)).trans h3, chn_congr (fun j hj => h j (by simp [hj])) h4⟩
theorem set3 {K : List Int} {j i c d : Nat} {v : Int} (hji : j ≠ i) (hc : c < 3) (hd : d < 3) : (K.set (j * 3 + c) v)[i * 3 + d]? = K[i * 3 + d]? := by
 rw [List.getElem?_set]
 rw [if_neg (by omega)]
theorem set30 {K : List Int} {j i d : Nat} {v : Int} (hji : j ≠ i) (hd : d < 3) : (K.set (j * 3) v)[i * 3 + d]? = K[i * 3 + d]? := by
 rw [List.getElem?_set]
 rw [if_neg (by omega)]
theorem chn_set {K : List Int} {l j c : Nat} {v : Int} {A : List Nat} {p t : Int} (hj : j ∉ A) (hc : c < 3) (h : chn K l p A t) : chn (K.set (j * 3 + c) v) l p A t :=
 chn_congr (fun i hi d hd => set3 (fun e => hj (by rw [e]; exact hi)) hc hd) h
theorem chn_next {K : List Int} {l z : Nat} {t' : Int} : ∀ {A : List Nat} {p t : Int}, A.Nodup -> (A ≠ [] -> lstT A p = (z : Int)) -> (∀ i ∈ A, i * 3 + 2 < K.length) -> chn K l p A t -> chn (K.set (z * 3 + 2) t') l p A t'
 | [], _, _, _, _, _, _ => trivial
 | [i], p, t, _, hz, hl, hc => by
  have hz : z = i := by have := hz (by simp); simp [lstT] at this; omega
  subst hz
  obtain ⟨h1, h2, h3, h4⟩ := hc
  refine ⟨?_, ?_, ?_, trivial⟩
  ·rw [List.getElem?_set, if_neg (by omega)]; exact h1
  ·rw [List.getElem?_set, if_neg (by omega)]; exact h2
  ·rw [List.getElem?_set, if_pos rfl, if_pos (hl z (by simp))]; rfl
 | i :: j :: A, p, t, hn, hz, hl, hc => by
  have hz' : lstT (j :: A) i = (z : Int) := hz (by simp)
  obtain ⟨h1, h2, h3, h4⟩ := hc
  have hni : i ∉ j :: A := (List.nodup_cons.1 hn).1
  have hzi : z ≠ i := by
   intro e
   rcases lstT_mem A j with h | ⟨x, hx, h⟩
   ·have : (z : Int) = j := by rw [<- hz']; exact h
    exact hni (by rw [<- e]; simp; left; omega)
   ·have : (z : Int) = x := by rw [<- hz']; exact h
    exact hni (by
           rw [<- e]; have : z = x := by omega
           rw [this]; simp [hx])
  refine ⟨(set3 (d := 0) hzi (by omega) (by omega)).trans h1, (set3 (d := 1) hzi (by omega) (by omega)).trans h2, (set3 (d := 2) hzi (by omega) (by omega)).trans h3, ?_⟩
  exact chn_next (List.nodup_cons.1 hn).2 (fun _ => hz') (fun x hx => hl x (by simp [hx])) h4
theorem chn_prev {K : List Int} {l : Nat} {p' : Int} : ∀ {B : List Nat} {p t : Int} {z : Nat}, B.Nodup -> (B ≠ [] -> hdT B t = (z : Int)) -> (∀ i ∈ B, i * 3 + 1 < K.length) -> chn K l p B t -> chn (K.set (z * 3 + 1) p') l p' B t
 | [], _, _, _, _, _, _, _ => trivial
 | i :: B, p, t, z, hn, hz, hl, hc => by
  have hz : z = i := by have := hz (by simp); simp [hdT] at this; omega
  subst hz
  obtain ⟨h1, h2, h3, h4⟩ := hc
  refine ⟨?_, ?_, ?_, chn_set (List.nodup_cons.1 hn).1 (by omega) h4⟩
  ·rw [List.getElem?_set, if_neg (by omega)]; exact h1
  ·rw [List.getElem?_set, if_pos rfl, if_pos (hl z (by simp))]
  ·rw [List.getElem?_set, if_neg (by omega)]; exact h3
def pch (K : List Int) : List Nat -> Prop
 | [] => True
 | i :: r => K[i * 3]? = some (-1) /\ K[i * 3 + 2]? = some (hdT r (-1)) /\ pch K r
theorem pch_congr {K K' : List Int} : ∀ {A : List Nat}, (∀ i ∈ A, ∀ c, c < 3 -> K'[i * 3 + c]? = K[i * 3 + c]?) -> pch K A -> pch K' A
 | [], _, _ => trivial
 | i :: A, h, hc => by
  obtain ⟨h1, h3, h4⟩ := hc
  have h0 := h i (by simp)
  exact ⟨(h0 0 (by omega)).trans h1, (h0 2 (by omega)).trans h3, pch_congr (fun j hj => h j (by simp [hj])) h4⟩
theorem pch_set {K : List Int} {j c : Nat} {v : Int} {A : List Nat} (hj : j ∉ A) (hc : c < 3) (h : pch K A) : pch (K.set (j * 3 + c) v) A :=
 pch_congr (fun i hi d hd => set3 (fun e => hj (by rw [e]; exact hi)) hc hd) h
def upd (L : Nat -> List Nat) (l : Nat) (A : List Nat) : Nat -> List Nat := fun k => if k = l then A else L k
theorem upd_same (L : Nat -> List Nat) (l : Nat) (A : List Nat) : upd L l A l = A := if_pos rfl
theorem upd_other {L : Nat -> List Nat} {l k : Nat} {A : List Nat} (h : k ≠ l) : upd L l A k = L k := if_neg h
structure PI (n m : Nat) (s : Pl) (L : Nat -> List Nat) (F : List Nat) : Prop where
 kl : s.K.length = n * 3
 el : s.E.length = m * 2
 ends : ∀ l, l < m -> s.E[l * 2]? = some (hdT (L l) (-1)) /\ s.E[l * 2 + 1]? = some (lstT (L l) (-1))
 ch : ∀ l, l < m -> chn s.K l (-1) (L l) (-1)
 rng : ∀ l, l < m -> ∀ i ∈ L l, i < n
 nd : ∀ l, l < m -> (L l).Nodup
 dj : ∀ l, l < m -> ∀ k, k < m -> l ≠ k -> ∀ i ∈ L l, i ∉ L k
 pt : s.top = hdT F (-1)
 pc : pch s.K F
 fr : ∀ i ∈ F, i < n
 fn : F.Nodup
 fd : ∀ l, l < m -> ∀ i ∈ L l, i ∉ F
 ff : s.free = F.length
section
variable {n m : Nat} {s : Pl} {L : Nat -> List Nat} {F : List Nat}
theorem PI.lst_rng (h : PI n m s L F) {l : Nat} (hl : l < m) : lstT (L l) (-1) = -1 \/ (0 <= lstT (L l) (-1) /\ lstT (L l) (-1) < n) := by
 rcases lstT_mem (L l) (-1) with h1 | ⟨i, hi, h1⟩
 ·exact .inl h1
 ·have := h.rng l hl i hi
  exact .inr (by omega)
theorem PI.put (h : PI n m s L F) {i l : Nat} (hi : i < n) (hl : l < m) (hL : ∀ k, k < m -> i ∉ L k) (hF : i ∉ F) : PI n m (s.put i l (lstT (L l) (-1))) (upd L l (L l ++ [i])) F := by
 have hkl := h.kl
 have hel := h.el
 -- the links
 obtain ⟨K1, hK1⟩ : ∃ K1, ((s.K.set (i * 3) (l : Int)).set (i * 3 + 1) (lstT (L l) (-1))).set (i * 3 + 2) (-1) = K1 := ⟨_, rfl⟩
 have hK1l : K1.length = n * 3 := by rw [<- hK1]; simp [hkl]
 have k0 : K1[i * 3]? = some (l : Int) := by
  rw [<- hK1, List.getElem?_set, if_neg (by omega), List.getElem?_set, if_neg (by omega), List.getElem?_set, if_pos rfl, if_pos (by omega)]
 have k1 : K1[i * 3 + 1]? = some (lstT (L l) (-1)) := by
  rw [<- hK1, List.getElem?_set, if_neg (by omega), List.getElem?_set, if_pos rfl, if_pos (by simp [hkl]; omega)]
 have k2 : K1[i * 3 + 2]? = some (-1) := by
  rw [<- hK1, List.getElem?_set, if_pos rfl, if_pos (by simp [hkl]; omega)]
 have kc : ∀ j, j ≠ i -> ∀ c, c < 3 -> K1[j * 3 + c]? = s.K[j * 3 + c]? := fun j hj c hc => by
  rw [<- hK1, set3 hj.symm (by omega) hc, set3 hj.symm (by omega) hc, set30 hj.symm hc]
 have hch1 : ∀ k, k < m -> chn K1 k (-1) (L k) (-1) := fun k hk => chn_congr (fun j hj c hc => kc j (fun e => hL k hk (by rw [<- e]; exact hj)) c hc) (h.ch k hk)
 have hpc1 : pch K1 F := pch_congr (fun j hj c hc => kc j (fun e => hF (by rw [<- e]; exact hj)) c hc) h.pc
 -- the arrays
 obtain ⟨s', hs'⟩ : ∃ s', s.put i l (lstT (L l) (-1)) = s' := ⟨_, rfl⟩
 have key : s'.K.length = n * 3 /\ s'.E.length = m * 2 /\ s'.top = s.top /\ s'.free = s.free /\ chn s'.K l (-1) (L l ++ [i]) (-1) /\ (∀ k, k < m -> k ≠ l -> chn s'.K k (-1) (L k) (-1)) /\ pch s'.K F /\ s'.E[l * 2]? = some (hdT (L l ++ [i]) (-1)) /\ s'.E[l * 2 + 1]? = some (i : Int) /\ ∀ k, k < m -> k ≠ l -> s'.E[k * 2]? = s.E[k * 2]? /\ s'.E[k * 2 + 1]? = s.E[k * 2 + 1]? := by
  unfold Pl.put at hs'
  rw [hK1] at hs'
  cases hA : L l with
  | nil =>
   have e : lstT (L l) (-1) = -1 := by rw [hA]; rfl
   rw [e] at hs' k1
   simp only [if_pos] at hs'
   subst hs'
   refine ⟨hK1l, by simp [hel], rfl, rfl, ⟨k0, k1, k2, trivial⟩, fun k hk _ => hch1 k hk, hpc1, ?_, ?_, fun k hk hkl2 => ⟨?_, ?_⟩⟩
   ·show ((s.E.set (l * 2) (i : Int)).set (l * 2 + 1) (i : Int))[l * 2]? = _
    rw [List.getElem?_set, if_neg (by omega), List.getElem?_set, if_pos rfl, if_pos (by omega)]; rfl
   ·show ((s.E.set (l * 2) (i : Int)).set (l * 2 + 1) (i : Int))[l * 2 + 1]? = _
    rw [List.getElem?_set, if_pos rfl, if_pos (by simp [hel]; omega)]
   ·show ((s.E.set (l * 2) (i : Int)).set (l * 2 + 1) (i : Int))[k * 2]? = _
    rw [List.getElem?_set, if_neg (by omega), List.getElem?_set, if_neg (by omega)]
   ·show ((s.E.set (l * 2) (i : Int)).set (l * 2 + 1) (i : Int))[k * 2 + 1]? = _
    rw [List.getElem?_set, if_neg (by omega), List.getElem?_set, if_neg (by omega)]
  | cons a A =>
   rw [<- hA]
   have hne : L l ≠ [] := by rw [hA]; simp
   obtain ⟨z, hz, hzl⟩ : ∃ z ∈ L l, lstT (L l) (-1) = (z : Int) := by
    rcases lstT_mem A a with h1 | ⟨z, hz, h1⟩
    ·exact ⟨a, by rw [hA]; simp, by rw [hA]; exact h1⟩
    ·exact ⟨z, by rw [hA]; simp [hz], by rw [hA]; exact h1⟩
   have hzn := h.rng l hl z hz
   have hzi : z ≠ i := fun e => hL l hl (by rw [<- e]; exact hz)
   rw [hzl] at hs' k1
   rw [if_neg (by omega)] at hs'
   simp only [Int.toNat_natCast] at hs'
   subst hs'
   have hdA : hdT (L l ++ [i]) (-1) = hdT (L l) (-1) := by rw [hA]; rfl
   refine ⟨by show (K1.set _ _).length = _; simp [hK1l], by simp [hel], rfl, rfl, ?_, fun k hk hkl2 => chn_set (fun hh => h.dj l hl k hk (fun e => hkl2 e.symm) z hz hh) (by omega) (hch1 k hk), pch_set (h.fd l hl z hz) (by omega) hpc1, ?_, ?_, fun k hk hkl2 => ⟨?_, ?_⟩⟩
   ·rw [chn_append]
    refine ⟨chn_next (h.nd l hl) (fun _ => hzl) (fun j hj => by have := h.rng l hl j hj; omega) (hch1 l hl), ?_⟩
    rw [hzl]
    exact ⟨(set3 (d := 0) hzi (by omega) (by omega)).trans k0, (set3 (d := 1) hzi (by omega) (by omega)).trans k1, (set3 (d := 2) hzi (by omega) (by omega)).trans k2, trivial⟩
   ·show (s.E.set (l * 2 + 1) (i : Int))[l * 2]? = _
    rw [List.getElem?_set, if_neg (by omega), hdA]; exact (h.ends l hl).1
   ·show (s.E.set (l * 2 + 1) (i : Int))[l * 2 + 1]? = _
    rw [List.getElem?_set, if_pos rfl, if_pos (by omega)]
   ·show (s.E.set (l * 2 + 1) (i : Int))[k * 2]? = _
    rw [List.getElem?_set, if_neg (by omega)]
   ·show (s.E.set (l * 2 + 1) (i : Int))[k * 2 + 1]? = _
    rw [List.getElem?_set, if_neg (by omega)]
 rw [hs']
 obtain ⟨q1, q2, q3, q4, q5, q6, q7, q8, q9, q10⟩ := key
 refine ⟨q1, q2, fun k hk => ?_, fun k hk => ?_, fun k hk j hj => ?_, fun k hk => ?_, fun k hk k2' hk2 hne j hj hj2 => ?_, by rw [q3]; exact h.pt, q7, h.fr, h.fn, fun k hk j hj => ?_, by rw [q4]; exact h.ff⟩
 ·by_cases hkl2 : k = l
  ·subst hkl2; rw [upd_same, lstT_snoc]; exact ⟨q8, q9⟩
  ·rw [upd_other hkl2, (q10 k hk hkl2).1, (q10 k hk hkl2).2]; exact h.ends k hk
 ·by_cases hkl2 : k = l
  ·subst hkl2; rw [upd_same]; exact q5
  ·rw [upd_other hkl2]; exact q6 k hk hkl2
 ·by_cases hkl2 : k = l
  ·subst hkl2
   rw [upd_same] at hj
   rcases List.mem_append.1 hj with h9 | h9
   ·exact h.rng k hk j h9
   ·simp at h9; omega
  ·rw [upd_other hkl2] at hj; exact h.rng k hk j hj
 ·by_cases hkl2 : k = l
  ·subst hkl2
   rw [upd_same, List.nodup_append]
   refine ⟨h.nd k hk, by simp, fun a ha b hb => ?_⟩
   simp at hb
   rw [hb]
   exact fun e => hL k hk (by rw [<- e]; exact ha)
  ·rw [upd_other hkl2]; exact h.nd k hk
 ·by_cases h1 : k = l
  ·subst h1
   rw [upd_same] at hj
   rw [upd_other (fun e => hne e.symm)] at hj2
   rcases List.mem_append.1 hj with h9 | h9
   ·exact h.dj k hk k2' hk2 hne j h9 hj2
   ·simp at h9; rw [h9] at hj2; exact hL k2' hk2 hj2
  ·rw [upd_other h1] at hj
   by_cases h2 : k2' = l
   ·subst h2
    rw [upd_same] at hj2
    rcases List.mem_append.1 hj2 with h9 | h9
    ·exact h.dj k hk k2' hk2 hne j hj h9
    ·simp at h9; rw [h9] at hj; exact hL k hk hj
   ·rw [upd_other h2] at hj2
    exact h.dj k hk k2' hk2 hne j hj hj2
 ·by_cases hkl2 : k = l
  ·subst hkl2
   rw [upd_same] at hj
   rcases List.mem_append.1 hj with h9 | h9
   ·exact h.fd k hk j h9
   ·simp at h9; rw [h9]; exact hF
  ·rw [upd_other hkl2] at hj; exact h.fd k hk j hj
theorem PI.unpile {f : Nat} (h : PI n m s L (f :: F)) : f < n /\ s.top = (f : Int) /\ s.K[f * 3 + 2]? = some (hdT F (-1)) /\ (∀ k, k < m -> f ∉ L k) /\ f ∉ F /\ PI n m { s with top := hdT F (-1), free := s.free - 1 } L F := by
 obtain ⟨h1, h2, h3⟩ := h.pc
 have hn := List.nodup_cons.1 h.fn
 refine ⟨h.fr f (by simp), h.pt, h2, fun k hk hh => h.fd k hk f hh (by simp), hn.1, ⟨h.kl, h.el, h.ends, h.ch, h.rng, h.nd, h.dj, rfl, h3, fun i hi => h.fr i (by simp [hi]), hn.2, fun k hk i hi hh => h.fd k hk i hi (by simp [hh]), ?_⟩⟩
 show s.free - 1 = _
 rw [h.ff]; simp
theorem PI.pile (h : PI n m s L F) {i : Nat} (hi : i < n) (hL : ∀ k, k < m -> i ∉ L k) (hF : i ∉ F) : PI n m (s.pile i) L (i :: F) := by
 have hkl := h.kl
 have kc : ∀ j, j ≠ i -> ∀ c, c < 3 -> (((s.K.set (i * 3) (-1)).set (i * 3 + 1) (-1)).set (i * 3 + 2) s.top)[j * 3 + c]? = s.K[j * 3 + c]? := fun j hj c hc => by
  rw [set3 hj.symm (by omega) hc, set3 hj.symm (by omega) hc, set30 hj.symm hc]
 unfold Pl.pile
 refine ⟨by simp [hkl], h.el, h.ends, fun k hk => chn_congr (fun j hj c hc => kc j (fun e => hL k hk (by rw [<- e]; exact hj)) c hc) (h.ch k hk), h.rng, h.nd, h.dj, rfl, ⟨?_, ?_, pch_congr (fun j hj c hc => kc j (fun e => hF (by rw [<- e]; exact hj)) c hc) h.pc⟩, fun j hj => ?_, List.nodup_cons.2 ⟨hF, h.fn⟩, fun k hk j hj hh => ?_, ?_⟩
 ·show (((s.K.set (i * 3) (-1)).set (i * 3 + 1) (-1)).set (i * 3 + 2) s.top)[i * 3]? = _
  rw [List.getElem?_set, if_neg (by omega), List.getElem?_set, if_neg (by omega), List.getElem?_set, if_pos rfl, if_pos (by omega)]
 ·show (((s.K.set (i * 3) (-1)).set (i * 3 + 1) (-1)).set (i * 3 + 2) s.top)[i * 3 + 2]? = _
  rw [List.getElem?_set, if_pos rfl, if_pos (by simp [hkl]; omega), h.pt]
 ·rcases List.mem_cons.1 hj with rfl | h9
  ·exact hi
  ·exact h.fr j h9
 ·rcases List.mem_cons.1 hh with rfl | h9
  ·exact hL k hk hj
  ·exact h.fd k hk j hj h9
 ·show s.free + 1 = _
  rw [h.ff]; simp
theorem PI.out (h : PI n m s L F) {i l : Nat} {A B : List Nat} (hl : l < m) (hLl : L l = A ++ i :: B) : i < n /\ s.K[i * 3]? = some (l : Int) /\ s.K[i * 3 + 1]? = some (lstT A (-1)) /\ s.K[i * 3 + 2]? = some (hdT B (-1)) /\
  (lstT A (-1) = -1 \/ (0 <= lstT A (-1) /\ lstT A (-1) < n)) /\ (hdT B (-1) = -1 \/ (0 <= hdT B (-1) /\ hdT B (-1) < n)) /\
  PI n m (s.out l (lstT A (-1)) (hdT B (-1))) (upd L l (A ++ B)) F /\ (∀ k, k < m -> i ∉ upd L l (A ++ B) k) /\ i ∉ F := by
 have hkl := h.kl
 have hel := h.el
 have hc := h.ch l hl
 have hn := h.nd l hl
 have hr := h.rng l hl
 rw [hLl] at hc hn hr
 rw [chn_append] at hc
 obtain ⟨hcA, c0, c1, c2, hcB⟩ := hc
 have hcA : chn s.K l (-1) A i := hcA
 rw [List.nodup_append] at hn
 obtain ⟨nA, niB, nd2⟩ := hn
 obtain ⟨hiB, nB⟩ := List.nodup_cons.1 niB
 have hiA : i ∉ A := fun hh => nd2 i hh i (by simp) rfl
 have hi : i < n := hr i (by simp)
 have hAr : ∀ j ∈ A, j < n := fun j hj => hr j (by simp [hj])
 have hBr : ∀ j ∈ B, j < n := fun j hj => hr j (by simp [hj])
 have la : lstT A (-1) = -1 \/ (0 <= lstT A (-1) /\ lstT A (-1) < n) := by
  rcases lstT_mem A (-1) with h1 | ⟨j, hj, h1⟩
  ·exact .inl h1
  ·have := hAr j hj; exact .inr (by omega)
 have lb : hdT B (-1) = -1 \/ (0 <= hdT B (-1) /\ hdT B (-1) < n) := by
  rcases hdT_mem B (-1) with h1 | ⟨j, hj, h1⟩
  ·exact .inl h1
  ·have := hBr j hj; exact .inr (by omega)
 have hin : ∀ k, k < m -> i ∉ upd L l (A ++ B) k := fun k hk => by
  by_cases hkl2 : k = l
  ·subst hkl2; rw [upd_same]; simp [hiA, hiB]
  ·rw [upd_other hkl2]
   exact h.dj l hl k hk (fun e => hkl2 e.symm) i (by rw [hLl]; simp)
 have hiF : i ∉ F := h.fd l hl i (by rw [hLl]; simp)
 refine ⟨hi, c0, c1, c2, la, lb, ?_, hin, hiF⟩
 have hmem : ∀ j, j ∈ A ++ B -> j ∈ L l := fun j hj => by
  rw [hLl]
  rcases List.mem_append.1 hj with h9 | h9 <;> simp [h9]
 -- first part: the one ahead, or the list's first
 obtain ⟨s1, hs1⟩ : ∃ s1, s.out1 l (lstT A (-1)) (hdT B (-1)) = s1 := ⟨_, rfl⟩
 have key1 : s1.K.length = n * 3 /\ s1.E.length = m * 2 /\ s1.top = s.top /\ s1.free = s.free /\ chn s1.K l (-1) A (hdT B (-1)) /\ chn s1.K l i B (-1) /\ (∀ k, k < m -> k ≠ l -> chn s1.K k (-1) (L k) (-1)) /\ pch s1.K F /\ s1.E[l * 2]? = some (hdT (A ++ B) (-1)) /\ s1.E[l * 2 + 1]? = s.E[l * 2 + 1]? /\ ∀ k, k < m -> k ≠ l -> s1.E[k * 2]? = s.E[k * 2]? /\ s1.E[k * 2 + 1]? = s.E[k * 2 + 1]? := by
  unfold Pl.out1 at hs1
  cases hA : A with
  | nil =>
   subst hA
   simp only [lstT, if_pos] at hs1
   subst hs1
   refine ⟨hkl, by simp [hel], rfl, rfl, trivial, hcB, fun k hk _ => h.ch k hk, h.pc, ?_, ?_, fun k hk hkl2 => ⟨?_, ?_⟩⟩
   ·show (s.E.set (l * 2) _)[l * 2]? = _
    rw [List.getElem?_set, if_pos rfl, if_pos (by omega)]; rfl
   ·show (s.E.set (l * 2) _)[l * 2 + 1]? = _
    rw [List.getElem?_set, if_neg (by omega)]
   ·show (s.E.set (l * 2) _)[k * 2]? = _
    rw [List.getElem?_set, if_neg (by omega)]
   ·show (s.E.set (l * 2) _)[k * 2 + 1]? = _
    rw [List.getElem?_set, if_neg (by omega)]
  | cons a A' =>
   rw [<- hA]
   obtain ⟨z, hz, hzl⟩ : ∃ z ∈ A, lstT A (-1) = (z : Int) := by
    rw [hA]
    rcases lstT_mem A' a with h1 | ⟨z, hz, h1⟩
    ·exact ⟨a, by simp, h1⟩
    ·exact ⟨z, by simp [hz], h1⟩
   have hzn := hAr z hz
   have hzL : z ∈ L l := by rw [hLl]; simp [hz]
   rw [hzl, if_neg (by omega)] at hs1
   simp only [Int.toNat_natCast] at hs1
   subst hs1
   have hzB : z ∉ B := fun hh => nd2 z hz z (by simp [hh]) rfl
   refine ⟨by simp [hkl], hel, rfl, rfl, chn_next nA (fun _ => hzl) (fun j hj => by have := hAr j hj; omega) hcA, chn_set hzB (by omega) hcB, fun k hk hkl2 => chn_set (h.dj l hl k hk (fun e => hkl2 e.symm) z hzL) (by omega) (h.ch k hk), pch_set (h.fd l hl z hzL) (by omega) h.pc, ?_, rfl, fun k hk hkl2 => ⟨rfl, rfl⟩⟩
   rw [(h.ends l hl).1, hLl, hA]; rfl
 obtain ⟨q1, q2, q3, q4, q5, q6, q7, q8, q9, q10, q11⟩ := key1
 -- second part: the one behind, or the list's last
 obtain ⟨s2, hs2⟩ : ∃ s2, s.out l (lstT A (-1)) (hdT B (-1)) = s2 := ⟨_, rfl⟩
 have key2 : s2.K.length = n * 3 /\ s2.E.length = m * 2 /\ s2.top = s.top /\ s2.free = s.free /\ chn s2.K l (-1) (A ++ B) (-1) /\ (∀ k, k < m -> k ≠ l -> chn s2.K k (-1) (L k) (-1)) /\ pch s2.K F /\ s2.E[l * 2]? = some (hdT (A ++ B) (-1)) /\ s2.E[l * 2 + 1]? = some (lstT (A ++ B) (-1)) /\ ∀ k, k < m -> k ≠ l -> s2.E[k * 2]? = s.E[k * 2]? /\ s2.E[k * 2 + 1]? = s.E[k * 2 + 1]? := by
  unfold Pl.out at hs2
  rw [hs1] at hs2
  unfold Pl.out2 at hs2
  cases hB : B with
  | nil =>
   subst hB
   simp only [hdT, if_pos] at hs2
   subst hs2
   rw [List.append_nil] at q9 ⊢
   refine ⟨q1, by simp [q2], q3, q4, q5, q7, q8, ?_, ?_, fun k hk hkl2 => ⟨?_, ?_⟩⟩
   ·show (s1.E.set (l * 2 + 1) _)[l * 2]? = _
    rw [List.getElem?_set, if_neg (by omega)]; exact q9
   ·show (s1.E.set (l * 2 + 1) _)[l * 2 + 1]? = _
    rw [List.getElem?_set, if_pos rfl, if_pos (by omega)]
   ·show (s1.E.set (l * 2 + 1) _)[k * 2]? = _
    rw [List.getElem?_set, if_neg (by omega)]; exact (q11 k hk hkl2).1
   ·show (s1.E.set (l * 2 + 1) _)[k * 2 + 1]? = _
    rw [List.getElem?_set, if_neg (by omega)]; exact (q11 k hk hkl2).2
  | cons z B' =>
   rw [<- hB]
   have hzl : hdT B (-1) = (z : Int) := by rw [hB]; rfl
   have hz : z ∈ B := by rw [hB]; simp
   have hzn := hBr z hz
   have hzL : z ∈ L l := by rw [hLl]; simp [hz]
   rw [hzl, if_neg (by omega)] at hs2
   simp only [Int.toNat_natCast] at hs2
   subst hs2
   have hzA : z ∉ A := fun hh => nd2 z hh z (by simp [hz]) rfl
   refine ⟨by simp [q1], q2, q3, q4, ?_, fun k hk hkl2 => chn_set (h.dj l hl k hk (fun e => hkl2 e.symm) z hzL) (by omega) (q7 k hk hkl2), pch_set (h.fd l hl z hzL) (by omega) q8, q9, ?_, q11⟩
   ·rw [chn_append]
    exact ⟨chn_set hzA (by omega) q5, chn_prev nB (fun _ => hzl) (fun j hj => by have := hBr j hj; omega) q6⟩
   ·show s1.E[l * 2 + 1]? = _
    rw [q10, (h.ends l hl).2, hLl, lstT_append, lstT_append, hB]; rfl
 rw [hs2]
 obtain ⟨r1, r2, r3, r4, r5, r6, r7, r8, r9, r10⟩ := key2
 refine ⟨r1, r2, fun k hk => ?_, fun k hk => ?_, fun k hk j hj => ?_, fun k hk => ?_, fun k hk k2' hk2 hne j hj hj2 => ?_, by rw [r3]; exact h.pt, r7, h.fr, h.fn, fun k hk j hj => ?_, by rw [r4]; exact h.ff⟩
 ·by_cases hkl2 : k = l
  ·subst hkl2; rw [upd_same]; exact ⟨r8, r9⟩
  ·rw [upd_other hkl2, (r10 k hk hkl2).1, (r10 k hk hkl2).2]; exact h.ends k hk
 ·by_cases hkl2 : k = l
  ·subst hkl2; rw [upd_same]; exact r5
  ·rw [upd_other hkl2]; exact r6 k hk hkl2
 ·by_cases hkl2 : k = l
  ·subst hkl2; rw [upd_same] at hj; exact h.rng k hk j (hmem j hj)
  ·rw [upd_other hkl2] at hj; exact h.rng k hk j hj
 ·by_cases hkl2 : k = l
  ·subst hkl2
   rw [upd_same, List.nodup_append]
   exact ⟨nA, nB, fun a ha b hb => nd2 a ha b (by simp [hb])⟩
  ·rw [upd_other hkl2]; exact h.nd k hk
 ·by_cases h1 : k = l
  ·subst h1
   rw [upd_same] at hj
   rw [upd_other (fun e => hne e.symm)] at hj2
   exact h.dj k hk k2' hk2 hne j (hmem j hj) hj2
  ·rw [upd_other h1] at hj
   by_cases h2 : k2' = l
   ·subst h2
    rw [upd_same] at hj2
    exact h.dj k hk k2' hk2 hne j hj (hmem j hj2)
   ·rw [upd_other h2] at hj2
    exact h.dj k hk k2' hk2 hne j hj hj2
 ·by_cases hkl2 : k = l
  ·subst hkl2; rw [upd_same] at hj; exact h.fd k hk j (hmem j hj)
  ·rw [upd_other hkl2] at hj; exact h.fd k hk j hj
end
end Vg
