/- MboxPlays: the walk. -/
import Derived.Test.YtlgkcpgmnpoanaaMboxP
set_option linter.unusedSimpArgs false
set_option linter.unusedVariables false
set_option maxHeartbeats 4000000
set_option maxRecDepth 20000
namespace Vg
open Go
def Bx.act (s : Bx) (room : Nat) (x : Int × Int) : Bx := if x.1 = 0 then (s.post room x.2).1 else if x.1 = 1 then s.fetch.1 else s
theorem Bx.post_lost (s : Bx) (room : Nat) (x : Int) : s.lost ≤ (s.post room x).1.lost ∧ (s.post room x).1.lost ≤ s.lost + 1 := by
  unfold Bx.post
  split
  · show s.lost ≤ s.lost + 1 ∧ s.lost + 1 ≤ s.lost + 1; omega
  · show s.lost ≤ s.lost ∧ s.lost ≤ s.lost + 1; omega
theorem Bx.fetch_lost (s : Bx) : s.fetch.1.lost = s.lost := by
  obtain ⟨L, lost⟩ := s
  cases L <;> rfl
theorem Bx.act_lost (s : Bx) (room : Nat) (x : Int × Int) : s.lost ≤ (s.act room x).lost ∧ (s.act room x).lost ≤ s.lost + 1 := by
  unfold Bx.act
  split
  · exact Bx.post_lost _ _ _
  · split
    · rw [Bx.fetch_lost]; omega
    · omega
end Vg
namespace Go.Proofs.Ytlgkcpgmnpoanaa
open Go.ChangeShapes Go.WideShapes Go.ChangeAt Go.RowKit
abbrev rboxC (room : Int) (v : Value) (lost : Int) : Obj := .cells #[.int .i64 room, v, .int .i64 lost] 78
/-- The document's list. -/
def RBx (w : World) (S : Nat) (s : Vg.Bx) (v : Value) : Prop := ∃ sa sc, v = .slice sa s.L.length sc ∧ Vg.Reads S w v s.L.length (Vg.ics s.L)
section
variable {w w' w0 wx w2 w3 : World} {b g bw S room : Nat} {s s' : Vg.Bx} {v v2 v2' : Value} {o o' : Obj}
theorem RBx.grows (h : RBx w S s v) (hg : Vg.Grows w w') : RBx w' S s v := by
  obtain ⟨sa, sc, hv', h1⟩ := h
  exact ⟨sa, sc, hv', h1.grows hg⟩
theorem RBx.touch {t : Nat → Prop} (h : RBx w S s v) (ht : Vg.Touch t w w') (hv : ∀ k, t k → k < S) : RBx w' S s v := by
  obtain ⟨sa, sc, hv', h1⟩ := h
  exact ⟨sa, sc, hv', h1.touch ht fun k hk hh => by have := hv k hh; have := (h1.own_lt k hk).1; omega⟩
theorem RBx.shape (h : RBx w S s v) : ∃ a c, v = .slice a s.L.length c := by obtain ⟨a, c, hv, _⟩ := h; exact ⟨a, c, hv⟩
theorem rb_post (x : Int) (h : RBx w S s v) (hS : S ≤ w.heap.size) (hr : s.L.length ≤ room ∧ room ≤ 1024) (hl : 0 ≤ s.lost ∧ s.lost ≤ 4611686018427387904) :
    Calls Try.prog 43 #[.agg #[.int .i64 room, v, .int .i64 s.lost], .int .i64 x] w fun e w' => ∃ v', e = .returned (.tuple #[.agg #[.int .i64 room, v', .int .i64 (s.post room x).1.lost], .int .i64 (s.post room x).2]) ∧
      RBx w' S (s.post room x).1 v' ∧ Vg.Grows w w' := by
  obtain ⟨sa, sc, rfl, h1⟩ := h
  obtain ⟨L, lost⟩ := s
  simp only [] at h1 hr hl ⊢
  by_cases hf : L.length = room
  · have e0 : Vg.Bx.post ⟨L, lost⟩ room x = (⟨L, lost + 1⟩, 5) := by unfold Vg.Bx.post; rw [if_pos hf]
    rw [e0]
    refine (ref13_post_full x (by omega) hl (by omega)).mono ?_
    rintro e w' ⟨rfl, hg⟩
    exact ⟨_, rfl, ⟨sa, sc, rfl, h1.grows hg⟩, hg⟩
  · have e0 : Vg.Bx.post ⟨L, lost⟩ room x = (⟨L ++ [x], lost⟩, 0) := by unfold Vg.Bx.post; rw [if_neg hf]
    rw [e0]
    refine (ref13_post_ok x (by omega) h1 (by omega)).mono ?_
    rintro e w' ⟨sa', sc', hr', rfl, hg⟩
    exact ⟨_, rfl, ⟨sa', sc', rfl, hr'.weaken hS⟩, hg⟩
theorem rb_fetch (h : RBx w S s v) (hr : s.L.length ≤ 1024) :
    Calls Try.prog 45 #[.agg #[.int .i64 room, v, .int .i64 s.lost]] w fun e w' => ∃ v', e = .returned (.tuple #[.agg #[.int .i64 room, v', .int .i64 s.fetch.1.lost], .int .i64 s.fetch.2.1, .int .i64 s.fetch.2.2]) ∧
      RBx w' S s.fetch.1 v' ∧ Vg.Grows w w' := by
  obtain ⟨sa, sc, rfl, h1⟩ := h
  obtain ⟨L, lost⟩ := s
  cases L with
  | nil =>
    refine (ref13_fetch_nil).mono ?_
    rintro e w' ⟨rfl, hg⟩
    exact ⟨_, rfl, ⟨sa, sc, rfl, h1.grows hg⟩, hg⟩
  | cons t ts =>
    refine (ref13_fetch_some t ts h1 (by simp at hr; omega)).mono ?_
    rintro e w' ⟨sa', sc', hr', -, rfl, hg⟩
    exact ⟨_, rfl, ⟨sa', sc', rfl, hr'.grows hg⟩, hg⟩
theorem box_step (n1 : bw < S) (n2 : b < S) (n3 : g < S) (n4 : w0.heap.size ≤ b) (n5 : w0.heap.size ≤ g) (n6 : w0.heap.size ≤ bw) (n7 : bw ≠ b) (n8 : bw ≠ g) (hSx : S ≤ wx.heap.size) (hg : Vg.Grows w0 wx)
    (hr2 : RBx w2 S s' v2') (hg2 : Vg.Grows wx w2) (hs3 : BX w3 b g room s') (ht3 : Vg.Touch (fun k => k = b ∨ k = g) (w2.alloc o) w3) :
    S ≤ (Vg.put w3 bw o').heap.size ∧ Vg.Grows w0 (Vg.put w3 bw o') ∧ BX (Vg.put w3 bw o') b g room s' ∧ Vg.blk (Vg.put w3 bw o') bw = some o' ∧ RBx (Vg.put w3 bw o') S s' v2' := by
  have hz2 := hg2.size
  have hz3 := ht3.size
  rw [World.size_alloc] at hz3
  have hl3 : bw < w3.heap.size := by omega
  refine ⟨by rw [Vg.put_size]; omega, ?_, hs3.put n7 n8, Vg.put_heap_same hl3, ?_⟩
  · exact Vg.Grows.put (ht3.growsx ((hg.trans hg2).alloc o) n4 n5) n6 _
  · refine RBx.touch (t := fun k => k = bw) ?_ ((Vg.Touch.refl (fun k => k = bw) w3).put rfl o') (fun k hk => by omega)
    exact (hr2.grows ((Vg.Grows.refl _).alloc o)).touch ht3 (fun k hk => by rcases hk with rfl | rfl <;> assumption)
end
theorem MboxPlays_walk (room : Int) (a : Option Addr) (len cap : Nat) (D : Nat → Nat → Int) (w : World) (hm0 : -9223372036854775808 ≤ room) (hm1 : room ≤ 9223372036854775807) (hr : Vg.intRows w [.i64, .i64] a len cap D) :
    Calls Try.prog 8 #[.int .i64 room, .slice a len cap] w fun e w' => e = .returned (.bool true) ∧ Vg.Grows w w' := by
  by_cases hok : 1 ≤ room ∧ room ≤ 1024
  · obtain ⟨h1, h2⟩ := hok
    obtain ⟨r, rfl⟩ : ∃ r : Nat, room = r := ⟨room.toNat, by omega⟩
    have hb : (decide (1 ≤ (r : Int)) && decide ((r : Int) ≤ 1024)) = true := by simp; omega
    have HB := Lib.hid hb
    clear hb
    have hr1 : 1 ≤ r := by omega
    have hr2 : r ≤ 1024 := by omega
    have hlen := hr.1
    have hcap : cap ≤ 9223372036854775807 := hr.2.1
    by_cases hl : 200 < len
    · go_enter Try.func8, Try.ntmps8
      go_wp2_with (first | (go_at_call 40; refine (lives13 _).mono ?_; rintro e w1 ⟨rfl, x0, n0, rfl⟩) | (go_at_call 41; refine (bx_new r hr1 hr2).mono ?_; rintro e w1 ⟨rfl, hs, rfl⟩; have HSA := Lib.hid hs; clear hs) | (go_at_call 42; refine (ref13_new r).mono ?_; rintro e w1 ⟨rfl, x1, n1, rfl⟩; rw [HB.out]))
      go_ret
      exact ⟨rfl, by (repeat' (first | (with_reducible exact Vg.Grows.refl _) | (with_reducible assumption) | (with_reducible refine Vg.Grows.alloc ?_ _) | (with_reducible refine Vg.Grows.plus ?_ _ _) | (with_reducible refine Vg.Grows.drewN ?_ _) | (with_reducible refine Vg.Grows.drew ?_) | (with_reducible refine Vg.Grows.setCell ?_ ?_ _) | (with_reducible refine Vg.Grows.put ?_ ?_ _) | omega | (simp; omega) | (simp; done)))⟩
    · have RH := Lib.hid (fun h => Vg.intRows.open (by decide) hr h)
      clear hr
      go_enter Try.func8, Try.ntmps8
      go_wp2_with (first | (go_at_call 40; refine (lives13 _).mono ?_; rintro e w1 ⟨rfl, x0, n0, rfl⟩) | (go_at_call 41; refine (bx_new r hr1 hr2).mono ?_; rintro e w1 ⟨rfl, hs, rfl⟩; have HSA := Lib.hid hs; clear hs) | (go_at_call 42; refine (ref13_new r).mono ?_; rintro e w1 ⟨rfl, x1, n1, rfl⟩; rw [HB.out]))
      obtain ⟨b, hb⟩ : ∃ b, w.heap.size + 1 + Vg.sz x0 = b := ⟨_, rfl⟩
      obtain ⟨g, hg⟩ : ∃ g, w.heap.size + Vg.sz x0 = g := ⟨_, rfl⟩
      obtain ⟨bw, hbw⟩ : ∃ bw, w.heap.size + 1 + 1 + Vg.sz x0 + Vg.sz x1 = bw := ⟨_, rfl⟩
      obtain ⟨W0, hW0⟩ : ∃ W0, (Vg.plus (((Vg.plus w x0 n0).alloc (ringC (fun x => 0) r)).alloc (boxC (w.heap.size + Vg.sz x0) r 0 0 0)) x1 n1).alloc (rboxC r (.slice none 0 0) 0) = W0 := ⟨_, rfl⟩
      have g1 : BX W0 b g r ⟨[], 0⟩ := by
        have hs := HSA.out
        have e1 : (Vg.plus w x0 n0).heap.size + 1 = b := by rw [Vg.plus_size]; omega
        have e2 : (Vg.plus w x0 n0).heap.size = g := by rw [Vg.plus_size]; omega
        rw [e1, e2] at hs
        rw [← hW0, hg]
        exact hs.grows (by (repeat' (first | (with_reducible exact Vg.Grows.refl _) | (with_reducible assumption) | (with_reducible refine Vg.Grows.alloc ?_ _) | (with_reducible refine Vg.Grows.plus ?_ _ _) | (with_reducible refine Vg.Grows.drewN ?_ _) | (with_reducible refine Vg.Grows.drew ?_) | (with_reducible refine Vg.Grows.setCell ?_ ?_ _) | (with_reducible refine Vg.Grows.put ?_ ?_ _) | omega | (simp; omega) | (simp; done))))
      have g3 : Vg.blk W0 bw = some (rboxC r (.slice none 0 0) 0) := by rw [← hW0, ← hbw]; simp [go_sem]
      have g4 : Vg.Grows w W0 := by rw [← hW0]; (repeat' (first | (with_reducible exact Vg.Grows.refl _) | (with_reducible assumption) | (with_reducible refine Vg.Grows.alloc ?_ _) | (with_reducible refine Vg.Grows.plus ?_ _ _) | (with_reducible refine Vg.Grows.drewN ?_ _) | (with_reducible refine Vg.Grows.drew ?_) | (with_reducible refine Vg.Grows.setCell ?_ ?_ _) | (with_reducible refine Vg.Grows.put ?_ ?_ _) | omega | (simp; omega) | (simp; done)))
      have g5 : bw < W0.heap.size := Vg.lt_of g3
      have g6 : b < W0.heap.size := g1.lt
      have g7 : g < W0.heap.size := g1.ltg
      have n1' : bw ≠ b := by omega
      have n2' : b ≠ bw := by omega
      have n3' : bw ≠ g := by omega
      have n4' : g ≠ bw := by omega
      have n5' : b ≠ g := by omega
      have n6' : w.heap.size ≤ b := by omega
      have n7' : w.heap.size ≤ g := by omega
      have n8' : w.heap.size ≤ bw := by omega
      have n9' := g4.size
      simp only [hb, hbw]
      rw [hW0]
      have H_hb := Lib.hid hb; clear hb; have H_hg := Lib.hid hg; clear hg; have H_hbw := Lib.hid hbw; clear hbw; have H_hW0 := Lib.hid hW0; clear hW0; have H_g1 := Lib.hid g1; clear g1; have H_g3 := Lib.hid g3; clear g3
      clear HSA
      obtain ⟨S, hS⟩ : ∃ S, W0.heap.size = S := ⟨_, rfl⟩
      rw [hS] at g5 g6 g7 n9'
      have H_hS := Lib.hid hS; clear hS
      go_loopw [57] (fun i wr => ∃ (k : Nat) (s : Vg.Bx) (v2 : Value), k ≤ len ∧ i = .int .i64 k ∧ (0 ≤ s.lost ∧ s.lost ≤ k) ∧ S ≤ wr.heap.size ∧ Vg.Grows w wr ∧ BX wr b g r s ∧ Vg.blk wr bw = some (rboxC r v2 s.lost) ∧ RBx wr S s v2) (fun i _ => len - (intOf i).toNat)
      case atStart =>
        exact ⟨0, ⟨[], 0⟩, _, by omega, rfl, by simp, by rw [H_hS.out]; exact Nat.le_refl _, g4, H_g1.out, H_g3.out, ⟨none, 0, rfl, Vg.Reads.nil _ _⟩⟩
      case round =>
        obtain ⟨k, s, v2, hk, rfl, hlost, hsz, hgr, hsa, b3, hra⟩ := hrel
        by_cases hlt : k < len
        · obtain ⟨ba, off, rfl, hba, hc⟩ := RH.out (by omega)
          have hc0 := hc k hlt 0 (by decide)
          have hc1 := hc k hlt 1 (by decide)
          generalize D k 0 = kd at hc0
          generalize D k 1 = x at hc1
          simp only [List.length_cons, List.length_nil, Nat.zero_add, List.getElem_cons_zero, List.getElem_cons_succ] at hc0 hc1
          obtain ⟨hc0, hw0'⟩ := hc0
          obtain ⟨hc1, hw1'⟩ := hc1
          have hc0 := (hgr.below.cell (p := ⟨ba, off + k * 2, none⟩) hba).trans hc0
          have hc1 := (hgr.below.cell (p := ⟨ba, off + k * 2 + 1, none⟩) hba).trans hc1
          have hbar : ba < wr.heap.size := Nat.lt_of_lt_of_le hba hgr.size
          have hsl := hsa.len
          clear hc hw0' hw1'
          have c_b3 := Vg.cells_of b3; have f_b3 := Vg.frozen_of b3; have p_b3 := Vg.setCell_of b3; have l_b3 := Vg.lt_of b3; have H_b3 := Lib.hid b3; clear b3
          have H_hsa := Lib.hid hsa; clear hsa; have H_hra := Lib.hid hra; clear hra; have H_hsl := Lib.hid hsl; clear hsl
          go_upto_block 2 with (fail)
          obtain ⟨wx, hwx⟩ : ∃ wx, (wr.alloc (.cells #[.int .i64 kd, .int .i64 x] 82)) = wx := ⟨_, rfl⟩
          obtain ⟨bt, hbt'⟩ : ∃ bt, wr.heap.size = bt := ⟨_, rfl⟩
          have x1 : Vg.blk wx bw = some (rboxC r v2 s.lost) := by rw [← hwx]; exact Vg.Grows.blk (by (repeat' (first | (with_reducible exact Vg.Grows.refl _) | (with_reducible assumption) | (with_reducible refine Vg.Grows.alloc ?_ _) | (with_reducible refine Vg.Grows.plus ?_ _ _) | (with_reducible refine Vg.Grows.drewN ?_ _) | (with_reducible refine Vg.Grows.drew ?_) | (with_reducible refine Vg.Grows.setCell ?_ ?_ _) | (with_reducible refine Vg.Grows.put ?_ ?_ _) | omega | (simp; omega) | (simp; done)))) H_b3.out
          have x2 : Vg.blk wx bt = some (.cells #[.int .i64 kd, .int .i64 x] 82) := by rw [← hwx, ← hbt']; simp [go_sem]
          have hgx : Vg.Grows wr wx := by rw [← hwx]; (repeat' (first | (with_reducible exact Vg.Grows.refl _) | (with_reducible assumption) | (with_reducible refine Vg.Grows.alloc ?_ _) | (with_reducible refine Vg.Grows.plus ?_ _ _) | (with_reducible refine Vg.Grows.drewN ?_ _) | (with_reducible refine Vg.Grows.drew ?_) | (with_reducible refine Vg.Grows.setCell ?_ ?_ _) | (with_reducible refine Vg.Grows.put ?_ ?_ _) | omega | (simp; omega) | (simp; done)))
          have hsx : BX wx b g r s := H_hsa.out.grows hgx
          have hrx : RBx wx S s v2 := H_hra.out.grows hgx
          have hSx : S ≤ wx.heap.size := Nat.le_trans hsz hgx.size
          have hgwx : Vg.Grows w wx := hgr.trans hgx
          have hbS : S ≤ bt := by omega
          have m1 : bt ≠ bw := by omega
          have m2 : bw ≠ bt := by omega
          have m3 : bt ≠ b := by omega
          have m4 : bt ≠ g := by omega
          rw [hwx, hbt']
          clear c_b3 f_b3 p_b3
          obtain ⟨v2a, v2c, rfl⟩ := hrx.shape
          have c_x1 := Vg.cells_of x1; have f_x1 := Vg.frozen_of x1; have p_x1 := Vg.setCell_of x1; have l_x1 := Vg.lt_of x1; have H_x1 := Lib.hid x1; clear x1; have c_x2 := Vg.cells_of x2; have f_x2 := Vg.frozen_of x2; have p_x2 := Vg.setCell_of x2; have l_x2 := Vg.lt_of x2; have H_x2 := Lib.hid x2; clear x2
          have H_hsx := Lib.hid hsx; clear hsx; have H_hrx := Lib.hid hrx; clear hrx; have H_hwx := Lib.hid hwx; clear hwx; have H_hbt' := Lib.hid hbt'; clear hbt'
          go_cut [] (fun wy => ∃ v2', S ≤ wy.heap.size ∧ Vg.Grows w wy ∧ BX wy b g r (s.act r (kd, x)) ∧ Vg.blk wy bw = some (rboxC r v2' (s.act r (kd, x)).lost) ∧ RBx wy S (s.act r (kd, x)) v2' ∧ Vg.blk wy bt = some (.cells #[.int .i64 kd, .int .i64 x] 82))
          case first =>
            by_cases hv0 : kd = 0
            · subst hv0
              have ha : s.act r (0, x) = (s.post r x).1 := rfl
              have H_ha := Lib.hid ha; clear ha
              go_wp2_with (first | (go_at_call 43; refine (rb_post (s := s) (S := S) (room := r) x H_hrx.out hSx ⟨H_hsl.out.1, hr2⟩ (by omega)).mono ?_; rintro e w2 ⟨v2', rfl, hra2, hg2⟩; obtain ⟨sa2, sc2, rfl⟩ := hra2.shape; have y1 := hg2.blk H_x1.out; have y2 := hg2.blk H_x2.out; have hs2 := H_hsx.out.grows hg2; have hz2 := hg2.size; clear c_x1 f_x1 p_x1 c_x2 f_x2 p_x2; have c_y1 := Vg.cells_of y1; have f_y1 := Vg.frozen_of y1; have p_y1 := Vg.setCell_of y1; have l_y1 := Vg.lt_of y1; have H_y1 := Lib.hid y1; clear y1; have c_y2 := Vg.cells_of y2; have f_y2 := Vg.frozen_of y2; have p_y2 := Vg.setCell_of y2; have l_y2 := Vg.lt_of y2; have H_y2 := Lib.hid y2; clear y2; have H_hra2 := Lib.hid hra2; clear hra2; have H_hs2 := Lib.hid hs2; clear hs2; have H_hg2 := Lib.hid hg2; clear hg2) | (go_at_call 44; refine (bx_post (s := s) x (H_hs2.out.grows (by (repeat' (first | (with_reducible exact Vg.Grows.refl _) | (with_reducible assumption) | (with_reducible refine Vg.Grows.alloc ?_ _) | (with_reducible refine Vg.Grows.plus ?_ _ _) | (with_reducible refine Vg.Grows.drewN ?_ _) | (with_reducible refine Vg.Grows.drew ?_) | (with_reducible refine Vg.Grows.setCell ?_ ?_ _) | (with_reducible refine Vg.Grows.put ?_ ?_ _) | omega | (simp; omega) | (simp; done))))) n5' (by omega)).mono ?_; rintro e w3 ⟨rfl, hsa3, ht3⟩; have z1 := ht3.blk ((Vg.alloc_heap_past l_y1).trans H_y1.out) (fun hh => by omega); have z2 := ht3.blk (Vg.alloc_heap_at rfl) (fun hh => by omega); have z3 := ht3.blk ((Vg.alloc_heap_past l_y2).trans H_y2.out) (fun hh => by omega); clear c_y1 f_y1 p_y1 c_y2 f_y2 p_y2; have c_z1 := Vg.cells_of z1; have f_z1 := Vg.frozen_of z1; have p_z1 := Vg.setCell_of z1; have l_z1 := Vg.lt_of z1; have H_z1 := Lib.hid z1; clear z1; have c_z2 := Vg.cells_of z2; have f_z2 := Vg.frozen_of z2; have p_z2 := Vg.setCell_of z2; have l_z2 := Vg.lt_of z2; have H_z2 := Lib.hid z2; clear z2; have c_z3 := Vg.cells_of z3; have f_z3 := Vg.frozen_of z3; have p_z3 := Vg.setCell_of z3; have l_z3 := Vg.lt_of z3; have H_z3 := Lib.hid z3; clear z3; have H_hsa3 := Lib.hid hsa3; clear hsa3; have H_ht3 := Lib.hid ht3; clear ht3))
              go_meet
              rw [H_ha.out]
              have hst := box_step (o' := rboxC r (.slice sa2 (s.post r x).1.L.length sc2) (s.post r x).1.lost) g5 g6 g7 n6' n7' n8' n1' n3' hSx hgwx H_hra2.out H_hg2.out H_hsa3.out H_ht3.out
              exact ⟨.slice sa2 _ sc2, hst.1, hst.2.1, hst.2.2.1, hst.2.2.2.1, hst.2.2.2.2, (Vg.put_heap_other m2).trans H_z3.out⟩
            · by_cases hv1 : kd = 1
              · subst hv1
                have ha : s.act r (1, x) = s.fetch.1 := rfl
                have H_ha := Lib.hid ha; clear ha
                go_wp2_with (first | (go_at_call 45; refine (rb_fetch (s := s) (S := S) (room := r) H_hrx.out (by have := H_hsl.out.1; omega)).mono ?_; rintro e w2 ⟨v2', rfl, hra2, hg2⟩; obtain ⟨sa2, sc2, rfl⟩ := hra2.shape; have y1 := hg2.blk H_x1.out; have y2 := hg2.blk H_x2.out; have hs2 := H_hsx.out.grows hg2; have hz2 := hg2.size; clear c_x1 f_x1 p_x1 c_x2 f_x2 p_x2; have c_y1 := Vg.cells_of y1; have f_y1 := Vg.frozen_of y1; have p_y1 := Vg.setCell_of y1; have l_y1 := Vg.lt_of y1; have H_y1 := Lib.hid y1; clear y1; have c_y2 := Vg.cells_of y2; have f_y2 := Vg.frozen_of y2; have p_y2 := Vg.setCell_of y2; have l_y2 := Vg.lt_of y2; have H_y2 := Lib.hid y2; clear y2; have H_hra2 := Lib.hid hra2; clear hra2; have H_hs2 := Lib.hid hs2; clear hs2; have H_hg2 := Lib.hid hg2; clear hg2) | (go_at_call 46; refine (bx_fetch (s := s) (H_hs2.out.grows (by (repeat' (first | (with_reducible exact Vg.Grows.refl _) | (with_reducible assumption) | (with_reducible refine Vg.Grows.alloc ?_ _) | (with_reducible refine Vg.Grows.plus ?_ _ _) | (with_reducible refine Vg.Grows.drewN ?_ _) | (with_reducible refine Vg.Grows.drew ?_) | (with_reducible refine Vg.Grows.setCell ?_ ?_ _) | (with_reducible refine Vg.Grows.put ?_ ?_ _) | omega | (simp; omega) | (simp; done))))) n5').mono ?_; rintro e w3 ⟨rfl, hsa3, ht3⟩; have z1 := ht3.blk ((Vg.alloc_heap_past l_y1).trans H_y1.out) (fun hh => by omega); have z2 := ht3.blk (Vg.alloc_heap_at rfl) (fun hh => by omega); have z3 := ht3.blk ((Vg.alloc_heap_past l_y2).trans H_y2.out) (fun hh => by omega); clear c_y1 f_y1 p_y1 c_y2 f_y2 p_y2; have c_z1 := Vg.cells_of z1; have f_z1 := Vg.frozen_of z1; have p_z1 := Vg.setCell_of z1; have l_z1 := Vg.lt_of z1; have H_z1 := Lib.hid z1; clear z1; have c_z2 := Vg.cells_of z2; have f_z2 := Vg.frozen_of z2; have p_z2 := Vg.setCell_of z2; have l_z2 := Vg.lt_of z2; have H_z2 := Lib.hid z2; clear z2; have c_z3 := Vg.cells_of z3; have f_z3 := Vg.frozen_of z3; have p_z3 := Vg.setCell_of z3; have l_z3 := Vg.lt_of z3; have H_z3 := Lib.hid z3; clear z3; have H_hsa3 := Lib.hid hsa3; clear hsa3; have H_ht3 := Lib.hid ht3; clear ht3))
                go_meet
                rw [H_ha.out]
                have hst := box_step (o' := rboxC r (.slice sa2 s.fetch.1.L.length sc2) s.fetch.1.lost) g5 g6 g7 n6' n7' n8' n1' n3' hSx hgwx H_hra2.out H_hg2.out H_hsa3.out H_ht3.out
                exact ⟨.slice sa2 _ sc2, hst.1, hst.2.1, hst.2.2.1, hst.2.2.2.1, hst.2.2.2.2, (Vg.put_heap_other m2).trans H_z3.out⟩
              · have ha : s.act r (kd, x) = s := by unfold Vg.Bx.act; simp [hv0, hv1]
                have hb0 : (kd == 0) = false := by simp [hv0]
                have hb1 : (kd == 1) = false := by simp [hv1]
                have H_ha := Lib.hid ha; clear ha
                clear hv0 hv1
                go_wp2_with fail
                go_meet
                rw [H_ha.out]
                exact ⟨_, hSx, hgwx, H_hsx.out, H_x1.out, H_hrx.out, H_x2.out⟩
          case rest =>
            obtain ⟨v2', hSy, hgy, hsy, y3, hry, y4⟩ := hcut
            have hlo := Vg.Bx.act_lost s r (kd, x)
            generalize s.act r (kd, x) = s' at hsy y3 hry hlo
            obtain ⟨sa2, sc2, rfl⟩ := hry.shape
            have hln := hsy.len
            have hln2 : s'.L.length ≤ 1024 := by omega
            obtain ⟨ra, rc, hre, hrr⟩ := hry
            simp only [Value.slice.injEq, true_and] at hre
            obtain ⟨rfl, rfl⟩ := hre
            clear c_x1 f_x1 p_x1 c_x2 f_x2 p_x2
            have c_y3 := Vg.cells_of y3; have f_y3 := Vg.frozen_of y3; have p_y3 := Vg.setCell_of y3; have l_y3 := Vg.lt_of y3; have H_y3 := Lib.hid y3; clear y3
            have H_hsy := Lib.hid hsy; clear hsy; have H_hrr := Lib.hid hrr; clear hrr; have H_hln := Lib.hid hln; clear hln
            obtain ⟨L, lost⟩ := s'
            go_wp2_with fail
            go_region_held3 (fun w' => Vg.Grows wc w' ∧ bw < w'.heap.size ∧ w'.cell? ⟨bw, 0, none⟩ = some (.int .i64 r) ∧ w'.cell? ⟨bw, 1, none⟩ = some (.slice sa2 L.length sc2) ∧ w'.cell? ⟨bw, 2, none⟩ = some (.int .i64 lost))
              ((go_split_ands; (try dsimp only); refine ⟨by (repeat' (first | (with_reducible exact Vg.Grows.refl _) | (with_reducible assumption) | (with_reducible refine Vg.Grows.alloc ?_ _) | (with_reducible refine Vg.Grows.plus ?_ _ _) | (with_reducible refine Vg.Grows.drewN ?_ _) | (with_reducible refine Vg.Grows.drew ?_) | (with_reducible refine Vg.Grows.setCell ?_ ?_ _) | (with_reducible refine Vg.Grows.put ?_ ?_ _) | omega | (simp; omega) | (simp; done))), ?_⟩; go_simp))
              (first | (go_at_call 47; refine (bx_len (s := ⟨L, lost⟩) (H_hsy.out.grows (by (repeat' (first | (with_reducible exact Vg.Grows.refl _) | (with_reducible assumption) | (with_reducible refine Vg.Grows.alloc ?_ _) | (with_reducible refine Vg.Grows.plus ?_ _ _) | (with_reducible refine Vg.Grows.drewN ?_ _) | (with_reducible refine Vg.Grows.drew ?_) | (with_reducible refine Vg.Grows.setCell ?_ ?_ _) | (with_reducible refine Vg.Grows.put ?_ ?_ _) | omega | (simp; omega) | (simp; done)))))).mono ?_; rintro e w' ⟨rfl, rfl⟩) | (go_at_call 48; refine (bx_lost (s := ⟨L, lost⟩) (H_hsy.out.grows (by (repeat' (first | (with_reducible exact Vg.Grows.refl _) | (with_reducible assumption) | (with_reducible refine Vg.Grows.alloc ?_ _) | (with_reducible refine Vg.Grows.plus ?_ _ _) | (with_reducible refine Vg.Grows.drewN ?_ _) | (with_reducible refine Vg.Grows.drew ?_) | (with_reducible refine Vg.Grows.setCell ?_ ?_ _) | (with_reducible refine Vg.Grows.put ?_ ?_ _) | omega | (simp; omega) | (simp; done)))))).mono ?_; rintro e w' ⟨rfl, rfl⟩) | (go_at_call 50; refine (bx_list (s := ⟨L, lost⟩) (H_hsy.out.grows (by (repeat' (first | (with_reducible exact Vg.Grows.refl _) | (with_reducible assumption) | (with_reducible refine Vg.Grows.alloc ?_ _) | (with_reducible refine Vg.Grows.plus ?_ _ _) | (with_reducible refine Vg.Grows.drewN ?_ _) | (with_reducible refine Vg.Grows.drew ?_) | (with_reducible refine Vg.Grows.setCell ?_ ?_ _) | (with_reducible refine Vg.Grows.put ?_ ?_ _) | omega | (simp; omega) | (simp; done)))))).mono ?_; rintro e w4 ⟨v4, rfl, hq4, x4, n4, rfl⟩; obtain ⟨va, vc, rfl⟩ := hq4.shape; (try simp only [Vg.plus_drew, Vg.plus_drewN] at hq4); have HQ4 := Lib.hid hq4; clear hq4) | (go_at_call 49; refine (same13x (L := L) (M := L) (HQ4.out.reads.grows (by (repeat' (first | (with_reducible exact Vg.Grows.refl _) | (with_reducible assumption) | (with_reducible refine Vg.Grows.alloc ?_ _) | (with_reducible refine Vg.Grows.plus ?_ _ _) | (with_reducible refine Vg.Grows.drewN ?_ _) | (with_reducible refine Vg.Grows.drew ?_) | (with_reducible refine Vg.Grows.setCell ?_ ?_ _) | (with_reducible refine Vg.Grows.put ?_ ?_ _) | omega | (simp; omega) | (simp; done))))) rfl (H_hrr.out.grows (by (repeat' (first | (with_reducible exact Vg.Grows.refl _) | (with_reducible assumption) | (with_reducible refine Vg.Grows.alloc ?_ _) | (with_reducible refine Vg.Grows.plus ?_ _ _) | (with_reducible refine Vg.Grows.drewN ?_ _) | (with_reducible refine Vg.Grows.drew ?_) | (with_reducible refine Vg.Grows.setCell ?_ ?_ _) | (with_reducible refine Vg.Grows.put ?_ ?_ _) | omega | (simp; omega) | (simp; done))))) rfl (by omega) (by omega)).mono ?_; rintro e w7 ⟨rfl, x7, n7, rfl⟩; rw [decide_eq_true (rfl : L = L)]))
            go_wp2_with fail
            exact ⟨⟨k + 1, ⟨L, lost⟩, _, by omega, by go_num, by (try simp only [] at hlo ⊢); omega, by (try simp only [Vg.plus_size]); omega, by (repeat' (first | (with_reducible exact Vg.Grows.refl _) | (with_reducible assumption) | (with_reducible refine Vg.Grows.alloc ?_ _) | (with_reducible refine Vg.Grows.plus ?_ _ _) | (with_reducible refine Vg.Grows.drewN ?_ _) | (with_reducible refine Vg.Grows.drew ?_) | (with_reducible refine Vg.Grows.setCell ?_ ?_ _) | (with_reducible refine Vg.Grows.put ?_ ?_ _) | omega | (simp; omega) | (simp; done))), H_hsy.out.grows (by (repeat' (first | (with_reducible exact Vg.Grows.refl _) | (with_reducible assumption) | (with_reducible refine Vg.Grows.alloc ?_ _) | (with_reducible refine Vg.Grows.plus ?_ _ _) | (with_reducible refine Vg.Grows.drewN ?_ _) | (with_reducible refine Vg.Grows.drew ?_) | (with_reducible refine Vg.Grows.setCell ?_ ?_ _) | (with_reducible refine Vg.Grows.put ?_ ?_ _) | omega | (simp; omega) | (simp; done)))), Vg.Grows.blk (by (repeat' (first | (with_reducible exact Vg.Grows.refl _) | (with_reducible assumption) | (with_reducible refine Vg.Grows.alloc ?_ _) | (with_reducible refine Vg.Grows.plus ?_ _ _) | (with_reducible refine Vg.Grows.drewN ?_ _) | (with_reducible refine Vg.Grows.drew ?_) | (with_reducible refine Vg.Grows.setCell ?_ ?_ _) | (with_reducible refine Vg.Grows.put ?_ ?_ _) | omega | (simp; omega) | (simp; done)))) H_y3.out, ⟨_, _, rfl, H_hrr.out.grows (by (repeat' (first | (with_reducible exact Vg.Grows.refl _) | (with_reducible assumption) | (with_reducible refine Vg.Grows.alloc ?_ _) | (with_reducible refine Vg.Grows.plus ?_ _ _) | (with_reducible refine Vg.Grows.drewN ?_ _) | (with_reducible refine Vg.Grows.drew ?_) | (with_reducible refine Vg.Grows.setCell ?_ ?_ _) | (with_reducible refine Vg.Grows.put ?_ ?_ _) | omega | (simp; omega) | (simp; done))))⟩⟩, by simp [intOf]; omega⟩
        · go_wp2
          go_ret
          exact ⟨rfl, hgr⟩
  · have hb : (decide (1 ≤ room) && decide (room ≤ 1024)) = false := by
      rw [← Bool.not_eq_true]; simp; omega
    have HB := Lib.hid hb
    clear hb
    go_enter Try.func8, Try.ntmps8
    go_wp2_with (first | (go_at_call 40; refine (lives13 _).mono ?_; rintro e w1 ⟨rfl, x0, n0, rfl⟩) | (go_at_call 41; refine (bx_new_no room (by omega)).mono ?_; rintro e w1 ⟨rfl, rfl⟩) | (go_at_call 42; refine (ref13_new room).mono ?_; rintro e w1 ⟨rfl, x1, n1, rfl⟩; rw [HB.out]))
    go_ret
    exact ⟨rfl, by (repeat' (first | (with_reducible exact Vg.Grows.refl _) | (with_reducible assumption) | (with_reducible refine Vg.Grows.alloc ?_ _) | (with_reducible refine Vg.Grows.plus ?_ _ _) | (with_reducible refine Vg.Grows.drewN ?_ _) | (with_reducible refine Vg.Grows.drew ?_) | (with_reducible refine Vg.Grows.setCell ?_ ?_ _) | (with_reducible refine Vg.Grows.put ?_ ?_ _) | omega | (simp; omega) | (simp; done)))⟩
end Go.Proofs.Ytlgkcpgmnpoanaa
