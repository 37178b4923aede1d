/- ServerPlays: the walk. -/
import Derived.Test.YtlgkcpgmnpoanaaServerB
import Derived.Test.YtlgkcpgmnpoanaaServerC
set_option linter.unusedSimpArgs false
set_option linter.unusedVariables false
set_option maxHeartbeats 4000000
set_option maxRecDepth 20000
namespace Go.Proofs.Ytlgkcpgmnpoanaa
open Go.ChangeShapes Go.WideShapes Go.ChangeAt Go.RowKit
theorem plain15x {k n at_ last k1 k2 k3 : Int} (hx : Vg.effs last (k, n, at_) = (k1, k2, k3)) (w : World) (hl : 0 ≤ last ∧ last ≤ 4503599627370496) (hn : -9223372036854775808 ≤ n ∧ n ≤ 9223372036854775807) (ha : -9223372036854775808 ≤ at_ ∧ at_ ≤ 9223372036854775807) :
    Calls Try.prog 29 #[.agg #[.int .i64 k, .int .i64 n, .int .i64 at_], .int .i64 last] w fun e w' => e = .returned (.agg #[.int .i64 k1, .int .i64 k2, .int .i64 k3]) ∧ Vg.Grows w w' := by
  have := plain15 k n at_ last w hl hn ha
  rw [hx] at this
  exact this
section
variable {w w0 wx w2 w3 : World} {b bw B S : Nat} {bu pe : Int} {s s' : Vg.Srv} {v v2 v' v2' : Value} {o o' : Obj}
theorem RA.shape (h : RA w S s v) : ∃ a c, v = .slice a s.L.length c := by obtain ⟨a, c, hv, _⟩ := h; exact ⟨a, c, hv⟩
theorem SA.put (h : SA w b B bu pe s v) (hb : bw ≠ b) (hv : v.ownBlock ≠ some bw) : SA (Vg.put w bw o) b B bu pe s v :=
  h.kept (Vg.put_heap_other hb) fun k hk => Vg.put_heap_other (fun e => hv (by rw [e]; exact hk))
theorem RA.put (h : RA w S s v) (hb : bw < S) : RA (Vg.put w bw o) S s v :=
  h.touch ((Vg.Touch.refl (fun k => k = bw) w).put rfl o) fun k hk e => by have := (h.own k hk).1; omega
theorem both_step (n1 : bw < S) (n2 : b < S) (n3 : w0.heap.size ≤ b) (n4 : w0.heap.size ≤ bw) (n5 : bw ≠ b) (n6 : w0.heap.size ≤ S) (hSx : S ≤ wx.heap.size) (hg : Vg.Grows w0 wx) (hs : SA wx b B bu pe s v) (hap : ∀ j, v.ownBlock = some j → S ≤ j ∧ v2.ownBlock ≠ some j) (hr : RA wx S s v2)
    (hra2 : RA w2 S s' v2') (hov2 : ∀ k, v2'.ownBlock = some k → v2.ownBlock = some k ∨ wx.heap.size ≤ k) (hg2 : Vg.Grows wx w2)
    (hsa3 : SA w3 b B bu pe s' v') (ht3 : Vg.Touch (fun k => k = b ∨ v.ownBlock = some k) (w2.alloc o) w3) (hov3 : ∀ k, v'.ownBlock = some k → v.ownBlock = some k ∨ (w2.alloc o).heap.size ≤ k) :
    S ≤ (Vg.put w3 bw o').heap.size ∧ Vg.Grows w0 (Vg.put w3 bw o') ∧ SA (Vg.put w3 bw o') b B bu pe s' v' ∧ Vg.blk (Vg.put w3 bw o') bw = some o' ∧ RA (Vg.put w3 bw o') S s' v2' ∧ (∀ j, v'.ownBlock = some j → S ≤ j ∧ v2'.ownBlock ≠ some j) := by
  have hz2 := hg2.size
  have hz3 := ht3.size
  rw [World.size_alloc] at hz3
  have hown := hs.own
  have hl3 : bw < w3.heap.size := by omega
  have hap' : ∀ j, v'.ownBlock = some j → S ≤ j ∧ v2'.ownBlock ≠ some j := fun j hj => by
    rcases hov3 j hj with h | h
    · refine ⟨(hap j h).1, fun h2 => ?_⟩
      rcases hov2 j h2 with h3 | h3
      · exact (hap j h).2 h3
      · have := (hown j h).2; omega
    · rw [World.size_alloc] at h
      refine ⟨by omega, fun h2 => ?_⟩
      have := (hra2.own j h2).2
      omega
  have hra3 : RA w3 S s' v2' := (hra2.grows ((Vg.Grows.refl _).alloc o)).touch ht3 fun k hk hh => by
    rcases hh with rfl | hh
    · rcases hov2 k hk with h3 | h3
      · have := (hr.own k h3).1; omega
      · omega
    · rcases hov2 k hk with h3 | h3
      · exact (hap k hh).2 h3
      · have := (hown k hh).2; omega
  refine ⟨by rw [Vg.put_size]; omega, ?_, hsa3.put n5 (fun h => by have := (hap' bw h).1; omega), Vg.put_heap_same hl3, hra3.put n1, hap'⟩
  refine Vg.Grows.put (ht3.grows ((hg.trans hg2).alloc o) fun k hk => ?_) n4 _
  rcases hk with rfl | hk
  · exact n3
  · have := (hap k hk).1; omega
end
theorem ServerPlays_walk (bu pe : Int) (a : Option Addr) (len cap : Nat) (D : Nat → Nat → Int) (w : World) (hm0 : -9223372036854775808 ≤ bu) (hm1 : bu ≤ 9223372036854775807) (hw0 : -9223372036854775808 ≤ pe) (hw1 : pe ≤ 9223372036854775807) (hr : Vg.intRows w [.i64, .i64, .i64] a len cap D) :
    Calls Try.prog 5 #[.int .i64 bu, .int .i64 pe, .slice a len cap] w fun e w' => e = .returned (.bool true) ∧ Vg.Grows w w' := by
  by_cases hok : 1 ≤ bu ∧ bu ≤ pe ∧ pe ≤ 1099511627776
  · obtain ⟨h1, h2, h3⟩ := hok
    have hb : (decide (1 ≤ bu) && decide (bu ≤ pe) && decide (pe ≤ 1099511627776)) = true := by simp; omega
    have HB := Lib.hid hb
    clear hb
    have hlen := hr.1
    have hcap : cap ≤ 9223372036854775807 := hr.2.1
    by_cases hl : 100 < len
    · go_enter Try.func5, Try.ntmps5
      go_wp2_with (first | (go_at_call 26; refine (lives15 _).mono ?_; rintro e w1 ⟨rfl, x0, n0, rfl⟩) | (go_at_call 27; refine (sa_new h1 h2 h3).mono ?_; rintro e w1 ⟨rfl, hs, rfl⟩; have HSA := Lib.hid hs; clear hs) | (go_at_call 28; refine (ref15_new bu pe).mono ?_; rintro e w1 ⟨rfl, x1, n1, rfl⟩; rw [HB.out]))
      go_ret
      exact ⟨rfl, by (repeat' (first | (with_reducible exact Vg.Grows.refl _) | (with_reducible assumption) | (with_reducible refine Vg.Grows.alloc ?_ _) | (with_reducible refine Vg.Grows.plus ?_ _ _) | (with_reducible refine Vg.Grows.drewN ?_ _) | (with_reducible refine Vg.Grows.drew ?_) | (with_reducible refine Vg.Grows.setCell ?_ ?_ _) | (with_reducible refine Vg.Grows.put ?_ ?_ _) | omega | (simp; omega) | (simp; done)))⟩
    · have RH := Lib.hid (fun h => Vg.intRows.open (by decide) hr h)
      clear hr
      go_enter Try.func5, Try.ntmps5
      go_wp2_with (first | (go_at_call 26; refine (lives15 _).mono ?_; rintro e w1 ⟨rfl, x0, n0, rfl⟩) | (go_at_call 27; refine (sa_new h1 h2 h3).mono ?_; rintro e w1 ⟨rfl, hs, rfl⟩; have HSA := Lib.hid hs; clear hs) | (go_at_call 28; refine (ref15_new bu pe).mono ?_; rintro e w1 ⟨rfl, x1, n1, rfl⟩; rw [HB.out]))
      obtain ⟨b, hb⟩ : ∃ b, w.heap.size + Vg.sz x0 = b := ⟨_, rfl⟩
      obtain ⟨bw, hbw⟩ : ∃ bw, w.heap.size + 1 + Vg.sz x0 + Vg.sz x1 = bw := ⟨_, rfl⟩
      obtain ⟨W0, hW0⟩ : ∃ W0, (Vg.plus ((Vg.plus w x0 n0).alloc (servC bu pe (.slice none 0 0) 0)) x1 n1).alloc (rservC bu pe (.slice none 0 0) 0) = W0 := ⟨_, rfl⟩
      have g1 : SA W0 b (b + 1) bu pe ⟨[], 0⟩ (.slice none 0 0) := by
        have hs := HSA.out
        simp only [Vg.plus_size, hb] at hs
        rw [← hW0]
        exact hs.grows (by (repeat' (first | (with_reducible exact Vg.Grows.refl _) | (with_reducible assumption) | (with_reducible refine Vg.Grows.alloc ?_ _) | (with_reducible refine Vg.Grows.plus ?_ _ _) | (with_reducible refine Vg.Grows.drewN ?_ _) | (with_reducible refine Vg.Grows.drew ?_) | (with_reducible refine Vg.Grows.setCell ?_ ?_ _) | (with_reducible refine Vg.Grows.put ?_ ?_ _) | omega | (simp; omega) | (simp; done))))
      have g3 : Vg.blk W0 bw = some (rservC bu pe (.slice none 0 0) 0) := by rw [← hW0, ← hbw]; simp [go_sem]
      have g4 : Vg.Grows w W0 := by rw [← hW0]; (repeat' (first | (with_reducible exact Vg.Grows.refl _) | (with_reducible assumption) | (with_reducible refine Vg.Grows.alloc ?_ _) | (with_reducible refine Vg.Grows.plus ?_ _ _) | (with_reducible refine Vg.Grows.drewN ?_ _) | (with_reducible refine Vg.Grows.drew ?_) | (with_reducible refine Vg.Grows.setCell ?_ ?_ _) | (with_reducible refine Vg.Grows.put ?_ ?_ _) | omega | (simp; omega) | (simp; done)))
      have g5 : bw < W0.heap.size := Vg.lt_of g3
      have g6 : b < W0.heap.size := g1.lt
      have n1' : bw ≠ b := by omega
      have n2' : b ≠ bw := by omega
      have n3' : w.heap.size ≤ b := by omega
      have n4' : w.heap.size ≤ bw := by omega
      have n5' := g4.size
      simp only [hb, hbw]
      rw [hW0]
      have H_hb := Lib.hid hb; clear hb; have H_hbw := Lib.hid hbw; clear hbw; have H_hW0 := Lib.hid hW0; clear hW0; have H_g1 := Lib.hid g1; clear g1; have H_g3 := Lib.hid g3; clear g3
      clear HSA
      obtain ⟨S, hS⟩ : ∃ S, W0.heap.size = S := ⟨_, rfl⟩
      rw [hS] at g5 g6 n5'
      have H_hS := Lib.hid hS; clear hS
      go_loopw [65] (fun i wr => ∃ (k : Nat) (s : Vg.Srv) (v v2 : Value), k ≤ len ∧ i = .int .i64 k ∧ s.Inv bu ∧ S ≤ wr.heap.size ∧ Vg.Grows w wr ∧ SA wr b (b + 1) bu pe s v ∧ Vg.blk wr bw = some (rservC bu pe v2 s.last) ∧ RA wr S s v2 ∧
          (∀ j, v.ownBlock = some j → S ≤ j ∧ v2.ownBlock ≠ some j)) (fun i _ => len - (intOf i).toNat)
      case atStart =>
        exact ⟨0, ⟨[], 0⟩, _, _, by omega, rfl, Vg.Srv.inv0 h1, by rw [H_hS.out]; exact Nat.le_refl _, g4, H_g1.out, H_g3.out, ⟨none, 0, rfl, Vg.Reads.nil _ _⟩, fun j hj => by simp [Value.ownBlock] at hj⟩
      case round =>
        obtain ⟨k, s, v, v2, hk, rfl, hinv, hsz, hgr, hsa, b3, hra, hap⟩ := hrel
        by_cases hlt : k < len
        · obtain ⟨ba, off, rfl, hba, hc⟩ := RH.out (by omega)
          have hc0 := hc k hlt 0 (by decide)
          have hc1 := hc k hlt 1 (by decide)
          have hc2 := hc k hlt 2 (by decide)
          generalize D k 0 = kd at hc0
          generalize D k 1 = n_ at hc1
          generalize D k 2 = at_ at hc2
          simp only [List.length_cons, List.length_nil, Nat.zero_add, List.getElem_cons_zero, List.getElem_cons_succ] at hc0 hc1 hc2
          obtain ⟨hc0, hw0'⟩ := hc0
          obtain ⟨hc1, hw1'⟩ := hc1
          obtain ⟨hc2, hw2'⟩ := hc2
          have hbn := bounds_i64 hw1'
          have hbt := bounds_i64 hw2'
          have hc0 := (hgr.below.cell (p := ⟨ba, off + k * 3, none⟩) hba).trans hc0
          have hc1 := (hgr.below.cell (p := ⟨ba, off + k * 3 + 1, none⟩) hba).trans hc1
          have hc2 := (hgr.below.cell (p := ⟨ba, off + k * 3 + 2, none⟩) hba).trans hc2
          have hbar : ba < wr.heap.size := Nat.lt_of_lt_of_le hba hgr.size
          have hl0 : 0 ≤ s.last ∧ s.last ≤ 4503599627370496 := ⟨hinv.1, hinv.2.1⟩
          clear hc hw0' hw1' hw2'
          obtain ⟨⟨k1, k2, k3⟩, hx⟩ : ∃ x, Vg.effs s.last (kd, n_, at_) = x := ⟨_, rfl⟩
          have hxb := Vg.effs_bd (x := (kd, n_, at_)) hl0 hbt
          rw [hx] at hxb
          have hk2 : k2 = n_ := hxb.2.2
          have hk3 : -9223372036854775808 ≤ k3 ∧ k3 ≤ 9223372036854775807 := ⟨hxb.1, hxb.2.1⟩
          have hk2b : -9223372036854775808 ≤ k2 ∧ k2 ≤ 9223372036854775807 := by rw [hk2]; exact hbn
          clear hxb hk2
          have hsl := hsa.own
          have c_b3 := Vg.cells_of b3; have f_b3 := Vg.frozen_of b3; have p_b3 := Vg.setCell_of b3; have l_b3 := Vg.lt_of b3; have H_b3 := Lib.hid b3; clear b3
          have H_hx := Lib.hid hx; clear hx; have H_hsa := Lib.hid hsa; clear hsa; have H_hra := Lib.hid hra; clear hra; have H_hap := Lib.hid hap; clear hap; have H_hinv := Lib.hid hinv; clear hinv; have H_hsl := Lib.hid hsl; clear hsl
          go_upto_block 2 with ((go_at_call 29; refine (plain15x H_hx.out _ hl0 hbn hbt).mono ?_; rintro e w1 ⟨rfl, xx, nn, rfl⟩))
          obtain ⟨wx, hwx⟩ : ∃ wx, Vg.plus (wr.alloc (.cells #[.int .i64 k1, .int .i64 k2, .int .i64 k3] 57)) xx nn = wx := ⟨_, rfl⟩
          obtain ⟨bt, hbt'⟩ : ∃ bt, wr.heap.size = bt := ⟨_, rfl⟩
          have x1 : Vg.blk wx bw = some (rservC bu pe v2 s.last) := by rw [← hwx]; exact Vg.Grows.blk (by (repeat' (first | (with_reducible exact Vg.Grows.refl _) | (with_reducible assumption) | (with_reducible refine Vg.Grows.alloc ?_ _) | (with_reducible refine Vg.Grows.plus ?_ _ _) | (with_reducible refine Vg.Grows.drewN ?_ _) | (with_reducible refine Vg.Grows.drew ?_) | (with_reducible refine Vg.Grows.setCell ?_ ?_ _) | (with_reducible refine Vg.Grows.put ?_ ?_ _) | omega | (simp; omega) | (simp; done)))) H_b3.out
          have x2 : Vg.blk wx bt = some (.cells #[.int .i64 k1, .int .i64 k2, .int .i64 k3] 57) := by rw [← hwx, ← hbt']; simp [go_sem]
          have hgx : Vg.Grows wr wx := by rw [← hwx]; (repeat' (first | (with_reducible exact Vg.Grows.refl _) | (with_reducible assumption) | (with_reducible refine Vg.Grows.alloc ?_ _) | (with_reducible refine Vg.Grows.plus ?_ _ _) | (with_reducible refine Vg.Grows.drewN ?_ _) | (with_reducible refine Vg.Grows.drew ?_) | (with_reducible refine Vg.Grows.setCell ?_ ?_ _) | (with_reducible refine Vg.Grows.put ?_ ?_ _) | omega | (simp; omega) | (simp; done)))
          have hsx : SA wx b (b + 1) bu pe s v := H_hsa.out.grows hgx
          have hrx : RA wx S s v2 := H_hra.out.grows hgx
          have hSx : S ≤ wx.heap.size := Nat.le_trans hsz hgx.size
          have hgwx : Vg.Grows w wx := hgr.trans hgx
          have hbS : S ≤ bt := by omega
          have m1 : bt ≠ bw := by omega
          have m2 : bw ≠ bt := by omega
          have m3 : bt ≠ b := by omega
          have m4 : ∀ j, v.ownBlock = some j → j < bt := fun j hj => by rw [← hbt']; exact (H_hsl.out j hj).2
          have M4 := Lib.hid m4
          clear m4
          rw [hwx, hbt']
          clear c_b3 f_b3 p_b3
          have c_x1 := Vg.cells_of x1; have f_x1 := Vg.frozen_of x1; have p_x1 := Vg.setCell_of x1; have l_x1 := Vg.lt_of x1; have H_x1 := Lib.hid x1; clear x1; have c_x2 := Vg.cells_of x2; have f_x2 := Vg.frozen_of x2; have p_x2 := Vg.setCell_of x2; have l_x2 := Vg.lt_of x2; have H_x2 := Lib.hid x2; clear x2
          have H_hsx := Lib.hid hsx; clear hsx; have H_hrx := Lib.hid hrx; clear hrx; have H_hwx := Lib.hid hwx; clear hwx; have H_hbt' := Lib.hid hbt'; clear hbt'
          go_cut [] (fun wy => ∃ v' v2', S ≤ wy.heap.size ∧ Vg.Grows w wy ∧ SA wy b (b + 1) bu pe (s.act bu pe (k1, k2, k3)) v' ∧ Vg.blk wy bw = some (rservC bu pe v2' (s.act bu pe (k1, k2, k3)).last) ∧ RA wy S (s.act bu pe (k1, k2, k3)) v2' ∧
              (∀ j, v'.ownBlock = some j → S ≤ j ∧ v2'.ownBlock ≠ some j))
          case first =>
            by_cases hv0 : k1 = 0
            · subst hv0
              have ha : s.act bu pe (0, k2, k3) = (s.use bu pe k2 k3).1 := rfl
              have H_ha := Lib.hid ha; clear ha
              go_wp2_with (first | (go_at_call 30; refine (ra_use (s := s) (S := S) k2 k3 H_hrx.out hSx H_hinv.out ⟨by omega, h3⟩ ⟨h1, by omega⟩ hk3).mono ?_; rintro e w2 ⟨v2', rfl, hra2, hov2, hg2⟩; obtain ⟨sa2, sc2, rfl⟩ := hra2.shape; have y1 := hg2.blk H_x1.out; have y2 := hg2.blk H_x2.out; have hs2 := H_hsx.out.grows hg2; have hz2 := hg2.size; clear c_x1 f_x1 p_x1 c_x2 f_x2 p_x2; have c_y1 := Vg.cells_of y1; have f_y1 := Vg.frozen_of y1; have p_y1 := Vg.setCell_of y1; have l_y1 := Vg.lt_of y1; have H_y1 := Lib.hid y1; clear y1; have c_y2 := Vg.cells_of y2; have f_y2 := Vg.frozen_of y2; have p_y2 := Vg.setCell_of y2; have l_y2 := Vg.lt_of y2; have H_y2 := Lib.hid y2; clear y2; have H_hra2 := Lib.hid hra2; clear hra2; have H_hov2 := Lib.hid hov2; clear hov2; have H_hs2 := Lib.hid hs2; clear hs2; have H_hg2 := Lib.hid hg2; clear hg2) | (go_at_call 31; refine (sa_use (s := s) (v := v) (B := b + 1) k2 k3 (H_hs2.out.grows (by (repeat' (first | (with_reducible exact Vg.Grows.refl _) | (with_reducible assumption) | (with_reducible refine Vg.Grows.alloc ?_ _) | (with_reducible refine Vg.Grows.plus ?_ _ _) | (with_reducible refine Vg.Grows.drewN ?_ _) | (with_reducible refine Vg.Grows.drew ?_) | (with_reducible refine Vg.Grows.setCell ?_ ?_ _) | (with_reducible refine Vg.Grows.put ?_ ?_ _) | omega | (simp; omega) | (simp; done))))) (by omega) (by rw [World.size_alloc]; omega) H_hinv.out ⟨by omega, h3⟩ ⟨h1, by omega⟩ hk2b hk3).mono ?_; rintro e w3 ⟨v', rfl, hsa3, ht3, hov3⟩; have z1 := ht3.blk ((Vg.alloc_heap_past l_y1).trans H_y1.out) (fun hh => hh.elim (fun h => n1' h) (fun h => by have := (H_hap.out _ h).1; omega)); have z2 := ht3.blk (Vg.alloc_heap_at rfl) (fun hh => hh.elim (fun h => by omega) (fun h => by have := M4.out _ h; omega)); have z3 := ht3.blk ((Vg.alloc_heap_past l_y2).trans H_y2.out) (fun hh => hh.elim (fun h => m3 h) (fun h => by have := M4.out _ h; omega)); clear c_y1 f_y1 p_y1 c_y2 f_y2 p_y2; have c_z1 := Vg.cells_of z1; have f_z1 := Vg.frozen_of z1; have p_z1 := Vg.setCell_of z1; have l_z1 := Vg.lt_of z1; have H_z1 := Lib.hid z1; clear z1; have c_z2 := Vg.cells_of z2; have f_z2 := Vg.frozen_of z2; have p_z2 := Vg.setCell_of z2; have l_z2 := Vg.lt_of z2; have H_z2 := Lib.hid z2; clear z2; have c_z3 := Vg.cells_of z3; have f_z3 := Vg.frozen_of z3; have p_z3 := Vg.setCell_of z3; have l_z3 := Vg.lt_of z3; have H_z3 := Lib.hid z3; clear z3; have H_hsa3 := Lib.hid hsa3; clear hsa3; have H_ht3 := Lib.hid ht3; clear ht3; have H_hov3 := Lib.hid hov3; clear hov3))
              go_meet
              rw [H_ha.out]
              exact ⟨v', .slice sa2 _ sc2, both_step g5 g6 n3' n4' n1' n5' hSx hgwx H_hsx.out H_hap.out H_hrx.out H_hra2.out H_hov2.out H_hg2.out H_hsa3.out H_ht3.out H_hov3.out⟩
            · by_cases hv1 : k1 = 1
              · subst hv1
                have ha : s.act bu pe (1, k2, k3) = (s.refill k3).1 := rfl
                have H_ha := Lib.hid ha; clear ha
                go_wp2_with (first | (go_at_call 32; refine (ra_refill (s := s) (S := S) k3 H_hrx.out hSx H_hinv.out ⟨h1, by omega⟩).mono ?_; rintro e w2 ⟨v2', rfl, hra2, hov2, hg2⟩; obtain ⟨sa2, sc2, rfl⟩ := hra2.shape; have y1 := hg2.blk H_x1.out; have y2 := hg2.blk H_x2.out; have hs2 := H_hsx.out.grows hg2; have hz2 := hg2.size; clear c_x1 f_x1 p_x1 c_x2 f_x2 p_x2; have c_y1 := Vg.cells_of y1; have f_y1 := Vg.frozen_of y1; have p_y1 := Vg.setCell_of y1; have l_y1 := Vg.lt_of y1; have H_y1 := Lib.hid y1; clear y1; have c_y2 := Vg.cells_of y2; have f_y2 := Vg.frozen_of y2; have p_y2 := Vg.setCell_of y2; have l_y2 := Vg.lt_of y2; have H_y2 := Lib.hid y2; clear y2; have H_hra2 := Lib.hid hra2; clear hra2; have H_hov2 := Lib.hid hov2; clear hov2; have H_hs2 := Lib.hid hs2; clear hs2; have H_hg2 := Lib.hid hg2; clear hg2) | (go_at_call 33; refine (sa_refill (s := s) (v := v) (B := b + 1) k3 (H_hs2.out.grows (by (repeat' (first | (with_reducible exact Vg.Grows.refl _) | (with_reducible assumption) | (with_reducible refine Vg.Grows.alloc ?_ _) | (with_reducible refine Vg.Grows.plus ?_ _ _) | (with_reducible refine Vg.Grows.drewN ?_ _) | (with_reducible refine Vg.Grows.drew ?_) | (with_reducible refine Vg.Grows.setCell ?_ ?_ _) | (with_reducible refine Vg.Grows.put ?_ ?_ _) | omega | (simp; omega) | (simp; done))))) (by omega) H_hinv.out ⟨h1, by omega⟩).mono ?_; rintro e w3 ⟨v', rfl, hsa3, ht3, hov3⟩; have z1 := ht3.blk ((Vg.alloc_heap_past l_y1).trans H_y1.out) (fun hh => hh.elim (fun h => n1' h) (fun h => by have := (H_hap.out _ h).1; omega)); have z2 := ht3.blk (Vg.alloc_heap_at rfl) (fun hh => hh.elim (fun h => by omega) (fun h => by have := M4.out _ h; omega)); have z3 := ht3.blk ((Vg.alloc_heap_past l_y2).trans H_y2.out) (fun hh => hh.elim (fun h => m3 h) (fun h => by have := M4.out _ h; omega)); clear c_y1 f_y1 p_y1 c_y2 f_y2 p_y2; have c_z1 := Vg.cells_of z1; have f_z1 := Vg.frozen_of z1; have p_z1 := Vg.setCell_of z1; have l_z1 := Vg.lt_of z1; have H_z1 := Lib.hid z1; clear z1; have c_z2 := Vg.cells_of z2; have f_z2 := Vg.frozen_of z2; have p_z2 := Vg.setCell_of z2; have l_z2 := Vg.lt_of z2; have H_z2 := Lib.hid z2; clear z2; have c_z3 := Vg.cells_of z3; have f_z3 := Vg.frozen_of z3; have p_z3 := Vg.setCell_of z3; have l_z3 := Vg.lt_of z3; have H_z3 := Lib.hid z3; clear z3; have H_hsa3 := Lib.hid hsa3; clear hsa3; have H_ht3 := Lib.hid ht3; clear ht3; have H_hov3 := Lib.hid hov3; clear hov3))
                go_meet
                rw [H_ha.out]
                exact ⟨v', .slice sa2 _ sc2, both_step g5 g6 n3' n4' n1' n5' hSx hgwx H_hsx.out H_hap.out H_hrx.out H_hra2.out H_hov2.out H_hg2.out H_hsa3.out H_ht3.out H_hov3.out⟩
              · have ha : s.act bu pe (k1, k2, k3) = s := by unfold Vg.Srv.act; simp [hv0, hv1]
                have hb0 : (k1 == 0) = false := by simp [hv0]
                have hb1 : (k1 == 1) = false := by simp [hv1]
                have H_ha := Lib.hid ha; clear ha
                clear hv0 hv1
                go_wp2_with fail
                go_meet
                rw [H_ha.out]
                exact ⟨v, v2, hSx, hgwx, H_hsx.out, H_x1.out, H_hrx.out, H_hap.out⟩
          case rest =>
            obtain ⟨v', v2', hSy, hgy, hsy, y3, hry, hapy⟩ := hcut
            have hinv' : (s.act bu pe (k1, k2, k3)).Inv bu := Vg.Srv.act_inv _ H_hinv.out ⟨by omega, h3⟩
            generalize s.act bu pe (k1, k2, k3) = s' at hsy y3 hry hinv'
            obtain ⟨sa2, sc2, rfl⟩ := hry.shape
            clear c_x1 f_x1 p_x1 c_x2 f_x2 p_x2
            have c_y3 := Vg.cells_of y3; have f_y3 := Vg.frozen_of y3; have p_y3 := Vg.setCell_of y3; have l_y3 := Vg.lt_of y3; have H_y3 := Lib.hid y3; clear y3
            have H_hsy := Lib.hid hsy; clear hsy; have H_hry := Lib.hid hry; clear hry; have H_hapy := Lib.hid hapy; clear hapy; have H_hinv' := Lib.hid hinv'; clear hinv'
            go_wp2_with (first | (go_at_call 34; refine (sa_next H_hsy.out).mono ?_; rintro e w' ⟨rfl, rfl⟩) | (go_at_call 35; refine (ra_next (s := s') H_hry.out).mono ?_; rintro e w1 ⟨rfl, xn, nn', rfl⟩))
            obtain ⟨wz, hwz⟩ : ∃ wz, Vg.plus wc xn nn' = wz := ⟨_, rfl⟩
            have hgz : Vg.Grows wc wz := by rw [← hwz]; (repeat' (first | (with_reducible exact Vg.Grows.refl _) | (with_reducible assumption) | (with_reducible refine Vg.Grows.alloc ?_ _) | (with_reducible refine Vg.Grows.plus ?_ _ _) | (with_reducible refine Vg.Grows.drewN ?_ _) | (with_reducible refine Vg.Grows.drew ?_) | (with_reducible refine Vg.Grows.setCell ?_ ?_ _) | (with_reducible refine Vg.Grows.put ?_ ?_ _) | omega | (simp; omega) | (simp; done)))
            have y4 : Vg.blk wz bw = some (rservC bu pe (.slice sa2 s'.L.length sc2) s'.last) := hgz.blk H_y3.out
            have hsz' : SA wz b (b + 1) bu pe s' v' := H_hsy.out.grows hgz
            have hrz : RA wz S s' (.slice sa2 s'.L.length sc2) := H_hry.out.grows hgz
            have hgwz : Vg.Grows w wz := hgy.trans hgz
            have hSz : S ≤ wz.heap.size := Nat.le_trans hSy hgz.size
            rw [hwz]
            clear c_y3 f_y3 p_y3
            have c_y4 := Vg.cells_of y4; have f_y4 := Vg.frozen_of y4; have p_y4 := Vg.setCell_of y4; have l_y4 := Vg.lt_of y4; have H_y4 := Lib.hid y4; clear y4
            have H_hwz := Lib.hid hwz; clear hwz; have H_hsz' := Lib.hid hsz'; clear hsz'; have H_hrz := Lib.hid hrz; clear hrz
            go_region_held3 (fun w' => Vg.Grows wz w' ∧ bw < w'.heap.size ∧ w'.cell? ⟨bw, 0, none⟩ = some (.int .i64 bu) ∧ w'.cell? ⟨bw, 1, none⟩ = some (.int .i64 pe) ∧ w'.cell? ⟨bw, 2, none⟩ = some (.slice sa2 s'.L.length sc2) ∧ w'.cell? ⟨bw, 3, none⟩ = some (.int .i64 s'.last))
              ((go_split_ands; (try dsimp only); refine ⟨by (repeat' (first | (with_reducible exact Vg.Grows.refl _) | (with_reducible assumption) | (with_reducible refine Vg.Grows.alloc ?_ _) | (with_reducible refine Vg.Grows.plus ?_ _ _) | (with_reducible refine Vg.Grows.drewN ?_ _) | (with_reducible refine Vg.Grows.drew ?_) | (with_reducible refine Vg.Grows.setCell ?_ ?_ _) | (with_reducible refine Vg.Grows.put ?_ ?_ _) | omega | (simp; omega) | (simp; done))), ?_⟩; go_simp))
              (first | (go_at_call 36; refine (sa_left (H_hsz'.out.grows (by (repeat' (first | (with_reducible exact Vg.Grows.refl _) | (with_reducible assumption) | (with_reducible refine Vg.Grows.alloc ?_ _) | (with_reducible refine Vg.Grows.plus ?_ _ _) | (with_reducible refine Vg.Grows.drewN ?_ _) | (with_reducible refine Vg.Grows.drew ?_) | (with_reducible refine Vg.Grows.setCell ?_ ?_ _) | (with_reducible refine Vg.Grows.put ?_ ?_ _) | omega | (simp; omega) | (simp; done)))))).mono ?_; rintro e w' ⟨rfl, rfl⟩) | (go_at_call 38; refine (sa_waits (H_hsz'.out.grows (by (repeat' (first | (with_reducible exact Vg.Grows.refl _) | (with_reducible assumption) | (with_reducible refine Vg.Grows.alloc ?_ _) | (with_reducible refine Vg.Grows.plus ?_ _ _) | (with_reducible refine Vg.Grows.drewN ?_ _) | (with_reducible refine Vg.Grows.drew ?_) | (with_reducible refine Vg.Grows.setCell ?_ ?_ _) | (with_reducible refine Vg.Grows.put ?_ ?_ _) | omega | (simp; omega) | (simp; done)))))).mono ?_; rintro e w' ⟨rfl, rfl⟩) | (go_at_call 37; refine (ra_left (s := s') (H_hrz.out.grows (by (repeat' (first | (with_reducible exact Vg.Grows.refl _) | (with_reducible assumption) | (with_reducible refine Vg.Grows.alloc ?_ _) | (with_reducible refine Vg.Grows.plus ?_ _ _) | (with_reducible refine Vg.Grows.drewN ?_ _) | (with_reducible refine Vg.Grows.drew ?_) | (with_reducible refine Vg.Grows.setCell ?_ ?_ _) | (with_reducible refine Vg.Grows.put ?_ ?_ _) | omega | (simp; omega) | (simp; done))))) H_hinv'.out ⟨h1, by omega⟩).mono ?_; rintro e w1 ⟨rfl, xl, nl, rfl⟩))
            go_wp2
            exact ⟨⟨k + 1, s', v', _, by omega, by go_num, H_hinv'.out, by (try simp only [Vg.plus_size]); omega, by (repeat' (first | (with_reducible exact Vg.Grows.refl _) | (with_reducible assumption) | (with_reducible refine Vg.Grows.alloc ?_ _) | (with_reducible refine Vg.Grows.plus ?_ _ _) | (with_reducible refine Vg.Grows.drewN ?_ _) | (with_reducible refine Vg.Grows.drew ?_) | (with_reducible refine Vg.Grows.setCell ?_ ?_ _) | (with_reducible refine Vg.Grows.put ?_ ?_ _) | omega | (simp; omega) | (simp; done))), H_hsz'.out.grows (by (repeat' (first | (with_reducible exact Vg.Grows.refl _) | (with_reducible assumption) | (with_reducible refine Vg.Grows.alloc ?_ _) | (with_reducible refine Vg.Grows.plus ?_ _ _) | (with_reducible refine Vg.Grows.drewN ?_ _) | (with_reducible refine Vg.Grows.drew ?_) | (with_reducible refine Vg.Grows.setCell ?_ ?_ _) | (with_reducible refine Vg.Grows.put ?_ ?_ _) | omega | (simp; omega) | (simp; done)))), Vg.Grows.blk (by (repeat' (first | (with_reducible exact Vg.Grows.refl _) | (with_reducible assumption) | (with_reducible refine Vg.Grows.alloc ?_ _) | (with_reducible refine Vg.Grows.plus ?_ _ _) | (with_reducible refine Vg.Grows.drewN ?_ _) | (with_reducible refine Vg.Grows.drew ?_) | (with_reducible refine Vg.Grows.setCell ?_ ?_ _) | (with_reducible refine Vg.Grows.put ?_ ?_ _) | omega | (simp; omega) | (simp; done)))) H_y4.out, H_hrz.out.grows (by (repeat' (first | (with_reducible exact Vg.Grows.refl _) | (with_reducible assumption) | (with_reducible refine Vg.Grows.alloc ?_ _) | (with_reducible refine Vg.Grows.plus ?_ _ _) | (with_reducible refine Vg.Grows.drewN ?_ _) | (with_reducible refine Vg.Grows.drew ?_) | (with_reducible refine Vg.Grows.setCell ?_ ?_ _) | (with_reducible refine Vg.Grows.put ?_ ?_ _) | omega | (simp; omega) | (simp; done)))), H_hapy.out⟩, by simp [intOf]; omega⟩
        · go_wp2
          go_ret
          exact ⟨rfl, hgr⟩
  · have hb : (decide (1 ≤ bu) && decide (bu ≤ pe) && decide (pe ≤ 1099511627776)) = false := by
      rw [← Bool.not_eq_true]; simp; omega
    have HB := Lib.hid hb
    clear hb
    go_enter Try.func5, Try.ntmps5
    go_wp2_with (first | (go_at_call 26; refine (lives15 _).mono ?_; rintro e w1 ⟨rfl, x0, n0, rfl⟩) | (go_at_call 27; refine (serv_new_no bu pe (by omega)).mono ?_; rintro e w1 ⟨rfl, rfl⟩) | (go_at_call 28; refine (ref15_new bu pe).mono ?_; rintro e w1 ⟨rfl, x1, n1, rfl⟩; rw [HB.out]))
    go_ret
    exact ⟨rfl, by (repeat' (first | (with_reducible exact Vg.Grows.refl _) | (with_reducible assumption) | (with_reducible refine Vg.Grows.alloc ?_ _) | (with_reducible refine Vg.Grows.plus ?_ _ _) | (with_reducible refine Vg.Grows.drewN ?_ _) | (with_reducible refine Vg.Grows.drew ?_) | (with_reducible refine Vg.Grows.setCell ?_ ?_ _) | (with_reducible refine Vg.Grows.put ?_ ?_ _) | omega | (simp; omega) | (simp; done)))⟩
end Go.Proofs.Ytlgkcpgmnpoanaa
