/- ClockTicks: the walk. -/
import Derived.Test.YtfkkkcihoejjgaaRing
set_option linter.unusedSimpArgs false
set_option linter.unusedVariables false
set_option maxHeartbeats 4000000
set_option maxRecDepth 100000
namespace Go.Proofs.Ytfkkkcihoejjgaa
open Go.ChangeShapes Go.WideShapes Go.ChangeAt Go.RowKit Go.Shelf
theorem clock_read' {c n : Int} {ar la : Bool} {last t : Int} (h : Vg.ckNow c last = (t, 0)) (w : World) (hc : 0 ≤ c ∧ c ≤ 4294967295) :
    Calls Try.prog 21 #[ckV c n ar la last] w fun e w' => e = .returned (.tuple #[ckV c n ar la t, .int .i64 t, .int .i64 0]) ∧ Vg.Grows w w' := by
  refine (clock_read c n ar la last w hc).mono ?_
  rw [h]; exact fun e w' q => q
theorem ClockTicks_walk (c n : Int) (ar la : Bool) (last : Int) (a : Option Addr) (len cap : Nat) (D : Nat → Nat → Int) (w : World) (hc : 0 ≤ c ∧ c ≤ 4294967295) (hn : 0 ≤ n ∧ n ≤ 4294967295) (hr : Vg.intRows w [.u32] a len cap D) :
    Calls Try.prog 6 #[ckV c n ar la last, .slice a len cap] w fun e w' => e = .returned (.bool true) ∧ Vg.Grows w w' := by
  obtain ⟨⟨t, no⟩, hx⟩ : ∃ p, Vg.ckNow c last = p := ⟨_, rfl⟩
  by_cases h : no = 0
  · subst h
    have hok := Vg.ckNow_ok hx
    have hl0 := hok.1.1
    have hl1 := hok.1.2
    have ht0 := hok.2.1
    have ht1 := hok.2.2.1
    have ht2 := hok.2.2.2.2
    have hlt0 : last ≤ t := by omega
    have hlen := hr.1
    have hcap := hr.2.1
    have hcap : cap ≤ 9223372036854775807 := hcap
    have RH := Lib.hid (fun h => Vg.intRows.open (by decide) hr h)
    clear hr
    have H_hx := Lib.hid hx; clear hx; have H_hok := Lib.hid hok; clear hok
    go_enter Try.func6, Try.ntmps6
    go_wp2_with (first | (go_at_call 26; (with_reducible refine (lives03 _).mono ?_); rintro e w1 ⟨rfl, x1, n1, rfl⟩) | (go_at_call 19; (with_reducible refine (clock_now' H_hx.out _ hc).mono ?_); rintro e w1 ⟨rfl, x2, n2, rfl⟩))
    obtain ⟨b0, hb0⟩ : ∃ b, w.heap.size = b := ⟨_, rfl⟩
    obtain ⟨b7, hb7⟩ : ∃ b, w.heap.size + 1 + Vg.sz (x1 ++ x2) = b := ⟨_, rfl⟩
    obtain ⟨W0, hW0⟩ : ∃ W0, (Vg.plus (w.alloc (ckO ⟨c, n, ar, la, last⟩)) (x1 ++ x2) n2).alloc (ckO ⟨c, n, ar, la, last⟩) = W0 := ⟨_, rfl⟩
    have g1 : Vg.blk W0 b0 = some (ckO ⟨c, n, ar, la, last⟩) := by rw [← hW0, ← hb0]; simp [go_sem]
    have g2 : Vg.blk W0 b7 = some (ckO ⟨c, n, ar, la, last⟩) := by rw [← hW0, ← hb7]; simp [go_sem]
    have g4 : Vg.Grows w W0 := by rw [← hW0]; (repeat' (first | (with_reducible exact Vg.Grows.refl _) | (with_reducible assumption) | (with_reducible refine Vg.Grows.alloc ?_ _) | (with_reducible refine Vg.Grows.plus ?_ _ _) | (with_reducible refine Vg.Grows.drewN ?_ _) | (with_reducible refine Vg.Grows.drew ?_) | (with_reducible refine Vg.Grows.setCell ?_ ?_ _) | (with_reducible refine Vg.Grows.put ?_ ?_ _) | omega | (simp; omega) | (simp; done)))
    have n1' : b0 ≠ b7 := by omega
    have n2' : b7 ≠ b0 := by omega
    have n3' : w.heap.size ≤ b0 := by omega
    have n4' : w.heap.size ≤ b7 := by omega
    simp only [hb7]
    simp only [hb0]
    rw [hW0]
    have H_hb0 := Lib.hid hb0; clear hb0; have H_hb7 := Lib.hid hb7; clear hb7; have H_hW0 := Lib.hid hW0; clear hW0; have H_g1 := Lib.hid g1; clear g1; have H_g2 := Lib.hid g2; clear g2
    go_loopw [8, 28] (fun su i wr => ∃ (k : Nat) (sum c' n' : Int) (a' l' : Bool), k ≤ len ∧ k ≤ 40 ∧ i = .int .i64 k ∧ su = .int .i64 sum ∧ 0 ≤ sum ∧ t + sum ≤ 4503599627370496 ∧ t + sum - last < 2147483648 ∧ (0 ≤ c' ∧ c' ≤ 4294967295) ∧ Vg.ckNow c' last = (t + sum, 0) ∧ Vg.Grows w wr ∧ Vg.blk wr b0 = some (ckO ⟨c, n, ar, la, last⟩) ∧ Vg.blk wr b7 = some (ckO ⟨c', n', a', l', last⟩)) (fun _ i _ => len - (intOf i).toNat)
    case atStart =>
      exact ⟨0, 0, c, n, ar, la, by omega, by omega, rfl, rfl, by omega, by omega, by omega, hc, by rw [Int.add_zero]; exact H_hx.out, g4, H_g1.out, H_g2.out⟩
    case round =>
      obtain ⟨k, sum, c', n', a', l', hk, hk40, rfl, rfl, hs0, hs1, hs2, hc', hnow, hgr, d0, d7⟩ := hrel
      by_cases hgo : k < len ∧ k < 40
      · obtain ⟨hlt, hlt40⟩ := hgo
        obtain ⟨b, off, rfl, hb, hcc⟩ := RH.out (by omega)
        have hcc := hcc k hlt 0 (by decide)
        obtain ⟨m, hm⟩ : ∃ m, D k 0 = m := ⟨_, rfl⟩
        rw [hm] at hcc
        obtain ⟨hcc, hw⟩ := hcc
        have hbn := bounds_u32 hw
        simp only [List.length_cons, List.length_nil, Nat.zero_add, Nat.mul_one, Nat.add_zero, List.getElem_cons_zero] at hcc
        clear hw hm
        have hcc := (hgr.below.cell (p := ⟨b, off + k, none⟩) hb).trans hcc
        have hbr : b < wr.heap.size := Nat.lt_of_lt_of_le hb hgr.size
        have hke : ((k : Int) == 40) = false := by simp; omega
        have hadd : IntKind.i64.wrap (t + sum) = t + sum := by rw [IntWalk.i64_in _ (by omega)]
        have hadd2 : IntKind.i64.wrap (t + sum + m) = t + sum + m := by rw [IntWalk.i64_in _ (by omega)]
        have hsub : IntKind.i64.wrap (t + sum + m - last) = t + sum + m - last := by rw [IntWalk.i64_in _ (by omega)]
        by_cases hbig : 2147483648 ≤ m
        · have ht := Vg.tick_range (k := ⟨c', n', a', l', last⟩) hnow hbig
          have c_d0 := Vg.cells_of d0; have f_d0 := Vg.frozen_of d0; have p_d0 := Vg.setCell_of d0; have l_d0 := Vg.lt_of d0; have H_d0 := Lib.hid d0; clear d0; have c_d7 := Vg.cells_of d7; have f_d7 := Vg.frozen_of d7; have p_d7 := Vg.setCell_of d7; have l_d7 := Vg.lt_of d7; have H_d7 := Lib.hid d7; clear d7
          have H_ht := Lib.hid ht; clear ht; have H_hnow := Lib.hid hnow; clear hnow
          go_wp2_with (first | (go_at_call 23; (with_reducible refine (clock_tick' H_ht.out _ hc' hbn.1 hbn.2).mono ?_); rintro e w1 ⟨rfl, x3, n3, rfl⟩))
          exact ⟨⟨k + 1, sum, c', n', a', l', by omega, by omega, by go_num, rfl, hs0, hs1, hs2, hc', H_hnow.out, by (repeat' (first | (with_reducible exact Vg.Grows.refl _) | (with_reducible assumption) | (with_reducible refine Vg.Grows.alloc ?_ _) | (with_reducible refine Vg.Grows.plus ?_ _ _) | (with_reducible refine Vg.Grows.drewN ?_ _) | (with_reducible refine Vg.Grows.drew ?_) | (with_reducible refine Vg.Grows.setCell ?_ ?_ _) | (with_reducible refine Vg.Grows.put ?_ ?_ _) | omega | (simp; omega) | (simp; done))), Vg.Grows.blk (by (repeat' (first | (with_reducible exact Vg.Grows.refl _) | (with_reducible assumption) | (with_reducible refine Vg.Grows.alloc ?_ _) | (with_reducible refine Vg.Grows.plus ?_ _ _) | (with_reducible refine Vg.Grows.drewN ?_ _) | (with_reducible refine Vg.Grows.drew ?_) | (with_reducible refine Vg.Grows.setCell ?_ ?_ _) | (with_reducible refine Vg.Grows.put ?_ ?_ _) | omega | (simp; omega) | (simp; done)))) H_d0.out, Vg.Grows.blk (by (repeat' (first | (with_reducible exact Vg.Grows.refl _) | (with_reducible assumption) | (with_reducible refine Vg.Grows.alloc ?_ _) | (with_reducible refine Vg.Grows.plus ?_ _ _) | (with_reducible refine Vg.Grows.drewN ?_ _) | (with_reducible refine Vg.Grows.drew ?_) | (with_reducible refine Vg.Grows.setCell ?_ ?_ _) | (with_reducible refine Vg.Grows.put ?_ ?_ _) | omega | (simp; omega) | (simp; done)))) H_d7.out⟩, by simp [intOf]; omega⟩
        · by_cases hov : 4503599627370496 < t + sum + m
          · have ht := Vg.tick_over (k := ⟨c', n', a', l', last⟩) (m := m) hnow (by omega) hov
            have c_d0 := Vg.cells_of d0; have f_d0 := Vg.frozen_of d0; have p_d0 := Vg.setCell_of d0; have l_d0 := Vg.lt_of d0; have H_d0 := Lib.hid d0; clear d0; have c_d7 := Vg.cells_of d7; have f_d7 := Vg.frozen_of d7; have p_d7 := Vg.setCell_of d7; have l_d7 := Vg.lt_of d7; have H_d7 := Lib.hid d7; clear d7
            have H_ht := Lib.hid ht; clear ht; have H_hnow := Lib.hid hnow; clear hnow
            go_wp2_with (first | (go_at_call 23; (with_reducible refine (clock_tick' H_ht.out _ hc' hbn.1 hbn.2).mono ?_); rintro e w1 ⟨rfl, x3, n3, rfl⟩))
            exact ⟨⟨k + 1, sum, c', n', a', l', by omega, by omega, by go_num, rfl, hs0, hs1, hs2, hc', H_hnow.out, by (repeat' (first | (with_reducible exact Vg.Grows.refl _) | (with_reducible assumption) | (with_reducible refine Vg.Grows.alloc ?_ _) | (with_reducible refine Vg.Grows.plus ?_ _ _) | (with_reducible refine Vg.Grows.drewN ?_ _) | (with_reducible refine Vg.Grows.drew ?_) | (with_reducible refine Vg.Grows.setCell ?_ ?_ _) | (with_reducible refine Vg.Grows.put ?_ ?_ _) | omega | (simp; omega) | (simp; done))), Vg.Grows.blk (by (repeat' (first | (with_reducible exact Vg.Grows.refl _) | (with_reducible assumption) | (with_reducible refine Vg.Grows.alloc ?_ _) | (with_reducible refine Vg.Grows.plus ?_ _ _) | (with_reducible refine Vg.Grows.drewN ?_ _) | (with_reducible refine Vg.Grows.drew ?_) | (with_reducible refine Vg.Grows.setCell ?_ ?_ _) | (with_reducible refine Vg.Grows.put ?_ ?_ _) | omega | (simp; omega) | (simp; done)))) H_d0.out, Vg.Grows.blk (by (repeat' (first | (with_reducible exact Vg.Grows.refl _) | (with_reducible assumption) | (with_reducible refine Vg.Grows.alloc ?_ _) | (with_reducible refine Vg.Grows.plus ?_ _ _) | (with_reducible refine Vg.Grows.drewN ?_ _) | (with_reducible refine Vg.Grows.drew ?_) | (with_reducible refine Vg.Grows.setCell ?_ ?_ _) | (with_reducible refine Vg.Grows.put ?_ ?_ _) | omega | (simp; omega) | (simp; done)))) H_d7.out⟩, by simp [intOf]; omega⟩
          · by_cases hst : 2147483648 ≤ t + sum + m - last
            · have ht := Vg.tick_state (k := ⟨c', n', a', l', last⟩) (m := m) hnow (by omega) (by omega) hst
              have c_d0 := Vg.cells_of d0; have f_d0 := Vg.frozen_of d0; have p_d0 := Vg.setCell_of d0; have l_d0 := Vg.lt_of d0; have H_d0 := Lib.hid d0; clear d0; have c_d7 := Vg.cells_of d7; have f_d7 := Vg.frozen_of d7; have p_d7 := Vg.setCell_of d7; have l_d7 := Vg.lt_of d7; have H_d7 := Lib.hid d7; clear d7
              have H_ht := Lib.hid ht; clear ht; have H_hnow := Lib.hid hnow; clear hnow
              go_wp2_with (first | (go_at_call 23; (with_reducible refine (clock_tick' H_ht.out _ hc' hbn.1 hbn.2).mono ?_); rintro e w1 ⟨rfl, x3, n3, rfl⟩))
              exact ⟨⟨k + 1, sum, c', n', a', l', by omega, by omega, by go_num, rfl, hs0, hs1, hs2, hc', H_hnow.out, by (repeat' (first | (with_reducible exact Vg.Grows.refl _) | (with_reducible assumption) | (with_reducible refine Vg.Grows.alloc ?_ _) | (with_reducible refine Vg.Grows.plus ?_ _ _) | (with_reducible refine Vg.Grows.drewN ?_ _) | (with_reducible refine Vg.Grows.drew ?_) | (with_reducible refine Vg.Grows.setCell ?_ ?_ _) | (with_reducible refine Vg.Grows.put ?_ ?_ _) | omega | (simp; omega) | (simp; done))), Vg.Grows.blk (by (repeat' (first | (with_reducible exact Vg.Grows.refl _) | (with_reducible assumption) | (with_reducible refine Vg.Grows.alloc ?_ _) | (with_reducible refine Vg.Grows.plus ?_ _ _) | (with_reducible refine Vg.Grows.drewN ?_ _) | (with_reducible refine Vg.Grows.drew ?_) | (with_reducible refine Vg.Grows.setCell ?_ ?_ _) | (with_reducible refine Vg.Grows.put ?_ ?_ _) | omega | (simp; omega) | (simp; done)))) H_d0.out, Vg.Grows.blk (by (repeat' (first | (with_reducible exact Vg.Grows.refl _) | (with_reducible assumption) | (with_reducible refine Vg.Grows.alloc ?_ _) | (with_reducible refine Vg.Grows.plus ?_ _ _) | (with_reducible refine Vg.Grows.drewN ?_ _) | (with_reducible refine Vg.Grows.drew ?_) | (with_reducible refine Vg.Grows.setCell ?_ ?_ _) | (with_reducible refine Vg.Grows.put ?_ ?_ _) | omega | (simp; omega) | (simp; done)))) H_d7.out⟩, by simp [intOf]; omega⟩
            · have ht := Vg.tick_ok (k := ⟨c', n', a', l', last⟩) (m := m) hnow (by omega) (by omega) (by show t + sum + m - last < 2147483648; omega)
              have hn2 := Vg.ckNow_tick hc' hnow hbn.1 (by omega) (by omega)
              unfold Vg.ckOf Vg.go at ht
              simp only [] at ht
              have hcb : 0 ≤ (c' + m) % 4294967296 ∧ (c' + m) % 4294967296 ≤ 4294967295 := by omega
              obtain ⟨c2, hc2⟩ : ∃ x, (c' + m) % 4294967296 = x := ⟨_, rfl⟩
              obtain ⟨a2, ha2⟩ : ∃ x, (a' && !decide (Vg.ahead ⟨c', n', a', l'⟩ < m)) = x := ⟨_, rfl⟩
              obtain ⟨l2, hl2⟩ : ∃ x, (l' || (a' && decide (Vg.ahead ⟨c', n', a', l'⟩ < m))) = x := ⟨_, rfl⟩
              rw [hc2, ha2, hl2] at ht
              rw [hc2] at hn2 hcb
              rw [Int.add_assoc] at hn2
              have hb0 := Vg.lt_of d0
              have hb7 := Vg.lt_of d7
              have c_d0 := Vg.cells_of d0; have f_d0 := Vg.frozen_of d0; have p_d0 := Vg.setCell_of d0; have l_d0 := Vg.lt_of d0; have H_d0 := Lib.hid d0; clear d0; have c_d7 := Vg.cells_of d7; have f_d7 := Vg.frozen_of d7; have p_d7 := Vg.setCell_of d7; have l_d7 := Vg.lt_of d7; have H_d7 := Lib.hid d7; clear d7
              have H_ht := Lib.hid ht; clear ht; have H_hnow := Lib.hid hnow; clear hnow; have H_hn2 := Lib.hid hn2; clear hn2; have H_hc2 := Lib.hid hc2; clear hc2; have H_ha2 := Lib.hid ha2; clear ha2; have H_hl2 := Lib.hid hl2; clear hl2
              go_wp2_with (first | (go_at_call 23; (with_reducible refine (clock_tick' H_ht.out _ hc' hbn.1 hbn.2).mono ?_); rintro e w1 ⟨rfl, x3, n3, rfl⟩))
              refine ⟨⟨k + 1, sum + m, c2, n', a2, l2, by omega, by omega, by go_num, rfl, by omega, by omega, by omega, hcb, H_hn2.out, by (repeat' (first | (with_reducible exact Vg.Grows.refl _) | (with_reducible assumption) | (with_reducible refine Vg.Grows.alloc ?_ _) | (with_reducible refine Vg.Grows.plus ?_ _ _) | (with_reducible refine Vg.Grows.drewN ?_ _) | (with_reducible refine Vg.Grows.drew ?_) | (with_reducible refine Vg.Grows.setCell ?_ ?_ _) | (with_reducible refine Vg.Grows.put ?_ ?_ _) | omega | (simp; omega) | (simp; done))), ?_, ?_⟩, by simp [intOf]; omega⟩
              · go_simp; exact H_d0.out
              · go_simp
      · have hkk : (k : Int) < len ∨ k = len := by omega
        have hn2 := hnow
        have hadd : IntKind.i64.wrap (t + sum) = t + sum := by rw [IntWalk.i64_in _ (by omega)]
        by_cases hke : k < len
        · have hk4 : k = 40 := by omega
          subst hk4
          obtain ⟨b, off, rfl, hb, hcc⟩ := RH.out (by omega)
          have hcc := hcc 40 hke 0 (by decide)
          obtain ⟨m, hm⟩ : ∃ m, D 40 0 = m := ⟨_, rfl⟩
          rw [hm] at hcc
          obtain ⟨hcc, hw⟩ := hcc
          have hbn := bounds_u32 hw
          simp only [List.length_cons, List.length_nil, Nat.zero_add, Nat.mul_one, Nat.add_zero, List.getElem_cons_zero] at hcc
          clear hw hm
          have hcc := (hgr.below.cell (p := ⟨b, off + 40, none⟩) hb).trans hcc
          have hbr : b < wr.heap.size := Nat.lt_of_lt_of_le hb hgr.size
          have c_d0 := Vg.cells_of d0; have f_d0 := Vg.frozen_of d0; have p_d0 := Vg.setCell_of d0; have l_d0 := Vg.lt_of d0; have H_d0 := Lib.hid d0; clear d0; have c_d7 := Vg.cells_of d7; have f_d7 := Vg.frozen_of d7; have p_d7 := Vg.setCell_of d7; have l_d7 := Vg.lt_of d7; have H_d7 := Lib.hid d7; clear d7
          have H_hnow := Lib.hid hnow; clear hnow; have H_hn2 := Lib.hid hn2; clear hn2
          go_wp2_with (first | (go_at_call 21; (with_reducible refine (clock_read' H_hn2.out _ hc').mono ?_); rintro e w1 ⟨rfl, x3, n3, rfl⟩))
          go_ret
          exact ⟨by simp, by (repeat' (first | (with_reducible exact Vg.Grows.refl _) | (with_reducible assumption) | (with_reducible refine Vg.Grows.alloc ?_ _) | (with_reducible refine Vg.Grows.plus ?_ _ _) | (with_reducible refine Vg.Grows.drewN ?_ _) | (with_reducible refine Vg.Grows.drew ?_) | (with_reducible refine Vg.Grows.setCell ?_ ?_ _) | (with_reducible refine Vg.Grows.put ?_ ?_ _) | omega | (simp; omega) | (simp; done)))⟩
        · have c_d0 := Vg.cells_of d0; have f_d0 := Vg.frozen_of d0; have p_d0 := Vg.setCell_of d0; have l_d0 := Vg.lt_of d0; have H_d0 := Lib.hid d0; clear d0; have c_d7 := Vg.cells_of d7; have f_d7 := Vg.frozen_of d7; have p_d7 := Vg.setCell_of d7; have l_d7 := Vg.lt_of d7; have H_d7 := Lib.hid d7; clear d7
          have H_hnow := Lib.hid hnow; clear hnow; have H_hn2 := Lib.hid hn2; clear hn2
          go_wp2_with (first | (go_at_call 21; (with_reducible refine (clock_read' H_hn2.out _ hc').mono ?_); rintro e w1 ⟨rfl, x3, n3, rfl⟩))
          go_ret
          exact ⟨by simp, by (repeat' (first | (with_reducible exact Vg.Grows.refl _) | (with_reducible assumption) | (with_reducible refine Vg.Grows.alloc ?_ _) | (with_reducible refine Vg.Grows.plus ?_ _ _) | (with_reducible refine Vg.Grows.drewN ?_ _) | (with_reducible refine Vg.Grows.drew ?_) | (with_reducible refine Vg.Grows.setCell ?_ ?_ _) | (with_reducible refine Vg.Grows.put ?_ ?_ _) | omega | (simp; omega) | (simp; done)))⟩
  · have hb : (no == 0) = false := by simp [h]
    have H_hx := Lib.hid hx; clear hx; have H_h := Lib.hid h; clear h
    go_enter Try.func6, Try.ntmps6
    go_wp2_with (first | (go_at_call 26; (with_reducible refine (lives03 _).mono ?_); rintro e w1 ⟨rfl, x1, n1, rfl⟩) | (go_at_call 19; (with_reducible refine (clock_now' H_hx.out _ hc).mono ?_); rintro e w1 ⟨rfl, x2, n2, rfl⟩))
    go_ret
    exact ⟨rfl, by (repeat' (first | (with_reducible exact Vg.Grows.refl _) | (with_reducible assumption) | (with_reducible refine Vg.Grows.alloc ?_ _) | (with_reducible refine Vg.Grows.plus ?_ _ _) | (with_reducible refine Vg.Grows.drewN ?_ _) | (with_reducible refine Vg.Grows.drew ?_) | (with_reducible refine Vg.Grows.setCell ?_ ?_ _) | (with_reducible refine Vg.Grows.put ?_ ?_ _) | omega | (simp; omega) | (simp; done)))⟩
end Go.Proofs.Ytfkkkcihoejjgaa
