/- CeilingFree: the walk. -/
import Derived.Test.YtiinhofmhoplfaaCeilO
set_option linter.unusedSimpArgs false
set_option linter.unusedVariables false
set_option maxHeartbeats 4000000
set_option maxRecDepth 100000
namespace Vg
open Go
/-- Does mutex j bar a task of that priority? -/
def Tb.bars (M : List Mx) (task prio : Int) (j : Nat) : Bool := match M[j]? with | none => false | some x => x.held && (decide (x.who ≠ task) && decide (prio ≤ x.c))
def Tb.free (M : List Mx) (task prio : Int) : Nat → Bool
  | 0 => true
  | k + 1 => Tb.free M task prio k && !Tb.bars M task prio k
theorem Tb.free_lt {M : List Mx} {task prio : Int} : ∀ {k : Nat}, Tb.free M task prio k = true → ∀ j, j < k → Tb.bars M task prio j = false
  | 0, _, j, hj => by omega
  | k + 1, h, j, hj => by
    simp only [Tb.free, Bool.and_eq_true, Bool.not_eq_true'] at h
    by_cases e : j = k
    · subst e; exact h.2
    · exact Tb.free_lt h.1 j (by omega)
theorem Tb.free_law {M : List Mx} {m task prio : Int} (h : Tb.free M task prio M.length = true) : (Tb.lock M m task prio).2 ≠ 13 := by
  by_cases hm : m < 0 ∨ (M.length : Int) ≤ m
  · rw [Tb.lock_out hm]; simp
  · obtain ⟨i, rfl⟩ : ∃ i : Nat, m = i := ⟨m.toNat, by omega⟩
    have hi : i < M.length := by omega
    have hb := Tb.free_lt h i hi
    rw [Tb.lock_in hi]
    unfold Tb.bars at hb
    rw [List.getElem?_eq_getElem hi] at hb
    simp only [] at hb
    split
    · simp
    · split
      · simp
      · split
        · rename_i h1 h2 h3
          rw [h3] at hb
          simp only [Bool.true_and, Bool.and_eq_false_iff, decide_eq_false_iff_not] at hb
          rcases hb with hb | hb
          · exact absurd ⟨h3, by simpa using hb⟩ h2
          · omega
        · simp
end Vg
namespace Go.Proofs.Ytiinhofmhoplfaa
open Go.ChangeShapes Go.WideShapes Go.ChangeAt Go.RowKit
theorem CeilingFree_walk (ca : Option Addr) (cn cc : Nat) (CD : Nat → Nat → Int) (a : Option Addr) (len cap : Nat) (D : Nat → Nat → Int) (w : World) (hrC : Vg.intRows w [.i64] ca cn cc CD) (hr : Vg.intRows w [.i64, .i64, .i64, .i64] a len cap D) :
    Calls Try.prog 7 #[.slice ca cn cc, .slice a len cap] w fun e w' => e = .returned (.bool true) ∧ Vg.Grows w w' := by
  obtain ⟨L, hIR, hLl⟩ : ∃ L, Vg.IR w ca cc L ∧ L.length = cn := ⟨_, Vg.IR.of_rows hrC, by simp⟩
  subst hLl
  have hcc1 := hIR.1
  have hcc2 : cc ≤ 9223372036854775807 := hIR.2.1
  clear hrC
  have hlen := hr.1
  have hcap : cap ≤ 9223372036854775807 := hr.2.1
  by_cases hok : L.length ≤ 16 ∧ L.any Vg.oddC = false
  · obtain ⟨h1, h2⟩ := hok
    have RH := Lib.hid (fun h => Vg.intRows.open (by decide) hr h)
    clear hr
    have H_hIR := Lib.hid hIR; clear hIR; have H_h2 := Lib.hid h2; clear h2
    go_enter Try.func7, Try.ntmps7
    go_wp2_with ((go_at_call 28; refine (lives12 _).mono ?_; rintro e w1 ⟨rfl, x0, n0, rfl⟩))
    refine (ceil_new (H_hIR.out.grows ((Vg.Grows.refl w).plus x0 n0)) h1 H_h2.out).mono ?_
    rintro e W0 ⟨v, rfl, hs, hg0'⟩
    obtain ⟨b, hb⟩ : ∃ b, w.heap.size + Vg.sz x0 = b := ⟨_, rfl⟩
    simp only [Vg.plus_size, hb] at hs ⊢
    have hg0 : Vg.Grows w W0 := ((Vg.Grows.refl w).plus x0 n0).trans hg0'
    have hbw : w.heap.size ≤ b := by omega
    have hB : w.heap.size ≤ b + 1 := by omega
    have hbB : b < b + 1 := by omega
    have hcs0 : Vg.Tb.cs (L.map fun c => ⟨c, false, 0⟩) = L := by unfold Vg.Tb.cs; rw [List.map_map]; exact List.map_id' L
    have H_hb := Lib.hid hb; clear hb; have H_hs := Lib.hid hs; clear hs; have H_hcs0 := Lib.hid hcs0; clear hcs0
    clear hg0'
    by_cases hl : 60 < len
    · go_wp2_with fail
      go_ret
      exact ⟨rfl, hg0⟩
    · go_wp2_with fail
      go_loopw [39] (fun i wr => ∃ (k : Nat) (M : List Vg.Mx), k ≤ len ∧ i = .int .i64 k ∧ Vg.Grows w wr ∧ CE wr b (b + 1) M v ∧ Vg.Tb.cs M = L) (fun i _ => len - (intOf i).toNat)
      case atStart => exact ⟨0, _, by omega, rfl, hg0, H_hs.out, H_hcs0.out⟩
      case round =>
        obtain ⟨k, M, hk, rfl, hgr, hce, hcs⟩ := hrel
        have hml := Vg.Tb.cs_len hcs
        by_cases hlt : k < len
        · obtain ⟨ba, off, rfl, hba, hc⟩ := RH.out (by omega)
          have hc0 := hc k hlt 0 (by decide)
          have hc1 := hc k hlt 1 (by decide)
          have hc2 := hc k hlt 2 (by decide)
          have hc3 := hc k hlt 3 (by decide)
          generalize D k 0 = kd at hc0
          generalize D k 1 = xm at hc1
          generalize D k 2 = xt at hc2
          generalize D k 3 = xp at hc3
          simp only [List.length_cons, List.length_nil, Nat.zero_add, List.getElem_cons_zero, List.getElem_cons_succ] at hc0 hc1 hc2 hc3
          have hc0 := (hgr.below.cell (p := ⟨ba, off + k * 4, none⟩) hba).trans hc0.1
          have hc1 := (hgr.below.cell (p := ⟨ba, off + k * 4 + 1, none⟩) hba).trans hc1.1
          have hc2 := (hgr.below.cell (p := ⟨ba, off + k * 4 + 2, none⟩) hba).trans hc2.1
          have hc3 := (hgr.below.cell (p := ⟨ba, off + k * 4 + 3, none⟩) hba).trans hc3.1
          have hbar : ba < wr.heap.size := Nat.lt_of_lt_of_le hba hgr.size
          clear hc
          by_cases hkd : kd = 1
          · subst hkd
            have H_hce := Lib.hid hce; clear hce; have H_hcs := Lib.hid hcs; clear hcs; have H_hml := Lib.hid hml; clear hml
            go_wp2_with ((go_at_call 34; refine (ce_unlock (M := M) _ _ (H_hce.out.grows (by (repeat' (first | (with_reducible exact Vg.Grows.refl _) | (with_reducible assumption) | (with_reducible refine Vg.Grows.alloc ?_ _) | (with_reducible refine Vg.Grows.plus ?_ _ _) | (with_reducible refine Vg.Grows.drewN ?_ _) | (with_reducible refine Vg.Grows.drew ?_) | (with_reducible refine Vg.Grows.setCell ?_ ?_ _) | (with_reducible refine Vg.Grows.put ?_ ?_ _) | omega | (simp; omega) | (simp; done))))) hbB).mono ?_; rintro e w3 ⟨rfl, hce3, ht3⟩; have hg3 := CE.grown (w0 := w) (H_hce.out.grows (w' := wr.alloc _) (by (repeat' (first | (with_reducible exact Vg.Grows.refl _) | (with_reducible assumption) | (with_reducible refine Vg.Grows.alloc ?_ _) | (with_reducible refine Vg.Grows.plus ?_ _ _) | (with_reducible refine Vg.Grows.drewN ?_ _) | (with_reducible refine Vg.Grows.drew ?_) | (with_reducible refine Vg.Grows.setCell ?_ ?_ _) | (with_reducible refine Vg.Grows.put ?_ ?_ _) | omega | (simp; omega) | (simp; done))))) (by (repeat' (first | (with_reducible exact Vg.Grows.refl _) | (with_reducible assumption) | (with_reducible refine Vg.Grows.alloc ?_ _) | (with_reducible refine Vg.Grows.plus ?_ _ _) | (with_reducible refine Vg.Grows.drewN ?_ _) | (with_reducible refine Vg.Grows.drew ?_) | (with_reducible refine Vg.Grows.setCell ?_ ?_ _) | (with_reducible refine Vg.Grows.put ?_ ?_ _) | omega | (simp; omega) | (simp; done)))) hB ht3; have H_hce3 := Lib.hid hce3; clear hce3; have H_ht3 := Lib.hid ht3; clear ht3))
            exact ⟨⟨k + 1, _, by omega, by go_num, hg3, H_hce3.out, by rw [Vg.Tb.cs_unlock]; exact H_hcs.out⟩, by simp [intOf]; omega⟩
          · have hkb : (kd == 1) = false := by simp [hkd]
            have H_hce := Lib.hid hce; clear hce; have H_hcs := Lib.hid hcs; clear hcs; have H_hml := Lib.hid hml; clear hml; have H_hkd := Lib.hid hkd; clear hkd
            go_upto_region 11 with (fail)
            obtain ⟨wx, hwx⟩ : ∃ wx, (wr.alloc (.cells #[.int .i64 kd, .int .i64 xm, .int .i64 xt, .int .i64 xp] 61)) = wx := ⟨_, rfl⟩
            obtain ⟨bt, hbt⟩ : ∃ bt, wr.heap.size = bt := ⟨_, rfl⟩
            have x2 : Vg.blk wx bt = some (.cells #[.int .i64 kd, .int .i64 xm, .int .i64 xt, .int .i64 xp] 61) := by rw [← hwx]; exact Vg.alloc_heap_at hbt.symm
            have hgx : Vg.Grows wr wx := by rw [← hwx]; (repeat' (first | (with_reducible exact Vg.Grows.refl _) | (with_reducible assumption) | (with_reducible refine Vg.Grows.alloc ?_ _) | (with_reducible refine Vg.Grows.plus ?_ _ _) | (with_reducible refine Vg.Grows.drewN ?_ _) | (with_reducible refine Vg.Grows.drew ?_) | (with_reducible refine Vg.Grows.setCell ?_ ?_ _) | (with_reducible refine Vg.Grows.put ?_ ?_ _) | omega | (simp; omega) | (simp; done)))
            have hcex := H_hce.out.grows hgx
            have hgwx := hgr.trans hgx
            have hbtw : w.heap.size ≤ bt := by have := hgr.size; omega
            rw [hwx, hbt]
            have H_hwx := Lib.hid hwx; clear hwx; have H_hbt := Lib.hid hbt; clear hbt; have H_hcex := Lib.hid hcex; clear hcex; have H_x2 := Lib.hid x2; clear x2
            clear hc0 hc1 hc2 hc3
            go_wp2_with fail
            go_loopw [9, 54] (fun fr i wr => ∃ j : Nat, j ≤ L.length ∧ i = .int .i64 j ∧ fr = .bool (Vg.Tb.free M xt xp j) ∧ Vg.Grows wx wr) (fun _ i _ => L.length - (intOf i).toNat)
            case atStart => exact ⟨0, by omega, rfl, rfl, Vg.Grows.refl _⟩
            case round =>
              obtain ⟨j, hj, rfl, rfl, hg2⟩ := hrel
              have hce2 := H_hcex.out.grows hg2
              have x3 : Vg.blk wr bt = some (.cells #[.int .i64 kd, .int .i64 xm, .int .i64 xt, .int .i64 xp] 61) := hg2.blk H_x2.out
              have hgw2 := hgwx.trans hg2
              by_cases hjl : j < L.length
              · have hjM : j < M.length := by rw [H_hml.out]; exact hjl
                obtain ⟨g, off, rfl, hg, -, -, hcell⟩ := H_hIR.out.icell j hjl
                have hcj := Vg.Tb.cs_get H_hcs.out hjM
                have hcell := (hgw2.below.cell (p := ⟨g, off + j, none⟩) hg).trans hcell
                have hgl : g < wr.heap.size := Nat.lt_of_lt_of_le hg hgw2.size
                rw [← hcj] at hcell
                have hho := Vg.Tb.holder_in hjM
                have hbr : Vg.Tb.bars M xt xp j = (M[j].held && (decide (M[j].who ≠ xt) && decide (xp ≤ M[j].c))) := by unfold Vg.Tb.bars; rw [List.getElem?_eq_getElem hjM]
                have hfs : Vg.Tb.free M xt xp (j + 1) = (Vg.Tb.free M xt xp j && !Vg.Tb.bars M xt xp j) := rfl
                obtain ⟨x, hx⟩ : ∃ x, M[j] = x := ⟨_, rfl⟩
                rw [hx] at hcell hho hbr
                obtain ⟨xc, xh, xw⟩ := x
                simp only [] at hcell hho hbr
                obtain ⟨fr, hfr⟩ : ∃ fr, Vg.Tb.free M xt xp j = fr := ⟨_, rfl⟩
                rw [hfr] at hfs ⊢
                have hj0 : (0 : Int) ≤ j := by omega
                have hj1 : (j : Int) < L.length := by omega
                cases xh with
                | false =>
                  rw [if_neg (by simp)] at hho
                  rw [hbr] at hfs
                  simp only [Bool.false_and, Bool.not_false, Bool.and_true] at hfs
                  have c_x3 := Vg.cells_of x3; have f_x3 := Vg.frozen_of x3; have p_x3 := Vg.setCell_of x3; have l_x3 := Vg.lt_of x3; have H_x3 := Lib.hid x3; clear x3
                  have H_hce2 := Lib.hid hce2; clear hce2; have H_hho := Lib.hid hho; clear hho; have H_hbr := Lib.hid hbr; clear hbr; have H_hfs := Lib.hid hfs; clear hfs; have H_hfr := Lib.hid hfr; clear hfr; have H_hx := Lib.hid hx; clear hx; have H_hcj := Lib.hid hcj; clear hcj
                  go_wp2_with ((go_at_call 35; refine (ce_holder j H_hce2.out).mono ?_; rintro e w1 ⟨rfl, rfl⟩; rw [H_hho.out]))
                  go_quiet (fail)
                  go_wp2_with fail
                  exact ⟨⟨j + 1, by omega, by go_num, by rw [H_hfs.out], by (repeat' (first | (with_reducible exact Vg.Grows.refl _) | (with_reducible assumption) | (with_reducible refine Vg.Grows.alloc ?_ _) | (with_reducible refine Vg.Grows.plus ?_ _ _) | (with_reducible refine Vg.Grows.drewN ?_ _) | (with_reducible refine Vg.Grows.drew ?_) | (with_reducible refine Vg.Grows.setCell ?_ ?_ _) | (with_reducible refine Vg.Grows.put ?_ ?_ _) | omega | (simp; omega) | (simp; done)))⟩, by simp [intOf]; omega⟩
                | true =>
                  rw [if_pos rfl] at hho
                  by_cases hw : xw = xt
                  · have hwb : (xw != xt) = false := by simp [hw]
                    rw [hbr] at hfs
                    simp only [hw, ne_eq, not_true_eq_false, decide_false, Bool.false_and, Bool.and_false, Bool.not_false, Bool.and_true] at hfs
                    have c_x3 := Vg.cells_of x3; have f_x3 := Vg.frozen_of x3; have p_x3 := Vg.setCell_of x3; have l_x3 := Vg.lt_of x3; have H_x3 := Lib.hid x3; clear x3
                    have H_hce2 := Lib.hid hce2; clear hce2; have H_hho := Lib.hid hho; clear hho; have H_hbr := Lib.hid hbr; clear hbr; have H_hfs := Lib.hid hfs; clear hfs; have H_hfr := Lib.hid hfr; clear hfr; have H_hx := Lib.hid hx; clear hx; have H_hcj := Lib.hid hcj; clear hcj; have H_hw := Lib.hid hw; clear hw
                    go_wp2_with ((go_at_call 35; refine (ce_holder j H_hce2.out).mono ?_; rintro e w1 ⟨rfl, rfl⟩; rw [H_hho.out]))
                    go_quiet (fail)
                    go_wp2_with fail
                    exact ⟨⟨j + 1, by omega, by go_num, by rw [H_hfs.out], by (repeat' (first | (with_reducible exact Vg.Grows.refl _) | (with_reducible assumption) | (with_reducible refine Vg.Grows.alloc ?_ _) | (with_reducible refine Vg.Grows.plus ?_ _ _) | (with_reducible refine Vg.Grows.drewN ?_ _) | (with_reducible refine Vg.Grows.drew ?_) | (with_reducible refine Vg.Grows.setCell ?_ ?_ _) | (with_reducible refine Vg.Grows.put ?_ ?_ _) | omega | (simp; omega) | (simp; done)))⟩, by simp [intOf]; omega⟩
                  · have hwb : (xw != xt) = true := by simp [hw]
                    by_cases hp : xp ≤ xc
                    · have hpb : decide (xp ≤ xc) = true := by simp [hp]
                      rw [hbr] at hfs
                      have hfs' : Vg.Tb.free M xt xp (j + 1) = false := by rw [hfs]; simp [hw, hp]
                      have c_x3 := Vg.cells_of x3; have f_x3 := Vg.frozen_of x3; have p_x3 := Vg.setCell_of x3; have l_x3 := Vg.lt_of x3; have H_x3 := Lib.hid x3; clear x3
                      have H_hce2 := Lib.hid hce2; clear hce2; have H_hho := Lib.hid hho; clear hho; have H_hbr := Lib.hid hbr; clear hbr; have H_hfs := Lib.hid hfs; clear hfs; have H_hfs' := Lib.hid hfs'; clear hfs'; have H_hfr := Lib.hid hfr; clear hfr; have H_hx := Lib.hid hx; clear hx; have H_hcj := Lib.hid hcj; clear hcj; have H_hw := Lib.hid hw; clear hw
                      go_wp2_with ((go_at_call 35; refine (ce_holder j H_hce2.out).mono ?_; rintro e w1 ⟨rfl, rfl⟩; rw [H_hho.out]))
                      go_quiet (fail)
                      go_wp2_with fail
                      exact ⟨⟨j + 1, by omega, by go_num, by rw [H_hfs'.out], by (repeat' (first | (with_reducible exact Vg.Grows.refl _) | (with_reducible assumption) | (with_reducible refine Vg.Grows.alloc ?_ _) | (with_reducible refine Vg.Grows.plus ?_ _ _) | (with_reducible refine Vg.Grows.drewN ?_ _) | (with_reducible refine Vg.Grows.drew ?_) | (with_reducible refine Vg.Grows.setCell ?_ ?_ _) | (with_reducible refine Vg.Grows.put ?_ ?_ _) | omega | (simp; omega) | (simp; done)))⟩, by simp [intOf]; omega⟩
                    · have hpb : decide (xp ≤ xc) = false := by simp [hp]
                      rw [hbr] at hfs
                      have hfs' : Vg.Tb.free M xt xp (j + 1) = fr := by rw [hfs]; simp [hp]
                      have c_x3 := Vg.cells_of x3; have f_x3 := Vg.frozen_of x3; have p_x3 := Vg.setCell_of x3; have l_x3 := Vg.lt_of x3; have H_x3 := Lib.hid x3; clear x3
                      have H_hce2 := Lib.hid hce2; clear hce2; have H_hho := Lib.hid hho; clear hho; have H_hbr := Lib.hid hbr; clear hbr; have H_hfs := Lib.hid hfs; clear hfs; have H_hfs' := Lib.hid hfs'; clear hfs'; have H_hfr := Lib.hid hfr; clear hfr; have H_hx := Lib.hid hx; clear hx; have H_hcj := Lib.hid hcj; clear hcj; have H_hw := Lib.hid hw; clear hw
                      go_wp2_with ((go_at_call 35; refine (ce_holder j H_hce2.out).mono ?_; rintro e w1 ⟨rfl, rfl⟩; rw [H_hho.out]))
                      go_quiet (fail)
                      go_wp2_with fail
                      exact ⟨⟨j + 1, by omega, by go_num, by rw [H_hfs'.out], by (repeat' (first | (with_reducible exact Vg.Grows.refl _) | (with_reducible assumption) | (with_reducible refine Vg.Grows.alloc ?_ _) | (with_reducible refine Vg.Grows.plus ?_ _ _) | (with_reducible refine Vg.Grows.drewN ?_ _) | (with_reducible refine Vg.Grows.drew ?_) | (with_reducible refine Vg.Grows.setCell ?_ ?_ _) | (with_reducible refine Vg.Grows.put ?_ ?_ _) | omega | (simp; omega) | (simp; done)))⟩, by simp [intOf]; omega⟩
              · have hje : j = M.length := by have := H_hml.out; omega
                obtain ⟨fr, hfr⟩ : ∃ fr, Vg.Tb.free M xt xp j = fr := ⟨_, rfl⟩
                rw [hfr]
                cases fr with
                | false =>
                  have c_x3 := Vg.cells_of x3; have f_x3 := Vg.frozen_of x3; have p_x3 := Vg.setCell_of x3; have l_x3 := Vg.lt_of x3; have H_x3 := Lib.hid x3; clear x3
                  have H_hce2 := Lib.hid hce2; clear hce2; have H_hfr := Lib.hid hfr; clear hfr; have H_hje := Lib.hid hje; clear hje
                  go_wp2_with fail
                  exact ⟨⟨k + 1, M, by omega, by go_num, by (repeat' (first | (with_reducible exact Vg.Grows.refl _) | (with_reducible assumption) | (with_reducible refine Vg.Grows.alloc ?_ _) | (with_reducible refine Vg.Grows.plus ?_ _ _) | (with_reducible refine Vg.Grows.drewN ?_ _) | (with_reducible refine Vg.Grows.drew ?_) | (with_reducible refine Vg.Grows.setCell ?_ ?_ _) | (with_reducible refine Vg.Grows.put ?_ ?_ _) | omega | (simp; omega) | (simp; done))), H_hce2.out.grows (by (repeat' (first | (with_reducible exact Vg.Grows.refl _) | (with_reducible assumption) | (with_reducible refine Vg.Grows.alloc ?_ _) | (with_reducible refine Vg.Grows.plus ?_ _ _) | (with_reducible refine Vg.Grows.drewN ?_ _) | (with_reducible refine Vg.Grows.drew ?_) | (with_reducible refine Vg.Grows.setCell ?_ ?_ _) | (with_reducible refine Vg.Grows.put ?_ ?_ _) | omega | (simp; omega) | (simp; done)))), H_hcs.out⟩, by simp [intOf]; omega⟩
                | true =>
                  rw [hje] at hfr
                  have hcd := Vg.Tb.free_law (m := xm) hfr
                  obtain ⟨⟨M1, cd⟩, hlk⟩ : ∃ p, Vg.Tb.lock M xm xt xp = p := ⟨_, rfl⟩
                  have hcs1 := Vg.Tb.cs_lock M xm xt xp
                  rw [hlk] at hcd hcs1
                  have hcdb : (cd == 13) = false := by simpa using hcd
                  have hcs1 : Vg.Tb.cs M1 = Vg.Tb.cs M := hcs1
                  have c_x3 := Vg.cells_of x3; have f_x3 := Vg.frozen_of x3; have p_x3 := Vg.setCell_of x3; have l_x3 := Vg.lt_of x3; have H_x3 := Lib.hid x3; clear x3
                  have H_hce2 := Lib.hid hce2; clear hce2; have H_hfr := Lib.hid hfr; clear hfr; have H_hje := Lib.hid hje; clear hje; have H_hlk := Lib.hid hlk; clear hlk; have H_hcs1 := Lib.hid hcs1; clear hcs1; have H_hcd := Lib.hid hcd; clear hcd
                  go_wp2_with ((go_at_call 32; refine (ce_lock (M := M) xm xt xp H_hce2.out hbB).mono ?_; rintro e w3 ⟨rfl, hce3, ht3⟩; have hg3 := CE.grown (w0 := w) H_hce2.out hgw2 hB ht3; rw [H_hlk.out]; rw [H_hlk.out] at hce3; have H_hce3 := Lib.hid hce3; clear hce3; have H_ht3 := Lib.hid ht3; clear ht3))
                  exact ⟨⟨k + 1, M1, by omega, by go_num, hg3, H_hce3.out, H_hcs1.out.trans H_hcs.out⟩, by simp [intOf]; omega⟩
        · go_wp2_with fail
          go_ret
          exact ⟨rfl, hgr⟩
  · have hno : 16 < L.length ∨ L.any Vg.oddC = true := by
      by_cases h : 16 < L.length
      · exact .inl h
      · refine .inr ?_
        cases h2 : L.any Vg.oddC with
        | true => rfl
        | false => exact absurd ⟨by omega, h2⟩ hok
    clear hr
    have H_hIR := Lib.hid hIR; clear hIR; have H_hno := Lib.hid hno; clear hno; have H_hok := Lib.hid hok; clear hok
    go_enter Try.func7, Try.ntmps7
    go_wp2_with (first | (go_at_call 28; refine (lives12 _).mono ?_; rintro e w1 ⟨rfl, x0, n0, rfl⟩) | (go_at_call 29; refine (ceil_new_no (L := L) (H_hIR.out.grows (by (repeat' (first | (with_reducible exact Vg.Grows.refl _) | (with_reducible assumption) | (with_reducible refine Vg.Grows.alloc ?_ _) | (with_reducible refine Vg.Grows.plus ?_ _ _) | (with_reducible refine Vg.Grows.drewN ?_ _) | (with_reducible refine Vg.Grows.drew ?_) | (with_reducible refine Vg.Grows.setCell ?_ ?_ _) | (with_reducible refine Vg.Grows.put ?_ ?_ _) | omega | (simp; omega) | (simp; done))))) H_hno.out).mono ?_; rintro e w1 ⟨rfl, rfl⟩))
    go_ret
    exact ⟨rfl, by (repeat' (first | (with_reducible exact Vg.Grows.refl _) | (with_reducible assumption) | (with_reducible refine Vg.Grows.alloc ?_ _) | (with_reducible refine Vg.Grows.plus ?_ _ _) | (with_reducible refine Vg.Grows.drewN ?_ _) | (with_reducible refine Vg.Grows.drew ?_) | (with_reducible refine Vg.Grows.setCell ?_ ?_ _) | (with_reducible refine Vg.Grows.put ?_ ?_ _) | omega | (simp; omega) | (simp; done)))⟩
end Go.Proofs.Ytiinhofmhoplfaa
