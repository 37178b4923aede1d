/- Package intc: Ack, Make. -/
import Derived.Test.YtekjnagojphmkaaDoorIcG
set_option linter.unusedSimpArgs false
set_option linter.unusedVariables false
set_option maxHeartbeats 8000000
set_option maxRecDepth 100000
namespace Vg
open Go
theorem ics_ic_snoc (L : List Nat) (k : Nat) : ics (ic (L ++ [k])) = ics (ic L) ++ [.int .i64 k] := by
  rw [ic_snoc]
  simp [ics]
end Vg
namespace Go.Proofs.YtekjnagojphmkaaDoor
open Go.ChangeShapes Go.WideShapes Go.ChangeAt Go.RowKit
section
variable {w w' w1 : World} {c c' : Vg.Ic} {n m ed pc sc pe en g bR lo : Nat} {pa sa : Option Addr} {L : List Int}
theorem icr_of3 (hI : IS w1 c n m pa pc sa sc) (f1 : ∀ k, (Value.slice pa n pc).ownBlock = some k → lo ≤ k ∧ k ≠ g ∧ k < w1.heap.size) (f2 : ∀ k, (Value.slice sa m sc).ownBlock = some k → lo ≤ k ∧ k ≠ g ∧ k < w1.heap.size) (hlo : w.heap.size ≤ lo) (hbR : bR < lo) (o o2 : Obj) :
    ICR w (Vg.put (Vg.put w1 bR o) g o2) c n ed (icV c.pe c.en ed pa n pc sa m sc) := by
  have h8 := hI.put (b := bR) (fun k hk => by have := f1 k hk; omega) (fun k hk => by have := f2 k hk; omega) o
  have h9 := h8.put (b := g) (fun k hk => (f1 k hk).2.1) (fun k hk => (f2 k hk).2.1) o2
  refine ⟨pa, pc, sa, m, sc, rfl, h9, fun k hk => ?_, fun k hk => ?_⟩
  · have := f1 k hk; rw [Vg.put_size, Vg.put_size]; omega
  · have := f2 k hk; rw [Vg.put_size, Vg.put_size]; omega
theorem ic_ack (k : Nat) (h : IS w c n m pa pc sa sc) (hed : 2 ^ n - 1 = ed) (hpe : c.pe = pe) (hen : c.en = en) (hT : Vg.Tab w) (hx : c.nx = k) (hk : k < n) (hlv : c.lvl < c.prio k) :
    Calls Tryd.prog 36 #[icV pe en ed pa n pc sa m sc] w fun e w' => ∃ v, e = .returned (.tuple #[v, .int .i64 k, .int .i64 0]) ∧ ICR w w' (c.ack k) n ed v ∧ Vg.Grows w w' := by
  have n64 := h.ok.n1.2
  obtain ⟨i0, hi, hz0, hz1, hz2⟩ := info_parts Tryd.info_int5
  have hr0 : (if (0 : Int) ≤ 0 ∧ (0 : Int) < (n : Int) then (0 : Int) else 1) = 0 := if_pos ⟨by omega, by omega⟩
  have his : decide (((k : Nat) : Int) ≠ 64) = true := by simp; omega
  have hpe64 : pe < 18446744073709551616 := by rw [← hpe]; exact h.ok.pe64
  have hok := h.ok.ack hk hlv
  have hm15 : m ≤ 15 := by rw [← h.m]; exact h.ok.st15
  have hki : (k : Int) ≤ 64 := by omega
  obtain ⟨bt, hbt⟩ : ∃ b, 2 ^ k = b := ⟨_, rfl⟩
  have hbl : bt < 18446744073709551616 := by rw [← hbt]; exact Vg.pow_lt64 (by omega)
  have k1 : IntKind.u64.wrap ((2 : Int) ^ k) = (bt : Int) := by rw [← hbt]; exact shl_one k (by omega)
  obtain ⟨u, hu⟩ : ∃ u, Vg.clr pe k = u := ⟨_, rfl⟩
  have k7 : bits .andNot .u64 (pe : Int) (bt : Int) = (u : Int) := by
    have := u64_andNot_nat pe bt hpe64 hbl
    rw [this, ← hu, ← hbt]
    rfl
  have hcz : (c.ack k).pe = u := by rw [← hu, ← hpe]; rfl
  have H_h := Lib.hid h; clear h; have H_hed := Lib.hid hed; clear hed; have H_hpe := Lib.hid hpe; clear hpe; have H_hen := Lib.hid hen; clear hen; have H_hT := Lib.hid hT; clear hT; have H_hx := Lib.hid hx; clear hx; have H_his := Lib.hid his; clear his; have H_hr0 := Lib.hid hr0; clear hr0; have H_hbt := Lib.hid hbt; clear hbt; have H_hok := Lib.hid hok; clear hok; have H_hbl := Lib.hid hbl; clear hbl; have H_hpe64 := Lib.hid hpe64; clear hpe64; have H_hu := Lib.hid hu; clear hu; have H_hcz := Lib.hid hcz; clear hcz; have H_hlv := Lib.hid hlv; clear hlv
  go_enter Tryd.func36, Tryd.ntmps36
  go_upto_region 6 with (first | (go_at_call 64; (with_reducible refine (ic_open 0 H_hr0.out (H_h.out.grows (by (repeat' (first | (with_reducible exact Vg.Grows.refl _) | (with_reducible assumption) | (with_reducible refine Vg.Grows.alloc ?_ _) | (with_reducible refine Vg.Grows.plus ?_ _ _) | (with_reducible refine Vg.Grows.drewN ?_ _) | (with_reducible refine Vg.Grows.drew ?_) | (with_reducible refine Vg.Grows.setCell ?_ ?_ _) | (with_reducible refine Vg.Grows.put ?_ ?_ _) | omega | (simp; omega) | (simp; done))))) H_hed.out H_hpe.out H_hen.out).mono ?_); rintro e w1 ⟨g, rfl, hg, pa', pc', sa', sc', hg0, hI, hq, hd, f1, f2, hg1⟩; have yR := hg1.blk (b := w.heap.size + 1) (o := ic0) (by go_simp); have hgw := Vg.Grows.trans (a := w) (by (repeat' (first | (with_reducible exact Vg.Grows.refl _) | (with_reducible assumption) | (with_reducible refine Vg.Grows.alloc ?_ _) | (with_reducible refine Vg.Grows.plus ?_ _ _) | (with_reducible refine Vg.Grows.drewN ?_ _) | (with_reducible refine Vg.Grows.drew ?_) | (with_reducible refine Vg.Grows.setCell ?_ ?_ _) | (with_reducible refine Vg.Grows.put ?_ ?_ _) | omega | (simp; omega) | (simp; done)))) hg1; simp only [World.size_alloc] at hg f1 f2 hq; have c_hg0 := Vg.cells_of hg0; have f_hg0 := Vg.frozen_of hg0; have p_hg0 := Vg.setCell_of hg0; have l_hg0 := Vg.lt_of hg0; have H_hg0 := Lib.hid hg0; clear hg0; have c_yR := Vg.cells_of yR; have f_yR := Vg.frozen_of yR; have p_yR := Vg.setCell_of yR; have l_yR := Vg.lt_of yR; have H_yR := Lib.hid yR; clear yR; have H_hI := Lib.hid hI; clear hI; have H_hq := Lib.hid hq; clear hq; have H_hd := Lib.hid hd; clear hd; have H_f1 := Lib.hid f1; clear f1; have H_f2 := Lib.hid f2; clear f2; have H_hg1 := Lib.hid hg1; clear hg1) | (go_at_call 71; (with_reducible refine (ic_next H_hg0.out H_hI.out H_hpe.out H_hen.out ((H_hT.out.grows (by (repeat' (first | (with_reducible exact Vg.Grows.refl _) | (with_reducible assumption) | (with_reducible refine Vg.Grows.alloc ?_ _) | (with_reducible refine Vg.Grows.plus ?_ _ _) | (with_reducible refine Vg.Grows.drewN ?_ _) | (with_reducible refine Vg.Grows.drew ?_) | (with_reducible refine Vg.Grows.setCell ?_ ?_ _) | (with_reducible refine Vg.Grows.put ?_ ?_ _) | omega | (simp; omega) | (simp; done))))).grows H_hg1.out) H_hx.out H_his.out).mono ?_); rintro e w2 ⟨rfl, hg2⟩; have zg := hg2.blk H_hg0.out; have zR := hg2.blk H_yR.out; have hI2 := H_hI.out.grows hg2; have hq2 := H_hq.out.grows hg2; have hgw2 := hgw.trans hg2; have hs12 := hg2.size; clear c_hg0 f_hg0 p_hg0 c_yR f_yR p_yR; have c_zg := Vg.cells_of zg; have f_zg := Vg.frozen_of zg; have p_zg := Vg.setCell_of zg; have l_zg := Vg.lt_of zg; have H_zg := Lib.hid zg; clear zg; have c_zR := Vg.cells_of zR; have f_zR := Vg.frozen_of zR; have p_zR := Vg.setCell_of zR; have l_zR := Vg.lt_of zR; have H_zR := Lib.hid zR; clear zR; have H_hg2 := Lib.hid hg2; clear hg2; have H_hI2 := Lib.hid hI2; clear hI2; have H_hq2 := Lib.hid hq2; clear hq2))
  have n1 : g ≠ w.heap.size + 1 := by omega
  have n2 : w.heap.size + 1 ≠ g := by omega
  have hqP : ∀ o, Vg.Que (Vg.put w2 g o) (w.heap.size + 1 + 1) 3 1 (.slice sa' m sc') m (Vg.ics (Vg.ic c.st)) := fun o => H_hq2.out.kept fun j hj => Vg.put_heap_other (by have := H_f2.out j hj; omega)
  have H_hqP := Lib.hid hqP; clear hqP
  refine wp_region_held_drew (S := fun w' => g < w'.heap.size ∧ w.heap.size + 1 < w'.heap.size) (by kernel_rfl) (by go_split_ands <;> (try dsimp only) <;> go_simp) (fun hHeld => ?_)
  refine wpAnyH_take (i := 0) (oi := _) (v := ?v1) rfl (by kernel_rfl) (by kernel_rfl) (by kernel_rfl) (fun _ _ _ h => h) (Or.inl ⟨by rfl, ?hy1⟩) (by assumption) ?rest1
  case hy1 => (intro w hSw; (try dsimp only at hSw); go_simp; first | done | with_reducible rfl)
  (try simp only [List.getElem_toArray, List.getElem_cons_succ, List.getElem_cons_zero, Act.put, List.setIfInBounds_toArray, List.set_cons_zero, List.set_cons_succ])
  refine wpAnyH_take (i := 1) (oi := _) (v := ?v2) rfl (by kernel_rfl) (by kernel_rfl) (by kernel_rfl) (fun _ _ _ h => h) (Or.inl ⟨by rfl, ?hy2⟩) (by assumption) ?rest2
  case hy2 => (intro w hSw; (try dsimp only at hSw); go_simp; first | done | with_reducible rfl)
  (try simp only [List.getElem_toArray, List.getElem_cons_succ, List.getElem_cons_zero, Act.put, List.setIfInBounds_toArray, List.set_cons_zero, List.set_cons_succ])
  refine wpAnyH_take (i := 2) (oi := _) (v := ?v3) rfl (by kernel_rfl) (by kernel_rfl) (by kernel_rfl) (fun _ _ _ h => h) (Or.inl ⟨by rfl, ?hy3⟩) (by assumption) ?rest3
  case hy3 => (intro w hSw; (try dsimp only at hSw); go_simp; first | done | with_reducible rfl)
  (try simp only [List.getElem_toArray, List.getElem_cons_succ, List.getElem_cons_zero, Act.put, List.setIfInBounds_toArray, List.set_cons_zero, List.set_cons_succ])
  refine wpAnyH_take (i := 3) (oi := _) (v := ?v4) rfl (by kernel_rfl) (by kernel_rfl) (by kernel_rfl) (fun _ _ _ h => h) (Or.inl ⟨by rfl, ?hy4⟩) (by assumption) ?rest4
  case hy4 => (intro w hSw; (try dsimp only at hSw); go_simp; first | done | with_reducible rfl)
  (try simp only [List.getElem_toArray, List.getElem_cons_succ, List.getElem_cons_zero, Act.put, List.setIfInBounds_toArray, List.set_cons_zero, List.set_cons_succ])
  refine wpAnyH_take (i := 5) (oi := _) (v := ?v5) rfl (by kernel_rfl) (by kernel_rfl) (by kernel_rfl) (fun _ _ _ h => h) (Or.inl ⟨by rfl, ?hy5⟩) (by assumption) ?rest5
  case hy5 => (intro w hSw; (try dsimp only at hSw); go_simp; first | done | with_reducible rfl)
  (try simp only [List.getElem_toArray, List.getElem_cons_succ, List.getElem_cons_zero, Act.put, List.setIfInBounds_toArray, List.set_cons_zero, List.set_cons_succ])
  refine wpAnyH_take (i := 6) (oi := _) (v := ?v6) rfl (by kernel_rfl) (by kernel_rfl) (by kernel_rfl) (fun _ _ _ h => h) (Or.inl ⟨by rfl, ?hy6⟩) (by assumption) ?rest6
  case hy6 => (intro w hSw; (try dsimp only at hSw); go_simp; first | done | with_reducible rfl)
  (try simp only [List.getElem_toArray, List.getElem_cons_succ, List.getElem_cons_zero, Act.put, List.setIfInBounds_toArray, List.set_cons_zero, List.set_cons_succ])
  refine wpAnyH_ready (rs := [4]) (by kernel_rfl) (by simp) ?_
  refine AllReadyH.cons (o := _) rfl (fun K hK => ?st7) ?mo7
  case st7 =>
    go_simp
    refine hK.out _ _ (by go_split_ands <;> (try dsimp only) <;> go_simp) (fun hHeld7 => ?_)
    clear hK K
    (try simp only [List.getElem_toArray, List.getElem_cons_succ, List.getElem_cons_zero, Act.put, List.setIfInBounds_toArray, List.set_cons_zero, List.set_cons_succ])
    refine wpAnyH_take (i := 7) (oi := _) (v := ?v8) rfl (by kernel_rfl) (by kernel_rfl) (by kernel_rfl) (fun _ _ _ h => h) (Or.inl ⟨by rfl, ?hy8⟩) (by assumption) ?rest8
    case hy8 => (intro w hSw; (try dsimp only at hSw); go_simp; first | done | with_reducible rfl)
    (try simp only [List.getElem_toArray, List.getElem_cons_succ, List.getElem_cons_zero, Act.put, List.setIfInBounds_toArray, List.set_cons_zero, List.set_cons_succ])
    refine wpAnyH_take (i := 8) (oi := _) (v := ?v9) rfl (by kernel_rfl) (by kernel_rfl) (by kernel_rfl) (fun _ _ _ h => h) (Or.inl ⟨by rfl, ?hy9⟩) (by assumption) ?rest9
    case hy9 => (intro w hSw; (try dsimp only at hSw); go_simp; first | done | with_reducible rfl)
    (try simp only [List.getElem_toArray, List.getElem_cons_succ, List.getElem_cons_zero, Act.put, List.setIfInBounds_toArray, List.set_cons_zero, List.set_cons_succ])
    refine wpAnyH_take (i := 9) (oi := _) (v := ?v10) rfl (by kernel_rfl) (by kernel_rfl) (by kernel_rfl) (fun _ _ _ h => h) (Or.inl ⟨by rfl, ?hy10⟩) (by assumption) ?rest10
    case hy10 => (intro w hSw; (try dsimp only at hSw); go_simp; first | done | with_reducible rfl)
    (try simp only [List.getElem_toArray, List.getElem_cons_succ, List.getElem_cons_zero, Act.put, List.setIfInBounds_toArray, List.set_cons_zero, List.set_cons_succ])
    refine wpAnyH_take (i := 10) (oi := _) (v := ?v11) rfl (by kernel_rfl) (by kernel_rfl) (by kernel_rfl) (fun _ _ _ h => h) (Or.inl ⟨by rfl, ?hy11⟩) (by assumption) ?rest11
    case hy11 => (intro w hSw; (try dsimp only at hSw); go_simp; first | done | with_reducible rfl)
    (try simp only [List.getElem_toArray, List.getElem_cons_succ, List.getElem_cons_zero, Act.put, List.setIfInBounds_toArray, List.set_cons_zero, List.set_cons_succ])
    refine wpAnyH_ready (rs := [11]) (by kernel_rfl) (by simp) ?_
    refine AllReadyH.cons (o := _) rfl (fun K hK => ?st12) ?mo12
    case st12 =>
      go_simp
      refine hK.out _ _ (by go_split_ands <;> (try dsimp only) <;> go_simp) (fun hHeld12 => ?_)
      clear hK K
      (try simp only [List.getElem_toArray, List.getElem_cons_succ, List.getElem_cons_zero, Act.put, List.setIfInBounds_toArray, List.set_cons_zero, List.set_cons_succ])
      refine wpAnyH_done (by kernel_rfl) ?_ _
      go_upto_region 8 with (at_builtin; (refine Vg.wpList_que (w := _) rfl (.tmp 43) (.tmp 45) 29 rfl (w.heap.size + 1 + 1) 3 i0 (.int .i64 0) 1 8 Tryd.underlying29 hi hz0 hz1 hz2 rfl (by decide) (.slice sa' m sc') m _ rfl ((H_hqP.out _).grows (by (repeat' (first | (with_reducible exact Vg.Grows.refl _) | (with_reducible assumption) | (with_reducible refine Vg.Grows.alloc ?_ _) | (with_reducible refine Vg.Grows.plus ?_ _ _) | (with_reducible refine Vg.Grows.drewN ?_ _) | (with_reducible refine Vg.Grows.drew ?_) | (with_reducible refine Vg.Grows.setCell ?_ ?_ _) | (with_reducible refine Vg.Grows.put ?_ ?_ _) | omega | (simp; omega) | (simp; done))))) _ 1 1 [.int .i64 k] rfl rfl (Vg.one_new (by first | rfl | ((try simp only [World.size_alloc, Vg.plus_size, Vg.put_size, World.size_setCell, World.size_drew, World.heap_drewN]) <;> omega))) (by simp [Value.oneCell']) (by decide) (by unfold maxLen; omega) (by omega) (by simp only [World.size_alloc, World.size_drew, Vg.put_size]; omega) ?_); intro v3 W3 y3 m3 hq3 hs3 ho3; obtain ⟨a3, c3, rfl⟩ := hq3.shape; have hT3 : Vg.Touch (fun q => (Value.slice sa' m sc').ownBlock = some q) (Vg.put w2 g (dkO u en ed pa' n pc' sa' m sc')) (Vg.plus W3 y3 m3) := ((Vg.Touch.of_grows (by (repeat' (first | (with_reducible exact Vg.Grows.refl _) | (with_reducible assumption) | (with_reducible refine Vg.Grows.alloc ?_ _) | (with_reducible refine Vg.Grows.plus ?_ _ _) | (with_reducible refine Vg.Grows.drewN ?_ _) | (with_reducible refine Vg.Grows.drew ?_) | (with_reducible refine Vg.Grows.setCell ?_ ?_ _) | (with_reducible refine Vg.Grows.put ?_ ?_ _) | omega | (simp; omega) | (simp; done))))).trans (Vg.Touch.of_same hs3)).trans (Vg.Touch.of_grows ((Vg.Grows.refl W3).plus y3 m3)); have xg := hT3.bk (Vg.put_heap_same l_zg) (fun hh => by have := H_f2.out g hh; omega); have xR := hT3.bk ((Vg.put_heap_other n1).trans H_zR.out) (fun hh => by have := H_f2.out _ hh; omega); have xP := (H_hI2.out.p.put H_hI2.out.ok.len (fun j hj => by have := H_f1.out j hj; omega) (dkO u en ed pa' n pc' sa' m sc')).touch hT3 H_hI2.out.ok.len (fun j hj hh => H_hd.out j hj hh); have gx := hT3.gr (Vg.Grows.put hgw2 (show w.heap.size ≤ g by omega) (dkO u en ed pa' n pc' sa' m sc')) (fun j hj => by have := H_f2.out j hj; omega); have sx := hT3.size; simp only [World.size_alloc, World.size_drew, Vg.put_size] at ho3 sx; obtain ⟨W4, hW4⟩ : ∃ W4, Vg.plus W3 y3 m3 = W4 := ⟨_, rfl⟩; rw [hW4] at hq3 xg xR xP gx sx ⊢; clear hW4 hs3 hT3; clear c_zg f_zg p_zg c_zR f_zR p_zR; have c_xg := Vg.cells_of xg; have f_xg := Vg.frozen_of xg; have p_xg := Vg.setCell_of xg; have l_xg := Vg.lt_of xg; have H_xg := Lib.hid xg; clear xg; have c_xR := Vg.cells_of xR; have f_xR := Vg.frozen_of xR; have p_xR := Vg.setCell_of xR; have l_xR := Vg.lt_of xR; have H_xR := Lib.hid xR; clear xR; have H_hq3 := Lib.hid hq3; clear hq3; have H_ho3 := Lib.hid ho3; clear ho3; have H_xP := Lib.hid xP; clear xP)
      have hpc : ∀ (o : Obj) (cs : Array Value) (i : Nat), (Vg.put (Vg.put W4 (w.heap.size + 1) (.cells cs 77)) g o).cell? ⟨w.heap.size + 1, i, none⟩ = cs[i]? := fun o cs i => Vg.cells_of ((Vg.put_heap_other n1).trans (Vg.put_heap_same l_xR)) i
      have H_hpc := Lib.hid hpc; clear hpc
      go_wp2_with fail
      refine bodyPost_ret (by simp [results, Tryd.results36, go_sem, H_hpc.out] <;> try rfl) rfl ?_
      have hI9 : IS W4 (c.ack k) n (m + 1) pa' pc' a3 c3 := ⟨H_hok.out, by show (c.st ++ [k]).length = m + 1; rw [List.length_append, H_h.out.m]; rfl, H_xP.out, by
        have hrd := H_hq3.out.reads
        rw [← Vg.ics_ic_snoc] at hrd
        exact Vg.IR.of_rd hrd (by rw [Vg.ic_len]; show (c.st ++ [k]).length = m + 1; rw [List.length_append, H_h.out.m]; rfl)⟩
      have hfin := icr_of3 (w := w) (ed := ed) (g := g) (lo := w.heap.size + 1 + 1) hI9 (fun j hj => by have := H_f1.out j hj; exact ⟨this.1, by omega, by omega⟩) (fun j hj => by
        have h1 := H_hq3.out.lt j hj
        refine ⟨h1.1, fun hh => ?_, h1.2⟩
        rcases H_ho3.out with h2 | h2
        · have := H_f2.out j (h2.symm.trans hj); omega
        · have := h2.symm.trans hj; simp at this; omega) (by omega) (bR := w.heap.size + 1) (by omega)
      rw [H_hcz.out, (show (c.ack k).en = c.en from rfl), H_hen.out] at hfin
      exact ⟨_, rfl, hfin _ _, Vg.Grows.put (Vg.Grows.put gx (Nat.le_succ _) _) (by omega) _⟩
    exact AllReadyH.nil
  exact AllReadyH.nil
theorem oddP_all {L : List Int} (h : L.any Vg.oddP = false) : ∀ p ∈ L, 1 ≤ p ∧ p ≤ 15 := fun p hp => by
  have := List.any_eq_false.1 h p hp
  simp [Vg.oddP] at this
  omega
theorem ic_make (hr : Vg.IR w pa pc L) (hn : L.length = n) (h1 : 1 ≤ n) (h2 : n ≤ 64) (hodd : L.any Vg.oddP = false) (hed : 2 ^ n - 1 = ed) :
    Calls Tryd.prog 26 #[.int .u64 ed, .slice pa n pc] w fun e w' => ∃ v, e = .returned (.tuple #[v, .int .i64 0]) ∧ ICR w w' ⟨0, ed, L, []⟩ n ed v ∧ Vg.Grows w w' := by
  have h0 : (0 : Nat) < 2 ^ n := Nat.two_pow_pos n
  have hok : Vg.Ic.Ok n ⟨0, ed, L, []⟩ := ⟨hn, ⟨h1, h2⟩, oddP_all hodd, h0, by show ed < 2 ^ n; omega, fun i hi => by simp at hi, List.Pairwise.nil⟩
  clear h0
  have H_hr := Lib.hid hr; clear hr; have H_hn := Lib.hid hn; clear hn; have H_hodd := Lib.hid hodd; clear hodd; have H_hed := Lib.hid hed; clear hed; have H_hok := Lib.hid hok; clear hok
  go_enter Tryd.func26, Tryd.ntmps26
  go_upto_region 3 with (first | (go_at_call 60; (with_reducible refine (clone (H_hr.out.grows (by (repeat' (first | (with_reducible exact Vg.Grows.refl _) | (with_reducible assumption) | (with_reducible refine Vg.Grows.alloc ?_ _) | (with_reducible refine Vg.Grows.plus ?_ _ _) | (with_reducible refine Vg.Grows.drewN ?_ _) | (with_reducible refine Vg.Grows.drew ?_) | (with_reducible refine Vg.Grows.setCell ?_ ?_ _) | (with_reducible refine Vg.Grows.put ?_ ?_ _) | omega | (simp; omega) | (simp; done))))) H_hn.out (by omega)).mono ?_); rintro e w1 ⟨a1, c1, rfl, hr1, hf1, -, hg1⟩; have yR := hg1.blk (b := w.heap.size) (o := ic0) (by go_simp); have hgw := Vg.Grows.trans (a := w) (by (repeat' (first | (with_reducible exact Vg.Grows.refl _) | (with_reducible assumption) | (with_reducible refine Vg.Grows.alloc ?_ _) | (with_reducible refine Vg.Grows.plus ?_ _ _) | (with_reducible refine Vg.Grows.drewN ?_ _) | (with_reducible refine Vg.Grows.drew ?_) | (with_reducible refine Vg.Grows.setCell ?_ ?_ _) | (with_reducible refine Vg.Grows.put ?_ ?_ _) | omega | (simp; omega) | (simp; done)))) hg1; have hs1 := hg1.size; simp only [World.size_alloc] at hf1 hs1; have q1 := hr1.1; have q2 : c1 ≤ 9223372036854775807 := hr1.2.1; rw [H_hn.out] at q1; have c_yR := Vg.cells_of yR; have f_yR := Vg.frozen_of yR; have p_yR := Vg.setCell_of yR; have l_yR := Vg.lt_of yR; have H_yR := Lib.hid yR; clear yR; have H_hr1 := Lib.hid hr1; clear hr1; have H_hf1 := Lib.hid hf1; clear hf1; have H_hg1 := Lib.hid hg1; clear hg1) | (go_at_call 61; (with_reducible refine (ic_lines _ _ _ _ _ _ H_hed.out h1 h2 _).mono ?_); rintro e w2 ⟨rfl, x2, m2, rfl⟩))
  obtain ⟨W2, hW2, zR, z6, hgw2, hr2, hs2⟩ : ∃ W2, Vg.plus (w1.alloc (.cells #[.int .u64 0, .int .u64 ed, .int .u64 0, .int .u64 ed, .slice a1 n c1, .int .i64 0, .slice none 0 0] 77)) x2 m2 = W2 ∧ Vg.blk W2 w.heap.size = some ic0 ∧ Vg.blk W2 w1.heap.size = some (icO 0 ed ed a1 n c1 none 0 0) ∧ Vg.Grows w W2 ∧ Vg.IR W2 a1 c1 L ∧ w1.heap.size + 1 ≤ W2.heap.size := ⟨_, rfl, Vg.Grows.blk (w0 := w1) (by (repeat' (first | (with_reducible exact Vg.Grows.refl _) | (with_reducible assumption) | (with_reducible refine Vg.Grows.alloc ?_ _) | (with_reducible refine Vg.Grows.plus ?_ _ _) | (with_reducible refine Vg.Grows.drewN ?_ _) | (with_reducible refine Vg.Grows.drew ?_) | (with_reducible refine Vg.Grows.setCell ?_ ?_ _) | (with_reducible refine Vg.Grows.put ?_ ?_ _) | omega | (simp; omega) | (simp; done)))) H_yR.out, (Vg.Grows.plus (Vg.Grows.refl _) _ _).blk (Vg.alloc_heap_at rfl), by (repeat' (first | (with_reducible exact Vg.Grows.refl _) | (with_reducible assumption) | (with_reducible refine Vg.Grows.alloc ?_ _) | (with_reducible refine Vg.Grows.plus ?_ _ _) | (with_reducible refine Vg.Grows.drewN ?_ _) | (with_reducible refine Vg.Grows.drew ?_) | (with_reducible refine Vg.Grows.setCell ?_ ?_ _) | (with_reducible refine Vg.Grows.put ?_ ?_ _) | omega | (simp; omega) | (simp; done))), H_hr1.out.grows (by (repeat' (first | (with_reducible exact Vg.Grows.refl _) | (with_reducible assumption) | (with_reducible refine Vg.Grows.alloc ?_ _) | (with_reducible refine Vg.Grows.plus ?_ _ _) | (with_reducible refine Vg.Grows.drewN ?_ _) | (with_reducible refine Vg.Grows.drew ?_) | (with_reducible refine Vg.Grows.setCell ?_ ?_ _) | (with_reducible refine Vg.Grows.put ?_ ?_ _) | omega | (simp; omega) | (simp; done)))), by rw [Vg.plus_size, World.size_alloc]; omega⟩
  rw [hW2]
  clear hW2
  clear c_yR f_yR p_yR
  have c_zR := Vg.cells_of zR; have f_zR := Vg.frozen_of zR; have p_zR := Vg.setCell_of zR; have l_zR := Vg.lt_of zR; have H_zR := Lib.hid zR; clear zR; have c_z6 := Vg.cells_of z6; have f_z6 := Vg.frozen_of z6; have p_z6 := Vg.setCell_of z6; have l_z6 := Vg.lt_of z6; have H_z6 := Lib.hid z6; clear z6
  have hI : IS W2 ⟨0, ed, L, []⟩ n 0 a1 c1 none 0 := ⟨H_hok.out, rfl, hr2, Vg.IR.nil _⟩
  have hck : Calls Tryd.prog 62 #[.agg #[.int .u64 0, .int .u64 ed, .int .u64 0, .int .u64 ed, .slice a1 n c1, .int .i64 0, .slice none 0 0]] W2 fun e w' => e = .returned (.int .i64 0) ∧ Vg.Grows W2 w' := ic_check hI H_hed.out rfl rfl
  have H_hr2 := Lib.hid hr2; clear hr2; have H_hI := Lib.hid hI; clear hI; have H_hck := Lib.hid hck; clear hck
  have n1 : w1.heap.size ≠ w.heap.size := by omega
  have n2 : w.heap.size ≠ w1.heap.size := by omega
  go_upto_region 4 with ((go_at_call 62; (with_reducible refine (H_hck.out).mono ?_); rintro e w3 ⟨rfl, hg3⟩; have uR := hg3.blk H_zR.out; have u6 := hg3.blk H_z6.out; have hgw3 := hgw2.trans hg3; have hs3 := hg3.size; clear c_zR f_zR p_zR c_z6 f_z6 p_z6; have c_uR := Vg.cells_of uR; have f_uR := Vg.frozen_of uR; have p_uR := Vg.setCell_of uR; have l_uR := Vg.lt_of uR; have H_uR := Lib.hid uR; clear uR; have c_u6 := Vg.cells_of u6; have f_u6 := Vg.frozen_of u6; have p_u6 := Vg.setCell_of u6; have l_u6 := Vg.lt_of u6; have H_u6 := Lib.hid u6; clear u6; have H_hg3 := Lib.hid hg3; clear hg3))
  have hpc : ∀ (cs : Array Value) (i : Nat), (Vg.put w3 w.heap.size (.cells cs 77)).cell? ⟨w.heap.size, i, none⟩ = cs[i]? := fun cs i => Vg.cells_of (Vg.put_heap_same l_uR) i
  have H_hpc := Lib.hid hpc; clear hpc
  go_wp2_with fail
  refine bodyPost_ret (by simp [results, Tryd.results26, go_sem, H_hpc.out] <;> try rfl) rfl ?_
  have hfin := icr_of1 (w := w) (c' := ⟨0, ed, L, []⟩) (ed := ed) (lo := w.heap.size + 1) (g := w1.heap.size) (H_hI.out.grows H_hg3.out) (fun j hj => by have := H_hf1.out j hj; omega) (fun j hj => by simp [Value.ownBlock] at hj) (by omega) (bR := w.heap.size) (by omega) l_u6 H_hok.out rfl rfl
  exact ⟨_, rfl, hfin _, Vg.Grows.put hgw3 (Nat.le_refl _) _⟩
theorem ic_make_no (hr : Vg.IR w pa pc L) (hn : L.length = n) (h1 : 1 ≤ n) (h2 : n ≤ 4398046511104) (h : 64 < n ∨ L.any Vg.oddP = true) (ed : Int) :
    Calls Tryd.prog 26 #[.int .u64 ed, .slice pa n pc] w fun e w' => e = .returned (.tuple #[icV 0 0 0 none 0 0 none 0 0, .int .i64 2]) ∧ Vg.Grows w w' := by
  obtain ⟨z, hz⟩ : ∃ z : Nat, (if n ≤ 64 then 2 ^ n - 1 else 18446744073709551615) = z := ⟨_, rfl⟩
  have hlines : ∀ (a b d f : Int) (th : Int) (sa : Option Addr) (m sc pc : Nat) (pa : Option Addr) (w : World), Calls Tryd.prog 61 #[.agg #[.int .u64 a, .int .u64 b, .int .u64 d, .int .u64 f, .slice pa n pc, .int .i64 th, .slice sa m sc]] w fun e w' => e = .returned (.int .u64 z) ∧ Vg.Grows w w' := fun a b d f th sa m sc pc pa w => by
    by_cases h64 : n ≤ 64
    · rw [if_pos h64] at hz
      exact ic_lines a b d f th z hz h1 h64 w
    · rw [if_neg h64] at hz
      subst hz
      exact ic_lines9 a b d f th (by omega) (by omega) w
  have H_hr := Lib.hid hr; clear hr; have H_hn := Lib.hid hn; clear hn; have H_hz := Lib.hid hz; clear hz; have H_h := Lib.hid h; clear h; have H_hlines := Lib.hid hlines; clear hlines
  go_enter Tryd.func26, Tryd.ntmps26
  go_upto_region 3 with (first | (go_at_call 60; (with_reducible refine (clone (H_hr.out.grows (by (repeat' (first | (with_reducible exact Vg.Grows.refl _) | (with_reducible assumption) | (with_reducible refine Vg.Grows.alloc ?_ _) | (with_reducible refine Vg.Grows.plus ?_ _ _) | (with_reducible refine Vg.Grows.drewN ?_ _) | (with_reducible refine Vg.Grows.drew ?_) | (with_reducible refine Vg.Grows.setCell ?_ ?_ _) | (with_reducible refine Vg.Grows.put ?_ ?_ _) | omega | (simp; omega) | (simp; done))))) H_hn.out (by omega)).mono ?_); rintro e w1 ⟨a1, c1, rfl, hr1, hf1, -, hg1⟩; have yR := hg1.blk (b := w.heap.size) (o := ic0) (by go_simp); have hgw := Vg.Grows.trans (a := w) (by (repeat' (first | (with_reducible exact Vg.Grows.refl _) | (with_reducible assumption) | (with_reducible refine Vg.Grows.alloc ?_ _) | (with_reducible refine Vg.Grows.plus ?_ _ _) | (with_reducible refine Vg.Grows.drewN ?_ _) | (with_reducible refine Vg.Grows.drew ?_) | (with_reducible refine Vg.Grows.setCell ?_ ?_ _) | (with_reducible refine Vg.Grows.put ?_ ?_ _) | omega | (simp; omega) | (simp; done)))) hg1; have hs1 := hg1.size; simp only [World.size_alloc] at hf1 hs1; have q1 := hr1.1; have q2 : c1 ≤ 9223372036854775807 := hr1.2.1; rw [H_hn.out] at q1; have c_yR := Vg.cells_of yR; have f_yR := Vg.frozen_of yR; have p_yR := Vg.setCell_of yR; have l_yR := Vg.lt_of yR; have H_yR := Lib.hid yR; clear yR; have H_hr1 := Lib.hid hr1; clear hr1; have H_hf1 := Lib.hid hf1; clear hf1; have H_hg1 := Lib.hid hg1; clear hg1) | (go_at_call 61; (with_reducible refine (H_hlines.out _ _ _ _ _ _ _ _ _ _ _).mono ?_); rintro e w2 ⟨rfl, x2, m2, rfl⟩))
  have hpc : ∀ (W : World) (hW : w.heap.size < W.heap.size) (cs : Array Value) (i : Nat), (Vg.put W w.heap.size (.cells cs 77)).cell? ⟨w.heap.size, i, none⟩ = cs[i]? := fun W hW cs i => Vg.cells_of (Vg.put_heap_same hW) i
  go_upto_region 4 with ((go_at_call 62; (with_reducible refine (ic_check_no (H_hr1.out.grows (by (repeat' (first | (with_reducible exact Vg.Grows.refl _) | (with_reducible assumption) | (with_reducible refine Vg.Grows.alloc ?_ _) | (with_reducible refine Vg.Grows.plus ?_ _ _) | (with_reducible refine Vg.Grows.drewN ?_ _) | (with_reducible refine Vg.Grows.drew ?_) | (with_reducible refine Vg.Grows.setCell ?_ ?_ _) | (with_reducible refine Vg.Grows.put ?_ ?_ _) | omega | (simp; omega) | (simp; done))))) H_hn.out h1 H_h.out _ _ _ _ _).mono ?_); rintro e w3 ⟨rfl, hg3⟩; have uR := hg3.blk (Vg.Grows.blk (w0 := w1) (by (repeat' (first | (with_reducible exact Vg.Grows.refl _) | (with_reducible assumption) | (with_reducible refine Vg.Grows.alloc ?_ _) | (with_reducible refine Vg.Grows.plus ?_ _ _) | (with_reducible refine Vg.Grows.drewN ?_ _) | (with_reducible refine Vg.Grows.drew ?_) | (with_reducible refine Vg.Grows.setCell ?_ ?_ _) | (with_reducible refine Vg.Grows.put ?_ ?_ _) | omega | (simp; omega) | (simp; done)))) H_yR.out); have hgw3 := Vg.Grows.trans (a := w) (by (repeat' (first | (with_reducible exact Vg.Grows.refl _) | (with_reducible assumption) | (with_reducible refine Vg.Grows.alloc ?_ _) | (with_reducible refine Vg.Grows.plus ?_ _ _) | (with_reducible refine Vg.Grows.drewN ?_ _) | (with_reducible refine Vg.Grows.drew ?_) | (with_reducible refine Vg.Grows.setCell ?_ ?_ _) | (with_reducible refine Vg.Grows.put ?_ ?_ _) | omega | (simp; omega) | (simp; done)))) hg3; clear c_yR f_yR p_yR; have c_uR := Vg.cells_of uR; have f_uR := Vg.frozen_of uR; have p_uR := Vg.setCell_of uR; have l_uR := Vg.lt_of uR; have H_uR := Lib.hid uR; clear uR; have H_hg3 := Lib.hid hg3; clear hg3))
  have hpc := hpc w3 l_uR
  have H_hpc := Lib.hid hpc; clear hpc
  go_wp2_with fail
  refine bodyPost_ret (by simp [results, Tryd.results26, go_sem, H_hpc.out] <;> try rfl) rfl ?_
  exact ⟨rfl, Vg.Grows.put hgw3 (Nat.le_refl _) _⟩
end
end Go.Proofs.YtekjnagojphmkaaDoor
