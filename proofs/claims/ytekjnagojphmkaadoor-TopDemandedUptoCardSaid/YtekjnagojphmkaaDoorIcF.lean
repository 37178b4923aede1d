/- Package intc: Raise, Next. -/
import Derived.Test.YtekjnagojphmkaaDoorIcE
set_option linter.unusedSimpArgs false
set_option linter.unusedVariables false
set_option maxHeartbeats 8000000
set_option maxRecDepth 100000
namespace Go.Proofs.YtekjnagojphmkaaDoor
open Go.ChangeShapes Go.WideShapes Go.ChangeAt Go.RowKit
abbrev ic0 : Obj := icO 0 0 0 none 0 0 none 0 0
/-- What a call hands back: a controller, its rows in new blocks. -/
def ICR (w w' : World) (c : Vg.Ic) (n ed : Nat) (v : Value) : Prop :=
  ∃ pa pc sa m sc, v = icV c.pe c.en ed pa n pc sa m sc ∧ IS w' c n m pa pc sa sc ∧ (∀ k, (Value.slice pa n pc).ownBlock = some k → w.heap.size ≤ k ∧ k < w'.heap.size) ∧ (∀ k, (Value.slice sa m sc).ownBlock = some k → w.heap.size ≤ k ∧ k < w'.heap.size)
section
variable {w w' w1 : World} {c c' : Vg.Ic} {n m ed pc sc pe en g bR lo : Nat} {pa sa : Option Addr} {L : List Int}
theorem icr_of1 (hI : IS w1 c n m pa pc sa sc) (f1 : ∀ k, (Value.slice pa n pc).ownBlock = some k → lo ≤ k ∧ k < g) (f2 : ∀ k, (Value.slice sa m sc).ownBlock = some k → lo ≤ k ∧ k < g) (hlo : w.heap.size ≤ lo) (hbR : bR < lo) (hgl : g < w1.heap.size) (hok : c'.Ok n) (hp : c'.pr = c.pr) (hs : c'.st = c.st) (o : Obj) :
    ICR w (Vg.put w1 bR o) c' n ed (icV c'.pe c'.en ed pa n pc sa m sc) := by
  have h9 := hI.put (b := bR) (fun k hk => by have := f1 k hk; omega) (fun k hk => by have := f2 k hk; omega) o
  refine ⟨pa, pc, sa, m, sc, rfl, ⟨hok, by rw [hs]; exact h9.m, by rw [hp]; exact h9.p, by rw [hs]; exact h9.s⟩, fun k hk => ?_, fun k hk => ?_⟩
  · have := f1 k hk; rw [Vg.put_size]; omega
  · have := f2 k hk; rw [Vg.put_size]; omega
theorem icr_of2 (hI : IS w1 c n m pa pc sa sc) (f1 : ∀ k, (Value.slice pa n pc).ownBlock = some k → lo ≤ k ∧ k < g) (f2 : ∀ k, (Value.slice sa m sc).ownBlock = some k → lo ≤ k ∧ k < g) (hlo : w.heap.size ≤ lo) (hbR : bR < lo) (hgl : g < w1.heap.size) (hok : c'.Ok n) (hp : c'.pr = c.pr) (hs : c'.st = c.st) (o o2 : Obj) :
    ICR w (Vg.put (Vg.put w1 bR o) g o2) c' n ed (icV c'.pe c'.en ed pa n pc sa m sc) := by
  have h8 := hI.put (b := bR) (fun k hk => by have := f1 k hk; omega) (fun k hk => by have := f2 k hk; omega) o
  have h9 := h8.put (b := g) (fun k hk => by have := f1 k hk; omega) (fun k hk => by have := f2 k hk; omega) o2
  refine ⟨pa, pc, sa, m, sc, rfl, ⟨hok, by rw [hs]; exact h9.m, by rw [hp]; exact h9.p, by rw [hs]; exact h9.s⟩, fun k hk => ?_, fun k hk => ?_⟩
  · have := f1 k hk; rw [Vg.put_size, Vg.put_size]; omega
  · have := f2 k hk; rw [Vg.put_size, Vg.put_size]; omega
theorem ICR.grows {v : Value} (h : ICR w w' c n ed v) (hg : Vg.Grows w' w1) : ICR w w1 c n ed v := by
  obtain ⟨pa, pc, sa, m, sc, h1, h2, h3, h4⟩ := h
  exact ⟨pa, pc, sa, m, sc, h1, h2.grows hg, fun k hk => ⟨(h3 k hk).1, Nat.lt_of_lt_of_le (h3 k hk).2 hg.size⟩, fun k hk => ⟨(h4 k hk).1, Nat.lt_of_lt_of_le (h4 k hk).2 hg.size⟩⟩
theorem ic_nextl (h : IS w c n m pa pc sa sc) (hed : 2 ^ n - 1 = ed) (hpe : c.pe = pe) (hen : c.en = en) (hT : Vg.Tab w) {x : Int} (hx : c.nx = x) :
    Calls Tryd.prog 34 #[icV pe en ed pa n pc sa m sc] w fun e w' => e = .returned (.tuple #[.int .i64 (if x = 64 then 0 else x), .int .i64 (if x = 64 then 3 else 0)]) ∧ Vg.Grows w w' := by
  have hr0 : (if (0 : Int) ≤ 0 ∧ (0 : Int) < (n : Int) then (0 : Int) else 1) = 0 := if_pos ⟨by omega, by have := h.ok.n1; omega⟩
  by_cases h64 : x = 64
  · have his : decide (x ≠ 64) = false := by simp [h64]
    subst h64
    simp only [if_true]
    have H_h := Lib.hid h; clear h; have H_hed := Lib.hid hed; clear hed; have H_hpe := Lib.hid hpe; clear hpe; have H_hen := Lib.hid hen; clear hen; have H_hT := Lib.hid hT; clear hT; have H_hx := Lib.hid hx; clear hx; have H_his := Lib.hid his; clear his; have H_hr0 := Lib.hid hr0; clear hr0
    go_enter Tryd.func34, Tryd.ntmps34
    go_wp2_with (first | (go_at_call 64; (with_reducible refine (ic_open 0 H_hr0.out (H_h.out.grows (by (repeat' (first | (with_reducible exact Vg.Grows.refl _) | (with_reducible assumption) | (with_reducible refine Vg.Grows.alloc ?_ _) | (with_reducible refine Vg.Grows.plus ?_ _ _) | (with_reducible refine Vg.Grows.drewN ?_ _) | (with_reducible refine Vg.Grows.drew ?_) | (with_reducible refine Vg.Grows.setCell ?_ ?_ _) | (with_reducible refine Vg.Grows.put ?_ ?_ _) | omega | (simp; omega) | (simp; done))))) H_hed.out H_hpe.out H_hen.out).mono ?_); rintro e w1 ⟨g, rfl, hg, pa', pc', sa', sc', hb, hI, -, -, f1, f2, hg1⟩; have H_hb := Lib.hid hb; clear hb; have H_hI := Lib.hid hI; clear hI; have H_f1 := Lib.hid f1; clear f1; have H_f2 := Lib.hid f2; clear f2; have H_hg1 := Lib.hid hg1; clear hg1) | (go_at_call 71; (with_reducible refine (ic_next H_hb.out H_hI.out H_hpe.out H_hen.out ((H_hT.out.grows (by (repeat' (first | (with_reducible exact Vg.Grows.refl _) | (with_reducible assumption) | (with_reducible refine Vg.Grows.alloc ?_ _) | (with_reducible refine Vg.Grows.plus ?_ _ _) | (with_reducible refine Vg.Grows.drewN ?_ _) | (with_reducible refine Vg.Grows.drew ?_) | (with_reducible refine Vg.Grows.setCell ?_ ?_ _) | (with_reducible refine Vg.Grows.put ?_ ?_ _) | omega | (simp; omega) | (simp; done))))).grows H_hg1.out) H_hx.out H_his.out).mono ?_); rintro e w2 ⟨rfl, hg2⟩; have H_hg2 := Lib.hid hg2; clear hg2))
    go_returns
    exact ⟨rfl, (Vg.Grows.trans (by (repeat' (first | (with_reducible exact Vg.Grows.refl _) | (with_reducible assumption) | (with_reducible refine Vg.Grows.alloc ?_ _) | (with_reducible refine Vg.Grows.plus ?_ _ _) | (with_reducible refine Vg.Grows.drewN ?_ _) | (with_reducible refine Vg.Grows.drew ?_) | (with_reducible refine Vg.Grows.setCell ?_ ?_ _) | (with_reducible refine Vg.Grows.put ?_ ?_ _) | omega | (simp; omega) | (simp; done)))) H_hg1.out).trans H_hg2.out⟩
  · have his : decide (x ≠ 64) = true := by simp [h64]
    simp only [if_neg h64]
    have H_h := Lib.hid h; clear h; have H_hed := Lib.hid hed; clear hed; have H_hpe := Lib.hid hpe; clear hpe; have H_hen := Lib.hid hen; clear hen; have H_hT := Lib.hid hT; clear hT; have H_hx := Lib.hid hx; clear hx; have H_his := Lib.hid his; clear his; have H_hr0 := Lib.hid hr0; clear hr0
    go_enter Tryd.func34, Tryd.ntmps34
    go_wp2_with (first | (go_at_call 64; (with_reducible refine (ic_open 0 H_hr0.out (H_h.out.grows (by (repeat' (first | (with_reducible exact Vg.Grows.refl _) | (with_reducible assumption) | (with_reducible refine Vg.Grows.alloc ?_ _) | (with_reducible refine Vg.Grows.plus ?_ _ _) | (with_reducible refine Vg.Grows.drewN ?_ _) | (with_reducible refine Vg.Grows.drew ?_) | (with_reducible refine Vg.Grows.setCell ?_ ?_ _) | (with_reducible refine Vg.Grows.put ?_ ?_ _) | omega | (simp; omega) | (simp; done))))) H_hed.out H_hpe.out H_hen.out).mono ?_); rintro e w1 ⟨g, rfl, hg, pa', pc', sa', sc', hb, hI, -, -, f1, f2, hg1⟩; have H_hb := Lib.hid hb; clear hb; have H_hI := Lib.hid hI; clear hI; have H_f1 := Lib.hid f1; clear f1; have H_f2 := Lib.hid f2; clear f2; have H_hg1 := Lib.hid hg1; clear hg1) | (go_at_call 71; (with_reducible refine (ic_next H_hb.out H_hI.out H_hpe.out H_hen.out ((H_hT.out.grows (by (repeat' (first | (with_reducible exact Vg.Grows.refl _) | (with_reducible assumption) | (with_reducible refine Vg.Grows.alloc ?_ _) | (with_reducible refine Vg.Grows.plus ?_ _ _) | (with_reducible refine Vg.Grows.drewN ?_ _) | (with_reducible refine Vg.Grows.drew ?_) | (with_reducible refine Vg.Grows.setCell ?_ ?_ _) | (with_reducible refine Vg.Grows.put ?_ ?_ _) | omega | (simp; omega) | (simp; done))))).grows H_hg1.out) H_hx.out H_his.out).mono ?_); rintro e w2 ⟨rfl, hg2⟩; have H_hg2 := Lib.hid hg2; clear hg2))
    go_returns
    exact ⟨rfl, (Vg.Grows.trans (by (repeat' (first | (with_reducible exact Vg.Grows.refl _) | (with_reducible assumption) | (with_reducible refine Vg.Grows.alloc ?_ _) | (with_reducible refine Vg.Grows.plus ?_ _ _) | (with_reducible refine Vg.Grows.drewN ?_ _) | (with_reducible refine Vg.Grows.drew ?_) | (with_reducible refine Vg.Grows.setCell ?_ ?_ _) | (with_reducible refine Vg.Grows.put ?_ ?_ _) | omega | (simp; omega) | (simp; done)))) H_hg1.out).trans H_hg2.out⟩
theorem bit_facts (pe i : Nat) (hp : pe < 18446744073709551616) (hi : i < 64) {bt y z : Nat} (hbt : 2 ^ i = bt) (hy : pe &&& bt = y) (hz : pe ||| bt = z) :
    IntKind.u64.wrap ((2 : Int) ^ i) = (bt : Int) ∧ bits .and .u64 (pe : Int) (bt : Int) = (y : Int) ∧ bits .or .u64 (pe : Int) (bt : Int) = (z : Int) ∧ y = (if pe.testBit i = true then bt else 0) ∧ 0 < bt ∧ bt < 18446744073709551616 := by
  have hb := Vg.pow_lt64 hi
  subst hbt hy hz
  refine ⟨shl_one i hi, u64_and_nat _ _ hp hb, u64_or_nat _ _ hp hb, ?_, Nat.two_pow_pos i, hb⟩
  apply Nat.eq_of_testBit_eq
  intro j
  rw [Nat.testBit_and, Nat.testBit_two_pow]
  by_cases hij : i = j
  · subst hij
    by_cases hb : pe.testBit i = true
    · rw [if_pos hb, Nat.testBit_two_pow]; simp [hb]
    · rw [if_neg hb]; simp [hb]
  · by_cases hb : pe.testBit i = true
    · rw [if_pos hb, Nat.testBit_two_pow]; simp [hij]
    · rw [if_neg hb]; simp [hij]
theorem ic_raise_no (i : Nat) (hi : i < n) (h : IS w c n m pa pc sa sc) (hed : 2 ^ n - 1 = ed) (hpe : c.pe = pe) (hen : c.en = en) (hb : pe.testBit i = true) :
    Calls Tryd.prog 29 #[icV pe en ed pa n pc sa m sc, .int .i64 i] w fun e w' => ∃ v, e = .returned (.tuple #[v, .int .i64 4]) ∧ ICR w w' c n ed v ∧ Vg.Grows w w' := by
  have n64 := h.ok.n1.2
  have hr0 : (if (0 : Int) ≤ (i : Int) ∧ (i : Int) < (n : Int) then (0 : Int) else 1) = 0 := if_pos ⟨by omega, by omega⟩
  obtain ⟨bt, hbt⟩ : ∃ b, 2 ^ i = b := ⟨_, rfl⟩
  obtain ⟨y, hy⟩ : ∃ y, pe &&& bt = y := ⟨_, rfl⟩
  obtain ⟨z, hz⟩ : ∃ z, pe ||| bt = z := ⟨_, rfl⟩
  obtain ⟨k1, k2, k3, k4, k5, -⟩ := bit_facts pe i (by rw [← hpe]; exact h.ok.pe64) (by omega) hbt hy hz
  rw [hb, if_pos rfl] at k4
  have hy0 : ((y : Int) == 0) = false := by simp; omega
  have H_h := Lib.hid h; clear h; have H_hed := Lib.hid hed; clear hed; have H_hpe := Lib.hid hpe; clear hpe; have H_hen := Lib.hid hen; clear hen; have H_hr0 := Lib.hid hr0; clear hr0; have H_hb := Lib.hid hb; clear hb; have H_hbt := Lib.hid hbt; clear hbt; have H_hy := Lib.hid hy; clear hy; have H_hz := Lib.hid hz; clear hz; have H_k4 := Lib.hid k4; clear k4
  go_enter Tryd.func29, Tryd.ntmps29
  go_upto_region 2 with ((go_at_call 64; (with_reducible refine (ic_open i H_hr0.out (H_h.out.grows (by (repeat' (first | (with_reducible exact Vg.Grows.refl _) | (with_reducible assumption) | (with_reducible refine Vg.Grows.alloc ?_ _) | (with_reducible refine Vg.Grows.plus ?_ _ _) | (with_reducible refine Vg.Grows.drewN ?_ _) | (with_reducible refine Vg.Grows.drew ?_) | (with_reducible refine Vg.Grows.setCell ?_ ?_ _) | (with_reducible refine Vg.Grows.put ?_ ?_ _) | omega | (simp; omega) | (simp; done))))) H_hed.out H_hpe.out H_hen.out).mono ?_); rintro e w1 ⟨g, rfl, hg, pa', pc', sa', sc', hg0, hI, -, -, f1, f2, hg1⟩; have yR := hg1.blk (b := w.heap.size + 1) (o := ic0) (by go_simp); have hgw := Vg.Grows.trans (a := w) (by (repeat' (first | (with_reducible exact Vg.Grows.refl _) | (with_reducible assumption) | (with_reducible refine Vg.Grows.alloc ?_ _) | (with_reducible refine Vg.Grows.plus ?_ _ _) | (with_reducible refine Vg.Grows.drewN ?_ _) | (with_reducible refine Vg.Grows.drew ?_) | (with_reducible refine Vg.Grows.setCell ?_ ?_ _) | (with_reducible refine Vg.Grows.put ?_ ?_ _) | omega | (simp; omega) | (simp; done)))) hg1; simp only [World.size_alloc] at hg f1 f2; have c_hg0 := Vg.cells_of hg0; have f_hg0 := Vg.frozen_of hg0; have p_hg0 := Vg.setCell_of hg0; have l_hg0 := Vg.lt_of hg0; have H_hg0 := Lib.hid hg0; clear hg0; have c_yR := Vg.cells_of yR; have f_yR := Vg.frozen_of yR; have p_yR := Vg.setCell_of yR; have l_yR := Vg.lt_of yR; have H_yR := Lib.hid yR; clear yR; have H_hI := Lib.hid hI; clear hI; have H_f1 := Lib.hid f1; clear f1; have H_f2 := Lib.hid f2; clear f2; have H_hg1 := Lib.hid hg1; clear hg1))
  have n1 : g ≠ w.heap.size + 1 := by omega
  have n2 : w.heap.size + 1 ≠ g := by omega
  have hpc : ∀ (cs : Array Value) (i : Nat), (Vg.put w1 (w.heap.size + 1) (.cells cs 77)).cell? ⟨w.heap.size + 1, i, none⟩ = cs[i]? := fun cs i => Vg.cells_of (Vg.put_heap_same l_yR) i
  have H_hpc := Lib.hid hpc; clear hpc
  go_wp2_with ((go_at_call 65; (with_reducible refine (ic_edge i H_hg0.out H_hed.out hi n64).mono ?_); rintro e w2 ⟨rfl, rfl⟩))
  refine bodyPost_ret (by simp [results, Tryd.results29, go_sem, H_hpc.out] <;> try rfl) rfl ?_
  have hfin := icr_of1 (w := w) (c' := c) (ed := ed) H_hI.out H_f1.out H_f2.out (by omega) (bR := w.heap.size + 1) (by omega) l_hg0 H_h.out.ok rfl rfl
  rw [H_hpe.out, H_hen.out] at hfin
  exact ⟨_, rfl, hfin _, Vg.Grows.put hgw (Nat.le_succ _) _⟩
theorem ic_raise (i : Nat) (hi : i < n) (h : IS w c n m pa pc sa sc) (hed : 2 ^ n - 1 = ed) (hpe : c.pe = pe) (hen : c.en = en) (hb : pe.testBit i = false) :
    Calls Tryd.prog 29 #[icV pe en ed pa n pc sa m sc, .int .i64 i] w fun e w' => ∃ v, e = .returned (.tuple #[v, .int .i64 0]) ∧ ICR w w' (c.raise i) n ed v ∧ Vg.Grows w w' := by
  have n64 := h.ok.n1.2
  have hr0 : (if (0 : Int) ≤ (i : Int) ∧ (i : Int) < (n : Int) then (0 : Int) else 1) = 0 := if_pos ⟨by omega, by omega⟩
  obtain ⟨bt, hbt⟩ : ∃ b, 2 ^ i = b := ⟨_, rfl⟩
  obtain ⟨y, hy⟩ : ∃ y, pe &&& bt = y := ⟨_, rfl⟩
  obtain ⟨z, hz⟩ : ∃ z, pe ||| bt = z := ⟨_, rfl⟩
  obtain ⟨k1, k2, k3, k4, k5, -⟩ := bit_facts pe i (by rw [← hpe]; exact h.ok.pe64) (by omega) hbt hy hz
  rw [hb, if_neg (by decide)] at k4
  subst k4
  have hok := h.ok.raise hi
  have hcz : (c.raise i).pe = z := by rw [← hz, ← hbt, ← hpe]; rfl
  have H_h := Lib.hid h; clear h; have H_hed := Lib.hid hed; clear hed; have H_hpe := Lib.hid hpe; clear hpe; have H_hen := Lib.hid hen; clear hen; have H_hr0 := Lib.hid hr0; clear hr0; have H_hb := Lib.hid hb; clear hb; have H_hbt := Lib.hid hbt; clear hbt; have H_hy := Lib.hid hy; clear hy; have H_hz := Lib.hid hz; clear hz; have H_hok := Lib.hid hok; clear hok; have H_hcz := Lib.hid hcz; clear hcz
  go_enter Tryd.func29, Tryd.ntmps29
  go_upto_region 2 with ((go_at_call 64; (with_reducible refine (ic_open i H_hr0.out (H_h.out.grows (by (repeat' (first | (with_reducible exact Vg.Grows.refl _) | (with_reducible assumption) | (with_reducible refine Vg.Grows.alloc ?_ _) | (with_reducible refine Vg.Grows.plus ?_ _ _) | (with_reducible refine Vg.Grows.drewN ?_ _) | (with_reducible refine Vg.Grows.drew ?_) | (with_reducible refine Vg.Grows.setCell ?_ ?_ _) | (with_reducible refine Vg.Grows.put ?_ ?_ _) | omega | (simp; omega) | (simp; done))))) H_hed.out H_hpe.out H_hen.out).mono ?_); rintro e w1 ⟨g, rfl, hg, pa', pc', sa', sc', hg0, hI, -, -, f1, f2, hg1⟩; have yR := hg1.blk (b := w.heap.size + 1) (o := ic0) (by go_simp); have hgw := Vg.Grows.trans (a := w) (by (repeat' (first | (with_reducible exact Vg.Grows.refl _) | (with_reducible assumption) | (with_reducible refine Vg.Grows.alloc ?_ _) | (with_reducible refine Vg.Grows.plus ?_ _ _) | (with_reducible refine Vg.Grows.drewN ?_ _) | (with_reducible refine Vg.Grows.drew ?_) | (with_reducible refine Vg.Grows.setCell ?_ ?_ _) | (with_reducible refine Vg.Grows.put ?_ ?_ _) | omega | (simp; omega) | (simp; done)))) hg1; simp only [World.size_alloc] at hg f1 f2; have c_hg0 := Vg.cells_of hg0; have f_hg0 := Vg.frozen_of hg0; have p_hg0 := Vg.setCell_of hg0; have l_hg0 := Vg.lt_of hg0; have H_hg0 := Lib.hid hg0; clear hg0; have c_yR := Vg.cells_of yR; have f_yR := Vg.frozen_of yR; have p_yR := Vg.setCell_of yR; have l_yR := Vg.lt_of yR; have H_yR := Lib.hid yR; clear yR; have H_hI := Lib.hid hI; clear hI; have H_f1 := Lib.hid f1; clear f1; have H_f2 := Lib.hid f2; clear f2; have H_hg1 := Lib.hid hg1; clear hg1))
  have n1 : g ≠ w.heap.size + 1 := by omega
  have n2 : w.heap.size + 1 ≠ g := by omega
  have hpc : ∀ (o : Obj) (cs : Array Value) (i : Nat), (Vg.put (Vg.put w1 (w.heap.size + 1) (.cells cs 77)) g o).cell? ⟨w.heap.size + 1, i, none⟩ = cs[i]? := fun o cs i => Vg.cells_of ((Vg.put_heap_other n1).trans (Vg.put_heap_same l_yR)) i
  have H_hpc := Lib.hid hpc; clear hpc
  go_wp2_with ((go_at_call 65; (with_reducible refine (ic_edge i H_hg0.out H_hed.out hi n64).mono ?_); rintro e w2 ⟨rfl, rfl⟩))
  refine bodyPost_ret (by simp [results, Tryd.results29, go_sem, H_hpc.out] <;> try rfl) rfl ?_
  have hfin := icr_of2 (w := w) (c' := c.raise i) (ed := ed) H_hI.out H_f1.out H_f2.out (by omega) (bR := w.heap.size + 1) (by omega) l_hg0 H_hok.out rfl rfl
  rw [H_hcz.out, (show (c.raise i).en = c.en from rfl), H_hen.out] at hfin
  exact ⟨_, rfl, hfin _ _, Vg.Grows.put (Vg.Grows.put hgw (Nat.le_succ _) _) (by omega) _⟩
end
end Go.Proofs.YtekjnagojphmkaaDoor
