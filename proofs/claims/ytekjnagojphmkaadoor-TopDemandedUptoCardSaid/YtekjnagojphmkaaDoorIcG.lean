/- Package intc: Enable, Ack, End, Make. -/
import Derived.Test.YtekjnagojphmkaaDoorIcF
set_option linter.unusedSimpArgs false
set_option linter.unusedVariables false
set_option maxHeartbeats 8000000
set_option maxRecDepth 100000
namespace Go.Proofs.YtekjnagojphmkaaDoor
open Go.ChangeShapes Go.WideShapes Go.ChangeAt Go.RowKit
section
variable {w w' w1 : World} {c c' : Vg.Ic} {n m ed pc sc pe en g bR lo : Nat} {pa sa : Option Addr} {L : List Int}
theorem ic_enable (i : Nat) (on : Bool) (hi : i < n) (h : IS w c n m pa pc sa sc) (hed : 2 ^ n - 1 = ed) (hpe : c.pe = pe) (hen : c.en = en) :
    Calls Tryd.prog 70 #[icV pe en ed pa n pc sa m sc, .int .i64 i, .bool on] w fun e w' => ∃ v, e = .returned (.tuple #[v, .int .i64 0]) ∧ ICR w w' (c.enable i on) n ed v ∧ Vg.Grows w w' := by
  have n64 := h.ok.n1.2
  have hr0 : (if (0 : Int) ≤ (i : Int) ∧ (i : Int) < (n : Int) then (0 : Int) else 1) = 0 := if_pos ⟨by omega, by omega⟩
  have he64 : en < 18446744073709551616 := by rw [← hen]; exact h.ok.en64
  obtain ⟨bt, hbt⟩ : ∃ b, 2 ^ i = b := ⟨_, rfl⟩
  obtain ⟨y, hy⟩ : ∃ y, en &&& bt = y := ⟨_, rfl⟩
  obtain ⟨z, hz⟩ : ∃ z, en ||| bt = z := ⟨_, rfl⟩
  obtain ⟨u, hu⟩ : ∃ u, Vg.clr en i = u := ⟨_, rfl⟩
  obtain ⟨k1, k2, k3, k4, k5, k6⟩ := bit_facts en i he64 (by omega) hbt hy hz
  have k7 : bits .andNot .u64 (en : Int) (bt : Int) = (u : Int) := by
    have := u64_andNot_nat en bt he64 k6
    rw [this, ← hu, ← hbt]
    rfl
  have hok := h.ok.enable hi on
  clear k2 k4
  cases on with
  | true =>
    have hcz : (c.enable i true).en = z := by rw [← hz, ← hbt, ← hen]; rfl
    have H_h := Lib.hid h; clear h; have H_hed := Lib.hid hed; clear hed; have H_hpe := Lib.hid hpe; clear hpe; have H_hen := Lib.hid hen; clear hen; have H_hr0 := Lib.hid hr0; clear hr0; have H_hbt := Lib.hid hbt; clear hbt; have H_hy := Lib.hid hy; clear hy; have H_hz := Lib.hid hz; clear hz; have H_hok := Lib.hid hok; clear hok; have H_hcz := Lib.hid hcz; clear hcz; have H_hu := Lib.hid hu; clear hu; have H_he64 := Lib.hid he64; clear he64
    go_enter Tryd.func70, Tryd.ntmps70
    go_upto_region 6 with ((go_at_call 64; (with_reducible refine (ic_open i H_hr0.out (H_h.out.grows (by (repeat' (first | (with_reducible exact Vg.Grows.refl _) | (with_reducible assumption) | (with_reducible refine Vg.Grows.alloc ?_ _) | (with_reducible refine Vg.Grows.plus ?_ _ _) | (with_reducible refine Vg.Grows.drewN ?_ _) | (with_reducible refine Vg.Grows.drew ?_) | (with_reducible refine Vg.Grows.setCell ?_ ?_ _) | (with_reducible refine Vg.Grows.put ?_ ?_ _) | omega | (simp; omega) | (simp; done))))) H_hed.out H_hpe.out H_hen.out).mono ?_); rintro e w1 ⟨g, rfl, hg, pa', pc', sa', sc', hg0, hI, -, -, f1, f2, hg1⟩; have yR := hg1.blk (b := w.heap.size + 1) (o := ic0) (by go_simp); have hgw := Vg.Grows.trans (a := w) (by (repeat' (first | (with_reducible exact Vg.Grows.refl _) | (with_reducible assumption) | (with_reducible refine Vg.Grows.alloc ?_ _) | (with_reducible refine Vg.Grows.plus ?_ _ _) | (with_reducible refine Vg.Grows.drewN ?_ _) | (with_reducible refine Vg.Grows.drew ?_) | (with_reducible refine Vg.Grows.setCell ?_ ?_ _) | (with_reducible refine Vg.Grows.put ?_ ?_ _) | omega | (simp; omega) | (simp; done)))) hg1; simp only [World.size_alloc] at hg f1 f2; have c_hg0 := Vg.cells_of hg0; have f_hg0 := Vg.frozen_of hg0; have p_hg0 := Vg.setCell_of hg0; have l_hg0 := Vg.lt_of hg0; have H_hg0 := Lib.hid hg0; clear hg0; have c_yR := Vg.cells_of yR; have f_yR := Vg.frozen_of yR; have p_yR := Vg.setCell_of yR; have l_yR := Vg.lt_of yR; have H_yR := Lib.hid yR; clear yR; have H_hI := Lib.hid hI; clear hI; have H_f1 := Lib.hid f1; clear f1; have H_f2 := Lib.hid f2; clear f2; have H_hg1 := Lib.hid hg1; clear hg1))
    have n1 : g ≠ w.heap.size + 1 := by omega
    have n2 : w.heap.size + 1 ≠ g := by omega
    have hpc : ∀ (o : Obj) (cs : Array Value) (i : Nat), (Vg.put (Vg.put w1 (w.heap.size + 1) (.cells cs 77)) g o).cell? ⟨w.heap.size + 1, i, none⟩ = cs[i]? := fun o cs i => Vg.cells_of ((Vg.put_heap_other n1).trans (Vg.put_heap_same l_yR)) i
    have H_hpc := Lib.hid hpc; clear hpc
    refine wp_region_held_drew (S := fun w' => g < w'.heap.size ∧ w.heap.size + 1 < w'.heap.size) (by kernel_rfl) (by go_split_ands <;> (try dsimp only) <;> go_simp) (fun hHeld => ?_)
    refine wpAnyH_take (i := 0) (oi := _) (v := ?v1) rfl (by kernel_rfl) (by kernel_rfl) (by kernel_rfl) (fun _ _ _ h => h) (Or.inl ⟨by rfl, ?hy1⟩) (by assumption) ?rest1
    case hy1 => (intro w hSw; (try dsimp only at hSw); go_simp; first | done | with_reducible rfl)
    (try simp only [List.getElem_toArray, List.getElem_cons_succ, List.getElem_cons_zero, Act.put, List.setIfInBounds_toArray, List.set_cons_zero, List.set_cons_succ])
    refine wpAnyH_take (i := 1) (oi := _) (v := ?v2) rfl (by kernel_rfl) (by kernel_rfl) (by kernel_rfl) (fun _ _ _ h => h) (Or.inl ⟨by rfl, ?hy2⟩) (by assumption) ?rest2
    case hy2 => (intro w hSw; (try dsimp only at hSw); go_simp; first | done | with_reducible rfl)
    (try simp only [List.getElem_toArray, List.getElem_cons_succ, List.getElem_cons_zero, Act.put, List.setIfInBounds_toArray, List.set_cons_zero, List.set_cons_succ])
    refine wpAnyH_take (i := 2) (oi := _) (v := ?v3) rfl (by kernel_rfl) (by kernel_rfl) (by kernel_rfl) (fun _ _ _ h => h) (Or.inl ⟨by rfl, ?hy3⟩) (by assumption) ?rest3
    case hy3 => (intro w hSw; (try dsimp only at hSw); go_simp; first | done | with_reducible rfl)
    (try simp only [List.getElem_toArray, List.getElem_cons_succ, List.getElem_cons_zero, Act.put, List.setIfInBounds_toArray, List.set_cons_zero, List.set_cons_succ])
    refine wpAnyH_take (i := 3) (oi := _) (v := ?v4) rfl (by kernel_rfl) (by kernel_rfl) (by kernel_rfl) (fun _ _ _ h => h) (Or.inl ⟨by rfl, ?hy4⟩) (by assumption) ?rest4
    case hy4 => (intro w hSw; (try dsimp only at hSw); go_simp; first | done | with_reducible rfl)
    (try simp only [List.getElem_toArray, List.getElem_cons_succ, List.getElem_cons_zero, Act.put, List.setIfInBounds_toArray, List.set_cons_zero, List.set_cons_succ])
    refine wpAnyH_take (i := 5) (oi := _) (v := ?v5) rfl (by kernel_rfl) (by kernel_rfl) (by kernel_rfl) (fun _ _ _ h => h) (Or.inl ⟨by rfl, ?hy5⟩) (by assumption) ?rest5
    case hy5 => (intro w hSw; (try dsimp only at hSw); go_simp; first | done | with_reducible rfl)
    (try simp only [List.getElem_toArray, List.getElem_cons_succ, List.getElem_cons_zero, Act.put, List.setIfInBounds_toArray, List.set_cons_zero, List.set_cons_succ])
    refine wpAnyH_take (i := 6) (oi := _) (v := ?v6) rfl (by kernel_rfl) (by kernel_rfl) (by kernel_rfl) (fun _ _ _ h => h) (Or.inl ⟨by rfl, ?hy6⟩) (by assumption) ?rest6
    case hy6 => (intro w hSw; (try dsimp only at hSw); go_simp; first | done | with_reducible rfl)
    (try simp only [List.getElem_toArray, List.getElem_cons_succ, List.getElem_cons_zero, Act.put, List.setIfInBounds_toArray, List.set_cons_zero, List.set_cons_succ])
    refine wpAnyH_ready (rs := [4]) (by kernel_rfl) (by simp) ?_
    refine AllReadyH.cons (o := _) rfl (fun K hK => ?st7) ?mo7
    case st7 =>
      go_simp
      refine hK.out _ _ (by go_split_ands <;> (try dsimp only) <;> go_simp) (fun hHeld7 => ?_)
      clear hK K
      (try simp only [List.getElem_toArray, List.getElem_cons_succ, List.getElem_cons_zero, Act.put, List.setIfInBounds_toArray, List.set_cons_zero, List.set_cons_succ])
      refine wpAnyH_take (i := 7) (oi := _) (v := ?v8) rfl (by kernel_rfl) (by kernel_rfl) (by kernel_rfl) (fun _ _ _ h => h) (Or.inl ⟨by rfl, ?hy8⟩) (by assumption) ?rest8
      case hy8 => (intro w hSw; (try dsimp only at hSw); go_simp; first | done | with_reducible rfl)
      (try simp only [List.getElem_toArray, List.getElem_cons_succ, List.getElem_cons_zero, Act.put, List.setIfInBounds_toArray, List.set_cons_zero, List.set_cons_succ])
      refine wpAnyH_take (i := 8) (oi := _) (v := ?v9) rfl (by kernel_rfl) (by kernel_rfl) (by kernel_rfl) (fun _ _ _ h => h) (Or.inl ⟨by rfl, ?hy9⟩) (by assumption) ?rest9
      case hy9 => (intro w hSw; (try dsimp only at hSw); go_simp; first | done | with_reducible rfl)
      (try simp only [List.getElem_toArray, List.getElem_cons_succ, List.getElem_cons_zero, Act.put, List.setIfInBounds_toArray, List.set_cons_zero, List.set_cons_succ])
      refine wpAnyH_take (i := 9) (oi := _) (v := ?v10) rfl (by kernel_rfl) (by kernel_rfl) (by kernel_rfl) (fun _ _ _ h => h) (Or.inl ⟨by rfl, ?hy10⟩) (by assumption) ?rest10
      case hy10 => (intro w hSw; (try dsimp only at hSw); go_simp; first | done | with_reducible rfl)
      (try simp only [List.getElem_toArray, List.getElem_cons_succ, List.getElem_cons_zero, Act.put, List.setIfInBounds_toArray, List.set_cons_zero, List.set_cons_succ])
      refine wpAnyH_take (i := 10) (oi := _) (v := ?v11) rfl (by kernel_rfl) (by kernel_rfl) (by kernel_rfl) (fun _ _ _ h => h) (Or.inl ⟨by rfl, ?hy11⟩) (by assumption) ?rest11
      case hy11 => (intro w hSw; (try dsimp only at hSw); go_simp; first | done | with_reducible rfl)
      (try simp only [List.getElem_toArray, List.getElem_cons_succ, List.getElem_cons_zero, Act.put, List.setIfInBounds_toArray, List.set_cons_zero, List.set_cons_succ])
      refine wpAnyH_ready (rs := [11]) (by kernel_rfl) (by simp) ?_
      refine AllReadyH.cons (o := _) rfl (fun K hK => ?st12) ?mo12
      case st12 =>
        go_simp
        refine hK.out _ _ (by go_split_ands <;> (try dsimp only) <;> go_simp) (fun hHeld12 => ?_)
        clear hK K
        (try simp only [List.getElem_toArray, List.getElem_cons_succ, List.getElem_cons_zero, Act.put, List.setIfInBounds_toArray, List.set_cons_zero, List.set_cons_succ])
        refine wpAnyH_done (by kernel_rfl) ?_ _
        go_wp2_with fail
        refine bodyPost_ret (by simp [results, Tryd.results70, go_sem, H_hpc.out] <;> try rfl) rfl ?_
        have hfin := icr_of2 (w := w) (c' := c.enable i true) (ed := ed) H_hI.out H_f1.out H_f2.out (by omega) (bR := w.heap.size + 1) (by omega) l_hg0 H_hok.out rfl rfl
        rw [H_hcz.out, (show (c.enable i true).pe = c.pe from rfl), H_hpe.out] at hfin
        exact ⟨_, rfl, (hfin _ _).grows (Vg.Grows.drew (Vg.Grows.refl _)), Vg.Grows.drew (Vg.Grows.put (Vg.Grows.put hgw (Nat.le_succ _) _) (by omega) _)⟩
      exact AllReadyH.nil
    exact AllReadyH.nil
  | false =>
    have hcz : (c.enable i false).en = u := by rw [← hu, ← hen]; rfl
    have H_h := Lib.hid h; clear h; have H_hed := Lib.hid hed; clear hed; have H_hpe := Lib.hid hpe; clear hpe; have H_hen := Lib.hid hen; clear hen; have H_hr0 := Lib.hid hr0; clear hr0; have H_hbt := Lib.hid hbt; clear hbt; have H_hy := Lib.hid hy; clear hy; have H_hz := Lib.hid hz; clear hz; have H_hok := Lib.hid hok; clear hok; have H_hcz := Lib.hid hcz; clear hcz; have H_hu := Lib.hid hu; clear hu; have H_he64 := Lib.hid he64; clear he64
    go_enter Tryd.func70, Tryd.ntmps70
    go_upto_region 2 with ((go_at_call 64; (with_reducible refine (ic_open i H_hr0.out (H_h.out.grows (by (repeat' (first | (with_reducible exact Vg.Grows.refl _) | (with_reducible assumption) | (with_reducible refine Vg.Grows.alloc ?_ _) | (with_reducible refine Vg.Grows.plus ?_ _ _) | (with_reducible refine Vg.Grows.drewN ?_ _) | (with_reducible refine Vg.Grows.drew ?_) | (with_reducible refine Vg.Grows.setCell ?_ ?_ _) | (with_reducible refine Vg.Grows.put ?_ ?_ _) | omega | (simp; omega) | (simp; done))))) H_hed.out H_hpe.out H_hen.out).mono ?_); rintro e w1 ⟨g, rfl, hg, pa', pc', sa', sc', hg0, hI, -, -, f1, f2, hg1⟩; have yR := hg1.blk (b := w.heap.size + 1) (o := ic0) (by go_simp); have hgw := Vg.Grows.trans (a := w) (by (repeat' (first | (with_reducible exact Vg.Grows.refl _) | (with_reducible assumption) | (with_reducible refine Vg.Grows.alloc ?_ _) | (with_reducible refine Vg.Grows.plus ?_ _ _) | (with_reducible refine Vg.Grows.drewN ?_ _) | (with_reducible refine Vg.Grows.drew ?_) | (with_reducible refine Vg.Grows.setCell ?_ ?_ _) | (with_reducible refine Vg.Grows.put ?_ ?_ _) | omega | (simp; omega) | (simp; done)))) hg1; simp only [World.size_alloc] at hg f1 f2; have c_hg0 := Vg.cells_of hg0; have f_hg0 := Vg.frozen_of hg0; have p_hg0 := Vg.setCell_of hg0; have l_hg0 := Vg.lt_of hg0; have H_hg0 := Lib.hid hg0; clear hg0; have c_yR := Vg.cells_of yR; have f_yR := Vg.frozen_of yR; have p_yR := Vg.setCell_of yR; have l_yR := Vg.lt_of yR; have H_yR := Lib.hid yR; clear yR; have H_hI := Lib.hid hI; clear hI; have H_f1 := Lib.hid f1; clear f1; have H_f2 := Lib.hid f2; clear f2; have H_hg1 := Lib.hid hg1; clear hg1))
    have n1 : g ≠ w.heap.size + 1 := by omega
    have n2 : w.heap.size + 1 ≠ g := by omega
    have hpc : ∀ (o : Obj) (cs : Array Value) (i : Nat), (Vg.put (Vg.put w1 (w.heap.size + 1) (.cells cs 77)) g o).cell? ⟨w.heap.size + 1, i, none⟩ = cs[i]? := fun o cs i => Vg.cells_of ((Vg.put_heap_other n1).trans (Vg.put_heap_same l_yR)) i
    have H_hpc := Lib.hid hpc; clear hpc
    refine wp_region_held_drew (S := fun w' => g < w'.heap.size ∧ w.heap.size + 1 < w'.heap.size) (by kernel_rfl) (by go_split_ands <;> (try dsimp only) <;> go_simp) (fun hHeld => ?_)
    refine wpAnyH_take (i := 0) (oi := _) (v := ?v13) rfl (by kernel_rfl) (by kernel_rfl) (by kernel_rfl) (fun _ _ _ h => h) (Or.inl ⟨by rfl, ?hy13⟩) (by assumption) ?rest13
    case hy13 => (intro w hSw; (try dsimp only at hSw); go_simp; first | done | with_reducible rfl)
    (try simp only [List.getElem_toArray, List.getElem_cons_succ, List.getElem_cons_zero, Act.put, List.setIfInBounds_toArray, List.set_cons_zero, List.set_cons_succ])
    refine wpAnyH_take (i := 1) (oi := _) (v := ?v14) rfl (by kernel_rfl) (by kernel_rfl) (by kernel_rfl) (fun _ _ _ h => h) (Or.inl ⟨by rfl, ?hy14⟩) (by assumption) ?rest14
    case hy14 => (intro w hSw; (try dsimp only at hSw); go_simp; first | done | with_reducible rfl)
    (try simp only [List.getElem_toArray, List.getElem_cons_succ, List.getElem_cons_zero, Act.put, List.setIfInBounds_toArray, List.set_cons_zero, List.set_cons_succ])
    refine wpAnyH_take (i := 2) (oi := _) (v := ?v15) rfl (by kernel_rfl) (by kernel_rfl) (by kernel_rfl) (fun _ _ _ h => h) (Or.inl ⟨by rfl, ?hy15⟩) (by assumption) ?rest15
    case hy15 => (intro w hSw; (try dsimp only at hSw); go_simp; first | done | with_reducible rfl)
    (try simp only [List.getElem_toArray, List.getElem_cons_succ, List.getElem_cons_zero, Act.put, List.setIfInBounds_toArray, List.set_cons_zero, List.set_cons_succ])
    refine wpAnyH_take (i := 3) (oi := _) (v := ?v16) rfl (by kernel_rfl) (by kernel_rfl) (by kernel_rfl) (fun _ _ _ h => h) (Or.inl ⟨by rfl, ?hy16⟩) (by assumption) ?rest16
    case hy16 => (intro w hSw; (try dsimp only at hSw); go_simp; first | done | with_reducible rfl)
    (try simp only [List.getElem_toArray, List.getElem_cons_succ, List.getElem_cons_zero, Act.put, List.setIfInBounds_toArray, List.set_cons_zero, List.set_cons_succ])
    refine wpAnyH_take (i := 5) (oi := _) (v := ?v17) rfl (by kernel_rfl) (by kernel_rfl) (by kernel_rfl) (fun _ _ _ h => h) (Or.inl ⟨by rfl, ?hy17⟩) (by assumption) ?rest17
    case hy17 => (intro w hSw; (try dsimp only at hSw); go_simp; first | done | with_reducible rfl)
    (try simp only [List.getElem_toArray, List.getElem_cons_succ, List.getElem_cons_zero, Act.put, List.setIfInBounds_toArray, List.set_cons_zero, List.set_cons_succ])
    refine wpAnyH_take (i := 6) (oi := _) (v := ?v18) rfl (by kernel_rfl) (by kernel_rfl) (by kernel_rfl) (fun _ _ _ h => h) (Or.inl ⟨by rfl, ?hy18⟩) (by assumption) ?rest18
    case hy18 => (intro w hSw; (try dsimp only at hSw); go_simp; first | done | with_reducible rfl)
    (try simp only [List.getElem_toArray, List.getElem_cons_succ, List.getElem_cons_zero, Act.put, List.setIfInBounds_toArray, List.set_cons_zero, List.set_cons_succ])
    refine wpAnyH_ready (rs := [4]) (by kernel_rfl) (by simp) ?_
    refine AllReadyH.cons (o := _) rfl (fun K hK => ?st19) ?mo19
    case st19 =>
      go_simp
      refine hK.out _ _ (by go_split_ands <;> (try dsimp only) <;> go_simp) (fun hHeld19 => ?_)
      clear hK K
      (try simp only [List.getElem_toArray, List.getElem_cons_succ, List.getElem_cons_zero, Act.put, List.setIfInBounds_toArray, List.set_cons_zero, List.set_cons_succ])
      refine wpAnyH_take (i := 7) (oi := _) (v := ?v20) rfl (by kernel_rfl) (by kernel_rfl) (by kernel_rfl) (fun _ _ _ h => h) (Or.inl ⟨by rfl, ?hy20⟩) (by assumption) ?rest20
      case hy20 => (intro w hSw; (try dsimp only at hSw); go_simp; first | done | with_reducible rfl)
      (try simp only [List.getElem_toArray, List.getElem_cons_succ, List.getElem_cons_zero, Act.put, List.setIfInBounds_toArray, List.set_cons_zero, List.set_cons_succ])
      refine wpAnyH_take (i := 8) (oi := _) (v := ?v21) rfl (by kernel_rfl) (by kernel_rfl) (by kernel_rfl) (fun _ _ _ h => h) (Or.inl ⟨by rfl, ?hy21⟩) (by assumption) ?rest21
      case hy21 => (intro w hSw; (try dsimp only at hSw); go_simp; first | done | with_reducible rfl)
      (try simp only [List.getElem_toArray, List.getElem_cons_succ, List.getElem_cons_zero, Act.put, List.setIfInBounds_toArray, List.set_cons_zero, List.set_cons_succ])
      refine wpAnyH_take (i := 9) (oi := _) (v := ?v22) rfl (by kernel_rfl) (by kernel_rfl) (by kernel_rfl) (fun _ _ _ h => h) (Or.inl ⟨by rfl, ?hy22⟩) (by assumption) ?rest22
      case hy22 => (intro w hSw; (try dsimp only at hSw); go_simp; first | done | with_reducible rfl)
      (try simp only [List.getElem_toArray, List.getElem_cons_succ, List.getElem_cons_zero, Act.put, List.setIfInBounds_toArray, List.set_cons_zero, List.set_cons_succ])
      refine wpAnyH_take (i := 10) (oi := _) (v := ?v23) rfl (by kernel_rfl) (by kernel_rfl) (by kernel_rfl) (fun _ _ _ h => h) (Or.inl ⟨by rfl, ?hy23⟩) (by assumption) ?rest23
      case hy23 => (intro w hSw; (try dsimp only at hSw); go_simp; first | done | with_reducible rfl)
      (try simp only [List.getElem_toArray, List.getElem_cons_succ, List.getElem_cons_zero, Act.put, List.setIfInBounds_toArray, List.set_cons_zero, List.set_cons_succ])
      refine wpAnyH_ready (rs := [11]) (by kernel_rfl) (by simp) ?_
      refine AllReadyH.cons (o := _) rfl (fun K hK => ?st24) ?mo24
      case st24 =>
        go_simp
        refine hK.out _ _ (by go_split_ands <;> (try dsimp only) <;> go_simp) (fun hHeld24 => ?_)
        clear hK K
        (try simp only [List.getElem_toArray, List.getElem_cons_succ, List.getElem_cons_zero, Act.put, List.setIfInBounds_toArray, List.set_cons_zero, List.set_cons_succ])
        refine wpAnyH_done (by kernel_rfl) ?_ _
        go_wp2_with fail
        refine bodyPost_ret (by simp [results, Tryd.results70, go_sem, H_hpc.out] <;> try rfl) rfl ?_
        have hfin := icr_of2 (w := w) (c' := c.enable i false) (ed := ed) H_hI.out H_f1.out H_f2.out (by omega) (bR := w.heap.size + 1) (by omega) l_hg0 H_hok.out rfl rfl
        rw [H_hcz.out, (show (c.enable i false).pe = c.pe from rfl), H_hpe.out] at hfin
        exact ⟨_, rfl, (hfin _ _).grows (Vg.Grows.drew (Vg.Grows.refl _)), Vg.Grows.drew (Vg.Grows.put (Vg.Grows.put hgw (Nat.le_succ _) _) (by omega) _)⟩
      exact AllReadyH.nil
    exact AllReadyH.nil
theorem IR.dropLast {w : World} {sa : Option Addr} {c : Nat} {L : List Int} (h : Vg.IR w sa c L) : Vg.IR w sa c L.dropLast := by
  refine ⟨by rw [List.length_dropLast]; have := h.1; omega, h.2.1, fun k hk => ?_⟩
  rw [List.length_dropLast] at hk
  obtain ⟨g, off, e, hg, hc⟩ := h.2.2 k (by omega)
  refine ⟨g, off, e, hg, ?_⟩
  rw [hc, List.getElem_dropLast]
theorem ic_dropLast (L : List Nat) : Vg.ic L.dropLast = (Vg.ic L).dropLast := by
  unfold Vg.ic
  rw [List.map_dropLast]
theorem ic_end (h : IS w c n m pa pc sa sc) (hed : 2 ^ n - 1 = ed) (hpe : c.pe = pe) (hen : c.en = en) (hm : 0 < m) :
    Calls Tryd.prog 37 #[icV pe en ed pa n pc sa m sc] w fun e w' => ∃ v x, e = .returned (.tuple #[v, .int .i64 x, .int .i64 0]) ∧ ICR w w' c.fin n ed v ∧ Vg.Grows w w' := by
  have n64 := h.ok.n1.2
  have hr0 : (if (0 : Int) ≤ 0 ∧ (0 : Int) < (n : Int) then (0 : Int) else 1) = 0 := if_pos ⟨by omega, by have := h.ok.n1; omega⟩
  obtain ⟨k, rfl⟩ : ∃ k, m = k + 1 := ⟨m - 1, by omega⟩
  have hpe64 : pe < 18446744073709551616 := by rw [← hpe]; exact h.ok.pe64
  have hok := h.ok.fin
  have hk' : k < c.st.length := by rw [h.m]; omega
  obtain ⟨x, hx⟩ : ∃ x, c.st[k] = x := ⟨_, rfl⟩
  have hx64 : x < 64 := by rw [← hx]; exact Nat.lt_of_lt_of_le (h.ok.sth _ (List.getElem_mem hk')) n64
  have hxi : (x : Int) ≤ 64 := by omega
  obtain ⟨bt, hbt⟩ : ∃ b, 2 ^ x = b := ⟨_, rfl⟩
  have hbl : bt < 18446744073709551616 := by rw [← hbt]; exact Vg.pow_lt64 hx64
  have k1 : IntKind.u64.wrap ((2 : Int) ^ x) = (bt : Int) := by rw [← hbt]; exact shl_one x hx64
  have k2 : bits .and .u64 0 (bt : Int) = 0 := by
    have := u64_and_nat 0 bt (by decide) hbl
    rw [Nat.zero_and] at this
    exact this
  have k3 : bits .or .u64 (pe : Int) 0 = (pe : Int) := by
    have := u64_or_nat pe 0 hpe64 (by decide)
    rw [Nat.or_zero] at this
    exact this
  have hkk : (k : Int) + 1 - 1 = k := by omega
  have H_h := Lib.hid h; clear h; have H_hed := Lib.hid hed; clear hed; have H_hpe := Lib.hid hpe; clear hpe; have H_hen := Lib.hid hen; clear hen; have H_hr0 := Lib.hid hr0; clear hr0; have H_hbt := Lib.hid hbt; clear hbt; have H_hok := Lib.hid hok; clear hok; have H_hx := Lib.hid hx; clear hx; have H_hbl := Lib.hid hbl; clear hbl; have H_hpe64 := Lib.hid hpe64; clear hpe64
  go_enter Tryd.func37, Tryd.ntmps37
  go_upto_region 7 with ((go_at_call 64; (with_reducible refine (ic_open 0 H_hr0.out (H_h.out.grows (by (repeat' (first | (with_reducible exact Vg.Grows.refl _) | (with_reducible assumption) | (with_reducible refine Vg.Grows.alloc ?_ _) | (with_reducible refine Vg.Grows.plus ?_ _ _) | (with_reducible refine Vg.Grows.drewN ?_ _) | (with_reducible refine Vg.Grows.drew ?_) | (with_reducible refine Vg.Grows.setCell ?_ ?_ _) | (with_reducible refine Vg.Grows.put ?_ ?_ _) | omega | (simp; omega) | (simp; done))))) H_hed.out H_hpe.out H_hen.out).mono ?_); rintro e w1 ⟨g, rfl, hg, pa', pc', sa', sc', hg0, hI, -, -, f1, f2, hg1⟩; have yR := hg1.blk (b := w.heap.size + 1) (o := ic0) (by go_simp); have hgw := Vg.Grows.trans (a := w) (by (repeat' (first | (with_reducible exact Vg.Grows.refl _) | (with_reducible assumption) | (with_reducible refine Vg.Grows.alloc ?_ _) | (with_reducible refine Vg.Grows.plus ?_ _ _) | (with_reducible refine Vg.Grows.drewN ?_ _) | (with_reducible refine Vg.Grows.drew ?_) | (with_reducible refine Vg.Grows.setCell ?_ ?_ _) | (with_reducible refine Vg.Grows.put ?_ ?_ _) | omega | (simp; omega) | (simp; done)))) hg1; simp only [World.size_alloc] at hg f1 f2; obtain ⟨gs, off, hk9, hsa, hgl, hc⟩ := hI.scell k (by omega); subst hsa; rw [H_hx.out] at hc; obtain ⟨q1, q2, q3, q4⟩ := hI.caps; have c_hg0 := Vg.cells_of hg0; have f_hg0 := Vg.frozen_of hg0; have p_hg0 := Vg.setCell_of hg0; have l_hg0 := Vg.lt_of hg0; have H_hg0 := Lib.hid hg0; clear hg0; have c_yR := Vg.cells_of yR; have f_yR := Vg.frozen_of yR; have p_yR := Vg.setCell_of yR; have l_yR := Vg.lt_of yR; have H_yR := Lib.hid yR; clear yR; have H_hI := Lib.hid hI; clear hI; have H_f1 := Lib.hid f1; clear f1; have H_f2 := Lib.hid f2; clear f2; have H_hg1 := Lib.hid hg1; clear hg1))
  have n1 : g ≠ w.heap.size + 1 := by omega
  have n2 : w.heap.size + 1 ≠ g := by omega
  have hpc : ∀ (o : Obj) (cs : Array Value) (i : Nat), (Vg.put (Vg.put w1 (w.heap.size + 1) (.cells cs 77)) g o).cell? ⟨w.heap.size + 1, i, none⟩ = cs[i]? := fun o cs i => Vg.cells_of ((Vg.put_heap_other n1).trans (Vg.put_heap_same l_yR)) i
  have H_hpc := Lib.hid hpc; clear hpc
  go_upto_region 9 with fail
  refine wp_region_held_drew (S := fun w' => g < w'.heap.size ∧ w.heap.size + 1 < w'.heap.size) (by kernel_rfl) (by go_split_ands <;> (try dsimp only) <;> go_simp) (fun hHeld => ?_)
  refine wpAnyH_take (i := 0) (oi := _) (v := ?v25) rfl (by kernel_rfl) (by kernel_rfl) (by kernel_rfl) (fun _ _ _ h => h) (Or.inl ⟨by rfl, ?hy25⟩) (by assumption) ?rest25
  case hy25 => (intro w hSw; (try dsimp only at hSw); go_simp; first | done | with_reducible rfl)
  (try simp only [List.getElem_toArray, List.getElem_cons_succ, List.getElem_cons_zero, Act.put, List.setIfInBounds_toArray, List.set_cons_zero, List.set_cons_succ])
  refine wpAnyH_take (i := 1) (oi := _) (v := ?v26) rfl (by kernel_rfl) (by kernel_rfl) (by kernel_rfl) (fun _ _ _ h => h) (Or.inl ⟨by rfl, ?hy26⟩) (by assumption) ?rest26
  case hy26 => (intro w hSw; (try dsimp only at hSw); go_simp; first | done | with_reducible rfl)
  (try simp only [List.getElem_toArray, List.getElem_cons_succ, List.getElem_cons_zero, Act.put, List.setIfInBounds_toArray, List.set_cons_zero, List.set_cons_succ])
  refine wpAnyH_take (i := 2) (oi := _) (v := ?v27) rfl (by kernel_rfl) (by kernel_rfl) (by kernel_rfl) (fun _ _ _ h => h) (Or.inl ⟨by rfl, ?hy27⟩) (by assumption) ?rest27
  case hy27 => (intro w hSw; (try dsimp only at hSw); go_simp; first | done | with_reducible rfl)
  (try simp only [List.getElem_toArray, List.getElem_cons_succ, List.getElem_cons_zero, Act.put, List.setIfInBounds_toArray, List.set_cons_zero, List.set_cons_succ])
  refine wpAnyH_take (i := 3) (oi := _) (v := ?v28) rfl (by kernel_rfl) (by kernel_rfl) (by kernel_rfl) (fun _ _ _ h => h) (Or.inl ⟨by rfl, ?hy28⟩) (by assumption) ?rest28
  case hy28 => (intro w hSw; (try dsimp only at hSw); go_simp; first | done | with_reducible rfl)
  (try simp only [List.getElem_toArray, List.getElem_cons_succ, List.getElem_cons_zero, Act.put, List.setIfInBounds_toArray, List.set_cons_zero, List.set_cons_succ])
  refine wpAnyH_take (i := 5) (oi := _) (v := ?v29) rfl (by kernel_rfl) (by kernel_rfl) (by kernel_rfl) (fun _ _ _ h => h) (Or.inl ⟨by rfl, ?hy29⟩) (by assumption) ?rest29
  case hy29 => (intro w hSw; (try dsimp only at hSw); go_simp; first | done | with_reducible rfl)
  (try simp only [List.getElem_toArray, List.getElem_cons_succ, List.getElem_cons_zero, Act.put, List.setIfInBounds_toArray, List.set_cons_zero, List.set_cons_succ])
  refine wpAnyH_take (i := 6) (oi := _) (v := ?v30) rfl (by kernel_rfl) (by kernel_rfl) (by kernel_rfl) (fun _ _ _ h => h) (Or.inl ⟨by rfl, ?hy30⟩) (by assumption) ?rest30
  case hy30 => (intro w hSw; (try dsimp only at hSw); go_simp; first | done | with_reducible rfl)
  (try simp only [List.getElem_toArray, List.getElem_cons_succ, List.getElem_cons_zero, Act.put, List.setIfInBounds_toArray, List.set_cons_zero, List.set_cons_succ])
  refine wpAnyH_take (i := 7) (oi := _) (v := ?v31) rfl (by kernel_rfl) (by kernel_rfl) (by kernel_rfl) (fun _ _ _ h => h) (Or.inl ⟨by rfl, ?hy31⟩) (by assumption) ?rest31
  case hy31 => (intro w hSw; (try dsimp only at hSw); go_simp; first | done | with_reducible rfl)
  (try simp only [List.getElem_toArray, List.getElem_cons_succ, List.getElem_cons_zero, Act.put, List.setIfInBounds_toArray, List.set_cons_zero, List.set_cons_succ])
  refine wpAnyH_take (i := 8) (oi := _) (v := ?v32) rfl (by kernel_rfl) (by kernel_rfl) (by kernel_rfl) (fun _ _ _ h => h) (Or.inl ⟨by rfl, ?hy32⟩) (by assumption) ?rest32
  case hy32 => (intro w hSw; (try dsimp only at hSw); go_simp; first | done | with_reducible rfl)
  (try simp only [List.getElem_toArray, List.getElem_cons_succ, List.getElem_cons_zero, Act.put, List.setIfInBounds_toArray, List.set_cons_zero, List.set_cons_succ])
  refine wpAnyH_take (i := 10) (oi := _) (v := ?v33) rfl (by kernel_rfl) (by kernel_rfl) (by kernel_rfl) (fun _ _ _ h => h) (Or.inl ⟨by rfl, ?hy33⟩) (by assumption) ?rest33
  case hy33 => (intro w hSw; (try dsimp only at hSw); go_simp; first | done | with_reducible rfl)
  (try simp only [List.getElem_toArray, List.getElem_cons_succ, List.getElem_cons_zero, Act.put, List.setIfInBounds_toArray, List.set_cons_zero, List.set_cons_succ])
  refine wpAnyH_take (i := 11) (oi := _) (v := ?v34) rfl (by kernel_rfl) (by kernel_rfl) (by kernel_rfl) (fun _ _ _ h => h) (Or.inl ⟨by rfl, ?hy34⟩) (by assumption) ?rest34
  case hy34 => (intro w hSw; (try dsimp only at hSw); go_simp; first | done | with_reducible rfl)
  (try simp only [List.getElem_toArray, List.getElem_cons_succ, List.getElem_cons_zero, Act.put, List.setIfInBounds_toArray, List.set_cons_zero, List.set_cons_succ])
  refine wpAnyH_ready (rs := [4, 9]) (by kernel_rfl) (by simp) ?_
  refine AllReadyH.cons (o := _) rfl (fun K hK => ?st35) ?mo35
  case st35 =>
    go_simp
    refine hK.out _ _ (by go_split_ands <;> (try dsimp only) <;> go_simp) (fun hHeld35 => ?_)
    clear hK K
    (try simp only [List.getElem_toArray, List.getElem_cons_succ, List.getElem_cons_zero, Act.put, List.setIfInBounds_toArray, List.set_cons_zero, List.set_cons_succ])
    refine wpAnyH_ready (rs := [9]) (by kernel_rfl) (by simp) ?_
    refine AllReadyH.cons (o := _) rfl (fun K hK => ?st36) ?mo36
    case st36 =>
      go_simp
      refine hK.out _ _ (by go_split_ands <;> (try dsimp only) <;> go_simp) (fun hHeld36 => ?_)
      clear hK K
      (try simp only [List.getElem_toArray, List.getElem_cons_succ, List.getElem_cons_zero, Act.put, List.setIfInBounds_toArray, List.set_cons_zero, List.set_cons_succ])
      refine wpAnyH_take (i := 12) (oi := _) (v := ?v37) rfl (by kernel_rfl) (by kernel_rfl) (by kernel_rfl) (fun _ _ _ h => h) (Or.inl ⟨by rfl, ?hy37⟩) (by assumption) ?rest37
      case hy37 => (intro w hSw; (try dsimp only at hSw); go_simp; first | done | with_reducible rfl)
      (try simp only [List.getElem_toArray, List.getElem_cons_succ, List.getElem_cons_zero, Act.put, List.setIfInBounds_toArray, List.set_cons_zero, List.set_cons_succ])
      refine wpAnyH_take (i := 13) (oi := _) (v := ?v38) rfl (by kernel_rfl) (by kernel_rfl) (by kernel_rfl) (fun _ _ _ h => h) (Or.inl ⟨by rfl, ?hy38⟩) (by assumption) ?rest38
      case hy38 => (intro w hSw; (try dsimp only at hSw); go_simp; first | done | with_reducible rfl)
      (try simp only [List.getElem_toArray, List.getElem_cons_succ, List.getElem_cons_zero, Act.put, List.setIfInBounds_toArray, List.set_cons_zero, List.set_cons_succ])
      refine wpAnyH_take (i := 14) (oi := _) (v := ?v39) rfl (by kernel_rfl) (by kernel_rfl) (by kernel_rfl) (fun _ _ _ h => h) (Or.inl ⟨by rfl, ?hy39⟩) (by assumption) ?rest39
      case hy39 => (intro w hSw; (try dsimp only at hSw); go_simp; first | done | with_reducible rfl)
      (try simp only [List.getElem_toArray, List.getElem_cons_succ, List.getElem_cons_zero, Act.put, List.setIfInBounds_toArray, List.set_cons_zero, List.set_cons_succ])
      refine wpAnyH_take (i := 15) (oi := _) (v := ?v40) rfl (by kernel_rfl) (by kernel_rfl) (by kernel_rfl) (fun _ _ _ h => h) (Or.inl ⟨by rfl, ?hy40⟩) (by assumption) ?rest40
      case hy40 => (intro w hSw; (try dsimp only at hSw); go_simp; first | done | with_reducible rfl)
      (try simp only [List.getElem_toArray, List.getElem_cons_succ, List.getElem_cons_zero, Act.put, List.setIfInBounds_toArray, List.set_cons_zero, List.set_cons_succ])
      refine wpAnyH_take (i := 16) (oi := _) (v := ?v41) rfl (by kernel_rfl) (by kernel_rfl) (by kernel_rfl) (fun _ _ _ h => h) (Or.inl ⟨by rfl, ?hy41⟩) (by assumption) ?rest41
      case hy41 => (intro w hSw; (try dsimp only at hSw); go_simp; first | done | with_reducible rfl)
      (try simp only [List.getElem_toArray, List.getElem_cons_succ, List.getElem_cons_zero, Act.put, List.setIfInBounds_toArray, List.set_cons_zero, List.set_cons_succ])
      refine wpAnyH_ready (rs := [17]) (by kernel_rfl) (by simp) ?_
      refine AllReadyH.cons (o := _) rfl (fun K hK => ?st42) ?mo42
      case st42 =>
        go_simp
        refine hK.out _ _ (by go_split_ands <;> (try dsimp only) <;> go_simp) (fun hHeld42 => ?_)
        clear hK K
        (try simp only [List.getElem_toArray, List.getElem_cons_succ, List.getElem_cons_zero, Act.put, List.setIfInBounds_toArray, List.set_cons_zero, List.set_cons_succ])
        refine wpAnyH_done (by kernel_rfl) ?_ _
        go_wp2_with fail
        refine bodyPost_ret (by simp [results, Tryd.results37, go_sem, H_hpc.out] <;> try rfl) rfl ?_
        have hI9 : IS w1 c.fin n k pa' pc' (some ⟨gs, off, none⟩) sc' := ⟨H_hok.out, by show c.st.dropLast.length = k; rw [List.length_dropLast, H_h.out.m]; rfl, H_hI.out.p, by show Vg.IR w1 _ sc' (Vg.ic c.st.dropLast); rw [ic_dropLast]; exact IR.dropLast H_hI.out.s⟩
        have hfin := icr_of2 (w := w) (c' := c.fin) (ed := ed) hI9 H_f1.out (fun j hj => H_f2.out j hj) (by omega) (bR := w.heap.size + 1) (by omega) l_hg0 H_hok.out rfl rfl
        rw [(show c.fin.pe = c.pe from rfl), (show c.fin.en = c.en from rfl), H_hpe.out, H_hen.out] at hfin
        exact ⟨_, _, rfl, (hfin _ _).grows (Vg.Grows.drew (Vg.Grows.refl _)), Vg.Grows.drew (Vg.Grows.put (Vg.Grows.put hgw (Nat.le_succ _) _) (by omega) _)⟩
      exact AllReadyH.nil
    exact AllReadyH.nil
  refine AllReadyH.cons (o := _) rfl (fun K hK => ?st43) ?mo43
  case st43 =>
    go_simp
    refine hK.out _ _ (by go_split_ands <;> (try dsimp only) <;> go_simp) (fun hHeld43 => ?_)
    clear hK K
    (try simp only [List.getElem_toArray, List.getElem_cons_succ, List.getElem_cons_zero, Act.put, List.setIfInBounds_toArray, List.set_cons_zero, List.set_cons_succ])
    refine wpAnyH_take (i := 12) (oi := _) (v := ?v44) rfl (by kernel_rfl) (by kernel_rfl) (by kernel_rfl) (fun _ _ _ h => h) (Or.inl ⟨by rfl, ?hy44⟩) (by assumption) ?rest44
    case hy44 => (intro w hSw; (try dsimp only at hSw); go_simp; first | done | with_reducible rfl)
    (try simp only [List.getElem_toArray, List.getElem_cons_succ, List.getElem_cons_zero, Act.put, List.setIfInBounds_toArray, List.set_cons_zero, List.set_cons_succ])
    refine wpAnyH_ready (rs := [4]) (by kernel_rfl) (by simp) ?_
    refine AllReadyH.cons (o := _) rfl (fun K hK => ?st45) ?mo45
    case st45 =>
      go_simp
      refine hK.out _ _ (by go_split_ands <;> (try dsimp only) <;> go_simp) (fun hHeld45 => ?_)
      clear hK K
      (try simp only [List.getElem_toArray, List.getElem_cons_succ, List.getElem_cons_zero, Act.put, List.setIfInBounds_toArray, List.set_cons_zero, List.set_cons_succ])
      refine wpAnyH_take (i := 13) (oi := _) (v := ?v46) rfl (by kernel_rfl) (by kernel_rfl) (by kernel_rfl) (fun _ _ _ h => h) (Or.inl ⟨by rfl, ?hy46⟩) (by assumption) ?rest46
      case hy46 => (intro w hSw; (try dsimp only at hSw); go_simp; first | done | with_reducible rfl)
      (try simp only [List.getElem_toArray, List.getElem_cons_succ, List.getElem_cons_zero, Act.put, List.setIfInBounds_toArray, List.set_cons_zero, List.set_cons_succ])
      refine wpAnyH_take (i := 14) (oi := _) (v := ?v47) rfl (by kernel_rfl) (by kernel_rfl) (by kernel_rfl) (fun _ _ _ h => h) (Or.inl ⟨by rfl, ?hy47⟩) (by assumption) ?rest47
      case hy47 => (intro w hSw; (try dsimp only at hSw); go_simp; first | done | with_reducible rfl)
      (try simp only [List.getElem_toArray, List.getElem_cons_succ, List.getElem_cons_zero, Act.put, List.setIfInBounds_toArray, List.set_cons_zero, List.set_cons_succ])
      refine wpAnyH_take (i := 15) (oi := _) (v := ?v48) rfl (by kernel_rfl) (by kernel_rfl) (by kernel_rfl) (fun _ _ _ h => h) (Or.inl ⟨by rfl, ?hy48⟩) (by assumption) ?rest48
      case hy48 => (intro w hSw; (try dsimp only at hSw); go_simp; first | done | with_reducible rfl)
      (try simp only [List.getElem_toArray, List.getElem_cons_succ, List.getElem_cons_zero, Act.put, List.setIfInBounds_toArray, List.set_cons_zero, List.set_cons_succ])
      refine wpAnyH_take (i := 16) (oi := _) (v := ?v49) rfl (by kernel_rfl) (by kernel_rfl) (by kernel_rfl) (fun _ _ _ h => h) (Or.inl ⟨by rfl, ?hy49⟩) (by assumption) ?rest49
      case hy49 => (intro w hSw; (try dsimp only at hSw); go_simp; first | done | with_reducible rfl)
      (try simp only [List.getElem_toArray, List.getElem_cons_succ, List.getElem_cons_zero, Act.put, List.setIfInBounds_toArray, List.set_cons_zero, List.set_cons_succ])
      refine wpAnyH_ready (rs := [17]) (by kernel_rfl) (by simp) ?_
      refine AllReadyH.cons (o := _) rfl (fun K hK => ?st50) ?mo50
      case st50 =>
        go_simp
        refine hK.out _ _ (by go_split_ands <;> (try dsimp only) <;> go_simp) (fun hHeld50 => ?_)
        clear hK K
        (try simp only [List.getElem_toArray, List.getElem_cons_succ, List.getElem_cons_zero, Act.put, List.setIfInBounds_toArray, List.set_cons_zero, List.set_cons_succ])
        refine wpAnyH_done (by kernel_rfl) ?_ _
        go_wp2_with fail
        refine bodyPost_ret (by simp [results, Tryd.results37, go_sem, H_hpc.out] <;> try rfl) rfl ?_
        have hI9 : IS w1 c.fin n k pa' pc' (some ⟨gs, off, none⟩) sc' := ⟨H_hok.out, by show c.st.dropLast.length = k; rw [List.length_dropLast, H_h.out.m]; rfl, H_hI.out.p, by show Vg.IR w1 _ sc' (Vg.ic c.st.dropLast); rw [ic_dropLast]; exact IR.dropLast H_hI.out.s⟩
        have hfin := icr_of2 (w := w) (c' := c.fin) (ed := ed) hI9 H_f1.out (fun j hj => H_f2.out j hj) (by omega) (bR := w.heap.size + 1) (by omega) l_hg0 H_hok.out rfl rfl
        rw [(show c.fin.pe = c.pe from rfl), (show c.fin.en = c.en from rfl), H_hpe.out, H_hen.out] at hfin
        exact ⟨_, _, rfl, (hfin _ _).grows (Vg.Grows.drew (Vg.Grows.refl _)), Vg.Grows.drew (Vg.Grows.put (Vg.Grows.put hgw (Nat.le_succ _) _) (by omega) _)⟩
      exact AllReadyH.nil
    exact AllReadyH.nil
  exact AllReadyH.nil
end
end Go.Proofs.YtekjnagojphmkaaDoor
