/- Package intc: open, edge, active, level, Make. -/
import Derived.Test.YtekjnagojphmkaaDoorIcB
set_option linter.unusedSimpArgs false
set_option linter.unusedVariables false
set_option maxHeartbeats 8000000
set_option maxRecDepth 100000
namespace Vg
open Go
theorem Ic.Ok.ahead_ge {n : Nat} {c : Ic} (h : c.Ok n) : ∀ k, k ≤ c.st.length → (k : Int) ≤ c.ahead k
  | 0, _ => by simp [Ic.ahead]
  | k + 1, hk => by
    have h1 := Ic.Ok.ahead_ge h k (by omega)
    have h2 := h.ahead_lt (k := k) (by omega)
    rw [Ic.ahead_succ (by omega)]
    omega
theorem Ic.Ok.st15 {n : Nat} {c : Ic} (h : c.Ok n) : c.st.length ≤ 15 := by
  have h1 := h.ahead_ge _ (Nat.le_refl c.st.length)
  cases hl : c.st.length with
  | zero => omega
  | succ k =>
    rw [hl, Ic.ahead_succ (by omega)] at h1
    have := h.prio_bd (h.sth _ (List.getElem_mem (l := c.st) (n := k) (by omega)))
    omega
theorem IR.put {w : World} {sa : Option Addr} {c n b : Nat} {L : List Int} (h : IR w sa c L) (hn : L.length = n) (hv : ∀ k, (Value.slice sa n c).ownBlock = some k → k ≠ b) (o : Obj) : IR (Vg.put w b o) sa c L :=
  h.touch (t := fun k => k = b) (Touch.put (t := fun k => k = b) (Touch.refl _ _) rfl o) hn hv
end Vg
namespace Go.Proofs.YtekjnagojphmkaaDoor
open Go.ChangeShapes Go.WideShapes Go.ChangeAt Go.RowKit
section
variable {w w' : World} {c : Vg.Ic} {n m ed pc sc pe en : Nat} {pa sa : Option Addr} {L : List Int}
theorem ic_open (line : Int) {r : Int} (hr0 : (if 0 ≤ line ∧ line < (n : Int) then (0 : Int) else 1) = r) (h : IS w c n m pa pc sa sc) (hed : 2 ^ n - 1 = ed) (hpe : c.pe = pe) (hen : c.en = en) :
    Calls Tryd.prog 64 #[icV pe en ed pa n pc sa m sc, .int .i64 line] w fun e w' => ∃ g, e = .returned (.tuple #[.pointer (some ⟨g, 0, none⟩), .int .i64 r]) ∧ w.heap.size ≤ g ∧ ∃ pa' pc' sa' sc', Vg.blk w' g = some (dkO pe en ed pa' n pc' sa' m sc') ∧ IS w' c n m pa' pc' sa' sc' ∧ Vg.Que w' w.heap.size 3 1 (.slice sa' m sc') m (Vg.ics (Vg.ic c.st)) ∧ (∀ k, (Value.slice pa' n pc').ownBlock = some k → (Value.slice sa' m sc').ownBlock ≠ some k) ∧ (∀ k, (Value.slice pa' n pc').ownBlock = some k → w.heap.size ≤ k ∧ k < g) ∧ (∀ k, (Value.slice sa' m sc').ownBlock = some k → w.heap.size ≤ k ∧ k < g) ∧ Vg.Grows w w' := by
  obtain ⟨q1, q2, q3, q4⟩ := h.caps
  obtain ⟨n1, n2⟩ := h.ok.n1
  have hpl := h.ok.len
  have hsl : (Vg.ic c.st).length = m := by rw [Vg.ic_len]; exact h.m
  have hm15 : m ≤ 15 := by rw [← h.m]; exact h.ok.st15
  have H_h := Lib.hid h; clear h; have H_hed := Lib.hid hed; clear hed; have H_hpe := Lib.hid hpe; clear hpe; have H_hen := Lib.hid hen; clear hen; have H_hpl := Lib.hid hpl; clear hpl; have H_hsl := Lib.hid hsl; clear hsl; have H_hr0 := Lib.hid hr0; clear hr0
  go_enter Tryd.func64, Tryd.ntmps64
  go_upto_region 4 with ((go_at_call 62; (with_reducible refine (ic_check (H_h.out.grows (by (repeat' (first | (with_reducible exact Vg.Grows.refl _) | (with_reducible assumption) | (with_reducible refine Vg.Grows.alloc ?_ _) | (with_reducible refine Vg.Grows.plus ?_ _ _) | (with_reducible refine Vg.Grows.drewN ?_ _) | (with_reducible refine Vg.Grows.drew ?_) | (with_reducible refine Vg.Grows.setCell ?_ ?_ _) | (with_reducible refine Vg.Grows.put ?_ ?_ _) | omega | (simp; omega) | (simp; done))))) H_hed.out H_hpe.out H_hen.out).mono ?_); rintro e w1 ⟨rfl, x1, m1, rfl⟩))
  obtain ⟨W1, hW1, y1, hgw, hs1⟩ : ∃ W1, Vg.plus (w.alloc (icO pe en ed pa n pc sa m sc)) x1 m1 = W1 ∧ Vg.blk W1 w.heap.size = some (icO pe en ed pa n pc sa m sc) ∧ Vg.Grows w W1 ∧ w.heap.size + 1 ≤ W1.heap.size := ⟨_, rfl, (Vg.Grows.plus (Vg.Grows.refl _) _ _).blk (Vg.alloc_heap_at rfl), by (repeat' (first | (with_reducible exact Vg.Grows.refl _) | (with_reducible assumption) | (with_reducible refine Vg.Grows.alloc ?_ _) | (with_reducible refine Vg.Grows.plus ?_ _ _) | (with_reducible refine Vg.Grows.drewN ?_ _) | (with_reducible refine Vg.Grows.drew ?_) | (with_reducible refine Vg.Grows.setCell ?_ ?_ _) | (with_reducible refine Vg.Grows.put ?_ ?_ _) | omega | (simp; omega) | (simp; done))), by rw [Vg.plus_size, World.size_alloc]; omega⟩
  rw [hW1]
  clear hW1
  have c_y1 := Vg.cells_of y1; have f_y1 := Vg.frozen_of y1; have p_y1 := Vg.setCell_of y1; have l_y1 := Vg.lt_of y1; have H_y1 := Lib.hid y1; clear y1
  go_cut [] (fun wz => ∃ (a2 a3 : Option Addr) (c2 c3 : Nat), Vg.blk wz w.heap.size = some (icO pe en ed a2 n c2 a3 m c3) ∧ IS wz c n m a2 c2 a3 c3 ∧ Vg.Que wz w.heap.size 3 1 (.slice a3 m c3) m (Vg.ics (Vg.ic c.st)) ∧ (∀ k, (Value.slice a2 n c2).ownBlock = some k → (Value.slice a3 m c3).ownBlock ≠ some k) ∧ (∀ k, (Value.slice a2 n c2).ownBlock = some k → w.heap.size ≤ k ∧ k < wz.heap.size) ∧ (∀ k, (Value.slice a3 m c3).ownBlock = some k → w.heap.size ≤ k ∧ k < wz.heap.size) ∧ Vg.Grows w wz)
  case first =>
    refine wp_region_held_drew (S := fun w' => w.heap.size < w'.heap.size) (by kernel_rfl) (by go_split_ands <;> (try dsimp only) <;> go_simp) (fun hHeld => ?_)
    refine wpAnyH_take (i := 0) (oi := _) (v := ?v1) rfl (by kernel_rfl) (by kernel_rfl) (by kernel_rfl) (fun _ _ _ h => h) (Or.inl ⟨by rfl, ?hy1⟩) (by assumption) ?rest1
    case hy1 => (intro w hSw; (try dsimp only at hSw); go_simp; first | done | with_reducible rfl)
    (try simp only [List.getElem_toArray, List.getElem_cons_succ, List.getElem_cons_zero, Act.put, List.setIfInBounds_toArray, List.set_cons_zero, List.set_cons_succ])
    refine wpAnyH_take (i := 3) (oi := _) (v := ?v2) rfl (by kernel_rfl) (by kernel_rfl) (by kernel_rfl) (fun _ _ _ h => h) (Or.inl ⟨by rfl, ?hy2⟩) (by assumption) ?rest2
    case hy2 => (intro w hSw; (try dsimp only at hSw); go_simp; first | done | with_reducible rfl)
    (try simp only [List.getElem_toArray, List.getElem_cons_succ, List.getElem_cons_zero, Act.put, List.setIfInBounds_toArray, List.set_cons_zero, List.set_cons_succ])
    refine wpAnyH_ready (rs := [1, 4]) (by kernel_rfl) (by simp) ?_
    refine AllReadyH.cons (o := _) rfl (fun K hK => ?st3) ?mo3
    case st3 =>
      go_simp
      refine hK.out _ _ (by go_split_ands <;> (try dsimp only) <;> go_simp) (fun hHeld3 => ?_)
      clear hK K
      (try simp only [List.getElem_toArray, List.getElem_cons_succ, List.getElem_cons_zero, Act.put, List.setIfInBounds_toArray, List.set_cons_zero, List.set_cons_succ])
      refine wpAnyH_ready (rs := [2, 4]) (by kernel_rfl) (by simp) ?_
      refine AllReadyH.cons (o := _) rfl (fun K hK => ?st4) ?mo4
      case st4 =>
        go_simp
        ((go_at_call 60; (with_reducible refine (clone (H_h.out.p.grows (by (repeat' (first | (with_reducible exact Vg.Grows.refl _) | (with_reducible assumption) | (with_reducible refine Vg.Grows.alloc ?_ _) | (with_reducible refine Vg.Grows.plus ?_ _ _) | (with_reducible refine Vg.Grows.drewN ?_ _) | (with_reducible refine Vg.Grows.drew ?_) | (with_reducible refine Vg.Grows.setCell ?_ ?_ _) | (with_reducible refine Vg.Grows.put ?_ ?_ _) | omega | (simp; omega) | (simp; done))))) H_hpl.out (by omega)).mono ?_); rintro e w2 ⟨a2, c2, rfl, hr2, hf2, -, hg2⟩; have y2 := hg2.blk (((Vg.Grows.refl W1).drew).blk H_y1.out); have hs2 := hg2.size; simp only [World.size_drew] at hf2 hs2; clear c_y1 f_y1 p_y1; have c_y2 := Vg.cells_of y2; have f_y2 := Vg.frozen_of y2; have p_y2 := Vg.setCell_of y2; have l_y2 := Vg.lt_of y2; have H_y2 := Lib.hid y2; clear y2; have H_hr2 := Lib.hid hr2; clear hr2; have H_hf2 := Lib.hid hf2; clear hf2; have H_hg2 := Lib.hid hg2; clear hg2))
        all_goals (try go_wp2_with fail)
        refine hK.out _ _ (by go_split_ands <;> (try dsimp only) <;> go_simp) (fun hHeld4 => ?_)
        clear hK K
        (try simp only [List.getElem_toArray, List.getElem_cons_succ, List.getElem_cons_zero, Act.put, List.setIfInBounds_toArray, List.set_cons_zero, List.set_cons_succ])
        refine wpAnyH_ready (rs := [4]) (by kernel_rfl) (by simp) ?_
        refine AllReadyH.cons (o := _) rfl (fun K hK => ?st5) ?mo5
        case st5 =>
          go_simp
          refine hK.out _ _ (by go_split_ands <;> (try dsimp only) <;> go_simp) (fun hHeld5 => ?_)
          clear hK K
          (try simp only [List.getElem_toArray, List.getElem_cons_succ, List.getElem_cons_zero, Act.put, List.setIfInBounds_toArray, List.set_cons_zero, List.set_cons_succ])
          refine wpAnyH_take (i := 6) (oi := _) (v := ?v6) rfl (by kernel_rfl) (by kernel_rfl) (by kernel_rfl) (fun _ _ _ h => h) (Or.inl ⟨by rfl, ?hy6⟩) (by assumption) ?rest6
          case hy6 => (intro w hSw; (try dsimp only at hSw); go_simp; first | done | with_reducible rfl)
          (try simp only [List.getElem_toArray, List.getElem_cons_succ, List.getElem_cons_zero, Act.put, List.setIfInBounds_toArray, List.set_cons_zero, List.set_cons_succ])
          refine wpAnyH_ready (rs := [5]) (by kernel_rfl) (by simp) ?_
          refine AllReadyH.cons (o := _) rfl (fun K hK => ?st7) ?mo7
          case st7 =>
            go_simp
            ((go_at_call 60; (with_reducible refine (clone (H_h.out.s.grows (by (try simp only [World.size_drew]); exact (Vg.Grows.trans (by (repeat' (first | (with_reducible exact Vg.Grows.refl _) | (with_reducible assumption) | (with_reducible refine Vg.Grows.alloc ?_ _) | (with_reducible refine Vg.Grows.plus ?_ _ _) | (with_reducible refine Vg.Grows.drewN ?_ _) | (with_reducible refine Vg.Grows.drew ?_) | (with_reducible refine Vg.Grows.setCell ?_ ?_ _) | (with_reducible refine Vg.Grows.put ?_ ?_ _) | omega | (simp; omega) | (simp; done)))) H_hg2.out))) H_hsl.out (by omega)).mono ?_); rintro e w3 ⟨a3, c3, rfl, hr3, hf3, hq3, hg3⟩; have y3 := hg3.blk H_y2.out; have hs3 := hg3.size; clear c_y2 f_y2 p_y2; have c_y3 := Vg.cells_of y3; have f_y3 := Vg.frozen_of y3; have p_y3 := Vg.setCell_of y3; have l_y3 := Vg.lt_of y3; have H_y3 := Lib.hid y3; clear y3; have H_hr3 := Lib.hid hr3; clear hr3; have H_hf3 := Lib.hid hf3; clear hf3; have H_hg3 := Lib.hid hg3; clear hg3; have H_hq3 := Lib.hid hq3; clear hq3))
            all_goals (try go_wp2_with fail)
            refine hK.out _ _ (by go_split_ands <;> (try dsimp only) <;> go_simp) (fun hHeld7 => ?_)
            clear hK K
            (try simp only [List.getElem_toArray, List.getElem_cons_succ, List.getElem_cons_zero, Act.put, List.setIfInBounds_toArray, List.set_cons_zero, List.set_cons_succ])
            refine wpAnyH_ready (rs := [7]) (by kernel_rfl) (by simp) ?_
            refine AllReadyH.cons (o := _) rfl (fun K hK => ?st8) ?mo8
            case st8 =>
              go_simp
              refine hK.out _ _ (by go_split_ands <;> (try dsimp only) <;> go_simp) (fun hHeld8 => ?_)
              clear hK K
              (try simp only [List.getElem_toArray, List.getElem_cons_succ, List.getElem_cons_zero, Act.put, List.setIfInBounds_toArray, List.set_cons_zero, List.set_cons_succ])
              refine wpAnyH_take (i := 8) (oi := _) (v := ?v9) rfl (by kernel_rfl) (by kernel_rfl) (by kernel_rfl) (fun _ _ _ h => h) (Or.inl ⟨by rfl, ?hy9⟩) (by assumption) ?rest9
              case hy9 => (intro w hSw; (try dsimp only at hSw); go_simp; first | done | with_reducible rfl)
              (try simp only [List.getElem_toArray, List.getElem_cons_succ, List.getElem_cons_zero, Act.put, List.setIfInBounds_toArray, List.set_cons_zero, List.set_cons_succ])
              refine wpAnyH_ready (rs := [9]) (by kernel_rfl) (by simp) ?_
              refine AllReadyH.cons (o := _) rfl (fun K hK => ?st10) ?mo10
              case st10 =>
                go_simp
                refine hK.out _ _ (by go_split_ands <;> (try dsimp only) <;> go_simp) (fun hHeld10 => ?_)
                clear hK K
                (try simp only [List.getElem_toArray, List.getElem_cons_succ, List.getElem_cons_zero, Act.put, List.setIfInBounds_toArray, List.set_cons_zero, List.set_cons_succ])
                refine wpAnyH_done (by kernel_rfl) ?_ _
                go_wp2_with fail
                go_meet
                have g9 := Vg.Grows.trans (Vg.Grows.trans (a := w) (by (repeat' (first | (with_reducible exact Vg.Grows.refl _) | (with_reducible assumption) | (with_reducible refine Vg.Grows.alloc ?_ _) | (with_reducible refine Vg.Grows.plus ?_ _ _) | (with_reducible refine Vg.Grows.drewN ?_ _) | (with_reducible refine Vg.Grows.drew ?_) | (with_reducible refine Vg.Grows.setCell ?_ ?_ _) | (with_reducible refine Vg.Grows.put ?_ ?_ _) | omega | (simp; omega) | (simp; done)))) H_hg2.out) H_hg3.out
                refine ⟨a2, a3, c2, c3, Vg.put_heap_same l_y3, ⟨H_h.out.ok, H_h.out.m, (H_hr2.out.grows H_hg3.out).put H_hpl.out (fun k hk => by have := H_hf2.out k hk; omega) _, H_hr3.out.put H_hsl.out (fun k hk => by have := H_hf3.out k hk; omega) _⟩, (H_hq3.out.kept (fun k hk => Vg.put_heap_other (by have := H_hf3.out k hk; omega))).weaken (by omega), fun k hk hh => (by have h1 := H_hf2.out k hk; have h2 := H_hf3.out k hh; omega), fun k hk => ?_, fun k hk => ?_, Vg.Grows.put g9 (Nat.le_refl _) _⟩
                · have h1 := H_hf2.out k hk
                  rw [Vg.put_size]
                  omega
                · have h1 := H_hf3.out k hk
                  rw [Vg.put_size]
                  omega
              exact AllReadyH.nil
            exact AllReadyH.nil
          exact AllReadyH.nil
        exact AllReadyH.nil
      refine AllReadyH.cons (o := _) rfl (fun K hK => ?st11) ?mo11
      case st11 =>
        go_simp
        refine hK.out _ _ (by go_split_ands <;> (try dsimp only) <;> go_simp) (fun hHeld11 => ?_)
        clear hK K
        (try simp only [List.getElem_toArray, List.getElem_cons_succ, List.getElem_cons_zero, Act.put, List.setIfInBounds_toArray, List.set_cons_zero, List.set_cons_succ])
        refine wpAnyH_ready (rs := [2]) (by kernel_rfl) (by simp) ?_
        refine AllReadyH.cons (o := _) rfl (fun K hK => ?st12) ?mo12
        case st12 =>
          go_simp
          ((go_at_call 60; (with_reducible refine (clone (H_h.out.p.grows (by (repeat' (first | (with_reducible exact Vg.Grows.refl _) | (with_reducible assumption) | (with_reducible refine Vg.Grows.alloc ?_ _) | (with_reducible refine Vg.Grows.plus ?_ _ _) | (with_reducible refine Vg.Grows.drewN ?_ _) | (with_reducible refine Vg.Grows.drew ?_) | (with_reducible refine Vg.Grows.setCell ?_ ?_ _) | (with_reducible refine Vg.Grows.put ?_ ?_ _) | omega | (simp; omega) | (simp; done))))) H_hpl.out (by omega)).mono ?_); rintro e w2 ⟨a2, c2, rfl, hr2, hf2, -, hg2⟩; have y2 := hg2.blk (((Vg.Grows.refl W1).drew).blk H_y1.out); have hs2 := hg2.size; simp only [World.size_drew] at hf2 hs2; clear c_y1 f_y1 p_y1; have c_y2 := Vg.cells_of y2; have f_y2 := Vg.frozen_of y2; have p_y2 := Vg.setCell_of y2; have l_y2 := Vg.lt_of y2; have H_y2 := Lib.hid y2; clear y2; have H_hr2 := Lib.hid hr2; clear hr2; have H_hf2 := Lib.hid hf2; clear hf2; have H_hg2 := Lib.hid hg2; clear hg2))
          all_goals (try go_wp2_with fail)
          refine hK.out _ _ (by go_split_ands <;> (try dsimp only) <;> go_simp) (fun hHeld12 => ?_)
          clear hK K
          (try simp only [List.getElem_toArray, List.getElem_cons_succ, List.getElem_cons_zero, Act.put, List.setIfInBounds_toArray, List.set_cons_zero, List.set_cons_succ])
          refine wpAnyH_take (i := 6) (oi := _) (v := ?v13) rfl (by kernel_rfl) (by kernel_rfl) (by kernel_rfl) (fun _ _ _ h => h) (Or.inl ⟨by rfl, ?hy13⟩) (by assumption) ?rest13
          case hy13 => (intro w hSw; (try dsimp only at hSw); go_simp; first | done | with_reducible rfl)
          (try simp only [List.getElem_toArray, List.getElem_cons_succ, List.getElem_cons_zero, Act.put, List.setIfInBounds_toArray, List.set_cons_zero, List.set_cons_succ])
          refine wpAnyH_ready (rs := [5]) (by kernel_rfl) (by simp) ?_
          refine AllReadyH.cons (o := _) rfl (fun K hK => ?st14) ?mo14
          case st14 =>
            go_simp
            ((go_at_call 60; (with_reducible refine (clone (H_h.out.s.grows (by (try simp only [World.size_drew]); exact (Vg.Grows.trans (by (repeat' (first | (with_reducible exact Vg.Grows.refl _) | (with_reducible assumption) | (with_reducible refine Vg.Grows.alloc ?_ _) | (with_reducible refine Vg.Grows.plus ?_ _ _) | (with_reducible refine Vg.Grows.drewN ?_ _) | (with_reducible refine Vg.Grows.drew ?_) | (with_reducible refine Vg.Grows.setCell ?_ ?_ _) | (with_reducible refine Vg.Grows.put ?_ ?_ _) | omega | (simp; omega) | (simp; done)))) H_hg2.out))) H_hsl.out (by omega)).mono ?_); rintro e w3 ⟨a3, c3, rfl, hr3, hf3, hq3, hg3⟩; have y3 := hg3.blk H_y2.out; have hs3 := hg3.size; clear c_y2 f_y2 p_y2; have c_y3 := Vg.cells_of y3; have f_y3 := Vg.frozen_of y3; have p_y3 := Vg.setCell_of y3; have l_y3 := Vg.lt_of y3; have H_y3 := Lib.hid y3; clear y3; have H_hr3 := Lib.hid hr3; clear hr3; have H_hf3 := Lib.hid hf3; clear hf3; have H_hg3 := Lib.hid hg3; clear hg3; have H_hq3 := Lib.hid hq3; clear hq3))
            all_goals (try go_wp2_with fail)
            refine hK.out _ _ (by go_split_ands <;> (try dsimp only) <;> go_simp) (fun hHeld14 => ?_)
            clear hK K
            (try simp only [List.getElem_toArray, List.getElem_cons_succ, List.getElem_cons_zero, Act.put, List.setIfInBounds_toArray, List.set_cons_zero, List.set_cons_succ])
            refine wpAnyH_ready (rs := [7]) (by kernel_rfl) (by simp) ?_
            refine AllReadyH.cons (o := _) rfl (fun K hK => ?st15) ?mo15
            case st15 =>
              go_simp
              refine hK.out _ _ (by go_split_ands <;> (try dsimp only) <;> go_simp) (fun hHeld15 => ?_)
              clear hK K
              (try simp only [List.getElem_toArray, List.getElem_cons_succ, List.getElem_cons_zero, Act.put, List.setIfInBounds_toArray, List.set_cons_zero, List.set_cons_succ])
              refine wpAnyH_take (i := 8) (oi := _) (v := ?v16) rfl (by kernel_rfl) (by kernel_rfl) (by kernel_rfl) (fun _ _ _ h => h) (Or.inl ⟨by rfl, ?hy16⟩) (by assumption) ?rest16
              case hy16 => (intro w hSw; (try dsimp only at hSw); go_simp; first | done | with_reducible rfl)
              (try simp only [List.getElem_toArray, List.getElem_cons_succ, List.getElem_cons_zero, Act.put, List.setIfInBounds_toArray, List.set_cons_zero, List.set_cons_succ])
              refine wpAnyH_ready (rs := [9]) (by kernel_rfl) (by simp) ?_
              refine AllReadyH.cons (o := _) rfl (fun K hK => ?st17) ?mo17
              case st17 =>
                go_simp
                refine hK.out _ _ (by go_split_ands <;> (try dsimp only) <;> go_simp) (fun hHeld17 => ?_)
                clear hK K
                (try simp only [List.getElem_toArray, List.getElem_cons_succ, List.getElem_cons_zero, Act.put, List.setIfInBounds_toArray, List.set_cons_zero, List.set_cons_succ])
                refine wpAnyH_done (by kernel_rfl) ?_ _
                go_wp2_with fail
                go_meet
                have g9 := Vg.Grows.trans (Vg.Grows.trans (a := w) (by (repeat' (first | (with_reducible exact Vg.Grows.refl _) | (with_reducible assumption) | (with_reducible refine Vg.Grows.alloc ?_ _) | (with_reducible refine Vg.Grows.plus ?_ _ _) | (with_reducible refine Vg.Grows.drewN ?_ _) | (with_reducible refine Vg.Grows.drew ?_) | (with_reducible refine Vg.Grows.setCell ?_ ?_ _) | (with_reducible refine Vg.Grows.put ?_ ?_ _) | omega | (simp; omega) | (simp; done)))) H_hg2.out) H_hg3.out
                refine ⟨a2, a3, c2, c3, Vg.put_heap_same l_y3, ⟨H_h.out.ok, H_h.out.m, (H_hr2.out.grows H_hg3.out).put H_hpl.out (fun k hk => by have := H_hf2.out k hk; omega) _, H_hr3.out.put H_hsl.out (fun k hk => by have := H_hf3.out k hk; omega) _⟩, (H_hq3.out.kept (fun k hk => Vg.put_heap_other (by have := H_hf3.out k hk; omega))).weaken (by omega), fun k hk hh => (by have h1 := H_hf2.out k hk; have h2 := H_hf3.out k hh; omega), fun k hk => ?_, fun k hk => ?_, Vg.Grows.put g9 (Nat.le_refl _) _⟩
                · have h1 := H_hf2.out k hk
                  rw [Vg.put_size]
                  omega
                · have h1 := H_hf3.out k hk
                  rw [Vg.put_size]
                  omega
              exact AllReadyH.nil
            exact AllReadyH.nil
          exact AllReadyH.nil
        exact AllReadyH.nil
      exact AllReadyH.nil
    refine AllReadyH.cons (o := _) rfl (fun K hK => ?st18) ?mo18
    case st18 =>
      go_simp
      refine hK.out _ _ (by go_split_ands <;> (try dsimp only) <;> go_simp) (fun hHeld18 => ?_)
      clear hK K
      (try simp only [List.getElem_toArray, List.getElem_cons_succ, List.getElem_cons_zero, Act.put, List.setIfInBounds_toArray, List.set_cons_zero, List.set_cons_succ])
      refine wpAnyH_ready (rs := [1]) (by kernel_rfl) (by simp) ?_
      refine AllReadyH.cons (o := _) rfl (fun K hK => ?st19) ?mo19
      case st19 =>
        go_simp
        refine hK.out _ _ (by go_split_ands <;> (try dsimp only) <;> go_simp) (fun hHeld19 => ?_)
        clear hK K
        (try simp only [List.getElem_toArray, List.getElem_cons_succ, List.getElem_cons_zero, Act.put, List.setIfInBounds_toArray, List.set_cons_zero, List.set_cons_succ])
        refine wpAnyH_ready (rs := [2]) (by kernel_rfl) (by simp) ?_
        refine AllReadyH.cons (o := _) rfl (fun K hK => ?st20) ?mo20
        case st20 =>
          go_simp
          ((go_at_call 60; (with_reducible refine (clone (H_h.out.p.grows (by (repeat' (first | (with_reducible exact Vg.Grows.refl _) | (with_reducible assumption) | (with_reducible refine Vg.Grows.alloc ?_ _) | (with_reducible refine Vg.Grows.plus ?_ _ _) | (with_reducible refine Vg.Grows.drewN ?_ _) | (with_reducible refine Vg.Grows.drew ?_) | (with_reducible refine Vg.Grows.setCell ?_ ?_ _) | (with_reducible refine Vg.Grows.put ?_ ?_ _) | omega | (simp; omega) | (simp; done))))) H_hpl.out (by omega)).mono ?_); rintro e w2 ⟨a2, c2, rfl, hr2, hf2, -, hg2⟩; have y2 := hg2.blk (((Vg.Grows.refl W1).drew).blk H_y1.out); have hs2 := hg2.size; simp only [World.size_drew] at hf2 hs2; clear c_y1 f_y1 p_y1; have c_y2 := Vg.cells_of y2; have f_y2 := Vg.frozen_of y2; have p_y2 := Vg.setCell_of y2; have l_y2 := Vg.lt_of y2; have H_y2 := Lib.hid y2; clear y2; have H_hr2 := Lib.hid hr2; clear hr2; have H_hf2 := Lib.hid hf2; clear hf2; have H_hg2 := Lib.hid hg2; clear hg2))
          all_goals (try go_wp2_with fail)
          refine hK.out _ _ (by go_split_ands <;> (try dsimp only) <;> go_simp) (fun hHeld20 => ?_)
          clear hK K
          (try simp only [List.getElem_toArray, List.getElem_cons_succ, List.getElem_cons_zero, Act.put, List.setIfInBounds_toArray, List.set_cons_zero, List.set_cons_succ])
          refine wpAnyH_take (i := 6) (oi := _) (v := ?v21) rfl (by kernel_rfl) (by kernel_rfl) (by kernel_rfl) (fun _ _ _ h => h) (Or.inl ⟨by rfl, ?hy21⟩) (by assumption) ?rest21
          case hy21 => (intro w hSw; (try dsimp only at hSw); go_simp; first | done | with_reducible rfl)
          (try simp only [List.getElem_toArray, List.getElem_cons_succ, List.getElem_cons_zero, Act.put, List.setIfInBounds_toArray, List.set_cons_zero, List.set_cons_succ])
          refine wpAnyH_ready (rs := [5]) (by kernel_rfl) (by simp) ?_
          refine AllReadyH.cons (o := _) rfl (fun K hK => ?st22) ?mo22
          case st22 =>
            go_simp
            ((go_at_call 60; (with_reducible refine (clone (H_h.out.s.grows (by (try simp only [World.size_drew]); exact (Vg.Grows.trans (by (repeat' (first | (with_reducible exact Vg.Grows.refl _) | (with_reducible assumption) | (with_reducible refine Vg.Grows.alloc ?_ _) | (with_reducible refine Vg.Grows.plus ?_ _ _) | (with_reducible refine Vg.Grows.drewN ?_ _) | (with_reducible refine Vg.Grows.drew ?_) | (with_reducible refine Vg.Grows.setCell ?_ ?_ _) | (with_reducible refine Vg.Grows.put ?_ ?_ _) | omega | (simp; omega) | (simp; done)))) H_hg2.out))) H_hsl.out (by omega)).mono ?_); rintro e w3 ⟨a3, c3, rfl, hr3, hf3, hq3, hg3⟩; have y3 := hg3.blk H_y2.out; have hs3 := hg3.size; clear c_y2 f_y2 p_y2; have c_y3 := Vg.cells_of y3; have f_y3 := Vg.frozen_of y3; have p_y3 := Vg.setCell_of y3; have l_y3 := Vg.lt_of y3; have H_y3 := Lib.hid y3; clear y3; have H_hr3 := Lib.hid hr3; clear hr3; have H_hf3 := Lib.hid hf3; clear hf3; have H_hg3 := Lib.hid hg3; clear hg3; have H_hq3 := Lib.hid hq3; clear hq3))
            all_goals (try go_wp2_with fail)
            refine hK.out _ _ (by go_split_ands <;> (try dsimp only) <;> go_simp) (fun hHeld22 => ?_)
            clear hK K
            (try simp only [List.getElem_toArray, List.getElem_cons_succ, List.getElem_cons_zero, Act.put, List.setIfInBounds_toArray, List.set_cons_zero, List.set_cons_succ])
            refine wpAnyH_ready (rs := [7]) (by kernel_rfl) (by simp) ?_
            refine AllReadyH.cons (o := _) rfl (fun K hK => ?st23) ?mo23
            case st23 =>
              go_simp
              refine hK.out _ _ (by go_split_ands <;> (try dsimp only) <;> go_simp) (fun hHeld23 => ?_)
              clear hK K
              (try simp only [List.getElem_toArray, List.getElem_cons_succ, List.getElem_cons_zero, Act.put, List.setIfInBounds_toArray, List.set_cons_zero, List.set_cons_succ])
              refine wpAnyH_take (i := 8) (oi := _) (v := ?v24) rfl (by kernel_rfl) (by kernel_rfl) (by kernel_rfl) (fun _ _ _ h => h) (Or.inl ⟨by rfl, ?hy24⟩) (by assumption) ?rest24
              case hy24 => (intro w hSw; (try dsimp only at hSw); go_simp; first | done | with_reducible rfl)
              (try simp only [List.getElem_toArray, List.getElem_cons_succ, List.getElem_cons_zero, Act.put, List.setIfInBounds_toArray, List.set_cons_zero, List.set_cons_succ])
              refine wpAnyH_ready (rs := [9]) (by kernel_rfl) (by simp) ?_
              refine AllReadyH.cons (o := _) rfl (fun K hK => ?st25) ?mo25
              case st25 =>
                go_simp
                refine hK.out _ _ (by go_split_ands <;> (try dsimp only) <;> go_simp) (fun hHeld25 => ?_)
                clear hK K
                (try simp only [List.getElem_toArray, List.getElem_cons_succ, List.getElem_cons_zero, Act.put, List.setIfInBounds_toArray, List.set_cons_zero, List.set_cons_succ])
                refine wpAnyH_done (by kernel_rfl) ?_ _
                go_wp2_with fail
                go_meet
                have g9 := Vg.Grows.trans (Vg.Grows.trans (a := w) (by (repeat' (first | (with_reducible exact Vg.Grows.refl _) | (with_reducible assumption) | (with_reducible refine Vg.Grows.alloc ?_ _) | (with_reducible refine Vg.Grows.plus ?_ _ _) | (with_reducible refine Vg.Grows.drewN ?_ _) | (with_reducible refine Vg.Grows.drew ?_) | (with_reducible refine Vg.Grows.setCell ?_ ?_ _) | (with_reducible refine Vg.Grows.put ?_ ?_ _) | omega | (simp; omega) | (simp; done)))) H_hg2.out) H_hg3.out
                refine ⟨a2, a3, c2, c3, Vg.put_heap_same l_y3, ⟨H_h.out.ok, H_h.out.m, (H_hr2.out.grows H_hg3.out).put H_hpl.out (fun k hk => by have := H_hf2.out k hk; omega) _, H_hr3.out.put H_hsl.out (fun k hk => by have := H_hf3.out k hk; omega) _⟩, (H_hq3.out.kept (fun k hk => Vg.put_heap_other (by have := H_hf3.out k hk; omega))).weaken (by omega), fun k hk hh => (by have h1 := H_hf2.out k hk; have h2 := H_hf3.out k hh; omega), fun k hk => ?_, fun k hk => ?_, Vg.Grows.put g9 (Nat.le_refl _) _⟩
                · have h1 := H_hf2.out k hk
                  rw [Vg.put_size]
                  omega
                · have h1 := H_hf3.out k hk
                  rw [Vg.put_size]
                  omega
              exact AllReadyH.nil
            exact AllReadyH.nil
          exact AllReadyH.nil
        exact AllReadyH.nil
      exact AllReadyH.nil
    exact AllReadyH.nil
  case rest =>
    obtain ⟨a2, a3, c2, c3, z1, hI, hq9, hd9, f2, f3, hg9⟩ := hcut
    have hs9 := hg9.size
    clear c_y1 f_y1 p_y1
    have c_z1 := Vg.cells_of z1; have f_z1 := Vg.frozen_of z1; have p_z1 := Vg.setCell_of z1; have l_z1 := Vg.lt_of z1; have H_z1 := Lib.hid z1; clear z1
    obtain ⟨t1, t2, t3, t4⟩ := hI.caps
    by_cases hl : 0 ≤ line ∧ line < n
    · obtain ⟨hl1, hl2⟩ := hl
      have e9 : r = 0 := by rw [← H_hr0.out, if_pos ⟨hl1, hl2⟩]
      subst e9
      have H_hI := Lib.hid hI; clear hI; have H_f2 := Lib.hid f2; clear f2; have H_f3 := Lib.hid f3; clear f3; have H_hq9 := Lib.hid hq9; clear hq9
      go_wp2_with fail
      go_returns
      exact ⟨wc.heap.size, rfl, hs9, a2, c2, a3, c3, Vg.alloc_heap_at rfl, H_hI.out.grows (by (repeat' (first | (with_reducible exact Vg.Grows.refl _) | (with_reducible assumption) | (with_reducible refine Vg.Grows.alloc ?_ _) | (with_reducible refine Vg.Grows.plus ?_ _ _) | (with_reducible refine Vg.Grows.drewN ?_ _) | (with_reducible refine Vg.Grows.drew ?_) | (with_reducible refine Vg.Grows.setCell ?_ ?_ _) | (with_reducible refine Vg.Grows.put ?_ ?_ _) | omega | (simp; omega) | (simp; done)))), H_hq9.out.grows (by (repeat' (first | (with_reducible exact Vg.Grows.refl _) | (with_reducible assumption) | (with_reducible refine Vg.Grows.alloc ?_ _) | (with_reducible refine Vg.Grows.plus ?_ _ _) | (with_reducible refine Vg.Grows.drewN ?_ _) | (with_reducible refine Vg.Grows.drew ?_) | (with_reducible refine Vg.Grows.setCell ?_ ?_ _) | (with_reducible refine Vg.Grows.put ?_ ?_ _) | omega | (simp; omega) | (simp; done)))), hd9, H_f2.out, H_f3.out, by (repeat' (first | (with_reducible exact Vg.Grows.refl _) | (with_reducible assumption) | (with_reducible refine Vg.Grows.alloc ?_ _) | (with_reducible refine Vg.Grows.plus ?_ _ _) | (with_reducible refine Vg.Grows.drewN ?_ _) | (with_reducible refine Vg.Grows.drew ?_) | (with_reducible refine Vg.Grows.setCell ?_ ?_ _) | (with_reducible refine Vg.Grows.put ?_ ?_ _) | omega | (simp; omega) | (simp; done)))⟩
    · have e9 : r = 1 := by rw [← H_hr0.out, if_neg hl]
      subst e9
      have H_hI := Lib.hid hI; clear hI; have H_f2 := Lib.hid f2; clear f2; have H_f3 := Lib.hid f3; clear f3; have H_hq9 := Lib.hid hq9; clear hq9
      by_cases hl1 : line < 0
      · clear hl
        go_wp2_with fail
        go_returns
        exact ⟨wc.heap.size, rfl, hs9, a2, c2, a3, c3, Vg.alloc_heap_at rfl, H_hI.out.grows (by (repeat' (first | (with_reducible exact Vg.Grows.refl _) | (with_reducible assumption) | (with_reducible refine Vg.Grows.alloc ?_ _) | (with_reducible refine Vg.Grows.plus ?_ _ _) | (with_reducible refine Vg.Grows.drewN ?_ _) | (with_reducible refine Vg.Grows.drew ?_) | (with_reducible refine Vg.Grows.setCell ?_ ?_ _) | (with_reducible refine Vg.Grows.put ?_ ?_ _) | omega | (simp; omega) | (simp; done)))), H_hq9.out.grows (by (repeat' (first | (with_reducible exact Vg.Grows.refl _) | (with_reducible assumption) | (with_reducible refine Vg.Grows.alloc ?_ _) | (with_reducible refine Vg.Grows.plus ?_ _ _) | (with_reducible refine Vg.Grows.drewN ?_ _) | (with_reducible refine Vg.Grows.drew ?_) | (with_reducible refine Vg.Grows.setCell ?_ ?_ _) | (with_reducible refine Vg.Grows.put ?_ ?_ _) | omega | (simp; omega) | (simp; done)))), hd9, H_f2.out, H_f3.out, by (repeat' (first | (with_reducible exact Vg.Grows.refl _) | (with_reducible assumption) | (with_reducible refine Vg.Grows.alloc ?_ _) | (with_reducible refine Vg.Grows.plus ?_ _ _) | (with_reducible refine Vg.Grows.drewN ?_ _) | (with_reducible refine Vg.Grows.drew ?_) | (with_reducible refine Vg.Grows.setCell ?_ ?_ _) | (with_reducible refine Vg.Grows.put ?_ ?_ _) | omega | (simp; omega) | (simp; done)))⟩
      · have hl2 : (n : Int) ≤ line := by omega
        clear hl
        go_wp2_with fail
        go_returns
        exact ⟨wc.heap.size, rfl, hs9, a2, c2, a3, c3, Vg.alloc_heap_at rfl, H_hI.out.grows (by (repeat' (first | (with_reducible exact Vg.Grows.refl _) | (with_reducible assumption) | (with_reducible refine Vg.Grows.alloc ?_ _) | (with_reducible refine Vg.Grows.plus ?_ _ _) | (with_reducible refine Vg.Grows.drewN ?_ _) | (with_reducible refine Vg.Grows.drew ?_) | (with_reducible refine Vg.Grows.setCell ?_ ?_ _) | (with_reducible refine Vg.Grows.put ?_ ?_ _) | omega | (simp; omega) | (simp; done)))), H_hq9.out.grows (by (repeat' (first | (with_reducible exact Vg.Grows.refl _) | (with_reducible assumption) | (with_reducible refine Vg.Grows.alloc ?_ _) | (with_reducible refine Vg.Grows.plus ?_ _ _) | (with_reducible refine Vg.Grows.drewN ?_ _) | (with_reducible refine Vg.Grows.drew ?_) | (with_reducible refine Vg.Grows.setCell ?_ ?_ _) | (with_reducible refine Vg.Grows.put ?_ ?_ _) | omega | (simp; omega) | (simp; done)))), hd9, H_f2.out, H_f3.out, by (repeat' (first | (with_reducible exact Vg.Grows.refl _) | (with_reducible assumption) | (with_reducible refine Vg.Grows.alloc ?_ _) | (with_reducible refine Vg.Grows.plus ?_ _ _) | (with_reducible refine Vg.Grows.drewN ?_ _) | (with_reducible refine Vg.Grows.drew ?_) | (with_reducible refine Vg.Grows.setCell ?_ ?_ _) | (with_reducible refine Vg.Grows.put ?_ ?_ _) | omega | (simp; omega) | (simp; done)))⟩
end
end Go.Proofs.YtekjnagojphmkaaDoor
