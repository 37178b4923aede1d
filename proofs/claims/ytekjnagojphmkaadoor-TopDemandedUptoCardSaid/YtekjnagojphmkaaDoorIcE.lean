/- Package intc: the next line. -/
import Derived.Test.YtekjnagojphmkaaDoorIcD
import Derived.Test.YtekjnagojphmkaaDoorInR
set_option linter.unusedSimpArgs false
set_option linter.unusedVariables false
set_option maxHeartbeats 8000000
set_option maxRecDepth 100000
namespace Go.Proofs.YtekjnagojphmkaaDoor
open Go.ChangeShapes Go.WideShapes Go.ChangeAt Go.RowKit Go.Shelf
attribute [local go_sem] Oper.semAt_some
section
variable {w w' : World} {c : Vg.Ic} {n m ed pc sc pe en g : Nat} {pa sa : Option Addr} {L : List Int}
theorem next_in (hb : Vg.blk w g = some (dkO pe en ed pa n pc sa m sc)) (h : IS w c n m pa pc sa sc) (hpe : c.pe = pe) (hen : c.en = en) (hT : Vg.Tab w) {x : Int} {is : Bool} (hx : c.nx = x) (his : decide (x ≠ 64) = is) :
    CallsIn Fence.wide 4 Tryd.prog 71 #[.pointer (some ⟨g, 0, none⟩)] w fun e w' => e = .returned (.tuple #[.int .i64 x, .bool is]) ∧ Below w.heap.size w w' := by
  have hro : Fence.wide.round = none := rfl
  have hn1 : 1 ≤ 4 := by omega
  obtain ⟨q1, q2, q3, q4⟩ := h.caps
  have hgl := Vg.lt_of hb
  have h0l : 0 < w.heap.size := World.block_lt_of_cell? w _ (hT 0 (by decide))
  obtain ⟨lv, hlv⟩ : ∃ l, c.lvl = l := ⟨_, rfl⟩
  obtain ⟨ab, hab⟩ : ∃ b, Vg.orB c.st 0 = b := ⟨_, rfl⟩
  have hab64 : ab < 18446744073709551616 := by rw [← hab]; exact h.ok.act64
  have hpe64 : pe < 18446744073709551616 := by rw [← hpe]; exact h.ok.pe64
  have hen64 : en < 18446744073709551616 := by rw [← hen]; exact h.ok.en64
  obtain ⟨cb, hcb⟩ : ∃ b, c.cand = b := ⟨_, rfl⟩
  have hcb64 : cb < 18446744073709551616 := by rw [← hcb]; exact h.ok.cand64
  have e1 : bits .and .u64 (pe : Int) (en : Int) = ((pe &&& en : Nat) : Int) := u64_and_nat _ _ hpe64 hen64
  have hpn : pe &&& en < 18446744073709551616 := Nat.lt_of_le_of_lt Nat.and_le_left hpe64
  have e2 : bits .andNot .u64 ((pe &&& en : Nat) : Int) (ab : Int) = (cb : Int) := by
    have := u64_andNot_nat (pe &&& en) ab hpn hab64
    rw [this, ← hcb, ← hab, ← hpe, ← hen]
    rfl
  obtain ⟨pn, hpnn⟩ : ∃ p, pe &&& en = p := ⟨_, rfl⟩
  rw [hpnn] at e1 e2
  clear hpn
  have c_hb := Vg.cells_of hb; have f_hb := Vg.frozen_of hb; have p_hb := Vg.setCell_of hb; have l_hb := Vg.lt_of hb; have H_hb := Lib.hid hb; clear hb
  have H_h := Lib.hid h; clear h; have H_hT := Lib.hid hT; clear hT; have H_hpe := Lib.hid hpe; clear hpe; have H_hen := Lib.hid hen; clear hen; have H_hx := Lib.hid hx; clear hx; have H_his := Lib.hid his; clear his; have H_hlv := Lib.hid hlv; clear hlv; have H_hab := Lib.hid hab; clear hab; have H_hab64 := Lib.hid hab64; clear hab64; have H_hpe64 := Lib.hid hpe64; clear hpe64; have H_hen64 := Lib.hid hen64; clear hen64; have H_hcb := Lib.hid hcb; clear hcb; have H_hcb64 := Lib.hid hcb64; clear hcb64; have H_hpnn := Lib.hid hpnn; clear hpnn
  have hmx : Tryd.prog.follows .mixedOrders = true := by kernel_rfl
  refine callsIn_of_wp_marks Tryd.func71 rfl trivial ?_ rfl
  simp only [Tryd.ntmps71, List.size_toArray, List.length_cons, List.length_nil, Nat.reduceAdd, Nat.reduceSub, Array.replicate_succ, Array.replicate_zero, List.push_toArray, List.append_toArray, List.nil_append, List.cons_append]
  gi_wp2_with (first | (refine ⟨trivial, ?_⟩; gi_at_call 89; refine (callsIn_wide.2 (ic_level (w := w.alloc (.cells #[.pointer (some ⟨g, 0, none⟩)] 149)) (((Vg.Grows.refl w).alloc _).blk H_hb.out) (H_h.out.grows (by (repeat' (first | (with_reducible exact Vg.Grows.refl _) | (with_reducible assumption) | (with_reducible refine Vg.Grows.alloc ?_ _) | (with_reducible refine Vg.Grows.plus ?_ _ _) | (with_reducible refine Vg.Grows.drewN ?_ _) | (with_reducible refine Vg.Grows.drew ?_) | (with_reducible refine Vg.Grows.setCell ?_ ?_ _) | (with_reducible refine Vg.Grows.put ?_ ?_ _) | omega | (simp; omega) | (simp; done))))) H_hlv.out)).mono ?_; rintro e w1 ⟨rfl, x1, m1, rfl⟩))
  obtain ⟨W1, hW1, y1, yB, yM, yg, hgw, hs1⟩ : ∃ W1, ((Vg.plus (w.alloc (.cells #[.pointer (some ⟨g, 0, none⟩)] 149)) x1 m1).alloc (.cells #[.int .i64 64] 3)).alloc (.cells #[.int .i64 lv] 3) = W1 ∧ Vg.blk W1 w.heap.size = some (.cells #[.pointer (some ⟨g, 0, none⟩)] 149) ∧ Vg.blk W1 (w.heap.size + 1 + Vg.sz x1) = some (.cells #[.int .i64 64] 3) ∧ Vg.blk W1 (w.heap.size + 1 + Vg.sz x1 + 1) = some (.cells #[.int .i64 lv] 3) ∧ Vg.blk W1 g = some (dkO pe en ed pa n pc sa m sc) ∧ Vg.Grows w W1 ∧ W1.heap.size = w.heap.size + 1 + Vg.sz x1 + 1 + 1 := by
    refine ⟨_, rfl, ?_, ?_, ?_, ?_, by (repeat' (first | (with_reducible exact Vg.Grows.refl _) | (with_reducible assumption) | (with_reducible refine Vg.Grows.alloc ?_ _) | (with_reducible refine Vg.Grows.plus ?_ _ _) | (with_reducible refine Vg.Grows.drewN ?_ _) | (with_reducible refine Vg.Grows.drew ?_) | (with_reducible refine Vg.Grows.setCell ?_ ?_ _) | (with_reducible refine Vg.Grows.put ?_ ?_ _) | omega | (simp; omega) | (simp; done))), ?_⟩
    · exact Vg.Grows.blk (w0 := w.alloc _) (by (repeat' (first | (with_reducible exact Vg.Grows.refl _) | (with_reducible assumption) | (with_reducible refine Vg.Grows.alloc ?_ _) | (with_reducible refine Vg.Grows.plus ?_ _ _) | (with_reducible refine Vg.Grows.drewN ?_ _) | (with_reducible refine Vg.Grows.drew ?_) | (with_reducible refine Vg.Grows.setCell ?_ ?_ _) | (with_reducible refine Vg.Grows.put ?_ ?_ _) | omega | (simp; omega) | (simp; done)))) (Vg.alloc_heap_at rfl)
    · exact Vg.Grows.blk (w0 := (Vg.plus (w.alloc _) x1 m1).alloc _) (by (repeat' (first | (with_reducible exact Vg.Grows.refl _) | (with_reducible assumption) | (with_reducible refine Vg.Grows.alloc ?_ _) | (with_reducible refine Vg.Grows.plus ?_ _ _) | (with_reducible refine Vg.Grows.drewN ?_ _) | (with_reducible refine Vg.Grows.drew ?_) | (with_reducible refine Vg.Grows.setCell ?_ ?_ _) | (with_reducible refine Vg.Grows.put ?_ ?_ _) | omega | (simp; omega) | (simp; done)))) (Vg.alloc_heap_at (by simp [Vg.plus_size]))
    · exact Vg.alloc_heap_at (by simp [Vg.plus_size])
    · exact Vg.Grows.blk (w0 := w) (by (repeat' (first | (with_reducible exact Vg.Grows.refl _) | (with_reducible assumption) | (with_reducible refine Vg.Grows.alloc ?_ _) | (with_reducible refine Vg.Grows.plus ?_ _ _) | (with_reducible refine Vg.Grows.drewN ?_ _) | (with_reducible refine Vg.Grows.drew ?_) | (with_reducible refine Vg.Grows.setCell ?_ ?_ _) | (with_reducible refine Vg.Grows.put ?_ ?_ _) | omega | (simp; omega) | (simp; done)))) H_hb.out
    · simp [Vg.plus_size]
  rw [hW1]
  clear hW1
  obtain ⟨bB, hbB⟩ : ∃ b, w.heap.size + 1 + Vg.sz x1 = b := ⟨_, rfl⟩
  rw [hbB] at yB yM hs1 ⊢
  have hbB1 : w.heap.size + 1 ≤ bB := by omega
  have eM : w.heap.size + 1 + 1 + Vg.sz x1 = bB + 1 := by omega
  rw [eM]
  clear c_hb f_hb p_hb
  clear l_hb
  have c_y1 := Vg.cells_of y1; have f_y1 := Vg.frozen_of y1; have p_y1 := Vg.setCell_of y1; have l_y1 := Vg.lt_of y1; have H_y1 := Lib.hid y1; clear y1; have c_yB := Vg.cells_of yB; have f_yB := Vg.frozen_of yB; have p_yB := Vg.setCell_of yB; have l_yB := Vg.lt_of yB; have H_yB := Lib.hid yB; clear yB; have c_yM := Vg.cells_of yM; have f_yM := Vg.frozen_of yM; have p_yM := Vg.setCell_of yM; have l_yM := Vg.lt_of yM; have H_yM := Lib.hid yM; clear yM; have c_yg := Vg.cells_of yg; have f_yg := Vg.frozen_of yg; have p_yg := Vg.setCell_of yg; have l_yg := Vg.lt_of yg; have H_yg := Lib.hid yg; clear yg
  have H_hbB := Lib.hid hbB; clear hbB; have H_hs1 := Lib.hid hs1; clear hs1; have H_eM := Lib.hid eM; clear eM
  rename_i K1 h1 K0 h0
  refine wpIn_wide.2 ?_
  refine Code.wp_mono (Q := fun e a w => match e with
    | .normal => K0 a w
    | _ => False) (fun e a w h => by cases e <;> first | exact h | exact h.elim) ?_
  refine wp_region_held_drew (S := fun w' => w.heap.size < w'.heap.size ∧ g < w'.heap.size ∧ w'.cell? ⟨w.heap.size, 0, none⟩ = some (.pointer (some ⟨g, 0, none⟩)) ∧ w'.cell? ⟨g, 0, none⟩ = some (.int .u64 pe) ∧ w'.cell? ⟨g, 1, none⟩ = some (.int .u64 en)) (by kernel_rfl) (by go_split_ands <;> (try dsimp only) <;> go_simp) (fun hHeld => ?_)
  refine wpAnyH_take (i := 0) (oi := _) (v := ?v32) rfl (by kernel_rfl) (by kernel_rfl) (by kernel_rfl) (fun _ _ _ h => h) (Or.inl ⟨by rfl, ?hy32⟩) (by assumption) ?rest32
  case hy32 => (intro w hSw; (try dsimp only at hSw); go_simp; first | done | with_reducible rfl)
  (try simp only [List.getElem_toArray, List.getElem_cons_succ, List.getElem_cons_zero, Act.put, List.setIfInBounds_toArray, List.set_cons_zero, List.set_cons_succ])
  refine wpAnyH_take (i := 1) (oi := _) (v := ?v33) rfl (by kernel_rfl) (by kernel_rfl) (by kernel_rfl) (fun _ _ _ h => h) (Or.inl ⟨by rfl, ?hy33⟩) (by assumption) ?rest33
  case hy33 => (intro w hSw; (try dsimp only at hSw); go_simp; first | done | with_reducible rfl)
  (try simp only [List.getElem_toArray, List.getElem_cons_succ, List.getElem_cons_zero, Act.put, List.setIfInBounds_toArray, List.set_cons_zero, List.set_cons_succ])
  refine wpAnyH_take (i := 2) (oi := _) (v := ?v34) rfl (by kernel_rfl) (by kernel_rfl) (by kernel_rfl) (fun _ _ _ h => h) (Or.inl ⟨by rfl, ?hy34⟩) (by assumption) ?rest34
  case hy34 => (intro w hSw; (try dsimp only at hSw); go_simp; first | done | with_reducible rfl)
  (try simp only [List.getElem_toArray, List.getElem_cons_succ, List.getElem_cons_zero, Act.put, List.setIfInBounds_toArray, List.set_cons_zero, List.set_cons_succ])
  refine wpAnyH_take (i := 3) (oi := _) (v := ?v35) rfl (by kernel_rfl) (by kernel_rfl) (by kernel_rfl) (fun _ _ _ h => h) (Or.inl ⟨by rfl, ?hy35⟩) (by assumption) ?rest35
  case hy35 => (intro w hSw; (try dsimp only at hSw); go_simp; first | done | with_reducible rfl)
  (try simp only [List.getElem_toArray, List.getElem_cons_succ, List.getElem_cons_zero, Act.put, List.setIfInBounds_toArray, List.set_cons_zero, List.set_cons_succ])
  refine wpAnyH_take (i := 4) (oi := _) (v := ?v36) rfl (by kernel_rfl) (by kernel_rfl) (by kernel_rfl) (fun _ _ _ h => h) (Or.inl ⟨by rfl, ?hy36⟩) (by assumption) ?rest36
  case hy36 => (intro w hSw; (try dsimp only at hSw); go_simp; first | done | with_reducible rfl)
  (try simp only [List.getElem_toArray, List.getElem_cons_succ, List.getElem_cons_zero, Act.put, List.setIfInBounds_toArray, List.set_cons_zero, List.set_cons_succ])
  refine wpAnyH_take (i := 5) (oi := _) (v := ?v37) rfl (by kernel_rfl) (by kernel_rfl) (by kernel_rfl) (fun _ _ _ h => h) (Or.inl ⟨by rfl, ?hy37⟩) (by assumption) ?rest37
  case hy37 => (intro w hSw; (try dsimp only at hSw); go_simp; first | done | with_reducible rfl)
  (try simp only [List.getElem_toArray, List.getElem_cons_succ, List.getElem_cons_zero, Act.put, List.setIfInBounds_toArray, List.set_cons_zero, List.set_cons_succ])
  refine wpAnyH_take (i := 6) (oi := _) (v := ?v38) rfl (by kernel_rfl) (by kernel_rfl) (by kernel_rfl) (fun _ _ _ h => h) (Or.inl ⟨by rfl, ?hy38⟩) (by assumption) ?rest38
  case hy38 => (intro w hSw; (try dsimp only at hSw); go_simp; first | done | with_reducible rfl)
  (try simp only [List.getElem_toArray, List.getElem_cons_succ, List.getElem_cons_zero, Act.put, List.setIfInBounds_toArray, List.set_cons_zero, List.set_cons_succ])
  refine wpAnyH_take (i := 7) (oi := _) (v := ?v39) rfl (by kernel_rfl) (by kernel_rfl) (by kernel_rfl) (fun _ _ _ h => h) (Or.inl ⟨by rfl, ?hy39⟩) (by assumption) ?rest39
  case hy39 => (intro w hSw; (try dsimp only at hSw); go_simp; first | done | with_reducible rfl)
  (try simp only [List.getElem_toArray, List.getElem_cons_succ, List.getElem_cons_zero, Act.put, List.setIfInBounds_toArray, List.set_cons_zero, List.set_cons_succ])
  refine wpAnyH_take (i := 8) (oi := _) (v := ?v40) rfl (by kernel_rfl) (by kernel_rfl) (by kernel_rfl) (fun _ _ _ h => h) (Or.inl ⟨by rfl, ?hy40⟩) (by assumption) ?rest40
  case hy40 => (intro w hSw; (try dsimp only at hSw); go_simp; first | done | with_reducible rfl)
  (try simp only [List.getElem_toArray, List.getElem_cons_succ, List.getElem_cons_zero, Act.put, List.setIfInBounds_toArray, List.set_cons_zero, List.set_cons_succ])
  refine wpAnyH_take (i := 9) (oi := _) (v := ?v41) rfl (by kernel_rfl) (by kernel_rfl) (by kernel_rfl) (fun _ _ _ h => h) (Or.inl ⟨by rfl, ?hy41⟩) (by assumption) ?rest41
  case hy41 => (intro w hSw; (try dsimp only at hSw); go_simp; first | done | with_reducible rfl)
  (try simp only [List.getElem_toArray, List.getElem_cons_succ, List.getElem_cons_zero, Act.put, List.setIfInBounds_toArray, List.set_cons_zero, List.set_cons_succ])
  refine wpAnyH_take (i := 10) (oi := _) (v := ?v42) rfl (by kernel_rfl) (by kernel_rfl) (by kernel_rfl) (fun _ _ _ h => h) (Or.inl ⟨by rfl, ?hy42⟩) (by assumption) ?rest42
  case hy42 => (intro w hSw; (try dsimp only at hSw); go_simp; first | done | with_reducible rfl)
  (try simp only [List.getElem_toArray, List.getElem_cons_succ, List.getElem_cons_zero, Act.put, List.setIfInBounds_toArray, List.set_cons_zero, List.set_cons_succ])
  refine wpAnyH_take (i := 11) (oi := _) (v := ?v43) rfl (by kernel_rfl) (by kernel_rfl) (by kernel_rfl) (fun _ _ _ h => h) (Or.inl ⟨by rfl, ?hy43⟩) (by assumption) ?rest43
  case hy43 => (intro w hSw; (try dsimp only at hSw); go_simp; first | done | with_reducible rfl)
  (try simp only [List.getElem_toArray, List.getElem_cons_succ, List.getElem_cons_zero, Act.put, List.setIfInBounds_toArray, List.set_cons_zero, List.set_cons_succ])
  refine wpAnyH_ready (rs := [12]) (by kernel_rfl) (by simp) ?_
  refine AllReadyH.cons (o := _) rfl (fun K hK => ?st44) ?mo44
  case st44 =>
    go_simp
    ((go_at_call 66; (with_reducible refine (ic_active (Vg.Grows.blk (w0 := W1) (by (repeat' (first | (with_reducible exact Vg.Grows.refl _) | (with_reducible assumption) | (with_reducible refine Vg.Grows.alloc ?_ _) | (with_reducible refine Vg.Grows.plus ?_ _ _) | (with_reducible refine Vg.Grows.drewN ?_ _) | (with_reducible refine Vg.Grows.drew ?_) | (with_reducible refine Vg.Grows.setCell ?_ ?_ _) | (with_reducible refine Vg.Grows.put ?_ ?_ _) | omega | (simp; omega) | (simp; done)))) H_yg.out) (H_h.out.grows (by (repeat' (first | (with_reducible exact Vg.Grows.refl _) | (with_reducible assumption) | (with_reducible refine Vg.Grows.alloc ?_ _) | (with_reducible refine Vg.Grows.plus ?_ _ _) | (with_reducible refine Vg.Grows.drewN ?_ _) | (with_reducible refine Vg.Grows.drew ?_) | (with_reducible refine Vg.Grows.setCell ?_ ?_ _) | (with_reducible refine Vg.Grows.put ?_ ?_ _) | omega | (simp; omega) | (simp; done))))) H_hab.out).mono ?_); rintro e w2 ⟨rfl, rfl⟩))
    all_goals (try go_wp2_with fail)
    refine hK.out _ _ (by go_split_ands <;> (try dsimp only) <;> go_simp) (fun hHeld44 => ?_)
    clear hK K
    (try simp only [List.getElem_toArray, List.getElem_cons_succ, List.getElem_cons_zero, Act.put, List.setIfInBounds_toArray, List.set_cons_zero, List.set_cons_succ])
    refine wpAnyH_take (i := 13) (oi := _) (v := ?v45) rfl (by kernel_rfl) (by kernel_rfl) (by kernel_rfl) (fun _ _ _ h => h) (Or.inl ⟨by rfl, ?hy45⟩) (by assumption) ?rest45
    case hy45 => (intro w hSw; (try dsimp only at hSw); go_simp; first | done | with_reducible rfl)
    (try simp only [List.getElem_toArray, List.getElem_cons_succ, List.getElem_cons_zero, Act.put, List.setIfInBounds_toArray, List.set_cons_zero, List.set_cons_succ])
    refine wpAnyH_ready (rs := [14]) (by kernel_rfl) (by simp) ?_
    refine AllReadyH.cons (o := _) rfl (fun K hK => ?st46) ?mo46
    case st46 =>
      go_simp
      ((go_at_call 31; (with_reducible refine (bits_each cb _).mono ?_); rintro e w3 ⟨rfl, rfl⟩))
      all_goals (try go_wp2_with fail)
      refine hK.out _ _ (by go_split_ands <;> (try dsimp only) <;> go_simp) (fun hHeld46 => ?_)
      clear hK K
      (try simp only [List.getElem_toArray, List.getElem_cons_succ, List.getElem_cons_zero, Act.put, List.setIfInBounds_toArray, List.set_cons_zero, List.set_cons_succ])
      refine wpAnyH_done (by kernel_rfl) ?_ _
      refine h0 _ _ ?_
      gi_wp2
      have hB0 : Below w.heap.size w (W1.alloc (u64C cb)).drew := Below.drew (hgw.below.alloc (by rw [H_hs1.out]; omega) _)
      refine wpIn_rangeFunc_ownG hro hn1 (gf := 67) (lb := #[.pointer (some ⟨W1.heap.size, 0, none⟩)]) rfl trivial (enters_of Tryd.func67 (by kernel_rfl) rfl)
        (each_stops (4 - 1) (by omega) (fun k => k = 0 ∨ k = W1.heap.size) W1.heap.size cb H_hcb64.out _ (.inl rfl) (.inr rfl)
          (by rintro k (rfl | rfl) <;> (simp; try omega))
          (((Vg.Grows.refl (W1.alloc (u64C cb))).drew).blk (Vg.alloc_heap_at rfl)) (H_hT.out.grows (by (repeat' (first | (with_reducible exact Vg.Grows.refl _) | (with_reducible assumption) | (with_reducible refine Vg.Grows.alloc ?_ _) | (with_reducible refine Vg.Grows.plus ?_ _ _) | (with_reducible refine Vg.Grows.drewN ?_ _) | (with_reducible refine Vg.Grows.drew ?_) | (with_reducible refine Vg.Grows.setCell ?_ ?_ _) | (with_reducible refine Vg.Grows.put ?_ ?_ _) | omega | (simp; omega) | (simp; done)))))) Vg.Kept.trans
        (Vg.Kept.putObj (by rintro k (rfl | rfl) <;> (simp; try omega))) (Below.refl _ _) (fun _ => rfl)
        (fun pre W => Boxed W w.heap.size 149 (.pointer (some ⟨g, 0, none⟩)) ∧ (Boxed W bB 3 (.int .i64 (c.pick (pre.map (·.1)) (64, lv)).1) ∧ (Boxed W (bB + 1) 3 (.int .i64 (c.pick (pre.map (·.1)) (64, lv)).2) ∧ (W1.heap.size + 1 ≤ W.heap.size ∧ Below w.heap.size w W))))
        (fun _ _ _ => False)
        (OwnFrom.and (Own.from (boxed_own _ _ _) _) (OwnFrom.and (Own.from (boxed_own _ _ _) _) (OwnFrom.and (Own.from (boxed_own _ _ _) _) (OwnFrom.and (Vg.ownFrom_size _ _) (ownFrom_below (Nat.le_refl _) (by simp; omega))))))
        (fun _ _ _ _ _ hs _ _ => hs)
        ⟨?i1, ?i2, ?i3, by simp, hB0⟩ ?a1 ?assign ?body ?done ?stop
      case assign =>
        intro l x W K hK
        gi_wp2
        exact hK
      case i1 => exact (((Vg.Grows.refl W1).alloc _).drew).blk H_y1.out
      case i2 => exact (((Vg.Grows.refl W1).alloc _).drew).blk H_yB.out
      case i3 => exact (((Vg.Grows.refl W1).alloc _).drew).blk H_yM.out
      case body =>
        rintro l pre ⟨k, hkb⟩ W ⟨hu, hv, hz, hsz, hB⟩ hlt
        have hcu := hu.cell
        have hcv := hv.cell
        have hcz := hz.cell
        have hfv := hv.frozen
        have hfz := hz.frozen
        have hkn : k < n := by
          have := hkb
          rw [← H_hcb.out, H_h.out.ok.cand_tb] at this
          simp only [Bool.and_eq_true] at this
          exact Vg.lt_of_tb H_h.out.ok.pe this.1.1
        have yw : Vg.blk W g = some (dkO pe en ed pa n pc sa m sc) := (hB.block g hgl).trans H_hb.out
        obtain ⟨gp, offp, hpa, hg2, hc2⟩ := H_h.out.pcell k hkn
        subst hpa
        have hc2 := (hB.cell (p := ⟨gp, offp + k, none⟩) hg2).trans hc2
        have hsW := hB.size
        have hpk := Vg.Ic.pick_snoc c (pre.map (·.1)) k (64, lv)
        obtain ⟨⟨pb, pm⟩, hpm⟩ : ∃ p, c.pick (pre.map (·.1)) (64, lv) = p := ⟨_, rfl⟩
        obtain ⟨pr, hpr⟩ : ∃ pr, c.prio k = pr := ⟨_, rfl⟩
        rw [hpm] at hcv hcz hpk hv hz
        rw [hpr] at hpk hc2
        have hpk : c.pick (List.map (fun x : Vg.Bit cb => x.1) (pre ++ [(⟨k, hkb⟩ : Vg.Bit cb)])) (64, lv) = if pm < pr then ((k : Int), pr) else (pb, pm) := by rw [List.map_append]; exact hpk
        have hk0 : (0 : Int) ≤ k := by omega
        have hk1 : (k : Int) < n := by omega
        clear c_y1 f_y1 p_y1 c_yB f_yB p_yB c_yM f_yM p_yM c_yg f_yg p_yg
        clear l_y1 l_yB l_yM l_yg
        have c_yw := Vg.cells_of yw; have f_yw := Vg.frozen_of yw; have p_yw := Vg.setCell_of yw; have l_yw := Vg.lt_of yw; have H_yw := Lib.hid yw; clear yw
        have hu9 := hu
        have hv9 := hv
        have hz9 := hz
        have HB := Lib.hid hB
        have HU := Lib.hid hu
        have HV := Lib.hid hv
        have HZ := Lib.hid hz
        clear hB hu hv hz
        have lu := hu9.lt
        have lv' := hv9.lt
        have lz := hz9.lt
        have lgp : gp < W.heap.size := by omega
        have nB1 : w.heap.size ≠ bB := by omega
        have nB2 : w.heap.size ≠ bB + 1 := by omega
        have nB3 : g ≠ bB := by omega
        have nB4 : g ≠ bB + 1 := by omega
        have nB5 : gp ≠ bB := by omega
        have nB6 : gp ≠ bB + 1 := by omega
        have nB7 : bB ≠ bB + 1 := by omega
        by_cases hc : pm < pr
        · rw [if_pos hc] at hpk
          have H_hpk := Lib.hid hpk; clear hpk; have H_hpm := Lib.hid hpm; clear hpm; have H_hpr := Lib.hid hpr; clear hpr
          gi_wp2
          rename_i K4 a4
          refine Vg.wpIn_region_held_drew (S := fun w' => w.heap.size < w'.heap.size ∧ bB + 1 < w'.heap.size ∧ g < w'.heap.size ∧ gp < w'.heap.size ∧ w'.cell? ⟨w.heap.size, 0, none⟩ = some (.pointer (some ⟨g, 0, none⟩)) ∧ w'.cell? ⟨g, 4, none⟩ = some (.slice (some ⟨gp, offp, none⟩) n pc) ∧ w'.cell? ⟨gp, offp + k, none⟩ = some (.int .i64 pr) ∧ w'.cell? ⟨bB + 1, 0, none⟩ = some (.int .i64 pm)) (by kernel_rfl) (Vg.noDefer_of (by kernel_rfl)) _ (fun _ _ h => h) (by go_split_ands <;> (try dsimp only) <;> go_simp) (fun hHeld => ?_)
          refine wpAnyH_take (i := 0) (oi := _) (v := ?v12) rfl (by kernel_rfl) (by kernel_rfl) (by kernel_rfl) (fun _ _ _ h => h) (Or.inl ⟨by rfl, ?hy12⟩) (by assumption) ?rest12
          case hy12 => (intro w hSw; (try dsimp only at hSw); go_simp; first | done | with_reducible rfl)
          (try simp only [List.getElem_toArray, List.getElem_cons_succ, List.getElem_cons_zero, Act.put, List.setIfInBounds_toArray, List.set_cons_zero, List.set_cons_succ])
          refine wpAnyH_take (i := 1) (oi := _) (v := ?v13) rfl (by kernel_rfl) (by kernel_rfl) (by kernel_rfl) (fun _ _ _ h => h) (Or.inl ⟨by rfl, ?hy13⟩) (by assumption) ?rest13
          case hy13 => (intro w hSw; (try dsimp only at hSw); go_simp; first | done | with_reducible rfl)
          (try simp only [List.getElem_toArray, List.getElem_cons_succ, List.getElem_cons_zero, Act.put, List.setIfInBounds_toArray, List.set_cons_zero, List.set_cons_succ])
          refine wpAnyH_take (i := 2) (oi := _) (v := ?v14) rfl (by kernel_rfl) (by kernel_rfl) (by kernel_rfl) (fun _ _ _ h => h) (Or.inl ⟨by rfl, ?hy14⟩) (by assumption) ?rest14
          case hy14 => (intro w hSw; (try dsimp only at hSw); go_simp; first | done | with_reducible rfl)
          (try simp only [List.getElem_toArray, List.getElem_cons_succ, List.getElem_cons_zero, Act.put, List.setIfInBounds_toArray, List.set_cons_zero, List.set_cons_succ])
          refine wpAnyH_take (i := 3) (oi := _) (v := ?v15) rfl (by kernel_rfl) (by kernel_rfl) (by kernel_rfl) (fun _ _ _ h => h) (Or.inl ⟨by rfl, ?hy15⟩) (by assumption) ?rest15
          case hy15 => (intro w hSw; (try dsimp only at hSw); go_simp; first | done | with_reducible rfl)
          (try simp only [List.getElem_toArray, List.getElem_cons_succ, List.getElem_cons_zero, Act.put, List.setIfInBounds_toArray, List.set_cons_zero, List.set_cons_succ])
          refine wpAnyH_take (i := 4) (oi := _) (v := ?v16) rfl (by kernel_rfl) (by kernel_rfl) (by kernel_rfl) (fun _ _ _ h => h) (Or.inl ⟨by rfl, ?hy16⟩) (by assumption) ?rest16
          case hy16 => (intro w hSw; (try dsimp only at hSw); go_simp; first | done | with_reducible rfl)
          (try simp only [List.getElem_toArray, List.getElem_cons_succ, List.getElem_cons_zero, Act.put, List.setIfInBounds_toArray, List.set_cons_zero, List.set_cons_succ])
          refine wpAnyH_take (i := 5) (oi := _) (v := ?v17) rfl (by kernel_rfl) (by kernel_rfl) (by kernel_rfl) (fun _ _ _ h => h) (Or.inl ⟨by rfl, ?hy17⟩) (by assumption) ?rest17
          case hy17 => (intro w hSw; (try dsimp only at hSw); go_simp; first | done | with_reducible rfl)
          (try simp only [List.getElem_toArray, List.getElem_cons_succ, List.getElem_cons_zero, Act.put, List.setIfInBounds_toArray, List.set_cons_zero, List.set_cons_succ])
          refine wpAnyH_take (i := 6) (oi := _) (v := ?v18) rfl (by kernel_rfl) (by kernel_rfl) (by kernel_rfl) (fun _ _ _ h => h) (Or.inl ⟨by rfl, ?hy18⟩) (by assumption) ?rest18
          case hy18 => (intro w hSw; (try dsimp only at hSw); go_simp; first | done | with_reducible rfl)
          (try simp only [List.getElem_toArray, List.getElem_cons_succ, List.getElem_cons_zero, Act.put, List.setIfInBounds_toArray, List.set_cons_zero, List.set_cons_succ])
          refine wpAnyH_take (i := 7) (oi := _) (v := ?v19) rfl (by kernel_rfl) (by kernel_rfl) (by kernel_rfl) (fun _ _ _ h => h) (Or.inl ⟨by rfl, ?hy19⟩) (by assumption) ?rest19
          case hy19 => (intro w hSw; (try dsimp only at hSw); go_simp; first | done | with_reducible rfl)
          (try simp only [List.getElem_toArray, List.getElem_cons_succ, List.getElem_cons_zero, Act.put, List.setIfInBounds_toArray, List.set_cons_zero, List.set_cons_succ])
          refine wpAnyH_take (i := 8) (oi := _) (v := ?v20) rfl (by kernel_rfl) (by kernel_rfl) (by kernel_rfl) (fun _ _ _ h => h) (Or.inl ⟨by rfl, ?hy20⟩) (by assumption) ?rest20
          case hy20 => (intro w hSw; (try dsimp only at hSw); go_simp; first | done | with_reducible rfl)
          (try simp only [List.getElem_toArray, List.getElem_cons_succ, List.getElem_cons_zero, Act.put, List.setIfInBounds_toArray, List.set_cons_zero, List.set_cons_succ])
          refine wpAnyH_take (i := 9) (oi := _) (v := ?v21) rfl (by kernel_rfl) (by kernel_rfl) (by kernel_rfl) (fun _ _ _ h => h) (Or.inl ⟨by rfl, ?hy21⟩) (by assumption) ?rest21
          case hy21 => (intro w hSw; (try dsimp only at hSw); go_simp; first | done | with_reducible rfl)
          (try simp only [List.getElem_toArray, List.getElem_cons_succ, List.getElem_cons_zero, Act.put, List.setIfInBounds_toArray, List.set_cons_zero, List.set_cons_succ])
          refine wpAnyH_done (by kernel_rfl) ?_ _
          refine a4 _ _ ?_
          gi_wp2
          refine Vg.wpIn_region_held_drew (S := fun w' => w.heap.size < w'.heap.size ∧ bB < w'.heap.size ∧ bB + 1 < w'.heap.size ∧ g < w'.heap.size ∧ gp < w'.heap.size ∧ w'.cell? ⟨w.heap.size, 0, none⟩ = some (.pointer (some ⟨g, 0, none⟩)) ∧ w'.cell? ⟨g, 4, none⟩ = some (.slice (some ⟨gp, offp, none⟩) n pc) ∧ w'.cell? ⟨gp, offp + k, none⟩ = some (.int .i64 pr)) (by kernel_rfl) (Vg.noDefer_of (by kernel_rfl)) _ (fun _ _ h => h) (by go_split_ands <;> (try dsimp only) <;> go_simp) (fun hHeld => ?_)
          refine wpAnyH_take (i := 0) (oi := _) (v := ?v1) rfl (by kernel_rfl) (by kernel_rfl) (by kernel_rfl) (fun _ _ _ h => h) (Or.inl ⟨by rfl, ?hy1⟩) (by assumption) ?rest1
          case hy1 => (intro w hSw; (try dsimp only at hSw); go_simp; first | done | with_reducible rfl)
          (try simp only [List.getElem_toArray, List.getElem_cons_succ, List.getElem_cons_zero, Act.put, List.setIfInBounds_toArray, List.set_cons_zero, List.set_cons_succ])
          refine wpAnyH_take (i := 1) (oi := _) (v := ?v2) rfl (by kernel_rfl) (by kernel_rfl) (by kernel_rfl) (fun _ _ _ h => h) (Or.inl ⟨by rfl, ?hy2⟩) (by assumption) ?rest2
          case hy2 => (intro w hSw; (try dsimp only at hSw); go_simp; first | done | with_reducible rfl)
          (try simp only [List.getElem_toArray, List.getElem_cons_succ, List.getElem_cons_zero, Act.put, List.setIfInBounds_toArray, List.set_cons_zero, List.set_cons_succ])
          refine wpAnyH_take (i := 2) (oi := _) (v := ?v3) rfl (by kernel_rfl) (by kernel_rfl) (by kernel_rfl) (fun _ _ _ h => h) (Or.inl ⟨by rfl, ?hy3⟩) (by assumption) ?rest3
          case hy3 => (intro w hSw; (try dsimp only at hSw); go_simp; first | done | with_reducible rfl)
          (try simp only [List.getElem_toArray, List.getElem_cons_succ, List.getElem_cons_zero, Act.put, List.setIfInBounds_toArray, List.set_cons_zero, List.set_cons_succ])
          refine wpAnyH_take (i := 3) (oi := _) (v := ?v4) rfl (by kernel_rfl) (by kernel_rfl) (by kernel_rfl) (fun _ _ _ h => h) (Or.inl ⟨by rfl, ?hy4⟩) (by assumption) ?rest4
          case hy4 => (intro w hSw; (try dsimp only at hSw); go_simp; first | done | with_reducible rfl)
          (try simp only [List.getElem_toArray, List.getElem_cons_succ, List.getElem_cons_zero, Act.put, List.setIfInBounds_toArray, List.set_cons_zero, List.set_cons_succ])
          refine wpAnyH_take (i := 4) (oi := _) (v := ?v5) rfl (by kernel_rfl) (by kernel_rfl) (by kernel_rfl) (fun _ _ _ h => h) (Or.inl ⟨by rfl, ?hy5⟩) (by assumption) ?rest5
          case hy5 => (intro w hSw; (try dsimp only at hSw); go_simp; first | done | with_reducible rfl)
          (try simp only [List.getElem_toArray, List.getElem_cons_succ, List.getElem_cons_zero, Act.put, List.setIfInBounds_toArray, List.set_cons_zero, List.set_cons_succ])
          refine wpAnyH_take (i := 5) (oi := _) (v := ?v6) rfl (by kernel_rfl) (by kernel_rfl) (by kernel_rfl) (fun _ _ _ h => h) (Or.inl ⟨by rfl, ?hy6⟩) (by assumption) ?rest6
          case hy6 => (intro w hSw; (try dsimp only at hSw); go_simp; first | done | with_reducible rfl)
          (try simp only [List.getElem_toArray, List.getElem_cons_succ, List.getElem_cons_zero, Act.put, List.setIfInBounds_toArray, List.set_cons_zero, List.set_cons_succ])
          refine wpAnyH_take (i := 6) (oi := _) (v := ?v7) rfl (by kernel_rfl) (by kernel_rfl) (by kernel_rfl) (fun _ _ _ h => h) (Or.inl ⟨by rfl, ?hy7⟩) (by assumption) ?rest7
          case hy7 => (intro w hSw; (try dsimp only at hSw); go_simp; first | done | with_reducible rfl)
          (try simp only [List.getElem_toArray, List.getElem_cons_succ, List.getElem_cons_zero, Act.put, List.setIfInBounds_toArray, List.set_cons_zero, List.set_cons_succ])
          refine wpAnyH_take (i := 7) (oi := _) (v := ?v8) rfl (by kernel_rfl) (by kernel_rfl) (by kernel_rfl) (fun _ _ _ h => h) (Or.inl ⟨by rfl, ?hy8⟩) (by assumption) ?rest8
          case hy8 => (intro w hSw; (try dsimp only at hSw); go_simp; first | done | with_reducible rfl)
          (try simp only [List.getElem_toArray, List.getElem_cons_succ, List.getElem_cons_zero, Act.put, List.setIfInBounds_toArray, List.set_cons_zero, List.set_cons_succ])
          refine wpAnyH_take (i := 8) (oi := _) (v := ?v9) rfl (by kernel_rfl) (by kernel_rfl) (by kernel_rfl) (fun _ _ _ h => h) (Or.inl ⟨by rfl, ?hy9⟩) (by assumption) ?rest9
          case hy9 => (intro w hSw; (try dsimp only at hSw); go_simp; first | done | with_reducible rfl)
          (try simp only [List.getElem_toArray, List.getElem_cons_succ, List.getElem_cons_zero, Act.put, List.setIfInBounds_toArray, List.set_cons_zero, List.set_cons_succ])
          refine wpAnyH_ready (rs := [9]) (by kernel_rfl) (by simp) ?_
          refine AllReadyH.cons (o := _) rfl (fun K hK => ?st10) ?mo10
          case st10 =>
            go_simp
            refine hK.out _ _ (by go_split_ands <;> (try dsimp only) <;> go_simp) (fun hHeld10 => ?_)
            clear hK K
            (try simp only [List.getElem_toArray, List.getElem_cons_succ, List.getElem_cons_zero, Act.put, List.setIfInBounds_toArray, List.set_cons_zero, List.set_cons_succ])
            refine wpAnyH_ready (rs := [10]) (by kernel_rfl) (by simp) ?_
            refine AllReadyH.cons (o := _) rfl (fun K hK => ?st11) ?mo11
            case st11 =>
              go_simp
              refine hK.out _ _ (by go_split_ands <;> (try dsimp only) <;> go_simp) (fun hHeld11 => ?_)
              clear hK K
              (try simp only [List.getElem_toArray, List.getElem_cons_succ, List.getElem_cons_zero, Act.put, List.setIfInBounds_toArray, List.set_cons_zero, List.set_cons_succ])
              refine wpAnyH_done (by kernel_rfl) ?_ _
              have f1 : Boxed ((W.setCell ⟨bB, 0, none⟩ (.int .i64 k)).setCell ⟨bB + 1, 0, none⟩ (.int .i64 pr)) w.heap.size 149 (.pointer (some ⟨g, 0, none⟩)) := (HU.out.kept (grownBy_setCell' W bB (.int .i64 k)) (by simp; exact nB1)).kept (grownBy_setCell' (W.setCell ⟨bB, 0, none⟩ (.int .i64 k)) (bB + 1) (.int .i64 pr)) (by simp; exact nB2)
              have f2 : Boxed ((W.setCell ⟨bB, 0, none⟩ (.int .i64 k)).setCell ⟨bB + 1, 0, none⟩ (.int .i64 pr)) bB 3 (.int .i64 k) := (HV.out.set (.int .i64 k)).kept (grownBy_setCell' (W.setCell ⟨bB, 0, none⟩ (.int .i64 k)) (bB + 1) (.int .i64 pr)) (by simp)
              have f3 : Boxed ((W.setCell ⟨bB, 0, none⟩ (.int .i64 k)).setCell ⟨bB + 1, 0, none⟩ (.int .i64 pr)) (bB + 1) 3 (.int .i64 pr) := (HZ.out.kept (grownBy_setCell' W bB (.int .i64 k)) (by simp)).set (.int .i64 pr)
              refine (show KeepsFrom _ W _ ∧ _ ∧ _ from ⟨((((KeepsOthers.setCell _ _ _).trans (KeepsOthers.setCell _ _ _)).trans (KeepsOthers.drew _)).trans (KeepsOthers.drew _)).from _, ⟨by simp, fun z hz => ?_⟩, f1, ?_, ?_, by simp; omega, ?_⟩)
              · have h9 : z ≠ bB ∧ z ≠ bB + 1 := by
                  have := H_hs1.out
                  rcases hz with rfl | rfl <;> omega
                show ((W.setCell _ _).setCell _ _).heap[z]? = _
                rw [Below.heap_setCell _ _ _ z h9.2, Below.heap_setCell _ _ _ z h9.1]
              · rw [H_hpk.out]; exact f2
              · rw [H_hpk.out]; exact f3
              · exact HB.out.trans (Below.drew (Below.drew (((Below.refl _ W).setCell (p := ⟨bB, 0, none⟩) (show w.heap.size ≤ bB by omega) _).setCell (p := ⟨bB + 1, 0, none⟩) (show w.heap.size ≤ bB + 1 by omega) _)))
            exact AllReadyH.nil
          exact AllReadyH.nil
        · rw [if_neg hc] at hpk
          have H_hpk := Lib.hid hpk; clear hpk; have H_hpm := Lib.hid hpm; clear hpm; have H_hpr := Lib.hid hpr; clear hpr
          gi_wp2
          rename_i K4 a4
          refine Vg.wpIn_region_held_drew (S := fun w' => w.heap.size < w'.heap.size ∧ bB + 1 < w'.heap.size ∧ g < w'.heap.size ∧ gp < w'.heap.size ∧ w'.cell? ⟨w.heap.size, 0, none⟩ = some (.pointer (some ⟨g, 0, none⟩)) ∧ w'.cell? ⟨g, 4, none⟩ = some (.slice (some ⟨gp, offp, none⟩) n pc) ∧ w'.cell? ⟨gp, offp + k, none⟩ = some (.int .i64 pr) ∧ w'.cell? ⟨bB + 1, 0, none⟩ = some (.int .i64 pm)) (by kernel_rfl) (Vg.noDefer_of (by kernel_rfl)) _ (fun _ _ h => h) (by go_split_ands <;> (try dsimp only) <;> go_simp) (fun hHeld => ?_)
          refine wpAnyH_take (i := 0) (oi := _) (v := ?v22) rfl (by kernel_rfl) (by kernel_rfl) (by kernel_rfl) (fun _ _ _ h => h) (Or.inl ⟨by rfl, ?hy22⟩) (by assumption) ?rest22
          case hy22 => (intro w hSw; (try dsimp only at hSw); go_simp; first | done | with_reducible rfl)
          (try simp only [List.getElem_toArray, List.getElem_cons_succ, List.getElem_cons_zero, Act.put, List.setIfInBounds_toArray, List.set_cons_zero, List.set_cons_succ])
          refine wpAnyH_take (i := 1) (oi := _) (v := ?v23) rfl (by kernel_rfl) (by kernel_rfl) (by kernel_rfl) (fun _ _ _ h => h) (Or.inl ⟨by rfl, ?hy23⟩) (by assumption) ?rest23
          case hy23 => (intro w hSw; (try dsimp only at hSw); go_simp; first | done | with_reducible rfl)
          (try simp only [List.getElem_toArray, List.getElem_cons_succ, List.getElem_cons_zero, Act.put, List.setIfInBounds_toArray, List.set_cons_zero, List.set_cons_succ])
          refine wpAnyH_take (i := 2) (oi := _) (v := ?v24) rfl (by kernel_rfl) (by kernel_rfl) (by kernel_rfl) (fun _ _ _ h => h) (Or.inl ⟨by rfl, ?hy24⟩) (by assumption) ?rest24
          case hy24 => (intro w hSw; (try dsimp only at hSw); go_simp; first | done | with_reducible rfl)
          (try simp only [List.getElem_toArray, List.getElem_cons_succ, List.getElem_cons_zero, Act.put, List.setIfInBounds_toArray, List.set_cons_zero, List.set_cons_succ])
          refine wpAnyH_take (i := 3) (oi := _) (v := ?v25) rfl (by kernel_rfl) (by kernel_rfl) (by kernel_rfl) (fun _ _ _ h => h) (Or.inl ⟨by rfl, ?hy25⟩) (by assumption) ?rest25
          case hy25 => (intro w hSw; (try dsimp only at hSw); go_simp; first | done | with_reducible rfl)
          (try simp only [List.getElem_toArray, List.getElem_cons_succ, List.getElem_cons_zero, Act.put, List.setIfInBounds_toArray, List.set_cons_zero, List.set_cons_succ])
          refine wpAnyH_take (i := 4) (oi := _) (v := ?v26) rfl (by kernel_rfl) (by kernel_rfl) (by kernel_rfl) (fun _ _ _ h => h) (Or.inl ⟨by rfl, ?hy26⟩) (by assumption) ?rest26
          case hy26 => (intro w hSw; (try dsimp only at hSw); go_simp; first | done | with_reducible rfl)
          (try simp only [List.getElem_toArray, List.getElem_cons_succ, List.getElem_cons_zero, Act.put, List.setIfInBounds_toArray, List.set_cons_zero, List.set_cons_succ])
          refine wpAnyH_take (i := 5) (oi := _) (v := ?v27) rfl (by kernel_rfl) (by kernel_rfl) (by kernel_rfl) (fun _ _ _ h => h) (Or.inl ⟨by rfl, ?hy27⟩) (by assumption) ?rest27
          case hy27 => (intro w hSw; (try dsimp only at hSw); go_simp; first | done | with_reducible rfl)
          (try simp only [List.getElem_toArray, List.getElem_cons_succ, List.getElem_cons_zero, Act.put, List.setIfInBounds_toArray, List.set_cons_zero, List.set_cons_succ])
          refine wpAnyH_take (i := 6) (oi := _) (v := ?v28) rfl (by kernel_rfl) (by kernel_rfl) (by kernel_rfl) (fun _ _ _ h => h) (Or.inl ⟨by rfl, ?hy28⟩) (by assumption) ?rest28
          case hy28 => (intro w hSw; (try dsimp only at hSw); go_simp; first | done | with_reducible rfl)
          (try simp only [List.getElem_toArray, List.getElem_cons_succ, List.getElem_cons_zero, Act.put, List.setIfInBounds_toArray, List.set_cons_zero, List.set_cons_succ])
          refine wpAnyH_take (i := 7) (oi := _) (v := ?v29) rfl (by kernel_rfl) (by kernel_rfl) (by kernel_rfl) (fun _ _ _ h => h) (Or.inl ⟨by rfl, ?hy29⟩) (by assumption) ?rest29
          case hy29 => (intro w hSw; (try dsimp only at hSw); go_simp; first | done | with_reducible rfl)
          (try simp only [List.getElem_toArray, List.getElem_cons_succ, List.getElem_cons_zero, Act.put, List.setIfInBounds_toArray, List.set_cons_zero, List.set_cons_succ])
          refine wpAnyH_take (i := 8) (oi := _) (v := ?v30) rfl (by kernel_rfl) (by kernel_rfl) (by kernel_rfl) (fun _ _ _ h => h) (Or.inl ⟨by rfl, ?hy30⟩) (by assumption) ?rest30
          case hy30 => (intro w hSw; (try dsimp only at hSw); go_simp; first | done | with_reducible rfl)
          (try simp only [List.getElem_toArray, List.getElem_cons_succ, List.getElem_cons_zero, Act.put, List.setIfInBounds_toArray, List.set_cons_zero, List.set_cons_succ])
          refine wpAnyH_take (i := 9) (oi := _) (v := ?v31) rfl (by kernel_rfl) (by kernel_rfl) (by kernel_rfl) (fun _ _ _ h => h) (Or.inl ⟨by rfl, ?hy31⟩) (by assumption) ?rest31
          case hy31 => (intro w hSw; (try dsimp only at hSw); go_simp; first | done | with_reducible rfl)
          (try simp only [List.getElem_toArray, List.getElem_cons_succ, List.getElem_cons_zero, Act.put, List.setIfInBounds_toArray, List.set_cons_zero, List.set_cons_succ])
          refine wpAnyH_done (by kernel_rfl) ?_ _
          refine a4 _ _ ?_
          gi_wp2
          refine (show KeepsFrom _ W _ ∧ _ ∧ _ from ⟨(KeepsOthers.drew _).from _, ⟨by simp, fun z hz => rfl⟩, HU.out, ?_, ?_, by simpa using hsz, HB.out.trans (Below.drew (Below.refl _ W))⟩)
          · rw [H_hpk.out]; exact HV.out
          · rw [H_hpk.out]; exact HZ.out
      case done =>
        rintro D ys W hD rfl ⟨hu, hv, hz, hsz, hB⟩ hK
        rw [Vg.blS_map] at hv hz
        have hnx := H_hx.out
        unfold Vg.Ic.nx at hnx
        rw [H_hcb.out, H_hlv.out] at hnx
        rw [hnx] at hv
        have hc := hv.cell
        have hii := H_his.out
        have hgws := hgw.size
        clear c_y1 f_y1 p_y1 c_yB f_yB p_yB c_yM f_yM p_yM c_yg f_yg p_yg
        clear l_y1 l_yB l_yM l_yg hnx
        by_cases h64 : x = 64
        · have e9 : is = false := by rw [← hii, h64]; rfl
          subst e9 h64
          clear hii
          have H_hu := Lib.hid hu; clear hu; have H_hv := Lib.hid hv; clear hv; have H_hz := Lib.hid hz; clear hz; have H_hB := Lib.hid hB; clear hB
          gi_wp2
          gi_region
          all_goals gi_wp2
          all_goals refine ⟨by simp, .inl ⟨_, _, rfl, run_takeDeferred hK, ?_⟩⟩
          all_goals exact ⟨_, results_tmp2 rfl _ _ _, by simp, (Below.drew H_hB.out).trans (belowK_b (w := w) (Nat.le_refl _) W.drew D _ _ (by simp at hD; omega) hK rfl rfl)⟩
        · have e9 : is = true := by rw [← hii]; simp [h64]
          subst e9
          clear hii
          have H_hu := Lib.hid hu; clear hu; have H_hv := Lib.hid hv; clear hv; have H_hz := Lib.hid hz; clear hz; have H_hB := Lib.hid hB; clear hB
          gi_wp2
          gi_region
          all_goals gi_wp2
          all_goals refine ⟨by simp, .inl ⟨_, _, rfl, run_takeDeferred hK, ?_⟩⟩
          all_goals exact ⟨_, results_tmp2 rfl _ _ _, by simp [h64], (Below.drew H_hB.out).trans (belowK_b (w := w) (Nat.le_refl _) W.drew D _ _ (by simp at hD; omega) hK rfl rfl)⟩
      case stop =>
        rintro D c pre W _ _ h _
        exact h.elim
    exact AllReadyH.nil
  exact AllReadyH.nil
theorem ic_next (hb : Vg.blk w g = some (dkO pe en ed pa n pc sa m sc)) (h : IS w c n m pa pc sa sc) (hpe : c.pe = pe) (hen : c.en = en) (hT : Vg.Tab w) {x : Int} {is : Bool} (hx : c.nx = x) (his : decide (x ≠ 64) = is) :
    Calls Tryd.prog 71 #[.pointer (some ⟨g, 0, none⟩)] w fun e w' => e = .returned (.tuple #[.int .i64 x, .bool is]) ∧ Vg.Grows w w' := by
  refine ((callsIn_wide (n := 4)).1 (next_in hb h hpe hen hT hx his)).mono ?_
  rintro e w' ⟨rfl, hb⟩
  exact ⟨rfl, Vg.Grows.of_below hb⟩
end
end Go.Proofs.YtekjnagojphmkaaDoor
