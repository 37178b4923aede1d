/- Package irq: Run. -/
import Derived.Test.YtekjnagojphmkaaDoorIrqB
set_option linter.unusedSimpArgs false
set_option linter.unusedVariables false
set_option maxHeartbeats 8000000
set_option maxRecDepth 100000
namespace Go.Proofs.YtekjnagojphmkaaDoor
open Go.ChangeShapes Go.WideShapes Go.ChangeAt Go.RowKit
section
variable {w w' w1 : World} {b lo n mk pc sc l c g o : Nat} {xs : List Vg.Lq} {s s' : Vg.Iq} {lv sv : Value} {pa sa a : Option Addr} {ow : Nat → Nat} {OB : Nat → Prop} {x : Int}
/-- The block of the lines, the controller and the stack have changed. -/
theorem IQ.both {c' : Vg.Ic} {mk' : Nat} {last' : Int} {pa' sa' : Option Addr} {pc' sc' m' : Nat} {S' : List Vg.Bg} {sv' : Value} (h : IQ w b lo n xs s mk lv sv pa pc sa sc ow) (hq : Vg.Que w' lo 103 3 sv' S'.length (Vg.scells S'))
    (ht : Vg.Touch (fun k => k = b ∨ sv.ownBlock = some k) w w')
    (hst : c'.st = S'.map (·.k)) (hpe : s.ls = [] → c'.pe = 0) (hmm : m' = S'.length)
    (htab : Vg.blk w' b = some (irqC c'.pe c'.en (2 ^ n - 1) pa' n pc' sa' m' sc' lv sv' mk' last')) (his : IS w' c' n m' pa' pc' sa' sc') (hmk : mk' < 2 ^ xs.length)
    (h1 : ∀ k, (Value.slice pa' n pc').ownBlock = some k → ow k = 4 ∨ (w.heap.size ≤ k ∧ k < w'.heap.size)) (h2 : ∀ k, (Value.slice sa' m' sc').ownBlock = some k → ow k = 4 ∨ (w.heap.size ≤ k ∧ k < w'.heap.size))
    (hsv : ∀ k, sv'.ownBlock = some k → ow k = 3 ∨ (w.heap.size ≤ k ∧ k < w'.heap.size)) (hd : ∀ k, sv'.ownBlock = some k → (Value.slice pa' n pc').ownBlock ≠ some k ∧ (Value.slice sa' m' sc').ownBlock ≠ some k) :
    ∃ ow', IQ w' b lo n xs ⟨c', s.ls, S', last'⟩ mk' lv sv' pa' pc' sa' sc' ow' ∧ ∀ k, ow' k ≠ 0 → ow k ≠ 0 ∨ w.heap.size ≤ k := by
  subst hmm
  have hz : ∀ k, w.heap.size ≤ k → ow k = 0 := fun k hk => by
    by_cases h0 : ow k = 0
    · exact h0
    · have := (h.hw k h0).2; omega
  have hlo : lo ≤ w.heap.size := by have := h.hw b (by rw [h.ob]; omega); omega
  let nw : Nat → Prop := fun k => (Value.slice pa' n pc').ownBlock = some k ∨ (Value.slice sa' S'.length sc').ownBlock = some k
  have hnw : ∀ k, nw k → ow k = 4 ∨ (w.heap.size ≤ k ∧ k < w'.heap.size) := fun k hk => hk.elim (h1 k) (h2 k)
  have hnd : ∀ k, sv'.ownBlock = some k → ¬ nw k := fun k hk hh => hh.elim (hd k hk).1 (hd k hk).2
  classical
  let ow' : Nat → Nat := fun k => if nw k then 4 else if sv'.ownBlock = some k then 3 else ow k
  have e1 : ∀ k, ow k ≠ 0 → ow' k = ow k := fun k hk => by
    show (if nw k then 4 else if sv'.ownBlock = some k then 3 else ow k) = ow k
    split
    · rename_i hh
      rcases hnw k hh with h4 | h4
      · exact h4.symm
      · exact absurd (hz k h4.1) hk
    · split
      · rename_i hh
        rcases hsv k hh with h4 | h4
        · exact h4.symm
        · exact absurd (hz k h4.1) hk
      · rfl
  have e2 : ∀ k l, l ≠ 0 → ow k = l → ow' k = l := fun k l hl hk => by rw [e1 k (by rw [hk]; exact hl), hk]
  have hv : ∀ k, (k = b ∨ sv.ownBlock = some k) → ow k = 1 ∨ ow k = 3 := fun k hk => by
    rcases hk with rfl | hk
    · exact .inl h.ob
    · exact .inr (h.os k hk)
  have hlr : Vg.Que w' lo 86 5 lv xs.length (Vg.lcells xs) := h.lrow.kept fun k hk => ht.block k (h.lrow.lt k hk).2 fun hh => by have := hv k hh; rw [h.ol k hk] at this; omega
  have key : ∀ k, ow' k ≠ 0 → ow k ≠ 0 ∨ (w.heap.size ≤ k ∧ k < w'.heap.size) := fun k hk => by
    by_cases h0 : ow k = 0
    · right
      by_cases hn : nw k
      · rcases hnw k hn with h4 | h4
        · omega
        · exact h4
      · by_cases hs : sv'.ownBlock = some k
        · rcases hsv k hs with h4 | h4
          · omega
          · exact h4
        · exact absurd (show (if nw k then 4 else if sv'.ownBlock = some k then 3 else ow k) = 0 by rw [if_neg hn, if_neg hs, h0]) hk
    · exact .inl h0
  refine ⟨ow', ⟨h.ls, ⟨hst, ?_, h.ok.each⟩, htab, his, hlr, hq, fun i hi => (h.mks i hi).touch ht (fun hh => by have := hv _ hh; rw [(h.om i hi).1] at this; omega) (fun hh => by have := hv _ hh; rw [(h.om i hi).2] at this; omega), hmk, e2 _ _ (by omega) h.ob, fun k hk => e2 _ _ (by omega) (h.ol k hk), fun k hk => ?_, fun k hk => if_pos (.inl hk), fun k hk => if_pos (.inr hk), fun i hi => ⟨e2 _ _ (by omega) (h.om i hi).1, e2 _ _ (by omega) (h.om i hi).2⟩, fun k hk => ?_⟩, fun k hk => ?_⟩
  · rcases h.ok.len with h3 | ⟨h3, h4, h5⟩
    · exact .inl h3
    · exact .inr ⟨h3, h4, hpe h3⟩
  · show (if nw k then 4 else if sv'.ownBlock = some k then 3 else ow k) = 3
    rw [if_neg (hnd k hk), if_pos hk]
  · rcases key k hk with h4 | h4
    · exact ⟨(h.hw k h4).1, Nat.lt_of_lt_of_le (h.hw k h4).2 ht.size⟩
    · omega
  · rcases key k hk with h4 | h4
    · exact .inl h4
    · exact .inr h4.1
abbrev toppedV (a bo : Int) : Value := .agg #[.int .i64 a, .int .i64 bo]
theorem scells_set1' (L : List Vg.Bg) (y : Vg.Bg) (k : Nat) (hk : L.length = k) (t : Int) : (Vg.scells (L ++ [y])).set (k * 3 + 1) (.int .i64 t) = Vg.scells (L ++ [{ y with left := t }]) := by
  subst hk
  have h9 := Vg.scells_set1 (L ++ [y]) L.length (by simp) t
  rw [h9]
  congr 1
  simp
theorem Touch.putN {t : Nat → Prop} (h : Vg.Touch t w w') {b : Nat} (hb : w.heap.size ≤ b) (o : Obj) : Vg.Touch t w (Vg.put w' b o) :=
  ⟨h.os, h.tape, h.output, by rw [Vg.put_size]; exact h.size, fun k hk ht => by rw [Vg.put_heap_other (by omega)]; exact h.block k hk ht⟩
theorem irq_run_some (cy : Int) (h : IQ w b lo n xs s mk lv sv pa pc sa sc ow) {L : List Vg.Bg} {y : Vg.Bg} (hS : s.S = L ++ [y]) (h0 : 0 ≤ cy) (h1 : cy < y.left) (h2 : y.left ≤ 1099511627776) :
    Calls Tryd.prog 11 #[.pointer (some ⟨b, 0, none⟩), .int .i64 cy] w fun e w' => e = .returned (.tuple #[toppedV 0 0, .bool false, .int .i64 0]) ∧ (∃ ow', IQ w' b lo n xs { s with S := L ++ [{ y with left := y.left - cy }] } mk lv sv pa pc sa sc ow' ∧ ∀ k, ow' k ≠ 0 → ow k ≠ 0 ∨ w.heap.size ≤ k) ∧ Vg.Touch (fun k => k = b ∨ sv.ownBlock = some k) w w' := by
  obtain ⟨k, hk⟩ : ∃ k, L.length = k := ⟨_, rfl⟩
  have hlen : s.S.length = k + 1 := by rw [hS]; simp [hk]
  have hr := h.srow
  rw [hlen] at hr
  obtain ⟨g, o, c, hsv, hg1, hg2, hc1, hc2, d0, d1, d2⟩ := hr.begun hlen k (by omega)
  have e1 : s.S[k]'(by omega) = y := by simp [hS, ← hk]
  rw [e1] at d0 d1 d2
  obtain ⟨yk, yl, yb⟩ := y
  simp only at h1 h2 d0 d1 d2 ⊢
  have hfz := (show Vg.Que w lo 103 3 (.slice (some ⟨g, o, none⟩) (k + 1) c) (k + 1) (Vg.scells s.S) by rw [← hsv]; exact hr).frozen
  have hlf : (match s.S.getLast? with | none => 0 | some y => y.left) = yl := by rw [hS, List.getLast?_append]; rfl
  have hb := h.tab
  obtain ⟨ed, hed⟩ : ∃ ed, 2 ^ n - 1 = ed := ⟨_, rfl⟩
  rw [hed, hsv, hlen] at hb
  subst hsv
  have hkk : (k : Int) + 1 - 1 = k := by omega
  have hk64 : k + 1 ≤ 9223372036854775807 := by omega
  have hpc : ∀ (o : Obj) (cs : Array Value) (i : Nat), (w.alloc (.cells cs 43)).cell? ⟨w.heap.size, i, none⟩ = cs[i]? := fun o cs i => Vg.cells_of (Vg.alloc_heap_at rfl) i
  have hne : w.heap.size ≠ g := by omega
  clear e1
  have H_h := Lib.hid h; clear h; have H_hr := Lib.hid hr; clear hr; have H_hlf := Lib.hid hlf; clear hlf; have H_hed := Lib.hid hed; clear hed; have H_hlen := Lib.hid hlen; clear hlen; have H_hS := Lib.hid hS; clear hS; have H_hk := Lib.hid hk; clear hk; have H_hpc := Lib.hid hpc; clear hpc
  have c_hb := Vg.cells_of hb; have f_hb := Vg.frozen_of hb; have p_hb := Vg.setCell_of hb; have l_hb := Vg.lt_of hb; have H_hb := Lib.hid hb; clear hb
  go_enter Tryd.func11, Tryd.ntmps11
  go_wp2_with ((go_at_call 10; (with_reducible refine (irq_left (H_h.out.grows (by (repeat' (first | (with_reducible exact Vg.Grows.refl _) | (with_reducible assumption) | (with_reducible refine Vg.Grows.alloc ?_ _) | (with_reducible refine Vg.Grows.plus ?_ _ _) | (with_reducible refine Vg.Grows.drewN ?_ _) | (with_reducible refine Vg.Grows.drew ?_) | (with_reducible refine Vg.Grows.setCell ?_ ?_ _) | (with_reducible refine Vg.Grows.put ?_ ?_ _) | omega | (simp; omega) | (simp; done))))) H_hlf.out).mono ?_); rintro e w1 ⟨rfl, rfl⟩))
  refine bodyPost_ret (by simp [results, Tryd.results11, go_sem, H_hpc.out] <;> try rfl) rfl ?_
  have hsl := Vg.scells_length s.S
  obtain ⟨q1, q2⟩ := H_hr.out.set (j := k * 3 + 1) (u := .int .i64 (yl - cy)) (by rw [hsl, H_hlen.out]; omega)
  rw [H_hS.out, scells_set1' L _ k H_hk.out, ← Nat.add_assoc] at q1
  rw [← Nat.add_assoc] at q2
  have ht1 : Vg.Touch (fun j => j = b ∨ (Value.slice (some ⟨g, o, none⟩) (k + 1) c).ownBlock = some j) w _ := (Vg.Touch.of_same q2).mono fun j _ hj => .inr (by rw [hj]; rfl)
  have hl9 : (L ++ [(⟨yk, yl - cy, yb⟩ : Vg.Bg)]).length = k + 1 := by simp [H_hk.out]
  have hgb : b ≠ g := fun hh => by have h9 := H_h.out.os g rfl; rw [← hh, H_h.out.ob] at h9; omega
  obtain ⟨ow', h9, h10⟩ := H_h.out.stack (S' := L ++ [⟨yk, yl - cy, yb⟩]) (by rw [hl9]; exact q1) ht1 (fun j hj => .inl (H_h.out.os j hj)) (by rw [H_h.out.ok.st, H_hS.out]; simp) (by rw [hl9, H_hlen.out]) (by rw [H_hed.out, H_hlen.out]; exact (q2.block b hgb).trans H_hb.out)
  have hgA : ∀ (W : World) (O : Obj), Vg.Grows W (W.alloc O) := fun W O => (Vg.Grows.refl _).alloc _
  exact ⟨rfl, ⟨ow', h9.grows (hgA _ _), h10⟩, ht1.trans (Vg.Touch.of_grows (hgA _ _))⟩
theorem irq_run_done (h : IQ w b lo n xs s mk lv sv pa pc sa sc ow) {L : List Vg.Bg} {y : Vg.Bg} (hS : s.S = L ++ [y]) (h0 : 0 ≤ y.left) (h2 : y.left ≤ 1099511627776) :
    Calls Tryd.prog 11 #[.pointer (some ⟨b, 0, none⟩), .int .i64 y.left] w fun e w' => e = .returned (.tuple #[toppedV y.k y.bot, .bool true, .int .i64 0]) ∧ (∃ pa' pc' sa' sc' sv' ow', IQ w' b lo n xs { s with c := s.c.fin, S := L } mk lv sv' pa' pc' sa' sc' ow' ∧ ∀ k, ow' k ≠ 0 → ow k ≠ 0 ∨ w.heap.size ≤ k) ∧ Vg.Touch (fun k => k = b ∨ sv.ownBlock = some k) w w' := by
  obtain ⟨k, hk⟩ : ∃ k, L.length = k := ⟨_, rfl⟩
  have hlen : s.S.length = k + 1 := by rw [hS]; simp [hk]
  have hr := h.srow
  rw [hlen] at hr
  obtain ⟨g, o, c, hsv, hg1, hg2, hc1, hc2, d0, d1, d2⟩ := hr.begun hlen k (by omega)
  have e1 : s.S[k]'(by omega) = y := by simp [hS, ← hk]
  rw [e1] at d0 d1 d2
  obtain ⟨yk, yl, yb⟩ := y
  simp only at h0 h2 d0 d1 d2 ⊢
  have hfz := (show Vg.Que w lo 103 3 (.slice (some ⟨g, o, none⟩) (k + 1) c) (k + 1) (Vg.scells s.S) by rw [← hsv]; exact hr).frozen
  have hlf : (match s.S.getLast? with | none => 0 | some y => y.left) = yl := by rw [hS, List.getLast?_append]; rfl
  have hb := h.tab
  have his := h.is
  obtain ⟨ed, hed⟩ : ∃ ed, 2 ^ n - 1 = ed := ⟨_, rfl⟩
  rw [hed, hsv, hlen] at hb
  rw [hlen] at his
  subst hsv
  have hkk : (k : Int) + 1 - 1 = k := by omega
  have hk64 : k + 1 ≤ 9223372036854775807 := by omega
  have hne : w.heap.size ≠ g := by omega
  have hbg : b ≠ g := fun hh => by have h9 := h.os g rfl; rw [← hh, h.ob] at h9; omega
  have hgb : g ≠ b := fun hh => hbg hh.symm
  have hsl := Vg.scells_length s.S
  obtain ⟨q1, q2⟩ := hr.set (j := k * 3 + 1) (u := .int .i64 0) (by rw [hsl, hlen]; omega)
  rw [hS, scells_set1' L _ k hk, ← Nat.add_assoc] at q1
  rw [← Nat.add_assoc] at q2
  have q3 := q1.init
  rw [Vg.scells_init L _ k hk] at q3
  have hT0 : Vg.Touch (fun j => j = b) (w.setCell ⟨g, o + k * 3 + 1, none⟩ (.int .i64 0)) (Vg.put (w.setCell ⟨g, o + k * 3 + 1, none⟩ (.int .i64 0)) b (irqC s.c.pe s.c.en ed pa n pc sa (k + 1) sc lv (.slice (some ⟨g, o, none⟩) k c) mk s.last)) := Vg.Touch.put (Vg.Touch.refl (fun j => j = b) _) rfl _
  have hT1 : Vg.Touch (fun j => j = b ∨ (Value.slice (some ⟨g, o, none⟩) (k + 1) c).ownBlock = some j) w _ := ((Vg.Touch.of_same q2).mono fun j _ hj => .inr (by rw [hj]; rfl)).trans (hT0.mono fun j _ hj => .inl hj)
  have his0 := his.touch hT1 (fun j hj hh => by
    have h9 := h.op j hj
    rcases hh with rfl | hh
    · rw [h.ob] at h9; omega
    · rw [h.os j hh] at h9; omega) (fun j hj hh => by
    have h9 := h.oq j (by rw [hlen]; exact hj)
    rcases hh with rfl | hh
    · rw [h.ob] at h9; omega
    · rw [h.os j hh] at h9; omega)
  have hT00 := hT0
  have hbl := Vg.lt_of hb
  clear e1
  have H_h := Lib.hid h; clear h; have H_hr := Lib.hid hr; clear hr; have H_hlf := Lib.hid hlf; clear hlf; have H_hed := Lib.hid hed; clear hed; have H_hlen := Lib.hid hlen; clear hlen; have H_hS := Lib.hid hS; clear hS; have H_hk := Lib.hid hk; clear hk; have H_hT0 := Lib.hid hT0; clear hT0; have H_hT1 := Lib.hid hT1; clear hT1; have H_his0 := Lib.hid his0; clear his0; have H_q2 := Lib.hid q2; clear q2; have H_q3 := Lib.hid q3; clear q3; have H_hsl := Lib.hid hsl; clear hsl; have H_his := Lib.hid his; clear his
  clear q1 hT00
  have c_hb := Vg.cells_of hb; have f_hb := Vg.frozen_of hb; have p_hb := Vg.setCell_of hb; have l_hb := Vg.lt_of hb; have H_hb := Lib.hid hb; clear hb
  go_enter Tryd.func11, Tryd.ntmps11
  go_upto_region 10 with ((go_at_call 10; (with_reducible refine (irq_left (H_h.out.grows (by (repeat' (first | (with_reducible exact Vg.Grows.refl _) | (with_reducible assumption) | (with_reducible refine Vg.Grows.alloc ?_ _) | (with_reducible refine Vg.Grows.plus ?_ _ _) | (with_reducible refine Vg.Grows.drewN ?_ _) | (with_reducible refine Vg.Grows.drew ?_) | (with_reducible refine Vg.Grows.setCell ?_ ?_ _) | (with_reducible refine Vg.Grows.put ?_ ?_ _) | omega | (simp; omega) | (simp; done))))) H_hlf.out).mono ?_); rintro e w1 ⟨rfl, rfl⟩))
  have hd0 := (World.cell?_setCell_other (w := w) ⟨g, o + k * 3 + 1, none⟩ ⟨g, o + k * 3, none⟩ (.int .i64 0) (by intro hh; simp only [Addr.mk.injEq] at hh; omega)).trans d0
  have hd2 := (World.cell?_setCell_other (w := w) ⟨g, o + k * 3 + 1, none⟩ ⟨g, o + k * 3 + 2, none⟩ (.int .i64 0) (by intro hh; simp only [Addr.mk.injEq] at hh; omega)).trans d2
  have yb1 := (H_q2.out.block b hbg).trans H_hb.out
  have hs1 := H_q2.out.size
  obtain ⟨W1, hW1⟩ : ∃ W1, w.setCell ⟨g, o + k * 3 + 1, none⟩ (.int .i64 0) = W1 := ⟨_, rfl⟩
  rw [hW1] at H_hT0 H_hT1 H_his0 H_q2 H_q3 hd0 hd2 yb1 hs1 ⊢
  clear hW1 d0 d1 d2 hfz
  have yb1 : Vg.blk W1 b = _ := yb1
  clear c_hb f_hb p_hb
  have c_yb1 := Vg.cells_of yb1; have f_yb1 := Vg.frozen_of yb1; have p_yb1 := Vg.setCell_of yb1; have l_yb1 := Vg.lt_of yb1; have H_yb1 := Lib.hid yb1; clear yb1
  have n1 : b ≠ w.heap.size := by omega
  have n2 : b ≠ w.heap.size + 1 := by omega
  have n3 : w.heap.size ≠ b := by omega
  have n4 : w.heap.size + 1 ≠ b := by omega
  refine wp_region_held_drew (S := fun w' => g < w'.heap.size ∧ w'.cell? ⟨g, o + k * 3, none⟩ = some (.int .i64 yk) ∧ w'.cell? ⟨g, o + k * 3 + 2, none⟩ = some (.int .i64 yb)) (by kernel_rfl) (by go_split_ands <;> (try dsimp only) <;> go_simp) (fun hHeld => ?_)
  refine wpAnyH_take (i := 0) (oi := _) (v := ?v1) rfl (by kernel_rfl) (by kernel_rfl) (by kernel_rfl) (fun _ _ _ h => h) (Or.inl ⟨by rfl, ?hy1⟩) (by assumption) ?rest1
  case hy1 => (intro w hSw; (try dsimp only at hSw); go_simp; first | done | with_reducible rfl)
  (try simp only [List.getElem_toArray, List.getElem_cons_succ, List.getElem_cons_zero, Act.put, List.setIfInBounds_toArray, List.set_cons_zero, List.set_cons_succ])
  refine wpAnyH_take (i := 1) (oi := _) (v := ?v2) rfl (by kernel_rfl) (by kernel_rfl) (by kernel_rfl) (fun _ _ _ h => h) (Or.inl ⟨by rfl, ?hy2⟩) (by assumption) ?rest2
  case hy2 => (intro w hSw; (try dsimp only at hSw); go_simp; first | done | with_reducible rfl)
  (try simp only [List.getElem_toArray, List.getElem_cons_succ, List.getElem_cons_zero, Act.put, List.setIfInBounds_toArray, List.set_cons_zero, List.set_cons_succ])
  refine wpAnyH_take (i := 2) (oi := _) (v := ?v3) rfl (by kernel_rfl) (by kernel_rfl) (by kernel_rfl) (fun _ _ _ h => h) (Or.inl ⟨by rfl, ?hy3⟩) (by assumption) ?rest3
  case hy3 => (intro w hSw; (try dsimp only at hSw); go_simp; first | done | with_reducible rfl)
  (try simp only [List.getElem_toArray, List.getElem_cons_succ, List.getElem_cons_zero, Act.put, List.setIfInBounds_toArray, List.set_cons_zero, List.set_cons_succ])
  refine wpAnyH_take (i := 3) (oi := _) (v := ?v4) rfl (by kernel_rfl) (by kernel_rfl) (by kernel_rfl) (fun _ _ _ h => h) (Or.inl ⟨by rfl, ?hy4⟩) (by assumption) ?rest4
  case hy4 => (intro w hSw; (try dsimp only at hSw); go_simp; first | done | with_reducible rfl)
  (try simp only [List.getElem_toArray, List.getElem_cons_succ, List.getElem_cons_zero, Act.put, List.setIfInBounds_toArray, List.set_cons_zero, List.set_cons_succ])
  refine wpAnyH_take (i := 4) (oi := _) (v := ?v5) rfl (by kernel_rfl) (by kernel_rfl) (by kernel_rfl) (fun _ _ _ h => h) (Or.inl ⟨by rfl, ?hy5⟩) (by assumption) ?rest5
  case hy5 => (intro w hSw; (try dsimp only at hSw); go_simp; first | done | with_reducible rfl)
  (try simp only [List.getElem_toArray, List.getElem_cons_succ, List.getElem_cons_zero, Act.put, List.setIfInBounds_toArray, List.set_cons_zero, List.set_cons_succ])
  refine wpAnyH_take (i := 5) (oi := _) (v := ?v6) rfl (by kernel_rfl) (by kernel_rfl) (by kernel_rfl) (fun _ _ _ h => h) (Or.inl ⟨by rfl, ?hy6⟩) (by assumption) ?rest6
  case hy6 => (intro w hSw; (try dsimp only at hSw); go_simp; first | done | with_reducible rfl)
  (try simp only [List.getElem_toArray, List.getElem_cons_succ, List.getElem_cons_zero, Act.put, List.setIfInBounds_toArray, List.set_cons_zero, List.set_cons_succ])
  refine wpAnyH_take (i := 6) (oi := _) (v := ?v7) rfl (by kernel_rfl) (by kernel_rfl) (by kernel_rfl) (fun _ _ _ h => h) (Or.inl ⟨by rfl, ?hy7⟩) (by assumption) ?rest7
  case hy7 => (intro w hSw; (try dsimp only at hSw); go_simp; first | done | with_reducible rfl)
  (try simp only [List.getElem_toArray, List.getElem_cons_succ, List.getElem_cons_zero, Act.put, List.setIfInBounds_toArray, List.set_cons_zero, List.set_cons_succ])
  refine wpAnyH_take (i := 7) (oi := _) (v := ?v8) rfl (by kernel_rfl) (by kernel_rfl) (by kernel_rfl) (fun _ _ _ h => h) (Or.inl ⟨by rfl, ?hy8⟩) (by assumption) ?rest8
  case hy8 => (intro w hSw; (try dsimp only at hSw); go_simp; first | done | with_reducible rfl)
  (try simp only [List.getElem_toArray, List.getElem_cons_succ, List.getElem_cons_zero, Act.put, List.setIfInBounds_toArray, List.set_cons_zero, List.set_cons_succ])
  refine wpAnyH_take (i := 8) (oi := _) (v := ?v9) rfl (by kernel_rfl) (by kernel_rfl) (by kernel_rfl) (fun _ _ _ h => h) (Or.inl ⟨by rfl, ?hy9⟩) (by assumption) ?rest9
  case hy9 => (intro w hSw; (try dsimp only at hSw); go_simp; first | done | with_reducible rfl)
  (try simp only [List.getElem_toArray, List.getElem_cons_succ, List.getElem_cons_zero, Act.put, List.setIfInBounds_toArray, List.set_cons_zero, List.set_cons_succ])
  refine wpAnyH_ready (rs := [9]) (by kernel_rfl) (by simp) ?_
  refine AllReadyH.cons (o := _) rfl (fun K hK => ?st10) ?mo10
  case st10 =>
    go_simp
    refine hK.out _ _ (by go_split_ands <;> (try dsimp only) <;> go_simp) (fun hHeld10 => ?_)
    clear hK K
    (try simp only [List.getElem_toArray, List.getElem_cons_succ, List.getElem_cons_zero, Act.put, List.setIfInBounds_toArray, List.set_cons_zero, List.set_cons_succ])
    refine wpAnyH_ready (rs := [10]) (by kernel_rfl) (by simp) ?_
    refine AllReadyH.cons (o := _) rfl (fun K hK => ?st11) ?mo11
    case st11 =>
      go_simp
      refine hK.out _ _ (by go_split_ands <;> (try dsimp only) <;> go_simp) (fun hHeld11 => ?_)
      clear hK K
      (try simp only [List.getElem_toArray, List.getElem_cons_succ, List.getElem_cons_zero, Act.put, List.setIfInBounds_toArray, List.set_cons_zero, List.set_cons_succ])
      refine wpAnyH_done (by kernel_rfl) ?_ _
      go_wp2_with ((go_at_call 37; (with_reducible refine (ic_end (H_his0.out.grows (by (repeat' (first | (with_reducible exact Vg.Grows.refl _) | (with_reducible assumption) | (with_reducible refine Vg.Grows.alloc ?_ _) | (with_reducible refine Vg.Grows.plus ?_ _ _) | (with_reducible refine Vg.Grows.drewN ?_ _) | (with_reducible refine Vg.Grows.drew ?_) | (with_reducible refine Vg.Grows.setCell ?_ ?_ _) | (with_reducible refine Vg.Grows.put ?_ ?_ _) | omega | (simp; omega) | (simp; done))))) H_hed.out rfl rfl (by omega)).mono ?_); rintro e w1 ⟨v, xx, rfl, ⟨pa', pc', sa', m', sc', rfl, hI, f1, f2⟩, hg1⟩; have hgx := Vg.Grows.trans (a := (Vg.put W1 b (irqC s.c.pe s.c.en ed pa n pc sa (k + 1) sc lv (.slice (some ⟨g, o, none⟩) k c) mk s.last))) (by (repeat' (first | (with_reducible exact Vg.Grows.refl _) | (with_reducible assumption) | (with_reducible refine Vg.Grows.alloc ?_ _) | (with_reducible refine Vg.Grows.plus ?_ _ _) | (with_reducible refine Vg.Grows.drewN ?_ _) | (with_reducible refine Vg.Grows.drew ?_) | (with_reducible refine Vg.Grows.setCell ?_ ?_ _) | (with_reducible refine Vg.Grows.put ?_ ?_ _) | omega | (simp; omega) | (simp; done)))) hg1; have zb := hg1.blk (b := b) (o := irqC s.c.pe s.c.en ed pa n pc sa (k + 1) sc lv (.slice (some ⟨g, o, none⟩) k c) mk s.last) (by go_simp); have z4 := hg1.blk (b := w.heap.size) (o := .cells #[.int .i64 0, .int .i64 0] 43) (by go_simp); have z9 := hg1.blk (b := w.heap.size + 1) (o := .cells #[.int .i64 yk, .int .i64 yb] 43) (by go_simp); have hs2 := hgx.size; simp only [Vg.put_size] at hs2; simp only [Vg.put_size, World.size_alloc, World.size_drew] at f1 f2; clear c_yb1 f_yb1 p_yb1; have c_zb := Vg.cells_of zb; have f_zb := Vg.frozen_of zb; have p_zb := Vg.setCell_of zb; have l_zb := Vg.lt_of zb; have H_zb := Lib.hid zb; clear zb; have c_z4 := Vg.cells_of z4; have f_z4 := Vg.frozen_of z4; have p_z4 := Vg.setCell_of z4; have l_z4 := Vg.lt_of z4; have H_z4 := Lib.hid z4; clear z4; have c_z9 := Vg.cells_of z9; have f_z9 := Vg.frozen_of z9; have p_z9 := Vg.setCell_of z9; have l_z9 := Vg.lt_of z9; have H_z9 := Lib.hid z9; clear z9; have H_hI := Lib.hid hI; clear hI; have H_f1 := Lib.hid f1; clear f1; have H_f2 := Lib.hid f2; clear f2; have H_hg1 := Lib.hid hg1; clear hg1; have H_hgx := Lib.hid hgx; clear hgx))
      have hpc : ∀ (o : Obj) (cs : Array Value) (i : Nat), (Vg.put (Vg.put w1 w.heap.size (.cells cs 43)) b o).cell? ⟨w.heap.size, i, none⟩ = cs[i]? := fun o cs i => Vg.cells_of ((Vg.put_heap_other n1).trans (Vg.put_heap_same l_z4)) i
      have H_hpc := Lib.hid hpc; clear hpc
      refine bodyPost_ret (by simp [results, Tryd.results11, go_sem, H_hpc.out] <;> try rfl) rfl ?_
      have hA := (Touch.putN (H_hT0.out.trans (Vg.Touch.of_grows H_hgx.out)) (b := w.heap.size) (by omega) (.cells #[.int .i64 yk, .int .i64 yb] 43)).put (b := b) rfl (irqC s.c.fin.pe s.c.fin.en ed pa' n pc' sa' m' sc' lv (.slice (some ⟨g, o, none⟩) k c) mk s.last)
      have hB : Vg.Touch (fun j => j = b ∨ (Value.slice (some ⟨g, o, none⟩) (k + 1) c).ownBlock = some j) w _ := ((Vg.Touch.of_same H_q2.out).mono fun j _ hj => .inr (by rw [hj]; rfl)).trans (hA.mono fun j _ hj => .inl hj)
      have hq := H_q3.out.kept fun j hj => hA.block j (by have e : g = j := by simpa [Value.ownBlock] using hj
                                                          omega) (fun hh => hgb (by have e : g = j := by simpa [Value.ownBlock] using hj
                                                                                    rw [e, hh]))
      have hmm : m' = L.length := by rw [← H_hI.out.m]; show s.c.st.dropLast.length = _; rw [H_h.out.ok.st, H_hS.out]; simp
      have hI9 := (H_hI.out.put (b := w.heap.size) (fun j hj => by have := H_f1.out j hj; omega) (fun j hj => by have := H_f2.out j hj; omega) (.cells #[.int .i64 yk, .int .i64 yb] 43)).put (b := b) (fun j hj => by have := H_f1.out j hj; omega) (fun j hj => by have := H_f2.out j hj; omega) (irqC s.c.fin.pe s.c.fin.en ed pa' n pc' sa' m' sc' lv (.slice (some ⟨g, o, none⟩) k c) mk s.last)
      obtain ⟨ow', h9, h10⟩ := H_h.out.both (c' := s.c.fin) (mk' := mk) (last' := s.last) (S' := L) (sv' := .slice (some ⟨g, o, none⟩) k c) (by rw [H_hk.out]; exact hq) hB (by show s.c.st.dropLast = _; rw [H_h.out.ok.st, H_hS.out]; simp) H_h.out.pe0 hmm (by rw [H_hed.out]; exact Vg.blk_put_same (by rw [Vg.put_size]; exact l_zb)) hI9 H_h.out.hmk (fun j hj => .inr (by rw [Vg.put_size, Vg.put_size]; have := H_f1.out j hj; omega)) (fun j hj => .inr (by rw [Vg.put_size, Vg.put_size]; have := H_f2.out j hj; omega)) (fun j hj => .inl (H_h.out.os j hj)) (fun j hj => by
        have e : g = j := by simpa [Value.ownBlock] using hj
        exact ⟨fun hh => by have := H_f1.out j hh; omega, fun hh => by have := H_f2.out j hh; omega⟩)
      exact ⟨rfl, ⟨_, _, _, _, _, ow', h9, h10⟩, hB⟩
    exact AllReadyH.nil
  exact AllReadyH.nil
end
end Go.Proofs.YtekjnagojphmkaaDoor
