/- TopServed: lines beside four rows and a count ('SV'). -/
import Derived.Test.YtekjnagojphmkaaDoorSrv
set_option linter.unusedSimpArgs false
set_option linter.unusedVariables false
set_option maxHeartbeats 4000000
set_option maxRecDepth 100000
namespace Vg
open Go
abbrev rowC (L : List Int) (T : TypeId) : Obj := .cells (ics L).toArray T
theorem rowC_cell {w : World} {g i : Nat} {L : List Int} {T : TypeId} {x : Int} (h : blk w g = some (rowC L T)) (hi : L[i]? = some x) : w.cell? ⟨g, i, none⟩ = some (.int .i64 x) := by
  rw [cells_of h]
  simp [ics, hi]
theorem rowC_set {w : World} {g i : Nat} {L : List Int} {T : TypeId} (x : Int) (h : blk w g = some (rowC L T)) : w.setCell ⟨g, i, none⟩ (.int .i64 x) = put w g (rowC (L.set i x) T) := by
  rw [setCell_of h]
  congr 1
  simp [ics, List.map_set]
theorem rowC_rep (n : Nat) (T : TypeId) : (Obj.cells (madeCells #[.int .i64 0] n) T) = rowC (List.replicate n 0) T := by
  congr 1
  unfold madeCells
  apply Array.ext'
  simp [ics, List.map_const', Nat.mod_one]
end Vg
namespace Go.Proofs.YtekjnagojphmkaaDoor
open Go.ChangeShapes Go.WideShapes Go.ChangeAt Go.RowKit
abbrev statC (x : Vg.St) : Obj := .cells #[.int .i64 x.j, .int .i64 x.m, .int .i64 x.w, .int .i64 x.s, .int .i64 x.l] 33
structure SVx (w0 w : World) (b lo n g1 g2 g3 g4 g5 : Nat) (s : Vg.Iq) (R : List Int) (W : List (List Int)) (B V : List Int) (st : Vg.St) (OB : Nat → Prop) (us : List Value) (lab : Nat → Nat) : Prop where
  gr : Vg.Grows w0 w
  tab : Vg.Tab w
  lo0 : 0 < lo ∧ w0.heap.size ≤ lo
  qs : QS w b lo n s OB
  r1 : Vg.blk w g1 = some (Vg.rowC R 3)
  r2 : Vg.blk w g2 = some (.cells us.toArray 31)
  ul : us.length = W.length
  uw : ∀ i u L, us[i]? = some u → W[i]? = some L → Vg.Que w lo 2 1 u L.length (Vg.ics L) ∧ ∀ k, u.ownBlock = some k → lab k = 7 + i
  r3 : Vg.blk w g3 = some (Vg.rowC B 2)
  r4 : Vg.blk w g4 = some (Vg.rowC V 3)
  r5 : Vg.blk w g5 = some (statC st)
  l1 : lab g1 = 1
  l2 : lab g2 = 2
  l3 : lab g3 = 3
  l4 : lab g4 = 4
  l5 : lab g5 = 5
  l6 : ∀ k, OB k → lab k = 6
  hw : ∀ k, lab k ≠ 0 → w0.heap.size ≤ k ∧ k < w.heap.size
/-- Lines beside the rows. -/
def SV (w0 w : World) (b lo n g1 g2 g3 g4 g5 : Nat) (s : Vg.Iq) (R : List Int) (W : List (List Int)) (B V : List Int) (st : Vg.St) : Prop := ∃ OB us lab, SVx w0 w b lo n g1 g2 g3 g4 g5 s R W B V st OB us lab
section
variable {w0 w w' w1 : World} {b lo n g1 g2 g3 g4 g5 i : Nat} {s s' : Vg.Iq} {R : List Int} {W : List (List Int)} {B V : List Int} {st st' : Vg.St} {OB : Nat → Prop} {us : List Value} {lab : Nat → Nat} {x : Int} {L : List Int}
theorem SVx.move {t : Nat → Prop} (h : SVx w0 w b lo n g1 g2 g3 g4 g5 s R W B V st OB us lab) (ht : Vg.Touch t w w') (hv : ∀ k, t k → lab k = 0) (hw0 : ∀ k, t k → w0.heap.size ≤ k) (h0 : ¬ t 0) : SVx w0 w' b lo n g1 g2 g3 g4 g5 s R W B V st OB us lab := by
  have hz : ∀ k l, lab k = l → l ≠ 0 → ¬ t k := fun k l hk hl hh => by have := hv k hh; omega
  exact ⟨ht.gr h.gr hw0, ht.tab h.tab h0, h.lo0, h.qs.touch ht (fun k hk hh => hz k 6 (h.l6 k hh) (by omega) hk), ht.bk h.r1 (hz _ _ h.l1 (by omega)), ht.bk h.r2 (hz _ _ h.l2 (by omega)), h.ul, fun i u L hu hL => ⟨(h.uw i u L hu hL).1.kept fun k hk => ht.block k ((h.uw i u L hu hL).1.lt k hk).2 (hz k _ ((h.uw i u L hu hL).2 k hk) (by omega)), (h.uw i u L hu hL).2⟩, ht.bk h.r3 (hz _ _ h.l3 (by omega)), ht.bk h.r4 (hz _ _ h.l4 (by omega)), ht.bk h.r5 (hz _ _ h.l5 (by omega)), h.l1, h.l2, h.l3, h.l4, h.l5, h.l6, fun k hk => ⟨(h.hw k hk).1, Nat.lt_of_lt_of_le (h.hw k hk).2 ht.size⟩⟩
theorem SVx.grows (h : SVx w0 w b lo n g1 g2 g3 g4 g5 s R W B V st OB us lab) (hg : Vg.Grows w w') : SVx w0 w' b lo n g1 g2 g3 g4 g5 s R W B V st OB us lab :=
  h.move (t := fun _ => False) (Vg.Touch.of_grows hg) (fun _ hh => hh.elim) (fun _ hh => hh.elim) id
theorem SV.grows (h : SV w0 w b lo n g1 g2 g3 g4 g5 s R W B V st) (hg : Vg.Grows w w') : SV w0 w' b lo n g1 g2 g3 g4 g5 s R W B V st := by
  obtain ⟨OB, us, lab, h⟩ := h
  exact ⟨OB, us, lab, h.grows hg⟩
theorem SVx.zero (h : SVx w0 w b lo n g1 g2 g3 g4 g5 s R W B V st OB us lab) (hw0 : 0 < w0.heap.size) : lab 0 = 0 := Classical.byContradiction fun hh => by have := (h.hw 0 hh).1; omega
/-- The lines have changed. -/
theorem SVx.irqx (h : SVx w0 w b lo n g1 g2 g3 g4 g5 s R W B V st OB us lab) (hw0 : 0 < w0.heap.size) (hn : QSn w w' b lo n s' OB) : ∃ OB' lab', SVx w0 w' b lo n g1 g2 g3 g4 g5 s' R W B V st OB' us lab' ∧ ∀ k, lab k = 0 → k < w.heap.size → lab' k = 0 := by
  obtain ⟨OB', h1, h2, ht⟩ := hn
  have hz0 := h.zero hw0
  have hz : ∀ k l, lab k = l → l ≠ 6 → ¬ OB k := fun k l hk hl hh => by have := h.l6 k hh; omega
  have hnew : ∀ k, w.heap.size ≤ k → lab k = 0 := fun k hk => Classical.byContradiction fun hh => by have := (h.hw k hh).2; omega
  have hge : ∀ k, OB k → w0.heap.size ≤ k := fun k hk => (h.hw k (by rw [h.l6 k hk]; omega)).1
  classical
  let lab' : Nat → Nat := fun k => if OB' k then 6 else lab k
  have e1 : ∀ k, lab k ≠ 0 → lab' k = lab k := fun k hk => by
    show (if OB' k then 6 else lab k) = lab k
    split
    · rename_i hh
      rcases h2 k hh with h3 | h3
      · exact (h.l6 k h3).symm
      · exact absurd (hnew k h3) hk
    · rfl
  have e2 : ∀ k l, l ≠ 0 → lab k = l → lab' k = l := fun k l hl hk => by rw [e1 k (by rw [hk]; exact hl), hk]
  refine ⟨OB', lab', ⟨ht.gr h.gr hge, ht.tab h.tab (hz _ _ hz0 (by omega)), h.lo0, h1, ht.bk h.r1 (hz _ _ h.l1 (by omega)), ht.bk h.r2 (hz _ _ h.l2 (by omega)), h.ul, fun i u L hu hL => ⟨(h.uw i u L hu hL).1.kept fun k hk => ht.block k ((h.uw i u L hu hL).1.lt k hk).2 (hz k _ ((h.uw i u L hu hL).2 k hk) (by omega)), fun k hk => e2 k _ (by omega) ((h.uw i u L hu hL).2 k hk)⟩, ht.bk h.r3 (hz _ _ h.l3 (by omega)), ht.bk h.r4 (hz _ _ h.l4 (by omega)), ht.bk h.r5 (hz _ _ h.l5 (by omega)), e2 _ _ (by omega) h.l1, e2 _ _ (by omega) h.l2, e2 _ _ (by omega) h.l3, e2 _ _ (by omega) h.l4, e2 _ _ (by omega) h.l5, fun k hk => if_pos hk, fun k hk => ?_⟩, fun k hk hl => ?_⟩
  rotate_left
  · show (if OB' k then 6 else lab k) = 0
    have hno : ¬ OB' k := fun hh => by
      rcases h2 k hh with h3 | h3
      · have := h.l6 k h3; omega
      · omega
    rw [if_neg hno]
    exact hk
  by_cases hO : OB' k
  · have h3 := (h1.own k hO)
    exact ⟨by have := h.lo0; omega, h3.2⟩
  · have h4 : lab k ≠ 0 := fun hh => hk (show (if OB' k then 6 else lab k) = 0 by rw [if_neg hO]; exact hh)
    exact ⟨(h.hw k h4).1, Nat.lt_of_lt_of_le (h.hw k h4).2 ht.size⟩
theorem SVx.irq (h : SVx w0 w b lo n g1 g2 g3 g4 g5 s R W B V st OB us lab) (hw0 : 0 < w0.heap.size) (hn : QSn w w' b lo n s' OB) : SV w0 w' b lo n g1 g2 g3 g4 g5 s' R W B V st := by
  obtain ⟨OB', lab', h1, _⟩ := h.irqx hw0 hn
  exact ⟨OB', us, lab', h1⟩
theorem SVx.put {g : Nat} {o : Obj} (h : SVx w0 w b lo n g1 g2 g3 g4 g5 s R W B V st OB us lab) (hw0 : 0 < w0.heap.size) (hg : lab g ≠ 0) : Vg.Touch (fun k => k = g) w (Vg.put w g o) ∧ Vg.Grows w0 (Vg.put w g o) ∧ Vg.Tab (Vg.put w g o) ∧ (∀ k l, lab k = l → l ≠ lab g → ¬ k = g) ∧ g < w.heap.size := by
  have ht : Vg.Touch (fun k => k = g) w (Vg.put w g o) := Vg.Touch.put (Vg.Touch.refl (fun k => k = g) w) rfl o
  refine ⟨ht, ht.gr h.gr (fun k hk => by rw [hk]; exact (h.hw g hg).1), ht.tab h.tab (fun hh => by rw [← hh] at hg; exact hg (h.zero hw0)), fun k l hk hl hh => by rw [hh] at hk; omega, (h.hw g hg).2⟩
theorem SVx.set1 (h : SVx w0 w b lo n g1 g2 g3 g4 g5 s R W B V st OB us lab) (hw0 : 0 < w0.heap.size) (i : Nat) (x : Int) : SVx w0 (w.setCell ⟨g1, i, none⟩ (.int .i64 x)) b lo n g1 g2 g3 g4 g5 s (R.set i x) W B V st OB us lab := by
  rw [Vg.rowC_set x h.r1]
  obtain ⟨ht, hgr, htb, hz, hl⟩ := h.put (o := Vg.rowC (R.set i x) 3) hw0 (by rw [h.l1]; omega)
  rw [h.l1] at hz
  exact ⟨hgr, htb, h.lo0, h.qs.touch ht (fun k hk hh => hz k 6 (h.l6 k hh) (by omega) hk), Vg.blk_put_same hl, ht.bk h.r2 (hz _ _ h.l2 (by omega)), h.ul, fun i u L hu hL => ⟨(h.uw i u L hu hL).1.kept fun k hk => ht.block k ((h.uw i u L hu hL).1.lt k hk).2 (hz k _ ((h.uw i u L hu hL).2 k hk) (by omega)), (h.uw i u L hu hL).2⟩, ht.bk h.r3 (hz _ _ h.l3 (by omega)), ht.bk h.r4 (hz _ _ h.l4 (by omega)), ht.bk h.r5 (hz _ _ h.l5 (by omega)), h.l1, h.l2, h.l3, h.l4, h.l5, h.l6, fun k hk => ⟨(h.hw k hk).1, Nat.lt_of_lt_of_le (h.hw k hk).2 ht.size⟩⟩
theorem SV.set1 (h : SV w0 w b lo n g1 g2 g3 g4 g5 s R W B V st) (hw0 : 0 < w0.heap.size) (i : Nat) (x : Int) : SV w0 (w.setCell ⟨g1, i, none⟩ (.int .i64 x)) b lo n g1 g2 g3 g4 g5 s (R.set i x) W B V st := by
  obtain ⟨OB, us, lab, h⟩ := h
  exact ⟨OB, us, lab, h.set1 hw0 i x⟩
theorem SV.set3 (h : SV w0 w b lo n g1 g2 g3 g4 g5 s R W B V st) (hw0 : 0 < w0.heap.size) (i : Nat) (x : Int) : SV w0 (w.setCell ⟨g3, i, none⟩ (.int .i64 x)) b lo n g1 g2 g3 g4 g5 s R W (B.set i x) V st := by
  obtain ⟨OB, us, lab, h⟩ := h
  rw [Vg.rowC_set x h.r3]
  obtain ⟨ht, hgr, htb, hz, hl⟩ := h.put (o := Vg.rowC (B.set i x) 2) hw0 (by rw [h.l3]; omega)
  rw [h.l3] at hz
  exact ⟨OB, us, lab, hgr, htb, h.lo0, h.qs.touch ht (fun k hk hh => hz k 6 (h.l6 k hh) (by omega) hk), ht.bk h.r1 (hz _ _ h.l1 (by omega)), ht.bk h.r2 (hz _ _ h.l2 (by omega)), h.ul, fun i u L hu hL => ⟨(h.uw i u L hu hL).1.kept fun k hk => ht.block k ((h.uw i u L hu hL).1.lt k hk).2 (hz k _ ((h.uw i u L hu hL).2 k hk) (by omega)), (h.uw i u L hu hL).2⟩, Vg.blk_put_same hl, ht.bk h.r4 (hz _ _ h.l4 (by omega)), ht.bk h.r5 (hz _ _ h.l5 (by omega)), h.l1, h.l2, h.l3, h.l4, h.l5, h.l6, fun k hk => ⟨(h.hw k hk).1, Nat.lt_of_lt_of_le (h.hw k hk).2 ht.size⟩⟩
theorem SV.set4 (h : SV w0 w b lo n g1 g2 g3 g4 g5 s R W B V st) (hw0 : 0 < w0.heap.size) (i : Nat) (x : Int) : SV w0 (w.setCell ⟨g4, i, none⟩ (.int .i64 x)) b lo n g1 g2 g3 g4 g5 s R W B (V.set i x) st := by
  obtain ⟨OB, us, lab, h⟩ := h
  rw [Vg.rowC_set x h.r4]
  obtain ⟨ht, hgr, htb, hz, hl⟩ := h.put (o := Vg.rowC (V.set i x) 3) hw0 (by rw [h.l4]; omega)
  rw [h.l4] at hz
  exact ⟨OB, us, lab, hgr, htb, h.lo0, h.qs.touch ht (fun k hk hh => hz k 6 (h.l6 k hh) (by omega) hk), ht.bk h.r1 (hz _ _ h.l1 (by omega)), ht.bk h.r2 (hz _ _ h.l2 (by omega)), h.ul, fun i u L hu hL => ⟨(h.uw i u L hu hL).1.kept fun k hk => ht.block k ((h.uw i u L hu hL).1.lt k hk).2 (hz k _ ((h.uw i u L hu hL).2 k hk) (by omega)), (h.uw i u L hu hL).2⟩, ht.bk h.r3 (hz _ _ h.l3 (by omega)), Vg.blk_put_same hl, ht.bk h.r5 (hz _ _ h.l5 (by omega)), h.l1, h.l2, h.l3, h.l4, h.l5, h.l6, fun k hk => ⟨(h.hw k hk).1, Nat.lt_of_lt_of_le (h.hw k hk).2 ht.size⟩⟩
theorem SV.set5 (h : SV w0 w b lo n g1 g2 g3 g4 g5 s R W B V st) (hw0 : 0 < w0.heap.size) (st' : Vg.St) : SV w0 (Vg.put w g5 (statC st')) b lo n g1 g2 g3 g4 g5 s R W B V st' := by
  obtain ⟨OB, us, lab, h⟩ := h
  obtain ⟨ht, hgr, htb, hz, hl⟩ := h.put (o := statC st') hw0 (by rw [h.l5]; omega)
  rw [h.l5] at hz
  exact ⟨OB, us, lab, hgr, htb, h.lo0, h.qs.touch ht (fun k hk hh => hz k 6 (h.l6 k hh) (by omega) hk), ht.bk h.r1 (hz _ _ h.l1 (by omega)), ht.bk h.r2 (hz _ _ h.l2 (by omega)), h.ul, fun i u L hu hL => ⟨(h.uw i u L hu hL).1.kept fun k hk => ht.block k ((h.uw i u L hu hL).1.lt k hk).2 (hz k _ ((h.uw i u L hu hL).2 k hk) (by omega)), (h.uw i u L hu hL).2⟩, ht.bk h.r3 (hz _ _ h.l3 (by omega)), ht.bk h.r4 (hz _ _ h.l4 (by omega)), Vg.blk_put_same hl, h.l1, h.l2, h.l3, h.l4, h.l5, h.l6, fun k hk => ⟨(h.hw k hk).1, Nat.lt_of_lt_of_le (h.hw k hk).2 ht.size⟩⟩
/-- One more want: the line's row was appended to, and is stored. -/
theorem SVx.want {u v : Value} {y : Array Obj} {m : Nat} {W1 : World} {L' : List Int} (h : SVx w0 w b lo n g1 g2 g3 g4 g5 s R W B V st OB us lab) (hw0 : 0 < w0.heap.size) (hu : us[i]? = some u) (hL : W[i]? = some L) (hq : Vg.Que (Vg.plus W1 y m) lo 2 1 v L'.length (Vg.ics L')) (hS : Vg.Same (fun j => u.ownBlock = some j) w W1) (ho : v.ownBlock = u.ownBlock ∨ v.ownBlock = some w.heap.size) :
    SV w0 (Vg.put (Vg.plus W1 y m) g2 (.cells (us.set i v).toArray 31)) b lo n g1 g2 g3 g4 g5 s R (W.set i L') B V st := by
  have hz0 := h.zero hw0
  obtain ⟨hqu, hlu⟩ := h.uw i u L hu hL
  have hul := hqu.lt
  have hnew : ∀ k, w.heap.size ≤ k → lab k = 0 := fun k hk => Classical.byContradiction fun hh => by have := (h.hw k hh).2; omega
  have hg2 := h.hw g2 (by rw [h.l2]; omega)
  have ht0 : Vg.Touch (fun k => u.ownBlock = some k ∨ k = g2) w (Vg.plus W1 y m) := (((Vg.Touch.of_same hS).mono fun k _ hk => .inl hk).trans (Vg.Touch.of_grows ((Vg.Grows.refl W1).plus y m)))
  have ht : Vg.Touch (fun k => u.ownBlock = some k ∨ k = g2) w (Vg.put (Vg.plus W1 y m) g2 (.cells (us.set i v).toArray 31)) := ht0.put (.inr rfl) _
  have hz : ∀ k l, lab k = l → l ≠ 2 → l ≠ 7 + i → ¬ (u.ownBlock = some k ∨ k = g2) := fun k l hk h1 h2 hh => by
    rcases hh with hh | rfl
    · have := hlu k hh; omega
    · have := h.l2; omega
  have hgl : g2 < (Vg.plus W1 y m).heap.size := Nat.lt_of_lt_of_le hg2.2 ht0.size
  have hvb : ∀ k, v.ownBlock = some k → u.ownBlock = some k ∨ k = w.heap.size := fun k hk => by
    rcases ho with h1 | h1
    · exact .inl (h1.symm.trans hk)
    · have := h1.symm.trans hk
      simp at this
      exact .inr this.symm
  have hil := (List.getElem?_eq_some_iff.1 hu).1
  have hiW := (List.getElem?_eq_some_iff.1 hL).1
  classical
  let lab' : Nat → Nat := fun k => if v.ownBlock = some k then 7 + i else lab k
  have e1 : ∀ k, lab k ≠ 0 → lab' k = lab k := fun k hk => by
    show (if v.ownBlock = some k then 7 + i else lab k) = lab k
    split
    · rename_i hh
      rcases hvb k hh with h3 | h3
      · exact (hlu k h3).symm
      · exact absurd (hnew k (by omega)) hk
    · rfl
  have e2 : ∀ k l, l ≠ 0 → lab k = l → lab' k = l := fun k l hl hk => by rw [e1 k (by rw [hk]; exact hl), hk]
  refine ⟨OB, us.set i v, lab', ht.gr h.gr (fun k hk => ?_), ht.tab h.tab (hz _ _ hz0 (by omega) (by omega)), h.lo0, h.qs.touch ht (fun k hk hh => hz k 6 (h.l6 k hh) (by omega) (by omega) hk), ht.bk h.r1 (hz _ _ h.l1 (by omega) (by omega)), Vg.blk_put_same hgl, by rw [List.length_set, List.length_set]; exact h.ul, fun j u' L'' hu' hL'' => ?_, ht.bk h.r3 (hz _ _ h.l3 (by omega) (by omega)), ht.bk h.r4 (hz _ _ h.l4 (by omega) (by omega)), ht.bk h.r5 (hz _ _ h.l5 (by omega) (by omega)), e2 _ _ (by omega) h.l1, e2 _ _ (by omega) h.l2, e2 _ _ (by omega) h.l3, e2 _ _ (by omega) h.l4, e2 _ _ (by omega) h.l5, fun k hk => e2 k 6 (by omega) (h.l6 k hk), fun k hk => ?_⟩
  · rcases hk with hk | rfl
    · exact (h.hw k (by rw [hlu k hk]; omega)).1
    · exact hg2.1
  · rcases Vg.get_set hil hu' with ⟨rfl, rfl⟩ | ⟨hji, hu2⟩
    · rcases Vg.get_set hiW hL'' with ⟨_, rfl⟩ | ⟨h9, _⟩
      · refine ⟨hq.kept fun k hk => Vg.put_heap_other (fun hh => ?_), fun k hk => if_pos hk⟩
        subst hh
        rcases hvb g2 hk with h3 | h3
        · have := hlu g2 h3; have := h.l2; omega
        · omega
      · exact absurd rfl h9
    · rcases Vg.get_set hiW hL'' with ⟨h9, _⟩ | ⟨_, hL2⟩
      · exact absurd h9 hji
      · obtain ⟨a1, a2⟩ := h.uw j u' L'' hu2 hL2
        exact ⟨a1.kept fun k hk => ht.block k (a1.lt k hk).2 (hz k _ (a2 k hk) (by omega) (by omega)), fun k hk => e2 k _ (by omega) (a2 k hk)⟩
  · by_cases hv : v.ownBlock = some k
    · have h9 := hq.lt k hv
      exact ⟨by have := h.lo0; omega, by rw [Vg.put_size]; exact h9.2⟩
    · have h4 : lab k ≠ 0 := fun hh => hk (show (if v.ownBlock = some k then 7 + i else lab k) = 0 by rw [if_neg hv]; exact hh)
      exact ⟨(h.hw k h4).1, Nat.lt_of_lt_of_le (h.hw k h4).2 ht.size⟩
theorem SV.cell1 (h : SV w0 w b lo n g1 g2 g3 g4 g5 s R W B V st) (hx : R[i]? = some x) : w.cell? ⟨g1, i, none⟩ = some (.int .i64 x) ∧ (∀ j, w.frozen? ⟨g1, j, none⟩ = false) ∧ g1 < w.heap.size := by
  obtain ⟨OB, us, lab, h⟩ := h
  exact ⟨Vg.rowC_cell h.r1 hx, Vg.frozen_of h.r1, Vg.lt_of h.r1⟩
theorem SV.cell3 (h : SV w0 w b lo n g1 g2 g3 g4 g5 s R W B V st) (hx : B[i]? = some x) : w.cell? ⟨g3, i, none⟩ = some (.int .i64 x) ∧ (∀ j, w.frozen? ⟨g3, j, none⟩ = false) ∧ g3 < w.heap.size := by
  obtain ⟨OB, us, lab, h⟩ := h
  exact ⟨Vg.rowC_cell h.r3 hx, Vg.frozen_of h.r3, Vg.lt_of h.r3⟩
theorem SV.cell4 (h : SV w0 w b lo n g1 g2 g3 g4 g5 s R W B V st) (hx : V[i]? = some x) : w.cell? ⟨g4, i, none⟩ = some (.int .i64 x) ∧ (∀ j, w.frozen? ⟨g4, j, none⟩ = false) ∧ g4 < w.heap.size := by
  obtain ⟨OB, us, lab, h⟩ := h
  exact ⟨Vg.rowC_cell h.r4 hx, Vg.frozen_of h.r4, Vg.lt_of h.r4⟩
theorem SV.cell5 (h : SV w0 w b lo n g1 g2 g3 g4 g5 s R W B V st) : Vg.blk w g5 = some (statC st) := by
  obtain ⟨OB, us, lab, h⟩ := h
  exact h.r5
theorem SV.cell2 (h : SV w0 w b lo n g1 g2 g3 g4 g5 s R W B V st) (hL : W[i]? = some L) : ∃ a c, w.cell? ⟨g2, i, none⟩ = some (.slice a L.length c) ∧ g2 < w.heap.size ∧ L.length ≤ c ∧ c ≤ 9223372036854775807 ∧ ∀ j e, L[j]? = some e → ∃ g o, a = some ⟨g, o, none⟩ ∧ g < w.heap.size ∧ w.cell? ⟨g, o + j, none⟩ = some (.int .i64 e) := by
  obtain ⟨OB, us, lab, h⟩ := h
  have hi : i < us.length := by rw [h.ul]; exact (List.getElem?_eq_some_iff.1 hL).1
  have hu := List.getElem?_eq_getElem hi
  obtain ⟨hq, _⟩ := h.uw i _ L hu hL
  obtain ⟨a, c, hs⟩ := hq.shape
  rw [hs] at hq
  have hir : Vg.IR w a c L := Vg.IR.of_rd hq.reads rfl
  refine ⟨a, c, by rw [Vg.cells_of h.r2]; simp [hi, hs], Vg.lt_of h.r2, hir.1, hir.2.1, fun j e he => ?_⟩
  obtain ⟨hj, rfl⟩ := List.getElem?_eq_some_iff.1 he
  obtain ⟨g, o, e1, e2, e3⟩ := hir.2.2 j hj
  exact ⟨g, o, e1, e2, e3⟩
end
/-- As a plain state has it. -/
def SP (w0 w : World) (b lo n g1 g2 g3 g4 g5 : Nat) (P : Vg.Sp) : Prop := SV w0 w b lo n g1 g2 g3 g4 g5 P.s (P.X.map Vg.Lr.r) (P.X.map Vg.Lr.w) (P.X.map Vg.Lr.b) (P.X.map Vg.Lr.v) P.st
section
variable {w0 w w' w1 : World} {b lo n g1 g2 g3 g4 g5 i N q : Nat} {P : Vg.Sp}
theorem SP.grows (h : SP w0 w b lo n g1 g2 g3 g4 g5 P) (hg : Vg.Grows w w') : SP w0 w' b lo n g1 g2 g3 g4 g5 P := SV.grows h hg
theorem sp_unmask (h : SP w0 w b lo n g1 g2 g3 g4 g5 P) (hI : P.I N q) (hw0 : 0 < w0.heap.size) (hn : P.now ≤ 4503599627370496) {now : Int} (hnow : P.now = now) :
    Calls Tryd.prog 8 #[.pointer (some ⟨b, 0, none⟩), .int .i64 now] w fun e w' => ∃ v P', e = .returned (.tuple #[v, .int .i64 0]) ∧ SP w0 w' b lo n g1 g2 g3 g4 g5 P' ∧ P'.I N q ∧ P'.now = now := by
  subst hnow
  obtain ⟨OB, us, lab, h⟩ := h
  refine (qs_unmask P.now h.qs h.tab h.lo0.1 hI.la hn).mono ?_
  rintro e w' ⟨v, s', rfl, hq, hc, hl⟩
  obtain ⟨P', p1, p2, p3, p4, p5, p6, p7, p8⟩ := hI.calm hc (by omega)
  refine ⟨v, P', rfl, ?_, p1, p4⟩
  unfold SP
  rw [p2, p3, p5, p6, p7, p8]
  exact h.irq hw0 hq
theorem sp_take (h : SP w0 w b lo n g1 g2 g3 g4 g5 P) (hI : P.I N q) (hw0 : 0 < w0.heap.size) (hn : P.now ≤ 4503599627370496) (hq : q ≤ 1000000) {now : Int} (hnow : P.now = now) :
    Calls Tryd.prog 9 #[.pointer (some ⟨b, 0, none⟩), .int .i64 now] w fun e w' => ∃ k er, ((e = .returned (.tuple #[.int .i64 k, .bool false, .int .i64 er]) ∧ ∃ P', SP w0 w' b lo n g1 g2 g3 g4 g5 P' ∧ P'.I N q ∧ P'.now = now) ∨
      (∃ i : Nat, k = i ∧ i < N ∧ e = .returned (.tuple #[.int .i64 k, .bool true, .int .i64 er]) ∧ g3 < w'.heap.size ∧ (∀ j, w'.frozen? ⟨g3, j, none⟩ = false) ∧ (w'.cell? ⟨g3, i, none⟩).isSome = true ∧ ∃ P', SP w0 (w'.setCell ⟨g3, i, none⟩ (.int .i64 now)) b lo n g1 g2 g3 g4 g5 P' ∧ P'.I N q ∧ P'.now = now)) := by
  subst hnow
  obtain ⟨OB, us, lab, h⟩ := h
  have hsrv : ∀ y ∈ P.s.ls, 0 ≤ y.srv ∧ y.srv ≤ 4611686018427387904 := fun y hy => by
    have hy : y ∈ P.X.map Vg.Lr.y := hy
    obtain ⟨x, hx, rfl⟩ := List.mem_map.1 hy
    obtain ⟨j, hL⟩ := hI.mem hx
    have h1 := hL.sv
    have h2 := hL.wl
    have h3 := hL.rl
    have h4 := hL.l0
    have h5 := hL.v0
    have h6 := Vg.b01_bd (p := P.c.pe.testBit j = true)
    have h7 := Vg.b01_bd (p := j ∈ Vg.Sp.ks P.S)
    have h8 : ∀ (l : List Vg.Lr), (∀ z ∈ l, 0 ≤ z.r) → x ∈ l → x.r ≤ Vg.isum (l.map Vg.Lr.r) := by
      intro l
      induction l with
      | nil => intro _ hx; simp at hx
      | cons a l ih =>
        intro h0 hx
        have hs0 : ∀ (l : List Vg.Lr), (∀ z ∈ l, 0 ≤ z.r) → 0 ≤ Vg.isum (l.map Vg.Lr.r) := by
          intro l
          induction l with
          | nil => intro _; exact Int.le_refl _
          | cons b l ih2 =>
            intro h0
            have h1 := h0 b (by simp)
            have h2 := ih2 fun z hz => h0 z (by simp [hz])
            simp only [List.map_cons, Vg.isum]; omega
        have ha := h0 a (by simp)
        have hl := hs0 l fun z hz => h0 z (by simp [hz])
        rcases List.mem_cons.1 hx with rfl | hx
        · simp only [List.map_cons, Vg.isum]; omega
        · have := ih (fun z hz => h0 z (by simp [hz])) hx
          simp only [List.map_cons, Vg.isum]; omega
    have h9 := h8 P.X (fun z hz => by
      obtain ⟨j, hL⟩ := hI.mem hz
      have := hL.vr
      have := hL.v0
      omega) hx
    have := hI.rq
    omega
  refine (qs_take P.now h.qs h.tab h.lo0.1 hsrv).mono ?_
  rintro e w' ⟨k, is, er, s', rfl, hq, hT⟩
  refine ⟨k, er, ?_⟩
  rcases hT with ⟨rfl, rfl, rfl, rfl, hno⟩ | ⟨rfl, _, _, hl, hT⟩
  · have h1 := hI.la
    have h2 : P.s.last = P.last := rfl
    omega
  · rcases hT with ⟨rfl, rfl, hc⟩ | ⟨rfl, i, sm, y, y', rfl, hc, hy, hE, hp, hk, rfl⟩
    · obtain ⟨P', p1, p2, p3, p4, p5, p6, p7, p8⟩ := hI.calm hc (by omega)
      refine .inl ⟨rfl, P', ?_, p1, p4⟩
      unfold SP
      rw [p2, p3, p5, p6, p7, p8]
      exact h.irq hw0 hq
    · obtain ⟨P', p1, p2, p3, p4, p5, p6, p7, p8⟩ := hI.calm (s' := { sm with last := P.last }) ⟨hc.pe, hc.pr, hc.st, hc.S, hc.ls⟩ hI.la
      have hi : i < N := hI.pin i hp
      obtain ⟨x, hx⟩ := p1.at hi
      have hls : P'.X.map Vg.Lr.y = sm.ls := congrArg Vg.Iq.ls p2
      have hcc : P'.c = sm.c := congrArg Vg.Iq.c p2
      have hSS : P'.S = sm.S := congrArg Vg.Iq.S p2
      have hxy : x.y = y := by
        have h9 := Vg.map_get (f := Vg.Lr.y) hx
        rw [hls, hy] at h9
        exact (Option.some.inj h9).symm
      have hsv := h.irq hw0 hq
      have hb := p1.begin (la := P.now) hx (by rw [hcc, hc.pe]; exact hp) (by rw [hcc, hc.st]; exact hk) (by rw [hxy, p4]; exact hE) (by omega)
      have hgb : ∃ xb, (P.X.map Vg.Lr.b)[i]? = some xb := ⟨x.b, by rw [← p7]; exact Vg.map_get hx⟩
      obtain ⟨xb, hxb⟩ := hgb
      have hcell := SV.cell3 hsv hxb
      refine .inr ⟨i, rfl, hi, rfl, hcell.2.2, hcell.2.1, by rw [hcell.1]; rfl, _, ?_, hb, p4⟩
      have h3 := hsv.set3 hw0 i P.now
      unfold SP
      have ex : ∀ {β : Type} (f : Vg.Lr → β) (z : Vg.Lr), f z = f x → (P'.X.set i z).map f = P'.X.map f := fun f z hz => by
        apply List.ext_getElem?
        intro j
        rw [List.getElem?_map, List.getElem?_map, List.getElem?_set]
        split
        · rename_i hji
          subst hji
          rw [hx]
          split
          · simp [hz]
          · rename_i h9
            exact absurd (List.getElem?_eq_some_iff.1 hx).1 h9
        · rfl
      have e1 : (P'.X.set i { x with y := { y' with srv := x.y.srv + 1 }, b := P'.now }).map Vg.Lr.r = P.X.map Vg.Lr.r := (ex Vg.Lr.r { x with y := { y' with srv := x.y.srv + 1 }, b := P'.now } rfl).trans p5
      have e2 : (P'.X.set i { x with y := { y' with srv := x.y.srv + 1 }, b := P'.now }).map Vg.Lr.w = P.X.map Vg.Lr.w := (ex Vg.Lr.w { x with y := { y' with srv := x.y.srv + 1 }, b := P'.now } rfl).trans p6
      have e3 : (P'.X.set i { x with y := { y' with srv := x.y.srv + 1 }, b := P'.now }).map Vg.Lr.v = P.X.map Vg.Lr.v := (ex Vg.Lr.v { x with y := { y' with srv := x.y.srv + 1 }, b := P'.now } rfl).trans p8
      have e4 : (P'.X.set i { x with y := { y' with srv := x.y.srv + 1 }, b := P'.now }).map Vg.Lr.b = (P.X.map Vg.Lr.b).set i P.now := by rw [List.map_set, p7, p4]
      have e5 : Vg.Sp.s { P' with c := P'.c.ack i, S := P'.S ++ [⟨i, x.y.top, x.y.bot⟩], last := P.now, X := P'.X.set i { x with y := { y' with srv := x.y.srv + 1 }, b := P'.now } } = ⟨sm.c.ack i, sm.ls.set i { y' with srv := y.srv + 1 }, sm.S ++ [⟨i, y.top, y.bot⟩], P.now⟩ := by
        unfold Vg.Sp.s
        simp only
        rw [List.map_set, hls, hcc, hSS, hxy]
      rw [e5]
      show SV w0 _ b lo n g1 g2 g3 g4 g5 _ ((P'.X.set i _).map _) ((P'.X.set i _).map _) ((P'.X.set i _).map _) ((P'.X.set i _).map _) P'.st
      rw [e1, e2, e3, e4, p3]
      exact h3
end
end Go.Proofs.YtekjnagojphmkaaDoor
