/- TopServed: what is raised, run, and done. -/
import Derived.Test.YtekjnagojphmkaaDoorSrvB
set_option linter.unusedSimpArgs false
set_option linter.unusedVariables false
set_option maxHeartbeats 4000000
set_option maxRecDepth 100000
namespace Vg
open Go
theorem map_set_eq {α β : Type} {l : List α} {i : Nat} {x z : α} (f : α → β) (hx : l[i]? = some x) (hz : f z = f x) : (l.set i z).map f = l.map f := by
  apply List.ext_getElem?
  intro j
  rw [List.getElem?_map, List.getElem?_map, List.getElem?_set]
  split
  · rename_i hji
    subst hji
    rw [hx]
    split
    · simp [hz]
    · rename_i h9
      exact absurd (List.getElem?_eq_some_iff.1 hx).1 h9
  · rfl
end Vg
namespace Go.Proofs.YtekjnagojphmkaaDoor
open Go.ChangeShapes Go.WideShapes Go.ChangeAt Go.RowKit
section
variable {w0 w w' w1 : World} {b lo n g1 g2 g3 g4 g5 i N q : Nat} {P : Vg.Sp} {s s' : Vg.Iq} {R : List Int} {W : List (List Int)} {B V : List Int} {st : Vg.St} {x : Vg.Lr}
theorem sv_raise (h : SV w0 w b lo n g1 g2 g3 g4 g5 s R W B V st) (hw0 : 0 < w0.heap.size) {y : Vg.Ln} {top r : Int} (hi : s.ls[i]? = some y) (h1 : 1 ≤ top ∧ top ≤ 1000) (hlo : 0 ≤ y.lost ∧ y.lost ≤ 4611686018427387904) (hx : s.raise i y top 0 = (s', r)) :
    Calls Tryd.prog 7 #[.pointer (some ⟨b, 0, none⟩), .int .i64 i, .int .i64 top, .int .i64 0] w fun e w' => e = .returned (.int .i64 r) ∧ SV w0 w' b lo n g1 g2 g3 g4 g5 s' R W B V st := by
  obtain ⟨OB, us, lab, h⟩ := h
  refine (qs_raise i top 0 h.qs hi ⟨h1.1, by omega⟩ ⟨by omega, by omega⟩ hlo hx).mono ?_
  rintro e w' ⟨rfl, hq⟩
  exact ⟨rfl, h.irq hw0 hq⟩
theorem sv_raise_b {OB : Nat → Prop} {us : List Value} {lab : Nat → Nat} {bx : Nat} {o : Obj} (h : SVx w0 w b lo n g1 g2 g3 g4 g5 s R W B V st OB us lab) (hbx : lab bx = 0) (hbo : Vg.blk w bx = some o) (hw0 : 0 < w0.heap.size) {y : Vg.Ln} {top r : Int} (hi : s.ls[i]? = some y) (h1 : 1 ≤ top ∧ top ≤ 1000) (hlo : 0 ≤ y.lost ∧ y.lost ≤ 4611686018427387904) (hx : s.raise i y top 0 = (s', r)) :
    Calls Tryd.prog 7 #[.pointer (some ⟨b, 0, none⟩), .int .i64 i, .int .i64 top, .int .i64 0] w fun e w' => e = .returned (.int .i64 r) ∧ ∃ OB' lab', SVx w0 w' b lo n g1 g2 g3 g4 g5 s' R W B V st OB' us lab' ∧ lab' bx = 0 ∧ Vg.blk w' bx = some o := by
  refine (qs_raise i top 0 h.qs hi ⟨h1.1, by omega⟩ ⟨by omega, by omega⟩ hlo hx).mono ?_
  rintro e w' ⟨rfl, hq⟩
  obtain ⟨OB', lab', h2, h3⟩ := h.irqx hw0 hq
  obtain ⟨_, _, _, ht⟩ := hq
  exact ⟨rfl, OB', lab', h2, h3 bx hbx (Vg.lt_of hbo), ht.bk hbo (fun hh => by have := h.l6 bx hh; omega)⟩
theorem SP.lose (h : SV w0 w b lo n g1 g2 g3 g4 g5 (P.s.setl i { x.y with lost := x.y.lost + 1 }) ((P.X.map Vg.Lr.r).set i (x.r + 1)) (P.X.map Vg.Lr.w) (P.X.map Vg.Lr.b) (P.X.map Vg.Lr.v) P.st) (hx : P.X[i]? = some x) :
    SP w0 w b lo n g1 g2 g3 g4 g5 { P with X := P.X.set i { x with y := { x.y with lost := x.y.lost + 1 }, r := x.r + 1 } } := by
  unfold SP
  show SV w0 w b lo n g1 g2 g3 g4 g5 ⟨P.c, (P.X.set i _).map Vg.Lr.y, P.S, P.last⟩ ((P.X.set i _).map _) ((P.X.set i _).map _) ((P.X.set i _).map _) ((P.X.set i _).map _) P.st
  rw [Vg.map_set_eq (z := { x with y := { x.y with lost := x.y.lost + 1 }, r := x.r + 1 }) Vg.Lr.w hx rfl, Vg.map_set_eq (z := { x with y := { x.y with lost := x.y.lost + 1 }, r := x.r + 1 }) Vg.Lr.b hx rfl, Vg.map_set_eq (z := { x with y := { x.y with lost := x.y.lost + 1 }, r := x.r + 1 }) Vg.Lr.v hx rfl, List.map_set, List.map_set]
  exact h
theorem SP.rise {top : Int} (h : SV w0 w b lo n g1 g2 g3 g4 g5 ⟨P.c.raise i, P.s.ls.set i { x.y with top := top, bot := 0 }, P.s.S, P.s.last⟩ ((P.X.map Vg.Lr.r).set i (x.r + 1)) ((P.X.map Vg.Lr.w).set i (x.w ++ [top])) (P.X.map Vg.Lr.b) (P.X.map Vg.Lr.v) P.st) (hx : P.X[i]? = some x) :
    SP w0 w b lo n g1 g2 g3 g4 g5 { P with c := P.c.raise i, X := P.X.set i { x with y := { x.y with top := top, bot := 0 }, r := x.r + 1, w := x.w ++ [top] } } := by
  unfold SP
  show SV w0 w b lo n g1 g2 g3 g4 g5 ⟨P.c.raise i, (P.X.set i _).map Vg.Lr.y, P.S, P.last⟩ ((P.X.set i _).map _) ((P.X.set i _).map _) ((P.X.set i _).map _) ((P.X.set i _).map _) P.st
  rw [Vg.map_set_eq (z := { x with y := { x.y with top := top, bot := 0 }, r := x.r + 1, w := x.w ++ [top] }) Vg.Lr.b hx rfl, Vg.map_set_eq (z := { x with y := { x.y with top := top, bot := 0 }, r := x.r + 1, w := x.w ++ [top] }) Vg.Lr.v hx rfl, List.map_set, List.map_set, List.map_set]
  exact h
theorem SP.fin {st' : Vg.St} {L : List Vg.Bg} {t : Int} (h : SV w0 w b lo n g1 g2 g3 g4 g5 ⟨P.c.fin, P.X.map Vg.Lr.y, L, P.last⟩ (P.X.map Vg.Lr.r) (P.X.map Vg.Lr.w) (P.X.map Vg.Lr.b) ((P.X.map Vg.Lr.v).set i (x.v + 1)) st') (hx : P.X[i]? = some x) :
    SP w0 w b lo n g1 g2 g3 g4 g5 { P with c := P.c.fin, S := L, X := P.X.set i { x with v := x.v + 1 }, st := st', now := t } := by
  unfold SP
  show SV w0 w b lo n g1 g2 g3 g4 g5 ⟨P.c.fin, (P.X.set i _).map Vg.Lr.y, L, P.last⟩ ((P.X.set i _).map _) ((P.X.set i _).map _) ((P.X.set i _).map _) ((P.X.set i _).map _) st'
  rw [Vg.map_set_eq (z := { x with v := x.v + 1 }) Vg.Lr.y hx rfl, Vg.map_set_eq (z := { x with v := x.v + 1 }) Vg.Lr.r hx rfl, Vg.map_set_eq (z := { x with v := x.v + 1 }) Vg.Lr.w hx rfl, Vg.map_set_eq (z := { x with v := x.v + 1 }) Vg.Lr.b hx rfl, List.map_set]
  exact h
theorem sp_take' (h : SP w0 w b lo n g1 g2 g3 g4 g5 P) (hI : P.I N q) (hw0 : 0 < w0.heap.size) (hn : P.now ≤ 4503599627370496) (hq : q ≤ 1000000) {now : Int} (hnow : P.now = now) :
    Calls Tryd.prog 9 #[.pointer (some ⟨b, 0, none⟩), .int .i64 now] w fun e w' => ∃ k er is, e = .returned (.tuple #[.int .i64 k, .bool is, .int .i64 er]) ∧ (is = false → ∃ P', SP w0 w' b lo n g1 g2 g3 g4 g5 P' ∧ P'.I N q ∧ P'.now = now) ∧
      (is = true → ∃ i : Nat, k = i ∧ i < N ∧ g3 < w'.heap.size ∧ (∀ j, w'.frozen? ⟨g3, j, none⟩ = false) ∧ (w'.cell? ⟨g3, i, none⟩).isSome = true ∧ ∃ P', SP w0 (w'.setCell ⟨g3, i, none⟩ (.int .i64 now)) b lo n g1 g2 g3 g4 g5 P' ∧ P'.I N q ∧ P'.now = now) := by
  refine (sp_take h hI hw0 hn hq hnow).mono ?_
  rintro e w' ⟨k, er, ⟨rfl, h1⟩ | ⟨i, h0, h1, rfl, h2⟩⟩
  · exact ⟨k, er, false, rfl, fun _ => h1, fun hh => by cases hh⟩
  · exact ⟨k, er, true, rfl, fun hh => (by cases hh), fun _ => ⟨i, h0, h1, h2⟩⟩
theorem sp_left (h : SP w0 w b lo n g1 g2 g3 g4 g5 P) {lf : Int} (hl : P.s.left = lf) : Calls Tryd.prog 10 #[.pointer (some ⟨b, 0, none⟩)] w fun e w' => e = .returned (.int .i64 lf) ∧ w = w' := by
  obtain ⟨OB, us, lab, h⟩ := h
  exact qs_left h.qs hl
theorem sp_served (h : SP w0 w b lo n g1 g2 g3 g4 g5 P) (hx : P.X[i]? = some x) : Calls Tryd.prog 13 #[.pointer (some ⟨b, 0, none⟩), .int .i64 i] w fun e w' => e = .returned (.int .i64 x.y.srv) ∧ w = w' := by
  obtain ⟨OB, us, lab, h⟩ := h
  exact qs_served i h.qs (Vg.map_get (f := Vg.Lr.y) hx)
theorem sp_lost (h : SP w0 w b lo n g1 g2 g3 g4 g5 P) (hx : P.X[i]? = some x) : Calls Tryd.prog 14 #[.pointer (some ⟨b, 0, none⟩), .int .i64 i] w fun e w' => e = .returned (.int .i64 x.y.lost) ∧ w = w' := by
  obtain ⟨OB, us, lab, h⟩ := h
  exact qs_lost i h.qs (Vg.map_get (f := Vg.Lr.y) hx)
theorem left_bd {L : List Vg.Bg} {z : Vg.Bg} (hI : P.I N q) (hS : P.S = L ++ [z]) : 1 ≤ z.left ∧ z.left ≤ 1000 ∧ ∃ x, P.X[z.k]? = some x := by
  obtain ⟨x, hx⟩ := hI.at (hI.kin z (by rw [hS]; simp))
  have hL := hI.line z.k x hx
  obtain ⟨a1, e, a2, a3, a4⟩ := hL.stk z (by rw [hS]; simp) rfl
  have := hL.el e (List.mem_iff_getElem?.2 ⟨_, a2⟩)
  exact ⟨a1, by omega, x, hx⟩
theorem sp_run (h : SP w0 w b lo n g1 g2 g3 g4 g5 P) (hI : P.I N q) (hw0 : 0 < w0.heap.size) {L : List Vg.Bg} {z : Vg.Bg} {m : Int} (hS : P.S = L ++ [z]) (h0 : 0 < m) (h1 : m < z.left) :
    Calls Tryd.prog 11 #[.pointer (some ⟨b, 0, none⟩), .int .i64 m] w fun e w' => e = .returned (.tuple #[toppedV 0 0, .bool false, .int .i64 0]) ∧ SP w0 w' b lo n g1 g2 g3 g4 g5 { P with S := L ++ [{ z with left := z.left - m }], now := P.now + m } := by
  have hb := left_bd hI hS
  obtain ⟨OB, us, lab, h⟩ := h
  refine (qs_run m h.qs (L := L) (y := z) hS (by omega) h1 (by omega)).mono ?_
  rintro e w' ⟨rfl, hq⟩
  exact ⟨rfl, h.irq hw0 hq⟩
theorem sp_run_done (h : SP w0 w b lo n g1 g2 g3 g4 g5 P) (hI : P.I N q) (hw0 : 0 < w0.heap.size) {L : List Vg.Bg} {z : Vg.Bg} {m : Int} (hS : P.S = L ++ [z]) (hm : z.left = m) {k : Nat} {bo : Int} (hk : z.k = k) (hbo : z.bot = bo) :
    Calls Tryd.prog 11 #[.pointer (some ⟨b, 0, none⟩), .int .i64 m] w fun e w' => e = .returned (.tuple #[toppedV k bo, .bool true, .int .i64 0]) ∧ SV w0 w' b lo n g1 g2 g3 g4 g5 ⟨P.c.fin, P.X.map Vg.Lr.y, L, P.last⟩ (P.X.map Vg.Lr.r) (P.X.map Vg.Lr.w) (P.X.map Vg.Lr.b) (P.X.map Vg.Lr.v) P.st := by
  have hb := left_bd hI hS
  obtain ⟨OB, us, lab, h⟩ := h
  refine (qs_run_done h.qs (L := L) (y := z) hS (by omega) (by omega) hm hk hbo).mono ?_
  rintro e w' ⟨rfl, hq⟩
  exact ⟨rfl, h.irq hw0 hq⟩
/-- All begins. -/
theorem SV.start {OB : Nat → Prop} (hg : Vg.Grows w w1) (hT : Vg.Tab w) (hq : QS w1 b lo n s OB) (h0 : 0 < lo) (h1 : w.heap.size ≤ lo) (N : Nat) :
    SV w (((((w1.alloc (Vg.rowC (List.replicate N 0) 3)).alloc (.cells (List.replicate N (.slice none 0 0)).toArray 31)).alloc (Vg.rowC (List.replicate N 0) 2)).alloc (Vg.rowC (List.replicate N 0) 3)).alloc (statC ⟨0, 0, 0, 0, 0⟩)) b lo n w1.heap.size (w1.heap.size + 1) (w1.heap.size + 2) (w1.heap.size + 3) (w1.heap.size + 4) s (List.replicate N 0) (List.replicate N []) (List.replicate N 0) (List.replicate N 0) ⟨0, 0, 0, 0, 0⟩ := by
  obtain ⟨W, hW⟩ : ∃ W, (((((w1.alloc (Vg.rowC (List.replicate N 0) 3)).alloc (.cells (List.replicate N (.slice none 0 0)).toArray 31)).alloc (Vg.rowC (List.replicate N 0) 2)).alloc (Vg.rowC (List.replicate N 0) 3)).alloc (statC ⟨0, 0, 0, 0, 0⟩)) = W := ⟨_, rfl⟩
  have hgW : Vg.Grows w1 W := by rw [← hW]; exact ((((((Vg.Grows.refl w1).alloc _).alloc _).alloc _).alloc _).alloc _)
  have hsW : W.heap.size = w1.heap.size + 5 := by rw [← hW]; simp
  have b1 : Vg.blk W w1.heap.size = some (Vg.rowC (List.replicate N 0) 3) := by rw [← hW]; simp [go_sem]
  have b2 : Vg.blk W (w1.heap.size + 1) = some (.cells (List.replicate N (.slice none 0 0)).toArray 31) := by rw [← hW]; simp [go_sem]
  have b3 : Vg.blk W (w1.heap.size + 2) = some (Vg.rowC (List.replicate N 0) 2) := by rw [← hW]; simp [go_sem]
  have b4 : Vg.blk W (w1.heap.size + 3) = some (Vg.rowC (List.replicate N 0) 3) := by rw [← hW]; simp [go_sem]
  have b5 : Vg.blk W (w1.heap.size + 4) = some (statC ⟨0, 0, 0, 0, 0⟩) := by rw [← hW]; simp [go_sem]
  rw [hW]
  have hO : ∀ k, OB k → k < w1.heap.size ∧ lo ≤ k := fun k hk => ⟨(hq.own k hk).2, (hq.own k hk).1⟩
  have hsg := hg.size
  have hll := hq.lo_le
  classical
  let lab : Nat → Nat := fun k => if k = w1.heap.size then 1 else if k = w1.heap.size + 1 then 2 else if k = w1.heap.size + 2 then 3 else if k = w1.heap.size + 3 then 4 else if k = w1.heap.size + 4 then 5 else if OB k then 6 else 0
  refine ⟨OB, List.replicate N (.slice none 0 0), lab, ⟨hg.trans hgW, (hT.grows hg).grows hgW, ⟨h0, h1⟩, hq.grows hgW, b1, b2, by simp, fun i u L hu hL => ?_, b3, b4, b5, if_pos rfl, ?_, ?_, ?_, ?_, fun k hk => ?_, fun k hk => ?_⟩⟩
  · rw [List.getElem?_replicate] at hu hL
    split at hu
    · rename_i hlt
      rw [if_pos hlt] at hL
      cases hu
      cases hL
      exact ⟨Vg.Que.nil _ _ _ _, fun k hk => by simp [Value.ownBlock] at hk⟩
    · cases hu
  · show (if _ then 1 else if _ then 2 else _) = 2
    rw [if_neg (by omega), if_pos rfl]
  · show (if _ then 1 else if _ then 2 else if _ then 3 else _) = 3
    rw [if_neg (by omega), if_neg (by omega), if_pos rfl]
  · show (if _ then 1 else if _ then 2 else if _ then 3 else if _ then 4 else _) = 4
    rw [if_neg (by omega), if_neg (by omega), if_neg (by omega), if_pos rfl]
  · show (if _ then 1 else if _ then 2 else if _ then 3 else if _ then 4 else if _ then 5 else _) = 5
    rw [if_neg (by omega), if_neg (by omega), if_neg (by omega), if_neg (by omega), if_pos rfl]
  · have := hO k hk
    show (if _ then 1 else if _ then 2 else if _ then 3 else if _ then 4 else if _ then 5 else if _ then 6 else 0) = 6
    rw [if_neg (by omega), if_neg (by omega), if_neg (by omega), if_neg (by omega), if_neg (by omega), if_pos hk]
  · by_cases hk5 : w1.heap.size ≤ k ∧ k < w1.heap.size + 5
    · omega
    · by_cases hOk : OB k
      · have := hO k hOk; omega
      · exact absurd (show (if k = w1.heap.size then 1 else if k = w1.heap.size + 1 then 2 else if k = w1.heap.size + 2 then 3 else if k = w1.heap.size + 3 then 4 else if k = w1.heap.size + 4 then 5 else if OB k then 6 else 0) = 0 by
          rw [if_neg (by omega), if_neg (by omega), if_neg (by omega), if_neg (by omega), if_neg (by omega), if_neg hOk]) hk
end
end Go.Proofs.YtekjnagojphmkaaDoor
