/- PoolB, PoolC, PoolD, IMap, Wheel (put together). -/
import Derived.Test.YtlkdkgefjipjmaaGreatDoorQ3
import Derived.RangeFuncWrites
import Derived.Sort.LoopGhostIn
import Derived.Test.YtlkdkgefjipjmaaGreatDoorQ1
import Derived.Maps.OwnOps
import Derived.Maps.OwnSet
import Derived.Maps.Views
import Derived.Test.YtlkdkgefjipjmaaGreatDoorQ0
import Derived.Laws.BitsLemmas
set_option linter.unusedSimpArgs false
set_option linter.unusedVariables false
set_option maxHeartbeats 40000000
set_option maxRecDepth 100000
namespace Vg
open Go
abbrev En (n : Nat) := { i : Nat // i < n }
theorem hdT_if (A : List Nat) : (if hdT A (-1) = -1 then 0 else hdT A (-1)) = ((A.headD 0 : Nat) : Int) := by
 cases A with
 | nil => rfl
 | cons i A => simp [hdT]
theorem emp_map {α β : Type} (f : α -> β) (A : List α) : (A.map f).isEmpty = A.isEmpty := by cases A <;> rfl
theorem hdT_is (A : List Nat) : (!decide (hdT A (-1) = -1)) = !A.isEmpty := by
 cases A with
 | nil => rfl
 | cons i A => simp [hdT]
end Vg
namespace Go.Proofs.YtlkdkgefjipjmaaGreatDoor
open Go.ChangeShapes Go.WideShapes Go.ChangeAt Go.RowKit Go.Shelf
attribute [local go_sem] Oper.semAt_some
def PL (w : World) (b g1 g2 n m : Nat) (L : Nat -> List Nat) (F : List Nat) : Prop := ∃ s, PO w b g1 g2 n m s /\ Vg.PI n m s L F
def PLn (w w' : World) (b g1 g2 n m : Nat) (L : Nat -> List Nat) (F : List Nat) : Prop := PL w' b g1 g2 n m L F /\ Vg.Touch (pown b g1 g2) w w'
section
variable {w w0 w' : World} {b g1 g2 n m l i : Nat} {L : Nat -> List Nat} {F A B : List Nat}
theorem PL.grows (h : PL w b g1 g2 n m L F) (hg : Vg.Grows w w') : PL w' b g1 g2 n m L F := by obtain ⟨s, h1, h2⟩ := h; exact ⟨s, h1.grows hg, h2⟩
theorem PL.touch {t : Nat -> Prop} (h : PL w b g1 g2 n m L F) (ht : Vg.Touch t w w') (hv : ∀ k, pown b g1 g2 k -> ¬ t k) : PL w' b g1 g2 n m L F := by obtain ⟨s, h1, h2⟩ := h; exact ⟨s, h1.touch ht hv, h2⟩
theorem PL.kept (h : PL w b g1 g2 n m L F) (hk : ∀ k, pown b g1 g2 k -> w'.heap[k]? = w.heap[k]?) : PL w' b g1 g2 n m L F := by
 obtain ⟨s, h1, h2⟩ := h
 exact ⟨s, ⟨(hk b (.inl rfl)).trans h1.tab, (hk g1 (.inr (.inl rfl))).trans h1.lk, (hk g2 (.inr (.inr rfl))).trans h1.ls, h1.n1, h1.n2, h1.n3, h1.kl, h1.el, h1.nn, h1.mm⟩, h2⟩
theorem PL.lt (h : PL w b g1 g2 n m L F) : ∀ k, pown b g1 g2 k -> k < w.heap.size := by
 obtain ⟨s, h1, h2⟩ := h
 rintro k (rfl | rfl | rfl)
 ·exact h1.lt.1
 ·exact h1.lt.2.1
 ·exact h1.lt.2.2
theorem pool_first (l : Nat) (h : PL w b g1 g2 n m L F) (hl : l < m) {f : Nat} {is : Bool} (hf : (L l).headD 0 = f) (his : (!(L l).isEmpty) = is) :
  Calls Tryz.prog 180 #[.pointer (some ⟨b, 0, none⟩), .int .i64 l] w fun e w' => e = .returned (.tuple #[.int .i64 f, .bool is]) /\ w = w' := by
 obtain ⟨s, h1, h2⟩ := h
 subst hf his
 rw [<- Vg.hdT_if, <- Vg.hdT_is]
 exact pl_first l h1 hl (h2.ends l hl).1
theorem pool_where (i : Nat) (h : PL w b g1 g2 n m L F) (hl : l < m) (hi : i ∈ L l) : Calls Tryz.prog 211 #[.pointer (some ⟨b, 0, none⟩), .int .i64 i] w fun e w' => e = .returned (.tuple #[.int .i64 l, .int .i64 0]) /\ w = w' := by
 obtain ⟨s, h1, h2⟩ := h
 obtain ⟨A, B, hLl⟩ := List.append_of_mem hi
 obtain ⟨q1, q2, _⟩ := h2.out hl hLl
 exact pl_where i h1 q1 q2 (by omega)
theorem pool_next (i : Nat) (h : PL w b g1 g2 n m L F) (hl : l < m) (hLl : L l = A ++ i :: B) {f : Nat} {is : Bool} (hf : B.headD 0 = f) (his : (!B.isEmpty) = is) :
  Calls Tryz.prog 222 #[.pointer (some ⟨b, 0, none⟩), .int .i64 i] w fun e w' => e = .returned (.tuple #[.int .i64 f, .bool is]) /\ w = w' := by
 obtain ⟨s, h1, h2⟩ := h
 obtain ⟨q1, q2, q3, q4, _⟩ := h2.out hl hLl
 subst hf his
 rw [<- Vg.hdT_if, <- Vg.hdT_is]
 exact pl_next i h1 q1 q2 (by omega) q4
theorem pool_take_no (l : Nat) (h : PL w b g1 g2 n m L []) (hl : l < m) : Calls Tryz.prog 151 #[.pointer (some ⟨b, 0, none⟩), .int .i64 l] w fun e w' => e = .returned (.tuple #[.int .i64 0, .int .i64 5]) /\ w = w' := by
 obtain ⟨s, h1, h2⟩ := h
 exact pl_take_no l h1 hl h2.pt
theorem pool_take (l : Nat) {f : Nat} (h : PL w b g1 g2 n m L (f :: F)) (hl : l < m) : Calls Tryz.prog 151 #[.pointer (some ⟨b, 0, none⟩), .int .i64 l] w fun e w' => e = .returned (.tuple #[.int .i64 f, .int .i64 0]) /\ PLn w w' b g1 g2 n m (Vg.upd L l (L l ++ [f])) F := by
 obtain ⟨s, h1, h2⟩ := h
 have hnl : (f :: F).length <= n := by
  have := List.Nodup.length_le_of_subset (l₁ := f :: F) (l₂ := List.range n) h2.fn fun j hj => List.mem_range.2 (h2.fr j hj)
  rw [List.length_range] at this
  exact this
 have hfr : 0 <= s.free /\ s.free <= 1000000 := by rw [h2.ff]; have := h1.nn; omega
 obtain ⟨q1, q2, q3, q4, q5, q6⟩ := h2.unpile
 refine (pl_take l f h1 hl q2 q1 q3 hfr (h2.ends l hl).2 (h2.lst_rng hl)).mono ?_
 rintro e w' ⟨rfl, h3, ht⟩
 exact ⟨rfl, ⟨_, h3, q6.put q1 hl q4 q5⟩, ht⟩
theorem pool_give (i : Nat) (h : PL w b g1 g2 n m L F) (hl : l < m) (hLl : L l = A ++ i :: B) : Calls Tryz.prog 226 #[.pointer (some ⟨b, 0, none⟩), .int .i64 i] w fun e w' => e = .returned (.int .i64 0) /\ PLn w w' b g1 g2 n m (Vg.upd L l (A ++ B)) (i :: F) := by
 obtain ⟨s, h1, h2⟩ := h
 have hnl : F.length <= n := by
  have := List.Nodup.length_le_of_subset (l₁ := F) (l₂ := List.range n) h2.fn fun j hj => List.mem_range.2 (h2.fr j hj)
  rw [List.length_range] at this
  exact this
 have hfr : 0 <= s.free /\ s.free <= 1000000 := by rw [h2.ff]; have := h1.nn; omega
 obtain ⟨q1, q2, q3, q4, q5, q6, q7, q8, q9⟩ := h2.out hl hLl
 refine (pl_give i l h1 q1 hl q2 q3 q4 q5 q6 hfr).mono ?_
 rintro e w' ⟨rfl, h3, ht⟩
 exact ⟨rfl, ⟨_, h3, q7.pile q1 q8 q9⟩, ht⟩
theorem pool_move (i l2 : Nat) (h : PL w b g1 g2 n m L F) (hl : l < m) (hl2 : l2 < m) (hLl : L l = A ++ i :: B) {L' : Nat -> List Nat} (hL' : Vg.upd L l (A ++ B) = L') :
  Calls Tryz.prog 183 #[.pointer (some ⟨b, 0, none⟩), .int .i64 i, .int .i64 l2] w fun e w' => e = .returned (.int .i64 0) /\ PLn w w' b g1 g2 n m (Vg.upd L' l2 (L' l2 ++ [i])) F := by
 subst hL'
 obtain ⟨s, h1, h2⟩ := h
 obtain ⟨q1, q2, q3, q4, q5, q6, q7, q8, q9⟩ := h2.out hl hLl
 refine (pl_move i l l2 h1 q1 hl hl2 q2 q3 q4 q5 q6 (q7.ends l2 hl2).2 (q7.lst_rng hl2)).mono ?_
 rintro e w' ⟨rfl, h3, ht⟩
 exact ⟨rfl, ⟨_, h3, q7.put q1 hl2 q8 q9⟩, ht⟩
theorem pool_each (b l : Nat) (w : World) :
  Calls Tryz.prog 207 #[.pointer (some ⟨b, 0, none⟩), .int .i64 l] w fun e w' => e = .returned (.func (.func 221) #[] #[.pointer (some ⟨w.heap.size, 0, none⟩), .pointer (some ⟨w.heap.size + 1, 0, none⟩)]) /\ w' = (w.alloc (.cells #[.pointer (some ⟨b, 0, none⟩)] 265)).alloc (.cells #[.int .i64 l] 3) := by
 go_enter Tryz.func207, Tryz.ntmps207
 go_wp2
 go_ret
 exact ⟨rfl, rfl⟩
end
theorem pool_stops (k : Nat) (hk : 1 <= k) (S : Nat -> Prop) (B1 B2 b g1 g2 n m l : Nat) (L : Nat -> List Nat) (F : List Nat) (hl : l < m) (LS : List (Vg.En n)) (hLS : LS.map (·.1) = L l) (w : World)
  (hS1 : ∀ j, pown b g1 g2 j -> S j) (hS2 : S B1) (hS3 : S B2) (hlt : ∀ k, S k -> k < w.heap.size)
  (hc1 : Vg.blk w B1 = some (.cells #[.pointer (some ⟨b, 0, none⟩)] 265)) (hc2 : Vg.blk w B2 = some (.cells #[.int .i64 l] 3)) (hpl : PL w b g1 g2 n m L F) :
  SeqStopsK Fence.wide k Tryz.prog 221 #[.pointer (some ⟨B1, 0, none⟩), .pointer (some ⟨B2, 0, none⟩)] (fun i : Vg.En n => #[.int .i64 (i.1 : Nat)]) (Vg.Kept S) (fun ys => ys = LS) (fun _ => True) LS.length w := fun l9 J Jx W hW hJ hJx hY hJ0 => by
 have kW : Vg.Kept S w W := Vg.Kept.of_below hW hlt
 have D1 := h_ (kW.blk hc1 hS2)
 have D2 := h_ (kW.blk hc2 hS3)
 have D3 := h_ (hpl.kept (w' := W) (fun k hk => kW.block k (hS1 k hk)))
 have e1 := Vg.cells_of D1.out 0
 have e2 := Vg.cells_of D2.out 0
 simp at e1 e2
 obtain ⟨f0, hf0⟩ : ∃ f0, (L l).headD 0 = f0 := ⟨_, rfl⟩
 obtain ⟨is0, his0⟩ : ∃ is0, (!(L l).isEmpty) = is0 := ⟨_, rfl⟩
 have H_hLS := h_ hLS; have H_hf0 := h_ hf0; have H_his0 := h_ his0; clear hLS hf0 his0
 refine callsIn_of_wp Tryz.func221 rfl trivial ?_ rfl
 simp only [Tryz.ntmps221, List.size_toArray, List.length_cons, List.length_nil, Nat.reduceAdd, Nat.reduceSub, Array.replicate_succ, Array.replicate_zero, List.push_toArray, List.append_toArray, List.nil_append, List.cons_append]
 gi_wp2_with (refine ⟨trivial, ?_⟩; gi_at_call 180; refine (callsIn_wide.2 (pool_first l D3.out hl H_hf0.out H_his0.out)).mono ?_; rintro e w1 ⟨rfl, rfl⟩)
 gi_loopg [4, 5] LS.length (fun k i is wr => ∃ A B, LS = A ++ B /\ k = B.length /\ i = .int .i64 ((B.map (·.1)).headD 0 : Nat) /\ is = .bool (!B.isEmpty) /\ J A wr /\ Vg.Kept S W wr)
 case atStart =>
  refine ⟨[], LS, rfl, rfl, ?_, ?_, hJ0, Vg.Kept.refl _ _⟩
  ·rw [<- H_hf0.out, <- H_hLS.out]
  ·rw [<- H_his0.out, <- H_hLS.out, Vg.emp_map]
 case round =>
  obtain ⟨A, B, hAB, hkB, rfl, rfl, hJj, hkp⟩ := hrel
  have d1 := hkp.blk D1.out hS2
  have d3 := D3.out.kept (w' := wr) (fun k hk => hkp.block k (hS1 k hk))
  have c10 := Vg.cells_of d1 0
  have hB1 := Vg.lt_of d1
  simp at c10
  cases B with
  | nil =>
   have hA : A = LS := by rw [hAB, List.append_nil]
   subst hA
   have H_hAB := h_ hAB; have H_hkB := h_ hkB; have H_d1 := h_ d1; have H_d3 := h_ d3; clear hAB hkB d1 d3
   gi_wp2
   go_end0
   exact ⟨⟨_, rfl⟩, .inl ⟨_, rfl, hJj⟩⟩
  | cons x B =>
   obtain ⟨fn, tmps, assign, body, hy1, hR⟩ := hY A x wr hJj (by rw [hAB]; simp)
   have hLl : L l = A.map (·.1) ++ x.1 :: B.map (·.1) := by rw [<- H_hLS.out, hAB]; simp
   have hAB2 : LS = (A ++ [x]) ++ B := by rw [hAB]; simp
   obtain ⟨f1, hf1⟩ : ∃ f1, (B.map (·.1)).headD 0 = f1 := ⟨_, rfl⟩
   obtain ⟨is1, his1⟩ : ∃ is1, (!(B.map (·.1)).isEmpty) = is1 := ⟨_, rfl⟩
   have hkB' : LS.length = LS.length := rfl
   have H_hAB := h_ hAB; have H_hkB := h_ hkB; have H_d1 := h_ d1; have H_d3 := h_ d3; have H_hLl := h_ hLl; have H_hAB2 := h_ hAB2; have H_hf1 := h_ hf1; have H_his1 := h_ his1; clear hAB hkB d1 d3 hLl hAB2 hf1 his1
   gi_wp2
   refine hR.mono ?_
   rintro e W3 (⟨rfl, hJ3, hk3⟩ | ⟨rfl, hJx3⟩)
   ·have d4 := H_d3.out.kept (w' := W3) (fun k hk => hk3.block k (hS1 k hk))
    have c11 := Vg.cells_of (hk3.blk H_d1.out hS2) 0
    have hB3 := Vg.lt_of (hk3.blk H_d1.out hS2)
    simp at c11
    have H_d4 := h_ d4; clear d4
    gi_wp2_with (refine ⟨trivial, ?_⟩; gi_at_call 222; refine (callsIn_wide.2 (pool_next x.1 H_d4.out hl H_hLl.out H_hf1.out H_his1.out)).mono ?_; rintro e w1 ⟨rfl, rfl⟩)
    gi_roundg B.length
    case measure => rw [H_hkB.out]; simp
    case rel => exact ⟨A ++ [x], B, H_hAB2.out, rfl, by rw [H_hf1.out], by rw [<- H_his1.out, Vg.emp_map], hJ3, hkp.trans hk3⟩
   ·gi_wp2
    refine bodyPost_ret (results_none rfl _ _ _) rfl ?_
    exact ⟨⟨_, rfl⟩, .inr ⟨_, trivial, hJx3⟩⟩
end Go.Proofs.YtlkdkgefjipjmaaGreatDoor
namespace Vg
open Go
theorem owns_weakp {B B' : Nat} {w : World} {e : TypeId} {size : Nat} {v : Value} {n : Nat} {xs : List Value} (h : w.ownsRow B e size v n xs) (hB : B' <= B) : w.ownsRow B' e size v n xs := by
 refine ⟨h.1, ?_⟩
 rcases h.2 with h0 | ⟨g, cap, cur, h1, hb, h2⟩
 ·exact .inl h0
 ·exact .inr ⟨g, cap, cur, h1, by omega, h2⟩
abbrev pnats {n : Nat} (l : List (En n)) : List Value := l.map fun i => Value.int .i64 (i.1 : Nat)
theorem pnats_eq {n : Nat} (l : List (En n)) {A : List Nat} (h : l.map (·.1) = A) : pnats l = pis (A.map fun i : Nat => (i : Int)) := by
 subst h; unfold pnats pis; simp
end Vg
namespace Go.Proofs.YtlkdkgefjipjmaaGreatDoor
open Go.ChangeShapes Go.WideShapes Go.ChangeAt Go.RowKit Go.Shelf
attribute [local go_sem] Oper.semAt_some
theorem Tryz.info_intp : (Tryz.prog.info? 3).map (fun i => (i.zero, i.size, i.bytes)) = some (some (.int .i64 0), 1, 8) := by kernel_rfl
theorem list_in (b g1 g2 n m l : Nat) (L : Nat -> List Nat) (F : List Nat) (hl : l < m) (LS : List (Vg.En n)) (hLS : LS.map (·.1) = L l) (w : World) (h : PL w b g1 g2 n m L F) (hn4 : LS.length <= 4096) :
  CallsIn Fence.wide 4 Tryz.prog 182 #[.pointer (some ⟨b, 0, none⟩), .int .i64 l] w fun e w' => ∃ u, e = .returned u /\ w'.ownsRow w.heap.size 3 1 u LS.length (Vg.pnats LS) /\ Below w.heap.size w w' := by
 have hlt := h.lt
 have hro : Fence.wide.round = none := rfl
 have hn1 : 1 <= 4 := by omega
 obtain ⟨i0, hi, hz0, hz1, hz2⟩ := info_parts Tryz.info_intp
 have hSS : ∀ k, (pown b g1 g2 k \/ k = w.heap.size + 1 \/ k = w.heap.size + 1 + 1) -> k < w.heap.size + 3 /\ k ≠ w.heap.size := by
  rintro k (hk | rfl | rfl)
  ·have := hlt k hk; omega
  ·omega
  ·omega
 have hS2 : ∀ k, (pown b g1 g2 k \/ k = w.heap.size + 1 \/ k = w.heap.size + 1 + 1) -> k < (((w.alloc (.cells #[.slice none 0 0] 138)).alloc (.cells #[.pointer (some ⟨b, 0, none⟩)] 265)).alloc (.cells #[.int .i64 l] 3)).heap.size := fun k hk => by
  have := (hSS k hk).1
  simp only [World.size_alloc]; omega
 have HSS := h_ hSS
 clear hSS
 have H_h := h_ h; have H_hLS := h_ hLS; clear h hLS
 refine callsIn_of_wp_marks Tryz.func182 rfl trivial ?_ rfl
 simp only [Tryz.ntmps182, List.size_toArray, List.length_cons, List.length_nil, Nat.reduceAdd, Nat.reduceSub, Array.replicate_succ, Array.replicate_zero, List.push_toArray, List.append_toArray, List.nil_append, List.cons_append]
 gi_wp2_with (first | (refine ⟨trivial, ?_⟩; gi_at_call 207; refine (callsIn_wide.2 (pool_each b l _)).mono ?_; rintro e w1 ⟨rfl, rfl⟩))
 have bO := Boxed.new w 138 (.slice none 0 0)
 have hB0 : Below w.heap.size w (((w.alloc (.cells #[.slice none 0 0] 138)).alloc (.cells #[.pointer (some ⟨b, 0, none⟩)] 265)).alloc (.cells #[.int .i64 l] 3)) := (((Below.refl _ w).alloc (Nat.le_refl _) _).alloc (by simp) _).alloc (by simp <;> omega) _
 refine wpIn_rangeFunc_ownG hro hn1 (gf := 221) (lb := #[.pointer (some ⟨w.heap.size + 1, 0, none⟩), .pointer (some ⟨w.heap.size + 1 + 1, 0, none⟩)]) rfl trivial (enters_of Tryz.func221 (by kernel_rfl) rfl)
  (pool_stops (4 - 1) (by omega) (fun k => pown b g1 g2 k \/ k = w.heap.size + 1 \/ k = w.heap.size + 1 + 1) (w.heap.size + 1) (w.heap.size + 1 + 1) b g1 g2 n m l L F hl LS H_hLS.out _ (fun j hj => .inl hj) (.inr (.inl rfl)) (.inr (.inr rfl)) hS2 (by go_simp) (by go_simp) (H_h.out.grows (Vg.gro))) Vg.Kept.trans
  (Vg.Kept.putObj hS2) (Below.refl _ _) (fun _ => rfl)
  (fun pre W => (∃ u, Boxed W w.heap.size 138 u /\ W.ownsRow (w.heap.size + 3) 3 1 u pre.length (Vg.pnats pre) /\ True) /\ (w.heap.size + 3 <= W.heap.size /\ Below w.heap.size w W))
  (fun _ _ _ => False)
  (OwnFrom.and (Own.from (holdsRow_own (w.heap.size + 3) w.heap.size 138 3 1 (fun pre : List (Vg.En n) => pre.length) (fun pre => Vg.pnats pre) (fun _ _ => True)) _) (OwnFrom.and (Vg.ownFrom_size _ _) (ownFrom_below (Nat.le_refl _) (by simp; omega))))
  (fun _ _ _ _ _ hs _ _ => hs)
  ⟨⟨_, (bO.alloc _).alloc _, World.ownsRow_nil _ _ _ _, trivial⟩, by simp, hB0⟩
  (fun x => { tmps := #[.pointer (some ⟨b, 0, none⟩), .int .i64 l, undef, undef, .slice none 0 0, .pointer (some ⟨w.heap.size, 0, none⟩), .int .i64 (x.1 : Nat), .pointer (some ⟨b, 0, none⟩), .int .i64 l, .func (.func 221) #[] #[.pointer (some ⟨w.heap.size + 1, 0, none⟩), .pointer (some ⟨w.heap.size + 1 + 1, 0, none⟩)], .int .i64 (x.1 : Nat), undef, undef, undef, undef, undef], defers := [] }) ?assign ?body ?done ?stop
 case assign =>
  intro l x W K hK
  gi_wp2
  exact hK
 case body =>
  rintro l pre x W ⟨⟨u, hv, hrow, -⟩, hsz, hB⟩ hlt
  have hc := hv.cell
  gi_wp2_with (gi_at_builtin; refine wpListIn_append_own _ rfl _ _ 138 rfl (w.heap.size + 3) 3 i0 (.int .i64 0) 1 8 Tryz.underlying138 hi hz0 hz1 hz2 rfl (by decide) _ _ _ rfl (hrow.alloc _) ⟨W.heap.size, 0, none⟩ 1 1 [.int .i64 (x.1 : Nat)] rfl rfl (cell_one_new _ _ _) (by simp [Value.oneCell']) (by unfold maxLen; omega) (by omega) (by simp; omega) ?_; intro v' w1 hown' hgrow _; obtain ⟨g', cap', rfl⟩ := ownsRow_succ hown'; obtain ⟨hv1, hv2, hr2, hk2, hb2, hkk2, hs2⟩ := Vg.appended (n₀ := w.heap.size) (S := fun k => pown b g1 g2 k \/ k = w.heap.size + 1 \/ k = w.heap.size + 1 + 1) hv (by decide) hrow hsz (Nat.le_refl _) (by omega) HSS.out hown' hgrow; have hc1 := hv1.cell; have hf1 := hv1.frozen)
  exact ⟨hk2.from _, hkk2, ⟨_, hv2, by simpa using hr2, trivial⟩, hs2, hB.trans hb2⟩
 case done =>
  rintro D ys W hD rfl ⟨⟨u, hv, hrow, -⟩, hsz, hB⟩ hK
  have hc := hv.cell
  gi_wp2
  refine ⟨by simp, .inl ⟨_, _, rfl, run_takeDeferred hK, ?_⟩⟩
  exact ⟨_, results_tmp rfl _ _ _, u, rfl, (Vg.owns_weakp (ownsRow_putObj hrow _ hK rfl) (by omega)), hB.trans (belowK_b (w := w) (Nat.le_refl _) W D _ _ (by simp at hD; omega) hK rfl rfl)⟩
 case stop =>
  rintro D c pre W _ _ h _
  exact h.elim
theorem pool_list {b g1 g2 n m : Nat} (l : Nat) {L : Nat -> List Nat} {F : List Nat} {w : World} (h : PL w b g1 g2 n m L F) (hl : l < m) {N : Nat} (hN : (L l).length = N) :
  Calls Tryz.prog 182 #[.pointer (some ⟨b, 0, none⟩), .int .i64 l] w fun e w' => ∃ a c, e = .returned (.slice a N c) /\ Vg.Que w' w.heap.size 3 1 (.slice a N c) N (Vg.pis ((L l).map fun i : Nat => (i : Int))) /\ Vg.Grows w w' := by
 have h0 := h
 obtain ⟨s, h1, h2⟩ := h
 have hnl : (L l).length <= n := by
  have := List.Nodup.length_le_of_subset (l₁ := L l) (l₂ := List.range n) (h2.nd l hl) fun j hj => List.mem_range.2 (h2.rng l hl j hj)
  rw [List.length_range] at this
  exact this
 have hnn := h1.nn
 obtain ⟨LS, hLS⟩ : ∃ LS : List (Vg.En n), LS.map (·.1) = L l := ⟨(L l).attach.map fun x => ⟨x.1, h2.rng l hl x.1 x.2⟩, by simp [List.map_map, Function.comp_def]⟩
 have hll : LS.length = N := by rw [<- hN, <- hLS, List.length_map]
 refine ((callsIn_wide (n := 4)).1 (list_in b g1 g2 n m l L F hl LS hLS w h0 (by omega))).mono ?_
 rintro e w' ⟨u, rfl, ho, hb⟩
 rw [hll, Vg.pnats_eq LS hLS] at ho
 have hq := Vg.Que.of_owns ho
 obtain ⟨a, c, rfl⟩ := hq.shape
 exact ⟨a, c, rfl, hq, Vg.Grows.of_below hb⟩
end Go.Proofs.YtlkdkgefjipjmaaGreatDoor
namespace Vg
open Go
theorem Touch.grp {w0 w w' : World} {t : Nat -> Prop} (h : Touch t w w') (hg : Grows w0 w) (ht : ∀ k, t k -> w0.heap.size <= k) : Grows w0 w' :=
 Grows.of_below ⟨h.os.trans hg.below.os, h.tape.trans hg.below.tape, h.output.trans hg.below.output, Nat.le_trans hg.size h.size, fun k hk =>
  (h.block k (Nat.lt_of_lt_of_le hk hg.size) (fun hh => by have := ht k hh; omega)).trans (hg.below.block k hk)⟩
theorem madeP3 (n : Nat) : madeCells #[.int .i64 0, .int .i64 0, .int .i64 0] n = (pis (List.replicate n 0)).toArray := by
 unfold madeCells pis
 apply Array.ext'
 simp
 apply List.ext_getElem
 ·simp
 ·intro i h1 h2
  simp
  have : i % 3 = 0 \/ i % 3 = 1 \/ i % 3 = 2 := by omega
  rcases this with h | h | h <;> simp [h]
theorem madeP2 (n : Nat) : madeCells #[.int .i64 0, .int .i64 0] n = (pis (List.replicate n 0)).toArray := by
 unfold madeCells pis
 apply Array.ext'
 simp
 apply List.ext_getElem
 ·simp
 ·intro i h1 h2
  simp
  have : i % 2 = 0 \/ i % 2 = 1 := by omega
  rcases this with h | h <;> simp [h]
theorem pch_range {n : Nat} {K : List Int} (h : ∀ i, i < n -> K[i * 3]? = some (-1) /\ K[i * 3 + 2]? = some (if i + 1 < n then ((i + 1 : Nat) : Int) else -1)) : ∀ k j, j + k = n -> pch K (List.range' j k)
 | 0, j, _ => trivial
 | k + 1, j, hj => by
  obtain ⟨h1, h2⟩ := h j (by omega)
  refine ⟨h1, ?_, pch_range h k (j + 1) (by omega)⟩
  rw [h2]
  cases k with
  | zero => rw [if_neg (by omega)]; rfl
  | succ k => rw [if_pos (by omega)]; rfl
end Vg
namespace Go.Proofs.YtlkdkgefjipjmaaGreatDoor
open Go.ChangeShapes Go.WideShapes Go.ChangeAt Go.RowKit
theorem Tryz.info_link : (Tryz.prog.info? 346).map (fun i => (i.zero, i.size, i.bytes)) = some (some (.agg #[.int .i64 0, .int .i64 0, .int .i64 0]), 3, 24) := by kernel_rfl
theorem Tryz.info_ends : (Tryz.prog.info? 348).map (fun i => (i.zero, i.size, i.bytes)) = some (some (.agg #[.int .i64 0, .int .i64 0]), 2, 16) := by kernel_rfl
theorem mk_links (n : Nat) (hn : n <= 4096) (w : World) : (Instr.makeSlice 341 (.int .i64 n) (.int .i64 n)).run Tryz.prog w = .ok (.slice (some ⟨w.heap.size, 0, none⟩) n n) (w.alloc (Vg.rowP (List.replicate (n * 3) 0) 346)) := by
 obtain ⟨i, hi, hz, hs, hb⟩ := info_parts Tryz.info_link
 have := run_make (P := Tryz.prog) w 341 346 i (.agg #[.int .i64 0, .int .i64 0, .int .i64 0]) Tryz.underlying341 hi hz .i64 .i64 n n (by omega) (by omega) (by rw [hb]; omega) (by omega)
 rw [hs] at this
 simp only [Int.toNat_natCast] at this
 rw [this, show (Value.agg #[.int .i64 0, .int .i64 0, .int .i64 0]).cells = #[.int .i64 0, .int .i64 0, .int .i64 0] from rfl, Vg.madeP3]
theorem mk_lists (n : Nat) (hn : n <= 4096) (w : World) : (Instr.makeSlice 342 (.int .i64 n) (.int .i64 n)).run Tryz.prog w = .ok (.slice (some ⟨w.heap.size, 0, none⟩) n n) (w.alloc (Vg.rowP (List.replicate (n * 2) 0) 348)) := by
 obtain ⟨i, hi, hz, hs, hb⟩ := info_parts Tryz.info_ends
 have := run_make (P := Tryz.prog) w 342 348 i (.agg #[.int .i64 0, .int .i64 0]) Tryz.underlying342 hi hz .i64 .i64 n n (by omega) (by omega) (by rw [hb]; omega) (by omega)
 rw [hs] at this
 simp only [Int.toNat_natCast] at this
 rw [this, show (Value.agg #[.int .i64 0, .int .i64 0]).cells = #[.int .i64 0, .int .i64 0] from rfl, Vg.madeP2]
theorem PO.startA (w : World) (n m : Nat) (hn : n <= 4096) (hm : m <= 512) : PO (((w.alloc (Vg.rowP (List.replicate (n * 3) 0) 346)).alloc (Vg.rowP (List.replicate (m * 2) 0) 348)).alloc (poolC w.heap.size (w.heap.size + 1) n m 0 n)) (w.heap.size + 1 + 1) w.heap.size (w.heap.size + 1) n m ⟨List.replicate (n * 3) 0, List.replicate (m * 2) 0, 0, n⟩ :=
 ⟨Vg.alloc_heap_at (by simp), (Vg.alloc_heap_past (by simp; omega)).trans ((Vg.alloc_heap_past (by simp)).trans (Vg.alloc_heap_at rfl)), (Vg.alloc_heap_past (by simp)).trans (Vg.alloc_heap_at (by simp)), by omega, by omega, by omega, by simp, by simp, hn, hm⟩
theorem PO.startB (w : World) (n m : Nat) (hn : n <= 4096) (hm : m <= 512) : PO (((w.alloc (Vg.rowP (List.replicate (m * 2) 0) 348)).alloc (Vg.rowP (List.replicate (n * 3) 0) 346)).alloc (poolC (w.heap.size + 1) w.heap.size n m 0 n)) (w.heap.size + 1 + 1) (w.heap.size + 1) w.heap.size n m ⟨List.replicate (n * 3) 0, List.replicate (m * 2) 0, 0, n⟩ :=
 ⟨Vg.alloc_heap_at (by simp), (Vg.alloc_heap_past (by simp)).trans (Vg.alloc_heap_at (by simp)), (Vg.alloc_heap_past (by simp; omega)).trans ((Vg.alloc_heap_past (by simp)).trans (Vg.alloc_heap_at rfl)), by omega, by omega, by omega, by simp, by simp, hn, hm⟩
theorem pown3 {b g1 g2 k z : Nat} (h1 : z <= b) (h2 : z <= g1) (h3 : z <= g2) (h : pown b g1 g2 k) : z <= k := by
 rcases h with rfl | rfl | rfl <;> assumption
def PNew (w w' : World) (n m : Nat) (e : Ending) : Prop := ∃ b g1 g2, e = .returned (.tuple #[.pointer (some ⟨b, 0, none⟩), .int .i64 0]) /\ PL w' b g1 g2 n m (fun _ => []) (List.range n) /\ (∀ k, pown b g1 g2 k -> w.heap.size <= k) /\ Vg.Grows w w'
theorem pool_new (n m : Nat) (w : World) (hn1 : 1 <= n) (hn : n <= 4096) (hm1 : 1 <= m) (hm : m <= 512) :
  Calls Tryz.prog 143 #[.int .i64 n, .int .i64 m] w fun e w' => PNew w w' n m e := by
 have h1 := mk_links n hn
 have h2 := mk_lists m (by omega)
 go_enter Tryz.func143, Tryz.ntmps143
 go_upto_region 3 with fail
 go_cut [6] (fun v6 wz => ∃ b g1 g2, v6 = .pointer (some ⟨b, 0, none⟩) /\ PO wz b g1 g2 n m ⟨List.replicate (n * 3) 0, List.replicate (m * 2) 0, 0, n⟩ /\ (∀ k, pown b g1 g2 k -> w.heap.size <= k) /\ Vg.Grows w wz)
 case first =>
  go_region
  all_goals go_wp2
  all_goals go_meet
  all_goals first
   | exact ⟨_, w.heap.size, w.heap.size + 1, rfl, (PO.startA w n m hn hm).grows ((Vg.Grows.refl _).drew), fun k hk => pown3 (by omega) (by omega) (by omega) hk, Vg.gro⟩
   | exact ⟨_, w.heap.size + 1, w.heap.size, rfl, (PO.startB w n m hn hm).grows ((Vg.Grows.refl _).drew), fun k hk => pown3 (by omega) (by omega) (by omega) hk, Vg.gro⟩
 case rest =>
  obtain ⟨b, g1, g2, rfl, hp, hw, hg⟩ := hcut
  clear h1 h2
  have hpn := POn.refl hp
  have z1 := hp.tab
  obtain ⟨c_z1, f_z1, p_z1, l_z1, H_z1⟩ := Vg.lay z1; clear z1
  have H_hp := h_ hp; have H_hw := h_ hw; have H_hg := h_ hg; have H_hpn := h_ hpn; clear hp hw hg hpn
  go_wp2_with fail
  go_loopw [35] (fun i wr => ∃ (k : Nat) (K : List Int), k <= n /\ i = .int .i64 k /\ POn wc wr b g1 g2 n m ⟨K, List.replicate (m * 2) 0, 0, n⟩ /\ ∀ j, j < k -> K[j * 3]? = some (-1) /\ K[j * 3 + 1]? = some (-1) /\ K[j * 3 + 2]? = some ((j : Int) + 1)) (fun i _ => n - (intOf i).toNat)
  case atStart => exact ⟨0, _, by omega, rfl, H_hpn.out, fun j hj => by omega⟩
  case round =>
   obtain ⟨k, K, hk, rfl, hp2, hpt⟩ := hrel
   clear c_z1 f_z1 p_z1 l_z1 H_z1
   have z2 := hp2.1.tab
   obtain ⟨fb, fK, fE⟩ := hp2.1.froz
   obtain ⟨lb, lK, lE⟩ := hp2.1.lt
   have hnn : n <= n := Nat.le_refl _
   by_cases hlt : k < n
   ·have hkI : (k : Int) < n := by omega
    have hkI0 : (0 : Int) <= k := by omega
    obtain ⟨k1, k2, k3, cK1, cK2, cK3⟩ := hp2.1.linkc hlt
    have hkl := hp2.1.kl
    have hw1 : IntKind.i64.wrap ((k : Int) + 1) = (k : Int) + 1 := by rw [IntKind.wrap_i64]; omega
    obtain ⟨c_z2, f_z2, p_z2, l_z2, H_z2⟩ := Vg.lay z2; clear z2
    have H_hp2 := h_ hp2; have H_hpt := h_ hpt; clear hp2 hpt
    go_wp2_with fail
    refine ⟨⟨k + 1, _, by omega, by go_num, ((H_hp2.out.setK (k * 3) (-1)).setK (k * 3 + 1) (-1)).setK (k * 3 + 2) ((k : Int) + 1), fun j hj => ?_⟩, by simp [intOf]; omega⟩
    have hkl : K.length = n * 3 := hkl
    by_cases hjk : j = k
    ·subst hjk
     refine ⟨?_, ?_, ?_⟩
     ·show (((K.set (j * 3) (-1)).set (j * 3 + 1) (-1)).set (j * 3 + 2) _)[j * 3]? = _
      rw [List.getElem?_set, if_neg (by omega), List.getElem?_set, if_neg (by omega), List.getElem?_set, if_pos rfl, if_pos (by omega)]
     ·show (((K.set (j * 3) (-1)).set (j * 3 + 1) (-1)).set (j * 3 + 2) _)[j * 3 + 1]? = _
      rw [List.getElem?_set, if_neg (by omega), List.getElem?_set, if_pos rfl, if_pos (by simp; omega)]
     ·show (((K.set (j * 3) (-1)).set (j * 3 + 1) (-1)).set (j * 3 + 2) _)[j * 3 + 2]? = _
      rw [List.getElem?_set, if_pos rfl, if_pos (by simp; omega)]
    ·obtain ⟨a1, a2, a3⟩ := H_hpt.out j (by omega)
     have hkj : k ≠ j := fun e => hjk e.symm
     have kc : ∀ c, c < 3 -> (((K.set (k * 3) (-1)).set (k * 3 + 1) (-1)).set (k * 3 + 2) ((k : Int) + 1))[j * 3 + c]? = K[j * 3 + c]? := fun c hc => by
      rw [Vg.set3 hkj (by omega) hc, Vg.set3 hkj (by omega) hc, Vg.set30 hkj hc]
     exact ⟨(kc 0 (by omega)).trans a1, (kc 1 (by omega)).trans a2, (kc 2 (by omega)).trans a3⟩
   ·have hkn : k = n := by omega
    subst hkn
    obtain ⟨q, rfl⟩ : ∃ q, k = q + 1 := ⟨k - 1, by omega⟩
    have hqI : IntKind.i64.wrap (((q + 1 : Nat) : Int) - 1) = (q : Int) := by rw [IntKind.wrap_i64]; omega
    have hqI1 : (q : Int) < ((q + 1 : Nat) : Int) := by omega
    have hqI0 : (0 : Int) <= q := by omega
    obtain ⟨k1, k2, k3, cK1, cK2, cK3⟩ := hp2.1.linkc (show q < q + 1 by omega)
    have hkl := hp2.1.kl
    obtain ⟨c_z2, f_z2, p_z2, l_z2, H_z2⟩ := Vg.lay z2; clear z2
    have H_hp2 := h_ hp2; have H_hpt := h_ hpt; clear hp2 hpt
    go_upto_region 10 with fail
    have hp3 := H_hp2.out.setK (q * 3 + 2) (-1)
    obtain ⟨K3, hK3⟩ : ∃ K3, K.set (q * 3 + 2) (-1) = K3 := ⟨_, rfl⟩
    have hpt3 : ∀ i, i < q + 1 -> K3[i * 3]? = some (-1) /\ K3[i * 3 + 2]? = some (if i + 1 < q + 1 then ((i + 1 : Nat) : Int) else -1) := fun i hi => by
     obtain ⟨a1, a2, a3⟩ := H_hpt.out i hi
     have hkl : K.length = (q + 1) * 3 := hkl
     rw [<- hK3]
     refine ⟨by rw [List.getElem?_set, if_neg (by omega)]; exact a1, ?_⟩
     by_cases hiq : i = q
     ·subst hiq
      rw [List.getElem?_set, if_pos rfl, if_pos (by omega), if_neg (by omega)]
     ·rw [List.getElem?_set, if_neg (by omega), if_pos (by omega), a3]
      congr 1
    have hp3 : POn wc (wr.setCell ⟨g1, q * 3 + 2, none⟩ (.int .i64 (-1))) b g1 g2 (q + 1) m ⟨K3, List.replicate (m * 2) 0, 0, ((q + 1 : Nat) : Int)⟩ := by rw [<- hK3]; exact hp3
    obtain ⟨w3, hw3⟩ : ∃ w3, wr.setCell ⟨g1, q * 3 + 2, none⟩ (.int .i64 (-1)) = w3 := ⟨_, rfl⟩
    rw [hw3] at hp3 ⊢
    clear hw3 c_z2 f_z2 p_z2 l_z2 H_z2 H_hp2 cK1 cK2 cK3 fb fK fE lb lK lE
    have z3 := hp3.1.tab
    obtain ⟨c_z3, f_z3, p_z3, l_z3, H_z3⟩ := Vg.lay z3; clear z3
    have H_hp3 := h_ hp3; have H_hpt3 := h_ hpt3; clear hp3 hpt3
    go_wp2_with fail
    go_loopw [61] (fun i wr => ∃ (k : Nat) (E : List Int), k <= m /\ i = .int .i64 k /\ POn wc wr b g1 g2 (q + 1) m ⟨K3, E, 0, ((q + 1 : Nat) : Int)⟩ /\ ∀ j, j < k -> E[j * 2]? = some (-1) /\ E[j * 2 + 1]? = some (-1)) (fun i _ => m - (intOf i).toNat)
    case atStart => exact ⟨0, _, by omega, rfl, H_hp3.out, fun j hj => by omega⟩
    case round =>
     obtain ⟨k, E, hk, rfl, hp4, hpt⟩ := hrel
     clear c_z3 f_z3 p_z3 l_z3 H_z3 H_hp3
     have z4 := hp4.1.tab
     obtain ⟨fb, fK, fE⟩ := hp4.1.froz
     obtain ⟨lb, lK, lE⟩ := hp4.1.lt
     have hmm : m <= m := Nat.le_refl _
     by_cases hlt : k < m
     ·have hkI : (k : Int) < m := by omega
      have hkI0 : (0 : Int) <= k := by omega
      obtain ⟨k1, k2, cE1, cE2⟩ := hp4.1.listc hlt
      have hel := hp4.1.el
      obtain ⟨c_z4, f_z4, p_z4, l_z4, H_z4⟩ := Vg.lay z4; clear z4
      have H_hp4 := h_ hp4; have H_hpt := h_ hpt; clear hp4 hpt
      go_wp2_with fail
      refine ⟨⟨k + 1, _, by omega, by go_num, (H_hp4.out.setE (k * 2) (-1)).setE (k * 2 + 1) (-1), fun j hj => ?_⟩, by simp [intOf]; omega⟩
      have hel : E.length = m * 2 := hel
      by_cases hjk : j = k
      ·subst hjk
       refine ⟨?_, ?_⟩
       ·show ((E.set (j * 2) (-1)).set (j * 2 + 1) (-1))[j * 2]? = _
        rw [List.getElem?_set, if_neg (by omega), List.getElem?_set, if_pos rfl, if_pos (by omega)]
       ·show ((E.set (j * 2) (-1)).set (j * 2 + 1) (-1))[j * 2 + 1]? = _
        rw [List.getElem?_set, if_pos rfl, if_pos (by simp; omega)]
      ·obtain ⟨a1, a2⟩ := H_hpt.out j (by omega)
       refine ⟨?_, ?_⟩
       ·show ((E.set (k * 2) (-1)).set (k * 2 + 1) (-1))[j * 2]? = _
        rw [List.getElem?_set, if_neg (by omega), List.getElem?_set, if_neg (by omega)]; exact a1
       ·show ((E.set (k * 2) (-1)).set (k * 2 + 1) (-1))[j * 2 + 1]? = _
        rw [List.getElem?_set, if_neg (by omega), List.getElem?_set, if_neg (by omega)]; exact a2
     ·have hkm : k = m := by omega
      subst hkm
      have H_hp4 := h_ hp4; have H_hpt := h_ hpt; clear hp4 hpt
      go_wp2_with fail
      go_returns
      refine ⟨b, g1, g2, rfl, ⟨_, H_hp4.out.1, ⟨H_hp4.out.1.kl, H_hp4.out.1.el, fun l hl => H_hpt.out l hl, fun l hl => trivial, fun l hl i hi => by simp at hi, fun l hl => List.nodup_nil, fun l hl k hk hne i hi => by simp at hi, ?_, ?_, fun i hi => List.mem_range.1 hi, List.nodup_range, fun l hl i hi => by simp at hi, ?_⟩⟩, H_hw.out, ?_⟩
      ·show (0 : Int) = _
       rw [List.range_succ_eq_map]; rfl
      ·show Vg.pch K3 _
       rw [List.range_eq_range']
       exact Vg.pch_range H_hpt3.out _ _ (by omega)
      ·show ((q + 1 : Nat) : Int) = _
       rw [List.length_range]
      ·exact H_hp4.out.2.grp H_hg.out H_hw.out
end Go.Proofs.YtlkdkgefjipjmaaGreatDoor
namespace Vg
open Go Go.RowKit Go.Maps
def IMap (w : World) (P : Program) (k e : TypeId) (b n : Nat) (f : Int -> Option Int) : Prop :=
 ∃ D : DataW Unit, w.ownsMap P k (plainElem P e) b n D /\ IsMap D /\ ∀ x, has D (.int .i64 x) = (f x).isSome /\ ∀ z, D.atKey (.int .i64 x) z = match f x with | some y => .lit (.int .i64 y) | none => z
section
variable {P : Program} {k e t : TypeId} {w w' : World} {b n : Nat} {f : Int -> Option Int}
theorem IMap.made (w : World) (P : Program) (k e : TypeId) : IMap (w.alloc (.map #[] 0)) P k e w.heap.size 0 (fun _ => none) :=
 ⟨.map [], World.ownsMap_made _ _ _ _, isMap_empty, fun x => ⟨rfl, fun z => rfl⟩⟩
theorem IMap.lt (h : IMap w P k e b n f) : b < w.heap.size := by obtain ⟨D, h1, _⟩ := h; exact h1.lt
theorem IMap.keep (h : IMap w P k e b n f) (hb : w'.heap[b]? = w.heap[b]?) : IMap w' P k e b n f := by
 obtain ⟨D, ⟨es, clock, hb0, F, hs, hD⟩, h2, h3⟩ := h
 exact ⟨D, ⟨es, clock, hb.trans hb0, F, hs, hD⟩, h2, h3⟩
theorem IMap.grows (h : IMap w P k e b n f) (hg : Grows w w') : IMap w' P k e b n f := h.keep (hg.below.block b h.lt)
theorem imap_look {D : DataW Unit} {y c : Int} (h : ∀ x, has D (.int .i64 x) = (f x).isSome /\ ∀ z, D.atKey (.int .i64 x) z = match f x with | some y => .lit (.int .i64 y) | none => z) (hc : D.atKey (.int .i64 y) (.lit (.int .i64 0)) = .lit (.int .i64 c)) : c = (f y).getD 0 /\ has D (.int .i64 y) = (f y).isSome := by
 obtain ⟨h1, h2⟩ := h y
 refine ⟨?_, h1⟩
 rw [h2] at hc
 cases hf : f y with
 | none => rw [hf] at hc; simp at hc; simp [hc]
 | some v => rw [hf] at hc; simp at hc; simp [hc]
theorem wpList_look_imap (w : World) {ops : Array Oper} {rest : List Oper} {o : Oper} {a : Act} {Q : Exit -> Act -> World -> Prop}
  (hg : o.guard = none) (m x : Operand) (t : TypeId) (hop : o.op = Op.lookup t m x true)
  (k e : TypeId) (hk : P.underlying k = some (.int .i64)) (ht : P.underlying t = some (.map k e)) (he : P.underlying e = some (.int .i64)) (hz : (zeroValue e).run P w = .ok (.int .i64 0) w) (b n : Nat) (f : Int -> Option Int)
  (hm : a.eval m = .map (some b)) (hown : IMap w P k e b n f) (y : Int) (hx : a.eval x = .int .i64 y) (hy : (Lit.int .i64 y).wf = true)
  (hK : wpList P ops Q rest (a.put o.dst (.tuple #[.int .i64 ((f y).getD 0), .bool (f y).isSome])) w) :
  wpList P ops Q (o :: rest) a w := by
 obtain ⟨D, h1, h2, h3⟩ := hown
 refine wpList_lookup_own_ok_int w hg m x t hop k e .i64 (int_keyed hk) ht he hz b n D hm h1 (.int .i64 y) (.int .i64 y) hx (keyOf_int_mk hk hy) fun c hc _ => ?_
 obtain ⟨q1, q2⟩ := imap_look h3 hc
 rw [q2, q1]
 exact hK
theorem wpList_at_imap (w : World) {ops : Array Oper} {rest : List Oper} {o : Oper} {a : Act} {Q : Exit -> Act -> World -> Prop}
  (hg : o.guard = none) (m x : Operand) (t : TypeId) (hop : o.op = Op.lookup t m x false)
  (k e : TypeId) (hk : P.underlying k = some (.int .i64)) (ht : P.underlying t = some (.map k e)) (he : P.underlying e = some (.int .i64)) (hz : (zeroValue e).run P w = .ok (.int .i64 0) w) (b n : Nat) (f : Int -> Option Int)
  (hm : a.eval m = .map (some b)) (hown : IMap w P k e b n f) (y : Int) (hx : a.eval x = .int .i64 y) (hy : (Lit.int .i64 y).wf = true)
  (hK : wpList P ops Q rest (a.put o.dst (.int .i64 ((f y).getD 0))) w) :
  wpList P ops Q (o :: rest) a w := by
 obtain ⟨D, h1, h2, h3⟩ := hown
 refine wpList_lookup_own_int w hg m x t hop k e .i64 (int_keyed hk) ht he hz b n D hm h1 (.int .i64 y) (.int .i64 y) hx (keyOf_int_mk hk hy) fun c hc _ => ?_
 obtain ⟨q1, q2⟩ := imap_look h3 hc
 rw [q1]
 exact hK
theorem turned_put (h : w.mapTurned w' b) : ∃ o, w' = put w b o := by
 obtain ⟨es, clock, es', clock', _, rfl⟩ := h
 exact ⟨_, rfl⟩
theorem wpList_set_imap (w : World) {ops : Array Oper} {rest : List Oper} {o : Oper} {a : Act} {Q : Exit -> Act -> World -> Prop}
  (hg : o.guard = none) (m x v : Operand) (t : TypeId) (hop : o.op = Op.mapUpdate t m x v)
  (k e : TypeId) (hk : P.underlying k = some (.int .i64)) (ht : P.underlying t = some (.map k e)) (he : P.underlying e = some (.int .i64)) (b n : Nat) (f : Int -> Option Int)
  (hm : a.eval m = .map (some b)) (hown : IMap w P k e b n f) (hn : n < maxLen) (y : Int) (hx : a.eval x = .int .i64 y) (hy : (Lit.int .i64 y).wf = true) (c : Int) (hv : a.eval v = .int .i64 c) (hc : (Lit.int .i64 c).wf = true)
  (hK : ∀ ob, IMap (put w b ob) P k e b (n + 1) (fun z => if z = y then some c else f z) -> wpList P ops Q rest (a.put o.dst undef) (put w b ob)) :
  wpList P ops Q (o :: rest) a w := by
 obtain ⟨D, h1, h2, h3⟩ := hown
 refine wpList_mapUpdate_in w hg m x v t hop k e (int_keyed hk) ht (plainElem P e) b n D hm h1 hn (.int .i64 y) (.int .i64 c) _ hx hv (keyOf_int_mk hk hy) (.lit (.int .i64 c)) [] (plainElem_int he hc) fun w' hown hturn => ?_
 obtain ⟨ob, rfl⟩ := turned_put hturn
 refine hK ob ⟨_, hown, h2.put _ _, fun z => ?_⟩
 by_cases h : z = y
 ·subst h
  refine ⟨by rw [has_put_same h2 (k := .int .i64 z) trivial]; simp, fun d => ?_⟩
  rw [atKey_put_same h2 (k := .int .i64 z) trivial]
  simp
 ·refine ⟨by rw [has_put_other (by simp [h]), (h3 z).1]; simp [h], fun d => ?_⟩
  rw [atKey_put_other (by simp [h])]
  simp only [if_neg h]
  exact (h3 z).2 d
theorem wpList_del_imap (w : World) {ops : Array Oper} {rest : List Oper} {o : Oper} {a : Act} {Q : Exit -> Act -> World -> Prop}
  (hg : o.guard = none) (m x : Operand) (t k : TypeId) (hop : o.op = Op.call { callee := Callee.builtin Builtin.delete, args := #[m, x], argTypes := #[t, k] })
  (e : TypeId) (hk : P.underlying k = some (.int .i64)) (ht : P.underlying t = some (.map k e)) (b n : Nat) (f : Int -> Option Int)
  (hm : a.eval m = .map (some b)) (hown : IMap w P k e b n f) (y : Int) (hx : a.eval x = .int .i64 y) (hy : (Lit.int .i64 y).wf = true)
  (hK : ∀ ob, IMap (put w b ob) P k e b n (fun z => if z = y then none else f z) -> wpList P ops Q rest (a.put o.dst (.tuple #[])) (put w b ob)) :
  wpList P ops Q (o :: rest) a w := by
 obtain ⟨D, h1, h2, h3⟩ := hown
 refine wpList_delete_own w hg m x t k hop e (int_keyed hk) ht (plainElem P e) b n D hm h1 (.int .i64 y) _ hx (keyOf_int_mk hk hy) fun w' hown hturn => ?_
 obtain ⟨ob, rfl⟩ := turned_put hturn
 refine hK ob ⟨_, hown, h2.del _, fun z => ?_⟩
 by_cases h : z = y
 ·subst h
  refine ⟨by rw [has_del_same]; simp, fun d => ?_⟩
  rw [atKey_del_same]
  simp
 ·refine ⟨by rw [has_del_other (by simp [h]), (h3 z).1]; simp [h], fun d => ?_⟩
  rw [atKey_del_other (by simp [h])]
  simp only [if_neg h]
  exact (h3 z).2 d
end
end Vg
namespace Vg
open Go
theorem wraps_i64x (n : Int) (h₀ : 0 <= n) (h₁ : n < 2 ^ 62) : IntKind.i64.wrap n = n := by rw [IntKind.wrap_i64]; omega
theorem i64_and63 (n : Int) : bits .and .i64 n 63 = n % 64 := by
 have h127 : (BitVec.ofInt 64 63).toNat = 2 ^ 6 - 1 := by decide
 have key : (BitVec.ofInt 64 n &&& BitVec.ofInt 64 63).toNat = (n % ((2 ^ 64 : Nat) : Int)).toNat % 2 ^ 6 := by
  rw [BitVec.toNat_and, BitVec.toNat_ofInt, h127, Nat.and_two_pow_sub_one_eq_mod]
 show IntKind.i64.wrap ((BitVec.ofInt 64 n &&& BitVec.ofInt 64 63).toNat : Nat) = n % 64
 rw [key, IntKind.wrap_i64]
 omega
def lev (k : Nat) : Int := match k with | 0 => 1 | 1 => 64 | 2 => 4096 | 3 => 262144 | _ => 16777216
def slotn (t : Int) (k : Nat) : Int := t / lev k % 64
def startn (t : Int) (k : Nat) (n : Int) : Int := t / lev (k + 1) * lev (k + 1) + n * lev k
end Vg
namespace Go.Proofs.YtlkdkgefjipjmaaGreatDoor
open Go.ChangeShapes Go.WideShapes Go.ChangeAt Go.RowKit
theorem wh_slot (t : Int) (k : Nat) (w : World) (hk : k < 4) (h0 : 0 <= t) (h1 : t <= 4503599627370496) : Calls Tryz.prog 178 #[.int .i64 t, .int .i64 k] w fun e w' => e = .returned (.int .i64 (Vg.slotn t k)) /\ w = w' := by
 have f0 : t.fdiv 1 = t := by simp
 have f1 : t.fdiv 64 = t / 64 := Int.fdiv_eq_ediv_of_nonneg _ (by omega)
 have f2 : t.fdiv 4096 = t / 4096 := Int.fdiv_eq_ediv_of_nonneg _ (by omega)
 have f3 : t.fdiv 262144 = t / 262144 := Int.fdiv_eq_ediv_of_nonneg _ (by omega)
 have hc : k = 0 \/ k = 1 \/ k = 2 \/ k = 3 := by omega
 rcases hc with rfl | rfl | rfl | rfl
 all_goals
  go_enter Tryz.func178, Tryz.ntmps178
  go_wp2
  go_ret
  refine ⟨ret_int ?_, rfl⟩
  rw [Vg.i64_and63]
  simp [Vg.slotn, Vg.lev]
theorem wh_start (t : Int) (k : Nat) (n : Int) (w : World) (hk : k < 4) (h0 : 0 <= t) (h1 : t <= 4503599627370496) (hn : 0 <= n /\ n < 64) : Calls Tryz.prog 179 #[.int .i64 t, .int .i64 k, .int .i64 n] w fun e w' => e = .returned (.int .i64 (Vg.startn t k n)) /\ Vg.Grows w w' := by
 obtain ⟨hn0, hn1⟩ := hn
 have f1 : t.fdiv 64 = t / 64 := Int.fdiv_eq_ediv_of_nonneg _ (by omega)
 have f2 : t.fdiv 4096 = t / 4096 := Int.fdiv_eq_ediv_of_nonneg _ (by omega)
 have f3 : t.fdiv 262144 = t / 262144 := Int.fdiv_eq_ediv_of_nonneg _ (by omega)
 have f4 : t.fdiv 16777216 = t / 16777216 := Int.fdiv_eq_ediv_of_nonneg _ (by omega)
 have j1 : bits .or .i64 (t / 64 * 64) n = t / 64 * 64 + n := bits_join .i64 62 (by decide) Vg.wraps_i64x 6 _ _ (by omega) (by omega) (by omega) (by omega) (by omega) (by omega)
 have j2 : bits .or .i64 (t / 4096 * 4096) (n * 64) = t / 4096 * 4096 + n * 64 := bits_join .i64 62 (by decide) Vg.wraps_i64x 12 _ _ (by omega) (by omega) (by omega) (by omega) (by omega) (by omega)
 have j3 : bits .or .i64 (t / 262144 * 262144) (n * 4096) = t / 262144 * 262144 + n * 4096 := bits_join .i64 62 (by decide) Vg.wraps_i64x 18 _ _ (by omega) (by omega) (by omega) (by omega) (by omega) (by omega)
 have j4 : bits .or .i64 (t / 16777216 * 16777216) (n * 262144) = t / 16777216 * 16777216 + n * 262144 := bits_join .i64 62 (by decide) Vg.wraps_i64x 24 _ _ (by omega) (by omega) (by omega) (by omega) (by omega) (by omega)
 have w1 : IntKind.i64.wrap (t / 64 * 64) = t / 64 * 64 := by rw [IntKind.wrap_i64]; omega
 have w2 : IntKind.i64.wrap (t / 4096 * 4096) = t / 4096 * 4096 := by rw [IntKind.wrap_i64]; omega
 have w3 : IntKind.i64.wrap (t / 262144 * 262144) = t / 262144 * 262144 := by rw [IntKind.wrap_i64]; omega
 have w4 : IntKind.i64.wrap (t / 16777216 * 16777216) = t / 16777216 * 16777216 := by rw [IntKind.wrap_i64]; omega
 have v0 : IntKind.i64.wrap n = n := by rw [IntKind.wrap_i64]; omega
 have v1 : IntKind.i64.wrap (n * 64) = n * 64 := by rw [IntKind.wrap_i64]; omega
 have v2 : IntKind.i64.wrap (n * 4096) = n * 4096 := by rw [IntKind.wrap_i64]; omega
 have v3 : IntKind.i64.wrap (n * 262144) = n * 262144 := by rw [IntKind.wrap_i64]; omega
 have hc : k = 0 \/ k = 1 \/ k = 2 \/ k = 3 := by omega
 rcases hc with rfl | rfl | rfl | rfl
 all_goals
  go_enter Tryz.func179, Tryz.ntmps179
  go_upto_region 2 with fail
  go_quiet (fail)
  go_wp2
  go_ret
  refine ⟨ret_int ?_, Vg.gro⟩
  simp [Vg.startn, Vg.lev, *]
end Go.Proofs.YtlkdkgefjipjmaaGreatDoor
