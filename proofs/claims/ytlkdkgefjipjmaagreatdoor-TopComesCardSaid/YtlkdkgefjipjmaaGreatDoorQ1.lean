/- Que, Server, Ceil (put together). -/
import Derived.Test.YtlkdkgefjipjmaaGreatDoorQ0
import Derived.Test.YtlkdkgefjipjmaaGreatDoorChecked
set_option linter.unusedSimpArgs false
set_option linter.unusedVariables false
set_option maxHeartbeats 40000000
set_option maxRecDepth 100000
namespace Vg
open Go Go.RowKit
def Que (w : World) (B : Nat) (e : TypeId) (size : Nat) (v : Value) (n : Nat) (xs : List Value) : Prop :=
 xs.length = n * size /\
 ((v = .slice none 0 0 /\ n = 0) \/
 ∃ g o cap cur, v = .slice (some ⟨g, o, none⟩) n cap /\ B <= g /\ w.heap[g]? = some (.cells cur e (0, 0)) /\ n <= cap /\ cap <= maxLen /\ o + cap * size <= cur.size /\ (cur.toList.drop o).take (n * size) = xs)
structure Same (t : Nat -> Prop) (w w' : World) : Prop where
 os : w'.os = w.os
 tape : w'.tape = w.tape
 output : w'.output = w.output
 size : w'.heap.size = w.heap.size
 block : ∀ k, ¬ t k -> w'.heap[k]? = w.heap[k]?
section
variable {w w' : World} {B : Nat} {e : TypeId} {size : Nat} {v : Value} {n : Nat} {xs : List Value}
theorem Que.nil (w : World) (B : Nat) (e : TypeId) (size : Nat) : Que w B e size (.slice none 0 0) 0 [] := ⟨by simp, .inl ⟨rfl, rfl⟩⟩
theorem Que.of_owns (h : w.ownsRow B e size v n xs) : Que w B e size v n xs := by
 refine ⟨h.1, ?_⟩
 rcases h.2 with h0 | ⟨g, cap, cur, h1, hb, hg, h2, h3, h4, h5⟩
 ·exact .inl h0
 ·exact .inr ⟨g, 0, cap, cur, h1, hb, hg, h2, h3, by rw [h4, Nat.zero_add]; exact Nat.le_refl _, by simpa using h5⟩
theorem Que.lt (h : Que w B e size v n xs) : ∀ k, v.ownBlock = some k -> B <= k /\ k < w.heap.size := by
 intro k hk
 rcases h.2 with ⟨rfl, _⟩ | ⟨g, o, cap, cur, rfl, hb, hg, _⟩
 ·simp [Value.ownBlock] at hk
 ·simp [Value.ownBlock] at hk
  subst hk
  exact ⟨hb, (Array.getElem?_eq_some_iff.1 hg).1⟩
theorem Que.shape (h : Que w B e size v n xs) : ∃ a c, v = .slice a n c := by
 rcases h.2 with ⟨rfl, rfl⟩ | ⟨g, o, cap, cur, rfl, _⟩
 ·exact ⟨_, _, rfl⟩
 ·exact ⟨_, _, rfl⟩
theorem Que.kept (h : Que w B e size v n xs) (hg : ∀ k, v.ownBlock = some k -> w'.heap[k]? = w.heap[k]?) : Que w' B e size v n xs := by
 refine ⟨h.1, ?_⟩
 rcases h.2 with hn | ⟨g, o, cap, cur, rfl, hb, hgg, rest⟩
 ·exact .inl hn
 ·exact .inr ⟨g, o, cap, cur, rfl, hb, (hg g rfl).trans hgg, rest⟩
theorem Que.grows (h : Que w B e size v n xs) (hg : Grows w w') : Que w' B e size v n xs :=
 h.kept fun k hk => by obtain ⟨x, m, rfl⟩ := hg; exact plus_heap (h.lt k hk).2
theorem Que.weaken {B' : Nat} (h : Que w B e size v n xs) (hB : B' <= B) : Que w B' e size v n xs := by
 refine ⟨h.1, ?_⟩
 rcases h.2 with hn | ⟨g, o, cap, cur, rfl, hb, rest⟩
 ·exact .inl hn
 ·exact .inr ⟨g, o, cap, cur, rfl, by omega, rest⟩
theorem Que.reads (h : Que w B e size v n xs) : Reads B w v n xs := by
 rcases h.2 with ⟨rfl, rfl⟩ | ⟨g, o, cap, cur, rfl, hb, hg, hn, hm, hcs, ht⟩
 ·exact .inl ⟨rfl, rfl, List.eq_nil_of_length_eq_zero (by simpa using h.1)⟩
 ·refine .inr ⟨g, o, cap, rfl, hb, (Array.getElem?_eq_some_iff.1 hg).1, hn, hm, fun j hj => ?_⟩
  rw [cells_of (w := w) (b := g) hg]
  have hu : xs[j]? = some xs[j] := List.getElem?_eq_getElem hj
  generalize xs[j] = u at hu ⊢
  rw [<- ht, List.getElem?_take] at hu
  split at hu
  ·rw [List.getElem?_drop, Array.getElem?_toList] at hu
   exact hu
  ·cases hu
theorem Que.tail {g o cap : Nat} (h : Que w B e size (.slice (some ⟨g, o, none⟩) (n + 1) cap) (n + 1) xs) : Que w B e size (.slice (some ⟨g, o + size, none⟩) n (cap - 1)) n (xs.drop size) := by
 refine ⟨by rw [List.length_drop, h.1, Nat.add_mul]; omega, ?_⟩
 rcases h.2 with ⟨h0, _⟩ | ⟨g', o', cap', cur, hv, hb, hg, hn, hm, hcs, ht⟩
 ·cases h0
 ·simp only [Value.slice.injEq, Option.some.injEq, Addr.mk.injEq] at hv
  obtain ⟨⟨rfl, rfl, _⟩, _, rfl⟩ := hv
  refine .inr ⟨g, o + size, cap - 1, cur, rfl, hb, hg, by omega, by omega, ?_, ?_⟩
  ·obtain ⟨c, rfl⟩ : ∃ c, cap = c + 1 := ⟨cap - 1, by omega⟩
   rw [Nat.add_mul] at hcs
   rw [Nat.add_sub_cancel]; omega
  ·rw [<- ht, List.drop_take, List.drop_drop, Nat.add_mul]
   congr 1
   ·omega
theorem Que.tail1 {g o : Nat} (h : Que w B e size (.slice (some ⟨g, o, none⟩) (n + 1) 1) (n + 1) xs) : Que w B e size (.slice (some ⟨g, o, none⟩) n 0) n (xs.drop size) := by
 rcases h.2 with ⟨h0, _⟩ | ⟨g', o', cap', cur, hv, hb, hg, hn, hm, hcs, ht⟩
 ·cases h0
 ·simp only [Value.slice.injEq, Option.some.injEq, Addr.mk.injEq] at hv
  obtain ⟨⟨rfl, rfl, _⟩, _, rfl⟩ := hv
  have hn0 : n = 0 := by omega
  subst hn0
  have hl := h.1
  have hd : xs.drop size = [] := List.drop_eq_nil_of_le (by omega)
  exact ⟨by rw [hd]; simp, .inr ⟨g, o, 0, cur, rfl, hb, hg, by omega, by omega, by omega, by rw [hd]; simp⟩⟩
theorem Same.refl (t : Nat -> Prop) (w : World) : Same t w w := ⟨rfl, rfl, rfl, rfl, fun _ _ => rfl⟩
theorem Same.mono {t t' : Nat -> Prop} (h : Same t w w') (ht : ∀ k, t k -> t' k) : Same t' w w' := ⟨h.os, h.tape, h.output, h.size, fun k hk => h.block k fun h' => hk (ht k h')⟩
theorem Same.trans {w'' : World} {t : Nat -> Prop} (h : Same t w w') (h' : Same t w' w'') : Same t w w'' :=
 ⟨h'.os.trans h.os, h'.tape.trans h.tape, h'.output.trans h.output, h'.size.trans h.size, fun k hk => (h'.block k hk).trans (h.block k hk)⟩
theorem Same.put {t : Nat -> Prop} (h : Same t w w') {b : Nat} (hb : t b) (o : Obj) : Same t w (Vg.put w' b o) :=
 ⟨h.os, h.tape, h.output, by rw [put_size, h.size], fun k hk => by rw [put_heap_other (fun hh => hk (by rw [<- hh]; exact hb)), h.block k hk]⟩
theorem Same.grows {w0 : World} {t : Nat -> Prop} (h : Same t w w') (hg : Grows w0 w) (ht : ∀ k, t k -> w0.heap.size <= k) : Grows w0 w' := by
 refine Grows.of_below ⟨h.os.trans hg.below.os, h.tape.trans hg.below.tape, h.output.trans hg.below.output, by rw [h.size]; exact hg.size, fun k hk => ?_⟩
 rw [h.block k (fun hh => by have := ht k hh; omega)]
 exact hg.below.block k hk
structure Touch (t : Nat -> Prop) (w w' : World) : Prop where
 os : w'.os = w.os
 tape : w'.tape = w.tape
 output : w'.output = w.output
 size : w.heap.size <= w'.heap.size
 block : ∀ k, k < w.heap.size -> ¬ t k -> w'.heap[k]? = w.heap[k]?
theorem Touch.refl (t : Nat -> Prop) (w : World) : Touch t w w := ⟨rfl, rfl, rfl, Nat.le_refl _, fun _ _ _ => rfl⟩
theorem Touch.of_grows {t : Nat -> Prop} (h : Grows w w') : Touch t w w' := ⟨h.below.os, h.below.tape, h.below.output, h.size, fun k hk _ => h.below.block k hk⟩
theorem Touch.trans {w'' : World} {t : Nat -> Prop} (h : Touch t w w') (h' : Touch t w' w'') : Touch t w w'' :=
 ⟨h'.os.trans h.os, h'.tape.trans h.tape, h'.output.trans h.output, Nat.le_trans h.size h'.size, fun k hk ht => (h'.block k (Nat.lt_of_lt_of_le hk h.size) ht).trans (h.block k hk ht)⟩
theorem Touch.mono {t t' : Nat -> Prop} (h : Touch t w w') (ht : ∀ k, k < w.heap.size -> t k -> t' k) : Touch t' w w' := ⟨h.os, h.tape, h.output, h.size, fun k hk hk' => h.block k hk fun h' => hk' (ht k hk h')⟩
theorem Touch.put {t : Nat -> Prop} (h : Touch t w w') {b : Nat} (hb : t b) (o : Obj) : Touch t w (Vg.put w' b o) :=
 ⟨h.os, h.tape, h.output, by rw [put_size]; exact h.size, fun k hk ht => by rw [put_heap_other (fun hh => ht (by rw [<- hh]; exact hb))]; exact h.block k hk ht⟩
theorem Touch.of_same {t : Nat -> Prop} (h : Same t w w') : Touch t w w' := ⟨h.os, h.tape, h.output, by rw [h.size]; exact Nat.le_refl _, fun k _ ht => h.block k ht⟩
theorem Touch.split {t : Nat -> Prop} (h : Touch t w w') : ∃ W1 y m, w' = plus W1 y m /\ Same t w W1 := by
 refine ⟨{ w' with heap := w'.heap.extract 0 w.heap.size }, w'.heap.extract w.heap.size w'.heap.size, w'.drawn, ?_, h.os, h.tape, h.output, ?_, ?_⟩
 ·have : w'.heap = w'.heap.extract 0 w.heap.size ++ w'.heap.extract w.heap.size w'.heap.size := by
   rw [Array.extract_append_extract]
   have := h.size
   simp [Nat.max_eq_right this]
  show w' = { w' with heap := _, drawn := w'.drawn }
  rw [<- this]
 ·have := h.size
  simp; omega
 ·intro k hk
  by_cases hlt : k < w.heap.size
  ·rw [<- h.block k hlt hk]
   have := h.size
   simp only [Array.getElem?_extract]
   rw [if_pos (by omega)]; simp
  ·rw [Array.getElem?_eq_none (by have := h.size; simp; omega), Array.getElem?_eq_none (by omega)]
theorem grownBy_split {row : Option Nat} (h : w.grownBy w' row) : ∃ W1 y m, w' = plus W1 y m /\ Same (fun k => row = some k) w W1 :=
 Touch.split ⟨h.os, h.tape, h.output, h.size, fun k hk ht => h.block k hk fun e => ht e.symm⟩
end
section
variable {P : Program} (w : World)
theorem run_append_room_at (t ty e : TypeId) (i : TypeInfo) (ht : P.underlying t = some (.slice e)) (hi : P.info? e = some i)
  (g o sLen sCap : Nat) (cur : Array Value) (hg : w.heap[g]? = some (.cells cur e (0, 0)))
  (a : Addr) (m c : Nat) (news : List Value) (hl : news.length = m * i.size) (hnews : ∀ j u, news[j]? = some u -> w.cell? (a.add j) = some u) (h1 : ∀ u ∈ news, u.oneCell' = true)
  (hroom : sLen + m <= sCap) (hfit : o + sLen * i.size + news.length <= cur.size) :
  (Builtin.append_ #[t, t] ty #[.slice (some ⟨g, o, none⟩) sLen sCap, .slice (some a) m c]).run P w =
   .ok (.slice (some ⟨g, o, none⟩) (sLen + m) sCap) (w.setRow g (cur.toList.take (o + sLen * i.size) ++ news ++ cur.toList.drop (o + sLen * i.size + news.length)).toArray) := by
 have hf := run_firstCells_some (P := P) w i.size m a m c news hl hnews
 have hst := run_storeCells_at P g (o + sLen * i.size) e news 0 cur w hg (by simpa using hfit) h1
 simp only [Nat.add_zero] at hst
 simp [Builtin.append_, run_underlying ht, Go.sizeOf, typeInfo, hi, Builtin.lenOf, hroom, hf, Addr.add_lit, hst]
theorem run_append_que (base : Nat) (t ty e : TypeId) (i : TypeInfo) (z : Value) (size bytes : Nat) (ht : P.underlying t = some (.slice e)) (hi : P.info? e = some i) (hz : i.zero = some z)
  (hsize : i.size = size) (hby : i.bytes = bytes) (hzs : z.cells.size = size) (hsz : 0 < size)
  (v : Value) (n : Nat) (xs : List Value) (hown : Que w base e size v n xs)
  (a : Addr) (m c : Nat) (news : List Value) (hl : news.length = m * size) (hnews : ∀ j u, news[j]? = some u -> w.cell? (a.add j) = some u) (h1 : ∀ u ∈ news, u.oneCell' = true) (hm0 : 0 < m)
  (h63 : n + m <= maxLen) (hbytes : (n + m) * bytes <= 140737488355328) (hbase : base <= w.heap.size) :
  ∃ v' w', (Builtin.append_ #[t, t] ty #[v, .slice (some a) m c]).run P w = .ok v' w' /\ Que w' base e size v' (n + m) (xs ++ news) /\ w.grownBy w' v.ownBlock /\ (v'.ownBlock = v.ownBlock \/ v'.ownBlock = some w.heap.size) := by
 rcases hown.2 with ⟨rfl, rfl⟩ | ⟨g, o, cap, cur, rfl, hbg, hg, hnc, hcm, hcs, htake⟩
 ·have hx : xs = [] := List.eq_nil_of_length_eq_zero (by simpa using hown.1)
  subst hx
  obtain ⟨v', w', h1', h2', h3', h4'⟩ := run_append_own_at (P := P) w base t ty e i z size bytes ht hi hz hsize hby hzs hsz _ 0 [] (World.ownsRow_nil w base e size) a m c news hl hnews h1 h63 hbytes hbase
  exact ⟨v', w', h1', Que.of_owns h2', h3', h4'.2⟩
 ·subst hsize
  subst hby
  have hlen : (xs ++ news).length = (n + m) * i.size := by rw [List.length_append, hown.1, hl, Nat.add_mul]
  by_cases hroom : n + m <= cap
  ·have hfit : o + n * i.size + news.length <= cur.size := by
    rw [hl, Nat.add_assoc, <- Nat.add_mul]; exact Nat.le_trans (Nat.add_le_add_left (Nat.mul_le_mul_right _ hroom) _) hcs
   have hr := run_append_room_at (P := P) w t ty e i ht hi g o n cap cur hg a m c news hl hnews h1 hroom hfit
   refine ⟨_, _, hr, ⟨hlen, .inr ⟨g, o, cap, _, rfl, hbg, setRow_heap w g cur _ e _ hg, hroom, hcm, ?_, ?_⟩⟩, ⟨rfl, rfl, rfl, by simp, fun k _ hk => setRow_other w g k _ (fun e => hk (by simp [Value.ownBlock, e]))⟩, .inl rfl⟩
   ·simp only [List.size_toArray, List.length_append, List.length_take, List.length_drop, Array.length_toList]
    omega
   ·simp only [List.append_assoc]
    rw [List.drop_append_of_le_length (by rw [List.length_take, Array.length_toList]; omega), List.drop_take]
    rw [show o + n * i.size - o = n * i.size from by omega, htake, <- List.append_assoc, <- hlen]
    exact List.take_left
  ·have holds : ∀ j u, xs[j]? = some u -> w.cell? ((⟨g, o, none⟩ : Addr).add j) = some u := by
    intro j u hu
    obtain ⟨hj, rfl⟩ := List.getElem?_eq_some_iff.1 hu
    rcases hown.reads with ⟨h0, _⟩ | ⟨g', o', cap', h0, _, _, _, _, hc⟩
    ·cases h0
    ·simp only [Value.slice.injEq, Option.some.injEq, Addr.mk.injEq] at h0
     obtain ⟨⟨rfl, rfl, _⟩, _, rfl⟩ := h0
     rw [Addr.add_lit]; exact hc j hj
   have hr := run_append_grow (P := P) w t ty e i z ht hi hz ⟨g, o, none⟩ n cap xs hown.1 holds a m c news hl hnews (by omega) (by simp only [maxLen] at h63; omega) (growslice_fits (by omega) hbytes)
   have hge := grownCap_ge w (n + m) cap e
   have hcm' : grownCap w (n + m) cap e <= maxLen := grownCap_le_maxLen w (n + m) cap e h63
   refine ⟨_, _, hr, ⟨hlen, .inr ⟨w.heap.size, 0, _, _, rfl, hbase, heap_alloc_new w.drew _, hge, hcm', ?_, ?_⟩⟩, ⟨rfl, rfl, rfl, by simp, fun k hk _ => alloc_heap_past (w := w.drew) hk⟩, .inr rfl⟩
   ·simp only [Array.size_append, List.size_toArray, size_zeroCells, hzs, hown.1, hl, <- Nat.add_mul, Nat.zero_add]
    exact Nat.mul_le_mul_right _ (by omega)
   ·simp only [Array.toList_append, List.drop_zero]
    rw [<- hlen]
    exact List.take_left
theorem wpList_que {ops : Array Oper} {rest : List Oper} {o : Oper} {a : Act} {Q : Exit -> Act -> World -> Prop} (hgd : o.guard = none) (s x : Operand) (t : TypeId)
  (ho : o.op = .call { callee := .builtin .append, args := #[s, x], argTypes := #[t, t] })
  (base : Nat) (e : TypeId) (i : TypeInfo) (z : Value) (size bytes : Nat) (ht : P.underlying t = some (.slice e)) (hi : P.info? e = some i) (hz : i.zero = some z)
  (hsize : i.size = size) (hby : i.bytes = bytes) (hzs : z.cells.size = size) (hsz : 0 < size)
  (v : Value) (n : Nat) (xs : List Value) (hs : a.eval s = v) (hown : Que w base e size v n xs)
  (ad : Addr) (m c : Nat) (news : List Value) (hx : a.eval x = .slice (some ad) m c) (hl : news.length = m * size) (hnews : ∀ j u, news[j]? = some u -> w.cell? (ad.add j) = some u) (h1 : ∀ u ∈ news, u.oneCell' = true) (hm0 : 0 < m)
  (h63 : n + m <= maxLen) (hbytes : (n + m) * bytes <= 140737488355328) (hbase : base <= w.heap.size)
  (h : ∀ v' W1 y k, Que (plus W1 y k) base e size v' (n + m) (xs ++ news) -> Same (fun j => v.ownBlock = some j) w W1 -> (v'.ownBlock = v.ownBlock \/ v'.ownBlock = some w.heap.size) -> wpList P ops Q rest (a.put o.dst v') (plus W1 y k)) : wpList P ops Q (o :: rest) a w := by
 refine wpList_plain hgd fun _ hK => ?_
 obtain ⟨v', w', hr, h2, h3, h4⟩ := run_append_que (P := P) w base t o.type e i z size bytes ht hi hz hsize hby hzs hsz v n xs hown ad m c news hl hnews h1 hm0 h63 hbytes hbase
 obtain ⟨W1, y, k, rfl, hsame⟩ := grownBy_split h3
 unfold Oper.wp execOp
 simp only [ho, resolve, invoke, builtin, Sem.run_bind, Sem.run_pure, Result.andThen_ok, List.map_toArray, List.map_cons, List.map_nil, hs, hx, hr]
 exact hK _ _ (h v' W1 y k h2 hsame h4)
end
end Vg
namespace Vg
open Go
def pcells : List (Int × Int) -> List Value
 | [] => []
 | x :: l => .int .i64 x.1 :: .int .i64 x.2 :: pcells l
theorem pcells_length : ∀ l : List (Int × Int), (pcells l).length = l.length * 2
 | [] => rfl
 | x :: l => by simp [pcells, pcells_length l]; omega
theorem Que.set {w : World} {B : Nat} {e : TypeId} {size : Nat} {n : Nat} {xs : List Value} {g o c j : Nat} {u : Value} (h : Que w B e size (.slice (some ⟨g, o, none⟩) n c) n xs) (hj : j < xs.length) :
  Que (w.setCell ⟨g, o + j, none⟩ u) B e size (.slice (some ⟨g, o, none⟩) n c) n (xs.set j u) /\ Same (fun k => k = g) w (w.setCell ⟨g, o + j, none⟩ u) := by
 rcases h.2 with ⟨h0, _⟩ | ⟨g', o', cap', cur, hv, hb, hg, hn, hm, hcs, ht⟩
 ·cases h0
 ·simp only [Value.slice.injEq, Option.some.injEq, Addr.mk.injEq] at hv
  obtain ⟨⟨rfl, rfl, _⟩, _, rfl⟩ := hv
  rw [setCell_of (w := w) (b := g) hg]
  refine ⟨⟨by rw [List.length_set]; exact h.1, .inr ⟨g, o, c, _, rfl, hb, put_heap_same (Array.getElem?_eq_some_iff.1 hg).1, hn, hm, by simpa using hcs, ?_⟩⟩, Same.put (t := fun k => k = g) (Same.refl _ w) rfl _⟩
  rw [Array.toList_setIfInBounds, List.drop_set, if_neg (by omega), List.take_set, ht, show o + j - o = j from by omega]
theorem Que.frozen {w : World} {B : Nat} {e : TypeId} {size : Nat} {n : Nat} {xs : List Value} {g o c : Nat} (h : Que w B e size (.slice (some ⟨g, o, none⟩) n c) n xs) : ∀ j, w.frozen? ⟨g, j, none⟩ = false := by
 rcases h.2 with ⟨h0, _⟩ | ⟨g', o', cap', cur, hv, hb, hg, hn, hm, hcs, ht⟩
 ·cases h0
 ·simp only [Value.slice.injEq, Option.some.injEq, Addr.mk.injEq] at hv
  obtain ⟨⟨rfl, rfl, _⟩, _, rfl⟩ := hv
  exact frozen_of (w := w) (b := g) hg
def due (now : Int) : List (Int × Int) -> Int × List (Int × Int)
 | [] => (0, [])
 | x :: l => if x.1 <= now then (x.2 + (due now l).1, (due now l).2) else (0, x :: l)
end Vg
namespace Go.Proofs.YtlkdkgefjipjmaaGreatDoor
open Go.ChangeShapes Go.WideShapes Go.ChangeAt Go.RowKit
abbrev servC (left period : Int) (v : Value) (last : Int) : Obj := .cells #[.int .i64 left, .int .i64 period, v, .int .i64 last] 223
section
variable {b B : Nat} {left period last : Int} {v : Value} {L : List (Int × Int)} {w : World} {sa : Option Addr} {sc : Nat}
theorem serv_cells (h : Vg.blk w b = some (servC left period v last)) :
  w.cell? ⟨b, 0, none⟩ = some (.int .i64 left) /\ w.cell? ⟨b, 1, none⟩ = some (.int .i64 period) /\ w.cell? ⟨b, 2, none⟩ = some v /\ w.cell? ⟨b, 3, none⟩ = some (.int .i64 last) := by
 have := Vg.cells_of h
 simp [this]
theorem serv_new_no (bu pe : Int) (h : bu < 1 \/ pe < bu \/ 1099511627776 < pe) :
  Calls Tryz.prog 49 #[.int .i64 bu, .int .i64 pe] w fun e w' => e = .returned (.tuple #[.pointer none, .int .i64 1]) /\ w = w' := by
 by_cases h1 : bu < 1
 ·clear h
  go_enter Tryz.func49, Tryz.ntmps49
  go_wp2
  go_ret2
  exact ⟨rfl, rfl⟩
 by_cases h2 : pe < bu
 ·clear h
  go_enter Tryz.func49, Tryz.ntmps49
  go_wp2
  go_ret2
  exact ⟨rfl, rfl⟩
 have h3 : 1099511627776 < pe := by omega
 clear h
 go_enter Tryz.func49, Tryz.ntmps49
 go_wp2
 go_ret2
 exact ⟨rfl, rfl⟩
theorem serv_new_ok (bu pe : Int) (h1 : 1 <= bu) (h2 : bu <= pe) (h3 : pe <= 1099511627776) :
  Calls Tryz.prog 49 #[.int .i64 bu, .int .i64 pe] w fun e w' => e = .returned (.tuple #[.pointer (some ⟨w.heap.size, 0, none⟩), .int .i64 0]) /\ w' = w.alloc (servC bu pe (.slice none 0 0) 0) := by
 go_enter Tryz.func49, Tryz.ntmps49
 go_wp2
 go_ret2
 exact ⟨rfl, rfl⟩
theorem serv_later (t : Int) (h : Vg.blk w b = some (servC left period v last)) :
  Calls Tryz.prog 116 #[.pointer (some ⟨b, 0, none⟩), .int .i64 t] w fun e w' => e = .returned (.bool (decide (last <= t) && decide (t <= 4503599627370496))) /\ w = w' := by
 obtain ⟨c0, c1, c2, c3⟩ := serv_cells h
 clear h
 by_cases h1 : last <= t
 ·go_enter Tryz.func116, Tryz.ntmps116
  go_wp2
  go_ret
  exact ⟨ret_bool (by simp [h1]), rfl⟩
 ·go_enter Tryz.func116, Tryz.ntmps116
  go_wp2
  go_ret
  exact ⟨ret_bool (by simp; omega), rfl⟩
theorem serv_waits (h : Vg.blk w b = some (servC left period (.slice sa L.length sc) last)) :
  Calls Tryz.prog 201 #[.pointer (some ⟨b, 0, none⟩)] w fun e w' => e = .returned (.int .i64 L.length) /\ w = w' := by
 obtain ⟨c0, c1, c2, c3⟩ := serv_cells h
 clear h
 go_enter Tryz.func201, Tryz.ntmps201
 go_wp2
 go_ret
 exact ⟨rfl, rfl⟩
theorem serv_left (h : Vg.blk w b = some (servC left period (.slice sa L.length sc) last)) :
  Calls Tryz.prog 154 #[.pointer (some ⟨b, 0, none⟩)] w fun e w' => e = .returned (.int .i64 (if 16 <= L.length then 0 else left)) /\ w = w' := by
 obtain ⟨c0, c1, c2, c3⟩ := serv_cells h
 have N := h_ h
 clear h
 by_cases hl : 16 <= L.length
 ·go_enter Tryz.func154, Tryz.ntmps154
  go_wp2_with (go_at_call 201; refine (serv_waits (by exact N.out)).mono ?_; rintro e w1 ⟨rfl, rfl⟩)
  go_ret
  exact ⟨ret_int (by simp [hl]), rfl⟩
 ·go_enter Tryz.func154, Tryz.ntmps154
  go_wp2_with (go_at_call 201; refine (serv_waits (by exact N.out)).mono ?_; rintro e w1 ⟨rfl, rfl⟩)
  go_ret
  exact ⟨ret_int (by simp [hl]), rfl⟩
theorem serv_next (h : Vg.blk w b = some (servC left period (.slice sa L.length sc) last)) (hq : Vg.Que w B 335 2 (.slice sa L.length sc) L.length (Vg.pcells L)) :
  Calls Tryz.prog 155 #[.pointer (some ⟨b, 0, none⟩)] w fun e w' => e = .returned (.tuple #[.int .i64 (L.headD (0, 0)).1, .bool (!L.isEmpty)]) /\ w = w' := by
 obtain ⟨c0, c1, c2, c3⟩ := serv_cells h
 clear h
 cases L with
 | nil =>
  clear hq
  go_enter Tryz.func155, Tryz.ntmps155
  go_wp2
  go_ret2
  exact ⟨rfl, rfl⟩
 | cons x l =>
  obtain ⟨g, off, rfl, hg, hc, hm, hx⟩ := hq.reads.open (by simp [Vg.pcells])
  have h0 := hx 0 (by simp [Vg.pcells])
  simp only [Nat.add_zero, Vg.pcells, List.getElem_cons_zero] at h0
  have hcm : sc <= 9223372036854775807 := hm
  have hlen : (0 : Int) < ((l.length : Int) + 1) := by omega
  clear hx hq
  go_enter Tryz.func155, Tryz.ntmps155
  go_wp2
  go_ret2
  exact ⟨rfl, rfl⟩
end
end Go.Proofs.YtlkdkgefjipjmaaGreatDoor
namespace Vg
open Go
abbrev ics (L : List Int) : List Value := L.map (Value.int .i64)
structure Mx where
 c : Int
 held : Bool
 who : Int
def Mx.cells (x : Mx) : List Value := [.int .i64 x.c, .bool x.held, .int .i64 x.who]
def mcells : List Mx -> List Value
 | [] => []
 | x :: l => x.cells ++ mcells l
theorem mcells_length : ∀ l : List Mx, (mcells l).length = l.length * 3
 | [] => rfl
 | x :: l => by simp [mcells, Mx.cells, mcells_length l]; omega
theorem mcells_append : ∀ l m : List Mx, mcells (l ++ m) = mcells l ++ mcells m
 | [], m => rfl
 | x :: l, m => by simp [mcells, mcells_append l m]
theorem mcells_get : ∀ (l : List Mx) (k : Nat) (h : k < l.length), (mcells l)[k * 3]? = some (.int .i64 l[k].c) /\ (mcells l)[k * 3 + 1]? = some (.bool l[k].held) /\ (mcells l)[k * 3 + 2]? = some (.int .i64 l[k].who)
 | [], k, h => by simp at h
 | x :: l, 0, _ => by simp [mcells, Mx.cells]
 | x :: l, k + 1, h => by
  have := mcells_get l k (by simpa using h)
  rw [show (k + 1) * 3 = k * 3 + 1 + 1 + 1 from by omega]
  simpa [mcells, Mx.cells] using this
theorem mcells_set1 : ∀ (l : List Mx) (k : Nat) (h : k < l.length) (b : Bool), (mcells l).set (k * 3 + 1) (.bool b) = mcells (l.set k ⟨l[k].c, b, l[k].who⟩)
 | [], k, h, _ => by simp at h
 | x :: l, 0, _, b => by simp [mcells, Mx.cells]
 | x :: l, k + 1, h, b => by
  have := mcells_set1 l k (by simpa using h) b
  rw [show (k + 1) * 3 + 1 = k * 3 + 1 + 1 + 1 + 1 from by omega]
  simpa [mcells, Mx.cells] using this
theorem mcells_set2 : ∀ (l : List Mx) (k : Nat) (h : k < l.length) (t : Int), (mcells l).set (k * 3 + 2) (.int .i64 t) = mcells (l.set k ⟨l[k].c, l[k].held, t⟩)
 | [], k, h, _ => by simp at h
 | x :: l, 0, _, b => by simp [mcells, Mx.cells]
 | x :: l, k + 1, h, b => by
  have := mcells_set2 l k (by simpa using h) b
  rw [show (k + 1) * 3 + 2 = k * 3 + 2 + 1 + 1 + 1 from by omega]
  simpa [mcells, Mx.cells] using this
abbrev Tb := List Mx
def Tb.lock (M : List Mx) (m task prio : Int) : List Mx × Int :=
 if m < 0 \/ (M.length : Int) <= m then (M, 1) else
 match M[m.toNat]? with
 | none => (M, 1)
 | some x => if x.c < prio then (M, 12) else if x.held = true /\ x.who = task then (M, 4) else if x.held = true then (M, 13) else (M.set m.toNat ⟨x.c, true, task⟩, 0)
def Tb.unlock (M : List Mx) (m task : Int) : List Mx × Int :=
 if m < 0 \/ (M.length : Int) <= m then (M, 1) else
 match M[m.toNat]? with
 | none => (M, 1)
 | some x => if x.held = true /\ x.who = task then (M.set m.toNat ⟨x.c, false, x.who⟩, 0) else (M, 7)
def Tb.holder (M : List Mx) (m : Int) : Int × Bool :=
 if m < 0 \/ (M.length : Int) <= m then (0, false) else
 match M[m.toNat]? with
 | none => (0, false)
 | some x => if x.held = true then (x.who, true) else (0, false)
theorem Tb.lock_out {M : List Mx} {m task prio : Int} (h : m < 0 \/ (M.length : Int) <= m) : Tb.lock M m task prio = (M, 1) := if_pos h
theorem Tb.unlock_out {M : List Mx} {m task : Int} (h : m < 0 \/ (M.length : Int) <= m) : Tb.unlock M m task = (M, 1) := if_pos h
theorem Tb.holder_out {M : List Mx} {m : Int} (h : m < 0 \/ (M.length : Int) <= m) : Tb.holder M m = (0, false) := if_pos h
theorem Tb.lock_in {M : List Mx} {i : Nat} {task prio : Int} (h : i < M.length) : Tb.lock M i task prio = if M[i].c < prio then (M, 12) else if M[i].held = true /\ M[i].who = task then (M, 4) else if M[i].held = true then (M, 13) else (M.set i ⟨M[i].c, true, task⟩, 0) := by
 unfold Tb.lock
 rw [if_neg (by omega)]
 simp [List.getElem?_eq_getElem h]
theorem Tb.unlock_in {M : List Mx} {i : Nat} {task : Int} (h : i < M.length) : Tb.unlock M i task = if M[i].held = true /\ M[i].who = task then (M.set i ⟨M[i].c, false, M[i].who⟩, 0) else (M, 7) := by
 unfold Tb.unlock
 rw [if_neg (by omega)]
 simp [List.getElem?_eq_getElem h]
theorem Tb.holder_in {M : List Mx} {i : Nat} (h : i < M.length) : Tb.holder M i = if M[i].held = true then (M[i].who, true) else (0, false) := by
 unfold Tb.holder
 rw [if_neg (by omega)]
 simp [List.getElem?_eq_getElem h]
theorem Que.mutex {w : World} {B : Nat} {ty : TypeId} {v : Value} {M : List Mx} (h : Que w B ty 3 v M.length (mcells M)) (i : Nat) (hi : i < M.length) :
  ∃ g o c, v = .slice (some ⟨g, o, none⟩) M.length c /\ B <= g /\ g < w.heap.size /\ M.length <= c /\ c <= 9223372036854775807 /\ w.cell? ⟨g, o + i * 3, none⟩ = some (.int .i64 M[i].c) /\ w.cell? ⟨g, o + i * 3 + 1, none⟩ = some (.bool M[i].held) /\ w.cell? ⟨g, o + i * 3 + 2, none⟩ = some (.int .i64 M[i].who) := by
 obtain ⟨a, c, rfl⟩ := h.shape
 have hl := mcells_length M
 obtain ⟨g, o, rfl, hg, hc, hm, hx⟩ := h.reads.open (by omega)
 obtain ⟨g0, g1, g2⟩ := mcells_get M i hi
 have key : ∀ j u, i * 3 + j < (mcells M).length -> (mcells M)[i * 3 + j]? = some u -> w.cell? ⟨g, o + i * 3 + j, none⟩ = some u := fun j u hj hu => by
  have := hx (i * 3 + j) hj
  rw [<- Nat.add_assoc] at this
  rw [this, <- hu, List.getElem?_eq_getElem]
 have hhc : c <= 9223372036854775807 := hm
 exact ⟨g, o, c, rfl, (h.lt g rfl).1, hg, hc, hhc, by simpa using key 0 _ (by omega) g0, key 1 _ (by omega) g1, key 2 _ (by omega) g2⟩
end Vg
namespace Go.Proofs.YtlkdkgefjipjmaaGreatDoor
open Go.ChangeShapes Go.WideShapes Go.ChangeAt Go.RowKit
theorem Tryz.info_mutex : (Tryz.prog.info? 214).map (fun i => (i.zero, i.size, i.bytes)) = some (some (.agg #[.int .i64 0, .bool false, .int .i64 0]), 3, 24) := by kernel_rfl
abbrev tabC (v : Value) : Obj := .cells #[v] 212
def CE (w : World) (b B : Nat) (M : List Vg.Mx) (v : Value) : Prop := Vg.blk w b = some (tabC v) /\ Vg.Que w B 214 3 v M.length (Vg.mcells M)
section
variable {w w' : World} {b B S : Nat} {M : List Vg.Mx} {v : Value} {L : List Int} {sa : Option Addr} {sc : Nat}
theorem CE.kept (h : CE w b B M v) (hb : Vg.blk w' b = Vg.blk w b) (hv : ∀ k, v.ownBlock = some k -> Vg.blk w' k = Vg.blk w k) : CE w' b B M v := ⟨hb.trans h.1, h.2.kept hv⟩
theorem CE.lt (h : CE w b B M v) : b < w.heap.size := Vg.lt_of h.1
theorem CE.own (h : CE w b B M v) : ∀ k, v.ownBlock = some k -> B <= k /\ k < w.heap.size := h.2.lt
theorem CE.grows (h : CE w b B M v) (hg : Vg.Grows w w') : CE w' b B M v := by
 have hl := h.lt
 have ho := h.own
 obtain ⟨x, n, rfl⟩ := hg
 exact h.kept (Vg.blk_plus hl) fun k hk => Vg.blk_plus (ho k hk).2
theorem CE.touch {t : Nat -> Prop} (h : CE w b B M v) (ht : Vg.Touch t w w') (hb : ¬ t b) (hv : ∀ k, v.ownBlock = some k -> ¬ t k) : CE w' b B M v :=
 h.kept (ht.block b h.lt hb) fun k hk => ht.block k (h.own k hk).2 (hv k hk)
theorem CE.shape (h : CE w b B M v) : ∃ a c, v = .slice a M.length c := h.2.shape
theorem ceil_find_no (m : Int) (h : CE w b B M v) (hm : m < 0 \/ (M.length : Int) <= m) :
  Calls Tryz.prog 204 #[.pointer (some ⟨b, 0, none⟩), .int .i64 m] w fun e w' => e = .returned (.pointer none) /\ w = w' := by
 obtain ⟨a, c, rfl⟩ := h.shape
 have c0 := Vg.cells_of h.1 0
 simp at c0
 clear h
 by_cases h0 : m < 0
 ·clear hm
  go_enter Tryz.func204, Tryz.ntmps204
  go_wp2
  go_ret
  exact ⟨rfl, rfl⟩
 ·have h1 : (M.length : Int) <= m := by omega
  clear hm
  go_enter Tryz.func204, Tryz.ntmps204
  go_wp2
  go_ret
  exact ⟨rfl, rfl⟩
theorem ceil_find {g o c : Nat} (i : Nat) (hi : i < M.length) (h : CE w b B M (.slice (some ⟨g, o, none⟩) M.length c)) (hc : M.length <= c) (hcm : c <= 9223372036854775807) :
  Calls Tryz.prog 204 #[.pointer (some ⟨b, 0, none⟩), .int .i64 i] w fun e w' => e = .returned (.pointer (some ⟨g, o + i * 3, none⟩)) /\ w = w' := by
 have c0 := Vg.cells_of h.1 0
 simp at c0
 clear h
 have h0 : (0 : Int) <= i := by omega
 have h1 : (i : Int) < M.length := by omega
 go_enter Tryz.func204, Tryz.ntmps204
 go_wp2
 go_ret
 exact ⟨rfl, rfl⟩
theorem ce_holder (m : Int) (h : CE w b B M v) :
  Calls Tryz.prog 203 #[.pointer (some ⟨b, 0, none⟩), .int .i64 m] w fun e w' => e = .returned (.tuple #[.int .i64 (Vg.Tb.holder M m).1, .bool (Vg.Tb.holder M m).2]) /\ w = w' := by
 by_cases hm : m < 0 \/ (M.length : Int) <= m
 ·rw [Vg.Tb.holder_out hm]
  have H_h := h_ h; clear h
  go_enter Tryz.func203, Tryz.ntmps203
  go_wp2_with ((go_at_call 204; refine (ceil_find_no m H_h.out hm).mono ?_; rintro e w' ⟨rfl, rfl⟩))
  go_ret2
  exact ⟨rfl, rfl⟩
 ·obtain ⟨i, rfl⟩ : ∃ i : Nat, m = i := ⟨m.toNat, by omega⟩
  have hi : i < M.length := by omega
  rw [Vg.Tb.holder_in hi]
  obtain ⟨g, o, c, rfl, hg1, hg2, hc1, hc2, c0, c1, c2⟩ := h.2.mutex i hi
  obtain ⟨x, hx⟩ : ∃ x, M[i] = x := ⟨_, rfl⟩
  rw [hx] at c0 c1 c2 ⊢
  obtain ⟨xc, xh, xw⟩ := x
  simp only [] at c0 c1 c2 ⊢
  have H_h := h_ h; have H_hx := h_ hx; clear h hx
  cases xh
  all_goals
   go_enter Tryz.func203, Tryz.ntmps203
   go_wp2_with ((go_at_call 204; refine (ceil_find i hi H_h.out hc1 hc2).mono ?_; rintro e w' ⟨rfl, rfl⟩))
   go_ret2
   exact ⟨rfl, rfl⟩
theorem ce_lock (m task prio : Int) (h : CE w b B M v) (hb : b < B) :
  Calls Tryz.prog 165 #[.pointer (some ⟨b, 0, none⟩), .int .i64 m, .int .i64 task, .int .i64 prio] w fun e w' => e = .returned (.int .i64 (Vg.Tb.lock M m task prio).2) /\ CE w' b B (Vg.Tb.lock M m task prio).1 v /\ Vg.Touch (fun k => v.ownBlock = some k) w w' := by
 by_cases hm : m < 0 \/ (M.length : Int) <= m
 ·rw [Vg.Tb.lock_out hm]
  have H_h := h_ h; clear h
  go_enter Tryz.func165, Tryz.ntmps165
  go_wp2_with ((go_at_call 204; refine (ceil_find_no m H_h.out hm).mono ?_; rintro e w' ⟨rfl, rfl⟩))
  go_ret
  exact ⟨rfl, H_h.out, Vg.Touch.refl _ _⟩
 ·obtain ⟨i, rfl⟩ : ∃ i : Nat, m = i := ⟨m.toNat, by omega⟩
  have hi : i < M.length := by omega
  rw [Vg.Tb.lock_in hi]
  obtain ⟨g, o, c, rfl, hg1, hg2, hc1, hc2, c0, c1, c2⟩ := h.2.mutex i hi
  have hfz := h.2.frozen
  obtain ⟨x, hx⟩ : ∃ x, M[i] = x := ⟨_, rfl⟩
  rw [hx] at c0 c1 c2 ⊢
  obtain ⟨xc, xh, xw⟩ := x
  simp only [] at c0 c1 c2 ⊢
  by_cases hp : xc < prio
  ·rw [if_pos hp]
   have H_h := h_ h; have H_hx := h_ hx; clear h hx
   go_enter Tryz.func165, Tryz.ntmps165
   go_wp2_with ((go_at_call 204; refine (ceil_find i hi H_h.out hc1 hc2).mono ?_; rintro e w' ⟨rfl, rfl⟩))
   go_ret
   exact ⟨rfl, H_h.out, Vg.Touch.refl _ _⟩
  ·rw [if_neg hp]
   cases xh with
   | true =>
    by_cases ht : xw = task
    ·subst ht
     rw [if_pos ⟨rfl, rfl⟩]
     have htb : (xw == xw) = true := by simp
     have H_h := h_ h; have H_hx := h_ hx; clear h hx
     go_enter Tryz.func165, Tryz.ntmps165
     go_wp2_with ((go_at_call 204; refine (ceil_find i hi H_h.out hc1 hc2).mono ?_; rintro e w' ⟨rfl, rfl⟩))
     go_ret
     exact ⟨rfl, H_h.out, Vg.Touch.refl _ _⟩
    ·rw [if_neg (fun hh => ht hh.2), if_pos rfl]
     have htb : (xw == task) = false := by simp [ht]
     have H_h := h_ h; have H_hx := h_ hx; have H_ht := h_ ht; clear h hx ht
     go_enter Tryz.func165, Tryz.ntmps165
     go_wp2_with ((go_at_call 204; refine (ceil_find i hi H_h.out hc1 hc2).mono ?_; rintro e w' ⟨rfl, rfl⟩))
     go_ret
     exact ⟨rfl, H_h.out, Vg.Touch.refl _ _⟩
   | false =>
    rw [if_neg (by simp), if_neg (by simp)]
    have H_h := h_ h; have H_hx := h_ hx; clear h hx
    go_enter Tryz.func165, Tryz.ntmps165
    go_wp2_with ((go_at_call 204; refine (ceil_find i hi H_h.out hc1 hc2).mono ?_; rintro e w' ⟨rfl, rfl⟩))
    go_ret
    have hml := Vg.mcells_length M
    have q1 := H_h.out.2.set (j := i * 3 + 1) (u := .bool true) (by omega)
    have q2 := q1.1.set (j := i * 3 + 2) (u := .int .i64 task) (by simp; omega)
    rw [Vg.mcells_set1 M i hi true, Vg.mcells_set2 _ i (by simp; exact hi) task, <- Nat.add_assoc, <- Nat.add_assoc] at q2
    simp only [List.getElem_set_self, List.set_set, H_hx.out] at q2
    rw [<- Nat.add_assoc] at q1
    have hs := q1.2.trans q2.2
    refine ⟨rfl, ⟨(hs.block b (by omega)).trans H_h.out.1, by rw [List.length_set]; exact q2.1⟩, Vg.Touch.of_same (hs.mono fun k hk => by rw [hk]; rfl)⟩
theorem ce_unlock (m task : Int) (h : CE w b B M v) (hb : b < B) :
  Calls Tryz.prog 166 #[.pointer (some ⟨b, 0, none⟩), .int .i64 m, .int .i64 task] w fun e w' => e = .returned (.int .i64 (Vg.Tb.unlock M m task).2) /\ CE w' b B (Vg.Tb.unlock M m task).1 v /\ Vg.Touch (fun k => v.ownBlock = some k) w w' := by
 by_cases hm : m < 0 \/ (M.length : Int) <= m
 ·rw [Vg.Tb.unlock_out hm]
  have H_h := h_ h; clear h
  go_enter Tryz.func166, Tryz.ntmps166
  go_wp2_with ((go_at_call 204; refine (ceil_find_no m H_h.out hm).mono ?_; rintro e w' ⟨rfl, rfl⟩))
  go_ret
  exact ⟨rfl, H_h.out, Vg.Touch.refl _ _⟩
 ·obtain ⟨i, rfl⟩ : ∃ i : Nat, m = i := ⟨m.toNat, by omega⟩
  have hi : i < M.length := by omega
  rw [Vg.Tb.unlock_in hi]
  obtain ⟨g, o, c, rfl, hg1, hg2, hc1, hc2, c0, c1, c2⟩ := h.2.mutex i hi
  have hfz := h.2.frozen
  obtain ⟨x, hx⟩ : ∃ x, M[i] = x := ⟨_, rfl⟩
  rw [hx] at c0 c1 c2 ⊢
  obtain ⟨xc, xh, xw⟩ := x
  simp only [] at c0 c1 c2 ⊢
  cases xh with
  | true =>
   by_cases ht : xw = task
   ·subst ht
    rw [if_pos ⟨rfl, rfl⟩]
    have htb : (xw != xw) = false := by simp
    have H_h := h_ h; have H_hx := h_ hx; clear h hx
    go_enter Tryz.func166, Tryz.ntmps166
    go_wp2_with ((go_at_call 204; refine (ceil_find i hi H_h.out hc1 hc2).mono ?_; rintro e w' ⟨rfl, rfl⟩))
    go_ret
    have hml := Vg.mcells_length M
    have q1 := H_h.out.2.set (j := i * 3 + 1) (u := .bool false) (by omega)
    rw [Vg.mcells_set1 M i hi false, <- Nat.add_assoc] at q1
    simp only [H_hx.out] at q1
    have hs := q1.2
    exact ⟨rfl, ⟨(hs.block b (by omega)).trans H_h.out.1, by rw [List.length_set]; exact q1.1⟩, Vg.Touch.of_same (hs.mono fun k hk => by rw [hk]; rfl)⟩
   ·rw [if_neg (fun hh => ht hh.2)]
    have htb : (xw != task) = true := by simp [ht]
    have H_h := h_ h; have H_hx := h_ hx; have H_ht := h_ ht; clear h hx ht
    go_enter Tryz.func166, Tryz.ntmps166
    go_wp2_with ((go_at_call 204; refine (ceil_find i hi H_h.out hc1 hc2).mono ?_; rintro e w' ⟨rfl, rfl⟩))
    go_ret
    exact ⟨rfl, H_h.out, Vg.Touch.refl _ _⟩
  | false =>
   rw [if_neg (by simp)]
   have H_h := h_ h; have H_hx := h_ hx; clear h hx
   go_enter Tryz.func166, Tryz.ntmps166
   go_wp2_with ((go_at_call 204; refine (ceil_find i hi H_h.out hc1 hc2).mono ?_; rintro e w' ⟨rfl, rfl⟩))
   go_ret
   exact ⟨rfl, H_h.out, Vg.Touch.refl _ _⟩
end
end Go.Proofs.YtlkdkgefjipjmaaGreatDoor
