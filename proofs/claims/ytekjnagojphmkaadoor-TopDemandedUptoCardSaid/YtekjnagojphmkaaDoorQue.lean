/- Rows that lie at any offset in their block ('x = x[1:]', 'x = append(x, ..)'): 'Que'; and worlds in which some blocks alone have changed: 'Same'. No program is named here. -/
import Derived.Test.YtekjnagojphmkaaDoorRowB
set_option linter.unusedSimpArgs false
set_option linter.unusedVariables false
namespace Vg
open Go Go.RowKit
/-- A slice of the call's own (its block from B on): n elements of so many cells each, which are xs; it reaches to the end of its block. -/
def Que (w : World) (B : Nat) (e : TypeId) (size : Nat) (v : Value) (n : Nat) (xs : List Value) : Prop :=
  xs.length = n * size ∧
  ((v = .slice none 0 0 ∧ n = 0) ∨
   ∃ g o cap cur, v = .slice (some ⟨g, o, none⟩) n cap ∧ B ≤ g ∧ w.heap[g]? = some (.cells cur e (0, 0)) ∧ n ≤ cap ∧ cap ≤ maxLen ∧ o + cap * size ≤ cur.size ∧ (cur.toList.drop o).take (n * size) = xs)
/-- Some blocks alone have changed. -/
structure Same (t : Nat → Prop) (w w' : World) : Prop where
  os : w'.os = w.os
  tape : w'.tape = w.tape
  output : w'.output = w.output
  size : w'.heap.size = w.heap.size
  block : ∀ k, ¬ t k → w'.heap[k]? = w.heap[k]?

section
variable {w w' : World} {B : Nat} {e : TypeId} {size : Nat} {v : Value} {n : Nat} {xs : List Value}
theorem Que.nil (w : World) (B : Nat) (e : TypeId) (size : Nat) : Que w B e size (.slice none 0 0) 0 [] := ⟨by simp, .inl ⟨rfl, rfl⟩⟩
theorem Que.of_owns (h : w.ownsRow B e size v n xs) : Que w B e size v n xs := by
  refine ⟨h.1, ?_⟩
  rcases h.2 with h0 | ⟨g, cap, cur, h1, hb, hg, h2, h3, h4, h5⟩
  · exact .inl h0
  · exact .inr ⟨g, 0, cap, cur, h1, hb, hg, h2, h3, by rw [h4, Nat.zero_add]; exact Nat.le_refl _, by simpa using h5⟩
theorem Que.lt (h : Que w B e size v n xs) : ∀ k, v.ownBlock = some k → B ≤ k ∧ k < w.heap.size := by
  intro k hk
  rcases h.2 with ⟨rfl, _⟩ | ⟨g, o, cap, cur, rfl, hb, hg, _⟩
  · simp [Value.ownBlock] at hk
  · simp [Value.ownBlock] at hk
    subst hk
    exact ⟨hb, (Array.getElem?_eq_some_iff.1 hg).1⟩
theorem Que.shape (h : Que w B e size v n xs) : ∃ a c, v = .slice a n c := by
  rcases h.2 with ⟨rfl, rfl⟩ | ⟨g, o, cap, cur, rfl, _⟩
  · exact ⟨_, _, rfl⟩
  · exact ⟨_, _, rfl⟩
theorem Que.kept (h : Que w B e size v n xs) (hg : ∀ k, v.ownBlock = some k → w'.heap[k]? = w.heap[k]?) : Que w' B e size v n xs := by
  refine ⟨h.1, ?_⟩
  rcases h.2 with hn | ⟨g, o, cap, cur, rfl, hb, hgg, rest⟩
  · exact .inl hn
  · exact .inr ⟨g, o, cap, cur, rfl, hb, (hg g rfl).trans hgg, rest⟩
theorem Que.grows (h : Que w B e size v n xs) (hg : Grows w w') : Que w' B e size v n xs :=
  h.kept fun k hk => by obtain ⟨x, m, rfl⟩ := hg; exact plus_heap (h.lt k hk).2
theorem Que.weaken {B' : Nat} (h : Que w B e size v n xs) (hB : B' ≤ B) : Que w B' e size v n xs := by
  refine ⟨h.1, ?_⟩
  rcases h.2 with hn | ⟨g, o, cap, cur, rfl, hb, rest⟩
  · exact .inl hn
  · exact .inr ⟨g, o, cap, cur, rfl, by omega, rest⟩
theorem Que.reads (h : Que w B e size v n xs) : Reads B w v n xs := by
  rcases h.2 with ⟨rfl, rfl⟩ | ⟨g, o, cap, cur, rfl, hb, hg, hn, hm, hcs, ht⟩
  · exact .inl ⟨rfl, rfl, List.eq_nil_of_length_eq_zero (by simpa using h.1)⟩
  · refine .inr ⟨g, o, cap, rfl, hb, (Array.getElem?_eq_some_iff.1 hg).1, hn, hm, fun j hj => ?_⟩
    rw [cells_of (w := w) (b := g) hg]
    have hu : xs[j]? = some xs[j] := List.getElem?_eq_getElem hj
    generalize xs[j] = u at hu ⊢
    rw [← ht, List.getElem?_take] at hu
    split at hu
    · rw [List.getElem?_drop, Array.getElem?_toList] at hu
      exact hu
    · cases hu
/-- Cut at the head. -/
theorem Que.tail {g o cap : Nat} (h : Que w B e size (.slice (some ⟨g, o, none⟩) (n + 1) cap) (n + 1) xs) : Que w B e size (.slice (some ⟨g, o + size, none⟩) n (cap - 1)) n (xs.drop size) := by
  refine ⟨by rw [List.length_drop, h.1, Nat.add_mul]; omega, ?_⟩
  rcases h.2 with ⟨h0, _⟩ | ⟨g', o', cap', cur, hv, hb, hg, hn, hm, hcs, ht⟩
  · cases h0
  · simp only [Value.slice.injEq, Option.some.injEq, Addr.mk.injEq] at hv
    obtain ⟨⟨rfl, rfl, _⟩, _, rfl⟩ := hv
    refine .inr ⟨g, o + size, cap - 1, cur, rfl, hb, hg, by omega, by omega, ?_, ?_⟩
    · obtain ⟨c, rfl⟩ : ∃ c, cap = c + 1 := ⟨cap - 1, by omega⟩
      rw [Nat.add_mul] at hcs
      rw [Nat.add_sub_cancel]; omega
    · rw [← ht, List.drop_take, List.drop_drop, Nat.add_mul]
      congr 1
      · omega
/-- Cut at the head, where nothing is left: the slice keeps its place. -/
theorem Que.tail1 {g o : Nat} (h : Que w B e size (.slice (some ⟨g, o, none⟩) (n + 1) 1) (n + 1) xs) : Que w B e size (.slice (some ⟨g, o, none⟩) n 0) n (xs.drop size) := by
  rcases h.2 with ⟨h0, _⟩ | ⟨g', o', cap', cur, hv, hb, hg, hn, hm, hcs, ht⟩
  · cases h0
  · simp only [Value.slice.injEq, Option.some.injEq, Addr.mk.injEq] at hv
    obtain ⟨⟨rfl, rfl, _⟩, _, rfl⟩ := hv
    have hn0 : n = 0 := by omega
    subst hn0
    have hl := h.1
    have hd : xs.drop size = [] := List.drop_eq_nil_of_le (by omega)
    exact ⟨by rw [hd]; simp, .inr ⟨g, o, 0, cur, rfl, hb, hg, by omega, by omega, by omega, by rw [hd]; simp⟩⟩
theorem Same.refl (t : Nat → Prop) (w : World) : Same t w w := ⟨rfl, rfl, rfl, rfl, fun _ _ => rfl⟩
theorem Same.mono {t t' : Nat → Prop} (h : Same t w w') (ht : ∀ k, t k → t' k) : Same t' w w' := ⟨h.os, h.tape, h.output, h.size, fun k hk => h.block k fun h' => hk (ht k h')⟩
theorem Same.trans {w'' : World} {t : Nat → Prop} (h : Same t w w') (h' : Same t w' w'') : Same t w w'' :=
  ⟨h'.os.trans h.os, h'.tape.trans h.tape, h'.output.trans h.output, h'.size.trans h.size, fun k hk => (h'.block k hk).trans (h.block k hk)⟩
theorem Same.put {t : Nat → Prop} (h : Same t w w') {b : Nat} (hb : t b) (o : Obj) : Same t w (Vg.put w' b o) :=
  ⟨h.os, h.tape, h.output, by rw [put_size, h.size], fun k hk => by rw [put_heap_other (fun hh => hk (by rw [← hh]; exact hb)), h.block k hk]⟩
theorem Same.grows {w0 : World} {t : Nat → Prop} (h : Same t w w') (hg : Grows w0 w) (ht : ∀ k, t k → w0.heap.size ≤ k) : Grows w0 w' := by
  refine Grows.of_below ⟨h.os.trans hg.below.os, h.tape.trans hg.below.tape, h.output.trans hg.below.output, by rw [h.size]; exact hg.size, fun k hk => ?_⟩
  rw [h.block k (fun hh => by have := ht k hh; omega)]
  exact hg.below.block k hk
/-- The world has grown, and some of the old blocks alone have changed. -/
structure Touch (t : Nat → Prop) (w w' : World) : Prop where
  os : w'.os = w.os
  tape : w'.tape = w.tape
  output : w'.output = w.output
  size : w.heap.size ≤ w'.heap.size
  block : ∀ k, k < w.heap.size → ¬ t k → w'.heap[k]? = w.heap[k]?
theorem Touch.refl (t : Nat → Prop) (w : World) : Touch t w w := ⟨rfl, rfl, rfl, Nat.le_refl _, fun _ _ _ => rfl⟩
theorem Touch.of_grows {t : Nat → Prop} (h : Grows w w') : Touch t w w' := ⟨h.below.os, h.below.tape, h.below.output, h.size, fun k hk _ => h.below.block k hk⟩
theorem Touch.trans {w'' : World} {t : Nat → Prop} (h : Touch t w w') (h' : Touch t w' w'') : Touch t w w'' :=
  ⟨h'.os.trans h.os, h'.tape.trans h.tape, h'.output.trans h.output, Nat.le_trans h.size h'.size, fun k hk ht => (h'.block k (Nat.lt_of_lt_of_le hk h.size) ht).trans (h.block k hk ht)⟩
theorem Touch.mono {t t' : Nat → Prop} (h : Touch t w w') (ht : ∀ k, k < w.heap.size → t k → t' k) : Touch t' w w' := ⟨h.os, h.tape, h.output, h.size, fun k hk hk' => h.block k hk fun h' => hk' (ht k hk h')⟩
theorem Touch.put {t : Nat → Prop} (h : Touch t w w') {b : Nat} (hb : t b) (o : Obj) : Touch t w (Vg.put w' b o) :=
  ⟨h.os, h.tape, h.output, by rw [put_size]; exact h.size, fun k hk ht => by rw [put_heap_other (fun hh => ht (by rw [← hh]; exact hb))]; exact h.block k hk ht⟩
theorem Touch.of_same {t : Nat → Prop} (h : Same t w w') : Touch t w w' := ⟨h.os, h.tape, h.output, by rw [h.size]; exact Nat.le_refl _, fun k _ ht => h.block k ht⟩
theorem Touch.split {t : Nat → Prop} (h : Touch t w w') : ∃ W1 y m, w' = plus W1 y m ∧ Same t w W1 := by
  refine ⟨{ w' with heap := w'.heap.extract 0 w.heap.size }, w'.heap.extract w.heap.size w'.heap.size, w'.drawn, ?_, h.os, h.tape, h.output, ?_, ?_⟩
  · have : w'.heap = w'.heap.extract 0 w.heap.size ++ w'.heap.extract w.heap.size w'.heap.size := by
      rw [Array.extract_append_extract]
      have := h.size
      simp [Nat.max_eq_right this]
    show w' = { w' with heap := _, drawn := w'.drawn }
    rw [← this]
  · have := h.size
    simp; omega
  · intro k hk
    by_cases hlt : k < w.heap.size
    · rw [← h.block k hlt hk]
      have := h.size
      simp only [Array.getElem?_extract]
      rw [if_pos (by omega)]; simp
    · rw [Array.getElem?_eq_none (by have := h.size; simp; omega), Array.getElem?_eq_none (by omega)]
theorem grownBy_split {row : Option Nat} (h : w.grownBy w' row) : ∃ W1 y m, w' = plus W1 y m ∧ Same (fun k => row = some k) w W1 :=
  Touch.split ⟨h.os, h.tape, h.output, h.size, fun k hk ht => h.block k hk fun e => ht e.symm⟩
end

theorem two_new {w : World} {x y : Value} {t : TypeId} {n : Nat} (hn : n = w.heap.size) : ∀ j u, [x, y][j]? = some u → (w.alloc (.cells #[x, y] t)).cell? ((⟨n, 0, none⟩ : Addr).add j) = some u := by
  subst hn
  intro j u hu
  rw [Addr.add_lit, cells_of (w := w.alloc (.cells #[x, y] t)) (b := w.heap.size) (cs := #[x, y]) (t := t) (f := (0, 0)) (alloc_heap_at rfl)]
  simpa using hu
section
variable {P : Program} (w : World)
theorem run_append_room_at (t ty e : TypeId) (i : TypeInfo) (ht : P.underlying t = some (.slice e)) (hi : P.info? e = some i)
    (g o sLen sCap : Nat) (cur : Array Value) (hg : w.heap[g]? = some (.cells cur e (0, 0)))
    (a : Addr) (m c : Nat) (news : List Value) (hl : news.length = m * i.size) (hnews : ∀ j u, news[j]? = some u → w.cell? (a.add j) = some u) (h1 : ∀ u ∈ news, u.oneCell' = true)
    (hroom : sLen + m ≤ sCap) (hfit : o + sLen * i.size + news.length ≤ cur.size) :
    (Builtin.append_ #[t, t] ty #[.slice (some ⟨g, o, none⟩) sLen sCap, .slice (some a) m c]).run P w =
      .ok (.slice (some ⟨g, o, none⟩) (sLen + m) sCap) (w.setRow g (cur.toList.take (o + sLen * i.size) ++ news ++ cur.toList.drop (o + sLen * i.size + news.length)).toArray) := by
  have hf := run_firstCells_some (P := P) w i.size m a m c news hl hnews
  have hst := run_storeCells_at P g (o + sLen * i.size) e news 0 cur w hg (by simpa using hfit) h1
  simp only [Nat.add_zero] at hst
  simp [Builtin.append_, run_underlying ht, Go.sizeOf, typeInfo, hi, Builtin.lenOf, hroom, hf, Addr.add_lit, hst]

theorem run_append_que (base : Nat) (t ty e : TypeId) (i : TypeInfo) (z : Value) (size bytes : Nat) (ht : P.underlying t = some (.slice e)) (hi : P.info? e = some i) (hz : i.zero = some z)
    (hsize : i.size = size) (hby : i.bytes = bytes) (hzs : z.cells.size = size) (hsz : 0 < size)
    (v : Value) (n : Nat) (xs : List Value) (hown : Que w base e size v n xs)
    (a : Addr) (m c : Nat) (news : List Value) (hl : news.length = m * size) (hnews : ∀ j u, news[j]? = some u → w.cell? (a.add j) = some u) (h1 : ∀ u ∈ news, u.oneCell' = true) (hm0 : 0 < m)
    (h63 : n + m ≤ maxLen) (hbytes : (n + m) * bytes ≤ 140737488355328) (hbase : base ≤ w.heap.size) :
    ∃ v' w', (Builtin.append_ #[t, t] ty #[v, .slice (some a) m c]).run P w = .ok v' w' ∧ Que w' base e size v' (n + m) (xs ++ news) ∧ w.grownBy w' v.ownBlock ∧ (v'.ownBlock = v.ownBlock ∨ v'.ownBlock = some w.heap.size) := by
  rcases hown.2 with ⟨rfl, rfl⟩ | ⟨g, o, cap, cur, rfl, hbg, hg, hnc, hcm, hcs, htake⟩
  · have hx : xs = [] := List.eq_nil_of_length_eq_zero (by simpa using hown.1)
    subst hx
    obtain ⟨v', w', h1', h2', h3', h4'⟩ := run_append_own_at (P := P) w base t ty e i z size bytes ht hi hz hsize hby hzs hsz _ 0 [] (World.ownsRow_nil w base e size) a m c news hl hnews h1 h63 hbytes hbase
    exact ⟨v', w', h1', Que.of_owns h2', h3', h4'.2⟩
  · subst hsize
    subst hby
    have hlen : (xs ++ news).length = (n + m) * i.size := by rw [List.length_append, hown.1, hl, Nat.add_mul]
    by_cases hroom : n + m ≤ cap
    · have hfit : o + n * i.size + news.length ≤ cur.size := by
        rw [hl, Nat.add_assoc, ← Nat.add_mul]; exact Nat.le_trans (Nat.add_le_add_left (Nat.mul_le_mul_right _ hroom) _) hcs
      have hr := run_append_room_at (P := P) w t ty e i ht hi g o n cap cur hg a m c news hl hnews h1 hroom hfit
      refine ⟨_, _, hr, ⟨hlen, .inr ⟨g, o, cap, _, rfl, hbg, setRow_heap w g cur _ e _ hg, hroom, hcm, ?_, ?_⟩⟩, ⟨rfl, rfl, rfl, by simp, fun k _ hk => setRow_other w g k _ (fun e => hk (by simp [Value.ownBlock, e]))⟩, .inl rfl⟩
      · simp only [List.size_toArray, List.length_append, List.length_take, List.length_drop, Array.length_toList]
        omega
      · simp only [List.append_assoc]
        rw [List.drop_append_of_le_length (by rw [List.length_take, Array.length_toList]; omega), List.drop_take]
        rw [show o + n * i.size - o = n * i.size from by omega, htake, ← List.append_assoc, ← hlen]
        exact List.take_left
    · have holds : ∀ j u, xs[j]? = some u → w.cell? ((⟨g, o, none⟩ : Addr).add j) = some u := by
        intro j u hu
        obtain ⟨hj, rfl⟩ := List.getElem?_eq_some_iff.1 hu
        rcases hown.reads with ⟨h0, _⟩ | ⟨g', o', cap', h0, _, _, _, _, hc⟩
        · cases h0
        · simp only [Value.slice.injEq, Option.some.injEq, Addr.mk.injEq] at h0
          obtain ⟨⟨rfl, rfl, _⟩, _, rfl⟩ := h0
          rw [Addr.add_lit]; exact hc j hj
      have hr := run_append_grow (P := P) w t ty e i z ht hi hz ⟨g, o, none⟩ n cap xs hown.1 holds a m c news hl hnews (by omega) (by simp only [maxLen] at h63; omega) (growslice_fits (by omega) hbytes)
      have hge := grownCap_ge w (n + m) cap e
      have hcm' : grownCap w (n + m) cap e ≤ maxLen := grownCap_le_maxLen w (n + m) cap e h63
      refine ⟨_, _, hr, ⟨hlen, .inr ⟨w.heap.size, 0, _, _, rfl, hbase, heap_alloc_new w.drew _, hge, hcm', ?_, ?_⟩⟩, ⟨rfl, rfl, rfl, by simp, fun k hk _ => alloc_heap_past (w := w.drew) hk⟩, .inr rfl⟩
      · simp only [Array.size_append, List.size_toArray, size_zeroCells, hzs, hown.1, hl, ← Nat.add_mul, Nat.zero_add]
        exact Nat.mul_le_mul_right _ (by omega)
      · simp only [Array.toList_append, List.drop_zero]
        rw [← hlen]
        exact List.take_left
theorem wpList_que {ops : Array Oper} {rest : List Oper} {o : Oper} {a : Act} {Q : Exit → Act → World → Prop} (hgd : o.guard = none) (s x : Operand) (t : TypeId)
    (ho : o.op = .call { callee := .builtin .append, args := #[s, x], argTypes := #[t, t] })
    (base : Nat) (e : TypeId) (i : TypeInfo) (z : Value) (size bytes : Nat) (ht : P.underlying t = some (.slice e)) (hi : P.info? e = some i) (hz : i.zero = some z)
    (hsize : i.size = size) (hby : i.bytes = bytes) (hzs : z.cells.size = size) (hsz : 0 < size)
    (v : Value) (n : Nat) (xs : List Value) (hs : a.eval s = v) (hown : Que w base e size v n xs)
    (ad : Addr) (m c : Nat) (news : List Value) (hx : a.eval x = .slice (some ad) m c) (hl : news.length = m * size) (hnews : ∀ j u, news[j]? = some u → w.cell? (ad.add j) = some u) (h1 : ∀ u ∈ news, u.oneCell' = true) (hm0 : 0 < m)
    (h63 : n + m ≤ maxLen) (hbytes : (n + m) * bytes ≤ 140737488355328) (hbase : base ≤ w.heap.size)
    (h : ∀ v' W1 y k, Que (plus W1 y k) base e size v' (n + m) (xs ++ news) → Same (fun j => v.ownBlock = some j) w W1 → (v'.ownBlock = v.ownBlock ∨ v'.ownBlock = some w.heap.size) → wpList P ops Q rest (a.put o.dst v') (plus W1 y k)) : wpList P ops Q (o :: rest) a w := by
  refine wpList_plain hgd fun _ hK => ?_
  obtain ⟨v', w', hr, h2, h3, h4⟩ := run_append_que (P := P) w base t o.type e i z size bytes ht hi hz hsize hby hzs hsz v n xs hown ad m c news hl hnews h1 hm0 h63 hbytes hbase
  obtain ⟨W1, y, k, rfl, hsame⟩ := grownBy_split h3
  unfold Oper.wp execOp
  simp only [ho, resolve, invoke, builtin, Sem.run_bind, Sem.run_pure, Result.andThen_ok, List.map_toArray, List.map_cons, List.map_nil, hs, hx, hr]
  exact hK _ _ (h v' W1 y k h2 hsame h4)
end
end Vg
