/- Package irq: plain words, the predicate 'IQ' (lines in a row, each with a mask of its own; a controller; a stack), what writes leave. -/
import Derived.Test.YtekjnagojphmkaaDoorIcH
import Derived.Test.YtekjnagojphmkaaDoorStormP
import Derived.Test.YtekjnagojphmkaaDoorServer
set_option linter.unusedSimpArgs false
set_option linter.unusedVariables false
set_option maxHeartbeats 1000000
set_option maxRecDepth 100000
namespace Vg
open Go
structure Ln where
  top : Int
  bot : Int
  lost : Int
  srv : Int
  many : Nat
  wd : Int
  q : List Int
  ml : Int
structure Lq where
  p : Ln
  mb : Nat
  rb : Nat
structure Bg where
  k : Nat
  left : Int
  bot : Int
structure Iq where
  c : Ic
  ls : List Ln
  S : List Bg
  last : Int
def lcells : List Lq → List Value
  | [] => []
  | x :: l => .pointer (some ⟨x.mb, 0, none⟩) :: .int .i64 x.p.top :: .int .i64 x.p.bot :: .int .i64 x.p.lost :: .int .i64 x.p.srv :: lcells l
theorem lcells_length : ∀ l : List Lq, (lcells l).length = l.length * 5
  | [] => rfl
  | x :: l => by simp [lcells, lcells_length l]; omega
theorem lcells_append : ∀ l m : List Lq, lcells (l ++ m) = lcells l ++ lcells m
  | [], m => rfl
  | x :: l, m => by simp [lcells, lcells_append l m]
theorem lcells_get : ∀ (l : List Lq) (k : Nat) (h : k < l.length), (lcells l)[k * 5]? = some (.pointer (some ⟨l[k].mb, 0, none⟩)) ∧ (lcells l)[k * 5 + 1]? = some (.int .i64 l[k].p.top) ∧ (lcells l)[k * 5 + 2]? = some (.int .i64 l[k].p.bot) ∧ (lcells l)[k * 5 + 3]? = some (.int .i64 l[k].p.lost) ∧ (lcells l)[k * 5 + 4]? = some (.int .i64 l[k].p.srv)
  | [], k, h => by simp at h
  | x :: l, 0, _ => by simp [lcells]
  | x :: l, k + 1, h => by
    have := lcells_get l k (by simpa using h)
    rw [show (k + 1) * 5 = k * 5 + 1 + 1 + 1 + 1 + 1 from by omega]
    simpa [lcells] using this
theorem lcells_set1 : ∀ (l : List Lq) (k : Nat) (h : k < l.length) (t : Int), (lcells l).set (k * 5 + 1) (.int .i64 t) = lcells (l.set k { l[k] with p := { l[k].p with top := t } })
  | [], k, h, _ => by simp at h
  | x :: l, 0, _, t => by simp [lcells]
  | x :: l, k + 1, h, t => by
    have := lcells_set1 l k (by simpa using h) t
    rw [show (k + 1) * 5 + 1 = k * 5 + 1 + 1 + 1 + 1 + 1 + 1 from by omega]
    simpa [lcells] using this
theorem lcells_set2 : ∀ (l : List Lq) (k : Nat) (h : k < l.length) (t : Int), (lcells l).set (k * 5 + 2) (.int .i64 t) = lcells (l.set k { l[k] with p := { l[k].p with bot := t } })
  | [], k, h, _ => by simp at h
  | x :: l, 0, _, t => by simp [lcells]
  | x :: l, k + 1, h, t => by
    have := lcells_set2 l k (by simpa using h) t
    rw [show (k + 1) * 5 + 2 = k * 5 + 2 + 1 + 1 + 1 + 1 + 1 from by omega]
    simpa [lcells] using this
theorem lcells_set3 : ∀ (l : List Lq) (k : Nat) (h : k < l.length) (t : Int), (lcells l).set (k * 5 + 3) (.int .i64 t) = lcells (l.set k { l[k] with p := { l[k].p with lost := t } })
  | [], k, h, _ => by simp at h
  | x :: l, 0, _, t => by simp [lcells]
  | x :: l, k + 1, h, t => by
    have := lcells_set3 l k (by simpa using h) t
    rw [show (k + 1) * 5 + 3 = k * 5 + 3 + 1 + 1 + 1 + 1 + 1 from by omega]
    simpa [lcells] using this
theorem lcells_set4 : ∀ (l : List Lq) (k : Nat) (h : k < l.length) (t : Int), (lcells l).set (k * 5 + 4) (.int .i64 t) = lcells (l.set k { l[k] with p := { l[k].p with srv := t } })
  | [], k, h, _ => by simp at h
  | x :: l, 0, _, t => by simp [lcells]
  | x :: l, k + 1, h, t => by
    have := lcells_set4 l k (by simpa using h) t
    rw [show (k + 1) * 5 + 4 = k * 5 + 4 + 1 + 1 + 1 + 1 + 1 from by omega]
    simpa [lcells] using this
theorem lcells_same : ∀ (l : List Lq) (k : Nat) (h : k < l.length) (q : List Int) (ml : Int), lcells (l.set k { l[k] with p := { l[k].p with q := q, ml := ml } }) = lcells l
  | [], k, h, _, _ => by simp at h
  | x :: l, 0, _, q, ml => by simp [lcells]
  | x :: l, k + 1, h, q, ml => by
    have := lcells_same l k (by simpa using h) q ml
    simpa [lcells] using this
def scells : List Bg → List Value
  | [] => []
  | x :: l => .int .i64 x.k :: .int .i64 x.left :: .int .i64 x.bot :: scells l
theorem scells_length : ∀ l : List Bg, (scells l).length = l.length * 3
  | [] => rfl
  | x :: l => by simp [scells, scells_length l]; omega
theorem scells_append : ∀ l m : List Bg, scells (l ++ m) = scells l ++ scells m
  | [], m => rfl
  | x :: l, m => by simp [scells, scells_append l m]
theorem scells_get : ∀ (l : List Bg) (k : Nat) (h : k < l.length), (scells l)[k * 3]? = some (.int .i64 l[k].k) ∧ (scells l)[k * 3 + 1]? = some (.int .i64 l[k].left) ∧ (scells l)[k * 3 + 2]? = some (.int .i64 l[k].bot)
  | [], k, h => by simp at h
  | x :: l, 0, _ => by simp [scells]
  | x :: l, k + 1, h => by
    have := scells_get l k (by simpa using h)
    rw [show (k + 1) * 3 = k * 3 + 1 + 1 + 1 from by omega]
    simpa [scells] using this
theorem scells_set1 : ∀ (l : List Bg) (k : Nat) (h : k < l.length) (t : Int), (scells l).set (k * 3 + 1) (.int .i64 t) = scells (l.set k { l[k] with left := t })
  | [], k, h, _ => by simp at h
  | x :: l, 0, _, t => by simp [scells]
  | x :: l, k + 1, h, t => by
    have := scells_set1 l k (by simpa using h) t
    rw [show (k + 1) * 3 + 1 = k * 3 + 1 + 1 + 1 + 1 from by omega]
    simpa [scells] using this
/-- The cells of a line of a row. -/
theorem Que.line {w : World} {B n : Nat} {ty : TypeId} {v : Value} {M : List Lq} (hn : M.length = n) (h : Que w B ty 5 v n (lcells M)) (i : Nat) (hi : i < M.length) :
    ∃ g o c, v = .slice (some ⟨g, o, none⟩) n c ∧ B ≤ g ∧ g < w.heap.size ∧ n ≤ c ∧ c ≤ 9223372036854775807 ∧ w.cell? ⟨g, o + i * 5, none⟩ = some (.pointer (some ⟨M[i].mb, 0, none⟩)) ∧ w.cell? ⟨g, o + i * 5 + 1, none⟩ = some (.int .i64 M[i].p.top) ∧ w.cell? ⟨g, o + i * 5 + 2, none⟩ = some (.int .i64 M[i].p.bot) ∧ w.cell? ⟨g, o + i * 5 + 3, none⟩ = some (.int .i64 M[i].p.lost) ∧ w.cell? ⟨g, o + i * 5 + 4, none⟩ = some (.int .i64 M[i].p.srv) := by
  subst hn
  obtain ⟨a, c, rfl⟩ := h.shape
  have hl := lcells_length M
  obtain ⟨g, o, rfl, hg, hc, hm, hx⟩ := h.reads.open (by omega)
  obtain ⟨g0, g1, g2, g3, g4⟩ := lcells_get M i hi
  have key : ∀ j u, i * 5 + j < (lcells M).length → (lcells M)[i * 5 + j]? = some u → w.cell? ⟨g, o + i * 5 + j, none⟩ = some u := fun j u hj hu => by
    have := hx (i * 5 + j) hj
    rw [← Nat.add_assoc] at this
    rw [this, ← hu, List.getElem?_eq_getElem]
  have hhc : c ≤ 9223372036854775807 := hm
  exact ⟨g, o, c, rfl, (h.lt g rfl).1, hg, hc, hhc, by simpa using key 0 _ (by omega) g0, key 1 _ (by omega) g1, key 2 _ (by omega) g2, key 3 _ (by omega) g3, key 4 _ (by omega) g4⟩
theorem Que.begun {w : World} {B n : Nat} {ty : TypeId} {v : Value} {M : List Bg} (hn : M.length = n) (h : Que w B ty 3 v n (scells M)) (i : Nat) (hi : i < M.length) :
    ∃ g o c, v = .slice (some ⟨g, o, none⟩) n c ∧ B ≤ g ∧ g < w.heap.size ∧ n ≤ c ∧ c ≤ 9223372036854775807 ∧ w.cell? ⟨g, o + i * 3, none⟩ = some (.int .i64 M[i].k) ∧ w.cell? ⟨g, o + i * 3 + 1, none⟩ = some (.int .i64 M[i].left) ∧ w.cell? ⟨g, o + i * 3 + 2, none⟩ = some (.int .i64 M[i].bot) := by
  subst hn
  obtain ⟨a, c, rfl⟩ := h.shape
  have hl := scells_length M
  obtain ⟨g, o, rfl, hg, hc, hm, hx⟩ := h.reads.open (by omega)
  obtain ⟨g0, g1, g2⟩ := scells_get M i hi
  have key : ∀ j u, i * 3 + j < (scells M).length → (scells M)[i * 3 + j]? = some u → w.cell? ⟨g, o + i * 3 + j, none⟩ = some u := fun j u hj hu => by
    have := hx (i * 3 + j) hj
    rw [← Nat.add_assoc] at this
    rw [this, ← hu, List.getElem?_eq_getElem]
  have hhc : c ≤ 9223372036854775807 := hm
  exact ⟨g, o, c, rfl, (h.lt g rfl).1, hg, hc, hhc, by simpa using key 0 _ (by omega) g0, key 1 _ (by omega) g1, key 2 _ (by omega) g2⟩
/-- The last element is cut off. -/
theorem Que.init {w : World} {B : Nat} {e : TypeId} {size n c : Nat} {a : Option Addr} {xs : List Value} (h : Que w B e size (.slice a (n + 1) c) (n + 1) xs) : Que w B e size (.slice a n c) n (xs.take (n * size)) := by
  have hl := h.1
  refine ⟨by rw [List.length_take, hl, Nat.add_mul]; omega, ?_⟩
  rcases h.2 with ⟨h0, _⟩ | ⟨g, o, cap, cur, hv, hb, hg, hn, hm, hcs, ht⟩
  · cases h0
  · simp only [Value.slice.injEq] at hv
    obtain ⟨rfl, _, rfl⟩ := hv
    refine .inr ⟨g, o, c, cur, rfl, hb, hg, by omega, hm, hcs, ?_⟩
    rw [← ht, List.take_take]
    congr 1
    have : n * size ≤ (n + 1) * size := Nat.mul_le_mul_right _ (by omega)
    omega
theorem scells_init (S : List Bg) (x : Bg) (n : Nat) (hn : S.length = n) : (scells (S ++ [x])).take (n * 3) = scells S := by
  rw [scells_append, ← hn, ← scells_length]
  exact List.take_left
/-- What a time told makes of a mask. -/
def Told (now : Int) (x y : Ln) : Prop :=
  y = x ∨ (x.ml ≤ now ∧ now ≤ 4503599627370496 ∧ y = { x with q := pop now x.q, ml := now })
def Entered (now : Int) (x y : Ln) : Prop :=
  x.ml ≤ now ∧ now ≤ 4503599627370496 ∧ (pop now x.q).length < x.many ∧ y = { x with q := pop now x.q ++ [now + x.wd], ml := now }
theorem pop_pop (now : Int) : ∀ q : List Int, pop now (pop now q) = pop now q
  | [] => rfl
  | t :: ts => by
    by_cases h : t ≤ now
    · have e : pop now (t :: ts) = pop now ts := by rw [pop, if_pos h]
      rw [e]; exact pop_pop now ts
    · have e : pop now (t :: ts) = t :: ts := by rw [pop, if_neg h]
      rw [e, e]
theorem Told.refl (now : Int) (x : Ln) : Told now x x := .inl rfl
theorem Told.trans {now : Int} {x y z : Ln} (h : Told now x y) (h2 : Told now y z) : Told now x z := by
  rcases h with rfl | ⟨a, b, rfl⟩
  · exact h2
  · rcases h2 with rfl | ⟨_, _, rfl⟩
    · exact .inr ⟨a, b, rfl⟩
    · exact .inr ⟨a, b, by simp [pop_pop]⟩
def Tolds (now : Int) (l m : List Ln) : Prop := l.length = m.length ∧ ∀ i (h : i < l.length) (h' : i < m.length), Told now l[i] m[i]
theorem Tolds.refl (now : Int) (l : List Ln) : Tolds now l l := ⟨rfl, fun i h h' => Told.refl _ _⟩
theorem Tolds.trans {now : Int} {l m k : List Ln} (h : Tolds now l m) (h2 : Tolds now m k) : Tolds now l k :=
  ⟨h.1.trans h2.1, fun i a b => (h.2 i a (by rw [← h.1]; exact a)).trans (h2.2 i (by rw [← h.1]; exact a) b)⟩
theorem Tolds.set {now : Int} {l : List Ln} {i : Nat} (hi : i < l.length) {y : Ln} (h : Told now l[i] y) : Tolds now l (l.set i y) := by
  refine ⟨by simp, fun j a b => ?_⟩
  by_cases hj : i = j
  · subst hj; rw [List.getElem_set_self]; exact h
  · rw [List.getElem_set_ne hj]; exact Told.refl _ _
structure Iq.Ok (n : Nat) (s : Iq) : Prop where
  st : s.c.st = s.S.map (·.k)
  len : s.ls.length = n ∨ (s.ls = [] ∧ n = 1 ∧ s.c.pe = 0)
  each : ∀ x ∈ s.ls, (1 ≤ x.wd ∧ x.wd ≤ 1099511627776) ∧ 0 ≤ x.ml
/-- Masks are told, lines enabled or disabled; what waits and what is served stays. -/
structure Iq.Calm (now : Int) (s s' : Iq) : Prop where
  pe : s'.c.pe = s.c.pe
  pr : s'.c.pr = s.c.pr
  st : s'.c.st = s.c.st
  S : s'.S = s.S
  ls : Tolds now s.ls s'.ls
theorem Iq.Calm.refl (now : Int) (s : Iq) : Iq.Calm now s s := ⟨rfl, rfl, rfl, rfl, Tolds.refl _ _⟩
theorem Iq.Calm.trans {now : Int} {a b c : Iq} (h : Iq.Calm now a b) (h2 : Iq.Calm now b c) : Iq.Calm now a c := ⟨h2.pe.trans h.pe, h2.pr.trans h.pr, h2.st.trans h.st, h2.S.trans h.S, h.ls.trans h2.ls⟩
theorem Told.each {now : Int} {x y : Ln} (h : Told now x y) (hx : (1 ≤ x.wd ∧ x.wd ≤ 1099511627776) ∧ 0 ≤ x.ml) : (1 ≤ y.wd ∧ y.wd ≤ 1099511627776) ∧ 0 ≤ y.ml := by
  rcases h with rfl | ⟨a, b, rfl⟩
  · exact hx
  · exact ⟨hx.1, by have := hx.2; simp only; omega⟩
def Iq.setl (s : Iq) (i : Nat) (x : Ln) : Iq := { s with ls := s.ls.set i x }
theorem Iq.Ok.setl {n i : Nat} {s : Iq} {x : Ln} (h : s.Ok n) (hx : (1 ≤ x.wd ∧ x.wd ≤ 1099511627776) ∧ 0 ≤ x.ml) : (s.setl i x).Ok n := by
  refine ⟨h.st, ?_, fun y hy => ?_⟩
  · rcases h.len with h1 | ⟨h1, h2, h3⟩
    · exact .inl (by simp [Iq.setl, h1])
    · exact .inr ⟨by simp [Iq.setl, h1], h2, h3⟩
  · rcases List.mem_or_eq_of_mem_set hy with h1 | h1
    · exact h.each y h1
    · rw [h1]; exact hx
end Vg
namespace Go.Proofs.YtekjnagojphmkaaDoor
open Go.ChangeShapes Go.WideShapes Go.ChangeAt Go.RowKit
/-- A mask at block mb, its ring at rb. -/
def MK (w : World) (mb rb many : Nat) (wd : Int) (q : List Int) (ml : Int) : Prop :=
  ∃ first R rf, Vg.blk w mb = some (maskC rb many wd first q.length ml rf) ∧ Vg.blk w rb = some (ringC R many) ∧ mb ≠ rb ∧ Shows R many first q
section
variable {w w' : World} {mb rb many : Nat} {wd ml : Int} {q : List Int}
theorem MK.lt (h : MK w mb rb many wd q ml) : mb < w.heap.size ∧ rb < w.heap.size := by
  obtain ⟨first, R, rf, h1, h2, _⟩ := h
  exact ⟨Vg.lt_of h1, Vg.lt_of h2⟩
theorem MK.touch {t : Nat → Prop} (h : MK w mb rb many wd q ml) (ht : Vg.Touch t w w') (h1 : ¬ t mb) (h2 : ¬ t rb) : MK w' mb rb many wd q ml := by
  obtain ⟨first, R, rf, a1, a2, a3⟩ := h
  exact ⟨first, R, rf, ht.bk a1 h1, ht.bk a2 h2, a3⟩
theorem MK.grows (h : MK w mb rb many wd q ml) (hg : Vg.Grows w w') : MK w' mb rb many wd q ml :=
  h.touch (t := fun _ => False) (Vg.Touch.of_grows hg) id id
theorem mk_masked (now : Int) (h : MK w mb rb many wd q ml) :
    Calls Tryd.prog 32 #[.pointer (some ⟨mb, 0, none⟩), .int .i64 now] w fun e w' => ∃ fl er q' ml', e = .returned (.tuple #[.bool fl, .int .i64 er]) ∧ MK w' mb rb many wd q' ml' ∧ ((q' = q ∧ ml' = ml) ∨ (ml ≤ now ∧ now ≤ 4503599627370496 ∧ q' = Vg.pop now q ∧ ml' = now)) ∧ Vg.Touch (fun k => k = mb ∨ k = rb) w w' := by
  obtain ⟨first, R, rf, a1, a2, a3, a4⟩ := h
  by_cases hno : now < ml ∨ 4503599627370496 < now
  · refine (storm_masked_no now a1 hno).mono ?_
    rintro e w1 ⟨rfl, hg⟩
    exact ⟨false, 1, q, ml, rfl, MK.grows ⟨first, R, rf, a1, a2, a3, a4⟩ hg, .inl ⟨rfl, rfl⟩, Vg.Touch.of_grows hg⟩
  · refine (storm_masked_ok now q a1 a2 a3 a4 (by omega) (by omega)).mono ?_
    rintro e w1 ⟨first', hs, rfl, hg⟩
    have l1 := Vg.lt_of a1
    have ht : Vg.Touch (fun k => k = mb ∨ k = rb) w w1 := (Vg.Touch.put (Vg.Touch.refl _ _) (.inl rfl) _).trans (Vg.Touch.of_grows hg)
    refine ⟨_, 0, Vg.pop now q, now, rfl, ⟨first', R, rf, hg.blk (Vg.blk_put_same l1), hg.blk ((Vg.blk_put_other a3).trans a2), a3, hs⟩, .inr ⟨by omega, by omega, rfl, rfl⟩, ht⟩
end
theorem IS.touch {w w' : World} {t : Nat → Prop} {c : Vg.Ic} {n m pc sc : Nat} {pa sa : Option Addr} (h : IS w c n m pa pc sa sc) (ht : Vg.Touch t w w') (h1 : ∀ k, (Value.slice pa n pc).ownBlock = some k → ¬ t k) (h2 : ∀ k, (Value.slice sa m sc).ownBlock = some k → ¬ t k) : IS w' c n m pa pc sa sc :=
  ⟨h.ok, h.m, h.p.touch ht h.ok.len h1, h.s.touch (n := m) ht ((Vg.ic_len _).trans h.m) h2⟩
/-- Lines' cells. -/
abbrev irqC (pe en ed : Nat) (pa : Option Addr) (n pc : Nat) (sa : Option Addr) (m sc : Nat) (lv sv : Value) (mk : Nat) (last : Int) : Obj :=
  .cells #[.int .u64 pe, .int .u64 en, .int .u64 0, .int .u64 ed, .slice pa n pc, .int .i64 0, .slice sa m sc, lv, sv, .int .u64 mk, .int .i64 last] 81
/-- Lines lie at block b; 'ow' tells what each block is for (0: none of its own). -/
structure IQ (w : World) (b lo n : Nat) (xs : List Vg.Lq) (s : Vg.Iq) (mk : Nat) (lv sv : Value) (pa : Option Addr) (pc : Nat) (sa : Option Addr) (sc : Nat) (ow : Nat → Nat) : Prop where
  ls : xs.map (·.p) = s.ls
  ok : s.Ok n
  tab : Vg.blk w b = some (irqC s.c.pe s.c.en (2 ^ n - 1) pa n pc sa s.S.length sc lv sv mk s.last)
  is : IS w s.c n s.S.length pa pc sa sc
  lrow : Vg.Que w lo 86 5 lv xs.length (Vg.lcells xs)
  srow : Vg.Que w lo 103 3 sv s.S.length (Vg.scells s.S)
  mks : ∀ i (h : i < xs.length), MK w xs[i].mb xs[i].rb xs[i].p.many xs[i].p.wd xs[i].p.q xs[i].p.ml
  hmk : mk < 2 ^ xs.length
  ob : ow b = 1
  ol : ∀ k, lv.ownBlock = some k → ow k = 2
  os : ∀ k, sv.ownBlock = some k → ow k = 3
  op : ∀ k, (Value.slice pa n pc).ownBlock = some k → ow k = 4
  oq : ∀ k, (Value.slice sa s.S.length sc).ownBlock = some k → ow k = 4
  om : ∀ i (h : i < xs.length), ow xs[i].mb = 5 + i ∧ ow xs[i].rb = 5 + i
  hw : ∀ k, ow k ≠ 0 → lo ≤ k ∧ k < w.heap.size
section
variable {w w' : World} {b lo n mk pc sc : Nat} {xs : List Vg.Lq} {s s' : Vg.Iq} {lv sv : Value} {pa sa : Option Addr} {ow : Nat → Nat}
theorem IQ.len64 (h : IQ w b lo n xs s mk lv sv pa pc sa sc ow) : xs.length ≤ n ∧ n ≤ 64 ∧ 1 ≤ n := by
  have h1 := h.is.ok.n1
  have h2 := congrArg List.length h.ls
  rw [List.length_map] at h2
  rcases h.ok.len with h3 | ⟨h3, h4, _⟩
  · omega
  · rw [h3] at h2; simp at h2; rw [h2]; simp; omega
theorem IQ.touch {t : Nat → Prop} (h : IQ w b lo n xs s mk lv sv pa pc sa sc ow) (ht : Vg.Touch t w w') (hv : ∀ k, t k → ow k = 0) : IQ w' b lo n xs s mk lv sv pa pc sa sc ow := by
  have hq : ∀ {sz : Nat} {e : TypeId} {v : Value} {m : Nat} {us : List Value} {l : Nat}, Vg.Que w lo e sz v m us → (∀ k, v.ownBlock = some k → ow k = l) → l ≠ 0 → Vg.Que w' lo e sz v m us := fun hh ho hl => hh.kept fun k hk => ht.block k (hh.lt k hk).2 fun hh2 => by have := hv k hh2; rw [ho k hk] at this; exact hl this
  refine ⟨h.ls, h.ok, ht.bk h.tab (fun hh => by have := hv _ hh; rw [h.ob] at this; omega), h.is.touch ht (fun k hk hh => by have := hv k hh; rw [h.op k hk] at this; omega) (fun k hk hh => by have := hv k hh; rw [h.oq k hk] at this; omega), hq h.lrow h.ol (by omega), hq h.srow h.os (by omega), fun i hi => (h.mks i hi).touch ht (fun hh => by have := hv _ hh; rw [(h.om i hi).1] at this; omega) (fun hh => by have := hv _ hh; rw [(h.om i hi).2] at this; omega), h.hmk, h.ob, h.ol, h.os, h.op, h.oq, h.om, fun k hk => ⟨(h.hw k hk).1, Nat.lt_of_lt_of_le (h.hw k hk).2 ht.size⟩⟩
theorem IQ.grows (h : IQ w b lo n xs s mk lv sv pa pc sa sc ow) (hg : Vg.Grows w w') : IQ w' b lo n xs s mk lv sv pa pc sa sc ow :=
  h.touch (t := fun _ => False) (Vg.Touch.of_grows hg) fun _ hh => hh.elim
/-- The block of the lines itself has changed (its controller's rows may be new ones). -/
theorem IQ.tabs {c' : Vg.Ic} {mk' : Nat} {last' : Int} {pa' sa' : Option Addr} {pc' sc' m' : Nat} (h : IQ w b lo n xs s mk lv sv pa pc sa sc ow) (ht : Vg.Touch (fun k => k = b) w w')
    (hm : c'.st = s.S.map (·.k)) (hpe : s.ls = [] → c'.pe = 0) (hmm : m' = s.S.length)
    (htab : Vg.blk w' b = some (irqC c'.pe c'.en (2 ^ n - 1) pa' n pc' sa' m' sc' lv sv mk' last')) (his : IS w' c' n m' pa' pc' sa' sc') (hmk : mk' < 2 ^ xs.length)
    (h1 : ∀ k, (Value.slice pa' n pc').ownBlock = some k → ow k = 4 ∨ (w.heap.size ≤ k ∧ k < w'.heap.size)) (h2 : ∀ k, (Value.slice sa' m' sc').ownBlock = some k → ow k = 4 ∨ (w.heap.size ≤ k ∧ k < w'.heap.size)) :
    ∃ ow', IQ w' b lo n xs ⟨c', s.ls, s.S, last'⟩ mk' lv sv pa' pc' sa' sc' ow' ∧ ∀ k, ow' k ≠ 0 → ow k ≠ 0 ∨ w.heap.size ≤ k := by
  subst hmm
  have hz : ∀ k, w.heap.size ≤ k → ow k = 0 := fun k hk => by
    by_cases h0 : ow k = 0
    · exact h0
    · have := (h.hw k h0).2; omega
  have hlo : lo ≤ w.heap.size := by have := h.hw b (by rw [h.ob]; omega); omega
  let nw : Nat → Prop := fun k => (Value.slice pa' n pc').ownBlock = some k ∨ (Value.slice sa' s.S.length sc').ownBlock = some k
  have hnw : ∀ k, nw k → ow k = 4 ∨ (w.heap.size ≤ k ∧ k < w'.heap.size) := fun k hk => hk.elim (h1 k) (h2 k)
  classical
  let ow' : Nat → Nat := fun k => if nw k then 4 else ow k
  have e1 : ∀ k, ow k ≠ 0 → ow' k = ow k := fun k hk => by
    show (if nw k then 4 else ow k) = ow k
    split
    · rename_i hh
      rcases hnw k hh with h4 | h4
      · exact h4.symm
      · exact absurd (hz k h4.1) hk
    · rfl
  have e2 : ∀ k l, l ≠ 0 → ow k = l → ow' k = l := fun k l hl hk => by rw [e1 k (by rw [hk]; exact hl), hk]
  have hq : ∀ {sz : Nat} {e : TypeId} {v : Value} {m : Nat} {us : List Value} {l : Nat}, Vg.Que w lo e sz v m us → (∀ k, v.ownBlock = some k → ow k = l) → l ≠ 1 → Vg.Que w' lo e sz v m us := fun hh ho hl => hh.kept fun k hk => ht.block k (hh.lt k hk).2 fun hh2 => by have h9 := ho k hk; rw [hh2, h.ob] at h9; exact hl h9.symm
  refine ⟨ow', ⟨h.ls, ⟨hm, ?_, h.ok.each⟩, htab, his, hq h.lrow h.ol (by omega), hq h.srow h.os (by omega), fun i hi => (h.mks i hi).touch ht (fun hh => by have h9 := (h.om i hi).1; rw [hh, h.ob] at h9; omega) (fun hh => by have h9 := (h.om i hi).2; rw [hh, h.ob] at h9; omega), hmk, e2 _ _ (by omega) h.ob, fun k hk => e2 _ _ (by omega) (h.ol k hk), fun k hk => e2 _ _ (by omega) (h.os k hk), fun k hk => if_pos (.inl hk), fun k hk => if_pos (.inr hk), fun i hi => ⟨e2 _ _ (by omega) (h.om i hi).1, e2 _ _ (by omega) (h.om i hi).2⟩, fun k hk => ?_⟩, fun k hk => ?_⟩
  · rcases h.ok.len with h3 | ⟨h3, h4, h5⟩
    · exact .inl h3
    · exact .inr ⟨h3, h4, hpe h3⟩
  · by_cases h0 : ow k = 0
    · have hn : nw k := by
        refine Classical.byContradiction fun hh => hk ?_
        show (if nw k then 4 else ow k) = 0
        rw [if_neg hh, h0]
      rcases hnw k hn with h4 | h4
      · omega
      · omega
    · exact ⟨(h.hw k h0).1, Nat.lt_of_lt_of_le (h.hw k h0).2 ht.size⟩
  · by_cases h0 : ow k = 0
    · right
      have hn : nw k := by
        refine Classical.byContradiction fun hh => hk ?_
        show (if nw k then 4 else ow k) = 0
        rw [if_neg hh, h0]
      rcases hnw k hn with h4 | h4
      · omega
      · exact h4.1
    · exact .inl h0
/-- A line's numbers have changed. -/
theorem IQ.lines {ys : List Vg.Lq} (h : IQ w b lo n xs s mk lv sv pa pc sa sc ow) (hl : ys.length = xs.length) (hq : Vg.Que w' lo 86 5 lv xs.length (Vg.lcells ys)) (ht : Vg.Touch (fun k => lv.ownBlock = some k) w w')
    (hy : ∀ i (h : i < ys.length) (h' : i < xs.length), ys[i].mb = xs[i].mb ∧ ys[i].rb = xs[i].rb ∧ ys[i].p.many = xs[i].p.many ∧ ys[i].p.wd = xs[i].p.wd ∧ ys[i].p.q = xs[i].p.q ∧ ys[i].p.ml = xs[i].p.ml)
    (hls : ys.map (·.p) = s'.ls) (hc : s'.c = s.c) (hS : s'.S = s.S) (hla : s'.last = s.last) : IQ w' b lo n ys s' mk lv sv pa pc sa sc ow := by
  obtain ⟨c', ls', S', la'⟩ := s'
  simp only at hls hc hS hla
  subst hc hS hla
  have hq2 : ∀ {sz : Nat} {e : TypeId} {v : Value} {m : Nat} {us : List Value} {l : Nat}, Vg.Que w lo e sz v m us → (∀ k, v.ownBlock = some k → ow k = l) → l ≠ 2 → Vg.Que w' lo e sz v m us := fun hh ho hl => hh.kept fun k hk => ht.block k (hh.lt k hk).2 fun hh2 => by have h9 := ho k hk; rw [h.ol k hh2] at h9; exact hl h9.symm
  refine ⟨hls, ⟨h.ok.st, ?_, fun x hx => ?_⟩, ht.bk h.tab (fun hh => by have h9 := h.ol _ hh; rw [h.ob] at h9; omega), h.is.touch ht (fun k hk hh => by have := h.ol k hh; rw [h.op k hk] at this; omega) (fun k hk hh => by have := h.ol k hh; rw [h.oq k hk] at this; omega), by rw [hl]; exact hq, hq2 h.srow h.os (by omega), fun i hi => ?_, by rw [hl]; exact h.hmk, h.ob, h.ol, h.os, h.op, h.oq, fun i hi => ?_, fun k hk => ⟨(h.hw k hk).1, Nat.lt_of_lt_of_le (h.hw k hk).2 ht.size⟩⟩
  · have e1 : ls'.length = s.ls.length := by rw [← hls, ← h.ls]; simp [hl]
    rcases h.ok.len with h3 | ⟨h3, h4⟩
    · exact .inl (by show ls'.length = n; rw [e1, h3])
    · refine .inr ⟨?_, h4⟩
      show ls' = []
      rw [h3] at e1; exact List.eq_nil_of_length_eq_zero e1
  · have hx' : x ∈ ls' := hx
    rw [← hls] at hx'
    obtain ⟨y, hym, rfl⟩ := List.mem_map.1 hx'
    obtain ⟨i, hi, rfl⟩ := List.getElem_of_mem hym
    have h2 : i < xs.length := by rw [← hl]; exact hi
    obtain ⟨-, -, -, e4, -, e6⟩ := hy i hi h2
    rw [e4, e6]
    refine h.ok.each _ ?_
    rw [← h.ls]
    exact List.mem_map.2 ⟨_, List.getElem_mem h2, rfl⟩
  · have h2 : i < xs.length := by rw [← hl]; exact hi
    obtain ⟨e1, e2, e3, e4, e5, e6⟩ := hy i hi h2
    rw [e1, e2, e3, e4, e5, e6]
    exact (h.mks i h2).touch ht (fun hh => by have h9 := h.ol _ hh; rw [(h.om i h2).1] at h9; omega) (fun hh => by have h9 := h.ol _ hh; rw [(h.om i h2).2] at h9; omega)
  · have h2 : i < xs.length := by rw [← hl]; exact hi
    obtain ⟨e1, e2, -⟩ := hy i hi h2
    rw [e1, e2]; exact h.om i h2
/-- A line's mask has changed. -/
theorem IQ.masks {i : Nat} {q' : List Int} {ml' : Int} (hi : i < xs.length) (h : IQ w b lo n xs s mk lv sv pa pc sa sc ow) (hm : MK w' xs[i].mb xs[i].rb xs[i].p.many xs[i].p.wd q' ml') (hml : 0 ≤ ml') (ht : Vg.Touch (fun k => k = xs[i].mb ∨ k = xs[i].rb) w w') :
    IQ w' b lo n (xs.set i { xs[i] with p := { xs[i].p with q := q', ml := ml' } }) (s.setl i { xs[i].p with q := q', ml := ml' }) mk lv sv pa pc sa sc ow := by
  have hv : ∀ k, (k = xs[i].mb ∨ k = xs[i].rb) → ow k = 5 + i := fun k hk => by
    rcases hk with rfl | rfl
    · exact (h.om i hi).1
    · exact (h.om i hi).2
  have hq2 : ∀ {sz : Nat} {e : TypeId} {v : Value} {m : Nat} {us : List Value} {l : Nat}, Vg.Que w lo e sz v m us → (∀ k, v.ownBlock = some k → ow k = l) → l < 5 → Vg.Que w' lo e sz v m us := fun hh ho hl => hh.kept fun k hk => ht.block k (hh.lt k hk).2 fun hh2 => by have h9 := ho k hk; rw [hv k hh2] at h9; omega
  have hne : ∀ j (hj : j < xs.length), j ≠ i → (xs.set i { xs[i] with p := { xs[i].p with q := q', ml := ml' } })[j]'(by simpa using hj) = xs[j] := fun j hj hji => List.getElem_set_ne (fun hh => hji hh.symm) _
  have hx : xs[i].p ∈ s.ls := by rw [← h.ls]; exact List.mem_map.2 ⟨_, List.getElem_mem hi, rfl⟩
  refine ⟨?_, h.ok.setl ⟨(h.ok.each _ hx).1, hml⟩, ht.bk h.tab (fun hh => by have h9 := hv _ hh; rw [h.ob] at h9; omega), h.is.touch ht (fun k hk hh => by have := hv k hh; rw [h.op k hk] at this; omega) (fun k hk hh => by have := hv k hh; rw [h.oq k hk] at this; omega), ?_, hq2 h.srow h.os (by omega), fun j hj => ?_, by rw [List.length_set]; exact h.hmk, h.ob, h.ol, h.os, h.op, h.oq, fun j hj => ?_, fun k hk => ⟨(h.hw k hk).1, Nat.lt_of_lt_of_le (h.hw k hk).2 ht.size⟩⟩
  · show _ = s.ls.set i _
    rw [List.map_set, h.ls]
  · rw [List.length_set, Vg.lcells_same]
    exact hq2 h.lrow h.ol (by omega)
  · have hj' : j < xs.length := by simpa using hj
    by_cases hji : j = i
    · subst hji
      rw [List.getElem_set_self]; exact hm
    · rw [hne j hj' hji]
      exact (h.mks j hj').touch ht (fun hh => by have h9 := hv _ hh; rw [(h.om j hj').1] at h9; omega) (fun hh => by have h9 := hv _ hh; rw [(h.om j hj').2] at h9; omega)
  · have hj' : j < xs.length := by simpa using hj
    by_cases hji : j = i
    · subst hji
      rw [List.getElem_set_self]; exact h.om j hj'
    · rw [hne j hj' hji]; exact h.om j hj'
/-- The stack's row has changed (it may lie in a new block); the block of the lines and the controller are as that tells. -/
theorem IQ.stack {S' : List Vg.Bg} {sv' : Value} (h : IQ w b lo n xs s mk lv sv pa pc sa sc ow) (hq : Vg.Que w' lo 103 3 sv' S'.length (Vg.scells S'))
    (ht : Vg.Touch (fun k => k = b ∨ sv.ownBlock = some k) w w') (hsv : ∀ k, sv'.ownBlock = some k → ow k = 3 ∨ (w.heap.size ≤ k ∧ k < w'.heap.size)) (hst : s.c.st = S'.map (·.k)) (hm : S'.length = s.S.length)
    (htab : Vg.blk w' b = some (irqC s.c.pe s.c.en (2 ^ n - 1) pa n pc sa s.S.length sc lv sv' mk s.last)) :
    ∃ ow', IQ w' b lo n xs { s with S := S' } mk lv sv' pa pc sa sc ow' ∧ ∀ k, ow' k ≠ 0 → ow k ≠ 0 ∨ w.heap.size ≤ k := by
  have hz : ∀ k, w.heap.size ≤ k → ow k = 0 := fun k hk => by
    by_cases h0 : ow k = 0
    · exact h0
    · have := (h.hw k h0).2; omega
  have hlo : lo ≤ w.heap.size := by have := h.hw b (by rw [h.ob]; omega); omega
  classical
  let ow' : Nat → Nat := fun k => if sv'.ownBlock = some k then 3 else ow k
  have e1 : ∀ k, ow k ≠ 0 → ow' k = ow k := fun k hk => by
    show (if sv'.ownBlock = some k then 3 else ow k) = ow k
    split
    · rename_i hh
      rcases hsv k hh with h4 | h4
      · exact h4.symm
      · exact absurd (hz k h4.1) hk
    · rfl
  have e2 : ∀ k l, l ≠ 0 → ow k = l → ow' k = l := fun k l hl hk => by rw [e1 k (by rw [hk]; exact hl), hk]
  have hv : ∀ k, (k = b ∨ sv.ownBlock = some k) → ow k = 1 ∨ ow k = 3 := fun k hk => by
    rcases hk with rfl | hk
    · exact .inl h.ob
    · exact .inr (h.os k hk)
  have hlr : Vg.Que w' lo 86 5 lv xs.length (Vg.lcells xs) := h.lrow.kept fun k hk => ht.block k (h.lrow.lt k hk).2 fun hh => by have := hv k hh; rw [h.ol k hk] at this; omega
  refine ⟨ow', ⟨h.ls, ⟨hst, h.ok.len, h.ok.each⟩, by show _ = some (irqC _ _ _ _ _ _ _ S'.length _ _ _ _ _); rw [hm]; exact htab, ?_, hlr, hq, fun i hi => (h.mks i hi).touch ht (fun hh => by have := hv _ hh; rw [(h.om i hi).1] at this; omega) (fun hh => by have := hv _ hh; rw [(h.om i hi).2] at this; omega), h.hmk, e2 _ _ (by omega) h.ob, fun k hk => e2 _ _ (by omega) (h.ol k hk), fun k hk => if_pos hk, fun k hk => e2 _ _ (by omega) (h.op k hk), fun k hk => e2 _ _ (by omega) (h.oq k (by rw [← hm]; exact hk)), fun i hi => ⟨e2 _ _ (by omega) (h.om i hi).1, e2 _ _ (by omega) (h.om i hi).2⟩, fun k hk => ?_⟩, fun k hk => ?_⟩
  · have h7 : IS w' s.c n s.S.length pa pc sa sc := h.is.touch ht (fun k hk hh => by have := hv k hh; rw [h.op k hk] at this; omega) (fun k hk hh => by have := hv k hh; rw [h.oq k hk] at this; omega)
    rw [← hm] at h7; exact h7
  · by_cases h0 : ow k = 0
    · have hn : sv'.ownBlock = some k := by
        refine Classical.byContradiction fun hh => hk ?_
        show (if sv'.ownBlock = some k then 3 else ow k) = 0
        rw [if_neg hh, h0]
      rcases hsv k hn with h4 | h4
      · omega
      · omega
    · exact ⟨(h.hw k h0).1, Nat.lt_of_lt_of_le (h.hw k h0).2 ht.size⟩
  · by_cases h0 : ow k = 0
    · right
      have hn : sv'.ownBlock = some k := by
        refine Classical.byContradiction fun hh => hk ?_
        show (if sv'.ownBlock = some k then 3 else ow k) = 0
        rw [if_neg hh, h0]
      rcases hsv k hn with h4 | h4
      · omega
      · exact h4.1
    · exact .inl h0
end
/-- Lines as one plain state; what they own lies in blocks of OB, from lo on. -/
structure QS (w : World) (b lo n : Nat) (s : Vg.Iq) (OB : Nat → Prop) : Prop where
  ex : ∃ xs mk lv sv pa pc sa sc ow, IQ w b lo n xs s mk lv sv pa pc sa sc ow ∧ ∀ k, ow k ≠ 0 → OB k
  own : ∀ k, OB k → lo ≤ k ∧ k < w.heap.size
def QSn (w w' : World) (b lo n : Nat) (s' : Vg.Iq) (OB : Nat → Prop) : Prop :=
  ∃ OB', QS w' b lo n s' OB' ∧ (∀ k, OB' k → OB k ∨ w.heap.size ≤ k) ∧ Vg.Touch OB w w'
section
variable {w w' : World} {b lo n mk pc sc : Nat} {xs : List Vg.Lq} {s s' : Vg.Iq} {lv sv : Value} {pa sa : Option Addr} {ow : Nat → Nat} {OB : Nat → Prop}
theorem QS.touch {t : Nat → Prop} (h : QS w b lo n s OB) (ht : Vg.Touch t w w') (hv : ∀ k, t k → ¬ OB k) : QS w' b lo n s OB := by
  obtain ⟨⟨xs, mk, lv, sv, pa, pc, sa, sc, ow, h1, h2⟩, h3⟩ := h
  exact ⟨⟨xs, mk, lv, sv, pa, pc, sa, sc, ow, h1.touch ht fun k hk => Classical.byContradiction fun h0 => hv k hk (h2 k h0), h2⟩, fun k hk => ⟨(h3 k hk).1, Nat.lt_of_lt_of_le (h3 k hk).2 ht.size⟩⟩
theorem QS.grows (h : QS w b lo n s OB) (hg : Vg.Grows w w') : QS w' b lo n s OB := h.touch (t := fun _ => False) (Vg.Touch.of_grows hg) fun _ hh => hh.elim
theorem QS.lo_le (h : QS w b lo n s OB) : lo ≤ w.heap.size := by
  obtain ⟨⟨xs, mk, lv, sv, pa, pc, sa, sc, ow, h1, h2⟩, h3⟩ := h
  have := h3 b (h2 b (by rw [h1.ob]; omega)); omega
theorem QSn.of {xs' : List Vg.Lq} {mk' pc' sc' : Nat} {lv' sv' : Value} {pa' sa' : Option Addr} {ow' : Nat → Nat} (h0 : QS w b lo n s OB) (h1 : IQ w' b lo n xs' s' mk' lv' sv' pa' pc' sa' sc' ow') (h2 : ∀ k, ow' k ≠ 0 → OB k ∨ w.heap.size ≤ k) (ht : Vg.Touch OB w w') : QSn w w' b lo n s' OB := by
  refine ⟨fun k => ow' k ≠ 0, ⟨⟨xs', mk', lv', sv', pa', pc', sa', sc', ow', h1, fun k hk => hk⟩, fun k hk => h1.hw k hk⟩, h2, ht⟩
end
end Go.Proofs.YtekjnagojphmkaaDoor
