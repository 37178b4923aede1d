/- Slices: what they read as ('Reads'), and append onto a row of the call's own, in the words of 'Grows'. No program is named here. -/
import Derived.Test.YtekjnagojphmkaaDoorObj
import Derived.Maps.AppendAt
import Derived.Laws.AppendOwnNone
set_option linter.unusedSimpArgs false
set_option linter.unusedVariables false
namespace Vg
open Go Go.RowKit
/-- The slice sv has n elements, whose cells, one behind the other, are xs; they lie in a block from S on. -/
def Reads (S : Nat) (w : World) (sv : Value) (n : Nat) (xs : List Value) : Prop :=
  (sv = .slice none 0 0 ∧ n = 0 ∧ xs = []) ∨
  ∃ g off cap, sv = .slice (some ⟨g, off, none⟩) n cap ∧ S ≤ g ∧ g < w.heap.size ∧ n ≤ cap ∧ cap ≤ maxLen ∧ ∀ j, (h : j < xs.length) → w.cell? ⟨g, off + j, none⟩ = some xs[j]
theorem Reads.nil (S : Nat) (w : World) : Reads S w (.slice none 0 0) 0 [] := .inl ⟨rfl, rfl, rfl⟩
theorem Reads.mono {S : Nat} {w w' : World} {sv : Value} {n : Nat} {xs : List Value} (h : Reads S w sv n xs) (hs : w.heap.size ≤ w'.heap.size) (hb : ∀ g, S ≤ g → g < w.heap.size → blk w' g = blk w g) : Reads S w' sv n xs := by
  rcases h with h | ⟨g, off, cap, h1, h2, h3, h4, h5, h6⟩
  · exact .inl h
  · refine .inr ⟨g, off, cap, h1, h2, by omega, h4, h5, fun j hj => ?_⟩
    rw [← h6 j hj]
    exact World.cell?_of_block (w := w) (hb g h2 h3)
theorem Reads.grows {S : Nat} {w w' : World} {sv : Value} {n : Nat} {xs : List Value} (h : Reads S w sv n xs) (hg : Grows w w') : Reads S w' sv n xs :=
  h.mono hg.size fun g _ hlt => by obtain ⟨x, k, rfl⟩ := hg; exact blk_plus hlt
theorem Reads.of_owns {S : Nat} {w : World} {e : TypeId} {size : Nat} {v : Value} {n : Nat} {xs : List Value} (h : w.ownsRow S e size v n xs) : Reads S w v n xs := by
  rcases h.2 with ⟨rfl, rfl⟩ | ⟨g, cap, cur, rfl, hb, hg, hn, hm, hcs, ht⟩
  · exact .inl ⟨rfl, rfl, List.eq_nil_of_length_eq_zero (by simpa using h.1)⟩
  · refine .inr ⟨g, 0, cap, rfl, hb, (Array.getElem?_eq_some_iff.1 hg).1, hn, hm, fun j hj => ?_⟩
    have := h.cells (g := g) rfl j xs[j] (List.getElem?_eq_getElem hj)
    rw [Nat.zero_add]
    unfold Addr.add at this
    split at this
    · rename_i h0; subst h0; exact this
    · simpa using this
theorem Reads.weaken {S S' : Nat} {w : World} {sv : Value} {n : Nat} {xs : List Value} (h : Reads S w sv n xs) (hs : S' ≤ S) : Reads S' w sv n xs := by
  rcases h with h | ⟨g, off, cap, h1, h2, h3⟩
  · exact .inl h
  · exact .inr ⟨g, off, cap, h1, by omega, h3⟩

/-- What lies behind a base reads the same over another base of that size. -/
theorem Reads.base {S n m : Nat} {W0 W1 : World} {y : Array Obj} {sv : Value} {k : Nat} {xs : List Value} (h : Reads S (plus W0 y n) sv k xs) (hs : W1.heap.size = W0.heap.size) (hS : W0.heap.size ≤ S) : Reads S (plus W1 y m) sv k xs := by
  refine h.mono (by rw [plus_size, plus_size, hs]; omega) fun g hg _ => ?_
  show (W1.heap ++ y)[g]? = (W0.heap ++ y)[g]?
  rw [Array.getElem?_append_right (by omega), Array.getElem?_append_right (by omega), hs]
/-- Two worlds are as large, and alike from block S on. -/
def Agree (S : Nat) (W W' : World) : Prop := W.heap.size = W'.heap.size ∧ ∀ g, S ≤ g → W'.heap[g]? = W.heap[g]?
theorem Agree.refl (S : Nat) (W : World) : Agree S W W := ⟨rfl, fun _ _ => rfl⟩
theorem Agree.put_right {S b : Nat} {W W' : World} (h : Agree S W W') (hb : b < S) (o : Obj) : Agree S W (put W' b o) :=
  ⟨by rw [put_size]; exact h.1, fun g hg => by rw [put_heap_other (by omega)]; exact h.2 g hg⟩
theorem Agree.put_left {S b : Nat} {W W' : World} (h : Agree S W W') (hb : b < S) (o : Obj) : Agree S (put W b o) W' :=
  ⟨by rw [put_size]; exact h.1, fun g hg => by rw [put_heap_other (by omega)]; exact h.2 g hg⟩
theorem Agree.alloc {S : Nat} {W W' : World} (h : Agree S W W') (o : Obj) : Agree S (W.alloc o) (W'.alloc o) := by
  refine ⟨by simp [h.1], fun g hg => ?_⟩
  show (W'.heap.push o)[g]? = (W.heap.push o)[g]?
  rw [Array.getElem?_push, Array.getElem?_push, h.1, h.2 g hg]
theorem Agree.plus {S : Nat} {W W' : World} (h : Agree S W W') (x : Array Obj) (n m : Nat) : Agree S (Vg.plus W x n) (Vg.plus W' x m) := by
  refine ⟨by rw [plus_size, plus_size, h.1], fun g hg => ?_⟩
  show (W'.heap ++ x)[g]? = (W.heap ++ x)[g]?
  rw [Array.getElem?_append, Array.getElem?_append, h.1, h.2 g hg]
theorem Reads.agree {S : Nat} {W W' : World} {sv : Value} {n : Nat} {xs : List Value} (h : Reads S W sv n xs) (a : Agree S W W') : Reads S W' sv n xs :=
  h.mono (by rw [a.1]; exact Nat.le_refl _) fun g hg _ => a.2 g hg
theorem owns_made0 {w : World} {e : TypeId} {size n : Nat} (hn : n = w.heap.size) : (w.alloc (.cells #[] e)).ownsRow w.heap.size e size (.slice (some ⟨n, 0, none⟩) 0 0) 0 [] := by
  subst hn
  exact World.ownsRow_made w #[] 0 (Nat.le_refl _) (by unfold maxLen; omega) (by simp)
theorem Reads.news {w : World} {g off : Nat} {xs : List Value} (h : ∀ j, (h : j < xs.length) → w.cell? ⟨g, off + j, none⟩ = some xs[j]) : ∀ j u, xs[j]? = some u → w.cell? ((⟨g, off, none⟩ : Addr).add j) = some u := fun j u hu => by
  obtain ⟨hj, rfl⟩ := List.getElem?_eq_some_iff.1 hu
  rw [← h j hj]
  unfold Addr.add
  split
  · rename_i h0; subst h0; rfl
  · rfl
theorem owns_shape {B : Nat} {w : World} {e : TypeId} {size : Nat} {v : Value} {n : Nat} {xs : List Value} (h : w.ownsRow B e size v n xs) : ∃ a c, v = .slice a n c := by
  rcases h.2 with ⟨rfl, rfl⟩ | ⟨g, cap, cur, rfl, _⟩
  · exact ⟨_, _, rfl⟩
  · exact ⟨_, _, rfl⟩
theorem Grows.grown {W0 w w' : World} {row : Option Nat} (h : Grows W0 w) (hg : w.grownBy w' row) (hr : ∀ k, row = some k → W0.heap.size ≤ k) : Grows W0 w' :=
  Grows.of_below (h.below.grown hg h.size hr)

theorem one_new {w : World} {x : Value} {t : TypeId} {n : Nat} (hn : n = w.heap.size) : ∀ j u, [x][j]? = some u → (w.alloc (.cells #[x] t)).cell? ((⟨n, 0, none⟩ : Addr).add j) = some u := by
  subst hn; exact cell_one_new w x t

section
variable {P : Program} {W0 w : World} {ops : Array Oper} {rest : List Oper} {o : Oper} {a : Act} {Q : Exit → Act → World → Prop}
/-- append onto a row of the call's own (all blocks from B on are): behind it the world has grown. -/
theorem wpList_app (hg : Grows W0 w) (hgd : o.guard = none) (s x : Operand) (t : TypeId)
    (ho : o.op = .call { callee := .builtin .append, args := #[s, x], argTypes := #[t, t] })
    (B : Nat) (hB : W0.heap.size ≤ B) (hBw : B ≤ w.heap.size) (e : TypeId) (i : TypeInfo) (z : Value) (size bytes : Nat) (ht : P.underlying t = some (.slice e)) (hi : P.info? e = some i) (hz : i.zero = some z)
    (hsize : i.size = size) (hby : i.bytes = bytes) (hzs : z.cells.size = size) (hsz : 0 < size)
    (v : Value) (n : Nat) (xs : List Value) (hs : a.eval s = v) (hown : w.ownsRow B e size v n xs)
    (ad : Addr) (m c : Nat) (news : List Value) (hx : a.eval x = .slice (some ad) m c) (hl : news.length = m * size) (hnews : ∀ j u, news[j]? = some u → w.cell? (ad.add j) = some u) (h1 : ∀ u ∈ news, u.oneCell' = true)
    (h63 : n + m ≤ maxLen) (hbytes : (n + m) * bytes ≤ 140737488355328)
    (h : ∀ v' y k, (plus W0 y k).ownsRow B e size v' (n + m) (xs ++ news) → B ≤ (plus W0 y k).heap.size → wpList P ops Q rest (a.put o.dst v') (plus W0 y k)) : wpList P ops Q (o :: rest) a w := by
  refine wpList_append_own w hgd s x t ho B e i z size bytes ht hi hz hsize hby hzs hsz v n xs hs hown ad m c news hx hl hnews h1 h63 hbytes hBw fun v' w' h2 h3 _ => ?_
  have hG := hg.grown h3 (fun k hk => Nat.le_trans hB (hown.lt k hk).1)
  obtain ⟨y, k, rfl⟩ := hG
  exact h v' y k h2 (Nat.le_trans hBw h3.size)
/-- append of all that another slice holds, nil or not. -/
theorem wpList_appR (hg : Grows W0 w) (hgd : o.guard = none) (s x : Operand) (t : TypeId)
    (ho : o.op = .call { callee := .builtin .append, args := #[s, x], argTypes := #[t, t] })
    (B : Nat) (hB : W0.heap.size ≤ B) (hBw : B ≤ w.heap.size) (e : TypeId) (i : TypeInfo) (z : Value) (size bytes : Nat) (ht : P.underlying t = some (.slice e)) (hi : P.info? e = some i) (hz : i.zero = some z)
    (hsize : i.size = size) (hby : i.bytes = bytes) (hzs : z.cells.size = size) (hsz : 0 < size)
    (v : Value) (n : Nat) (xs : List Value) (hs : a.eval s = v) (hown : w.ownsRow B e size v n xs)
    (S : Nat) (sa : Option Addr) (m c : Nat) (news : List Value) (hx : a.eval x = .slice sa m c) (hr : Reads S w (.slice sa m c) m news) (hl : news.length = m * size) (h1 : ∀ u ∈ news, u.oneCell' = true)
    (h63 : n + m ≤ maxLen) (hbytes : (n + m) * bytes ≤ 140737488355328)
    (h : ∀ v' y k, (plus W0 y k).ownsRow B e size v' (n + m) (xs ++ news) → B ≤ (plus W0 y k).heap.size → wpList P ops Q rest (a.put o.dst v') (plus W0 y k)) : wpList P ops Q (o :: rest) a w := by
  rcases hr with ⟨hsv, hn, hnx⟩ | ⟨g, off, cap, hsv, _, _, _, _, hc⟩
  · simp only [Value.slice.injEq] at hsv
    obtain ⟨rfl, rfl, rfl⟩ := hsv
    subst hnx
    refine wpList_append_own_none hgd s x t ho B e i size ht hi v n xs hs hown hx ?_
    have := hg
    obtain ⟨y, k, rfl⟩ := this
    have := h v y k (by simpa using hown) hBw
    exact this
  · simp only [Value.slice.injEq] at hsv
    obtain ⟨rfl, _, rfl⟩ := hsv
    exact wpList_app hg hgd s x t ho B hB hBw e i z size bytes ht hi hz hsize hby hzs hsz v n xs hs hown ⟨g, off, none⟩ m c news hx hl (Reads.news hc) h1 h63 hbytes h
end
end Vg
