/- Reads over changed worlds; append of an incoming slice of integers. -/
import Derived.Test.YtekjnagojphmkaaDoorCeilL
set_option linter.unusedSimpArgs false
set_option linter.unusedVariables false
set_option maxHeartbeats 1000000
set_option maxRecDepth 100000
namespace Vg
open Go Go.RowKit
theorem Reads.touchC {S : Nat} {w w' : World} {t : Nat → Prop} {sv : Value} {n : Nat} {xs : List Value} (h : Reads S w sv n xs) (ht : Touch t w w') (ha : ∀ k, S ≤ k → ¬ t k) : Reads S w' sv n xs := by
  rcases h with h | ⟨g, off, cap, h1, h2, h3, h4, h5, h6⟩
  · exact .inl h
  · refine .inr ⟨g, off, cap, h1, h2, Nat.lt_of_lt_of_le h3 ht.size, h4, h5, fun j hj => ?_⟩
    rw [← h6 j hj]
    exact World.cell?_of_block (w := w) (ht.block g h3 (ha g h2))
section
variable {P : Program} {W0 w : World} {ops : Array Oper} {rest : List Oper} {o : Oper} {a : Act} {Q : Exit → Act → World → Prop}
/-- append of all that an incoming slice of integers holds. -/
theorem wpList_appI (hg : Grows W0 w) (hgd : o.guard = none) (s x : Operand) (t : TypeId)
    (ho : o.op = .call { callee := .builtin .append, args := #[s, x], argTypes := #[t, t] })
    (B : Nat) (hB : W0.heap.size ≤ B) (hBw : B ≤ w.heap.size) (e : TypeId) (i : TypeInfo) (z : Value) (bytes : Nat) (ht : P.underlying t = some (.slice e)) (hi : P.info? e = some i) (hz : i.zero = some z)
    (hsize : i.size = 1) (hby : i.bytes = bytes) (hzs : z.cells.size = 1)
    (v : Value) (n : Nat) (xs : List Value) (hs : a.eval s = v) (hown : w.ownsRow B e 1 v n xs)
    (sa : Option Addr) (m c : Nat) (L : List Int) (hx : a.eval x = .slice sa m c) (hr : IR w sa c L) (hm : L.length = m) (hz0 : sa = none → c = 0)
    (h63 : n + m ≤ maxLen) (hbytes : (n + m) * bytes ≤ 140737488355328)
    (h : ∀ v' y k, (plus W0 y k).ownsRow B e 1 v' (n + m) (xs ++ ics L) → B ≤ (plus W0 y k).heap.size → wpList P ops Q rest (a.put o.dst v') (plus W0 y k)) : wpList P ops Q (o :: rest) a w := by
  subst hm
  cases sa with
  | none =>
    have hc := hz0 rfl
    subst hc
    have hL : L = [] := List.eq_nil_of_length_eq_zero (by have := hr.1; omega)
    subst hL
    refine wpList_append_own_none hgd s x t ho B e i 1 ht hi v n xs hs hown hx ?_
    have := hg
    obtain ⟨y, k, rfl⟩ := this
    have := h v y k (by simpa using hown) hBw
    exact this
  | some ad =>
    refine wpList_app hg hgd s x t ho B hB hBw e i z 1 bytes ht hi hz hsize hby hzs (by decide) v n xs hs hown ad L.length c (ics L) hx (by simp) (fun j u hu => ?_) (by simp [Value.oneCell']) h63 hbytes h
    obtain ⟨hj, rfl⟩ := List.getElem?_eq_some_iff.1 hu
    have hj' : j < L.length := by simpa using hj
    obtain ⟨g, off, e', hg', hc⟩ := hr.2.2 j hj'
    simp only [Option.some.injEq] at e'
    subst e'
    rw [List.getElem_map, ← hc]
    unfold Addr.add
    split
    · rename_i h0; subst h0; rfl
    · rfl
end
end Vg
