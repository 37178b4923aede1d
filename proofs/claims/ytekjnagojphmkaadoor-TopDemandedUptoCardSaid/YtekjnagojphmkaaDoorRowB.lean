/- More of slices: rows of the call's own in worlds that agree. No program is named here. -/
import Derived.Test.YtekjnagojphmkaaDoorRow
set_option linter.unusedSimpArgs false
set_option linter.unusedVariables false
namespace Vg
open Go Go.RowKit
theorem owns_agree {S : Nat} {W W' : World} {e : TypeId} {size : Nat} {v : Value} {n : Nat} {xs : List Value} (h : W.ownsRow S e size v n xs) (a : Agree S W W') : W'.ownsRow S e size v n xs := by
  refine ⟨h.1, ?_⟩
  rcases h.2 with h0 | ⟨g, cap, cur, h1, hb, hg, h2⟩
  · exact .inl h0
  · exact .inr ⟨g, cap, cur, h1, hb, (a.2 g hb).trans hg, h2⟩
theorem owns_grows {S : Nat} {W W' : World} {e : TypeId} {size : Nat} {v : Value} {n : Nat} {xs : List Value} (h : W.ownsRow S e size v n xs) (a : Grows W W') : W'.ownsRow S e size v n xs := by
  refine ⟨h.1, ?_⟩
  rcases h.2 with h0 | ⟨g, cap, cur, h1, hb, hg, h2⟩
  · exact .inl h0
  · obtain ⟨x, k, rfl⟩ := a
    exact .inr ⟨g, cap, cur, h1, hb, (plus_heap (Array.getElem?_eq_some_iff.1 hg).1).trans hg, h2⟩
theorem Reads.open {S : Nat} {w : World} {sa : Option Addr} {n c : Nat} {xs : List Value} (h : Reads S w (.slice sa n c) n xs) (hn : 0 < xs.length) :
    ∃ g off, sa = some ⟨g, off, none⟩ ∧ g < w.heap.size ∧ n ≤ c ∧ c ≤ maxLen ∧ ∀ j, (h : j < xs.length) → w.cell? ⟨g, off + j, none⟩ = some xs[j] := by
  rcases h with ⟨_, _, rfl⟩ | ⟨g, off, cap, hsv, _, hg, hc, hm, hx⟩
  · simp at hn
  · simp only [Value.slice.injEq] at hsv
    obtain ⟨rfl, _, rfl⟩ := hsv
    exact ⟨g, off, rfl, hg, hc, hm, hx⟩
theorem Reads.cap_le {S : Nat} {w : World} {sa : Option Addr} {n c : Nat} {xs : List Value} (h : Reads S w (.slice sa n c) n xs) : c ≤ maxLen := by
  rcases h with ⟨h0, _, _⟩ | ⟨g, off, cap, hsv, _, hg, hc, hm, hx⟩
  · simp only [Value.slice.injEq] at h0
    rw [h0.2.2]; exact Nat.zero_le _
  · simp only [Value.slice.injEq] at hsv
    rw [hsv.2.2]; exact hm
end Vg
