/- Slices in blocks of a set (seat r5: without the document's table). -/
import Derived.Test.YtekjnagojphmkaaDoorCeilP
set_option linter.unusedSimpArgs false
set_option linter.unusedVariables false
set_option maxHeartbeats 8000000
set_option maxRecDepth 100000
namespace Vg
open Go Go.RowKit
/-- As Reads, in blocks of a set. -/
def ReadsP (S : Nat → Prop) (w : World) (sv : Value) (n : Nat) (xs : List Value) : Prop := Reads 0 w sv n xs ∧ ∀ k, sv.ownBlock = some k → S k
theorem ReadsP.grows {S : Nat → Prop} {w w' : World} {sv : Value} {n : Nat} {xs : List Value} (h : ReadsP S w sv n xs) (hg : Grows w w') : ReadsP S w' sv n xs := ⟨h.1.grows hg, h.2⟩
theorem ReadsP.touch {S : Nat → Prop} {w w' : World} {t : Nat → Prop} {sv : Value} {n : Nat} {xs : List Value} (h : ReadsP S w sv n xs) (ht : Touch t w w') (hv : ∀ k, S k → ¬ t k) : ReadsP S w' sv n xs := by
  refine ⟨?_, h.2⟩
  rcases h.1 with h0 | ⟨g, off, cap, rfl, h2, h3, h4, h5, h6⟩
  · exact .inl h0
  · refine .inr ⟨g, off, cap, rfl, h2, Nat.lt_of_lt_of_le h3 ht.size, h4, h5, fun j hj => ?_⟩
    rw [← h6 j hj]
    exact World.cell?_of_block (w := w) (ht.block g h3 (hv g (h.2 g rfl)))
theorem ReadsP.of_new {S : Nat → Prop} {w : World} {s : Nat} {sv : Value} {n : Nat} {xs : List Value} (h : Reads s w sv n xs) (hS : ∀ k, s ≤ k → S k) : ReadsP S w sv n xs := by
  refine ⟨h.weaken (Nat.zero_le _), fun k hk => hS k ?_⟩
  rcases h with ⟨rfl, _⟩ | ⟨g, off, cap, rfl, h2, _⟩
  · simp [Value.ownBlock] at hk
  · simp [Value.ownBlock] at hk; omega
theorem ReadsP.nil {S : Nat → Prop} (w : World) : ReadsP S w (.slice none 0 0) 0 [] := ⟨Reads.nil _ _, fun k hk => by simp [Value.ownBlock] at hk⟩
theorem Reads.len_le {S : Nat} {w : World} {sa : Option Addr} {n c : Nat} {xs : List Value} (h : Reads S w (.slice sa n c) n xs) : n ≤ c := by
  rcases h with ⟨h0, h1, _⟩ | ⟨g, off, cap, h0, _, _, h3, _⟩
  · omega
  · simp only [Value.slice.injEq] at h0; omega
end Vg
