/- Iterators: what a round keeps ('Kept': some blocks lie as they lay). No program is named here. -/
import Derived.RangeFuncNested
import Derived.RangeFuncBound
import Derived.RangeFuncCalls
import Derived.RangeFuncLeaves
import Derived.RangeFuncFrom
import Derived.Shelf.Abstract
import Derived.Shelf.RegionOpen
import Derived.OwnWalkIn
import Derived.TacticsInMore
import Derived.LoopNIn
import Derived.LoopIn
import Derived.RangeFuncBox
import Derived.Maps.AppendAt
import Derived.Test.YtekjnagojphmkaaDoorRowB
set_option linter.unusedSimpArgs false
set_option linter.unusedVariables false
namespace Vg
open Go Go.RowKit
/-- The blocks of a set lie as they lay; the heap is no smaller. -/
structure Kept (S : Nat → Prop) (W W' : World) : Prop where
  size : W.heap.size ≤ W'.heap.size
  block : ∀ k, S k → W'.heap[k]? = W.heap[k]?
section
variable {S : Nat → Prop} {A B C : World}
theorem Kept.refl (S : Nat → Prop) (W : World) : Kept S W W := ⟨Nat.le_refl _, fun _ _ => rfl⟩
theorem Kept.trans (h : Kept S A B) (k : Kept S B C) : Kept S A C := ⟨Nat.le_trans h.size k.size, fun j hj => (k.block j hj).trans (h.block j hj)⟩
theorem Kept.putObj {w : World} (hS : ∀ k, S k → k < w.heap.size) (W : World) (l : Nat) (o o' : Obj) (hl : w.heap.size ≤ l) (h : W.heap[l]? = some o) (_ : o.isCells = false) (_ : o.isWalk = false) : Kept S W (W.putObj l o') := by
  have hb : Below w.heap.size W (W.putObj l o') := (Below.refl w.heap.size W).grown (grownBy_putObj' W l o') (by have := (Array.getElem?_eq_some_iff.1 h).1; omega) (fun k e => by cases e; omega)
  exact ⟨hb.size, fun k hk => hb.block k (hS k hk)⟩
theorem Kept.of_below {n : Nat} (h : Below n A B) (hS : ∀ k, S k → k < n) : Kept S A B := ⟨h.size, fun k hk => h.block k (hS k hk)⟩
theorem Kept.blk {k : Nat} {o : Obj} (h : Kept S A B) (hb : Vg.blk A k = some o) (hk : S k) : Vg.blk B k = some o := (h.block k hk).trans hb
theorem Kept.of_touch {t : Nat → Prop} (h : Kept (fun k => k < A.heap.size ∧ ¬ t k) A B) (hS : ∀ k, S k → k < A.heap.size ∧ ¬ t k) : Kept S A B := ⟨h.size, fun k hk => h.block k (hS k hk)⟩
theorem take_snoc_int (L : List Int) (j : Nat) (h : j < L.length) : L.take (j + 1) = L.take j ++ [L[j]] := List.take_succ_eq_append_getElem h
end
/-- How a round ends: it goes on, or not. -/
def Ends {α : Type} (S : Nat → Prop) (J Jx : List α → World → Prop) (l : List α) (W1 : World) (v : Bool) (W' : World) : Prop :=
  (v = true ∧ J l W' ∧ Kept S W1 W') ∨ (v = false ∧ Jx l W')
/-- J abides draws. -/
theorem abides_drewN {β : Type} {B : Nat} {J : β → World → Prop} (hJ : AbidesFrom B J) {s : β} {W : World} (h : J s W) (n : Nat) : J s (W.drewN n) :=
  hJ s W (W.drewN n) none h ⟨rfl, rfl, rfl, Nat.le_refl _, fun _ _ _ => rfl⟩ (fun _ e => by cases e)
/-- 'out = append(out, ..)' onto a row whose blocks lie from n₁ on, the box B ahead of it: what the walk owes. -/
theorem appended {W w1 : World} {n₀ n₁ B : Nat} {t e : TypeId} {size : Nat} {v v' : Value} {k m : Nat} {xs ys : List Value} {tmp : Obj} {S : Nat → Prop}
    (hv : Boxed W B t v) (hte : t ≠ e) (hrow : W.ownsRow n₁ e size v k xs) (hn₁ : n₁ ≤ W.heap.size) (hB : n₀ ≤ B) (hnn : n₀ ≤ n₁) (hS : ∀ k, S k → k < n₁ ∧ k ≠ B)
    (hown' : w1.ownsRow n₁ e size v' m ys) (hgrow : (W.alloc tmp).grownBy w1 v.ownBlock) :
    Boxed w1 B t v ∧ Boxed (w1.setCell ⟨B, 0, none⟩ v') B t v' ∧ (w1.setCell ⟨B, 0, none⟩ v').ownsRow n₁ e size v' m ys ∧ KeepsOthers W (w1.setCell ⟨B, 0, none⟩ v') ∧ Below n₀ W (w1.setCell ⟨B, 0, none⟩ v') ∧ Kept S W (w1.setCell ⟨B, 0, none⟩ v') ∧ n₁ ≤ (w1.setCell ⟨B, 0, none⟩ v').heap.size := by
  have hv1 : Boxed w1 B t v := (hv.alloc tmp).kept hgrow (hv.not_row hte hrow)
  have hlt : ∀ j, v.ownBlock = some j → n₁ ≤ j := by
    intro j ej
    rcases hrow.2 with ⟨rfl, _⟩ | ⟨g, cap, cur, rfl, hb, _, _⟩
    · simp [Value.ownBlock] at ej
    · obtain rfl : g = j := by simpa [Value.ownBlock] using ej
      exact hb
  have hsz : W.heap.size + 1 ≤ w1.heap.size := by have := hgrow.size; simpa using this
  refine ⟨hv1, hv1.set v', hown'.kept (grownBy_setCell' w1 B v') (.inr (hv1.not_row hte hown').symm), ?_, ?_, ⟨by rw [World.size_setCell]; omega, fun k hk => ?_⟩, by rw [World.size_setCell]; omega⟩
  · refine ((KeepsOthers.alloc W tmp).trans (KeepsOthers.of_grownBy hgrow fun j o ej hj => ?_)).trans (KeepsOthers.setCell _ _ _)
    rcases (hrow.alloc tmp).2 with ⟨rfl, _⟩ | ⟨g, cap, cur, rfl, _, hgb, _⟩
    · simp [Value.ownBlock] at ej
    · obtain rfl : g = j := by simpa [Value.ownBlock] using ej
      rw [hgb] at hj; cases hj; rfl
  · refine (((Below.refl n₀ W).alloc (by omega) tmp).grown hgrow (by simp; omega) fun j ej => ?_).setCell (p := ⟨B, 0, none⟩) hB v'
    have := hlt j ej; omega
  · obtain ⟨h1, h2⟩ := hS k hk
    rw [Below.heap_setCell w1 ⟨B, 0, none⟩ v' k h2, hgrow.block k (by simp; omega) (fun ej => by have := hlt k ej.symm; omega)]
    exact Below.heap_alloc W tmp k (by omega)
theorem ownFrom_size {β : Type} (B n : Nat) : OwnFrom (β := β) B (fun _ W => n ≤ W.heap.size) := fun s A C row hs hg hr => Nat.le_trans hs hg.size
end Vg
