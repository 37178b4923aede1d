/- Objects behind pointers: a block as a whole ('put'), and how a world's words go through it. No program is named here. -/
import Derived.Test.YtekjnagojphmkaaDoorCom
set_option linter.unusedSimpArgs false
set_option linter.unusedVariables false
namespace Vg
open Go Go.RowKit
/-- Block b is now o. -/
def put (w : World) (b : Nat) (o : Obj) : World := { w with heap := w.heap.setIfInBounds b o }
/-- What lies at block b: a name that simp leaves as it is. -/
def blk (w : World) (b : Nat) : Option Obj := w.heap[b]?
section
variable {w : World} {b b' i off n : Nat} {cs c1 c2 : Array Value} {v : Value} {t t' : TypeId} {f : Nat × Nat} {o o' : Obj}
@[go_sem] theorem put_size : (put w b o).heap.size = w.heap.size := by simp [put]
theorem put_get (k : Nat) : (put w b o).heap[k]? = if b = k ∧ k < w.heap.size then some o else w.heap[k]? := by
  unfold put
  rw [Array.getElem?_setIfInBounds]
  by_cases h : b = k
  · subst h
    by_cases h2 : b < w.heap.size
    · simp [h2]
    · simp [h2]
  · simp [h]
@[go_sem] theorem put_put : put (put w b o) b o' = put w b o' := by
  unfold put
  simp
theorem put_heap_other (h : b ≠ b') : (put w b o).heap[b']? = w.heap[b']? := by rw [put_get, if_neg (by simp [h])]
theorem put_heap_same (h : b < w.heap.size) : (put w b o).heap[b]? = some o := by rw [put_get, if_pos ⟨rfl, h⟩]
theorem put_self (h : blk w b = some o) : put w b o = w := by
  have e : (put w b o).heap = w.heap := by
    apply Array.ext_getElem?
    intro k
    rw [put_get]
    split
    · rename_i hh; rw [← hh.1]; exact h.symm
    · rfl
  unfold put at e ⊢
  simp only [] at e
  rw [e]
theorem cells_of (h : blk w b = some (.cells cs t f)) : ∀ o, w.cell? ⟨b, o, none⟩ = cs[o]? := fun o => by
  have h' : w.heap[b]? = some (.cells cs t f) := h
  simp [World.cell?, h']
theorem frozen_of (h : blk w b = some (.cells cs t)) : ∀ o, w.frozen? ⟨b, o, none⟩ = false := fun o => by
  have h' : w.heap[b]? = some (.cells cs t) := h
  simp [World.frozen?, h']
theorem setCell_of (h : blk w b = some (.cells cs t)) : ∀ i v, w.setCell ⟨b, i, none⟩ v = put w b (.cells (cs.setIfInBounds i v) t) := fun i v => by
  have e : (w.setCell ⟨b, i, none⟩ v).heap = (put w b (.cells (cs.setIfInBounds i v) t)).heap := by
    apply Array.ext_getElem?
    intro k
    rw [put_get]
    unfold World.setCell
    simp only [Array.getElem?_modify]
    by_cases hk : b = k
    · subst hk
      have h' : w.heap[b]? = some (.cells cs t) := h
      obtain ⟨hlt, he⟩ := Array.getElem?_eq_some_iff.1 h'
      rw [if_pos rfl, if_pos ⟨rfl, hlt⟩, h']
      rfl
    · simp [hk]
  unfold World.setCell put at e ⊢
  simp only [] at e
  rw [e]
theorem lt_of (h : blk w b = some o) : b < w.heap.size := (Array.getElem?_eq_some_iff.1 h).1
@[go_sem] theorem put_cell_same (h : b < w.heap.size) : (put w b (.cells cs t)).cell? ⟨b, off, none⟩ = cs[off]? := cells_of (w := put w b (.cells cs t)) (put_heap_same h) off
@[go_sem] theorem put_cell_other (h : b ≠ b') : (put w b o).cell? ⟨b', off, none⟩ = w.cell? ⟨b', off, none⟩ := World.cell?_of_block (w := w) (put_heap_other h)
@[go_sem] theorem put_frozen_same (h : b < w.heap.size) : (put w b (.cells cs t)).frozen? ⟨b, off, none⟩ = false := frozen_of (w := put w b (.cells cs t)) (put_heap_same h) off
@[go_sem] theorem put_frozen_other (h : b ≠ b') : (put w b o).frozen? ⟨b', off, none⟩ = w.frozen? ⟨b', off, none⟩ := World.frozen?_of_block (w := w) (put_heap_other h)
@[go_sem] theorem put_setCell_same (h : b < w.heap.size) : (put w b (.cells cs t)).setCell ⟨b, i, none⟩ v = put w b (.cells (cs.setIfInBounds i v) t) := by
  rw [setCell_of (w := put w b (.cells cs t)) (put_heap_same h), put_put]
@[go_sem] theorem put_setCell_other (h : b ≠ b') : (put w b o).setCell ⟨b', i, none⟩ v = put (w.setCell ⟨b', i, none⟩ v) b o := by
  unfold World.setCell put
  congr 1
  apply Array.ext_getElem?
  intro k
  simp only [Array.getElem?_modify, Array.getElem?_setIfInBounds, Array.size_modify]
  by_cases hk : b = k
  · subst hk; simp [Ne.symm h]
  · by_cases hk' : b' = k <;> simp [hk, hk']
@[go_sem] theorem put_alloc_at (hn : n = w.heap.size) : put (w.alloc o) n o' = w.alloc o' := by
  subst hn
  unfold put World.alloc
  congr 1
  apply Array.ext_getElem?
  intro k
  simp only [Array.getElem?_setIfInBounds, Array.getElem?_push, Array.size_push]
  by_cases hk : k = w.heap.size
  · subst hk; simp
  · simp [hk, Ne.symm hk]
@[go_sem] theorem put_alloc_past (hn : n < w.heap.size) : put (w.alloc o) n o' = (put w n o').alloc o := by
  unfold put World.alloc
  congr 1
  apply Array.ext_getElem?
  intro k
  simp only [Array.getElem?_setIfInBounds, Array.getElem?_push, Array.size_push, Array.size_setIfInBounds]
  by_cases hk : k = w.heap.size
  · subst hk; simp [Nat.ne_of_lt hn]
  · by_cases h2 : n = k
    · subst h2; simp [hn, hk]; omega
    · simp [hk, h2]
@[go_sem] theorem put_plus {x : Array Obj} {m : Nat} (hn : n < w.heap.size) : put (plus w x m) n o = plus (put w n o) x m := by
  unfold put plus
  congr 1
  apply Array.ext_getElem?
  intro k
  simp only [Array.getElem?_setIfInBounds, Array.getElem?_append, Array.size_setIfInBounds, Array.size_append]
  by_cases hk : n = k
  · subst hk; simp [hn]; omega
  · simp [hk]
@[go_sem] theorem put_drew : put w.drew b o = (put w b o).drew := rfl
@[go_sem] theorem put_drewN {k : Nat} : put (w.drewN k) b o = (put w b o).drewN k := rfl
theorem alloc_heap_at (hn : n = w.heap.size) : (w.alloc o).heap[n]? = some o := by
  subst hn; exact heap_alloc_new w o
theorem alloc_heap_past (hn : n < w.heap.size) : (w.alloc o).heap[n]? = w.heap[n]? := Below.heap_alloc w o n hn
theorem plus_heap_past {x : Array Obj} {m : Nat} (hn : n < w.heap.size) : (plus w x m).heap[n]? = w.heap[n]? := plus_heap hn
theorem setCell_heap_other (h : b ≠ b') : (w.setCell ⟨b, i, none⟩ v).heap[b']? = w.heap[b']? := Below.heap_setCell w _ v b' (Ne.symm h)
theorem drew_heap : w.drew.heap[n]? = w.heap[n]? := rfl
theorem drewN_heap {k : Nat} : (w.drewN k).heap[n]? = w.heap[n]? := rfl
@[go_sem] theorem blk_put_same (h : b < w.heap.size) : blk (put w b o) b = some o := put_heap_same h
@[go_sem] theorem blk_put_other (h : b ≠ b') : blk (put w b o) b' = blk w b' := put_heap_other h
@[go_sem] theorem blk_alloc_at (hn : n = w.heap.size) : blk (w.alloc o) n = some o := alloc_heap_at hn
@[go_sem] theorem blk_alloc_past (hn : n < w.heap.size) : blk (w.alloc o) n = blk w n := alloc_heap_past hn
@[go_sem] theorem blk_plus {x : Array Obj} {m : Nat} (hn : n < w.heap.size) : blk (plus w x m) n = blk w n := plus_heap hn
@[go_sem] theorem blk_setCell_other (h : b ≠ b') : blk (w.setCell ⟨b, i, none⟩ v) b' = blk w b' := setCell_heap_other h
@[go_sem] theorem blk_drew : blk w.drew n = blk w n := rfl
@[go_sem] theorem blk_drewN {k : Nat} : blk (w.drewN k) n = blk w n := rfl
theorem blk_setCell_same (h : blk w b = some (.cells cs t)) : blk (w.setCell ⟨b, i, none⟩ v) b = some (.cells (cs.setIfInBounds i v) t) := by
  rw [setCell_of h]; exact put_heap_same (lt_of h)
theorem Grows.blk {w0 : World} (h : Grows w0 w) (hb : Vg.blk w0 b = some o) : Vg.blk w b = some o := by
  obtain ⟨x, n, rfl⟩ := h
  rw [blk_plus (lt_of hb)]; exact hb
theorem Grows.put {w0 : World} (h : Grows w0 w) (hb : w0.heap.size ≤ b) (o : Obj) : Grows w0 (Vg.put w b o) := by
  have k := h.below
  refine Grows.of_below ⟨k.os, k.tape, k.output, by rw [put_size]; exact k.size, fun i hi => ?_⟩
  rw [put_heap_other (by omega)]
  exact k.block i hi
end

/-- A block that came with a growth, laid open: what came ahead of it, the block itself, what came behind. -/
theorem Grows.at_block {w w' : World} {g : Nat} {o : Obj} (h : Grows w w') (hg : Vg.blk w' g = some o) (hl : w.heap.size ≤ g) :
    ∃ x n y m, g = w.heap.size + sz x ∧ w' = Vg.plus ((Vg.plus w x n).alloc o) y m := by
  have hgs := lt_of hg
  refine ⟨w'.heap.extract w.heap.size g, 0, w'.heap.extract (g + 1) w'.heap.size, w'.drawn, ?_, ?_⟩
  · unfold sz; simp; omega
  · have hb := h.below
    have e : w'.heap = ((w.heap ++ w'.heap.extract w.heap.size g).push o) ++ w'.heap.extract (g + 1) w'.heap.size := by
      apply Array.ext_getElem?
      intro k
      have s1 : (w.heap ++ w'.heap.extract w.heap.size g).size = g := by simp; omega
      rw [Array.getElem?_append, Array.size_push, s1]
      by_cases h1 : k < g + 1
      · rw [if_pos h1, Array.getElem?_push, s1]
        by_cases h2 : k = g
        · subst h2; rw [if_pos rfl]; exact hg
        · rw [if_neg h2, Array.getElem?_append]
          by_cases h3 : k < w.heap.size
          · rw [if_pos h3, hb.block k h3]
          · rw [if_neg h3, Array.getElem?_extract]
            split
            · congr 1; omega
            · omega
      · rw [if_neg h1, Array.getElem?_extract]
        split
        · congr 1; omega
        · apply Array.getElem?_eq_none; omega
    unfold Vg.plus World.alloc
    simp only []
    rw [← e, ← hb.os, ← hb.tape, ← hb.output]
end Vg
