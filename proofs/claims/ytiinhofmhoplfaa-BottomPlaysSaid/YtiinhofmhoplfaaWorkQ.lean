/- The plain words of queues: what they keep ('Wk.Inv'), lengths; the first queue that has pieces. No walk here. -/
import Derived.Test.YtiinhofmhoplfaaWorkL
set_option linter.unusedSimpArgs false
set_option linter.unusedVariables false
set_option maxHeartbeats 1000000
set_option maxRecDepth 100000
namespace Vg
open Go
/-- What queues keep: depths, what they hold, how many were refused. -/
def Wq.inv (k : Nat) (q : Wq) : Prop := q.depth ≤ 64 ∧ 0 ≤ q.lost ∧ q.lost ≤ k ∧ (q.L.length : Int) ≤ q.depth ∧ ∀ x ∈ q.L, 1 ≤ x ∧ x ≤ 1099511627776
structure Wk.Inv (k : Nat) (Q : List Wq) : Prop where
  len : Q.length ≤ 64
  each : ∀ q ∈ Q, q.inv k
theorem Wq.inv.mono {k k' : Nat} {q : Wq} (h : q.inv k) (hk : k ≤ k') : q.inv k' := ⟨h.1, h.2.1, by have := h.2.2.1; omega, h.2.2.2⟩
theorem Wk.Inv.mono {k k' : Nat} {Q : List Wq} (h : Wk.Inv k Q) (hk : k ≤ k') : Wk.Inv k' Q := ⟨h.len, fun q hq => (h.each q hq).mono hk⟩
theorem Wk.Inv.ok {k : Nat} {Q : List Wq} (h : Wk.Inv k Q) (hk : k ≤ 1000000) : ∀ q ∈ Q, q.ok := fun q hq => by
  obtain ⟨h1, h2, h3, h4, h5⟩ := h.each q hq
  exact ⟨h1, h2, by omega, h5⟩
theorem Wk.Inv.at {k : Nat} {Q : List Wq} (h : Wk.Inv k Q) (i : Nat) (hi : i < Q.length) : Q[i].inv k := h.each _ (List.getElem_mem _)
theorem Wk.Inv.set {k : Nat} {Q : List Wq} (h : Wk.Inv k Q) {i : Nat} {q : Wq} (hq : q.inv k) : Wk.Inv k (Q.set i q) := by
  refine ⟨by rw [List.length_set]; exact h.len, fun x hx => ?_⟩
  rcases List.mem_or_eq_of_mem_set hx with h1 | h1
  · exact h.each x h1
  · rw [h1]; exact hq
theorem Wk.Inv.put {k : Nat} {Q : List Wq} (h : Wk.Inv k Q) (n c : Int) : Wk.Inv (k + 1) (Wk.put Q n c).1 := by
  have h' := h.mono (Nat.le_succ k)
  by_cases hm : n < 0 ∨ (Q.length : Int) ≤ n
  · rw [Wk.put_out hm]; exact h'
  · obtain ⟨i, rfl⟩ : ∃ i : Nat, n = i := ⟨n.toNat, by omega⟩
    have hi : i < Q.length := by omega
    obtain ⟨h1, h2, h3, h4, h5⟩ := h.at i hi
    rw [Wk.put_in hi]
    split
    · exact h'
    · rename_i hc
      split
      · refine h'.set ⟨h1, ?_, ?_, h4, h5⟩
        · show 0 ≤ Q[i].lost + 1; omega
        · show Q[i].lost + 1 ≤ ((k + 1 : Nat) : Int); omega
      · rename_i hf
        refine h'.set ⟨h1, h2, ?_, ?_, fun x hx => ?_⟩
        · show Q[i].lost ≤ ((k + 1 : Nat) : Int); omega
        · show ((Q[i].L ++ [c]).length : Int) ≤ Q[i].depth
          rw [List.length_append]; simp; omega
        · rcases List.mem_append.1 hx with hx | hx
          · exact h5 x hx
          · simp at hx; subst hx; omega
theorem Wk.Inv.go {k : Nat} {Q : List Wq} (h : Wk.Inv k Q) (n c : Int) : Wk.Inv k (Wk.go Q n c).1 := by
  by_cases hm : n < 0 ∨ (Q.length : Int) ≤ n
  · rw [Wk.go_out hm]; exact h
  · obtain ⟨i, rfl⟩ : ∃ i : Nat, n = i := ⟨n.toNat, by omega⟩
    have hi : i < Q.length := by omega
    obtain ⟨h1, h2, h3, h4, h5⟩ := h.at i hi
    rw [Wk.go_in hi]
    generalize Q[i] = q at h1 h2 h3 h4 h5
    obtain ⟨L, d, lo⟩ := q
    simp only [] at h1 h2 h3 h4 h5 ⊢
    cases L with
    | nil => exact h
    | cons x l =>
      simp only [List.length_cons] at h4
      have hx := h5 x (by simp)
      dsimp only
      split
      · exact h
      · split
        · refine h.set ⟨h1, h2, h3, ?_, fun y hy => ?_⟩
          · show ((((x - c) :: l).length : Nat) : Int) ≤ d
            rw [List.length_cons]; omega
          · simp only [List.mem_cons] at hy
            rcases hy with rfl | hy
            · omega
            · exact h5 y (List.mem_cons_of_mem _ hy)
        · refine h.set ⟨h1, h2, h3, ?_, fun y hy => h5 y (List.mem_cons_of_mem _ hy)⟩
          show ((l.length : Nat) : Int) ≤ d
          omega
theorem Wk.put_len (Q : List Wq) (n c : Int) : (Wk.put Q n c).1.length = Q.length := by
  unfold Wk.put
  split
  · rfl
  · split
    · rfl
    · split
      · rfl
      · split <;> simp
theorem Wk.go_len (Q : List Wq) (n c : Int) : (Wk.go Q n c).1.length = Q.length := by
  unfold Wk.go
  split
  · rfl
  · split
    · rfl
    · split
      · rfl
      · split
        · rfl
        · split <;> simp
theorem Wk.left_le {k : Nat} {Q : List Wq} (h : Wk.Inv k Q) (n : Int) : 0 ≤ Wk.left Q n ∧ Wk.left Q n ≤ 1099511627776 := by
  by_cases hm : n < 0 ∨ (Q.length : Int) ≤ n
  · rw [Wk.left_out hm]; omega
  · obtain ⟨i, rfl⟩ : ∃ i : Nat, n = i := ⟨n.toNat, by omega⟩
    have hi : i < Q.length := by omega
    obtain ⟨h1, h2, h3, h4, h5⟩ := h.at i hi
    rw [Wk.left_in hi]
    cases hL : Q[i].L with
    | nil => simp
    | cons x l =>
      have := h5 x (by rw [hL]; simp)
      simp only [List.headD_cons]
      omega
theorem Wk.Inv.start {L : List Int} (hl : L.length ≤ 64) (h : L.any oddW = false) : Wk.Inv 0 (L.map fun d => (⟨[], d, 0⟩ : Wq)) := by
  refine ⟨by simpa using hl, fun q hq => ?_⟩
  obtain ⟨d, hd, rfl⟩ := List.mem_map.1 hq
  have ho : oddW d = false := by
    cases hh : oddW d with
    | false => rfl
    | true => rw [← h]; exact (List.any_eq_true.2 ⟨d, hd, hh⟩).symm
  simp only [oddW, Bool.or_eq_false_iff, decide_eq_false_iff_not] at ho
  refine ⟨?_, Int.le_refl _, Int.le_refl _, ?_, fun x hx => by simp at hx⟩
  · show d ≤ 64; omega
  · show (0 : Int) ≤ d; omega
theorem idx_range (p : Int → Bool) : ∀ (L : List Int), -1 ≤ idx p L ∧ idx p L < L.length
  | [] => by simp [idx]
  | x :: l => by
    have := idx_range p l
    rw [idx]
    simp only [List.length_cons]
    split
    · omega
    · split <;> omega
theorem Wk.fidx_range {k : Nat} {Q : List Wq} (h : Wk.Inv k Q) : -1 ≤ Wk.fidx Q ∧ Wk.fidx Q ≤ 1000000 := by
  have h1 := idx_range (fun x => decide (0 < x)) (Q.map fun q => (q.L.length : Int))
  have h2 := h.len
  unfold Wk.fidx
  simp only [List.length_map] at h1
  omega
end Vg
