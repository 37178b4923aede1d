/- WorkOrder: the plain law, the walk. -/
import Derived.Test.YtiinhofmhoplfaaWorkL
set_option linter.unusedSimpArgs false
set_option linter.unusedVariables false
set_option maxHeartbeats 4000000
set_option maxRecDepth 100000
namespace Vg
open Go
def WOq (depth : Int) (L : List Int) (lost : Int) : List Wq := [⟨[], 3, 0⟩, ⟨L, depth, lost⟩]
/-- What was put (P), how many of them are done (d), how far the next one went; what the queue holds (L). -/
structure WO (depth : Int) (P : List Int) (d : Nat) (went : Int) (L : List Int) (lost all : Int) : Prop where
  hL : (d = P.length ∧ L = [] ∧ went = 0) ∨ (∃ h : d < P.length, L = (P[d] - went) :: P.drop (d + 1) ∧ 0 ≤ went ∧ went < P[d])
  hle : (L.length : Int) ≤ depth
  hP : ∀ x ∈ P, 1 ≤ x ∧ x ≤ 1099511627776
  hall : all = P.length + lost
  hlost : 0 ≤ lost
theorem WO.len {depth : Int} {P : List Int} {d : Nat} {went : Int} {L : List Int} {lost all : Int} (h : WO depth P d went L lost all) : L.length + d = P.length := by
  rcases h.hL with ⟨h1, h2, _⟩ | ⟨h1, h2, _⟩
  · rw [h2, h1]; simp
  · rw [h2, List.length_cons, List.length_drop]; omega
theorem WO.ok {depth : Int} {P : List Int} {d : Nat} {went : Int} {L : List Int} {lost all : Int} (h : WO depth P d went L lost all) (hd : depth ≤ 64) (hlb : lost ≤ 1000000) : ∀ q ∈ WOq depth L lost, q.ok := by
  intro q hq
  simp only [WOq, List.mem_cons, List.not_mem_nil, or_false] at hq
  rcases hq with rfl | rfl
  · exact ⟨by decide, by decide, by decide, fun x hx => by simp at hx⟩
  · refine ⟨hd, h.hlost, hlb, fun x hx => ?_⟩
    rcases h.hL with ⟨_, h2, _⟩ | ⟨h1, h2, h3, h4⟩
    · rw [show (⟨L, depth, lost⟩ : Wq).L = L from rfl, h2] at hx; simp at hx
    · rw [show (⟨L, depth, lost⟩ : Wq).L = L from rfl, h2, List.mem_cons] at hx
      have hpd := h.hP P[d] (List.getElem_mem _)
      rcases hx with rfl | hx
      · omega
      · exact h.hP x (List.drop_subset _ _ hx)
theorem WO.start {depth : Int} (h : 0 ≤ depth) : WO depth [] 0 0 [] 0 0 := ⟨.inl ⟨rfl, rfl, rfl⟩, by simpa using h, fun x hx => by simp at hx, by simp, Int.le_refl _⟩
theorem WO.put {depth : Int} {P : List Int} {d : Nat} {went : Int} {L : List Int} {lost all : Int} (h : WO depth P d went L lost all) {c : Int} (hc : 1 ≤ c ∧ c ≤ 1099511627776) (hf : (L.length : Int) < depth) : WO depth (P ++ [c]) d went (L ++ [c]) lost (all + 1) := by
  refine ⟨?_, by simp; omega, fun x hx => ?_, by have := h.hall; simp; omega, h.hlost⟩
  · rcases h.hL with ⟨h1, h2, h3⟩ | ⟨h1, h2, h3, h4⟩
    · refine .inr ⟨by simp; omega, ?_, by omega, ?_⟩
      · subst h1; simp [h2, h3]
      · subst h1; simp [h3]; omega
    · refine .inr ⟨by simp; omega, ?_, h3, ?_⟩
      · rw [h2, List.getElem_append_left h1, List.drop_append_of_le_length (by omega)]; rfl
      · rw [List.getElem_append_left h1]; exact h4
  · rcases List.mem_append.1 hx with hx | hx
    · exact h.hP x hx
    · simp at hx; rw [hx]; exact hc
theorem WO.full {depth : Int} {P : List Int} {d : Nat} {went : Int} {L : List Int} {lost all : Int} (h : WO depth P d went L lost all) : WO depth P d went L (lost + 1) (all + 1) :=
  ⟨h.hL, h.hle, h.hP, by have := h.hall; omega, by have := h.hlost; omega⟩
theorem WO.part {depth : Int} {P : List Int} {d : Nat} {went : Int} {l : List Int} {x lost all : Int} (h : WO depth P d went (x :: l) lost all) {n : Int} (h0 : 0 ≤ n) (h1 : n < x) : WO depth P d (went + n) ((x - n) :: l) lost all := by
  refine ⟨?_, by simpa using h.hle, h.hP, h.hall, h.hlost⟩
  rcases h.hL with ⟨_, h2, _⟩ | ⟨h2, h3, h4, h5⟩
  · simp at h2
  · simp only [List.cons.injEq] at h3
    exact .inr ⟨h2, by rw [h3.1, h3.2]; congr 1; omega, by omega, by omega⟩
theorem WO.done {depth : Int} {P : List Int} {d : Nat} {went : Int} {l : List Int} {x lost all : Int} (h : WO depth P d went (x :: l) lost all) : WO depth P (d + 1) 0 l lost all := by
  refine ⟨?_, by have := h.hle; simp at this; omega, h.hP, h.hall, h.hlost⟩
  rcases h.hL with ⟨_, h2, _⟩ | ⟨h2, h3, h4, h5⟩
  · simp at h2
  · simp only [List.cons.injEq] at h3
    by_cases hd : d + 1 = P.length
    · exact .inl ⟨hd, by rw [h3.2, hd]; simp, rfl⟩
    · have hd' : d + 1 < P.length := by omega
      have := h.hP P[d + 1] (List.getElem_mem _)
      refine .inr ⟨hd', ?_, by omega, by omega⟩
      rw [h3.2, List.drop_eq_getElem_cons hd']
      simp
theorem WO.head {depth : Int} {P : List Int} {d : Nat} {went : Int} {l : List Int} {x lost all : Int} (h : WO depth P d went (x :: l) lost all) : ∃ hd : d < P.length, x = P[d] - went ∧ 0 ≤ went ∧ went < P[d] ∧ P[d] ≤ 1099511627776 := by
  rcases h.hL with ⟨_, h2, _⟩ | ⟨h2, h3, h4, h5⟩
  · simp at h2
  · simp only [List.cons.injEq] at h3
    exact ⟨h2, h3.1, h4, h5, (h.hP P[d] (List.getElem_mem _)).2⟩
end Vg
namespace Go.Proofs.Ytiinhofmhoplfaa
end Go.Proofs.Ytiinhofmhoplfaa
