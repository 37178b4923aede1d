/- ServerWhole: the walk. -/
import Derived.Test.YtiinhofmhoplfaaServerL
set_option linter.unusedSimpArgs false
set_option linter.unusedVariables false
set_option maxHeartbeats 4000000
set_option maxRecDepth 20000
namespace Vg
theorem Srv.use_ok {s : Srv} {bu pe n en : Int} (h : (s.use bu pe n en).2 = 0) :
    (s.use bu pe n en).1.last = en ∧ owed (s.use bu pe n en).1.L = owed s.L + n ∧ 0 ≤ n ∧ n ≤ en ∧ en ≤ 4503599627370496 ∧ s.last ≤ en - n ∧ n ≤ s.left bu ∧ (s.use bu pe n en).1.L = (if n = 0 then s.L else owe (en + pe) n s.L) := by
  unfold Srv.use at h ⊢
  split at h
  · simp at h
  · split at h
    · simp at h
    · rename_i h1 h2
      rw [if_neg h1, if_neg h2]
      refine ⟨rfl, ?_, by omega, by omega, by omega, by omega, by omega, rfl⟩
      show owed (if n = 0 then s.L else owe (en + pe) n s.L) = _
      split
      · omega
      · rw [owed_owe]
theorem Srv.use_no {s : Srv} {bu pe n en : Int} (h : (s.use bu pe n en).2 ≠ 0) : (s.use bu pe n en).1 = s := by
  unfold Srv.use at h ⊢
  split at h
  · rename_i h1; rw [if_pos h1]
  · split at h
    · rename_i h1 h2; rw [if_neg h1, if_pos h2]
    · exact absurd rfl h
theorem Srv.refill_ok {s : Srv} {now : Int} (h : (s.refill now).2.2 = 0) : (s.refill now).1.last = now ∧ owed (s.refill now).1.L = owed s.L - (s.refill now).2.1 ∧ s.last ≤ now ∧ now ≤ 4503599627370496 ∧ (s.refill now).1.L = (due now s.L).2 ∧ (s.refill now).2.1 = (due now s.L).1 := by
  unfold Srv.refill at h ⊢
  split at h
  · simp at h
  · rename_i h1
    rw [if_neg h1]
    have := owed_due now s.L
    refine ⟨rfl, ?_, by omega, by omega, rfl, rfl⟩
    show owed (due now s.L).2 = _
    show _ = owed s.L - (due now s.L).1
    omega
theorem Srv.refill_no {s : Srv} {now : Int} (h : (s.refill now).2.2 ≠ 0) : (s.refill now).1 = s := by
  unfold Srv.refill at h ⊢
  split at h
  · rename_i h1; rw [if_pos h1]
  · exact absurd rfl h
theorem due_nonneg (now : Int) : ∀ {L : List (Int × Int)}, (∀ x ∈ L, 0 ≤ x.2) → 0 ≤ (due now L).1
  | [], _ => by simp [due]
  | x :: l, hx => by
    unfold due
    split
    · have := due_nonneg now (L := l) fun y hy => hx y (by simp [hy])
      have := hx x (by simp)
      show 0 ≤ x.2 + (due now l).1; omega
    · show (0 : Int) ≤ 0; omega
theorem due_all {now : Int} : ∀ {L : List (Int × Int)}, (∀ x ∈ L, x.1 ≤ now) → due now L = (owed L, [])
  | [], _ => rfl
  | x :: l, h => by
    rw [due, if_pos (h x (by simp)), due_all (L := l) fun y hy => h y (by simp [hy])]
    rfl
/-- All comes back within a period. -/
def Srv.Late (s : Srv) (pe : Int) : Prop := ∀ x ∈ s.L, x.1 ≤ s.last + pe
theorem Srv.act_late {s : Srv} {bu pe : Int} (x : Int × Int × Int) (h : s.Late pe) : (s.act bu pe x).Late pe := by
  unfold Srv.act
  split
  · by_cases h0 : (s.use bu pe x.2.1 x.2.2).2 = 0
    · obtain ⟨h1, _, h3, _, _, h4, _, h2⟩ := Srv.use_ok h0
      intro y hy
      rw [h2] at hy
      rw [h1]
      have hold : ∀ z ∈ s.L, z.1 ≤ x.2.2 + pe := fun z hz => by have := h z hz; omega
      split at hy
      · exact hold y hy
      · rcases owe_mem hy with hy | rfl | ⟨z, hz, he, rfl⟩
        · exact hold y hy
        · exact Int.le_refl _
        · exact hold z hz
    · rw [Srv.use_no h0]; exact h
  · split
    · by_cases h0 : (s.refill x.2.2).2.2 = 0
      · obtain ⟨h1, _, h3, _, h2, _⟩ := Srv.refill_ok h0
        intro y hy
        rw [h2] at hy
        rw [h1]
        have := h y ((due_sublist _ _).subset hy)
        omega
      · rw [Srv.refill_no h0]; exact h
    · exact h
end Vg
namespace Go.Proofs.Ytiinhofmhoplfaa
open Go.ChangeShapes Go.WideShapes Go.ChangeAt Go.RowKit
section
variable {w0 wx w3 : World} {b B S : Nat} {bu pe : Int} {s s' : Vg.Srv} {v v' : Value}
theorem one_step (n2 : b < S) (n3 : w0.heap.size ≤ b) (n6 : w0.heap.size ≤ S) (hSx : S ≤ wx.heap.size) (hg : Vg.Grows w0 wx) (hap : ∀ j, v.ownBlock = some j → S ≤ j)
    (hsa3 : SA w3 b B bu pe s' v') (ht3 : Vg.Touch (fun k => k = b ∨ v.ownBlock = some k) wx w3) (hov3 : ∀ k, v'.ownBlock = some k → v.ownBlock = some k ∨ wx.heap.size ≤ k) :
    S ≤ w3.heap.size ∧ Vg.Grows w0 w3 ∧ SA w3 b B bu pe s' v' ∧ (∀ j, v'.ownBlock = some j → S ≤ j) := by
  have hz3 := ht3.size
  refine ⟨by omega, ht3.grows hg fun k hk => ?_, hsa3, fun j hj => ?_⟩
  · rcases hk with rfl | hk
    · exact n3
    · have := hap k hk; omega
  · rcases hov3 j hj with h | h
    · exact hap j h
    · omega
end
end Go.Proofs.Ytiinhofmhoplfaa
