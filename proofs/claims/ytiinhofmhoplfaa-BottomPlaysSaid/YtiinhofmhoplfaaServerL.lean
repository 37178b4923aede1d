/- ServerPlays: the walk. -/
import Derived.Test.YtiinhofmhoplfaaServerB
import Derived.Test.YtiinhofmhoplfaaServerC
set_option linter.unusedSimpArgs false
set_option linter.unusedVariables false
set_option maxHeartbeats 4000000
set_option maxRecDepth 20000
namespace Go.Proofs.Ytiinhofmhoplfaa
open Go.ChangeShapes Go.WideShapes Go.ChangeAt Go.RowKit
section
variable {w w0 wx w2 w3 : World} {b bw B S : Nat} {bu pe : Int} {s s' : Vg.Srv} {v v2 v' v2' : Value} {o o' : Obj}
theorem RA.shape (h : RA w S s v) : ∃ a c, v = .slice a s.L.length c := by obtain ⟨a, c, hv, _⟩ := h; exact ⟨a, c, hv⟩
theorem SA.put (h : SA w b B bu pe s v) (hb : bw ≠ b) (hv : v.ownBlock ≠ some bw) : SA (Vg.put w bw o) b B bu pe s v :=
  h.kept (Vg.put_heap_other hb) fun k hk => Vg.put_heap_other (fun e => hv (by rw [e]; exact hk))
theorem RA.put (h : RA w S s v) (hb : bw < S) : RA (Vg.put w bw o) S s v :=
  h.touch ((Vg.Touch.refl (fun k => k = bw) w).put rfl o) fun k hk e => by have := (h.own k hk).1; omega
theorem both_step (n1 : bw < S) (n2 : b < S) (n3 : w0.heap.size ≤ b) (n4 : w0.heap.size ≤ bw) (n5 : bw ≠ b) (n6 : w0.heap.size ≤ S) (hSx : S ≤ wx.heap.size) (hg : Vg.Grows w0 wx) (hs : SA wx b B bu pe s v) (hap : ∀ j, v.ownBlock = some j → S ≤ j ∧ v2.ownBlock ≠ some j) (hr : RA wx S s v2)
    (hra2 : RA w2 S s' v2') (hov2 : ∀ k, v2'.ownBlock = some k → v2.ownBlock = some k ∨ wx.heap.size ≤ k) (hg2 : Vg.Grows wx w2)
    (hsa3 : SA w3 b B bu pe s' v') (ht3 : Vg.Touch (fun k => k = b ∨ v.ownBlock = some k) (w2.alloc o) w3) (hov3 : ∀ k, v'.ownBlock = some k → v.ownBlock = some k ∨ (w2.alloc o).heap.size ≤ k) :
    S ≤ (Vg.put w3 bw o').heap.size ∧ Vg.Grows w0 (Vg.put w3 bw o') ∧ SA (Vg.put w3 bw o') b B bu pe s' v' ∧ Vg.blk (Vg.put w3 bw o') bw = some o' ∧ RA (Vg.put w3 bw o') S s' v2' ∧ (∀ j, v'.ownBlock = some j → S ≤ j ∧ v2'.ownBlock ≠ some j) := by
  have hz2 := hg2.size
  have hz3 := ht3.size
  rw [World.size_alloc] at hz3
  have hown := hs.own
  have hl3 : bw < w3.heap.size := by omega
  have hap' : ∀ j, v'.ownBlock = some j → S ≤ j ∧ v2'.ownBlock ≠ some j := fun j hj => by
    rcases hov3 j hj with h | h
    · refine ⟨(hap j h).1, fun h2 => ?_⟩
      rcases hov2 j h2 with h3 | h3
      · exact (hap j h).2 h3
      · have := (hown j h).2; omega
    · rw [World.size_alloc] at h
      refine ⟨by omega, fun h2 => ?_⟩
      have := (hra2.own j h2).2
      omega
  have hra3 : RA w3 S s' v2' := (hra2.grows ((Vg.Grows.refl _).alloc o)).touch ht3 fun k hk hh => by
    rcases hh with rfl | hh
    · rcases hov2 k hk with h3 | h3
      · have := (hr.own k h3).1; omega
      · omega
    · rcases hov2 k hk with h3 | h3
      · exact (hap k hh).2 h3
      · have := (hown k hh).2; omega
  refine ⟨by rw [Vg.put_size]; omega, ?_, hsa3.put n5 (fun h => by have := (hap' bw h).1; omega), Vg.put_heap_same hl3, hra3.put n1, hap'⟩
  refine Vg.Grows.put (ht3.grows ((hg.trans hg2).alloc o) fun k hk => ?_) n4 _
  rcases hk with rfl | hk
  · exact n3
  · have := (hap k hk).1; omega
end
end Go.Proofs.Ytiinhofmhoplfaa
