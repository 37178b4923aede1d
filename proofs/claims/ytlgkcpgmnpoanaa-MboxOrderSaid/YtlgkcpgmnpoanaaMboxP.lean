/- Law 13: lives, MboxPlays. -/
import Derived.Test.YtlgkcpgmnpoanaaMboxM
import Derived.Test.YtlgkcpgmnpoanaaMboxR
set_option linter.unusedSimpArgs false
set_option linter.unusedVariables false
set_option maxHeartbeats 1000000
set_option maxRecDepth 20000
namespace Vg
open Go
theorem Que.touchx {w w' : World} {B b g : Nat} {e : TypeId} {size n : Nat} {v : Value} {xs : List Value} (h : Que w B e size v n xs) (ht : Touch (fun k => k = b ∨ k = g) w w') (hb : b < B) (hg : g < B) : Que w' B e size v n xs :=
  h.kept fun k hk => ht.block k (h.lt k hk).2 (fun hh => by have := (h.lt k hk).1; omega)
theorem Touch.growsx {w0 w w' : World} {b g : Nat} (ht : Touch (fun k => k = b ∨ k = g) w w') (hg0 : Grows w0 w) (hb : w0.heap.size ≤ b) (hg : w0.heap.size ≤ g) : Grows w0 w' :=
  ht.grows hg0 (fun k hk => by rcases hk with rfl | rfl <;> assumption)
theorem reads_one {w : World} {g : Nat} {x : Int} {t : TypeId} (h : blk w g = some (.cells #[.int .i64 x] t)) : Reads 0 w (.slice (some ⟨g, 0, none⟩) 1 1) 1 (ics [x]) := by
  refine .inr ⟨g, 0, 1, rfl, Nat.zero_le _, lt_of h, by omega, by unfold maxLen; omega, fun j hj => ?_⟩
  have hj0 : j = 0 := by simp at hj; omega
  subst hj0
  rw [cells_of h]
  rfl
end Vg
namespace Go.Proofs.Ytlgkcpgmnpoanaa
open Go.ChangeShapes Go.WideShapes Go.ChangeAt Go.RowKit
theorem same13x {S S' : Nat} {L M : List Int} {v v' : Value} {w : World} {n m : Nat} (hr : Vg.Reads S w v n (Vg.ics L)) (hn : L.length = n) (hq : Vg.Reads S' w v' m (Vg.ics M)) (hm : M.length = m) (hL : L.length ≤ 100000) (hM : M.length ≤ 100000) :
    Calls Try.prog 49 #[v, v'] w fun e w' => e = .returned (.bool (decide (L = M))) ∧ Vg.Grows w w' := by
  subst hn hm
  obtain ⟨a, c, rfl⟩ : ∃ a c, v = .slice a L.length c := by
    rcases hr with ⟨rfl, h0, _⟩ | ⟨g, off, cap, rfl, _⟩
    · exact ⟨none, 0, by rw [h0]⟩
    · exact ⟨_, _, rfl⟩
  obtain ⟨a', c', rfl⟩ : ∃ a c, v' = .slice a M.length c := by
    rcases hq with ⟨rfl, h0, _⟩ | ⟨g, off, cap, rfl, _⟩
    · exact ⟨none, 0, by rw [h0]⟩
    · exact ⟨_, _, rfl⟩
  exact same13 hr hq hL hM
theorem lives13 (w : World) : Calls Try.prog 40 #[] w fun e w' => e = .returned (.bool true) ∧ Vg.Grows w w' := by
  have e1 : Vg.Bx.post ⟨[], 0⟩ 1 5 = (⟨[5], 0⟩, 0) := by rfl
  have e2 : Vg.Bx.post ⟨[5], 0⟩ 1 6 = (⟨[5], 1⟩, 5) := by rfl
  have e3 : Vg.Bx.fetch ⟨[5], 1⟩ = (⟨[], 1⟩, 5, 0) := by rfl
  have e4 : Vg.Bx.fetch ⟨[], 1⟩ = (⟨[], 1⟩, 0, 3) := by rfl
  obtain ⟨b, hb⟩ : ∃ b, w.heap.size + 1 = b := ⟨_, rfl⟩
  obtain ⟨g, hg⟩ : ∃ g, w.heap.size = g := ⟨_, rfl⟩
  have hbw : w.heap.size ≤ b := by omega
  have hgw : w.heap.size ≤ g := by omega
  have hne : b ≠ g := by omega
  have H_e1 := Lib.hid e1; clear e1; have H_e2 := Lib.hid e2; clear e2; have H_e3 := Lib.hid e3; clear e3; have H_e4 := Lib.hid e4; clear e4
  go_enter Try.func40, Try.ntmps40
  go_wp2_with fail
  refine (bx_new (w := w) 1 (by omega) (by omega)).mono ?_
  rintro e w1 ⟨rfl, hs, hw1⟩
  have hg1 : Vg.Grows w w1 := by rw [hw1]; (repeat' (first | (with_reducible exact Vg.Grows.refl _) | (with_reducible assumption) | (with_reducible refine Vg.Grows.alloc ?_ _) | (with_reducible refine Vg.Grows.plus ?_ _ _) | (with_reducible refine Vg.Grows.drewN ?_ _) | (with_reducible refine Vg.Grows.drew ?_) | (with_reducible refine Vg.Grows.setCell ?_ ?_ _) | (with_reducible refine Vg.Grows.put ?_ ?_ _) | omega | (simp; omega) | (simp; done)))
  have hz1 : w.heap.size + 2 ≤ w1.heap.size := by rw [hw1]; simp
  rw [hb, hg] at hs
  rw [hb]
  have HS := Lib.hid hs
  have H_hb := Lib.hid hb; clear hb; have H_hg := Lib.hid hg; clear hg
  clear hs hw1
  go_wp2_with fail
  refine (bx_new_no (w := w1) 0 (by omega)).mono ?_
  rintro e w1 ⟨rfl, rfl⟩
  go_wp2_with fail
  refine (bx_post 5 HS.out hne (by decide)).mono ?_
  rintro e w2 ⟨rfl, hs2, ht2⟩
  have hg2 := ht2.growsx hg1 hbw hgw
  rw [H_e1.out] at hs2 ⊢
  have HS2 := Lib.hid hs2
  clear hs2 ht2
  go_wp2_with fail
  refine (bx_post 6 HS2.out hne (by decide)).mono ?_
  rintro e w3 ⟨rfl, hs3, ht3⟩
  have hg3 := ht3.growsx hg2 hbw hgw
  rw [H_e2.out] at hs3 ⊢
  have HS3 := Lib.hid hs3
  have hb3 := hs3.lt
  have hg3' := hs3.ltg
  clear hs3 ht3
  go_wp2_with fail
  refine (bx_list HS3.out).mono ?_
  rintro e w4 ⟨v, rfl, hq4, hgr4⟩
  have hg4 := hg3.trans hgr4
  have hs4 := HS3.out.grows hgr4
  obtain ⟨va, vc, rfl⟩ := hq4.shape
  have HS4 := Lib.hid hs4
  have HQ4 := Lib.hid hq4
  clear hs4 hq4
  go_wp2_with fail
  refine (bx_fetch HS4.out hne).mono ?_
  rintro e w5 ⟨rfl, hs5, ht5⟩
  have hg5 := ht5.growsx hg4 hbw hgw
  rw [H_e3.out] at hs5 ⊢
  have hq5 := HQ4.out.touchx ht5 hb3 hg3'
  have HS5 := Lib.hid hs5
  have HQ5 := Lib.hid hq5
  clear hs5 ht5 hq5
  go_wp2_with fail
  refine (bx_fetch HS5.out hne).mono ?_
  rintro e w6 ⟨rfl, hs6, ht6⟩
  have hg6 := ht6.growsx hg5 hbw hgw
  rw [H_e4.out] at hs6 ⊢
  have hq6 := HQ5.out.touchx ht6 hb3 hg3'
  have HS6 := Lib.hid hs6
  have HQ6 := Lib.hid hq6
  clear hs6 ht6 hq6
  have HR6 := Lib.hid (show Vg.Reads w3.heap.size w6 (.slice va 1 vc) 1 (Vg.ics [5]) from HQ6.out.reads)
  clear HQ6
  go_wp2_with fail
  refine (same13x (L := [5]) (M := [5]) (HR6.out.grows (by (repeat' (first | (with_reducible exact Vg.Grows.refl _) | (with_reducible assumption) | (with_reducible refine Vg.Grows.alloc ?_ _) | (with_reducible refine Vg.Grows.plus ?_ _ _) | (with_reducible refine Vg.Grows.drewN ?_ _) | (with_reducible refine Vg.Grows.drew ?_) | (with_reducible refine Vg.Grows.setCell ?_ ?_ _) | (with_reducible refine Vg.Grows.put ?_ ?_ _) | omega | (simp; omega) | (simp; done))))) rfl (Vg.reads_one (Vg.alloc_heap_at (by (try simp only [World.size_alloc, Vg.plus_size, Vg.put_size, World.size_setCell, World.size_drew]) <;> omega))) rfl (by decide) (by decide)).mono ?_
  rintro e w7 ⟨rfl, x7, n7, rfl⟩
  rw [decide_eq_true (rfl : ([5] : List Int) = [5])]
  go_wp2_with (first | (go_at_call 47; refine (bx_len (HS6.out.grows (by (repeat' (first | (with_reducible exact Vg.Grows.refl _) | (with_reducible assumption) | (with_reducible refine Vg.Grows.alloc ?_ _) | (with_reducible refine Vg.Grows.plus ?_ _ _) | (with_reducible refine Vg.Grows.drewN ?_ _) | (with_reducible refine Vg.Grows.drew ?_) | (with_reducible refine Vg.Grows.setCell ?_ ?_ _) | (with_reducible refine Vg.Grows.put ?_ ?_ _) | omega | (simp; omega) | (simp; done)))))).mono ?_; rintro e w' ⟨rfl, rfl⟩) | (go_at_call 48; refine (bx_lost (HS6.out.grows (by (repeat' (first | (with_reducible exact Vg.Grows.refl _) | (with_reducible assumption) | (with_reducible refine Vg.Grows.alloc ?_ _) | (with_reducible refine Vg.Grows.plus ?_ _ _) | (with_reducible refine Vg.Grows.drewN ?_ _) | (with_reducible refine Vg.Grows.drew ?_) | (with_reducible refine Vg.Grows.setCell ?_ ?_ _) | (with_reducible refine Vg.Grows.put ?_ ?_ _) | omega | (simp; omega) | (simp; done)))))).mono ?_; rintro e w' ⟨rfl, rfl⟩))
  go_ret
  exact ⟨rfl, by (repeat' (first | (with_reducible exact Vg.Grows.refl _) | (with_reducible assumption) | (with_reducible refine Vg.Grows.alloc ?_ _) | (with_reducible refine Vg.Grows.plus ?_ _ _) | (with_reducible refine Vg.Grows.drewN ?_ _) | (with_reducible refine Vg.Grows.drew ?_) | (with_reducible refine Vg.Grows.setCell ?_ ?_ _) | (with_reducible refine Vg.Grows.put ?_ ?_ _) | omega | (simp; omega) | (simp; done)))⟩
end Go.Proofs.Ytlgkcpgmnpoanaa
