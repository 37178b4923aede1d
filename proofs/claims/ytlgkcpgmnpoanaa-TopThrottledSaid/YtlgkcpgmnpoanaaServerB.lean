/- 'lives' of law 15. -/
import Derived.Test.YtlgkcpgmnpoanaaServerA
set_option linter.unusedSimpArgs false
set_option linter.unusedVariables false
set_option maxHeartbeats 400000
set_option maxRecDepth 20000
namespace Go.Proofs.Ytlgkcpgmnpoanaa
open Go.ChangeShapes Go.WideShapes Go.ChangeAt Go.RowKit
theorem lives15 (w : World) : Calls Try.prog 26 #[] w fun e w' => e = .returned (.bool true) ∧ Vg.Grows w w' := by
  have i0 : Vg.Srv.Inv ⟨[], 0⟩ 5 := Vg.Srv.inv0 (by omega)
  have e1 : Vg.Srv.use ⟨[], 0⟩ 5 20 3 10 = (⟨[(30, 3)], 10⟩, 0) := by rfl
  have i1 := Vg.Srv.use_inv (period := 20) 3 10 i0 (by omega)
  rw [e1] at i1
  have e2 : Vg.Srv.use ⟨[(30, 3)], 10⟩ 5 20 2 12 = (⟨[(30, 3), (32, 2)], 12⟩, 0) := by rfl
  have i2 := Vg.Srv.use_inv (period := 20) 2 12 i1 (by omega)
  rw [e2] at i2
  have e3 : Vg.Srv.use ⟨[(30, 3), (32, 2)], 12⟩ 5 20 1 14 = (⟨[(30, 3), (32, 2)], 12⟩, 5) := by rfl
  have e4 : Vg.Srv.use ⟨[(30, 3), (32, 2)], 12⟩ 5 20 1 12 = (⟨[(30, 3), (32, 2)], 12⟩, 1) := by rfl
  have e5 : Vg.Srv.refill ⟨[(30, 3), (32, 2)], 12⟩ 30 = (⟨[(32, 2)], 30⟩, 3, 0) := by rfl
  have i5 := Vg.Srv.refill_inv 30 i2
  rw [e5] at i5
  have e6 : Vg.Srv.refill ⟨[(32, 2)], 30⟩ 29 = (⟨[(32, 2)], 30⟩, 0, 1) := by rfl
  have e7 : Vg.Srv.left ⟨[(32, 2)], 30⟩ 5 = 3 := by rfl
  have E1 := Lib.hid e1
  have E2 := Lib.hid e2
  have E3 := Lib.hid e3
  have E4 := Lib.hid e4
  have E5 := Lib.hid e5
  have E6 := Lib.hid e6
  have E7 := Lib.hid e7
  have I0 := Lib.hid i0
  have I1 := Lib.hid i1
  have I2 := Lib.hid i2
  have I5 := Lib.hid i5
  clear e1 e2 e3 e4 e5 e6 e7 i0 i1 i2 i5
  have hB : w.heap.size < w.heap.size + 1 := by omega
  go_enter Try.func26, Try.ntmps26
  go_wp2_with fail
  refine (sa_new (bu := 5) (pe := 20) (by omega) (by omega) (by omega)).mono ?_
  rintro e w1 ⟨rfl, hs, hw1⟩
  have hg1 : Vg.Grows w w1 := by rw [hw1]; (repeat' (first | (with_reducible exact Vg.Grows.refl _) | (with_reducible assumption) | (with_reducible refine Vg.Grows.alloc ?_ _) | (with_reducible refine Vg.Grows.plus ?_ _ _) | (with_reducible refine Vg.Grows.drewN ?_ _) | (with_reducible refine Vg.Grows.drew ?_) | (with_reducible refine Vg.Grows.setCell ?_ ?_ _) | (with_reducible refine Vg.Grows.put ?_ ?_ _) | omega | (simp; omega) | (simp; done)))
  have hz1 : w.heap.size + 1 ≤ w1.heap.size := by rw [hw1]; simp
  have HS := Lib.hid hs
  clear hs hw1
  go_wp2_with fail
  refine (serv_new_no 0 20 (by omega)).mono ?_
  rintro e w1 ⟨rfl, rfl⟩
  go_wp2_with fail
  refine (sa_use 3 10 HS.out (by omega) hz1 I0.out (by omega) (by omega) (by omega) (by omega)).mono ?_
  rintro e w2 ⟨v2, rfl, hs2, ht2, ho2⟩
  have hg2 : Vg.Grows w w2 := ht2.grows hg1 (fun k hk => by rcases hk with rfl | hk; · omega
                                                            · have := (HS.out.own k hk).1; omega)
  have hz2 : w.heap.size + 1 ≤ w2.heap.size := Nat.le_trans hz1 ht2.size
  rw [E1.out] at hs2 ⊢
  have HS2 := Lib.hid hs2
  clear hs2 ht2 ho2
  go_wp2_with fail
  refine (sa_use 2 12 HS2.out (by omega) hz2 I1.out (by omega) (by omega) (by omega) (by omega)).mono ?_
  rintro e w3 ⟨v3, rfl, hs3, ht3, ho3⟩
  have hg3 : Vg.Grows w w3 := ht3.grows hg2 (fun k hk => by rcases hk with rfl | hk; · omega
                                                            · have := (HS2.out.own k hk).1; omega)
  have hz3 : w.heap.size + 1 ≤ w3.heap.size := Nat.le_trans hz2 ht3.size
  rw [E2.out] at hs3 ⊢
  have HS3 := Lib.hid hs3
  clear hs3 ht3 ho3
  go_wp2_with fail
  refine (sa_use 1 14 HS3.out (by omega) hz3 I2.out (by omega) (by omega) (by omega) (by omega)).mono ?_
  rintro e w4 ⟨v4, rfl, hs4, ht4, ho4⟩
  have hg4 : Vg.Grows w w4 := ht4.grows hg3 (fun k hk => by rcases hk with rfl | hk; · omega
                                                            · have := (HS3.out.own k hk).1; omega)
  have hz4 : w.heap.size + 1 ≤ w4.heap.size := Nat.le_trans hz3 ht4.size
  rw [E3.out] at hs4 ⊢
  have HS4 := Lib.hid hs4
  clear hs4 ht4 ho4
  go_wp2_with fail
  refine (sa_use 1 12 HS4.out (by omega) hz4 I2.out (by omega) (by omega) (by omega) (by omega)).mono ?_
  rintro e w5 ⟨v5, rfl, hs5, ht5, ho5⟩
  have hg5 : Vg.Grows w w5 := ht5.grows hg4 (fun k hk => by rcases hk with rfl | hk; · omega
                                                            · have := (HS4.out.own k hk).1; omega)
  have hz5 : w.heap.size + 1 ≤ w5.heap.size := Nat.le_trans hz4 ht5.size
  rw [E4.out] at hs5 ⊢
  have HS5 := Lib.hid hs5
  clear hs5 ht5 ho5
  go_wp2_with (first | (go_at_call 34; refine (sa_next HS5.out).mono ?_; rintro e w' ⟨rfl, rfl⟩) | (go_at_call 38; refine (sa_waits HS5.out).mono ?_; rintro e w' ⟨rfl, rfl⟩))
  refine (sa_refill 30 HS5.out (by omega) I2.out (by omega)).mono ?_
  rintro e w6 ⟨v6, rfl, hs6, ht6, ho6⟩
  have hg6 : Vg.Grows w w6 := ht6.grows hg5 (fun k hk => by rcases hk with rfl | hk; · omega
                                                            · have := (HS5.out.own k hk).1; omega)
  have hz6 : w.heap.size + 1 ≤ w6.heap.size := Nat.le_trans hz5 ht6.size
  rw [E5.out] at hs6 ⊢
  have HS6 := Lib.hid hs6
  clear hs6 ht6 ho6
  go_wp2_with fail
  refine (sa_refill 29 HS6.out (by omega) I5.out (by omega)).mono ?_
  rintro e w7 ⟨v7, rfl, hs7, ht7, ho7⟩
  have hg7 : Vg.Grows w w7 := ht7.grows hg6 (fun k hk => by rcases hk with rfl | hk; · omega
                                                            · have := (HS6.out.own k hk).1; omega)
  rw [E6.out] at hs7 ⊢
  have HS7 := Lib.hid hs7
  clear hs7 ht7 ho7
  go_wp2_with (first | (go_at_call 36; refine (sa_left HS7.out).mono ?_; rintro e w1 ⟨rfl, rfl⟩; rw [E7.out]) | (go_at_call 38; refine (sa_waits HS7.out).mono ?_; rintro e w' ⟨rfl, rfl⟩))
  go_ret
  exact ⟨rfl, hg7⟩
end Go.Proofs.Ytlgkcpgmnpoanaa
