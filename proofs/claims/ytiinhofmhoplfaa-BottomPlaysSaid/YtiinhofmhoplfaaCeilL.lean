/- Law 12: lives; the plain laws of levels. -/
import Derived.Test.YtiinhofmhoplfaaCeilM
set_option linter.unusedSimpArgs false
set_option linter.unusedVariables false
set_option maxHeartbeats 2000000
set_option maxRecDepth 100000
namespace Vg
open Go
theorem Touch.gr {w0 w w' : World} {t : Nat → Prop} (h : Touch t w w') (hg : Grows w0 w) (ht : ∀ k, t k → w0.heap.size ≤ k) : Grows w0 w' :=
  Grows.of_below ⟨h.os.trans hg.below.os, h.tape.trans hg.below.tape, h.output.trans hg.below.output, Nat.le_trans hg.size h.size, fun k hk =>
    (h.block k (Nat.lt_of_lt_of_le hk hg.size) (fun hh => by have := ht k hh; omega)).trans (hg.below.block k hk)⟩
theorem Touch.bk {w w' : World} {t : Nat → Prop} {k : Nat} {o : Obj} (h : Touch t w w') (hb : Vg.blk w k = some o) (ht : ¬ t k) : Vg.blk w' k = some o :=
  (h.block k (lt_of hb) ht).trans hb
/-- A task's level, mutex by mutex. -/
def Tb.lev (M : List Mx) (task : Int) : Nat → Int → Int
  | 0, p => p
  | k + 1, p => if Tb.isOf M task k = true then max (Tb.lev M task k p) ((M[k]?.getD ⟨0, false, 0⟩).c) else Tb.lev M task k p
theorem Tb.level_lev (M : List Mx) (task p : Int) : ∀ k, Tb.level M (Tb.of M task k) p = Tb.lev M task k p
  | 0 => rfl
  | k + 1 => by
    rw [Tb.of_succ, Tb.lev]
    split
    · rw [Tb.level_snoc, Tb.level_lev M task p k]
    · rw [List.append_nil, Tb.level_lev M task p k]
theorem Tb.isOf_set {M : List Mx} {i k : Nat} {x : Mx} {task : Int} (hi : i < M.length) : Tb.isOf (M.set i x) task k = if k = i then (x.held && decide (x.who = task)) else Tb.isOf M task k := by
  unfold Tb.isOf
  rw [List.getElem?_set]
  by_cases h : i = k
  · subst h; simp [hi]
  · rw [if_neg h, if_neg (fun hh => h hh.symm)]
theorem Tb.lev_lock {M : List Mx} {i : Nat} {task p : Int} (hi : i < M.length) (hh : M[i].held = false) : ∀ k, Tb.lev (M.set i ⟨M[i].c, true, task⟩) task k p = if i < k then max (Tb.lev M task k p) M[i].c else Tb.lev M task k p
  | 0 => by simp [Tb.lev]
  | k + 1 => by
    have ih := Tb.lev_lock (task := task) (p := p) hi hh k
    rw [Tb.lev, Tb.lev, Tb.isOf_set hi, ih]
    by_cases h : k = i
    · subst h
      have h1 : Tb.isOf M task k = false := by unfold Tb.isOf; rw [List.getElem?_eq_getElem hi]; simp [hh]
      simp [h1, hi]
    · have e : (M.set i ⟨M[i].c, true, task⟩)[k]? = M[k]? := List.getElem?_set_ne (fun hh => h hh.symm)
      rw [if_neg h, e]
      by_cases h2 : i < k
      · simp only [if_pos h2, if_pos (show i < k + 1 by omega)]
        split <;> omega
      · simp only [if_neg h2, if_neg (show ¬ i < k + 1 by omega)]
theorem Tb.lev_free {M : List Mx} {i : Nat} {task p : Int} {x : Mx} (hi : i < M.length) (hh : M[i].held = false) (hx : x.held = false) : ∀ k, Tb.lev (M.set i x) task k p = Tb.lev M task k p
  | 0 => by simp [Tb.lev]
  | k + 1 => by
    have ih := Tb.lev_free (task := task) (p := p) hi hh hx k
    rw [Tb.lev, Tb.lev, Tb.isOf_set hi, ih]
    by_cases h : k = i
    · subst h
      have h1 : Tb.isOf M task k = false := by unfold Tb.isOf; rw [List.getElem?_eq_getElem hi]; simp [hh]
      simp [h1, hx]
    · have e : (M.set i x)[k]? = M[k]? := List.getElem?_set_ne (fun hh => h hh.symm)
      rw [if_neg h, e]
theorem Tb.lock_no {M : List Mx} {m task prio : Int} (h : (Tb.lock M m task prio).2 ≠ 0) : (Tb.lock M m task prio).1 = M := by
  unfold Tb.lock at h ⊢
  split
  · rfl
  · split
    · rfl
    · split
      · rfl
      · split
        · rfl
        · split
          · rfl
          · rename_i h1 _ _ h2 h3 h4 h5
            rw [if_neg h1] at h
            simp only [h2] at h
            rw [if_neg h3, if_neg h4, if_neg h5] at h
            exact absurd rfl h
theorem Tb.lock_ok {M : List Mx} {m task prio : Int} (h : (Tb.lock M m task prio).2 = 0) : ∃ (i : Nat) (hi : i < M.length), m = i ∧ prio ≤ M[i].c ∧ M[i].held = false ∧ (Tb.lock M m task prio).1 = M.set i ⟨M[i].c, true, task⟩ := by
  by_cases hm : m < 0 ∨ (M.length : Int) ≤ m
  · rw [Tb.lock_out hm] at h; simp at h
  · obtain ⟨i, rfl⟩ : ∃ i : Nat, m = i := ⟨m.toNat, by omega⟩
    have hi : i < M.length := by omega
    refine ⟨i, hi, rfl, ?_⟩
    rw [Tb.lock_in hi] at h ⊢
    split at h
    · simp at h
    · split at h
      · simp at h
      · split at h
        · simp at h
        · rename_i h1 h2 h3
          rw [if_neg h1, if_neg h2, if_neg h3]
          exact ⟨by omega, by simpa using h3, rfl⟩
/-- The ceilings stay. -/
def Tb.cs (M : List Mx) : List Int := M.map Mx.c
theorem Tb.cs_set {M : List Mx} {i : Nat} {x : Mx} (hi : i < M.length) (hx : x.c = M[i].c) : Tb.cs (M.set i x) = Tb.cs M := by
  unfold Tb.cs
  rw [List.map_set, hx]
  apply List.ext_getElem
  · simp
  · intro j h1 h2
    rw [List.getElem_set]
    split
    · rename_i e; subst e; simp
    · rfl
theorem Tb.cs_lock (M : List Mx) (m task prio : Int) : Tb.cs (Tb.lock M m task prio).1 = Tb.cs M := by
  by_cases h : (Tb.lock M m task prio).2 = 0
  · obtain ⟨i, hi, _, _, _, e⟩ := Tb.lock_ok h
    rw [e]; exact Tb.cs_set hi rfl
  · rw [Tb.lock_no h]
theorem Tb.cs_unlock (M : List Mx) (m task : Int) : Tb.cs (Tb.unlock M m task).1 = Tb.cs M := by
  by_cases hm : m < 0 ∨ (M.length : Int) ≤ m
  · rw [Tb.unlock_out hm]
  · obtain ⟨i, rfl⟩ : ∃ i : Nat, m = i := ⟨m.toNat, by omega⟩
    have hi : i < M.length := by omega
    rw [Tb.unlock_in hi]
    split
    · exact Tb.cs_set hi rfl
    · rfl
end Vg
namespace Go.Proofs.Ytiinhofmhoplfaa
open Go.ChangeShapes Go.WideShapes Go.ChangeAt Go.RowKit
theorem CE.grown {w0 w w' : World} {b B : Nat} {M : List Vg.Mx} {v : Value} (h : CE w b B M v) (hg : Vg.Grows w0 w) (hB : w0.heap.size ≤ B) (ht : Vg.Touch (fun k => v.ownBlock = some k) w w') : Vg.Grows w0 w' :=
  ht.gr hg fun k hk => by have := (h.own k hk).1; omega
theorem lives12 (w : World) : Calls Try.prog 28 #[] w fun e w' => e = .returned (.bool true) ∧ Vg.Grows w w' := by
  have o1 : [(5 : Int), 9].any Vg.oddC = false := by decide
  have o2 : [(64 : Int)].any Vg.oddC = true := by decide
  have H_o1 := Lib.hid o1; clear o1; have H_o2 := Lib.hid o2; clear o2
  go_enter Try.func28, Try.ntmps28
  go_wp2_with fail
  refine (ceil_new (L := [5, 9]) (Vg.IR.block (t := 3) (Vg.alloc_heap_at (by (try simp only [World.size_alloc, Vg.plus_size, Vg.put_size, World.size_setCell, World.size_drew]) <;> omega)) (by decide)) (by decide) H_o1.out).mono ?_
  rintro e w1 ⟨v, rfl, hs, hg1'⟩
  obtain ⟨b, hb⟩ : ∃ b, w.heap.size + 1 = b := ⟨_, rfl⟩
  have hg1 : Vg.Grows w w1 := ((Vg.Grows.refl w).alloc _).trans hg1'
  simp only [World.size_alloc, hb] at hs ⊢
  have hB : w.heap.size ≤ b + 1 := by omega
  have hbB : b < b + 1 := by omega
  have HS := Lib.hid hs
  have H_hb := Lib.hid hb; clear hb
  clear hs hg1'
  go_wp2_with fail
  refine (ceil_new_no (L := [64]) (Vg.IR.block (t := 3) (Vg.alloc_heap_at (by (try simp only [World.size_alloc, Vg.plus_size, Vg.put_size, World.size_setCell, World.size_drew]) <;> omega)) (by decide)) (.inr H_o2.out)).mono ?_
  rintro e w1' ⟨rfl, rfl⟩
  have hs1 := HS.out.grows ((Vg.Grows.refl _).alloc (.cells #[.int .i64 64] 3))
  have hg2 : Vg.Grows w (w1.alloc (.cells #[.int .i64 64] 3)) := by (repeat' (first | (with_reducible exact Vg.Grows.refl _) | (with_reducible assumption) | (with_reducible refine Vg.Grows.alloc ?_ _) | (with_reducible refine Vg.Grows.plus ?_ _ _) | (with_reducible refine Vg.Grows.drewN ?_ _) | (with_reducible refine Vg.Grows.drew ?_) | (with_reducible refine Vg.Grows.setCell ?_ ?_ _) | (with_reducible refine Vg.Grows.put ?_ ?_ _) | omega | (simp; omega) | (simp; done)))
  have HS1 := Lib.hid (show CE _ b (b + 1) [⟨5, false, 0⟩, ⟨9, false, 0⟩] v from hs1)
  clear hs1 HS
  have e2 : Vg.Tb.lock [⟨5, false, 0⟩, ⟨9, false, 0⟩] (0) (7) (3) = ([⟨5, true, 7⟩, ⟨9, false, 0⟩], 0) := by rfl
  have H_e2 := Lib.hid e2; clear e2
  go_wp2_with fail
  refine (ce_lock (0) (7) (3) HS1.out hbB).mono ?_
  rintro e w2 ⟨rfl, hs2, ht2⟩
  have hg2x := CE.grown HS1.out hg2 hB ht2
  rw [H_e2.out] at hs2 ⊢
  have HS2 := Lib.hid hs2
  clear hs2 ht2
  have e3 : Vg.Tb.lock [⟨5, true, 7⟩, ⟨9, false, 0⟩] (0) (7) (3) = ([⟨5, true, 7⟩, ⟨9, false, 0⟩], 4) := by rfl
  have H_e3 := Lib.hid e3; clear e3
  go_wp2_with fail
  refine (ce_lock (0) (7) (3) HS2.out hbB).mono ?_
  rintro e w3 ⟨rfl, hs3, ht3⟩
  have hg3x := CE.grown HS2.out hg2x hB ht3
  rw [H_e3.out] at hs3 ⊢
  have HS3 := Lib.hid hs3
  clear hs3 ht3
  have e4 : Vg.Tb.lock [⟨5, true, 7⟩, ⟨9, false, 0⟩] (0) (8) (3) = ([⟨5, true, 7⟩, ⟨9, false, 0⟩], 13) := by rfl
  have H_e4 := Lib.hid e4; clear e4
  go_wp2_with fail
  refine (ce_lock (0) (8) (3) HS3.out hbB).mono ?_
  rintro e w4 ⟨rfl, hs4, ht4⟩
  have hg4x := CE.grown HS3.out hg3x hB ht4
  rw [H_e4.out] at hs4 ⊢
  have HS4 := Lib.hid hs4
  clear hs4 ht4
  have e5 : Vg.Tb.lock [⟨5, true, 7⟩, ⟨9, false, 0⟩] (1) (7) (10) = ([⟨5, true, 7⟩, ⟨9, false, 0⟩], 12) := by rfl
  have H_e5 := Lib.hid e5; clear e5
  go_wp2_with fail
  refine (ce_lock (1) (7) (10) HS4.out hbB).mono ?_
  rintro e w5 ⟨rfl, hs5, ht5⟩
  have hg5x := CE.grown HS4.out hg4x hB ht5
  rw [H_e5.out] at hs5 ⊢
  have HS5 := Lib.hid hs5
  clear hs5 ht5
  have e6 : Vg.Tb.holder [⟨5, true, 7⟩, ⟨9, false, 0⟩] 0 = (7, true) := by rfl
  have H_e6 := Lib.hid e6; clear e6
  go_wp2_with fail
  refine (ce_holder 0 HS5.out).mono ?_
  rintro e w6 ⟨rfl, rfl⟩
  rw [H_e6.out]
  have e7 : Vg.Tb.level [⟨5, true, 7⟩, ⟨9, false, 0⟩] (Vg.Tb.of [⟨5, true, 7⟩, ⟨9, false, 0⟩] 7 2) 3 = 5 := by rfl
  have H_e7 := Lib.hid e7; clear e7
  go_wp2_with fail
  refine (ce_level 7 3 HS5.out).mono ?_
  rintro e w7 ⟨rfl, hgl7⟩
  rw [show Vg.Tb.level [⟨5, true, 7⟩, ⟨9, false, 0⟩] (Vg.Tb.of [⟨5, true, 7⟩, ⟨9, false, 0⟩] 7 (List.length (α := Vg.Mx) [⟨5, true, 7⟩, ⟨9, false, 0⟩])) 3 = 5 from H_e7.out]
  have hs7 := HS5.out.grows hgl7
  have hg7x := hg5x.trans hgl7
  have HS7 := Lib.hid hs7
  clear hs7 hgl7
  have e8 : Vg.Tb.level [⟨5, true, 7⟩, ⟨9, false, 0⟩] (Vg.Tb.of [⟨5, true, 7⟩, ⟨9, false, 0⟩] 8 2) 3 = 3 := by rfl
  have H_e8 := Lib.hid e8; clear e8
  go_wp2_with fail
  refine (ce_level 8 3 HS7.out).mono ?_
  rintro e w8 ⟨rfl, hgl8⟩
  rw [show Vg.Tb.level [⟨5, true, 7⟩, ⟨9, false, 0⟩] (Vg.Tb.of [⟨5, true, 7⟩, ⟨9, false, 0⟩] 8 (List.length (α := Vg.Mx) [⟨5, true, 7⟩, ⟨9, false, 0⟩])) 3 = 3 from H_e8.out]
  have hs8 := HS7.out.grows hgl8
  have hg8x := hg7x.trans hgl8
  have HS8 := Lib.hid hs8
  clear hs8 hgl8
  have e9 : Vg.Tb.unlock [⟨5, true, 7⟩, ⟨9, false, 0⟩] (0) (8) = ([⟨5, true, 7⟩, ⟨9, false, 0⟩], 7) := by rfl
  have H_e9 := Lib.hid e9; clear e9
  go_wp2_with fail
  refine (ce_unlock (0) (8) HS8.out hbB).mono ?_
  rintro e w9 ⟨rfl, hs9, ht9⟩
  have hg9x := CE.grown HS8.out hg8x hB ht9
  rw [H_e9.out] at hs9 ⊢
  have HS9 := Lib.hid hs9
  clear hs9 ht9
  have e10 : Vg.Tb.unlock [⟨5, true, 7⟩, ⟨9, false, 0⟩] (0) (7) = ([⟨5, false, 7⟩, ⟨9, false, 0⟩], 0) := by rfl
  have H_e10 := Lib.hid e10; clear e10
  go_wp2_with fail
  refine (ce_unlock (0) (7) HS9.out hbB).mono ?_
  rintro e w10 ⟨rfl, hs10, ht10⟩
  have hg10x := CE.grown HS9.out hg9x hB ht10
  rw [H_e10.out] at hs10 ⊢
  have HS10 := Lib.hid hs10
  clear hs10 ht10
  have e11 : Vg.Tb.unlock [⟨5, false, 7⟩, ⟨9, false, 0⟩] (2) (7) = ([⟨5, false, 7⟩, ⟨9, false, 0⟩], 1) := by rfl
  have H_e11 := Lib.hid e11; clear e11
  go_wp2_with fail
  refine (ce_unlock (2) (7) HS10.out hbB).mono ?_
  rintro e w11 ⟨rfl, hs11, ht11⟩
  have hg11x := CE.grown HS10.out hg10x hB ht11
  rw [H_e11.out] at hs11 ⊢
  have HS11 := Lib.hid hs11
  clear hs11 ht11
  have e12 : Vg.Tb.holder [⟨5, false, 7⟩, ⟨9, false, 0⟩] 0 = (0, false) := by rfl
  have H_e12 := Lib.hid e12; clear e12
  go_wp2_with fail
  refine (ce_holder 0 HS11.out).mono ?_
  rintro e w12 ⟨rfl, rfl⟩
  rw [H_e12.out]
  have e99 : Vg.Tb.of [⟨5, false, 7⟩, ⟨9, false, 0⟩] 7 2 = [] := by rfl
  have H_e99 := Lib.hid e99; clear e99
  go_wp2_with fail
  refine (ce_held 7 HS11.out (by decide)).mono ?_
  rintro e w99 ⟨u, rfl, hq, hgl⟩
  rw [show Vg.Tb.of [⟨5, false, 7⟩, ⟨9, false, 0⟩] 7 (List.length (α := Vg.Mx) [⟨5, false, 7⟩, ⟨9, false, 0⟩]) = [] from H_e99.out] at hq
  obtain ⟨ua, uc, rfl⟩ := hq.shape
  have hg99 := hg11x.trans hgl
  clear hq hgl
  go_wp2_with fail
  go_ret
  exact ⟨rfl, hg99⟩
end Go.Proofs.Ytiinhofmhoplfaa
