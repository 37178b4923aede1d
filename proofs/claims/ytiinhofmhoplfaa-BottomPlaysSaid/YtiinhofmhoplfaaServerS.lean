/- Use of package vergeref15: the list is copied, then its last part raised, or one appended. -/
import Derived.Test.YtiinhofmhoplfaaServerR
set_option linter.unusedSimpArgs false
set_option linter.unusedVariables false
set_option maxHeartbeats 400000
set_option maxRecDepth 20000
namespace Vg
open Go
theorem pcells_one : ∀ l : List (Int × Int), ∀ u ∈ pcells l, u.oneCell' = true
  | [], u, h => by simp [pcells] at h
  | x :: l, u, h => by
    simp only [pcells, List.mem_cons] at h
    rcases h with rfl | rfl | h
    · rfl
    · rfl
    · exact pcells_one l u h
@[go_sem] theorem setCell_drewN {w : World} {k : Nat} {a : Addr} {v : Value} : (w.drewN k).setCell a v = (w.setCell a v).drewN k := rfl
theorem Que.base {B n m : Nat} {W0 W1 : World} {y : Array Obj} {v : Value} {k size : Nat} {e : TypeId} {xs : List Value} (h : Que (plus W0 y n) B e size v k xs) (hs : W1.heap.size = W0.heap.size) (hB : W0.heap.size ≤ B) : Que (plus W1 y m) B e size v k xs :=
  h.kept fun j hj => by
    have := (h.lt j hj).1
    show (W1.heap ++ y)[j]? = (W0.heap ++ y)[j]?
    rw [Array.getElem?_append_right (by omega), Array.getElem?_append_right (by omega), hs]
end Vg
namespace Go.Proofs.Ytiinhofmhoplfaa
open Go.ChangeShapes Go.WideShapes Go.ChangeAt Go.RowKit
theorem Try.info_rpart : (Try.prog.info? 227).map (fun i => (i.zero, i.size, i.bytes)) = some (some (.agg #[.int .i64 0, .int .i64 0]), 2, 16) := by kernel_rfl
section
variable {S : Nat} {budget period last : Int} {sa : Option Addr} {sc : Nat} {L : List (Int × Int)} {w : World}
theorem ref15_use_no (n en : Int) (hno : n < 0 ∨ en < n ∨ 4503599627370496 < en ∨ en - n < last) (hl0 : 0 ≤ last) (hen : -9223372036854775808 ≤ en ∧ en ≤ 9223372036854775807) :
    Calls Try.prog 103 #[.agg #[.int .i64 budget, .int .i64 period, .slice sa L.length sc, .int .i64 last], .int .i64 n, .int .i64 en] w fun e w' =>
      e = .returned (.tuple #[.agg #[.int .i64 budget, .int .i64 period, .slice sa L.length sc, .int .i64 last], .int .i64 1]) ∧ Vg.Grows w w' := by
  by_cases h1 : n < 0
  · clear hno
    go_enter Try.func103, Try.ntmps103
    go_wp2_with (first | (go_at_call 131; refine (reftime_any _ _).mono ?_; rintro e w' ⟨rfl, rfl⟩))
    go_returns
    exact ⟨rfl, by (repeat' (first | (with_reducible exact Vg.Grows.refl _) | (with_reducible assumption) | (with_reducible refine Vg.Grows.alloc ?_ _) | (with_reducible refine Vg.Grows.plus ?_ _ _) | (with_reducible refine Vg.Grows.drewN ?_ _) | (with_reducible refine Vg.Grows.drew ?_) | (with_reducible refine Vg.Grows.setCell ?_ ?_ _) | (with_reducible refine Vg.Grows.put ?_ ?_ _) | omega | (simp; omega) | (simp; done)))⟩
  cases ht : Vg.timeB en with
  | false =>
    clear hno
    go_enter Try.func103, Try.ntmps103
    go_wp2_with (first | (go_at_call 131; refine (reftime_any _ _).mono ?_; rintro e w' ⟨rfl, rfl⟩))
    go_returns
    exact ⟨rfl, by (repeat' (first | (with_reducible exact Vg.Grows.refl _) | (with_reducible assumption) | (with_reducible refine Vg.Grows.alloc ?_ _) | (with_reducible refine Vg.Grows.plus ?_ _ _) | (with_reducible refine Vg.Grows.drewN ?_ _) | (with_reducible refine Vg.Grows.drew ?_) | (with_reducible refine Vg.Grows.setCell ?_ ?_ _) | (with_reducible refine Vg.Grows.put ?_ ?_ _) | omega | (simp; omega) | (simp; done)))⟩
  | true =>
    have := Vg.timeB_true.1 ht
    by_cases h2 : en < n
    · clear hno
      go_enter Try.func103, Try.ntmps103
      go_wp2_with (first | (go_at_call 131; refine (reftime_any _ _).mono ?_; rintro e w' ⟨rfl, rfl⟩))
      go_returns
      exact ⟨rfl, by (repeat' (first | (with_reducible exact Vg.Grows.refl _) | (with_reducible assumption) | (with_reducible refine Vg.Grows.alloc ?_ _) | (with_reducible refine Vg.Grows.plus ?_ _ _) | (with_reducible refine Vg.Grows.drewN ?_ _) | (with_reducible refine Vg.Grows.drew ?_) | (with_reducible refine Vg.Grows.setCell ?_ ?_ _) | (with_reducible refine Vg.Grows.put ?_ ?_ _) | omega | (simp; omega) | (simp; done)))⟩
    have hl : en - n < last := by omega
    have hsub : IntKind.i64.wrap (en - n) = en - n := by rw [IntWalk.i64_in _ (by omega)]
    clear hno
    go_enter Try.func103, Try.ntmps103
    go_wp2_with (first | (go_at_call 131; refine (reftime_any _ _).mono ?_; rintro e w' ⟨rfl, rfl⟩))
    go_returns
    exact ⟨rfl, by (repeat' (first | (with_reducible exact Vg.Grows.refl _) | (with_reducible assumption) | (with_reducible refine Vg.Grows.alloc ?_ _) | (with_reducible refine Vg.Grows.plus ?_ _ _) | (with_reducible refine Vg.Grows.drewN ?_ _) | (with_reducible refine Vg.Grows.drew ?_) | (with_reducible refine Vg.Grows.setCell ?_ ?_ _) | (with_reducible refine Vg.Grows.put ?_ ?_ _) | omega | (simp; omega) | (simp; done)))⟩
theorem ref15_use_full (n en : Int) (hr : Vg.Reads S w (.slice sa L.length sc) L.length (Vg.pcells L)) (hbu : 1 ≤ budget ∧ budget ≤ 1099511627776) (h0 : ∀ x ∈ L, 0 ≤ x.2) (hs : Vg.owed L ≤ budget)
    (hn : 0 ≤ n) (h1 : n ≤ en) (h2 : en ≤ 4503599627370496) (h3 : last ≤ en - n) (hl0 : 0 ≤ last) (hfull : Vg.Srv.left ⟨L, last⟩ budget < n) :
    Calls Try.prog 103 #[.agg #[.int .i64 budget, .int .i64 period, .slice sa L.length sc, .int .i64 last], .int .i64 n, .int .i64 en] w fun e w' =>
      e = .returned (.tuple #[.agg #[.int .i64 budget, .int .i64 period, .slice sa L.length sc, .int .i64 last], .int .i64 5]) ∧ Vg.Grows w w' := by
  have ht : Vg.timeB en = true := Vg.timeB_true.2 ⟨by omega, by omega⟩
  have hsub : IntKind.i64.wrap (en - n) = en - n := by rw [IntWalk.i64_in _ (by omega)]
  have HR := Lib.hid hr
  have H0 := Lib.hid h0
  obtain ⟨lf, hlf⟩ : ∃ lf, Vg.Srv.left ⟨L, last⟩ budget = lf := ⟨_, rfl⟩
  rw [hlf] at hfull
  have HLF := Lib.hid hlf
  clear hlf hr h0
  go_enter Try.func103, Try.ntmps103
  go_wp2_with (first | (go_at_call 131; refine (reftime_any _ _).mono ?_; rintro e w' ⟨rfl, rfl⟩) | (go_at_call 101; refine (ref15_left (S := S) (Vg.Reads.grows HR.out (by (repeat' (first | (with_reducible exact Vg.Grows.refl _) | (with_reducible assumption) | (with_reducible refine Vg.Grows.alloc ?_ _) | (with_reducible refine Vg.Grows.plus ?_ _ _) | (with_reducible refine Vg.Grows.drewN ?_ _) | (with_reducible refine Vg.Grows.drew ?_) | (with_reducible refine Vg.Grows.setCell ?_ ?_ _) | (with_reducible refine Vg.Grows.put ?_ ?_ _) | omega | (simp; omega) | (simp; done))))) hbu H0.out hs).mono ?_; rintro e w1 ⟨rfl, xl, nl, rfl⟩; rw [HLF.out]))
  go_returns
  exact ⟨rfl, by (repeat' (first | (with_reducible exact Vg.Grows.refl _) | (with_reducible assumption) | (with_reducible refine Vg.Grows.alloc ?_ _) | (with_reducible refine Vg.Grows.plus ?_ _ _) | (with_reducible refine Vg.Grows.drewN ?_ _) | (with_reducible refine Vg.Grows.drew ?_) | (with_reducible refine Vg.Grows.setCell ?_ ?_ _) | (with_reducible refine Vg.Grows.put ?_ ?_ _) | omega | (simp; omega) | (simp; done)))⟩
theorem ref15_use_zero (en : Int) (hr : Vg.Reads S w (.slice sa L.length sc) L.length (Vg.pcells L)) (hbu : 1 ≤ budget ∧ budget ≤ 1099511627776) (h0 : ∀ x ∈ L, 0 ≤ x.2) (hs : Vg.owed L ≤ budget)
    (h1 : 0 ≤ en) (h2 : en ≤ 4503599627370496) (h3 : last ≤ en) (hl0 : 0 ≤ last) :
    Calls Try.prog 103 #[.agg #[.int .i64 budget, .int .i64 period, .slice sa L.length sc, .int .i64 last], .int .i64 0, .int .i64 en] w fun e w' =>
      e = .returned (.tuple #[.agg #[.int .i64 budget, .int .i64 period, .slice sa L.length sc, .int .i64 en], .int .i64 0]) ∧ Vg.Grows w w' := by
  have ht : Vg.timeB en = true := Vg.timeB_true.2 ⟨by omega, by omega⟩
  have HR := Lib.hid hr
  have H0 := Lib.hid h0
  have ho := Vg.owed_nonneg h0
  obtain ⟨lf, hlf⟩ : ∃ lf, Vg.Srv.left ⟨L, last⟩ budget = lf := ⟨_, rfl⟩
  have hlf0 : 0 ≤ lf := by rw [← hlf]; unfold Vg.Srv.left; dsimp only; split <;> omega
  have HLF := Lib.hid hlf
  clear hlf hr h0
  go_enter Try.func103, Try.ntmps103
  go_wp2_with (first | (go_at_call 131; refine (reftime_any _ _).mono ?_; rintro e w' ⟨rfl, rfl⟩) | (go_at_call 101; refine (ref15_left (S := S) (Vg.Reads.grows HR.out (by (repeat' (first | (with_reducible exact Vg.Grows.refl _) | (with_reducible assumption) | (with_reducible refine Vg.Grows.alloc ?_ _) | (with_reducible refine Vg.Grows.plus ?_ _ _) | (with_reducible refine Vg.Grows.drewN ?_ _) | (with_reducible refine Vg.Grows.drew ?_) | (with_reducible refine Vg.Grows.setCell ?_ ?_ _) | (with_reducible refine Vg.Grows.put ?_ ?_ _) | omega | (simp; omega) | (simp; done))))) hbu H0.out hs).mono ?_; rintro e w1 ⟨rfl, xl, nl, rfl⟩; rw [HLF.out]))
  go_returns
  exact ⟨rfl, by (repeat' (first | (with_reducible exact Vg.Grows.refl _) | (with_reducible assumption) | (with_reducible refine Vg.Grows.alloc ?_ _) | (with_reducible refine Vg.Grows.plus ?_ _ _) | (with_reducible refine Vg.Grows.drewN ?_ _) | (with_reducible refine Vg.Grows.drew ?_) | (with_reducible refine Vg.Grows.setCell ?_ ?_ _) | (with_reducible refine Vg.Grows.put ?_ ?_ _) | omega | (simp; omega) | (simp; done)))⟩
set_option maxHeartbeats 1600000 in
theorem ref15_use_ok (n en : Int) (hr : Vg.Reads S w (.slice sa L.length sc) L.length (Vg.pcells L)) (hS : S ≤ w.heap.size) (hL : L.length ≤ 1000) (hbu : 1 ≤ budget ∧ budget ≤ 1099511627776) (h0 : ∀ x ∈ L, 0 ≤ x.2) (hs : Vg.owed L ≤ budget) (hpe : 1 ≤ period ∧ period ≤ 1099511627776)
    (hn : 0 < n) (h1 : n ≤ en) (h2 : en ≤ 4503599627370496) (h3 : last ≤ en - n) (hl0 : 0 ≤ last) (hroom : n ≤ Vg.Srv.left ⟨L, last⟩ budget) :
    Calls Try.prog 103 #[.agg #[.int .i64 budget, .int .i64 period, .slice sa L.length sc, .int .i64 last], .int .i64 n, .int .i64 en] w fun e w' => ∃ sa' sc',
      Vg.Reads S w' (.slice sa' (Vg.owe (en + period) n L).length sc') (Vg.owe (en + period) n L).length (Vg.pcells (Vg.owe (en + period) n L)) ∧ (∀ k, (Value.slice sa' (Vg.owe (en + period) n L).length sc').ownBlock = some k → w.heap.size ≤ k) ∧
      e = .returned (.tuple #[.agg #[.int .i64 budget, .int .i64 period, .slice sa' (Vg.owe (en + period) n L).length sc', .int .i64 en], .int .i64 0]) ∧ Vg.Grows w w' := by
  have ht : Vg.timeB en = true := Vg.timeB_true.2 ⟨by omega, by omega⟩
  have hsub : IntKind.i64.wrap (en - n) = en - n := by rw [IntWalk.i64_in _ (by omega)]
  have hsum : IntKind.i64.wrap (en + period) = en + period := by rw [IntWalk.i64_in _ (by omega)]
  have HR := Lib.hid hr
  have H0 := Lib.hid h0
  have hcm := hr.cap_le
  have hcm : sc ≤ 9223372036854775807 := hcm
  have ho := Vg.owed_nonneg h0
  have hnb : n ≤ 1099511627776 := by unfold Vg.Srv.left at hroom; dsimp only at hroom; split at hroom <;> omega
  obtain ⟨lf, hlf⟩ : ∃ lf, Vg.Srv.left ⟨L, last⟩ budget = lf := ⟨_, rfl⟩
  rw [hlf] at hroom
  have HLF := Lib.hid hlf
  clear hlf hr h0
  obtain ⟨i0, hi, hz0, hz1, hz2⟩ := info_parts Try.info_rpart
  go_enter Try.func103, Try.ntmps103
  go_wp2_with (first | (go_at_call 131; refine (reftime_any _ _).mono ?_; rintro e w' ⟨rfl, rfl⟩) | (go_at_call 101; refine (ref15_left (S := S) (Vg.Reads.grows HR.out (by (repeat' (first | (with_reducible exact Vg.Grows.refl _) | (with_reducible assumption) | (with_reducible refine Vg.Grows.alloc ?_ _) | (with_reducible refine Vg.Grows.plus ?_ _ _) | (with_reducible refine Vg.Grows.drewN ?_ _) | (with_reducible refine Vg.Grows.drew ?_) | (with_reducible refine Vg.Grows.setCell ?_ ?_ _) | (with_reducible refine Vg.Grows.put ?_ ?_ _) | omega | (simp; omega) | (simp; done))))) hbu H0.out hs).mono ?_; rintro e w1 ⟨rfl, xl, nl, rfl⟩; rw [HLF.out]) | (at_builtin; go_loud (refine Vg.wpList_appR (W0 := _) ((Vg.Grows.refl _).alloc _) rfl (.tmp 40) (.tmp 42) 177 rfl _ (Nat.le_refl _) (by (try simp only [World.size_alloc, Vg.plus_size, Vg.put_size, World.size_setCell, World.size_drew]) <;> omega) 227 i0 (.agg #[.int .i64 0, .int .i64 0]) 2 16 Try.underlying177 hi hz0 hz1 hz2 rfl (by decide) _ 0 [] rfl (Vg.owns_made0 (by (try simp only [World.size_alloc, Vg.plus_size, Vg.put_size, World.size_setCell, World.size_drew]) <;> omega)) S sa L.length sc (Vg.pcells L) rfl (HR.out.grows (by (repeat' (first | (with_reducible exact Vg.Grows.refl _) | (with_reducible assumption) | (with_reducible refine Vg.Grows.alloc ?_ _) | (with_reducible refine Vg.Grows.plus ?_ _ _) | (with_reducible refine Vg.Grows.drewN ?_ _) | (with_reducible refine Vg.Grows.drew ?_) | (with_reducible refine Vg.Grows.setCell ?_ ?_ _) | (with_reducible refine Vg.Grows.put ?_ ?_ _) | omega | (simp; omega) | (simp; done))))) (Vg.pcells_length L) (Vg.pcells_one L) (by unfold maxLen; omega) (by omega) ?_; intro v1 y1 m1 hown1 hsz1; obtain ⟨a1, c1, rfl⟩ := Vg.owns_shape hown1; have HO1 := Lib.hid hown1; clear hown1)))
  obtain ⟨mm, hmm⟩ : ∃ mm, L.length = mm := ⟨_, rfl⟩
  rw [hmm] at HO1
  rw [hmm]
  have HMM := Lib.hid hmm
  clear hmm
  obtain ⟨wx, hwx⟩ : ∃ wx, Vg.plus ((w.alloc (.cells #[.int .i64 budget, .int .i64 period, .slice a1 mm c1, .int .i64 en] 179)).alloc (.cells #[.int .i64 0, .int .i64 0, .slice none 0 0, .int .i64 0] 179)) (xl ++ y1) m1 = wx := ⟨_, rfl⟩
  have b1 : Vg.blk wx w.heap.size = some (.cells #[.int .i64 budget, .int .i64 period, .slice a1 mm c1, .int .i64 en] 179) := by rw [← hwx]; simp [go_sem]
  have b2 : Vg.blk wx (w.heap.size + 1) = some (.cells #[.int .i64 0, .int .i64 0, .slice none 0 0, .int .i64 0] 179) := by rw [← hwx]; simp [go_sem]
  have hgr : Vg.Grows w wx := by rw [← hwx]; (repeat' (first | (with_reducible exact Vg.Grows.refl _) | (with_reducible assumption) | (with_reducible refine Vg.Grows.alloc ?_ _) | (with_reducible refine Vg.Grows.plus ?_ _ _) | (with_reducible refine Vg.Grows.drewN ?_ _) | (with_reducible refine Vg.Grows.drew ?_) | (with_reducible refine Vg.Grows.setCell ?_ ?_ _) | (with_reducible refine Vg.Grows.put ?_ ?_ _) | omega | (simp; omega) | (simp; done)))
  have hq : Vg.Que wx (w.heap.size + 2) 227 2 (.slice a1 mm c1) mm (Vg.pcells L) := by
    have h1 := Vg.Que.of_owns HO1.out
    simp only [Vg.plus_plus, Nat.zero_add, List.nil_append] at h1
    rw [← hwx]
    exact (h1.base (by simp [go_sem]) (by simp [go_sem])).weaken (by simp [go_sem])
  rw [hwx]
  obtain ⟨bx, hbx⟩ : ∃ bx, w.heap.size = bx := ⟨_, rfl⟩
  obtain ⟨br, hbr⟩ : ∃ br, w.heap.size + 1 = br := ⟨_, rfl⟩
  rw [hbr] at b2
  rw [hbx] at b1
  rw [hbr, hbx]
  have n1 : bx ≠ br := by omega
  have n2 : br ≠ bx := by omega
  have n3 : w.heap.size ≤ bx ∧ w.heap.size ≤ br ∧ bx < w.heap.size + 2 ∧ br < w.heap.size + 2 := by omega
  have n4 : mm ≤ 1000 := by rw [← HMM.out]; exact hL
  have c5 := Vg.cells_of b1
  have f5 := Vg.frozen_of b1
  have p5 := Vg.setCell_of b1
  have l5 := Vg.lt_of b1
  have c6 := Vg.cells_of b2
  have f6 := Vg.frozen_of b2
  have p6 := Vg.setCell_of b2
  have l6 := Vg.lt_of b2
  have N5 := Lib.hid b1
  have N6 := Lib.hid b2
  have HQ := Lib.hid hq
  have HBX := Lib.hid hbx
  have HBR := Lib.hid hbr
  clear b1 b2 hwx hsz1 HO1 hq hbx hbr
  rcases List.eq_nil_or_concat L with hL0 | ⟨l, x, hLx⟩
  · have hmz : decide ((0 : Int) < (mm : Int)) = false := by rw [← HMM.out, hL0]; rfl
    have hmz2 : decide (0 < mm) = false := by rw [← HMM.out, hL0]; rfl
    have hmz3 : mm ≤ 0 := by rw [← HMM.out, hL0]; simp
    have ho1 : Vg.owe (en + period) n L = [(en + period, n)] := by rw [hL0]; rfl
    have hp0 : Vg.pcells L = [] := by rw [hL0]; rfl
    have HLL := Lib.hid hL0
    have HOW := Lib.hid ho1
    have HP0 := Lib.hid hp0
    clear hL0 ho1 hp0
    go_quiet (fail)
    clear hmz hmz2
    go_wp2_with (at_builtin; go_loud (refine Vg.wpList_que (w := _) rfl (.tmp 77) (.tmp 84) 177 rfl (w.heap.size + 2) 227 i0 (.agg #[.int .i64 0, .int .i64 0]) 2 16 Try.underlying177 hi hz0 hz1 hz2 rfl (by decide) (.slice a1 mm c1) mm (Vg.pcells L) rfl (HQ.out.grows (by (repeat' (first | (with_reducible exact Vg.Grows.refl _) | (with_reducible assumption) | (with_reducible refine Vg.Grows.alloc ?_ _) | (with_reducible refine Vg.Grows.plus ?_ _ _) | (with_reducible refine Vg.Grows.drewN ?_ _) | (with_reducible refine Vg.Grows.drew ?_) | (with_reducible refine Vg.Grows.setCell ?_ ?_ _) | (with_reducible refine Vg.Grows.put ?_ ?_ _) | omega | (simp; omega) | (simp; done))))) _ 1 1 [.int .i64 (en + period), .int .i64 n] rfl rfl (Vg.two_new (by first | rfl | ((try simp only [World.size_alloc, Vg.plus_size, Vg.put_size, World.size_setCell, World.size_drew, World.heap_drewN]) <;> omega))) (by simp [Value.oneCell']) (by decide) (by unfold maxLen; omega) (by omega) (by have e1 := HBX.out; have e2 := HBR.out; simp only [World.size_alloc, World.heap_drewN]; omega) ?_; intro v2 W1 y2 m2 hq2 hs2 ho2; obtain ⟨a2, c2', rfl⟩ := hq2.shape; have e1 : Vg.blk W1 bx = some (.cells #[.int .i64 budget, .int .i64 period, .slice a1 mm c1, .int .i64 en] 179) := (hs2.block _ (fun hh => by have := (HQ.out.lt _ hh).1; have e1 := HBX.out; have e2 := HBR.out; omega)).trans ((Vg.alloc_heap_past l5).trans N5.out); have e2 : Vg.blk W1 br = some (.cells #[.int .i64 0, .int .i64 0, .slice none 0 0, .int .i64 0] 179) := (hs2.block _ (fun hh => by have := (HQ.out.lt _ hh).1; have e1 := HBX.out; have e2 := HBR.out; omega)).trans ((Vg.alloc_heap_past l6).trans N6.out); have d5 := Vg.cells_of e1; have g5 := Vg.frozen_of e1; have q5 := Vg.setCell_of e1; have k5 := Vg.lt_of e1; have d6 := Vg.cells_of e2; have g6 := Vg.frozen_of e2; have q6 := Vg.setCell_of e2; have k6 := Vg.lt_of e2; have hgw : Vg.Grows w W1 := hs2.grows (by (repeat' (first | (with_reducible exact Vg.Grows.refl _) | (with_reducible assumption) | (with_reducible refine Vg.Grows.alloc ?_ _) | (with_reducible refine Vg.Grows.plus ?_ _ _) | (with_reducible refine Vg.Grows.drewN ?_ _) | (with_reducible refine Vg.Grows.drew ?_) | (with_reducible refine Vg.Grows.setCell ?_ ?_ _) | (with_reducible refine Vg.Grows.put ?_ ?_ _) | omega | (simp; omega) | (simp; done)))) (fun k hk => by have := (HQ.out.lt _ hk).1; omega); have HS2 := Lib.hid hs2; have HQ2 := Lib.hid hq2; clear e1 e2 hs2 ho2 hq2))
    refine bodyPost_ret (by simp [results, Try.results103, go_sem, n1, n2, k5, k6] <;> try rfl) rfl ?_
    rw [HOW.out]
    have e1 := HBX.out
    have hz0' : mm = 0 := by omega
    refine ⟨a2, c2', ?_⟩
    · have h1 := HQ2.out
      rw [HP0.out, hz0'] at h1
      have h2 : Vg.Que (Vg.plus (Vg.put (Vg.put W1 br (.cells #[.int .i64 budget, .int .i64 period, .slice a2 (0 + 1) c2', .int .i64 en] 179)) bx (.cells #[.int .i64 budget, .int .i64 period, .slice a2 (0 + 1) c2', .int .i64 en] 179)) y2 m2) (w.heap.size + 2) 227 2 _ _ _ := h1.kept fun k hk => by
        have := (h1.lt k hk).1
        rw [← Vg.put_plus (by rw [Vg.put_size]; exact k5), Vg.put_heap_other (by omega), ← Vg.put_plus k6, Vg.put_heap_other (by omega)]
      rw [hz0']
      refine ⟨h2.reads.weaken (by omega), ?_, by simp, by (repeat' (first | (with_reducible exact Vg.Grows.refl _) | (with_reducible assumption) | (with_reducible refine Vg.Grows.alloc ?_ _) | (with_reducible refine Vg.Grows.plus ?_ _ _) | (with_reducible refine Vg.Grows.drewN ?_ _) | (with_reducible refine Vg.Grows.drew ?_) | (with_reducible refine Vg.Grows.setCell ?_ ?_ _) | (with_reducible refine Vg.Grows.put ?_ ?_ _) | omega | (simp; omega) | (simp; done)))⟩
      intro k hk
      have := (h1.lt k hk).1
      omega
  · have hlen : l.length + 1 = mm := by rw [← HMM.out, hLx]; simp
    have hsubm : IntKind.i64.wrap ((mm : Int) - 1) = l.length := by rw [IntWalk.i64_in _ (by omega)]; omega
    have hm1 : decide ((0 : Int) < (mm : Int)) = true := by rw [decide_eq_true_iff]; omega
    have hm2 : decide (0 < mm) = true := by rw [decide_eq_true_iff]; omega
    have hm3 : 0 < mm := by omega
    have hlm : l.length < mm := by omega
    have hlm2 : (l.length : Int) < (mm : Int) := by omega
    have hlm3 : (0 : Int) ≤ (l.length : Int) := by omega
    obtain ⟨g, off, rfl, hg, hc, hm, hx⟩ := HQ.out.reads.open (by rw [Vg.pcells_length, HMM.out]; omega)
    have hcm1 : c1 ≤ 9223372036854775807 := hm
    have hget := Vg.pcells_get L l.length (by rw [HMM.out]; omega)
    have hLg : L[l.length]? = some x := by rw [hLx]; simp
    rw [List.getElem?_eq_getElem (by rw [HMM.out]; omega), Option.some.injEq] at hLg
    rw [hLg] at hget
    have h0 := hx (l.length * 2) (by rw [Vg.pcells_length, HMM.out]; omega)
    have h1' := hx (l.length * 2 + 1) (by rw [Vg.pcells_length, HMM.out]; omega)
    rw [← Nat.add_assoc] at h1'
    have h0' : wx.cell? ⟨g, off + l.length * 2, none⟩ = some (.int .i64 x.1) := by rw [h0, ← hget.1, List.getElem?_eq_getElem]
    have h1'' : wx.cell? ⟨g, off + l.length * 2 + 1, none⟩ = some (.int .i64 x.2) := by rw [h1', ← hget.2, List.getElem?_eq_getElem]
    have hx2 : 0 ≤ x.2 ∧ x.2 ≤ budget := by
      have hxm : x ∈ L := by rw [hLx]; simp
      exact ⟨H0.out x hxm, Int.le_trans (Vg.owed_mem H0.out x hxm) hs⟩
    have hsum2 : IntKind.i64.wrap (x.2 + n) = x.2 + n := by rw [IntWalk.i64_in _ (by omega)]
    have hgb := (HQ.out.lt g rfl).1
    have n5 : g ≠ bx := by omega
    have n6 : g ≠ br := by omega
    have n7 : bx ≠ g := by omega
    have n8 : br ≠ g := by omega
    obtain ⟨cur, hcur⟩ : ∃ cur, Vg.blk wx g = some (.cells cur 227) := by
      rcases HQ.out.2 with ⟨h0, _⟩ | ⟨g', o', cap', cur, hv, hb, hgx, _⟩
      · cases h0
      · simp only [Value.slice.injEq, Option.some.injEq, Addr.mk.injEq] at hv
        obtain ⟨⟨rfl, rfl, _⟩, _, rfl⟩ := hv
        exact ⟨cur, hgx⟩
    have lg := Vg.lt_of hcur
    have f7 := Vg.frozen_of hcur
    have p7 := Vg.setCell_of hcur
    have hwhole := Lib.hid (Vg.owe_snoc (en + period) n x l)
    have HLX := Lib.hid hLx
    have HLEN := Lib.hid hlen
    have HCUR := Lib.hid hcur
    have HX2 := Lib.hid hx2
    clear hLx hlen hget hLg h0 h1' hx hcur
    by_cases hat : x.1 = en + period
    · have hab : (x.1 == en + period) = true := by simp [hat]
      have HAT := Lib.hid hat
      clear hat
      go_quiet (fail)
      clear hm1 hm2
      go_wp2
      refine bodyPost_ret (by simp [results, Try.results103, go_sem, n1, n2, n5, n6, n7, n8, l5, l6, lg] <;> try rfl) rfl ?_
      have hw := hwhole.out
      rw [if_pos HAT.out] at hw
      have eL : Vg.owe (en + period) n L = l ++ [(x.1, x.2 + n)] := by rw [HLX.out, List.concat_eq_append]; exact hw
      have hq3 := Vg.Que.set (j := l.length * 2 + 1) (u := .int .i64 (x.2 + n)) HQ.out (by rw [Vg.pcells_length, HMM.out]; omega)
      have hp3 : (Vg.pcells L).set (l.length * 2 + 1) (.int .i64 (x.2 + n)) = Vg.pcells (l ++ [(x.1, x.2 + n)]) := by rw [HLX.out, List.concat_eq_append, Vg.pcells_set]
      have hl3 : (l ++ [(x.1, x.2 + n)]).length = mm := by have := HLEN.out; simp; omega
      rw [eL, hl3]
      refine ⟨some ⟨g, off, none⟩, c1, ?_, (fun k hk => by have hk' : g = k := (Option.some.inj hk); omega), by first | rfl | simp, by (repeat' (first | (with_reducible exact Vg.Grows.refl _) | (with_reducible assumption) | (with_reducible refine Vg.Grows.alloc ?_ _) | (with_reducible refine Vg.Grows.plus ?_ _ _) | (with_reducible refine Vg.Grows.drewN ?_ _) | (with_reducible refine Vg.Grows.drew ?_) | (with_reducible refine Vg.Grows.setCell ?_ ?_ _) | (with_reducible refine Vg.Grows.put ?_ ?_ _) | omega | (simp; omega) | (simp; done)))⟩
      have hq4 := hq3.1
      rw [hp3, ← Nat.add_assoc, p7] at hq4
      have hq5 : Vg.Que ((Vg.put (Vg.put wx br (.cells #[.int .i64 budget, .int .i64 period, .slice (some ⟨g, off, none⟩) mm c1, .int .i64 en] 179)) g (.cells (cur.setIfInBounds (off + l.length * 2 + 1) (.int .i64 (x.2 + n))) 227)).drewN nq) _ _ _ _ _ _ := hq4.kept fun k hk => by
        have hk' : g = k := by simpa [Value.ownBlock] using hk
        subst hk'
        rw [World.heap_drewN, Vg.put_heap_same (by rw [Vg.put_size]; exact lg), Vg.put_heap_same lg]
      exact hq5.reads.weaken (by omega)
    · have hab : (x.1 == en + period) = false := by simp [hat]
      have HAT := Lib.hid hat
      clear hat
      go_quiet (fail)
      clear hm1 hm2
      go_wp2_with (at_builtin; go_loud (refine Vg.wpList_que (w := _) rfl (.tmp 77) (.tmp 84) 177 rfl (w.heap.size + 2) 227 i0 (.agg #[.int .i64 0, .int .i64 0]) 2 16 Try.underlying177 hi hz0 hz1 hz2 rfl (by decide) (.slice (some ⟨g, off, none⟩) mm c1) mm (Vg.pcells L) rfl (HQ.out.grows (by (repeat' (first | (with_reducible exact Vg.Grows.refl _) | (with_reducible assumption) | (with_reducible refine Vg.Grows.alloc ?_ _) | (with_reducible refine Vg.Grows.plus ?_ _ _) | (with_reducible refine Vg.Grows.drewN ?_ _) | (with_reducible refine Vg.Grows.drew ?_) | (with_reducible refine Vg.Grows.setCell ?_ ?_ _) | (with_reducible refine Vg.Grows.put ?_ ?_ _) | omega | (simp; omega) | (simp; done))))) _ 1 1 [.int .i64 (en + period), .int .i64 n] rfl rfl (Vg.two_new (by first | rfl | ((try simp only [World.size_alloc, Vg.plus_size, Vg.put_size, World.size_setCell, World.size_drew, World.heap_drewN]) <;> omega))) (by simp [Value.oneCell']) (by decide) (by unfold maxLen; omega) (by omega) (by have e1 := HBX.out; have e2 := HBR.out; simp only [World.size_alloc, World.heap_drewN]; omega) ?_; intro v2 W1 y2 m2 hq2 hs2 ho2; obtain ⟨a2, c2', rfl⟩ := hq2.shape; have e1 : Vg.blk W1 bx = some (.cells #[.int .i64 budget, .int .i64 period, .slice (some ⟨g, off, none⟩) mm c1, .int .i64 en] 179) := (hs2.block _ (fun hh => by have := (HQ.out.lt _ hh).1; have e1 := HBX.out; have e2 := HBR.out; omega)).trans ((Vg.alloc_heap_past l5).trans N5.out); have e2 : Vg.blk W1 br = some (.cells #[.int .i64 0, .int .i64 0, .slice none 0 0, .int .i64 0] 179) := (hs2.block _ (fun hh => by have := (HQ.out.lt _ hh).1; have e1 := HBX.out; have e2 := HBR.out; omega)).trans ((Vg.alloc_heap_past l6).trans N6.out); have d5 := Vg.cells_of e1; have g5 := Vg.frozen_of e1; have q5 := Vg.setCell_of e1; have k5 := Vg.lt_of e1; have d6 := Vg.cells_of e2; have g6 := Vg.frozen_of e2; have q6 := Vg.setCell_of e2; have k6 := Vg.lt_of e2; have hgw : Vg.Grows w W1 := hs2.grows (by (repeat' (first | (with_reducible exact Vg.Grows.refl _) | (with_reducible assumption) | (with_reducible refine Vg.Grows.alloc ?_ _) | (with_reducible refine Vg.Grows.plus ?_ _ _) | (with_reducible refine Vg.Grows.drewN ?_ _) | (with_reducible refine Vg.Grows.drew ?_) | (with_reducible refine Vg.Grows.setCell ?_ ?_ _) | (with_reducible refine Vg.Grows.put ?_ ?_ _) | omega | (simp; omega) | (simp; done)))) (fun k hk => by have := (HQ.out.lt _ hk).1; omega); have HS2 := Lib.hid hs2; have HQ2 := Lib.hid hq2; clear e1 e2 hs2 ho2 hq2))
      refine bodyPost_ret (by simp [results, Try.results103, go_sem, n1, n2, k5, k6] <;> try rfl) rfl ?_
      have hw := hwhole.out
      rw [if_neg HAT.out] at hw
      have eL : Vg.owe (en + period) n L = L ++ [(en + period, n)] := by rw [HLX.out, List.concat_eq_append]; exact hw
      have hl3 : (L ++ [(en + period, n)]).length = mm + 1 := by rw [List.length_append, HMM.out]; rfl
      rw [eL, hl3]
      refine ⟨a2, c2', ?_, (fun k hk => by have := (HQ2.out.lt k hk).1; omega), by first | rfl | simp, by (repeat' (first | (with_reducible exact Vg.Grows.refl _) | (with_reducible assumption) | (with_reducible refine Vg.Grows.alloc ?_ _) | (with_reducible refine Vg.Grows.plus ?_ _ _) | (with_reducible refine Vg.Grows.drewN ?_ _) | (with_reducible refine Vg.Grows.drew ?_) | (with_reducible refine Vg.Grows.setCell ?_ ?_ _) | (with_reducible refine Vg.Grows.put ?_ ?_ _) | omega | (simp; omega) | (simp; done)))⟩
      have h1 := HQ2.out
      have h2 : Vg.Que (Vg.plus (Vg.put (Vg.put W1 br (.cells #[.int .i64 budget, .int .i64 period, .slice a2 (mm + 1) c2', .int .i64 en] 179)) bx (.cells #[.int .i64 budget, .int .i64 period, .slice a2 (mm + 1) c2', .int .i64 en] 179)) y2 m2) (w.heap.size + 2) 227 2 _ _ _ := h1.kept fun k hk => by
        have := (h1.lt k hk).1
        rw [← Vg.put_plus (by rw [Vg.put_size]; exact k5), Vg.put_heap_other (by omega), ← Vg.put_plus k6, Vg.put_heap_other (by omega)]
      rw [Vg.pcells_append]
      exact h2.reads.weaken (by omega)
theorem ref15_use_any (n en : Int) (hr : Vg.Reads S w (.slice sa L.length sc) L.length (Vg.pcells L)) (hS : S ≤ w.heap.size) (hinv : Vg.Srv.Inv ⟨L, last⟩ budget) (hp : 1 ≤ period ∧ period ≤ 1099511627776) (hbu : 1 ≤ budget ∧ budget ≤ 1099511627776) (hen : -9223372036854775808 ≤ en ∧ en ≤ 9223372036854775807) :
    Calls Try.prog 103 #[.agg #[.int .i64 budget, .int .i64 period, .slice sa L.length sc, .int .i64 last], .int .i64 n, .int .i64 en] w fun e w' => ∃ L' last' sa' sc', (Vg.Srv.use ⟨L, last⟩ budget period n en).1 = ⟨L', last'⟩ ∧
      Vg.Reads S w' (.slice sa' L'.length sc') L'.length (Vg.pcells L') ∧ (∀ k, (Value.slice sa' L'.length sc').ownBlock = some k → (Value.slice sa L.length sc).ownBlock = some k ∨ w.heap.size ≤ k) ∧
      e = .returned (.tuple #[.agg #[.int .i64 budget, .int .i64 period, .slice sa' L'.length sc', .int .i64 last'], .int .i64 (Vg.Srv.use ⟨L, last⟩ budget period n en).2]) ∧ Vg.Grows w w' := by
  obtain ⟨i1, i2, i3, i4, i5⟩ := hinv
  have i1 : 0 ≤ last := i1
  have i2 : last ≤ 4503599627370496 := i2
  have i3 : L.length ≤ 16 := i3
  have i4 : ∀ x ∈ L, 0 ≤ x.1 ∧ x.1 ≤ 4504699138998272 ∧ 0 ≤ x.2 := i4
  have i5 : Vg.owed L ≤ budget := i5
  by_cases hno : n < 0 ∨ en < n ∨ 4503599627370496 < en ∨ en - n < last
  · have hu : Vg.Srv.use ⟨L, last⟩ budget period n en = (⟨L, last⟩, 1) := by unfold Vg.Srv.use; rw [if_pos hno]
    rw [hu]
    refine (ref15_use_no n en hno i1 hen).mono ?_
    rintro e w' ⟨rfl, hg⟩
    exact ⟨L, last, sa, sc, rfl, hr.grows hg, fun k hk => .inl hk, rfl, hg⟩
  · by_cases hfull : Vg.Srv.left ⟨L, last⟩ budget < n
    · have hu : Vg.Srv.use ⟨L, last⟩ budget period n en = (⟨L, last⟩, 5) := by unfold Vg.Srv.use; rw [if_neg hno, if_pos hfull]
      rw [hu]
      refine (ref15_use_full n en hr hbu (fun x hx => (i4 x hx).2.2) i5 (by omega) (by omega) (by omega) (by omega) i1 hfull).mono ?_
      rintro e w' ⟨rfl, hg⟩
      exact ⟨L, last, sa, sc, rfl, hr.grows hg, fun k hk => .inl hk, rfl, hg⟩
    · have hu : Vg.Srv.use ⟨L, last⟩ budget period n en = (⟨if n = 0 then L else Vg.owe (en + period) n L, en⟩, 0) := by unfold Vg.Srv.use; rw [if_neg hno, if_neg hfull]
      rw [hu]
      by_cases hz : n = 0
      · subst hz
        rw [if_pos rfl]
        refine (ref15_use_zero en hr hbu (fun x hx => (i4 x hx).2.2) i5 (by omega) (by omega) (by omega) i1).mono ?_
        rintro e w' ⟨rfl, hg⟩
        exact ⟨L, en, sa, sc, rfl, hr.grows hg, fun k hk => .inl hk, rfl, hg⟩
      · rw [if_neg hz]
        refine (ref15_use_ok n en hr hS (by omega) hbu (fun x hx => (i4 x hx).2.2) i5 hp (by omega) (by omega) (by omega) (by omega) i1 (by omega)).mono ?_
        rintro e w' ⟨sa', sc', hr', ho', rfl, hg⟩
        exact ⟨_, en, sa', sc', rfl, hr', fun k hk => .inr (ho' k hk), rfl, hg⟩
theorem ref15_refill_any (now : Int) (hr : Vg.Reads S w (.slice sa L.length sc) L.length (Vg.pcells L)) (hS : S ≤ w.heap.size) (hinv : Vg.Srv.Inv ⟨L, last⟩ budget) (hbu : 1 ≤ budget ∧ budget ≤ 1099511627776) :
    Calls Try.prog 106 #[.agg #[.int .i64 budget, .int .i64 period, .slice sa L.length sc, .int .i64 last], .int .i64 now] w fun e w' => ∃ L' last' sa' sc', (Vg.Srv.refill ⟨L, last⟩ now).1 = ⟨L', last'⟩ ∧
      Vg.Reads S w' (.slice sa' L'.length sc') L'.length (Vg.pcells L') ∧ (∀ k, (Value.slice sa' L'.length sc').ownBlock = some k → (Value.slice sa L.length sc).ownBlock = some k ∨ w.heap.size ≤ k) ∧
      e = .returned (.tuple #[.agg #[.int .i64 budget, .int .i64 period, .slice sa' L'.length sc', .int .i64 last'], .int .i64 (Vg.Srv.refill ⟨L, last⟩ now).2.1, .int .i64 (Vg.Srv.refill ⟨L, last⟩ now).2.2]) ∧ Vg.Grows w w' := by
  obtain ⟨i1, i2, i3, i4, i5⟩ := hinv
  have i1 : 0 ≤ last := i1
  have i2 : last ≤ 4503599627370496 := i2
  have i3 : L.length ≤ 16 := i3
  have i4 : ∀ x ∈ L, 0 ≤ x.1 ∧ x.1 ≤ 4504699138998272 ∧ 0 ≤ x.2 := i4
  have i5 : Vg.owed L ≤ budget := i5
  by_cases hno : now < last ∨ 4503599627370496 < now
  · have hu : Vg.Srv.refill ⟨L, last⟩ now = (⟨L, last⟩, 0, 1) := by unfold Vg.Srv.refill; rw [if_pos hno]
    rw [hu]
    refine (ref15_refill_no now hno i1).mono ?_
    rintro e w' ⟨rfl, hg⟩
    exact ⟨L, last, sa, sc, rfl, hr.grows hg, fun k hk => .inl hk, rfl, hg⟩
  · have hu : Vg.Srv.refill ⟨L, last⟩ now = (⟨(Vg.due now L).2, now⟩, (Vg.due now L).1, 0) := by unfold Vg.Srv.refill; rw [if_neg hno]
    rw [hu]
    refine (ref15_refill_ok now hr (by omega) (by omega) (by omega) i1 (fun x hx => ⟨(i4 x hx).2.2, by have := Vg.owed_mem (fun y hy => (i4 y hy).2.2) x hx; omega⟩)).mono ?_
    rintro e w' ⟨sa', sc', hr', ho', rfl, hg⟩
    exact ⟨_, _, sa', sc', rfl, hr', fun k hk => .inl (ho' k hk), rfl, hg⟩
end
end Go.Proofs.Ytiinhofmhoplfaa
