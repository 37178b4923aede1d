/- Tick, both sides. -/
import Derived.Test.YtfkkkcihoejjgaaStepA
set_option linter.unusedSimpArgs false
set_option linter.unusedVariables false
set_option maxHeartbeats 1000000
set_option maxRecDepth 100000
namespace Vg
open Go Go.RowKit
def ckTick (k : Ck) (m : Int) : Ck × Int :=
  if (ckNow k.c k.t).2 ≠ 0 then (⟨0, 0, false, false, 0⟩, 2) else
  if 2147483648 ≤ m then (k, 1) else
  if 4503599627370496 < (ckNow k.c k.t).1 + m then (k, 6) else
  if 2147483648 ≤ (ckNow k.c k.t).1 + m - k.t then (k, 7) else (ckOf (go ⟨k.c, k.n, k.a, k.l⟩ m) k.t, 0)
end Vg
namespace Go.Proofs.Ytfkkkcihoejjgaa
open Go.ChangeShapes Go.WideShapes Go.ChangeAt Go.RowKit Go.Shelf
theorem clock_tick (c n : Int) (ar la : Bool) (last m : Int) (w : World) (hc : 0 ≤ c ∧ c ≤ 4294967295) (h0 : 0 ≤ m) (hm : m ≤ 4294967295) :
    Calls Try.prog 23 #[ckV c n ar la last, .int .u32 m] w fun e w' => e = .returned (.tuple #[ckVk (Vg.ckTick ⟨c, n, ar, la, last⟩ m).1, .int .i64 (Vg.ckTick ⟨c, n, ar, la, last⟩ m).2]) ∧ Vg.Grows w w' := by
  obtain ⟨⟨t, no⟩, hx⟩ : ∃ p, Vg.ckNow c last = p := ⟨_, rfl⟩
  by_cases h : no = 0
  · subst h
    have hl0 := (Vg.ckNow_ok hx).1.1
    have hl1 := (Vg.ckNow_ok hx).1.2
    have ht0 := (Vg.ckNow_ok hx).2.1
    have ht1 := (Vg.ckNow_ok hx).2.2.1
    by_cases h1 : 2147483648 ≤ m
    · have hv : Vg.ckTick ⟨c, n, ar, la, last⟩ m = (⟨c, n, ar, la, last⟩, 1) := by unfold Vg.ckTick; rw [hx]; simp [h1]
      rw [hv]
      have H_hx := Lib.hid hx; clear hx; have H_hv := Lib.hid hv; clear hv
      go_enter Try.func23, Try.ntmps23
      go_wp2_with (first | (go_at_call 19; refine (clock_now c n ar la last _ hc).mono ?_; rintro e w1 ⟨rfl, xa, na, rfl⟩; rw [H_hx.out]))
      go_returns
      exact ⟨rfl, by (repeat' (first | (with_reducible exact Vg.Grows.refl _) | (with_reducible assumption) | (with_reducible refine Vg.Grows.alloc ?_ _) | (with_reducible refine Vg.Grows.plus ?_ _ _) | (with_reducible refine Vg.Grows.drewN ?_ _) | (with_reducible refine Vg.Grows.drew ?_) | (with_reducible refine Vg.Grows.setCell ?_ ?_ _) | (with_reducible refine Vg.Grows.put ?_ ?_ _) | omega | (simp; omega) | (simp; done)))⟩
    · by_cases h2 : 4503599627370496 < t + m
      · have hv : Vg.ckTick ⟨c, n, ar, la, last⟩ m = (⟨c, n, ar, la, last⟩, 6) := by unfold Vg.ckTick; rw [hx]; simp [h1, h2]
        rw [hv]
        have hb := True.intro
        have H_hx := Lib.hid hx; clear hx; have H_hv := Lib.hid hv; clear hv; have H_hb := Lib.hid hb; clear hb
        go_enter Try.func23, Try.ntmps23
        go_wp2_with (first | (go_at_call 19; refine (clock_now c n ar la last _ hc).mono ?_; rintro e w1 ⟨rfl, xa, na, rfl⟩; rw [H_hx.out]))
        go_returns
        exact ⟨rfl, by (repeat' (first | (with_reducible exact Vg.Grows.refl _) | (with_reducible assumption) | (with_reducible refine Vg.Grows.alloc ?_ _) | (with_reducible refine Vg.Grows.plus ?_ _ _) | (with_reducible refine Vg.Grows.drewN ?_ _) | (with_reducible refine Vg.Grows.drew ?_) | (with_reducible refine Vg.Grows.setCell ?_ ?_ _) | (with_reducible refine Vg.Grows.put ?_ ?_ _) | omega | (simp; omega) | (simp; done)))⟩
      · by_cases h3 : 2147483648 ≤ t + m - last
        · have hv : Vg.ckTick ⟨c, n, ar, la, last⟩ m = (⟨c, n, ar, la, last⟩, 7) := by unfold Vg.ckTick; rw [hx]; simp [h1, h2, h3]
          rw [hv]
          have hb := True.intro
          have H_hx := Lib.hid hx; clear hx; have H_hv := Lib.hid hv; clear hv; have H_hb := Lib.hid hb; clear hb
          go_enter Try.func23, Try.ntmps23
          go_wp2_with (first | (go_at_call 19; refine (clock_now c n ar la last _ hc).mono ?_; rintro e w1 ⟨rfl, xa, na, rfl⟩; rw [H_hx.out]))
          go_returns
          exact ⟨rfl, by (repeat' (first | (with_reducible exact Vg.Grows.refl _) | (with_reducible assumption) | (with_reducible refine Vg.Grows.alloc ?_ _) | (with_reducible refine Vg.Grows.plus ?_ _ _) | (with_reducible refine Vg.Grows.drewN ?_ _) | (with_reducible refine Vg.Grows.drew ?_) | (with_reducible refine Vg.Grows.setCell ?_ ?_ _) | (with_reducible refine Vg.Grows.put ?_ ?_ _) | omega | (simp; omega) | (simp; done)))⟩
        · have hv : Vg.ckTick ⟨c, n, ar, la, last⟩ m = (Vg.ckOf (Vg.go ⟨c, n, ar, la⟩ m) last, 0) := by unfold Vg.ckTick; rw [hx]; simp [h1, h2, h3]
          rw [hv]
          obtain ⟨c1, n1, a1, l1, hg, hg'⟩ := Vg.adv_split ⟨c, n, ar, la⟩ m (by omega) (by omega)
          rw [hg']
          unfold Vg.ckOf
          have hb := True.intro
          have H_hx := Lib.hid hx; clear hx; have H_hv := Lib.hid hv; clear hv; have H_hg := Lib.hid hg; clear hg; have H_hg' := Lib.hid hg'; clear hg'; have H_hb := Lib.hid hb; clear hb
          go_enter Try.func23, Try.ntmps23
          go_wp2_with (first | (go_at_call 19; refine (clock_now c n ar la last _ hc).mono ?_; rintro e w1 ⟨rfl, xa, na, rfl⟩; rw [H_hx.out]) | (go_at_call 42; refine (hw_advance c n ar la m _).mono ?_; rintro e w1 ⟨rfl, xb, nb, rfl⟩; rw [H_hg.out]))
          go_returns
          exact ⟨rfl, by (repeat' (first | (with_reducible exact Vg.Grows.refl _) | (with_reducible assumption) | (with_reducible refine Vg.Grows.alloc ?_ _) | (with_reducible refine Vg.Grows.plus ?_ _ _) | (with_reducible refine Vg.Grows.drewN ?_ _) | (with_reducible refine Vg.Grows.drew ?_) | (with_reducible refine Vg.Grows.setCell ?_ ?_ _) | (with_reducible refine Vg.Grows.put ?_ ?_ _) | omega | (simp; omega) | (simp; done)))⟩
  · have hx2 := Vg.ckNow_no (c := c) (last := last) (by rw [hx]; exact h)
    have hv : Vg.ckTick ⟨c, n, ar, la, last⟩ m = (⟨0, 0, false, false, 0⟩, 2) := by unfold Vg.ckTick; rw [hx2]; simp
    rw [hv]
    clear hx h
    have H_hx2 := Lib.hid hx2; clear hx2; have H_hv := Lib.hid hv; clear hv
    go_enter Try.func23, Try.ntmps23
    go_wp2_with (first | (go_at_call 19; refine (clock_now c n ar la last _ hc).mono ?_; rintro e w1 ⟨rfl, xa, na, rfl⟩; rw [H_hx2.out]))
    go_returns
    exact ⟨rfl, by (repeat' (first | (with_reducible exact Vg.Grows.refl _) | (with_reducible assumption) | (with_reducible refine Vg.Grows.alloc ?_ _) | (with_reducible refine Vg.Grows.plus ?_ _ _) | (with_reducible refine Vg.Grows.drewN ?_ _) | (with_reducible refine Vg.Grows.drew ?_) | (with_reducible refine Vg.Grows.setCell ?_ ?_ _) | (with_reducible refine Vg.Grows.put ?_ ?_ _) | omega | (simp; omega) | (simp; done)))⟩
theorem ref03_tick (c n : Int) (ar la : Bool) (last m : Int) (w : World) (hc : 0 ≤ c ∧ c ≤ 4294967295) (hn : 0 ≤ n ∧ n ≤ 4294967295) (h0 : 0 ≤ m) (hm : m ≤ 4294967295) :
    Calls Try.prog 24 #[ckV c n ar la last, .int .u32 m] w fun e w' => e = .returned (.tuple #[ckVk (Vg.ckTick ⟨c, n, ar, la, last⟩ m).1, .int .i64 (Vg.ckTick ⟨c, n, ar, la, last⟩ m).2]) ∧ Vg.Grows w w' := by
  obtain ⟨⟨t, no⟩, hx⟩ : ∃ p, Vg.ckNow c last = p := ⟨_, rfl⟩
  by_cases h : no = 0
  · subst h
    have hl0 := (Vg.ckNow_ok hx).1.1
    have hl1 := (Vg.ckNow_ok hx).1.2
    have ht0 := (Vg.ckNow_ok hx).2.1
    have ht1 := (Vg.ckNow_ok hx).2.2.1
    by_cases h1 : 2147483648 ≤ m
    · have hv : Vg.ckTick ⟨c, n, ar, la, last⟩ m = (⟨c, n, ar, la, last⟩, 1) := by unfold Vg.ckTick; rw [hx]; simp [h1]
      rw [hv]
      have H_hx := Lib.hid hx; clear hx; have H_hv := Lib.hid hv; clear hv
      go_enter Try.func24, Try.ntmps24
      go_wp2_with (first | (go_at_call 20; refine (ref03_now c n ar la last _ hc).mono ?_; rintro e w1 ⟨rfl, xa, na, rfl⟩; rw [H_hx.out]) | (go_at_call 45; refine (reftime_any _ _).mono ?_; rintro e w' ⟨rfl, rfl⟩))
      go_returns
      exact ⟨rfl, by (repeat' (first | (with_reducible exact Vg.Grows.refl _) | (with_reducible assumption) | (with_reducible refine Vg.Grows.alloc ?_ _) | (with_reducible refine Vg.Grows.plus ?_ _ _) | (with_reducible refine Vg.Grows.drewN ?_ _) | (with_reducible refine Vg.Grows.drew ?_) | (with_reducible refine Vg.Grows.setCell ?_ ?_ _) | (with_reducible refine Vg.Grows.put ?_ ?_ _) | omega | (simp; omega) | (simp; done)))⟩
    · by_cases h2 : 4503599627370496 < t + m
      · have hv : Vg.ckTick ⟨c, n, ar, la, last⟩ m = (⟨c, n, ar, la, last⟩, 6) := by unfold Vg.ckTick; rw [hx]; simp [h1, h2]
        rw [hv]
        have hb : Vg.timeB (t + m) = false := Vg.timeB_false.2 (by omega)
        have H_hx := Lib.hid hx; clear hx; have H_hv := Lib.hid hv; clear hv; have H_hb := Lib.hid hb; clear hb
        go_enter Try.func24, Try.ntmps24
        go_wp2_with (first | (go_at_call 20; refine (ref03_now c n ar la last _ hc).mono ?_; rintro e w1 ⟨rfl, xa, na, rfl⟩; rw [H_hx.out]) | (go_at_call 45; refine (reftime_any _ _).mono ?_; rintro e w1 ⟨rfl, xt, nt, rfl⟩; rw [H_hb.out]))
        go_returns
        exact ⟨rfl, by (repeat' (first | (with_reducible exact Vg.Grows.refl _) | (with_reducible assumption) | (with_reducible refine Vg.Grows.alloc ?_ _) | (with_reducible refine Vg.Grows.plus ?_ _ _) | (with_reducible refine Vg.Grows.drewN ?_ _) | (with_reducible refine Vg.Grows.drew ?_) | (with_reducible refine Vg.Grows.setCell ?_ ?_ _) | (with_reducible refine Vg.Grows.put ?_ ?_ _) | omega | (simp; omega) | (simp; done)))⟩
      · by_cases h3 : 2147483648 ≤ t + m - last
        · have hv : Vg.ckTick ⟨c, n, ar, la, last⟩ m = (⟨c, n, ar, la, last⟩, 7) := by unfold Vg.ckTick; rw [hx]; simp [h1, h2, h3]
          rw [hv]
          have hb : Vg.timeB (t + m) = true := Vg.timeB_true.2 ⟨by omega, by omega⟩
          have H_hx := Lib.hid hx; clear hx; have H_hv := Lib.hid hv; clear hv; have H_hb := Lib.hid hb; clear hb
          go_enter Try.func24, Try.ntmps24
          go_wp2_with (first | (go_at_call 20; refine (ref03_now c n ar la last _ hc).mono ?_; rintro e w1 ⟨rfl, xa, na, rfl⟩; rw [H_hx.out]) | (go_at_call 45; refine (reftime_any _ _).mono ?_; rintro e w1 ⟨rfl, xt, nt, rfl⟩; rw [H_hb.out]))
          go_returns
          exact ⟨rfl, by (repeat' (first | (with_reducible exact Vg.Grows.refl _) | (with_reducible assumption) | (with_reducible refine Vg.Grows.alloc ?_ _) | (with_reducible refine Vg.Grows.plus ?_ _ _) | (with_reducible refine Vg.Grows.drewN ?_ _) | (with_reducible refine Vg.Grows.drew ?_) | (with_reducible refine Vg.Grows.setCell ?_ ?_ _) | (with_reducible refine Vg.Grows.put ?_ ?_ _) | omega | (simp; omega) | (simp; done)))⟩
        · have hv : Vg.ckTick ⟨c, n, ar, la, last⟩ m = (Vg.ckOf (Vg.go ⟨c, n, ar, la⟩ m) last, 0) := by unfold Vg.ckTick; rw [hx]; simp [h1, h2, h3]
          rw [hv]
          obtain ⟨c1, n1, a1, l1, hg, hg'⟩ := Vg.adv_split ⟨c, n, ar, la⟩ m (by omega) (by omega)
          rw [hg']
          unfold Vg.ckOf
          have hb : Vg.timeB (t + m) = true := Vg.timeB_true.2 ⟨by omega, by omega⟩
          have H_hx := Lib.hid hx; clear hx; have H_hv := Lib.hid hv; clear hv; have H_hg := Lib.hid hg; clear hg; have H_hg' := Lib.hid hg'; clear hg'; have H_hb := Lib.hid hb; clear hb
          go_enter Try.func24, Try.ntmps24
          go_wp2_with (first | (go_at_call 20; refine (ref03_now c n ar la last _ hc).mono ?_; rintro e w1 ⟨rfl, xa, na, rfl⟩; rw [H_hx.out]) | (go_at_call 45; refine (reftime_any _ _).mono ?_; rintro e w1 ⟨rfl, xt, nt, rfl⟩; rw [H_hb.out]) | (go_at_call 46; refine (hw_refadvance c n ar la m _ hc hn (by omega) (by omega)).mono ?_; rintro e w1 ⟨rfl, xb, nb, rfl⟩; rw [H_hg.out]))
          go_returns
          exact ⟨rfl, by (repeat' (first | (with_reducible exact Vg.Grows.refl _) | (with_reducible assumption) | (with_reducible refine Vg.Grows.alloc ?_ _) | (with_reducible refine Vg.Grows.plus ?_ _ _) | (with_reducible refine Vg.Grows.drewN ?_ _) | (with_reducible refine Vg.Grows.drew ?_) | (with_reducible refine Vg.Grows.setCell ?_ ?_ _) | (with_reducible refine Vg.Grows.put ?_ ?_ _) | omega | (simp; omega) | (simp; done)))⟩
  · have hx2 := Vg.ckNow_no (c := c) (last := last) (by rw [hx]; exact h)
    have hv : Vg.ckTick ⟨c, n, ar, la, last⟩ m = (⟨0, 0, false, false, 0⟩, 2) := by unfold Vg.ckTick; rw [hx2]; simp
    rw [hv]
    clear hx h
    have H_hx2 := Lib.hid hx2; clear hx2; have H_hv := Lib.hid hv; clear hv
    go_enter Try.func24, Try.ntmps24
    go_wp2_with (first | (go_at_call 20; refine (ref03_now c n ar la last _ hc).mono ?_; rintro e w1 ⟨rfl, xa, na, rfl⟩; rw [H_hx2.out]) | (go_at_call 45; refine (reftime_any _ _).mono ?_; rintro e w' ⟨rfl, rfl⟩))
    go_returns
    exact ⟨rfl, by (repeat' (first | (with_reducible exact Vg.Grows.refl _) | (with_reducible assumption) | (with_reducible refine Vg.Grows.alloc ?_ _) | (with_reducible refine Vg.Grows.plus ?_ _ _) | (with_reducible refine Vg.Grows.drewN ?_ _) | (with_reducible refine Vg.Grows.drew ?_) | (with_reducible refine Vg.Grows.setCell ?_ ?_ _) | (with_reducible refine Vg.Grows.put ?_ ?_ _) | omega | (simp; omega) | (simp; done)))⟩
end Go.Proofs.Ytfkkkcihoejjgaa
