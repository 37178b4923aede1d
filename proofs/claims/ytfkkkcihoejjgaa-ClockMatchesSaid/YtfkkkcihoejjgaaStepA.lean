/- clock.Step as a plain contract; Tick. -/
import Derived.Test.YtfkkkcihoejjgaaStep
set_option linter.unusedSimpArgs false
set_option linter.unusedVariables false
set_option maxHeartbeats 2000000
set_option maxRecDepth 100000
namespace Vg
open Go Go.RowKit
def ckStep (k : Ck) (m : Int) : Ck × Int :=
  if (ckNow k.c k.t).2 ≠ 0 then (⟨0, 0, false, false, 0⟩, 2) else
  if m < 0 then (k, 1) else
  if 4503599627370496 - (ckNow k.c k.t).1 < m then (k, 6) else (ckOf (go ⟨k.c, k.n, k.a, k.l⟩ m) ((ckNow k.c k.t).1 + m), 0)
theorem ckNow_low {c last t : Int} (hc : 0 ≤ c ∧ c ≤ 4294967295) (h : ckNow c last = (t, 0)) : c = low t := by
  have := ckNow_ok h
  unfold low at *
  omega
end Vg
namespace Go.Proofs.Ytfkkkcihoejjgaa
open Go.ChangeShapes Go.WideShapes Go.ChangeAt Go.RowKit Go.Shelf
abbrev ckVk (k : Vg.Ck) : Value := ckV k.c k.n k.a k.l k.t
theorem clock_step (c n : Int) (ar la : Bool) (last m : Int) (w : World) (hc : 0 ≤ c ∧ c ≤ 4294967295) :
    Calls Try.prog 18 #[ckV c n ar la last, .int .i64 m] w fun e w' => e = .returned (.tuple #[ckVk (Vg.ckStep ⟨c, n, ar, la, last⟩ m).1, .int .i64 (Vg.ckStep ⟨c, n, ar, la, last⟩ m).2]) ∧ Vg.Grows w w' := by
  obtain ⟨⟨t, no⟩, hx⟩ : ∃ p, Vg.ckNow c last = p := ⟨_, rfl⟩
  by_cases h : no = 0
  · subst h
    obtain ⟨_, ht0, ht1, _⟩ := Vg.ckNow_ok hx
    have hlow := Vg.ckNow_low hc hx
    by_cases h1 : m < 0
    · have hv : Vg.ckStep ⟨c, n, ar, la, last⟩ m = (⟨c, n, ar, la, last⟩, 1) := by unfold Vg.ckStep; rw [hx]; simp [h1]
      rw [hv]
      have H_hx := Lib.hid hx; clear hx; have H_hv := Lib.hid hv; clear hv; have H_hlow := Lib.hid hlow; clear hlow
      go_enter Try.func18, Try.ntmps18
      go_wp2_with ((go_at_call 19; refine (clock_now c n ar la last _ hc).mono ?_; rintro e w1 ⟨rfl, xa, na, rfl⟩; rw [H_hx.out]))
      go_returns
      exact ⟨rfl, by (repeat' (first | (with_reducible exact Vg.Grows.refl _) | (with_reducible assumption) | (with_reducible refine Vg.Grows.alloc ?_ _) | (with_reducible refine Vg.Grows.plus ?_ _ _) | (with_reducible refine Vg.Grows.drewN ?_ _) | (with_reducible refine Vg.Grows.drew ?_) | (with_reducible refine Vg.Grows.setCell ?_ ?_ _) | (with_reducible refine Vg.Grows.put ?_ ?_ _) | omega | (simp; omega) | (simp; done)))⟩
    · by_cases h2 : 4503599627370496 - t < m
      · have hv : Vg.ckStep ⟨c, n, ar, la, last⟩ m = (⟨c, n, ar, la, last⟩, 6) := by unfold Vg.ckStep; rw [hx]; simp [h1, h2]
        rw [hv]
        have H_hx := Lib.hid hx; clear hx; have H_hv := Lib.hid hv; clear hv; have H_hlow := Lib.hid hlow; clear hlow
        go_enter Try.func18, Try.ntmps18
        go_wp2_with ((go_at_call 19; refine (clock_now c n ar la last _ hc).mono ?_; rintro e w1 ⟨rfl, xa, na, rfl⟩; rw [H_hx.out]))
        go_returns
        exact ⟨rfl, by (repeat' (first | (with_reducible exact Vg.Grows.refl _) | (with_reducible assumption) | (with_reducible refine Vg.Grows.alloc ?_ _) | (with_reducible refine Vg.Grows.plus ?_ _ _) | (with_reducible refine Vg.Grows.drewN ?_ _) | (with_reducible refine Vg.Grows.drew ?_) | (with_reducible refine Vg.Grows.setCell ?_ ?_ _) | (with_reducible refine Vg.Grows.put ?_ ?_ _) | omega | (simp; omega) | (simp; done)))⟩
      · have hv : Vg.ckStep ⟨c, n, ar, la, last⟩ m = (Vg.ckOf (Vg.go ⟨c, n, ar, la⟩ m) (t + m), 0) := by unfold Vg.ckStep; rw [hx]; simp [h1, h2]
        rw [hv]
        refine ((callsIn_wide (n := 3)).1 (step_in c n ar la last m t w hc hx (by omega) (by omega) ⟨ht0, ht1⟩)).mono ?_
        rintro e w' ⟨xs, hs, rfl, hg⟩
        have hgo := Vg.ckGo_go xs ⟨c, n, ar, la⟩ (t := t) ht0 (by omega) hlow hc
        rw [show Vg.ckGo ⟨c, n, ar, la, t⟩ xs = _ from hgo, hs]
        exact ⟨rfl, hg⟩
  · have hx2 := Vg.ckNow_no (c := c) (last := last) (by rw [hx]; exact h)
    have hv : Vg.ckStep ⟨c, n, ar, la, last⟩ m = (⟨0, 0, false, false, 0⟩, 2) := by unfold Vg.ckStep; rw [hx2]; simp
    rw [hv]
    clear hx h
    have H_hx2 := Lib.hid hx2; clear hx2; have H_hv := Lib.hid hv; clear hv
    go_enter Try.func18, Try.ntmps18
    go_wp2_with ((go_at_call 19; refine (clock_now c n ar la last _ hc).mono ?_; rintro e w1 ⟨rfl, xa, na, rfl⟩; rw [H_hx2.out]))
    go_returns
    exact ⟨rfl, by (repeat' (first | (with_reducible exact Vg.Grows.refl _) | (with_reducible assumption) | (with_reducible refine Vg.Grows.alloc ?_ _) | (with_reducible refine Vg.Grows.plus ?_ _ _) | (with_reducible refine Vg.Grows.drewN ?_ _) | (with_reducible refine Vg.Grows.drew ?_) | (with_reducible refine Vg.Grows.setCell ?_ ?_ _) | (with_reducible refine Vg.Grows.put ?_ ?_ _) | omega | (simp; omega) | (simp; done)))⟩
end Go.Proofs.Ytfkkkcihoejjgaa
