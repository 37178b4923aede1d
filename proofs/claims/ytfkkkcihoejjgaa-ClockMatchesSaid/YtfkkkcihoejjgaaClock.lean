/- Contracts of package clock and of vergeref03: Now, Check, Make, Read, Tick. -/
import Derived.Test.YtfkkkcihoejjgaaHw
set_option linter.unusedSimpArgs false
set_option linter.unusedVariables false
set_option maxHeartbeats 1000000
set_option maxRecDepth 20000
namespace Vg
def ckNow (c last : Int) : Int × Int := if (extend last c).2 ≠ 0 ∨ 2147483648 ≤ (extend last c).1 - last then (0, 2) else ((extend last c).1, 0)
theorem extend_ok {last lo t : Int} (h : extend last lo = (t, 0)) : (0 ≤ last ∧ last ≤ 4503599627370496) ∧ 0 ≤ t ∧ t ≤ 4503599627370496 ∧ t = last + (lo - low last) % 4294967296 := by
  unfold extend at h
  by_cases h1 : timeB last = true
  · rw [h1] at h
    simp only [Bool.not_true, Bool.false_eq_true, if_false] at h
    by_cases h2 : timeB (last + (lo - low last) % 4294967296) = true
    · rw [h2] at h
      simp only [Bool.not_true, Bool.false_eq_true, if_false, Prod.mk.injEq, and_true] at h
      have a := timeB_true.1 h1
      have b := timeB_true.1 h2
      omega
    · simp only [Bool.not_eq_true] at h2
      rw [h2] at h
      simp at h
  · simp only [Bool.not_eq_true] at h1
    rw [h1] at h
    simp at h
theorem ckNow_ok {c last t : Int} (h : ckNow c last = (t, 0)) : (0 ≤ last ∧ last ≤ 4503599627370496) ∧ 0 ≤ t ∧ t ≤ 4503599627370496 ∧ t = last + (c - low last) % 4294967296 ∧ t - last < 2147483648 := by
  unfold ckNow at h
  split at h
  · simp at h
  · rename_i h1
    obtain ⟨⟨t', no⟩, hx⟩ : ∃ p, extend last c = p := ⟨_, rfl⟩
    rw [hx] at h h1
    simp only [Prod.mk.injEq] at h
    obtain ⟨rfl, _⟩ := h
    have hno : no = 0 := Decidable.byContradiction fun hh => h1 (.inl hh)
    subst hno
    obtain ⟨a, b, c, d⟩ := extend_ok hx
    refine ⟨a, b, c, d, ?_⟩
    have : ¬ 2147483648 ≤ t' - last := fun hh => h1 (.inr hh)
    omega
theorem ckNow_no {c last : Int} (h : (ckNow c last).2 ≠ 0) : ckNow c last = (0, 2) := by
  unfold ckNow at h ⊢
  split
  · rfl
  · rename_i h1; rw [if_neg h1] at h; exact absurd rfl h
end Vg
namespace Go.Proofs.Ytfkkkcihoejjgaa
open Go.ChangeShapes Go.WideShapes Go.ChangeAt Go.RowKit
abbrev ckV (c n : Int) (ar la : Bool) (last : Int) : Value := .agg #[.int .u32 c, .int .u32 n, .bool ar, .bool la, .int .i64 last]
theorem clock_now (c n : Int) (ar la : Bool) (last : Int) (w : World) (hc : 0 ≤ c ∧ c ≤ 4294967295) :
    Calls Try.prog 19 #[ckV c n ar la last] w fun e w' => e = .returned (.tuple #[.int .i64 (Vg.ckNow c last).1, .int .i64 (Vg.ckNow c last).2]) ∧ Vg.Grows w w' := by
  obtain ⟨⟨t, no⟩, hx⟩ : ∃ p, Vg.extend last c = p := ⟨_, rfl⟩
  by_cases h0 : no = 0
  · subst h0
    have hl := (Vg.extend_ok hx).1
    have ht : 0 ≤ t ∧ t ≤ 4503599627370496 := ⟨(Vg.extend_ok hx).2.1, (Vg.extend_ok hx).2.2.1⟩
    by_cases h1 : 2147483648 ≤ t - last
    · have e : Vg.ckNow c last = (0, 2) := by unfold Vg.ckNow; rw [hx, if_pos (.inr h1)]
      rw [e]
      have H_e := Lib.hid e; clear e; have H_hx := Lib.hid hx; clear hx
      go_enter Try.func19, Try.ntmps19
      go_wp2_with ((go_at_call 43; refine (extend_any last c _).mono ?_; rintro e w1 ⟨rfl, rfl⟩; rw [H_hx.out]))
      go_ret2
      exact ⟨rfl, by (repeat' (first | (with_reducible exact Vg.Grows.refl _) | (with_reducible assumption) | (with_reducible refine Vg.Grows.alloc ?_ _) | (with_reducible refine Vg.Grows.plus ?_ _ _) | (with_reducible refine Vg.Grows.drewN ?_ _) | (with_reducible refine Vg.Grows.drew ?_) | (with_reducible refine Vg.Grows.setCell ?_ ?_ _) | (with_reducible refine Vg.Grows.put ?_ ?_ _) | omega | (simp; omega) | (simp; done)))⟩
    · have e : Vg.ckNow c last = (t, 0) := by unfold Vg.ckNow; rw [hx, if_neg (by simp; omega)]
      rw [e]
      have H_e := Lib.hid e; clear e; have H_hx := Lib.hid hx; clear hx
      go_enter Try.func19, Try.ntmps19
      go_wp2_with ((go_at_call 43; refine (extend_any last c _).mono ?_; rintro e w1 ⟨rfl, rfl⟩; rw [H_hx.out]))
      go_ret2
      exact ⟨rfl, by (repeat' (first | (with_reducible exact Vg.Grows.refl _) | (with_reducible assumption) | (with_reducible refine Vg.Grows.alloc ?_ _) | (with_reducible refine Vg.Grows.plus ?_ _ _) | (with_reducible refine Vg.Grows.drewN ?_ _) | (with_reducible refine Vg.Grows.drew ?_) | (with_reducible refine Vg.Grows.setCell ?_ ?_ _) | (with_reducible refine Vg.Grows.put ?_ ?_ _) | omega | (simp; omega) | (simp; done)))⟩
  · have e : Vg.ckNow c last = (0, 2) := by unfold Vg.ckNow; rw [hx, if_pos (.inl h0)]
    have h0b : (no == 0) = false := by simp [h0]
    rw [e]
    have H_e := Lib.hid e; clear e; have H_hx := Lib.hid hx; clear hx; have H_h0 := Lib.hid h0; clear h0
    go_enter Try.func19, Try.ntmps19
    go_wp2_with ((go_at_call 43; refine (extend_any last c _).mono ?_; rintro e w1 ⟨rfl, rfl⟩; rw [H_hx.out]))
    go_ret2
    exact ⟨rfl, by (repeat' (first | (with_reducible exact Vg.Grows.refl _) | (with_reducible assumption) | (with_reducible refine Vg.Grows.alloc ?_ _) | (with_reducible refine Vg.Grows.plus ?_ _ _) | (with_reducible refine Vg.Grows.drewN ?_ _) | (with_reducible refine Vg.Grows.drew ?_) | (with_reducible refine Vg.Grows.setCell ?_ ?_ _) | (with_reducible refine Vg.Grows.put ?_ ?_ _) | omega | (simp; omega) | (simp; done)))⟩
theorem ref03_now (c n : Int) (ar la : Bool) (last : Int) (w : World) (hc : 0 ≤ c ∧ c ≤ 4294967295) :
    Calls Try.prog 20 #[ckV c n ar la last] w fun e w' => e = .returned (.tuple #[.int .i64 (Vg.ckNow c last).1, .int .i64 (Vg.ckNow c last).2]) ∧ Vg.Grows w w' := by
  obtain ⟨⟨t, no⟩, hx⟩ : ∃ p, Vg.extend last c = p := ⟨_, rfl⟩
  by_cases h0 : no = 0
  · subst h0
    have hl := (Vg.extend_ok hx).1
    have ht : 0 ≤ t ∧ t ≤ 4503599627370496 := ⟨(Vg.extend_ok hx).2.1, (Vg.extend_ok hx).2.2.1⟩
    by_cases h1 : 2147483648 ≤ t - last
    · have e : Vg.ckNow c last = (0, 2) := by unfold Vg.ckNow; rw [hx, if_pos (.inr h1)]
      rw [e]
      have H_e := Lib.hid e; clear e; have H_hx := Lib.hid hx; clear hx
      go_enter Try.func20, Try.ntmps20
      go_wp2_with ((go_at_call 44; refine (refextend_any last c _ hc.1 hc.2).mono ?_; rintro e w1 ⟨rfl, rfl⟩; rw [H_hx.out]))
      go_ret2
      exact ⟨rfl, by (repeat' (first | (with_reducible exact Vg.Grows.refl _) | (with_reducible assumption) | (with_reducible refine Vg.Grows.alloc ?_ _) | (with_reducible refine Vg.Grows.plus ?_ _ _) | (with_reducible refine Vg.Grows.drewN ?_ _) | (with_reducible refine Vg.Grows.drew ?_) | (with_reducible refine Vg.Grows.setCell ?_ ?_ _) | (with_reducible refine Vg.Grows.put ?_ ?_ _) | omega | (simp; omega) | (simp; done)))⟩
    · have e : Vg.ckNow c last = (t, 0) := by unfold Vg.ckNow; rw [hx, if_neg (by simp; omega)]
      rw [e]
      have H_e := Lib.hid e; clear e; have H_hx := Lib.hid hx; clear hx
      go_enter Try.func20, Try.ntmps20
      go_wp2_with ((go_at_call 44; refine (refextend_any last c _ hc.1 hc.2).mono ?_; rintro e w1 ⟨rfl, rfl⟩; rw [H_hx.out]))
      go_ret2
      exact ⟨rfl, by (repeat' (first | (with_reducible exact Vg.Grows.refl _) | (with_reducible assumption) | (with_reducible refine Vg.Grows.alloc ?_ _) | (with_reducible refine Vg.Grows.plus ?_ _ _) | (with_reducible refine Vg.Grows.drewN ?_ _) | (with_reducible refine Vg.Grows.drew ?_) | (with_reducible refine Vg.Grows.setCell ?_ ?_ _) | (with_reducible refine Vg.Grows.put ?_ ?_ _) | omega | (simp; omega) | (simp; done)))⟩
  · have e : Vg.ckNow c last = (0, 2) := by unfold Vg.ckNow; rw [hx, if_pos (.inl h0)]
    have h0b : (no == 0) = false := by simp [h0]
    rw [e]
    have H_e := Lib.hid e; clear e; have H_hx := Lib.hid hx; clear hx; have H_h0 := Lib.hid h0; clear h0
    go_enter Try.func20, Try.ntmps20
    go_wp2_with ((go_at_call 44; refine (refextend_any last c _ hc.1 hc.2).mono ?_; rintro e w1 ⟨rfl, rfl⟩; rw [H_hx.out]))
    go_ret2
    exact ⟨rfl, by (repeat' (first | (with_reducible exact Vg.Grows.refl _) | (with_reducible assumption) | (with_reducible refine Vg.Grows.alloc ?_ _) | (with_reducible refine Vg.Grows.plus ?_ _ _) | (with_reducible refine Vg.Grows.drewN ?_ _) | (with_reducible refine Vg.Grows.drew ?_) | (with_reducible refine Vg.Grows.setCell ?_ ?_ _) | (with_reducible refine Vg.Grows.put ?_ ?_ _) | omega | (simp; omega) | (simp; done)))⟩
theorem clock_check (c n : Int) (ar la : Bool) (last : Int) (w : World) (hc : 0 ≤ c ∧ c ≤ 4294967295) :
    Calls Try.prog 27 #[ckV c n ar la last] w fun e w' => e = .returned (.int .i64 (Vg.ckNow c last).2) ∧ Vg.Grows w w' := by
  go_enter Try.func27, Try.ntmps27
  go_wp2_with ((go_at_call 19; refine (clock_now c n ar la last _ hc).mono ?_; rintro e w1 ⟨rfl, xa, na, rfl⟩))
  go_ret
  exact ⟨rfl, by (repeat' (first | (with_reducible exact Vg.Grows.refl _) | (with_reducible assumption) | (with_reducible refine Vg.Grows.alloc ?_ _) | (with_reducible refine Vg.Grows.plus ?_ _ _) | (with_reducible refine Vg.Grows.drewN ?_ _) | (with_reducible refine Vg.Grows.drew ?_) | (with_reducible refine Vg.Grows.setCell ?_ ?_ _) | (with_reducible refine Vg.Grows.put ?_ ?_ _) | omega | (simp; omega) | (simp; done)))⟩
theorem ref03_check (c n : Int) (ar la : Bool) (last : Int) (w : World) (hc : 0 ≤ c ∧ c ≤ 4294967295) :
    Calls Try.prog 28 #[ckV c n ar la last] w fun e w' => e = .returned (.int .i64 (Vg.ckNow c last).2) ∧ Vg.Grows w w' := by
  go_enter Try.func28, Try.ntmps28
  go_wp2_with ((go_at_call 20; refine (ref03_now c n ar la last _ hc).mono ?_; rintro e w1 ⟨rfl, xa, na, rfl⟩))
  go_ret
  exact ⟨rfl, by (repeat' (first | (with_reducible exact Vg.Grows.refl _) | (with_reducible assumption) | (with_reducible refine Vg.Grows.alloc ?_ _) | (with_reducible refine Vg.Grows.plus ?_ _ _) | (with_reducible refine Vg.Grows.drewN ?_ _) | (with_reducible refine Vg.Grows.drew ?_) | (with_reducible refine Vg.Grows.setCell ?_ ?_ _) | (with_reducible refine Vg.Grows.put ?_ ?_ _) | omega | (simp; omega) | (simp; done)))⟩
theorem clock_make (st : Int) (w : World) :
    Calls Try.prog 14 #[.int .i64 st] w fun e w' => e = .returned (if Vg.timeB st = true then .tuple #[ckV (Vg.low st) 0 false false st, .int .i64 0] else .tuple #[ckV 0 0 false false 0, .int .i64 1]) ∧ Vg.Grows w w' := by
  cases h : Vg.timeB st with
  | true =>
    rw [if_pos rfl]
    have hb := Vg.timeB_true.1 h
    go_enter Try.func14, Try.ntmps14
    go_wp2_with ((go_at_call 36; refine (low_any _ _).mono ?_; rintro e w' ⟨rfl, rfl⟩))
    go_returns
    exact ⟨rfl, by (repeat' (first | (with_reducible exact Vg.Grows.refl _) | (with_reducible assumption) | (with_reducible refine Vg.Grows.alloc ?_ _) | (with_reducible refine Vg.Grows.plus ?_ _ _) | (with_reducible refine Vg.Grows.drewN ?_ _) | (with_reducible refine Vg.Grows.drew ?_) | (with_reducible refine Vg.Grows.setCell ?_ ?_ _) | (with_reducible refine Vg.Grows.put ?_ ?_ _) | omega | (simp; omega) | (simp; done)))⟩
  | false =>
    rw [if_neg (by simp)]
    have hb := Vg.timeB_false.1 h
    by_cases h1 : st < 0
    · clear hb
      go_enter Try.func14, Try.ntmps14
      go_wp2_with ((go_at_call 36; refine (low_any _ _).mono ?_; rintro e w' ⟨rfl, rfl⟩))
      go_returns
      exact ⟨rfl, by (repeat' (first | (with_reducible exact Vg.Grows.refl _) | (with_reducible assumption) | (with_reducible refine Vg.Grows.alloc ?_ _) | (with_reducible refine Vg.Grows.plus ?_ _ _) | (with_reducible refine Vg.Grows.drewN ?_ _) | (with_reducible refine Vg.Grows.drew ?_) | (with_reducible refine Vg.Grows.setCell ?_ ?_ _) | (with_reducible refine Vg.Grows.put ?_ ?_ _) | omega | (simp; omega) | (simp; done)))⟩
    · have h2 : 4503599627370496 < st := by omega
      clear hb
      go_enter Try.func14, Try.ntmps14
      go_wp2_with ((go_at_call 36; refine (low_any _ _).mono ?_; rintro e w' ⟨rfl, rfl⟩))
      go_returns
      exact ⟨rfl, by (repeat' (first | (with_reducible exact Vg.Grows.refl _) | (with_reducible assumption) | (with_reducible refine Vg.Grows.alloc ?_ _) | (with_reducible refine Vg.Grows.plus ?_ _ _) | (with_reducible refine Vg.Grows.drewN ?_ _) | (with_reducible refine Vg.Grows.drew ?_) | (with_reducible refine Vg.Grows.setCell ?_ ?_ _) | (with_reducible refine Vg.Grows.put ?_ ?_ _) | omega | (simp; omega) | (simp; done)))⟩
theorem ref03_make (st : Int) (w : World) :
    Calls Try.prog 25 #[.int .i64 st] w fun e w' => e = .returned (if Vg.timeB st = true then .tuple #[ckV (Vg.low st) 0 false false st, .int .i64 0] else .tuple #[ckV 0 0 false false 0, .int .i64 1]) ∧ Vg.Grows w w' := by
  cases h : Vg.timeB st with
  | true =>
    rw [if_pos rfl]
    have hb := Vg.timeB_true.1 h
    go_enter Try.func25, Try.ntmps25
    go_wp2_with (first | (go_at_call 47; refine (reflow_any _ _).mono ?_; rintro e w' ⟨rfl, rfl⟩) | (go_at_call 45; refine (reftime_any _ _).mono ?_; rintro e w' ⟨rfl, rfl⟩))
    go_returns
    exact ⟨rfl, by (repeat' (first | (with_reducible exact Vg.Grows.refl _) | (with_reducible assumption) | (with_reducible refine Vg.Grows.alloc ?_ _) | (with_reducible refine Vg.Grows.plus ?_ _ _) | (with_reducible refine Vg.Grows.drewN ?_ _) | (with_reducible refine Vg.Grows.drew ?_) | (with_reducible refine Vg.Grows.setCell ?_ ?_ _) | (with_reducible refine Vg.Grows.put ?_ ?_ _) | omega | (simp; omega) | (simp; done)))⟩
  | false =>
    rw [if_neg (by simp)]
    have hb := Vg.timeB_false.1 h
    by_cases h1 : st < 0
    · clear hb
      go_enter Try.func25, Try.ntmps25
      go_wp2_with (first | (go_at_call 47; refine (reflow_any _ _).mono ?_; rintro e w' ⟨rfl, rfl⟩) | (go_at_call 45; refine (reftime_any _ _).mono ?_; rintro e w' ⟨rfl, rfl⟩))
      go_returns
      exact ⟨rfl, by (repeat' (first | (with_reducible exact Vg.Grows.refl _) | (with_reducible assumption) | (with_reducible refine Vg.Grows.alloc ?_ _) | (with_reducible refine Vg.Grows.plus ?_ _ _) | (with_reducible refine Vg.Grows.drewN ?_ _) | (with_reducible refine Vg.Grows.drew ?_) | (with_reducible refine Vg.Grows.setCell ?_ ?_ _) | (with_reducible refine Vg.Grows.put ?_ ?_ _) | omega | (simp; omega) | (simp; done)))⟩
    · have h2 : 4503599627370496 < st := by omega
      clear hb
      go_enter Try.func25, Try.ntmps25
      go_wp2_with (first | (go_at_call 47; refine (reflow_any _ _).mono ?_; rintro e w' ⟨rfl, rfl⟩) | (go_at_call 45; refine (reftime_any _ _).mono ?_; rintro e w' ⟨rfl, rfl⟩))
      go_returns
      exact ⟨rfl, by (repeat' (first | (with_reducible exact Vg.Grows.refl _) | (with_reducible assumption) | (with_reducible refine Vg.Grows.alloc ?_ _) | (with_reducible refine Vg.Grows.plus ?_ _ _) | (with_reducible refine Vg.Grows.drewN ?_ _) | (with_reducible refine Vg.Grows.drew ?_) | (with_reducible refine Vg.Grows.setCell ?_ ?_ _) | (with_reducible refine Vg.Grows.put ?_ ?_ _) | omega | (simp; omega) | (simp; done)))⟩
theorem clock_read (c n : Int) (ar la : Bool) (last : Int) (w : World) (hc : 0 ≤ c ∧ c ≤ 4294967295) :
    Calls Try.prog 21 #[ckV c n ar la last] w fun e w' => e = .returned (if (Vg.ckNow c last).2 = 0 then .tuple #[ckV c n ar la (Vg.ckNow c last).1, .int .i64 (Vg.ckNow c last).1, .int .i64 0] else .tuple #[ckV 0 0 false false 0, .int .i64 0, .int .i64 2]) ∧ Vg.Grows w w' := by
  by_cases h : (Vg.ckNow c last).2 = 0
  · obtain ⟨⟨t, no⟩, hx⟩ : ∃ p, Vg.ckNow c last = p := ⟨_, rfl⟩
    rw [hx] at h ⊢
    have h : no = 0 := h
    subst h
    rw [if_pos rfl]
    have H_hx := Lib.hid hx; clear hx
    go_enter Try.func21, Try.ntmps21
    go_wp2_with ((go_at_call 19; refine (clock_now c n ar la last _ hc).mono ?_; rintro e w1 ⟨rfl, xa, na, rfl⟩; rw [H_hx.out]))
    go_returns
    exact ⟨rfl, by (repeat' (first | (with_reducible exact Vg.Grows.refl _) | (with_reducible assumption) | (with_reducible refine Vg.Grows.alloc ?_ _) | (with_reducible refine Vg.Grows.plus ?_ _ _) | (with_reducible refine Vg.Grows.drewN ?_ _) | (with_reducible refine Vg.Grows.drew ?_) | (with_reducible refine Vg.Grows.setCell ?_ ?_ _) | (with_reducible refine Vg.Grows.put ?_ ?_ _) | omega | (simp; omega) | (simp; done)))⟩
  · have hx := Vg.ckNow_no h
    rw [if_neg h]
    have H_hx := Lib.hid hx; clear hx; have H_h := Lib.hid h; clear h
    go_enter Try.func21, Try.ntmps21
    go_wp2_with ((go_at_call 19; refine (clock_now c n ar la last _ hc).mono ?_; rintro e w1 ⟨rfl, xa, na, rfl⟩; rw [H_hx.out]))
    go_returns
    exact ⟨rfl, by (repeat' (first | (with_reducible exact Vg.Grows.refl _) | (with_reducible assumption) | (with_reducible refine Vg.Grows.alloc ?_ _) | (with_reducible refine Vg.Grows.plus ?_ _ _) | (with_reducible refine Vg.Grows.drewN ?_ _) | (with_reducible refine Vg.Grows.drew ?_) | (with_reducible refine Vg.Grows.setCell ?_ ?_ _) | (with_reducible refine Vg.Grows.put ?_ ?_ _) | omega | (simp; omega) | (simp; done)))⟩
theorem ref03_read (c n : Int) (ar la : Bool) (last : Int) (w : World) (hc : 0 ≤ c ∧ c ≤ 4294967295) :
    Calls Try.prog 22 #[ckV c n ar la last] w fun e w' => e = .returned (if (Vg.ckNow c last).2 = 0 then .tuple #[ckV c n ar la (Vg.ckNow c last).1, .int .i64 (Vg.ckNow c last).1, .int .i64 0] else .tuple #[ckV 0 0 false false 0, .int .i64 0, .int .i64 2]) ∧ Vg.Grows w w' := by
  by_cases h : (Vg.ckNow c last).2 = 0
  · obtain ⟨⟨t, no⟩, hx⟩ : ∃ p, Vg.ckNow c last = p := ⟨_, rfl⟩
    rw [hx] at h ⊢
    have h : no = 0 := h
    subst h
    rw [if_pos rfl]
    have H_hx := Lib.hid hx; clear hx
    go_enter Try.func22, Try.ntmps22
    go_wp2_with ((go_at_call 20; refine (ref03_now c n ar la last _ hc).mono ?_; rintro e w1 ⟨rfl, xa, na, rfl⟩; rw [H_hx.out]))
    go_returns
    exact ⟨rfl, by (repeat' (first | (with_reducible exact Vg.Grows.refl _) | (with_reducible assumption) | (with_reducible refine Vg.Grows.alloc ?_ _) | (with_reducible refine Vg.Grows.plus ?_ _ _) | (with_reducible refine Vg.Grows.drewN ?_ _) | (with_reducible refine Vg.Grows.drew ?_) | (with_reducible refine Vg.Grows.setCell ?_ ?_ _) | (with_reducible refine Vg.Grows.put ?_ ?_ _) | omega | (simp; omega) | (simp; done)))⟩
  · have hx := Vg.ckNow_no h
    rw [if_neg h]
    have H_hx := Lib.hid hx; clear hx; have H_h := Lib.hid h; clear h
    go_enter Try.func22, Try.ntmps22
    go_wp2_with ((go_at_call 20; refine (ref03_now c n ar la last _ hc).mono ?_; rintro e w1 ⟨rfl, xa, na, rfl⟩; rw [H_hx.out]))
    go_returns
    exact ⟨rfl, by (repeat' (first | (with_reducible exact Vg.Grows.refl _) | (with_reducible assumption) | (with_reducible refine Vg.Grows.alloc ?_ _) | (with_reducible refine Vg.Grows.plus ?_ _ _) | (with_reducible refine Vg.Grows.drewN ?_ _) | (with_reducible refine Vg.Grows.drew ?_) | (with_reducible refine Vg.Grows.setCell ?_ ?_ _) | (with_reducible refine Vg.Grows.put ?_ ?_ _) | omega | (simp; omega) | (simp; done)))⟩
end Go.Proofs.Ytfkkkcihoejjgaa
