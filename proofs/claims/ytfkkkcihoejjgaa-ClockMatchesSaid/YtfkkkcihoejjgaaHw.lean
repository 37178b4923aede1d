/- Contracts of package hwtimer and of its reference (layer 2). -/
import Derived.Test.YtfkkkcihoejjgaaWrap
set_option linter.unusedSimpArgs false
set_option linter.unusedVariables false
set_option maxHeartbeats 400000
namespace Vg
structure Hw where
  count : Int
  compare : Int
  armed : Bool
  latch : Bool
def ahead (h : Hw) : Int := (h.compare - h.count - 1) % 4294967296
def hits (h : Hw) (n : Int) : Bool := h.armed && decide (0 < n) && decide (ahead h < n)
def advance (h : Hw) (n : Int) : Hw × Int :=
  if 2147483648 ≤ n then (h, 1) else
  if hits h n then (⟨(h.count + n) % 4294967296, h.compare, false, true⟩, 0) else (⟨(h.count + n) % 4294967296, h.compare, h.armed, h.latch⟩, 0)
/-- A timer that went on by t cycles, whatever t is. -/
def go (h : Hw) (t : Int) : Hw := ⟨(h.count + t) % 4294967296, h.compare, h.armed && !decide (ahead h < t), h.latch || (h.armed && decide (ahead h < t))⟩
theorem go_def (h : Hw) (t : Int) : go h t = ⟨(h.count + t) % 4294967296, h.compare, h.armed && !decide (ahead h < t), h.latch || (h.armed && decide (ahead h < t))⟩ := rfl
theorem ahead_bd (h : Hw) : 0 ≤ ahead h ∧ ahead h ≤ 4294967295 := by unfold ahead; omega
theorem go_zero (h : Hw) (h0 : 0 ≤ h.count) (h1 : h.count ≤ 4294967295) : go h 0 = h := by
  have := ahead_bd h
  unfold go
  have e : decide (ahead h < 0) = false := by simp; omega
  rw [e]
  have e2 : (h.count + 0) % 4294967296 = h.count := by omega
  rw [e2]
  cases h; simp
theorem advance_ok (h : Hw) (m : Int) (h0 : 0 ≤ m) (h1 : m < 2147483648) : advance h m = (go h m, 0) := by
  have ha := ahead_bd h
  unfold advance go hits
  rw [if_neg (by omega)]
  cases hr : h.armed
  · simp
  · by_cases hm : ahead h < m
    · have : 0 < m := by omega
      simp [hm, this]
    · simp [hm]
theorem advance_no (h : Hw) (m : Int) (h1 : 2147483648 ≤ m) : advance h m = (h, 1) := by unfold advance; rw [if_pos h1]
theorem ahead_go (h : Hw) (t : Int) (h2 : t ≤ ahead h) (h0 : 0 ≤ t) : ahead (go h t) = ahead h - t := by
  unfold ahead go at *
  simp only at *
  omega
theorem go_go (h : Hw) (t n : Int) (h0 : 0 ≤ t) (h1 : 0 ≤ n) : go (go h t) n = go h (t + n) := by
  have ha := ahead_bd h
  have hg := ahead_go h t
  by_cases hh : ahead h < t
  · have e1 : decide (ahead h < t) = true := by simp [hh]
    have e2 : decide (ahead h < t + n) = true := by simp; omega
    unfold go
    simp only [e1, e2]
    have e3 : ((h.count + t) % 4294967296 + n) % 4294967296 = (h.count + (t + n)) % 4294967296 := by omega
    rw [e3]; cases h.armed <;> simp
  · have hg' := hg (by omega) h0
    have e1 : decide (ahead h < t) = false := by simp; omega
    have e2 : decide (ahead (go h t) < n) = decide (ahead h < t + n) := by rw [hg', decide_eq_decide]; omega
    have e4 : (go h t).armed = h.armed := by unfold go; simp [e1]
    have e5 : (go h t).latch = h.latch := by unfold go; simp [e1]
    have e6 : (go h t).compare = h.compare := rfl
    have e7 : (go h t).count = (h.count + t) % 4294967296 := rfl
    rw [go_def (go h t) n, e2, e4, e5, e6, e7]
    unfold go
    have e3 : ((h.count + t) % 4294967296 + n) % 4294967296 = (h.count + (t + n)) % 4294967296 := by omega
    rw [e3]
theorem go_count_bd (h : Hw) (t : Int) : 0 ≤ (go h t).count ∧ (go h t).count ≤ 4294967295 := by unfold go; simp only []; omega
theorem adv_split (h : Hw) (m : Int) (h0 : 0 ≤ m) (h1 : m < 2147483648) : ∃ c1 n1 a1 l1, advance h m = (⟨c1, n1, a1, l1⟩, 0) ∧ go h m = ⟨c1, n1, a1, l1⟩ :=
  ⟨_, _, _, _, advance_ok h m h0 h1, rfl⟩
def left (h : Hw) : Int := if h.armed then ahead h + 1 else 0
end Vg
namespace Go.Proofs.Ytfkkkcihoejjgaa
open Go.ChangeShapes Go.WideShapes Go.ChangeAt Go.RowKit
theorem hw_ahead (c n : Int) (b : Nat) (w : World)
    (h0 : w.cell? ⟨b, 0, none⟩ = some (.int .u32 c)) (h1 : w.cell? ⟨b, 1, none⟩ = some (.int .u32 n)) :
    Calls Try.prog 50 #[.pointer (some ⟨b, 0, none⟩)] w fun e w' => e = .returned (.int .u32 ((n - c - 1) % 4294967296)) ∧ ∃ k, w' = w.drewN k := by
  go_enter Try.func50, Try.ntmps50
  go_wp2
  go_region
  go_wp2
  go_ret
  exact ⟨ret_int (by show _ % _ = _; omega), 1, rfl⟩

theorem hw_hits (c n : Int) (ar la : Bool) (m : Int) (b : Nat) (w : World)
    (h0 : w.cell? ⟨b, 0, none⟩ = some (.int .u32 c)) (h1 : w.cell? ⟨b, 1, none⟩ = some (.int .u32 n)) (h2 : w.cell? ⟨b, 2, none⟩ = some (.bool ar)) :
    Calls Try.prog 52 #[.pointer (some ⟨b, 0, none⟩), .int .u32 m] w fun e w' => e = .returned (.bool (Vg.hits ⟨c, n, ar, la⟩ m)) ∧ ∃ k, w' = w.drewN k := by
  cases ar with
  | false =>
    go_enter Try.func52, Try.ntmps52
    go_wp2
    go_ret
    exact ⟨ret_bool (by simp [Vg.hits]), 0, rfl⟩
  | true =>
    by_cases h : 0 < m
    all_goals
      go_enter Try.func52, Try.ntmps52
      go_wp2_with ((go_at_call 50; refine (hw_ahead c n b _ h0 h1).mono ?_; rintro e w' ⟨rfl, k, rfl⟩))
      go_ret
    · exact ⟨ret_bool (by simp only [Vg.hits, Vg.ahead, h, decide_true, Bool.true_and]; rfl), _, rfl⟩
    · exact ⟨ret_bool (by simp [Vg.hits]; omega), 0, rfl⟩

theorem hw_advance (c n : Int) (ar la : Bool) (m : Int) (w : World) :
    Calls Try.prog 42 #[.agg #[.int .u32 c, .int .u32 n, .bool ar, .bool la], .int .u32 m] w fun e w' =>
      e = .returned (.tuple #[.agg #[.int .u32 (Vg.advance ⟨c, n, ar, la⟩ m).1.count, .int .u32 (Vg.advance ⟨c, n, ar, la⟩ m).1.compare, .bool (Vg.advance ⟨c, n, ar, la⟩ m).1.armed, .bool (Vg.advance ⟨c, n, ar, la⟩ m).1.latch], .int .i64 (Vg.advance ⟨c, n, ar, la⟩ m).2]) ∧ Vg.Grows w w' := by
  by_cases hm : 2147483648 ≤ m
  · go_enter Try.func42, Try.ntmps42
    go_wp2
    go_returns
    have e : Vg.advance ⟨c, n, ar, la⟩ m = (⟨c, n, ar, la⟩, 1) := by unfold Vg.advance; rw [if_pos hm]
    rw [e]
    exact ⟨rfl, by (repeat' (first | (with_reducible exact Vg.Grows.refl _) | (with_reducible assumption) | (with_reducible refine Vg.Grows.alloc ?_ _) | (with_reducible refine Vg.Grows.plus ?_ _ _) | (with_reducible refine Vg.Grows.drewN ?_ _) | (with_reducible refine Vg.Grows.drew ?_) | (with_reducible refine Vg.Grows.setCell ?_ ?_ _) | (with_reducible refine Vg.Grows.put ?_ ?_ _) | omega | (simp; omega) | (simp; done)))⟩
  · cases hh : Vg.hits ⟨c, n, ar, la⟩ m
    all_goals
      go_enter Try.func42, Try.ntmps42
      go_wp2_with ((go_at_call 52; refine (hw_hits c n ar la m _ _ (by go_simp) (by go_simp) (by go_simp)).mono ?_; rintro e w' ⟨rfl, k, rfl⟩))
      go_returns
    · have e : Vg.advance ⟨c, n, ar, la⟩ m = (⟨(c + m) % 4294967296, n, ar, la⟩, 0) := by unfold Vg.advance; rw [if_neg (by omega), hh]; rfl
      rw [e]
      exact ⟨rfl, by (repeat' (first | (with_reducible exact Vg.Grows.refl _) | (with_reducible assumption) | (with_reducible refine Vg.Grows.alloc ?_ _) | (with_reducible refine Vg.Grows.plus ?_ _ _) | (with_reducible refine Vg.Grows.drewN ?_ _) | (with_reducible refine Vg.Grows.drew ?_) | (with_reducible refine Vg.Grows.setCell ?_ ?_ _) | (with_reducible refine Vg.Grows.put ?_ ?_ _) | omega | (simp; omega) | (simp; done)))⟩
    · have e : Vg.advance ⟨c, n, ar, la⟩ m = (⟨(c + m) % 4294967296, n, false, true⟩, 0) := by unfold Vg.advance; rw [if_neg (by omega), hh]; rfl
      rw [e]
      exact ⟨rfl, by (repeat' (first | (with_reducible exact Vg.Grows.refl _) | (with_reducible assumption) | (with_reducible refine Vg.Grows.alloc ?_ _) | (with_reducible refine Vg.Grows.plus ?_ _ _) | (with_reducible refine Vg.Grows.drewN ?_ _) | (with_reducible refine Vg.Grows.drew ?_) | (with_reducible refine Vg.Grows.setCell ?_ ?_ _) | (with_reducible refine Vg.Grows.put ?_ ?_ _) | omega | (simp; omega) | (simp; done)))⟩

theorem hw_left (c n : Int) (ar la : Bool) (w : World) :
    Calls Try.prog 35 #[.agg #[.int .u32 c, .int .u32 n, .bool ar, .bool la]] w fun e w' =>
      e = .returned (.tuple #[.int .i64 (Vg.left ⟨c, n, ar, la⟩), .bool ar]) ∧ Vg.Grows w w' := by
  cases ar with
  | false =>
    go_enter Try.func35, Try.ntmps35
    go_wp2
    go_ret2
    exact ⟨rfl, by (repeat' (first | (with_reducible exact Vg.Grows.refl _) | (with_reducible assumption) | (with_reducible refine Vg.Grows.alloc ?_ _) | (with_reducible refine Vg.Grows.plus ?_ _ _) | (with_reducible refine Vg.Grows.drewN ?_ _) | (with_reducible refine Vg.Grows.drew ?_) | (with_reducible refine Vg.Grows.setCell ?_ ?_ _) | (with_reducible refine Vg.Grows.put ?_ ?_ _) | omega | (simp; omega) | (simp; done)))⟩
  | true =>
    go_enter Try.func35, Try.ntmps35
    go_wp2_with ((go_at_call 50; refine (hw_ahead c n _ _ (by go_simp) (by go_simp)).mono ?_; rintro e w' ⟨rfl, k, rfl⟩))
    go_ret2
    exact ⟨rfl, by (repeat' (first | (with_reducible exact Vg.Grows.refl _) | (with_reducible assumption) | (with_reducible refine Vg.Grows.alloc ?_ _) | (with_reducible refine Vg.Grows.plus ?_ _ _) | (with_reducible refine Vg.Grows.drewN ?_ _) | (with_reducible refine Vg.Grows.drew ?_) | (with_reducible refine Vg.Grows.setCell ?_ ?_ _) | (with_reducible refine Vg.Grows.put ?_ ?_ _) | omega | (simp; omega) | (simp; done)))⟩

theorem hw_refleft (c n : Int) (ar la : Bool) (w : World) (hc : 0 ≤ c ∧ c ≤ 4294967295) (hn : 0 ≤ n ∧ n ≤ 4294967295) :
    Calls Try.prog 54 #[.agg #[.int .u32 c, .int .u32 n, .bool ar, .bool la]] w fun e w' =>
      e = .returned (.tuple #[.int .i64 (Vg.left ⟨c, n, ar, la⟩), .bool ar]) ∧ Vg.Grows w w' := by
  cases ar with
  | false =>
    go_enter Try.func54, Try.ntmps54
    go_wp2
    go_ret2
    exact ⟨rfl, by (repeat' (first | (with_reducible exact Vg.Grows.refl _) | (with_reducible assumption) | (with_reducible refine Vg.Grows.alloc ?_ _) | (with_reducible refine Vg.Grows.plus ?_ _ _) | (with_reducible refine Vg.Grows.drewN ?_ _) | (with_reducible refine Vg.Grows.drew ?_) | (with_reducible refine Vg.Grows.setCell ?_ ?_ _) | (with_reducible refine Vg.Grows.put ?_ ?_ _) | omega | (simp; omega) | (simp; done)))⟩
  | true =>
    by_cases h : n - c ≤ 0
    · have e : Vg.left ⟨c, n, true, la⟩ = n - c + 4294967296 := by unfold Vg.left Vg.ahead; simp; omega
      have E := Lib.hid e; clear e
      go_enter Try.func54, Try.ntmps54
      go_wp2
      go_ret2
      rw [E.out]
      exact ⟨rfl, by (repeat' (first | (with_reducible exact Vg.Grows.refl _) | (with_reducible assumption) | (with_reducible refine Vg.Grows.alloc ?_ _) | (with_reducible refine Vg.Grows.plus ?_ _ _) | (with_reducible refine Vg.Grows.drewN ?_ _) | (with_reducible refine Vg.Grows.drew ?_) | (with_reducible refine Vg.Grows.setCell ?_ ?_ _) | (with_reducible refine Vg.Grows.put ?_ ?_ _) | omega | (simp; omega) | (simp; done)))⟩
    · have e : Vg.left ⟨c, n, true, la⟩ = n - c := by unfold Vg.left Vg.ahead; simp; omega
      have E := Lib.hid e; clear e
      go_enter Try.func54, Try.ntmps54
      go_wp2
      go_ret2
      rw [E.out]
      exact ⟨rfl, by (repeat' (first | (with_reducible exact Vg.Grows.refl _) | (with_reducible assumption) | (with_reducible refine Vg.Grows.alloc ?_ _) | (with_reducible refine Vg.Grows.plus ?_ _ _) | (with_reducible refine Vg.Grows.drewN ?_ _) | (with_reducible refine Vg.Grows.drew ?_) | (with_reducible refine Vg.Grows.setCell ?_ ?_ _) | (with_reducible refine Vg.Grows.put ?_ ?_ _) | omega | (simp; omega) | (simp; done)))⟩

theorem hw_arm (c n : Int) (ar la : Bool) (m : Int) (w : World) :
    Calls Try.prog 34 #[.agg #[.int .u32 c, .int .u32 n, .bool ar, .bool la], .int .u32 m] w fun e w' =>
      e = .returned (.agg #[.int .u32 c, .int .u32 m, .bool true, .bool la]) ∧ Vg.Grows w w' := by
  go_enter Try.func34, Try.ntmps34
  go_wp2
  go_returns
  exact ⟨rfl, by (repeat' (first | (with_reducible exact Vg.Grows.refl _) | (with_reducible assumption) | (with_reducible refine Vg.Grows.alloc ?_ _) | (with_reducible refine Vg.Grows.plus ?_ _ _) | (with_reducible refine Vg.Grows.drewN ?_ _) | (with_reducible refine Vg.Grows.drew ?_) | (with_reducible refine Vg.Grows.setCell ?_ ?_ _) | (with_reducible refine Vg.Grows.put ?_ ?_ _) | omega | (simp; omega) | (simp; done)))⟩

theorem hw_refarm (c n : Int) (ar la : Bool) (m : Int) (w : World) :
    Calls Try.prog 49 #[.agg #[.int .u32 c, .int .u32 n, .bool ar, .bool la], .int .u32 m] w fun e w' =>
      e = .returned (.agg #[.int .u32 c, .int .u32 m, .bool true, .bool la]) ∧ Vg.Grows w w' := by
  go_enter Try.func49, Try.ntmps49
  go_wp2
  go_returns
  exact ⟨rfl, by (repeat' (first | (with_reducible exact Vg.Grows.refl _) | (with_reducible assumption) | (with_reducible refine Vg.Grows.alloc ?_ _) | (with_reducible refine Vg.Grows.plus ?_ _ _) | (with_reducible refine Vg.Grows.drewN ?_ _) | (with_reducible refine Vg.Grows.drew ?_) | (with_reducible refine Vg.Grows.setCell ?_ ?_ _) | (with_reducible refine Vg.Grows.put ?_ ?_ _) | omega | (simp; omega) | (simp; done)))⟩

theorem hw_disarm (c n : Int) (ar la : Bool) (w : World) :
    Calls Try.prog 38 #[.agg #[.int .u32 c, .int .u32 n, .bool ar, .bool la]] w fun e w' =>
      e = .returned (.agg #[.int .u32 c, .int .u32 n, .bool false, .bool la]) ∧ Vg.Grows w w' := by
  go_enter Try.func38, Try.ntmps38
  go_wp2
  go_returns
  exact ⟨rfl, by (repeat' (first | (with_reducible exact Vg.Grows.refl _) | (with_reducible assumption) | (with_reducible refine Vg.Grows.alloc ?_ _) | (with_reducible refine Vg.Grows.plus ?_ _ _) | (with_reducible refine Vg.Grows.drewN ?_ _) | (with_reducible refine Vg.Grows.drew ?_) | (with_reducible refine Vg.Grows.setCell ?_ ?_ _) | (with_reducible refine Vg.Grows.put ?_ ?_ _) | omega | (simp; omega) | (simp; done)))⟩

theorem hw_refdisarm (c n : Int) (ar la : Bool) (w : World) :
    Calls Try.prog 48 #[.agg #[.int .u32 c, .int .u32 n, .bool ar, .bool la]] w fun e w' =>
      e = .returned (.agg #[.int .u32 c, .int .u32 n, .bool false, .bool la]) ∧ Vg.Grows w w' := by
  go_enter Try.func48, Try.ntmps48
  go_wp2
  go_returns
  exact ⟨rfl, by (repeat' (first | (with_reducible exact Vg.Grows.refl _) | (with_reducible assumption) | (with_reducible refine Vg.Grows.alloc ?_ _) | (with_reducible refine Vg.Grows.plus ?_ _ _) | (with_reducible refine Vg.Grows.drewN ?_ _) | (with_reducible refine Vg.Grows.drew ?_) | (with_reducible refine Vg.Grows.setCell ?_ ?_ _) | (with_reducible refine Vg.Grows.put ?_ ?_ _) | omega | (simp; omega) | (simp; done)))⟩

theorem hw_refadvance (c n : Int) (ar la : Bool) (m : Int) (w : World) (hc : 0 ≤ c ∧ c ≤ 4294967295) (hn : 0 ≤ n ∧ n ≤ 4294967295) (h0 : 0 ≤ m) (h1 : m ≤ 4294967295) :
    Calls Try.prog 46 #[.agg #[.int .u32 c, .int .u32 n, .bool ar, .bool la], .int .u32 m] w fun e w' =>
      e = .returned (.tuple #[.agg #[.int .u32 (Vg.advance ⟨c, n, ar, la⟩ m).1.count, .int .u32 (Vg.advance ⟨c, n, ar, la⟩ m).1.compare, .bool (Vg.advance ⟨c, n, ar, la⟩ m).1.armed, .bool (Vg.advance ⟨c, n, ar, la⟩ m).1.latch], .int .i64 (Vg.advance ⟨c, n, ar, la⟩ m).2]) ∧ Vg.Grows w w' := by
  by_cases hm : 2147483648 ≤ m
  · have e : Vg.advance ⟨c, n, ar, la⟩ m = (⟨c, n, ar, la⟩, 1) := by unfold Vg.advance; rw [if_pos hm]
    rw [e]
    clear e
    go_enter Try.func46, Try.ntmps46
    go_wp2
    go_returns
    exact ⟨rfl, by (repeat' (first | (with_reducible exact Vg.Grows.refl _) | (with_reducible assumption) | (with_reducible refine Vg.Grows.alloc ?_ _) | (with_reducible refine Vg.Grows.plus ?_ _ _) | (with_reducible refine Vg.Grows.drewN ?_ _) | (with_reducible refine Vg.Grows.drew ?_) | (with_reducible refine Vg.Grows.setCell ?_ ?_ _) | (with_reducible refine Vg.Grows.put ?_ ?_ _) | omega | (simp; omega) | (simp; done)))⟩
  · have hl : Vg.hits ⟨c, n, ar, la⟩ m = (ar && decide (Vg.left ⟨c, n, ar, la⟩ ≤ m)) := by
      unfold Vg.hits Vg.left Vg.ahead
      cases ar
      · rfl
      · simp only [Bool.true_and, if_true]
        rw [← Bool.decide_and, decide_eq_decide]; omega
    have ha : Vg.advance ⟨c, n, ar, la⟩ m = if (ar && decide (Vg.left ⟨c, n, ar, la⟩ ≤ m)) = true then (⟨Vg.low (c + m), n, false, true⟩, 0) else (⟨Vg.low (c + m), n, ar, la⟩, 0) := by
      unfold Vg.advance Vg.low; rw [if_neg hm, hl]
    rw [ha]
    clear ha hl
    cases ar with
    | false =>
      simp only [Bool.false_and, Bool.false_eq_true, if_false]
      go_enter Try.func46, Try.ntmps46
      go_wp2_with (first | (go_at_call 54; refine (hw_refleft _ _ _ _ _ (by omega) (by omega)).mono ?_; rintro e w1 ⟨rfl, x_hrleft, n_hrleft, rfl⟩) | (go_at_call 47; refine (reflow_any _ _).mono ?_; rintro e w' ⟨rfl, rfl⟩))
      go_returns
      exact ⟨rfl, by (repeat' (first | (with_reducible exact Vg.Grows.refl _) | (with_reducible assumption) | (with_reducible refine Vg.Grows.alloc ?_ _) | (with_reducible refine Vg.Grows.plus ?_ _ _) | (with_reducible refine Vg.Grows.drewN ?_ _) | (with_reducible refine Vg.Grows.drew ?_) | (with_reducible refine Vg.Grows.setCell ?_ ?_ _) | (with_reducible refine Vg.Grows.put ?_ ?_ _) | omega | (simp; omega) | (simp; done)))⟩
    | true =>
      by_cases hle : Vg.left ⟨c, n, true, la⟩ ≤ m
      · have e : (true && decide (Vg.left ⟨c, n, true, la⟩ ≤ m)) = true := by simp [hle]
        rw [if_pos e]
        clear e
        go_enter Try.func46, Try.ntmps46
        go_wp2_with (first | (go_at_call 54; refine (hw_refleft _ _ _ _ _ (by omega) (by omega)).mono ?_; rintro e w1 ⟨rfl, x_hrleft, n_hrleft, rfl⟩) | (go_at_call 47; refine (reflow_any _ _).mono ?_; rintro e w' ⟨rfl, rfl⟩))
        go_returns
        exact ⟨rfl, by (repeat' (first | (with_reducible exact Vg.Grows.refl _) | (with_reducible assumption) | (with_reducible refine Vg.Grows.alloc ?_ _) | (with_reducible refine Vg.Grows.plus ?_ _ _) | (with_reducible refine Vg.Grows.drewN ?_ _) | (with_reducible refine Vg.Grows.drew ?_) | (with_reducible refine Vg.Grows.setCell ?_ ?_ _) | (with_reducible refine Vg.Grows.put ?_ ?_ _) | omega | (simp; omega) | (simp; done)))⟩
      · have e : ¬ (true && decide (Vg.left ⟨c, n, true, la⟩ ≤ m)) = true := by simp; omega
        rw [if_neg e]
        clear e
        go_enter Try.func46, Try.ntmps46
        go_wp2_with (first | (go_at_call 54; refine (hw_refleft _ _ _ _ _ (by omega) (by omega)).mono ?_; rintro e w1 ⟨rfl, x_hrleft, n_hrleft, rfl⟩) | (go_at_call 47; refine (reflow_any _ _).mono ?_; rintro e w' ⟨rfl, rfl⟩))
        go_returns
        exact ⟨rfl, by (repeat' (first | (with_reducible exact Vg.Grows.refl _) | (with_reducible assumption) | (with_reducible refine Vg.Grows.alloc ?_ _) | (with_reducible refine Vg.Grows.plus ?_ _ _) | (with_reducible refine Vg.Grows.drewN ?_ _) | (with_reducible refine Vg.Grows.drew ?_) | (with_reducible refine Vg.Grows.setCell ?_ ?_ _) | (with_reducible refine Vg.Grows.put ?_ ?_ _) | omega | (simp; omega) | (simp; done)))⟩
end Go.Proofs.Ytfkkkcihoejjgaa
