/- Sets of numbers below 64, as the bits of one word; what a controller of interrupts is in plain words. No program here. -/
import Derived.Test.YtekjnagojphmkaaDoorCom
import Derived.Laws.BitsAllLaws
import Derived.Lib.TrailingZeros
set_option linter.unusedSimpArgs false
set_option linter.unusedVariables false
set_option maxHeartbeats 1000000
namespace Vg
open Go
/-- Without one. -/
def clr (b i : Nat) : Nat := b &&& (18446744073709551615 - 2 ^ i)
theorem pow_lt64 {i : Nat} (hi : i < 64) : 2 ^ i < 18446744073709551616 := by
  have : 2 ^ i < 2 ^ 64 := Nat.pow_lt_pow_right (by decide) hi
  simpa using this
theorem tb_hi {b i : Nat} (h : b < 18446744073709551616) (hi : 64 ≤ i) : b.testBit i = false :=
  Nat.testBit_lt_two_pow (Nat.lt_of_lt_of_le h (by
    have : 2 ^ 64 ≤ 2 ^ i := Nat.pow_le_pow_right (by decide) hi
    simpa using this))
theorem not_tb {x j : Nat} (hx : x < 18446744073709551616) (hj : j < 64) : (18446744073709551615 - x).testBit j = !x.testBit j := by
  have h := Nat.testBit_two_pow_sub_succ (x := x) (n := 64) (by simpa using hx) j
  rw [show (18446744073709551615 - x : Nat) = 2 ^ 64 - (x + 1) from by omega, h]
  simp [hj]
theorem clr_tb {b i j : Nat} (hb : b < 18446744073709551616) (hi : i < 64) : (clr b i).testBit j = (b.testBit j && decide (j ≠ i)) := by
  unfold clr
  rw [Nat.testBit_and]
  by_cases hj : j < 64
  · rw [not_tb (pow_lt64 hi) hj, Nat.testBit_two_pow]
    by_cases h : i = j
    · subst h; simp
    · have h' : j ≠ i := fun hh => h hh.symm
      simp [h, h']
  · rw [tb_hi hb (by omega)]; simp
theorem clr_lt {b i : Nat} (hb : b < 18446744073709551616) : clr b i < 18446744073709551616 := by
  unfold clr
  exact Nat.lt_of_le_of_lt (Nat.and_le_left) hb
theorem or_tb (b i j : Nat) : (b ||| 2 ^ i).testBit j = (b.testBit j || decide (j = i)) := by
  rw [Nat.testBit_or, Nat.testBit_two_pow]
  by_cases h : i = j
  · subst h; simp
  · have h' : ¬ j = i := fun hh => h hh.symm
    simp [h, h']
theorem or_lt {b i : Nat} (hb : b < 18446744073709551616) (hi : i < 64) : b ||| 2 ^ i < 18446744073709551616 := by
  have := Nat.or_lt_two_pow (x := b) (y := 2 ^ i) (n := 64) (by simpa using hb) (by simpa using pow_lt64 hi)
  simpa using this
theorem clr_lt_self {b i : Nat} (hb : b < 18446744073709551616) (hi : i < 64) (h : b.testBit i = true) : clr b i < b := by
  refine Nat.lt_of_le_of_ne Nat.and_le_left fun hh => ?_
  have := clr_tb (j := i) hb hi
  rw [hh, h] at this
  simp at this
/-- What is left of b from k on. -/
def FromB (b k c : Nat) : Prop := ∀ j, c.testBit j = (b.testBit j && decide (k ≤ j))
theorem FromB.start (b : Nat) : FromB b 0 b := fun j => by simp
theorem FromB.done {b k : Nat} (h : FromB b k 0) : ∀ j, k ≤ j → b.testBit j = false := fun j hj => by
  have := h j
  simpa [hj] using this.symm
theorem ctz_at {c : Nat} (h0 : 0 < c) (h : c < 18446744073709551616) : ∃ m, c = 2 ^ Lib.ctz 64 c * (2 * m + 1) ∧ Lib.ctz 64 c < 64 := by
  unfold Lib.ctz
  rw [if_neg (by omega)]
  exact Lib.ctzFrom_spec 64 c h0 (by simpa using h)
theorem FromB.next {b k c : Nat} (h : FromB b k c) (h0 : 0 < c) (hc : c < 18446744073709551616) :
    Lib.ctz 64 c < 64 ∧ k ≤ Lib.ctz 64 c ∧ b.testBit (Lib.ctz 64 c) = true ∧ (∀ j, k ≤ j → j < Lib.ctz 64 c → b.testBit j = false) ∧ FromB b (Lib.ctz 64 c + 1) (c &&& (c - 1)) := by
  obtain ⟨m, hm, hk⟩ := ctz_at h0 hc
  generalize Lib.ctz 64 c = t at hm hk ⊢
  have t1 : ∀ j, c.testBit j = if j < t then false else (2 * m + 1).testBit (j - t) := fun j => by
    have := Nat.testBit_two_pow_mul_add (2 * m + 1) (b := 0) (i := t) (Nat.two_pow_pos t) j
    rw [Nat.add_zero, ← hm] at this
    simpa using this
  have e1 : c - 1 = 2 ^ t * (2 * m) + (2 ^ t - 1) := by
    have : 0 < 2 ^ t := Nat.two_pow_pos t
    rw [hm, Nat.mul_add]
    omega
  have t2 : ∀ j, (c - 1).testBit j = if j < t then true else (2 * m).testBit (j - t) := fun j => by
    have hp : 0 < 2 ^ t := Nat.two_pow_pos t
    have := Nat.testBit_two_pow_mul_add (2 * m) (b := 2 ^ t - 1) (i := t) (by omega) j
    rw [← e1] at this
    rw [this]
    by_cases hj : j < t
    · rw [if_pos hj, if_pos hj, Nat.testBit_two_pow_sub_one]; simp [hj]
    · rw [if_neg hj, if_neg hj]
  have tt : c.testBit t = true := by
    rw [t1, if_neg (by omega), Nat.sub_self, Nat.testBit_zero]; simp
  have hct := h t
  rw [tt] at hct
  simp only [Bool.true_eq, Bool.and_eq_true, decide_eq_true_eq] at hct
  refine ⟨hk, hct.2, hct.1, fun j h1 h2 => ?_, fun j => ?_⟩
  · have := h j
    rw [t1, if_pos h2] at this
    simpa [h1] using this.symm
  · rw [Nat.testBit_and, t2]
    by_cases hj : j < t
    · rw [t1, if_pos hj]
      have : ¬ t + 1 ≤ j := by omega
      simp [this]
    · rw [if_neg hj]
      by_cases he : j = t
      · subst he
        have e2 : (2 * m).testBit 0 = false := by rw [Nat.testBit_zero]; simp
        have : ¬ j + 1 ≤ j := by omega
        rw [Nat.sub_self, e2]; simp [this]
      · obtain ⟨i, rfl⟩ : ∃ i, j = t + (i + 1) := ⟨j - t - 1, by omega⟩
        have e3 : t + (i + 1) - t = i + 1 := by omega
        have e4 : (2 * m).testBit (i + 1) = m.testBit i := by rw [Nat.testBit_succ]; congr 1; omega
        have e5 : c.testBit (t + (i + 1)) = m.testBit i := by
          rw [t1, if_neg hj, e3, Nat.testBit_succ]; congr 1; omega
        have e6 := h (t + (i + 1))
        rw [e5] at e6
        have h1 : k ≤ t + (i + 1) := by omega
        have h2 : t + 1 ≤ t + (i + 1) := by omega
        rw [e3, e4, e5]
        simp only [h1, h2, decide_true, Bool.and_true] at e6 ⊢
        rw [← e6, Bool.and_self]
theorem FromB.lt {b k c : Nat} (h : FromB b k c) (hb : b < 18446744073709551616) : c < 18446744073709551616 := by
  have : c < 2 ^ 64 := Nat.lt_pow_two_of_testBit c fun i hi => by rw [h i, tb_hi hb hi]; rfl
  simpa using this
/-- The numbers of b below k, rising. -/
def blK (b k : Nat) : List Nat := (List.range k).filter fun j => b.testBit j
theorem blK_succ (b k : Nat) : blK b (k + 1) = if b.testBit k = true then blK b k ++ [k] else blK b k := by
  unfold blK
  rw [List.range_succ, List.filter_append]
  by_cases h : b.testBit k = true
  · simp [h]
  · simp [h]
theorem blK_skip {b k : Nat} : ∀ {n : Nat}, (∀ j, k ≤ j → j < k + n → b.testBit j = false) → blK b (k + n) = blK b k
  | 0, _ => rfl
  | n + 1, h => by
    rw [← Nat.add_assoc, blK_succ, h (k + n) (by omega) (by omega)]
    simpa using blK_skip fun j h1 h2 => h j h1 (by omega)
theorem blK_to {b k t : Nat} (hk : k ≤ t) (h : ∀ j, k ≤ j → j < t → b.testBit j = false) : blK b t = blK b k := by
  obtain ⟨n, rfl⟩ : ∃ n, t = k + n := ⟨t - k, by omega⟩
  exact blK_skip h
theorem blK_next {b k t : Nat} (hk : k ≤ t) (h : ∀ j, k ≤ j → j < t → b.testBit j = false) (ht : b.testBit t = true) : blK b (t + 1) = blK b k ++ [t] := by
  rw [blK_succ, ht, blK_to hk h]; rfl
theorem blK_mem {b k j : Nat} : j ∈ blK b k ↔ j < k ∧ b.testBit j = true := by
  unfold blK
  simp
theorem blK_len (b k : Nat) : (blK b k).length ≤ k := by
  unfold blK
  exact Nat.le_trans (List.length_filter_le _ _) (by simp)
end Vg
