/- A clock that is armed and stepped: the plain law. -/
import Derived.Test.YtfkkkcihoejjgaaClockG
import Derived.Test.YtfkkkcihoejjgaaShotC
set_option linter.unusedSimpArgs false
set_option linter.unusedVariables false
set_option maxHeartbeats 1000000
namespace Vg
theorem ckNow_self {t : Int} (h0 : 0 ≤ t) (h1 : t ≤ 4503599627370496) : ckNow (low t) t = (t, 0) := by
  have := ckNow_add (c := low t) (t := t) (k := 0) h0 (by omega) (by omega) (by unfold low; omega)
  rw [Int.add_zero] at this
  exact this
theorem ring_ahead {now at_ : Int} {a l : Bool} (h0 : now < at_) (h1 : at_ ≤ now + 4294967296) : ahead ⟨low now, low at_, a, l⟩ = at_ - now - 1 := by
  unfold ahead low
  simp only []
  omega
theorem ring_step {now at_ m : Int} (h0 : 0 ≤ now) (h1 : now < at_) (h2 : at_ ≤ now + 4294967296) (hm : 0 ≤ m) (h3 : now + m ≤ 4503599627370496) :
    ckStep ⟨low now, low at_, true, false, now⟩ m = (⟨low (now + m), low at_, !decide (at_ - now - 1 < m), decide (at_ - now - 1 < m), now + m⟩, 0) := by
  rw [ckStep_ok (k := ⟨low now, low at_, true, false, now⟩) (ckNow_self h0 (by omega)) hm (by omega)]
  unfold ckOf go
  simp only [Bool.true_and, Bool.false_or]
  rw [ring_ahead h1 h2]
  have e : (low now + m) % 4294967296 = low (now + m) := by unfold low; omega
  rw [e]
theorem ring_before {now at_ : Int} (h0 : 0 ≤ now) (h1 : now < at_) (h2 : at_ ≤ now + 4294967296) (h3 : at_ ≤ 4503599627370496) :
    ckStep ⟨low now, low at_, true, false, now⟩ (at_ - now - 1) = (⟨low (at_ - 1), low at_, true, false, at_ - 1⟩, 0) := by
  rw [ring_step h0 h1 h2 (by omega) (by omega), decide_eq_false (by omega), show now + (at_ - now - 1) = at_ - 1 by omega]
  rfl
theorem ring_last {at_ : Int} (h0 : 1 ≤ at_) (h3 : at_ ≤ 4503599627370496) :
    ckStep ⟨low (at_ - 1), low at_, true, false, at_ - 1⟩ 1 = (⟨low at_, low at_, false, true, at_⟩, 0) := by
  rw [ring_step (by omega) (by omega) (by omega) (by omega) (by omega), decide_eq_true (by omega), show at_ - 1 + 1 = at_ by omega]
  rfl
theorem ring_all {now at_ : Int} (h0 : 0 ≤ now) (h1 : now < at_) (h2 : at_ ≤ now + 4294967296) (h3 : at_ ≤ 4503599627370496) :
    ckStep ⟨low now, low at_, true, false, now⟩ (at_ - now) = (⟨low at_, low at_, false, true, at_⟩, 0) := by
  rw [ring_step h0 h1 h2 (by omega) (by omega), decide_eq_true (by omega), show now + (at_ - now) = at_ by omega]
  rfl
/-- What a plan is that is there, and not past. -/
theorem plan_bd {mn mx now dl k at_ : Int} (h : plan mn mx now dl = (k, at_, 0)) (hk : k ≠ 1) : (0 ≤ now ∧ now ≤ 4503599627370496) ∧ now < at_ ∧ at_ ≤ now + 2147483648 ∧ at_ ≤ 4503599627370496 := by
  unfold plan at h
  split at h
  · rename_i q1
    have b := tmB_true.1 q1
    split at h
    · rename_i q2
      have n := timeB_true.1 q2.1
      have d := timeB_true.1 q2.2
      split at h
      · rename_i q3
        have q := timeB_true.1 q3
        obtain ⟨⟨k2, a2⟩, ha⟩ : ∃ p, aim mn mx now dl = p := ⟨_, rfl⟩
        rw [ha] at h q
        simp only [Prod.mk.injEq, and_true] at h
        obtain ⟨rfl, rfl⟩ := h
        unfold aim at ha
        split at ha
        · simp only [Prod.mk.injEq] at ha; omega
        · split at ha
          · simp only [Prod.mk.injEq] at ha; simp only [] at q; omega
          · split at ha
            · simp only [Prod.mk.injEq] at ha; simp only [] at q; omega
            · simp only [Prod.mk.injEq] at ha; simp only [] at q; omega
      · simp at h
    · simp at h
  · simp at h
/-- Ticks that are not read in between. -/
theorem tick_range {k : Ck} {m t : Int} (h : ckNow k.c k.t = (t, 0)) (hm : 2147483648 ≤ m) : ckTick k m = (k, 1) := by
  unfold ckTick; rw [h, if_neg (by simp), if_pos hm]
theorem tick_over {k : Ck} {m t : Int} (h : ckNow k.c k.t = (t, 0)) (hm : m < 2147483648) (h1 : 4503599627370496 < t + m) : ckTick k m = (k, 6) := by
  unfold ckTick; rw [h, if_neg (by simp), if_neg (by omega), if_pos (show 4503599627370496 < t + m from h1)]
theorem tick_state {k : Ck} {m t : Int} (h : ckNow k.c k.t = (t, 0)) (hm : m < 2147483648) (h1 : t + m ≤ 4503599627370496) (h2 : 2147483648 ≤ t + m - k.t) : ckTick k m = (k, 7) := by
  unfold ckTick; rw [h, if_neg (by simp), if_neg (by omega), if_neg (by show ¬ 4503599627370496 < t + m; omega), if_pos (show 2147483648 ≤ t + m - k.t from h2)]
theorem tick_ok {k : Ck} {m t : Int} (h : ckNow k.c k.t = (t, 0)) (hm : m < 2147483648) (h1 : t + m ≤ 4503599627370496) (h2 : t + m - k.t < 2147483648) : ckTick k m = (ckOf (go ⟨k.c, k.n, k.a, k.l⟩ m) k.t, 0) := by
  unfold ckTick; rw [h, if_neg (by simp), if_neg (by omega), if_neg (by show ¬ 4503599627370496 < t + m; omega), if_neg (by show ¬ 2147483648 ≤ t + m - k.t; omega)]
theorem ckNow_tick {c last t m : Int} (hc : 0 ≤ c ∧ c ≤ 4294967295) (h : ckNow c last = (t, 0)) (h0 : 0 ≤ m) (h1 : t + m ≤ 4503599627370496) (h2 : t + m - last < 2147483648) : ckNow ((c + m) % 4294967296) last = (t + m, 0) := by
  obtain ⟨⟨a1, a2⟩, b1, b2, b3, b4⟩ := ckNow_ok h
  have e1 : last + ((c + m) % 4294967296 - low last) % 4294967296 = t + m := by unfold low at *; omega
  have e : extend last ((c + m) % 4294967296) = (t + m, 0) := by
    have a : timeB last = true := timeB_true.2 ⟨a1, a2⟩
    have b : timeB (t + m) = true := timeB_true.2 ⟨by omega, by omega⟩
    unfold extend
    rw [a, e1, b]
    rfl
  unfold ckNow
  rw [e, if_neg (by simp; omega)]
end Vg
