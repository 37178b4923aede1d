/- Contracts of package wrap and of its reference (layer 1): each function comes to the plain function of this text's first part. No conditions but that the arguments fit their kinds. -/
import Derived.Test.YtfkkkcihoejjgaaChecked
import Derived.Test.YtfkkkcihoejjgaaCom
set_option linter.unusedSimpArgs false
set_option linter.unusedVariables false
namespace Vg
def low (t : Int) : Int := t % 4294967296
def diff (a b : Int) : Int := if (a - b) % 4294967296 < 2147483648 then (a - b) % 4294967296 else (a - b) % 4294967296 - 4294967296
def afterB (a b : Int) : Bool := decide (0 < diff a b)
def timeB (t : Int) : Bool := decide (0 ≤ t) && decide (t ≤ 4503599627370496)
def extend (last lo : Int) : Int × Int :=
  if !timeB last then (0, 1) else
  if !timeB (last + (lo - low last) % 4294967296) then (0, 6) else (last + (lo - low last) % 4294967296, 0)
def near (last lo : Int) : Int × Int :=
  if !timeB last then (0, 1) else
  if last + diff lo (low last) < 0 then (0, 3) else
  if 4503599627370496 < last + diff lo (low last) then (0, 6) else (last + diff lo (low last), 0)
theorem timeB_true {t : Int} : timeB t = true ↔ 0 ≤ t ∧ t ≤ 4503599627370496 := by simp [timeB]
theorem timeB_false {t : Int} : timeB t = false ↔ ¬ (0 ≤ t ∧ t ≤ 4503599627370496) := by simp [timeB]
theorem low_bd (t : Int) : 0 ≤ low t ∧ low t ≤ 4294967295 := by unfold low; omega
theorem diff_bd (a b : Int) : -2147483648 ≤ diff a b ∧ diff a b ≤ 2147483647 := by unfold diff; split <;> omega
theorem diff_eq {a b d : Int} (h : (a - b - d) % 4294967296 = 0) (h0 : -2147483648 ≤ d) (h1 : d ≤ 2147483647) : diff a b = d := by unfold diff; split <;> omega
theorem near_ok {last lo d : Int} (h : (lo - last - d) % 4294967296 = 0) (h0 : -2147483648 ≤ d) (h1 : d ≤ 2147483647) (h2 : 0 ≤ last) (h3 : last ≤ 4503599627370496) (h4 : 0 ≤ last + d) (h5 : last + d ≤ 4503599627370496) : near last lo = (last + d, 0) := by
  have e : diff lo (low last) = d := diff_eq (by unfold low; omega) h0 h1
  unfold near
  rw [timeB_true.2 ⟨h2, h3⟩, e, if_neg (by simp), if_neg (by omega), if_neg (by omega)]
theorem extend_bd (a b : Int) : 0 ≤ (extend a b).1 ∧ (extend a b).1 ≤ 4503599627370496 := by
  unfold extend; split
  · simp
  · split
    · simp
    · rename_i h; simp only [Bool.not_eq_true', Bool.not_eq_false, timeB_true] at h; exact h
theorem near_bd (a b : Int) : 0 ≤ (near a b).1 ∧ (near a b).1 ≤ 4503599627370496 := by
  unfold near; split
  · simp
  · split
    · simp
    · split
      · simp
      · simp; omega
theorem wrap32_low (x : Int) : Go.RowKit.wrap32 (x % 4294967296) = if x % 4294967296 < 2147483648 then x % 4294967296 else x % 4294967296 - 4294967296 := by
  unfold Go.RowKit.wrap32; split <;> omega
end Vg
namespace Go.Proofs.Ytfkkkcihoejjgaa
open Go.ChangeShapes Go.WideShapes Go.ChangeAt Go.RowKit
theorem u64_low (t : Int) : IntKind.u64.wrap t % 4294967296 = Vg.low t := by unfold Vg.low; simp only [IntKind.wrap_u64]; omega

theorem low_any (t : Int) (w : World) :
    Calls Try.prog 36 #[.int .i64 t] w fun e w' => e = .returned (.int .u32 (Vg.low t)) ∧ w = w' := by
  go_enter Try.func36, Try.ntmps36
  go_wp2
  go_ret
  exact ⟨ret_int (u64_low t), rfl⟩

theorem tmod_eq (t : Int) : t.tmod 4294967296 = if 0 ≤ t ∨ t % 4294967296 = 0 then t % 4294967296 else t % 4294967296 - 4294967296 := by
  rw [Int.tmod_eq_emod]
  split <;> rename_i h
  · rw [if_pos]; · omega
    rcases h with h | h
    · exact .inl h
    · exact .inr (by omega)
  · rw [if_neg]; · simp
    rintro (h' | h')
    · exact h (.inl h')
    · exact h (.inr (by omega))

theorem reflow_any (t : Int) (w : World) :
    Calls Try.prog 47 #[.int .i64 t] w fun e w' => e = .returned (.int .u32 (Vg.low t)) ∧ w = w' := by
  have ht := tmod_eq t
  have HT := Lib.hid ht; clear ht
  go_enter Try.func47, Try.ntmps47
  go_wp2
  all_goals go_ret
  all_goals exact ⟨ret_int (by have ht := HT.out; clear HT; show _ = t % 4294967296; (try simp only [wrap64]); split at ht <;> omega), rfl⟩

theorem diff_any (a b : Int) (w : World) :
    Calls Try.prog 37 #[.int .u32 a, .int .u32 b] w fun e w' => e = .returned (.int .i64 (Vg.diff a b)) ∧ w = w' := by
  go_enter Try.func37, Try.ntmps37
  go_wp2
  go_ret
  exact ⟨ret_int (by unfold Vg.diff; simp only [wrap64, wrap32]; split <;> omega), rfl⟩

theorem time_any (t : Int) (w : World) :
    Calls Try.prog 53 #[.int .i64 t] w fun e w' => e = .returned (.bool (Vg.timeB t)) ∧ w = w' := by
  go_enter Try.func53, Try.ntmps53
  go_wp2
  all_goals go_ret
  · exact ⟨ret_bool (by simp [Vg.timeB, *]), rfl⟩
  · exact ⟨ret_bool (by simp [Vg.timeB]; omega), rfl⟩

theorem reftime_any (t : Int) (w : World) :
    Calls Try.prog 45 #[.int .i64 t] w fun e w' => e = .returned (.bool (Vg.timeB t)) ∧ w = w' := by
  go_enter Try.func45, Try.ntmps45
  go_wp2
  all_goals go_ret
  · exact ⟨ret_bool (by simp [Vg.timeB, *]), rfl⟩
  · exact ⟨ret_bool (by simp [Vg.timeB]; omega), rfl⟩

theorem extend_any (last lo : Int) (w : World) :
    Calls Try.prog 43 #[.int .i64 last, .int .u32 lo] w fun e w' => e = .returned (.tuple #[.int .i64 (Vg.extend last lo).1, .int .i64 (Vg.extend last lo).2]) ∧ w = w' := by
  by_cases ht : Vg.timeB last = true
  · have h := Vg.timeB_true.1 ht
    go_enter Try.func43, Try.ntmps43
    go_wp2_with (first | (go_at_call 53; refine (time_any _ _).mono ?_; rintro e w' ⟨rfl, rfl⟩) | (go_at_call 36; refine (low_any _ _).mono ?_; rintro e w' ⟨rfl, rfl⟩))
    all_goals go_ret2
    all_goals exact ⟨by simp [Vg.extend, *], rfl⟩
  · simp only [Bool.not_eq_true] at ht
    go_enter Try.func43, Try.ntmps43
    go_wp2_with (first | (go_at_call 53; refine (time_any _ _).mono ?_; rintro e w' ⟨rfl, rfl⟩) | (go_at_call 36; refine (low_any _ _).mono ?_; rintro e w' ⟨rfl, rfl⟩))
    go_ret2
    exact ⟨by simp [Vg.extend, *], rfl⟩

theorem refextend_any (last lo : Int) (w : World) (hl : 0 ≤ lo) (hl' : lo ≤ 4294967295) :
    Calls Try.prog 44 #[.int .i64 last, .int .u32 lo] w fun e w' => e = .returned (.tuple #[.int .i64 (Vg.extend last lo).1, .int .i64 (Vg.extend last lo).2]) ∧ w = w' := by
  by_cases ht : Vg.timeB last = true
  · have h := Vg.timeB_true.1 ht
    have hx : Vg.extend last lo = if !Vg.timeB (last + (lo - Vg.low last) % 4294967296) then (0, 6) else (last + (lo - Vg.low last) % 4294967296, 0) := by
      simp [Vg.extend, ht]
    have HX := Lib.hid hx; clear hx
    go_enter Try.func44, Try.ntmps44
    go_wp2_with (first | (go_at_call 45; refine (reftime_any _ _).mono ?_; rintro e w' ⟨rfl, rfl⟩))
    all_goals go_ret2
    all_goals refine ⟨ret_ii ?_, rfl⟩
    all_goals rw [HX.out]
    · rw [show last + (lo - Vg.low last) % 4294967296 = last - last % 4294967296 + lo + 4294967296 from by unfold Vg.low; omega, if_pos ‹_›]
    · rw [show last + (lo - Vg.low last) % 4294967296 = last - last % 4294967296 + lo + 4294967296 from by unfold Vg.low; omega, if_neg (by simp [*])]
    · rw [show last + (lo - Vg.low last) % 4294967296 = last - last % 4294967296 + lo from by unfold Vg.low; omega, if_pos ‹_›]
    · rw [show last + (lo - Vg.low last) % 4294967296 = last - last % 4294967296 + lo from by unfold Vg.low; omega, if_neg (by simp [*])]
  · simp only [Bool.not_eq_true] at ht
    go_enter Try.func44, Try.ntmps44
    go_wp2_with (first | (go_at_call 45; refine (reftime_any _ _).mono ?_; rintro e w' ⟨rfl, rfl⟩))
    go_ret2
    exact ⟨by simp [Vg.extend, *], rfl⟩

end Go.Proofs.Ytfkkkcihoejjgaa
