/- ClockGoes: the plain law. -/
import Derived.Test.YtfkkkcihoejjgaaClockL
set_option linter.unusedSimpArgs false
set_option linter.unusedVariables false
set_option maxHeartbeats 1000000
namespace Vg
theorem ckStep_bad {k : Ck} {m : Int} (h : (ckNow k.c k.t).2 ≠ 0) : ckStep k m = (⟨0, 0, false, false, 0⟩, 2) := by unfold ckStep; rw [if_pos h]
theorem ckStep_over {k : Ck} {m t : Int} (h : ckNow k.c k.t = (t, 0)) (h0 : 0 ≤ m) (h1 : 4503599627370496 - t < m) : ckStep k m = (k, 6) := by
  unfold ckStep; rw [h, if_neg (by simp), if_neg (by omega), if_pos h1]
theorem ckStep_ok {k : Ck} {m t : Int} (h : ckNow k.c k.t = (t, 0)) (h0 : 0 ≤ m) (h1 : m ≤ 4503599627370496 - t) : ckStep k m = (ckOf (go ⟨k.c, k.n, k.a, k.l⟩ m) (t + m), 0) := by
  unfold ckStep; rw [h, if_neg (by simp), if_neg (by omega), if_neg (by show ¬ 4503599627370496 - t < m; omega)]
theorem ckNow_go {h : Hw} {t m : Int} (ht : 0 ≤ t) (h0 : 0 ≤ m) (hm : t + m ≤ 4503599627370496) (hc : h.count = low t) : ckNow (go h m).count (t + m) = (t + m, 0) := by
  have := ckNow_add (c := (go h m).count) (t := t + m) (k := 0) (by omega) (by omega) (by omega) (by show (h.count + m) % 4294967296 = _; rw [hc]; unfold low; omega)
  rw [Int.add_zero] at this
  exact this
theorem ckStep_step {h : Hw} {t m n : Int} (ht : 0 ≤ t) (h0 : 0 ≤ n) (h1 : 0 ≤ m) (hm : t + n + m ≤ 4503599627370496) (hc : h.count = low t) : ckStep (ckOf (go h n) (t + n)) m = (ckOf (go h (n + m)) (t + (n + m)), 0) := by
  rw [ckStep_ok (k := ckOf (go h n) (t + n)) (ckNow_go ht h0 (by omega) hc) h1 (by omega)]
  show (ckOf (go (go h n) m) (t + n + m), (0 : Int)) = _
  rw [go_go h n m h0 h1, Int.add_assoc]
end Vg
