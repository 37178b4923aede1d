/- Law 3: handy contracts; lives. -/
import Derived.Test.YtfkkkcihoejjgaaTick
set_option linter.unusedSimpArgs false
set_option linter.unusedVariables false
set_option maxHeartbeats 1000000
set_option maxRecDepth 100000
namespace Go.Proofs.Ytfkkkcihoejjgaa
open Go.ChangeShapes Go.WideShapes Go.ChangeAt Go.RowKit Go.Shelf
theorem clock_step' {c n : Int} {ar la : Bool} {last m : Int} {c' n' : Int} {ar' la' : Bool} {last' no : Int} (h : Vg.ckStep ⟨c, n, ar, la, last⟩ m = (⟨c', n', ar', la', last'⟩, no)) (w : World) (hc : 0 ≤ c ∧ c ≤ 4294967295) :
    Calls Try.prog 18 #[ckV c n ar la last, .int .i64 m] w fun e w' => e = .returned (.tuple #[ckV c' n' ar' la' last', .int .i64 no]) ∧ Vg.Grows w w' := by
  refine (clock_step c n ar la last m w hc).mono ?_
  rw [h]; exact fun e w' q => q
theorem clock_tick' {c n : Int} {ar la : Bool} {last m : Int} {c' n' : Int} {ar' la' : Bool} {last' no : Int} (h : Vg.ckTick ⟨c, n, ar, la, last⟩ m = (⟨c', n', ar', la', last'⟩, no)) (w : World) (hc : 0 ≤ c ∧ c ≤ 4294967295) (h0 : 0 ≤ m) (hm : m ≤ 4294967295) :
    Calls Try.prog 23 #[ckV c n ar la last, .int .u32 m] w fun e w' => e = .returned (.tuple #[ckV c' n' ar' la' last', .int .i64 no]) ∧ Vg.Grows w w' := by
  refine (clock_tick c n ar la last m w hc h0 hm).mono ?_
  rw [h]; exact fun e w' q => q
theorem ref03_tick' {c n : Int} {ar la : Bool} {last m : Int} {c' n' : Int} {ar' la' : Bool} {last' no : Int} (h : Vg.ckTick ⟨c, n, ar, la, last⟩ m = (⟨c', n', ar', la', last'⟩, no)) (w : World) (hc : 0 ≤ c ∧ c ≤ 4294967295) (hn : 0 ≤ n ∧ n ≤ 4294967295) (h0 : 0 ≤ m) (hm : m ≤ 4294967295) :
    Calls Try.prog 24 #[ckV c n ar la last, .int .u32 m] w fun e w' => e = .returned (.tuple #[ckV c' n' ar' la' last', .int .i64 no]) ∧ Vg.Grows w w' := by
  refine (ref03_tick c n ar la last m w hc hn h0 hm).mono ?_
  rw [h]; exact fun e w' q => q
theorem clock_now' {c n : Int} {ar la : Bool} {last t no : Int} (h : Vg.ckNow c last = (t, no)) (w : World) (hc : 0 ≤ c ∧ c ≤ 4294967295) :
    Calls Try.prog 19 #[ckV c n ar la last] w fun e w' => e = .returned (.tuple #[.int .i64 t, .int .i64 no]) ∧ Vg.Grows w w' := by
  refine (clock_now c n ar la last w hc).mono ?_
  rw [h]; exact fun e w' q => q
theorem clock_check' {c n : Int} {ar la : Bool} {last t no : Int} (h : Vg.ckNow c last = (t, no)) (w : World) (hc : 0 ≤ c ∧ c ≤ 4294967295) :
    Calls Try.prog 27 #[ckV c n ar la last] w fun e w' => e = .returned (.int .i64 no) ∧ Vg.Grows w w' := by
  refine (clock_check c n ar la last w hc).mono ?_
  rw [h]; exact fun e w' q => q
theorem lives03 (w : World) : Calls Try.prog 26 #[] w fun e w' => e = .returned (.bool true) ∧ Vg.Grows w w' := by
  have e1 : (if Vg.timeB 4294967290 = true then Value.tuple #[ckV (Vg.low 4294967290) 0 false false 4294967290, .int .i64 0] else .tuple #[ckV 0 0 false false 0, .int .i64 1]) = .tuple #[ckV 4294967290 0 false false 4294967290, .int .i64 0] := by kernel_rfl
  have e2 : Vg.ckStep ⟨4294967290, 0, false, false, 4294967290⟩ 10 = (⟨4, 0, false, false, 4294967300⟩, 0) := by kernel_rfl
  have e3 : Vg.ckNow 4 4294967300 = (4294967300, 0) := by kernel_rfl
  have e4 : Vg.ckTick ⟨4, 0, false, false, 4294967300⟩ 5 = (⟨9, 0, false, false, 4294967300⟩, 0) := by kernel_rfl
  have e5 : (if (Vg.ckNow 9 4294967300).2 = 0 then Value.tuple #[ckV 9 0 false false (Vg.ckNow 9 4294967300).1, .int .i64 (Vg.ckNow 9 4294967300).1, .int .i64 0] else .tuple #[ckV 0 0 false false 0, .int .i64 0, .int .i64 2]) = .tuple #[ckV 9 0 false false 4294967305, .int .i64 4294967305, .int .i64 0] := by kernel_rfl
  have e6 : Vg.ckStep ⟨4294967290, 0, false, false, 4294967290⟩ 4503599627370496 = (⟨4294967290, 0, false, false, 4294967290⟩, 6) := by kernel_rfl
  have e7 : (if Vg.timeB (-1) = true then Value.tuple #[ckV (Vg.low (-1)) 0 false false (-1), .int .i64 0] else .tuple #[ckV 0 0 false false 0, .int .i64 1]) = .tuple #[ckV 0 0 false false 0, .int .i64 1] := by kernel_rfl
  have e8 : Vg.ckNow 2147483648 0 = (0, 2) := by kernel_rfl
  have e9 : Vg.ckTick ⟨9, 0, false, false, 4294967300⟩ 2147483643 = (⟨9, 0, false, false, 4294967300⟩, 7) := by kernel_rfl
  have H_e1 := Lib.hid e1; clear e1; have H_e2 := Lib.hid e2; clear e2; have H_e3 := Lib.hid e3; clear e3; have H_e4 := Lib.hid e4; clear e4; have H_e5 := Lib.hid e5; clear e5; have H_e6 := Lib.hid e6; clear e6; have H_e7 := Lib.hid e7; clear e7; have H_e8 := Lib.hid e8; clear e8; have H_e9 := Lib.hid e9; clear e9
  go_enter Try.func26, Try.ntmps26
  go_wp2_with (first | (go_at_call 14; (with_reducible refine (clock_make 4294967290 _).mono ?_); rintro e w1 ⟨rfl, x1, n1, rfl⟩; rw [H_e1.out]) | (go_at_call 14; (with_reducible refine (clock_make (-1) _).mono ?_); rintro e w1 ⟨rfl, x1, n1, rfl⟩; rw [H_e7.out]) | (go_at_call 18; (with_reducible refine (clock_step' H_e2.out _ (by omega)).mono ?_); rintro e w1 ⟨rfl, x1, n1, rfl⟩) | (go_at_call 18; (with_reducible refine (clock_step' H_e6.out _ (by omega)).mono ?_); rintro e w1 ⟨rfl, x1, n1, rfl⟩) | (go_at_call 19; (with_reducible refine (clock_now' H_e3.out _ (by omega)).mono ?_); rintro e w1 ⟨rfl, x1, n1, rfl⟩) | (go_at_call 19; (with_reducible refine (clock_now' H_e8.out _ (by omega)).mono ?_); rintro e w1 ⟨rfl, x1, n1, rfl⟩) | (go_at_call 23; (with_reducible refine (clock_tick' H_e4.out _ (by omega) (by omega) (by omega)).mono ?_); rintro e w1 ⟨rfl, x1, n1, rfl⟩) | (go_at_call 23; (with_reducible refine (clock_tick' H_e9.out _ (by omega) (by omega) (by omega)).mono ?_); rintro e w1 ⟨rfl, x1, n1, rfl⟩) | (go_at_call 21; (with_reducible refine (clock_read 9 0 false false 4294967300 _ (by omega)).mono ?_); rintro e w1 ⟨rfl, x1, n1, rfl⟩; rw [H_e5.out]) | (go_at_call 27; (with_reducible refine (clock_check' H_e3.out _ (by omega)).mono ?_); rintro e w1 ⟨rfl, x1, n1, rfl⟩))
  go_ret
  exact ⟨rfl, by (repeat' (first | (with_reducible exact Vg.Grows.refl _) | (with_reducible assumption) | (with_reducible refine Vg.Grows.alloc ?_ _) | (with_reducible refine Vg.Grows.plus ?_ _ _) | (with_reducible refine Vg.Grows.drewN ?_ _) | (with_reducible refine Vg.Grows.drew ?_) | (with_reducible refine Vg.Grows.setCell ?_ ?_ _) | (with_reducible refine Vg.Grows.put ?_ ?_ _) | omega | (simp; omega) | (simp; done)))⟩
end Go.Proofs.Ytfkkkcihoejjgaa
