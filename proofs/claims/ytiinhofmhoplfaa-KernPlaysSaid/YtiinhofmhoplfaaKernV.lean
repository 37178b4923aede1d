/- Law 14: lives. -/
import Derived.Test.YtiinhofmhoplfaaKernZ
set_option linter.unusedSimpArgs false
set_option linter.unusedVariables false
set_option maxHeartbeats 8000000
set_option maxRecDepth 100000
namespace Vg.L14
open Go
def ta : Tk := ⟨0, 3, 0, 0, 0, 0, 1, 0, 1, 4⟩
def tb : Tk := ⟨0, 5, 0, 0, 0, 0, 2, 0, 1, 4⟩
def Mf : List Mx := [⟨5, false, 0⟩, ⟨0, false, 0⟩, ⟨0, false, 0⟩, ⟨0, false, 0⟩, ⟨0, false, 0⟩, ⟨0, false, 0⟩, ⟨0, false, 0⟩, ⟨0, false, 0⟩, ⟨0, false, 0⟩, ⟨0, false, 0⟩, ⟨0, false, 0⟩, ⟨0, false, 0⟩, ⟨0, false, 0⟩, ⟨0, false, 0⟩, ⟨0, false, 0⟩, ⟨0, false, 0⟩]
def Mh : List Mx := [⟨5, true, 0⟩, ⟨0, false, 0⟩, ⟨0, false, 0⟩, ⟨0, false, 0⟩, ⟨0, false, 0⟩, ⟨0, false, 0⟩, ⟨0, false, 0⟩, ⟨0, false, 0⟩, ⟨0, false, 0⟩, ⟨0, false, 0⟩, ⟨0, false, 0⟩, ⟨0, false, 0⟩, ⟨0, false, 0⟩, ⟨0, false, 0⟩, ⟨0, false, 0⟩, ⟨0, false, 0⟩]
def K0 : List Kt := [⟨ta, [], 0, false⟩, ⟨tb, [], 0, false⟩]
def K1 : List Kt := [⟨ta, [⟨6, 10, 0⟩], 0, false⟩, ⟨tb, [], 0, false⟩]
def K2 : List Kt := [⟨ta, [⟨6, 10, 0⟩], 1, false⟩, ⟨tb, [], 0, false⟩]
def K3 : List Kt := [⟨ta, [⟨6, 10, 2⟩], 1, false⟩, ⟨tb, [], 0, false⟩]
def K4 : List Kt := [⟨ta, [⟨6, 10, 2⟩], 1, false⟩, ⟨tb, [⟨3, 11, 0⟩], 0, false⟩]
def K5 : List Kt := [⟨ta, [⟨6, 10, 4⟩], 1, false⟩, ⟨tb, [⟨3, 11, 0⟩], 0, false⟩]
def K6 : List Kt := [⟨ta, [⟨6, 10, 4⟩], 1, false⟩, ⟨tb, [], 0, false⟩]
def K7 : List Kt := [⟨ta, [⟨6, 10, 4⟩], 1, true⟩, ⟨tb, [], 0, false⟩]
theorem c0 : Kn.check [ta, tb] = 0 := by decide
theorem c1 : Kn.check [ta, ta] = 12 := by decide
theorem c2 : Kn.check [] = 1 := by decide
theorem k0 : Kn.K0 [ta, tb] = K0 := rfl
theorem m0 : Kn.M0 [ta, tb] = Mf := rfl
theorem e1 : Kn.release K0 0 6 10 = (K1, 0) := rfl
theorem e2 : Kn.release K1 0 6 10 = (K2, 5) := rfl
theorem e3 : Kn.left K2 Mf = 4 := rfl
theorem e4 : Kn.run K2 Mf 2 = (K3, Mh, (0, 0, 0), false, 0) := rfl
theorem e5 : Kn.level K3 Mh 0 = 5 := rfl
theorem e6 : Kn.holds K3 Mh 0 = true := rfl
theorem e7 : Kn.release K3 1 3 11 = (K4, 0) := rfl
theorem e8 : Kn.suspend K4 Mh 0 = (K4, 7) := rfl
theorem e9 : Kn.best K4 Mh = 0 := rfl
theorem e10 : Kn.left K4 Mh = 2 := rfl
theorem e11 : Kn.run K4 Mh 2 = (K5, Mf, (0, 0, 0), false, 0) := rfl
theorem e12 : Kn.best K5 Mf = 1 := rfl
theorem e13 : Kn.run K5 Mf 3 = (K6, Mf, (1, 3, 11), true, 0) := rfl
theorem e14 : Kn.run K6 Mf 3 = (K6, Mf, (0, 0, 0), false, 1) := rfl
theorem e15 : Kn.suspend K6 Mf 0 = (K7, 0) := rfl
theorem e16 : Kn.resume K7 1 = (K7, 7) := rfl
theorem e17 : Kn.best K7 Mf = -1 := rfl
theorem e18 : Kn.waiting K7 0 = 1 := rfl
theorem e19 : Kn.lost K7 0 = 1 := rfl
theorem i0 : Kn.Inv 0 K0 := by rw [← k0]; exact Kn.inv0 (by decide)
theorem i1 : Kn.Inv 1 K1 := i0.release 0 6 10
theorem i2 : Kn.Inv 2 K2 := i1.release 0 6 10
theorem i3 : Kn.Inv 2 K3 := i2.run Mf 2
theorem i4 : Kn.Inv 3 K4 := i3.release 1 3 11
theorem i5 : Kn.Inv 3 K5 := i4.run Mh 2
theorem i6 : Kn.Inv 3 K6 := i5.run Mf 3
end Vg.L14
namespace Go.Proofs.Ytiinhofmhoplfaa
open Go.ChangeShapes Go.WideShapes Go.ChangeAt Go.RowKit
theorem lives14 (w : World) : Calls Try.prog 63 #[] w fun e w' => e = .returned (.bool true) ∧ Vg.Grows w w' := by
  go_enter Try.func63, Try.ntmps63
  go_wp2_with fail
  refine (kz_new (w0 := w) (by (repeat' (first | (with_reducible exact Vg.Grows.refl _) | (with_reducible assumption) | (with_reducible refine Vg.Grows.alloc ?_ _) | (with_reducible refine Vg.Grows.plus ?_ _ _) | (with_reducible refine Vg.Grows.drewN ?_ _) | (with_reducible refine Vg.Grows.drew ?_) | (with_reducible refine Vg.Grows.setCell ?_ ?_ _) | (with_reducible refine Vg.Grows.put ?_ ?_ _) | omega | (simp; omega) | (simp; done)))) (Vg.TK.block (T := [Vg.L14.ta, Vg.L14.tb]) (Vg.alloc_heap_at (by (try simp only [World.size_alloc, Vg.plus_size, Vg.put_size, World.size_setCell, World.size_drew]) <;> omega)) (by simp [maxLen])) rfl Vg.L14.c0 Vg.L14.k0 Vg.L14.m0).mono ?_
  rintro e w1 ⟨b, rfl, hz1, hg1⟩
  have y1 : Vg.blk w1 w.heap.size = some (.cells #[.int .u8 0, .int .i64 3, .int .i64 0, .int .i64 0, .int .i64 0, .int .i64 0, .int .i64 1, .int .i64 0, .int .i64 1, .int .i64 4] 129) := hg1.blk (by go_simp)
  clear hg1
  have c_y1 := Vg.cells_of y1; have f_y1 := Vg.frozen_of y1; have p_y1 := Vg.setCell_of y1; have l_y1 := Vg.lt_of y1; have H_y1 := Lib.hid y1; clear y1
  have H_hz1 := Lib.hid hz1; clear hz1
  go_wp2_with fail
  refine (kern_new_no (T := [Vg.L14.ta, Vg.L14.ta]) (Vg.TK.block (T := [Vg.L14.ta, Vg.L14.ta]) (Vg.alloc_heap_at (by (try simp only [World.size_alloc, Vg.plus_size, Vg.put_size, World.size_setCell, World.size_drew]) <;> omega)) (by simp [maxLen])) rfl Vg.L14.c1 (by decide)).mono ?_
  rintro e w2 ⟨rfl, hg2⟩
  have hz2 := H_hz1.out.grows (Vg.Grows.trans (by (repeat' (first | (with_reducible exact Vg.Grows.refl _) | (with_reducible assumption) | (with_reducible refine Vg.Grows.alloc ?_ _) | (with_reducible refine Vg.Grows.plus ?_ _ _) | (with_reducible refine Vg.Grows.drewN ?_ _) | (with_reducible refine Vg.Grows.drew ?_) | (with_reducible refine Vg.Grows.setCell ?_ ?_ _) | (with_reducible refine Vg.Grows.put ?_ ?_ _) | omega | (simp; omega) | (simp; done)))) hg2)
  clear hg2
  clear c_y1 f_y1 p_y1
  have H_hz2 := Lib.hid hz2; clear hz2
  go_wp2_with fail
  refine (kern_new_no (T := []) ⟨Nat.le_refl _, Nat.zero_le _, fun k hk => by simp at hk⟩ rfl Vg.L14.c2 (by decide)).mono ?_
  rintro e w3 ⟨rfl, hg3⟩
  have hz3 := H_hz2.out.grows hg3
  clear hg3
  have H_hz3 := Lib.hid hz3; clear hz3
  go_wp2_with fail
  refine (kz_release 0 6 10 (H_hz3.out.grows (by (repeat' (first | (with_reducible exact Vg.Grows.refl _) | (with_reducible assumption) | (with_reducible refine Vg.Grows.alloc ?_ _) | (with_reducible refine Vg.Grows.plus ?_ _ _) | (with_reducible refine Vg.Grows.drewN ?_ _) | (with_reducible refine Vg.Grows.drew ?_) | (with_reducible refine Vg.Grows.setCell ?_ ?_ _) | (with_reducible refine Vg.Grows.put ?_ ?_ _) | omega | (simp; omega) | (simp; done))))) Vg.L14.i0 (by decide) Vg.L14.e1).mono ?_
  rintro e w4 ⟨rfl, hz4, -⟩
  have H_hz4 := Lib.hid hz4; clear hz4
  go_wp2_with fail
  refine (kz_release 0 6 10 (H_hz4.out.grows (by (repeat' (first | (with_reducible exact Vg.Grows.refl _) | (with_reducible assumption) | (with_reducible refine Vg.Grows.alloc ?_ _) | (with_reducible refine Vg.Grows.plus ?_ _ _) | (with_reducible refine Vg.Grows.drewN ?_ _) | (with_reducible refine Vg.Grows.drew ?_) | (with_reducible refine Vg.Grows.setCell ?_ ?_ _) | (with_reducible refine Vg.Grows.put ?_ ?_ _) | omega | (simp; omega) | (simp; done))))) Vg.L14.i1 (by decide) Vg.L14.e2).mono ?_
  rintro e w5 ⟨rfl, hz5, -⟩
  have H_hz5 := Lib.hid hz5; clear hz5
  go_wp2_with fail
  refine (kz_left (H_hz5.out.grows (by (repeat' (first | (with_reducible exact Vg.Grows.refl _) | (with_reducible assumption) | (with_reducible refine Vg.Grows.alloc ?_ _) | (with_reducible refine Vg.Grows.plus ?_ _ _) | (with_reducible refine Vg.Grows.drewN ?_ _) | (with_reducible refine Vg.Grows.drew ?_) | (with_reducible refine Vg.Grows.setCell ?_ ?_ _) | (with_reducible refine Vg.Grows.put ?_ ?_ _) | omega | (simp; omega) | (simp; done))))) Vg.L14.i2 Vg.L14.e3).mono ?_
  rintro e w6 ⟨rfl, hg⟩
  have hz6 := (H_hz5.out.grows (by (repeat' (first | (with_reducible exact Vg.Grows.refl _) | (with_reducible assumption) | (with_reducible refine Vg.Grows.alloc ?_ _) | (with_reducible refine Vg.Grows.plus ?_ _ _) | (with_reducible refine Vg.Grows.drewN ?_ _) | (with_reducible refine Vg.Grows.drew ?_) | (with_reducible refine Vg.Grows.setCell ?_ ?_ _) | (with_reducible refine Vg.Grows.put ?_ ?_ _) | omega | (simp; omega) | (simp; done))))).grows hg
  have H_hz6 := Lib.hid hz6; clear hz6
  clear hg
  go_wp2_with fail
  refine (kz_run (m := 2) (H_hz6.out.grows (by (repeat' (first | (with_reducible exact Vg.Grows.refl _) | (with_reducible assumption) | (with_reducible refine Vg.Grows.alloc ?_ _) | (with_reducible refine Vg.Grows.plus ?_ _ _) | (with_reducible refine Vg.Grows.drewN ?_ _) | (with_reducible refine Vg.Grows.drew ?_) | (with_reducible refine Vg.Grows.setCell ?_ ?_ _) | (with_reducible refine Vg.Grows.put ?_ ?_ _) | omega | (simp; omega) | (simp; done))))) Vg.L14.i2 Vg.L14.e4).mono ?_
  rintro e w7 ⟨rfl, hz7, -⟩
  have H_hz7 := Lib.hid hz7; clear hz7
  go_wp2_with fail
  refine (kz_level 0 (H_hz7.out.grows (by (repeat' (first | (with_reducible exact Vg.Grows.refl _) | (with_reducible assumption) | (with_reducible refine Vg.Grows.alloc ?_ _) | (with_reducible refine Vg.Grows.plus ?_ _ _) | (with_reducible refine Vg.Grows.drewN ?_ _) | (with_reducible refine Vg.Grows.drew ?_) | (with_reducible refine Vg.Grows.setCell ?_ ?_ _) | (with_reducible refine Vg.Grows.put ?_ ?_ _) | omega | (simp; omega) | (simp; done))))) Vg.L14.e5).mono ?_
  rintro e w8 ⟨rfl, hg⟩
  have hz8 := (H_hz7.out.grows (by (repeat' (first | (with_reducible exact Vg.Grows.refl _) | (with_reducible assumption) | (with_reducible refine Vg.Grows.alloc ?_ _) | (with_reducible refine Vg.Grows.plus ?_ _ _) | (with_reducible refine Vg.Grows.drewN ?_ _) | (with_reducible refine Vg.Grows.drew ?_) | (with_reducible refine Vg.Grows.setCell ?_ ?_ _) | (with_reducible refine Vg.Grows.put ?_ ?_ _) | omega | (simp; omega) | (simp; done))))).grows hg
  have H_hz8 := Lib.hid hz8; clear hz8
  clear hg
  go_wp2_with fail
  refine (kz_holds 0 (H_hz8.out.grows (by (repeat' (first | (with_reducible exact Vg.Grows.refl _) | (with_reducible assumption) | (with_reducible refine Vg.Grows.alloc ?_ _) | (with_reducible refine Vg.Grows.plus ?_ _ _) | (with_reducible refine Vg.Grows.drewN ?_ _) | (with_reducible refine Vg.Grows.drew ?_) | (with_reducible refine Vg.Grows.setCell ?_ ?_ _) | (with_reducible refine Vg.Grows.put ?_ ?_ _) | omega | (simp; omega) | (simp; done))))) Vg.L14.e6).mono ?_
  rintro e w9 ⟨rfl, hg⟩
  have hz9 := (H_hz8.out.grows (by (repeat' (first | (with_reducible exact Vg.Grows.refl _) | (with_reducible assumption) | (with_reducible refine Vg.Grows.alloc ?_ _) | (with_reducible refine Vg.Grows.plus ?_ _ _) | (with_reducible refine Vg.Grows.drewN ?_ _) | (with_reducible refine Vg.Grows.drew ?_) | (with_reducible refine Vg.Grows.setCell ?_ ?_ _) | (with_reducible refine Vg.Grows.put ?_ ?_ _) | omega | (simp; omega) | (simp; done))))).grows hg
  have H_hz9 := Lib.hid hz9; clear hz9
  clear hg
  go_wp2_with fail
  refine (kz_release 1 3 11 (H_hz9.out.grows (by (repeat' (first | (with_reducible exact Vg.Grows.refl _) | (with_reducible assumption) | (with_reducible refine Vg.Grows.alloc ?_ _) | (with_reducible refine Vg.Grows.plus ?_ _ _) | (with_reducible refine Vg.Grows.drewN ?_ _) | (with_reducible refine Vg.Grows.drew ?_) | (with_reducible refine Vg.Grows.setCell ?_ ?_ _) | (with_reducible refine Vg.Grows.put ?_ ?_ _) | omega | (simp; omega) | (simp; done))))) Vg.L14.i3 (by decide) Vg.L14.e7).mono ?_
  rintro e w10 ⟨rfl, hz10, -⟩
  have H_hz10 := Lib.hid hz10; clear hz10
  go_wp2_with fail
  refine (kz_suspend 0 (H_hz10.out.grows (by (repeat' (first | (with_reducible exact Vg.Grows.refl _) | (with_reducible assumption) | (with_reducible refine Vg.Grows.alloc ?_ _) | (with_reducible refine Vg.Grows.plus ?_ _ _) | (with_reducible refine Vg.Grows.drewN ?_ _) | (with_reducible refine Vg.Grows.drew ?_) | (with_reducible refine Vg.Grows.setCell ?_ ?_ _) | (with_reducible refine Vg.Grows.put ?_ ?_ _) | omega | (simp; omega) | (simp; done))))) Vg.L14.e8).mono ?_
  rintro e w11 ⟨rfl, hz11, -⟩
  have H_hz11 := Lib.hid hz11; clear hz11
  go_wp2_with fail
  refine (kz_pick (m := 0) (is := true) (H_hz11.out.grows (by (repeat' (first | (with_reducible exact Vg.Grows.refl _) | (with_reducible assumption) | (with_reducible refine Vg.Grows.alloc ?_ _) | (with_reducible refine Vg.Grows.plus ?_ _ _) | (with_reducible refine Vg.Grows.drewN ?_ _) | (with_reducible refine Vg.Grows.drew ?_) | (with_reducible refine Vg.Grows.setCell ?_ ?_ _) | (with_reducible refine Vg.Grows.put ?_ ?_ _) | omega | (simp; omega) | (simp; done))))) Vg.L14.e9 (by decide) (by decide)).mono ?_
  rintro e w12 ⟨rfl, hg⟩
  have hz12 := (H_hz11.out.grows (by (repeat' (first | (with_reducible exact Vg.Grows.refl _) | (with_reducible assumption) | (with_reducible refine Vg.Grows.alloc ?_ _) | (with_reducible refine Vg.Grows.plus ?_ _ _) | (with_reducible refine Vg.Grows.drewN ?_ _) | (with_reducible refine Vg.Grows.drew ?_) | (with_reducible refine Vg.Grows.setCell ?_ ?_ _) | (with_reducible refine Vg.Grows.put ?_ ?_ _) | omega | (simp; omega) | (simp; done))))).grows hg
  have H_hz12 := Lib.hid hz12; clear hz12
  clear hg
  go_wp2_with fail
  refine (kz_left (H_hz12.out.grows (by (repeat' (first | (with_reducible exact Vg.Grows.refl _) | (with_reducible assumption) | (with_reducible refine Vg.Grows.alloc ?_ _) | (with_reducible refine Vg.Grows.plus ?_ _ _) | (with_reducible refine Vg.Grows.drewN ?_ _) | (with_reducible refine Vg.Grows.drew ?_) | (with_reducible refine Vg.Grows.setCell ?_ ?_ _) | (with_reducible refine Vg.Grows.put ?_ ?_ _) | omega | (simp; omega) | (simp; done))))) Vg.L14.i4 Vg.L14.e10).mono ?_
  rintro e w13 ⟨rfl, hg⟩
  have hz13 := (H_hz12.out.grows (by (repeat' (first | (with_reducible exact Vg.Grows.refl _) | (with_reducible assumption) | (with_reducible refine Vg.Grows.alloc ?_ _) | (with_reducible refine Vg.Grows.plus ?_ _ _) | (with_reducible refine Vg.Grows.drewN ?_ _) | (with_reducible refine Vg.Grows.drew ?_) | (with_reducible refine Vg.Grows.setCell ?_ ?_ _) | (with_reducible refine Vg.Grows.put ?_ ?_ _) | omega | (simp; omega) | (simp; done))))).grows hg
  have H_hz13 := Lib.hid hz13; clear hz13
  clear hg
  go_wp2_with fail
  refine (kz_run (m := 2) (H_hz13.out.grows (by (repeat' (first | (with_reducible exact Vg.Grows.refl _) | (with_reducible assumption) | (with_reducible refine Vg.Grows.alloc ?_ _) | (with_reducible refine Vg.Grows.plus ?_ _ _) | (with_reducible refine Vg.Grows.drewN ?_ _) | (with_reducible refine Vg.Grows.drew ?_) | (with_reducible refine Vg.Grows.setCell ?_ ?_ _) | (with_reducible refine Vg.Grows.put ?_ ?_ _) | omega | (simp; omega) | (simp; done))))) Vg.L14.i4 Vg.L14.e11).mono ?_
  rintro e w14 ⟨rfl, hz14, -⟩
  have H_hz14 := Lib.hid hz14; clear hz14
  go_wp2_with fail
  refine (kz_pick (m := 1) (is := true) (H_hz14.out.grows (by (repeat' (first | (with_reducible exact Vg.Grows.refl _) | (with_reducible assumption) | (with_reducible refine Vg.Grows.alloc ?_ _) | (with_reducible refine Vg.Grows.plus ?_ _ _) | (with_reducible refine Vg.Grows.drewN ?_ _) | (with_reducible refine Vg.Grows.drew ?_) | (with_reducible refine Vg.Grows.setCell ?_ ?_ _) | (with_reducible refine Vg.Grows.put ?_ ?_ _) | omega | (simp; omega) | (simp; done))))) Vg.L14.e12 (by decide) (by decide)).mono ?_
  rintro e w15 ⟨rfl, hg⟩
  have hz15 := (H_hz14.out.grows (by (repeat' (first | (with_reducible exact Vg.Grows.refl _) | (with_reducible assumption) | (with_reducible refine Vg.Grows.alloc ?_ _) | (with_reducible refine Vg.Grows.plus ?_ _ _) | (with_reducible refine Vg.Grows.drewN ?_ _) | (with_reducible refine Vg.Grows.drew ?_) | (with_reducible refine Vg.Grows.setCell ?_ ?_ _) | (with_reducible refine Vg.Grows.put ?_ ?_ _) | omega | (simp; omega) | (simp; done))))).grows hg
  have H_hz15 := Lib.hid hz15; clear hz15
  clear hg
  go_wp2_with fail
  refine (kz_run (m := 3) (H_hz15.out.grows (by (repeat' (first | (with_reducible exact Vg.Grows.refl _) | (with_reducible assumption) | (with_reducible refine Vg.Grows.alloc ?_ _) | (with_reducible refine Vg.Grows.plus ?_ _ _) | (with_reducible refine Vg.Grows.drewN ?_ _) | (with_reducible refine Vg.Grows.drew ?_) | (with_reducible refine Vg.Grows.setCell ?_ ?_ _) | (with_reducible refine Vg.Grows.put ?_ ?_ _) | omega | (simp; omega) | (simp; done))))) Vg.L14.i5 Vg.L14.e13).mono ?_
  rintro e w16 ⟨rfl, hz16, -⟩
  have H_hz16 := Lib.hid hz16; clear hz16
  have ho := KZ.other (w' := w16.alloc (.cells #[.int .i64 1, .int .i64 3, .int .i64 11] 124)) (S' := fun k => k = w16.heap.size) (t := fun _ => False) H_hz16.out (Vg.Touch.of_grows (by (repeat' (first | (with_reducible exact Vg.Grows.refl _) | (with_reducible assumption) | (with_reducible refine Vg.Grows.alloc ?_ _) | (with_reducible refine Vg.Grows.plus ?_ _ _) | (with_reducible refine Vg.Grows.drewN ?_ _) | (with_reducible refine Vg.Grows.drew ?_) | (with_reducible refine Vg.Grows.setCell ?_ ?_ _) | (with_reducible refine Vg.Grows.put ?_ ?_ _) | omega | (simp; omega) | (simp; done))))) (fun k hk => hk) (H_hz16.out.gr.alloc _) (fun k hk => by subst hk; exact ⟨.inr (Nat.le_refl _), by simp⟩)
  have y2 : Vg.blk (w16.alloc (.cells #[.int .i64 1, .int .i64 3, .int .i64 11] 124)) w16.heap.size = some (.cells #[.int .i64 1, .int .i64 3, .int .i64 11] 124) := Vg.alloc_heap_at rfl
  obtain ⟨p, hp⟩ : ∃ p, w16.heap.size = p := ⟨_, rfl⟩
  rw [hp] at y2 ho
  have H_ho := Lib.hid ho; clear ho; have H_y2 := Lib.hid y2; clear y2
  go_wp2_with fail
  (try simp only [hp])
  refine (kz_run (m := 3) H_ho.out Vg.L14.i6 Vg.L14.e14).mono ?_
  rintro e w17 ⟨rfl, hz17, hk⟩
  have y3 := hk.blk H_y2.out rfl
  clear hk
  have H_hz17 := Lib.hid hz17; clear hz17; have H_y3 := Lib.hid y3; clear y3
  go_wp2_with fail
  refine (kz_suspend 0 (H_hz17.out.grows (by (repeat' (first | (with_reducible exact Vg.Grows.refl _) | (with_reducible assumption) | (with_reducible refine Vg.Grows.alloc ?_ _) | (with_reducible refine Vg.Grows.plus ?_ _ _) | (with_reducible refine Vg.Grows.drewN ?_ _) | (with_reducible refine Vg.Grows.drew ?_) | (with_reducible refine Vg.Grows.setCell ?_ ?_ _) | (with_reducible refine Vg.Grows.put ?_ ?_ _) | omega | (simp; omega) | (simp; done))))) Vg.L14.e15).mono ?_
  rintro e w18 ⟨rfl, hz18, hk⟩
  have y4 := hk.blk (Vg.Grows.blk (w0 := w17) (by (repeat' (first | (with_reducible exact Vg.Grows.refl _) | (with_reducible assumption) | (with_reducible refine Vg.Grows.alloc ?_ _) | (with_reducible refine Vg.Grows.plus ?_ _ _) | (with_reducible refine Vg.Grows.drewN ?_ _) | (with_reducible refine Vg.Grows.drew ?_) | (with_reducible refine Vg.Grows.setCell ?_ ?_ _) | (with_reducible refine Vg.Grows.put ?_ ?_ _) | omega | (simp; omega) | (simp; done)))) H_y3.out) rfl
  clear hk
  have H_hz18 := Lib.hid hz18; clear hz18; have H_y4 := Lib.hid y4; clear y4
  go_wp2_with fail
  refine (kz_resume 1 (H_hz18.out.grows (by (repeat' (first | (with_reducible exact Vg.Grows.refl _) | (with_reducible assumption) | (with_reducible refine Vg.Grows.alloc ?_ _) | (with_reducible refine Vg.Grows.plus ?_ _ _) | (with_reducible refine Vg.Grows.drewN ?_ _) | (with_reducible refine Vg.Grows.drew ?_) | (with_reducible refine Vg.Grows.setCell ?_ ?_ _) | (with_reducible refine Vg.Grows.put ?_ ?_ _) | omega | (simp; omega) | (simp; done))))) Vg.L14.e16).mono ?_
  rintro e w19 ⟨rfl, hz19, hk⟩
  have y5 := hk.blk (Vg.Grows.blk (w0 := w18) (by (repeat' (first | (with_reducible exact Vg.Grows.refl _) | (with_reducible assumption) | (with_reducible refine Vg.Grows.alloc ?_ _) | (with_reducible refine Vg.Grows.plus ?_ _ _) | (with_reducible refine Vg.Grows.drewN ?_ _) | (with_reducible refine Vg.Grows.drew ?_) | (with_reducible refine Vg.Grows.setCell ?_ ?_ _) | (with_reducible refine Vg.Grows.put ?_ ?_ _) | omega | (simp; omega) | (simp; done)))) H_y4.out) rfl
  clear hk
  have H_hz19 := Lib.hid hz19; clear hz19; have H_y5 := Lib.hid y5; clear y5
  go_wp2_with fail
  refine (kz_pick (m := 0) (is := false) (H_hz19.out.grows (by (repeat' (first | (with_reducible exact Vg.Grows.refl _) | (with_reducible assumption) | (with_reducible refine Vg.Grows.alloc ?_ _) | (with_reducible refine Vg.Grows.plus ?_ _ _) | (with_reducible refine Vg.Grows.drewN ?_ _) | (with_reducible refine Vg.Grows.drew ?_) | (with_reducible refine Vg.Grows.setCell ?_ ?_ _) | (with_reducible refine Vg.Grows.put ?_ ?_ _) | omega | (simp; omega) | (simp; done))))) Vg.L14.e17 (by decide) (by decide)).mono ?_
  rintro e w20 ⟨rfl, hg⟩
  have hz20 := (H_hz19.out.grows (by (repeat' (first | (with_reducible exact Vg.Grows.refl _) | (with_reducible assumption) | (with_reducible refine Vg.Grows.alloc ?_ _) | (with_reducible refine Vg.Grows.plus ?_ _ _) | (with_reducible refine Vg.Grows.drewN ?_ _) | (with_reducible refine Vg.Grows.drew ?_) | (with_reducible refine Vg.Grows.setCell ?_ ?_ _) | (with_reducible refine Vg.Grows.put ?_ ?_ _) | omega | (simp; omega) | (simp; done))))).grows hg
  have y6 := hg.blk (Vg.Grows.blk (w0 := w19) (by (repeat' (first | (with_reducible exact Vg.Grows.refl _) | (with_reducible assumption) | (with_reducible refine Vg.Grows.alloc ?_ _) | (with_reducible refine Vg.Grows.plus ?_ _ _) | (with_reducible refine Vg.Grows.drewN ?_ _) | (with_reducible refine Vg.Grows.drew ?_) | (with_reducible refine Vg.Grows.setCell ?_ ?_ _) | (with_reducible refine Vg.Grows.put ?_ ?_ _) | omega | (simp; omega) | (simp; done)))) H_y5.out)
  clear hg
  have c_y6 := Vg.cells_of y6; have f_y6 := Vg.frozen_of y6; have p_y6 := Vg.setCell_of y6; have l_y6 := Vg.lt_of y6; have H_y6 := Lib.hid y6; clear y6
  have H_hz20 := Lib.hid hz20; clear hz20
  go_wp2_with (first | (go_at_call 76; refine (kz_waiting 0 (H_hz20.out.grows (by (repeat' (first | (with_reducible exact Vg.Grows.refl _) | (with_reducible assumption) | (with_reducible refine Vg.Grows.alloc ?_ _) | (with_reducible refine Vg.Grows.plus ?_ _ _) | (with_reducible refine Vg.Grows.drewN ?_ _) | (with_reducible refine Vg.Grows.drew ?_) | (with_reducible refine Vg.Grows.setCell ?_ ?_ _) | (with_reducible refine Vg.Grows.put ?_ ?_ _) | omega | (simp; omega) | (simp; done))))) Vg.L14.e18).mono ?_; rintro e w' ⟨rfl, rfl⟩) | (go_at_call 77; refine (kz_lost 0 (H_hz20.out.grows (by (repeat' (first | (with_reducible exact Vg.Grows.refl _) | (with_reducible assumption) | (with_reducible refine Vg.Grows.alloc ?_ _) | (with_reducible refine Vg.Grows.plus ?_ _ _) | (with_reducible refine Vg.Grows.drewN ?_ _) | (with_reducible refine Vg.Grows.drew ?_) | (with_reducible refine Vg.Grows.setCell ?_ ?_ _) | (with_reducible refine Vg.Grows.put ?_ ?_ _) | omega | (simp; omega) | (simp; done))))) Vg.L14.e19).mono ?_; rintro e w' ⟨rfl, rfl⟩))
  have hgr := H_hz20.out.gr
  go_ret
  exact ⟨rfl, by (repeat' (first | (with_reducible exact Vg.Grows.refl _) | (with_reducible assumption) | (with_reducible refine Vg.Grows.alloc ?_ _) | (with_reducible refine Vg.Grows.plus ?_ _ _) | (with_reducible refine Vg.Grows.drewN ?_ _) | (with_reducible refine Vg.Grows.drew ?_) | (with_reducible refine Vg.Grows.setCell ?_ ?_ _) | (with_reducible refine Vg.Grows.put ?_ ?_ _) | omega | (simp; omega) | (simp; done)))⟩
end Go.Proofs.Ytiinhofmhoplfaa
