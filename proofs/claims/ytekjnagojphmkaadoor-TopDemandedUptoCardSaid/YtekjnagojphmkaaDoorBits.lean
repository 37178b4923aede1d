/- Package bits: from, Between, Of; the library's TrailingZeros64. -/
import Derived.Test.YtekjnagojphmkaaDoorIc
import Derived.Test.YtekjnagojphmkaaDoorObj
import Derived.Test.YtekjnagojphmkaaDoorRowB
import Derived.Test.YtekjnagojphmkaaDoorQue
import Derived.Test.YtekjnagojphmkaaDoorCeilN
set_option linter.unusedSimpArgs false
set_option linter.unusedVariables false
set_option maxHeartbeats 2000000
set_option maxRecDepth 20000
namespace Vg
open Go
def ic (L : List Nat) : List Int := L.map fun k => (Int.ofNat k)
theorem ic_len (L : List Nat) : (ic L).length = L.length := List.length_map ..
theorem ic_at {L : List Nat} {k : Nat} (h : k < (ic L).length) : (ic L)[k] = ((L[k]'(by rw [← ic_len]; exact h) : Nat) : Int) := by
  simp [ic]
theorem ic_snoc (L : List Nat) (k : Nat) : ic (L ++ [k]) = ic L ++ [(k : Int)] := by
  unfold ic
  rw [List.map_append]
  rfl
/-- The package's table lies in the block of its own. -/
def Tab (w : World) : Prop := ∀ j, j < 64 → w.cell? ⟨0, j, none⟩ = some (.int .u8 (Lib.deBruijn64tab.getD j 0))
theorem Tab.grows {w w' : World} (h : Tab w) (hg : Grows w w') : Tab w' := fun j hj => by
  have h0 := World.block_lt_of_cell? w _ (h j hj)
  exact (hg.below.cell (p := ⟨0, j, none⟩) h0).trans (h j hj)
theorem tz_key (x a : Nat) (hx : x < 18446744073709551616) (hx0 : x ≠ 0) (hlow : x &&& (18446744073709551616 - x) = a) :
    IntKind.u64.wrap (bits BinOp.and IntKind.u64 (x : Int) (IntKind.u64.wrap (-(x : Int))) * 285870213051353865) / 288230376151711744 = ((a * 285870213051353865 % 18446744073709551616 / 288230376151711744 : Nat) : Int) := by
  have e1 : IntKind.u64.wrap (-(x : Int)) = ((18446744073709551616 - x : Nat) : Int) := by rw [IntKind.wrap_u64]; omega
  rw [e1, u64_and_nat x _ hx (by omega), hlow, IntKind.wrap_u64]
  omega
end Vg
namespace Go.Proofs.YtekjnagojphmkaaDoor
open Go.ChangeShapes Go.WideShapes Go.ChangeAt Go.RowKit
theorem ctz64_core (x k idx : Nat) (w : World) (hx0 : ((x : Int) == 0) = false)
    (key : IntKind.u64.wrap (bits BinOp.and IntKind.u64 (x : Int) (IntKind.u64.wrap (-(x : Int))) * 285870213051353865) / 288230376151711744 = (idx : Int))
    (hi : idx < 64) (hk : k < 64) (hcell : w.cell? ⟨0, idx, none⟩ = some (.int .u8 k)) :
    Calls Tryd.prog 68 #[.int .u64 x] w fun e w' => e = .returned (.int .i64 k) ∧ w = w' := by
  go_enter Tryd.func68, Tryd.ntmps68
  go_wp2_with (simp only [key])
  go_ret
  exact ⟨rfl, rfl⟩
theorem ctz64 (x : Nat) (w : World) (h0 : 0 < x) (hx : x < 18446744073709551616) (hT : Vg.Tab w) :
    Calls Tryd.prog 68 #[.int .u64 x] w fun e w' => e = .returned (.int .i64 (Lib.ctz 64 x)) ∧ w = w' := by
  obtain ⟨hlow, hk⟩ := Lib.lowest_bit 64 x (by omega) hx
  obtain ⟨hi, htab⟩ := Lib.deBruijn64_at _ hk
  have hcell := hT _ hi
  rw [htab] at hcell
  exact ctz64_core x _ _ w (by simp; omega) (Vg.tz_key x _ hx (by omega) hlow) hi hk hcell
theorem all_shr : ∀ n, n < 64 → IntKind.u64.wrap ((18446744073709551615 : Int) / 2 ^ n * 2 ^ n) = ((18446744073709551616 - 2 ^ n : Nat) : Int) := by decide +kernel
theorem all_and : ∀ n, n < 64 → 18446744073709551615 &&& (18446744073709551615 - (18446744073709551616 - 2 ^ n)) = 2 ^ n - 1 := by decide +kernel
theorem bits_from (n : Nat) {y : Nat} (hy : 18446744073709551616 - 2 ^ n = y) (w : World) (h1 : 1 ≤ n) (h2 : n ≤ 63) :
    Calls Tryd.prog 63 #[.int .u64 18446744073709551615, .int .i64 n] w fun e w' => e = .returned (.int .u64 y) ∧ w = w' := by
  have key := all_shr n (by omega)
  rw [hy] at key
  clear hy
  go_enter Tryd.func63, Tryd.ntmps63
  go_wp2
  go_ret
  exact ⟨rfl, rfl⟩
theorem bits_from0 (w : World) :
    Calls Tryd.prog 63 #[.int .u64 18446744073709551615, .int .i64 0] w fun e w' => e = .returned (.int .u64 18446744073709551615) ∧ w = w' := by
  go_enter Tryd.func63, Tryd.ntmps63
  go_wp2
  go_ret
  exact ⟨rfl, rfl⟩
theorem bits_between (n : Nat) {z : Nat} (hz : 2 ^ n - 1 = z) (w : World) (h1 : 1 ≤ n) (h2 : n ≤ 64) (m : Int) (hm : m = (n : Int) - 1) :
    Calls Tryd.prog 27 #[.int .i64 0, .int .i64 m] w fun e w' => e = .returned (.int .u64 z) ∧ w = w' := by
  subst hm
  by_cases h3 : n = 64
  · subst h3
    have : z = 18446744073709551615 := by rw [← hz]
    subst this
    clear hz
    go_enter Tryd.func27, Tryd.ntmps27
    go_wp2_with ((go_at_call 63; (with_reducible refine (bits_from0 _).mono ?_); rintro e w1 ⟨rfl, rfl⟩))
    go_ret
    exact ⟨rfl, rfl⟩
  · have h4 : n ≤ 63 := by omega
    have hm : ((n : Int) - 1 + 1) = n := by omega
    obtain ⟨y, hy⟩ : ∃ y, 18446744073709551616 - 2 ^ n = y := ⟨_, rfl⟩
    have hlt : y < 18446744073709551616 := by have := Nat.two_pow_pos n; omega
    have key : bits .andNot .u64 18446744073709551615 (y : Int) = (z : Int) := by
      have e1 := u64_andNot_nat 18446744073709551615 y (by decide) hlt
      rw [← hy, all_and n (by omega), hz, hy] at e1
      exact e1
    clear h3
    have H_hlt := Lib.hid hlt; clear hlt; have H_hy := Lib.hid hy; clear hy; have H_hz := Lib.hid hz; clear hz
    go_enter Tryd.func27, Tryd.ntmps27
    go_wp2_with (first | (go_at_call 63; (with_reducible refine (bits_from n H_hy.out _ h1 h4).mono ?_); rintro e w1 ⟨rfl, rfl⟩) | (go_at_call 63; (with_reducible refine (bits_from0 _).mono ?_); rintro e w1 ⟨rfl, rfl⟩))
    go_ret
    exact ⟨by first | rfl | exact ret_int key, rfl⟩
section
variable {w : World} {L : List Nat} {sa : Option Addr} {sc n : Nat}
theorem shl_one (k : Nat) (h : k < 64) : IntKind.u64.wrap ((2 : Int) ^ k) = ((2 ^ k : Nat) : Int) := by
  have h1 := Vg.pow_lt64 h
  have e : ((2 : Int) ^ k) = ((2 ^ k : Nat) : Int) := by push_cast; rfl
  rw [IntKind.wrap_u64, e]
  generalize 2 ^ k = y at h1
  omega
/-- The set of numbers below 64. -/
theorem bits_of (hr : Vg.IR w sa sc (Vg.ic L)) (hn : L.length = n) (hL : ∀ i ∈ L, i < 64) :
    Calls Tryd.prog 87 #[.slice sa n sc] w fun e w' => e = .returned (.tuple #[.int .u64 (Vg.orB L 0 : Nat), .int .i64 0]) ∧ w = w' := by
  have hc := hr.1
  have hm : sc ≤ 9223372036854775807 := hr.2.1
  rw [Vg.ic_len, hn] at hc
  have H_hr := Lib.hid hr; clear hr; have H_hn := Lib.hid hn; clear hn; have H_hL := Lib.hid hL; clear hL
  go_enter Tryd.func87, Tryd.ntmps87
  go_wp2
  go_loop [4, 9] (fun b i => ∃ k : Nat, k ≤ n ∧ i = .int .i64 k ∧ b = .int .u64 (Vg.orB (L.take k) 0 : Nat)) (fun _ i => n - (intOf i).toNat)
  case atStart => exact ⟨0, by omega, rfl, by simp [Vg.orB]⟩
  case round =>
    obtain ⟨k, hk, rfl, rfl⟩ := hrel
    by_cases hlt : k < n
    · have hkL : k < L.length := by rw [H_hn.out]; exact hlt
      obtain ⟨g, off, rfl, hg, -, -, hcell⟩ := H_hr.out.icell k (by rw [Vg.ic_len]; exact hkL)
      rw [Vg.ic_at] at hcell
      have hsn := List.take_succ_eq_append_getElem hkL
      obtain ⟨x, hx⟩ : ∃ x, L[k] = x := ⟨_, rfl⟩
      rw [hx] at hcell hsn
      have hx64 : x < 64 := by rw [← hx]; exact H_hL.out _ (List.getElem_mem _)
      have hlow : Vg.orB (L.take k) 0 < 18446744073709551616 := Vg.orB_lt (by decide) fun i hi => H_hL.out i (List.mem_of_mem_take hi)
      have key : bits .or .u64 ((Vg.orB (L.take k) 0 : Nat) : Int) (IntKind.u64.wrap ((2 : Int) ^ x)) = ((Vg.orB (L.take (k + 1)) 0 : Nat) : Int) := by
        rw [shl_one x hx64, u64_or_nat _ _ hlow (Vg.pow_lt64 hx64), hsn, Vg.orB_snoc]
      have H_hsn := Lib.hid hsn; clear hsn; have H_hx := Lib.hid hx; clear hx; have H_hlow := Lib.hid hlow; clear hlow
      go_wp2
      go_round
      case rel => exact ⟨k + 1, by omega, by go_num, by rw [← key]⟩
      case measure => simp [intOf]; omega
    · have hkn : k = n := by omega
      have htk : L.take k = L := List.take_of_length_le (by rw [H_hn.out]; omega)
      rw [htk]
      subst hkn
      go_wp2
      go_returns
      exact ⟨rfl, rfl⟩
end
end Go.Proofs.YtekjnagojphmkaaDoor
