/- TopRounds (layer 2): the walk. -/
import Derived.Test.YtmbddmmjhmjpdaaHw
import Derived.Test.YtmbddmmjhmjpdaaFit
set_option linter.unusedSimpArgs false
set_option linter.unusedVariables false
set_option maxHeartbeats 1000000
namespace Go.Proofs.Ytmbddmmjhmjpdaa
open Go.ChangeShapes Go.WideShapes Go.ChangeAt Go.RowKit

theorem begins_any (w : World) : Calls Try.prog 36 #[] w fun e w' => e = .returned (.bool true) ∧ w = w' := by
  have e1 : Vg.low 4294967301 = 5 := by decide
  have e2 : Vg.diff 3 5 = -2 := by decide
  go_enter Try.func36, Try.ntmps36
  go_wp2_with (first | (go_at_call 15; refine (low_any _ _).mono ?_; rintro e w' ⟨rfl, rfl⟩) | (go_at_call 17; refine (diff_any _ _ _).mono ?_; rintro e w' ⟨rfl, rfl⟩))
  go_ret
  exact ⟨rfl, rfl⟩

theorem TopRounds_walk (start m : Int) (a : Option Addr) (len cap : Nat) (D : Nat → Nat → Int) (w : World) (h0 : 0 ≤ m) (h1 : m ≤ 4294967295) (hr : Vg.intRows w [.u32] a len cap D) :
    Calls Try.prog 13 #[.int .i64 start, .int .u32 m, .slice a len cap] w fun e w' => e = .returned (.bool true) ∧ Vg.Grows w w' := by
  by_cases hs0 : start < 0
  · go_enter Try.func13, Try.ntmps13
    go_wp2_with (first | (go_at_call 36; refine (begins_any _).mono ?_; rintro e w' ⟨rfl, rfl⟩))
    go_ret
    exact ⟨rfl, by (repeat' (first | (with_reducible exact Vg.Grows.refl _) | (with_reducible assumption) | (with_reducible refine Vg.Grows.alloc ?_ _) | (with_reducible refine Vg.Grows.plus ?_ _ _) | (with_reducible refine Vg.Grows.drewN ?_ _) | (with_reducible refine Vg.Grows.drew ?_) | (with_reducible refine Vg.Grows.setCell ?_ ?_ _) | omega | (simp; omega) | (simp; done)))⟩
  by_cases hs1 : 2251799813685248 < start
  · go_enter Try.func13, Try.ntmps13
    go_wp2_with (first | (go_at_call 36; refine (begins_any _).mono ?_; rintro e w' ⟨rfl, rfl⟩))
    go_ret
    exact ⟨rfl, by (repeat' (first | (with_reducible exact Vg.Grows.refl _) | (with_reducible assumption) | (with_reducible refine Vg.Grows.alloc ?_ _) | (with_reducible refine Vg.Grows.plus ?_ _ _) | (with_reducible refine Vg.Grows.drewN ?_ _) | (with_reducible refine Vg.Grows.drew ?_) | (with_reducible refine Vg.Grows.setCell ?_ ?_ _) | omega | (simp; omega) | (simp; done)))⟩
  have hb := Vg.ahead_bd ⟨Vg.low start, m, true, false⟩
  obtain ⟨L, hL⟩ : ∃ L, Vg.left ⟨Vg.low start, m, true, false⟩ = L := ⟨_, rfl⟩
  have hLd : L = Vg.ahead ⟨Vg.low start, m, true, false⟩ + 1 := by rw [← hL]; rfl
  have L0 : 1 ≤ L := by omega
  have L1 : L ≤ 4294967296 := by omega
  have F : ∀ S : Int, 0 ≤ S → Vg.go ⟨Vg.low start, m, true, false⟩ S = ⟨Vg.low (start + S), m, decide (S < L), decide (L ≤ S)⟩ := fun S hS => by
    rw [Vg.go_def]
    have e1 : (Vg.low start + S) % 4294967296 = Vg.low (start + S) := by unfold Vg.low; omega
    have e2 : decide (Vg.ahead ⟨Vg.low start, m, true, false⟩ < S) = decide (L ≤ S) := by rw [decide_eq_decide]; omega
    have e3 : (!decide (L ≤ S)) = decide (S < L) := by rw [← decide_not, decide_eq_decide]; omega
    simp only [e1, e2, Bool.true_and, Bool.false_or, e3]
  have A : ∀ S n : Int, 0 ≤ S → 0 ≤ n → n < 2147483648 → Vg.advance ⟨Vg.low (start + S), m, decide (S < L), decide (L ≤ S)⟩ n = (⟨Vg.low (start + (S + n)), m, decide (S + n < L), decide (L ≤ S + n)⟩, 0) := fun S n hS hn hn2 => by
    rw [Vg.advance_ok _ _ hn hn2, ← F S hS, Vg.go_go _ _ _ hS hn, F _ (by omega)]
  have X : ∀ S n : Int, 0 ≤ S → 0 ≤ n → n < 2147483648 → start + (S + n) ≤ 4503599627370496 → Vg.extend (start + S) (Vg.low (start + (S + n))) = (start + S + n, 0) := fun S n hS hn hn2 hb2 => by
    have e : (Vg.low (start + (S + n)) - Vg.low (start + S)) % 4294967296 = n := by unfold Vg.low; omega
    unfold Vg.extend
    rw [e, Vg.timeB_true.2 (by omega), Vg.timeB_true.2 (by omega)]
    rfl
  have F0 : Vg.low start = Vg.low (start + 0) := by rw [Int.add_zero]
  have AH := Lib.hid A
  have XH := Lib.hid X
  have F0H := Lib.hid F0
  clear A X F F0 hLd hb
  have hlen := hr.1
  have hcap := hr.2.1
  have hcap : cap ≤ 9223372036854775807 := hcap
  have RH := Lib.hid (fun h => Vg.intRows.open (by decide) hr h)
  clear hr
  go_enter Try.func13, Try.ntmps13
  go_wp2_with (first | (go_at_call 36; refine (begins_any _).mono ?_; rintro e w' ⟨rfl, rfl⟩) | (go_at_call 15; refine (low_any _ _).mono ?_; rintro e w' ⟨rfl, rfl⟩) | (go_at_call 32; refine (hw_arm _ _ _ _ _ _).mono ?_; rintro e w1 ⟨rfl, x_harm, n_harm, rfl⟩) | (go_at_call 27; refine (hw_left _ _ _ _ _).mono ?_; rintro e w1 ⟨rfl, x_hleft, n_hleft, rfl⟩))
  go_loopw [10, 11, 45] (fun t s i wr => ∃ (k : Nat) (S T : Int), k ≤ len ∧ k ≤ 200 ∧ 0 ≤ S ∧ S ≤ k * 2147483647 ∧ T = start + S ∧ t = .int .i64 T ∧ s = .int .i64 S ∧ i = .int .i64 k ∧ Vg.Grows ((Vg.plus w x_harm n_harm).alloc (Obj.cells #[.int .u32 (Vg.low T), .int .u32 m, .bool (decide (S < L)), .bool (decide (L ≤ S))] 33)) wr) (fun _ _ i _ => len - (intOf i).toNat)
  case atStart =>
    refine ⟨0, 0, start, by omega, by omega, by omega, by omega, by omega, rfl, rfl, rfl, ?_⟩
    rw [show decide ((0 : Int) < L) = true from by simp; omega, show decide (L ≤ 0) = false from by simp; omega]
    (repeat' (first | (with_reducible exact Vg.Grows.refl _) | (with_reducible assumption) | (with_reducible refine Vg.Grows.alloc ?_ _) | (with_reducible refine Vg.Grows.plus ?_ _ _) | (with_reducible refine Vg.Grows.drewN ?_ _) | (with_reducible refine Vg.Grows.drew ?_) | (with_reducible refine Vg.Grows.setCell ?_ ?_ _) | omega | (simp; omega) | (simp; done)))
  case round =>
    obtain ⟨k, S, T, hk, hk2, hS0, hS1, hT, rfl, rfl, rfl, y, q, rfl⟩ := hrel
    have hT0 : 0 ≤ T ∧ T ≤ 3000000000000000 := by omega
    have HT := Lib.hid hT
    by_cases hlt : k < len
    · obtain ⟨b, off, rfl, hb, hc⟩ := RH.out (by omega)
      have hc := hc k hlt 0 (by decide)
      obtain ⟨n, hn⟩ : ∃ n, D k 0 = n := ⟨_, rfl⟩
      rw [hn] at hc
      obtain ⟨hc, hw⟩ := hc
      have hbn := bounds_u32 hw
      simp only [List.length_cons, List.length_nil, Nat.zero_add, Nat.mul_one, Nat.add_zero, List.getElem_cons_zero] at hc
      clear hw hn
      by_cases h200 : k = 200
      · subst h200
        have HE : (T == start + S) = true := by rw [hT]; simp
        clear hT
        by_cases hSL : S < L
        all_goals
          go_wp2_with (first | (go_at_call 25; refine (hw_advance _ _ _ _ _ _).mono ?_; rintro e w1 ⟨rfl, x_hadv, n_hadv, rfl⟩) | (go_at_call 21; refine (extend_any _ _ _).mono ?_; rintro e w' ⟨rfl, rfl⟩))
          go_ret
          exact ⟨rfl, by (repeat' (first | (with_reducible exact Vg.Grows.refl _) | (with_reducible assumption) | (with_reducible refine Vg.Grows.alloc ?_ _) | (with_reducible refine Vg.Grows.plus ?_ _ _) | (with_reducible refine Vg.Grows.drewN ?_ _) | (with_reducible refine Vg.Grows.drew ?_) | (with_reducible refine Vg.Grows.setCell ?_ ?_ _) | omega | (simp; omega) | (simp; done)))⟩
      · by_cases hbig : 2147483648 ≤ n
        · have E := Vg.advance_no ⟨Vg.low T, m, decide (S < L), decide (L ≤ S)⟩ n hbig
          clear hT
          go_wp2_with (first | (go_at_call 25; refine (hw_advance _ _ _ _ _ _).mono ?_; rintro e w1 ⟨rfl, x_hadv, n_hadv, rfl⟩) | (go_at_call 21; refine (extend_any _ _ _).mono ?_; rintro e w' ⟨rfl, rfl⟩))
          refine ⟨⟨k + 1, S, T, by omega, by omega, by omega, by omega, HT.out, rfl, rfl, by go_num, by (repeat' (first | (with_reducible exact Vg.Grows.refl _) | (with_reducible assumption) | (with_reducible refine Vg.Grows.alloc ?_ _) | (with_reducible refine Vg.Grows.plus ?_ _ _) | (with_reducible refine Vg.Grows.drewN ?_ _) | (with_reducible refine Vg.Grows.drew ?_) | (with_reducible refine Vg.Grows.setCell ?_ ?_ _) | omega | (simp; omega) | (simp; done)))⟩, by simp [intOf]; omega⟩
        · have E1 := AH.out S n hS0 (by omega) (by omega)
          have E2 := XH.out S n hS0 (by omega) (by omega) (by omega)
          rw [← Int.add_assoc, ← hT] at E1 E2
          clear hT
          go_wp2_with (first | (go_at_call 25; refine (hw_advance _ _ _ _ _ _).mono ?_; rintro e w1 ⟨rfl, x_hadv, n_hadv, rfl⟩) | (go_at_call 21; refine (extend_any _ _ _).mono ?_; rintro e w' ⟨rfl, rfl⟩))
          refine ⟨⟨k + 1, S + n, T + n, by omega, by omega, by omega, by omega, by have := HT.out; omega, rfl, rfl, by go_num, by (repeat' (first | (with_reducible exact Vg.Grows.refl _) | (with_reducible assumption) | (with_reducible refine Vg.Grows.alloc ?_ _) | (with_reducible refine Vg.Grows.plus ?_ _ _) | (with_reducible refine Vg.Grows.drewN ?_ _) | (with_reducible refine Vg.Grows.drew ?_) | (with_reducible refine Vg.Grows.setCell ?_ ?_ _) | omega | (simp; omega) | (simp; done)))⟩, by simp [intOf]; omega⟩
    · have HE : (T == start + S) = true := by rw [hT]; simp
      clear hT
      by_cases hSL : S < L
      all_goals
        go_wp2_with (first | (go_at_call 25; refine (hw_advance _ _ _ _ _ _).mono ?_; rintro e w1 ⟨rfl, x_hadv, n_hadv, rfl⟩) | (go_at_call 21; refine (extend_any _ _ _).mono ?_; rintro e w' ⟨rfl, rfl⟩))
        go_ret
        exact ⟨rfl, by (repeat' (first | (with_reducible exact Vg.Grows.refl _) | (with_reducible assumption) | (with_reducible refine Vg.Grows.alloc ?_ _) | (with_reducible refine Vg.Grows.plus ?_ _ _) | (with_reducible refine Vg.Grows.drewN ?_ _) | (with_reducible refine Vg.Grows.drew ?_) | (with_reducible refine Vg.Grows.setCell ?_ ?_ _) | omega | (simp; omega) | (simp; done)))⟩
end Go.Proofs.Ytmbddmmjhmjpdaa
