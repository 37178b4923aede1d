/- The laws of layer 2: lives, and the five walks. -/
import Derived.Test.YtmbddmmjhmjpdaaHw
set_option linter.unusedSimpArgs false
set_option linter.unusedVariables false
set_option maxHeartbeats 1000000
namespace Go.Proofs.Ytmbddmmjhmjpdaa
open Go.ChangeShapes Go.WideShapes Go.ChangeAt Go.RowKit

theorem lives02 (w : World) : Calls Try.prog 29 #[] w fun e w' => e = .returned (.bool true) ∧ Vg.Grows w w' := by
  have e1 : Vg.left ⟨4294967295, 1, true, false⟩ = 2 := by decide
  have e2 : Vg.advance ⟨4294967295, 1, true, false⟩ 1 = (⟨0, 1, true, false⟩, 0) := by rfl
  have e3 : Vg.advance ⟨4294967295, 1, true, false⟩ 2 = (⟨1, 1, false, true⟩, 0) := by rfl
  have e4 : Vg.advance ⟨4294967295, 1, true, false⟩ 2147483648 = (⟨4294967295, 1, true, false⟩, 1) := by rfl
  go_enter Try.func29, Try.ntmps29
  go_wp2_with (first | (go_at_call 32; refine (hw_arm _ _ _ _ _ _).mono ?_; rintro e w1 ⟨rfl, x_harm, n_harm, rfl⟩) | (go_at_call 27; refine (hw_left _ _ _ _ _).mono ?_; rintro e w1 ⟨rfl, x_hleft, n_hleft, rfl⟩) | (go_at_call 25; refine (hw_advance _ _ _ _ _ _).mono ?_; rintro e w1 ⟨rfl, x_hadv, n_hadv, rfl⟩) | (go_at_call 30; refine (hw_ack _ _ _ _ _).mono ?_; rintro e w1 ⟨rfl, x_hack, n_hack, rfl⟩) | (go_at_call 34; refine (hw_disarm _ _ _ _ _).mono ?_; rintro e w1 ⟨rfl, x_hdis, n_hdis, rfl⟩))
  go_ret
  exact ⟨rfl, by (repeat' (first | (with_reducible exact Vg.Grows.refl _) | (with_reducible assumption) | (with_reducible refine Vg.Grows.alloc ?_ _) | (with_reducible refine Vg.Grows.plus ?_ _ _) | (with_reducible refine Vg.Grows.drewN ?_ _) | (with_reducible refine Vg.Grows.drew ?_) | (with_reducible refine Vg.Grows.setCell ?_ ?_ _) | omega | (simp; omega) | (simp; done)))⟩

theorem HwtimerAdvances_walk (c n : Int) (ar la : Bool) (m : Int) (w : World) (hc : 0 ≤ c ∧ c ≤ 4294967295) (hn : 0 ≤ n ∧ n ≤ 4294967295) (h0 : 0 ≤ m) (h1 : m ≤ 4294967295) :
    Calls Try.prog 8 #[.agg #[.int .u32 c, .int .u32 n, .bool ar, .bool la], .int .u32 m] w fun e w' => e = .returned (.bool true) ∧ Vg.Grows w w' := by
  go_enter Try.func8, Try.ntmps8
  go_wp2_with (first | (go_at_call 29; refine (lives02 _).mono ?_; rintro e w1 ⟨rfl, x_lives02, n_lives02, rfl⟩) | (go_at_call 27; refine (hw_left _ _ _ _ _).mono ?_; rintro e w1 ⟨rfl, x_hleft, n_hleft, rfl⟩) | (go_at_call 25; refine (hw_advance _ _ _ _ _ _).mono ?_; rintro e w1 ⟨rfl, x_hadv, n_hadv, rfl⟩) | (go_at_call 28; refine (hw_refleft _ _ _ _ _ (by omega) (by omega)).mono ?_; rintro e w1 ⟨rfl, x_hrleft, n_hrleft, rfl⟩) | (go_at_call 26; refine (hw_refadvance _ _ _ _ _ _ (by omega) (by omega) (by omega) (by omega)).mono ?_; rintro e w1 ⟨rfl, x_hradv, n_hradv, rfl⟩))
  go_ret
  exact ⟨rfl, by (repeat' (first | (with_reducible exact Vg.Grows.refl _) | (with_reducible assumption) | (with_reducible refine Vg.Grows.alloc ?_ _) | (with_reducible refine Vg.Grows.plus ?_ _ _) | (with_reducible refine Vg.Grows.drewN ?_ _) | (with_reducible refine Vg.Grows.drew ?_) | (with_reducible refine Vg.Grows.setCell ?_ ?_ _) | omega | (simp; omega) | (simp; done)))⟩

theorem HwtimerSets_walk (c n : Int) (ar la : Bool) (m : Int) (w : World) (hc : 0 ≤ c ∧ c ≤ 4294967295) (hn : 0 ≤ n ∧ n ≤ 4294967295) (h0 : 0 ≤ m) (h1 : m ≤ 4294967295) :
    Calls Try.prog 9 #[.agg #[.int .u32 c, .int .u32 n, .bool ar, .bool la], .int .u32 m] w fun e w' => e = .returned (.bool true) ∧ Vg.Grows w w' := by
  go_enter Try.func9, Try.ntmps9
  go_wp2_with (first | (go_at_call 29; refine (lives02 _).mono ?_; rintro e w1 ⟨rfl, x_lives02, n_lives02, rfl⟩) | (go_at_call 32; refine (hw_arm _ _ _ _ _ _).mono ?_; rintro e w1 ⟨rfl, x_harm, n_harm, rfl⟩) | (go_at_call 33; refine (hw_refarm _ _ _ _ _ _).mono ?_; rintro e w1 ⟨rfl, x_hrarm, n_hrarm, rfl⟩) | (go_at_call 34; refine (hw_disarm _ _ _ _ _).mono ?_; rintro e w1 ⟨rfl, x_hdis, n_hdis, rfl⟩) | (go_at_call 35; refine (hw_refdisarm _ _ _ _ _).mono ?_; rintro e w1 ⟨rfl, x_hrdis, n_hrdis, rfl⟩) | (go_at_call 30; refine (hw_ack _ _ _ _ _).mono ?_; rintro e w1 ⟨rfl, x_hack, n_hack, rfl⟩) | (go_at_call 31; refine (hw_refack _ _ _ _ _).mono ?_; rintro e w1 ⟨rfl, x_hrack, n_hrack, rfl⟩))
  go_region_held3 (fun w' => Vg.Grows w w' ∧ w.heap.size < w'.heap.size ∧ w.heap.size + 1 + Vg.sz x_hack < w'.heap.size ∧ w.heap.size + 1 + 1 + Vg.sz x_hack + Vg.sz x_hrack < w'.heap.size ∧ w'.cell? ⟨w.heap.size, 0, none⟩ = some (.int .u32 c) ∧ w'.cell? ⟨w.heap.size, 1, none⟩ = some (.int .u32 n) ∧ w'.cell? ⟨w.heap.size, 2, none⟩ = some (.bool ar) ∧ w'.cell? ⟨w.heap.size, 3, none⟩ = some (.bool la) ∧
      w'.cell? ⟨w.heap.size + 1 + Vg.sz x_hack, 0, none⟩ = some (.int .u32 c) ∧ w'.cell? ⟨w.heap.size + 1 + Vg.sz x_hack, 1, none⟩ = some (.int .u32 n) ∧ w'.cell? ⟨w.heap.size + 1 + Vg.sz x_hack, 2, none⟩ = some (.bool ar) ∧ w'.cell? ⟨w.heap.size + 1 + Vg.sz x_hack, 3, none⟩ = some (.bool false) ∧
      w'.cell? ⟨w.heap.size + 1 + 1 + Vg.sz x_hack + Vg.sz x_hrack, 0, none⟩ = some (.int .u32 c) ∧ w'.cell? ⟨w.heap.size + 1 + 1 + Vg.sz x_hack + Vg.sz x_hrack, 1, none⟩ = some (.int .u32 n) ∧ w'.cell? ⟨w.heap.size + 1 + 1 + Vg.sz x_hack + Vg.sz x_hrack, 2, none⟩ = some (.bool ar) ∧ w'.cell? ⟨w.heap.size + 1 + 1 + Vg.sz x_hack + Vg.sz x_hrack, 3, none⟩ = some (.bool false))
   ((go_split_ands; (try dsimp only); refine ⟨by (repeat' (first | (with_reducible exact Vg.Grows.refl _) | (with_reducible assumption) | (with_reducible refine Vg.Grows.alloc ?_ _) | (with_reducible refine Vg.Grows.plus ?_ _ _) | (with_reducible refine Vg.Grows.drewN ?_ _) | (with_reducible refine Vg.Grows.drew ?_) | (with_reducible refine Vg.Grows.setCell ?_ ?_ _) | omega | (simp; omega) | (simp; done))), ?_⟩; go_simp))
   (first | (go_at_call 29; refine (lives02 _).mono ?_; rintro e w1 ⟨rfl, x_lives02, n_lives02, rfl⟩) | (go_at_call 32; refine (hw_arm _ _ _ _ _ _).mono ?_; rintro e w1 ⟨rfl, x_harm, n_harm, rfl⟩) | (go_at_call 33; refine (hw_refarm _ _ _ _ _ _).mono ?_; rintro e w1 ⟨rfl, x_hrarm, n_hrarm, rfl⟩) | (go_at_call 34; refine (hw_disarm _ _ _ _ _).mono ?_; rintro e w1 ⟨rfl, x_hdis, n_hdis, rfl⟩) | (go_at_call 35; refine (hw_refdisarm _ _ _ _ _).mono ?_; rintro e w1 ⟨rfl, x_hrdis, n_hrdis, rfl⟩) | (go_at_call 30; refine (hw_ack _ _ _ _ _).mono ?_; rintro e w1 ⟨rfl, x_hack, n_hack, rfl⟩) | (go_at_call 31; refine (hw_refack _ _ _ _ _).mono ?_; rintro e w1 ⟨rfl, x_hrack, n_hrack, rfl⟩))
  go_wp2
  go_ret
  go_split_ands
  exact ⟨rfl, by (repeat' (first | (with_reducible exact Vg.Grows.refl _) | (with_reducible assumption) | (with_reducible refine Vg.Grows.alloc ?_ _) | (with_reducible refine Vg.Grows.plus ?_ _ _) | (with_reducible refine Vg.Grows.drewN ?_ _) | (with_reducible refine Vg.Grows.drew ?_) | (with_reducible refine Vg.Grows.setCell ?_ ?_ _) | omega | (simp; omega) | (simp; done)))⟩

theorem HwtimerParts_walk (c n : Int) (ar la : Bool) (k m : Int) (w : World) (hc : 0 ≤ c ∧ c ≤ 4294967295) (hn : 0 ≤ n ∧ n ≤ 4294967295) (hk0 : 0 ≤ k) (hk1 : k ≤ 4294967295) (h0 : 0 ≤ m) (h1 : m ≤ 4294967295) :
    Calls Try.prog 10 #[.agg #[.int .u32 c, .int .u32 n, .bool ar, .bool la], .int .u32 k, .int .u32 m] w fun e w' => e = .returned (.bool true) ∧ Vg.Grows w w' := by
  by_cases hk : k < 1073741824
  · by_cases hm : m < 1073741824
    · obtain ⟨c1, n1, a1, l1, ha, ga⟩ := Vg.adv_split ⟨c, n, ar, la⟩ k hk0 (by omega)
      obtain ⟨c2, n2, a2, l2, hb, gb⟩ := Vg.adv_split ⟨c1, n1, a1, l1⟩ m h0 (by omega)
      have hc := Vg.advance_ok ⟨c, n, ar, la⟩ (k + m) (by omega) (by omega)
      rw [← Vg.go_go _ _ _ hk0 h0, ga, gb] at hc
      clear ga gb
      go_enter Try.func10, Try.ntmps10
      go_wp2_with (first | (go_at_call 29; refine (lives02 _).mono ?_; rintro e w1 ⟨rfl, x_lives02, n_lives02, rfl⟩) | (go_at_call 25; refine (hw_advance _ _ _ _ _ _).mono ?_; rintro e w1 ⟨rfl, x_hadv, n_hadv, rfl⟩))
      go_ret
      exact ⟨rfl, by (repeat' (first | (with_reducible exact Vg.Grows.refl _) | (with_reducible assumption) | (with_reducible refine Vg.Grows.alloc ?_ _) | (with_reducible refine Vg.Grows.plus ?_ _ _) | (with_reducible refine Vg.Grows.drewN ?_ _) | (with_reducible refine Vg.Grows.drew ?_) | (with_reducible refine Vg.Grows.setCell ?_ ?_ _) | omega | (simp; omega) | (simp; done)))⟩
    · go_enter Try.func10, Try.ntmps10
      go_wp2_with (first | (go_at_call 29; refine (lives02 _).mono ?_; rintro e w1 ⟨rfl, x_lives02, n_lives02, rfl⟩) | (go_at_call 25; refine (hw_advance _ _ _ _ _ _).mono ?_; rintro e w1 ⟨rfl, x_hadv, n_hadv, rfl⟩))
      go_ret
      exact ⟨rfl, by (repeat' (first | (with_reducible exact Vg.Grows.refl _) | (with_reducible assumption) | (with_reducible refine Vg.Grows.alloc ?_ _) | (with_reducible refine Vg.Grows.plus ?_ _ _) | (with_reducible refine Vg.Grows.drewN ?_ _) | (with_reducible refine Vg.Grows.drew ?_) | (with_reducible refine Vg.Grows.setCell ?_ ?_ _) | omega | (simp; omega) | (simp; done)))⟩
  · go_enter Try.func10, Try.ntmps10
    go_wp2_with (first | (go_at_call 29; refine (lives02 _).mono ?_; rintro e w1 ⟨rfl, x_lives02, n_lives02, rfl⟩) | (go_at_call 25; refine (hw_advance _ _ _ _ _ _).mono ?_; rintro e w1 ⟨rfl, x_hadv, n_hadv, rfl⟩))
    go_ret
    exact ⟨rfl, by (repeat' (first | (with_reducible exact Vg.Grows.refl _) | (with_reducible assumption) | (with_reducible refine Vg.Grows.alloc ?_ _) | (with_reducible refine Vg.Grows.plus ?_ _ _) | (with_reducible refine Vg.Grows.drewN ?_ _) | (with_reducible refine Vg.Grows.drew ?_) | (with_reducible refine Vg.Grows.setCell ?_ ?_ _) | omega | (simp; omega) | (simp; done)))⟩


theorem HwtimerRound_walk (c n : Int) (ar la : Bool) (w : World) (hc : 0 ≤ c ∧ c ≤ 4294967295) (hn : 0 ≤ n ∧ n ≤ 4294967295) :
    Calls Try.prog 12 #[.agg #[.int .u32 c, .int .u32 n, .bool ar, .bool la]] w fun e w' => e = .returned (.bool true) ∧ Vg.Grows w w' := by
  have f1 : (Vg.go ⟨c, n, ar, la⟩ 4294967296).count = c := by unfold Vg.go; simp only []; omega
  have f2 : (Vg.go ⟨c, n, ar, la⟩ 4294967296).armed = false := by
    have := Vg.ahead_bd ⟨c, n, ar, la⟩
    unfold Vg.go; simp; omega
  have f3 : (Vg.go ⟨c, n, ar, la⟩ 4294967296).latch = (la || ar) := by
    have := Vg.ahead_bd ⟨c, n, ar, la⟩
    have e : decide (Vg.ahead ⟨c, n, ar, la⟩ < 4294967296) = true := by simp; omega
    unfold Vg.go; simp [e]
  have F : ∀ k : Nat, Vg.advance ⟨(Vg.go ⟨c, n, ar, la⟩ (k * 536870912)).count, n, (Vg.go ⟨c, n, ar, la⟩ (k * 536870912)).armed, (Vg.go ⟨c, n, ar, la⟩ (k * 536870912)).latch⟩ 536870912 = (Vg.go ⟨c, n, ar, la⟩ ((k + 1 : Nat) * 536870912), 0) := fun k => by
    have := Vg.advance_ok (Vg.go ⟨c, n, ar, la⟩ (k * 536870912)) 536870912 (by omega) (by omega)
    rw [Vg.go_go _ _ _ (by omega) (by omega)] at this
    rw [show ((k + 1 : Nat) : Int) * 536870912 = k * 536870912 + 536870912 from by omega]
    exact this
  have G : ∀ t, (Vg.go ⟨c, n, ar, la⟩ t).compare = n := fun _ => rfl
  have HF := Lib.hid F; clear F
  go_enter Try.func12, Try.ntmps12
  go_wp2_with (first | (go_at_call 29; refine (lives02 _).mono ?_; rintro e w1 ⟨rfl, x_lives02, n_lives02, rfl⟩) | (go_at_call 25; refine (hw_advance _ _ _ _ _ _).mono ?_; rintro e w1 ⟨rfl, x_hadv, n_hadv, rfl⟩))
  go_loopw [9] (fun v wr => ∃ k : Nat, k ≤ 8 ∧ v = .int .i64 k ∧ Vg.Grows ((Vg.plus (w.alloc (Obj.cells #[.int .u32 c, .int .u32 n, .bool ar, .bool la] 33)) x_lives02 n_lives02).alloc (Obj.cells #[.int .u32 (Vg.go ⟨c, n, ar, la⟩ (k * 536870912)).count, .int .u32 n, .bool (Vg.go ⟨c, n, ar, la⟩ (k * 536870912)).armed, .bool (Vg.go ⟨c, n, ar, la⟩ (k * 536870912)).latch] 33)) wr) (fun v _ => 8 - (intOf v).toNat)
  case atStart =>
    refine ⟨0, by omega, rfl, ?_⟩
    rw [show ((0 : Nat) : Int) * 536870912 = 0 from rfl, Vg.go_zero _ hc.1 hc.2]
    exact Vg.Grows.refl _
  case round =>
    obtain ⟨k, hk, rfl, y, m, rfl⟩ := hrel
    by_cases hlt : k < 8
    · have E := HF.out k
      go_wp2_with (first | (go_at_call 25; refine (hw_advance _ _ _ _ _ _).mono ?_; rintro e w1 ⟨rfl, x_hadv, n_hadv, rfl⟩))
      refine ⟨⟨k + 1, by omega, by go_num, by push_cast; (repeat' (first | (with_reducible exact Vg.Grows.refl _) | (with_reducible assumption) | (with_reducible refine Vg.Grows.alloc ?_ _) | (with_reducible refine Vg.Grows.plus ?_ _ _) | (with_reducible refine Vg.Grows.drewN ?_ _) | (with_reducible refine Vg.Grows.drew ?_) | (with_reducible refine Vg.Grows.setCell ?_ ?_ _) | omega | (simp; omega) | (simp; done)))⟩, by simp [intOf]; omega⟩
    · obtain rfl : k = 8 := by omega
      rw [show ((8 : Nat) : Int) * 536870912 = 4294967296 from rfl]
      go_wp2
      all_goals
        go_ret
        exact ⟨rfl, by (repeat' (first | (with_reducible exact Vg.Grows.refl _) | (with_reducible assumption) | (with_reducible refine Vg.Grows.alloc ?_ _) | (with_reducible refine Vg.Grows.plus ?_ _ _) | (with_reducible refine Vg.Grows.drewN ?_ _) | (with_reducible refine Vg.Grows.drew ?_) | (with_reducible refine Vg.Grows.setCell ?_ ?_ _) | omega | (simp; omega) | (simp; done)))⟩

theorem HwtimerOnce_walk (c n : Int) (ar la : Bool) (m : Int) (w : World) (hc : 0 ≤ c ∧ c ≤ 4294967295) (hn : 0 ≤ n ∧ n ≤ 4294967295) (h0 : 0 ≤ m) (h1 : m ≤ 4294967295) :
    Calls Try.prog 11 #[.agg #[.int .u32 c, .int .u32 n, .bool ar, .bool la], .int .u32 m] w fun e w' => e = .returned (.bool true) ∧ Vg.Grows w w' := by
  have hb := Vg.ahead_bd ⟨c, m, true, false⟩
  obtain ⟨L, hL⟩ : ∃ L, Vg.left ⟨c, m, true, false⟩ = L := ⟨_, rfl⟩
  have hLd : L = Vg.ahead ⟨c, m, true, false⟩ + 1 := by rw [← hL]; rfl
  have L0 : 1 ≤ L := by omega
  have L1 : L ≤ 4294967296 := by omega
  have F : ∀ t : Int, 0 ≤ t → t < L → Vg.go ⟨c, m, true, false⟩ t = ⟨(c + t) % 4294967296, m, true, false⟩ := fun t ht0 ht => by
    have e : decide (Vg.ahead ⟨c, m, true, false⟩ < t) = false := by simp; omega
    unfold Vg.go; simp [e]
  have FL : Vg.go ⟨c, m, true, false⟩ L = ⟨m, m, false, true⟩ := by
    have e : decide (Vg.ahead ⟨c, m, true, false⟩ < L) = true := by simp; omega
    have e2 : (c + L) % 4294967296 = m := by rw [hLd]; unfold Vg.ahead; simp only []; omega
    unfold Vg.go; simp [e, e2]
  have A : ∀ t s : Int, 0 ≤ t → 0 ≤ s → t + s < L → s < 2147483648 → Vg.advance ⟨(c + t) % 4294967296, m, true, false⟩ s = (⟨(c + (t + s)) % 4294967296, m, true, false⟩, 0) := fun t s ht hs hts hs2 => by
    rw [Vg.advance_ok _ _ hs hs2, ← F t ht (by omega), Vg.go_go _ _ _ ht hs, F _ (by omega) hts]
  have AL : Vg.advance ⟨(c + (L - 1)) % 4294967296, m, true, false⟩ 1 = (⟨m, m, false, true⟩, 0) := by
    rw [Vg.advance_ok _ _ (by omega) (by omega), ← F (L - 1) (by omega) (by omega), Vg.go_go _ _ _ (by omega) (by omega), show L - 1 + 1 = L from by omega, FL]
  have AZ : ∀ s, 0 ≤ s → s < 2147483648 → Vg.advance ⟨c, n, false, false⟩ s = (⟨(c + s) % 4294967296, n, false, false⟩, 0) := fun s hs hs2 => by
    rw [Vg.advance_ok _ _ hs hs2]; rfl
  have AH := Lib.hid A
  have ALH := Lib.hid AL
  have AZH := Lib.hid AZ
  clear A AL AZ F FL hLd hb
  go_enter Try.func11, Try.ntmps11
  go_wp2_with (first | (go_at_call 29; refine (lives02 _).mono ?_; rintro e w1 ⟨rfl, x_lives02, n_lives02, rfl⟩) | (go_at_call 32; refine (hw_arm _ _ _ _ _ _).mono ?_; rintro e w1 ⟨rfl, x_harm, n_harm, rfl⟩) | (go_at_call 27; refine (hw_left _ _ _ _ _).mono ?_; rintro e w1 ⟨rfl, x_hleft, n_hleft, rfl⟩))
  go_loopw [6] (fun v wr => ∃ r : Int, 1 ≤ r ∧ r ≤ L ∧ v = .int .i64 r ∧ Vg.Grows ((Vg.plus (w.alloc (Obj.cells #[.int .u32 c, .int .u32 n, .bool ar, .bool false] 33)) (x_lives02 ++ x_harm) (n_lives02 + n_harm)).alloc (Obj.cells #[.int .u32 ((c + (L - r)) % 4294967296), .int .u32 m, .bool true, .bool false] 33)) wr) (fun v _ => (intOf v).toNat)
  case atStart =>
    refine ⟨L, by omega, by omega, rfl, ?_⟩
    rw [show (c + (L - L)) % 4294967296 = c from by omega]
    (repeat' (first | (with_reducible exact Vg.Grows.refl _) | (with_reducible assumption) | (with_reducible refine Vg.Grows.alloc ?_ _) | (with_reducible refine Vg.Grows.plus ?_ _ _) | (with_reducible refine Vg.Grows.drewN ?_ _) | (with_reducible refine Vg.Grows.drew ?_) | (with_reducible refine Vg.Grows.setCell ?_ ?_ _) | omega | (simp; omega) | (simp; done)))
  case round =>
    obtain ⟨r, hr0, hr, rfl, y, k, rfl⟩ := hrel
    by_cases hlt : 1 < r
    · by_cases hmin : r - 1 ≤ 2147483647
      · have E := AH.out (L - r) (r - 1) (by omega) (by omega) (by omega) (by omega)
        rw [show L - r + (r - 1) = L - 1 from by omega] at E
        go_wp2_with (first | (go_at_call 25; refine (hw_advance _ _ _ _ _ _).mono ?_; rintro e w1 ⟨rfl, x_hadv, n_hadv, rfl⟩))
        refine ⟨⟨1, by omega, by omega, ?_, ?_⟩, by simp [intOf]; omega⟩
        · rw [show r - (r - 1) = 1 from by omega]
        · (repeat' (first | (with_reducible exact Vg.Grows.refl _) | (with_reducible assumption) | (with_reducible refine Vg.Grows.alloc ?_ _) | (with_reducible refine Vg.Grows.plus ?_ _ _) | (with_reducible refine Vg.Grows.drewN ?_ _) | (with_reducible refine Vg.Grows.drew ?_) | (with_reducible refine Vg.Grows.setCell ?_ ?_ _) | omega | (simp; omega) | (simp; done)))
      · have E := AH.out (L - r) 2147483647 (by omega) (by omega) (by omega) (by omega)
        rw [show L - r + 2147483647 = L - (r - 2147483647) from by omega] at E
        go_wp2_with (first | (go_at_call 25; refine (hw_advance _ _ _ _ _ _).mono ?_; rintro e w1 ⟨rfl, x_hadv, n_hadv, rfl⟩))
        exact ⟨⟨r - 2147483647, by omega, by omega, rfl, by (repeat' (first | (with_reducible exact Vg.Grows.refl _) | (with_reducible assumption) | (with_reducible refine Vg.Grows.alloc ?_ _) | (with_reducible refine Vg.Grows.plus ?_ _ _) | (with_reducible refine Vg.Grows.drewN ?_ _) | (with_reducible refine Vg.Grows.drew ?_) | (with_reducible refine Vg.Grows.setCell ?_ ?_ _) | omega | (simp; omega) | (simp; done)))⟩, by simp [intOf]; omega⟩
    · have E := ALH.out
      obtain rfl : r = 1 := by omega
      have E2 := AZH.out 1 (by omega) (by omega)
      go_wp2_with (first | (go_at_call 25; refine (hw_advance _ _ _ _ _ _).mono ?_; rintro e w1 ⟨rfl, x_hadv, n_hadv, rfl⟩) | (go_at_call 27; refine (hw_left _ _ _ _ _).mono ?_; rintro e w1 ⟨rfl, x_hleft, n_hleft, rfl⟩) | (go_at_call 34; refine (hw_disarm _ _ _ _ _).mono ?_; rintro e w1 ⟨rfl, x_hdis, n_hdis, rfl⟩))
      go_ret
      exact ⟨rfl, by (repeat' (first | (with_reducible exact Vg.Grows.refl _) | (with_reducible assumption) | (with_reducible refine Vg.Grows.alloc ?_ _) | (with_reducible refine Vg.Grows.plus ?_ _ _) | (with_reducible refine Vg.Grows.drewN ?_ _) | (with_reducible refine Vg.Grows.drew ?_) | (with_reducible refine Vg.Grows.setCell ?_ ?_ _) | omega | (simp; omega) | (simp; done)))⟩
end Go.Proofs.Ytmbddmmjhmjpdaa
