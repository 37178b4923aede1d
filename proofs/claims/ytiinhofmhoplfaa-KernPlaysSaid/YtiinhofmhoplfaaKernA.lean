/- Package kern: find, Waiting, Lost, Holds, Level, Suspend, Resume, Release. -/
import Derived.Test.YtiinhofmhoplfaaKern
import Derived.Test.YtiinhofmhoplfaaBotN
set_option linter.unusedSimpArgs false
set_option linter.unusedVariables false
set_option maxHeartbeats 4000000
set_option maxRecDepth 100000
namespace Vg
open Go
theorem Kn.no2 {K : List Kt} {n : Int} (h : n < 0 ∨ (K.length : Int) ≤ n) : n < 0 ∨ K[n.toNat]? = none := by
  by_cases h0 : n < 0
  · exact .inl h0
  · exact .inr (List.getElem?_eq_none (by omega))
theorem Kn.holds_out {K : List Kt} {M : List Mx} {n : Int} (h : n < 0 ∨ (K.length : Int) ≤ n) : Kn.holds K M n = false := Kn.no h _ _
theorem Kn.level_out {K : List Kt} {M : List Mx} {n : Int} (h : n < 0 ∨ (K.length : Int) ≤ n) : Kn.level K M n = 0 := Kn.no h _ _
theorem Kn.waiting_out {K : List Kt} {n : Int} (h : n < 0 ∨ (K.length : Int) ≤ n) : Kn.waiting K n = 0 := Kn.no h _ _
theorem Kn.lost_out {K : List Kt} {n : Int} (h : n < 0 ∨ (K.length : Int) ≤ n) : Kn.lost K n = 0 := Kn.no h _ _
theorem Kn.release_out {K : List Kt} {n c a : Int} (h : n < 0 ∨ (K.length : Int) ≤ n) : Kn.release K n c a = (K, 1) := Kn.no h _ _
theorem Kn.suspend_out {K : List Kt} {M : List Mx} {n : Int} (h : n < 0 ∨ (K.length : Int) ≤ n) : Kn.suspend K M n = (K, 1) := Kn.no h _ _
theorem Kn.resume_out {K : List Kt} {n : Int} (h : n < 0 ∨ (K.length : Int) ≤ n) : Kn.resume K n = (K, 1) := Kn.no h _ _
theorem Kn.holds_in {K : List Kt} {M : List Mx} {i : Nat} (h : i < K.length) : Kn.holds K M i = if K[i].t.lk < 0 then false else (Tb.holder M K[i].t.lk).2 && decide ((Tb.holder M K[i].t.lk).1 = (i : Int)) := Kn.yes h _ _
theorem Kn.level_in {K : List Kt} {M : List Mx} {i : Nat} (h : i < K.length) : Kn.level K M i = Tb.level M (Tb.of M i M.length) K[i].t.pr := Kn.yes h _ _
theorem Kn.waiting_in {K : List Kt} {i : Nat} (h : i < K.length) : Kn.waiting K i = K[i].J.length := Kn.yes h _ _
theorem Kn.lost_in {K : List Kt} {i : Nat} (h : i < K.length) : Kn.lost K i = K[i].lost := Kn.yes h _ _
theorem Kn.release_in {K : List Kt} {i : Nat} {c a : Int} (h : i < K.length) : Kn.release K i c a = if c < 1 ∨ 1099511627776 < c ∨ a < 0 ∨ 4503599627370496 < a then (K, 1) else
    if K[i].t.ro ≤ K[i].J.length then (K.set i ⟨K[i].t, K[i].J, K[i].lost + 1, K[i].out⟩, 5) else (K.set i ⟨K[i].t, K[i].J ++ [⟨c, a, 0⟩], K[i].lost, K[i].out⟩, 0) := by
  unfold Kn.release
  rw [Kn.yes h]
  simp
theorem Kn.suspend_in {K : List Kt} {M : List Mx} {i : Nat} (h : i < K.length) : Kn.suspend K M i = if K[i].out = true ∨ Kn.holds K M i = true then (K, 7) else (K.set i ⟨K[i].t, K[i].J, K[i].lost, true⟩, 0) := by
  unfold Kn.suspend
  rw [Kn.yes h]
  simp
theorem Kn.resume_in {K : List Kt} {i : Nat} (h : i < K.length) : Kn.resume K i = if K[i].out = false then (K, 7) else (K.set i ⟨K[i].t, K[i].J, K[i].lost, false⟩, 0) := by
  unfold Kn.resume
  rw [Kn.yes h]
  simp
def Kt.ok (x : Kt) : Prop := (x.t.ro ≤ 16 ∧ 1 ≤ x.t.ro) ∧ (0 ≤ x.lost ∧ x.lost ≤ 1000000) ∧ (x.J.length : Int) ≤ x.t.ro
end Vg
namespace Go.Proofs.Ytiinhofmhoplfaa
open Go.ChangeShapes Go.WideShapes Go.ChangeAt Go.RowKit
section
variable {w w' : World} {b cb n : Nat} {xs : List Vg.Kp} {rv cv : Value} {M M' : List Vg.Mx} {x r : Int} {is : Bool} {K' : List Vg.Kt}
theorem KTn.grows {w3 : World} (h : KTn w w' b xs rv cb M cv K') (hg : Vg.Grows w' w3) : KTn w w3 b xs rv cb M cv K' := by
  obtain ⟨ys, h1, h2, h3, h4⟩ := h
  exact ⟨ys, h1.grows hg, h2, h3, h4.trans (Vg.Touch.of_grows hg)⟩
theorem kern_find_no (m : Int) (hn : xs.length = n) (h : KT w b xs rv cb M cv) (hm : m < 0 ∨ (n : Int) ≤ m) :
    Calls Try.prog 121 #[.pointer (some ⟨b, 0, none⟩), .int .i64 m] w fun e w' => e = .returned (.pointer none) ∧ w = w' := by
  obtain ⟨a, c, rfl⟩ := h.row.shape
  have c0 := Vg.cells_of h.tab 0
  simp at c0
  rw [hn] at c0
  clear h hn
  by_cases h0 : m < 0
  · clear hm
    go_enter Try.func121, Try.ntmps121
    go_wp2
    go_ret
    exact ⟨rfl, rfl⟩
  · have h1 : (n : Int) ≤ m := by omega
    clear hm
    go_enter Try.func121, Try.ntmps121
    go_wp2
    go_ret
    exact ⟨rfl, rfl⟩
theorem kern_find {g o c : Nat} (i : Nat) (hi : i < n) (hn : xs.length = n) (h : KT w b xs (.slice (some ⟨g, o, none⟩) n c) cb M cv) (hc : n ≤ c) (hcm : c ≤ 9223372036854775807) :
    Calls Try.prog 121 #[.pointer (some ⟨b, 0, none⟩), .int .i64 i] w fun e w' => e = .returned (.pointer (some ⟨g, o + i * 13, none⟩)) ∧ w = w' := by
  have c0 := Vg.cells_of h.tab 0
  simp at c0
  clear h hn
  have h0 : (0 : Int) ≤ i := by omega
  have h1 : (i : Int) < n := by omega
  go_enter Try.func121, Try.ntmps121
  go_wp2
  go_ret
  exact ⟨rfl, rfl⟩
theorem kern_waiting (m : Int) (h : KT w b xs rv cb M cv) (hx : Vg.Kn.waiting (xs.map (·.2)) m = x) :
    Calls Try.prog 76 #[.pointer (some ⟨b, 0, none⟩), .int .i64 m] w fun e w' => e = .returned (.int .i64 x) ∧ w = w' := by
  subst hx
  obtain ⟨n, hn⟩ : ∃ n, xs.length = n := ⟨_, rfl⟩
  by_cases hm : m < 0 ∨ (n : Int) ≤ m
  · rw [Vg.Kn.waiting_out (by simpa [hn] using hm)]
    have H_h := Lib.hid h; clear h; have H_hn := Lib.hid hn; clear hn
    go_enter Try.func76, Try.ntmps76
    go_wp2_with ((go_at_call 121; refine (kern_find_no m H_hn.out H_h.out hm).mono ?_; rintro e w' ⟨rfl, rfl⟩))
    go_ret
    exact ⟨rfl, rfl⟩
  · obtain ⟨i, rfl⟩ : ∃ i : Nat, m = i := ⟨m.toNat, by omega⟩
    have hi : i < n := by omega
    have hix : i < xs.length := by omega
    rw [Vg.Kn.waiting_in (by simpa using hix), List.getElem_map]
    have hq := h.row
    obtain ⟨a, c, rfl⟩ := hq.shape
    rw [hn] at hq
    obtain ⟨g, o, rfl, -, hg, hcc, hcm, hx⟩ := hq.task hn i hix
    have hj := h.job i hix
    have c10 := hx 10 (by decide)
    obtain ⟨ja, jc, hju⟩ := hj.shape
    simp only [Vg.kcell] at c10
    rw [hju] at c10
    obtain ⟨N, hN⟩ : ∃ N, xs[i].2.J.length = N := ⟨_, rfl⟩
    rw [hN] at c10 ⊢
    have hb : KT w b xs (.slice (some ⟨g, o, none⟩) n c) cb M cv := by rw [← hn]; exact h
    clear hx hj hju hq
    have H_h := Lib.hid h; clear h; have H_hn := Lib.hid hn; clear hn; have H_hb := Lib.hid hb; clear hb; have H_hN := Lib.hid hN; clear hN
    go_enter Try.func76, Try.ntmps76
    go_wp2_with ((go_at_call 121; refine (kern_find i hi H_hn.out H_hb.out hcc hcm).mono ?_; rintro e w' ⟨rfl, rfl⟩))
    go_ret
    exact ⟨rfl, rfl⟩
theorem kern_lost (m : Int) (h : KT w b xs rv cb M cv) (hx : Vg.Kn.lost (xs.map (·.2)) m = x) :
    Calls Try.prog 77 #[.pointer (some ⟨b, 0, none⟩), .int .i64 m] w fun e w' => e = .returned (.int .i64 x) ∧ w = w' := by
  subst hx
  obtain ⟨n, hn⟩ : ∃ n, xs.length = n := ⟨_, rfl⟩
  by_cases hm : m < 0 ∨ (n : Int) ≤ m
  · rw [Vg.Kn.lost_out (by simpa [hn] using hm)]
    have H_h := Lib.hid h; clear h; have H_hn := Lib.hid hn; clear hn
    go_enter Try.func77, Try.ntmps77
    go_wp2_with ((go_at_call 121; refine (kern_find_no m H_hn.out H_h.out hm).mono ?_; rintro e w' ⟨rfl, rfl⟩))
    go_ret
    exact ⟨rfl, rfl⟩
  · obtain ⟨i, rfl⟩ : ∃ i : Nat, m = i := ⟨m.toNat, by omega⟩
    have hi : i < n := by omega
    have hix : i < xs.length := by omega
    rw [Vg.Kn.lost_in (by simpa using hix), List.getElem_map]
    have hq := h.row
    obtain ⟨a, c, rfl⟩ := hq.shape
    rw [hn] at hq
    obtain ⟨g, o, rfl, -, hg, hcc, hcm, hx⟩ := hq.task hn i hix
    have c11 := hx 11 (by decide)
    simp only [Vg.kcell] at c11
    obtain ⟨N, hN⟩ : ∃ N, xs[i].2.lost = N := ⟨_, rfl⟩
    rw [hN] at c11 ⊢
    have hb : KT w b xs (.slice (some ⟨g, o, none⟩) n c) cb M cv := by rw [← hn]; exact h
    clear hx hq
    have H_h := Lib.hid h; clear h; have H_hn := Lib.hid hn; clear hn; have H_hb := Lib.hid hb; clear hb; have H_hN := Lib.hid hN; clear hN
    go_enter Try.func77, Try.ntmps77
    go_wp2_with ((go_at_call 121; refine (kern_find i hi H_hn.out H_hb.out hcc hcm).mono ?_; rintro e w' ⟨rfl, rfl⟩))
    go_ret
    exact ⟨rfl, rfl⟩
theorem kern_holds (m : Int) (h : KT w b xs rv cb M cv) (hx : Vg.Kn.holds (xs.map (·.2)) M m = is) :
    Calls Try.prog 73 #[.pointer (some ⟨b, 0, none⟩), .int .i64 m] w fun e w' => e = .returned (.bool is) ∧ Vg.Grows w w' := by
  subst hx
  obtain ⟨n, hn⟩ : ∃ n, xs.length = n := ⟨_, rfl⟩
  by_cases hm : m < 0 ∨ (n : Int) ≤ m
  · rw [Vg.Kn.holds_out (by simpa [hn] using hm)]
    have H_h := Lib.hid h; clear h; have H_hn := Lib.hid hn; clear hn
    go_enter Try.func73, Try.ntmps73
    go_wp2_with ((go_at_call 121; refine (kern_find_no m H_hn.out H_h.out hm).mono ?_; rintro e w' ⟨rfl, rfl⟩))
    go_ret
    exact ⟨rfl, by (repeat' (first | (with_reducible exact Vg.Grows.refl _) | (with_reducible assumption) | (with_reducible refine Vg.Grows.alloc ?_ _) | (with_reducible refine Vg.Grows.plus ?_ _ _) | (with_reducible refine Vg.Grows.drewN ?_ _) | (with_reducible refine Vg.Grows.drew ?_) | (with_reducible refine Vg.Grows.setCell ?_ ?_ _) | (with_reducible refine Vg.Grows.put ?_ ?_ _) | omega | (simp; omega) | (simp; done)))⟩
  · obtain ⟨i, rfl⟩ : ∃ i : Nat, m = i := ⟨m.toNat, by omega⟩
    have hi : i < n := by omega
    have hix : i < xs.length := by omega
    rw [Vg.Kn.holds_in (by simpa using hix)]
    simp only [List.getElem_map]
    have hq := h.row
    obtain ⟨a, c, rfl⟩ := hq.shape
    rw [hn] at hq
    obtain ⟨g, o, rfl, -, hg, hcc, hcm, hx⟩ := hq.task hn i hix
    have c7 := hx 7 (by decide)
    simp only [Vg.kcell] at c7
    have c1 := Vg.cells_of h.tab 1
    simp at c1
    have hce := h.ceil
    obtain ⟨lk, hlk⟩ : ∃ lk, xs[i].2.t.lk = lk := ⟨_, rfl⟩
    rw [hlk] at c7 ⊢
    obtain ⟨⟨who, ih⟩, hho⟩ : ∃ p, Vg.Tb.holder M lk = p := ⟨_, rfl⟩
    rw [hho]
    have hb : KT w b xs (.slice (some ⟨g, o, none⟩) n c) cb M cv := by rw [← hn]; exact h
    clear hx hq
    by_cases hl0 : lk < 0
    · rw [if_pos hl0]
      have H_h := Lib.hid h; clear h; have H_hn := Lib.hid hn; clear hn; have H_hb := Lib.hid hb; clear hb; have H_hlk := Lib.hid hlk; clear hlk; have H_hce := Lib.hid hce; clear hce; have H_hho := Lib.hid hho; clear hho
      go_enter Try.func73, Try.ntmps73
      go_wp2_with ((go_at_call 121; refine (kern_find i hi H_hn.out H_hb.out hcc hcm).mono ?_; rintro e w' ⟨rfl, rfl⟩))
      go_ret
      exact ⟨rfl, by (repeat' (first | (with_reducible exact Vg.Grows.refl _) | (with_reducible assumption) | (with_reducible refine Vg.Grows.alloc ?_ _) | (with_reducible refine Vg.Grows.plus ?_ _ _) | (with_reducible refine Vg.Grows.drewN ?_ _) | (with_reducible refine Vg.Grows.drew ?_) | (with_reducible refine Vg.Grows.setCell ?_ ?_ _) | (with_reducible refine Vg.Grows.put ?_ ?_ _) | omega | (simp; omega) | (simp; done)))⟩
    · rw [if_neg hl0]
      cases ih with
      | false =>
        have H_h := Lib.hid h; clear h; have H_hn := Lib.hid hn; clear hn; have H_hb := Lib.hid hb; clear hb; have H_hlk := Lib.hid hlk; clear hlk; have H_hce := Lib.hid hce; clear hce; have H_hho := Lib.hid hho; clear hho
        go_enter Try.func73, Try.ntmps73
        go_wp2_with ((go_at_call 121; refine (kern_find i hi H_hn.out H_hb.out hcc hcm).mono ?_; rintro e w' ⟨rfl, rfl⟩))
        go_quiet ((go_at_call 35; refine (ce_holder (M := M) lk (H_hce.out.grows (by (repeat' (first | (with_reducible exact Vg.Grows.refl _) | (with_reducible assumption) | (with_reducible refine Vg.Grows.alloc ?_ _) | (with_reducible refine Vg.Grows.plus ?_ _ _) | (with_reducible refine Vg.Grows.drewN ?_ _) | (with_reducible refine Vg.Grows.drew ?_) | (with_reducible refine Vg.Grows.setCell ?_ ?_ _) | (with_reducible refine Vg.Grows.put ?_ ?_ _) | omega | (simp; omega) | (simp; done)))))).mono ?_; rintro e w1 ⟨rfl, rfl⟩; rw [H_hho.out]; exact ⟨rfl, _, rfl⟩))
        go_wp2_with fail
        go_ret
        exact ⟨rfl, by (repeat' (first | (with_reducible exact Vg.Grows.refl _) | (with_reducible assumption) | (with_reducible refine Vg.Grows.alloc ?_ _) | (with_reducible refine Vg.Grows.plus ?_ _ _) | (with_reducible refine Vg.Grows.drewN ?_ _) | (with_reducible refine Vg.Grows.drew ?_) | (with_reducible refine Vg.Grows.setCell ?_ ?_ _) | (with_reducible refine Vg.Grows.put ?_ ?_ _) | omega | (simp; omega) | (simp; done)))⟩
      | true =>
        by_cases hw : who = (i : Int)
        · have hb1 : (who == (i : Int)) = true := by simp [hw]
          have H_h := Lib.hid h; clear h; have H_hn := Lib.hid hn; clear hn; have H_hb := Lib.hid hb; clear hb; have H_hlk := Lib.hid hlk; clear hlk; have H_hce := Lib.hid hce; clear hce; have H_hho := Lib.hid hho; clear hho
          go_enter Try.func73, Try.ntmps73
          go_wp2_with ((go_at_call 121; refine (kern_find i hi H_hn.out H_hb.out hcc hcm).mono ?_; rintro e w' ⟨rfl, rfl⟩))
          go_quiet ((go_at_call 35; refine (ce_holder (M := M) lk (H_hce.out.grows (by (repeat' (first | (with_reducible exact Vg.Grows.refl _) | (with_reducible assumption) | (with_reducible refine Vg.Grows.alloc ?_ _) | (with_reducible refine Vg.Grows.plus ?_ _ _) | (with_reducible refine Vg.Grows.drewN ?_ _) | (with_reducible refine Vg.Grows.drew ?_) | (with_reducible refine Vg.Grows.setCell ?_ ?_ _) | (with_reducible refine Vg.Grows.put ?_ ?_ _) | omega | (simp; omega) | (simp; done)))))).mono ?_; rintro e w1 ⟨rfl, rfl⟩; rw [H_hho.out]; exact ⟨rfl, _, rfl⟩))
          go_wp2_with fail
          go_ret
          exact ⟨ret_bool (by simp [hw]), by (repeat' (first | (with_reducible exact Vg.Grows.refl _) | (with_reducible assumption) | (with_reducible refine Vg.Grows.alloc ?_ _) | (with_reducible refine Vg.Grows.plus ?_ _ _) | (with_reducible refine Vg.Grows.drewN ?_ _) | (with_reducible refine Vg.Grows.drew ?_) | (with_reducible refine Vg.Grows.setCell ?_ ?_ _) | (with_reducible refine Vg.Grows.put ?_ ?_ _) | omega | (simp; omega) | (simp; done)))⟩
        · have hb1 : (who == (i : Int)) = false := by simp [hw]
          have H_h := Lib.hid h; clear h; have H_hn := Lib.hid hn; clear hn; have H_hb := Lib.hid hb; clear hb; have H_hlk := Lib.hid hlk; clear hlk; have H_hce := Lib.hid hce; clear hce; have H_hho := Lib.hid hho; clear hho
          go_enter Try.func73, Try.ntmps73
          go_wp2_with ((go_at_call 121; refine (kern_find i hi H_hn.out H_hb.out hcc hcm).mono ?_; rintro e w' ⟨rfl, rfl⟩))
          go_quiet ((go_at_call 35; refine (ce_holder (M := M) lk (H_hce.out.grows (by (repeat' (first | (with_reducible exact Vg.Grows.refl _) | (with_reducible assumption) | (with_reducible refine Vg.Grows.alloc ?_ _) | (with_reducible refine Vg.Grows.plus ?_ _ _) | (with_reducible refine Vg.Grows.drewN ?_ _) | (with_reducible refine Vg.Grows.drew ?_) | (with_reducible refine Vg.Grows.setCell ?_ ?_ _) | (with_reducible refine Vg.Grows.put ?_ ?_ _) | omega | (simp; omega) | (simp; done)))))).mono ?_; rintro e w1 ⟨rfl, rfl⟩; rw [H_hho.out]; exact ⟨rfl, _, rfl⟩))
          go_wp2_with fail
          go_ret
          exact ⟨ret_bool (by simp [hw]), by (repeat' (first | (with_reducible exact Vg.Grows.refl _) | (with_reducible assumption) | (with_reducible refine Vg.Grows.alloc ?_ _) | (with_reducible refine Vg.Grows.plus ?_ _ _) | (with_reducible refine Vg.Grows.drewN ?_ _) | (with_reducible refine Vg.Grows.drew ?_) | (with_reducible refine Vg.Grows.setCell ?_ ?_ _) | (with_reducible refine Vg.Grows.put ?_ ?_ _) | omega | (simp; omega) | (simp; done)))⟩
theorem kern_level (m : Int) (h : KT w b xs rv cb M cv) (hx : Vg.Kn.level (xs.map (·.2)) M m = x) :
    Calls Try.prog 71 #[.pointer (some ⟨b, 0, none⟩), .int .i64 m] w fun e w' => e = .returned (.int .i64 x) ∧ Vg.Grows w w' := by
  subst hx
  obtain ⟨n, hn⟩ : ∃ n, xs.length = n := ⟨_, rfl⟩
  by_cases hm : m < 0 ∨ (n : Int) ≤ m
  · rw [Vg.Kn.level_out (by simpa [hn] using hm)]
    have H_h := Lib.hid h; clear h; have H_hn := Lib.hid hn; clear hn
    go_enter Try.func71, Try.ntmps71
    go_wp2_with ((go_at_call 121; refine (kern_find_no m H_hn.out H_h.out hm).mono ?_; rintro e w' ⟨rfl, rfl⟩))
    go_ret
    exact ⟨rfl, by (repeat' (first | (with_reducible exact Vg.Grows.refl _) | (with_reducible assumption) | (with_reducible refine Vg.Grows.alloc ?_ _) | (with_reducible refine Vg.Grows.plus ?_ _ _) | (with_reducible refine Vg.Grows.drewN ?_ _) | (with_reducible refine Vg.Grows.drew ?_) | (with_reducible refine Vg.Grows.setCell ?_ ?_ _) | (with_reducible refine Vg.Grows.put ?_ ?_ _) | omega | (simp; omega) | (simp; done)))⟩
  · obtain ⟨i, rfl⟩ : ∃ i : Nat, m = i := ⟨m.toNat, by omega⟩
    have hi : i < n := by omega
    have hix : i < xs.length := by omega
    rw [Vg.Kn.level_in (by simpa using hix)]
    simp only [List.getElem_map]
    have hq := h.row
    obtain ⟨a, c, rfl⟩ := hq.shape
    rw [hn] at hq
    obtain ⟨g, o, rfl, -, hg, hcc, hcm, hx⟩ := hq.task hn i hix
    have c1 := hx 1 (by decide)
    simp only [Vg.kcell] at c1
    have d1 := Vg.cells_of h.tab 1
    simp at d1
    have hce := h.ceil
    obtain ⟨pr, hpr⟩ : ∃ pr, xs[i].2.t.pr = pr := ⟨_, rfl⟩
    rw [hpr] at c1 ⊢
    obtain ⟨lv, hlv⟩ : ∃ lv, Vg.Tb.level M (Vg.Tb.of M i M.length) pr = lv := ⟨_, rfl⟩
    rw [hlv]
    have hb : KT w b xs (.slice (some ⟨g, o, none⟩) n c) cb M cv := by rw [← hn]; exact h
    clear hx hq
    have H_h := Lib.hid h; clear h; have H_hn := Lib.hid hn; clear hn; have H_hb := Lib.hid hb; clear hb; have H_hpr := Lib.hid hpr; clear hpr; have H_hce := Lib.hid hce; clear hce; have H_hlv := Lib.hid hlv; clear hlv
    go_enter Try.func71, Try.ntmps71
    go_wp2_with ((go_at_call 121; refine (kern_find i hi H_hn.out H_hb.out hcc hcm).mono ?_; rintro e w' ⟨rfl, rfl⟩))
    go_region_with ((go_at_call 40; refine (ce_levelx (M := M) i pr (H_hce.out.grows (by (repeat' (first | (with_reducible exact Vg.Grows.refl _) | (with_reducible assumption) | (with_reducible refine Vg.Grows.alloc ?_ _) | (with_reducible refine Vg.Grows.plus ?_ _ _) | (with_reducible refine Vg.Grows.drewN ?_ _) | (with_reducible refine Vg.Grows.drew ?_) | (with_reducible refine Vg.Grows.setCell ?_ ?_ _) | (with_reducible refine Vg.Grows.put ?_ ?_ _) | omega | (simp; omega) | (simp; done))))) H_hlv.out).mono ?_; rintro e w1 ⟨rfl, x1, n1, rfl⟩))
    all_goals go_wp2
    all_goals go_ret
    all_goals exact ⟨rfl, by (repeat' (first | (with_reducible exact Vg.Grows.refl _) | (with_reducible assumption) | (with_reducible refine Vg.Grows.alloc ?_ _) | (with_reducible refine Vg.Grows.plus ?_ _ _) | (with_reducible refine Vg.Grows.drewN ?_ _) | (with_reducible refine Vg.Grows.drew ?_) | (with_reducible refine Vg.Grows.setCell ?_ ?_ _) | (with_reducible refine Vg.Grows.put ?_ ?_ _) | omega | (simp; omega) | (simp; done)))⟩
theorem kern_suspend (m : Int) (h : KT w b xs rv cb M cv) (hx : Vg.Kn.suspend (xs.map (·.2)) M m = (K', r)) :
    Calls Try.prog 78 #[.pointer (some ⟨b, 0, none⟩), .int .i64 m] w fun e w' => e = .returned (.int .i64 r) ∧ KTn w w' b xs rv cb M cv K' := by
  obtain ⟨n, hn⟩ : ∃ n, xs.length = n := ⟨_, rfl⟩
  by_cases hm : m < 0 ∨ (n : Int) ≤ m
  · rw [Vg.Kn.suspend_out (by simpa [hn] using hm)] at hx
    simp only [Prod.mk.injEq] at hx
    obtain ⟨rfl, rfl⟩ := hx
    have H_h := Lib.hid h; clear h; have H_hn := Lib.hid hn; clear hn
    go_enter Try.func78, Try.ntmps78
    go_wp2_with ((go_at_call 121; refine (kern_find_no m H_hn.out H_h.out hm).mono ?_; rintro e w' ⟨rfl, rfl⟩))
    go_ret
    exact ⟨rfl, KTn.same H_h.out (by (repeat' (first | (with_reducible exact Vg.Grows.refl _) | (with_reducible assumption) | (with_reducible refine Vg.Grows.alloc ?_ _) | (with_reducible refine Vg.Grows.plus ?_ _ _) | (with_reducible refine Vg.Grows.drewN ?_ _) | (with_reducible refine Vg.Grows.drew ?_) | (with_reducible refine Vg.Grows.setCell ?_ ?_ _) | (with_reducible refine Vg.Grows.put ?_ ?_ _) | omega | (simp; omega) | (simp; done))))⟩
  · obtain ⟨i, rfl⟩ : ∃ i : Nat, m = i := ⟨m.toNat, by omega⟩
    have hi : i < n := by omega
    have hix : i < xs.length := by omega
    rw [Vg.Kn.suspend_in (by simpa using hix)] at hx
    simp only [List.getElem_map] at hx
    have hq := h.row
    obtain ⟨a, c, hrv⟩ := hq.shape
    subst hrv
    rw [hn] at hq
    obtain ⟨g, o, rfl, -, hg, hcc, hcm, hcx⟩ := hq.task hn i hix
    have c12 := hcx 12 (by decide)
    simp only [Vg.kcell] at c12
    have hfz := hq.frozen
    have hb : KT w b xs (.slice (some ⟨g, o, none⟩) n c) cb M cv := by rw [← hn]; exact h
    have hkl := Vg.kcells_length xs
    obtain ⟨q, hqe⟩ : ∃ q, xs[i] = q := ⟨_, rfl⟩
    rw [hqe] at hx c12
    obtain ⟨u, ⟨t, J, lo, ou⟩⟩ := q
    simp only [] at hx c12
    obtain ⟨hd, hhd⟩ : ∃ hd, Vg.Kn.holds (xs.map (·.2)) M i = hd := ⟨_, rfl⟩
    rw [hhd] at hx
    rw [hn] at h ⊢
    clear hcx
    cases ou with
    | true =>
      rw [if_pos (.inl rfl)] at hx
      simp only [Prod.mk.injEq] at hx
      obtain ⟨rfl, rfl⟩ := hx
      have H_h := Lib.hid h; clear h; have H_hn := Lib.hid hn; clear hn; have H_hb := Lib.hid hb; clear hb; have H_hqe := Lib.hid hqe; clear hqe; have H_hhd := Lib.hid hhd; clear hhd; have H_hq := Lib.hid hq; clear hq; have H_hkl := Lib.hid hkl; clear hkl
      go_enter Try.func78, Try.ntmps78
      go_wp2_with ((go_at_call 121; refine (kern_find i hi H_hn.out H_hb.out hcc hcm).mono ?_; rintro e w' ⟨rfl, rfl⟩))
      go_ret
      exact ⟨rfl, KTn.same H_hb.out (by (repeat' (first | (with_reducible exact Vg.Grows.refl _) | (with_reducible assumption) | (with_reducible refine Vg.Grows.alloc ?_ _) | (with_reducible refine Vg.Grows.plus ?_ _ _) | (with_reducible refine Vg.Grows.drewN ?_ _) | (with_reducible refine Vg.Grows.drew ?_) | (with_reducible refine Vg.Grows.setCell ?_ ?_ _) | (with_reducible refine Vg.Grows.put ?_ ?_ _) | omega | (simp; omega) | (simp; done))))⟩
    | false =>
      cases hd with
      | true =>
        rw [if_pos (.inr rfl)] at hx
        simp only [Prod.mk.injEq] at hx
        obtain ⟨rfl, rfl⟩ := hx
        have H_h := Lib.hid h; clear h; have H_hn := Lib.hid hn; clear hn; have H_hb := Lib.hid hb; clear hb; have H_hqe := Lib.hid hqe; clear hqe; have H_hhd := Lib.hid hhd; clear hhd; have H_hq := Lib.hid hq; clear hq; have H_hkl := Lib.hid hkl; clear hkl
        go_enter Try.func78, Try.ntmps78
        go_wp2_with (first | (go_at_call 121; refine (kern_find i hi H_hn.out H_hb.out hcc hcm).mono ?_; rintro e w' ⟨rfl, rfl⟩) | (go_at_call 73; refine (kern_holds i H_hb.out H_hhd.out).mono ?_; rintro e w1 ⟨rfl, x1, n1, rfl⟩))
        go_ret
        exact ⟨rfl, KTn.same H_hb.out (by (repeat' (first | (with_reducible exact Vg.Grows.refl _) | (with_reducible assumption) | (with_reducible refine Vg.Grows.alloc ?_ _) | (with_reducible refine Vg.Grows.plus ?_ _ _) | (with_reducible refine Vg.Grows.drewN ?_ _) | (with_reducible refine Vg.Grows.drew ?_) | (with_reducible refine Vg.Grows.setCell ?_ ?_ _) | (with_reducible refine Vg.Grows.put ?_ ?_ _) | omega | (simp; omega) | (simp; done))))⟩
      | false =>
        rw [if_neg (by simp)] at hx
        simp only [Prod.mk.injEq] at hx
        obtain ⟨rfl, rfl⟩ := hx
        have H_h := Lib.hid h; clear h; have H_hn := Lib.hid hn; clear hn; have H_hb := Lib.hid hb; clear hb; have H_hqe := Lib.hid hqe; clear hqe; have H_hhd := Lib.hid hhd; clear hhd; have H_hq := Lib.hid hq; clear hq; have H_hkl := Lib.hid hkl; clear hkl
        go_enter Try.func78, Try.ntmps78
        go_wp2_with (first | (go_at_call 121; refine (kern_find i hi H_hn.out H_hb.out hcc hcm).mono ?_; rintro e w' ⟨rfl, rfl⟩) | (go_at_call 73; refine (kern_holds i H_hb.out H_hhd.out).mono ?_; rintro e w1 ⟨rfl, x1, n1, rfl⟩))
        go_ret
        have q1 := H_hq.out.set (j := i * 13 + 12) (u := .bool true) (by rw [H_hkl.out]; omega)
        rw [Vg.kcells_set12 xs i hix true, ← Nat.add_assoc, H_hqe.out] at q1
        refine ⟨rfl, KTn.grows (KT.cell hix H_hb.out (q := ⟨t, J, lo, true⟩) (by rw [H_hqe.out]) ((Vg.Touch.of_same q1.2).mono fun k _ hk => by rw [hk]; rfl) ?_) ((Vg.Grows.refl _).plus x1 n1)⟩
        rw [H_hn.out, H_hqe.out]
        exact q1.1
theorem kern_resume (m : Int) (h : KT w b xs rv cb M cv) (hx : Vg.Kn.resume (xs.map (·.2)) m = (K', r)) :
    Calls Try.prog 79 #[.pointer (some ⟨b, 0, none⟩), .int .i64 m] w fun e w' => e = .returned (.int .i64 r) ∧ KTn w w' b xs rv cb M cv K' := by
  obtain ⟨n, hn⟩ : ∃ n, xs.length = n := ⟨_, rfl⟩
  by_cases hm : m < 0 ∨ (n : Int) ≤ m
  · rw [Vg.Kn.resume_out (by simpa [hn] using hm)] at hx
    simp only [Prod.mk.injEq] at hx
    obtain ⟨rfl, rfl⟩ := hx
    have H_h := Lib.hid h; clear h; have H_hn := Lib.hid hn; clear hn
    go_enter Try.func79, Try.ntmps79
    go_wp2_with ((go_at_call 121; refine (kern_find_no m H_hn.out H_h.out hm).mono ?_; rintro e w' ⟨rfl, rfl⟩))
    go_ret
    exact ⟨rfl, KTn.same H_h.out (by (repeat' (first | (with_reducible exact Vg.Grows.refl _) | (with_reducible assumption) | (with_reducible refine Vg.Grows.alloc ?_ _) | (with_reducible refine Vg.Grows.plus ?_ _ _) | (with_reducible refine Vg.Grows.drewN ?_ _) | (with_reducible refine Vg.Grows.drew ?_) | (with_reducible refine Vg.Grows.setCell ?_ ?_ _) | (with_reducible refine Vg.Grows.put ?_ ?_ _) | omega | (simp; omega) | (simp; done))))⟩
  · obtain ⟨i, rfl⟩ : ∃ i : Nat, m = i := ⟨m.toNat, by omega⟩
    have hi : i < n := by omega
    have hix : i < xs.length := by omega
    rw [Vg.Kn.resume_in (by simpa using hix)] at hx
    simp only [List.getElem_map] at hx
    have hq := h.row
    obtain ⟨a, c, hrv⟩ := hq.shape
    subst hrv
    rw [hn] at hq
    obtain ⟨g, o, rfl, -, hg, hcc, hcm, hcx⟩ := hq.task hn i hix
    have c12 := hcx 12 (by decide)
    simp only [Vg.kcell] at c12
    have hfz := hq.frozen
    have hb : KT w b xs (.slice (some ⟨g, o, none⟩) n c) cb M cv := by rw [← hn]; exact h
    have hkl := Vg.kcells_length xs
    obtain ⟨q, hqe⟩ : ∃ q, xs[i] = q := ⟨_, rfl⟩
    rw [hqe] at hx c12
    obtain ⟨u, ⟨t, J, lo, ou⟩⟩ := q
    simp only [] at hx c12
    rw [hn] at h ⊢
    clear hcx
    cases ou with
    | false =>
      rw [if_pos rfl] at hx
      simp only [Prod.mk.injEq] at hx
      obtain ⟨rfl, rfl⟩ := hx
      have H_h := Lib.hid h; clear h; have H_hn := Lib.hid hn; clear hn; have H_hb := Lib.hid hb; clear hb; have H_hqe := Lib.hid hqe; clear hqe; have H_hq := Lib.hid hq; clear hq; have H_hkl := Lib.hid hkl; clear hkl
      go_enter Try.func79, Try.ntmps79
      go_wp2_with ((go_at_call 121; refine (kern_find i hi H_hn.out H_hb.out hcc hcm).mono ?_; rintro e w' ⟨rfl, rfl⟩))
      go_ret
      exact ⟨rfl, KTn.same H_hb.out (by (repeat' (first | (with_reducible exact Vg.Grows.refl _) | (with_reducible assumption) | (with_reducible refine Vg.Grows.alloc ?_ _) | (with_reducible refine Vg.Grows.plus ?_ _ _) | (with_reducible refine Vg.Grows.drewN ?_ _) | (with_reducible refine Vg.Grows.drew ?_) | (with_reducible refine Vg.Grows.setCell ?_ ?_ _) | (with_reducible refine Vg.Grows.put ?_ ?_ _) | omega | (simp; omega) | (simp; done))))⟩
    | true =>
      rw [if_neg (by simp)] at hx
      simp only [Prod.mk.injEq] at hx
      obtain ⟨rfl, rfl⟩ := hx
      have H_h := Lib.hid h; clear h; have H_hn := Lib.hid hn; clear hn; have H_hb := Lib.hid hb; clear hb; have H_hqe := Lib.hid hqe; clear hqe; have H_hq := Lib.hid hq; clear hq; have H_hkl := Lib.hid hkl; clear hkl
      go_enter Try.func79, Try.ntmps79
      go_wp2_with ((go_at_call 121; refine (kern_find i hi H_hn.out H_hb.out hcc hcm).mono ?_; rintro e w' ⟨rfl, rfl⟩))
      go_ret
      have q1 := H_hq.out.set (j := i * 13 + 12) (u := .bool false) (by rw [H_hkl.out]; omega)
      rw [Vg.kcells_set12 xs i hix false, ← Nat.add_assoc, H_hqe.out] at q1
      refine ⟨rfl, KT.cell hix H_hb.out (q := ⟨t, J, lo, false⟩) (by rw [H_hqe.out]) ((Vg.Touch.of_same q1.2).mono fun k _ hk => by rw [hk]; rfl) ?_⟩
      rw [H_hn.out, H_hqe.out]
      exact q1.1
/-- A task's row of jobs is another one. -/
theorem kt_jobs_end {W2 : World} {i g o c : Nat} {u u2 : Value} {t : Vg.Tk} {J J2 : List Vg.Jb} {lo : Int} {ou : Bool} (hn : xs.length = n) (hi : i < xs.length) (h : KT w b xs (.slice (some ⟨g, o, none⟩) n c) cb M cv) (hx : xs[i] = (u, ⟨t, J, lo, ou⟩))
    (ht2 : Vg.Touch (fun j => u.ownBlock = some j) w W2) (hrow2 : Vg.Que W2 (b + 1) 199 13 (.slice (some ⟨g, o, none⟩) n c) n (Vg.kcells xs)) (hq2 : Vg.Que W2 (b + 1) 210 3 u2 J2.length (Vg.jcells J2))
    (ho2 : ∀ k, u2.ownBlock = some k → u.ownBlock = some k ∨ w.heap.size ≤ k) :
    KTn w (W2.setCell ⟨g, o + i * 13 + 10, none⟩ u2) b xs (.slice (some ⟨g, o, none⟩) n c) cb M cv ((xs.map (·.2)).set i ⟨t, J2, lo, ou⟩) := by
  have hg2 : g < w.heap.size := (h.row.lt g rfl).2
  have hkl := Vg.kcells_length xs
  have q1 := hrow2.set (j := i * 13 + 10) (u := u2) (by rw [hkl]; omega)
  rw [Vg.kcells_set10 xs i hi u2 J2, ← Nat.add_assoc, hx] at q1
  have hof : ∀ k, u.ownBlock = some k → k ≠ g := fun k hk hh => h.off i hi k (by unfold kfp; rw [hx]; exact hk) (by rw [hh]; rfl)
  have hne : ∀ k, u2.ownBlock = some k → k ≠ g := fun k hk hh => by
    rcases ho2 k hk with h1 | h1
    · exact hof k h1 hh
    · omega
  refine KT.upd hi h ((ht2.mono fun k _ hk => ?_).trans ((Vg.Touch.of_same q1.2).mono fun k _ hk => .inl (by rw [hk]; rfl))) (by rw [hn]; exact q1.1) (hq2.kept fun k hk => q1.2.block k fun hh => ?_) fun k hk => ?_
  · exact .inr (by unfold kfp; rw [hx]; exact hk)
  · exact hne k hk hh
  · rcases ho2 k hk with h1 | h1
    · exact .inl (by unfold kfp; rw [hx]; exact h1)
    · exact .inr h1
/-- What lies in a task's row of jobs is another one. -/
theorem kt_jobs_in {W2 : World} {i g o c : Nat} {u : Value} {t : Vg.Tk} {J J2 : List Vg.Jb} {lo : Int} {ou : Bool} (hn : xs.length = n) (hi : i < xs.length) (h : KT w b xs (.slice (some ⟨g, o, none⟩) n c) cb M cv) (hx : xs[i] = (u, ⟨t, J, lo, ou⟩))
    (ht2 : Vg.Touch (fun j => u.ownBlock = some j) w W2) (hrow2 : Vg.Que W2 (b + 1) 199 13 (.slice (some ⟨g, o, none⟩) n c) n (Vg.kcells xs)) (hq2 : Vg.Que W2 (b + 1) 210 3 u J2.length (Vg.jcells J2)) :
    KT W2 b (xs.set i (u, ⟨t, J2, lo, ou⟩)) (.slice (some ⟨g, o, none⟩) n c) cb M cv ∧ (∀ k, kown b (xs.set i (u, ⟨t, J2, lo, ou⟩)) (.slice (some ⟨g, o, none⟩) n c) cb cv k → kown b xs (.slice (some ⟨g, o, none⟩) n c) cb cv k ∨ w.heap.size ≤ k) ∧ Vg.Touch (kown b xs (.slice (some ⟨g, o, none⟩) n c) cb cv) w W2 := by
  have e := Vg.kcells_setJ xs i hi J2
  rw [hx] at e
  exact KT.updx hi h (ht2.mono fun k _ hk => .inr (by unfold kfp; rw [hx]; exact hk)) (by rw [hn, e]; exact hrow2) hq2 fun k hk => .inl (by unfold kfp; rw [hx]; exact hk)
theorem KTn.put {w2 : World} {rb : Nat} {o : Obj} (h0 : KT w2 b xs rv cb M cv) (h : KTn w2 w' b xs rv cb M' cv K') (hg : Vg.Grows w w2) (hrb : w.heap.size ≤ rb) (hr2 : rb < w2.heap.size) (hno : ¬ kown b xs rv cb cv rb) : KTn w (Vg.put w' rb o) b xs rv cb M' cv K' := by
  obtain ⟨ys, k1, k2, k3, k4⟩ := h
  have ht := (Vg.Touch.of_grows hg).trans k4
  have hne : ∀ k, kown b ys rv cb cv k → rb ≠ k := fun k hk hh => by
    subst hh
    rcases k3 rb hk with h1 | h1
    · exact hno h1
    · omega
  refine ⟨ys, k1.kept fun k hk => Vg.put_heap_other (hne k hk), k2, fun k hk => ?_, ⟨ht.os, ht.tape, ht.output, by rw [Vg.put_size]; exact ht.size, fun k hk hkt => (Vg.put_heap_other (by omega)).trans (ht.block k hk hkt)⟩⟩
  rcases k3 k hk with h1 | h1
  · exact .inl h1
  · exact .inr (Nat.le_trans hg.size h1)
theorem kern_release (m cost at_ : Int) (h : KT w b xs rv cb M cv) (hok : ∀ i (hi : i < xs.length), xs[i].2.ok) (hx : Vg.Kn.release (xs.map (·.2)) m cost at_ = (K', r)) :
    Calls Try.prog 81 #[.pointer (some ⟨b, 0, none⟩), .int .i64 m, .int .i64 cost, .int .i64 at_] w fun e w' => e = .returned (.int .i64 r) ∧ KTn w w' b xs rv cb M cv K' := by
  obtain ⟨n, hn⟩ : ∃ n, xs.length = n := ⟨_, rfl⟩
  by_cases hm : m < 0 ∨ (n : Int) ≤ m
  · rw [Vg.Kn.release_out (by simpa [hn] using hm)] at hx
    simp only [Prod.mk.injEq] at hx
    obtain ⟨rfl, rfl⟩ := hx
    have H_h := Lib.hid h; clear h; have H_hn := Lib.hid hn; clear hn; have H_hok := Lib.hid hok; clear hok
    go_enter Try.func81, Try.ntmps81
    go_wp2_with ((go_at_call 121; refine (kern_find_no m H_hn.out H_h.out hm).mono ?_; rintro e w' ⟨rfl, rfl⟩))
    go_ret
    exact ⟨rfl, KTn.same H_h.out (by (repeat' (first | (with_reducible exact Vg.Grows.refl _) | (with_reducible assumption) | (with_reducible refine Vg.Grows.alloc ?_ _) | (with_reducible refine Vg.Grows.plus ?_ _ _) | (with_reducible refine Vg.Grows.drewN ?_ _) | (with_reducible refine Vg.Grows.drew ?_) | (with_reducible refine Vg.Grows.setCell ?_ ?_ _) | (with_reducible refine Vg.Grows.put ?_ ?_ _) | omega | (simp; omega) | (simp; done))))⟩
  · obtain ⟨i, rfl⟩ : ∃ i : Nat, m = i := ⟨m.toNat, by omega⟩
    have hi : i < n := by omega
    have hix : i < xs.length := by omega
    rw [Vg.Kn.release_in (by simpa using hix)] at hx
    simp only [List.getElem_map] at hx
    have hq := h.row
    obtain ⟨a, c, hrv⟩ := hq.shape
    subst hrv
    rw [hn] at hq
    obtain ⟨g, o, rfl, -, hg, hcc, hcm, hcx⟩ := hq.task hn i hix
    have c6 := hcx 6 (by decide)
    have c10 := hcx 10 (by decide)
    have c11 := hcx 11 (by decide)
    simp only [Vg.kcell] at c6 c10 c11
    have hfz := hq.frozen
    have hb : KT w b xs (.slice (some ⟨g, o, none⟩) n c) cb M cv := by rw [← hn]; exact h
    have hkl := Vg.kcells_length xs
    have hj := h.job i hix
    have hof := h.off i hix
    have hokx := hok i hix
    obtain ⟨q, hqe⟩ : ∃ q, xs[i] = q := ⟨_, rfl⟩
    rw [hqe] at hx c6 c10 c11 hj hokx
    have hof : ∀ k, q.1.ownBlock = some k → k ≠ g := fun k hk hh => hof k (by unfold kfp; rw [hqe]; exact hk) (by rw [hh]; rfl)
    obtain ⟨u, ⟨t, J, lo, ou⟩⟩ := q
    simp only [Vg.Kt.ok] at hx c6 c10 c11 hj hof hokx
    obtain ⟨⟨o1, o2⟩, ⟨o3, o4⟩, o5⟩ := hokx
    obtain ⟨ua, uc, rfl⟩ := hj.shape
    obtain ⟨N, hN⟩ : ∃ N, J.length = N := ⟨_, rfl⟩
    rw [hN] at hx c10 hj hof o5 hqe
    obtain ⟨ro, hro⟩ : ∃ ro, t.ro = ro := ⟨_, rfl⟩
    rw [hro] at hx c6 o1 o2 o5
    rw [hn] at h ⊢
    clear hcx
    by_cases hbad : cost < 1 ∨ 1099511627776 < cost ∨ at_ < 0 ∨ 4503599627370496 < at_
    · rw [if_pos hbad] at hx
      simp only [Prod.mk.injEq] at hx
      obtain ⟨rfl, rfl⟩ := hx
      have H_h := Lib.hid h; clear h; have H_hn := Lib.hid hn; clear hn; have H_hb := Lib.hid hb; clear hb; have H_hqe := Lib.hid hqe; clear hqe; have H_hq := Lib.hid hq; clear hq; have H_hkl := Lib.hid hkl; clear hkl; have H_hj := Lib.hid hj; clear hj; have H_hof := Lib.hid hof; clear hof; have H_hok := Lib.hid hok; clear hok; have H_hN := Lib.hid hN; clear hN; have H_hro := Lib.hid hro; clear hro
      by_cases k1 : cost < 1
      · clear hbad
        go_enter Try.func81, Try.ntmps81
        go_wp2_with ((go_at_call 121; refine (kern_find i hi H_hn.out H_hb.out hcc hcm).mono ?_; rintro e w' ⟨rfl, rfl⟩))
        go_ret
        exact ⟨rfl, KTn.same H_hb.out (by (repeat' (first | (with_reducible exact Vg.Grows.refl _) | (with_reducible assumption) | (with_reducible refine Vg.Grows.alloc ?_ _) | (with_reducible refine Vg.Grows.plus ?_ _ _) | (with_reducible refine Vg.Grows.drewN ?_ _) | (with_reducible refine Vg.Grows.drew ?_) | (with_reducible refine Vg.Grows.setCell ?_ ?_ _) | (with_reducible refine Vg.Grows.put ?_ ?_ _) | omega | (simp; omega) | (simp; done))))⟩
      · by_cases k2 : 1099511627776 < cost
        · clear hbad
          go_enter Try.func81, Try.ntmps81
          go_wp2_with ((go_at_call 121; refine (kern_find i hi H_hn.out H_hb.out hcc hcm).mono ?_; rintro e w' ⟨rfl, rfl⟩))
          go_ret
          exact ⟨rfl, KTn.same H_hb.out (by (repeat' (first | (with_reducible exact Vg.Grows.refl _) | (with_reducible assumption) | (with_reducible refine Vg.Grows.alloc ?_ _) | (with_reducible refine Vg.Grows.plus ?_ _ _) | (with_reducible refine Vg.Grows.drewN ?_ _) | (with_reducible refine Vg.Grows.drew ?_) | (with_reducible refine Vg.Grows.setCell ?_ ?_ _) | (with_reducible refine Vg.Grows.put ?_ ?_ _) | omega | (simp; omega) | (simp; done))))⟩
        · by_cases k3 : at_ < 0
          · clear hbad
            go_enter Try.func81, Try.ntmps81
            go_wp2_with ((go_at_call 121; refine (kern_find i hi H_hn.out H_hb.out hcc hcm).mono ?_; rintro e w' ⟨rfl, rfl⟩))
            go_ret
            exact ⟨rfl, KTn.same H_hb.out (by (repeat' (first | (with_reducible exact Vg.Grows.refl _) | (with_reducible assumption) | (with_reducible refine Vg.Grows.alloc ?_ _) | (with_reducible refine Vg.Grows.plus ?_ _ _) | (with_reducible refine Vg.Grows.drewN ?_ _) | (with_reducible refine Vg.Grows.drew ?_) | (with_reducible refine Vg.Grows.setCell ?_ ?_ _) | (with_reducible refine Vg.Grows.put ?_ ?_ _) | omega | (simp; omega) | (simp; done))))⟩
          · have k4 : 4503599627370496 < at_ := by omega
            clear hbad
            go_enter Try.func81, Try.ntmps81
            go_wp2_with ((go_at_call 121; refine (kern_find i hi H_hn.out H_hb.out hcc hcm).mono ?_; rintro e w' ⟨rfl, rfl⟩))
            go_ret
            exact ⟨rfl, KTn.same H_hb.out (by (repeat' (first | (with_reducible exact Vg.Grows.refl _) | (with_reducible assumption) | (with_reducible refine Vg.Grows.alloc ?_ _) | (with_reducible refine Vg.Grows.plus ?_ _ _) | (with_reducible refine Vg.Grows.drewN ?_ _) | (with_reducible refine Vg.Grows.drew ?_) | (with_reducible refine Vg.Grows.setCell ?_ ?_ _) | (with_reducible refine Vg.Grows.put ?_ ?_ _) | omega | (simp; omega) | (simp; done))))⟩
    · rw [if_neg hbad] at hx
      have k1 : ¬ cost < 1 := by omega
      have k2 : ¬ 1099511627776 < cost := by omega
      have k3 : ¬ at_ < 0 := by omega
      have k4 : ¬ 4503599627370496 < at_ := by omega
      clear hbad
      by_cases hfull : ro ≤ (N : Int)
      · rw [if_pos hfull] at hx
        simp only [Prod.mk.injEq] at hx
        obtain ⟨rfl, rfl⟩ := hx
        have hsum : IntKind.i64.wrap (lo + 1) = lo + 1 := by rw [IntWalk.i64_in _ (by omega)]
        have H_h := Lib.hid h; clear h; have H_hn := Lib.hid hn; clear hn; have H_hb := Lib.hid hb; clear hb; have H_hqe := Lib.hid hqe; clear hqe; have H_hq := Lib.hid hq; clear hq; have H_hkl := Lib.hid hkl; clear hkl; have H_hj := Lib.hid hj; clear hj; have H_hof := Lib.hid hof; clear hof; have H_hok := Lib.hid hok; clear hok; have H_hN := Lib.hid hN; clear hN; have H_hro := Lib.hid hro; clear hro
        go_enter Try.func81, Try.ntmps81
        go_wp2_with ((go_at_call 121; refine (kern_find i hi H_hn.out H_hb.out hcc hcm).mono ?_; rintro e w' ⟨rfl, rfl⟩))
        go_quiet (fail)
        go_wp2_with fail
        go_ret
        have q1 := H_hq.out.set (j := i * 13 + 11) (u := .int .i64 (lo + 1)) (by rw [H_hkl.out]; omega)
        rw [Vg.kcells_set11 xs i hix (lo + 1), ← Nat.add_assoc, H_hqe.out] at q1
        refine ⟨rfl, KTn.grows (KT.cell hix H_hb.out (q := ⟨t, J, lo + 1, ou⟩) (by rw [H_hqe.out]) ((Vg.Touch.of_same q1.2).mono fun k _ hk => by rw [hk]; rfl) ?_) ((Vg.Grows.refl _).drewN nq)⟩
        rw [H_hn.out, H_hqe.out]
        exact q1.1
      · rw [if_neg hfull] at hx
        simp only [Prod.mk.injEq] at hx
        obtain ⟨rfl, rfl⟩ := hx
        obtain ⟨i0, hI, hz0, hz1, hz2⟩ := info_parts Try.info_job
        have hlt := h.lt
        have hN64 : N ≤ 64 := by omega
        have hjc := Vg.jcells_append J ([⟨cost, at_, 0⟩] : List Vg.Jb)
        have hn2 : (J ++ ([⟨cost, at_, 0⟩] : List Vg.Jb)).length = N + 1 := by rw [List.length_append, hN]; rfl
        have H_h := Lib.hid h; clear h; have H_hn := Lib.hid hn; clear hn; have H_hb := Lib.hid hb; clear hb; have H_hqe := Lib.hid hqe; clear hqe; have H_hq := Lib.hid hq; clear hq; have H_hkl := Lib.hid hkl; clear hkl; have H_hj := Lib.hid hj; clear hj; have H_hof := Lib.hid hof; clear hof; have H_hok := Lib.hid hok; clear hok; have H_hN := Lib.hid hN; clear hN; have H_hro := Lib.hid hro; clear hro; have H_hjc := Lib.hid hjc; clear hjc; have H_hn2 := Lib.hid hn2; clear hn2
        go_enter Try.func81, Try.ntmps81
        go_wp2_with ((go_at_call 121; refine (kern_find i hi H_hn.out H_hb.out hcc hcm).mono ?_; rintro e w' ⟨rfl, rfl⟩))
        go_quiet (fail)
        go_wp2_with (at_builtin; refine Vg.wpList_que (w := _) rfl (.tmp 55) (.tmp 59) 197 rfl (b + 1) 210 i0 (.agg #[.int .i64 0, .int .i64 0, .int .i64 0]) 3 24 Try.underlying197 hI hz0 hz1 hz2 rfl (by decide) (.slice ua N uc) N _ rfl (H_hj.out.grows (by (repeat' (first | (with_reducible exact Vg.Grows.refl _) | (with_reducible assumption) | (with_reducible refine Vg.Grows.alloc ?_ _) | (with_reducible refine Vg.Grows.plus ?_ _ _) | (with_reducible refine Vg.Grows.drewN ?_ _) | (with_reducible refine Vg.Grows.drew ?_) | (with_reducible refine Vg.Grows.setCell ?_ ?_ _) | (with_reducible refine Vg.Grows.put ?_ ?_ _) | omega | (simp; omega) | (simp; done))))) _ 1 1 [.int .i64 cost, .int .i64 at_, .int .i64 0] rfl rfl (Vg.three_new (by first | rfl | ((try simp only [World.size_alloc, Vg.plus_size, Vg.put_size, World.size_setCell, World.size_drew, World.heap_drewN]) <;> omega))) (by simp [Value.oneCell']) (by decide) (by unfold maxLen; omega) (by omega) (by simp only [World.size_alloc, World.heap_drewN]; omega) ?_; intro v2 W1 y2 m2 hq2 hs2 ho2; obtain ⟨a2, c2', rfl⟩ := hq2.shape; have ht2 := (Vg.Touch.trans (Vg.Touch.of_grows (w := w) (by (repeat' (first | (with_reducible exact Vg.Grows.refl _) | (with_reducible assumption) | (with_reducible refine Vg.Grows.alloc ?_ _) | (with_reducible refine Vg.Grows.plus ?_ _ _) | (with_reducible refine Vg.Grows.drewN ?_ _) | (with_reducible refine Vg.Grows.drew ?_) | (with_reducible refine Vg.Grows.setCell ?_ ?_ _) | (with_reducible refine Vg.Grows.put ?_ ?_ _) | omega | (simp; omega) | (simp; done))))) (Vg.Touch.of_same hs2)).trans (Vg.Touch.of_grows ((Vg.Grows.refl W1).plus y2 m2)); obtain ⟨W2, hW2⟩ : ∃ W2, Vg.plus W1 y2 m2 = W2 := ⟨_, rfl⟩; rw [hW2] at hq2 ht2 ⊢; have hrow2 := H_hq.out.kept (w' := W2) (fun k hk => ht2.block k (H_hq.out.lt k hk).2 (fun hh => H_hof.out k hh (by simpa [Value.ownBlock] using hk.symm))); have f2 := hrow2.frozen; have d0 := (World.cell?_of_block (w := w) (ht2.block g hg (fun hh => H_hof.out g hh rfl))).trans c10; have hg22 := Nat.lt_of_lt_of_le hg ht2.size; have H_hq2 := Lib.hid hq2; clear hq2; have H_hs2 := Lib.hid hs2; clear hs2; have H_ho2 := Lib.hid ho2; clear ho2; have H_ht2 := Lib.hid ht2; clear ht2; have H_hrow2 := Lib.hid hrow2; clear hrow2; have H_hW2 := Lib.hid hW2; clear hW2)
        go_ret
        refine ⟨rfl, kt_jobs_end H_hn.out hix H_hb.out H_hqe.out H_ht2.out H_hrow2.out ?_ fun k hk => ?_⟩
        · rw [H_hn2.out, H_hjc.out]
          exact H_hq2.out
        · rcases H_ho2.out with h1 | h1
          · exact .inl (h1.symm.trans hk)
          · refine .inr ?_
            have : some k = some _ := hk.symm.trans h1
            simp only [Option.some.injEq, World.size_alloc, World.heap_drewN] at this
            omega
end
end Go.Proofs.Ytiinhofmhoplfaa
