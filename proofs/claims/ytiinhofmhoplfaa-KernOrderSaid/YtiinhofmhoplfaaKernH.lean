/- Package kern: Holds reads alone. -/
import Derived.Test.YtiinhofmhoplfaaKernX
set_option linter.unusedSimpArgs false
set_option linter.unusedVariables false
set_option maxHeartbeats 2000000
set_option maxRecDepth 100000
namespace Go.Proofs.Ytiinhofmhoplfaa
open Go.ChangeShapes Go.WideShapes Go.ChangeAt Go.RowKit
section
variable {w w' w0 : World} {b cb n : Nat} {xs : List Vg.Kp} {rv cv : Value} {K : List Vg.Kt} {M M' : List Vg.Mx} {x r : Int} {is : Bool} {S : Nat → Prop} {P : World → Prop}
theorem kern_holds_q (m : Int) (h : KT w b xs rv cb M cv) (hx : Vg.Kn.holds (xs.map (·.2)) M m = is) :
    Calls Try.prog 73 #[.pointer (some ⟨b, 0, none⟩), .int .i64 m] w fun e w' => e = .returned (.bool is) ∧ ∃ m, w' = w.drewN m := by
  subst hx
  obtain ⟨n, hn⟩ : ∃ n, xs.length = n := ⟨_, rfl⟩
  by_cases hm : m < 0 ∨ (n : Int) ≤ m
  · rw [Vg.Kn.holds_out (by simpa [hn] using hm)]
    have H_h := Lib.hid h; clear h; have H_hn := Lib.hid hn; clear hn
    go_enter Try.func73, Try.ntmps73
    go_wp2_with ((go_at_call 121; refine (kern_find_no m H_hn.out H_h.out hm).mono ?_; rintro e w' ⟨rfl, rfl⟩))
    go_ret
    exact ⟨rfl, by first | exact ⟨_, rfl⟩ | exact ⟨0, rfl⟩⟩
  · obtain ⟨i, rfl⟩ : ∃ i : Nat, m = i := ⟨m.toNat, by omega⟩
    have hi : i < n := by omega
    have hix : i < xs.length := by omega
    rw [Vg.Kn.holds_in (by simpa using hix)]
    simp only [List.getElem_map]
    have hq := h.row
    obtain ⟨a, c, rfl⟩ := hq.shape
    rw [hn] at hq
    obtain ⟨g, o, rfl, -, hg, hcc, hcm, hx⟩ := hq.task hn i hix
    have c7 := hx 7 (by decide)
    simp only [Vg.kcell] at c7
    have c1 := Vg.cells_of h.tab 1
    simp at c1
    have hce := h.ceil
    obtain ⟨lk, hlk⟩ : ∃ lk, xs[i].2.t.lk = lk := ⟨_, rfl⟩
    rw [hlk] at c7 ⊢
    obtain ⟨⟨who, ih⟩, hho⟩ : ∃ p, Vg.Tb.holder M lk = p := ⟨_, rfl⟩
    rw [hho]
    have hb : KT w b xs (.slice (some ⟨g, o, none⟩) n c) cb M cv := by rw [← hn]; exact h
    clear hx hq
    by_cases hl0 : lk < 0
    · rw [if_pos hl0]
      have H_h := Lib.hid h; clear h; have H_hn := Lib.hid hn; clear hn; have H_hb := Lib.hid hb; clear hb; have H_hlk := Lib.hid hlk; clear hlk; have H_hce := Lib.hid hce; clear hce; have H_hho := Lib.hid hho; clear hho
      go_enter Try.func73, Try.ntmps73
      go_wp2_with ((go_at_call 121; refine (kern_find i hi H_hn.out H_hb.out hcc hcm).mono ?_; rintro e w' ⟨rfl, rfl⟩))
      go_ret
      exact ⟨rfl, by first | exact ⟨_, rfl⟩ | exact ⟨0, rfl⟩⟩
    · rw [if_neg hl0]
      cases ih with
      | false =>
        have H_h := Lib.hid h; clear h; have H_hn := Lib.hid hn; clear hn; have H_hb := Lib.hid hb; clear hb; have H_hlk := Lib.hid hlk; clear hlk; have H_hce := Lib.hid hce; clear hce; have H_hho := Lib.hid hho; clear hho
        go_enter Try.func73, Try.ntmps73
        go_wp2_with ((go_at_call 121; refine (kern_find i hi H_hn.out H_hb.out hcc hcm).mono ?_; rintro e w' ⟨rfl, rfl⟩))
        go_quiet ((go_at_call 35; refine (ce_holder (M := M) lk (H_hce.out.grows (by (repeat' (first | (with_reducible exact Vg.Grows.refl _) | (with_reducible assumption) | (with_reducible refine Vg.Grows.alloc ?_ _) | (with_reducible refine Vg.Grows.plus ?_ _ _) | (with_reducible refine Vg.Grows.drewN ?_ _) | (with_reducible refine Vg.Grows.drew ?_) | (with_reducible refine Vg.Grows.setCell ?_ ?_ _) | (with_reducible refine Vg.Grows.put ?_ ?_ _) | omega | (simp; omega) | (simp; done)))))).mono ?_; rintro e w1 ⟨rfl, rfl⟩; rw [H_hho.out]; exact ⟨rfl, _, rfl⟩))
        go_wp2_with fail
        go_ret
        exact ⟨rfl, by first | exact ⟨_, rfl⟩ | exact ⟨0, rfl⟩⟩
      | true =>
        by_cases hw : who = (i : Int)
        · have hb1 : (who == (i : Int)) = true := by simp [hw]
          have H_h := Lib.hid h; clear h; have H_hn := Lib.hid hn; clear hn; have H_hb := Lib.hid hb; clear hb; have H_hlk := Lib.hid hlk; clear hlk; have H_hce := Lib.hid hce; clear hce; have H_hho := Lib.hid hho; clear hho
          go_enter Try.func73, Try.ntmps73
          go_wp2_with ((go_at_call 121; refine (kern_find i hi H_hn.out H_hb.out hcc hcm).mono ?_; rintro e w' ⟨rfl, rfl⟩))
          go_quiet ((go_at_call 35; refine (ce_holder (M := M) lk (H_hce.out.grows (by (repeat' (first | (with_reducible exact Vg.Grows.refl _) | (with_reducible assumption) | (with_reducible refine Vg.Grows.alloc ?_ _) | (with_reducible refine Vg.Grows.plus ?_ _ _) | (with_reducible refine Vg.Grows.drewN ?_ _) | (with_reducible refine Vg.Grows.drew ?_) | (with_reducible refine Vg.Grows.setCell ?_ ?_ _) | (with_reducible refine Vg.Grows.put ?_ ?_ _) | omega | (simp; omega) | (simp; done)))))).mono ?_; rintro e w1 ⟨rfl, rfl⟩; rw [H_hho.out]; exact ⟨rfl, _, rfl⟩))
          go_wp2_with fail
          go_ret
          exact ⟨ret_bool (by simp [hw]), by first | exact ⟨_, rfl⟩ | exact ⟨0, rfl⟩⟩
        · have hb1 : (who == (i : Int)) = false := by simp [hw]
          have H_h := Lib.hid h; clear h; have H_hn := Lib.hid hn; clear hn; have H_hb := Lib.hid hb; clear hb; have H_hlk := Lib.hid hlk; clear hlk; have H_hce := Lib.hid hce; clear hce; have H_hho := Lib.hid hho; clear hho
          go_enter Try.func73, Try.ntmps73
          go_wp2_with ((go_at_call 121; refine (kern_find i hi H_hn.out H_hb.out hcc hcm).mono ?_; rintro e w' ⟨rfl, rfl⟩))
          go_quiet ((go_at_call 35; refine (ce_holder (M := M) lk (H_hce.out.grows (by (repeat' (first | (with_reducible exact Vg.Grows.refl _) | (with_reducible assumption) | (with_reducible refine Vg.Grows.alloc ?_ _) | (with_reducible refine Vg.Grows.plus ?_ _ _) | (with_reducible refine Vg.Grows.drewN ?_ _) | (with_reducible refine Vg.Grows.drew ?_) | (with_reducible refine Vg.Grows.setCell ?_ ?_ _) | (with_reducible refine Vg.Grows.put ?_ ?_ _) | omega | (simp; omega) | (simp; done)))))).mono ?_; rintro e w1 ⟨rfl, rfl⟩; rw [H_hho.out]; exact ⟨rfl, _, rfl⟩))
          go_wp2_with fail
          go_ret
          exact ⟨ret_bool (by simp [hw]), by first | exact ⟨_, rfl⟩ | exact ⟨0, rfl⟩⟩
theorem kx_holds_q (i : Int) (h : KX w0 w b K M S P) (hx : Vg.Kn.holds K M i = is) :
    Calls Try.prog 73 #[.pointer (some ⟨b, 0, none⟩), .int .i64 i] w fun e w' => e = .returned (.bool is) ∧ ∃ m, w' = w.drewN m := by
  obtain ⟨⟨xs, rv, cb, cv, h1, rfl, h3⟩, h4, h5, h6⟩ := h.kz
  exact kern_holds_q i h1 hx
end
end Go.Proofs.Ytiinhofmhoplfaa
