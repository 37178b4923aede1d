/- Package intc: edge, active, level. -/
import Derived.Test.YtekjnagojphmkaaDoorIcC
set_option linter.unusedSimpArgs false
set_option linter.unusedVariables false
set_option maxHeartbeats 8000000
set_option maxRecDepth 100000
namespace Go.Proofs.YtekjnagojphmkaaDoor
open Go.ChangeShapes Go.WideShapes Go.ChangeAt Go.RowKit
section
variable {w w' : World} {c : Vg.Ic} {n m ed pc sc pe en g : Nat} {pa sa : Option Addr} {L : List Int}
theorem tb_mod (a i : Nat) : a / 2 ^ i % 2 = if a.testBit i = true then 1 else 0 := by
  rw [Nat.testBit_eq_decide_div_mod_eq]
  have : a / 2 ^ i % 2 < 2 := Nat.mod_lt _ (by decide)
  by_cases h : a / 2 ^ i % 2 = 1
  · simp [h]
  · have h0 : a / 2 ^ i % 2 = 0 := by omega
    simp [h0]
theorem ic_edge (i : Nat) (hb : Vg.blk w g = some (dkO pe en ed pa n pc sa m sc)) (hed : 2 ^ n - 1 = ed) (hi : i < n) (hn : n ≤ 64) :
    Calls Tryd.prog 65 #[.pointer (some ⟨g, 0, none⟩), .int .i64 i] w fun e w' => e = .returned (.bool true) ∧ w = w' := by
  have hlt : ed < 18446744073709551616 := Vg.lt64_of (n := n) (by have := Nat.two_pow_pos n; omega) hn
  have htb : ed.testBit i = true := by rw [← hed, Nat.testBit_two_pow_sub_one]; simpa using hi
  have hm := tb_mod ed i
  rw [htb, if_pos rfl] at hm
  have hdl : ed / 2 ^ i < 18446744073709551616 := Nat.lt_of_le_of_lt (Nat.div_le_self _ _) hlt
  have key : bits .and .u64 ((ed : Int) / 2 ^ i) 1 = 1 := by
    have e1 : ((ed : Int) / 2 ^ i) = ((ed / 2 ^ i : Nat) : Int) := by push_cast; rfl
    have e2 := u64_and_nat (ed / 2 ^ i) 1 hdl (by decide)
    rw [Nat.and_one_is_mod, hm] at e2
    rw [e1]
    exact e2
  have hi64 : (i : Int) ≤ 64 := by omega
  have c_hb := Vg.cells_of hb; have f_hb := Vg.frozen_of hb; have p_hb := Vg.setCell_of hb; have l_hb := Vg.lt_of hb; have H_hb := Lib.hid hb; clear hb
  clear htb hm
  have H_hed := Lib.hid hed; clear hed; have H_hlt := Lib.hid hlt; clear hlt; have H_hdl := Lib.hid hdl; clear hdl
  go_enter Tryd.func65, Tryd.ntmps65
  go_wp2
  go_ret
  exact ⟨by first | rfl | exact ret_bool (by simp [key]), rfl⟩
theorem ic_active (hb : Vg.blk w g = some (dkO pe en ed pa n pc sa m sc)) (h : IS w c n m pa pc sa sc) {b : Nat} (hact : Vg.orB c.st 0 = b) :
    Calls Tryd.prog 66 #[.pointer (some ⟨g, 0, none⟩)] w fun e w' => e = .returned (.int .u64 b) ∧ w = w' := by
  have h64 : ∀ i ∈ c.st, i < 64 := fun i hi => Nat.lt_of_lt_of_le (h.ok.sth i hi) h.ok.n1.2
  subst hact
  have c_hb := Vg.cells_of hb; have f_hb := Vg.frozen_of hb; have p_hb := Vg.setCell_of hb; have l_hb := Vg.lt_of hb; have H_hb := Lib.hid hb; clear hb
  have H_h := Lib.hid h; clear h; have H_h64 := Lib.hid h64; clear h64
  go_enter Tryd.func66, Tryd.ntmps66
  go_wp2_with ((go_at_call 87; (with_reducible refine (bits_of H_h.out.s H_h.out.m H_h64.out).mono ?_); rintro e w1 ⟨rfl, rfl⟩))
  go_ret
  exact ⟨rfl, rfl⟩
theorem ic_level (hb : Vg.blk w g = some (dkO pe en ed pa n pc sa m sc)) (h : IS w c n m pa pc sa sc) {l : Int} (hl : c.lvl = l) :
    Calls Tryd.prog 89 #[.pointer (some ⟨g, 0, none⟩)] w fun e w' => e = .returned (.int .i64 l) ∧ Vg.Grows w w' := by
  obtain ⟨q1, q2, q3, q4⟩ := h.caps
  by_cases hm : m = 0
  · have hst : c.st = [] := List.eq_nil_of_length_eq_zero (by rw [h.m]; exact hm)
    have : l = 0 := by rw [← hl]; unfold Vg.Ic.lvl; rw [hst]; rfl
    subst this
    subst hm
    have c_hb := Vg.cells_of hb; have f_hb := Vg.frozen_of hb; have p_hb := Vg.setCell_of hb; have l_hb := Vg.lt_of hb; have H_hb := Lib.hid hb; clear hb
    have H_h := Lib.hid h; clear h; have H_hl := Lib.hid hl; clear hl; have H_hst := Lib.hid hst; clear hst
    go_enter Tryd.func89, Tryd.ntmps89
    go_wp2
    go_ret
    exact ⟨rfl, by (repeat' (first | (with_reducible exact Vg.Grows.refl _) | (with_reducible assumption) | (with_reducible refine Vg.Grows.alloc ?_ _) | (with_reducible refine Vg.Grows.plus ?_ _ _) | (with_reducible refine Vg.Grows.drewN ?_ _) | (with_reducible refine Vg.Grows.drew ?_) | (with_reducible refine Vg.Grows.setCell ?_ ?_ _) | (with_reducible refine Vg.Grows.put ?_ ?_ _) | omega | (simp; omega) | (simp; done)))⟩
  · obtain ⟨k, rfl⟩ : ∃ k, m = k + 1 := ⟨m - 1, by omega⟩
    obtain ⟨gs, off, hk', hsa, hg, hc⟩ := h.scell k (by omega)
    subst hsa
    have hxn := h.ok.sth _ (List.getElem_mem hk')
    have hlast : c.lvl = c.prio c.st[k] := by
      unfold Vg.Ic.lvl
      have e : c.st.getLast? = some c.st[k] := by
        rw [List.getLast?_eq_getElem?, h.m, Nat.add_sub_cancel, List.getElem?_eq_getElem hk']
      rw [e]
    rw [hl] at hlast
    obtain ⟨x, hx⟩ : ∃ x, c.st[k] = x := ⟨_, rfl⟩
    rw [hx] at hc hxn hlast
    obtain ⟨gp, offp, hpa, hg2, hc2⟩ := h.pcell x hxn
    subst hpa
    have hbd := h.ok.prio_bd hxn
    rw [← hlast] at hc2 hbd
    have hx0 : (0 : Int) ≤ x := by omega
    have hx1 : (x : Int) < n := by omega
    have hk0 : (0 : Int) < (k : Int) + 1 := by omega
    have hl0 : (0 : Int) < l := by omega
    have hkk : (k : Int) + 1 - 1 = k := by omega
    have c_hb := Vg.cells_of hb; have f_hb := Vg.frozen_of hb; have p_hb := Vg.setCell_of hb; have l_hb := Vg.lt_of hb; have H_hb := Lib.hid hb; clear hb
    have H_h := Lib.hid h; clear h; have H_hl := Lib.hid hl; clear hl; have H_hx := Lib.hid hx; clear hx; have H_hlast := Lib.hid hlast; clear hlast
    go_enter Tryd.func89, Tryd.ntmps89
    go_wp2
    go_quiet (fail)
    all_goals go_wp2
    all_goals go_ret
    all_goals exact ⟨rfl, by (repeat' (first | (with_reducible exact Vg.Grows.refl _) | (with_reducible assumption) | (with_reducible refine Vg.Grows.alloc ?_ _) | (with_reducible refine Vg.Grows.plus ?_ _ _) | (with_reducible refine Vg.Grows.drewN ?_ _) | (with_reducible refine Vg.Grows.drew ?_) | (with_reducible refine Vg.Grows.setCell ?_ ?_ _) | (with_reducible refine Vg.Grows.put ?_ ?_ _) | omega | (simp; omega) | (simp; done)))⟩
end
end Go.Proofs.YtekjnagojphmkaaDoor
