/- TopDemanded: the walk. -/
import Derived.Test.YtekjnagojphmkaaDoorDmA
set_option linter.unusedSimpArgs false
set_option linter.unusedVariables false
set_option maxHeartbeats 40000000
set_option maxRecDepth 100000
namespace Vg
open Go
theorem goodT_thOn {TT : List Th} (h : goodT TT = true) : TT.filter thOn = TT := by
  unfold goodT at h
  simp only [Bool.and_eq_true, Bool.not_eq_true', decide_eq_true_eq] at h
  rw [List.filter_eq_self]
  intro t ht
  have h9 : oddT t = false := by
    cases hh : oddT t with
    | false => rfl
    | true => rw [← h.1.1]; exact (List.any_eq_true.2 ⟨t, ht, hh⟩).symm
  have := (oddT_no h9).2
  unfold thOn
  simp; omega
theorem lds_ok {TT : List Th} {TL : List Lin} (h : loadsOk TT TL = true) : ∀ x ∈ lds TT TL, x.ok := by
  unfold loadsOk at h
  simp only [Bool.and_eq_true, Bool.not_eq_true'] at h
  obtain ⟨h1, h2⟩ := h
  unfold oddS at h1
  rw [Bool.or_eq_false_iff] at h1
  intro x hx
  rcases List.mem_append.1 hx with hx | hx
  · obtain ⟨t, ht, rfl⟩ := List.mem_map.1 hx
    have h9 := List.any_eq_false.1 h1.1 t ht
    simp only [served1, cost1, Bool.not_eq_true', Bool.not_eq_false, Bool.and_eq_true, decide_eq_true_eq] at h9
    exact ⟨⟨by show 1 ≤ t.pe; omega, by show t.pe ≤ _; omega⟩, by show 0 ≤ t.bu; omega, by show t.bu ≤ _; omega⟩
  · obtain ⟨t, ht, rfl⟩ := List.mem_map.1 hx
    have h9 := List.any_eq_false.1 h1.2 t ht
    simp only [masked1, cost1, Bool.not_eq_true', Bool.not_eq_false, Bool.and_eq_true, decide_eq_true_eq] at h9
    have h8 := List.all_eq_true.1 h2 t ht
    simp only [cost1, Bool.and_eq_true, decide_eq_true_eq] at h8
    exact ⟨⟨by show 1 ≤ t.wd; omega, by show t.wd ≤ _; omega⟩, by show 0 ≤ t.many * t.top; omega, by show t.many * t.top ≤ _; omega⟩
end Vg
namespace Go.Proofs.YtekjnagojphmkaaDoor
open Go.ChangeShapes Go.WideShapes Go.ChangeAt Go.RowKit
theorem low12 (w : World) : Calls Tryd.prog 23 #[.int .i64 4294967301] w fun e w' => e = .returned (.int .u32 5) ∧ w = w' := by
  go_enter Tryd.func23, Tryd.ntmps23
  go_wp2
  go_ret
  exact ⟨rfl, rfl⟩
theorem diff12 (w : World) : Calls Tryd.prog 24 #[.int .u32 3, .int .u32 5] w fun e w' => e = .returned (.int .i64 (-2)) ∧ w = w' := by
  go_enter Tryd.func24, Tryd.ntmps24
  go_wp2
  go_ret
  exact ⟨ret_int (by kernel_rfl), rfl⟩
theorem begins12 (w : World) : Calls Tryd.prog 5 #[] w fun e w' => e = .returned (.bool true) ∧ w = w' := by
  go_enter Tryd.func5, Tryd.ntmps5
  go_wp2_with (first | (go_at_call 23; refine (low12 _).mono ?_; rintro e w' ⟨rfl, rfl⟩) | (go_at_call 24; refine (diff12 _).mono ?_; rintro e w' ⟨rfl, rfl⟩))
  go_ret
  exact ⟨rfl, rfl⟩
section
variable {w w' : World} {TT : List Vg.Th} {TL : List Vg.Lin} {sa ta : Option Addr} {sc tc n m : Nat}
theorem loads_ok (hr : Vg.TR w sa sc TT) (hl : Vg.LR w ta tc TL) (hn : TT.length = n) (hm : TL.length = m) (hn2 : n ≤ 1048576) (hm2 : m ≤ 1048576) (hg : Vg.loadsOk TT TL = true) :
    Calls Tryd.prog 15 #[.slice sa n sc, .slice ta m tc, .int .i64 (-1)] w fun e w' => ∃ a c N, e = .returned (.tuple #[.slice a N c, .int .i64 0]) ∧ (((TT.filter Vg.thOn).map Vg.ldT ++ TL.map Vg.ldL).length = N ∧ Vg.Que w' w.heap.size 116 4 (.slice a N c) N (Vg.ldc ((TT.filter Vg.thOn).map Vg.ldT ++ TL.map Vg.ldL))) ∧ Vg.Grows w w' := by
  refine (sup_loads hr hl hn hm hn2 hm2).mono ?_
  rintro e w' ⟨h1, ⟨_, v, N, h2, rfl, h3⟩ | ⟨h2, _⟩⟩
  · obtain ⟨a, c, rfl⟩ := h3.shape
    exact ⟨a, c, N, rfl, ⟨h2, h3⟩, h1⟩
  · rw [hg] at h2; cases h2
theorem loads_no (hr : Vg.TR w sa sc TT) (hl : Vg.LR w ta tc TL) (hn : TT.length = n) (hm : TL.length = m) (hn2 : n ≤ 1048576) (hm2 : m ≤ 1048576) (hg : Vg.loadsOk TT TL = false) :
    Calls Tryd.prog 15 #[.slice sa n sc, .slice ta m tc, .int .i64 (-1)] w fun e w' => ∃ r : Int, e = .returned (.tuple #[.slice none 0 0, .int .i64 r]) ∧ ¬ r = 0 ∧ Vg.Grows w w' := by
  refine (sup_loads hr hl hn hm hn2 hm2).mono ?_
  rintro e w' ⟨h1, ⟨h2, _⟩ | ⟨_, r, hr, rfl⟩⟩
  · rw [hg] at h2; cases h2
  · exact ⟨r, rfl, hr, h1⟩
theorem lirq_ok (hr : Vg.LR w sa sc TL) (hn : TL.length = n) (hn2 : n ≤ 4398046511104) (hw0 : 0 < w.heap.size) (hg : Vg.goodL TL = true) :
    Calls Tryd.prog 6 #[.slice sa n sc] w fun e w' => ∃ OB, e = .returned (.tuple #[.pointer (some ⟨w.heap.size, 0, none⟩), .int .i64 0]) ∧ QS w' w.heap.size w.heap.size (Vg.prs TL).length (Vg.iq0 TL) OB ∧ Vg.Grows w w' := by
  refine (irq_new hr hn hn2 hw0).mono ?_
  rintro e w' (⟨_, ⟨OB, rfl, h1⟩, h2⟩ | ⟨h1, _⟩)
  · exact ⟨OB, rfl, h1, h2⟩
  · rw [hg] at h1; cases h1
theorem lirq_no (hr : Vg.LR w sa sc TL) (hn : TL.length = n) (hn2 : n ≤ 4398046511104) (hw0 : 0 < w.heap.size) (hg : Vg.goodL TL = false) :
    Calls Tryd.prog 6 #[.slice sa n sc] w fun e w' => e = .returned (.tuple #[.pointer none, .int .i64 1]) ∧ Vg.Grows w w' := by
  refine (irq_new hr hn hn2 hw0).mono ?_
  rintro e w' (⟨h1, _⟩ | ⟨_, rfl, h2⟩)
  · rw [hg] at h1; cases h1
  · exact ⟨rfl, h2⟩
end
theorem TopDemanded_walk (ta : Option Addr) (n tc : Nat) (TD0 : Nat → Nat → Int) (la : Option Addr) (m lc : Nat) (LD0 : Nat → Nat → Int) (a : Option Addr) (len cap : Nat) (D : Nat → Nat → Int) (w : World) (hrT : Vg.intRows w [.i64, .i64, .i64, .i64] ta n tc TD0) (hrL : Vg.intRows w [.i64, .i64, .i64, .i64] la m lc LD0) (hr : Vg.intRows w [.u8] a len cap D) (hn : n ≤ 1048576) (hm : m ≤ 1048576) (hT : Vg.Tab w) :
    Calls Tryd.prog 4 #[.slice ta n tc, .slice la m lc, .slice a len cap] w fun e w' => e = .returned (.bool true) ∧ Vg.Grows w w' := by
  obtain ⟨TT, hTR, hTl⟩ : ∃ TT, Vg.TR w ta tc TT ∧ TT.length = n := ⟨_, Vg.TR.of_rows hrT, Vg.thsOf_len _ _⟩
  obtain ⟨TL, hLR, hLl⟩ : ∃ TL, Vg.LR w la lc TL ∧ TL.length = m := ⟨_, Vg.LR.of_rows hrL, Vg.linsOf_len _ _⟩
  have htc1 : n ≤ tc := hrT.1
  have htc2 : tc ≤ 9223372036854775807 := hrT.2.1
  have hlc1 : m ≤ lc := hrL.1
  have hlc2 : lc ≤ 9223372036854775807 := hrL.2.1
  clear hrT hrL
  have hlen := hr.1
  have hcap : cap ≤ 9223372036854775807 := hr.2.1
  have hw0 : 0 < w.heap.size := World.block_lt_of_cell? w _ (hT 0 (by decide))
  have hgrow : ∀ wz, Vg.Grows w wz → 0 < wz.heap.size := fun wz hg => Nat.lt_of_lt_of_le hw0 hg.size
  have RH := Lib.hid (fun h => Vg.intRows.open (by decide) hr h)
  clear hr
  cases hlo : Vg.loadsOk TT TL with
  | false =>
    cases hgT : Vg.goodT TT with
    | false =>
      cases hgL : Vg.goodL TL with
      | false =>
        clear RH
        have H_hTR := Lib.hid hTR; clear hTR; have H_hTl := Lib.hid hTl; clear hTl; have H_hLR := Lib.hid hLR; clear hLR; have H_hLl := Lib.hid hLl; clear hLl; have H_hlo := Lib.hid hlo; clear hlo; have H_hgT := Lib.hid hgT; clear hgT; have H_hgL := Lib.hid hgL; clear hgL; have H_hT := Lib.hid hT; clear hT; have H_hgrow := Lib.hid hgrow; clear hgrow
        go_enter Tryd.func4, Tryd.ntmps4
        go_wp2_with (first | (go_at_call 5; (with_reducible refine (begins12 _).mono ?_); rintro e w1 ⟨rfl, rfl⟩) | (go_at_call 15; (with_reducible refine (loads_no H_hTR.out H_hLR.out H_hTl.out H_hLl.out hn hm H_hlo.out).mono ?_); rintro e w1 ⟨r0, rfl, hr0, x1, n1, rfl⟩) | (go_at_call 16; (with_reducible refine (bs_new_no (H_hTR.out.grows (by (repeat' (first | (with_reducible exact Vg.Grows.refl _) | (with_reducible assumption) | (with_reducible refine Vg.Grows.alloc ?_ _) | (with_reducible refine Vg.Grows.plus ?_ _ _) | (with_reducible refine Vg.Grows.drewN ?_ _) | (with_reducible refine Vg.Grows.drew ?_) | (with_reducible refine Vg.Grows.setCell ?_ ?_ _) | (with_reducible refine Vg.Grows.put ?_ ?_ _) | omega | (simp; omega) | (simp; done))))) H_hTl.out (by omega) H_hgT.out).mono ?_); rintro e w2 ⟨rfl, x2, n2, rfl⟩) | (go_at_call 6; (with_reducible refine (lirq_no (H_hLR.out.grows (by (repeat' (first | (with_reducible exact Vg.Grows.refl _) | (with_reducible assumption) | (with_reducible refine Vg.Grows.alloc ?_ _) | (with_reducible refine Vg.Grows.plus ?_ _ _) | (with_reducible refine Vg.Grows.drewN ?_ _) | (with_reducible refine Vg.Grows.drew ?_) | (with_reducible refine Vg.Grows.setCell ?_ ?_ _) | (with_reducible refine Vg.Grows.put ?_ ?_ _) | omega | (simp; omega) | (simp; done))))) H_hLl.out (by omega) (H_hgrow.out _ (by (repeat' (first | (with_reducible exact Vg.Grows.refl _) | (with_reducible assumption) | (with_reducible refine Vg.Grows.alloc ?_ _) | (with_reducible refine Vg.Grows.plus ?_ _ _) | (with_reducible refine Vg.Grows.drewN ?_ _) | (with_reducible refine Vg.Grows.drew ?_) | (with_reducible refine Vg.Grows.setCell ?_ ?_ _) | (with_reducible refine Vg.Grows.put ?_ ?_ _) | omega | (simp; omega) | (simp; done))))) H_hgL.out).mono ?_); rintro e w3 ⟨rfl, x3, n3, rfl⟩))
        all_goals go_ret
        all_goals exact ⟨rfl, by (repeat' (first | (with_reducible exact Vg.Grows.refl _) | (with_reducible assumption) | (with_reducible refine Vg.Grows.alloc ?_ _) | (with_reducible refine Vg.Grows.plus ?_ _ _) | (with_reducible refine Vg.Grows.drewN ?_ _) | (with_reducible refine Vg.Grows.drew ?_) | (with_reducible refine Vg.Grows.setCell ?_ ?_ _) | (with_reducible refine Vg.Grows.put ?_ ?_ _) | omega | (simp; omega) | (simp; done)))⟩
      | true =>
        clear RH
        have H_hTR := Lib.hid hTR; clear hTR; have H_hTl := Lib.hid hTl; clear hTl; have H_hLR := Lib.hid hLR; clear hLR; have H_hLl := Lib.hid hLl; clear hLl; have H_hlo := Lib.hid hlo; clear hlo; have H_hgT := Lib.hid hgT; clear hgT; have H_hgL := Lib.hid hgL; clear hgL; have H_hT := Lib.hid hT; clear hT; have H_hgrow := Lib.hid hgrow; clear hgrow
        go_enter Tryd.func4, Tryd.ntmps4
        go_wp2_with (first | (go_at_call 5; (with_reducible refine (begins12 _).mono ?_); rintro e w1 ⟨rfl, rfl⟩) | (go_at_call 15; (with_reducible refine (loads_no H_hTR.out H_hLR.out H_hTl.out H_hLl.out hn hm H_hlo.out).mono ?_); rintro e w1 ⟨r0, rfl, hr0, x1, n1, rfl⟩) | (go_at_call 16; (with_reducible refine (bs_new_no (H_hTR.out.grows (by (repeat' (first | (with_reducible exact Vg.Grows.refl _) | (with_reducible assumption) | (with_reducible refine Vg.Grows.alloc ?_ _) | (with_reducible refine Vg.Grows.plus ?_ _ _) | (with_reducible refine Vg.Grows.drewN ?_ _) | (with_reducible refine Vg.Grows.drew ?_) | (with_reducible refine Vg.Grows.setCell ?_ ?_ _) | (with_reducible refine Vg.Grows.put ?_ ?_ _) | omega | (simp; omega) | (simp; done))))) H_hTl.out (by omega) H_hgT.out).mono ?_); rintro e w2 ⟨rfl, x2, n2, rfl⟩) | (go_at_call 6; (with_reducible refine (lirq_ok (H_hLR.out.grows (by (repeat' (first | (with_reducible exact Vg.Grows.refl _) | (with_reducible assumption) | (with_reducible refine Vg.Grows.alloc ?_ _) | (with_reducible refine Vg.Grows.plus ?_ _ _) | (with_reducible refine Vg.Grows.drewN ?_ _) | (with_reducible refine Vg.Grows.drew ?_) | (with_reducible refine Vg.Grows.setCell ?_ ?_ _) | (with_reducible refine Vg.Grows.put ?_ ?_ _) | omega | (simp; omega) | (simp; done))))) H_hLl.out (by omega) (H_hgrow.out _ (by (repeat' (first | (with_reducible exact Vg.Grows.refl _) | (with_reducible assumption) | (with_reducible refine Vg.Grows.alloc ?_ _) | (with_reducible refine Vg.Grows.plus ?_ _ _) | (with_reducible refine Vg.Grows.drewN ?_ _) | (with_reducible refine Vg.Grows.drew ?_) | (with_reducible refine Vg.Grows.setCell ?_ ?_ _) | (with_reducible refine Vg.Grows.put ?_ ?_ _) | omega | (simp; omega) | (simp; done))))) H_hgL.out).mono ?_); rintro e w3 ⟨OQ, rfl, -, x3, n3, rfl⟩))
        all_goals go_ret
        all_goals exact ⟨rfl, by (repeat' (first | (with_reducible exact Vg.Grows.refl _) | (with_reducible assumption) | (with_reducible refine Vg.Grows.alloc ?_ _) | (with_reducible refine Vg.Grows.plus ?_ _ _) | (with_reducible refine Vg.Grows.drewN ?_ _) | (with_reducible refine Vg.Grows.drew ?_) | (with_reducible refine Vg.Grows.setCell ?_ ?_ _) | (with_reducible refine Vg.Grows.put ?_ ?_ _) | omega | (simp; omega) | (simp; done)))⟩
    | true =>
      cases hgL : Vg.goodL TL with
      | false =>
        clear RH
        have H_hTR := Lib.hid hTR; clear hTR; have H_hTl := Lib.hid hTl; clear hTl; have H_hLR := Lib.hid hLR; clear hLR; have H_hLl := Lib.hid hLl; clear hLl; have H_hlo := Lib.hid hlo; clear hlo; have H_hgT := Lib.hid hgT; clear hgT; have H_hgL := Lib.hid hgL; clear hgL; have H_hT := Lib.hid hT; clear hT; have H_hgrow := Lib.hid hgrow; clear hgrow
        go_enter Tryd.func4, Tryd.ntmps4
        go_wp2_with (first | (go_at_call 5; (with_reducible refine (begins12 _).mono ?_); rintro e w1 ⟨rfl, rfl⟩) | (go_at_call 15; (with_reducible refine (loads_no H_hTR.out H_hLR.out H_hTl.out H_hLl.out hn hm H_hlo.out).mono ?_); rintro e w1 ⟨r0, rfl, hr0, x1, n1, rfl⟩) | (go_at_call 16; (with_reducible refine (bs_new (H_hTR.out.grows (by (repeat' (first | (with_reducible exact Vg.Grows.refl _) | (with_reducible assumption) | (with_reducible refine Vg.Grows.alloc ?_ _) | (with_reducible refine Vg.Grows.plus ?_ _ _) | (with_reducible refine Vg.Grows.drewN ?_ _) | (with_reducible refine Vg.Grows.drew ?_) | (with_reducible refine Vg.Grows.setCell ?_ ?_ _) | (with_reducible refine Vg.Grows.put ?_ ?_ _) | omega | (simp; omega) | (simp; done))))) H_hTl.out (by omega) H_hgT.out rfl rfl).mono ?_); rintro e w2 ⟨OB, rfl, -, x2, n2, rfl⟩) | (go_at_call 6; (with_reducible refine (lirq_no (H_hLR.out.grows (by (repeat' (first | (with_reducible exact Vg.Grows.refl _) | (with_reducible assumption) | (with_reducible refine Vg.Grows.alloc ?_ _) | (with_reducible refine Vg.Grows.plus ?_ _ _) | (with_reducible refine Vg.Grows.drewN ?_ _) | (with_reducible refine Vg.Grows.drew ?_) | (with_reducible refine Vg.Grows.setCell ?_ ?_ _) | (with_reducible refine Vg.Grows.put ?_ ?_ _) | omega | (simp; omega) | (simp; done))))) H_hLl.out (by omega) (H_hgrow.out _ (by (repeat' (first | (with_reducible exact Vg.Grows.refl _) | (with_reducible assumption) | (with_reducible refine Vg.Grows.alloc ?_ _) | (with_reducible refine Vg.Grows.plus ?_ _ _) | (with_reducible refine Vg.Grows.drewN ?_ _) | (with_reducible refine Vg.Grows.drew ?_) | (with_reducible refine Vg.Grows.setCell ?_ ?_ _) | (with_reducible refine Vg.Grows.put ?_ ?_ _) | omega | (simp; omega) | (simp; done))))) H_hgL.out).mono ?_); rintro e w3 ⟨rfl, x3, n3, rfl⟩))
        all_goals go_ret
        all_goals exact ⟨rfl, by (repeat' (first | (with_reducible exact Vg.Grows.refl _) | (with_reducible assumption) | (with_reducible refine Vg.Grows.alloc ?_ _) | (with_reducible refine Vg.Grows.plus ?_ _ _) | (with_reducible refine Vg.Grows.drewN ?_ _) | (with_reducible refine Vg.Grows.drew ?_) | (with_reducible refine Vg.Grows.setCell ?_ ?_ _) | (with_reducible refine Vg.Grows.put ?_ ?_ _) | omega | (simp; omega) | (simp; done)))⟩
      | true =>
        clear RH
        have H_hTR := Lib.hid hTR; clear hTR; have H_hTl := Lib.hid hTl; clear hTl; have H_hLR := Lib.hid hLR; clear hLR; have H_hLl := Lib.hid hLl; clear hLl; have H_hlo := Lib.hid hlo; clear hlo; have H_hgT := Lib.hid hgT; clear hgT; have H_hgL := Lib.hid hgL; clear hgL; have H_hT := Lib.hid hT; clear hT; have H_hgrow := Lib.hid hgrow; clear hgrow
        go_enter Tryd.func4, Tryd.ntmps4
        go_wp2_with (first | (go_at_call 5; (with_reducible refine (begins12 _).mono ?_); rintro e w1 ⟨rfl, rfl⟩) | (go_at_call 15; (with_reducible refine (loads_no H_hTR.out H_hLR.out H_hTl.out H_hLl.out hn hm H_hlo.out).mono ?_); rintro e w1 ⟨r0, rfl, hr0, x1, n1, rfl⟩) | (go_at_call 16; (with_reducible refine (bs_new (H_hTR.out.grows (by (repeat' (first | (with_reducible exact Vg.Grows.refl _) | (with_reducible assumption) | (with_reducible refine Vg.Grows.alloc ?_ _) | (with_reducible refine Vg.Grows.plus ?_ _ _) | (with_reducible refine Vg.Grows.drewN ?_ _) | (with_reducible refine Vg.Grows.drew ?_) | (with_reducible refine Vg.Grows.setCell ?_ ?_ _) | (with_reducible refine Vg.Grows.put ?_ ?_ _) | omega | (simp; omega) | (simp; done))))) H_hTl.out (by omega) H_hgT.out rfl rfl).mono ?_); rintro e w2 ⟨OB, rfl, -, x2, n2, rfl⟩) | (go_at_call 6; (with_reducible refine (lirq_ok (H_hLR.out.grows (by (repeat' (first | (with_reducible exact Vg.Grows.refl _) | (with_reducible assumption) | (with_reducible refine Vg.Grows.alloc ?_ _) | (with_reducible refine Vg.Grows.plus ?_ _ _) | (with_reducible refine Vg.Grows.drewN ?_ _) | (with_reducible refine Vg.Grows.drew ?_) | (with_reducible refine Vg.Grows.setCell ?_ ?_ _) | (with_reducible refine Vg.Grows.put ?_ ?_ _) | omega | (simp; omega) | (simp; done))))) H_hLl.out (by omega) (H_hgrow.out _ (by (repeat' (first | (with_reducible exact Vg.Grows.refl _) | (with_reducible assumption) | (with_reducible refine Vg.Grows.alloc ?_ _) | (with_reducible refine Vg.Grows.plus ?_ _ _) | (with_reducible refine Vg.Grows.drewN ?_ _) | (with_reducible refine Vg.Grows.drew ?_) | (with_reducible refine Vg.Grows.setCell ?_ ?_ _) | (with_reducible refine Vg.Grows.put ?_ ?_ _) | omega | (simp; omega) | (simp; done))))) H_hgL.out).mono ?_); rintro e w3 ⟨OQ, rfl, -, x3, n3, rfl⟩))
        all_goals go_ret
        all_goals exact ⟨rfl, by (repeat' (first | (with_reducible exact Vg.Grows.refl _) | (with_reducible assumption) | (with_reducible refine Vg.Grows.alloc ?_ _) | (with_reducible refine Vg.Grows.plus ?_ _ _) | (with_reducible refine Vg.Grows.drewN ?_ _) | (with_reducible refine Vg.Grows.drew ?_) | (with_reducible refine Vg.Grows.setCell ?_ ?_ _) | (with_reducible refine Vg.Grows.put ?_ ?_ _) | omega | (simp; omega) | (simp; done)))⟩
  | true =>
    cases hgT : Vg.goodT TT with
    | false =>
      cases hgL : Vg.goodL TL with
      | false =>
        clear RH
        have H_hTR := Lib.hid hTR; clear hTR; have H_hTl := Lib.hid hTl; clear hTl; have H_hLR := Lib.hid hLR; clear hLR; have H_hLl := Lib.hid hLl; clear hLl; have H_hlo := Lib.hid hlo; clear hlo; have H_hgT := Lib.hid hgT; clear hgT; have H_hgL := Lib.hid hgL; clear hgL; have H_hT := Lib.hid hT; clear hT; have H_hgrow := Lib.hid hgrow; clear hgrow
        go_enter Tryd.func4, Tryd.ntmps4
        go_wp2_with (first | (go_at_call 5; (with_reducible refine (begins12 _).mono ?_); rintro e w1 ⟨rfl, rfl⟩) | (go_at_call 15; (with_reducible refine (loads_ok H_hTR.out H_hLR.out H_hTl.out H_hLl.out hn hm H_hlo.out).mono ?_); rintro e w1 ⟨qa, qc, N, rfl, -, x1, n1, rfl⟩) | (go_at_call 16; (with_reducible refine (bs_new_no (H_hTR.out.grows (by (repeat' (first | (with_reducible exact Vg.Grows.refl _) | (with_reducible assumption) | (with_reducible refine Vg.Grows.alloc ?_ _) | (with_reducible refine Vg.Grows.plus ?_ _ _) | (with_reducible refine Vg.Grows.drewN ?_ _) | (with_reducible refine Vg.Grows.drew ?_) | (with_reducible refine Vg.Grows.setCell ?_ ?_ _) | (with_reducible refine Vg.Grows.put ?_ ?_ _) | omega | (simp; omega) | (simp; done))))) H_hTl.out (by omega) H_hgT.out).mono ?_); rintro e w2 ⟨rfl, x2, n2, rfl⟩) | (go_at_call 6; (with_reducible refine (lirq_no (H_hLR.out.grows (by (repeat' (first | (with_reducible exact Vg.Grows.refl _) | (with_reducible assumption) | (with_reducible refine Vg.Grows.alloc ?_ _) | (with_reducible refine Vg.Grows.plus ?_ _ _) | (with_reducible refine Vg.Grows.drewN ?_ _) | (with_reducible refine Vg.Grows.drew ?_) | (with_reducible refine Vg.Grows.setCell ?_ ?_ _) | (with_reducible refine Vg.Grows.put ?_ ?_ _) | omega | (simp; omega) | (simp; done))))) H_hLl.out (by omega) (H_hgrow.out _ (by (repeat' (first | (with_reducible exact Vg.Grows.refl _) | (with_reducible assumption) | (with_reducible refine Vg.Grows.alloc ?_ _) | (with_reducible refine Vg.Grows.plus ?_ _ _) | (with_reducible refine Vg.Grows.drewN ?_ _) | (with_reducible refine Vg.Grows.drew ?_) | (with_reducible refine Vg.Grows.setCell ?_ ?_ _) | (with_reducible refine Vg.Grows.put ?_ ?_ _) | omega | (simp; omega) | (simp; done))))) H_hgL.out).mono ?_); rintro e w3 ⟨rfl, x3, n3, rfl⟩))
        all_goals go_ret
        all_goals exact ⟨rfl, by (repeat' (first | (with_reducible exact Vg.Grows.refl _) | (with_reducible assumption) | (with_reducible refine Vg.Grows.alloc ?_ _) | (with_reducible refine Vg.Grows.plus ?_ _ _) | (with_reducible refine Vg.Grows.drewN ?_ _) | (with_reducible refine Vg.Grows.drew ?_) | (with_reducible refine Vg.Grows.setCell ?_ ?_ _) | (with_reducible refine Vg.Grows.put ?_ ?_ _) | omega | (simp; omega) | (simp; done)))⟩
      | true =>
        clear RH
        have H_hTR := Lib.hid hTR; clear hTR; have H_hTl := Lib.hid hTl; clear hTl; have H_hLR := Lib.hid hLR; clear hLR; have H_hLl := Lib.hid hLl; clear hLl; have H_hlo := Lib.hid hlo; clear hlo; have H_hgT := Lib.hid hgT; clear hgT; have H_hgL := Lib.hid hgL; clear hgL; have H_hT := Lib.hid hT; clear hT; have H_hgrow := Lib.hid hgrow; clear hgrow
        go_enter Tryd.func4, Tryd.ntmps4
        go_wp2_with (first | (go_at_call 5; (with_reducible refine (begins12 _).mono ?_); rintro e w1 ⟨rfl, rfl⟩) | (go_at_call 15; (with_reducible refine (loads_ok H_hTR.out H_hLR.out H_hTl.out H_hLl.out hn hm H_hlo.out).mono ?_); rintro e w1 ⟨qa, qc, N, rfl, -, x1, n1, rfl⟩) | (go_at_call 16; (with_reducible refine (bs_new_no (H_hTR.out.grows (by (repeat' (first | (with_reducible exact Vg.Grows.refl _) | (with_reducible assumption) | (with_reducible refine Vg.Grows.alloc ?_ _) | (with_reducible refine Vg.Grows.plus ?_ _ _) | (with_reducible refine Vg.Grows.drewN ?_ _) | (with_reducible refine Vg.Grows.drew ?_) | (with_reducible refine Vg.Grows.setCell ?_ ?_ _) | (with_reducible refine Vg.Grows.put ?_ ?_ _) | omega | (simp; omega) | (simp; done))))) H_hTl.out (by omega) H_hgT.out).mono ?_); rintro e w2 ⟨rfl, x2, n2, rfl⟩) | (go_at_call 6; (with_reducible refine (lirq_ok (H_hLR.out.grows (by (repeat' (first | (with_reducible exact Vg.Grows.refl _) | (with_reducible assumption) | (with_reducible refine Vg.Grows.alloc ?_ _) | (with_reducible refine Vg.Grows.plus ?_ _ _) | (with_reducible refine Vg.Grows.drewN ?_ _) | (with_reducible refine Vg.Grows.drew ?_) | (with_reducible refine Vg.Grows.setCell ?_ ?_ _) | (with_reducible refine Vg.Grows.put ?_ ?_ _) | omega | (simp; omega) | (simp; done))))) H_hLl.out (by omega) (H_hgrow.out _ (by (repeat' (first | (with_reducible exact Vg.Grows.refl _) | (with_reducible assumption) | (with_reducible refine Vg.Grows.alloc ?_ _) | (with_reducible refine Vg.Grows.plus ?_ _ _) | (with_reducible refine Vg.Grows.drewN ?_ _) | (with_reducible refine Vg.Grows.drew ?_) | (with_reducible refine Vg.Grows.setCell ?_ ?_ _) | (with_reducible refine Vg.Grows.put ?_ ?_ _) | omega | (simp; omega) | (simp; done))))) H_hgL.out).mono ?_); rintro e w3 ⟨OQ, rfl, -, x3, n3, rfl⟩))
        all_goals go_ret
        all_goals exact ⟨rfl, by (repeat' (first | (with_reducible exact Vg.Grows.refl _) | (with_reducible assumption) | (with_reducible refine Vg.Grows.alloc ?_ _) | (with_reducible refine Vg.Grows.plus ?_ _ _) | (with_reducible refine Vg.Grows.drewN ?_ _) | (with_reducible refine Vg.Grows.drew ?_) | (with_reducible refine Vg.Grows.setCell ?_ ?_ _) | (with_reducible refine Vg.Grows.put ?_ ?_ _) | omega | (simp; omega) | (simp; done)))⟩
    | true =>
      cases hgL : Vg.goodL TL with
      | false =>
        clear RH
        have H_hTR := Lib.hid hTR; clear hTR; have H_hTl := Lib.hid hTl; clear hTl; have H_hLR := Lib.hid hLR; clear hLR; have H_hLl := Lib.hid hLl; clear hLl; have H_hlo := Lib.hid hlo; clear hlo; have H_hgT := Lib.hid hgT; clear hgT; have H_hgL := Lib.hid hgL; clear hgL; have H_hT := Lib.hid hT; clear hT; have H_hgrow := Lib.hid hgrow; clear hgrow
        go_enter Tryd.func4, Tryd.ntmps4
        go_wp2_with (first | (go_at_call 5; (with_reducible refine (begins12 _).mono ?_); rintro e w1 ⟨rfl, rfl⟩) | (go_at_call 15; (with_reducible refine (loads_ok H_hTR.out H_hLR.out H_hTl.out H_hLl.out hn hm H_hlo.out).mono ?_); rintro e w1 ⟨qa, qc, N, rfl, -, x1, n1, rfl⟩) | (go_at_call 16; (with_reducible refine (bs_new (H_hTR.out.grows (by (repeat' (first | (with_reducible exact Vg.Grows.refl _) | (with_reducible assumption) | (with_reducible refine Vg.Grows.alloc ?_ _) | (with_reducible refine Vg.Grows.plus ?_ _ _) | (with_reducible refine Vg.Grows.drewN ?_ _) | (with_reducible refine Vg.Grows.drew ?_) | (with_reducible refine Vg.Grows.setCell ?_ ?_ _) | (with_reducible refine Vg.Grows.put ?_ ?_ _) | omega | (simp; omega) | (simp; done))))) H_hTl.out (by omega) H_hgT.out rfl rfl).mono ?_); rintro e w2 ⟨OB, rfl, -, x2, n2, rfl⟩) | (go_at_call 6; (with_reducible refine (lirq_no (H_hLR.out.grows (by (repeat' (first | (with_reducible exact Vg.Grows.refl _) | (with_reducible assumption) | (with_reducible refine Vg.Grows.alloc ?_ _) | (with_reducible refine Vg.Grows.plus ?_ _ _) | (with_reducible refine Vg.Grows.drewN ?_ _) | (with_reducible refine Vg.Grows.drew ?_) | (with_reducible refine Vg.Grows.setCell ?_ ?_ _) | (with_reducible refine Vg.Grows.put ?_ ?_ _) | omega | (simp; omega) | (simp; done))))) H_hLl.out (by omega) (H_hgrow.out _ (by (repeat' (first | (with_reducible exact Vg.Grows.refl _) | (with_reducible assumption) | (with_reducible refine Vg.Grows.alloc ?_ _) | (with_reducible refine Vg.Grows.plus ?_ _ _) | (with_reducible refine Vg.Grows.drewN ?_ _) | (with_reducible refine Vg.Grows.drew ?_) | (with_reducible refine Vg.Grows.setCell ?_ ?_ _) | (with_reducible refine Vg.Grows.put ?_ ?_ _) | omega | (simp; omega) | (simp; done))))) H_hgL.out).mono ?_); rintro e w3 ⟨rfl, x3, n3, rfl⟩))
        all_goals go_ret
        all_goals exact ⟨rfl, by (repeat' (first | (with_reducible exact Vg.Grows.refl _) | (with_reducible assumption) | (with_reducible refine Vg.Grows.alloc ?_ _) | (with_reducible refine Vg.Grows.plus ?_ _ _) | (with_reducible refine Vg.Grows.drewN ?_ _) | (with_reducible refine Vg.Grows.drew ?_) | (with_reducible refine Vg.Grows.setCell ?_ ?_ _) | (with_reducible refine Vg.Grows.put ?_ ?_ _) | omega | (simp; omega) | (simp; done)))⟩
      | true =>
        by_cases h60 : 60 < len
        · clear RH
          have H_hTR := Lib.hid hTR; clear hTR; have H_hTl := Lib.hid hTl; clear hTl; have H_hLR := Lib.hid hLR; clear hLR; have H_hLl := Lib.hid hLl; clear hLl; have H_hlo := Lib.hid hlo; clear hlo; have H_hgT := Lib.hid hgT; clear hgT; have H_hgL := Lib.hid hgL; clear hgL; have H_hT := Lib.hid hT; clear hT; have H_hgrow := Lib.hid hgrow; clear hgrow
          go_enter Tryd.func4, Tryd.ntmps4
          go_wp2_with (first | (go_at_call 5; (with_reducible refine (begins12 _).mono ?_); rintro e w1 ⟨rfl, rfl⟩) | (go_at_call 15; (with_reducible refine (loads_ok H_hTR.out H_hLR.out H_hTl.out H_hLl.out hn hm H_hlo.out).mono ?_); rintro e w1 ⟨qa, qc, N, rfl, -, x1, n1, rfl⟩) | (go_at_call 16; (with_reducible refine (bs_new (H_hTR.out.grows (by (repeat' (first | (with_reducible exact Vg.Grows.refl _) | (with_reducible assumption) | (with_reducible refine Vg.Grows.alloc ?_ _) | (with_reducible refine Vg.Grows.plus ?_ _ _) | (with_reducible refine Vg.Grows.drewN ?_ _) | (with_reducible refine Vg.Grows.drew ?_) | (with_reducible refine Vg.Grows.setCell ?_ ?_ _) | (with_reducible refine Vg.Grows.put ?_ ?_ _) | omega | (simp; omega) | (simp; done))))) H_hTl.out (by omega) H_hgT.out rfl rfl).mono ?_); rintro e w2 ⟨OB, rfl, -, x2, n2, rfl⟩) | (go_at_call 6; (with_reducible refine (lirq_ok (H_hLR.out.grows (by (repeat' (first | (with_reducible exact Vg.Grows.refl _) | (with_reducible assumption) | (with_reducible refine Vg.Grows.alloc ?_ _) | (with_reducible refine Vg.Grows.plus ?_ _ _) | (with_reducible refine Vg.Grows.drewN ?_ _) | (with_reducible refine Vg.Grows.drew ?_) | (with_reducible refine Vg.Grows.setCell ?_ ?_ _) | (with_reducible refine Vg.Grows.put ?_ ?_ _) | omega | (simp; omega) | (simp; done))))) H_hLl.out (by omega) (H_hgrow.out _ (by (repeat' (first | (with_reducible exact Vg.Grows.refl _) | (with_reducible assumption) | (with_reducible refine Vg.Grows.alloc ?_ _) | (with_reducible refine Vg.Grows.plus ?_ _ _) | (with_reducible refine Vg.Grows.drewN ?_ _) | (with_reducible refine Vg.Grows.drew ?_) | (with_reducible refine Vg.Grows.setCell ?_ ?_ _) | (with_reducible refine Vg.Grows.put ?_ ?_ _) | omega | (simp; omega) | (simp; done))))) H_hgL.out).mono ?_); rintro e w3 ⟨OQ, rfl, -, x3, n3, rfl⟩))
          all_goals go_ret
          all_goals exact ⟨rfl, by (repeat' (first | (with_reducible exact Vg.Grows.refl _) | (with_reducible assumption) | (with_reducible refine Vg.Grows.alloc ?_ _) | (with_reducible refine Vg.Grows.plus ?_ _ _) | (with_reducible refine Vg.Grows.drewN ?_ _) | (with_reducible refine Vg.Grows.drew ?_) | (with_reducible refine Vg.Grows.setCell ?_ ?_ _) | (with_reducible refine Vg.Grows.put ?_ ?_ _) | omega | (simp; omega) | (simp; done)))⟩
        by_cases h8 : 8 < n + m
        · clear RH
          have hnm : decide ((8 : Int) < (n : Int) + m) = true := decide_eq_true (by omega)
          have hwnm : IntKind.i64.wrap ((n : Int) + m) = (n : Int) + m := by rw [IntKind.wrap_i64]; omega
          have H_hTR := Lib.hid hTR; clear hTR; have H_hTl := Lib.hid hTl; clear hTl; have H_hLR := Lib.hid hLR; clear hLR; have H_hLl := Lib.hid hLl; clear hLl; have H_hlo := Lib.hid hlo; clear hlo; have H_hgT := Lib.hid hgT; clear hgT; have H_hgL := Lib.hid hgL; clear hgL; have H_hT := Lib.hid hT; clear hT; have H_hgrow := Lib.hid hgrow; clear hgrow
          go_enter Tryd.func4, Tryd.ntmps4
          go_wp2_with (first | (go_at_call 5; (with_reducible refine (begins12 _).mono ?_); rintro e w1 ⟨rfl, rfl⟩) | (go_at_call 15; (with_reducible refine (loads_ok H_hTR.out H_hLR.out H_hTl.out H_hLl.out hn hm H_hlo.out).mono ?_); rintro e w1 ⟨qa, qc, N, rfl, -, x1, n1, rfl⟩) | (go_at_call 16; (with_reducible refine (bs_new (H_hTR.out.grows (by (repeat' (first | (with_reducible exact Vg.Grows.refl _) | (with_reducible assumption) | (with_reducible refine Vg.Grows.alloc ?_ _) | (with_reducible refine Vg.Grows.plus ?_ _ _) | (with_reducible refine Vg.Grows.drewN ?_ _) | (with_reducible refine Vg.Grows.drew ?_) | (with_reducible refine Vg.Grows.setCell ?_ ?_ _) | (with_reducible refine Vg.Grows.put ?_ ?_ _) | omega | (simp; omega) | (simp; done))))) H_hTl.out (by omega) H_hgT.out rfl rfl).mono ?_); rintro e w2 ⟨OB, rfl, -, x2, n2, rfl⟩) | (go_at_call 6; (with_reducible refine (lirq_ok (H_hLR.out.grows (by (repeat' (first | (with_reducible exact Vg.Grows.refl _) | (with_reducible assumption) | (with_reducible refine Vg.Grows.alloc ?_ _) | (with_reducible refine Vg.Grows.plus ?_ _ _) | (with_reducible refine Vg.Grows.drewN ?_ _) | (with_reducible refine Vg.Grows.drew ?_) | (with_reducible refine Vg.Grows.setCell ?_ ?_ _) | (with_reducible refine Vg.Grows.put ?_ ?_ _) | omega | (simp; omega) | (simp; done))))) H_hLl.out (by omega) (H_hgrow.out _ (by (repeat' (first | (with_reducible exact Vg.Grows.refl _) | (with_reducible assumption) | (with_reducible refine Vg.Grows.alloc ?_ _) | (with_reducible refine Vg.Grows.plus ?_ _ _) | (with_reducible refine Vg.Grows.drewN ?_ _) | (with_reducible refine Vg.Grows.drew ?_) | (with_reducible refine Vg.Grows.setCell ?_ ?_ _) | (with_reducible refine Vg.Grows.put ?_ ?_ _) | omega | (simp; omega) | (simp; done))))) H_hgL.out).mono ?_); rintro e w3 ⟨OQ, rfl, -, x3, n3, rfl⟩))
          all_goals go_ret
          all_goals exact ⟨rfl, by (repeat' (first | (with_reducible exact Vg.Grows.refl _) | (with_reducible assumption) | (with_reducible refine Vg.Grows.alloc ?_ _) | (with_reducible refine Vg.Grows.plus ?_ _ _) | (with_reducible refine Vg.Grows.drewN ?_ _) | (with_reducible refine Vg.Grows.drew ?_) | (with_reducible refine Vg.Grows.setCell ?_ ?_ _) | (with_reducible refine Vg.Grows.put ?_ ?_ _) | omega | (simp; omega) | (simp; done)))⟩
        have hflt := Vg.goodT_thOn hgT
        have hlok := Vg.lds_ok hlo
        have hwnm : IntKind.i64.wrap ((n : Int) + m) = (n : Int) + m := by rw [IntKind.wrap_i64]; omega
        have hnm8 : (n : Int) + m ≤ 8 := by omega
        have H_hTR := Lib.hid hTR; clear hTR; have H_hTl := Lib.hid hTl; clear hTl; have H_hLR := Lib.hid hLR; clear hLR; have H_hLl := Lib.hid hLl; clear hLl; have H_hlo := Lib.hid hlo; clear hlo; have H_hgT := Lib.hid hgT; clear hgT; have H_hgL := Lib.hid hgL; clear hgL; have H_hT := Lib.hid hT; clear hT; have H_hgrow := Lib.hid hgrow; clear hgrow; have H_hflt := Lib.hid hflt; clear hflt; have H_hlok := Lib.hid hlok; clear hlok
        go_enter Tryd.func4, Tryd.ntmps4
        go_upto_region 8 with (first | (go_at_call 5; (with_reducible refine (begins12 _).mono ?_); rintro e w1 ⟨rfl, rfl⟩) | (go_at_call 15; (with_reducible refine (loads_ok H_hTR.out H_hLR.out H_hTl.out H_hLl.out hn hm H_hlo.out).mono ?_); rintro e w1 ⟨qa, qc, N, rfl, hld, hg1⟩; have H_hld := Lib.hid hld; clear hld; have H_hg1 := Lib.hid hg1; clear hg1) | (go_at_call 16; (with_reducible refine (bs_new (H_hTR.out.grows H_hg1.out) H_hTl.out (by omega) H_hgT.out rfl rfl).mono ?_); rintro e w2 ⟨OB, rfl, hbs, hg2⟩; have H_hbs := Lib.hid hbs; clear hbs; have H_hg2 := Lib.hid hg2; clear hg2) | (go_at_call 6; (with_reducible refine (lirq_ok (H_hLR.out.grows (H_hg1.out.trans H_hg2.out)) H_hLl.out (by omega) (H_hgrow.out _ (H_hg1.out.trans H_hg2.out)) H_hgL.out).mono ?_); rintro e w3 ⟨OQ, rfl, hqs, hg3⟩; have H_hqs := Lib.hid hqs; clear hqs; have H_hg3 := Lib.hid hg3; clear hg3))
        have hst : DPI w w3 w1.heap.size w1.heap.size w2.heap.size w2.heap.size (Vg.prs TL).length (.slice qa N qc) N (Vg.lds TT TL) TT TL 0 0 0 := by
          have h9 := H_hld.out
          rw [H_hflt.out] at h9
          exact DPI.start H_hT.out hw0 H_hg1.out H_hg2.out H_hg3.out h9.2 h9.1 H_hbs.out H_hqs.out H_hgT.out H_hgL.out
        have hq9 := H_hld.out
        rw [H_hflt.out] at hq9
        have hqNc : N ≤ qc := hq9.2.reads.len_le
        have hqc9 : qc ≤ 9223372036854775807 := hq9.2.reads.cap_le
        have hN8 : N ≤ 8 := by
          have h9 := hq9.1
          rw [List.length_append, List.length_map, List.length_map, H_hTl.out, H_hLl.out] at h9
          omega
        clear hq9
        obtain ⟨nn, hnn⟩ : ∃ nn, (Vg.prs TL).length = nn := ⟨_, rfl⟩
        obtain ⟨bb, hbb⟩ : ∃ bb, w1.heap.size = bb := ⟨_, rfl⟩
        obtain ⟨bq, hbq⟩ : ∃ bq, w2.heap.size = bq := ⟨_, rfl⟩
        rw [hnn, hbb, hbq] at hst
        simp only [hbb, hbq]
        clear H_hld H_hbs H_hqs
        have H_hst := Lib.hid hst; clear hst; have H_hnn := Lib.hid hnn; clear hnn; have H_hbb := Lib.hid hbb; clear hbb; have H_hbq := Lib.hid hbq; clear hbq
        go_wp2_with fail
        go_loopw [13, 14, 93] (fun now used i wr => ∃ (kk k : Nat) (nw us : Int), kk ≤ len ∧ i = .int .i64 kk ∧ now = .int .i64 nw ∧ used = .int .i64 us ∧ DPI w wr bb bb bq bq nn (.slice qa N qc) N (Vg.lds TT TL) TT TL k nw us ∧ k ≤ 9 * kk ∧ (0 ≤ nw ∧ nw ≤ 255 * kk) ∧ (0 ≤ us ∧ us ≤ 255 * kk)) (fun _ _ i _ => len - (intOf i).toNat)
        case atStart => exact ⟨0, 0, 0, 0, by omega, rfl, rfl, rfl, H_hst.out, by omega, by omega, by omega⟩
        case round =>
          obtain ⟨kk, k, nw, us, hkk, rfl, rfl, rfl, hd, hk9, ⟨hnw0, hnw1⟩, hus0, hus1⟩ := hrel
          clear H_hst
          by_cases hlt : kk < len
          · obtain ⟨bl, off, rfl, hbl, hc⟩ := RH.out (by omega)
            have c0 := hc kk hlt 0 (by decide)
            generalize D kk 0 = g at c0
            simp only [List.length_cons, List.length_nil, Nat.zero_add, List.getElem_cons_zero, Nat.mul_one, Nat.add_zero] at c0
            have hgp : 0 ≤ g ∧ g ≤ 255 := by
              have h9 := bounds_u8 c0.2
              omega
            have hgr := hd.gr
            have c0 := (hgr.below.cell (p := ⟨bl, off + kk, none⟩) hbl).trans c0.1
            have hbll : bl < wr.heap.size := Nat.lt_of_lt_of_le hbl hgr.size
            have hkI0 : (0 : Int) ≤ kk := by omega
            have hkI1 : (kk : Int) < len := by omega
            have hg0w : IntKind.i64.wrap g = g := by rw [IntKind.wrap_i64]; omega
            clear hc
            have H_hd := Lib.hid hd; clear hd; have H_hgr := Lib.hid hgr; clear hgr
            go_upto_block 2 with fail
            go_cut [] (fun wz => DPI w wz bb bb bq bq nn (.slice qa N qc) N (Vg.lds TT TL) TT TL (k + n) nw us)
            case first =>
              as_aux_lemma =>
                go_wp2_with fail
                go_loopw [99] (fun i wr => ∃ j : Nat, j ≤ n ∧ i = .int .i64 j ∧ DPI w wr bb bb bq bq nn (.slice qa N qc) N (Vg.lds TT TL) TT TL (k + j) nw us) (fun i _ => n - (intOf i).toNat)
                case atStart => exact ⟨0, by omega, rfl, H_hd.out⟩
                case round =>
                  obtain ⟨j, hj, rfl, hd1⟩ := hrel
                  by_cases hjn : j < n
                  · have hjI : (j : Int) < n := by omega
                    have H_hd1 := Lib.hid hd1; clear hd1
                    go_wp2_with ((go_at_call 17; (with_reducible refine (dp_put H_hd1.out (by omega) j).mono ?_); rintro e w4 ⟨r, rfl, hd2⟩; have H_hd2 := Lib.hid hd2; clear hd2))
                    exact ⟨⟨j + 1, by omega, by go_num, H_hd2.out⟩, by simp [intOf]; omega⟩
                  · have hjn2 : j = n := by omega
                    subst hjn2
                    have H_hd1 := Lib.hid hd1; clear hd1
                    go_wp2_with fail
                    go_meet
                    exact H_hd1.out
            case rest =>
              clear H_hd
              have H_hcut := Lib.hid hcut; clear hcut
              go_upto_block 4 with fail
              go_cut [] (fun wz => DPI w wz bb bb bq bq nn (.slice qa N qc) N (Vg.lds TT TL) TT TL (k + n + m) nw us)
              case first =>
                as_aux_lemma =>
                  go_wp2_with fail
                  go_loopw [108] (fun i wr => ∃ j : Nat, j ≤ m ∧ i = .int .i64 j ∧ DPI w wr bb bb bq bq nn (.slice qa N qc) N (Vg.lds TT TL) TT TL (k + n + j) nw us) (fun i _ => m - (intOf i).toNat)
                  case atStart => exact ⟨0, by omega, rfl, H_hcut.out⟩
                  case round =>
                    obtain ⟨j, hj, rfl, hd1⟩ := hrel
                    clear H_hcut
                    by_cases hjm : j < m
                    · have hjI : (j : Int) < m := by omega
                      have hjI0 : (0 : Int) ≤ j := by omega
                      have hjL : j < TL.length := by rw [H_hLl.out]; exact hjm
                      obtain ⟨g4, o4, rfl, hg4, d0, d1, d2, d3⟩ := H_hLR.out.2.2 j hjL
                      have hgr1 := hd1.gr
                      have ht := List.getElem?_eq_getElem hjL
                      obtain ⟨t, hte⟩ : ∃ t, TL[j] = t := ⟨_, rfl⟩
                      rw [hte] at d0 d1 d2 d3 ht
                      have d0 := (hgr1.below.cell (p := ⟨g4, o4 + j * 4, none⟩) hg4).trans d0
                      have d1 := (hgr1.below.cell (p := ⟨g4, o4 + j * 4 + 1, none⟩) hg4).trans d1
                      have d2 := (hgr1.below.cell (p := ⟨g4, o4 + j * 4 + 2, none⟩) hg4).trans d2
                      have d3 := (hgr1.below.cell (p := ⟨g4, o4 + j * 4 + 3, none⟩) hg4).trans d3
                      have hg4l : g4 < wr.heap.size := Nat.lt_of_lt_of_le hg4 hgr1.size
                      obtain ⟨top, htop⟩ : ∃ top, t.top = top := ⟨_, rfl⟩
                      rw [htop] at d1
                      have H_hd1 := Lib.hid hd1; clear hd1; have H_ht := Lib.hid ht; clear ht; have H_htop := Lib.hid htop; clear htop; have H_hte := Lib.hid hte; clear hte; have H_hgr1 := Lib.hid hgr1; clear hgr1
                      go_wp2_with ((go_at_call 7; (with_reducible refine (dp_raise (H_hd1.out.grows (by (repeat' (first | (with_reducible exact Vg.Grows.refl _) | (with_reducible assumption) | (with_reducible refine Vg.Grows.alloc ?_ _) | (with_reducible refine Vg.Grows.plus ?_ _ _) | (with_reducible refine Vg.Grows.drewN ?_ _) | (with_reducible refine Vg.Grows.drew ?_) | (with_reducible refine Vg.Grows.setCell ?_ ?_ _) | (with_reducible refine Vg.Grows.put ?_ ?_ _) | omega | (simp; omega) | (simp; done))))) (by omega) j H_ht.out H_htop.out).mono ?_); rintro e w4 ⟨r, rfl, hd2⟩; have H_hd2 := Lib.hid hd2; clear hd2))
                      exact ⟨⟨j + 1, by omega, by go_num, H_hd2.out⟩, by simp [intOf]; omega⟩
                    · have hjm2 : j = m := by omega
                      subst hjm2
                      have H_hd1 := Lib.hid hd1; clear hd1
                      go_wp2_with fail
                      go_meet
                      exact H_hd1.out
              case rest =>
                clear H_hcut
                have H_hcut := Lib.hid hcut; clear hcut
                go_upto_region 26 with (first | (go_at_call 18; (with_reducible refine (dp_refill H_hcut.out (by omega)).mono ?_); rintro e w5 ⟨rfl, hd5⟩; have H_hd5 := Lib.hid hd5; clear hd5) | (go_at_call 8; (with_reducible refine (dp_unmask H_hd5.out (by omega)).mono ?_); rintro e w6 ⟨u6, rfl, hd6⟩; have H_hd6 := Lib.hid hd6; clear hd6) | (go_at_call 9; (with_reducible refine (dp_take H_hd6.out (by omega)).mono ?_); rintro e w7 ⟨ti, tis, ter, rfl, hd7⟩; have H_hd7 := Lib.hid hd7; clear hd7))
                obtain ⟨D7, hdm, hI, hDn, hDu⟩ := H_hd7.out
                obtain ⟨lf, hlf⟩ : ∃ lf, D7.s.left = lf := ⟨_, rfl⟩
                have hlf0 : 0 ≤ lf := by rcases hI.stack with ⟨_, h9⟩ | ⟨_, _, _, h9, _⟩ <;> omega
                obtain ⟨q, hq⟩ : ∃ q, min lf g = q := ⟨_, rfl⟩
                have hq2 : 0 ≤ q ∧ q ≤ lf ∧ q ≤ g := by omega
                clear H_hcut H_hd5 H_hd6
                have H_hdm := Lib.hid hdm; clear hdm; have H_hI := Lib.hid hI; clear hI; have H_hDn := Lib.hid hDn; clear hDn; have H_hDu := Lib.hid hDu; clear hDu; have H_hlf := Lib.hid hlf; clear hlf; have H_hq := Lib.hid hq; clear hq
                go_cut [20] (fun v20 wz => v20 = .int .i64 q ∧ wz = w7)
                case first =>
                  as_aux_lemma =>
                    by_cases hle : lf ≤ g
                    · go_wp2_with ((go_at_call 10; (with_reducible refine (dm_left H_hdm.out H_hlf.out).mono ?_); rintro e w8 ⟨rfl, rfl⟩))
                      go_meet
                      exact ⟨by rw [← H_hq.out, Int.min_eq_left hle], rfl⟩
                    · go_wp2_with ((go_at_call 10; (with_reducible refine (dm_left H_hdm.out H_hlf.out).mono ?_); rintro e w8 ⟨rfl, rfl⟩))
                      go_meet
                      exact ⟨by rw [← H_hq.out, Int.min_eq_right (by omega)], rfl⟩
                case rest =>
                  obtain ⟨rfl, rfl⟩ := hcut
                  go_upto_block 6 with ((go_at_call 19; (with_reducible refine (dm_pick H_hdm.out).mono ?_); rintro e w9 ⟨pi, pis, rfl, hpa, hg9⟩; have hdm9 := H_hdm.out.grows hg9; have H_hpa := Lib.hid hpa; clear hpa; have H_hg9 := Lib.hid hg9; clear hg9; have H_hdm9 := Lib.hid hdm9; clear hdm9))
                  go_cut [20] (fun v20 wz => ∃ q2 : Int, v20 = .int .i64 q2 ∧ (0 ≤ q2 ∧ q2 ≤ 255) ∧ DPI w wz bb bb bq bq nn (.slice qa N qc) N (Vg.lds TT TL) TT TL (k + n + m + 1) (nw + max q2 (g / 2)) (us + q2))
                  case first =>
                    as_aux_lemma =>
                      by_cases hq0 : 0 < q
                      · have hdq : decide (0 < q) = true := decide_eq_true hq0
                        go_wp2_with ((go_at_call 11; (with_reducible refine (dm_run H_hdm9.out H_hI.out H_hlf.out hq0 (by omega) (now' := nw + max q (g / 2)) (by rw [H_hDn.out]; omega)).mono ?_); rintro e w10 ⟨ra, rb, rc, rfl, hd10⟩; have H_hd10 := Lib.hid hd10; clear hd10))
                        go_meet
                        refine ⟨q, rfl, by omega, ?_⟩
                        have h9 := H_hd10.out
                        rw [H_hDu.out] at h9
                        exact h9.grows (by (repeat' (first | (with_reducible exact Vg.Grows.refl _) | (with_reducible assumption) | (with_reducible refine Vg.Grows.alloc ?_ _) | (with_reducible refine Vg.Grows.plus ?_ _ _) | (with_reducible refine Vg.Grows.drewN ?_ _) | (with_reducible refine Vg.Grows.drew ?_) | (with_reducible refine Vg.Grows.setCell ?_ ?_ _) | (with_reducible refine Vg.Grows.put ?_ ?_ _) | omega | (simp; omega) | (simp; done))))
                      · have hqz : q = 0 := by omega
                        cases pis with
                        | false =>
                          go_wp2_with fail
                          go_meet
                          refine ⟨q, by rw [hqz], by omega, ?_⟩
                          have h9 := dm_idle H_hdm9.out H_hI.out (now' := nw + max q (g / 2)) (by rw [H_hDn.out]; omega)
                          rw [H_hDu.out] at h9
                          rw [show us + q = us by omega]
                          exact h9.grows (by (repeat' (first | (with_reducible exact Vg.Grows.refl _) | (with_reducible assumption) | (with_reducible refine Vg.Grows.alloc ?_ _) | (with_reducible refine Vg.Grows.plus ?_ _ _) | (with_reducible refine Vg.Grows.drewN ?_ _) | (with_reducible refine Vg.Grows.drew ?_) | (with_reducible refine Vg.Grows.setCell ?_ ?_ _) | (with_reducible refine Vg.Grows.put ?_ ?_ _) | omega | (simp; omega) | (simp; done))))
                        | true =>
                          by_cases hg0 : 0 < g
                          · obtain ⟨bf, hbf⟩ : ∃ bf, Vg.Bo.left D7.Bs D7.Q pi = bf := ⟨_, rfl⟩
                            have hbf0 := H_hI.out.left_pos (H_hpa.out rfl)
                            rw [hbf] at hbf0
                            obtain ⟨q3, hq3⟩ : ∃ q3, min bf g = q3 := ⟨_, rfl⟩
                            have hq4 : 0 < q3 ∧ q3 ≤ bf ∧ q3 ≤ g := by omega
                            have H_hbf := Lib.hid hbf; clear hbf; have H_hq3 := Lib.hid hq3; clear hq3
                            go_upto_region 33 with fail
                            go_cut [20] (fun v20 wz => v20 = .int .i64 q3 ∧ Vg.Grows w9 wz)
                            case first =>
                              as_aux_lemma =>
                                by_cases hle : bf ≤ g
                                · go_wp2_with ((go_at_call 20; (with_reducible refine (dm_bleft H_hdm9.out pi H_hbf.out).mono ?_); rintro e w11 ⟨rfl, kd, rfl⟩))
                                  go_meet
                                  exact ⟨by rw [← H_hq3.out, Int.min_eq_left hle], by (repeat' (first | (with_reducible exact Vg.Grows.refl _) | (with_reducible assumption) | (with_reducible refine Vg.Grows.alloc ?_ _) | (with_reducible refine Vg.Grows.plus ?_ _ _) | (with_reducible refine Vg.Grows.drewN ?_ _) | (with_reducible refine Vg.Grows.drew ?_) | (with_reducible refine Vg.Grows.setCell ?_ ?_ _) | (with_reducible refine Vg.Grows.put ?_ ?_ _) | omega | (simp; omega) | (simp; done)))⟩
                                · go_wp2_with ((go_at_call 20; (with_reducible refine (dm_bleft H_hdm9.out pi H_hbf.out).mono ?_); rintro e w11 ⟨rfl, kd, rfl⟩))
                                  go_meet
                                  exact ⟨by rw [← H_hq3.out, Int.min_eq_right (by omega)], by (repeat' (first | (with_reducible exact Vg.Grows.refl _) | (with_reducible assumption) | (with_reducible refine Vg.Grows.alloc ?_ _) | (with_reducible refine Vg.Grows.plus ?_ _ _) | (with_reducible refine Vg.Grows.drewN ?_ _) | (with_reducible refine Vg.Grows.drew ?_) | (with_reducible refine Vg.Grows.setCell ?_ ?_ _) | (with_reducible refine Vg.Grows.put ?_ ?_ _) | omega | (simp; omega) | (simp; done)))⟩
                            case rest =>
                              obtain ⟨rfl, hg12⟩ := hcut
                              have hdm12 := H_hdm9.out.grows hg12
                              have hwq : IntKind.i64.wrap (nw + q3) = nw + q3 := by rw [IntKind.wrap_i64]; omega
                              have H_hdm12 := Lib.hid hdm12; clear hdm12; have H_hg12 := Lib.hid hg12; clear hg12
                              go_wp2_with ((go_at_call 21; (with_reducible refine (dm_brun H_hdm12.out H_hI.out (by omega) pi (H_hpa.out rfl) hq4.1 (by rw [H_hbf.out]; exact hq4.2.1) H_hDn.out rfl (now' := nw + max q3 (g / 2)) (by omega) (by omega)).mono ?_); rintro e w10 ⟨rb, rfl, hd10⟩; have H_hd10 := Lib.hid hd10; clear hd10))
                              go_meet
                              refine ⟨q3, rfl, by omega, ?_⟩
                              have h9 := H_hd10.out
                              rw [H_hDu.out] at h9
                              exact h9.grows (by (repeat' (first | (with_reducible exact Vg.Grows.refl _) | (with_reducible assumption) | (with_reducible refine Vg.Grows.alloc ?_ _) | (with_reducible refine Vg.Grows.plus ?_ _ _) | (with_reducible refine Vg.Grows.drewN ?_ _) | (with_reducible refine Vg.Grows.drew ?_) | (with_reducible refine Vg.Grows.setCell ?_ ?_ _) | (with_reducible refine Vg.Grows.put ?_ ?_ _) | omega | (simp; omega) | (simp; done))))
                          · go_wp2_with fail
                            go_meet
                            refine ⟨q, by rw [hqz], by omega, ?_⟩
                            have h9 := dm_idle H_hdm9.out H_hI.out (now' := nw + max q (g / 2)) (by rw [H_hDn.out]; omega)
                            rw [H_hDu.out] at h9
                            rw [show us + q = us by omega]
                            exact h9.grows (by (repeat' (first | (with_reducible exact Vg.Grows.refl _) | (with_reducible assumption) | (with_reducible refine Vg.Grows.alloc ?_ _) | (with_reducible refine Vg.Grows.plus ?_ _ _) | (with_reducible refine Vg.Grows.drewN ?_ _) | (with_reducible refine Vg.Grows.drew ?_) | (with_reducible refine Vg.Grows.setCell ?_ ?_ _) | (with_reducible refine Vg.Grows.put ?_ ?_ _) | omega | (simp; omega) | (simp; done))))
                  case rest =>
                    obtain ⟨q2, rfl, ⟨hq20, hq21⟩, hd11⟩ := hcut
                    clear H_hdm9 H_hdm H_hI H_hd7
                    have hw1 : IntKind.i64.wrap (us + q2) = us + q2 := by rw [IntKind.wrap_i64]; omega
                    have hqd : g.tdiv 2 = g / 2 := Int.tdiv_eq_ediv_of_nonneg hgp.1
                    have hqd2 : wrap64 (g / 2) = g / 2 := by unfold wrap64; omega
                    have hqd3 : IntKind.i64.wrap (g / 2) = g / 2 := by rw [IntKind.wrap_i64]; omega
                    obtain ⟨n2, hn2⟩ : ∃ n2, nw + max q2 (g / 2) = n2 := ⟨_, rfl⟩
                    have hn2b : 0 ≤ n2 ∧ n2 ≤ 255 * (kk + 1) := by omega
                    rw [hn2] at hd11
                    have H_hd11 := Lib.hid hd11; clear hd11; have H_hn2 := Lib.hid hn2; clear hn2
                    go_upto_region 38 with fail
                    go_cut [13] (fun v13 wz => v13 = .int .i64 n2 ∧ wz = wc)
                    case first =>
                      as_aux_lemma =>
                        by_cases hle : q2 < g / 2
                        · have hwn : IntKind.i64.wrap (nw + g / 2) = nw + g / 2 := by rw [IntKind.wrap_i64]; omega
                          go_wp2_with fail
                          go_meet
                          exact ⟨by rw [← H_hn2.out, Int.max_eq_right (by omega)], rfl⟩
                        · have hwn : IntKind.i64.wrap (nw + q2) = nw + q2 := by rw [IntKind.wrap_i64]; omega
                          go_wp2_with fail
                          go_meet
                          exact ⟨by rw [← H_hn2.out, Int.max_eq_left (by omega)], rfl⟩
                    case rest =>
                      obtain ⟨rfl, rfl⟩ := hcut
                      go_upto_region 40 with ((go_at_call 22; (with_reducible refine (dp_all H_hd11.out (by omega) H_hlok.out (by omega) hqc9 hqNc).mono ?_); rintro e w13 ⟨mo, er, rfl, her, hg13⟩; have H_hg13 := Lib.hid hg13; clear hg13))
                      have hd13 := H_hd11.out.grows H_hg13.out
                      have H_hd13 := Lib.hid hd13; clear hd13
                      rcases her with rfl | ⟨rfl, hle⟩
                      · go_wp2_with fail
                        exact ⟨⟨kk + 1, k + n + m + 1, n2, us + q2, by omega, by go_num, rfl, rfl, H_hd13.out, by omega, by omega, by omega⟩, by simp [intOf]; omega⟩
                      · have hdl : decide (mo < us + q2) = false := decide_eq_false (by omega)
                        go_wp2_with fail
                        exact ⟨⟨kk + 1, k + n + m + 1, n2, us + q2, by omega, by go_num, rfl, rfl, H_hd13.out, by omega, by omega, by omega⟩, by simp [intOf]; omega⟩
          · have hkn : kk = len := by omega
            subst hkn
            clear RH
            have hgr := hd.gr
            have H_hd := Lib.hid hd; clear hd; have H_hgr := Lib.hid hgr; clear hgr
            go_wp2_with fail
            go_ret
            exact ⟨rfl, H_hgr.out⟩
end Go.Proofs.YtekjnagojphmkaaDoor
