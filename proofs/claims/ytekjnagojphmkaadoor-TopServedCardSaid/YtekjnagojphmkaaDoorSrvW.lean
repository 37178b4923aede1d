/- TopServed: the walk. -/
import Derived.Test.YtekjnagojphmkaaDoorSrvC
set_option linter.unusedSimpArgs false
set_option linter.unusedVariables false
set_option maxHeartbeats 40000000
set_option maxRecDepth 100000
namespace Vg
open Go
theorem madeIr (n : Nat) : madeCells #[.int .i64 0] n = (ics (List.replicate n 0)).toArray := by
  unfold madeCells
  apply Array.ext'
  simp [ics, List.map_const', Nat.mod_one]
theorem madeSr (n : Nat) : madeCells #[.slice none 0 0] n = (List.replicate n (Value.slice none 0 0)).toArray := by
  unfold madeCells
  apply Array.ext'
  simp [List.map_const', Nat.mod_one]
theorem goodL_one {T : List Lin} (h : goodL T = true) : T.length ≤ 64 ∧ ∀ t ∈ T, oddL t = false := by
  unfold goodL at h
  simp only [Bool.and_eq_true, Bool.not_eq_true', decide_eq_true_eq] at h
  refine ⟨h.1.2, fun t ht => ?_⟩
  cases hh : oddL t with
  | false => rfl
  | true => rw [← h.1.1]; exact (List.any_eq_true.2 ⟨t, ht, hh⟩).symm
theorem isum_mem : ∀ (l : List Lr), (∀ z ∈ l, 0 ≤ z.r) → 0 ≤ isum (l.map Lr.r) ∧ ∀ x ∈ l, x.r ≤ isum (l.map Lr.r)
  | [], _ => ⟨Int.le_refl _, fun x hx => by simp at hx⟩
  | a :: l, h => by
    have ha := h a (by simp)
    obtain ⟨h1, h2⟩ := isum_mem l fun z hz => h z (by simp [hz])
    refine ⟨by simp only [List.map_cons, isum]; omega, fun x hx => ?_⟩
    rcases List.mem_cons.1 hx with rfl | hx
    · simp only [List.map_cons, isum]; omega
    · have := h2 x hx
      simp only [List.map_cons, isum]; omega
theorem Sp.I.rb {N q i : Nat} {P : Sp} {x : Lr} (h : P.I N q) (hx : P.X[i]? = some x) : (0 ≤ x.r ∧ x.r ≤ q) ∧ (0 ≤ x.y.lost ∧ x.y.lost ≤ q) ∧ (0 ≤ x.y.srv ∧ x.y.srv ≤ q) ∧ x.w.length ≤ q ∧ (0 ≤ x.v ∧ x.v ≤ q) := by
  have hm := (isum_mem P.X fun z hz => by obtain ⟨j, hj⟩ := h.mem hz; have := hj.vr; have := hj.v0; omega).2 x (List.mem_iff_getElem?.2 ⟨i, hx⟩)
  have hL := h.line i x hx
  have h1 := hL.wl
  have h2 := hL.rl
  have h3 := hL.sv
  have h4 := hL.l0
  have h5 := hL.v0
  have h6 := b01_bd (p := P.c.pe.testBit i = true)
  have h7 := b01_bd (p := i ∈ Sp.ks P.S)
  have h8 := h.rq
  omega
/-- What a state begins as. -/
def sp0 (T : List Lin) : Sp := ⟨(iq0 T).c, [], 0, T.map fun t => ⟨ln0 t, 0, [], 0, 0⟩, ⟨0, 0, 0, 0, 0⟩, 0⟩
theorem sp0_I {T : List Lin} (h : goodL T = true) : (sp0 T).I T.length 0 := by
  have hz : ∀ l : List Lin, isum ((l.map fun t => (⟨ln0 t, 0, [], 0, 0⟩ : Lr)).map Lr.v) = 0 ∧ isum ((l.map fun t => (⟨ln0 t, 0, [], 0, 0⟩ : Lr)).map Lr.r) = 0 := by
    intro l
    induction l with
    | nil => exact ⟨rfl, rfl⟩
    | cons t l ih => simp only [List.map_cons, isum]; omega
  have h0 : ∀ i, (0 : Nat).testBit i = false := Nat.zero_testBit
  refine ⟨by simp [sp0], by show 0 < _; decide, (goodL_one h).1, rfl, List.nodup_nil, fun i hi => ?_, fun z hz => by simp [sp0] at hz, fun i x hx => ?_, ?_, rfl, ?_, by show (0 : Int) ≤ 0 * 20000; omega, ?_, Int.le_refl _, Int.le_refl _⟩
  · have hi : (0 : Nat).testBit i = true := hi
    rw [h0] at hi; cases hi
  · have hx : (T.map fun t => (⟨ln0 t, 0, [], 0, 0⟩ : Lr))[i]? = some x := hx
    rw [List.getElem?_map] at hx
    cases ht : T[i]? with
    | none => rw [ht] at hx; cases hx
    | some t =>
      rw [ht] at hx
      have hx := (Option.some.inj hx).symm
      subst hx
      show LI 0 [] 0 i _
      refine ⟨?_, rfl, ?_, fun hh => absurd hh (by rw [h0]; simp), fun e he => by simp at he, Int.le_refl _, Int.le_refl _, ⟨Int.le_refl _, Int.le_refl _⟩, fun z hz => by simp at hz⟩
      · rw [b01_n (by rw [h0]; simp)]; rfl
      · rw [b01_n (by simp [Sp.ks])]; rfl
  · show (0 : Int) = _
    rw [show (sp0 T).X.map Lr.v = (T.map fun t => (⟨ln0 t, 0, [], 0, 0⟩ : Lr)).map Lr.v from rfl, (hz T).1]
  · show St.OK ⟨0, 0, 0, 0, 0⟩
    unfold St.OK; decide
  · show isum ((T.map fun t => (⟨ln0 t, 0, [], 0, 0⟩ : Lr)).map Lr.r) ≤ _
    rw [(hz T).2]; simp
theorem sp0_maps (T : List Lin) : (sp0 T).s = iq0 T ∧ (sp0 T).X.map Lr.r = List.replicate T.length 0 ∧ (sp0 T).X.map Lr.w = List.replicate T.length [] ∧ (sp0 T).X.map Lr.b = List.replicate T.length 0 ∧ (sp0 T).X.map Lr.v = List.replicate T.length 0 := by
  refine ⟨?_, ?_, ?_, ?_, ?_⟩
  · unfold sp0 Sp.s iq0
    simp
  all_goals
    unfold sp0
    simp only [List.map_map]
    rw [List.eq_replicate_iff]
    refine ⟨by simp, fun b hb => ?_⟩
    obtain ⟨t, _, rfl⟩ := List.mem_map.1 hb
    rfl
end Vg
namespace Go.Proofs.YtekjnagojphmkaaDoor
open Go.ChangeShapes Go.WideShapes Go.ChangeAt Go.RowKit
theorem SP.gr {w0 w : World} {b lo n g1 g2 g3 g4 g5 : Nat} {P : Vg.Sp} (h : SP w0 w b lo n g1 g2 g3 g4 g5 P) : Vg.Grows w0 w := by
  obtain ⟨OB, us, lab, h⟩ := h
  exact h.gr
theorem low10 (w : World) : Calls Tryd.prog 23 #[.int .i64 4294967301] w fun e w' => e = .returned (.int .u32 5) ∧ w = w' := by
  go_enter Tryd.func23, Tryd.ntmps23
  go_wp2
  go_ret
  exact ⟨rfl, rfl⟩
theorem diff10 (w : World) : Calls Tryd.prog 24 #[.int .u32 3, .int .u32 5] w fun e w' => e = .returned (.int .i64 (-2)) ∧ w = w' := by
  go_enter Tryd.func24, Tryd.ntmps24
  go_wp2
  go_ret
  exact ⟨ret_int (by kernel_rfl), rfl⟩
theorem begins10 (w : World) : Calls Tryd.prog 5 #[] w fun e w' => e = .returned (.bool true) ∧ w = w' := by
  go_enter Tryd.func5, Tryd.ntmps5
  go_wp2_with (first | (go_at_call 23; refine (low10 _).mono ?_; rintro e w' ⟨rfl, rfl⟩) | (go_at_call 24; refine (diff10 _).mono ?_; rintro e w' ⟨rfl, rfl⟩))
  go_ret
  exact ⟨rfl, rfl⟩
theorem Tryd.info_s64 : (Tryd.prog.info? 31).map (fun i => (i.zero, i.size, i.bytes)) = some (some (.slice none 0 0), 1, 24) := by kernel_rfl
section
variable {w w' : World} {T : List Vg.Lin} {sa : Option Addr} {sc n : Nat}
theorem irq_new_ok (hr : Vg.LR w sa sc T) (hn : T.length = n) (hn2 : n ≤ 4398046511104) (hw0 : 0 < w.heap.size) (hg : Vg.goodL T = true) :
    Calls Tryd.prog 6 #[.slice sa n sc] w fun e w' => ∃ OB, e = .returned (.tuple #[.pointer (some ⟨w.heap.size, 0, none⟩), .int .i64 0]) ∧ QS w' w.heap.size w.heap.size (Vg.prs T).length (Vg.iq0 T) OB ∧ Vg.Grows w w' := by
  refine (irq_new hr hn hn2 hw0).mono ?_
  rintro e w' (⟨_, ⟨OB, rfl, h1⟩, h2⟩ | ⟨h1, _⟩)
  · exact ⟨OB, rfl, h1, h2⟩
  · rw [hg] at h1; cases h1
theorem irq_new_no (hr : Vg.LR w sa sc T) (hn : T.length = n) (hn2 : n ≤ 4398046511104) (hw0 : 0 < w.heap.size) (hg : Vg.goodL T = false) :
    Calls Tryd.prog 6 #[.slice sa n sc] w fun e w' => e = .returned (.tuple #[.pointer none, .int .i64 1]) ∧ Vg.Grows w w' := by
  refine (irq_new hr hn hn2 hw0).mono ?_
  rintro e w' (⟨h1, _⟩ | ⟨_, rfl, h2⟩)
  · rw [hg] at h1; cases h1
  · exact ⟨rfl, h2⟩
end
theorem TopServed_walk (ta : Option Addr) (n tc : Nat) (TD0 : Nat → Nat → Int) (a : Option Addr) (len cap : Nat) (D : Nat → Nat → Int) (w : World) (hrT : Vg.intRows w [.i64, .i64, .i64, .i64] ta n tc TD0) (hr : Vg.intRows w [.i64, .i64, .u8] a len cap D) (hn42 : n ≤ 4398046511104) (hT : Vg.Tab w) :
    Calls Tryd.prog 3 #[.slice ta n tc, .slice a len cap] w fun e w' => e = .returned (.bool true) ∧ Vg.Grows w w' := by
  obtain ⟨T, hTR, hTl⟩ : ∃ T, Vg.LR w ta tc T ∧ T.length = n := ⟨_, Vg.LR.of_rows hrT, Vg.linsOf_len _ _⟩
  have htc1 : n ≤ tc := hrT.1
  have htc2 : tc ≤ 9223372036854775807 := hrT.2.1
  clear hrT
  have hlen := hr.1
  have hcap : cap ≤ 9223372036854775807 := hr.2.1
  have hw0 : 0 < w.heap.size := World.block_lt_of_cell? w _ (hT 0 (by decide))
  cases hgood : Vg.goodL T with
  | false =>
    clear hr
    have H_hTR := Lib.hid hTR; clear hTR; have H_hTl := Lib.hid hTl; clear hTl; have H_hgood := Lib.hid hgood; clear hgood; have H_hT := Lib.hid hT; clear hT
    go_enter Tryd.func3, Tryd.ntmps3
    go_wp2_with (first | (go_at_call 5; (with_reducible refine (begins10 _).mono ?_); rintro e w1 ⟨rfl, rfl⟩) | (go_at_call 6; (with_reducible refine (irq_new_no H_hTR.out H_hTl.out hn42 hw0 H_hgood.out).mono ?_); rintro e w1 ⟨rfl, x1, n1, rfl⟩))
    go_ret
    exact ⟨rfl, by (repeat' (first | (with_reducible exact Vg.Grows.refl _) | (with_reducible assumption) | (with_reducible refine Vg.Grows.alloc ?_ _) | (with_reducible refine Vg.Grows.plus ?_ _ _) | (with_reducible refine Vg.Grows.drewN ?_ _) | (with_reducible refine Vg.Grows.drew ?_) | (with_reducible refine Vg.Grows.setCell ?_ ?_ _) | (with_reducible refine Vg.Grows.put ?_ ?_ _) | omega | (simp; omega) | (simp; done)))⟩
  | true =>
    by_cases h50 : 50 < len
    · clear hr
      have H_hTR := Lib.hid hTR; clear hTR; have H_hTl := Lib.hid hTl; clear hTl; have H_hgood := Lib.hid hgood; clear hgood; have H_hT := Lib.hid hT; clear hT
      go_enter Tryd.func3, Tryd.ntmps3
      go_wp2_with (first | (go_at_call 5; (with_reducible refine (begins10 _).mono ?_); rintro e w1 ⟨rfl, rfl⟩) | (go_at_call 6; (with_reducible refine (irq_new_ok H_hTR.out H_hTl.out hn42 hw0 H_hgood.out).mono ?_); rintro e w1 ⟨OB, rfl, -, x1, n1, rfl⟩))
      go_ret
      exact ⟨rfl, by (repeat' (first | (with_reducible exact Vg.Grows.refl _) | (with_reducible assumption) | (with_reducible refine Vg.Grows.alloc ?_ _) | (with_reducible refine Vg.Grows.plus ?_ _ _) | (with_reducible refine Vg.Grows.drewN ?_ _) | (with_reducible refine Vg.Grows.drew ?_) | (with_reducible refine Vg.Grows.setCell ?_ ?_ _) | (with_reducible refine Vg.Grows.put ?_ ?_ _) | omega | (simp; omega) | (simp; done)))⟩
    by_cases h10 : 10 < n
    · clear hr
      have H_hTR := Lib.hid hTR; clear hTR; have H_hTl := Lib.hid hTl; clear hTl; have H_hgood := Lib.hid hgood; clear hgood; have H_hT := Lib.hid hT; clear hT
      go_enter Tryd.func3, Tryd.ntmps3
      go_wp2_with (first | (go_at_call 5; (with_reducible refine (begins10 _).mono ?_); rintro e w1 ⟨rfl, rfl⟩) | (go_at_call 6; (with_reducible refine (irq_new_ok H_hTR.out H_hTl.out hn42 hw0 H_hgood.out).mono ?_); rintro e w1 ⟨OB, rfl, -, x1, n1, rfl⟩))
      go_ret
      exact ⟨rfl, by (repeat' (first | (with_reducible exact Vg.Grows.refl _) | (with_reducible assumption) | (with_reducible refine Vg.Grows.alloc ?_ _) | (with_reducible refine Vg.Grows.plus ?_ _ _) | (with_reducible refine Vg.Grows.drewN ?_ _) | (with_reducible refine Vg.Grows.drew ?_) | (with_reducible refine Vg.Grows.setCell ?_ ?_ _) | (with_reducible refine Vg.Grows.put ?_ ?_ _) | omega | (simp; omega) | (simp; done)))⟩
    have RH := Lib.hid (fun h => Vg.intRows.open (by decide) hr h)
    clear hr
    have hmk1 : ∀ wx : World, (Instr.makeSlice 29 (.int .i64 n) (.int .i64 n)).run Tryd.prog wx = .ok (.slice (some ⟨wx.heap.size, 0, none⟩) n n) (wx.alloc (Vg.rowC (List.replicate n 0) 3)) := fun wx => by
      have := run_make_row' (P := Tryd.prog) 29 3 (.int .i64 0) 8 Tryd.underlying29 Tryd.info_int5 rfl .i64 .i64 n (by omega) (by omega) wx
      rw [Vg.madeIr] at this
      exact this
    have hmk2 : ∀ wx : World, (Instr.makeSlice 30 (.int .i64 n) (.int .i64 n)).run Tryd.prog wx = .ok (.slice (some ⟨wx.heap.size, 0, none⟩) n n) (wx.alloc (.cells (List.replicate n (Value.slice none 0 0)).toArray 31)) := fun wx => by
      have := run_make_row' (P := Tryd.prog) 30 31 (.slice none 0 0) 24 Tryd.underlying30 Tryd.info_s64 rfl .i64 .i64 n (by omega) (by omega) wx
      rw [Vg.madeSr] at this
      exact this
    have hmk3 : ∀ wx : World, (Instr.makeSlice 31 (.int .i64 n) (.int .i64 n)).run Tryd.prog wx = .ok (.slice (some ⟨wx.heap.size, 0, none⟩) n n) (wx.alloc (Vg.rowC (List.replicate n 0) 2)) := fun wx => by
      have := run_make_row' (P := Tryd.prog) 31 2 (.int .i64 0) 8 Tryd.underlying31 Tryd.info_i64 rfl .i64 .i64 n (by omega) (by omega) wx
      rw [Vg.madeIr] at this
      exact this
    have hI0 := Vg.sp0_I hgood
    have hM0 := Vg.sp0_maps T
    have H_hTR := Lib.hid hTR; clear hTR; have H_hTl := Lib.hid hTl; clear hTl; have H_hgood := Lib.hid hgood; clear hgood; have H_hT := Lib.hid hT; clear hT; have H_hI0 := Lib.hid hI0; clear hI0; have H_hM0 := Lib.hid hM0; clear hM0
    go_enter Tryd.func3, Tryd.ntmps3
    go_wp2_with (first | (go_at_call 5; (with_reducible refine (begins10 _).mono ?_); rintro e w1 ⟨rfl, rfl⟩) | (go_at_call 6; (with_reducible refine (irq_new_ok H_hTR.out H_hTl.out hn42 hw0 H_hgood.out).mono ?_); rintro e w1 ⟨OB, rfl, hqs, hg1⟩; have H_hqs := Lib.hid hqs; clear hqs; have H_hg1 := Lib.hid hg1; clear hg1))
    have hsv := SV.start (w := w) H_hg1.out H_hT.out H_hqs.out hw0 (Nat.le_refl _) n
    have hsp : SP w (((((w1.alloc (Vg.rowC (List.replicate n 0) 3)).alloc (.cells (Array.replicate n (.slice none 0 0)) 31)).alloc (Vg.rowC (List.replicate n 0) 2)).alloc (Vg.rowC (List.replicate n 0) 3)).alloc (statC ⟨0, 0, 0, 0, 0⟩)) w.heap.size w.heap.size (Vg.prs T).length w1.heap.size (w1.heap.size + 1) (w1.heap.size + 2) (w1.heap.size + 3) (w1.heap.size + 4) (Vg.sp0 T) := by
      obtain ⟨m1, m2, m3, m4, m5⟩ := H_hM0.out
      unfold SP
      rw [m1, m2, m3, m4, m5, H_hTl.out, ← List.toArray_replicate]
      exact hsv
    have hI1 := H_hI0.out
    rw [H_hTl.out] at hI1
    obtain ⟨b, hb⟩ : ∃ b, w.heap.size = b := ⟨_, rfl⟩
    obtain ⟨nn, hnn⟩ : ∃ nn, (Vg.prs T).length = nn := ⟨_, rfl⟩
    obtain ⟨g1, hg1e⟩ : ∃ g1, w1.heap.size = g1 := ⟨_, rfl⟩
    obtain ⟨g2, hg2e⟩ : ∃ g2, g1 + 1 = g2 := ⟨_, rfl⟩
    obtain ⟨g3, hg3e⟩ : ∃ g3, g2 + 1 = g3 := ⟨_, rfl⟩
    obtain ⟨g4, hg4e⟩ : ∃ g4, g3 + 1 = g4 := ⟨_, rfl⟩
    obtain ⟨g5, hg5e⟩ : ∃ g5, g4 + 1 = g5 := ⟨_, rfl⟩
    obtain ⟨W0, hW0⟩ : ∃ W0, (((((w1.alloc (Vg.rowC (List.replicate n 0) 3)).alloc (.cells (Array.replicate n (.slice none 0 0)) 31)).alloc (Vg.rowC (List.replicate n 0) 2)).alloc (Vg.rowC (List.replicate n 0) 3)).alloc (statC ⟨0, 0, 0, 0, 0⟩)) = W0 := ⟨_, rfl⟩
    have hW0' := hW0
    simp only [statC] at hW0'
    rw [hW0] at hsp
    rw [hW0']
    simp only [hb, hg1e, hg2e, hg3e, hg4e, hg5e]
    rw [hb, hnn, hg1e, hg2e, show g1 + 2 = g3 by omega, show g1 + 3 = g4 by omega, show g1 + 4 = g5 by omega] at hsp
    have hgg : g1 + 1 = g2 ∧ g2 + 1 = g3 ∧ g3 + 1 = g4 ∧ g4 + 1 = g5 := ⟨hg2e, hg3e, hg4e, hg5e⟩
    clear hg2e hg3e hg4e hg5e
    clear hmk1 hmk2 hmk3 hsv hW0 hW0'
    have H_hsp := Lib.hid hsp; clear hsp; have H_hI1 := Lib.hid hI1; clear hI1; have H_hb := Lib.hid hb; clear hb; have H_hnn := Lib.hid hnn; clear hnn; have H_hg1e := Lib.hid hg1e; clear hg1e; have H_hgg := Lib.hid hgg; clear hgg
    go_loopw [12, 75] (fun now i wr => ∃ (k : Nat) (P : Vg.Sp), k ≤ len ∧ now = .int .i64 P.now ∧ i = .int .i64 k ∧ SP w wr b b nn g1 g2 g3 g4 g5 P ∧ P.I n k ∧ P.now ≤ 255 * k) (fun _ i _ => len - (intOf i).toNat)
    case atStart => exact ⟨0, Vg.sp0 T, by omega, rfl, rfl, H_hsp.out, H_hI1.out, by show (0 : Int) ≤ _; omega⟩
    case round =>
      obtain ⟨k, P, hk, rfl, rfl, hsp, hI, hnow⟩ := hrel
      clear H_hsp H_hI1
      have hn0 := hI.n0
      by_cases hlt : k < len
      · obtain ⟨bl, off, rfl, hbl, hc⟩ := RH.out (by omega)
        have c0 := hc k hlt 0 (by decide)
        have c1 := hc k hlt 1 (by decide)
        have c2 := hc k hlt 2 (by decide)
        generalize D k 0 = ln at c0
        generalize D k 1 = tp at c1
        generalize D k 2 = gp at c2
        simp only [List.length_cons, List.length_nil, Nat.zero_add, List.getElem_cons_zero, List.getElem_cons_succ] at c0 c1 c2
        have hgp : 0 ≤ gp ∧ gp ≤ 255 := by
          have h9 := bounds_u8 c2.2
          omega
        have hgr := hsp.gr
        have c0 := (hgr.below.cell (p := ⟨bl, off + k * 3, none⟩) hbl).trans c0.1
        have c1 := (hgr.below.cell (p := ⟨bl, off + k * 3 + 1, none⟩) hbl).trans c1.1
        have c2 := (hgr.below.cell (p := ⟨bl, off + k * 3 + 2, none⟩) hbl).trans c2.1
        have hbll : bl < wr.heap.size := Nat.lt_of_lt_of_le hbl hgr.size
        have hkI0 : (0 : Int) ≤ k := by omega
        have hkI1 : (k : Int) < len := by omega
        clear hc
        have H_hsp := Lib.hid hsp; clear hsp; have H_hI := Lib.hid hI; clear hI; have H_hgr := Lib.hid hgr; clear hgr
        go_upto_region 15 with fail
        obtain ⟨bx, hbx⟩ : ∃ bx, wr.heap.size = bx := ⟨_, rfl⟩
        obtain ⟨wx, hwx⟩ : ∃ wx, wr.alloc (.cells #[.int .i64 ln, .int .i64 tp, .int .u8 gp] 35) = wx := ⟨_, rfl⟩
        have x2 : Vg.blk wx bx = some (.cells #[.int .i64 ln, .int .i64 tp, .int .u8 gp] 35) := by rw [← hwx, ← hbx]; exact Vg.alloc_heap_at rfl
        have hspx : SP w wx b b nn g1 g2 g3 g4 g5 P := H_hsp.out.grows (by rw [← hwx]; (repeat' (first | (with_reducible exact Vg.Grows.refl _) | (with_reducible assumption) | (with_reducible refine Vg.Grows.alloc ?_ _) | (with_reducible refine Vg.Grows.plus ?_ _ _) | (with_reducible refine Vg.Grows.drewN ?_ _) | (with_reducible refine Vg.Grows.drew ?_) | (with_reducible refine Vg.Grows.setCell ?_ ?_ _) | (with_reducible refine Vg.Grows.put ?_ ?_ _) | omega | (simp; omega) | (simp; done))))
        have hgsz : g1 < bx ∧ g2 < bx ∧ g3 < bx ∧ g4 < bx ∧ g5 < bx := by
          have h9 := Vg.lt_of (SV.cell5 H_hsp.out)
          have h8 := H_hgg.out
          omega
        simp only [hbx]
        rw [hwx]
        clear c0 c1 c2
        obtain ⟨gb, hgb⟩ : ∃ gb : Bool, (gb = true ↔ (0 ≤ ln ∧ ln < n) ∧ 1 ≤ tp ∧ tp ≤ 1000) := ⟨decide ((0 ≤ ln ∧ ln < n) ∧ 1 ≤ tp ∧ tp ≤ 1000), by simp⟩
        have hgf : ¬ ((0 ≤ ln ∧ ln < n) ∧ 1 ≤ tp ∧ tp ≤ 1000) → gb = false := fun hh => by
          cases gb with
          | false => rfl
          | true => exact absurd (hgb.1 rfl) hh
        have c_x2 := Vg.cells_of x2; have f_x2 := Vg.frozen_of x2; have p_x2 := Vg.setCell_of x2; have l_x2 := Vg.lt_of x2; have H_x2 := Lib.hid x2; clear x2
        have H_hspx := Lib.hid hspx; clear hspx; have H_hwx := Lib.hid hwx; clear hwx; have H_hbx := Lib.hid hbx; clear hbx; have H_hgb := Lib.hid hgb; clear hgb; have H_hgf := Lib.hid hgf; clear hgf
        go_cut [98] (fun v98 wz => v98 = .bool gb ∧ wz = wx)
        case first =>
          as_aux_lemma =>
            by_cases q1 : 0 ≤ ln
            · by_cases q2 : ln < n
              · by_cases q3 : 1 ≤ tp
                · by_cases q4 : tp ≤ 1000
                  · go_wp2_with fail
                    go_meet
                    exact ⟨by rw [H_hgb.out.2 ⟨⟨q1, q2⟩, q3, q4⟩], rfl⟩
                  · go_wp2_with fail
                    go_meet
                    exact ⟨by rw [H_hgf.out (by omega)], rfl⟩
                · go_wp2_with fail
                  go_meet
                  exact ⟨by rw [H_hgf.out (by omega)], rfl⟩
              · go_wp2_with fail
                go_meet
                exact ⟨by rw [H_hgf.out (by omega)], rfl⟩
            · go_wp2_with fail
              go_meet
              exact ⟨by rw [H_hgf.out (by omega)], rfl⟩
        case rest =>
          obtain ⟨rfl, rfl⟩ := hcut
          go_upto_if 98 with fail
          go_cut [] (fun wz => ∃ P' : Vg.Sp, SP w wz b b nn g1 g2 g3 g4 g5 P' ∧ P'.I n (k + 1) ∧ P'.now = P.now ∧ Vg.blk wz bx = some (.cells #[.int .i64 ln, .int .i64 tp, .int .u8 gp] 35))
          case first =>
            as_aux_lemma =>
              cases gb with
              | false =>
                go_wp2_with fail
                go_meet
                exact ⟨P, H_hspx.out, H_hI.out.more, rfl, H_x2.out⟩
              | true =>
                obtain ⟨⟨q1, q2⟩, q3, q4⟩ := H_hgb.out.1 rfl
                obtain ⟨i, rfl⟩ : ∃ i : Nat, ln = i := ⟨ln.toNat, by omega⟩
                obtain ⟨x, hx⟩ := H_hI.out.at (show i < n by omega)
                obtain ⟨rb1, rb2, rb3, rb4, rb5⟩ := H_hI.out.rb hx
                have hrx : (P.X.map Vg.Lr.r)[i]? = some x.r := Vg.map_get hx
                have hyx : P.s.ls[i]? = some x.y := Vg.map_get (f := Vg.Lr.y) hx
                obtain ⟨e1, f1, l1⟩ := SV.cell1 H_hspx.out hrx
                have hi0 : (0 : Int) ≤ i := by omega
                have hsum : IntKind.i64.wrap (x.r + 1) = x.r + 1 := by rw [IntWalk.i64_in _ (by omega)]
                have H_hx := Lib.hid hx; clear hx; have H_hrx := Lib.hid hrx; clear hrx; have H_hyx := Lib.hid hyx; clear hyx
                go_upto_region 17 with fail
                obtain ⟨OB, us, lab, hv0⟩ := H_hsp.out
                have hlb : lab bx = 0 := Classical.byContradiction fun hh => by have := (hv0.hw bx hh).2; rw [H_hbx.out] at this; omega
                have hv1 := hv0.grows (w' := wc) (by rw [← H_hwx.out]; exact (Vg.Grows.refl _).alloc _)
                have hsv2 := hv1.set1 hw0 i (x.r + 1)
                have ht2 : Vg.blk (wc.setCell ⟨g1, i, none⟩ (.int .i64 (x.r + 1))) bx = some (.cells #[.int .i64 i, .int .i64 tp, .int .u8 gp] 35) := (Vg.blk_setCell_other (by omega)).trans H_x2.out
                obtain ⟨w2, hw2⟩ : ∃ w2, wc.setCell ⟨g1, i, none⟩ (.int .i64 (x.r + 1)) = w2 := ⟨_, rfl⟩
                rw [hw2] at hsv2 ht2 ⊢
                clear hw2 e1 f1 c_x2 f_x2 p_x2
                have c_ht2 := Vg.cells_of ht2; have f_ht2 := Vg.frozen_of ht2; have p_ht2 := Vg.setCell_of ht2; have l_ht2 := Vg.lt_of ht2; have H_ht2 := Lib.hid ht2; clear ht2
                by_cases hpb : P.c.pe.testBit i = true
                · have hra : P.s.raise i x.y tp 0 = (P.s.setl i { x.y with lost := x.y.lost + 1 }, 4) := by
                    unfold Vg.Iq.raise; rw [if_pos (show P.s.c.pe.testBit i = true from hpb)]
                  have H_hsv2 := Lib.hid hsv2; clear hsv2; have H_hra := Lib.hid hra; clear hra; have H_hpb := Lib.hid hpb; clear hpb
                  go_wp2_with ((go_at_call 7; (with_reducible refine (sv_raise_b H_hsv2.out hlb H_ht2.out hw0 H_hyx.out ⟨q3, q4⟩ ⟨rb2.1, by omega⟩ H_hra.out).mono ?_); rintro e w3 ⟨rfl, OB3, lab3, hsv3, hlb3, hbx3⟩; have H_hsv3 := Lib.hid hsv3; clear hsv3; have H_hbx3 := Lib.hid hbx3; clear hbx3))
                  go_meet
                  exact ⟨_, SP.lose ⟨OB3, us, lab3, H_hsv3.out⟩ H_hx.out, H_hI.out.lose H_hx.out, rfl, H_hbx3.out⟩
                · have hra : P.s.raise i x.y tp 0 = (⟨P.s.c.raise i, P.s.ls.set i { x.y with top := tp, bot := 0 }, P.s.S, P.s.last⟩, 0) := by
                    unfold Vg.Iq.raise; rw [if_neg (show ¬ P.s.c.pe.testBit i = true from hpb)]
                  have hpb' : P.c.pe.testBit i = false := by simpa using hpb
                  have hwx9 : (P.X.map Vg.Lr.w)[i]? = some x.w := Vg.map_get H_hx.out
                  have hiu : i < us.length := by rw [hv0.ul]; exact (List.getElem?_eq_some_iff.1 hwx9).1
                  have hu := List.getElem?_eq_getElem hiu
                  obtain ⟨i0, hi, hz0, hz1, hz2⟩ := info_parts Tryd.info_i64
                  clear hpb
                  have H_hsv2 := Lib.hid hsv2; clear hsv2; have H_hra := Lib.hid hra; clear hra; have H_hpb' := Lib.hid hpb'; clear hpb'; have H_hwx9 := Lib.hid hwx9; clear hwx9; have H_hu := Lib.hid hu; clear hu
                  go_upto_region 18 with ((go_at_call 7; (with_reducible refine (sv_raise_b H_hsv2.out hlb H_ht2.out hw0 H_hyx.out ⟨q3, q4⟩ ⟨rb2.1, by omega⟩ H_hra.out).mono ?_); rintro e w3 ⟨rfl, OB3, lab3, hsv3, hlb3, hbx3⟩; clear c_ht2 f_ht2 p_ht2; have c_hbx3 := Vg.cells_of hbx3; have f_hbx3 := Vg.frozen_of hbx3; have p_hbx3 := Vg.setCell_of hbx3; have l_hbx3 := Vg.lt_of hbx3; have H_hbx3 := Lib.hid hbx3; clear hbx3; have H_hsv3 := Lib.hid hsv3; clear hsv3))
                  have hq3 := (H_hsv3.out.uw i _ _ H_hu.out H_hwx9.out).1
                  have hq3l := (H_hsv3.out.uw i _ _ H_hu.out H_hwx9.out).2
                  obtain ⟨ua, uc, hus⟩ := hq3.shape
                  obtain ⟨m, hm⟩ : ∃ m, x.w.length = m := ⟨_, rfl⟩
                  have hm50 : m ≤ 1000000 := by omega
                  have hu2 := H_hu.out
                  rw [hus] at hq3 hq3l hu2
                  rw [hm] at hq3 hq3l hu2
                  have y2 := H_hsv3.out.r2
                  have ce2 : w3.cell? ⟨g2, i, none⟩ = some (.slice ua m uc) := by rw [Vg.cells_of y2]; simp [hu2]
                  have fe2 := Vg.frozen_of y2
                  have le2 := Vg.lt_of y2
                  have hi1 : (i : Int) < n := q2
                  have hlo3 : b ≤ w3.heap.size := by have := Vg.lt_of H_hbx3.out; have := H_hsv3.out.qs.lo_le; omega
                  have nb2 : bx ≠ g2 := by omega
                  have nb3 : g2 ≠ bx := by omega
                  have hub : ∀ j, (Value.slice ua m uc).ownBlock = some j → j ≠ bx ∧ j ≠ g2 := fun j hj => by
                    have h9 := hq3l j hj
                    refine ⟨fun hh => by rw [hh, hlb3] at h9; omega, fun hh => ?_⟩
                    have h8 := H_hsv3.out.l2
                    rw [hh, h8] at h9; omega
                  clear hus
                  have H_hq3 := Lib.hid hq3; clear hq3; have H_hq3l := Lib.hid hq3l; clear hq3l; have H_hu2 := Lib.hid hu2; clear hu2; have H_y2 := Lib.hid y2; clear y2; have H_hm := Lib.hid hm; clear hm; have H_hub := Lib.hid hub; clear hub
                  refine wp_region_held_drew (S := fun w' => bx < w'.heap.size ∧ g2 < w'.heap.size ∧ w'.cell? ⟨bx, 0, none⟩ = some (.int .i64 i) ∧ w'.cell? ⟨bx, 1, none⟩ = some (.int .i64 tp)) (by kernel_rfl) (by go_split_ands <;> (try dsimp only) <;> go_simp) (fun hHeld => ?_)
                  refine wpAnyH_take (i := 0) (oi := _) (v := ?v1) rfl (by kernel_rfl) (by kernel_rfl) (by kernel_rfl) (fun _ _ _ h => h) (Or.inl ⟨by rfl, ?hy1⟩) (by assumption) ?rest1
                  case hy1 => (intro w hSw; (try dsimp only at hSw); go_simp; first | done | with_reducible rfl)
                  (try simp only [List.getElem_toArray, List.getElem_cons_succ, List.getElem_cons_zero, Act.put, List.setIfInBounds_toArray, List.set_cons_zero, List.set_cons_succ])
                  refine wpAnyH_take (i := 1) (oi := _) (v := ?v2) rfl (by kernel_rfl) (by kernel_rfl) (by kernel_rfl) (fun _ _ _ h => h) (Or.inl ⟨by rfl, ?hy2⟩) (by assumption) ?rest2
                  case hy2 => (intro w hSw; (try dsimp only at hSw); go_simp; first | done | with_reducible rfl)
                  (try simp only [List.getElem_toArray, List.getElem_cons_succ, List.getElem_cons_zero, Act.put, List.setIfInBounds_toArray, List.set_cons_zero, List.set_cons_succ])
                  refine wpAnyH_take (i := 2) (oi := _) (v := ?v3) rfl (by kernel_rfl) (by kernel_rfl) (by kernel_rfl) (fun _ _ _ h => h) (Or.inl ⟨by rfl, ?hy3⟩) (by assumption) ?rest3
                  case hy3 => (intro w hSw; (try dsimp only at hSw); go_simp; first | done | with_reducible rfl)
                  (try simp only [List.getElem_toArray, List.getElem_cons_succ, List.getElem_cons_zero, Act.put, List.setIfInBounds_toArray, List.set_cons_zero, List.set_cons_succ])
                  refine wpAnyH_take (i := 3) (oi := _) (v := ?v4) rfl (by kernel_rfl) (by kernel_rfl) (by kernel_rfl) (fun _ _ _ h => h) (Or.inl ⟨by rfl, ?hy4⟩) (by assumption) ?rest4
                  case hy4 => (intro w hSw; (try dsimp only at hSw); go_simp; first | done | with_reducible rfl)
                  (try simp only [List.getElem_toArray, List.getElem_cons_succ, List.getElem_cons_zero, Act.put, List.setIfInBounds_toArray, List.set_cons_zero, List.set_cons_succ])
                  refine wpAnyH_take (i := 4) (oi := _) (v := ?v5) rfl (by kernel_rfl) (by kernel_rfl) (by kernel_rfl) (fun _ _ _ h => h) (Or.inl ⟨by rfl, ?hy5⟩) (by assumption) ?rest5
                  case hy5 => (intro w hSw; (try dsimp only at hSw); go_simp; first | done | with_reducible rfl)
                  (try simp only [List.getElem_toArray, List.getElem_cons_succ, List.getElem_cons_zero, Act.put, List.setIfInBounds_toArray, List.set_cons_zero, List.set_cons_succ])
                  refine wpAnyH_take (i := 5) (oi := _) (v := ?v6) rfl (by kernel_rfl) (by kernel_rfl) (by kernel_rfl) (fun _ _ _ h => h) (Or.inl ⟨by rfl, ?hy6⟩) (by assumption) ?rest6
                  case hy6 => (intro w hSw; (try dsimp only at hSw); go_simp; first | done | with_reducible rfl)
                  (try simp only [List.getElem_toArray, List.getElem_cons_succ, List.getElem_cons_zero, Act.put, List.setIfInBounds_toArray, List.set_cons_zero, List.set_cons_succ])
                  refine wpAnyH_take (i := 6) (oi := _) (v := ?v7) rfl (by kernel_rfl) (by kernel_rfl) (by kernel_rfl) (fun _ _ _ h => h) (Or.inl ⟨by rfl, ?hy7⟩) (by assumption) ?rest7
                  case hy7 => (intro w hSw; (try dsimp only at hSw); go_simp; first | done | with_reducible rfl)
                  (try simp only [List.getElem_toArray, List.getElem_cons_succ, List.getElem_cons_zero, Act.put, List.setIfInBounds_toArray, List.set_cons_zero, List.set_cons_succ])
                  refine wpAnyH_take (i := 8) (oi := _) (v := ?v8) rfl (by kernel_rfl) (by kernel_rfl) (by kernel_rfl) (fun _ _ _ h => h) (Or.inl ⟨by rfl, ?hy8⟩) (by assumption) ?rest8
                  case hy8 => (intro w hSw; (try dsimp only at hSw); go_simp; first | done | with_reducible rfl)
                  (try simp only [List.getElem_toArray, List.getElem_cons_succ, List.getElem_cons_zero, Act.put, List.setIfInBounds_toArray, List.set_cons_zero, List.set_cons_succ])
                  refine wpAnyH_take (i := 9) (oi := _) (v := ?v9) rfl (by kernel_rfl) (by kernel_rfl) (by kernel_rfl) (fun _ _ _ h => h) (Or.inl ⟨by rfl, ?hy9⟩) (by assumption) ?rest9
                  case hy9 => (intro w hSw; (try dsimp only at hSw); go_simp; first | done | with_reducible rfl)
                  (try simp only [List.getElem_toArray, List.getElem_cons_succ, List.getElem_cons_zero, Act.put, List.setIfInBounds_toArray, List.set_cons_zero, List.set_cons_succ])
                  refine wpAnyH_ready (rs := [7, 10]) (by kernel_rfl) (by simp) ?_
                  refine AllReadyH.cons (o := _) rfl (fun K hK => ?st10) ?mo10
                  case st10 =>
                    go_simp
                    refine hK.out _ _ (by go_split_ands <;> (try dsimp only) <;> go_simp) (fun hHeld10 => ?_)
                    clear hK K
                    (try simp only [List.getElem_toArray, List.getElem_cons_succ, List.getElem_cons_zero, Act.put, List.setIfInBounds_toArray, List.set_cons_zero, List.set_cons_succ])
                    refine wpAnyH_ready (rs := [10]) (by kernel_rfl) (by simp) ?_
                    refine AllReadyH.cons (o := _) rfl (fun K hK => ?st11) ?mo11
                    case st11 =>
                      go_simp
                      refine hK.out _ _ (by go_split_ands <;> (try dsimp only) <;> go_simp) (fun hHeld11 => ?_)
                      clear hK K
                      (try simp only [List.getElem_toArray, List.getElem_cons_succ, List.getElem_cons_zero, Act.put, List.setIfInBounds_toArray, List.set_cons_zero, List.set_cons_succ])
                      refine wpAnyH_ready (rs := [11]) (by kernel_rfl) (by simp) ?_
                      refine AllReadyH.cons (o := _) rfl (fun K hK => ?st12) ?mo12
                      case st12 =>
                        refine Vg.step_que1 rfl (.tmp 120) (.tmp 123) 31 rfl b 2 i0 (.int .i64 0) 1 8 Tryd.underlying31 hi hz0 hz1 hz2 rfl (by decide) (.slice ua m uc) m (Vg.ics x.w) (by simp [Act.eval, Act.put]) (H_hq3.out.grows (by (repeat' (first | (with_reducible exact Vg.Grows.refl _) | (with_reducible assumption) | (with_reducible refine Vg.Grows.alloc ?_ _) | (with_reducible refine Vg.Grows.plus ?_ _ _) | (with_reducible refine Vg.Grows.drewN ?_ _) | (with_reducible refine Vg.Grows.drew ?_) | (with_reducible refine Vg.Grows.setCell ?_ ?_ _) | (with_reducible refine Vg.Grows.put ?_ ?_ _) | omega | (simp; omega) | (simp; done))))) ⟨w3.heap.size, 0, none⟩ 1 [.int .i64 tp] (by simp [Act.eval, Act.put]) rfl (Vg.one_new (by first | rfl | ((try simp only [World.size_alloc, Vg.plus_size, Vg.put_size, World.size_setCell, World.size_drew, World.heap_drewN]) <;> omega))) (by simp [Value.oneCell']) (by unfold maxLen; omega) (by omega) (by decide) (by simp only [World.size_alloc, World.size_drew]; omega) ?_; intro v2 W1 y2' m2 hq2 hs2 ho2; obtain ⟨a2, c2, rfl⟩ := hq2.shape; have hT7 := ((Vg.Touch.of_grows (t := fun j => (Value.slice ua m uc).ownBlock = some j) (by (repeat' (first | (with_reducible exact Vg.Grows.refl _) | (with_reducible assumption) | (with_reducible refine Vg.Grows.alloc ?_ _) | (with_reducible refine Vg.Grows.plus ?_ _ _) | (with_reducible refine Vg.Grows.drewN ?_ _) | (with_reducible refine Vg.Grows.drew ?_) | (with_reducible refine Vg.Grows.setCell ?_ ?_ _) | (with_reducible refine Vg.Grows.put ?_ ?_ _) | omega | (simp; omega) | (simp; done))) : Vg.Grows w3 _)).trans (Vg.Touch.of_same hs2)).trans (Vg.Touch.of_grows ((Vg.Grows.refl _).plus y2' m2)); have e5 : (x.w ++ [tp]).length = m + 1 := (by rw [List.length_append, H_hm.out]; rfl); have e6 : Vg.ics (x.w ++ [tp]) = Vg.ics x.w ++ [.int .i64 tp] := (by simp [Vg.ics]); have hfin := SVx.want (v := .slice a2 (m + 1) c2) (L' := x.w ++ [tp]) (H_hsv3.out.grows (by (repeat' (first | (with_reducible exact Vg.Grows.refl _) | (with_reducible assumption) | (with_reducible refine Vg.Grows.alloc ?_ _) | (with_reducible refine Vg.Grows.plus ?_ _ _) | (with_reducible refine Vg.Grows.drewN ?_ _) | (with_reducible refine Vg.Grows.drew ?_) | (with_reducible refine Vg.Grows.setCell ?_ ?_ _) | (with_reducible refine Vg.Grows.put ?_ ?_ _) | omega | (simp; omega) | (simp; done))))) hw0 H_hu2.out H_hwx9.out (by rw [e5, e6]; exact hq2) hs2 ho2; have x7 := hT7.bk H_hbx3.out (fun hh => (H_hub.out bx hh).1 rfl); have z7 := hT7.bk H_y2.out (fun hh => (H_hub.out g2 hh).2 rfl); obtain ⟨W7, hW7⟩ : ∃ W7, Vg.plus W1 y2' m2 = W7 := ⟨_, rfl⟩; rw [hW7] at hfin x7 z7 hT7 ⊢; clear hW7 hs2 ho2 hq2 e5 e6; have l7 := hT7.size; clear c_hbx3 f_hbx3 p_hbx3 ce2 fe2; have p7 : W7.setCell ⟨g2, i, none⟩ (.slice a2 (m + 1) c2) = Vg.put W7 g2 (.cells (us.set i (.slice a2 (m + 1) c2)).toArray 31) := (by rw [Vg.setCell_of z7, List.setIfInBounds_toArray]); have c7 : W7.cell? ⟨g2, i, none⟩ = some (.slice ua m uc) := (by rw [Vg.cells_of z7]; simp [H_hu2.out]); have f7 := Vg.frozen_of z7; have l77 := Vg.lt_of z7; have c_x7 := Vg.cells_of x7; have f_x7 := Vg.frozen_of x7; have p_x7 := Vg.setCell_of x7; have l_x7 := Vg.lt_of x7; have H_x7 := Lib.hid x7; clear x7; have H_hfin := Lib.hid hfin; clear hfin; have H_hT7 := Lib.hid hT7; clear hT7; have H_z7 := Lib.hid z7; clear z7
                        refine hK.out _ _ (by go_split_ands <;> (try dsimp only) <;> go_simp) (fun hHeld12 => ?_)
                        clear hK K
                        (try simp only [List.getElem_toArray, List.getElem_cons_succ, List.getElem_cons_zero, Act.put, List.setIfInBounds_toArray, List.set_cons_zero, List.set_cons_succ])
                        refine wpAnyH_take (i := 12) (oi := _) (v := ?v13) rfl (by kernel_rfl) (by kernel_rfl) (by kernel_rfl) (fun _ _ _ h => h) (Or.inl ⟨by rfl, ?hy13⟩) (by assumption) ?rest13
                        case hy13 => (intro w hSw; (try dsimp only at hSw); go_simp; first | done | with_reducible rfl)
                        (try simp only [List.getElem_toArray, List.getElem_cons_succ, List.getElem_cons_zero, Act.put, List.setIfInBounds_toArray, List.set_cons_zero, List.set_cons_succ])
                        refine wpAnyH_ready (rs := [13]) (by kernel_rfl) (by simp) ?_
                        refine AllReadyH.cons (o := _) rfl (fun K hK => ?st14) ?mo14
                        case st14 =>
                          go_simp
                          refine hK.out _ _ (by go_split_ands <;> (try dsimp only) <;> go_simp) (fun hHeld14 => ?_)
                          clear hK K
                          (try simp only [List.getElem_toArray, List.getElem_cons_succ, List.getElem_cons_zero, Act.put, List.setIfInBounds_toArray, List.set_cons_zero, List.set_cons_succ])
                          refine wpAnyH_done (by kernel_rfl) ?_ _
                          go_wp2_with fail
                          go_meet
                          exact ⟨_, SP.rise H_hfin.out H_hx.out, H_hI.out.rise H_hx.out H_hpb'.out ⟨q3, q4⟩, rfl, (Vg.blk_put_other nb3).trans H_x7.out⟩
                        exact AllReadyH.nil
                      exact AllReadyH.nil
                    exact AllReadyH.nil
                  refine AllReadyH.cons (o := _) rfl (fun K hK => ?st15) ?mo15
                  case st15 =>
                    go_simp
                    refine hK.out _ _ (by go_split_ands <;> (try dsimp only) <;> go_simp) (fun hHeld15 => ?_)
                    clear hK K
                    (try simp only [List.getElem_toArray, List.getElem_cons_succ, List.getElem_cons_zero, Act.put, List.setIfInBounds_toArray, List.set_cons_zero, List.set_cons_succ])
                    refine wpAnyH_ready (rs := [7]) (by kernel_rfl) (by simp) ?_
                    refine AllReadyH.cons (o := _) rfl (fun K hK => ?st16) ?mo16
                    case st16 =>
                      go_simp
                      refine hK.out _ _ (by go_split_ands <;> (try dsimp only) <;> go_simp) (fun hHeld16 => ?_)
                      clear hK K
                      (try simp only [List.getElem_toArray, List.getElem_cons_succ, List.getElem_cons_zero, Act.put, List.setIfInBounds_toArray, List.set_cons_zero, List.set_cons_succ])
                      refine wpAnyH_ready (rs := [11]) (by kernel_rfl) (by simp) ?_
                      refine AllReadyH.cons (o := _) rfl (fun K hK => ?st17) ?mo17
                      case st17 =>
                        refine Vg.step_que1 rfl (.tmp 120) (.tmp 123) 31 rfl b 2 i0 (.int .i64 0) 1 8 Tryd.underlying31 hi hz0 hz1 hz2 rfl (by decide) (.slice ua m uc) m (Vg.ics x.w) (by simp [Act.eval, Act.put]) (H_hq3.out.grows (by (repeat' (first | (with_reducible exact Vg.Grows.refl _) | (with_reducible assumption) | (with_reducible refine Vg.Grows.alloc ?_ _) | (with_reducible refine Vg.Grows.plus ?_ _ _) | (with_reducible refine Vg.Grows.drewN ?_ _) | (with_reducible refine Vg.Grows.drew ?_) | (with_reducible refine Vg.Grows.setCell ?_ ?_ _) | (with_reducible refine Vg.Grows.put ?_ ?_ _) | omega | (simp; omega) | (simp; done))))) ⟨w3.heap.size, 0, none⟩ 1 [.int .i64 tp] (by simp [Act.eval, Act.put]) rfl (Vg.one_new (by first | rfl | ((try simp only [World.size_alloc, Vg.plus_size, Vg.put_size, World.size_setCell, World.size_drew, World.heap_drewN]) <;> omega))) (by simp [Value.oneCell']) (by unfold maxLen; omega) (by omega) (by decide) (by simp only [World.size_alloc, World.size_drew]; omega) ?_; intro v2 W1 y2' m2 hq2 hs2 ho2; obtain ⟨a2, c2, rfl⟩ := hq2.shape; have hT7 := ((Vg.Touch.of_grows (t := fun j => (Value.slice ua m uc).ownBlock = some j) (by (repeat' (first | (with_reducible exact Vg.Grows.refl _) | (with_reducible assumption) | (with_reducible refine Vg.Grows.alloc ?_ _) | (with_reducible refine Vg.Grows.plus ?_ _ _) | (with_reducible refine Vg.Grows.drewN ?_ _) | (with_reducible refine Vg.Grows.drew ?_) | (with_reducible refine Vg.Grows.setCell ?_ ?_ _) | (with_reducible refine Vg.Grows.put ?_ ?_ _) | omega | (simp; omega) | (simp; done))) : Vg.Grows w3 _)).trans (Vg.Touch.of_same hs2)).trans (Vg.Touch.of_grows ((Vg.Grows.refl _).plus y2' m2)); have e5 : (x.w ++ [tp]).length = m + 1 := (by rw [List.length_append, H_hm.out]; rfl); have e6 : Vg.ics (x.w ++ [tp]) = Vg.ics x.w ++ [.int .i64 tp] := (by simp [Vg.ics]); have hfin := SVx.want (v := .slice a2 (m + 1) c2) (L' := x.w ++ [tp]) (H_hsv3.out.grows (by (repeat' (first | (with_reducible exact Vg.Grows.refl _) | (with_reducible assumption) | (with_reducible refine Vg.Grows.alloc ?_ _) | (with_reducible refine Vg.Grows.plus ?_ _ _) | (with_reducible refine Vg.Grows.drewN ?_ _) | (with_reducible refine Vg.Grows.drew ?_) | (with_reducible refine Vg.Grows.setCell ?_ ?_ _) | (with_reducible refine Vg.Grows.put ?_ ?_ _) | omega | (simp; omega) | (simp; done))))) hw0 H_hu2.out H_hwx9.out (by rw [e5, e6]; exact hq2) hs2 ho2; have x7 := hT7.bk H_hbx3.out (fun hh => (H_hub.out bx hh).1 rfl); have z7 := hT7.bk H_y2.out (fun hh => (H_hub.out g2 hh).2 rfl); obtain ⟨W7, hW7⟩ : ∃ W7, Vg.plus W1 y2' m2 = W7 := ⟨_, rfl⟩; rw [hW7] at hfin x7 z7 hT7 ⊢; clear hW7 hs2 ho2 hq2 e5 e6; have l7 := hT7.size; clear c_hbx3 f_hbx3 p_hbx3 ce2 fe2; have p7 : W7.setCell ⟨g2, i, none⟩ (.slice a2 (m + 1) c2) = Vg.put W7 g2 (.cells (us.set i (.slice a2 (m + 1) c2)).toArray 31) := (by rw [Vg.setCell_of z7, List.setIfInBounds_toArray]); have c7 : W7.cell? ⟨g2, i, none⟩ = some (.slice ua m uc) := (by rw [Vg.cells_of z7]; simp [H_hu2.out]); have f7 := Vg.frozen_of z7; have l77 := Vg.lt_of z7; have c_x7 := Vg.cells_of x7; have f_x7 := Vg.frozen_of x7; have p_x7 := Vg.setCell_of x7; have l_x7 := Vg.lt_of x7; have H_x7 := Lib.hid x7; clear x7; have H_hfin := Lib.hid hfin; clear hfin; have H_hT7 := Lib.hid hT7; clear hT7; have H_z7 := Lib.hid z7; clear z7
                        refine hK.out _ _ (by go_split_ands <;> (try dsimp only) <;> go_simp) (fun hHeld17 => ?_)
                        clear hK K
                        (try simp only [List.getElem_toArray, List.getElem_cons_succ, List.getElem_cons_zero, Act.put, List.setIfInBounds_toArray, List.set_cons_zero, List.set_cons_succ])
                        refine wpAnyH_take (i := 12) (oi := _) (v := ?v18) rfl (by kernel_rfl) (by kernel_rfl) (by kernel_rfl) (fun _ _ _ h => h) (Or.inl ⟨by rfl, ?hy18⟩) (by assumption) ?rest18
                        case hy18 => (intro w hSw; (try dsimp only at hSw); go_simp; first | done | with_reducible rfl)
                        (try simp only [List.getElem_toArray, List.getElem_cons_succ, List.getElem_cons_zero, Act.put, List.setIfInBounds_toArray, List.set_cons_zero, List.set_cons_succ])
                        refine wpAnyH_ready (rs := [13]) (by kernel_rfl) (by simp) ?_
                        refine AllReadyH.cons (o := _) rfl (fun K hK => ?st19) ?mo19
                        case st19 =>
                          go_simp
                          refine hK.out _ _ (by go_split_ands <;> (try dsimp only) <;> go_simp) (fun hHeld19 => ?_)
                          clear hK K
                          (try simp only [List.getElem_toArray, List.getElem_cons_succ, List.getElem_cons_zero, Act.put, List.setIfInBounds_toArray, List.set_cons_zero, List.set_cons_succ])
                          refine wpAnyH_done (by kernel_rfl) ?_ _
                          go_wp2_with fail
                          go_meet
                          exact ⟨_, SP.rise H_hfin.out H_hx.out, H_hI.out.rise H_hx.out H_hpb'.out ⟨q3, q4⟩, rfl, (Vg.blk_put_other nb3).trans H_x7.out⟩
                        exact AllReadyH.nil
                      exact AllReadyH.nil
                    exact AllReadyH.nil
                  exact AllReadyH.nil
          case rest =>
            obtain ⟨P1, hsp1, hI1, hnow1, x3⟩ := hcut
            clear c_x2 f_x2 p_x2 H_x2 H_hspx H_hsp H_hI H_hwx
            rw [← hnow1] at hnow hn0
            have hks : ((k + 1 : Nat) : Int) = (k : Int) + 1 := by omega
            rw [← hnow1]
            clear hnow1
            have c_x3 := Vg.cells_of x3; have f_x3 := Vg.frozen_of x3; have p_x3 := Vg.setCell_of x3; have l_x3 := Vg.lt_of x3; have H_x3 := Lib.hid x3; clear x3
            have H_hsp1 := Lib.hid hsp1; clear hsp1; have H_hI1 := Lib.hid hI1; clear hI1; have H_hks := Lib.hid hks; clear hks
            go_upto_block 2 with fail
            go_cut [12, 15] (fun now left wz => ∃ (P' : Vg.Sp) (lf : Int), now = .int .i64 P'.now ∧ left = .int .i64 lf ∧ SP w wz b b nn g1 g2 g3 g4 g5 P' ∧ P'.I n (k + 1) ∧ 0 ≤ lf ∧ P'.now + lf ≤ 255 * ((k : Int) + 1))
            case first =>
              as_aux_lemma =>
                go_wp2_with fail
                go_loopw [12, 15, 129] (fun now left j wr => ∃ (P : Vg.Sp) (lf : Int) (jj : Nat), jj ≤ 200 ∧ now = .int .i64 P.now ∧ left = .int .i64 lf ∧ j = .int .i64 jj ∧ SP w wr b b nn g1 g2 g3 g4 g5 P ∧ P.I n (k + 1) ∧ 0 ≤ lf ∧ P.now + lf ≤ 255 * ((k : Int) + 1)) (fun _ _ j _ => 200 - (intOf j).toNat)
                case atStart => exact ⟨P1, gp, 0, by omega, rfl, rfl, rfl, H_hsp1.out, H_hI1.out, hgp.1, by omega⟩
                case round =>
                  obtain ⟨P, lf, jj, hjj, rfl, rfl, rfl, hsp, hI, hl0, hl1⟩ := hrel
                  clear H_hsp1 H_hI1 c_x3 f_x3 p_x3
                  have hn00 := hI.n0
                  obtain ⟨nw, hnw⟩ : ∃ nw, P.now = nw := ⟨_, rfl⟩
                  rw [hnw] at hl1 hn00 ⊢
                  by_cases hj2 : jj < 200
                  · have H_hsp := Lib.hid hsp; clear hsp; have H_hI := Lib.hid hI; clear hI; have H_hnw := Lib.hid hnw; clear hnw
                    go_upto_block 4 with ((go_at_call 8; (with_reducible refine (sp_unmask H_hsp.out H_hI.out hw0 (by rw [H_hnw.out]; omega) H_hnw.out).mono ?_); rintro e w2 ⟨v, P2, rfl, hsp2, hI2, hnw2⟩; have H_hsp2 := Lib.hid hsp2; clear hsp2; have H_hI2 := Lib.hid hI2; clear hI2; have H_hnw2 := Lib.hid hnw2; clear hnw2))
                    go_cut [] (fun wz => ∃ P' : Vg.Sp, SP w wz b b nn g1 g2 g3 g4 g5 P' ∧ P'.I n (k + 1) ∧ P'.now = nw)
                    case first =>
                      as_aux_lemma =>
                        go_wp2_with fail
                        go_loopw [142] (fun m wr => ∃ (P' : Vg.Sp) (mm : Nat), mm ≤ n + 1 ∧ m = .int .i64 mm ∧ SP w wr b b nn g1 g2 g3 g4 g5 P' ∧ P'.I n (k + 1) ∧ P'.now = nw) (fun m _ => n + 1 - (intOf m).toNat)
                        case atStart => exact ⟨P2, 0, by omega, rfl, H_hsp2.out, H_hI2.out, H_hnw2.out⟩
                        case round =>
                          obtain ⟨P3, mm, hmm, rfl, hsp3, hI3, hnw3⟩ := hrel
                          clear H_hsp2 H_hI2 H_hnw2
                          by_cases hm2 : mm < n + 1
                          · have H_hsp3 := Lib.hid hsp3; clear hsp3; have H_hI3 := Lib.hid hI3; clear hI3; have H_hnw3 := Lib.hid hnw3; clear hnw3
                            go_upto_if 152 with ((go_at_call 9; (with_reducible refine (sp_take' H_hsp3.out H_hI3.out hw0 (by rw [H_hnw3.out]; omega) (by omega) H_hnw3.out).mono ?_); rintro e w4 ⟨kk, er, is, rfl, ht1, ht2⟩; have H_ht1 := Lib.hid ht1; clear ht1; have H_ht2 := Lib.hid ht2; clear ht2))
                            cases is with
                            | false =>
                              obtain ⟨P4, hsp4, hI4, hnw4⟩ := H_ht1.out rfl
                              have H_hsp4 := Lib.hid hsp4; clear hsp4; have H_hI4 := Lib.hid hI4; clear hI4; have H_hnw4 := Lib.hid hnw4; clear hnw4
                              go_wp2_with fail
                              go_meet
                              exact ⟨P4, H_hsp4.out, H_hI4.out, H_hnw4.out⟩
                            | true =>
                              obtain ⟨i, rfl, hi, hg3l, hg3f, hg3c, P4, hsp4, hI4, hnw4⟩ := H_ht2.out rfl
                              obtain ⟨u3, hu3⟩ := Option.isSome_iff_exists.1 hg3c
                              clear hg3c
                              have hi0 : (0 : Int) ≤ i := by omega
                              have hi1 : (i : Int) < n := by omega
                              have H_hsp4 := Lib.hid hsp4; clear hsp4; have H_hI4 := Lib.hid hI4; clear hI4; have H_hnw4 := Lib.hid hnw4; clear hnw4
                              go_wp2_with fail
                              exact ⟨⟨P4, mm + 1, by omega, by go_num, H_hsp4.out, H_hI4.out, H_hnw4.out⟩, by simp [intOf]; omega⟩
                          · have hmn : mm = n + 1 := by omega
                            subst hmn
                            have H_hsp3 := Lib.hid hsp3; clear hsp3; have H_hI3 := Lib.hid hI3; clear hI3; have H_hnw3 := Lib.hid hnw3; clear hnw3
                            go_wp2_with fail
                            go_meet
                            exact ⟨P3, H_hsp3.out, H_hI3.out, H_hnw3.out⟩
                    case rest =>
                      obtain ⟨P3, hsp3, hI3, hnw3⟩ := hcut
                      clear H_hsp2 H_hI2 H_hnw2 H_hsp H_hI
                      obtain ⟨lfv, hlfv⟩ : ∃ lfv, P3.s.left = lfv := ⟨_, rfl⟩
                      obtain ⟨m, hm⟩ : ∃ m, min lf lfv = m := ⟨_, rfl⟩
                      have H_hsp3 := Lib.hid hsp3; clear hsp3; have H_hI3 := Lib.hid hI3; clear hI3; have H_hnw3 := Lib.hid hnw3; clear hnw3; have H_hlfv := Lib.hid hlfv; clear hlfv; have H_hm := Lib.hid hm; clear hm
                      go_upto_region 31 with fail
                      go_cut [21] (fun v21 wz => v21 = .int .i64 m ∧ wz = wc)
                      case first =>
                        as_aux_lemma =>
                          by_cases hle : lf ≤ lfv
                          · go_wp2_with ((go_at_call 10; (with_reducible refine (sp_left H_hsp3.out H_hlfv.out).mono ?_); rintro e w4 ⟨rfl, rfl⟩))
                            go_meet
                            exact ⟨by rw [← H_hm.out, Int.min_eq_left hle], rfl⟩
                          · go_wp2_with ((go_at_call 10; (with_reducible refine (sp_left H_hsp3.out H_hlfv.out).mono ?_); rintro e w4 ⟨rfl, rfl⟩))
                            go_meet
                            exact ⟨by rw [← H_hm.out, Int.min_eq_right (by omega)], rfl⟩
                      case rest =>
                        obtain ⟨rfl, rfl⟩ := hcut
                        by_cases hm0 : m = 0
                        · subst hm0
                          go_wp2_with fail
                          go_meet
                          exact ⟨P3, lf, by rw [H_hnw3.out], rfl, H_hsp3.out, H_hI3.out, hl0, by rw [H_hnw3.out]; exact hl1⟩
                        · have hmz : (m == 0) = false := by simp [hm0]
                          obtain ⟨L, z, hS⟩ : ∃ L z, P3.S = L ++ [z] := by
                            rcases List.eq_nil_or_concat P3.S with h0 | ⟨L, z, h0⟩
                            · refine absurd ?_ hm0
                              have h9 := H_hlfv.out
                              unfold Vg.Iq.left at h9
                              rw [show P3.s.S = P3.S from rfl, h0] at h9
                              have h8 := H_hm.out
                              simp at h9
                              omega
                            · exact ⟨L, z, by rw [h0, List.concat_eq_append]⟩
                          obtain ⟨z1, z2, x, hx⟩ := left_bd H_hI3.out hS
                          have hzl : z.left = lfv := by
                            have h9 := H_hlfv.out
                            unfold Vg.Iq.left at h9
                            rw [show P3.s.S = P3.S from rfl, hS, List.getLast?_append] at h9
                            exact h9
                          have hmm : m ≤ lf ∧ m ≤ lfv ∧ 0 < m := by have := H_hm.out; omega
                          obtain ⟨m1, m2, m3⟩ := hmm
                          have hw1 : IntKind.i64.wrap (nw + m) = nw + m := by rw [IntWalk.i64_in _ (by omega)]
                          have hw2 : IntKind.i64.wrap (lf - m) = lf - m := by rw [IntWalk.i64_in _ (by omega)]
                          by_cases hlt9 : m < lfv
                          · have hI5 := H_hI3.out.go hS m3 (by rw [hzl]; exact hlt9)
                            have H_hS := Lib.hid hS; clear hS; have H_hx := Lib.hid hx; clear hx; have H_hzl := Lib.hid hzl; clear hzl; have H_hI5 := Lib.hid hI5; clear hI5
                            go_wp2_with ((go_at_call 11; (with_reducible refine (sp_run H_hsp3.out H_hI3.out hw0 H_hS.out m3 (by rw [H_hzl.out]; exact hlt9)).mono ?_); rintro e w4 ⟨rfl, hsp5⟩; have H_hsp5 := Lib.hid hsp5; clear hsp5))
                            refine ⟨⟨_, lf - m, jj + 1, by omega, ?_, rfl, by go_num, H_hsp5.out.grows ((Vg.Grows.refl _).alloc _), H_hI5.out, by omega, ?_⟩, by simp [intOf]; omega⟩
                            · rw [← H_hnw3.out]
                            · show P3.now + m + (lf - m) ≤ _
                              rw [H_hnw3.out]; omega
                          · have hmeq : lfv = m := by omega
                            subst hmeq
                            obtain ⟨d1, ⟨e, he, hv0, hvl, hed⟩, hb0, hb1, st', hadd, hwst, hI5⟩ := H_hI3.out.done hS hx (by rw [H_hnw3.out, hzl]; omega) (by omega)
                            obtain ⟨rb1, rb2, rb3, rb4, rb5⟩ := H_hI3.out.rb hx
                            have hkn9 := H_hI3.out.kin z (by rw [hS]; simp)
                            rw [H_hnw3.out, hzl] at hed hadd hwst
                            rw [H_hnw3.out] at hb1
                            obtain ⟨zk, hzk⟩ : ∃ zk, z.k = zk := ⟨_, rfl⟩
                            obtain ⟨xb, hxb⟩ : ∃ xb, x.b = xb := ⟨_, rfl⟩
                            obtain ⟨vn, hvn⟩ : ∃ vn : Nat, x.v = vn := ⟨x.v.toNat, by omega⟩
                            rw [hzk] at hx hkn9
                            rw [hxb] at hed hadd hwst hb0 hb1
                            rw [hvn] at hv0 hvl he rb5
                            rw [Int.toNat_natCast] at he
                            have hrb9 := (Vg.map_get hx : (P3.X.map Vg.Lr.b)[zk]? = some x.b)
                            have hrv9 := (Vg.map_get hx : (P3.X.map Vg.Lr.v)[zk]? = some x.v)
                            have hrw9 := (Vg.map_get hx : (P3.X.map Vg.Lr.w)[zk]? = some x.w)
                            rw [hxb] at hrb9
                            have hzk0 : (0 : Int) ≤ zk := by omega
                            have hzk1 : (zk : Int) < n := by omega
                            have hw4 : IntKind.i64.wrap ((vn : Int) + 1) = (vn : Int) + 1 := by rw [IntWalk.i64_in _ (by omega)]
                            have hAdd : ∀ W, Calls Tryd.prog 12 #[.agg #[.int .i64 P3.st.j, .int .i64 P3.st.m, .int .i64 P3.st.w, .int .i64 P3.st.s, .int .i64 P3.st.l], .agg #[.int .i64 0, .int .i64 xb, .int .i64 xb, .int .i64 (nw + lfv), .int .i64 1099511627776]] W fun e w' => e = .returned (.tuple #[.agg #[.int .i64 st'.j, .int .i64 st'.m, .int .i64 st'.w, .int .i64 st'.s, .int .i64 st'.l], .int .i64 0]) ∧ Vg.Grows W w' := fun W => by
                              have h9 := stats_add P3.st ⟨0, xb, xb, nw + lfv, 1099511627776⟩ W
                              rw [hadd] at h9
                              exact h9
                            obtain ⟨wl, hwl⟩ : ∃ wl, x.w.length = wl := ⟨_, rfl⟩
                            rw [hwl] at rb4 hvl
                            have H_hS := Lib.hid hS; clear hS; have H_hx := Lib.hid hx; clear hx; have H_hzl := Lib.hid hzl; clear hzl; have H_hI5 := Lib.hid hI5; clear hI5; have H_hzk := Lib.hid hzk; clear hzk; have H_hxb := Lib.hid hxb; clear hxb; have H_hvn := Lib.hid hvn; clear hvn; have H_he := Lib.hid he; clear he; have H_hrb9 := Lib.hid hrb9; clear hrb9; have H_hrv9 := Lib.hid hrv9; clear hrv9; have H_hrw9 := Lib.hid hrw9; clear hrw9; have H_hAdd := Lib.hid hAdd; clear hAdd; have H_hadd := Lib.hid hadd; clear hadd; have H_hwl := Lib.hid hwl; clear hwl
                            go_upto_region 38 with ((go_at_call 11; (with_reducible refine (sp_run_done H_hsp3.out H_hI3.out hw0 H_hS.out H_hzl.out H_hzk.out rfl).mono ?_); rintro e w4 ⟨rfl, hsv5⟩; have H_hsv5 := Lib.hid hsv5; clear hsv5))
                            obtain ⟨bt, hbt⟩ : ∃ bt, w4.heap.size = bt := ⟨_, rfl⟩
                            obtain ⟨w5, hw5⟩ : ∃ w5, w4.alloc (.cells #[.int .i64 zk, .int .i64 z.bot] 43) = w5 := ⟨_, rfl⟩
                            have x5 : Vg.blk w5 bt = some (.cells #[.int .i64 zk, .int .i64 z.bot] 43) := by rw [← hw5, ← hbt]; exact Vg.alloc_heap_at rfl
                            have hsv6 := SV.grows H_hsv5.out (w' := w5) (by rw [← hw5]; exact (Vg.Grows.refl _).alloc _)
                            have hbt5 : g5 < bt := by have h9 := Vg.lt_of (SV.cell5 H_hsv5.out); omega
                            have hbt1 : g1 < bt ∧ g2 < bt ∧ g3 < bt ∧ g4 < bt := by have h8 := H_hgg.out; omega
                            simp only [hbt]
                            rw [hw5]
                            obtain ⟨e4, f4, l4⟩ := SV.cell4 hsv6 H_hrv9.out
                            rw [H_hvn.out] at e4
                            have c_x5 := Vg.cells_of x5; have f_x5 := Vg.frozen_of x5; have p_x5 := Vg.setCell_of x5; have l_x5 := Vg.lt_of x5; have H_x5 := Lib.hid x5; clear x5
                            have H_hsv6 := Lib.hid hsv6; clear hsv6; have H_hw5 := Lib.hid hw5; clear hw5; have H_hbt := Lib.hid hbt; clear hbt
                            go_upto_region 40 with fail
                            have hsv7 := SV.set4 H_hsv6.out hw0 zk ((vn : Int) + 1)
                            have x6 : Vg.blk (w5.setCell ⟨g4, zk, none⟩ (.int .i64 ((vn : Int) + 1))) bt = some (.cells #[.int .i64 zk, .int .i64 z.bot] 43) := (Vg.blk_setCell_other (by omega)).trans H_x5.out
                            obtain ⟨w6, hw6⟩ : ∃ w6, w5.setCell ⟨g4, zk, none⟩ (.int .i64 ((vn : Int) + 1)) = w6 := ⟨_, rfl⟩
                            rw [hw6] at hsv7 x6 ⊢
                            clear hw6 e4 f4 c_x5 f_x5 p_x5
                            obtain ⟨e3, f3, l3⟩ := SV.cell3 hsv7 H_hrb9.out
                            have y5 := SV.cell5 hsv7
                            have c_x6 := Vg.cells_of x6; have f_x6 := Vg.frozen_of x6; have p_x6 := Vg.setCell_of x6; have l_x6 := Vg.lt_of x6; have H_x6 := Lib.hid x6; clear x6; have c_y5 := Vg.cells_of y5; have f_y5 := Vg.frozen_of y5; have p_y5 := Vg.setCell_of y5; have l_y5 := Vg.lt_of y5; have H_y5 := Lib.hid y5; clear y5
                            have H_hsv7 := Lib.hid hsv7; clear hsv7
                            have hbtl := Vg.lt_of H_x6.out
                            go_cut [26, 27] (fun v26 v27 wz => ∃ bs : Nat, v26 = .pointer (some ⟨bs, 0, none⟩) ∧ v27 = .int .i64 0 ∧ SV w wz b b nn g1 g2 g3 g4 g5 ⟨P3.c.fin, P3.X.map Vg.Lr.y, L, P3.last⟩ (P3.X.map Vg.Lr.r) (P3.X.map Vg.Lr.w) (P3.X.map Vg.Lr.b) ((P3.X.map Vg.Lr.v).set zk ((vn : Int) + 1)) P3.st ∧ Vg.blk wz bs = some (statC st') ∧ Vg.blk wz bt = some (.cells #[.int .i64 zk, .int .i64 z.bot] 43) ∧ bt < bs)
                            case first =>
                              as_aux_lemma =>
                                refine wp_region_held_drew (S := fun w' => bt < w'.heap.size ∧ g5 < w'.heap.size ∧ g3 < w'.heap.size ∧ w'.cell? ⟨bt, 0, none⟩ = some (.int .i64 zk) ∧ w'.cell? ⟨g3, zk, none⟩ = some (.int .i64 xb) ∧ w'.cell? ⟨g5, 0, none⟩ = some (.int .i64 P3.st.j) ∧ w'.cell? ⟨g5, 1, none⟩ = some (.int .i64 P3.st.m) ∧ w'.cell? ⟨g5, 2, none⟩ = some (.int .i64 P3.st.w) ∧ w'.cell? ⟨g5, 3, none⟩ = some (.int .i64 P3.st.s) ∧ w'.cell? ⟨g5, 4, none⟩ = some (.int .i64 P3.st.l)) (by kernel_rfl) (by go_split_ands <;> (try dsimp only) <;> go_simp) (fun hHeld => ?_)
                                refine wpAnyH_take (i := 0) (oi := _) (v := ?v20) rfl (by kernel_rfl) (by kernel_rfl) (by kernel_rfl) (fun _ _ _ h => h) (Or.inl ⟨by rfl, ?hy20⟩) (by assumption) ?rest20
                                case hy20 => (intro w hSw; (try dsimp only at hSw); go_simp; first | done | with_reducible rfl)
                                (try simp only [List.getElem_toArray, List.getElem_cons_succ, List.getElem_cons_zero, Act.put, List.setIfInBounds_toArray, List.set_cons_zero, List.set_cons_succ])
                                refine wpAnyH_take (i := 1) (oi := _) (v := ?v21) rfl (by kernel_rfl) (by kernel_rfl) (by kernel_rfl) (fun _ _ _ h => h) (Or.inl ⟨by rfl, ?hy21⟩) (by assumption) ?rest21
                                case hy21 => (intro w hSw; (try dsimp only at hSw); go_simp; first | done | with_reducible rfl)
                                (try simp only [List.getElem_toArray, List.getElem_cons_succ, List.getElem_cons_zero, Act.put, List.setIfInBounds_toArray, List.set_cons_zero, List.set_cons_succ])
                                refine wpAnyH_take (i := 2) (oi := _) (v := ?v22) rfl (by kernel_rfl) (by kernel_rfl) (by kernel_rfl) (fun _ _ _ h => h) (Or.inl ⟨by rfl, ?hy22⟩) (by assumption) ?rest22
                                case hy22 => (intro w hSw; (try dsimp only at hSw); go_simp; first | done | with_reducible rfl)
                                (try simp only [List.getElem_toArray, List.getElem_cons_succ, List.getElem_cons_zero, Act.put, List.setIfInBounds_toArray, List.set_cons_zero, List.set_cons_succ])
                                refine wpAnyH_take (i := 3) (oi := _) (v := ?v23) rfl (by kernel_rfl) (by kernel_rfl) (by kernel_rfl) (fun _ _ _ h => h) (Or.inl ⟨by rfl, ?hy23⟩) (by assumption) ?rest23
                                case hy23 => (intro w hSw; (try dsimp only at hSw); go_simp; first | done | with_reducible rfl)
                                (try simp only [List.getElem_toArray, List.getElem_cons_succ, List.getElem_cons_zero, Act.put, List.setIfInBounds_toArray, List.set_cons_zero, List.set_cons_succ])
                                refine wpAnyH_take (i := 4) (oi := _) (v := ?v24) rfl (by kernel_rfl) (by kernel_rfl) (by kernel_rfl) (fun _ _ _ h => h) (Or.inl ⟨by rfl, ?hy24⟩) (by assumption) ?rest24
                                case hy24 => (intro w hSw; (try dsimp only at hSw); go_simp; first | done | with_reducible rfl)
                                (try simp only [List.getElem_toArray, List.getElem_cons_succ, List.getElem_cons_zero, Act.put, List.setIfInBounds_toArray, List.set_cons_zero, List.set_cons_succ])
                                refine wpAnyH_take (i := 5) (oi := _) (v := ?v25) rfl (by kernel_rfl) (by kernel_rfl) (by kernel_rfl) (fun _ _ _ h => h) (Or.inl ⟨by rfl, ?hy25⟩) (by assumption) ?rest25
                                case hy25 => (intro w hSw; (try dsimp only at hSw); go_simp; first | done | with_reducible rfl)
                                (try simp only [List.getElem_toArray, List.getElem_cons_succ, List.getElem_cons_zero, Act.put, List.setIfInBounds_toArray, List.set_cons_zero, List.set_cons_succ])
                                refine wpAnyH_take (i := 6) (oi := _) (v := ?v26) rfl (by kernel_rfl) (by kernel_rfl) (by kernel_rfl) (fun _ _ _ h => h) (Or.inl ⟨by rfl, ?hy26⟩) (by assumption) ?rest26
                                case hy26 => (intro w hSw; (try dsimp only at hSw); go_simp; first | done | with_reducible rfl)
                                (try simp only [List.getElem_toArray, List.getElem_cons_succ, List.getElem_cons_zero, Act.put, List.setIfInBounds_toArray, List.set_cons_zero, List.set_cons_succ])
                                refine wpAnyH_take (i := 7) (oi := _) (v := ?v27) rfl (by kernel_rfl) (by kernel_rfl) (by kernel_rfl) (fun _ _ _ h => h) (Or.inl ⟨by rfl, ?hy27⟩) (by assumption) ?rest27
                                case hy27 => (intro w hSw; (try dsimp only at hSw); go_simp; first | done | with_reducible rfl)
                                (try simp only [List.getElem_toArray, List.getElem_cons_succ, List.getElem_cons_zero, Act.put, List.setIfInBounds_toArray, List.set_cons_zero, List.set_cons_succ])
                                refine wpAnyH_take (i := 8) (oi := _) (v := ?v28) rfl (by kernel_rfl) (by kernel_rfl) (by kernel_rfl) (fun _ _ _ h => h) (Or.inl ⟨by rfl, ?hy28⟩) (by assumption) ?rest28
                                case hy28 => (intro w hSw; (try dsimp only at hSw); go_simp; first | done | with_reducible rfl)
                                (try simp only [List.getElem_toArray, List.getElem_cons_succ, List.getElem_cons_zero, Act.put, List.setIfInBounds_toArray, List.set_cons_zero, List.set_cons_succ])
                                refine wpAnyH_take (i := 9) (oi := _) (v := ?v29) rfl (by kernel_rfl) (by kernel_rfl) (by kernel_rfl) (fun _ _ _ h => h) (Or.inl ⟨by rfl, ?hy29⟩) (by assumption) ?rest29
                                case hy29 => (intro w hSw; (try dsimp only at hSw); go_simp; first | done | with_reducible rfl)
                                (try simp only [List.getElem_toArray, List.getElem_cons_succ, List.getElem_cons_zero, Act.put, List.setIfInBounds_toArray, List.set_cons_zero, List.set_cons_succ])
                                refine wpAnyH_take (i := 10) (oi := _) (v := ?v30) rfl (by kernel_rfl) (by kernel_rfl) (by kernel_rfl) (fun _ _ _ h => h) (Or.inl ⟨by rfl, ?hy30⟩) (by assumption) ?rest30
                                case hy30 => (intro w hSw; (try dsimp only at hSw); go_simp; first | done | with_reducible rfl)
                                (try simp only [List.getElem_toArray, List.getElem_cons_succ, List.getElem_cons_zero, Act.put, List.setIfInBounds_toArray, List.set_cons_zero, List.set_cons_succ])
                                refine wpAnyH_take (i := 11) (oi := _) (v := ?v31) rfl (by kernel_rfl) (by kernel_rfl) (by kernel_rfl) (fun _ _ _ h => h) (Or.inl ⟨by rfl, ?hy31⟩) (by assumption) ?rest31
                                case hy31 => (intro w hSw; (try dsimp only at hSw); go_simp; first | done | with_reducible rfl)
                                (try simp only [List.getElem_toArray, List.getElem_cons_succ, List.getElem_cons_zero, Act.put, List.setIfInBounds_toArray, List.set_cons_zero, List.set_cons_succ])
                                refine wpAnyH_take (i := 12) (oi := _) (v := ?v32) rfl (by kernel_rfl) (by kernel_rfl) (by kernel_rfl) (fun _ _ _ h => h) (Or.inl ⟨by rfl, ?hy32⟩) (by assumption) ?rest32
                                case hy32 => (intro w hSw; (try dsimp only at hSw); go_simp; first | done | with_reducible rfl)
                                (try simp only [List.getElem_toArray, List.getElem_cons_succ, List.getElem_cons_zero, Act.put, List.setIfInBounds_toArray, List.set_cons_zero, List.set_cons_succ])
                                refine wpAnyH_ready (rs := [13, 17]) (by kernel_rfl) (by simp) ?_
                                refine AllReadyH.cons (o := _) rfl (fun K hK => ?st33) ?mo33
                                case st33 =>
                                  go_simp
                                  ((go_at_call 12; (with_reducible refine (H_hAdd.out _).mono ?_); rintro e w7 ⟨rfl, x7, n7, rfl⟩))
                                  all_goals (try go_wp2_with fail)
                                  refine hK.out _ _ (by go_split_ands <;> (try dsimp only) <;> go_simp) (fun hHeld33 => ?_)
                                  clear hK K
                                  (try simp only [List.getElem_toArray, List.getElem_cons_succ, List.getElem_cons_zero, Act.put, List.setIfInBounds_toArray, List.set_cons_zero, List.set_cons_succ])
                                  refine wpAnyH_take (i := 14) (oi := _) (v := ?v34) rfl (by kernel_rfl) (by kernel_rfl) (by kernel_rfl) (fun _ _ _ h => h) (Or.inl ⟨by rfl, ?hy34⟩) (by assumption) ?rest34
                                  case hy34 => (intro w hSw; (try dsimp only at hSw); go_simp; first | done | with_reducible rfl)
                                  (try simp only [List.getElem_toArray, List.getElem_cons_succ, List.getElem_cons_zero, Act.put, List.setIfInBounds_toArray, List.set_cons_zero, List.set_cons_succ])
                                  refine wpAnyH_take (i := 15) (oi := _) (v := ?v35) rfl (by kernel_rfl) (by kernel_rfl) (by kernel_rfl) (fun _ _ _ h => h) (Or.inl ⟨by rfl, ?hy35⟩) (by assumption) ?rest35
                                  case hy35 => (intro w hSw; (try dsimp only at hSw); go_simp; first | done | with_reducible rfl)
                                  (try simp only [List.getElem_toArray, List.getElem_cons_succ, List.getElem_cons_zero, Act.put, List.setIfInBounds_toArray, List.set_cons_zero, List.set_cons_succ])
                                  refine wpAnyH_take (i := 16) (oi := _) (v := ?v36) rfl (by kernel_rfl) (by kernel_rfl) (by kernel_rfl) (fun _ _ _ h => h) (Or.inl ⟨by rfl, ?hy36⟩) (by assumption) ?rest36
                                  case hy36 => (intro w hSw; (try dsimp only at hSw); go_simp; first | done | with_reducible rfl)
                                  (try simp only [List.getElem_toArray, List.getElem_cons_succ, List.getElem_cons_zero, Act.put, List.setIfInBounds_toArray, List.set_cons_zero, List.set_cons_succ])
                                  refine wpAnyH_ready (rs := [17]) (by kernel_rfl) (by simp) ?_
                                  refine AllReadyH.cons (o := _) rfl (fun K hK => ?st37) ?mo37
                                  case st37 =>
                                    go_simp
                                    refine hK.out _ _ (by go_split_ands <;> (try dsimp only) <;> go_simp) (fun hHeld37 => ?_)
                                    clear hK K
                                    (try simp only [List.getElem_toArray, List.getElem_cons_succ, List.getElem_cons_zero, Act.put, List.setIfInBounds_toArray, List.set_cons_zero, List.set_cons_succ])
                                    refine wpAnyH_ready (rs := [18]) (by kernel_rfl) (by simp) ?_
                                    refine AllReadyH.cons (o := _) rfl (fun K hK => ?st38) ?mo38
                                    case st38 =>
                                      go_simp
                                      refine hK.out _ _ (by go_split_ands <;> (try dsimp only) <;> go_simp) (fun hHeld38 => ?_)
                                      clear hK K
                                      (try simp only [List.getElem_toArray, List.getElem_cons_succ, List.getElem_cons_zero, Act.put, List.setIfInBounds_toArray, List.set_cons_zero, List.set_cons_succ])
                                      refine wpAnyH_take (i := 19) (oi := _) (v := ?v39) rfl (by kernel_rfl) (by kernel_rfl) (by kernel_rfl) (fun _ _ _ h => h) (Or.inl ⟨by rfl, ?hy39⟩) (by assumption) ?rest39
                                      case hy39 => (intro w hSw; (try dsimp only at hSw); go_simp; first | done | with_reducible rfl)
                                      (try simp only [List.getElem_toArray, List.getElem_cons_succ, List.getElem_cons_zero, Act.put, List.setIfInBounds_toArray, List.set_cons_zero, List.set_cons_succ])
                                      refine wpAnyH_done (by kernel_rfl) ?_ _
                                      go_wp2_with fail
                                      go_meet
                                      refine ⟨_, rfl, rfl, SV.grows H_hsv7.out (by (repeat' (first | (with_reducible exact Vg.Grows.refl _) | (with_reducible assumption) | (with_reducible refine Vg.Grows.alloc ?_ _) | (with_reducible refine Vg.Grows.plus ?_ _ _) | (with_reducible refine Vg.Grows.drewN ?_ _) | (with_reducible refine Vg.Grows.drew ?_) | (with_reducible refine Vg.Grows.setCell ?_ ?_ _) | (with_reducible refine Vg.Grows.put ?_ ?_ _) | omega | (simp; omega) | (simp; done)))), by simp [go_sem], Vg.Grows.blk (w0 := w6) (by (repeat' (first | (with_reducible exact Vg.Grows.refl _) | (with_reducible assumption) | (with_reducible refine Vg.Grows.alloc ?_ _) | (with_reducible refine Vg.Grows.plus ?_ _ _) | (with_reducible refine Vg.Grows.drewN ?_ _) | (with_reducible refine Vg.Grows.drew ?_) | (with_reducible refine Vg.Grows.setCell ?_ ?_ _) | (with_reducible refine Vg.Grows.put ?_ ?_ _) | omega | (simp; omega) | (simp; done)))) H_x6.out, by (try simp); omega⟩
                                    exact AllReadyH.nil
                                  exact AllReadyH.nil
                                refine AllReadyH.cons (o := _) rfl (fun K hK => ?st40) ?mo40
                                case st40 =>
                                  go_simp
                                  refine hK.out _ _ (by go_split_ands <;> (try dsimp only) <;> go_simp) (fun hHeld40 => ?_)
                                  clear hK K
                                  (try simp only [List.getElem_toArray, List.getElem_cons_succ, List.getElem_cons_zero, Act.put, List.setIfInBounds_toArray, List.set_cons_zero, List.set_cons_succ])
                                  refine wpAnyH_ready (rs := [13]) (by kernel_rfl) (by simp) ?_
                                  refine AllReadyH.cons (o := _) rfl (fun K hK => ?st41) ?mo41
                                  case st41 =>
                                    go_simp
                                    ((go_at_call 12; (with_reducible refine (H_hAdd.out _).mono ?_); rintro e w7 ⟨rfl, x7, n7, rfl⟩))
                                    all_goals (try go_wp2_with fail)
                                    refine hK.out _ _ (by go_split_ands <;> (try dsimp only) <;> go_simp) (fun hHeld41 => ?_)
                                    clear hK K
                                    (try simp only [List.getElem_toArray, List.getElem_cons_succ, List.getElem_cons_zero, Act.put, List.setIfInBounds_toArray, List.set_cons_zero, List.set_cons_succ])
                                    refine wpAnyH_take (i := 14) (oi := _) (v := ?v42) rfl (by kernel_rfl) (by kernel_rfl) (by kernel_rfl) (fun _ _ _ h => h) (Or.inl ⟨by rfl, ?hy42⟩) (by assumption) ?rest42
                                    case hy42 => (intro w hSw; (try dsimp only at hSw); go_simp; first | done | with_reducible rfl)
                                    (try simp only [List.getElem_toArray, List.getElem_cons_succ, List.getElem_cons_zero, Act.put, List.setIfInBounds_toArray, List.set_cons_zero, List.set_cons_succ])
                                    refine wpAnyH_take (i := 15) (oi := _) (v := ?v43) rfl (by kernel_rfl) (by kernel_rfl) (by kernel_rfl) (fun _ _ _ h => h) (Or.inl ⟨by rfl, ?hy43⟩) (by assumption) ?rest43
                                    case hy43 => (intro w hSw; (try dsimp only at hSw); go_simp; first | done | with_reducible rfl)
                                    (try simp only [List.getElem_toArray, List.getElem_cons_succ, List.getElem_cons_zero, Act.put, List.setIfInBounds_toArray, List.set_cons_zero, List.set_cons_succ])
                                    refine wpAnyH_take (i := 16) (oi := _) (v := ?v44) rfl (by kernel_rfl) (by kernel_rfl) (by kernel_rfl) (fun _ _ _ h => h) (Or.inl ⟨by rfl, ?hy44⟩) (by assumption) ?rest44
                                    case hy44 => (intro w hSw; (try dsimp only at hSw); go_simp; first | done | with_reducible rfl)
                                    (try simp only [List.getElem_toArray, List.getElem_cons_succ, List.getElem_cons_zero, Act.put, List.setIfInBounds_toArray, List.set_cons_zero, List.set_cons_succ])
                                    refine wpAnyH_ready (rs := [18]) (by kernel_rfl) (by simp) ?_
                                    refine AllReadyH.cons (o := _) rfl (fun K hK => ?st45) ?mo45
                                    case st45 =>
                                      go_simp
                                      refine hK.out _ _ (by go_split_ands <;> (try dsimp only) <;> go_simp) (fun hHeld45 => ?_)
                                      clear hK K
                                      (try simp only [List.getElem_toArray, List.getElem_cons_succ, List.getElem_cons_zero, Act.put, List.setIfInBounds_toArray, List.set_cons_zero, List.set_cons_succ])
                                      refine wpAnyH_take (i := 19) (oi := _) (v := ?v46) rfl (by kernel_rfl) (by kernel_rfl) (by kernel_rfl) (fun _ _ _ h => h) (Or.inl ⟨by rfl, ?hy46⟩) (by assumption) ?rest46
                                      case hy46 => (intro w hSw; (try dsimp only at hSw); go_simp; first | done | with_reducible rfl)
                                      (try simp only [List.getElem_toArray, List.getElem_cons_succ, List.getElem_cons_zero, Act.put, List.setIfInBounds_toArray, List.set_cons_zero, List.set_cons_succ])
                                      refine wpAnyH_done (by kernel_rfl) ?_ _
                                      go_wp2_with fail
                                      go_meet
                                      refine ⟨_, rfl, rfl, SV.grows H_hsv7.out (by (repeat' (first | (with_reducible exact Vg.Grows.refl _) | (with_reducible assumption) | (with_reducible refine Vg.Grows.alloc ?_ _) | (with_reducible refine Vg.Grows.plus ?_ _ _) | (with_reducible refine Vg.Grows.drewN ?_ _) | (with_reducible refine Vg.Grows.drew ?_) | (with_reducible refine Vg.Grows.setCell ?_ ?_ _) | (with_reducible refine Vg.Grows.put ?_ ?_ _) | omega | (simp; omega) | (simp; done)))), by simp [go_sem], Vg.Grows.blk (w0 := w6) (by (repeat' (first | (with_reducible exact Vg.Grows.refl _) | (with_reducible assumption) | (with_reducible refine Vg.Grows.alloc ?_ _) | (with_reducible refine Vg.Grows.plus ?_ _ _) | (with_reducible refine Vg.Grows.drewN ?_ _) | (with_reducible refine Vg.Grows.drew ?_) | (with_reducible refine Vg.Grows.setCell ?_ ?_ _) | (with_reducible refine Vg.Grows.put ?_ ?_ _) | omega | (simp; omega) | (simp; done)))) H_x6.out, by (try simp); omega⟩
                                    exact AllReadyH.nil
                                  exact AllReadyH.nil
                                exact AllReadyH.nil
                            case rest =>
                              obtain ⟨bs, rfl, rfl, hsv8, x8, x9, hbs⟩ := hcut
                              clear c_x6 f_x6 p_x6 c_y5 f_y5 p_y5 e3 f3 H_x6 H_y5 H_hsv7 H_hsv6 H_hsv5 H_hw5
                              obtain ⟨e3, f3, l3'⟩ := SV.cell3 hsv8 H_hrb9.out
                              obtain ⟨ua, uc, cu, lu, hu1, hu2, hue⟩ := SV.cell2 hsv8 H_hrw9.out
                              obtain ⟨gu, ou, rfl, hgu, cue⟩ := hue vn e H_he.out
                              rw [H_hwl.out] at cu hu1
                              clear hue
                              have q1 : decide ((wl : Int) ≤ vn) = false := decide_eq_false (by omega)
                              have q1n : decide (wl ≤ vn) = false := decide_eq_false (by omega)
                              have q2 : decide (nw + lfv - xb < e) = false := decide_eq_false (by omega)
                              have q3 : decide (st'.w < nw + lfv - xb) = false := decide_eq_false (by omega)
                              have hw5 : IntKind.i64.wrap (nw + lfv - xb) = nw + lfv - xb := by rw [IntWalk.i64_in _ (by omega)]
                              have hvn0 : (0 : Int) ≤ vn := by omega
                              have hvn1 : (vn : Int) < wl := by omega
                              have c_x8 := Vg.cells_of x8; have f_x8 := Vg.frozen_of x8; have p_x8 := Vg.setCell_of x8; have l_x8 := Vg.lt_of x8; have H_x8 := Lib.hid x8; clear x8; have c_x9 := Vg.cells_of x9; have f_x9 := Vg.frozen_of x9; have p_x9 := Vg.setCell_of x9; have l_x9 := Vg.lt_of x9; have H_x9 := Lib.hid x9; clear x9
                              have H_hsv8 := Lib.hid hsv8; clear hsv8
                              go_upto_region 41 with fail
                              go_cut [251] (fun v251 wz => v251 = .bool false ∧ Vg.Grows wc wz)
                              case first =>
                                as_aux_lemma =>
                                  go_quiet (fail)
                                  all_goals go_wp2_with fail
                                  all_goals go_meet
                                  all_goals exact ⟨by simp [q1, q2, q3], by (repeat' (first | (with_reducible exact Vg.Grows.refl _) | (with_reducible assumption) | (with_reducible refine Vg.Grows.alloc ?_ _) | (with_reducible refine Vg.Grows.plus ?_ _ _) | (with_reducible refine Vg.Grows.drewN ?_ _) | (with_reducible refine Vg.Grows.drew ?_) | (with_reducible refine Vg.Grows.setCell ?_ ?_ _) | (with_reducible refine Vg.Grows.put ?_ ?_ _) | omega | (simp; omega) | (simp; done)))⟩
                              case rest =>
                                obtain ⟨rfl, hg9⟩ := hcut
                                have x18 := hg9.blk H_x8.out
                                have hsv9 := SV.grows H_hsv8.out hg9
                                have y9 := SV.cell5 hsv9
                                clear c_x8 f_x8 p_x8 c_x9 f_x9 p_x9 e3 f3 cu cue
                                have n85 : bs ≠ g5 := by omega
                                have n58 : g5 ≠ bs := by omega
                                have c_x18 := Vg.cells_of x18; have f_x18 := Vg.frozen_of x18; have p_x18 := Vg.setCell_of x18; have l_x18 := Vg.lt_of x18; have H_x18 := Lib.hid x18; clear x18; have c_y9 := Vg.cells_of y9; have f_y9 := Vg.frozen_of y9; have p_y9 := Vg.setCell_of y9; have l_y9 := Vg.lt_of y9; have H_y9 := Lib.hid y9; clear y9
                                have H_hsv9 := Lib.hid hsv9; clear hsv9
                                go_wp2_with fail
                                have hs10 := SV.set5 H_hsv9.out hw0 st'
                                rw [← H_hvn.out] at hs10
                                have hs11 := SP.fin (t := nw + lfv) hs10 H_hx.out
                                have hI6 := H_hI5.out
                                rw [H_hnw3.out, H_hzl.out, H_hzk.out] at hI6
                                exact ⟨⟨_, lf - lfv, jj + 1, by omega, rfl, rfl, by go_num, hs11, hI6, by omega, by show nw + lfv + (lf - lfv) ≤ _; omega⟩, by simp [intOf]; omega⟩
                  · have hj200 : jj = 200 := by omega
                    subst hj200
                    have H_hsp := Lib.hid hsp; clear hsp; have H_hI := Lib.hid hI; clear hI; have H_hnw := Lib.hid hnw; clear hnw
                    go_wp2_with fail
                    go_meet
                    exact ⟨P, lf, by rw [H_hnw.out], rfl, H_hsp.out, H_hI.out, hl0, by rw [H_hnw.out]; exact hl1⟩
            case rest =>
              obtain ⟨P2, lf, rfl, rfl, hsp2, hI2, hl0, hl1⟩ := hcut
              clear H_hsp1 H_hI1 c_x3 f_x3 p_x3 H_x3
              have hn2 := hI2.n0
              have hI3 := hI2.wait hl0
              have hw6 : IntKind.i64.wrap (P2.now + lf) = P2.now + lf := by rw [IntWalk.i64_in _ (by omega)]
              have H_hsp2 := Lib.hid hsp2; clear hsp2; have H_hI2 := Lib.hid hI2; clear hI2; have H_hI3 := Lib.hid hI3; clear hI3
              go_wp2_with fail
              exact ⟨⟨k + 1, { P2 with now := P2.now + lf }, by omega, rfl, by go_num, H_hsp2.out, H_hI3.out, by show P2.now + lf ≤ _; rw [H_hks.out]; exact hl1⟩, by simp [intOf]; omega⟩
      · have hkn : k = len := by omega
        subst hkn
        clear RH
        have H_hsp := Lib.hid hsp; clear hsp; have H_hI := Lib.hid hI; clear hI
        go_wp2_with fail
        go_loopw [28, 260] (fun al i wr => ∃ (ii : Nat) (sm : Int), ii ≤ n ∧ i = .int .i64 ii ∧ al = .int .i64 sm ∧ sm = Vg.isum ((P.X.map Vg.Lr.v).take ii) ∧ 0 ≤ sm ∧ sm ≤ 50 * ii ∧ SP w wr b b nn g1 g2 g3 g4 g5 P) (fun _ i _ => n - (intOf i).toNat)
        case atStart => exact ⟨0, 0, by omega, rfl, rfl, rfl, by omega, by omega, H_hsp.out⟩
        case round =>
          obtain ⟨ii, sm, hii, rfl, rfl, hsm, hsm0, hsm1, hsp⟩ := hrel
          clear H_hsp
          by_cases hin : ii < n
          · obtain ⟨x, hx⟩ := H_hI.out.at hin
            obtain ⟨fb1, fb2, fb3, fb4, fb5⟩ := H_hI.out.fin hx
            obtain ⟨rb1, rb2, rb3, rb4, rb5⟩ := H_hI.out.rb hx
            have hxr := (Vg.map_get hx : (P.X.map Vg.Lr.r)[ii]? = some x.r)
            have hxv := (Vg.map_get hx : (P.X.map Vg.Lr.v)[ii]? = some x.v)
            have hxw := (Vg.map_get hx : (P.X.map Vg.Lr.w)[ii]? = some x.w)
            have hts := Vg.isum_take _ ii _ hxv
            obtain ⟨sv9, hsv9⟩ : ∃ v, x.y.srv = v := ⟨_, rfl⟩
            obtain ⟨lo9, hlo9⟩ : ∃ v, x.y.lost = v := ⟨_, rfl⟩
            obtain ⟨xv, hxv9⟩ : ∃ v, x.v = v := ⟨_, rfl⟩
            obtain ⟨xr, hxr9⟩ : ∃ v, x.r = v := ⟨_, rfl⟩
            obtain ⟨wl, hwl⟩ : ∃ v, x.w.length = v := ⟨_, rfl⟩
            rw [hsv9, hxv9] at fb1 fb2
            rw [hsv9, hwl] at fb3 fb4
            rw [hwl, hlo9, hxr9] at fb5
            rw [hsv9] at rb3
            rw [hlo9] at rb2
            rw [hwl] at rb4
            rw [hxv9] at rb5 hxv hts
            rw [hxr9] at hxr rb1
            obtain ⟨e4, f4, l4⟩ := SV.cell4 hsp hxv
            obtain ⟨e1, f1, l1⟩ := SV.cell1 hsp hxr
            obtain ⟨ua, uc, cu, lu, hu1, hu2, -⟩ := SV.cell2 hsp hxw
            rw [hwl] at cu hu1
            have hii0 : (0 : Int) ≤ ii := by omega
            have hii1 : (ii : Int) < n := by omega
            have ha1 : IntKind.i64.wrap (sv9 - xv) = sv9 - xv := by rw [IntWalk.i64_in _ (by omega)]
            have ha2 : IntKind.i64.wrap ((wl : Int) - sv9) = (wl : Int) - sv9 := by rw [IntWalk.i64_in _ (by omega)]
            have ha3 : IntKind.i64.wrap ((wl : Int) + lo9) = xr := by rw [IntWalk.i64_in _ (by omega)]; omega
            have ha4 : IntKind.i64.wrap (sm + xv) = sm + xv := by rw [IntWalk.i64_in _ (by omega)]
            have hsmn : sm + xv = Vg.isum ((P.X.map Vg.Lr.v).take (ii + 1)) := by rw [hts, ← hsm]
            have u1 : decide (sv9 - xv < 0) = false := decide_eq_false (by omega)
            have u2 : decide (1 < sv9 - xv) = false := decide_eq_false (by omega)
            have u3 : decide ((wl : Int) - sv9 < 0) = false := decide_eq_false (by omega)
            have u4 : decide (1 < (wl : Int) - sv9) = false := decide_eq_false (by omega)
            have u5 : (xr != xr) = false := by simp
            clear hts hsm
            have H_hsp := Lib.hid hsp; clear hsp; have H_hx := Lib.hid hx; clear hx; have H_hxr := Lib.hid hxr; clear hxr; have H_hxv := Lib.hid hxv; clear hxv; have H_hxw := Lib.hid hxw; clear hxw; have H_hsv9 := Lib.hid hsv9; clear hsv9; have H_hlo9 := Lib.hid hlo9; clear hlo9; have H_hxv9 := Lib.hid hxv9; clear hxv9; have H_hxr9 := Lib.hid hxr9; clear hxr9; have H_hwl := Lib.hid hwl; clear hwl; have H_hsmn := Lib.hid hsmn; clear hsmn; have H_fb5 := Lib.hid fb5; clear fb5
            go_upto_region 51 with fail
            go_cut [30] (fun v30 wz => v30 = .int .i64 (sv9 - xv) ∧ Vg.Grows wr wz)
            case first =>
              as_aux_lemma =>
                go_quiet ((go_at_call 13; refine (sp_served (H_hsp.out.grows (by (repeat' (first | (with_reducible exact Vg.Grows.refl _) | (with_reducible assumption) | (with_reducible refine Vg.Grows.alloc ?_ _) | (with_reducible refine Vg.Grows.plus ?_ _ _) | (with_reducible refine Vg.Grows.drewN ?_ _) | (with_reducible refine Vg.Grows.drew ?_) | (with_reducible refine Vg.Grows.setCell ?_ ?_ _) | (with_reducible refine Vg.Grows.put ?_ ?_ _) | omega | (simp; omega) | (simp; done))))) H_hx.out).mono ?_; rintro e w1 ⟨rfl, rfl⟩; rw [H_hsv9.out]; exact ⟨rfl, _, rfl⟩))
                all_goals go_wp2_with fail
                all_goals go_meet
                all_goals exact ⟨by simp [ha1], by (repeat' (first | (with_reducible exact Vg.Grows.refl _) | (with_reducible assumption) | (with_reducible refine Vg.Grows.alloc ?_ _) | (with_reducible refine Vg.Grows.plus ?_ _ _) | (with_reducible refine Vg.Grows.drewN ?_ _) | (with_reducible refine Vg.Grows.drew ?_) | (with_reducible refine Vg.Grows.setCell ?_ ?_ _) | (with_reducible refine Vg.Grows.put ?_ ?_ _) | omega | (simp; omega) | (simp; done)))⟩
            case rest =>
              obtain ⟨rfl, hgA⟩ := hcut
              have hspA := H_hsp.out.grows hgA
              clear e4 f4 e1 f1 cu
              obtain ⟨ua, uc, cu, luA, hu1, hu2, -⟩ := SV.cell2 hspA H_hxw.out
              rw [H_hwl.out] at cu hu1
              clear H_hsp
              have H_hspA := Lib.hid hspA; clear hspA
              go_upto_region 52 with fail
              go_cut [31] (fun v31 wz => v31 = .int .i64 ((wl : Int) - sv9) ∧ Vg.Grows wc wz)
              case first =>
                as_aux_lemma =>
                  go_quiet ((go_at_call 13; refine (sp_served (H_hspA.out.grows (by (repeat' (first | (with_reducible exact Vg.Grows.refl _) | (with_reducible assumption) | (with_reducible refine Vg.Grows.alloc ?_ _) | (with_reducible refine Vg.Grows.plus ?_ _ _) | (with_reducible refine Vg.Grows.drewN ?_ _) | (with_reducible refine Vg.Grows.drew ?_) | (with_reducible refine Vg.Grows.setCell ?_ ?_ _) | (with_reducible refine Vg.Grows.put ?_ ?_ _) | omega | (simp; omega) | (simp; done))))) H_hx.out).mono ?_; rintro e w1 ⟨rfl, rfl⟩; rw [H_hsv9.out]; exact ⟨rfl, _, rfl⟩))
                  all_goals go_wp2_with fail
                  all_goals go_meet
                  all_goals exact ⟨by simp [ha2], by (repeat' (first | (with_reducible exact Vg.Grows.refl _) | (with_reducible assumption) | (with_reducible refine Vg.Grows.alloc ?_ _) | (with_reducible refine Vg.Grows.plus ?_ _ _) | (with_reducible refine Vg.Grows.drewN ?_ _) | (with_reducible refine Vg.Grows.drew ?_) | (with_reducible refine Vg.Grows.setCell ?_ ?_ _) | (with_reducible refine Vg.Grows.put ?_ ?_ _) | omega | (simp; omega) | (simp; done)))⟩
              case rest =>
                obtain ⟨rfl, hgB⟩ := hcut
                have hspB := H_hspA.out.grows hgB
                clear cu
                obtain ⟨ua, uc, cu, luB, hu1, hu2, -⟩ := SV.cell2 hspB H_hxw.out
                rw [H_hwl.out] at cu hu1
                obtain ⟨e1, f1, l1B⟩ := SV.cell1 hspB H_hxr.out
                clear H_hspA
                have H_hspB := Lib.hid hspB; clear hspB
                go_upto_region 53 with fail
                go_cut [309] (fun v309 wz => v309 = .bool false ∧ Vg.Grows wc wz)
                case first =>
                  as_aux_lemma =>
                    go_quiet ((go_at_call 14; refine (sp_lost (H_hspB.out.grows (by (repeat' (first | (with_reducible exact Vg.Grows.refl _) | (with_reducible assumption) | (with_reducible refine Vg.Grows.alloc ?_ _) | (with_reducible refine Vg.Grows.plus ?_ _ _) | (with_reducible refine Vg.Grows.drewN ?_ _) | (with_reducible refine Vg.Grows.drew ?_) | (with_reducible refine Vg.Grows.setCell ?_ ?_ _) | (with_reducible refine Vg.Grows.put ?_ ?_ _) | omega | (simp; omega) | (simp; done))))) H_hx.out).mono ?_; rintro e w1 ⟨rfl, rfl⟩; rw [H_hlo9.out]; exact ⟨rfl, _, rfl⟩))
                    all_goals go_wp2_with fail
                    all_goals go_meet
                    all_goals exact ⟨by simp [u1, u2, u3, u4, u5, ha3], by (repeat' (first | (with_reducible exact Vg.Grows.refl _) | (with_reducible assumption) | (with_reducible refine Vg.Grows.alloc ?_ _) | (with_reducible refine Vg.Grows.plus ?_ _ _) | (with_reducible refine Vg.Grows.drewN ?_ _) | (with_reducible refine Vg.Grows.drew ?_) | (with_reducible refine Vg.Grows.setCell ?_ ?_ _) | (with_reducible refine Vg.Grows.put ?_ ?_ _) | omega | (simp; omega) | (simp; done)))⟩
                case rest =>
                  obtain ⟨rfl, hgC⟩ := hcut
                  have hspC := H_hspB.out.grows hgC
                  clear cu e1 f1
                  obtain ⟨e4, f4, l4C⟩ := SV.cell4 hspC H_hxv.out
                  clear H_hspB
                  have H_hspC := Lib.hid hspC; clear hspC
                  go_wp2_with fail
                  exact ⟨⟨ii + 1, sm + xv, by omega, by go_num, rfl, H_hsmn.out, by omega, by omega, H_hspC.out⟩, by simp [intOf]; omega⟩
          · have hin2 : ii = n := by omega
            subst hin2
            have htk : (P.X.map Vg.Lr.v).take ii = P.X.map Vg.Lr.v := List.take_of_length_le (by rw [List.length_map, H_hI.out.len]; exact Nat.le_refl _)
            rw [htk, ← H_hI.out.sj] at hsm
            have y5 := SV.cell5 hsp
            have hsm2 := H_hI.out.sm
            have hgr := hsp.gr
            have hjb : (P.st.j == sm) = true := by rw [hsm]; simp
            have c_y5 := Vg.cells_of y5; have f_y5 := Vg.frozen_of y5; have p_y5 := Vg.setCell_of y5; have l_y5 := Vg.lt_of y5; have H_y5 := Lib.hid y5; clear y5
            clear hsm
            rw [hsm2] at c_y5
            have H_hsp := Lib.hid hsp; clear hsp; have H_hgr := Lib.hid hgr; clear hgr; have H_hsm2 := Lib.hid hsm2; clear hsm2
            go_wp2_with fail
            go_ret
            exact ⟨rfl, H_hgr.out⟩
end Go.Proofs.YtekjnagojphmkaaDoor
