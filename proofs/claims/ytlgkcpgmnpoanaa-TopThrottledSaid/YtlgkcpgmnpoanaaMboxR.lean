/- Contracts of vergeref13: New, Post, Fetch, Same. -/
import Derived.Test.YtlgkcpgmnpoanaaMboxA
set_option linter.unusedSimpArgs false
set_option linter.unusedVariables false
set_option maxHeartbeats 400000
set_option maxRecDepth 20000
namespace Vg
open Go
abbrev ics (L : List Int) : List Value := L.map (Value.int .i64)
theorem Reads.itail {S : Nat} {w : World} {g o c n : Nat} {x : Value} {l : List Value} (h : Reads S w (.slice (some ⟨g, o, none⟩) (n + 1) c) (n + 1) (x :: l)) : Reads S w (.slice (some ⟨g, o + 1, none⟩) n (c - 1)) n l := by
  rcases h with ⟨h0, _⟩ | ⟨g', o', cap', hv, hb, hg, hn, hm, hx⟩
  · cases h0
  · simp only [Value.slice.injEq, Option.some.injEq, Addr.mk.injEq] at hv
    obtain ⟨⟨rfl, rfl, _⟩, _, rfl⟩ := hv
    refine .inr ⟨g, o + 1, c - 1, rfl, hb, hg, by omega, by omega, fun j hj => ?_⟩
    have := hx (j + 1) (by simpa using hj)
    rw [show o + 1 + j = o + (j + 1) from by omega, this]
    simp
theorem Reads.itail1 {S : Nat} {w : World} {g o n : Nat} {x : Value} {l : List Value} (hl : l.length = n) (h : Reads S w (.slice (some ⟨g, o, none⟩) (n + 1) 1) (n + 1) (x :: l)) : Reads S w (.slice (some ⟨g, o, none⟩) n 0) n l := by
  rcases h with ⟨h0, _⟩ | ⟨g', o', cap', hv, hb, hg, hn, hm, hx⟩
  · cases h0
  · simp only [Value.slice.injEq, Option.some.injEq, Addr.mk.injEq] at hv
    obtain ⟨⟨rfl, rfl, _⟩, _, rfl⟩ := hv
    have hn0 : n = 0 := by omega
    subst hn0
    have hl : l = [] := List.eq_nil_of_length_eq_zero hl
    subst hl
    exact .inr ⟨g, o, 0, rfl, hb, hg, by simp, by omega, fun j hj => by simp at hj⟩
end Vg
namespace Go.Proofs.Ytlgkcpgmnpoanaa
open Go.ChangeShapes Go.WideShapes Go.ChangeAt Go.RowKit
section
variable {S : Nat} {sa : Option Addr} {sc : Nat} {L : List Int} {w : World} {room lost : Int}
theorem ref13_new (room : Int) :
    Calls Try.prog 42 #[.int .i64 room] w fun e w' => e = .returned (.tuple #[.agg #[.int .i64 room, .slice none 0 0, .int .i64 0], .bool (decide (1 ≤ room) && decide (room ≤ 1024))]) ∧ Vg.Grows w w' := by
  go_enter Try.func42, Try.ntmps42
  go_wp2
  all_goals go_returns
  all_goals exact ⟨by simp [*]; try omega, by (repeat' (first | (with_reducible exact Vg.Grows.refl _) | (with_reducible assumption) | (with_reducible refine Vg.Grows.alloc ?_ _) | (with_reducible refine Vg.Grows.plus ?_ _ _) | (with_reducible refine Vg.Grows.drewN ?_ _) | (with_reducible refine Vg.Grows.drew ?_) | (with_reducible refine Vg.Grows.setCell ?_ ?_ _) | (with_reducible refine Vg.Grows.put ?_ ?_ _) | omega | (simp; omega) | (simp; done)))⟩
theorem ref13_post_full (x : Int) (hf : room ≤ L.length) (hl : 0 ≤ lost ∧ lost ≤ 4611686018427387904) (hL : L.length ≤ 1024) :
    Calls Try.prog 43 #[.agg #[.int .i64 room, .slice sa L.length sc, .int .i64 lost], .int .i64 x] w fun e w' => e = .returned (.tuple #[.agg #[.int .i64 room, .slice sa L.length sc, .int .i64 (lost + 1)], .int .i64 5]) ∧ Vg.Grows w w' := by
  go_enter Try.func43, Try.ntmps43
  go_wp2
  go_returns
  exact ⟨rfl, by (repeat' (first | (with_reducible exact Vg.Grows.refl _) | (with_reducible assumption) | (with_reducible refine Vg.Grows.alloc ?_ _) | (with_reducible refine Vg.Grows.plus ?_ _ _) | (with_reducible refine Vg.Grows.drewN ?_ _) | (with_reducible refine Vg.Grows.drew ?_) | (with_reducible refine Vg.Grows.setCell ?_ ?_ _) | (with_reducible refine Vg.Grows.put ?_ ?_ _) | omega | (simp; omega) | (simp; done)))⟩
theorem ref13_post_ok (x : Int) (hf : L.length < room) (hr : Vg.Reads S w (.slice sa L.length sc) L.length (Vg.ics L)) (hL : L.length ≤ 1024) :
    Calls Try.prog 43 #[.agg #[.int .i64 room, .slice sa L.length sc, .int .i64 lost], .int .i64 x] w fun e w' => ∃ sa' sc', Vg.Reads w.heap.size w' (.slice sa' (L ++ [x]).length sc') (L ++ [x]).length (Vg.ics (L ++ [x])) ∧
      e = .returned (.tuple #[.agg #[.int .i64 room, .slice sa' (L ++ [x]).length sc', .int .i64 lost], .int .i64 0]) ∧ Vg.Grows w w' := by
  obtain ⟨i0, hi, hz0, hz1, hz2⟩ := info_parts Try.info_i64
  have HR := Lib.hid hr
  clear hr
  go_enter Try.func43, Try.ntmps43
  go_wp2_with (first | (at_builtin; (refine Vg.wpList_appR (W0 := _) ((Vg.Grows.refl _).alloc _) rfl (.tmp 17) (.tmp 19) 28 rfl _ (Nat.le_refl _) (by (try simp only [World.size_alloc, Vg.plus_size, Vg.put_size, World.size_setCell, World.size_drew]) <;> omega) 2 i0 (.int .i64 0) 1 8 Try.underlying28 hi hz0 hz1 hz2 rfl (by decide) _ _ _ rfl (Vg.owns_made0 (by (try simp only [World.size_alloc, Vg.plus_size, Vg.put_size, World.size_setCell, World.size_drew]) <;> omega)) S _ _ _ (Vg.ics L) rfl (HR.out.grows (by (repeat' (first | (with_reducible exact Vg.Grows.refl _) | (with_reducible assumption) | (with_reducible refine Vg.Grows.alloc ?_ _) | (with_reducible refine Vg.Grows.plus ?_ _ _) | (with_reducible refine Vg.Grows.drewN ?_ _) | (with_reducible refine Vg.Grows.drew ?_) | (with_reducible refine Vg.Grows.setCell ?_ ?_ _) | (with_reducible refine Vg.Grows.put ?_ ?_ _) | omega | (simp; omega) | (simp; done))))) (by simp) (by simp [Value.oneCell']) (by unfold maxLen; omega) (by omega) ?_); intro v' y' m' hown' hsz'; have HO := Lib.hid hown'; clear hown') | (at_builtin; refine Vg.wpList_app ((Vg.Grows.plus (Vg.Grows.refl _) _ _).alloc _) rfl (.tmp 20) (.tmp 22) 28 rfl _ (Nat.le_refl _) (by (try simp only [World.size_alloc, Vg.plus_size, Vg.put_size, World.size_setCell, World.size_drew]) <;> omega) 2 i0 (.int .i64 0) 1 8 Try.underlying28 hi hz0 hz1 hz2 rfl (by decide) _ _ _ rfl (HO.out.alloc _) _ 1 1 [.int .i64 x] rfl rfl (Vg.one_new (by (try simp only [World.size_alloc, Vg.plus_size, Vg.put_size, World.size_setCell, World.size_drew]) <;> omega)) (by simp [Value.oneCell']) (by unfold maxLen; omega) (by omega) ?_; intro v2 y2 m2 hown2 hsz2; obtain ⟨a2, c2, rfl⟩ := Vg.owns_shape hown2; have HO2 := Lib.hid hown2; clear hown2))
  go_returns
  have e1 : (L ++ [x]).length = L.length + 1 := by simp
  rw [e1]
  refine ⟨a2, c2, ?_, rfl, by (repeat' (first | (with_reducible exact Vg.Grows.refl _) | (with_reducible assumption) | (with_reducible refine Vg.Grows.alloc ?_ _) | (with_reducible refine Vg.Grows.plus ?_ _ _) | (with_reducible refine Vg.Grows.drewN ?_ _) | (with_reducible refine Vg.Grows.drew ?_) | (with_reducible refine Vg.Grows.setCell ?_ ?_ _) | (with_reducible refine Vg.Grows.put ?_ ?_ _) | omega | (simp; omega) | (simp; done)))⟩
  have h1 := Vg.Reads.of_owns HO2.out
  simp only [List.nil_append, Nat.zero_add] at h1
  rw [Vg.ics, List.map_append]
  exact (h1.base (by simp [go_sem]) (by simp [go_sem])).weaken (by simp [go_sem]; omega)
theorem ref13_fetch_nil :
    Calls Try.prog 45 #[.agg #[.int .i64 room, .slice sa 0 sc, .int .i64 lost]] w fun e w' => e = .returned (.tuple #[.agg #[.int .i64 room, .slice sa 0 sc, .int .i64 lost], .int .i64 0, .int .i64 3]) ∧ Vg.Grows w w' := by
  go_enter Try.func45, Try.ntmps45
  go_wp2
  go_returns
  exact ⟨rfl, by (repeat' (first | (with_reducible exact Vg.Grows.refl _) | (with_reducible assumption) | (with_reducible refine Vg.Grows.alloc ?_ _) | (with_reducible refine Vg.Grows.plus ?_ _ _) | (with_reducible refine Vg.Grows.drewN ?_ _) | (with_reducible refine Vg.Grows.drew ?_) | (with_reducible refine Vg.Grows.setCell ?_ ?_ _) | (with_reducible refine Vg.Grows.put ?_ ?_ _) | omega | (simp; omega) | (simp; done)))⟩
theorem ref13_fetch_some (t : Int) (ts : List Int) (hr : Vg.Reads S w (.slice sa (ts.length + 1) sc) (ts.length + 1) (Vg.ics (t :: ts))) (hL : ts.length ≤ 1024) :
    Calls Try.prog 45 #[.agg #[.int .i64 room, .slice sa (ts.length + 1) sc, .int .i64 lost]] w fun e w' => ∃ sa' sc', Vg.Reads S w (.slice sa' ts.length sc') ts.length (Vg.ics ts) ∧ ((Value.slice sa' ts.length sc').ownBlock = (Value.slice sa (ts.length + 1) sc).ownBlock) ∧
      e = .returned (.tuple #[.agg #[.int .i64 room, .slice sa' ts.length sc', .int .i64 lost], .int .i64 t, .int .i64 0]) ∧ Vg.Grows w w' := by
  obtain ⟨g, off, rfl, hg, hc, hm, hx⟩ := hr.open (by simp)
  have c0 := hx 0 (by simp)
  simp only [Nat.add_zero, Vg.ics, List.map_cons, List.getElem_cons_zero] at c0
  have hcm : sc ≤ 9223372036854775807 := hm
  have hlen : (0 : Int) < ((ts.length : Int) + 1) := by omega
  have HR := Lib.hid hr
  clear hx hr
  by_cases hc1 : sc = 1
  · subst hc1
    have htl : ts.length = 0 := by omega
    have hts : ts = [] := List.eq_nil_of_length_eq_zero htl
    subst hts
    clear htl
    go_enter Try.func45, Try.ntmps45
    go_wp2
    go_returns
    exact ⟨_, _, Vg.Reads.itail1 (by simp) HR.out, rfl, rfl, by (repeat' (first | (with_reducible exact Vg.Grows.refl _) | (with_reducible assumption) | (with_reducible refine Vg.Grows.alloc ?_ _) | (with_reducible refine Vg.Grows.plus ?_ _ _) | (with_reducible refine Vg.Grows.drewN ?_ _) | (with_reducible refine Vg.Grows.drew ?_) | (with_reducible refine Vg.Grows.setCell ?_ ?_ _) | (with_reducible refine Vg.Grows.put ?_ ?_ _) | omega | (simp; omega) | (simp; done)))⟩
  · have hc2 : 2 ≤ sc := by omega
    go_enter Try.func45, Try.ntmps45
    go_wp2
    go_returns
    exact ⟨_, _, Vg.Reads.itail HR.out, rfl, rfl, by (repeat' (first | (with_reducible exact Vg.Grows.refl _) | (with_reducible assumption) | (with_reducible refine Vg.Grows.alloc ?_ _) | (with_reducible refine Vg.Grows.plus ?_ _ _) | (with_reducible refine Vg.Grows.drewN ?_ _) | (with_reducible refine Vg.Grows.drew ?_) | (with_reducible refine Vg.Grows.setCell ?_ ?_ _) | (with_reducible refine Vg.Grows.put ?_ ?_ _) | omega | (simp; omega) | (simp; done)))⟩
theorem same13 {S' : Nat} {M : List Int} {sb : Option Addr} {sd : Nat} (hr : Vg.Reads S w (.slice sa L.length sc) L.length (Vg.ics L)) (hq : Vg.Reads S' w (.slice sb M.length sd) M.length (Vg.ics M)) (hL : L.length ≤ 100000) (hM : M.length ≤ 100000) :
    Calls Try.prog 49 #[.slice sa L.length sc, .slice sb M.length sd] w fun e w' => e = .returned (.bool (decide (L = M))) ∧ Vg.Grows w w' := by
  have HR := Lib.hid hr
  have HQ := Lib.hid hq
  clear hr hq
  by_cases hlen : L.length = M.length
  · obtain ⟨n, hn⟩ : ∃ n, M.length = n := ⟨_, rfl⟩
    have h1 := HR.out
    have h2 := HQ.out
    rw [hlen, hn] at h1 ⊢
    rw [hn] at h2
    have hn1 : L.length = n := by omega
    have hne : ((n : Int) != n) = false := by simp
    have HL := Lib.hid hn1
    have HM := Lib.hid hn
    have H1 := Lib.hid h1
    have H2 := Lib.hid h2
    have hn2 : n ≤ 100000 := by omega
    clear hn hlen hn1 hL hM h1 h2 HR HQ
    go_enter Try.func49, Try.ntmps49
    go_wp2
    go_loopw [13] (fun i wr => ∃ k : Nat, k ≤ n ∧ i = .int .i64 k ∧ L.take k = M.take k ∧ Vg.Grows w wr) (fun i _ => n - (intOf i).toNat)
    case atStart => exact ⟨0, by omega, rfl, by simp, Vg.Grows.refl _⟩
    case round =>
      obtain ⟨k, hk, rfl, hpre, hgr⟩ := hrel
      by_cases hlt : k < n
      · have q1 := H1.out
        have q2 := H2.out
        obtain ⟨g1, o1, rfl, hg1, hc1, hm1, hx1⟩ := q1.open (by rw [List.length_map, HL.out]; omega)
        obtain ⟨g2, o2, rfl, hg2, hc2, hm2, hx2⟩ := q2.open (by rw [List.length_map, HM.out]; omega)
        have a1 := hx1 k (by rw [List.length_map, HL.out]; omega)
        have a2 := hx2 k (by rw [List.length_map, HM.out]; omega)
        simp only [Vg.ics, List.getElem_map] at a1 a2
        have b1 := (hgr.below.cell (p := ⟨g1, o1 + k, none⟩) hg1).trans a1
        have b2 := (hgr.below.cell (p := ⟨g2, o2 + k, none⟩) hg2).trans a2
        have s1 := List.take_succ_eq_append_getElem (l := L) (i := k) (by rw [HL.out]; omega)
        have s2 := List.take_succ_eq_append_getElem (l := M) (i := k) (by rw [HM.out]; omega)
        have hsc : sc ≤ 9223372036854775807 := hm1
        have hsd : sd ≤ 9223372036854775807 := hm2
        have hgl1 : g1 < wr.heap.size := Nat.lt_of_lt_of_le hg1 hgr.size
        have hgl2 : g2 < wr.heap.size := Nat.lt_of_lt_of_le hg2 hgr.size
        clear hx1 hx2 a1 a2 q1 q2
        generalize hx : L[k]'(by rw [HL.out]; omega) = x at b1 s1
        generalize hy : M[k]'(by rw [HM.out]; omega) = y at b2 s2
        by_cases hxy : x = y
        · subst hxy
          have hne2 : (x != x) = false := by simp
          have H_hpre := Lib.hid hpre; clear hpre; have H_s1 := Lib.hid s1; clear s1; have H_s2 := Lib.hid s2; clear s2; have H_hx := Lib.hid hx; clear hx; have H_hy := Lib.hid hy; clear hy
          go_wp2
          go_quiet (fail)
          go_wp2
          exact ⟨⟨k + 1, by omega, by go_num, by rw [H_s1.out, H_s2.out, H_hpre.out], by (repeat' (first | (with_reducible exact Vg.Grows.refl _) | (with_reducible assumption) | (with_reducible refine Vg.Grows.alloc ?_ _) | (with_reducible refine Vg.Grows.plus ?_ _ _) | (with_reducible refine Vg.Grows.drewN ?_ _) | (with_reducible refine Vg.Grows.drew ?_) | (with_reducible refine Vg.Grows.setCell ?_ ?_ _) | (with_reducible refine Vg.Grows.put ?_ ?_ _) | omega | (simp; omega) | (simp; done)))⟩, by simp [intOf]; omega⟩
        · have hne2 : (x != y) = true := by simp [hxy]
          have hLM : decide (L = M) = false := by
            simp only [decide_eq_false_iff_not]
            intro e
            subst e
            exact hxy (hx.symm.trans hy)
          have H_hpre := Lib.hid hpre; clear hpre; have H_s1 := Lib.hid s1; clear s1; have H_s2 := Lib.hid s2; clear s2; have H_hx := Lib.hid hx; clear hx; have H_hy := Lib.hid hy; clear hy; have H_hxy := Lib.hid hxy; clear hxy; have H_hLM := Lib.hid hLM; clear hLM
          go_wp2
          go_quiet (fail)
          go_wp2
          go_ret
          rw [H_hLM.out]
          exact ⟨rfl, by (repeat' (first | (with_reducible exact Vg.Grows.refl _) | (with_reducible assumption) | (with_reducible refine Vg.Grows.alloc ?_ _) | (with_reducible refine Vg.Grows.plus ?_ _ _) | (with_reducible refine Vg.Grows.drewN ?_ _) | (with_reducible refine Vg.Grows.drew ?_) | (with_reducible refine Vg.Grows.setCell ?_ ?_ _) | (with_reducible refine Vg.Grows.put ?_ ?_ _) | omega | (simp; omega) | (simp; done)))⟩
      · have hkn : k = n := by omega
        subst hkn
        have hLM : decide (L = M) = true := by
          rw [List.take_of_length_le (by rw [HL.out]; exact Nat.le_refl _), List.take_of_length_le (by rw [HM.out]; exact Nat.le_refl _)] at hpre
          simp [hpre]
        have H_hpre := Lib.hid hpre; clear hpre; have H_hLM := Lib.hid hLM; clear hLM
        go_wp2
        go_ret
        rw [H_hLM.out]
        exact ⟨rfl, hgr⟩
  · have hd : decide (L = M) = false := by
      simp only [decide_eq_false_iff_not]
      intro e; exact hlen (by rw [e])
    rw [hd]
    obtain ⟨n, hn⟩ : ∃ n, L.length = n := ⟨_, rfl⟩
    obtain ⟨m, hm⟩ : ∃ m, M.length = m := ⟨_, rfl⟩
    rw [hn, hm]
    have hne : ((n : Int) != m) = true := by simp; omega
    have H_hd := Lib.hid hd; clear hd; have H_hlen := Lib.hid hlen; clear hlen; have H_hn := Lib.hid hn; clear hn; have H_hm := Lib.hid hm; clear hm
    clear HR HQ hL hM
    go_enter Try.func49, Try.ntmps49
    go_wp2
    go_ret
    exact ⟨rfl, by (repeat' (first | (with_reducible exact Vg.Grows.refl _) | (with_reducible assumption) | (with_reducible refine Vg.Grows.alloc ?_ _) | (with_reducible refine Vg.Grows.plus ?_ _ _) | (with_reducible refine Vg.Grows.drewN ?_ _) | (with_reducible refine Vg.Grows.drew ?_) | (with_reducible refine Vg.Grows.setCell ?_ ?_ _) | (with_reducible refine Vg.Grows.put ?_ ?_ _) | omega | (simp; omega) | (simp; done)))⟩
end
end Go.Proofs.Ytlgkcpgmnpoanaa
