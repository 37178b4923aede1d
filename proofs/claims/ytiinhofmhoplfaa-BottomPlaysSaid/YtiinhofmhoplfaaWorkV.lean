/- The document's queues: First, New. -/
import Derived.Test.YtiinhofmhoplfaaWorkU
set_option linter.unusedSimpArgs false
set_option linter.unusedVariables false
set_option maxHeartbeats 2000000
set_option maxRecDepth 100000
namespace Vg
open Go
def rq0 (d : Int) : Wp := (.slice none 0 0, ⟨[], d, 0⟩)
end Vg
namespace Go.Proofs.Ytiinhofmhoplfaa
open Go.ChangeShapes Go.WideShapes Go.ChangeAt Go.RowKit
section
variable {w w' : World} {S S' : Nat → Prop} {rs : List Vg.Wp} {v : Value}
theorem rq_first {r m : Int} {is : Bool} (h : RQ w S rs v) (hr : Vg.Wk.fidx (rs.map (·.2)) = r) (hm : max r 0 = m) (hd : decide (0 ≤ r) = is) :
    Calls Try.prog 24 #[v] w fun e w' => e = .returned (.tuple #[.int .i64 m, .bool is]) ∧ Vg.Grows w w' := by
  obtain ⟨va, vc, rfl⟩ := h.shape
  have hcap : rs.length ≤ 9223372036854775807 := by
    have h1 := h.row.1.len_le
    have h2 : vc ≤ 9223372036854775807 := h.row.1.cap_le
    omega
  obtain ⟨n, hn⟩ : ∃ n, rs.length = n := ⟨_, rfl⟩
  obtain ⟨P, hP⟩ : ∃ P : List Int, (rs.map (·.2)).map (fun q => (q.L.length : Int)) = P := ⟨_, rfl⟩
  have hPl : P.length = n := by rw [← hP]; simpa using hn
  unfold Vg.Wk.fidx at hr
  rw [hP] at hr
  have hrow := h.row.1
  rw [hn] at hcap hrow ⊢
  have hcapn : n ≤ vc := hrow.len_le
  have hcm : vc ≤ 9223372036854775807 := hrow.cap_le
  have H_h := Lib.hid h; clear h; have H_hn := Lib.hid hn; clear hn; have H_hP := Lib.hid hP; clear hP; have H_hPl := Lib.hid hPl; clear hPl; have H_hr := Lib.hid hr; clear hr; have H_hm := Lib.hid hm; clear hm; have H_hd := Lib.hid hd; clear hd
  go_enter Try.func24, Try.ntmps24
  go_wp2
  go_loopw [8] (fun i wr => ∃ k : Nat, k ≤ n ∧ i = .int .i64 k ∧ (P.take k).any (fun x => decide (0 < x)) = false ∧ Vg.Grows w wr) (fun i _ => n - (intOf i).toNat)
  case atStart => exact ⟨0, by omega, rfl, by simp, Vg.Grows.refl _⟩
  case round =>
    obtain ⟨k, hk, rfl, hpre, hgr⟩ := hrel
    by_cases hlt : k < n
    · have hkq : k < rs.length := by rw [H_hn.out]; exact hlt
      have hkP : k < P.length := by rw [H_hPl.out]; exact hlt
      have hu := H_h.out.ush k hkq
      have hrow1 := H_h.out.row.1
      have hrow2 : Vg.Reads 0 w (.slice va rs.length vc) rs.length (Vg.rqcells rs) := by rw [H_hn.out] at hrow1 ⊢; exact hrow1
      obtain ⟨g, o, rfl, hg2, hc1, hc2, c0, c1, c3⟩ := hrow2.rqueue k hkq
      rw [H_hn.out] at hc1
      have hPk : P[k] = (rs[k].2.L.length : Int) := by simp [← H_hP.out]
      obtain ⟨⟨u, ⟨L, d, lo⟩⟩, hx⟩ : ∃ x, rs[k] = x := ⟨_, rfl⟩
      rw [hx] at c0 c1 c3 hu hPk
      simp only [] at c0 c1 c3 hu hPk
      obtain ⟨ua, uc, rfl⟩ := hu
      have hsn := List.take_succ_eq_append_getElem hkP
      rw [hPk] at hsn
      have hidx := Vg.idx_at (p := fun x => decide (0 < x)) hkP hpre
      rw [hPk] at hidx
      have c0 := (hgr.below.cell (p := ⟨g, o + k * 3, none⟩) hg2).trans c0
      have c1 := (hgr.below.cell (p := ⟨g, o + k * 3 + 1, none⟩) hg2).trans c1
      have c3 := (hgr.below.cell (p := ⟨g, o + k * 3 + 2, none⟩) hg2).trans c3
      have hgl : g < wr.heap.size := Nat.lt_of_lt_of_le hg2 hgr.size
      obtain ⟨N, hN⟩ : ∃ N, L.length = N := ⟨_, rfl⟩
      rw [hN] at hPk hsn hidx c1
      clear hrow1 hrow2
      by_cases hpos : (0 : Int) < N
      · have hi := hidx (by simpa using hpos)
        have hrk : r = k := H_hr.out.symm.trans hi
        have hmk : (k : Int) = m := by have := H_hm.out; omega
        have hik : true = is := by rw [← H_hd.out]; simp; omega
        subst hmk hik
        clear hi hrk
        have H_hpre := Lib.hid hpre; clear hpre; have H_hsn := Lib.hid hsn; clear hsn; have H_hx := Lib.hid hx; clear hx; have H_hPk := Lib.hid hPk; clear hPk; have H_hidx := Lib.hid hidx; clear hidx; have H_hN := Lib.hid hN; clear hN
        go_wp2
        go_returns
        exact ⟨rfl, by (repeat' (first | (with_reducible exact Vg.Grows.refl _) | (with_reducible assumption) | (with_reducible refine Vg.Grows.alloc ?_ _) | (with_reducible refine Vg.Grows.plus ?_ _ _) | (with_reducible refine Vg.Grows.drewN ?_ _) | (with_reducible refine Vg.Grows.drew ?_) | (with_reducible refine Vg.Grows.setCell ?_ ?_ _) | (with_reducible refine Vg.Grows.put ?_ ?_ _) | omega | (simp; omega) | (simp; done)))⟩
      · have hnx : (P.take (k + 1)).any (fun x => decide (0 < x)) = false := by rw [hsn, List.any_append, hpre]; simp; omega
        have H_hpre := Lib.hid hpre; clear hpre; have H_hsn := Lib.hid hsn; clear hsn; have H_hx := Lib.hid hx; clear hx; have H_hPk := Lib.hid hPk; clear hPk; have H_hidx := Lib.hid hidx; clear hidx; have H_hN := Lib.hid hN; clear hN; have H_hnx := Lib.hid hnx; clear hnx
        go_wp2
        exact ⟨⟨k + 1, by omega, by go_num, H_hnx.out, by (repeat' (first | (with_reducible exact Vg.Grows.refl _) | (with_reducible assumption) | (with_reducible refine Vg.Grows.alloc ?_ _) | (with_reducible refine Vg.Grows.plus ?_ _ _) | (with_reducible refine Vg.Grows.drewN ?_ _) | (with_reducible refine Vg.Grows.drew ?_) | (with_reducible refine Vg.Grows.setCell ?_ ?_ _) | (with_reducible refine Vg.Grows.put ?_ ?_ _) | omega | (simp; omega) | (simp; done)))⟩, by simp [intOf]; omega⟩
    · have hkn : k = n := by omega
      subst hkn
      have hi : Vg.idx (fun x => decide (0 < x)) P = -1 := Vg.idx_none (by rw [← hpre, List.take_of_length_le (by rw [H_hPl.out]; exact Nat.le_refl _)])
      have hrk : r = -1 := H_hr.out.symm.trans hi
      have hmk : (0 : Int) = m := by have := H_hm.out; omega
      have hik : false = is := by rw [← H_hd.out]; simp; omega
      subst hmk hik
      clear hrk
      have H_hpre := Lib.hid hpre; clear hpre; have H_hi := Lib.hid hi; clear hi
      go_wp2
      go_returns
      exact ⟨rfl, hgr⟩
section
variable {L : List Int} {sa : Option Addr} {sc n : Nat}
theorem rq_new_no (hn : L.length = n) (hr : Vg.IR w sa sc L) (hn2 : n ≤ 1048576) (h : L.any Vg.oddW = true) :
    Calls Try.prog 17 #[.slice sa n sc] w fun e w' => e = .returned (.tuple #[.slice none 0 0, .bool false]) ∧ Vg.Grows w w' := by
  obtain ⟨i0, hI, hz0, hz1, hz2⟩ := info_parts Try.info_rqueue
  have hcm : n ≤ 9223372036854775807 := by omega
  obtain ⟨b0, hb0⟩ : ∃ b0, w.heap.size = b0 := ⟨_, rfl⟩
  have hb1 : b0 ≤ w.heap.size := by omega
  have hb2 : w.heap.size ≤ b0 := by omega
  have H_hn := Lib.hid hn; clear hn; have H_h := Lib.hid h; clear h; have H_hr := Lib.hid hr; clear hr; have H_hb0 := Lib.hid hb0; clear hb0
  go_enter Try.func17, Try.ntmps17
  go_wp2
  go_loopw [4, 9] (fun v i wr => ∃ k : Nat, k ≤ n ∧ i = .int .i64 k ∧ (L.take k).any Vg.oddW = false ∧ Vg.Grows w wr ∧ Vg.Que wr b0 48 3 v k (Vg.rqcells ((L.take k).map Vg.rq0))) (fun v i _ => n - (intOf i).toNat)
  case atStart => exact ⟨0, by omega, rfl, by simp, Vg.Grows.refl _, Vg.Que.nil _ _ _ _⟩
  case round =>
    obtain ⟨k, hk, rfl, hpre, hgr, hq⟩ := hrel
    by_cases hlt : k < n
    · have hkL : k < L.length := by rw [H_hn.out]; exact hlt
      obtain ⟨g, off, rfl, hg, hc, hm, hcell⟩ := H_hr.out.icell k hkL
      have hsn := List.take_succ_eq_append_getElem hkL
      obtain ⟨x, hx⟩ : ∃ x, L[k] = x := ⟨_, rfl⟩
      rw [hx] at hcell hsn
      have hcell := (hgr.below.cell (p := ⟨g, off + k, none⟩) hg).trans hcell
      have hgl : g < wr.heap.size := Nat.lt_of_lt_of_le hg hgr.size
      obtain ⟨va, vc, rfl⟩ := hq.shape
      have hszr := hgr.size
      by_cases h1 : x < 1
      · have H_hpre := Lib.hid hpre; clear hpre; have H_hsn := Lib.hid hsn; clear hsn; have H_hx := Lib.hid hx; clear hx; have H_hq := Lib.hid hq; clear hq
        go_wp2
        go_returns
        exact ⟨rfl, by (repeat' (first | (with_reducible exact Vg.Grows.refl _) | (with_reducible assumption) | (with_reducible refine Vg.Grows.alloc ?_ _) | (with_reducible refine Vg.Grows.plus ?_ _ _) | (with_reducible refine Vg.Grows.drewN ?_ _) | (with_reducible refine Vg.Grows.drew ?_) | (with_reducible refine Vg.Grows.setCell ?_ ?_ _) | (with_reducible refine Vg.Grows.put ?_ ?_ _) | omega | (simp; omega) | (simp; done)))⟩
      · by_cases h64 : 64 < x
        · have H_hpre := Lib.hid hpre; clear hpre; have H_hsn := Lib.hid hsn; clear hsn; have H_hx := Lib.hid hx; clear hx; have H_hq := Lib.hid hq; clear hq
          go_wp2
          go_returns
          exact ⟨rfl, by (repeat' (first | (with_reducible exact Vg.Grows.refl _) | (with_reducible assumption) | (with_reducible refine Vg.Grows.alloc ?_ _) | (with_reducible refine Vg.Grows.plus ?_ _ _) | (with_reducible refine Vg.Grows.drewN ?_ _) | (with_reducible refine Vg.Grows.drew ?_) | (with_reducible refine Vg.Grows.setCell ?_ ?_ _) | (with_reducible refine Vg.Grows.put ?_ ?_ _) | omega | (simp; omega) | (simp; done)))⟩
        · have hnx : (L.take (k + 1)).any Vg.oddW = false := by rw [hsn, List.any_append, hpre]; simp [Vg.oddW]; omega
          have H_hpre := Lib.hid hpre; clear hpre; have H_hsn := Lib.hid hsn; clear hsn; have H_hx := Lib.hid hx; clear hx; have H_hq := Lib.hid hq; clear hq; have H_hnx := Lib.hid hnx; clear hnx
          go_wp2_with (at_builtin; (refine Vg.wpList_que (w := _) rfl (.tmp 19) (.tmp 22) 30 rfl b0 48 i0 (.agg #[.int .i64 0, .slice none 0 0, .int .i64 0]) 3 40 Try.underlying30 hI hz0 hz1 hz2 rfl (by decide) (.slice va k vc) k _ rfl (H_hq.out.grows (by (repeat' (first | (with_reducible exact Vg.Grows.refl _) | (with_reducible assumption) | (with_reducible refine Vg.Grows.alloc ?_ _) | (with_reducible refine Vg.Grows.plus ?_ _ _) | (with_reducible refine Vg.Grows.drewN ?_ _) | (with_reducible refine Vg.Grows.drew ?_) | (with_reducible refine Vg.Grows.setCell ?_ ?_ _) | (with_reducible refine Vg.Grows.put ?_ ?_ _) | omega | (simp; omega) | (simp; done))))) _ 1 1 [.int .i64 x, .slice none 0 0, .int .i64 0] rfl rfl (Vg.three_new (by first | rfl | ((try simp only [World.size_alloc, Vg.plus_size, Vg.put_size, World.size_setCell, World.size_drew, World.heap_drewN]) <;> omega))) (by simp [Value.oneCell']) (by decide) (by unfold maxLen; omega) (by omega) (by simp only [World.size_alloc]; omega) ?_; intro v2 W1 y2 m2 hq2 hs2 ho2; obtain ⟨a2, c2, rfl⟩ := hq2.shape; have hgW := hs2.grows (hgr.alloc _) (fun j hj => by have := (H_hq.out.lt j hj).1; omega); have H_hq2 := Lib.hid hq2; clear hq2; have H_hs2 := Lib.hid hs2; clear hs2; have H_ho2 := Lib.hid ho2; clear ho2))
          refine ⟨⟨k + 1, by omega, by go_num, H_hnx.out, by (repeat' (first | (with_reducible exact Vg.Grows.refl _) | (with_reducible assumption) | (with_reducible refine Vg.Grows.alloc ?_ _) | (with_reducible refine Vg.Grows.plus ?_ _ _) | (with_reducible refine Vg.Grows.drewN ?_ _) | (with_reducible refine Vg.Grows.drew ?_) | (with_reducible refine Vg.Grows.setCell ?_ ?_ _) | (with_reducible refine Vg.Grows.put ?_ ?_ _) | omega | (simp; omega) | (simp; done))), ?_⟩, by simp [intOf]; omega⟩
          rw [H_hsn.out, List.map_append, Vg.rqcells_append]
          exact H_hq2.out
    · have e : L.any Vg.oddW = false := by rw [← hpre, List.take_of_length_le (by rw [H_hn.out]; omega)]
      rw [H_h.out] at e
      cases e
theorem rq_new (hn : L.length = n) (hr : Vg.IR w sa sc L) (hn2 : n ≤ 1048576) (h : L.any Vg.oddW = false) {is : Bool} (his : decide (1 ≤ n ∧ n ≤ 64) = is) (hS : ∀ k, w.heap.size ≤ k → S k) :
    Calls Try.prog 17 #[.slice sa n sc] w fun e w' => ∃ a c, e = .returned (.tuple #[.slice a n c, .bool is]) ∧ RQ w' S (L.map Vg.rq0) (.slice a n c) ∧ Vg.Grows w w' := by
  obtain ⟨i0, hI, hz0, hz1, hz2⟩ := info_parts Try.info_rqueue
  have hcm : n ≤ 9223372036854775807 := by omega
  obtain ⟨b0, hb0⟩ : ∃ b0, w.heap.size = b0 := ⟨_, rfl⟩
  have hb1 : b0 ≤ w.heap.size := by omega
  have hb2 : w.heap.size ≤ b0 := by omega
  have hSb : ∀ k, b0 ≤ k → S k := by rw [← hb0]; exact hS
  clear hS
  have H_hn := Lib.hid hn; clear hn; have H_h := Lib.hid h; clear h; have H_hr := Lib.hid hr; clear hr; have H_hb0 := Lib.hid hb0; clear hb0; have H_his := Lib.hid his; clear his; have H_hSb := Lib.hid hSb; clear hSb
  go_enter Try.func17, Try.ntmps17
  go_wp2
  go_loopw [4, 9] (fun v i wr => ∃ k : Nat, k ≤ n ∧ i = .int .i64 k ∧ Vg.Grows w wr ∧ Vg.Que wr b0 48 3 v k (Vg.rqcells ((L.take k).map Vg.rq0))) (fun v i _ => n - (intOf i).toNat)
  case atStart => exact ⟨0, by omega, rfl, Vg.Grows.refl _, Vg.Que.nil _ _ _ _⟩
  case round =>
    obtain ⟨k, hk, rfl, hgr, hq⟩ := hrel
    by_cases hlt : k < n
    · have hkL : k < L.length := by rw [H_hn.out]; exact hlt
      obtain ⟨g, off, rfl, hg, hc, hm, hcell⟩ := H_hr.out.icell k hkL
      have hsn := List.take_succ_eq_append_getElem hkL
      obtain ⟨x, hx⟩ : ∃ x, L[k] = x := ⟨_, rfl⟩
      have ho : Vg.oddW x = false := by
        cases hh : Vg.oddW x with
        | false => rfl
        | true => rw [← H_h.out]; exact (List.any_eq_true.2 ⟨x, by rw [← hx]; exact List.getElem_mem _, hh⟩).symm
      simp only [Vg.oddW, Bool.or_eq_false_iff, decide_eq_false_iff_not] at ho
      obtain ⟨h1, h64⟩ := ho
      rw [hx] at hcell hsn
      have hcell := (hgr.below.cell (p := ⟨g, off + k, none⟩) hg).trans hcell
      have hgl : g < wr.heap.size := Nat.lt_of_lt_of_le hg hgr.size
      obtain ⟨va, vc, rfl⟩ := hq.shape
      have hszr := hgr.size
      have H_hsn := Lib.hid hsn; clear hsn; have H_hx := Lib.hid hx; clear hx; have H_hq := Lib.hid hq; clear hq
      go_wp2_with (at_builtin; (refine Vg.wpList_que (w := _) rfl (.tmp 19) (.tmp 22) 30 rfl b0 48 i0 (.agg #[.int .i64 0, .slice none 0 0, .int .i64 0]) 3 40 Try.underlying30 hI hz0 hz1 hz2 rfl (by decide) (.slice va k vc) k _ rfl (H_hq.out.grows (by (repeat' (first | (with_reducible exact Vg.Grows.refl _) | (with_reducible assumption) | (with_reducible refine Vg.Grows.alloc ?_ _) | (with_reducible refine Vg.Grows.plus ?_ _ _) | (with_reducible refine Vg.Grows.drewN ?_ _) | (with_reducible refine Vg.Grows.drew ?_) | (with_reducible refine Vg.Grows.setCell ?_ ?_ _) | (with_reducible refine Vg.Grows.put ?_ ?_ _) | omega | (simp; omega) | (simp; done))))) _ 1 1 [.int .i64 x, .slice none 0 0, .int .i64 0] rfl rfl (Vg.three_new (by first | rfl | ((try simp only [World.size_alloc, Vg.plus_size, Vg.put_size, World.size_setCell, World.size_drew, World.heap_drewN]) <;> omega))) (by simp [Value.oneCell']) (by decide) (by unfold maxLen; omega) (by omega) (by simp only [World.size_alloc]; omega) ?_; intro v2 W1 y2 m2 hq2 hs2 ho2; obtain ⟨a2, c2, rfl⟩ := hq2.shape; have hgW := hs2.grows (hgr.alloc _) (fun j hj => by have := (H_hq.out.lt j hj).1; omega); have H_hq2 := Lib.hid hq2; clear hq2; have H_hs2 := Lib.hid hs2; clear hs2; have H_ho2 := Lib.hid ho2; clear ho2))
      refine ⟨⟨k + 1, by omega, by go_num, by (repeat' (first | (with_reducible exact Vg.Grows.refl _) | (with_reducible assumption) | (with_reducible refine Vg.Grows.alloc ?_ _) | (with_reducible refine Vg.Grows.plus ?_ _ _) | (with_reducible refine Vg.Grows.drewN ?_ _) | (with_reducible refine Vg.Grows.drew ?_) | (with_reducible refine Vg.Grows.setCell ?_ ?_ _) | (with_reducible refine Vg.Grows.put ?_ ?_ _) | omega | (simp; omega) | (simp; done))), ?_⟩, by simp [intOf]; omega⟩
      rw [H_hsn.out, List.map_append, Vg.rqcells_append]
      exact H_hq2.out
    · have hkn : k = n := by omega
      subst hkn
      have htk : L.take k = L := List.take_of_length_le (by rw [H_hn.out]; exact Nat.le_refl _)
      rw [htk] at hq
      obtain ⟨va, vc, rfl⟩ := hq.shape
      have hRR : RQ wr S (L.map Vg.rq0) (.slice va k vc) := by
        have key : ∀ i (h : i < (L.map Vg.rq0).length), (L.map Vg.rq0)[i].1 = .slice none 0 0 ∧ (L.map Vg.rq0)[i].2.L = [] := fun i h => by rw [List.getElem_map]; exact ⟨rfl, rfl⟩
        have hl : (L.map Vg.rq0).length = k := by rw [List.length_map, H_hn.out]
        refine ⟨⟨va, vc, by rw [hl]⟩, by rw [hl]; exact Vg.ReadsP.of_new hq.reads (fun j hj => H_hSb.out j hj), fun i h => ?_, fun i h => ?_⟩
        · rw [(key i h).1, (key i h).2]; exact ⟨none, 0, rfl⟩
        · rw [(key i h).1, (key i h).2]; exact Vg.ReadsP.nil _
      have H_hRR := Lib.hid hRR; clear hRR; have H_hq := Lib.hid hq; clear hq; have H_htk := Lib.hid htk; clear htk
      by_cases h1 : 1 ≤ k
      · by_cases h64 : k ≤ 64
        · have hik : true = is := by rw [← H_his.out]; simp; omega
          subst hik
          go_wp2
          go_returns
          exact ⟨va, vc, (by simp; omega), H_hRR.out, hgr⟩
        · have hik : false = is := by rw [← H_his.out]; simp; omega
          subst hik
          go_wp2
          go_returns
          exact ⟨va, vc, (by simp; omega), H_hRR.out, hgr⟩
      · have hik : false = is := by rw [← H_his.out]; simp; omega
        subst hik
        go_wp2
        go_returns
        exact ⟨va, vc, rfl, H_hRR.out, hgr⟩
end
end
end Go.Proofs.Ytiinhofmhoplfaa
