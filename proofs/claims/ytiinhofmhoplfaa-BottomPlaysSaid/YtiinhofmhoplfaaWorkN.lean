/- work.New, First. -/
import Derived.Test.YtiinhofmhoplfaaWorkA
set_option linter.unusedSimpArgs false
set_option linter.unusedVariables false
set_option maxHeartbeats 1000000
set_option maxRecDepth 100000
namespace Vg
open Go
def oddW (x : Int) : Bool := decide (x < 1) || decide (64 < x)
/-- The first queue that has pieces; -1: there is none. -/
def Wk.fidx (Q : List Wq) : Int := idx (fun x => decide (0 < x)) (Q.map fun q => (q.L.length : Int))
def wq0 (d : Int) : Wp := (.slice none 0 0, ⟨[], d, 0⟩)
end Vg
namespace Go.Proofs.Ytiinhofmhoplfaa
open Go.ChangeShapes Go.WideShapes Go.ChangeAt Go.RowKit
section
variable {w : World} {L : List Int} {sa : Option Addr} {sc : Nat}
theorem work_odd (x : Int) (w : World) : Calls Try.prog 89 #[.int .i64 x] w fun e w' => e = .returned (.bool (Vg.oddW x)) ∧ w = w' := by
  by_cases h0 : x < 1
  · go_enter Try.func89, Try.ntmps89
    go_wp2
    go_ret
    exact ⟨ret_bool (by simp [Vg.oddW, h0]), rfl⟩
  · by_cases h1 : 64 < x
    · go_enter Try.func89, Try.ntmps89
      go_wp2
      go_ret
      exact ⟨ret_bool (by simp [Vg.oddW, h1]), rfl⟩
    · go_enter Try.func89, Try.ntmps89
      go_wp2
      go_ret
      exact ⟨ret_bool (by simp [Vg.oddW]; omega), rfl⟩
theorem work_idx (hr : Vg.IR w sa sc L) :
    Calls Try.prog 129 #[.slice sa L.length sc, .func (.func 89) #[] #[]] w fun e w' => e = .returned (.int .i64 (Vg.idx Vg.oddW L)) ∧ w = w' := by
  have HR := Lib.hid hr
  clear hr
  obtain ⟨n, hn⟩ : ∃ n, L.length = n := ⟨_, rfl⟩
  rw [hn]
  have hcm : n ≤ 9223372036854775807 := by
    have h1 := HR.out.1
    have h2 : sc ≤ 9223372036854775807 := HR.out.2.1
    omega
  have H_hn := Lib.hid hn; clear hn
  go_enter Try.func129, Try.ntmps129
  go_wp2
  go_loop [8] (fun i => ∃ k : Nat, k ≤ n ∧ i = .int .i64 k ∧ (L.take k).any Vg.oddW = false) (fun i => n - (intOf i).toNat)
  case atStart => exact ⟨0, by omega, rfl, by simp⟩
  case round =>
    obtain ⟨k, hk, rfl, hpre⟩ := hrel
    by_cases hlt : k < n
    · have hkL : k < L.length := by rw [H_hn.out]; exact hlt
      obtain ⟨g, off, rfl, hg, hc, hm, hcell⟩ := HR.out.icell k hkL
      have hsn := List.take_succ_eq_append_getElem hkL
      obtain ⟨x, hx⟩ : ∃ x, L[k] = x := ⟨_, rfl⟩
      rw [hx] at hcell hsn
      cases hp : Vg.oddW x with
      | true =>
        have hi := Vg.idx_at hkL hpre (by rw [hx]; exact hp)
        have H_hpre := Lib.hid hpre; clear hpre; have H_hsn := Lib.hid hsn; clear hsn; have H_hx := Lib.hid hx; clear hx; have H_hp := Lib.hid hp; clear hp; have H_hi := Lib.hid hi; clear hi
        go_wp2_with ((go_at_call 89; refine (work_odd _ _).mono ?_; rintro e w' ⟨rfl, rfl⟩; rw [H_hp.out]))
        go_ret
        rw [H_hi.out]
        exact ⟨rfl, rfl⟩
      | false =>
        have hnx : (L.take (k + 1)).any Vg.oddW = false := by rw [hsn, List.any_append, hpre]; simp [hp]
        have H_hpre := Lib.hid hpre; clear hpre; have H_hsn := Lib.hid hsn; clear hsn; have H_hx := Lib.hid hx; clear hx; have H_hp := Lib.hid hp; clear hp; have H_hnx := Lib.hid hnx; clear hnx
        go_wp2_with ((go_at_call 89; refine (work_odd _ _).mono ?_; rintro e w' ⟨rfl, rfl⟩; rw [H_hp.out]))
        go_round
        case rel => exact ⟨k + 1, by omega, by go_num, H_hnx.out⟩
        case measure => simp [intOf]; omega
    · have hi : Vg.idx Vg.oddW L = -1 := Vg.idx_none (by rw [← hpre, List.take_of_length_le (by rw [H_hn.out]; omega)])
      have H_hpre := Lib.hid hpre; clear hpre; have H_hi := Lib.hid hi; clear hi
      go_wp2
      go_ret
      rw [H_hi.out]
      exact ⟨rfl, rfl⟩
theorem work_contains (hr : Vg.IR w sa sc L) :
    Calls Try.prog 90 #[.slice sa L.length sc, .func (.func 89) #[] #[]] w fun e w' => e = .returned (.bool (L.any Vg.oddW)) ∧ w = w' := by
  cases h : L.any Vg.oddW with
  | true =>
    have hi := Vg.idx_some h
    obtain ⟨r, hr'⟩ : ∃ r, Vg.idx Vg.oddW L = r := ⟨_, rfl⟩
    rw [hr'] at hi
    have H_h := Lib.hid h; clear h; have H_hr' := Lib.hid hr'; clear hr'; have H_hr := Lib.hid hr; clear hr
    go_enter Try.func90, Try.ntmps90
    go_wp2_with ((go_at_call 129; refine (work_idx H_hr.out).mono ?_; rintro e w' ⟨rfl, rfl⟩; rw [H_hr'.out]))
    go_ret
    exact ⟨rfl, rfl⟩
  | false =>
    have hi := Vg.idx_none h
    have H_h := Lib.hid h; clear h; have H_hi := Lib.hid hi; clear hi; have H_hr := Lib.hid hr; clear hr
    go_enter Try.func90, Try.ntmps90
    go_wp2_with ((go_at_call 129; refine (work_idx H_hr.out).mono ?_; rintro e w' ⟨rfl, rfl⟩; rw [H_hi.out]))
    go_ret
    exact ⟨rfl, rfl⟩
theorem work_new_no (hr : Vg.IR w sa sc L) (h : L.length = 0 ∨ 64 < L.length ∨ L.any Vg.oddW = true) :
    Calls Try.prog 16 #[.slice sa L.length sc] w fun e w' => e = .returned (.tuple #[.pointer none, .int .i64 1]) ∧ w = w' := by
  by_cases h0 : L.length = 0
  · have hl : L = [] := List.eq_nil_of_length_eq_zero h0
    subst hl
    clear h h0
    have H_hr := Lib.hid hr; clear hr
    go_enter Try.func16, Try.ntmps16
    go_wp2_with fail
    go_ret2
    exact ⟨rfl, rfl⟩
  · have h3 := h.resolve_left h0
    have hz : ((L.length : Int) == 0) = false := by simp; exact fun hh => h0 (by rw [hh]; rfl)
    by_cases h1 : 64 < L.length
    · clear h h3
      have H_hr := Lib.hid hr; clear hr; have H_h0 := Lib.hid h0; clear h0
      go_enter Try.func16, Try.ntmps16
      go_wp2_with fail
      go_ret2
      exact ⟨rfl, rfl⟩
    · have h2 : L.any Vg.oddW = true := h3.resolve_left h1
      clear h h3
      have H_hr := Lib.hid hr; clear hr; have H_h2 := Lib.hid h2; clear h2; have H_h0 := Lib.hid h0; clear h0
      go_enter Try.func16, Try.ntmps16
      go_wp2_with ((go_at_call 90; refine (work_contains H_hr.out).mono ?_; rintro e w' ⟨rfl, rfl⟩; rw [H_h2.out]))
      go_ret2
      exact ⟨rfl, rfl⟩
theorem work_new (hr : Vg.IR w sa sc L) (h0 : 1 ≤ L.length) (h1 : L.length ≤ 64) (h2 : L.any Vg.oddW = false) :
    Calls Try.prog 16 #[.slice sa L.length sc] w fun e w' => ∃ v, e = .returned (.tuple #[.pointer (some ⟨w.heap.size, 0, none⟩), .int .i64 0]) ∧ WK w' w.heap.size (w.heap.size + 1) (L.map Vg.wq0) v ∧ Vg.Grows w w' := by
  obtain ⟨i0, hi, hz0, hz1, hz2⟩ := info_parts Try.info_queue
  obtain ⟨n, hn⟩ : ∃ n, L.length = n := ⟨_, rfl⟩
  have hcon := work_contains hr
  have HCON := Lib.hid hcon
  rw [hn] at h0 h1 ⊢
  have H16 : n ≤ 64 := h1
  have hz : ((n : Int) == 0) = false := by simp; omega
  have H_hr := Lib.hid hr; clear hr; have H_h2 := Lib.hid h2; clear h2; have H_hn := Lib.hid hn; clear hn
  clear hcon
  go_enter Try.func16, Try.ntmps16
  go_wp2_with ((go_at_call 90; have hcon := HCON.out; rw [H_hn.out] at hcon; refine hcon.mono ?_; clear hcon; rintro e w' ⟨rfl, rfl⟩; rw [H_h2.out]))
  obtain ⟨b, hb⟩ : ∃ b, w.heap.size = b := ⟨_, rfl⟩
  obtain ⟨W0, hW0⟩ : ∃ W0, w.alloc (workC (.slice none 0 0)) = W0 := ⟨_, rfl⟩
  have g1 : Vg.blk W0 b = some (workC (.slice none 0 0)) := by rw [← hW0, ← hb]; exact Vg.alloc_heap_at rfl
  have g4 : Vg.Grows w W0 := by rw [← hW0]; (repeat' (first | (with_reducible exact Vg.Grows.refl _) | (with_reducible assumption) | (with_reducible refine Vg.Grows.alloc ?_ _) | (with_reducible refine Vg.Grows.plus ?_ _ _) | (with_reducible refine Vg.Grows.drewN ?_ _) | (with_reducible refine Vg.Grows.drew ?_) | (with_reducible refine Vg.Grows.setCell ?_ ?_ _) | (with_reducible refine Vg.Grows.put ?_ ?_ _) | omega | (simp; omega) | (simp; done)))
  have hbw : w.heap.size ≤ b := by omega
  have hsz : b + 1 ≤ W0.heap.size := by rw [← hW0, ← hb]; simp
  simp only [hb]
  rw [hW0]
  have H_hb := Lib.hid hb; clear hb; have H_hW0 := Lib.hid hW0; clear hW0; have H_g1 := Lib.hid g1; clear g1
  go_loopw [25] (fun i wr => ∃ (k : Nat) (v : Value), k ≤ n ∧ i = .int .i64 k ∧ b + 1 ≤ wr.heap.size ∧ Vg.Grows w wr ∧ Vg.blk wr b = some (workC v) ∧ Vg.Que wr (b + 1) 151 3 v ((L.take k).map Vg.wq0).length (Vg.qcells ((L.take k).map Vg.wq0))) (fun i _ => n - (intOf i).toNat)
  case atStart => exact ⟨0, _, by omega, rfl, hsz, g4, H_g1.out, Vg.Que.nil _ _ _ _⟩
  case round =>
    obtain ⟨k, v, hk, rfl, hszr, hgr, d1, hq⟩ := hrel
    by_cases hlt : k < n
    · have hkL : k < L.length := by rw [H_hn.out]; exact hlt
      obtain ⟨g, off, rfl, hg, hc, hm, hcell⟩ := H_hr.out.icell k hkL
      have hsn := List.take_succ_eq_append_getElem hkL
      obtain ⟨x, hx⟩ : ∃ x, L[k] = x := ⟨_, rfl⟩
      rw [hx] at hcell hsn
      have hcell := (hgr.below.cell (p := ⟨g, off + k, none⟩) hg).trans hcell
      have hgl : g < wr.heap.size := Nat.lt_of_lt_of_le hg hgr.size
      have hlk : ((L.take k).map Vg.wq0).length = k := by simp; omega
      rw [hlk] at hq
      obtain ⟨va, vc, rfl⟩ := hq.shape
      have c_d1 := Vg.cells_of d1; have f_d1 := Vg.frozen_of d1; have p_d1 := Vg.setCell_of d1; have l_d1 := Vg.lt_of d1; have H_d1 := Lib.hid d1; clear d1
      have H_hq := Lib.hid hq; clear hq; have H_hsn := Lib.hid hsn; clear hsn; have H_hx := Lib.hid hx; clear hx; have H_hlk := Lib.hid hlk; clear hlk
      go_wp2_with (at_builtin; (refine Vg.wpList_que (w := _) rfl (.tmp 33) (.tmp 36) 147 rfl (b + 1) 151 i0 (.agg #[.slice none 0 0, .int .i64 0, .int .i64 0]) 3 40 Try.underlying147 hi hz0 hz1 hz2 rfl (by decide) (.slice va k vc) k _ rfl (H_hq.out.grows (by (repeat' (first | (with_reducible exact Vg.Grows.refl _) | (with_reducible assumption) | (with_reducible refine Vg.Grows.alloc ?_ _) | (with_reducible refine Vg.Grows.plus ?_ _ _) | (with_reducible refine Vg.Grows.drewN ?_ _) | (with_reducible refine Vg.Grows.drew ?_) | (with_reducible refine Vg.Grows.setCell ?_ ?_ _) | (with_reducible refine Vg.Grows.put ?_ ?_ _) | omega | (simp; omega) | (simp; done))))) _ 1 1 [.slice none 0 0, .int .i64 x, .int .i64 0] rfl rfl (Vg.three_new (by first | rfl | ((try simp only [World.size_alloc, Vg.plus_size, Vg.put_size, World.size_setCell, World.size_drew, World.heap_drewN]) <;> omega))) (by simp [Value.oneCell']) (by decide) (by unfold maxLen; omega) (by omega) (by simp only [World.size_alloc]; omega) ?_; intro v2 W1 y2 m2 hq2 hs2 ho2; obtain ⟨a2, c2, rfl⟩ := hq2.shape; have z1 := (hs2.block b (fun hh => by have := (H_hq.out.lt b hh).1; omega)).trans ((Vg.alloc_heap_past l_d1).trans H_d1.out); have hszW := hs2.size; rw [World.size_alloc] at hszW; have hgW := hs2.grows (hgr.alloc _) (fun j hj => by have := (H_hq.out.lt j hj).1; omega); clear c_d1 f_d1 p_d1; have c_z1 := Vg.cells_of z1; have f_z1 := Vg.frozen_of z1; have p_z1 := Vg.setCell_of z1; have l_z1 := Vg.lt_of z1; have H_z1 := Lib.hid z1; clear z1; have H_hq2 := Lib.hid hq2; clear hq2; have H_hs2 := Lib.hid hs2; clear hs2; have H_ho2 := Lib.hid ho2; clear ho2))
      refine ⟨⟨k + 1, _, by omega, by go_num, by rw [Vg.plus_size, Vg.put_size]; omega, by (repeat' (first | (with_reducible exact Vg.Grows.refl _) | (with_reducible assumption) | (with_reducible refine Vg.Grows.alloc ?_ _) | (with_reducible refine Vg.Grows.plus ?_ _ _) | (with_reducible refine Vg.Grows.drewN ?_ _) | (with_reducible refine Vg.Grows.drew ?_) | (with_reducible refine Vg.Grows.setCell ?_ ?_ _) | (with_reducible refine Vg.Grows.put ?_ ?_ _) | omega | (simp; omega) | (simp; done))), (Vg.blk_plus (by rw [Vg.put_size]; omega)).trans (Vg.put_heap_same (by omega)), ?_⟩, by simp [intOf]; omega⟩
      rw [H_hsn.out, List.map_append, Vg.qcells_append, List.length_append, H_hlk.out]
      refine H_hq2.out.kept fun j hj => ?_
      have := (H_hq2.out.lt j hj).1
      rw [← Vg.put_plus (by omega)]
      exact Vg.put_heap_other (by omega)
    · have hkn : k = n := by omega
      subst hkn
      have htk : L.take k = L := List.take_of_length_le (by rw [H_hn.out]; exact Nat.le_refl _)
      rw [htk] at hq
      have hce : WK wr b (b + 1) (L.map Vg.wq0) v := by
        have key : ∀ i (h : i < (L.map Vg.wq0).length), (L.map Vg.wq0)[i].1 = .slice none 0 0 ∧ (L.map Vg.wq0)[i].2.L = [] := fun i h => by rw [List.getElem_map]; exact ⟨rfl, rfl⟩
        refine ⟨d1, hq, fun i h => ?_, fun i j h1 h2 _ x hx => ?_, fun i h x hx => ?_⟩
        · rw [(key i h).1, (key i h).2]; exact Vg.Que.nil _ _ _ _
        · rw [(key i h1).1] at hx; simp [Value.ownBlock] at hx
        · rw [(key i h).1] at hx; simp [Value.ownBlock] at hx
      have H_hce := Lib.hid hce; clear hce; have H_htk := Lib.hid htk; clear htk; have H_hq := Lib.hid hq; clear hq; have H_d1 := Lib.hid d1; clear d1
      go_wp2_with fail
      go_ret2
      exact ⟨v, (by rw [H_hb.out]; rfl), (by rw [H_hb.out]; exact H_hce.out), hgr⟩
end
section
variable {w : World} {b B : Nat} {qs : List Vg.Wp} {v : Value}
theorem work_first1 (ua : Option Addr) (N uc : Nat) (d lo : Int) (w : World) : Calls Try.prog 95 #[.agg #[.slice ua N uc, .int .i64 d, .int .i64 lo]] w fun e w' => e = .returned (.bool (decide ((0 : Int) < N))) ∧ Vg.Grows w w' := by
  go_enter Try.func95, Try.ntmps95
  go_wp2
  go_ret
  exact ⟨ret_bool (by simp), by (repeat' (first | (with_reducible exact Vg.Grows.refl _) | (with_reducible assumption) | (with_reducible refine Vg.Grows.alloc ?_ _) | (with_reducible refine Vg.Grows.plus ?_ _ _) | (with_reducible refine Vg.Grows.drewN ?_ _) | (with_reducible refine Vg.Grows.drew ?_) | (with_reducible refine Vg.Grows.setCell ?_ ?_ _) | (with_reducible refine Vg.Grows.put ?_ ?_ _) | omega | (simp; omega) | (simp; done)))⟩
theorem work_fidx (h : WK w b B qs v) :
    Calls Try.prog 94 #[v, .func (.func 95) #[] #[]] w fun e w' => e = .returned (.int .i64 (Vg.Wk.fidx (qs.map (·.2)))) ∧ Vg.Grows w w' := by
  obtain ⟨va, vc, rfl⟩ := h.row.shape
  have hcap : qs.length ≤ 9223372036854775807 := by
    rcases h.row.cases with ⟨_, h1, _⟩ | ⟨_, _, _, _, _, h1, h2⟩ <;> omega
  obtain ⟨n, hn⟩ : ∃ n, qs.length = n := ⟨_, rfl⟩
  obtain ⟨P, hP⟩ : ∃ P : List Int, (qs.map (·.2)).map (fun q => (q.L.length : Int)) = P := ⟨_, rfl⟩
  have hPl : P.length = n := by rw [← hP]; simpa using hn
  unfold Vg.Wk.fidx
  rw [hP]
  have hn2 := hn
  rw [hn] at hcap ⊢
  have H_h := Lib.hid h; clear h; have H_hn := Lib.hid hn; clear hn; have H_hP := Lib.hid hP; clear hP; have H_hPl := Lib.hid hPl; clear hPl; have H_hn2 := Lib.hid hn2; clear hn2
  go_enter Try.func94, Try.ntmps94
  go_wp2
  go_loopw [8] (fun i wr => ∃ k : Nat, k ≤ n ∧ i = .int .i64 k ∧ (P.take k).any (fun x => decide (0 < x)) = false ∧ Vg.Grows w wr) (fun i _ => n - (intOf i).toNat)
  case atStart => exact ⟨0, by omega, rfl, by simp, Vg.Grows.refl _⟩
  case round =>
    obtain ⟨k, hk, rfl, hpre, hgr⟩ := hrel
    by_cases hlt : k < n
    · have hkq : k < qs.length := by rw [H_hn.out]; exact hlt
      have hkP : k < P.length := by rw [H_hPl.out]; exact hlt
      have hp := H_h.out.pcs k hkq
      obtain ⟨g, o, c, he, hg1, hg2, hc1, hc2, c0, c1, c3⟩ := H_h.out.row.queue k hkq
      rw [H_hn.out] at he hc1
      simp only [Value.slice.injEq] at he
      obtain ⟨rfl, -, rfl⟩ := he
      have hPk : P[k] = (qs[k].2.L.length : Int) := by simp [← H_hP.out]
      obtain ⟨⟨u, ⟨L, d, lo⟩⟩, hx⟩ : ∃ x, qs[k] = x := ⟨_, rfl⟩
      rw [hx] at c0 c1 c3 hp hPk
      simp only [] at c0 c1 c3 hp hPk
      obtain ⟨ua, uc, rfl⟩ := hp.shape
      have hsn := List.take_succ_eq_append_getElem hkP
      rw [hPk] at hsn
      have hidx := Vg.idx_at (p := fun x => decide (0 < x)) hkP hpre
      rw [hPk] at hidx
      have c0 := (hgr.below.cell (p := ⟨g, o + k * 3, none⟩) hg2).trans c0
      have c1 := (hgr.below.cell (p := ⟨g, o + k * 3 + 1, none⟩) hg2).trans c1
      have c3 := (hgr.below.cell (p := ⟨g, o + k * 3 + 2, none⟩) hg2).trans c3
      have hgl : g < wr.heap.size := Nat.lt_of_lt_of_le hg2 hgr.size
      obtain ⟨N, hN⟩ : ∃ N, L.length = N := ⟨_, rfl⟩
      rw [hN] at hp hPk hsn hidx c0
      by_cases hpos : (0 : Int) < N
      · have hi := hidx (by simpa using hpos)
        have hdp : decide ((0 : Int) < N) = true := by simpa using hpos
        have H_hpre := Lib.hid hpre; clear hpre; have H_hsn := Lib.hid hsn; clear hsn; have H_hx := Lib.hid hx; clear hx; have H_hp := Lib.hid hp; clear hp; have H_hPk := Lib.hid hPk; clear hPk; have H_hidx := Lib.hid hidx; clear hidx; have H_hi := Lib.hid hi; clear hi; have H_hN := Lib.hid hN; clear hN; have H_hdp := Lib.hid hdp; clear hdp
        go_wp2_with ((go_at_call 95; refine (work_first1 _ _ _ _ _ _).mono ?_; rintro e w1 ⟨rfl, hg1⟩; rw [H_hdp.out]))
        go_ret
        rw [H_hi.out]
        exact ⟨rfl, hgr.trans hg1⟩
      · have hdp : decide ((0 : Int) < N) = false := by simpa using hpos
        have hnx : (P.take (k + 1)).any (fun x => decide (0 < x)) = false := by rw [hsn, List.any_append, hpre]; simp; omega
        have H_hpre := Lib.hid hpre; clear hpre; have H_hsn := Lib.hid hsn; clear hsn; have H_hx := Lib.hid hx; clear hx; have H_hp := Lib.hid hp; clear hp; have H_hPk := Lib.hid hPk; clear hPk; have H_hidx := Lib.hid hidx; clear hidx; have H_hN := Lib.hid hN; clear hN; have H_hdp := Lib.hid hdp; clear hdp; have H_hnx := Lib.hid hnx; clear hnx
        go_wp2_with ((go_at_call 95; refine (work_first1 _ _ _ _ _ _).mono ?_; rintro e w1 ⟨rfl, hg1⟩; rw [H_hdp.out]))
        exact ⟨⟨k + 1, by omega, by go_num, H_hnx.out, hgr.trans hg1⟩, by simp [intOf]; omega⟩
    · have hkn : k = n := by omega
      subst hkn
      have hi : Vg.idx (fun x => decide (0 < x)) P = -1 := Vg.idx_none (by rw [← hpre, List.take_of_length_le (by rw [H_hPl.out]; exact Nat.le_refl _)])
      have H_hpre := Lib.hid hpre; clear hpre; have H_hi := Lib.hid hi; clear hi
      go_wp2
      go_ret
      rw [H_hi.out]
      exact ⟨rfl, hgr⟩
theorem wk_first (h : WK w b B qs v) {r : Int} (hr : Vg.Wk.fidx (qs.map (·.2)) = r) (hlo : -1 ≤ r) (hhi : r ≤ 1000000) :
    Calls Try.prog 23 #[.pointer (some ⟨b, 0, none⟩)] w fun e w' => e = .returned (.tuple #[.int .i64 (max r 0), .bool (decide (0 ≤ r))]) ∧ Vg.Grows w w' := by
  have c0 := Vg.cells_of h.tab 0
  simp at c0
  obtain ⟨va, vc, rfl⟩ := h.row.shape
  have hlt := h.lt
  have H_h := Lib.hid h; clear h; have H_hr := Lib.hid hr; clear hr
  by_cases h0 : r < 0
  · have hr1 : r = -1 := by omega
    subst hr1
    go_enter Try.func23, Try.ntmps23
    go_wp2_with ((go_at_call 94; refine (work_fidx H_h.out).mono ?_; rintro e w1 ⟨rfl, hg1⟩; rw [H_hr.out]))
    go_returns
    exact ⟨rfl, hg1⟩
  · have h1 : 0 ≤ r := by omega
    have hmx : max r 0 = r := by omega
    have hdd : decide (0 ≤ r) = true := by simpa using h1
    rw [hmx, hdd]
    have H_hmx := Lib.hid hmx; clear hmx
    go_enter Try.func23, Try.ntmps23
    go_wp2_with ((go_at_call 94; refine (work_fidx H_h.out).mono ?_; rintro e w1 ⟨rfl, hg1⟩; rw [H_hr.out]))
    go_returns
    exact ⟨rfl, hg1⟩
end
end Go.Proofs.Ytiinhofmhoplfaa
