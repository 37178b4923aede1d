/- The document's table of ceilings: Held, Level; Same. -/
import Derived.Test.YtiinhofmhoplfaaCeilS
set_option linter.unusedSimpArgs false
set_option linter.unusedVariables false
set_option maxHeartbeats 2000000
set_option maxRecDepth 100000
namespace Go.Proofs.Ytiinhofmhoplfaa
open Go.ChangeShapes Go.WideShapes Go.ChangeAt Go.RowKit
section
variable {w : World} {L : List Int} {sa : Option Addr} {sc S : Nat}
theorem same05 {S' : Nat} {M : List Int} {sb : Option Addr} {sd : Nat} (hr : Vg.Reads S w (.slice sa L.length sc) L.length (Vg.ics L)) (hq : Vg.Reads S' w (.slice sb M.length sd) M.length (Vg.ics M)) (hL : L.length ≤ 100000) (hM : M.length ≤ 100000) :
    Calls Try.prog 37 #[.slice sa L.length sc, .slice sb M.length sd] w fun e w' => e = .returned (.bool (decide (L = M))) ∧ Vg.Grows w w' := by
  have HR := Lib.hid hr
  have HQ := Lib.hid hq
  clear hr hq
  by_cases hlen : L.length = M.length
  · obtain ⟨n, hn⟩ : ∃ n, M.length = n := ⟨_, rfl⟩
    have h1 := HR.out
    have h2 := HQ.out
    rw [hlen, hn] at h1 ⊢
    rw [hn] at h2
    have hn1 : L.length = n := by omega
    have hne : ((n : Int) != n) = false := by simp
    have HL := Lib.hid hn1
    have HM := Lib.hid hn
    have H1 := Lib.hid h1
    have H2 := Lib.hid h2
    have hn2 : n ≤ 100000 := by omega
    clear hn hlen hn1 hL hM h1 h2 HR HQ
    go_enter Try.func37, Try.ntmps37
    go_wp2
    go_loopw [13] (fun i wr => ∃ k : Nat, k ≤ n ∧ i = .int .i64 k ∧ L.take k = M.take k ∧ Vg.Grows w wr) (fun i _ => n - (intOf i).toNat)
    case atStart => exact ⟨0, by omega, rfl, by simp, Vg.Grows.refl _⟩
    case round =>
      obtain ⟨k, hk, rfl, hpre, hgr⟩ := hrel
      by_cases hlt : k < n
      · have q1 := H1.out
        have q2 := H2.out
        obtain ⟨g1, o1, rfl, hg1, hc1, hm1, hx1⟩ := q1.open (by rw [List.length_map, HL.out]; omega)
        obtain ⟨g2, o2, rfl, hg2, hc2, hm2, hx2⟩ := q2.open (by rw [List.length_map, HM.out]; omega)
        have a1 := hx1 k (by rw [List.length_map, HL.out]; omega)
        have a2 := hx2 k (by rw [List.length_map, HM.out]; omega)
        simp only [Vg.ics, List.getElem_map] at a1 a2
        have b1 := (hgr.below.cell (p := ⟨g1, o1 + k, none⟩) hg1).trans a1
        have b2 := (hgr.below.cell (p := ⟨g2, o2 + k, none⟩) hg2).trans a2
        have s1 := List.take_succ_eq_append_getElem (l := L) (i := k) (by rw [HL.out]; omega)
        have s2 := List.take_succ_eq_append_getElem (l := M) (i := k) (by rw [HM.out]; omega)
        have hsc : sc ≤ 9223372036854775807 := hm1
        have hsd : sd ≤ 9223372036854775807 := hm2
        have hgl1 : g1 < wr.heap.size := Nat.lt_of_lt_of_le hg1 hgr.size
        have hgl2 : g2 < wr.heap.size := Nat.lt_of_lt_of_le hg2 hgr.size
        clear hx1 hx2 a1 a2 q1 q2
        generalize hx : L[k]'(by rw [HL.out]; omega) = x at b1 s1
        generalize hy : M[k]'(by rw [HM.out]; omega) = y at b2 s2
        by_cases hxy : x = y
        · subst hxy
          have hne2 : (x != x) = false := by simp
          have H_hpre := Lib.hid hpre; clear hpre; have H_s1 := Lib.hid s1; clear s1; have H_s2 := Lib.hid s2; clear s2; have H_hx := Lib.hid hx; clear hx; have H_hy := Lib.hid hy; clear hy
          go_wp2
          go_quiet (fail)
          go_wp2
          exact ⟨⟨k + 1, by omega, by go_num, by rw [H_s1.out, H_s2.out, H_hpre.out], by (repeat' (first | (with_reducible exact Vg.Grows.refl _) | (with_reducible assumption) | (with_reducible refine Vg.Grows.alloc ?_ _) | (with_reducible refine Vg.Grows.plus ?_ _ _) | (with_reducible refine Vg.Grows.drewN ?_ _) | (with_reducible refine Vg.Grows.drew ?_) | (with_reducible refine Vg.Grows.setCell ?_ ?_ _) | (with_reducible refine Vg.Grows.put ?_ ?_ _) | omega | (simp; omega) | (simp; done)))⟩, by simp [intOf]; omega⟩
        · have hne2 : (x != y) = true := by simp [hxy]
          have hLM : decide (L = M) = false := by
            simp only [decide_eq_false_iff_not]
            intro e
            subst e
            exact hxy (hx.symm.trans hy)
          have H_hpre := Lib.hid hpre; clear hpre; have H_s1 := Lib.hid s1; clear s1; have H_s2 := Lib.hid s2; clear s2; have H_hx := Lib.hid hx; clear hx; have H_hy := Lib.hid hy; clear hy; have H_hxy := Lib.hid hxy; clear hxy; have H_hLM := Lib.hid hLM; clear hLM
          go_wp2
          go_quiet (fail)
          go_wp2
          go_ret
          rw [H_hLM.out]
          exact ⟨rfl, by (repeat' (first | (with_reducible exact Vg.Grows.refl _) | (with_reducible assumption) | (with_reducible refine Vg.Grows.alloc ?_ _) | (with_reducible refine Vg.Grows.plus ?_ _ _) | (with_reducible refine Vg.Grows.drewN ?_ _) | (with_reducible refine Vg.Grows.drew ?_) | (with_reducible refine Vg.Grows.setCell ?_ ?_ _) | (with_reducible refine Vg.Grows.put ?_ ?_ _) | omega | (simp; omega) | (simp; done)))⟩
      · have hkn : k = n := by omega
        subst hkn
        have hLM : decide (L = M) = true := by
          rw [List.take_of_length_le (by rw [HL.out]; exact Nat.le_refl _), List.take_of_length_le (by rw [HM.out]; exact Nat.le_refl _)] at hpre
          simp [hpre]
        have H_hpre := Lib.hid hpre; clear hpre; have H_hLM := Lib.hid hLM; clear hLM
        go_wp2
        go_ret
        rw [H_hLM.out]
        exact ⟨rfl, hgr⟩
  · have hd : decide (L = M) = false := by
      simp only [decide_eq_false_iff_not]
      intro e; exact hlen (by rw [e])
    rw [hd]
    obtain ⟨n, hn⟩ : ∃ n, L.length = n := ⟨_, rfl⟩
    obtain ⟨m, hm⟩ : ∃ m, M.length = m := ⟨_, rfl⟩
    rw [hn, hm]
    have hne : ((n : Int) != m) = true := by simp; omega
    have H_hd := Lib.hid hd; clear hd; have H_hlen := Lib.hid hlen; clear hlen; have H_hn := Lib.hid hn; clear hn; have H_hm := Lib.hid hm; clear hm
    clear HR HQ hL hM
    go_enter Try.func37, Try.ntmps37
    go_wp2
    go_ret
    exact ⟨rfl, by (repeat' (first | (with_reducible exact Vg.Grows.refl _) | (with_reducible assumption) | (with_reducible refine Vg.Grows.alloc ?_ _) | (with_reducible refine Vg.Grows.plus ?_ _ _) | (with_reducible refine Vg.Grows.drewN ?_ _) | (with_reducible refine Vg.Grows.drew ?_) | (with_reducible refine Vg.Grows.setCell ?_ ?_ _) | (with_reducible refine Vg.Grows.put ?_ ?_ _) | omega | (simp; omega) | (simp; done)))⟩
theorem same05x {S S' : Nat} {L M : List Int} {v v' : Value} {w : World} {n m : Nat} (hr : Vg.Reads S w v n (Vg.ics L)) (hn : L.length = n) (hq : Vg.Reads S' w v' m (Vg.ics M)) (hm : M.length = m) (hL : L.length ≤ 100000) (hM : M.length ≤ 100000) :
    Calls Try.prog 37 #[v, v'] w fun e w' => e = .returned (.bool (decide (L = M))) ∧ Vg.Grows w w' := by
  subst hn hm
  obtain ⟨a, c, rfl⟩ : ∃ a c, v = .slice a L.length c := by
    rcases hr with ⟨rfl, h0, _⟩ | ⟨g, off, cap, rfl, _⟩
    · exact ⟨none, 0, by rw [h0]⟩
    · exact ⟨_, _, rfl⟩
  obtain ⟨a', c', rfl⟩ : ∃ a c, v' = .slice a M.length c := by
    rcases hq with ⟨rfl, h0, _⟩ | ⟨g, off, cap, rfl, _⟩
    · exact ⟨none, 0, by rw [h0]⟩
    · exact ⟨_, _, rfl⟩
  exact same05 hr hq hL hM
end
section
variable {w w' : World} {L : List Int} {M : List Vg.Mx} {S : Nat → Prop} {n : Nat} {v : Value}
abbrev rtabC (a b : Value) : Obj := .cells #[a, b] 57
theorem rt_held (task : Int) (h : RT w S M n v) (hM : M.length ≤ 1000) :
    Calls Try.prog 39 #[v, .int .i64 task] w fun e w' => ∃ a c, e = .returned (.slice a (Vg.Tb.of M task M.length).length c) ∧ Vg.Reads w.heap.size w' (.slice a (Vg.Tb.of M task M.length).length c) (Vg.Tb.of M task M.length).length (nats (Vg.Tb.of M task M.length)) ∧ Vg.Grows w w' := by
  obtain ⟨i0, hi', hz0, hz1, hz2⟩ := info_parts Try.info_int
  have hcc : ∃ ca cc ha p hc, v = .agg #[.slice ca M.length cc, .slice ha p hc] ∧ cc ≤ 9223372036854775807 ∧ M.length ≤ cc := by
    obtain ⟨ca, cc, ha, hc, H, rfl, h1, h2, h3, h4⟩ := h
    exact ⟨ca, cc, ha, _, hc, rfl, h1.1.cap_le, h1.1.len_le⟩
  obtain ⟨ca, cc, ha, p, hc, rfl, hcc, hqc⟩ := hcc
  obtain ⟨q, hq⟩ : ∃ q, M.length = q := ⟨_, rfl⟩
  rw [hq] at h hM hqc ⊢
  have H_h := Lib.hid h; clear h; have H_hq := Lib.hid hq; clear hq
  go_enter Try.func39, Try.ntmps39
  go_wp2
  obtain ⟨b, hb⟩ : ∃ b, w.heap.size = b := ⟨_, rfl⟩
  obtain ⟨W0, hW0⟩ : ∃ W0, w.alloc (rtabC (.slice ca q cc) (.slice ha p hc)) = W0 := ⟨_, rfl⟩
  have g0 : Vg.blk W0 b = some (rtabC (.slice ca q cc) (.slice ha p hc)) := by rw [← hW0, ← hb]; exact Vg.alloc_heap_at rfl
  have g1 : Vg.Grows w W0 := by rw [← hW0]; (repeat' (first | (with_reducible exact Vg.Grows.refl _) | (with_reducible assumption) | (with_reducible refine Vg.Grows.alloc ?_ _) | (with_reducible refine Vg.Grows.plus ?_ _ _) | (with_reducible refine Vg.Grows.drewN ?_ _) | (with_reducible refine Vg.Grows.drew ?_) | (with_reducible refine Vg.Grows.setCell ?_ ?_ _) | (with_reducible refine Vg.Grows.put ?_ ?_ _) | omega | (simp; omega) | (simp; done)))
  have hsz : W0.heap.size = b + 1 := by rw [← hW0, ← hb]; simp
  simp only [hb]
  rw [hW0]
  have H_hb := Lib.hid hb; clear hb; have H_hW0 := Lib.hid hW0; clear hW0; have H_g0 := Lib.hid g0; clear g0; have H_hsz := Lib.hid hsz; clear hsz
  go_loopw [5, 12] (fun v i wr => ∃ k : Nat, k ≤ q ∧ i = .int .i64 k ∧ wr.ownsRow (b + 1) 3 1 v (Vg.Tb.of M task k).length (nats (Vg.Tb.of M task k)) ∧ Vg.Grows W0 wr) (fun _ i _ => q - (intOf i).toNat)
  case atStart => exact ⟨0, by omega, rfl, World.ownsRow_nil _ _ _ _, Vg.Grows.refl _⟩
  case round =>
    obtain ⟨k, hk, rfl, hown, hgr⟩ := hrel
    have hlen := Vg.Tb.of_len M task k
    obtain ⟨F, hF⟩ : ∃ F, Vg.Tb.of M task k = F := ⟨_, rfl⟩
    rw [hF] at hown hlen
    have hszr := hgr.size
    have hgw := g1.trans hgr
    rw [H_hsz.out] at hszr
    by_cases hlt : k < q
    · have hkM : k < M.length := by rw [H_hq.out]; exact hlt
      have hio := Vg.Tb.isOf_holder (task := task) hkM
      have hsu := Vg.Tb.of_succ M task k
      obtain ⟨⟨who, is⟩, hx⟩ : ∃ x, Vg.Tb.holder M k = x := ⟨_, rfl⟩
      rw [hx] at hio
      rw [hF] at hsu
      have d1 := hgr.blk H_g0.out
      have c_d1 := Vg.cells_of d1; have f_d1 := Vg.frozen_of d1; have p_d1 := Vg.setCell_of d1; have l_d1 := Vg.lt_of d1; have H_d1 := Lib.hid d1; clear d1
      cases is with
      | false =>
        rw [show Vg.Tb.isOf M task k = false from hio, if_neg (by simp), List.append_nil] at hsu
        have H_hown := Lib.hid hown; clear hown; have H_hF := Lib.hid hF; clear hF; have H_hio := Lib.hid hio; clear hio; have H_hsu := Lib.hid hsu; clear hsu; have H_hx := Lib.hid hx; clear hx
        go_wp2_with ((go_at_call 36; refine (rt_holder (S := S) (M := M) (n := n) k (H_h.out.grows hgw)).mono ?_; rintro e w1 ⟨rfl, hg1⟩; rw [H_hx.out]))
        exact ⟨⟨k + 1, by omega, by go_num, by rw [H_hsu.out]; exact Vg.owns_grows H_hown.out hg1, hgr.trans hg1⟩, by simp [intOf]; omega⟩
      | true =>
        by_cases hw : who = task
        · subst hw
          rw [show Vg.Tb.isOf M who k = true from (by rw [hio]; simp), if_pos rfl] at hsu
          have hbb : (who == who) = true := by simp
          have H_hown := Lib.hid hown; clear hown; have H_hF := Lib.hid hF; clear hF; have H_hio := Lib.hid hio; clear hio; have H_hsu := Lib.hid hsu; clear hsu; have H_hx := Lib.hid hx; clear hx
          go_wp2_with (first | (go_at_call 36; refine (rt_holder (S := S) (M := M) (n := n) k (H_h.out.grows hgw)).mono ?_; rintro e w1 ⟨rfl, hg1⟩; rw [H_hx.out]) | (at_builtin; (refine Vg.wpList_app (W0 := W0) ((hgr.trans hg1).alloc _) rfl (.tmp 27) (.tmp 29) 22 rfl (b + 1) (by rw [H_hsz.out]; exact Nat.le_refl _) (by have := hg1.size; simp only [World.size_alloc]; omega) 3 i0 (.int .i64 0) 1 8 Try.underlying22 hi' hz0 hz1 hz2 rfl (by decide) _ _ _ rfl ((Vg.owns_grows H_hown.out hg1).alloc _) _ 1 1 [.int .i64 k] rfl rfl (Vg.one_new (by (try simp only [World.size_alloc, Vg.plus_size, Vg.put_size, World.size_setCell, World.size_drew]) <;> omega)) (by simp [Value.oneCell']) (by unfold maxLen; omega) (by omega) ?_); intro v' y' m' hown' hsz'))
          refine ⟨⟨k + 1, by omega, by go_num, ?_, by (repeat' (first | (with_reducible exact Vg.Grows.refl _) | (with_reducible assumption) | (with_reducible refine Vg.Grows.alloc ?_ _) | (with_reducible refine Vg.Grows.plus ?_ _ _) | (with_reducible refine Vg.Grows.drewN ?_ _) | (with_reducible refine Vg.Grows.drew ?_) | (with_reducible refine Vg.Grows.setCell ?_ ?_ _) | (with_reducible refine Vg.Grows.put ?_ ?_ _) | omega | (simp; omega) | (simp; done)))⟩, by simp [intOf]; omega⟩
          rw [H_hsu.out, List.length_append, nats, List.map_append]
          exact hown'
        · rw [show Vg.Tb.isOf M task k = false from (by rw [hio]; simp [hw]), if_neg (by simp), List.append_nil] at hsu
          have hbb : (who == task) = false := by simp [hw]
          have H_hown := Lib.hid hown; clear hown; have H_hF := Lib.hid hF; clear hF; have H_hio := Lib.hid hio; clear hio; have H_hsu := Lib.hid hsu; clear hsu; have H_hx := Lib.hid hx; clear hx; have H_hw := Lib.hid hw; clear hw
          go_wp2_with ((go_at_call 36; refine (rt_holder (S := S) (M := M) (n := n) k (H_h.out.grows hgw)).mono ?_; rintro e w1 ⟨rfl, hg1⟩; rw [H_hx.out]))
          exact ⟨⟨k + 1, by omega, by go_num, by rw [H_hsu.out]; exact Vg.owns_grows H_hown.out hg1, hgr.trans hg1⟩, by simp [intOf]; omega⟩
    · obtain rfl : k = q := by omega
      obtain ⟨a', c', rfl⟩ := Vg.owns_shape hown
      have H_hown := Lib.hid hown; clear hown; have H_hF := Lib.hid hF; clear hF
      go_wp2
      go_ret
      rw [H_hF.out]
      exact ⟨a', c', rfl, (Vg.Reads.of_owns H_hown.out).weaken (by have := H_hb.out; omega), g1.trans hgr⟩
theorem rt_level (task prio : Int) (h : RT w S M n v) (hM : M.length ≤ 1000) :
    Calls Try.prog 41 #[v, .int .i64 task, .int .i64 prio] w fun e w' => e = .returned (.int .i64 (Vg.Tb.level M (Vg.Tb.of M task M.length) prio)) ∧ Vg.Grows w w' := by
  have hcc : ∃ ca cc ha p hc, v = .agg #[.slice ca M.length cc, .slice ha p hc] ∧ cc ≤ 9223372036854775807 ∧ M.length ≤ cc ∧ Vg.Reads 0 w (.slice ca M.length cc) M.length (Vg.ics (Vg.Tb.cs M)) := by
    obtain ⟨ca, cc, ha, hc, H, rfl, h1, h2, h3, h4⟩ := h
    exact ⟨ca, cc, ha, _, hc, rfl, h1.1.cap_le, h1.1.len_le, h1.1⟩
  obtain ⟨ca, cc, ha, p, hc, rfl, hcc, hqc, h1⟩ := hcc
  obtain ⟨q, hq⟩ : ∃ q, M.length = q := ⟨_, rfl⟩
  rw [hq] at h hM hqc h1 ⊢
  have hlt0 : ∀ i ∈ Vg.Tb.of M task q, i < q := fun i hi => Vg.Tb.of_lt hi
  have hlen0 := Vg.Tb.of_len M task q
  obtain ⟨F, hF⟩ : ∃ F, Vg.Tb.of M task q = F := ⟨_, rfl⟩
  rw [hF] at hlt0 hlen0 ⊢
  obtain ⟨N, hN⟩ : ∃ N, F.length = N := ⟨_, rfl⟩
  rw [hN] at hlen0
  have H_h := Lib.hid h; clear h; have H_hq := Lib.hid hq; clear hq; have H_h1 := Lib.hid h1; clear h1; have H_hlt0 := Lib.hid hlt0; clear hlt0; have H_hF := Lib.hid hF; clear hF; have H_hN := Lib.hid hN; clear hN
  go_enter Try.func41, Try.ntmps41
  obtain ⟨b, hb⟩ : ∃ b, w.heap.size = b := ⟨_, rfl⟩
  have hcr := rt_held (w := w.alloc (rtabC (.slice ca q cc) (.slice ha p hc))) (n := n) (S := S) (M := M) task (H_h.out.grows (by (repeat' (first | (with_reducible exact Vg.Grows.refl _) | (with_reducible assumption) | (with_reducible refine Vg.Grows.alloc ?_ _) | (with_reducible refine Vg.Grows.plus ?_ _ _) | (with_reducible refine Vg.Grows.drewN ?_ _) | (with_reducible refine Vg.Grows.drew ?_) | (with_reducible refine Vg.Grows.setCell ?_ ?_ _) | (with_reducible refine Vg.Grows.put ?_ ?_ _) | omega | (simp; omega) | (simp; done))))) (by rw [H_hq.out]; exact hM)
  rw [H_hq.out, H_hF.out, H_hN.out] at hcr
  have HCR := Lib.hid hcr
  clear hcr
  have H_hb := Lib.hid hb; clear hb
  go_wp2_with ((go_at_call 39; refine HCR.out.mono ?_; rintro e w1 ⟨ua, uc, rfl, hu, hg1⟩; have d1 := hg1.blk (Vg.alloc_heap_at rfl); have hgw : Vg.Grows w w1 := ((Vg.Grows.refl w).alloc _).trans hg1; rw [H_hb.out] at d1 ⊢; have c_d1 := Vg.cells_of d1; have f_d1 := Vg.frozen_of d1; have p_d1 := Vg.setCell_of d1; have l_d1 := Vg.lt_of d1; have H_d1 := Lib.hid d1; clear d1; have H_hu := Lib.hid hu; clear hu; have H_hg1 := Lib.hid hg1; clear hg1))
  go_loop [2, 13] (fun x i => ∃ k : Nat, k ≤ N ∧ i = .int .i64 k ∧ x = .int .i64 (Vg.Tb.level M (F.take k) prio)) (fun _ i => N - (intOf i).toNat)
  case atStart => exact ⟨0, by omega, rfl, rfl⟩
  case round =>
    obtain ⟨k, hk, rfl, rfl⟩ := hrel
    obtain ⟨cur, hcur⟩ : ∃ cur, Vg.Tb.level M (F.take k) prio = cur := ⟨_, rfl⟩
    rw [hcur]
    by_cases hlt : k < N
    · have hkF : k < F.length := by rw [H_hN.out]; exact hlt
      obtain ⟨g, off, rfl, hg, hc1, hm1, hx⟩ := H_hu.out.open (by simp [nats]; omega)
      have hm1 : uc ≤ 9223372036854775807 := hm1
      have hcell := hx k (by simp [nats]; exact hkF)
      simp only [nats, List.getElem_map] at hcell
      have htk := List.take_succ_eq_append_getElem hkF
      obtain ⟨i, hi⟩ : ∃ i, F[k] = i := ⟨_, rfl⟩
      have hiq := H_hlt0.out i (by rw [← hi]; exact List.getElem_mem _)
      rw [hi] at hcell htk
      have hiM : i < M.length := by rw [H_hq.out]; exact hiq
      obtain ⟨g2, off2, rfl, hg2, -, -, hx2⟩ := H_h1.out.open (by simp [Vg.Tb.cs]; omega)
      have hcell2 := hx2 i (by simp [Vg.Tb.cs]; exact hiM)
      simp only [Vg.ics, Vg.Tb.cs, List.getElem_map] at hcell2
      have hnext := Vg.Tb.level_snoc M (F.take k) i prio
      rw [← htk, hcur, List.getElem?_eq_getElem hiM] at hnext
      simp only [Option.getD_some] at hnext
      obtain ⟨c, hc⟩ : ∃ c, M[i].c = c := ⟨_, rfl⟩
      rw [hc] at hcell2 hnext
      have hcell2 := (hgw.below.cell (p := ⟨g2, off2 + i, none⟩) hg2).trans hcell2
      have hg2w : g2 < w1.heap.size := Nat.lt_of_lt_of_le hg2 hgw.size
      clear hx hx2
      by_cases hmx : cur < c
      · have hnx : Vg.Tb.level M (F.take (k + 1)) prio = c := by rw [hnext]; omega
        have H_hi := Lib.hid hi; clear hi; have H_htk := Lib.hid htk; clear htk; have H_hnext := Lib.hid hnext; clear hnext; have H_hc := Lib.hid hc; clear hc; have H_hcur := Lib.hid hcur; clear hcur; have H_hnx := Lib.hid hnx; clear hnx
        go_wp2
        exact ⟨⟨k + 1, by omega, by go_num, by rw [H_hnx.out]⟩, by simp [intOf]; omega⟩
      · have hnx : Vg.Tb.level M (F.take (k + 1)) prio = cur := by rw [hnext]; omega
        have H_hi := Lib.hid hi; clear hi; have H_htk := Lib.hid htk; clear htk; have H_hnext := Lib.hid hnext; clear hnext; have H_hc := Lib.hid hc; clear hc; have H_hcur := Lib.hid hcur; clear hcur; have H_hnx := Lib.hid hnx; clear hnx
        go_wp2
        exact ⟨⟨k + 1, by omega, by go_num, by rw [H_hnx.out]⟩, by simp [intOf]; omega⟩
    · obtain rfl : k = N := by omega
      rw [List.take_of_length_le (by rw [H_hN.out]; exact Nat.le_refl _)] at hcur
      have H_hcur := Lib.hid hcur; clear hcur
      go_wp2
      go_ret
      rw [H_hcur.out]
      exact ⟨rfl, hgw⟩
end
end Go.Proofs.Ytiinhofmhoplfaa
