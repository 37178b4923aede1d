/- CeilingOne: the walk. -/
import Derived.Test.YtiinhofmhoplfaaCeilL
set_option linter.unusedSimpArgs false
set_option linter.unusedVariables false
set_option maxHeartbeats 4000000
set_option maxRecDepth 100000
namespace Vg
open Go
theorem Tb.cs_len {M : List Mx} {L : List Int} (h : Tb.cs M = L) : M.length = L.length := by rw [← h]; unfold Tb.cs; simp
theorem Tb.cs_get {M : List Mx} {L : List Int} (h : Tb.cs M = L) {i : Nat} (hi : i < M.length) : M[i].c = L[i]'(by rw [← Tb.cs_len h]; exact hi) := by
  subst h; simp [Tb.cs]
end Vg
namespace Go.Proofs.Ytiinhofmhoplfaa
open Go.ChangeShapes Go.WideShapes Go.ChangeAt Go.RowKit
theorem CeilingOne_walk (ca : Option Addr) (cn cc : Nat) (CD : Nat → Nat → Int) (a : Option Addr) (len cap : Nat) (D : Nat → Nat → Int) (m task prio : Int) (w : World) (hrC : Vg.intRows w [.i64] ca cn cc CD) (hr : Vg.intRows w [.i64, .i64, .i64, .i64] a len cap D) :
    Calls Try.prog 6 #[.slice ca cn cc, .slice a len cap, .int .i64 m, .int .i64 task, .int .i64 prio] w fun e w' => e = .returned (.bool true) ∧ Vg.Grows w w' := by
  obtain ⟨L, hIR, hLl⟩ : ∃ L, Vg.IR w ca cc L ∧ L.length = cn := ⟨_, Vg.IR.of_rows hrC, by simp⟩
  subst hLl
  have hcc1 := hIR.1
  have hcc2 : cc ≤ 9223372036854775807 := hIR.2.1
  clear hrC
  have hlen := hr.1
  have hcap : cap ≤ 9223372036854775807 := hr.2.1
  by_cases hok : L.length ≤ 16 ∧ L.any Vg.oddC = false
  · obtain ⟨h1, h2⟩ := hok
    have RH := Lib.hid (fun h => Vg.intRows.open (by decide) hr h)
    clear hr
    have H_hIR := Lib.hid hIR; clear hIR; have H_h2 := Lib.hid h2; clear h2
    go_enter Try.func6, Try.ntmps6
    go_wp2_with ((go_at_call 28; refine (lives12 _).mono ?_; rintro e w1 ⟨rfl, x0, n0, rfl⟩))
    refine (ceil_new (H_hIR.out.grows ((Vg.Grows.refl w).plus x0 n0)) h1 H_h2.out).mono ?_
    rintro e W0 ⟨v, rfl, hs, hg0'⟩
    obtain ⟨b, hb⟩ : ∃ b, w.heap.size + Vg.sz x0 = b := ⟨_, rfl⟩
    simp only [Vg.plus_size, hb] at hs ⊢
    have hg0 : Vg.Grows w W0 := ((Vg.Grows.refl w).plus x0 n0).trans hg0'
    have hbw : w.heap.size ≤ b := by omega
    have hB : w.heap.size ≤ b + 1 := by omega
    have hbB : b < b + 1 := by omega
    have hcs0 : Vg.Tb.cs (L.map fun c => ⟨c, false, 0⟩) = L := by unfold Vg.Tb.cs; rw [List.map_map]; exact List.map_id' L
    have H_hb := Lib.hid hb; clear hb; have H_hs := Lib.hid hs; clear hs; have H_hcs0 := Lib.hid hcs0; clear hcs0
    clear hg0'
    by_cases hl : 60 < len
    · go_wp2_with fail
      go_ret
      exact ⟨rfl, hg0⟩
    · go_wp2_with fail
      go_loopw [45] (fun i wr => ∃ (k : Nat) (M : List Vg.Mx), k ≤ len ∧ i = .int .i64 k ∧ Vg.Grows w wr ∧ CE wr b (b + 1) M v ∧ Vg.Tb.cs M = L) (fun i _ => len - (intOf i).toNat)
      case atStart => exact ⟨0, _, by omega, rfl, hg0, H_hs.out, H_hcs0.out⟩
      case round =>
        obtain ⟨k, M, hk, rfl, hgr, hce, hcs⟩ := hrel
        by_cases hlt : k < len
        · obtain ⟨ba, off, rfl, hba, hc⟩ := RH.out (by omega)
          have hc0 := hc k hlt 0 (by decide)
          have hc1 := hc k hlt 1 (by decide)
          have hc2 := hc k hlt 2 (by decide)
          have hc3 := hc k hlt 3 (by decide)
          generalize D k 0 = kd at hc0
          generalize D k 1 = xm at hc1
          generalize D k 2 = xt at hc2
          generalize D k 3 = xp at hc3
          simp only [List.length_cons, List.length_nil, Nat.zero_add, List.getElem_cons_zero, List.getElem_cons_succ] at hc0 hc1 hc2 hc3
          have hc0 := (hgr.below.cell (p := ⟨ba, off + k * 4, none⟩) hba).trans hc0.1
          have hc1 := (hgr.below.cell (p := ⟨ba, off + k * 4 + 1, none⟩) hba).trans hc1.1
          have hc2 := (hgr.below.cell (p := ⟨ba, off + k * 4 + 2, none⟩) hba).trans hc2.1
          have hc3 := (hgr.below.cell (p := ⟨ba, off + k * 4 + 3, none⟩) hba).trans hc3.1
          have hbar : ba < wr.heap.size := Nat.lt_of_lt_of_le hba hgr.size
          clear hc
          have H_hce := Lib.hid hce; clear hce; have H_hcs := Lib.hid hcs; clear hcs
          go_wp2_with ((go_at_call 32; refine (ce_lock (M := M) _ _ _ (H_hce.out.grows (by (repeat' (first | (with_reducible exact Vg.Grows.refl _) | (with_reducible assumption) | (with_reducible refine Vg.Grows.alloc ?_ _) | (with_reducible refine Vg.Grows.plus ?_ _ _) | (with_reducible refine Vg.Grows.drewN ?_ _) | (with_reducible refine Vg.Grows.drew ?_) | (with_reducible refine Vg.Grows.setCell ?_ ?_ _) | (with_reducible refine Vg.Grows.put ?_ ?_ _) | omega | (simp; omega) | (simp; done))))) hbB).mono ?_; rintro e w3 ⟨rfl, hce3, ht3⟩; have hg3 := CE.grown (w0 := w) (H_hce.out.grows (w' := wr.alloc _) (by (repeat' (first | (with_reducible exact Vg.Grows.refl _) | (with_reducible assumption) | (with_reducible refine Vg.Grows.alloc ?_ _) | (with_reducible refine Vg.Grows.plus ?_ _ _) | (with_reducible refine Vg.Grows.drewN ?_ _) | (with_reducible refine Vg.Grows.drew ?_) | (with_reducible refine Vg.Grows.setCell ?_ ?_ _) | (with_reducible refine Vg.Grows.put ?_ ?_ _) | omega | (simp; omega) | (simp; done))))) (by (repeat' (first | (with_reducible exact Vg.Grows.refl _) | (with_reducible assumption) | (with_reducible refine Vg.Grows.alloc ?_ _) | (with_reducible refine Vg.Grows.plus ?_ _ _) | (with_reducible refine Vg.Grows.drewN ?_ _) | (with_reducible refine Vg.Grows.drew ?_) | (with_reducible refine Vg.Grows.setCell ?_ ?_ _) | (with_reducible refine Vg.Grows.put ?_ ?_ _) | omega | (simp; omega) | (simp; done)))) hB ht3; have H_hce3 := Lib.hid hce3; clear hce3; have H_ht3 := Lib.hid ht3; clear ht3))
          exact ⟨⟨k + 1, _, by omega, by go_num, hg3, H_hce3.out, by rw [Vg.Tb.cs_lock]; exact H_hcs.out⟩, by simp [intOf]; omega⟩
        · have hml := Vg.Tb.cs_len hcs
          obtain ⟨lv, hlv⟩ : ∃ lv, Vg.Tb.level M (Vg.Tb.of M task M.length) prio = lv := ⟨_, rfl⟩
          obtain ⟨⟨M1, cd⟩, hlk⟩ : ∃ p, Vg.Tb.lock M m task prio = p := ⟨_, rfl⟩
          by_cases hcd : cd = 0
          · subst hcd
            obtain ⟨i, hi, rfl, hpc, hfree, hM1⟩ := Vg.Tb.lock_ok (M := M) (m := m) (task := task) (prio := prio) (by rw [hlk])
            rw [hlk] at hM1
            have hM1 : M1 = M.set i ⟨M[i].c, true, task⟩ := hM1
            have hiL : i < L.length := by omega
            have hci := Vg.Tb.cs_get hcs hi
            obtain ⟨g, off, rfl, hg, -, -, hcell⟩ := H_hIR.out.icell i hiL
            obtain ⟨c, hc⟩ : ∃ c, M[i].c = c := ⟨_, rfl⟩
            rw [← hci, hc] at hcell
            have hi1 : i < M1.length := by rw [hM1]; simpa using hi
            have hg1 : M1[i] = ⟨c, true, task⟩ := by
              have : (M.set i ⟨M[i].c, true, task⟩)[i]'(by simpa using hi) = ⟨M[i].c, true, task⟩ := by simp
              subst hM1; rw [this, hc]
            have hho : Vg.Tb.holder M1 i = (task, true) := by rw [Vg.Tb.holder_in hi1, hg1]; rfl
            have hlk2 : Vg.Tb.lock M1 i task prio = (M1, 4) := by
              rw [Vg.Tb.lock_in hi1, hg1, if_neg (by show ¬ c < prio; omega), if_pos ⟨rfl, rfl⟩]
            have hun : Vg.Tb.unlock M1 i task = (M.set i ⟨c, false, task⟩, 0) := by
              rw [Vg.Tb.unlock_in hi1, hg1, if_pos ⟨rfl, rfl⟩]
              rw [hM1, List.set_set]
            obtain ⟨M2, hM2⟩ : ∃ M2, M.set i ⟨c, false, task⟩ = M2 := ⟨_, rfl⟩
            rw [hM2] at hun
            have hi2 : i < M2.length := by rw [← hM2]; simpa using hi
            have hg2 : M2[i] = ⟨c, false, task⟩ := by
              subst hM2; simp
            have hun2 : Vg.Tb.unlock M2 i task = (M2, 7) := by
              rw [Vg.Tb.unlock_in hi2, hg2, if_neg (by simp)]
            have hlv0 : Vg.Tb.lev M task M.length prio = lv := by rw [← Vg.Tb.level_lev]; exact hlv
            have hlv1 : Vg.Tb.level M1 (Vg.Tb.of M1 task M1.length) prio = max lv c := by
              rw [Vg.Tb.level_lev]
              have := Vg.Tb.lev_lock (task := task) (p := prio) hi hfree M.length
              rw [if_pos hi, hlv0, ← hM1, hc] at this
              rw [show M1.length = M.length by rw [hM1]; simp]
              exact this
            have hlv2 : Vg.Tb.level M2 (Vg.Tb.of M2 task M2.length) prio = lv := by
              rw [Vg.Tb.level_lev]
              have := Vg.Tb.lev_free (task := task) (p := prio) (x := ⟨c, false, task⟩) hi hfree rfl M.length
              rw [hM2, hlv0] at this
              rw [show M2.length = M.length by rw [← hM2]; simp]
              exact this
            obtain ⟨up, hup⟩ : ∃ up, max lv c = up := ⟨_, rfl⟩
            rw [hup] at hlv1
            have hu1 : lv ≤ up := by omega
            have hu2 : c ≤ up := by omega
            have hu3 : up = lv ∨ up = c := by omega
            clear hci hup hM1 hg1 hg2 hM2 hlv0
            have H_hce := Lib.hid hce; clear hce; have H_hcs := Lib.hid hcs; clear hcs; have H_hml := Lib.hid hml; clear hml; have H_hlv := Lib.hid hlv; clear hlv; have H_hlk := Lib.hid hlk; clear hlk; have H_hfree := Lib.hid hfree; clear hfree; have H_hc := Lib.hid hc; clear hc; have H_hho := Lib.hid hho; clear hho; have H_hlk2 := Lib.hid hlk2; clear hlk2; have H_hun := Lib.hid hun; clear hun; have H_hun2 := Lib.hid hun2; clear hun2; have H_hlv1 := Lib.hid hlv1; clear hlv1; have H_hlv2 := Lib.hid hlv2; clear hlv2
            have hcellG := Lib.hid hcell
            go_wp2_with fail
            refine (ce_level task prio H_hce.out).mono ?_
            rintro e w1 ⟨rfl, hgl1⟩
            rw [H_hlv.out]
            have hce1 := H_hce.out.grows hgl1
            have hgr1 := hgr.trans hgl1
            have H_hce1 := Lib.hid hce1; clear hce1
            clear hgl1
            go_wp2_with fail
            refine (ce_lock i task prio H_hce1.out hbB).mono ?_
            rintro e w2 ⟨rfl, hce2, ht2⟩
            have hgr2 := CE.grown H_hce1.out hgr1 hB ht2
            rw [H_hlk.out] at hce2 ⊢
            have H_hce2 := Lib.hid hce2; clear hce2
            clear ht2
            go_wp2_with fail
            refine (ce_holder i H_hce2.out).mono ?_
            rintro e w2' ⟨rfl, rfl⟩
            rw [H_hho.out]
            go_wp2_with fail
            refine (ce_level task prio H_hce2.out).mono ?_
            rintro e w3 ⟨rfl, hgl3⟩
            rw [H_hlv1.out]
            have hce3 := H_hce2.out.grows hgl3
            have hgr3 := hgr2.trans hgl3
            have H_hce3 := Lib.hid hce3; clear hce3
            clear hgl3
            go_wp2_with fail
            refine (ce_lock i task prio H_hce3.out hbB).mono ?_
            rintro e w4 ⟨rfl, hce4, ht4⟩
            have hgr4 := CE.grown H_hce3.out hgr3 hB ht4
            rw [H_hlk2.out] at hce4 ⊢
            have H_hce4 := Lib.hid hce4; clear hce4
            clear ht4
            have hcell4 := (hgr4.below.cell (p := ⟨g, off + i, none⟩) hg).trans hcellG.out
            have hg4 : g < w4.heap.size := Nat.lt_of_lt_of_le hg hgr4.size
            clear hcell
            have hi0 : (0 : Int) ≤ i := by omega
            have hiL2 : (i : Int) < L.length := by omega
            have hnb : ((up != lv) && (up != c)) = false := by
              rcases hu3 with h | h
              · simp [h]
              · simp [h]
            have hu4 : (up != lv) = false ∨ ((up != lv) = true ∧ (up != c) = false) := by
              by_cases h : up = lv
              · exact .inl (by simp [h])
              · exact .inr ⟨by simp [h], by simp [hu3.resolve_left h]⟩
            clear hu3 hnb
            have tail : True := trivial
            rcases hu4 with hb1 | ⟨hb1, hb2⟩
            all_goals
              go_wp2_with fail
              refine (ce_unlock i task H_hce4.out hbB).mono ?_
              rintro e w5 ⟨rfl, hce5, ht5⟩
              have hgr5 := CE.grown H_hce4.out hgr4 hB ht5
              rw [H_hun.out] at hce5 ⊢
              have H_hce5 := Lib.hid hce5; clear hce5
              clear ht5
              go_wp2_with fail
              refine (ce_level task prio H_hce5.out).mono ?_
              rintro e w6 ⟨rfl, hgl6⟩
              rw [H_hlv2.out]
              have hce6 := H_hce5.out.grows hgl6
              have hgr6 := hgr5.trans hgl6
              have H_hce6 := Lib.hid hce6; clear hce6
              clear hgl6
              go_wp2_with fail
              refine (ce_unlock i task H_hce6.out hbB).mono ?_
              rintro e w7 ⟨rfl, hce7, ht7⟩
              have hgr7 := CE.grown H_hce6.out hgr6 hB ht7
              rw [H_hun2.out]
              clear ht7 hce7
              go_wp2_with fail
              go_ret
              exact ⟨by simp, hgr7⟩
          · have hM1 := Vg.Tb.lock_no (M := M) (m := m) (task := task) (prio := prio) (by rw [hlk]; exact hcd)
            rw [hlk] at hM1
            have hM1 : M1 = M := hM1
            subst hM1
            have hcb : (cd == 0) = false := by simp [hcd]
            have H_hce := Lib.hid hce; clear hce; have H_hcs := Lib.hid hcs; clear hcs; have H_hml := Lib.hid hml; clear hml; have H_hlv := Lib.hid hlv; clear hlv; have H_hlk := Lib.hid hlk; clear hlk; have H_hcd := Lib.hid hcd; clear hcd
            go_wp2_with fail
            refine (ce_level task prio H_hce.out).mono ?_
            rintro e w1 ⟨rfl, hgl1⟩
            rw [H_hlv.out]
            have hce1 := H_hce.out.grows hgl1
            have hgr1 := hgr.trans hgl1
            have H_hce1 := Lib.hid hce1; clear hce1
            clear hgl1
            go_wp2_with fail
            refine (ce_lock m task prio H_hce1.out hbB).mono ?_
            rintro e w2 ⟨rfl, hce2, ht2⟩
            have hgr2 := CE.grown H_hce1.out hgr1 hB ht2
            rw [H_hlk.out] at hce2 ⊢
            have H_hce2 := Lib.hid hce2; clear hce2
            clear ht2
            go_wp2_with fail
            refine (ce_level task prio H_hce2.out).mono ?_
            rintro e w3 ⟨rfl, hgl3⟩
            rw [H_hlv.out]
            have hgr3 := hgr2.trans hgl3
            go_wp2_with fail
            go_ret
            exact ⟨by simp, hgr3⟩
  · have hno : 16 < L.length ∨ L.any Vg.oddC = true := by
      by_cases h : 16 < L.length
      · exact .inl h
      · refine .inr ?_
        cases h2 : L.any Vg.oddC with
        | true => rfl
        | false => exact absurd ⟨by omega, h2⟩ hok
    clear hr
    have H_hIR := Lib.hid hIR; clear hIR; have H_hno := Lib.hid hno; clear hno; have H_hok := Lib.hid hok; clear hok
    go_enter Try.func6, Try.ntmps6
    go_wp2_with (first | (go_at_call 28; refine (lives12 _).mono ?_; rintro e w1 ⟨rfl, x0, n0, rfl⟩) | (go_at_call 29; refine (ceil_new_no (L := L) (H_hIR.out.grows (by (repeat' (first | (with_reducible exact Vg.Grows.refl _) | (with_reducible assumption) | (with_reducible refine Vg.Grows.alloc ?_ _) | (with_reducible refine Vg.Grows.plus ?_ _ _) | (with_reducible refine Vg.Grows.drewN ?_ _) | (with_reducible refine Vg.Grows.drew ?_) | (with_reducible refine Vg.Grows.setCell ?_ ?_ _) | (with_reducible refine Vg.Grows.put ?_ ?_ _) | omega | (simp; omega) | (simp; done))))) H_hno.out).mono ?_; rintro e w1 ⟨rfl, rfl⟩))
    go_ret
    exact ⟨rfl, by (repeat' (first | (with_reducible exact Vg.Grows.refl _) | (with_reducible assumption) | (with_reducible refine Vg.Grows.alloc ?_ _) | (with_reducible refine Vg.Grows.plus ?_ _ _) | (with_reducible refine Vg.Grows.drewN ?_ _) | (with_reducible refine Vg.Grows.drew ?_) | (with_reducible refine Vg.Grows.setCell ?_ ?_ _) | (with_reducible refine Vg.Grows.put ?_ ?_ _) | omega | (simp; omega) | (simp; done)))⟩
end Go.Proofs.Ytiinhofmhoplfaa
