/- ServerWhole: the walk. -/
import Derived.Test.YtlgkcpgmnpoanaaServerL
set_option linter.unusedSimpArgs false
set_option linter.unusedVariables false
set_option maxHeartbeats 4000000
set_option maxRecDepth 20000
namespace Vg
theorem Srv.use_ok {s : Srv} {bu pe n en : Int} (h : (s.use bu pe n en).2 = 0) :
    (s.use bu pe n en).1.last = en ∧ owed (s.use bu pe n en).1.L = owed s.L + n ∧ 0 ≤ n ∧ n ≤ en ∧ en ≤ 4503599627370496 ∧ s.last ≤ en - n ∧ n ≤ s.left bu ∧ (s.use bu pe n en).1.L = (if n = 0 then s.L else owe (en + pe) n s.L) := by
  unfold Srv.use at h ⊢
  split at h
  · simp at h
  · split at h
    · simp at h
    · rename_i h1 h2
      rw [if_neg h1, if_neg h2]
      refine ⟨rfl, ?_, by omega, by omega, by omega, by omega, by omega, rfl⟩
      show owed (if n = 0 then s.L else owe (en + pe) n s.L) = _
      split
      · omega
      · rw [owed_owe]
theorem Srv.use_no {s : Srv} {bu pe n en : Int} (h : (s.use bu pe n en).2 ≠ 0) : (s.use bu pe n en).1 = s := by
  unfold Srv.use at h ⊢
  split at h
  · rename_i h1; rw [if_pos h1]
  · split at h
    · rename_i h1 h2; rw [if_neg h1, if_pos h2]
    · exact absurd rfl h
theorem Srv.refill_ok {s : Srv} {now : Int} (h : (s.refill now).2.2 = 0) : (s.refill now).1.last = now ∧ owed (s.refill now).1.L = owed s.L - (s.refill now).2.1 ∧ s.last ≤ now ∧ now ≤ 4503599627370496 ∧ (s.refill now).1.L = (due now s.L).2 ∧ (s.refill now).2.1 = (due now s.L).1 := by
  unfold Srv.refill at h ⊢
  split at h
  · simp at h
  · rename_i h1
    rw [if_neg h1]
    have := owed_due now s.L
    refine ⟨rfl, ?_, by omega, by omega, rfl, rfl⟩
    show owed (due now s.L).2 = _
    show _ = owed s.L - (due now s.L).1
    omega
theorem Srv.refill_no {s : Srv} {now : Int} (h : (s.refill now).2.2 ≠ 0) : (s.refill now).1 = s := by
  unfold Srv.refill at h ⊢
  split at h
  · rename_i h1; rw [if_pos h1]
  · exact absurd rfl h
theorem due_nonneg (now : Int) : ∀ {L : List (Int × Int)}, (∀ x ∈ L, 0 ≤ x.2) → 0 ≤ (due now L).1
  | [], _ => by simp [due]
  | x :: l, hx => by
    unfold due
    split
    · have := due_nonneg now (L := l) fun y hy => hx y (by simp [hy])
      have := hx x (by simp)
      show 0 ≤ x.2 + (due now l).1; omega
    · show (0 : Int) ≤ 0; omega
theorem due_all {now : Int} : ∀ {L : List (Int × Int)}, (∀ x ∈ L, x.1 ≤ now) → due now L = (owed L, [])
  | [], _ => rfl
  | x :: l, h => by
    rw [due, if_pos (h x (by simp)), due_all (L := l) fun y hy => h y (by simp [hy])]
    rfl
/-- All comes back within a period. -/
def Srv.Late (s : Srv) (pe : Int) : Prop := ∀ x ∈ s.L, x.1 ≤ s.last + pe
theorem Srv.act_late {s : Srv} {bu pe : Int} (x : Int × Int × Int) (h : s.Late pe) : (s.act bu pe x).Late pe := by
  unfold Srv.act
  split
  · by_cases h0 : (s.use bu pe x.2.1 x.2.2).2 = 0
    · obtain ⟨h1, _, h3, _, _, h4, _, h2⟩ := Srv.use_ok h0
      intro y hy
      rw [h2] at hy
      rw [h1]
      have hold : ∀ z ∈ s.L, z.1 ≤ x.2.2 + pe := fun z hz => by have := h z hz; omega
      split at hy
      · exact hold y hy
      · rcases owe_mem hy with hy | rfl | ⟨z, hz, he, rfl⟩
        · exact hold y hy
        · exact Int.le_refl _
        · exact hold z hz
    · rw [Srv.use_no h0]; exact h
  · split
    · by_cases h0 : (s.refill x.2.2).2.2 = 0
      · obtain ⟨h1, _, h3, _, h2, _⟩ := Srv.refill_ok h0
        intro y hy
        rw [h2] at hy
        rw [h1]
        have := h y ((due_sublist _ _).subset hy)
        omega
      · rw [Srv.refill_no h0]; exact h
    · exact h
end Vg
namespace Go.Proofs.Ytlgkcpgmnpoanaa
open Go.ChangeShapes Go.WideShapes Go.ChangeAt Go.RowKit
section
variable {w0 wx w3 : World} {b B S : Nat} {bu pe : Int} {s s' : Vg.Srv} {v v' : Value}
theorem one_step (n2 : b < S) (n3 : w0.heap.size ≤ b) (n6 : w0.heap.size ≤ S) (hSx : S ≤ wx.heap.size) (hg : Vg.Grows w0 wx) (hap : ∀ j, v.ownBlock = some j → S ≤ j)
    (hsa3 : SA w3 b B bu pe s' v') (ht3 : Vg.Touch (fun k => k = b ∨ v.ownBlock = some k) wx w3) (hov3 : ∀ k, v'.ownBlock = some k → v.ownBlock = some k ∨ wx.heap.size ≤ k) :
    S ≤ w3.heap.size ∧ Vg.Grows w0 w3 ∧ SA w3 b B bu pe s' v' ∧ (∀ j, v'.ownBlock = some j → S ≤ j) := by
  have hz3 := ht3.size
  refine ⟨by omega, ht3.grows hg fun k hk => ?_, hsa3, fun j hj => ?_⟩
  · rcases hk with rfl | hk
    · exact n3
    · have := hap k hk; omega
  · rcases hov3 j hj with h | h
    · exact hap j h
    · omega
end
theorem ServerWhole_walk (bu pe : Int) (a : Option Addr) (len cap : Nat) (D : Nat → Nat → Int) (w : World) (hm0 : -9223372036854775808 ≤ bu) (hm1 : bu ≤ 9223372036854775807) (hw0 : -9223372036854775808 ≤ pe) (hw1 : pe ≤ 9223372036854775807) (hr : Vg.intRows w [.i64, .i64, .i64] a len cap D) :
    Calls Try.prog 7 #[.int .i64 bu, .int .i64 pe, .slice a len cap] w fun e w' => e = .returned (.bool true) ∧ Vg.Grows w w' := by
  have hlen := hr.1
  have hcap : cap ≤ 9223372036854775807 := hr.2.1
  by_cases hok : 1 ≤ bu ∧ bu ≤ pe ∧ pe ≤ 1099511627776
  · obtain ⟨h1, h2, h3⟩ := hok
    by_cases hl : 60 < len
    · go_enter Try.func7, Try.ntmps7
      go_wp2_with (first | (go_at_call 26; refine (lives15 _).mono ?_; rintro e w1 ⟨rfl, x0, n0, rfl⟩) | (go_at_call 27; refine (sa_new h1 h2 h3).mono ?_; rintro e w1 ⟨rfl, hs, rfl⟩; have HSA := Lib.hid hs; clear hs))
      go_ret
      exact ⟨rfl, by (repeat' (first | (with_reducible exact Vg.Grows.refl _) | (with_reducible assumption) | (with_reducible refine Vg.Grows.alloc ?_ _) | (with_reducible refine Vg.Grows.plus ?_ _ _) | (with_reducible refine Vg.Grows.drewN ?_ _) | (with_reducible refine Vg.Grows.drew ?_) | (with_reducible refine Vg.Grows.setCell ?_ ?_ _) | (with_reducible refine Vg.Grows.put ?_ ?_ _) | omega | (simp; omega) | (simp; done)))⟩
    · have RH := Lib.hid (fun h => Vg.intRows.open (by decide) hr h)
      clear hr
      go_enter Try.func7, Try.ntmps7
      go_wp2_with (first | (go_at_call 26; refine (lives15 _).mono ?_; rintro e w1 ⟨rfl, x0, n0, rfl⟩) | (go_at_call 27; refine (sa_new h1 h2 h3).mono ?_; rintro e w1 ⟨rfl, hs, rfl⟩; have HSA := Lib.hid hs; clear hs))
      obtain ⟨b, hb⟩ : ∃ b, w.heap.size + Vg.sz x0 = b := ⟨_, rfl⟩
      obtain ⟨W0, hW0⟩ : ∃ W0, (Vg.plus w x0 n0).alloc (servC bu pe (.slice none 0 0) 0) = W0 := ⟨_, rfl⟩
      have g1 : SA W0 b (b + 1) bu pe ⟨[], 0⟩ (.slice none 0 0) := by
        have hs := HSA.out
        simp only [Vg.plus_size, hb] at hs
        rw [← hW0]
        exact hs
      have g4 : Vg.Grows w W0 := by rw [← hW0]; (repeat' (first | (with_reducible exact Vg.Grows.refl _) | (with_reducible assumption) | (with_reducible refine Vg.Grows.alloc ?_ _) | (with_reducible refine Vg.Grows.plus ?_ _ _) | (with_reducible refine Vg.Grows.drewN ?_ _) | (with_reducible refine Vg.Grows.drew ?_) | (with_reducible refine Vg.Grows.setCell ?_ ?_ _) | (with_reducible refine Vg.Grows.put ?_ ?_ _) | omega | (simp; omega) | (simp; done)))
      have g6 : b < W0.heap.size := g1.lt
      have n3' : w.heap.size ≤ b := by omega
      simp only [hb]
      rw [hW0]
      have H_hb := Lib.hid hb; clear hb; have H_hW0 := Lib.hid hW0; clear hW0; have H_g1 := Lib.hid g1; clear g1
      clear HSA
      obtain ⟨S, hS⟩ : ∃ S, W0.heap.size = S := ⟨_, rfl⟩
      have n5' := g4.size
      rw [hS] at g6 n5'
      have H_hS := Lib.hid hS; clear hS
      go_loopw [9, 10, 44] (fun la ou i wr => ∃ (k : Nat) (s : Vg.Srv) (v : Value), k ≤ len ∧ i = .int .i64 k ∧ la = .int .i64 s.last ∧ ou = .int .i64 (Vg.owed s.L) ∧ s.Inv bu ∧ s.Late pe ∧ S ≤ wr.heap.size ∧ Vg.Grows w wr ∧ SA wr b (b + 1) bu pe s v ∧
          (∀ j, v.ownBlock = some j → S ≤ j)) (fun _ _ i _ => len - (intOf i).toNat)
      case atStart =>
        exact ⟨0, ⟨[], 0⟩, _, by omega, rfl, rfl, rfl, Vg.Srv.inv0 h1, by simp [Vg.Srv.Late], by rw [H_hS.out]; exact Nat.le_refl _, g4, H_g1.out, fun j hj => by simp [Value.ownBlock] at hj⟩
      case round =>
        obtain ⟨k, s, v, hk, rfl, rfl, rfl, hinv, hlate, hsz, hgr, hsa, hap⟩ := hrel
        have hl0 : 0 ≤ s.last ∧ s.last ≤ 4503599627370496 := ⟨hinv.1, hinv.2.1⟩
        have how : 0 ≤ Vg.owed s.L ∧ Vg.owed s.L ≤ bu := ⟨Vg.owed_nonneg fun x hx => (hinv.2.2.2.1 x hx).2.2, hinv.2.2.2.2⟩
        by_cases hlt : k < len
        · obtain ⟨ba, off, rfl, hba, hc⟩ := RH.out (by omega)
          have hc0 := hc k hlt 0 (by decide)
          have hc1 := hc k hlt 1 (by decide)
          have hc2 := hc k hlt 2 (by decide)
          generalize D k 0 = kd at hc0
          generalize D k 1 = n_ at hc1
          generalize D k 2 = at_ at hc2
          simp only [List.length_cons, List.length_nil, Nat.zero_add, List.getElem_cons_zero, List.getElem_cons_succ] at hc0 hc1 hc2
          obtain ⟨hc0, hw0'⟩ := hc0
          obtain ⟨hc1, hw1'⟩ := hc1
          obtain ⟨hc2, hw2'⟩ := hc2
          have hbn := bounds_i64 hw1'
          have hbt := bounds_i64 hw2'
          have hc0 := (hgr.below.cell (p := ⟨ba, off + k * 3, none⟩) hba).trans hc0
          have hc1 := (hgr.below.cell (p := ⟨ba, off + k * 3 + 1, none⟩) hba).trans hc1
          have hc2 := (hgr.below.cell (p := ⟨ba, off + k * 3 + 2, none⟩) hba).trans hc2
          have hbar : ba < wr.heap.size := Nat.lt_of_lt_of_le hba hgr.size
          clear hc hw0' hw1' hw2'
          obtain ⟨⟨k1, k2, k3⟩, hx⟩ : ∃ x, Vg.effs s.last (kd, n_, at_) = x := ⟨_, rfl⟩
          have hxb := Vg.effs_bd (x := (kd, n_, at_)) hl0 hbt
          rw [hx] at hxb
          have hk2 : k2 = n_ := hxb.2.2
          have hk3 : -9223372036854775808 ≤ k3 ∧ k3 ≤ 9223372036854775807 := ⟨hxb.1, hxb.2.1⟩
          have hk2b : -9223372036854775808 ≤ k2 ∧ k2 ≤ 9223372036854775807 := by rw [hk2]; exact hbn
          clear hxb hk2
          have hsl := hsa.own
          have H_hx := Lib.hid hx; clear hx; have H_hsa := Lib.hid hsa; clear hsa; have H_hap := Lib.hid hap; clear hap; have H_hinv := Lib.hid hinv; clear hinv; have H_hsl := Lib.hid hsl; clear hsl; have H_hlate := Lib.hid hlate; clear hlate
          go_upto_block 2 with ((go_at_call 29; refine (plain15x H_hx.out _ hl0 hbn hbt).mono ?_; rintro e w1 ⟨rfl, xx, nn, rfl⟩))
          obtain ⟨wx, hwx⟩ : ∃ wx, Vg.plus (wr.alloc (.cells #[.int .i64 k1, .int .i64 k2, .int .i64 k3] 57)) xx nn = wx := ⟨_, rfl⟩
          obtain ⟨bt, hbt'⟩ : ∃ bt, wr.heap.size = bt := ⟨_, rfl⟩
          have x2 : Vg.blk wx bt = some (.cells #[.int .i64 k1, .int .i64 k2, .int .i64 k3] 57) := by rw [← hwx, ← hbt']; simp [go_sem]
          have hgx : Vg.Grows wr wx := by rw [← hwx]; (repeat' (first | (with_reducible exact Vg.Grows.refl _) | (with_reducible assumption) | (with_reducible refine Vg.Grows.alloc ?_ _) | (with_reducible refine Vg.Grows.plus ?_ _ _) | (with_reducible refine Vg.Grows.drewN ?_ _) | (with_reducible refine Vg.Grows.drew ?_) | (with_reducible refine Vg.Grows.setCell ?_ ?_ _) | (with_reducible refine Vg.Grows.put ?_ ?_ _) | omega | (simp; omega) | (simp; done)))
          have hsx : SA wx b (b + 1) bu pe s v := H_hsa.out.grows hgx
          have hSx : S ≤ wx.heap.size := Nat.le_trans hsz hgx.size
          have hgwx : Vg.Grows w wx := hgr.trans hgx
          have hbS : S ≤ bt := by omega
          have m3 : bt ≠ b := by omega
          have m4 : ∀ j, v.ownBlock = some j → j < bt := fun j hj => by rw [← hbt']; exact (H_hsl.out j hj).2
          have M4 := Lib.hid m4
          clear m4
          rw [hwx, hbt']
          have c_x2 := Vg.cells_of x2; have f_x2 := Vg.frozen_of x2; have p_x2 := Vg.setCell_of x2; have l_x2 := Vg.lt_of x2; have H_x2 := Lib.hid x2; clear x2
          have H_hsx := Lib.hid hsx; clear hsx; have H_hwx := Lib.hid hwx; clear hwx; have H_hbt' := Lib.hid hbt'; clear hbt'
          go_cut [9, 10] (fun la ou wy => ∃ v', la = .int .i64 (s.act bu pe (k1, k2, k3)).last ∧ ou = .int .i64 (Vg.owed (s.act bu pe (k1, k2, k3)).L) ∧ S ≤ wy.heap.size ∧ Vg.Grows w wy ∧ SA wy b (b + 1) bu pe (s.act bu pe (k1, k2, k3)) v' ∧ (∀ j, v'.ownBlock = some j → S ≤ j))
          case first =>
            by_cases hv0 : k1 = 0
            · subst hv0
              have ha : s.act bu pe (0, k2, k3) = (s.use bu pe k2 k3).1 := rfl
              have H_ha := Lib.hid ha; clear ha
              by_cases hu : (s.use bu pe k2 k3).2 = 0
              · have hub : ((s.use bu pe k2 k3).2 == 0) = true := by rw [hu]; rfl
                have huk := Vg.Srv.use_ok hu
                have hlf : s.left bu ≤ bu := by unfold Vg.Srv.left; split <;> omega
                have hsum : IntKind.i64.wrap (Vg.owed s.L + k2) = Vg.owed s.L + k2 := by rw [IntWalk.i64_in _ (by omega)]
                have H_huk := Lib.hid huk; clear huk; have H_hu := Lib.hid hu; clear hu
                go_wp2_with ((go_at_call 31; refine (sa_use (s := s) (v := v) (B := b + 1) k2 k3 H_hsx.out (by omega) (by omega) H_hinv.out ⟨by omega, h3⟩ ⟨h1, by omega⟩ hk2b hk3).mono ?_; rintro e w3 ⟨v', rfl, hsa3, ht3, hov3⟩; have z3 := ht3.blk H_x2.out (fun hh => hh.elim (fun h => m3 h) (fun h => by have := M4.out _ h; omega)); clear c_x2 f_x2 p_x2; have c_z3 := Vg.cells_of z3; have f_z3 := Vg.frozen_of z3; have p_z3 := Vg.setCell_of z3; have l_z3 := Vg.lt_of z3; have H_z3 := Lib.hid z3; clear z3; have H_hsa3 := Lib.hid hsa3; clear hsa3; have H_ht3 := Lib.hid ht3; clear ht3; have H_hov3 := Lib.hid hov3; clear hov3))
                go_quiet (fail)
                go_wp2
                go_meet
                have ho := one_step g6 n3' n5' hSx hgwx H_hap.out H_hsa3.out H_ht3.out H_hov3.out
                rw [H_ha.out]
                refine ⟨v', ?_, ?_, ho.1, ho.2.1.drewN _, ho.2.2.1.grows (by (repeat' (first | (with_reducible exact Vg.Grows.refl _) | (with_reducible assumption) | (with_reducible refine Vg.Grows.alloc ?_ _) | (with_reducible refine Vg.Grows.plus ?_ _ _) | (with_reducible refine Vg.Grows.drewN ?_ _) | (with_reducible refine Vg.Grows.drew ?_) | (with_reducible refine Vg.Grows.setCell ?_ ?_ _) | (with_reducible refine Vg.Grows.put ?_ ?_ _) | omega | (simp; omega) | (simp; done)))), ho.2.2.2⟩
                · rw [H_huk.out.1]
                · rw [H_huk.out.2.1]
              · have hub : ((s.use bu pe k2 k3).2 == 0) = false := by simp [hu]
                have huk := Vg.Srv.use_no hu
                have H_huk := Lib.hid huk; clear huk; have H_hu := Lib.hid hu; clear hu
                go_wp2_with ((go_at_call 31; refine (sa_use (s := s) (v := v) (B := b + 1) k2 k3 H_hsx.out (by omega) (by omega) H_hinv.out ⟨by omega, h3⟩ ⟨h1, by omega⟩ hk2b hk3).mono ?_; rintro e w3 ⟨v', rfl, hsa3, ht3, hov3⟩; have H_hsa3 := Lib.hid hsa3; clear hsa3; have H_ht3 := Lib.hid ht3; clear ht3; have H_hov3 := Lib.hid hov3; clear hov3))
                go_meet
                have ho := one_step g6 n3' n5' hSx hgwx H_hap.out H_hsa3.out H_ht3.out H_hov3.out
                rw [H_ha.out]
                refine ⟨v', ?_, ?_, ho.1, ho.2.1, ho.2.2.1, ho.2.2.2⟩
                · rw [H_huk.out]
                · rw [H_huk.out]
            · by_cases hv1 : k1 = 1
              · subst hv1
                have ha : s.act bu pe (1, k2, k3) = (s.refill k3).1 := rfl
                have H_ha := Lib.hid ha; clear ha
                by_cases hu : (s.refill k3).2.2 = 0
                · have hub : ((s.refill k3).2.2 == 0) = true := by rw [hu]; rfl
                  have huk := Vg.Srv.refill_ok hu
                  have hdn := Vg.due_nonneg k3 (L := s.L) fun x hx => (H_hinv.out.2.2.2.1 x hx).2.2
                  have hdo := Vg.owed_due k3 s.L
                  have hdp := Vg.owed_nonneg (L := (Vg.due k3 s.L).2) fun x hx => (H_hinv.out.2.2.2.1 x ((Vg.due_sublist _ _).subset hx)).2.2
                  have hdd := huk.2.2.2.2.2
                  have hsum : IntKind.i64.wrap (Vg.owed s.L - (s.refill k3).2.1) = Vg.owed s.L - (s.refill k3).2.1 := by rw [IntWalk.i64_in _ (by omega)]
                  clear hdn hdo hdp hdd
                  have H_huk := Lib.hid huk; clear huk; have H_hu := Lib.hid hu; clear hu
                  go_wp2_with ((go_at_call 33; refine (sa_refill (s := s) (v := v) (B := b + 1) k3 H_hsx.out (by omega) H_hinv.out ⟨h1, by omega⟩).mono ?_; rintro e w3 ⟨v', rfl, hsa3, ht3, hov3⟩; have z3 := ht3.blk H_x2.out (fun hh => hh.elim (fun h => m3 h) (fun h => by have := M4.out _ h; omega)); clear c_x2 f_x2 p_x2; have c_z3 := Vg.cells_of z3; have f_z3 := Vg.frozen_of z3; have p_z3 := Vg.setCell_of z3; have l_z3 := Vg.lt_of z3; have H_z3 := Lib.hid z3; clear z3; have H_hsa3 := Lib.hid hsa3; clear hsa3; have H_ht3 := Lib.hid ht3; clear ht3; have H_hov3 := Lib.hid hov3; clear hov3))
                  go_quiet (fail)
                  go_wp2
                  go_meet
                  have ho := one_step g6 n3' n5' hSx hgwx H_hap.out H_hsa3.out H_ht3.out H_hov3.out
                  rw [H_ha.out]
                  refine ⟨v', ?_, ?_, ho.1, ho.2.1.drewN _, ho.2.2.1.grows (by (repeat' (first | (with_reducible exact Vg.Grows.refl _) | (with_reducible assumption) | (with_reducible refine Vg.Grows.alloc ?_ _) | (with_reducible refine Vg.Grows.plus ?_ _ _) | (with_reducible refine Vg.Grows.drewN ?_ _) | (with_reducible refine Vg.Grows.drew ?_) | (with_reducible refine Vg.Grows.setCell ?_ ?_ _) | (with_reducible refine Vg.Grows.put ?_ ?_ _) | omega | (simp; omega) | (simp; done)))), ho.2.2.2⟩
                  · rw [H_huk.out.1]
                  · rw [H_huk.out.2.1]
                · have hub : ((s.refill k3).2.2 == 0) = false := by simp [hu]
                  have huk := Vg.Srv.refill_no hu
                  have H_huk := Lib.hid huk; clear huk; have H_hu := Lib.hid hu; clear hu
                  go_wp2_with ((go_at_call 33; refine (sa_refill (s := s) (v := v) (B := b + 1) k3 H_hsx.out (by omega) H_hinv.out ⟨h1, by omega⟩).mono ?_; rintro e w3 ⟨v', rfl, hsa3, ht3, hov3⟩; have H_hsa3 := Lib.hid hsa3; clear hsa3; have H_ht3 := Lib.hid ht3; clear ht3; have H_hov3 := Lib.hid hov3; clear hov3))
                  go_meet
                  have ho := one_step g6 n3' n5' hSx hgwx H_hap.out H_hsa3.out H_ht3.out H_hov3.out
                  rw [H_ha.out]
                  refine ⟨v', ?_, ?_, ho.1, ho.2.1, ho.2.2.1, ho.2.2.2⟩
                  · rw [H_huk.out]
                  · rw [H_huk.out]
              · have ha : s.act bu pe (k1, k2, k3) = s := by unfold Vg.Srv.act; simp [hv0, hv1]
                have hb0 : (k1 == 0) = false := by simp [hv0]
                have hb1 : (k1 == 1) = false := by simp [hv1]
                have H_ha := Lib.hid ha; clear ha
                clear hv0 hv1
                go_wp2_with fail
                go_meet
                rw [H_ha.out]
                exact ⟨v, rfl, rfl, hSx, hgwx, H_hsx.out, H_hap.out⟩
          case rest =>
            obtain ⟨v', rfl, rfl, hSy, hgy, hsy, hapy⟩ := hcut
            have hinv' : (s.act bu pe (k1, k2, k3)).Inv bu := Vg.Srv.act_inv _ H_hinv.out ⟨by omega, h3⟩
            have hlate' : (s.act bu pe (k1, k2, k3)).Late pe := Vg.Srv.act_late _ H_hlate.out
            generalize s.act bu pe (k1, k2, k3) = s' at hsy hinv' hlate'
            have how' : 0 ≤ Vg.owed s'.L ∧ Vg.owed s'.L ≤ bu := ⟨Vg.owed_nonneg fun x hx => (hinv'.2.2.2.1 x hx).2.2, hinv'.2.2.2.2⟩
            have hsub : IntKind.i64.wrap (bu - Vg.owed s'.L) = bu - Vg.owed s'.L := by rw [IntWalk.i64_in _ (by omega)]
            clear c_x2 f_x2 p_x2
            by_cases h16 : 16 ≤ s'.L.length
            · have hv : s'.left bu = 0 := by unfold Vg.Srv.left; rw [if_pos h16]
              have H_hsy := Lib.hid hsy; clear hsy; have H_hapy := Lib.hid hapy; clear hapy; have H_hinv' := Lib.hid hinv'; clear hinv'; have H_hlate' := Lib.hid hlate'; clear hlate'; have H_hv := Lib.hid hv; clear hv
              go_wp2_with (first | (go_at_call 38; refine (sa_waits H_hsy.out).mono ?_; rintro e w' ⟨rfl, rfl⟩) | (go_at_call 36; refine (sa_left H_hsy.out).mono ?_; rintro e w1 ⟨rfl, rfl⟩; rw [H_hv.out]))
              exact ⟨⟨k + 1, s', v', by omega, by go_num, rfl, rfl, H_hinv'.out, H_hlate'.out, hSy, hgy, H_hsy.out, H_hapy.out⟩, by simp [intOf]; omega⟩
            · have hv : s'.left bu = bu - Vg.owed s'.L := by unfold Vg.Srv.left; rw [if_neg h16]
              have H_hsy := Lib.hid hsy; clear hsy; have H_hapy := Lib.hid hapy; clear hapy; have H_hinv' := Lib.hid hinv'; clear hinv'; have H_hlate' := Lib.hid hlate'; clear hlate'; have H_hv := Lib.hid hv; clear hv
              go_wp2_with (first | (go_at_call 38; refine (sa_waits H_hsy.out).mono ?_; rintro e w' ⟨rfl, rfl⟩) | (go_at_call 36; refine (sa_left H_hsy.out).mono ?_; rintro e w1 ⟨rfl, rfl⟩; rw [H_hv.out]))
              exact ⟨⟨k + 1, s', v', by omega, by go_num, rfl, rfl, H_hinv'.out, H_hlate'.out, hSy, hgy, H_hsy.out, H_hapy.out⟩, by simp [intOf]; omega⟩
        · by_cases hbig : 2251799813685248 < s.last
          · clear hlate hinv hap hsa
            go_wp2
            go_ret
            exact ⟨rfl, hgr⟩
          · have hd : Vg.due (s.last + pe) s.L = (Vg.owed s.L, []) := Vg.due_all hlate
            have hrf : s.refill (s.last + pe) = (⟨[], s.last + pe⟩, Vg.owed s.L, 0) := by unfold Vg.Srv.refill; rw [if_neg (by omega), hd]
            have hlf : Vg.Srv.left ⟨[], s.last + pe⟩ bu = bu := by unfold Vg.Srv.left Vg.owed; simp
            have hsum : IntKind.i64.wrap (s.last + pe) = s.last + pe := by rw [IntWalk.i64_in _ (by omega)]
            clear hd
            have H_hrf := Lib.hid hrf; clear hrf; have H_hlf := Lib.hid hlf; clear hlf; have H_hlate := Lib.hid hlate; clear hlate; have H_hinv := Lib.hid hinv; clear hinv; have H_hap := Lib.hid hap; clear hap; have H_hsa := Lib.hid hsa; clear hsa
            go_wp2_with ((go_at_call 33; refine (sa_refill (s := s) (v := v) (B := b + 1) (s.last + pe) H_hsa.out (by omega) H_hinv.out ⟨h1, by omega⟩).mono ?_; rintro e w3 ⟨v', rfl, hsa3, ht3, hov3⟩; have hg3 := (one_step g6 n3' n5' hsz hgr H_hap.out hsa3 ht3 hov3).2.1; rw [H_hrf.out] at hsa3; rw [H_hrf.out]; have H_hsa3 := Lib.hid hsa3; clear hsa3; have H_ht3 := Lib.hid ht3; clear ht3; have H_hov3 := Lib.hid hov3; clear hov3))
            go_wp2_with (first | (go_at_call 38; refine (sa_waits H_hsa3.out).mono ?_; rintro e w' ⟨rfl, rfl⟩) | (go_at_call 36; refine (sa_left H_hsa3.out).mono ?_; rintro e w1 ⟨rfl, rfl⟩; rw [H_hlf.out]))
            go_ret
            exact ⟨by simp, hg3⟩
  · go_enter Try.func7, Try.ntmps7
    go_wp2_with (first | (go_at_call 26; refine (lives15 _).mono ?_; rintro e w1 ⟨rfl, x0, n0, rfl⟩) | (go_at_call 27; refine (serv_new_no bu pe (by omega)).mono ?_; rintro e w1 ⟨rfl, rfl⟩))
    go_ret
    exact ⟨rfl, by (repeat' (first | (with_reducible exact Vg.Grows.refl _) | (with_reducible assumption) | (with_reducible refine Vg.Grows.alloc ?_ _) | (with_reducible refine Vg.Grows.plus ?_ _ _) | (with_reducible refine Vg.Grows.drewN ?_ _) | (with_reducible refine Vg.Grows.drew ?_) | (with_reducible refine Vg.Grows.setCell ?_ ?_ _) | (with_reducible refine Vg.Grows.put ?_ ?_ _) | omega | (simp; omega) | (simp; done)))⟩
end Go.Proofs.Ytlgkcpgmnpoanaa
