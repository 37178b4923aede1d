/- ServerSupply: the walk. -/
import Derived.Test.YtlgkcpgmnpoanaaServerX
set_option linter.unusedSimpArgs false
set_option linter.unusedVariables false
set_option maxHeartbeats 4000000
set_option maxRecDepth 20000
namespace Go.Proofs.Ytlgkcpgmnpoanaa
open Go.ChangeShapes Go.WideShapes Go.ChangeAt Go.RowKit
theorem Try.info_used : (Try.prog.info? 70).map (fun i => (i.zero, i.size, i.bytes)) = some (some (.agg #[.int .i64 0, .int .i64 0]), 2, 16) := by kernel_rfl
section
variable {w0 wx w3 W1 : World} {b B S n m : Nat} {bu pe : Int} {s s' : Vg.Srv} {v v' va v2 : Value} {ty : TypeId} {xs xs' : List Value} {o : Obj} {y : Array Obj}
theorem two_step (n2 : b < S) (n3 : w0.heap.size ≤ b) (n6 : w0.heap.size ≤ S) (hSx : S ≤ wx.heap.size) (hg : Vg.Grows w0 wx) (hap : ∀ j, v.ownBlock = some j → S ≤ j ∧ va.ownBlock ≠ some j) (hq : Vg.Que wx S ty 2 va n xs)
    (hsa3 : SA w3 b B bu pe s' v') (ht3 : Vg.Touch (fun k => k = b ∨ v.ownBlock = some k) wx w3) (hov3 : ∀ k, v'.ownBlock = some k → v.ownBlock = some k ∨ wx.heap.size ≤ k) :
    S ≤ w3.heap.size ∧ Vg.Grows w0 w3 ∧ SA w3 b B bu pe s' v' ∧ Vg.Que w3 S ty 2 va n xs ∧ (∀ j, v'.ownBlock = some j → S ≤ j ∧ va.ownBlock ≠ some j) := by
  obtain ⟨h1, h2, h3, h4⟩ := one_step n2 n3 n6 hSx hg (fun j hj => (hap j hj).1) hsa3 ht3 hov3
  have hl := hq.lt
  refine ⟨h1, h2, h3, hq.kept fun j hj => ht3.block j (hl j hj).2 fun hh => ?_, fun j hj => ⟨h4 j hj, fun hh => ?_⟩⟩
  · rcases hh with rfl | hh
    · have := (hl _ hj).1; omega
    · exact (hap j hh).2 hj
  · rcases hov3 j hj with h | h
    · exact (hap j h).2 hh
    · have := (hl j hh).2; omega
theorem app_step (n2 : b < S) (n3 : w0.heap.size ≤ b) (n6 : w0.heap.size ≤ S) (hS3 : S ≤ w3.heap.size) (hg : Vg.Grows w0 w3) (hsa3 : SA w3 b B bu pe s' v') (hq : Vg.Que w3 S ty 2 va n xs) (hap : ∀ j, v'.ownBlock = some j → S ≤ j ∧ va.ownBlock ≠ some j)
    (hs2 : Vg.Same (fun j => va.ownBlock = some j) (w3.alloc o) W1) (ho2 : v2.ownBlock = va.ownBlock ∨ v2.ownBlock = some (w3.alloc o).heap.size) :
    S ≤ (Vg.plus W1 y m).heap.size ∧ Vg.Grows w0 (Vg.plus W1 y m) ∧ SA (Vg.plus W1 y m) b B bu pe s' v' ∧ (∀ j, v'.ownBlock = some j → S ≤ j ∧ v2.ownBlock ≠ some j) := by
  have hl := hq.lt
  have hown := hsa3.own
  have hsz := hs2.size
  rw [World.size_alloc] at hsz
  have hgW : Vg.Grows w0 W1 := hs2.grows (hg.alloc o) fun k hk => by have := (hl k hk).1; omega
  have hsa4 : SA (w3.alloc o) b B bu pe s' v' := hsa3.grows ((Vg.Grows.refl _).alloc o)
  have hsa5 : SA W1 b B bu pe s' v' := hsa4.touch (Vg.Touch.of_same hs2) (fun h => by have := (hl b h).1; omega) (fun k hk h => (hap k hk).2 h)
  refine ⟨by rw [Vg.plus_size]; omega, hgW.plus _ _, hsa5.grows ((Vg.Grows.refl _).plus _ _), fun j hj => ⟨(hap j hj).1, fun hh => ?_⟩⟩
  rcases ho2 with h | h
  · exact (hap j hj).2 (h.symm.trans hh)
  · have e : (w3.alloc o).heap.size = j := Option.some.inj (h.symm.trans hh)
    rw [World.size_alloc] at e
    have := (hown j hj).2; omega
end
theorem ServerSupply_walk (bu pe : Int) (a : Option Addr) (len cap : Nat) (D : Nat → Nat → Int) (many : Int) (w : World) (hm0 : -9223372036854775808 ≤ bu) (hm1 : bu ≤ 9223372036854775807) (hw0 : -9223372036854775808 ≤ pe) (hw1 : pe ≤ 9223372036854775807) (hm2 : -9223372036854775808 ≤ many) (hm3 : many ≤ 9223372036854775807) (hr : Vg.intRows w [.i64, .i64, .i64] a len cap D) :
    Calls Try.prog 6 #[.int .i64 bu, .int .i64 pe, .slice a len cap, .int .i64 many] w fun e w' => e = .returned (.bool true) ∧ Vg.Grows w w' := by
  have hlen := hr.1
  have hcap : cap ≤ 9223372036854775807 := hr.2.1
  by_cases hok : 1 ≤ bu ∧ bu ≤ pe ∧ pe ≤ 1099511627776
  · obtain ⟨h1, h2, h3⟩ := hok
    by_cases hl : 60 < len
    · go_enter Try.func6, Try.ntmps6
      go_wp2_with (first | (go_at_call 26; refine (lives15 _).mono ?_; rintro e w1 ⟨rfl, x0, n0, rfl⟩) | (go_at_call 27; refine (sa_new h1 h2 h3).mono ?_; rintro e w1 ⟨rfl, hs, rfl⟩; have HSA := Lib.hid hs; clear hs))
      go_ret
      exact ⟨rfl, by (repeat' (first | (with_reducible exact Vg.Grows.refl _) | (with_reducible assumption) | (with_reducible refine Vg.Grows.alloc ?_ _) | (with_reducible refine Vg.Grows.plus ?_ _ _) | (with_reducible refine Vg.Grows.drewN ?_ _) | (with_reducible refine Vg.Grows.drew ?_) | (with_reducible refine Vg.Grows.setCell ?_ ?_ _) | (with_reducible refine Vg.Grows.put ?_ ?_ _) | omega | (simp; omega) | (simp; done)))⟩
    · have RH := Lib.hid (fun h => Vg.intRows.open (by decide) hr h)
      clear hr
      go_enter Try.func6, Try.ntmps6
      go_wp2_with (first | (go_at_call 26; refine (lives15 _).mono ?_; rintro e w1 ⟨rfl, x0, n0, rfl⟩) | (go_at_call 27; refine (sa_new h1 h2 h3).mono ?_; rintro e w1 ⟨rfl, hs, rfl⟩; have HSA := Lib.hid hs; clear hs))
      obtain ⟨b, hb⟩ : ∃ b, w.heap.size + Vg.sz x0 = b := ⟨_, rfl⟩
      obtain ⟨W0, hW0⟩ : ∃ W0, (Vg.plus w x0 n0).alloc (servC bu pe (.slice none 0 0) 0) = W0 := ⟨_, rfl⟩
      have g1 : SA W0 b (b + 1) bu pe ⟨[], 0⟩ (.slice none 0 0) := by
        have hs := HSA.out
        simp only [Vg.plus_size, hb] at hs
        rw [← hW0]
        exact hs
      have g4 : Vg.Grows w W0 := by rw [← hW0]; (repeat' (first | (with_reducible exact Vg.Grows.refl _) | (with_reducible assumption) | (with_reducible refine Vg.Grows.alloc ?_ _) | (with_reducible refine Vg.Grows.plus ?_ _ _) | (with_reducible refine Vg.Grows.drewN ?_ _) | (with_reducible refine Vg.Grows.drew ?_) | (with_reducible refine Vg.Grows.setCell ?_ ?_ _) | (with_reducible refine Vg.Grows.put ?_ ?_ _) | omega | (simp; omega) | (simp; done)))
      have g6 : b < W0.heap.size := g1.lt
      have n3' : w.heap.size ≤ b := by omega
      simp only [hb]
      rw [hW0]
      have H_hb := Lib.hid hb; clear hb; have H_hW0 := Lib.hid hW0; clear hW0; have H_g1 := Lib.hid g1; clear g1
      clear HSA
      obtain ⟨S, hS⟩ : ∃ S, W0.heap.size = S := ⟨_, rfl⟩
      have n5' := g4.size
      rw [hS] at g6 n5'
      have H_hS := Lib.hid hS; clear hS
      obtain ⟨i0, hi, hz0, hz1, hz2⟩ := info_parts Try.info_used
      go_loopw [11, 12, 47] (fun al la i wr => ∃ (k : Nat) (s : Vg.Srv) (v va : Value) (A : List (Int × Int)), k ≤ len ∧ i = .int .i64 k ∧ la = .int .i64 s.last ∧ al = va ∧ s.Inv bu ∧ Vg.Sup s bu pe A ∧ A.length ≤ k ∧ S ≤ wr.heap.size ∧ Vg.Grows w wr ∧ SA wr b (b + 1) bu pe s v ∧
          Vg.Que wr S 70 2 va A.length (Vg.pcells A) ∧ (∀ j, v.ownBlock = some j → S ≤ j ∧ va.ownBlock ≠ some j)) (fun _ _ i _ => len - (intOf i).toNat)
      case atStart =>
        exact ⟨0, ⟨[], 0⟩, _, _, [], by omega, rfl, rfl, rfl, Vg.Srv.inv0 h1, Vg.Sup.nil (by omega), by simp, by rw [H_hS.out]; exact Nat.le_refl _, g4, H_g1.out, Vg.Que.nil _ _ _ _, fun j hj => by simp [Value.ownBlock] at hj⟩
      case round =>
        obtain ⟨k, s, v, va, A, hk, rfl, rfl, rfl, hinv, hsup, hA, hsz, hgr, hsa, hq, hap⟩ := hrel
        have hl0 : 0 ≤ s.last ∧ s.last ≤ 4503599627370496 := ⟨hinv.1, hinv.2.1⟩
        by_cases hlt : k < len
        · obtain ⟨ba, off, rfl, hba, hc⟩ := RH.out (by omega)
          have hc0 := hc k hlt 0 (by decide)
          have hc1 := hc k hlt 1 (by decide)
          have hc2 := hc k hlt 2 (by decide)
          generalize D k 0 = kd at hc0
          generalize D k 1 = n_ at hc1
          generalize D k 2 = at_ at hc2
          simp only [List.length_cons, List.length_nil, Nat.zero_add, List.getElem_cons_zero, List.getElem_cons_succ] at hc0 hc1 hc2
          obtain ⟨hc0, hw0'⟩ := hc0
          obtain ⟨hc1, hw1'⟩ := hc1
          obtain ⟨hc2, hw2'⟩ := hc2
          have hbn := bounds_i64 hw1'
          have hbt := bounds_i64 hw2'
          have hc0 := (hgr.below.cell (p := ⟨ba, off + k * 3, none⟩) hba).trans hc0
          have hc1 := (hgr.below.cell (p := ⟨ba, off + k * 3 + 1, none⟩) hba).trans hc1
          have hc2 := (hgr.below.cell (p := ⟨ba, off + k * 3 + 2, none⟩) hba).trans hc2
          have hbar : ba < wr.heap.size := Nat.lt_of_lt_of_le hba hgr.size
          clear hc hw0' hw1' hw2'
          obtain ⟨⟨k1, k2, k3⟩, hx⟩ : ∃ x, Vg.effs s.last (kd, n_, at_) = x := ⟨_, rfl⟩
          have hxb := Vg.effs_bd (x := (kd, n_, at_)) hl0 hbt
          rw [hx] at hxb
          have hk2 : k2 = n_ := hxb.2.2
          have hk3 : -9223372036854775808 ≤ k3 ∧ k3 ≤ 9223372036854775807 := ⟨hxb.1, hxb.2.1⟩
          have hk2b : -9223372036854775808 ≤ k2 ∧ k2 ≤ 9223372036854775807 := by rw [hk2]; exact hbn
          clear hxb hk2
          have hsl := hsa.own
          obtain ⟨aa, ac, rfl⟩ := hq.shape
          have hql := hq.lt
          have H_hx := Lib.hid hx; clear hx; have H_hsa := Lib.hid hsa; clear hsa; have H_hap := Lib.hid hap; clear hap; have H_hinv := Lib.hid hinv; clear hinv; have H_hsl := Lib.hid hsl; clear hsl; have H_hsup := Lib.hid hsup; clear hsup; have H_hq := Lib.hid hq; clear hq; have H_hql := Lib.hid hql; clear hql
          go_upto_block 2 with ((go_at_call 29; refine (plain15x H_hx.out _ hl0 hbn hbt).mono ?_; rintro e w1 ⟨rfl, xx, nn, rfl⟩))
          obtain ⟨wx, hwx⟩ : ∃ wx, Vg.plus (wr.alloc (.cells #[.int .i64 k1, .int .i64 k2, .int .i64 k3] 57)) xx nn = wx := ⟨_, rfl⟩
          obtain ⟨bt, hbt'⟩ : ∃ bt, wr.heap.size = bt := ⟨_, rfl⟩
          have x2 : Vg.blk wx bt = some (.cells #[.int .i64 k1, .int .i64 k2, .int .i64 k3] 57) := by rw [← hwx, ← hbt']; simp [go_sem]
          have hgx : Vg.Grows wr wx := by rw [← hwx]; (repeat' (first | (with_reducible exact Vg.Grows.refl _) | (with_reducible assumption) | (with_reducible refine Vg.Grows.alloc ?_ _) | (with_reducible refine Vg.Grows.plus ?_ _ _) | (with_reducible refine Vg.Grows.drewN ?_ _) | (with_reducible refine Vg.Grows.drew ?_) | (with_reducible refine Vg.Grows.setCell ?_ ?_ _) | (with_reducible refine Vg.Grows.put ?_ ?_ _) | omega | (simp; omega) | (simp; done)))
          have hsx : SA wx b (b + 1) bu pe s v := H_hsa.out.grows hgx
          have hSx : S ≤ wx.heap.size := Nat.le_trans hsz hgx.size
          have hgwx : Vg.Grows w wx := hgr.trans hgx
          have hbS : S ≤ bt := by omega
          have m3 : bt ≠ b := by omega
          have m4 : ∀ j, v.ownBlock = some j → j < bt := fun j hj => by rw [← hbt']; exact (H_hsl.out j hj).2
          have M4 := Lib.hid m4
          clear m4
          rw [hwx, hbt']
          have hqx : Vg.Que wx S 70 2 (.slice aa A.length ac) A.length (Vg.pcells A) := H_hq.out.grows hgx
          have m5 : ∀ j, (Value.slice aa A.length ac).ownBlock = some j → S ≤ j ∧ j < bt := fun j hj => by rw [← hbt']; exact H_hql.out j hj
          have M5 := Lib.hid m5
          clear m5
          have c_x2 := Vg.cells_of x2; have f_x2 := Vg.frozen_of x2; have p_x2 := Vg.setCell_of x2; have l_x2 := Vg.lt_of x2; have H_x2 := Lib.hid x2; clear x2
          have H_hsx := Lib.hid hsx; clear hsx; have H_hwx := Lib.hid hwx; clear hwx; have H_hbt' := Lib.hid hbt'; clear hbt'; have H_hqx := Lib.hid hqx; clear hqx
          by_cases hv0 : k1 = 0
          · subst hv0
            have ha : s.act bu pe (0, k2, k3) = (s.use bu pe k2 k3).1 := rfl
            have H_ha := Lib.hid ha; clear ha
            by_cases hu : (s.use bu pe k2 k3).2 = 0
            · have hub : ((s.use bu pe k2 k3).2 == 0) = true := by rw [hu]; rfl
              have huk := Vg.Srv.use_ok hu
              have hsub : IntKind.i64.wrap (k3 - k2) = k3 - k2 := by rw [IntWalk.i64_in _ (by omega)]
              have H_huk := Lib.hid huk; clear huk; have H_hu := Lib.hid hu; clear hu
              go_wp2_with (first | (go_at_call 31; refine (sa_use (s := s) (v := v) (B := b + 1) k2 k3 H_hsx.out (by omega) (by omega) H_hinv.out ⟨by omega, h3⟩ ⟨h1, by omega⟩ hk2b hk3).mono ?_; rintro e w3 ⟨v', rfl, hsa3, ht3, hov3⟩; have z3 := ht3.blk H_x2.out (fun hh => hh.elim (fun h => m3 h) (fun h => by have := M4.out _ h; omega)); have ho := two_step g6 n3' n5' hSx hgwx H_hap.out H_hqx.out hsa3 ht3 hov3; have hq3 := ho.2.2.2.1; have hzz := ho.1; have hgw3 := ho.2.1; clear c_x2 f_x2 p_x2; have c_z3 := Vg.cells_of z3; have f_z3 := Vg.frozen_of z3; have p_z3 := Vg.setCell_of z3; have l_z3 := Vg.lt_of z3; have H_z3 := Lib.hid z3; clear z3; have H_hsa3 := Lib.hid hsa3; clear hsa3; have H_ht3 := Lib.hid ht3; clear ht3; have H_hov3 := Lib.hid hov3; clear hov3; have H_ho := Lib.hid ho; clear ho; have H_hq3 := Lib.hid hq3; clear hq3) | (at_builtin; go_loud (refine Vg.wpList_que (w := _) rfl (.tmp 65) (.tmp 74) 68 rfl S 70 i0 (.agg #[.int .i64 0, .int .i64 0]) 2 16 Try.underlying68 hi hz0 hz1 hz2 rfl (by decide) (.slice aa A.length ac) A.length (Vg.pcells A) rfl (H_hq3.out.grows (by (repeat' (first | (with_reducible exact Vg.Grows.refl _) | (with_reducible assumption) | (with_reducible refine Vg.Grows.alloc ?_ _) | (with_reducible refine Vg.Grows.plus ?_ _ _) | (with_reducible refine Vg.Grows.drewN ?_ _) | (with_reducible refine Vg.Grows.drew ?_) | (with_reducible refine Vg.Grows.setCell ?_ ?_ _) | (with_reducible refine Vg.Grows.put ?_ ?_ _) | omega | (simp; omega) | (simp; done))))) _ 1 1 [.int .i64 (k3 - k2), .int .i64 k3] rfl rfl (Vg.two_new (by first | rfl | ((try simp only [World.size_alloc, Vg.plus_size, Vg.put_size, World.size_setCell, World.size_drew, World.heap_drewN]) <;> omega))) (by simp [Value.oneCell']) (by decide) (by unfold maxLen; omega) (by omega) (by simp only [World.size_alloc]; omega) ?_; intro v2 W1 y2 m2 hq2 hs2 ho2; have z4 := (hs2.block bt (fun hh => by have := M5.out _ hh; omega)).trans ((Vg.alloc_heap_past l_z3).trans H_z3.out); clear c_z3 f_z3 p_z3; have c_z4 := Vg.cells_of z4; have f_z4 := Vg.frozen_of z4; have p_z4 := Vg.setCell_of z4; have l_z4 := Vg.lt_of z4; have H_z4 := Lib.hid z4; clear z4; have H_hq2 := Lib.hid hq2; clear hq2; have H_hs2 := Lib.hid hs2; clear hs2; have H_ho2 := Lib.hid ho2; clear ho2)))
              have hap3 := app_step (y := y2) (m := m2) g6 n3' n5' H_ho.out.1 H_ho.out.2.1 H_ho.out.2.2.1 H_ho.out.2.2.2.1 H_ho.out.2.2.2.2 H_hs2.out H_ho2.out
              refine ⟨⟨k + 1, (s.use bu pe k2 k3).1, v', v2, A ++ [(k3 - k2, k3)], by omega, by go_num, ?_, rfl, Vg.Srv.use_inv k2 k3 H_hinv.out ⟨by omega, h3⟩, Vg.Sup.use H_hsup.out H_hinv.out (by omega) H_hu.out, by rw [List.length_append]; simp; omega, hap3.1, hap3.2.1, hap3.2.2.1, ?_, hap3.2.2.2⟩, by simp [intOf]; omega⟩
              · rw [H_huk.out.1]
              · have := H_hq2.out
                rw [Vg.pcells_append, List.length_append]
                exact this
            · have hub : ((s.use bu pe k2 k3).2 == 0) = false := by simp [hu]
              have huk := Vg.Srv.use_no hu
              have H_huk := Lib.hid huk; clear huk; have H_hu := Lib.hid hu; clear hu
              go_wp2_with ((go_at_call 31; refine (sa_use (s := s) (v := v) (B := b + 1) k2 k3 H_hsx.out (by omega) (by omega) H_hinv.out ⟨by omega, h3⟩ ⟨h1, by omega⟩ hk2b hk3).mono ?_; rintro e w3 ⟨v', rfl, hsa3, ht3, hov3⟩; have H_hsa3 := Lib.hid hsa3; clear hsa3; have H_ht3 := Lib.hid ht3; clear ht3; have H_hov3 := Lib.hid hov3; clear hov3))
              have ho := two_step g6 n3' n5' hSx hgwx H_hap.out H_hqx.out H_hsa3.out H_ht3.out H_hov3.out
              refine ⟨⟨k + 1, (s.use bu pe k2 k3).1, v', _, A, by omega, by go_num, ?_, rfl, Vg.Srv.use_inv k2 k3 H_hinv.out ⟨by omega, h3⟩, ?_, by omega, ho.1, ho.2.1, ho.2.2.1, ho.2.2.2.1, ho.2.2.2.2⟩, by simp [intOf]; omega⟩
              · rw [H_huk.out]
              · rw [H_huk.out]; exact H_hsup.out
          · by_cases hv1 : k1 = 1
            · subst hv1
              have ha : s.act bu pe (1, k2, k3) = (s.refill k3).1 := rfl
              have H_ha := Lib.hid ha; clear ha
              by_cases hu : (s.refill k3).2.2 = 0
              · have hub : ((s.refill k3).2.2 == 0) = true := by rw [hu]; rfl
                have huk := Vg.Srv.refill_ok hu
                have H_huk := Lib.hid huk; clear huk; have H_hu := Lib.hid hu; clear hu
                go_wp2_with ((go_at_call 33; refine (sa_refill (s := s) (v := v) (B := b + 1) k3 H_hsx.out (by omega) H_hinv.out ⟨h1, by omega⟩).mono ?_; rintro e w3 ⟨v', rfl, hsa3, ht3, hov3⟩; have z3 := ht3.blk H_x2.out (fun hh => hh.elim (fun h => m3 h) (fun h => by have := M4.out _ h; omega)); clear c_x2 f_x2 p_x2; have c_z3 := Vg.cells_of z3; have f_z3 := Vg.frozen_of z3; have p_z3 := Vg.setCell_of z3; have l_z3 := Vg.lt_of z3; have H_z3 := Lib.hid z3; clear z3; have H_hsa3 := Lib.hid hsa3; clear hsa3; have H_ht3 := Lib.hid ht3; clear ht3; have H_hov3 := Lib.hid hov3; clear hov3))
                have ho := two_step g6 n3' n5' hSx hgwx H_hap.out H_hqx.out H_hsa3.out H_ht3.out H_hov3.out
                refine ⟨⟨k + 1, (s.refill k3).1, v', _, A, by omega, by go_num, ?_, rfl, Vg.Srv.refill_inv k3 H_hinv.out, Vg.Sup.refill H_hsup.out H_hu.out, by omega, ho.1, ho.2.1, ho.2.2.1, ho.2.2.2.1, ho.2.2.2.2⟩, by simp [intOf]; omega⟩
                rw [H_huk.out.1]
              · have hub : ((s.refill k3).2.2 == 0) = false := by simp [hu]
                have huk := Vg.Srv.refill_no hu
                have H_huk := Lib.hid huk; clear huk; have H_hu := Lib.hid hu; clear hu
                go_wp2_with ((go_at_call 33; refine (sa_refill (s := s) (v := v) (B := b + 1) k3 H_hsx.out (by omega) H_hinv.out ⟨h1, by omega⟩).mono ?_; rintro e w3 ⟨v', rfl, hsa3, ht3, hov3⟩; have H_hsa3 := Lib.hid hsa3; clear hsa3; have H_ht3 := Lib.hid ht3; clear ht3; have H_hov3 := Lib.hid hov3; clear hov3))
                have ho := two_step g6 n3' n5' hSx hgwx H_hap.out H_hqx.out H_hsa3.out H_ht3.out H_hov3.out
                refine ⟨⟨k + 1, (s.refill k3).1, v', _, A, by omega, by go_num, ?_, rfl, Vg.Srv.refill_inv k3 H_hinv.out, ?_, by omega, ho.1, ho.2.1, ho.2.2.1, ho.2.2.2.1, ho.2.2.2.2⟩, by simp [intOf]; omega⟩
                · rw [H_huk.out]
                · rw [H_huk.out]; exact H_hsup.out
            · have ha : s.act bu pe (k1, k2, k3) = s := by unfold Vg.Srv.act; simp [hv0, hv1]
              have hb0 : (k1 == 0) = false := by simp [hv0]
              have hb1 : (k1 == 1) = false := by simp [hv1]
              have H_ha := Lib.hid ha; clear ha
              clear hv0 hv1
              go_wp2_with fail
              exact ⟨⟨k + 1, s, v, _, A, by omega, by go_num, rfl, rfl, H_hinv.out, H_hsup.out, by omega, hSx, hgwx, H_hsx.out, H_hqx.out, H_hap.out⟩, by simp [intOf]; omega⟩
        · obtain ⟨aa, ac, rfl⟩ := hq.shape
          have hrd := hq.reads
          have hbd := hsup.bd
          have hacm := hrd.cap_le
          have hacm : ac ≤ 9223372036854775807 := hacm
          have hA2 : A.length ≤ 100 := by omega
          have hbd2 : ∀ x ∈ A, 0 ≤ x.1 ∧ x.1 ≤ 4503599627370496 ∧ 0 ≤ x.2 ∧ x.2 ≤ 4503599627370496 := fun x hx => by have := hbd x hx; omega
          clear hap hq
          have H_hinv := Lib.hid hinv; clear hinv; have H_hsup := Lib.hid hsup; clear hsup; have H_hsa := Lib.hid hsa; clear hsa; have H_hrd := Lib.hid hrd; clear hrd; have H_hbd := Lib.hid hbd; clear hbd; have H_hbd2 := Lib.hid hbd2; clear hbd2
          go_upto_region 22 with (fail)
          go_cut [17] (fun kk wx => ∃ q : Int, kk = .int .i64 q ∧ 1 ≤ q ∧ q ≤ 1000 ∧ wx = wr)
          case first =>
            by_cases q1 : many < 1
            · go_wp2_with fail
              go_meet
              exact ⟨_, rfl, by omega, by omega, rfl⟩
            · by_cases q2 : 1000 < many
              · go_wp2_with fail
                go_meet
                exact ⟨_, rfl, by omega, by omega, rfl⟩
              · go_wp2_with fail
                go_meet
                exact ⟨_, rfl, by omega, by omega, rfl⟩
          case rest =>
            obtain ⟨q, rfl, hq1, hq2, rfl⟩ := hcut
            have hqp : 0 ≤ q * pe ∧ q * pe ≤ 1099511627776000 := ⟨Int.mul_nonneg (by omega) (by omega), Int.le_trans (Int.mul_le_mul hq2 h3 (by omega) (by omega)) (by omega)⟩
            have hqb : 0 ≤ q * bu ∧ q * bu ≤ 1099511627776000 := ⟨Int.mul_nonneg (by omega) (by omega), Int.le_trans (Int.mul_le_mul hq2 (show bu ≤ 1099511627776 by omega) (by omega) (by omega)) (by omega)⟩
            go_wp2_with fail
            go_loopw [97] (fun i wr2 => ∃ j : Nat, j ≤ A.length ∧ i = .int .i64 j ∧ Vg.Grows wc wr2) (fun i _ => A.length - (intOf i).toNat)
            case atStart => exact ⟨0, by omega, rfl, Vg.Grows.refl _⟩
            case round =>
              obtain ⟨j, hj, rfl, hg5⟩ := hrel
              by_cases hjl : j < A.length
              · obtain ⟨g', off', rfl, hg', hc, hm, hxx⟩ := H_hrd.out.open (by rw [Vg.pcells_length]; omega)
                have hget := Vg.pcells_get A j hjl
                have c0 := hxx (j * 2) (by rw [Vg.pcells_length]; omega)
                have c1 := hxx (j * 2 + 1) (by rw [Vg.pcells_length]; omega)
                rw [← Nat.add_assoc] at c1
                obtain ⟨x, hxk⟩ : ∃ x, A[j] = x := ⟨_, rfl⟩
                have hxb := H_hbd2.out A[j] (List.getElem_mem hjl)
                rw [hxk] at hget hxb
                obtain ⟨xa, xb⟩ := x
                simp only [] at hget hxb
                have c0' := (hg5.below.cell (p := ⟨g', off' + j * 2, none⟩) hg').trans (show _ = some (Value.int .i64 xa) by rw [c0, ← hget.1, List.getElem?_eq_getElem])
                have c1' := (hg5.below.cell (p := ⟨g', off' + j * 2 + 1, none⟩) hg').trans (show _ = some (Value.int .i64 xb) by rw [c1, ← hget.2, List.getElem?_eq_getElem])
                have hgl : g' < wr.heap.size := Nat.lt_of_lt_of_le hg' hg5.size
                have w1 := H_hsup.out.win xa
                have w2 := H_hsup.out.win (xb - pe)
                have w3 := H_hsup.out.times (by omega) q xa (by omega)
                have w4 := H_hsup.out.times (by omega) q (xb - q * pe) (by omega)
                have hs1 : IntKind.i64.wrap (xb - pe) = xb - pe := by rw [IntWalk.i64_in _ (by omega)]
                have hs2 : IntKind.i64.wrap (q * pe) = q * pe := by rw [IntWalk.i64_in _ (by omega)]
                have hs3 : IntKind.i64.wrap (q * bu) = q * bu := by rw [IntWalk.i64_in _ (by omega)]
                have hs4 : IntKind.i64.wrap (xb - q * pe) = xb - q * pe := by rw [IntWalk.i64_in _ (by omega)]
                clear c0 c1 hget hxx hxk
                go_wp2_with ((go_at_call 39; refine (within15 (S := S) (L := A) _ _ (H_hrd.out.grows (by (repeat' (first | (with_reducible exact Vg.Grows.refl _) | (with_reducible assumption) | (with_reducible refine Vg.Grows.alloc ?_ _) | (with_reducible refine Vg.Grows.plus ?_ _ _) | (with_reducible refine Vg.Grows.drewN ?_ _) | (with_reducible refine Vg.Grows.drew ?_) | (with_reducible refine Vg.Grows.setCell ?_ ?_ _) | (with_reducible refine Vg.Grows.put ?_ ?_ _) | omega | (simp; omega) | (simp; done))))) hA2 H_hbd2.out (by omega) (by omega)).mono ?_; rintro e w1 ⟨rfl, xw, nw, rfl⟩))
                exact ⟨⟨j + 1, by omega, by go_num, by (repeat' (first | (with_reducible exact Vg.Grows.refl _) | (with_reducible assumption) | (with_reducible refine Vg.Grows.alloc ?_ _) | (with_reducible refine Vg.Grows.plus ?_ _ _) | (with_reducible refine Vg.Grows.drewN ?_ _) | (with_reducible refine Vg.Grows.drew ?_) | (with_reducible refine Vg.Grows.setCell ?_ ?_ _) | (with_reducible refine Vg.Grows.put ?_ ?_ _) | omega | (simp; omega) | (simp; done)))⟩, by simp [intOf]; omega⟩
              · go_wp2_with fail
                go_ret
                exact ⟨rfl, hgr.trans hg5⟩
  · go_enter Try.func6, Try.ntmps6
    go_wp2_with (first | (go_at_call 26; refine (lives15 _).mono ?_; rintro e w1 ⟨rfl, x0, n0, rfl⟩) | (go_at_call 27; refine (serv_new_no bu pe (by omega)).mono ?_; rintro e w1 ⟨rfl, rfl⟩))
    go_ret
    exact ⟨rfl, by (repeat' (first | (with_reducible exact Vg.Grows.refl _) | (with_reducible assumption) | (with_reducible refine Vg.Grows.alloc ?_ _) | (with_reducible refine Vg.Grows.plus ?_ _ _) | (with_reducible refine Vg.Grows.drewN ?_ _) | (with_reducible refine Vg.Grows.drew ?_) | (with_reducible refine Vg.Grows.setCell ?_ ?_ _) | (with_reducible refine Vg.Grows.put ?_ ?_ _) | omega | (simp; omega) | (simp; done)))⟩
end Go.Proofs.Ytlgkcpgmnpoanaa
