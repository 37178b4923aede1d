/- TopDeferred: the walk. -/
import Derived.Test.YtiinhofmhoplfaaDefL
set_option linter.unusedSimpArgs false
set_option linter.unusedVariables false
set_option maxHeartbeats 4000000
set_option maxRecDepth 100000
namespace Go.Proofs.Ytiinhofmhoplfaa
open Go.ChangeShapes Go.WideShapes Go.ChangeAt Go.RowKit
abbrev dueC (a b : Int) : Obj := .cells #[.int .i64 a, .int .i64 b] 135
theorem TopDeferred_walk (ta : Option Addr) (n tc : Nat) (TD0 : Nat → Nat → Int) (a : Option Addr) (len cap : Nat) (D : Nat → Nat → Int) (w : World) (hrT : Vg.intRows w [.i64, .i64, .i64, .i64] ta n tc TD0) (hr : Vg.intRows w [.i64, .i64] a len cap D) (hn42 : n ≤ 4398046511104) :
    Calls Try.prog 13 #[.slice ta n tc, .slice a len cap] w fun e w' => e = .returned (.bool true) ∧ Vg.Grows w w' := by
  obtain ⟨T, hTR, hTl⟩ : ∃ T, Vg.TR w ta tc T ∧ T.length = n := ⟨_, Vg.TR.of_rows hrT, Vg.thsOf_len _ _⟩
  have htc1 : n ≤ tc := hrT.1
  have htc2 : tc ≤ 9223372036854775807 := hrT.2.1
  clear hrT
  have hlen := hr.1
  have hcap : cap ≤ 9223372036854775807 := hr.2.1
  cases hgood : Vg.goodT T with
  | false =>
    clear hr
    have H_hTR := Lib.hid hTR; clear hTR; have H_hTl := Lib.hid hTl; clear hTl; have H_hgood := Lib.hid hgood; clear hgood
    go_enter Try.func13, Try.ntmps13
    go_wp2_with (first | (go_at_call 82; refine (begins09 _).mono ?_; rintro e w' ⟨rfl, rfl⟩) | (go_at_call 43; refine (bs_new_no H_hTR.out H_hTl.out hn42 H_hgood.out).mono ?_; rintro e w1 ⟨rfl, x1, n1, rfl⟩))
    go_ret
    exact ⟨rfl, by (repeat' (first | (with_reducible exact Vg.Grows.refl _) | (with_reducible assumption) | (with_reducible refine Vg.Grows.alloc ?_ _) | (with_reducible refine Vg.Grows.plus ?_ _ _) | (with_reducible refine Vg.Grows.drewN ?_ _) | (with_reducible refine Vg.Grows.drew ?_) | (with_reducible refine Vg.Grows.setCell ?_ ?_ _) | (with_reducible refine Vg.Grows.put ?_ ?_ _) | omega | (simp; omega) | (simp; done)))⟩
  | true =>
    by_cases hguard : n = 0 ∨ 6 < n ∨ 40 < len
    · clear hr
      have H_hTR := Lib.hid hTR; clear hTR; have H_hTl := Lib.hid hTl; clear hTl; have H_hgood := Lib.hid hgood; clear hgood
      by_cases h0 : n = 0
      · subst h0
        clear hguard
        go_enter Try.func13, Try.ntmps13
        go_wp2_with (first | (go_at_call 82; refine (begins09 _).mono ?_; rintro e w' ⟨rfl, rfl⟩) | (go_at_call 43; refine (bs_new H_hTR.out H_hTl.out hn42 H_hgood.out rfl rfl).mono ?_; rintro e w1 ⟨OB, rfl, -, hg1⟩))
        go_ret
        exact ⟨rfl, by (repeat' (first | (with_reducible exact Vg.Grows.refl _) | (with_reducible assumption) | (with_reducible refine Vg.Grows.alloc ?_ _) | (with_reducible refine Vg.Grows.plus ?_ _ _) | (with_reducible refine Vg.Grows.drewN ?_ _) | (with_reducible refine Vg.Grows.drew ?_) | (with_reducible refine Vg.Grows.setCell ?_ ?_ _) | (with_reducible refine Vg.Grows.put ?_ ?_ _) | omega | (simp; omega) | (simp; done)))⟩
      · have hz : ((n : Int) == 0) = false := by simp; exact h0
        by_cases h6 : 6 < n
        · clear hguard
          go_enter Try.func13, Try.ntmps13
          go_wp2_with (first | (go_at_call 82; refine (begins09 _).mono ?_; rintro e w' ⟨rfl, rfl⟩) | (go_at_call 43; refine (bs_new H_hTR.out H_hTl.out hn42 H_hgood.out rfl rfl).mono ?_; rintro e w1 ⟨OB, rfl, -, hg1⟩))
          go_ret
          exact ⟨rfl, by (repeat' (first | (with_reducible exact Vg.Grows.refl _) | (with_reducible assumption) | (with_reducible refine Vg.Grows.alloc ?_ _) | (with_reducible refine Vg.Grows.plus ?_ _ _) | (with_reducible refine Vg.Grows.drewN ?_ _) | (with_reducible refine Vg.Grows.drew ?_) | (with_reducible refine Vg.Grows.setCell ?_ ?_ _) | (with_reducible refine Vg.Grows.put ?_ ?_ _) | omega | (simp; omega) | (simp; done)))⟩
        · have h40 : 40 < len := by omega
          clear hguard
          go_enter Try.func13, Try.ntmps13
          go_wp2_with (first | (go_at_call 82; refine (begins09 _).mono ?_; rintro e w' ⟨rfl, rfl⟩) | (go_at_call 43; refine (bs_new H_hTR.out H_hTl.out hn42 H_hgood.out rfl rfl).mono ?_; rintro e w1 ⟨OB, rfl, -, hg1⟩))
          go_ret
          exact ⟨rfl, by (repeat' (first | (with_reducible exact Vg.Grows.refl _) | (with_reducible assumption) | (with_reducible refine Vg.Grows.alloc ?_ _) | (with_reducible refine Vg.Grows.plus ?_ _ _) | (with_reducible refine Vg.Grows.drewN ?_ _) | (with_reducible refine Vg.Grows.drew ?_) | (with_reducible refine Vg.Grows.setCell ?_ ?_ _) | (with_reducible refine Vg.Grows.put ?_ ?_ _) | omega | (simp; omega) | (simp; done)))⟩
    · have h0 : ¬ n = 0 := fun h => hguard (.inl h)
      have h6 : ¬ 6 < n := fun h => hguard (.inr (.inl h))
      have h40 : ¬ 40 < len := fun h => hguard (.inr (.inr h))
      have hz : ((n : Int) == 0) = false := by simp; exact h0
      clear hguard
      have RH := Lib.hid (fun h => Vg.intRows.open (by decide) hr h)
      clear hr
      obtain ⟨j0, hJ, hy0, hy1, hy2⟩ := info_parts Try.info_int
      have hinv0 := Vg.goodT_inv hgood
      have hdep : Vg.deps T = T.map (·.dp) := by unfold Vg.deps; rw [if_neg (by omega)]
      have hodd : (T.map (·.dp)).any Vg.oddW = false := by
        unfold Vg.goodT at hgood
        simp only [Bool.and_eq_true, Bool.not_eq_true', decide_eq_true_eq] at hgood
        exact hgood.2
      have hQ0 : ((T.map (·.dp)).map fun d => (⟨[], d, 0⟩ : Vg.Wq)) = Vg.Qs0 T := by unfold Vg.Qs0; rw [hdep]
      have hBl : (T.map Vg.th0).length = n := by rw [List.length_map]; exact hTl
      have hQl : (Vg.Qs0 T).length = n := by rw [← hQ0]; simp; exact hTl
      have hlD : (T.map (·.dp)).length = n := by rw [List.length_map]; exact hTl
      have H_hTR := Lib.hid hTR; clear hTR; have H_hTl := Lib.hid hTl; clear hTl; have H_hgood := Lib.hid hgood; clear hgood; have H_hinv0 := Lib.hid hinv0; clear hinv0; have H_hdep := Lib.hid hdep; clear hdep; have H_hodd := Lib.hid hodd; clear hodd; have H_hQ0 := Lib.hid hQ0; clear hQ0; have H_hBl := Lib.hid hBl; clear hBl; have H_hQl := Lib.hid hQl; clear hQl; have H_hlD := Lib.hid hlD; clear hlD
      go_enter Try.func13, Try.ntmps13
      go_wp2_with (first | (go_at_call 82; refine (begins09 _).mono ?_; rintro e w' ⟨rfl, rfl⟩) | (go_at_call 43; refine (bs_new H_hTR.out H_hTl.out hn42 H_hgood.out rfl rfl).mono ?_; rintro e w1 ⟨OB, rfl, hbs, hg1⟩; have HBS := Lib.hid hbs; clear hbs))
      obtain ⟨b, hb⟩ : ∃ b, w.heap.size = b := ⟨_, rfl⟩
      have hbs := HBS.out
      clear HBS
      rw [hb] at hbs
      simp only [hb]
      have hbw : w.heap.size ≤ b := by omega
      obtain ⟨S0, hS0⟩ : ∃ S0, w1.heap.size = S0 := ⟨_, rfl⟩
      have hS0w : S0 ≤ w1.heap.size := by omega
      have hOB : ∀ k, OB k → b ≤ k ∧ k < S0 := by rw [← hS0]; exact hbs.own
      have hwS : w.heap.size ≤ S0 := by rw [← hS0]; exact hg1.size
      have H_hbs := Lib.hid hbs; clear hbs; have H_hb := Lib.hid hb; clear hb; have H_hOB := Lib.hid hOB; clear hOB; have H_hS0 := Lib.hid hS0; clear hS0
      go_loopw [7, 64] (fun v7 i wr => ∃ (k : Nat) (v5 : Value), k ≤ n ∧ i = .int .i64 k ∧ v7 = v5 ∧ S0 ≤ wr.heap.size ∧ Vg.Grows w wr ∧ BS wr b b (T.map Vg.th0) (Vg.Qs0 T) OB ∧ Vg.Que wr S0 3 1 v5 k (Vg.ics ((T.take k).map (·.dp)))) (fun _ i _ => n - (intOf i).toNat)
      case atStart => exact ⟨0, _, by omega, rfl, rfl, hS0w, hg1, H_hbs.out, by simpa using Vg.Que.nil _ _ _ _⟩
      case round =>
        obtain ⟨k, v5, hk, rfl, rfl, hszr, hgr, hbs, hq⟩ := hrel
        by_cases hlt : k < n
        · have hkT : k < T.length := by rw [H_hTl.out]; exact hlt
          obtain ⟨g, off, rfl, hg, c0, c1, c2, c3⟩ := H_hTR.out.2.2 k hkT
          have hsn := List.take_succ_eq_append_getElem hkT
          obtain ⟨t, ht⟩ : ∃ t, T[k] = t := ⟨_, rfl⟩
          rw [ht] at c0 c1 c2 c3 hsn
          have c0 := (hgr.below.cell (p := ⟨g, off + k * 4, none⟩) hg).trans c0
          have c1 := (hgr.below.cell (p := ⟨g, off + k * 4 + 1, none⟩) hg).trans c1
          have c2 := (hgr.below.cell (p := ⟨g, off + k * 4 + 2, none⟩) hg).trans c2
          have c3 := (hgr.below.cell (p := ⟨g, off + k * 4 + 3, none⟩) hg).trans c3
          have hgl : g < wr.heap.size := Nat.lt_of_lt_of_le hg hgr.size
          obtain ⟨a5, c5, rfl⟩ := hq.shape
          have H_hbs := Lib.hid hbs; clear hbs; have H_hq := Lib.hid hq; clear hq; have H_hsn := Lib.hid hsn; clear hsn; have H_ht := Lib.hid ht; clear ht
          go_wp2_with (at_builtin; (refine Vg.wpList_que (w := _) rfl (.tmp 68) (.tmp 71) 22 rfl S0 3 j0 (.int .i64 0) 1 8 Try.underlying22 hJ hy0 hy1 hy2 rfl (by decide) (.slice a5 k c5) k _ rfl (H_hq.out.grows (by (repeat' (first | (with_reducible exact Vg.Grows.refl _) | (with_reducible assumption) | (with_reducible refine Vg.Grows.alloc ?_ _) | (with_reducible refine Vg.Grows.plus ?_ _ _) | (with_reducible refine Vg.Grows.drewN ?_ _) | (with_reducible refine Vg.Grows.drew ?_) | (with_reducible refine Vg.Grows.setCell ?_ ?_ _) | (with_reducible refine Vg.Grows.put ?_ ?_ _) | omega | (simp; omega) | (simp; done))))) _ 1 1 [.int .i64 t.dp] rfl rfl (Vg.one_new (by first | rfl | ((try simp only [World.size_alloc, Vg.plus_size, Vg.put_size, World.size_setCell, World.size_drew, World.heap_drewN]) <;> omega))) (by simp [Value.oneCell']) (by decide) (by unfold maxLen; omega) (by omega) (by simp only [World.size_alloc]; omega) ?_; intro v2 W1 y2 m2 hq2 hs2 ho2; have hbs2 := (BS.touch (BS.grows H_hbs.out (by (repeat' (first | (with_reducible exact Vg.Grows.refl _) | (with_reducible assumption) | (with_reducible refine Vg.Grows.alloc ?_ _) | (with_reducible refine Vg.Grows.plus ?_ _ _) | (with_reducible refine Vg.Grows.drewN ?_ _) | (with_reducible refine Vg.Grows.drew ?_) | (with_reducible refine Vg.Grows.setCell ?_ ?_ _) | (with_reducible refine Vg.Grows.put ?_ ?_ _) | omega | (simp; omega) | (simp; done))))) (Vg.Touch.of_same hs2) (fun z hz hh => by have := (H_hOB.out z hz).2; have := (H_hq.out.lt z hh).1; omega)).grows ((Vg.Grows.refl W1).plus y2 m2); have hgW2 := hs2.grows (Vg.Grows.trans hgr (by (repeat' (first | (with_reducible exact Vg.Grows.refl _) | (with_reducible assumption) | (with_reducible refine Vg.Grows.alloc ?_ _) | (with_reducible refine Vg.Grows.plus ?_ _ _) | (with_reducible refine Vg.Grows.drewN ?_ _) | (with_reducible refine Vg.Grows.drew ?_) | (with_reducible refine Vg.Grows.setCell ?_ ?_ _) | (with_reducible refine Vg.Grows.put ?_ ?_ _) | omega | (simp; omega) | (simp; done))))) (fun j hj => by have := (H_hq.out.lt j hj).1; omega); have hszW := hs2.size; obtain ⟨a6, c6, rfl⟩ := hq2.shape; have H_hq2 := Lib.hid hq2; clear hq2; have H_hs2 := Lib.hid hs2; clear hs2; have H_ho2 := Lib.hid ho2; clear ho2; have H_hbs2 := Lib.hid hbs2; clear hbs2; have H_hszW := Lib.hid hszW; clear hszW))
          refine ⟨⟨k + 1, _, by omega, by go_num, rfl, ?_, by (repeat' (first | (with_reducible exact Vg.Grows.refl _) | (with_reducible assumption) | (with_reducible refine Vg.Grows.alloc ?_ _) | (with_reducible refine Vg.Grows.plus ?_ _ _) | (with_reducible refine Vg.Grows.drewN ?_ _) | (with_reducible refine Vg.Grows.drew ?_) | (with_reducible refine Vg.Grows.setCell ?_ ?_ _) | (with_reducible refine Vg.Grows.put ?_ ?_ _) | omega | (simp; omega) | (simp; done))), H_hbs2.out, ?_⟩, by simp [intOf]; omega⟩
          · rw [Vg.plus_size, H_hszW.out]; simp only [World.size_alloc]; omega
          · rw [H_hsn.out, List.map_append]
            have e2 : Vg.ics ((T.take k).map (·.dp) ++ [t.dp]) = Vg.ics ((T.take k).map (·.dp)) ++ [.int .i64 t.dp] := by simp [Vg.ics]
            show Vg.Que _ _ _ _ _ _ (Vg.ics ((T.take k).map (·.dp) ++ [t.dp]))
            rw [e2]
            exact H_hq2.out
        · have hkn : k = n := by omega
          subst hkn
          have htk : T.take k = T := List.take_of_length_le (by rw [H_hTl.out]; exact Nat.le_refl _)
          rw [htk] at hq
          obtain ⟨a5, c5, rfl⟩ := hq.shape
          have hir : Vg.IR wr a5 c5 (T.map (·.dp)) := Vg.IR.of_reads hq.reads H_hlD.out
          have H_hbs := Lib.hid hbs; clear hbs; have H_hq := Lib.hid hq; clear hq; have H_hir := Lib.hid hir; clear hir; have H_htk := Lib.hid htk; clear htk
          go_wp2_with ((go_at_call 16; refine (ws_newx H_hir.out H_hlD.out (by rw [H_hlD.out]; omega) (by rw [H_hlD.out]; omega) H_hodd.out H_hQ0.out).mono ?_; rintro e w2 ⟨wv, O, rfl, hws, hgw⟩; have HWS := Lib.hid hws; clear hws))
          have hws := HWS.out
          obtain ⟨wb, hwb⟩ : ∃ wb, wr.heap.size = wb := ⟨_, rfl⟩
          rw [hwb] at hws
          have hty : TDy w w2 b b (T.map Vg.th0) (Vg.Qs0 T) wb (Vg.Qs0 T) wv := by
            refine ⟨⟨OB, O, H_hbs.out.grows hgw, hws, fun j hj hh => ?_, fun j hj => ?_⟩, hgr.trans hgw⟩
            · have h1 := (H_hOB.out j hj).2
              rcases hh with hh | hh
              · omega
              · have := (hws.own j hh).1; omega
            · have h1 := H_hbs.out.lo_le
              rcases hj with hh | hh
              · omega
              · have := (hws.own j hh).1; omega
          simp only [hwb]
          clear HWS hws
          have H_hty := Lib.hid hty; clear hty; have H_hwb := Lib.hid hwb; clear hwb
          go_loopw [87] (fun i wr => ∃ (q : Nat) (Q : List Vg.Wq), q ≤ len ∧ i = .int .i64 q ∧ TDy w wr b b (T.map Vg.th0) Q wb Q wv ∧ Vg.Bo.Inv q (T.map Vg.th0) Q ∧ Q.length = k ∧ Vg.Wk.small Q) (fun i _ => len - (intOf i).toNat)
          case atStart =>
            refine ⟨0, _, by omega, rfl, H_hty.out, H_hinv0.out, H_hQl.out, fun q hq x hx => ?_⟩
            rw [← H_hQ0.out] at hq
            simp only [List.map_map, List.mem_map] at hq
            obtain ⟨t, _, rfl⟩ := hq
            simp at hx
          case round =>
            obtain ⟨q, Q, hq, rfl, hty, hinv, hql, hsm⟩ := hrel
            by_cases hlt : q < len
            · obtain ⟨ba, off, rfl, hba, hcx⟩ := RH.out (by omega)
              have hc0 := hcx q hlt 0 (by decide)
              have hc1 := hcx q hlt 1 (by decide)
              generalize D q 0 = xi at hc0
              generalize D q 1 = xa at hc1
              simp only [List.length_cons, List.length_nil, Nat.zero_add, List.getElem_cons_zero, List.getElem_cons_succ] at hc0 hc1
              have hgr2 := hty.gr
              have hc0 := (hgr2.below.cell (p := ⟨ba, off + q * 2, none⟩) hba).trans hc0.1
              have hc1 := (hgr2.below.cell (p := ⟨ba, off + q * 2 + 1, none⟩) hba).trans hc1.1
              have hbar : ba < wr.heap.size := Nat.lt_of_lt_of_le hba hgr2.size
              clear hcx
              by_cases hbig : 1000 < xa
              · have H_hty := Lib.hid hty; clear hty; have H_hinv := Lib.hid hinv; clear hinv; have H_hql := Lib.hid hql; clear hql; have H_hsm := Lib.hid hsm; clear hsm; have H_hgr2 := Lib.hid hgr2; clear hgr2
                go_wp2_with fail
                exact ⟨⟨q + 1, Q, by omega, by go_num, H_hty.out.grows (by (repeat' (first | (with_reducible exact Vg.Grows.refl _) | (with_reducible assumption) | (with_reducible refine Vg.Grows.alloc ?_ _) | (with_reducible refine Vg.Grows.plus ?_ _ _) | (with_reducible refine Vg.Grows.drewN ?_ _) | (with_reducible refine Vg.Grows.drew ?_) | (with_reducible refine Vg.Grows.setCell ?_ ?_ _) | (with_reducible refine Vg.Grows.put ?_ ?_ _) | omega | (simp; omega) | (simp; done)))), H_hinv.out.mono (Nat.le_succ q), H_hql.out, H_hsm.out⟩, by simp [intOf]; omega⟩
              · obtain ⟨⟨Q', r⟩, hp⟩ : ∃ p, Vg.Wk.put Q xi xa = p := ⟨_, rfl⟩
                have hp2 : Vg.Bo.put k Q xi xa = (Q', r) := by rw [Vg.Bo.put_eq hql]; exact hp
                have hinv' : Vg.Bo.Inv (q + 1) (T.map Vg.th0) Q' := by have := hinv.put (n := k) xi xa; rw [hp2] at this; exact this
                have hql' : Q'.length = k := by have := Vg.Wk.put_len Q xi xa; rw [hp] at this; exact this.trans hql
                have hsm' : Vg.Wk.small Q' := by have := hsm.put xi (c := xa) (by omega); rw [hp] at this; exact this
                have hok : ∀ x ∈ Q, x.ok := hinv.wk.ok (by omega)
                have hrr : (r != r) = false := by simp
                have H_hty := Lib.hid hty; clear hty; have H_hinv := Lib.hid hinv; clear hinv; have H_hql := Lib.hid hql; clear hql; have H_hsm := Lib.hid hsm; clear hsm; have H_hgr2 := Lib.hid hgr2; clear hgr2; have H_hp := Lib.hid hp; clear hp; have H_hp2 := Lib.hid hp2; clear hp2; have H_hinv' := Lib.hid hinv'; clear hinv'; have H_hql' := Lib.hid hql'; clear hql'; have H_hsm' := Lib.hid hsm'; clear hsm'; have H_hok := Lib.hid hok; clear hok
                go_upto_region 19 with (fail)
                obtain ⟨wx, hwx⟩ : ∃ wx, (wr.alloc (dueC xi xa)) = wx := ⟨_, rfl⟩
                obtain ⟨bt, hbt'⟩ : ∃ bt, wr.heap.size = bt := ⟨_, rfl⟩
                have x2 : Vg.blk wx bt = some (dueC xi xa) := by rw [← hwx, ← hbt']; exact Vg.alloc_heap_at rfl
                have htx := TDy.new H_hty.out (show Vg.Grows wr wx by rw [← hwx]; (repeat' (first | (with_reducible exact Vg.Grows.refl _) | (with_reducible assumption) | (with_reducible refine Vg.Grows.alloc ?_ _) | (with_reducible refine Vg.Grows.plus ?_ _ _) | (with_reducible refine Vg.Grows.drewN ?_ _) | (with_reducible refine Vg.Grows.drew ?_) | (with_reducible refine Vg.Grows.setCell ?_ ?_ _) | (with_reducible refine Vg.Grows.put ?_ ?_ _) | omega | (simp; omega) | (simp; done)))) x2 (by omega)
                rw [hwx, hbt']
                have c_x2 := Vg.cells_of x2; have f_x2 := Vg.frozen_of x2; have p_x2 := Vg.setCell_of x2; have l_x2 := Vg.lt_of x2; have H_x2 := Lib.hid x2; clear x2
                have H_htx := Lib.hid htx; clear htx; have H_hwx := Lib.hid hwx; clear hwx; have H_hbt' := Lib.hid hbt'; clear hbt'
                go_cut [106] (fun c wz => c = .bool false ∧ TDy w wz b b (T.map Vg.th0) Q' wb Q' wv)
                case first =>
                  go_region_held3 (fun w' => bt < w'.heap.size ∧ w'.cell? ⟨bt, 0, none⟩ = some (.int .i64 xi) ∧ w'.cell? ⟨bt, 1, none⟩ = some (.int .i64 xa))
                    ((go_split_ands; (try dsimp only); go_simp))
                    (first | (go_at_call 48; refine (tx_put xi xa (H_tw.out.grows (by (repeat' (first | (with_reducible exact Vg.Grows.refl _) | (with_reducible assumption) | (with_reducible refine Vg.Grows.alloc ?_ _) | (with_reducible refine Vg.Grows.plus ?_ _ _) | (with_reducible refine Vg.Grows.drewN ?_ _) | (with_reducible refine Vg.Grows.drew ?_) | (with_reducible refine Vg.Grows.setCell ?_ ?_ _) | (with_reducible refine Vg.Grows.put ?_ ?_ _) | omega | (simp; omega) | (simp; done))))) hbw H_hok.out H_hBl.out H_hp2.out).mono ?_; rintro e w3 ⟨rfl, tbw⟩; have y3 := tbw.blk; clear c_y1 f_y1 p_y1; have c_y3 := Vg.cells_of y3; have f_y3 := Vg.frozen_of y3; have p_y3 := Vg.setCell_of y3; have l_y3 := Vg.lt_of y3; have H_y3 := Lib.hid y3; clear y3; have H_tbw := Lib.hid tbw; clear tbw) | (go_at_call 20; refine (tx_wput xi xa (H_tb.out.grows (by (repeat' (first | (with_reducible exact Vg.Grows.refl _) | (with_reducible assumption) | (with_reducible refine Vg.Grows.alloc ?_ _) | (with_reducible refine Vg.Grows.plus ?_ _ _) | (with_reducible refine Vg.Grows.drewN ?_ _) | (with_reducible refine Vg.Grows.drew ?_) | (with_reducible refine Vg.Grows.setCell ?_ ?_ _) | (with_reducible refine Vg.Grows.put ?_ ?_ _) | omega | (simp; omega) | (simp; done))))) hbw H_hok.out H_hp.out).mono ?_; rintro e w3 ⟨rfl, tbw⟩; have y3 := tbw.blk; clear c_y1 f_y1 p_y1; have c_y3 := Vg.cells_of y3; have f_y3 := Vg.frozen_of y3; have p_y3 := Vg.setCell_of y3; have l_y3 := Vg.lt_of y3; have H_y3 := Lib.hid y3; clear y3; have H_tbw := Lib.hid tbw; clear tbw) | (go_at_call 48; refine (tx_put xi xa (H_htx.out.grows (by (repeat' (first | (with_reducible exact Vg.Grows.refl _) | (with_reducible assumption) | (with_reducible refine Vg.Grows.alloc ?_ _) | (with_reducible refine Vg.Grows.plus ?_ _ _) | (with_reducible refine Vg.Grows.drewN ?_ _) | (with_reducible refine Vg.Grows.drew ?_) | (with_reducible refine Vg.Grows.setCell ?_ ?_ _) | (with_reducible refine Vg.Grows.put ?_ ?_ _) | omega | (simp; omega) | (simp; done))))) hbw H_hok.out H_hBl.out H_hp2.out).mono ?_; rintro e w2' ⟨rfl, tb⟩; have y1 := tb.blk; clear c_x2 f_x2 p_x2; have c_y1 := Vg.cells_of y1; have f_y1 := Vg.frozen_of y1; have p_y1 := Vg.setCell_of y1; have l_y1 := Vg.lt_of y1; have H_y1 := Lib.hid y1; clear y1; have H_tb := Lib.hid tb; clear tb) | (go_at_call 20; refine (tx_wput xi xa (H_htx.out.grows (by (repeat' (first | (with_reducible exact Vg.Grows.refl _) | (with_reducible assumption) | (with_reducible refine Vg.Grows.alloc ?_ _) | (with_reducible refine Vg.Grows.plus ?_ _ _) | (with_reducible refine Vg.Grows.drewN ?_ _) | (with_reducible refine Vg.Grows.drew ?_) | (with_reducible refine Vg.Grows.setCell ?_ ?_ _) | (with_reducible refine Vg.Grows.put ?_ ?_ _) | omega | (simp; omega) | (simp; done))))) hbw H_hok.out H_hp.out).mono ?_; rintro e w2' ⟨rfl, tw⟩; have y1 := tw.blk; clear c_x2 f_x2 p_x2; have c_y1 := Vg.cells_of y1; have f_y1 := Vg.frozen_of y1; have p_y1 := Vg.setCell_of y1; have l_y1 := Vg.lt_of y1; have H_y1 := Lib.hid y1; clear y1; have H_tw := Lib.hid tw; clear tw))
                  all_goals go_wp2_with fail
                  all_goals go_meet
                  all_goals exact ⟨by simp, (TDx.toy H_tbw.out).grows (by (repeat' (first | (with_reducible exact Vg.Grows.refl _) | (with_reducible assumption) | (with_reducible refine Vg.Grows.alloc ?_ _) | (with_reducible refine Vg.Grows.plus ?_ _ _) | (with_reducible refine Vg.Grows.drewN ?_ _) | (with_reducible refine Vg.Grows.drew ?_) | (with_reducible refine Vg.Grows.setCell ?_ ?_ _) | (with_reducible refine Vg.Grows.put ?_ ?_ _) | omega | (simp; omega) | (simp; done))))⟩
                case rest =>
                  obtain ⟨rfl, hcut⟩ := hcut
                  clear c_x2 f_x2 p_x2
                  have H_hcut := Lib.hid hcut; clear hcut
                  go_wp2_with fail
                  exact ⟨⟨q + 1, Q', by omega, by go_num, H_hcut.out.grows (by (repeat' (first | (with_reducible exact Vg.Grows.refl _) | (with_reducible assumption) | (with_reducible refine Vg.Grows.alloc ?_ _) | (with_reducible refine Vg.Grows.plus ?_ _ _) | (with_reducible refine Vg.Grows.drewN ?_ _) | (with_reducible refine Vg.Grows.drew ?_) | (with_reducible refine Vg.Grows.setCell ?_ ?_ _) | (with_reducible refine Vg.Grows.put ?_ ?_ _) | omega | (simp; omega) | (simp; done)))), H_hinv'.out, H_hql'.out, H_hsm'.out⟩, by simp [intOf]; omega⟩
            · have hdr : Vg.DR 0 k 0 (T.map Vg.th0) Q := ⟨hinv.mono (by omega), H_hBl.out, by omega, hsm, fun x hx => by
                obtain ⟨t, _, rfl⟩ := List.mem_map.1 hx
                exact ⟨Int.le_refl _, by show (0 : Int) < 0 + 1; omega⟩, Int.le_refl _, by omega⟩
              have H_hty := Lib.hid hty; clear hty; have H_hinv := Lib.hid hinv; clear hinv; have H_hql := Lib.hid hql; clear hql; have H_hsm := Lib.hid hsm; clear hsm; have H_hdr := Lib.hid hdr; clear hdr
              go_upto_block 4 with (fail)
              go_cut [] (fun wz => ∃ (z : Nat) (Bs : List Vg.Bp) (Q : List Vg.Wq) (now : Int), TDy w wz b b Bs Q wb Q wv ∧ Vg.DR z k now Bs Q)
              case first =>
                go_wp2_with fail
                go_loopw [14, 108] (fun v i wr => ∃ (z : Nat) (Bs : List Vg.Bp) (Q : List Vg.Wq) (now : Int), z ≤ 20000 ∧ i = .int .i64 z ∧ v = .int .i64 now ∧ TDy w wr b b Bs Q wb Q wv ∧ Vg.DR z k now Bs Q) (fun _ i _ => 20000 - (intOf i).toNat)
                case atStart => exact ⟨0, _, _, 0, by omega, rfl, rfl, H_hty.out, H_hdr.out⟩
                case round =>
                  clear H_hty H_hdr H_hinv H_hql H_hsm
                  clear Q
                  obtain ⟨z, Bs, Q, now, hz20, rfl, rfl, hty, hdr⟩ := hrel
                  by_cases hlt : z < 20000
                  · have ht0 := hdr.t0
                    have ht1 := hdr.t1
                    have hle : Bs.length ≤ 64 := hdr.inv.le
                    have hgr3 := hty.gr
                    rcases Vg.Bo.best_cases (Q := Q) hdr.pr with ⟨hbest, hnone⟩ | ⟨j, hj, hbest, hab⟩
                    · have hm1 : max (-1 : Int) 0 = 0 := by decide
                      have hi1 : decide ((0 : Int) ≤ -1) = false := by decide
                      obtain ⟨⟨at_, wt⟩, hnx⟩ : ∃ p, Vg.Bo.next Bs Q = p := ⟨_, rfl⟩
                      cases wt with
                      | false =>
                        have H_hty := Lib.hid hty; clear hty; have H_hdr := Lib.hid hdr; clear hdr; have H_hbest := Lib.hid hbest; clear hbest; have H_hnone := Lib.hid hnone; clear hnone; have H_hnx := Lib.hid hnx; clear hnx
                        go_wp2_with (first | (go_at_call 53; refine (ty_pick H_hty.out H_hbest.out hm1 hi1).mono ?_; rintro e w3 ⟨rfl, hty3⟩; have H_hty3 := Lib.hid hty3; clear hty3) | (go_at_call 55; refine (ty_next H_hty3.out hle H_hnx.out).mono ?_; rintro e w4 ⟨rfl, hty4⟩; have H_hty4 := Lib.hid hty4; clear hty4))
                        go_meet
                        exact ⟨z, Bs, Q, now, H_hty4.out, H_hdr.out⟩
                      | true =>
                        have hlat := Vg.Bo.next_later hdr.cur hnx
                        have hn1 : ¬ at_ ≤ now := by omega
                        by_cases hbig : 1125899906842624 < at_
                        · have H_hty := Lib.hid hty; clear hty; have H_hdr := Lib.hid hdr; clear hdr; have H_hbest := Lib.hid hbest; clear hbest; have H_hnone := Lib.hid hnone; clear hnone; have H_hnx := Lib.hid hnx; clear hnx
                          go_wp2_with (first | (go_at_call 53; refine (ty_pick H_hty.out H_hbest.out hm1 hi1).mono ?_; rintro e w3 ⟨rfl, hty3⟩; have H_hty3 := Lib.hid hty3; clear hty3) | (go_at_call 55; refine (ty_next H_hty3.out hle H_hnx.out).mono ?_; rintro e w4 ⟨rfl, hty4⟩; have H_hty4 := Lib.hid hty4; clear hty4))
                          go_ret
                          exact ⟨rfl, H_hty4.out.gr⟩
                        · obtain ⟨hrf, hdr2⟩ := hdr.wait hz20 hnx (by omega)
                          have hI := hdr.inv
                          have H_hty := Lib.hid hty; clear hty; have H_hdr := Lib.hid hdr; clear hdr; have H_hbest := Lib.hid hbest; clear hbest; have H_hnone := Lib.hid hnone; clear hnone; have H_hnx := Lib.hid hnx; clear hnx; have H_hrf := Lib.hid hrf; clear hrf; have H_hdr2 := Lib.hid hdr2; clear hdr2; have H_hI := Lib.hid hI; clear hI
                          go_wp2_with (first | (go_at_call 53; refine (ty_pick H_hty.out H_hbest.out hm1 hi1).mono ?_; rintro e w3 ⟨rfl, hty3⟩; have H_hty3 := Lib.hid hty3; clear hty3) | (go_at_call 55; refine (ty_next H_hty3.out hle H_hnx.out).mono ?_; rintro e w4 ⟨rfl, hty4⟩; have H_hty4 := Lib.hid hty4; clear hty4) | (go_at_call 52; refine (ty_refill at_ H_hty4.out hbw H_hI.out H_hrf.out).mono ?_; rintro e w5 ⟨rfl, hty5⟩; have H_hty5 := Lib.hid hty5; clear hty5))
                          exact ⟨⟨z + 1, _, Q, at_, by omega, by go_num, rfl, H_hty5.out, H_hdr2.out⟩, by simp [intOf]; omega⟩
                    · have hm1 : max (j : Int) 0 = j := by omega
                      have hi1 : decide ((0 : Int) ≤ j) = true := by simp
                      obtain ⟨lf, hlf⟩ : ∃ lf, Vg.Bo.left Bs Q j = lf := ⟨_, rfl⟩
                      obtain ⟨Bs', Q', is, Bs2, l1, l2, hrun, hgo, hI', hrf, hdr2⟩ := hdr.run hz20 hj hab hlf
                      have hI := hdr.inv
                      have hok : ∀ x ∈ Q, x.ok := hdr.inv.wk.ok (by decide)
                      have hsum : IntKind.i64.wrap (now + lf) = now + lf := by rw [IntWalk.i64_in _ (by omega)]
                      have hiis : (is != is) = false := by simp
                      have hl1 : ¬ lf < 1 := by omega
                      have hb1 : -9223372036854775808 ≤ lf ∧ lf ≤ 9223372036854775807 := by omega
                      have hb2 : -9223372036854775808 ≤ now + lf ∧ now + lf ≤ 9223372036854775807 := by omega
                      have H_hty := Lib.hid hty; clear hty; have H_hdr := Lib.hid hdr; clear hdr; have H_hbest := Lib.hid hbest; clear hbest; have H_hab := Lib.hid hab; clear hab; have H_hlf := Lib.hid hlf; clear hlf; have H_hrun := Lib.hid hrun; clear hrun; have H_hgo := Lib.hid hgo; clear hgo; have H_hI' := Lib.hid hI'; clear hI'; have H_hrf := Lib.hid hrf; clear hrf; have H_hdr2 := Lib.hid hdr2; clear hdr2; have H_hI := Lib.hid hI; clear hI; have H_hok := Lib.hid hok; clear hok; have H_hj := Lib.hid hj; clear hj
                      go_wp2_with (first | (go_at_call 53; refine (ty_pick H_hty.out H_hbest.out hm1 hi1).mono ?_; rintro e w3 ⟨rfl, hty3⟩; have H_hty3 := Lib.hid hty3; clear hty3) | (go_at_call 59; refine (ty_left j H_hty3.out H_hlf.out).mono ?_; rintro e w4 ⟨rfl, hty4⟩; have H_hty4 := Lib.hid hty4; clear hty4) | (go_at_call 50; refine (ty_run j lf (now + lf) H_hty4.out hbw H_hI.out (by decide) hb1 hb2 H_hrun.out).mono ?_; rintro e w5 ⟨rfl, hty5⟩; have H_hty5 := Lib.hid hty5; clear hty5) | (go_at_call 22; refine (ty_wgo j lf H_hty5.out hbw H_hok.out H_hgo.out).mono ?_; rintro e w6 ⟨rfl, hty6⟩; have H_hty6 := Lib.hid hty6; clear hty6) | (go_at_call 52; refine (ty_refill (now + lf) H_hty6.out hbw H_hI'.out H_hrf.out).mono ?_; rintro e w7 ⟨rfl, hty7⟩; have H_hty7 := Lib.hid hty7; clear hty7))
                      exact ⟨⟨z + 1, _, Q', now + lf, by omega, by go_num, rfl, H_hty7.out, H_hdr2.out⟩, by simp [intOf]; omega⟩
                  · have H_hty := Lib.hid hty; clear hty; have H_hdr := Lib.hid hdr; clear hdr
                    go_wp2_with fail
                    go_meet
                    exact ⟨z, Bs, Q, now, H_hty.out, H_hdr.out⟩
              case rest =>
                clear H_hty H_hdr H_hinv H_hql H_hsm
                clear Q
                obtain ⟨z, Bs, Q, now, hty, hdr⟩ := hcut
                have hle : Bs.length ≤ 64 := hdr.inv.le
                have hlen2 := hdr.len
                have hql2 := hdr.qlen
                rcases Vg.Bo.best_cases (Q := Q) hdr.pr with ⟨hbest, hnone⟩ | ⟨j, hj, hbest, hab⟩
                · have hm1 : max (-1 : Int) 0 = 0 := by decide
                  have hi1 : decide ((0 : Int) ≤ -1) = false := by decide
                  obtain ⟨⟨at_, wt⟩, hnx⟩ : ∃ p, Vg.Bo.next Bs Q = p := ⟨_, rfl⟩
                  cases wt with
                  | true =>
                    have H_hty := Lib.hid hty; clear hty; have H_hdr := Lib.hid hdr; clear hdr; have H_hbest := Lib.hid hbest; clear hbest; have H_hnone := Lib.hid hnone; clear hnone; have H_hnx := Lib.hid hnx; clear hnx
                    go_wp2_with (first | (go_at_call 53; refine (ty_pick H_hty.out H_hbest.out hm1 hi1).mono ?_; rintro e w3 ⟨rfl, hty3⟩; have H_hty3 := Lib.hid hty3; clear hty3) | (go_at_call 55; refine (ty_next H_hty3.out hle H_hnx.out).mono ?_; rintro e w4 ⟨rfl, hty4⟩; have H_hty4 := Lib.hid hty4; clear hty4))
                    go_ret
                    exact ⟨rfl, H_hty4.out.gr⟩
                  | false =>
                    have hdone := hdr.done hnone (by rw [hnx])
                    have H_hty := Lib.hid hty; clear hty; have H_hdr := Lib.hid hdr; clear hdr; have H_hbest := Lib.hid hbest; clear hbest; have H_hnone := Lib.hid hnone; clear hnone; have H_hnx := Lib.hid hnx; clear hnx; have H_hdone := Lib.hid hdone; clear hdone; have H_hlen2 := Lib.hid hlen2; clear hlen2; have H_hql2 := Lib.hid hql2; clear hql2
                    go_wp2_with (first | (go_at_call 53; refine (ty_pick H_hty.out H_hbest.out hm1 hi1).mono ?_; rintro e w3 ⟨rfl, hty3⟩; have H_hty3 := Lib.hid hty3; clear hty3) | (go_at_call 55; refine (ty_next H_hty3.out hle H_hnx.out).mono ?_; rintro e w4 ⟨rfl, hty4⟩; have H_hty4 := Lib.hid hty4; clear hty4))
                    go_loopw [197] (fun i wr => ∃ q : Nat, q ≤ k ∧ i = .int .i64 q ∧ TDy w wr b b Bs Q wb Q wv) (fun i _ => k - (intOf i).toNat)
                    case atStart => exact ⟨0, by omega, rfl, H_hty4.out⟩
                    case round =>
                      clear H_hty H_hty3 H_hty4
                      obtain ⟨q, hq, rfl, hty⟩ := hrel
                      have hgr4 := hty.gr
                      by_cases hlt : q < k
                      · have e1 := H_hdone.out q hlt
                        have e2 : Vg.Bo.wait k Q q = 0 := by rw [Vg.Bo.wait_eq H_hql2.out]; exact e1
                        obtain ⟨ls, hls⟩ : ∃ ls, Vg.Wk.lost Q q = ls := ⟨_, rfl⟩
                        have hls2 : Vg.Bo.lost k Q q = ls := by rw [Vg.Bo.lost_eq H_hql2.out]; exact hls
                        have hss : (ls != ls) = false := by simp
                        have H_hty := Lib.hid hty; clear hty; have H_e1 := Lib.hid e1; clear e1; have H_e2 := Lib.hid e2; clear e2; have H_hls := Lib.hid hls; clear hls; have H_hls2 := Lib.hid hls2; clear hls2
                        go_wp2_with (first | (go_at_call 61; refine (ty_wait q H_hty.out H_hlen2.out H_e2.out).mono ?_; rintro e w5 ⟨rfl, rfl⟩) | (go_at_call 26; refine (ty_wwait q H_hty.out H_e1.out).mono ?_; rintro e w5 ⟨rfl, rfl⟩) | (go_at_call 62; refine (ty_lost q H_hty.out H_hlen2.out H_hls2.out).mono ?_; rintro e w5 ⟨rfl, rfl⟩) | (go_at_call 27; refine (ty_wlost q H_hty.out H_hls.out).mono ?_; rintro e w5 ⟨rfl, rfl⟩))
                        exact ⟨⟨q + 1, by omega, by go_num, H_hty.out⟩, by simp [intOf]; omega⟩
                      · have H_hty := Lib.hid hty; clear hty
                        go_wp2_with fail
                        go_ret
                        exact ⟨rfl, hgr4⟩
                · have hm1 : max (j : Int) 0 = j := by omega
                  have hi1 : decide ((0 : Int) ≤ j) = true := by simp
                  have H_hty := Lib.hid hty; clear hty; have H_hdr := Lib.hid hdr; clear hdr; have H_hbest := Lib.hid hbest; clear hbest; have H_hab := Lib.hid hab; clear hab; have H_hj := Lib.hid hj; clear hj
                  go_wp2_with (first | (go_at_call 53; refine (ty_pick H_hty.out H_hbest.out hm1 hi1).mono ?_; rintro e w3 ⟨rfl, hty3⟩; have H_hty3 := Lib.hid hty3; clear hty3))
                  go_ret
                  exact ⟨rfl, H_hty3.out.gr⟩
end Go.Proofs.Ytiinhofmhoplfaa
