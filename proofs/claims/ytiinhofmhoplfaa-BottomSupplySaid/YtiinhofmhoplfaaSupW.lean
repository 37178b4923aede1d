/- BottomSupply: the walk. -/
import Derived.Test.YtiinhofmhoplfaaSup
import Derived.Test.YtiinhofmhoplfaaCeilR
set_option linter.unusedSimpArgs false
set_option linter.unusedVariables false
set_option maxHeartbeats 40000000
set_option maxRecDepth 100000
namespace Vg
open Go
def rncells : List Rn → List Value
  | [] => []
  | x :: l => .int .i64 x.1 :: .int .i64 x.2.1 :: .int .i64 x.2.2 :: rncells l
theorem rncells_length : ∀ l : List Rn, (rncells l).length = l.length * 3
  | [] => rfl
  | x :: l => by simp [rncells, rncells_length l]; omega
theorem rncells_append : ∀ l m : List Rn, rncells (l ++ m) = rncells l ++ rncells m
  | [], m => rfl
  | x :: l, m => by simp [rncells, rncells_append l m]
theorem rncells_get : ∀ (l : List Rn) (k : Nat) (h : k < l.length), (rncells l)[k * 3]? = some (.int .i64 l[k].1) ∧ (rncells l)[k * 3 + 1]? = some (.int .i64 l[k].2.1) ∧ (rncells l)[k * 3 + 2]? = some (.int .i64 l[k].2.2)
  | [], k, h => by simp at h
  | x :: l, 0, _ => by simp [rncells]
  | x :: l, k + 1, h => by
    have := rncells_get l k (by simpa using h)
    rw [show (k + 1) * 3 = k * 3 + 1 + 1 + 1 from by omega]
    simpa [rncells] using this
theorem Reads.rn {S : Nat} {w : World} {a : Option Addr} {c n : Nat} {M : List Rn} (hn : M.length = n) (h : Reads S w (.slice a n c) n (rncells M)) (i : Nat) (hi : i < M.length) :
    ∃ g o, a = some ⟨g, o, none⟩ ∧ g < w.heap.size ∧ n ≤ c ∧ c ≤ 9223372036854775807 ∧ w.cell? ⟨g, o + i * 3, none⟩ = some (.int .i64 M[i].1) ∧ w.cell? ⟨g, o + i * 3 + 1, none⟩ = some (.int .i64 M[i].2.1) ∧ w.cell? ⟨g, o + i * 3 + 2, none⟩ = some (.int .i64 M[i].2.2) := by
  subst hn
  have hl := rncells_length M
  obtain ⟨g, o, rfl, hg, hc, hm, hx⟩ := h.open (by omega)
  obtain ⟨g0, g1, g2⟩ := rncells_get M i hi
  have key : ∀ j u, i * 3 + j < (rncells M).length → (rncells M)[i * 3 + j]? = some u → w.cell? ⟨g, o + i * 3 + j, none⟩ = some u := fun j u hj hu => by
    have := hx (i * 3 + j) hj
    rw [← Nat.add_assoc] at this
    rw [this, ← hu, List.getElem?_eq_getElem]
  have hhc : c ≤ 9223372036854775807 := hm
  exact ⟨g, o, rfl, hg, hc, hhc, by simpa using key 0 _ (by omega) g0, key 1 _ (by omega) g1, key 2 _ (by omega) g2⟩
theorem BR.fin' {k n x y ri : Nat} {T : List Th} {now rf rt yf yt : Int} {Bs : List Bp} {Q : List Wq} {A : List Rn} {t : Th} (h : BR k n T now Bs Q A) (hx : x < A.length) (hy : y < A.length) (ex : A[x] = (ri, rf, rt)) (ey : A[y] = (ri, yf, yt)) (hc : rf ≤ yf) (hxn : ri < T.length) (et : T[ri] = t) :
    sm ri rf (A.take (y + 1)) ≤ (yt - rf + t.pe - 1) / t.pe * t.bu ∧ (yt - rf + t.pe - 1) / t.pe * t.bu ≤ yt - rf + t.pe - 1 ∧ 0 ≤ (yt - rf + t.pe - 1) / t.pe ∧ (yt - rf + t.pe - 1) / t.pe ≤ yt - rf + t.pe - 1 := by
  have := h.fin x y hx hy (by rw [ex, ey]; exact ⟨rfl, hc⟩) (by rw [ex]; exact hxn)
  simp only [ex, ey, et] at this
  exact this
end Vg
namespace Go.Proofs.Ytiinhofmhoplfaa
open Go.ChangeShapes Go.WideShapes Go.ChangeAt Go.RowKit
theorem Try.info_run18 : (Try.prog.info? 100).map (fun i => (i.zero, i.size, i.bytes)) = some (some (.agg #[.int .i64 0, .int .i64 0, .int .i64 0]), 3, 24) := by kernel_rfl
section
variable {w w' w0 W2 : World} {b S n m sz nn : Nat} {Bs : List Vg.Bp} {Q : List Vg.Wq} {v v2 : Value} {xs xs' : List Value} {ty : TypeId} {y : Array Obj}
theorem bz_app (h : BZ w0 w b Bs Q (fun j => v.ownBlock = some j)) (hq : Vg.Que w S ty sz v n xs) (hS : w0.heap.size ≤ S) (hs : Vg.Same (fun j => v.ownBlock = some j) w W2) (ho : v2.ownBlock = v.ownBlock ∨ v2.ownBlock = some w.heap.size) (hq2 : Vg.Que (Vg.plus W2 y m) S ty sz v2 nn xs') :
    BZ w0 (Vg.plus W2 y m) b Bs Q (fun j => v2.ownBlock = some j) := by
  refine h.other ((Vg.Touch.of_same hs).trans (Vg.Touch.of_grows ((Vg.Grows.refl W2).plus y m))) (fun z hz => hz) (Vg.Grows.plus (hs.grows h.gr (fun j hj => Nat.le_trans hS (hq.lt j hj).1)) _ _) fun z hz => ⟨?_, (hq2.lt z hz).2⟩
  rcases ho with h9 | h9
  · exact .inl (h9.symm.trans hz)
  · have := Option.some.inj (h9.symm.trans hz)
    exact .inr (by omega)
end
structure Later (P : Prop) : Prop where out : P
abbrev runC (a b c : Int) : Obj := .cells #[.int .i64 a, .int .i64 b, .int .i64 c] 100
theorem BottomSupply_walk (ta : Option Addr) (n tc : Nat) (TD0 : Nat → Nat → Int) (a : Option Addr) (len cap : Nat) (D : Nat → Nat → Int) (w : World) (hrT : Vg.intRows w [.i64, .i64, .i64, .i64] ta n tc TD0) (hr : Vg.intRows w [.u8] a len cap D) (hn42 : n ≤ 4398046511104) :
    Calls Try.prog 9 #[.slice ta n tc, .slice a len cap] w fun e w' => e = .returned (.bool true) ∧ Vg.Grows w w' := by
  obtain ⟨T, hTR, hTl⟩ : ∃ T, Vg.TR w ta tc T ∧ T.length = n := ⟨_, Vg.TR.of_rows hrT, Vg.thsOf_len _ _⟩
  have htc1 : n ≤ tc := hrT.1
  have htc2 : tc ≤ 9223372036854775807 := hrT.2.1
  clear hrT
  have hlen := hr.1
  have hcap : cap ≤ 9223372036854775807 := hr.2.1
  cases hgood : Vg.goodT T with
  | false =>
    clear hr
    have H_hTR := Lib.hid hTR; clear hTR; have H_hTl := Lib.hid hTl; clear hTl; have H_hgood := Lib.hid hgood; clear hgood
    go_enter Try.func9, Try.ntmps9
    go_wp2_with (first | (go_at_call 42; refine (lives18 _).mono ?_; rintro e w1 ⟨rfl, x0, n0, rfl⟩) | (go_at_call 43; refine (bs_new_no (H_hTR.out.grows (by (repeat' (first | (with_reducible exact Vg.Grows.refl _) | (with_reducible assumption) | (with_reducible refine Vg.Grows.alloc ?_ _) | (with_reducible refine Vg.Grows.plus ?_ _ _) | (with_reducible refine Vg.Grows.drewN ?_ _) | (with_reducible refine Vg.Grows.drew ?_) | (with_reducible refine Vg.Grows.setCell ?_ ?_ _) | (with_reducible refine Vg.Grows.put ?_ ?_ _) | omega | (simp; omega) | (simp; done))))) H_hTl.out hn42 H_hgood.out).mono ?_; rintro e w1 ⟨rfl, x1, n1, rfl⟩))
    go_ret
    exact ⟨rfl, by (repeat' (first | (with_reducible exact Vg.Grows.refl _) | (with_reducible assumption) | (with_reducible refine Vg.Grows.alloc ?_ _) | (with_reducible refine Vg.Grows.plus ?_ _ _) | (with_reducible refine Vg.Grows.drewN ?_ _) | (with_reducible refine Vg.Grows.drew ?_) | (with_reducible refine Vg.Grows.setCell ?_ ?_ _) | (with_reducible refine Vg.Grows.put ?_ ?_ _) | omega | (simp; omega) | (simp; done)))⟩
  | true =>
    by_cases hguard : 8 < n ∨ 60 < len
    · clear hr
      have H_hTR := Lib.hid hTR; clear hTR; have H_hTl := Lib.hid hTl; clear hTl; have H_hgood := Lib.hid hgood; clear hgood
      by_cases h6 : 8 < n
      · clear hguard
        go_enter Try.func9, Try.ntmps9
        go_wp2_with (first | (go_at_call 42; refine (lives18 _).mono ?_; rintro e w1 ⟨rfl, x0, n0, rfl⟩) | (go_at_call 43; refine (bs_new (H_hTR.out.grows (by (repeat' (first | (with_reducible exact Vg.Grows.refl _) | (with_reducible assumption) | (with_reducible refine Vg.Grows.alloc ?_ _) | (with_reducible refine Vg.Grows.plus ?_ _ _) | (with_reducible refine Vg.Grows.drewN ?_ _) | (with_reducible refine Vg.Grows.drew ?_) | (with_reducible refine Vg.Grows.setCell ?_ ?_ _) | (with_reducible refine Vg.Grows.put ?_ ?_ _) | omega | (simp; omega) | (simp; done))))) H_hTl.out hn42 H_hgood.out rfl rfl).mono ?_; rintro e w1 ⟨OB, rfl, -, x1, n1, rfl⟩))
        go_ret
        exact ⟨rfl, by (repeat' (first | (with_reducible exact Vg.Grows.refl _) | (with_reducible assumption) | (with_reducible refine Vg.Grows.alloc ?_ _) | (with_reducible refine Vg.Grows.plus ?_ _ _) | (with_reducible refine Vg.Grows.drewN ?_ _) | (with_reducible refine Vg.Grows.drew ?_) | (with_reducible refine Vg.Grows.setCell ?_ ?_ _) | (with_reducible refine Vg.Grows.put ?_ ?_ _) | omega | (simp; omega) | (simp; done)))⟩
      · have h40 : 60 < len := by omega
        clear hguard
        go_enter Try.func9, Try.ntmps9
        go_wp2_with (first | (go_at_call 42; refine (lives18 _).mono ?_; rintro e w1 ⟨rfl, x0, n0, rfl⟩) | (go_at_call 43; refine (bs_new (H_hTR.out.grows (by (repeat' (first | (with_reducible exact Vg.Grows.refl _) | (with_reducible assumption) | (with_reducible refine Vg.Grows.alloc ?_ _) | (with_reducible refine Vg.Grows.plus ?_ _ _) | (with_reducible refine Vg.Grows.drewN ?_ _) | (with_reducible refine Vg.Grows.drew ?_) | (with_reducible refine Vg.Grows.setCell ?_ ?_ _) | (with_reducible refine Vg.Grows.put ?_ ?_ _) | omega | (simp; omega) | (simp; done))))) H_hTl.out hn42 H_hgood.out rfl rfl).mono ?_; rintro e w1 ⟨OB, rfl, -, x1, n1, rfl⟩))
        go_ret
        exact ⟨rfl, by (repeat' (first | (with_reducible exact Vg.Grows.refl _) | (with_reducible assumption) | (with_reducible refine Vg.Grows.alloc ?_ _) | (with_reducible refine Vg.Grows.plus ?_ _ _) | (with_reducible refine Vg.Grows.drewN ?_ _) | (with_reducible refine Vg.Grows.drew ?_) | (with_reducible refine Vg.Grows.setCell ?_ ?_ _) | (with_reducible refine Vg.Grows.put ?_ ?_ _) | omega | (simp; omega) | (simp; done)))⟩
    · have h6 : ¬ 8 < n := fun h => hguard (.inl h)
      have h40 : ¬ 60 < len := fun h => hguard (.inr h)
      clear hguard
      have RH := Lib.hid (fun h => Vg.intRows.open (by decide) hr h)
      clear hr
      obtain ⟨i0, hIi, hz0, hz1, hz2⟩ := info_parts Try.info_run18
      have hbr0 := Vg.BR.start hgood hTl
      have H_hTR := Lib.hid hTR; clear hTR; have H_hTl := Lib.hid hTl; clear hTl; have H_hgood := Lib.hid hgood; clear hgood; have H_hbr0 := Lib.hid hbr0; clear hbr0
      go_enter Try.func9, Try.ntmps9
      go_wp2_with ((go_at_call 42; refine (lives18 _).mono ?_; rintro e w1 ⟨rfl, x0, n0, rfl⟩))
      refine (bz_new (w0 := w) (by (repeat' (first | (with_reducible exact Vg.Grows.refl _) | (with_reducible assumption) | (with_reducible refine Vg.Grows.alloc ?_ _) | (with_reducible refine Vg.Grows.plus ?_ _ _) | (with_reducible refine Vg.Grows.drewN ?_ _) | (with_reducible refine Vg.Grows.drew ?_) | (with_reducible refine Vg.Grows.setCell ?_ ?_ _) | (with_reducible refine Vg.Grows.put ?_ ?_ _) | omega | (simp; omega) | (simp; done)))) (H_hTR.out.grows (by (repeat' (first | (with_reducible exact Vg.Grows.refl _) | (with_reducible assumption) | (with_reducible refine Vg.Grows.alloc ?_ _) | (with_reducible refine Vg.Grows.plus ?_ _ _) | (with_reducible refine Vg.Grows.drewN ?_ _) | (with_reducible refine Vg.Grows.drew ?_) | (with_reducible refine Vg.Grows.setCell ?_ ?_ _) | (with_reducible refine Vg.Grows.put ?_ ?_ _) | omega | (simp; omega) | (simp; done))))) H_hTl.out hn42 H_hgood.out rfl rfl).mono ?_
      rintro e W1 ⟨rfl, hbz, hg1⟩
      obtain ⟨b, hb⟩ : ∃ b, w.heap.size + Vg.sz x0 = b := ⟨_, rfl⟩
      simp only [Vg.plus_size, hb] at hbz ⊢
      obtain ⟨S0, hS0⟩ : ∃ S0, W1.heap.size = S0 := ⟨_, rfl⟩
      have hS0w : S0 ≤ W1.heap.size := by omega
      have hwS : w.heap.size ≤ S0 := by rw [← hS0]; exact hbz.gr.size
      have H_hbz := Lib.hid hbz; clear hbz; have H_hb := Lib.hid hb; clear hb; have H_hS0 := Lib.hid hS0; clear hS0
      clear hg1
      go_wp2_with fail
      go_loopw [7, 8, 57] (fun v7 v8 i wr => ∃ (k : Nat) (now : Int) (Bs : List Vg.Bp) (Q : List Vg.Wq) (A : List Vg.Rn) (va : Value), k ≤ len ∧ i = .int .i64 k ∧ v8 = .int .i64 now ∧ v7 = va ∧ S0 ≤ wr.heap.size ∧ BZ w wr b Bs Q (fun j => va.ownBlock = some j) ∧ Vg.BR k n T now Bs Q A ∧ Vg.Que wr S0 100 3 va A.length (Vg.rncells A)) (fun _ _ i _ => len - (intOf i).toNat)
      case atStart =>
        refine ⟨0, 0, _, _, [], _, by omega, rfl, rfl, rfl, hS0w, ?_, H_hbr0.out, Vg.Que.nil _ _ _ _⟩
        exact H_hbz.out.other (Vg.Touch.refl (fun _ => False) _) (fun k hk => hk) H_hbz.out.gr (fun k hk => by simp [Value.ownBlock] at hk)
      case round =>
        obtain ⟨k, now, Bs, Q, A, va, hk, rfl, rfl, hv7, hszr, hbz, hbr, hq⟩ := hrel
        obtain ⟨aa, ac, rfl⟩ := hq.shape
        subst hv7
        obtain ⟨nA, hnA⟩ : ∃ nA, A.length = nA := ⟨_, rfl⟩
        have hal := hbr.al
        rw [hnA] at hbz hq hal ⊢
        by_cases hlt : k < len
        · obtain ⟨ba, off, rfl, hba, hcc⟩ := RH.out (by omega)
          have hcc := hcc k hlt 0 (by decide)
          obtain ⟨g, hg⟩ : ∃ g, D k 0 = g := ⟨_, rfl⟩
          rw [hg] at hcc
          obtain ⟨hcc, hw⟩ := hcc
          have hbg := bounds_u8 hw
          simp only [List.length_cons, List.length_nil, Nat.zero_add, Nat.mul_one, Nat.add_zero, List.getElem_cons_zero] at hcc
          clear hw hg
          have hgr := hbz.gr
          have hcc := (hgr.below.cell (p := ⟨ba, off + k, none⟩) hba).trans hcc
          have hbar : ba < wr.heap.size := Nat.lt_of_lt_of_le hba hgr.size
          have ht0 := hbr.t0
          have ht1 := hbr.t1
          have hps0 : Vg.PS (8 * k) n 0 Bs Q := ⟨hbr.inv, hbr.dep, fun j hj => by omega⟩
          have H_hbz := Lib.hid hbz; clear hbz; have H_hbr := Lib.hid hbr; clear hbr; have H_hq := Lib.hid hq; clear hq; have H_hps0 := Lib.hid hps0; clear hps0; have H_hnA := Lib.hid hnA; clear hnA
          go_upto_block 2 with (fail)
          go_cut [] (fun wz => ∃ Q' : List Vg.Wq, S0 ≤ wz.heap.size ∧ BZ w wz b Bs Q' (fun j => (Value.slice aa nA ac).ownBlock = some j) ∧ Vg.PS (8 * k) n n Bs Q' ∧ Vg.Que wz S0 100 3 (.slice aa nA ac) nA (Vg.rncells A))
          case first =>
            go_wp2_with fail
            go_loopw [63] (fun i wr => ∃ (j : Nat) (Q' : List Vg.Wq), j ≤ n ∧ i = .int .i64 j ∧ S0 ≤ wr.heap.size ∧ BZ w wr b Bs Q' (fun j => (Value.slice aa nA ac).ownBlock = some j) ∧ Vg.PS (8 * k) n j Bs Q' ∧ Vg.Que wr S0 100 3 (.slice aa nA ac) nA (Vg.rncells A)) (fun i _ => n - (intOf i).toNat)
            case atStart => exact ⟨0, Q, by omega, rfl, hszr, H_hbz.out, H_hps0.out, H_hq.out⟩
            case round =>
              obtain ⟨j, Q', hj, rfl, hszr, hbz, hps, hq⟩ := hrel
              by_cases hjn : j < n
              · obtain ⟨⟨Q2, r⟩, hp⟩ : ∃ p, Vg.Bo.put n Q' j 1000 = p := ⟨_, rfl⟩
                have hps2 := hps.put H_hbr.out.len hjn
                rw [hp] at hps2
                have hok : ∀ x ∈ Q', x.ok := hps.inv.wk.ok (by omega)
                have hbl := H_hbr.out.len
                have H_hbz := Lib.hid hbz; clear hbz; have H_hps := Lib.hid hps; clear hps; have H_hq := Lib.hid hq; clear hq; have H_hp := Lib.hid hp; clear hp; have H_hps2 := Lib.hid hps2; clear hps2; have H_hok := Lib.hid hok; clear hok; have H_hbl := Lib.hid hbl; clear hbl
                go_wp2_with ((go_at_call 48; refine (bz_put j 1000 H_hbz.out H_hok.out H_hbl.out H_hp.out).mono ?_; rintro e w3 ⟨rfl, hz3, hk3⟩; have HZ3 := Lib.hid hz3; have HK3 := Lib.hid hk3; clear hz3 hk3))
                exact ⟨⟨j + 1, Q2, by omega, by go_num, Nat.le_trans hszr HK3.out.size, HZ3.out, H_hps2.out, H_hq.out.kept fun z hz => HK3.out.block z hz⟩, by simp [intOf]; omega⟩
              · have hjn' : j = n := by omega
                subst hjn'
                have H_hbz := Lib.hid hbz; clear hbz; have H_hps := Lib.hid hps; clear hps; have H_hq := Lib.hid hq; clear hq
                go_wp2_with fail
                go_meet
                exact ⟨Q', hszr, H_hbz.out, H_hps.out, H_hq.out⟩
          case rest =>
            obtain ⟨Q', hszr, hbz, hps, hq⟩ := hcut
            clear H_hbz H_hq H_hps0
            obtain ⟨hrf, hbf⟩ := H_hbr.out.refill (by omega) hps (by omega) hbg
            obtain ⟨t, ht⟩ : ∃ t, now + g = t := ⟨_, rfl⟩
            have hsum : IntKind.i64.wrap (now + g) = t := by rw [IntWalk.i64_in _ (by omega)]; exact ht
            have hgw : IntKind.i64.wrap g = g := by rw [IntWalk.i64_in _ (by omega)]
            rw [ht] at hrf hbf
            have htb : 0 ≤ t ∧ t ≤ 1125899906842624 + 512 * k + 255 := by omega
            obtain ⟨Bs1, hBs1⟩ : ∃ Bs1, Bs.map (Vg.Bo.rf t) = Bs1 := ⟨_, rfl⟩
            rw [hBs1] at hrf hbf
            have hle1 : Bs1.length ≤ 64 := hbf.inv.le
            have hIput := hps.inv
            have hpr : ∀ x ∈ Bs1, 0 ≤ x.t.pr := fun x hx => (hbf.inv.each x hx).2.2.1.1
            have hl1 := hbf.len
            rcases Vg.Bo.best_cases (Q := Q') hpr with ⟨hbest, hnone⟩ | ⟨i, hi, hbest, hab⟩
            · have hm1 : max (-1 : Int) 0 = 0 := by decide
              have hi1 : decide ((0 : Int) ≤ -1) = false := by decide
              obtain ⟨⟨at_, wt⟩, hnx⟩ : ∃ p, Vg.Bo.next Bs1 Q' = p := ⟨_, rfl⟩
              rcases hbf.none hnone hnx with ⟨hn0, hwt, hat⟩ | ⟨hn0, hwt, hat⟩
              · subst hwt hat
                have hmx : ¬ t < 0 := by omega
                have hbr2 := hbf.wait (Int.le_refl t) (by omega)
                have hjz : (n : Int) ≤ 0 := by omega
                clear hn0
                have H_hbz := Lib.hid hbz; clear hbz; have H_hps := Lib.hid hps; clear hps; have H_hq := Lib.hid hq; clear hq; have H_ht := Lib.hid ht; clear ht; have H_hrf := Lib.hid hrf; clear hrf; have H_hbf := Lib.hid hbf; clear hbf; have H_hBs1 := Lib.hid hBs1; clear hBs1; have H_hIput := Lib.hid hIput; clear hIput; have H_hpr := Lib.hid hpr; clear hpr; have H_hbest := Lib.hid hbest; clear hbest; have H_hnone := Lib.hid hnone; clear hnone; have H_hnx := Lib.hid hnx; clear hnx; have H_hbr2 := Lib.hid hbr2; clear hbr2
                go_wp2_with (first | (go_at_call 52; refine (bz_refill t H_hbz.out H_hIput.out H_hrf.out).mono ?_; rintro e w4 ⟨rfl, hz4, hk4⟩; have HZ4 := Lib.hid hz4; have HK4 := Lib.hid hk4; clear hz4 hk4) | (go_at_call 53; refine (bz_pick HZ4.out H_hbest.out hm1 hi1).mono ?_; rintro e w5 ⟨rfl, hg5⟩; have HG5 := Lib.hid hg5; clear hg5) | (go_at_call 55; refine (bz_next (HZ4.out.grows HG5.out) hle1 H_hnx.out).mono ?_; rintro e w6 ⟨rfl, hg6⟩; have HG6 := Lib.hid hg6; clear hg6))
                go_roundw
                case rel =>
                  first | exact ⟨k + 1, _, _, _, _, _, (by omega), by go_num, rfl, rfl, Nat.le_trans hszr (Nat.le_trans HK4.out.size (Nat.le_trans HG5.out.size HG6.out.size)), (HZ4.out.grows HG5.out).grows HG6.out, H_hbr2.out, by rw [H_hnA.out]; exact ((H_hq.out.kept fun z hz => HK4.out.block z hz).grows HG5.out).grows HG6.out⟩ | exact ⟨⟨k + 1, _, _, _, _, _, (by omega), by go_num, rfl, rfl, Nat.le_trans hszr (Nat.le_trans HK4.out.size (Nat.le_trans HG5.out.size HG6.out.size)), (HZ4.out.grows HG5.out).grows HG6.out, H_hbr2.out, by rw [H_hnA.out]; exact ((H_hq.out.kept fun z hz => HK4.out.block z hz).grows HG5.out).grows HG6.out⟩, rfl⟩
                case measure => simp [intOf]; omega
              · subst hwt
                have hn1 : ¬ at_ ≤ t := by omega
                have hmx : t < at_ := hat
                by_cases hbig : 1125899906842624 < at_
                · have H_hbz := Lib.hid hbz; clear hbz; have H_hps := Lib.hid hps; clear hps; have H_hq := Lib.hid hq; clear hq; have H_ht := Lib.hid ht; clear ht; have H_hrf := Lib.hid hrf; clear hrf; have H_hbf := Lib.hid hbf; clear hbf; have H_hBs1 := Lib.hid hBs1; clear hBs1; have H_hIput := Lib.hid hIput; clear hIput; have H_hpr := Lib.hid hpr; clear hpr; have H_hbest := Lib.hid hbest; clear hbest; have H_hnone := Lib.hid hnone; clear hnone; have H_hnx := Lib.hid hnx; clear hnx
                  go_wp2_with (first | (go_at_call 52; refine (bz_refill t H_hbz.out H_hIput.out H_hrf.out).mono ?_; rintro e w4 ⟨rfl, hz4, hk4⟩; have HZ4 := Lib.hid hz4; have HK4 := Lib.hid hk4; clear hz4 hk4) | (go_at_call 53; refine (bz_pick HZ4.out H_hbest.out hm1 hi1).mono ?_; rintro e w5 ⟨rfl, hg5⟩; have HG5 := Lib.hid hg5; clear hg5) | (go_at_call 55; refine (bz_next (HZ4.out.grows HG5.out) hle1 H_hnx.out).mono ?_; rintro e w6 ⟨rfl, hg6⟩; have HG6 := Lib.hid hg6; clear hg6))
                  go_ret
                  exact ⟨rfl, (HZ4.out.gr.trans HG5.out).trans HG6.out⟩
                · have hbr2 := hbf.wait (Int.le_of_lt hat) (by omega)
                  have H_hbz := Lib.hid hbz; clear hbz; have H_hps := Lib.hid hps; clear hps; have H_hq := Lib.hid hq; clear hq; have H_ht := Lib.hid ht; clear ht; have H_hrf := Lib.hid hrf; clear hrf; have H_hbf := Lib.hid hbf; clear hbf; have H_hBs1 := Lib.hid hBs1; clear hBs1; have H_hIput := Lib.hid hIput; clear hIput; have H_hpr := Lib.hid hpr; clear hpr; have H_hbest := Lib.hid hbest; clear hbest; have H_hnone := Lib.hid hnone; clear hnone; have H_hnx := Lib.hid hnx; clear hnx; have H_hbr2 := Lib.hid hbr2; clear hbr2
                  go_wp2_with (first | (go_at_call 52; refine (bz_refill t H_hbz.out H_hIput.out H_hrf.out).mono ?_; rintro e w4 ⟨rfl, hz4, hk4⟩; have HZ4 := Lib.hid hz4; have HK4 := Lib.hid hk4; clear hz4 hk4) | (go_at_call 53; refine (bz_pick HZ4.out H_hbest.out hm1 hi1).mono ?_; rintro e w5 ⟨rfl, hg5⟩; have HG5 := Lib.hid hg5; clear hg5) | (go_at_call 55; refine (bz_next (HZ4.out.grows HG5.out) hle1 H_hnx.out).mono ?_; rintro e w6 ⟨rfl, hg6⟩; have HG6 := Lib.hid hg6; clear hg6))
                  go_roundw
                  case rel =>
                    first | exact ⟨k + 1, _, _, _, _, _, (by omega), by go_num, rfl, rfl, Nat.le_trans hszr (Nat.le_trans HK4.out.size (Nat.le_trans HG5.out.size HG6.out.size)), (HZ4.out.grows HG5.out).grows HG6.out, H_hbr2.out, by rw [H_hnA.out]; exact ((H_hq.out.kept fun z hz => HK4.out.block z hz).grows HG5.out).grows HG6.out⟩ | exact ⟨⟨k + 1, _, _, _, _, _, (by omega), by go_num, rfl, rfl, Nat.le_trans hszr (Nat.le_trans HK4.out.size (Nat.le_trans HG5.out.size HG6.out.size)), (HZ4.out.grows HG5.out).grows HG6.out, H_hbr2.out, by rw [H_hnA.out]; exact ((H_hq.out.kept fun z hz => HK4.out.block z hz).grows HG5.out).grows HG6.out⟩, rfl⟩
                  case measure => simp [intOf]; omega
            · have hm1 : max (i : Int) 0 = i := by omega
              have hi1 : decide ((0 : Int) ≤ i) = true := by simp
              obtain ⟨lf, hlf⟩ : ∃ lf, Vg.Bo.left Bs1 Q' i = lf := ⟨_, rfl⟩
              obtain ⟨l1, l2, l3⟩ := Vg.Bo.left_pos hbf.inv hi hab
              obtain ⟨g1, hg1⟩ : ∃ g1, g + 1 = g1 := ⟨_, rfl⟩
              have hg1w : IntKind.i64.wrap (g + 1) = g1 := by rw [IntWalk.i64_in _ (by omega)]; exact hg1
              have hcase : ∃ m, 1 ≤ m ∧ m ≤ 256 ∧ m ≤ Vg.Bo.left Bs1 Q' i ∧ ((lf ≤ g1 ∧ m = lf) ∨ (¬ lf ≤ g1 ∧ m = g1)) := by
                by_cases h : lf ≤ g1
                · exact ⟨lf, by omega, by omega, by omega, .inl ⟨h, rfl⟩⟩
                · exact ⟨g1, by omega, by omega, by omega, .inr ⟨h, rfl⟩⟩
              obtain ⟨m, hm1', hm2, hm3, hm4⟩ := hcase
              obtain ⟨Bs2, Q2, is, hrun, hbr2⟩ := hbf.run (by omega) hi hab hm1' hm3 hm2
              have hI := hbf.inv
              have hb1 : -9223372036854775808 ≤ m ∧ m ≤ 9223372036854775807 := by omega
              have hb2 : -9223372036854775808 ≤ t + m ∧ t + m ≤ 9223372036854775807 := by omega
              have hsum2 : IntKind.i64.wrap (t + m) = t + m := by rw [IntWalk.i64_in _ (by omega)]
              have hml : ¬ m < 1 := by omega
              have hl1m : (A ++ [(i, t, t + m)]).length = nA + 1 := by rw [List.length_append, H_hnA.out]; rfl
              clear l1 l2 l3 hm3
              have H_hbz := Lib.hid hbz; clear hbz; have H_hps := Lib.hid hps; clear hps; have H_hq := Lib.hid hq; clear hq; have H_ht := Lib.hid ht; clear ht; have H_hrf := Lib.hid hrf; clear hrf; have H_hbf := Lib.hid hbf; clear hbf; have H_hBs1 := Lib.hid hBs1; clear hBs1; have H_hIput := Lib.hid hIput; clear hIput; have H_hpr := Lib.hid hpr; clear hpr; have H_hbest := Lib.hid hbest; clear hbest; have H_hab := Lib.hid hab; clear hab; have H_hrun := Lib.hid hrun; clear hrun; have H_hbr2 := Lib.hid hbr2; clear hbr2; have H_hI := Lib.hid hI; clear hI; have H_hi := Lib.hid hi; clear hi; have H_hl1m := Lib.hid hl1m; clear hl1m; have H_hl1 := Lib.hid hl1; clear hl1
              rcases hm4 with ⟨hm4, hm5⟩ | ⟨hm4, hm5⟩
              all_goals
                subst hm5
                have H_hlf := Lib.hid hlf; clear hlf
                go_wp2_with (fail)
                refine (bz_refill t H_hbz.out H_hIput.out H_hrf.out).mono ?_
                rintro e w4 ⟨rfl, hz4, hk4⟩
                have HZ4 := Lib.hid hz4; have HK4 := Lib.hid hk4; clear hz4 hk4
                go_wp2_with (fail)
                refine (bz_pick HZ4.out H_hbest.out hm1 hi1).mono ?_
                rintro e w5 ⟨rfl, hg5⟩
                have HG5 := Lib.hid hg5; clear hg5
                go_wp2_with (fail)
                refine (bz_left i (HZ4.out.grows HG5.out) H_hlf.out).mono ?_
                rintro e w6 ⟨rfl, hg6⟩
                have HG6 := Lib.hid hg6; clear hg6
                go_wp2_with (fail)
                refine (bz_run i _ _ ((HZ4.out.grows HG5.out).grows HG6.out) H_hI.out (by omega) hb1 hb2 H_hrun.out).mono ?_
                rintro e w7 ⟨rfl, hz7, hk7⟩
                have HZ7 := Lib.hid hz7; have hq7 := (((H_hq.out.kept fun z hz => HK4.out.block z hz).grows HG5.out).grows HG6.out).kept (fun z hz => hk7.block z hz); have HQ7 := Lib.hid hq7; have hsz7 := Nat.le_trans hszr (Nat.le_trans HK4.out.size (Nat.le_trans HG5.out.size (Nat.le_trans HG6.out.size hk7.size))); clear hz7 hk7 hq7
                go_wp2_with (at_builtin; refine Later.out ?_)
                refine ⟨?_⟩
                refine Vg.wpList_que (w := _) rfl (.tmp 130) (.tmp 137) 98 rfl S0 100 i0 (.agg #[.int .i64 0, .int .i64 0, .int .i64 0]) 3 24 Try.underlying98 hIi hz0 hz1 hz2 rfl (by decide) (.slice aa nA ac) nA _ rfl (HQ7.out.grows (by (repeat' (first | (with_reducible exact Vg.Grows.refl _) | (with_reducible assumption) | (with_reducible refine Vg.Grows.alloc ?_ _) | (with_reducible refine Vg.Grows.plus ?_ _ _) | (with_reducible refine Vg.Grows.drewN ?_ _) | (with_reducible refine Vg.Grows.drew ?_) | (with_reducible refine Vg.Grows.setCell ?_ ?_ _) | (with_reducible refine Vg.Grows.put ?_ ?_ _) | omega | (simp; omega) | (simp; done))))) _ 1 1 [.int .i64 i, .int .i64 t, .int .i64 (t + _)] rfl rfl (Vg.three_new (by first | rfl | ((try simp only [World.size_alloc, Vg.plus_size, Vg.put_size, World.size_setCell, World.size_drew, World.heap_drewN]) <;> omega))) (by simp [Value.oneCell']) (by decide) (by unfold maxLen; omega) (by omega) (by simp only [World.size_alloc]; omega) ?_
                intro v2 W2 y2 m2 hq2 hs2 ho2
                have hzz := bz_app (HZ7.out.grows (by (repeat' (first | (with_reducible exact Vg.Grows.refl _) | (with_reducible assumption) | (with_reducible refine Vg.Grows.alloc ?_ _) | (with_reducible refine Vg.Grows.plus ?_ _ _) | (with_reducible refine Vg.Grows.drewN ?_ _) | (with_reducible refine Vg.Grows.drew ?_) | (with_reducible refine Vg.Grows.setCell ?_ ?_ _) | (with_reducible refine Vg.Grows.put ?_ ?_ _) | omega | (simp; omega) | (simp; done))))) (HQ7.out.grows (by (repeat' (first | (with_reducible exact Vg.Grows.refl _) | (with_reducible assumption) | (with_reducible refine Vg.Grows.alloc ?_ _) | (with_reducible refine Vg.Grows.plus ?_ _ _) | (with_reducible refine Vg.Grows.drewN ?_ _) | (with_reducible refine Vg.Grows.drew ?_) | (with_reducible refine Vg.Grows.setCell ?_ ?_ _) | (with_reducible refine Vg.Grows.put ?_ ?_ _) | omega | (simp; omega) | (simp; done))))) hwS hs2 ho2 hq2
                have hsz8 : S0 ≤ (Vg.plus W2 y2 m2).heap.size := by
                  rw [Vg.plus_size, hs2.size]
                  simp only [World.size_alloc]
                  omega
                obtain ⟨a2, c2, rfl⟩ := hq2.shape
                have H_hq2 := Lib.hid hq2; clear hq2; have H_hs2 := Lib.hid hs2; clear hs2; have H_ho2 := Lib.hid ho2; clear ho2; have H_hzz := Lib.hid hzz; clear hzz
                go_wp2_with fail
                go_roundw
                case rel =>
                  first | exact ⟨k + 1, _, _, _, _, _, (by omega), by go_num, rfl, rfl, hsz8, H_hzz.out, H_hbr2.out, by rw [H_hl1m.out, Vg.rncells_append]; exact H_hq2.out⟩ | exact ⟨⟨k + 1, _, _, _, _, _, (by omega), by go_num, rfl, rfl, hsz8, H_hzz.out, H_hbr2.out, by rw [H_hl1m.out, Vg.rncells_append]; exact H_hq2.out⟩, rfl⟩
                case measure => simp [intOf]; omega
        · have hke : k = len := by omega
          subst hke
          have hbd := hbr.bd
          have hlenB := hbr.len
          have hfin := hbr
          have hto := hbr.tok
          have ht1' := hbr.t1
          have hgr := hbz.gr
          have hrd := hq.reads
          have hTl := H_hTl.out
          have hT := H_hTR.out.grows hgr
          have hn8 : n ≤ 8 := by omega
          have hsmb : ∀ (i : Nat) (f : Int) (y : Nat), 0 ≤ Vg.sm i f (A.take y) ∧ Vg.sm i f (A.take y) ≤ 60 * 2251799813685248 := fun i f y => by
            have h1 := Vg.sm_bd i f (A.take y) fun r hr => by
              have := hbd r (List.take_subset _ _ hr)
              omega
            have h2 : (A.take y).length ≤ 60 := by rw [List.length_take]; omega
            omega
          have H_hbz := Lib.hid hbz; clear hbz; have H_hbr := Lib.hid hbr; clear hbr; have H_hq := Lib.hid hq; clear hq; have H_hnA := Lib.hid hnA; clear hnA; have H_hfin := Lib.hid hfin; clear hfin; have H_hbd := Lib.hid hbd; clear hbd; have H_hto := Lib.hid hto; clear hto; have H_hrd := Lib.hid hrd; clear hrd; have H_hT := Lib.hid hT; clear hT; have H_hsmb := Lib.hid hsmb; clear hsmb; have H_hTl := Lib.hid hTl; clear hTl
          go_wp2_with fail
          go_loopw [145] (fun i wx => ∃ x : Nat, x ≤ nA ∧ i = .int .i64 x ∧ Vg.Grows wr wx) (fun i _ => nA - (intOf i).toNat)
          case atStart => exact ⟨0, by omega, rfl, Vg.Grows.refl _⟩
          case round =>
            obtain ⟨x, hx, rfl, hgx⟩ := hrel
            by_cases hxl : x < nA
            · have hxA : x < A.length := by rw [H_hnA.out]; exact hxl
              have hrx := H_hrd.out.grows hgx
              have hTx := H_hT.out.grows hgx
              obtain ⟨g, o, rfl, hg, hac1, hac2, c0, c1, c2⟩ := hrx.rn H_hnA.out x hxA
              obtain ⟨r, hr⟩ : ∃ r, A[x] = r := ⟨_, rfl⟩
              have hbx := H_hbd.out A[x] (List.getElem_mem hxA)
              rw [hr] at c0 c1 c2 hbx
              obtain ⟨ri, rf, rt⟩ := r
              simp only [] at c0 c1 c2 hbx
              obtain ⟨hb1, hb2, hb3, hb4⟩ := hbx
              have hriT : ri < T.length := by rw [H_hTl.out]; exact hb1
              obtain ⟨tg, to', rfl, htg, d0, d1, d2, d3⟩ := hTx.2.2 ri hriT
              have htk := H_hto.out T[ri] (List.getElem_mem hriT)
              obtain ⟨t, htt⟩ : ∃ t, T[ri] = t := ⟨_, rfl⟩
              rw [htt] at d0 d1 d2 d3 htk
              obtain ⟨pr, bu, pe, dp⟩ := t
              obtain ⟨k1, k2, k3⟩ := htk
              simp only [] at d0 d1 d2 d3 k1 k2 k3
              have H_hr := Lib.hid hr; clear hr; have H_htt := Lib.hid htt; clear htt; have H_hrx := Lib.hid hrx; clear hrx; have H_hTx := Lib.hid hTx; clear hTx
              go_wp2_with fail
              go_loopw [22, 156] (fun su i wy => ∃ (y : Nat), y ≤ nA ∧ i = .int .i64 y ∧ su = .int .i64 (Vg.sm ri rf (A.take y)) ∧ Vg.Grows ((wr.alloc (runC ri rf rt)).alloc (thR ⟨pr, bu, pe, dp⟩)) wy) (fun _ i _ => nA - (intOf i).toNat)
              case atStart => exact ⟨0, by omega, rfl, by simp [Vg.sm], by (repeat' (first | (with_reducible exact Vg.Grows.refl _) | (with_reducible assumption) | (with_reducible refine Vg.Grows.alloc ?_ _) | (with_reducible refine Vg.Grows.plus ?_ _ _) | (with_reducible refine Vg.Grows.drewN ?_ _) | (with_reducible refine Vg.Grows.drew ?_) | (with_reducible refine Vg.Grows.setCell ?_ ?_ _) | (with_reducible refine Vg.Grows.put ?_ ?_ _) | omega | (simp; omega) | (simp; done)))⟩
              case round =>
                obtain ⟨y, hy, rfl, rfl, z, m, rfl⟩ := hrel
                by_cases hyl : y < nA
                · have hyA : y < A.length := by rw [H_hnA.out]; exact hyl
                  obtain ⟨g', o', he, hg', -, -, e0, e1, e2⟩ := H_hrx.out.rn H_hnA.out y hyA
                  simp only [Option.some.injEq, Addr.mk.injEq, and_true] at he
                  obtain ⟨rfl, rfl⟩ := he
                  obtain ⟨q, hq⟩ : ∃ q, A[y] = q := ⟨_, rfl⟩
                  have hby := H_hbd.out A[y] (List.getElem_mem hyA)
                  rw [hq] at e0 e1 e2 hby
                  obtain ⟨yi, yf, yt⟩ := q
                  simp only [] at e0 e1 e2 hby
                  obtain ⟨hy1, hy2, hy3, hy4⟩ := hby
                  have hst : Vg.sm ri rf (A.take (y + 1)) = Vg.sm ri rf (A.take y) + (if yi = ri ∧ rf ≤ yf then yt - yf else 0) := by
                    rw [List.take_succ_eq_append_getElem hyA, Vg.sm_append, hq]
                    simp [Vg.sm]
                  have hsb := H_hsmb.out ri rf y
                  have hsb2 := H_hsmb.out ri rf (y + 1)
                  by_cases hc : yi = ri
                  · subst hc
                    by_cases hf : rf ≤ yf
                    · obtain ⟨f1, f2, f3, f4⟩ := Vg.BR.fin' H_hfin.out hxA hyA H_hr.out hq hf hriT H_htt.out
                      simp only [] at f1 f2 f3 f4
                      rw [if_pos ⟨rfl, hf⟩] at hst
                      obtain ⟨qq, hqq⟩ : ∃ qq, (yt - rf + pe - 1) / pe = qq := ⟨_, rfl⟩
                      have hqq4 : 0 ≤ qq * bu := by rw [← hqq]; exact Int.mul_nonneg f3 (by omega)
                      have htd : (yt - rf + pe - 1).tdiv pe = qq := by rw [Int.tdiv_eq_ediv_of_nonneg (by omega)]; exact hqq
                      rw [hqq] at f1 f2 f3 f4
                      obtain ⟨s, hs⟩ : ∃ s, Vg.sm yi rf (A.take y) = s := ⟨_, rfl⟩
                      rw [hs] at hsb hst ⊢
                      rw [hst] at f1 hsb2
                      have hw3 : IntKind.i64.wrap (yt - yf) = yt - yf := by rw [IntWalk.i64_in _ (by omega)]
                      have hw4 : IntKind.i64.wrap (s + (yt - yf)) = s + (yt - yf) := by rw [IntWalk.i64_in _ (by omega)]
                      have hw5 : IntKind.i64.wrap (yt - rf) = yt - rf := by rw [IntWalk.i64_in _ (by omega)]
                      have hw6 : IntKind.i64.wrap (yt - rf + pe) = yt - rf + pe := by rw [IntWalk.i64_in _ (by omega)]
                      have hw7 : IntKind.i64.wrap (yt - rf + pe - 1) = yt - rf + pe - 1 := by rw [IntWalk.i64_in _ (by omega)]
                      have hw8 : IntKind.i64.wrap qq = qq := by rw [IntWalk.i64_in _ (by omega)]
                      have hw9 : IntKind.i64.wrap (qq * bu) = qq * bu := by rw [IntWalk.i64_in _ (by omega)]
                      have H_hq := Lib.hid hq; clear hq; have H_hs := Lib.hid hs; clear hs; have H_hqq := Lib.hid hqq; clear hqq; have H_hst := Lib.hid hst; clear hst
                      go_wp2_with fail
                      go_quiet (fail)
                      go_wp2_with fail
                      exact ⟨⟨y + 1, by omega, by go_num, by rw [← H_hst.out], by (repeat' (first | (with_reducible exact Vg.Grows.refl _) | (with_reducible assumption) | (with_reducible refine Vg.Grows.alloc ?_ _) | (with_reducible refine Vg.Grows.plus ?_ _ _) | (with_reducible refine Vg.Grows.drewN ?_ _) | (with_reducible refine Vg.Grows.drew ?_) | (with_reducible refine Vg.Grows.setCell ?_ ?_ _) | (with_reducible refine Vg.Grows.put ?_ ?_ _) | omega | (simp; omega) | (simp; done)))⟩, by simp [intOf]; omega⟩
                    · rw [if_neg (fun h => hf h.2), Int.add_zero] at hst
                      have H_hq := Lib.hid hq; clear hq; have H_hst := Lib.hid hst; clear hst
                      go_wp2_with fail
                      exact ⟨⟨y + 1, by omega, by go_num, by rw [H_hst.out], by (repeat' (first | (with_reducible exact Vg.Grows.refl _) | (with_reducible assumption) | (with_reducible refine Vg.Grows.alloc ?_ _) | (with_reducible refine Vg.Grows.plus ?_ _ _) | (with_reducible refine Vg.Grows.drewN ?_ _) | (with_reducible refine Vg.Grows.drew ?_) | (with_reducible refine Vg.Grows.setCell ?_ ?_ _) | (with_reducible refine Vg.Grows.put ?_ ?_ _) | omega | (simp; omega) | (simp; done)))⟩, by simp [intOf]; omega⟩
                  · rw [if_neg (fun h => hc h.1), Int.add_zero] at hst
                    have hcb : ((yi : Int) == (ri : Int)) = false := by simp; omega
                    clear hc
                    have H_hq := Lib.hid hq; clear hq; have H_hst := Lib.hid hst; clear hst
                    go_wp2_with fail
                    exact ⟨⟨y + 1, by omega, by go_num, by rw [H_hst.out], by (repeat' (first | (with_reducible exact Vg.Grows.refl _) | (with_reducible assumption) | (with_reducible refine Vg.Grows.alloc ?_ _) | (with_reducible refine Vg.Grows.plus ?_ _ _) | (with_reducible refine Vg.Grows.drewN ?_ _) | (with_reducible refine Vg.Grows.drew ?_) | (with_reducible refine Vg.Grows.setCell ?_ ?_ _) | (with_reducible refine Vg.Grows.put ?_ ?_ _) | omega | (simp; omega) | (simp; done)))⟩, by simp [intOf]; omega⟩
                · have hye : y = nA := by omega
                  subst hye
                  go_wp2_with fail
                  exact ⟨⟨x + 1, by omega, by go_num, hgx.trans (by (repeat' (first | (with_reducible exact Vg.Grows.refl _) | (with_reducible assumption) | (with_reducible refine Vg.Grows.alloc ?_ _) | (with_reducible refine Vg.Grows.plus ?_ _ _) | (with_reducible refine Vg.Grows.drewN ?_ _) | (with_reducible refine Vg.Grows.drew ?_) | (with_reducible refine Vg.Grows.setCell ?_ ?_ _) | (with_reducible refine Vg.Grows.put ?_ ?_ _) | omega | (simp; omega) | (simp; done))))⟩, by simp [intOf]; omega⟩
            · have hxe : x = nA := by omega
              subst hxe
              go_wp2_with fail
              go_ret
              exact ⟨rfl, hgr.trans hgx⟩
end Go.Proofs.Ytiinhofmhoplfaa
