/- BottomPlays: the walk. -/
import Derived.Test.YtiinhofmhoplfaaBotX
import Derived.Test.YtiinhofmhoplfaaBotY
import Derived.Test.YtiinhofmhoplfaaSized
set_option linter.unusedSimpArgs false
set_option linter.unusedVariables false
set_option maxHeartbeats 40000000
set_option maxRecDepth 100000
namespace Vg
open Go
theorem wf_i64 {x : Int} (h : (Lit.int .i64 x).wf = true) : -9223372036854775808 ≤ x ∧ x ≤ 9223372036854775807 := by
  simp [Lit.wf, IntKind.min, IntKind.max, IntKind.bits, IntKind.signed] at h
  omega
theorem Bo.left_bd {k : Nat} {Bs : List Bp} {Q : List Wq} {i : Int} (hI : Bo.Inv k Bs Q) : 0 ≤ Bo.left Bs Q i ∧ Bo.left Bs Q i ≤ 1099511627776 := by
  cases ha : Bo.able Bs Q i with
  | false => rw [Bo.left_no ha]; omega
  | true =>
    by_cases ho : i < 0 ∨ (Bs.length : Int) ≤ i
    · rw [Bo.left_out ho]; omega
    · obtain ⟨j, rfl⟩ : ∃ j : Nat, i = j := ⟨i.toNat, by omega⟩
      have := Bo.left_pos hI (by omega) ha
      omega
def bby (t n : Int) : Int := if n < 0 ∨ 4503599627370496 - t < n then -1 else t + n
theorem bby_bd {t n : Int} (ht : 0 ≤ t) : -1 ≤ bby t n ∧ bby t n ≤ 4503599627370496 := by
  unfold bby
  split <;> omega
theorem bby_in {t n : Int} (ht : 0 ≤ t) : -9223372036854775808 ≤ bby t n ∧ bby t n ≤ 9223372036854775807 := by
  have := bby_bd (n := n) ht
  omega
end Vg
namespace Go.Proofs.Ytiinhofmhoplfaa
open Go.ChangeShapes Go.WideShapes Go.ChangeAt Go.RowKit
abbrev act18 (kd i n a : Int) : Obj := .cells #[.int .i64 kd, .int .i64 i, .int .i64 n, .int .i64 a] 84
theorem by18 (t n : Int) (w : World) (ht : 0 ≤ t ∧ t ≤ 9223372036854775807) (hn : -9223372036854775808 ≤ n ∧ n ≤ 9223372036854775807) :
    Calls Try.prog 46 #[.int .i64 t, .int .i64 n] w fun e w' => e = .returned (.int .i64 (Vg.bby t n)) ∧ w = w' := by
  by_cases h1 : n < 0
  · go_enter Try.func46, Try.ntmps46
    go_wp2
    go_ret
    exact ⟨ret_int (by unfold Vg.bby; rw [if_pos (.inl h1)]), rfl⟩
  · by_cases h2 : 4503599627370496 - t < n
    · go_enter Try.func46, Try.ntmps46
      go_wp2
      go_ret
      exact ⟨ret_int (by unfold Vg.bby; rw [if_pos (.inr h2)]), rfl⟩
    · go_enter Try.func46, Try.ntmps46
      go_wp2
      go_ret
      exact ⟨ret_int (by unfold Vg.bby; rw [if_neg (by omega)]), rfl⟩
theorem BP.start {w0 w w' : World} {b n : Nat} {T : List Vg.Th} {v : Value} (hz : BZ w0 w b (T.map Vg.th0) (Vg.Qs0 T) (fun _ => False)) (hg : Vg.Grows w w') (hn : T.length = n) (hv : RB (fun k => w.heap.size ≤ k ∧ k < w'.heap.size) w' v (T.map Vg.sp0) ((T.map (·.dp)).map Vg.rq0)) : BP w0 w' b (T.map Vg.th0) (Vg.Qs0 T) v (T.map Vg.th0) ((T.map (·.dp)).map fun d => ⟨[], d, 0⟩) [] := by
  refine ⟨fun k => w.heap.size ≤ k ∧ k < w'.heap.size, _, hz.other (t := fun _ => False) (Vg.Touch.of_grows hg) (fun k hk => hk.elim) (hz.gr.trans hg) (fun k hk => ⟨.inr hk.1, hk.2⟩), ⟨_, _, hv.mono fun k hk => .inl hk, by rw [List.map_map]; rfl, by rw [List.map_map]; rfl, by simp⟩, Vg.HasX.nil _, fun k hk => hk, fun k hk => (Vg.DomX.nil hk).elim, fun k hk hd => Vg.DomX.nil hd⟩
theorem RF.atW {F : Nat → Prop} {w : World} {ta sa wa : Option Addr} {tc sc wc q n i : Nat} {Bs : List Vg.Bp} {Q : List Vg.Wq} (h : RF F w (bv ta tc sa sc wa q wc n) Bs Q) (hi : i < Q.length) :
    ∃ g o u uc, wa = some ⟨g, o, none⟩ ∧ g < w.heap.size ∧ q ≤ wc ∧ wc ≤ 9223372036854775807 ∧ i < q ∧ w.cell? ⟨g, o + i * 3 + 1, none⟩ = some (.slice u Q[i].L.length uc) ∧ w.cell? ⟨g, o + i * 3 + 2, none⟩ = some (.int .i64 Q[i].lost) := by
  obtain ⟨ps, rs, h1, h2, rfl, h4⟩ := h
  obtain ⟨-, rfl, -, -, -, hrq⟩ := h1.parts
  have hi' : i < rs.length := by simpa using hi
  obtain ⟨g, o, e1, e2, e3, e4, e5, e6, e7⟩ := hrq.row.1.rqueue i hi'
  obtain ⟨u, uc, e8⟩ := hrq.ush i hi'
  rw [List.getElem_map]
  exact ⟨g, o, u, uc, e1, e2, e3, e4, hi', by rw [e6, e8], e7⟩
/-- Two queues' states that differ only where there are no threads. -/
def BRel (Bs : List Vg.Bp) (Q Q2 : List Vg.Wq) : Prop := Q2 = Q ∨ (Bs = [] ∧ Q2 = [])
section
variable {Bs Bs' : List Vg.Bp} {Q Q' Q2 : List Vg.Wq} {n k : Nat} {i c r m en : Int} {is : Bool}
theorem BRel.put (h : BRel Bs Q Q2) (hn : Bs.length = n) (hx : Vg.Bo.put n Q i c = (Q', r)) : ∃ Q3, Vg.Bo.put n Q2 i c = (Q3, r) ∧ BRel Bs Q' Q3 := by
  rcases h with rfl | ⟨rfl, rfl⟩
  · exact ⟨Q', hx, .inl rfl⟩
  · have h0 : n = 0 := by rw [← hn]; rfl
    subst h0
    rw [Vg.Bo.put_out (by omega)] at hx
    simp only [Prod.mk.injEq] at hx
    obtain ⟨rfl, rfl⟩ := hx
    exact ⟨[], Vg.Bo.put_out (by omega), .inr ⟨rfl, rfl⟩⟩
theorem BRel.run (h : BRel Bs Q Q2) (hx : Vg.Bo.run Bs Q i m en = (Bs', Q', is, r)) : ∃ Q3, Vg.Bo.run Bs Q2 i m en = (Bs', Q3, is, r) ∧ BRel Bs' Q' Q3 := by
  rcases h with rfl | ⟨rfl, rfl⟩
  · exact ⟨Q', hx, .inl rfl⟩
  · rw [Vg.Bo.run_out (by simp; omega)] at hx
    simp only [Prod.mk.injEq] at hx
    obtain ⟨rfl, rfl, rfl, rfl⟩ := hx
    exact ⟨[], Vg.Bo.run_out (by simp; omega), .inr ⟨rfl, rfl⟩⟩
theorem BRel.refill (h : BRel Bs Q Q2) (hx : Vg.Bo.refill Bs m = (Bs', r)) : BRel Bs' Q Q2 := by
  rcases h with rfl | ⟨rfl, rfl⟩
  · exact .inl rfl
  · have hl := Vg.Bo.refill_len [] m
    rw [hx] at hl
    exact .inr ⟨List.eq_nil_of_length_eq_zero hl, rfl⟩
theorem BRel.inv (h : BRel Bs Q Q2) (hI : Vg.Bo.Inv k Bs Q) : Vg.Bo.Inv k Bs Q2 := by
  rcases h with rfl | ⟨rfl, rfl⟩
  · exact hI
  · exact ⟨hI.each, ⟨by simp, by simp⟩, .inl rfl⟩
theorem BRel.able (h : BRel Bs Q Q2) (hx : Vg.Bo.able Bs Q i = is) : Vg.Bo.able Bs Q2 i = is := by
  rcases h with rfl | ⟨rfl, rfl⟩
  · exact hx
  · rw [Vg.Bo.able_out (by simp; omega)] at hx ⊢; exact hx
theorem BRel.left (h : BRel Bs Q Q2) (hx : Vg.Bo.left Bs Q i = r) : Vg.Bo.left Bs Q2 i = r := by
  rcases h with rfl | ⟨rfl, rfl⟩
  · exact hx
  · rw [Vg.Bo.left_out (by simp; omega)] at hx ⊢; exact hx
theorem BRel.best (h : BRel Bs Q Q2) (hx : Vg.Bo.best Bs Q = r) : Vg.Bo.best Bs Q2 = r := by
  rcases h with rfl | ⟨rfl, rfl⟩
  · exact hx
  · rw [← hx]; rfl
theorem BRel.next (h : BRel Bs Q Q2) (hx : Vg.Bo.next Bs Q = (r, is)) : Vg.Bo.next Bs Q2 = (r, is) := by
  rcases h with rfl | ⟨rfl, rfl⟩
  · exact hx
  · rw [← hx]; rfl
theorem BRel.eq (h : BRel Bs Q Q2) (h0 : 0 < Bs.length) : Q2 = Q := by
  rcases h with rfl | ⟨rfl, rfl⟩
  · rfl
  · simp at h0
theorem BRel.start (T : List Vg.Th) : BRel (T.map Vg.th0) (Vg.Qs0 T) ((T.map (·.dp)).map fun d => ⟨[], d, 0⟩) := by
  unfold Vg.Qs0 Vg.deps
  by_cases h : T.length = 0
  · have := List.eq_nil_of_length_eq_zero h
    subst this
    exact .inr ⟨rfl, rfl⟩
  · rw [if_neg h]
    exact .inl rfl
end
theorem rb_new_any {w : World} {T : List Vg.Th} {sa : Option Addr} {sc n : Nat} (hr : Vg.TR w sa sc T) (hn : T.length = n) (hn2 : n ≤ 4398046511104) :
    Calls Try.prog 44 #[.slice sa n sc] w fun e w' => RNew w w' T n e := by
  by_cases h0 : n = 0
  · subst h0
    have := List.eq_nil_of_length_eq_zero hn
    subst this
    exact rb_new0
  · exact rb_new hr hn (by omega) hn2
theorem br_new {w : World} {T : List Vg.Th} {sa : Option Addr} {sc n : Nat} (hr : Vg.TR w sa sc T) (hn : T.length = n) (hn2 : n ≤ 4398046511104) (hg : Vg.goodT T = true) :
    Calls Try.prog 44 #[.slice sa n sc] w fun e w' => ∃ ta tc sa sc wa wc, e = .returned (.tuple #[bv ta tc sa sc wa n wc n, .bool true]) ∧ RB (fun k => w.heap.size ≤ k ∧ k < w'.heap.size) w' (bv ta tc sa sc wa n wc n) (T.map Vg.sp0) ((T.map (·.dp)).map Vg.rq0) ∧ Vg.Grows w w' := by
  refine (rb_new_any hr hn hn2).mono ?_
  rintro e w' (⟨_, ta, tc, sa, sc, wa, wc, h⟩ | ⟨h, _⟩)
  · exact ⟨ta, tc, sa, sc, wa, wc, h⟩
  · rw [hg] at h; cases h
theorem br_new_no {w : World} {T : List Vg.Th} {sa : Option Addr} {sc n : Nat} (hr : Vg.TR w sa sc T) (hn : T.length = n) (hn2 : n ≤ 4398046511104) (hg : Vg.goodT T = false) :
    Calls Try.prog 44 #[.slice sa n sc] w fun e w' => ∃ ta tn tc sa sn sc wa wn wc, e = .returned (.tuple #[.agg #[.slice ta tn tc, .slice sa sn sc, .slice wa wn wc], .bool false]) ∧ Vg.Grows w w' := by
  refine (rb_new_any hr hn hn2).mono ?_
  rintro e w' (⟨h, _⟩ | ⟨_, ⟨ta, tn, tc, sa, sn, sc, wa, wn, wc, rfl⟩, h⟩)
  · rw [hg] at h; cases h
  · exact ⟨ta, tn, tc, sa, sn, sc, wa, wn, wc, rfl, h⟩
theorem BottomPlays_walk (ta : Option Addr) (n tc : Nat) (TD0 : Nat → Nat → Int) (a : Option Addr) (len cap : Nat) (D : Nat → Nat → Int) (w : World) (hrT : Vg.intRows w [.i64, .i64, .i64, .i64] ta n tc TD0) (hr : Vg.intRows w [.i64, .i64, .i64, .i64] a len cap D) (hn42 : n ≤ 4398046511104) :
    Calls Try.prog 8 #[.slice ta n tc, .slice a len cap] w fun e w' => e = .returned (.bool true) ∧ Vg.Grows w w' := by
  obtain ⟨T, hTR, hTl⟩ : ∃ T, Vg.TR w ta tc T ∧ T.length = n := ⟨_, Vg.TR.of_rows hrT, Vg.thsOf_len _ _⟩
  have htc1 : n ≤ tc := hrT.1
  have htc2 : tc ≤ 9223372036854775807 := hrT.2.1
  clear hrT
  have hlen := hr.1
  have hcap : cap ≤ 9223372036854775807 := hr.2.1
  cases hgood : Vg.goodT T with
  | false =>
    clear hr
    have H_hTR := Lib.hid hTR; clear hTR; have H_hTl := Lib.hid hTl; clear hTl; have H_hgood := Lib.hid hgood; clear hgood
    go_enter Try.func8, Try.ntmps8
    go_wp2_with (first | (go_at_call 42; (with_reducible refine (lives18 _).mono ?_); rintro e w1 ⟨rfl, hg1⟩; have H_hg1 := Lib.hid hg1; clear hg1) | (go_at_call 43; (with_reducible refine (bs_new_no (H_hTR.out.grows H_hg1.out) H_hTl.out hn42 H_hgood.out).mono ?_); rintro e w2 ⟨rfl, hg2⟩; have H_hg2 := Lib.hid hg2; clear hg2) | (go_at_call 44; (with_reducible refine (br_new_no ((H_hTR.out.grows H_hg1.out).grows H_hg2.out) H_hTl.out hn42 H_hgood.out).mono ?_); rintro e w3 ⟨ta1, tn1, tc1, sa1, sn1, sc1, wa1, wn1, wc1, rfl, hg3⟩; have H_hg3 := Lib.hid hg3; clear hg3))
    go_ret
    exact ⟨rfl, Vg.Grows.trans ((H_hg1.out.trans H_hg2.out).trans H_hg3.out) (by (repeat' (first | (with_reducible exact Vg.Grows.refl _) | (with_reducible assumption) | (with_reducible refine Vg.Grows.alloc ?_ _) | (with_reducible refine Vg.Grows.plus ?_ _ _) | (with_reducible refine Vg.Grows.drewN ?_ _) | (with_reducible refine Vg.Grows.drew ?_) | (with_reducible refine Vg.Grows.setCell ?_ ?_ _) | (with_reducible refine Vg.Grows.put ?_ ?_ _) | omega | (simp; omega) | (simp; done))))⟩
  | true =>
    have RH := Lib.hid (fun h => Vg.intRows.open (by decide) hr h)
    clear hr
    have hI0 := Vg.goodT_inv hgood
    have hrel0 := BRel.start T
    have hB0 : (T.map Vg.th0).length = n := by rw [List.length_map]; exact hTl
    by_cases h60 : 60 < len
    · have H_hTR := Lib.hid hTR; clear hTR; have H_hTl := Lib.hid hTl; clear hTl; have H_hgood := Lib.hid hgood; clear hgood; have H_hI0 := Lib.hid hI0; clear hI0; have H_hrel0 := Lib.hid hrel0; clear hrel0; have H_hB0 := Lib.hid hB0; clear hB0
      go_enter Try.func8, Try.ntmps8
      go_wp2_with (first | (go_at_call 42; (with_reducible refine (lives18 _).mono ?_); rintro e w1 ⟨rfl, hg1⟩; have H_hg1 := Lib.hid hg1; clear hg1) | (go_at_call 43; (with_reducible refine (bz_new (w0 := w) H_hg1.out (H_hTR.out.grows H_hg1.out) H_hTl.out hn42 H_hgood.out rfl rfl).mono ?_); rintro e w2 ⟨rfl, hz, hg2⟩; have H_hz := Lib.hid hz; clear hz; have H_hg2 := Lib.hid hg2; clear hg2) | (go_at_call 44; (with_reducible refine (br_new ((H_hTR.out.grows H_hg1.out).grows H_hg2.out) H_hTl.out hn42 H_hgood.out).mono ?_); rintro e w3 ⟨ta1, tc1, sa1, sc1, wa1, wc1, rfl, hv, hg3⟩; have H_hv := Lib.hid hv; clear hv; have H_hg3 := Lib.hid hg3; clear hg3))
      go_ret
      exact ⟨rfl, Vg.Grows.trans ((H_hg1.out.trans H_hg2.out).trans H_hg3.out) (by (repeat' (first | (with_reducible exact Vg.Grows.refl _) | (with_reducible assumption) | (with_reducible refine Vg.Grows.alloc ?_ _) | (with_reducible refine Vg.Grows.plus ?_ _ _) | (with_reducible refine Vg.Grows.drewN ?_ _) | (with_reducible refine Vg.Grows.drew ?_) | (with_reducible refine Vg.Grows.setCell ?_ ?_ _) | (with_reducible refine Vg.Grows.put ?_ ?_ _) | omega | (simp; omega) | (simp; done))))⟩
    · have H_hTR := Lib.hid hTR; clear hTR; have H_hTl := Lib.hid hTl; clear hTl; have H_hgood := Lib.hid hgood; clear hgood; have H_hI0 := Lib.hid hI0; clear hI0; have H_hrel0 := Lib.hid hrel0; clear hrel0; have H_hB0 := Lib.hid hB0; clear hB0
      go_enter Try.func8, Try.ntmps8
      go_upto_region 5 with (first | (go_at_call 42; (with_reducible refine (lives18 _).mono ?_); rintro e w1 ⟨rfl, hg1⟩; have H_hg1 := Lib.hid hg1; clear hg1) | (go_at_call 43; (with_reducible refine (bz_new (w0 := w) H_hg1.out (H_hTR.out.grows H_hg1.out) H_hTl.out hn42 H_hgood.out rfl rfl).mono ?_); rintro e w2 ⟨rfl, hz, hg2⟩; have H_hz := Lib.hid hz; clear hz; have H_hg2 := Lib.hid hg2; clear hg2) | (go_at_call 44; (with_reducible refine (br_new ((H_hTR.out.grows H_hg1.out).grows H_hg2.out) H_hTl.out hn42 H_hgood.out).mono ?_); rintro e w3 ⟨ta1, tc1, sa1, sc1, wa1, wc1, rfl, hv, hg3⟩; have H_hv := Lib.hid hv; clear hv; have H_hg3 := Lib.hid hg3; clear hg3))
      have hkp0 := BP.start H_hz.out H_hg3.out H_hTl.out H_hv.out
      have hkp := BP.new hkp0 (g := w3.heap.size) (w' := w3.alloc (rbC (.slice ta1 n tc1) (.slice sa1 n sc1) (.slice wa1 n wc1))) (o := rbC (.slice ta1 n tc1) (.slice sa1 n sc1) (.slice wa1 n wc1)) ((Vg.Grows.refl _).alloc _) (Vg.alloc_heap_at rfl) (Nat.le_refl _)
      have hw3 := ((H_hg1.out.trans H_hg2.out).trans H_hg3.out).size
      obtain ⟨W0, hW0⟩ : ∃ W0, w3.alloc (rbC (.slice ta1 n tc1) (.slice sa1 n sc1) (.slice wa1 n wc1)) = W0 := ⟨_, rfl⟩
      rw [hW0] at hkp ⊢
      obtain ⟨b7, hb7⟩ : ∃ b7, w3.heap.size = b7 := ⟨_, rfl⟩
      rw [hb7] at hkp hw3 ⊢
      obtain ⟨b, hb⟩ : ∃ b, w1.heap.size = b := ⟨_, rfl⟩
      rw [hb] at hkp ⊢
      clear hW0 hkp0
      have H_hkp := Lib.hid hkp; clear hkp; have H_hb7 := Lib.hid hb7; clear hb7; have H_hb := Lib.hid hb; clear hb
      go_wp2_with fail
      go_loopw [9, 69] (fun v9 i wr => ∃ (k : Nat) (last : Int) (Bs : List Vg.Bp) (Q Q2 : List Vg.Wq) (ta tc sa sc wa q wc : _), k ≤ len ∧ i = .int .i64 k ∧ v9 = .int .i64 last ∧ (0 ≤ last ∧ last ≤ 9223372036854775807) ∧ BP w wr b Bs Q (bv ta tc sa sc wa q wc n) Bs Q2 [(b7, rbC (.slice ta n tc) (.slice sa n sc) (.slice wa q wc))] ∧ Vg.Bo.Inv k Bs Q ∧ BRel Bs Q Q2 ∧ Bs.length = n) (fun _ i _ => len - (intOf i).toNat)
      case atStart => exact ⟨0, 0, _, _, _, _, _, _, _, _, _, _, by omega, rfl, rfl, by omega, H_hkp.out, H_hI0.out, H_hrel0.out, H_hB0.out⟩
      case round =>
        obtain ⟨k, last, Bs, Q, Q2, ta2, tc2, sa2, sc2, wa2, q2, wc2, hk, rfl, rfl, hlast, hbp, hinv, hrq, hBl⟩ := hrel
        by_cases hlt : k < len
        · obtain ⟨ba, off, rfl, hba, hcx⟩ := RH.out (by omega)
          have hc0 := hcx k hlt 0 (by decide)
          have hc1 := hcx k hlt 1 (by decide)
          have hc2 := hcx k hlt 2 (by decide)
          have hc3 := hcx k hlt 3 (by decide)
          generalize D k 0 = kd at hc0
          generalize D k 1 = t at hc1
          generalize D k 2 = xn at hc2
          generalize D k 3 = xa at hc3
          simp only [List.length_cons, List.length_nil, Nat.zero_add, List.getElem_cons_zero, List.getElem_cons_succ] at hc0 hc1 hc2 hc3
          have hgr := hbp.gr
          have bxn := Vg.wf_i64 hc2.2
          have bxa := Vg.wf_i64 hc3.2
          have hc0 := (hgr.below.cell (p := ⟨ba, off + k * 4, none⟩) hba).trans hc0.1
          have hc1 := (hgr.below.cell (p := ⟨ba, off + k * 4 + 1, none⟩) hba).trans hc1.1
          have hc2 := (hgr.below.cell (p := ⟨ba, off + k * 4 + 2, none⟩) hba).trans hc2.1
          have hc3 := (hgr.below.cell (p := ⟨ba, off + k * 4 + 3, none⟩) hba).trans hc3.1
          have hbar : ba < wr.heap.size := Nat.lt_of_lt_of_le hba hgr.size
          have y7 := hbp.blk (g := b7) (o := rbC (.slice ta2 n tc2) (.slice sa2 n sc2) (.slice wa2 q2 wc2)) (by simp)
          have l7 := Vg.lt_of y7
          have hinv2 := hrq.inv hinv
          clear hcx
          have hk1 := BP.new hbp (g := wr.heap.size) (w' := wr.alloc (act18 kd t xn xa)) (o := act18 kd t xn xa) ((Vg.Grows.refl _).alloc _) (Vg.alloc_heap_at rfl) (Nat.le_refl _)
          have H_hbp := Lib.hid hbp; clear hbp; have H_hinv := Lib.hid hinv; clear hinv; have H_hinv2 := Lib.hid hinv2; clear hinv2; have H_hrq := Lib.hid hrq; clear hrq; have H_hgr := Lib.hid hgr; clear hgr; have H_hBl := Lib.hid hBl; clear hBl; have H_y7 := Lib.hid y7; clear y7; have H_hk1 := Lib.hid hk1; clear hk1
          go_upto_region 13 with (fail)
          obtain ⟨W1, hW1⟩ : ∃ W1, wr.alloc (act18 kd t xn xa) = W1 := ⟨_, rfl⟩
          have hk1 := H_hk1.out
          rw [hW1] at hk1 ⊢
          obtain ⟨bx, hbx⟩ : ∃ bx, wr.heap.size = bx := ⟨_, rfl⟩
          rw [hbx] at hk1 l7 ⊢
          have n1 : b7 ≠ bx := by omega
          have n2 : bx ≠ b7 := by omega
          have hwx : w.heap.size ≤ bx := by have := H_hgr.out.size; omega
          have z7 := hk1.blk (g := b7) (o := rbC (.slice ta2 n tc2) (.slice sa2 n sc2) (.slice wa2 q2 wc2)) (by simp)
          have zx := hk1.blk (g := bx) (o := act18 kd t xn xa) (by simp)
          clear hW1 hc0 hc1 hc2 hc3 H_hk1
          have c_z7 := Vg.cells_of z7; have f_z7 := Vg.frozen_of z7; have p_z7 := Vg.setCell_of z7; have l_z7 := Vg.lt_of z7; have H_z7 := Lib.hid z7; clear z7; have c_zx := Vg.cells_of zx; have f_zx := Vg.frozen_of zx; have p_zx := Vg.setCell_of zx; have l_zx := Vg.lt_of zx; have H_zx := Lib.hid zx; clear zx
          have H_hk1 := Lib.hid hk1; clear hk1; have H_hbx := Lib.hid hbx; clear hbx
          go_upto_block 2 with fail
          go_cut [] (fun wy => ∃ (kd' xn' xa' : Int), (-9223372036854775808 ≤ xn' ∧ xn' ≤ 9223372036854775807) ∧ (-9223372036854775808 ≤ xa' ∧ xa' ≤ 9223372036854775807) ∧ BP w wy b Bs Q (bv ta2 tc2 sa2 sc2 wa2 q2 wc2 n) Bs Q2 [(b7, rbC (.slice ta2 n tc2) (.slice sa2 n sc2) (.slice wa2 q2 wc2)), (bx, act18 kd' t xn' xa')])
          case first =>
            as_aux_lemma =>
              by_cases k3 : kd = 3
              · subst k3
                obtain ⟨lf, hlf⟩ : ∃ x, Vg.Bo.left Bs Q t = x := ⟨_, rfl⟩
                have hlf2 := H_hrq.out.left hlf
                have hby := Vg.bby_bd (n := xa) hlast.1
                have hlb := Vg.Bo.left_bd (i := t) H_hinv.out
                rw [hlf] at hlb
                have H_hlf := Lib.hid hlf; clear hlf; have H_hlf2 := Lib.hid hlf2; clear hlf2
                go_upto_region 15 with fail
                go_cut [12] (fun v12 wz => ∃ x, v12 = .int .i64 x ∧ (0 ≤ x ∧ x ≤ 1099511627776) ∧ BP w wz b Bs Q (bv ta2 tc2 sa2 sc2 wa2 q2 wc2 n) Bs Q2 [(bx, act18 3 t xn xa), (b7, rbC (.slice ta2 n tc2) (.slice sa2 n sc2) (.slice wa2 q2 wc2))])
                case first =>
                  refine wp_region_held_drew (S := fun w' => b7 < w'.heap.size ∧ bx < w'.heap.size ∧ w'.cell? ⟨b7, 0, none⟩ = some (.slice ta2 n tc2) ∧ w'.cell? ⟨b7, 1, none⟩ = some (.slice sa2 n sc2) ∧ w'.cell? ⟨b7, 2, none⟩ = some (.slice wa2 q2 wc2) ∧ w'.cell? ⟨bx, 1, none⟩ = some (.int .i64 t) ∧ w'.cell? ⟨bx, 2, none⟩ = some (.int .i64 xn)) (by kernel_rfl) (by go_split_ands <;> (try dsimp only) <;> go_simp) (fun hHeld => ?_)
                  refine wpAnyH_take (i := 0) (oi := _) (v := ?v1) rfl (by kernel_rfl) (by kernel_rfl) (by kernel_rfl) (fun _ _ _ h => h) (Or.inl ⟨by rfl, ?hy1⟩) (by assumption) ?rest1
                  case hy1 => (intro w hSw; (try dsimp only at hSw); go_simp; first | done | with_reducible rfl)
                  (try simp only [List.getElem_toArray, List.getElem_cons_succ, List.getElem_cons_zero, Act.put, List.setIfInBounds_toArray, List.set_cons_zero, List.set_cons_succ])
                  refine wpAnyH_take (i := 1) (oi := _) (v := ?v2) rfl (by kernel_rfl) (by kernel_rfl) (by kernel_rfl) (fun _ _ _ h => h) (Or.inl ⟨by rfl, ?hy2⟩) (by assumption) ?rest2
                  case hy2 => (intro w hSw; (try dsimp only at hSw); go_simp; first | done | with_reducible rfl)
                  (try simp only [List.getElem_toArray, List.getElem_cons_succ, List.getElem_cons_zero, Act.put, List.setIfInBounds_toArray, List.set_cons_zero, List.set_cons_succ])
                  refine wpAnyH_take (i := 2) (oi := _) (v := ?v3) rfl (by kernel_rfl) (by kernel_rfl) (by kernel_rfl) (fun _ _ _ h => h) (Or.inl ⟨by rfl, ?hy3⟩) (by assumption) ?rest3
                  case hy3 => (intro w hSw; (try dsimp only at hSw); go_simp; first | done | with_reducible rfl)
                  (try simp only [List.getElem_toArray, List.getElem_cons_succ, List.getElem_cons_zero, Act.put, List.setIfInBounds_toArray, List.set_cons_zero, List.set_cons_succ])
                  refine wpAnyH_take (i := 3) (oi := _) (v := ?v4) rfl (by kernel_rfl) (by kernel_rfl) (by kernel_rfl) (fun _ _ _ h => h) (Or.inl ⟨by rfl, ?hy4⟩) (by assumption) ?rest4
                  case hy4 => (intro w hSw; (try dsimp only at hSw); go_simp; first | done | with_reducible rfl)
                  (try simp only [List.getElem_toArray, List.getElem_cons_succ, List.getElem_cons_zero, Act.put, List.setIfInBounds_toArray, List.set_cons_zero, List.set_cons_succ])
                  refine wpAnyH_take (i := 4) (oi := _) (v := ?v5) rfl (by kernel_rfl) (by kernel_rfl) (by kernel_rfl) (fun _ _ _ h => h) (Or.inl ⟨by rfl, ?hy5⟩) (by assumption) ?rest5
                  case hy5 => (intro w hSw; (try dsimp only at hSw); go_simp; first | done | with_reducible rfl)
                  (try simp only [List.getElem_toArray, List.getElem_cons_succ, List.getElem_cons_zero, Act.put, List.setIfInBounds_toArray, List.set_cons_zero, List.set_cons_succ])
                  refine wpAnyH_ready (rs := [5]) (by kernel_rfl) (by simp) ?_
                  refine AllReadyH.cons (o := _) rfl (fun K hK => ?st6) ?mo6
                  case st6 =>
                    go_simp
                    ((go_at_call 45; (with_reducible refine (br_left t (H_hk1.out.grows (by (repeat' (first | (with_reducible exact Vg.Grows.refl _) | (with_reducible assumption) | (with_reducible refine Vg.Grows.alloc ?_ _) | (with_reducible refine Vg.Grows.plus ?_ _ _) | (with_reducible refine Vg.Grows.drewN ?_ _) | (with_reducible refine Vg.Grows.drew ?_) | (with_reducible refine Vg.Grows.setCell ?_ ?_ _) | (with_reducible refine Vg.Grows.put ?_ ?_ _) | omega | (simp; omega) | (simp; done))))) H_hinv2.out H_hlf2.out).mono ?_); rintro e w3 ⟨rfl, x3, m3, rfl⟩))
                    all_goals (try go_wp2_with fail)
                    refine hK.out _ _ (by go_split_ands <;> (try dsimp only) <;> go_simp) (fun hHeld6 => ?_)
                    clear hK K
                    (try simp only [List.getElem_toArray, List.getElem_cons_succ, List.getElem_cons_zero, Act.put, List.setIfInBounds_toArray, List.set_cons_zero, List.set_cons_succ])
                    refine wpAnyH_take (i := 6) (oi := _) (v := ?v7) rfl (by kernel_rfl) (by kernel_rfl) (by kernel_rfl) (fun _ _ _ h => h) (Or.inl ⟨by rfl, ?hy7⟩) (by assumption) ?rest7
                    case hy7 => (intro w hSw; (try dsimp only at hSw); go_simp; first | done | with_reducible rfl)
                    (try simp only [List.getElem_toArray, List.getElem_cons_succ, List.getElem_cons_zero, Act.put, List.setIfInBounds_toArray, List.set_cons_zero, List.set_cons_succ])
                    refine wpAnyH_take (i := 7) (oi := _) (v := ?v8) rfl (by kernel_rfl) (by kernel_rfl) (by kernel_rfl) (fun _ _ _ h => h) (Or.inl ⟨by rfl, ?hy8⟩) (by assumption) ?rest8
                    case hy8 => (intro w hSw; (try dsimp only at hSw); go_simp; first | done | with_reducible rfl)
                    (try simp only [List.getElem_toArray, List.getElem_cons_succ, List.getElem_cons_zero, Act.put, List.setIfInBounds_toArray, List.set_cons_zero, List.set_cons_succ])
                    refine wpAnyH_take (i := 8) (oi := _) (v := ?v9) rfl (by kernel_rfl) (by kernel_rfl) (by kernel_rfl) (fun _ _ _ h => h) (Or.inl ⟨by rfl, ?hy9⟩) (by assumption) ?rest9
                    case hy9 => (intro w hSw; (try dsimp only at hSw); go_simp; first | done | with_reducible rfl)
                    (try simp only [List.getElem_toArray, List.getElem_cons_succ, List.getElem_cons_zero, Act.put, List.setIfInBounds_toArray, List.set_cons_zero, List.set_cons_succ])
                    refine wpAnyH_done (by kernel_rfl) ?_ _
                    go_wp2_with fail
                    all_goals go_meet
                    all_goals exact ⟨_, rfl, by constructor <;> (repeat' split) <;> omega, H_hk1.out.grows (by (repeat' (first | (with_reducible exact Vg.Grows.refl _) | (with_reducible assumption) | (with_reducible refine Vg.Grows.alloc ?_ _) | (with_reducible refine Vg.Grows.plus ?_ _ _) | (with_reducible refine Vg.Grows.drewN ?_ _) | (with_reducible refine Vg.Grows.drew ?_) | (with_reducible refine Vg.Grows.setCell ?_ ?_ _) | (with_reducible refine Vg.Grows.put ?_ ?_ _) | omega | (simp; omega) | (simp; done))))⟩
                  exact AllReadyH.nil
                case rest =>
                  obtain ⟨x, rfl, hxb, hk2⟩ := hcut
                  have a7 := hk2.blk (g := b7) (o := rbC (.slice ta2 n tc2) (.slice sa2 n sc2) (.slice wa2 q2 wc2)) (by simp)
                  have ax := hk2.blk (g := bx) (o := act18 3 t xn xa) (by simp)
                  clear c_z7 f_z7 p_z7 c_zx f_zx p_zx
                  clear l_z7 l_zx
                  have c_a7 := Vg.cells_of a7; have f_a7 := Vg.frozen_of a7; have p_a7 := Vg.setCell_of a7; have l_a7 := Vg.lt_of a7; have H_a7 := Lib.hid a7; clear a7; have c_ax := Vg.cells_of ax; have f_ax := Vg.frozen_of ax; have p_ax := Vg.setCell_of ax; have l_ax := Vg.lt_of ax; have H_ax := Lib.hid ax; clear ax
                  have H_hk2 := Lib.hid hk2; clear hk2
                  by_cases hb0 : Vg.bby last xa < 0
                  · go_wp2_with (first | (go_at_call 46; (with_reducible refine (by18 last xa _ hlast bxa).mono ?_); rintro e w5 ⟨rfl, rfl⟩) | (go_at_call 46; (with_reducible refine (by18 0 x _ (by omega) (by omega)).mono ?_); rintro e w5 ⟨rfl, rfl⟩))
                    go_meet
                    exact ⟨1, x, Vg.bby 0 x, by omega, Vg.bby_in (by omega), BP.sub (BP.grows (BP.put (g := bx) (o := act18 3 t xn xa) (act18 1 t x (Vg.bby 0 x)) H_hk2.out hwx (by simp; exact n2)) (by (repeat' (first | (with_reducible exact Vg.Grows.refl _) | (with_reducible assumption) | (with_reducible refine Vg.Grows.alloc ?_ _) | (with_reducible refine Vg.Grows.plus ?_ _ _) | (with_reducible refine Vg.Grows.drewN ?_ _) | (with_reducible refine Vg.Grows.drew ?_) | (with_reducible refine Vg.Grows.setCell ?_ ?_ _) | (with_reducible refine Vg.Grows.put ?_ ?_ _) | omega | (simp; omega) | (simp; done))))) (by simp)⟩
                  · go_wp2_with (first | (go_at_call 46; (with_reducible refine (by18 last xa _ hlast bxa).mono ?_); rintro e w5 ⟨rfl, rfl⟩) | (go_at_call 46; (with_reducible refine (by18 (Vg.bby last xa) x _ (by omega) (by omega)).mono ?_); rintro e w5 ⟨rfl, rfl⟩))
                    go_meet
                    exact ⟨1, x, Vg.bby (Vg.bby last xa) x, by omega, Vg.bby_in (by omega), BP.sub (BP.grows (BP.put (g := bx) (o := act18 3 t xn xa) (act18 1 t x (Vg.bby (Vg.bby last xa) x)) H_hk2.out hwx (by simp; exact n2)) (by (repeat' (first | (with_reducible exact Vg.Grows.refl _) | (with_reducible assumption) | (with_reducible refine Vg.Grows.alloc ?_ _) | (with_reducible refine Vg.Grows.plus ?_ _ _) | (with_reducible refine Vg.Grows.drewN ?_ _) | (with_reducible refine Vg.Grows.drew ?_) | (with_reducible refine Vg.Grows.setCell ?_ ?_ _) | (with_reducible refine Vg.Grows.put ?_ ?_ _) | omega | (simp; omega) | (simp; done))))) (by simp)⟩
              · by_cases k4 : kd = 4
                · subst k4
                  have hby := Vg.bby_bd (n := xa) hlast.1
                  go_wp2_with ((go_at_call 46; (with_reducible refine (by18 last xa _ hlast bxa).mono ?_); rintro e w5 ⟨rfl, rfl⟩))
                  go_meet
                  exact ⟨2, xn, Vg.bby last xa, bxn, by omega, BP.sub (BP.grows (BP.put (g := bx) (o := act18 4 t xn xa) (act18 2 t xn (Vg.bby last xa)) H_hk1.out hwx (by simp; exact n2)) (by (repeat' (first | (with_reducible exact Vg.Grows.refl _) | (with_reducible assumption) | (with_reducible refine Vg.Grows.alloc ?_ _) | (with_reducible refine Vg.Grows.plus ?_ _ _) | (with_reducible refine Vg.Grows.drewN ?_ _) | (with_reducible refine Vg.Grows.drew ?_) | (with_reducible refine Vg.Grows.setCell ?_ ?_ _) | (with_reducible refine Vg.Grows.put ?_ ?_ _) | omega | (simp; omega) | (simp; done))))) (by simp)⟩
                · have e3 : (kd == 3) = false := by simp [k3]
                  have e4 : (kd == 4) = false := by simp [k4]
                  go_wp2_with fail
                  go_meet
                  exact ⟨kd, xn, xa, bxn, bxa, BP.sub (BP.grows H_hk1.out (by (repeat' (first | (with_reducible exact Vg.Grows.refl _) | (with_reducible assumption) | (with_reducible refine Vg.Grows.alloc ?_ _) | (with_reducible refine Vg.Grows.plus ?_ _ _) | (with_reducible refine Vg.Grows.drewN ?_ _) | (with_reducible refine Vg.Grows.drew ?_) | (with_reducible refine Vg.Grows.setCell ?_ ?_ _) | (with_reducible refine Vg.Grows.put ?_ ?_ _) | omega | (simp; omega) | (simp; done))))) (by simp)⟩
          case rest =>
            obtain ⟨kd', xn', xa', bxn', bxa', hk2⟩ := hcut
            have a7 := hk2.blk (g := b7) (o := rbC (.slice ta2 n tc2) (.slice sa2 n sc2) (.slice wa2 q2 wc2)) (by simp)
            have ax := hk2.blk (g := bx) (o := act18 kd' t xn' xa') (by simp)
            clear c_z7 f_z7 p_z7 c_zx f_zx p_zx
            clear l_z7 l_zx bxn bxa
            have c_a7 := Vg.cells_of a7; have f_a7 := Vg.frozen_of a7; have p_a7 := Vg.setCell_of a7; have l_a7 := Vg.lt_of a7; have H_a7 := Lib.hid a7; clear a7; have c_ax := Vg.cells_of ax; have f_ax := Vg.frozen_of ax; have p_ax := Vg.setCell_of ax; have l_ax := Vg.lt_of ax; have H_ax := Lib.hid ax; clear ax
            have H_hk2 := Lib.hid hk2; clear hk2
            have hk6 : k ≤ 1000000 := by omega
            have hk61 : k ≤ 1000 := by omega
            go_upto_block 3 with fail
            go_cut [9] (fun v9 wz => ∃ (last' : Int) (Bs' : List Vg.Bp) (Q' Q3 : List Vg.Wq) (ta tc sa sc wa q wc : _), v9 = .int .i64 last' ∧ (0 ≤ last' ∧ last' ≤ 9223372036854775807) ∧ Vg.Bo.Inv (k + 1) Bs' Q' ∧ BRel Bs' Q' Q3 ∧ Bs'.length = n ∧ BP w wz b Bs' Q' (bv ta tc sa sc wa q wc n) Bs' Q3 [(b7, rbC (.slice ta n tc) (.slice sa n sc) (.slice wa q wc)), (bx, act18 kd' t xn' xa')])
            case first =>
              as_aux_lemma =>
                by_cases k0 : kd' = 0
                · subst k0
                  obtain ⟨⟨Q', r⟩, hx⟩ : ∃ p, Vg.Bo.put n Q t xn' = p := ⟨_, rfl⟩
                  obtain ⟨Q3, hx3, hr3⟩ := H_hrq.out.put H_hBl.out hx
                  have hI' := H_hinv.out.put (n := n) t xn'
                  rw [hx] at hI'
                  have hok := H_hinv.out.wk.ok hk6
                  have qr : (r != r) = false := by simp
                  have H_hx := Lib.hid hx; clear hx; have H_hx3 := Lib.hid hx3; clear hx3; have H_hr3 := Lib.hid hr3; clear hr3; have H_hI' := Lib.hid hI'; clear hI'; have H_hok := Lib.hid hok; clear hok
                  go_upto_region 22 with ((go_at_call 47; (with_reducible refine (br_put t xn' (H_hk2.out.grows (by (repeat' (first | (with_reducible exact Vg.Grows.refl _) | (with_reducible assumption) | (with_reducible refine Vg.Grows.alloc ?_ _) | (with_reducible refine Vg.Grows.plus ?_ _ _) | (with_reducible refine Vg.Grows.drewN ?_ _) | (with_reducible refine Vg.Grows.drew ?_) | (with_reducible refine Vg.Grows.setCell ?_ ?_ _) | (with_reducible refine Vg.Grows.put ?_ ?_ _) | omega | (simp; omega) | (simp; done))))) H_hinv2.out hk61 H_hBl.out H_hx3.out).mono ?_); rintro e w4 ⟨ta3, tc3, sa3, sc3, wa3, q3, wc3, rfl, h4⟩; have c7 := h4.blk (g := b7) (o := rbC (.slice ta2 n tc2) (.slice sa2 n sc2) (.slice wa2 q2 wc2)) (by simp); have cx := h4.blk (g := bx) (o := act18 0 t xn' xa') (by simp); clear c_a7 f_a7 p_a7 c_ax f_ax p_ax; have c_c7 := Vg.cells_of c7; have f_c7 := Vg.frozen_of c7; have p_c7 := Vg.setCell_of c7; have l_c7 := Vg.lt_of c7; have H_c7 := Lib.hid c7; clear c7; have c_cx := Vg.cells_of cx; have f_cx := Vg.frozen_of cx; have p_cx := Vg.setCell_of cx; have l_cx := Vg.lt_of cx; have H_cx := Lib.hid cx; clear cx; have H_h4 := Lib.hid h4; clear h4))
                  have h5 := BP.new H_h4.out (g := w4.heap.size) (w' := w4.alloc (rbC (.slice ta3 n tc3) (.slice sa3 n sc3) (.slice wa3 q3 wc3))) (o := rbC (.slice ta3 n tc3) (.slice sa3 n sc3) (.slice wa3 q3 wc3)) ((Vg.Grows.refl _).alloc _) (Vg.alloc_heap_at rfl) (Nat.le_refl _)
                  obtain ⟨W5, hW5⟩ : ∃ W5, w4.alloc (rbC (.slice ta3 n tc3) (.slice sa3 n sc3) (.slice wa3 q3 wc3)) = W5 := ⟨_, rfl⟩
                  rw [hW5] at h5 ⊢
                  obtain ⟨b13, hb13⟩ : ∃ b13, w4.heap.size = b13 := ⟨_, rfl⟩
                  rw [hb13] at h5 ⊢
                  have m1 : b13 ≠ b7 := by omega
                  have m2 : b7 ≠ b13 := by omega
                  clear hW5
                  have d7 := h5.blk (g := b7) (o := rbC (.slice ta2 n tc2) (.slice sa2 n sc2) (.slice wa2 q2 wc2)) (by simp)
                  have dx := h5.blk (g := bx) (o := act18 0 t xn' xa') (by simp)
                  have d13 := h5.blk (g := b13) (o := rbC (.slice ta3 n tc3) (.slice sa3 n sc3) (.slice wa3 q3 wc3)) (by simp)
                  clear c_c7 f_c7 p_c7 c_cx f_cx p_cx
                  clear l_c7 l_cx l_a7 l_ax
                  have c_d7 := Vg.cells_of d7; have f_d7 := Vg.frozen_of d7; have p_d7 := Vg.setCell_of d7; have l_d7 := Vg.lt_of d7; have H_d7 := Lib.hid d7; clear d7; have c_dx := Vg.cells_of dx; have f_dx := Vg.frozen_of dx; have p_dx := Vg.setCell_of dx; have l_dx := Vg.lt_of dx; have H_dx := Lib.hid dx; clear dx; have c_d13 := Vg.cells_of d13; have f_d13 := Vg.frozen_of d13; have p_d13 := Vg.setCell_of d13; have l_d13 := Vg.lt_of d13; have H_d13 := Lib.hid d13; clear d13
                  have H_h5 := Lib.hid h5; clear h5; have H_hb13 := Lib.hid hb13; clear hb13
                  go_wp2_with ((go_at_call 48; (with_reducible refine (bp_put t xn' (H_h5.out.grows (by (repeat' (first | (with_reducible exact Vg.Grows.refl _) | (with_reducible assumption) | (with_reducible refine Vg.Grows.alloc ?_ _) | (with_reducible refine Vg.Grows.plus ?_ _ _) | (with_reducible refine Vg.Grows.drewN ?_ _) | (with_reducible refine Vg.Grows.drew ?_) | (with_reducible refine Vg.Grows.setCell ?_ ?_ _) | (with_reducible refine Vg.Grows.put ?_ ?_ _) | omega | (simp; omega) | (simp; done))))) H_hok.out H_hBl.out H_hx.out).mono ?_); rintro e w6 ⟨rfl, h6⟩; have s7 := h6.blk (g := b7) (o := rbC (.slice ta2 n tc2) (.slice sa2 n sc2) (.slice wa2 q2 wc2)) (by simp); have sx := h6.blk (g := bx) (o := act18 0 t xn' xa') (by simp); have s13 := h6.blk (g := b13) (o := rbC (.slice ta3 n tc3) (.slice sa3 n sc3) (.slice wa3 q3 wc3)) (by simp); clear c_d7 f_d7 p_d7 c_dx f_dx p_dx c_d13 f_d13 p_d13; have c_s7 := Vg.cells_of s7; have f_s7 := Vg.frozen_of s7; have p_s7 := Vg.setCell_of s7; have l_s7 := Vg.lt_of s7; have H_s7 := Lib.hid s7; clear s7; have c_sx := Vg.cells_of sx; have f_sx := Vg.frozen_of sx; have p_sx := Vg.setCell_of sx; have l_sx := Vg.lt_of sx; have H_sx := Lib.hid sx; clear sx; have c_s13 := Vg.cells_of s13; have f_s13 := Vg.frozen_of s13; have p_s13 := Vg.setCell_of s13; have l_s13 := Vg.lt_of s13; have H_s13 := Lib.hid s13; clear s13; have H_h6 := Lib.hid h6; clear h6))
                  go_meet
                  exact ⟨last, Bs, Q', Q3, ta3, tc3, sa3, sc3, wa3, q3, wc3, rfl, hlast, H_hI'.out, H_hr3.out, H_hBl.out, BP.sub (BP.put (g := b7) (o := rbC (.slice ta2 n tc2) (.slice sa2 n sc2) (.slice wa2 q2 wc2)) _ (BP.sub (Y := [(b7, rbC (.slice ta2 n tc2) (.slice sa2 n sc2) (.slice wa2 q2 wc2)), (bx, act18 0 t xn' xa')]) (H_h6.out.grows (by (repeat' (first | (with_reducible exact Vg.Grows.refl _) | (with_reducible assumption) | (with_reducible refine Vg.Grows.alloc ?_ _) | (with_reducible refine Vg.Grows.plus ?_ _ _) | (with_reducible refine Vg.Grows.drewN ?_ _) | (with_reducible refine Vg.Grows.drew ?_) | (with_reducible refine Vg.Grows.setCell ?_ ?_ _) | (with_reducible refine Vg.Grows.put ?_ ?_ _) | omega | (simp; omega) | (simp; done))))) (by simp)) hw3 (by simp; exact n1)) (by simp)⟩
                · by_cases k1 : kd' = 1
                  · subst k1
                    obtain ⟨⟨Bs', Q', is, r⟩, hx⟩ : ∃ p, Vg.Bo.run Bs Q t xn' xa' = p := ⟨_, rfl⟩
                    obtain ⟨Q3, hx3, hr3⟩ := H_hrq.out.run hx
                    have hI' := (H_hinv.out.run t xn' xa').mono (Nat.le_succ k)
                    rw [hx] at hI'
                    have hl' := (Vg.Bo.run_len Bs Q t xn' xa').1
                    rw [hx, H_hBl.out] at hl'
                    simp only [] at hI' hl'
                    have qr : (r != r) = false := by simp
                    have qs : ∀ b : Bool, (b != b) = false := by simp
                    have H_hx := Lib.hid hx; clear hx; have H_hx3 := Lib.hid hx3; clear hx3; have H_hr3 := Lib.hid hr3; clear hr3; have H_hI' := Lib.hid hI'; clear hI'; have H_hl' := Lib.hid hl'; clear hl'
                    go_upto_region 27 with ((go_at_call 49; (with_reducible refine (br_run t xn' xa' (H_hk2.out.grows (by (repeat' (first | (with_reducible exact Vg.Grows.refl _) | (with_reducible assumption) | (with_reducible refine Vg.Grows.alloc ?_ _) | (with_reducible refine Vg.Grows.plus ?_ _ _) | (with_reducible refine Vg.Grows.drewN ?_ _) | (with_reducible refine Vg.Grows.drew ?_) | (with_reducible refine Vg.Grows.setCell ?_ ?_ _) | (with_reducible refine Vg.Grows.put ?_ ?_ _) | omega | (simp; omega) | (simp; done))))) H_hinv2.out H_hBl.out bxa' H_hx3.out).mono ?_); rintro e w4 ⟨ta3, tc3, sa3, sc3, wa3, q3, wc3, rfl, h4⟩; have c7 := h4.blk (g := b7) (o := rbC (.slice ta2 n tc2) (.slice sa2 n sc2) (.slice wa2 q2 wc2)) (by simp); have cx := h4.blk (g := bx) (o := act18 1 t xn' xa') (by simp); clear c_a7 f_a7 p_a7 c_ax f_ax p_ax; have c_c7 := Vg.cells_of c7; have f_c7 := Vg.frozen_of c7; have p_c7 := Vg.setCell_of c7; have l_c7 := Vg.lt_of c7; have H_c7 := Lib.hid c7; clear c7; have c_cx := Vg.cells_of cx; have f_cx := Vg.frozen_of cx; have p_cx := Vg.setCell_of cx; have l_cx := Vg.lt_of cx; have H_cx := Lib.hid cx; clear cx; have H_h4 := Lib.hid h4; clear h4))
                    have h5 := BP.new H_h4.out (g := w4.heap.size) (w' := w4.alloc (rbC (.slice ta3 n tc3) (.slice sa3 n sc3) (.slice wa3 q3 wc3))) (o := rbC (.slice ta3 n tc3) (.slice sa3 n sc3) (.slice wa3 q3 wc3)) ((Vg.Grows.refl _).alloc _) (Vg.alloc_heap_at rfl) (Nat.le_refl _)
                    obtain ⟨W5, hW5⟩ : ∃ W5, w4.alloc (rbC (.slice ta3 n tc3) (.slice sa3 n sc3) (.slice wa3 q3 wc3)) = W5 := ⟨_, rfl⟩
                    rw [hW5] at h5 ⊢
                    obtain ⟨b13, hb13⟩ : ∃ b13, w4.heap.size = b13 := ⟨_, rfl⟩
                    rw [hb13] at h5 ⊢
                    have m1 : b13 ≠ b7 := by omega
                    have m2 : b7 ≠ b13 := by omega
                    clear hW5
                    have d7 := h5.blk (g := b7) (o := rbC (.slice ta2 n tc2) (.slice sa2 n sc2) (.slice wa2 q2 wc2)) (by simp)
                    have dx := h5.blk (g := bx) (o := act18 1 t xn' xa') (by simp)
                    have d13 := h5.blk (g := b13) (o := rbC (.slice ta3 n tc3) (.slice sa3 n sc3) (.slice wa3 q3 wc3)) (by simp)
                    clear c_c7 f_c7 p_c7 c_cx f_cx p_cx
                    clear l_c7 l_cx l_a7 l_ax
                    have c_d7 := Vg.cells_of d7; have f_d7 := Vg.frozen_of d7; have p_d7 := Vg.setCell_of d7; have l_d7 := Vg.lt_of d7; have H_d7 := Lib.hid d7; clear d7; have c_dx := Vg.cells_of dx; have f_dx := Vg.frozen_of dx; have p_dx := Vg.setCell_of dx; have l_dx := Vg.lt_of dx; have H_dx := Lib.hid dx; clear dx; have c_d13 := Vg.cells_of d13; have f_d13 := Vg.frozen_of d13; have p_d13 := Vg.setCell_of d13; have l_d13 := Vg.lt_of d13; have H_d13 := Lib.hid d13; clear d13
                    have H_h5 := Lib.hid h5; clear h5; have H_hb13 := Lib.hid hb13; clear hb13
                    by_cases r0 : r = 0
                    · subst r0
                      go_wp2_with ((go_at_call 50; (with_reducible refine (bp_run t xn' xa' (H_h5.out.grows (by (repeat' (first | (with_reducible exact Vg.Grows.refl _) | (with_reducible assumption) | (with_reducible refine Vg.Grows.alloc ?_ _) | (with_reducible refine Vg.Grows.plus ?_ _ _) | (with_reducible refine Vg.Grows.drewN ?_ _) | (with_reducible refine Vg.Grows.drew ?_) | (with_reducible refine Vg.Grows.setCell ?_ ?_ _) | (with_reducible refine Vg.Grows.put ?_ ?_ _) | omega | (simp; omega) | (simp; done))))) H_hinv.out hk6 bxn' bxa' H_hx.out).mono ?_); rintro e w6 ⟨rfl, h6⟩; have s7 := h6.blk (g := b7) (o := rbC (.slice ta2 n tc2) (.slice sa2 n sc2) (.slice wa2 q2 wc2)) (by simp); have sx := h6.blk (g := bx) (o := act18 1 t xn' xa') (by simp); have s13 := h6.blk (g := b13) (o := rbC (.slice ta3 n tc3) (.slice sa3 n sc3) (.slice wa3 q3 wc3)) (by simp); clear c_d7 f_d7 p_d7 c_dx f_dx p_dx c_d13 f_d13 p_d13; have c_s7 := Vg.cells_of s7; have f_s7 := Vg.frozen_of s7; have p_s7 := Vg.setCell_of s7; have l_s7 := Vg.lt_of s7; have H_s7 := Lib.hid s7; clear s7; have c_sx := Vg.cells_of sx; have f_sx := Vg.frozen_of sx; have p_sx := Vg.setCell_of sx; have l_sx := Vg.lt_of sx; have H_sx := Lib.hid sx; clear sx; have c_s13 := Vg.cells_of s13; have f_s13 := Vg.frozen_of s13; have p_s13 := Vg.setCell_of s13; have l_s13 := Vg.lt_of s13; have H_s13 := Lib.hid s13; clear s13; have H_h6 := Lib.hid h6; clear h6))
                      all_goals go_meet
                      all_goals exact ⟨_, Bs', Q', Q3, ta3, tc3, sa3, sc3, wa3, q3, wc3, rfl, by constructor <;> (repeat' split) <;> omega, H_hI'.out, H_hr3.out, H_hl'.out, BP.sub (BP.put (g := b7) (o := rbC (.slice ta2 n tc2) (.slice sa2 n sc2) (.slice wa2 q2 wc2)) _ (BP.sub (Y := [(b7, rbC (.slice ta2 n tc2) (.slice sa2 n sc2) (.slice wa2 q2 wc2)), (bx, act18 1 t xn' xa')]) (H_h6.out.grows (by (repeat' (first | (with_reducible exact Vg.Grows.refl _) | (with_reducible assumption) | (with_reducible refine Vg.Grows.alloc ?_ _) | (with_reducible refine Vg.Grows.plus ?_ _ _) | (with_reducible refine Vg.Grows.drewN ?_ _) | (with_reducible refine Vg.Grows.drew ?_) | (with_reducible refine Vg.Grows.setCell ?_ ?_ _) | (with_reducible refine Vg.Grows.put ?_ ?_ _) | omega | (simp; omega) | (simp; done))))) (by simp)) hw3 (by simp; exact n1)) (by simp)⟩
                    · have er : (r == 0) = false := by simp [r0]
                      go_wp2_with ((go_at_call 50; (with_reducible refine (bp_run t xn' xa' (H_h5.out.grows (by (repeat' (first | (with_reducible exact Vg.Grows.refl _) | (with_reducible assumption) | (with_reducible refine Vg.Grows.alloc ?_ _) | (with_reducible refine Vg.Grows.plus ?_ _ _) | (with_reducible refine Vg.Grows.drewN ?_ _) | (with_reducible refine Vg.Grows.drew ?_) | (with_reducible refine Vg.Grows.setCell ?_ ?_ _) | (with_reducible refine Vg.Grows.put ?_ ?_ _) | omega | (simp; omega) | (simp; done))))) H_hinv.out hk6 bxn' bxa' H_hx.out).mono ?_); rintro e w6 ⟨rfl, h6⟩; have s7 := h6.blk (g := b7) (o := rbC (.slice ta2 n tc2) (.slice sa2 n sc2) (.slice wa2 q2 wc2)) (by simp); have sx := h6.blk (g := bx) (o := act18 1 t xn' xa') (by simp); have s13 := h6.blk (g := b13) (o := rbC (.slice ta3 n tc3) (.slice sa3 n sc3) (.slice wa3 q3 wc3)) (by simp); clear c_d7 f_d7 p_d7 c_dx f_dx p_dx c_d13 f_d13 p_d13; have c_s7 := Vg.cells_of s7; have f_s7 := Vg.frozen_of s7; have p_s7 := Vg.setCell_of s7; have l_s7 := Vg.lt_of s7; have H_s7 := Lib.hid s7; clear s7; have c_sx := Vg.cells_of sx; have f_sx := Vg.frozen_of sx; have p_sx := Vg.setCell_of sx; have l_sx := Vg.lt_of sx; have H_sx := Lib.hid sx; clear sx; have c_s13 := Vg.cells_of s13; have f_s13 := Vg.frozen_of s13; have p_s13 := Vg.setCell_of s13; have l_s13 := Vg.lt_of s13; have H_s13 := Lib.hid s13; clear s13; have H_h6 := Lib.hid h6; clear h6))
                      go_meet
                      exact ⟨last, Bs', Q', Q3, ta3, tc3, sa3, sc3, wa3, q3, wc3, rfl, hlast, H_hI'.out, H_hr3.out, H_hl'.out, BP.sub (BP.put (g := b7) (o := rbC (.slice ta2 n tc2) (.slice sa2 n sc2) (.slice wa2 q2 wc2)) _ (BP.sub (Y := [(b7, rbC (.slice ta2 n tc2) (.slice sa2 n sc2) (.slice wa2 q2 wc2)), (bx, act18 1 t xn' xa')]) (H_h6.out.grows (by (repeat' (first | (with_reducible exact Vg.Grows.refl _) | (with_reducible assumption) | (with_reducible refine Vg.Grows.alloc ?_ _) | (with_reducible refine Vg.Grows.plus ?_ _ _) | (with_reducible refine Vg.Grows.drewN ?_ _) | (with_reducible refine Vg.Grows.drew ?_) | (with_reducible refine Vg.Grows.setCell ?_ ?_ _) | (with_reducible refine Vg.Grows.put ?_ ?_ _) | omega | (simp; omega) | (simp; done))))) (by simp)) hw3 (by simp; exact n1)) (by simp)⟩
                  · by_cases k2 : kd' = 2
                    · subst k2
                      obtain ⟨⟨Bs', r⟩, hx⟩ : ∃ p, Vg.Bo.refill Bs xa' = p := ⟨_, rfl⟩
                      obtain ⟨Q3, hQ3⟩ : ∃ Q3, Q2 = Q3 := ⟨_, rfl⟩
                      have hr3 := H_hrq.out.refill hx
                      rw [hQ3] at hr3
                      have hx3 := hx
                      have hI' := (H_hinv.out.refill xa').mono (Nat.le_succ k)
                      rw [hx] at hI'
                      have hl' := Vg.Bo.refill_len Bs xa'
                      rw [hx, H_hBl.out] at hl'
                      simp only [] at hI' hl'
                      subst hQ3
                      have qr : (r != r) = false := by simp
                      have qs : ∀ b : Bool, (b != b) = false := by simp
                      have H_hx := Lib.hid hx; clear hx; have H_hx3 := Lib.hid hx3; clear hx3; have H_hr3 := Lib.hid hr3; clear hr3; have H_hI' := Lib.hid hI'; clear hI'; have H_hl' := Lib.hid hl'; clear hl'
                      go_upto_region 35 with ((go_at_call 51; (with_reducible refine (br_refill xa' (H_hk2.out.grows (by (repeat' (first | (with_reducible exact Vg.Grows.refl _) | (with_reducible assumption) | (with_reducible refine Vg.Grows.alloc ?_ _) | (with_reducible refine Vg.Grows.plus ?_ _ _) | (with_reducible refine Vg.Grows.drewN ?_ _) | (with_reducible refine Vg.Grows.drew ?_) | (with_reducible refine Vg.Grows.setCell ?_ ?_ _) | (with_reducible refine Vg.Grows.put ?_ ?_ _) | omega | (simp; omega) | (simp; done))))) H_hinv2.out H_hBl.out H_hx3.out).mono ?_); rintro e w4 ⟨ta3, tc3, sa3, sc3, wa3, q3, wc3, rfl, h4⟩; have c7 := h4.blk (g := b7) (o := rbC (.slice ta2 n tc2) (.slice sa2 n sc2) (.slice wa2 q2 wc2)) (by simp); have cx := h4.blk (g := bx) (o := act18 2 t xn' xa') (by simp); clear c_a7 f_a7 p_a7 c_ax f_ax p_ax; have c_c7 := Vg.cells_of c7; have f_c7 := Vg.frozen_of c7; have p_c7 := Vg.setCell_of c7; have l_c7 := Vg.lt_of c7; have H_c7 := Lib.hid c7; clear c7; have c_cx := Vg.cells_of cx; have f_cx := Vg.frozen_of cx; have p_cx := Vg.setCell_of cx; have l_cx := Vg.lt_of cx; have H_cx := Lib.hid cx; clear cx; have H_h4 := Lib.hid h4; clear h4))
                      have h5 := BP.new H_h4.out (g := w4.heap.size) (w' := w4.alloc (rbC (.slice ta3 n tc3) (.slice sa3 n sc3) (.slice wa3 q3 wc3))) (o := rbC (.slice ta3 n tc3) (.slice sa3 n sc3) (.slice wa3 q3 wc3)) ((Vg.Grows.refl _).alloc _) (Vg.alloc_heap_at rfl) (Nat.le_refl _)
                      obtain ⟨W5, hW5⟩ : ∃ W5, w4.alloc (rbC (.slice ta3 n tc3) (.slice sa3 n sc3) (.slice wa3 q3 wc3)) = W5 := ⟨_, rfl⟩
                      rw [hW5] at h5 ⊢
                      obtain ⟨b13, hb13⟩ : ∃ b13, w4.heap.size = b13 := ⟨_, rfl⟩
                      rw [hb13] at h5 ⊢
                      have m1 : b13 ≠ b7 := by omega
                      have m2 : b7 ≠ b13 := by omega
                      clear hW5
                      have d7 := h5.blk (g := b7) (o := rbC (.slice ta2 n tc2) (.slice sa2 n sc2) (.slice wa2 q2 wc2)) (by simp)
                      have dx := h5.blk (g := bx) (o := act18 2 t xn' xa') (by simp)
                      have d13 := h5.blk (g := b13) (o := rbC (.slice ta3 n tc3) (.slice sa3 n sc3) (.slice wa3 q3 wc3)) (by simp)
                      clear c_c7 f_c7 p_c7 c_cx f_cx p_cx
                      clear l_c7 l_cx l_a7 l_ax
                      have c_d7 := Vg.cells_of d7; have f_d7 := Vg.frozen_of d7; have p_d7 := Vg.setCell_of d7; have l_d7 := Vg.lt_of d7; have H_d7 := Lib.hid d7; clear d7; have c_dx := Vg.cells_of dx; have f_dx := Vg.frozen_of dx; have p_dx := Vg.setCell_of dx; have l_dx := Vg.lt_of dx; have H_dx := Lib.hid dx; clear dx; have c_d13 := Vg.cells_of d13; have f_d13 := Vg.frozen_of d13; have p_d13 := Vg.setCell_of d13; have l_d13 := Vg.lt_of d13; have H_d13 := Lib.hid d13; clear d13
                      have H_h5 := Lib.hid h5; clear h5; have H_hb13 := Lib.hid hb13; clear hb13
                      by_cases r0 : r = 0
                      · subst r0
                        go_wp2_with ((go_at_call 52; (with_reducible refine (bp_refill xa' (H_h5.out.grows (by (repeat' (first | (with_reducible exact Vg.Grows.refl _) | (with_reducible assumption) | (with_reducible refine Vg.Grows.alloc ?_ _) | (with_reducible refine Vg.Grows.plus ?_ _ _) | (with_reducible refine Vg.Grows.drewN ?_ _) | (with_reducible refine Vg.Grows.drew ?_) | (with_reducible refine Vg.Grows.setCell ?_ ?_ _) | (with_reducible refine Vg.Grows.put ?_ ?_ _) | omega | (simp; omega) | (simp; done))))) H_hinv.out H_hx.out).mono ?_); rintro e w6 ⟨rfl, h6⟩; have s7 := h6.blk (g := b7) (o := rbC (.slice ta2 n tc2) (.slice sa2 n sc2) (.slice wa2 q2 wc2)) (by simp); have sx := h6.blk (g := bx) (o := act18 2 t xn' xa') (by simp); have s13 := h6.blk (g := b13) (o := rbC (.slice ta3 n tc3) (.slice sa3 n sc3) (.slice wa3 q3 wc3)) (by simp); clear c_d7 f_d7 p_d7 c_dx f_dx p_dx c_d13 f_d13 p_d13; have c_s7 := Vg.cells_of s7; have f_s7 := Vg.frozen_of s7; have p_s7 := Vg.setCell_of s7; have l_s7 := Vg.lt_of s7; have H_s7 := Lib.hid s7; clear s7; have c_sx := Vg.cells_of sx; have f_sx := Vg.frozen_of sx; have p_sx := Vg.setCell_of sx; have l_sx := Vg.lt_of sx; have H_sx := Lib.hid sx; clear sx; have c_s13 := Vg.cells_of s13; have f_s13 := Vg.frozen_of s13; have p_s13 := Vg.setCell_of s13; have l_s13 := Vg.lt_of s13; have H_s13 := Lib.hid s13; clear s13; have H_h6 := Lib.hid h6; clear h6))
                        all_goals go_meet
                        all_goals exact ⟨_, Bs', Q, Q2, ta3, tc3, sa3, sc3, wa3, q3, wc3, rfl, by constructor <;> (repeat' split) <;> omega, H_hI'.out, H_hr3.out, H_hl'.out, BP.sub (BP.put (g := b7) (o := rbC (.slice ta2 n tc2) (.slice sa2 n sc2) (.slice wa2 q2 wc2)) _ (BP.sub (Y := [(b7, rbC (.slice ta2 n tc2) (.slice sa2 n sc2) (.slice wa2 q2 wc2)), (bx, act18 2 t xn' xa')]) (H_h6.out.grows (by (repeat' (first | (with_reducible exact Vg.Grows.refl _) | (with_reducible assumption) | (with_reducible refine Vg.Grows.alloc ?_ _) | (with_reducible refine Vg.Grows.plus ?_ _ _) | (with_reducible refine Vg.Grows.drewN ?_ _) | (with_reducible refine Vg.Grows.drew ?_) | (with_reducible refine Vg.Grows.setCell ?_ ?_ _) | (with_reducible refine Vg.Grows.put ?_ ?_ _) | omega | (simp; omega) | (simp; done))))) (by simp)) hw3 (by simp; exact n1)) (by simp)⟩
                      · have er : (r == 0) = false := by simp [r0]
                        go_wp2_with ((go_at_call 52; (with_reducible refine (bp_refill xa' (H_h5.out.grows (by (repeat' (first | (with_reducible exact Vg.Grows.refl _) | (with_reducible assumption) | (with_reducible refine Vg.Grows.alloc ?_ _) | (with_reducible refine Vg.Grows.plus ?_ _ _) | (with_reducible refine Vg.Grows.drewN ?_ _) | (with_reducible refine Vg.Grows.drew ?_) | (with_reducible refine Vg.Grows.setCell ?_ ?_ _) | (with_reducible refine Vg.Grows.put ?_ ?_ _) | omega | (simp; omega) | (simp; done))))) H_hinv.out H_hx.out).mono ?_); rintro e w6 ⟨rfl, h6⟩; have s7 := h6.blk (g := b7) (o := rbC (.slice ta2 n tc2) (.slice sa2 n sc2) (.slice wa2 q2 wc2)) (by simp); have sx := h6.blk (g := bx) (o := act18 2 t xn' xa') (by simp); have s13 := h6.blk (g := b13) (o := rbC (.slice ta3 n tc3) (.slice sa3 n sc3) (.slice wa3 q3 wc3)) (by simp); clear c_d7 f_d7 p_d7 c_dx f_dx p_dx c_d13 f_d13 p_d13; have c_s7 := Vg.cells_of s7; have f_s7 := Vg.frozen_of s7; have p_s7 := Vg.setCell_of s7; have l_s7 := Vg.lt_of s7; have H_s7 := Lib.hid s7; clear s7; have c_sx := Vg.cells_of sx; have f_sx := Vg.frozen_of sx; have p_sx := Vg.setCell_of sx; have l_sx := Vg.lt_of sx; have H_sx := Lib.hid sx; clear sx; have c_s13 := Vg.cells_of s13; have f_s13 := Vg.frozen_of s13; have p_s13 := Vg.setCell_of s13; have l_s13 := Vg.lt_of s13; have H_s13 := Lib.hid s13; clear s13; have H_h6 := Lib.hid h6; clear h6))
                        go_meet
                        exact ⟨last, Bs', Q, Q2, ta3, tc3, sa3, sc3, wa3, q3, wc3, rfl, hlast, H_hI'.out, H_hr3.out, H_hl'.out, BP.sub (BP.put (g := b7) (o := rbC (.slice ta2 n tc2) (.slice sa2 n sc2) (.slice wa2 q2 wc2)) _ (BP.sub (Y := [(b7, rbC (.slice ta2 n tc2) (.slice sa2 n sc2) (.slice wa2 q2 wc2)), (bx, act18 2 t xn' xa')]) (H_h6.out.grows (by (repeat' (first | (with_reducible exact Vg.Grows.refl _) | (with_reducible assumption) | (with_reducible refine Vg.Grows.alloc ?_ _) | (with_reducible refine Vg.Grows.plus ?_ _ _) | (with_reducible refine Vg.Grows.drewN ?_ _) | (with_reducible refine Vg.Grows.drew ?_) | (with_reducible refine Vg.Grows.setCell ?_ ?_ _) | (with_reducible refine Vg.Grows.put ?_ ?_ _) | omega | (simp; omega) | (simp; done))))) (by simp)) hw3 (by simp; exact n1)) (by simp)⟩
                    · have e0 : (kd' == 0) = false := by simp [k0]
                      have e1 : (kd' == 1) = false := by simp [k1]
                      have e2 : (kd' == 2) = false := by simp [k2]
                      go_wp2_with fail
                      go_meet
                      exact ⟨last, Bs, Q, Q2, ta2, tc2, sa2, sc2, wa2, q2, wc2, rfl, hlast, H_hinv.out.mono (Nat.le_succ k), H_hrq.out, H_hBl.out, H_hk2.out.grows (by (repeat' (first | (with_reducible exact Vg.Grows.refl _) | (with_reducible assumption) | (with_reducible refine Vg.Grows.alloc ?_ _) | (with_reducible refine Vg.Grows.plus ?_ _ _) | (with_reducible refine Vg.Grows.drewN ?_ _) | (with_reducible refine Vg.Grows.drew ?_) | (with_reducible refine Vg.Grows.setCell ?_ ?_ _) | (with_reducible refine Vg.Grows.put ?_ ?_ _) | omega | (simp; omega) | (simp; done))))⟩
            case rest =>
              obtain ⟨last', Bs', Q', Q3, ta3, tc3, sa3, sc3, wa3, q3, wc3, rfl, hlast', hI', hr3, hBl', hk3⟩ := hcut
              have g7 := hk3.blk (g := b7) (o := rbC (.slice ta3 n tc3) (.slice sa3 n sc3) (.slice wa3 q3 wc3)) (by simp)
              have gx := hk3.blk (g := bx) (o := act18 kd' t xn' xa') (by simp)
              clear c_a7 f_a7 p_a7 c_ax f_ax p_ax
              clear l_a7 l_ax
              have c_g7 := Vg.cells_of g7; have f_g7 := Vg.frozen_of g7; have p_g7 := Vg.setCell_of g7; have l_g7 := Vg.lt_of g7; have H_g7 := Lib.hid g7; clear g7; have c_gx := Vg.cells_of gx; have f_gx := Vg.frozen_of gx; have p_gx := Vg.setCell_of gx; have l_gx := Vg.lt_of gx; have H_gx := Lib.hid gx; clear gx
              have hI3 := hr3.inv hI'
              obtain ⟨rb, hrb⟩ : ∃ rb, Vg.Bo.best Bs' Q' = rb := ⟨_, rfl⟩
              have hrb2 := hr3.best hrb
              obtain ⟨pm, hpm⟩ : ∃ pm, max rb 0 = pm := ⟨_, rfl⟩
              obtain ⟨pis, hpis⟩ : ∃ pis, decide (0 ≤ rb) = pis := ⟨_, rfl⟩
              obtain ⟨⟨nat, nis⟩, hnx⟩ : ∃ p, Vg.Bo.next Bs' Q' = p := ⟨_, rfl⟩
              have hnx2 := hr3.next hnx
              obtain ⟨ab, hab⟩ : ∃ x, Vg.Bo.able Bs' Q' t = x := ⟨_, rfl⟩
              have hab2 := hr3.able hab
              obtain ⟨lf, hlf⟩ : ∃ x, Vg.Bo.left Bs' Q' t = x := ⟨_, rfl⟩
              have hlf2 := hr3.left hlf
              have hle := hI'.le
              have q1 : ∀ z : Int, (z != z) = false := by simp
              have q2 : ∀ z : Bool, (z != z) = false := by simp
              have H_hk3 := Lib.hid hk3; clear hk3; have H_hI' := Lib.hid hI'; clear hI'; have H_hI3 := Lib.hid hI3; clear hI3; have H_hr3 := Lib.hid hr3; clear hr3; have H_hBl' := Lib.hid hBl'; clear hBl'; have H_hrb := Lib.hid hrb; clear hrb; have H_hrb2 := Lib.hid hrb2; clear hrb2; have H_hpm := Lib.hid hpm; clear hpm; have H_hpis := Lib.hid hpis; clear hpis; have H_hnx := Lib.hid hnx; clear hnx; have H_hnx2 := Lib.hid hnx2; clear hnx2; have H_hab := Lib.hid hab; clear hab; have H_hab2 := Lib.hid hab2; clear hab2; have H_hlf := Lib.hid hlf; clear hlf; have H_hlf2 := Lib.hid hlf2; clear hlf2; have H_hle := Lib.hid hle; clear hle
              go_upto_region 44 with (first | (go_at_call 53; (with_reducible refine (bp_pick (H_hk3.out.grows (by (repeat' (first | (with_reducible exact Vg.Grows.refl _) | (with_reducible assumption) | (with_reducible refine Vg.Grows.alloc ?_ _) | (with_reducible refine Vg.Grows.plus ?_ _ _) | (with_reducible refine Vg.Grows.drewN ?_ _) | (with_reducible refine Vg.Grows.drew ?_) | (with_reducible refine Vg.Grows.setCell ?_ ?_ _) | (with_reducible refine Vg.Grows.put ?_ ?_ _) | omega | (simp; omega) | (simp; done))))) H_hrb.out H_hpm.out H_hpis.out).mono ?_); rintro e w1' ⟨rfl, x1, m1, rfl⟩) | (go_at_call 54; (with_reducible refine (br_pick (H_hk3.out.grows (by (repeat' (first | (with_reducible exact Vg.Grows.refl _) | (with_reducible assumption) | (with_reducible refine Vg.Grows.alloc ?_ _) | (with_reducible refine Vg.Grows.plus ?_ _ _) | (with_reducible refine Vg.Grows.drewN ?_ _) | (with_reducible refine Vg.Grows.drew ?_) | (with_reducible refine Vg.Grows.setCell ?_ ?_ _) | (with_reducible refine Vg.Grows.put ?_ ?_ _) | omega | (simp; omega) | (simp; done))))) H_hI3.out H_hrb2.out H_hpm.out H_hpis.out).mono ?_); rintro e w2' ⟨rfl, x2, m2, rfl⟩) | (go_at_call 55; (with_reducible refine (bp_next (H_hk3.out.grows (by (repeat' (first | (with_reducible exact Vg.Grows.refl _) | (with_reducible assumption) | (with_reducible refine Vg.Grows.alloc ?_ _) | (with_reducible refine Vg.Grows.plus ?_ _ _) | (with_reducible refine Vg.Grows.drewN ?_ _) | (with_reducible refine Vg.Grows.drew ?_) | (with_reducible refine Vg.Grows.setCell ?_ ?_ _) | (with_reducible refine Vg.Grows.put ?_ ?_ _) | omega | (simp; omega) | (simp; done))))) H_hle.out H_hnx.out).mono ?_); rintro e w3' ⟨rfl, x3, m3, rfl⟩) | (go_at_call 56; (with_reducible refine (br_next (H_hk3.out.grows (by (repeat' (first | (with_reducible exact Vg.Grows.refl _) | (with_reducible assumption) | (with_reducible refine Vg.Grows.alloc ?_ _) | (with_reducible refine Vg.Grows.plus ?_ _ _) | (with_reducible refine Vg.Grows.drewN ?_ _) | (with_reducible refine Vg.Grows.drew ?_) | (with_reducible refine Vg.Grows.setCell ?_ ?_ _) | (with_reducible refine Vg.Grows.put ?_ ?_ _) | omega | (simp; omega) | (simp; done))))) H_hI3.out H_hnx2.out).mono ?_); rintro e w4' ⟨rfl, x4, m4, rfl⟩))
              go_cut [247] (fun v247 wz => v247 = .bool false ∧ BP w wz b Bs' Q' (bv ta3 tc3 sa3 sc3 wa3 q3 wc3 n) Bs' Q3 [(b7, rbC (.slice ta3 n tc3) (.slice sa3 n sc3) (.slice wa3 q3 wc3)), (bx, act18 kd' t xn' xa')])
              case first =>
                as_aux_lemma =>
                  refine wp_region_held_drew (S := fun w' => b7 < w'.heap.size ∧ bx < w'.heap.size ∧ w'.cell? ⟨b7, 0, none⟩ = some (.slice ta3 n tc3) ∧ w'.cell? ⟨b7, 1, none⟩ = some (.slice sa3 n sc3) ∧ w'.cell? ⟨b7, 2, none⟩ = some (.slice wa3 q3 wc3) ∧ w'.cell? ⟨bx, 1, none⟩ = some (.int .i64 t)) (by kernel_rfl) (by go_split_ands <;> (try dsimp only) <;> go_simp) (fun hHeld => ?_)
                  refine wpAnyH_take (i := 0) (oi := _) (v := ?v10) rfl (by kernel_rfl) (by kernel_rfl) (by kernel_rfl) (fun _ _ _ h => h) (Or.inl ⟨by rfl, ?hy10⟩) (by assumption) ?rest10
                  case hy10 => (intro w hSw; (try dsimp only at hSw); go_simp; first | done | with_reducible rfl)
                  (try simp only [List.getElem_toArray, List.getElem_cons_succ, List.getElem_cons_zero, Act.put, List.setIfInBounds_toArray, List.set_cons_zero, List.set_cons_succ])
                  refine wpAnyH_take (i := 1) (oi := _) (v := ?v11) rfl (by kernel_rfl) (by kernel_rfl) (by kernel_rfl) (fun _ _ _ h => h) (Or.inl ⟨by rfl, ?hy11⟩) (by assumption) ?rest11
                  case hy11 => (intro w hSw; (try dsimp only at hSw); go_simp; first | done | with_reducible rfl)
                  (try simp only [List.getElem_toArray, List.getElem_cons_succ, List.getElem_cons_zero, Act.put, List.setIfInBounds_toArray, List.set_cons_zero, List.set_cons_succ])
                  refine wpAnyH_take (i := 2) (oi := _) (v := ?v12) rfl (by kernel_rfl) (by kernel_rfl) (by kernel_rfl) (fun _ _ _ h => h) (Or.inl ⟨by rfl, ?hy12⟩) (by assumption) ?rest12
                  case hy12 => (intro w hSw; (try dsimp only at hSw); go_simp; first | done | with_reducible rfl)
                  (try simp only [List.getElem_toArray, List.getElem_cons_succ, List.getElem_cons_zero, Act.put, List.setIfInBounds_toArray, List.set_cons_zero, List.set_cons_succ])
                  refine wpAnyH_take (i := 3) (oi := _) (v := ?v13) rfl (by kernel_rfl) (by kernel_rfl) (by kernel_rfl) (fun _ _ _ h => h) (Or.inl ⟨by rfl, ?hy13⟩) (by assumption) ?rest13
                  case hy13 => (intro w hSw; (try dsimp only at hSw); go_simp; first | done | with_reducible rfl)
                  (try simp only [List.getElem_toArray, List.getElem_cons_succ, List.getElem_cons_zero, Act.put, List.setIfInBounds_toArray, List.set_cons_zero, List.set_cons_succ])
                  refine wpAnyH_take (i := 4) (oi := _) (v := ?v14) rfl (by kernel_rfl) (by kernel_rfl) (by kernel_rfl) (fun _ _ _ h => h) (Or.inl ⟨by rfl, ?hy14⟩) (by assumption) ?rest14
                  case hy14 => (intro w hSw; (try dsimp only at hSw); go_simp; first | done | with_reducible rfl)
                  (try simp only [List.getElem_toArray, List.getElem_cons_succ, List.getElem_cons_zero, Act.put, List.setIfInBounds_toArray, List.set_cons_zero, List.set_cons_succ])
                  refine wpAnyH_take (i := 5) (oi := _) (v := ?v15) rfl (by kernel_rfl) (by kernel_rfl) (by kernel_rfl) (fun _ _ _ h => h) (Or.inl ⟨by rfl, ?hy15⟩) (by assumption) ?rest15
                  case hy15 => (intro w hSw; (try dsimp only at hSw); go_simp; first | done | with_reducible rfl)
                  (try simp only [List.getElem_toArray, List.getElem_cons_succ, List.getElem_cons_zero, Act.put, List.setIfInBounds_toArray, List.set_cons_zero, List.set_cons_succ])
                  refine wpAnyH_take (i := 6) (oi := _) (v := ?v16) rfl (by kernel_rfl) (by kernel_rfl) (by kernel_rfl) (fun _ _ _ h => h) (Or.inl ⟨by rfl, ?hy16⟩) (by assumption) ?rest16
                  case hy16 => (intro w hSw; (try dsimp only at hSw); go_simp; first | done | with_reducible rfl)
                  (try simp only [List.getElem_toArray, List.getElem_cons_succ, List.getElem_cons_zero, Act.put, List.setIfInBounds_toArray, List.set_cons_zero, List.set_cons_succ])
                  refine wpAnyH_take (i := 7) (oi := _) (v := ?v17) rfl (by kernel_rfl) (by kernel_rfl) (by kernel_rfl) (fun _ _ _ h => h) (Or.inl ⟨by rfl, ?hy17⟩) (by assumption) ?rest17
                  case hy17 => (intro w hSw; (try dsimp only at hSw); go_simp; first | done | with_reducible rfl)
                  (try simp only [List.getElem_toArray, List.getElem_cons_succ, List.getElem_cons_zero, Act.put, List.setIfInBounds_toArray, List.set_cons_zero, List.set_cons_succ])
                  refine wpAnyH_take (i := 8) (oi := _) (v := ?v18) rfl (by kernel_rfl) (by kernel_rfl) (by kernel_rfl) (fun _ _ _ h => h) (Or.inl ⟨by rfl, ?hy18⟩) (by assumption) ?rest18
                  case hy18 => (intro w hSw; (try dsimp only at hSw); go_simp; first | done | with_reducible rfl)
                  (try simp only [List.getElem_toArray, List.getElem_cons_succ, List.getElem_cons_zero, Act.put, List.setIfInBounds_toArray, List.set_cons_zero, List.set_cons_succ])
                  refine wpAnyH_take (i := 9) (oi := _) (v := ?v19) rfl (by kernel_rfl) (by kernel_rfl) (by kernel_rfl) (fun _ _ _ h => h) (Or.inl ⟨by rfl, ?hy19⟩) (by assumption) ?rest19
                  case hy19 => (intro w hSw; (try dsimp only at hSw); go_simp; first | done | with_reducible rfl)
                  (try simp only [List.getElem_toArray, List.getElem_cons_succ, List.getElem_cons_zero, Act.put, List.setIfInBounds_toArray, List.set_cons_zero, List.set_cons_succ])
                  refine wpAnyH_take (i := 10) (oi := _) (v := ?v20) rfl (by kernel_rfl) (by kernel_rfl) (by kernel_rfl) (fun _ _ _ h => h) (Or.inl ⟨by rfl, ?hy20⟩) (by assumption) ?rest20
                  case hy20 => (intro w hSw; (try dsimp only at hSw); go_simp; first | done | with_reducible rfl)
                  (try simp only [List.getElem_toArray, List.getElem_cons_succ, List.getElem_cons_zero, Act.put, List.setIfInBounds_toArray, List.set_cons_zero, List.set_cons_succ])
                  refine wpAnyH_take (i := 11) (oi := _) (v := ?v21) rfl (by kernel_rfl) (by kernel_rfl) (by kernel_rfl) (fun _ _ _ h => h) (Or.inl ⟨by rfl, ?hy21⟩) (by assumption) ?rest21
                  case hy21 => (intro w hSw; (try dsimp only at hSw); go_simp; first | done | with_reducible rfl)
                  (try simp only [List.getElem_toArray, List.getElem_cons_succ, List.getElem_cons_zero, Act.put, List.setIfInBounds_toArray, List.set_cons_zero, List.set_cons_succ])
                  refine wpAnyH_take (i := 12) (oi := _) (v := ?v22) rfl (by kernel_rfl) (by kernel_rfl) (by kernel_rfl) (fun _ _ _ h => h) (Or.inl ⟨by rfl, ?hy22⟩) (by assumption) ?rest22
                  case hy22 => (intro w hSw; (try dsimp only at hSw); go_simp; first | done | with_reducible rfl)
                  (try simp only [List.getElem_toArray, List.getElem_cons_succ, List.getElem_cons_zero, Act.put, List.setIfInBounds_toArray, List.set_cons_zero, List.set_cons_succ])
                  refine wpAnyH_take (i := 13) (oi := _) (v := ?v23) rfl (by kernel_rfl) (by kernel_rfl) (by kernel_rfl) (fun _ _ _ h => h) (Or.inl ⟨by rfl, ?hy23⟩) (by assumption) ?rest23
                  case hy23 => (intro w hSw; (try dsimp only at hSw); go_simp; first | done | with_reducible rfl)
                  (try simp only [List.getElem_toArray, List.getElem_cons_succ, List.getElem_cons_zero, Act.put, List.setIfInBounds_toArray, List.set_cons_zero, List.set_cons_succ])
                  refine wpAnyH_take (i := 14) (oi := _) (v := ?v24) rfl (by kernel_rfl) (by kernel_rfl) (by kernel_rfl) (fun _ _ _ h => h) (Or.inl ⟨by rfl, ?hy24⟩) (by assumption) ?rest24
                  case hy24 => (intro w hSw; (try dsimp only at hSw); go_simp; first | done | with_reducible rfl)
                  (try simp only [List.getElem_toArray, List.getElem_cons_succ, List.getElem_cons_zero, Act.put, List.setIfInBounds_toArray, List.set_cons_zero, List.set_cons_succ])
                  refine wpAnyH_take (i := 15) (oi := _) (v := ?v25) rfl (by kernel_rfl) (by kernel_rfl) (by kernel_rfl) (fun _ _ _ h => h) (Or.inl ⟨by rfl, ?hy25⟩) (by assumption) ?rest25
                  case hy25 => (intro w hSw; (try dsimp only at hSw); go_simp; first | done | with_reducible rfl)
                  (try simp only [List.getElem_toArray, List.getElem_cons_succ, List.getElem_cons_zero, Act.put, List.setIfInBounds_toArray, List.set_cons_zero, List.set_cons_succ])
                  refine wpAnyH_take (i := 16) (oi := _) (v := ?v26) rfl (by kernel_rfl) (by kernel_rfl) (by kernel_rfl) (fun _ _ _ h => h) (Or.inl ⟨by rfl, ?hy26⟩) (by assumption) ?rest26
                  case hy26 => (intro w hSw; (try dsimp only at hSw); go_simp; first | done | with_reducible rfl)
                  (try simp only [List.getElem_toArray, List.getElem_cons_succ, List.getElem_cons_zero, Act.put, List.setIfInBounds_toArray, List.set_cons_zero, List.set_cons_succ])
                  refine wpAnyH_take (i := 17) (oi := _) (v := ?v27) rfl (by kernel_rfl) (by kernel_rfl) (by kernel_rfl) (fun _ _ _ h => h) (Or.inl ⟨by rfl, ?hy27⟩) (by assumption) ?rest27
                  case hy27 => (intro w hSw; (try dsimp only at hSw); go_simp; first | done | with_reducible rfl)
                  (try simp only [List.getElem_toArray, List.getElem_cons_succ, List.getElem_cons_zero, Act.put, List.setIfInBounds_toArray, List.set_cons_zero, List.set_cons_succ])
                  refine wpAnyH_take (i := 18) (oi := _) (v := ?v28) rfl (by kernel_rfl) (by kernel_rfl) (by kernel_rfl) (fun _ _ _ h => h) (Or.inl ⟨by rfl, ?hy28⟩) (by assumption) ?rest28
                  case hy28 => (intro w hSw; (try dsimp only at hSw); go_simp; first | done | with_reducible rfl)
                  (try simp only [List.getElem_toArray, List.getElem_cons_succ, List.getElem_cons_zero, Act.put, List.setIfInBounds_toArray, List.set_cons_zero, List.set_cons_succ])
                  refine wpAnyH_take (i := 19) (oi := _) (v := ?v29) rfl (by kernel_rfl) (by kernel_rfl) (by kernel_rfl) (fun _ _ _ h => h) (Or.inl ⟨by rfl, ?hy29⟩) (by assumption) ?rest29
                  case hy29 => (intro w hSw; (try dsimp only at hSw); go_simp; first | done | with_reducible rfl)
                  (try simp only [List.getElem_toArray, List.getElem_cons_succ, List.getElem_cons_zero, Act.put, List.setIfInBounds_toArray, List.set_cons_zero, List.set_cons_succ])
                  refine wpAnyH_take (i := 20) (oi := _) (v := ?v30) rfl (by kernel_rfl) (by kernel_rfl) (by kernel_rfl) (fun _ _ _ h => h) (Or.inl ⟨by rfl, ?hy30⟩) (by assumption) ?rest30
                  case hy30 => (intro w hSw; (try dsimp only at hSw); go_simp; first | done | with_reducible rfl)
                  (try simp only [List.getElem_toArray, List.getElem_cons_succ, List.getElem_cons_zero, Act.put, List.setIfInBounds_toArray, List.set_cons_zero, List.set_cons_succ])
                  refine wpAnyH_take (i := 21) (oi := _) (v := ?v31) rfl (by kernel_rfl) (by kernel_rfl) (by kernel_rfl) (fun _ _ _ h => h) (Or.inl ⟨by rfl, ?hy31⟩) (by assumption) ?rest31
                  case hy31 => (intro w hSw; (try dsimp only at hSw); go_simp; first | done | with_reducible rfl)
                  (try simp only [List.getElem_toArray, List.getElem_cons_succ, List.getElem_cons_zero, Act.put, List.setIfInBounds_toArray, List.set_cons_zero, List.set_cons_succ])
                  refine wpAnyH_take (i := 23) (oi := _) (v := ?v32) rfl (by kernel_rfl) (by kernel_rfl) (by kernel_rfl) (fun _ _ _ h => h) (Or.inl ⟨by rfl, ?hy32⟩) (by assumption) ?rest32
                  case hy32 => (intro w hSw; (try dsimp only at hSw); go_simp; first | done | with_reducible rfl)
                  (try simp only [List.getElem_toArray, List.getElem_cons_succ, List.getElem_cons_zero, Act.put, List.setIfInBounds_toArray, List.set_cons_zero, List.set_cons_succ])
                  refine wpAnyH_take (i := 24) (oi := _) (v := ?v33) rfl (by kernel_rfl) (by kernel_rfl) (by kernel_rfl) (fun _ _ _ h => h) (Or.inl ⟨by rfl, ?hy33⟩) (by assumption) ?rest33
                  case hy33 => (intro w hSw; (try dsimp only at hSw); go_simp; first | done | with_reducible rfl)
                  (try simp only [List.getElem_toArray, List.getElem_cons_succ, List.getElem_cons_zero, Act.put, List.setIfInBounds_toArray, List.set_cons_zero, List.set_cons_succ])
                  refine wpAnyH_take (i := 25) (oi := _) (v := ?v34) rfl (by kernel_rfl) (by kernel_rfl) (by kernel_rfl) (fun _ _ _ h => h) (Or.inl ⟨by rfl, ?hy34⟩) (by assumption) ?rest34
                  case hy34 => (intro w hSw; (try dsimp only at hSw); go_simp; first | done | with_reducible rfl)
                  (try simp only [List.getElem_toArray, List.getElem_cons_succ, List.getElem_cons_zero, Act.put, List.setIfInBounds_toArray, List.set_cons_zero, List.set_cons_succ])
                  refine wpAnyH_ready (rs := [22]) (by kernel_rfl) (by simp) ?_
                  refine AllReadyH.cons (o := _) rfl (fun K hK => ?st35) ?mo35
                  case st35 =>
                    go_simp
                    ((go_at_call 57; (with_reducible refine (bp_able t (H_hk3.out.grows (by (repeat' (first | (with_reducible exact Vg.Grows.refl _) | (with_reducible assumption) | (with_reducible refine Vg.Grows.alloc ?_ _) | (with_reducible refine Vg.Grows.plus ?_ _ _) | (with_reducible refine Vg.Grows.drewN ?_ _) | (with_reducible refine Vg.Grows.drew ?_) | (with_reducible refine Vg.Grows.setCell ?_ ?_ _) | (with_reducible refine Vg.Grows.put ?_ ?_ _) | omega | (simp; omega) | (simp; done))))) H_hab.out).mono ?_); rintro e w5' ⟨rfl, rfl⟩))
                    all_goals (try go_wp2_with fail)
                    refine hK.out _ _ (by go_split_ands <;> (try dsimp only) <;> go_simp) (fun hHeld35 => ?_)
                    clear hK K
                    (try simp only [List.getElem_toArray, List.getElem_cons_succ, List.getElem_cons_zero, Act.put, List.setIfInBounds_toArray, List.set_cons_zero, List.set_cons_succ])
                    refine wpAnyH_ready (rs := [26]) (by kernel_rfl) (by simp) ?_
                    refine AllReadyH.cons (o := _) rfl (fun K hK => ?st36) ?mo36
                    case st36 =>
                      go_simp
                      ((go_at_call 58; (with_reducible refine (br_able t (H_hk3.out.grows (by (repeat' (first | (with_reducible exact Vg.Grows.refl _) | (with_reducible assumption) | (with_reducible refine Vg.Grows.alloc ?_ _) | (with_reducible refine Vg.Grows.plus ?_ _ _) | (with_reducible refine Vg.Grows.drewN ?_ _) | (with_reducible refine Vg.Grows.drew ?_) | (with_reducible refine Vg.Grows.setCell ?_ ?_ _) | (with_reducible refine Vg.Grows.put ?_ ?_ _) | omega | (simp; omega) | (simp; done))))) H_hI3.out H_hab2.out).mono ?_); rintro e w6' ⟨rfl, x6, m6, rfl⟩))
                      all_goals (try go_wp2_with fail)
                      refine hK.out _ _ (by go_split_ands <;> (try dsimp only) <;> go_simp) (fun hHeld36 => ?_)
                      clear hK K
                      (try simp only [List.getElem_toArray, List.getElem_cons_succ, List.getElem_cons_zero, Act.put, List.setIfInBounds_toArray, List.set_cons_zero, List.set_cons_succ])
                      refine wpAnyH_take (i := 27) (oi := _) (v := ?v37) rfl (by kernel_rfl) (by kernel_rfl) (by kernel_rfl) (fun _ _ _ h => h) (Or.inl ⟨by rfl, ?hy37⟩) (by assumption) ?rest37
                      case hy37 => (intro w hSw; (try dsimp only at hSw); go_simp; first | done | with_reducible rfl)
                      (try simp only [List.getElem_toArray, List.getElem_cons_succ, List.getElem_cons_zero, Act.put, List.setIfInBounds_toArray, List.set_cons_zero, List.set_cons_succ])
                      refine wpAnyH_take (i := 28) (oi := _) (v := ?v38) rfl (by kernel_rfl) (by kernel_rfl) (by kernel_rfl) (fun _ _ _ h => h) (Or.inl ⟨by rfl, ?hy38⟩) (by assumption) ?rest38
                      case hy38 => (intro w hSw; (try dsimp only at hSw); go_simp; first | done | with_reducible rfl)
                      (try simp only [List.getElem_toArray, List.getElem_cons_succ, List.getElem_cons_zero, Act.put, List.setIfInBounds_toArray, List.set_cons_zero, List.set_cons_succ])
                      refine wpAnyH_take (i := 29) (oi := _) (v := ?v39) rfl (by kernel_rfl) (by kernel_rfl) (by kernel_rfl) (fun _ _ _ h => h) (Or.inl ⟨by rfl, ?hy39⟩) (by assumption) ?rest39
                      case hy39 => (intro w hSw; (try dsimp only at hSw); go_simp; first | done | with_reducible rfl)
                      (try simp only [List.getElem_toArray, List.getElem_cons_succ, List.getElem_cons_zero, Act.put, List.setIfInBounds_toArray, List.set_cons_zero, List.set_cons_succ])
                      refine wpAnyH_take (i := 30) (oi := _) (v := ?v40) rfl (by kernel_rfl) (by kernel_rfl) (by kernel_rfl) (fun _ _ _ h => h) (Or.inl ⟨by rfl, ?hy40⟩) (by assumption) ?rest40
                      case hy40 => (intro w hSw; (try dsimp only at hSw); go_simp; first | done | with_reducible rfl)
                      (try simp only [List.getElem_toArray, List.getElem_cons_succ, List.getElem_cons_zero, Act.put, List.setIfInBounds_toArray, List.set_cons_zero, List.set_cons_succ])
                      refine wpAnyH_take (i := 31) (oi := _) (v := ?v41) rfl (by kernel_rfl) (by kernel_rfl) (by kernel_rfl) (fun _ _ _ h => h) (Or.inl ⟨by rfl, ?hy41⟩) (by assumption) ?rest41
                      case hy41 => (intro w hSw; (try dsimp only at hSw); go_simp; first | done | with_reducible rfl)
                      (try simp only [List.getElem_toArray, List.getElem_cons_succ, List.getElem_cons_zero, Act.put, List.setIfInBounds_toArray, List.set_cons_zero, List.set_cons_succ])
                      refine wpAnyH_take (i := 32) (oi := _) (v := ?v42) rfl (by kernel_rfl) (by kernel_rfl) (by kernel_rfl) (fun _ _ _ h => h) (Or.inl ⟨by rfl, ?hy42⟩) (by assumption) ?rest42
                      case hy42 => (intro w hSw; (try dsimp only at hSw); go_simp; first | done | with_reducible rfl)
                      (try simp only [List.getElem_toArray, List.getElem_cons_succ, List.getElem_cons_zero, Act.put, List.setIfInBounds_toArray, List.set_cons_zero, List.set_cons_succ])
                      refine wpAnyH_take (i := 34) (oi := _) (v := ?v43) rfl (by kernel_rfl) (by kernel_rfl) (by kernel_rfl) (fun _ _ _ h => h) (Or.inl ⟨by rfl, ?hy43⟩) (by assumption) ?rest43
                      case hy43 => (intro w hSw; (try dsimp only at hSw); go_simp; first | done | with_reducible rfl)
                      (try simp only [List.getElem_toArray, List.getElem_cons_succ, List.getElem_cons_zero, Act.put, List.setIfInBounds_toArray, List.set_cons_zero, List.set_cons_succ])
                      refine wpAnyH_take (i := 35) (oi := _) (v := ?v44) rfl (by kernel_rfl) (by kernel_rfl) (by kernel_rfl) (fun _ _ _ h => h) (Or.inl ⟨by rfl, ?hy44⟩) (by assumption) ?rest44
                      case hy44 => (intro w hSw; (try dsimp only at hSw); go_simp; first | done | with_reducible rfl)
                      (try simp only [List.getElem_toArray, List.getElem_cons_succ, List.getElem_cons_zero, Act.put, List.setIfInBounds_toArray, List.set_cons_zero, List.set_cons_succ])
                      refine wpAnyH_take (i := 36) (oi := _) (v := ?v45) rfl (by kernel_rfl) (by kernel_rfl) (by kernel_rfl) (fun _ _ _ h => h) (Or.inl ⟨by rfl, ?hy45⟩) (by assumption) ?rest45
                      case hy45 => (intro w hSw; (try dsimp only at hSw); go_simp; first | done | with_reducible rfl)
                      (try simp only [List.getElem_toArray, List.getElem_cons_succ, List.getElem_cons_zero, Act.put, List.setIfInBounds_toArray, List.set_cons_zero, List.set_cons_succ])
                      refine wpAnyH_ready (rs := [33]) (by kernel_rfl) (by simp) ?_
                      refine AllReadyH.cons (o := _) rfl (fun K hK => ?st46) ?mo46
                      case st46 =>
                        go_simp
                        ((go_at_call 59; (with_reducible refine (bp_left t (H_hk3.out.grows (by (repeat' (first | (with_reducible exact Vg.Grows.refl _) | (with_reducible assumption) | (with_reducible refine Vg.Grows.alloc ?_ _) | (with_reducible refine Vg.Grows.plus ?_ _ _) | (with_reducible refine Vg.Grows.drewN ?_ _) | (with_reducible refine Vg.Grows.drew ?_) | (with_reducible refine Vg.Grows.setCell ?_ ?_ _) | (with_reducible refine Vg.Grows.put ?_ ?_ _) | omega | (simp; omega) | (simp; done))))) H_hlf.out).mono ?_); rintro e w7' ⟨rfl, m7, rfl⟩))
                        all_goals (try go_wp2_with fail)
                        refine hK.out _ _ (by go_split_ands <;> (try dsimp only) <;> go_simp) (fun hHeld46 => ?_)
                        clear hK K
                        (try simp only [List.getElem_toArray, List.getElem_cons_succ, List.getElem_cons_zero, Act.put, List.setIfInBounds_toArray, List.set_cons_zero, List.set_cons_succ])
                        refine wpAnyH_ready (rs := [37]) (by kernel_rfl) (by simp) ?_
                        refine AllReadyH.cons (o := _) rfl (fun K hK => ?st47) ?mo47
                        case st47 =>
                          go_simp
                          ((go_at_call 45; (with_reducible refine (br_left t (H_hk3.out.grows (by (repeat' (first | (with_reducible exact Vg.Grows.refl _) | (with_reducible assumption) | (with_reducible refine Vg.Grows.alloc ?_ _) | (with_reducible refine Vg.Grows.plus ?_ _ _) | (with_reducible refine Vg.Grows.drewN ?_ _) | (with_reducible refine Vg.Grows.drew ?_) | (with_reducible refine Vg.Grows.setCell ?_ ?_ _) | (with_reducible refine Vg.Grows.put ?_ ?_ _) | omega | (simp; omega) | (simp; done))))) H_hI3.out H_hlf2.out).mono ?_); rintro e w8' ⟨rfl, x8, m8, rfl⟩))
                          all_goals (try go_wp2_with fail)
                          refine hK.out _ _ (by go_split_ands <;> (try dsimp only) <;> go_simp) (fun hHeld47 => ?_)
                          clear hK K
                          (try simp only [List.getElem_toArray, List.getElem_cons_succ, List.getElem_cons_zero, Act.put, List.setIfInBounds_toArray, List.set_cons_zero, List.set_cons_succ])
                          refine wpAnyH_take (i := 38) (oi := _) (v := ?v48) rfl (by kernel_rfl) (by kernel_rfl) (by kernel_rfl) (fun _ _ _ h => h) (Or.inl ⟨by rfl, ?hy48⟩) (by assumption) ?rest48
                          case hy48 => (intro w hSw; (try dsimp only at hSw); go_simp; first | done | with_reducible rfl)
                          (try simp only [List.getElem_toArray, List.getElem_cons_succ, List.getElem_cons_zero, Act.put, List.setIfInBounds_toArray, List.set_cons_zero, List.set_cons_succ])
                          refine wpAnyH_take (i := 39) (oi := _) (v := ?v49) rfl (by kernel_rfl) (by kernel_rfl) (by kernel_rfl) (fun _ _ _ h => h) (Or.inl ⟨by rfl, ?hy49⟩) (by assumption) ?rest49
                          case hy49 => (intro w hSw; (try dsimp only at hSw); go_simp; first | done | with_reducible rfl)
                          (try simp only [List.getElem_toArray, List.getElem_cons_succ, List.getElem_cons_zero, Act.put, List.setIfInBounds_toArray, List.set_cons_zero, List.set_cons_succ])
                          refine wpAnyH_done (by kernel_rfl) ?_ _
                          go_wp2_with fail
                          go_meet
                          exact ⟨by first | rfl | simp, H_hk3.out.grows (by (repeat' (first | (with_reducible exact Vg.Grows.refl _) | (with_reducible assumption) | (with_reducible refine Vg.Grows.alloc ?_ _) | (with_reducible refine Vg.Grows.plus ?_ _ _) | (with_reducible refine Vg.Grows.drewN ?_ _) | (with_reducible refine Vg.Grows.drew ?_) | (with_reducible refine Vg.Grows.setCell ?_ ?_ _) | (with_reducible refine Vg.Grows.put ?_ ?_ _) | omega | (simp; omega) | (simp; done))))⟩
                        exact AllReadyH.nil
                      exact AllReadyH.nil
                    exact AllReadyH.nil
                  exact AllReadyH.nil
              case rest =>
                as_aux_lemma =>
                  obtain ⟨rfl, hk4⟩ := hcut
                  have j7 := hk4.blk (g := b7) (o := rbC (.slice ta3 n tc3) (.slice sa3 n sc3) (.slice wa3 q3 wc3)) (by simp)
                  have jx := hk4.blk (g := bx) (o := act18 kd' t xn' xa') (by simp)
                  clear c_g7 f_g7 p_g7 c_gx f_gx p_gx
                  clear l_g7 l_gx
                  have c_j7 := Vg.cells_of j7; have f_j7 := Vg.frozen_of j7; have p_j7 := Vg.setCell_of j7; have l_j7 := Vg.lt_of j7; have H_j7 := Lib.hid j7; clear j7; have c_jx := Vg.cells_of jx; have f_jx := Vg.frozen_of jx; have p_jx := Vg.setCell_of jx; have l_jx := Vg.lt_of jx; have H_jx := Lib.hid jx; clear jx
                  by_cases hin : 0 ≤ t ∧ t < (n : Int)
                  · obtain ⟨t, rfl⟩ : ∃ i : Nat, t = i := ⟨t.toNat, by omega⟩
                    have hiB : t < Bs'.length := by rw [H_hBl'.out]; omega
                    have hQ3 : Q3 = Q' := H_hr3.out.eq (by omega)
                    have hiQ : t < Q3.length := by rw [hQ3]; exact (H_hI'.out.at t hiB).2
                    obtain ⟨F, hF⟩ := hk4.rf
                    obtain ⟨g, o, u, uc, rfl, hg, w1', w2', w3', hc1, hc2⟩ := hF.atW hiQ
                    have hhas : decide ((0 : Int) ≤ (t : Int) ∧ (t : Int) < (n : Int)) = true := by simp; omega
                    obtain ⟨N, hN⟩ : ∃ N, Q3[t].L.length = N := ⟨_, rfl⟩
                    obtain ⟨lo, hlo⟩ : ∃ x, Q3[t].lost = x := ⟨_, rfl⟩
                    have ewt : Vg.Bo.wait n Q' t = (N : Int) := by rw [Vg.Bo.wait_in (by omega), ← hQ3, Vg.Wk.waiting_in hiQ, hN]
                    have els : Vg.Bo.lost n Q' t = lo := by rw [Vg.Bo.lost_in (by omega), ← hQ3, Vg.Wk.lost_in hiQ, hlo]
                    rw [hN] at hc1
                    rw [hlo] at hc2
                    have hi2 : (t : Int) < q3 := by omega
                    have hi0 : (0 : Int) ≤ t := by omega
                    clear hin
                    have H_hk4 := Lib.hid hk4; clear hk4; have H_hhas := Lib.hid hhas; clear hhas; have H_ewt := Lib.hid ewt; clear ewt; have H_els := Lib.hid els; clear els; have H_hN := Lib.hid hN; clear hN; have H_hlo := Lib.hid hlo; clear hlo; have H_hQ3 := Lib.hid hQ3; clear hQ3; have H_hF := Lib.hid hF; clear hF
                    go_upto_region 46 with fail
                    refine wp_region_held_drew (S := fun w' => b7 < w'.heap.size ∧ bx < w'.heap.size ∧ g < w'.heap.size ∧ w'.cell? ⟨b7, 0, none⟩ = some (.slice ta3 n tc3) ∧ w'.cell? ⟨b7, 1, none⟩ = some (.slice sa3 n sc3) ∧ w'.cell? ⟨b7, 2, none⟩ = some (.slice (some ⟨g, o, none⟩) q3 wc3) ∧ w'.cell? ⟨bx, 1, none⟩ = some (.int .i64 (t : Int)) ∧ w'.cell? ⟨g, o + t * 3 + 1, none⟩ = some (.slice u N uc) ∧ w'.cell? ⟨g, o + t * 3 + 2, none⟩ = some (.int .i64 lo)) (by kernel_rfl) (by go_split_ands <;> (try dsimp only) <;> go_simp) (fun hHeld => ?_)
                    refine wpAnyH_take (i := 0) (oi := _) (v := ?v50) rfl (by kernel_rfl) (by kernel_rfl) (by kernel_rfl) (fun _ _ _ h => h) (Or.inl ⟨by rfl, ?hy50⟩) (by assumption) ?rest50
                    case hy50 => (intro w hSw; (try dsimp only at hSw); go_simp; first | done | with_reducible rfl)
                    (try simp only [List.getElem_toArray, List.getElem_cons_succ, List.getElem_cons_zero, Act.put, List.setIfInBounds_toArray, List.set_cons_zero, List.set_cons_succ])
                    refine wpAnyH_take (i := 1) (oi := _) (v := ?v51) rfl (by kernel_rfl) (by kernel_rfl) (by kernel_rfl) (fun _ _ _ h => h) (Or.inl ⟨by rfl, ?hy51⟩) (by assumption) ?rest51
                    case hy51 => (intro w hSw; (try dsimp only at hSw); go_simp; first | done | with_reducible rfl)
                    (try simp only [List.getElem_toArray, List.getElem_cons_succ, List.getElem_cons_zero, Act.put, List.setIfInBounds_toArray, List.set_cons_zero, List.set_cons_succ])
                    refine wpAnyH_take (i := 2) (oi := _) (v := ?v52) rfl (by kernel_rfl) (by kernel_rfl) (by kernel_rfl) (fun _ _ _ h => h) (Or.inl ⟨by rfl, ?hy52⟩) (by assumption) ?rest52
                    case hy52 => (intro w hSw; (try dsimp only at hSw); go_simp; first | done | with_reducible rfl)
                    (try simp only [List.getElem_toArray, List.getElem_cons_succ, List.getElem_cons_zero, Act.put, List.setIfInBounds_toArray, List.set_cons_zero, List.set_cons_succ])
                    refine wpAnyH_ready (rs := [3]) (by kernel_rfl) (by simp) ?_
                    refine AllReadyH.cons (o := _) rfl (fun K hK => ?st53) ?mo53
                    case st53 =>
                      go_simp
                      ((go_at_call 60; (with_reducible refine (br_has (t : Int) (H_hk4.out.grows (by (repeat' (first | (with_reducible exact Vg.Grows.refl _) | (with_reducible assumption) | (with_reducible refine Vg.Grows.alloc ?_ _) | (with_reducible refine Vg.Grows.plus ?_ _ _) | (with_reducible refine Vg.Grows.drewN ?_ _) | (with_reducible refine Vg.Grows.drew ?_) | (with_reducible refine Vg.Grows.setCell ?_ ?_ _) | (with_reducible refine Vg.Grows.put ?_ ?_ _) | omega | (simp; omega) | (simp; done))))) H_hBl'.out H_hhas.out).mono ?_); rintro e w5' ⟨rfl, x5, m5, rfl⟩))
                      all_goals (try go_wp2_with fail)
                      refine hK.out _ _ (by go_split_ands <;> (try dsimp only) <;> go_simp) (fun hHeld53 => ?_)
                      clear hK K
                      (try simp only [List.getElem_toArray, List.getElem_cons_succ, List.getElem_cons_zero, Act.put, List.setIfInBounds_toArray, List.set_cons_zero, List.set_cons_succ])
                      refine wpAnyH_take (i := 4) (oi := _) (v := ?v54) rfl (by kernel_rfl) (by kernel_rfl) (by kernel_rfl) (fun _ _ _ h => h) (Or.inl ⟨by rfl, ?hy54⟩) (by assumption) ?rest54
                      case hy54 => (intro w hSw; (try dsimp only at hSw); go_simp; first | done | with_reducible rfl)
                      (try simp only [List.getElem_toArray, List.getElem_cons_succ, List.getElem_cons_zero, Act.put, List.setIfInBounds_toArray, List.set_cons_zero, List.set_cons_succ])
                      refine wpAnyH_take (i := 5) (oi := _) (v := ?v55) rfl (by kernel_rfl) (by kernel_rfl) (by kernel_rfl) (fun _ _ _ h => h) (Or.inl ⟨by rfl, ?hy55⟩) (by assumption) ?rest55
                      case hy55 => (intro w hSw; (try dsimp only at hSw); go_simp; first | done | with_reducible rfl)
                      (try simp only [List.getElem_toArray, List.getElem_cons_succ, List.getElem_cons_zero, Act.put, List.setIfInBounds_toArray, List.set_cons_zero, List.set_cons_succ])
                      refine wpAnyH_take (i := 6) (oi := _) (v := ?v56) rfl (by kernel_rfl) (by kernel_rfl) (by kernel_rfl) (fun _ _ _ h => h) (Or.inl ⟨by rfl, ?hy56⟩) (by assumption) ?rest56
                      case hy56 => (intro w hSw; (try dsimp only at hSw); go_simp; first | done | with_reducible rfl)
                      (try simp only [List.getElem_toArray, List.getElem_cons_succ, List.getElem_cons_zero, Act.put, List.setIfInBounds_toArray, List.set_cons_zero, List.set_cons_succ])
                      refine wpAnyH_take (i := 7) (oi := _) (v := ?v57) rfl (by kernel_rfl) (by kernel_rfl) (by kernel_rfl) (fun _ _ _ h => h) (Or.inl ⟨by rfl, ?hy57⟩) (by assumption) ?rest57
                      case hy57 => (intro w hSw; (try dsimp only at hSw); go_simp; first | done | with_reducible rfl)
                      (try simp only [List.getElem_toArray, List.getElem_cons_succ, List.getElem_cons_zero, Act.put, List.setIfInBounds_toArray, List.set_cons_zero, List.set_cons_succ])
                      refine wpAnyH_take (i := 9) (oi := _) (v := ?v58) rfl (by kernel_rfl) (by kernel_rfl) (by kernel_rfl) (fun _ _ _ h => h) (Or.inl ⟨by rfl, ?hy58⟩) (by assumption) ?rest58
                      case hy58 => (intro w hSw; (try dsimp only at hSw); go_simp; first | done | with_reducible rfl)
                      (try simp only [List.getElem_toArray, List.getElem_cons_succ, List.getElem_cons_zero, Act.put, List.setIfInBounds_toArray, List.set_cons_zero, List.set_cons_succ])
                      refine wpAnyH_take (i := 10) (oi := _) (v := ?v59) rfl (by kernel_rfl) (by kernel_rfl) (by kernel_rfl) (fun _ _ _ h => h) (Or.inl ⟨by rfl, ?hy59⟩) (by assumption) ?rest59
                      case hy59 => (intro w hSw; (try dsimp only at hSw); go_simp; first | done | with_reducible rfl)
                      (try simp only [List.getElem_toArray, List.getElem_cons_succ, List.getElem_cons_zero, Act.put, List.setIfInBounds_toArray, List.set_cons_zero, List.set_cons_succ])
                      refine wpAnyH_take (i := 11) (oi := _) (v := ?v60) rfl (by kernel_rfl) (by kernel_rfl) (by kernel_rfl) (fun _ _ _ h => h) (Or.inl ⟨by rfl, ?hy60⟩) (by assumption) ?rest60
                      case hy60 => (intro w hSw; (try dsimp only at hSw); go_simp; first | done | with_reducible rfl)
                      (try simp only [List.getElem_toArray, List.getElem_cons_succ, List.getElem_cons_zero, Act.put, List.setIfInBounds_toArray, List.set_cons_zero, List.set_cons_succ])
                      refine wpAnyH_take (i := 12) (oi := _) (v := ?v61) rfl (by kernel_rfl) (by kernel_rfl) (by kernel_rfl) (fun _ _ _ h => h) (Or.inl ⟨by rfl, ?hy61⟩) (by assumption) ?rest61
                      case hy61 => (intro w hSw; (try dsimp only at hSw); go_simp; first | done | with_reducible rfl)
                      (try simp only [List.getElem_toArray, List.getElem_cons_succ, List.getElem_cons_zero, Act.put, List.setIfInBounds_toArray, List.set_cons_zero, List.set_cons_succ])
                      refine wpAnyH_take (i := 13) (oi := _) (v := ?v62) rfl (by kernel_rfl) (by kernel_rfl) (by kernel_rfl) (fun _ _ _ h => h) (Or.inl ⟨by rfl, ?hy62⟩) (by assumption) ?rest62
                      case hy62 => (intro w hSw; (try dsimp only at hSw); go_simp; first | done | with_reducible rfl)
                      (try simp only [List.getElem_toArray, List.getElem_cons_succ, List.getElem_cons_zero, Act.put, List.setIfInBounds_toArray, List.set_cons_zero, List.set_cons_succ])
                      refine wpAnyH_take (i := 14) (oi := _) (v := ?v63) rfl (by kernel_rfl) (by kernel_rfl) (by kernel_rfl) (fun _ _ _ h => h) (Or.inl ⟨by rfl, ?hy63⟩) (by assumption) ?rest63
                      case hy63 => (intro w hSw; (try dsimp only at hSw); go_simp; first | done | with_reducible rfl)
                      (try simp only [List.getElem_toArray, List.getElem_cons_succ, List.getElem_cons_zero, Act.put, List.setIfInBounds_toArray, List.set_cons_zero, List.set_cons_succ])
                      refine wpAnyH_take (i := 15) (oi := _) (v := ?v64) rfl (by kernel_rfl) (by kernel_rfl) (by kernel_rfl) (fun _ _ _ h => h) (Or.inl ⟨by rfl, ?hy64⟩) (by assumption) ?rest64
                      case hy64 => (intro w hSw; (try dsimp only at hSw); go_simp; first | done | with_reducible rfl)
                      (try simp only [List.getElem_toArray, List.getElem_cons_succ, List.getElem_cons_zero, Act.put, List.setIfInBounds_toArray, List.set_cons_zero, List.set_cons_succ])
                      refine wpAnyH_take (i := 16) (oi := _) (v := ?v65) rfl (by kernel_rfl) (by kernel_rfl) (by kernel_rfl) (fun _ _ _ h => h) (Or.inl ⟨by rfl, ?hy65⟩) (by assumption) ?rest65
                      case hy65 => (intro w hSw; (try dsimp only at hSw); go_simp; first | done | with_reducible rfl)
                      (try simp only [List.getElem_toArray, List.getElem_cons_succ, List.getElem_cons_zero, Act.put, List.setIfInBounds_toArray, List.set_cons_zero, List.set_cons_succ])
                      refine wpAnyH_ready (rs := [8]) (by kernel_rfl) (by simp) ?_
                      refine AllReadyH.cons (o := _) rfl (fun K hK => ?st66) ?mo66
                      case st66 =>
                        go_simp
                        ((go_at_call 61; (with_reducible refine (bp_wait (t : Int) (H_hk4.out.grows (by (repeat' (first | (with_reducible exact Vg.Grows.refl _) | (with_reducible assumption) | (with_reducible refine Vg.Grows.alloc ?_ _) | (with_reducible refine Vg.Grows.plus ?_ _ _) | (with_reducible refine Vg.Grows.drewN ?_ _) | (with_reducible refine Vg.Grows.drew ?_) | (with_reducible refine Vg.Grows.setCell ?_ ?_ _) | (with_reducible refine Vg.Grows.put ?_ ?_ _) | omega | (simp; omega) | (simp; done))))) H_hBl'.out H_ewt.out).mono ?_); rintro e w6' ⟨rfl, rfl⟩))
                        all_goals (try go_wp2_with fail)
                        refine hK.out _ _ (by go_split_ands <;> (try dsimp only) <;> go_simp) (fun hHeld66 => ?_)
                        clear hK K
                        (try simp only [List.getElem_toArray, List.getElem_cons_succ, List.getElem_cons_zero, Act.put, List.setIfInBounds_toArray, List.set_cons_zero, List.set_cons_succ])
                        refine wpAnyH_take (i := 17) (oi := _) (v := ?v67) rfl (by kernel_rfl) (by kernel_rfl) (by kernel_rfl) (fun _ _ _ h => h) (Or.inl ⟨by rfl, ?hy67⟩) (by assumption) ?rest67
                        case hy67 => (intro w hSw; (try dsimp only at hSw); go_simp; first | done | with_reducible rfl)
                        (try simp only [List.getElem_toArray, List.getElem_cons_succ, List.getElem_cons_zero, Act.put, List.setIfInBounds_toArray, List.set_cons_zero, List.set_cons_succ])
                        refine wpAnyH_take (i := 18) (oi := _) (v := ?v68) rfl (by kernel_rfl) (by kernel_rfl) (by kernel_rfl) (fun _ _ _ h => h) (Or.inl ⟨by rfl, ?hy68⟩) (by assumption) ?rest68
                        case hy68 => (intro w hSw; (try dsimp only at hSw); go_simp; first | done | with_reducible rfl)
                        (try simp only [List.getElem_toArray, List.getElem_cons_succ, List.getElem_cons_zero, Act.put, List.setIfInBounds_toArray, List.set_cons_zero, List.set_cons_succ])
                        refine wpAnyH_take (i := 19) (oi := _) (v := ?v69) rfl (by kernel_rfl) (by kernel_rfl) (by kernel_rfl) (fun _ _ _ h => h) (Or.inl ⟨by rfl, ?hy69⟩) (by assumption) ?rest69
                        case hy69 => (intro w hSw; (try dsimp only at hSw); go_simp; first | done | with_reducible rfl)
                        (try simp only [List.getElem_toArray, List.getElem_cons_succ, List.getElem_cons_zero, Act.put, List.setIfInBounds_toArray, List.set_cons_zero, List.set_cons_succ])
                        refine wpAnyH_take (i := 20) (oi := _) (v := ?v70) rfl (by kernel_rfl) (by kernel_rfl) (by kernel_rfl) (fun _ _ _ h => h) (Or.inl ⟨by rfl, ?hy70⟩) (by assumption) ?rest70
                        case hy70 => (intro w hSw; (try dsimp only at hSw); go_simp; first | done | with_reducible rfl)
                        (try simp only [List.getElem_toArray, List.getElem_cons_succ, List.getElem_cons_zero, Act.put, List.setIfInBounds_toArray, List.set_cons_zero, List.set_cons_succ])
                        refine wpAnyH_take (i := 21) (oi := _) (v := ?v71) rfl (by kernel_rfl) (by kernel_rfl) (by kernel_rfl) (fun _ _ _ h => h) (Or.inl ⟨by rfl, ?hy71⟩) (by assumption) ?rest71
                        case hy71 => (intro w hSw; (try dsimp only at hSw); go_simp; first | done | with_reducible rfl)
                        (try simp only [List.getElem_toArray, List.getElem_cons_succ, List.getElem_cons_zero, Act.put, List.setIfInBounds_toArray, List.set_cons_zero, List.set_cons_succ])
                        refine wpAnyH_take (i := 23) (oi := _) (v := ?v72) rfl (by kernel_rfl) (by kernel_rfl) (by kernel_rfl) (fun _ _ _ h => h) (Or.inl ⟨by rfl, ?hy72⟩) (by assumption) ?rest72
                        case hy72 => (intro w hSw; (try dsimp only at hSw); go_simp; first | done | with_reducible rfl)
                        (try simp only [List.getElem_toArray, List.getElem_cons_succ, List.getElem_cons_zero, Act.put, List.setIfInBounds_toArray, List.set_cons_zero, List.set_cons_succ])
                        refine wpAnyH_take (i := 24) (oi := _) (v := ?v73) rfl (by kernel_rfl) (by kernel_rfl) (by kernel_rfl) (fun _ _ _ h => h) (Or.inl ⟨by rfl, ?hy73⟩) (by assumption) ?rest73
                        case hy73 => (intro w hSw; (try dsimp only at hSw); go_simp; first | done | with_reducible rfl)
                        (try simp only [List.getElem_toArray, List.getElem_cons_succ, List.getElem_cons_zero, Act.put, List.setIfInBounds_toArray, List.set_cons_zero, List.set_cons_succ])
                        refine wpAnyH_take (i := 25) (oi := _) (v := ?v74) rfl (by kernel_rfl) (by kernel_rfl) (by kernel_rfl) (fun _ _ _ h => h) (Or.inl ⟨by rfl, ?hy74⟩) (by assumption) ?rest74
                        case hy74 => (intro w hSw; (try dsimp only at hSw); go_simp; first | done | with_reducible rfl)
                        (try simp only [List.getElem_toArray, List.getElem_cons_succ, List.getElem_cons_zero, Act.put, List.setIfInBounds_toArray, List.set_cons_zero, List.set_cons_succ])
                        refine wpAnyH_take (i := 26) (oi := _) (v := ?v75) rfl (by kernel_rfl) (by kernel_rfl) (by kernel_rfl) (fun _ _ _ h => h) (Or.inl ⟨by rfl, ?hy75⟩) (by assumption) ?rest75
                        case hy75 => (intro w hSw; (try dsimp only at hSw); go_simp; first | done | with_reducible rfl)
                        (try simp only [List.getElem_toArray, List.getElem_cons_succ, List.getElem_cons_zero, Act.put, List.setIfInBounds_toArray, List.set_cons_zero, List.set_cons_succ])
                        refine wpAnyH_take (i := 27) (oi := _) (v := ?v76) rfl (by kernel_rfl) (by kernel_rfl) (by kernel_rfl) (fun _ _ _ h => h) (Or.inl ⟨by rfl, ?hy76⟩) (by assumption) ?rest76
                        case hy76 => (intro w hSw; (try dsimp only at hSw); go_simp; first | done | with_reducible rfl)
                        (try simp only [List.getElem_toArray, List.getElem_cons_succ, List.getElem_cons_zero, Act.put, List.setIfInBounds_toArray, List.set_cons_zero, List.set_cons_succ])
                        refine wpAnyH_take (i := 28) (oi := _) (v := ?v77) rfl (by kernel_rfl) (by kernel_rfl) (by kernel_rfl) (fun _ _ _ h => h) (Or.inl ⟨by rfl, ?hy77⟩) (by assumption) ?rest77
                        case hy77 => (intro w hSw; (try dsimp only at hSw); go_simp; first | done | with_reducible rfl)
                        (try simp only [List.getElem_toArray, List.getElem_cons_succ, List.getElem_cons_zero, Act.put, List.setIfInBounds_toArray, List.set_cons_zero, List.set_cons_succ])
                        refine wpAnyH_take (i := 29) (oi := _) (v := ?v78) rfl (by kernel_rfl) (by kernel_rfl) (by kernel_rfl) (fun _ _ _ h => h) (Or.inl ⟨by rfl, ?hy78⟩) (by assumption) ?rest78
                        case hy78 => (intro w hSw; (try dsimp only at hSw); go_simp; first | done | with_reducible rfl)
                        (try simp only [List.getElem_toArray, List.getElem_cons_succ, List.getElem_cons_zero, Act.put, List.setIfInBounds_toArray, List.set_cons_zero, List.set_cons_succ])
                        refine wpAnyH_ready (rs := [22]) (by kernel_rfl) (by simp) ?_
                        refine AllReadyH.cons (o := _) rfl (fun K hK => ?st79) ?mo79
                        case st79 =>
                          go_simp
                          ((go_at_call 62; (with_reducible refine (bp_lost (t : Int) (H_hk4.out.grows (by (repeat' (first | (with_reducible exact Vg.Grows.refl _) | (with_reducible assumption) | (with_reducible refine Vg.Grows.alloc ?_ _) | (with_reducible refine Vg.Grows.plus ?_ _ _) | (with_reducible refine Vg.Grows.drewN ?_ _) | (with_reducible refine Vg.Grows.drew ?_) | (with_reducible refine Vg.Grows.setCell ?_ ?_ _) | (with_reducible refine Vg.Grows.put ?_ ?_ _) | omega | (simp; omega) | (simp; done))))) H_hBl'.out H_els.out).mono ?_); rintro e w7' ⟨rfl, rfl⟩))
                          all_goals (try go_wp2_with fail)
                          refine hK.out _ _ (by go_split_ands <;> (try dsimp only) <;> go_simp) (fun hHeld79 => ?_)
                          clear hK K
                          (try simp only [List.getElem_toArray, List.getElem_cons_succ, List.getElem_cons_zero, Act.put, List.setIfInBounds_toArray, List.set_cons_zero, List.set_cons_succ])
                          refine wpAnyH_take (i := 30) (oi := _) (v := ?v80) rfl (by kernel_rfl) (by kernel_rfl) (by kernel_rfl) (fun _ _ _ h => h) (Or.inl ⟨by rfl, ?hy80⟩) (by assumption) ?rest80
                          case hy80 => (intro w hSw; (try dsimp only at hSw); go_simp; first | done | with_reducible rfl)
                          (try simp only [List.getElem_toArray, List.getElem_cons_succ, List.getElem_cons_zero, Act.put, List.setIfInBounds_toArray, List.set_cons_zero, List.set_cons_succ])
                          refine wpAnyH_take (i := 31) (oi := _) (v := ?v81) rfl (by kernel_rfl) (by kernel_rfl) (by kernel_rfl) (fun _ _ _ h => h) (Or.inl ⟨by rfl, ?hy81⟩) (by assumption) ?rest81
                          case hy81 => (intro w hSw; (try dsimp only at hSw); go_simp; first | done | with_reducible rfl)
                          (try simp only [List.getElem_toArray, List.getElem_cons_succ, List.getElem_cons_zero, Act.put, List.setIfInBounds_toArray, List.set_cons_zero, List.set_cons_succ])
                          refine wpAnyH_take (i := 32) (oi := _) (v := ?v82) rfl (by kernel_rfl) (by kernel_rfl) (by kernel_rfl) (fun _ _ _ h => h) (Or.inl ⟨by rfl, ?hy82⟩) (by assumption) ?rest82
                          case hy82 => (intro w hSw; (try dsimp only at hSw); go_simp; first | done | with_reducible rfl)
                          (try simp only [List.getElem_toArray, List.getElem_cons_succ, List.getElem_cons_zero, Act.put, List.setIfInBounds_toArray, List.set_cons_zero, List.set_cons_succ])
                          refine wpAnyH_done (by kernel_rfl) ?_ _
                          go_wp2_with fail
                          exact ⟨⟨k + 1, last', Bs', Q', Q3, _, _, _, _, _, _, _, by omega, by go_num, rfl, hlast', BP.sub (H_hk4.out.grows (by (repeat' (first | (with_reducible exact Vg.Grows.refl _) | (with_reducible assumption) | (with_reducible refine Vg.Grows.alloc ?_ _) | (with_reducible refine Vg.Grows.plus ?_ _ _) | (with_reducible refine Vg.Grows.drewN ?_ _) | (with_reducible refine Vg.Grows.drew ?_) | (with_reducible refine Vg.Grows.setCell ?_ ?_ _) | (with_reducible refine Vg.Grows.put ?_ ?_ _) | omega | (simp; omega) | (simp; done))))) (by simp), H_hI'.out, H_hr3.out, H_hBl'.out⟩, by simp [intOf]; omega⟩
                        exact AllReadyH.nil
                      exact AllReadyH.nil
                    exact AllReadyH.nil
                  · have hhas : decide ((0 : Int) ≤ t ∧ t < (n : Int)) = false := decide_eq_false hin
                    clear hin
                    have H_hk4 := Lib.hid hk4; clear hk4; have H_hhas := Lib.hid hhas; clear hhas
                    go_upto_region 46 with fail
                    refine wp_region_held_drew (S := fun w' => b7 < w'.heap.size ∧ bx < w'.heap.size ∧ w'.cell? ⟨b7, 0, none⟩ = some (.slice ta3 n tc3) ∧ w'.cell? ⟨b7, 1, none⟩ = some (.slice sa3 n sc3) ∧ w'.cell? ⟨b7, 2, none⟩ = some (.slice wa3 q3 wc3) ∧ w'.cell? ⟨bx, 1, none⟩ = some (.int .i64 t)) (by kernel_rfl) (by go_split_ands <;> (try dsimp only) <;> go_simp) (fun hHeld => ?_)
                    refine wpAnyH_take (i := 0) (oi := _) (v := ?v83) rfl (by kernel_rfl) (by kernel_rfl) (by kernel_rfl) (fun _ _ _ h => h) (Or.inl ⟨by rfl, ?hy83⟩) (by assumption) ?rest83
                    case hy83 => (intro w hSw; (try dsimp only at hSw); go_simp; first | done | with_reducible rfl)
                    (try simp only [List.getElem_toArray, List.getElem_cons_succ, List.getElem_cons_zero, Act.put, List.setIfInBounds_toArray, List.set_cons_zero, List.set_cons_succ])
                    refine wpAnyH_take (i := 1) (oi := _) (v := ?v84) rfl (by kernel_rfl) (by kernel_rfl) (by kernel_rfl) (fun _ _ _ h => h) (Or.inl ⟨by rfl, ?hy84⟩) (by assumption) ?rest84
                    case hy84 => (intro w hSw; (try dsimp only at hSw); go_simp; first | done | with_reducible rfl)
                    (try simp only [List.getElem_toArray, List.getElem_cons_succ, List.getElem_cons_zero, Act.put, List.setIfInBounds_toArray, List.set_cons_zero, List.set_cons_succ])
                    refine wpAnyH_take (i := 2) (oi := _) (v := ?v85) rfl (by kernel_rfl) (by kernel_rfl) (by kernel_rfl) (fun _ _ _ h => h) (Or.inl ⟨by rfl, ?hy85⟩) (by assumption) ?rest85
                    case hy85 => (intro w hSw; (try dsimp only at hSw); go_simp; first | done | with_reducible rfl)
                    (try simp only [List.getElem_toArray, List.getElem_cons_succ, List.getElem_cons_zero, Act.put, List.setIfInBounds_toArray, List.set_cons_zero, List.set_cons_succ])
                    refine wpAnyH_ready (rs := [3]) (by kernel_rfl) (by simp) ?_
                    refine AllReadyH.cons (o := _) rfl (fun K hK => ?st86) ?mo86
                    case st86 =>
                      go_simp
                      ((go_at_call 60; (with_reducible refine (br_has t (H_hk4.out.grows (by (repeat' (first | (with_reducible exact Vg.Grows.refl _) | (with_reducible assumption) | (with_reducible refine Vg.Grows.alloc ?_ _) | (with_reducible refine Vg.Grows.plus ?_ _ _) | (with_reducible refine Vg.Grows.drewN ?_ _) | (with_reducible refine Vg.Grows.drew ?_) | (with_reducible refine Vg.Grows.setCell ?_ ?_ _) | (with_reducible refine Vg.Grows.put ?_ ?_ _) | omega | (simp; omega) | (simp; done))))) H_hBl'.out H_hhas.out).mono ?_); rintro e w5' ⟨rfl, x5, m5, rfl⟩))
                      all_goals (try go_wp2_with fail)
                      refine hK.out _ _ (by go_split_ands <;> (try dsimp only) <;> go_simp) (fun hHeld86 => ?_)
                      clear hK K
                      (try simp only [List.getElem_toArray, List.getElem_cons_succ, List.getElem_cons_zero, Act.put, List.setIfInBounds_toArray, List.set_cons_zero, List.set_cons_succ])
                      refine wpAnyH_take (i := 4) (oi := _) (v := ?v87) rfl (by kernel_rfl) (by kernel_rfl) (by kernel_rfl) (fun _ _ _ h => h) (Or.inl ⟨by rfl, ?hy87⟩) (by assumption) ?rest87
                      case hy87 => (intro w hSw; (try dsimp only at hSw); go_simp; first | done | with_reducible rfl)
                      (try simp only [List.getElem_toArray, List.getElem_cons_succ, List.getElem_cons_zero, Act.put, List.setIfInBounds_toArray, List.set_cons_zero, List.set_cons_succ])
                      refine wpAnyH_take (i := 5) (oi := _) (v := undef) rfl (by kernel_rfl) (by kernel_rfl) (by kernel_rfl) (fun _ _ _ h => h) (Or.inr ⟨by kernel_rfl, rfl⟩) (by assumption) ?rest88
                      (try simp only [List.getElem_toArray, List.getElem_cons_succ, List.getElem_cons_zero, Act.put, List.setIfInBounds_toArray, List.set_cons_zero, List.set_cons_succ])
                      refine wpAnyH_take (i := 6) (oi := _) (v := undef) rfl (by kernel_rfl) (by kernel_rfl) (by kernel_rfl) (fun _ _ _ h => h) (Or.inr ⟨by kernel_rfl, rfl⟩) (by assumption) ?rest89
                      (try simp only [List.getElem_toArray, List.getElem_cons_succ, List.getElem_cons_zero, Act.put, List.setIfInBounds_toArray, List.set_cons_zero, List.set_cons_succ])
                      refine wpAnyH_take (i := 7) (oi := _) (v := undef) rfl (by kernel_rfl) (by kernel_rfl) (by kernel_rfl) (fun _ _ _ h => h) (Or.inr ⟨by kernel_rfl, rfl⟩) (by assumption) ?rest90
                      (try simp only [List.getElem_toArray, List.getElem_cons_succ, List.getElem_cons_zero, Act.put, List.setIfInBounds_toArray, List.set_cons_zero, List.set_cons_succ])
                      refine wpAnyH_take (i := 8) (oi := _) (v := undef) rfl (by kernel_rfl) (by kernel_rfl) (by kernel_rfl) (fun _ _ _ h => h) (Or.inr ⟨by kernel_rfl, rfl⟩) (by assumption) ?rest91
                      (try simp only [List.getElem_toArray, List.getElem_cons_succ, List.getElem_cons_zero, Act.put, List.setIfInBounds_toArray, List.set_cons_zero, List.set_cons_succ])
                      refine wpAnyH_take (i := 9) (oi := _) (v := undef) rfl (by kernel_rfl) (by kernel_rfl) (by kernel_rfl) (fun _ _ _ h => h) (Or.inr ⟨by kernel_rfl, rfl⟩) (by assumption) ?rest92
                      (try simp only [List.getElem_toArray, List.getElem_cons_succ, List.getElem_cons_zero, Act.put, List.setIfInBounds_toArray, List.set_cons_zero, List.set_cons_succ])
                      refine wpAnyH_take (i := 10) (oi := _) (v := undef) rfl (by kernel_rfl) (by kernel_rfl) (by kernel_rfl) (fun _ _ _ h => h) (Or.inr ⟨by kernel_rfl, rfl⟩) (by assumption) ?rest93
                      (try simp only [List.getElem_toArray, List.getElem_cons_succ, List.getElem_cons_zero, Act.put, List.setIfInBounds_toArray, List.set_cons_zero, List.set_cons_succ])
                      refine wpAnyH_take (i := 11) (oi := _) (v := undef) rfl (by kernel_rfl) (by kernel_rfl) (by kernel_rfl) (fun _ _ _ h => h) (Or.inr ⟨by kernel_rfl, rfl⟩) (by assumption) ?rest94
                      (try simp only [List.getElem_toArray, List.getElem_cons_succ, List.getElem_cons_zero, Act.put, List.setIfInBounds_toArray, List.set_cons_zero, List.set_cons_succ])
                      refine wpAnyH_take (i := 12) (oi := _) (v := undef) rfl (by kernel_rfl) (by kernel_rfl) (by kernel_rfl) (fun _ _ _ h => h) (Or.inr ⟨by kernel_rfl, rfl⟩) (by assumption) ?rest95
                      (try simp only [List.getElem_toArray, List.getElem_cons_succ, List.getElem_cons_zero, Act.put, List.setIfInBounds_toArray, List.set_cons_zero, List.set_cons_succ])
                      refine wpAnyH_take (i := 13) (oi := _) (v := undef) rfl (by kernel_rfl) (by kernel_rfl) (by kernel_rfl) (fun _ _ _ h => h) (Or.inr ⟨by kernel_rfl, rfl⟩) (by assumption) ?rest96
                      (try simp only [List.getElem_toArray, List.getElem_cons_succ, List.getElem_cons_zero, Act.put, List.setIfInBounds_toArray, List.set_cons_zero, List.set_cons_succ])
                      refine wpAnyH_take (i := 14) (oi := _) (v := undef) rfl (by kernel_rfl) (by kernel_rfl) (by kernel_rfl) (fun _ _ _ h => h) (Or.inr ⟨by kernel_rfl, rfl⟩) (by assumption) ?rest97
                      (try simp only [List.getElem_toArray, List.getElem_cons_succ, List.getElem_cons_zero, Act.put, List.setIfInBounds_toArray, List.set_cons_zero, List.set_cons_succ])
                      refine wpAnyH_take (i := 15) (oi := _) (v := undef) rfl (by kernel_rfl) (by kernel_rfl) (by kernel_rfl) (fun _ _ _ h => h) (Or.inr ⟨by kernel_rfl, rfl⟩) (by assumption) ?rest98
                      (try simp only [List.getElem_toArray, List.getElem_cons_succ, List.getElem_cons_zero, Act.put, List.setIfInBounds_toArray, List.set_cons_zero, List.set_cons_succ])
                      refine wpAnyH_take (i := 16) (oi := _) (v := undef) rfl (by kernel_rfl) (by kernel_rfl) (by kernel_rfl) (fun _ _ _ h => h) (Or.inr ⟨by kernel_rfl, rfl⟩) (by assumption) ?rest99
                      (try simp only [List.getElem_toArray, List.getElem_cons_succ, List.getElem_cons_zero, Act.put, List.setIfInBounds_toArray, List.set_cons_zero, List.set_cons_succ])
                      refine wpAnyH_take (i := 17) (oi := _) (v := undef) rfl (by kernel_rfl) (by kernel_rfl) (by kernel_rfl) (fun _ _ _ h => h) (Or.inr ⟨by kernel_rfl, rfl⟩) (by assumption) ?rest100
                      (try simp only [List.getElem_toArray, List.getElem_cons_succ, List.getElem_cons_zero, Act.put, List.setIfInBounds_toArray, List.set_cons_zero, List.set_cons_succ])
                      refine wpAnyH_take (i := 18) (oi := _) (v := undef) rfl (by kernel_rfl) (by kernel_rfl) (by kernel_rfl) (fun _ _ _ h => h) (Or.inr ⟨by kernel_rfl, rfl⟩) (by assumption) ?rest101
                      (try simp only [List.getElem_toArray, List.getElem_cons_succ, List.getElem_cons_zero, Act.put, List.setIfInBounds_toArray, List.set_cons_zero, List.set_cons_succ])
                      refine wpAnyH_take (i := 19) (oi := _) (v := undef) rfl (by kernel_rfl) (by kernel_rfl) (by kernel_rfl) (fun _ _ _ h => h) (Or.inr ⟨by kernel_rfl, rfl⟩) (by assumption) ?rest102
                      (try simp only [List.getElem_toArray, List.getElem_cons_succ, List.getElem_cons_zero, Act.put, List.setIfInBounds_toArray, List.set_cons_zero, List.set_cons_succ])
                      refine wpAnyH_take (i := 20) (oi := _) (v := undef) rfl (by kernel_rfl) (by kernel_rfl) (by kernel_rfl) (fun _ _ _ h => h) (Or.inr ⟨by kernel_rfl, rfl⟩) (by assumption) ?rest103
                      (try simp only [List.getElem_toArray, List.getElem_cons_succ, List.getElem_cons_zero, Act.put, List.setIfInBounds_toArray, List.set_cons_zero, List.set_cons_succ])
                      refine wpAnyH_take (i := 21) (oi := _) (v := undef) rfl (by kernel_rfl) (by kernel_rfl) (by kernel_rfl) (fun _ _ _ h => h) (Or.inr ⟨by kernel_rfl, rfl⟩) (by assumption) ?rest104
                      (try simp only [List.getElem_toArray, List.getElem_cons_succ, List.getElem_cons_zero, Act.put, List.setIfInBounds_toArray, List.set_cons_zero, List.set_cons_succ])
                      refine wpAnyH_take (i := 22) (oi := _) (v := undef) rfl (by kernel_rfl) (by kernel_rfl) (by kernel_rfl) (fun _ _ _ h => h) (Or.inr ⟨by kernel_rfl, rfl⟩) (by assumption) ?rest105
                      (try simp only [List.getElem_toArray, List.getElem_cons_succ, List.getElem_cons_zero, Act.put, List.setIfInBounds_toArray, List.set_cons_zero, List.set_cons_succ])
                      refine wpAnyH_take (i := 23) (oi := _) (v := undef) rfl (by kernel_rfl) (by kernel_rfl) (by kernel_rfl) (fun _ _ _ h => h) (Or.inr ⟨by kernel_rfl, rfl⟩) (by assumption) ?rest106
                      (try simp only [List.getElem_toArray, List.getElem_cons_succ, List.getElem_cons_zero, Act.put, List.setIfInBounds_toArray, List.set_cons_zero, List.set_cons_succ])
                      refine wpAnyH_take (i := 24) (oi := _) (v := undef) rfl (by kernel_rfl) (by kernel_rfl) (by kernel_rfl) (fun _ _ _ h => h) (Or.inr ⟨by kernel_rfl, rfl⟩) (by assumption) ?rest107
                      (try simp only [List.getElem_toArray, List.getElem_cons_succ, List.getElem_cons_zero, Act.put, List.setIfInBounds_toArray, List.set_cons_zero, List.set_cons_succ])
                      refine wpAnyH_take (i := 25) (oi := _) (v := undef) rfl (by kernel_rfl) (by kernel_rfl) (by kernel_rfl) (fun _ _ _ h => h) (Or.inr ⟨by kernel_rfl, rfl⟩) (by assumption) ?rest108
                      (try simp only [List.getElem_toArray, List.getElem_cons_succ, List.getElem_cons_zero, Act.put, List.setIfInBounds_toArray, List.set_cons_zero, List.set_cons_succ])
                      refine wpAnyH_take (i := 26) (oi := _) (v := undef) rfl (by kernel_rfl) (by kernel_rfl) (by kernel_rfl) (fun _ _ _ h => h) (Or.inr ⟨by kernel_rfl, rfl⟩) (by assumption) ?rest109
                      (try simp only [List.getElem_toArray, List.getElem_cons_succ, List.getElem_cons_zero, Act.put, List.setIfInBounds_toArray, List.set_cons_zero, List.set_cons_succ])
                      refine wpAnyH_take (i := 27) (oi := _) (v := undef) rfl (by kernel_rfl) (by kernel_rfl) (by kernel_rfl) (fun _ _ _ h => h) (Or.inr ⟨by kernel_rfl, rfl⟩) (by assumption) ?rest110
                      (try simp only [List.getElem_toArray, List.getElem_cons_succ, List.getElem_cons_zero, Act.put, List.setIfInBounds_toArray, List.set_cons_zero, List.set_cons_succ])
                      refine wpAnyH_take (i := 28) (oi := _) (v := undef) rfl (by kernel_rfl) (by kernel_rfl) (by kernel_rfl) (fun _ _ _ h => h) (Or.inr ⟨by kernel_rfl, rfl⟩) (by assumption) ?rest111
                      (try simp only [List.getElem_toArray, List.getElem_cons_succ, List.getElem_cons_zero, Act.put, List.setIfInBounds_toArray, List.set_cons_zero, List.set_cons_succ])
                      refine wpAnyH_take (i := 29) (oi := _) (v := undef) rfl (by kernel_rfl) (by kernel_rfl) (by kernel_rfl) (fun _ _ _ h => h) (Or.inr ⟨by kernel_rfl, rfl⟩) (by assumption) ?rest112
                      (try simp only [List.getElem_toArray, List.getElem_cons_succ, List.getElem_cons_zero, Act.put, List.setIfInBounds_toArray, List.set_cons_zero, List.set_cons_succ])
                      refine wpAnyH_take (i := 30) (oi := _) (v := undef) rfl (by kernel_rfl) (by kernel_rfl) (by kernel_rfl) (fun _ _ _ h => h) (Or.inr ⟨by kernel_rfl, rfl⟩) (by assumption) ?rest113
                      (try simp only [List.getElem_toArray, List.getElem_cons_succ, List.getElem_cons_zero, Act.put, List.setIfInBounds_toArray, List.set_cons_zero, List.set_cons_succ])
                      refine wpAnyH_take (i := 31) (oi := _) (v := undef) rfl (by kernel_rfl) (by kernel_rfl) (by kernel_rfl) (fun _ _ _ h => h) (Or.inr ⟨by kernel_rfl, rfl⟩) (by assumption) ?rest114
                      (try simp only [List.getElem_toArray, List.getElem_cons_succ, List.getElem_cons_zero, Act.put, List.setIfInBounds_toArray, List.set_cons_zero, List.set_cons_succ])
                      refine wpAnyH_take (i := 32) (oi := _) (v := ?v115) rfl (by kernel_rfl) (by kernel_rfl) (by kernel_rfl) (fun _ _ _ h => h) (Or.inl ⟨by rfl, ?hy115⟩) (by assumption) ?rest115
                      case hy115 => (intro w hSw; (try dsimp only at hSw); go_simp; first | done | with_reducible rfl)
                      (try simp only [List.getElem_toArray, List.getElem_cons_succ, List.getElem_cons_zero, Act.put, List.setIfInBounds_toArray, List.set_cons_zero, List.set_cons_succ])
                      refine wpAnyH_done (by kernel_rfl) ?_ _
                      go_wp2_with fail
                      exact ⟨⟨k + 1, last', Bs', Q', Q3, _, _, _, _, _, _, _, by omega, by go_num, rfl, hlast', BP.sub (H_hk4.out.grows (by (repeat' (first | (with_reducible exact Vg.Grows.refl _) | (with_reducible assumption) | (with_reducible refine Vg.Grows.alloc ?_ _) | (with_reducible refine Vg.Grows.plus ?_ _ _) | (with_reducible refine Vg.Grows.drewN ?_ _) | (with_reducible refine Vg.Grows.drew ?_) | (with_reducible refine Vg.Grows.setCell ?_ ?_ _) | (with_reducible refine Vg.Grows.put ?_ ?_ _) | omega | (simp; omega) | (simp; done))))) (by simp), H_hI'.out, H_hr3.out, H_hBl'.out⟩, by simp [intOf]; omega⟩
                    exact AllReadyH.nil
        · have H_hbp := Lib.hid hbp; clear hbp; have H_hinv := Lib.hid hinv; clear hinv; have H_hrq := Lib.hid hrq; clear hrq; have H_hBl := Lib.hid hBl; clear hBl
          go_wp2_with fail
          go_ret
          exact ⟨rfl, H_hbp.out.gr⟩
end Go.Proofs.Ytiinhofmhoplfaa
