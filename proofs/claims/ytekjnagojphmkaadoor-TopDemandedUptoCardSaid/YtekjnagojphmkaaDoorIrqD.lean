/- Package irq: Take. -/
import Derived.Test.YtekjnagojphmkaaDoorIrqC
import Derived.Test.YtekjnagojphmkaaDoorIrqM
import Derived.Test.YtekjnagojphmkaaDoorQueN
set_option linter.unusedSimpArgs false
set_option linter.unusedVariables false
set_option maxHeartbeats 8000000
set_option maxRecDepth 100000
namespace Vg
open Go
/-- What Take answers. -/
def Iq.Took (now : Int) (s : Iq) (k : Int) (is : Bool) (er : Int) (s' : Iq) : Prop :=
  (er = 1 ∧ is = false ∧ k = 0 ∧ s' = s ∧ (now < s.last ∨ 4503599627370496 < now)) ∨
  (er = 0 ∧ s.last ≤ now ∧ now ≤ 4503599627370496 ∧ s'.last = now ∧ ((is = false ∧ k = 0 ∧ Iq.Calm now s s') ∨
    (is = true ∧ ∃ (i : Nat) (sm : Iq) (y y' : Ln), k = i ∧ Iq.Calm now s sm ∧ sm.ls[i]? = some y ∧ Entered now y y' ∧ s.c.pe.testBit i = true ∧ i ∉ s.c.st ∧ s' = ⟨sm.c.ack i, sm.ls.set i { y' with srv := y.srv + 1 }, sm.S ++ [⟨i, y.top, y.bot⟩], now⟩)))
theorem Touch.nextq {w w2 w3 : World} {t t' : Nat → Prop} (h1 : Touch t w w2) (h2 : Touch t' w2 w3) (hn : ∀ k, t' k → t k ∨ w.heap.size ≤ k) : Touch t w w3 :=
  ⟨h2.os.trans h1.os, h2.tape.trans h1.tape, h2.output.trans h1.output, Nat.le_trans h1.size h2.size, fun k hk ht => (h2.block k (Nat.lt_of_lt_of_le hk h1.size) fun hh => by
    rcases hn k hh with h | h
    · exact ht h
    · omega).trans (h1.block k hk ht)⟩
theorem Told.srv {now : Int} {x y : Ln} (h : Told now x y) : y.srv = x.srv ∧ y.top = x.top ∧ y.bot = x.bot ∧ y.lost = x.lost ∧ y.many = x.many ∧ y.wd = x.wd := by
  rcases h with rfl | ⟨_, _, rfl⟩
  · exact ⟨rfl, rfl, rfl, rfl, rfl, rfl⟩
  · exact ⟨rfl, rfl, rfl, rfl, rfl, rfl⟩
theorem Touch.tab {t : Nat → Prop} {w w' : World} (h : Touch t w w') (hT : Tab w) (h0 : ¬ t 0) : Tab w' := fun j hj =>
  (World.cell?_of_block (w := w) (h.block 0 (Classical.byContradiction fun hh => by
    have h9 := hT j hj
    have h8 : w.heap[0]? = none := Array.getElem?_eq_none (by omega)
    simp [World.cell?, h8] at h9) h0)).trans (hT j hj)
end Vg
namespace Go.Proofs.YtekjnagojphmkaaDoor
open Go.ChangeShapes Go.WideShapes Go.ChangeAt Go.RowKit
theorem Tryd.info_begun : (Tryd.prog.info? 103).map (fun i => (i.zero, i.size, i.bytes)) = some (some (.agg #[.int .i64 0, .int .i64 0, .int .i64 0]), 3, 24) := by kernel_rfl
section
variable {w w' w1 : World} {b lo n mk pc sc l c g o : Nat} {xs : List Vg.Lq} {s s' : Vg.Iq} {lv sv : Value} {pa sa a : Option Addr} {ow : Nat → Nat} {OB : Nat → Prop} {x : Int}
/-- The block of the lines, the controller and the stack have changed. -/
theorem IQ.both2 {c' : Vg.Ic} {mk' : Nat} {last' : Int} {pa' sa' : Option Addr} {pc' sc' m' : Nat} {S' : List Vg.Bg} {sv' : Value} (h : IQ w b lo n xs s mk lv sv pa pc sa sc ow) (hq : Vg.Que w' lo 103 3 sv' S'.length (Vg.scells S'))
    (ht : Vg.Touch (fun k => k = b ∨ sv.ownBlock = some k) w w')
    (hst : c'.st = S'.map (·.k)) (hpe : s.ls = [] → c'.pe = 0) (hmm : m' = S'.length)
    (htab : Vg.blk w' b = some (irqC c'.pe c'.en (2 ^ n - 1) pa' n pc' sa' m' sc' lv sv' mk' last')) (his : IS w' c' n m' pa' pc' sa' sc') (hmk : mk' < 2 ^ xs.length)
    (h1 : ∀ k, (Value.slice pa' n pc').ownBlock = some k → ow k = 4 ∨ (ow k = 0 ∧ lo ≤ k ∧ k < w'.heap.size)) (h2 : ∀ k, (Value.slice sa' m' sc').ownBlock = some k → ow k = 4 ∨ (ow k = 0 ∧ lo ≤ k ∧ k < w'.heap.size))
    (hsv : ∀ k, sv'.ownBlock = some k → ow k = 3 ∨ (ow k = 0 ∧ lo ≤ k ∧ k < w'.heap.size)) (hd : ∀ k, sv'.ownBlock = some k → (Value.slice pa' n pc').ownBlock ≠ some k ∧ (Value.slice sa' m' sc').ownBlock ≠ some k) :
    ∃ ow', IQ w' b lo n xs ⟨c', s.ls, S', last'⟩ mk' lv sv' pa' pc' sa' sc' ow' ∧ ∀ k, ow' k ≠ 0 → ow k ≠ 0 ∨ (Value.slice pa' n pc').ownBlock = some k ∨ (Value.slice sa' m' sc').ownBlock = some k ∨ sv'.ownBlock = some k := by
  subst hmm
  let nw : Nat → Prop := fun k => (Value.slice pa' n pc').ownBlock = some k ∨ (Value.slice sa' S'.length sc').ownBlock = some k
  have hnw : ∀ k, nw k → ow k = 4 ∨ (ow k = 0 ∧ lo ≤ k ∧ k < w'.heap.size) := fun k hk => hk.elim (h1 k) (h2 k)
  have hnd : ∀ k, sv'.ownBlock = some k → ¬ nw k := fun k hk hh => hh.elim (hd k hk).1 (hd k hk).2
  classical
  let ow' : Nat → Nat := fun k => if nw k then 4 else if sv'.ownBlock = some k then 3 else ow k
  have e1 : ∀ k, ow k ≠ 0 → ow' k = ow k := fun k hk => by
    show (if nw k then 4 else if sv'.ownBlock = some k then 3 else ow k) = ow k
    split
    · rename_i hh
      rcases hnw k hh with h4 | h4
      · exact h4.symm
      · exact absurd h4.1 hk
    · split
      · rename_i hh
        rcases hsv k hh with h4 | h4
        · exact h4.symm
        · exact absurd h4.1 hk
      · rfl
  have e2 : ∀ k l, l ≠ 0 → ow k = l → ow' k = l := fun k l hl hk => by rw [e1 k (by rw [hk]; exact hl), hk]
  have hv : ∀ k, (k = b ∨ sv.ownBlock = some k) → ow k = 1 ∨ ow k = 3 := fun k hk => by
    rcases hk with rfl | hk
    · exact .inl h.ob
    · exact .inr (h.os k hk)
  have hlr : Vg.Que w' lo 86 5 lv xs.length (Vg.lcells xs) := h.lrow.kept fun k hk => ht.block k (h.lrow.lt k hk).2 fun hh => by have := hv k hh; rw [h.ol k hk] at this; omega
  have key : ∀ k, ow' k ≠ 0 → ow k ≠ 0 ∨ (ow k = 0 ∧ lo ≤ k ∧ k < w'.heap.size) ∧ (nw k ∨ sv'.ownBlock = some k) := fun k hk => by
    by_cases h0 : ow k = 0
    · right
      by_cases hn : nw k
      · rcases hnw k hn with h4 | h4
        · omega
        · exact ⟨h4, .inl hn⟩
      · by_cases hs : sv'.ownBlock = some k
        · rcases hsv k hs with h4 | h4
          · omega
          · exact ⟨h4, .inr hs⟩
        · exact absurd (show (if nw k then 4 else if sv'.ownBlock = some k then 3 else ow k) = 0 by rw [if_neg hn, if_neg hs, h0]) hk
    · exact .inl h0
  refine ⟨ow', ⟨h.ls, ⟨hst, ?_, h.ok.each⟩, htab, his, hlr, hq, fun i hi => (h.mks i hi).touch ht (fun hh => by have := hv _ hh; rw [(h.om i hi).1] at this; omega) (fun hh => by have := hv _ hh; rw [(h.om i hi).2] at this; omega), hmk, e2 _ _ (by omega) h.ob, fun k hk => e2 _ _ (by omega) (h.ol k hk), fun k hk => ?_, fun k hk => if_pos (.inl hk), fun k hk => if_pos (.inr hk), fun i hi => ⟨e2 _ _ (by omega) (h.om i hi).1, e2 _ _ (by omega) (h.om i hi).2⟩, fun k hk => ?_⟩, fun k hk => ?_⟩
  · rcases h.ok.len with h3 | ⟨h3, h4, h5⟩
    · exact .inl h3
    · exact .inr ⟨h3, h4, hpe h3⟩
  · show (if nw k then 4 else if sv'.ownBlock = some k then 3 else ow k) = 3
    rw [if_neg (hnd k hk), if_pos hk]
  · rcases key k hk with h4 | h4
    · exact ⟨(h.hw k h4).1, Nat.lt_of_lt_of_le (h.hw k h4).2 ht.size⟩
    · exact h4.1.2
  · rcases key k hk with h4 | ⟨_, h4 | h4⟩
    · exact .inl h4
    · exact h4.elim (fun h5 => .inr (.inl h5)) fun h5 => .inr (.inr (.inl h5))
    · exact .inr (.inr (.inr h4))
theorem QSn.next {w2 : World} {s1 : Vg.Iq} {OB' : Nat → Prop} {xs' : List Vg.Lq} {mk' pc' sc' : Nat} {lv' sv' : Value} {pa' sa' : Option Addr} {ow' : Nat → Nat} (hO : ∀ j, OB' j → OB j ∨ w.heap.size ≤ j) (hT0 : Vg.Touch OB w w1) (h1 : IQ w2 b lo n xs' s1 mk' lv' sv' pa' pc' sa' sc' ow') (h2 : ∀ k, ow' k ≠ 0 → OB' k ∨ w1.heap.size ≤ k) (ht : Vg.Touch OB' w1 w2) : QSn w w2 b lo n s1 OB := by
  refine ⟨fun k => ow' k ≠ 0, ⟨⟨xs', mk', lv', sv', pa', pc', sa', sc', ow', h1, fun k hk => hk⟩, fun k hk => h1.hw k hk⟩, fun k hk => ?_, Vg.Touch.nextq hT0 ht hO⟩
  rcases h2 k hk with h3 | h3
  · exact hO k h3
  · exact .inr (Nat.le_trans hT0.size h3)
theorem qs_take (now : Int) (h : QS w b lo n s OB) (hT : Vg.Tab w) (hlo : 0 < lo) (hsrv : ∀ y ∈ s.ls, 0 ≤ y.srv ∧ y.srv ≤ 4611686018427387904) :
    Calls Tryd.prog 9 #[.pointer (some ⟨b, 0, none⟩), .int .i64 now] w fun e w' => ∃ k is er s', e = .returned (.tuple #[.int .i64 k, .bool is, .int .i64 er]) ∧ QSn w w' b lo n s' OB ∧ Vg.Iq.Took now s k is er s' := by
  have h00 := h
  obtain ⟨⟨xs, mk, lv, sv, pa, pc, sa, sc, ow, h1, h2⟩, h3⟩ := h
  by_cases hno : now < s.last ∨ 4503599627370496 < now
  · have c10 := Vg.cells_of h1.tab 10
    simp at c10
    have hno' := hno
    have H_h00 := Lib.hid h00; clear h00; have H_h1 := Lib.hid h1; clear h1; have H_h2 := Lib.hid h2; clear h2; have H_h3 := Lib.hid h3; clear h3; have H_hT := Lib.hid hT; clear hT; have H_hsrv := Lib.hid hsrv; clear hsrv; have H_c10 := Lib.hid c10; clear c10; have H_hno' := Lib.hid hno'; clear hno'
    go_enter Tryd.func9, Tryd.ntmps9
    go_wp2
    go_step3
    go_wp2_with ((go_at_call 30; (with_reducible refine (irq_tell_no now H_c10.out hno).mono ?_); rintro e w1 ⟨rfl, rfl⟩))
    rw [Exit.noGoto_ret]
    go_returns
    exact ⟨0, false, 1, s, rfl, ⟨OB, H_h00.out, fun k hk => .inl hk, Vg.Touch.refl _ _⟩, .inl ⟨rfl, rfl, rfl, rfl, H_hno'.out⟩⟩
  · have l1 : s.last ≤ now := by omega
    have l2 : now ≤ 4503599627370496 := by omega
    have H_h00 := Lib.hid h00; clear h00; have H_h1 := Lib.hid h1; clear h1; have H_h2 := Lib.hid h2; clear h2; have H_h3 := Lib.hid h3; clear h3; have H_hT := Lib.hid hT; clear hT; have H_hsrv := Lib.hid hsrv; clear hsrv; have H_hno := Lib.hid hno; clear hno
    go_enter Tryd.func9, Tryd.ntmps9
    go_wp2
    go_step3
    go_wp2_with ((go_at_call 30; (with_reducible refine (irq_tell now H_h1.out l1 l2).mono ?_); rintro e w1 ⟨rfl, hI1, ht1⟩; have H_hI1 := Lib.hid hI1; clear hI1; have H_ht1 := Lib.hid ht1; clear ht1))
    go_step3
    go_wp2
    have hQ1 : QSn w w1 b lo n { s with last := now } OB := QSn.of H_h00.out H_hI1.out (fun k hk => .inl (H_h2.out k hk)) (H_ht1.out.mono fun k _ hk => by rw [hk]; exact H_h2.out b (by rw [H_h1.out.ob]; omega))
    have H_hQ1 := Lib.hid hQ1; clear hQ1
    go_loopg [] s.c.en (fun k wr => ∃ sm, k = sm.c.en ∧ QSn w wr b lo n sm OB ∧ Vg.Iq.Calm now s sm ∧ sm.last = now)
    case atStart => exact ⟨{ s with last := now }, rfl, H_hQ1.out, ⟨rfl, rfl, rfl, rfl, Vg.Tolds.refl _ _⟩, rfl⟩
    case round =>
      obtain ⟨sm, hgk, hQ, hC, hla⟩ := hrel
      obtain ⟨OB', hQS, hO, hT0⟩ := hQ
      obtain ⟨⟨ys, mk', lv', sv', pa', pc', sa', sc', ow', g1, g2⟩, g3⟩ := hQS
      have hT9 := hT0.tab H_hT.out (fun hh => by have := H_h3.out 0 hh; omega)
      have hb := g1.tab
      obtain ⟨ed, hed⟩ : ∃ ed, 2 ^ n - 1 = ed := ⟨_, rfl⟩
      obtain ⟨pe, hpe⟩ : ∃ pe, sm.c.pe = pe := ⟨_, rfl⟩
      obtain ⟨en, hen⟩ : ∃ en, sm.c.en = en := ⟨_, rfl⟩
      obtain ⟨m, hm⟩ : ∃ m, sm.S.length = m := ⟨_, rfl⟩
      have his := g1.is
      rw [hed, hpe, hen, hm, hla] at hb
      rw [hm] at his
      rcases his.ok.nx_cases with hx | ⟨k, hx, hkn, hkp, hke, hks, hkl⟩
      · have hN : Calls Tryd.prog 34 #[icV pe en ed pa' n pc' sa' m sc'] wr fun e w' => e = .returned (.tuple #[.int .i64 0, .int .i64 3]) ∧ Vg.Grows wr w' := by
          have h9 := ic_nextl his hed hpe hen hT9 hx
          simpa using h9
        have H_hgk := Lib.hid hgk; clear hgk; have H_hC := Lib.hid hC; clear hC; have H_hO := Lib.hid hO; clear hO; have H_hT0 := Lib.hid hT0; clear hT0; have H_g1 := Lib.hid g1; clear g1; have H_g2 := Lib.hid g2; clear g2; have H_g3 := Lib.hid g3; clear g3; have H_hT9 := Lib.hid hT9; clear hT9; have H_hed := Lib.hid hed; clear hed; have H_hpe := Lib.hid hpe; clear hpe; have H_hen := Lib.hid hen; clear hen; have H_hm := Lib.hid hm; clear hm; have H_his := Lib.hid his; clear his; have H_hN := Lib.hid hN; clear hN; have H_hx := Lib.hid hx; clear hx; have H_hla := Lib.hid hla; clear hla
        have c_hb := Vg.cells_of hb; have f_hb := Vg.frozen_of hb; have p_hb := Vg.setCell_of hb; have l_hb := Vg.lt_of hb; have H_hb := Lib.hid hb; clear hb
        go_wp2_with ((go_at_call 34; (with_reducible refine (H_hN.out).mono ?_); rintro e w2 ⟨rfl, hg2⟩; have H_hg2 := Lib.hid hg2; clear hg2))
        rw [Exit.noGoto_ret]
        go_returns
        exact ⟨0, false, 0, sm, rfl, ⟨OB', ⟨⟨ys, mk', lv', sv', pa', pc', sa', sc', ow', H_g1.out.grows H_hg2.out, H_g2.out⟩, fun j hj => ⟨(H_g3.out j hj).1, Nat.lt_of_lt_of_le (H_g3.out j hj).2 H_hg2.out.size⟩⟩, H_hO.out, H_hT0.out.trans (Vg.Touch.of_grows H_hg2.out)⟩, .inr ⟨rfl, l1, l2, H_hla.out, .inl ⟨rfl, rfl, H_hC.out⟩⟩⟩
      · have hN : Calls Tryd.prog 34 #[icV pe en ed pa' n pc' sa' m sc'] wr fun e w' => e = .returned (.tuple #[.int .i64 k, .int .i64 0]) ∧ Vg.Grows wr w' := by
          have h9 := ic_nextl his hed hpe hen hT9 hx
          have h64 : ¬ ((k : Nat) : Int) = 64 := by have := his.ok.n1; omega
          rw [if_neg h64, if_neg h64] at h9
          exact h9
        have hlen : ys.length = sm.ls.length := by rw [← g1.ls]; simp
        have hky : k < ys.length := by
          rcases g1.ok.len with h8 | ⟨_, _, h8⟩
          · omega
          · rw [h8] at hkp; simp at hkp
        have hkl' : k < sm.ls.length := by omega
        have hyp : sm.ls[k] = ys[k].p := by simp [← g1.ls]
        have hwd := g1.ok.each _ (List.getElem_mem hkl')
        rw [hyp] at hwd
        have hmk := g1.mks k hky
        have hsr : 0 ≤ ys[k].p.srv ∧ ys[k].p.srv ≤ 4611686018427387904 := by
          have hkS : k < s.ls.length := by rw [hC.ls.1]; exact hkl'
          have h8 := (hC.ls.2 k hkS hkl').srv.1
          rw [hyp] at h8
          rw [h8]
          exact H_hsrv.out _ (List.getElem_mem hkS)
        obtain ⟨g, o, c, hlv, hg1, hg2, hc1, hc2, -, -, -, -, -⟩ := g1.lrow.line rfl k hky
        obtain ⟨l, hl⟩ : ∃ l, ys.length = l := ⟨_, rfl⟩
        subst hlv
        rw [hl] at g1 hb hc1
        have hkl2 : k < l := by omega
        have hbg : b ≠ g := fun hh => by have h9 := g1.ol g rfl; rw [← hh, g1.ob] at h9; omega
        have hgb : g ≠ b := fun hh => hbg hh.symm
        have hom := g1.om k hky
        obtain ⟨z, hz⟩ : ∃ z, ys[k] = z := ⟨_, rfl⟩
        rw [hz] at hmk hsr hwd hyp hom
        obtain ⟨⟨top, bot, lost, srv, many, wd, q, ml⟩, mb, rb⟩ := z
        simp only at hmk hsr hwd hyp hom
        have hOm : OB' mb ∧ OB' rb := ⟨g2 mb (by rw [hom.1]; omega), g2 rb (by rw [hom.2]; omega)⟩
        have h0m : mb ≠ 0 ∧ rb ≠ 0 := ⟨by have := (g3 mb hOm.1).1; omega, by have := (g3 rb hOm.2).1; omega⟩
        have hOb : OB' b := g2 b (by rw [g1.ob]; omega)
        have hOg : OB' g := g2 g (by rw [g1.ol g rfl]; omega)
        have hqm : q.length ≤ many := by obtain ⟨_, _, _, _, _, _, h9⟩ := hmk; exact h9.2.2.2.1
        have hu : ∀ (W : World), Vg.Grows wr W → W.cell? ⟨g, o + k * 5, none⟩ = some (.pointer (some ⟨mb, 0, none⟩)) ∧ W.cell? ⟨g, o + k * 5 + 1, none⟩ = some (.int .i64 top) ∧ W.cell? ⟨g, o + k * 5 + 2, none⟩ = some (.int .i64 bot) ∧ W.cell? ⟨g, o + k * 5 + 4, none⟩ = some (.int .i64 srv) ∧ g < W.heap.size := fun W hW => by
          have h9 := (g1.grows hW).lrow
          rw [hl] at h9
          obtain ⟨g', o', c', hlv', -, hg3, -, -, u0, u1, u2, u3, u4⟩ := h9.line hl k hky
          simp only [Value.slice.injEq, Option.some.injEq, Addr.mk.injEq, true_and, and_true] at hlv'
          obtain ⟨⟨rfl, rfl⟩, rfl⟩ := hlv'
          rw [hz] at u0 u1 u2 u4
          exact ⟨u0, u1, u2, u4, hg3⟩
        have hkb := hkl
        have hk64 : k < 64 := by have := his.ok.n1; omega
        have hen64 := his.ok.en64
        rw [hen] at hke hen64
        rcases Vg.enter_cases now q ml many wd ⟨top, bot, lost, srv, many, wd, q, ml⟩ rfl rfl rfl rfl hqm with ⟨hr, hE⟩ | ⟨hr, hE⟩
        · obtain ⟨q9, hq9⟩ : ∃ q9, (Vg.Mask.enter ⟨q, ml, 0⟩ many wd now).1.q = q9 := ⟨_, rfl⟩
          obtain ⟨m9, hm9⟩ : ∃ m9, (Vg.Mask.enter ⟨q, ml, 0⟩ many wd now).1.last = m9 := ⟨_, rfl⟩
          rw [hq9, hm9] at hE
          have hml9 : 0 ≤ m9 := by
            have h5 : m9 = now := congrArg Vg.Ln.ml hE.2.2.2
            have h6 : ml ≤ now := hE.1
            omega
          obtain ⟨i0, hi, hz0, hz1, hz2⟩ := info_parts Tryd.info_begun
          have hbm : b ≠ mb := fun hh => by rw [← hh, g1.ob] at hom; omega
          have H_hgk := Lib.hid hgk; clear hgk; have H_hC := Lib.hid hC; clear hC; have H_hO := Lib.hid hO; clear hO; have H_hT0 := Lib.hid hT0; clear hT0; have H_g1 := Lib.hid g1; clear g1; have H_g2 := Lib.hid g2; clear g2; have H_g3 := Lib.hid g3; clear g3; have H_hT9 := Lib.hid hT9; clear hT9; have H_hed := Lib.hid hed; clear hed; have H_hpe := Lib.hid hpe; clear hpe; have H_hen := Lib.hid hen; clear hen; have H_hm := Lib.hid hm; clear hm; have H_his := Lib.hid his; clear his; have H_hN := Lib.hid hN; clear hN; have H_hx := Lib.hid hx; clear hx; have H_hla := Lib.hid hla; clear hla; have H_hu := Lib.hid hu; clear hu; have H_hl := Lib.hid hl; clear hl; have H_hz := Lib.hid hz; clear hz; have H_hyp := Lib.hid hyp; clear hyp; have H_hom := Lib.hid hom; clear hom; have H_hmk := Lib.hid hmk; clear hmk; have H_hr := Lib.hid hr; clear hr; have H_hE := Lib.hid hE; clear hE; have H_hq9 := Lib.hid hq9; clear hq9; have H_hm9 := Lib.hid hm9; clear hm9; have H_hwd := Lib.hid hwd; clear hwd; have H_hml9 := Lib.hid hml9; clear hml9; have H_hOm := Lib.hid hOm; clear hOm; have H_hOb := Lib.hid hOb; clear hOb; have H_hOg := Lib.hid hOg; clear hOg; have H_hen64 := Lib.hid hen64; clear hen64; have H_h0m := Lib.hid h0m; clear h0m; have H_hke := Lib.hid hke; clear hke
          have c_hb := Vg.cells_of hb; have f_hb := Vg.frozen_of hb; have p_hb := Vg.setCell_of hb; have l_hb := Vg.lt_of hb; have H_hb := Lib.hid hb; clear hb
          go_upto_region 11 with (first | (go_at_call 34; (with_reducible refine (H_hN.out).mono ?_); rintro e w2 ⟨rfl, hg2⟩; have yb := hg2.blk H_hb.out; have hs2 := hg2.size; obtain ⟨u0, u1, u2, u4, hg3⟩ := H_hu.out w2 hg2; clear c_hb f_hb p_hb u1 u2 u4; have c_yb := Vg.cells_of yb; have f_yb := Vg.frozen_of yb; have p_yb := Vg.setCell_of yb; have l_yb := Vg.lt_of yb; have H_yb := Lib.hid yb; clear yb; have H_hg2 := Lib.hid hg2; clear hg2) | (go_at_call 35; (with_reducible refine (mk_enter now (H_hmk.out.grows H_hg2.out) H_hwd.out.1 H_hwd.out.2 H_hr.out).mono ?_); rintro e w3 ⟨rfl, hm3, ht3⟩; rw [H_hq9.out, H_hm9.out] at hm3; have h3v := (H_g1.out.grows H_hg2.out).masks (w' := w3) (q' := q9) (ml' := m9) hky (by rw [H_hz.out]; exact hm3) H_hml9.out (by rw [H_hz.out]; exact ht3); obtain ⟨zs, h3w, hzl, hzk⟩ : ∃ zs, IQ w3 b lo n zs ⟨sm.c, sm.ls.set k ⟨top, bot, lost, srv, many, wd, q9, m9⟩, sm.S, sm.last⟩ mk' (.slice (some ⟨g, o, none⟩) l c) sv' pa' pc' sa' sc' ow' ∧ zs.length = l ∧ ∀ h, zs[k]'h = ⟨⟨top, bot, lost, srv, many, wd, q9, m9⟩, mb, rb⟩ := ⟨_, by have h9 := h3v; rw [H_hz.out] at h9; exact h9, by rw [List.length_set]; exact H_hl.out, fun h => by rw [List.getElem_set_self]⟩; have hs3 := ht3.size; have his3 : IS w3 sm.c n m pa' pc' sa' sc' := (by have h9 := h3w.is; rw [← H_hm.out]; exact h9); have hT3 := ht3.tab (H_hT9.out.grows H_hg2.out) (fun hh => hh.elim (fun e => H_h0m.out.1 e.symm) (fun e => H_h0m.out.2 e.symm)); have yb3 : Vg.blk w3 b = some (irqC pe en ed pa' n pc' sa' m sc' (.slice (some ⟨g, o, none⟩) l c) sv' mk' now) := (by rw [← H_hpe.out, ← H_hen.out, ← H_hed.out, ← H_hm.out, ← H_hla.out]; exact h3w.tab); clear c_yb f_yb p_yb u0; have c_yb3 := Vg.cells_of yb3; have f_yb3 := Vg.frozen_of yb3; have p_yb3 := Vg.setCell_of yb3; have l_yb3 := Vg.lt_of yb3; have H_yb3 := Lib.hid yb3; clear yb3; have H_h3w := Lib.hid h3w; clear h3w; have H_ht3 := Lib.hid ht3; clear ht3; have H_his3 := Lib.hid his3; clear his3; have H_hT3 := Lib.hid hT3; clear hT3; have H_hzl := Lib.hid hzl; clear hzl; have H_hzk := Lib.hid hzk; clear hzk; have H_hm3 := Lib.hid hm3; clear hm3; have H_h3v := Lib.hid h3v; clear h3v) | (go_at_call 36; (with_reducible refine (ic_ack k H_his3.out H_hed.out H_hpe.out H_hen.out H_hT3.out H_hx.out hkn hkl).mono ?_); rintro e w4 ⟨v, rfl, ⟨pa4, pc4, sa4, m4, sc4, rfl, hI4, f1, f2⟩, hg4⟩; have zb := hg4.blk H_yb3.out; clear c_yb3 f_yb3 p_yb3; have h4w := H_h3w.out.grows hg4; have hv : w4.cell? ⟨g, o + k * 5 + 1, none⟩ = some (.int .i64 top) ∧ w4.cell? ⟨g, o + k * 5 + 2, none⟩ = some (.int .i64 bot) ∧ w4.cell? ⟨g, o + k * 5 + 4, none⟩ = some (.int .i64 srv) ∧ g < w4.heap.size ∧ ∀ j, w4.frozen? ⟨g, j, none⟩ = false := (by have h9 := h4w.lrow; rw [H_hzl.out] at h9; obtain ⟨g', o', c', hlv', -, hg3, -, -, v0, v1, v2, v3, v4⟩ := h9.line H_hzl.out k (by rw [H_hzl.out]; exact hkl2); simp only [Value.slice.injEq, Option.some.injEq, Addr.mk.injEq, true_and, and_true] at hlv'; obtain ⟨⟨rfl, rfl⟩, rfl⟩ := hlv'; rw [H_hzk.out] at v1 v2 v4; exact ⟨v1, v2, v4, hg3, h9.frozen⟩); obtain ⟨v1, v2, v4, hg5, hfz⟩ := hv; have hs4 := hg4.size; have c_zb := Vg.cells_of zb; have f_zb := Vg.frozen_of zb; have p_zb := Vg.setCell_of zb; have l_zb := Vg.lt_of zb; have H_zb := Lib.hid zb; clear zb; have H_hI4 := Lib.hid hI4; clear hI4; have H_f1 := Lib.hid f1; clear f1; have H_f2 := Lib.hid f2; clear f2; have H_hg4 := Lib.hid hg4; clear hg4; have H_h4w := Lib.hid h4w; clear h4w))
          have hkz : k < zs.length := by rw [H_hzl.out]; exact hkl2
          obtain ⟨r5, s5⟩ := H_h4w.out.setf (i := k) (j := 4) (u := .int .i64 (srv + 1)) (y := ⟨top, bot, lost, srv + 1, many, wd, q9, m9⟩) H_hzl.out hkz (by omega) ((Vg.lcells_set4 zs k hkz (srv + 1)).trans (by rw [H_hzk.out])) (by rw [H_hzk.out]; exact ⟨rfl, rfl, rfl, rfl⟩)
          have z5 := (s5.block b hbg).trans H_zb.out
          have e1 := (World.cell?_setCell_other (w := w4) ⟨g, o + k * 5 + 4, none⟩ ⟨g, o + k * 5 + 1, none⟩ (.int .i64 (srv + 1)) (by intro hh; simp only [Addr.mk.injEq] at hh; omega)).trans v1
          have e2 := (World.cell?_setCell_other (w := w4) ⟨g, o + k * 5 + 4, none⟩ ⟨g, o + k * 5 + 2, none⟩ (.int .i64 (srv + 1)) (by intro hh; simp only [Addr.mk.injEq] at hh; omega)).trans v2
          obtain ⟨W5, hW5⟩ : ∃ W5, w4.setCell ⟨g, o + k * 5 + 4, none⟩ (.int .i64 (srv + 1)) = W5 := ⟨_, rfl⟩
          rw [hW5] at r5 s5 z5 e1 e2 ⊢
          clear hW5 v1 v2 v4 hfz c_zb f_zb p_zb
          have z5 : Vg.blk W5 b = _ := z5
          have hs5 := s5.size
          have hq5 : Vg.Que W5 lo 103 3 sv' m (Vg.scells sm.S) := by
            have h9 := r5.srow
            rw [← H_hm.out]; exact h9
          have hbs : ∀ j, sv'.ownBlock = some j → j ≠ b ∧ j < w3.heap.size := fun j hj => by
            have h9 := H_h3w.out.os j hj
            exact ⟨fun hh => by rw [hh, H_h3w.out.ob] at h9; omega, (H_h3w.out.hw j (by omega)).2⟩
          obtain ⟨tA, htA⟩ : ∃ tA, irqC (sm.c.ack k).pe (sm.c.ack k).en ed pa4 n pc4 sa4 m4 sc4 (.slice (some ⟨g, o, none⟩) l c) sv' mk' now = tA := ⟨_, rfl⟩
          have hqP : Vg.Que (Vg.put W5 b tA) lo 103 3 sv' m (Vg.scells sm.S) := hq5.kept fun j hj => Vg.put_heap_other (fun hh => (hbs j hj).1 hh.symm)
          rw [← htA] at hqP
          have hm15 : m ≤ 15 := by rw [← H_his.out.m]; exact H_his.out.ok.st15
          have hbl5 := Vg.lt_of z5
          have hlo5 : lo ≤ W5.heap.size := by omega
          have e1b : (Vg.put W5 b tA).cell? ⟨g, o + k * 5 + 1, none⟩ = some (.int .i64 top) := (Vg.put_cell_other hbg).trans e1
          have e2b : (Vg.put W5 b tA).cell? ⟨g, o + k * 5 + 2, none⟩ = some (.int .i64 bot) := (Vg.put_cell_other hbg).trans e2
          rw [← htA] at e1b e2b
          clear htA
          have hg55 : g < W5.heap.size := by omega
          have H_r5 := Lib.hid r5; clear r5; have H_s5 := Lib.hid s5; clear s5; have H_hq5 := Lib.hid hq5; clear hq5; have H_hbs := Lib.hid hbs; clear hbs; have H_hqP := Lib.hid hqP; clear hqP; have H_e1b := Lib.hid e1b; clear e1b; have H_e2b := Lib.hid e2b; clear e2b
          have c_z5 := Vg.cells_of z5; have f_z5 := Vg.frozen_of z5; have p_z5 := Vg.setCell_of z5; have l_z5 := Vg.lt_of z5; have H_z5 := Lib.hid z5; clear z5
          refine wp_region_held_drew (S := fun w' => b < w'.heap.size ∧ g < w'.heap.size ∧ w'.cell? ⟨g, o + k * 5 + 1, none⟩ = some (.int .i64 top) ∧ w'.cell? ⟨g, o + k * 5 + 2, none⟩ = some (.int .i64 bot)) (by kernel_rfl) (by go_split_ands <;> (try dsimp only) <;> go_simp) (fun hHeld => ?_)
          refine wpAnyH_take (i := 0) (oi := _) (v := ?v1) rfl (by kernel_rfl) (by kernel_rfl) (by kernel_rfl) (fun _ _ _ h => h) (Or.inl ⟨by rfl, ?hy1⟩) (by assumption) ?rest1
          case hy1 => (intro w hSw; (try dsimp only at hSw); go_simp; first | done | with_reducible rfl)
          (try simp only [List.getElem_toArray, List.getElem_cons_succ, List.getElem_cons_zero, Act.put, List.setIfInBounds_toArray, List.set_cons_zero, List.set_cons_succ])
          refine wpAnyH_take (i := 1) (oi := _) (v := ?v2) rfl (by kernel_rfl) (by kernel_rfl) (by kernel_rfl) (fun _ _ _ h => h) (Or.inl ⟨by rfl, ?hy2⟩) (by assumption) ?rest2
          case hy2 => (intro w hSw; (try dsimp only at hSw); go_simp; first | done | with_reducible rfl)
          (try simp only [List.getElem_toArray, List.getElem_cons_succ, List.getElem_cons_zero, Act.put, List.setIfInBounds_toArray, List.set_cons_zero, List.set_cons_succ])
          refine wpAnyH_take (i := 2) (oi := _) (v := ?v3) rfl (by kernel_rfl) (by kernel_rfl) (by kernel_rfl) (fun _ _ _ h => h) (Or.inl ⟨by rfl, ?hy3⟩) (by assumption) ?rest3
          case hy3 => (intro w hSw; (try dsimp only at hSw); go_simp; first | done | with_reducible rfl)
          (try simp only [List.getElem_toArray, List.getElem_cons_succ, List.getElem_cons_zero, Act.put, List.setIfInBounds_toArray, List.set_cons_zero, List.set_cons_succ])
          refine wpAnyH_take (i := 3) (oi := _) (v := ?v4) rfl (by kernel_rfl) (by kernel_rfl) (by kernel_rfl) (fun _ _ _ h => h) (Or.inl ⟨by rfl, ?hy4⟩) (by assumption) ?rest4
          case hy4 => (intro w hSw; (try dsimp only at hSw); go_simp; first | done | with_reducible rfl)
          (try simp only [List.getElem_toArray, List.getElem_cons_succ, List.getElem_cons_zero, Act.put, List.setIfInBounds_toArray, List.set_cons_zero, List.set_cons_succ])
          refine wpAnyH_take (i := 5) (oi := _) (v := ?v5) rfl (by kernel_rfl) (by kernel_rfl) (by kernel_rfl) (fun _ _ _ h => h) (Or.inl ⟨by rfl, ?hy5⟩) (by assumption) ?rest5
          case hy5 => (intro w hSw; (try dsimp only at hSw); go_simp; first | done | with_reducible rfl)
          (try simp only [List.getElem_toArray, List.getElem_cons_succ, List.getElem_cons_zero, Act.put, List.setIfInBounds_toArray, List.set_cons_zero, List.set_cons_succ])
          refine wpAnyH_take (i := 6) (oi := _) (v := ?v6) rfl (by kernel_rfl) (by kernel_rfl) (by kernel_rfl) (fun _ _ _ h => h) (Or.inl ⟨by rfl, ?hy6⟩) (by assumption) ?rest6
          case hy6 => (intro w hSw; (try dsimp only at hSw); go_simp; first | done | with_reducible rfl)
          (try simp only [List.getElem_toArray, List.getElem_cons_succ, List.getElem_cons_zero, Act.put, List.setIfInBounds_toArray, List.set_cons_zero, List.set_cons_succ])
          refine wpAnyH_take (i := 7) (oi := _) (v := ?v7) rfl (by kernel_rfl) (by kernel_rfl) (by kernel_rfl) (fun _ _ _ h => h) (Or.inl ⟨by rfl, ?hy7⟩) (by assumption) ?rest7
          case hy7 => (intro w hSw; (try dsimp only at hSw); go_simp; first | done | with_reducible rfl)
          (try simp only [List.getElem_toArray, List.getElem_cons_succ, List.getElem_cons_zero, Act.put, List.setIfInBounds_toArray, List.set_cons_zero, List.set_cons_succ])
          refine wpAnyH_take (i := 8) (oi := _) (v := ?v8) rfl (by kernel_rfl) (by kernel_rfl) (by kernel_rfl) (fun _ _ _ h => h) (Or.inl ⟨by rfl, ?hy8⟩) (by assumption) ?rest8
          case hy8 => (intro w hSw; (try dsimp only at hSw); go_simp; first | done | with_reducible rfl)
          (try simp only [List.getElem_toArray, List.getElem_cons_succ, List.getElem_cons_zero, Act.put, List.setIfInBounds_toArray, List.set_cons_zero, List.set_cons_succ])
          refine wpAnyH_take (i := 9) (oi := _) (v := ?v9) rfl (by kernel_rfl) (by kernel_rfl) (by kernel_rfl) (fun _ _ _ h => h) (Or.inl ⟨by rfl, ?hy9⟩) (by assumption) ?rest9
          case hy9 => (intro w hSw; (try dsimp only at hSw); go_simp; first | done | with_reducible rfl)
          (try simp only [List.getElem_toArray, List.getElem_cons_succ, List.getElem_cons_zero, Act.put, List.setIfInBounds_toArray, List.set_cons_zero, List.set_cons_succ])
          refine wpAnyH_take (i := 10) (oi := _) (v := ?v10) rfl (by kernel_rfl) (by kernel_rfl) (by kernel_rfl) (fun _ _ _ h => h) (Or.inl ⟨by rfl, ?hy10⟩) (by assumption) ?rest10
          case hy10 => (intro w hSw; (try dsimp only at hSw); go_simp; first | done | with_reducible rfl)
          (try simp only [List.getElem_toArray, List.getElem_cons_succ, List.getElem_cons_zero, Act.put, List.setIfInBounds_toArray, List.set_cons_zero, List.set_cons_succ])
          refine wpAnyH_take (i := 11) (oi := _) (v := ?v11) rfl (by kernel_rfl) (by kernel_rfl) (by kernel_rfl) (fun _ _ _ h => h) (Or.inl ⟨by rfl, ?hy11⟩) (by assumption) ?rest11
          case hy11 => (intro w hSw; (try dsimp only at hSw); go_simp; first | done | with_reducible rfl)
          (try simp only [List.getElem_toArray, List.getElem_cons_succ, List.getElem_cons_zero, Act.put, List.setIfInBounds_toArray, List.set_cons_zero, List.set_cons_succ])
          refine wpAnyH_take (i := 12) (oi := _) (v := ?v12) rfl (by kernel_rfl) (by kernel_rfl) (by kernel_rfl) (fun _ _ _ h => h) (Or.inl ⟨by rfl, ?hy12⟩) (by assumption) ?rest12
          case hy12 => (intro w hSw; (try dsimp only at hSw); go_simp; first | done | with_reducible rfl)
          (try simp only [List.getElem_toArray, List.getElem_cons_succ, List.getElem_cons_zero, Act.put, List.setIfInBounds_toArray, List.set_cons_zero, List.set_cons_succ])
          refine wpAnyH_take (i := 13) (oi := _) (v := ?v13) rfl (by kernel_rfl) (by kernel_rfl) (by kernel_rfl) (fun _ _ _ h => h) (Or.inl ⟨by rfl, ?hy13⟩) (by assumption) ?rest13
          case hy13 => (intro w hSw; (try dsimp only at hSw); go_simp; first | done | with_reducible rfl)
          (try simp only [List.getElem_toArray, List.getElem_cons_succ, List.getElem_cons_zero, Act.put, List.setIfInBounds_toArray, List.set_cons_zero, List.set_cons_succ])
          refine wpAnyH_take (i := 14) (oi := _) (v := ?v14) rfl (by kernel_rfl) (by kernel_rfl) (by kernel_rfl) (fun _ _ _ h => h) (Or.inl ⟨by rfl, ?hy14⟩) (by assumption) ?rest14
          case hy14 => (intro w hSw; (try dsimp only at hSw); go_simp; first | done | with_reducible rfl)
          (try simp only [List.getElem_toArray, List.getElem_cons_succ, List.getElem_cons_zero, Act.put, List.setIfInBounds_toArray, List.set_cons_zero, List.set_cons_succ])
          refine wpAnyH_ready (rs := [4, 15]) (by kernel_rfl) (by simp) ?_
          refine AllReadyH.cons (o := _) rfl (fun K hK => ?st15) ?mo15
          case st15 =>
            go_simp
            refine hK.out _ _ (by go_split_ands <;> (try dsimp only) <;> go_simp) (fun hHeld15 => ?_)
            clear hK K
            (try simp only [List.getElem_toArray, List.getElem_cons_succ, List.getElem_cons_zero, Act.put, List.setIfInBounds_toArray, List.set_cons_zero, List.set_cons_succ])
            refine wpAnyH_ready (rs := [15]) (by kernel_rfl) (by simp) ?_
            refine AllReadyH.cons (o := _) rfl (fun K hK => ?st16) ?mo16
            case st16 =>
              go_simp
              refine hK.out _ _ (by go_split_ands <;> (try dsimp only) <;> go_simp) (fun hHeld16 => ?_)
              clear hK K
              (try simp only [List.getElem_toArray, List.getElem_cons_succ, List.getElem_cons_zero, Act.put, List.setIfInBounds_toArray, List.set_cons_zero, List.set_cons_succ])
              refine wpAnyH_ready (rs := [16]) (by kernel_rfl) (by simp) ?_
              refine AllReadyH.cons (o := _) rfl (fun K hK => ?st17) ?mo17
              case st17 =>
                refine Vg.step_que1 rfl (.tmp 66) (.tmp 77) 79 rfl lo 103 i0 (.agg #[.int .i64 0, .int .i64 0, .int .i64 0]) 3 24 Tryd.underlying79 hi hz0 hz1 hz2 rfl (by decide) sv' m (Vg.scells sm.S) (by simp [Act.eval, Act.put]) (H_hqP.out.grows (by (repeat' (first | (with_reducible exact Vg.Grows.refl _) | (with_reducible assumption) | (with_reducible refine Vg.Grows.alloc ?_ _) | (with_reducible refine Vg.Grows.plus ?_ _ _) | (with_reducible refine Vg.Grows.drewN ?_ _) | (with_reducible refine Vg.Grows.drew ?_) | (with_reducible refine Vg.Grows.setCell ?_ ?_ _) | (with_reducible refine Vg.Grows.put ?_ ?_ _) | omega | (simp; omega) | (simp; done))))) ⟨W5.heap.size, 0, none⟩ 1 [.int .i64 (k : Nat), .int .i64 top, .int .i64 bot] (by simp [Act.eval, Act.put]) rfl (Vg.three_new (by first | rfl | ((try simp only [World.size_alloc, Vg.plus_size, Vg.put_size, World.size_setCell, World.size_drew, World.heap_drewN]) <;> omega))) (by simp [Value.oneCell']) (by unfold maxLen; omega) (by omega) (by decide) (by simp only [World.size_alloc, World.size_drew, Vg.put_size]; omega) ?_; intro v7 W6 y7 m7 hq7 hs7 ho7; obtain ⟨a7, c7, rfl⟩ := hq7.shape; have hT7 := ((Vg.Touch.of_grows (t := fun j => sv'.ownBlock = some j) (by (repeat' (first | (with_reducible exact Vg.Grows.refl _) | (with_reducible assumption) | (with_reducible refine Vg.Grows.alloc ?_ _) | (with_reducible refine Vg.Grows.plus ?_ _ _) | (with_reducible refine Vg.Grows.drewN ?_ _) | (with_reducible refine Vg.Grows.drew ?_) | (with_reducible refine Vg.Grows.setCell ?_ ?_ _) | (with_reducible refine Vg.Grows.put ?_ ?_ _) | omega | (simp; omega) | (simp; done))) : Vg.Grows (Vg.put W5 b (irqC (sm.c.ack k).pe (sm.c.ack k).en ed pa4 n pc4 sa4 m4 sc4 (.slice (some ⟨g, o, none⟩) l c) sv' mk' now)) _)).trans (Vg.Touch.of_same hs7)).trans (Vg.Touch.of_grows ((Vg.Grows.refl _).plus y7 m7)); simp only [World.size_alloc, World.size_drew, Vg.put_size] at ho7; obtain ⟨W7, hW7⟩ : ∃ W7, Vg.plus W6 y7 m7 = W7 := ⟨_, rfl⟩; rw [hW7] at hq7 hT7 ⊢; clear hW7 hs7; have x7 := hT7.bk (Vg.blk_put_same hbl5) (fun hh => (H_hbs.out b hh).1 rfl); have hs7 := hT7.size; simp only [Vg.put_size] at hs7; have e17 := (World.cell?_of_block (a := ⟨g, o + k * 5 + 1, none⟩) (hT7.block g (by rw [Vg.put_size]; exact hg55) (fun hh => by have h9 := H_r5.out.os g hh; rw [H_r5.out.ol g rfl] at h9; omega))).trans H_e1b.out; have e27 := (World.cell?_of_block (a := ⟨g, o + k * 5 + 2, none⟩) (hT7.block g (by rw [Vg.put_size]; exact hg55) (fun hh => by have h9 := H_r5.out.os g hh; rw [H_r5.out.ol g rfl] at h9; omega))).trans H_e2b.out; have hg7 : g < W7.heap.size := (by omega); have c_x7 := Vg.cells_of x7; have f_x7 := Vg.frozen_of x7; have p_x7 := Vg.setCell_of x7; have l_x7 := Vg.lt_of x7; have H_x7 := Lib.hid x7; clear x7; have H_hq7 := Lib.hid hq7; clear hq7; have H_hT7 := Lib.hid hT7; clear hT7; have H_ho7 := Lib.hid ho7; clear ho7
                refine hK.out _ _ (by go_split_ands <;> (try dsimp only) <;> go_simp) (fun hHeld17 => ?_)
                clear hK K
                (try simp only [List.getElem_toArray, List.getElem_cons_succ, List.getElem_cons_zero, Act.put, List.setIfInBounds_toArray, List.set_cons_zero, List.set_cons_succ])
                refine wpAnyH_take (i := 17) (oi := _) (v := ?v18) rfl (by kernel_rfl) (by kernel_rfl) (by kernel_rfl) (fun _ _ _ h => h) (Or.inl ⟨by rfl, ?hy18⟩) (by assumption) ?rest18
                case hy18 => (intro w hSw; (try dsimp only at hSw); go_simp; first | done | with_reducible rfl)
                (try simp only [List.getElem_toArray, List.getElem_cons_succ, List.getElem_cons_zero, Act.put, List.setIfInBounds_toArray, List.set_cons_zero, List.set_cons_succ])
                refine wpAnyH_take (i := 18) (oi := _) (v := ?v19) rfl (by kernel_rfl) (by kernel_rfl) (by kernel_rfl) (fun _ _ _ h => h) (Or.inl ⟨by rfl, ?hy19⟩) (by assumption) ?rest19
                case hy19 => (intro w hSw; (try dsimp only at hSw); go_simp; first | done | with_reducible rfl)
                (try simp only [List.getElem_toArray, List.getElem_cons_succ, List.getElem_cons_zero, Act.put, List.setIfInBounds_toArray, List.set_cons_zero, List.set_cons_succ])
                refine wpAnyH_ready (rs := [19]) (by kernel_rfl) (by simp) ?_
                refine AllReadyH.cons (o := _) rfl (fun K hK => ?st20) ?mo20
                case st20 =>
                  go_simp
                  refine hK.out _ _ (by go_split_ands <;> (try dsimp only) <;> go_simp) (fun hHeld20 => ?_)
                  clear hK K
                  (try simp only [List.getElem_toArray, List.getElem_cons_succ, List.getElem_cons_zero, Act.put, List.setIfInBounds_toArray, List.set_cons_zero, List.set_cons_succ])
                  refine wpAnyH_done (by kernel_rfl) ?_ _
                  go_wp2_with fail
                  (try rw [Exit.noGoto_ret])
                  go_returns
                  have hG := H_h3w.out
                  have hR := H_r5.out
                  have hF0 : Vg.Touch (fun j => j = b ∨ sv'.ownBlock = some j) W5 (Vg.put W5 b (irqC (sm.c.ack k).pe (sm.c.ack k).en ed pa4 n pc4 sa4 m4 sc4 (.slice (some ⟨g, o, none⟩) l c) sv' mk' now)) := Vg.Touch.put (Vg.Touch.refl (fun j => j = b ∨ sv'.ownBlock = some j) W5) (.inl rfl) _
                  have hF := (hF0.trans (H_hT7.out.mono fun j _ hj => .inr hj)).put (.inl rfl) (irqC (sm.c.ack k).pe (sm.c.ack k).en ed pa4 n pc4 sa4 m4 sc4 (.slice (some ⟨g, o, none⟩) l c) (.slice a7 (m + 1) c7) mk' now)
                  have hho : ∀ j, (Value.slice a7 (m + 1) c7).ownBlock = some j → sv'.ownBlock = some j ∨ j = W5.heap.size + 1 := fun j hj => by
                    rcases H_ho7.out with h9 | h9
                    · exact .inl (h9.symm.trans hj)
                    · have h8 := h9.symm.trans hj
                      simp at h8
                      exact .inr h8.symm
                  have hnb : ∀ j, (Value.slice a7 (m + 1) c7).ownBlock = some j → j ≠ b := fun j hj => by
                    rcases hho j hj with h9 | h9
                    · exact (H_hbs.out j h9).1
                    · omega
                  have hq9 := H_hq7.out.kept (w' := Vg.put W7 b (irqC (sm.c.ack k).pe (sm.c.ack k).en ed pa4 n pc4 sa4 m4 sc4 (.slice (some ⟨g, o, none⟩) l c) (.slice a7 (m + 1) c7) mk' now)) fun j hj => Vg.put_heap_other (fun hh => hnb j hj hh.symm)
                  have hSl : (sm.S ++ [(⟨k, top, bot⟩ : Vg.Bg)]).length = m + 1 := by rw [List.length_append, H_hm.out]; rfl
                  have hq10 : Vg.Que (Vg.put W7 b (irqC (sm.c.ack k).pe (sm.c.ack k).en ed pa4 n pc4 sa4 m4 sc4 (.slice (some ⟨g, o, none⟩) l c) (.slice a7 (m + 1) c7) mk' now)) lo 103 3 (.slice a7 (m + 1) c7) (sm.S ++ [(⟨k, top, bot⟩ : Vg.Bg)]).length (Vg.scells (sm.S ++ [⟨k, top, bot⟩])) := by
                    rw [Vg.scells_append, hSl]; exact hq9
                  have hst : (sm.c.ack k).st = (sm.S ++ [(⟨k, top, bot⟩ : Vg.Bg)]).map (·.k) := by
                    show sm.c.st ++ [k] = _
                    rw [List.map_append, hG.ok.st]; rfl
                  have hmm : m4 = (sm.S ++ [(⟨k, top, bot⟩ : Vg.Bg)]).length := by rw [← H_hI4.out.m, hst, List.length_map]
                  have hno4 : ∀ j, w3.heap.size ≤ j → ow' j = 0 := fun j hj => Classical.byContradiction fun hh => by have := (hG.hw j hh).2; omega
                  have hg3l : g < w3.heap.size := (hG.hw g (by rw [hG.ol g rfl]; omega)).2
                  have hlo3 : lo ≤ w3.heap.size := by have := (hG.hw b (by rw [hG.ob]; omega)); omega
                  have hf4 : ∀ j, w3.heap.size ≤ j ∧ j < w4.heap.size → j ≠ b ∧ j ≠ g ∧ sv'.ownBlock ≠ some j := fun j hj => ⟨by have := (hG.hw b (by rw [hG.ob]; omega)).2; omega, by omega, fun hh => by have := (H_hbs.out j hh).2; omega⟩
                  have hI5 := (H_hI4.out.touch (Vg.Touch.of_same H_s5.out) (fun j hj => (hf4 j (H_f1.out j hj)).2.1) (fun j hj => (hf4 j (H_f2.out j hj)).2.1)).touch hF (fun j hj hh => hh.elim (hf4 j (H_f1.out j hj)).1 (hf4 j (H_f1.out j hj)).2.2) (fun j hj hh => hh.elim (hf4 j (H_f2.out j hj)).1 (hf4 j (H_f2.out j hj)).2.2)
                  have hsz9 : (Vg.put W7 b (irqC (sm.c.ack k).pe (sm.c.ack k).en ed pa4 n pc4 sa4 m4 sc4 (.slice (some ⟨g, o, none⟩) l c) (.slice a7 (m + 1) c7) mk' now)).heap.size = W7.heap.size := Vg.put_size
                  have hne0 : sm.ls ≠ [] := fun hh => by rw [hh] at hkl'; simp at hkl'
                  obtain ⟨ow9, h9, h10⟩ := hR.both2 (c' := sm.c.ack k) (mk' := mk') (last' := now) (S' := sm.S ++ [⟨k, top, bot⟩]) (sv' := .slice a7 (m + 1) c7) hq10 hF hst (fun hh => by
                    have h8 := congrArg List.length hh
                    simp [Vg.Iq.setl] at h8
                    exact absurd h8 hne0) hmm (by rw [H_hed.out]; exact Vg.blk_put_same l_x7) hI5 hR.hmk
                    (fun j hj => .inr ⟨hno4 j (H_f1.out j hj).1, by have := (H_f1.out j hj).1; omega, by have := (H_f1.out j hj).2; omega⟩)
                    (fun j hj => .inr ⟨hno4 j (H_f2.out j hj).1, by have := (H_f2.out j hj).1; omega, by have := (H_f2.out j hj).2; omega⟩)
                    (fun j hj => by
                      rcases hho j hj with h8 | h8
                      · exact .inl (hG.os j h8)
                      · have h7 := (H_hq7.out.lt j hj).2
                        exact .inr ⟨hno4 j (by omega), by omega, by rw [hsz9]; exact h7⟩)
                    (fun j hj => by
                      rcases hho j hj with h8 | h8
                      · have h7 := (H_hbs.out j h8).2
                        exact ⟨fun hh => by have := (H_f1.out j hh).1; omega, fun hh => by have := (H_f2.out j hh).1; omega⟩
                      · exact ⟨fun hh => by have := (H_f1.out j hh).2; omega, fun hh => by have := (H_f2.out j hh).2; omega⟩)
                  simp only [Vg.Iq.setl, List.set_set] at h9
                  have t1 : Vg.Touch OB' wr w2 := Vg.Touch.of_grows H_hg2.out
                  have t2 : Vg.Touch OB' w2 w3 := H_ht3.out.mono fun j _ hj => hj.elim (fun e => by rw [e]; exact H_hOm.out.1) (fun e => by rw [e]; exact H_hOm.out.2)
                  have t3 : Vg.Touch OB' w3 w4 := Vg.Touch.of_grows H_hg4.out
                  have t4 : Vg.Touch OB' w4 W5 := (Vg.Touch.of_same H_s5.out).mono fun j _ hj => by rw [hj]; exact H_hOg.out
                  have t5 : Vg.Touch OB' W5 (Vg.put W7 b (irqC (sm.c.ack k).pe (sm.c.ack k).en ed pa4 n pc4 sa4 m4 sc4 (.slice (some ⟨g, o, none⟩) l c) (.slice a7 (m + 1) c7) mk' now)) := hF.mono fun j _ hj => hj.elim (fun e => by rw [e]; exact H_hOb.out) (fun e => H_g2.out j (by rw [hG.os j e]; omega))
                  refine ⟨k, true, 0, _, rfl, QSn.next H_hO.out H_hT0.out h9 (fun j hj => ?_) ((((t1.trans t2).trans t3).trans t4).trans t5), .inr ⟨rfl, l1, l2, rfl, .inr ⟨rfl, k, sm, ⟨top, bot, lost, srv, many, wd, q, ml⟩, ⟨top, bot, lost, srv, many, wd, q9, m9⟩, rfl, H_hC.out, by rw [List.getElem?_eq_getElem hkl', H_hyp.out], H_hE.out, by rw [← H_hC.out.pe]; exact hkp, by rw [← H_hC.out.st]; exact hks, rfl⟩⟩⟩
                  rcases h10 j hj with h8 | h8 | h8 | h8
                  · exact .inl (H_g2.out j h8)
                  · exact .inr (by have := (H_f1.out j h8).1; omega)
                  · exact .inr (by have := (H_f2.out j h8).1; omega)
                  · rcases hho j h8 with h7 | h7
                    · exact .inl (H_g2.out j (by rw [hG.os j h7]; omega))
                    · exact .inr (by omega)
                exact AllReadyH.nil
              exact AllReadyH.nil
            exact AllReadyH.nil
          refine AllReadyH.cons (o := _) rfl (fun K hK => ?st21) ?mo21
          case st21 =>
            go_simp
            refine hK.out _ _ (by go_split_ands <;> (try dsimp only) <;> go_simp) (fun hHeld21 => ?_)
            clear hK K
            (try simp only [List.getElem_toArray, List.getElem_cons_succ, List.getElem_cons_zero, Act.put, List.setIfInBounds_toArray, List.set_cons_zero, List.set_cons_succ])
            refine wpAnyH_ready (rs := [4]) (by kernel_rfl) (by simp) ?_
            refine AllReadyH.cons (o := _) rfl (fun K hK => ?st22) ?mo22
            case st22 =>
              go_simp
              refine hK.out _ _ (by go_split_ands <;> (try dsimp only) <;> go_simp) (fun hHeld22 => ?_)
              clear hK K
              (try simp only [List.getElem_toArray, List.getElem_cons_succ, List.getElem_cons_zero, Act.put, List.setIfInBounds_toArray, List.set_cons_zero, List.set_cons_succ])
              refine wpAnyH_ready (rs := [16]) (by kernel_rfl) (by simp) ?_
              refine AllReadyH.cons (o := _) rfl (fun K hK => ?st23) ?mo23
              case st23 =>
                refine Vg.step_que1 rfl (.tmp 66) (.tmp 77) 79 rfl lo 103 i0 (.agg #[.int .i64 0, .int .i64 0, .int .i64 0]) 3 24 Tryd.underlying79 hi hz0 hz1 hz2 rfl (by decide) sv' m (Vg.scells sm.S) (by simp [Act.eval, Act.put]) (H_hqP.out.grows (by (repeat' (first | (with_reducible exact Vg.Grows.refl _) | (with_reducible assumption) | (with_reducible refine Vg.Grows.alloc ?_ _) | (with_reducible refine Vg.Grows.plus ?_ _ _) | (with_reducible refine Vg.Grows.drewN ?_ _) | (with_reducible refine Vg.Grows.drew ?_) | (with_reducible refine Vg.Grows.setCell ?_ ?_ _) | (with_reducible refine Vg.Grows.put ?_ ?_ _) | omega | (simp; omega) | (simp; done))))) ⟨W5.heap.size, 0, none⟩ 1 [.int .i64 (k : Nat), .int .i64 top, .int .i64 bot] (by simp [Act.eval, Act.put]) rfl (Vg.three_new (by first | rfl | ((try simp only [World.size_alloc, Vg.plus_size, Vg.put_size, World.size_setCell, World.size_drew, World.heap_drewN]) <;> omega))) (by simp [Value.oneCell']) (by unfold maxLen; omega) (by omega) (by decide) (by simp only [World.size_alloc, World.size_drew, Vg.put_size]; omega) ?_; intro v7 W6 y7 m7 hq7 hs7 ho7; obtain ⟨a7, c7, rfl⟩ := hq7.shape; have hT7 := ((Vg.Touch.of_grows (t := fun j => sv'.ownBlock = some j) (by (repeat' (first | (with_reducible exact Vg.Grows.refl _) | (with_reducible assumption) | (with_reducible refine Vg.Grows.alloc ?_ _) | (with_reducible refine Vg.Grows.plus ?_ _ _) | (with_reducible refine Vg.Grows.drewN ?_ _) | (with_reducible refine Vg.Grows.drew ?_) | (with_reducible refine Vg.Grows.setCell ?_ ?_ _) | (with_reducible refine Vg.Grows.put ?_ ?_ _) | omega | (simp; omega) | (simp; done))) : Vg.Grows (Vg.put W5 b (irqC (sm.c.ack k).pe (sm.c.ack k).en ed pa4 n pc4 sa4 m4 sc4 (.slice (some ⟨g, o, none⟩) l c) sv' mk' now)) _)).trans (Vg.Touch.of_same hs7)).trans (Vg.Touch.of_grows ((Vg.Grows.refl _).plus y7 m7)); simp only [World.size_alloc, World.size_drew, Vg.put_size] at ho7; obtain ⟨W7, hW7⟩ : ∃ W7, Vg.plus W6 y7 m7 = W7 := ⟨_, rfl⟩; rw [hW7] at hq7 hT7 ⊢; clear hW7 hs7; have x7 := hT7.bk (Vg.blk_put_same hbl5) (fun hh => (H_hbs.out b hh).1 rfl); have hs7 := hT7.size; simp only [Vg.put_size] at hs7; have e17 := (World.cell?_of_block (a := ⟨g, o + k * 5 + 1, none⟩) (hT7.block g (by rw [Vg.put_size]; exact hg55) (fun hh => by have h9 := H_r5.out.os g hh; rw [H_r5.out.ol g rfl] at h9; omega))).trans H_e1b.out; have e27 := (World.cell?_of_block (a := ⟨g, o + k * 5 + 2, none⟩) (hT7.block g (by rw [Vg.put_size]; exact hg55) (fun hh => by have h9 := H_r5.out.os g hh; rw [H_r5.out.ol g rfl] at h9; omega))).trans H_e2b.out; have hg7 : g < W7.heap.size := (by omega); have c_x7 := Vg.cells_of x7; have f_x7 := Vg.frozen_of x7; have p_x7 := Vg.setCell_of x7; have l_x7 := Vg.lt_of x7; have H_x7 := Lib.hid x7; clear x7; have H_hq7 := Lib.hid hq7; clear hq7; have H_hT7 := Lib.hid hT7; clear hT7; have H_ho7 := Lib.hid ho7; clear ho7
                refine hK.out _ _ (by go_split_ands <;> (try dsimp only) <;> go_simp) (fun hHeld23 => ?_)
                clear hK K
                (try simp only [List.getElem_toArray, List.getElem_cons_succ, List.getElem_cons_zero, Act.put, List.setIfInBounds_toArray, List.set_cons_zero, List.set_cons_succ])
                refine wpAnyH_take (i := 17) (oi := _) (v := ?v24) rfl (by kernel_rfl) (by kernel_rfl) (by kernel_rfl) (fun _ _ _ h => h) (Or.inl ⟨by rfl, ?hy24⟩) (by assumption) ?rest24
                case hy24 => (intro w hSw; (try dsimp only at hSw); go_simp; first | done | with_reducible rfl)
                (try simp only [List.getElem_toArray, List.getElem_cons_succ, List.getElem_cons_zero, Act.put, List.setIfInBounds_toArray, List.set_cons_zero, List.set_cons_succ])
                refine wpAnyH_take (i := 18) (oi := _) (v := ?v25) rfl (by kernel_rfl) (by kernel_rfl) (by kernel_rfl) (fun _ _ _ h => h) (Or.inl ⟨by rfl, ?hy25⟩) (by assumption) ?rest25
                case hy25 => (intro w hSw; (try dsimp only at hSw); go_simp; first | done | with_reducible rfl)
                (try simp only [List.getElem_toArray, List.getElem_cons_succ, List.getElem_cons_zero, Act.put, List.setIfInBounds_toArray, List.set_cons_zero, List.set_cons_succ])
                refine wpAnyH_ready (rs := [19]) (by kernel_rfl) (by simp) ?_
                refine AllReadyH.cons (o := _) rfl (fun K hK => ?st26) ?mo26
                case st26 =>
                  go_simp
                  refine hK.out _ _ (by go_split_ands <;> (try dsimp only) <;> go_simp) (fun hHeld26 => ?_)
                  clear hK K
                  (try simp only [List.getElem_toArray, List.getElem_cons_succ, List.getElem_cons_zero, Act.put, List.setIfInBounds_toArray, List.set_cons_zero, List.set_cons_succ])
                  refine wpAnyH_done (by kernel_rfl) ?_ _
                  go_wp2_with fail
                  (try rw [Exit.noGoto_ret])
                  go_returns
                  have hG := H_h3w.out
                  have hR := H_r5.out
                  have hF0 : Vg.Touch (fun j => j = b ∨ sv'.ownBlock = some j) W5 (Vg.put W5 b (irqC (sm.c.ack k).pe (sm.c.ack k).en ed pa4 n pc4 sa4 m4 sc4 (.slice (some ⟨g, o, none⟩) l c) sv' mk' now)) := Vg.Touch.put (Vg.Touch.refl (fun j => j = b ∨ sv'.ownBlock = some j) W5) (.inl rfl) _
                  have hF := (hF0.trans (H_hT7.out.mono fun j _ hj => .inr hj)).put (.inl rfl) (irqC (sm.c.ack k).pe (sm.c.ack k).en ed pa4 n pc4 sa4 m4 sc4 (.slice (some ⟨g, o, none⟩) l c) (.slice a7 (m + 1) c7) mk' now)
                  have hho : ∀ j, (Value.slice a7 (m + 1) c7).ownBlock = some j → sv'.ownBlock = some j ∨ j = W5.heap.size + 1 := fun j hj => by
                    rcases H_ho7.out with h9 | h9
                    · exact .inl (h9.symm.trans hj)
                    · have h8 := h9.symm.trans hj
                      simp at h8
                      exact .inr h8.symm
                  have hnb : ∀ j, (Value.slice a7 (m + 1) c7).ownBlock = some j → j ≠ b := fun j hj => by
                    rcases hho j hj with h9 | h9
                    · exact (H_hbs.out j h9).1
                    · omega
                  have hq9 := H_hq7.out.kept (w' := Vg.put W7 b (irqC (sm.c.ack k).pe (sm.c.ack k).en ed pa4 n pc4 sa4 m4 sc4 (.slice (some ⟨g, o, none⟩) l c) (.slice a7 (m + 1) c7) mk' now)) fun j hj => Vg.put_heap_other (fun hh => hnb j hj hh.symm)
                  have hSl : (sm.S ++ [(⟨k, top, bot⟩ : Vg.Bg)]).length = m + 1 := by rw [List.length_append, H_hm.out]; rfl
                  have hq10 : Vg.Que (Vg.put W7 b (irqC (sm.c.ack k).pe (sm.c.ack k).en ed pa4 n pc4 sa4 m4 sc4 (.slice (some ⟨g, o, none⟩) l c) (.slice a7 (m + 1) c7) mk' now)) lo 103 3 (.slice a7 (m + 1) c7) (sm.S ++ [(⟨k, top, bot⟩ : Vg.Bg)]).length (Vg.scells (sm.S ++ [⟨k, top, bot⟩])) := by
                    rw [Vg.scells_append, hSl]; exact hq9
                  have hst : (sm.c.ack k).st = (sm.S ++ [(⟨k, top, bot⟩ : Vg.Bg)]).map (·.k) := by
                    show sm.c.st ++ [k] = _
                    rw [List.map_append, hG.ok.st]; rfl
                  have hmm : m4 = (sm.S ++ [(⟨k, top, bot⟩ : Vg.Bg)]).length := by rw [← H_hI4.out.m, hst, List.length_map]
                  have hno4 : ∀ j, w3.heap.size ≤ j → ow' j = 0 := fun j hj => Classical.byContradiction fun hh => by have := (hG.hw j hh).2; omega
                  have hg3l : g < w3.heap.size := (hG.hw g (by rw [hG.ol g rfl]; omega)).2
                  have hlo3 : lo ≤ w3.heap.size := by have := (hG.hw b (by rw [hG.ob]; omega)); omega
                  have hf4 : ∀ j, w3.heap.size ≤ j ∧ j < w4.heap.size → j ≠ b ∧ j ≠ g ∧ sv'.ownBlock ≠ some j := fun j hj => ⟨by have := (hG.hw b (by rw [hG.ob]; omega)).2; omega, by omega, fun hh => by have := (H_hbs.out j hh).2; omega⟩
                  have hI5 := (H_hI4.out.touch (Vg.Touch.of_same H_s5.out) (fun j hj => (hf4 j (H_f1.out j hj)).2.1) (fun j hj => (hf4 j (H_f2.out j hj)).2.1)).touch hF (fun j hj hh => hh.elim (hf4 j (H_f1.out j hj)).1 (hf4 j (H_f1.out j hj)).2.2) (fun j hj hh => hh.elim (hf4 j (H_f2.out j hj)).1 (hf4 j (H_f2.out j hj)).2.2)
                  have hsz9 : (Vg.put W7 b (irqC (sm.c.ack k).pe (sm.c.ack k).en ed pa4 n pc4 sa4 m4 sc4 (.slice (some ⟨g, o, none⟩) l c) (.slice a7 (m + 1) c7) mk' now)).heap.size = W7.heap.size := Vg.put_size
                  have hne0 : sm.ls ≠ [] := fun hh => by rw [hh] at hkl'; simp at hkl'
                  obtain ⟨ow9, h9, h10⟩ := hR.both2 (c' := sm.c.ack k) (mk' := mk') (last' := now) (S' := sm.S ++ [⟨k, top, bot⟩]) (sv' := .slice a7 (m + 1) c7) hq10 hF hst (fun hh => by
                    have h8 := congrArg List.length hh
                    simp [Vg.Iq.setl] at h8
                    exact absurd h8 hne0) hmm (by rw [H_hed.out]; exact Vg.blk_put_same l_x7) hI5 hR.hmk
                    (fun j hj => .inr ⟨hno4 j (H_f1.out j hj).1, by have := (H_f1.out j hj).1; omega, by have := (H_f1.out j hj).2; omega⟩)
                    (fun j hj => .inr ⟨hno4 j (H_f2.out j hj).1, by have := (H_f2.out j hj).1; omega, by have := (H_f2.out j hj).2; omega⟩)
                    (fun j hj => by
                      rcases hho j hj with h8 | h8
                      · exact .inl (hG.os j h8)
                      · have h7 := (H_hq7.out.lt j hj).2
                        exact .inr ⟨hno4 j (by omega), by omega, by rw [hsz9]; exact h7⟩)
                    (fun j hj => by
                      rcases hho j hj with h8 | h8
                      · have h7 := (H_hbs.out j h8).2
                        exact ⟨fun hh => by have := (H_f1.out j hh).1; omega, fun hh => by have := (H_f2.out j hh).1; omega⟩
                      · exact ⟨fun hh => by have := (H_f1.out j hh).2; omega, fun hh => by have := (H_f2.out j hh).2; omega⟩)
                  simp only [Vg.Iq.setl, List.set_set] at h9
                  have t1 : Vg.Touch OB' wr w2 := Vg.Touch.of_grows H_hg2.out
                  have t2 : Vg.Touch OB' w2 w3 := H_ht3.out.mono fun j _ hj => hj.elim (fun e => by rw [e]; exact H_hOm.out.1) (fun e => by rw [e]; exact H_hOm.out.2)
                  have t3 : Vg.Touch OB' w3 w4 := Vg.Touch.of_grows H_hg4.out
                  have t4 : Vg.Touch OB' w4 W5 := (Vg.Touch.of_same H_s5.out).mono fun j _ hj => by rw [hj]; exact H_hOg.out
                  have t5 : Vg.Touch OB' W5 (Vg.put W7 b (irqC (sm.c.ack k).pe (sm.c.ack k).en ed pa4 n pc4 sa4 m4 sc4 (.slice (some ⟨g, o, none⟩) l c) (.slice a7 (m + 1) c7) mk' now)) := hF.mono fun j _ hj => hj.elim (fun e => by rw [e]; exact H_hOb.out) (fun e => H_g2.out j (by rw [hG.os j e]; omega))
                  refine ⟨k, true, 0, _, rfl, QSn.next H_hO.out H_hT0.out h9 (fun j hj => ?_) ((((t1.trans t2).trans t3).trans t4).trans t5), .inr ⟨rfl, l1, l2, rfl, .inr ⟨rfl, k, sm, ⟨top, bot, lost, srv, many, wd, q, ml⟩, ⟨top, bot, lost, srv, many, wd, q9, m9⟩, rfl, H_hC.out, by rw [List.getElem?_eq_getElem hkl', H_hyp.out], H_hE.out, by rw [← H_hC.out.pe]; exact hkp, by rw [← H_hC.out.st]; exact hks, rfl⟩⟩⟩
                  rcases h10 j hj with h8 | h8 | h8 | h8
                  · exact .inl (H_g2.out j h8)
                  · exact .inr (by have := (H_f1.out j h8).1; omega)
                  · exact .inr (by have := (H_f2.out j h8).1; omega)
                  · rcases hho j h8 with h7 | h7
                    · exact .inl (H_g2.out j (by rw [hG.os j h7]; omega))
                    · exact .inr (by omega)
                exact AllReadyH.nil
              exact AllReadyH.nil
            exact AllReadyH.nil
          exact AllReadyH.nil
        · obtain ⟨q9, hq9⟩ : ∃ q9, (Vg.Mask.enter ⟨q, ml, 0⟩ many wd now).1.q = q9 := ⟨_, rfl⟩
          obtain ⟨m9, hm9⟩ : ∃ m9, (Vg.Mask.enter ⟨q, ml, 0⟩ many wd now).1.last = m9 := ⟨_, rfl⟩
          rw [hq9, hm9] at hE
          have hml9 : 0 ≤ m9 := (hE.each ⟨hwd.1, hwd.2⟩).2
          rcases hr with hr | hr
          all_goals
            have H_hgk := Lib.hid hgk; clear hgk; have H_hC := Lib.hid hC; clear hC; have H_hO := Lib.hid hO; clear hO; have H_hT0 := Lib.hid hT0; clear hT0; have H_g1 := Lib.hid g1; clear g1; have H_g2 := Lib.hid g2; clear g2; have H_g3 := Lib.hid g3; clear g3; have H_hT9 := Lib.hid hT9; clear hT9; have H_hed := Lib.hid hed; clear hed; have H_hpe := Lib.hid hpe; clear hpe; have H_hen := Lib.hid hen; clear hen; have H_hm := Lib.hid hm; clear hm; have H_his := Lib.hid his; clear his; have H_hN := Lib.hid hN; clear hN; have H_hx := Lib.hid hx; clear hx; have H_hla := Lib.hid hla; clear hla; have H_hu := Lib.hid hu; clear hu; have H_hl := Lib.hid hl; clear hl; have H_hz := Lib.hid hz; clear hz; have H_hyp := Lib.hid hyp; clear hyp; have H_hom := Lib.hid hom; clear hom; have H_hmk := Lib.hid hmk; clear hmk; have H_hr := Lib.hid hr; clear hr; have H_hE := Lib.hid hE; clear hE; have H_hq9 := Lib.hid hq9; clear hq9; have H_hm9 := Lib.hid hm9; clear hm9; have H_hwd := Lib.hid hwd; clear hwd; have H_hml9 := Lib.hid hml9; clear hml9; have H_hOm := Lib.hid hOm; clear hOm; have H_hOb := Lib.hid hOb; clear hOb; have H_hOg := Lib.hid hOg; clear hOg; have H_hen64 := Lib.hid hen64; clear hen64; have H_h0m := Lib.hid h0m; clear h0m
            have c_hb := Vg.cells_of hb; have f_hb := Vg.frozen_of hb; have p_hb := Vg.setCell_of hb; have l_hb := Vg.lt_of hb; have H_hb := Lib.hid hb; clear hb
            go_wp2_with (first | (go_at_call 34; (with_reducible refine (H_hN.out).mono ?_); rintro e w2 ⟨rfl, hg2⟩; have yb := hg2.blk H_hb.out; have hs2 := hg2.size; obtain ⟨u0, u1, u2, u4, hg3⟩ := H_hu.out w2 hg2; clear c_hb f_hb p_hb u1 u2 u4; have c_yb := Vg.cells_of yb; have f_yb := Vg.frozen_of yb; have p_yb := Vg.setCell_of yb; have l_yb := Vg.lt_of yb; have H_yb := Lib.hid yb; clear yb; have H_hg2 := Lib.hid hg2; clear hg2) | (go_at_call 35; (with_reducible refine (mk_enter now (H_hmk.out.grows H_hg2.out) H_hwd.out.1 H_hwd.out.2 H_hr.out).mono ?_); rintro e w3 ⟨rfl, hm3, ht3⟩; rw [H_hq9.out, H_hm9.out] at hm3; have h3w := (H_g1.out.grows H_hg2.out).masks (w' := w3) (q' := q9) (ml' := m9) hky (by rw [H_hz.out]; exact hm3) H_hml9.out (by rw [H_hz.out]; exact ht3); have hs3 := ht3.size; have H_h3w := Lib.hid h3w; clear h3w; have H_ht3 := Lib.hid ht3; clear ht3) | (go_at_call 33; (with_reducible refine (irq_mask k true (by rw [List.length_set]; exact hky) H_h3w.out).mono ?_); rintro e w4 ⟨rfl, ⟨mk4, pa4, pc4, sa4, sc4, ow4, h4w, how4⟩, ht4⟩; have H_h4w := Lib.hid h4w; clear h4w; have H_how4 := Lib.hid how4; clear how4; have H_ht4 := Lib.hid ht4; clear ht4))
            go_roundg (Vg.clr en k)
            case measure => rw [H_hgk.out, H_hen.out]; exact Vg.clr_lt_self H_hen64.out hk64 hke
            case rel =>
              have t1 : Vg.Touch OB' wr w2 := Vg.Touch.of_grows H_hg2.out
              have t2 : Vg.Touch OB' w2 w3 := H_ht3.out.mono fun j _ hj => hj.elim (fun e => by rw [e]; exact H_hOm.out.1) (fun e => by rw [e]; exact H_hOm.out.2)
              have t3 : Vg.Touch OB' w3 w4 := H_ht4.out.mono fun j _ hj => by rw [hj]; exact H_hOb.out
              refine ⟨_, ?_, QSn.next H_hO.out H_hT0.out H_h4w.out (fun j hj => ?_) ((t1.trans t2).trans t3), H_hC.out.trans ⟨rfl, rfl, rfl, rfl, ?_⟩, H_hla.out⟩
              · show Vg.clr en k = Vg.clr sm.c.en k
                rw [H_hen.out]
              · rcases H_how4.out j hj with h5 | h5
                · exact .inl (H_g2.out j h5)
                · exact .inr (by omega)
              · show Vg.Tolds now sm.ls (sm.ls.set k ⟨ys[k].p.top, ys[k].p.bot, ys[k].p.lost, ys[k].p.srv, ys[k].p.many, ys[k].p.wd, q9, m9⟩)
                rw [H_hz.out]
                exact Vg.Tolds.set hkl' (by rw [H_hyp.out]; exact H_hE.out)
end
end Go.Proofs.YtekjnagojphmkaaDoor
