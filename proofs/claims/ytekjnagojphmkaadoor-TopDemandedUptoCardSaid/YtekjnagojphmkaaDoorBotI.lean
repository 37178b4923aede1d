/- Package bottom: the iterator 'able', Pick. -/
import Derived.Test.YtekjnagojphmkaaDoorKept
import Derived.Test.YtekjnagojphmkaaDoorCiM
import Derived.Test.YtekjnagojphmkaaDoorCeilR
import Derived.Test.YtekjnagojphmkaaDoorBtM
set_option linter.unusedSimpArgs false
set_option linter.unusedVariables false
set_option maxHeartbeats 2000000
set_option maxRecDepth 100000
namespace Vg
open Go
def Bo.prio (Bs : List Bp) (i : Nat) : Int := match Bs[i]? with | none => 0 | some x => x.t.pr
def Bo.ables (Bs : List Bp) (Q : List Wq) (k : Nat) : List Nat := (List.range k).filter (Bo.ableK Bs Q)
theorem Bo.ables_succ (Bs : List Bp) (Q : List Wq) (k : Nat) : Bo.ables Bs Q (k + 1) = Bo.ables Bs Q k ++ if Bo.ableK Bs Q k = true then [k] else [] := by
  unfold Bo.ables
  rw [List.range_succ, List.filter_append]
  congr 1
  by_cases h : Bo.ableK Bs Q k = true
  · simp [h]
  · simp [h]
theorem Bo.ables_len (Bs : List Bp) (Q : List Wq) (k : Nat) : (Bo.ables Bs Q k).length ≤ k := by
  unfold Bo.ables
  have := List.length_filter_le (Bo.ableK Bs Q) (List.range k)
  simpa using this
def Bo.pk (Bs : List Bp) : List Nat → Int × Int → Int × Int
  | [], r => r
  | i :: l, r => Bo.pk Bs l (if r.2 < Bo.prio Bs i then ((i : Int), Bo.prio Bs i) else r)
theorem Bo.pk_snoc (Bs : List Bp) : ∀ (l : List Nat) (i : Nat) (r : Int × Int), Bo.pk Bs (l ++ [i]) r = if (Bo.pk Bs l r).2 < Bo.prio Bs i then ((i : Int), Bo.prio Bs i) else Bo.pk Bs l r
  | [], i, r => rfl
  | j :: l, i, r => by simp only [List.cons_append, Bo.pk]; exact Bo.pk_snoc Bs l i _
def Bo.best (Bs : List Bp) (Q : List Wq) : Int := (Bo.pk Bs (Bo.ables Bs Q Bs.length) (-1, -1)).1
end Vg
namespace Go.Proofs.YtekjnagojphmkaaDoor
open Go.ChangeShapes Go.WideShapes Go.ChangeAt Go.RowKit Go.Shelf
attribute [local go_sem] Oper.semAt_some
abbrev thV (x : Vg.Bt) : Obj := .cells #[.int .i64 x.p.t.pr, .int .i64 x.p.t.bu, .int .i64 x.p.t.pe, .int .i64 x.p.t.dp, .pointer (some ⟨x.sb, 0, none⟩)] 127
theorem bot_iter (b : Nat) (w : World) :
    Calls Tryd.prog 51 #[.pointer (some ⟨b, 0, none⟩)] w fun e w' => e = .returned (.func (.func 79) #[] #[.pointer (some ⟨w.heap.size, 0, none⟩)]) ∧ w' = w.alloc (.cells #[.pointer (some ⟨b, 0, none⟩)] 57) := by
  go_enter Tryd.func51, Tryd.ntmps51
  go_wp2
  go_ret
  exact ⟨rfl, rfl⟩
section
variable {w w' : World} {b wb : Nat} {xs : List Vg.Bt} {rv wv : Value} {Q : List Vg.Wq} {O : Nat → Prop}
theorem BT.kept (h : BT w b xs rv wb Q wv O) (hs : w.heap.size ≤ w'.heap.size) (hk : ∀ k, bown b xs rv wb O k → w'.heap[k]? = w.heap[k]?) : BT w' b xs rv wb Q wv O := by
  refine ⟨(hk b (.inl rfl)).trans h.tab, h.shp, ?_, fun i hi => (h.srv i hi).kept (hk _ (.inr (.inr (.inl ⟨i, hi, .inl rfl⟩)))) fun k hv => hk k (.inr (.inr (.inl ⟨i, hi, .inr hv⟩))), ?_, h.dis, h.offw, h.offb, h.wofb⟩
  · rcases h.row with h0 | ⟨g, off, cap, e, h2, h3, h4, h5, h6⟩
    · exact .inl h0
    · refine .inr ⟨g, off, cap, e, h2, Nat.lt_of_lt_of_le h3 hs, h4, h5, fun j hj => ?_⟩
      rw [← h6 j hj]
      exact World.cell?_of_block (w := w) (hk g (.inr (.inl (by rw [e]; rfl))))
  · obtain ⟨⟨qs, h1, h2, h3⟩, h4, h5, h6⟩ := h.wrk
    exact ⟨⟨qs, h1.kept (hk wb (.inr (.inr (.inr (.inl rfl))))) (fun k hv => hk k (.inr (.inr (.inr (.inr (h3 k hv)))))), h2, h3⟩, h4, Nat.le_trans h5 hs, fun k hv => ⟨(h6 k hv).1, Nat.lt_of_lt_of_le (h6 k hv).2 hs⟩⟩
end
theorem able_stops (k : Nat) (hk : 1 ≤ k) (S : Nat → Prop) (B1 b wb : Nat) (xs : List Vg.Bt) (rv wv : Value) (Q : List Vg.Wq) (O : Nat → Prop) (Bs : List Vg.Bp) (hBs : xs.map (·.p) = Bs) (w : World) (hS1 : ∀ j, bown b xs rv wb O j → S j) (hS3 : S B1) (hlt : ∀ k, S k → k < w.heap.size)
    (hc1 : Vg.blk w B1 = some (.cells #[.pointer (some ⟨b, 0, none⟩)] 57)) (hbt : BT w b xs rv wb Q wv O) :
    SeqStopsK Fence.wide k Tryd.prog 79 #[.pointer (some ⟨B1, 0, none⟩)] (fun i : Nat => #[.int .i64 i, .int .i64 (Vg.Bo.prio Bs i)]) (Vg.Kept S) (fun ys => ys = Vg.Bo.ables Bs Q Bs.length) (fun _ => True) Bs.length w := fun l J Jx W hW hJ hJx hY hJ0 => by
  have kW : Vg.Kept S w W := Vg.Kept.of_below hW hlt
  obtain ⟨n, hn⟩ : ∃ n, xs.length = n := ⟨_, rfl⟩
  have hBn : Bs.length = n := by rw [← hBs, List.length_map]; exact hn
  obtain ⟨sa, sc, hrv⟩ := hbt.shp
  rw [hn] at hrv
  subst hrv
  have D1 := Lib.hid (kW.blk hc1 hS3)
  have D3 := Lib.hid (hbt.kept (w' := W) kW.size (fun k hk => kW.block k (hS1 k hk)))
  have e1 := Vg.cells_of D1.out 0
  have e3 := Vg.cells_of D3.out.tab 0
  simp at e1 e3
  rw [hBn] at hY ⊢
  have hrow0 := D3.out.row
  rw [hn] at hrow0
  have hcn : n ≤ sc := hrow0.len_le
  have hcm : sc ≤ 9223372036854775807 := hrow0.cap_le
  clear hrow0
  have H_hn := Lib.hid hn; clear hn; have H_hBn := Lib.hid hBn; clear hBn; have H_hBs := Lib.hid hBs; clear hBs
  refine callsIn_of_wp Tryd.func79 rfl trivial ?_ rfl
  simp only [Tryd.ntmps79, List.size_toArray, List.length_cons, List.length_nil, Nat.reduceAdd, Nat.reduceSub, Array.replicate_succ, Array.replicate_zero, List.push_toArray, List.append_toArray, List.nil_append, List.cons_append]
  gi_wp2
  gi_loopw [10] (fun i wr => ∃ j : Nat, j ≤ n ∧ i = .int .i64 j ∧ J (Vg.Bo.ables Bs Q j) wr ∧ Vg.Kept S W wr) (fun i _ => n - (intOf i).toNat)
  case atStart => exact ⟨0, by omega, rfl, hJ0, Vg.Kept.refl _ _⟩
  case round =>
    obtain ⟨j, hj, rfl, hJj, hkp⟩ := hrel
    have d1 := hkp.blk D1.out hS3
    have d3 := D3.out.kept (w' := wr) hkp.size (fun k hk => hkp.block k (hS1 k hk))
    have c10 := Vg.cells_of d1 0
    have hB1 := Vg.lt_of d1
    have hbl := d3.lt
    simp at c10
    by_cases hjl : j < n
    · have hjx : j < xs.length := by rw [H_hn.out]; exact hjl
      have hrow := d3.row
      rw [H_hn.out] at hrow
      obtain ⟨g, o, rfl, hg, -, -, f0, f1, f2, f3, f4⟩ := hrow.thread H_hn.out j hjx
      have hpr : Vg.Bo.prio Bs j = xs[j].p.t.pr := by
        have e5 : Bs[j]? = some xs[j].p := by rw [← H_hBs.out, List.getElem?_map, List.getElem?_eq_getElem hjx]; rfl
        unfold Vg.Bo.prio
        rw [e5]
      obtain ⟨y, hy⟩ : ∃ y, xs[j] = y := ⟨_, rfl⟩
      rw [hy] at f0 f1 f2 f3 f4 hpr
      have hsn := Vg.Bo.ables_succ Bs Q j
      have hol := Vg.Bo.ables_len Bs Q j
      have hJa := Vg.abides_grows hJ hJj ((Vg.Grows.refl wr).alloc (thV y))
      have hal : Vg.Kept S wr (wr.alloc (thV y)) := ⟨by simp, fun z hz => Below.heap_alloc _ _ _ (by have := hlt z hz; have := hkp.size; have := hW.size; omega)⟩
      have d3a := d3.grows ((Vg.Grows.refl wr).alloc (thV y))
      obtain ⟨is, his⟩ : ∃ is, Vg.Bo.able Bs Q j = is := ⟨_, rfl⟩
      have his2 : Vg.Bo.able (xs.map (·.p)) Q j = is := by rw [H_hBs.out]; exact his
      rw [Vg.Bo.ableK_eq, his] at hsn
      cases is with
      | false =>
        simp only [Bool.false_eq_true, if_false, List.append_nil] at hsn
        have H_d1 := Lib.hid d1; clear d1; have H_d3 := Lib.hid d3; clear d3; have H_d3a := Lib.hid d3a; clear d3a; have H_hsn := Lib.hid hsn; clear hsn; have H_hol := Lib.hid hol; clear hol; have H_hy := Lib.hid hy; clear hy; have H_hpr := Lib.hid hpr; clear hpr; have H_his := Lib.hid his; clear his; have H_his2 := Lib.hid his2; clear his2
        gi_wp2_with (refine ⟨trivial, ?_⟩; gi_at_call 52; refine (callsIn_wide.2 (bot_able j H_d3a.out H_his2.out)).mono ?_; rintro e w1 ⟨rfl, rfl⟩)
        refine ⟨fun _ h => (by cases h), ?_⟩
        gi_wp2
        go_roundw
        case rel => exact ⟨j + 1, by omega, by go_num, by rw [H_hsn.out]; exact hJa, hkp.trans hal⟩
        case measure => simp [intOf]; omega
      | true =>
        rw [if_pos rfl] at hsn
        have hy0 := hY (Vg.Bo.ables Bs Q j) j (wr.alloc (thV y)) hJa (by omega)
        obtain ⟨fn, tmps, assign, body, hy1, hR⟩ := hy0
        rw [hpr] at hy1
        rw [← hsn] at hR
        have H_d1 := Lib.hid d1; clear d1; have H_d3 := Lib.hid d3; clear d3; have H_d3a := Lib.hid d3a; clear d3a; have H_hsn := Lib.hid hsn; clear hsn; have H_hol := Lib.hid hol; clear hol; have H_hy := Lib.hid hy; clear hy; have H_hpr := Lib.hid hpr; clear hpr; have H_his := Lib.hid his; clear his; have H_his2 := Lib.hid his2; clear his2
        gi_wp2_with (refine ⟨trivial, ?_⟩; gi_at_call 52; refine (callsIn_wide.2 (bot_able j H_d3a.out H_his2.out)).mono ?_; rintro e w1 ⟨rfl, rfl⟩)
        refine hR.mono ?_
        rintro e W3 (⟨rfl, hJ3, hk3⟩ | ⟨rfl, hJx3⟩)
        · gi_wp2
          go_roundw
          case rel => exact ⟨j + 1, by omega, by go_num, hJ3, hkp.trans (hal.trans hk3)⟩
          case measure => simp [intOf]; omega
        · gi_wp2
          refine bodyPost_ret (results_none rfl _ _ _) rfl ?_
          exact ⟨⟨_, rfl⟩, .inr ⟨_, trivial, hJx3⟩⟩
    · have hje : j = n := by omega
      subst hje
      clear d1 d3
      gi_wp2
      go_end0
      exact ⟨⟨_, rfl⟩, .inl ⟨_, rfl, hJj⟩⟩
theorem pick_in (b wb : Nat) (xs : List Vg.Bt) (rv wv : Value) (Q : List Vg.Wq) (O : Nat → Prop) (w : World) (h : BT w b xs rv wb Q wv O) (Bs : List Vg.Bp) (hBs : xs.map (·.p) = Bs) (r : Int) (hr : Vg.Bo.best Bs Q = r) (m : Int) (is : Bool) (hm : max r 0 = m) (his : decide (0 ≤ r) = is) :
    CallsIn Fence.wide 4 Tryd.prog 19 #[.pointer (some ⟨b, 0, none⟩)] w fun e w' => e = .returned (.tuple #[.int .i64 m, .bool is]) ∧ Below w.heap.size w w' := by
  have hl2 := h.own_lt
  have hro : Fence.wide.round = none := rfl
  have hn1 : 1 ≤ 4 := by omega
  have hSS : ∀ k, (bown b xs rv wb O k ∨ k = w.heap.size + 2) → k < w.heap.size + 3 ∧ k ≠ w.heap.size ∧ k ≠ w.heap.size + 1 := by
    rintro k (hk | rfl)
    · have := hl2 k hk; omega
    · omega
  have HSS := Lib.hid hSS
  clear hSS
  have H_h := Lib.hid h; clear h; have H_hBs := Lib.hid hBs; clear hBs; have H_hr := Lib.hid hr; clear hr; have H_hm := Lib.hid hm; clear hm; have H_his := Lib.hid his; clear his
  refine callsIn_of_wp_marks Tryd.func19 rfl trivial ?_ rfl
  simp only [Tryd.ntmps19, List.size_toArray, List.length_cons, List.length_nil, Nat.reduceAdd, Nat.reduceSub, Array.replicate_succ, Array.replicate_zero, List.push_toArray, List.append_toArray, List.nil_append, List.cons_append]
  gi_wp2_with (first | (refine ⟨trivial, ?_⟩; gi_at_call 51; refine (callsIn_wide.2 (bot_iter b _)).mono ?_; rintro e w1 ⟨rfl, rfl⟩))
  have bO := Boxed.new w 3 (.int .i64 (-1))
  have bP := Boxed.new (w.alloc (.cells #[.int .i64 (-1)] 3)) 3 (.int .i64 (-1))
  have hB0 : Below w.heap.size w (((w.alloc (.cells #[.int .i64 (-1)] 3)).alloc (.cells #[.int .i64 (-1)] 3)).alloc (.cells #[.pointer (some ⟨b, 0, none⟩)] 57)) := (((Below.refl _ w).alloc (Nat.le_refl _) _).alloc (by simp) _).alloc (by simp <;> omega) _
  refine wpIn_rangeFunc_ownG hro hn1 (gf := 79) (lb := #[.pointer (some ⟨w.heap.size + 1 + 1, 0, none⟩)]) rfl trivial (enters_of Tryd.func79 (by kernel_rfl) rfl)
    (able_stops (4 - 1) (by omega) (fun k => bown b xs rv wb O k ∨ k = w.heap.size + 2) (w.heap.size + 1 + 1) b wb xs rv wv Q O Bs H_hBs.out _ (fun j hj => .inl hj) (.inr rfl)
      (by rintro k (hk | rfl)
          · have := hl2 k hk; simp; omega
          · simp)
      (by go_simp) (H_h.out.grows (by (repeat' (first | (with_reducible exact Vg.Grows.refl _) | (with_reducible assumption) | (with_reducible refine Vg.Grows.alloc ?_ _) | (with_reducible refine Vg.Grows.plus ?_ _ _) | (with_reducible refine Vg.Grows.drewN ?_ _) | (with_reducible refine Vg.Grows.drew ?_) | (with_reducible refine Vg.Grows.setCell ?_ ?_ _) | (with_reducible refine Vg.Grows.put ?_ ?_ _) | omega | (simp; omega) | (simp; done)))))) Vg.Kept.trans
    (Vg.Kept.putObj (by rintro k (hk | rfl)
                        · have := hl2 k hk; simp; omega
                        · simp)) (Below.refl _ _) (fun _ => rfl)
    (fun pre W => Boxed W w.heap.size 3 (.int .i64 (Vg.Bo.pk Bs pre (-1, -1)).1) ∧ (Boxed W (w.heap.size + 1) 3 (.int .i64 (Vg.Bo.pk Bs pre (-1, -1)).2) ∧ (w.heap.size + 3 ≤ W.heap.size ∧ Below w.heap.size w W)))
    (fun _ _ _ => False)
    (OwnFrom.and (Own.from (boxed_own _ _ _) _) (OwnFrom.and (Own.from (boxed_own _ _ _) _) (OwnFrom.and (Vg.ownFrom_size _ _) (ownFrom_below (Nat.le_refl _) (by simp; omega)))))
    (fun _ _ _ _ _ hs _ _ => hs)
    ⟨(bO.alloc _).alloc _, by have := bP.alloc (.cells #[.pointer (some ⟨b, 0, none⟩)] 57); rw [World.size_alloc] at this; exact this, by simp, hB0⟩
    (fun x => { tmps := #[.pointer (some ⟨b, 0, none⟩), undef, .int .i64 0, .bool false, .pointer (some ⟨w.heap.size, 0, none⟩), .pointer (some ⟨w.heap.size + 1, 0, none⟩), .int .i64 x, .int .i64 (Vg.Bo.prio Bs x), .pointer (some ⟨b, 0, none⟩), .func (.func 79) #[] #[.pointer (some ⟨w.heap.size + 1 + 1, 0, none⟩)], .int .i64 x, .int .i64 (Vg.Bo.prio Bs x), undef, undef, undef, undef, undef, undef, undef, undef, undef], defers := [] }) ?assign ?body ?done ?stop
  case assign =>
    intro l x W K hK
    gi_wp2
    exact hK
  case body =>
    rintro l pre x W ⟨hv, hu, hsz, hB⟩ hlt
    have hc1 := hv.cell
    have hc2 := hu.cell
    have hf1 := hv.frozen
    have hf2 := hu.frozen
    have hpk := Vg.Bo.pk_snoc Bs pre x (-1, -1)
    obtain ⟨⟨pb, pm⟩, hpm⟩ : ∃ p, Vg.Bo.pk Bs pre (-1, -1) = p := ⟨_, rfl⟩
    obtain ⟨pr, hpr⟩ : ∃ pr, Vg.Bo.prio Bs x = pr := ⟨_, rfl⟩
    rw [hpm] at hc1 hc2 hpk hv hu
    rw [hpr] at hpk ⊢
    have HB := Lib.hid hB
    have HV := Lib.hid hv
    have HU := Lib.hid hu
    clear hB hv hu
    by_cases hc : pm < pr
    · rw [if_pos hc] at hpk
      have H_hpk := Lib.hid hpk; clear hpk; have H_hpm := Lib.hid hpm; clear hpm; have H_hpr := Lib.hid hpr; clear hpr
      gi_wp2
      refine ⟨((KeepsOthers.setCell _ _ _).trans (KeepsOthers.setCell _ _ _)).from _, ⟨by simp, fun z hz => ?_⟩, ?_, ?_, by simp; omega, ?_⟩
      · obtain ⟨h1, h2, h3⟩ := HSS.out z hz
        rw [Below.heap_setCell _ _ _ z h3, Below.heap_setCell _ _ _ z h2]
      · rw [H_hpk.out]
        exact (HV.out.set _).kept (grownBy_setCell' _ (w.heap.size + 1) _) (by simp)
      · rw [H_hpk.out]
        exact (HU.out.kept (grownBy_setCell' W w.heap.size _) (by simp)).set _
      · exact HB.out.trans (((Below.refl _ W).setCell (p := ⟨w.heap.size, 0, none⟩) (Nat.le_refl _) _).setCell (p := ⟨w.heap.size + 1, 0, none⟩) (show w.heap.size ≤ w.heap.size + 1 by omega) _)
    · rw [if_neg hc] at hpk
      have H_hpk := Lib.hid hpk; clear hpk; have H_hpm := Lib.hid hpm; clear hpm; have H_hpr := Lib.hid hpr; clear hpr
      gi_wp2
      refine ⟨(KeepsOthers.refl _).from _, Vg.Kept.refl _ _, ?_, ?_, hsz, HB.out⟩
      · rw [H_hpk.out]; exact HV.out
      · rw [H_hpk.out]; exact HU.out
  case done =>
    rintro D ys W hD rfl ⟨hv, hu, hsz, hB⟩ hK
    have hc := hv.cell
    have hbest := H_hr.out
    unfold Vg.Bo.best at hbest
    rw [hbest] at hc
    have hmm := H_hm.out
    have hii := H_his.out
    have hmr : (r < 0 ∧ m = 0 ∧ is = false) ∨ (¬ r < 0 ∧ m = r ∧ is = true) := by
      by_cases h0 : r < 0
      · exact .inl ⟨h0, by omega, by rw [← hii]; simp; omega⟩
      · exact .inr ⟨h0, by omega, by rw [← hii]; simp; omega⟩
    clear hmm hii
    rcases hmr with ⟨h0, rfl, rfl⟩ | ⟨h0, rfl, rfl⟩
    all_goals
      have H_hv := Lib.hid hv; clear hv; have H_hu := Lib.hid hu; clear hu; have H_hB := Lib.hid hB; clear hB; have H_hbest := Lib.hid hbest; clear hbest
      gi_wp2
      gi_region
      all_goals gi_wp2
      all_goals refine ⟨by simp, .inl ⟨_, _, rfl, run_takeDeferred hK, ?_⟩⟩
      all_goals exact ⟨_, results_tmp2 rfl _ _ _, by simp <;> omega, (Below.drew H_hB.out).trans (belowK_b (w := w) (Nat.le_refl _) W.drew D _ _ (by simp at hD; omega) hK rfl rfl)⟩
  case stop =>
    rintro D c pre W _ _ h _
    exact h.elim
theorem bot_pick {w : World} {b wb : Nat} {xs : List Vg.Bt} {rv wv : Value} {Q : List Vg.Wq} {O : Nat → Prop} (h : BT w b xs rv wb Q wv O) {r m : Int} {is : Bool} (hr : Vg.Bo.best (xs.map (·.p)) Q = r) (hm : max r 0 = m) (his : decide (0 ≤ r) = is) :
    Calls Tryd.prog 19 #[.pointer (some ⟨b, 0, none⟩)] w fun e w' => e = .returned (.tuple #[.int .i64 m, .bool is]) ∧ Vg.Grows w w' := by
  refine ((callsIn_wide (n := 4)).1 (pick_in b wb xs rv wv Q O w h _ rfl r hr m is hm his)).mono ?_
  rintro e w' ⟨rfl, hb⟩
  exact ⟨rfl, Vg.Grows.of_below hb⟩
end Go.Proofs.YtekjnagojphmkaaDoor
