/- Package bottom: Refill, Next. -/
import Derived.Test.YtekjnagojphmkaaDoorBtM
import Derived.Test.YtekjnagojphmkaaDoorCeilR
set_option linter.unusedSimpArgs false
set_option linter.unusedVariables false
set_option maxHeartbeats 2000000
set_option maxRecDepth 100000
namespace Vg
open Go
theorem Bo.nextK_succ (Bs : List Bp) (Q : List Wq) (k : Nat) : Bo.nextK Bs Q (k + 1) = Bo.least (Bo.cand Bs Q k) (Bo.nextK Bs Q k) := rfl
theorem Bo.cand_at {Bs : List Bp} {Q : List Wq} {k : Nat} {x : Bp} (h : k < Bs.length) (hx : Bs[k] = x) : Bo.cand Bs Q k = if Wk.waiting Q k = 0 ∨ 0 < x.s.left x.t.bu then none else match x.s.L with | [] => none | y :: _ => some y.1 := by
  unfold Bo.cand
  rw [List.getElem?_eq_getElem h, hx]
  rfl
end Vg
namespace Go.Proofs.YtekjnagojphmkaaDoor
open Go.ChangeShapes Go.WideShapes Go.ChangeAt Go.RowKit
abbrev thC (x : Vg.Bt) : Obj := .cells #[.int .i64 x.p.t.pr, .int .i64 x.p.t.bu, .int .i64 x.p.t.pe, .int .i64 x.p.t.dp, .pointer (some ⟨x.sb, 0, none⟩)] 127
section
variable {w w' w2 w3 : World} {b wb n : Nat} {xs xs' : List Vg.Bt} {rv wv : Value} {Q Q' Q1 Q2 : List Vg.Wq} {O O' : Nat → Prop} {x r : Int} {is : Bool} {Bs' Bs1 Bs2 : List Vg.Bp}
theorem bot_refill {k : Nat} (now : Int) (h : BT w b xs rv wb Q wv O) (hI : Vg.Bo.Inv k (xs.map (·.p)) Q) (hx : Vg.Bo.refill (xs.map (·.p)) now = (Bs', r)) :
    Calls Tryd.prog 18 #[.pointer (some ⟨b, 0, none⟩), .int .i64 now] w fun e w' => e = .returned (.int .i64 r) ∧ BTn w w' b xs rv wb Q wv O Bs' := by
  obtain ⟨n, hn⟩ : ∃ n, xs.length = n := ⟨_, rfl⟩
  obtain ⟨a, c, hrv⟩ := h.shp
  rw [hn] at hrv
  subst hrv
  have hle : n ≤ 64 := by have := hI.le; simpa [hn] using this
  have hrow := h.row
  rw [hn] at hrow
  have hcc : n ≤ c := hrow.len_le
  have hcm : c ≤ 9223372036854775807 := hrow.cap_le
  have c0 := Vg.cells_of h.tab 0
  simp at c0
  have hl := h.lt
  unfold Vg.Bo.refill at hx
  have H_h := Lib.hid h; clear h; have H_hI := Lib.hid hI; clear hI; have H_hn := Lib.hid hn; clear hn; have H_hrow := Lib.hid hrow; clear hrow; have H_hx := Lib.hid hx; clear hx
  go_enter Tryd.func18, Tryd.ntmps18
  go_wp2
  go_loopw [14] (fun i wr => ∃ k : Nat, k ≤ n ∧ i = .int .i64 k ∧ Vg.Grows w wr ∧ ((xs.map (·.p)).take k).all (Vg.Bo.later now) = true) (fun i _ => n - (intOf i).toNat)
  case atStart => exact ⟨0, by omega, rfl, Vg.Grows.refl _, by simp⟩
  case round =>
    obtain ⟨k, hk, rfl, hgr, hpre⟩ := hrel
    by_cases hlt : k < n
    · have hkx : k < xs.length := by rw [H_hn.out]; exact hlt
      obtain ⟨g, o, rfl, hg, -, -, d0, d1, d2, d3, d4⟩ := H_hrow.out.thread H_hn.out k hkx
      have hs := (H_h.out.srv k hkx).grows hgr
      have hsn := List.take_succ_eq_append_getElem (l := xs.map (·.p)) (by simpa using hkx)
      have hme : xs[k].p ∈ xs.map (·.p) := List.mem_map.2 ⟨xs[k], List.getElem_mem _, rfl⟩
      rw [List.getElem_map] at hsn
      obtain ⟨y, hy⟩ : ∃ y, xs[k] = y := ⟨_, rfl⟩
      rw [hy] at d0 d1 d2 d3 d4 hs hsn hme
      have d0 := (hgr.below.cell (p := ⟨g, o + k * 5, none⟩) hg).trans d0
      have d1 := (hgr.below.cell (p := ⟨g, o + k * 5 + 1, none⟩) hg).trans d1
      have d2 := (hgr.below.cell (p := ⟨g, o + k * 5 + 2, none⟩) hg).trans d2
      have d3 := (hgr.below.cell (p := ⟨g, o + k * 5 + 3, none⟩) hg).trans d3
      have d4 := (hgr.below.cell (p := ⟨g, o + k * 5 + 4, none⟩) hg).trans d4
      have hgl : g < wr.heap.size := Nat.lt_of_lt_of_le hg hgr.size
      obtain ⟨lt, hlt'⟩ : ∃ lt, (decide (y.p.s.last ≤ now) && decide (now ≤ 4503599627370496)) = lt := ⟨_, rfl⟩
      have hlat : Vg.Bo.later now y.p = lt := hlt'
      cases lt with
      | false =>
        have hall : (xs.map (·.p)).all (Vg.Bo.later now) = false := by
          cases hh : (xs.map (·.p)).all (Vg.Bo.later now) with
          | false => rfl
          | true =>
            have := List.all_eq_true.1 hh y.p hme
            rw [hlat] at this; cases this
        have hx := H_hx.out
        rw [hall] at hx
        simp only [Bool.false_eq_true, if_false, Prod.mk.injEq] at hx
        obtain ⟨rfl, rfl⟩ := hx
        have H_hs := Lib.hid hs; clear hs; have H_hsn := Lib.hid hsn; clear hsn; have H_hy := Lib.hid hy; clear hy; have H_hpre := Lib.hid hpre; clear hpre; have H_hlt' := Lib.hid hlt'; clear hlt'; have H_hlat := Lib.hid hlat; clear hlat; have H_hme := Lib.hid hme; clear hme; have H_hall := Lib.hid hall; clear hall
        go_wp2_with ((go_at_call 49; refine (sa_later now (H_hs.out.grows (by (repeat' (first | (with_reducible exact Vg.Grows.refl _) | (with_reducible assumption) | (with_reducible refine Vg.Grows.alloc ?_ _) | (with_reducible refine Vg.Grows.plus ?_ _ _) | (with_reducible refine Vg.Grows.drewN ?_ _) | (with_reducible refine Vg.Grows.drew ?_) | (with_reducible refine Vg.Grows.setCell ?_ ?_ _) | (with_reducible refine Vg.Grows.put ?_ ?_ _) | omega | (simp; omega) | (simp; done))))) H_hlt'.out).mono ?_; rintro e w1 ⟨rfl, rfl⟩))
        go_ret
        exact ⟨rfl, BTn.same H_h.out (by (repeat' (first | (with_reducible exact Vg.Grows.refl _) | (with_reducible assumption) | (with_reducible refine Vg.Grows.alloc ?_ _) | (with_reducible refine Vg.Grows.plus ?_ _ _) | (with_reducible refine Vg.Grows.drewN ?_ _) | (with_reducible refine Vg.Grows.drew ?_) | (with_reducible refine Vg.Grows.setCell ?_ ?_ _) | (with_reducible refine Vg.Grows.put ?_ ?_ _) | omega | (simp; omega) | (simp; done))))⟩
      | true =>
        have hnx : ((xs.map (·.p)).take (k + 1)).all (Vg.Bo.later now) = true := by rw [hsn, List.all_append, hpre]; simp [hlat]
        have H_hs := Lib.hid hs; clear hs; have H_hsn := Lib.hid hsn; clear hsn; have H_hy := Lib.hid hy; clear hy; have H_hpre := Lib.hid hpre; clear hpre; have H_hlt' := Lib.hid hlt'; clear hlt'; have H_hlat := Lib.hid hlat; clear hlat; have H_hme := Lib.hid hme; clear hme; have H_hnx := Lib.hid hnx; clear hnx
        go_wp2_with ((go_at_call 49; refine (sa_later now (H_hs.out.grows (by (repeat' (first | (with_reducible exact Vg.Grows.refl _) | (with_reducible assumption) | (with_reducible refine Vg.Grows.alloc ?_ _) | (with_reducible refine Vg.Grows.plus ?_ _ _) | (with_reducible refine Vg.Grows.drewN ?_ _) | (with_reducible refine Vg.Grows.drew ?_) | (with_reducible refine Vg.Grows.setCell ?_ ?_ _) | (with_reducible refine Vg.Grows.put ?_ ?_ _) | omega | (simp; omega) | (simp; done))))) H_hlt'.out).mono ?_; rintro e w1 ⟨rfl, rfl⟩))
        exact ⟨⟨k + 1, by omega, by go_num, by (repeat' (first | (with_reducible exact Vg.Grows.refl _) | (with_reducible assumption) | (with_reducible refine Vg.Grows.alloc ?_ _) | (with_reducible refine Vg.Grows.plus ?_ _ _) | (with_reducible refine Vg.Grows.drewN ?_ _) | (with_reducible refine Vg.Grows.drew ?_) | (with_reducible refine Vg.Grows.setCell ?_ ?_ _) | (with_reducible refine Vg.Grows.put ?_ ?_ _) | omega | (simp; omega) | (simp; done))), H_hnx.out⟩, by simp [intOf]; omega⟩
    · have hall : (xs.map (·.p)).all (Vg.Bo.later now) = true := by rw [← hpre, List.take_of_length_le (by rw [List.length_map, H_hn.out]; omega)]
      have hx := H_hx.out
      rw [hall, if_pos rfl] at hx
      simp only [Prod.mk.injEq] at hx
      obtain ⟨rfl, rfl⟩ := hx
      have hkn : k = n := by omega
      subst hkn
      have hb1 := H_h.out.grows hgr
      have c0 := (hgr.below.cell (p := ⟨b, 0, none⟩) hl).trans c0
      have H_hpre := Lib.hid hpre; clear hpre; have H_hall := Lib.hid hall; clear hall; have H_hb1 := Lib.hid hb1; clear hb1
      go_wp2
      go_loopw [29] (fun i wr => ∃ j : Nat, j ≤ k ∧ i = .int .i64 j ∧ BTn w wr b xs (.slice a k c) wb Q wv O (Vg.Bo.mix now (xs.map (·.p)) j)) (fun i _ => k - (intOf i).toNat)
      case atStart => exact ⟨0, by omega, rfl, by have := BTn.same H_h.out hgr; simpa [Vg.Bo.mix] using this⟩
      case round =>
        obtain ⟨j, hj, rfl, ys, O2, hb, hmap, hown, ht⟩ := hrel
        by_cases hlt : j < k
        · have hjx : j < (xs.map (·.p)).length := by rw [List.length_map, H_hn.out]; exact hlt
          have hyl : ys.length = k := by
            have := congrArg List.length hmap
            rw [List.length_map, Vg.Bo.mix_len _ _ _ (by omega), List.length_map, H_hn.out] at this
            exact this
          have hjy : j < ys.length := by omega
          have hyp : ys[j].p = (xs.map (·.p))[j] := by
            have := Vg.Bo.mix_get now (xs.map (·.p)) j hjx
            rw [← hmap, List.getElem?_map, List.getElem?_eq_getElem hjy] at this
            simpa using this
          have hr2 := hb.row
          rw [hyl] at hr2
          obtain ⟨g, o, rfl, hg, -, -, d0, d1, d2, d3, d4⟩ := hr2.thread hyl j hjy
          have hs := hb.srv j hjy
          have hok := H_hI.out.each _ (List.getElem_mem hjx)
          rw [← hyp] at hok
          have hms := Vg.Bo.mix_succ now (xs.map (·.p)) j hjx
          rw [← hyp] at hms
          obtain ⟨y, hy⟩ : ∃ y, ys[j] = y := ⟨_, rfl⟩
          rw [hy] at d0 d1 d2 d3 d4 hs hok hms
          obtain ⟨hbu, hpe, hpr, hinv⟩ := hok
          have hsl := hs.lt
          have H_hs := Lib.hid hs; clear hs; have H_hb := Lib.hid hb; clear hb; have H_hmap := Lib.hid hmap; clear hmap; have H_hown := Lib.hid hown; clear hown; have H_ht := Lib.hid ht; clear ht; have H_hyl := Lib.hid hyl; clear hyl; have H_hyp := Lib.hid hyp; clear hyp; have H_hr2 := Lib.hid hr2; clear hr2; have H_hy := Lib.hid hy; clear hy; have H_hms := Lib.hid hms; clear hms; have H_hinv := Lib.hid hinv; clear hinv
          go_wp2_with ((go_at_call 50; refine (sa_refill now (H_hs.out.grows (by (repeat' (first | (with_reducible exact Vg.Grows.refl _) | (with_reducible assumption) | (with_reducible refine Vg.Grows.alloc ?_ _) | (with_reducible refine Vg.Grows.plus ?_ _ _) | (with_reducible refine Vg.Grows.drewN ?_ _) | (with_reducible refine Vg.Grows.drew ?_) | (with_reducible refine Vg.Grows.setCell ?_ ?_ _) | (with_reducible refine Vg.Grows.put ?_ ?_ _) | omega | (simp; omega) | (simp; done))))) (by omega) H_hinv.out hbu).mono ?_; rintro e w2 ⟨v', rfl, hsa, ht2, hv2⟩; obtain ⟨hb2, hown2, ht3⟩ := BT.serv hjy H_hy.out (H_hb.out.grows (by (repeat' (first | (with_reducible exact Vg.Grows.refl _) | (with_reducible assumption) | (with_reducible refine Vg.Grows.alloc ?_ _) | (with_reducible refine Vg.Grows.plus ?_ _ _) | (with_reducible refine Vg.Grows.drewN ?_ _) | (with_reducible refine Vg.Grows.drew ?_) | (with_reducible refine Vg.Grows.setCell ?_ ?_ _) | (with_reducible refine Vg.Grows.put ?_ ?_ _) | omega | (simp; omega) | (simp; done))))) hsa ht2 hv2; have H_hb2 := Lib.hid hb2; clear hb2; have H_hown2 := Lib.hid hown2; clear hown2; have H_ht3 := Lib.hid ht3; clear ht3; clear hsa ht2 hv2))
          refine ⟨⟨j + 1, by omega, by go_num, ?_⟩, by simp [intOf]; omega⟩
          refine BTn.next (w2 := _) H_hown.out H_ht.out ⟨_, O2, H_hb2.out, ?_, fun z hz => ?_, Vg.Touch.next (Vg.Touch.of_grows (by (repeat' (first | (with_reducible exact Vg.Grows.refl _) | (with_reducible assumption) | (with_reducible refine Vg.Grows.alloc ?_ _) | (with_reducible refine Vg.Grows.plus ?_ _ _) | (with_reducible refine Vg.Grows.drewN ?_ _) | (with_reducible refine Vg.Grows.drew ?_) | (with_reducible refine Vg.Grows.setCell ?_ ?_ _) | (with_reducible refine Vg.Grows.put ?_ ?_ _) | omega | (simp; omega) | (simp; done))))) H_ht3.out (fun _ hk => .inl hk)⟩
          · rw [List.map_set, H_hmap.out]; exact H_hms.out
          · rcases H_hown2.out z hz with h8 | h8
            · exact .inl h8
            · exact .inr (by simp only [World.size_alloc] at h8; omega)
        · have hjk : j = k := by omega
          subst hjk
          have hfin : Vg.Bo.mix now (xs.map (·.p)) j = (xs.map (·.p)).map (Vg.Bo.rf now) := by
            have := Vg.Bo.mix_all now (xs.map (·.p))
            rw [List.length_map, H_hn.out] at this
            exact this
          rw [hfin] at hmap
          have H_hb := Lib.hid hb; clear hb; have H_hmap := Lib.hid hmap; clear hmap; have H_hown := Lib.hid hown; clear hown; have H_ht := Lib.hid ht; clear ht; have H_hfin := Lib.hid hfin; clear hfin
          go_wp2
          go_ret
          exact ⟨rfl, ys, O2, H_hb.out, by simpa using H_hmap.out, H_hown.out, H_ht.out⟩
theorem sa_leftx {bb B : Nat} {bu pe : Int} {s : Vg.Srv} {v : Value} (h : SA w bb B bu pe s v) (hx : s.left bu = x) :
    Calls Tryd.prog 54 #[.pointer (some ⟨bb, 0, none⟩)] w fun e w' => e = .returned (.int .i64 x) ∧ w = w' := by
  subst hx
  exact sa_left h
end
end Go.Proofs.YtekjnagojphmkaaDoor
