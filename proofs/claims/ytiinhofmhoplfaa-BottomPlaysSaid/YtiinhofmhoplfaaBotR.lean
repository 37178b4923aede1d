/- Package bottom: Run, Refill, Next. -/
import Derived.Test.YtiinhofmhoplfaaBotA
set_option linter.unusedSimpArgs false
set_option linter.unusedVariables false
set_option maxHeartbeats 2000000
set_option maxRecDepth 100000
namespace Vg
open Go
theorem Bo.run_out {Bs : List Bp} {Q : List Wq} {i n en : Int} (h : i < 0 ∨ (Bs.length : Int) ≤ i) : Bo.run Bs Q i n en = (Bs, Q, false, 1) := by
  unfold Bo.run
  by_cases h0 : i < 0
  · rw [if_pos h0]
  · rw [if_neg h0, List.getElem?_eq_none (by omega)]
theorem Bo.run_in {Bs : List Bp} {Q : List Wq} {i : Nat} {n en : Int} (h : i < Bs.length) : Bo.run Bs Q i n en =
    if n < 0 ∨ Bo.left Bs Q i < n then (Bs, Q, false, 1) else
    if Bo.able Bs Q i = false then (Bs, Q, false, 7) else
    if (Bs[i].s.use Bs[i].t.bu Bs[i].t.pe n en).2 ≠ 0 then (Bs.set i ⟨Bs[i].t, (Bs[i].s.use Bs[i].t.bu Bs[i].t.pe n en).1⟩, Q, false, (Bs[i].s.use Bs[i].t.bu Bs[i].t.pe n en).2) else
    (Bs.set i ⟨Bs[i].t, (Bs[i].s.use Bs[i].t.bu Bs[i].t.pe n en).1⟩, (Wk.go Q i n).1, (Wk.go Q i n).2.1, (Wk.go Q i n).2.2) := by
  rw [← Bo.ableK_eq]
  unfold Bo.run
  rw [if_neg (by omega)]
  simp [List.getElem?_eq_getElem h]
def Bo.mix (now : Int) (Bs : List Bp) (k : Nat) : List Bp := (Bs.take k).map (Bo.rf now) ++ Bs.drop k
theorem Bo.mix_len (now : Int) (Bs : List Bp) (k : Nat) (hk : k ≤ Bs.length) : (Bo.mix now Bs k).length = Bs.length := by
  unfold Bo.mix; simp; omega
theorem Bo.mix_get (now : Int) (Bs : List Bp) (k : Nat) (hk : k < Bs.length) : (Bo.mix now Bs k)[k]? = some Bs[k] := by
  unfold Bo.mix
  rw [List.getElem?_append_right (by simp; omega)]
  simp
  rw [show k - min k Bs.length = 0 by omega]
  simp [List.getElem?_eq_getElem hk]
theorem Bo.mix_succ (now : Int) (Bs : List Bp) (k : Nat) (hk : k < Bs.length) : (Bo.mix now Bs k).set k (Bo.rf now Bs[k]) = Bo.mix now Bs (k + 1) := by
  unfold Bo.mix
  rw [List.take_succ_eq_append_getElem hk, List.map_append, List.set_append_right _ _ (by simp; omega)]
  have e : k - ((Bs.take k).map (Bo.rf now)).length = 0 := by simp; omega
  rw [e, List.drop_eq_getElem_cons hk, List.set_cons_zero, List.append_assoc]
  rfl
theorem Bo.mix_all (now : Int) (Bs : List Bp) : Bo.mix now Bs Bs.length = Bs.map (Bo.rf now) := by
  unfold Bo.mix
  simp
end Vg
namespace Go.Proofs.Ytiinhofmhoplfaa
open Go.ChangeShapes Go.WideShapes Go.ChangeAt Go.RowKit
section
variable {w w' w2 w3 : World} {b wb n : Nat} {xs xs' : List Vg.Bt} {rv wv : Value} {Q Q' Q1 Q2 : List Vg.Wq} {O O' : Nat → Prop} {x r : Int} {is : Bool} {Bs' Bs1 Bs2 : List Vg.Bp}
theorem BTn.next (ho : ∀ k, bown b xs' rv wb O' k → bown b xs rv wb O k ∨ w.heap.size ≤ k) (ht : Vg.Touch (bown b xs rv wb O) w w2) (h2 : BTn w2 w3 b xs' rv wb Q2 wv O' Bs2) : BTn w w3 b xs rv wb Q2 wv O Bs2 := by
  obtain ⟨ys, O2, hb, hm, ho2, ht2⟩ := h2
  refine ⟨ys, O2, hb, hm, fun k hk => ?_, ht.next ht2 ho⟩
  rcases ho2 k hk with h1 | h1
  · exact ho k h1
  · exact .inr (Nat.le_trans ht.size h1)
theorem BT.serv {i : Nat} {y : Vg.Bt} {s' : Vg.Srv} {v' : Value} (hi : i < xs.length) (hy : xs[i] = y) (h : BT w b xs rv wb Q wv O) (hs : SA w' y.sb (y.sb + 1) y.p.t.bu y.p.t.pe s' v')
    (ht : Vg.Touch (fun k => k = y.sb ∨ y.sv.ownBlock = some k) w w') (hv : ∀ k, v'.ownBlock = some k → y.sv.ownBlock = some k ∨ w.heap.size ≤ k) :
    BT w' b (xs.set i ⟨⟨y.p.t, s'⟩, y.sb, v'⟩) rv wb Q wv O ∧ (∀ k, bown b (xs.set i ⟨⟨y.p.t, s'⟩, y.sb, v'⟩) rv wb O k → bown b xs rv wb O k ∨ w.heap.size ≤ k) ∧ Vg.Touch (bown b xs rv wb O) w w' := by
  subst hy
  exact h.server hi hs ht hv
theorem bot_run {k : Nat} (i m en : Int) (h : BT w b xs rv wb Q wv O) (hI : Vg.Bo.Inv k (xs.map (·.p)) Q) (hk : k ≤ 1000000) (hm : -9223372036854775808 ≤ m ∧ m ≤ 9223372036854775807) (hen : -9223372036854775808 ≤ en ∧ en ≤ 9223372036854775807)
    (hx : Vg.Bo.run (xs.map (·.p)) Q i m en = (Bs', Q', is, r)) :
    Calls Try.prog 50 #[.pointer (some ⟨b, 0, none⟩), .int .i64 i, .int .i64 m, .int .i64 en] w fun e w' => e = .returned (.tuple #[.bool is, .int .i64 r]) ∧ BTn w w' b xs rv wb Q' wv O Bs' := by
  by_cases ho : i < 0 ∨ (xs.length : Int) ≤ i
  · rw [Vg.Bo.run_out (by simpa using ho)] at hx
    simp only [Prod.mk.injEq] at hx
    obtain ⟨rfl, rfl, rfl, rfl⟩ := hx
    have hd : decide (0 ≤ i ∧ i < (xs.length : Int)) = false := by simp; omega
    have H_h := Lib.hid h; clear h; have H_hd := Lib.hid hd; clear hd; have H_hI := Lib.hid hI; clear hI
    clear ho
    go_enter Try.func50, Try.ntmps50
    go_wp2_with ((go_at_call 102; refine (bot_has i H_h.out rfl H_hd.out).mono ?_; rintro e w1 ⟨rfl, rfl⟩))
    go_ret2
    exact ⟨rfl, BTn.same H_h.out (Vg.Grows.refl _)⟩
  · obtain ⟨j, rfl⟩ : ∃ j : Nat, i = j := ⟨i.toNat, by omega⟩
    have hj : j < xs.length := by omega
    have hd : decide ((0 : Int) ≤ j ∧ (j : Int) < (xs.length : Int)) = true := by simp; omega
    rw [Vg.Bo.run_in (by simpa using hj)] at hx
    simp only [List.getElem_map] at hx
    obtain ⟨hok, hjQ⟩ := hI.at j (by simpa using hj)
    rw [List.getElem_map] at hok
    obtain ⟨hbu, hpe, hpr, hinv⟩ := hok
    have hQ := hI.wk.ok hk
    obtain ⟨lf, hlf⟩ : ∃ lf, Vg.Bo.left (xs.map (·.p)) Q j = lf := ⟨_, rfl⟩
    rw [hlf] at hx
    by_cases hbad : m < 0 ∨ lf < m
    · rw [if_pos hbad] at hx
      simp only [Prod.mk.injEq] at hx
      obtain ⟨rfl, rfl, rfl, rfl⟩ := hx
      have H_h := Lib.hid h; clear h; have H_hd := Lib.hid hd; clear hd; have H_hI := Lib.hid hI; clear hI; have H_hlf := Lib.hid hlf; clear hlf; have H_hinv := Lib.hid hinv; clear hinv; have H_hQ := Lib.hid hQ; clear hQ
      by_cases h0 : m < 0
      · clear hbad
        go_enter Try.func50, Try.ntmps50
        go_wp2_with ((go_at_call 102; refine (bot_has j H_h.out rfl H_hd.out).mono ?_; rintro e w1 ⟨rfl, rfl⟩))
        go_ret2
        exact ⟨rfl, BTn.same H_h.out (Vg.Grows.refl _)⟩
      · have h1 : lf < m := by omega
        clear hbad
        go_enter Try.func50, Try.ntmps50
        go_wp2_with (first | (go_at_call 102; refine (bot_has j H_h.out rfl H_hd.out).mono ?_; rintro e w1 ⟨rfl, rfl⟩) | (go_at_call 59; refine (bot_left j H_h.out H_hlf.out).mono ?_; rintro e w1 ⟨rfl, kk, rfl⟩))
        go_ret2
        exact ⟨rfl, BTn.same H_h.out (by (repeat' (first | (with_reducible exact Vg.Grows.refl _) | (with_reducible assumption) | (with_reducible refine Vg.Grows.alloc ?_ _) | (with_reducible refine Vg.Grows.plus ?_ _ _) | (with_reducible refine Vg.Grows.drewN ?_ _) | (with_reducible refine Vg.Grows.drew ?_) | (with_reducible refine Vg.Grows.setCell ?_ ?_ _) | (with_reducible refine Vg.Grows.put ?_ ?_ _) | omega | (simp; omega) | (simp; done))))⟩
    · rw [if_neg hbad] at hx
      have h0 : ¬ m < 0 := by omega
      have h1 : ¬ lf < m := by omega
      clear hbad
      cases hab : Vg.Bo.able (xs.map (·.p)) Q j with
      | false =>
        rw [hab, if_pos rfl] at hx
        simp only [Prod.mk.injEq] at hx
        obtain ⟨rfl, rfl, rfl, rfl⟩ := hx
        have H_h := Lib.hid h; clear h; have H_hd := Lib.hid hd; clear hd; have H_hI := Lib.hid hI; clear hI; have H_hlf := Lib.hid hlf; clear hlf; have H_hinv := Lib.hid hinv; clear hinv; have H_hQ := Lib.hid hQ; clear hQ; have H_hab := Lib.hid hab; clear hab
        go_enter Try.func50, Try.ntmps50
        go_wp2_with (first | (go_at_call 102; refine (bot_has j H_h.out rfl H_hd.out).mono ?_; rintro e w1 ⟨rfl, rfl⟩) | (go_at_call 59; refine (bot_left j H_h.out H_hlf.out).mono ?_; rintro e w1 ⟨rfl, kk, rfl⟩) | (go_at_call 57; refine (bot_able j (H_h.out.grows (by (repeat' (first | (with_reducible exact Vg.Grows.refl _) | (with_reducible assumption) | (with_reducible refine Vg.Grows.alloc ?_ _) | (with_reducible refine Vg.Grows.plus ?_ _ _) | (with_reducible refine Vg.Grows.drewN ?_ _) | (with_reducible refine Vg.Grows.drew ?_) | (with_reducible refine Vg.Grows.setCell ?_ ?_ _) | (with_reducible refine Vg.Grows.put ?_ ?_ _) | omega | (simp; omega) | (simp; done))))) H_hab.out).mono ?_; rintro e w1 ⟨rfl, rfl⟩))
        go_ret2
        exact ⟨rfl, BTn.same H_h.out (by (repeat' (first | (with_reducible exact Vg.Grows.refl _) | (with_reducible assumption) | (with_reducible refine Vg.Grows.alloc ?_ _) | (with_reducible refine Vg.Grows.plus ?_ _ _) | (with_reducible refine Vg.Grows.drewN ?_ _) | (with_reducible refine Vg.Grows.drew ?_) | (with_reducible refine Vg.Grows.setCell ?_ ?_ _) | (with_reducible refine Vg.Grows.put ?_ ?_ _) | omega | (simp; omega) | (simp; done))))⟩
      | true =>
        rw [hab, if_neg (by simp)] at hx
        have hs := h.srv j hj
        obtain ⟨a, c, hrv⟩ := h.shp
        subst hrv
        have c0 := Vg.cells_of h.tab 0
        simp at c0
        obtain ⟨g, o, rfl, hg, hcc, hcm, d0, d1, d2, d3, d4⟩ := h.row.thread rfl j hj
        obtain ⟨y, hy⟩ : ∃ y, xs[j] = y := ⟨_, rfl⟩
        rw [hy] at hx hs d4 hbu hpe hpr hinv
        obtain ⟨⟨s', ru⟩, hu⟩ : ∃ p, y.p.s.use y.p.t.bu y.p.t.pe m en = p := ⟨_, rfl⟩
        rw [hu] at hx
        simp only [] at hx
        have hsl := hs.lt
        have hj0 : (0 : Int) ≤ j := by omega
        have hj1 : (j : Int) < xs.length := by omega
        obtain ⟨sb, hsb⟩ : ∃ sb, y.sb = sb := ⟨_, rfl⟩
        have d4' := d4
        rw [hsb] at d4'
        obtain ⟨nn, hnn⟩ : ∃ nn, xs.length = nn := ⟨_, rfl⟩
        rw [hnn] at c0 hcc hj1 ⊢
        have hrow : BT w b xs (.slice (some ⟨g, o, none⟩) nn c) wb Q wv O := by rw [← hnn]; exact h
        have hs' : SA w sb (sb + 1) y.p.t.bu y.p.t.pe y.p.s y.sv := by rw [← hsb]; exact hs
        have hsl' : sb + 1 ≤ w.heap.size := by omega
        have hd' : decide ((0 : Int) ≤ j ∧ (j : Int) < (nn : Int)) = true := by rw [← hnn]; exact hd
        clear d0 d1 d2 d3 d4 hpr hs
        by_cases hru : ru = 0
        · subst hru
          rw [if_neg (by simp)] at hx
          obtain ⟨⟨Q2, is2, r2⟩, hgo⟩ : ∃ p, Vg.Wk.go Q j m = p := ⟨_, rfl⟩
          rw [hgo] at hx
          simp only [Prod.mk.injEq] at hx
          obtain ⟨rfl, rfl, rfl, rfl⟩ := hx
          have H_h := Lib.hid h; clear h; have H_hd := Lib.hid hd; clear hd; have H_hd' := Lib.hid hd'; clear hd'; have H_hI := Lib.hid hI; clear hI; have H_hlf := Lib.hid hlf; clear hlf; have H_hinv := Lib.hid hinv; clear hinv; have H_hQ := Lib.hid hQ; clear hQ; have H_hab := Lib.hid hab; clear hab; have H_hy := Lib.hid hy; clear hy; have H_hu := Lib.hid hu; clear hu; have H_hsb := Lib.hid hsb; clear hsb; have H_hnn := Lib.hid hnn; clear hnn; have H_hrow := Lib.hid hrow; clear hrow; have H_hs' := Lib.hid hs'; clear hs'; have H_hgo := Lib.hid hgo; clear hgo
          go_enter Try.func50, Try.ntmps50
          go_wp2_with (first | (go_at_call 102; refine (bot_has j H_hrow.out H_hnn.out H_hd'.out).mono ?_; rintro e w1 ⟨rfl, rfl⟩) | (go_at_call 59; refine (bot_left j H_hrow.out H_hlf.out).mono ?_; rintro e w1 ⟨rfl, kk, rfl⟩) | (go_at_call 57; refine (bot_able j (H_hrow.out.grows (by (repeat' (first | (with_reducible exact Vg.Grows.refl _) | (with_reducible assumption) | (with_reducible refine Vg.Grows.alloc ?_ _) | (with_reducible refine Vg.Grows.plus ?_ _ _) | (with_reducible refine Vg.Grows.drewN ?_ _) | (with_reducible refine Vg.Grows.drew ?_) | (with_reducible refine Vg.Grows.setCell ?_ ?_ _) | (with_reducible refine Vg.Grows.put ?_ ?_ _) | omega | (simp; omega) | (simp; done))))) H_hab.out).mono ?_; rintro e w1 ⟨rfl, rfl⟩) | (go_at_call 105; refine (sa_use m en (H_hs'.out.grows (by (repeat' (first | (with_reducible exact Vg.Grows.refl _) | (with_reducible assumption) | (with_reducible refine Vg.Grows.alloc ?_ _) | (with_reducible refine Vg.Grows.plus ?_ _ _) | (with_reducible refine Vg.Grows.drewN ?_ _) | (with_reducible refine Vg.Grows.drew ?_) | (with_reducible refine Vg.Grows.setCell ?_ ?_ _) | (with_reducible refine Vg.Grows.put ?_ ?_ _) | omega | (simp; omega) | (simp; done))))) (by omega) (by simp only [World.heap_drewN]; omega) H_hinv.out hpe hbu hm hen).mono ?_; rintro e w2 ⟨v', rfl, hsa, ht, hv⟩; rw [H_hu.out] at hsa ⊢; rw [← H_hsb.out] at hsa ht; obtain ⟨hb2, hown2, ht2⟩ := BT.serv hj H_hy.out (H_hrow.out.grows (by (repeat' (first | (with_reducible exact Vg.Grows.refl _) | (with_reducible assumption) | (with_reducible refine Vg.Grows.alloc ?_ _) | (with_reducible refine Vg.Grows.plus ?_ _ _) | (with_reducible refine Vg.Grows.drewN ?_ _) | (with_reducible refine Vg.Grows.drew ?_) | (with_reducible refine Vg.Grows.setCell ?_ ?_ _) | (with_reducible refine Vg.Grows.put ?_ ?_ _) | omega | (simp; omega) | (simp; done))))) hsa ht hv; have e1 := Vg.cells_of hb2.tab 1; simp at e1; have ht3 := Vg.Touch.next (w := w) (Vg.Touch.of_grows (by (repeat' (first | (with_reducible exact Vg.Grows.refl _) | (with_reducible assumption) | (with_reducible refine Vg.Grows.alloc ?_ _) | (with_reducible refine Vg.Grows.plus ?_ _ _) | (with_reducible refine Vg.Grows.drewN ?_ _) | (with_reducible refine Vg.Grows.drew ?_) | (with_reducible refine Vg.Grows.setCell ?_ ?_ _) | (with_reducible refine Vg.Grows.put ?_ ?_ _) | omega | (simp; omega) | (simp; done))))) ht2 (fun _ hk => .inl hk); have H_hb2 := Lib.hid hb2; clear hb2; have H_hown2 := Lib.hid hown2; clear hown2; have H_ht3 := Lib.hid ht3; clear ht3; clear hsa ht hv ht2) | (go_at_call 22; refine (ws_go j m H_hb2.out.wrk H_hQ.out H_hgo.out).mono ?_; rintro e w3 ⟨rfl, hn⟩; have HN := Lib.hid hn; clear hn))
          go_ret2
          obtain ⟨O2, h5, h6, h7⟩ := H_hb2.out.work HN.out
          refine ⟨rfl, ?_⟩
          refine BTn.next (w2 := w2) (fun k hk => ?_) H_ht3.out ⟨_, O2, h5, ?_, h6, h7⟩
          · rcases H_hown2.out k hk with h8 | h8
            · exact .inl h8
            · exact .inr (by simp only [World.heap_drewN] at h8; exact h8)
          · rw [List.map_set]
        · rw [if_pos hru] at hx
          simp only [Prod.mk.injEq] at hx
          obtain ⟨rfl, rfl, rfl, rfl⟩ := hx
          have hz : (ru != 0) = true := by simp [hru]
          have H_h := Lib.hid h; clear h; have H_hd := Lib.hid hd; clear hd; have H_hd' := Lib.hid hd'; clear hd'; have H_hI := Lib.hid hI; clear hI; have H_hlf := Lib.hid hlf; clear hlf; have H_hinv := Lib.hid hinv; clear hinv; have H_hQ := Lib.hid hQ; clear hQ; have H_hab := Lib.hid hab; clear hab; have H_hy := Lib.hid hy; clear hy; have H_hu := Lib.hid hu; clear hu; have H_hsb := Lib.hid hsb; clear hsb; have H_hnn := Lib.hid hnn; clear hnn; have H_hrow := Lib.hid hrow; clear hrow; have H_hs' := Lib.hid hs'; clear hs'; have H_hru := Lib.hid hru; clear hru
          go_enter Try.func50, Try.ntmps50
          go_wp2_with (first | (go_at_call 102; refine (bot_has j H_hrow.out H_hnn.out H_hd'.out).mono ?_; rintro e w1 ⟨rfl, rfl⟩) | (go_at_call 59; refine (bot_left j H_hrow.out H_hlf.out).mono ?_; rintro e w1 ⟨rfl, kk, rfl⟩) | (go_at_call 57; refine (bot_able j (H_hrow.out.grows (by (repeat' (first | (with_reducible exact Vg.Grows.refl _) | (with_reducible assumption) | (with_reducible refine Vg.Grows.alloc ?_ _) | (with_reducible refine Vg.Grows.plus ?_ _ _) | (with_reducible refine Vg.Grows.drewN ?_ _) | (with_reducible refine Vg.Grows.drew ?_) | (with_reducible refine Vg.Grows.setCell ?_ ?_ _) | (with_reducible refine Vg.Grows.put ?_ ?_ _) | omega | (simp; omega) | (simp; done))))) H_hab.out).mono ?_; rintro e w1 ⟨rfl, rfl⟩) | (go_at_call 105; refine (sa_use m en (H_hs'.out.grows (by (repeat' (first | (with_reducible exact Vg.Grows.refl _) | (with_reducible assumption) | (with_reducible refine Vg.Grows.alloc ?_ _) | (with_reducible refine Vg.Grows.plus ?_ _ _) | (with_reducible refine Vg.Grows.drewN ?_ _) | (with_reducible refine Vg.Grows.drew ?_) | (with_reducible refine Vg.Grows.setCell ?_ ?_ _) | (with_reducible refine Vg.Grows.put ?_ ?_ _) | omega | (simp; omega) | (simp; done))))) (by omega) (by simp only [World.heap_drewN]; omega) H_hinv.out hpe hbu hm hen).mono ?_; rintro e w2 ⟨v', rfl, hsa, ht, hv⟩; rw [H_hu.out] at hsa ⊢; rw [← H_hsb.out] at hsa ht; obtain ⟨hb2, hown2, ht2⟩ := BT.serv hj H_hy.out (H_hrow.out.grows (by (repeat' (first | (with_reducible exact Vg.Grows.refl _) | (with_reducible assumption) | (with_reducible refine Vg.Grows.alloc ?_ _) | (with_reducible refine Vg.Grows.plus ?_ _ _) | (with_reducible refine Vg.Grows.drewN ?_ _) | (with_reducible refine Vg.Grows.drew ?_) | (with_reducible refine Vg.Grows.setCell ?_ ?_ _) | (with_reducible refine Vg.Grows.put ?_ ?_ _) | omega | (simp; omega) | (simp; done))))) hsa ht hv; have ht3 := Vg.Touch.next (w := w) (Vg.Touch.of_grows (by (repeat' (first | (with_reducible exact Vg.Grows.refl _) | (with_reducible assumption) | (with_reducible refine Vg.Grows.alloc ?_ _) | (with_reducible refine Vg.Grows.plus ?_ _ _) | (with_reducible refine Vg.Grows.drewN ?_ _) | (with_reducible refine Vg.Grows.drew ?_) | (with_reducible refine Vg.Grows.setCell ?_ ?_ _) | (with_reducible refine Vg.Grows.put ?_ ?_ _) | omega | (simp; omega) | (simp; done))))) ht2 (fun _ hk => .inl hk); have H_hb2 := Lib.hid hb2; clear hb2; have H_hown2 := Lib.hid hown2; clear hown2; have H_ht3 := Lib.hid ht3; clear ht3; clear hsa ht hv ht2))
          go_ret2
          refine ⟨rfl, ?_⟩
          refine ⟨_, O, H_hb2.out, ?_, fun k hk => ?_, H_ht3.out⟩
          · rw [List.map_set]
          · rcases H_hown2.out k hk with h8 | h8
            · exact .inl h8
            · exact .inr (by simp only [World.heap_drewN] at h8; exact h8)
theorem sa_later {bb B : Nat} {bu pe : Int} {s : Vg.Srv} {v : Value} (t : Int) (h : SA w bb B bu pe s v) {is : Bool} (his : (decide (s.last ≤ t) && decide (t ≤ 4503599627370496)) = is) :
    Calls Try.prog 107 #[.pointer (some ⟨bb, 0, none⟩), .int .i64 t] w fun e w' => e = .returned (.bool is) ∧ w = w' := by
  subst his
  obtain ⟨sa, sc, rfl, h1, h2⟩ := h
  exact serv_later t h1
end
end Go.Proofs.Ytiinhofmhoplfaa
