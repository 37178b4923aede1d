/- WheelC, WheelD, WheelH, WheelP (put together). -/
import Derived.Test.YtlkdkgefjipjmaaGreatDoorQ5
import Derived.Test.YtlkdkgefjipjmaaGreatDoorQ4
import Derived.Test.YtlkdkgefjipjmaaGreatDoorQ2
import Derived.Test.YtlkdkgefjipjmaaGreatDoorQ0
set_option linter.unusedSimpArgs false
set_option linter.unusedVariables false
set_option maxHeartbeats 40000000
set_option maxRecDepth 100000
namespace Go.Proofs.YtlkdkgefjipjmaaGreatDoor
open Go.ChangeShapes Go.WideShapes Go.ChangeAt Go.RowKit
theorem zeroIp (w : World) : (zeroValue 3).run Tryz.prog w = .ok (.int .i64 0) w := by
 obtain ⟨i, hi, hz, hs, hb⟩ := info_parts Tryz.info_intp
 simp [zeroValue, typeInfo, hi, hz]
section
variable {w w0 w' : World} {b pb p1 p2 gt gm n l i : Nat} {s : Vg.Wl} {L L' : Nat -> List Nat} {F F' : List Nat}
theorem wh_insert_range (id at_ : Int) (ha : at_ < 0 \/ 4503599627370496 < at_) : Calls Tryz.prog 89 #[.pointer (some ⟨b, 0, none⟩), .int .i64 id, .int .i64 at_] w fun e w' => e = .returned (.int .i64 1) /\ w = w' := by
 by_cases h1 : at_ < 0
 ·clear ha
  go_enter Tryz.func89, Tryz.ntmps89
  go_wp2
  go_ret
  exact ⟨rfl, rfl⟩
 ·have h2 : 4503599627370496 < at_ := by omega
  clear ha
  go_enter Tryz.func89, Tryz.ntmps89
  go_wp2
  go_ret
  exact ⟨rfl, rfl⟩
theorem wh_insert_full (id at_ : Int) (h : WO w b pb p1 p2 gt gm n s L []) (h0 : 0 <= s.now /\ s.now <= 4503599627370496) (ha0 : 0 <= at_) (ha1 : at_ <= 4503599627370496) (hid : (Lit.int .i64 id).wf = true) (hj : s.ids id = none) :
  Calls Tryz.prog 89 #[.pointer (some ⟨b, 0, none⟩), .int .i64 id, .int .i64 at_] w fun e w' => e = .returned (.int .i64 5) /\ Vg.Grows w w' := by
 have x1 := h.tab
 obtain ⟨mn, hmn, him⟩ := h.ids
 obtain ⟨hm, hhm⟩ : ∃ hm, Vg.home s.now at_ = hm := ⟨_, rfl⟩
 have hm258 : hm < 258 := by
  rw [<- hhm]; unfold Vg.home Vg.slotn
  (repeat' split) <;> omega
 obtain ⟨c_x1, f_x1, p_x1, l_x1, H_x1⟩ := Vg.lay x1; clear x1
 have H_h := h_ h; have H_hj := h_ hj; have H_him := h_ him; have H_hhm := h_ hhm; clear h hj him hhm
 go_enter Tryz.func89, Tryz.ntmps89
 go_wp2_with (first | (at_lookup; (refine Vg.wpList_look_imap _ rfl _ _ 267 rfl 3 3 Tryz.underlying3 Tryz.underlying267 Tryz.underlying3 (zeroIp _) gm mn _ rfl H_him.out _ rfl hid ?_); rw [H_hj.out]) | (go_at_call 150; (with_reducible refine (wh_home at_ H_h.out h0 ⟨ha0, ha1⟩ H_hhm.out).mono ?_); rintro e w1 ⟨rfl, hg1⟩; have y1 := hg1.blk H_x1.out; clear c_x1 f_x1 p_x1 l_x1; obtain ⟨c_y1, f_y1, p_y1, l_y1, H_y1⟩ := Vg.lay y1; clear y1; have H_hg1 := h_ hg1; clear hg1) | (go_at_call 151; (with_reducible refine (pool_take_no hm (H_h.out.pl.grows H_hg1.out) hm258).mono ?_); rintro e w2 ⟨rfl, rfl⟩))
 go_ret
 exact ⟨rfl, H_hg1.out⟩
theorem wh_insert (id at_ : Int) {f : Nat} (h : WO w b pb p1 p2 gt gm n s L (f :: F)) (h0 : 0 <= s.now /\ s.now <= 4503599627370496) (ha0 : 0 <= at_) (ha1 : at_ <= 4503599627370496) (hid : (Lit.int .i64 id).wf = true) (hj : s.ids id = none) (hu : ∀ k, s.U k < 18446744073709551616) (ht : s.turns <= 4611686018427387904)
  {hm : Nat} (hhm : Vg.home s.now at_ = hm) :
  Calls Tryz.prog 89 #[.pointer (some ⟨b, 0, none⟩), .int .i64 id, .int .i64 at_] w fun e w' => e = .returned (.int .i64 0) /\
   WOn w w' b pb p1 p2 gt gm n ⟨s.now, s.turns + 1, ((s.T.set (f * 3) id).set (f * 3 + 1) at_).set (f * 3 + 2) (s.turns + 1), (fun z => if z = id then some (f : Int) else s.ids z), Vg.noteU s.U hm false⟩ (Vg.upd L hm (L hm ++ [f])) F := by
 have x1 := h.tab
 obtain ⟨mn, hmn, him⟩ := h.ids
 have hm258 : hm < 258 := by
  rw [<- hhm]; unfold Vg.home Vg.slotn
  (repeat' split) <;> omega
 have hfn : f < n := by
  obtain ⟨q, q1, q2⟩ := h.pl
  exact q2.fr f (by simp)
 have hn4 : n <= 4096 := by obtain ⟨q, q1, q2⟩ := h.pl; exact q1.nn
 have hfI : (f : Int) < n := by omega
 have hnn : n <= n := Nat.le_refl _
 have hw1 : IntKind.i64.wrap (s.turns + 1) = s.turns + 1 := by rw [IntKind.wrap_i64]; omega
 have hfw : (Lit.int .i64 (f : Int)).wf = true := by
  simp only [Lit.wf, Bool.and_eq_true, decide_eq_true_eq]
  exact ⟨by show (-9223372036854775808 : Int) <= _; omega, by show _ <= (9223372036854775807 : Int); omega⟩
 have hue : (Vg.upd L hm (L hm ++ [f]) hm).isEmpty = false := by rw [Vg.upd_same]; simp
 obtain ⟨c_x1, f_x1, p_x1, l_x1, H_x1⟩ := Vg.lay x1; clear x1
 have H_h := h_ h; have H_hj := h_ hj; have H_him := h_ him; have H_hhm := h_ hhm; have H_hue := h_ hue; clear h hj him hhm hue
 go_enter Tryz.func89, Tryz.ntmps89
 go_upto_region 10 with (first | (at_lookup; (refine Vg.wpList_look_imap _ rfl _ _ 267 rfl 3 3 Tryz.underlying3 Tryz.underlying267 Tryz.underlying3 (zeroIp _) gm mn _ rfl H_him.out _ rfl hid ?_); rw [H_hj.out]) | (go_at_call 150; (with_reducible refine (wh_home at_ H_h.out h0 ⟨ha0, ha1⟩ H_hhm.out).mono ?_); rintro e w1 ⟨rfl, hg1⟩; have y1 := hg1.blk H_x1.out; clear c_x1 f_x1 p_x1 l_x1; obtain ⟨c_y1, f_y1, p_y1, l_y1, H_y1⟩ := Vg.lay y1; clear y1; have H_hg1 := h_ hg1; clear hg1) | (go_at_call 151; (with_reducible refine (pool_take hm (H_h.out.pl.grows H_hg1.out) hm258).mono ?_); rintro e w2 ⟨rfl, hp2⟩; have H_hp2 := h_ hp2; clear hp2))
 have hw2 := ((WOn.refl H_h.out).grows H_hg1.out).pool H_hp2.out
 have z2 := hw2.1.tab
 clear c_y1 f_y1 p_y1 l_y1
 obtain ⟨c_z2, f_z2, p_z2, l_z2, H_z2⟩ := Vg.lay z2; clear z2
 have H_hw2 := h_ hw2; clear hw2
 go_upto_region 11 with fail
 obtain ⟨mn5, hmn5, hi2⟩ := H_hw2.out.1.ids
 have nbm := H_hw2.out.1.n2
 have ntm := H_hw2.out.1.n3
 have hw3 := H_hw2.out.setTab s.now (s.turns + 1) s.U (by show s.turns <= s.turns + 1; omega)
 obtain ⟨w3, hw3e⟩ : ∃ w3, Vg.put w2 b (wheelC pb gt gm n s.now (s.turns + 1) s.U) = w3 := ⟨_, rfl⟩
 have hw3e' := hw3e
 simp only [wheelC] at hw3e'
 have hi3 : Vg.IMap w3 Tryz.prog 3 3 gm mn5 s.ids := hi2.keep (by rw [<- hw3e]; exact Vg.put_heap_other nbm)
 rw [hw3e] at hw3
 rw [hw3e']
 clear hw3e hw3e' c_z2 f_z2 p_z2 l_z2 H_z2 H_hw2
 have z3 := hw3.1.tab
 have l3 := Vg.lt_of hw3.1.tim
 obtain ⟨c_z3, f_z3, p_z3, l_z3, H_z3⟩ := Vg.lay z3; clear z3
 have H_hw3 := h_ hw3; clear hw3
 go_still_tail 14, (by kernel_rfl)
 obtain ⟨w4, hw4e⟩ : ∃ w4, w3.drew = w4 := ⟨_, rfl⟩
 have hw4 := H_hw3.out.grows (w' := w4) (by rw [<- hw4e]; exact (Vg.Grows.refl w3).drew)
 have hi4 : Vg.IMap w4 Tryz.prog 3 3 gm mn5 s.ids := hi3.grows (by rw [<- hw4e]; exact (Vg.Grows.refl w3).drew)
 change wpList _ _ _ _ _ w3.drew
 rw [hw4e]
 clear c_z3 f_z3 p_z3 l_z3 H_z3 H_hw3 hw4e l3
 have z4 := hw4.1.tab
 have htl := hw4.1.tl
 have cT1 := Vg.rowP_cell hw4.1.tim (List.getElem?_eq_getElem (show f * 3 < s.T.length by have : s.T.length = n * 3 := htl; omega))
 have cT2 := Vg.rowP_cell hw4.1.tim (List.getElem?_eq_getElem (show f * 3 + 1 < s.T.length by have : s.T.length = n * 3 := htl; omega))
 have cT3 := Vg.rowP_cell hw4.1.tim (List.getElem?_eq_getElem (show f * 3 + 2 < s.T.length by have : s.T.length = n * 3 := htl; omega))
 have fT := Vg.frozen_of hw4.1.tim
 have lT := Vg.lt_of hw4.1.tim
 have nbt := hw4.1.n1
 obtain ⟨c_z4, f_z4, p_z4, l_z4, H_z4⟩ := Vg.lay z4; clear z4
 have H_hw4 := h_ hw4; clear hw4
 go_upto_region 12 with fail
 have hw5 := ((H_hw4.out.setT (f * 3) id).setT (f * 3 + 1) at_).setT (f * 3 + 2) (s.turns + 1)
 obtain ⟨w5, hw5e⟩ : ∃ w5, (((w4.setCell ⟨gt, f * 3, none⟩ (.int .i64 id)).setCell ⟨gt, f * 3 + 1, none⟩ (.int .i64 at_)).setCell ⟨gt, f * 3 + 2, none⟩ (.int .i64 (s.turns + 1))) = w5 := ⟨_, rfl⟩
 have him5 : Vg.IMap w5 Tryz.prog 3 3 gm mn5 s.ids := hi4.keep (by rw [<- hw5e, Vg.setCell_heap_other ntm, Vg.setCell_heap_other ntm, Vg.setCell_heap_other ntm])
 clear hi2 hi3 hi4
 rw [hw5e] at hw5 ⊢
 clear hw5e c_z4 f_z4 p_z4 l_z4 H_z4 H_hw4 cT1 cT2 cT3 fT lT
 have hw5 : WOn w w5 b pb p1 p2 gt gm n ⟨s.now, s.turns + 1, ((s.T.set (f * 3) id).set (f * 3 + 1) at_).set (f * 3 + 2) (s.turns + 1), s.ids, s.U⟩ (Vg.upd L hm (L hm ++ [f])) F := hw5
 have z5 := hw5.1.tab
 obtain ⟨c_z5, f_z5, p_z5, l_z5, H_z5⟩ := Vg.lay z5; clear z5
 have hmn9 : mn5 < maxLen := by
  unfold maxLen
  have h9 : (mn5 : Int) <= s.turns := hmn5
  omega
 have H_hw5 := h_ hw5; have H_him5 := h_ him5; clear hw5 him5
 go_upto_region 13 with (at_mapUpdate; (refine Vg.wpList_set_imap _ rfl _ _ _ 267 rfl 3 3 Tryz.underlying3 Tryz.underlying267 Tryz.underlying3 gm mn5 _ rfl H_him5.out hmn9 _ rfl hid _ rfl hfw ?_); intro ob hob; have H_hob := h_ hob; clear hob)
 have hw6 := H_hw5.out.setM H_hob.out (by show ((mn5 + 1 : Nat) : Int) <= s.turns + 1; have h9 : (mn5 : Int) <= s.turns := hmn5; omega)
 obtain ⟨w6, hw6e⟩ : ∃ w6, Vg.put w5 gm ob = w6 := ⟨_, rfl⟩
 rw [hw6e] at hw6 ⊢
 clear hw6e c_z5 f_z5 p_z5 l_z5 H_z5 H_hw5 H_hob
 have z6 := hw6.1.tab
 obtain ⟨c_z6, f_z6, p_z6, l_z6, H_z6⟩ := Vg.lay z6; clear z6
 have H_hw6 := h_ hw6; clear hw6
 have hnk := wh_note hm hm258 H_hw6.out.1 hu (U' := Vg.noteU s.U hm false) (by show Vg.noteU s.U hm (Vg.upd L hm (L hm ++ [f]) hm).isEmpty = _; rw [H_hue.out])
 have H_hnk := h_ hnk; clear hnk
 go_wp2_with ((go_at_call 152; (with_reducible refine (H_hnk.out).mono ?_); rintro e w7 ⟨rfl, hw7⟩; have H_hw7 := h_ hw7; clear hw7))
 go_returns
 exact ⟨rfl, H_hw6.out.trans H_hw7.out⟩
end
end Go.Proofs.YtlkdkgefjipjmaaGreatDoor
namespace Go.Proofs.YtlkdkgefjipjmaaGreatDoor
open Go.ChangeShapes Go.WideShapes Go.ChangeAt Go.RowKit
section
variable {w w0 w' : World} {b pb p1 p2 gt gm n l i : Nat} {s : Vg.Wl} {L L' : Nat -> List Nat} {F F' A B : List Nat}
theorem wh_drop (i l : Nat) (id : Int) (h : WO w b pb p1 p2 gt gm n s L F) (hl : l < 258) (hLl : L l = A ++ i :: B) (hin : i < n) (hid : s.T[i * 3]? = some id) (hidw : (Lit.int .i64 id).wf = true) (hu : ∀ k, s.U k < 18446744073709551616)
  {U' : Nat -> Nat} (hU : Vg.noteU s.U l (A ++ B).isEmpty = U') :
  Calls Tryz.prog 209 #[.pointer (some ⟨b, 0, none⟩), .int .i64 i] w fun e w' => e = .returned (.tuple #[]) /\
   WOn w w' b pb p1 p2 gt gm n { s with ids := (fun z => if z = id then none else s.ids z), U := U' } (Vg.upd L l (A ++ B)) (i :: F) := by
 have x1 := h.tab
 have hn4 : n <= 4096 := by obtain ⟨q, q1, q2⟩ := h.pl; exact q1.nn
 have hfI : (i : Int) < n := by omega
 have hnn : n <= n := Nat.le_refl _
 have hwk := pool_where i h.pl hl (by rw [hLl]; simp)
 have hgk := pool_give i h.pl hl hLl
 have hmem : (Vg.upd L l (A ++ B)) l = A ++ B := Vg.upd_same ..
 obtain ⟨c_x1, f_x1, p_x1, l_x1, H_x1⟩ := Vg.lay x1; clear x1
 have H_h := h_ h; have H_hwk := h_ hwk; have H_hgk := h_ hgk; have H_hLl := h_ hLl; have H_hid := h_ hid; have H_hmem := h_ hmem; clear h hwk hgk hLl hid hmem
 go_enter Tryz.func209, Tryz.ntmps209
 go_upto_region 2 with (first | (go_at_call 211; (with_reducible refine (H_hwk.out).mono ?_); rintro e w1 ⟨rfl, rfl⟩) | (go_at_call 226; (with_reducible refine (H_hgk.out).mono ?_); rintro e w2 ⟨rfl, hp2⟩; have H_hp2 := h_ hp2; clear hp2))
 have hw2 := (WOn.refl H_h.out).pool H_hp2.out
 have z2 := hw2.1.tab
 obtain ⟨mn5, hmn5, him5⟩ := hw2.1.ids
 have cT1 := Vg.rowP_cell hw2.1.tim H_hid.out
 clear c_x1 f_x1 p_x1 l_x1
 obtain ⟨c_z2, f_z2, p_z2, l_z2, H_z2⟩ := Vg.lay z2; clear z2
 have H_hw2 := h_ hw2; have H_him5 := h_ him5; clear hw2 him5
 go_still_tail 13, (by kernel_rfl)
 obtain ⟨w4, hw4e⟩ : ∃ w4, w2.drew = w4 := ⟨_, rfl⟩
 have hg4 : Vg.Grows w2 w4 := by rw [<- hw4e]; exact (Vg.Grows.refl w2).drew
 have hw4 := H_hw2.out.grows hg4
 have hi4 := H_him5.out.grows hg4
 change wpList _ _ _ _ _ w2.drew
 rw [hw4e]
 clear c_z2 f_z2 p_z2 l_z2 H_z2 H_hw2 hw4e H_him5 cT1
 have H_hw4 := h_ hw4; have H_hi4 := h_ hi4; clear hw4 hi4
 refine Vg.wpList_del_imap _ rfl _ _ 267 3 rfl 3 Tryz.underlying3 Tryz.underlying267 gm mn5 _ rfl H_hi4.out _ rfl hidw ?_
 intro ob hob
 have hw6 := H_hw4.out.setM hob hmn5
 obtain ⟨w6, hw6e⟩ : ∃ w6, Vg.put w4 gm ob = w6 := ⟨_, rfl⟩
 rw [hw6e] at hw6 ⊢
 clear hw6e H_hw4 H_hi4 hob
 have z6 := hw6.1.tab
 have hnk := wh_note l hl hw6.1 hu (U' := U') (by rw [H_hmem.out]; exact hU)
 obtain ⟨c_z6, f_z6, p_z6, l_z6, H_z6⟩ := Vg.lay z6; clear z6
 have H_hw6 := h_ hw6; have H_hnk := h_ hnk; clear hw6 hnk
 go_wp2_with ((go_at_call 152; (with_reducible refine (H_hnk.out).mono ?_); rintro e w7 ⟨rfl, hw7⟩; have H_hw7 := h_ hw7; clear hw7))
 go_returns
 exact ⟨rfl, H_hw6.out.trans H_hw7.out⟩
end
end Go.Proofs.YtlkdkgefjipjmaaGreatDoor
namespace Vg
open Go
def spr1 (now : Int) (T : List Int) (l : Nat) (x : (Nat -> List Nat) × (Nat -> Nat)) (i : Nat) : (Nat -> List Nat) × (Nat -> Nat) :=
 if home now (T.getD (i * 3 + 1) 0) = l then x else
 (upd (upd x.1 l ((x.1 l).erase i)) (home now (T.getD (i * 3 + 1) 0)) ((upd x.1 l ((x.1 l).erase i)) (home now (T.getD (i * 3 + 1) 0)) ++ [i]), noteU x.2 (home now (T.getD (i * 3 + 1) 0)) false)
def spr (now : Int) (T : List Int) (l : Nat) (A : List Nat) (x : (Nat -> List Nat) × (Nat -> Nat)) : (Nat -> List Nat) × (Nat -> Nat) := A.foldl (spr1 now T l) x
theorem spr_snoc (now : Int) (T : List Int) (l : Nat) (A : List Nat) (i : Nat) (x : (Nat -> List Nat) × (Nat -> Nat)) : spr now T l (A ++ [i]) x = spr1 now T l (spr now T l A x) i := by unfold spr; rw [List.foldl_append]; rfl
theorem home_lt (now at_ : Int) : home now at_ < 258 := by
 unfold home slotn
 (repeat' split) <;> omega
theorem noteU_lt {U : Nat -> Nat} (l : Nat) (em : Bool) (h : ∀ k, U k < 18446744073709551616) : ∀ k, noteU U l em k < 18446744073709551616 := fun k => by
 unfold noteU
 split
 ·exact h k
 ·unfold updU
  split
  ·split
   ·exact clr_lt (h _)
   ·exact or_lt (h _) (Nat.mod_lt _ (by omega))
  ·exact h k
theorem erase_mid {A B : List Nat} {i : Nat} (h : (A ++ i :: B).Nodup) : (A ++ i :: B).erase i = A ++ B := by
 rw [List.erase_append_right _ (by intro hi; exact (List.nodup_append.1 h).2.2 i hi i (by simp) rfl), List.erase_cons_head]
theorem spr1_lt {now : Int} {T : List Int} {l i : Nat} {x : (Nat -> List Nat) × (Nat -> Nat)} (h : ∀ k, x.2 k < 18446744073709551616) : ∀ k, (spr1 now T l x i).2 k < 18446744073709551616 := by
 unfold spr1
 split
 ·exact h
 ·exact noteU_lt _ _ h
theorem spr_lt {now : Int} {T : List Int} {l : Nat} {L : Nat -> List Nat} {U : Nat -> Nat} (h : ∀ k, U k < 18446744073709551616) (A : List Nat) : ∀ k, (spr now T l A (L, U)).2 k < 18446744073709551616 := by
 have key : ∀ (A : List Nat) (x : (Nat -> List Nat) × (Nat -> Nat)), (∀ k, x.2 k < 18446744073709551616) -> ∀ k, (spr now T l A x).2 k < 18446744073709551616 := by
  intro A
  induction A with
  | nil => intro x hx; exact hx
  | cons i A ih => intro x hx; exact ih _ (spr1_lt hx)
 exact key A _ h
theorem spr_keep (now : Int) (T : List Int) (l : Nat) : ∀ (P : List Nat) (x : (Nat -> List Nat) × (Nat -> Nat)) (K R : List Nat), x.1 l = K ++ P ++ R -> (K ++ P ++ R).Nodup -> (spr now T l P x).1 l = K ++ P.filter (fun i => decide (home now (T.getD (i * 3 + 1) 0) = l)) ++ R
 | [], x, K, R, h, hn => by simpa [spr] using h
 | i :: P, x, K, R, h, hn => by
  have e : spr now T l (i :: P) x = spr now T l P (spr1 now T l x i) := rfl
  have hn2 : (K ++ i :: (P ++ R)).Nodup := by simpa using hn
  rw [e]
  by_cases hh : home now (T.getD (i * 3 + 1) 0) = l
  ·have e1 : spr1 now T l x i = x := by unfold spr1; rw [if_pos hh]
   rw [e1, spr_keep now T l P x (K ++ [i]) R (by rw [h]; simp) (by simpa using hn2), List.filter_cons_of_pos (by simpa using hh)]
   simp
  ·have e1 : (spr1 now T l x i).1 l = K ++ P ++ R := by
    unfold spr1
    rw [if_neg hh]
    show upd _ _ _ l = _
    unfold upd
    rw [if_neg (fun e => hh e.symm), if_pos rfl, h, show K ++ i :: P ++ R = K ++ i :: (P ++ R) by simp, erase_mid hn2]
    simp
   rw [spr_keep now T l P _ K R e1 (by have := hn2.sublist (List.Sublist.append_left (List.sublist_cons_self i (P ++ R)) K); simpa using this), List.filter_cons_of_neg (by simpa using hh)]
end Vg
namespace Go.Proofs.YtlkdkgefjipjmaaGreatDoor
open Go.ChangeShapes Go.WideShapes Go.ChangeAt Go.RowKit
section
variable {w w0 w' : World} {b pb p1 p2 gt gm n l i : Nat} {s : Vg.Wl} {L L' : Nat -> List Nat} {F F' A B : List Nat}
theorem wh_spread (l : Nat) (hl : l < 258) (h : WO w b pb p1 p2 gt gm n s L F) (h0 : 0 <= s.now /\ s.now <= 4503599627370496) (hu : ∀ k, s.U k < 18446744073709551616) (hTm : ∀ i ∈ L l, 0 <= s.T.getD (i * 3 + 1) 0 /\ s.T.getD (i * 3 + 1) 0 <= 4503599627370496)
  {x : (Nat -> List Nat) × (Nat -> Nat)} (hx : Vg.spr s.now s.T l (L l) (L, s.U) = x) :
  Calls Tryz.prog 114 #[.pointer (some ⟨b, 0, none⟩), .int .i64 l] w fun e w' => e = .returned (.tuple #[]) /\
   WOn w w' b pb p1 p2 gt gm n { s with U := Vg.noteU x.2 l (x.1 l).isEmpty } x.1 F := by
 have x1 := h.tab
 have hlt := h.lt
 obtain ⟨q, q1, q2⟩ := h.pl
 have hn4 : n <= 4096 := q1.nn
 have hnd := q2.nd l hl
 have hrg := q2.rng l hl
 have hAl : (L l).length <= n := by
  have := List.Nodup.length_le_of_subset (l₁ := L l) (l₂ := List.range n) hnd fun j hj => List.mem_range.2 (hrg j hj)
  rw [List.length_range] at this
  exact this
 clear q1 q2
 obtain ⟨A, hA⟩ : ∃ A, L l = A := ⟨_, rfl⟩
 obtain ⟨N, hN⟩ : ∃ N, A.length = N := ⟨_, rfl⟩
 have hlk := pool_list l h.pl hl (N := N) (by rw [hA]; exact hN)
 rw [hA] at hnd hrg hAl hTm hlk hx
 have hstart : WOn w w b pb p1 p2 gt gm n { s with U := (Vg.spr s.now s.T l (A.take 0) (L, s.U)).2 } (Vg.spr s.now s.T l (A.take 0) (L, s.U)).1 F := WOn.refl h
 have hkp : ∀ j, (Vg.spr s.now s.T l (A.take j) (L, s.U)).1 l = (A.take j).filter (fun i => decide (Vg.home s.now (s.T.getD (i * 3 + 1) 0) = l)) ++ A.drop j := fun j => by
  have := Vg.spr_keep s.now s.T l (A.take j) (L, s.U) [] (A.drop j) (by simpa using hA) (by simpa using hnd)
  simpa using this
 obtain ⟨c_x1, f_x1, p_x1, l_x1, H_x1⟩ := Vg.lay x1; clear x1
 have H_h := h_ h; have H_hlk := h_ hlk; have H_hx := h_ hx; have H_hnd := h_ hnd; have H_hrg := h_ hrg; have H_hTm := h_ hTm; have H_hA := h_ hA; have H_hN := h_ hN; have H_hstart := h_ hstart; have H_hkp := h_ hkp; have H_hlt := h_ hlt; clear h hlk hx hnd hrg hTm hA hN hstart hkp hlt
 go_enter Tryz.func114, Tryz.ntmps114
 go_wp2_with ((go_at_call 182; (with_reducible refine (H_hlk.out).mono ?_); rintro e w1 ⟨a, c, rfl, hq, hg1⟩; have H_hq := h_ hq; have H_hg1 := h_ hg1; clear hq hg1))
 go_loopw [14] (fun i wr => ∃ j : Nat, j <= N /\ i = .int .i64 j /\ WOn w wr b pb p1 p2 gt gm n { s with U := (Vg.spr s.now s.T l (A.take j) (L, s.U)).2 } (Vg.spr s.now s.T l (A.take j) (L, s.U)).1 F /\ Vg.Que wr w.heap.size 3 1 (.slice a N c) N (Vg.pis (A.map fun i : Nat => (i : Int)))) (fun i _ => N - (intOf i).toNat)
 case atStart => exact ⟨0, by omega, rfl, H_hstart.out.grows H_hg1.out, H_hq.out⟩
 case round =>
  obtain ⟨j, hj, rfl, hw, hq2⟩ := hrel
  clear c_x1 f_x1 p_x1 l_x1
  have y1 := hw.1.tab
  obtain ⟨y, hy⟩ : ∃ y, Vg.spr s.now s.T l (A.take j) (L, s.U) = y := ⟨_, rfl⟩
  rw [hy] at hw
  have hk9 := H_hkp.out j
  rw [hy] at hk9
  by_cases hjN : j < N
  ·have hjA : j < A.length := by rw [H_hN.out]; exact hjN
   obtain ⟨g, off, rfl, hg, hcN, hcm, hcell⟩ := Vg.Reads.open hq2.reads (by simp [Vg.pis]; omega)
   have hjc := hcell j (by simpa [Vg.pis] using hjA)
   simp only [Vg.pis, List.getElem_map] at hjc
   obtain ⟨i, hi⟩ : ∃ i, A[j] = i := ⟨_, rfl⟩
   rw [hi] at hjc
   have hin : i < n := H_hrg.out i (by rw [<- hi]; exact List.getElem_mem _)
   have hvr := H_hTm.out i (by rw [<- hi]; exact List.getElem_mem _)
   have htl : s.T.length = n * 3 := hw.1.tl
   have hjT : i * 3 + 1 < s.T.length := by omega
   have cT1 := Vg.rowP_cell hw.1.tim (List.getElem?_eq_getElem hjT)
   obtain ⟨v, hv⟩ : ∃ v, s.T.getD (i * 3 + 1) 0 = v := ⟨_, rfl⟩
   have hv2 : s.T[i * 3 + 1] = v := by rw [<- hv, List.getD_eq_getElem?_getD, List.getElem?_eq_getElem hjT, Option.getD_some]
   change wr.cell? _ = some (.int .i64 s.T[i * 3 + 1]) at cT1
   rw [hv2] at cT1
   rw [hv] at hvr
   obtain ⟨tt, hto⟩ : ∃ tt, Vg.home s.now v = tt := ⟨_, rfl⟩
   have hto2 : tt < 258 := by rw [<- hto]; exact Vg.home_lt _ _
   have hsn : Vg.spr s.now s.T l (A.take (j + 1)) (L, s.U) = Vg.spr1 s.now s.T l y i := by
    rw [List.take_succ_eq_append_getElem hjA, Vg.spr_snoc, hy, hi]
   have hdec : y.1 l = (A.take j).filter (fun i => decide (Vg.home s.now (s.T.getD (i * 3 + 1) 0) = l)) ++ i :: A.drop (j + 1) := by
    rw [hk9, List.drop_eq_getElem_cons hjA, hi]
   have hyu : ∀ k, y.2 k < 18446744073709551616 := by rw [<- hy]; exact Vg.spr_lt hu _
   have hfI : (i : Int) < n := by omega
   have hnn : n <= n := Nat.le_refl _
   have hhk := wh_home v hw.1 h0 hvr hto
   obtain ⟨q9, q8, q7⟩ := hw.1.pl
   have hnd9 := q7.nd l hl
   clear q8 q7
   have h1N : j + 1 <= N := by omega
   have hww : Vg.Grows wr wr := Vg.Grows.refl _
   by_cases hne : tt = l
   ·have hy1 : Vg.spr1 s.now s.T l y i = y := by unfold Vg.spr1; rw [hv, hto, if_pos hne]
    rw [hy1] at hsn
    subst hne
    obtain ⟨c_y1, f_y1, p_y1, l_y1, H_y1⟩ := Vg.lay y1; clear y1
    have H_hw := h_ hw; have H_hq2 := h_ hq2; have H_hy := h_ hy; have H_hk9 := h_ hk9; have H_hdec := h_ hdec; have H_hsn := h_ hsn; have H_hhk := h_ hhk; have H_hto := h_ hto; have H_hi := h_ hi; have H_hv := h_ hv; have H_hv2 := h_ hv2; have H_hnd9 := h_ hnd9; have H_hyu := h_ hyu; have H_hy1 := h_ hy1; have H_hww := h_ hww; clear hw hq2 hy hk9 hdec hsn hhk hto hi hv hv2 hnd9 hyu hy1 hww
    go_wp2_with ((go_at_call 150; (with_reducible refine (H_hhk.out).mono ?_); rintro e w2 ⟨rfl, hg2⟩; have H_hg2 := h_ hg2; clear hg2))
    exact ⟨⟨j + 1, h1N, by go_num, by rw [H_hsn.out]; exact H_hw.out.grows H_hg2.out, H_hq2.out.grows H_hg2.out⟩, by simp [intOf]; omega⟩
   ·rw [hdec] at hnd9
    have her := Vg.erase_mid hnd9
    rw [<- hdec] at her
    have hy1 : Vg.spr1 s.now s.T l y i = (Vg.upd (Vg.upd y.1 l ((y.1 l).erase i)) tt ((Vg.upd y.1 l ((y.1 l).erase i)) tt ++ [i]), Vg.noteU y.2 tt false) := by unfold Vg.spr1; rw [hv, hto, if_neg hne]
    rw [hy1] at hsn
    have hmk : ∀ w9, Vg.Grows wr w9 -> Calls Tryz.prog 183 #[.pointer (some ⟨pb, 0, none⟩), .int .i64 i, .int .i64 tt] w9 fun e w' => e = .returned (.int .i64 0) /\ PLn w9 w' pb p1 p2 n 258 (Vg.upd (Vg.upd y.1 l ((y.1 l).erase i)) tt ((Vg.upd y.1 l ((y.1 l).erase i)) tt ++ [i])) F := fun w9 hg9 =>
     pool_move i tt (hw.1.pl.grows hg9) hl hto2 hdec (by rw [her])
    obtain ⟨L9, hL9⟩ : ∃ L9, Vg.upd (Vg.upd y.1 l ((y.1 l).erase i)) tt ((Vg.upd y.1 l ((y.1 l).erase i)) tt ++ [i]) = L9 := ⟨_, rfl⟩
    have hL9e : (L9 tt).isEmpty = false := by rw [<- hL9, Vg.upd_same]; simp
    rw [hL9] at hmk hsn
    have hnk : ∀ w9, WOn w w9 b pb p1 p2 gt gm n { s with U := y.2 } L9 F -> Calls Tryz.prog 152 #[.pointer (some ⟨b, 0, none⟩), .int .i64 tt] w9 fun e w' => e = .returned (.tuple #[]) /\ WOn w9 w' b pb p1 p2 gt gm n { s with U := Vg.noteU y.2 tt false } L9 F := fun w9 h9 =>
     wh_note tt hto2 h9.1 hyu (by rw [hL9e])
    have hneI : (!decide ((tt : Int) = l)) = true := by simp; omega
    have hneI2 : ((tt : Int) != l) = true := by simp; omega
    have hgl : ∀ w9 w8, WOn w8 w9 b pb p1 p2 gt gm n { s with U := Vg.noteU y.2 tt false } L9 F -> w.heap.size <= w8.heap.size -> Vg.Que w8 w.heap.size 3 1 (.slice (some ⟨g, off, none⟩) N c) N (Vg.pis (A.map fun i : Nat => (i : Int))) -> Vg.Que w9 w.heap.size 3 1 (.slice (some ⟨g, off, none⟩) N c) N (Vg.pis (A.map fun i : Nat => (i : Int))) := fun w9 w8 h9 _ hq => hq.kept fun k hk => h9.2.block k (hq.lt k hk).2 fun ho => by
     have := H_hlt.out k ho
     have := (hq.lt k hk).1
     omega
    have hgp : ∀ w9 w8, PLn w8 w9 pb p1 p2 n 258 L9 F -> Vg.Que w8 w.heap.size 3 1 (.slice (some ⟨g, off, none⟩) N c) N (Vg.pis (A.map fun i : Nat => (i : Int))) -> Vg.Que w9 w.heap.size 3 1 (.slice (some ⟨g, off, none⟩) N c) N (Vg.pis (A.map fun i : Nat => (i : Int))) := fun w9 w8 h9 hq => hq.kept fun k hk => h9.2.block k (hq.lt k hk).2 fun ho => by
     have := H_hlt.out k (.inr (.inr (.inr ho)))
     have := (hq.lt k hk).1
     omega
    have hsz := hw.2.size
    obtain ⟨c_y1, f_y1, p_y1, l_y1, H_y1⟩ := Vg.lay y1; clear y1
    have H_hw := h_ hw; have H_hq2 := h_ hq2; have H_hy := h_ hy; have H_hk9 := h_ hk9; have H_hdec := h_ hdec; have H_hsn := h_ hsn; have H_hhk := h_ hhk; have H_hto := h_ hto; have H_hi := h_ hi; have H_hv := h_ hv; have H_hv2 := h_ hv2; have H_hnd9 := h_ hnd9; have H_hyu := h_ hyu; have H_hy1 := h_ hy1; have H_hww := h_ hww; have H_her := h_ her; have H_hmk := h_ hmk; have H_hL9 := h_ hL9; have H_hnk := h_ hnk; have H_hgl := h_ hgl; have H_hgp := h_ hgp; have H_hL9e := h_ hL9e; clear hw hq2 hy hk9 hdec hsn hhk hto hi hv hv2 hnd9 hyu hy1 hww her hmk hL9 hnk hgl hgp hL9e
    go_upto_region 6 with (first | (go_at_call 150; (with_reducible refine (H_hhk.out).mono ?_); rintro e w2 ⟨rfl, hg2⟩; have y2 := hg2.blk H_y1.out; clear c_y1 f_y1 p_y1 l_y1 cT1; obtain ⟨c_y2, f_y2, p_y2, l_y2, H_y2⟩ := Vg.lay y2; clear y2; have H_hg2 := h_ hg2; clear hg2) | (go_at_call 183; (with_reducible refine (H_hmk.out _ H_hg2.out).mono ?_); rintro e w3 ⟨rfl, hp3⟩; have H_hp3 := h_ hp3; clear hp3))
    have hw3 := (H_hw.out.grows H_hg2.out).pool H_hp3.out
    have hq3 := H_hgp.out _ _ H_hp3.out (H_hq2.out.grows H_hg2.out)
    have y3 := hw3.1.tab
    have hnk3 := H_hnk.out _ hw3
    have hs3 := hw3.2.size
    clear c_y2 f_y2 p_y2 l_y2 hjc
    obtain ⟨c_y3, f_y3, p_y3, l_y3, H_y3⟩ := Vg.lay y3; clear y3
    have H_hw3 := h_ hw3; have H_hq3 := h_ hq3; have H_hnk3 := h_ hnk3; clear hw3 hq3 hnk3
    go_wp2_with ((go_at_call 152; (with_reducible refine (H_hnk3.out).mono ?_); rintro e w4 ⟨rfl, hw4⟩; have H_hw4 := h_ hw4; clear hw4))
    exact ⟨⟨j + 1, h1N, by go_num, by rw [H_hsn.out]; exact H_hw3.out.trans H_hw4.out, H_hgl.out _ _ H_hw4.out hs3 H_hq3.out⟩, by simp [intOf]; omega⟩
  ·have hjn : j = N := by omega
   subst hjn
   have htk : A.take j = A := List.take_of_length_le (by rw [H_hN.out]; omega)
   rw [htk, H_hx.out] at hy
   subst hy
   have hnk := wh_note l hl hw.1 (by rw [<- H_hx.out]; exact Vg.spr_lt hu _) (U' := Vg.noteU x.2 l (x.1 l).isEmpty) rfl
   obtain ⟨c_y1, f_y1, p_y1, l_y1, H_y1⟩ := Vg.lay y1; clear y1
   have H_hw := h_ hw; have H_hq2 := h_ hq2; have H_hk9 := h_ hk9; have H_htk := h_ htk; have H_hnk := h_ hnk; clear hw hq2 hk9 htk hnk
   go_wp2_with ((go_at_call 152; (with_reducible refine (H_hnk.out).mono ?_); rintro e w4 ⟨rfl, hw4⟩; have H_hw4 := h_ hw4; clear hw4))
   go_returns
   exact ⟨rfl, H_hw.out.trans H_hw4.out⟩
end
end Go.Proofs.YtlkdkgefjipjmaaGreatDoor
namespace Vg
open Go
section
variable {now at_ : Int} {j : Nat}
theorem home_l0 (h0 : 0 <= now) (h1 : 0 <= at_) (hj : j < 64) : home now at_ = j ↔ now < at_ /\ at_ / 64 = now / 64 /\ at_ % 64 = j := by
 simp only [home, slotn, lev]
 (repeat' split) <;> omega
theorem home_l1 (h0 : 0 <= now) (h1 : 0 <= at_) (hj : j < 64) : home now at_ = 64 + j ↔ now < at_ /\ at_ / 4096 = now / 4096 /\ at_ / 64 ≠ now / 64 /\ at_ / 64 % 64 = j := by
 simp only [home, slotn, lev]
 (repeat' split) <;> omega
theorem home_l2 (h0 : 0 <= now) (h1 : 0 <= at_) (hj : j < 64) : home now at_ = 128 + j ↔ now < at_ /\ at_ / 262144 = now / 262144 /\ at_ / 4096 ≠ now / 4096 /\ at_ / 4096 % 64 = j := by
 simp only [home, slotn, lev]
 (repeat' split) <;> omega
theorem home_l3 (h0 : 0 <= now) (h1 : 0 <= at_) (hj : j < 64) : home now at_ = 192 + j ↔ now < at_ /\ at_ / 16777216 = now / 16777216 /\ at_ / 262144 ≠ now / 262144 /\ at_ / 262144 % 64 = j := by
 simp only [home, slotn, lev]
 (repeat' split) <;> omega
theorem home_far (h0 : 0 <= now) (h1 : 0 <= at_) : home now at_ = 256 ↔ now < at_ /\ at_ / 16777216 ≠ now / 16777216 := by
 simp only [home, slotn, lev]
 (repeat' split) <;> omega
theorem home_due (h0 : 0 <= now) (h1 : 0 <= at_) : home now at_ = 257 ↔ at_ <= now := by
 simp only [home, slotn, lev]
 (repeat' split) <;> omega
end
theorem list_cases {l : Nat} (h : l < 258) : l < 64 \/ (∃ j, j < 64 /\ l = 64 + j) \/ (∃ j, j < 64 /\ l = 128 + j) \/ (∃ j, j < 64 /\ l = 192 + j) \/ l = 256 \/ l = 257 := by
 by_cases h1 : l < 64
 ·exact .inl h1
 ·by_cases h2 : l < 128
  ·exact .inr (.inl ⟨l - 64, by omega, by omega⟩)
  ·by_cases h3 : l < 192
   ·exact .inr (.inr (.inl ⟨l - 128, by omega, by omega⟩))
   ·by_cases h4 : l < 256
    ·exact .inr (.inr (.inr (.inl ⟨l - 192, by omega, by omega⟩)))
    ·omega
theorem jump {now at_ nx t : Int} {k l : Nat} (h0 : 0 <= now) (h1 : 0 <= at_) (hk : k < 4) (hl : l < 258) (hh : home now at_ = l) (hn : now <= nx) (ht : nx <= startn now k t) (hs : slotn now k < t) (ht2 : t < 64) (hlow : k * 64 + t <= l) (hex : nx < startn now k t \/ (l : Int) ≠ k * 64 + t) :
  home nx at_ = l /\ (l = 257 \/ startn now k t <= at_) := by
 have hto : 0 <= nx := by omega
 have ht0 : 0 <= t := by unfold slotn at hs; omega
 rcases list_cases hl with h | ⟨j, hj, rfl⟩ | ⟨j, hj, rfl⟩ | ⟨j, hj, rfl⟩ | rfl | rfl
 ·rw [home_l0 h0 h1 h] at hh
  rw [home_l0 hto h1 h]
  have hc : k = 0 := by omega
  subst hc
  simp only [startn, slotn, lev] at ht hs hex hlow ⊢
  omega
 ·rw [home_l1 h0 h1 hj] at hh
  rw [home_l1 hto h1 hj]
  have hc : k = 0 \/ k = 1 := by omega
  rcases hc with rfl | rfl
  all_goals
   simp only [startn, slotn, lev] at ht hs hex hlow ⊢
   omega
 ·rw [home_l2 h0 h1 hj] at hh
  rw [home_l2 hto h1 hj]
  have hc : k = 0 \/ k = 1 \/ k = 2 := by omega
  rcases hc with rfl | rfl | rfl
  all_goals
   simp only [startn, slotn, lev] at ht hs hex hlow ⊢
   omega
 ·rw [home_l3 h0 h1 hj] at hh
  rw [home_l3 hto h1 hj]
  have hc : k = 0 \/ k = 1 \/ k = 2 \/ k = 3 := by omega
  rcases hc with rfl | rfl | rfl | rfl
  all_goals
   simp only [startn, slotn, lev] at ht hs hex hlow ⊢
   omega
 ·rw [home_far h0 h1] at hh
  rw [home_far hto h1]
  have hc : k = 0 \/ k = 1 \/ k = 2 \/ k = 3 := by omega
  rcases hc with rfl | rfl | rfl | rfl
  all_goals
   simp only [startn, slotn, lev] at ht hs hex hlow ⊢
   omega
 ·rw [home_due h0 h1] at hh
  rw [home_due hto h1]
  exact ⟨by omega, .inl rfl⟩
theorem noteU_tb {U : Nat -> Nat} {l k j : Nat} {em : Bool} (hu : ∀ k, U k < 18446744073709551616) (hk : k < 4) (hj : j < 64) : (noteU U l em k).testBit j = if l = k * 64 + j then !em else (U k).testBit j := by
 unfold noteU
 by_cases h256 : 256 <= l
 ·rw [if_pos h256, if_neg (by omega)]
 ·rw [if_neg h256]
  unfold updU
  by_cases hkl : k = l / 64
  ·subst hkl
   rw [if_pos rfl]
   have hm : l % 64 < 64 := Nat.mod_lt _ (by omega)
   cases em with
   | true =>
    rw [if_pos rfl, clr_tb (hu _) hm]
    by_cases hjl : j = l % 64
    ·subst hjl
     rw [if_pos (by omega)]
     simp
    ·rw [if_neg (by omega)]
     simp [hjl]
   | false =>
    rw [if_neg (by simp), or_tb]
    by_cases hjl : j = l % 64
    ·subst hjl
     rw [if_pos (by omega)]
     simp
    ·rw [if_neg (by omega)]
     simp [hjl]
  ·rw [if_neg hkl, if_neg (by omega)]
def atT (T : List Int) (i : Nat) : Int := T.getD (i * 3 + 1) 0
structure WI (s : Wl) (L : Nat -> List Nat) : Prop where
 now0 : 0 <= s.now /\ s.now <= 4503599627370496
 u64 : ∀ k, s.U k < 18446744073709551616
 at0 : ∀ l, l < 258 -> ∀ i ∈ L l, 0 <= atT s.T i /\ atT s.T i <= 4503599627370496
 hm : ∀ l, l < 258 -> ∀ i ∈ L l, home s.now (atT s.T i) = l
 full : ∀ k, k < 4 -> ∀ j, j < 64 -> (s.U k).testBit j = !(L (k * 64 + j)).isEmpty
structure WX (now : Int) (T : List Int) (l : Nat) (x : (Nat -> List Nat) × (Nat -> Nat)) : Prop where
 u64 : ∀ k, x.2 k < 18446744073709551616
 at0 : ∀ l, l < 258 -> ∀ i ∈ x.1 l, 0 <= atT T i /\ atT T i <= 4503599627370496
 hm : ∀ l', l' < 258 -> l' ≠ l -> ∀ i ∈ x.1 l', home now (atT T i) = l'
 full : ∀ k, k < 4 -> ∀ j, j < 64 -> k * 64 + j ≠ l -> (x.2 k).testBit j = !(x.1 (k * 64 + j)).isEmpty
def inL (L : Nat -> List Nat) (i : Nat) : Prop := ∃ l, l < 258 /\ i ∈ L l
theorem upd_mem {L : Nat -> List Nat} {l k i : Nat} {A : List Nat} : i ∈ upd L l A k ↔ if k = l then i ∈ A else i ∈ L k := by
 unfold upd
 split <;> simp_all
theorem WX.spr1 {now : Int} {T : List Int} {l i : Nat} {x : (Nat -> List Nat) × (Nat -> Nat)} (h : WX now T l x) (hl : l < 258) (hi : i ∈ x.1 l) : WX now T l (spr1 now T l x i) /\ ∀ z, inL (Vg.spr1 now T l x i).1 z ↔ inL x.1 z := by
 unfold Vg.spr1
 by_cases hh : home now (T.getD (i * 3 + 1) 0) = l
 ·rw [if_pos hh]; exact ⟨h, fun z => Iff.rfl⟩
 rw [if_neg hh]
 obtain ⟨q, hq⟩ : ∃ q, home now (T.getD (i * 3 + 1) 0) = q := ⟨_, rfl⟩
 have hq2 : q < 258 := by rw [<- hq]; exact home_lt _ _
 rw [hq] at hh ⊢
 have hmem : ∀ z k, z ∈ (upd (upd x.1 l ((x.1 l).erase i)) q ((upd x.1 l ((x.1 l).erase i)) q ++ [i])) k ↔ (k = q /\ z = i) \/ (k ≠ l /\ z ∈ x.1 k) \/ (k = l /\ z ∈ (x.1 l).erase i) := fun z k => by
  rw [upd_mem]
  by_cases hk : k = q
  ·subst hk
   rw [if_pos rfl, List.mem_append, upd_mem, if_neg hh, List.mem_singleton]
   constructor
   ·rintro (a | a)
    ·exact .inr (.inl ⟨hh, a⟩)
    ·exact .inl ⟨rfl, a⟩
   ·rintro (⟨_, a⟩ | ⟨_, a⟩ | ⟨a, _⟩)
    ·exact .inr a
    ·exact .inl a
    ·exact absurd a hh
  ·rw [if_neg hk, upd_mem]
   by_cases hkl : k = l
   ·subst hkl
    rw [if_pos rfl]
    constructor
    ·intro a; exact .inr (.inr ⟨rfl, a⟩)
    ·rintro (⟨a, _⟩ | ⟨a, _⟩ | ⟨_, a⟩)
     ·exact absurd a hk
     ·exact absurd rfl a
     ·exact a
   ·rw [if_neg hkl]
    constructor
    ·intro a; exact .inr (.inl ⟨hkl, a⟩)
    ·rintro (⟨a, _⟩ | ⟨_, a⟩ | ⟨a, _⟩)
     ·exact absurd a hk
     ·exact a
     ·exact absurd a hkl
 refine ⟨⟨noteU_lt _ _ h.u64, fun k hk z hz => ?_, fun k hk hkl z hz => ?_, fun k hk j hj hkl => ?_⟩, fun z => ?_⟩
 ·rcases (hmem z k).1 hz with ⟨_, rfl⟩ | ⟨_, a⟩ | ⟨rfl, a⟩
  ·exact h.at0 l hl _ hi
  ·exact h.at0 k hk z a
  ·exact h.at0 _ hl z (List.mem_of_mem_erase a)
 ·rcases (hmem z k).1 hz with ⟨rfl, rfl⟩ | ⟨_, a⟩ | ⟨rfl, a⟩
  ·exact hq
  ·exact h.hm k hk hkl z a
  ·exact absurd rfl hkl
 ·show (noteU x.2 q false k).testBit j = _
  rw [noteU_tb h.u64 hk hj]
  by_cases hqk : q = k * 64 + j
  ·rw [if_pos hqk, <- hqk]
   simp [upd]
  ·rw [if_neg hqk, h.full k hk j hj hkl]
   show _ = !(upd (upd x.1 l ((x.1 l).erase i)) q _ (k * 64 + j)).isEmpty
   unfold upd
   rw [if_neg (fun e => hqk e.symm), if_neg hkl]
 ·constructor
  ·rintro ⟨k, hk, hz⟩
   rcases (hmem z k).1 hz with ⟨_, rfl⟩ | ⟨_, a⟩ | ⟨rfl, a⟩
   ·exact ⟨l, hl, hi⟩
   ·exact ⟨k, hk, a⟩
   ·exact ⟨_, hk, List.mem_of_mem_erase a⟩
  ·rintro ⟨k, hk, hz⟩
   by_cases hzi : z = i
   ·subst hzi; exact ⟨q, hq2, (hmem z q).2 (.inl ⟨rfl, rfl⟩)⟩
   ·by_cases hkl : k = l
    ·subst hkl; exact ⟨k, hk, (hmem z k).2 (.inr (.inr ⟨rfl, (List.mem_erase_of_ne hzi).2 hz⟩))⟩
    ·exact ⟨k, hk, (hmem z k).2 (.inr (.inl ⟨hkl, hz⟩))⟩
theorem WX.spr {now : Int} {T : List Int} {l : Nat} (hl : l < 258) : ∀ (P K R : List Nat) (x : (Nat -> List Nat) × (Nat -> Nat)), WX now T l x -> x.1 l = K ++ P ++ R -> (K ++ P ++ R).Nodup -> WX now T l (spr now T l P x) /\ ∀ z, inL (Vg.spr now T l P x).1 z ↔ inL x.1 z
 | [], K, R, x, h, hx, hn => ⟨h, fun _ => Iff.rfl⟩
 | i :: P, K, R, x, h, hx, hn => by
  have hi : i ∈ x.1 l := by rw [hx]; simp
  obtain ⟨h1, h2⟩ := h.spr1 hl hi
  have hk := spr_keep now T l [i] x K (P ++ R) (by rw [hx]; simp) (by simpa using hn)
  have hk2 : (Vg.spr1 now T l x i).1 l = K ++ [i].filter (fun i => decide (home now (T.getD (i * 3 + 1) 0) = l)) ++ (P ++ R) := hk
  have hsub : (K ++ [i].filter (fun i => decide (home now (T.getD (i * 3 + 1) 0) = l)) ++ (P ++ R)).Nodup := by
   have hs : (K ++ [i].filter (fun i => decide (home now (T.getD (i * 3 + 1) 0) = l)) ++ (P ++ R)).Sublist (K ++ [i] ++ (P ++ R)) := List.Sublist.append_right (List.Sublist.append_left List.filter_sublist K) _
   exact List.Nodup.sublist hs (by simpa using hn)
  obtain ⟨h3, h4⟩ := WX.spr hl P (K ++ [i].filter (fun i => decide (home now (T.getD (i * 3 + 1) 0) = l))) R (Vg.spr1 now T l x i) h1 (by rw [hk2]; simp only [List.append_assoc]) (by rw [List.append_assoc]; exact hsub)
  exact ⟨h3, fun z => (h4 z).trans (h2 z)⟩
theorem WI.spread {s : Wl} {L : Nat -> List Nat} {l : Nat} {now : Int} (hl : l < 258) (hn : 0 <= now /\ now <= 4503599627370496) (h : WX now s.T l (L, s.U)) (hnd : (L l).Nodup) {x : (Nat -> List Nat) × (Nat -> Nat)} (hx : Vg.spr now s.T l (L l) (L, s.U) = x) :
  WI { s with now := now, U := noteU x.2 l (x.1 l).isEmpty } x.1 /\ ∀ z, inL x.1 z ↔ inL L z := by
 obtain ⟨h1, h2⟩ := WX.spr hl (L l) [] [] (L, s.U) h (by simp) (by simpa using hnd)
 have hk := spr_keep now s.T l (L l) (L, s.U) [] [] (by simp) (by simpa using hnd)
 rw [hx] at h1 h2 hk
 refine ⟨⟨hn, noteU_lt _ _ h1.u64, h1.at0, fun k hk2 i hi => ?_, fun k hk2 j hj => ?_⟩, h2⟩
 ·by_cases hkl : k = l
  ·subst hkl
   rw [hk] at hi
   simp at hi
   exact hi.2
  ·exact h1.hm k hk2 hkl i hi
 ·show (noteU x.2 l _ k).testBit j = _
  rw [noteU_tb h1.u64 hk2 hj]
  by_cases hqk : l = k * 64 + j
  ·rw [if_pos hqk, <- hqk]
  ·rw [if_neg hqk, h1.full k hk2 j hj (fun e => hqk e.symm)]
end Vg
