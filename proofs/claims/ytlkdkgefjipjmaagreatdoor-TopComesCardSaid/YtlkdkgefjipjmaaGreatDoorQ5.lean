/- WheelA, WheelB (put together). -/
import Derived.Test.YtlkdkgefjipjmaaGreatDoorQ4
import Derived.Test.YtlkdkgefjipjmaaGreatDoorQ0
set_option linter.unusedSimpArgs false
set_option linter.unusedVariables false
set_option maxHeartbeats 40000000
set_option maxRecDepth 100000
namespace Vg
open Go
def home (now at_ : Int) : Nat :=
 if at_ <= now then 257 else
 if at_ / 64 = now / 64 then (slotn at_ 0).toNat else
 if at_ / 4096 = now / 4096 then 64 + (slotn at_ 1).toNat else
 if at_ / 262144 = now / 262144 then 128 + (slotn at_ 2).toNat else
 if at_ / 16777216 = now / 16777216 then 192 + (slotn at_ 3).toNat else 256
structure Wl where
 now : Int
 turns : Int
 T : List Int
 ids : Int -> Option Int
 U : Nat -> Nat
def updU (U : Nat -> Nat) (k v : Nat) : Nat -> Nat := fun j => if j = k then v else U j
end Vg
namespace Go.Proofs.YtlkdkgefjipjmaaGreatDoor
open Go.ChangeShapes Go.WideShapes Go.ChangeAt Go.RowKit
abbrev wheelC (pb gt gm n : Nat) (now turns : Int) (U : Nat -> Nat) : Obj := .cells #[.int .i64 now, .int .i64 turns, .pointer (some ⟨pb, 0, none⟩), .slice (some ⟨gt, 0, none⟩) n n, .map (some gm), .int .u64 (U 0), .int .u64 (U 1), .int .u64 (U 2), .int .u64 (U 3)] 270
structure WO (w : World) (b pb p1 p2 gt gm n : Nat) (s : Vg.Wl) (L : Nat -> List Nat) (F : List Nat) : Prop where
 tab : Vg.blk w b = some (wheelC pb gt gm n s.now s.turns s.U)
 tim : Vg.blk w gt = some (Vg.rowP s.T 304)
 ids : ∃ mn : Nat, (mn : Int) <= s.turns /\ Vg.IMap w Tryz.prog 3 3 gm mn s.ids
 pl : PL w pb p1 p2 n 258 L F
 n1 : b ≠ gt
 n2 : b ≠ gm
 n3 : gt ≠ gm
 np : ∀ k, pown pb p1 p2 k -> k ≠ b /\ k ≠ gt /\ k ≠ gm
 tl : s.T.length = n * 3
def wown (b pb p1 p2 gt gm k : Nat) : Prop := k = b \/ k = gt \/ k = gm \/ pown pb p1 p2 k
def WOn (w w' : World) (b pb p1 p2 gt gm n : Nat) (s : Vg.Wl) (L : Nat -> List Nat) (F : List Nat) : Prop := WO w' b pb p1 p2 gt gm n s L F /\ Vg.Touch (wown b pb p1 p2 gt gm) w w'
section
variable {w w0 w' : World} {b pb p1 p2 gt gm n l i : Nat} {s : Vg.Wl} {L L' : Nat -> List Nat} {F F' : List Nat}
theorem WO.grows (h : WO w b pb p1 p2 gt gm n s L F) (hg : Vg.Grows w w') : WO w' b pb p1 p2 gt gm n s L F := by
 obtain ⟨mn, h1, h2⟩ := h.ids
 exact ⟨hg.blk h.tab, hg.blk h.tim, ⟨mn, h1, h2.grows hg⟩, h.pl.grows hg, h.n1, h.n2, h.n3, h.np, h.tl⟩
theorem WO.touch {t : Nat -> Prop} (h : WO w b pb p1 p2 gt gm n s L F) (ht : Vg.Touch t w w') (hv : ∀ k, wown b pb p1 p2 gt gm k -> ¬ t k) : WO w' b pb p1 p2 gt gm n s L F := by
 obtain ⟨mn, h1, h2⟩ := h.ids
 exact ⟨(ht.block b (Vg.lt_of h.tab) (hv b (.inl rfl))).trans h.tab, (ht.block gt (Vg.lt_of h.tim) (hv gt (.inr (.inl rfl)))).trans h.tim, ⟨mn, h1, h2.keep (ht.block gm h2.lt (hv gm (.inr (.inr (.inl rfl)))))⟩, h.pl.touch ht fun k hk => hv k (.inr (.inr (.inr hk))), h.n1, h.n2, h.n3, h.np, h.tl⟩
theorem WO.lt (h : WO w b pb p1 p2 gt gm n s L F) : ∀ k, wown b pb p1 p2 gt gm k -> k < w.heap.size := by
 obtain ⟨mn, h1, h2⟩ := h.ids
 rintro k (rfl | rfl | rfl | hk)
 ·exact Vg.lt_of h.tab
 ·exact Vg.lt_of h.tim
 ·exact h2.lt
 ·exact h.pl.lt k hk
theorem WOn.refl (h : WO w b pb p1 p2 gt gm n s L F) : WOn w w b pb p1 p2 gt gm n s L F := ⟨h, Vg.Touch.refl _ _⟩
theorem WOn.grows (h : WOn w0 w b pb p1 p2 gt gm n s L F) (hg : Vg.Grows w w') : WOn w0 w' b pb p1 p2 gt gm n s L F := ⟨h.1.grows hg, h.2.trans (Vg.Touch.of_grows hg)⟩
theorem WOn.trans {w2 : World} {s' : Vg.Wl} (h : WOn w0 w b pb p1 p2 gt gm n s L F) (h2 : WOn w w2 b pb p1 p2 gt gm n s' L' F') : WOn w0 w2 b pb p1 p2 gt gm n s' L' F' := ⟨h2.1, h.2.trans h2.2⟩
theorem WOn.setTab (h : WOn w0 w b pb p1 p2 gt gm n s L F) (now turns : Int) (U : Nat -> Nat) (ht : s.turns <= turns) : WOn w0 (Vg.put w b (wheelC pb gt gm n now turns U)) b pb p1 p2 gt gm n { s with now := now, turns := turns, U := U } L F := by
 obtain ⟨h, hh⟩ := h
 obtain ⟨mn, h1, h2⟩ := h.ids
 have hb := Vg.lt_of h.tab
 have htc : Vg.Touch (fun k => k = b) w (Vg.put w b (wheelC pb gt gm n now turns U)) := (Vg.Touch.refl (fun k => k = b) w).put rfl _
 refine ⟨⟨Vg.blk_put_same hb, (Vg.blk_put_other h.n1).trans h.tim, ⟨mn, Int.le_trans h1 ht, h2.keep (Vg.put_heap_other h.n2)⟩, h.pl.touch htc fun k hk => (h.np k hk).1, h.n1, h.n2, h.n3, h.np, h.tl⟩, hh.put (.inl rfl) _⟩
theorem WOn.pool (h : WOn w0 w b pb p1 p2 gt gm n s L F) (hp : PLn w w' pb p1 p2 n 258 L' F') : WOn w0 w' b pb p1 p2 gt gm n s L' F' := by
 obtain ⟨h, hh⟩ := h
 obtain ⟨hp, ht⟩ := hp
 obtain ⟨mn, h1, h2⟩ := h.ids
 have hv : ∀ k, k = b \/ k = gt \/ k = gm -> ¬ pown pb p1 p2 k := fun k hk hp => by
  obtain ⟨q1, q2, q3⟩ := h.np k hp
  rcases hk with e | e | e
  ·exact q1 e
  ·exact q2 e
  ·exact q3 e
 exact ⟨⟨(ht.block b (Vg.lt_of h.tab) (hv b (.inl rfl))).trans h.tab, (ht.block gt (Vg.lt_of h.tim) (hv gt (.inr (.inl rfl)))).trans h.tim, ⟨mn, h1, h2.keep (ht.block gm h2.lt (hv gm (.inr (.inr rfl))))⟩, hp, h.n1, h.n2, h.n3, h.np, h.tl⟩, hh.trans (ht.mono fun k _ hk => .inr (.inr (.inr hk)))⟩
theorem WOn.setT (h : WOn w0 w b pb p1 p2 gt gm n s L F) (j : Nat) (x : Int) : WOn w0 (w.setCell ⟨gt, j, none⟩ (.int .i64 x)) b pb p1 p2 gt gm n { s with T := s.T.set j x } L F := by
 obtain ⟨h, hh⟩ := h
 obtain ⟨mn, h1, h2⟩ := h.ids
 have htc : Vg.Touch (fun k => k = gt) w (Vg.put w gt (Vg.rowP (s.T.set j x) 304)) := (Vg.Touch.refl (fun k => k = gt) w).put rfl _
 rw [Vg.rowP_set x h.tim]
 exact ⟨⟨(Vg.blk_put_other h.n1.symm).trans h.tab, Vg.blk_put_same (Vg.lt_of h.tim), ⟨mn, h1, h2.keep (Vg.put_heap_other h.n3)⟩, h.pl.touch htc fun k hk => (h.np k hk).2.1, h.n1, h.n2, h.n3, h.np, by show (s.T.set j x).length = _; rw [List.length_set]; exact h.tl⟩, hh.put (.inr (.inl rfl)) _⟩
theorem WOn.setM {ob : Obj} {mn : Nat} {f : Int -> Option Int} (h : WOn w0 w b pb p1 p2 gt gm n s L F) (hm : Vg.IMap (Vg.put w gm ob) Tryz.prog 3 3 gm mn f) (hmn : (mn : Int) <= s.turns) : WOn w0 (Vg.put w gm ob) b pb p1 p2 gt gm n { s with ids := f } L F := by
 obtain ⟨h, hh⟩ := h
 have htc : Vg.Touch (fun k => k = gm) w (Vg.put w gm ob) := (Vg.Touch.refl (fun k => k = gm) w).put rfl _
 exact ⟨⟨(Vg.blk_put_other h.n2.symm).trans h.tab, (Vg.blk_put_other h.n3.symm).trans h.tim, ⟨mn, hmn, hm⟩, h.pl.touch htc fun k hk => (h.np k hk).2.2, h.n1, h.n2, h.n3, h.np, h.tl⟩, hh.put (.inr (.inr (.inl rfl))) _⟩
theorem wh_home (at_ : Int) (h : WO w b pb p1 p2 gt gm n s L F) (h0 : 0 <= s.now /\ s.now <= 4503599627370496) (h1 : 0 <= at_ /\ at_ <= 4503599627370496) {r : Nat} (hr : Vg.home s.now at_ = r) :
  Calls Tryz.prog 150 #[.pointer (some ⟨b, 0, none⟩), .int .i64 at_] w fun e w' => e = .returned (.int .i64 r) /\ Vg.Grows w w' := by
 have x1 := h.tab
 obtain ⟨now, hnow⟩ : ∃ now, s.now = now := ⟨_, rfl⟩
 rw [hnow] at x1 h0 hr
 obtain ⟨h00, h01⟩ := h0
 obtain ⟨h10, h11⟩ := h1
 unfold Vg.home at hr
 by_cases hle : at_ <= now
 ·rw [if_pos hle] at hr
  subst hr
  obtain ⟨c_x1, f_x1, p_x1, l_x1, H_x1⟩ := Vg.lay x1; clear x1
  have H_h := h_ h; clear h
  go_enter Tryz.func150, Tryz.ntmps150
  go_wp2
  go_ret
  exact ⟨rfl, Vg.gro⟩
 ·rw [if_neg hle] at hr
  have a1 : at_.fdiv 64 = at_ / 64 := Int.fdiv_eq_ediv_of_nonneg _ (by omega)
  have a2 : at_.fdiv 4096 = at_ / 4096 := Int.fdiv_eq_ediv_of_nonneg _ (by omega)
  have a3 : at_.fdiv 262144 = at_ / 262144 := Int.fdiv_eq_ediv_of_nonneg _ (by omega)
  have a4 : at_.fdiv 16777216 = at_ / 16777216 := Int.fdiv_eq_ediv_of_nonneg _ (by omega)
  have b1 : now.fdiv 64 = now / 64 := Int.fdiv_eq_ediv_of_nonneg _ (by omega)
  have b2 : now.fdiv 4096 = now / 4096 := Int.fdiv_eq_ediv_of_nonneg _ (by omega)
  have b3 : now.fdiv 262144 = now / 262144 := Int.fdiv_eq_ediv_of_nonneg _ (by omega)
  have b4 : now.fdiv 16777216 = now / 16777216 := Int.fdiv_eq_ediv_of_nonneg _ (by omega)
  have hsl : ∀ k, 0 <= Vg.slotn at_ k /\ Vg.slotn at_ k < 64 := fun k => by unfold Vg.slotn; omega
  obtain ⟨c_x1, f_x1, p_x1, l_x1, H_x1⟩ := Vg.lay x1; clear x1
  have H_h := h_ h; have H_hr := h_ hr; have H_hsl := h_ hsl; clear h hr hsl
  go_enter Tryz.func150, Tryz.ntmps150
  go_wp2
  go_loopw [12] (fun i wr => ∃ k : Nat, k <= 4 /\ i = .int .i64 k /\ Vg.Grows w wr /\ ∀ j, j < k -> at_ / Vg.lev (j + 1) ≠ now / Vg.lev (j + 1)) (fun i _ => 4 - (intOf i).toNat)
  case atStart => exact ⟨0, by omega, rfl, Vg.Grows.refl _, fun j hj => by omega⟩
  case round =>
   obtain ⟨k, hk, rfl, hgr, hpre⟩ := hrel
   clear c_x1 f_x1 p_x1 l_x1
   have x2 := hgr.blk H_x1.out
   obtain ⟨c_x2, f_x2, p_x2, l_x2, H_x2⟩ := Vg.lay x2; clear x2
   have hc : k = 0 \/ k = 1 \/ k = 2 \/ k = 3 \/ k = 4 := by omega
   rcases hc with rfl | rfl | rfl | rfl | rfl
   ·by_cases hq : at_ / 64 = now / 64
    ·have hs := H_hsl.out 0
     have hslk : ∀ wz, Calls Tryz.prog 178 #[.int .i64 at_, .int .i64 0] wz fun e w' => e = .returned (.int .i64 (Vg.slotn at_ 0)) /\ wz = w' := fun wz => wh_slot at_ 0 wz (by omega) h10 h11
     have hrr : ((0 * 64 : Int) + Vg.slotn at_ 0) = r := by
      have h9 := H_hr.out
      rw [if_pos hq] at h9
      omega
     have hw9 : IntKind.i64.wrap (0 * 64 + Vg.slotn at_ 0) = 0 * 64 + Vg.slotn at_ 0 := by rw [IntKind.wrap_i64]; omega
     have hqb : (at_ / 64 == now / 64) = true := by simpa using hq
     have H_hpre := h_ hpre; have H_hgr := h_ hgr; have H_hs := h_ hs; have H_hslk := h_ hslk; clear hpre hgr hs hslk
     go_upto_region 6 with fail
     go_quiet (fail)
     go_wp2_with ((go_at_call 178; (with_reducible refine (H_hslk.out _).mono ?_); rintro e w3 ⟨rfl, rfl⟩))
     go_ret
     refine ⟨ret_int ?_, by have h9 := H_hgr.out; exact Vg.gro⟩
     rw [<- hrr]
     have hs9 := H_hs.out
     simp
     unfold wrap64
     omega
    ·have hqb : (at_ / 64 == now / 64) = false := by simpa using hq
     have hpre2 : ∀ j, j < 0 + 1 -> at_ / Vg.lev (j + 1) ≠ now / Vg.lev (j + 1) := fun j hj => by
      by_cases hj2 : j = 0
      ·subst hj2; exact hq
      ·exact hpre j (by omega)
     have H_hpre2 := h_ hpre2; clear hpre2
     go_upto_region 6 with fail
     go_quiet (fail)
     go_wp2_with fail
     exact ⟨⟨0 + 1, by omega, by go_num, Vg.gro, H_hpre2.out⟩, by simp [intOf]⟩
   ·have q0 : ¬ at_ / 64 = now / 64 := hpre 0 (by omega)
    by_cases hq : at_ / 4096 = now / 4096
    ·have hs := H_hsl.out 1
     have hslk : ∀ wz, Calls Tryz.prog 178 #[.int .i64 at_, .int .i64 1] wz fun e w' => e = .returned (.int .i64 (Vg.slotn at_ 1)) /\ wz = w' := fun wz => wh_slot at_ 1 wz (by omega) h10 h11
     have hrr : ((1 * 64 : Int) + Vg.slotn at_ 1) = r := by
      have h9 := H_hr.out
      rw [if_neg q0, if_pos hq] at h9
      omega
     have hw9 : IntKind.i64.wrap (1 * 64 + Vg.slotn at_ 1) = 1 * 64 + Vg.slotn at_ 1 := by rw [IntKind.wrap_i64]; omega
     have hqb : (at_ / 4096 == now / 4096) = true := by simpa using hq
     have H_hpre := h_ hpre; have H_hgr := h_ hgr; have H_hs := h_ hs; have H_hslk := h_ hslk; clear hpre hgr hs hslk
     go_upto_region 6 with fail
     go_quiet (fail)
     go_wp2_with ((go_at_call 178; (with_reducible refine (H_hslk.out _).mono ?_); rintro e w3 ⟨rfl, rfl⟩))
     go_ret
     refine ⟨ret_int ?_, by have h9 := H_hgr.out; exact Vg.gro⟩
     rw [<- hrr]
     have hs9 := H_hs.out
     simp
     unfold wrap64
     omega
    ·have hqb : (at_ / 4096 == now / 4096) = false := by simpa using hq
     have hpre2 : ∀ j, j < 1 + 1 -> at_ / Vg.lev (j + 1) ≠ now / Vg.lev (j + 1) := fun j hj => by
      by_cases hj2 : j = 1
      ·subst hj2; exact hq
      ·exact hpre j (by omega)
     have H_hpre2 := h_ hpre2; clear hpre2
     go_upto_region 6 with fail
     go_quiet (fail)
     go_wp2_with fail
     exact ⟨⟨1 + 1, by omega, by go_num, Vg.gro, H_hpre2.out⟩, by simp [intOf]⟩
   ·have q0 : ¬ at_ / 64 = now / 64 := hpre 0 (by omega)
    have q1 : ¬ at_ / 4096 = now / 4096 := hpre 1 (by omega)
    by_cases hq : at_ / 262144 = now / 262144
    ·have hs := H_hsl.out 2
     have hslk : ∀ wz, Calls Tryz.prog 178 #[.int .i64 at_, .int .i64 2] wz fun e w' => e = .returned (.int .i64 (Vg.slotn at_ 2)) /\ wz = w' := fun wz => wh_slot at_ 2 wz (by omega) h10 h11
     have hrr : ((2 * 64 : Int) + Vg.slotn at_ 2) = r := by
      have h9 := H_hr.out
      rw [if_neg q0, if_neg q1, if_pos hq] at h9
      omega
     have hw9 : IntKind.i64.wrap (2 * 64 + Vg.slotn at_ 2) = 2 * 64 + Vg.slotn at_ 2 := by rw [IntKind.wrap_i64]; omega
     have hqb : (at_ / 262144 == now / 262144) = true := by simpa using hq
     have H_hpre := h_ hpre; have H_hgr := h_ hgr; have H_hs := h_ hs; have H_hslk := h_ hslk; clear hpre hgr hs hslk
     go_upto_region 6 with fail
     go_quiet (fail)
     go_wp2_with ((go_at_call 178; (with_reducible refine (H_hslk.out _).mono ?_); rintro e w3 ⟨rfl, rfl⟩))
     go_ret
     refine ⟨ret_int ?_, by have h9 := H_hgr.out; exact Vg.gro⟩
     rw [<- hrr]
     have hs9 := H_hs.out
     simp
     unfold wrap64
     omega
    ·have hqb : (at_ / 262144 == now / 262144) = false := by simpa using hq
     have hpre2 : ∀ j, j < 2 + 1 -> at_ / Vg.lev (j + 1) ≠ now / Vg.lev (j + 1) := fun j hj => by
      by_cases hj2 : j = 2
      ·subst hj2; exact hq
      ·exact hpre j (by omega)
     have H_hpre2 := h_ hpre2; clear hpre2
     go_upto_region 6 with fail
     go_quiet (fail)
     go_wp2_with fail
     exact ⟨⟨2 + 1, by omega, by go_num, Vg.gro, H_hpre2.out⟩, by simp [intOf]⟩
   ·have q0 : ¬ at_ / 64 = now / 64 := hpre 0 (by omega)
    have q1 : ¬ at_ / 4096 = now / 4096 := hpre 1 (by omega)
    have q2 : ¬ at_ / 262144 = now / 262144 := hpre 2 (by omega)
    by_cases hq : at_ / 16777216 = now / 16777216
    ·have hs := H_hsl.out 3
     have hslk : ∀ wz, Calls Tryz.prog 178 #[.int .i64 at_, .int .i64 3] wz fun e w' => e = .returned (.int .i64 (Vg.slotn at_ 3)) /\ wz = w' := fun wz => wh_slot at_ 3 wz (by omega) h10 h11
     have hrr : ((3 * 64 : Int) + Vg.slotn at_ 3) = r := by
      have h9 := H_hr.out
      rw [if_neg q0, if_neg q1, if_neg q2, if_pos hq] at h9
      omega
     have hw9 : IntKind.i64.wrap (3 * 64 + Vg.slotn at_ 3) = 3 * 64 + Vg.slotn at_ 3 := by rw [IntKind.wrap_i64]; omega
     have hqb : (at_ / 16777216 == now / 16777216) = true := by simpa using hq
     have H_hpre := h_ hpre; have H_hgr := h_ hgr; have H_hs := h_ hs; have H_hslk := h_ hslk; clear hpre hgr hs hslk
     go_upto_region 6 with fail
     go_quiet (fail)
     go_wp2_with ((go_at_call 178; (with_reducible refine (H_hslk.out _).mono ?_); rintro e w3 ⟨rfl, rfl⟩))
     go_ret
     refine ⟨ret_int ?_, by have h9 := H_hgr.out; exact Vg.gro⟩
     rw [<- hrr]
     have hs9 := H_hs.out
     simp
     unfold wrap64
     omega
    ·have hqb : (at_ / 16777216 == now / 16777216) = false := by simpa using hq
     have hpre2 : ∀ j, j < 3 + 1 -> at_ / Vg.lev (j + 1) ≠ now / Vg.lev (j + 1) := fun j hj => by
      by_cases hj2 : j = 3
      ·subst hj2; exact hq
      ·exact hpre j (by omega)
     have H_hpre2 := h_ hpre2; clear hpre2
     go_upto_region 6 with fail
     go_quiet (fail)
     go_wp2_with fail
     exact ⟨⟨3 + 1, by omega, by go_num, Vg.gro, H_hpre2.out⟩, by simp [intOf]⟩
   ·have q0 : ¬ at_ / 64 = now / 64 := hpre 0 (by omega)
    have q1 : ¬ at_ / 4096 = now / 4096 := hpre 1 (by omega)
    have q2 : ¬ at_ / 262144 = now / 262144 := hpre 2 (by omega)
    have q3 : ¬ at_ / 16777216 = now / 16777216 := hpre 3 (by omega)
    have hrr : (256 : Int) = r := by
     have h9 := H_hr.out
     rw [if_neg q0, if_neg q1, if_neg q2, if_neg q3] at h9
     omega
    go_wp2_with fail
    go_ret
    exact ⟨ret_int (by rw [<- hrr]), Vg.gro⟩
end
end Go.Proofs.YtlkdkgefjipjmaaGreatDoor
namespace Vg
open Go
def noteU (U : Nat -> Nat) (l : Nat) (emp : Bool) : Nat -> Nat := if 256 <= l then U else updU U (l / 64) (if emp = true then clr (U (l / 64)) (l % 64) else U (l / 64) ||| 2 ^ (l % 64))
theorem shl_one' (k : Nat) (h : k < 64) : IntKind.u64.wrap ((2 : Int) ^ k) = ((2 ^ k : Nat) : Int) := by
 have h1 := Vg.pow_lt64 h
 have e : ((2 : Int) ^ k) = ((2 ^ k : Nat) : Int) := by push_cast; rfl
 rw [IntKind.wrap_u64, e]
 generalize 2 ^ k = y at h1
 omega
end Vg
namespace Go.Proofs.YtlkdkgefjipjmaaGreatDoor
open Go.ChangeShapes Go.WideShapes Go.ChangeAt Go.RowKit
section
variable {w w0 w' : World} {b pb p1 p2 gt gm n l i : Nat} {s : Vg.Wl} {L L' : Nat -> List Nat} {F F' : List Nat}
theorem wh_note_hi (l : Nat) (hl : 256 <= l) (hl2 : l <= 1000) (h : WO w b pb p1 p2 gt gm n s L F) : Calls Tryz.prog 152 #[.pointer (some ⟨b, 0, none⟩), .int .i64 l] w fun e w' => e = .returned (.tuple #[]) /\ w = w' := by
 have hlI : (256 : Int) <= l := by omega
 have H_h := h_ h; clear h
 go_enter Tryz.func152, Tryz.ntmps152
 go_wp2
 go_returns
 exact ⟨rfl, rfl⟩
theorem wh_note0 (r : Nat) (hr : r < 64) (h : WO w b pb p1 p2 gt gm n s L F) (hu : s.U 0 < 18446744073709551616) {v : Nat} (hv : (if (L (0 * 64 + r)).isEmpty = true then Vg.clr (s.U 0) r else s.U 0 ||| 2 ^ r) = v) :
  Calls Tryz.prog 152 #[.pointer (some ⟨b, 0, none⟩), .int .i64 ((0 * 64 + r : Nat) : Int)] w fun e w' => e = .returned (.tuple #[]) /\ WOn w w' b pb p1 p2 gt gm n { s with U := Vg.updU s.U 0 v } L F := by
 have x1 := h.tab
 obtain ⟨li, hli⟩ : ∃ li, 0 * 64 + r = li := ⟨_, rfl⟩
 rw [hli] at hv ⊢
 have hlI : (li : Int) < 256 := by omega
 have hlI0 : (0 : Int) <= li := by omega
 have hrem : (li : Int).tmod 64 = r := by rw [Int.tmod_eq_emod_of_nonneg hlI0]; omega
 have hquo : (li : Int).tdiv 64 = 0 := by rw [Int.tdiv_eq_ediv_of_nonneg hlI0]; omega
 have hrI0 : (0 : Int) <= r := by omega
 have hwk : IntKind.i64.wrap 0 = 0 := by decide
 have hrI1 : (r : Int) <= 64 := by omega
 have hrm : min r 64 = r := by omega
 have hwr : IntKind.i64.wrap (r : Int) = r := by rw [IntKind.wrap_i64]; omega
 have hwr2 : wrap64 (r : Int) = r := by unfold wrap64; omega
 obtain ⟨bt, hbt⟩ : ∃ bt, 2 ^ r = bt := ⟨_, rfl⟩
 have hbt64 : bt < 18446744073709551616 := by rw [<- hbt]; exact Vg.pow_lt64 hr
 have hshl : IntKind.u64.wrap ((2 : Int) ^ r) = (bt : Int) := by rw [Vg.shl_one' r hr, hbt]
 obtain ⟨uk, huk⟩ : ∃ uk, s.U 0 = uk := ⟨_, rfl⟩
 rw [huk] at hu hv
 rw [hbt] at hv
 have hor : bits .or .u64 (uk : Int) (bt : Int) = ((uk ||| bt : Nat) : Int) := u64_or_nat _ _ hu hbt64
 have han : bits .andNot .u64 (uk : Int) (bt : Int) = ((Vg.clr uk r : Nat) : Int) := by rw [u64_andNot_nat _ _ hu hbt64]; unfold Vg.clr; rw [hbt]
 obtain ⟨ff, hff⟩ : ∃ ff, (L li).headD 0 = ff := ⟨_, rfl⟩
 have hset := fun U => (WOn.refl h).setTab s.now s.turns U (Int.le_refl _)
 have hupd : ∀ j, j ≠ 0 -> Vg.updU s.U 0 v j = s.U j := fun j hj => if_neg hj
 have hupk : Vg.updU s.U 0 v 0 = v := if_pos rfl
 have hl258 : li < 258 := by omega
 cases hem : (L li).isEmpty with
 | true =>
  rw [hem, if_pos rfl] at hv
  have his : (!(L li).isEmpty) = false := by rw [hem]; rfl
  obtain ⟨c_x1, f_x1, p_x1, l_x1, H_x1⟩ := Vg.lay x1; clear x1
  have H_h := h_ h; have H_hff := h_ hff; have H_his := h_ his; have H_hbt := h_ hbt; have H_hv := h_ hv; have H_hset := h_ hset; have H_hupd := h_ hupd; have H_hupk := h_ hupk; clear h hff his hbt hv hset hupd hupk
  go_enter Tryz.func152, Tryz.ntmps152
  go_upto_region 5 with ((go_at_call 180; (with_reducible refine (pool_first li H_h.out.pl hl258 H_hff.out H_his.out).mono ?_); rintro e w1 ⟨rfl, rfl⟩))
  go_still_tail 12, (by kernel_rfl)
  change wpList _ _ _ _ _ w.drew
  go_wp2_with fail
  go_returns
  rw [H_hv.out]
  have h9 := (H_hset.out (Vg.updU s.U 0 v)).grows ((Vg.Grows.refl _).drew)
  have e : wheelC pb gt gm n s.now s.turns (Vg.updU s.U 0 v) = .cells #[.int .i64 s.now, .int .i64 s.turns, .pointer (some ⟨pb, 0, none⟩), .slice (some ⟨gt, 0, none⟩) n n, .map (some gm), .int .u64 (v : Nat), .int .u64 (s.U 1), .int .u64 (s.U 2), .int .u64 (s.U 3)] 270 := by
   have h1 := H_hupk.out
   have h2 := H_hupd.out
   simp only [wheelC]
   rw [h1, h2 1 (by omega), h2 2 (by omega), h2 3 (by omega)]
  rw [e] at h9
  exact ⟨rfl, h9⟩
 | false =>
  rw [hem, if_neg (by simp)] at hv
  have his : (!(L li).isEmpty) = true := by rw [hem]; rfl
  obtain ⟨c_x1, f_x1, p_x1, l_x1, H_x1⟩ := Vg.lay x1; clear x1
  have H_h := h_ h; have H_hff := h_ hff; have H_his := h_ his; have H_hbt := h_ hbt; have H_hv := h_ hv; have H_hset := h_ hset; have H_hupd := h_ hupd; have H_hupk := h_ hupk; clear h hff his hbt hv hset hupd hupk
  go_enter Tryz.func152, Tryz.ntmps152
  go_upto_region 4 with ((go_at_call 180; (with_reducible refine (pool_first li H_h.out.pl hl258 H_hff.out H_his.out).mono ?_); rintro e w1 ⟨rfl, rfl⟩))
  go_still_tail 12, (by kernel_rfl)
  change wpList _ _ _ _ _ w.drew
  go_wp2_with fail
  go_returns
  rw [H_hv.out]
  have h9 := (H_hset.out (Vg.updU s.U 0 v)).grows ((Vg.Grows.refl _).drew)
  have e : wheelC pb gt gm n s.now s.turns (Vg.updU s.U 0 v) = .cells #[.int .i64 s.now, .int .i64 s.turns, .pointer (some ⟨pb, 0, none⟩), .slice (some ⟨gt, 0, none⟩) n n, .map (some gm), .int .u64 (v : Nat), .int .u64 (s.U 1), .int .u64 (s.U 2), .int .u64 (s.U 3)] 270 := by
   have h1 := H_hupk.out
   have h2 := H_hupd.out
   simp only [wheelC]
   rw [h1, h2 1 (by omega), h2 2 (by omega), h2 3 (by omega)]
  rw [e] at h9
  exact ⟨rfl, h9⟩
theorem wh_note1 (r : Nat) (hr : r < 64) (h : WO w b pb p1 p2 gt gm n s L F) (hu : s.U 1 < 18446744073709551616) {v : Nat} (hv : (if (L (1 * 64 + r)).isEmpty = true then Vg.clr (s.U 1) r else s.U 1 ||| 2 ^ r) = v) :
  Calls Tryz.prog 152 #[.pointer (some ⟨b, 0, none⟩), .int .i64 ((1 * 64 + r : Nat) : Int)] w fun e w' => e = .returned (.tuple #[]) /\ WOn w w' b pb p1 p2 gt gm n { s with U := Vg.updU s.U 1 v } L F := by
 have x1 := h.tab
 obtain ⟨li, hli⟩ : ∃ li, 1 * 64 + r = li := ⟨_, rfl⟩
 rw [hli] at hv ⊢
 have hlI : (li : Int) < 256 := by omega
 have hlI0 : (0 : Int) <= li := by omega
 have hrem : (li : Int).tmod 64 = r := by rw [Int.tmod_eq_emod_of_nonneg hlI0]; omega
 have hquo : (li : Int).tdiv 64 = 1 := by rw [Int.tdiv_eq_ediv_of_nonneg hlI0]; omega
 have hrI0 : (0 : Int) <= r := by omega
 have hwk : IntKind.i64.wrap 1 = 1 := by decide
 have hrI1 : (r : Int) <= 64 := by omega
 have hrm : min r 64 = r := by omega
 have hwr : IntKind.i64.wrap (r : Int) = r := by rw [IntKind.wrap_i64]; omega
 have hwr2 : wrap64 (r : Int) = r := by unfold wrap64; omega
 obtain ⟨bt, hbt⟩ : ∃ bt, 2 ^ r = bt := ⟨_, rfl⟩
 have hbt64 : bt < 18446744073709551616 := by rw [<- hbt]; exact Vg.pow_lt64 hr
 have hshl : IntKind.u64.wrap ((2 : Int) ^ r) = (bt : Int) := by rw [Vg.shl_one' r hr, hbt]
 obtain ⟨uk, huk⟩ : ∃ uk, s.U 1 = uk := ⟨_, rfl⟩
 rw [huk] at hu hv
 rw [hbt] at hv
 have hor : bits .or .u64 (uk : Int) (bt : Int) = ((uk ||| bt : Nat) : Int) := u64_or_nat _ _ hu hbt64
 have han : bits .andNot .u64 (uk : Int) (bt : Int) = ((Vg.clr uk r : Nat) : Int) := by rw [u64_andNot_nat _ _ hu hbt64]; unfold Vg.clr; rw [hbt]
 obtain ⟨ff, hff⟩ : ∃ ff, (L li).headD 0 = ff := ⟨_, rfl⟩
 have hset := fun U => (WOn.refl h).setTab s.now s.turns U (Int.le_refl _)
 have hupd : ∀ j, j ≠ 1 -> Vg.updU s.U 1 v j = s.U j := fun j hj => if_neg hj
 have hupk : Vg.updU s.U 1 v 1 = v := if_pos rfl
 have hl258 : li < 258 := by omega
 cases hem : (L li).isEmpty with
 | true =>
  rw [hem, if_pos rfl] at hv
  have his : (!(L li).isEmpty) = false := by rw [hem]; rfl
  obtain ⟨c_x1, f_x1, p_x1, l_x1, H_x1⟩ := Vg.lay x1; clear x1
  have H_h := h_ h; have H_hff := h_ hff; have H_his := h_ his; have H_hbt := h_ hbt; have H_hv := h_ hv; have H_hset := h_ hset; have H_hupd := h_ hupd; have H_hupk := h_ hupk; clear h hff his hbt hv hset hupd hupk
  go_enter Tryz.func152, Tryz.ntmps152
  go_upto_region 5 with ((go_at_call 180; (with_reducible refine (pool_first li H_h.out.pl hl258 H_hff.out H_his.out).mono ?_); rintro e w1 ⟨rfl, rfl⟩))
  go_still_tail 12, (by kernel_rfl)
  change wpList _ _ _ _ _ w.drew
  go_wp2_with fail
  go_returns
  rw [H_hv.out]
  have h9 := (H_hset.out (Vg.updU s.U 1 v)).grows ((Vg.Grows.refl _).drew)
  have e : wheelC pb gt gm n s.now s.turns (Vg.updU s.U 1 v) = .cells #[.int .i64 s.now, .int .i64 s.turns, .pointer (some ⟨pb, 0, none⟩), .slice (some ⟨gt, 0, none⟩) n n, .map (some gm), .int .u64 (s.U 0), .int .u64 (v : Nat), .int .u64 (s.U 2), .int .u64 (s.U 3)] 270 := by
   have h1 := H_hupk.out
   have h2 := H_hupd.out
   simp only [wheelC]
   rw [h1, h2 0 (by omega), h2 2 (by omega), h2 3 (by omega)]
  rw [e] at h9
  exact ⟨rfl, h9⟩
 | false =>
  rw [hem, if_neg (by simp)] at hv
  have his : (!(L li).isEmpty) = true := by rw [hem]; rfl
  obtain ⟨c_x1, f_x1, p_x1, l_x1, H_x1⟩ := Vg.lay x1; clear x1
  have H_h := h_ h; have H_hff := h_ hff; have H_his := h_ his; have H_hbt := h_ hbt; have H_hv := h_ hv; have H_hset := h_ hset; have H_hupd := h_ hupd; have H_hupk := h_ hupk; clear h hff his hbt hv hset hupd hupk
  go_enter Tryz.func152, Tryz.ntmps152
  go_upto_region 4 with ((go_at_call 180; (with_reducible refine (pool_first li H_h.out.pl hl258 H_hff.out H_his.out).mono ?_); rintro e w1 ⟨rfl, rfl⟩))
  go_still_tail 12, (by kernel_rfl)
  change wpList _ _ _ _ _ w.drew
  go_wp2_with fail
  go_returns
  rw [H_hv.out]
  have h9 := (H_hset.out (Vg.updU s.U 1 v)).grows ((Vg.Grows.refl _).drew)
  have e : wheelC pb gt gm n s.now s.turns (Vg.updU s.U 1 v) = .cells #[.int .i64 s.now, .int .i64 s.turns, .pointer (some ⟨pb, 0, none⟩), .slice (some ⟨gt, 0, none⟩) n n, .map (some gm), .int .u64 (s.U 0), .int .u64 (v : Nat), .int .u64 (s.U 2), .int .u64 (s.U 3)] 270 := by
   have h1 := H_hupk.out
   have h2 := H_hupd.out
   simp only [wheelC]
   rw [h1, h2 0 (by omega), h2 2 (by omega), h2 3 (by omega)]
  rw [e] at h9
  exact ⟨rfl, h9⟩
theorem wh_note2 (r : Nat) (hr : r < 64) (h : WO w b pb p1 p2 gt gm n s L F) (hu : s.U 2 < 18446744073709551616) {v : Nat} (hv : (if (L (2 * 64 + r)).isEmpty = true then Vg.clr (s.U 2) r else s.U 2 ||| 2 ^ r) = v) :
  Calls Tryz.prog 152 #[.pointer (some ⟨b, 0, none⟩), .int .i64 ((2 * 64 + r : Nat) : Int)] w fun e w' => e = .returned (.tuple #[]) /\ WOn w w' b pb p1 p2 gt gm n { s with U := Vg.updU s.U 2 v } L F := by
 have x1 := h.tab
 obtain ⟨li, hli⟩ : ∃ li, 2 * 64 + r = li := ⟨_, rfl⟩
 rw [hli] at hv ⊢
 have hlI : (li : Int) < 256 := by omega
 have hlI0 : (0 : Int) <= li := by omega
 have hrem : (li : Int).tmod 64 = r := by rw [Int.tmod_eq_emod_of_nonneg hlI0]; omega
 have hquo : (li : Int).tdiv 64 = 2 := by rw [Int.tdiv_eq_ediv_of_nonneg hlI0]; omega
 have hrI0 : (0 : Int) <= r := by omega
 have hwk : IntKind.i64.wrap 2 = 2 := by decide
 have hrI1 : (r : Int) <= 64 := by omega
 have hrm : min r 64 = r := by omega
 have hwr : IntKind.i64.wrap (r : Int) = r := by rw [IntKind.wrap_i64]; omega
 have hwr2 : wrap64 (r : Int) = r := by unfold wrap64; omega
 obtain ⟨bt, hbt⟩ : ∃ bt, 2 ^ r = bt := ⟨_, rfl⟩
 have hbt64 : bt < 18446744073709551616 := by rw [<- hbt]; exact Vg.pow_lt64 hr
 have hshl : IntKind.u64.wrap ((2 : Int) ^ r) = (bt : Int) := by rw [Vg.shl_one' r hr, hbt]
 obtain ⟨uk, huk⟩ : ∃ uk, s.U 2 = uk := ⟨_, rfl⟩
 rw [huk] at hu hv
 rw [hbt] at hv
 have hor : bits .or .u64 (uk : Int) (bt : Int) = ((uk ||| bt : Nat) : Int) := u64_or_nat _ _ hu hbt64
 have han : bits .andNot .u64 (uk : Int) (bt : Int) = ((Vg.clr uk r : Nat) : Int) := by rw [u64_andNot_nat _ _ hu hbt64]; unfold Vg.clr; rw [hbt]
 obtain ⟨ff, hff⟩ : ∃ ff, (L li).headD 0 = ff := ⟨_, rfl⟩
 have hset := fun U => (WOn.refl h).setTab s.now s.turns U (Int.le_refl _)
 have hupd : ∀ j, j ≠ 2 -> Vg.updU s.U 2 v j = s.U j := fun j hj => if_neg hj
 have hupk : Vg.updU s.U 2 v 2 = v := if_pos rfl
 have hl258 : li < 258 := by omega
 cases hem : (L li).isEmpty with
 | true =>
  rw [hem, if_pos rfl] at hv
  have his : (!(L li).isEmpty) = false := by rw [hem]; rfl
  obtain ⟨c_x1, f_x1, p_x1, l_x1, H_x1⟩ := Vg.lay x1; clear x1
  have H_h := h_ h; have H_hff := h_ hff; have H_his := h_ his; have H_hbt := h_ hbt; have H_hv := h_ hv; have H_hset := h_ hset; have H_hupd := h_ hupd; have H_hupk := h_ hupk; clear h hff his hbt hv hset hupd hupk
  go_enter Tryz.func152, Tryz.ntmps152
  go_upto_region 5 with ((go_at_call 180; (with_reducible refine (pool_first li H_h.out.pl hl258 H_hff.out H_his.out).mono ?_); rintro e w1 ⟨rfl, rfl⟩))
  go_still_tail 12, (by kernel_rfl)
  change wpList _ _ _ _ _ w.drew
  go_wp2_with fail
  go_returns
  rw [H_hv.out]
  have h9 := (H_hset.out (Vg.updU s.U 2 v)).grows ((Vg.Grows.refl _).drew)
  have e : wheelC pb gt gm n s.now s.turns (Vg.updU s.U 2 v) = .cells #[.int .i64 s.now, .int .i64 s.turns, .pointer (some ⟨pb, 0, none⟩), .slice (some ⟨gt, 0, none⟩) n n, .map (some gm), .int .u64 (s.U 0), .int .u64 (s.U 1), .int .u64 (v : Nat), .int .u64 (s.U 3)] 270 := by
   have h1 := H_hupk.out
   have h2 := H_hupd.out
   simp only [wheelC]
   rw [h1, h2 0 (by omega), h2 1 (by omega), h2 3 (by omega)]
  rw [e] at h9
  exact ⟨rfl, h9⟩
 | false =>
  rw [hem, if_neg (by simp)] at hv
  have his : (!(L li).isEmpty) = true := by rw [hem]; rfl
  obtain ⟨c_x1, f_x1, p_x1, l_x1, H_x1⟩ := Vg.lay x1; clear x1
  have H_h := h_ h; have H_hff := h_ hff; have H_his := h_ his; have H_hbt := h_ hbt; have H_hv := h_ hv; have H_hset := h_ hset; have H_hupd := h_ hupd; have H_hupk := h_ hupk; clear h hff his hbt hv hset hupd hupk
  go_enter Tryz.func152, Tryz.ntmps152
  go_upto_region 4 with ((go_at_call 180; (with_reducible refine (pool_first li H_h.out.pl hl258 H_hff.out H_his.out).mono ?_); rintro e w1 ⟨rfl, rfl⟩))
  go_still_tail 12, (by kernel_rfl)
  change wpList _ _ _ _ _ w.drew
  go_wp2_with fail
  go_returns
  rw [H_hv.out]
  have h9 := (H_hset.out (Vg.updU s.U 2 v)).grows ((Vg.Grows.refl _).drew)
  have e : wheelC pb gt gm n s.now s.turns (Vg.updU s.U 2 v) = .cells #[.int .i64 s.now, .int .i64 s.turns, .pointer (some ⟨pb, 0, none⟩), .slice (some ⟨gt, 0, none⟩) n n, .map (some gm), .int .u64 (s.U 0), .int .u64 (s.U 1), .int .u64 (v : Nat), .int .u64 (s.U 3)] 270 := by
   have h1 := H_hupk.out
   have h2 := H_hupd.out
   simp only [wheelC]
   rw [h1, h2 0 (by omega), h2 1 (by omega), h2 3 (by omega)]
  rw [e] at h9
  exact ⟨rfl, h9⟩
theorem wh_note3 (r : Nat) (hr : r < 64) (h : WO w b pb p1 p2 gt gm n s L F) (hu : s.U 3 < 18446744073709551616) {v : Nat} (hv : (if (L (3 * 64 + r)).isEmpty = true then Vg.clr (s.U 3) r else s.U 3 ||| 2 ^ r) = v) :
  Calls Tryz.prog 152 #[.pointer (some ⟨b, 0, none⟩), .int .i64 ((3 * 64 + r : Nat) : Int)] w fun e w' => e = .returned (.tuple #[]) /\ WOn w w' b pb p1 p2 gt gm n { s with U := Vg.updU s.U 3 v } L F := by
 have x1 := h.tab
 obtain ⟨li, hli⟩ : ∃ li, 3 * 64 + r = li := ⟨_, rfl⟩
 rw [hli] at hv ⊢
 have hlI : (li : Int) < 256 := by omega
 have hlI0 : (0 : Int) <= li := by omega
 have hrem : (li : Int).tmod 64 = r := by rw [Int.tmod_eq_emod_of_nonneg hlI0]; omega
 have hquo : (li : Int).tdiv 64 = 3 := by rw [Int.tdiv_eq_ediv_of_nonneg hlI0]; omega
 have hrI0 : (0 : Int) <= r := by omega
 have hwk : IntKind.i64.wrap 3 = 3 := by decide
 have hrI1 : (r : Int) <= 64 := by omega
 have hrm : min r 64 = r := by omega
 have hwr : IntKind.i64.wrap (r : Int) = r := by rw [IntKind.wrap_i64]; omega
 have hwr2 : wrap64 (r : Int) = r := by unfold wrap64; omega
 obtain ⟨bt, hbt⟩ : ∃ bt, 2 ^ r = bt := ⟨_, rfl⟩
 have hbt64 : bt < 18446744073709551616 := by rw [<- hbt]; exact Vg.pow_lt64 hr
 have hshl : IntKind.u64.wrap ((2 : Int) ^ r) = (bt : Int) := by rw [Vg.shl_one' r hr, hbt]
 obtain ⟨uk, huk⟩ : ∃ uk, s.U 3 = uk := ⟨_, rfl⟩
 rw [huk] at hu hv
 rw [hbt] at hv
 have hor : bits .or .u64 (uk : Int) (bt : Int) = ((uk ||| bt : Nat) : Int) := u64_or_nat _ _ hu hbt64
 have han : bits .andNot .u64 (uk : Int) (bt : Int) = ((Vg.clr uk r : Nat) : Int) := by rw [u64_andNot_nat _ _ hu hbt64]; unfold Vg.clr; rw [hbt]
 obtain ⟨ff, hff⟩ : ∃ ff, (L li).headD 0 = ff := ⟨_, rfl⟩
 have hset := fun U => (WOn.refl h).setTab s.now s.turns U (Int.le_refl _)
 have hupd : ∀ j, j ≠ 3 -> Vg.updU s.U 3 v j = s.U j := fun j hj => if_neg hj
 have hupk : Vg.updU s.U 3 v 3 = v := if_pos rfl
 have hl258 : li < 258 := by omega
 cases hem : (L li).isEmpty with
 | true =>
  rw [hem, if_pos rfl] at hv
  have his : (!(L li).isEmpty) = false := by rw [hem]; rfl
  obtain ⟨c_x1, f_x1, p_x1, l_x1, H_x1⟩ := Vg.lay x1; clear x1
  have H_h := h_ h; have H_hff := h_ hff; have H_his := h_ his; have H_hbt := h_ hbt; have H_hv := h_ hv; have H_hset := h_ hset; have H_hupd := h_ hupd; have H_hupk := h_ hupk; clear h hff his hbt hv hset hupd hupk
  go_enter Tryz.func152, Tryz.ntmps152
  go_upto_region 5 with ((go_at_call 180; (with_reducible refine (pool_first li H_h.out.pl hl258 H_hff.out H_his.out).mono ?_); rintro e w1 ⟨rfl, rfl⟩))
  go_still_tail 12, (by kernel_rfl)
  change wpList _ _ _ _ _ w.drew
  go_wp2_with fail
  go_returns
  rw [H_hv.out]
  have h9 := (H_hset.out (Vg.updU s.U 3 v)).grows ((Vg.Grows.refl _).drew)
  have e : wheelC pb gt gm n s.now s.turns (Vg.updU s.U 3 v) = .cells #[.int .i64 s.now, .int .i64 s.turns, .pointer (some ⟨pb, 0, none⟩), .slice (some ⟨gt, 0, none⟩) n n, .map (some gm), .int .u64 (s.U 0), .int .u64 (s.U 1), .int .u64 (s.U 2), .int .u64 (v : Nat)] 270 := by
   have h1 := H_hupk.out
   have h2 := H_hupd.out
   simp only [wheelC]
   rw [h1, h2 0 (by omega), h2 1 (by omega), h2 2 (by omega)]
  rw [e] at h9
  exact ⟨rfl, h9⟩
 | false =>
  rw [hem, if_neg (by simp)] at hv
  have his : (!(L li).isEmpty) = true := by rw [hem]; rfl
  obtain ⟨c_x1, f_x1, p_x1, l_x1, H_x1⟩ := Vg.lay x1; clear x1
  have H_h := h_ h; have H_hff := h_ hff; have H_his := h_ his; have H_hbt := h_ hbt; have H_hv := h_ hv; have H_hset := h_ hset; have H_hupd := h_ hupd; have H_hupk := h_ hupk; clear h hff his hbt hv hset hupd hupk
  go_enter Tryz.func152, Tryz.ntmps152
  go_upto_region 4 with ((go_at_call 180; (with_reducible refine (pool_first li H_h.out.pl hl258 H_hff.out H_his.out).mono ?_); rintro e w1 ⟨rfl, rfl⟩))
  go_still_tail 12, (by kernel_rfl)
  change wpList _ _ _ _ _ w.drew
  go_wp2_with fail
  go_returns
  rw [H_hv.out]
  have h9 := (H_hset.out (Vg.updU s.U 3 v)).grows ((Vg.Grows.refl _).drew)
  have e : wheelC pb gt gm n s.now s.turns (Vg.updU s.U 3 v) = .cells #[.int .i64 s.now, .int .i64 s.turns, .pointer (some ⟨pb, 0, none⟩), .slice (some ⟨gt, 0, none⟩) n n, .map (some gm), .int .u64 (s.U 0), .int .u64 (s.U 1), .int .u64 (s.U 2), .int .u64 (v : Nat)] 270 := by
   have h1 := H_hupk.out
   have h2 := H_hupd.out
   simp only [wheelC]
   rw [h1, h2 0 (by omega), h2 1 (by omega), h2 2 (by omega)]
  rw [e] at h9
  exact ⟨rfl, h9⟩
theorem wh_note (l : Nat) (hl : l < 258) (h : WO w b pb p1 p2 gt gm n s L F) (hu : ∀ k, s.U k < 18446744073709551616) {U' : Nat -> Nat} (hU : Vg.noteU s.U l (L l).isEmpty = U') :
  Calls Tryz.prog 152 #[.pointer (some ⟨b, 0, none⟩), .int .i64 l] w fun e w' => e = .returned (.tuple #[]) /\ WOn w w' b pb p1 p2 gt gm n { s with U := U' } L F := by
 subst hU
 unfold Vg.noteU
 by_cases hhi : 256 <= l
 ·rw [if_pos hhi]
  refine (wh_note_hi l hhi (by omega) h).mono ?_
  rintro e w' ⟨rfl, rfl⟩
  exact ⟨rfl, WOn.refl h⟩
 ·rw [if_neg hhi]
  have hr : l % 64 < 64 := Nat.mod_lt _ (by omega)
  have hc : l / 64 = 0 \/ l / 64 = 1 \/ l / 64 = 2 \/ l / 64 = 3 := by omega
  obtain ⟨r, hrr⟩ : ∃ r, l % 64 = r := ⟨_, rfl⟩
  rw [hrr] at hr ⊢
  rcases hc with hc | hc | hc | hc
  ·obtain rfl : l = 0 * 64 + r := by omega
   rw [hc]
   exact wh_note0 r hr h (hu 0) rfl
  ·obtain rfl : l = 1 * 64 + r := by omega
   rw [hc]
   exact wh_note1 r hr h (hu 1) rfl
  ·obtain rfl : l = 2 * 64 + r := by omega
   rw [hc]
   exact wh_note2 r hr h (hu 2) rfl
  ·obtain rfl : l = 3 * 64 + r := by omega
   rw [hc]
   exact wh_note3 r hr h (hu 3) rfl
end
end Go.Proofs.YtlkdkgefjipjmaaGreatDoor
