/- Package irq: New. -/
import Derived.Test.YtekjnagojphmkaaDoorIrqG
set_option linter.unusedSimpArgs false
set_option linter.unusedVariables false
set_option maxHeartbeats 8000000
set_option maxRecDepth 100000
namespace Vg
open Go
theorem IR.of_reads' {S : Nat} {w : World} {sa : Option Addr} {n c : Nat} {L : List Int} (h : Reads S w (.slice sa n c) n (ics L)) (hn : L.length = n) : IR w sa c L := IR.of_rd h hn
theorem oddP_one : [(1 : Int)].any oddP = false := by decide
end Vg
namespace Go.Proofs.YtekjnagojphmkaaDoor
open Go.ChangeShapes Go.WideShapes Go.ChangeAt Go.RowKit
def INew (w w' : World) (T : List Vg.Lin) (e : Ending) : Prop :=
  (Vg.goodL T = true ∧ (∃ OB, e = .returned (.tuple #[.pointer (some ⟨w.heap.size, 0, none⟩), .int .i64 0]) ∧ QS w' w.heap.size w.heap.size (Vg.prs T).length (Vg.iq0 T) OB) ∧ Vg.Grows w w') ∨
  (Vg.goodL T = false ∧ e = .returned (.tuple #[.pointer none, .int .i64 1]) ∧ Vg.Grows w w')
section
variable {w w' W1 : World} {b n m : Nat} {xs : List Vg.Lq} {L : List Int}
theorem bits_between_any (n : Nat) (h1 : 1 ≤ n) (h2 : n ≤ 4398046511104) {z : Nat} (hz : (if n ≤ 64 then 2 ^ n - 1 else 18446744073709551615) = z) (w : World) (m : Int) (hm : m = (n : Int) - 1) :
    Calls Tryd.prog 27 #[.int .i64 0, .int .i64 m] w fun e w' => e = .returned (.int .u64 z) ∧ w = w' := by
  by_cases h64 : n ≤ 64
  · rw [if_pos h64] at hz
    exact bits_between n hz w h1 h64 m hm
  · rw [if_neg h64] at hz
    subst hz
    exact bits_between9 n w (by omega) (by omega) m hm
theorem irq_new {T : List Vg.Lin} {sa : Option Addr} {sc n : Nat} (hr : Vg.LR w sa sc T) (hn : T.length = n) (hn2 : n ≤ 4398046511104) (hw0 : 0 < w.heap.size) :
    Calls Tryd.prog 6 #[.slice sa n sc] w fun e w' => INew w w' T e := by
  obtain ⟨i0, hI, hz0, hz1, hz2⟩ := info_parts Tryd.info_line
  obtain ⟨j0, hJ, hy0, hy1, hy2⟩ := info_parts Tryd.info_int5
  have hcm : n ≤ 9223372036854775807 := by omega
  have H_hr := Lib.hid hr; clear hr; have H_hn := Lib.hid hn; clear hn
  go_enter Tryd.func6, Tryd.ntmps6
  go_wp2
  obtain ⟨b, hb⟩ : ∃ b, w.heap.size = b := ⟨_, rfl⟩
  obtain ⟨W0, hW0⟩ : ∃ W0, (w.alloc (iqZ (.slice none 0 0))).alloc (.cells #[] 3) = W0 := ⟨_, rfl⟩
  have g0 : NQ W0 b [] (.slice none 0 0) (.slice (some ⟨b + 1, 0, none⟩) 0 0) [] := ⟨by rw [← hW0, ← hb]; exact (Vg.alloc_heap_past (by simp)).trans (Vg.alloc_heap_at rfl), Vg.Que.nil _ _ _ _, by
    have h9 := Vg.Que.of_owns (Vg.owns_made0 (w := w.alloc (iqZ (.slice none 0 0))) (e := 3) (size := 1) (n := b + 1) (by simp; omega))
    rw [hW0] at h9
    exact h9.weaken (by simp; omega), fun i h => by simp at h, fun k h => by simp [Value.ownBlock] at h, fun i j h => by simp at h⟩
  have gg : Vg.Grows w W0 := by rw [← hW0]; (repeat' (first | (with_reducible exact Vg.Grows.refl _) | (with_reducible assumption) | (with_reducible refine Vg.Grows.alloc ?_ _) | (with_reducible refine Vg.Grows.plus ?_ _ _) | (with_reducible refine Vg.Grows.drewN ?_ _) | (with_reducible refine Vg.Grows.drew ?_) | (with_reducible refine Vg.Grows.setCell ?_ ?_ _) | (with_reducible refine Vg.Grows.put ?_ ?_ _) | omega | (simp; omega) | (simp; done)))
  have hbw : w.heap.size ≤ b := by omega
  simp only [hb]
  rw [hW0]
  have H_hb := Lib.hid hb; clear hb; have H_hW0 := Lib.hid hW0; clear hW0; have H_g0 := Lib.hid g0; clear g0
  go_loopw [5, 17] (fun v5' i wr => ∃ (k : Nat) (xs : List Vg.Lq) (rv v5 : Value), k ≤ n ∧ i = .int .i64 k ∧ v5' = v5 ∧ Vg.Grows w wr ∧ xs.map (·.p) = (T.take k).map Vg.ln0 ∧ (T.take k).any Vg.oddL = false ∧ NQ wr b xs rv v5 ((T.take k).map (·.pr))) (fun _ i _ => n - (intOf i).toNat)
  case atStart => exact ⟨0, [], _, _, by omega, rfl, rfl, gg, by simp, by simp, by simpa using H_g0.out⟩
  case round =>
    obtain ⟨k, xs, rv, v5, hk, rfl, rfl, hgr, hmap, hpre, hnb⟩ := hrel
    by_cases hlt : k < n
    · have hkT : k < T.length := by rw [H_hn.out]; exact hlt
      obtain ⟨g, off, rfl, hg, c0, c1, c2, c3⟩ := H_hr.out.2.2 k hkT
      have hrc := H_hr.out.1
      have hrm : sc ≤ 9223372036854775807 := H_hr.out.2.1
      rw [H_hn.out] at hrc
      have hsn := List.take_succ_eq_append_getElem hkT
      obtain ⟨t, ht⟩ : ∃ t, T[k] = t := ⟨_, rfl⟩
      rw [ht] at c0 c1 c2 c3 hsn
      have c0 := (hgr.below.cell (p := ⟨g, off + k * 4, none⟩) hg).trans c0
      have c1 := (hgr.below.cell (p := ⟨g, off + k * 4 + 1, none⟩) hg).trans c1
      have c2 := (hgr.below.cell (p := ⟨g, off + k * 4 + 2, none⟩) hg).trans c2
      have c3 := (hgr.below.cell (p := ⟨g, off + k * 4 + 3, none⟩) hg).trans c3
      have hgl : g < wr.heap.size := Nat.lt_of_lt_of_le hg hgr.size
      have hme : t ∈ T := by rw [← ht]; exact List.getElem_mem _
      cases hodd : Vg.oddL t with
      | true =>
        have hbad : Vg.goodL T = false := by
          have : T.any Vg.oddL = true := List.any_eq_true.2 ⟨t, hme, hodd⟩
          unfold Vg.goodL; rw [this]; rfl
        have hfin : ∀ w', Vg.Grows w w' → INew w w' T (.returned (.tuple #[.pointer none, .int .i64 1])) := fun w' h => .inr ⟨hbad, rfl, h⟩
        have hcase : (t.many < 1 ∨ 64 < t.many ∨ t.wd < 1 ∨ 1099511627776 < t.wd) ∨ ((1 ≤ t.many ∧ t.many ≤ 64 ∧ 1 ≤ t.wd ∧ t.wd ≤ 1099511627776) ∧ (t.top < 1 ∨ (¬ t.top < 1 ∧ 1099511627776 < t.top))) := by
          unfold Vg.oddL at hodd; simp at hodd; omega
        rcases hcase with h1 | ⟨⟨h1, h2, h3, h3'⟩, h4 | ⟨h4, h5⟩⟩
        · have H_hmap := Lib.hid hmap; clear hmap; have H_hpre := Lib.hid hpre; clear hpre; have H_hnb := Lib.hid hnb; clear hnb; have H_hsn := Lib.hid hsn; clear hsn; have H_ht := Lib.hid ht; clear ht; have H_hme := Lib.hid hme; clear hme; have H_hodd := Lib.hid hodd; clear hodd; have H_hbad := Lib.hid hbad; clear hbad; have H_hfin := Lib.hid hfin; clear hfin
          go_wp2_with ((go_at_call 25; (with_reducible refine (storm_new_no t.many t.wd h1).mono ?_); rintro e w1 ⟨rfl, rfl⟩))
          go_returns
          exact H_hfin.out _ (by (repeat' (first | (with_reducible exact Vg.Grows.refl _) | (with_reducible assumption) | (with_reducible refine Vg.Grows.alloc ?_ _) | (with_reducible refine Vg.Grows.plus ?_ _ _) | (with_reducible refine Vg.Grows.drewN ?_ _) | (with_reducible refine Vg.Grows.drew ?_) | (with_reducible refine Vg.Grows.setCell ?_ ?_ _) | (with_reducible refine Vg.Grows.put ?_ ?_ _) | omega | (simp; omega) | (simp; done))))
        · obtain ⟨mn, hmn⟩ : ∃ mn : Nat, t.many = mn := ⟨t.many.toNat, by omega⟩
          rw [hmn] at c2 h1 h2
          have H_hmap := Lib.hid hmap; clear hmap; have H_hpre := Lib.hid hpre; clear hpre; have H_hnb := Lib.hid hnb; clear hnb; have H_hsn := Lib.hid hsn; clear hsn; have H_ht := Lib.hid ht; clear ht; have H_hme := Lib.hid hme; clear hme; have H_hodd := Lib.hid hodd; clear hodd; have H_hbad := Lib.hid hbad; clear hbad; have H_hfin := Lib.hid hfin; clear hfin; have H_hmn := Lib.hid hmn; clear hmn
          go_wp2_with ((go_at_call 25; (with_reducible refine (storm_new_ok mn t.wd (by omega) (by omega) h3 h3').mono ?_); rintro e w1 ⟨rfl, rfl⟩))
          go_returns
          exact H_hfin.out _ (by (repeat' (first | (with_reducible exact Vg.Grows.refl _) | (with_reducible assumption) | (with_reducible refine Vg.Grows.alloc ?_ _) | (with_reducible refine Vg.Grows.plus ?_ _ _) | (with_reducible refine Vg.Grows.drewN ?_ _) | (with_reducible refine Vg.Grows.drew ?_) | (with_reducible refine Vg.Grows.setCell ?_ ?_ _) | (with_reducible refine Vg.Grows.put ?_ ?_ _) | omega | (simp; omega) | (simp; done))))
        · obtain ⟨mn, hmn⟩ : ∃ mn : Nat, t.many = mn := ⟨t.many.toNat, by omega⟩
          rw [hmn] at c2 h1 h2
          have H_hmap := Lib.hid hmap; clear hmap; have H_hpre := Lib.hid hpre; clear hpre; have H_hnb := Lib.hid hnb; clear hnb; have H_hsn := Lib.hid hsn; clear hsn; have H_ht := Lib.hid ht; clear ht; have H_hme := Lib.hid hme; clear hme; have H_hodd := Lib.hid hodd; clear hodd; have H_hbad := Lib.hid hbad; clear hbad; have H_hfin := Lib.hid hfin; clear hfin; have H_hmn := Lib.hid hmn; clear hmn
          go_wp2_with ((go_at_call 25; (with_reducible refine (storm_new_ok mn t.wd (by omega) (by omega) h3 h3').mono ?_); rintro e w1 ⟨rfl, rfl⟩))
          go_returns
          exact H_hfin.out _ (by (repeat' (first | (with_reducible exact Vg.Grows.refl _) | (with_reducible assumption) | (with_reducible refine Vg.Grows.alloc ?_ _) | (with_reducible refine Vg.Grows.plus ?_ _ _) | (with_reducible refine Vg.Grows.drewN ?_ _) | (with_reducible refine Vg.Grows.drew ?_) | (with_reducible refine Vg.Grows.setCell ?_ ?_ _) | (with_reducible refine Vg.Grows.put ?_ ?_ _) | omega | (simp; omega) | (simp; done))))
      | false =>
        obtain ⟨⟨h1, h2, h3, h3'⟩, h4, h5⟩ := Vg.oddL_no hodd
        have hnx : (T.take (k + 1)).any Vg.oddL = false := by rw [hsn, List.any_append, hpre]; simp [hodd]
        have hLk : ((T.take k).map (·.pr)).length = k := by rw [List.length_map, List.length_take]; omega
        have hxk : xs.length = k := by have := congrArg List.length hmap; rw [List.length_map, List.length_map, List.length_take] at this; omega
        have hrow := hnb.row
        have hdep := hnb.dep
        obtain ⟨ra, rc, rfl⟩ := hrow.shape
        obtain ⟨a5, c5, rfl⟩ := hdep.shape
        rw [hLk] at hnb hdep ⊢
        rw [hxk] at hnb hrow
        obtain ⟨mn, hmn⟩ : ∃ mn : Nat, t.many = mn := ⟨t.many.toNat, by omega⟩
        rw [hmn] at c2 h1 h2
        have H_hmap := Lib.hid hmap; clear hmap; have H_hpre := Lib.hid hpre; clear hpre; have H_hnb := Lib.hid hnb; clear hnb; have H_hsn := Lib.hid hsn; clear hsn; have H_ht := Lib.hid ht; clear ht; have H_hme := Lib.hid hme; clear hme; have H_hodd := Lib.hid hodd; clear hodd; have H_hnx := Lib.hid hnx; clear hnx; have H_hLk := Lib.hid hLk; clear hLk; have H_hxk := Lib.hid hxk; clear hxk; have H_hrow := Lib.hid hrow; clear hrow; have H_hdep := Lib.hid hdep; clear hdep; have H_hmn := Lib.hid hmn; clear hmn
        go_upto_region 9 with ((go_at_call 25; (with_reducible refine (storm_new_ok mn t.wd (by omega) (by omega) h3 h3').mono ?_); rintro e w1 ⟨rfl, rfl⟩))
        obtain ⟨bx, hbx⟩ : ∃ bx, wr.heap.size = bx := ⟨_, rfl⟩
        obtain ⟨wy, hwy⟩ : ∃ wy, ((wr.alloc (.cells #[.int .i64 t.pr, .int .i64 t.top, .int .i64 mn, .int .i64 t.wd] 62)).alloc (ringC (fun _ => 0) mn)).alloc (maskC (bx + 1) mn t.wd 0 0 0 0) = wy := ⟨_, rfl⟩
        have hgy : Vg.Grows wr wy := by rw [← hwy]; (repeat' (first | (with_reducible exact Vg.Grows.refl _) | (with_reducible assumption) | (with_reducible refine Vg.Grows.alloc ?_ _) | (with_reducible refine Vg.Grows.plus ?_ _ _) | (with_reducible refine Vg.Grows.drewN ?_ _) | (with_reducible refine Vg.Grows.drew ?_) | (with_reducible refine Vg.Grows.setCell ?_ ?_ _) | (with_reducible refine Vg.Grows.put ?_ ?_ _) | omega | (simp; omega) | (simp; done)))
        have x2 : Vg.blk wy bx = some (.cells #[.int .i64 t.pr, .int .i64 t.top, .int .i64 mn, .int .i64 t.wd] 62) := by rw [← hwy, ← hbx]; exact (Vg.alloc_heap_past (by simp; omega)).trans ((Vg.alloc_heap_past (by simp)).trans (Vg.alloc_heap_at rfl))
        have hmk : MK wy (bx + 2) (bx + 1) mn t.wd [] 0 := ⟨0, fun _ => 0, 0, by rw [← hwy]; exact Vg.alloc_heap_at (by simp; omega), by rw [← hwy]; exact (Vg.alloc_heap_past (by simp; omega)).trans (Vg.alloc_heap_at (by simp; omega)), by omega, by omega, by omega, by omega, by simp, fun i hi => by simp at hi⟩
        have nb2 := H_hnb.out.grows hgy
        have q2 := H_hrow.out.grows hgy
        have x1 := nb2.tab
        have hgwy := hgr.trans hgy
        have hszy : wy.heap.size = bx + 3 := by rw [← hwy, ← hbx]; simp
        have hbr := H_hnb.out.lt
        have hrr := H_hrow.out.lt
        have hdd := H_hdep.out.lt
        have hss : ∀ i (hi : i < xs.length), xs[i].mb < bx ∧ xs[i].rb < bx := fun i hi => by rw [← hbx]; exact (H_hnb.out.mks i hi).1.lt
        rw [hbx] at hbr hrr hdd
        simp only [hbx]
        rw [hwy]
        have e12 : bx + 1 + 1 = bx + 2 := by omega
        simp only [e12]
        have n1 : b ≠ bx := by omega
        have n2 : bx ≠ b := by omega
        have hsz9 : b + 1 ≤ wy.heap.size := by omega
        have c_x1 := Vg.cells_of x1; have f_x1 := Vg.frozen_of x1; have p_x1 := Vg.setCell_of x1; have l_x1 := Vg.lt_of x1; have H_x1 := Lib.hid x1; clear x1; have c_x2 := Vg.cells_of x2; have f_x2 := Vg.frozen_of x2; have p_x2 := Vg.setCell_of x2; have l_x2 := Vg.lt_of x2; have H_x2 := Lib.hid x2; clear x2
        have H_hmk := Lib.hid hmk; clear hmk; have H_nb2 := Lib.hid nb2; clear nb2; have H_q2 := Lib.hid q2; clear q2; have H_hwy := Lib.hid hwy; clear hwy; have H_hrr := Lib.hid hrr; clear hrr; have H_hdd := Lib.hid hdd; clear hdd; have H_hss := Lib.hid hss; clear hss; have H_hbx := Lib.hid hbx; clear hbx; have H_hgy := Lib.hid hgy; clear hgy; have H_hgwy := Lib.hid hgwy; clear hgwy
        go_upto_region 10 with (at_builtin; (refine Vg.wpList_que1 (w := _) rfl (.tmp 45) (.tmp 48) 78 rfl (b + 1) 86 i0 (.agg #[.pointer none, .int .i64 0, .int .i64 0, .int .i64 0, .int .i64 0]) 5 40 Tryd.underlying78 hI hz0 hz1 hz2 rfl (by decide) (.slice ra k rc) k (Vg.lcells xs) rfl (H_q2.out.grows (by (repeat' (first | (with_reducible exact Vg.Grows.refl _) | (with_reducible assumption) | (with_reducible refine Vg.Grows.alloc ?_ _) | (with_reducible refine Vg.Grows.plus ?_ _ _) | (with_reducible refine Vg.Grows.drewN ?_ _) | (with_reducible refine Vg.Grows.drew ?_) | (with_reducible refine Vg.Grows.setCell ?_ ?_ _) | (with_reducible refine Vg.Grows.put ?_ ?_ _) | omega | (simp; omega) | (simp; done))))) _ 1 [.pointer (some ⟨bx + 2, 0, none⟩), .int .i64 0, .int .i64 0, .int .i64 0, .int .i64 0] rfl rfl (Vg.five_new (by first | rfl | ((try simp only [World.size_alloc, Vg.plus_size, Vg.put_size, World.size_setCell, World.size_drew, World.heap_drewN]) <;> omega))) (by simp [Value.oneCell']) (by unfold maxLen; omega) (by omega) (by decide) (by simp only [World.size_alloc]; omega) ?_); intro v2 W1 y2 m2 hq2 hs2 ho2; obtain ⟨a2, c2', rfl⟩ := hq2.shape; have hT := ((Vg.Touch.of_grows (t := fun j => (Value.slice ra k rc).ownBlock = some j) (by (repeat' (first | (with_reducible exact Vg.Grows.refl _) | (with_reducible assumption) | (with_reducible refine Vg.Grows.alloc ?_ _) | (with_reducible refine Vg.Grows.plus ?_ _ _) | (with_reducible refine Vg.Grows.drewN ?_ _) | (with_reducible refine Vg.Grows.drew ?_) | (with_reducible refine Vg.Grows.setCell ?_ ?_ _) | (with_reducible refine Vg.Grows.put ?_ ?_ _) | omega | (simp; omega) | (simp; done))) : Vg.Grows wy _)).trans (Vg.Touch.of_same hs2)).trans (Vg.Touch.of_grows ((Vg.Grows.refl _).plus y2 m2)); have nb4 := NQ.app1 (y := y2) (m := m2) (x := ⟨⟨0, 0, 0, 0, mn, t.wd, [], 0⟩, bx + 2, bx + 1⟩) (NQ.grows H_nb2.out (by (repeat' (first | (with_reducible exact Vg.Grows.refl _) | (with_reducible assumption) | (with_reducible refine Vg.Grows.alloc ?_ _) | (with_reducible refine Vg.Grows.plus ?_ _ _) | (with_reducible refine Vg.Grows.drewN ?_ _) | (with_reducible refine Vg.Grows.drew ?_) | (with_reducible refine Vg.Grows.setCell ?_ ?_ _) | (with_reducible refine Vg.Grows.put ?_ ?_ _) | omega | (simp; omega) | (simp; done))))) (MK.grows H_hmk.out (by (repeat' (first | (with_reducible exact Vg.Grows.refl _) | (with_reducible assumption) | (with_reducible refine Vg.Grows.alloc ?_ _) | (with_reducible refine Vg.Grows.plus ?_ _ _) | (with_reducible refine Vg.Grows.drewN ?_ _) | (with_reducible refine Vg.Grows.drew ?_) | (with_reducible refine Vg.Grows.setCell ?_ ?_ _) | (with_reducible refine Vg.Grows.put ?_ ?_ _) | omega | (simp; omega) | (simp; done))))) ⟨by show b < bx + 2; omega, by show b < bx + 1; omega⟩ ⟨fun hh => by have := (H_hrr.out _ hh).2; simp only at this; omega, fun hh => by have := (H_hrr.out _ hh).2; simp only at this; omega⟩ ⟨fun hh => by have := (H_hdd.out _ hh).2; simp only at this; omega, fun hh => by have := (H_hdd.out _ hh).2; simp only at this; omega⟩ (fun i hi => by have := H_hss.out i hi; simp only; omega) (by rw [H_hxk.out]; exact hq2) rfl hs2 ho2; have hgW3 := hT.gr H_hgwy.out (fun j hj => by have := (H_hrr.out j hj).1; omega); have z1 := hT.bk H_x1.out (fun hh => by have := (H_hrr.out b hh).1; omega); have z2 := hT.bk H_x2.out (fun hh => by have := (H_hrr.out bx hh).2; omega); obtain ⟨W3, hW3⟩ : ∃ W3, Vg.plus W1 y2 m2 = W3 := ⟨_, rfl⟩; rw [hW3] at hq2 nb4 hgW3 z1 z2 ⊢; clear hW3 hs2 ho2 hT; clear c_x1 f_x1 p_x1 c_x2 f_x2 p_x2; have c_z1 := Vg.cells_of z1; have f_z1 := Vg.frozen_of z1; have p_z1 := Vg.setCell_of z1; have l_z1 := Vg.lt_of z1; have H_z1 := Lib.hid z1; clear z1; have c_z2 := Vg.cells_of z2; have f_z2 := Vg.frozen_of z2; have p_z2 := Vg.setCell_of z2; have l_z2 := Vg.lt_of z2; have H_z2 := Lib.hid z2; clear z2; have hs3 := hgW3.size; have H_hq2 := Lib.hid hq2; clear hq2; have H_nb4 := Lib.hid nb4; clear nb4; have H_hgW3 := Lib.hid hgW3; clear hgW3)
        have hdep4 := H_nb4.out.dep
        rw [H_hLk.out] at hdep4
        have hgP := Vg.Grows.put H_hgW3.out hbw (iqZ (.slice a2 (k + 1) c2'))
        have hsz3 : b + 1 ≤ W3.heap.size := by omega
        have H_hdep4 := Lib.hid hdep4; clear hdep4; have H_hgP := Lib.hid hgP; clear hgP
        go_wp2_with (at_builtin; (refine Vg.wpList_que1 (w := _) rfl (.tmp 52) (.tmp 55) 29 rfl (b + 1) 3 j0 (.int .i64 0) 1 8 Tryd.underlying29 hJ hy0 hy1 hy2 rfl (by decide) (.slice a5 k c5) k _ rfl (H_hdep4.out.grows (by (repeat' (first | (with_reducible exact Vg.Grows.refl _) | (with_reducible assumption) | (with_reducible refine Vg.Grows.alloc ?_ _) | (with_reducible refine Vg.Grows.plus ?_ _ _) | (with_reducible refine Vg.Grows.drewN ?_ _) | (with_reducible refine Vg.Grows.drew ?_) | (with_reducible refine Vg.Grows.setCell ?_ ?_ _) | (with_reducible refine Vg.Grows.put ?_ ?_ _) | omega | (simp; omega) | (simp; done))))) _ 1 [.int .i64 t.pr] rfl rfl (Vg.one_new (by first | rfl | ((try simp only [World.size_alloc, Vg.plus_size, Vg.put_size, World.size_setCell, World.size_drew, World.heap_drewN]) <;> omega))) (by simp [Value.oneCell']) (by unfold maxLen; omega) (by omega) (by decide) (by simp only [World.size_alloc, Vg.put_size]; omega) ?_); intro v3 W5 y5 m5 hq5 hs5 ho5; have nb5 := NQ.app2 (y := y5) (m := m5) (d := t.pr) (NQ.grows H_nb4.out (by (repeat' (first | (with_reducible exact Vg.Grows.refl _) | (with_reducible assumption) | (with_reducible refine Vg.Grows.alloc ?_ _) | (with_reducible refine Vg.Grows.plus ?_ _ _) | (with_reducible refine Vg.Grows.drewN ?_ _) | (with_reducible refine Vg.Grows.drew ?_) | (with_reducible refine Vg.Grows.setCell ?_ ?_ _) | (with_reducible refine Vg.Grows.put ?_ ?_ _) | omega | (simp; omega) | (simp; done))))) (by rw [H_hLk.out]; exact hq5) hs5 ho5; have hgW5 := hs5.grows (w0 := w) (H_hgP.out.alloc _) (fun j hj => by have := (H_hdep4.out.lt j hj).1; omega); obtain ⟨a6, c6, rfl⟩ := hq5.shape; have H_hq5 := Lib.hid hq5; clear hq5; have H_hs5 := Lib.hid hs5; clear hs5; have H_ho5 := Lib.hid ho5; clear ho5; have H_nb5 := Lib.hid nb5; clear nb5)
        have hln : Vg.ln0 t = ⟨0, 0, 0, 0, mn, t.wd, [], 0⟩ := by unfold Vg.ln0; rw [H_hmn.out]; rfl
        refine ⟨⟨k + 1, xs ++ [⟨⟨0, 0, 0, 0, mn, t.wd, [], 0⟩, bx + 2, bx + 1⟩], .slice a2 (k + 1) c2', .slice a6 (k + 1) c6, by omega, by go_num, rfl, by (repeat' (first | (with_reducible exact Vg.Grows.refl _) | (with_reducible assumption) | (with_reducible refine Vg.Grows.alloc ?_ _) | (with_reducible refine Vg.Grows.plus ?_ _ _) | (with_reducible refine Vg.Grows.drewN ?_ _) | (with_reducible refine Vg.Grows.drew ?_) | (with_reducible refine Vg.Grows.setCell ?_ ?_ _) | (with_reducible refine Vg.Grows.put ?_ ?_ _) | omega | (simp; omega) | (simp; done))), by rw [List.map_append, H_hmap.out, H_hsn.out, List.map_append]; simp [hln], H_hnx.out, ?_⟩, by simp [intOf]; omega⟩
        have h9 := H_nb5.out
        rw [H_hsn.out, List.map_append]
        exact h9
    · have hkn : k = n := by omega
      subst hkn
      have htk : T.take k = T := List.take_of_length_le (by rw [H_hn.out]; exact Nat.le_refl _)
      rw [htk] at hmap hpre hnb
      have x1 := hnb.tab
      have hdep := hnb.dep
      have hlD : (T.map (·.pr)).length = k := by rw [List.length_map]; exact H_hn.out
      have hbr := hnb.lt
      have hxk : xs.length = k := by have := congrArg List.length hmap; rw [List.length_map, List.length_map] at this; rw [this]; exact H_hn.out
      have hxs : ∀ x ∈ xs, (1 ≤ x.p.wd ∧ x.p.wd ≤ 1099511627776) ∧ 0 ≤ x.p.ml := fun x hx => by
        have h9 : x.p ∈ T.map Vg.ln0 := by rw [← hmap]; exact List.mem_map.2 ⟨x, hx, rfl⟩
        obtain ⟨t, ht, he⟩ := List.mem_map.1 h9
        have ho : Vg.oddL t = false := by
          cases hh : Vg.oddL t with
          | false => rfl
          | true => rw [← hpre]; exact (List.any_eq_true.2 ⟨t, ht, hh⟩).symm
        obtain ⟨⟨_, _, a3, a4⟩, _⟩ := Vg.oddL_no ho
        rw [← he]
        exact ⟨⟨a3, a4⟩, Int.le_refl _⟩
      by_cases hz : k = 0
      · subst hz
        have hT : T = [] := List.eq_nil_of_length_eq_zero H_hn.out
        subst hT
        obtain ⟨a5, c5, rfl⟩ := hdep.shape
        rw [hlD] at hdep hnb ⊢
        have c_x1 := Vg.cells_of x1; have f_x1 := Vg.frozen_of x1; have p_x1 := Vg.setCell_of x1; have l_x1 := Vg.lt_of x1; have H_x1 := Lib.hid x1; clear x1
        have e1 := Vg.oddP_one
        have hgood : Vg.goodL [] = true := by decide
        have hx0 : xs = [] := List.eq_nil_of_length_eq_zero hxk
        subst hx0
        have hB1 : ∀ w, Calls Tryd.prog 27 #[.int .i64 0, .int .i64 0] w fun e w' => e = .returned (.int .u64 1) ∧ w = w' := fun w => bits_between_any 1 (by omega) (by omega) (z := 1) rfl w 0 rfl
        have hM1 : Calls Tryd.prog 26 #[.int .u64 1, .slice (some ⟨wr.heap.size, 0, none⟩) 1 1] (wr.alloc (.cells #[.int .i64 1] 3)) fun e w' => ∃ v, e = .returned (.tuple #[v, .int .i64 0]) ∧ ICR (wr.alloc (.cells #[.int .i64 1] 3)) w' ⟨0, 1, [1], []⟩ 1 1 v ∧ Vg.Grows (wr.alloc (.cells #[.int .i64 1] 3)) w' := ic_make (L := [1]) (ed := 1) (Vg.IR.block (L := [1]) (Vg.alloc_heap_at rfl) (by simp [maxLen])) rfl (by omega) (by omega) e1 rfl
        have H_hmap := Lib.hid hmap; clear hmap; have H_hpre := Lib.hid hpre; clear hpre; have H_hnb := Lib.hid hnb; clear hnb; have H_hdep := Lib.hid hdep; clear hdep; have H_htk := Lib.hid htk; clear htk; have H_hlD := Lib.hid hlD; clear hlD; have H_hxk := Lib.hid hxk; clear hxk; have H_hxs := Lib.hid hxs; clear hxs; have H_e1 := Lib.hid e1; clear e1; have H_hgood := Lib.hid hgood; clear hgood; have H_hB1 := Lib.hid hB1; clear hB1; have H_hM1 := Lib.hid hM1; clear hM1
        go_wp2_with (first | (go_at_call 27; (with_reducible refine (H_hB1.out _).mono ?_); rintro e w1 ⟨rfl, rfl⟩) | (go_at_call 26; (with_reducible refine (H_hM1.out).mono ?_); rintro e w2 ⟨v, rfl, ⟨pa, pc, sa2, m, sc2, rfl, hI9, f1, f2⟩, hg2⟩; have hm0 : m = 0 := hI9.m.symm; subst hm0; have hg3 := Vg.Grows.trans (a := wr) (by (repeat' (first | (with_reducible exact Vg.Grows.refl _) | (with_reducible assumption) | (with_reducible refine Vg.Grows.alloc ?_ _) | (with_reducible refine Vg.Grows.plus ?_ _ _) | (with_reducible refine Vg.Grows.drewN ?_ _) | (with_reducible refine Vg.Grows.drew ?_) | (with_reducible refine Vg.Grows.setCell ?_ ?_ _) | (with_reducible refine Vg.Grows.put ?_ ?_ _) | omega | (simp; omega) | (simp; done)))) hg2; have y1 := hg3.blk H_x1.out; have hgw2 := hgr.trans hg3; clear c_x1 f_x1 p_x1; have c_y1 := Vg.cells_of y1; have f_y1 := Vg.frozen_of y1; have p_y1 := Vg.setCell_of y1; have l_y1 := Vg.lt_of y1; have H_y1 := Lib.hid y1; clear y1; have H_hI9 := Lib.hid hI9; clear hI9; have H_f1 := Lib.hid f1; clear f1; have H_f2 := Lib.hid f2; clear f2; have H_hg2 := Lib.hid hg2; clear hg2; have H_hg3 := Lib.hid hg3; clear hg3; have H_hgw2 := Lib.hid hgw2; clear hgw2))
        go_returns
        have hsq : Vg.iq0 [] = ⟨⟨0, 1, [1], []⟩, ([] : List Vg.Lq).map (·.p), [], 0⟩ := rfl
        have hQ := NQ.done (s := Vg.iq0 []) H_hnb.out H_hI9.out H_hg3.out (fun j hj => by have := H_f1.out j hj; simp at this; omega) (fun j hj => by have := H_f2.out j hj; simp at this; omega) hsq rfl (.inr ⟨rfl, rfl, rfl⟩) H_hxs.out (by omega)
        refine .inl ⟨H_hgood.out, ⟨fun k => b ≤ k ∧ k < w2.heap.size, by rw [H_hb.out]; rfl, ?_⟩, (Vg.Grows.put H_hgw2.out hbw _).alloc _⟩
        rw [H_hb.out]
        exact hQ.grows ((Vg.Grows.refl _).alloc _)
      · have hzz : ((k : Int) == 0) = false := by simp; exact hz
        obtain ⟨a5, c5, rfl⟩ := hdep.shape
        rw [hlD] at hdep hnb ⊢
        have hir : Vg.IR wr a5 c5 (T.map (·.pr)) := Vg.IR.of_reads' hdep.reads hlD
        have hdl : Vg.prs T = T.map (·.pr) := by unfold Vg.prs; rw [if_neg (by rw [H_hn.out]; exact hz)]
        obtain ⟨z, hz9⟩ : ∃ z, (if k ≤ 64 then 2 ^ k - 1 else 18446744073709551615) = z := ⟨_, rfl⟩
        by_cases hgd : k ≤ 64 ∧ (T.map (·.pr)).any Vg.oddP = false
        · obtain ⟨hk64, hod⟩ := hgd
          have hgood : Vg.goodL T = true := by unfold Vg.goodL; rw [hpre, hod, H_hn.out]; simpa using hk64
          have hed : 2 ^ k - 1 = z := by rw [← hz9, if_pos hk64]
          have c_x1 := Vg.cells_of x1; have f_x1 := Vg.frozen_of x1; have p_x1 := Vg.setCell_of x1; have l_x1 := Vg.lt_of x1; have H_x1 := Lib.hid x1; clear x1
          have H_hmap := Lib.hid hmap; clear hmap; have H_hpre := Lib.hid hpre; clear hpre; have H_hnb := Lib.hid hnb; clear hnb; have H_hdep := Lib.hid hdep; clear hdep; have H_htk := Lib.hid htk; clear htk; have H_hlD := Lib.hid hlD; clear hlD; have H_hir := Lib.hid hir; clear hir; have H_hdl := Lib.hid hdl; clear hdl; have H_hod := Lib.hid hod; clear hod; have H_hgood := Lib.hid hgood; clear hgood; have H_hz9 := Lib.hid hz9; clear hz9; have H_hed := Lib.hid hed; clear hed; have H_hxk := Lib.hid hxk; clear hxk; have H_hxs := Lib.hid hxs; clear hxs
          go_wp2_with (first | (go_at_call 27; (with_reducible refine (bits_between_any k (by omega) hn2 H_hz9.out _ _ rfl).mono ?_); rintro e w1 ⟨rfl, rfl⟩) | (go_at_call 26; (with_reducible refine (ic_make (H_hir.out.grows (by (repeat' (first | (with_reducible exact Vg.Grows.refl _) | (with_reducible assumption) | (with_reducible refine Vg.Grows.alloc ?_ _) | (with_reducible refine Vg.Grows.plus ?_ _ _) | (with_reducible refine Vg.Grows.drewN ?_ _) | (with_reducible refine Vg.Grows.drew ?_) | (with_reducible refine Vg.Grows.setCell ?_ ?_ _) | (with_reducible refine Vg.Grows.put ?_ ?_ _) | omega | (simp; omega) | (simp; done))))) H_hlD.out (by omega) hk64 H_hod.out H_hed.out).mono ?_); rintro e w2 ⟨v, rfl, ⟨pa, pc, sa2, m, sc2, rfl, hI9, f1, f2⟩, hg2⟩; have hm0 : m = 0 := hI9.m.symm; subst hm0; have y1 := hg2.blk H_x1.out; have hgw2 := hgr.trans hg2; clear c_x1 f_x1 p_x1; have c_y1 := Vg.cells_of y1; have f_y1 := Vg.frozen_of y1; have p_y1 := Vg.setCell_of y1; have l_y1 := Vg.lt_of y1; have H_y1 := Lib.hid y1; clear y1; have H_hI9 := Lib.hid hI9; clear hI9; have H_f1 := Lib.hid f1; clear f1; have H_f2 := Lib.hid f2; clear f2; have H_hg2 := Lib.hid hg2; clear hg2; have H_hgw2 := Lib.hid hgw2; clear hgw2))
          go_returns
          have hsq : Vg.iq0 T = ⟨⟨0, z, T.map (·.pr), []⟩, xs.map (·.p), [], 0⟩ := by
            unfold Vg.iq0
            rw [H_hdl.out, H_hlD.out, H_hed.out, H_hmap.out]
          have hQ := NQ.done (s := Vg.iq0 T) H_hnb.out H_hI9.out H_hg2.out H_f1.out H_f2.out hsq rfl (.inl H_hxk.out) H_hxs.out (by omega)
          rw [H_hed.out] at hQ
          refine .inl ⟨H_hgood.out, ⟨fun k => b ≤ k ∧ k < w2.heap.size, by rw [H_hb.out]; rfl, ?_⟩, (Vg.Grows.put H_hgw2.out hbw _).alloc _⟩
          rw [H_hb.out, H_hdl.out, H_hlD.out]
          exact hQ.grows ((Vg.Grows.refl _).alloc _)
        · have hbad : Vg.goodL T = false := by
            cases hh : Vg.goodL T with
            | false => rfl
            | true =>
              unfold Vg.goodL at hh
              simp only [Bool.and_eq_true, Bool.not_eq_true', decide_eq_true_eq] at hh
              exact absurd ⟨by rw [← H_hn.out]; exact hh.1.2, hh.2⟩ hgd
          have hno : 64 < k ∨ (T.map (·.pr)).any Vg.oddP = true := by
            by_cases h64 : k ≤ 64
            · right
              cases hh : (T.map (·.pr)).any Vg.oddP with
              | true => rfl
              | false => exact absurd ⟨h64, hh⟩ hgd
            · left; omega
          have c_x1 := Vg.cells_of x1; have f_x1 := Vg.frozen_of x1; have p_x1 := Vg.setCell_of x1; have l_x1 := Vg.lt_of x1; have H_x1 := Lib.hid x1; clear x1
          have H_hmap := Lib.hid hmap; clear hmap; have H_hpre := Lib.hid hpre; clear hpre; have H_hnb := Lib.hid hnb; clear hnb; have H_hdep := Lib.hid hdep; clear hdep; have H_htk := Lib.hid htk; clear htk; have H_hlD := Lib.hid hlD; clear hlD; have H_hir := Lib.hid hir; clear hir; have H_hdl := Lib.hid hdl; clear hdl; have H_hgd := Lib.hid hgd; clear hgd; have H_hbad := Lib.hid hbad; clear hbad; have H_hno := Lib.hid hno; clear hno; have H_hz9 := Lib.hid hz9; clear hz9; have H_hxk := Lib.hid hxk; clear hxk; have H_hxs := Lib.hid hxs; clear hxs
          go_wp2_with (first | (go_at_call 27; (with_reducible refine (bits_between_any k (by omega) hn2 H_hz9.out _ _ rfl).mono ?_); rintro e w1 ⟨rfl, rfl⟩) | (go_at_call 26; (with_reducible refine (ic_make_no (H_hir.out.grows (by (repeat' (first | (with_reducible exact Vg.Grows.refl _) | (with_reducible assumption) | (with_reducible refine Vg.Grows.alloc ?_ _) | (with_reducible refine Vg.Grows.plus ?_ _ _) | (with_reducible refine Vg.Grows.drewN ?_ _) | (with_reducible refine Vg.Grows.drew ?_) | (with_reducible refine Vg.Grows.setCell ?_ ?_ _) | (with_reducible refine Vg.Grows.put ?_ ?_ _) | omega | (simp; omega) | (simp; done))))) H_hlD.out (by omega) hn2 H_hno.out _).mono ?_); rintro e w2 ⟨rfl, hg2⟩; have hgw2 := hgr.trans hg2; have H_hg2 := Lib.hid hg2; clear hg2; have H_hgw2 := Lib.hid hgw2; clear hgw2))
          go_returns
          exact .inr ⟨H_hbad.out, rfl, Vg.Grows.trans H_hgw2.out (by (repeat' (first | (with_reducible exact Vg.Grows.refl _) | (with_reducible assumption) | (with_reducible refine Vg.Grows.alloc ?_ _) | (with_reducible refine Vg.Grows.plus ?_ _ _) | (with_reducible refine Vg.Grows.drewN ?_ _) | (with_reducible refine Vg.Grows.drew ?_) | (with_reducible refine Vg.Grows.setCell ?_ ?_ _) | (with_reducible refine Vg.Grows.put ?_ ?_ _) | omega | (simp; omega) | (simp; done))))⟩
end
end Go.Proofs.YtekjnagojphmkaaDoor
