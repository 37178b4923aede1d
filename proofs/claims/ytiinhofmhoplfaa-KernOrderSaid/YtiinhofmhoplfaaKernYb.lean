/- KernOrder: the walk. -/
import Derived.Test.YtiinhofmhoplfaaKernJ
import Derived.Test.YtiinhofmhoplfaaKernO
import Derived.Test.YtiinhofmhoplfaaBotN

set_option linter.unusedSimpArgs false
set_option linter.unusedVariables false
set_option maxHeartbeats 40000000
set_option maxRecDepth 100000
namespace Vg
open Go
theorem madeS (m : Nat) : madeCells #[.slice none 0 0] m = ((List.replicate m ((.slice none 0 0, []) : Jp)).map (·.1)).toArray := by
  unfold madeCells
  apply Array.ext'
  simp [List.map_const', Nat.mod_one]
theorem Kn.K0_w (T : List Tk) : (Kn.K0 T).map Kn.wentOf = List.replicate T.length 0 := by
  unfold Kn.K0 kt0
  rw [List.map_map]
  exact List.map_const' ..
theorem DJ.start (T : List Tk) {n : Nat} (hn : T.length = n) : DJ (Kn.K0 T) ((List.replicate n ((.slice none 0 0, []) : Jp)).map (·.2)) := by
  refine ⟨by simp [Kn.K0, hn], fun i h h' => ?_⟩
  simp [Kn.K0, kt0]
end Vg
namespace Go.Proofs.Ytiinhofmhoplfaa
open Go.ChangeShapes Go.WideShapes Go.ChangeAt Go.RowKit
theorem Try.info_dones : (Try.prog.info? 132).map (fun i => (i.zero, i.size, i.bytes)) = some (some (.slice none 0 0), 1, 24) := by kernel_rfl
theorem Try.info_done : (Try.prog.info? 124).map (fun i => (i.zero, i.size, i.bytes)) = some (some (.agg #[.int .i64 0, .int .i64 0, .int .i64 0]), 3, 24) := by kernel_rfl
theorem Try.underlying_doness : Try.prog.underlying 130 = some (.slice 132) := by kernel_rfl
theorem KD.start {w w1 w2 : World} {b n g : Nat} {K : List Vg.Kt} {M : List Vg.Mx} (h : KZ w w1 b K M (fun _ => False)) (hg : w1.heap.size = g) :
    KD w ((w1.alloc (dnrC (List.replicate n (.slice none 0 0, [])))).alloc (intC (List.replicate n 0))) b K M g g (List.replicate n (.slice none 0 0, [])) (g + 1) (List.replicate n 0) [] := by
  have hg1 : Vg.Grows w1 ((w1.alloc (dnrC (List.replicate n (.slice none 0 0, [])))).alloc (intC (List.replicate n 0))) := by (repeat' (first | (with_reducible exact Vg.Grows.refl _) | (with_reducible assumption) | (with_reducible refine Vg.Grows.alloc ?_ _) | (with_reducible refine Vg.Grows.plus ?_ _ _) | (with_reducible refine Vg.Grows.drewN ?_ _) | (with_reducible refine Vg.Grows.drew ?_) | (with_reducible refine Vg.Grows.setCell ?_ ?_ _) | (with_reducible refine Vg.Grows.put ?_ ?_ _) | omega | (simp; omega) | (simp; done)))
  have h0 := h.gr.size
  have hown : ∀ k, jown g (List.replicate n ((.slice none 0 0, []) : Vg.Jp)) k → k = g := fun k hk => by
    rcases hk with hk | ⟨i, hi, hk⟩
    · exact hk
    · simp [Value.ownBlock] at hk
  have hb1 : Vg.blk ((w1.alloc (dnrC (List.replicate n (.slice none 0 0, [])))).alloc (intC (List.replicate n 0))) g = some (dnrC (List.replicate n (.slice none 0 0, []))) := (Vg.alloc_heap_past (by simp; omega)).trans (Vg.alloc_heap_at hg.symm)
  have hb2 : Vg.blk ((w1.alloc (dnrC (List.replicate n (.slice none 0 0, [])))).alloc (intC (List.replicate n 0))) (g + 1) = some (intC (List.replicate n 0)) := Vg.alloc_heap_at (by simp [hg])
  refine ⟨h.other (t := fun _ => False) (Vg.Touch.of_grows hg1) (fun k hk => hk.elim) (h.gr.trans hg1) fun k hk => ?_, ⟨⟨hb1, fun i hi => ?_, fun i j hi hj hij k hk => ?_, fun i hi hk => ?_⟩, hb2, Vg.Has.nil _, fun hh => ?_, fun k hk => (Vg.Dom.nil hk).elim, by omega, Nat.le_refl _, by omega, Vg.lt_of hb1⟩, KDp.dep⟩
  · rcases hk with hk | hk | hk
    · rw [hown k hk]; exact ⟨.inr (by omega), Vg.lt_of hb1⟩
    · rw [hk]; exact ⟨.inr (by omega), Vg.lt_of hb2⟩
    · exact (Vg.Dom.nil hk).elim
  · simp only [List.getElem_replicate]; exact Vg.Que.nil _ _ _ _
  · simp [Value.ownBlock] at hk
  · simp [Value.ownBlock] at hk
  · have := hown _ hh; omega
theorem dnrC_cell {w : World} {g i : Nat} {xs : List Vg.Jp} (h : Vg.blk w g = some (dnrC xs)) (hi : i < xs.length) : w.cell? ⟨g, i, none⟩ = some xs[i].1 := by
  rw [Vg.cells_of h]; simp [hi]
theorem KernOrder_walk (ta : Option Addr) (n tc : Nat) (TD0 : Nat → Nat → Int) (a : Option Addr) (len cap : Nat) (D : Nat → Nat → Int) (w : World) (hrT : Vg.intRows w [.u8, .i64, .i64, .i64, .i64, .i64, .i64, .i64, .i64, .i64] ta n tc TD0) (hr : Vg.intRows w [.i64, .i64, .i64, .i64] a len cap D) :
    Calls Try.prog 12 #[.slice ta n tc, .slice a len cap] w fun e w' => e = .returned (.bool true) ∧ Vg.Grows w w' := by
  obtain ⟨T, hTR, hTl⟩ : ∃ T, Vg.TK w ta tc T ∧ T.length = n := ⟨_, Vg.TK.of_rows hrT, Vg.tksOf_len _ _⟩
  have htc1 : n ≤ tc := hrT.1
  have htc2 : tc ≤ 9223372036854775807 := hrT.2.1
  clear hrT
  have hlen := hr.1
  have hcap : cap ≤ 9223372036854775807 := hr.2.1
  obtain ⟨r, hck⟩ : ∃ r, Vg.Kn.check T = r := ⟨_, rfl⟩
  by_cases hr0 : r = 0
  · subst hr0
    obtain ⟨⟨hn1, hn32⟩, hodd, hnd⟩ := Vg.Kn.check_ok hck
    rw [hTl] at hn1 hn32
    by_cases h60 : 60 < len
    · clear hr
      have H_hTR := Lib.hid hTR; clear hTR; have H_hTl := Lib.hid hTl; clear hTl; have H_hck := Lib.hid hck; clear hck; have H_hodd := Lib.hid hodd; clear hodd; have H_hnd := Lib.hid hnd; clear hnd
      go_enter Try.func12, Try.ntmps12
      go_wp2_with (first | (go_at_call 63; refine (lives14 _).mono ?_; rintro e w1 ⟨rfl, hg1⟩; have HG1 := Lib.hid hg1; clear hg1) | (go_at_call 64; refine (kz_new (w0 := w) HG1.out (H_hTR.out.grows HG1.out) H_hTl.out H_hck.out rfl rfl).mono ?_; rintro e w2 ⟨b, rfl, hz, hg2⟩; have HG2 := Lib.hid hg2; clear hg2; have H_hz := Lib.hid hz; clear hz))
      go_ret
      exact ⟨rfl, HG1.out.trans HG2.out⟩
    · have RH := Lib.hid (fun h => Vg.intRows.open (by decide) hr h)
      clear hr
      have hinv0 := Vg.Kn.inv0 hodd
      have hW0 := Vg.Kn.K0_w T
      rw [hTl] at hW0
      have hJ0 := Vg.DJ.start T hTl
      have hmk : ∀ wx : World, (Instr.makeSlice 130 (.int .i64 n) (.int .i64 n)).run Try.prog wx = .ok (.slice (some ⟨wx.heap.size, 0, none⟩) n n) (wx.alloc (dnrC (List.replicate n (.slice none 0 0, [])))) := fun wx => by
        have := run_make_row' (P := Try.prog) 130 132 (.slice none 0 0) 24 Try.underlying_doness Try.info_dones rfl .i64 .i64 n (by omega) (by omega) wx
        rw [Vg.madeS] at this
        exact this
      have hmk2 : ∀ wx : World, (Instr.makeSlice 46 (.int .i64 n) (.int .i64 n)).run Try.prog wx = .ok (.slice (some ⟨wx.heap.size, 0, none⟩) n n) (wx.alloc (intC (List.replicate n 0))) := fun wx => by
        have := run_make_row' (P := Try.prog) 46 2 (.int .i64 0) 8 Try.underlying46 Try.info_i64 rfl .i64 .i64 n (by omega) (by omega) wx
        rw [Vg.madeI] at this
        exact this
      have H_hTR := Lib.hid hTR; clear hTR; have H_hTl := Lib.hid hTl; clear hTl; have H_hck := Lib.hid hck; clear hck; have H_hodd := Lib.hid hodd; clear hodd; have H_hnd := Lib.hid hnd; clear hnd; have H_hinv0 := Lib.hid hinv0; clear hinv0; have H_hW0 := Lib.hid hW0; clear hW0; have H_hJ0 := Lib.hid hJ0; clear hJ0
      go_enter Try.func12, Try.ntmps12
      go_wp2_with (first | (go_at_call 63; refine (lives14 _).mono ?_; rintro e w1 ⟨rfl, hg1⟩; have HG1 := Lib.hid hg1; clear hg1) | (go_at_call 64; refine (kz_new (w0 := w) HG1.out (H_hTR.out.grows HG1.out) H_hTl.out H_hck.out rfl rfl).mono ?_; rintro e w2 ⟨b, rfl, hz, hg2⟩; have HG2 := Lib.hid hg2; clear hg2; have H_hz := Lib.hid hz; clear hz))
      obtain ⟨g, hg⟩ : ∃ g, w2.heap.size = g := ⟨_, rfl⟩
      have hkd := KD.start (n := n) (w2 := w2) H_hz.out hg
      obtain ⟨W0, hWz⟩ : ∃ W0, (w2.alloc (dnrC (List.replicate n (.slice none 0 0, [])))).alloc (intC (List.replicate n 0)) = W0 := ⟨_, rfl⟩
      rw [hWz] at hkd
      simp only [hg]
      rw [hWz]
      clear hmk hmk2
      have H_hg := Lib.hid hg; clear hg; have H_hWz := Lib.hid hWz; clear hWz; have H_hkd := Lib.hid hkd; clear hkd
      go_loopw [49] (fun i wr => ∃ (q : Nat) (K : List Vg.Kt) (M : List Vg.Mx) (xs : List Vg.Jp) (g2 : Nat), q ≤ len ∧ i = .int .i64 q ∧ g2 = g + 1 ∧ KD w wr b K M g g xs g2 (K.map Vg.Kn.wentOf) [] ∧ Vg.Kn.Inv q K ∧ Vg.DJ K (xs.map (·.2)) ∧ xs.length = n) (fun i _ => len - (intOf i).toNat)
      case atStart => exact ⟨0, _, _, _, _, by omega, rfl, rfl, by rw [H_hW0.out]; exact H_hkd.out, H_hinv0.out, H_hJ0.out, by simp⟩
      case round =>
        obtain ⟨q, K, M, xs, g2, hq, rfl, hg2, hkd, hinv, hdj, hxl⟩ := hrel
        subst hg2
        by_cases hlt : q < len
        · obtain ⟨ba, off, rfl, hba, hcx⟩ := RH.out (by omega)
          have hc0 := hcx q hlt 0 (by decide)
          have hc1 := hcx q hlt 1 (by decide)
          have hc2 := hcx q hlt 2 (by decide)
          have hc3 := hcx q hlt 3 (by decide)
          generalize D q 0 = kd at hc0
          generalize D q 1 = t at hc1
          generalize D q 2 = c at hc2
          generalize D q 3 = at_ at hc3
          simp only [List.length_cons, List.length_nil, Nat.zero_add, List.getElem_cons_zero, List.getElem_cons_succ] at hc0 hc1 hc2 hc3
          have hgr := hkd.gr
          have hc0 := (hgr.below.cell (p := ⟨ba, off + q * 4, none⟩) hba).trans hc0.1
          have hc1 := (hgr.below.cell (p := ⟨ba, off + q * 4 + 1, none⟩) hba).trans hc1.1
          have hc2 := (hgr.below.cell (p := ⟨ba, off + q * 4 + 2, none⟩) hba).trans hc2.1
          have hc3 := (hgr.below.cell (p := ⟨ba, off + q * 4 + 3, none⟩) hba).trans hc3.1
          have hbar : ba < wr.heap.size := Nat.lt_of_lt_of_le hba hgr.size
          have hKl : K.length = n := by have := hdj.1; rw [List.length_map] at this; omega
          clear hcx
          have H_hkd := Lib.hid hkd; clear hkd; have H_hinv := Lib.hid hinv; clear hinv; have H_hdj := Lib.hid hdj; clear hdj; have H_hgr := Lib.hid hgr; clear hgr; have H_hKl := Lib.hid hKl; clear hKl
          go_upto_region 11 with (fail)
          obtain ⟨bx, hbx⟩ : ∃ bx, wr.heap.size = bx := ⟨_, rfl⟩
          obtain ⟨wx, hwx⟩ : ∃ wx, wr.alloc (act14 kd t c at_) = wx := ⟨_, rfl⟩
          have x2 : Vg.blk wx bx = some (act14 kd t c at_) := by rw [← hwx, ← hbx]; exact Vg.alloc_heap_at rfl
          have hkx := KD.new H_hkd.out (w' := wx) (by rw [← hwx]; (repeat' (first | (with_reducible exact Vg.Grows.refl _) | (with_reducible assumption) | (with_reducible refine Vg.Grows.alloc ?_ _) | (with_reducible refine Vg.Grows.plus ?_ _ _) | (with_reducible refine Vg.Grows.drewN ?_ _) | (with_reducible refine Vg.Grows.drew ?_) | (with_reducible refine Vg.Grows.setCell ?_ ?_ _) | (with_reducible refine Vg.Grows.put ?_ ?_ _) | omega | (simp; omega) | (simp; done)))) x2 (by omega)
          have hgb := (hkx.p.d2 bx Vg.Dom.here).1
          have hgb2 := (hkx.p.d2 bx Vg.Dom.here).2
          have hgb1 : g ≠ bx := fun hh => hgb (.inl hh.symm)
          simp only [hbx]
          rw [hwx]
          clear hc0 hc1 hc2 hc3
          have c_x2 := Vg.cells_of x2; have f_x2 := Vg.frozen_of x2; have p_x2 := Vg.setCell_of x2; have l_x2 := Vg.lt_of x2; have H_x2 := Lib.hid x2; clear x2
          have H_hkx := Lib.hid hkx; clear hkx; have H_hwx := Lib.hid hwx; clear hwx; have H_hbx := Lib.hid hbx; clear hbx; have H_hgb := Lib.hid hgb; clear hgb
          by_cases h0 : kd = 0
          · subst h0
            rcases Vg.Kn.release_cases H_hdj.out t c at_ with ⟨r, hre, hrz, hdj', hwe⟩ | ⟨i, hi, hj, rfl, hre, hdj', hwe⟩
            · have hrb : (r == 0) = false := by simp [hrz]
              have hi2 := H_hinv.out.release t c at_
              obtain ⟨K', hK'⟩ : ∃ K', (Vg.Kn.release K t c at_).1 = K' := ⟨_, rfl⟩
              rw [hK'] at hre hdj' hwe hi2
              have H_hre := Lib.hid hre; clear hre; have H_hdj' := Lib.hid hdj'; clear hdj'; have H_hwe := Lib.hid hwe; clear hwe; have H_hi2 := Lib.hid hi2; clear hi2; have H_hK' := Lib.hid hK'; clear hK'
              go_wp2_with ((go_at_call 81; (with_reducible refine (kx_release t c at_ (H_hkx.out.grows (by (repeat' (first | (with_reducible exact Vg.Grows.refl _) | (with_reducible assumption) | (with_reducible refine Vg.Grows.alloc ?_ _) | (with_reducible refine Vg.Grows.plus ?_ _ _) | (with_reducible refine Vg.Grows.drewN ?_ _) | (with_reducible refine Vg.Grows.drew ?_) | (with_reducible refine Vg.Grows.setCell ?_ ?_ _) | (with_reducible refine Vg.Grows.put ?_ ?_ _) | omega | (simp; omega) | (simp; done))))) H_hinv.out (by omega) H_hre.out).mono ?_); rintro e w3 ⟨rfl, hx3⟩; have H_hx3 := Lib.hid hx3; clear hx3))
              exact ⟨⟨q + 1, K', M, xs, g + 1, by omega, by go_num, rfl, by rw [H_hwe.out]; exact KD.sub H_hx3.out (by simp), H_hi2.out, H_hdj'.out, hxl⟩, by simp [intOf]; omega⟩
            · have hi2 := H_hinv.out.release i c at_
              obtain ⟨K', hK'⟩ : ∃ K', (Vg.Kn.release K i c at_).1 = K' := ⟨_, rfl⟩
              rw [hK'] at hre hdj' hwe hi2
              have hix : i < xs.length := by simpa using hj
              have hin : i < n := by omega
              obtain ⟨u, L, hxi⟩ : ∃ u L, xs[i] = (u, L) := ⟨_, _, rfl⟩
              have hLe : (xs.map (·.2))[i] = L := by rw [List.getElem_map, hxi]
              rw [hLe] at hdj'
              have H_hre := Lib.hid hre; clear hre; have H_hdj' := Lib.hid hdj'; clear hdj'; have H_hwe := Lib.hid hwe; clear hwe; have H_hi2 := Lib.hid hi2; clear hi2; have H_hK' := Lib.hid hK'; clear hK'; have H_hxi := Lib.hid hxi; clear hxi; have H_hLe := Lib.hid hLe; clear hLe
              have hL16 : L.length ≤ 16 := by
                have e := H_hdj.out.2 i hi hj
                rw [H_hLe.out] at e
                have g := H_hinv.out _ (List.getElem_mem hi)
                have g1 := g.len
                have gg2 := g.t.2.1.2
                rw [e, List.length_map]
                omega
              obtain ⟨i0, hI, hz0, hz1, hz2⟩ := info_parts Try.info_done
              go_upto_region 15 with ((go_at_call 81; (with_reducible refine (kx_release i c at_ (H_hkx.out.grows (by (repeat' (first | (with_reducible exact Vg.Grows.refl _) | (with_reducible assumption) | (with_reducible refine Vg.Grows.alloc ?_ _) | (with_reducible refine Vg.Grows.plus ?_ _ _) | (with_reducible refine Vg.Grows.drewN ?_ _) | (with_reducible refine Vg.Grows.drew ?_) | (with_reducible refine Vg.Grows.setCell ?_ ?_ _) | (with_reducible refine Vg.Grows.put ?_ ?_ _) | omega | (simp; omega) | (simp; done))))) H_hinv.out (by omega) H_hre.out).mono ?_); rintro e w3 ⟨rfl, hx3⟩; have z1 := hx3.p.has (bx, act14 0 i c at_) List.mem_cons_self; have c_z1 := Vg.cells_of z1; have f_z1 := Vg.frozen_of z1; have p_z1 := Vg.setCell_of z1; have l_z1 := Vg.lt_of z1; have H_z1 := Lib.hid z1; clear z1; have H_hx3 := Lib.hid hx3; clear hx3))
              have zr := H_hx3.out.p.jt.row
              have c_r := dnrC_cell zr hix
              have f_r := Vg.frozen_of zr i
              have l_r := Vg.lt_of zr
              have hp := H_hx3.out.p.jt.job i hix
              have hog : ∀ k, u.ownBlock = some k → k ≠ g ∧ k ≠ bx := fun k hk => ⟨fun hh => H_hx3.out.p.jt.off i hix (by rw [H_hxi.out, ← hh]; exact hk), fun hh => (H_hx3.out.p.d2 bx Vg.Dom.here).1 (.inr ⟨i, hix, by rw [H_hxi.out, ← hh]; exact hk⟩)⟩
              rw [H_hxi.out] at c_r hp
              simp only [] at c_r hp
              obtain ⟨N, hN⟩ : ∃ N, L.length = N := ⟨_, rfl⟩
              rw [hN] at hp hL16
              obtain ⟨ua, uc, rfl⟩ := hp.shape
              have hgw3 : g ≤ w3.heap.size := by omega
              have H_zr := Lib.hid zr; clear zr; have H_hp := Lib.hid hp; clear hp; have H_hog := Lib.hid hog; clear hog; have H_hN := Lib.hid hN; clear hN
              go_cut [] (fun wz => ∃ xs' : List Vg.Jp, KD w wz b K' M g g xs' (g + 1) (K.map Vg.Kn.wentOf) [] ∧ xs'.map (·.2) = (xs.map (·.2)).set i (L ++ [⟨i, c, at_⟩]) ∧ xs'.length = n)
              case first =>
                refine wp_region_held_drew (S := fun w' => bx < w'.heap.size ∧ w'.cell? ⟨bx, 1, none⟩ = some (.int .i64 i) ∧ w'.cell? ⟨bx, 2, none⟩ = some (.int .i64 c) ∧ w'.cell? ⟨bx, 3, none⟩ = some (.int .i64 at_)) (by kernel_rfl) (by go_split_ands <;> (try dsimp only) <;> go_simp) (fun hHeld => ?_)
                refine wpAnyH_take (i := 0) (oi := _) (v := ?v0) rfl (by kernel_rfl) (by kernel_rfl) (by kernel_rfl) (fun _ _ _ h => h) (Or.inl ⟨by rfl, ?hy0⟩) (by assumption) ?rest0
                case hy0 => (intro w hSw; (try dsimp only at hSw); go_simp; first | done | with_reducible rfl)
                (try simp only [Act.put, List.setIfInBounds_toArray, List.set_cons_zero, List.set_cons_succ])
                refine wpAnyH_take (i := 1) (oi := _) (v := ?v1) rfl (by kernel_rfl) (by kernel_rfl) (by kernel_rfl) (fun _ _ _ h => h) (Or.inl ⟨by rfl, ?hy1⟩) (by assumption) ?rest1
                case hy1 => (intro w hSw; (try dsimp only at hSw); go_simp; first | done | with_reducible rfl)
                (try simp only [Act.put, List.setIfInBounds_toArray, List.set_cons_zero, List.set_cons_succ])
                refine wpAnyH_take (i := 2) (oi := _) (v := ?v2) rfl (by kernel_rfl) (by kernel_rfl) (by kernel_rfl) (fun _ _ _ h => h) (Or.inl ⟨by rfl, ?hy2⟩) (by assumption) ?rest2
                case hy2 => (intro w hSw; (try dsimp only at hSw); go_simp; first | done | with_reducible rfl)
                (try simp only [Act.put, List.setIfInBounds_toArray, List.set_cons_zero, List.set_cons_succ])
                refine wpAnyH_take (i := 3) (oi := _) (v := ?v3) rfl (by kernel_rfl) (by kernel_rfl) (by kernel_rfl) (fun _ _ _ h => h) (Or.inl ⟨by rfl, ?hy3⟩) (by assumption) ?rest3
                case hy3 => (intro w hSw; (try dsimp only at hSw); go_simp; first | done | with_reducible rfl)
                (try simp only [Act.put, List.setIfInBounds_toArray, List.set_cons_zero, List.set_cons_succ])
                refine wpAnyH_take (i := 4) (oi := _) (v := ?v4) rfl (by kernel_rfl) (by kernel_rfl) (by kernel_rfl) (fun _ _ _ h => h) (Or.inl ⟨by rfl, ?hy4⟩) (by assumption) ?rest4
                case hy4 => (intro w hSw; (try dsimp only at hSw); go_simp; first | done | with_reducible rfl)
                (try simp only [Act.put, List.setIfInBounds_toArray, List.set_cons_zero, List.set_cons_succ])
                refine wpAnyH_take (i := 5) (oi := _) (v := ?v5) rfl (by kernel_rfl) (by kernel_rfl) (by kernel_rfl) (fun _ _ _ h => h) (Or.inl ⟨by rfl, ?hy5⟩) (by assumption) ?rest5
                case hy5 => (intro w hSw; (try dsimp only at hSw); go_simp; first | done | with_reducible rfl)
                (try simp only [Act.put, List.setIfInBounds_toArray, List.set_cons_zero, List.set_cons_succ])
                refine wpAnyH_take (i := 6) (oi := _) (v := ?v6) rfl (by kernel_rfl) (by kernel_rfl) (by kernel_rfl) (fun _ _ _ h => h) (Or.inl ⟨by rfl, ?hy6⟩) (by assumption) ?rest6
                case hy6 => (intro w hSw; (try dsimp only at hSw); go_simp; first | done | with_reducible rfl)
                (try simp only [Act.put, List.setIfInBounds_toArray, List.set_cons_zero, List.set_cons_succ])
                refine wpAnyH_take (i := 8) (oi := _) (v := ?v8) rfl (by kernel_rfl) (by kernel_rfl) (by kernel_rfl) (fun _ _ _ h => h) (Or.inl ⟨by rfl, ?hy8⟩) (by assumption) ?rest8
                case hy8 => (intro w hSw; (try dsimp only at hSw); go_simp; first | done | with_reducible rfl)
                (try simp only [Act.put, List.setIfInBounds_toArray, List.set_cons_zero, List.set_cons_succ])
                refine wpAnyH_take (i := 9) (oi := _) (v := ?v9) rfl (by kernel_rfl) (by kernel_rfl) (by kernel_rfl) (fun _ _ _ h => h) (Or.inl ⟨by rfl, ?hy9⟩) (by assumption) ?rest9
                case hy9 => (intro w hSw; (try dsimp only at hSw); go_simp; first | done | with_reducible rfl)
                (try simp only [Act.put, List.setIfInBounds_toArray, List.set_cons_zero, List.set_cons_succ])
                refine wpAnyH_take (i := 10) (oi := _) (v := ?v10) rfl (by kernel_rfl) (by kernel_rfl) (by kernel_rfl) (fun _ _ _ h => h) (Or.inl ⟨by rfl, ?hy10⟩) (by assumption) ?rest10
                case hy10 => (intro w hSw; (try dsimp only at hSw); go_simp; first | done | with_reducible rfl)
                (try simp only [Act.put, List.setIfInBounds_toArray, List.set_cons_zero, List.set_cons_succ])
                refine wpAnyH_take (i := 11) (oi := _) (v := ?v11) rfl (by kernel_rfl) (by kernel_rfl) (by kernel_rfl) (fun _ _ _ h => h) (Or.inl ⟨by rfl, ?hy11⟩) (by assumption) ?rest11
                case hy11 => (intro w hSw; (try dsimp only at hSw); go_simp; first | done | with_reducible rfl)
                (try simp only [Act.put, List.setIfInBounds_toArray, List.set_cons_zero, List.set_cons_succ])
                refine wpAnyH_take (i := 12) (oi := _) (v := ?v12) rfl (by kernel_rfl) (by kernel_rfl) (by kernel_rfl) (fun _ _ _ h => h) (Or.inl ⟨by rfl, ?hy12⟩) (by assumption) ?rest12
                case hy12 => (intro w hSw; (try dsimp only at hSw); go_simp; first | done | with_reducible rfl)
                (try simp only [Act.put, List.setIfInBounds_toArray, List.set_cons_zero, List.set_cons_succ])
                refine wpAnyH_take (i := 13) (oi := _) (v := ?v13) rfl (by kernel_rfl) (by kernel_rfl) (by kernel_rfl) (fun _ _ _ h => h) (Or.inl ⟨by rfl, ?hy13⟩) (by assumption) ?rest13
                case hy13 => (intro w hSw; (try dsimp only at hSw); go_simp; first | done | with_reducible rfl)
                (try simp only [Act.put, List.setIfInBounds_toArray, List.set_cons_zero, List.set_cons_succ])
                refine wpAnyH_take (i := 14) (oi := _) (v := ?v14) rfl (by kernel_rfl) (by kernel_rfl) (by kernel_rfl) (fun _ _ _ h => h) (Or.inl ⟨by rfl, ?hy14⟩) (by assumption) ?rest14
                case hy14 => (intro w hSw; (try dsimp only at hSw); go_simp; first | done | with_reducible rfl)
                (try simp only [Act.put, List.setIfInBounds_toArray, List.set_cons_zero, List.set_cons_succ])
                refine wpAnyH_ready (rs := [7, 15]) (by kernel_rfl) (by simp) ?_
                refine AllReadyH.cons (o := _) rfl (fun K hK => ?st1) ?mo1
                case st1 =>
                  go_simp
                  refine hK.out _ _ (by go_split_ands <;> (try dsimp only) <;> go_simp) (fun hHeld1 => ?_)
                  clear hK K
                  (try simp only [Act.put, List.setIfInBounds_toArray, List.set_cons_zero, List.set_cons_succ])
                  refine wpAnyH_ready (rs := [15]) (by kernel_rfl) (by simp) ?_
                  refine AllReadyH.cons (o := _) rfl (fun K hK => ?st2) ?mo2
                  case st2 =>
                    go_simp
                    refine hK.out _ _ (by go_split_ands <;> (try dsimp only) <;> go_simp) (fun hHeld2 => ?_)
                    clear hK K
                    (try simp only [Act.put, List.setIfInBounds_toArray, List.set_cons_zero, List.set_cons_succ])
                    refine wpAnyH_ready (rs := [16]) (by kernel_rfl) (by simp) ?_
                    refine AllReadyH.cons (o := _) rfl (fun K hK => ?st3) ?mo3
                    case st3 =>
                      refine Vg.step_que1 rfl (.tmp 82) (.tmp 90) 132 rfl g 124 i0 (.agg #[.int .i64 0, .int .i64 0, .int .i64 0]) 3 24 Try.underlying132 hI hz0 hz1 hz2 rfl (by decide) (.slice ua N uc) N (Vg.jcells L) (by simp [Act.eval, Act.put]) (H_hp.out.grows (by (repeat' (first | (with_reducible exact Vg.Grows.refl _) | (with_reducible assumption) | (with_reducible refine Vg.Grows.alloc ?_ _) | (with_reducible refine Vg.Grows.plus ?_ _ _) | (with_reducible refine Vg.Grows.drewN ?_ _) | (with_reducible refine Vg.Grows.drew ?_) | (with_reducible refine Vg.Grows.setCell ?_ ?_ _) | (with_reducible refine Vg.Grows.put ?_ ?_ _) | omega | (simp; omega) | (simp; done))))) ⟨w3.heap.size, 0, none⟩ 1 [.int .i64 i, .int .i64 c, .int .i64 at_] (by simp [Act.eval, Act.put]) rfl (Vg.three_new (by first | rfl | ((try simp only [World.size_alloc, Vg.plus_size, Vg.put_size, World.size_setCell, World.size_drew, World.heap_drewN]) <;> omega))) (by simp [Value.oneCell']) (by unfold maxLen; omega) (by omega) (by decide) (by simp only [World.size_alloc, World.heap_drewN, World.size_drew]; omega) ?_
                      (intro v2 W1 y2 m2 hq2 hs2 ho2; obtain ⟨a2, c2, rfl⟩ := hq2.shape; have ht2 := (Vg.Touch.trans (Vg.Touch.of_grows (w := w3) (by (repeat' (first | (with_reducible exact Vg.Grows.refl _) | (with_reducible assumption) | (with_reducible refine Vg.Grows.alloc ?_ _) | (with_reducible refine Vg.Grows.plus ?_ _ _) | (with_reducible refine Vg.Grows.drewN ?_ _) | (with_reducible refine Vg.Grows.drew ?_) | (with_reducible refine Vg.Grows.setCell ?_ ?_ _) | (with_reducible refine Vg.Grows.put ?_ ?_ _) | omega | (simp; omega) | (simp; done))))) (Vg.Touch.of_same hs2)).trans (Vg.Touch.of_grows ((Vg.Grows.refl W1).plus y2 m2)); obtain ⟨W2, hW2⟩ : ∃ W2, Vg.plus W1 y2 m2 = W2 := ⟨_, rfl⟩; rw [hW2] at hq2 ht2 ⊢; have zr2 := ht2.bk H_zr.out (fun hh => (H_hog.out g hh).1 rfl); have z2 := ht2.bk H_z1.out (fun hh => (H_hog.out bx hh).2 rfl); have c_r2 := dnrC_cell zr2 hix; rw [H_hxi.out] at c_r2; have f_r2 := Vg.frozen_of zr2 i; have l_r2 := Vg.lt_of zr2; have hq3 : Vg.Que W2 g 124 3 (.slice a2 (N + 1) c2) (L ++ [(⟨i, c, at_⟩ : Vg.Jb)]).length (Vg.jcells (L ++ [(⟨i, c, at_⟩ : Vg.Jb)])) := (by rw [Vg.jcells_append, List.length_append, H_hN.out]; exact hq2); have ho3 : ∀ k, (Value.slice a2 (N + 1) c2).ownBlock = some k → (Value.slice ua N uc).ownBlock = some k ∨ w3.heap.size ≤ k := (fun k hk => by
                      rcases ho2 with h1 | h1
                      · exact .inl (h1.symm.trans hk)
                      · refine .inr ?_
                        have : some k = some _ := hk.symm.trans h1
                        simp only [Option.some.injEq, World.size_alloc, World.heap_drewN, World.size_drew] at this
                        omega); clear c_z1 f_z1 p_z1; have c_z2 := Vg.cells_of z2; have f_z2 := Vg.frozen_of z2; have p_z2 := Vg.setCell_of z2; have l_z2 := Vg.lt_of z2; have H_z2 := Lib.hid z2; clear z2; have H_hq2 := Lib.hid hq2; clear hq2; have H_hs2 := Lib.hid hs2; clear hs2; have H_ho2 := Lib.hid ho2; clear ho2; have H_ht2 := Lib.hid ht2; clear ht2; have H_zr2 := Lib.hid zr2; clear zr2; have H_hW2 := Lib.hid hW2; clear hW2; have H_hq3 := Lib.hid hq3; clear hq3; have H_ho3 := Lib.hid ho3; clear ho3)
                      refine hK.out _ _ (by go_split_ands <;> (try dsimp only) <;> go_simp) (fun hHeld3 => ?_)
                      clear hK K
                      (try simp only [Act.put, List.setIfInBounds_toArray, List.set_cons_zero, List.set_cons_succ])
                      refine wpAnyH_ready (rs := [17]) (by kernel_rfl) (by simp) ?_
                      refine AllReadyH.cons (o := _) rfl (fun K hK => ?st4) ?mo4
                      case st4 =>
                        go_simp
                        refine hK.out _ _ (by go_split_ands <;> (try dsimp only) <;> go_simp) (fun hHeld4 => ?_)
                        clear hK K
                        (try simp only [Act.put, List.setIfInBounds_toArray, List.set_cons_zero, List.set_cons_succ])
                        refine wpAnyH_ready (rs := [18]) (by kernel_rfl) (by simp) ?_
                        refine AllReadyH.cons (o := _) rfl (fun K hK => ?st5) ?mo5
                        case st5 =>
                          go_simp
                          refine hK.out _ _ (by go_split_ands <;> (try dsimp only) <;> go_simp) (fun hHeld5 => ?_)
                          clear hK K
                          (try simp only [Act.put, List.setIfInBounds_toArray, List.set_cons_zero, List.set_cons_succ])
                          refine wpAnyH_done (by kernel_rfl) ?_ _
                          go_wp2_with fail
                          go_meet
                          exact ⟨xs.set i (.slice a2 (N + 1) c2, L ++ [⟨i, c, at_⟩]), KD.sub (KD.row hix H_hx3.out H_hxi.out H_ht2.out H_hq3.out H_ho3.out) (by simp), by rw [List.map_set], by rw [List.length_set]; exact hxl⟩
                        exact AllReadyH.nil
                      exact AllReadyH.nil
                    exact AllReadyH.nil
                  exact AllReadyH.nil
                refine AllReadyH.cons (o := _) rfl (fun K hK => ?st6) ?mo6
                case st6 =>
                  go_simp
                  refine hK.out _ _ (by go_split_ands <;> (try dsimp only) <;> go_simp) (fun hHeld6 => ?_)
                  clear hK K
                  (try simp only [Act.put, List.setIfInBounds_toArray, List.set_cons_zero, List.set_cons_succ])
                  refine wpAnyH_ready (rs := [7]) (by kernel_rfl) (by simp) ?_
                  refine AllReadyH.cons (o := _) rfl (fun K hK => ?st7) ?mo7
                  case st7 =>
                    go_simp
                    refine hK.out _ _ (by go_split_ands <;> (try dsimp only) <;> go_simp) (fun hHeld7 => ?_)
                    clear hK K
                    (try simp only [Act.put, List.setIfInBounds_toArray, List.set_cons_zero, List.set_cons_succ])
                    refine wpAnyH_ready (rs := [16]) (by kernel_rfl) (by simp) ?_
                    refine AllReadyH.cons (o := _) rfl (fun K hK => ?st8) ?mo8
                    case st8 =>
                      refine Vg.step_que1 rfl (.tmp 82) (.tmp 90) 132 rfl g 124 i0 (.agg #[.int .i64 0, .int .i64 0, .int .i64 0]) 3 24 Try.underlying132 hI hz0 hz1 hz2 rfl (by decide) (.slice ua N uc) N (Vg.jcells L) (by simp [Act.eval, Act.put]) (H_hp.out.grows (by (repeat' (first | (with_reducible exact Vg.Grows.refl _) | (with_reducible assumption) | (with_reducible refine Vg.Grows.alloc ?_ _) | (with_reducible refine Vg.Grows.plus ?_ _ _) | (with_reducible refine Vg.Grows.drewN ?_ _) | (with_reducible refine Vg.Grows.drew ?_) | (with_reducible refine Vg.Grows.setCell ?_ ?_ _) | (with_reducible refine Vg.Grows.put ?_ ?_ _) | omega | (simp; omega) | (simp; done))))) ⟨w3.heap.size, 0, none⟩ 1 [.int .i64 i, .int .i64 c, .int .i64 at_] (by simp [Act.eval, Act.put]) rfl (Vg.three_new (by first | rfl | ((try simp only [World.size_alloc, Vg.plus_size, Vg.put_size, World.size_setCell, World.size_drew, World.heap_drewN]) <;> omega))) (by simp [Value.oneCell']) (by unfold maxLen; omega) (by omega) (by decide) (by simp only [World.size_alloc, World.heap_drewN, World.size_drew]; omega) ?_
                      (intro v2 W1 y2 m2 hq2 hs2 ho2; obtain ⟨a2, c2, rfl⟩ := hq2.shape; have ht2 := (Vg.Touch.trans (Vg.Touch.of_grows (w := w3) (by (repeat' (first | (with_reducible exact Vg.Grows.refl _) | (with_reducible assumption) | (with_reducible refine Vg.Grows.alloc ?_ _) | (with_reducible refine Vg.Grows.plus ?_ _ _) | (with_reducible refine Vg.Grows.drewN ?_ _) | (with_reducible refine Vg.Grows.drew ?_) | (with_reducible refine Vg.Grows.setCell ?_ ?_ _) | (with_reducible refine Vg.Grows.put ?_ ?_ _) | omega | (simp; omega) | (simp; done))))) (Vg.Touch.of_same hs2)).trans (Vg.Touch.of_grows ((Vg.Grows.refl W1).plus y2 m2)); obtain ⟨W2, hW2⟩ : ∃ W2, Vg.plus W1 y2 m2 = W2 := ⟨_, rfl⟩; rw [hW2] at hq2 ht2 ⊢; have zr2 := ht2.bk H_zr.out (fun hh => (H_hog.out g hh).1 rfl); have z2 := ht2.bk H_z1.out (fun hh => (H_hog.out bx hh).2 rfl); have c_r2 := dnrC_cell zr2 hix; rw [H_hxi.out] at c_r2; have f_r2 := Vg.frozen_of zr2 i; have l_r2 := Vg.lt_of zr2; have hq3 : Vg.Que W2 g 124 3 (.slice a2 (N + 1) c2) (L ++ [(⟨i, c, at_⟩ : Vg.Jb)]).length (Vg.jcells (L ++ [(⟨i, c, at_⟩ : Vg.Jb)])) := (by rw [Vg.jcells_append, List.length_append, H_hN.out]; exact hq2); have ho3 : ∀ k, (Value.slice a2 (N + 1) c2).ownBlock = some k → (Value.slice ua N uc).ownBlock = some k ∨ w3.heap.size ≤ k := (fun k hk => by
                      rcases ho2 with h1 | h1
                      · exact .inl (h1.symm.trans hk)
                      · refine .inr ?_
                        have : some k = some _ := hk.symm.trans h1
                        simp only [Option.some.injEq, World.size_alloc, World.heap_drewN, World.size_drew] at this
                        omega); clear c_z1 f_z1 p_z1; have c_z2 := Vg.cells_of z2; have f_z2 := Vg.frozen_of z2; have p_z2 := Vg.setCell_of z2; have l_z2 := Vg.lt_of z2; have H_z2 := Lib.hid z2; clear z2; have H_hq2 := Lib.hid hq2; clear hq2; have H_hs2 := Lib.hid hs2; clear hs2; have H_ho2 := Lib.hid ho2; clear ho2; have H_ht2 := Lib.hid ht2; clear ht2; have H_zr2 := Lib.hid zr2; clear zr2; have H_hW2 := Lib.hid hW2; clear hW2; have H_hq3 := Lib.hid hq3; clear hq3; have H_ho3 := Lib.hid ho3; clear ho3)
                      refine hK.out _ _ (by go_split_ands <;> (try dsimp only) <;> go_simp) (fun hHeld8 => ?_)
                      clear hK K
                      (try simp only [Act.put, List.setIfInBounds_toArray, List.set_cons_zero, List.set_cons_succ])
                      refine wpAnyH_ready (rs := [17]) (by kernel_rfl) (by simp) ?_
                      refine AllReadyH.cons (o := _) rfl (fun K hK => ?st9) ?mo9
                      case st9 =>
                        go_simp
                        refine hK.out _ _ (by go_split_ands <;> (try dsimp only) <;> go_simp) (fun hHeld9 => ?_)
                        clear hK K
                        (try simp only [Act.put, List.setIfInBounds_toArray, List.set_cons_zero, List.set_cons_succ])
                        refine wpAnyH_ready (rs := [18]) (by kernel_rfl) (by simp) ?_
                        refine AllReadyH.cons (o := _) rfl (fun K hK => ?st10) ?mo10
                        case st10 =>
                          go_simp
                          refine hK.out _ _ (by go_split_ands <;> (try dsimp only) <;> go_simp) (fun hHeld10 => ?_)
                          clear hK K
                          (try simp only [Act.put, List.setIfInBounds_toArray, List.set_cons_zero, List.set_cons_succ])
                          refine wpAnyH_done (by kernel_rfl) ?_ _
                          go_wp2_with fail
                          go_meet
                          exact ⟨xs.set i (.slice a2 (N + 1) c2, L ++ [⟨i, c, at_⟩]), KD.sub (KD.row hix H_hx3.out H_hxi.out H_ht2.out H_hq3.out H_ho3.out) (by simp), by rw [List.map_set], by rw [List.length_set]; exact hxl⟩
                        exact AllReadyH.nil
                      exact AllReadyH.nil
                    exact AllReadyH.nil
                  exact AllReadyH.nil
                exact AllReadyH.nil
              case rest =>
                obtain ⟨xs', hkd2, hm2, hl2⟩ := hcut
                clear c_z1 f_z1 p_z1
                clear c_r f_r l_r
                have H_hkd2 := Lib.hid hkd2; clear hkd2; have H_hm2 := Lib.hid hm2; clear hm2
                go_wp2_with fail
                exact ⟨⟨q + 1, K', M, xs', g + 1, by omega, by go_num, rfl, by rw [H_hwe.out]; exact H_hkd2.out, H_hi2.out, by rw [H_hm2.out]; exact H_hdj'.out, hl2⟩, by simp [intOf]; omega⟩
          · have hk0 : (kd == 0) = false := by simp [h0]
            obtain ⟨r, m, is, hb1, hb2, hb3, hable, hisf⟩ := Vg.Kn.pick_facts M H_hinv.out
            obtain ⟨lf, hlf⟩ : ∃ lf, Vg.Kn.left K M = lf := ⟨_, rfl⟩
            have hlb := Vg.Kn.left_nonneg H_hinv.out M
            rw [hlf] at hlb
            obtain ⟨hl0, hl1⟩ := hlb
            obtain ⟨qf, hqf⟩ : ∃ qf, Vg.Kn.far K M c = qf := ⟨_, rfl⟩
            have hqm : min (max c 0) lf = qf := by rw [← hqf, ← hlf]; rfl
            have H_hb1 := Lib.hid hb1; clear hb1; have H_hb2 := Lib.hid hb2; clear hb2; have H_hb3 := Lib.hid hb3; clear hb3; have H_hable := Lib.hid hable; clear hable; have H_hisf := Lib.hid hisf; clear hisf; have H_hlf := Lib.hid hlf; clear hlf; have H_hqf := Lib.hid hqf; clear hqf; have H_hqm := Lib.hid hqm; clear hqm
            go_upto_region 17 with ((go_at_call 67; (with_reducible refine (kx_pick (H_hkx.out.grows (by (repeat' (first | (with_reducible exact Vg.Grows.refl _) | (with_reducible assumption) | (with_reducible refine Vg.Grows.alloc ?_ _) | (with_reducible refine Vg.Grows.plus ?_ _ _) | (with_reducible refine Vg.Grows.drewN ?_ _) | (with_reducible refine Vg.Grows.drew ?_) | (with_reducible refine Vg.Grows.setCell ?_ ?_ _) | (with_reducible refine Vg.Grows.put ?_ ?_ _) | omega | (simp; omega) | (simp; done))))) H_hb1.out H_hb2.out H_hb3.out).mono ?_); rintro e w4 ⟨rfl, hx4⟩; have z4 := hx4.p.has (bx, act14 kd t c at_) List.mem_cons_self; have c_z4 := Vg.cells_of z4; have f_z4 := Vg.frozen_of z4; have p_z4 := Vg.setCell_of z4; have l_z4 := Vg.lt_of z4; have H_z4 := Lib.hid z4; clear z4; have H_hx4 := Lib.hid hx4; clear hx4))
            go_cut [13] (fun v13 wz => v13 = .int .i64 qf ∧ KD w wz b K M g g xs (g + 1) (K.map Vg.Kn.wentOf) [(bx, act14 kd t c at_)])
            case first =>
              as_aux_lemma =>
                have hcase : (c < 0 ∧ 0 ≤ lf ∧ qf = 0) ∨ (0 ≤ c ∧ c ≤ lf ∧ qf = c) ∨ (0 ≤ c ∧ lf < c ∧ qf = lf) := by have := H_hqm.out; omega
                rcases hcase with ⟨g1, g3, e1⟩ | ⟨g1, g3, e1⟩ | ⟨g1, g3, e1⟩
                all_goals
                  have HC := Lib.hid g1
                  have HL := Lib.hid g3
                  have HE := Lib.hid e1
                  clear e1
                  go_region_held3 (fun w' => bx < w'.heap.size ∧ w'.cell? ⟨bx, 2, none⟩ = some (.int .i64 c))
                    ((go_split_ands; (try dsimp only); go_simp))
                    (first | (go_at_call 69; (with_reducible refine (kx_left (H_hx4.out.grows (by (repeat' (first | (with_reducible exact Vg.Grows.refl _) | (with_reducible assumption) | (with_reducible refine Vg.Grows.alloc ?_ _) | (with_reducible refine Vg.Grows.plus ?_ _ _) | (with_reducible refine Vg.Grows.drewN ?_ _) | (with_reducible refine Vg.Grows.drew ?_) | (with_reducible refine Vg.Grows.setCell ?_ ?_ _) | (with_reducible refine Vg.Grows.put ?_ ?_ _) | omega | (simp; omega) | (simp; done))))) H_hinv.out H_hlf.out).mono ?_); rintro e w5 ⟨rfl, hx5⟩; have z5 := hx5.p.has (bx, act14 kd t c at_) List.mem_cons_self; have c_z5 := Vg.cells_of z5; have f_z5 := Vg.frozen_of z5; have p_z5 := Vg.setCell_of z5; have l_z5 := Vg.lt_of z5; have H_z5 := Lib.hid z5; clear z5; have H_hx5 := Lib.hid hx5; clear hx5))
                  all_goals go_wp2_with fail
                  all_goals go_meet
                  all_goals refine ⟨?_, H_hx5.out.grows (by (repeat' (first | (with_reducible exact Vg.Grows.refl _) | (with_reducible assumption) | (with_reducible refine Vg.Grows.alloc ?_ _) | (with_reducible refine Vg.Grows.plus ?_ _ _) | (with_reducible refine Vg.Grows.drewN ?_ _) | (with_reducible refine Vg.Grows.drew ?_) | (with_reducible refine Vg.Grows.setCell ?_ ?_ _) | (with_reducible refine Vg.Grows.put ?_ ?_ _) | omega | (simp; omega) | (simp; done))))⟩
                  all_goals (have hq1 := HC.out; have hq2 := HL.out; have hq3 := HE.out; congr 1; (repeat' split) <;> omega)
            case rest =>
              obtain ⟨rfl, hx6⟩ := hcut
              have z6 := hx6.p.has (bx, act14 kd t c at_) List.mem_cons_self
              clear c_z4 f_z4 p_z4
              clear H_hx4 H_z4 l_z4
              have c_z6 := Vg.cells_of z6; have f_z6 := Vg.frozen_of z6; have p_z6 := Vg.setCell_of z6; have l_z6 := Vg.lt_of z6; have H_z6 := Lib.hid z6; clear z6
              have H_hx6 := Lib.hid hx6; clear hx6
              have hcase : ((kd ≠ 1 ∧ kd ≠ 4) ∨ (is = false ∧ Vg.Kn.best K M = -1)) ∨ ((kd = 1 ∨ kd = 4) ∧ is = true) := by
                by_cases hk : kd = 1 ∨ kd = 4
                · cases is with
                  | true => exact .inr ⟨hk, rfl⟩
                  | false =>
                    refine .inl (.inr ⟨rfl, ?_⟩)
                    rcases Vg.Kn.best_cases (M := M) H_hinv.out with ⟨hb, _⟩ | ⟨i, hi, hb, _⟩
                    · exact hb
                    · have e1 := H_hb1.out
                      have e3 := H_hb3.out
                      rw [← e1, hb] at e3
                      simp at e3
                · exact .inl (.inl ⟨fun h => hk (.inl h), fun h => hk (.inr h)⟩)
              rcases hcase with hid | ⟨hk14, rfl⟩
              · obtain ⟨K', M', hd, hdj', hwe⟩ := Vg.Kn.does_idle (t := t) (c := c) (a := at_) H_hdj.out h0 (by
                  rcases hid with h | h
                  · exact .inl h
                  · exact .inr h.2)
                have hi2 := H_hinv.out.does M kd t c at_
                rw [hd] at hi2
                simp only [] at hi2
                rcases hid with ⟨k1, k4⟩ | ⟨rfl, hbm⟩
                · have e1 : (kd != 1) = true := by simp [k1]
                  have e4 : (kd != 4) = true := by simp [k4]
                  have H_hd := Lib.hid hd; clear hd; have H_hdj' := Lib.hid hdj'; clear hdj'; have H_hwe := Lib.hid hwe; clear hwe; have H_hi2 := Lib.hid hi2; clear hi2
                  go_wp2_with ((go_at_call 80; (with_reducible refine (kx_does (H_hx6.out.grows (by (repeat' (first | (with_reducible exact Vg.Grows.refl _) | (with_reducible assumption) | (with_reducible refine Vg.Grows.alloc ?_ _) | (with_reducible refine Vg.Grows.plus ?_ _ _) | (with_reducible refine Vg.Grows.drewN ?_ _) | (with_reducible refine Vg.Grows.drew ?_) | (with_reducible refine Vg.Grows.setCell ?_ ?_ _) | (with_reducible refine Vg.Grows.put ?_ ?_ _) | omega | (simp; omega) | (simp; done))))) H_hinv.out (by omega) H_hd.out).mono ?_); rintro e w7 ⟨rfl, hx7⟩; have z7 := hx7.p.has (bx, act14 kd t c at_) List.mem_cons_self; have c_z7 := Vg.cells_of z7; have f_z7 := Vg.frozen_of z7; have p_z7 := Vg.setCell_of z7; have l_z7 := Vg.lt_of z7; have H_z7 := Lib.hid z7; clear z7; have H_hx7 := Lib.hid hx7; clear hx7))
                  exact ⟨⟨q + 1, K', M', xs, g + 1, by omega, by go_num, rfl, by rw [H_hwe.out]; exact KD.sub (H_hx7.out.grows (by (repeat' (first | (with_reducible exact Vg.Grows.refl _) | (with_reducible assumption) | (with_reducible refine Vg.Grows.alloc ?_ _) | (with_reducible refine Vg.Grows.plus ?_ _ _) | (with_reducible refine Vg.Grows.drewN ?_ _) | (with_reducible refine Vg.Grows.drew ?_) | (with_reducible refine Vg.Grows.setCell ?_ ?_ _) | (with_reducible refine Vg.Grows.put ?_ ?_ _) | omega | (simp; omega) | (simp; done))))) (by simp), H_hi2.out, H_hdj'.out, hxl⟩, by simp [intOf]; omega⟩
                · by_cases k1 : kd = 1
                  · have e1 : (kd != 1) = false := by simp [k1]
                    clear k1
                    have H_hd := Lib.hid hd; clear hd; have H_hdj' := Lib.hid hdj'; clear hdj'; have H_hwe := Lib.hid hwe; clear hwe; have H_hi2 := Lib.hid hi2; clear hi2; have H_hbm := Lib.hid hbm; clear hbm
                    go_wp2_with ((go_at_call 80; (with_reducible refine (kx_does (H_hx6.out.grows (by (repeat' (first | (with_reducible exact Vg.Grows.refl _) | (with_reducible assumption) | (with_reducible refine Vg.Grows.alloc ?_ _) | (with_reducible refine Vg.Grows.plus ?_ _ _) | (with_reducible refine Vg.Grows.drewN ?_ _) | (with_reducible refine Vg.Grows.drew ?_) | (with_reducible refine Vg.Grows.setCell ?_ ?_ _) | (with_reducible refine Vg.Grows.put ?_ ?_ _) | omega | (simp; omega) | (simp; done))))) H_hinv.out (by omega) H_hd.out).mono ?_); rintro e w7 ⟨rfl, hx7⟩; have z7 := hx7.p.has (bx, act14 kd t c at_) List.mem_cons_self; have c_z7 := Vg.cells_of z7; have f_z7 := Vg.frozen_of z7; have p_z7 := Vg.setCell_of z7; have l_z7 := Vg.lt_of z7; have H_z7 := Lib.hid z7; clear z7; have H_hx7 := Lib.hid hx7; clear hx7))
                    exact ⟨⟨q + 1, K', M', xs, g + 1, by omega, by go_num, rfl, by rw [H_hwe.out]; exact KD.sub (H_hx7.out.grows (by (repeat' (first | (with_reducible exact Vg.Grows.refl _) | (with_reducible assumption) | (with_reducible refine Vg.Grows.alloc ?_ _) | (with_reducible refine Vg.Grows.plus ?_ _ _) | (with_reducible refine Vg.Grows.drewN ?_ _) | (with_reducible refine Vg.Grows.drew ?_) | (with_reducible refine Vg.Grows.setCell ?_ ?_ _) | (with_reducible refine Vg.Grows.put ?_ ?_ _) | omega | (simp; omega) | (simp; done))))) (by simp), H_hi2.out, H_hdj'.out, hxl⟩, by simp [intOf]; omega⟩
                  · have e1 : (kd != 1) = true := by simp [k1]
                    clear k1
                    by_cases k4 : kd = 4
                    · have e4 : (kd != 4) = false := by simp [k4]
                      clear k4
                      have H_hd := Lib.hid hd; clear hd; have H_hdj' := Lib.hid hdj'; clear hdj'; have H_hwe := Lib.hid hwe; clear hwe; have H_hi2 := Lib.hid hi2; clear hi2; have H_hbm := Lib.hid hbm; clear hbm
                      go_wp2_with ((go_at_call 80; (with_reducible refine (kx_does (H_hx6.out.grows (by (repeat' (first | (with_reducible exact Vg.Grows.refl _) | (with_reducible assumption) | (with_reducible refine Vg.Grows.alloc ?_ _) | (with_reducible refine Vg.Grows.plus ?_ _ _) | (with_reducible refine Vg.Grows.drewN ?_ _) | (with_reducible refine Vg.Grows.drew ?_) | (with_reducible refine Vg.Grows.setCell ?_ ?_ _) | (with_reducible refine Vg.Grows.put ?_ ?_ _) | omega | (simp; omega) | (simp; done))))) H_hinv.out (by omega) H_hd.out).mono ?_); rintro e w7 ⟨rfl, hx7⟩; have z7 := hx7.p.has (bx, act14 kd t c at_) List.mem_cons_self; have c_z7 := Vg.cells_of z7; have f_z7 := Vg.frozen_of z7; have p_z7 := Vg.setCell_of z7; have l_z7 := Vg.lt_of z7; have H_z7 := Lib.hid z7; clear z7; have H_hx7 := Lib.hid hx7; clear hx7))
                      exact ⟨⟨q + 1, K', M', xs, g + 1, by omega, by go_num, rfl, by rw [H_hwe.out]; exact KD.sub (H_hx7.out.grows (by (repeat' (first | (with_reducible exact Vg.Grows.refl _) | (with_reducible assumption) | (with_reducible refine Vg.Grows.alloc ?_ _) | (with_reducible refine Vg.Grows.plus ?_ _ _) | (with_reducible refine Vg.Grows.drewN ?_ _) | (with_reducible refine Vg.Grows.drew ?_) | (with_reducible refine Vg.Grows.setCell ?_ ?_ _) | (with_reducible refine Vg.Grows.put ?_ ?_ _) | omega | (simp; omega) | (simp; done))))) (by simp), H_hi2.out, H_hdj'.out, hxl⟩, by simp [intOf]; omega⟩
                    · have e4 : (kd != 4) = true := by simp [k4]
                      clear k4
                      have H_hd := Lib.hid hd; clear hd; have H_hdj' := Lib.hid hdj'; clear hdj'; have H_hwe := Lib.hid hwe; clear hwe; have H_hi2 := Lib.hid hi2; clear hi2; have H_hbm := Lib.hid hbm; clear hbm
                      go_wp2_with ((go_at_call 80; (with_reducible refine (kx_does (H_hx6.out.grows (by (repeat' (first | (with_reducible exact Vg.Grows.refl _) | (with_reducible assumption) | (with_reducible refine Vg.Grows.alloc ?_ _) | (with_reducible refine Vg.Grows.plus ?_ _ _) | (with_reducible refine Vg.Grows.drewN ?_ _) | (with_reducible refine Vg.Grows.drew ?_) | (with_reducible refine Vg.Grows.setCell ?_ ?_ _) | (with_reducible refine Vg.Grows.put ?_ ?_ _) | omega | (simp; omega) | (simp; done))))) H_hinv.out (by omega) H_hd.out).mono ?_); rintro e w7 ⟨rfl, hx7⟩; have z7 := hx7.p.has (bx, act14 kd t c at_) List.mem_cons_self; have c_z7 := Vg.cells_of z7; have f_z7 := Vg.frozen_of z7; have p_z7 := Vg.setCell_of z7; have l_z7 := Vg.lt_of z7; have H_z7 := Lib.hid z7; clear z7; have H_hx7 := Lib.hid hx7; clear hx7))
                      exact ⟨⟨q + 1, K', M', xs, g + 1, by omega, by go_num, rfl, by rw [H_hwe.out]; exact KD.sub (H_hx7.out.grows (by (repeat' (first | (with_reducible exact Vg.Grows.refl _) | (with_reducible assumption) | (with_reducible refine Vg.Grows.alloc ?_ _) | (with_reducible refine Vg.Grows.plus ?_ _ _) | (with_reducible refine Vg.Grows.drewN ?_ _) | (with_reducible refine Vg.Grows.drew ?_) | (with_reducible refine Vg.Grows.setCell ?_ ?_ _) | (with_reducible refine Vg.Grows.put ?_ ?_ _) | omega | (simp; omega) | (simp; done))))) (by simp), H_hi2.out, H_hdj'.out, hxl⟩, by simp [intOf]; omega⟩
              · obtain ⟨i, hi, rfl, hou, hJ⟩ := H_hisf.out rfl
                have hbi : Vg.Kn.best K M = i := by
                  have e1 := H_hb1.out
                  have e2 := H_hb2.out
                  have e3 := H_hb3.out
                  simp at e3
                  omega
                have ha : Vg.Kn.ableK K i = true := by
                  rw [Vg.Kn.ableK_in hi, hou]
                  cases hJ2 : K[i].J with
                  | nil => rw [hJ2] at hJ; simp at hJ
                  | cons y l => simp
                obtain ⟨hj, x, l, gw, hJJ, hxc, hne, hwg, g0, f0, fle, x40, hcase2⟩ := Vg.Kn.does_run (t := t) (c := c) (a := at_) H_hinv.out H_hdj.out hk14 hi hbi ha
                rw [H_hqf.out] at f0 fle hcase2
                have hi2 := H_hinv.out.does M kd t c at_
                have hix : i < xs.length := by simpa using hj
                have hin : i < n := by omega
                obtain ⟨u, L, hxi⟩ : ∃ u L, xs[i] = (u, L) := ⟨_, _, rfl⟩
                have hLe : L = x :: l := by rw [List.getElem_map, hxi] at hJJ; exact hJJ
                subst hLe
                obtain ⟨xc, xa, xw⟩ := x
                simp only [] at hxc fle x40 hcase2
                subst hxc
                have hsum : IntKind.i64.wrap (gw + qf) = gw + qf := by rw [IntWalk.i64_in _ (by omega)]
                obtain ⟨p, hpl⟩ : ∃ p, l.length = p := ⟨_, rfl⟩
                have hgg2 : g ≠ (g + 1) := by omega
                have hz1 : (((p : Int) + 1) == 0) = false := by simp; omega
                have hz2 : ((((p + 1 : Nat) : Int)) == 0) = false := by simp; omega
                have hgg3 : (g + 1) ≠ g := by omega
                rcases hcase2 with ⟨hdn, K', M', hd, hdj', hwe⟩ | ⟨hdn, K', M', hd, hdj', hwe⟩
                · rw [hd] at hi2
                  simp only [] at hi2
                  have hqe : ((gw + qf) == xa) = true := by simp [hdn]
                  have hqn : decide ((gw + qf) = xa) = true := by simp [hdn]
                  clear hdn
                  rcases hk14 with rfl | rfl
                  all_goals
                    have H_hd := Lib.hid hd; clear hd; have H_hdj' := Lib.hid hdj'; clear hdj'; have H_hwe := Lib.hid hwe; clear hwe; have H_hi2 := Lib.hid hi2; clear hi2; have H_hou := Lib.hid hou; clear hou; have H_hbi := Lib.hid hbi; clear hbi; have H_ha := Lib.hid ha; clear ha; have H_hJJ := Lib.hid hJJ; clear hJJ; have H_hwg := Lib.hid hwg; clear hwg; have H_hxi := Lib.hid hxi; clear hxi; have H_hpl := Lib.hid hpl; clear hpl; have H_hne := Lib.hid hne; clear hne; have H_hJ := Lib.hid hJ; clear hJ
                    go_upto_region 22 with ((go_at_call 80; (with_reducible refine (kx_does (H_hx6.out.grows (by (repeat' (first | (with_reducible exact Vg.Grows.refl _) | (with_reducible assumption) | (with_reducible refine Vg.Grows.alloc ?_ _) | (with_reducible refine Vg.Grows.plus ?_ _ _) | (with_reducible refine Vg.Grows.drewN ?_ _) | (with_reducible refine Vg.Grows.drew ?_) | (with_reducible refine Vg.Grows.setCell ?_ ?_ _) | (with_reducible refine Vg.Grows.put ?_ ?_ _) | omega | (simp; omega) | (simp; done))))) H_hinv.out (by omega) H_hd.out).mono ?_); rintro e w7 ⟨rfl, hx7⟩; have z7 := hx7.p.has (bx, act14 _ t c at_) List.mem_cons_self; have c_z7 := Vg.cells_of z7; have f_z7 := Vg.frozen_of z7; have p_z7 := Vg.setCell_of z7; have l_z7 := Vg.lt_of z7; have H_z7 := Lib.hid z7; clear z7; have H_hx7 := Lib.hid hx7; clear hx7))
                    obtain ⟨bd, hbd⟩ : ∃ bd, w7.heap.size = bd := ⟨_, rfl⟩
                    obtain ⟨wy, hwy⟩ : ∃ wy, w7.alloc (doneC i xa xw) = wy := ⟨_, rfl⟩
                    have y2 : Vg.blk wy bd = some (doneC i xa xw) := by rw [← hwy, ← hbd]; exact Vg.alloc_heap_at rfl
                    have hky := KD.sub (Y := [(bd, doneC i xa xw)]) (KD.new H_hx7.out (w' := wy) (by rw [← hwy]; (repeat' (first | (with_reducible exact Vg.Grows.refl _) | (with_reducible assumption) | (with_reducible refine Vg.Grows.alloc ?_ _) | (with_reducible refine Vg.Grows.plus ?_ _ _) | (with_reducible refine Vg.Grows.drewN ?_ _) | (with_reducible refine Vg.Grows.drew ?_) | (with_reducible refine Vg.Grows.setCell ?_ ?_ _) | (with_reducible refine Vg.Grows.put ?_ ?_ _) | omega | (simp; omega) | (simp; done)))) y2 (by omega)) (by simp)
                    simp only [hbd]
                    rw [hwy]
                    clear c_z7 f_z7 p_z7
                    clear H_hx7 H_z7 l_z7
                    have zr := hky.p.jt.row
                    have c_r := dnrC_cell zr hix
                    have l_r := Vg.lt_of zr
                    have hp := hky.p.jt.job i hix
                    rw [H_hxi.out] at c_r hp
                    simp only [List.length_cons, H_hpl.out] at c_r hp
                    obtain ⟨jg, jo, jc, rfl, hjB, hjl, hjc1, hjc2, f0', f1', f2'⟩ := hp.job (congrArg (· + 1) H_hpl.out)
                    have c_w := KD.wcell hky H_hwg.out
                    have f_w := Vg.frozen_of hky.p.wr i
                    have l_w := Vg.lt_of hky.p.wr
                    have H_y2 := Lib.hid y2; clear y2; have H_hky := Lib.hid hky; clear hky; have H_zr := Lib.hid zr; clear zr; have H_hp := Lib.hid hp; clear hp; have H_hwy := Lib.hid hwy; clear hwy; have H_hbd := Lib.hid hbd; clear hbd
                    go_upto_region 25 with (fail)
                    have hk3 := KD.went H_hky.out i (gw + qf)
                    obtain ⟨W3, hW3⟩ : ∃ W3, wy.setCell ⟨(g + 1), i, none⟩ (.int .i64 (gw + qf)) = W3 := ⟨_, rfl⟩
                    rw [hW3] at hk3 ⊢
                    have c_w3 := KD.wcell (i := i) (x := gw + qf) hk3 (by rw [List.getElem?_set_self (by rw [List.length_map]; exact hi)])
                    have f_w3 := Vg.frozen_of hk3.p.wr i
                    have l_w3 := Vg.lt_of hk3.p.wr
                    have zr3 := hk3.p.jt.row
                    have c_r3 := dnrC_cell zr3 hix
                    have f_r3 := Vg.frozen_of zr3 i
                    have l_r3 := Vg.lt_of zr3
                    have hp3 := hk3.p.jt.job i hix
                    rw [H_hxi.out] at c_r3 hp3
                    simp only [List.length_cons, H_hpl.out] at c_r3 hp3
                    obtain ⟨jg', jo', jc', he, -, hjl3, -, -, e0, e1, e2⟩ := hp3.job (congrArg (· + 1) H_hpl.out)
                    simp only [Value.slice.injEq, Option.some.injEq, Addr.mk.injEq, and_true, true_and] at he
                    obtain ⟨⟨rfl, rfl⟩, rfl⟩ := he
                    simp only [] at e0 e1 e2
                    have y3 := hk3.p.has (bd, doneC i xa xw) List.mem_cons_self
                    clear c_r l_r f0' f1' f2' c_w f_w l_w hjl H_y2 H_hky H_zr H_hp
                    have c_y3 := Vg.cells_of y3; have f_y3 := Vg.frozen_of y3; have p_y3 := Vg.setCell_of y3; have l_y3 := Vg.lt_of y3; have H_y3 := Lib.hid y3; clear y3
                    have H_hk3 := Lib.hid hk3; clear hk3; have H_hW3 := Lib.hid hW3; clear hW3; have H_zr3 := Lib.hid zr3; clear zr3; have H_hp3 := Lib.hid hp3; clear hp3
                    go_quiet (fail)
                    go_wp2_with fail
                    have hq5 : Vg.Que W3 g 124 3 (.slice (if jc = 1 then some ⟨jg, jo, none⟩ else some ⟨jg, jo + 3, none⟩) p (jc - 1)) l.length (Vg.jcells l) := by
                      rw [H_hpl.out]
                      by_cases h1 : jc = 1
                      · rw [if_pos h1]
                        have h5 := H_hp3.out
                        rw [h1] at h5 ⊢
                        have h6 := h5.tail1
                        rw [show (Vg.jcells (⟨i, xa, xw⟩ :: l)).drop 3 = Vg.jcells l from by simp [Vg.jcells]] at h6
                        exact h6
                      · rw [if_neg h1]
                        have h6 := H_hp3.out.tail
                        rw [show (Vg.jcells (⟨i, xa, xw⟩ :: l)).drop 3 = Vg.jcells l from by simp [Vg.jcells]] at h6
                        exact h6
                    have ho5 : ∀ k, (Value.slice (if jc = 1 then some ⟨jg, jo, none⟩ else some ⟨jg, jo + 3, none⟩) p (jc - 1)).ownBlock = some k → (Value.slice (some ⟨jg, jo, none⟩) (p + 1) jc).ownBlock = some k ∨ W3.heap.size ≤ k := fun k hk => by
                      refine .inl ?_
                      by_cases h1 : jc = 1
                      · rw [if_pos h1] at hk; simpa [Value.ownBlock] using hk
                      · rw [if_neg h1] at hk; simpa [Value.ownBlock] using hk
                    have hk9 := KD.went (KD.row hix H_hk3.out H_hxi.out (Vg.Touch.refl _ _) hq5 ho5) i 0
                    rw [List.set_set] at hk9
                    exact ⟨⟨q + 1, K', M', xs.set i (_, l), g + 1, by omega, by go_num, rfl, by rw [H_hwe.out]; exact KD.sub (hk9.grows (by (repeat' (first | (with_reducible exact Vg.Grows.refl _) | (with_reducible assumption) | (with_reducible refine Vg.Grows.alloc ?_ _) | (with_reducible refine Vg.Grows.plus ?_ _ _) | (with_reducible refine Vg.Grows.drewN ?_ _) | (with_reducible refine Vg.Grows.drew ?_) | (with_reducible refine Vg.Grows.setCell ?_ ?_ _) | (with_reducible refine Vg.Grows.put ?_ ?_ _) | omega | (simp; omega) | (simp; done))))) (by simp), H_hi2.out, by rw [List.map_set]; exact H_hdj'.out, by rw [List.length_set]; exact hxl⟩, by simp [intOf]; omega⟩
                · rw [hd] at hi2
                  simp only [] at hi2
                  have hqe : ((gw + qf) == xa) = false := by simp [hdn]
                  have hqn : decide ((gw + qf) = xa) = false := by simp [hdn]
                  clear hdn
                  rcases hk14 with rfl | rfl
                  all_goals
                    have H_hd := Lib.hid hd; clear hd; have H_hdj' := Lib.hid hdj'; clear hdj'; have H_hwe := Lib.hid hwe; clear hwe; have H_hi2 := Lib.hid hi2; clear hi2; have H_hou := Lib.hid hou; clear hou; have H_hbi := Lib.hid hbi; clear hbi; have H_ha := Lib.hid ha; clear ha; have H_hJJ := Lib.hid hJJ; clear hJJ; have H_hwg := Lib.hid hwg; clear hwg; have H_hxi := Lib.hid hxi; clear hxi; have H_hpl := Lib.hid hpl; clear hpl; have H_hne := Lib.hid hne; clear hne; have H_hJ := Lib.hid hJ; clear hJ
                    go_upto_region 22 with ((go_at_call 80; (with_reducible refine (kx_does (H_hx6.out.grows (by (repeat' (first | (with_reducible exact Vg.Grows.refl _) | (with_reducible assumption) | (with_reducible refine Vg.Grows.alloc ?_ _) | (with_reducible refine Vg.Grows.plus ?_ _ _) | (with_reducible refine Vg.Grows.drewN ?_ _) | (with_reducible refine Vg.Grows.drew ?_) | (with_reducible refine Vg.Grows.setCell ?_ ?_ _) | (with_reducible refine Vg.Grows.put ?_ ?_ _) | omega | (simp; omega) | (simp; done))))) H_hinv.out (by omega) H_hd.out).mono ?_); rintro e w7 ⟨rfl, hx7⟩; have z7 := hx7.p.has (bx, act14 _ t c at_) List.mem_cons_self; have c_z7 := Vg.cells_of z7; have f_z7 := Vg.frozen_of z7; have p_z7 := Vg.setCell_of z7; have l_z7 := Vg.lt_of z7; have H_z7 := Lib.hid z7; clear z7; have H_hx7 := Lib.hid hx7; clear hx7))
                    obtain ⟨bd, hbd⟩ : ∃ bd, w7.heap.size = bd := ⟨_, rfl⟩
                    obtain ⟨wy, hwy⟩ : ∃ wy, w7.alloc (doneC 0 0 0) = wy := ⟨_, rfl⟩
                    have y2 : Vg.blk wy bd = some (doneC 0 0 0) := by rw [← hwy, ← hbd]; exact Vg.alloc_heap_at rfl
                    have hky := KD.sub (Y := [(bd, doneC 0 0 0)]) (KD.new H_hx7.out (w' := wy) (by rw [← hwy]; (repeat' (first | (with_reducible exact Vg.Grows.refl _) | (with_reducible assumption) | (with_reducible refine Vg.Grows.alloc ?_ _) | (with_reducible refine Vg.Grows.plus ?_ _ _) | (with_reducible refine Vg.Grows.drewN ?_ _) | (with_reducible refine Vg.Grows.drew ?_) | (with_reducible refine Vg.Grows.setCell ?_ ?_ _) | (with_reducible refine Vg.Grows.put ?_ ?_ _) | omega | (simp; omega) | (simp; done)))) y2 (by omega)) (by simp)
                    simp only [hbd]
                    rw [hwy]
                    clear c_z7 f_z7 p_z7
                    clear H_hx7 H_z7 l_z7
                    have zr := hky.p.jt.row
                    have c_r := dnrC_cell zr hix
                    have l_r := Vg.lt_of zr
                    have hp := hky.p.jt.job i hix
                    rw [H_hxi.out] at c_r hp
                    simp only [List.length_cons, H_hpl.out] at c_r hp
                    obtain ⟨jg, jo, jc, rfl, hjB, hjl, hjc1, hjc2, f0', f1', f2'⟩ := hp.job (congrArg (· + 1) H_hpl.out)
                    have c_w := KD.wcell hky H_hwg.out
                    have f_w := Vg.frozen_of hky.p.wr i
                    have l_w := Vg.lt_of hky.p.wr
                    have H_y2 := Lib.hid y2; clear y2; have H_hky := Lib.hid hky; clear hky; have H_zr := Lib.hid zr; clear zr; have H_hp := Lib.hid hp; clear hp; have H_hwy := Lib.hid hwy; clear hwy; have H_hbd := Lib.hid hbd; clear hbd
                    go_upto_region 25 with (fail)
                    have hk3 := KD.went H_hky.out i (gw + qf)
                    obtain ⟨W3, hW3⟩ : ∃ W3, wy.setCell ⟨(g + 1), i, none⟩ (.int .i64 (gw + qf)) = W3 := ⟨_, rfl⟩
                    rw [hW3] at hk3 ⊢
                    have c_w3 := KD.wcell (i := i) (x := gw + qf) hk3 (by rw [List.getElem?_set_self (by rw [List.length_map]; exact hi)])
                    have f_w3 := Vg.frozen_of hk3.p.wr i
                    have l_w3 := Vg.lt_of hk3.p.wr
                    have zr3 := hk3.p.jt.row
                    have c_r3 := dnrC_cell zr3 hix
                    have f_r3 := Vg.frozen_of zr3 i
                    have l_r3 := Vg.lt_of zr3
                    have hp3 := hk3.p.jt.job i hix
                    rw [H_hxi.out] at c_r3 hp3
                    simp only [List.length_cons, H_hpl.out] at c_r3 hp3
                    obtain ⟨jg', jo', jc', he, -, hjl3, -, -, e0, e1, e2⟩ := hp3.job (congrArg (· + 1) H_hpl.out)
                    simp only [Value.slice.injEq, Option.some.injEq, Addr.mk.injEq, and_true, true_and] at he
                    obtain ⟨⟨rfl, rfl⟩, rfl⟩ := he
                    simp only [] at e0 e1 e2
                    have y3 := hk3.p.has (bd, doneC 0 0 0) List.mem_cons_self
                    clear c_r l_r f0' f1' f2' c_w f_w l_w hjl H_y2 H_hky H_zr H_hp
                    have c_y3 := Vg.cells_of y3; have f_y3 := Vg.frozen_of y3; have p_y3 := Vg.setCell_of y3; have l_y3 := Vg.lt_of y3; have H_y3 := Lib.hid y3; clear y3
                    have H_hk3 := Lib.hid hk3; clear hk3; have H_hW3 := Lib.hid hW3; clear hW3; have H_zr3 := Lib.hid zr3; clear zr3; have H_hp3 := Lib.hid hp3; clear hp3
                    go_quiet (fail)
                    go_wp2_with fail
                    exact ⟨⟨q + 1, K', M', xs, g + 1, by omega, by go_num, rfl, by rw [H_hwe.out]; exact KD.sub (H_hk3.out.grows (by (repeat' (first | (with_reducible exact Vg.Grows.refl _) | (with_reducible assumption) | (with_reducible refine Vg.Grows.alloc ?_ _) | (with_reducible refine Vg.Grows.plus ?_ _ _) | (with_reducible refine Vg.Grows.drewN ?_ _) | (with_reducible refine Vg.Grows.drew ?_) | (with_reducible refine Vg.Grows.setCell ?_ ?_ _) | (with_reducible refine Vg.Grows.put ?_ ?_ _) | omega | (simp; omega) | (simp; done))))) (by simp), H_hi2.out, H_hdj'.out, hxl⟩, by simp [intOf]; omega⟩
        · have hqn : q = len := by omega
          subst hqn
          have H_hkd := Lib.hid hkd; clear hkd; have H_hinv := Lib.hid hinv; clear hinv; have H_hdj := Lib.hid hdj; clear hdj
          go_wp2_with fail
          go_loopw [188] (fun v wr => ∃ k : Nat, k ≤ n ∧ v = .int .i64 k ∧ KD w wr b K M g g xs (g + 1) (K.map Vg.Kn.wentOf) []) (fun v _ => n - (intOf v).toNat)
          case atStart => exact ⟨0, by omega, rfl, H_hkd.out⟩
          case round =>
            clear H_hkd
            obtain ⟨k, hk, rfl, hkd⟩ := hrel
            by_cases hkn : k < n
            · have hkx2 : k < xs.length := by omega
              have hkK : k < K.length := by have := H_hdj.out.1; rw [List.length_map] at this; omega
              have e := H_hdj.out.2 k hkK (by simpa using hkx2)
              obtain ⟨u, L, hxi⟩ : ∃ u L, xs[k] = (u, L) := ⟨_, _, rfl⟩
              rw [List.getElem_map, hxi] at e
              have hwt : Vg.Kn.waiting K k = (L.length : Int) := by rw [Vg.Kn.waiting_in hkK]; simp only [] at e; rw [e, List.length_map]
              have zr := hkd.p.jt.row
              have c_r := dnrC_cell zr hkx2
              have l_r := Vg.lt_of zr
              have hp := hkd.p.jt.job k hkx2
              rw [hxi] at c_r hp
              simp only [] at c_r hp
              obtain ⟨N, hN⟩ : ∃ N, L.length = N := ⟨_, rfl⟩
              rw [hN] at hp hwt
              obtain ⟨ua, uc, rfl⟩ := hp.shape
              have H_hkd := Lib.hid hkd; clear hkd; have H_e := Lib.hid e; clear e; have H_hxi := Lib.hid hxi; clear hxi; have H_hwt := Lib.hid hwt; clear hwt; have H_zr := Lib.hid zr; clear zr; have H_hp := Lib.hid hp; clear hp; have H_hN := Lib.hid hN; clear hN
              go_upto_region 33 with (fail)
              go_quiet ((go_at_call 76; with_reducible refine (kx_waiting k (H_hkd.out.grows (by (repeat' (first | (with_reducible exact Vg.Grows.refl _) | (with_reducible assumption) | (with_reducible refine Vg.Grows.alloc ?_ _) | (with_reducible refine Vg.Grows.plus ?_ _ _) | (with_reducible refine Vg.Grows.drewN ?_ _) | (with_reducible refine Vg.Grows.drew ?_) | (with_reducible refine Vg.Grows.setCell ?_ ?_ _) | (with_reducible refine Vg.Grows.put ?_ ?_ _) | omega | (simp; omega) | (simp; done))))) H_hwt.out).mono ?_; rintro e w6 ⟨rfl, rfl⟩; exact ⟨rfl, _, rfl⟩))
              go_wp2_with fail
              exact ⟨⟨k + 1, by omega, by go_num, H_hkd.out.grows (by (repeat' (first | (with_reducible exact Vg.Grows.refl _) | (with_reducible assumption) | (with_reducible refine Vg.Grows.alloc ?_ _) | (with_reducible refine Vg.Grows.plus ?_ _ _) | (with_reducible refine Vg.Grows.drewN ?_ _) | (with_reducible refine Vg.Grows.drew ?_) | (with_reducible refine Vg.Grows.setCell ?_ ?_ _) | (with_reducible refine Vg.Grows.put ?_ ?_ _) | omega | (simp; omega) | (simp; done))))⟩, by simp [intOf]; omega⟩
            · have H_hkd := Lib.hid hkd; clear hkd
              go_wp2_with fail
              go_ret
              exact ⟨rfl, H_hkd.out.gr⟩
  · have hrr : (r != 0) = true := by simp [hr0]
    have hr2 : (r == 0) = false := by simp [hr0]
    clear hr
    have H_hTR := Lib.hid hTR; clear hTR; have H_hTl := Lib.hid hTl; clear hTl; have H_hck := Lib.hid hck; clear hck; have H_hr0 := Lib.hid hr0; clear hr0
    go_enter Try.func12, Try.ntmps12
    go_wp2_with (first | (go_at_call 63; refine (lives14 _).mono ?_; rintro e w1 ⟨rfl, hg1⟩; have HG1 := Lib.hid hg1; clear hg1) | (go_at_call 64; refine (kern_new_no (H_hTR.out.grows HG1.out) H_hTl.out H_hck.out H_hr0.out).mono ?_; rintro e w2 ⟨rfl, hg2⟩; have HG2 := Lib.hid hg2; clear hg2))
    go_ret
    exact ⟨rfl, HG1.out.trans HG2.out⟩
end Go.Proofs.Ytiinhofmhoplfaa
