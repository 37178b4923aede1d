/- KernOne: plain facts and the walk. -/
import Derived.Test.YtiinhofmhoplfaaKernH
import Derived.Test.YtiinhofmhoplfaaKernV
set_option linter.unusedSimpArgs false
set_option linter.unusedVariables false
set_option maxHeartbeats 40000000
set_option maxRecDepth 100000
namespace Vg
open Go
theorem Kn.pick_facts {k : Nat} {K : List Kt} (M : List Mx) (h : Kn.Inv k K) : ∃ (r m : Int) (is : Bool), Kn.best K M = r ∧ max r 0 = m ∧ decide (0 ≤ r) = is ∧
    (∀ i (hi : i < K.length), 0 < K[i].J.length → K[i].out = false → is = true ∧ Kn.level K M i ≤ Kn.level K M m) ∧ (is = true → ∃ j, ∃ hj : j < K.length, m = (j : Int) ∧ K[j].out = false ∧ 0 < K[j].J.length) := by
  rcases Kn.best_cases (M := M) h with ⟨hb, hno⟩ | ⟨i, hi, hb, ha, hl, -⟩
  · refine ⟨-1, 0, false, hb, by decide, by decide, fun j hj h1 h2 => ?_, fun h => by cases h⟩
    have := hno j
    rw [Kn.ableK_in hj, h2] at this
    cases hJ : K[j].J with
    | nil => rw [hJ] at h1; simp at h1
    | cons x l => rw [hJ] at this; simp at this
  · refine ⟨i, i, true, hb, by omega, by simp, fun j hj h1 h2 => ⟨rfl, hl j ?_⟩, fun _ => ⟨i, hi, rfl, ?_⟩⟩
    · rw [Kn.ableK_in hj, h2]
      simp; omega
    · rw [Kn.ableK_in hi] at ha
      simp at ha
      exact ⟨ha.2, by omega⟩
theorem TK.open {w : World} {sa : Option Addr} {sc : Nat} {T : List Tk} (h : TK w sa sc T) (hT : 0 < T.length) : ∃ g off, sa = some ⟨g, off, none⟩ ∧ g < w.heap.size ∧ ∀ i (hi : i < T.length) j, j < 10 → w.cell? ⟨g, off + i * 10 + j, none⟩ = some (tkcell T[i] j) := by
  obtain ⟨g, off, rfl, hg, _⟩ := h.2.2 0 hT
  refine ⟨g, off, rfl, hg, fun i hi j hj => ?_⟩
  obtain ⟨g', off', e, _, hc⟩ := h.2.2 i hi
  simp only [Option.some.injEq, Addr.mk.injEq, and_true] at e
  obtain ⟨rfl, rfl⟩ := e
  exact hc j hj
theorem madeB (m : Nat) : madeCells #[.bool false] m = ((List.replicate m false).map Value.bool).toArray := by
  unfold madeCells
  apply Array.ext'
  simp [List.map_const', Nat.mod_one]
theorem Kn.K0_out (T : List Tk) : (Kn.K0 T).map (·.out) = List.replicate T.length false := by
  unfold Kn.K0 kt0
  rw [List.map_map]
  exact List.map_const' ..
theorem Kn.K0_t (T : List Tk) : (Kn.K0 T).map (·.t) = T := by
  unfold Kn.K0 kt0
  rw [List.map_map]
  exact List.map_id' ..
end Vg
namespace Go.Proofs.Ytiinhofmhoplfaa
open Go.ChangeShapes Go.WideShapes Go.ChangeAt Go.RowKit
abbrev boolC (L : List Bool) : Obj := .cells (L.map Value.bool).toArray 4
theorem Try.info_bool1 : (Try.prog.info? 4).map (fun i => (i.zero, i.size, i.bytes)) = some (some (.bool false), 1, 1) := by kernel_rfl
theorem Try.underlying_bools : Try.prog.underlying 110 = some (.slice 4) := by kernel_rfl
theorem boolC_cell {w : World} {g : Nat} {L : List Bool} (h : Vg.blk w g = some (boolC L)) {i : Nat} (hi : i < L.length) : w.cell? ⟨g, i, none⟩ = some (.bool L[i]) := by
  rw [Vg.cells_of h]; simp [hi]
theorem boolC_set {w : World} {g : Nat} {L : List Bool} (h : Vg.blk w g = some (boolC L)) (i : Nat) (v : Bool) : w.setCell ⟨g, i, none⟩ (.bool v) = Vg.put w g (boolC (L.set i v)) := by
  rw [Vg.setCell_of h]; simp [boolC, List.map_set]
theorem KH.new2 {w w' w0 : World} {b : Nat} {K : List Vg.Kt} {M : List Vg.Mx} {X : List (Nat × Obj)} {g g1 : Nat} {o o1 : Obj} (h : KH w0 w b K M ((g1, o1) :: X)) (hg : Vg.Grows w w') (hb : Vg.blk w' g = some o) (hlo : w.heap.size ≤ g) : KH w0 w' b K M ((g1, o1) :: (g, o) :: X) :=
  (h.new hg hb hlo).sub fun p hp => by
    simp only [List.mem_cons] at hp ⊢
    rcases hp with hp | hp | hp
    · exact .inr (.inl hp)
    · exact .inl hp
    · exact .inr (.inr hp)
theorem KH.at0 {w w0 : World} {b : Nat} {K : List Vg.Kt} {M : List Vg.Mx} {X : List (Nat × Obj)} {g : Nat} {o : Obj} (h : KH w0 w b K M ((g, o) :: X)) : Vg.blk w g = some o := h.p (g, o) List.mem_cons_self
theorem KH.at1 {w w0 : World} {b : Nat} {K : List Vg.Kt} {M : List Vg.Mx} {X : List (Nat × Obj)} {g : Nat} {o : Obj} {p : Nat × Obj} (h : KH w0 w b K M (p :: (g, o) :: X)) : Vg.blk w g = some o := h.p (g, o) (List.mem_cons_of_mem _ List.mem_cons_self)
theorem KernOne_walk (ta : Option Addr) (n tc : Nat) (TD0 : Nat → Nat → Int) (a : Option Addr) (len cap : Nat) (D : Nat → Nat → Int) (w : World) (hrT : Vg.intRows w [.u8, .i64, .i64, .i64, .i64, .i64, .i64, .i64, .i64, .i64] ta n tc TD0) (hr : Vg.intRows w [.i64, .i64, .i64, .i64] a len cap D) :
    Calls Try.prog 11 #[.slice ta n tc, .slice a len cap] w fun e w' => e = .returned (.bool true) ∧ Vg.Grows w w' := by
  obtain ⟨T, hTR, hTl⟩ : ∃ T, Vg.TK w ta tc T ∧ T.length = n := ⟨_, Vg.TK.of_rows hrT, Vg.tksOf_len _ _⟩
  have htc1 : n ≤ tc := hrT.1
  have htc2 : tc ≤ 9223372036854775807 := hrT.2.1
  clear hrT
  have hlen := hr.1
  have hcap : cap ≤ 9223372036854775807 := hr.2.1
  obtain ⟨r, hck⟩ : ∃ r, Vg.Kn.check T = r := ⟨_, rfl⟩
  by_cases hr0 : r = 0
  · subst hr0
    obtain ⟨⟨hn1, hn32⟩, hodd, hnd⟩ := Vg.Kn.check_ok hck
    by_cases h60 : 60 < len
    · clear hr
      rw [hTl] at hn1 hn32
      have H_hTR := Lib.hid hTR; clear hTR; have H_hTl := Lib.hid hTl; clear hTl; have H_hck := Lib.hid hck; clear hck; have H_hodd := Lib.hid hodd; clear hodd; have H_hnd := Lib.hid hnd; clear hnd
      go_enter Try.func11, Try.ntmps11
      go_wp2_with (first | (go_at_call 63; refine (lives14 _).mono ?_; rintro e w1 ⟨rfl, hg1⟩; have HG1 := Lib.hid hg1; clear hg1) | (go_at_call 64; refine (kz_new (w0 := w) HG1.out (H_hTR.out.grows HG1.out) H_hTl.out H_hck.out rfl rfl).mono ?_; rintro e w2 ⟨b, rfl, hz, hg2⟩; have HG2 := Lib.hid hg2; clear hg2; have H_hz := Lib.hid hz; clear hz))
      go_ret
      exact ⟨rfl, HG1.out.trans HG2.out⟩
    · obtain ⟨tg, toff, rfl, htg, htcx⟩ := hTR.open (by omega)
      rw [hTl] at hn1 hn32
      have RH := Lib.hid (fun h => Vg.intRows.open (by decide) hr h)
      clear hr
      have hinv0 := Vg.Kn.inv0 hodd
      have hO0 := Vg.Kn.K0_out T
      have hT0 := Vg.Kn.K0_t T
      rw [hTl] at hO0
      have hmk : ∀ wx : World, (Instr.makeSlice 110 (.int .i64 n) (.int .i64 n)).run Try.prog wx = .ok (.slice (some ⟨wx.heap.size, 0, none⟩) n n) (wx.alloc (boolC (List.replicate n false))) := fun wx => by
        have := run_make_row' (P := Try.prog) 110 4 (.bool false) 1 Try.underlying_bools Try.info_bool1 rfl .i64 .i64 n (by omega) (by omega) wx
        rw [Vg.madeB] at this
        exact this
      have H_hTR := Lib.hid hTR; clear hTR; have H_hTl := Lib.hid hTl; clear hTl; have H_hck := Lib.hid hck; clear hck; have H_hodd := Lib.hid hodd; clear hodd; have H_hnd := Lib.hid hnd; clear hnd; have H_hinv0 := Lib.hid hinv0; clear hinv0; have H_hO0 := Lib.hid hO0; clear hO0; have H_hT0 := Lib.hid hT0; clear hT0; have H_htcx := Lib.hid htcx; clear htcx
      go_enter Try.func11, Try.ntmps11
      go_wp2_with (first | (go_at_call 63; refine (lives14 _).mono ?_; rintro e w1 ⟨rfl, hg1⟩; have HG1 := Lib.hid hg1; clear hg1) | (go_at_call 64; refine (kz_new (w0 := w) HG1.out (H_hTR.out.grows HG1.out) H_hTl.out H_hck.out rfl rfl).mono ?_; rintro e w2 ⟨b, rfl, hz, hg2⟩; have HG2 := Lib.hid hg2; clear hg2; have H_hz := Lib.hid hz; clear hz))
      obtain ⟨g, hg⟩ : ∃ g, w2.heap.size = g := ⟨_, rfl⟩
      have hwg : w.heap.size ≤ g := by rw [← hg]; exact (HG1.out.trans HG2.out).size
      obtain ⟨W0, hW0⟩ : ∃ W0, w2.alloc (boolC (List.replicate n false)) = W0 := ⟨_, rfl⟩
      have hkh : KH w W0 b (Vg.Kn.K0 T) (Vg.Kn.M0 T) [(g, boolC (List.replicate n false))] := (KH.start H_hz.out).new (by rw [← hW0]; (repeat' (first | (with_reducible exact Vg.Grows.refl _) | (with_reducible assumption) | (with_reducible refine Vg.Grows.alloc ?_ _) | (with_reducible refine Vg.Grows.plus ?_ _ _) | (with_reducible refine Vg.Grows.drewN ?_ _) | (with_reducible refine Vg.Grows.drew ?_) | (with_reducible refine Vg.Grows.setCell ?_ ?_ _) | (with_reducible refine Vg.Grows.put ?_ ?_ _) | omega | (simp; omega) | (simp; done)))) (by rw [← hW0, ← hg]; exact Vg.alloc_heap_at rfl) (by omega)
      simp only [hg]
      rw [hW0]
      clear hmk
      have H_hg := Lib.hid hg; clear hg; have H_hW0 := Lib.hid hW0; clear hW0; have H_hkh := Lib.hid hkh; clear hkh
      go_loopw [45] (fun i wr => ∃ (q : Nat) (K : List Vg.Kt) (M : List Vg.Mx), q ≤ len ∧ i = .int .i64 q ∧ KH w wr b K M [(g, boolC (K.map (·.out)))] ∧ Vg.Kn.Inv q K ∧ K.map (·.t) = T) (fun i _ => len - (intOf i).toNat)
      case atStart => exact ⟨0, _, _, by omega, rfl, by rw [H_hO0.out]; exact H_hkh.out, H_hinv0.out, H_hT0.out⟩
      case round =>
        obtain ⟨q, K, M, hq, rfl, hkx, hinv, hKT⟩ := hrel
        by_cases hlt : q < len
        · obtain ⟨ba, off, rfl, hba, hcx⟩ := RH.out (by omega)
          have hc0 := hcx q hlt 0 (by decide)
          have hc1 := hcx q hlt 1 (by decide)
          have hc2 := hcx q hlt 2 (by decide)
          have hc3 := hcx q hlt 3 (by decide)
          generalize D q 0 = kd at hc0
          generalize D q 1 = t at hc1
          generalize D q 2 = c at hc2
          generalize D q 3 = at_ at hc3
          simp only [List.length_cons, List.length_nil, Nat.zero_add, List.getElem_cons_zero, List.getElem_cons_succ] at hc0 hc1 hc2 hc3
          have hgr := hkx.gr
          have hc0 := (hgr.below.cell (p := ⟨ba, off + q * 4, none⟩) hba).trans hc0.1
          have hc1 := (hgr.below.cell (p := ⟨ba, off + q * 4 + 1, none⟩) hba).trans hc1.1
          have hc2 := (hgr.below.cell (p := ⟨ba, off + q * 4 + 2, none⟩) hba).trans hc2.1
          have hc3 := (hgr.below.cell (p := ⟨ba, off + q * 4 + 3, none⟩) hba).trans hc3.1
          have hbar : ba < wr.heap.size := Nat.lt_of_lt_of_le hba hgr.size
          have hKl : K.length = n := by have := congrArg List.length hKT; rw [List.length_map] at this; rw [this]; exact H_hTl.out
          clear hcx
          have H_hkx := Lib.hid hkx; clear hkx; have H_hinv := Lib.hid hinv; clear hinv; have H_hKT := Lib.hid hKT; clear hKT; have H_hgr := Lib.hid hgr; clear hgr; have H_hKl := Lib.hid hKl; clear hKl
          go_upto_region 10 with (fail)
          obtain ⟨bx, hbx⟩ : ∃ bx, wr.heap.size = bx := ⟨_, rfl⟩
          obtain ⟨wx, hwx⟩ : ∃ wx, wr.alloc (act14 kd t c at_) = wx := ⟨_, rfl⟩
          have x2 : Vg.blk wx bx = some (act14 kd t c at_) := by rw [← hwx, ← hbx]; exact Vg.alloc_heap_at rfl
          have hkx2 := KH.new2 H_hkx.out (w' := wx) (g := bx) (by rw [← hwx]; (repeat' (first | (with_reducible exact Vg.Grows.refl _) | (with_reducible assumption) | (with_reducible refine Vg.Grows.alloc ?_ _) | (with_reducible refine Vg.Grows.plus ?_ _ _) | (with_reducible refine Vg.Grows.drewN ?_ _) | (with_reducible refine Vg.Grows.drew ?_) | (with_reducible refine Vg.Grows.setCell ?_ ?_ _) | (with_reducible refine Vg.Grows.put ?_ ?_ _) | omega | (simp; omega) | (simp; done)))) x2 (by omega)
          have hgb : g ≠ bx := fun hh => by have := H_hkx.out.kz.lt g Vg.Dom.here; omega
          simp only [hbx]
          rw [hwx]
          have c_x2 := Vg.cells_of x2; have f_x2 := Vg.frozen_of x2; have p_x2 := Vg.setCell_of x2; have l_x2 := Vg.lt_of x2; have H_x2 := Lib.hid x2; clear x2
          have H_hkx2 := Lib.hid hkx2; clear hkx2; have H_hwx := Lib.hid hwx; clear hwx; have H_hbx := Lib.hid hbx; clear hbx
          have hin : (0 ≤ t ∧ t < n) ∨ ¬ (0 ≤ t ∧ t < n) := by omega
          go_cut [58] (fun v58 wz => v58 = .bool (decide (0 ≤ t) && decide (t < n)) ∧ wz = wx)
          case first =>
            as_aux_lemma =>
              by_cases k1 : 0 ≤ t
              · by_cases k2 : t < n
                · go_wp2_with fail
                  go_meet
                  exact ⟨by simp [k1, k2], rfl⟩
                · go_wp2_with fail
                  go_meet
                  exact ⟨by simp [k1, k2], rfl⟩
              · go_wp2_with fail
                go_meet
                exact ⟨by simp; omega, rfl⟩
          case rest =>
            obtain ⟨rfl, rfl⟩ := hcut
            go_upto_if 58 with (fail)
            go_cut [] (fun wz => ∃ K1 : List Vg.Kt, KH w wz b K1 M [(g, boolC (K1.map (·.out))), (bx, act14 kd t c at_)] ∧ Vg.Kn.Inv q K1 ∧ K1.map (·.t) = T)
            case first =>
              as_aux_lemma =>
                by_cases hir : 0 ≤ t ∧ t < n
                · obtain ⟨i, rfl⟩ : ∃ i : Nat, t = i := ⟨t.toNat, by omega⟩
                  have hin2 : i < n := by omega
                  have hiK : i < K.length := by rw [H_hKl.out]; exact hin2
                  have hbb : (decide ((0 : Int) ≤ (i : Int)) && decide ((i : Int) < (n : Int))) = true := by simp [hin2]
                  clear hir hin
                  rw [hbb]
                  have hol : (K.map (·.out)).length = n := by rw [List.length_map]; exact H_hKl.out
                  by_cases h2 : kd = 2
                  · subst h2
                    have hb2 : ((2 : Int) == 2) = true := by decide
                    have hb3 : ((2 : Int) == 3) = false := by decide
                    rcases Vg.Kn.suspend_o (M := M) hiK with ⟨K2, hs, ho⟩ | hs
                    · have ht2 : K2.map (·.t) = T := by have := Vg.Kn.suspend_t K M i; rw [hs] at this; rw [this]; exact H_hKT.out
                      have hi2 : Vg.Kn.Inv q K2 := by have := H_hinv.out.suspend M i; rw [hs] at this; exact this
                      have H_hs := Lib.hid hs; clear hs; have H_ho := Lib.hid ho; clear ho; have H_ht2 := Lib.hid ht2; clear ht2; have H_hi2 := Lib.hid hi2; clear hi2; have H_hol := Lib.hid hol; clear hol
                      go_wp2_with ((go_at_call 78; (with_reducible refine (kx_suspend i H_hkx2.out H_hs.out).mono ?_); rintro e w3 ⟨rfl, hx3⟩; have z1 := KH.at1 hx3; have zg := KH.at0 hx3; have c_g := boolC_cell zg (i := i) (by rw [H_hol.out]; exact hin2); have f_g := Vg.frozen_of zg i; have p_g := boolC_set zg i true; have l_g := Vg.lt_of zg; have H_zg := Lib.hid zg; clear zg; have c_z1 := Vg.cells_of z1; have f_z1 := Vg.frozen_of z1; have p_z1 := Vg.setCell_of z1; have l_z1 := Vg.lt_of z1; have H_z1 := Lib.hid z1; clear z1; have H_hx3 := Lib.hid hx3; clear hx3))
                      go_meet
                      have hx4 := KH.put (boolC (K2.map (·.out))) H_hx3.out hwg (by simp [hgb])
                      rw [← H_ho.out]
                      exact ⟨K2, hx4, H_hi2.out, H_ht2.out⟩
                    · have H_hs := Lib.hid hs; clear hs; have H_hol := Lib.hid hol; clear hol
                      go_wp2_with ((go_at_call 78; (with_reducible refine (kx_suspend i H_hkx2.out H_hs.out).mono ?_); rintro e w3 ⟨rfl, hx3⟩; have z1 := KH.at1 hx3; have zg := KH.at0 hx3; have c_g := boolC_cell zg (i := i) (by rw [H_hol.out]; exact hin2); have f_g := Vg.frozen_of zg i; have p_g := boolC_set zg i true; have l_g := Vg.lt_of zg; have H_zg := Lib.hid zg; clear zg; have c_z1 := Vg.cells_of z1; have f_z1 := Vg.frozen_of z1; have p_z1 := Vg.setCell_of z1; have l_z1 := Vg.lt_of z1; have H_z1 := Lib.hid z1; clear z1; have H_hx3 := Lib.hid hx3; clear hx3))
                      go_meet
                      exact ⟨K, H_hx3.out, H_hinv.out, H_hKT.out⟩
                  · have hb2 : (kd == 2) = false := by simp [h2]
                    by_cases h3 : kd = 3
                    · subst h3
                      have hb3 : ((3 : Int) == 3) = true := by decide
                      rcases Vg.Kn.resume_o  hiK with ⟨K2, hs, ho⟩ | hs
                      · have ht2 : K2.map (·.t) = T := by have := Vg.Kn.resume_t K i; rw [hs] at this; rw [this]; exact H_hKT.out
                        have hi2 : Vg.Kn.Inv q K2 := by have := H_hinv.out.resume i; rw [hs] at this; exact this
                        have H_hs := Lib.hid hs; clear hs; have H_ho := Lib.hid ho; clear ho; have H_ht2 := Lib.hid ht2; clear ht2; have H_hi2 := Lib.hid hi2; clear hi2; have H_hol := Lib.hid hol; clear hol
                        go_wp2_with ((go_at_call 79; (with_reducible refine (kx_resume i H_hkx2.out H_hs.out).mono ?_); rintro e w3 ⟨rfl, hx3⟩; have z1 := KH.at1 hx3; have zg := KH.at0 hx3; have c_g := boolC_cell zg (i := i) (by rw [H_hol.out]; exact hin2); have f_g := Vg.frozen_of zg i; have p_g := boolC_set zg i false; have l_g := Vg.lt_of zg; have H_zg := Lib.hid zg; clear zg; have c_z1 := Vg.cells_of z1; have f_z1 := Vg.frozen_of z1; have p_z1 := Vg.setCell_of z1; have l_z1 := Vg.lt_of z1; have H_z1 := Lib.hid z1; clear z1; have H_hx3 := Lib.hid hx3; clear hx3))
                        go_meet
                        have hx4 := KH.put (boolC (K2.map (·.out))) H_hx3.out hwg (by simp [hgb])
                        rw [← H_ho.out]
                        exact ⟨K2, hx4, H_hi2.out, H_ht2.out⟩
                      · have H_hs := Lib.hid hs; clear hs; have H_hol := Lib.hid hol; clear hol
                        go_wp2_with ((go_at_call 79; (with_reducible refine (kx_resume i H_hkx2.out H_hs.out).mono ?_); rintro e w3 ⟨rfl, hx3⟩; have z1 := KH.at1 hx3; have zg := KH.at0 hx3; have c_g := boolC_cell zg (i := i) (by rw [H_hol.out]; exact hin2); have f_g := Vg.frozen_of zg i; have p_g := boolC_set zg i false; have l_g := Vg.lt_of zg; have H_zg := Lib.hid zg; clear zg; have c_z1 := Vg.cells_of z1; have f_z1 := Vg.frozen_of z1; have p_z1 := Vg.setCell_of z1; have l_z1 := Vg.lt_of z1; have H_z1 := Lib.hid z1; clear z1; have H_hx3 := Lib.hid hx3; clear hx3))
                        go_meet
                        exact ⟨K, H_hx3.out, H_hinv.out, H_hKT.out⟩
                    · have hb3 : (kd == 3) = false := by simp [h3]
                      go_wp2_with fail
                      go_meet
                      exact ⟨K, H_hkx2.out, H_hinv.out, H_hKT.out⟩
                · have hbb : (decide ((0 : Int) ≤ t) && decide (t < (n : Int))) = false := by simp; omega
                  clear hir hin
                  rw [hbb]
                  go_wp2_with fail
                  go_meet
                  exact ⟨K, H_hkx2.out, H_hinv.out, H_hKT.out⟩
            case rest =>
              obtain ⟨K1, hkx1, hinv1, hKT1⟩ := hcut
              clear c_x2 f_x2 p_x2
              clear H_hkx2 H_hinv H_hKT H_hKl H_hkx H_x2 l_x2
              have z1 := KH.at1 hkx1
              have c_z1 := Vg.cells_of z1; have f_z1 := Vg.frozen_of z1; have p_z1 := Vg.setCell_of z1; have l_z1 := Vg.lt_of z1; have H_z1 := Lib.hid z1; clear z1
              have H_hkx1 := Lib.hid hkx1; clear hkx1; have H_hinv1 := Lib.hid hinv1; clear hinv1; have H_hKT1 := Lib.hid hKT1; clear hKT1
              go_upto_region 15 with (fail)
              go_cut [94] (fun v94 wz => v94 = .bool (decide (kd ≠ 2) && decide (kd ≠ 3)) ∧ wz = wc)
              case first =>
                as_aux_lemma =>
                  by_cases k1 : kd = 2
                  · subst k1
                    go_wp2_with fail
                    go_meet
                    exact ⟨by simp, rfl⟩
                  · have e1 : (kd != 2) = true := by simp [k1]
                    by_cases k2 : kd = 3
                    · subst k2
                      go_wp2_with fail
                      go_meet
                      exact ⟨by simp, rfl⟩
                    · have e2 : (kd != 3) = true := by simp [k2]
                      go_wp2_with fail
                      go_meet
                      exact ⟨by simp [k1, k2], rfl⟩
              case rest =>
                obtain ⟨rfl, rfl⟩ := hcut
                go_upto_if 94 with (fail)
                go_cut [] (fun wz => ∃ (K2 : List Vg.Kt) (M2 : List Vg.Mx), KH w wz b K2 M2 [(g, boolC (K2.map (·.out)))] ∧ Vg.Kn.Inv (q + 1) K2 ∧ K2.map (·.t) = T)
                case first =>
                  as_aux_lemma =>
                    by_cases k1 : kd = 2 ∨ kd = 3
                    · have hbb : (decide (kd ≠ 2) && decide (kd ≠ 3)) = false := by simp; omega
                      rw [hbb]
                      go_wp2_with fail
                      go_meet
                      exact ⟨K1, M, KH.sub H_hkx1.out (by simp), H_hinv1.out.mono (Nat.le_succ q), H_hKT1.out⟩
                    · have k2 : kd ≠ 2 := fun h => k1 (.inl h)
                      have k3 : kd ≠ 3 := fun h => k1 (.inr h)
                      have hbb : (decide (kd ≠ 2) && decide (kd ≠ 3)) = true := by simp [k2, k3]
                      have hi2 := H_hinv1.out.does M kd t c at_
                      have ho2 := Vg.Kn.does_o K1 M kd t c at_ k2 k3
                      have ht2 := Vg.Kn.does_t K1 M kd t c at_
                      obtain ⟨⟨K2, M2, ⟨d1, d2, d3⟩, is⟩, hd⟩ : ∃ p, Vg.Kn.does K1 M kd t c at_ = p := ⟨_, rfl⟩
                      rw [hd] at hi2 ho2 ht2
                      simp only [] at hi2 ho2 ht2
                      rw [hbb]
                      clear k1 k2 k3
                      have H_hi2 := Lib.hid hi2; clear hi2; have H_ho2 := Lib.hid ho2; clear ho2; have H_ht2 := Lib.hid ht2; clear ht2; have H_hd := Lib.hid hd; clear hd
                      go_wp2_with ((go_at_call 80; (with_reducible refine (kx_does H_hkx1.out H_hinv1.out (by omega) H_hd.out).mono ?_); rintro e w3 ⟨rfl, hx3⟩; have H_hx3 := Lib.hid hx3; clear hx3))
                      go_meet
                      exact ⟨K2, M2, KH.sub (Y := [(g, boolC (K2.map (·.out)))]) H_hx3.out (by simp [H_ho2.out]), H_hi2.out, by rw [H_ht2.out]; exact H_hKT1.out⟩
                case rest =>
                  obtain ⟨K2, M2, hkx2, hinv2, hKT2⟩ := hcut
                  clear c_z1 f_z1 p_z1
                  clear H_hkx1 H_hinv1 H_hKT1 H_z1 l_z1 K K1
                  obtain ⟨r, m, is, hb1, hb2, hb3, hable, hisf⟩ := Vg.Kn.pick_facts M2 hinv2
                  have hKl : K2.length = n := by have := congrArg List.length hKT2; rw [List.length_map] at this; rw [this]; exact H_hTl.out
                  have H_hkx2 := Lib.hid hkx2; clear hkx2; have H_hinv2 := Lib.hid hinv2; clear hinv2; have H_hKT2 := Lib.hid hKT2; clear hKT2; have H_hb1 := Lib.hid hb1; clear hb1; have H_hb2 := Lib.hid hb2; clear hb2; have H_hb3 := Lib.hid hb3; clear hb3; have H_hable := Lib.hid hable; clear hable; have H_hisf := Lib.hid hisf; clear hisf; have H_hKl := Lib.hid hKl; clear hKl
                  go_wp2_with ((go_at_call 67; (with_reducible refine (kx_pick H_hkx2.out H_hb1.out H_hb2.out H_hb3.out).mono ?_); rintro e w4 ⟨rfl, hx4⟩; have H_hx4 := Lib.hid hx4; clear hx4))
                  go_loopw [105] (fun i wr => ∃ k : Nat, k ≤ n ∧ i = .int .i64 k ∧ KH w wr b K2 M2 [(g, boolC (K2.map (·.out)))]) (fun i _ => n - (intOf i).toNat)
                  case atStart => exact ⟨0, by omega, rfl, H_hx4.out⟩
                  case round =>
                    clear H_hx4 H_hkx2
                    obtain ⟨k, hk, rfl, hkx⟩ := hrel
                    by_cases hkn : k < n
                    · have hkT : k < T.length := by rw [H_hTl.out]; exact hkn
                      have hkK : k < K2.length := by rw [H_hKl.out]; exact hkn
                      have hgr2 := hkx.gr
                      have hcc := fun j hj => (hgr2.below.cell (p := ⟨tg, toff + k * 10 + j, none⟩) htg).trans (H_htcx.out k hkT j hj)
                      have hTk : K2[k].t = T[k] := by
                        have e : (K2.map (·.t))[k]'(by simpa using hkK) = T[k] := by simp only [H_hKT2.out]
                        rw [← e]; simp
                      obtain ⟨tk, htk⟩ : ∃ t, T[k] = t := ⟨_, rfl⟩
                      rw [htk] at hcc hTk
                      have hgl : tg < wr.heap.size := Nat.lt_of_lt_of_le htg hgr2.size
                      have c0 := hcc 0 (by decide)
                      have c1 := hcc 1 (by decide)
                      have c2 := hcc 2 (by decide)
                      have c3 := hcc 3 (by decide)
                      have c4 := hcc 4 (by decide)
                      have c5 := hcc 5 (by decide)
                      have c6 := hcc 6 (by decide)
                      have c7 := hcc 7 (by decide)
                      have c8 := hcc 8 (by decide)
                      have c9 := hcc 9 (by decide)
                      simp only [Vg.tkcell, Nat.add_zero] at c0 c1 c2 c3 c4 c5 c6 c7 c8 c9
                      have hgood := H_hinv2.out _ (List.getElem_mem hkK)
                      obtain ⟨wt, hwt⟩ : ∃ x, Vg.Kn.waiting K2 k = x := ⟨_, rfl⟩
                      obtain ⟨hd, hhd⟩ : ∃ x, Vg.Kn.holds K2 M2 k = x := ⟨_, rfl⟩
                      obtain ⟨lv, hlv⟩ : ∃ x, Vg.Kn.level K2 M2 k = x := ⟨_, rfl⟩
                      obtain ⟨lm, hlm⟩ : ∃ x, Vg.Kn.level K2 M2 m = x := ⟨_, rfl⟩
                      obtain ⟨ou, hou⟩ : ∃ x, K2[k].out = x := ⟨_, rfl⟩
                      have hwe : wt = (K2[k].J.length : Int) := by rw [← hwt, Vg.Kn.waiting_in hkK]
                      have hw0 : 0 ≤ wt := by omega
                      have hwr : wt ≤ tk.ro := by rw [hwe, ← hTk]; exact hgood.len
                      have hlk : hd = true → 0 ≤ tk.lk := fun hh => by rw [← hTk]; exact (Vg.Kn.holds_lk hkK (hhd.trans hh)).1
                      have hab : 0 < wt → ou = false → is = true ∧ lv ≤ lm := fun h1 h2 => by
                        have := H_hable.out k hkK (by omega) (hou.trans h2)
                        rw [hlv, hlm] at this
                        exact this
                      have hol : (K2.map (·.out)).length = n := by rw [List.length_map]; exact H_hKl.out
                      have hoc : ∀ (hh : k < (K2.map (·.out)).length), (K2.map (·.out))[k] = ou := fun hh => by rw [List.getElem_map]; exact hou
                      clear hcc
                      have H_hkx := Lib.hid hkx; clear hkx; have H_hgr2 := Lib.hid hgr2; clear hgr2; have H_hTk := Lib.hid hTk; clear hTk; have H_htk := Lib.hid htk; clear htk; have H_hgood := Lib.hid hgood; clear hgood; have H_hwt := Lib.hid hwt; clear hwt; have H_hhd := Lib.hid hhd; clear hhd; have H_hlv := Lib.hid hlv; clear hlv; have H_hlm := Lib.hid hlm; clear hlm; have H_hou := Lib.hid hou; clear hou; have H_hwe := Lib.hid hwe; clear hwe; have H_hlk := Lib.hid hlk; clear hlk; have H_hab := Lib.hid hab; clear hab; have H_hol := Lib.hid hol; clear hol; have H_hoc := Lib.hid hoc; clear hoc
                      go_upto_region 21 with (fail)
                      obtain ⟨bt, hbt⟩ : ∃ bt, wr.heap.size = bt := ⟨_, rfl⟩
                      obtain ⟨wy, hwy⟩ : ∃ wy, wr.alloc (tkC tk) = wy := ⟨_, rfl⟩
                      have y2 : Vg.blk wy bt = some (tkC tk) := by rw [← hwy, ← hbt]; exact Vg.alloc_heap_at rfl
                      have hky := KH.new2 H_hkx.out (w' := wy) (g := bt) (by rw [← hwy]; (repeat' (first | (with_reducible exact Vg.Grows.refl _) | (with_reducible assumption) | (with_reducible refine Vg.Grows.alloc ?_ _) | (with_reducible refine Vg.Grows.plus ?_ _ _) | (with_reducible refine Vg.Grows.drewN ?_ _) | (with_reducible refine Vg.Grows.drew ?_) | (with_reducible refine Vg.Grows.setCell ?_ ?_ _) | (with_reducible refine Vg.Grows.put ?_ ?_ _) | omega | (simp; omega) | (simp; done)))) y2 (by omega)
                      have hgt : g ≠ bt := fun hh => by have := H_hkx.out.kz.lt g Vg.Dom.here; omega
                      simp only [hbt]
                      rw [hwy]
                      clear c0 c1 c2 c3 c4 c5 c6 c7 c8 c9
                      have c_y2 := Vg.cells_of y2; have f_y2 := Vg.frozen_of y2; have p_y2 := Vg.setCell_of y2; have l_y2 := Vg.lt_of y2; have H_y2 := Lib.hid y2; clear y2
                      have H_hky := Lib.hid hky; clear hky; have H_hwy := Lib.hid hwy; clear hwy; have H_hbt := Lib.hid hbt; clear hbt
                      go_cut [125] (fun v125 wz => v125 = .bool false ∧ KH w wz b K2 M2 [(g, boolC (K2.map (·.out))), (bt, tkC tk)])
                      case first =>
                        as_aux_lemma =>
                          have d2 : decide (tk.ro < wt) = false := by simp; omega
                          have d3 : ¬ tk.ro < wt := by omega
                          cases hd with
                          | true =>
                            have d1 : decide (tk.lk < 0) = false := by have := H_hlk.out rfl; simp; omega
                            have d4 : ¬ tk.lk < 0 := by have := H_hlk.out rfl; omega
                            go_quiet ((first | (go_at_call 73; with_reducible exact Calls.quiet_of (kx_holds_q k (H_hky.out.grows (by (repeat' (first | (with_reducible exact Vg.Grows.refl _) | (with_reducible assumption) | (with_reducible refine Vg.Grows.alloc ?_ _) | (with_reducible refine Vg.Grows.plus ?_ _ _) | (with_reducible refine Vg.Grows.drewN ?_ _) | (with_reducible refine Vg.Grows.drew ?_) | (with_reducible refine Vg.Grows.setCell ?_ ?_ _) | (with_reducible refine Vg.Grows.put ?_ ?_ _) | omega | (simp; omega) | (simp; done))))) H_hhd.out)) | (go_at_call 76; with_reducible refine (kx_waiting k (H_hky.out.grows (by (repeat' (first | (with_reducible exact Vg.Grows.refl _) | (with_reducible assumption) | (with_reducible refine Vg.Grows.alloc ?_ _) | (with_reducible refine Vg.Grows.plus ?_ _ _) | (with_reducible refine Vg.Grows.drewN ?_ _) | (with_reducible refine Vg.Grows.drew ?_) | (with_reducible refine Vg.Grows.setCell ?_ ?_ _) | (with_reducible refine Vg.Grows.put ?_ ?_ _) | omega | (simp; omega) | (simp; done))))) H_hwt.out).mono ?_; rintro e w6 ⟨rfl, rfl⟩; exact ⟨rfl, _, rfl⟩)))
                            all_goals go_wp2_with fail
                            all_goals go_meet
                            all_goals exact ⟨by simp [d3, d4], H_hky.out.grows (by (repeat' (first | (with_reducible exact Vg.Grows.refl _) | (with_reducible assumption) | (with_reducible refine Vg.Grows.alloc ?_ _) | (with_reducible refine Vg.Grows.plus ?_ _ _) | (with_reducible refine Vg.Grows.drewN ?_ _) | (with_reducible refine Vg.Grows.drew ?_) | (with_reducible refine Vg.Grows.setCell ?_ ?_ _) | (with_reducible refine Vg.Grows.put ?_ ?_ _) | omega | (simp; omega) | (simp; done))))⟩
                          | false =>
                            go_quiet ((first | (go_at_call 73; with_reducible exact Calls.quiet_of (kx_holds_q k (H_hky.out.grows (by (repeat' (first | (with_reducible exact Vg.Grows.refl _) | (with_reducible assumption) | (with_reducible refine Vg.Grows.alloc ?_ _) | (with_reducible refine Vg.Grows.plus ?_ _ _) | (with_reducible refine Vg.Grows.drewN ?_ _) | (with_reducible refine Vg.Grows.drew ?_) | (with_reducible refine Vg.Grows.setCell ?_ ?_ _) | (with_reducible refine Vg.Grows.put ?_ ?_ _) | omega | (simp; omega) | (simp; done))))) H_hhd.out)) | (go_at_call 76; with_reducible refine (kx_waiting k (H_hky.out.grows (by (repeat' (first | (with_reducible exact Vg.Grows.refl _) | (with_reducible assumption) | (with_reducible refine Vg.Grows.alloc ?_ _) | (with_reducible refine Vg.Grows.plus ?_ _ _) | (with_reducible refine Vg.Grows.drewN ?_ _) | (with_reducible refine Vg.Grows.drew ?_) | (with_reducible refine Vg.Grows.setCell ?_ ?_ _) | (with_reducible refine Vg.Grows.put ?_ ?_ _) | omega | (simp; omega) | (simp; done))))) H_hwt.out).mono ?_; rintro e w6 ⟨rfl, rfl⟩; exact ⟨rfl, _, rfl⟩)))
                            all_goals go_wp2_with fail
                            all_goals go_meet
                            all_goals exact ⟨by simp [d3], H_hky.out.grows (by (repeat' (first | (with_reducible exact Vg.Grows.refl _) | (with_reducible assumption) | (with_reducible refine Vg.Grows.alloc ?_ _) | (with_reducible refine Vg.Grows.plus ?_ _ _) | (with_reducible refine Vg.Grows.drewN ?_ _) | (with_reducible refine Vg.Grows.drew ?_) | (with_reducible refine Vg.Grows.setCell ?_ ?_ _) | (with_reducible refine Vg.Grows.put ?_ ?_ _) | omega | (simp; omega) | (simp; done))))⟩
                      case rest =>
                        obtain ⟨rfl, hkz⟩ := hcut
                        clear c_y2 f_y2 p_y2
                        clear H_hky H_y2 l_y2
                        have y6 := KH.at1 hkz
                        have zg := KH.at0 hkz
                        have c_g := boolC_cell zg (i := k) (by rw [H_hol.out]; exact hkn)
                        rw [H_hoc.out] at c_g
                        have l_g := Vg.lt_of zg
                        have H_zg := Lib.hid zg
                        clear zg
                        have c_y6 := Vg.cells_of y6; have f_y6 := Vg.frozen_of y6; have p_y6 := Vg.setCell_of y6; have l_y6 := Vg.lt_of y6; have H_y6 := Lib.hid y6; clear y6
                        have H_hkz := Lib.hid hkz; clear hkz
                        go_upto_region 23 with (fail)
                        go_cut [149] (fun v149 wz => v149 = .bool false ∧ KH w wz b K2 M2 [(g, boolC (K2.map (·.out))), (bt, tkC tk)])
                        case first =>
                          as_aux_lemma =>
                            by_cases e1 : 0 < wt
                            · cases ou with
                              | true =>
                                go_wp2_with ((go_at_call 76; (with_reducible refine (kx_waiting k (H_hkz.out.grows (by (repeat' (first | (with_reducible exact Vg.Grows.refl _) | (with_reducible assumption) | (with_reducible refine Vg.Grows.alloc ?_ _) | (with_reducible refine Vg.Grows.plus ?_ _ _) | (with_reducible refine Vg.Grows.drewN ?_ _) | (with_reducible refine Vg.Grows.drew ?_) | (with_reducible refine Vg.Grows.setCell ?_ ?_ _) | (with_reducible refine Vg.Grows.put ?_ ?_ _) | omega | (simp; omega) | (simp; done))))) H_hwt.out).mono ?_); rintro e w6 ⟨rfl, rfl⟩))
                                all_goals go_meet
                                all_goals exact ⟨by simp, H_hkz.out.grows (by (repeat' (first | (with_reducible exact Vg.Grows.refl _) | (with_reducible assumption) | (with_reducible refine Vg.Grows.alloc ?_ _) | (with_reducible refine Vg.Grows.plus ?_ _ _) | (with_reducible refine Vg.Grows.drewN ?_ _) | (with_reducible refine Vg.Grows.drew ?_) | (with_reducible refine Vg.Grows.setCell ?_ ?_ _) | (with_reducible refine Vg.Grows.put ?_ ?_ _) | omega | (simp; omega) | (simp; done))))⟩
                              | false =>
                                obtain ⟨rfl, e3⟩ := H_hab.out e1 rfl
                                have e4 : ¬ lm < lv := by omega
                                go_wp2_with (first | (go_at_call 76; (with_reducible refine (kx_waiting k (H_hkz.out.grows (by (repeat' (first | (with_reducible exact Vg.Grows.refl _) | (with_reducible assumption) | (with_reducible refine Vg.Grows.alloc ?_ _) | (with_reducible refine Vg.Grows.plus ?_ _ _) | (with_reducible refine Vg.Grows.drewN ?_ _) | (with_reducible refine Vg.Grows.drew ?_) | (with_reducible refine Vg.Grows.setCell ?_ ?_ _) | (with_reducible refine Vg.Grows.put ?_ ?_ _) | omega | (simp; omega) | (simp; done))))) H_hwt.out).mono ?_); rintro e w6 ⟨rfl, rfl⟩) | (go_at_call 71; (with_reducible refine (kx_level k (H_hkz.out.grows (by (repeat' (first | (with_reducible exact Vg.Grows.refl _) | (with_reducible assumption) | (with_reducible refine Vg.Grows.alloc ?_ _) | (with_reducible refine Vg.Grows.plus ?_ _ _) | (with_reducible refine Vg.Grows.drewN ?_ _) | (with_reducible refine Vg.Grows.drew ?_) | (with_reducible refine Vg.Grows.setCell ?_ ?_ _) | (with_reducible refine Vg.Grows.put ?_ ?_ _) | omega | (simp; omega) | (simp; done))))) H_hlv.out).mono ?_); rintro e w7 ⟨rfl, hx7⟩; have H_hx7 := Lib.hid hx7; clear hx7) | (go_at_call 71; (with_reducible refine (kx_level m (H_hx7.out.grows (by (repeat' (first | (with_reducible exact Vg.Grows.refl _) | (with_reducible assumption) | (with_reducible refine Vg.Grows.alloc ?_ _) | (with_reducible refine Vg.Grows.plus ?_ _ _) | (with_reducible refine Vg.Grows.drewN ?_ _) | (with_reducible refine Vg.Grows.drew ?_) | (with_reducible refine Vg.Grows.setCell ?_ ?_ _) | (with_reducible refine Vg.Grows.put ?_ ?_ _) | omega | (simp; omega) | (simp; done))))) H_hlm.out).mono ?_); rintro e w8 ⟨rfl, hx8⟩; have H_hx8 := Lib.hid hx8; clear hx8))
                                all_goals go_meet
                                all_goals exact ⟨by simp <;> omega, H_hx8.out.grows (by (repeat' (first | (with_reducible exact Vg.Grows.refl _) | (with_reducible assumption) | (with_reducible refine Vg.Grows.alloc ?_ _) | (with_reducible refine Vg.Grows.plus ?_ _ _) | (with_reducible refine Vg.Grows.drewN ?_ _) | (with_reducible refine Vg.Grows.drew ?_) | (with_reducible refine Vg.Grows.setCell ?_ ?_ _) | (with_reducible refine Vg.Grows.put ?_ ?_ _) | omega | (simp; omega) | (simp; done))))⟩
                            · go_wp2_with ((go_at_call 76; (with_reducible refine (kx_waiting k (H_hkz.out.grows (by (repeat' (first | (with_reducible exact Vg.Grows.refl _) | (with_reducible assumption) | (with_reducible refine Vg.Grows.alloc ?_ _) | (with_reducible refine Vg.Grows.plus ?_ _ _) | (with_reducible refine Vg.Grows.drewN ?_ _) | (with_reducible refine Vg.Grows.drew ?_) | (with_reducible refine Vg.Grows.setCell ?_ ?_ _) | (with_reducible refine Vg.Grows.put ?_ ?_ _) | omega | (simp; omega) | (simp; done))))) H_hwt.out).mono ?_); rintro e w6 ⟨rfl, rfl⟩))
                              all_goals go_meet
                              all_goals exact ⟨by simp <;> omega, H_hkz.out.grows (by (repeat' (first | (with_reducible exact Vg.Grows.refl _) | (with_reducible assumption) | (with_reducible refine Vg.Grows.alloc ?_ _) | (with_reducible refine Vg.Grows.plus ?_ _ _) | (with_reducible refine Vg.Grows.drewN ?_ _) | (with_reducible refine Vg.Grows.drew ?_) | (with_reducible refine Vg.Grows.setCell ?_ ?_ _) | (with_reducible refine Vg.Grows.put ?_ ?_ _) | omega | (simp; omega) | (simp; done))))⟩
                        case rest =>
                          obtain ⟨rfl, hkv⟩ := hcut
                          clear c_y6 f_y6 p_y6
                          clear H_hkz H_y6 l_y6 c_g l_g H_zg
                          have H_hkv := Lib.hid hkv; clear hkv
                          go_wp2_with fail
                          go_loopw [154] (fun v wr => ∃ j : Nat, j ≤ k ∧ v = .int .i64 j ∧ KH w wr b K2 M2 [(g, boolC (K2.map (·.out))), (bt, tkC tk)]) (fun v _ => k - (intOf v).toNat)
                          case atStart => exact ⟨0, by omega, rfl, H_hkv.out⟩
                          case round =>
                            as_aux_lemma =>
                              clear H_hkv
                              obtain ⟨j, hj, rfl, hkj⟩ := hrel
                              by_cases hjk : j < k
                              · have hjT : j < T.length := by rw [H_hTl.out]; omega
                                have hjK : j < K2.length := by rw [H_hKl.out]; omega
                                have hgr3 := hkj.gr
                                have hcc := fun x hx => (hgr3.below.cell (p := ⟨tg, toff + j * 10 + x, none⟩) htg).trans (H_htcx.out j hjT x hx)
                                have hTj : K2[j].t = T[j] := by
                                  have e : (K2.map (·.t))[j]'(by simpa using hjK) = T[j] := by simp only [H_hKT2.out]
                                  rw [← e]; simp
                                obtain ⟨tj, htj⟩ : ∃ t, T[j] = t := ⟨_, rfl⟩
                                rw [htj] at hcc hTj
                                have hgl3 : tg < wr.heap.size := Nat.lt_of_lt_of_le htg hgr3.size
                                have c0 := hcc 0 (by decide)
                                have c1 := hcc 1 (by decide)
                                have c2 := hcc 2 (by decide)
                                have c3 := hcc 3 (by decide)
                                have c4 := hcc 4 (by decide)
                                have c5 := hcc 5 (by decide)
                                have c6 := hcc 6 (by decide)
                                have c7 := hcc 7 (by decide)
                                have c8 := hcc 8 (by decide)
                                have c9 := hcc 9 (by decide)
                                simp only [Vg.tkcell, Nat.add_zero] at c0 c1 c2 c3 c4 c5 c6 c7 c8 c9
                                obtain ⟨hf, hhf⟩ : ∃ x, Vg.Kn.holds K2 M2 j = x := ⟨_, rfl⟩
                                have hone : tk.lk = tj.lk → hd = true → hf = true → False := fun h1 h2 h3 => by
                                  have := Vg.Kn.holds_one hkK hjK (H_hhd.out.trans h2) (hhf.trans h3) (by rw [H_hTk.out, hTj]; exact h1)
                                  omega
                                have y7 := KH.at1 hkj
                                clear hcc
                                have c_y7 := Vg.cells_of y7; have f_y7 := Vg.frozen_of y7; have p_y7 := Vg.setCell_of y7; have l_y7 := Vg.lt_of y7; have H_y7 := Lib.hid y7; clear y7
                                have H_hkj := Lib.hid hkj; clear hkj; have H_hgr3 := Lib.hid hgr3; clear hgr3; have H_hTj := Lib.hid hTj; clear hTj; have H_htj := Lib.hid htj; clear htj; have H_hhf := Lib.hid hhf; clear hhf; have H_hone := Lib.hid hone; clear hone
                                by_cases hle : tk.lk = tj.lk
                                · have hee : (tk.lk == tj.lk) = true := by simp [hle]
                                  cases hd with
                                  | true =>
                                    cases hf with
                                    | true => exact (H_hone.out hle rfl rfl).elim
                                    | false =>
                                      clear hle
                                      go_wp2_with (first | (go_at_call 73; (with_reducible refine (kx_holds k (H_hkj.out.grows (by (repeat' (first | (with_reducible exact Vg.Grows.refl _) | (with_reducible assumption) | (with_reducible refine Vg.Grows.alloc ?_ _) | (with_reducible refine Vg.Grows.plus ?_ _ _) | (with_reducible refine Vg.Grows.drewN ?_ _) | (with_reducible refine Vg.Grows.drew ?_) | (with_reducible refine Vg.Grows.setCell ?_ ?_ _) | (with_reducible refine Vg.Grows.put ?_ ?_ _) | omega | (simp; omega) | (simp; done))))) H_hhd.out).mono ?_); rintro e w7 ⟨rfl, hx7⟩; have H_hx7 := Lib.hid hx7; clear hx7) | (go_at_call 73; (with_reducible refine (kx_holds j (H_hx7.out.grows (by (repeat' (first | (with_reducible exact Vg.Grows.refl _) | (with_reducible assumption) | (with_reducible refine Vg.Grows.alloc ?_ _) | (with_reducible refine Vg.Grows.plus ?_ _ _) | (with_reducible refine Vg.Grows.drewN ?_ _) | (with_reducible refine Vg.Grows.drew ?_) | (with_reducible refine Vg.Grows.setCell ?_ ?_ _) | (with_reducible refine Vg.Grows.put ?_ ?_ _) | omega | (simp; omega) | (simp; done))))) H_hhf.out).mono ?_); rintro e w8 ⟨rfl, hx8⟩; have H_hx8 := Lib.hid hx8; clear hx8))
                                      exact ⟨⟨j + 1, by omega, by go_num, H_hx8.out⟩, by simp [intOf]; omega⟩
                                  | false =>
                                    clear hle
                                    go_wp2_with ((go_at_call 73; (with_reducible refine (kx_holds k (H_hkj.out.grows (by (repeat' (first | (with_reducible exact Vg.Grows.refl _) | (with_reducible assumption) | (with_reducible refine Vg.Grows.alloc ?_ _) | (with_reducible refine Vg.Grows.plus ?_ _ _) | (with_reducible refine Vg.Grows.drewN ?_ _) | (with_reducible refine Vg.Grows.drew ?_) | (with_reducible refine Vg.Grows.setCell ?_ ?_ _) | (with_reducible refine Vg.Grows.put ?_ ?_ _) | omega | (simp; omega) | (simp; done))))) H_hhd.out).mono ?_); rintro e w7 ⟨rfl, hx7⟩; have H_hx7 := Lib.hid hx7; clear hx7))
                                    exact ⟨⟨j + 1, by omega, by go_num, H_hx7.out⟩, by simp [intOf]; omega⟩
                                · have hee : (tk.lk == tj.lk) = false := by simp [hle]
                                  clear hle
                                  go_wp2_with fail
                                  exact ⟨⟨j + 1, by omega, by go_num, H_hkj.out.grows (by (repeat' (first | (with_reducible exact Vg.Grows.refl _) | (with_reducible assumption) | (with_reducible refine Vg.Grows.alloc ?_ _) | (with_reducible refine Vg.Grows.plus ?_ _ _) | (with_reducible refine Vg.Grows.drewN ?_ _) | (with_reducible refine Vg.Grows.drew ?_) | (with_reducible refine Vg.Grows.setCell ?_ ?_ _) | (with_reducible refine Vg.Grows.put ?_ ?_ _) | omega | (simp; omega) | (simp; done))))⟩, by simp [intOf]; omega⟩
                              · have hjk2 : j = k := by omega
                                subst hjk2
                                have hfin : KH w wr b K2 M2 [(g, boolC (K2.map (·.out)))] := KH.sub hkj (by simp)
                                have H_hkj := Lib.hid hkj; clear hkj; have H_hfin := Lib.hid hfin; clear hfin
                                go_wp2_with fail
                                go_roundw
                                case rel =>
                                  exact ⟨j + 1, by omega, by go_num, H_hfin.out⟩
                                all_goals (first | (simp [intOf]; omega) | skip)
                    · have hkn2 : k = n := by omega
                      subst hkn2
                      cases is with
                      | false =>
                        have H_hkx := Lib.hid hkx; clear hkx
                        go_wp2_with fail
                        go_roundw
                        case rel =>
                          exact ⟨q + 1, K2, M2, by omega, by go_num, H_hkx.out, H_hinv2.out, H_hKT2.out⟩
                        all_goals (first | (simp [intOf]; omega) | skip)
                      | true =>
                        obtain ⟨j, hj, rfl, ho, hJ⟩ := H_hisf.out rfl
                        have hjn : j < k := by rw [H_hKl.out] at hj; exact hj
                        obtain ⟨wt, hwt⟩ : ∃ x, Vg.Kn.waiting K2 j = x := ⟨_, rfl⟩
                        have hwe : wt = (K2[j].J.length : Int) := by rw [← hwt, Vg.Kn.waiting_in hj]
                        have hw0 : (wt == 0) = false := by simp; omega
                        have zg := KH.at0 hkx
                        have c_g := boolC_cell zg (i := j) (by rw [List.length_map]; exact hj)
                        rw [List.getElem_map, ho] at c_g
                        have l_g := Vg.lt_of zg
                        clear zg
                        have H_hkx := Lib.hid hkx; clear hkx; have H_hwt := Lib.hid hwt; clear hwt; have H_ho := Lib.hid ho; clear ho; have H_hwe := Lib.hid hwe; clear hwe; have H_hJ := Lib.hid hJ; clear hJ
                        go_wp2_with ((go_at_call 76; (with_reducible refine (kx_waiting j (H_hkx.out.grows (by (repeat' (first | (with_reducible exact Vg.Grows.refl _) | (with_reducible assumption) | (with_reducible refine Vg.Grows.alloc ?_ _) | (with_reducible refine Vg.Grows.plus ?_ _ _) | (with_reducible refine Vg.Grows.drewN ?_ _) | (with_reducible refine Vg.Grows.drew ?_) | (with_reducible refine Vg.Grows.setCell ?_ ?_ _) | (with_reducible refine Vg.Grows.put ?_ ?_ _) | omega | (simp; omega) | (simp; done))))) H_hwt.out).mono ?_); rintro e w6 ⟨rfl, rfl⟩))
                        go_roundw
                        case rel =>
                          exact ⟨q + 1, K2, M2, by omega, by go_num, H_hkx.out, H_hinv2.out, H_hKT2.out⟩
                        all_goals (first | (simp [intOf]; omega) | skip)
        · have H_hkx := Lib.hid hkx; clear hkx; have H_hinv := Lib.hid hinv; clear hinv; have H_hKT := Lib.hid hKT; clear hKT
          go_wp2_with fail
          go_ret
          exact ⟨rfl, H_hkx.out.gr⟩
  · have hrr : (r != 0) = true := by simp [hr0]
    have hr2 : (r == 0) = false := by simp [hr0]
    clear hr
    have H_hTR := Lib.hid hTR; clear hTR; have H_hTl := Lib.hid hTl; clear hTl; have H_hck := Lib.hid hck; clear hck; have H_hr0 := Lib.hid hr0; clear hr0
    go_enter Try.func11, Try.ntmps11
    go_wp2_with (first | (go_at_call 63; refine (lives14 _).mono ?_; rintro e w1 ⟨rfl, hg1⟩; have HG1 := Lib.hid hg1; clear hg1) | (go_at_call 64; refine (kern_new_no (H_hTR.out.grows HG1.out) H_hTl.out H_hck.out H_hr0.out).mono ?_; rintro e w2 ⟨rfl, hg2⟩; have HG2 := Lib.hid hg2; clear hg2))
    go_ret
    exact ⟨rfl, HG1.out.trans HG2.out⟩
end Go.Proofs.Ytiinhofmhoplfaa
