/- TopLetters: the walk. -/
import Derived.Test.YtiinhofmhoplfaaLet
import Derived.Test.YtiinhofmhoplfaaCeilN
set_option linter.unusedSimpArgs false
set_option linter.unusedVariables false
set_option maxHeartbeats 40000000
set_option maxRecDepth 100000
namespace Go.Proofs.Ytiinhofmhoplfaa
open Go.ChangeShapes Go.WideShapes Go.ChangeAt Go.RowKit
section
variable {w w' w0 : World} {b mb mg dp Z f g o ac : Nat} {K : List Vg.Kt} {M : List Vg.Mx} {s : Vg.Bx} {L : List Int} {aa : Option Addr}
theorem LT.open (h : LT w0 w b K M mb mg dp Z s (.slice aa L.length ac) L) (hf : f < L.length) : ∃ g o, aa = some ⟨g, o, none⟩ ∧ L.length ≤ ac ∧ ac ≤ 9223372036854775807 := by
  obtain ⟨g, o, rfl, h1, h2, h3, h4⟩ := h.p.q.reads.open (by simp [Vg.ics]; omega)
  have h3' : ac ≤ 9223372036854775807 := h3
  exact ⟨g, o, rfl, h2, h3'⟩
theorem LT.cell (h : LT w0 w b K M mb mg dp Z s (.slice (some ⟨g, o, none⟩) L.length ac) L) (hf : f < L.length) : w.cell? ⟨g, o + f, none⟩ = some (.int .i64 L[f]) := by
  obtain ⟨g', o', he, k1, k2, k3, k4⟩ := h.p.q.reads.open (by simp [Vg.ics]; omega)
  simp only [Option.some.injEq, Addr.mk.injEq, and_true] at he
  obtain ⟨rfl, rfl⟩ := he
  have := k4 f (by simp [Vg.ics]; exact hf)
  simpa [Vg.ics] using this
end
theorem low07 (w : World) : Calls Try.prog 123 #[.int .i64 4294967301] w fun e w' => e = .returned (.int .u32 5) ∧ w = w' := by
  go_enter Try.func123, Try.ntmps123
  go_wp2
  go_ret
  exact ⟨rfl, rfl⟩
theorem diff07 (w : World) : Calls Try.prog 124 #[.int .u32 3, .int .u32 5] w fun e w' => e = .returned (.int .i64 (-2)) ∧ w = w' := by
  go_enter Try.func124, Try.ntmps124
  go_wp2
  go_ret
  exact ⟨ret_int (by kernel_rfl), rfl⟩
theorem begins07 (w : World) : Calls Try.prog 82 #[] w fun e w' => e = .returned (.bool true) ∧ w = w' := by
  go_enter Try.func82, Try.ntmps82
  go_wp2_with (first | (go_at_call 123; refine (low07 _).mono ?_; rintro e w' ⟨rfl, rfl⟩) | (go_at_call 124; refine (diff07 _).mono ?_; rintro e w' ⟨rfl, rfl⟩))
  go_ret
  exact ⟨rfl, rfl⟩
theorem TopLetters_walk (depth room : Int) (ca : Option Addr) (cn cc : Nat) (CD : Nat → Nat → Int) (ga : Option Addr) (gn gc : Nat) (GD : Nat → Nat → Int) (w : World) (hd0 : -9223372036854775808 ≤ depth) (hd1 : depth ≤ 9223372036854775807) (hr0 : Vg.intRows w [.i64] ca cn cc CD) (hr1 : Vg.intRows w [.i64] ga gn gc GD) :
    Calls Try.prog 14 #[.int .i64 depth, .int .i64 room, .slice ca cn cc, .slice ga gn gc] w fun e w' => e = .returned (.bool true) ∧ Vg.Grows w w' := by
  obtain ⟨C, hC, hCl⟩ : ∃ C, Vg.IR w ca cc C ∧ C.length = cn := ⟨_, Vg.IR.of_rows hr0, by simp⟩
  obtain ⟨G, hG, hGl⟩ : ∃ G, Vg.IR w ga gc G ∧ G.length = gn := ⟨_, Vg.IR.of_rows hr1, by simp⟩
  have hcn := hr0.1
  have hcm : cc ≤ 9223372036854775807 := hr0.2.1
  have hgn := hr1.1
  have hgm : gc ≤ 9223372036854775807 := hr1.2.1
  clear hr0 hr1
  by_cases hrm : 1 ≤ room ∧ room ≤ 16
  · have hck := Vg.Lt.check_ok hrm.1 hrm.2
    obtain ⟨hrm1, hrm2⟩ := hrm
    by_cases hdp : 1 ≤ depth ∧ depth ≤ 1024
    · obtain ⟨dp, rfl⟩ : ∃ dp : Nat, depth = dp := ⟨depth.toNat, by omega⟩
      have hp1 : 1 ≤ dp := by omega
      have hp2 : dp ≤ 1024 := by omega
      clear hdp
      by_cases h60 : 60 < cn ∨ 60 < gn
      · have H_hC := Lib.hid hC; clear hC; have H_hCl := Lib.hid hCl; clear hCl; have H_hG := Lib.hid hG; clear hG; have H_hGl := Lib.hid hGl; clear hGl; have H_hck := Lib.hid hck; clear hck
        by_cases k1 : 60 < cn
        · clear h60
          go_enter Try.func14, Try.ntmps14
          go_wp2_with (first | (go_at_call 82; refine (begins07 _).mono ?_; rintro e w' ⟨rfl, rfl⟩) | (go_at_call 83; refine (bx_new dp hp1 hp2).mono ?_; rintro e w1 ⟨rfl, hs, rfl⟩; have HSA := Lib.hid hs; clear hs) | (go_at_call 64; refine (kz_new (T := [Vg.Lt.t room]) (w0 := w) (by (repeat' (first | (with_reducible exact Vg.Grows.refl _) | (with_reducible assumption) | (with_reducible refine Vg.Grows.alloc ?_ _) | (with_reducible refine Vg.Grows.plus ?_ _ _) | (with_reducible refine Vg.Grows.drewN ?_ _) | (with_reducible refine Vg.Grows.drew ?_) | (with_reducible refine Vg.Grows.setCell ?_ ?_ _) | (with_reducible refine Vg.Grows.put ?_ ?_ _) | omega | (simp; omega) | (simp; done)))) (Vg.TK.block (T := [Vg.Lt.t room]) (Vg.alloc_heap_at (by (try simp only [World.size_alloc, Vg.plus_size, Vg.put_size, World.size_setCell, World.size_drew]) <;> omega)) (by simp [maxLen])) rfl H_hck.out rfl rfl).mono ?_; rintro e w2 ⟨b, rfl, hz, hg2⟩; have H_hz := Lib.hid hz; clear hz; have H_hg2 := Lib.hid hg2; clear hg2))
          go_ret
          exact ⟨rfl, H_hz.out.gr⟩
        · have k2 : 60 < gn := by omega
          clear h60
          go_enter Try.func14, Try.ntmps14
          go_wp2_with (first | (go_at_call 82; refine (begins07 _).mono ?_; rintro e w' ⟨rfl, rfl⟩) | (go_at_call 83; refine (bx_new dp hp1 hp2).mono ?_; rintro e w1 ⟨rfl, hs, rfl⟩; have HSA := Lib.hid hs; clear hs) | (go_at_call 64; refine (kz_new (T := [Vg.Lt.t room]) (w0 := w) (by (repeat' (first | (with_reducible exact Vg.Grows.refl _) | (with_reducible assumption) | (with_reducible refine Vg.Grows.alloc ?_ _) | (with_reducible refine Vg.Grows.plus ?_ _ _) | (with_reducible refine Vg.Grows.drewN ?_ _) | (with_reducible refine Vg.Grows.drew ?_) | (with_reducible refine Vg.Grows.setCell ?_ ?_ _) | (with_reducible refine Vg.Grows.put ?_ ?_ _) | omega | (simp; omega) | (simp; done)))) (Vg.TK.block (T := [Vg.Lt.t room]) (Vg.alloc_heap_at (by (try simp only [World.size_alloc, Vg.plus_size, Vg.put_size, World.size_setCell, World.size_drew]) <;> omega)) (by simp [maxLen])) rfl H_hck.out rfl rfl).mono ?_; rintro e w2 ⟨b, rfl, hz, hg2⟩; have H_hz := Lib.hid hz; clear hz; have H_hg2 := Lib.hid hg2; clear hg2))
          go_ret
          exact ⟨rfl, H_hz.out.gr⟩
      · have hc60 : ¬ 60 < cn := fun h => h60 (.inl h)
        have hg60 : ¬ 60 < gn := fun h => h60 (.inr h)
        clear h60
        have hinv0 : Vg.Kn.Inv 0 (Vg.Lt.K room []) := by
          have := Vg.Kn.inv0 (T := [Vg.Lt.t room]) (Vg.Kn.check_ok hck).2.1
          exact this
        obtain ⟨mx, hmx⟩ : ∃ mx : Nat, mx = max cn gn := ⟨_, rfl⟩
        have H_hC := Lib.hid hC; clear hC; have H_hCl := Lib.hid hCl; clear hCl; have H_hG := Lib.hid hG; clear hG; have H_hGl := Lib.hid hGl; clear hGl; have H_hck := Lib.hid hck; clear hck; have H_hinv0 := Lib.hid hinv0; clear hinv0
        go_enter Try.func14, Try.ntmps14
        go_wp2_with (first | (go_at_call 82; refine (begins07 _).mono ?_; rintro e w' ⟨rfl, rfl⟩) | (go_at_call 83; refine (bx_new dp hp1 hp2).mono ?_; rintro e w1 ⟨rfl, hs, hw1⟩; have HSA := Lib.hid hs; have HW1 := Lib.hid hw1; clear hs hw1) | (go_at_call 64; refine (kz_new (T := [Vg.Lt.t room]) (w0 := w1) (by (repeat' (first | (with_reducible exact Vg.Grows.refl _) | (with_reducible assumption) | (with_reducible refine Vg.Grows.alloc ?_ _) | (with_reducible refine Vg.Grows.plus ?_ _ _) | (with_reducible refine Vg.Grows.drewN ?_ _) | (with_reducible refine Vg.Grows.drew ?_) | (with_reducible refine Vg.Grows.setCell ?_ ?_ _) | (with_reducible refine Vg.Grows.put ?_ ?_ _) | omega | (simp; omega) | (simp; done)))) (Vg.TK.block (T := [Vg.Lt.t room]) (Vg.alloc_heap_at (by (try simp only [World.size_alloc, Vg.plus_size, Vg.put_size, World.size_setCell, World.size_drew]) <;> omega)) (by simp [maxLen])) rfl H_hck.out rfl rfl).mono ?_; rintro e w2 ⟨b, rfl, hz, hg2⟩; have H_hz := Lib.hid hz; clear hz; have H_hg2 := Lib.hid hg2; clear hg2))
        have hg1 : Vg.Grows w w1 := by rw [HW1.out]; (repeat' (first | (with_reducible exact Vg.Grows.refl _) | (with_reducible assumption) | (with_reducible refine Vg.Grows.alloc ?_ _) | (with_reducible refine Vg.Grows.plus ?_ _ _) | (with_reducible refine Vg.Grows.drewN ?_ _) | (with_reducible refine Vg.Grows.drew ?_) | (with_reducible refine Vg.Grows.setCell ?_ ?_ _) | (with_reducible refine Vg.Grows.put ?_ ?_ _) | omega | (simp; omega) | (simp; done)))
        have hlt := LT.start (room := room) HSA.out (by omega) hg1 (by omega) (Nat.le_refl _) H_hz.out
        rw [Vg.Lt.k0, Vg.Lt.m0] at hlt
        obtain ⟨mb, hmb⟩ : ∃ mb, w.heap.size + 1 = mb := ⟨_, rfl⟩
        obtain ⟨mg, hmg⟩ : ∃ mg, w.heap.size = mg := ⟨_, rfl⟩
        obtain ⟨Z, hZ⟩ : ∃ Z, w2.heap.size = Z := ⟨_, rfl⟩
        rw [hmb, hZ] at hlt
        rw [hmg] at hlt
        simp only [hmb]
        clear HSA HW1 H_hz H_hg2
        obtain ⟨i0, hi, hz0, hz1, hz2⟩ := info_parts Try.info_i64
        have H_hlt := Lib.hid hlt; clear hlt; have H_hmb := Lib.hid hmb; clear hmb; have H_hmg := Lib.hid hmg; clear hmg; have H_hZ := Lib.hid hZ; clear hZ; have H_hg1 := Lib.hid hg1; clear hg1
        go_loopw [13, 14, 15, 16, 17] (fun v13 v14 v15 v16 v17 wr => ∃ (k f d : Nat) (s : Vg.Bx) (aa : Option Addr) (ac : Nat) (L : List Int) (J : List Vg.Jb), k ≤ mx ∧ v13 = .slice aa L.length ac ∧ v14 = .int .i64 s.lost ∧ v15 = .int .i64 d ∧ v16 = .int .i64 f ∧ v17 = .int .i64 k ∧ LT w wr b (Vg.Lt.K room J) Vg.Lt.M mb mg dp Z s (.slice aa L.length ac) L ∧ s.L = L.drop f ∧ (0 ≤ s.lost ∧ s.lost ≤ k) ∧ L.length ≤ k ∧ Vg.Lt.Rel L f d J ∧ Vg.Kn.Inv 0 (Vg.Lt.K room J)) (fun _ _ _ _ i _ => mx - (intOf i).toNat)
        case atStart => exact ⟨0, 0, 0, _, none, 0, [], _, by omega, rfl, rfl, rfl, rfl, rfl, H_hlt.out, rfl, by simp, by simp, Vg.Lt.Rel.start, H_hinv0.out⟩
        case round =>
          obtain ⟨k, f, d, s, aa, ac, L, J, hk, rfl, rfl, rfl, rfl, rfl, hlt, hsL, hlost, hL, hrel, hinv⟩ := hrel
          have H_hlt := Lib.hid hlt; clear hlt; have H_hsL := Lib.hid hsL; clear hsL; have H_hrel := Lib.hid hrel; clear hrel; have H_hinv := Lib.hid hinv; clear hinv
          go_upto_region 12 with (fail)
          go_cut [77] (fun v77 wz => v77 = .bool (decide (k < mx)) ∧ wz = wr)
          case first =>
            as_aux_lemma =>
              by_cases hcg : cn < gn
              · go_wp2_with fail
                go_meet
                exact ⟨by simp; omega, rfl⟩
              · go_wp2_with fail
                go_meet
                exact ⟨by simp; omega, rfl⟩
          case rest =>
            obtain ⟨rfl, rfl⟩ := hcut
            by_cases hkm : k < mx
            · have hdt : decide (k < mx) = true := by simp [hkm]
              rw [hdt]
              clear hdt
              have hgr := H_hlt.out.gr
              -- what is posted, or not
              obtain ⟨x, gb, hxb⟩ : ∃ (x : Int) (gb : Bool), (gb = true → ∃ hkc : k < cn, 1 ≤ x ∧ x ≤ 1099511627776) ∧ (gb = (decide (k < cn) && (decide (1 ≤ x) && decide (x ≤ 1099511627776)))) ∧ (∀ hkc : k < C.length, C[k] = x) := by
                by_cases hkc : k < C.length
                · refine ⟨C[k], _, fun h => ?_, rfl, fun _ => rfl⟩
                  simp at h
                  exact ⟨h.1, h.2⟩
                · refine ⟨0, _, fun h => ?_, rfl, fun h => absurd h hkc⟩
                  simp at h
              obtain ⟨hxb1, hxb2, hxb3⟩ := hxb
              have H_hgr := Lib.hid hgr; clear hgr; have H_hxb1 := Lib.hid hxb1; clear hxb1; have H_hxb2 := Lib.hid hxb2; clear hxb2; have H_hxb3 := Lib.hid hxb3; clear hxb3
              go_upto_region 14 with (fail)
              go_cut [97] (fun v97 wz => v97 = .bool gb ∧ wz = wc)
              case first =>
                as_aux_lemma =>
                  by_cases k1 : k < cn
                  · obtain ⟨bc, oc, rfl, hbc, hb1, hb2, hcell⟩ := H_hC.out.icell k (by rw [H_hCl.out]; exact k1)
                    rw [H_hxb3.out (by rw [H_hCl.out]; exact k1)] at hcell
                    have hcell := (H_hgr.out.below.cell (p := ⟨bc, oc + k, none⟩) hbc).trans hcell
                    have hbl := Nat.lt_of_lt_of_le hbc H_hgr.out.size
                    by_cases k2 : 1 ≤ x
                    · by_cases k3 : x ≤ 1099511627776
                      · go_wp2_with fail
                        go_meet
                        exact ⟨by rw [H_hxb2.out]; simp [k1, k2, k3], rfl⟩
                      · go_wp2_with fail
                        go_meet
                        exact ⟨by rw [H_hxb2.out]; simp [k1, k2]; omega, rfl⟩
                    · go_wp2_with fail
                      go_meet
                      exact ⟨by rw [H_hxb2.out]; simp [k1]; omega, rfl⟩
                  · go_wp2_with fail
                    go_meet
                    exact ⟨by rw [H_hxb2.out]; simp [k1], rfl⟩
              case rest =>
                obtain ⟨rfl, rfl⟩ := hcut
                go_upto_if 97 with (fail)
                go_cut [13, 14] (fun v13 v14 wz => ∃ (s : Vg.Bx) (aa : Option Addr) (ac : Nat) (L : List Int), v13 = .slice aa L.length ac ∧ v14 = .int .i64 s.lost ∧ LT w wz b (Vg.Lt.K room J) Vg.Lt.M mb mg dp Z s (.slice aa L.length ac) L ∧ s.L = L.drop f ∧ (0 ≤ s.lost ∧ s.lost ≤ k + 1) ∧ L.length ≤ k + 1 ∧ Vg.Lt.Rel L f d J)
                case first =>
                  as_aux_lemma =>
                    cases gb with
                    | false =>
                      go_wp2_with fail
                      go_meet
                      exact ⟨s, aa, ac, L, rfl, rfl, H_hlt.out, H_hsL.out, by omega, by omega, H_hrel.out⟩
                    | true =>
                      obtain ⟨hkc, hx1, hx2⟩ := H_hxb1.out rfl
                      obtain ⟨bc, oc, rfl, hbc, hb1, hb2, hcell⟩ := H_hC.out.icell k (by rw [H_hCl.out]; exact hkc)
                      rw [H_hxb3.out (by rw [H_hCl.out]; exact hkc)] at hcell
                      have hcell := (H_hgr.out.below.cell (p := ⟨bc, oc + k, none⟩) hbc).trans hcell
                      have hbl := Nat.lt_of_lt_of_le hbc H_hgr.out.size
                      obtain ⟨sL, sl⟩ := s
                      have hsl0 : 0 ≤ sl := hlost.1
                      have hsl1 : sl ≤ k := hlost.2
                      have hq := H_hlt.out.p.q
                      by_cases hfu : sL.length = dp
                      · have e0 : Vg.Bx.post ⟨sL, sl⟩ dp x = (⟨sL, sl + 1⟩, 5) := by unfold Vg.Bx.post; rw [if_pos hfu]
                        have hsum : IntKind.i64.wrap (sl + 1) = sl + 1 := by rw [IntWalk.i64_in _ (by omega)]
                        have H_e0 := Lib.hid e0; clear e0; have H_hq := Lib.hid hq; clear hq; have H_hfu := Lib.hid hfu; clear hfu
                        go_wp2_with ((go_at_call 84; (with_reducible refine (lt_post x (H_hlt.out.grows (by (repeat' (first | (with_reducible exact Vg.Grows.refl _) | (with_reducible assumption) | (with_reducible refine Vg.Grows.alloc ?_ _) | (with_reducible refine Vg.Grows.plus ?_ _ _) | (with_reducible refine Vg.Grows.drewN ?_ _) | (with_reducible refine Vg.Grows.drew ?_) | (with_reducible refine Vg.Grows.setCell ?_ ?_ _) | (with_reducible refine Vg.Grows.put ?_ ?_ _) | omega | (simp; omega) | (simp; done))))) ⟨hsl0, by show sl ≤ _; omega⟩).mono ?_); rintro e w3 ⟨rfl, hx3⟩; rw [H_e0.out]; rw [H_e0.out] at hx3; have H_hx3 := Lib.hid hx3; clear hx3))
                        go_meet
                        exact ⟨⟨sL, sl + 1⟩, aa, ac, L, rfl, rfl, H_hx3.out, H_hsL.out, ⟨by show 0 ≤ sl + 1; omega, by show sl + 1 ≤ _; omega⟩, by omega, H_hrel.out⟩
                      · have e0 : Vg.Bx.post ⟨sL, sl⟩ dp x = (⟨sL ++ [x], sl⟩, 0) := by unfold Vg.Bx.post; rw [if_neg hfu]
                        have hLl : L.length ≤ 61 := by omega
                        have H_e0 := Lib.hid e0; clear e0; have H_hq := Lib.hid hq; clear hq; have H_hfu := Lib.hid hfu; clear hfu
                        go_wp2_with (first | (go_at_call 84; (with_reducible refine (lt_post x (H_hlt.out.grows (by (repeat' (first | (with_reducible exact Vg.Grows.refl _) | (with_reducible assumption) | (with_reducible refine Vg.Grows.alloc ?_ _) | (with_reducible refine Vg.Grows.plus ?_ _ _) | (with_reducible refine Vg.Grows.drewN ?_ _) | (with_reducible refine Vg.Grows.drew ?_) | (with_reducible refine Vg.Grows.setCell ?_ ?_ _) | (with_reducible refine Vg.Grows.put ?_ ?_ _) | omega | (simp; omega) | (simp; done))))) ⟨hsl0, by show sl ≤ _; omega⟩).mono ?_); rintro e w3 ⟨rfl, hx3⟩; rw [H_e0.out]; rw [H_e0.out] at hx3; have hcell3 := (hx3.gr.below.cell (p := ⟨bc, oc + k, none⟩) hbc).trans ((H_hgr.out.below.cell (p := ⟨bc, oc + k, none⟩) hbc).symm.trans hcell); have hbl3 := Nat.lt_of_lt_of_le hbc hx3.gr.size; have hq3 := hx3.p.q; have hZ3 := hx3.p.lo.2.2.2.2.2; have H_hx3 := Lib.hid hx3; clear hx3; have H_hq3 := Lib.hid hq3; clear hq3) | (at_builtin; refine Vg.wpList_que (w := _) rfl (.tmp 105) (.tmp 110) 46 rfl Z 2 i0 (.int .i64 0) 1 8 Try.underlying46 hi hz0 hz1 hz2 rfl (by decide) (.slice aa L.length ac) L.length (Vg.ics L) rfl (H_hq3.out.grows (by (repeat' (first | (with_reducible exact Vg.Grows.refl _) | (with_reducible assumption) | (with_reducible refine Vg.Grows.alloc ?_ _) | (with_reducible refine Vg.Grows.plus ?_ _ _) | (with_reducible refine Vg.Grows.drewN ?_ _) | (with_reducible refine Vg.Grows.drew ?_) | (with_reducible refine Vg.Grows.setCell ?_ ?_ _) | (with_reducible refine Vg.Grows.put ?_ ?_ _) | omega | (simp; omega) | (simp; done))))) _ 1 1 [.int .i64 x] rfl rfl (Vg.one_new (by first | rfl | ((try simp only [World.size_alloc, Vg.plus_size, Vg.put_size, World.size_setCell, World.size_drew, World.heap_drewN]) <;> omega))) (by simp [Value.oneCell']) (by decide) (by unfold maxLen; omega) (by omega) (by simp only [World.size_alloc]; omega) ?_; intro v2 W1 y2 m2 hq2 hs2 ho2; obtain ⟨a2, c2, rfl⟩ := hq2.shape; have H_hq2 := Lib.hid hq2; clear hq2; have H_hs2 := Lib.hid hs2; clear hs2; have H_ho2 := Lib.hid ho2; clear ho2))
                        go_meet
                        have e2 : Vg.ics (L ++ [x]) = Vg.ics L ++ [.int .i64 x] := by simp [Vg.ics]
                        have e3 : (L ++ [x]).length = L.length + 1 := by simp
                        refine ⟨⟨sL ++ [x], sl⟩, a2, c2, L ++ [x], by rw [e3], rfl, LT.app H_hx3.out (by (repeat' (first | (with_reducible exact Vg.Grows.refl _) | (with_reducible assumption) | (with_reducible refine Vg.Grows.alloc ?_ _) | (with_reducible refine Vg.Grows.plus ?_ _ _) | (with_reducible refine Vg.Grows.drewN ?_ _) | (with_reducible refine Vg.Grows.drew ?_) | (with_reducible refine Vg.Grows.setCell ?_ ?_ _) | (with_reducible refine Vg.Grows.put ?_ ?_ _) | omega | (simp; omega) | (simp; done)))) H_hs2.out (by rw [e2, e3]; exact H_hq2.out) (by rw [e3]; exact H_ho2.out) (by simp), ?_, ⟨hsl0, by show sl ≤ _; omega⟩, by simp; omega, H_hrel.out.post ⟨hx1, hx2⟩⟩
                        show sL ++ [x] = (L ++ [x]).drop f
                        have h1 := H_hrel.out.le
                        have h2 : sL = L.drop f := H_hsL.out
                        rw [List.drop_append_of_le_length h1, ← h2]
                case rest =>
                  obtain ⟨s2, aa2, ac2, L2, rfl, rfl, hlt2, hsL2, hlost2, hL2, hrel2⟩ := hcut
                  clear H_hlt H_hsL H_hrel
                  have H_hlt2 := Lib.hid hlt2; clear hlt2; have H_hsL2 := Lib.hid hsL2; clear hsL2; have H_hrel2 := Lib.hid hrel2; clear hrel2
                  go_upto_block 2 with (fail)
                  go_cut [16] (fun v16 wz => ∃ (f : Nat) (s : Vg.Bx) (J : List Vg.Jb), v16 = .int .i64 f ∧ LT w wz b (Vg.Lt.K room J) Vg.Lt.M mb mg dp Z s (.slice aa2 L2.length ac2) L2 ∧ s.L = L2.drop f ∧ s.lost = s2.lost ∧ Vg.Lt.Rel L2 f d J ∧ Vg.Kn.Inv 0 (Vg.Lt.K room J))
                  case first =>
                    as_aux_lemma =>
                      go_wp2_with fail
                      go_loopw [16] (fun v16 wr => ∃ (f : Nat) (s : Vg.Bx) (J : List Vg.Jb), v16 = .int .i64 f ∧ LT w wr b (Vg.Lt.K room J) Vg.Lt.M mb mg dp Z s (.slice aa2 L2.length ac2) L2 ∧ s.L = L2.drop f ∧ s.lost = s2.lost ∧ Vg.Lt.Rel L2 f d J ∧ Vg.Kn.Inv 0 (Vg.Lt.K room J)) (fun v _ => L2.length - (intOf v).toNat)
                      case atStart => exact ⟨f, s2, J, rfl, H_hlt2.out, H_hsL2.out, rfl, H_hrel2.out, H_hinv.out⟩
                      case round =>
                        clear H_hlt2 H_hsL2 H_hrel2 H_hinv
                        obtain ⟨f, s, J, rfl, hlt, hsL, hso, hrel, hinv⟩ := hrel
                        obtain ⟨sL, sl⟩ := s
                        simp only [] at hsL hso
                        by_cases hw : (J.length : Int) < room
                        · cases sL with
                          | nil =>
                            have H_hlt := Lib.hid hlt; clear hlt; have H_hsL := Lib.hid hsL; clear hsL; have H_hso := Lib.hid hso; clear hso; have H_hrel := Lib.hid hrel; clear hrel; have H_hinv := Lib.hid hinv; clear hinv
                            go_wp2_with (first | (go_at_call 76; (with_reducible refine (kx_waiting 0 (H_hlt.out.grows (by (repeat' (first | (with_reducible exact Vg.Grows.refl _) | (with_reducible assumption) | (with_reducible refine Vg.Grows.alloc ?_ _) | (with_reducible refine Vg.Grows.plus ?_ _ _) | (with_reducible refine Vg.Grows.drewN ?_ _) | (with_reducible refine Vg.Grows.drew ?_) | (with_reducible refine Vg.Grows.setCell ?_ ?_ _) | (with_reducible refine Vg.Grows.put ?_ ?_ _) | omega | (simp; omega) | (simp; done))))) (Vg.Lt.waiting room J)).mono ?_); rintro e w4 ⟨rfl, rfl⟩) | (go_at_call 85; (with_reducible refine (lt_len (H_hlt.out.grows (by (repeat' (first | (with_reducible exact Vg.Grows.refl _) | (with_reducible assumption) | (with_reducible refine Vg.Grows.alloc ?_ _) | (with_reducible refine Vg.Grows.plus ?_ _ _) | (with_reducible refine Vg.Grows.drewN ?_ _) | (with_reducible refine Vg.Grows.drew ?_) | (with_reducible refine Vg.Grows.setCell ?_ ?_ _) | (with_reducible refine Vg.Grows.put ?_ ?_ _) | omega | (simp; omega) | (simp; done)))))).mono ?_); rintro e w4 ⟨rfl, rfl⟩))
                            all_goals go_meet
                            all_goals exact ⟨f, ⟨[], sl⟩, J, rfl, H_hlt.out.grows (by (repeat' (first | (with_reducible exact Vg.Grows.refl _) | (with_reducible assumption) | (with_reducible refine Vg.Grows.alloc ?_ _) | (with_reducible refine Vg.Grows.plus ?_ _ _) | (with_reducible refine Vg.Grows.drewN ?_ _) | (with_reducible refine Vg.Grows.drew ?_) | (with_reducible refine Vg.Grows.setCell ?_ ?_ _) | (with_reducible refine Vg.Grows.put ?_ ?_ _) | omega | (simp; omega) | (simp; done)))), H_hsL.out, H_hso.out, H_hrel.out, H_hinv.out⟩
                          | cons x ts =>
                            have hfl : f < L2.length := by
                              have := congrArg List.length hsL
                              rw [List.length_drop] at this
                              simp at this; omega
                            have hdr := List.drop_eq_getElem_cons hfl
                            rw [hdr] at hsL
                            obtain ⟨rfl, hts⟩ := List.cons.inj hsL
                            have hx := hrel.ok _ (List.getElem_mem hfl)
                            have hle := hrel.le
                            have hre := Vg.Lt.release (room := room) (J := J) (a := (f : Int)) hx ⟨by omega, by omega⟩ hw
                            have hinv2 := hinv.release 0 L2[f] f
                            rw [hre] at hinv2
                            have hinv3 := Vg.Lt.inv0 hinv2
                            have hrel2 := hrel.fetch hfl
                            have e0 : Vg.Bx.fetch ⟨L2[f] :: ts, sl⟩ = (⟨ts, sl⟩, L2[f], 0) := rfl
                            have hgr5 := hlt.gr
                            obtain ⟨g1, o1, rfl, hcc1, hmm1⟩ := hlt.open hfl
                            have hfi : ¬ (L2.length : Int) ≤ f := by omega
                            have hgl : g1 < wr.heap.size := (hlt.p.q.lt g1 rfl).2
                            have hxx : (L2[f] != L2[f]) = false := by simp
                            obtain ⟨x, hxe⟩ : ∃ x, L2[f] = x := ⟨_, rfl⟩
                            rw [hxe] at hre hinv2 hinv3 hrel2 e0 hxx hlt hdr
                            have H_hlt := Lib.hid hlt; clear hlt; have H_hso := Lib.hid hso; clear hso; have H_hrel := Lib.hid hrel; clear hrel; have H_hinv := Lib.hid hinv; clear hinv; have H_hdr := Lib.hid hdr; clear hdr; have H_hts := Lib.hid hts; clear hts; have H_hre := Lib.hid hre; clear hre; have H_hinv2 := Lib.hid hinv2; clear hinv2; have H_hinv3 := Lib.hid hinv3; clear hinv3; have H_hrel2 := Lib.hid hrel2; clear hrel2; have H_e0 := Lib.hid e0; clear e0; have H_hxe := Lib.hid hxe; clear hxe
                            go_wp2_with (first | (go_at_call 76; (with_reducible refine (kx_waiting 0 (H_hlt.out.grows (by (repeat' (first | (with_reducible exact Vg.Grows.refl _) | (with_reducible assumption) | (with_reducible refine Vg.Grows.alloc ?_ _) | (with_reducible refine Vg.Grows.plus ?_ _ _) | (with_reducible refine Vg.Grows.drewN ?_ _) | (with_reducible refine Vg.Grows.drew ?_) | (with_reducible refine Vg.Grows.setCell ?_ ?_ _) | (with_reducible refine Vg.Grows.put ?_ ?_ _) | omega | (simp; omega) | (simp; done))))) (Vg.Lt.waiting room J)).mono ?_); rintro e w4 ⟨rfl, rfl⟩) | (go_at_call 85; (with_reducible refine (lt_len (H_hlt.out.grows (by (repeat' (first | (with_reducible exact Vg.Grows.refl _) | (with_reducible assumption) | (with_reducible refine Vg.Grows.alloc ?_ _) | (with_reducible refine Vg.Grows.plus ?_ _ _) | (with_reducible refine Vg.Grows.drewN ?_ _) | (with_reducible refine Vg.Grows.drew ?_) | (with_reducible refine Vg.Grows.setCell ?_ ?_ _) | (with_reducible refine Vg.Grows.put ?_ ?_ _) | omega | (simp; omega) | (simp; done)))))).mono ?_); rintro e w4 ⟨rfl, rfl⟩) | (go_at_call 86; (with_reducible refine (lt_fetch (H_hlt.out.grows (by (repeat' (first | (with_reducible exact Vg.Grows.refl _) | (with_reducible assumption) | (with_reducible refine Vg.Grows.alloc ?_ _) | (with_reducible refine Vg.Grows.plus ?_ _ _) | (with_reducible refine Vg.Grows.drewN ?_ _) | (with_reducible refine Vg.Grows.drew ?_) | (with_reducible refine Vg.Grows.setCell ?_ ?_ _) | (with_reducible refine Vg.Grows.put ?_ ?_ _) | omega | (simp; omega) | (simp; done)))))).mono ?_); rintro e w5 ⟨rfl, hx5⟩; rw [H_e0.out]; rw [H_e0.out] at hx5; have c5 := hx5.cell hfl; rw [H_hxe.out] at c5; have l5 := (hx5.p.q.lt g1 rfl).2; have H_hx5 := Lib.hid hx5; clear hx5) | (go_at_call 81; (with_reducible refine (kx_release 0 x f (H_hx5.out.grows (by (repeat' (first | (with_reducible exact Vg.Grows.refl _) | (with_reducible assumption) | (with_reducible refine Vg.Grows.alloc ?_ _) | (with_reducible refine Vg.Grows.plus ?_ _ _) | (with_reducible refine Vg.Grows.drewN ?_ _) | (with_reducible refine Vg.Grows.drew ?_) | (with_reducible refine Vg.Grows.setCell ?_ ?_ _) | (with_reducible refine Vg.Grows.put ?_ ?_ _) | omega | (simp; omega) | (simp; done))))) H_hinv.out (by decide) H_hre.out).mono ?_); rintro e w6 ⟨rfl, hx6⟩; have H_hx6 := Lib.hid hx6; clear hx6))
                            exact ⟨⟨f + 1, ⟨ts, sl⟩, _, by go_num, H_hx6.out, H_hts.out, H_hso.out, H_hrel2.out, H_hinv3.out⟩, by simp [intOf]; omega⟩
                        · have H_hlt := Lib.hid hlt; clear hlt; have H_hsL := Lib.hid hsL; clear hsL; have H_hso := Lib.hid hso; clear hso; have H_hrel := Lib.hid hrel; clear hrel; have H_hinv := Lib.hid hinv; clear hinv
                          go_wp2_with (first | (go_at_call 76; (with_reducible refine (kx_waiting 0 (H_hlt.out.grows (by (repeat' (first | (with_reducible exact Vg.Grows.refl _) | (with_reducible assumption) | (with_reducible refine Vg.Grows.alloc ?_ _) | (with_reducible refine Vg.Grows.plus ?_ _ _) | (with_reducible refine Vg.Grows.drewN ?_ _) | (with_reducible refine Vg.Grows.drew ?_) | (with_reducible refine Vg.Grows.setCell ?_ ?_ _) | (with_reducible refine Vg.Grows.put ?_ ?_ _) | omega | (simp; omega) | (simp; done))))) (Vg.Lt.waiting room J)).mono ?_); rintro e w4 ⟨rfl, rfl⟩) | (go_at_call 85; (with_reducible refine (lt_len (H_hlt.out.grows (by (repeat' (first | (with_reducible exact Vg.Grows.refl _) | (with_reducible assumption) | (with_reducible refine Vg.Grows.alloc ?_ _) | (with_reducible refine Vg.Grows.plus ?_ _ _) | (with_reducible refine Vg.Grows.drewN ?_ _) | (with_reducible refine Vg.Grows.drew ?_) | (with_reducible refine Vg.Grows.setCell ?_ ?_ _) | (with_reducible refine Vg.Grows.put ?_ ?_ _) | omega | (simp; omega) | (simp; done)))))).mono ?_); rintro e w4 ⟨rfl, rfl⟩))
                          all_goals go_meet
                          all_goals exact ⟨f, ⟨sL, sl⟩, J, rfl, H_hlt.out.grows (by (repeat' (first | (with_reducible exact Vg.Grows.refl _) | (with_reducible assumption) | (with_reducible refine Vg.Grows.alloc ?_ _) | (with_reducible refine Vg.Grows.plus ?_ _ _) | (with_reducible refine Vg.Grows.drewN ?_ _) | (with_reducible refine Vg.Grows.drew ?_) | (with_reducible refine Vg.Grows.setCell ?_ ?_ _) | (with_reducible refine Vg.Grows.put ?_ ?_ _) | omega | (simp; omega) | (simp; done)))), H_hsL.out, H_hso.out, H_hrel.out, H_hinv.out⟩
                  case rest =>
                    clear H_hlt2 H_hsL2 H_hrel2 H_hinv
                    obtain ⟨f3, s3, J3, rfl, hlt3, hsL3, hso3, hrel3, hinv3⟩ := hcut
                    by_cases k4 : k < gn
                    · obtain ⟨c, hce⟩ : ∃ c, ∀ h : k < G.length, G[k] = c := ⟨G[k]'(by rw [H_hGl.out]; exact k4), fun _ => rfl⟩
                      obtain ⟨J', d1, d2, d3, is, r, hrun, hways⟩ := Vg.Lt.runs hinv3 c
                      have hinv4 : Vg.Kn.Inv 0 (Vg.Lt.K room J') := by
                        have := hinv3.run Vg.Lt.M (Vg.Kn.far (Vg.Lt.K room J3) Vg.Lt.M c)
                        rw [hrun] at this
                        exact this
                      obtain ⟨lf, hlf⟩ : ∃ lf, Vg.Kn.left (Vg.Lt.K room J3) Vg.Lt.M = lf := ⟨_, rfl⟩
                      have hlb := Vg.Kn.left_nonneg hinv3 Vg.Lt.M
                      rw [hlf] at hlb
                      obtain ⟨hl0, hl1⟩ := hlb
                      obtain ⟨qf, hqf⟩ : ∃ qf, Vg.Kn.far (Vg.Lt.K room J3) Vg.Lt.M c = qf := ⟨_, rfl⟩
                      have hqm : min (max c 0) lf = qf := by rw [← hqf, ← hlf]; rfl
                      rw [hqf] at hrun
                      have hcase : (c < 0 ∧ 0 ≤ lf ∧ qf = 0) ∨ (0 ≤ c ∧ c ≤ lf ∧ qf = c) ∨ (0 ≤ c ∧ lf < c ∧ qf = lf) := by omega
                      obtain ⟨bg, og, rfl, hbg, hbg1, hbg2, hcell⟩ := H_hG.out.icell k (by rw [H_hGl.out]; exact k4)
                      rw [hce (by rw [H_hGl.out]; exact k4)] at hcell
                      have hgr3 := hlt3.gr
                      have c0 := (hgr3.below.cell (p := ⟨bg, og + k, none⟩) hbg).trans hcell
                      have l0 := Nat.lt_of_lt_of_le hbg hgr3.size
                      have hkz3 := hlt3.kz
                      have H_hcell := Lib.hid hcell
                      clear hcell
                      have H_hlt3 := Lib.hid hlt3; clear hlt3; have H_hsL3 := Lib.hid hsL3; clear hsL3; have H_hso3 := Lib.hid hso3; clear hso3; have H_hrel3 := Lib.hid hrel3; clear hrel3; have H_hinv3 := Lib.hid hinv3; clear hinv3; have H_hrun := Lib.hid hrun; clear hrun; have H_hways := Lib.hid hways; clear hways; have H_hinv4 := Lib.hid hinv4; clear hinv4; have H_hlf := Lib.hid hlf; clear hlf; have H_hqf := Lib.hid hqf; clear hqf; have H_hqm := Lib.hid hqm; clear hqm; have H_hce := Lib.hid hce; clear hce; have H_hgr3 := Lib.hid hgr3; clear hgr3; have H_hkz3 := Lib.hid hkz3; clear hkz3; have H_hcase := Lib.hid hcase; clear hcase
                      go_upto_region 24 with (fail)
                      go_cut [20, 21, 22] (fun v20 v21 v22 wz => ∃ dd, v20 = .pointer (some ⟨dd, 0, none⟩) ∧ v21 = .bool is ∧ v22 = .int .i64 r ∧ LT w wz b (Vg.Lt.K room J') Vg.Lt.M mb mg dp Z s3 (.slice aa2 L2.length ac2) L2 ∧ Vg.blk wz dd = some (doneC d1 d2 d3))
                      case first =>
                        as_aux_lemma =>
                          have m1 : ∀ z, ¬ wc.heap.size + z = bg := fun z => by omega
                          have m3 : ¬ wc.heap.size = bg := by omega
                          rcases H_hcase.out with ⟨g1, g2, e1⟩ | ⟨g1, g2, e1⟩ | ⟨g1, g2, e1⟩
                          all_goals
                            have hrn := H_hrun.out
                            rw [e1] at hrn
                            clear e1
                            have HC := Lib.hid g1
                            have HL := Lib.hid g2
                            have H_hrn := Lib.hid hrn; clear hrn
                            go_region_held3 (fun w' => bg < w'.heap.size ∧ w'.cell? ⟨bg, og + k, none⟩ = some (.int .i64 c))
                              ((go_split_ands; (try dsimp only); go_simp))
                              (first | (go_at_call 69; (with_reducible refine (kz_left (H_hkz3.out.grows (by (repeat' (first | (with_reducible exact Vg.Grows.refl _) | (with_reducible assumption) | (with_reducible refine Vg.Grows.alloc ?_ _) | (with_reducible refine Vg.Grows.plus ?_ _ _) | (with_reducible refine Vg.Grows.drewN ?_ _) | (with_reducible refine Vg.Grows.drew ?_) | (with_reducible refine Vg.Grows.setCell ?_ ?_ _) | (with_reducible refine Vg.Grows.put ?_ ?_ _) | omega | (simp; omega) | (simp; done))))) H_hinv3.out H_hlf.out).mono ?_); rintro e w1' ⟨rfl, x1, n1, rfl⟩) | (go_at_call 87; (try simp only [if_neg (Int.not_lt.2 HC.out)]); (try simp only [if_pos HC.out]); (try simp only [if_pos HL.out]); (try simp only [if_neg (Int.not_lt.2 HL.out)]); (with_reducible refine (ky_run H_hkz3.out (by (repeat' (first | (with_reducible exact Vg.Grows.refl _) | (with_reducible assumption) | (with_reducible refine Vg.Grows.alloc ?_ _) | (with_reducible refine Vg.Grows.plus ?_ _ _) | (with_reducible refine Vg.Grows.drewN ?_ _) | (with_reducible refine Vg.Grows.drew ?_) | (with_reducible refine Vg.Grows.setCell ?_ ?_ _) | (with_reducible refine Vg.Grows.put ?_ ?_ _) | omega | (simp; omega) | (simp; done)))) H_hinv3.out H_hrn.out).mono ?_); rintro e w3 ⟨rfl, hy⟩; have c3 := (hy.kz.gr.below.cell (p := ⟨bg, og + k, none⟩) hbg).trans H_hcell.out; have l3 := Nat.lt_of_lt_of_le hbg hy.kz.gr.size; (first | (have zq := hy.mid; have c_zq := Vg.cells_of zq; have f_zq := Vg.frozen_of zq; have p_zq := Vg.setCell_of zq; have l_zq := Vg.lt_of zq; have H_zq := Lib.hid zq; clear zq) | (have zq := hy.pre; have c_zq := Vg.cells_of zq; have f_zq := Vg.frozen_of zq; have p_zq := Vg.setCell_of zq; have l_zq := Vg.lt_of zq; have H_zq := Lib.hid zq; clear zq) | skip); have H_hy := Lib.hid hy; clear hy))
                            all_goals go_wp2_with fail
                            all_goals go_meet
                            all_goals first
                              | exact ⟨_, rfl, rfl, rfl, H_hlt3.out.leaf1 H_hy.out _⟩
                              | exact ⟨_, rfl, rfl, rfl, H_hlt3.out.mid2 H_hy.out _⟩
                              | exact ⟨_, rfl, rfl, rfl, H_hlt3.out.pre2 H_hy.out _⟩
                      case rest =>
                        obtain ⟨dd, rfl, rfl, rfl, hlt4, yd⟩ := hcut
                        have c_yd := Vg.cells_of yd; have f_yd := Vg.frozen_of yd; have p_yd := Vg.setCell_of yd; have l_yd := Vg.lt_of yd; have H_yd := Lib.hid yd; clear yd
                        clear H_hlt3 H_hkz3 H_hgr3 c0 l0
                        rcases H_hways.out with ⟨rfl, rfl, rfl, rfl⟩ | ⟨rfl, rfl, j, rfl, rfl, rfl, rfl⟩ | ⟨rfl, rfl, j, l, wn, rfl, rfl⟩
                        · have hfd : ¬ d < f3 := by have := H_hrel3.out.sum; simp at this; omega
                          have H_hlt4 := Lib.hid hlt4; clear hlt4
                          go_wp2_with fail
                          exact ⟨⟨k + 1, f3, d, s3, aa2, ac2, L2, [], by omega, rfl, by rw [H_hso3.out], rfl, rfl, by go_num, H_hlt4.out, H_hsL3.out, by rw [H_hso3.out]; omega, by omega, H_hrel3.out, H_hinv4.out⟩, by simp [intOf]; omega⟩
                        · obtain ⟨hdL, hcost, hat, hdf⟩ := H_hrel3.out.head
                          have hfd : ¬ f3 ≤ d := by omega
                          obtain ⟨g1, o1, rfl, hcc1, hmm1⟩ := hlt4.open hdL
                          have c5 := hlt4.cell hdL
                          have l5 := (hlt4.p.q.lt g1 rfl).2
                          rw [← hcost] at c5
                          have hrel5 := H_hrel3.out.done
                          obtain ⟨jc, ja, jw⟩ := j
                          simp only [] at hcost hat c5
                          subst hat
                          have hdi : (d : Int) < (L2.length : Int) := by omega
                          have H_hlt4 := Lib.hid hlt4; clear hlt4; have H_hcost := Lib.hid hcost; clear hcost; have H_hrel5 := Lib.hid hrel5; clear hrel5
                          go_upto_region 28 with (fail)
                          go_quiet (fail)
                          go_wp2_with fail
                          exact ⟨⟨k + 1, f3, d + 1, s3, _, ac2, L2, J', by omega, rfl, by rw [H_hso3.out], by go_num, rfl, by go_num, H_hlt4.out.grows (by (repeat' (first | (with_reducible exact Vg.Grows.refl _) | (with_reducible assumption) | (with_reducible refine Vg.Grows.alloc ?_ _) | (with_reducible refine Vg.Grows.plus ?_ _ _) | (with_reducible refine Vg.Grows.drewN ?_ _) | (with_reducible refine Vg.Grows.drew ?_) | (with_reducible refine Vg.Grows.setCell ?_ ?_ _) | (with_reducible refine Vg.Grows.put ?_ ?_ _) | omega | (simp; omega) | (simp; done)))), H_hsL3.out, by rw [H_hso3.out]; omega, by omega, H_hrel5.out, H_hinv4.out⟩, by simp [intOf]; omega⟩
                        · obtain ⟨hdL, hcost, hat, hdf⟩ := H_hrel3.out.head
                          have hrel5 := H_hrel3.out.went wn
                          have H_hlt4 := Lib.hid hlt4; clear hlt4; have H_hcost := Lib.hid hcost; clear hcost; have H_hat := Lib.hid hat; clear hat; have H_hrel5 := Lib.hid hrel5; clear hrel5
                          go_wp2_with fail
                          exact ⟨⟨k + 1, f3, d, s3, aa2, ac2, L2, _, by omega, rfl, by rw [H_hso3.out], rfl, rfl, by go_num, H_hlt4.out, H_hsL3.out, by rw [H_hso3.out]; omega, by omega, H_hrel5.out, H_hinv4.out⟩, by simp [intOf]; omega⟩
                    · have H_hlt3 := Lib.hid hlt3; clear hlt3; have H_hsL3 := Lib.hid hsL3; clear hsL3; have H_hso3 := Lib.hid hso3; clear hso3; have H_hrel3 := Lib.hid hrel3; clear hrel3; have H_hinv3 := Lib.hid hinv3; clear hinv3
                      go_wp2_with fail
                      exact ⟨⟨k + 1, f3, d, s3, aa2, ac2, L2, J3, by omega, rfl, by rw [H_hso3.out], rfl, rfl, by go_num, H_hlt3.out, H_hsL3.out, by rw [H_hso3.out]; omega, by omega, H_hrel3.out, H_hinv3.out⟩, by simp [intOf]; omega⟩
            · have hkx : k = mx := by omega
              have hdt : decide (k < mx) = false := by simp [hkm]
              rw [hdt]
              clear hdt
              obtain ⟨sL, sl⟩ := s
              have hsum := H_hrel.out.sum
              have hle := H_hrel.out.le
              have hs1 : IntKind.i64.wrap ((f : Int) - d) = (J.length : Int) := by rw [IntWalk.i64_in _ (by omega)]; omega
              have hs2 : IntKind.i64.wrap ((L.length : Int) - f) = (sL.length : Int) := by
                have h2 : sL = L.drop f := H_hsL.out
                rw [IntWalk.i64_in _ (by omega), h2, List.length_drop]; omega
              have hq := H_hlt.out.p.q
              have H_hsum := Lib.hid hsum; clear hsum; have H_hle := Lib.hid hle; clear hle; have H_hq := Lib.hid hq; clear hq
              go_wp2_with (first | (go_at_call 88; (with_reducible refine (lt_lost (H_hlt.out.grows (by (repeat' (first | (with_reducible exact Vg.Grows.refl _) | (with_reducible assumption) | (with_reducible refine Vg.Grows.alloc ?_ _) | (with_reducible refine Vg.Grows.plus ?_ _ _) | (with_reducible refine Vg.Grows.drewN ?_ _) | (with_reducible refine Vg.Grows.drew ?_) | (with_reducible refine Vg.Grows.setCell ?_ ?_ _) | (with_reducible refine Vg.Grows.put ?_ ?_ _) | omega | (simp; omega) | (simp; done)))))).mono ?_); rintro e w4 ⟨rfl, rfl⟩) | (go_at_call 77; (with_reducible refine (kx_lost 0 (H_hlt.out.grows (by (repeat' (first | (with_reducible exact Vg.Grows.refl _) | (with_reducible assumption) | (with_reducible refine Vg.Grows.alloc ?_ _) | (with_reducible refine Vg.Grows.plus ?_ _ _) | (with_reducible refine Vg.Grows.drewN ?_ _) | (with_reducible refine Vg.Grows.drew ?_) | (with_reducible refine Vg.Grows.setCell ?_ ?_ _) | (with_reducible refine Vg.Grows.put ?_ ?_ _) | omega | (simp; omega) | (simp; done))))) (Vg.Lt.lost room J)).mono ?_); rintro e w4 ⟨rfl, rfl⟩) | (go_at_call 76; (with_reducible refine (kx_waiting 0 (H_hlt.out.grows (by (repeat' (first | (with_reducible exact Vg.Grows.refl _) | (with_reducible assumption) | (with_reducible refine Vg.Grows.alloc ?_ _) | (with_reducible refine Vg.Grows.plus ?_ _ _) | (with_reducible refine Vg.Grows.drewN ?_ _) | (with_reducible refine Vg.Grows.drew ?_) | (with_reducible refine Vg.Grows.setCell ?_ ?_ _) | (with_reducible refine Vg.Grows.put ?_ ?_ _) | omega | (simp; omega) | (simp; done))))) (Vg.Lt.waiting room J)).mono ?_); rintro e w4 ⟨rfl, rfl⟩) | (go_at_call 85; (with_reducible refine (lt_len (H_hlt.out.grows (by (repeat' (first | (with_reducible exact Vg.Grows.refl _) | (with_reducible assumption) | (with_reducible refine Vg.Grows.alloc ?_ _) | (with_reducible refine Vg.Grows.plus ?_ _ _) | (with_reducible refine Vg.Grows.drewN ?_ _) | (with_reducible refine Vg.Grows.drew ?_) | (with_reducible refine Vg.Grows.setCell ?_ ?_ _) | (with_reducible refine Vg.Grows.put ?_ ?_ _) | omega | (simp; omega) | (simp; done)))))).mono ?_); rintro e w4 ⟨rfl, rfl⟩))
              go_ret
              exact ⟨rfl, H_hlt.out.gr.trans (by (repeat' (first | (with_reducible exact Vg.Grows.refl _) | (with_reducible assumption) | (with_reducible refine Vg.Grows.alloc ?_ _) | (with_reducible refine Vg.Grows.plus ?_ _ _) | (with_reducible refine Vg.Grows.drewN ?_ _) | (with_reducible refine Vg.Grows.drew ?_) | (with_reducible refine Vg.Grows.setCell ?_ ?_ _) | (with_reducible refine Vg.Grows.put ?_ ?_ _) | omega | (simp; omega) | (simp; done))))⟩
    · have hdp2 : depth < 1 ∨ 1024 < depth := by omega
      clear hdp
      have H_hC := Lib.hid hC; clear hC; have H_hCl := Lib.hid hCl; clear hCl; have H_hG := Lib.hid hG; clear hG; have H_hGl := Lib.hid hGl; clear hGl; have H_hck := Lib.hid hck; clear hck
      go_enter Try.func14, Try.ntmps14
      go_wp2_with (first | (go_at_call 82; refine (begins07 _).mono ?_; rintro e w' ⟨rfl, rfl⟩) | (go_at_call 83; refine (bx_new_no depth hdp2).mono ?_; rintro e w1 ⟨rfl, rfl⟩) | (go_at_call 64; refine (kz_new (T := [Vg.Lt.t room]) (w0 := w) (by (repeat' (first | (with_reducible exact Vg.Grows.refl _) | (with_reducible assumption) | (with_reducible refine Vg.Grows.alloc ?_ _) | (with_reducible refine Vg.Grows.plus ?_ _ _) | (with_reducible refine Vg.Grows.drewN ?_ _) | (with_reducible refine Vg.Grows.drew ?_) | (with_reducible refine Vg.Grows.setCell ?_ ?_ _) | (with_reducible refine Vg.Grows.put ?_ ?_ _) | omega | (simp; omega) | (simp; done)))) (Vg.TK.block (T := [Vg.Lt.t room]) (Vg.alloc_heap_at (by (try simp only [World.size_alloc, Vg.plus_size, Vg.put_size, World.size_setCell, World.size_drew]) <;> omega)) (by simp [maxLen])) rfl H_hck.out rfl rfl).mono ?_; rintro e w2 ⟨b, rfl, hz, hg2⟩; have H_hz := Lib.hid hz; clear hz; have H_hg2 := Lib.hid hg2; clear hg2))
      go_ret
      exact ⟨rfl, H_hz.out.gr⟩
  · have hck := Vg.Lt.check_no (room := room) (by omega)
    clear hrm
    by_cases hdp : 1 ≤ depth ∧ depth ≤ 1024
    · obtain ⟨dp, rfl⟩ : ∃ dp : Nat, depth = dp := ⟨depth.toNat, by omega⟩
      have hp1 : 1 ≤ dp := by omega
      have hp2 : dp ≤ 1024 := by omega
      clear hdp
      have H_hC := Lib.hid hC; clear hC; have H_hCl := Lib.hid hCl; clear hCl; have H_hG := Lib.hid hG; clear hG; have H_hGl := Lib.hid hGl; clear hGl; have H_hck := Lib.hid hck; clear hck
      go_enter Try.func14, Try.ntmps14
      go_wp2_with (first | (go_at_call 82; refine (begins07 _).mono ?_; rintro e w' ⟨rfl, rfl⟩) | (go_at_call 83; refine (bx_new dp hp1 hp2).mono ?_; rintro e w1 ⟨rfl, hs, rfl⟩; have HSA := Lib.hid hs; clear hs) | (go_at_call 64; refine (kern_new_no (T := [Vg.Lt.t room]) (Vg.TK.block (T := [Vg.Lt.t room]) (Vg.alloc_heap_at (by (try simp only [World.size_alloc, Vg.plus_size, Vg.put_size, World.size_setCell, World.size_drew]) <;> omega)) (by simp [maxLen])) rfl H_hck.out (by decide)).mono ?_; rintro e w2 ⟨rfl, hg2⟩; have H_hg2 := Lib.hid hg2; clear hg2))
      go_ret
      exact ⟨rfl, Vg.Grows.trans (by (repeat' (first | (with_reducible exact Vg.Grows.refl _) | (with_reducible assumption) | (with_reducible refine Vg.Grows.alloc ?_ _) | (with_reducible refine Vg.Grows.plus ?_ _ _) | (with_reducible refine Vg.Grows.drewN ?_ _) | (with_reducible refine Vg.Grows.drew ?_) | (with_reducible refine Vg.Grows.setCell ?_ ?_ _) | (with_reducible refine Vg.Grows.put ?_ ?_ _) | omega | (simp; omega) | (simp; done)))) H_hg2.out⟩
    · have hdp2 : depth < 1 ∨ 1024 < depth := by omega
      clear hdp
      have H_hC := Lib.hid hC; clear hC; have H_hCl := Lib.hid hCl; clear hCl; have H_hG := Lib.hid hG; clear hG; have H_hGl := Lib.hid hGl; clear hGl; have H_hck := Lib.hid hck; clear hck
      go_enter Try.func14, Try.ntmps14
      go_wp2_with (first | (go_at_call 82; refine (begins07 _).mono ?_; rintro e w' ⟨rfl, rfl⟩) | (go_at_call 83; refine (bx_new_no depth hdp2).mono ?_; rintro e w1 ⟨rfl, rfl⟩) | (go_at_call 64; refine (kern_new_no (T := [Vg.Lt.t room]) (Vg.TK.block (T := [Vg.Lt.t room]) (Vg.alloc_heap_at (by (try simp only [World.size_alloc, Vg.plus_size, Vg.put_size, World.size_setCell, World.size_drew]) <;> omega)) (by simp [maxLen])) rfl H_hck.out (by decide)).mono ?_; rintro e w2 ⟨rfl, hg2⟩; have H_hg2 := Lib.hid hg2; clear hg2))
      go_ret
      exact ⟨rfl, Vg.Grows.trans (by (repeat' (first | (with_reducible exact Vg.Grows.refl _) | (with_reducible assumption) | (with_reducible refine Vg.Grows.alloc ?_ _) | (with_reducible refine Vg.Grows.plus ?_ _ _) | (with_reducible refine Vg.Grows.drewN ?_ _) | (with_reducible refine Vg.Grows.drew ?_) | (with_reducible refine Vg.Grows.setCell ?_ ?_ _) | (with_reducible refine Vg.Grows.put ?_ ?_ _) | omega | (simp; omega) | (simp; done)))) H_hg2.out⟩
end Go.Proofs.Ytiinhofmhoplfaa
