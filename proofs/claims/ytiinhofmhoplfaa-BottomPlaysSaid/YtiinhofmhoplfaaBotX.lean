/- BottomPlays: New of the document's threads. -/
import Derived.Test.YtiinhofmhoplfaaBotW
set_option linter.unusedSimpArgs false
set_option linter.unusedVariables false
set_option maxHeartbeats 16000000
set_option maxRecDepth 100000
namespace Vg
open Go
theorem four_new {w : World} {x y z u : Value} {t : TypeId} {n : Nat} (hn : n = w.heap.size) : ∀ j q, [x, y, z, u][j]? = some q → (w.alloc (.cells #[x, y, z, u] t)).cell? ((⟨n, 0, none⟩ : Addr).add j) = some q := by
  subst hn
  intro j q hu
  rw [Addr.add_lit, cells_of (w := w.alloc (.cells #[x, y, z, u] t)) (b := w.heap.size) (cs := #[x, y, z, u]) (t := t) (f := (0, 0)) (alloc_heap_at rfl)]
  simpa using hu
end Vg
namespace Go.Proofs.Ytiinhofmhoplfaa
open Go.ChangeShapes Go.WideShapes Go.ChangeAt Go.RowKit
def RNew (w w' : World) (T : List Vg.Th) (n : Nat) (e : Ending) : Prop :=
  (Vg.goodT T = true ∧ ∃ ta tc sa sc wa wc, e = .returned (.tuple #[.agg #[.slice ta n tc, .slice sa n sc, .slice wa n wc], .bool true]) ∧ RB (fun k => w.heap.size ≤ k ∧ k < w'.heap.size) w' (.agg #[.slice ta n tc, .slice sa n sc, .slice wa n wc]) (T.map Vg.sp0) ((T.map (·.dp)).map Vg.rq0) ∧ Vg.Grows w w') ∨
  (Vg.goodT T = false ∧ (∃ ta tn tc sa sn sc wa wn wc, e = .returned (.tuple #[.agg #[.slice ta tn tc, .slice sa sn sc, .slice wa wn wc], .bool false])) ∧ Vg.Grows w w')
section
variable {W : World} {B0 B n : Nat} {vt vs vd : Value} {T : List Vg.Th} {ps : List Vg.Sp} {L : List Int} {X Y : List (Nat × Obj)}
theorem NRB.sub (h : NRB W B0 B vt vs vd n T ps L X) (hs : ∀ p ∈ Y, p ∈ X) : NRB W B0 B vt vs vd n T ps L Y :=
  ⟨h.qt, h.lt, h.qs, h.qd, h.ds, fun p hp => h.has p (hs p hp), fun q ⟨o, hq⟩ => h.off q ⟨o, hs _ hq⟩⟩
end
theorem goodT_depth {T : List Vg.Th} (h : (T.map (·.dp)).any Vg.oddW = true) : Vg.goodT T = false := by unfold Vg.goodT; rw [h]; simp
theorem goodT_many {T : List Vg.Th} (h : 64 < T.length) : Vg.goodT T = false := by
  unfold Vg.goodT
  have : decide (T.length ≤ 64) = false := by simp; omega
  rw [this]; simp
theorem goodT_all {T : List Vg.Th} (h1 : T.any Vg.oddT = false) (h2 : T.length ≤ 64) (h3 : (T.map (·.dp)).any Vg.oddW = false) : Vg.goodT T = true := by
  unfold Vg.goodT; rw [h1, h3]; simpa using h2
section
variable {w w' : World} {T : List Vg.Th} {sa : Option Addr} {sc n : Nat}
theorem rb_new0 :
    Calls Try.prog 44 #[.slice sa 0 sc] w fun e w' => RNew w w' [] 0 e := by
  obtain ⟨i0, hI, hz0, hz1, hz2⟩ := info_parts Try.info_athread
  go_enter Try.func44, Try.ntmps44
  go_upto_region 2 with (at_builtin; (refine Vg.wpList_copy0 (w := _) rfl (.tmp 12) (.tmp 13) 73 rfl 102 i0 Try.underlying73 hI _ rfl (Vg.alloc_heap_at (by (try simp only [World.size_alloc, Vg.plus_size, Vg.put_size, World.size_setCell, World.size_drew]) <;> omega)) sa sc rfl ?_))
  obtain ⟨W1, hW1, x1, x2, hgw, hs1⟩ : ∃ W1, ((w.alloc rb0).alloc (.cells #[] 102)).alloc (rbC (.slice (some ⟨w.heap.size + 1, 0, none⟩) 0 0) (.slice none 0 0) (.slice none 0 0)) = W1 ∧ Vg.blk W1 w.heap.size = some rb0 ∧ Vg.blk W1 (w.heap.size + 1 + 1) = some (rbC (.slice (some ⟨w.heap.size + 1, 0, none⟩) 0 0) (.slice none 0 0) (.slice none 0 0)) ∧ Vg.Grows w W1 ∧ W1.heap.size = w.heap.size + 3 := ⟨_, rfl, by go_simp, by go_simp, by (repeat' (first | (with_reducible exact Vg.Grows.refl _) | (with_reducible assumption) | (with_reducible refine Vg.Grows.alloc ?_ _) | (with_reducible refine Vg.Grows.plus ?_ _ _) | (with_reducible refine Vg.Grows.drewN ?_ _) | (with_reducible refine Vg.Grows.drew ?_) | (with_reducible refine Vg.Grows.setCell ?_ ?_ _) | (with_reducible refine Vg.Grows.put ?_ ?_ _) | omega | (simp; omega) | (simp; done))), by simp⟩
  rw [hW1]
  clear hW1
  have hpc : ∀ (cs : Array Value) (i : Nat), (Vg.put W1 w.heap.size (.cells cs 80)).cell? ⟨w.heap.size, i, none⟩ = cs[i]? := fun cs i => Vg.cells_of (Vg.put_heap_same (Vg.lt_of x1)) i
  have c_x1 := Vg.cells_of x1; have f_x1 := Vg.frozen_of x1; have p_x1 := Vg.setCell_of x1; have l_x1 := Vg.lt_of x1; have H_x1 := Lib.hid x1; clear x1; have c_x2 := Vg.cells_of x2; have f_x2 := Vg.frozen_of x2; have p_x2 := Vg.setCell_of x2; have l_x2 := Vg.lt_of x2; have H_x2 := Lib.hid x2; clear x2
  have H_hpc := Lib.hid hpc; clear hpc
  go_wp2_with fail
  go_loopw [5, 18] (fun v5 i wr => v5 = .slice none 0 0 ∧ i = .int .i64 0 ∧ wr = W1) (fun _ _ _ => 0)
  case atStart => exact ⟨rfl, rfl, rfl⟩
  case round =>
    obtain ⟨rfl, rfl, rfl⟩ := hrel
    go_wp2_with fail
    refine bodyPost_ret (by simp [results, Try.results44, go_sem, H_hpc.out] <;> try rfl) rfl ?_
    have hg9 := fun o => Vg.Grows.put hgw (Nat.le_refl w.heap.size) o
    refine .inl ⟨by decide, some ⟨w.heap.size + 1, 0, none⟩, 0, none, 0, none, 0, rfl, ⟨⟨_, _, _, _, _, _, rfl, ⟨by simp, by decide, fun k hk => by simp at hk⟩, fun k hk => ?_, Vg.ReadsP.nil _, ⟨⟨none, 0, rfl⟩, Vg.ReadsP.nil _, fun i h => by simp at h, fun i h => by simp at h⟩⟩, fun i hi => by simp at hi⟩, hg9 _⟩
    simp [Value.ownBlock] at hk
    rw [Vg.put_size]
    omega
theorem rb_new (hr : Vg.TR w sa sc T) (hn : T.length = n) (hn0 : 0 < n) (hn2 : n ≤ 4398046511104) :
    Calls Try.prog 44 #[.slice sa n sc] w fun e w' => RNew w w' T n e := by
  obtain ⟨i0, hI, hz0, hz1, hz2⟩ := info_parts Try.info_athread
  obtain ⟨s0, hS, hs0, hs1, hs2⟩ := info_parts Try.info_rserv
  obtain ⟨j0, hJ, hy0, hy1, hy2⟩ := info_parts Try.info_int
  have hcm : n ≤ 9223372036854775807 := by omega
  have hrd := hr.reads hn (by omega)
  have htl : (Vg.tcells T).length = n * 4 := by rw [Vg.tcells_length, hn]
  have hto := Vg.tcells_ones T
  have H_hr := Lib.hid hr; clear hr; have H_hn := Lib.hid hn; clear hn; have H_hrd := Lib.hid hrd; clear hrd; have H_htl := Lib.hid htl; clear htl; have H_hto := Lib.hid hto; clear hto
  go_enter Try.func44, Try.ntmps44
  go_upto_region 2 with (at_builtin; (refine Vg.wpList_appR (W0 := _) ((Vg.Grows.refl _).alloc _) rfl (.tmp 12) (.tmp 13) 73 rfl _ (Nat.le_refl _) (by (try simp only [World.size_alloc, Vg.plus_size, Vg.put_size, World.size_setCell, World.size_drew]) <;> omega) 102 i0 (.agg #[.int .i64 0, .int .i64 0, .int .i64 0, .int .i64 0]) 4 32 Try.underlying73 hI hz0 hz1 hz2 rfl (by decide) _ _ _ rfl (Vg.owns_made0 (by (try simp only [World.size_alloc, Vg.plus_size, Vg.put_size, World.size_setCell, World.size_drew]) <;> omega)) 0 _ _ _ (Vg.tcells T) rfl (H_hrd.out.grows (by (repeat' (first | (with_reducible exact Vg.Grows.refl _) | (with_reducible assumption) | (with_reducible refine Vg.Grows.alloc ?_ _) | (with_reducible refine Vg.Grows.plus ?_ _ _) | (with_reducible refine Vg.Grows.drewN ?_ _) | (with_reducible refine Vg.Grows.drew ?_) | (with_reducible refine Vg.Grows.setCell ?_ ?_ _) | (with_reducible refine Vg.Grows.put ?_ ?_ _) | omega | (simp; omega) | (simp; done))))) H_htl.out H_hto.out (by unfold maxLen; omega) (by omega) ?_); intro v1 y1 m1 hown1 hsz1; simp only [List.nil_append, Nat.zero_add] at hown1; obtain ⟨a1, c1, rfl⟩ := Vg.owns_shape hown1; have hqt := Vg.Que.of_owns hown1; have gp : Vg.Grows (w.alloc rb0) (Vg.plus (w.alloc rb0) y1 m1) := (Vg.Grows.refl _).plus _ _; obtain ⟨Wp, hWp⟩ : ∃ Wp, Vg.plus (w.alloc rb0) y1 m1 = Wp := ⟨_, rfl⟩; rw [hWp] at hqt gp ⊢; clear hWp hsz1 hown1; have H_gp := Lib.hid gp; clear gp; have H_hqt := Lib.hid hqt; clear hqt)
  have gwp : Vg.Grows w Wp := Vg.Grows.trans (by (repeat' (first | (with_reducible exact Vg.Grows.refl _) | (with_reducible assumption) | (with_reducible refine Vg.Grows.alloc ?_ _) | (with_reducible refine Vg.Grows.plus ?_ _ _) | (with_reducible refine Vg.Grows.drewN ?_ _) | (with_reducible refine Vg.Grows.drew ?_) | (with_reducible refine Vg.Grows.setCell ?_ ?_ _) | (with_reducible refine Vg.Grows.put ?_ ?_ _) | omega | (simp; omega) | (simp; done)))) H_gp.out
  have bp := H_gp.out.blk (b := w.heap.size) (o := rb0) (Vg.alloc_heap_at rfl)
  have hbp := Vg.lt_of bp
  have qtl := H_hqt.out.lt
  have qt := H_hqt.out.weaken (B' := w.heap.size) (by simp)
  have hX : Vg.HasX [(Wp.heap.size, rbC (.slice a1 n c1) (.slice none 0 0) (.slice none 0 0)), (w.heap.size, rb0)] (Wp.alloc (rbC (.slice a1 n c1) (.slice none 0 0) (.slice none 0 0))) :=
    Vg.HasX.cons (Vg.HasX.cons (Vg.HasX.nil _) ((Vg.Grows.alloc (Vg.Grows.refl Wp) _).blk bp)) (Vg.alloc_heap_at rfl)
  have hN0 : NRB (Wp.alloc (rbC (.slice a1 n c1) (.slice none 0 0) (.slice none 0 0))) w.heap.size Wp.heap.size (.slice a1 n c1) (.slice none 0 0) (.slice none 0 0) n T [] [] [(Wp.heap.size, rbC (.slice a1 n c1) (.slice none 0 0) (.slice none 0 0)), (w.heap.size, rb0)] :=
    NRB.start (qt.grows ((Vg.Grows.refl _).alloc _)) (fun k hk => (qtl k hk).2) hX (fun q hq hh => by
      have h1 := qtl q hh
      simp only [World.size_alloc] at h1
      rcases hq.cons with rfl | hq
      · omega
      · rcases hq.cons with rfl | hq
        · omega
        · exact Vg.DomX.nil hq)
  obtain ⟨W5, hW5⟩ : ∃ W5, Wp.alloc (rbC (.slice a1 n c1) (.slice none 0 0) (.slice none 0 0)) = W5 := ⟨_, rfl⟩
  have gw5 : Vg.Grows w W5 := by rw [← hW5]; exact gwp.alloc _
  have gs5 : W5.heap.size = Wp.heap.size + 1 := by rw [← hW5]; simp
  rw [hW5] at hN0 ⊢
  clear hW5 hX qt qtl
  obtain ⟨b5, hb5⟩ : ∃ b5, Wp.heap.size = b5 := ⟨_, rfl⟩
  rw [hb5] at hN0 hbp gs5 ⊢
  have m1 : w.heap.size ≠ b5 := by omega
  have m2 : b5 ≠ w.heap.size := by omega
  have hwb : w.heap.size ≤ b5 := by omega
  have H_hN0 := Lib.hid hN0; clear hN0; have H_gw5 := Lib.hid gw5; clear gw5; have H_bp := Lib.hid bp; clear bp; have H_gwp := Lib.hid gwp; clear gwp; have H_hb5 := Lib.hid hb5; clear hb5
  go_wp2_with fail
  go_loopw [5, 18] (fun v5 i wr => ∃ (k : Nat) (vs vd : Value), k ≤ n ∧ i = .int .i64 k ∧ v5 = vd ∧ (T.take k).any Vg.oddT = false ∧ NRB wr w.heap.size b5 (.slice a1 n c1) vs vd n T ((T.take k).map Vg.sp0) ((T.take k).map (·.dp)) [(b5, rbC (.slice a1 n c1) vs (.slice none 0 0)), (w.heap.size, rb0)] ∧ Vg.Grows w wr ∧ b5 + 1 ≤ wr.heap.size) (fun _ i _ => n - (intOf i).toNat)
  case atStart => exact ⟨0, _, _, by omega, rfl, rfl, by simp, by simpa using H_hN0.out, H_gw5.out, by omega⟩
  case round =>
    obtain ⟨k, vs, vd, hk, rfl, rfl, hpre, hN, hgr, hszr⟩ := hrel
    have y1 := hN.has _ List.mem_cons_self
    have y2 : Vg.blk wr w.heap.size = some rb0 := hN.has (w.heap.size, rb0) (by simp)
    by_cases hlt : k < n
    · have hkT : k < T.length := by rw [H_hn.out]; exact hlt
      obtain ⟨g, off, rfl, hg, c0, c1', c2, c3⟩ := H_hr.out.2.2 k hkT
      have hrc := H_hr.out.1
      have hrm : sc ≤ 9223372036854775807 := H_hr.out.2.1
      rw [H_hn.out] at hrc
      have hsn := List.take_succ_eq_append_getElem hkT
      obtain ⟨t, ht⟩ : ∃ t, T[k] = t := ⟨_, rfl⟩
      rw [ht] at c0 c1' c2 c3 hsn
      have c0 := (hgr.below.cell (p := ⟨g, off + k * 4, none⟩) hg).trans c0
      have c1' := (hgr.below.cell (p := ⟨g, off + k * 4 + 1, none⟩) hg).trans c1'
      have c2 := (hgr.below.cell (p := ⟨g, off + k * 4 + 2, none⟩) hg).trans c2
      have c3 := (hgr.below.cell (p := ⟨g, off + k * 4 + 3, none⟩) hg).trans c3
      have hgl : g < wr.heap.size := Nat.lt_of_lt_of_le hg hgr.size
      have hme : t ∈ T := by rw [← ht]; exact List.getElem_mem _
      have hpc : ∀ (W : World) (hW : w.heap.size < W.heap.size) (cs : Array Value) (i : Nat), (Vg.put W w.heap.size (.cells cs 80)).cell? ⟨w.heap.size, i, none⟩ = cs[i]? := fun W hW cs i => Vg.cells_of (Vg.put_heap_same hW) i
      obtain ⟨ok, hok⟩ : ∃ ok, (decide (1 ≤ t.bu) && decide (t.bu ≤ t.pe) && decide (t.pe ≤ 1099511627776)) = ok := ⟨_, rfl⟩
      cases hodd : Vg.oddT t with
      | true =>
        have hbad : Vg.goodT T = false := by
          have : T.any Vg.oddT = true := List.any_eq_true.2 ⟨t, hme, hodd⟩
          unfold Vg.goodT; rw [this]; rfl
        have hfin : ∀ e w', (∃ ta tn tc sa sn sc wa wn wc, e = .returned (.tuple #[.agg #[.slice ta tn tc, .slice sa sn sc, .slice wa wn wc], .bool false])) → Vg.Grows w w' → RNew w w' T n e := fun e w' he h => .inr ⟨hbad, he, h⟩
        have hcase : ok = false ∨ (ok = true ∧ (t.pr < 0 ∨ (¬ t.pr < 0 ∧ 63 < t.pr))) := by
          unfold Vg.oddT at hodd
          cases ok with
          | false => exact .inl rfl
          | true =>
            rw [hok] at hodd
            refine .inr ⟨rfl, ?_⟩
            simp at hodd
            omega
        rcases hcase with rfl | ⟨rfl, h4 | ⟨h4, h5⟩⟩
        all_goals
          have c_y1 := Vg.cells_of y1; have f_y1 := Vg.frozen_of y1; have p_y1 := Vg.setCell_of y1; have l_y1 := Vg.lt_of y1; have H_y1 := Lib.hid y1; clear y1; have c_y2 := Vg.cells_of y2; have f_y2 := Vg.frozen_of y2; have p_y2 := Vg.setCell_of y2; have l_y2 := Vg.lt_of y2; have H_y2 := Lib.hid y2; clear y2
          have H_hpre := Lib.hid hpre; clear hpre; have H_hN := Lib.hid hN; clear hN; have H_hsn := Lib.hid hsn; clear hsn; have H_ht := Lib.hid ht; clear ht; have H_hme := Lib.hid hme; clear hme; have H_hodd := Lib.hid hodd; clear hodd; have H_hbad := Lib.hid hbad; clear hbad; have H_hfin := Lib.hid hfin; clear hfin; have H_hpc := Lib.hid hpc; clear hpc; have H_hok := Lib.hid hok; clear hok
          go_upto_region 8 with ((go_at_call 100; (with_reducible refine (ref15_new t.bu t.pe).mono ?_); rintro e w1 ⟨rfl, hg1⟩; rw [H_hok.out]; have z1 := hg1.blk (((Vg.Grows.refl wr).alloc _).blk H_y1.out); have z2 := hg1.blk (((Vg.Grows.refl wr).alloc _).blk H_y2.out); have z3 := hg1.blk (b := wr.heap.size) (o := thR t) (by go_simp); have gz := Vg.Grows.trans (a := wr) (by (repeat' (first | (with_reducible exact Vg.Grows.refl _) | (with_reducible assumption) | (with_reducible refine Vg.Grows.alloc ?_ _) | (with_reducible refine Vg.Grows.plus ?_ _ _) | (with_reducible refine Vg.Grows.drewN ?_ _) | (with_reducible refine Vg.Grows.drew ?_) | (with_reducible refine Vg.Grows.setCell ?_ ?_ _) | (with_reducible refine Vg.Grows.put ?_ ?_ _) | omega | (simp; omega) | (simp; done)))) hg1; have hsz1 := hg1.size; clear c_y1 f_y1 p_y1 c_y2 f_y2 p_y2; have c_z1 := Vg.cells_of z1; have f_z1 := Vg.frozen_of z1; have p_z1 := Vg.setCell_of z1; have l_z1 := Vg.lt_of z1; have H_z1 := Lib.hid z1; clear z1; have c_z2 := Vg.cells_of z2; have f_z2 := Vg.frozen_of z2; have p_z2 := Vg.setCell_of z2; have l_z2 := Vg.lt_of z2; have H_z2 := Lib.hid z2; clear z2; have c_z3 := Vg.cells_of z3; have f_z3 := Vg.frozen_of z3; have p_z3 := Vg.setCell_of z3; have l_z3 := Vg.lt_of z3; have H_z3 := Lib.hid z3; clear z3; have H_hg1 := Lib.hid hg1; clear hg1; have H_gz := Lib.hid gz; clear gz))
          obtain ⟨W5', hW5, v2, hg5⟩ : ∃ W5', w1.alloc (rservC t.bu t.pe (.slice none 0 0) 0) = W5' ∧ Vg.blk W5' w.heap.size = some rb0 ∧ Vg.Grows w1 W5' := ⟨_, rfl, ((Vg.Grows.refl w1).alloc _).blk H_z2.out, (Vg.Grows.refl w1).alloc _⟩
          rw [hW5]
          clear hW5
          clear c_z1 f_z1 p_z1 c_z2 f_z2 p_z2 c_z3 f_z3 p_z3
          have c_v2 := Vg.cells_of v2; have f_v2 := Vg.frozen_of v2; have p_v2 := Vg.setCell_of v2; have l_v2 := Vg.lt_of v2; have H_v2 := Lib.hid v2; clear v2
          have hpc := H_hpc.out W5' l_v2
          have hgf := fun o' => Vg.Grows.put ((hgr.trans H_gz.out).trans hg5) (Nat.le_refl w.heap.size) o'
          have H_hpc := Lib.hid hpc; clear hpc; have H_hgf := Lib.hid hgf; clear hgf
          go_wp2_with fail
          refine bodyPost_ret (by simp [results, Try.results44, go_sem, H_hpc.out] <;> try rfl) rfl ?_
          exact H_hfin.out _ _ ⟨_, _, _, _, _, _, _, _, _, rfl⟩ (H_hgf.out _)
      | false =>
        obtain ⟨⟨h1, h2, h3⟩, h4, h5⟩ := Vg.oddT_no hodd
        have hokt : ok = true := by rw [← hok]; simp; omega
        subst hokt
        have hnx : (T.take (k + 1)).any Vg.oddT = false := by rw [hsn, List.any_append, hpre]; simp [hodd]
        have hlk : (T.take k).length = k := by rw [List.length_take]; omega
        have hpsl : ((T.take k).map Vg.sp0).length = k := by rw [List.length_map]; exact hlk
        have hdpl : ((T.take k).map (·.dp)).length = k := by rw [List.length_map]; exact hlk
        have hss := hN.qs.shape
        have hds := hN.qd.shape
        rw [hpsl] at hss
        rw [hdpl] at hds
        obtain ⟨ra, rc, rfl⟩ := hss
        obtain ⟨da, dc, rfl⟩ := hds
        have c_y1 := Vg.cells_of y1; have f_y1 := Vg.frozen_of y1; have p_y1 := Vg.setCell_of y1; have l_y1 := Vg.lt_of y1; have H_y1 := Lib.hid y1; clear y1; have c_y2 := Vg.cells_of y2; have f_y2 := Vg.frozen_of y2; have p_y2 := Vg.setCell_of y2; have l_y2 := Vg.lt_of y2; have H_y2 := Lib.hid y2; clear y2
        have H_hpre := Lib.hid hpre; clear hpre; have H_hN := Lib.hid hN; clear hN; have H_hsn := Lib.hid hsn; clear hsn; have H_ht := Lib.hid ht; clear ht; have H_hme := Lib.hid hme; clear hme; have H_hodd := Lib.hid hodd; clear hodd; have H_hpc := Lib.hid hpc; clear hpc; have H_hok := Lib.hid hok; clear hok; have H_hnx := Lib.hid hnx; clear hnx; have H_hlk := Lib.hid hlk; clear hlk; have H_hpsl := Lib.hid hpsl; clear hpsl; have H_hdpl := Lib.hid hdpl; clear hdpl
        go_upto_region 9 with ((go_at_call 100; (with_reducible refine (ref15_new t.bu t.pe).mono ?_); rintro e w1 ⟨rfl, hg1⟩; rw [H_hok.out]; have z1 := hg1.blk (((Vg.Grows.refl wr).alloc _).blk H_y1.out); have z2 := hg1.blk (((Vg.Grows.refl wr).alloc _).blk H_y2.out); have z3 := hg1.blk (b := wr.heap.size) (o := thR t) (by go_simp); have gz := Vg.Grows.trans (a := wr) (by (repeat' (first | (with_reducible exact Vg.Grows.refl _) | (with_reducible assumption) | (with_reducible refine Vg.Grows.alloc ?_ _) | (with_reducible refine Vg.Grows.plus ?_ _ _) | (with_reducible refine Vg.Grows.drewN ?_ _) | (with_reducible refine Vg.Grows.drew ?_) | (with_reducible refine Vg.Grows.setCell ?_ ?_ _) | (with_reducible refine Vg.Grows.put ?_ ?_ _) | omega | (simp; omega) | (simp; done)))) hg1; have hsz1 := hg1.size; clear c_y1 f_y1 p_y1 c_y2 f_y2 p_y2; have c_z1 := Vg.cells_of z1; have f_z1 := Vg.frozen_of z1; have p_z1 := Vg.setCell_of z1; have l_z1 := Vg.lt_of z1; have H_z1 := Lib.hid z1; clear z1; have c_z2 := Vg.cells_of z2; have f_z2 := Vg.frozen_of z2; have p_z2 := Vg.setCell_of z2; have l_z2 := Vg.lt_of z2; have H_z2 := Lib.hid z2; clear z2; have c_z3 := Vg.cells_of z3; have f_z3 := Vg.frozen_of z3; have p_z3 := Vg.setCell_of z3; have l_z3 := Vg.lt_of z3; have H_z3 := Lib.hid z3; clear z3; have H_hg1 := Lib.hid hg1; clear hg1; have H_gz := Lib.hid gz; clear gz))
        obtain ⟨W6, hW6⟩ : ∃ W6, w1.alloc (rservC t.bu t.pe (.slice none 0 0) 0) = W6 := ⟨_, rfl⟩
        have g16 : Vg.Grows w1 W6 := by rw [← hW6]; exact (Vg.Grows.refl _).alloc _
        have v4 : Vg.blk W6 w1.heap.size = some (rservC t.bu t.pe (.slice none 0 0) 0) := by rw [← hW6]; exact Vg.alloc_heap_at rfl
        have hs6 : W6.heap.size = w1.heap.size + 1 := by rw [← hW6]; simp
        rw [hW6]
        clear hW6
        have v1 := g16.blk H_z1.out
        have v2 := g16.blk H_z2.out
        have v3 := g16.blk H_z3.out
        have g06 := H_gz.out.trans g16
        have gw6 := hgr.trans g06
        simp only [World.size_alloc] at hsz1
        have hN6 : NRB W6 w.heap.size b5 (.slice a1 n c1) (.slice ra k rc) (.slice da k dc) n T ((T.take k).map Vg.sp0) ((T.take k).map (·.dp)) [(wr.heap.size, thR t), (b5, rbC (.slice a1 n c1) (.slice ra k rc) (.slice none 0 0)), (w.heap.size, rb0)] := by
          have hh := H_hN.out.grows g06
          refine ⟨hh.qt, hh.lt, hh.qs, hh.qd, hh.ds, Vg.HasX.cons hh.has v3, fun q hq => ?_⟩
          rcases hq.cons with rfl | hq
          · refine ⟨fun h9 => ?_, fun h9 => ?_, fun h9 => ?_⟩
            · have := (H_hN.out.qt.lt _ h9).2; omega
            · have := (H_hN.out.qs.lt _ h9).2; omega
            · have := (H_hN.out.qd.lt _ h9).2; omega
          · exact hh.off q hq
        obtain ⟨bt, hbt⟩ : ∃ bt, wr.heap.size = bt := ⟨_, rfl⟩
        obtain ⟨bs, hbs⟩ : ∃ bs, w1.heap.size = bs := ⟨_, rfl⟩
        rw [hbt] at v3 hN6 hszr hsz1
        rw [hbs] at v4 hs6 hsz1
        simp only [hbt, hbs]
        have hqs6 := hN6.qs
        rw [H_hpsl.out] at hqs6
        clear c_z1 f_z1 p_z1 c_z2 f_z2 p_z2 c_z3 f_z3 p_z3
        clear l_z1 l_z2 l_z3
        have n1 : b5 ≠ bs := by omega
        have n2 : bs ≠ b5 := by omega
        have n3 : bt ≠ b5 := by omega
        have n4 : b5 ≠ bt := by omega
        have c_v1 := Vg.cells_of v1; have f_v1 := Vg.frozen_of v1; have p_v1 := Vg.setCell_of v1; have l_v1 := Vg.lt_of v1; have H_v1 := Lib.hid v1; clear v1; have c_v2 := Vg.cells_of v2; have f_v2 := Vg.frozen_of v2; have p_v2 := Vg.setCell_of v2; have l_v2 := Vg.lt_of v2; have H_v2 := Lib.hid v2; clear v2; have c_v3 := Vg.cells_of v3; have f_v3 := Vg.frozen_of v3; have p_v3 := Vg.setCell_of v3; have l_v3 := Vg.lt_of v3; have H_v3 := Lib.hid v3; clear v3; have c_v4 := Vg.cells_of v4; have f_v4 := Vg.frozen_of v4; have p_v4 := Vg.setCell_of v4; have l_v4 := Vg.lt_of v4; have H_v4 := Lib.hid v4; clear v4
        have H_g16 := Lib.hid g16; clear g16; have H_hN6 := Lib.hid hN6; clear hN6; have H_g06 := Lib.hid g06; clear g06; have H_gw6 := Lib.hid gw6; clear gw6; have H_hbt := Lib.hid hbt; clear hbt; have H_hbs := Lib.hid hbs; clear hbs; have H_hqs6 := Lib.hid hqs6; clear hqs6
        have hB6 : b5 ≤ W6.heap.size := by omega
        go_upto_region 10 with (at_builtin; (refine Vg.wpList_que1 (w := _) rfl (.tmp 44) (.tmp 46) 78 rfl b5 179 s0 (.agg #[.int .i64 0, .int .i64 0, .slice none 0 0, .int .i64 0]) 4 48 Try.underlying78 hS hs0 hs1 hs2 rfl (by decide) (.slice ra k rc) k _ rfl (H_hqs6.out.grows (by (repeat' (first | (with_reducible exact Vg.Grows.refl _) | (with_reducible assumption) | (with_reducible refine Vg.Grows.alloc ?_ _) | (with_reducible refine Vg.Grows.plus ?_ _ _) | (with_reducible refine Vg.Grows.drewN ?_ _) | (with_reducible refine Vg.Grows.drew ?_) | (with_reducible refine Vg.Grows.setCell ?_ ?_ _) | (with_reducible refine Vg.Grows.put ?_ ?_ _) | omega | (simp; omega) | (simp; done))))) _ 1 [.int .i64 t.bu, .int .i64 t.pe, .slice none 0 0, .int .i64 0] rfl rfl (Vg.four_new (by first | rfl | ((try simp only [World.size_alloc, Vg.plus_size, Vg.put_size, World.size_setCell, World.size_drew, World.heap_drewN]) <;> omega))) (by simp [Value.oneCell']) (by unfold maxLen; omega) (by omega) (by decide) (by simp only [World.size_alloc]; omega) ?_); intro v2' W1 yy mm hqv hs2' ho2; obtain ⟨ra2, rc2, rfl⟩ := hqv.shape; have hT7 : Vg.Touch (fun q => (Value.slice ra k rc).ownBlock = some q) W6 (Vg.plus W1 yy mm) := ((Vg.Touch.of_grows (by (repeat' (first | (with_reducible exact Vg.Grows.refl _) | (with_reducible assumption) | (with_reducible refine Vg.Grows.alloc ?_ _) | (with_reducible refine Vg.Grows.plus ?_ _ _) | (with_reducible refine Vg.Grows.drewN ?_ _) | (with_reducible refine Vg.Grows.drew ?_) | (with_reducible refine Vg.Grows.setCell ?_ ?_ _) | (with_reducible refine Vg.Grows.put ?_ ?_ _) | omega | (simp; omega) | (simp; done))))).trans (Vg.Touch.of_same hs2')).trans (Vg.Touch.of_grows ((Vg.Grows.refl W1).plus yy mm)); have hN7 := NRB.apps (x := Vg.sp0 t) H_hN6.out hB6 hT7 rfl (by rw [H_hpsl.out]; exact hqv) (ho2.imp id fun h q hq => by have := h.symm.trans hq; cases this; simp); have g07 := hT7.gr H_gw6.out (fun q hq => by have := (H_hqs6.out.lt q hq).1; omega); have s67 := hT7.size; obtain ⟨W7, hW7⟩ : ∃ W7, Vg.plus W1 yy mm = W7 := ⟨_, rfl⟩; rw [hW7] at hN7 g07 s67 ⊢; clear hW7 hqv hs2' ho2 hT7; have u1 := hN7.has (b5, rbC (.slice a1 n c1) (.slice ra k rc) (.slice none 0 0)) (by simp); have u2 := hN7.has (w.heap.size, rb0) (by simp); have u3 := hN7.has (bt, thR t) (by simp); clear c_v1 f_v1 p_v1 c_v2 f_v2 p_v2 c_v3 f_v3 p_v3 c_v4 f_v4 p_v4; clear l_v1 l_v2 l_v3 l_v4; have c_u1 := Vg.cells_of u1; have f_u1 := Vg.frozen_of u1; have p_u1 := Vg.setCell_of u1; have l_u1 := Vg.lt_of u1; have H_u1 := Lib.hid u1; clear u1; have c_u2 := Vg.cells_of u2; have f_u2 := Vg.frozen_of u2; have p_u2 := Vg.setCell_of u2; have l_u2 := Vg.lt_of u2; have H_u2 := Lib.hid u2; clear u2; have c_u3 := Vg.cells_of u3; have f_u3 := Vg.frozen_of u3; have p_u3 := Vg.setCell_of u3; have l_u3 := Vg.lt_of u3; have H_u3 := Lib.hid u3; clear u3; have H_hN7 := Lib.hid hN7; clear hN7; have H_g07 := Lib.hid g07; clear g07)
        have hN8 := NRB.put (o' := rbC (.slice a1 n c1) (.slice ra2 (k + 1) rc2) (.slice none 0 0)) (NRB.sub (Y := [(b5, rbC (.slice a1 n c1) (.slice ra k rc) (.slice none 0 0)), (bt, thR t), (w.heap.size, rb0)]) H_hN7.out (by simp)) (by intro p hp; simp at hp; rcases hp with rfl | rfl; exact n3; exact m1)
        have g08 := Vg.Grows.put H_g07.out hwb (rbC (.slice a1 n c1) (.slice ra2 (k + 1) rc2) (.slice none 0 0))
        have s8 : (Vg.put W7 b5 (rbC (.slice a1 n c1) (.slice ra2 (k + 1) rc2) (.slice none 0 0))).heap.size = W7.heap.size := Vg.put_size ..
        obtain ⟨W8, hW8⟩ : ∃ W8, Vg.put W7 b5 (rbC (.slice a1 n c1) (.slice ra2 (k + 1) rc2) (.slice none 0 0)) = W8 := ⟨_, rfl⟩
        rw [hW8] at hN8 g08 s8 ⊢
        clear hW8
        have e1 := hN8.has (b5, rbC (.slice a1 n c1) (.slice ra2 (k + 1) rc2) (.slice none 0 0)) (by simp)
        have e2 := hN8.has (w.heap.size, rb0) (by simp)
        have e3 := hN8.has (bt, thR t) (by simp)
        have hqd8 := hN8.qd
        rw [H_hdpl.out] at hqd8
        have hB8 : b5 ≤ W8.heap.size := by omega
        clear c_u1 f_u1 p_u1 c_u2 f_u2 p_u2 c_u3 f_u3 p_u3
        clear l_u1 l_u2 l_u3
        have c_e1 := Vg.cells_of e1; have f_e1 := Vg.frozen_of e1; have p_e1 := Vg.setCell_of e1; have l_e1 := Vg.lt_of e1; have H_e1 := Lib.hid e1; clear e1; have c_e2 := Vg.cells_of e2; have f_e2 := Vg.frozen_of e2; have p_e2 := Vg.setCell_of e2; have l_e2 := Vg.lt_of e2; have H_e2 := Lib.hid e2; clear e2; have c_e3 := Vg.cells_of e3; have f_e3 := Vg.frozen_of e3; have p_e3 := Vg.setCell_of e3; have l_e3 := Vg.lt_of e3; have H_e3 := Lib.hid e3; clear e3
        have H_hN8 := Lib.hid hN8; clear hN8; have H_g08 := Lib.hid g08; clear g08; have H_hqd8 := Lib.hid hqd8; clear hqd8
        go_wp2_with (at_builtin; (refine Vg.wpList_que1 (w := _) rfl (.tmp 49) (.tmp 52) 22 rfl b5 3 j0 (.int .i64 0) 1 8 Try.underlying22 hJ hy0 hy1 hy2 rfl (by decide) (.slice da k dc) k _ rfl (H_hqd8.out.grows (by (repeat' (first | (with_reducible exact Vg.Grows.refl _) | (with_reducible assumption) | (with_reducible refine Vg.Grows.alloc ?_ _) | (with_reducible refine Vg.Grows.plus ?_ _ _) | (with_reducible refine Vg.Grows.drewN ?_ _) | (with_reducible refine Vg.Grows.drew ?_) | (with_reducible refine Vg.Grows.setCell ?_ ?_ _) | (with_reducible refine Vg.Grows.put ?_ ?_ _) | omega | (simp; omega) | (simp; done))))) _ 1 [.int .i64 t.dp] rfl rfl (Vg.one_new (by first | rfl | ((try simp only [World.size_alloc, Vg.plus_size, Vg.put_size, World.size_setCell, World.size_drew, World.heap_drewN]) <;> omega))) (by simp [Value.oneCell']) (by unfold maxLen; omega) (by omega) (by decide) (by simp only [World.size_alloc]; omega) ?_); intro v3' W2 y3 m3 hqw hs3 ho3; obtain ⟨da2, dc2, rfl⟩ := hqw.shape; have hT9 : Vg.Touch (fun q => (Value.slice da k dc).ownBlock = some q) W8 (Vg.plus W2 y3 m3) := ((Vg.Touch.of_grows (by (repeat' (first | (with_reducible exact Vg.Grows.refl _) | (with_reducible assumption) | (with_reducible refine Vg.Grows.alloc ?_ _) | (with_reducible refine Vg.Grows.plus ?_ _ _) | (with_reducible refine Vg.Grows.drewN ?_ _) | (with_reducible refine Vg.Grows.drew ?_) | (with_reducible refine Vg.Grows.setCell ?_ ?_ _) | (with_reducible refine Vg.Grows.put ?_ ?_ _) | omega | (simp; omega) | (simp; done))))).trans (Vg.Touch.of_same hs3)).trans (Vg.Touch.of_grows ((Vg.Grows.refl W2).plus y3 m3)); have hN9 := NRB.appd (d := t.dp) H_hN8.out hB8 hT9 (by rw [H_hdpl.out]; exact hqw) (ho3.imp id fun h q hq => by have := h.symm.trans hq; cases this; simp); have g09 := hT9.gr H_g08.out (fun q hq => by have := (H_hqd8.out.lt q hq).1; omega); have s89 := hT9.size; obtain ⟨W9, hW9⟩ : ∃ W9, Vg.plus W2 y3 m3 = W9 := ⟨_, rfl⟩; rw [hW9] at hN9 g09 s89 ⊢; clear hW9 hqw hs3 ho3 hT9; have H_hN9 := Lib.hid hN9; clear hN9; have H_g09 := Lib.hid g09; clear g09)
        refine ⟨⟨k + 1, .slice ra2 (k + 1) rc2, _, by omega, by go_num, rfl, H_hnx.out, ?_, H_g09.out, by omega⟩, by simp [intOf]; omega⟩
        rw [H_hsn.out, List.map_append, List.map_append]
        exact NRB.sub H_hN9.out (by simp)
    · obtain rfl : k = n := by omega
      have htk : T.take k = T := List.take_of_length_le (by rw [H_hn.out]; exact Nat.le_refl _)
      rw [htk] at hpre hN
      have f1 : (T.map Vg.sp0).length = k := by rw [List.length_map]; exact H_hn.out
      have f2 : (T.map (·.dp)).length = k := by rw [List.length_map]; exact H_hn.out
      have hss := hN.qs.shape
      have hds := hN.qd.shape
      rw [f1] at hss
      rw [f2] at hds
      obtain ⟨ra, rc, rfl⟩ := hss
      obtain ⟨da, dc, rfl⟩ := hds
      have hqd := hN.qd
      rw [f2] at hqd
      have hir : Vg.IR wr da dc (T.map (·.dp)) := Vg.IR.of_reads hqd.reads f2
      have hzz : ((k : Int) == 0) = false := by simp; omega
      have hNf := fun (w2 : World) (hg2 : Vg.Grows wr w2) o o' => NRB.put (o' := o) (NRB.sub (Y := [(b5, rbC (.slice a1 k c1) (.slice ra k rc) (.slice none 0 0)), (w.heap.size, o')]) (NRB.put (o' := o') (NRB.sub (Y := [(w.heap.size, rb0), (b5, rbC (.slice a1 k c1) (.slice ra k rc) (.slice none 0 0))]) (hN.grows hg2) (by simp)) (by intro p hp; simp at hp; rcases hp with rfl; exact m2)) (by simp)) (by intro p hp; simp at hp; rcases hp with rfl; exact m1)
      have hpc : ∀ (w2 : World) (hg2 : Vg.Grows wr w2) (o : Obj) (cs : Array Value) (i : Nat), (Vg.put (Vg.put w2 w.heap.size (.cells cs 80)) b5 o).cell? ⟨w.heap.size, i, none⟩ = cs[i]? := fun w2 hg2 o cs i => Vg.cells_of ((Vg.put_heap_other m2).trans (Vg.put_heap_same (by have := hg2.size; have := hgr.size; omega))) i
      have hgf : ∀ (w2 : World) (hg2 : Vg.Grows wr w2) (o o' : Obj), Vg.Grows w (Vg.put (Vg.put w2 w.heap.size o') b5 o) := fun w2 hg2 o o' => Vg.Grows.put (Vg.Grows.put (hgr.trans hg2) (Nat.le_refl _) _) hwb _
      cases hod : (T.map (·.dp)).any Vg.oddW with
      | true =>
        have hbad := goodT_depth hod
        have c_y1 := Vg.cells_of y1; have f_y1 := Vg.frozen_of y1; have p_y1 := Vg.setCell_of y1; have l_y1 := Vg.lt_of y1; have H_y1 := Lib.hid y1; clear y1; have c_y2 := Vg.cells_of y2; have f_y2 := Vg.frozen_of y2; have p_y2 := Vg.setCell_of y2; have l_y2 := Vg.lt_of y2; have H_y2 := Lib.hid y2; clear y2
        clear hqd hpre
        have H_hN := Lib.hid hN; clear hN; have H_hir := Lib.hid hir; clear hir; have H_hod := Lib.hid hod; clear hod; have H_hbad := Lib.hid hbad; clear hbad; have H_hNf := Lib.hid hNf; clear hNf; have H_hpc := Lib.hid hpc; clear hpc; have H_hgf := Lib.hid hgf; clear hgf; have H_f1 := Lib.hid f1; clear f1; have H_f2 := Lib.hid f2; clear f2; have H_htk := Lib.hid htk; clear htk
        go_upto_region 15 with ((go_at_call 17; (with_reducible refine (rq_new_nox H_f2.out H_hir.out hn2 H_hod.out).mono ?_); rintro e w2 ⟨rfl, hg2⟩; have z1 := hg2.blk H_y1.out; have z2 := hg2.blk H_y2.out; clear c_y1 f_y1 p_y1 c_y2 f_y2 p_y2; have c_z1 := Vg.cells_of z1; have f_z1 := Vg.frozen_of z1; have p_z1 := Vg.setCell_of z1; have l_z1 := Vg.lt_of z1; have H_z1 := Lib.hid z1; clear z1; have c_z2 := Vg.cells_of z2; have f_z2 := Vg.frozen_of z2; have p_z2 := Vg.setCell_of z2; have l_z2 := Vg.lt_of z2; have H_z2 := Lib.hid z2; clear z2; have H_hg2 := Lib.hid hg2; clear hg2))
        have hpc := H_hpc.out w2 H_hg2.out
        have H_hpc := Lib.hid hpc; clear hpc
        go_wp2_with fail
        refine bodyPost_ret (by simp [results, Try.results44, go_sem, H_hpc.out] <;> try rfl) rfl ?_
        exact .inr ⟨H_hbad.out, ⟨_, _, _, _, _, _, _, _, _, rfl⟩, H_hgf.out w2 H_hg2.out _ _⟩
      | false =>
        by_cases h64 : k ≤ 64
        · have hgood := goodT_all hpre (by rw [H_hn.out]; exact h64) hod
          have his : decide (1 ≤ k ∧ k ≤ 64) = true := by simp; omega
          have c_y1 := Vg.cells_of y1; have f_y1 := Vg.frozen_of y1; have p_y1 := Vg.setCell_of y1; have l_y1 := Vg.lt_of y1; have H_y1 := Lib.hid y1; clear y1; have c_y2 := Vg.cells_of y2; have f_y2 := Vg.frozen_of y2; have p_y2 := Vg.setCell_of y2; have l_y2 := Vg.lt_of y2; have H_y2 := Lib.hid y2; clear y2
          clear hqd
          have H_hN := Lib.hid hN; clear hN; have H_hir := Lib.hid hir; clear hir; have H_hod := Lib.hid hod; clear hod; have H_hgood := Lib.hid hgood; clear hgood; have H_hNf := Lib.hid hNf; clear hNf; have H_hpc := Lib.hid hpc; clear hpc; have H_hgf := Lib.hid hgf; clear hgf; have H_f1 := Lib.hid f1; clear f1; have H_f2 := Lib.hid f2; clear f2; have H_htk := Lib.hid htk; clear htk; have H_his := Lib.hid his; clear his; have H_hpre := Lib.hid hpre; clear hpre
          go_upto_region 15 with ((go_at_call 17; (with_reducible refine (rq_newx (S := fun j => wr.heap.size ≤ j) H_f2.out H_hir.out hn2 H_hod.out H_his.out (fun j hj => hj)).mono ?_); rintro e w2 ⟨qa, qc, rfl, hrq, hg2⟩; have z1 := hg2.blk H_y1.out; have z2 := hg2.blk H_y2.out; clear c_y1 f_y1 p_y1 c_y2 f_y2 p_y2; have c_z1 := Vg.cells_of z1; have f_z1 := Vg.frozen_of z1; have p_z1 := Vg.setCell_of z1; have l_z1 := Vg.lt_of z1; have H_z1 := Lib.hid z1; clear z1; have c_z2 := Vg.cells_of z2; have f_z2 := Vg.frozen_of z2; have p_z2 := Vg.setCell_of z2; have l_z2 := Vg.lt_of z2; have H_z2 := Lib.hid z2; clear z2; have H_hrq := Lib.hid hrq; clear hrq; have H_hg2 := Lib.hid hg2; clear hg2))
          have hpc := H_hpc.out w2 H_hg2.out
          have hszr2 := H_hg2.out.size
          have H_hpc := Lib.hid hpc; clear hpc
          go_wp2_with fail
          refine bodyPost_ret (by simp [results, Try.results44, go_sem, H_hpc.out] <;> try rfl) rfl ?_
          refine .inl ⟨H_hgood.out, _, _, _, _, _, _, rfl, ?_, H_hgf.out w2 H_hg2.out _ _⟩
          have hn9 := H_hNf.out w2 H_hg2.out (rbC (.slice a1 k c1) (.slice ra k rc) (.slice qa k qc)) (rbC (.slice a1 k c1) (.slice ra k rc) (.slice qa k qc))
          have hq9 := hn9.qs
          rw [H_f1.out] at hq9
          refine rb_of H_hn.out hn9.qt hq9 hwb (S' := fun j => wr.heap.size ≤ j ∧ j < w2.heap.size) ((RQ.boundz H_hrq.out).touch (t := fun j => j = w.heap.size ∨ j = b5) (((Vg.Touch.refl _ _).put (.inl rfl) _).put (.inr rfl) _) fun j hj => by omega) (by rw [List.length_map]; exact H_f2.out) (fun j hj => ⟨by omega, by rw [Vg.put_size, Vg.put_size]; exact hj.2⟩) (fun j h1 h2 => ⟨h1, h2⟩)
        · have hbad := goodT_many (T := T) (by rw [H_hn.out]; omega)
          have his : decide (1 ≤ k ∧ k ≤ 64) = false := by simp; omega
          have c_y1 := Vg.cells_of y1; have f_y1 := Vg.frozen_of y1; have p_y1 := Vg.setCell_of y1; have l_y1 := Vg.lt_of y1; have H_y1 := Lib.hid y1; clear y1; have c_y2 := Vg.cells_of y2; have f_y2 := Vg.frozen_of y2; have p_y2 := Vg.setCell_of y2; have l_y2 := Vg.lt_of y2; have H_y2 := Lib.hid y2; clear y2
          clear hqd hpre
          have H_hN := Lib.hid hN; clear hN; have H_hir := Lib.hid hir; clear hir; have H_hod := Lib.hid hod; clear hod; have H_hbad := Lib.hid hbad; clear hbad; have H_hNf := Lib.hid hNf; clear hNf; have H_hpc := Lib.hid hpc; clear hpc; have H_hgf := Lib.hid hgf; clear hgf; have H_f1 := Lib.hid f1; clear f1; have H_f2 := Lib.hid f2; clear f2; have H_htk := Lib.hid htk; clear htk; have H_his := Lib.hid his; clear his
          go_upto_region 15 with ((go_at_call 17; (with_reducible refine (rq_newx (S := fun j => wr.heap.size ≤ j) H_f2.out H_hir.out hn2 H_hod.out H_his.out (fun j hj => hj)).mono ?_); rintro e w2 ⟨qa, qc, rfl, hrq, hg2⟩; have z1 := hg2.blk H_y1.out; have z2 := hg2.blk H_y2.out; clear c_y1 f_y1 p_y1 c_y2 f_y2 p_y2; have c_z1 := Vg.cells_of z1; have f_z1 := Vg.frozen_of z1; have p_z1 := Vg.setCell_of z1; have l_z1 := Vg.lt_of z1; have H_z1 := Lib.hid z1; clear z1; have c_z2 := Vg.cells_of z2; have f_z2 := Vg.frozen_of z2; have p_z2 := Vg.setCell_of z2; have l_z2 := Vg.lt_of z2; have H_z2 := Lib.hid z2; clear z2; have H_hrq := Lib.hid hrq; clear hrq; have H_hg2 := Lib.hid hg2; clear hg2))
          have hpc := H_hpc.out w2 H_hg2.out
          have H_hpc := Lib.hid hpc; clear hpc
          go_wp2_with fail
          refine bodyPost_ret (by simp [results, Try.results44, go_sem, H_hpc.out] <;> try rfl) rfl ?_
          exact .inr ⟨H_hbad.out, ⟨_, _, _, _, _, _, _, _, _, rfl⟩, H_hgf.out w2 H_hg2.out _ _⟩
end
end Go.Proofs.Ytiinhofmhoplfaa
