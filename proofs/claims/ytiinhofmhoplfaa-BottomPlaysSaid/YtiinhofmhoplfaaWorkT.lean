/- The document's queues: with. -/
import Derived.Test.YtiinhofmhoplfaaWorkS
set_option linter.unusedSimpArgs false
set_option linter.unusedVariables false
set_option maxHeartbeats 2000000
set_option maxRecDepth 100000
namespace Vg
open Go
theorem rqcells_ones : ∀ (l : List Wp), (∀ i (h : i < l.length), ∃ a n c, l[i].1 = .slice a n c) → ∀ u ∈ rqcells l, u.oneCell' = true
  | [], _, u, h => by simp [rqcells] at h
  | x :: l, hs, u, h => by
    simp only [rqcells, List.mem_cons] at h
    rcases h with rfl | rfl | rfl | h
    · rfl
    · obtain ⟨a, n, c, e⟩ := hs 0 (by simp)
      simp only [List.getElem_cons_zero] at e
      rw [e]; rfl
    · rfl
    · exact rqcells_ones l (fun i hi => by have := hs (i + 1) (by simpa using hi); simpa using this) u h
theorem Reads.rqueue' {S : Nat} {w : World} {a : Option Addr} {c n : Nat} {M : List Wp} (hn : M.length = n) (h : Reads S w (.slice a n c) n (rqcells M)) (i : Nat) (hi : i < n) :
    ∃ g o, a = some ⟨g, o, none⟩ ∧ g < w.heap.size ∧ n ≤ c ∧ c ≤ 9223372036854775807 ∧ (∃ u, w.cell? ⟨g, o + i * 3, none⟩ = some u) ∧ (∃ u, w.cell? ⟨g, o + i * 3 + 1, none⟩ = some u) ∧ (∃ u, w.cell? ⟨g, o + i * 3 + 2, none⟩ = some u) := by
  subst hn
  obtain ⟨g, o, h1, h2, h3, h4, h5, h6, h7⟩ := h.rqueue i hi
  exact ⟨g, o, h1, h2, h3, h4, ⟨_, h5⟩, ⟨_, h6⟩, ⟨_, h7⟩⟩
end Vg
namespace Go.Proofs.Ytiinhofmhoplfaa
open Go.ChangeShapes Go.WideShapes Go.ChangeAt Go.RowKit
theorem Try.info_rqueue : (Try.prog.info? 48).map (fun i => (i.zero, i.size, i.bytes)) = some (some (.agg #[.int .i64 0, .slice none 0 0, .int .i64 0]), 3, 40) := by kernel_rfl
abbrev rqC (d : Int) (u : Value) (lo : Int) : Obj := .cells #[.int .i64 d, u, .int .i64 lo] 48
section
variable {w w' : World} {S S' : Nat → Prop} {rs : List Vg.Wp} {v : Value}
theorem rq_with {i : Nat} {ua : Option Addr} {uc n N : Nat} {L : List Int} {d lo : Int} (hi : i < rs.length) (h : RQ w S rs v) (hr : Vg.Reads 0 w (.slice ua N uc) N (Vg.ics L)) (hN : L.length = N) (hn : rs.length = n) (hn6 : n ≤ 64) (hN6 : N ≤ 64) :
    Calls Try.prog 92 #[v, .int .i64 i, .agg #[.int .i64 d, .slice ua N uc, .int .i64 lo]] w fun e w' => ∃ g o c ua' uc', e = .returned (.slice (some ⟨g, o, none⟩) n c) ∧ Vg.Que w' w.heap.size 48 3 (.slice (some ⟨g, o, none⟩) n c) n (Vg.rqcells (rs.set i (.slice ua' N uc', ⟨L, d, lo⟩))) ∧
      Vg.Que w' w.heap.size 2 1 (.slice ua' N uc') N (Vg.ics L) ∧ (∀ k, (Value.slice ua' N uc').ownBlock = some k → k ≠ g) ∧ Vg.Grows w w' := by
  obtain ⟨a, c, rfl⟩ := h.shape
  have hrow := h.row.1
  have hones := Vg.rqcells_ones rs fun j hj => by
    obtain ⟨a, c, e⟩ := h.ush j hj
    exact ⟨a, _, c, e⟩
  have hrl := Vg.rqcells_length rs
  rw [hn] at hrow hrl ⊢
  have hin : i < n := by omega
  have hi0 : (0 : Int) ≤ i := by omega
  have hi1 : (i : Int) < n := by omega
  obtain ⟨i0, hI, hz0, hz1, hz2⟩ := info_parts Try.info_rqueue
  obtain ⟨j0, hJ, hy0, hy1, hy2⟩ := info_parts Try.info_i64
  have hic : (Vg.ics L).length = N * 1 := by simp [hN]
  have H_h := Lib.hid h; clear h; have H_hr := Lib.hid hr; clear hr; have H_hN := Lib.hid hN; clear hN; have H_hrow := Lib.hid hrow; clear hrow; have H_hones := Lib.hid hones; clear hones; have H_hrl := Lib.hid hrl; clear hrl; have H_hic := Lib.hid hic; clear hic; have H_hn := Lib.hid hn; clear hn; have H_hi := Lib.hid hi; clear hi
  go_enter Try.func92, Try.ntmps92
  go_wp2_with (first | (at_builtin; (refine Vg.wpList_appR (W0 := _) ((Vg.Grows.refl _).alloc _) rfl (.tmp 8) (.tmp 9) 30 rfl _ (Nat.le_refl _) (by (try simp only [World.size_alloc, Vg.plus_size, Vg.put_size, World.size_setCell, World.size_drew]) <;> omega) 48 i0 (.agg #[.int .i64 0, .slice none 0 0, .int .i64 0]) 3 40 Try.underlying30 hI hz0 hz1 hz2 rfl (by decide) _ _ _ rfl (Vg.owns_made0 (by (try simp only [World.size_alloc, Vg.plus_size, Vg.put_size, World.size_setCell, World.size_drew]) <;> omega)) 0 _ _ _ (Vg.rqcells rs) rfl (H_hrow.out.grows (by (repeat' (first | (with_reducible exact Vg.Grows.refl _) | (with_reducible assumption) | (with_reducible refine Vg.Grows.alloc ?_ _) | (with_reducible refine Vg.Grows.plus ?_ _ _) | (with_reducible refine Vg.Grows.drewN ?_ _) | (with_reducible refine Vg.Grows.drew ?_) | (with_reducible refine Vg.Grows.setCell ?_ ?_ _) | (with_reducible refine Vg.Grows.put ?_ ?_ _) | omega | (simp; omega) | (simp; done))))) H_hrl.out H_hones.out (by unfold maxLen; omega) (by omega) ?_); intro v1 y1 m1 hown1 hsz1; obtain ⟨a1, c1, rfl⟩ := Vg.owns_shape hown1; have HO1 := Lib.hid hown1; clear hown1 hsz1) | (at_builtin; (refine Vg.wpList_appR (W0 := _) ((Vg.Grows.refl _).alloc _) rfl (.tmp 11) (.tmp 13) 46 rfl _ (Nat.le_refl _) (by (try simp only [World.size_alloc, Vg.plus_size, Vg.put_size, World.size_setCell, World.size_drew]) <;> omega) 2 j0 (.int .i64 0) 1 8 Try.underlying46 hJ hy0 hy1 hy2 rfl (by decide) _ _ _ rfl (Vg.owns_made0 (by (try simp only [World.size_alloc, Vg.plus_size, Vg.put_size, World.size_setCell, World.size_drew]) <;> omega)) 0 _ _ _ (Vg.ics L) rfl (H_hr.out.grows (by (repeat' (first | (with_reducible exact Vg.Grows.refl _) | (with_reducible assumption) | (with_reducible refine Vg.Grows.alloc ?_ _) | (with_reducible refine Vg.Grows.plus ?_ _ _) | (with_reducible refine Vg.Grows.drewN ?_ _) | (with_reducible refine Vg.Grows.drew ?_) | (with_reducible refine Vg.Grows.setCell ?_ ?_ _) | (with_reducible refine Vg.Grows.put ?_ ?_ _) | omega | (simp; omega) | (simp; done))))) H_hic.out (by simp [Value.oneCell']) (by unfold maxLen; omega) (by omega) ?_); intro v2 y2 m2 hown2 hsz2; obtain ⟨a2, c2, rfl⟩ := Vg.owns_shape hown2; have hO1 := Vg.owns_grows HO1.out ((Vg.Grows.refl _).plus y2 m2); have q1 := Vg.Que.of_owns hO1; have q2 := Vg.Que.of_owns hown2; have hap : ∀ j k, (Value.slice a1 (0 + n) c1).ownBlock = some j → (Value.slice a2 (0 + N) c2).ownBlock = some k → j < k := (fun j k hj hk => Nat.lt_of_lt_of_le (Vg.Que.lt (Vg.Que.of_owns HO1.out) j hj).2 (q2.lt k hk).1); have e1 : Vg.blk (Vg.plus (Vg.plus (w.alloc (rqC d (.slice ua N uc) lo)) y1 m1) y2 m2) w.heap.size = some (rqC d (.slice ua N uc) lo) := (by go_simp); have g2 : Vg.Grows w (Vg.plus (Vg.plus (w.alloc (rqC d (.slice ua N uc) lo)) y1 m1) y2 m2) := (by (repeat' (first | (with_reducible exact Vg.Grows.refl _) | (with_reducible assumption) | (with_reducible refine Vg.Grows.alloc ?_ _) | (with_reducible refine Vg.Grows.plus ?_ _ _) | (with_reducible refine Vg.Grows.drewN ?_ _) | (with_reducible refine Vg.Grows.drew ?_) | (with_reducible refine Vg.Grows.setCell ?_ ?_ _) | (with_reducible refine Vg.Grows.put ?_ ?_ _) | omega | (simp; omega) | (simp; done)))); have hB2 : w.heap.size + 1 ≤ (Vg.plus (w.alloc (rqC d (.slice ua N uc) lo)) y1 m1).heap.size := (by simp [go_sem] <;> omega); obtain ⟨W2, hW2⟩ : ∃ W2, Vg.plus (Vg.plus (w.alloc (rqC d (.slice ua N uc) lo)) y1 m1) y2 m2 = W2 := ⟨_, rfl⟩; rw [hW2] at q1 q2 e1 g2 ⊢; simp only [List.nil_append, Nat.zero_add, World.size_alloc] at q1 q2 hap ⊢; have q2 := q2.weaken hB2; obtain ⟨bx, hbx⟩ : ∃ bx, w.heap.size = bx := ⟨_, rfl⟩; rw [hbx] at q1 q2 e1 ⊢; have rr := q1.reads; obtain ⟨g, o, rfl, hgl, hcl, hcm, ⟨u0, d0⟩, ⟨u1, d1⟩, ⟨u3, d3⟩⟩ := rr.rqueue' H_hn.out i hin; have hgb := (q1.lt g rfl).1; have hbg : bx ≠ g := (by omega); have hgb2 : g ≠ bx := (by omega); have fr := q1.frozen; have c_e1 := Vg.cells_of e1; have f_e1 := Vg.frozen_of e1; have p_e1 := Vg.setCell_of e1; have l_e1 := Vg.lt_of e1; have H_e1 := Lib.hid e1; clear e1; clear rr hW2 hB2; have H_q1 := Lib.hid q1; clear q1; have H_q2 := Lib.hid q2; clear q2; have H_g2 := Lib.hid g2; clear g2; have H_hap := Lib.hid hap; clear hap; have H_hbx := Lib.hid hbx; clear hbx))
  go_returns
  have l1 : i * 3 + 2 < (Vg.rqcells rs).length := by rw [H_hrl.out]; omega
  have s1 := H_q1.out.set (j := i * 3) (u := .int .i64 d) (by omega)
  have s2 := s1.1.set (j := i * 3 + 1) (u := .slice a2 N c2) (by rw [List.length_set]; omega)
  have s3 := s2.1.set (j := i * 3 + 2) (u := .int .i64 lo) (by rw [List.length_set, List.length_set]; omega)
  simp only [← Nat.add_assoc] at s1 s2 s3
  have e3 := Vg.rqcells_set3 rs i H_hi.out (.slice a2 N c2, ⟨L, d, lo⟩)
  simp only [] at e3
  rw [e3] at s3
  have sT := (s1.2.trans s2.2).trans s3.2
  obtain ⟨W4, hW4⟩ : ∃ W4, (((W2.setCell ⟨g, o + i * 3, none⟩ (.int .i64 d)).setCell ⟨g, o + i * 3 + 1, none⟩ (.slice a2 N c2)).setCell ⟨g, o + i * 3 + 2, none⟩ (.int .i64 lo)) = W4 := ⟨_, rfl⟩
  rw [hW4] at s3 sT ⊢
  have hne : ∀ k, (Value.slice a2 N c2).ownBlock = some k → k ≠ g := fun k hk hh => by
    have := H_hap.out g k rfl hk
    omega
  have q3 := s3.1.kept (w' := Vg.put W4 bx (rqC d (.slice a2 N c2) lo)) (fun k hk => Vg.put_heap_other (by have := (s3.1.lt k hk).1; omega))
  have q4 : Vg.Que W4 (bx + 1) 2 1 (.slice a2 N c2) N (Vg.ics L) := H_q2.out.kept fun k hk => sT.block k (hne k hk)
  have q5 := q4.kept (w' := Vg.put W4 bx (rqC d (.slice a2 N c2) lo)) (fun k hk => Vg.put_heap_other (by have := (q4.lt k hk).1; omega))
  have hbxw : w.heap.size ≤ bx := by rw [H_hbx.out]; exact Nat.le_refl _
  refine ⟨g, o, c1, a2, c2, rfl, q3.weaken (by omega), q5.weaken (by omega), hne, ?_⟩
  exact Vg.Grows.put (sT.grows H_g2.out (fun k hk => by omega)) hbxw _
end
end Go.Proofs.Ytiinhofmhoplfaa
