/- Stats: Of on both sides. -/
import Derived.Test.YtlgkcpgmnpoanaaStatsC
set_option linter.unusedSimpArgs false
set_option linter.unusedVariables false
set_option maxHeartbeats 400000
set_option maxRecDepth 20000
namespace Vg
theorem ofGo_drop {x : St} {L : List Jb} {k : Nat} (hk : k < L.length) : ofGo x (L.drop k) = if (x.add L[k]).2 = 0 then ofGo (x.add L[k]).1 (L.drop (k + 1)) else (St.zero, (x.add L[k]).2) := by
  rw [List.drop_eq_getElem_cons hk]; rfl
open Go in
/-- A slice of jobs. -/
def JR (w : World) (sa : Option Addr) (n c : Nat) (L : List Jb) : Prop := n = L.length ∧ n ≤ c ∧ c ≤ maxLen ∧ ∀ k, (hk : k < L.length) → ∃ g off, sa = some ⟨g, off, none⟩ ∧ g < w.heap.size ∧ w.cell? ⟨g, off + k * 5, none⟩ = some (.int .i64 L[k].t) ∧ w.cell? ⟨g, off + k * 5 + 1, none⟩ = some (.int .i64 L[k].a) ∧ w.cell? ⟨g, off + k * 5 + 2, none⟩ = some (.int .i64 L[k].r) ∧
      w.cell? ⟨g, off + k * 5 + 3, none⟩ = some (.int .i64 L[k].d) ∧ w.cell? ⟨g, off + k * 5 + 4, none⟩ = some (.int .i64 L[k].l)
open Go in
theorem JR.grows {w w' : World} {sa : Option Addr} {n c : Nat} {L : List Jb} (h : JR w sa n c L) (hg : Grows w w') : JR w' sa n c L := by
  obtain ⟨h0, h1, h2, h3⟩ := h
  refine ⟨h0, h1, h2, fun k hk => ?_⟩
  obtain ⟨g, off, e, hl, q0, q1, q2, q3, q4⟩ := h3 k hk
  obtain ⟨x, m, rfl⟩ := hg
  exact ⟨g, off, e, by rw [plus_size]; omega, (plus_cell hl).trans q0, (plus_cell hl).trans q1, (plus_cell hl).trans q2, (plus_cell hl).trans q3, (plus_cell hl).trans q4⟩
open Go in
theorem JR.of_reads {S : Nat} {w : World} {sa : Option Addr} {n c : Nat} {L : List Jb} (h : Reads S w (.slice sa n c) n (jcells L)) (hn : n = L.length) : JR w sa n c L := by
  refine ⟨hn, ?_, h.cap_le, fun k hk => ?_⟩
  · rcases h with ⟨h0, h1, _⟩ | ⟨g, off, cap, hv, _, _, hn, _⟩
    · omega
    · simp only [Value.slice.injEq] at hv
      omega
  · obtain ⟨g, off, e, hl, _, q⟩ := h.job k hk
    exact ⟨g, off, e, hl, q⟩
end Vg
namespace Go.Proofs.Ytlgkcpgmnpoanaa
open Go.ChangeShapes Go.WideShapes Go.ChangeAt Go.RowKit
section
variable {n : Nat} {w : World} {sa : Option Addr} {sc : Nat} {L : List Vg.Jb}
theorem stats_ofl (hr : Vg.JR w sa n sc L) :
    Calls Try.prog 61 #[.slice sa n sc] w fun e w' => e = .returned (.tuple #[stV (Vg.ofGo ⟨0, 0, 0, 0, 0⟩ L).1, .int .i64 (Vg.ofGo ⟨0, 0, 0, 0, 0⟩ L).2]) ∧ Vg.Grows w w' := by
  obtain ⟨hnL, hLc, hcm, _⟩ := id hr
  have hcm : sc ≤ 9223372036854775807 := hcm
  subst hnL
  obtain ⟨r, hrr⟩ : ∃ r, Vg.ofGo ⟨0, 0, 0, 0, 0⟩ L = r := ⟨_, rfl⟩
  rw [hrr]
  have H_hr := Lib.hid hr; clear hr
  obtain ⟨bx, hbx⟩ : ∃ bx, w.heap.size = bx := ⟨_, rfl⟩
  obtain ⟨bs, hbs⟩ : ∃ bs, w.heap.size + 1 = bs := ⟨_, rfl⟩
  have n1 : bx ≠ bs := by omega
  have n2 : bs ≠ bx := by omega
  have n3 : w.heap.size ≤ bx ∧ w.heap.size ≤ bs := by omega
  have HBX := Lib.hid hbx
  have HBS := Lib.hid hbs
  have HRR := Lib.hid hrr
  clear hbx hbs hrr
  go_enter Try.func61, Try.ntmps61
  go_wp2
  rw [HBS.out, HBX.out]
  go_loopw [11] (fun i wr => ∃ (k : Nat) (x : Vg.St), k ≤ L.length ∧ i = .int .i64 k ∧ Vg.ofGo x (L.drop k) = r ∧ Vg.Grows w wr ∧ Vg.blk wr bs = some (stC x) ∧ Vg.blk wr bx = some (stC ⟨0, 0, 0, 0, 0⟩)) (fun i _ => L.length - (intOf i).toNat)
  case atStart =>
    refine ⟨0, ⟨0, 0, 0, 0, 0⟩, by omega, rfl, HRR.out, by (repeat' (first | (with_reducible exact Vg.Grows.refl _) | (with_reducible assumption) | (with_reducible refine Vg.Grows.alloc ?_ _) | (with_reducible refine Vg.Grows.plus ?_ _ _) | (with_reducible refine Vg.Grows.drewN ?_ _) | (with_reducible refine Vg.Grows.drew ?_) | (with_reducible refine Vg.Grows.setCell ?_ ?_ _) | (with_reducible refine Vg.Grows.put ?_ ?_ _) | omega | (simp; omega) | (simp; done))), ?_, ?_⟩
    · rw [← HBS.out]; simp [go_sem]
    · rw [← HBX.out]; simp [go_sem]
  case round =>
    obtain ⟨k, x, hk, rfl, hof, hg, b1, b2⟩ := hrel
    by_cases hlt : k < L.length
    · obtain ⟨g, off, rfl, hgl, q0, q1, q2, q3, q4⟩ := (H_hr.out.grows hg).2.2.2 k hlt
      have hod := Vg.ofGo_drop (x := x) hlt
      generalize L[k] = y at q0 q1 q2 q3 q4 hod
      rw [hod] at hof
      obtain ⟨⟨x', no⟩, hadd⟩ : ∃ p, x.add y = p := ⟨_, rfl⟩
      rw [hadd] at hof
      simp only [] at hof
      by_cases hno : no = 0
      · have hnb : (no == 0) = true := by simp [hno]
        have hnc' : (no != 0) = false := by simp [hno]
        rw [if_pos hno] at hof
        clear hod hno
        have c_b1 := Vg.cells_of b1; have f_b1 := Vg.frozen_of b1; have p_b1 := Vg.setCell_of b1; have l_b1 := Vg.lt_of b1; have H_b1 := Lib.hid b1; clear b1; have c_b2 := Vg.cells_of b2; have f_b2 := Vg.frozen_of b2; have p_b2 := Vg.setCell_of b2; have l_b2 := Vg.lt_of b2; have H_b2 := Lib.hid b2; clear b2
        have H_hof := Lib.hid hof; clear hof; have H_hadd := Lib.hid hadd; clear hadd
        go_wp2_with ((go_at_call 52; refine (stats_add x y _).mono ?_; rintro e w1 ⟨rfl, xa, na, rfl⟩; rw [H_hadd.out]))
        exact ⟨⟨k + 1, x', by omega, by go_num, H_hof.out, by (repeat' (first | (with_reducible exact Vg.Grows.refl _) | (with_reducible assumption) | (with_reducible refine Vg.Grows.alloc ?_ _) | (with_reducible refine Vg.Grows.plus ?_ _ _) | (with_reducible refine Vg.Grows.drewN ?_ _) | (with_reducible refine Vg.Grows.drew ?_) | (with_reducible refine Vg.Grows.setCell ?_ ?_ _) | (with_reducible refine Vg.Grows.put ?_ ?_ _) | omega | (simp; omega) | (simp; done))), by go_simp, by go_simp; exact H_b2.out⟩, by simp [intOf]; omega⟩
      · have hnb : (no == 0) = false := by simp [hno]
        have hnc' : (no != 0) = true := by simp [hno]
        rw [if_neg hno] at hof
        clear hod hno
        have c_b1 := Vg.cells_of b1; have f_b1 := Vg.frozen_of b1; have p_b1 := Vg.setCell_of b1; have l_b1 := Vg.lt_of b1; have H_b1 := Lib.hid b1; clear b1; have c_b2 := Vg.cells_of b2; have f_b2 := Vg.frozen_of b2; have p_b2 := Vg.setCell_of b2; have l_b2 := Vg.lt_of b2; have H_b2 := Lib.hid b2; clear b2
        have H_hof := Lib.hid hof; clear hof; have H_hadd := Lib.hid hadd; clear hadd
        go_wp2_with ((go_at_call 52; refine (stats_add x y _).mono ?_; rintro e w1 ⟨rfl, xa, na, rfl⟩; rw [H_hadd.out]))
        refine bodyPost_ret (by simp [results, Try.results61, go_sem, c_b1, c_b2, p_b1, p_b2, f_b1, f_b2, l_b1, l_b2, n1, n2] <;> try rfl) rfl ?_
        rw [← H_hof.out]
        exact ⟨rfl, by (repeat' (first | (with_reducible exact Vg.Grows.refl _) | (with_reducible assumption) | (with_reducible refine Vg.Grows.alloc ?_ _) | (with_reducible refine Vg.Grows.plus ?_ _ _) | (with_reducible refine Vg.Grows.drewN ?_ _) | (with_reducible refine Vg.Grows.drew ?_) | (with_reducible refine Vg.Grows.setCell ?_ ?_ _) | (with_reducible refine Vg.Grows.put ?_ ?_ _) | omega | (simp; omega) | (simp; done)))⟩
    · obtain rfl : k = L.length := by omega
      rw [List.drop_length] at hof
      have c_b1 := Vg.cells_of b1; have f_b1 := Vg.frozen_of b1; have p_b1 := Vg.setCell_of b1; have l_b1 := Vg.lt_of b1; have H_b1 := Lib.hid b1; clear b1; have c_b2 := Vg.cells_of b2; have f_b2 := Vg.frozen_of b2; have p_b2 := Vg.setCell_of b2; have l_b2 := Vg.lt_of b2; have H_b2 := Lib.hid b2; clear b2
      have H_hof := Lib.hid hof; clear hof
      go_wp2
      refine bodyPost_ret (by simp [results, Try.results61, go_sem, c_b1, c_b2, p_b1, p_b2, f_b1, f_b2, l_b1, l_b2, n1, n2] <;> try rfl) rfl ?_
      rw [← H_hof.out]
      exact ⟨rfl, by (repeat' (first | (with_reducible exact Vg.Grows.refl _) | (with_reducible assumption) | (with_reducible refine Vg.Grows.alloc ?_ _) | (with_reducible refine Vg.Grows.plus ?_ _ _) | (with_reducible refine Vg.Grows.drewN ?_ _) | (with_reducible refine Vg.Grows.drew ?_) | (with_reducible refine Vg.Grows.setCell ?_ ?_ _) | (with_reducible refine Vg.Grows.put ?_ ?_ _) | omega | (simp; omega) | (simp; done)))⟩
theorem ref20_ofl (hr : Vg.JR w sa n sc L) :
    Calls Try.prog 62 #[.slice sa n sc] w fun e w' => e = .returned (.tuple #[stV (Vg.ofGo ⟨0, 0, 0, 0, 0⟩ L).1, .int .i64 (Vg.ofGo ⟨0, 0, 0, 0, 0⟩ L).2]) ∧ Vg.Grows w w' := by
  obtain ⟨hnL, hLc, hcm, _⟩ := id hr
  have hcm : sc ≤ 9223372036854775807 := hcm
  subst hnL
  obtain ⟨r, hrr⟩ : ∃ r, Vg.ofGo ⟨0, 0, 0, 0, 0⟩ L = r := ⟨_, rfl⟩
  rw [hrr]
  have H_hr := Lib.hid hr; clear hr
  obtain ⟨bx, hbx⟩ : ∃ bx, w.heap.size = bx := ⟨_, rfl⟩
  obtain ⟨bs, hbs⟩ : ∃ bs, w.heap.size + 1 = bs := ⟨_, rfl⟩
  have n1 : bx ≠ bs := by omega
  have n2 : bs ≠ bx := by omega
  have n3 : w.heap.size ≤ bx ∧ w.heap.size ≤ bs := by omega
  have HBX := Lib.hid hbx
  have HBS := Lib.hid hbs
  have HRR := Lib.hid hrr
  clear hbx hbs hrr
  go_enter Try.func62, Try.ntmps62
  go_wp2
  rw [HBS.out, HBX.out]
  go_loopw [12] (fun i wr => ∃ (k : Nat) (x : Vg.St), k ≤ L.length ∧ i = .int .i64 k ∧ Vg.ofGo x (L.drop k) = r ∧ Vg.Grows w wr ∧ Vg.blk wr bs = some (stC x) ∧ Vg.blk wr bx = some (stC ⟨0, 0, 0, 0, 0⟩)) (fun i _ => L.length - (intOf i).toNat)
  case atStart =>
    refine ⟨0, ⟨0, 0, 0, 0, 0⟩, by omega, rfl, HRR.out, by (repeat' (first | (with_reducible exact Vg.Grows.refl _) | (with_reducible assumption) | (with_reducible refine Vg.Grows.alloc ?_ _) | (with_reducible refine Vg.Grows.plus ?_ _ _) | (with_reducible refine Vg.Grows.drewN ?_ _) | (with_reducible refine Vg.Grows.drew ?_) | (with_reducible refine Vg.Grows.setCell ?_ ?_ _) | (with_reducible refine Vg.Grows.put ?_ ?_ _) | omega | (simp; omega) | (simp; done))), ?_, ?_⟩
    · rw [← HBS.out]; simp [go_sem]
    · rw [← HBX.out]; simp [go_sem]
  case round =>
    obtain ⟨k, x, hk, rfl, hof, hg, b1, b2⟩ := hrel
    by_cases hlt : k < L.length
    · obtain ⟨g, off, rfl, hgl, q0, q1, q2, q3, q4⟩ := (H_hr.out.grows hg).2.2.2 k hlt
      have hod := Vg.ofGo_drop (x := x) hlt
      generalize L[k] = y at q0 q1 q2 q3 q4 hod
      rw [hod] at hof
      obtain ⟨⟨x', no⟩, hadd⟩ : ∃ p, x.add y = p := ⟨_, rfl⟩
      rw [hadd] at hof
      simp only [] at hof
      by_cases hno : no = 0
      · have hnb : (no == 0) = true := by simp [hno]
        have hnc' : (no != 0) = false := by simp [hno]
        rw [if_pos hno] at hof
        clear hod hno
        have c_b1 := Vg.cells_of b1; have f_b1 := Vg.frozen_of b1; have p_b1 := Vg.setCell_of b1; have l_b1 := Vg.lt_of b1; have H_b1 := Lib.hid b1; clear b1; have c_b2 := Vg.cells_of b2; have f_b2 := Vg.frozen_of b2; have p_b2 := Vg.setCell_of b2; have l_b2 := Vg.lt_of b2; have H_b2 := Lib.hid b2; clear b2
        have H_hof := Lib.hid hof; clear hof; have H_hadd := Lib.hid hadd; clear hadd
        go_wp2_with ((go_at_call 53; refine (ref20_add x y _).mono ?_; rintro e w1 ⟨rfl, xa, na, rfl⟩; rw [H_hadd.out]))
        exact ⟨⟨k + 1, x', by omega, by go_num, H_hof.out, by (repeat' (first | (with_reducible exact Vg.Grows.refl _) | (with_reducible assumption) | (with_reducible refine Vg.Grows.alloc ?_ _) | (with_reducible refine Vg.Grows.plus ?_ _ _) | (with_reducible refine Vg.Grows.drewN ?_ _) | (with_reducible refine Vg.Grows.drew ?_) | (with_reducible refine Vg.Grows.setCell ?_ ?_ _) | (with_reducible refine Vg.Grows.put ?_ ?_ _) | omega | (simp; omega) | (simp; done))), by go_simp, by go_simp; exact H_b2.out⟩, by simp [intOf]; omega⟩
      · have hnb : (no == 0) = false := by simp [hno]
        have hnc' : (no != 0) = true := by simp [hno]
        rw [if_neg hno] at hof
        clear hod hno
        have c_b1 := Vg.cells_of b1; have f_b1 := Vg.frozen_of b1; have p_b1 := Vg.setCell_of b1; have l_b1 := Vg.lt_of b1; have H_b1 := Lib.hid b1; clear b1; have c_b2 := Vg.cells_of b2; have f_b2 := Vg.frozen_of b2; have p_b2 := Vg.setCell_of b2; have l_b2 := Vg.lt_of b2; have H_b2 := Lib.hid b2; clear b2
        have H_hof := Lib.hid hof; clear hof; have H_hadd := Lib.hid hadd; clear hadd
        go_wp2_with ((go_at_call 53; refine (ref20_add x y _).mono ?_; rintro e w1 ⟨rfl, xa, na, rfl⟩; rw [H_hadd.out]))
        refine bodyPost_ret (by simp [results, Try.results62, go_sem, c_b1, c_b2, p_b1, p_b2, f_b1, f_b2, l_b1, l_b2, n1, n2] <;> try rfl) rfl ?_
        rw [← H_hof.out]
        exact ⟨rfl, by (repeat' (first | (with_reducible exact Vg.Grows.refl _) | (with_reducible assumption) | (with_reducible refine Vg.Grows.alloc ?_ _) | (with_reducible refine Vg.Grows.plus ?_ _ _) | (with_reducible refine Vg.Grows.drewN ?_ _) | (with_reducible refine Vg.Grows.drew ?_) | (with_reducible refine Vg.Grows.setCell ?_ ?_ _) | (with_reducible refine Vg.Grows.put ?_ ?_ _) | omega | (simp; omega) | (simp; done)))⟩
    · obtain rfl : k = L.length := by omega
      rw [List.drop_length] at hof
      have c_b1 := Vg.cells_of b1; have f_b1 := Vg.frozen_of b1; have p_b1 := Vg.setCell_of b1; have l_b1 := Vg.lt_of b1; have H_b1 := Lib.hid b1; clear b1; have c_b2 := Vg.cells_of b2; have f_b2 := Vg.frozen_of b2; have p_b2 := Vg.setCell_of b2; have l_b2 := Vg.lt_of b2; have H_b2 := Lib.hid b2; clear b2
      have H_hof := Lib.hid hof; clear hof
      go_wp2
      refine bodyPost_ret (by simp [results, Try.results62, go_sem, c_b1, c_b2, p_b1, p_b2, f_b1, f_b2, l_b1, l_b2, n1, n2] <;> try rfl) rfl ?_
      rw [← H_hof.out]
      exact ⟨rfl, by (repeat' (first | (with_reducible exact Vg.Grows.refl _) | (with_reducible assumption) | (with_reducible refine Vg.Grows.alloc ?_ _) | (with_reducible refine Vg.Grows.plus ?_ _ _) | (with_reducible refine Vg.Grows.drewN ?_ _) | (with_reducible refine Vg.Grows.drew ?_) | (with_reducible refine Vg.Grows.setCell ?_ ?_ _) | (with_reducible refine Vg.Grows.put ?_ ?_ _) | omega | (simp; omega) | (simp; done)))⟩
end
end Go.Proofs.Ytlgkcpgmnpoanaa
