/- The document's queues (vergeref17): predicate 'RQ'; New, has, Left, First. -/
import Derived.Test.YtiinhofmhoplfaaWorkL
import Derived.Test.YtiinhofmhoplfaaCeilR
set_option linter.unusedSimpArgs false
set_option linter.unusedVariables false
set_option maxHeartbeats 2000000
set_option maxRecDepth 100000
namespace Vg
open Go
def rqcells : List Wp → List Value
  | [] => []
  | x :: l => .int .i64 x.2.depth :: x.1 :: .int .i64 x.2.lost :: rqcells l
theorem rqcells_length : ∀ l : List Wp, (rqcells l).length = l.length * 3
  | [] => rfl
  | x :: l => by simp [rqcells, rqcells_length l]; omega
theorem rqcells_append : ∀ l m : List Wp, rqcells (l ++ m) = rqcells l ++ rqcells m
  | [], m => rfl
  | x :: l, m => by simp [rqcells, rqcells_append l m]
theorem rqcells_get : ∀ (l : List Wp) (k : Nat) (h : k < l.length), (rqcells l)[k * 3]? = some (.int .i64 l[k].2.depth) ∧ (rqcells l)[k * 3 + 1]? = some l[k].1 ∧ (rqcells l)[k * 3 + 2]? = some (.int .i64 l[k].2.lost)
  | [], k, h => by simp at h
  | x :: l, 0, _ => by simp [rqcells]
  | x :: l, k + 1, h => by
    have := rqcells_get l k (by simpa using h)
    rw [show (k + 1) * 3 = k * 3 + 1 + 1 + 1 from by omega]
    simpa [rqcells] using this
theorem rqcells_set3 : ∀ (l : List Wp) (k : Nat) (h : k < l.length) (x : Wp), (((rqcells l).set (k * 3) (.int .i64 x.2.depth)).set (k * 3 + 1) x.1).set (k * 3 + 2) (.int .i64 x.2.lost) = rqcells (l.set k x)
  | [], k, h, _ => by simp at h
  | x :: l, 0, _, y => by simp [rqcells]
  | x :: l, k + 1, h, y => by
    have := rqcells_set3 l k (by simpa using h) y
    rw [show (k + 1) * 3 = k * 3 + 1 + 1 + 1 from by omega]
    simpa [rqcells] using this
theorem rqcells_set1 : ∀ (l : List Wp) (k : Nat) (h : k < l.length) (u : Value) (L : List Int), (rqcells l).set (k * 3 + 1) u = rqcells (l.set k (u, ⟨L, l[k].2.depth, l[k].2.lost⟩))
  | [], k, h, _, _ => by simp at h
  | x :: l, 0, _, u, L => by simp [rqcells]
  | x :: l, k + 1, h, u, L => by
    have := rqcells_set1 l k (by simpa using h) u L
    rw [show (k + 1) * 3 + 1 = k * 3 + 1 + 1 + 1 + 1 from by omega]
    simpa [rqcells] using this
theorem rqcells_setL : ∀ (l : List Wp) (k : Nat) (h : k < l.length) (L : List Int), rqcells (l.set k (l[k].1, ⟨L, l[k].2.depth, l[k].2.lost⟩)) = rqcells l
  | [], k, h, _ => by simp at h
  | x :: l, 0, _, L => by simp [rqcells]
  | x :: l, k + 1, h, L => by
    have := rqcells_setL l k (by simpa using h) L
    simpa [rqcells] using this
theorem Reads.rqueue {S : Nat} {w : World} {a : Option Addr} {c : Nat} {M : List Wp} (h : Reads S w (.slice a M.length c) M.length (rqcells M)) (i : Nat) (hi : i < M.length) :
    ∃ g o, a = some ⟨g, o, none⟩ ∧ g < w.heap.size ∧ M.length ≤ c ∧ c ≤ 9223372036854775807 ∧ w.cell? ⟨g, o + i * 3, none⟩ = some (.int .i64 M[i].2.depth) ∧ w.cell? ⟨g, o + i * 3 + 1, none⟩ = some M[i].1 ∧ w.cell? ⟨g, o + i * 3 + 2, none⟩ = some (.int .i64 M[i].2.lost) := by
  have hl := rqcells_length M
  obtain ⟨g, o, rfl, hg, hc, hm, hx⟩ := h.open (by omega)
  obtain ⟨g0, g1, g2⟩ := rqcells_get M i hi
  have key : ∀ j u, i * 3 + j < (rqcells M).length → (rqcells M)[i * 3 + j]? = some u → w.cell? ⟨g, o + i * 3 + j, none⟩ = some u := fun j u hj hu => by
    have := hx (i * 3 + j) hj
    rw [← Nat.add_assoc] at this
    rw [this, ← hu, List.getElem?_eq_getElem]
  have hhc : c ≤ 9223372036854775807 := hm
  exact ⟨g, o, rfl, hg, hc, hhc, by simpa using key 0 _ (by omega) g0, key 1 _ (by omega) g1, key 2 _ (by omega) g2⟩
end Vg
namespace Go.Proofs.Ytiinhofmhoplfaa
open Go.ChangeShapes Go.WideShapes Go.ChangeAt Go.RowKit
/-- The document's queues, in blocks of S. -/
structure RQ (w : World) (S : Nat → Prop) (rs : List Vg.Wp) (v : Value) : Prop where
  shape : ∃ a c, v = .slice a rs.length c
  row : Vg.ReadsP S w v rs.length (Vg.rqcells rs)
  ush : ∀ i (h : i < rs.length), ∃ a c, rs[i].1 = .slice a rs[i].2.L.length c
  pcs : ∀ i (h : i < rs.length), Vg.ReadsP S w rs[i].1 rs[i].2.L.length (Vg.ics rs[i].2.L)
section
variable {w w' : World} {S S' : Nat → Prop} {rs : List Vg.Wp} {v : Value}
theorem RQ.grows (h : RQ w S rs v) (hg : Vg.Grows w w') : RQ w' S rs v := ⟨h.shape, h.row.grows hg, h.ush, fun i hi => (h.pcs i hi).grows hg⟩
theorem RQ.touch {t : Nat → Prop} (h : RQ w S rs v) (ht : Vg.Touch t w w') (hv : ∀ k, S k → ¬ t k) : RQ w' S rs v := ⟨h.shape, h.row.touch ht hv, h.ush, fun i hi => (h.pcs i hi).touch ht hv⟩
theorem RQ.mono (h : RQ w S rs v) (hS : ∀ k, S k → S' k) : RQ w S' rs v := ⟨h.shape, ⟨h.row.1, fun k hk => hS k (h.row.2 k hk)⟩, h.ush, fun i hi => ⟨(h.pcs i hi).1, fun k hk => hS k ((h.pcs i hi).2 k hk)⟩⟩
theorem rq_has (m : Int) (a : Option Addr) (n c : Nat) (w : World) :
    Calls Try.prog 91 #[.slice a n c, .int .i64 m] w fun e w' => e = .returned (.bool (decide (0 ≤ m ∧ m < n))) ∧ w = w' := by
  by_cases h0 : m < 0
  · go_enter Try.func91, Try.ntmps91
    go_wp2
    go_ret
    exact ⟨ret_bool (by simp <;> omega), rfl⟩
  · by_cases h1 : m < n
    · go_enter Try.func91, Try.ntmps91
      go_wp2
      go_ret
      exact ⟨ret_bool (by simp <;> omega), rfl⟩
    · go_enter Try.func91, Try.ntmps91
      go_wp2
      go_ret
      exact ⟨ret_bool (by simp <;> omega), rfl⟩
theorem rq_left (m : Int) (h : RQ w S rs v) :
    Calls Try.prog 18 #[v, .int .i64 m] w fun e w' => e = .returned (.int .i64 (Vg.Wk.left (rs.map (·.2)) m)) ∧ w = w' := by
  obtain ⟨a, c, rfl⟩ := h.shape
  by_cases hm : m < 0 ∨ (rs.length : Int) ≤ m
  · rw [Vg.Wk.left_out (by simpa using hm)]
    have hd : decide (0 ≤ m ∧ m < (rs.length : Int)) = false := by simp; omega
    have H_h := Lib.hid h; clear h; have H_hd := Lib.hid hd; clear hd
    go_enter Try.func18, Try.ntmps18
    go_wp2_with ((go_at_call 91; refine (rq_has m _ _ _ _).mono ?_; rintro e w1 ⟨rfl, rfl⟩; rw [H_hd.out]))
    go_ret
    exact ⟨rfl, rfl⟩
  · obtain ⟨i, rfl⟩ : ∃ i : Nat, m = i := ⟨m.toNat, by omega⟩
    have hi : i < rs.length := by omega
    have hi0 : (0 : Int) ≤ i := by omega
    have hi1 : (i : Int) < rs.length := by omega
    have hd : decide ((0 : Int) ≤ i ∧ (i : Int) < (rs.length : Int)) = true := by simp; omega
    rw [Vg.Wk.left_in (by simpa using hi), List.getElem_map]
    have hp := (h.pcs i hi).1
    have hu := h.ush i hi
    obtain ⟨g, o, rfl, hg2, hc1, hc2, c0, c1, c3⟩ := h.row.1.rqueue i hi
    obtain ⟨⟨u, ⟨L, d, lo⟩⟩, hx⟩ : ∃ x, rs[i] = x := ⟨_, rfl⟩
    rw [hx] at c0 c1 c3 hp hu ⊢
    simp only [] at c0 c1 c3 hp hu ⊢
    obtain ⟨ua, uc, rfl⟩ := hu
    cases L with
    | nil =>
      have H_h := Lib.hid h; clear h; have H_hx := Lib.hid hx; clear hx; have H_hp := Lib.hid hp; clear hp; have H_hd := Lib.hid hd; clear hd
      go_enter Try.func18, Try.ntmps18
      go_wp2_with ((go_at_call 91; refine (rq_has i _ _ _ _).mono ?_; rintro e w1 ⟨rfl, rfl⟩; rw [H_hd.out]))
      go_ret
      exact ⟨rfl, rfl⟩
    | cons x l =>
      obtain ⟨g2, o2, rfl, hl2, hc3, hc4, hx2⟩ := hp.open (by simp)
      have hcell : w.cell? ⟨g2, o2, none⟩ = some (.int .i64 x) := by simpa using hx2 0 (by simp)
      have hc4 : uc ≤ 9223372036854775807 := hc4
      have hz : ((l.length : Int) + 1 == 0) = false := by simp; omega
      simp only [List.length_cons] at hc3
      clear hx2
      have H_h := Lib.hid h; clear h; have H_hx := Lib.hid hx; clear hx; have H_hp := Lib.hid hp; clear hp; have H_hd := Lib.hid hd; clear hd
      go_enter Try.func18, Try.ntmps18
      go_wp2_with ((go_at_call 91; refine (rq_has i _ _ _ _).mono ?_; rintro e w1 ⟨rfl, rfl⟩; rw [H_hd.out]))
      go_ret
      exact ⟨rfl, rfl⟩
end
end Go.Proofs.Ytiinhofmhoplfaa
