/- Work, WorkA, WorkN, WorkL, WorkQ, put together (a claim has at most 60 files). -/
import Derived.Test.YtekjnagojphmkaaDoorCeilL
set_option linter.unusedSimpArgs false
set_option linter.unusedVariables false
set_option maxHeartbeats 40000000
set_option maxRecDepth 100000
namespace Vg
open Go
structure Wq where
  L : List Int
  depth : Int
  lost : Int
abbrev Wp := Value × Wq
def qcells : List Wp → List Value
  | [] => []
  | x :: l => x.1 :: .int .i64 x.2.depth :: .int .i64 x.2.lost :: qcells l
theorem qcells_length : ∀ l : List Wp, (qcells l).length = l.length * 3
  | [] => rfl
  | x :: l => by simp [qcells, qcells_length l]; omega
theorem qcells_append : ∀ l m : List Wp, qcells (l ++ m) = qcells l ++ qcells m
  | [], m => rfl
  | x :: l, m => by simp [qcells, qcells_append l m]
theorem qcells_get : ∀ (l : List Wp) (k : Nat) (h : k < l.length), (qcells l)[k * 3]? = some l[k].1 ∧ (qcells l)[k * 3 + 1]? = some (.int .i64 l[k].2.depth) ∧ (qcells l)[k * 3 + 2]? = some (.int .i64 l[k].2.lost)
  | [], k, h => by simp at h
  | x :: l, 0, _ => by simp [qcells]
  | x :: l, k + 1, h => by
    have := qcells_get l k (by simpa using h)
    rw [show (k + 1) * 3 = k * 3 + 1 + 1 + 1 from by omega]
    simpa [qcells] using this
theorem qcells_set0 : ∀ (l : List Wp) (k : Nat) (h : k < l.length) (u : Value) (L : List Int), (qcells l).set (k * 3) u = qcells (l.set k (u, ⟨L, l[k].2.depth, l[k].2.lost⟩))
  | [], k, h, _, _ => by simp at h
  | x :: l, 0, _, u, L => by simp [qcells]
  | x :: l, k + 1, h, u, L => by
    have := qcells_set0 l k (by simpa using h) u L
    rw [show (k + 1) * 3 = k * 3 + 1 + 1 + 1 from by omega]
    simpa [qcells] using this
theorem qcells_set2 : ∀ (l : List Wp) (k : Nat) (h : k < l.length) (t : Int) (L : List Int), (qcells l).set (k * 3 + 2) (.int .i64 t) = qcells (l.set k (l[k].1, ⟨L, l[k].2.depth, t⟩))
  | [], k, h, _, _ => by simp at h
  | x :: l, 0, _, u, L => by simp [qcells]
  | x :: l, k + 1, h, u, L => by
    have := qcells_set2 l k (by simpa using h) u L
    rw [show (k + 1) * 3 + 2 = k * 3 + 2 + 1 + 1 + 1 from by omega]
    simpa [qcells] using this
theorem qcells_setL : ∀ (l : List Wp) (k : Nat) (h : k < l.length) (L : List Int), qcells (l.set k (l[k].1, ⟨L, l[k].2.depth, l[k].2.lost⟩)) = qcells l
  | [], k, h, _ => by simp at h
  | x :: l, 0, _, L => by simp [qcells]
  | x :: l, k + 1, h, L => by
    have := qcells_setL l k (by simpa using h) L
    simpa [qcells] using this
def Wk.put (Q : List Wq) (n cost : Int) : List Wq × Int :=
  if n < 0 ∨ (Q.length : Int) ≤ n then (Q, 1) else
  match Q[n.toNat]? with
  | none => (Q, 1)
  | some q => if cost < 1 ∨ 1099511627776 < cost then (Q, 1) else if q.depth ≤ q.L.length then (Q.set n.toNat ⟨q.L, q.depth, q.lost + 1⟩, 5) else (Q.set n.toNat ⟨q.L ++ [cost], q.depth, q.lost⟩, 0)
def Wk.left (Q : List Wq) (n : Int) : Int :=
  if n < 0 ∨ (Q.length : Int) ≤ n then 0 else
  match Q[n.toNat]? with
  | none => 0
  | some q => q.L.headD 0
def Wk.waiting (Q : List Wq) (n : Int) : Int :=
  if n < 0 ∨ (Q.length : Int) ≤ n then 0 else
  match Q[n.toNat]? with
  | none => 0
  | some q => q.L.length
def Wk.lost (Q : List Wq) (n : Int) : Int :=
  if n < 0 ∨ (Q.length : Int) ≤ n then 0 else
  match Q[n.toNat]? with
  | none => 0
  | some q => q.lost
def Wk.go (Q : List Wq) (n c : Int) : List Wq × Bool × Int :=
  if n < 0 ∨ (Q.length : Int) ≤ n then (Q, false, 1) else
  match Q[n.toNat]? with
  | none => (Q, false, 1)
  | some q => match q.L with
    | [] => (Q, false, 7)
    | x :: l => if c < 0 ∨ x < c then (Q, false, 1) else if c < x then (Q.set n.toNat ⟨(x - c) :: l, q.depth, q.lost⟩, false, 0) else (Q.set n.toNat ⟨l, q.depth, q.lost⟩, true, 0)
theorem Wk.put_out {Q : List Wq} {n cost : Int} (h : n < 0 ∨ (Q.length : Int) ≤ n) : Wk.put Q n cost = (Q, 1) := if_pos h
theorem Wk.left_out {Q : List Wq} {n : Int} (h : n < 0 ∨ (Q.length : Int) ≤ n) : Wk.left Q n = 0 := if_pos h
theorem Wk.waiting_out {Q : List Wq} {n : Int} (h : n < 0 ∨ (Q.length : Int) ≤ n) : Wk.waiting Q n = 0 := if_pos h
theorem Wk.lost_out {Q : List Wq} {n : Int} (h : n < 0 ∨ (Q.length : Int) ≤ n) : Wk.lost Q n = 0 := if_pos h
theorem Wk.go_out {Q : List Wq} {n c : Int} (h : n < 0 ∨ (Q.length : Int) ≤ n) : Wk.go Q n c = (Q, false, 1) := if_pos h
theorem Wk.put_in {Q : List Wq} {i : Nat} {cost : Int} (h : i < Q.length) : Wk.put Q i cost = if cost < 1 ∨ 1099511627776 < cost then (Q, 1) else if Q[i].depth ≤ Q[i].L.length then (Q.set i ⟨Q[i].L, Q[i].depth, Q[i].lost + 1⟩, 5) else (Q.set i ⟨Q[i].L ++ [cost], Q[i].depth, Q[i].lost⟩, 0) := by
  unfold Wk.put
  rw [if_neg (by omega)]
  simp [List.getElem?_eq_getElem h]
theorem Wk.left_in {Q : List Wq} {i : Nat} (h : i < Q.length) : Wk.left Q i = Q[i].L.headD 0 := by
  unfold Wk.left
  rw [if_neg (by omega)]
  simp [List.getElem?_eq_getElem h]
theorem Wk.waiting_in {Q : List Wq} {i : Nat} (h : i < Q.length) : Wk.waiting Q i = Q[i].L.length := by
  unfold Wk.waiting
  rw [if_neg (by omega)]
  simp [List.getElem?_eq_getElem h]
theorem Wk.lost_in {Q : List Wq} {i : Nat} (h : i < Q.length) : Wk.lost Q i = Q[i].lost := by
  unfold Wk.lost
  rw [if_neg (by omega)]
  simp [List.getElem?_eq_getElem h]
theorem Wk.go_in {Q : List Wq} {i : Nat} {c : Int} (h : i < Q.length) : Wk.go Q i c = match Q[i].L with
    | [] => (Q, false, 7)
    | x :: l => if c < 0 ∨ x < c then (Q, false, 1) else if c < x then (Q.set i ⟨(x - c) :: l, Q[i].depth, Q[i].lost⟩, false, 0) else (Q.set i ⟨l, Q[i].depth, Q[i].lost⟩, true, 0) := by
  unfold Wk.go
  rw [if_neg (by omega)]
  simp [List.getElem?_eq_getElem h]
/-- The cells of a queue of a row. -/
theorem Que.queue {w : World} {B : Nat} {ty : TypeId} {v : Value} {M : List Wp} (h : Que w B ty 3 v M.length (qcells M)) (i : Nat) (hi : i < M.length) :
    ∃ g o c, v = .slice (some ⟨g, o, none⟩) M.length c ∧ B ≤ g ∧ g < w.heap.size ∧ M.length ≤ c ∧ c ≤ 9223372036854775807 ∧ w.cell? ⟨g, o + i * 3, none⟩ = some M[i].1 ∧ w.cell? ⟨g, o + i * 3 + 1, none⟩ = some (.int .i64 M[i].2.depth) ∧ w.cell? ⟨g, o + i * 3 + 2, none⟩ = some (.int .i64 M[i].2.lost) := by
  obtain ⟨a, c, rfl⟩ := h.shape
  have hl := qcells_length M
  obtain ⟨g, o, rfl, hg, hc, hm, hx⟩ := h.reads.open (by omega)
  obtain ⟨g0, g1, g2⟩ := qcells_get M i hi
  have key : ∀ j u, i * 3 + j < (qcells M).length → (qcells M)[i * 3 + j]? = some u → w.cell? ⟨g, o + i * 3 + j, none⟩ = some u := fun j u hj hu => by
    have := hx (i * 3 + j) hj
    rw [← Nat.add_assoc] at this
    rw [this, ← hu, List.getElem?_eq_getElem]
  have hhc : c ≤ 9223372036854775807 := hm
  exact ⟨g, o, c, rfl, (h.lt g rfl).1, hg, hc, hhc, by simpa using key 0 _ (by omega) g0, key 1 _ (by omega) g1, key 2 _ (by omega) g2⟩
/-- The first cell of a row of integers. -/
theorem Que.head {w : World} {B : Nat} {ty : TypeId} {v : Value} {x : Int} {l : List Int} (h : Que w B ty 1 v (l.length + 1) (ics (x :: l))) :
    ∃ g o c, v = .slice (some ⟨g, o, none⟩) (l.length + 1) c ∧ B ≤ g ∧ g < w.heap.size ∧ l.length + 1 ≤ c ∧ c ≤ 9223372036854775807 ∧ w.cell? ⟨g, o, none⟩ = some (.int .i64 x) := by
  obtain ⟨a, c, rfl⟩ := h.shape
  obtain ⟨g, o, rfl, hg, hc, hm, hx⟩ := h.reads.open (by simp)
  have hhc : c ≤ 9223372036854775807 := hm
  exact ⟨g, o, c, rfl, (h.lt g rfl).1, hg, hc, hhc, by simpa using hx 0 (by simp)⟩
end Vg
namespace Go.Proofs.YtekjnagojphmkaaDoor
open Go.ChangeShapes Go.WideShapes Go.ChangeAt Go.RowKit
theorem Tryd.info_queue : (Tryd.prog.info? 168).map (fun i => (i.zero, i.size, i.bytes)) = some (some (.agg #[.slice none 0 0, .int .i64 0, .int .i64 0]), 3, 40) := by kernel_rfl
abbrev workC (v : Value) : Obj := .cells #[v] 166
/-- Which blocks the queues' rows lie in. -/
def wown (v : Value) (qs : List Vg.Wp) (k : Nat) : Prop := v.ownBlock = some k ∨ ∃ i, ∃ h : i < qs.length, qs[i].1.ownBlock = some k
/-- Queues lie at block b. -/
structure WK (w : World) (b B : Nat) (qs : List Vg.Wp) (v : Value) : Prop where
  tab : Vg.blk w b = some (workC v)
  row : Vg.Que w B 168 3 v qs.length (Vg.qcells qs)
  pcs : ∀ i (h : i < qs.length), Vg.Que w B 2 1 qs[i].1 qs[i].2.L.length (Vg.ics qs[i].2.L)
  apart : ∀ i j (hi : i < qs.length) (hj : j < qs.length), i ≠ j → ∀ k, qs[i].1.ownBlock = some k → qs[j].1.ownBlock ≠ some k
  off : ∀ i (hi : i < qs.length) k, qs[i].1.ownBlock = some k → v.ownBlock ≠ some k
section
variable {w w' : World} {b B S : Nat} {qs : List Vg.Wp} {v : Value}
theorem WK.lt (h : WK w b B qs v) : b < w.heap.size := Vg.lt_of h.tab
theorem WK.own (h : WK w b B qs v) : ∀ k, wown v qs k → B ≤ k ∧ k < w.heap.size := by
  rintro k (hk | ⟨i, hi, hk⟩)
  · exact h.row.lt k hk
  · exact (h.pcs i hi).lt k hk
theorem WK.kept (h : WK w b B qs v) (hb : Vg.blk w' b = Vg.blk w b) (hv : ∀ k, wown v qs k → Vg.blk w' k = Vg.blk w k) : WK w' b B qs v :=
  ⟨hb.trans h.tab, h.row.kept fun k hk => hv k (.inl hk), fun i hi => (h.pcs i hi).kept fun k hk => hv k (.inr ⟨i, hi, hk⟩), h.apart, h.off⟩
theorem WK.grows (h : WK w b B qs v) (hg : Vg.Grows w w') : WK w' b B qs v := by
  have hl := h.lt
  have ho := h.own
  obtain ⟨x, n, rfl⟩ := hg
  exact h.kept (Vg.blk_plus hl) fun k hk => Vg.blk_plus (ho k hk).2
theorem WK.touch {t : Nat → Prop} (h : WK w b B qs v) (ht : Vg.Touch t w w') (hb : ¬ t b) (hv : ∀ k, wown v qs k → ¬ t k) : WK w' b B qs v :=
  h.kept (ht.block b h.lt hb) fun k hk => ht.block k (h.own k hk).2 (hv k hk)
theorem WK.upd {i : Nat} (hi : i < qs.length) (h : WK w b B qs v) (u : Value) (q : Vg.Wq) (hb : Vg.blk w' b = Vg.blk w b)
    (hrow : Vg.Que w' B 168 3 v qs.length (Vg.qcells (qs.set i (u, q)))) (hu : Vg.Que w' B 2 1 u q.L.length (Vg.ics q.L))
    (hk : ∀ j (hj : j < qs.length), j ≠ i → ∀ k, qs[j].1.ownBlock = some k → Vg.blk w' k = Vg.blk w k)
    (hnew : ∀ k, u.ownBlock = some k → qs[i].1.ownBlock = some k ∨ w.heap.size ≤ k) : WK w' b B (qs.set i (u, q)) v := by
  have hne : ∀ j (hj : j < qs.length), j ≠ i → (qs.set i (u, q))[j]'(by simpa using hj) = qs[j] := fun j hj hji => List.getElem_set_ne (fun hh => hji hh.symm) _
  have heq : (qs.set i (u, q))[i]'(by simpa using hi) = (u, q) := List.getElem_set_self _
  refine ⟨hb.trans h.tab, by rw [List.length_set]; exact hrow, fun j hj => ?_, fun j k hj hk' hjk x hx => ?_, fun j hj k hx => ?_⟩
  · have hj' : j < qs.length := by simpa using hj
    by_cases hji : j = i
    · subst hji; rw [heq]; exact hu
    · rw [hne j hj' hji]; exact (h.pcs j hj').kept (hk j hj' hji)
  · have hj' : j < qs.length := by simpa using hj
    have hk'' : k < qs.length := by simpa using hk'
    by_cases hji : j = i
    · subst hji
      rw [heq] at hx
      rw [hne k hk'' (fun hh => hjk hh.symm)]
      rcases hnew x hx with h1 | h1
      · exact h.apart j k hj' hk'' hjk x h1
      · intro h2; have := (h.own x (.inr ⟨k, hk'', h2⟩)).2; omega
    · rw [hne j hj' hji] at hx
      by_cases hki : k = i
      · subst hki
        rw [heq]
        intro h2
        rcases hnew x h2 with h1 | h1
        · exact h.apart j k hj' hk'' hjk x hx h1
        · have := (h.own x (.inr ⟨j, hj', hx⟩)).2; omega
      · rw [hne k hk'' hki]
        exact h.apart j k hj' hk'' hjk x hx
  · have hj' : j < qs.length := by simpa using hj
    by_cases hji : j = i
    · subst hji
      rw [heq] at hx
      rcases hnew k hx with h1 | h1
      · exact h.off j hj' k h1
      · intro h2; have := (h.own k (.inl h2)).2; omega
    · rw [hne j hj' hji] at hx
      exact h.off j hj' k hx
theorem work_find_no (m : Int) (h : WK w b B qs v) (hm : m < 0 ∨ (qs.length : Int) ≤ m) :
    Calls Tryd.prog 78 #[.pointer (some ⟨b, 0, none⟩), .int .i64 m] w fun e w' => e = .returned (.pointer none) ∧ w = w' := by
  obtain ⟨a, c, rfl⟩ := h.row.shape
  have c0 := Vg.cells_of h.tab 0
  simp at c0
  clear h
  by_cases h0 : m < 0
  · clear hm
    go_enter Tryd.func78, Tryd.ntmps78
    go_wp2
    go_ret
    exact ⟨rfl, rfl⟩
  · have h1 : (qs.length : Int) ≤ m := by omega
    clear hm
    go_enter Tryd.func78, Tryd.ntmps78
    go_wp2
    go_ret
    exact ⟨rfl, rfl⟩
theorem work_find {g o c : Nat} (i : Nat) (hi : i < qs.length) (h : WK w b B qs (.slice (some ⟨g, o, none⟩) qs.length c)) (hc : qs.length ≤ c) (hcm : c ≤ 9223372036854775807) :
    Calls Tryd.prog 78 #[.pointer (some ⟨b, 0, none⟩), .int .i64 i] w fun e w' => e = .returned (.pointer (some ⟨g, o + i * 3, none⟩)) ∧ w = w' := by
  have c0 := Vg.cells_of h.tab 0
  simp at c0
  clear h
  have h0 : (0 : Int) ≤ i := by omega
  have h1 : (i : Int) < qs.length := by omega
  go_enter Tryd.func78, Tryd.ntmps78
  go_wp2
  go_ret
  exact ⟨rfl, rfl⟩
theorem wk_left (m : Int) (h : WK w b B qs v) :
    Calls Tryd.prog 53 #[.pointer (some ⟨b, 0, none⟩), .int .i64 m] w fun e w' => e = .returned (.int .i64 (Vg.Wk.left (qs.map (·.2)) m)) ∧ w = w' := by
  by_cases hm : m < 0 ∨ (qs.length : Int) ≤ m
  · rw [Vg.Wk.left_out (by simpa using hm)]
    have H_h := Lib.hid h; clear h
    go_enter Tryd.func53, Tryd.ntmps53
    go_wp2_with ((go_at_call 78; refine (work_find_no m H_h.out hm).mono ?_; rintro e w' ⟨rfl, rfl⟩))
    go_ret
    exact ⟨rfl, rfl⟩
  · obtain ⟨i, rfl⟩ : ∃ i : Nat, m = i := ⟨m.toNat, by omega⟩
    have hi : i < qs.length := by omega
    rw [Vg.Wk.left_in (by simpa using hi)]
    have hp := h.pcs i hi
    obtain ⟨g, o, c, rfl, hg1, hg2, hc1, hc2, c0, c1, c2⟩ := h.row.queue i hi
    rw [List.getElem_map]
    obtain ⟨⟨u, ⟨L, d, lo⟩⟩, hx⟩ : ∃ x, qs[i] = x := ⟨_, rfl⟩
    rw [hx] at c0 c1 c2 hp ⊢
    simp only [] at c0 c1 c2 hp ⊢
    have H_h := Lib.hid h; clear h; have H_hx := Lib.hid hx; clear hx
    cases L with
    | nil =>
      obtain ⟨ua, uc, rfl⟩ := hp.shape
      have H_hp := Lib.hid hp; clear hp
      go_enter Tryd.func53, Tryd.ntmps53
      go_wp2_with ((go_at_call 78; refine (work_find i hi H_h.out hc1 hc2).mono ?_; rintro e w' ⟨rfl, rfl⟩))
      go_ret
      exact ⟨rfl, rfl⟩
    | cons x l =>
      obtain ⟨g2, o2, c', rfl, hb2, hl2, hc3, hc4, hcell⟩ := Vg.Que.head hp
      have hz : ((l.length : Int) + 1 == 0) = false := by simp; omega
      have H_hp := Lib.hid hp; clear hp
      go_enter Tryd.func53, Tryd.ntmps53
      go_wp2_with ((go_at_call 78; refine (work_find i hi H_h.out hc1 hc2).mono ?_; rintro e w' ⟨rfl, rfl⟩))
      go_ret
      exact ⟨rfl, rfl⟩
theorem wk_waiting (m : Int) (h : WK w b B qs v) :
    Calls Tryd.prog 91 #[.pointer (some ⟨b, 0, none⟩), .int .i64 m] w fun e w' => e = .returned (.int .i64 (Vg.Wk.waiting (qs.map (·.2)) m)) ∧ w = w' := by
  by_cases hm : m < 0 ∨ (qs.length : Int) ≤ m
  · rw [Vg.Wk.waiting_out (by simpa using hm)]
    have H_h := Lib.hid h; clear h
    go_enter Tryd.func91, Tryd.ntmps91
    go_wp2_with ((go_at_call 78; refine (work_find_no m H_h.out hm).mono ?_; rintro e w' ⟨rfl, rfl⟩))
    go_ret
    exact ⟨rfl, rfl⟩
  · obtain ⟨i, rfl⟩ : ∃ i : Nat, m = i := ⟨m.toNat, by omega⟩
    have hi : i < qs.length := by omega
    rw [Vg.Wk.waiting_in (by simpa using hi)]
    have hp := h.pcs i hi
    obtain ⟨g, o, c, rfl, hg1, hg2, hc1, hc2, c0, c1, c2⟩ := h.row.queue i hi
    rw [List.getElem_map]
    obtain ⟨⟨u, ⟨L, d, lo⟩⟩, hx⟩ : ∃ x, qs[i] = x := ⟨_, rfl⟩
    rw [hx] at c0 c1 c2 hp ⊢
    simp only [] at c0 c1 c2 hp ⊢
    obtain ⟨ua, uc, rfl⟩ := hp.shape
    have H_h := Lib.hid h; clear h; have H_hx := Lib.hid hx; clear hx; have H_hp := Lib.hid hp; clear hp
    go_enter Tryd.func91, Tryd.ntmps91
    go_wp2_with ((go_at_call 78; refine (work_find i hi H_h.out hc1 hc2).mono ?_; rintro e w' ⟨rfl, rfl⟩))
    go_ret
    exact ⟨rfl, rfl⟩
end
end Go.Proofs.YtekjnagojphmkaaDoor
namespace Vg
open Go
/-- No more room than what is there. -/
theorem Que.clip {w : World} {B : Nat} {e : TypeId} {size n c : Nat} {a : Option Addr} {xs : List Value} (h : Que w B e size (.slice a n c) n xs) : Que w B e size (.slice a n n) n xs := by
  refine ⟨h.1, ?_⟩
  rcases h.2 with ⟨h0, rfl⟩ | ⟨g, o, cap, cur, hv, hb, hg, hn, hm, hcs, ht⟩
  · simp only [Value.slice.injEq] at h0
    exact .inl ⟨by rw [h0.1], rfl⟩
  · simp only [Value.slice.injEq] at hv
    obtain ⟨rfl, _, rfl⟩ := hv
    exact .inr ⟨g, o, n, cur, rfl, hb, hg, Nat.le_refl _, Nat.le_trans hn hm, Nat.le_trans (Nat.add_le_add_left (Nat.mul_le_mul_right _ hn) _) hcs, ht⟩
theorem Que.cases {w : World} {B : Nat} {e : TypeId} {size n c : Nat} {a : Option Addr} {xs : List Value} (h : Que w B e size (.slice a n c) n xs) : (a = none ∧ n = 0 ∧ c = 0) ∨ ∃ g o, a = some ⟨g, o, none⟩ ∧ B ≤ g ∧ g < w.heap.size ∧ n ≤ c ∧ c ≤ 9223372036854775807 := by
  rcases h.2 with ⟨h0, rfl⟩ | ⟨g, o, cap, cur, hv, hb, hg, hn, hm, hcs, ht⟩
  · simp only [Value.slice.injEq] at h0
    exact .inl ⟨h0.1, rfl, h0.2.2⟩
  · simp only [Value.slice.injEq] at hv
    obtain ⟨rfl, _, rfl⟩ := hv
    have hm : c ≤ 9223372036854775807 := hm
    exact .inr ⟨g, o, rfl, hb, (Array.getElem?_eq_some_iff.1 hg).1, hn, hm⟩
def Wq.ok (q : Wq) : Prop := q.depth ≤ 64 ∧ 0 ≤ q.lost ∧ q.lost ≤ 1000000 ∧ ∀ x ∈ q.L, 1 ≤ x ∧ x ≤ 1099511627776
end Vg
namespace Go.Proofs.YtekjnagojphmkaaDoor
open Go.ChangeShapes Go.WideShapes Go.ChangeAt Go.RowKit
section
variable {w w' : World} {b B S : Nat} {qs : List Vg.Wp} {v : Value}
theorem Tryd.info_i64 : (Tryd.prog.info? 2).map (fun i => (i.zero, i.size, i.bytes)) = some (some (.int .i64 0), 1, 8) := by kernel_rfl
/-- What a call that writes leaves. -/
def WKn (w w' : World) (b B : Nat) (qs : List Vg.Wp) (v : Value) (Q : List Vg.Wq) : Prop :=
  ∃ qs', WK w' b B qs' v ∧ qs'.map (·.2) = Q ∧ Vg.Touch (wown v qs) w w' ∧ ∀ k, wown v qs' k → wown v qs k ∨ w.heap.size ≤ k
theorem WKn.same (h : WK w b B qs v) : WKn w w b B qs v (qs.map (·.2)) := ⟨qs, h, rfl, Vg.Touch.refl _ _, fun k hk => .inl hk⟩
theorem wown_set {i : Nat} {u : Value} {q : Vg.Wq} {n : Nat} (hi : i < qs.length) (hnew : ∀ k, u.ownBlock = some k → qs[i].1.ownBlock = some k ∨ n ≤ k) : ∀ k, wown v (qs.set i (u, q)) k → wown v qs k ∨ n ≤ k := by
  rintro k (hk | ⟨j, hj, hk⟩)
  · exact .inl (.inl hk)
  · have hj' : j < qs.length := by simpa using hj
    by_cases hji : j = i
    · subst hji
      rw [List.getElem_set_self] at hk
      rcases hnew k hk with h1 | h1
      · exact .inl (.inr ⟨j, hj', h1⟩)
      · exact .inr h1
    · rw [List.getElem_set_ne (fun hh => hji hh.symm)] at hk
      exact .inl (.inr ⟨j, hj', hk⟩)
theorem WKn.of_upd {i : Nat} (hi : i < qs.length) (h : WK w b B qs v) (hb : b < B) (u : Value) (q : Vg.Wq) (hs : Vg.Touch (wown v qs) w w')
    (hrow : Vg.Que w' B 168 3 v qs.length (Vg.qcells (qs.set i (u, q)))) (hu : Vg.Que w' B 2 1 u q.L.length (Vg.ics q.L))
    (hk : ∀ j (hj : j < qs.length), j ≠ i → ∀ k, qs[j].1.ownBlock = some k → Vg.blk w' k = Vg.blk w k)
    (hnew : ∀ k, u.ownBlock = some k → qs[i].1.ownBlock = some k ∨ w.heap.size ≤ k) : WKn w w' b B qs v ((qs.map (·.2)).set i q) :=
  ⟨qs.set i (u, q), h.upd hi u q (hs.block b h.lt fun hh => by have := (h.own b hh).1; omega) hrow hu hk hnew, by rw [List.map_set], hs, wown_set hi hnew⟩
/-- A cell of the row alone has changed. -/
theorem WKn.of_row {i n g o c : Nat} (hi : i < qs.length) (h : WK w b B qs (.slice (some ⟨g, o, none⟩) n c)) (hb : b < B) (q : Vg.Wq) (hL : q.L = qs[i].2.L) (hT : Vg.Touch (fun k => k = g) w w')
    (hrow : Vg.Que w' B 168 3 (.slice (some ⟨g, o, none⟩) n c) qs.length (Vg.qcells (qs.set i (qs[i].1, q)))) : WKn w w' b B qs (.slice (some ⟨g, o, none⟩) n c) ((qs.map (·.2)).set i q) := by
  have key : ∀ j (hj : j < qs.length), ∀ k, qs[j].1.ownBlock = some k → Vg.blk w' k = Vg.blk w k := fun j hj k hk =>
    hT.block k ((h.pcs j hj).lt k hk).2 fun hh => h.off j hj k hk (by rw [hh]; rfl)
  refine WKn.of_upd hi h hb _ q (hT.mono fun k _ hk => .inl (by rw [hk]; rfl)) hrow ?_ (fun j hj _ k hk => key j hj k hk) fun k hk => .inl hk
  rw [hL]
  exact (h.pcs i hi).kept (key i hi)
theorem wk_put_end {W2 : World} {i g o c n2 s : Nat} {u u2 : Value} {L : List Int} {d lo cost : Int} (hi : i < qs.length) (h : WK w b B qs (.slice (some ⟨g, o, none⟩) qs.length c)) (hb : b < B) (hx : qs[i] = (u, ⟨L, d, lo⟩))
    (hof : ∀ k, u.ownBlock = some k → (Value.slice (some ⟨g, o, none⟩) qs.length c).ownBlock ≠ some k) (ht2 : Vg.Touch (fun j => u.ownBlock = some j) w W2)
    (hrow2 : Vg.Que W2 B 168 3 (.slice (some ⟨g, o, none⟩) qs.length c) qs.length (Vg.qcells qs)) (hq2 : Vg.Que W2 B 2 1 u2 n2 (Vg.ics L ++ [.int .i64 cost])) (hn2 : n2 = L.length + 1)
    (ho2 : u2.ownBlock = u.ownBlock ∨ u2.ownBlock = some s) (hs : w.heap.size ≤ s) :
    WKn w (W2.setCell ⟨g, o + i * 3, none⟩ u2) b B qs (.slice (some ⟨g, o, none⟩) qs.length c) ((qs.map (·.2)).set i ⟨L ++ [cost], d, lo⟩) := by
  subst hn2
  have hg2 : g < w.heap.size := (h.row.lt g rfl).2
  have hql := Vg.qcells_length qs
  have q1 := hrow2.set (j := i * 3) (u := u2) (by rw [hql]; omega)
  rw [Vg.qcells_set0 qs i hi u2 (L ++ [cost]), hx] at q1
  have hT : Vg.Touch (fun k => u.ownBlock = some k ∨ k = g) w (W2.setCell ⟨g, o + i * 3, none⟩ u2) := (ht2.mono fun k _ hk => .inl hk).trans ((Vg.Touch.of_same q1.2).mono fun k _ hk => .inr hk)
  have hne : ∀ k, u2.ownBlock = some k → k ≠ g := fun k hk hh => by
    subst hh
    rcases ho2 with h1 | h1
    · exact hof k (h1.symm.trans hk) rfl
    · have : some k = some s := hk.symm.trans h1
      cases this
      omega
  refine WKn.of_upd hi h hb u2 ⟨L ++ [cost], d, lo⟩ (hT.mono fun k _ hk => ?_) q1.1 ?_ (fun j hj hji k hk => hT.block k ((h.pcs j hj).lt k hk).2 fun hh => ?_) fun k hk => ?_
  · rcases hk with hk | hk
    · exact .inr ⟨i, hi, by rw [hx]; exact hk⟩
    · exact .inl (by rw [hk]; rfl)
  · have e1 : (L ++ [cost]).length = L.length + 1 := by simp
    rw [show (⟨L ++ [cost], d, lo⟩ : Vg.Wq).L = L ++ [cost] from rfl, e1, show Vg.ics (L ++ [cost]) = Vg.ics L ++ [.int .i64 cost] by simp [Vg.ics]]
    exact hq2.kept fun k hk => q1.2.block k (hne k hk)
  · rcases hh with hh | hh
    · exact h.apart j i hj hi hji k hk (by rw [hx]; exact hh)
    · exact h.off j hj k hk (by rw [hh]; rfl)
  · rcases ho2 with h1 | h1
    · exact .inl (by rw [hx]; exact h1.symm.trans hk)
    · have : some k = some s := hk.symm.trans h1
      cases this
      exact .inr hs
theorem wk_put (m cost : Int) (h : WK w b B qs v) (hb : b < B) (hB : B ≤ w.heap.size) (hQ : ∀ i (hi : i < qs.length), qs[i].2.ok) :
    Calls Tryd.prog 48 #[.pointer (some ⟨b, 0, none⟩), .int .i64 m, .int .i64 cost] w fun e w' => e = .returned (.int .i64 (Vg.Wk.put (qs.map (·.2)) m cost).2) ∧ WKn w w' b B qs v (Vg.Wk.put (qs.map (·.2)) m cost).1 := by
  by_cases hm : m < 0 ∨ (qs.length : Int) ≤ m
  · rw [Vg.Wk.put_out (by simpa using hm)]
    have H_h := Lib.hid h; clear h; have H_hQ := Lib.hid hQ; clear hQ
    go_enter Tryd.func48, Tryd.ntmps48
    go_wp2_with ((go_at_call 78; refine (work_find_no m H_h.out hm).mono ?_; rintro e w' ⟨rfl, rfl⟩))
    go_ret
    exact ⟨rfl, WKn.same H_h.out⟩
  · obtain ⟨i, rfl⟩ : ∃ i : Nat, m = i := ⟨m.toNat, by omega⟩
    have hi : i < qs.length := by omega
    rw [Vg.Wk.put_in (by simpa using hi)]
    have hp := h.pcs i hi
    have hq := hQ i hi
    obtain ⟨g, o, c, rfl, hg1, hg2, hc1, hc2, c0, c1, c2⟩ := h.row.queue i hi
    have hfz := h.row.frozen
    have hof := h.off i hi
    rw [List.getElem_map]
    obtain ⟨⟨u, ⟨L, d, lo⟩⟩, hx⟩ : ∃ x, qs[i] = x := ⟨_, rfl⟩
    rw [hx] at c0 c1 c2 hp hq hof ⊢
    simp only [Vg.Wq.ok] at c0 c1 c2 hp hq hof ⊢
    obtain ⟨hq1, hq2, hq3, -⟩ := hq
    obtain ⟨N, hN⟩ : ∃ N, L.length = N := ⟨_, rfl⟩
    rw [hN] at hp ⊢
    by_cases hbad : cost < 1 ∨ 1099511627776 < cost
    · rw [if_pos hbad]
      have H_h := Lib.hid h; clear h; have H_hx := Lib.hid hx; clear hx; have H_hp := Lib.hid hp; clear hp; have H_hof := Lib.hid hof; clear hof; have H_hQ := Lib.hid hQ; clear hQ; have H_hN := Lib.hid hN; clear hN
      by_cases h0 : cost < 1
      · clear hbad
        go_enter Tryd.func48, Tryd.ntmps48
        go_wp2_with ((go_at_call 78; refine (work_find i hi H_h.out hc1 hc2).mono ?_; rintro e w' ⟨rfl, rfl⟩))
        go_ret
        exact ⟨rfl, WKn.same H_h.out⟩
      · have h1 : 1099511627776 < cost := by omega
        clear hbad
        go_enter Tryd.func48, Tryd.ntmps48
        go_wp2_with ((go_at_call 78; refine (work_find i hi H_h.out hc1 hc2).mono ?_; rintro e w' ⟨rfl, rfl⟩))
        go_ret
        exact ⟨rfl, WKn.same H_h.out⟩
    · rw [if_neg hbad]
      have hk1 : ¬ cost < 1 := by omega
      have hk2 : ¬ 1099511627776 < cost := by omega
      clear hbad
      have hql := Vg.qcells_length qs
      by_cases hfull : d ≤ N
      · rw [if_pos hfull]
        obtain ⟨ua, uc, rfl⟩ := hp.shape
        have hsum : IntKind.i64.wrap (lo + 1) = lo + 1 := by rw [IntWalk.i64_in _ (by omega)]
        have H_h := Lib.hid h; clear h; have H_hx := Lib.hid hx; clear hx; have H_hp := Lib.hid hp; clear hp; have H_hof := Lib.hid hof; clear hof; have H_hQ := Lib.hid hQ; clear hQ; have H_hN := Lib.hid hN; clear hN; have H_hql := Lib.hid hql; clear hql
        go_enter Tryd.func48, Tryd.ntmps48
        go_wp2_with ((go_at_call 78; refine (work_find i hi H_h.out hc1 hc2).mono ?_; rintro e w' ⟨rfl, rfl⟩))
        go_quiet (fail)
        go_wp2_with fail
        go_ret
        have h1 := H_h.out.grows (w' := w.drewN nq) (by (repeat' (first | (with_reducible exact Vg.Grows.refl _) | (with_reducible assumption) | (with_reducible refine Vg.Grows.alloc ?_ _) | (with_reducible refine Vg.Grows.plus ?_ _ _) | (with_reducible refine Vg.Grows.drewN ?_ _) | (with_reducible refine Vg.Grows.drew ?_) | (with_reducible refine Vg.Grows.setCell ?_ ?_ _) | (with_reducible refine Vg.Grows.put ?_ ?_ _) | omega | (simp; omega) | (simp; done))))
        have q1 := h1.row.set (j := i * 3 + 2) (u := .int .i64 (lo + 1)) (by rw [H_hql.out]; omega)
        rw [Vg.qcells_set2 qs i hi (lo + 1) L, ← Nat.add_assoc, H_hx.out] at q1
        refine ⟨rfl, WKn.of_row hi H_h.out hb _ (by rw [H_hx.out]) ((Vg.Touch.of_grows (w' := w.drewN nq) (by (repeat' (first | (with_reducible exact Vg.Grows.refl _) | (with_reducible assumption) | (with_reducible refine Vg.Grows.alloc ?_ _) | (with_reducible refine Vg.Grows.plus ?_ _ _) | (with_reducible refine Vg.Grows.drewN ?_ _) | (with_reducible refine Vg.Grows.drew ?_) | (with_reducible refine Vg.Grows.setCell ?_ ?_ _) | (with_reducible refine Vg.Grows.put ?_ ?_ _) | omega | (simp; omega) | (simp; done))))).trans (Vg.Touch.of_same q1.2)) ?_⟩
        rw [H_hx.out]
        exact q1.1
      · rw [if_neg hfull]
        obtain ⟨ua, uc, rfl⟩ := hp.shape
        obtain ⟨i0, hI, hz0, hz1, hz2⟩ := info_parts Tryd.info_i64
        have hpc := hp.clip
        have hN64 : N ≤ 64 := by omega
        rcases hp.cases with ⟨rfl, rfl, rfl⟩ | ⟨g2, o2, rfl, hB2, hl2, hc3, hc4⟩
        all_goals
          have hgo := fun hh => hof g hh rfl
          have H_h := Lib.hid h; clear h; have H_hx := Lib.hid hx; clear hx; have H_hp := Lib.hid hp; clear hp; have H_hof := Lib.hid hof; clear hof; have H_hQ := Lib.hid hQ; clear hQ; have H_hN := Lib.hid hN; clear hN; have H_hql := Lib.hid hql; clear hql; have H_hpc := Lib.hid hpc; clear hpc; have H_hgo := Lib.hid hgo; clear hgo
          go_enter Tryd.func48, Tryd.ntmps48
          go_wp2_with ((go_at_call 78; refine (work_find i hi H_h.out hc1 hc2).mono ?_; rintro e w' ⟨rfl, rfl⟩))
          go_quiet (fail)
          go_wp2_with (at_builtin; go_loud (refine Vg.wpList_que (w := _) rfl (.tmp 53) (.tmp 55) 31 rfl B 2 i0 (.int .i64 0) 1 8 Tryd.underlying31 hI hz0 hz1 hz2 rfl (by decide) _ _ _ rfl (H_hpc.out.grows (by (repeat' (first | (with_reducible exact Vg.Grows.refl _) | (with_reducible assumption) | (with_reducible refine Vg.Grows.alloc ?_ _) | (with_reducible refine Vg.Grows.plus ?_ _ _) | (with_reducible refine Vg.Grows.drewN ?_ _) | (with_reducible refine Vg.Grows.drew ?_) | (with_reducible refine Vg.Grows.setCell ?_ ?_ _) | (with_reducible refine Vg.Grows.put ?_ ?_ _) | omega | (simp; omega) | (simp; done))))) _ 1 1 [.int .i64 cost] rfl rfl (Vg.one_new (by first | rfl | ((try simp only [World.size_alloc, Vg.plus_size, Vg.put_size, World.size_setCell, World.size_drew, World.heap_drewN]) <;> omega))) (by simp [Value.oneCell']) (by decide) (by unfold maxLen; omega) (by omega) (by simp only [World.size_alloc, World.heap_drewN]; omega) ?_); intro v2 W1 y2 m2 hq2 hs2 ho2; obtain ⟨a2, c2', rfl⟩ := hq2.shape; have ht2 := (Vg.Touch.trans (Vg.Touch.of_grows (w := w) (by (repeat' (first | (with_reducible exact Vg.Grows.refl _) | (with_reducible assumption) | (with_reducible refine Vg.Grows.alloc ?_ _) | (with_reducible refine Vg.Grows.plus ?_ _ _) | (with_reducible refine Vg.Grows.drewN ?_ _) | (with_reducible refine Vg.Grows.drew ?_) | (with_reducible refine Vg.Grows.setCell ?_ ?_ _) | (with_reducible refine Vg.Grows.put ?_ ?_ _) | omega | (simp; omega) | (simp; done))))) (Vg.Touch.of_same hs2)).trans (Vg.Touch.of_grows ((Vg.Grows.refl W1).plus y2 m2)); obtain ⟨W2, hW2⟩ : ∃ W2, Vg.plus W1 y2 m2 = W2 := ⟨_, rfl⟩; rw [hW2] at hq2 ht2 ⊢; have hrow2 := H_h.out.row.kept (w' := W2) (fun k hk => ht2.block k (H_h.out.row.lt k hk).2 (fun hh => H_hof.out k hh hk)); have f2 := hrow2.frozen; have d0 := (World.cell?_of_block (w := w) (ht2.block g hg2 H_hgo.out)).trans c0; have hg22 := Nat.lt_of_lt_of_le hg2 ht2.size; have H_hq2 := Lib.hid hq2; clear hq2; have H_hs2 := Lib.hid hs2; clear hs2; have H_ho2 := Lib.hid ho2; clear ho2; have H_ht2 := Lib.hid ht2; clear ht2; have H_hrow2 := Lib.hid hrow2; clear hrow2; have H_hW2 := Lib.hid hW2; clear hW2)
          go_ret
          exact ⟨rfl, wk_put_end hi H_h.out hb H_hx.out H_hof.out H_ht2.out H_hrow2.out H_hq2.out (by rw [H_hN.out]) H_ho2.out (by simp only [World.size_alloc, World.heap_drewN]; omega)⟩
theorem wk_go_end {W2 : World} {i g o c2 g2 o2 n2 : Nat} {uc uc2 : Nat} {o3 : Nat} {L L2 : List Int} {d lo : Int} (hi : i < qs.length) (h : WK w b B qs (.slice (some ⟨g, o, none⟩) qs.length c2)) (hb : b < B) {n : Nat} (hx : qs[i] = (.slice (some ⟨g2, o2, none⟩) n uc, ⟨L, d, lo⟩)) (hne : g ≠ g2)
    (ht2 : Vg.Touch (fun j => j = g2) w W2) (hrow2 : Vg.Que W2 B 168 3 (.slice (some ⟨g, o, none⟩) qs.length c2) qs.length (Vg.qcells qs)) (hq2 : Vg.Que W2 B 2 1 (.slice (some ⟨g2, o3, none⟩) n2 uc2) n2 (Vg.ics L2)) (hn2 : n2 = L2.length) :
    WKn w (W2.setCell ⟨g, o + i * 3, none⟩ (.slice (some ⟨g2, o3, none⟩) n2 uc2)) b B qs (.slice (some ⟨g, o, none⟩) qs.length c2) ((qs.map (·.2)).set i ⟨L2, d, lo⟩) := by
  subst hn2
  have hql := Vg.qcells_length qs
  have q1 := hrow2.set (j := i * 3) (u := .slice (some ⟨g2, o3, none⟩) L2.length uc2) (by rw [hql]; omega)
  rw [Vg.qcells_set0 qs i hi _ L2, hx] at q1
  have hT : Vg.Touch (fun k => k = g2 ∨ k = g) w (W2.setCell ⟨g, o + i * 3, none⟩ (.slice (some ⟨g2, o3, none⟩) L2.length uc2)) := (ht2.mono fun k _ hk => .inl hk).trans ((Vg.Touch.of_same q1.2).mono fun k _ hk => .inr hk)
  refine WKn.of_upd hi h hb _ ⟨L2, d, lo⟩ (hT.mono fun k _ hk => ?_) q1.1 ?_ (fun j hj hji k hk => hT.block k ((h.pcs j hj).lt k hk).2 fun hh => ?_) fun k hk => ?_
  · rcases hk with hk | hk
    · exact .inr ⟨i, hi, by rw [hx, hk]; rfl⟩
    · exact .inl (by rw [hk]; rfl)
  · exact hq2.kept fun k hk => q1.2.block k (fun hh => by simp [Value.ownBlock] at hk; omega)
  · rcases hh with hh | hh
    · exact h.apart j i hj hi hji k hk (by rw [hx, hh]; rfl)
    · exact h.off j hj k hk (by rw [hh]; rfl)
  · exact .inl (by rw [hx]; exact hk)
theorem wk_go_part {W2 : World} {i g o c2 g2 o2 : Nat} {uc : Nat} {L L2 : List Int} {d lo : Int} {n : Nat} (hi : i < qs.length) (h : WK w b B qs (.slice (some ⟨g, o, none⟩) qs.length c2)) (hb : b < B) (hx : qs[i] = (.slice (some ⟨g2, o2, none⟩) n uc, ⟨L, d, lo⟩))
    (ht2 : Vg.Touch (fun j => j = g2) w W2) (hrow2 : Vg.Que W2 B 168 3 (.slice (some ⟨g, o, none⟩) qs.length c2) qs.length (Vg.qcells qs)) (hq2 : Vg.Que W2 B 2 1 (.slice (some ⟨g2, o2, none⟩) n uc) n (Vg.ics L2)) (hn2 : n = L2.length) :
    WKn w W2 b B qs (.slice (some ⟨g, o, none⟩) qs.length c2) ((qs.map (·.2)).set i ⟨L2, d, lo⟩) := by
  subst hn2
  refine WKn.of_upd hi h hb (.slice (some ⟨g2, o2, none⟩) L2.length uc) ⟨L2, d, lo⟩ (ht2.mono fun k _ hk => .inr ⟨i, hi, by rw [hx, hk]; rfl⟩) ?_ hq2 (fun j hj hji k hk => ht2.block k ((h.pcs j hj).lt k hk).2 fun hh => ?_) fun k hk => .inl (by rw [hx]; exact hk)
  · have := Vg.qcells_setL qs i hi L2
    rw [hx] at this
    rw [this]
    exact hrow2
  · exact h.apart j i hj hi hji k hk (by rw [hx, hh]; rfl)
theorem wk_go (m c : Int) (h : WK w b B qs v) (hb : b < B) (hB : B ≤ w.heap.size) (hQ : ∀ i (hi : i < qs.length), qs[i].2.ok) :
    Calls Tryd.prog 56 #[.pointer (some ⟨b, 0, none⟩), .int .i64 m, .int .i64 c] w fun e w' => e = .returned (.tuple #[.bool (Vg.Wk.go (qs.map (·.2)) m c).2.1, .int .i64 (Vg.Wk.go (qs.map (·.2)) m c).2.2]) ∧ WKn w w' b B qs v (Vg.Wk.go (qs.map (·.2)) m c).1 := by
  by_cases hm : m < 0 ∨ (qs.length : Int) ≤ m
  · rw [Vg.Wk.go_out (by simpa using hm)]
    have H_h := Lib.hid h; clear h; have H_hQ := Lib.hid hQ; clear hQ
    go_enter Tryd.func56, Tryd.ntmps56
    go_wp2_with ((go_at_call 78; refine (work_find_no m H_h.out hm).mono ?_; rintro e w' ⟨rfl, rfl⟩))
    go_ret2
    exact ⟨rfl, WKn.same H_h.out⟩
  · obtain ⟨i, rfl⟩ : ∃ i : Nat, m = i := ⟨m.toNat, by omega⟩
    have hi : i < qs.length := by omega
    rw [Vg.Wk.go_in (by simpa using hi)]
    have hp := h.pcs i hi
    have hq := hQ i hi
    obtain ⟨g, o, c2, rfl, hg1, hg2, hc1, hc2, c0, c1, c3⟩ := h.row.queue i hi
    have hfz := h.row.frozen
    have hof := h.off i hi
    rw [List.getElem_map]
    obtain ⟨⟨u, ⟨L, d, lo⟩⟩, hx⟩ : ∃ x, qs[i] = x := ⟨_, rfl⟩
    rw [hx] at c0 c1 c3 hp hq hof ⊢
    simp only [Vg.Wq.ok] at c0 c1 c3 hp hq hof ⊢
    obtain ⟨-, -, -, hq4⟩ := hq
    cases L with
    | nil =>
      obtain ⟨ua, uc, rfl⟩ := hp.shape
      have H_h := Lib.hid h; clear h; have H_hx := Lib.hid hx; clear hx; have H_hp := Lib.hid hp; clear hp; have H_hof := Lib.hid hof; clear hof; have H_hQ := Lib.hid hQ; clear hQ; have H_hq4 := Lib.hid hq4; clear hq4
      go_enter Tryd.func56, Tryd.ntmps56
      go_wp2_with ((go_at_call 78; refine (work_find i hi H_h.out hc1 hc2).mono ?_; rintro e w' ⟨rfl, rfl⟩))
      go_ret2
      exact ⟨rfl, WKn.same H_h.out⟩
    | cons x l =>
      dsimp only
      obtain ⟨g2, o2, uc, rfl, hB2, hl2, hc3, hc4, hcell⟩ := Vg.Que.head hp
      have hx1 := hq4 x (by simp)
      have hfp := hp.frozen
      have hne : g ≠ g2 := fun hh => hof g2 rfl (by rw [hh]; rfl)
      have hz : ((l.length : Int) + 1 == 0) = false := by simp; omega
      by_cases hbad : c < 0 ∨ x < c
      · rw [if_pos hbad]
        have H_h := Lib.hid h; clear h; have H_hx := Lib.hid hx; clear hx; have H_hp := Lib.hid hp; clear hp; have H_hof := Lib.hid hof; clear hof; have H_hQ := Lib.hid hQ; clear hQ; have H_hq4 := Lib.hid hq4; clear hq4
        by_cases h0 : c < 0
        · clear hbad
          go_enter Tryd.func56, Tryd.ntmps56
          go_wp2_with ((go_at_call 78; refine (work_find i hi H_h.out hc1 hc2).mono ?_; rintro e w' ⟨rfl, rfl⟩))
          go_ret2
          exact ⟨rfl, WKn.same H_h.out⟩
        · have h1 : x < c := by omega
          clear hbad
          go_enter Tryd.func56, Tryd.ntmps56
          go_wp2_with ((go_at_call 78; refine (work_find i hi H_h.out hc1 hc2).mono ?_; rintro e w' ⟨rfl, rfl⟩))
          go_ret2
          exact ⟨rfl, WKn.same H_h.out⟩
      · rw [if_neg hbad]
        have hk1 : ¬ c < 0 := by omega
        have hk2 : ¬ x < c := by omega
        clear hbad
        have hsub : IntKind.i64.wrap (x - c) = x - c := by rw [IntWalk.i64_in _ (by omega)]
        have q1 := hp.set (j := 0) (u := .int .i64 (x - c)) (by simp)
        simp only [Nat.add_zero, Vg.ics, List.map_cons, List.set_cons_zero] at q1
        obtain ⟨W3, hW3⟩ : ∃ W3, w.setCell ⟨g2, o2, none⟩ (.int .i64 (x - c)) = W3 := ⟨_, rfl⟩
        rw [hW3] at q1
        obtain ⟨q1, s1⟩ := q1
        have hT := Vg.Touch.of_same s1
        have hrow3 := h.row.kept (w' := W3) fun k hk => s1.block k (fun hh => hof k (by rw [hh]; rfl) hk)
        have d0 := (World.cell?_of_block (w := w) (s1.block g hne)).trans c0
        have f3 := hrow3.frozen
        have hg3 : g < W3.heap.size := (hrow3.lt g rfl).2
        have hg4 : g2 < W3.heap.size := (q1.lt g2 rfl).2
        have d1 : W3.cell? ⟨g2, o2, none⟩ = some (.int .i64 (x - c)) := by
          obtain ⟨g', o', c', he, -, -, -, -, hcell'⟩ := Vg.Que.head (l := l) (x := x - c) q1
          simp only [Value.slice.injEq, Option.some.injEq, Addr.mk.injEq] at he
          obtain ⟨⟨rfl, rfl, _⟩, _⟩ := he
          exact hcell'
        by_cases hlt : c < x
        · rw [if_pos hlt]
          have hpos : 0 < x - c := by omega
          have H_h := Lib.hid h; clear h; have H_hx := Lib.hid hx; clear hx; have H_hp := Lib.hid hp; clear hp; have H_hof := Lib.hid hof; clear hof; have H_hQ := Lib.hid hQ; clear hQ; have H_hq4 := Lib.hid hq4; clear hq4; have H_q1 := Lib.hid q1; clear q1; have H_s1 := Lib.hid s1; clear s1; have H_hT := Lib.hid hT; clear hT; have H_hrow3 := Lib.hid hrow3; clear hrow3
          go_enter Tryd.func56, Tryd.ntmps56
          go_upto_region 9 with ((go_at_call 78; refine (work_find i hi H_h.out hc1 hc2).mono ?_; rintro e w' ⟨rfl, rfl⟩))
          (try rw [hW3])
          go_wp2_with fail
          go_ret2
          exact ⟨rfl, wk_go_part hi H_h.out hb H_hx.out H_hT.out H_hrow3.out H_q1.out rfl⟩
        · rw [if_neg hlt]
          have hx0 : x - c = 0 := by omega
          rw [hx0] at d1 hsub
          by_cases hcc : uc = 1
          · subst hcc
            have hll : l = [] := List.eq_nil_of_length_eq_zero (by omega)
            subst hll
            have hq5 := q1.tail1
            have H_h := Lib.hid h; clear h; have H_hx := Lib.hid hx; clear hx; have H_hp := Lib.hid hp; clear hp; have H_hof := Lib.hid hof; clear hof; have H_hQ := Lib.hid hQ; clear hQ; have H_hq4 := Lib.hid hq4; clear hq4; have H_q1 := Lib.hid q1; clear q1; have H_s1 := Lib.hid s1; clear s1; have H_hT := Lib.hid hT; clear hT; have H_hrow3 := Lib.hid hrow3; clear hrow3; have H_hq5 := Lib.hid hq5; clear hq5
            go_enter Tryd.func56, Tryd.ntmps56
            go_upto_region 9 with ((go_at_call 78; refine (work_find i hi H_h.out hc1 hc2).mono ?_; rintro e w' ⟨rfl, rfl⟩))
            rw [hx0] at hW3
            rw [hW3]
            go_wp2_with fail
            go_ret2
            exact ⟨rfl, wk_go_end hi H_h.out hb H_hx.out hne H_hT.out H_hrow3.out H_hq5.out rfl⟩
          · have hc5 : 2 ≤ uc := by omega
            have hq5 := q1.tail
            simp only [List.drop_succ_cons, List.drop_zero] at hq5
            have H_h := Lib.hid h; clear h; have H_hx := Lib.hid hx; clear hx; have H_hp := Lib.hid hp; clear hp; have H_hof := Lib.hid hof; clear hof; have H_hQ := Lib.hid hQ; clear hQ; have H_hq4 := Lib.hid hq4; clear hq4; have H_q1 := Lib.hid q1; clear q1; have H_s1 := Lib.hid s1; clear s1; have H_hT := Lib.hid hT; clear hT; have H_hrow3 := Lib.hid hrow3; clear hrow3; have H_hq5 := Lib.hid hq5; clear hq5
            go_enter Tryd.func56, Tryd.ntmps56
            go_upto_region 9 with ((go_at_call 78; refine (work_find i hi H_h.out hc1 hc2).mono ?_; rintro e w' ⟨rfl, rfl⟩))
            rw [hx0] at hW3
            rw [hW3]
            go_wp2_with fail
            go_ret2
            exact ⟨rfl, wk_go_end hi H_h.out hb H_hx.out hne H_hT.out H_hrow3.out H_hq5.out rfl⟩
end
end Go.Proofs.YtekjnagojphmkaaDoor
namespace Vg
open Go
def oddW (x : Int) : Bool := decide (x < 1) || decide (64 < x)
/-- The first queue that has pieces; -1: there is none. -/
def Wk.fidx (Q : List Wq) : Int := idx (fun x => decide (0 < x)) (Q.map fun q => (q.L.length : Int))
def wq0 (d : Int) : Wp := (.slice none 0 0, ⟨[], d, 0⟩)
end Vg
namespace Go.Proofs.YtekjnagojphmkaaDoor
open Go.ChangeShapes Go.WideShapes Go.ChangeAt Go.RowKit
section
variable {w : World} {L : List Int} {sa : Option Addr} {sc : Nat}
theorem work_odd (x : Int) (w : World) : Calls Tryd.prog 76 #[.int .i64 x] w fun e w' => e = .returned (.bool (Vg.oddW x)) ∧ w = w' := by
  by_cases h0 : x < 1
  · go_enter Tryd.func76, Tryd.ntmps76
    go_wp2
    go_ret
    exact ⟨ret_bool (by simp [Vg.oddW, h0]), rfl⟩
  · by_cases h1 : 64 < x
    · go_enter Tryd.func76, Tryd.ntmps76
      go_wp2
      go_ret
      exact ⟨ret_bool (by simp [Vg.oddW, h1]), rfl⟩
    · go_enter Tryd.func76, Tryd.ntmps76
      go_wp2
      go_ret
      exact ⟨ret_bool (by simp [Vg.oddW]; omega), rfl⟩
theorem work_idx (hr : Vg.IR w sa sc L) :
    Calls Tryd.prog 90 #[.slice sa L.length sc, .func (.func 76) #[] #[]] w fun e w' => e = .returned (.int .i64 (Vg.idx Vg.oddW L)) ∧ w = w' := by
  have HR := Lib.hid hr
  clear hr
  obtain ⟨n, hn⟩ : ∃ n, L.length = n := ⟨_, rfl⟩
  rw [hn]
  have hcm : n ≤ 9223372036854775807 := by
    have h1 := HR.out.1
    have h2 : sc ≤ 9223372036854775807 := HR.out.2.1
    omega
  have H_hn := Lib.hid hn; clear hn
  go_enter Tryd.func90, Tryd.ntmps90
  go_wp2
  go_loop [8] (fun i => ∃ k : Nat, k ≤ n ∧ i = .int .i64 k ∧ (L.take k).any Vg.oddW = false) (fun i => n - (intOf i).toNat)
  case atStart => exact ⟨0, by omega, rfl, by simp⟩
  case round =>
    obtain ⟨k, hk, rfl, hpre⟩ := hrel
    by_cases hlt : k < n
    · have hkL : k < L.length := by rw [H_hn.out]; exact hlt
      obtain ⟨g, off, rfl, hg, hc, hm, hcell⟩ := HR.out.icell k hkL
      have hsn := List.take_succ_eq_append_getElem hkL
      obtain ⟨x, hx⟩ : ∃ x, L[k] = x := ⟨_, rfl⟩
      rw [hx] at hcell hsn
      cases hp : Vg.oddW x with
      | true =>
        have hi := Vg.idx_at hkL hpre (by rw [hx]; exact hp)
        have H_hpre := Lib.hid hpre; clear hpre; have H_hsn := Lib.hid hsn; clear hsn; have H_hx := Lib.hid hx; clear hx; have H_hp := Lib.hid hp; clear hp; have H_hi := Lib.hid hi; clear hi
        go_wp2_with ((go_at_call 76; refine (work_odd _ _).mono ?_; rintro e w' ⟨rfl, rfl⟩; rw [H_hp.out]))
        go_ret
        rw [H_hi.out]
        exact ⟨rfl, rfl⟩
      | false =>
        have hnx : (L.take (k + 1)).any Vg.oddW = false := by rw [hsn, List.any_append, hpre]; simp [hp]
        have H_hpre := Lib.hid hpre; clear hpre; have H_hsn := Lib.hid hsn; clear hsn; have H_hx := Lib.hid hx; clear hx; have H_hp := Lib.hid hp; clear hp; have H_hnx := Lib.hid hnx; clear hnx
        go_wp2_with ((go_at_call 76; refine (work_odd _ _).mono ?_; rintro e w' ⟨rfl, rfl⟩; rw [H_hp.out]))
        go_round
        case rel => exact ⟨k + 1, by omega, by go_num, H_hnx.out⟩
        case measure => simp [intOf]; omega
    · have hi : Vg.idx Vg.oddW L = -1 := Vg.idx_none (by rw [← hpre, List.take_of_length_le (by rw [H_hn.out]; omega)])
      have H_hpre := Lib.hid hpre; clear hpre; have H_hi := Lib.hid hi; clear hi
      go_wp2
      go_ret
      rw [H_hi.out]
      exact ⟨rfl, rfl⟩
theorem work_contains (hr : Vg.IR w sa sc L) :
    Calls Tryd.prog 77 #[.slice sa L.length sc, .func (.func 76) #[] #[]] w fun e w' => e = .returned (.bool (L.any Vg.oddW)) ∧ w = w' := by
  cases h : L.any Vg.oddW with
  | true =>
    have hi := Vg.idx_some h
    obtain ⟨r, hr'⟩ : ∃ r, Vg.idx Vg.oddW L = r := ⟨_, rfl⟩
    rw [hr'] at hi
    have H_h := Lib.hid h; clear h; have H_hr' := Lib.hid hr'; clear hr'; have H_hr := Lib.hid hr; clear hr
    go_enter Tryd.func77, Tryd.ntmps77
    go_wp2_with ((go_at_call 90; refine (work_idx H_hr.out).mono ?_; rintro e w' ⟨rfl, rfl⟩; rw [H_hr'.out]))
    go_ret
    exact ⟨rfl, rfl⟩
  | false =>
    have hi := Vg.idx_none h
    have H_h := Lib.hid h; clear h; have H_hi := Lib.hid hi; clear hi; have H_hr := Lib.hid hr; clear hr
    go_enter Tryd.func77, Tryd.ntmps77
    go_wp2_with ((go_at_call 90; refine (work_idx H_hr.out).mono ?_; rintro e w' ⟨rfl, rfl⟩; rw [H_hi.out]))
    go_ret
    exact ⟨rfl, rfl⟩
theorem work_new_no (hr : Vg.IR w sa sc L) (h : L.length = 0 ∨ 64 < L.length ∨ L.any Vg.oddW = true) :
    Calls Tryd.prog 46 #[.slice sa L.length sc] w fun e w' => e = .returned (.tuple #[.pointer none, .int .i64 1]) ∧ w = w' := by
  by_cases h0 : L.length = 0
  · have hl : L = [] := List.eq_nil_of_length_eq_zero h0
    subst hl
    clear h h0
    have H_hr := Lib.hid hr; clear hr
    go_enter Tryd.func46, Tryd.ntmps46
    go_wp2_with fail
    go_ret2
    exact ⟨rfl, rfl⟩
  · have h3 := h.resolve_left h0
    have hz : ((L.length : Int) == 0) = false := by simp; exact fun hh => h0 (by rw [hh]; rfl)
    by_cases h1 : 64 < L.length
    · clear h h3
      have H_hr := Lib.hid hr; clear hr; have H_h0 := Lib.hid h0; clear h0
      go_enter Tryd.func46, Tryd.ntmps46
      go_wp2_with fail
      go_ret2
      exact ⟨rfl, rfl⟩
    · have h2 : L.any Vg.oddW = true := h3.resolve_left h1
      clear h h3
      have H_hr := Lib.hid hr; clear hr; have H_h2 := Lib.hid h2; clear h2; have H_h0 := Lib.hid h0; clear h0
      go_enter Tryd.func46, Tryd.ntmps46
      go_wp2_with ((go_at_call 77; refine (work_contains H_hr.out).mono ?_; rintro e w' ⟨rfl, rfl⟩; rw [H_h2.out]))
      go_ret2
      exact ⟨rfl, rfl⟩
theorem work_new (hr : Vg.IR w sa sc L) (h0 : 1 ≤ L.length) (h1 : L.length ≤ 64) (h2 : L.any Vg.oddW = false) :
    Calls Tryd.prog 46 #[.slice sa L.length sc] w fun e w' => ∃ v, e = .returned (.tuple #[.pointer (some ⟨w.heap.size, 0, none⟩), .int .i64 0]) ∧ WK w' w.heap.size (w.heap.size + 1) (L.map Vg.wq0) v ∧ Vg.Grows w w' := by
  obtain ⟨i0, hi, hz0, hz1, hz2⟩ := info_parts Tryd.info_queue
  obtain ⟨n, hn⟩ : ∃ n, L.length = n := ⟨_, rfl⟩
  have hcon := work_contains hr
  have HCON := Lib.hid hcon
  rw [hn] at h0 h1 ⊢
  have H16 : n ≤ 64 := h1
  have hz : ((n : Int) == 0) = false := by simp; omega
  have H_hr := Lib.hid hr; clear hr; have H_h2 := Lib.hid h2; clear h2; have H_hn := Lib.hid hn; clear hn
  clear hcon
  go_enter Tryd.func46, Tryd.ntmps46
  go_wp2_with ((go_at_call 77; have hcon := HCON.out; rw [H_hn.out] at hcon; refine hcon.mono ?_; clear hcon; rintro e w' ⟨rfl, rfl⟩; rw [H_h2.out]))
  obtain ⟨b, hb⟩ : ∃ b, w.heap.size = b := ⟨_, rfl⟩
  obtain ⟨W0, hW0⟩ : ∃ W0, w.alloc (workC (.slice none 0 0)) = W0 := ⟨_, rfl⟩
  have g1 : Vg.blk W0 b = some (workC (.slice none 0 0)) := by rw [← hW0, ← hb]; exact Vg.alloc_heap_at rfl
  have g4 : Vg.Grows w W0 := by rw [← hW0]; (repeat' (first | (with_reducible exact Vg.Grows.refl _) | (with_reducible assumption) | (with_reducible refine Vg.Grows.alloc ?_ _) | (with_reducible refine Vg.Grows.plus ?_ _ _) | (with_reducible refine Vg.Grows.drewN ?_ _) | (with_reducible refine Vg.Grows.drew ?_) | (with_reducible refine Vg.Grows.setCell ?_ ?_ _) | (with_reducible refine Vg.Grows.put ?_ ?_ _) | omega | (simp; omega) | (simp; done)))
  have hbw : w.heap.size ≤ b := by omega
  have hsz : b + 1 ≤ W0.heap.size := by rw [← hW0, ← hb]; simp
  simp only [hb]
  rw [hW0]
  have H_hb := Lib.hid hb; clear hb; have H_hW0 := Lib.hid hW0; clear hW0; have H_g1 := Lib.hid g1; clear g1
  go_loopw [25] (fun i wr => ∃ (k : Nat) (v : Value), k ≤ n ∧ i = .int .i64 k ∧ b + 1 ≤ wr.heap.size ∧ Vg.Grows w wr ∧ Vg.blk wr b = some (workC v) ∧ Vg.Que wr (b + 1) 168 3 v ((L.take k).map Vg.wq0).length (Vg.qcells ((L.take k).map Vg.wq0))) (fun i _ => n - (intOf i).toNat)
  case atStart => exact ⟨0, _, by omega, rfl, hsz, g4, H_g1.out, Vg.Que.nil _ _ _ _⟩
  case round =>
    obtain ⟨k, v, hk, rfl, hszr, hgr, d1, hq⟩ := hrel
    by_cases hlt : k < n
    · have hkL : k < L.length := by rw [H_hn.out]; exact hlt
      obtain ⟨g, off, rfl, hg, hc, hm, hcell⟩ := H_hr.out.icell k hkL
      have hsn := List.take_succ_eq_append_getElem hkL
      obtain ⟨x, hx⟩ : ∃ x, L[k] = x := ⟨_, rfl⟩
      rw [hx] at hcell hsn
      have hcell := (hgr.below.cell (p := ⟨g, off + k, none⟩) hg).trans hcell
      have hgl : g < wr.heap.size := Nat.lt_of_lt_of_le hg hgr.size
      have hlk : ((L.take k).map Vg.wq0).length = k := by simp; omega
      rw [hlk] at hq
      obtain ⟨va, vc, rfl⟩ := hq.shape
      have c_d1 := Vg.cells_of d1; have f_d1 := Vg.frozen_of d1; have p_d1 := Vg.setCell_of d1; have l_d1 := Vg.lt_of d1; have H_d1 := Lib.hid d1; clear d1
      have H_hq := Lib.hid hq; clear hq; have H_hsn := Lib.hid hsn; clear hsn; have H_hx := Lib.hid hx; clear hx; have H_hlk := Lib.hid hlk; clear hlk
      go_wp2_with (at_builtin; (refine Vg.wpList_que (w := _) rfl (.tmp 33) (.tmp 36) 164 rfl (b + 1) 168 i0 (.agg #[.slice none 0 0, .int .i64 0, .int .i64 0]) 3 40 Tryd.underlying164 hi hz0 hz1 hz2 rfl (by decide) (.slice va k vc) k _ rfl (H_hq.out.grows (by (repeat' (first | (with_reducible exact Vg.Grows.refl _) | (with_reducible assumption) | (with_reducible refine Vg.Grows.alloc ?_ _) | (with_reducible refine Vg.Grows.plus ?_ _ _) | (with_reducible refine Vg.Grows.drewN ?_ _) | (with_reducible refine Vg.Grows.drew ?_) | (with_reducible refine Vg.Grows.setCell ?_ ?_ _) | (with_reducible refine Vg.Grows.put ?_ ?_ _) | omega | (simp; omega) | (simp; done))))) _ 1 1 [.slice none 0 0, .int .i64 x, .int .i64 0] rfl rfl (Vg.three_new (by first | rfl | ((try simp only [World.size_alloc, Vg.plus_size, Vg.put_size, World.size_setCell, World.size_drew, World.heap_drewN]) <;> omega))) (by simp [Value.oneCell']) (by decide) (by unfold maxLen; omega) (by omega) (by simp only [World.size_alloc]; omega) ?_; intro v2 W1 y2 m2 hq2 hs2 ho2; obtain ⟨a2, c2, rfl⟩ := hq2.shape; have z1 := (hs2.block b (fun hh => by have := (H_hq.out.lt b hh).1; omega)).trans ((Vg.alloc_heap_past l_d1).trans H_d1.out); have hszW := hs2.size; rw [World.size_alloc] at hszW; have hgW := hs2.grows (hgr.alloc _) (fun j hj => by have := (H_hq.out.lt j hj).1; omega); clear c_d1 f_d1 p_d1; have c_z1 := Vg.cells_of z1; have f_z1 := Vg.frozen_of z1; have p_z1 := Vg.setCell_of z1; have l_z1 := Vg.lt_of z1; have H_z1 := Lib.hid z1; clear z1; have H_hq2 := Lib.hid hq2; clear hq2; have H_hs2 := Lib.hid hs2; clear hs2; have H_ho2 := Lib.hid ho2; clear ho2))
      refine ⟨⟨k + 1, _, by omega, by go_num, by rw [Vg.plus_size, Vg.put_size]; omega, by (repeat' (first | (with_reducible exact Vg.Grows.refl _) | (with_reducible assumption) | (with_reducible refine Vg.Grows.alloc ?_ _) | (with_reducible refine Vg.Grows.plus ?_ _ _) | (with_reducible refine Vg.Grows.drewN ?_ _) | (with_reducible refine Vg.Grows.drew ?_) | (with_reducible refine Vg.Grows.setCell ?_ ?_ _) | (with_reducible refine Vg.Grows.put ?_ ?_ _) | omega | (simp; omega) | (simp; done))), (Vg.blk_plus (by rw [Vg.put_size]; omega)).trans (Vg.put_heap_same (by omega)), ?_⟩, by simp [intOf]; omega⟩
      rw [H_hsn.out, List.map_append, Vg.qcells_append, List.length_append, H_hlk.out]
      refine H_hq2.out.kept fun j hj => ?_
      have := (H_hq2.out.lt j hj).1
      rw [← Vg.put_plus (by omega)]
      exact Vg.put_heap_other (by omega)
    · have hkn : k = n := by omega
      subst hkn
      have htk : L.take k = L := List.take_of_length_le (by rw [H_hn.out]; exact Nat.le_refl _)
      rw [htk] at hq
      have hce : WK wr b (b + 1) (L.map Vg.wq0) v := by
        have key : ∀ i (h : i < (L.map Vg.wq0).length), (L.map Vg.wq0)[i].1 = .slice none 0 0 ∧ (L.map Vg.wq0)[i].2.L = [] := fun i h => by rw [List.getElem_map]; exact ⟨rfl, rfl⟩
        refine ⟨d1, hq, fun i h => ?_, fun i j h1 h2 _ x hx => ?_, fun i h x hx => ?_⟩
        · rw [(key i h).1, (key i h).2]; exact Vg.Que.nil _ _ _ _
        · rw [(key i h1).1] at hx; simp [Value.ownBlock] at hx
        · rw [(key i h).1] at hx; simp [Value.ownBlock] at hx
      have H_hce := Lib.hid hce; clear hce; have H_htk := Lib.hid htk; clear htk; have H_hq := Lib.hid hq; clear hq; have H_d1 := Lib.hid d1; clear d1
      go_wp2_with fail
      go_ret2
      exact ⟨v, (by rw [H_hb.out]; rfl), (by rw [H_hb.out]; exact H_hce.out), hgr⟩
end
section
variable {w : World} {b B : Nat} {qs : List Vg.Wp} {v : Value}
end
end Go.Proofs.YtekjnagojphmkaaDoor
namespace Go.Proofs.YtekjnagojphmkaaDoor
open Go.ChangeShapes Go.WideShapes Go.ChangeAt Go.RowKit
/-- Queues at block b show the state Q; their rows lie in blocks of O. -/
structure WS (w : World) (b B : Nat) (Q : List Vg.Wq) (v : Value) (O : Nat → Prop) : Prop where
  ex : ∃ qs, WK w b B qs v ∧ qs.map (·.2) = Q ∧ ∀ k, wown v qs k → O k
  hb : b < B
  hB : B ≤ w.heap.size
  own : ∀ k, O k → B ≤ k ∧ k < w.heap.size
section
variable {w w' w0 : World} {b B : Nat} {Q Q' : List Vg.Wq} {v : Value} {O : Nat → Prop} {r x : Int} {is : Bool}
theorem WS.grows (h : WS w b B Q v O) (hg : Vg.Grows w w') : WS w' b B Q v O := by
  obtain ⟨⟨qs, h1, h2, h3⟩, h4, h5, h6⟩ := h
  exact ⟨⟨qs, h1.grows hg, h2, h3⟩, h4, Nat.le_trans h5 hg.size, fun k hk => ⟨(h6 k hk).1, Nat.lt_of_lt_of_le (h6 k hk).2 hg.size⟩⟩
theorem WS.touch {t : Nat → Prop} (h : WS w b B Q v O) (ht : Vg.Touch t w w') (hb : ¬ t b) (hv : ∀ k, O k → ¬ t k) : WS w' b B Q v O := by
  obtain ⟨⟨qs, h1, h2, h3⟩, h4, h5, h6⟩ := h
  exact ⟨⟨qs, h1.touch ht hb fun k hk => hv k (h3 k hk), h2, h3⟩, h4, Nat.le_trans h5 ht.size, fun k hk => ⟨(h6 k hk).1, Nat.lt_of_lt_of_le (h6 k hk).2 ht.size⟩⟩
theorem WS.grown (h : WS w b B Q v O) (hg : Vg.Grows w0 w) (hB : w0.heap.size ≤ B) (ht : Vg.Touch O w w') : Vg.Grows w0 w' :=
  ht.gr hg fun k hk => Nat.le_trans hB (h.own k hk).1
/-- What a call that writes leaves. -/
def WSn (w w' : World) (b B : Nat) (Q' : List Vg.Wq) (v : Value) (O : Nat → Prop) : Prop :=
  ∃ O', WS w' b B Q' v O' ∧ (∀ k, O' k → O k ∨ w.heap.size ≤ k) ∧ Vg.Touch O w w'
theorem WSn.of {qs : List Vg.Wp} (h : WK w b B qs v) (hb : b < B) (hB : B ≤ w.heap.size) (ho : ∀ k, wown v qs k → O k) (hn : WKn w w' b B qs v Q') : WSn w w' b B Q' v O := by
  obtain ⟨qs', h1, h2, h3, h4⟩ := hn
  refine ⟨wown v qs', ⟨⟨qs', h1, h2, fun k hk => hk⟩, hb, Nat.le_trans hB h3.size, h1.own⟩, fun k hk => ?_, h3.mono fun k _ hk => ho k hk⟩
  rcases h4 k hk with h5 | h5
  · exact .inl (ho k h5)
  · exact .inr h5
theorem ok_of {qs : List Vg.Wp} (h : qs.map (·.2) = Q) (hQ : ∀ q ∈ Q, q.ok) : ∀ i (hi : i < qs.length), qs[i].2.ok := fun i hi => hQ _ (by rw [← h]; exact List.mem_map.2 ⟨qs[i], List.getElem_mem _, rfl⟩)
theorem ws_put (m cost : Int) (h : WS w b B Q v O) (hQ : ∀ q ∈ Q, q.ok) (hp : Vg.Wk.put Q m cost = (Q', r)) :
    Calls Tryd.prog 48 #[.pointer (some ⟨b, 0, none⟩), .int .i64 m, .int .i64 cost] w fun e w' => e = .returned (.int .i64 r) ∧ WSn w w' b B Q' v O := by
  obtain ⟨⟨qs, h1, h2, h3⟩, h4, h5, h6⟩ := h
  have := wk_put m cost h1 h4 h5 (ok_of h2 hQ)
  rw [h2, hp] at this
  refine this.mono ?_
  rintro e w' ⟨rfl, hn⟩
  exact ⟨rfl, WSn.of h1 h4 h5 h3 hn⟩
theorem ws_go (m c : Int) (h : WS w b B Q v O) (hQ : ∀ q ∈ Q, q.ok) (hp : Vg.Wk.go Q m c = (Q', is, r)) :
    Calls Tryd.prog 56 #[.pointer (some ⟨b, 0, none⟩), .int .i64 m, .int .i64 c] w fun e w' => e = .returned (.tuple #[.bool is, .int .i64 r]) ∧ WSn w w' b B Q' v O := by
  obtain ⟨⟨qs, h1, h2, h3⟩, h4, h5, h6⟩ := h
  have := wk_go m c h1 h4 h5 (ok_of h2 hQ)
  rw [h2, hp] at this
  refine this.mono ?_
  rintro e w' ⟨rfl, hn⟩
  exact ⟨rfl, WSn.of h1 h4 h5 h3 hn⟩
theorem ws_left (m : Int) (h : WS w b B Q v O) (hx : Vg.Wk.left Q m = x) :
    Calls Tryd.prog 53 #[.pointer (some ⟨b, 0, none⟩), .int .i64 m] w fun e w' => e = .returned (.int .i64 x) ∧ w = w' := by
  obtain ⟨⟨qs, h1, h2, h3⟩, h4, h5, h6⟩ := h
  have := wk_left m h1
  rw [h2, hx] at this
  exact this
theorem ws_waiting (m : Int) (h : WS w b B Q v O) (hx : Vg.Wk.waiting Q m = x) :
    Calls Tryd.prog 91 #[.pointer (some ⟨b, 0, none⟩), .int .i64 m] w fun e w' => e = .returned (.int .i64 x) ∧ w = w' := by
  obtain ⟨⟨qs, h1, h2, h3⟩, h4, h5, h6⟩ := h
  have := wk_waiting m h1
  rw [h2, hx] at this
  exact this
theorem ws_new {L : List Int} {sa : Option Addr} {sc n : Nat} (hn : L.length = n) (hr : Vg.IR w sa sc L) (h0 : 1 ≤ L.length) (h1 : L.length ≤ 64) (h2 : L.any Vg.oddW = false) (hQ : (L.map fun d => (⟨[], d, 0⟩ : Vg.Wq)) = Q) :
    Calls Tryd.prog 46 #[.slice sa n sc] w fun e w' => ∃ v O, e = .returned (.tuple #[.pointer (some ⟨w.heap.size, 0, none⟩), .int .i64 0]) ∧ WS w' w.heap.size (w.heap.size + 1) Q v O ∧ Vg.Grows w w' := by
  subst hn
  refine (work_new hr h0 h1 h2).mono ?_
  rintro e w' ⟨v, rfl, hk, hg⟩
  refine ⟨v, wown v (L.map Vg.wq0), rfl, ⟨⟨_, hk, ?_, fun k hk => hk⟩, Nat.lt_succ_self _, hk.lt, hk.own⟩, hg⟩
  rw [List.map_map, ← hQ]
  rfl
theorem ws_new_no {L : List Int} {sa : Option Addr} {sc n : Nat} (hn : L.length = n) (hr : Vg.IR w sa sc L) (h : L.length = 0 ∨ 64 < L.length ∨ L.any Vg.oddW = true) :
    Calls Tryd.prog 46 #[.slice sa n sc] w fun e w' => e = .returned (.tuple #[.pointer none, .int .i64 1]) ∧ w = w' := by
  subst hn
  exact work_new_no hr h
end
end Go.Proofs.YtekjnagojphmkaaDoor
namespace Vg
open Go
/-- What queues keep: depths, what they hold, how many were refused. -/
def Wq.inv (k : Nat) (q : Wq) : Prop := q.depth ≤ 64 ∧ 0 ≤ q.lost ∧ q.lost ≤ k ∧ (q.L.length : Int) ≤ q.depth ∧ ∀ x ∈ q.L, 1 ≤ x ∧ x ≤ 1099511627776
structure Wk.Inv (k : Nat) (Q : List Wq) : Prop where
  len : Q.length ≤ 64
  each : ∀ q ∈ Q, q.inv k
theorem Wq.inv.mono {k k' : Nat} {q : Wq} (h : q.inv k) (hk : k ≤ k') : q.inv k' := ⟨h.1, h.2.1, by have := h.2.2.1; omega, h.2.2.2⟩
theorem Wk.Inv.mono {k k' : Nat} {Q : List Wq} (h : Wk.Inv k Q) (hk : k ≤ k') : Wk.Inv k' Q := ⟨h.len, fun q hq => (h.each q hq).mono hk⟩
theorem Wk.Inv.ok {k : Nat} {Q : List Wq} (h : Wk.Inv k Q) (hk : k ≤ 1000000) : ∀ q ∈ Q, q.ok := fun q hq => by
  obtain ⟨h1, h2, h3, h4, h5⟩ := h.each q hq
  exact ⟨h1, h2, by omega, h5⟩
theorem Wk.Inv.at {k : Nat} {Q : List Wq} (h : Wk.Inv k Q) (i : Nat) (hi : i < Q.length) : Q[i].inv k := h.each _ (List.getElem_mem _)
theorem Wk.Inv.set {k : Nat} {Q : List Wq} (h : Wk.Inv k Q) {i : Nat} {q : Wq} (hq : q.inv k) : Wk.Inv k (Q.set i q) := by
  refine ⟨by rw [List.length_set]; exact h.len, fun x hx => ?_⟩
  rcases List.mem_or_eq_of_mem_set hx with h1 | h1
  · exact h.each x h1
  · rw [h1]; exact hq
theorem Wk.Inv.put {k : Nat} {Q : List Wq} (h : Wk.Inv k Q) (n c : Int) : Wk.Inv (k + 1) (Wk.put Q n c).1 := by
  have h' := h.mono (Nat.le_succ k)
  by_cases hm : n < 0 ∨ (Q.length : Int) ≤ n
  · rw [Wk.put_out hm]; exact h'
  · obtain ⟨i, rfl⟩ : ∃ i : Nat, n = i := ⟨n.toNat, by omega⟩
    have hi : i < Q.length := by omega
    obtain ⟨h1, h2, h3, h4, h5⟩ := h.at i hi
    rw [Wk.put_in hi]
    split
    · exact h'
    · rename_i hc
      split
      · refine h'.set ⟨h1, ?_, ?_, h4, h5⟩
        · show 0 ≤ Q[i].lost + 1; omega
        · show Q[i].lost + 1 ≤ ((k + 1 : Nat) : Int); omega
      · rename_i hf
        refine h'.set ⟨h1, h2, ?_, ?_, fun x hx => ?_⟩
        · show Q[i].lost ≤ ((k + 1 : Nat) : Int); omega
        · show ((Q[i].L ++ [c]).length : Int) ≤ Q[i].depth
          rw [List.length_append]; simp; omega
        · rcases List.mem_append.1 hx with hx | hx
          · exact h5 x hx
          · simp at hx; subst hx; omega
theorem Wk.Inv.go {k : Nat} {Q : List Wq} (h : Wk.Inv k Q) (n c : Int) : Wk.Inv k (Wk.go Q n c).1 := by
  by_cases hm : n < 0 ∨ (Q.length : Int) ≤ n
  · rw [Wk.go_out hm]; exact h
  · obtain ⟨i, rfl⟩ : ∃ i : Nat, n = i := ⟨n.toNat, by omega⟩
    have hi : i < Q.length := by omega
    obtain ⟨h1, h2, h3, h4, h5⟩ := h.at i hi
    rw [Wk.go_in hi]
    generalize Q[i] = q at h1 h2 h3 h4 h5
    obtain ⟨L, d, lo⟩ := q
    simp only [] at h1 h2 h3 h4 h5 ⊢
    cases L with
    | nil => exact h
    | cons x l =>
      simp only [List.length_cons] at h4
      have hx := h5 x (by simp)
      dsimp only
      split
      · exact h
      · split
        · refine h.set ⟨h1, h2, h3, ?_, fun y hy => ?_⟩
          · show ((((x - c) :: l).length : Nat) : Int) ≤ d
            rw [List.length_cons]; omega
          · simp only [List.mem_cons] at hy
            rcases hy with rfl | hy
            · omega
            · exact h5 y (List.mem_cons_of_mem _ hy)
        · refine h.set ⟨h1, h2, h3, ?_, fun y hy => h5 y (List.mem_cons_of_mem _ hy)⟩
          show ((l.length : Nat) : Int) ≤ d
          omega
theorem Wk.put_len (Q : List Wq) (n c : Int) : (Wk.put Q n c).1.length = Q.length := by
  unfold Wk.put
  split
  · rfl
  · split
    · rfl
    · split
      · rfl
      · split <;> simp
theorem Wk.go_len (Q : List Wq) (n c : Int) : (Wk.go Q n c).1.length = Q.length := by
  unfold Wk.go
  split
  · rfl
  · split
    · rfl
    · split
      · rfl
      · split
        · rfl
        · split <;> simp
theorem Wk.left_le {k : Nat} {Q : List Wq} (h : Wk.Inv k Q) (n : Int) : 0 ≤ Wk.left Q n ∧ Wk.left Q n ≤ 1099511627776 := by
  by_cases hm : n < 0 ∨ (Q.length : Int) ≤ n
  · rw [Wk.left_out hm]; omega
  · obtain ⟨i, rfl⟩ : ∃ i : Nat, n = i := ⟨n.toNat, by omega⟩
    have hi : i < Q.length := by omega
    obtain ⟨h1, h2, h3, h4, h5⟩ := h.at i hi
    rw [Wk.left_in hi]
    cases hL : Q[i].L with
    | nil => simp
    | cons x l =>
      have := h5 x (by rw [hL]; simp)
      simp only [List.headD_cons]
      omega
theorem Wk.Inv.start {L : List Int} (hl : L.length ≤ 64) (h : L.any oddW = false) : Wk.Inv 0 (L.map fun d => (⟨[], d, 0⟩ : Wq)) := by
  refine ⟨by simpa using hl, fun q hq => ?_⟩
  obtain ⟨d, hd, rfl⟩ := List.mem_map.1 hq
  have ho : oddW d = false := by
    cases hh : oddW d with
    | false => rfl
    | true => rw [← h]; exact (List.any_eq_true.2 ⟨d, hd, hh⟩).symm
  simp only [oddW, Bool.or_eq_false_iff, decide_eq_false_iff_not] at ho
  refine ⟨?_, Int.le_refl _, Int.le_refl _, ?_, fun x hx => by simp at hx⟩
  · show d ≤ 64; omega
  · show (0 : Int) ≤ d; omega
theorem idx_range (p : Int → Bool) : ∀ (L : List Int), -1 ≤ idx p L ∧ idx p L < L.length
  | [] => by simp [idx]
  | x :: l => by
    have := idx_range p l
    rw [idx]
    simp only [List.length_cons]
    split
    · omega
    · split <;> omega
theorem Wk.fidx_range {k : Nat} {Q : List Wq} (h : Wk.Inv k Q) : -1 ≤ Wk.fidx Q ∧ Wk.fidx Q ≤ 1000000 := by
  have h1 := idx_range (fun x => decide (0 < x)) (Q.map fun q => (q.L.length : Int))
  have h2 := h.len
  unfold Wk.fidx
  simp only [List.length_map] at h1
  omega
end Vg
