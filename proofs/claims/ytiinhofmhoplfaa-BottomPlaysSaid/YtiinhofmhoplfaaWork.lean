/- Package work: plain words, the predicate 'WK' (queues in a row, each with a row of its own), and the calls that only read. -/
import Derived.Test.YtiinhofmhoplfaaCeilL
set_option linter.unusedSimpArgs false
set_option linter.unusedVariables false
set_option maxHeartbeats 1000000
set_option maxRecDepth 100000
namespace Vg
open Go
structure Wq where
  L : List Int
  depth : Int
  lost : Int
abbrev Wp := Value × Wq
def qcells : List Wp → List Value
  | [] => []
  | x :: l => x.1 :: .int .i64 x.2.depth :: .int .i64 x.2.lost :: qcells l
theorem qcells_length : ∀ l : List Wp, (qcells l).length = l.length * 3
  | [] => rfl
  | x :: l => by simp [qcells, qcells_length l]; omega
theorem qcells_append : ∀ l m : List Wp, qcells (l ++ m) = qcells l ++ qcells m
  | [], m => rfl
  | x :: l, m => by simp [qcells, qcells_append l m]
theorem qcells_get : ∀ (l : List Wp) (k : Nat) (h : k < l.length), (qcells l)[k * 3]? = some l[k].1 ∧ (qcells l)[k * 3 + 1]? = some (.int .i64 l[k].2.depth) ∧ (qcells l)[k * 3 + 2]? = some (.int .i64 l[k].2.lost)
  | [], k, h => by simp at h
  | x :: l, 0, _ => by simp [qcells]
  | x :: l, k + 1, h => by
    have := qcells_get l k (by simpa using h)
    rw [show (k + 1) * 3 = k * 3 + 1 + 1 + 1 from by omega]
    simpa [qcells] using this
theorem qcells_set0 : ∀ (l : List Wp) (k : Nat) (h : k < l.length) (u : Value) (L : List Int), (qcells l).set (k * 3) u = qcells (l.set k (u, ⟨L, l[k].2.depth, l[k].2.lost⟩))
  | [], k, h, _, _ => by simp at h
  | x :: l, 0, _, u, L => by simp [qcells]
  | x :: l, k + 1, h, u, L => by
    have := qcells_set0 l k (by simpa using h) u L
    rw [show (k + 1) * 3 = k * 3 + 1 + 1 + 1 from by omega]
    simpa [qcells] using this
theorem qcells_set2 : ∀ (l : List Wp) (k : Nat) (h : k < l.length) (t : Int) (L : List Int), (qcells l).set (k * 3 + 2) (.int .i64 t) = qcells (l.set k (l[k].1, ⟨L, l[k].2.depth, t⟩))
  | [], k, h, _, _ => by simp at h
  | x :: l, 0, _, u, L => by simp [qcells]
  | x :: l, k + 1, h, u, L => by
    have := qcells_set2 l k (by simpa using h) u L
    rw [show (k + 1) * 3 + 2 = k * 3 + 2 + 1 + 1 + 1 from by omega]
    simpa [qcells] using this
theorem qcells_setL : ∀ (l : List Wp) (k : Nat) (h : k < l.length) (L : List Int), qcells (l.set k (l[k].1, ⟨L, l[k].2.depth, l[k].2.lost⟩)) = qcells l
  | [], k, h, _ => by simp at h
  | x :: l, 0, _, L => by simp [qcells]
  | x :: l, k + 1, h, L => by
    have := qcells_setL l k (by simpa using h) L
    simpa [qcells] using this
def Wk.put (Q : List Wq) (n cost : Int) : List Wq × Int :=
  if n < 0 ∨ (Q.length : Int) ≤ n then (Q, 1) else
  match Q[n.toNat]? with
  | none => (Q, 1)
  | some q => if cost < 1 ∨ 1099511627776 < cost then (Q, 1) else if q.depth ≤ q.L.length then (Q.set n.toNat ⟨q.L, q.depth, q.lost + 1⟩, 5) else (Q.set n.toNat ⟨q.L ++ [cost], q.depth, q.lost⟩, 0)
def Wk.left (Q : List Wq) (n : Int) : Int :=
  if n < 0 ∨ (Q.length : Int) ≤ n then 0 else
  match Q[n.toNat]? with
  | none => 0
  | some q => q.L.headD 0
def Wk.waiting (Q : List Wq) (n : Int) : Int :=
  if n < 0 ∨ (Q.length : Int) ≤ n then 0 else
  match Q[n.toNat]? with
  | none => 0
  | some q => q.L.length
def Wk.lost (Q : List Wq) (n : Int) : Int :=
  if n < 0 ∨ (Q.length : Int) ≤ n then 0 else
  match Q[n.toNat]? with
  | none => 0
  | some q => q.lost
def Wk.go (Q : List Wq) (n c : Int) : List Wq × Bool × Int :=
  if n < 0 ∨ (Q.length : Int) ≤ n then (Q, false, 1) else
  match Q[n.toNat]? with
  | none => (Q, false, 1)
  | some q => match q.L with
    | [] => (Q, false, 7)
    | x :: l => if c < 0 ∨ x < c then (Q, false, 1) else if c < x then (Q.set n.toNat ⟨(x - c) :: l, q.depth, q.lost⟩, false, 0) else (Q.set n.toNat ⟨l, q.depth, q.lost⟩, true, 0)
theorem Wk.put_out {Q : List Wq} {n cost : Int} (h : n < 0 ∨ (Q.length : Int) ≤ n) : Wk.put Q n cost = (Q, 1) := if_pos h
theorem Wk.left_out {Q : List Wq} {n : Int} (h : n < 0 ∨ (Q.length : Int) ≤ n) : Wk.left Q n = 0 := if_pos h
theorem Wk.waiting_out {Q : List Wq} {n : Int} (h : n < 0 ∨ (Q.length : Int) ≤ n) : Wk.waiting Q n = 0 := if_pos h
theorem Wk.lost_out {Q : List Wq} {n : Int} (h : n < 0 ∨ (Q.length : Int) ≤ n) : Wk.lost Q n = 0 := if_pos h
theorem Wk.go_out {Q : List Wq} {n c : Int} (h : n < 0 ∨ (Q.length : Int) ≤ n) : Wk.go Q n c = (Q, false, 1) := if_pos h
theorem Wk.put_in {Q : List Wq} {i : Nat} {cost : Int} (h : i < Q.length) : Wk.put Q i cost = if cost < 1 ∨ 1099511627776 < cost then (Q, 1) else if Q[i].depth ≤ Q[i].L.length then (Q.set i ⟨Q[i].L, Q[i].depth, Q[i].lost + 1⟩, 5) else (Q.set i ⟨Q[i].L ++ [cost], Q[i].depth, Q[i].lost⟩, 0) := by
  unfold Wk.put
  rw [if_neg (by omega)]
  simp [List.getElem?_eq_getElem h]
theorem Wk.left_in {Q : List Wq} {i : Nat} (h : i < Q.length) : Wk.left Q i = Q[i].L.headD 0 := by
  unfold Wk.left
  rw [if_neg (by omega)]
  simp [List.getElem?_eq_getElem h]
theorem Wk.waiting_in {Q : List Wq} {i : Nat} (h : i < Q.length) : Wk.waiting Q i = Q[i].L.length := by
  unfold Wk.waiting
  rw [if_neg (by omega)]
  simp [List.getElem?_eq_getElem h]
theorem Wk.lost_in {Q : List Wq} {i : Nat} (h : i < Q.length) : Wk.lost Q i = Q[i].lost := by
  unfold Wk.lost
  rw [if_neg (by omega)]
  simp [List.getElem?_eq_getElem h]
theorem Wk.go_in {Q : List Wq} {i : Nat} {c : Int} (h : i < Q.length) : Wk.go Q i c = match Q[i].L with
    | [] => (Q, false, 7)
    | x :: l => if c < 0 ∨ x < c then (Q, false, 1) else if c < x then (Q.set i ⟨(x - c) :: l, Q[i].depth, Q[i].lost⟩, false, 0) else (Q.set i ⟨l, Q[i].depth, Q[i].lost⟩, true, 0) := by
  unfold Wk.go
  rw [if_neg (by omega)]
  simp [List.getElem?_eq_getElem h]
/-- The cells of a queue of a row. -/
theorem Que.queue {w : World} {B : Nat} {ty : TypeId} {v : Value} {M : List Wp} (h : Que w B ty 3 v M.length (qcells M)) (i : Nat) (hi : i < M.length) :
    ∃ g o c, v = .slice (some ⟨g, o, none⟩) M.length c ∧ B ≤ g ∧ g < w.heap.size ∧ M.length ≤ c ∧ c ≤ 9223372036854775807 ∧ w.cell? ⟨g, o + i * 3, none⟩ = some M[i].1 ∧ w.cell? ⟨g, o + i * 3 + 1, none⟩ = some (.int .i64 M[i].2.depth) ∧ w.cell? ⟨g, o + i * 3 + 2, none⟩ = some (.int .i64 M[i].2.lost) := by
  obtain ⟨a, c, rfl⟩ := h.shape
  have hl := qcells_length M
  obtain ⟨g, o, rfl, hg, hc, hm, hx⟩ := h.reads.open (by omega)
  obtain ⟨g0, g1, g2⟩ := qcells_get M i hi
  have key : ∀ j u, i * 3 + j < (qcells M).length → (qcells M)[i * 3 + j]? = some u → w.cell? ⟨g, o + i * 3 + j, none⟩ = some u := fun j u hj hu => by
    have := hx (i * 3 + j) hj
    rw [← Nat.add_assoc] at this
    rw [this, ← hu, List.getElem?_eq_getElem]
  have hhc : c ≤ 9223372036854775807 := hm
  exact ⟨g, o, c, rfl, (h.lt g rfl).1, hg, hc, hhc, by simpa using key 0 _ (by omega) g0, key 1 _ (by omega) g1, key 2 _ (by omega) g2⟩
/-- The first cell of a row of integers. -/
theorem Que.head {w : World} {B : Nat} {ty : TypeId} {v : Value} {x : Int} {l : List Int} (h : Que w B ty 1 v (l.length + 1) (ics (x :: l))) :
    ∃ g o c, v = .slice (some ⟨g, o, none⟩) (l.length + 1) c ∧ B ≤ g ∧ g < w.heap.size ∧ l.length + 1 ≤ c ∧ c ≤ 9223372036854775807 ∧ w.cell? ⟨g, o, none⟩ = some (.int .i64 x) := by
  obtain ⟨a, c, rfl⟩ := h.shape
  obtain ⟨g, o, rfl, hg, hc, hm, hx⟩ := h.reads.open (by simp)
  have hhc : c ≤ 9223372036854775807 := hm
  exact ⟨g, o, c, rfl, (h.lt g rfl).1, hg, hc, hhc, by simpa using hx 0 (by simp)⟩
end Vg
namespace Go.Proofs.Ytiinhofmhoplfaa
open Go.ChangeShapes Go.WideShapes Go.ChangeAt Go.RowKit
theorem Try.info_queue : (Try.prog.info? 151).map (fun i => (i.zero, i.size, i.bytes)) = some (some (.agg #[.slice none 0 0, .int .i64 0, .int .i64 0]), 3, 40) := by kernel_rfl
abbrev workC (v : Value) : Obj := .cells #[v] 149
/-- Which blocks the queues' rows lie in. -/
def wown (v : Value) (qs : List Vg.Wp) (k : Nat) : Prop := v.ownBlock = some k ∨ ∃ i, ∃ h : i < qs.length, qs[i].1.ownBlock = some k
/-- Queues lie at block b. -/
structure WK (w : World) (b B : Nat) (qs : List Vg.Wp) (v : Value) : Prop where
  tab : Vg.blk w b = some (workC v)
  row : Vg.Que w B 151 3 v qs.length (Vg.qcells qs)
  pcs : ∀ i (h : i < qs.length), Vg.Que w B 2 1 qs[i].1 qs[i].2.L.length (Vg.ics qs[i].2.L)
  apart : ∀ i j (hi : i < qs.length) (hj : j < qs.length), i ≠ j → ∀ k, qs[i].1.ownBlock = some k → qs[j].1.ownBlock ≠ some k
  off : ∀ i (hi : i < qs.length) k, qs[i].1.ownBlock = some k → v.ownBlock ≠ some k
section
variable {w w' : World} {b B S : Nat} {qs : List Vg.Wp} {v : Value}
theorem WK.lt (h : WK w b B qs v) : b < w.heap.size := Vg.lt_of h.tab
theorem WK.own (h : WK w b B qs v) : ∀ k, wown v qs k → B ≤ k ∧ k < w.heap.size := by
  rintro k (hk | ⟨i, hi, hk⟩)
  · exact h.row.lt k hk
  · exact (h.pcs i hi).lt k hk
theorem WK.kept (h : WK w b B qs v) (hb : Vg.blk w' b = Vg.blk w b) (hv : ∀ k, wown v qs k → Vg.blk w' k = Vg.blk w k) : WK w' b B qs v :=
  ⟨hb.trans h.tab, h.row.kept fun k hk => hv k (.inl hk), fun i hi => (h.pcs i hi).kept fun k hk => hv k (.inr ⟨i, hi, hk⟩), h.apart, h.off⟩
theorem WK.grows (h : WK w b B qs v) (hg : Vg.Grows w w') : WK w' b B qs v := by
  have hl := h.lt
  have ho := h.own
  obtain ⟨x, n, rfl⟩ := hg
  exact h.kept (Vg.blk_plus hl) fun k hk => Vg.blk_plus (ho k hk).2
theorem WK.touch {t : Nat → Prop} (h : WK w b B qs v) (ht : Vg.Touch t w w') (hb : ¬ t b) (hv : ∀ k, wown v qs k → ¬ t k) : WK w' b B qs v :=
  h.kept (ht.block b h.lt hb) fun k hk => ht.block k (h.own k hk).2 (hv k hk)
theorem WK.upd {i : Nat} (hi : i < qs.length) (h : WK w b B qs v) (u : Value) (q : Vg.Wq) (hb : Vg.blk w' b = Vg.blk w b)
    (hrow : Vg.Que w' B 151 3 v qs.length (Vg.qcells (qs.set i (u, q)))) (hu : Vg.Que w' B 2 1 u q.L.length (Vg.ics q.L))
    (hk : ∀ j (hj : j < qs.length), j ≠ i → ∀ k, qs[j].1.ownBlock = some k → Vg.blk w' k = Vg.blk w k)
    (hnew : ∀ k, u.ownBlock = some k → qs[i].1.ownBlock = some k ∨ w.heap.size ≤ k) : WK w' b B (qs.set i (u, q)) v := by
  have hne : ∀ j (hj : j < qs.length), j ≠ i → (qs.set i (u, q))[j]'(by simpa using hj) = qs[j] := fun j hj hji => List.getElem_set_ne (fun hh => hji hh.symm) _
  have heq : (qs.set i (u, q))[i]'(by simpa using hi) = (u, q) := List.getElem_set_self _
  refine ⟨hb.trans h.tab, by rw [List.length_set]; exact hrow, fun j hj => ?_, fun j k hj hk' hjk x hx => ?_, fun j hj k hx => ?_⟩
  · have hj' : j < qs.length := by simpa using hj
    by_cases hji : j = i
    · subst hji; rw [heq]; exact hu
    · rw [hne j hj' hji]; exact (h.pcs j hj').kept (hk j hj' hji)
  · have hj' : j < qs.length := by simpa using hj
    have hk'' : k < qs.length := by simpa using hk'
    by_cases hji : j = i
    · subst hji
      rw [heq] at hx
      rw [hne k hk'' (fun hh => hjk hh.symm)]
      rcases hnew x hx with h1 | h1
      · exact h.apart j k hj' hk'' hjk x h1
      · intro h2; have := (h.own x (.inr ⟨k, hk'', h2⟩)).2; omega
    · rw [hne j hj' hji] at hx
      by_cases hki : k = i
      · subst hki
        rw [heq]
        intro h2
        rcases hnew x h2 with h1 | h1
        · exact h.apart j k hj' hk'' hjk x hx h1
        · have := (h.own x (.inr ⟨j, hj', hx⟩)).2; omega
      · rw [hne k hk'' hki]
        exact h.apart j k hj' hk'' hjk x hx
  · have hj' : j < qs.length := by simpa using hj
    by_cases hji : j = i
    · subst hji
      rw [heq] at hx
      rcases hnew k hx with h1 | h1
      · exact h.off j hj' k h1
      · intro h2; have := (h.own k (.inl h2)).2; omega
    · rw [hne j hj' hji] at hx
      exact h.off j hj' k hx
theorem work_find_no (m : Int) (h : WK w b B qs v) (hm : m < 0 ∨ (qs.length : Int) ≤ m) :
    Calls Try.prog 93 #[.pointer (some ⟨b, 0, none⟩), .int .i64 m] w fun e w' => e = .returned (.pointer none) ∧ w = w' := by
  obtain ⟨a, c, rfl⟩ := h.row.shape
  have c0 := Vg.cells_of h.tab 0
  simp at c0
  clear h
  by_cases h0 : m < 0
  · clear hm
    go_enter Try.func93, Try.ntmps93
    go_wp2
    go_ret
    exact ⟨rfl, rfl⟩
  · have h1 : (qs.length : Int) ≤ m := by omega
    clear hm
    go_enter Try.func93, Try.ntmps93
    go_wp2
    go_ret
    exact ⟨rfl, rfl⟩
theorem work_find {g o c : Nat} (i : Nat) (hi : i < qs.length) (h : WK w b B qs (.slice (some ⟨g, o, none⟩) qs.length c)) (hc : qs.length ≤ c) (hcm : c ≤ 9223372036854775807) :
    Calls Try.prog 93 #[.pointer (some ⟨b, 0, none⟩), .int .i64 i] w fun e w' => e = .returned (.pointer (some ⟨g, o + i * 3, none⟩)) ∧ w = w' := by
  have c0 := Vg.cells_of h.tab 0
  simp at c0
  clear h
  have h0 : (0 : Int) ≤ i := by omega
  have h1 : (i : Int) < qs.length := by omega
  go_enter Try.func93, Try.ntmps93
  go_wp2
  go_ret
  exact ⟨rfl, rfl⟩
theorem wk_left (m : Int) (h : WK w b B qs v) :
    Calls Try.prog 25 #[.pointer (some ⟨b, 0, none⟩), .int .i64 m] w fun e w' => e = .returned (.int .i64 (Vg.Wk.left (qs.map (·.2)) m)) ∧ w = w' := by
  by_cases hm : m < 0 ∨ (qs.length : Int) ≤ m
  · rw [Vg.Wk.left_out (by simpa using hm)]
    have H_h := Lib.hid h; clear h
    go_enter Try.func25, Try.ntmps25
    go_wp2_with ((go_at_call 93; refine (work_find_no m H_h.out hm).mono ?_; rintro e w' ⟨rfl, rfl⟩))
    go_ret
    exact ⟨rfl, rfl⟩
  · obtain ⟨i, rfl⟩ : ∃ i : Nat, m = i := ⟨m.toNat, by omega⟩
    have hi : i < qs.length := by omega
    rw [Vg.Wk.left_in (by simpa using hi)]
    have hp := h.pcs i hi
    obtain ⟨g, o, c, rfl, hg1, hg2, hc1, hc2, c0, c1, c2⟩ := h.row.queue i hi
    rw [List.getElem_map]
    obtain ⟨⟨u, ⟨L, d, lo⟩⟩, hx⟩ : ∃ x, qs[i] = x := ⟨_, rfl⟩
    rw [hx] at c0 c1 c2 hp ⊢
    simp only [] at c0 c1 c2 hp ⊢
    have H_h := Lib.hid h; clear h; have H_hx := Lib.hid hx; clear hx
    cases L with
    | nil =>
      obtain ⟨ua, uc, rfl⟩ := hp.shape
      have H_hp := Lib.hid hp; clear hp
      go_enter Try.func25, Try.ntmps25
      go_wp2_with ((go_at_call 93; refine (work_find i hi H_h.out hc1 hc2).mono ?_; rintro e w' ⟨rfl, rfl⟩))
      go_ret
      exact ⟨rfl, rfl⟩
    | cons x l =>
      obtain ⟨g2, o2, c', rfl, hb2, hl2, hc3, hc4, hcell⟩ := Vg.Que.head hp
      have hz : ((l.length : Int) + 1 == 0) = false := by simp; omega
      have H_hp := Lib.hid hp; clear hp
      go_enter Try.func25, Try.ntmps25
      go_wp2_with ((go_at_call 93; refine (work_find i hi H_h.out hc1 hc2).mono ?_; rintro e w' ⟨rfl, rfl⟩))
      go_ret
      exact ⟨rfl, rfl⟩
theorem wk_waiting (m : Int) (h : WK w b B qs v) :
    Calls Try.prog 26 #[.pointer (some ⟨b, 0, none⟩), .int .i64 m] w fun e w' => e = .returned (.int .i64 (Vg.Wk.waiting (qs.map (·.2)) m)) ∧ w = w' := by
  by_cases hm : m < 0 ∨ (qs.length : Int) ≤ m
  · rw [Vg.Wk.waiting_out (by simpa using hm)]
    have H_h := Lib.hid h; clear h
    go_enter Try.func26, Try.ntmps26
    go_wp2_with ((go_at_call 93; refine (work_find_no m H_h.out hm).mono ?_; rintro e w' ⟨rfl, rfl⟩))
    go_ret
    exact ⟨rfl, rfl⟩
  · obtain ⟨i, rfl⟩ : ∃ i : Nat, m = i := ⟨m.toNat, by omega⟩
    have hi : i < qs.length := by omega
    rw [Vg.Wk.waiting_in (by simpa using hi)]
    have hp := h.pcs i hi
    obtain ⟨g, o, c, rfl, hg1, hg2, hc1, hc2, c0, c1, c2⟩ := h.row.queue i hi
    rw [List.getElem_map]
    obtain ⟨⟨u, ⟨L, d, lo⟩⟩, hx⟩ : ∃ x, qs[i] = x := ⟨_, rfl⟩
    rw [hx] at c0 c1 c2 hp ⊢
    simp only [] at c0 c1 c2 hp ⊢
    obtain ⟨ua, uc, rfl⟩ := hp.shape
    have H_h := Lib.hid h; clear h; have H_hx := Lib.hid hx; clear hx; have H_hp := Lib.hid hp; clear hp
    go_enter Try.func26, Try.ntmps26
    go_wp2_with ((go_at_call 93; refine (work_find i hi H_h.out hc1 hc2).mono ?_; rintro e w' ⟨rfl, rfl⟩))
    go_ret
    exact ⟨rfl, rfl⟩
theorem wk_lost (m : Int) (h : WK w b B qs v) :
    Calls Try.prog 27 #[.pointer (some ⟨b, 0, none⟩), .int .i64 m] w fun e w' => e = .returned (.int .i64 (Vg.Wk.lost (qs.map (·.2)) m)) ∧ w = w' := by
  by_cases hm : m < 0 ∨ (qs.length : Int) ≤ m
  · rw [Vg.Wk.lost_out (by simpa using hm)]
    have H_h := Lib.hid h; clear h
    go_enter Try.func27, Try.ntmps27
    go_wp2_with ((go_at_call 93; refine (work_find_no m H_h.out hm).mono ?_; rintro e w' ⟨rfl, rfl⟩))
    go_ret
    exact ⟨rfl, rfl⟩
  · obtain ⟨i, rfl⟩ : ∃ i : Nat, m = i := ⟨m.toNat, by omega⟩
    have hi : i < qs.length := by omega
    rw [Vg.Wk.lost_in (by simpa using hi)]
    obtain ⟨g, o, c, rfl, hg1, hg2, hc1, hc2, c0, c1, c2⟩ := h.row.queue i hi
    rw [List.getElem_map]
    obtain ⟨⟨u, ⟨L, d, lo⟩⟩, hx⟩ : ∃ x, qs[i] = x := ⟨_, rfl⟩
    rw [hx] at c0 c1 c2 ⊢
    simp only [] at c0 c1 c2 ⊢
    have H_h := Lib.hid h; clear h; have H_hx := Lib.hid hx; clear hx
    go_enter Try.func27, Try.ntmps27
    go_wp2_with ((go_at_call 93; refine (work_find i hi H_h.out hc1 hc2).mono ?_; rintro e w' ⟨rfl, rfl⟩))
    go_ret
    exact ⟨rfl, rfl⟩
end
end Go.Proofs.Ytiinhofmhoplfaa
