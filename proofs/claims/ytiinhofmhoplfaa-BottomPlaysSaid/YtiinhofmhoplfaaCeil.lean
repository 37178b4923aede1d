/- Contracts of package ceiling. A table lies at block b; its mutexes are a row ('Vg.mcells', in a block from B on): 'CE'. -/
import Derived.Test.YtiinhofmhoplfaaServer
import Derived.Test.YtiinhofmhoplfaaFit
set_option linter.unusedSimpArgs false
set_option linter.unusedVariables false
set_option maxHeartbeats 1000000
set_option maxRecDepth 20000
namespace Vg
open Go
abbrev ics (L : List Int) : List Value := L.map (Value.int .i64)
structure Mx where
  c : Int
  held : Bool
  who : Int
def Mx.cells (x : Mx) : List Value := [.int .i64 x.c, .bool x.held, .int .i64 x.who]
def mcells : List Mx → List Value
  | [] => []
  | x :: l => x.cells ++ mcells l
theorem mcells_length : ∀ l : List Mx, (mcells l).length = l.length * 3
  | [] => rfl
  | x :: l => by simp [mcells, Mx.cells, mcells_length l]; omega
theorem mcells_append : ∀ l m : List Mx, mcells (l ++ m) = mcells l ++ mcells m
  | [], m => rfl
  | x :: l, m => by simp [mcells, mcells_append l m]
theorem mcells_get : ∀ (l : List Mx) (k : Nat) (h : k < l.length), (mcells l)[k * 3]? = some (.int .i64 l[k].c) ∧ (mcells l)[k * 3 + 1]? = some (.bool l[k].held) ∧ (mcells l)[k * 3 + 2]? = some (.int .i64 l[k].who)
  | [], k, h => by simp at h
  | x :: l, 0, _ => by simp [mcells, Mx.cells]
  | x :: l, k + 1, h => by
    have := mcells_get l k (by simpa using h)
    rw [show (k + 1) * 3 = k * 3 + 1 + 1 + 1 from by omega]
    simpa [mcells, Mx.cells] using this
theorem mcells_set1 : ∀ (l : List Mx) (k : Nat) (h : k < l.length) (b : Bool), (mcells l).set (k * 3 + 1) (.bool b) = mcells (l.set k ⟨l[k].c, b, l[k].who⟩)
  | [], k, h, _ => by simp at h
  | x :: l, 0, _, b => by simp [mcells, Mx.cells]
  | x :: l, k + 1, h, b => by
    have := mcells_set1 l k (by simpa using h) b
    rw [show (k + 1) * 3 + 1 = k * 3 + 1 + 1 + 1 + 1 from by omega]
    simpa [mcells, Mx.cells] using this
theorem mcells_set2 : ∀ (l : List Mx) (k : Nat) (h : k < l.length) (t : Int), (mcells l).set (k * 3 + 2) (.int .i64 t) = mcells (l.set k ⟨l[k].c, l[k].held, t⟩)
  | [], k, h, _ => by simp at h
  | x :: l, 0, _, b => by simp [mcells, Mx.cells]
  | x :: l, k + 1, h, b => by
    have := mcells_set2 l k (by simpa using h) b
    rw [show (k + 1) * 3 + 2 = k * 3 + 2 + 1 + 1 + 1 from by omega]
    simpa [mcells, Mx.cells] using this
abbrev Tb := List Mx
def Tb.lock (M : List Mx) (m task prio : Int) : List Mx × Int :=
  if m < 0 ∨ (M.length : Int) ≤ m then (M, 1) else
  match M[m.toNat]? with
  | none => (M, 1)
  | some x => if x.c < prio then (M, 12) else if x.held = true ∧ x.who = task then (M, 4) else if x.held = true then (M, 13) else (M.set m.toNat ⟨x.c, true, task⟩, 0)
def Tb.unlock (M : List Mx) (m task : Int) : List Mx × Int :=
  if m < 0 ∨ (M.length : Int) ≤ m then (M, 1) else
  match M[m.toNat]? with
  | none => (M, 1)
  | some x => if x.held = true ∧ x.who = task then (M.set m.toNat ⟨x.c, false, x.who⟩, 0) else (M, 7)
def Tb.holder (M : List Mx) (m : Int) : Int × Bool :=
  if m < 0 ∨ (M.length : Int) ≤ m then (0, false) else
  match M[m.toNat]? with
  | none => (0, false)
  | some x => if x.held = true then (x.who, true) else (0, false)
theorem Tb.lock_out {M : List Mx} {m task prio : Int} (h : m < 0 ∨ (M.length : Int) ≤ m) : Tb.lock M m task prio = (M, 1) := if_pos h
theorem Tb.unlock_out {M : List Mx} {m task : Int} (h : m < 0 ∨ (M.length : Int) ≤ m) : Tb.unlock M m task = (M, 1) := if_pos h
theorem Tb.holder_out {M : List Mx} {m : Int} (h : m < 0 ∨ (M.length : Int) ≤ m) : Tb.holder M m = (0, false) := if_pos h
theorem Tb.lock_in {M : List Mx} {i : Nat} {task prio : Int} (h : i < M.length) : Tb.lock M i task prio = if M[i].c < prio then (M, 12) else if M[i].held = true ∧ M[i].who = task then (M, 4) else if M[i].held = true then (M, 13) else (M.set i ⟨M[i].c, true, task⟩, 0) := by
  unfold Tb.lock
  rw [if_neg (by omega)]
  simp [List.getElem?_eq_getElem h]
theorem Tb.unlock_in {M : List Mx} {i : Nat} {task : Int} (h : i < M.length) : Tb.unlock M i task = if M[i].held = true ∧ M[i].who = task then (M.set i ⟨M[i].c, false, M[i].who⟩, 0) else (M, 7) := by
  unfold Tb.unlock
  rw [if_neg (by omega)]
  simp [List.getElem?_eq_getElem h]
theorem Tb.holder_in {M : List Mx} {i : Nat} (h : i < M.length) : Tb.holder M i = if M[i].held = true then (M[i].who, true) else (0, false) := by
  unfold Tb.holder
  rw [if_neg (by omega)]
  simp [List.getElem?_eq_getElem h]
theorem Tb.lock_len (M : List Mx) (m task prio : Int) : (Tb.lock M m task prio).1.length = M.length := by
  unfold Tb.lock
  split
  · rfl
  · split
    · rfl
    · split
      · rfl
      · split
        · rfl
        · split
          · rfl
          · simp
theorem Tb.unlock_len (M : List Mx) (m task : Int) : (Tb.unlock M m task).1.length = M.length := by
  unfold Tb.unlock
  split
  · rfl
  · split
    · rfl
    · split
      · simp
      · rfl
/-- The cells of a mutex of a row. -/
theorem Que.mutex {w : World} {B : Nat} {ty : TypeId} {v : Value} {M : List Mx} (h : Que w B ty 3 v M.length (mcells M)) (i : Nat) (hi : i < M.length) :
    ∃ g o c, v = .slice (some ⟨g, o, none⟩) M.length c ∧ B ≤ g ∧ g < w.heap.size ∧ M.length ≤ c ∧ c ≤ 9223372036854775807 ∧ w.cell? ⟨g, o + i * 3, none⟩ = some (.int .i64 M[i].c) ∧ w.cell? ⟨g, o + i * 3 + 1, none⟩ = some (.bool M[i].held) ∧ w.cell? ⟨g, o + i * 3 + 2, none⟩ = some (.int .i64 M[i].who) := by
  obtain ⟨a, c, rfl⟩ := h.shape
  have hl := mcells_length M
  obtain ⟨g, o, rfl, hg, hc, hm, hx⟩ := h.reads.open (by omega)
  obtain ⟨g0, g1, g2⟩ := mcells_get M i hi
  have key : ∀ j u, i * 3 + j < (mcells M).length → (mcells M)[i * 3 + j]? = some u → w.cell? ⟨g, o + i * 3 + j, none⟩ = some u := fun j u hj hu => by
    have := hx (i * 3 + j) hj
    rw [← Nat.add_assoc] at this
    rw [this, ← hu, List.getElem?_eq_getElem]
  have hhc : c ≤ 9223372036854775807 := hm
  exact ⟨g, o, c, rfl, (h.lt g rfl).1, hg, hc, hhc, by simpa using key 0 _ (by omega) g0, key 1 _ (by omega) g1, key 2 _ (by omega) g2⟩
end Vg
namespace Go.Proofs.Ytiinhofmhoplfaa
open Go.ChangeShapes Go.WideShapes Go.ChangeAt Go.RowKit
theorem Try.info_mutex : (Try.prog.info? 161).map (fun i => (i.zero, i.size, i.bytes)) = some (some (.agg #[.int .i64 0, .bool false, .int .i64 0]), 3, 24) := by kernel_rfl
abbrev tabC (v : Value) : Obj := .cells #[v] 159
/-- A table lies at block b. -/
def CE (w : World) (b B : Nat) (M : List Vg.Mx) (v : Value) : Prop := Vg.blk w b = some (tabC v) ∧ Vg.Que w B 161 3 v M.length (Vg.mcells M)
section
variable {w w' : World} {b B S : Nat} {M : List Vg.Mx} {v : Value} {L : List Int} {sa : Option Addr} {sc : Nat}
theorem CE.kept (h : CE w b B M v) (hb : Vg.blk w' b = Vg.blk w b) (hv : ∀ k, v.ownBlock = some k → Vg.blk w' k = Vg.blk w k) : CE w' b B M v := ⟨hb.trans h.1, h.2.kept hv⟩
theorem CE.lt (h : CE w b B M v) : b < w.heap.size := Vg.lt_of h.1
theorem CE.own (h : CE w b B M v) : ∀ k, v.ownBlock = some k → B ≤ k ∧ k < w.heap.size := h.2.lt
theorem CE.grows (h : CE w b B M v) (hg : Vg.Grows w w') : CE w' b B M v := by
  have hl := h.lt
  have ho := h.own
  obtain ⟨x, n, rfl⟩ := hg
  exact h.kept (Vg.blk_plus hl) fun k hk => Vg.blk_plus (ho k hk).2
theorem CE.touch {t : Nat → Prop} (h : CE w b B M v) (ht : Vg.Touch t w w') (hb : ¬ t b) (hv : ∀ k, v.ownBlock = some k → ¬ t k) : CE w' b B M v :=
  h.kept (ht.block b h.lt hb) fun k hk => ht.block k (h.own k hk).2 (hv k hk)
theorem CE.shape (h : CE w b B M v) : ∃ a c, v = .slice a M.length c := h.2.shape
theorem ceil_find_no (m : Int) (h : CE w b B M v) (hm : m < 0 ∨ (M.length : Int) ≤ m) :
    Calls Try.prog 97 #[.pointer (some ⟨b, 0, none⟩), .int .i64 m] w fun e w' => e = .returned (.pointer none) ∧ w = w' := by
  obtain ⟨a, c, rfl⟩ := h.shape
  have c0 := Vg.cells_of h.1 0
  simp at c0
  clear h
  by_cases h0 : m < 0
  · clear hm
    go_enter Try.func97, Try.ntmps97
    go_wp2
    go_ret
    exact ⟨rfl, rfl⟩
  · have h1 : (M.length : Int) ≤ m := by omega
    clear hm
    go_enter Try.func97, Try.ntmps97
    go_wp2
    go_ret
    exact ⟨rfl, rfl⟩
theorem ceil_find {g o c : Nat} (i : Nat) (hi : i < M.length) (h : CE w b B M (.slice (some ⟨g, o, none⟩) M.length c)) (hc : M.length ≤ c) (hcm : c ≤ 9223372036854775807) :
    Calls Try.prog 97 #[.pointer (some ⟨b, 0, none⟩), .int .i64 i] w fun e w' => e = .returned (.pointer (some ⟨g, o + i * 3, none⟩)) ∧ w = w' := by
  have c0 := Vg.cells_of h.1 0
  simp at c0
  clear h
  have h0 : (0 : Int) ≤ i := by omega
  have h1 : (i : Int) < M.length := by omega
  go_enter Try.func97, Try.ntmps97
  go_wp2
  go_ret
  exact ⟨rfl, rfl⟩
theorem ce_holder (m : Int) (h : CE w b B M v) :
    Calls Try.prog 35 #[.pointer (some ⟨b, 0, none⟩), .int .i64 m] w fun e w' => e = .returned (.tuple #[.int .i64 (Vg.Tb.holder M m).1, .bool (Vg.Tb.holder M m).2]) ∧ w = w' := by
  by_cases hm : m < 0 ∨ (M.length : Int) ≤ m
  · rw [Vg.Tb.holder_out hm]
    have H_h := Lib.hid h; clear h
    go_enter Try.func35, Try.ntmps35
    go_wp2_with ((go_at_call 97; refine (ceil_find_no m H_h.out hm).mono ?_; rintro e w' ⟨rfl, rfl⟩))
    go_ret2
    exact ⟨rfl, rfl⟩
  · obtain ⟨i, rfl⟩ : ∃ i : Nat, m = i := ⟨m.toNat, by omega⟩
    have hi : i < M.length := by omega
    rw [Vg.Tb.holder_in hi]
    obtain ⟨g, o, c, rfl, hg1, hg2, hc1, hc2, c0, c1, c2⟩ := h.2.mutex i hi
    obtain ⟨x, hx⟩ : ∃ x, M[i] = x := ⟨_, rfl⟩
    rw [hx] at c0 c1 c2 ⊢
    obtain ⟨xc, xh, xw⟩ := x
    simp only [] at c0 c1 c2 ⊢
    have H_h := Lib.hid h; clear h; have H_hx := Lib.hid hx; clear hx
    cases xh
    all_goals
      go_enter Try.func35, Try.ntmps35
      go_wp2_with ((go_at_call 97; refine (ceil_find i hi H_h.out hc1 hc2).mono ?_; rintro e w' ⟨rfl, rfl⟩))
      go_ret2
      exact ⟨rfl, rfl⟩
theorem ce_lock (m task prio : Int) (h : CE w b B M v) (hb : b < B) :
    Calls Try.prog 32 #[.pointer (some ⟨b, 0, none⟩), .int .i64 m, .int .i64 task, .int .i64 prio] w fun e w' => e = .returned (.int .i64 (Vg.Tb.lock M m task prio).2) ∧ CE w' b B (Vg.Tb.lock M m task prio).1 v ∧ Vg.Touch (fun k => v.ownBlock = some k) w w' := by
  by_cases hm : m < 0 ∨ (M.length : Int) ≤ m
  · rw [Vg.Tb.lock_out hm]
    have H_h := Lib.hid h; clear h
    go_enter Try.func32, Try.ntmps32
    go_wp2_with ((go_at_call 97; refine (ceil_find_no m H_h.out hm).mono ?_; rintro e w' ⟨rfl, rfl⟩))
    go_ret
    exact ⟨rfl, H_h.out, Vg.Touch.refl _ _⟩
  · obtain ⟨i, rfl⟩ : ∃ i : Nat, m = i := ⟨m.toNat, by omega⟩
    have hi : i < M.length := by omega
    rw [Vg.Tb.lock_in hi]
    obtain ⟨g, o, c, rfl, hg1, hg2, hc1, hc2, c0, c1, c2⟩ := h.2.mutex i hi
    have hfz := h.2.frozen
    obtain ⟨x, hx⟩ : ∃ x, M[i] = x := ⟨_, rfl⟩
    rw [hx] at c0 c1 c2 ⊢
    obtain ⟨xc, xh, xw⟩ := x
    simp only [] at c0 c1 c2 ⊢
    by_cases hp : xc < prio
    · rw [if_pos hp]
      have H_h := Lib.hid h; clear h; have H_hx := Lib.hid hx; clear hx
      go_enter Try.func32, Try.ntmps32
      go_wp2_with ((go_at_call 97; refine (ceil_find i hi H_h.out hc1 hc2).mono ?_; rintro e w' ⟨rfl, rfl⟩))
      go_ret
      exact ⟨rfl, H_h.out, Vg.Touch.refl _ _⟩
    · rw [if_neg hp]
      cases xh with
      | true =>
        by_cases ht : xw = task
        · subst ht
          rw [if_pos ⟨rfl, rfl⟩]
          have htb : (xw == xw) = true := by simp
          have H_h := Lib.hid h; clear h; have H_hx := Lib.hid hx; clear hx
          go_enter Try.func32, Try.ntmps32
          go_wp2_with ((go_at_call 97; refine (ceil_find i hi H_h.out hc1 hc2).mono ?_; rintro e w' ⟨rfl, rfl⟩))
          go_ret
          exact ⟨rfl, H_h.out, Vg.Touch.refl _ _⟩
        · rw [if_neg (fun hh => ht hh.2), if_pos rfl]
          have htb : (xw == task) = false := by simp [ht]
          have H_h := Lib.hid h; clear h; have H_hx := Lib.hid hx; clear hx; have H_ht := Lib.hid ht; clear ht
          go_enter Try.func32, Try.ntmps32
          go_wp2_with ((go_at_call 97; refine (ceil_find i hi H_h.out hc1 hc2).mono ?_; rintro e w' ⟨rfl, rfl⟩))
          go_ret
          exact ⟨rfl, H_h.out, Vg.Touch.refl _ _⟩
      | false =>
        rw [if_neg (by simp), if_neg (by simp)]
        have H_h := Lib.hid h; clear h; have H_hx := Lib.hid hx; clear hx
        go_enter Try.func32, Try.ntmps32
        go_wp2_with ((go_at_call 97; refine (ceil_find i hi H_h.out hc1 hc2).mono ?_; rintro e w' ⟨rfl, rfl⟩))
        go_ret
        have hml := Vg.mcells_length M
        have q1 := H_h.out.2.set (j := i * 3 + 1) (u := .bool true) (by omega)
        have q2 := q1.1.set (j := i * 3 + 2) (u := .int .i64 task) (by simp; omega)
        rw [Vg.mcells_set1 M i hi true, Vg.mcells_set2 _ i (by simp; exact hi) task, ← Nat.add_assoc, ← Nat.add_assoc] at q2
        simp only [List.getElem_set_self, List.set_set, H_hx.out] at q2
        rw [← Nat.add_assoc] at q1
        have hs := q1.2.trans q2.2
        refine ⟨rfl, ⟨(hs.block b (by omega)).trans H_h.out.1, by rw [List.length_set]; exact q2.1⟩, Vg.Touch.of_same (hs.mono fun k hk => by rw [hk]; rfl)⟩
theorem ce_unlock (m task : Int) (h : CE w b B M v) (hb : b < B) :
    Calls Try.prog 34 #[.pointer (some ⟨b, 0, none⟩), .int .i64 m, .int .i64 task] w fun e w' => e = .returned (.int .i64 (Vg.Tb.unlock M m task).2) ∧ CE w' b B (Vg.Tb.unlock M m task).1 v ∧ Vg.Touch (fun k => v.ownBlock = some k) w w' := by
  by_cases hm : m < 0 ∨ (M.length : Int) ≤ m
  · rw [Vg.Tb.unlock_out hm]
    have H_h := Lib.hid h; clear h
    go_enter Try.func34, Try.ntmps34
    go_wp2_with ((go_at_call 97; refine (ceil_find_no m H_h.out hm).mono ?_; rintro e w' ⟨rfl, rfl⟩))
    go_ret
    exact ⟨rfl, H_h.out, Vg.Touch.refl _ _⟩
  · obtain ⟨i, rfl⟩ : ∃ i : Nat, m = i := ⟨m.toNat, by omega⟩
    have hi : i < M.length := by omega
    rw [Vg.Tb.unlock_in hi]
    obtain ⟨g, o, c, rfl, hg1, hg2, hc1, hc2, c0, c1, c2⟩ := h.2.mutex i hi
    have hfz := h.2.frozen
    obtain ⟨x, hx⟩ : ∃ x, M[i] = x := ⟨_, rfl⟩
    rw [hx] at c0 c1 c2 ⊢
    obtain ⟨xc, xh, xw⟩ := x
    simp only [] at c0 c1 c2 ⊢
    cases xh with
    | true =>
      by_cases ht : xw = task
      · subst ht
        rw [if_pos ⟨rfl, rfl⟩]
        have htb : (xw != xw) = false := by simp
        have H_h := Lib.hid h; clear h; have H_hx := Lib.hid hx; clear hx
        go_enter Try.func34, Try.ntmps34
        go_wp2_with ((go_at_call 97; refine (ceil_find i hi H_h.out hc1 hc2).mono ?_; rintro e w' ⟨rfl, rfl⟩))
        go_ret
        have hml := Vg.mcells_length M
        have q1 := H_h.out.2.set (j := i * 3 + 1) (u := .bool false) (by omega)
        rw [Vg.mcells_set1 M i hi false, ← Nat.add_assoc] at q1
        simp only [H_hx.out] at q1
        have hs := q1.2
        exact ⟨rfl, ⟨(hs.block b (by omega)).trans H_h.out.1, by rw [List.length_set]; exact q1.1⟩, Vg.Touch.of_same (hs.mono fun k hk => by rw [hk]; rfl)⟩
      · rw [if_neg (fun hh => ht hh.2)]
        have htb : (xw != task) = true := by simp [ht]
        have H_h := Lib.hid h; clear h; have H_hx := Lib.hid hx; clear hx; have H_ht := Lib.hid ht; clear ht
        go_enter Try.func34, Try.ntmps34
        go_wp2_with ((go_at_call 97; refine (ceil_find i hi H_h.out hc1 hc2).mono ?_; rintro e w' ⟨rfl, rfl⟩))
        go_ret
        exact ⟨rfl, H_h.out, Vg.Touch.refl _ _⟩
    | false =>
      rw [if_neg (by simp)]
      have H_h := Lib.hid h; clear h; have H_hx := Lib.hid hx; clear hx
      go_enter Try.func34, Try.ntmps34
      go_wp2_with ((go_at_call 97; refine (ceil_find i hi H_h.out hc1 hc2).mono ?_; rintro e w' ⟨rfl, rfl⟩))
      go_ret
      exact ⟨rfl, H_h.out, Vg.Touch.refl _ _⟩
end
end Go.Proofs.Ytiinhofmhoplfaa
