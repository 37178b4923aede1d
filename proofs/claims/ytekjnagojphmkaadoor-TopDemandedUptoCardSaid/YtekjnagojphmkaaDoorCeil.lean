/- Contracts of package ceiling. A table lies at block b; its mutexes are a row ('Vg.mcells', in a block from B on): 'CE'. -/
import Derived.Test.YtekjnagojphmkaaDoorServer
import Derived.Test.YtekjnagojphmkaaDoorFit
set_option linter.unusedSimpArgs false
set_option linter.unusedVariables false
set_option maxHeartbeats 1000000
set_option maxRecDepth 20000
namespace Vg
open Go
abbrev ics (L : List Int) : List Value := L.map (Value.int .i64)
structure Mx where
  c : Int
  held : Bool
  who : Int
def Mx.cells (x : Mx) : List Value := [.int .i64 x.c, .bool x.held, .int .i64 x.who]
def mcells : List Mx → List Value
  | [] => []
  | x :: l => x.cells ++ mcells l
theorem mcells_length : ∀ l : List Mx, (mcells l).length = l.length * 3
  | [] => rfl
  | x :: l => by simp [mcells, Mx.cells, mcells_length l]; omega
theorem mcells_append : ∀ l m : List Mx, mcells (l ++ m) = mcells l ++ mcells m
  | [], m => rfl
  | x :: l, m => by simp [mcells, mcells_append l m]
theorem mcells_get : ∀ (l : List Mx) (k : Nat) (h : k < l.length), (mcells l)[k * 3]? = some (.int .i64 l[k].c) ∧ (mcells l)[k * 3 + 1]? = some (.bool l[k].held) ∧ (mcells l)[k * 3 + 2]? = some (.int .i64 l[k].who)
  | [], k, h => by simp at h
  | x :: l, 0, _ => by simp [mcells, Mx.cells]
  | x :: l, k + 1, h => by
    have := mcells_get l k (by simpa using h)
    rw [show (k + 1) * 3 = k * 3 + 1 + 1 + 1 from by omega]
    simpa [mcells, Mx.cells] using this
theorem mcells_set1 : ∀ (l : List Mx) (k : Nat) (h : k < l.length) (b : Bool), (mcells l).set (k * 3 + 1) (.bool b) = mcells (l.set k ⟨l[k].c, b, l[k].who⟩)
  | [], k, h, _ => by simp at h
  | x :: l, 0, _, b => by simp [mcells, Mx.cells]
  | x :: l, k + 1, h, b => by
    have := mcells_set1 l k (by simpa using h) b
    rw [show (k + 1) * 3 + 1 = k * 3 + 1 + 1 + 1 + 1 from by omega]
    simpa [mcells, Mx.cells] using this
theorem mcells_set2 : ∀ (l : List Mx) (k : Nat) (h : k < l.length) (t : Int), (mcells l).set (k * 3 + 2) (.int .i64 t) = mcells (l.set k ⟨l[k].c, l[k].held, t⟩)
  | [], k, h, _ => by simp at h
  | x :: l, 0, _, b => by simp [mcells, Mx.cells]
  | x :: l, k + 1, h, b => by
    have := mcells_set2 l k (by simpa using h) b
    rw [show (k + 1) * 3 + 2 = k * 3 + 2 + 1 + 1 + 1 from by omega]
    simpa [mcells, Mx.cells] using this
abbrev Tb := List Mx
def Tb.lock (M : List Mx) (m task prio : Int) : List Mx × Int :=
  if m < 0 ∨ (M.length : Int) ≤ m then (M, 1) else
  match M[m.toNat]? with
  | none => (M, 1)
  | some x => if x.c < prio then (M, 12) else if x.held = true ∧ x.who = task then (M, 4) else if x.held = true then (M, 13) else (M.set m.toNat ⟨x.c, true, task⟩, 0)
def Tb.unlock (M : List Mx) (m task : Int) : List Mx × Int :=
  if m < 0 ∨ (M.length : Int) ≤ m then (M, 1) else
  match M[m.toNat]? with
  | none => (M, 1)
  | some x => if x.held = true ∧ x.who = task then (M.set m.toNat ⟨x.c, false, x.who⟩, 0) else (M, 7)
def Tb.holder (M : List Mx) (m : Int) : Int × Bool :=
  if m < 0 ∨ (M.length : Int) ≤ m then (0, false) else
  match M[m.toNat]? with
  | none => (0, false)
  | some x => if x.held = true then (x.who, true) else (0, false)
theorem Tb.lock_out {M : List Mx} {m task prio : Int} (h : m < 0 ∨ (M.length : Int) ≤ m) : Tb.lock M m task prio = (M, 1) := if_pos h
theorem Tb.unlock_out {M : List Mx} {m task : Int} (h : m < 0 ∨ (M.length : Int) ≤ m) : Tb.unlock M m task = (M, 1) := if_pos h
theorem Tb.holder_out {M : List Mx} {m : Int} (h : m < 0 ∨ (M.length : Int) ≤ m) : Tb.holder M m = (0, false) := if_pos h
theorem Tb.lock_in {M : List Mx} {i : Nat} {task prio : Int} (h : i < M.length) : Tb.lock M i task prio = if M[i].c < prio then (M, 12) else if M[i].held = true ∧ M[i].who = task then (M, 4) else if M[i].held = true then (M, 13) else (M.set i ⟨M[i].c, true, task⟩, 0) := by
  unfold Tb.lock
  rw [if_neg (by omega)]
  simp [List.getElem?_eq_getElem h]
theorem Tb.unlock_in {M : List Mx} {i : Nat} {task : Int} (h : i < M.length) : Tb.unlock M i task = if M[i].held = true ∧ M[i].who = task then (M.set i ⟨M[i].c, false, M[i].who⟩, 0) else (M, 7) := by
  unfold Tb.unlock
  rw [if_neg (by omega)]
  simp [List.getElem?_eq_getElem h]
theorem Tb.holder_in {M : List Mx} {i : Nat} (h : i < M.length) : Tb.holder M i = if M[i].held = true then (M[i].who, true) else (0, false) := by
  unfold Tb.holder
  rw [if_neg (by omega)]
  simp [List.getElem?_eq_getElem h]
theorem Tb.lock_len (M : List Mx) (m task prio : Int) : (Tb.lock M m task prio).1.length = M.length := by
  unfold Tb.lock
  split
  · rfl
  · split
    · rfl
    · split
      · rfl
      · split
        · rfl
        · split
          · rfl
          · simp
theorem Tb.unlock_len (M : List Mx) (m task : Int) : (Tb.unlock M m task).1.length = M.length := by
  unfold Tb.unlock
  split
  · rfl
  · split
    · rfl
    · split
      · simp
      · rfl
/-- The cells of a mutex of a row. -/
theorem Que.mutex {w : World} {B : Nat} {ty : TypeId} {v : Value} {M : List Mx} (h : Que w B ty 3 v M.length (mcells M)) (i : Nat) (hi : i < M.length) :
    ∃ g o c, v = .slice (some ⟨g, o, none⟩) M.length c ∧ B ≤ g ∧ g < w.heap.size ∧ M.length ≤ c ∧ c ≤ 9223372036854775807 ∧ w.cell? ⟨g, o + i * 3, none⟩ = some (.int .i64 M[i].c) ∧ w.cell? ⟨g, o + i * 3 + 1, none⟩ = some (.bool M[i].held) ∧ w.cell? ⟨g, o + i * 3 + 2, none⟩ = some (.int .i64 M[i].who) := by
  obtain ⟨a, c, rfl⟩ := h.shape
  have hl := mcells_length M
  obtain ⟨g, o, rfl, hg, hc, hm, hx⟩ := h.reads.open (by omega)
  obtain ⟨g0, g1, g2⟩ := mcells_get M i hi
  have key : ∀ j u, i * 3 + j < (mcells M).length → (mcells M)[i * 3 + j]? = some u → w.cell? ⟨g, o + i * 3 + j, none⟩ = some u := fun j u hj hu => by
    have := hx (i * 3 + j) hj
    rw [← Nat.add_assoc] at this
    rw [this, ← hu, List.getElem?_eq_getElem]
  have hhc : c ≤ 9223372036854775807 := hm
  exact ⟨g, o, c, rfl, (h.lt g rfl).1, hg, hc, hhc, by simpa using key 0 _ (by omega) g0, key 1 _ (by omega) g1, key 2 _ (by omega) g2⟩
end Vg
