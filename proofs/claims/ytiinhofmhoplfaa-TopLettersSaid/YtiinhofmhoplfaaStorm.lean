/- (For seats without package storm: what mbox needs of XStorm.) A mask lies at block b, its ring at block rb: 'maskC', 'ringC'; what it is by the document: 'Vg.Mask' (when turns come back, in order; the last time; how many were refused). -/
import Derived.Test.YtiinhofmhoplfaaChecked
import Derived.Test.YtiinhofmhoplfaaObj
set_option linter.unusedSimpArgs false
set_option linter.unusedVariables false
set_option maxHeartbeats 400000
namespace Vg
open Go
/-- The turns that are still away at a time. -/
def pop (now : Int) : List Int → List Int
  | [] => []
  | t :: ts => if t ≤ now then pop now ts else t :: ts
structure Mask where
  q : List Int
  last : Int
  refused : Int
def Mask.tell (s : Mask) (now : Int) : Mask × Int := if now < s.last ∨ 4503599627370496 < now then (s, 1) else (⟨pop now s.q, now, s.refused⟩, 0)
def Mask.enter (s : Mask) (many : Nat) (window now : Int) : Mask × Int :=
  if (s.tell now).2 ≠ 0 then (s, (s.tell now).2) else
  if (s.tell now).1.q.length = many then (⟨(s.tell now).1.q, (s.tell now).1.last, s.refused + 1⟩, 15) else (⟨(s.tell now).1.q ++ [now + window], (s.tell now).1.last, s.refused⟩, 0)
def Mask.next (s : Mask) : Int × Bool := match s.q with | [] => (0, false) | t :: _ => (t, true)
theorem pop_length (now : Int) : ∀ q : List Int, (pop now q).length ≤ q.length
  | [] => by simp [pop]
  | t :: ts => by unfold pop; split; · have := pop_length now ts; simp; omega
                  · simp
def intArr (R : Nat → Int) (many : Nat) : Array Value := ((List.range many).map fun i => Value.int .i64 (R i)).toArray
theorem intArr_get {R : Nat → Int} {many o : Nat} (h : o < many) : (intArr R many)[o]? = some (.int .i64 (R o)) := by simp [intArr, h]
theorem intArr_size {R : Nat → Int} {many : Nat} : (intArr R many).size = many := by simp [intArr]
theorem madeCells_int (m : Nat) : madeCells #[.int .i64 0] m = intArr (fun _ => 0) m := by
  unfold madeCells intArr
  apply Array.ext'
  simp [List.map_const', Nat.mod_one]
def upd (R : Nat → Int) (i : Nat) (v : Int) : Nat → Int := fun k => if k = i then v else R k
theorem intArr_set {R : Nat → Int} {many i : Nat} {v : Int} : (intArr R many).setIfInBounds i (.int .i64 v) = intArr (upd R i v) many := by
  apply Array.ext_getElem?
  intro k
  rw [Array.getElem?_setIfInBounds, intArr_size]
  by_cases hk : k < many
  · rw [intArr_get hk, intArr_get hk]
    by_cases h : i = k
    · subst h; simp [hk, upd]
    · rw [if_neg h]; unfold upd; rw [if_neg (by omega)]
  · rw [Array.getElem?_eq_none (by rw [intArr_size]; omega), Array.getElem?_eq_none (by rw [intArr_size]; omega)]
    split
    · split
      · omega
      · rfl
    · rfl
end Vg
namespace Go.Proofs.Ytiinhofmhoplfaa
open Go.ChangeShapes Go.WideShapes Go.ChangeAt Go.RowKit
theorem Try.info_i64 : (Try.prog.info? 2).map (fun i => (i.zero, i.size, i.bytes)) = some (some (.int .i64 0), 1, 8) := by kernel_rfl
abbrev ringC (R : Nat → Int) (many : Nat) : Obj := .cells (Vg.intArr R many) 2
/-- The ring shows the queue. -/
def Shows (R : Nat → Int) (many first : Nat) (q : List Int) : Prop := 1 ≤ many ∧ many ≤ 64 ∧ first < many ∧ q.length ≤ many ∧ ∀ i, i < q.length → R ((first + i) % many) = q.getD i 0

section
variable {b rb many : Nat} {window last refused : Int} {first taken : Nat} {R : Nat → Int} {w : World}
theorem Shows.head {R : Nat → Int} {many first : Nat} {t : Int} {ts : List Int} (h : Shows R many first (t :: ts)) : R first = t := by
  have := h.2.2.2.2 0 (by simp)
  rw [Nat.add_zero, Nat.mod_eq_of_lt h.2.2.1] at this
  exact this
theorem Shows.tail {R : Nat → Int} {many first : Nat} {t : Int} {ts : List Int} (h : Shows R many first (t :: ts)) : Shows R many ((first + 1) % many) ts := by
  obtain ⟨h0, h1, h2, h3, h4⟩ := h
  refine ⟨h0, h1, Nat.mod_lt _ (by omega), by simp at h3; omega, fun i hi => ?_⟩
  have := h4 (i + 1) (by simp; omega)
  rw [show first + (i + 1) = first + 1 + i from by omega] at this
  rw [Nat.mod_add_mod]
  simpa using this

theorem Shows.push {R : Nat → Int} {many first : Nat} {q : List Int} (h : Shows R many first q) (hl : q.length < many) (v : Int) : Shows (Vg.upd R ((first + q.length) % many) v) many first (q ++ [v]) := by
  obtain ⟨h0, h1, h2, h3, h4⟩ := h
  refine ⟨h0, h1, h2, by simp; omega, fun i hi => ?_⟩
  simp at hi
  unfold Vg.upd
  by_cases hi2 : i = q.length
  · subst hi2; simp
  · have hne : (first + i) % many ≠ (first + q.length) % many := by
      intro e
      have hd := Nat.sub_mod_eq_zero_of_mod_eq e.symm
      rw [show first + q.length - (first + i) = q.length - i from by omega, Nat.mod_eq_of_lt (by omega)] at hd
      omega
    rw [if_neg hne, h4 i (by omega)]
    have hlt : i < q.length := by omega
    simp [List.getElem?_append_left hlt]

end
end Go.Proofs.Ytiinhofmhoplfaa
