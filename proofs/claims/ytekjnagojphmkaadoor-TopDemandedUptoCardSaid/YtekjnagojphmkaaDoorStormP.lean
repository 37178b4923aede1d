/- Storm: the plain laws: the queue of returns against the document's list of entries. No program is named here. -/
import Derived.Test.YtekjnagojphmkaaDoorStorm
set_option linter.unusedSimpArgs false
set_option linter.unusedVariables false
namespace Vg
/-- What holds of a mask in use: its returns come in order, none later than a window behind the last time. -/
def Mask.Inv (s : Mask) (window : Int) : Prop := 0 ≤ s.last ∧ s.last ≤ 4503599627370496 ∧ List.Pairwise (· ≤ ·) s.q ∧ ∀ r ∈ s.q, window ≤ r ∧ r ≤ s.last + window
/-- The entries that belong to returns. -/
def ents (window : Int) (q : List Int) : List Int := q.map (· - window)
theorem pop_filter (now : Int) : ∀ q : List Int, List.Pairwise (· ≤ ·) q → pop now q = q.filter fun r => decide (now < r)
  | [], _ => rfl
  | t :: ts, h => by
    rw [List.pairwise_cons] at h
    by_cases ht : t ≤ now
    · rw [pop, if_pos ht, pop_filter now ts h.2, List.filter_cons_of_neg (by simp; omega)]
    · rw [pop, if_neg ht]
      symm
      rw [List.filter_eq_self]
      intro r hr
      simp only [decide_eq_true_eq]
      rcases List.mem_cons.1 hr with rfl | hr
      · omega
      · have := h.1 r hr; omega
theorem ents_filter (now window : Int) (q : List Int) (h : List.Pairwise (· ≤ ·) q) : (ents window q).filter (fun t => decide (now - window < t)) = ents window (pop now q) := by
  rw [pop_filter now q h]
  unfold ents
  rw [List.filter_map]
  congr 1
  apply List.filter_congr
  intro r _
  simp only [Function.comp, decide_eq_decide]
  omega
theorem ents_length (window : Int) (q : List Int) : (ents window q).length = q.length := by simp [ents]
theorem ents_snoc (window now : Int) (q : List Int) : ents window (q ++ [now + window]) = ents window q ++ [now] := by simp [ents]
theorem pop_inv {s : Mask} {window now : Int} (h : s.Inv window) (h1 : s.last ≤ now) (h2 : now ≤ 4503599627370496) : Mask.Inv ⟨pop now s.q, now, s.refused⟩ window := by
  obtain ⟨a, b, c, d⟩ := h
  refine ⟨by show (0 : Int) ≤ now; omega, h2, ?_, fun r hr => ?_⟩
  · show List.Pairwise (· ≤ ·) (pop now s.q)
    rw [pop_filter now s.q c]; exact List.Pairwise.filter _ c
  · have hr' : r ∈ pop now s.q := hr
    rw [pop_filter now s.q c] at hr'
    have := d r (List.mem_filter.1 hr').1
    show window ≤ r ∧ r ≤ now + window
    omega
theorem Inv.refused {q : List Int} {last r1 window : Int} (r2 : Int) (h : Mask.Inv ⟨q, last, r1⟩ window) : Mask.Inv ⟨q, last, r2⟩ window := h
theorem push_inv {q : List Int} {last r window : Int} (h : Mask.Inv ⟨q, last, r⟩ window) : Mask.Inv ⟨q ++ [last + window], last, r⟩ window := by
  obtain ⟨a, b, c, d⟩ := h
  refine ⟨a, b, ?_, fun x hx => ?_⟩
  · show List.Pairwise (· ≤ ·) (q ++ [last + window])
    rw [List.pairwise_append]
    refine ⟨c, by simp, fun x hx y hy => ?_⟩
    simp at hy
    subst hy
    exact (d x hx).2
  · have hx' : x ∈ q ++ [last + window] := hx
    rcases List.mem_append.1 hx' with h1 | h1
    · exact d x h1
    · simp at h1
      subst h1
      have ha : 0 ≤ last := a
      show window ≤ last + window ∧ last + window ≤ last + window
      omega
theorem ents_bd {q : List Int} {last r window : Int} (h : Mask.Inv ⟨q, last, r⟩ window) : ∀ t ∈ ents window q, 0 ≤ t ∧ t ≤ 4503599627370496 := by
  obtain ⟨a, b, c, d⟩ := h
  intro t ht
  unfold ents at ht
  obtain ⟨x, hx, rfl⟩ := List.mem_map.1 ht
  have := d x hx
  have ha : 0 ≤ last := a
  have hb : last ≤ 4503599627370496 := b
  have h2 : window ≤ x ∧ x ≤ last + window := this
  omega
/-- A time and so many behind it. -/
def byy (t n : Int) : Int := if n < 0 ∨ 4503599627370496 - t < n then -1 else t + n
/-- An act as it is done. -/
def eff (last kd at_ : Int) : Int × Int := if kd = 2 ∨ kd = 3 then (kd - 2, byy last at_) else (kd, at_)
/-- The mask behind an act. -/
def Mask.act (s : Mask) (many : Nat) (window : Int) (x : Int × Int) : Mask :=
  if x.1 = 0 then (s.enter many window x.2).1 else if x.1 = 1 then (s.tell x.2).1 else s
end Vg
