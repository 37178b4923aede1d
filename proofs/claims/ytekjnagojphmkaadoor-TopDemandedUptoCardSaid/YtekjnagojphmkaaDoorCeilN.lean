/- ceiling.New: slices.ContainsFunc at its closure; the loop that appends. -/
import Derived.Test.YtekjnagojphmkaaDoorCeil
set_option linter.unusedSimpArgs false
set_option linter.unusedVariables false
set_option maxHeartbeats 1000000
set_option maxRecDepth 100000
namespace Vg
open Go
def oddC (x : Int) : Bool := decide (x < 0) || decide (63 < x)
def idx (p : Int → Bool) : List Int → Int
  | [] => -1
  | x :: l => if p x then 0 else (if idx p l < 0 then -1 else idx p l + 1)
theorem idx_none {p : Int → Bool} : ∀ {L : List Int}, L.any p = false → idx p L = -1
  | [], _ => rfl
  | x :: l, h => by
    simp only [List.any_cons, Bool.or_eq_false_iff] at h
    rw [idx, if_neg (by rw [h.1]; simp), idx_none h.2]
    rfl
theorem idx_at {p : Int → Bool} : ∀ {L : List Int} {k : Nat} (h : k < L.length), (L.take k).any p = false → p L[k] = true → idx p L = k
  | [], k, h, _, _ => by simp at h
  | x :: l, 0, h, _, hp => by
    rw [idx, if_pos (by simpa using hp)]; rfl
  | x :: l, k + 1, h, hn, hp => by
    simp only [List.take_succ_cons, List.any_cons, Bool.or_eq_false_iff] at hn
    have := idx_at (L := l) (k := k) (by simpa using h) hn.2 (by simpa using hp)
    rw [idx, if_neg (by rw [hn.1]; simp), this, if_neg (by omega)]
    simp
theorem idx_some {p : Int → Bool} : ∀ {L : List Int}, L.any p = true → 0 ≤ idx p L
  | [], h => by simp at h
  | x :: l, h => by
    by_cases hp : p x = true
    · rw [idx, if_pos hp]; exact Int.le_refl 0
    · simp only [List.any_cons, Bool.or_eq_true, hp] at h
      have := idx_some (L := l) (by simpa using h)
      rw [idx, if_neg hp, if_neg (by omega)]
      omega
theorem three_new {w : World} {x y z : Value} {t : TypeId} {n : Nat} (hn : n = w.heap.size) : ∀ j u, [x, y, z][j]? = some u → (w.alloc (.cells #[x, y, z] t)).cell? ((⟨n, 0, none⟩ : Addr).add j) = some u := by
  subst hn
  intro j u hu
  rw [Addr.add_lit, cells_of (w := w.alloc (.cells #[x, y, z] t)) (b := w.heap.size) (cs := #[x, y, z]) (t := t) (f := (0, 0)) (alloc_heap_at rfl)]
  simpa using hu
/-- A slice of integers, whose cells are known (of an empty one nothing is said but its length). -/
def IR (w : World) (sa : Option Addr) (sc : Nat) (L : List Int) : Prop :=
  L.length ≤ sc ∧ sc ≤ maxLen ∧ ∀ k, (hk : k < L.length) → ∃ g off, sa = some ⟨g, off, none⟩ ∧ g < w.heap.size ∧ w.cell? ⟨g, off + k, none⟩ = some (.int .i64 L[k])
theorem IR.icell {w : World} {sa : Option Addr} {c : Nat} {L : List Int} (h : IR w sa c L) (k : Nat) (hk : k < L.length) :
    ∃ g off, sa = some ⟨g, off, none⟩ ∧ g < w.heap.size ∧ L.length ≤ c ∧ c ≤ 9223372036854775807 ∧ w.cell? ⟨g, off + k, none⟩ = some (.int .i64 L[k]) := by
  obtain ⟨h1, h2, h3⟩ := h
  obtain ⟨g, off, e, hg, hc⟩ := h3 k hk
  exact ⟨g, off, e, hg, h1, h2, hc⟩
theorem IR.grows {w w' : World} {sa : Option Addr} {c : Nat} {L : List Int} (h : IR w sa c L) (hg : Grows w w') : IR w' sa c L :=
  ⟨h.1, h.2.1, fun k hk => by
    obtain ⟨g, off, e, hlt, hc⟩ := h.2.2 k hk
    exact ⟨g, off, e, Nat.lt_of_lt_of_le hlt hg.size, (hg.below.cell (p := ⟨g, off + k, none⟩) hlt).trans hc⟩⟩
theorem IR.of_rows {w : World} {a : Option Addr} {len cap : Nat} {D : Nat → Nat → Int} (h : intRows w [.i64] a len cap D) : IR w a cap ((List.range len).map fun i => D i 0) := by
  refine ⟨by simpa using h.1, h.2.1, fun k hk => ?_⟩
  have hk' : k < len := by simpa using hk
  obtain ⟨b, off, rfl, hb, hc⟩ := h.open (by decide) (by omega)
  have := (hc k hk' 0 (by decide)).1
  simp only [List.length_cons, List.length_nil, Nat.zero_add, Nat.mul_one, Nat.add_zero, List.getElem_cons_zero] at this
  exact ⟨b, off, rfl, hb, by rw [this]; simp⟩
theorem IR.nil (w : World) : IR w none 0 [] := ⟨Nat.le_refl _, Nat.zero_le _, fun k hk => by simp at hk⟩
theorem IR.block {w : World} {g : Nat} {L : List Int} {t : TypeId} (h : blk w g = some (.cells (ics L).toArray t)) (hl : L.length ≤ maxLen) : IR w (some ⟨g, 0, none⟩) L.length L :=
  ⟨Nat.le_refl _, hl, fun k hk => ⟨g, 0, rfl, lt_of h, by rw [cells_of h]; simp [hk]⟩⟩
end Vg
