/- A map from int to bool that the call itself has made ('BMap'): made, looked up, written. No program is named here. -/
import Derived.Test.YtiinhofmhoplfaaCom
import Derived.Maps.OwnOps
import Derived.Maps.Views
set_option linter.unusedSimpArgs false
set_option linter.unusedVariables false
namespace Vg
open Go Go.RowKit Go.Maps
/-- Block b holds a map of at most n entries, whose answer at x is f x. -/
def BMap (w : World) (P : Program) (k e : TypeId) (b n : Nat) (f : Int → Bool) : Prop :=
  ∃ D : DataW Unit, w.ownsMap P k (plainElem P e) b n D ∧ IsMap D ∧ ∀ x, D.atKey (.int .i64 x) (.lit (.bool false)) = .lit (.bool (f x))
section
variable {P : Program} {k e t : TypeId} {w w' : World} {b n : Nat} {f : Int → Bool}
theorem BMap.made (w : World) (P : Program) (k e : TypeId) : BMap (w.alloc (.map #[] 0)) P k e w.heap.size 0 (fun _ => false) :=
  ⟨.map [], World.ownsMap_made _ _ _ _, isMap_empty, fun x => rfl⟩
theorem BMap.lt (h : BMap w P k e b n f) : b < w.heap.size := by obtain ⟨D, h1, _⟩ := h; exact h1.lt
theorem BMap.grows (h : BMap w P k e b n f) (hg : Grows w w') : BMap w' P k e b n f := by
  have hl := h.lt
  obtain ⟨D, ⟨es, clock, hb, F, hs, hD⟩, h2, h3⟩ := h
  obtain ⟨x, m, rfl⟩ := hg
  exact ⟨D, ⟨es, clock, (plus_heap hl).trans hb, F, hs, hD⟩, h2, h3⟩
theorem plainElem_bool_inv (he : P.underlying e = some .bool) {v : Value} {z : DataW Unit × List MemPlace} (h : plainElem P e v = some z) : ∃ a, v = .bool a ∧ z = (.lit (.bool a), []) := by
  unfold plainElem at h
  rw [he] at h
  cases v <;> simp at h
  subst h
  exact ⟨_, rfl, rfl⟩
/-- 'm[k]' (without 'ok') at bools. -/
theorem wpList_lookup_bool (w : World) {ops : Array Oper} {rest : List Oper} {o : Oper} {a : Act} {Q : Exit → Act → World → Prop}
    (hg : o.guard = none) (m x : Operand) (t : TypeId) (hop : o.op = Op.lookup t m x false)
    (k e : TypeId) (hk : P.underlying k = some (.int .i64)) (ht : P.underlying t = some (.map k e)) (he : P.underlying e = some .bool) (hz : (zeroValue e).run P w = .ok (.bool false) w) (b n : Nat) (f : Int → Bool)
    (hm : a.eval m = .map (some b)) (hown : BMap w P k e b n f) (y : Int) (hx : a.eval x = .int .i64 y) (hy : (Lit.int .i64 y).wf = true)
    (hK : wpList P ops Q rest (a.put o.dst (.bool (f y))) w) :
    wpList P ops Q (o :: rest) a w := by
  obtain ⟨D, h1, h2, h3⟩ := hown
  refine wpList_plain hg fun K' hK' => ?_
  obtain ⟨v, ps, hrun, hv⟩ := h1.lookup (int_keyed hk) ht hz (plainElem_bool he false) (keyOf_int_mk hk hy)
  obtain ⟨c, rfl, hc⟩ := plainElem_bool_inv he hv
  rw [h3 y] at hc
  simp only [Prod.mk.injEq, DataW.lit.injEq, Lit.bool.injEq] at hc
  obtain ⟨hc, -⟩ := hc
  subst hc
  unfold Oper.wp
  simp [execOp, hop, hm, hx, hrun, Result.andThen]
  exact hK' _ _ hK
/-- 'm[k] = v' at bools. -/
theorem wpList_mapUpdate_bool (w : World) {ops : Array Oper} {rest : List Oper} {o : Oper} {a : Act} {Q : Exit → Act → World → Prop}
    (hg : o.guard = none) (m x v : Operand) (t : TypeId) (hop : o.op = Op.mapUpdate t m x v)
    (k e : TypeId) (hk : P.underlying k = some (.int .i64)) (ht : P.underlying t = some (.map k e)) (he : P.underlying e = some .bool) (b n : Nat) (f : Int → Bool)
    (hm : a.eval m = .map (some b)) (hown : BMap w P k e b n f) (hn : n < maxLen) (y : Int) (hx : a.eval x = .int .i64 y) (hy : (Lit.int .i64 y).wf = true) (c : Bool) (hv : a.eval v = .bool c)
    (w0 : World) (hw0 : Grows w0 w) (hb0 : w0.heap.size ≤ b)
    (hK : ∀ w', BMap w' P k e b (n + 1) (fun z => if z = y then c else f z) → Grows w0 w' → w.heap.size ≤ w'.heap.size → wpList P ops Q rest (a.put o.dst undef) w') :
    wpList P ops Q (o :: rest) a w := by
  obtain ⟨D, h1, h2, h3⟩ := hown
  refine wpList_mapUpdate_own w hg m x v t hop k e (int_keyed hk) ht (plainElem P e) b n D hm h1 hn (.int .i64 y) (.bool c) _ hx hv (keyOf_int_mk hk hy) (.lit (.bool c)) [] (plainElem_bool he c) fun w' hown hgr => ?_
  refine hK w' ⟨_, hown, h2.put _ _, fun z => ?_⟩ (Grows.of_below (hw0.below.grown hgr hw0.size fun k hk => by cases hk; exact hb0)) hgr.size
  by_cases h : z = y
  · subst h
    rw [atKey_put_same h2 (k := .int .i64 z) trivial]
    simp
  · rw [atKey_put_other (by simp [h])]
    simp only [if_neg h]
    exact h3 z
end
end Vg
