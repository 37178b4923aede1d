/- CeilI, CeilM, put together (a claim has at most 60 files). -/
import Derived.Test.YtekjnagojphmkaaDoorKept
import Derived.Test.YtekjnagojphmkaaDoorCeilN
set_option linter.unusedSimpArgs false
set_option linter.unusedVariables false
set_option maxHeartbeats 40000000
set_option maxRecDepth 100000
namespace Vg
open Go
/-- Is mutex i of the task? -/
def Tb.isOf (M : List Mx) (task : Int) (i : Nat) : Bool := match M[i]? with | none => false | some x => x.held && decide (x.who = task)
def Tb.of (M : List Mx) (task : Int) (k : Nat) : List Nat := (List.range k).filter (Tb.isOf M task)
theorem Tb.of_succ (M : List Mx) (task : Int) (k : Nat) : Tb.of M task (k + 1) = Tb.of M task k ++ if Tb.isOf M task k = true then [k] else [] := by
  unfold Tb.of
  rw [List.range_succ, List.filter_append]
  congr 1
  by_cases h : Tb.isOf M task k = true
  · simp [h]
  · simp [h]
theorem Tb.of_len (M : List Mx) (task : Int) (k : Nat) : (Tb.of M task k).length ≤ k := by
  unfold Tb.of
  have := List.length_filter_le (Tb.isOf M task) (List.range k)
  simpa using this
theorem Tb.of_lt {M : List Mx} {task : Int} {k i : Nat} (h : i ∈ Tb.of M task k) : i < k := by
  unfold Tb.of at h
  simp at h; exact h.1
def Tb.level (M : List Mx) : List Nat → Int → Int
  | [], p => p
  | i :: l, p => Tb.level M l (max p ((M[i]?.getD ⟨0, false, 0⟩).c))
theorem Tb.level_snoc (M : List Mx) : ∀ (l : List Nat) (i : Nat) (p : Int), Tb.level M (l ++ [i]) p = max (Tb.level M l p) ((M[i]?.getD ⟨0, false, 0⟩).c)
  | [], i, p => rfl
  | j :: l, i, p => by simp only [List.cons_append, Tb.level]; exact Tb.level_snoc M l i _
/-- How a round ends, whatever it is handed. -/
def EndsA {α : Type} (S : Nat → Prop) (J Jx : List α → World → Prop) (l : List α) (W1 : World) (v : Bool) (W' : World) : Prop :=
  (v = true ∧ J l W' ∧ Kept S W1 W') ∨ (v = false ∧ Jx l W')
theorem abides_grows {β : Type} {B : Nat} {J : β → World → Prop} (hJ : AbidesFrom B J) {s : β} {W W' : World} (h : J s W) (hg : Grows W W') : J s W' :=
  hJ s W W' none h ⟨hg.below.os, hg.below.tape, hg.below.output, hg.size, fun k hk _ => hg.below.block k hk⟩ (fun _ e => by cases e)
end Vg
namespace Go.Proofs.YtekjnagojphmkaaDoor
open Go.ChangeShapes Go.WideShapes Go.ChangeAt Go.RowKit Go.Shelf
attribute [local go_sem] Oper.semAt_some
def mxV (M : List Vg.Mx) (i : Nat) : Value := .agg #[.int .i64 (M[i]?.getD ⟨0, false, 0⟩).c, .bool (M[i]?.getD ⟨0, false, 0⟩).held, .int .i64 (M[i]?.getD ⟨0, false, 0⟩).who]
end Go.Proofs.YtekjnagojphmkaaDoor
namespace Vg
open Go
theorem owns_weaken' {B B' : Nat} {w : World} {e : TypeId} {size : Nat} {v : Value} {n : Nat} {xs : List Value} (h : w.ownsRow B e size v n xs) (hB : B' ≤ B) : w.ownsRow B' e size v n xs := by
  refine ⟨h.1, ?_⟩
  rcases h.2 with h0 | ⟨g, cap, cur, h1, hb, h2⟩
  · exact .inl h0
  · exact .inr ⟨g, cap, cur, h1, by omega, h2⟩
theorem blk_ownF {β : Type} {B b : Nat} {f : β → Obj} (hf : ∀ s, (f s).isCells = true) : OwnFrom B (fun (s : β) W => blk W b = some (f s)) := fun s A C row hs hg hr => by
  have hl := lt_of hs
  refine (hg.block b hl (fun e => ?_)).trans hs
  obtain ⟨_, o, ho, hcc⟩ := hr b e.symm
  have : some (f s) = some o := hs.symm.trans ho
  cases this
  rw [hf s] at hcc; cases hcc
end Vg
namespace Go.Proofs.YtekjnagojphmkaaDoor
open Go.ChangeShapes Go.WideShapes Go.ChangeAt Go.RowKit Go.Shelf
attribute [local go_sem] Oper.semAt_some
theorem Tryd.info_int : (Tryd.prog.info? 3).map (fun i => (i.zero, i.size, i.bytes)) = some (some (.int .i64 0), 1, 8) := by kernel_rfl
abbrev nats (l : List Nat) : List Value := l.map fun i : Nat => Value.int .i64 i
def mxd (M : List Vg.Mx) (i : Nat) : Vg.Mx := M[i]?.getD ⟨0, false, 0⟩
theorem mxV_d (M : List Vg.Mx) (i : Nat) : mxV M i = .agg #[.int .i64 (mxd M i).c, .bool (mxd M i).held, .int .i64 (mxd M i).who] := rfl
end Go.Proofs.YtekjnagojphmkaaDoor
