/- Small lemmas that all walks of ours use. No program is named here. -/
import Derived.WalkKit
import Derived.ProofKit
import Derived.OpenShut
import Derived.Handy
import Derived.Lib.Hide
import Derived.RegionTactic
import Derived.ChangeAlike
import Derived.Deep.QuietTactic
import Derived.BigQuiet
import Derived.Lib.SmallJoins
import Derived.Deep.RegionWith
import Derived.Deep.RegionHeld3
import Derived.Deep.MidRow
import Derived.Deep.DeepCutAuto
import Derived.Deep.CutBlock
import Derived.Deep.OwnRows
import Derived.WalkMore
import Derived.ScopeJumps
import Derived.Deep.LoopGhost
set_option linter.unusedSimpArgs false
set_option linter.unusedVariables false
namespace Vg
open Go Go.RowKit
/-- The size of what was laid behind a heap: a name that the walk does not open. -/
def sz (x : Array Obj) : Nat := x.size
/-- A world with new blocks behind its own, so many draws having been made in all. -/
def plus (w : World) (x : Array Obj) (n : Nat) : World := { w with heap := w.heap ++ x, drawn := n }
@[go_sem] theorem plus_size (w : World) (x : Array Obj) (n : Nat) : (plus w x n).heap.size = w.heap.size + sz x := by simp [plus, sz]
theorem plus_heap {w : World} {x : Array Obj} {n b : Nat} (h : b < w.heap.size) : (plus w x n).heap[b]? = w.heap[b]? := by
  show (w.heap ++ x)[b]? = _
  rw [Array.getElem?_append_left h]
@[go_sem] theorem plus_cell {w : World} {x : Array Obj} {n b o : Nat} (h : b < w.heap.size) : (plus w x n).cell? ⟨b, o, none⟩ = w.cell? ⟨b, o, none⟩ := World.cell?_of_block (w := w) (plus_heap h)
@[go_sem] theorem plus_frozen {w : World} {x : Array Obj} {n b o : Nat} (h : b < w.heap.size) : (plus w x n).frozen? ⟨b, o, none⟩ = w.frozen? ⟨b, o, none⟩ := World.frozen?_of_block (w := w) (plus_heap h)
@[go_sem] theorem plus_setCell {w : World} {x : Array Obj} {n b i : Nat} {v : Value} (h : b < w.heap.size) : (plus w x n).setCell ⟨b, i, none⟩ v = plus (w.setCell ⟨b, i, none⟩ v) x n := by
  unfold World.setCell plus
  congr 1
  apply Array.ext_getElem?
  intro k
  simp only [Array.getElem?_modify, Array.getElem?_append, Array.size_modify]
  by_cases hk : b = k
  · subst hk; simp [h]
  · simp [hk]
@[go_sem] theorem plus_drew (w : World) (x : Array Obj) (n : Nat) : plus w.drew x n = plus w x n := rfl
@[go_sem] theorem plus_drewN (w : World) (x : Array Obj) (n k : Nat) : plus (w.drewN k) x n = plus w x n := rfl
@[go_sem] theorem drew_plus (w : World) (x : Array Obj) (n : Nat) : (plus w x n).drew = plus w x (n + 1) := rfl
@[go_sem] theorem drewN_plus (w : World) (x : Array Obj) (n k : Nat) : (plus w x n).drewN k = plus w x (n + k) := rfl
@[go_sem] theorem sz_succ (a : Nat) (x : Array Obj) : a + sz x + 1 = a + 1 + sz x := by omega
@[go_sem] theorem lit_2 {a : Nat} : a < a + 1 + 1 := by omega
@[go_sem] theorem lit_3 {a : Nat} : a < a + 1 + 1 + 1 := by omega
@[go_sem] theorem lit_4 {a : Nat} : a < a + 1 + 1 + 1 + 1 := by omega
@[go_sem] theorem lit_5 {a : Nat} : a < a + 1 + 1 + 1 + 1 + 1 := by omega
@[go_sem] theorem lit_6 {a : Nat} : a < a + 1 + 1 + 1 + 1 + 1 + 1 := by omega
@[go_sem] theorem lit_7 {a : Nat} : a < a + 1 + 1 + 1 + 1 + 1 + 1 + 1 := by omega
@[go_sem] theorem lit_8 {a : Nat} : a < a + 1 + 1 + 1 + 1 + 1 + 1 + 1 + 1 := by omega
@[go_sem] theorem lit_9 {a : Nat} : a < a + 1 + 1 + 1 + 1 + 1 + 1 + 1 + 1 + 1 := by omega
@[go_sem] theorem lit_10 {a : Nat} : a < a + 1 + 1 + 1 + 1 + 1 + 1 + 1 + 1 + 1 + 1 := by omega
@[go_sem] theorem lit_11 {a : Nat} : a < a + 1 + 1 + 1 + 1 + 1 + 1 + 1 + 1 + 1 + 1 + 1 := by omega
@[go_sem] theorem lit_12 {a : Nat} : a < a + 1 + 1 + 1 + 1 + 1 + 1 + 1 + 1 + 1 + 1 + 1 + 1 := by omega
@[go_sem] theorem lit_13 {a : Nat} : a < a + 1 + 1 + 1 + 1 + 1 + 1 + 1 + 1 + 1 + 1 + 1 + 1 + 1 := by omega
@[go_sem 1000] theorem lt_0_1 {a b : Nat} {p0 : Array Obj} (h : a < b) : a < b + sz p0 := by omega
@[go_sem 1000] theorem lt_0_2 {a b : Nat} {p0 p1 : Array Obj} (h : a < b) : a < b + sz p0 + sz p1 := by omega
@[go_sem 1000] theorem lt_0_3 {a b : Nat} {p0 p1 p2 : Array Obj} (h : a < b) : a < b + sz p0 + sz p1 + sz p2 := by omega
@[go_sem 1000] theorem lt_0_4 {a b : Nat} {p0 p1 p2 p3 : Array Obj} (h : a < b) : a < b + sz p0 + sz p1 + sz p2 + sz p3 := by omega
@[go_sem 1000] theorem lt_0_5 {a b : Nat} {p0 p1 p2 p3 p4 : Array Obj} (h : a < b) : a < b + sz p0 + sz p1 + sz p2 + sz p3 + sz p4 := by omega
@[go_sem 1000] theorem lt_0_6 {a b : Nat} {p0 p1 p2 p3 p4 p5 : Array Obj} (h : a < b) : a < b + sz p0 + sz p1 + sz p2 + sz p3 + sz p4 + sz p5 := by omega
@[go_sem 1000] theorem lt_0_7 {a b : Nat} {p0 p1 p2 p3 p4 p5 p6 : Array Obj} (h : a < b) : a < b + sz p0 + sz p1 + sz p2 + sz p3 + sz p4 + sz p5 + sz p6 := by omega
@[go_sem 1000] theorem lt_0_8 {a b : Nat} {p0 p1 p2 p3 p4 p5 p6 p7 : Array Obj} (h : a < b) : a < b + sz p0 + sz p1 + sz p2 + sz p3 + sz p4 + sz p5 + sz p6 + sz p7 := by omega
@[go_sem 1000] theorem lt_0_9 {a b : Nat} {p0 p1 p2 p3 p4 p5 p6 p7 p8 : Array Obj} (h : a < b) : a < b + sz p0 + sz p1 + sz p2 + sz p3 + sz p4 + sz p5 + sz p6 + sz p7 + sz p8 := by omega
@[go_sem 1000] theorem lt_0_10 {a b : Nat} {p0 p1 p2 p3 p4 p5 p6 p7 p8 p9 : Array Obj} (h : a < b) : a < b + sz p0 + sz p1 + sz p2 + sz p3 + sz p4 + sz p5 + sz p6 + sz p7 + sz p8 + sz p9 := by omega
@[go_sem 1000] theorem lt_0_11 {a b : Nat} {p0 p1 p2 p3 p4 p5 p6 p7 p8 p9 p10 : Array Obj} (h : a < b) : a < b + sz p0 + sz p1 + sz p2 + sz p3 + sz p4 + sz p5 + sz p6 + sz p7 + sz p8 + sz p9 + sz p10 := by omega
@[go_sem 1000] theorem lt_0_12 {a b : Nat} {p0 p1 p2 p3 p4 p5 p6 p7 p8 p9 p10 p11 : Array Obj} (h : a < b) : a < b + sz p0 + sz p1 + sz p2 + sz p3 + sz p4 + sz p5 + sz p6 + sz p7 + sz p8 + sz p9 + sz p10 + sz p11 := by omega
@[go_sem 1010] theorem lt_1_2 {a b : Nat} {p0 p1 : Array Obj} (h : a < b) : a + sz p0 < b + sz p0 + sz p1 := by omega
@[go_sem 1010] theorem lt_1_3 {a b : Nat} {p0 p1 p2 : Array Obj} (h : a < b) : a + sz p0 < b + sz p0 + sz p1 + sz p2 := by omega
@[go_sem 1010] theorem lt_1_4 {a b : Nat} {p0 p1 p2 p3 : Array Obj} (h : a < b) : a + sz p0 < b + sz p0 + sz p1 + sz p2 + sz p3 := by omega
@[go_sem 1010] theorem lt_1_5 {a b : Nat} {p0 p1 p2 p3 p4 : Array Obj} (h : a < b) : a + sz p0 < b + sz p0 + sz p1 + sz p2 + sz p3 + sz p4 := by omega
@[go_sem 1010] theorem lt_1_6 {a b : Nat} {p0 p1 p2 p3 p4 p5 : Array Obj} (h : a < b) : a + sz p0 < b + sz p0 + sz p1 + sz p2 + sz p3 + sz p4 + sz p5 := by omega
@[go_sem 1010] theorem lt_1_7 {a b : Nat} {p0 p1 p2 p3 p4 p5 p6 : Array Obj} (h : a < b) : a + sz p0 < b + sz p0 + sz p1 + sz p2 + sz p3 + sz p4 + sz p5 + sz p6 := by omega
@[go_sem 1010] theorem lt_1_8 {a b : Nat} {p0 p1 p2 p3 p4 p5 p6 p7 : Array Obj} (h : a < b) : a + sz p0 < b + sz p0 + sz p1 + sz p2 + sz p3 + sz p4 + sz p5 + sz p6 + sz p7 := by omega
@[go_sem 1010] theorem lt_1_9 {a b : Nat} {p0 p1 p2 p3 p4 p5 p6 p7 p8 : Array Obj} (h : a < b) : a + sz p0 < b + sz p0 + sz p1 + sz p2 + sz p3 + sz p4 + sz p5 + sz p6 + sz p7 + sz p8 := by omega
@[go_sem 1010] theorem lt_1_10 {a b : Nat} {p0 p1 p2 p3 p4 p5 p6 p7 p8 p9 : Array Obj} (h : a < b) : a + sz p0 < b + sz p0 + sz p1 + sz p2 + sz p3 + sz p4 + sz p5 + sz p6 + sz p7 + sz p8 + sz p9 := by omega
@[go_sem 1010] theorem lt_1_11 {a b : Nat} {p0 p1 p2 p3 p4 p5 p6 p7 p8 p9 p10 : Array Obj} (h : a < b) : a + sz p0 < b + sz p0 + sz p1 + sz p2 + sz p3 + sz p4 + sz p5 + sz p6 + sz p7 + sz p8 + sz p9 + sz p10 := by omega
@[go_sem 1010] theorem lt_1_12 {a b : Nat} {p0 p1 p2 p3 p4 p5 p6 p7 p8 p9 p10 p11 : Array Obj} (h : a < b) : a + sz p0 < b + sz p0 + sz p1 + sz p2 + sz p3 + sz p4 + sz p5 + sz p6 + sz p7 + sz p8 + sz p9 + sz p10 + sz p11 := by omega
@[go_sem 1020] theorem lt_2_3 {a b : Nat} {p0 p1 p2 : Array Obj} (h : a < b) : a + sz p0 + sz p1 < b + sz p0 + sz p1 + sz p2 := by omega
@[go_sem 1020] theorem lt_2_4 {a b : Nat} {p0 p1 p2 p3 : Array Obj} (h : a < b) : a + sz p0 + sz p1 < b + sz p0 + sz p1 + sz p2 + sz p3 := by omega
@[go_sem 1020] theorem lt_2_5 {a b : Nat} {p0 p1 p2 p3 p4 : Array Obj} (h : a < b) : a + sz p0 + sz p1 < b + sz p0 + sz p1 + sz p2 + sz p3 + sz p4 := by omega
@[go_sem 1020] theorem lt_2_6 {a b : Nat} {p0 p1 p2 p3 p4 p5 : Array Obj} (h : a < b) : a + sz p0 + sz p1 < b + sz p0 + sz p1 + sz p2 + sz p3 + sz p4 + sz p5 := by omega
@[go_sem 1020] theorem lt_2_7 {a b : Nat} {p0 p1 p2 p3 p4 p5 p6 : Array Obj} (h : a < b) : a + sz p0 + sz p1 < b + sz p0 + sz p1 + sz p2 + sz p3 + sz p4 + sz p5 + sz p6 := by omega
@[go_sem 1020] theorem lt_2_8 {a b : Nat} {p0 p1 p2 p3 p4 p5 p6 p7 : Array Obj} (h : a < b) : a + sz p0 + sz p1 < b + sz p0 + sz p1 + sz p2 + sz p3 + sz p4 + sz p5 + sz p6 + sz p7 := by omega
@[go_sem 1020] theorem lt_2_9 {a b : Nat} {p0 p1 p2 p3 p4 p5 p6 p7 p8 : Array Obj} (h : a < b) : a + sz p0 + sz p1 < b + sz p0 + sz p1 + sz p2 + sz p3 + sz p4 + sz p5 + sz p6 + sz p7 + sz p8 := by omega
@[go_sem 1020] theorem lt_2_10 {a b : Nat} {p0 p1 p2 p3 p4 p5 p6 p7 p8 p9 : Array Obj} (h : a < b) : a + sz p0 + sz p1 < b + sz p0 + sz p1 + sz p2 + sz p3 + sz p4 + sz p5 + sz p6 + sz p7 + sz p8 + sz p9 := by omega
@[go_sem 1020] theorem lt_2_11 {a b : Nat} {p0 p1 p2 p3 p4 p5 p6 p7 p8 p9 p10 : Array Obj} (h : a < b) : a + sz p0 + sz p1 < b + sz p0 + sz p1 + sz p2 + sz p3 + sz p4 + sz p5 + sz p6 + sz p7 + sz p8 + sz p9 + sz p10 := by omega
@[go_sem 1020] theorem lt_2_12 {a b : Nat} {p0 p1 p2 p3 p4 p5 p6 p7 p8 p9 p10 p11 : Array Obj} (h : a < b) : a + sz p0 + sz p1 < b + sz p0 + sz p1 + sz p2 + sz p3 + sz p4 + sz p5 + sz p6 + sz p7 + sz p8 + sz p9 + sz p10 + sz p11 := by omega
@[go_sem 1030] theorem lt_3_4 {a b : Nat} {p0 p1 p2 p3 : Array Obj} (h : a < b) : a + sz p0 + sz p1 + sz p2 < b + sz p0 + sz p1 + sz p2 + sz p3 := by omega
@[go_sem 1030] theorem lt_3_5 {a b : Nat} {p0 p1 p2 p3 p4 : Array Obj} (h : a < b) : a + sz p0 + sz p1 + sz p2 < b + sz p0 + sz p1 + sz p2 + sz p3 + sz p4 := by omega
@[go_sem 1030] theorem lt_3_6 {a b : Nat} {p0 p1 p2 p3 p4 p5 : Array Obj} (h : a < b) : a + sz p0 + sz p1 + sz p2 < b + sz p0 + sz p1 + sz p2 + sz p3 + sz p4 + sz p5 := by omega
@[go_sem 1030] theorem lt_3_7 {a b : Nat} {p0 p1 p2 p3 p4 p5 p6 : Array Obj} (h : a < b) : a + sz p0 + sz p1 + sz p2 < b + sz p0 + sz p1 + sz p2 + sz p3 + sz p4 + sz p5 + sz p6 := by omega
@[go_sem 1030] theorem lt_3_8 {a b : Nat} {p0 p1 p2 p3 p4 p5 p6 p7 : Array Obj} (h : a < b) : a + sz p0 + sz p1 + sz p2 < b + sz p0 + sz p1 + sz p2 + sz p3 + sz p4 + sz p5 + sz p6 + sz p7 := by omega
@[go_sem 1030] theorem lt_3_9 {a b : Nat} {p0 p1 p2 p3 p4 p5 p6 p7 p8 : Array Obj} (h : a < b) : a + sz p0 + sz p1 + sz p2 < b + sz p0 + sz p1 + sz p2 + sz p3 + sz p4 + sz p5 + sz p6 + sz p7 + sz p8 := by omega
@[go_sem 1030] theorem lt_3_10 {a b : Nat} {p0 p1 p2 p3 p4 p5 p6 p7 p8 p9 : Array Obj} (h : a < b) : a + sz p0 + sz p1 + sz p2 < b + sz p0 + sz p1 + sz p2 + sz p3 + sz p4 + sz p5 + sz p6 + sz p7 + sz p8 + sz p9 := by omega
@[go_sem 1030] theorem lt_3_11 {a b : Nat} {p0 p1 p2 p3 p4 p5 p6 p7 p8 p9 p10 : Array Obj} (h : a < b) : a + sz p0 + sz p1 + sz p2 < b + sz p0 + sz p1 + sz p2 + sz p3 + sz p4 + sz p5 + sz p6 + sz p7 + sz p8 + sz p9 + sz p10 := by omega
@[go_sem 1030] theorem lt_3_12 {a b : Nat} {p0 p1 p2 p3 p4 p5 p6 p7 p8 p9 p10 p11 : Array Obj} (h : a < b) : a + sz p0 + sz p1 + sz p2 < b + sz p0 + sz p1 + sz p2 + sz p3 + sz p4 + sz p5 + sz p6 + sz p7 + sz p8 + sz p9 + sz p10 + sz p11 := by omega
@[go_sem 1040] theorem lt_4_5 {a b : Nat} {p0 p1 p2 p3 p4 : Array Obj} (h : a < b) : a + sz p0 + sz p1 + sz p2 + sz p3 < b + sz p0 + sz p1 + sz p2 + sz p3 + sz p4 := by omega
@[go_sem 1040] theorem lt_4_6 {a b : Nat} {p0 p1 p2 p3 p4 p5 : Array Obj} (h : a < b) : a + sz p0 + sz p1 + sz p2 + sz p3 < b + sz p0 + sz p1 + sz p2 + sz p3 + sz p4 + sz p5 := by omega
@[go_sem 1040] theorem lt_4_7 {a b : Nat} {p0 p1 p2 p3 p4 p5 p6 : Array Obj} (h : a < b) : a + sz p0 + sz p1 + sz p2 + sz p3 < b + sz p0 + sz p1 + sz p2 + sz p3 + sz p4 + sz p5 + sz p6 := by omega
@[go_sem 1040] theorem lt_4_8 {a b : Nat} {p0 p1 p2 p3 p4 p5 p6 p7 : Array Obj} (h : a < b) : a + sz p0 + sz p1 + sz p2 + sz p3 < b + sz p0 + sz p1 + sz p2 + sz p3 + sz p4 + sz p5 + sz p6 + sz p7 := by omega
@[go_sem 1040] theorem lt_4_9 {a b : Nat} {p0 p1 p2 p3 p4 p5 p6 p7 p8 : Array Obj} (h : a < b) : a + sz p0 + sz p1 + sz p2 + sz p3 < b + sz p0 + sz p1 + sz p2 + sz p3 + sz p4 + sz p5 + sz p6 + sz p7 + sz p8 := by omega
@[go_sem 1040] theorem lt_4_10 {a b : Nat} {p0 p1 p2 p3 p4 p5 p6 p7 p8 p9 : Array Obj} (h : a < b) : a + sz p0 + sz p1 + sz p2 + sz p3 < b + sz p0 + sz p1 + sz p2 + sz p3 + sz p4 + sz p5 + sz p6 + sz p7 + sz p8 + sz p9 := by omega
@[go_sem 1040] theorem lt_4_11 {a b : Nat} {p0 p1 p2 p3 p4 p5 p6 p7 p8 p9 p10 : Array Obj} (h : a < b) : a + sz p0 + sz p1 + sz p2 + sz p3 < b + sz p0 + sz p1 + sz p2 + sz p3 + sz p4 + sz p5 + sz p6 + sz p7 + sz p8 + sz p9 + sz p10 := by omega
@[go_sem 1040] theorem lt_4_12 {a b : Nat} {p0 p1 p2 p3 p4 p5 p6 p7 p8 p9 p10 p11 : Array Obj} (h : a < b) : a + sz p0 + sz p1 + sz p2 + sz p3 < b + sz p0 + sz p1 + sz p2 + sz p3 + sz p4 + sz p5 + sz p6 + sz p7 + sz p8 + sz p9 + sz p10 + sz p11 := by omega
@[go_sem 1050] theorem lt_5_6 {a b : Nat} {p0 p1 p2 p3 p4 p5 : Array Obj} (h : a < b) : a + sz p0 + sz p1 + sz p2 + sz p3 + sz p4 < b + sz p0 + sz p1 + sz p2 + sz p3 + sz p4 + sz p5 := by omega
@[go_sem 1050] theorem lt_5_7 {a b : Nat} {p0 p1 p2 p3 p4 p5 p6 : Array Obj} (h : a < b) : a + sz p0 + sz p1 + sz p2 + sz p3 + sz p4 < b + sz p0 + sz p1 + sz p2 + sz p3 + sz p4 + sz p5 + sz p6 := by omega
@[go_sem 1050] theorem lt_5_8 {a b : Nat} {p0 p1 p2 p3 p4 p5 p6 p7 : Array Obj} (h : a < b) : a + sz p0 + sz p1 + sz p2 + sz p3 + sz p4 < b + sz p0 + sz p1 + sz p2 + sz p3 + sz p4 + sz p5 + sz p6 + sz p7 := by omega
@[go_sem 1050] theorem lt_5_9 {a b : Nat} {p0 p1 p2 p3 p4 p5 p6 p7 p8 : Array Obj} (h : a < b) : a + sz p0 + sz p1 + sz p2 + sz p3 + sz p4 < b + sz p0 + sz p1 + sz p2 + sz p3 + sz p4 + sz p5 + sz p6 + sz p7 + sz p8 := by omega
@[go_sem 1050] theorem lt_5_10 {a b : Nat} {p0 p1 p2 p3 p4 p5 p6 p7 p8 p9 : Array Obj} (h : a < b) : a + sz p0 + sz p1 + sz p2 + sz p3 + sz p4 < b + sz p0 + sz p1 + sz p2 + sz p3 + sz p4 + sz p5 + sz p6 + sz p7 + sz p8 + sz p9 := by omega
@[go_sem 1050] theorem lt_5_11 {a b : Nat} {p0 p1 p2 p3 p4 p5 p6 p7 p8 p9 p10 : Array Obj} (h : a < b) : a + sz p0 + sz p1 + sz p2 + sz p3 + sz p4 < b + sz p0 + sz p1 + sz p2 + sz p3 + sz p4 + sz p5 + sz p6 + sz p7 + sz p8 + sz p9 + sz p10 := by omega
@[go_sem 1050] theorem lt_5_12 {a b : Nat} {p0 p1 p2 p3 p4 p5 p6 p7 p8 p9 p10 p11 : Array Obj} (h : a < b) : a + sz p0 + sz p1 + sz p2 + sz p3 + sz p4 < b + sz p0 + sz p1 + sz p2 + sz p3 + sz p4 + sz p5 + sz p6 + sz p7 + sz p8 + sz p9 + sz p10 + sz p11 := by omega
@[go_sem 1060] theorem lt_6_7 {a b : Nat} {p0 p1 p2 p3 p4 p5 p6 : Array Obj} (h : a < b) : a + sz p0 + sz p1 + sz p2 + sz p3 + sz p4 + sz p5 < b + sz p0 + sz p1 + sz p2 + sz p3 + sz p4 + sz p5 + sz p6 := by omega
@[go_sem 1060] theorem lt_6_8 {a b : Nat} {p0 p1 p2 p3 p4 p5 p6 p7 : Array Obj} (h : a < b) : a + sz p0 + sz p1 + sz p2 + sz p3 + sz p4 + sz p5 < b + sz p0 + sz p1 + sz p2 + sz p3 + sz p4 + sz p5 + sz p6 + sz p7 := by omega
@[go_sem 1060] theorem lt_6_9 {a b : Nat} {p0 p1 p2 p3 p4 p5 p6 p7 p8 : Array Obj} (h : a < b) : a + sz p0 + sz p1 + sz p2 + sz p3 + sz p4 + sz p5 < b + sz p0 + sz p1 + sz p2 + sz p3 + sz p4 + sz p5 + sz p6 + sz p7 + sz p8 := by omega
@[go_sem 1060] theorem lt_6_10 {a b : Nat} {p0 p1 p2 p3 p4 p5 p6 p7 p8 p9 : Array Obj} (h : a < b) : a + sz p0 + sz p1 + sz p2 + sz p3 + sz p4 + sz p5 < b + sz p0 + sz p1 + sz p2 + sz p3 + sz p4 + sz p5 + sz p6 + sz p7 + sz p8 + sz p9 := by omega
@[go_sem 1060] theorem lt_6_11 {a b : Nat} {p0 p1 p2 p3 p4 p5 p6 p7 p8 p9 p10 : Array Obj} (h : a < b) : a + sz p0 + sz p1 + sz p2 + sz p3 + sz p4 + sz p5 < b + sz p0 + sz p1 + sz p2 + sz p3 + sz p4 + sz p5 + sz p6 + sz p7 + sz p8 + sz p9 + sz p10 := by omega
@[go_sem 1060] theorem lt_6_12 {a b : Nat} {p0 p1 p2 p3 p4 p5 p6 p7 p8 p9 p10 p11 : Array Obj} (h : a < b) : a + sz p0 + sz p1 + sz p2 + sz p3 + sz p4 + sz p5 < b + sz p0 + sz p1 + sz p2 + sz p3 + sz p4 + sz p5 + sz p6 + sz p7 + sz p8 + sz p9 + sz p10 + sz p11 := by omega
@[go_sem 1070] theorem lt_7_8 {a b : Nat} {p0 p1 p2 p3 p4 p5 p6 p7 : Array Obj} (h : a < b) : a + sz p0 + sz p1 + sz p2 + sz p3 + sz p4 + sz p5 + sz p6 < b + sz p0 + sz p1 + sz p2 + sz p3 + sz p4 + sz p5 + sz p6 + sz p7 := by omega
@[go_sem 1070] theorem lt_7_9 {a b : Nat} {p0 p1 p2 p3 p4 p5 p6 p7 p8 : Array Obj} (h : a < b) : a + sz p0 + sz p1 + sz p2 + sz p3 + sz p4 + sz p5 + sz p6 < b + sz p0 + sz p1 + sz p2 + sz p3 + sz p4 + sz p5 + sz p6 + sz p7 + sz p8 := by omega
@[go_sem 1070] theorem lt_7_10 {a b : Nat} {p0 p1 p2 p3 p4 p5 p6 p7 p8 p9 : Array Obj} (h : a < b) : a + sz p0 + sz p1 + sz p2 + sz p3 + sz p4 + sz p5 + sz p6 < b + sz p0 + sz p1 + sz p2 + sz p3 + sz p4 + sz p5 + sz p6 + sz p7 + sz p8 + sz p9 := by omega
@[go_sem 1070] theorem lt_7_11 {a b : Nat} {p0 p1 p2 p3 p4 p5 p6 p7 p8 p9 p10 : Array Obj} (h : a < b) : a + sz p0 + sz p1 + sz p2 + sz p3 + sz p4 + sz p5 + sz p6 < b + sz p0 + sz p1 + sz p2 + sz p3 + sz p4 + sz p5 + sz p6 + sz p7 + sz p8 + sz p9 + sz p10 := by omega
@[go_sem 1070] theorem lt_7_12 {a b : Nat} {p0 p1 p2 p3 p4 p5 p6 p7 p8 p9 p10 p11 : Array Obj} (h : a < b) : a + sz p0 + sz p1 + sz p2 + sz p3 + sz p4 + sz p5 + sz p6 < b + sz p0 + sz p1 + sz p2 + sz p3 + sz p4 + sz p5 + sz p6 + sz p7 + sz p8 + sz p9 + sz p10 + sz p11 := by omega
@[go_sem 1080] theorem lt_8_9 {a b : Nat} {p0 p1 p2 p3 p4 p5 p6 p7 p8 : Array Obj} (h : a < b) : a + sz p0 + sz p1 + sz p2 + sz p3 + sz p4 + sz p5 + sz p6 + sz p7 < b + sz p0 + sz p1 + sz p2 + sz p3 + sz p4 + sz p5 + sz p6 + sz p7 + sz p8 := by omega
@[go_sem 1080] theorem lt_8_10 {a b : Nat} {p0 p1 p2 p3 p4 p5 p6 p7 p8 p9 : Array Obj} (h : a < b) : a + sz p0 + sz p1 + sz p2 + sz p3 + sz p4 + sz p5 + sz p6 + sz p7 < b + sz p0 + sz p1 + sz p2 + sz p3 + sz p4 + sz p5 + sz p6 + sz p7 + sz p8 + sz p9 := by omega
@[go_sem 1080] theorem lt_8_11 {a b : Nat} {p0 p1 p2 p3 p4 p5 p6 p7 p8 p9 p10 : Array Obj} (h : a < b) : a + sz p0 + sz p1 + sz p2 + sz p3 + sz p4 + sz p5 + sz p6 + sz p7 < b + sz p0 + sz p1 + sz p2 + sz p3 + sz p4 + sz p5 + sz p6 + sz p7 + sz p8 + sz p9 + sz p10 := by omega
@[go_sem 1080] theorem lt_8_12 {a b : Nat} {p0 p1 p2 p3 p4 p5 p6 p7 p8 p9 p10 p11 : Array Obj} (h : a < b) : a + sz p0 + sz p1 + sz p2 + sz p3 + sz p4 + sz p5 + sz p6 + sz p7 < b + sz p0 + sz p1 + sz p2 + sz p3 + sz p4 + sz p5 + sz p6 + sz p7 + sz p8 + sz p9 + sz p10 + sz p11 := by omega
@[go_sem 1090] theorem lt_9_10 {a b : Nat} {p0 p1 p2 p3 p4 p5 p6 p7 p8 p9 : Array Obj} (h : a < b) : a + sz p0 + sz p1 + sz p2 + sz p3 + sz p4 + sz p5 + sz p6 + sz p7 + sz p8 < b + sz p0 + sz p1 + sz p2 + sz p3 + sz p4 + sz p5 + sz p6 + sz p7 + sz p8 + sz p9 := by omega
@[go_sem 1090] theorem lt_9_11 {a b : Nat} {p0 p1 p2 p3 p4 p5 p6 p7 p8 p9 p10 : Array Obj} (h : a < b) : a + sz p0 + sz p1 + sz p2 + sz p3 + sz p4 + sz p5 + sz p6 + sz p7 + sz p8 < b + sz p0 + sz p1 + sz p2 + sz p3 + sz p4 + sz p5 + sz p6 + sz p7 + sz p8 + sz p9 + sz p10 := by omega
@[go_sem 1090] theorem lt_9_12 {a b : Nat} {p0 p1 p2 p3 p4 p5 p6 p7 p8 p9 p10 p11 : Array Obj} (h : a < b) : a + sz p0 + sz p1 + sz p2 + sz p3 + sz p4 + sz p5 + sz p6 + sz p7 + sz p8 < b + sz p0 + sz p1 + sz p2 + sz p3 + sz p4 + sz p5 + sz p6 + sz p7 + sz p8 + sz p9 + sz p10 + sz p11 := by omega
@[go_sem 1100] theorem lt_10_11 {a b : Nat} {p0 p1 p2 p3 p4 p5 p6 p7 p8 p9 p10 : Array Obj} (h : a < b) : a + sz p0 + sz p1 + sz p2 + sz p3 + sz p4 + sz p5 + sz p6 + sz p7 + sz p8 + sz p9 < b + sz p0 + sz p1 + sz p2 + sz p3 + sz p4 + sz p5 + sz p6 + sz p7 + sz p8 + sz p9 + sz p10 := by omega
@[go_sem 1100] theorem lt_10_12 {a b : Nat} {p0 p1 p2 p3 p4 p5 p6 p7 p8 p9 p10 p11 : Array Obj} (h : a < b) : a + sz p0 + sz p1 + sz p2 + sz p3 + sz p4 + sz p5 + sz p6 + sz p7 + sz p8 + sz p9 < b + sz p0 + sz p1 + sz p2 + sz p3 + sz p4 + sz p5 + sz p6 + sz p7 + sz p8 + sz p9 + sz p10 + sz p11 := by omega
@[go_sem 1110] theorem lt_11_12 {a b : Nat} {p0 p1 p2 p3 p4 p5 p6 p7 p8 p9 p10 p11 : Array Obj} (h : a < b) : a + sz p0 + sz p1 + sz p2 + sz p3 + sz p4 + sz p5 + sz p6 + sz p7 + sz p8 + sz p9 + sz p10 < b + sz p0 + sz p1 + sz p2 + sz p3 + sz p4 + sz p5 + sz p6 + sz p7 + sz p8 + sz p9 + sz p10 + sz p11 := by omega
@[go_sem] theorem plus_plus (w : World) (x y : Array Obj) (n m : Nat) : plus (plus w x n) y m = plus w (x ++ y) m := by simp [plus]

@[go_sem 500] theorem ltj_1_0 {a b : Nat} (h : a < b) : a < b + 1 := by omega
@[go_sem 500] theorem ltj_1_1 {a b : Nat} {p0 : Array Obj} (h : a < b) : a < b + 1 + sz p0 := by omega
@[go_sem 500] theorem ltj_1_2 {a b : Nat} {p0 p1 : Array Obj} (h : a < b) : a < b + 1 + sz p0 + sz p1 := by omega
@[go_sem 500] theorem ltj_1_3 {a b : Nat} {p0 p1 p2 : Array Obj} (h : a < b) : a < b + 1 + sz p0 + sz p1 + sz p2 := by omega
@[go_sem 500] theorem ltj_1_4 {a b : Nat} {p0 p1 p2 p3 : Array Obj} (h : a < b) : a < b + 1 + sz p0 + sz p1 + sz p2 + sz p3 := by omega
@[go_sem 500] theorem ltj_2_0 {a b : Nat} (h : a < b) : a < b + 1 + 1 := by omega
@[go_sem 500] theorem ltj_2_1 {a b : Nat} {p0 : Array Obj} (h : a < b) : a < b + 1 + 1 + sz p0 := by omega
@[go_sem 500] theorem ltj_2_2 {a b : Nat} {p0 p1 : Array Obj} (h : a < b) : a < b + 1 + 1 + sz p0 + sz p1 := by omega
@[go_sem 500] theorem ltj_2_3 {a b : Nat} {p0 p1 p2 : Array Obj} (h : a < b) : a < b + 1 + 1 + sz p0 + sz p1 + sz p2 := by omega
@[go_sem 500] theorem ltj_2_4 {a b : Nat} {p0 p1 p2 p3 : Array Obj} (h : a < b) : a < b + 1 + 1 + sz p0 + sz p1 + sz p2 + sz p3 := by omega
@[go_sem 500] theorem ltj_3_0 {a b : Nat} (h : a < b) : a < b + 1 + 1 + 1 := by omega
@[go_sem 500] theorem ltj_3_1 {a b : Nat} {p0 : Array Obj} (h : a < b) : a < b + 1 + 1 + 1 + sz p0 := by omega
@[go_sem 500] theorem ltj_3_2 {a b : Nat} {p0 p1 : Array Obj} (h : a < b) : a < b + 1 + 1 + 1 + sz p0 + sz p1 := by omega
@[go_sem 500] theorem ltj_3_3 {a b : Nat} {p0 p1 p2 : Array Obj} (h : a < b) : a < b + 1 + 1 + 1 + sz p0 + sz p1 + sz p2 := by omega
@[go_sem 500] theorem ltj_3_4 {a b : Nat} {p0 p1 p2 p3 : Array Obj} (h : a < b) : a < b + 1 + 1 + 1 + sz p0 + sz p1 + sz p2 + sz p3 := by omega
@[go_sem 500] theorem ltj_4_0 {a b : Nat} (h : a < b) : a < b + 1 + 1 + 1 + 1 := by omega
@[go_sem 500] theorem ltj_4_1 {a b : Nat} {p0 : Array Obj} (h : a < b) : a < b + 1 + 1 + 1 + 1 + sz p0 := by omega
@[go_sem 500] theorem ltj_4_2 {a b : Nat} {p0 p1 : Array Obj} (h : a < b) : a < b + 1 + 1 + 1 + 1 + sz p0 + sz p1 := by omega
@[go_sem 500] theorem ltj_4_3 {a b : Nat} {p0 p1 p2 : Array Obj} (h : a < b) : a < b + 1 + 1 + 1 + 1 + sz p0 + sz p1 + sz p2 := by omega
@[go_sem 500] theorem ltj_4_4 {a b : Nat} {p0 p1 p2 p3 : Array Obj} (h : a < b) : a < b + 1 + 1 + 1 + 1 + sz p0 + sz p1 + sz p2 + sz p3 := by omega
@[go_sem 500] theorem ltj_5_0 {a b : Nat} (h : a < b) : a < b + 1 + 1 + 1 + 1 + 1 := by omega
@[go_sem 500] theorem ltj_5_1 {a b : Nat} {p0 : Array Obj} (h : a < b) : a < b + 1 + 1 + 1 + 1 + 1 + sz p0 := by omega
@[go_sem 500] theorem ltj_5_2 {a b : Nat} {p0 p1 : Array Obj} (h : a < b) : a < b + 1 + 1 + 1 + 1 + 1 + sz p0 + sz p1 := by omega
@[go_sem 500] theorem ltj_5_3 {a b : Nat} {p0 p1 p2 : Array Obj} (h : a < b) : a < b + 1 + 1 + 1 + 1 + 1 + sz p0 + sz p1 + sz p2 := by omega
@[go_sem 500] theorem ltj_5_4 {a b : Nat} {p0 p1 p2 p3 : Array Obj} (h : a < b) : a < b + 1 + 1 + 1 + 1 + 1 + sz p0 + sz p1 + sz p2 + sz p3 := by omega

/-- What was there is as it was; new blocks; draws. -/
def Grows (w w' : World) : Prop := ∃ x n, w' = plus w x n
theorem Grows.refl (w : World) : Grows w w := ⟨#[], w.drawn, by simp [plus]⟩
theorem Grows.alloc {w w' : World} (h : Grows w w') (o : Obj) : Grows w (w'.alloc o) := by
  obtain ⟨x, n, rfl⟩ := h
  exact ⟨x.push o, n, by simp [plus, World.alloc]⟩
theorem Grows.drew {w w' : World} (h : Grows w w') : Grows w w'.drew := by
  obtain ⟨x, n, rfl⟩ := h
  exact ⟨x, n + 1, rfl⟩
theorem Grows.drewN {w w' : World} (h : Grows w w') (k : Nat) : Grows w (w'.drewN k) := by
  obtain ⟨x, n, rfl⟩ := h
  exact ⟨x, n + k, rfl⟩
theorem Grows.plus {w w' : World} (h : Grows w w') (x : Array Obj) (n : Nat) : Grows w (Vg.plus w' x n) := by
  obtain ⟨y, m, rfl⟩ := h
  exact ⟨y ++ x, n, by simp [Vg.plus]⟩
/-- Whoever keeps what lay below has grown: the same thing said otherwise. -/
theorem Grows.of_below {w w' : World} (h : Below w.heap.size w w') : Grows w w' := by
  refine ⟨w'.heap.extract w.heap.size w'.heap.size, w'.drawn, ?_⟩
  have e : w'.heap = w.heap ++ w'.heap.extract w.heap.size w'.heap.size := by
    apply Array.ext_getElem?
    intro k
    rw [Array.getElem?_append]
    by_cases hk : k < w.heap.size
    · rw [if_pos hk, h.block k hk]
    · rw [if_neg hk, Array.getElem?_extract]
      split
      · congr 1; omega
      · apply Array.getElem?_eq_none; omega
  unfold Vg.plus
  rw [← e, ← h.os, ← h.tape, ← h.output]
theorem Grows.size {w w' : World} (h : Grows w w') : w.heap.size ≤ w'.heap.size := by
  obtain ⟨y, m, rfl⟩ := h
  rw [plus_size]; omega
theorem Grows.below {w w' : World} (h : Grows w w') : Below w.heap.size w w' := by
  obtain ⟨y, m, rfl⟩ := h
  exact ⟨rfl, rfl, rfl, by rw [plus_size]; omega, fun k hk => plus_heap hk⟩
theorem Grows.setCell {w w' : World} (h : Grows w w') {b i : Nat} (hb : w.heap.size ≤ b) (v : Value) : Grows w (w'.setCell ⟨b, i, none⟩ v) :=
  Grows.of_below (h.below.setCell hb v)
theorem Grows.trans {a b c : World} (h : Grows a b) (k : Grows b c) : Grows a c := by
  obtain ⟨y, m, rfl⟩ := k
  exact h.plus y m
end Vg
namespace Go.Proofs.YtekjnagojphmkaaDoor
open Go.ChangeShapes Go.WideShapes Go.ChangeAt Go.RowKit
theorem ret_int {k : IntKind} {a b : Int} (h : a = b) : Ending.returned (.int k a) = .returned (.int k b) := by rw [h]
theorem ret_bool {a b : Bool} (h : a = b) : Ending.returned (.bool a) = .returned (.bool b) := by rw [h]
theorem ret_ii {k k' : IntKind} {a b : Int} {p : Int × Int} (h : (a, b) = p) : Ending.returned (.tuple #[.int k a, .int k' b]) = .returned (.tuple #[.int k p.1, .int k' p.2]) := by subst h; rfl
theorem bcell {W w1 : World} (hb : Below W.heap.size W w1) : (∀ b o, b < W.heap.size → w1.cell? ⟨b, o, none⟩ = W.cell? ⟨b, o, none⟩) ∧ (∀ b o, b < W.heap.size → w1.frozen? ⟨b, o, none⟩ = W.frozen? ⟨b, o, none⟩) :=
  ⟨fun b o h => hb.cell (p := ⟨b, o, none⟩) h, fun b o h => hb.frozen (p := ⟨b, o, none⟩) h⟩
end Go.Proofs.YtekjnagojphmkaaDoor
