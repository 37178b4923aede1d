/- Fit, Com, Bit, Ic, Obj, Row, RowB (put together). -/
import Derived.WalkKit
import Derived.ProofKit
import Derived.OpenShut
import Derived.Deep.Slices
import Derived.ChangeArms
import Derived.Handy
import Derived.Lib.Hide
import Derived.RegionTactic
import Derived.ChangeAlike
import Derived.Deep.QuietTactic
import Derived.BigQuiet
import Derived.Lib.SmallJoins
import Derived.Deep.RegionWith
import Derived.Deep.RegionHeld3
import Derived.Deep.MidRow
import Derived.Deep.DeepCutAuto
import Derived.Deep.CutBlock
import Derived.Deep.OwnRows
import Derived.WalkMore
import Derived.ScopeJumps
import Derived.Deep.LoopGhost
import Derived.Laws.BitsAllLaws
import Derived.Lib.TrailingZeros
import Derived.Maps.AppendAt
import Derived.Laws.AppendOwnNone
import Derived.OrdersHeld
import Derived.Deep.RegionHeld
import Derived.RowKit
set_option linter.unusedSimpArgs false
set_option linter.unusedVariables false
set_option maxHeartbeats 40000000
set_option maxRecDepth 100000
namespace Vg
open Go Go.ChangeShapes Go.WideShapes Go.Deep Go.RowKit
section
variable {H : Type} {enc : TypeId × Value -> H} {P : Program} {w : World} {base : Nat} {spare : Nat -> Bool} {held : Bool}
end
end Vg
namespace Vg
open Go Go.RowKit
def sz (x : Array Obj) : Nat := x.size
def plus (w : World) (x : Array Obj) (n : Nat) : World := { w with heap := w.heap ++ x, drawn := n }
@[go_sem] theorem plus_size (w : World) (x : Array Obj) (n : Nat) : (plus w x n).heap.size = w.heap.size + sz x := by simp [plus, sz]
theorem plus_heap {w : World} {x : Array Obj} {n b : Nat} (h : b < w.heap.size) : (plus w x n).heap[b]? = w.heap[b]? := by
 show (w.heap ++ x)[b]? = _
 rw [Array.getElem?_append_left h]
@[go_sem] theorem plus_cell {w : World} {x : Array Obj} {n b o : Nat} (h : b < w.heap.size) : (plus w x n).cell? ⟨b, o, none⟩ = w.cell? ⟨b, o, none⟩ := World.cell?_of_block (w := w) (plus_heap h)
@[go_sem] theorem plus_frozen {w : World} {x : Array Obj} {n b o : Nat} (h : b < w.heap.size) : (plus w x n).frozen? ⟨b, o, none⟩ = w.frozen? ⟨b, o, none⟩ := World.frozen?_of_block (w := w) (plus_heap h)
@[go_sem] theorem plus_setCell {w : World} {x : Array Obj} {n b i : Nat} {v : Value} (h : b < w.heap.size) : (plus w x n).setCell ⟨b, i, none⟩ v = plus (w.setCell ⟨b, i, none⟩ v) x n := by
 unfold World.setCell plus
 congr 1
 apply Array.ext_getElem?
 intro k
 simp only [Array.getElem?_modify, Array.getElem?_append, Array.size_modify]
 by_cases hk : b = k
 ·subst hk; simp [h]
 ·simp [hk]
@[go_sem] theorem plus_drew (w : World) (x : Array Obj) (n : Nat) : plus w.drew x n = plus w x n := rfl
@[go_sem] theorem plus_drewN (w : World) (x : Array Obj) (n k : Nat) : plus (w.drewN k) x n = plus w x n := rfl
@[go_sem] theorem drew_plus (w : World) (x : Array Obj) (n : Nat) : (plus w x n).drew = plus w x (n + 1) := rfl
@[go_sem] theorem drewN_plus (w : World) (x : Array Obj) (n k : Nat) : (plus w x n).drewN k = plus w x (n + k) := rfl
@[go_sem] theorem sz_succ (a : Nat) (x : Array Obj) : a + sz x + 1 = a + 1 + sz x := by omega
@[go_sem] theorem lit_2 {a : Nat} : a < a + 1 + 1 := by omega
@[go_sem] theorem lit_3 {a : Nat} : a < a + 1 + 1 + 1 := by omega
@[go_sem] theorem lit_4 {a : Nat} : a < a + 1 + 1 + 1 + 1 := by omega
@[go_sem] theorem lit_5 {a : Nat} : a < a + 1 + 1 + 1 + 1 + 1 := by omega
@[go_sem] theorem lit_6 {a : Nat} : a < a + 1 + 1 + 1 + 1 + 1 + 1 := by omega
@[go_sem] theorem lit_7 {a : Nat} : a < a + 1 + 1 + 1 + 1 + 1 + 1 + 1 := by omega
@[go_sem] theorem lit_8 {a : Nat} : a < a + 1 + 1 + 1 + 1 + 1 + 1 + 1 + 1 := by omega
@[go_sem] theorem lit_9 {a : Nat} : a < a + 1 + 1 + 1 + 1 + 1 + 1 + 1 + 1 + 1 := by omega
@[go_sem] theorem lit_10 {a : Nat} : a < a + 1 + 1 + 1 + 1 + 1 + 1 + 1 + 1 + 1 + 1 := by omega
@[go_sem] theorem lit_11 {a : Nat} : a < a + 1 + 1 + 1 + 1 + 1 + 1 + 1 + 1 + 1 + 1 + 1 := by omega
@[go_sem] theorem lit_12 {a : Nat} : a < a + 1 + 1 + 1 + 1 + 1 + 1 + 1 + 1 + 1 + 1 + 1 + 1 := by omega
@[go_sem] theorem lit_13 {a : Nat} : a < a + 1 + 1 + 1 + 1 + 1 + 1 + 1 + 1 + 1 + 1 + 1 + 1 + 1 := by omega
@[go_sem 1000] theorem lt_0_1 {a b : Nat} {p0 : Array Obj} (h : a < b) : a < b + sz p0 := by omega
@[go_sem] theorem plus_plus (w : World) (x y : Array Obj) (n m : Nat) : plus (plus w x n) y m = plus w (x ++ y) m := by simp [plus]
@[go_sem 500] theorem ltj_1_0 {a b : Nat} (h : a < b) : a < b + 1 := by omega
@[go_sem 500] theorem ltj_1_1 {a b : Nat} {p0 : Array Obj} (h : a < b) : a < b + 1 + sz p0 := by omega
@[go_sem 500] theorem ltj_1_2 {a b : Nat} {p0 p1 : Array Obj} (h : a < b) : a < b + 1 + sz p0 + sz p1 := by omega
@[go_sem 500] theorem ltj_1_3 {a b : Nat} {p0 p1 p2 : Array Obj} (h : a < b) : a < b + 1 + sz p0 + sz p1 + sz p2 := by omega
@[go_sem 500] theorem ltj_1_4 {a b : Nat} {p0 p1 p2 p3 : Array Obj} (h : a < b) : a < b + 1 + sz p0 + sz p1 + sz p2 + sz p3 := by omega
@[go_sem 500] theorem ltj_2_0 {a b : Nat} (h : a < b) : a < b + 1 + 1 := by omega
@[go_sem 500] theorem ltj_2_1 {a b : Nat} {p0 : Array Obj} (h : a < b) : a < b + 1 + 1 + sz p0 := by omega
@[go_sem 500] theorem ltj_2_2 {a b : Nat} {p0 p1 : Array Obj} (h : a < b) : a < b + 1 + 1 + sz p0 + sz p1 := by omega
@[go_sem 500] theorem ltj_2_3 {a b : Nat} {p0 p1 p2 : Array Obj} (h : a < b) : a < b + 1 + 1 + sz p0 + sz p1 + sz p2 := by omega
@[go_sem 500] theorem ltj_2_4 {a b : Nat} {p0 p1 p2 p3 : Array Obj} (h : a < b) : a < b + 1 + 1 + sz p0 + sz p1 + sz p2 + sz p3 := by omega
@[go_sem 500] theorem ltj_3_0 {a b : Nat} (h : a < b) : a < b + 1 + 1 + 1 := by omega
@[go_sem 500] theorem ltj_3_1 {a b : Nat} {p0 : Array Obj} (h : a < b) : a < b + 1 + 1 + 1 + sz p0 := by omega
@[go_sem 500] theorem ltj_3_2 {a b : Nat} {p0 p1 : Array Obj} (h : a < b) : a < b + 1 + 1 + 1 + sz p0 + sz p1 := by omega
@[go_sem 500] theorem ltj_3_3 {a b : Nat} {p0 p1 p2 : Array Obj} (h : a < b) : a < b + 1 + 1 + 1 + sz p0 + sz p1 + sz p2 := by omega
@[go_sem 500] theorem ltj_3_4 {a b : Nat} {p0 p1 p2 p3 : Array Obj} (h : a < b) : a < b + 1 + 1 + 1 + sz p0 + sz p1 + sz p2 + sz p3 := by omega
@[go_sem 500] theorem ltj_4_0 {a b : Nat} (h : a < b) : a < b + 1 + 1 + 1 + 1 := by omega
@[go_sem 500] theorem ltj_4_1 {a b : Nat} {p0 : Array Obj} (h : a < b) : a < b + 1 + 1 + 1 + 1 + sz p0 := by omega
@[go_sem 500] theorem ltj_4_2 {a b : Nat} {p0 p1 : Array Obj} (h : a < b) : a < b + 1 + 1 + 1 + 1 + sz p0 + sz p1 := by omega
@[go_sem 500] theorem ltj_4_3 {a b : Nat} {p0 p1 p2 : Array Obj} (h : a < b) : a < b + 1 + 1 + 1 + 1 + sz p0 + sz p1 + sz p2 := by omega
@[go_sem 500] theorem ltj_4_4 {a b : Nat} {p0 p1 p2 p3 : Array Obj} (h : a < b) : a < b + 1 + 1 + 1 + 1 + sz p0 + sz p1 + sz p2 + sz p3 := by omega
@[go_sem 500] theorem ltj_5_0 {a b : Nat} (h : a < b) : a < b + 1 + 1 + 1 + 1 + 1 := by omega
@[go_sem 500] theorem ltj_5_1 {a b : Nat} {p0 : Array Obj} (h : a < b) : a < b + 1 + 1 + 1 + 1 + 1 + sz p0 := by omega
@[go_sem 500] theorem ltj_5_2 {a b : Nat} {p0 p1 : Array Obj} (h : a < b) : a < b + 1 + 1 + 1 + 1 + 1 + sz p0 + sz p1 := by omega
@[go_sem 500] theorem ltj_5_3 {a b : Nat} {p0 p1 p2 : Array Obj} (h : a < b) : a < b + 1 + 1 + 1 + 1 + 1 + sz p0 + sz p1 + sz p2 := by omega
@[go_sem 500] theorem ltj_5_4 {a b : Nat} {p0 p1 p2 p3 : Array Obj} (h : a < b) : a < b + 1 + 1 + 1 + 1 + 1 + sz p0 + sz p1 + sz p2 + sz p3 := by omega
def Grows (w w' : World) : Prop := ∃ x n, w' = plus w x n
theorem Grows.refl (w : World) : Grows w w := ⟨#[], w.drawn, by simp [plus]⟩
theorem Grows.alloc {w w' : World} (h : Grows w w') (o : Obj) : Grows w (w'.alloc o) := by
 obtain ⟨x, n, rfl⟩ := h
 exact ⟨x.push o, n, by simp [plus, World.alloc]⟩
theorem Grows.drew {w w' : World} (h : Grows w w') : Grows w w'.drew := by
 obtain ⟨x, n, rfl⟩ := h
 exact ⟨x, n + 1, rfl⟩
theorem Grows.drewN {w w' : World} (h : Grows w w') (k : Nat) : Grows w (w'.drewN k) := by
 obtain ⟨x, n, rfl⟩ := h
 exact ⟨x, n + k, rfl⟩
theorem Grows.plus {w w' : World} (h : Grows w w') (x : Array Obj) (n : Nat) : Grows w (Vg.plus w' x n) := by
 obtain ⟨y, m, rfl⟩ := h
 exact ⟨y ++ x, n, by simp [Vg.plus]⟩
theorem Grows.of_below {w w' : World} (h : Below w.heap.size w w') : Grows w w' := by
 refine ⟨w'.heap.extract w.heap.size w'.heap.size, w'.drawn, ?_⟩
 have e : w'.heap = w.heap ++ w'.heap.extract w.heap.size w'.heap.size := by
  apply Array.ext_getElem?
  intro k
  rw [Array.getElem?_append]
  by_cases hk : k < w.heap.size
  ·rw [if_pos hk, h.block k hk]
  ·rw [if_neg hk, Array.getElem?_extract]
   split
   ·congr 1; omega
   ·apply Array.getElem?_eq_none; omega
 unfold Vg.plus
 rw [<- e, <- h.os, <- h.tape, <- h.output]
theorem Grows.size {w w' : World} (h : Grows w w') : w.heap.size <= w'.heap.size := by
 obtain ⟨y, m, rfl⟩ := h
 rw [plus_size]; omega
theorem Grows.below {w w' : World} (h : Grows w w') : Below w.heap.size w w' := by
 obtain ⟨y, m, rfl⟩ := h
 exact ⟨rfl, rfl, rfl, by rw [plus_size]; omega, fun k hk => plus_heap hk⟩
theorem Grows.setCell {w w' : World} (h : Grows w w') {b i : Nat} (hb : w.heap.size <= b) (v : Value) : Grows w (w'.setCell ⟨b, i, none⟩ v) :=
 Grows.of_below (h.below.setCell hb v)
theorem Grows.trans {a b c : World} (h : Grows a b) (k : Grows b c) : Grows a c := by
 obtain ⟨y, m, rfl⟩ := k
 exact h.plus y m
end Vg
namespace Go.Proofs.YtlkdkgefjipjmaaGreatDoor
open Go.ChangeShapes Go.WideShapes Go.ChangeAt Go.RowKit
theorem ret_int {k : IntKind} {a b : Int} (h : a = b) : Ending.returned (.int k a) = .returned (.int k b) := by rw [h]
theorem ret_bool {a b : Bool} (h : a = b) : Ending.returned (.bool a) = .returned (.bool b) := by rw [h]
end Go.Proofs.YtlkdkgefjipjmaaGreatDoor
namespace Vg
open Go
def clr (b i : Nat) : Nat := b &&& (18446744073709551615 - 2 ^ i)
theorem pow_lt64 {i : Nat} (hi : i < 64) : 2 ^ i < 18446744073709551616 := by
 have : 2 ^ i < 2 ^ 64 := Nat.pow_lt_pow_right (by decide) hi
 simpa using this
theorem tb_hi {b i : Nat} (h : b < 18446744073709551616) (hi : 64 <= i) : b.testBit i = false :=
 Nat.testBit_lt_two_pow (Nat.lt_of_lt_of_le h (by
  have : 2 ^ 64 <= 2 ^ i := Nat.pow_le_pow_right (by decide) hi
  simpa using this))
theorem not_tb {x j : Nat} (hx : x < 18446744073709551616) (hj : j < 64) : (18446744073709551615 - x).testBit j = !x.testBit j := by
 have h := Nat.testBit_two_pow_sub_succ (x := x) (n := 64) (by simpa using hx) j
 rw [show (18446744073709551615 - x : Nat) = 2 ^ 64 - (x + 1) from by omega, h]
 simp [hj]
theorem clr_tb {b i j : Nat} (hb : b < 18446744073709551616) (hi : i < 64) : (clr b i).testBit j = (b.testBit j && decide (j ≠ i)) := by
 unfold clr
 rw [Nat.testBit_and]
 by_cases hj : j < 64
 ·rw [not_tb (pow_lt64 hi) hj, Nat.testBit_two_pow]
  by_cases h : i = j
  ·subst h; simp
  ·have h' : j ≠ i := fun hh => h hh.symm
   simp [h, h']
 ·rw [tb_hi hb (by omega)]; simp
theorem clr_lt {b i : Nat} (hb : b < 18446744073709551616) : clr b i < 18446744073709551616 := by
 unfold clr
 exact Nat.lt_of_le_of_lt (Nat.and_le_left) hb
theorem or_tb (b i j : Nat) : (b ||| 2 ^ i).testBit j = (b.testBit j || decide (j = i)) := by
 rw [Nat.testBit_or, Nat.testBit_two_pow]
 by_cases h : i = j
 ·subst h; simp
 ·have h' : ¬ j = i := fun hh => h hh.symm
  simp [h, h']
theorem or_lt {b i : Nat} (hb : b < 18446744073709551616) (hi : i < 64) : b ||| 2 ^ i < 18446744073709551616 := by
 have := Nat.or_lt_two_pow (x := b) (y := 2 ^ i) (n := 64) (by simpa using hb) (by simpa using pow_lt64 hi)
 simpa using this
def FromB (b k c : Nat) : Prop := ∀ j, c.testBit j = (b.testBit j && decide (k <= j))
theorem FromB.start (b : Nat) : FromB b 0 b := fun j => by simp
theorem FromB.done {b k : Nat} (h : FromB b k 0) : ∀ j, k <= j -> b.testBit j = false := fun j hj => by
 have := h j
 simpa [hj] using this.symm
theorem ctz_at {c : Nat} (h0 : 0 < c) (h : c < 18446744073709551616) : ∃ m, c = 2 ^ Lib.ctz 64 c * (2 * m + 1) /\ Lib.ctz 64 c < 64 := by
 unfold Lib.ctz
 rw [if_neg (by omega)]
 exact Lib.ctzFrom_spec 64 c h0 (by simpa using h)
theorem FromB.next {b k c : Nat} (h : FromB b k c) (h0 : 0 < c) (hc : c < 18446744073709551616) :
  Lib.ctz 64 c < 64 /\ k <= Lib.ctz 64 c /\ b.testBit (Lib.ctz 64 c) = true /\ (∀ j, k <= j -> j < Lib.ctz 64 c -> b.testBit j = false) /\ FromB b (Lib.ctz 64 c + 1) (c &&& (c - 1)) := by
 obtain ⟨m, hm, hk⟩ := ctz_at h0 hc
 generalize Lib.ctz 64 c = t at hm hk ⊢
 have t1 : ∀ j, c.testBit j = if j < t then false else (2 * m + 1).testBit (j - t) := fun j => by
  have := Nat.testBit_two_pow_mul_add (2 * m + 1) (b := 0) (i := t) (Nat.two_pow_pos t) j
  rw [Nat.add_zero, <- hm] at this
  simpa using this
 have e1 : c - 1 = 2 ^ t * (2 * m) + (2 ^ t - 1) := by
  have : 0 < 2 ^ t := Nat.two_pow_pos t
  rw [hm, Nat.mul_add]
  omega
 have t2 : ∀ j, (c - 1).testBit j = if j < t then true else (2 * m).testBit (j - t) := fun j => by
  have hp : 0 < 2 ^ t := Nat.two_pow_pos t
  have := Nat.testBit_two_pow_mul_add (2 * m) (b := 2 ^ t - 1) (i := t) (by omega) j
  rw [<- e1] at this
  rw [this]
  by_cases hj : j < t
  ·rw [if_pos hj, if_pos hj, Nat.testBit_two_pow_sub_one]; simp [hj]
  ·rw [if_neg hj, if_neg hj]
 have tt : c.testBit t = true := by
  rw [t1, if_neg (by omega), Nat.sub_self, Nat.testBit_zero]; simp
 have hct := h t
 rw [tt] at hct
 simp only [Bool.true_eq, Bool.and_eq_true, decide_eq_true_eq] at hct
 refine ⟨hk, hct.2, hct.1, fun j h1 h2 => ?_, fun j => ?_⟩
 ·have := h j
  rw [t1, if_pos h2] at this
  simpa [h1] using this.symm
 ·rw [Nat.testBit_and, t2]
  by_cases hj : j < t
  ·rw [t1, if_pos hj]
   have : ¬ t + 1 <= j := by omega
   simp [this]
  ·rw [if_neg hj]
   by_cases he : j = t
   ·subst he
    have e2 : (2 * m).testBit 0 = false := by rw [Nat.testBit_zero]; simp
    have : ¬ j + 1 <= j := by omega
    rw [Nat.sub_self, e2]; simp [this]
   ·obtain ⟨i, rfl⟩ : ∃ i, j = t + (i + 1) := ⟨j - t - 1, by omega⟩
    have e3 : t + (i + 1) - t = i + 1 := by omega
    have e4 : (2 * m).testBit (i + 1) = m.testBit i := by rw [Nat.testBit_succ]; congr 1; omega
    have e5 : c.testBit (t + (i + 1)) = m.testBit i := by
     rw [t1, if_neg hj, e3, Nat.testBit_succ]; congr 1; omega
    have e6 := h (t + (i + 1))
    rw [e5] at e6
    have h1 : k <= t + (i + 1) := by omega
    have h2 : t + 1 <= t + (i + 1) := by omega
    rw [e3, e4, e5]
    simp only [h1, h2, decide_true, Bool.and_true] at e6 ⊢
    rw [<- e6, Bool.and_self]
theorem FromB.lt {b k c : Nat} (h : FromB b k c) (hb : b < 18446744073709551616) : c < 18446744073709551616 := by
 have : c < 2 ^ 64 := Nat.lt_pow_two_of_testBit c fun i hi => by rw [h i, tb_hi hb hi]; rfl
 simpa using this
def blK (b k : Nat) : List Nat := (List.range k).filter fun j => b.testBit j
theorem blK_succ (b k : Nat) : blK b (k + 1) = if b.testBit k = true then blK b k ++ [k] else blK b k := by
 unfold blK
 rw [List.range_succ, List.filter_append]
 by_cases h : b.testBit k = true
 ·simp [h]
 ·simp [h]
theorem blK_mem {b k j : Nat} : j ∈ blK b k ↔ j < k /\ b.testBit j = true := by
 unfold blK
 simp
theorem blK_len (b k : Nat) : (blK b k).length <= k := by
 unfold blK
 exact Nat.le_trans (List.length_filter_le _ _) (by simp)
end Vg
namespace Vg
open Go
structure Ic where
 pe : Nat
 en : Nat
 pr : List Int
 st : List Nat
def Ic.prio (c : Ic) (k : Nat) : Int := (c.pr[k]?).getD 0
def Ic.lvl (c : Ic) : Int := match c.st.getLast? with
 | none => 0
 | some k => c.prio k
def orB : List Nat -> Nat -> Nat
 | [], b => b
 | i :: l, b => orB l (b ||| 2 ^ i)
def Ic.cand (c : Ic) : Nat := (c.pe &&& c.en) &&& (18446744073709551615 - orB c.st 0)
def Ic.pick (c : Ic) : List Nat -> Int × Int -> Int × Int
 | [], r => r
 | k :: l, r => Ic.pick c l (if r.2 < c.prio k then ((k : Int), c.prio k) else r)
theorem Ic.pick_snoc (c : Ic) : ∀ (l : List Nat) (i : Nat) (r : Int × Int), c.pick (l ++ [i]) r = if (c.pick l r).2 < c.prio i then ((i : Int), c.prio i) else c.pick l r
 | [], i, r => rfl
 | j :: l, i, r => by simp only [List.cons_append, Ic.pick]; exact Ic.pick_snoc c l i _
def Ic.nx (c : Ic) : Int := (c.pick (blK c.cand 64) (64, c.lvl)).1
structure Ic.Ok (n : Nat) (c : Ic) : Prop where
 len : c.pr.length = n
 n1 : 1 <= n /\ n <= 64
 prs : ∀ p ∈ c.pr, 1 <= p /\ p <= 15
 pe : c.pe < 2 ^ n
 en : c.en < 2 ^ n
 sth : ∀ i ∈ c.st, i < n
 asc : c.st.Pairwise fun a b => c.prio a < c.prio b
theorem lt64_of {b n : Nat} (h : b < 2 ^ n) (hn : n <= 64) : b < 18446744073709551616 := by
 have : 2 ^ n <= 2 ^ 64 := Nat.pow_le_pow_right (by decide) hn
 have e : 2 ^ 64 = 18446744073709551616 := by decide
 omega
theorem tb_hin {b n i : Nat} (h : b < 2 ^ n) (hi : n <= i) : b.testBit i = false := Nat.testBit_lt_two_pow (Nat.lt_of_lt_of_le h (Nat.pow_le_pow_right (by decide) hi))
theorem lt_of_tb {b n i : Nat} (h : b < 2 ^ n) (hb : b.testBit i = true) : i < n := by
 refine Nat.lt_of_not_le fun hh => ?_
 rw [tb_hin h hh] at hb
 cases hb
theorem orB_tb : ∀ (l : List Nat) (b j : Nat), (orB l b).testBit j = (b.testBit j || decide (j ∈ l))
 | [], b, j => by simp [orB]
 | i :: l, b, j => by
  rw [orB, orB_tb l, or_tb, Bool.or_assoc]
  congr 1
  by_cases h1 : j = i <;> by_cases h2 : j ∈ l <;> simp [h1, h2]
theorem orB_lt : ∀ {l : List Nat} {b : Nat}, b < 18446744073709551616 -> (∀ i ∈ l, i < 64) -> orB l b < 18446744073709551616
 | [], b, hb, _ => hb
 | i :: l, b, hb, h => orB_lt (l := l) (b := b ||| 2 ^ i) (or_lt hb (h i (by simp))) fun j hj => h j (by simp [hj])
theorem orB_snoc : ∀ (l : List Nat) (b i : Nat), orB (l ++ [i]) b = orB l b ||| 2 ^ i
 | [], b, i => rfl
 | j :: l, b, i => by simp only [List.cons_append, orB]; exact orB_snoc l _ i
section
variable {n : Nat} {c : Ic}
theorem Ic.Ok.prio_at (h : c.Ok n) {k : Nat} (hk : k < n) : c.prio k = c.pr[k]'(by rw [h.len]; exact hk) := by
 unfold Ic.prio
 rw [List.getElem?_eq_getElem (by rw [h.len]; exact hk)]
 rfl
theorem Ic.Ok.prio_bd (h : c.Ok n) {k : Nat} (hk : k < n) : 1 <= c.prio k /\ c.prio k <= 15 := by
 rw [h.prio_at hk]
 exact h.prs _ (List.getElem_mem _)
theorem Ic.Ok.pe64 (h : c.Ok n) : c.pe < 18446744073709551616 := lt64_of h.pe h.n1.2
theorem Ic.Ok.en64 (h : c.Ok n) : c.en < 18446744073709551616 := lt64_of h.en h.n1.2
theorem Ic.Ok.act64 (h : c.Ok n) : orB c.st 0 < 18446744073709551616 := orB_lt (by decide) fun i hi => Nat.lt_of_lt_of_le (h.sth i hi) h.n1.2
theorem Ic.Ok.cand_tb (h : c.Ok n) (j : Nat) : c.cand.testBit j = (c.pe.testBit j && c.en.testBit j && !decide (j ∈ c.st)) := by
 unfold Ic.cand
 rw [Nat.testBit_and, Nat.testBit_and]
 by_cases hj : j < 64
 ·rw [not_tb h.act64 hj, orB_tb]; simp
 ·rw [tb_hi h.pe64 (by omega)]; simp
theorem Ic.Ok.cand64 (h : c.Ok n) : c.cand < 18446744073709551616 := Nat.lt_of_le_of_lt (Nat.le_trans Nat.and_le_left Nat.and_le_left) h.pe64
theorem Ic.pick_or (c : Ic) : ∀ (l : List Nat) (r : Int × Int), c.pick l r = r \/ ∃ k ∈ l, c.pick l r = ((k : Int), c.prio k) /\ r.2 < c.prio k
 | [], r => .inl rfl
 | i :: l, r => by
  rw [Ic.pick]
  by_cases hi : r.2 < c.prio i
  ·rw [if_pos hi]
   rcases Ic.pick_or c l ((i : Int), c.prio i) with h | ⟨k, hk, h1, h2⟩
   ·exact .inr ⟨i, by simp, h, hi⟩
   ·exact .inr ⟨k, by simp [hk], h1, Int.lt_trans hi h2⟩
  ·rw [if_neg hi]
   rcases Ic.pick_or c l r with h | ⟨k, hk, h1, h2⟩
   ·exact .inl h
   ·exact .inr ⟨k, by simp [hk], h1, h2⟩
theorem Ic.Ok.nx_cases (h : c.Ok n) : c.nx = 64 \/ ∃ k : Nat, c.nx = k /\ k < n /\ c.pe.testBit k = true /\ c.en.testBit k = true /\ k ∉ c.st /\ c.lvl < c.prio k := by
 unfold Ic.nx
 rcases Ic.pick_or c (blK c.cand 64) (64, c.lvl) with h1 | ⟨k, hk, h1, h2⟩
 ·rw [h1]; exact .inl rfl
 ·rw [h1]
  have h3 := (blK_mem.1 hk).2
  rw [h.cand_tb] at h3
  simp only [Bool.and_eq_true, Bool.not_eq_true', decide_eq_false_iff_not] at h3
  exact .inr ⟨k, rfl, lt_of_tb h.pe h3.1.1, h3.1.1, h3.1.2, h3.2, h2⟩
end
end Vg
namespace Vg
open Go Go.RowKit
def put (w : World) (b : Nat) (o : Obj) : World := { w with heap := w.heap.setIfInBounds b o }
def blk (w : World) (b : Nat) : Option Obj := w.heap[b]?
section
variable {w : World} {b b' i off n : Nat} {cs c1 c2 : Array Value} {v : Value} {t t' : TypeId} {f : Nat × Nat} {o o' : Obj}
@[go_sem] theorem put_size : (put w b o).heap.size = w.heap.size := by simp [put]
theorem put_get (k : Nat) : (put w b o).heap[k]? = if b = k /\ k < w.heap.size then some o else w.heap[k]? := by
 unfold put
 rw [Array.getElem?_setIfInBounds]
 by_cases h : b = k
 ·subst h
  by_cases h2 : b < w.heap.size
  ·simp [h2]
  ·simp [h2]
 ·simp [h]
@[go_sem] theorem put_put : put (put w b o) b o' = put w b o' := by
 unfold put
 simp
theorem put_heap_other (h : b ≠ b') : (put w b o).heap[b']? = w.heap[b']? := by rw [put_get, if_neg (by simp [h])]
theorem put_heap_same (h : b < w.heap.size) : (put w b o).heap[b]? = some o := by rw [put_get, if_pos ⟨rfl, h⟩]
theorem put_self (h : blk w b = some o) : put w b o = w := by
 have e : (put w b o).heap = w.heap := by
  apply Array.ext_getElem?
  intro k
  rw [put_get]
  split
  ·rename_i hh; rw [<- hh.1]; exact h.symm
  ·rfl
 unfold put at e ⊢
 simp only [] at e
 rw [e]
theorem cells_of (h : blk w b = some (.cells cs t f)) : ∀ o, w.cell? ⟨b, o, none⟩ = cs[o]? := fun o => by
 have h' : w.heap[b]? = some (.cells cs t f) := h
 simp [World.cell?, h']
theorem frozen_of (h : blk w b = some (.cells cs t)) : ∀ o, w.frozen? ⟨b, o, none⟩ = false := fun o => by
 have h' : w.heap[b]? = some (.cells cs t) := h
 simp [World.frozen?, h']
theorem setCell_of (h : blk w b = some (.cells cs t)) : ∀ i v, w.setCell ⟨b, i, none⟩ v = put w b (.cells (cs.setIfInBounds i v) t) := fun i v => by
 have e : (w.setCell ⟨b, i, none⟩ v).heap = (put w b (.cells (cs.setIfInBounds i v) t)).heap := by
  apply Array.ext_getElem?
  intro k
  rw [put_get]
  unfold World.setCell
  simp only [Array.getElem?_modify]
  by_cases hk : b = k
  ·subst hk
   have h' : w.heap[b]? = some (.cells cs t) := h
   obtain ⟨hlt, he⟩ := Array.getElem?_eq_some_iff.1 h'
   rw [if_pos rfl, if_pos ⟨rfl, hlt⟩, h']
   rfl
  ·simp [hk]
 unfold World.setCell put at e ⊢
 simp only [] at e
 rw [e]
theorem lt_of (h : blk w b = some o) : b < w.heap.size := (Array.getElem?_eq_some_iff.1 h).1
@[go_sem] theorem put_cell_same (h : b < w.heap.size) : (put w b (.cells cs t)).cell? ⟨b, off, none⟩ = cs[off]? := cells_of (w := put w b (.cells cs t)) (put_heap_same h) off
@[go_sem] theorem put_cell_other (h : b ≠ b') : (put w b o).cell? ⟨b', off, none⟩ = w.cell? ⟨b', off, none⟩ := World.cell?_of_block (w := w) (put_heap_other h)
@[go_sem] theorem put_frozen_same (h : b < w.heap.size) : (put w b (.cells cs t)).frozen? ⟨b, off, none⟩ = false := frozen_of (w := put w b (.cells cs t)) (put_heap_same h) off
@[go_sem] theorem put_frozen_other (h : b ≠ b') : (put w b o).frozen? ⟨b', off, none⟩ = w.frozen? ⟨b', off, none⟩ := World.frozen?_of_block (w := w) (put_heap_other h)
@[go_sem] theorem put_setCell_same (h : b < w.heap.size) : (put w b (.cells cs t)).setCell ⟨b, i, none⟩ v = put w b (.cells (cs.setIfInBounds i v) t) := by
 rw [setCell_of (w := put w b (.cells cs t)) (put_heap_same h), put_put]
@[go_sem] theorem put_setCell_other (h : b ≠ b') : (put w b o).setCell ⟨b', i, none⟩ v = put (w.setCell ⟨b', i, none⟩ v) b o := by
 unfold World.setCell put
 congr 1
 apply Array.ext_getElem?
 intro k
 simp only [Array.getElem?_modify, Array.getElem?_setIfInBounds, Array.size_modify]
 by_cases hk : b = k
 ·subst hk; simp [Ne.symm h]
 ·by_cases hk' : b' = k <;> simp [hk, hk']
@[go_sem] theorem put_alloc_at (hn : n = w.heap.size) : put (w.alloc o) n o' = w.alloc o' := by
 subst hn
 unfold put World.alloc
 congr 1
 apply Array.ext_getElem?
 intro k
 simp only [Array.getElem?_setIfInBounds, Array.getElem?_push, Array.size_push]
 by_cases hk : k = w.heap.size
 ·subst hk; simp
 ·simp [hk, Ne.symm hk]
@[go_sem] theorem put_alloc_past (hn : n < w.heap.size) : put (w.alloc o) n o' = (put w n o').alloc o := by
 unfold put World.alloc
 congr 1
 apply Array.ext_getElem?
 intro k
 simp only [Array.getElem?_setIfInBounds, Array.getElem?_push, Array.size_push, Array.size_setIfInBounds]
 by_cases hk : k = w.heap.size
 ·subst hk; simp [Nat.ne_of_lt hn]
 ·by_cases h2 : n = k
  ·subst h2; simp [hn, hk]; omega
  ·simp [hk, h2]
@[go_sem] theorem put_plus {x : Array Obj} {m : Nat} (hn : n < w.heap.size) : put (plus w x m) n o = plus (put w n o) x m := by
 unfold put plus
 congr 1
 apply Array.ext_getElem?
 intro k
 simp only [Array.getElem?_setIfInBounds, Array.getElem?_append, Array.size_setIfInBounds, Array.size_append]
 by_cases hk : n = k
 ·subst hk; simp [hn]; omega
 ·simp [hk]
@[go_sem] theorem put_drew : put w.drew b o = (put w b o).drew := rfl
@[go_sem] theorem put_drewN {k : Nat} : put (w.drewN k) b o = (put w b o).drewN k := rfl
theorem alloc_heap_at (hn : n = w.heap.size) : (w.alloc o).heap[n]? = some o := by
 subst hn; exact heap_alloc_new w o
theorem alloc_heap_past (hn : n < w.heap.size) : (w.alloc o).heap[n]? = w.heap[n]? := Below.heap_alloc w o n hn
theorem setCell_heap_other (h : b ≠ b') : (w.setCell ⟨b, i, none⟩ v).heap[b']? = w.heap[b']? := Below.heap_setCell w _ v b' (Ne.symm h)
theorem drew_heap : w.drew.heap[n]? = w.heap[n]? := rfl
@[go_sem] theorem blk_put_same (h : b < w.heap.size) : blk (put w b o) b = some o := put_heap_same h
@[go_sem] theorem blk_put_other (h : b ≠ b') : blk (put w b o) b' = blk w b' := put_heap_other h
@[go_sem] theorem blk_alloc_at (hn : n = w.heap.size) : blk (w.alloc o) n = some o := alloc_heap_at hn
@[go_sem] theorem blk_alloc_past (hn : n < w.heap.size) : blk (w.alloc o) n = blk w n := alloc_heap_past hn
@[go_sem] theorem blk_plus {x : Array Obj} {m : Nat} (hn : n < w.heap.size) : blk (plus w x m) n = blk w n := plus_heap hn
@[go_sem] theorem blk_setCell_other (h : b ≠ b') : blk (w.setCell ⟨b, i, none⟩ v) b' = blk w b' := setCell_heap_other h
@[go_sem] theorem blk_drew : blk w.drew n = blk w n := rfl
@[go_sem] theorem blk_drewN {k : Nat} : blk (w.drewN k) n = blk w n := rfl
theorem Grows.blk {w0 : World} (h : Grows w0 w) (hb : Vg.blk w0 b = some o) : Vg.blk w b = some o := by
 obtain ⟨x, n, rfl⟩ := h
 rw [blk_plus (lt_of hb)]; exact hb
theorem Grows.put {w0 : World} (h : Grows w0 w) (hb : w0.heap.size <= b) (o : Obj) : Grows w0 (Vg.put w b o) := by
 have k := h.below
 refine Grows.of_below ⟨k.os, k.tape, k.output, by rw [put_size]; exact k.size, fun i hi => ?_⟩
 rw [put_heap_other (by omega)]
 exact k.block i hi
end
end Vg
namespace Go
theorem tk {P : Program} {ops : Array Oper} {Q : Exit → Act → World → Prop} {md : Region.Mode} {S : World → Prop} (i : Nat) {oi : Oper} {v : Value} {fuel : Nat} {listed : Array Bool} {a : Act} {w : World} (h : wpAnyH P md ops Q S fuel (listed.setIfInBounds i true) (a.put oi.dst v) w)
    (hi : ops[i]? = some oi := by rfl) (hs : Region.noSelect ops = true := by kernel_rfl) (hf : Region.free md ops listed i = true := by kernel_rfl) (hr : (Region.ready md ops listed).contains i = true := by kernel_rfl)
    (hQ : ∀ c a w, Q (.panic c) (a.put oi.dst v) w → Q (.panic c) a w := by exact fun _ _ _ h => h)
    (hy : YieldsIf P ops S oi v a := by (refine Or.inl ⟨by rfl, ?_⟩; intro w hSw; (try dsimp only at hSw); go_simp; first | done | with_reducible rfl)) (hS : S w := by assumption) : wpAnyH P md ops Q S (fuel + 1) listed a w :=
  wpAnyH_take hi hs hf hr hQ hy hS h
theorem tkn {P : Program} {ops : Array Oper} {Q : Exit → Act → World → Prop} {md : Region.Mode} {S : World → Prop} (i : Nat) {oi : Oper} {fuel : Nat} {listed : Array Bool} {a : Act} {w : World} (h : wpAnyH P md ops Q S fuel (listed.setIfInBounds i true) (a.put oi.dst undef) w)
    (hi : ops[i]? = some oi := by rfl) (hs : Region.noSelect ops = true := by kernel_rfl) (hf : Region.free md ops listed i = true := by kernel_rfl) (hr : (Region.ready md ops listed).contains i = true := by kernel_rfl)
    (hQ : ∀ c a w, Q (.panic c) (a.put oi.dst undef) w → Q (.panic c) a w := by exact fun _ _ _ h => h)
    (hy : YieldsIf P ops S oi undef a := by exact Or.inr ⟨by kernel_rfl, rfl⟩) (hS : S w := by assumption) : wpAnyH P md ops Q S (fuel + 1) listed a w :=
  wpAnyH_take hi hs hf hr hQ hy hS h
end Go
namespace Vg
open Go
theorem gro {w w' : World} (h : Vg.Grows w w' := by (repeat' (first | (with_reducible exact Vg.Grows.refl _) | (with_reducible assumption) | (with_reducible refine Vg.Grows.alloc ?_ _) | (with_reducible refine Vg.Grows.plus ?_ _ _) | (with_reducible refine Vg.Grows.drewN ?_ _) | (with_reducible refine Vg.Grows.drew ?_) | (with_reducible refine Vg.Grows.setCell ?_ ?_ _) | (with_reducible refine Vg.Grows.put ?_ ?_ _) | omega | (simp; omega) | (simp; done)))) : Vg.Grows w w' := h
theorem lay {w : World} {b : Nat} {cs : Array Value} {t : TypeId} (h : blk w b = some (.cells cs t)) : (∀ o, w.cell? ⟨b, o, none⟩ = cs[o]?) ∧ (∀ o, w.frozen? ⟨b, o, none⟩ = false) ∧ (∀ i v, w.setCell ⟨b, i, none⟩ v = put w b (.cells (cs.setIfInBounds i v) t)) ∧ b < w.heap.size ∧ RowKit.Hid (blk w b = some (.cells cs t)) := ⟨cells_of h, frozen_of h, setCell_of h, lt_of h, Lib.hid h⟩
end Vg
namespace Go
theorem h_ {p : Prop} (h : p) : RowKit.Hid p := Lib.hid h
end Go
namespace Vg
open Go Go.RowKit
def Reads (S : Nat) (w : World) (sv : Value) (n : Nat) (xs : List Value) : Prop :=
 (sv = .slice none 0 0 /\ n = 0 /\ xs = []) \/
 ∃ g off cap, sv = .slice (some ⟨g, off, none⟩) n cap /\ S <= g /\ g < w.heap.size /\ n <= cap /\ cap <= maxLen /\ ∀ j, (h : j < xs.length) -> w.cell? ⟨g, off + j, none⟩ = some xs[j]
theorem Reads.mono {S : Nat} {w w' : World} {sv : Value} {n : Nat} {xs : List Value} (h : Reads S w sv n xs) (hs : w.heap.size <= w'.heap.size) (hb : ∀ g, S <= g -> g < w.heap.size -> blk w' g = blk w g) : Reads S w' sv n xs := by
 rcases h with h | ⟨g, off, cap, h1, h2, h3, h4, h5, h6⟩
 ·exact .inl h
 ·refine .inr ⟨g, off, cap, h1, h2, by omega, h4, h5, fun j hj => ?_⟩
  rw [<- h6 j hj]
  exact World.cell?_of_block (w := w) (hb g h2 h3)
theorem Reads.grows {S : Nat} {w w' : World} {sv : Value} {n : Nat} {xs : List Value} (h : Reads S w sv n xs) (hg : Grows w w') : Reads S w' sv n xs :=
 h.mono hg.size fun g _ hlt => by obtain ⟨x, k, rfl⟩ := hg; exact blk_plus hlt
theorem Reads.weaken {S S' : Nat} {w : World} {sv : Value} {n : Nat} {xs : List Value} (h : Reads S w sv n xs) (hs : S' <= S) : Reads S' w sv n xs := by
 rcases h with h | ⟨g, off, cap, h1, h2, h3⟩
 ·exact .inl h
 ·exact .inr ⟨g, off, cap, h1, by omega, h3⟩
theorem owns_made0 {w : World} {e : TypeId} {size n : Nat} (hn : n = w.heap.size) : (w.alloc (.cells #[] e)).ownsRow w.heap.size e size (.slice (some ⟨n, 0, none⟩) 0 0) 0 [] := by
 subst hn
 exact World.ownsRow_made w #[] 0 (Nat.le_refl _) (by unfold maxLen; omega) (by simp)
theorem Reads.news {w : World} {g off : Nat} {xs : List Value} (h : ∀ j, (h : j < xs.length) -> w.cell? ⟨g, off + j, none⟩ = some xs[j]) : ∀ j u, xs[j]? = some u -> w.cell? ((⟨g, off, none⟩ : Addr).add j) = some u := fun j u hu => by
 obtain ⟨hj, rfl⟩ := List.getElem?_eq_some_iff.1 hu
 rw [<- h j hj]
 unfold Addr.add
 split
 ·rename_i h0; subst h0; rfl
 ·rfl
theorem owns_shape {B : Nat} {w : World} {e : TypeId} {size : Nat} {v : Value} {n : Nat} {xs : List Value} (h : w.ownsRow B e size v n xs) : ∃ a c, v = .slice a n c := by
 rcases h.2 with ⟨rfl, rfl⟩ | ⟨g, cap, cur, rfl, _⟩
 ·exact ⟨_, _, rfl⟩
 ·exact ⟨_, _, rfl⟩
theorem Grows.grown {W0 w w' : World} {row : Option Nat} (h : Grows W0 w) (hg : w.grownBy w' row) (hr : ∀ k, row = some k -> W0.heap.size <= k) : Grows W0 w' :=
 Grows.of_below (h.below.grown hg h.size hr)
theorem one_new {w : World} {x : Value} {t : TypeId} {n : Nat} (hn : n = w.heap.size) : ∀ j u, [x][j]? = some u -> (w.alloc (.cells #[x] t)).cell? ((⟨n, 0, none⟩ : Addr).add j) = some u := by
 subst hn; exact cell_one_new w x t
section
variable {P : Program} {W0 w : World} {ops : Array Oper} {rest : List Oper} {o : Oper} {a : Act} {Q : Exit -> Act -> World -> Prop}
theorem wpList_app (hg : Grows W0 w) (hgd : o.guard = none) (s x : Operand) (t : TypeId)
  (ho : o.op = .call { callee := .builtin .append, args := #[s, x], argTypes := #[t, t] })
  (B : Nat) (hB : W0.heap.size <= B) (hBw : B <= w.heap.size) (e : TypeId) (i : TypeInfo) (z : Value) (size bytes : Nat) (ht : P.underlying t = some (.slice e)) (hi : P.info? e = some i) (hz : i.zero = some z)
  (hsize : i.size = size) (hby : i.bytes = bytes) (hzs : z.cells.size = size) (hsz : 0 < size)
  (v : Value) (n : Nat) (xs : List Value) (hs : a.eval s = v) (hown : w.ownsRow B e size v n xs)
  (ad : Addr) (m c : Nat) (news : List Value) (hx : a.eval x = .slice (some ad) m c) (hl : news.length = m * size) (hnews : ∀ j u, news[j]? = some u -> w.cell? (ad.add j) = some u) (h1 : ∀ u ∈ news, u.oneCell' = true)
  (h63 : n + m <= maxLen) (hbytes : (n + m) * bytes <= 140737488355328)
  (h : ∀ v' y k, (plus W0 y k).ownsRow B e size v' (n + m) (xs ++ news) -> B <= (plus W0 y k).heap.size -> wpList P ops Q rest (a.put o.dst v') (plus W0 y k)) : wpList P ops Q (o :: rest) a w := by
 refine wpList_append_own w hgd s x t ho B e i z size bytes ht hi hz hsize hby hzs hsz v n xs hs hown ad m c news hx hl hnews h1 h63 hbytes hBw fun v' w' h2 h3 _ => ?_
 have hG := hg.grown h3 (fun k hk => Nat.le_trans hB (hown.lt k hk).1)
 obtain ⟨y, k, rfl⟩ := hG
 exact h v' y k h2 (Nat.le_trans hBw h3.size)
end
end Vg
namespace Vg
open Go Go.RowKit
theorem Reads.open {S : Nat} {w : World} {sa : Option Addr} {n c : Nat} {xs : List Value} (h : Reads S w (.slice sa n c) n xs) (hn : 0 < xs.length) :
  ∃ g off, sa = some ⟨g, off, none⟩ /\ g < w.heap.size /\ n <= c /\ c <= maxLen /\ ∀ j, (h : j < xs.length) -> w.cell? ⟨g, off + j, none⟩ = some xs[j] := by
 rcases h with ⟨_, _, rfl⟩ | ⟨g, off, cap, hsv, _, hg, hc, hm, hx⟩
 ·simp at hn
 ·simp only [Value.slice.injEq] at hsv
  obtain ⟨rfl, _, rfl⟩ := hsv
  exact ⟨g, off, rfl, hg, hc, hm, hx⟩
theorem Reads.cap_le {S : Nat} {w : World} {sa : Option Addr} {n c : Nat} {xs : List Value} (h : Reads S w (.slice sa n c) n xs) : c <= maxLen := by
 rcases h with ⟨h0, _, _⟩ | ⟨g, off, cap, hsv, _, hg, hc, hm, hx⟩
 ·simp only [Value.slice.injEq] at h0
  rw [h0.2.2]; exact Nat.zero_le _
 ·simp only [Value.slice.injEq] at hsv
  rw [hsv.2.2]; exact hm
end Vg
