/- ceiling: the mutexes of a task (an iterator of pairs), Held, Level. -/
import Derived.Test.YtiinhofmhoplfaaKept
import Derived.Test.YtiinhofmhoplfaaCeilN
set_option linter.unusedSimpArgs false
set_option linter.unusedVariables false
set_option maxHeartbeats 2000000
set_option maxRecDepth 100000
namespace Vg
open Go
/-- Is mutex i of the task? -/
def Tb.isOf (M : List Mx) (task : Int) (i : Nat) : Bool := match M[i]? with | none => false | some x => x.held && decide (x.who = task)
def Tb.of (M : List Mx) (task : Int) (k : Nat) : List Nat := (List.range k).filter (Tb.isOf M task)
theorem Tb.of_succ (M : List Mx) (task : Int) (k : Nat) : Tb.of M task (k + 1) = Tb.of M task k ++ if Tb.isOf M task k = true then [k] else [] := by
  unfold Tb.of
  rw [List.range_succ, List.filter_append]
  congr 1
  by_cases h : Tb.isOf M task k = true
  · simp [h]
  · simp [h]
theorem Tb.of_len (M : List Mx) (task : Int) (k : Nat) : (Tb.of M task k).length ≤ k := by
  unfold Tb.of
  have := List.length_filter_le (Tb.isOf M task) (List.range k)
  simpa using this
theorem Tb.of_lt {M : List Mx} {task : Int} {k i : Nat} (h : i ∈ Tb.of M task k) : i < k := by
  unfold Tb.of at h
  simp at h; exact h.1
def Tb.level (M : List Mx) : List Nat → Int → Int
  | [], p => p
  | i :: l, p => Tb.level M l (max p ((M[i]?.getD ⟨0, false, 0⟩).c))
theorem Tb.level_snoc (M : List Mx) : ∀ (l : List Nat) (i : Nat) (p : Int), Tb.level M (l ++ [i]) p = max (Tb.level M l p) ((M[i]?.getD ⟨0, false, 0⟩).c)
  | [], i, p => rfl
  | j :: l, i, p => by simp only [List.cons_append, Tb.level]; exact Tb.level_snoc M l i _
/-- How a round ends, whatever it is handed. -/
def EndsA {α : Type} (S : Nat → Prop) (J Jx : List α → World → Prop) (l : List α) (W1 : World) (v : Bool) (W' : World) : Prop :=
  (v = true ∧ J l W' ∧ Kept S W1 W') ∨ (v = false ∧ Jx l W')
theorem abides_grows {β : Type} {B : Nat} {J : β → World → Prop} (hJ : AbidesFrom B J) {s : β} {W W' : World} (h : J s W) (hg : Grows W W') : J s W' :=
  hJ s W W' none h ⟨hg.below.os, hg.below.tape, hg.below.output, hg.size, fun k hk _ => hg.below.block k hk⟩ (fun _ e => by cases e)
end Vg
namespace Go.Proofs.Ytiinhofmhoplfaa
open Go.ChangeShapes Go.WideShapes Go.ChangeAt Go.RowKit Go.Shelf
attribute [local go_sem] Oper.semAt_some
def mxV (M : List Vg.Mx) (i : Nat) : Value := .agg #[.int .i64 (M[i]?.getD ⟨0, false, 0⟩).c, .bool (M[i]?.getD ⟨0, false, 0⟩).held, .int .i64 (M[i]?.getD ⟨0, false, 0⟩).who]
theorem ceil_of (b : Nat) (task : Int) (w : World) :
    Calls Try.prog 98 #[.pointer (some ⟨b, 0, none⟩), .int .i64 task] w fun e w' => e = .returned (.func (.func 130) #[] #[.pointer (some ⟨w.heap.size, 0, none⟩), .pointer (some ⟨w.heap.size + 1, 0, none⟩)]) ∧ w' = (w.alloc (.cells #[.pointer (some ⟨b, 0, none⟩)] 52)).alloc (.cells #[.int .i64 task] 3) := by
  go_enter Try.func98, Try.ntmps98
  go_wp2
  go_ret
  exact ⟨rfl, rfl⟩
theorem of_stops (k : Nat) (hk : 1 ≤ k) (S : Nat → Prop) (B1 B2 b B : Nat) (M : List Vg.Mx) (v : Value) (task : Int) (w : World) (hS1 : S b) (hS2 : ∀ j, v.ownBlock = some j → S j) (hS3 : S B1) (hS4 : S B2) (hlt : ∀ k, S k → k < w.heap.size)
    (hc1 : Vg.blk w B1 = some (.cells #[.pointer (some ⟨b, 0, none⟩)] 52)) (hc2 : Vg.blk w B2 = some (.cells #[.int .i64 task] 3)) (hce : CE w b B M v) :
    SeqStopsK Fence.wide k Try.prog 130 #[.pointer (some ⟨B1, 0, none⟩), .pointer (some ⟨B2, 0, none⟩)] (fun i : Nat => #[.int .i64 i, mxV M i]) (Vg.Kept S) (fun xs => xs = Vg.Tb.of M task M.length) (fun _ => True) M.length w := fun l J Jx W hW hJ hJx hY hJ0 => by
  have kW : Vg.Kept S w W := Vg.Kept.of_below hW hlt
  obtain ⟨sa, sc, rfl⟩ := hce.shape
  have D1 := Lib.hid (kW.blk hc1 hS3)
  have D2 := Lib.hid (kW.blk hc2 hS4)
  have D3 := Lib.hid (hce.kept (w' := W) (kW.block b hS1) (fun j hj => kW.block j (hS2 j hj)))
  obtain ⟨n, hn⟩ : ∃ n, M.length = n := ⟨_, rfl⟩
  have e1 := Vg.cells_of D1.out 0
  have e2 := Vg.cells_of D2.out 0
  have e3 := Vg.cells_of D3.out.1 0
  simp at e1 e2 e3
  rw [hn] at e3
  rw [hn] at hY ⊢
  have hcm : n ≤ 9223372036854775807 := by
    rcases D3.out.2.reads with ⟨_, h0, _⟩ | ⟨g, off, cap, _, _, _, h4, h5, _⟩
    · omega
    · have : cap ≤ 9223372036854775807 := h5
      omega
  have H_hn := Lib.hid hn; clear hn
  refine callsIn_of_wp Try.func130 rfl trivial ?_ rfl
  simp only [Try.ntmps130, List.size_toArray, List.length_cons, List.length_nil, Nat.reduceAdd, Nat.reduceSub, Array.replicate_succ, Array.replicate_zero, List.push_toArray, List.append_toArray, List.nil_append, List.cons_append]
  gi_wp2
  gi_loopw [11] (fun i wr => ∃ j : Nat, j ≤ n ∧ i = .int .i64 j ∧ J (Vg.Tb.of M task j) wr ∧ Vg.Kept S W wr) (fun i _ => n - (intOf i).toNat)
  case atStart => exact ⟨0, by omega, rfl, hJ0, Vg.Kept.refl _ _⟩
  case round =>
    obtain ⟨j, hj, rfl, hJj, hkp⟩ := hrel
    have d1 := hkp.blk D1.out hS3
    have d2 := hkp.blk D2.out hS4
    have d3 := D3.out.kept (w' := wr) (hkp.block b hS1) (fun j hj => hkp.block j (hS2 j hj))
    by_cases hjl : j < n
    · have hjM : j < M.length := by rw [H_hn.out]; exact hjl
      obtain ⟨g, o, c, hv, hg1, hg2, hc1, hc2, c0, c1, c2⟩ := d3.2.mutex j hjM
      simp only [Value.slice.injEq, true_and] at hv
      obtain ⟨rfl, rfl⟩ := hv
      have hcn : n ≤ sc := by rw [← H_hn.out]; exact hc1
      obtain ⟨x, hx⟩ : ∃ x, M[j] = x := ⟨_, rfl⟩
      rw [hx] at c0 c1 c2
      obtain ⟨xc, xh, xw⟩ := x
      simp only [] at c0 c1 c2
      have hmj : M[j]? = some ⟨xc, xh, xw⟩ := by rw [List.getElem?_eq_getElem hjM, hx]
      have hsn := Vg.Tb.of_succ M task j
      have hol := Vg.Tb.of_len M task j
      have c10 := Vg.cells_of d1 0
      have c20 := Vg.cells_of d2 0
      have hB1 := Vg.lt_of d1
      have hB2 := Vg.lt_of d2
      have hbl := Vg.lt_of d3.1
      simp at c10 c20
      cases xh with
      | false =>
        have ho : Vg.Tb.isOf M task j = false := by unfold Vg.Tb.isOf; rw [hmj]; rfl
        rw [ho] at hsn
        simp only [Bool.false_eq_true, if_false, List.append_nil] at hsn
        have H_d1 := Lib.hid d1; clear d1; have H_d2 := Lib.hid d2; clear d2; have H_d3 := Lib.hid d3; clear d3; have H_hsn := Lib.hid hsn; clear hsn; have H_hx := Lib.hid hx; clear hx; have H_hmj := Lib.hid hmj; clear hmj; have H_ho := Lib.hid ho; clear ho; have H_hol := Lib.hid hol; clear hol
        gi_wp2
        refine ⟨fun _ h => (by cases h), ?_⟩
        gi_wp2
        go_roundw
        case rel => exact ⟨j + 1, by omega, by go_num, by rw [H_hsn.out]; exact Vg.abides_grows hJ hJj ((Vg.Grows.refl _).alloc _), hkp.trans ⟨by simp, fun z hz => Below.heap_alloc _ _ _ (by have := hlt z hz; have := hkp.size; have := hW.size; omega)⟩⟩
        case measure => simp [intOf]; omega
      | true =>
        by_cases ht : xw = task
        · subst ht
          have ho : Vg.Tb.isOf M xw j = true := by unfold Vg.Tb.isOf; rw [hmj]; simp
          rw [ho, if_pos rfl] at hsn
          have hmx : mxV M j = .agg #[.int .i64 xc, .bool true, .int .i64 xw] := by unfold mxV; rw [hmj]; rfl
          have hJa := Vg.abides_grows hJ hJj ((Vg.Grows.refl wr).alloc (.cells #[.int .i64 xc, .bool true, .int .i64 xw] 161))
          have hy0 := hY (Vg.Tb.of M xw j) j (wr.alloc (.cells #[.int .i64 xc, .bool true, .int .i64 xw] 161)) hJa (by omega)
          obtain ⟨fn, tmps, assign, body, hy, hR⟩ := hy0
          rw [hmx] at hy
          rw [← hsn] at hR
          have htb : (xw == xw) = true := by simp
          have hal : Vg.Kept S wr (wr.alloc (.cells #[.int .i64 xc, .bool true, .int .i64 xw] 161)) := ⟨by simp, fun z hz => Below.heap_alloc _ _ _ (by have := hlt z hz; have := hkp.size; have := hW.size; omega)⟩
          have H_d1 := Lib.hid d1; clear d1; have H_d2 := Lib.hid d2; clear d2; have H_d3 := Lib.hid d3; clear d3; have H_hsn := Lib.hid hsn; clear hsn; have H_hx := Lib.hid hx; clear hx; have H_hmj := Lib.hid hmj; clear hmj; have H_ho := Lib.hid ho; clear ho; have H_hol := Lib.hid hol; clear hol; have H_hmx := Lib.hid hmx; clear hmx
          gi_wp2
          refine hR.mono ?_
          rintro e W3 (⟨rfl, hJ3, hk3⟩ | ⟨rfl, hJx3⟩)
          · gi_wp2
            go_roundw
            case rel => exact ⟨j + 1, by omega, by go_num, hJ3, hkp.trans (hal.trans hk3)⟩
            case measure => simp [intOf]; omega
          · gi_wp2
            refine bodyPost_ret (results_none rfl _ _ _) rfl ?_
            exact ⟨⟨_, rfl⟩, .inr ⟨_, trivial, hJx3⟩⟩
        · have ho : Vg.Tb.isOf M task j = false := by unfold Vg.Tb.isOf; rw [hmj]; simp [ht]
          rw [ho] at hsn
          simp only [Bool.false_eq_true, if_false, List.append_nil] at hsn
          have htb : (xw == task) = false := by simp [ht]
          have H_d1 := Lib.hid d1; clear d1; have H_d2 := Lib.hid d2; clear d2; have H_d3 := Lib.hid d3; clear d3; have H_hsn := Lib.hid hsn; clear hsn; have H_hx := Lib.hid hx; clear hx; have H_hmj := Lib.hid hmj; clear hmj; have H_ho := Lib.hid ho; clear ho; have H_hol := Lib.hid hol; clear hol; have H_ht := Lib.hid ht; clear ht
          gi_wp2
          refine ⟨fun _ h => (by cases h), ?_⟩
          gi_wp2
          go_roundw
          case rel => exact ⟨j + 1, by omega, by go_num, by rw [H_hsn.out]; exact Vg.abides_grows hJ hJj ((Vg.Grows.refl _).alloc _), hkp.trans ⟨by simp, fun z hz => Below.heap_alloc _ _ _ (by have := hlt z hz; have := hkp.size; have := hW.size; omega)⟩⟩
          case measure => simp [intOf]; omega
    · have hje : j = n := by omega
      subst hje
      clear d1 d2 d3
      gi_wp2
      go_end0
      exact ⟨⟨_, rfl⟩, .inl ⟨_, rfl, hJj⟩⟩
end Go.Proofs.Ytiinhofmhoplfaa
