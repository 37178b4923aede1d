/- Sup, Dem, DemL, SupL, DemA, DemI, DemB, DemM, put together (a claim has at most 60 files). -/
import Derived.Test.YtekjnagojphmkaaDoorBotL
import Derived.Test.YtekjnagojphmkaaDoorIrqH
import Derived.RangeFuncWrites
set_option linter.unusedSimpArgs false
set_option linter.unusedVariables false
set_option maxHeartbeats 40000000
set_option maxRecDepth 100000
namespace Vg
open Go
def cost1 (n : Int) : Bool := decide (1 ≤ n) && decide (n ≤ 1099511627776)
def served1 (b p : Int) : Bool := decide (1 ≤ b) && decide (b ≤ p) && cost1 p
def masked1 (m w : Int) : Bool := decide (1 ≤ m) && decide (m ≤ 64) && cost1 w
end Vg
namespace Go.Proofs.YtekjnagojphmkaaDoor
open Go.ChangeShapes Go.WideShapes Go.ChangeAt Go.RowKit
theorem sup_cost (n : Int) (w : World) : Calls Tryd.prog 44 #[.int .i64 n] w fun e w' => e = .returned (.bool (Vg.cost1 n)) ∧ w = w' := by
  by_cases h2 : n < 1
  · go_enter Tryd.func44, Tryd.ntmps44
    go_wp2
    go_ret
    exact ⟨ret_bool (by simp [Vg.cost1]; try omega), rfl⟩
  · skip
    by_cases h4 : 1099511627776 < n
    · go_enter Tryd.func44, Tryd.ntmps44
      go_wp2
      go_ret
      exact ⟨ret_bool (by simp [Vg.cost1]; try omega), rfl⟩
    · skip
      go_enter Tryd.func44, Tryd.ntmps44
      go_wp2
      go_ret
      exact ⟨ret_bool (by simp [Vg.cost1]; try omega), rfl⟩
theorem sup_served (pr b p d : Int) (w : World) : Calls Tryd.prog 74 #[.agg #[.int .i64 pr, .int .i64 b, .int .i64 p, .int .i64 d]] w fun e w' => e = .returned (.bool (Vg.served1 b p)) ∧ w' = w.alloc (.cells #[.int .i64 pr, .int .i64 b, .int .i64 p, .int .i64 d] 112) := by
  by_cases h2 : b < 1
  · go_enter Tryd.func74, Tryd.ntmps74
    go_wp2
    go_ret
    exact ⟨ret_bool (by simp [Vg.served1, *]; try omega), rfl⟩
  · skip
    by_cases h4 : p < b
    · go_enter Tryd.func74, Tryd.ntmps74
      go_wp2
      go_ret
      exact ⟨ret_bool (by simp [Vg.served1, *]; try omega), rfl⟩
    · skip
      go_enter Tryd.func74, Tryd.ntmps74
      go_wp2_with ((go_at_call 44; refine (sup_cost _ _).mono ?_; rintro e w' ⟨rfl, rfl⟩))
      go_ret
      exact ⟨ret_bool (by simp [Vg.served1, *]; try omega), rfl⟩
theorem sup_masked (pr t m wi : Int) (w : World) : Calls Tryd.prog 75 #[.agg #[.int .i64 pr, .int .i64 t, .int .i64 m, .int .i64 wi]] w fun e w' => e = .returned (.bool (Vg.masked1 m wi)) ∧ w' = w.alloc (.cells #[.int .i64 pr, .int .i64 t, .int .i64 m, .int .i64 wi] 62) := by
  by_cases h2 : m < 1
  · go_enter Tryd.func75, Tryd.ntmps75
    go_wp2
    go_ret
    exact ⟨ret_bool (by simp [Vg.masked1, *]; try omega), rfl⟩
  · skip
    by_cases h4 : 64 < m
    · go_enter Tryd.func75, Tryd.ntmps75
      go_wp2
      go_ret
      exact ⟨ret_bool (by simp [Vg.masked1, *]; try omega), rfl⟩
    · skip
      go_enter Tryd.func75, Tryd.ntmps75
      go_wp2_with ((go_at_call 44; refine (sup_cost _ _).mono ?_; rintro e w' ⟨rfl, rfl⟩))
      go_ret
      exact ⟨ret_bool (by simp [Vg.masked1, *]; try omega), rfl⟩
theorem sup_steady (p n : Int) (w : World) : Calls Tryd.prog 43 #[.int .i64 p, .int .i64 n] w fun e w' => e = .returned (.agg #[.int .i64 p, .int .i64 0, .int .i64 p, .int .i64 n]) ∧ Vg.Grows w w' := by
  go_enter Tryd.func43, Tryd.ntmps43
  go_wp2
  go_returns
  exact ⟨rfl, by (repeat' (first | (with_reducible exact Vg.Grows.refl _) | (with_reducible assumption) | (with_reducible refine Vg.Grows.alloc ?_ _) | (with_reducible refine Vg.Grows.plus ?_ _ _) | (with_reducible refine Vg.Grows.drewN ?_ _) | (with_reducible refine Vg.Grows.drew ?_) | (with_reducible refine Vg.Grows.setCell ?_ ?_ _) | (with_reducible refine Vg.Grows.put ?_ ?_ _) | omega | (simp; omega) | (simp; done)))⟩
end Go.Proofs.YtekjnagojphmkaaDoor
namespace Vg
open Go
/-- How many periods a time has begun. -/
def up (p x : Int) : Int := (x + p - 1) / p
end Vg
namespace Go.Proofs.YtekjnagojphmkaaDoor
open Go.ChangeShapes Go.WideShapes Go.ChangeAt Go.RowKit
theorem cur_time (t : Int) (w : World) (h0 : 0 ≤ t) (h1 : t ≤ 4503599627370496) : Calls Tryd.prog 93 #[.int .i64 t] w fun e w' => e = .returned (.bool true) ∧ w = w' := by
  go_enter Tryd.func93, Tryd.ntmps93
  go_wp2
  go_ret
  exact ⟨ret_bool (by simp; try omega), rfl⟩
theorem cur_parts (t p : Int) (w : World) (h0 : 0 ≤ t) (h1 : t ≤ 4503599627370496) (hp : 1 ≤ p) (hp1 : p ≤ 1099511627776) : Calls Tryd.prog 94 #[.int .i64 t, .int .i64 p] w fun e w' => e = .returned (.int .i64 (Vg.up p t)) ∧ w = w' := by
  have e1 : IntKind.i64.wrap (t + p) = t + p := by rw [IntKind.wrap_i64]; omega
  have e2 : IntKind.i64.wrap (t + p - 1) = t + p - 1 := by rw [IntKind.wrap_i64]; omega
  have hq : (t + p - 1).tdiv p = (t + p - 1) / p := Int.tdiv_eq_ediv_of_nonneg (by omega)
  go_enter Tryd.func94, Tryd.ntmps94
  have hd0 : 0 ≤ (t + p - 1) / p := Int.ediv_nonneg (by omega) (by omega)
  have hd1 : (t + p - 1) / p ≤ t + p - 1 := Int.ediv_le_self _ (by omega)
  have hw : wrap64 ((t + p - 1) / p) = (t + p - 1) / p := by unfold wrap64; omega
  go_wp2
  go_ret
  exact ⟨rfl, rfl⟩
theorem cur_check (p : Int) (w : World) (hp : 1 ≤ p) (hp1 : p ≤ 1099511627776) : Calls Tryd.prog 92 #[.agg #[.int .i64 p, .int .i64 0, .int .i64 p]] w fun e w' => e = .returned (.int .i64 0) ∧ Vg.Grows w w' := by
  go_enter Tryd.func92, Tryd.ntmps92
  go_wp2
  go_returns
  exact ⟨rfl, by (repeat' (first | (with_reducible exact Vg.Grows.refl _) | (with_reducible assumption) | (with_reducible refine Vg.Grows.alloc ?_ _) | (with_reducible refine Vg.Grows.plus ?_ _ _) | (with_reducible refine Vg.Grows.drewN ?_ _) | (with_reducible refine Vg.Grows.drew ?_) | (with_reducible refine Vg.Grows.setCell ?_ ?_ _) | (with_reducible refine Vg.Grows.put ?_ ?_ _) | omega | (simp; omega) | (simp; done)))⟩
theorem cur_most (p x : Int) (w : World) (hp : 1 ≤ p) (hp1 : p ≤ 1099511627776) (h0 : 0 ≤ x) (h1 : x ≤ 4503599627370496) :
    Calls Tryd.prog 85 #[.agg #[.int .i64 p, .int .i64 0, .int .i64 p], .int .i64 x] w fun e w' => e = .returned (.tuple #[.int .i64 (if x = 0 then 0 else Vg.up p x), .int .i64 0]) ∧ Vg.Grows w w' := by
  by_cases hx : x = 0
  · subst hx
    go_enter Tryd.func85, Tryd.ntmps85
    go_wp2_with (first | ((go_at_call 92; refine (cur_check _ _ hp hp1).mono ?_; rintro e1 w1 ⟨rfl, hg1⟩; have hg2 := ((Vg.Grows.refl w).alloc _).trans hg1; clear hg1)) | ((go_at_call 93; refine (cur_time _ _ h0 h1).mono ?_; rintro e2 w2 ⟨rfl, rfl⟩)) | ((go_at_call 94; refine (cur_parts _ _ _ h0 h1 hp hp1).mono ?_; rintro e3 w3 ⟨rfl, rfl⟩)))
    go_returns
    exact ⟨rfl, by (repeat' (first | (with_reducible exact Vg.Grows.refl _) | (with_reducible assumption) | (with_reducible refine Vg.Grows.alloc ?_ _) | (with_reducible refine Vg.Grows.plus ?_ _ _) | (with_reducible refine Vg.Grows.drewN ?_ _) | (with_reducible refine Vg.Grows.drew ?_) | (with_reducible refine Vg.Grows.setCell ?_ ?_ _) | (with_reducible refine Vg.Grows.put ?_ ?_ _) | omega | (simp; omega) | (simp; done)))⟩
  · rw [if_neg hx]
    have hw0 : IntKind.i64.wrap (x + 0) = x := by rw [IntKind.wrap_i64]; omega
    have hw1 : IntKind.i64.wrap x = x := by rw [IntKind.wrap_i64]; omega
    have hq : ∀ wz : World, Calls Tryd.prog 94 #[.int .i64 x, .int .i64 p] wz fun e w' => e = .returned (.int .i64 (Vg.up p x)) ∧ wz = w' := fun wz => cur_parts x p wz h0 h1 hp hp1
    go_enter Tryd.func85, Tryd.ntmps85
    go_upto_region 8 with (first | ((go_at_call 92; (with_reducible refine (cur_check _ _ hp hp1).mono ?_); rintro e1 w1 ⟨rfl, hg1⟩)) | ((go_at_call 93; (with_reducible refine (cur_time _ _ h0 h1).mono ?_); rintro e2 w2 ⟨rfl, rfl⟩)))
    have hg0 : Vg.Grows w w1 := ((Vg.Grows.refl w).alloc _).trans hg1
    have x1 : Vg.blk w1 w.heap.size = some (.cells #[.int .i64 p, .int .i64 0, .int .i64 p] 114) := hg1.blk (Vg.alloc_heap_at rfl)
    obtain ⟨bx, hbx⟩ : ∃ bx, w.heap.size = bx := ⟨_, rfl⟩
    rw [hbx] at x1
    simp only [hbx]
    have c_x1 := Vg.cells_of x1; have f_x1 := Vg.frozen_of x1; have p_x1 := Vg.setCell_of x1; have l_x1 := Vg.lt_of x1; have H_x1 := Lib.hid x1; clear x1
    have H_hg1 := Lib.hid hg1; clear hg1; have H_hg0 := Lib.hid hg0; clear hg0; have H_hq := Lib.hid hq; clear hq; have H_hbx := Lib.hid hbx; clear hbx
    refine wp_region_held_drew (S := fun w' => bx < w'.heap.size ∧ w'.cell? ⟨bx, 0, none⟩ = some (.int .i64 p) ∧ w'.cell? ⟨bx, 1, none⟩ = some (.int .i64 0) ∧ w'.cell? ⟨bx, 2, none⟩ = some (.int .i64 p)) (by kernel_rfl) (by go_split_ands <;> (try dsimp only) <;> go_simp) (fun hHeld => ?_)
    refine wpAnyH_take (i := 0) (oi := _) (v := ?v1) rfl (by kernel_rfl) (by kernel_rfl) (by kernel_rfl) (fun _ _ _ h => h) (Or.inl ⟨by rfl, ?hy1⟩) (by assumption) ?rest1
    case hy1 => (intro w hSw; (try dsimp only at hSw); go_simp; first | done | with_reducible rfl)
    (try simp only [List.getElem_toArray, List.getElem_cons_succ, List.getElem_cons_zero, Act.put, List.setIfInBounds_toArray, List.set_cons_zero, List.set_cons_succ])
    refine wpAnyH_take (i := 1) (oi := _) (v := ?v2) rfl (by kernel_rfl) (by kernel_rfl) (by kernel_rfl) (fun _ _ _ h => h) (Or.inl ⟨by rfl, ?hy2⟩) (by assumption) ?rest2
    case hy2 => (intro w hSw; (try dsimp only at hSw); go_simp; first | done | with_reducible rfl)
    (try simp only [List.getElem_toArray, List.getElem_cons_succ, List.getElem_cons_zero, Act.put, List.setIfInBounds_toArray, List.set_cons_zero, List.set_cons_succ])
    refine wpAnyH_take (i := 2) (oi := _) (v := ?v3) rfl (by kernel_rfl) (by kernel_rfl) (by kernel_rfl) (fun _ _ _ h => h) (Or.inl ⟨by rfl, ?hy3⟩) (by assumption) ?rest3
    case hy3 => (intro w hSw; (try dsimp only at hSw); go_simp; first | done | with_reducible rfl)
    (try simp only [List.getElem_toArray, List.getElem_cons_succ, List.getElem_cons_zero, Act.put, List.setIfInBounds_toArray, List.set_cons_zero, List.set_cons_succ])
    refine wpAnyH_take (i := 3) (oi := _) (v := ?v4) rfl (by kernel_rfl) (by kernel_rfl) (by kernel_rfl) (fun _ _ _ h => h) (Or.inl ⟨by rfl, ?hy4⟩) (by assumption) ?rest4
    case hy4 => (intro w hSw; (try dsimp only at hSw); go_simp; first | done | with_reducible rfl)
    (try simp only [List.getElem_toArray, List.getElem_cons_succ, List.getElem_cons_zero, Act.put, List.setIfInBounds_toArray, List.set_cons_zero, List.set_cons_succ])
    refine wpAnyH_take (i := 4) (oi := _) (v := ?v5) rfl (by kernel_rfl) (by kernel_rfl) (by kernel_rfl) (fun _ _ _ h => h) (Or.inl ⟨by rfl, ?hy5⟩) (by assumption) ?rest5
    case hy5 => (intro w hSw; (try dsimp only at hSw); go_simp; first | done | with_reducible rfl)
    (try simp only [List.getElem_toArray, List.getElem_cons_succ, List.getElem_cons_zero, Act.put, List.setIfInBounds_toArray, List.set_cons_zero, List.set_cons_succ])
    refine wpAnyH_take (i := 5) (oi := _) (v := ?v6) rfl (by kernel_rfl) (by kernel_rfl) (by kernel_rfl) (fun _ _ _ h => h) (Or.inl ⟨by rfl, ?hy6⟩) (by assumption) ?rest6
    case hy6 => (intro w hSw; (try dsimp only at hSw); go_simp; first | done | with_reducible rfl)
    (try simp only [List.getElem_toArray, List.getElem_cons_succ, List.getElem_cons_zero, Act.put, List.setIfInBounds_toArray, List.set_cons_zero, List.set_cons_succ])
    refine wpAnyH_take (i := 7) (oi := _) (v := ?v7) rfl (by kernel_rfl) (by kernel_rfl) (by kernel_rfl) (fun _ _ _ h => h) (Or.inl ⟨by rfl, ?hy7⟩) (by assumption) ?rest7
    case hy7 => (intro w hSw; (try dsimp only at hSw); go_simp; first | done | with_reducible rfl)
    (try simp only [List.getElem_toArray, List.getElem_cons_succ, List.getElem_cons_zero, Act.put, List.setIfInBounds_toArray, List.set_cons_zero, List.set_cons_succ])
    refine wpAnyH_take (i := 8) (oi := _) (v := ?v8) rfl (by kernel_rfl) (by kernel_rfl) (by kernel_rfl) (fun _ _ _ h => h) (Or.inl ⟨by rfl, ?hy8⟩) (by assumption) ?rest8
    case hy8 => (intro w hSw; (try dsimp only at hSw); go_simp; first | done | with_reducible rfl)
    (try simp only [List.getElem_toArray, List.getElem_cons_succ, List.getElem_cons_zero, Act.put, List.setIfInBounds_toArray, List.set_cons_zero, List.set_cons_succ])
    refine wpAnyH_take (i := 9) (oi := _) (v := ?v9) rfl (by kernel_rfl) (by kernel_rfl) (by kernel_rfl) (fun _ _ _ h => h) (Or.inl ⟨by rfl, ?hy9⟩) (by assumption) ?rest9
    case hy9 => (intro w hSw; (try dsimp only at hSw); go_simp; first | done | with_reducible rfl)
    (try simp only [List.getElem_toArray, List.getElem_cons_succ, List.getElem_cons_zero, Act.put, List.setIfInBounds_toArray, List.set_cons_zero, List.set_cons_succ])
    refine wpAnyH_ready (rs := [6]) (by kernel_rfl) (by simp) ?_
    refine AllReadyH.cons (o := _) rfl (fun K hK => ?st10) ?mo10
    case st10 =>
      go_simp
      ((go_at_call 94; (with_reducible refine (H_hq.out _).mono ?_); rintro e7 w7 ⟨rfl, rfl⟩))
      all_goals (try go_wp2_with fail)
      refine hK.out _ _ (by go_split_ands <;> (try dsimp only) <;> go_simp) (fun hHeld10 => ?_)
      clear hK K
      (try simp only [List.getElem_toArray, List.getElem_cons_succ, List.getElem_cons_zero, Act.put, List.setIfInBounds_toArray, List.set_cons_zero, List.set_cons_succ])
      refine wpAnyH_ready (rs := [10]) (by kernel_rfl) (by simp) ?_
      refine AllReadyH.cons (o := _) rfl (fun K hK => ?st11) ?mo11
      case st11 =>
        go_simp
        ((go_at_call 94; (with_reducible refine (H_hq.out _).mono ?_); rintro e8 w8 ⟨rfl, rfl⟩))
        all_goals (try go_wp2_with fail)
        refine hK.out _ _ (by go_split_ands <;> (try dsimp only) <;> go_simp) (fun hHeld11 => ?_)
        clear hK K
        (try simp only [List.getElem_toArray, List.getElem_cons_succ, List.getElem_cons_zero, Act.put, List.setIfInBounds_toArray, List.set_cons_zero, List.set_cons_succ])
        refine wpAnyH_take (i := 11) (oi := _) (v := ?v12) rfl (by kernel_rfl) (by kernel_rfl) (by kernel_rfl) (fun _ _ _ h => h) (Or.inl ⟨by rfl, ?hy12⟩) (by assumption) ?rest12
        case hy12 => (intro w hSw; (try dsimp only at hSw); go_simp; first | done | with_reducible rfl)
        (try simp only [List.getElem_toArray, List.getElem_cons_succ, List.getElem_cons_zero, Act.put, List.setIfInBounds_toArray, List.set_cons_zero, List.set_cons_succ])
        refine wpAnyH_take (i := 12) (oi := _) (v := ?v13) rfl (by kernel_rfl) (by kernel_rfl) (by kernel_rfl) (fun _ _ _ h => h) (Or.inl ⟨by rfl, ?hy13⟩) (by assumption) ?rest13
        case hy13 => (intro w hSw; (try dsimp only at hSw); go_simp; first | done | with_reducible rfl)
        (try simp only [List.getElem_toArray, List.getElem_cons_succ, List.getElem_cons_zero, Act.put, List.setIfInBounds_toArray, List.set_cons_zero, List.set_cons_succ])
        refine wpAnyH_take (i := 13) (oi := _) (v := ?v14) rfl (by kernel_rfl) (by kernel_rfl) (by kernel_rfl) (fun _ _ _ h => h) (Or.inl ⟨by rfl, ?hy14⟩) (by assumption) ?rest14
        case hy14 => (intro w hSw; (try dsimp only at hSw); go_simp; first | done | with_reducible rfl)
        (try simp only [List.getElem_toArray, List.getElem_cons_succ, List.getElem_cons_zero, Act.put, List.setIfInBounds_toArray, List.set_cons_zero, List.set_cons_succ])
        refine wpAnyH_done (by kernel_rfl) ?_ _
        go_wp2_with fail
        go_returns
        exact ⟨by simp, by first | exact H_hg0.out | exact H_hg0.out.drew | (repeat' (first | (with_reducible exact Vg.Grows.refl _) | (with_reducible assumption) | (with_reducible refine Vg.Grows.alloc ?_ _) | (with_reducible refine Vg.Grows.plus ?_ _ _) | (with_reducible refine Vg.Grows.drewN ?_ _) | (with_reducible refine Vg.Grows.drew ?_) | (with_reducible refine Vg.Grows.setCell ?_ ?_ _) | (with_reducible refine Vg.Grows.put ?_ ?_ _) | omega | (simp; omega) | (simp; done)))⟩
      exact AllReadyH.nil
    exact AllReadyH.nil
end Go.Proofs.YtekjnagojphmkaaDoor
namespace Vg
open Go
theorem Bo.put_len (n : Nat) (Q : List Wq) (i c : Int) : (Bo.put n Q i c).1.length = Q.length := by
  unfold Bo.put
  split
  · rfl
  · exact Wk.put_len Q i c
theorem Bo.Inv.put {k n : Nat} {Bs : List Bp} {Q : List Wq} (h : Bo.Inv k Bs Q) (i c : Int) : Bo.Inv (k + 1) Bs (Bo.put n Q i c).1 := by
  refine ⟨h.each, ?_, ?_⟩
  · unfold Bo.put
    split
    · exact h.wk.mono (Nat.le_succ k)
    · exact h.wk.put i c
  · rw [Bo.put_len]; exact h.len
theorem Bo.Inv.mono {k k' : Nat} {Bs : List Bp} {Q : List Wq} (h : Bo.Inv k Bs Q) (hk : k ≤ k') : Bo.Inv k' Bs Q := ⟨h.each, h.wk.mono hk, h.len⟩
theorem Bo.run_cases (Bs : List Bp) (Q : List Wq) (i n en : Int) : (∃ b r, Bo.run Bs Q i n en = (Bs, Q, b, r) ∧ (r = 1 ∨ r = 7)) ∨
    ∃ (j : Nat) (hj : j < Bs.length), i = j ∧ 0 ≤ n ∧ n ≤ Bo.left Bs Q j ∧ Bo.able Bs Q j = true ∧
      (((Bs[j].s.use Bs[j].t.bu Bs[j].t.pe n en).2 ≠ 0 ∧ Bo.run Bs Q i n en = (Bs.set j ⟨Bs[j].t, (Bs[j].s.use Bs[j].t.bu Bs[j].t.pe n en).1⟩, Q, false, (Bs[j].s.use Bs[j].t.bu Bs[j].t.pe n en).2)) ∨
       ((Bs[j].s.use Bs[j].t.bu Bs[j].t.pe n en).2 = 0 ∧ Bo.run Bs Q i n en = (Bs.set j ⟨Bs[j].t, (Bs[j].s.use Bs[j].t.bu Bs[j].t.pe n en).1⟩, (Wk.go Q i n).1, (Wk.go Q i n).2.1, (Wk.go Q i n).2.2))) := by
  by_cases ho : i < 0 ∨ (Bs.length : Int) ≤ i
  · exact .inl ⟨_, _, Bo.run_out ho, .inl rfl⟩
  · obtain ⟨j, rfl⟩ : ∃ j : Nat, i = j := ⟨i.toNat, by omega⟩
    have hj : j < Bs.length := by omega
    rw [Bo.run_in hj]
    by_cases h1 : n < 0 ∨ Bo.left Bs Q j < n
    · rw [if_pos h1]; exact .inl ⟨_, _, rfl, .inl rfl⟩
    · rw [if_neg h1]
      cases hab : Bo.able Bs Q j with
      | false => rw [if_pos rfl]; exact .inl ⟨_, _, rfl, .inr rfl⟩
      | true =>
        rw [if_neg (by simp)]
        refine .inr ⟨j, hj, rfl, by omega, by omega, hab, ?_⟩
        by_cases h2 : (Bs[j].s.use Bs[j].t.bu Bs[j].t.pe n en).2 = 0
        · rw [if_neg (by simpa using h2)]; exact .inr ⟨h2, rfl⟩
        · rw [if_pos h2]; exact .inl ⟨h2, rfl⟩
theorem Bo.Inv.setS {k : Nat} {Bs : List Bp} {Q Q' : List Wq} (h : Bo.Inv k Bs Q) (hw : Wk.Inv k Q') (hl : Q'.length = Q.length) {j : Nat} (hj : j < Bs.length) (n en : Int) : Bo.Inv k (Bs.set j ⟨Bs[j].t, (Bs[j].s.use Bs[j].t.bu Bs[j].t.pe n en).1⟩) Q' := by
  refine ⟨fun x hx => ?_, hw, ?_⟩
  · rcases List.mem_or_eq_of_mem_set hx with h1 | h1
    · exact h.each x h1
    · obtain ⟨⟨a1, a2, a3, a4⟩, _⟩ := h.at j hj
      rw [h1]
      exact ⟨a1, a2, a3, Srv.use_inv n en a4 a2⟩
  · rcases h.len with h1 | h1
    · subst h1; simp at hj
    · right; rw [hl, h1, List.length_set]
theorem Bo.Inv.run {k : Nat} {Bs : List Bp} {Q : List Wq} (h : Bo.Inv k Bs Q) (i n en : Int) : Bo.Inv k (Bo.run Bs Q i n en).1 (Bo.run Bs Q i n en).2.1 := by
  rcases Bo.run_cases Bs Q i n en with ⟨b, r, e, _⟩ | ⟨j, hj, rfl, _, _, _, ⟨_, e⟩ | ⟨_, e⟩⟩ <;> rw [e]
  · exact h
  · exact h.setS h.wk rfl hj n en
  · exact h.setS (h.wk.go j n) (Wk.go_len Q j n) hj n en
theorem Bo.run_len (Bs : List Bp) (Q : List Wq) (i n en : Int) : (Bo.run Bs Q i n en).1.length = Bs.length ∧ (Bo.run Bs Q i n en).2.1.length = Q.length := by
  rcases Bo.run_cases Bs Q i n en with ⟨b, r, e, _⟩ | ⟨j, hj, rfl, _, _, _, ⟨_, e⟩ | ⟨_, e⟩⟩ <;> rw [e]
  · exact ⟨rfl, rfl⟩
  · exact ⟨by simp, rfl⟩
  · exact ⟨by simp, Wk.go_len Q j n⟩
theorem Bo.refill_len (Bs : List Bp) (now : Int) : (Bo.refill Bs now).1.length = Bs.length := by
  unfold Bo.refill
  split <;> simp
theorem Bo.Inv.refill {k : Nat} {Bs : List Bp} {Q : List Wq} (h : Bo.Inv k Bs Q) (now : Int) : Bo.Inv k (Bo.refill Bs now).1 Q := by
  refine ⟨fun x hx => ?_, h.wk, ?_⟩
  · unfold Bo.refill at hx
    split at hx
    · obtain ⟨y, hy, rfl⟩ := List.mem_map.1 hx
      obtain ⟨a1, a2, a3, a4⟩ := h.each y hy
      exact ⟨a1, a2, a3, Srv.refill_inv now a4⟩
    · exact h.each x hx
  · rw [Bo.refill_len]
    rcases h.len with h1 | h1
    · left; subst h1; unfold Bo.refill; split <;> rfl
    · exact .inr h1
theorem Bo.refill_ok {Bs : List Bp} {now : Int} (h : ∀ x ∈ Bs, x.s.last ≤ now) (hn : now ≤ 4503599627370496) : Bo.refill Bs now = (Bs.map (Bo.rf now), 0) := by
  unfold Bo.refill
  rw [if_pos (List.all_eq_true.2 fun x hx => by unfold Bo.later; simp; exact ⟨h x hx, hn⟩)]
theorem Bo.able_iff {Bs : List Bp} {Q : List Wq} {j : Nat} (hj : j < Bs.length) : Bo.able Bs Q j = true ↔ 0 < Wk.waiting Q j ∧ 0 < Bs[j].s.left Bs[j].t.bu := by
  rw [Bo.able_in hj]; simp

/-- How many periods a time has begun. -/
def upz (p x : Int) : Int := if x ≤ 0 then 0 else (x + p - 1) / p
theorem upz_nn {p : Int} (hp : 1 ≤ p) (x : Int) : 0 ≤ upz p x := by
  unfold upz
  split
  · omega
  · exact Int.ediv_nonneg (by omega) (by omega)
theorem upz_mono {p x y : Int} (hp : 1 ≤ p) (h : x ≤ y) : upz p x ≤ upz p y := by
  by_cases hx : x ≤ 0
  · have := upz_nn hp y
    unfold upz at this ⊢
    rw [if_pos hx]; exact this
  · unfold upz
    rw [if_neg hx, if_neg (by omega)]
    exact Int.ediv_le_ediv (by omega) (by omega)
theorem upz_back {p x : Int} (hp : 1 ≤ p) (hx : 0 < x) : upz p (x - p) + 1 ≤ upz p x := by
  unfold upz
  rw [if_neg (show ¬ x ≤ 0 by omega)]
  by_cases h : x - p ≤ 0
  · rw [if_pos h]
    have := (Int.le_ediv_iff_mul_le (show 0 < p by omega)).2 (show 1 * p ≤ x + p - 1 by omega)
    omega
  · rw [if_neg h]
    have e : x + p - 1 = (x - p + p - 1) + p := by omega
    rw [e, Int.add_ediv_of_dvd_right (Int.dvd_refl p), Int.ediv_self (by omega)]
    omega
/-- What comes back, each with the periods from then on. -/
def back (p T : Int) : List (Int × Int) → Int
  | [] => 0
  | x :: l => x.2 * upz p (T - x.1) + back p T l
theorem back_append (p T : Int) : ∀ l m : List (Int × Int), back p T (l ++ m) = back p T l + back p T m
  | [], m => by simp [back]
  | x :: l, m => by simp only [List.cons_append, back, back_append p T l m]; omega
theorem back_owe (p T at_ n : Int) (L : List (Int × Int)) : back p T (owe at_ n L) = back p T L + n * upz p (T - at_) := by
  rcases List.eq_nil_or_concat L with rfl | ⟨l, x, rfl⟩
  · simp [owe, back]
  · rw [List.concat_eq_append, owe_snoc]
    split
    · rename_i he
      subst he
      simp only [back_append, back, Int.add_mul]; omega
    · simp only [back_append, back]; omega
theorem back_nn {p : Int} (hp : 1 ≤ p) (T : Int) : ∀ {L : List (Int × Int)}, (∀ x ∈ L, 0 ≤ x.2) → 0 ≤ back p T L
  | [], _ => Int.le_refl _
  | x :: l, h => by
    have h1 := back_nn hp T (L := l) fun y hy => h y (by simp [hy])
    have h2 := Int.mul_nonneg (h x (by simp)) (upz_nn hp (T - x.1))
    simp only [back]; omega
/-- What is due by now comes back: the potential does not grow. -/
theorem back_due {p now T : Int} (hp : 1 ≤ p) : ∀ {L : List (Int × Int)}, (∀ x ∈ L, 0 ≤ x.2) → back p T (due now L).2 - owed (due now L).2 * upz p (T - now) ≤ back p T L - owed L * upz p (T - now)
  | [], _ => by simp [due, back, owed]
  | x :: l, h => by
    have h1 := back_due (p := p) (now := now) (T := T) hp (L := l) fun y hy => h y (by simp [hy])
    unfold due
    split
    · rename_i hx
      have h2 := Int.mul_le_mul_of_nonneg_left (upz_mono hp (show T - now ≤ T - x.1 by omega)) (h x (by simp))
      simp only [back, owed, Int.add_mul]
      omega
    · exact Int.le_refl _
/-- A thread's lot. -/
structure TI (now : Int) (x : Bp) (u : Int) : Prop where
  u0 : 0 ≤ u
  la : x.s.last ≤ now
  pt : ∀ T, now < T → u + (x.t.bu - owed x.s.L) * upz x.t.pe (T - now) + back x.t.pe T x.s.L ≤ x.t.bu * upz x.t.pe T
theorem TI.later {now now' : Int} {x : Bp} {u : Int} (h : TI now x u) (hx : x.ok) (hn : now ≤ now') : TI now' x u := by
  obtain ⟨h1, h2, h3, h4⟩ := hx
  refine ⟨h.u0, by have := h.la; omega, fun T hT => ?_⟩
  have h5 := h.pt T (by omega)
  have h6 := Int.mul_le_mul_of_nonneg_left (upz_mono h2.1 (show T - now' ≤ T - now by omega)) (show 0 ≤ x.t.bu - owed x.s.L by have := h4.2.2.2.2; omega)
  omega
theorem TI.refill {now : Int} {x : Bp} {u : Int} (h : TI now x u) (hx : x.ok) (hn : now ≤ 4503599627370496) : TI now (Bo.rf now x) u := by
  obtain ⟨h1, h2, h3, h4⟩ := hx
  have hla := h.la
  unfold Bo.rf Srv.refill
  rw [if_neg (by omega)]
  refine ⟨h.u0, Int.le_refl _, fun T hT => ?_⟩
  have h5 := h.pt T hT
  have h6 := back_due (p := x.t.pe) (now := now) (T := T) h2.1 (L := x.s.L) fun y hy => (h4.2.2.2.1 y hy).2.2
  show u + (x.t.bu - owed (due now x.s.L).2) * upz x.t.pe (T - now) + back x.t.pe T (due now x.s.L).2 ≤ x.t.bu * upz x.t.pe T
  rw [Int.sub_mul] at h5 ⊢
  omega
theorem TI.use {now n now' : Int} {x : Bp} {u : Int} (h : TI now x u) (hx : x.ok) (h0 : 0 ≤ n) (h1 : n ≤ x.s.left x.t.bu) (hn : now' ≤ 4503599627370496) (hnn : now + n ≤ now') :
    (x.s.use x.t.bu x.t.pe n (now + n)).2 = 0 ∧ TI now' ⟨x.t, (x.s.use x.t.bu x.t.pe n (now + n)).1⟩ (u + n) := by
  have hx' := hx
  obtain ⟨_, h2, h3, h4⟩ := hx
  have hla := h.la
  have hu := h.u0
  have h40 : 0 ≤ x.s.last := h4.1
  have key : TI (now + n) ⟨x.t, (x.s.use x.t.bu x.t.pe n (now + n)).1⟩ (u + n) := by
    unfold Srv.use
    rw [if_neg (by omega), if_neg (by omega)]
    refine ⟨by omega, Int.le_refl _, fun T hT => ?_⟩
    have h5 := h.pt T (by omega)
    have hw : owed x.s.L ≤ x.t.bu := h4.2.2.2.2
    by_cases hz : n = 0
    · subst hz
      simp only [if_pos]
      rw [Int.add_zero, Int.add_zero]
      exact h5
    · simp only [if_neg hz]
      rw [owed_owe, back_owe]
      have hl : n ≤ x.t.bu - owed x.s.L := by
        unfold Srv.left at h1
        split at h1 <;> omega
      have h6 := upz_mono (p := x.t.pe) h2.1 (show T - (now + n) ≤ T - now by omega)
      have h7 := upz_back (p := x.t.pe) h2.1 (show 0 < T - (now + n) by omega)
      have e1 : T - (now + n + x.t.pe) = T - (now + n) - x.t.pe := by omega
      rw [e1]
      have h8 := Int.mul_le_mul_of_nonneg_left h6 (show 0 ≤ x.t.bu - (owed x.s.L + n) by omega)
      have h9 := Int.mul_le_mul_of_nonneg_left (show upz x.t.pe (T - (now + n) - x.t.pe) + 1 ≤ upz x.t.pe (T - now) by omega) h0
      have e2 : (x.t.bu - (owed x.s.L + n)) * upz x.t.pe (T - now) = (x.t.bu - owed x.s.L) * upz x.t.pe (T - now) - n * upz x.t.pe (T - now) := by
        rw [← Int.sub_mul]; congr 1; omega
      rw [e2] at h8
      rw [Int.mul_add, Int.mul_one] at h9
      show u + n + (x.t.bu - (owed x.s.L + n)) * upz x.t.pe (T - (now + n)) + (back x.t.pe T x.s.L + n * upz x.t.pe (T - (now + n) - x.t.pe)) ≤ x.t.bu * upz x.t.pe T
      omega
  refine ⟨?_, key.later ⟨‹_›, h2, h3, Srv.use_inv n (now + n) h4 h2⟩ hnn⟩
  unfold Srv.use
  rw [if_neg (by omega), if_neg (by omega)]
theorem TI.bound {now T : Int} {x : Bp} {u : Int} (h : TI now x u) (hx : x.ok) (hT : now < T) : u ≤ x.t.bu * upz x.t.pe T := by
  obtain ⟨h1, h2, h3, h4⟩ := hx
  have h5 := h.pt T hT
  have h6 := Int.mul_nonneg (show 0 ≤ x.t.bu - owed x.s.L by have := h4.2.2.2.2; omega) (upz_nn h2.1 (T - now))
  have h7 := back_nn h2.1 T (L := x.s.L) fun y hy => (h4.2.2.2.1 y hy).2.2
  omega
theorem TI.start {t : Th} (h : 1 ≤ t.pe) (hb : 1 ≤ t.bu) : TI 0 (th0 t) 0 := by
  refine ⟨Int.le_refl _, Int.le_refl _, fun T hT => ?_⟩
  show 0 + (t.bu - owed []) * upz t.pe (T - 0) + back t.pe T [] ≤ t.bu * upz t.pe T
  simp [owed, back]

/-- A line's lot. -/
def backq (p T : Int) : List Int → Int
  | [] => 0
  | e :: q => upz p (T - e) + backq p T q
theorem backq_append (p T : Int) : ∀ l m : List Int, backq p T (l ++ m) = backq p T l + backq p T m
  | [], m => by simp [backq]
  | x :: l, m => by simp only [List.cons_append, backq, backq_append p T l m]; omega
theorem backq_nn {p : Int} (hp : 1 ≤ p) (T : Int) : ∀ q : List Int, 0 ≤ backq p T q
  | [] => Int.le_refl _
  | e :: q => by
    have h1 := backq_nn hp T q
    have h2 := upz_nn hp (T - e)
    simp only [backq]; omega
theorem backq_pop {p now T : Int} (hp : 1 ≤ p) : ∀ q : List Int, backq p T (pop now q) - ((pop now q).length : Int) * upz p (T - now) ≤ backq p T q - (q.length : Int) * upz p (T - now)
  | [] => by simp [pop, backq]
  | e :: q => by
    have h1 := backq_pop (p := p) (now := now) (T := T) hp q
    unfold pop
    split
    · rename_i hx
      have h2 := upz_mono hp (show T - now ≤ T - e by omega)
      have e1 : (((e :: q).length : Nat) : Int) = (q.length : Int) + 1 := by simp
      rw [e1]
      simp only [backq, Int.add_mul]
      omega
    · exact Int.le_refl _
structure LI (now : Int) (k : Nat) (pe : Bool) (y : Ln) (t : Lin) : Prop where
  mw : (y.many : Int) = t.many ∧ y.wd = t.wd
  ml : y.ml ≤ now
  ql : y.q.length ≤ y.many
  s0 : 0 ≤ y.srv ∧ y.srv ≤ k
  l0 : 0 ≤ y.lost ∧ y.lost ≤ k
  tp : pe = true → y.top = t.top
  pt : ∀ T, now < T → y.srv + ((y.many : Int) - y.q.length) * upz t.wd (T - now) + backq t.wd T y.q ≤ y.many * upz t.wd T
theorem LI.later {now now' : Int} {k k' : Nat} {pe : Bool} {y : Ln} {t : Lin} (h : LI now k pe y t) (ho : oddL t = false) (hn : now ≤ now') (hk : k ≤ k') : LI now' k' pe y t := by
  obtain ⟨⟨_, _, h3, _⟩, _⟩ := oddL_no ho
  refine ⟨h.mw, by have := h.ml; omega, h.ql, by have := h.s0; omega, by have := h.l0; omega, h.tp, fun T hT => ?_⟩
  have h5 := h.pt T (by omega)
  have h6 := Int.mul_le_mul_of_nonneg_left (upz_mono h3 (show T - now' ≤ T - now by omega)) (show 0 ≤ (y.many : Int) - y.q.length by have := h.ql; omega)
  omega
theorem LI.told {now : Int} {k : Nat} {pe : Bool} {y y' : Ln} {t : Lin} (h : LI now k pe y t) (ho : oddL t = false) (ht : Told now y y') : LI now k pe y' t := by
  obtain ⟨⟨_, _, h3, _⟩, _⟩ := oddL_no ho
  rcases ht with rfl | ⟨_, _, rfl⟩
  · exact h
  · refine ⟨h.mw, Int.le_refl _, Nat.le_trans (pop_length now y.q) h.ql, h.s0, h.l0, h.tp, fun T hT => ?_⟩
    have h5 := h.pt T hT
    have h6 := backq_pop (now := now) (T := T) h3 y.q
    show y.srv + ((y.many : Int) - (pop now y.q).length) * upz t.wd (T - now) + backq t.wd T (pop now y.q) ≤ y.many * upz t.wd T
    rw [Int.sub_mul] at h5 ⊢
    omega
theorem LI.enter {now : Int} {k : Nat} {y y' : Ln} {t : Lin} (h : LI now k true y t) (ho : oddL t = false) (he : Entered now y y') : LI now (k + 1) false { y' with srv := y.srv + 1 } t := by
  obtain ⟨⟨_, _, h3, _⟩, _⟩ := oddL_no ho
  obtain ⟨_, _, hl, rfl⟩ := he
  have hs := h.s0
  have hz := h.l0
  refine ⟨h.mw, Int.le_refl _, by show (pop now y.q ++ [now + y.wd]).length ≤ y.many; simp; omega, by show 0 ≤ y.srv + 1 ∧ y.srv + 1 ≤ ((k + 1 : Nat) : Int); omega, by show 0 ≤ y.lost ∧ y.lost ≤ ((k + 1 : Nat) : Int); omega, fun hh => (by cases hh), fun T hT => ?_⟩
  have h5 := h.pt T hT
  have h6 := backq_pop (now := now) (T := T) h3 y.q
  have h7 := upz_back h3 (show 0 < T - now by omega)
  show y.srv + 1 + ((y.many : Int) - (pop now y.q ++ [now + y.wd]).length) * upz t.wd (T - now) + backq t.wd T (pop now y.q ++ [now + y.wd]) ≤ y.many * upz t.wd T
  rw [backq_append, List.length_append, h.mw.2]
  have e1 : T - (now + t.wd) = T - now - t.wd := by omega
  have e2 : (((pop now y.q).length + [now + t.wd].length : Nat) : Int) = ((pop now y.q).length : Int) + 1 := by simp
  rw [e2, Int.sub_mul, Int.add_mul, Int.one_mul]
  simp only [backq]
  rw [e1]
  rw [Int.sub_mul] at h5
  omega
theorem LI.bound {now T : Int} {k : Nat} {pe : Bool} {y : Ln} {t : Lin} (h : LI now k pe y t) (ho : oddL t = false) (hT : now < T) : y.srv * t.top ≤ t.many * t.top * upz t.wd T := by
  obtain ⟨⟨_, _, h3, _⟩, h4, _⟩ := oddL_no ho
  have h5 := h.pt T hT
  have h6 := Int.mul_nonneg (show 0 ≤ (y.many : Int) - y.q.length by have := h.ql; omega) (upz_nn h3 (T - now))
  have h7 := backq_nn h3 T y.q
  have h8 : y.srv ≤ t.many * upz t.wd T := by rw [← h.mw.1]; omega
  have h9 := Int.mul_le_mul_of_nonneg_right h8 (show 0 ≤ t.top by omega)
  rw [Int.mul_right_comm] at h9
  exact h9
theorem LI.lose {now : Int} {k : Nat} {pe : Bool} {y : Ln} {t : Lin} (h : LI now k pe y t) : LI now (k + 1) pe { y with lost := y.lost + 1 } t :=
  ⟨h.mw, h.ml, h.ql, by have := h.s0; show 0 ≤ y.srv ∧ y.srv ≤ ((k + 1 : Nat) : Int); omega, by have := h.l0; show 0 ≤ y.lost + 1 ∧ y.lost + 1 ≤ ((k + 1 : Nat) : Int); omega, h.tp, h.pt⟩
theorem LI.rise {now : Int} {k : Nat} {pe : Bool} {y : Ln} {t : Lin} (h : LI now k pe y t) : LI now (k + 1) true { y with top := t.top, bot := 0 } t :=
  ⟨h.mw, h.ml, h.ql, by have := h.s0; show 0 ≤ y.srv ∧ y.srv ≤ ((k + 1 : Nat) : Int); omega, by have := h.l0; show 0 ≤ y.lost ∧ y.lost ≤ ((k + 1 : Nat) : Int); omega, fun _ => rfl, h.pt⟩
theorem LI.start {t : Lin} (ho : oddL t = false) : LI 0 0 false (ln0 t) t := by
  obtain ⟨⟨h1, _, h3, _⟩, _⟩ := oddL_no ho
  refine ⟨⟨by show ((t.many.toNat : Nat) : Int) = t.many; omega, rfl⟩, Int.le_refl _, Nat.zero_le _, ⟨Int.le_refl _, Int.le_refl _⟩, ⟨Int.le_refl _, Int.le_refl _⟩, fun hh => (by cases hh), fun T hT => ?_⟩
  show 0 + (((t.many.toNat : Nat) : Int) - (([] : List Int).length : Int)) * upz t.wd (T - 0) + backq t.wd T [] ≤ ((t.many.toNat : Nat) : Int) * upz t.wd T
  simp [backq]
/-- All of it. -/
def sumI : List Int → Int
  | [] => 0
  | x :: l => x + sumI l
theorem sumI_append : ∀ l m : List Int, sumI (l ++ m) = sumI l + sumI m
  | [], m => by simp [sumI]
  | x :: l, m => by simp only [List.cons_append, sumI, sumI_append l m]; omega
theorem sumI_set : ∀ (l : List Int) (i : Nat) (v x : Int), l[i]? = some v → sumI (l.set i x) = sumI l - v + x
  | [], i, v, x, h => by simp at h
  | y :: l, 0, v, x, h => by simp at h; subst h; simp [sumI]; omega
  | y :: l, i + 1, v, x, h => by
    have := sumI_set l i v x (by simpa using h)
    simp [sumI, this]; omega
theorem sumI_nn : ∀ {l : List Int}, (∀ x ∈ l, 0 ≤ x) → 0 ≤ sumI l
  | [], _ => Int.le_refl _
  | x :: l, h => by
    have h1 := sumI_nn (l := l) fun y hy => h y (by simp [hy])
    have h2 := h x (by simp)
    simp only [sumI]; omega
structure Ld where
  pe : Int
  co : Int
def ldT (t : Th) : Ld := ⟨t.pe, t.bu⟩
def ldL (t : Lin) : Ld := ⟨t.wd, t.many * t.top⟩
def lds (TT : List Th) (TL : List Lin) : List Ld := TT.map ldT ++ TL.map ldL
def dmd (T : Int) : List Ld → Int
  | [] => 0
  | x :: l => upz x.pe T * x.co + dmd T l
theorem dmd_append (T : Int) : ∀ l m : List Ld, dmd T (l ++ m) = dmd T l + dmd T m
  | [], m => by simp [dmd]
  | x :: l, m => by simp only [List.cons_append, dmd, dmd_append T l m]; omega
theorem dmd_mono {T T' : Int} (hT : T ≤ T') : ∀ {l : List Ld}, (∀ x ∈ l, 1 ≤ x.pe ∧ 0 ≤ x.co) → dmd T l ≤ dmd T' l
  | [], _ => Int.le_refl _
  | x :: l, h => by
    have h1 := dmd_mono hT (l := l) fun y hy => h y (by simp [hy])
    have h2 := h x (by simp)
    have h3 := Int.mul_le_mul_of_nonneg_right (upz_mono h2.1 hT) h2.2
    simp only [dmd]; omega
def lsum : List Ln → List Lin → Int
  | y :: l, t :: m => y.srv * t.top + lsum l m
  | _, _ => 0
theorem lsum_set : ∀ (l : List Ln) (m : List Lin) (i : Nat) (y y' : Ln) (t : Lin), l[i]? = some y → m[i]? = some t → lsum (l.set i y') m = lsum l m - y.srv * t.top + y'.srv * t.top
  | [], m, i, y, y', t, h, _ => by simp at h
  | z :: l, [], i, y, y', t, _, h => by simp at h
  | z :: l, s :: m, 0, y, y', t, h, h2 => by
    simp at h h2; subst h h2
    simp only [List.set_cons_zero, lsum]; omega
  | z :: l, s :: m, i + 1, y, y', t, h, h2 => by
    have := lsum_set l m i y y' t (by simpa using h) (by simpa using h2)
    simp only [List.set_cons_succ, lsum, this]; omega
theorem lsum_eq : ∀ (l l' : List Ln) (m : List Lin), l.length = l'.length → (∀ (i : Nat) (y y' : Ln), l[i]? = some y → l'[i]? = some y' → y'.srv = y.srv) → lsum l' m = lsum l m
  | [], [], m, _, _ => rfl
  | [], _ :: _, m, h, _ => by simp at h
  | _ :: _, [], m, h, _ => by simp at h
  | y :: l, y' :: l', [], _, _ => rfl
  | y :: l, y' :: l', t :: m, h, hs => by
    have h1 := lsum_eq l l' m (by simpa using h) fun i y y' a b => hs (i + 1) y y' (by simpa using a) (by simpa using b)
    have h2 := hs 0 y y' (by simp) (by simp)
    simp only [lsum, h1, h2]
theorem lsum_le (T : Int) : ∀ (l : List Ln) (m : List Lin), l.length = m.length → (∀ (i : Nat) (y : Ln) (t : Lin), l[i]? = some y → m[i]? = some t → y.srv * t.top ≤ t.many * t.top * upz t.wd T) → lsum l m ≤ dmd T (m.map ldL)
  | [], [], _, _ => Int.le_refl _
  | [], _ :: _, h, _ => by simp at h
  | _ :: _, [], h, _ => by simp at h
  | y :: l, t :: m, h, hs => by
    have h1 := lsum_le T l m (by simpa using h) fun i y t a b => hs (i + 1) y t (by simpa using a) (by simpa using b)
    have h2 := hs 0 y t (by simp) (by simp)
    rw [Int.mul_comm] at h2
    simp only [List.map_cons, lsum, dmd, ldL]
    rw [Int.mul_comm (upz t.wd T)]
    rw [Int.mul_comm t.top] at h2
    omega
theorem sumU_le (T : Int) : ∀ (l : List Bp) (m : List Int), m.length = l.length → (∀ (i : Nat) (x : Bp) (u : Int), l[i]? = some x → m[i]? = some u → u ≤ x.t.bu * upz x.t.pe T) → sumI m ≤ dmd T ((l.map (·.t)).map ldT)
  | [], [], _, _ => Int.le_refl _
  | [], _ :: _, h, _ => by simp at h
  | _ :: _, [], h, _ => by simp at h
  | x :: l, u :: m, h, hs => by
    have h1 := sumU_le T l m (by simpa using h) fun i x u a b => hs (i + 1) x u (by simpa using a) (by simpa using b)
    have h2 := hs 0 x u (by simp) (by simp)
    rw [Int.mul_comm] at h2
    simp only [List.map_cons, sumI, dmd, ldT]
    omega
structure Dm where
  Bs : List Bp
  Q : List Wq
  s : Iq
  U : List Int
  now : Int
  used : Int
structure Dm.I (TT : List Th) (TL : List Lin) (k : Nat) (D : Dm) : Prop where
  inv : Bo.Inv k D.Bs D.Q
  bt : D.Bs.map (·.t) = TT
  ul : D.U.length = D.Bs.length
  th : ∀ (i : Nat) (x : Bp) (u : Int), D.Bs[i]? = some x → D.U[i]? = some u → TI D.now x u
  tg : ∀ t ∈ TL, oddL t = false
  l64 : TL.length ≤ 64
  ll : D.s.ls.length = TL.length
  ln : ∀ (i : Nat) (y : Ln) (t : Lin), D.s.ls[i]? = some y → TL[i]? = some t → LI D.now k (D.s.c.pe.testBit i) y t
  stk : ∀ z ∈ D.s.S, 1 ≤ z.left ∧ z.left ≤ 1099511627776
  la : D.s.last ≤ D.now
  n0 : 0 ≤ D.now
  us : D.used = sumI D.U + lsum D.s.ls TL - sumI (D.s.S.map Bg.left)
  dm : D.used ≤ dmd D.now (lds TT TL)
  u0 : 0 ≤ D.used
  p64 : D.s.c.pe < 18446744073709551616
section
variable {TT : List Th} {TL : List Lin} {k k' : Nat} {D : Dm}
theorem Dm.I.xok (h : D.I TT TL k) {i : Nat} {x : Bp} (hx : D.Bs[i]? = some x) : x.ok := h.inv.each x (List.mem_iff_getElem?.2 ⟨i, hx⟩)
theorem Dm.I.odd (h : D.I TT TL k) {i : Nat} {t : Lin} (ht : TL[i]? = some t) : oddL t = false := h.tg t (List.mem_iff_getElem?.2 ⟨i, ht⟩)
theorem Dm.I.lpos (h : D.I TT TL k) : ∀ x ∈ lds TT TL, 1 ≤ x.pe ∧ 0 ≤ x.co := fun x hx => by
  rcases List.mem_append.1 hx with h1 | h1
  · obtain ⟨t, ht, rfl⟩ := List.mem_map.1 h1
    rw [← h.bt] at ht
    obtain ⟨y, hy, rfl⟩ := List.mem_map.1 ht
    obtain ⟨h2, h3, _⟩ := h.inv.each y hy
    exact ⟨h3.1, by show 0 ≤ y.t.bu; omega⟩
  · obtain ⟨t, ht, rfl⟩ := List.mem_map.1 h1
    obtain ⟨⟨h2, h3, h4, h5⟩, h6, h7⟩ := oddL_no (h.tg t ht)
    exact ⟨h4, Int.mul_nonneg (by omega) (by omega)⟩
theorem Dm.I.mono (h : D.I TT TL k) (hk : k ≤ k') : D.I TT TL k' :=
  { h with inv := ⟨h.inv.each, h.inv.wk.mono hk, h.inv.len⟩, ln := fun i y t hy ht => (h.ln i y t hy ht).later (h.odd ht) (Int.le_refl _) hk }
/-- What is used so far is no more than what is asked for by any time to come. -/
theorem Dm.I.lcap (h : D.I TT TL k) {T : Int} (hT : D.now < T) : lsum D.s.ls TL ≤ dmd T (TL.map ldL) :=
  lsum_le T _ _ h.ll fun i y t hy ht => (h.ln i y t hy ht).bound (h.odd ht) hT
theorem Dm.I.put (h : D.I TT TL k) (n : Nat) (i c : Int) : Dm.I TT TL (k + 1) { D with Q := (Bo.put n D.Q i c).1 } := by
  have h1 := h.mono (Nat.le_succ k)
  exact { h1 with inv := h.inv.put i c }
theorem Dm.I.raise (h : D.I TT TL k) {i : Nat} {y : Ln} {t : Lin} {s' : Iq} {r : Int} (hy : D.s.ls[i]? = some y) (ht : TL[i]? = some t) (hx : D.s.raise i y t.top 0 = (s', r)) : Dm.I TT TL (k + 1) { D with s := s' } := by
  have h1 := h.mono (Nat.le_succ k)
  have hi := (List.getElem?_eq_some_iff.1 hy).1
  have hi2 := (List.getElem?_eq_some_iff.1 ht).1
  have gs : ∀ {z : Ln} {j : Nat} {x : Ln}, (D.s.ls.set i z)[j]? = some x → (j = i ∧ x = z) ∨ (j ≠ i ∧ D.s.ls[j]? = some x) := fun {z j x} hh => by
    rw [List.getElem?_set] at hh
    by_cases hji : i = j
    · subst hji
      rw [if_pos rfl, if_pos hi] at hh
      exact .inl ⟨rfl, (Option.some.inj hh).symm⟩
    · rw [if_neg hji] at hh
      exact .inr ⟨fun e => hji e.symm, hh⟩
  unfold Iq.raise at hx
  split at hx
  · rename_i hp
    simp only [Prod.mk.injEq] at hx
    obtain ⟨rfl, rfl⟩ := hx
    refine { h1 with ll := by show (D.s.ls.set _ _).length = _; rw [List.length_set]; exact h.ll, ln := fun j z u hz hu => ?_, us := ?_ }
    · rcases gs hz with ⟨rfl, rfl⟩ | ⟨hji, hz⟩
      · have e : u = t := Option.some.inj (hu.symm.trans ht)
        subst e
        exact (h.ln j y u hy ht).lose
      · exact h1.ln j z u hz hu
    · show D.used = sumI D.U + lsum (D.s.ls.set i _) TL - _
      rw [lsum_set _ _ _ _ _ _ hy ht]
      have := h.us
      simp only [Iq.setl]; omega
  · rename_i hp
    simp only [Prod.mk.injEq] at hx
    obtain ⟨rfl, rfl⟩ := hx
    refine { h1 with ll := by show (D.s.ls.set _ _).length = _; rw [List.length_set]; exact h.ll, ln := fun j z u hz hu => ?_, us := ?_, p64 := or_lt h.p64 (by have := h.l64; omega) }
    · show LI D.now (k + 1) ((D.s.c.raise i).pe.testBit j) z u
      have htb : (D.s.c.raise i).pe.testBit j = (D.s.c.pe.testBit j || decide (j = i)) := or_tb _ _ _
      rw [htb]
      rcases gs hz with ⟨rfl, rfl⟩ | ⟨hji, hz⟩
      · have e : u = t := Option.some.inj (hu.symm.trans ht)
        subst e
        have h9 := (h.ln j y u hy ht).rise
        simpa using h9
      · have h9 := h1.ln j z u hz hu
        simpa [hji] using h9
    · show D.used = sumI D.U + lsum (D.s.ls.set i _) TL - _
      rw [lsum_set _ _ _ _ _ _ hy ht]
      have := h.us
      simp only; omega
theorem Dm.I.refill (h : D.I TT TL k) (hn : D.now ≤ 4503599627370496) : Bo.refill D.Bs D.now = ((Bo.refill D.Bs D.now).1, 0) ∧ Dm.I TT TL k { D with Bs := (Bo.refill D.Bs D.now).1 } := by
  have hla : ∀ x ∈ D.Bs, x.s.last ≤ D.now := fun x hx => by
    obtain ⟨i, hi⟩ := List.mem_iff_getElem?.1 hx
    have hl := (List.getElem?_eq_some_iff.1 hi).1
    exact (h.th i x _ hi (List.getElem?_eq_getElem (by rw [h.ul]; exact hl))).la
  have e := Bo.refill_ok hla hn
  have h9 := h.inv.refill D.now
  rw [e] at h9 ⊢
  refine ⟨rfl, { h with inv := h9, bt := ?_, ul := by show D.U.length = (D.Bs.map _).length; rw [List.length_map]; exact h.ul, th := fun i x u hx hu => ?_ }⟩
  · show (D.Bs.map _).map _ = _
    rw [List.map_map, ← h.bt]
    rfl
  · have hx : (D.Bs.map (Bo.rf D.now))[i]? = some x := hx
    rw [List.getElem?_map] at hx
    cases hz : D.Bs[i]? with
    | none => rw [hz] at hx; cases hx
    | some z =>
      rw [hz] at hx
      rw [← Option.some.inj hx]
      exact (h.th i z u hz hu).refill (h.xok hz) hn
theorem Dm.I.calm (h : D.I TT TL k) {s' : Iq} (hc : Iq.Calm D.now D.s s') (hl : s'.last ≤ D.now) : Dm.I TT TL k { D with s := s' } := by
  have hll := hc.ls.1
  have hget : ∀ {i : Nat} {y' : Ln}, s'.ls[i]? = some y' → ∃ y, D.s.ls[i]? = some y ∧ Told D.now y y' := fun {i y'} hy => by
    obtain ⟨hi, e⟩ := List.getElem?_eq_some_iff.1 hy
    have hi2 : i < D.s.ls.length := by omega
    refine ⟨_, List.getElem?_eq_getElem hi2, ?_⟩
    rw [← e]
    exact hc.ls.2 i hi2 hi
  refine { h with ll := by show s'.ls.length = _; rw [← hll]; exact h.ll, ln := fun i y' t hy ht => ?_, stk := by show ∀ z ∈ s'.S, _; rw [hc.S]; exact h.stk, la := hl, us := ?_, p64 := by show s'.c.pe < _; rw [hc.pe]; exact h.p64 }
  · obtain ⟨y, hy0, htold⟩ := hget hy
    show LI D.now k (s'.c.pe.testBit i) y' t
    rw [hc.pe]
    exact (h.ln i y t hy0 ht).told (h.odd ht) htold
  · show D.used = sumI D.U + lsum s'.ls TL - sumI (s'.S.map Bg.left)
    rw [hc.S, lsum_eq D.s.ls s'.ls TL hll fun i y y' a b => by
      obtain ⟨z, hz, ht⟩ := hget b
      have e : z = y := Option.some.inj (hz.symm.trans a)
      rw [← e]
      exact ht.srv.1]
    exact h.us
theorem Dm.I.take (h : D.I TT TL k) {kk er : Int} {is : Bool} {s' : Iq} (ht : Iq.Took D.now D.s kk is er s') : Dm.I TT TL (k + 1) { D with s := s' } := by
  have h1 := h.mono (Nat.le_succ k)
  rcases ht with ⟨_, _, _, rfl, _⟩ | ⟨_, hl1, hl2, hla, ⟨_, _, hc⟩ | ⟨_, i, sm, y, y', _, hc, hy, he, hp, hk, rfl⟩⟩
  · exact h1
  · exact h1.calm hc (by omega)
  · have hla' : sm.last ≤ D.now ∨ True := .inr trivial
    have hm := h.calm (s' := { sm with last := D.now }) ⟨hc.pe, hc.pr, hc.st, hc.S, hc.ls⟩ (Int.le_refl _)
    have hi := (List.getElem?_eq_some_iff.1 hy).1
    have hiL : i < TL.length := by have := hm.ll; simp only at this; omega
    obtain ⟨t, ht⟩ : ∃ t, TL[i]? = some t := ⟨_, List.getElem?_eq_getElem hiL⟩
    have ho := h.odd ht
    have hpb : sm.c.pe.testBit i = true := by rw [hc.pe]; exact hp
    have hL : LI D.now k (sm.c.pe.testBit i) y t := hm.ln i y t hy ht
    rw [hpb] at hL
    have htb : ∀ j, (sm.c.ack i).pe.testBit j = (sm.c.pe.testBit j && decide (j ≠ i)) := fun j => clr_tb hm.p64 (by have := h.l64; omega)
    obtain ⟨_, h6, h7⟩ := oddL_no ho
    have htop := hL.tp rfl
    have hm1 := hm.mono (Nat.le_succ k)
    refine { hm1 with ll := by show (sm.ls.set _ _).length = _; rw [List.length_set]; exact hm.ll, ln := fun j z u hz hu => ?_, stk := fun z hz => ?_, us := ?_, p64 := clr_lt hm.p64 }
    · show LI D.now (k + 1) ((sm.c.ack i).pe.testBit j) z u
      have hz : (sm.ls.set i { y' with srv := y.srv + 1 })[j]? = some z := hz
      rw [List.getElem?_set] at hz
      by_cases hji : i = j
      · subst hji
        rw [if_pos rfl, if_pos hi] at hz
        rw [← Option.some.inj hz, htb]
        have e : u = t := Option.some.inj (hu.symm.trans ht)
        subst e
        have h9 := hL.enter ho he
        simpa using h9
      · rw [if_neg hji] at hz
        rw [htb]
        have h9 := hm1.ln j z u hz hu
        rw [decide_eq_true (show j ≠ i from fun e => hji e.symm), Bool.and_true]
        exact h9
    · rcases List.mem_append.1 hz with h9 | h9
      · exact hm.stk z h9
      · simp at h9
        rw [h9]
        show 1 ≤ y.top ∧ y.top ≤ _
        omega
    · show D.used = sumI D.U + lsum (sm.ls.set i { y' with srv := y.srv + 1 }) TL - sumI ((sm.S ++ [(⟨i, y.top, y.bot⟩ : Bg)]).map Bg.left)
      have h9 : D.used = sumI D.U + lsum sm.ls TL - sumI (sm.S.map Bg.left) := hm.us
      rw [lsum_set _ _ _ _ _ _ hy ht, List.map_append, sumI_append]
      simp only [List.map_cons, List.map_nil, sumI]
      rw [htop, Int.add_mul]
      omega
/-- Time passes. -/
theorem Dm.I.idle (h : D.I TT TL k) {now' : Int} (hn : D.now ≤ now') : Dm.I TT TL k { D with now := now' } :=
  { h with
    th := fun i x u hx hu => (h.th i x u hx hu).later (h.xok hx) hn
    ln := fun i y t hy ht => (h.ln i y t hy ht).later (h.odd ht) hn (Nat.le_refl _)
    la := by show D.s.last ≤ now'; have := h.la; omega
    n0 := by show 0 ≤ now'; have := h.n0; omega
    dm := by
      have h1 := h.dm
      have h2 := dmd_mono hn h.lpos
      show D.used ≤ dmd now' _
      omega }
theorem Dm.I.cap (h : D.I TT TL k) {T : Int} (hT : D.now < T) : sumI D.U + lsum D.s.ls TL ≤ dmd T (lds TT TL) := by
  have h1 := h.lcap hT
  have h2 := sumU_le T D.Bs D.U h.ul fun i x u hx hu => (h.th i x u hx hu).bound (h.xok hx) hT
  rw [h.bt] at h2
  unfold lds
  rw [dmd_append]; omega
theorem Dm.I.qrun (h : D.I TT TL k) {L : List Bg} {z : Bg} {n now' : Int} (hS : D.s.S = L ++ [z]) (h0 : 0 < n) (h1 : n < z.left) (hn : D.now + n ≤ now') :
    Dm.I TT TL k { D with s := { D.s with S := L ++ [{ z with left := z.left - n }] }, now := now', used := D.used + n } := by
  have hi := h.idle (show D.now ≤ now' by omega)
  have hu := h.us
  rw [hS, List.map_append, sumI_append] at hu
  have hcap := h.cap (show D.now < now' by omega)
  have hz := h.stk z (by rw [hS]; simp)
  have hnn : 0 ≤ sumI (L.map Bg.left) := sumI_nn fun x hx => by
    obtain ⟨y, hy, rfl⟩ := List.mem_map.1 hx
    have := h.stk y (by rw [hS]; simp [hy])
    omega
  have hu0 := h.u0
  simp only [List.map_cons, List.map_nil, sumI] at hu
  refine { hi with stk := fun y hy => ?_, us := ?_, dm := ?_, u0 := by show 0 ≤ D.used + n; omega }
  · rcases List.mem_append.1 hy with h9 | h9
    · exact h.stk y (by rw [hS]; simp [h9])
    · simp at h9
      rw [h9]
      show 1 ≤ z.left - n ∧ z.left - n ≤ _
      omega
  · show D.used + n = sumI D.U + lsum D.s.ls TL - sumI ((L ++ [{ z with left := z.left - n }]).map Bg.left)
    rw [List.map_append, sumI_append]
    simp only [List.map_cons, List.map_nil, sumI]
    omega
  · show D.used + n ≤ dmd now' _
    omega
theorem Dm.I.qdone (h : D.I TT TL k) {L : List Bg} {z : Bg} {n now' : Int} (hS : D.s.S = L ++ [z]) (h1 : z.left = n) (hn : D.now + n ≤ now') :
    Dm.I TT TL k { D with s := { D.s with c := D.s.c.fin, S := L }, now := now', used := D.used + n } := by
  have hz := h.stk z (by rw [hS]; simp)
  have hi := h.idle (show D.now ≤ now' by omega)
  have hu := h.us
  rw [hS, List.map_append, sumI_append] at hu
  have hcap := h.cap (show D.now < now' by omega)
  have hnn : 0 ≤ sumI (L.map Bg.left) := sumI_nn fun x hx => by
    obtain ⟨y, hy, rfl⟩ := List.mem_map.1 hx
    have := h.stk y (by rw [hS]; simp [hy])
    omega
  have hu0 := h.u0
  simp only [List.map_cons, List.map_nil, sumI] at hu
  refine { hi with stk := fun y hy => h.stk y (by rw [hS]; simp [hy]), us := ?_, dm := ?_, u0 := by show 0 ≤ D.used + n; omega }
  · show D.used + n = sumI D.U + lsum D.s.ls TL - sumI (L.map Bg.left)
    omega
  · show D.used + n ≤ dmd now' _
    omega
theorem Dm.I.brun (h : D.I TT TL k) {i : Nat} (ha : Bo.able D.Bs D.Q i = true) {n now' : Int} (h0 : 0 < n) (h1 : n ≤ Bo.left D.Bs D.Q i) (hn : D.now + n ≤ now') (hn2 : now' ≤ 4503599627370496) :
    ∃ Bs' Q' b U', Bo.run D.Bs D.Q i n (D.now + n) = (Bs', Q', b, 0) ∧ Dm.I TT TL k { D with Bs := Bs', Q := Q', U := U', now := now', used := D.used + n } := by
  have hi : i < D.Bs.length := Classical.byContradiction fun hh => by rw [Bo.able_out (by omega)] at ha; cases ha
  obtain ⟨hxo, hiQ⟩ := h.inv.at i hi
  have hx := List.getElem?_eq_getElem hi
  have hiU : i < D.U.length := by rw [h.ul]; exact hi
  have hu := List.getElem?_eq_getElem hiU
  generalize D.U[i] = u at hu
  have hT := h.th i _ u hx hu
  obtain ⟨hw, hl⟩ := (Bo.able_iff hi).1 ha
  have hle := h1
  rw [Bo.left_in hi, if_pos ha] at hle
  obtain ⟨hus, hTI⟩ := hT.use hxo (show 0 ≤ n by omega) (by omega) hn2 hn
  have hgo : (Wk.go D.Q i n).2.2 = 0 := by
    rw [Wk.go_in hiQ]
    rw [Wk.waiting_in hiQ] at hw
    have hl2 : n ≤ Wk.left D.Q i := by omega
    rw [Wk.left_in hiQ] at hl2
    generalize D.Q[i].L = L at hw hl2
    cases L with
    | nil => simp at hw
    | cons x l =>
      simp only [List.headD_cons] at hl2
      dsimp only
      rw [if_neg (by omega)]
      split <;> rfl
  have hrun : Bo.run D.Bs D.Q i n (D.now + n) = (D.Bs.set i ⟨D.Bs[i].t, (D.Bs[i].s.use D.Bs[i].t.bu D.Bs[i].t.pe n (D.now + n)).1⟩, (Wk.go D.Q i n).1, (Wk.go D.Q i n).2.1, 0) := by
    rw [Bo.run_in hi, if_neg (by omega), ha, if_neg (by simp), if_neg (by simpa using hus), hgo]
  have hinv := h.inv.run i n (D.now + n)
  rw [hrun] at hinv
  have hid := h.idle (show D.now ≤ now' by omega)
  have hud := h.us
  have hu0 := h.u0
  refine ⟨_, _, _, D.U.set i (u + n), hrun, { hid with inv := hinv, bt := ?_, ul := by show (D.U.set _ _).length = (D.Bs.set _ _).length; rw [List.length_set, List.length_set]; exact h.ul, th := fun j x v hx2 hv => ?_, us := ?_, dm := ?_, u0 := by show 0 ≤ D.used + n; omega }⟩
  · show (D.Bs.set _ _).map _ = _
    rw [← h.bt, List.map_set]
    apply List.ext_getElem?
    intro j
    rw [List.getElem?_set]
    split
    · rename_i hij
      subst hij
      simp [hi]
    · rfl
  · have hx2 : (D.Bs.set i ⟨D.Bs[i].t, (D.Bs[i].s.use D.Bs[i].t.bu D.Bs[i].t.pe n (D.now + n)).1⟩)[j]? = some x := hx2
    have hv : (D.U.set i (u + n))[j]? = some v := hv
    rw [List.getElem?_set] at hx2 hv
    by_cases hij : i = j
    · subst hij
      rw [if_pos rfl, if_pos hi] at hx2
      rw [if_pos rfl, if_pos hiU] at hv
      rw [← Option.some.inj hx2, ← Option.some.inj hv]
      exact hTI
    · rw [if_neg hij] at hx2 hv
      exact hid.th j x v hx2 hv
  · show D.used + n = sumI (D.U.set i (u + n)) + lsum D.s.ls TL - sumI (D.s.S.map Bg.left)
    rw [sumI_set _ _ _ _ hu]
    omega
  · show D.used + n ≤ dmd now' _
    have hT' : D.now < now' := by omega
    have h5 := h.lcap hT'
    have hub : ∀ (j : Nat) (x : Bp) (v : Int), D.Bs[j]? = some x → (D.U.set i (u + n))[j]? = some v → v ≤ x.t.bu * upz x.t.pe now' := fun j x v hx2 hv => by
      rw [List.getElem?_set] at hv
      by_cases hij : i = j
      · subst hij
        rw [if_pos rfl, if_pos hiU] at hv
        rw [← Option.some.inj hv]
        have e : D.Bs[i] = x := Option.some.inj (hx.symm.trans hx2)
        rw [← e]
        obtain ⟨_, h2, h3, h4⟩ := hxo
        have h6 := hT.pt now' hT'
        have h7 := upz_back (p := D.Bs[i].t.pe) h2.1 (show 0 < now' - D.now by omega)
        have h8 := upz_nn (p := D.Bs[i].t.pe) h2.1 (now' - D.now - D.Bs[i].t.pe)
        have h9 := back_nn (p := D.Bs[i].t.pe) h2.1 now' (L := D.Bs[i].s.L) fun y hy => (h4.2.2.2.1 y hy).2.2
        have hlf : n ≤ D.Bs[i].t.bu - owed D.Bs[i].s.L := by
          have : n ≤ D.Bs[i].s.left D.Bs[i].t.bu := by omega
          unfold Srv.left at this
          split at this <;> omega
        have h10 := Int.mul_le_mul_of_nonneg_left (show 1 ≤ upz D.Bs[i].t.pe (now' - D.now) by omega) (show 0 ≤ D.Bs[i].t.bu - owed D.Bs[i].s.L by omega)
        rw [Int.mul_one] at h10
        omega
      · rw [if_neg hij] at hv
        exact (h.th j x v hx2 hv).bound (h.xok hx2) hT'
    have h6 := sumU_le now' D.Bs (D.U.set i (u + n)) (by rw [List.length_set]; exact h.ul) hub
    rw [h.bt, sumI_set _ _ _ _ hu] at h6
    have hnn : 0 ≤ sumI (D.s.S.map Bg.left) := sumI_nn fun x hx => by
      obtain ⟨y, hy, rfl⟩ := List.mem_map.1 hx
      have := h.stk y hy
      omega
    unfold lds
    rw [dmd_append]; omega
/-- All begins. -/
theorem Dm.start (hT : goodT TT = true) (hL : goodL TL = true) : Dm.I TT TL 0 ⟨TT.map th0, Qs0 TT, iq0 TL, List.replicate TT.length 0, 0, 0⟩ := by
  have hi := goodT_inv hT
  unfold goodL at hL
  simp only [Bool.and_eq_true, Bool.not_eq_true', decide_eq_true_eq] at hL
  have hodd : ∀ t ∈ TL, oddL t = false := fun t ht => by
    cases hh : oddL t with
    | false => rfl
    | true => rw [← hL.1.1]; exact (List.any_eq_true.2 ⟨t, ht, hh⟩).symm
  have hz : ∀ n, sumI (List.replicate n 0) = 0 := fun n => by
    induction n with
    | zero => rfl
    | succ n ih => rw [List.replicate_succ]; simp only [sumI, ih]; omega
  have hl : ∀ l : List Lin, lsum (l.map ln0) l = 0 := fun l => by
    induction l with
    | nil => rfl
    | cons t l ih => simp only [List.map_cons, lsum, ih, ln0]; omega
  refine ⟨hi, ?_, by simp, fun i x u hx hu => ?_, hodd, hL.1.2, by simp [iq0], fun i y t hy ht => ?_, fun z hz => by simp [iq0] at hz, Int.le_refl _, Int.le_refl _, ?_, ?_, Int.le_refl _, by show 0 < _; decide⟩
  · show (TT.map th0).map _ = TT
    rw [List.map_map]
    exact List.map_id'' (fun t => rfl) _
  · have hx : (TT.map th0)[i]? = some x := hx
    rw [List.getElem?_map] at hx
    cases ht : TT[i]? with
    | none => rw [ht] at hx; cases hx
    | some t =>
      rw [ht] at hx
      have hx := (Option.some.inj hx).symm
      subst hx
      have hu : (List.replicate TT.length (0 : Int))[i]? = some u := hu
      rw [List.getElem?_replicate] at hu
      split at hu
      · rw [← Option.some.inj hu]
        have h9 := hi.each (th0 t) (List.mem_map.2 ⟨t, List.mem_iff_getElem?.2 ⟨i, ht⟩, rfl⟩)
        exact TI.start h9.2.1.1 h9.1.1
      · cases hu
  · have hy : (TL.map ln0)[i]? = some y := hy
    rw [List.getElem?_map, ht] at hy
    rw [← Option.some.inj hy]
    have h9 := LI.start (hodd t (List.mem_iff_getElem?.2 ⟨i, ht⟩))
    show LI 0 0 ((0 : Nat).testBit i) _ t
    rw [Nat.zero_testBit]
    exact h9
  · show (0 : Int) = sumI (List.replicate TT.length 0) + lsum (TL.map ln0) TL - sumI ([].map _)
    rw [hz, hl]
    rfl
  · show (0 : Int) ≤ dmd 0 (lds TT TL)
    have : ∀ l : List Ld, dmd 0 l = 0 := fun l => by
      induction l with
      | nil => rfl
      | cons x l ih => simp only [dmd, ih, upz]; simp
    rw [this]; exact Int.le_refl _
end
/-- The one that is picked is able. -/
theorem Bo.pk_mem (Bs : List Bp) : ∀ (l : List Nat) (r : Int × Int), (Bo.pk Bs l r).1 = r.1 ∨ ∃ i ∈ l, (Bo.pk Bs l r).1 = (i : Int)
  | [], r => .inl rfl
  | i :: l, r => by
    unfold Bo.pk
    rcases Bo.pk_mem Bs l (if r.2 < Bo.prio Bs i then ((i : Int), Bo.prio Bs i) else r) with h | ⟨j, hj, h⟩
    · rw [h]
      split
      · exact .inr ⟨i, by simp, rfl⟩
      · exact .inl rfl
    · exact .inr ⟨j, by simp [hj], h⟩
theorem Bo.best_able {Bs : List Bp} {Q : List Wq} (h : 0 ≤ Bo.best Bs Q) : ∃ i : Nat, Bo.best Bs Q = i ∧ Bo.able Bs Q i = true := by
  unfold Bo.best at h ⊢
  rcases Bo.pk_mem Bs (Bo.ables Bs Q Bs.length) (-1, -1) with h1 | ⟨i, hi, h1⟩
  · rw [h1] at h; simp at h
  · refine ⟨i, h1, ?_⟩
    unfold Bo.ables at hi
    rw [← Bo.ableK_eq]
    exact (List.mem_filter.1 hi).2
end Vg
namespace Vg
open Go
def oddS (TT : List Th) (TL : List Lin) : Bool := TT.any (fun t => !served1 t.bu t.pe) || TL.any (fun t => !(masked1 t.many t.wd && cost1 t.top))
def loadsOk (TT : List Th) (TL : List Lin) : Bool := !oddS TT TL && TL.all (fun t => cost1 (t.many * t.top))
def ldc : List Ld → List Value
  | [] => []
  | x :: l => .int .i64 x.pe :: .int .i64 0 :: .int .i64 x.pe :: .int .i64 x.co :: ldc l
theorem ldc_length : ∀ l : List Ld, (ldc l).length = l.length * 4
  | [] => rfl
  | x :: l => by simp [ldc, ldc_length l]; omega
theorem ldc_append : ∀ l m : List Ld, ldc (l ++ m) = ldc l ++ ldc m
  | [], m => rfl
  | x :: l, m => by simp [ldc, ldc_append l m]
def thOn (t : Th) : Bool := decide (-1 < t.pr)
theorem filt_snoc (T : List Th) (t : Th) : (T ++ [t]).filter thOn = T.filter thOn ++ if thOn t = true then [t] else [] := by
  rw [List.filter_append]
  congr 1
  by_cases h : thOn t = true
  · rw [if_pos h]; simp [h]
  · rw [if_neg h]; simp [h]
theorem four_new {w : World} {x y z u : Value} {t : TypeId} {n : Nat} (hn : n = w.heap.size) : ∀ j q, [x, y, z, u][j]? = some q → (w.alloc (.cells #[x, y, z, u] t)).cell? ((⟨n, 0, none⟩ : Addr).add j) = some q := by
  subst hn
  intro j q hu
  rw [Addr.add_lit, cells_of (w := w.alloc (.cells #[x, y, z, u] t)) (b := w.heap.size) (cs := #[x, y, z, u]) (t := t) (f := (0, 0)) (alloc_heap_at rfl)]
  simpa using hu
end Vg
namespace Go.Proofs.YtekjnagojphmkaaDoor
open Go.ChangeShapes Go.WideShapes Go.ChangeAt Go.RowKit
theorem Tryd.info_load : (Tryd.prog.info? 116).map (fun i => (i.zero, i.size, i.bytes)) = some (some (.agg #[.int .i64 0, .int .i64 0, .int .i64 0, .int .i64 0]), 4, 32) := by kernel_rfl
theorem sup_served' {b p : Int} {x : Bool} (hx : Vg.served1 b p = x) (pr d : Int) (w : World) : Calls Tryd.prog 74 #[.agg #[.int .i64 pr, .int .i64 b, .int .i64 p, .int .i64 d]] w fun e w' => e = .returned (.bool x) ∧ w' = w.alloc (.cells #[.int .i64 pr, .int .i64 b, .int .i64 p, .int .i64 d] 112) := by
  subst hx; exact sup_served _ _ _ _ _
theorem sup_masked' {m wi : Int} {x : Bool} (hx : Vg.masked1 m wi = x) (pr t : Int) (w : World) : Calls Tryd.prog 75 #[.agg #[.int .i64 pr, .int .i64 t, .int .i64 m, .int .i64 wi]] w fun e w' => e = .returned (.bool x) ∧ w' = w.alloc (.cells #[.int .i64 pr, .int .i64 t, .int .i64 m, .int .i64 wi] 62) := by
  subst hx; exact sup_masked _ _ _ _ _
theorem sup_cost' {n : Int} {x : Bool} (hx : Vg.cost1 n = x) (w : World) : Calls Tryd.prog 44 #[.int .i64 n] w fun e w' => e = .returned (.bool x) ∧ w = w' := by
  subst hx; exact sup_cost _ _
section
variable {w w' : World} {TT : List Vg.Th} {TL : List Vg.Lin} {sa ta : Option Addr} {sc tc n m : Nat} {x : Bool}
theorem sup_odd (hr : Vg.TR w sa sc TT) (hl : Vg.LR w ta tc TL) (hn : TT.length = n) (hm : TL.length = m) (hx : Vg.oddS TT TL = x) :
    Calls Tryd.prog 42 #[.slice sa n sc, .slice ta m tc] w fun e w' => e = .returned (.bool x) ∧ Vg.Grows w w' := by
  unfold Vg.oddS at hx
  have hnc : n ≤ sc := by rw [← hn]; exact hr.1
  have hsm : sc ≤ 9223372036854775807 := hr.2.1
  have hmc : m ≤ tc := by rw [← hm]; exact hl.1
  have htm : tc ≤ 9223372036854775807 := hl.2.1
  have H_hr := Lib.hid hr; clear hr; have H_hl := Lib.hid hl; clear hl; have H_hn := Lib.hid hn; clear hn; have H_hm := Lib.hid hm; clear hm; have H_hx := Lib.hid hx; clear hx
  go_enter Tryd.func42, Tryd.ntmps42
  go_wp2
  go_loopw [11] (fun i wr => ∃ k : Nat, k ≤ n ∧ i = .int .i64 k ∧ Vg.Grows w wr ∧ (TT.take k).any (fun t => !Vg.served1 t.bu t.pe) = false) (fun i _ => n - (intOf i).toNat)
  case atStart => exact ⟨0, by omega, rfl, Vg.Grows.refl _, by simp⟩
  case round =>
    obtain ⟨k, hk, rfl, hgr, hpre⟩ := hrel
    by_cases hlt : k < n
    · have hkT : k < TT.length := by rw [H_hn.out]; exact hlt
      obtain ⟨g, off, rfl, hg, c0, c1, c2, c3⟩ := H_hr.out.2.2 k hkT
      have hsn := List.take_succ_eq_append_getElem hkT
      obtain ⟨t, ht⟩ : ∃ t, TT[k] = t := ⟨_, rfl⟩
      rw [ht] at c0 c1 c2 c3 hsn
      have c0 := (hgr.below.cell (p := ⟨g, off + k * 4, none⟩) hg).trans c0
      have c1 := (hgr.below.cell (p := ⟨g, off + k * 4 + 1, none⟩) hg).trans c1
      have c2 := (hgr.below.cell (p := ⟨g, off + k * 4 + 2, none⟩) hg).trans c2
      have c3 := (hgr.below.cell (p := ⟨g, off + k * 4 + 3, none⟩) hg).trans c3
      have hgl : g < wr.heap.size := Nat.lt_of_lt_of_le hg hgr.size
      have hme : t ∈ TT := by rw [← ht]; exact List.getElem_mem _
      cases hs : Vg.served1 t.bu t.pe with
      | false =>
        have hxx : x = true := by
          rw [← H_hx.out, List.any_eq_true.2 ⟨t, hme, by rw [hs]; rfl⟩]; rfl
        subst hxx
        have H_hpre := Lib.hid hpre; clear hpre; have H_hsn := Lib.hid hsn; clear hsn; have H_ht := Lib.hid ht; clear ht; have H_hme := Lib.hid hme; clear hme; have H_hs := Lib.hid hs; clear hs
        go_wp2_with ((go_at_call 74; refine (sup_served' H_hs.out _ _ _).mono ?_; rintro e w1 ⟨rfl, rfl⟩))
        go_ret
        exact ⟨rfl, by (repeat' (first | (with_reducible exact Vg.Grows.refl _) | (with_reducible assumption) | (with_reducible refine Vg.Grows.alloc ?_ _) | (with_reducible refine Vg.Grows.plus ?_ _ _) | (with_reducible refine Vg.Grows.drewN ?_ _) | (with_reducible refine Vg.Grows.drew ?_) | (with_reducible refine Vg.Grows.setCell ?_ ?_ _) | (with_reducible refine Vg.Grows.put ?_ ?_ _) | omega | (simp; omega) | (simp; done)))⟩
      | true =>
        have hnx : (TT.take (k + 1)).any (fun t => !Vg.served1 t.bu t.pe) = false := by rw [hsn, List.any_append, hpre]; simp [hs]
        have H_hpre := Lib.hid hpre; clear hpre; have H_hsn := Lib.hid hsn; clear hsn; have H_ht := Lib.hid ht; clear ht; have H_hme := Lib.hid hme; clear hme; have H_hs := Lib.hid hs; clear hs; have H_hnx := Lib.hid hnx; clear hnx
        go_wp2_with ((go_at_call 74; refine (sup_served' H_hs.out _ _ _).mono ?_; rintro e w1 ⟨rfl, rfl⟩))
        exact ⟨⟨k + 1, by omega, by go_num, by (repeat' (first | (with_reducible exact Vg.Grows.refl _) | (with_reducible assumption) | (with_reducible refine Vg.Grows.alloc ?_ _) | (with_reducible refine Vg.Grows.plus ?_ _ _) | (with_reducible refine Vg.Grows.drewN ?_ _) | (with_reducible refine Vg.Grows.drew ?_) | (with_reducible refine Vg.Grows.setCell ?_ ?_ _) | (with_reducible refine Vg.Grows.put ?_ ?_ _) | omega | (simp; omega) | (simp; done))), H_hnx.out⟩, by simp [intOf]; omega⟩
    · have hall : TT.any (fun t => !Vg.served1 t.bu t.pe) = false := by rw [← hpre, List.take_of_length_le (by rw [H_hn.out]; omega)]
      have hx := H_hx.out
      rw [hall, Bool.false_or] at hx
      have hkn : k = n := by omega
      subst hkn
      have H_hpre := Lib.hid hpre; clear hpre; have H_hall := Lib.hid hall; clear hall; have H_hx := Lib.hid hx; clear hx
      go_wp2
      go_loopw [21] (fun i wr => ∃ k : Nat, k ≤ m ∧ i = .int .i64 k ∧ Vg.Grows w wr ∧ (TL.take k).any (fun t => !(Vg.masked1 t.many t.wd && Vg.cost1 t.top)) = false) (fun i _ => m - (intOf i).toNat)
      case atStart => exact ⟨0, by omega, rfl, hgr, by simp⟩
      case round =>
        obtain ⟨k, hk, rfl, hgr, hpre⟩ := hrel
        by_cases hlt : k < m
        · have hkT : k < TL.length := by rw [H_hm.out]; exact hlt
          obtain ⟨g, off, rfl, hg, c0, c1, c2, c3⟩ := H_hl.out.2.2 k hkT
          have hsn := List.take_succ_eq_append_getElem hkT
          obtain ⟨t, ht⟩ : ∃ t, TL[k] = t := ⟨_, rfl⟩
          rw [ht] at c0 c1 c2 c3 hsn
          have c0 := (hgr.below.cell (p := ⟨g, off + k * 4, none⟩) hg).trans c0
          have c1 := (hgr.below.cell (p := ⟨g, off + k * 4 + 1, none⟩) hg).trans c1
          have c2 := (hgr.below.cell (p := ⟨g, off + k * 4 + 2, none⟩) hg).trans c2
          have c3 := (hgr.below.cell (p := ⟨g, off + k * 4 + 3, none⟩) hg).trans c3
          have hgl : g < wr.heap.size := Nat.lt_of_lt_of_le hg hgr.size
          have hme : t ∈ TL := by rw [← ht]; exact List.getElem_mem _
          cases hs : Vg.masked1 t.many t.wd with
          | false =>
            have hxx : x = true := by
              rw [← H_hx.out]; exact List.any_eq_true.2 ⟨t, hme, by rw [hs]; rfl⟩
            subst hxx
            have H_hpre := Lib.hid hpre; clear hpre; have H_hsn := Lib.hid hsn; clear hsn; have H_ht := Lib.hid ht; clear ht; have H_hme := Lib.hid hme; clear hme; have H_hs := Lib.hid hs; clear hs
            go_wp2_with ((go_at_call 75; refine (sup_masked' H_hs.out _ _ _).mono ?_; rintro e w1 ⟨rfl, rfl⟩))
            go_ret
            exact ⟨rfl, by (repeat' (first | (with_reducible exact Vg.Grows.refl _) | (with_reducible assumption) | (with_reducible refine Vg.Grows.alloc ?_ _) | (with_reducible refine Vg.Grows.plus ?_ _ _) | (with_reducible refine Vg.Grows.drewN ?_ _) | (with_reducible refine Vg.Grows.drew ?_) | (with_reducible refine Vg.Grows.setCell ?_ ?_ _) | (with_reducible refine Vg.Grows.put ?_ ?_ _) | omega | (simp; omega) | (simp; done)))⟩
          | true =>
            cases hs2 : Vg.cost1 t.top with
            | false =>
              have hxx : x = true := by
                rw [← H_hx.out]; exact List.any_eq_true.2 ⟨t, hme, by rw [hs, hs2]; rfl⟩
              subst hxx
              have H_hpre := Lib.hid hpre; clear hpre; have H_hsn := Lib.hid hsn; clear hsn; have H_ht := Lib.hid ht; clear ht; have H_hme := Lib.hid hme; clear hme; have H_hs := Lib.hid hs; clear hs; have H_hs2 := Lib.hid hs2; clear hs2
              go_wp2_with (first | (go_at_call 75; refine (sup_masked' H_hs.out _ _ _).mono ?_; rintro e w1 ⟨rfl, rfl⟩) | (go_at_call 44; refine (sup_cost' H_hs2.out _).mono ?_; rintro e w1 ⟨rfl, rfl⟩))
              go_ret
              exact ⟨rfl, by (repeat' (first | (with_reducible exact Vg.Grows.refl _) | (with_reducible assumption) | (with_reducible refine Vg.Grows.alloc ?_ _) | (with_reducible refine Vg.Grows.plus ?_ _ _) | (with_reducible refine Vg.Grows.drewN ?_ _) | (with_reducible refine Vg.Grows.drew ?_) | (with_reducible refine Vg.Grows.setCell ?_ ?_ _) | (with_reducible refine Vg.Grows.put ?_ ?_ _) | omega | (simp; omega) | (simp; done)))⟩
            | true =>
              have hnx : (TL.take (k + 1)).any (fun t => !(Vg.masked1 t.many t.wd && Vg.cost1 t.top)) = false := by rw [hsn, List.any_append, hpre]; simp [hs, hs2]
              have H_hpre := Lib.hid hpre; clear hpre; have H_hsn := Lib.hid hsn; clear hsn; have H_ht := Lib.hid ht; clear ht; have H_hme := Lib.hid hme; clear hme; have H_hs := Lib.hid hs; clear hs; have H_hs2 := Lib.hid hs2; clear hs2; have H_hnx := Lib.hid hnx; clear hnx
              go_wp2_with (first | (go_at_call 75; refine (sup_masked' H_hs.out _ _ _).mono ?_; rintro e w1 ⟨rfl, rfl⟩) | (go_at_call 44; refine (sup_cost' H_hs2.out _).mono ?_; rintro e w1 ⟨rfl, rfl⟩))
              exact ⟨⟨k + 1, by omega, by go_num, by (repeat' (first | (with_reducible exact Vg.Grows.refl _) | (with_reducible assumption) | (with_reducible refine Vg.Grows.alloc ?_ _) | (with_reducible refine Vg.Grows.plus ?_ _ _) | (with_reducible refine Vg.Grows.drewN ?_ _) | (with_reducible refine Vg.Grows.drew ?_) | (with_reducible refine Vg.Grows.setCell ?_ ?_ _) | (with_reducible refine Vg.Grows.put ?_ ?_ _) | omega | (simp; omega) | (simp; done))), H_hnx.out⟩, by simp [intOf]; omega⟩
        · have hall : TL.any (fun t => !(Vg.masked1 t.many t.wd && Vg.cost1 t.top)) = false := by rw [← hpre, List.take_of_length_le (by rw [H_hm.out]; omega)]
          have hxx : x = false := by rw [← H_hx.out]; exact hall
          subst hxx
          have H_hpre := Lib.hid hpre; clear hpre; have H_hall := Lib.hid hall; clear hall
          go_wp2
          go_ret
          exact ⟨rfl, by (repeat' (first | (with_reducible exact Vg.Grows.refl _) | (with_reducible assumption) | (with_reducible refine Vg.Grows.alloc ?_ _) | (with_reducible refine Vg.Grows.plus ?_ _ _) | (with_reducible refine Vg.Grows.drewN ?_ _) | (with_reducible refine Vg.Grows.drew ?_) | (with_reducible refine Vg.Grows.setCell ?_ ?_ _) | (with_reducible refine Vg.Grows.put ?_ ?_ _) | omega | (simp; omega) | (simp; done)))⟩
theorem sup_loads (hr : Vg.TR w sa sc TT) (hl : Vg.LR w ta tc TL) (hn : TT.length = n) (hm : TL.length = m) (hn2 : n ≤ 1048576) (hm2 : m ≤ 1048576) :
    Calls Tryd.prog 15 #[.slice sa n sc, .slice ta m tc, .int .i64 (-1)] w fun e w' => Vg.Grows w w' ∧ ((Vg.loadsOk TT TL = true ∧ ∃ v N, ((TT.filter Vg.thOn).map Vg.ldT ++ TL.map Vg.ldL).length = N ∧ e = .returned (.tuple #[v, .int .i64 0]) ∧ Vg.Que w' w.heap.size 116 4 v N (Vg.ldc ((TT.filter Vg.thOn).map Vg.ldT ++ TL.map Vg.ldL))) ∨
      (Vg.loadsOk TT TL = false ∧ ∃ r, r ≠ 0 ∧ e = .returned (.tuple #[.slice none 0 0, .int .i64 r]))) := by
  obtain ⟨i0, hI, hz0, hz1, hz2⟩ := info_parts Tryd.info_load
  have hnc : n ≤ sc := by rw [← hn]; exact hr.1
  have hsm : sc ≤ 9223372036854775807 := hr.2.1
  have hmc : m ≤ tc := by rw [← hm]; exact hl.1
  have htm : tc ≤ 9223372036854775807 := hl.2.1
  cases hodd : Vg.oddS TT TL with
  | true =>
    have H_hr := Lib.hid hr; clear hr; have H_hl := Lib.hid hl; clear hl; have H_hn := Lib.hid hn; clear hn; have H_hm := Lib.hid hm; clear hm; have H_hodd := Lib.hid hodd; clear hodd
    go_enter Tryd.func15, Tryd.ntmps15
    go_wp2_with ((go_at_call 42; refine (sup_odd H_hr.out H_hl.out H_hn.out H_hm.out H_hodd.out).mono ?_; rintro e w1 ⟨rfl, x1, n1, rfl⟩))
    go_returns
    exact ⟨by (repeat' (first | (with_reducible exact Vg.Grows.refl _) | (with_reducible assumption) | (with_reducible refine Vg.Grows.alloc ?_ _) | (with_reducible refine Vg.Grows.plus ?_ _ _) | (with_reducible refine Vg.Grows.drewN ?_ _) | (with_reducible refine Vg.Grows.drew ?_) | (with_reducible refine Vg.Grows.setCell ?_ ?_ _) | (with_reducible refine Vg.Grows.put ?_ ?_ _) | omega | (simp; omega) | (simp; done))), .inr ⟨by unfold Vg.loadsOk; rw [H_hodd.out]; rfl, 2, by decide, rfl⟩⟩
  | false =>
    have hodd2 := hodd
    unfold Vg.oddS at hodd2
    rw [Bool.or_eq_false_iff] at hodd2
    have H_hr := Lib.hid hr; clear hr; have H_hl := Lib.hid hl; clear hl; have H_hn := Lib.hid hn; clear hn; have H_hm := Lib.hid hm; clear hm; have H_hodd := Lib.hid hodd; clear hodd; have H_hodd2 := Lib.hid hodd2; clear hodd2
    go_enter Tryd.func15, Tryd.ntmps15
    go_wp2_with ((go_at_call 42; refine (sup_odd H_hr.out H_hl.out H_hn.out H_hm.out H_hodd.out).mono ?_; rintro e w1 ⟨rfl, hg1⟩; have H_hg1 := Lib.hid hg1; clear hg1))
    go_loopw [8, 19] (fun v8 i wr => ∃ (k : Nat) (v : Value) (N : Nat), k ≤ n ∧ i = .int .i64 k ∧ v8 = v ∧ Vg.Grows w wr ∧ (((TT.take k).filter Vg.thOn).map Vg.ldT).length = N ∧ N ≤ k ∧ Vg.Que wr w.heap.size 116 4 v N (Vg.ldc (((TT.take k).filter Vg.thOn).map Vg.ldT))) (fun _ i _ => n - (intOf i).toNat)
    case atStart => exact ⟨0, _, 0, by omega, rfl, rfl, H_hg1.out, by simp, by omega, by simpa [Vg.ldc] using Vg.Que.nil _ _ _ _⟩
    case round =>
      obtain ⟨k, v, N, hk, rfl, rfl, hgr, hN, hNk, hq⟩ := hrel
      by_cases hlt : k < n
      · have hkT : k < TT.length := by rw [H_hn.out]; exact hlt
        obtain ⟨g, off, rfl, hg, c0, c1, c2, c3⟩ := H_hr.out.2.2 k hkT
        have hsn := List.take_succ_eq_append_getElem hkT
        obtain ⟨t, ht⟩ : ∃ t, TT[k] = t := ⟨_, rfl⟩
        rw [ht] at c0 c1 c2 c3 hsn
        have c0 := (hgr.below.cell (p := ⟨g, off + k * 4, none⟩) hg).trans c0
        have c1 := (hgr.below.cell (p := ⟨g, off + k * 4 + 1, none⟩) hg).trans c1
        have c2 := (hgr.below.cell (p := ⟨g, off + k * 4 + 2, none⟩) hg).trans c2
        have c3 := (hgr.below.cell (p := ⟨g, off + k * 4 + 3, none⟩) hg).trans c3
        have hgl : g < wr.heap.size := Nat.lt_of_lt_of_le hg hgr.size
        have hsz := hgr.size
        have hfs := Vg.filt_snoc (TT.take k) t
        rw [← hsn] at hfs
        obtain ⟨qa, qc, rfl⟩ := hq.shape
        by_cases hp : -1 < t.pr
        · have hnx : ((TT.take (k + 1)).filter Vg.thOn).map Vg.ldT = ((TT.take k).filter Vg.thOn).map Vg.ldT ++ [Vg.ldT t] := by
            rw [hfs, if_pos (by unfold Vg.thOn; simpa using hp), List.map_append]; rfl
          have H_hN := Lib.hid hN; clear hN; have H_hq := Lib.hid hq; clear hq; have H_hsn := Lib.hid hsn; clear hsn; have H_ht := Lib.hid ht; clear ht; have H_hfs := Lib.hid hfs; clear hfs; have H_hnx := Lib.hid hnx; clear hnx
          go_wp2_with (first | (go_at_call 43; (with_reducible refine (sup_steady _ _ _).mono ?_); rintro e w2 ⟨rfl, hg2⟩; have H_hg2 := Lib.hid hg2; clear hg2) | (at_builtin; (refine Vg.wpList_que1 (w := _) rfl (.tmp 27) (.tmp 33) 54 rfl w.heap.size 116 i0 (.agg #[.int .i64 0, .int .i64 0, .int .i64 0, .int .i64 0]) 4 32 Tryd.underlying54 hI hz0 hz1 hz2 rfl (by decide) (.slice qa N qc) N _ rfl (((H_hq.out.grows (by (repeat' (first | (with_reducible exact Vg.Grows.refl _) | (with_reducible assumption) | (with_reducible refine Vg.Grows.alloc ?_ _) | (with_reducible refine Vg.Grows.plus ?_ _ _) | (with_reducible refine Vg.Grows.drewN ?_ _) | (with_reducible refine Vg.Grows.drew ?_) | (with_reducible refine Vg.Grows.setCell ?_ ?_ _) | (with_reducible refine Vg.Grows.put ?_ ?_ _) | omega | (simp; omega) | (simp; done))))).grows H_hg2.out).grows (by (repeat' (first | (with_reducible exact Vg.Grows.refl _) | (with_reducible assumption) | (with_reducible refine Vg.Grows.alloc ?_ _) | (with_reducible refine Vg.Grows.plus ?_ _ _) | (with_reducible refine Vg.Grows.drewN ?_ _) | (with_reducible refine Vg.Grows.drew ?_) | (with_reducible refine Vg.Grows.setCell ?_ ?_ _) | (with_reducible refine Vg.Grows.put ?_ ?_ _) | omega | (simp; omega) | (simp; done))))) _ 1 [.int .i64 t.pe, .int .i64 0, .int .i64 t.pe, .int .i64 t.bu] rfl rfl (Vg.four_new (by first | rfl | ((try simp only [World.size_alloc, Vg.plus_size, Vg.put_size, World.size_setCell, World.size_drew, World.heap_drewN]) <;> omega))) (by simp [Value.oneCell']) (by unfold maxLen; omega) (by omega) (by decide) (by have := H_hg2.out.size; simp only [World.size_alloc] at this ⊢; omega) ?_; intro v2 W1 y2 m2 hq2 hs2 ho2; have hgW2 := hs2.grows ((((hgr.alloc _).trans H_hg2.out)).alloc _) (fun j hj => (H_hq.out.lt j hj).1); obtain ⟨a6, c6, rfl⟩ := hq2.shape; have H_hq2 := Lib.hid hq2; clear hq2; have H_hs2 := Lib.hid hs2; clear hs2; have H_ho2 := Lib.hid ho2; clear ho2)))
          refine ⟨⟨k + 1, .slice a6 (N + 1) c6, N + 1, by omega, by go_num, rfl, by (repeat' (first | (with_reducible exact Vg.Grows.refl _) | (with_reducible assumption) | (with_reducible refine Vg.Grows.alloc ?_ _) | (with_reducible refine Vg.Grows.plus ?_ _ _) | (with_reducible refine Vg.Grows.drewN ?_ _) | (with_reducible refine Vg.Grows.drew ?_) | (with_reducible refine Vg.Grows.setCell ?_ ?_ _) | (with_reducible refine Vg.Grows.put ?_ ?_ _) | omega | (simp; omega) | (simp; done))), by rw [H_hnx.out, List.length_append, H_hN.out]; rfl, by omega, ?_⟩, by simp [intOf]; omega⟩
          rw [H_hnx.out, Vg.ldc_append]
          exact H_hq2.out
        · have hnx : ((TT.take (k + 1)).filter Vg.thOn).map Vg.ldT = ((TT.take k).filter Vg.thOn).map Vg.ldT := by
            rw [hfs, if_neg (by unfold Vg.thOn; simpa using hp), List.append_nil]
          have H_hN := Lib.hid hN; clear hN; have H_hq := Lib.hid hq; clear hq; have H_hsn := Lib.hid hsn; clear hsn; have H_ht := Lib.hid ht; clear ht; have H_hfs := Lib.hid hfs; clear hfs; have H_hnx := Lib.hid hnx; clear hnx
          go_wp2
          refine ⟨⟨k + 1, .slice qa N qc, N, by omega, by go_num, rfl, by (repeat' (first | (with_reducible exact Vg.Grows.refl _) | (with_reducible assumption) | (with_reducible refine Vg.Grows.alloc ?_ _) | (with_reducible refine Vg.Grows.plus ?_ _ _) | (with_reducible refine Vg.Grows.drewN ?_ _) | (with_reducible refine Vg.Grows.drew ?_) | (with_reducible refine Vg.Grows.setCell ?_ ?_ _) | (with_reducible refine Vg.Grows.put ?_ ?_ _) | omega | (simp; omega) | (simp; done))), by rw [H_hnx.out, H_hN.out], by omega, ?_⟩, by simp [intOf]; omega⟩
          rw [H_hnx.out]
          exact H_hq.out.grows (by (repeat' (first | (with_reducible exact Vg.Grows.refl _) | (with_reducible assumption) | (with_reducible refine Vg.Grows.alloc ?_ _) | (with_reducible refine Vg.Grows.plus ?_ _ _) | (with_reducible refine Vg.Grows.drewN ?_ _) | (with_reducible refine Vg.Grows.drew ?_) | (with_reducible refine Vg.Grows.setCell ?_ ?_ _) | (with_reducible refine Vg.Grows.put ?_ ?_ _) | omega | (simp; omega) | (simp; done))))
      · have hkn : k = n := by omega
        subst hkn
        rw [List.take_of_length_le (by rw [H_hn.out]; exact Nat.le_refl _)] at hN hq
        obtain ⟨A, hA⟩ : ∃ A, (TT.filter Vg.thOn).map Vg.ldT = A := ⟨_, rfl⟩
        rw [hA] at hN hq
        clear H_hg1
        have H_hN := Lib.hid hN; clear hN; have H_hq := Lib.hid hq; clear hq; have H_hA := Lib.hid hA; clear hA
        go_wp2
        go_loopw [8, 38] (fun v8 i wr => ∃ (j : Nat) (v : Value) (N : Nat), j ≤ m ∧ i = .int .i64 j ∧ v8 = v ∧ Vg.Grows w wr ∧ (A ++ (TL.take j).map Vg.ldL).length = N ∧ N ≤ k + j ∧ Vg.Que wr w.heap.size 116 4 v N (Vg.ldc (A ++ (TL.take j).map Vg.ldL)) ∧ (TL.take j).all (fun t => Vg.cost1 (t.many * t.top)) = true) (fun _ i _ => m - (intOf i).toNat)
        case atStart => exact ⟨0, _, N, by omega, rfl, rfl, hgr, by simpa using H_hN.out, by omega, by simpa using H_hq.out, by simp⟩
        case round =>
          obtain ⟨j, v, N', hj, rfl, rfl, hgr, hN, hNk, hq, hpre⟩ := hrel
          clear H_hN H_hq
          by_cases hlt : j < m
          · have hkT : j < TL.length := by rw [H_hm.out]; exact hlt
            obtain ⟨g, off, rfl, hg, c0, c1, c2, c3⟩ := H_hl.out.2.2 j hkT
            have hsn := List.take_succ_eq_append_getElem hkT
            obtain ⟨t, ht⟩ : ∃ t, TL[j] = t := ⟨_, rfl⟩
            rw [ht] at c0 c1 c2 c3 hsn
            have c0 := (hgr.below.cell (p := ⟨g, off + j * 4, none⟩) hg).trans c0
            have c1 := (hgr.below.cell (p := ⟨g, off + j * 4 + 1, none⟩) hg).trans c1
            have c2 := (hgr.below.cell (p := ⟨g, off + j * 4 + 2, none⟩) hg).trans c2
            have c3 := (hgr.below.cell (p := ⟨g, off + j * 4 + 3, none⟩) hg).trans c3
            have hgl : g < wr.heap.size := Nat.lt_of_lt_of_le hg hgr.size
            have hsz := hgr.size
            have hme : t ∈ TL := by rw [← ht]; exact List.getElem_mem _
            have hgood : (1 ≤ t.many ∧ t.many ≤ 64) ∧ 1 ≤ t.top ∧ t.top ≤ 1099511627776 := by
              have h9 := List.any_eq_false.1 H_hodd2.out.2 t hme
              simp only [Vg.masked1, Vg.cost1, Bool.not_eq_true', Bool.not_eq_false, Bool.and_eq_true, decide_eq_true_eq] at h9
              omega
            have hb1 : t.many * t.top ≤ 64 * 1099511627776 := Int.mul_le_mul hgood.1.2 hgood.2.2 (by omega) (by omega)
            have hb0 : 0 ≤ t.many * t.top := Int.mul_nonneg (by omega) (by omega)
            have hw1 : IntKind.i64.wrap (t.many * t.top) = t.many * t.top := by rw [IntKind.wrap_i64]; omega
            obtain ⟨qa, qc, rfl⟩ := hq.shape
            have hco : (Vg.ldL t).co = t.many * t.top := rfl
            obtain ⟨mt, hmt⟩ : ∃ mt, t.many * t.top = mt := ⟨_, rfl⟩
            rw [hmt] at hw1 hco hb1 hb0
            have hw2 : wrap64 (t.many * t.top) = mt := by rw [hmt]; unfold wrap64; omega
            cases hc : Vg.cost1 mt with
            | false =>
              have hbad : Vg.loadsOk TT TL = false := by
                unfold Vg.loadsOk
                have : TL.all (fun t => Vg.cost1 (t.many * t.top)) = false := by
                  cases hh : TL.all (fun t => Vg.cost1 (t.many * t.top)) with
                  | false => rfl
                  | true =>
                    have h9 := List.all_eq_true.1 hh t hme
                    rw [hmt, hc] at h9; cases h9
                rw [this, Bool.and_false]
              have H_hN := Lib.hid hN; clear hN; have H_hq := Lib.hid hq; clear hq; have H_hsn := Lib.hid hsn; clear hsn; have H_ht := Lib.hid ht; clear ht; have H_hc := Lib.hid hc; clear hc; have H_hpre := Lib.hid hpre; clear hpre; have H_hbad := Lib.hid hbad; clear hbad; have H_hb0 := Lib.hid hb0; clear hb0; have H_hb1 := Lib.hid hb1; clear hb1; have H_hmt := Lib.hid hmt; clear hmt; have H_hco := Lib.hid hco; clear hco; have H_hgood := Lib.hid hgood; clear hgood; have H_hme := Lib.hid hme; clear hme
              go_wp2_with ((go_at_call 44; refine (sup_cost' H_hc.out _).mono ?_; rintro e w2 ⟨rfl, rfl⟩))
              go_returns
              exact ⟨by (repeat' (first | (with_reducible exact Vg.Grows.refl _) | (with_reducible assumption) | (with_reducible refine Vg.Grows.alloc ?_ _) | (with_reducible refine Vg.Grows.plus ?_ _ _) | (with_reducible refine Vg.Grows.drewN ?_ _) | (with_reducible refine Vg.Grows.drew ?_) | (with_reducible refine Vg.Grows.setCell ?_ ?_ _) | (with_reducible refine Vg.Grows.put ?_ ?_ _) | omega | (simp; omega) | (simp; done))), .inr ⟨H_hbad.out, 10, by decide, rfl⟩⟩
            | true =>
              have hnx : A ++ (TL.take (j + 1)).map Vg.ldL = A ++ (TL.take j).map Vg.ldL ++ [Vg.ldL t] := by rw [hsn, List.map_append, List.append_assoc]; rfl
              have hpx : (TL.take (j + 1)).all (fun t => Vg.cost1 (t.many * t.top)) = true := by rw [hsn, List.all_append, hpre]; simp [hmt, hc]
              have hld : Vg.ldc [Vg.ldL t] = [.int .i64 t.wd, .int .i64 0, .int .i64 t.wd, .int .i64 mt] := by simp [Vg.ldc, Vg.ldL, hmt]
              have H_hN := Lib.hid hN; clear hN; have H_hq := Lib.hid hq; clear hq; have H_hsn := Lib.hid hsn; clear hsn; have H_ht := Lib.hid ht; clear ht; have H_hc := Lib.hid hc; clear hc; have H_hpre := Lib.hid hpre; clear hpre; have H_hb0 := Lib.hid hb0; clear hb0; have H_hb1 := Lib.hid hb1; clear hb1; have H_hmt := Lib.hid hmt; clear hmt; have H_hco := Lib.hid hco; clear hco; have H_hgood := Lib.hid hgood; clear hgood; have H_hme := Lib.hid hme; clear hme; have H_hnx := Lib.hid hnx; clear hnx; have H_hpx := Lib.hid hpx; clear hpx; have H_hld := Lib.hid hld; clear hld
              go_wp2_with (first | (go_at_call 44; refine (sup_cost' H_hc.out _).mono ?_; rintro e w2 ⟨rfl, rfl⟩) | (go_at_call 43; (with_reducible refine (sup_steady _ _ _).mono ?_); rintro e w2 ⟨rfl, hg2⟩; have H_hg2 := Lib.hid hg2; clear hg2) | (at_builtin; (refine Vg.wpList_que1 (w := _) rfl (.tmp 50) (.tmp 55) 54 rfl w.heap.size 116 i0 (.agg #[.int .i64 0, .int .i64 0, .int .i64 0, .int .i64 0]) 4 32 Tryd.underlying54 hI hz0 hz1 hz2 rfl (by decide) (.slice qa N' qc) N' _ rfl (((H_hq.out.grows (by (repeat' (first | (with_reducible exact Vg.Grows.refl _) | (with_reducible assumption) | (with_reducible refine Vg.Grows.alloc ?_ _) | (with_reducible refine Vg.Grows.plus ?_ _ _) | (with_reducible refine Vg.Grows.drewN ?_ _) | (with_reducible refine Vg.Grows.drew ?_) | (with_reducible refine Vg.Grows.setCell ?_ ?_ _) | (with_reducible refine Vg.Grows.put ?_ ?_ _) | omega | (simp; omega) | (simp; done))))).grows H_hg2.out).grows (by (repeat' (first | (with_reducible exact Vg.Grows.refl _) | (with_reducible assumption) | (with_reducible refine Vg.Grows.alloc ?_ _) | (with_reducible refine Vg.Grows.plus ?_ _ _) | (with_reducible refine Vg.Grows.drewN ?_ _) | (with_reducible refine Vg.Grows.drew ?_) | (with_reducible refine Vg.Grows.setCell ?_ ?_ _) | (with_reducible refine Vg.Grows.put ?_ ?_ _) | omega | (simp; omega) | (simp; done))))) _ 1 [.int .i64 t.wd, .int .i64 0, .int .i64 t.wd, .int .i64 mt] rfl rfl (Vg.four_new (by first | rfl | ((try simp only [World.size_alloc, Vg.plus_size, Vg.put_size, World.size_setCell, World.size_drew, World.heap_drewN]) <;> omega))) (by simp [Value.oneCell']) (by unfold maxLen; omega) (by omega) (by decide) (by have := H_hg2.out.size; simp only [World.size_alloc] at this ⊢; omega) ?_; intro v2 W1 y2 m2 hq2 hs2 ho2; have hgW2 := hs2.grows ((((hgr.alloc _).trans H_hg2.out)).alloc _) (fun j hj => (H_hq.out.lt j hj).1); obtain ⟨a6, c6, rfl⟩ := hq2.shape; have H_hq2 := Lib.hid hq2; clear hq2; have H_hs2 := Lib.hid hs2; clear hs2; have H_ho2 := Lib.hid ho2; clear ho2)))
              refine ⟨⟨j + 1, .slice a6 (N' + 1) c6, N' + 1, by omega, by go_num, rfl, by (repeat' (first | (with_reducible exact Vg.Grows.refl _) | (with_reducible assumption) | (with_reducible refine Vg.Grows.alloc ?_ _) | (with_reducible refine Vg.Grows.plus ?_ _ _) | (with_reducible refine Vg.Grows.drewN ?_ _) | (with_reducible refine Vg.Grows.drew ?_) | (with_reducible refine Vg.Grows.setCell ?_ ?_ _) | (with_reducible refine Vg.Grows.put ?_ ?_ _) | omega | (simp; omega) | (simp; done))), by rw [H_hnx.out, List.length_append, H_hN.out]; rfl, by omega, ?_, H_hpx.out⟩, by simp [intOf]; omega⟩
              rw [H_hnx.out, Vg.ldc_append, H_hld.out]
              exact H_hq2.out
          · have hjm : j = m := by omega
            subst hjm
            rw [List.take_of_length_le (by rw [H_hm.out]; exact Nat.le_refl _)] at hN hq hpre
            have hgood : Vg.loadsOk TT TL = true := by unfold Vg.loadsOk; rw [H_hodd.out, hpre]; rfl
            have H_hN := Lib.hid hN; clear hN; have H_hq := Lib.hid hq; clear hq; have H_hpre := Lib.hid hpre; clear hpre; have H_hgood := Lib.hid hgood; clear hgood
            go_wp2
            go_returns
            exact ⟨by (repeat' (first | (with_reducible exact Vg.Grows.refl _) | (with_reducible assumption) | (with_reducible refine Vg.Grows.alloc ?_ _) | (with_reducible refine Vg.Grows.plus ?_ _ _) | (with_reducible refine Vg.Grows.drewN ?_ _) | (with_reducible refine Vg.Grows.drew ?_) | (with_reducible refine Vg.Grows.setCell ?_ ?_ _) | (with_reducible refine Vg.Grows.put ?_ ?_ _) | omega | (simp; omega) | (simp; done))), .inl ⟨H_hgood.out, _, N', by rw [H_hA.out]; exact H_hN.out, rfl, by rw [H_hA.out]; exact H_hq.out.grows (by (repeat' (first | (with_reducible exact Vg.Grows.refl _) | (with_reducible assumption) | (with_reducible refine Vg.Grows.alloc ?_ _) | (with_reducible refine Vg.Grows.plus ?_ _ _) | (with_reducible refine Vg.Grows.drewN ?_ _) | (with_reducible refine Vg.Grows.drew ?_) | (with_reducible refine Vg.Grows.setCell ?_ ?_ _) | (with_reducible refine Vg.Grows.put ?_ ?_ _) | omega | (simp; omega) | (simp; done))))⟩⟩
end
end Go.Proofs.YtekjnagojphmkaaDoor
namespace Vg
open Go
/-- A load that comes once each period, of no more than a cost. -/
def Ld.ok (x : Ld) : Prop := (1 ≤ x.pe ∧ x.pe ≤ 1099511627776) ∧ (0 ≤ x.co ∧ x.co ≤ 1099511627776)
theorem ldc_get : ∀ (l : List Ld) (k : Nat) (h : k < l.length), (ldc l)[k * 4]? = some (.int .i64 l[k].pe) ∧ (ldc l)[k * 4 + 1]? = some (.int .i64 0) ∧ (ldc l)[k * 4 + 2]? = some (.int .i64 l[k].pe) ∧ (ldc l)[k * 4 + 3]? = some (.int .i64 l[k].co)
  | [], k, h => by simp at h
  | x :: l, 0, _ => by simp [ldc]
  | x :: l, k + 1, h => by
    have := ldc_get l k (by simpa using h)
    rw [show (k + 1) * 4 = k * 4 + 1 + 1 + 1 + 1 from by omega]
    simpa [ldc] using this
/-- A row of loads is read. -/
def LdR (w : World) (v : Value) (N : Nat) (L : List Ld) : Prop := L.length = N ∧ Reads 0 w v N (ldc L)
theorem LdR.grows {w w' : World} {v : Value} {N : Nat} {L : List Ld} (h : LdR w v N L) (hg : Grows w w') : LdR w' v N L := ⟨h.1, h.2.grows hg⟩
/-- What 'times' answers. -/
def tms (n co lim : Int) : Int × Bool := if 0 < co ∧ lim / co < n then (0, false) else (n * co, true)
theorem tms_ok {n co lim r : Int} (hn : 0 ≤ n) (hc : 0 ≤ co) (hl : 0 ≤ lim) (h : tms n co lim = (r, true)) : r = n * co ∧ 0 ≤ r ∧ r ≤ lim := by
  unfold tms at h
  split at h
  · simp at h
  · rename_i hh
    simp only [Prod.mk.injEq, and_true] at h
    subst h
    refine ⟨rfl, Int.mul_nonneg hn hc, ?_⟩
    by_cases h0 : co = 0
    · subst h0; omega
    · exact Int.mul_le_of_le_ediv (by omega) (by omega)
theorem LdR.at {w : World} {a : Option Addr} {c N : Nat} {L : List Ld} (h : LdR w (.slice a N c) N L) (k : Nat) (hk : k < L.length) :
    ∃ g o, a = some ⟨g, o, none⟩ ∧ g < w.heap.size ∧ N ≤ c ∧ c ≤ 9223372036854775807 ∧ w.cell? ⟨g, o + k * 4, none⟩ = some (.int .i64 L[k].pe) ∧ w.cell? ⟨g, o + k * 4 + 1, none⟩ = some (.int .i64 0) ∧ w.cell? ⟨g, o + k * 4 + 2, none⟩ = some (.int .i64 L[k].pe) ∧ w.cell? ⟨g, o + k * 4 + 3, none⟩ = some (.int .i64 L[k].co) := by
  obtain ⟨hl, hr⟩ := h
  subst hl
  have hll := ldc_length L
  obtain ⟨g, o, rfl, hg, hc, hm, hx⟩ := hr.open (by omega)
  obtain ⟨g0, g1, g2, g3⟩ := ldc_get L k hk
  have key : ∀ j u, k * 4 + j < (ldc L).length → (ldc L)[k * 4 + j]? = some u → w.cell? ⟨g, o + k * 4 + j, none⟩ = some u := fun j u hj hu => by
    have := hx (k * 4 + j) hj
    rw [← Nat.add_assoc] at this
    rw [this, ← hu, List.getElem?_eq_getElem]
  have hhc : c ≤ 9223372036854775807 := hm
  exact ⟨g, o, rfl, hg, hc, hhc, by simpa using key 0 _ (by omega) g0, key 1 _ (by omega) g1, key 2 _ (by omega) g2, key 3 _ (by omega) g3⟩
end Vg
namespace Go.Proofs.YtekjnagojphmkaaDoor
open Go.ChangeShapes Go.WideShapes Go.ChangeAt Go.RowKit
theorem dem_right (pe co : Int) (w : World) (hp : 1 ≤ pe) (hp1 : pe ≤ 1099511627776) (hc : 0 ≤ co) (hc1 : co ≤ 1099511627776) : Calls Tryd.prog 83 #[.agg #[.int .i64 pe, .int .i64 0, .int .i64 pe, .int .i64 co]] w fun e w' => e = .returned (.bool true) ∧ Vg.Grows w w' := by
  go_enter Tryd.func83, Tryd.ntmps83
  go_upto_region 1 with fail
  obtain ⟨bx, hbx⟩ : ∃ bx, w.heap.size = bx := ⟨_, rfl⟩
  obtain ⟨w1, hw1⟩ : ∃ w1, w.alloc (.cells #[.int .i64 pe, .int .i64 0, .int .i64 pe, .int .i64 co] 116) = w1 := ⟨_, rfl⟩
  have x1 : Vg.blk w1 bx = some (.cells #[.int .i64 pe, .int .i64 0, .int .i64 pe, .int .i64 co] 116) := by rw [← hw1, ← hbx]; exact Vg.alloc_heap_at rfl
  have hg0 : Vg.Grows w w1 := by rw [← hw1]; exact (Vg.Grows.refl w).alloc _
  simp only [hbx]
  rw [hw1]
  have c_x1 := Vg.cells_of x1; have f_x1 := Vg.frozen_of x1; have p_x1 := Vg.setCell_of x1; have l_x1 := Vg.lt_of x1; have H_x1 := Lib.hid x1; clear x1
  have H_hg0 := Lib.hid hg0; clear hg0; have H_hw1 := Lib.hid hw1; clear hw1; have H_hbx := Lib.hid hbx; clear hbx
  go_wp2_with ((go_at_call 92; (with_reducible refine (cur_check _ _ hp hp1).mono ?_); rintro e2 w2 ⟨rfl, hg2⟩; have x2 := hg2.blk H_x1.out; clear c_x1 f_x1 p_x1; have c_x2 := Vg.cells_of x2; have f_x2 := Vg.frozen_of x2; have p_x2 := Vg.setCell_of x2; have l_x2 := Vg.lt_of x2; have H_x2 := Lib.hid x2; clear x2; have H_hg2 := Lib.hid hg2; clear hg2))
  go_ret
  exact ⟨ret_bool (by simp; try omega), H_hg0.out.trans (by first | exact H_hg2.out | exact H_hg2.out.drew | (repeat' (first | (with_reducible exact Vg.Grows.refl _) | (with_reducible assumption) | (with_reducible refine Vg.Grows.alloc ?_ _) | (with_reducible refine Vg.Grows.plus ?_ _ _) | (with_reducible refine Vg.Grows.drewN ?_ _) | (with_reducible refine Vg.Grows.drew ?_) | (with_reducible refine Vg.Grows.setCell ?_ ?_ _) | (with_reducible refine Vg.Grows.put ?_ ?_ _) | omega | (simp; omega) | (simp; done))))⟩
theorem dem_times (n co lim : Int) (w : World) (hn : 0 ≤ n) (hc : 0 ≤ co) (hl : 0 ≤ lim) (hl2 : lim ≤ 4503599627370496) (hn2 : n ≤ 4503599627370496) (hc2 : co ≤ 1099511627776) {r : Int} {ok : Bool} (hx : Vg.tms n co lim = (r, ok)) :
    Calls Tryd.prog 59 #[.int .i64 n, .int .i64 co, .int .i64 lim] w fun e w' => e = .returned (.tuple #[.int .i64 r, .bool ok]) ∧ w = w' := by
  unfold Vg.tms at hx
  by_cases hc0 : co = 0
  · subst hc0
    have hw : IntKind.i64.wrap (n * 0) = n * 0 := by rw [IntKind.wrap_i64]; omega
    rw [if_neg (by omega)] at hx
    simp only [Prod.mk.injEq] at hx
    obtain ⟨rfl, rfl⟩ := hx
    go_enter Tryd.func59, Tryd.ntmps59
    go_wp2
    go_returns
    exact ⟨by simp, rfl⟩
  · have hcp : 0 < co := by omega
    have hq : lim.tdiv co = lim / co := Int.tdiv_eq_ediv_of_nonneg hl
    have hd0 : 0 ≤ lim / co := Int.ediv_nonneg hl hc
    have hd1 : lim / co ≤ lim := Int.ediv_le_self _ hl
    have hwq : IntKind.i64.wrap (lim / co) = lim / co := by rw [IntKind.wrap_i64]; omega
    have hwq2 : wrap64 (lim / co) = lim / co := by unfold wrap64; omega
    by_cases hle : n ≤ lim / co
    · have hm : n * co ≤ lim := Int.mul_le_of_le_ediv hcp hle
      have hm0 : 0 ≤ n * co := Int.mul_nonneg hn hc
      have hw : IntKind.i64.wrap (n * co) = n * co := by rw [IntKind.wrap_i64]; omega
      have q1 : decide (lim / co < n) = false := decide_eq_false (by omega)
      rw [if_neg (by omega)] at hx
      simp only [Prod.mk.injEq] at hx
      obtain ⟨rfl, rfl⟩ := hx
      go_enter Tryd.func59, Tryd.ntmps59
      go_wp2
      go_returns
      exact ⟨by simp, rfl⟩
    · have q1 : decide (lim / co < n) = true := decide_eq_true (by omega)
      rw [if_pos ⟨hcp, by omega⟩] at hx
      simp only [Prod.mk.injEq] at hx
      obtain ⟨rfl, rfl⟩ := hx
      go_enter Tryd.func59, Tryd.ntmps59
      go_wp2
      go_returns
      exact ⟨by simp, rfl⟩
section
variable {w w' : World} {v : Value} {a : Option Addr} {c N : Nat} {L : List Vg.Ld}
theorem dem_check (h : Vg.LdR w (.slice a N c) N L) (hN : N ≤ 256) (hL : ∀ x ∈ L, x.ok) (hc : c ≤ 9223372036854775807) : Calls Tryd.prog 57 #[.slice a N c] w fun e w' => e = .returned (.int .i64 0) ∧ Vg.Grows w w' := by
  have hl := h.1
  have H_h := Lib.hid h; clear h; have H_hL := Lib.hid hL; clear hL
  go_enter Tryd.func57, Tryd.ntmps57
  go_wp2
  go_loopw [10] (fun i wr => ∃ k : Nat, k ≤ N ∧ i = .int .i64 k ∧ Vg.Grows w wr) (fun i _ => N - (intOf i).toNat)
  case atStart => exact ⟨0, by omega, rfl, Vg.Grows.refl _⟩
  case round =>
    obtain ⟨k, hk, rfl, hgr⟩ := hrel
    by_cases hlt : k < N
    · have hkL : k < L.length := by omega
      have hx := H_hL.out _ (List.getElem_mem hkL)
      obtain ⟨g, o, rfl, hg, hNc, -, c0, c1, c2, c3⟩ := (H_h.out.grows hgr).at k hkL
      obtain ⟨x, hxe⟩ : ∃ x, L[k] = x := ⟨_, rfl⟩
      rw [hxe] at hx c0 c2 c3
      obtain ⟨⟨hp, hp1⟩, hc0, hc1⟩ := hx
      have H_hxe := Lib.hid hxe; clear hxe
      go_wp2_with ((go_at_call 83; (with_reducible refine (dem_right _ _ _ hp hp1 hc0 hc1).mono ?_); rintro e2 w2 ⟨rfl, hg2⟩; have H_hg2 := Lib.hid hg2; clear hg2))
      exact ⟨⟨k + 1, by omega, by go_num, (by first | exact (hgr.trans ((Vg.Grows.refl _).alloc _)).trans H_hg2.out | (repeat' (first | (with_reducible exact Vg.Grows.refl _) | (with_reducible assumption) | (with_reducible refine Vg.Grows.alloc ?_ _) | (with_reducible refine Vg.Grows.plus ?_ _ _) | (with_reducible refine Vg.Grows.drewN ?_ _) | (with_reducible refine Vg.Grows.drew ?_) | (with_reducible refine Vg.Grows.setCell ?_ ?_ _) | (with_reducible refine Vg.Grows.put ?_ ?_ _) | omega | (simp; omega) | (simp; done))))⟩, by simp [intOf]; omega⟩
    · have hkn : k = N := by omega
      subst hkn
      go_wp2
      go_ret
      exact ⟨rfl, by (repeat' (first | (with_reducible exact Vg.Grows.refl _) | (with_reducible assumption) | (with_reducible refine Vg.Grows.alloc ?_ _) | (with_reducible refine Vg.Grows.plus ?_ _ _) | (with_reducible refine Vg.Grows.drewN ?_ _) | (with_reducible refine Vg.Grows.drew ?_) | (with_reducible refine Vg.Grows.setCell ?_ ?_ _) | (with_reducible refine Vg.Grows.put ?_ ?_ _) | omega | (simp; omega) | (simp; done)))⟩
end
end Go.Proofs.YtekjnagojphmkaaDoor
namespace Vg
open Go
theorem up_upz {p x : Int} (h : 0 ≤ x) : (if x = 0 then 0 else up p x) = upz p x := by
  unfold up upz
  by_cases h0 : x = 0
  · rw [if_pos h0, if_pos (by omega)]
  · rw [if_neg h0, if_neg (by omega)]
theorem upz_le {p x : Int} (hp : 1 ≤ p) (h : 0 ≤ x) : upz p x ≤ x := by
  unfold upz
  split
  · omega
  · have h1 : x ≤ x * p := by have := Int.mul_le_mul_of_nonneg_left hp h; omega
    have h2 : (x + p - 1) / p < x + 1 := (Int.ediv_lt_iff_lt_mul (by omega)).2 (by rw [Int.add_mul, Int.one_mul]; omega)
    omega
def ldAt (L : List Ld) (i : Nat) : Ld := L[i]?.getD ⟨1, 0⟩
theorem ldAt_ok {L : List Ld} (h : ∀ x ∈ L, x.ok) (i : Nat) : (ldAt L i).ok := by
  unfold ldAt
  cases hx : L[i]? with
  | none => exact ⟨⟨by show (1 : Int) ≤ 1; omega, by show (1 : Int) ≤ _; omega⟩, by show (0 : Int) ≤ 0; omega, by show (0 : Int) ≤ _; omega⟩
  | some x => exact h x (List.mem_iff_getElem?.2 ⟨i, hx⟩)
/-- What the loads up to some ask for. -/
def psum (T : Int) (L : List Ld) : List Nat → Int
  | [] => 0
  | i :: l => upz (ldAt L i).pe T * (ldAt L i).co + psum T L l
theorem psum_snoc (T : Int) (L : List Ld) : ∀ (l : List Nat) (i : Nat), psum T L (l ++ [i]) = psum T L l + upz (ldAt L i).pe T * (ldAt L i).co
  | [], i => by simp [psum]
  | j :: l, i => by simp only [List.cons_append, psum, psum_snoc T L l i]; omega
theorem dmd_snoc (T : Int) (l : List Ld) (x : Ld) : dmd T (l ++ [x]) = dmd T l + upz x.pe T * x.co := by rw [dmd_append]; simp [dmd]
theorem psum_take (T : Int) (L : List Ld) : ∀ k, k ≤ L.length → psum T L (List.range k) = dmd T (L.take k)
  | 0, _ => by simp [psum, dmd]
  | k + 1, h => by
    have hk : k < L.length := by omega
    rw [List.range_succ, psum_snoc, psum_take T L k (by omega), List.take_succ_eq_append_getElem hk, dmd_snoc]
    unfold ldAt
    rw [List.getElem?_eq_getElem hk]
    rfl
theorem psum_all (T : Int) (L : List Ld) : psum T L (List.range L.length) = dmd T L := by
  rw [psum_take T L _ (Nat.le_refl _), List.take_length]
theorem LdR.kept {w w' : World} {v : Value} {N : Nat} {L : List Ld} (h : LdR w v N L) (hs : w.heap.size ≤ w'.heap.size) (hk : ∀ k, v.ownBlock = some k → w'.heap[k]? = w.heap[k]?) : LdR w' v N L := by
  refine ⟨h.1, ?_⟩
  rcases h.2 with h0 | ⟨g, off, cap, e, h2, h3, h4, h5, h6⟩
  · exact .inl h0
  · refine .inr ⟨g, off, cap, e, h2, Nat.lt_of_lt_of_le h3 hs, h4, h5, fun j hj => ?_⟩
    rw [← h6 j hj]
    exact World.cell?_of_block (w := w) (hk g (by rw [e]; rfl))
theorem LdR.own_lt {w : World} {v : Value} {N : Nat} {L : List Ld} (h : LdR w v N L) : ∀ k, v.ownBlock = some k → k < w.heap.size := fun k hk => (h.2.own_lt k hk).2
theorem ownFrom_const {β : Type} (B : Nat) (p : β → Prop) : OwnFrom (β := β) B (fun x _ => p x) := fun _ _ _ _ hs _ _ => hs
end Vg
namespace Go.Proofs.YtekjnagojphmkaaDoor
open Go.ChangeShapes Go.WideShapes Go.ChangeAt Go.RowKit Go.Shelf
attribute [local go_sem] Oper.semAt_some
theorem results_cell2 {fn : Func} {p u : Tmp} {t1 t2 : TypeId} (h : fn.results = #[.cell p t1, .cell u t2]) (tmps : Array Value) (P : Program) (w : World) :
    (results fn tmps).run P w = ((asAddr (tmps.getD p undef)).run P w).andThen fun a w₁ => ((loadVar t1 a).run P w₁).andThen fun v w₂ => ((asAddr (tmps.getD u undef)).run P w₂).andThen fun b w₃ => ((loadVar t2 b).run P w₃).andThen fun v2 w₄ => .ok (.tuple #[v, v2]) w₄ := by
  simp only [results, h]
  simp [Sem.run_bind, Result.andThen]
abbrev ldO (x : Vg.Ld) : Obj := .cells #[.int .i64 x.pe, .int .i64 0, .int .i64 x.pe, .int .i64 x.co] 116
theorem arr_iter (a : Option Addr) (N c : Nat) (T : Int) (w : World) :
    Calls Tryd.prog 58 #[.slice a N c, .int .i64 T] w fun e w' => e = .returned (.func (.func 84) #[] #[.pointer (some ⟨w.heap.size, 0, none⟩), .pointer (some ⟨w.heap.size + 1, 0, none⟩)]) ∧ w' = (w.alloc (.cells #[.slice a N c] 54)).alloc (.cells #[.int .i64 T] 2) := by
  go_enter Tryd.func58, Tryd.ntmps58
  go_wp2
  go_ret
  exact ⟨rfl, rfl⟩
theorem arr_stops (k : Nat) (hk : 1 ≤ k) (S : Nat → Prop) (B1 B2 : Nat) (a : Option Addr) (c N : Nat) (L : List Vg.Ld) (T : Int) (w : World) (hT0 : 0 ≤ T) (hT : T ≤ 4503599627370496) (hL : ∀ x ∈ L, x.ok) (hc9 : c ≤ 9223372036854775807) (hNc : N ≤ c)
    (hS1 : ∀ j, (Value.slice a N c).ownBlock = some j → S j) (hS2 : S B1) (hS3 : S B2) (hlt : ∀ k, S k → k < w.heap.size)
    (hc1 : Vg.blk w B1 = some (.cells #[.slice a N c] 54)) (hc2 : Vg.blk w B2 = some (.cells #[.int .i64 T] 2)) (hld : Vg.LdR w (.slice a N c) N L) :
    SeqStopsK Fence.wide k Tryd.prog 84 #[.pointer (some ⟨B1, 0, none⟩), .pointer (some ⟨B2, 0, none⟩)] (fun i : Nat => #[.int .i64 (Vg.upz (Vg.ldAt L i).pe T), .int .i64 (Vg.ldAt L i).co]) (Vg.Kept S) (fun ys => ys = List.range N) (fun _ => True) N w := fun l J Jx W hW hJ hJx hY hJ0 => by
  have kW : Vg.Kept S w W := Vg.Kept.of_below hW hlt
  have hLN := hld.1
  have D1 := Lib.hid (kW.blk hc1 hS2)
  have D2 := Lib.hid (kW.blk hc2 hS3)
  have D3 := Lib.hid (hld.kept (w' := W) kW.size (fun k hk => kW.block k (hS1 k hk)))
  have e1 := Vg.cells_of D1.out 0
  have e2 := Vg.cells_of D2.out 0
  simp at e1 e2
  have H_hLN := Lib.hid hLN; clear hLN; have H_hL := Lib.hid hL; clear hL
  refine callsIn_of_wp Tryd.func84 rfl trivial ?_ rfl
  simp only [Tryd.ntmps84, List.size_toArray, List.length_cons, List.length_nil, Nat.reduceAdd, Nat.reduceSub, Array.replicate_succ, Array.replicate_zero, List.push_toArray, List.append_toArray, List.nil_append, List.cons_append]
  gi_wp2
  gi_loopw [10] (fun i wr => ∃ j : Nat, j ≤ N ∧ i = .int .i64 j ∧ J (List.range j) wr ∧ Vg.Kept S W wr) (fun i _ => N - (intOf i).toNat)
  case atStart => exact ⟨0, by omega, rfl, hJ0, Vg.Kept.refl _ _⟩
  case round =>
    obtain ⟨j, hj, rfl, hJj, hkp⟩ := hrel
    have d2 := hkp.blk D2.out hS3
    have d3 := D3.out.kept (w' := wr) hkp.size (fun k hk => hkp.block k (hS1 k hk))
    have hB2 := Vg.lt_of d2
    by_cases hjl : j < N
    · have hjx : j < L.length := by rw [H_hLN.out]; exact hjl
      obtain ⟨g, o, rfl, hg, -, -, f0, f1, f2, f3⟩ := d3.at j hjx
      have hat : Vg.ldAt L j = L[j] := by unfold Vg.ldAt; rw [List.getElem?_eq_getElem hjx]; rfl
      have hok := H_hL.out _ (List.getElem_mem hjx)
      obtain ⟨y, hy⟩ : ∃ y, L[j] = y := ⟨_, rfl⟩
      rw [hy] at f0 f2 f3 hat hok
      obtain ⟨⟨hp, hp1⟩, hc0, hc1⟩ := hok
      have hup := Vg.up_upz (p := y.pe) hT0
      have d2b := ((Vg.Grows.refl wr).alloc (ldO y)).blk d2
      have x9 : Vg.blk (wr.alloc (ldO y)) wr.heap.size = some (ldO y) := Vg.alloc_heap_at rfl
      have hal : Vg.Kept S wr (wr.alloc (ldO y)) := ⟨by simp, fun z hz => Below.heap_alloc _ _ _ (by have := hlt z hz; have := hkp.size; have := hW.size; omega)⟩
      have hsn : List.range (j + 1) = List.range j ++ [j] := List.range_succ
      have hltr : ∀ z, S z → z < wr.heap.size := fun z hz => by have := hlt z hz; have := hkp.size; have := hW.size; omega
      have e22 := Vg.cells_of d2b 0
      simp at e22
      have H_d2 := Lib.hid d2; clear d2; have H_d3 := Lib.hid d3; clear d3; have H_hat := Lib.hid hat; clear hat; have H_hup := Lib.hid hup; clear hup; have H_hy := Lib.hid hy; clear hy; have H_hsn := Lib.hid hsn; clear hsn; have H_d2b := Lib.hid d2b; clear d2b; have H_x9 := Lib.hid x9; clear x9; have H_hal := Lib.hid hal; clear hal; have H_hltr := Lib.hid hltr; clear hltr
      gi_wp2_with (refine ⟨trivial, ?_⟩; gi_at_call 85; refine (callsIn_wide.2 (cur_most y.pe T _ hp hp1 hT0 hT)).mono ?_; rintro e w2 ⟨rfl, hg2⟩; rw [H_hup.out]; have hJ2 := Vg.abides_grows hJ hJj (((Vg.Grows.refl wr).alloc (ldO y)).trans hg2); have x8 := hg2.blk H_x9.out; have hk2 : Vg.Kept S wr w2 := H_hal.out.trans ⟨hg2.size, fun z hz => hg2.below.block z (by have := H_hltr.out z hz; simp; omega)⟩; obtain ⟨fn, tmps, assign, body, hy1, hR⟩ := hY (List.range j) j w2 hJ2 (by simpa using hjl); rw [H_hat.out] at hy1; rw [← H_hsn.out] at hR; have c8 := Vg.cells_of x8; have c83 := c8 3; simp at c83; clear c8 e22; have H_hg2 := Lib.hid hg2; clear hg2; have H_x8 := Lib.hid x8; clear x8; have H_hJ2 := Lib.hid hJ2; clear hJ2; have H_hk2 := Lib.hid hk2; clear hk2)
      refine hR.mono ?_
      rintro e W3 (⟨rfl, hJ3, hk3⟩ | ⟨rfl, hJx3⟩)
      · gi_wp2
        go_roundw
        case rel => exact ⟨j + 1, by omega, by go_num, hJ3, hkp.trans (H_hk2.out.trans hk3)⟩
        case measure => simp [intOf]; omega
      · gi_wp2
        refine bodyPost_ret (results_none rfl _ _ _) rfl ?_
        exact ⟨⟨_, rfl⟩, .inr ⟨_, trivial, hJx3⟩⟩
    · have hje : j = N := by omega
      subst hje
      clear d2 d3
      gi_wp2
      go_end0
      exact ⟨⟨_, rfl⟩, .inl ⟨_, rfl, hJj⟩⟩
end Go.Proofs.YtekjnagojphmkaaDoor
namespace Go.Proofs.YtekjnagojphmkaaDoor
open Go.ChangeShapes Go.WideShapes Go.ChangeAt Go.RowKit Go.Shelf
attribute [local go_sem] Oper.semAt_some
theorem results_all {tmps : Array Value} {w : World} {g1 g2 : Nat} {m er : Int} (hp : tmps.getD 4 undef = .pointer (some ⟨g1, 0, none⟩)) (hu : tmps.getD 5 undef = .pointer (some ⟨g2, 0, none⟩)) (c1 : w.cell? ⟨g1, 0, none⟩ = some (.int .i64 m)) (c2 : w.cell? ⟨g2, 0, none⟩ = some (.int .i64 er)) (l1 : g1 < w.heap.size) (l2 : g2 < w.heap.size) :
    (results Tryd.f22 tmps).run Tryd.prog w = .ok (.tuple #[.int .i64 m, .int .i64 er]) w := by
  rw [results_cell2 rfl]
  rw [hp, hu]
  have u1 : Tryd.prog.underlying 2 = some (.int .i64) := by kernel_rfl
  have u2 : Tryd.prog.underlying 26 = some (.int .i64) := by kernel_rfl
  simp [asAddr, loadVar, go_sem, u1, u2, c1, c2]
theorem all_in (a : Option Addr) (c N : Nat) (L : List Vg.Ld) (T : Int) (w : World) (hT0 : 0 ≤ T) (hT : T ≤ 4503599627370496) (hL : ∀ x ∈ L, x.ok) (hN : N ≤ 256) (hc9 : c ≤ 9223372036854775807) (hNc : N ≤ c) (h : Vg.LdR w (.slice a N c) N L) :
    CallsIn Fence.wide 4 Tryd.prog 22 #[.slice a N c, .int .i64 T] w fun e w' => (∃ m er, e = .returned (.tuple #[.int .i64 m, .int .i64 er]) ∧ (er = 10 ∨ (er = 0 ∧ m = Vg.dmd T L))) ∧ Below w.heap.size w w' := by
  have hl2 := h.own_lt
  have hro : Fence.wide.round = none := rfl
  have hn1 : 1 ≤ 4 := by omega
  have hLN := h.1
  have H_h := Lib.hid h; clear h; have H_hL := Lib.hid hL; clear hL; have H_hLN := Lib.hid hLN; clear hLN
  refine callsIn_of_wp_marks Tryd.func22 rfl trivial ?_ rfl
  simp only [Tryd.ntmps22, List.size_toArray, List.length_cons, List.length_nil, Nat.reduceAdd, Nat.reduceSub, Array.replicate_succ, Array.replicate_zero, List.push_toArray, List.append_toArray, List.nil_append, List.cons_append]
  gi_wp2_with (first | (refine ⟨trivial, ?_⟩; gi_at_call 57; refine (callsIn_wide.2 (dem_check (H_h.out.grows (by (repeat' (first | (with_reducible exact Vg.Grows.refl _) | (with_reducible assumption) | (with_reducible refine Vg.Grows.alloc ?_ _) | (with_reducible refine Vg.Grows.plus ?_ _ _) | (with_reducible refine Vg.Grows.drewN ?_ _) | (with_reducible refine Vg.Grows.drew ?_) | (with_reducible refine Vg.Grows.setCell ?_ ?_ _) | (with_reducible refine Vg.Grows.put ?_ ?_ _) | omega | (simp; omega) | (simp; done))))) hN H_hL.out hc9)).mono ?_; rintro e w1 ⟨rfl, hg1⟩; have H_hg1 := Lib.hid hg1; clear hg1) | (refine ⟨trivial, ?_⟩; gi_at_call 58; refine (callsIn_wide.2 (arr_iter a N c T _)).mono ?_; rintro e w2 ⟨rfl, rfl⟩))
  obtain ⟨b4, hb4⟩ : ∃ b4, w.heap.size = b4 := ⟨_, rfl⟩
  obtain ⟨b7, hb7⟩ : ∃ b7, w1.heap.size = b7 := ⟨_, rfl⟩
  have hsz1 := H_hg1.out.size
  have x4 : Boxed w1 b4 2 (.int .i64 0) := H_hg1.out.blk (by rw [← hb4]; exact (Vg.alloc_heap_past (by simp)).trans (Vg.alloc_heap_at rfl))
  have x5 : Boxed w1 (b4 + 1) 26 (.int .i64 0) := H_hg1.out.blk (Vg.alloc_heap_at (by rw [← hb4]; simp))
  have gw1 : Vg.Grows w w1 := (((Vg.Grows.refl w).alloc _).alloc _).trans H_hg1.out
  have x7 := Boxed.new w1 2 (.int .i64 0)
  rw [hb7] at x7
  simp only [World.size_alloc] at hsz1
  rw [hb4, hb7] at hsz1
  have hBW : Below w.heap.size w (((w1.alloc (.cells #[.int .i64 0] 2)).alloc (.cells #[.slice a N c] 54)).alloc (.cells #[.int .i64 T] 2)) := (((gw1.alloc _).alloc _).alloc _).below
  simp only [World.size_alloc, hb4, hb7]
  have hSS : ∀ k, ((Value.slice a N c).ownBlock = some k ∨ k = b7 + 1 ∨ k = b7 + 1 + 1) → k < b7 + 3 ∧ k ≠ b7 ∧ k ≠ b4 ∧ k ≠ b4 + 1 := by
    rintro k (hk | rfl | rfl)
    · have := hl2 k hk; omega
    · omega
    · omega
  have HSS := Lib.hid hSS
  have hS2 : ∀ k, ((Value.slice a N c).ownBlock = some k ∨ k = b7 + 1 ∨ k = b7 + 1 + 1) → k < (((w1.alloc (.cells #[.int .i64 0] 2)).alloc (.cells #[.slice a N c] 54)).alloc (.cells #[.int .i64 T] 2)).heap.size := fun k hk => by
    have := hSS k hk
    simp only [World.size_alloc]; omega
  clear hSS
  have y1 : Vg.blk (((w1.alloc (.cells #[.int .i64 0] 2)).alloc (.cells #[.slice a N c] 54)).alloc (.cells #[.int .i64 T] 2)) (b7 + 1) = some (.cells #[.slice a N c] 54) := (Vg.alloc_heap_past (by simp; omega)).trans (Vg.alloc_heap_at (by rw [← hb7]; simp))
  have y2 : Vg.blk (((w1.alloc (.cells #[.int .i64 0] 2)).alloc (.cells #[.slice a N c] 54)).alloc (.cells #[.int .i64 T] 2)) (b7 + 1 + 1) = some (.cells #[.int .i64 T] 2) := Vg.alloc_heap_at (by rw [← hb7]; simp)
  have hWs : (((w1.alloc (.cells #[.int .i64 0] 2)).alloc (.cells #[.slice a N c] 54)).alloc (.cells #[.int .i64 T] 2)).heap.size = b7 + 3 := by simp only [World.size_alloc]; omega
  have gW : Vg.Grows w (((w1.alloc (.cells #[.int .i64 0] 2)).alloc (.cells #[.slice a N c] 54)).alloc (.cells #[.int .i64 T] 2)) := ((gw1.alloc _).alloc _).alloc _
  have z4 : Boxed (((w1.alloc (.cells #[.int .i64 0] 2)).alloc (.cells #[.slice a N c] 54)).alloc (.cells #[.int .i64 T] 2)) b4 2 (.int .i64 0) := ((x4.alloc _).alloc _).alloc _
  have z5 : Boxed (((w1.alloc (.cells #[.int .i64 0] 2)).alloc (.cells #[.slice a N c] 54)).alloc (.cells #[.int .i64 T] 2)) (b4 + 1) 26 (.int .i64 0) := ((x5.alloc _).alloc _).alloc _
  have z7 : Boxed (((w1.alloc (.cells #[.int .i64 0] 2)).alloc (.cells #[.slice a N c] 54)).alloc (.cells #[.int .i64 T] 2)) b7 2 (.int .i64 0) := (x7.alloc _).alloc _
  obtain ⟨W0, hW0⟩ : ∃ W0, (((w1.alloc (.cells #[.int .i64 0] 2)).alloc (.cells #[.slice a N c] 54)).alloc (.cells #[.int .i64 T] 2)) = W0 := ⟨_, rfl⟩
  rw [hW0] at hBW hS2 y1 y2 hWs gW z4 z5 z7 ⊢
  clear hW0 x4 x5 x7 gw1
  have H_hb7 := Lib.hid hb7; clear hb7
  refine wpIn_rangeFunc_ownG hro hn1 (gf := 84) (lb := #[.pointer (some ⟨b7 + 1, 0, none⟩), .pointer (some ⟨b7 + 1 + 1, 0, none⟩)]) rfl trivial (enters_of Tryd.func84 (by kernel_rfl) rfl)
    (arr_stops (4 - 1) (by omega) (fun k => (Value.slice a N c).ownBlock = some k ∨ k = b7 + 1 ∨ k = b7 + 1 + 1) (b7 + 1) (b7 + 1 + 1) a c N L T _ hT0 hT H_hL.out hc9 hNc (fun j hj => .inl hj) (.inr (.inl rfl)) (.inr (.inr rfl)) hS2 y1 y2 (H_h.out.grows gW)) Vg.Kept.trans
    (Vg.Kept.putObj hS2) (Below.refl _ _) (fun _ => rfl)
    (fun pre W => Boxed W b4 2 (.int .i64 0) ∧ (Boxed W (b4 + 1) 26 (.int .i64 0) ∧ (Boxed W b7 2 (.int .i64 (Vg.psum T L pre)) ∧ ((0 ≤ Vg.psum T L pre ∧ Vg.psum T L pre ≤ 4503599627370496) ∧ (b7 + 3 ≤ W.heap.size ∧ Below w.heap.size w W)))))
    (fun c' pre W => c' = .ret ∧ (Boxed W b4 2 (.int .i64 0) ∧ (Boxed W (b4 + 1) 26 (.int .i64 10) ∧ (b7 + 3 ≤ W.heap.size ∧ Below w.heap.size w W))))
    (OwnFrom.and (Own.from (boxed_own _ _ _) _) (OwnFrom.and (Own.from (boxed_own _ _ _) _) (OwnFrom.and (Own.from (boxed_own _ _ _) _) (OwnFrom.and (Vg.ownFrom_const _ _) (OwnFrom.and (Vg.ownFrom_size _ _) (ownFrom_below (Nat.le_refl _) (by omega)))))))
    (fun c' => OwnFrom.and (Vg.ownFrom_const _ (fun _ => c' = .ret)) (OwnFrom.and (Own.from (boxed_own _ _ _) _) (OwnFrom.and (Own.from (boxed_own _ _ _) _) (OwnFrom.and (Vg.ownFrom_size _ _) (ownFrom_below (Nat.le_refl _) (by omega))))))
    ⟨z4, z5, z7, ⟨Int.le_refl _, by show (0 : Int) ≤ _; omega⟩, by omega, hBW⟩
    (fun i => { tmps := #[.slice a N c, .int .i64 T, undef, undef, .pointer (some ⟨b4, 0, none⟩), .pointer (some ⟨b4 + 1, 0, none⟩), .int .i64 0, .pointer (some ⟨b7, 0, none⟩), .int .i64 (Vg.upz (Vg.ldAt L i).pe T), .int .i64 (Vg.ldAt L i).co, undef, undef, .slice a N c, .int .i64 0, .bool false, .int .i64 0, .bool false, undef,
      .bool (decide (T < 0) || decide (4503599627370496 < T)), .int .i64 T, .bool (decide (T < 0)), .bool (decide (T < 0)), .int .i64 T, .bool (decide (4503599627370496 < T)), .bool (decide (T < 0) || decide (4503599627370496 < T)), .slice a N c, .int .i64 T, .func (.func 84) #[] #[.pointer (some ⟨b7 + 1, 0, none⟩), .pointer (some ⟨b7 + 1 + 1, 0, none⟩)],
      .int .i64 (Vg.upz (Vg.ldAt L i).pe T), .int .i64 (Vg.ldAt L i).co, undef, undef, undef, undef, undef, undef, undef, undef, undef, undef, undef, undef, undef, undef], defers := [] }) ?assign ?body ?done ?stop
  case assign =>
    intro l x W K hK
    gi_wp2
    exact hK
  case body =>
    rintro l pre x W ⟨h4, h5, h7, ⟨hs0, hs1⟩, hsz, hB⟩ hlt
    have c4 := h4.cell
    have f4 := h4.frozen
    have c5 := h5.cell
    have f5 := h5.frozen
    have c7 := h7.cell
    have f7 := h7.frozen
    have hok := Vg.ldAt_ok H_hL.out x
    have hps := Vg.psum_snoc T L pre x
    obtain ⟨y, hy⟩ : ∃ y, Vg.ldAt L x = y := ⟨_, rfl⟩
    rw [hy] at hok hps ⊢
    obtain ⟨⟨hp, hp1⟩, hc0, hc1⟩ := hok
    have hu0 := Vg.upz_nn hp T
    have hu1 := Vg.upz_le hp hT0
    obtain ⟨u, hu⟩ : ∃ u, Vg.upz y.pe T = u := ⟨_, rfl⟩
    rw [hu] at hu0 hu1 hps ⊢
    obtain ⟨s, hs⟩ : ∃ s, Vg.psum T L pre = s := ⟨_, rfl⟩
    rw [hs] at hs0 hs1 hps c7 h7
    have hw1 : IntKind.i64.wrap (4503599627370496 - s) = 4503599627370496 - s := by rw [IntKind.wrap_i64]; omega
    obtain ⟨⟨r, ok⟩, hr⟩ : ∃ r, Vg.tms u y.co (4503599627370496 - s) = r := ⟨_, rfl⟩
    have HB := Lib.hid hB
    have H4 := Lib.hid h4
    have H5 := Lib.hid h5
    have H7 := Lib.hid h7
    clear hB h4 h5 h7
    cases ok with
    | false =>
      have H_hy := Lib.hid hy; clear hy; have H_hu := Lib.hid hu; clear hu; have H_hs := Lib.hid hs; clear hs; have H_hr := Lib.hid hr; clear hr; have H_hps := Lib.hid hps; clear hps
      gi_wp2_with (refine ⟨trivial, ?_⟩; gi_at_call 59; go_loud (refine (CallsIn.inRound l (callsIn_wide.2 (dem_times u y.co (4503599627370496 - s) _ hu0 hc0 (by omega) (by omega) (by omega) hc1 H_hr.out))).mono ?_; rintro e w2 ⟨rfl, rfl⟩))
      refine ⟨((KeepsOthers.setCell _ _ _).trans (KeepsOthers.setCell _ _ _)).from _, rfl, ?_, ?_, by simp; omega, ?_⟩
      · exact (H4.out.set _).other (by omega) _
      · exact (H5.out.kept (grownBy_setCell' W b4 _) (by simp)).set _
      · exact HB.out.trans (((Below.refl _ W).setCell (p := ⟨b4, 0, none⟩) (by show w.heap.size ≤ b4; omega) _).setCell (p := ⟨b4 + 1, 0, none⟩) (show w.heap.size ≤ b4 + 1 by omega) _)
    | true =>
      obtain ⟨hr1, hr2, hr3⟩ := Vg.tms_ok hu0 hc0 (by omega) hr
      have hw2 : IntKind.i64.wrap (s + r) = s + r := by rw [IntKind.wrap_i64]; omega
      rw [← hr1] at hps
      have H_hy := Lib.hid hy; clear hy; have H_hu := Lib.hid hu; clear hu; have H_hs := Lib.hid hs; clear hs; have H_hr := Lib.hid hr; clear hr; have H_hps := Lib.hid hps; clear hps; have H_hr1 := Lib.hid hr1; clear hr1
      gi_wp2_with (refine ⟨trivial, ?_⟩; gi_at_call 59; go_loud (refine (CallsIn.inRound l (callsIn_wide.2 (dem_times u y.co (4503599627370496 - s) _ hu0 hc0 (by omega) (by omega) (by omega) hc1 H_hr.out))).mono ?_; rintro e w2 ⟨rfl, rfl⟩))
      refine ⟨(KeepsOthers.setCell _ _ _).from _, ⟨by simp, fun z hz => Below.heap_setCell _ _ _ z (HSS.out z hz).2.1⟩, ?_, ?_, ?_, ?_, by simp; omega, ?_⟩
      · exact H4.out.other (by omega) _
      · exact H5.out.other (by omega) _
      · rw [H_hps.out]; exact H7.out.set _
      · rw [H_hps.out]; omega
      · exact HB.out.trans ((Below.refl _ W).setCell (p := ⟨b7, 0, none⟩) (show w.heap.size ≤ b7 by omega) _)
  case done =>
    rintro D ys W hD rfl ⟨h4, h5, h7, ⟨hs0, hs1⟩, hsz, hB⟩ hK
    have hps := Vg.psum_all T L
    rw [H_hLN.out] at hps
    rw [hps] at h7 hs0 hs1
    obtain ⟨s, hs⟩ : ∃ s, Vg.dmd T L = s := ⟨_, rfl⟩
    rw [hs] at h7 hs0 hs1
    have c4 := h4.cell
    have f4 := h4.frozen
    have c5 := h5.cell
    have f5 := h5.frozen
    have c7 := h7.cell
    have f7 := h7.frozen
    have l4 := h4.lt
    have l5 := h5.lt
    have hK2 : ((W.setCell ⟨b4, 0, none⟩ (.int .i64 s)).setCell ⟨b4 + 1, 0, none⟩ (.int .i64 0)).heap[D]? = some (.deferred (some [])) := by
      rw [Below.heap_setCell _ _ _ D (by show D ≠ b4 + 1; omega), Below.heap_setCell _ _ _ D (by show D ≠ b4; omega)]; exact hK
    have r4 : Boxed ((W.setCell ⟨b4, 0, none⟩ (.int .i64 s)).setCell ⟨b4 + 1, 0, none⟩ (.int .i64 0)) b4 2 (.int .i64 s) := (h4.set _).other (by omega) _
    have r5 : Boxed ((W.setCell ⟨b4, 0, none⟩ (.int .i64 s)).setCell ⟨b4 + 1, 0, none⟩ (.int .i64 0)) (b4 + 1) 26 (.int .i64 0) := (h5.other (by omega) _).set _
    have hB2 : Below w.heap.size w ((W.setCell ⟨b4, 0, none⟩ (.int .i64 s)).setCell ⟨b4 + 1, 0, none⟩ (.int .i64 0)) := hB.trans (((Below.refl _ W).setCell (p := ⟨b4, 0, none⟩) (by show w.heap.size ≤ b4; omega) _).setCell (p := ⟨b4 + 1, 0, none⟩) (show w.heap.size ≤ b4 + 1 by omega) _)
    have H_h4 := Lib.hid h4; clear h4; have H_h5 := Lib.hid h5; clear h5; have H_h7 := Lib.hid h7; clear h7; have H_hB := Lib.hid hB; clear hB; have H_hK := Lib.hid hK; clear hK; have H_hK2 := Lib.hid hK2; clear hK2; have H_r4 := Lib.hid r4; clear r4; have H_r5 := Lib.hid r5; clear r5; have H_hB2 := Lib.hid hB2; clear hB2; have H_hs := Lib.hid hs; clear hs; have H_hps := Lib.hid hps; clear hps
    gi_wp2
    refine ⟨by simp, .inl ⟨_, _, rfl, run_takeDeferred H_hK2.out, ?_⟩⟩
    have k4 := H_r4.out.kept (grownBy_putObj' _ D (.deferred none)) (by simp; omega)
    have k5 := H_r5.out.kept (grownBy_putObj' _ D (.deferred none)) (by simp; omega)
    exact ⟨_, results_all rfl rfl k4.cell k5.cell k4.lt k5.lt, ⟨_, _, rfl, .inr ⟨rfl, H_hs.out.symm⟩⟩, H_hB2.out.trans (belowK_b (w := w) (Nat.le_refl _) _ D _ _ (by omega) H_hK2.out rfl rfl)⟩
  case stop =>
    rintro D c' pre W hD _ ⟨rfl, h4, h5, hsz, hB⟩ hK
    have H_h4 := Lib.hid h4; clear h4; have H_h5 := Lib.hid h5; clear h5; have H_hB := Lib.hid hB; clear hB; have H_hK := Lib.hid hK; clear hK
    gi_wp2
    refine ⟨by simp, .inl ⟨_, _, rfl, run_takeDeferred H_hK.out, ?_⟩⟩
    have k4 := H_h4.out.kept (grownBy_putObj' _ D (.deferred none)) (by simp; omega)
    have k5 := H_h5.out.kept (grownBy_putObj' _ D (.deferred none)) (by simp; omega)
    exact ⟨_, results_all rfl rfl k4.cell k5.cell k4.lt k5.lt, ⟨_, _, rfl, .inl rfl⟩, H_hB.out.trans (belowK_b (w := w) (Nat.le_refl _) _ D _ _ (by omega) H_hK.out rfl rfl)⟩
theorem dem_all {w : World} {a : Option Addr} {c N : Nat} {L : List Vg.Ld} {T : Int} (h : Vg.LdR w (.slice a N c) N L) (hT0 : 0 ≤ T) (hT : T ≤ 4503599627370496) (hL : ∀ x ∈ L, x.ok) (hN : N ≤ 256) (hc9 : c ≤ 9223372036854775807) (hNc : N ≤ c) :
    Calls Tryd.prog 22 #[.slice a N c, .int .i64 T] w fun e w' => ∃ m er, e = .returned (.tuple #[.int .i64 m, .int .i64 er]) ∧ (er = 10 ∨ (er = 0 ∧ m = Vg.dmd T L)) ∧ Vg.Grows w w' := by
  refine ((callsIn_wide (n := 4)).1 (all_in a c N L T w hT0 hT hL hN hc9 hNc h)).mono ?_
  rintro e w' ⟨⟨m, er, rfl, h1⟩, hb⟩
  exact ⟨m, er, rfl, h1, Vg.Grows.of_below hb⟩
end Go.Proofs.YtekjnagojphmkaaDoor
namespace Vg
open Go
theorem Dm.I.left_pos {TT : List Th} {TL : List Lin} {k : Nat} {D : Dm} (h : D.I TT TL k) {i : Nat} (ha : Bo.able D.Bs D.Q i = true) : 1 ≤ Bo.left D.Bs D.Q i ∧ Bo.left D.Bs D.Q i ≤ 1099511627776 := by
  have hi : i < D.Bs.length := Classical.byContradiction fun hh => by rw [Bo.able_out (by omega)] at ha; cases ha
  obtain ⟨hxo, hiQ⟩ := h.inv.at i hi
  obtain ⟨hw, hl⟩ := (Bo.able_iff hi).1 ha
  have hle := (Wk.left_le h.inv.wk i).2
  rw [Bo.left_in hi, if_pos ha]
  have h1 : 1 ≤ Wk.left D.Q i := by
    rw [Wk.waiting_in hiQ] at hw
    rw [Wk.left_in hiQ]
    obtain ⟨_, _, _, _, h5⟩ := h.inv.wk.at i hiQ
    generalize D.Q[i].L = L at hw h5
    cases L with
    | nil => simp at hw
    | cons x l => exact (h5 x (by simp)).1
  omega
theorem Dm.I.stack {TT : List Th} {TL : List Lin} {k : Nat} {D : Dm} (h : D.I TT TL k) : (D.s.S = [] ∧ D.s.left = 0) ∨ ∃ L z, D.s.S = L ++ [z] ∧ D.s.left = z.left ∧ 1 ≤ z.left ∧ z.left ≤ 1099511627776 := by
  rcases List.eq_nil_or_concat D.s.S with hS | ⟨L, z, hS⟩
  · exact .inl ⟨hS, by unfold Iq.left; rw [hS]; rfl⟩
  · rw [List.concat_eq_append] at hS
    have hz := h.stk z (by rw [hS]; simp)
    exact .inr ⟨L, z, hS, by unfold Iq.left; rw [hS]; simp, hz⟩
theorem Dm.I.lines {TT : List Th} {TL : List Lin} {k : Nat} {D : Dm} (h : D.I TT TL k) {i : Nat} {t : Lin} (ht : TL[i]? = some t) : ∃ y, D.s.ls[i]? = some y ∧ (0 ≤ y.lost ∧ y.lost ≤ k) ∧ (1 ≤ t.top ∧ t.top ≤ 1099511627776) := by
  have hi : i < D.s.ls.length := by rw [h.ll]; exact (List.getElem?_eq_some_iff.1 ht).1
  have hy := List.getElem?_eq_getElem hi
  exact ⟨_, hy, (h.ln i _ t hy ht).l0, (oddL_no (h.odd ht)).2⟩
theorem Dm.I.srvs {TT : List Th} {TL : List Lin} {k : Nat} {D : Dm} (h : D.I TT TL k) (hk : k ≤ 1000000) : ∀ y ∈ D.s.ls, 0 ≤ y.srv ∧ y.srv ≤ 4611686018427387904 := fun y hy => by
  obtain ⟨i, hi⟩ := List.mem_iff_getElem?.1 hy
  have hl : i < TL.length := by rw [← h.ll]; exact (List.getElem?_eq_some_iff.1 hi).1
  have h9 := (h.ln i y _ hi (List.getElem?_eq_getElem hl)).s0
  omega
theorem reads_zero {S : Nat} {w : World} {v : Value} {n : Nat} {xs : List Value} (h : Reads S w v n xs) : Reads 0 w v n xs := by
  rcases h with h0 | ⟨g, off, cap, e, h2, h3, h4, h5, h6⟩
  · exact .inl h0
  · exact .inr ⟨g, off, cap, e, Nat.zero_le _, h3, h4, h5, h6⟩
end Vg
namespace Go.Proofs.YtekjnagojphmkaaDoor
open Go.ChangeShapes Go.WideShapes Go.ChangeAt Go.RowKit
structure DMx (w0 w : World) (bb lb bq lq n : Nat) (v : Value) (N : Nat) (L : List Vg.Ld) (Bs : List Vg.Bp) (Q : List Vg.Wq) (s : Vg.Iq) (OB OQ : Nat → Prop) : Prop where
  gr : Vg.Grows w0 w
  tab : Vg.Tab w
  lo : 0 < w0.heap.size ∧ w0.heap.size ≤ lb ∧ w0.heap.size ≤ lq
  bs : BS w bb lb Bs Q OB
  qs : QS w bq lq n s OQ
  ld : Vg.LdR w v N L
  d1 : ∀ k, OB k → ¬ OQ k
  d2 : ∀ k, v.ownBlock = some k → ¬ OB k ∧ ¬ OQ k
def DM (w0 w : World) (bb lb bq lq n : Nat) (v : Value) (N : Nat) (L : List Vg.Ld) (D : Vg.Dm) : Prop := ∃ OB OQ, DMx w0 w bb lb bq lq n v N L D.Bs D.Q D.s OB OQ
def DPI (w0 w : World) (bb lb bq lq n : Nat) (v : Value) (N : Nat) (L : List Vg.Ld) (TT : List Vg.Th) (TL : List Vg.Lin) (k : Nat) (now used : Int) : Prop := ∃ D, DM w0 w bb lb bq lq n v N L D ∧ D.I TT TL k ∧ D.now = now ∧ D.used = used
section
variable {w0 w w' : World} {bb lb bq lq n N k : Nat} {v : Value} {L : List Vg.Ld} {Bs Bs' : List Vg.Bp} {Q Q' : List Vg.Wq} {s s' : Vg.Iq} {OB OQ : Nat → Prop} {D D' : Vg.Dm} {TT : List Vg.Th} {TL : List Vg.Lin} {now used x m : Int}
theorem DMx.grows (h : DMx w0 w bb lb bq lq n v N L Bs Q s OB OQ) (hg : Vg.Grows w w') : DMx w0 w' bb lb bq lq n v N L Bs Q s OB OQ :=
  ⟨h.gr.trans hg, h.tab.grows hg, h.lo, h.bs.grows hg, h.qs.grows hg, h.ld.grows hg, h.d1, h.d2⟩
theorem DM.grows (h : DM w0 w bb lb bq lq n v N L D) (hg : Vg.Grows w w') : DM w0 w' bb lb bq lq n v N L D := by
  obtain ⟨OB, OQ, h⟩ := h
  exact ⟨OB, OQ, h.grows hg⟩
theorem DPI.grows (h : DPI w0 w bb lb bq lq n v N L TT TL k now used) (hg : Vg.Grows w w') : DPI w0 w' bb lb bq lq n v N L TT TL k now used := by
  obtain ⟨D, h1, h2, h3⟩ := h
  exact ⟨D, h1.grows hg, h2, h3⟩
theorem DM.gr (h : DM w0 w bb lb bq lq n v N L D) : Vg.Grows w0 w := by obtain ⟨OB, OQ, h⟩ := h; exact h.gr
theorem DPI.gr (h : DPI w0 w bb lb bq lq n v N L TT TL k now used) : Vg.Grows w0 w := by obtain ⟨D, h1, h2, h3⟩ := h; exact h1.gr
theorem DMx.bsn (h : DMx w0 w bb lb bq lq n v N L Bs Q s OB OQ) (hn : BSn w w' bb lb Bs' Q' OB) : ∃ OB', DMx w0 w' bb lb bq lq n v N L Bs' Q' s OB' OQ := by
  obtain ⟨OB', h1, h2, ht⟩ := hn
  obtain ⟨l0, l1, l2⟩ := h.lo
  have hz : ¬ OB 0 := fun hh => by have := (h.bs.own 0 hh).1; omega
  refine ⟨OB', ht.gr h.gr (fun k hk => Nat.le_trans l1 (h.bs.own k hk).1), ht.tab h.tab hz, h.lo, h1, h.qs.touch ht fun k hk => h.d1 k hk, h.ld.kept ht.size (fun k hk => ht.block k (h.ld.own_lt k hk) (h.d2 k hk).1), fun k hk hq => ?_, fun k hk => ⟨fun hh => ?_, (h.d2 k hk).2⟩⟩
  · rcases h2 k hk with h3 | h3
    · exact h.d1 k h3 hq
    · have := (h.qs.own k hq).2; omega
  · rcases h2 k hh with h3 | h3
    · exact (h.d2 k hk).1 h3
    · have := h.ld.own_lt k hk; omega
theorem DMx.qsn (h : DMx w0 w bb lb bq lq n v N L Bs Q s OB OQ) (hn : QSn w w' bq lq n s' OQ) : ∃ OQ', DMx w0 w' bb lb bq lq n v N L Bs Q s' OB OQ' := by
  obtain ⟨OQ', h1, h2, ht⟩ := hn
  obtain ⟨l0, l1, l2⟩ := h.lo
  have hz : ¬ OQ 0 := fun hh => by have := (h.qs.own 0 hh).1; omega
  refine ⟨OQ', ht.gr h.gr (fun k hk => Nat.le_trans l2 (h.qs.own k hk).1), ht.tab h.tab hz, h.lo, h.bs.touch ht fun k hk hq => h.d1 k hk hq, h1, h.ld.kept ht.size (fun k hk => ht.block k (h.ld.own_lt k hk) (h.d2 k hk).2), fun k hk hq => ?_, fun k hk => ⟨(h.d2 k hk).1, fun hh => ?_⟩⟩
  · rcases h2 k hq with h3 | h3
    · exact h.d1 k hk h3
    · have := (h.bs.own k hk).2; omega
  · rcases h2 k hh with h3 | h3
    · exact (h.d2 k hk).2 h3
    · have := h.ld.own_lt k hk; omega
theorem dp_put (h : DPI w0 w bb lb bq lq n v N L TT TL k now used) (hk : k ≤ 1000000) (i : Nat) :
    Calls Tryd.prog 17 #[.pointer (some ⟨bb, 0, none⟩), .int .i64 i, .int .i64 100] w fun e w' => ∃ r, e = .returned (.int .i64 r) ∧ DPI w0 w' bb lb bq lq n v N L TT TL (k + 1) now used := by
  obtain ⟨D, ⟨OB, OQ, h1⟩, h2, rfl, rfl⟩ := h
  refine (bs_put (Q' := (Vg.Bo.put D.Bs.length D.Q i 100).1) (r := (Vg.Bo.put D.Bs.length D.Q i 100).2) i 100 h1.bs (h2.inv.wk.ok hk) rfl rfl).mono ?_
  rintro e w' ⟨rfl, hn⟩
  obtain ⟨OB', h3⟩ := h1.bsn hn
  exact ⟨_, rfl, { D with Q := (Vg.Bo.put D.Bs.length D.Q i 100).1 }, ⟨OB', OQ, h3⟩, h2.put _ _ _, rfl, rfl⟩
theorem dp_raise (h : DPI w0 w bb lb bq lq n v N L TT TL k now used) (hk : k ≤ 1000000) (i : Nat) {t : Vg.Lin} (ht : TL[i]? = some t) {top : Int} (htop : t.top = top) :
    Calls Tryd.prog 7 #[.pointer (some ⟨bq, 0, none⟩), .int .i64 i, .int .i64 top, .int .i64 0] w fun e w' => ∃ r, e = .returned (.int .i64 r) ∧ DPI w0 w' bb lb bq lq n v N L TT TL (k + 1) now used := by
  subst htop
  obtain ⟨D, ⟨OB, OQ, h1⟩, h2, rfl, rfl⟩ := h
  obtain ⟨y, hy, hl, hto⟩ := h2.lines ht
  obtain ⟨⟨s', r⟩, hr⟩ : ∃ r, D.s.raise i y t.top 0 = r := ⟨_, rfl⟩
  refine (qs_raise i t.top 0 h1.qs hy hto ⟨by omega, by omega⟩ ⟨hl.1, by omega⟩ hr).mono ?_
  rintro e w' ⟨rfl, hn⟩
  obtain ⟨OQ', h3⟩ := h1.qsn hn
  exact ⟨_, rfl, { D with s := s' }, ⟨OB, OQ', h3⟩, h2.raise hy ht hr, rfl, rfl⟩
theorem dp_refill (h : DPI w0 w bb lb bq lq n v N L TT TL k now used) (hn : now ≤ 4503599627370496) :
    Calls Tryd.prog 18 #[.pointer (some ⟨bb, 0, none⟩), .int .i64 now] w fun e w' => e = .returned (.int .i64 0) ∧ DPI w0 w' bb lb bq lq n v N L TT TL k now used := by
  obtain ⟨D, ⟨OB, OQ, h1⟩, h2, rfl, rfl⟩ := h
  obtain ⟨hr, h4⟩ := h2.refill hn
  refine (bs_refill D.now h1.bs h2.inv hr).mono ?_
  rintro e w' ⟨rfl, hn⟩
  obtain ⟨OB', h3⟩ := h1.bsn hn
  exact ⟨rfl, _, ⟨OB', OQ, h3⟩, h4, rfl, rfl⟩
theorem dp_unmask (h : DPI w0 w bb lb bq lq n v N L TT TL k now used) (hn : now ≤ 4503599627370496) :
    Calls Tryd.prog 8 #[.pointer (some ⟨bq, 0, none⟩), .int .i64 now] w fun e w' => ∃ u, e = .returned (.tuple #[u, .int .i64 0]) ∧ DPI w0 w' bb lb bq lq n v N L TT TL k now used := by
  obtain ⟨D, ⟨OB, OQ, h1⟩, h2, rfl, rfl⟩ := h
  refine (qs_unmask D.now h1.qs h1.tab (by have := h1.lo; omega) h2.la hn).mono ?_
  rintro e w' ⟨u, s', rfl, hn, hc, hl⟩
  obtain ⟨OQ', h3⟩ := h1.qsn hn
  exact ⟨u, rfl, { D with s := s' }, ⟨OB, OQ', h3⟩, h2.calm hc (by omega), rfl, rfl⟩
theorem dp_take (h : DPI w0 w bb lb bq lq n v N L TT TL k now used) (hk : k ≤ 1000000) :
    Calls Tryd.prog 9 #[.pointer (some ⟨bq, 0, none⟩), .int .i64 now] w fun e w' => ∃ i is er, e = .returned (.tuple #[.int .i64 i, .bool is, .int .i64 er]) ∧ DPI w0 w' bb lb bq lq n v N L TT TL (k + 1) now used := by
  obtain ⟨D, ⟨OB, OQ, h1⟩, h2, rfl, rfl⟩ := h
  refine (qs_take D.now h1.qs h1.tab (by have := h1.lo; omega) (h2.srvs hk)).mono ?_
  rintro e w' ⟨i, is, er, s', rfl, hn, ht⟩
  obtain ⟨OQ', h3⟩ := h1.qsn hn
  exact ⟨i, is, er, rfl, { D with s := s' }, ⟨OB, OQ', h3⟩, h2.take ht, rfl, rfl⟩
theorem dm_left (h : DM w0 w bb lb bq lq n v N L D) (hx : D.s.left = x) : Calls Tryd.prog 10 #[.pointer (some ⟨bq, 0, none⟩)] w fun e w' => e = .returned (.int .i64 x) ∧ w = w' := by
  obtain ⟨OB, OQ, h1⟩ := h
  exact qs_left h1.qs hx
theorem dm_pick (h : DM w0 w bb lb bq lq n v N L D) : Calls Tryd.prog 19 #[.pointer (some ⟨bb, 0, none⟩)] w fun e w' => ∃ i : Nat, ∃ is, e = .returned (.tuple #[.int .i64 i, .bool is]) ∧ (is = true → Vg.Bo.able D.Bs D.Q i = true) ∧ Vg.Grows w w' := by
  obtain ⟨OB, OQ, h1⟩ := h
  by_cases h0 : 0 ≤ Vg.Bo.best D.Bs D.Q
  · obtain ⟨i, hi, ha⟩ := Vg.Bo.best_able h0
    refine (bs_pick h1.bs hi (m := i) (by omega) (is := true) (by simp)).mono ?_
    rintro e w' ⟨rfl, hg⟩
    exact ⟨i, true, rfl, fun _ => ha, hg⟩
  · refine (bs_pick h1.bs rfl (m := ((0 : Nat) : Int)) (by omega) (is := false) (by simpa using h0)).mono ?_
    rintro e w' ⟨rfl, hg⟩
    exact ⟨0, false, rfl, fun hh => (by cases hh), hg⟩
theorem dm_run (h : DM w0 w bb lb bq lq n v N L D) (hI : D.I TT TL k) (hx : D.s.left = x) (h0 : 0 < m) (h1 : m ≤ x) {now' : Int} (hn : D.now + m ≤ now') :
    Calls Tryd.prog 11 #[.pointer (some ⟨bq, 0, none⟩), .int .i64 m] w fun e w' => ∃ a b is, e = .returned (.tuple #[.agg #[.int .i64 a, .int .i64 b], .bool is, .int .i64 0]) ∧ DPI w0 w' bb lb bq lq n v N L TT TL k now' (D.used + m) := by
  obtain ⟨OB, OQ, h2⟩ := h
  rcases hI.stack with ⟨hS, hl⟩ | ⟨l, z, hS, hl, hz⟩
  · omega
  · by_cases hlt : m < z.left
    · refine (qs_run m h2.qs hS (by omega) hlt hz.2).mono ?_
      rintro e w' ⟨rfl, hq⟩
      obtain ⟨OQ', h3⟩ := h2.qsn hq
      exact ⟨_, _, _, rfl, _, ⟨OB, OQ', h3⟩, hI.qrun hS h0 hlt hn, rfl, rfl⟩
    · have hm : z.left = m := by omega
      refine (qs_run_done h2.qs hS (by omega) hz.2 hm rfl rfl).mono ?_
      rintro e w' ⟨rfl, hq⟩
      obtain ⟨OQ', h3⟩ := h2.qsn hq
      exact ⟨_, _, _, rfl, _, ⟨OB, OQ', h3⟩, hI.qdone hS hm hn, rfl, rfl⟩
theorem dm_bleft (h : DM w0 w bb lb bq lq n v N L D) (i : Nat) (hx : Vg.Bo.left D.Bs D.Q i = x) : Calls Tryd.prog 20 #[.pointer (some ⟨bb, 0, none⟩), .int .i64 i] w fun e w' => e = .returned (.int .i64 x) ∧ ∃ k, w' = w.drewN k := by
  obtain ⟨OB, OQ, h1⟩ := h
  exact bs_left i h1.bs hx
theorem dm_brun (h : DM w0 w bb lb bq lq n v N L D) (hI : D.I TT TL k) (hk : k ≤ 1000000) (i : Nat) (ha : Vg.Bo.able D.Bs D.Q i = true) (h0 : 0 < m) (h1 : m ≤ Vg.Bo.left D.Bs D.Q i) {now en now' : Int} (hnow : D.now = now) (hen : now + m = en) (hn : en ≤ now') (hn2 : now' ≤ 4503599627370496) :
    Calls Tryd.prog 21 #[.pointer (some ⟨bb, 0, none⟩), .int .i64 i, .int .i64 m, .int .i64 en] w fun e w' => ∃ b, e = .returned (.tuple #[.bool b, .int .i64 0]) ∧ DPI w0 w' bb lb bq lq n v N L TT TL k now' (D.used + m) := by
  subst hnow hen
  obtain ⟨OB, OQ, h2⟩ := h
  obtain ⟨Bs', Q', b, U', hr, hI'⟩ := hI.brun ha h0 h1 hn hn2
  have hn0 := hI.n0
  have hle := (hI.left_pos ha).2
  refine (bs_run i m (D.now + m) h2.bs hI.inv hk ⟨by omega, by omega⟩ ⟨by omega, by omega⟩ hr).mono ?_
  rintro e w' ⟨rfl, hq⟩
  obtain ⟨OB', h3⟩ := h2.bsn hq
  exact ⟨b, rfl, _, ⟨OB', OQ, h3⟩, hI', rfl, rfl⟩
theorem dm_idle (h : DM w0 w bb lb bq lq n v N L D) (hI : D.I TT TL k) {now' : Int} (hn : D.now ≤ now') : DPI w0 w bb lb bq lq n v N L TT TL k now' D.used := by
  obtain ⟨OB, OQ, h2⟩ := h
  exact ⟨{ D with now := now' }, ⟨OB, OQ, h2⟩, hI.idle hn, rfl, rfl⟩
theorem dp_all {a : Option Addr} {c : Nat} (h : DPI w0 w bb lb bq lq n (.slice a N c) N (Vg.lds TT TL) TT TL k now used) (hn : now ≤ 4503599627370496) (hL : ∀ x ∈ Vg.lds TT TL, x.ok) (hN : N ≤ 256) (hc9 : c ≤ 9223372036854775807) (hNc : N ≤ c) :
    Calls Tryd.prog 22 #[.slice a N c, .int .i64 now] w fun e w' => ∃ m er, e = .returned (.tuple #[.int .i64 m, .int .i64 er]) ∧ (er = 10 ∨ (er = 0 ∧ used ≤ m)) ∧ Vg.Grows w w' := by
  obtain ⟨D, ⟨OB, OQ, h1⟩, h2, rfl, rfl⟩ := h
  refine (dem_all h1.ld h2.n0 hn hL hN hc9 hNc).mono ?_
  rintro e w' ⟨m, er, rfl, h3, hg⟩
  refine ⟨m, er, rfl, ?_, hg⟩
  rcases h3 with h3 | ⟨h3, rfl⟩
  · exact .inl h3
  · exact .inr ⟨h3, h2.dm⟩
/-- All begins. -/
theorem DPI.start {w1 w2 w3 : World} (hT : Vg.Tab w) (hw0 : 0 < w.heap.size) (g1 : Vg.Grows w w1) (g2 : Vg.Grows w1 w2) (g3 : Vg.Grows w2 w3) (hld : Vg.Que w1 w.heap.size 116 4 v N (Vg.ldc L)) (hL : L.length = N)
    (hb : BS w2 w1.heap.size w1.heap.size (TT.map Vg.th0) (Vg.Qs0 TT) OB) (hq : QS w3 w2.heap.size w2.heap.size n (Vg.iq0 TL) OQ) (hgT : Vg.goodT TT = true) (hgL : Vg.goodL TL = true) :
    DPI w w3 w1.heap.size w1.heap.size w2.heap.size w2.heap.size n v N L TT TL 0 0 0 := by
  have s1 := g1.size
  have s2 := g2.size
  have s3 := g3.size
  refine ⟨_, ⟨OB, OQ, (g1.trans g2).trans g3, ((hT.grows g1).grows g2).grows g3, ⟨hw0, s1, by omega⟩, hb.grows g3, hq, Vg.LdR.grows (w := w1) ⟨hL, Vg.reads_zero hld.reads⟩ (g2.trans g3), fun k hk hh => ?_, fun k hk => ⟨fun hh => ?_, fun hh => ?_⟩⟩, Vg.Dm.start hgT hgL, rfl, rfl⟩
  · have h1 := (hb.own k hk).2
    have h2 := (hq.own k hh).1
    omega
  · have h1 := (hld.lt k hk).2
    have h2 := (hb.own k hh).1
    omega
  · have h1 := (hld.lt k hk).2
    have h2 := (hq.own k hh).1
    omega
end
end Go.Proofs.YtekjnagojphmkaaDoor
