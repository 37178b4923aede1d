/- Stats: the plain functions, and the contracts of what is called with one count or one job. -/
import Derived.Test.YtekjnagojphmkaaDoorTime
import Derived.Test.YtekjnagojphmkaaDoorRowB
set_option linter.unusedSimpArgs false
set_option linter.unusedVariables false
set_option maxHeartbeats 2000000
set_option maxRecDepth 20000
namespace Vg
open Go
/-- A count: jobs, missed, worst, sum, lag. -/
structure St where
  j : Int
  m : Int
  w : Int
  s : Int
  l : Int
/-- A job: task, at, released, done, deadline. -/
structure Jb where
  t : Int
  a : Int
  r : Int
  d : Int
  l : Int
def St.zero : St := ⟨0, 0, 0, 0, 0⟩
def St.el (x : St) : Nat → Int
  | 0 => x.j
  | 1 => x.m
  | 2 => x.w
  | 3 => x.s
  | _ => x.l
def St.OK (x : St) : Prop := timeB x.j = true ∧ timeB x.m = true ∧ timeB x.w = true ∧ timeB x.s = true ∧ timeB x.l = true ∧ x.m ≤ x.j ∧ x.w ≤ x.s ∧ (x.j = 0 → x.m = 0 ∧ x.w = 0 ∧ x.s = 0 ∧ x.l = 0)
instance (x : St) : Decidable x.OK := by unfold St.OK; exact inferInstance
def St.ck (x : St) : Int := if x.OK then 0 else 2
theorem St.ck_ok {x : St} (h : x.OK) : x.ck = 0 := if_pos h
theorem St.ck_no {x : St} (h : ¬ x.OK) : x.ck = 2 := if_neg h
theorem St.el_bad {x : St} (k : Nat) (hk : k < 5) (h : timeB (x.el k) = false) : ¬ x.OK := by
  rintro ⟨h0, h1, h2, h3, h4, _⟩
  rcases (by omega : k = 0 ∨ k = 1 ∨ k = 2 ∨ k = 3 ∨ k = 4) with rfl | rfl | rfl | rfl | rfl <;> simp_all [St.el]
theorem St.el_all {x : St} (h : ∀ i, i < 5 → timeB (x.el i) = true) : timeB x.j = true ∧ timeB x.m = true ∧ timeB x.w = true ∧ timeB x.s = true ∧ timeB x.l = true :=
  ⟨h 0 (by omega), h 1 (by omega), h 2 (by omega), h 3 (by omega), h 4 (by omega)⟩
theorem St.OK.bd {x : St} (h : x.OK) : 0 ≤ x.j ∧ x.j ≤ 4503599627370496 ∧ 0 ≤ x.m ∧ x.m ≤ x.j ∧ 0 ≤ x.w ∧ x.w ≤ x.s ∧ x.s ≤ 4503599627370496 ∧ 0 ≤ x.l ∧ x.l ≤ 4503599627370496 := by
  obtain ⟨h0, h1, h2, h3, h4, h5, h6, _⟩ := h
  have a0 := timeB_true.1 h0
  have a1 := timeB_true.1 h1
  have a2 := timeB_true.1 h2
  have a3 := timeB_true.1 h3
  have a4 := timeB_true.1 h4
  omega
def Jb.rb (x : Jb) : Bool := decide (0 ≤ x.a) && decide (x.a ≤ x.r) && decide (x.r ≤ x.d) && timeB x.d && timeB x.l
theorem Jb.rb_true {x : Jb} : x.rb = true ↔ 0 ≤ x.a ∧ x.a ≤ x.r ∧ x.r ≤ x.d ∧ x.d ≤ 4503599627370496 ∧ 0 ≤ x.l ∧ x.l ≤ 4503599627370496 := by
  unfold Jb.rb
  simp only [Bool.and_eq_true, decide_eq_true_eq, timeB_true]
  omega
def Jb.st (x : Jb) : St := ⟨1, if x.l < x.d - x.a then 1 else 0, x.d - x.a, x.d - x.a, x.r - x.a⟩
theorem Jb.st_ok {x : Jb} (h : x.rb = true) : x.st.OK := by
  have := Jb.rb_true.1 h
  have e : x.st.m = if x.l < x.d - x.a then 1 else 0 := rfl
  have e2 : 0 ≤ x.st.m ∧ x.st.m ≤ 1 := by rw [e]; split <;> omega
  refine ⟨timeB_true.2 ?_, timeB_true.2 ⟨e2.1, by omega⟩, timeB_true.2 ?_, timeB_true.2 ?_, timeB_true.2 ?_, ?_, ?_, ?_⟩
  · show (0 : Int) ≤ 1 ∧ (1 : Int) ≤ _; omega
  · show 0 ≤ x.d - x.a ∧ x.d - x.a ≤ _; omega
  · show 0 ≤ x.d - x.a ∧ x.d - x.a ≤ _; omega
  · show 0 ≤ x.r - x.a ∧ x.r - x.a ≤ _; omega
  · exact e2.2
  · exact Int.le_refl _
  · intro h; exact absurd (show (1 : Int) = 0 from h) (by omega)
def St.jo (x y : St) : St := ⟨x.j + y.j, x.m + y.m, max x.w y.w, x.s + y.s, max x.l y.l⟩
def St.fit (x y : St) : Bool := decide (x.j + y.j ≤ 4503599627370496) && decide (x.s + y.s ≤ 4503599627370496)
theorem St.jo_ok {x y : St} (hx : x.OK) (hy : y.OK) : (x.jo y).OK ↔ x.fit y = true := by
  have a := hx.bd
  have b := hy.bd
  have zx := hx.2.2.2.2.2.2.2
  have zy := hy.2.2.2.2.2.2.2
  unfold St.fit
  simp only [Bool.and_eq_true, decide_eq_true_eq]
  constructor
  · rintro ⟨h0, _, _, h3, _⟩
    have a0 := timeB_true.1 h0
    have a3 := timeB_true.1 h3
    have e0 : x.j + y.j ≤ 4503599627370496 := a0.2
    have e3 : x.s + y.s ≤ 4503599627370496 := a3.2
    exact ⟨e0, e3⟩
  · rintro ⟨h0, h3⟩
    refine ⟨timeB_true.2 ?_, timeB_true.2 ?_, timeB_true.2 ?_, timeB_true.2 ?_, timeB_true.2 ?_, ?_, ?_, ?_⟩
    · show 0 ≤ x.j + y.j ∧ x.j + y.j ≤ _; omega
    · show 0 ≤ x.m + y.m ∧ x.m + y.m ≤ _; omega
    · show 0 ≤ max x.w y.w ∧ max x.w y.w ≤ _; omega
    · show 0 ≤ x.s + y.s ∧ x.s + y.s ≤ _; omega
    · show 0 ≤ max x.l y.l ∧ max x.l y.l ≤ _; omega
    · show x.m + y.m ≤ x.j + y.j; omega
    · show max x.w y.w ≤ x.s + y.s; omega
    · intro h
      have h : x.j + y.j = 0 := h
      have u := zx (by omega)
      have v := zy (by omega)
      show x.m + y.m = 0 ∧ max x.w y.w = 0 ∧ x.s + y.s = 0 ∧ max x.l y.l = 0
      omega
def St.add (x : St) (y : Jb) : St × Int := if x.OK ∧ y.rb = true then (if x.fit y.st = true then (x.jo y.st, 0) else (x, 10)) else (St.zero, 2)
def St.join (x y : St) : St × Int := if x.OK ∧ y.OK then (if x.fit y = true then (x.jo y, 0) else (St.zero, 10)) else (St.zero, 2)
def St.mean (x : St) : Int × Int := if x.OK then (if x.j = 0 then (0, 3) else (x.s / x.j, 0)) else (0, 2)
def ofGo : St → List Jb → St × Int
  | s, [] => (s, 0)
  | s, j :: l => if (s.add j).2 = 0 then ofGo (s.add j).1 l else (St.zero, (s.add j).2)
end Vg
namespace Go.Proofs.YtekjnagojphmkaaDoor
open Go.ChangeShapes Go.WideShapes Go.ChangeAt Go.RowKit
abbrev stV (x : Vg.St) : Value := .agg #[.int .i64 x.j, .int .i64 x.m, .int .i64 x.w, .int .i64 x.s, .int .i64 x.l]
abbrev jbV (x : Vg.Jb) : Value := .agg #[.int .i64 x.t, .int .i64 x.a, .int .i64 x.r, .int .i64 x.d, .int .i64 x.l]
theorem stime_any (t : Int) (w : World) :
    Calls Tryd.prog 73 #[.int .i64 t] w fun e w' => e = .returned (.bool (Vg.timeB t)) ∧ w = w' := by
  go_enter Tryd.func73, Tryd.ntmps73
  go_wp2
  all_goals go_ret
  all_goals exact ⟨ret_bool (by first | (simp [Vg.timeB, *]; done) | (simp [Vg.timeB]; omega)), rfl⟩
theorem stats_check (x : Vg.St) (w : World) : Calls Tryd.prog 38 #[stV x] w fun e w' => e = .returned (.int .i64 x.ck) ∧ Vg.Grows w w' := by
  obtain ⟨j, m, wo, s, l⟩ := x
  have d0 : ∀ w, (Instr.index 157 (.agg #[.int .i64 j, .int .i64 m, .int .i64 wo, .int .i64 s, .int .i64 l]) (.int .i64 0)).run Tryd.prog w = .ok (.int .i64 j) w := fun _ => by kernel_rfl
  have d1 : ∀ w, (Instr.index 157 (.agg #[.int .i64 j, .int .i64 m, .int .i64 wo, .int .i64 s, .int .i64 l]) (.int .i64 1)).run Tryd.prog w = .ok (.int .i64 m) w := fun _ => by kernel_rfl
  have d2 : ∀ w, (Instr.index 157 (.agg #[.int .i64 j, .int .i64 m, .int .i64 wo, .int .i64 s, .int .i64 l]) (.int .i64 2)).run Tryd.prog w = .ok (.int .i64 wo) w := fun _ => by kernel_rfl
  have d3 : ∀ w, (Instr.index 157 (.agg #[.int .i64 j, .int .i64 m, .int .i64 wo, .int .i64 s, .int .i64 l]) (.int .i64 3)).run Tryd.prog w = .ok (.int .i64 s) w := fun _ => by kernel_rfl
  have d4 : ∀ w, (Instr.index 157 (.agg #[.int .i64 j, .int .i64 m, .int .i64 wo, .int .i64 s, .int .i64 l]) (.int .i64 4)).run Tryd.prog w = .ok (.int .i64 l) w := fun _ => by kernel_rfl
  obtain ⟨c, hc⟩ : ∃ c, Vg.St.ck ⟨j, m, wo, s, l⟩ = c := ⟨_, rfl⟩
  rw [hc]
  have HC := Lib.hid hc
  clear hc
  go_enter Tryd.func38, Tryd.ntmps38
  go_wp2
  go_loopw [19] (fun i wr => ∃ k : Nat, k ≤ 5 ∧ i = .int .i64 k ∧ (∀ i, i < k → Vg.timeB (Vg.St.el ⟨j, m, wo, s, l⟩ i) = true) ∧ wr = (w.alloc (.cells #[.int .i64 j, .int .i64 m, .int .i64 wo, .int .i64 s, .int .i64 l] 33)).alloc (.cells #[.int .i64 j, .int .i64 m, .int .i64 wo, .int .i64 s, .int .i64 l] 157)) (fun i _ => 5 - (intOf i).toNat)
  case atStart => exact ⟨0, by omega, rfl, fun i hi => by omega, rfl⟩
  case round =>
    obtain ⟨k, hk, rfl, hall, rfl⟩ := hrel
    have HA := Lib.hid hall
    clear hall
    by_cases hlt : k < 5
    · obtain ⟨v, hv⟩ : ∃ v, Vg.St.el ⟨j, m, wo, s, l⟩ k = v := ⟨_, rfl⟩
      cases ht : Vg.timeB v with
      | false =>
        have e : c = 2 := by rw [← HC.out]; exact Vg.St.ck_no (Vg.St.el_bad k hlt (by rw [hv]; exact ht))
        have HE := Lib.hid e
        clear e
        rcases (by omega : k = 0 ∨ k = 1 ∨ k = 2 ∨ k = 3 ∨ k = 4) with rfl | rfl | rfl | rfl | rfl <;> simp only [Vg.St.el] at hv <;> subst hv
        all_goals
          clear hlt
          go_wp2_with ((go_at_call 73; refine (stime_any _ _).mono ?_; rintro e w' ⟨rfl, rfl⟩))
          go_ret
          exact ⟨by rw [HE.out]; rfl, by (repeat' (first | (with_reducible exact Vg.Grows.refl _) | (with_reducible assumption) | (with_reducible refine Vg.Grows.alloc ?_ _) | (with_reducible refine Vg.Grows.plus ?_ _ _) | (with_reducible refine Vg.Grows.drewN ?_ _) | (with_reducible refine Vg.Grows.drew ?_) | (with_reducible refine Vg.Grows.setCell ?_ ?_ _) | (with_reducible refine Vg.Grows.put ?_ ?_ _) | omega | (simp; omega) | (simp; done)))⟩
      | true =>
        have hn : ∀ i, i < k + 1 → Vg.timeB (Vg.St.el ⟨j, m, wo, s, l⟩ i) = true := fun i hi => by
          by_cases h : i = k
          · rw [h, hv]; exact ht
          · exact HA.out i (by omega)
        have HN := Lib.hid hn
        clear hn
        rcases (by omega : k = 0 ∨ k = 1 ∨ k = 2 ∨ k = 3 ∨ k = 4) with rfl | rfl | rfl | rfl | rfl <;> simp only [Vg.St.el] at hv <;> subst hv
        · clear hlt
          go_wp2_with ((go_at_call 73; refine (stime_any _ _).mono ?_; rintro e w' ⟨rfl, rfl⟩))
          exact ⟨⟨1, by omega, rfl, HN.out, by trivial⟩, by simp [intOf]⟩
        · clear hlt
          go_wp2_with ((go_at_call 73; refine (stime_any _ _).mono ?_; rintro e w' ⟨rfl, rfl⟩))
          exact ⟨⟨2, by omega, rfl, HN.out, by trivial⟩, by simp [intOf]⟩
        · clear hlt
          go_wp2_with ((go_at_call 73; refine (stime_any _ _).mono ?_; rintro e w' ⟨rfl, rfl⟩))
          exact ⟨⟨3, by omega, rfl, HN.out, by trivial⟩, by simp [intOf]⟩
        · clear hlt
          go_wp2_with ((go_at_call 73; refine (stime_any _ _).mono ?_; rintro e w' ⟨rfl, rfl⟩))
          exact ⟨⟨4, by omega, rfl, HN.out, by trivial⟩, by simp [intOf]⟩
        · clear hlt
          go_wp2_with ((go_at_call 73; refine (stime_any _ _).mono ?_; rintro e w' ⟨rfl, rfl⟩))
          exact ⟨⟨5, by omega, rfl, HN.out, by trivial⟩, by simp [intOf]⟩
    · obtain rfl : k = 5 := by omega
      obtain ⟨t0, t1, t2, t3, t4⟩ := Vg.St.el_all HA.out
      have a1 := Vg.timeB_true.1 t1
      have T : Hid (Vg.timeB j = true ∧ Vg.timeB m = true ∧ Vg.timeB wo = true ∧ Vg.timeB s = true ∧ Vg.timeB l = true) := Lib.hid ⟨t0, t1, t2, t3, t4⟩
      clear t0 t1 t2 t3 t4 hlt hk
      simp only [] at a1
      by_cases q1 : j < m
      · have e : c = 2 := by rw [← HC.out]; exact Vg.St.ck_no (fun h => by have := h.2.2.2.2.2.1; simp only [] at this; omega)
        have HE := Lib.hid e
        clear e
        go_wp2
        go_ret
        exact ⟨by rw [HE.out]; rfl, by (repeat' (first | (with_reducible exact Vg.Grows.refl _) | (with_reducible assumption) | (with_reducible refine Vg.Grows.alloc ?_ _) | (with_reducible refine Vg.Grows.plus ?_ _ _) | (with_reducible refine Vg.Grows.drewN ?_ _) | (with_reducible refine Vg.Grows.drew ?_) | (with_reducible refine Vg.Grows.setCell ?_ ?_ _) | (with_reducible refine Vg.Grows.put ?_ ?_ _) | omega | (simp; omega) | (simp; done)))⟩
      · by_cases q2 : s < wo
        · have e : c = 2 := by rw [← HC.out]; exact Vg.St.ck_no (fun h => by have := h.2.2.2.2.2.2.1; simp only [] at this; omega)
          have HE := Lib.hid e
          clear e
          go_wp2
          go_ret
          exact ⟨by rw [HE.out]; rfl, by (repeat' (first | (with_reducible exact Vg.Grows.refl _) | (with_reducible assumption) | (with_reducible refine Vg.Grows.alloc ?_ _) | (with_reducible refine Vg.Grows.plus ?_ _ _) | (with_reducible refine Vg.Grows.drewN ?_ _) | (with_reducible refine Vg.Grows.drew ?_) | (with_reducible refine Vg.Grows.setCell ?_ ?_ _) | (with_reducible refine Vg.Grows.put ?_ ?_ _) | omega | (simp; omega) | (simp; done)))⟩
        · by_cases q3 : j = 0
          · subst q3
            obtain rfl : m = 0 := by omega
            by_cases q4 : wo = 0 ∧ s = 0 ∧ l = 0
            · obtain ⟨rfl, rfl, rfl⟩ := q4
              have e : c = 0 := by rw [← HC.out]; rfl
              have HE := Lib.hid e
              clear e
              go_wp2
              go_ret
              exact ⟨by rw [HE.out]; rfl, by (repeat' (first | (with_reducible exact Vg.Grows.refl _) | (with_reducible assumption) | (with_reducible refine Vg.Grows.alloc ?_ _) | (with_reducible refine Vg.Grows.plus ?_ _ _) | (with_reducible refine Vg.Grows.drewN ?_ _) | (with_reducible refine Vg.Grows.drew ?_) | (with_reducible refine Vg.Grows.setCell ?_ ?_ _) | (with_reducible refine Vg.Grows.put ?_ ?_ _) | omega | (simp; omega) | (simp; done)))⟩
            · have e : c = 2 := by rw [← HC.out]; exact Vg.St.ck_no (fun h => by have := h.2.2.2.2.2.2.2 rfl; simp only [] at this; omega)
              have HE := Lib.hid e
              clear e

              go_wp2

              all_goals go_ret
              all_goals exact ⟨by rw [HE.out]; rfl, by (repeat' (first | (with_reducible exact Vg.Grows.refl _) | (with_reducible assumption) | (with_reducible refine Vg.Grows.alloc ?_ _) | (with_reducible refine Vg.Grows.plus ?_ _ _) | (with_reducible refine Vg.Grows.drewN ?_ _) | (with_reducible refine Vg.Grows.drew ?_) | (with_reducible refine Vg.Grows.setCell ?_ ?_ _) | (with_reducible refine Vg.Grows.put ?_ ?_ _) | omega | (simp; omega) | (simp; done)))⟩
          · have e : c = 0 := by rw [← HC.out]; exact Vg.St.ck_ok ⟨T.out.1, T.out.2.1, T.out.2.2.1, T.out.2.2.2.1, T.out.2.2.2.2, by simp only []; omega, by simp only []; omega, fun h => absurd h q3⟩
            have HE := Lib.hid e
            clear e
            have q3b : (j == 0) = false := by simp [q3]
            go_wp2
            go_ret
            exact ⟨by rw [HE.out]; rfl, by (repeat' (first | (with_reducible exact Vg.Grows.refl _) | (with_reducible assumption) | (with_reducible refine Vg.Grows.alloc ?_ _) | (with_reducible refine Vg.Grows.plus ?_ _ _) | (with_reducible refine Vg.Grows.drewN ?_ _) | (with_reducible refine Vg.Grows.drew ?_) | (with_reducible refine Vg.Grows.setCell ?_ ?_ _) | (with_reducible refine Vg.Grows.put ?_ ?_ _) | omega | (simp; omega) | (simp; done)))⟩
end Go.Proofs.YtekjnagojphmkaaDoor
