/- Contracts of package vergeref15 (the document's server): a struct by value, its list a plain slice. -/
import Derived.Test.YtiinhofmhoplfaaServerP
import Derived.Test.YtiinhofmhoplfaaTime
set_option linter.unusedSimpArgs false
set_option linter.unusedVariables false
set_option maxHeartbeats 400000
set_option maxRecDepth 20000
namespace Vg
open Go
theorem Reads.ptail {S : Nat} {w : World} {g o c : Nat} {x : Int × Int} {l : List (Int × Int)} (h : Reads S w (.slice (some ⟨g, o, none⟩) (l.length + 1) c) (l.length + 1) (pcells (x :: l))) : Reads S w (.slice (some ⟨g, o + 2, none⟩) l.length (c - 1)) l.length (pcells l) := by
  rcases h with ⟨h0, _⟩ | ⟨g', o', cap', hv, hb, hg, hn, hm, hx⟩
  · cases h0
  · simp only [Value.slice.injEq, Option.some.injEq, Addr.mk.injEq] at hv
    obtain ⟨⟨rfl, rfl, _⟩, _, rfl⟩ := hv
    refine .inr ⟨g, o + 2, c - 1, rfl, hb, hg, by omega, by omega, fun j hj => ?_⟩
    have := hx (j + 2) (by simpa [pcells] using hj)
    rw [show o + 2 + j = o + (j + 2) from by omega, this]
    simp [pcells]
theorem Reads.ptail1 {S : Nat} {w : World} {g o : Nat} {x : Int × Int} {l : List (Int × Int)} (h : Reads S w (.slice (some ⟨g, o, none⟩) (l.length + 1) 1) (l.length + 1) (pcells (x :: l))) : Reads S w (.slice (some ⟨g, o, none⟩) l.length 0) l.length (pcells l) := by
  rcases h with ⟨h0, _⟩ | ⟨g', o', cap', hv, hb, hg, hn, hm, hx⟩
  · cases h0
  · simp only [Value.slice.injEq, Option.some.injEq, Addr.mk.injEq] at hv
    obtain ⟨⟨rfl, rfl, _⟩, _, rfl⟩ := hv
    have hl : l = [] := List.eq_nil_of_length_eq_zero (by omega)
    subst hl
    exact .inr ⟨g, o, 0, rfl, hb, hg, by simp, by omega, fun j hj => by simp [pcells] at hj⟩
end Vg
namespace Go.Proofs.Ytiinhofmhoplfaa
open Go.ChangeShapes Go.WideShapes Go.ChangeAt Go.RowKit
section
variable {S : Nat} {budget period last : Int} {sa : Option Addr} {sc : Nat} {L : List (Int × Int)} {w : World}
theorem ref15_new (bu pe : Int) :
    Calls Try.prog 100 #[.int .i64 bu, .int .i64 pe] w fun e w' => e = .returned (.tuple #[.agg #[.int .i64 bu, .int .i64 pe, .slice none 0 0, .int .i64 0], .bool (decide (1 ≤ bu) && decide (bu ≤ pe) && decide (pe ≤ 1099511627776))]) ∧ Vg.Grows w w' := by
  go_enter Try.func100, Try.ntmps100
  go_wp2
  all_goals go_returns
  all_goals exact ⟨by simp [*]; try omega, by (repeat' (first | (with_reducible exact Vg.Grows.refl _) | (with_reducible assumption) | (with_reducible refine Vg.Grows.alloc ?_ _) | (with_reducible refine Vg.Grows.plus ?_ _ _) | (with_reducible refine Vg.Grows.drewN ?_ _) | (with_reducible refine Vg.Grows.drew ?_) | (with_reducible refine Vg.Grows.setCell ?_ ?_ _) | (with_reducible refine Vg.Grows.put ?_ ?_ _) | omega | (simp; omega) | (simp; done)))⟩
theorem ref15_next (hr : Vg.Reads S w (.slice sa L.length sc) L.length (Vg.pcells L)) :
    Calls Try.prog 112 #[.agg #[.int .i64 budget, .int .i64 period, .slice sa L.length sc, .int .i64 last]] w fun e w' =>
      e = .returned (.tuple #[.int .i64 (L.headD (0, 0)).1, .bool (!L.isEmpty)]) ∧ Vg.Grows w w' := by
  cases L with
  | nil =>
    clear hr
    go_enter Try.func112, Try.ntmps112
    go_wp2
    go_ret2
    exact ⟨rfl, by (repeat' (first | (with_reducible exact Vg.Grows.refl _) | (with_reducible assumption) | (with_reducible refine Vg.Grows.alloc ?_ _) | (with_reducible refine Vg.Grows.plus ?_ _ _) | (with_reducible refine Vg.Grows.drewN ?_ _) | (with_reducible refine Vg.Grows.drew ?_) | (with_reducible refine Vg.Grows.setCell ?_ ?_ _) | (with_reducible refine Vg.Grows.put ?_ ?_ _) | omega | (simp; omega) | (simp; done)))⟩
  | cons x l =>
    obtain ⟨g, off, rfl, hg, hc, hm, hx⟩ := hr.open (by simp [Vg.pcells])
    have h0 := hx 0 (by simp [Vg.pcells])
    simp only [Nat.add_zero, Vg.pcells, List.getElem_cons_zero] at h0
    have hcm : sc ≤ 9223372036854775807 := hm
    have hlen : (0 : Int) < ((l.length : Int) + 1) := by omega
    clear hx hr
    go_enter Try.func112, Try.ntmps112
    go_wp2
    go_ret2
    exact ⟨rfl, by (repeat' (first | (with_reducible exact Vg.Grows.refl _) | (with_reducible assumption) | (with_reducible refine Vg.Grows.alloc ?_ _) | (with_reducible refine Vg.Grows.plus ?_ _ _) | (with_reducible refine Vg.Grows.drewN ?_ _) | (with_reducible refine Vg.Grows.drew ?_) | (with_reducible refine Vg.Grows.setCell ?_ ?_ _) | (with_reducible refine Vg.Grows.put ?_ ?_ _) | omega | (simp; omega) | (simp; done)))⟩
theorem ref15_left (hr : Vg.Reads S w (.slice sa L.length sc) L.length (Vg.pcells L)) (hbu : 1 ≤ budget ∧ budget ≤ 1099511627776) (h0 : ∀ x ∈ L, 0 ≤ x.2) (hs : Vg.owed L ≤ budget) :
    Calls Try.prog 101 #[.agg #[.int .i64 budget, .int .i64 period, .slice sa L.length sc, .int .i64 last]] w fun e w' =>
      e = .returned (.int .i64 (Vg.Srv.left ⟨L, last⟩ budget)) ∧ Vg.Grows w w' := by
  have hcm := hr.cap_le
  have hcm : sc ≤ 9223372036854775807 := hcm
  by_cases hl : 16 ≤ L.length
  · have hv : Vg.Srv.left ⟨L, last⟩ budget = 0 := by unfold Vg.Srv.left; rw [if_pos hl]
    rw [hv]
    clear hr hv
    go_enter Try.func101, Try.ntmps101
    go_wp2
    go_ret
    exact ⟨rfl, by (repeat' (first | (with_reducible exact Vg.Grows.refl _) | (with_reducible assumption) | (with_reducible refine Vg.Grows.alloc ?_ _) | (with_reducible refine Vg.Grows.plus ?_ _ _) | (with_reducible refine Vg.Grows.drewN ?_ _) | (with_reducible refine Vg.Grows.drew ?_) | (with_reducible refine Vg.Grows.setCell ?_ ?_ _) | (with_reducible refine Vg.Grows.put ?_ ?_ _) | omega | (simp; omega) | (simp; done)))⟩
  · have hv : Vg.Srv.left ⟨L, last⟩ budget = budget - Vg.owed L := by unfold Vg.Srv.left; rw [if_neg hl]
    rw [hv]
    obtain ⟨f, hf⟩ : ∃ f : Nat → Int, ∀ k, f k = Vg.owed (L.take k) := ⟨_, fun _ => rfl⟩
    have f0 : f 0 = 0 := by rw [hf]; rfl
    have fe : f L.length = Vg.owed L := by rw [hf, List.take_length]
    have fs : ∀ k (hk : k < L.length), f (k + 1) = f k + L[k].2 := fun k hk => by
      rw [hf, hf, List.take_succ_eq_append_getElem hk, Vg.owed_append]; simp [Vg.owed]
    have fl : ∀ k, 0 ≤ f k ∧ f k ≤ budget := fun k => by
      have h1 := Vg.owed_nonneg (L := L.take k) fun x hx => h0 x (List.take_subset _ _ hx)
      have h2 := Vg.owed_nonneg (L := L.drop k) fun x hx => h0 x (List.drop_subset _ _ hx)
      have h3 := Vg.owed_append (L.take k) (L.drop k)
      rw [List.take_append_drop] at h3
      rw [hf]; omega
    have F0 := Lib.hid f0
    have FE := Lib.hid fe
    have Qfs := Lib.hid fs
    have FL := Lib.hid fl
    have HR := Lib.hid hr
    clear f0 fe fs fl hf hr hv
    go_enter Try.func101, Try.ntmps101
    go_wp2
    go_loopw [3, 15] (fun v i wr => ∃ k : Nat, k ≤ L.length ∧ i = .int .i64 k ∧ v = .int .i64 (budget - f k) ∧ Vg.Grows (w.alloc (.cells #[.int .i64 budget, .int .i64 period, .slice sa L.length sc, .int .i64 last] 179)) wr) (fun _ i _ => L.length - (intOf i).toNat)
    case atStart => exact ⟨0, by omega, rfl, by rw [F0.out, Int.sub_zero], Vg.Grows.refl _⟩
    case round =>
      obtain ⟨k, hk, rfl, rfl, y, m, rfl⟩ := hrel
      have hfk := FL.out k
      have hfk1 := FL.out (k + 1)
      by_cases hlt : k < L.length
      · obtain ⟨g, off, rfl, hg, hc, hm, hx⟩ := HR.out.open (by rw [Vg.pcells_length]; omega)
        have hget := Vg.pcells_get L k hlt
        have c0 := hx (k * 2) (by rw [Vg.pcells_length]; omega)
        have c1 := hx (k * 2 + 1) (by rw [Vg.pcells_length]; omega)
        rw [← Nat.add_assoc] at c1
        obtain ⟨x, hxk⟩ : ∃ x, L[k] = x := ⟨_, rfl⟩
        have hfs := Qfs.out k hlt
        rw [hxk] at hget hfs
        have c0' : w.cell? ⟨g, off + k * 2, none⟩ = some (.int .i64 x.1) := by rw [c0, ← hget.1, List.getElem?_eq_getElem]
        have c1' : w.cell? ⟨g, off + k * 2 + 1, none⟩ = some (.int .i64 x.2) := by rw [c1, ← hget.2, List.getElem?_eq_getElem]
        have hsum : IntKind.i64.wrap (budget - f k - x.2) = budget - f k - x.2 := by rw [IntWalk.i64_in _ (by omega)]
        have HFS := Lib.hid hfs
        clear c0 c1 hget hx hxk hfs
        go_wp2
        refine ⟨⟨k + 1, by omega, by go_num, ?_, by (repeat' (first | (with_reducible exact Vg.Grows.refl _) | (with_reducible assumption) | (with_reducible refine Vg.Grows.alloc ?_ _) | (with_reducible refine Vg.Grows.plus ?_ _ _) | (with_reducible refine Vg.Grows.drewN ?_ _) | (with_reducible refine Vg.Grows.drew ?_) | (with_reducible refine Vg.Grows.setCell ?_ ?_ _) | (with_reducible refine Vg.Grows.put ?_ ?_ _) | omega | (simp; omega) | (simp; done)))⟩, by simp [intOf]; omega⟩
        rw [HFS.out]
        congr 1; omega
      · obtain rfl : k = L.length := by omega
        go_wp2
        go_ret
        exact ⟨by rw [FE.out]; rfl, by (repeat' (first | (with_reducible exact Vg.Grows.refl _) | (with_reducible assumption) | (with_reducible refine Vg.Grows.alloc ?_ _) | (with_reducible refine Vg.Grows.plus ?_ _ _) | (with_reducible refine Vg.Grows.drewN ?_ _) | (with_reducible refine Vg.Grows.drew ?_) | (with_reducible refine Vg.Grows.setCell ?_ ?_ _) | (with_reducible refine Vg.Grows.put ?_ ?_ _) | omega | (simp; omega) | (simp; done)))⟩
theorem ref15_refill_no (now : Int) (hno : now < last ∨ 4503599627370496 < now) (hl : 0 ≤ last) :
    Calls Try.prog 106 #[.agg #[.int .i64 budget, .int .i64 period, .slice sa L.length sc, .int .i64 last], .int .i64 now] w fun e w' =>
      e = .returned (.tuple #[.agg #[.int .i64 budget, .int .i64 period, .slice sa L.length sc, .int .i64 last], .int .i64 0, .int .i64 1]) ∧ Vg.Grows w w' := by
  cases ht : Vg.timeB now with
  | false =>
    clear hno
    go_enter Try.func106, Try.ntmps106
    go_wp2_with (first | (go_at_call 131; refine (reftime_any _ _).mono ?_; rintro e w' ⟨rfl, rfl⟩))
    go_returns
    exact ⟨rfl, by (repeat' (first | (with_reducible exact Vg.Grows.refl _) | (with_reducible assumption) | (with_reducible refine Vg.Grows.alloc ?_ _) | (with_reducible refine Vg.Grows.plus ?_ _ _) | (with_reducible refine Vg.Grows.drewN ?_ _) | (with_reducible refine Vg.Grows.drew ?_) | (with_reducible refine Vg.Grows.setCell ?_ ?_ _) | (with_reducible refine Vg.Grows.put ?_ ?_ _) | omega | (simp; omega) | (simp; done)))⟩
  | true =>
    have := Vg.timeB_true.1 ht
    have hl : now < last := by omega
    clear hno
    go_enter Try.func106, Try.ntmps106
    go_wp2_with (first | (go_at_call 131; refine (reftime_any _ _).mono ?_; rintro e w' ⟨rfl, rfl⟩))
    go_returns
    exact ⟨rfl, by (repeat' (first | (with_reducible exact Vg.Grows.refl _) | (with_reducible assumption) | (with_reducible refine Vg.Grows.alloc ?_ _) | (with_reducible refine Vg.Grows.plus ?_ _ _) | (with_reducible refine Vg.Grows.drewN ?_ _) | (with_reducible refine Vg.Grows.drew ?_) | (with_reducible refine Vg.Grows.setCell ?_ ?_ _) | (with_reducible refine Vg.Grows.put ?_ ?_ _) | omega | (simp; omega) | (simp; done)))⟩
theorem ref15_refill_ok (now : Int) (hr : Vg.Reads S w (.slice sa L.length sc) L.length (Vg.pcells L)) (hL : L.length ≤ 1000) (h1 : last ≤ now) (h2 : now ≤ 4503599627370496) (hl : 0 ≤ last) (hbd : ∀ x ∈ L, 0 ≤ x.2 ∧ x.2 ≤ 1099511627776) :
    Calls Try.prog 106 #[.agg #[.int .i64 budget, .int .i64 period, .slice sa L.length sc, .int .i64 last], .int .i64 now] w fun e w' => ∃ sa' sc', Vg.Reads S w' (.slice sa' (Vg.due now L).2.length sc') (Vg.due now L).2.length (Vg.pcells (Vg.due now L).2) ∧ (∀ k, (Value.slice sa' (Vg.due now L).2.length sc').ownBlock = some k → (Value.slice sa L.length sc).ownBlock = some k) ∧
      e = .returned (.tuple #[.agg #[.int .i64 budget, .int .i64 period, .slice sa' (Vg.due now L).2.length sc', .int .i64 now], .int .i64 (Vg.due now L).1, .int .i64 0]) ∧ Vg.Grows w w' := by
  have ht : Vg.timeB now = true := Vg.timeB_true.2 ⟨by omega, h2⟩
  have HR := Lib.hid hr
  have hcm := hr.cap_le
  have hcm : sc ≤ 9223372036854775807 := hcm
  clear hr
  go_enter Try.func106, Try.ntmps106
  go_wp2_with (first | (go_at_call 131; refine (reftime_any _ _).mono ?_; rintro e w' ⟨rfl, rfl⟩))
  go_loopg [7] L.length (fun k nv wr => ∃ (q : List (Int × Int)) (acc : Int) (sa' : Option Addr) (sc' : Nat), k = q.length ∧ nv = .int .i64 acc ∧ acc + (Vg.due now q).1 = (Vg.due now L).1 ∧ (Vg.due now q).2 = (Vg.due now L).2 ∧ 0 ≤ acc ∧ acc ≤ (L.length - q.length : Nat) * 1099511627776 ∧ q.length ≤ L.length ∧ (∀ x ∈ q, 0 ≤ x.2 ∧ x.2 ≤ 1099511627776) ∧
      Vg.Reads S w (.slice sa' q.length sc') q.length (Vg.pcells q) ∧ (∀ k, (Value.slice sa' q.length sc').ownBlock = some k → (Value.slice sa L.length sc).ownBlock = some k) ∧
      Vg.Grows ((w.alloc (.cells #[.int .i64 budget, .int .i64 period, .slice sa' q.length sc', .int .i64 now] 179)).alloc (.cells #[.int .i64 0, .int .i64 0, .slice none 0 0, .int .i64 0] 179)) wr)
  case atStart => exact ⟨L, 0, sa, sc, rfl, rfl, by omega, rfl, by omega, by omega, by omega, hbd, HR.out, fun k hk => hk, by (repeat' (first | (with_reducible exact Vg.Grows.refl _) | (with_reducible assumption) | (with_reducible refine Vg.Grows.alloc ?_ _) | (with_reducible refine Vg.Grows.plus ?_ _ _) | (with_reducible refine Vg.Grows.drewN ?_ _) | (with_reducible refine Vg.Grows.drew ?_) | (with_reducible refine Vg.Grows.setCell ?_ ?_ _) | (with_reducible refine Vg.Grows.put ?_ ?_ _) | omega | (simp; omega) | (simp; done)))⟩
  case round =>
    obtain ⟨q, acc, sa', sc', hk, rfl, hacc, hrest, ha0, ha1, hql, hqb, hq, hob, y, m, rfl⟩ := hrel
    have HOB := Lib.hid hob
    clear hob
    have HA := Lib.hid hacc
    have HRR := Lib.hid hrest
    have HK := Lib.hid hk
    have HQ1 := Lib.hid hq
    clear hacc hrest hk hq
    cases q with
    | nil =>
      have e1 : acc = (Vg.due now L).1 := by have := HA.out; simpa [Vg.due] using this
      have e2 : (Vg.due now L).2 = [] := HRR.out.symm
      have E1 := Lib.hid e1
      have E2 := Lib.hid e2
      clear e1 e2
      go_wp2
      go_returns
      rw [← E1.out, E2.out]
      exact ⟨sa', sc', Vg.Reads.grows HQ1.out (by (repeat' (first | (with_reducible exact Vg.Grows.refl _) | (with_reducible assumption) | (with_reducible refine Vg.Grows.alloc ?_ _) | (with_reducible refine Vg.Grows.plus ?_ _ _) | (with_reducible refine Vg.Grows.drewN ?_ _) | (with_reducible refine Vg.Grows.drew ?_) | (with_reducible refine Vg.Grows.setCell ?_ ?_ _) | (with_reducible refine Vg.Grows.put ?_ ?_ _) | omega | (simp; omega) | (simp; done)))), fun k hk => HOB.out k hk, rfl, by (repeat' (first | (with_reducible exact Vg.Grows.refl _) | (with_reducible assumption) | (with_reducible refine Vg.Grows.alloc ?_ _) | (with_reducible refine Vg.Grows.plus ?_ _ _) | (with_reducible refine Vg.Grows.drewN ?_ _) | (with_reducible refine Vg.Grows.drew ?_) | (with_reducible refine Vg.Grows.setCell ?_ ?_ _) | (with_reducible refine Vg.Grows.put ?_ ?_ _) | omega | (simp; omega) | (simp; done)))⟩
    | cons x l =>
      obtain ⟨g, off, rfl, hg, hc, hm, hx⟩ := HQ1.out.open (by rw [Vg.pcells_length]; simp)
      have c0' := hx 0 (by simp [Vg.pcells])
      have c1' := hx 1 (by simp [Vg.pcells])
      simp only [Nat.add_zero, Vg.pcells, List.getElem_cons_zero, List.getElem_cons_succ] at c0' c1'
      have hcm' : sc' ≤ 9223372036854775807 := hm
      have hll : l.length + 1 ≤ 1000 := by simp at hql; omega
      have hxb := hqb x (by simp)
      have hsum : IntKind.i64.wrap (acc + x.2) = acc + x.2 := by rw [IntWalk.i64_in _ (by omega)]
      clear hx
      by_cases hle : x.1 ≤ now
      · have ed : Vg.due now (x :: l) = (x.2 + (Vg.due now l).1, (Vg.due now l).2) := by rw [Vg.due, if_pos hle]
        have HD := Lib.hid ed
        clear ed
        by_cases hc1 : sc' = 1
        · subst hc1
          go_wp2
          go_roundg l.length
          case measure => rw [HK.out]; simp
          case rel =>
            have e1 := HA.out
            have e2 := HRR.out
            rw [HD.out] at e1 e2
            have hq2 := Vg.Reads.ptail1 (l := l) HQ1.out
            simp only [List.length_cons] at ha1 hql
            refine ⟨l, acc + x.2, some ⟨g, off, none⟩, 0, rfl, rfl, ?_, e2, by omega, by omega, by omega, fun y hy => hqb y (by simp [hy]), hq2, fun k hk => HOB.out k hk, by (repeat' (first | (with_reducible exact Vg.Grows.refl _) | (with_reducible assumption) | (with_reducible refine Vg.Grows.alloc ?_ _) | (with_reducible refine Vg.Grows.plus ?_ _ _) | (with_reducible refine Vg.Grows.drewN ?_ _) | (with_reducible refine Vg.Grows.drew ?_) | (with_reducible refine Vg.Grows.setCell ?_ ?_ _) | (with_reducible refine Vg.Grows.put ?_ ?_ _) | omega | (simp; omega) | (simp; done)))⟩
            rw [← e1]; show acc + x.2 + (Vg.due now l).1 = acc + (x.2 + (Vg.due now l).1); omega
        · have hc2 : 2 ≤ sc' := by simp at hc; omega
          go_wp2
          go_roundg l.length
          case measure => rw [HK.out]; simp
          case rel =>
            have e1 := HA.out
            have e2 := HRR.out
            rw [HD.out] at e1 e2
            have hq2 := Vg.Reads.ptail (l := l) HQ1.out
            simp only [List.length_cons] at ha1 hql
            refine ⟨l, acc + x.2, some ⟨g, off + 2, none⟩, sc' - 1, rfl, rfl, ?_, e2, by omega, by omega, by omega, fun y hy => hqb y (by simp [hy]), hq2, fun k hk => HOB.out k hk, by (repeat' (first | (with_reducible exact Vg.Grows.refl _) | (with_reducible assumption) | (with_reducible refine Vg.Grows.alloc ?_ _) | (with_reducible refine Vg.Grows.plus ?_ _ _) | (with_reducible refine Vg.Grows.drewN ?_ _) | (with_reducible refine Vg.Grows.drew ?_) | (with_reducible refine Vg.Grows.setCell ?_ ?_ _) | (with_reducible refine Vg.Grows.put ?_ ?_ _) | omega | (simp; omega) | (simp; done)))⟩
            rw [← e1]; show acc + x.2 + (Vg.due now l).1 = acc + (x.2 + (Vg.due now l).1); omega
      · have ed : Vg.due now (x :: l) = (0, x :: l) := by rw [Vg.due, if_neg hle]
        have e1 := HA.out
        have e2 := HRR.out
        rw [ed] at e1 e2
        have e1' : acc = (Vg.due now L).1 := by rw [← e1]; show acc = acc + 0; omega
        have E1 := Lib.hid e1'
        have E2 := Lib.hid e2
        clear e1 e1' ed e2
        go_wp2
        go_returns
        rw [← E2.out, ← E1.out]
        exact ⟨some ⟨g, off, none⟩, sc', Vg.Reads.grows HQ1.out (by (repeat' (first | (with_reducible exact Vg.Grows.refl _) | (with_reducible assumption) | (with_reducible refine Vg.Grows.alloc ?_ _) | (with_reducible refine Vg.Grows.plus ?_ _ _) | (with_reducible refine Vg.Grows.drewN ?_ _) | (with_reducible refine Vg.Grows.drew ?_) | (with_reducible refine Vg.Grows.setCell ?_ ?_ _) | (with_reducible refine Vg.Grows.put ?_ ?_ _) | omega | (simp; omega) | (simp; done)))), fun k hk => HOB.out k hk, rfl, by (repeat' (first | (with_reducible exact Vg.Grows.refl _) | (with_reducible assumption) | (with_reducible refine Vg.Grows.alloc ?_ _) | (with_reducible refine Vg.Grows.plus ?_ _ _) | (with_reducible refine Vg.Grows.drewN ?_ _) | (with_reducible refine Vg.Grows.drew ?_) | (with_reducible refine Vg.Grows.setCell ?_ ?_ _) | (with_reducible refine Vg.Grows.put ?_ ?_ _) | omega | (simp; omega) | (simp; done)))⟩
end
end Go.Proofs.Ytiinhofmhoplfaa
