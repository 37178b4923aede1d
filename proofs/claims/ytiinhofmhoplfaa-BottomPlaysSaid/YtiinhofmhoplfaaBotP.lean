/- Threads: plain laws (what acts keep; what is so when none is able). No walk here. -/
import Derived.Test.YtiinhofmhoplfaaBotL
import Derived.Test.YtiinhofmhoplfaaServerX
set_option linter.unusedSimpArgs false
set_option linter.unusedVariables false
set_option maxHeartbeats 2000000
set_option maxRecDepth 100000
namespace Vg
open Go
theorem Bo.put_len (n : Nat) (Q : List Wq) (i c : Int) : (Bo.put n Q i c).1.length = Q.length := by
  unfold Bo.put
  split
  · rfl
  · exact Wk.put_len Q i c
theorem Bo.Inv.put {k n : Nat} {Bs : List Bp} {Q : List Wq} (h : Bo.Inv k Bs Q) (i c : Int) : Bo.Inv (k + 1) Bs (Bo.put n Q i c).1 := by
  refine ⟨h.each, ?_, ?_⟩
  · unfold Bo.put
    split
    · exact h.wk.mono (Nat.le_succ k)
    · exact h.wk.put i c
  · rw [Bo.put_len]; exact h.len
theorem Bo.Inv.mono {k k' : Nat} {Bs : List Bp} {Q : List Wq} (h : Bo.Inv k Bs Q) (hk : k ≤ k') : Bo.Inv k' Bs Q := ⟨h.each, h.wk.mono hk, h.len⟩
theorem Bo.run_cases (Bs : List Bp) (Q : List Wq) (i n en : Int) : (∃ b r, Bo.run Bs Q i n en = (Bs, Q, b, r) ∧ (r = 1 ∨ r = 7)) ∨
    ∃ (j : Nat) (hj : j < Bs.length), i = j ∧ 0 ≤ n ∧ n ≤ Bo.left Bs Q j ∧ Bo.able Bs Q j = true ∧
      (((Bs[j].s.use Bs[j].t.bu Bs[j].t.pe n en).2 ≠ 0 ∧ Bo.run Bs Q i n en = (Bs.set j ⟨Bs[j].t, (Bs[j].s.use Bs[j].t.bu Bs[j].t.pe n en).1⟩, Q, false, (Bs[j].s.use Bs[j].t.bu Bs[j].t.pe n en).2)) ∨
       ((Bs[j].s.use Bs[j].t.bu Bs[j].t.pe n en).2 = 0 ∧ Bo.run Bs Q i n en = (Bs.set j ⟨Bs[j].t, (Bs[j].s.use Bs[j].t.bu Bs[j].t.pe n en).1⟩, (Wk.go Q i n).1, (Wk.go Q i n).2.1, (Wk.go Q i n).2.2))) := by
  by_cases ho : i < 0 ∨ (Bs.length : Int) ≤ i
  · exact .inl ⟨_, _, Bo.run_out ho, .inl rfl⟩
  · obtain ⟨j, rfl⟩ : ∃ j : Nat, i = j := ⟨i.toNat, by omega⟩
    have hj : j < Bs.length := by omega
    rw [Bo.run_in hj]
    by_cases h1 : n < 0 ∨ Bo.left Bs Q j < n
    · rw [if_pos h1]; exact .inl ⟨_, _, rfl, .inl rfl⟩
    · rw [if_neg h1]
      cases hab : Bo.able Bs Q j with
      | false => rw [if_pos rfl]; exact .inl ⟨_, _, rfl, .inr rfl⟩
      | true =>
        rw [if_neg (by simp)]
        refine .inr ⟨j, hj, rfl, by omega, by omega, hab, ?_⟩
        by_cases h2 : (Bs[j].s.use Bs[j].t.bu Bs[j].t.pe n en).2 = 0
        · rw [if_neg (by simpa using h2)]; exact .inr ⟨h2, rfl⟩
        · rw [if_pos h2]; exact .inl ⟨h2, rfl⟩
theorem Bo.Inv.setS {k : Nat} {Bs : List Bp} {Q Q' : List Wq} (h : Bo.Inv k Bs Q) (hw : Wk.Inv k Q') (hl : Q'.length = Q.length) {j : Nat} (hj : j < Bs.length) (n en : Int) : Bo.Inv k (Bs.set j ⟨Bs[j].t, (Bs[j].s.use Bs[j].t.bu Bs[j].t.pe n en).1⟩) Q' := by
  refine ⟨fun x hx => ?_, hw, ?_⟩
  · rcases List.mem_or_eq_of_mem_set hx with h1 | h1
    · exact h.each x h1
    · obtain ⟨⟨a1, a2, a3, a4⟩, _⟩ := h.at j hj
      rw [h1]
      exact ⟨a1, a2, a3, Srv.use_inv n en a4 a2⟩
  · rcases h.len with h1 | h1
    · subst h1; simp at hj
    · right; rw [hl, h1, List.length_set]
theorem Bo.Inv.run {k : Nat} {Bs : List Bp} {Q : List Wq} (h : Bo.Inv k Bs Q) (i n en : Int) : Bo.Inv k (Bo.run Bs Q i n en).1 (Bo.run Bs Q i n en).2.1 := by
  rcases Bo.run_cases Bs Q i n en with ⟨b, r, e, _⟩ | ⟨j, hj, rfl, _, _, _, ⟨_, e⟩ | ⟨_, e⟩⟩ <;> rw [e]
  · exact h
  · exact h.setS h.wk rfl hj n en
  · exact h.setS (h.wk.go j n) (Wk.go_len Q j n) hj n en
theorem Bo.run_len (Bs : List Bp) (Q : List Wq) (i n en : Int) : (Bo.run Bs Q i n en).1.length = Bs.length ∧ (Bo.run Bs Q i n en).2.1.length = Q.length := by
  rcases Bo.run_cases Bs Q i n en with ⟨b, r, e, _⟩ | ⟨j, hj, rfl, _, _, _, ⟨_, e⟩ | ⟨_, e⟩⟩ <;> rw [e]
  · exact ⟨rfl, rfl⟩
  · exact ⟨by simp, rfl⟩
  · exact ⟨by simp, Wk.go_len Q j n⟩
theorem Bo.refill_len (Bs : List Bp) (now : Int) : (Bo.refill Bs now).1.length = Bs.length := by
  unfold Bo.refill
  split <;> simp
theorem Bo.Inv.refill {k : Nat} {Bs : List Bp} {Q : List Wq} (h : Bo.Inv k Bs Q) (now : Int) : Bo.Inv k (Bo.refill Bs now).1 Q := by
  refine ⟨fun x hx => ?_, h.wk, ?_⟩
  · unfold Bo.refill at hx
    split at hx
    · obtain ⟨y, hy, rfl⟩ := List.mem_map.1 hx
      obtain ⟨a1, a2, a3, a4⟩ := h.each y hy
      exact ⟨a1, a2, a3, Srv.refill_inv now a4⟩
    · exact h.each x hx
  · rw [Bo.refill_len]
    rcases h.len with h1 | h1
    · left; subst h1; unfold Bo.refill; split <;> rfl
    · exact .inr h1
/-- No part is to come back by now, and no server's time is ahead of it. -/
def Bp.cur (now : Int) (x : Bp) : Prop := x.s.last ≤ now ∧ now < (x.s.L.headD (now + 1, 0)).1
theorem due_head (now : Int) : ∀ (L : List (Int × Int)), now < ((due now L).2.headD (now + 1, 0)).1
  | [] => by simp [due]; omega
  | x :: l => by
    unfold due
    split
    · exact due_head now l
    · simp; omega
theorem Bo.refill_ok {Bs : List Bp} {now : Int} (h : ∀ x ∈ Bs, x.s.last ≤ now) (hn : now ≤ 4503599627370496) : Bo.refill Bs now = (Bs.map (Bo.rf now), 0) := by
  unfold Bo.refill
  rw [if_pos (List.all_eq_true.2 fun x hx => by unfold Bo.later; simp; exact ⟨h x hx, hn⟩)]
theorem Bo.rf_cur {x : Bp} {now : Int} (h : x.s.last ≤ now) (hn : now ≤ 4503599627370496) : (Bo.rf now x).cur now := by
  unfold Bo.rf Bp.cur Srv.refill
  rw [if_neg (by omega)]
  exact ⟨Int.le_refl _, due_head now x.s.L⟩
/-- A server with nothing left has a part that is to come back. -/
theorem Srv.left_zero {s : Srv} {bu : Int} (hb : 1 ≤ bu) (h : s.left bu ≤ 0) : s.L ≠ [] := by
  intro hL
  unfold Srv.left at h
  rw [hL] at h
  simp [owed] at h
  omega
theorem Bo.able_iff {Bs : List Bp} {Q : List Wq} {j : Nat} (hj : j < Bs.length) : Bo.able Bs Q j = true ↔ 0 < Wk.waiting Q j ∧ 0 < Bs[j].s.left Bs[j].t.bu := by
  rw [Bo.able_in hj]; simp
theorem Wk.wait_nonneg (Q : List Wq) (i : Int) : 0 ≤ Wk.waiting Q i := by
  unfold Wk.waiting
  split
  · omega
  · split
    · omega
    · omega
theorem Bo.cand_some {Bs : List Bp} {Q : List Wq} {j : Nat} (hj : j < Bs.length) (hb : 1 ≤ Bs[j].t.bu) (hw : 0 < Wk.waiting Q j) (hl : Bs[j].s.left Bs[j].t.bu ≤ 0) : ∃ y l, Bs[j].s.L = y :: l ∧ Bo.cand Bs Q j = some y.1 := by
  rw [Bo.cand_at hj rfl, if_neg (by omega)]
  have h1 := Srv.left_zero hb hl
  generalize hL : Bs[j].s.L = L at h1
  cases L with
  | nil => exact absurd rfl h1
  | cons y l => exact ⟨y, l, rfl, rfl⟩
theorem Bo.nextK_of {Bs : List Bp} {Q : List Wq} : ∀ (k : Nat), (Bo.nextK Bs Q k).2 = true → ∃ j, j < k ∧ Bo.cand Bs Q j = some (Bo.nextK Bs Q k).1
  | 0, h => by simp [Bo.nextK] at h
  | k + 1, h => by
    rw [Bo.nextK_succ] at h ⊢
    cases hc : Bo.cand Bs Q k with
    | none =>
      rw [hc] at h
      simp only [Bo.least] at h ⊢
      obtain ⟨j, hj, e⟩ := Bo.nextK_of k h
      exact ⟨j, by omega, e⟩
    | some a =>
      rw [hc] at h
      simp only [Bo.least] at h ⊢
      split
      · exact ⟨k, by omega, hc⟩
      · rename_i hh
        rw [if_neg hh] at h
        obtain ⟨j, hj, e⟩ := Bo.nextK_of k h
        exact ⟨j, by omega, e⟩
theorem Bo.nextK_some {Bs : List Bp} {Q : List Wq} : ∀ (k j : Nat), j < k → (Bo.cand Bs Q j).isSome = true → (Bo.nextK Bs Q k).2 = true
  | 0, j, h, _ => by omega
  | k + 1, j, h, hc => by
    rw [Bo.nextK_succ]
    by_cases hj : j = k
    · subst hj
      obtain ⟨a, ha⟩ := Option.isSome_iff_exists.1 hc
      rw [ha]
      simp only [Bo.least]
      split
      · rfl
      · rename_i hh
        cases hx : (Bo.nextK Bs Q j).2 with
        | true => rfl
        | false => exact absurd (.inl hx) hh
    · have ih := Bo.nextK_some k j (by omega) hc
      cases Bo.cand Bs Q k with
      | none => exact ih
      | some a =>
        simp only [Bo.least]
        split
        · rfl
        · exact ih
/-- What is told next is behind now. -/
theorem Bo.next_later {Bs : List Bp} {Q : List Wq} {now at_ : Int} (h : ∀ x ∈ Bs, x.cur now) (hx : Bo.next Bs Q = (at_, true)) : now < at_ := by
  obtain ⟨j, hj, e⟩ := Bo.nextK_of (Bs := Bs) (Q := Q) Bs.length (by unfold Bo.next at hx; rw [hx])
  have hx' : Bo.nextK Bs Q Bs.length = (at_, true) := hx
  rw [hx'] at e
  rw [Bo.cand_at hj rfl] at e
  split at e
  · cases e
  · have hc := (h _ (List.getElem_mem hj)).2
    generalize Bs[j].s.L = L at e hc
    cases L with
    | nil => cases e
    | cons y l =>
      simp at e hc
      omega
/-- The best one that is able. -/
theorem Bo.pk_of (Bs : List Bp) : ∀ (l : List Nat) (r : Int × Int), (Bo.pk Bs l r).1 = r.1 ∨ ∃ i ∈ l, (Bo.pk Bs l r).1 = (i : Int)
  | [], r => .inl rfl
  | i :: l, r => by
    rw [Bo.pk]
    rcases Bo.pk_of Bs l (if r.2 < Bo.prio Bs i then ((i : Int), Bo.prio Bs i) else r) with h | ⟨j, hj, h⟩
    · by_cases hc : r.2 < Bo.prio Bs i
      · rw [if_pos hc] at h ⊢
        exact .inr ⟨i, by simp, h⟩
      · rw [if_neg hc] at h ⊢
        exact .inl h
    · exact .inr ⟨j, List.mem_cons_of_mem _ hj, h⟩
theorem Bo.pk_neg (Bs : List Bp) : ∀ (l : List Nat) (r : Int × Int), 0 ≤ r.1 → 0 ≤ (Bo.pk Bs l r).1
  | [], r, h => h
  | i :: l, r, h => by
    rw [Bo.pk]
    refine Bo.pk_neg Bs l _ ?_
    split
    · show (0 : Int) ≤ i; omega
    · exact h
theorem Bo.best_cases {Bs : List Bp} {Q : List Wq} (hp : ∀ x ∈ Bs, 0 ≤ x.t.pr) : (Bo.best Bs Q = -1 ∧ ∀ j : Nat, j < Bs.length → Bo.able Bs Q j = false) ∨ ∃ j : Nat, j < Bs.length ∧ Bo.best Bs Q = j ∧ Bo.able Bs Q j = true := by
  have hmem : ∀ j ∈ Bo.ables Bs Q Bs.length, j < Bs.length ∧ Bo.able Bs Q j = true := fun j hj => by
    unfold Bo.ables at hj
    simp at hj
    rw [Bo.ableK_eq] at hj
    exact hj
  have hmem2 : ∀ j : Nat, j < Bs.length → Bo.able Bs Q j = true → j ∈ Bo.ables Bs Q Bs.length := fun j hj ha => by
    unfold Bo.ables
    simp
    exact ⟨hj, by rw [Bo.ableK_eq]; exact ha⟩
  unfold Bo.best
  generalize hl : Bo.ables Bs Q Bs.length = l at hmem hmem2
  cases l with
  | nil =>
    left
    refine ⟨rfl, fun j hj => ?_⟩
    cases h : Bo.able Bs Q j with
    | false => rfl
    | true => have := hmem2 j hj h; simp at this
  | cons i l =>
    right
    have hi := hmem i (by simp)
    have hpr : -1 < Bo.prio Bs i := by
      have := hp _ (List.getElem_mem hi.1)
      unfold Bo.prio
      rw [List.getElem?_eq_getElem hi.1]
      show -1 < Bs[i].t.pr
      omega
    rw [Bo.pk, if_pos (by show -1 < _; exact hpr)]
    rcases Bo.pk_of Bs l ((i : Int), Bo.prio Bs i) with h | ⟨j, hj, h⟩
    · exact ⟨i, hi.1, h, hi.2⟩
    · have := hmem j (List.mem_cons_of_mem _ hj)
      exact ⟨j, this.1, h, this.2⟩
theorem Bo.best_range {Bs : List Bp} {Q : List Wq} (hp : ∀ x ∈ Bs, 0 ≤ x.t.pr) : -1 ≤ Bo.best Bs Q ∧ Bo.best Bs Q < Bs.length := by
  rcases Bo.best_cases (Q := Q) hp with ⟨h, _⟩ | ⟨j, h1, h2, _⟩ <;> omega
/-- One that is able runs. -/
theorem Bo.run_ok {k : Nat} {Bs : List Bp} {Q : List Wq} {j : Nat} {n now : Int} (hI : Bo.Inv k Bs Q) (hj : j < Bs.length) (ha : Bo.able Bs Q j = true) (hl : Bs[j].s.last ≤ now) (h0 : 0 ≤ now) (hn : 0 ≤ n) (hn2 : n ≤ Bo.left Bs Q j) (hb : now + n ≤ 4503599627370496) :
    (Bs[j].s.use Bs[j].t.bu Bs[j].t.pe n (now + n)).2 = 0 ∧ (Wk.go Q j n).2.2 = 0 ∧ Bo.run Bs Q j n (now + n) = (Bs.set j ⟨Bs[j].t, (Bs[j].s.use Bs[j].t.bu Bs[j].t.pe n (now + n)).1⟩, (Wk.go Q j n).1, (Wk.go Q j n).2.1, 0) := by
  have hlf := Bo.left_in (Q := Q) hj
  rw [ha, if_pos rfl] at hlf
  obtain ⟨hw, hsl⟩ := (Bo.able_iff hj).1 ha
  have hu : (Bs[j].s.use Bs[j].t.bu Bs[j].t.pe n (now + n)).2 = 0 := by
    unfold Srv.use
    rw [if_neg (by omega), if_neg (by omega)]
  have hjQ := (hI.at j hj).2
  have hg : (Wk.go Q j n).2.2 = 0 := by
    rw [Wk.go_in hjQ]
    rw [Wk.waiting_in hjQ] at hw
    rw [Wk.left_in hjQ] at hlf
    generalize Q[j].L = L at hw hlf
    cases L with
    | nil => simp at hw
    | cons x l =>
      simp only [List.headD_cons] at hlf
      dsimp only
      rw [if_neg (by omega)]
      split <;> rfl
  refine ⟨hu, hg, ?_⟩
  rw [Bo.run_in hj, if_neg (by omega), if_neg (by rw [ha]; simp), if_neg (by rw [hu]; simp), hg]
theorem Bo.left_pos {k : Nat} {Bs : List Bp} {Q : List Wq} {j : Nat} (hI : Bo.Inv k Bs Q) (hj : j < Bs.length) (ha : Bo.able Bs Q j = true) : 1 ≤ Bo.left Bs Q j ∧ Bo.left Bs Q j ≤ Wk.left Q j ∧ Bo.left Bs Q j ≤ 1099511627776 := by
  have hlf := Bo.left_in (Q := Q) hj
  rw [ha, if_pos rfl] at hlf
  obtain ⟨hw, hsl⟩ := (Bo.able_iff hj).1 ha
  have hjQ := (hI.at j hj).2
  have hle := Wk.left_le hI.wk j
  have h1 : 1 ≤ Wk.left Q j := by
    rw [Wk.waiting_in hjQ] at hw
    rw [Wk.left_in hjQ]
    have hq := hI.wk.at j hjQ
    obtain ⟨_, _, _, _, h5⟩ := hq
    generalize Q[j].L = L at hw h5
    cases L with
    | nil => simp at hw
    | cons x l => exact (h5 x (by simp)).1
  omega
end Vg
namespace Go.Proofs.Ytiinhofmhoplfaa
end Go.Proofs.Ytiinhofmhoplfaa
