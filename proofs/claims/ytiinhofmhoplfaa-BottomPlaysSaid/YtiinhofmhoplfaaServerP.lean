/- Server: the plain law of what is owed, and the contracts of Use and Refill for all cases at once. -/
import Derived.Test.YtiinhofmhoplfaaServerV
set_option linter.unusedSimpArgs false
set_option linter.unusedVariables false
set_option maxHeartbeats 400000
set_option maxRecDepth 20000
namespace Vg
def owed : List (Int × Int) → Int
  | [] => 0
  | x :: l => x.2 + owed l
theorem owed_append : ∀ l m : List (Int × Int), owed (l ++ m) = owed l + owed m
  | [], m => by simp [owed]
  | x :: l, m => by simp [owed, owed_append l m]; omega
theorem owed_owe (at_ n : Int) (L : List (Int × Int)) : owed (owe at_ n L) = owed L + n := by
  rcases List.eq_nil_or_concat L with rfl | ⟨l, x, rfl⟩
  · simp [owe, owed]
  · rw [List.concat_eq_append, owe_snoc]
    split <;> simp [owed_append, owed] <;> omega
theorem owed_due (now : Int) : ∀ L : List (Int × Int), (due now L).1 + owed (due now L).2 = owed L
  | [] => by simp [due, owed]
  | x :: l => by
    unfold due
    split
    · have := owed_due now l
      simp only [owed]; omega
    · simp [owed]
theorem due_sublist (now : Int) : ∀ L : List (Int × Int), (due now L).2.Sublist L
  | [] => by simp [due]
  | x :: l => by
    unfold due
    split
    · exact (due_sublist now l).cons x
    · exact List.Sublist.refl _
theorem owe_length (at_ n : Int) (L : List (Int × Int)) : (owe at_ n L).length ≤ L.length + 1 := by
  rcases List.eq_nil_or_concat L with rfl | ⟨l, x, rfl⟩
  · simp [owe]
  · rw [List.concat_eq_append, owe_snoc]
    split <;> simp
theorem owe_mem {at_ n : Int} {L : List (Int × Int)} {y : Int × Int} (h : y ∈ owe at_ n L) : y ∈ L ∨ y = (at_, n) ∨ ∃ x ∈ L, x.1 = at_ ∧ y = (x.1, x.2 + n) := by
  rcases List.eq_nil_or_concat L with rfl | ⟨l, x, rfl⟩
  · simp [owe] at h; exact .inr (.inl h)
  · rw [List.concat_eq_append, owe_snoc] at h
    split at h
    · rename_i he
      rcases List.mem_append.1 h with h | h
      · exact .inl (by simp [h])
      · simp at h
        exact .inr (.inr ⟨x, by simp, he, h⟩)
    · rcases List.mem_append.1 h with h | h
      · exact .inl (by simpa using h)
      · simp at h; exact .inr (.inl h)
theorem owed_nonneg : ∀ {L : List (Int × Int)}, (∀ x ∈ L, 0 ≤ x.2) → 0 ≤ owed L
  | [], _ => by simp [owed]
  | x :: l, h => by
    have := owed_nonneg (L := l) fun y hy => h y (by simp [hy])
    have := h x (by simp)
    simp only [owed]; omega
theorem owed_mem : ∀ {L : List (Int × Int)}, (∀ x ∈ L, 0 ≤ x.2) → ∀ x ∈ L, x.2 ≤ owed L
  | y :: l, h, x, hx => by
    have hl := owed_nonneg (L := l) fun z hz => h z (by simp [hz])
    have hy := h y (by simp)
    rcases List.mem_cons.1 hx with rfl | hx
    · simp only [owed]; omega
    · have := owed_mem (L := l) (fun z hz => h z (by simp [hz])) x hx
      simp only [owed]; omega
structure Srv where
  L : List (Int × Int)
  last : Int
def Srv.left (s : Srv) (budget : Int) : Int := if 16 ≤ s.L.length then 0 else budget - owed s.L
def Srv.use (s : Srv) (budget period n en : Int) : Srv × Int :=
  if n < 0 ∨ en < n ∨ 4503599627370496 < en ∨ en - n < s.last then (s, 1) else
  if s.left budget < n then (s, 5) else (⟨if n = 0 then s.L else owe (en + period) n s.L, en⟩, 0)
def Srv.refill (s : Srv) (now : Int) : Srv × Int × Int :=
  if now < s.last ∨ 4503599627370496 < now then (s, 0, 1) else (⟨(due now s.L).2, now⟩, (due now s.L).1, 0)
/-- What holds of a server in use. -/
def Srv.Inv (s : Srv) (budget : Int) : Prop := 0 ≤ s.last ∧ s.last ≤ 4503599627370496 ∧ s.L.length ≤ 16 ∧ (∀ x ∈ s.L, 0 ≤ x.1 ∧ x.1 ≤ 4504699138998272 ∧ 0 ≤ x.2) ∧ owed s.L ≤ budget
theorem Srv.use_inv {s : Srv} {budget period : Int} (n en : Int) (h : s.Inv budget) (hp : 1 ≤ period ∧ period ≤ 1099511627776) : (s.use budget period n en).1.Inv budget := by
  unfold Srv.use
  split
  · exact h
  · rename_i hno
    split
    · exact h
    · rename_i hroom
      obtain ⟨h1, h2, h3, h4, h5⟩ := h
      have hl : s.L.length < 16 ∧ n ≤ budget - owed s.L ∨ n = 0 := by
        unfold Srv.left at hroom
        split at hroom
        · right; omega
        · left; omega
      refine ⟨by show 0 ≤ en; omega, by show en ≤ _; omega, ?_, ?_, ?_⟩
      · show (if n = 0 then s.L else owe (en + period) n s.L).length ≤ 16
        split
        · exact h3
        · have := owe_length (en + period) n s.L; omega
      · intro y hy
        have hy : y ∈ (if n = 0 then s.L else owe (en + period) n s.L) := hy
        split at hy
        · exact h4 y hy
        · rcases owe_mem hy with h | rfl | ⟨x, hx, he, rfl⟩
          · exact h4 y h
          · refine ⟨?_, ?_, ?_⟩ <;> show _ ≤ _ <;> simp only [] <;> omega
          · have := h4 x hx
            refine ⟨this.1, this.2.1, ?_⟩
            show 0 ≤ x.2 + n; omega
      · show owed (if n = 0 then s.L else owe (en + period) n s.L) ≤ budget
        split
        · exact h5
        · rw [owed_owe]; omega
theorem Srv.refill_inv {s : Srv} {budget : Int} (now : Int) (h : s.Inv budget) : (s.refill now).1.Inv budget := by
  unfold Srv.refill
  split
  · exact h
  · obtain ⟨h1, h2, h3, h4, h5⟩ := h
    have hs := due_sublist now s.L
    have hd : 0 ≤ (due now s.L).1 := by
      have : ∀ L : List (Int × Int), (∀ x ∈ L, 0 ≤ x.2) → 0 ≤ (due now L).1 := by
        intro L
        induction L with
        | nil => intro _; simp [due]
        | cons x l ih =>
          intro hx
          unfold due
          split
          · have := ih fun y hy => hx y (by simp [hy])
            have := hx x (by simp)
            show 0 ≤ x.2 + (due now l).1; omega
          · show (0 : Int) ≤ 0; omega
      exact this s.L fun x hx => (h4 x hx).2.2
    have ho := owed_due now s.L
    refine ⟨by show 0 ≤ now; omega, by show now ≤ _; omega, Nat.le_trans hs.length_le h3, fun x hx => h4 x (hs.subset hx), ?_⟩
    show owed (due now s.L).2 ≤ budget
    omega
end Vg
namespace Go.Proofs.Ytiinhofmhoplfaa
open Go.ChangeShapes Go.WideShapes Go.ChangeAt Go.RowKit
section
variable {b B : Nat} {budget period last : Int} {L : List (Int × Int)} {w : World} {sa : Option Addr} {sc : Nat}
theorem serv_use_any (n en : Int) (h : Vg.blk w b = some (servC (budget - Vg.owed L) period (.slice sa L.length sc) last)) (hq : Vg.Que w B 230 2 (.slice sa L.length sc) L.length (Vg.pcells L)) (hb : b < B) (hB : B ≤ w.heap.size)
    (hinv : Vg.Srv.Inv ⟨L, last⟩ budget) (hp : 1 ≤ period ∧ period ≤ 1099511627776) (hbu : 1 ≤ budget ∧ budget ≤ 1099511627776) (hn : -9223372036854775808 ≤ n ∧ n ≤ 9223372036854775807) (hen : -9223372036854775808 ≤ en ∧ en ≤ 9223372036854775807) :
    Calls Try.prog 105 #[.pointer (some ⟨b, 0, none⟩), .int .i64 n, .int .i64 en] w fun e w' => ∃ L' last' sa' sc', (Vg.Srv.use ⟨L, last⟩ budget period n en).1 = ⟨L', last'⟩ ∧ Vg.Touch (fun k => k = b ∨ (Value.slice sa L.length sc).ownBlock = some k) w w' ∧
      Vg.blk w' b = some (servC (budget - Vg.owed L') period (.slice sa' L'.length sc') last') ∧ Vg.Que w' B 230 2 (.slice sa' L'.length sc') L'.length (Vg.pcells L') ∧
      ((Value.slice sa' L'.length sc').ownBlock = (Value.slice sa L.length sc).ownBlock ∨ ∀ k, (Value.slice sa' L'.length sc').ownBlock = some k → w.heap.size ≤ k) ∧ e = .returned (.int .i64 (Vg.Srv.use ⟨L, last⟩ budget period n en).2) := by
  obtain ⟨i1, i2, i3, i4, i5⟩ := hinv
  have i1 : 0 ≤ last := i1
  have i2 : last ≤ 4503599627370496 := i2
  have i3 : L.length ≤ 16 := i3
  have i4 : ∀ x ∈ L, 0 ≤ x.1 ∧ x.1 ≤ 4504699138998272 ∧ 0 ≤ x.2 := i4
  have i5 : Vg.owed L ≤ budget := i5
  have ho := Vg.owed_nonneg (L := L) fun x hx => (i4 x hx).2.2
  by_cases hno : n < 0 ∨ en < n ∨ 4503599627370496 < en ∨ en - n < last
  · have hu : Vg.Srv.use ⟨L, last⟩ budget period n en = (⟨L, last⟩, 1) := by unfold Vg.Srv.use; rw [if_pos hno]
    rw [hu]
    refine (serv_use_no n en h hen hno).mono ?_
    rintro e w' ⟨rfl, rfl⟩
    exact ⟨L, last, sa, sc, rfl, Vg.Touch.refl _ _, h, hq, .inl rfl, rfl⟩
  · have hle : (if 16 ≤ L.length then 0 else budget - Vg.owed L) = Vg.Srv.left ⟨L, last⟩ budget := rfl
    by_cases hfull : Vg.Srv.left ⟨L, last⟩ budget < n
    · have hu : Vg.Srv.use ⟨L, last⟩ budget period n en = (⟨L, last⟩, 5) := by unfold Vg.Srv.use; rw [if_neg hno, if_pos hfull]
      rw [hu]
      refine (serv_use_full n en h (by omega) (by omega) (by omega) (by omega) (by rw [hle]; exact hfull)).mono ?_
      rintro e w' ⟨rfl, rfl⟩
      exact ⟨L, last, sa, sc, rfl, Vg.Touch.refl _ _, h, hq, .inl rfl, rfl⟩
    · have hu : Vg.Srv.use ⟨L, last⟩ budget period n en = (⟨if n = 0 then L else Vg.owe (en + period) n L, en⟩, 0) := by unfold Vg.Srv.use; rw [if_neg hno, if_neg hfull]
      rw [hu]
      refine (serv_use_ok n en h hq hb hB (by omega) (by omega) (by omega) (by omega) (by rw [hle]; omega) (by omega) hp (by omega) (by omega) (fun x hx => ⟨(i4 x hx).2.2, by have := Vg.owed_mem (fun y hy => (i4 y hy).2.2) x hx; omega⟩)).mono ?_
      rintro e w' ⟨sa', sc', ht, hb', hq', ho', rfl⟩
      refine ⟨_, _, sa', sc', rfl, ht, ?_, hq', ho', rfl⟩
      rw [hb']
      have : budget - Vg.owed L - n = budget - Vg.owed (if n = 0 then L else Vg.owe (en + period) n L) := by
        split
        · omega
        · rw [Vg.owed_owe]; omega
      rw [this]
theorem serv_refill_any (now : Int) (h : Vg.blk w b = some (servC (budget - Vg.owed L) period (.slice sa L.length sc) last)) (hq : Vg.Que w B 230 2 (.slice sa L.length sc) L.length (Vg.pcells L)) (hb : b < B)
    (hinv : Vg.Srv.Inv ⟨L, last⟩ budget) (hbu : 1 ≤ budget ∧ budget ≤ 1099511627776) :
    Calls Try.prog 108 #[.pointer (some ⟨b, 0, none⟩), .int .i64 now] w fun e w' => ∃ L' last' sa' sc', (Vg.Srv.refill ⟨L, last⟩ now).1 = ⟨L', last'⟩ ∧ e = .returned (.tuple #[.int .i64 (Vg.Srv.refill ⟨L, last⟩ now).2.1, .int .i64 (Vg.Srv.refill ⟨L, last⟩ now).2.2]) ∧
      Vg.Que w B 230 2 (.slice sa' L'.length sc') L'.length (Vg.pcells L') ∧ (Value.slice sa' L'.length sc').ownBlock = (Value.slice sa L.length sc).ownBlock ∧
      w' = Vg.put w b (servC (budget - Vg.owed L') period (.slice sa' L'.length sc') last') := by
  obtain ⟨i1, i2, i3, i4, i5⟩ := hinv
  have i1 : 0 ≤ last := i1
  have i2 : last ≤ 4503599627370496 := i2
  have i3 : L.length ≤ 16 := i3
  have i4 : ∀ x ∈ L, 0 ≤ x.1 ∧ x.1 ≤ 4504699138998272 ∧ 0 ≤ x.2 := i4
  have i5 : Vg.owed L ≤ budget := i5
  have ho := Vg.owed_nonneg (L := L) fun x hx => (i4 x hx).2.2
  by_cases hno : now < last ∨ 4503599627370496 < now
  · have hu : Vg.Srv.refill ⟨L, last⟩ now = (⟨L, last⟩, 0, 1) := by unfold Vg.Srv.refill; rw [if_pos hno]
    rw [hu]
    refine (serv_refill_no now h hno).mono ?_
    rintro e w' ⟨rfl, rfl⟩
    exact ⟨L, last, sa, sc, rfl, rfl, hq, rfl, (Vg.put_self h).symm⟩
  · have hu : Vg.Srv.refill ⟨L, last⟩ now = (⟨(Vg.due now L).2, now⟩, (Vg.due now L).1, 0) := by unfold Vg.Srv.refill; rw [if_neg hno]
    rw [hu]
    refine (serv_refill_ok now h hq hb (by omega) (by omega) (by omega) (by omega) (fun x hx => ⟨(i4 x hx).2.2, by have := Vg.owed_mem (fun y hy => (i4 y hy).2.2) x hx; omega⟩)).mono ?_
    rintro e w' ⟨sa', sc', rfl, rfl, hq', hown⟩
    refine ⟨_, _, sa', sc', rfl, rfl, hq', hown, ?_⟩
    have := Vg.owed_due now L
    have e1 : budget - Vg.owed L + (Vg.due now L).1 = budget - Vg.owed (Vg.due now L).2 := by omega
    rw [e1]
end
end Go.Proofs.Ytiinhofmhoplfaa
