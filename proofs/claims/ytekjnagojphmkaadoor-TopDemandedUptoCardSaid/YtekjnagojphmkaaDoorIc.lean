/- A controller of interrupts whose lines are all of edges, in plain words. No program here. -/
import Derived.Test.YtekjnagojphmkaaDoorBit
set_option linter.unusedSimpArgs false
set_option linter.unusedVariables false
set_option maxHeartbeats 1000000
namespace Vg
open Go
structure Ic where
  pe : Nat
  en : Nat
  pr : List Int
  st : List Nat
def Ic.prio (c : Ic) (k : Nat) : Int := (c.pr[k]?).getD 0
def Ic.lvl (c : Ic) : Int := match c.st.getLast? with
  | none => 0
  | some k => c.prio k
def orB : List Nat → Nat → Nat
  | [], b => b
  | i :: l, b => orB l (b ||| 2 ^ i)
def Ic.cand (c : Ic) : Nat := (c.pe &&& c.en) &&& (18446744073709551615 - orB c.st 0)
def Ic.pick (c : Ic) : List Nat → Int × Int → Int × Int
  | [], r => r
  | k :: l, r => Ic.pick c l (if r.2 < c.prio k then ((k : Int), c.prio k) else r)
theorem Ic.pick_snoc (c : Ic) : ∀ (l : List Nat) (i : Nat) (r : Int × Int), c.pick (l ++ [i]) r = if (c.pick l r).2 < c.prio i then ((i : Int), c.prio i) else c.pick l r
  | [], i, r => rfl
  | j :: l, i, r => by simp only [List.cons_append, Ic.pick]; exact Ic.pick_snoc c l i _
def Ic.nx (c : Ic) : Int := (c.pick (blK c.cand 64) (64, c.lvl)).1
def Ic.raise (c : Ic) (i : Nat) : Ic := { c with pe := c.pe ||| 2 ^ i }
def Ic.enable (c : Ic) (i : Nat) (on : Bool) : Ic := { c with en := if on = true then c.en ||| 2 ^ i else clr c.en i }
def Ic.ack (c : Ic) (k : Nat) : Ic := { c with pe := clr c.pe k, st := c.st ++ [k] }
def Ic.fin (c : Ic) : Ic := { c with st := c.st.dropLast }
structure Ic.Ok (n : Nat) (c : Ic) : Prop where
  len : c.pr.length = n
  n1 : 1 ≤ n ∧ n ≤ 64
  prs : ∀ p ∈ c.pr, 1 ≤ p ∧ p ≤ 15
  pe : c.pe < 2 ^ n
  en : c.en < 2 ^ n
  sth : ∀ i ∈ c.st, i < n
  asc : c.st.Pairwise fun a b => c.prio a < c.prio b
theorem lt64_of {b n : Nat} (h : b < 2 ^ n) (hn : n ≤ 64) : b < 18446744073709551616 := by
  have : 2 ^ n ≤ 2 ^ 64 := Nat.pow_le_pow_right (by decide) hn
  have e : 2 ^ 64 = 18446744073709551616 := by decide
  omega
theorem tb_hin {b n i : Nat} (h : b < 2 ^ n) (hi : n ≤ i) : b.testBit i = false := Nat.testBit_lt_two_pow (Nat.lt_of_lt_of_le h (Nat.pow_le_pow_right (by decide) hi))
theorem lt_of_tb {b n i : Nat} (h : b < 2 ^ n) (hb : b.testBit i = true) : i < n := by
  refine Nat.lt_of_not_le fun hh => ?_
  rw [tb_hin h hh] at hb
  cases hb
theorem orB_tb : ∀ (l : List Nat) (b j : Nat), (orB l b).testBit j = (b.testBit j || decide (j ∈ l))
  | [], b, j => by simp [orB]
  | i :: l, b, j => by
    rw [orB, orB_tb l, or_tb, Bool.or_assoc]
    congr 1
    by_cases h1 : j = i <;> by_cases h2 : j ∈ l <;> simp [h1, h2]
theorem orB_lt : ∀ {l : List Nat} {b : Nat}, b < 18446744073709551616 → (∀ i ∈ l, i < 64) → orB l b < 18446744073709551616
  | [], b, hb, _ => hb
  | i :: l, b, hb, h => orB_lt (l := l) (b := b ||| 2 ^ i) (or_lt hb (h i (by simp))) fun j hj => h j (by simp [hj])
theorem orB_snoc : ∀ (l : List Nat) (b i : Nat), orB (l ++ [i]) b = orB l b ||| 2 ^ i
  | [], b, i => rfl
  | j :: l, b, i => by simp only [List.cons_append, orB]; exact orB_snoc l _ i
section
variable {n : Nat} {c : Ic}
theorem Ic.Ok.prio_at (h : c.Ok n) {k : Nat} (hk : k < n) : c.prio k = c.pr[k]'(by rw [h.len]; exact hk) := by
  unfold Ic.prio
  rw [List.getElem?_eq_getElem (by rw [h.len]; exact hk)]
  rfl
theorem Ic.Ok.prio_bd (h : c.Ok n) {k : Nat} (hk : k < n) : 1 ≤ c.prio k ∧ c.prio k ≤ 15 := by
  rw [h.prio_at hk]
  exact h.prs _ (List.getElem_mem _)
theorem Ic.Ok.pe64 (h : c.Ok n) : c.pe < 18446744073709551616 := lt64_of h.pe h.n1.2
theorem Ic.Ok.en64 (h : c.Ok n) : c.en < 18446744073709551616 := lt64_of h.en h.n1.2
theorem Ic.Ok.act64 (h : c.Ok n) : orB c.st 0 < 18446744073709551616 := orB_lt (by decide) fun i hi => Nat.lt_of_lt_of_le (h.sth i hi) h.n1.2
theorem Ic.Ok.cand_tb (h : c.Ok n) (j : Nat) : c.cand.testBit j = (c.pe.testBit j && c.en.testBit j && !decide (j ∈ c.st)) := by
  unfold Ic.cand
  rw [Nat.testBit_and, Nat.testBit_and]
  by_cases hj : j < 64
  · rw [not_tb h.act64 hj, orB_tb]; simp
  · rw [tb_hi h.pe64 (by omega)]; simp
theorem Ic.Ok.cand64 (h : c.Ok n) : c.cand < 18446744073709551616 := Nat.lt_of_le_of_lt (Nat.le_trans Nat.and_le_left Nat.and_le_left) h.pe64
theorem Ic.pick_or (c : Ic) : ∀ (l : List Nat) (r : Int × Int), c.pick l r = r ∨ ∃ k ∈ l, c.pick l r = ((k : Int), c.prio k) ∧ r.2 < c.prio k
  | [], r => .inl rfl
  | i :: l, r => by
    rw [Ic.pick]
    by_cases hi : r.2 < c.prio i
    · rw [if_pos hi]
      rcases Ic.pick_or c l ((i : Int), c.prio i) with h | ⟨k, hk, h1, h2⟩
      · exact .inr ⟨i, by simp, h, hi⟩
      · exact .inr ⟨k, by simp [hk], h1, Int.lt_trans hi h2⟩
    · rw [if_neg hi]
      rcases Ic.pick_or c l r with h | ⟨k, hk, h1, h2⟩
      · exact .inl h
      · exact .inr ⟨k, by simp [hk], h1, h2⟩
theorem Ic.Ok.nx_cases (h : c.Ok n) : c.nx = 64 ∨ ∃ k : Nat, c.nx = k ∧ k < n ∧ c.pe.testBit k = true ∧ c.en.testBit k = true ∧ k ∉ c.st ∧ c.lvl < c.prio k := by
  unfold Ic.nx
  rcases Ic.pick_or c (blK c.cand 64) (64, c.lvl) with h1 | ⟨k, hk, h1, h2⟩
  · rw [h1]; exact .inl rfl
  · rw [h1]
    have h3 := (blK_mem.1 hk).2
    rw [h.cand_tb] at h3
    simp only [Bool.and_eq_true, Bool.not_eq_true', decide_eq_false_iff_not] at h3
    exact .inr ⟨k, rfl, lt_of_tb h.pe h3.1.1, h3.1.1, h3.1.2, h3.2, h2⟩
theorem Ic.lvl_snoc {pe en : Nat} {pr : List Int} {st : List Nat} {k : Nat} : Ic.lvl ⟨pe, en, pr, st ++ [k]⟩ = (pr[k]?).getD 0 := by
  unfold Ic.lvl
  simp [Ic.prio]
theorem Ic.Ok.lvl_ge (h : c.Ok n) : ∀ i ∈ c.st, c.prio i ≤ c.lvl := by
  intro i hi
  unfold Ic.lvl
  rcases List.eq_nil_or_concat c.st with h0 | ⟨l, k, h0⟩
  · rw [h0] at hi; simp at hi
  · have ha := h.asc
    rw [h0] at hi ha ⊢
    rw [List.concat_eq_append] at hi ha ⊢
    rw [List.getLast?_append]
    simp only [List.getLast?_singleton, Option.some_or]
    rw [List.pairwise_append] at ha
    rcases List.mem_append.1 hi with h1 | h1
    · exact Int.le_of_lt (ha.2.2 i h1 k (by simp))
    · simp at h1; rw [h1]; exact Int.le_refl _
theorem Ic.Ok.lvl_bd (h : c.Ok n) : 0 ≤ c.lvl ∧ c.lvl ≤ 15 := by
  unfold Ic.lvl
  cases hl : c.st.getLast? with
  | none => simp
  | some k =>
    have := h.prio_bd (h.sth k (List.mem_of_getLast? hl))
    simp only
    omega
theorem Ic.Ok.raise (h : c.Ok n) {i : Nat} (hi : i < n) : (c.raise i).Ok n :=
  ⟨h.len, h.n1, h.prs, Nat.or_lt_two_pow h.pe (Nat.pow_lt_pow_right (by decide) hi), h.en, h.sth, h.asc⟩
theorem clr_le (b i : Nat) : clr b i ≤ b := Nat.and_le_left
theorem Ic.Ok.enable (h : c.Ok n) {i : Nat} (hi : i < n) (on : Bool) : (c.enable i on).Ok n := by
  refine ⟨h.len, h.n1, h.prs, h.pe, ?_, h.sth, h.asc⟩
  unfold Ic.enable
  cases on
  · exact Nat.lt_of_le_of_lt (clr_le _ _) h.en
  · exact Nat.or_lt_two_pow h.en (Nat.pow_lt_pow_right (by decide) hi)
theorem Ic.Ok.ack (h : c.Ok n) {k : Nat} (hk : k < n) (hl : c.lvl < c.prio k) : (c.ack k).Ok n := by
  refine ⟨h.len, h.n1, h.prs, Nat.lt_of_le_of_lt (clr_le _ _) h.pe, h.en, fun i hi => ?_, ?_⟩
  · rcases List.mem_append.1 hi with h1 | h1
    · exact h.sth i h1
    · simp at h1; rw [h1]; exact hk
  · show (c.st ++ [k]).Pairwise fun a b => c.prio a < c.prio b
    rw [List.pairwise_append]
    refine ⟨h.asc, List.pairwise_singleton _ _, fun a ha b hb => ?_⟩
    simp at hb
    rw [hb]
    exact Int.lt_of_le_of_lt (h.lvl_ge a ha) hl
theorem Ic.Ok.fin (h : c.Ok n) : c.fin.Ok n :=
  ⟨h.len, h.n1, h.prs, h.pe, h.en, fun i hi => h.sth i (List.dropLast_subset _ hi), h.asc.sublist (List.dropLast_sublist _)⟩
end
end Vg
