/- BottomSupply: the plain law. No walk here. -/
import Derived.Test.YtiinhofmhoplfaaBotZ
set_option linter.unusedSimpArgs false
set_option linter.unusedVariables false
set_option maxHeartbeats 2000000
set_option maxRecDepth 100000
namespace Vg
open Go
abbrev Rn := Nat × Int × Int
def sel (j : Nat) (A : List Rn) : List (Int × Int) := (A.filter fun r => decide (r.1 = j)).map (·.2)
theorem sel_append (j : Nat) (A B : List Rn) : sel j (A ++ B) = sel j A ++ sel j B := by unfold sel; rw [List.filter_append, List.map_append]
theorem sel_one (j : Nat) (r : Rn) : sel j [r] = if r.1 = j then [r.2] else [] := by
  unfold sel
  by_cases h : r.1 = j <;> simp [h]
/-- What the inner loop sums. -/
def sm (i : Nat) (f : Int) : List Rn → Int
  | [] => 0
  | r :: l => (if r.1 = i ∧ f ≤ r.2.1 then r.2.2 - r.2.1 else 0) + sm i f l
theorem sm_append (i : Nat) (f : Int) : ∀ l m : List Rn, sm i f (l ++ m) = sm i f l + sm i f m
  | [], m => by simp [sm]
  | x :: l, m => by simp only [List.cons_append, sm, sm_append i f l m]; omega
theorem wi_nonneg (f g : Int) : ∀ l : List (Int × Int), 0 ≤ wi f g l
  | [] => by simp [wi]
  | x :: l => by have := wi_nonneg f g l; simp only [wi]; omega
theorem wi_mono (f : Int) {g g' : Int} (h : g ≤ g') : ∀ l : List (Int × Int), wi f g l ≤ wi f g' l
  | [] => by simp [wi]
  | x :: l => by have := wi_mono f h l; simp only [wi]; omega
theorem sm_le (i : Nat) (f g : Int) : ∀ P : List Rn, (∀ r ∈ P, r.2.1 ≤ r.2.2 ∧ r.2.2 ≤ g) → sm i f P ≤ wi f (g - f) (sel i P)
  | [], _ => by simp [sm, sel, wi]
  | r :: l, h => by
    have ih := sm_le i f g l fun x hx => h x (List.mem_cons_of_mem _ hx)
    have hr := h r (by simp)
    have e : sel i (r :: l) = sel i [r] ++ sel i l := sel_append i [r] l
    rw [e, wi_append, sel_one]
    simp only [sm]
    by_cases h1 : r.1 = i
    · rw [if_pos h1]
      simp only [wi]
      by_cases h2 : f ≤ r.2.1
      · rw [if_pos ⟨h1, h2⟩]; omega
      · rw [if_neg (fun hh => h2 hh.2)]; omega
    · rw [if_neg h1, if_neg (fun hh => h1 hh.1)]
      simp only [wi]; omega
theorem sm_bd (i : Nat) (f : Int) : ∀ P : List Rn, (∀ r ∈ P, 0 ≤ r.2.1 ∧ r.2.1 ≤ r.2.2 ∧ r.2.2 ≤ 2251799813685248) → 0 ≤ sm i f P ∧ sm i f P ≤ P.length * 2251799813685248
  | [], _ => by simp [sm]
  | r :: l, h => by
    have ih := sm_bd i f l fun x hx => h x (List.mem_cons_of_mem _ hx)
    have hr := h r (by simp)
    simp only [sm, List.length_cons, Int.natCast_add, Int.add_mul]
    split <;> omega
def Th.ok (t : Th) : Prop := 1 ≤ t.bu ∧ t.bu ≤ t.pe ∧ t.pe ≤ 1099511627776
/-- What holds at the head of a round. -/
structure BR (k n : Nat) (T : List Th) (now : Int) (Bs : List Bp) (Q : List Wq) (A : List Rn) : Prop where
  inv : Bo.Inv (8 * k) Bs Q
  ths : Bs.map (·.t) = T
  len : Bs.length = n
  tok : ∀ t ∈ T, t.ok
  dep : ∀ q ∈ Q, 1 ≤ q.depth
  last : ∀ x ∈ Bs, x.s.last ≤ now
  t0 : 0 ≤ now
  t1 : now ≤ 1125899906842624 + 512 * k
  sup : ∀ (j : Nat) (hj : j < Bs.length), Sup Bs[j].s Bs[j].t.bu Bs[j].t.pe (sel j A)
  bd : ∀ r ∈ A, r.1 < n ∧ 0 ≤ r.2.1 ∧ r.2.1 ≤ r.2.2 ∧ r.2.2 ≤ now
  srt : A.Pairwise fun r r' => r.2.2 ≤ r'.2.1
  al : A.length ≤ k
theorem BR.start {T : List Th} {n : Nat} (hg : goodT T = true) (hn : T.length = n) : BR 0 n T 0 (T.map th0) (Qs0 T) [] := by
  have hI := goodT_inv hg
  unfold goodT at hg
  simp only [Bool.and_eq_true, Bool.not_eq_true', decide_eq_true_eq] at hg
  obtain ⟨⟨h1, h2⟩, h3⟩ := hg
  have hto : ∀ t ∈ T, t.ok := fun t ht => by
    have ho : oddT t = false := by
      cases hh : oddT t with
      | false => rfl
      | true => rw [← h1]; exact (List.any_eq_true.2 ⟨t, ht, hh⟩).symm
    exact (oddT_no ho).1
  refine ⟨hI, by rw [List.map_map]; exact List.map_id' T, by simpa using hn, hto, fun q hq => ?_, fun x hx => ?_, Int.le_refl _, by omega, fun j hj => ?_, by simp, .nil, Nat.le_refl _⟩
  · unfold Qs0 at hq
    obtain ⟨d, hd, rfl⟩ := List.mem_map.1 hq
    unfold deps at hd
    split at hd
    · simp at hd; subst hd; show (1 : Int) ≤ 1; omega
    · have ho : oddW d = false := by
        cases hh : oddW d with
        | false => rfl
        | true => rw [← h3]; exact (List.any_eq_true.2 ⟨d, hd, hh⟩).symm
      unfold oddW at ho
      simp at ho
      show (1 : Int) ≤ d
      omega
  · obtain ⟨t, _, rfl⟩ := List.mem_map.1 hx; exact Int.le_refl _
  · have hj' : j < T.length := by simpa using hj
    have e : (T.map th0)[j] = th0 T[j] := by simp
    rw [e]
    have := hto _ (List.getElem_mem hj')
    exact Sup.nil (by have := this.1; show (0 : Int) ≤ T[j].bu; omega)
theorem Wk.waiting_set {Q : List Wq} {i j : Nat} (hi : i < Q.length) (q : Wq) : Wk.waiting (Q.set i q) j = if j = i then (q.L.length : Int) else Wk.waiting Q j := by
  by_cases hj : j < Q.length
  · rw [Wk.waiting_in (by simpa using hj)]
    by_cases h : j = i
    · subst h; simp
    · rw [if_neg h, List.getElem_set_ne (fun hh => h hh.symm), Wk.waiting_in hj]
  · rw [if_neg (by omega), Wk.waiting_out (.inr (by rw [List.length_set]; omega)), Wk.waiting_out (.inr (by omega))]
/-- Within the puts of a round. -/
structure PS (m n i : Nat) (Bs : List Bp) (Q : List Wq) : Prop where
  inv : Bo.Inv (m + i) Bs Q
  dep : ∀ q ∈ Q, 1 ≤ q.depth
  full : ∀ j : Nat, j < i → 0 < Wk.waiting Q j
theorem PS.put {m n i : Nat} {Bs : List Bp} {Q : List Wq} (h : PS m n i Bs Q) (hl : Bs.length = n) (hi : i < n) : PS m n (i + 1) Bs (Bo.put n Q i 1000).1 := by
  have hiQ := (h.inv.at i (by omega)).2
  have hd := h.dep _ (List.getElem_mem hiQ)
  refine ⟨h.inv.put i 1000, ?_, ?_⟩
  · rw [Bo.put_in hi, Wk.put_in hiQ]
    intro q hq
    split at hq
    · exact h.dep q hq
    · split at hq
      · rcases List.mem_or_eq_of_mem_set hq with h1 | h1
        · exact h.dep q h1
        · rw [h1]; exact hd
      · rcases List.mem_or_eq_of_mem_set hq with h1 | h1
        · exact h.dep q h1
        · rw [h1]; exact hd
  · intro j hj
    rw [Bo.put_in hi, Wk.put_in hiQ, if_neg (by omega)]
    split
    · rename_i hf
      rw [Wk.waiting_set hiQ]
      split
      · show (0 : Int) < (Q[i].L.length : Int); omega
      · exact h.full j (by omega)
    · rw [Wk.waiting_set hiQ]
      split
      · show (0 : Int) < ((Q[i].L ++ [1000]).length : Int); simp <;> omega
      · exact h.full j (by omega)
/-- Behind the refill of a round. -/
structure BF (k n : Nat) (T : List Th) (now : Int) (Bs : List Bp) (Q : List Wq) (A : List Rn) : Prop where
  inv : Bo.Inv (8 * k + 8) Bs Q
  ths : Bs.map (·.t) = T
  len : Bs.length = n
  tok : ∀ t ∈ T, t.ok
  dep : ∀ q ∈ Q, 1 ≤ q.depth
  cur : ∀ x ∈ Bs, x.cur now
  full : ∀ j : Nat, j < n → 0 < Wk.waiting Q j
  t0 : 0 ≤ now
  t1 : now ≤ 1125899906842624 + 512 * k + 255
  sup : ∀ (j : Nat) (hj : j < Bs.length), Sup Bs[j].s Bs[j].t.bu Bs[j].t.pe (sel j A)
  bd : ∀ r ∈ A, r.1 < n ∧ 0 ≤ r.2.1 ∧ r.2.1 ≤ r.2.2 ∧ r.2.2 ≤ now
  srt : A.Pairwise fun r r' => r.2.2 ≤ r'.2.1
  al : A.length ≤ k
theorem BR.refill {k n : Nat} {T : List Th} {now gap : Int} {Bs : List Bp} {Q Q' : List Wq} {A : List Rn} (h : BR k n T now Bs Q A) (hk : k ≤ 60) (hp : PS (8 * k) n n Bs Q') (hn8 : n ≤ 8) (hg : 0 ≤ gap ∧ gap ≤ 255) :
    Bo.refill Bs (now + gap) = (Bs.map (Bo.rf (now + gap)), 0) ∧ BF k n T (now + gap) (Bs.map (Bo.rf (now + gap))) Q' A := by
  have h0 := h.t0
  have h1 := h.t1
  have hl : ∀ x ∈ Bs, x.s.last ≤ now + gap := fun x hx => by have := h.last x hx; omega
  have hr := Bo.refill_ok hl (by omega)
  refine ⟨hr, ?_, ?_, by rw [List.length_map]; exact h.len, h.tok, hp.dep, fun x hx => ?_, hp.full, by omega, by omega, fun j hj => ?_, fun r hr => ?_, h.srt, h.al⟩
  · have := (hp.inv.mono (k' := 8 * k + 8) (by omega)).refill (now + gap)
    rw [hr] at this; exact this
  · rw [List.map_map, ← h.ths]; rfl
  · obtain ⟨y, hy, rfl⟩ := List.mem_map.1 hx
    exact Bo.rf_cur (hl y hy) (by omega)
  · have hj' : j < Bs.length := by simpa using hj
    have e : (Bs.map (Bo.rf (now + gap)))[j] = Bo.rf (now + gap) Bs[j] := by simp
    rw [e]
    have hl' := hl _ (List.getElem_mem hj')
    refine (h.sup j hj').refill (now := now + gap) ?_
    unfold Srv.refill
    rw [if_neg (by omega)]
  · have := h.bd r hr; omega
/-- None is able: what is told next is behind now. -/
theorem BF.none {k n : Nat} {T : List Th} {now at_ : Int} {wt : Bool} {Bs : List Bp} {Q : List Wq} {A : List Rn} (h : BF k n T now Bs Q A) (ha : ∀ j : Nat, j < Bs.length → Bo.able Bs Q j = false) (hx : Bo.next Bs Q = (at_, wt)) :
    (n = 0 ∧ wt = false ∧ at_ = 0) ∨ (0 < n ∧ wt = true ∧ now < at_) := by
  have hl := h.len
  by_cases hn : n = 0
  · left
    subst hn
    have : Bs = [] := List.eq_nil_of_length_eq_zero hl
    subst this
    have hx' : ((0 : Int), false) = (at_, wt) := hx
    simp only [Prod.mk.injEq] at hx'
    exact ⟨rfl, hx'.2.symm, hx'.1.symm⟩
  · right
    have h0 : 0 < Bs.length := by omega
    have hw := h.full 0 (by omega)
    have hs : Bs[0].s.left Bs[0].t.bu ≤ 0 := by
      by_cases hs : 0 < Bs[0].s.left Bs[0].t.bu
      · have h2 := (Bo.able_iff (Q := Q) h0).2 ⟨hw, hs⟩
        have h3 := ha 0 h0
        rw [h3] at h2; cases h2
      · omega
    obtain ⟨y, l, _, hc⟩ := Bo.cand_some (Q := Q) h0 (h.inv.each _ (List.getElem_mem h0)).1.1 hw hs
    have h3 := Bo.nextK_some (Bs := Bs) (Q := Q) Bs.length 0 h0 (by rw [hc]; rfl)
    have hwt : wt = true := by
      unfold Bo.next at hx
      rw [hx] at h3; exact h3
    subst hwt
    exact ⟨by omega, rfl, Bo.next_later h.cur hx⟩
theorem BF.wait {k n : Nat} {T : List Th} {now at_ : Int} {Bs : List Bp} {Q : List Wq} {A : List Rn} (h : BF k n T now Bs Q A) (hl : now ≤ at_) (hb : at_ ≤ 1125899906842624 + 512 * k + 512) : BR (k + 1) n T at_ Bs Q A :=
  ⟨h.inv.mono (by omega), h.ths, h.len, h.tok, h.dep, fun x hx => by have := (h.cur x hx).1; omega, by have := h.t0; omega, by omega, h.sup, fun r hr => by have := h.bd r hr; omega, h.srt, by have := h.al; omega⟩
theorem BF.run {k n j : Nat} {T : List Th} {now m : Int} {Bs : List Bp} {Q : List Wq} {A : List Rn} (h : BF k n T now Bs Q A) (hk : k ≤ 60) (hj : j < Bs.length) (ha : Bo.able Bs Q j = true) (hm : 1 ≤ m) (hm2 : m ≤ Bo.left Bs Q j) (hm3 : m ≤ 256) :
    ∃ Bs' Q' is, Bo.run Bs Q j m (now + m) = (Bs', Q', is, 0) ∧ BR (k + 1) n T (now + m) Bs' Q' (A ++ [(j, now, now + m)]) := by
  have h0 := h.t0
  have h1 := h.t1
  have hcj := h.cur _ (List.getElem_mem hj)
  obtain ⟨r1, r2, r3⟩ := Bo.run_ok h.inv hj ha hcj.1 h0 (by omega) hm2 (show now + m ≤ 4503599627370496 by omega)
  have hI := h.inv.run j m (now + m)
  rw [r3] at hI
  obtain ⟨hbu, hpe, hpr, hiv⟩ := h.inv.each _ (List.getElem_mem hj)
  refine ⟨_, _, _, r3, hI.mono (by omega), ?_, by simp [h.len], h.tok, ?_, fun x hx => ?_, by omega, by omega, fun i hi => ?_, fun r hr => ?_, ?_, by have := h.al; simp; omega⟩
  · rw [List.map_set, ← h.ths]
    apply List.ext_getElem
    · simp
    · intro i h2 h3
      rw [List.getElem_set]
      split
      · rename_i e; subst e; simp
      · rfl
  · have hjQ := (h.inv.at j hj).2
    rw [Wk.go_in hjQ]
    have hd := h.dep _ (List.getElem_mem hjQ)
    generalize Q[j] = q at hd
    obtain ⟨L, d, lo⟩ := q
    cases L with
    | nil => exact h.dep
    | cons x l =>
      dsimp only
      intro q hq
      split at hq
      · exact h.dep q hq
      · split at hq
        · rcases List.mem_or_eq_of_mem_set hq with h4 | h4
          · exact h.dep q h4
          · rw [h4]; exact hd
        · rcases List.mem_or_eq_of_mem_set hq with h4 | h4
          · exact h.dep q h4
          · rw [h4]; exact hd
  · rcases List.mem_or_eq_of_mem_set hx with h2 | h2
    · have := (h.cur x h2).1; omega
    · rw [h2]
      have := (Srv.use_ok r1).1
      show (Bs[j].s.use _ _ _ _).1.last ≤ _
      omega
  · have hi' : i < Bs.length := by simpa using hi
    rw [sel_append, sel_one]
    by_cases hij : i = j
    · subst hij
      rw [List.getElem_set_self, if_pos rfl]
      have := (h.sup i hi').use hiv hpe.1 r1
      rw [show now + m - m = now by omega] at this
      exact this
    · rw [List.getElem_set_ne (fun hh => hij hh.symm), if_neg (fun hh => hij hh.symm), List.append_nil]
      exact h.sup i hi'
  · rcases List.mem_append.1 hr with hr | hr
    · have := h.bd r hr; omega
    · simp at hr; subst hr
      have := h.len
      show j < n ∧ 0 ≤ now ∧ now ≤ now + m ∧ now + m ≤ now + m
      omega
  · rw [List.pairwise_append]
    refine ⟨h.srt, List.pairwise_singleton _ _, fun a ha' b hb => ?_⟩
    simp at hb; subst hb
    have := h.bd a ha'
    show a.2.2 ≤ now
    omega
/-- The rounds of the last loops. -/
theorem ceil_ge {l p : Int} (hl : 0 ≤ l) (hp : 1 ≤ p) : 0 ≤ (l + p - 1) / p ∧ l ≤ (l + p - 1) / p * p ∧ (l + p - 1) / p * p ≤ l + p - 1 := by
  have h1 := Int.mul_ediv_add_emod (l + p - 1) p
  have h2 := Int.emod_nonneg (l + p - 1) (show p ≠ 0 by omega)
  have h3 := Int.emod_lt_of_pos (l + p - 1) (show 0 < p by omega)
  have h4 : p * ((l + p - 1) / p) = (l + p - 1) / p * p := Int.mul_comm _ _
  refine ⟨Int.ediv_nonneg (by omega) (by omega), by omega, by omega⟩
theorem BR.fin {k n : Nat} {T : List Th} {now : Int} {Bs : List Bp} {Q : List Wq} {A : List Rn} (h : BR k n T now Bs Q A) (x y : Nat) (hx : x < A.length) (hy : y < A.length) (hc : A[y].1 = A[x].1 ∧ A[x].2.1 ≤ A[y].2.1) (hxn : A[x].1 < T.length) :
    sm A[x].1 A[x].2.1 (A.take (y + 1)) ≤ (A[y].2.2 - A[x].2.1 + T[A[x].1].pe - 1) / T[A[x].1].pe * T[A[x].1].bu ∧ (A[y].2.2 - A[x].2.1 + T[A[x].1].pe - 1) / T[A[x].1].pe * T[A[x].1].bu ≤ A[y].2.2 - A[x].2.1 + T[A[x].1].pe - 1 ∧ 0 ≤ (A[y].2.2 - A[x].2.1 + T[A[x].1].pe - 1) / T[A[x].1].pe ∧ (A[y].2.2 - A[x].2.1 + T[A[x].1].pe - 1) / T[A[x].1].pe ≤ A[y].2.2 - A[x].2.1 + T[A[x].1].pe - 1 := by
  have hbx := h.bd _ (List.getElem_mem hx)
  have hby := h.bd _ (List.getElem_mem hy)
  have hok := h.tok _ (List.getElem_mem hxn)
  obtain ⟨o1, o2, o3⟩ := hok
  have hlen := h.len
  have hxB : A[x].1 < Bs.length := by omega
  have hT : Bs[A[x].1].t = T[A[x].1] := by
    have : (Bs.map (·.t))[A[x].1]'(by simpa using hxB) = Bs[A[x].1].t := by simp
    rw [← this]
    congr 1
    exact h.ths
  have hs := h.sup A[x].1 hxB
  rw [hT] at hs
  generalize T[A[x].1].pe = pe at o2 o3 hs
  generalize T[A[x].1].bu = bu at o1 o2 hs
  obtain ⟨l, hl⟩ : ∃ l, A[y].2.2 - A[x].2.1 = l := ⟨_, rfl⟩
  rw [hl]
  obtain ⟨c1, c2, c3⟩ := ceil_ge (l := l) (p := pe) (by omega) (by omega)
  obtain ⟨q, hq⟩ : ∃ q, (l + pe - 1) / pe = q := ⟨_, rfl⟩
  rw [hq] at c1 c2 c3 ⊢
  have h1 := hs.times (by omega) q A[x].2.1 c1
  have h2 := sm_le A[x].1 A[x].2.1 A[y].2.2 (A.take (y + 1)) fun r hr => by
    have hb := h.bd r (List.take_subset _ _ hr)
    refine ⟨hb.2.2.1, ?_⟩
    rw [List.take_succ_eq_append_getElem hy] at hr
    rcases List.mem_append.1 hr with hr | hr
    · obtain ⟨i, hi, rfl⟩ := List.mem_iff_getElem.1 hr
      have hi' : i < y := by simp at hi; omega
      have := List.pairwise_iff_getElem.1 h.srt i y (by omega) hy hi'
      rw [List.getElem_take]
      omega
    · simp at hr; subst hr; exact Int.le_refl _
  rw [hl] at h2
  have h3 : wi A[x].2.1 l (sel A[x].1 (A.take (y + 1))) ≤ wi A[x].2.1 l (sel A[x].1 A) := by
    have e : sel A[x].1 A = sel A[x].1 (A.take (y + 1)) ++ sel A[x].1 (A.drop (y + 1)) := by rw [← sel_append, List.take_append_drop]
    rw [e, wi_append]
    have := wi_nonneg A[x].2.1 l (sel A[x].1 (A.drop (y + 1)))
    omega
  have h4 := wi_mono A[x].2.1 (show l ≤ q * pe by omega) (sel A[x].1 A)
  have h5 : q * bu ≤ q * pe := Int.mul_le_mul_of_nonneg_left o2 c1
  have h6 : q * 1 ≤ q * pe := Int.mul_le_mul_of_nonneg_left (by omega) c1
  refine ⟨by omega, by omega, c1, by omega⟩
end Vg
namespace Go.Proofs.Ytiinhofmhoplfaa
end Go.Proofs.Ytiinhofmhoplfaa
