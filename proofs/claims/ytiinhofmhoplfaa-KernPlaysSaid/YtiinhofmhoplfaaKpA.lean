/- KernPlays: KernP, KernQ, KernF, KernG, KernFa, KernFb (wip/bin/merge.py puts them together: a claim has at most 60 files). -/
import Derived.Test.YtiinhofmhoplfaaKernX
import Derived.Test.YtiinhofmhoplfaaCeilR
set_option linter.unusedSimpArgs false
set_option linter.unusedVariables false
set_option maxHeartbeats 40000000
set_option maxRecDepth 100000
namespace Vg
open Go
/-- A task's first job is within its section. -/
def Kt.within (x : Kt) : Bool := decide (0 ≤ x.t.lk) && match x.J with | [] => false | j :: _ => decide (x.t.fr < j.went) && decide (j.went < x.t.tt)
structure Kn.HM (K : List Kt) (M : List Mx) : Prop where
  len : M.length = 16
  cs : M.map (·.c) = Kn.ceils (K.map (·.t))
  hold : ∀ i (hi : i < K.length), Kn.holds K M i = K[i].within
  held : ∀ m (hm : m < M.length), M[m].held = true → ∃ i, ∃ hi : i < K.length, M[m].who = (i : Int) ∧ K[i].t.lk = (m : Int) ∧ K[i].within = true
  out : ∀ i (hi : i < K.length), K[i].within = true → K[i].out = false
  pr : (K.map (·.t.pr)).Nodup
/-- What the ceilings are. -/
theorem Kn.ceils_ge : ∀ (T : List Tk) (L : List Int) (m : Nat), m < L.length → L[m]?.getD 0 ≤ (T.foldl Kn.ceil1 L)[m]?.getD 0 ∧ ∀ t ∈ T, t.lk = (m : Int) → t.pr ≤ (T.foldl Kn.ceil1 L)[m]?.getD 0
  | [], L, m, _ => ⟨Int.le_refl _, fun t ht => by simp at ht⟩
  | u :: T, L, m, hm => by
    have hl : m < (Kn.ceil1 L u).length := by rw [Kn.ceil1_len]; exact hm
    obtain ⟨h1, h2⟩ := Kn.ceils_ge T (Kn.ceil1 L u) m hl
    have h3 : L[m]?.getD 0 ≤ (Kn.ceil1 L u)[m]?.getD 0 ∧ (u.lk = (m : Int) → u.pr ≤ (Kn.ceil1 L u)[m]?.getD 0) := by
      unfold Kn.ceil1
      split
      · rename_i h0
        by_cases he : u.lk.toNat = m
        · subst he
          rw [List.getElem?_set_self hm]
          simp only [Option.getD_some]
          omega
        · rw [List.getElem?_set_ne he]
          exact ⟨Int.le_refl _, fun hh => by omega⟩
      · rename_i h0
        exact ⟨Int.le_refl _, fun hh => by omega⟩
    rw [List.foldl_cons]
    refine ⟨by omega, fun t ht htm => ?_⟩
    rcases List.mem_cons.1 ht with rfl | ht
    · have := h3.2 htm; omega
    · exact h2 t ht htm
theorem Kn.ceils_is : ∀ (T : List Tk) (L : List Int) (m : Nat), m < L.length → (T.foldl Kn.ceil1 L)[m]?.getD 0 = L[m]?.getD 0 ∨ ∃ t ∈ T, t.lk = (m : Int) ∧ (T.foldl Kn.ceil1 L)[m]?.getD 0 = t.pr
  | [], L, m, _ => .inl rfl
  | u :: T, L, m, hm => by
    have hl : m < (Kn.ceil1 L u).length := by rw [Kn.ceil1_len]; exact hm
    rw [List.foldl_cons]
    rcases Kn.ceils_is T (Kn.ceil1 L u) m hl with h1 | ⟨t, ht, h1, h2⟩
    · have h3 : (Kn.ceil1 L u)[m]?.getD 0 = L[m]?.getD 0 ∨ (u.lk = (m : Int) ∧ (Kn.ceil1 L u)[m]?.getD 0 = u.pr) := by
        unfold Kn.ceil1
        split
        · rename_i h0
          by_cases he : u.lk.toNat = m
          · subst he
            rw [List.getElem?_set_self hm]
            simp only [Option.getD_some]
            omega
          · rw [List.getElem?_set_ne he]
            exact .inl rfl
        · exact .inl rfl
      rcases h3 with h3 | ⟨h3, h4⟩
      · exact .inl (h1.trans h3)
      · exact .inr ⟨u, List.mem_cons_self, h3, h1.trans h4⟩
    · exact .inr ⟨t, List.mem_cons_of_mem _ ht, h1, h2⟩
theorem Kn.HM.ceil_ge {K : List Kt} {M : List Mx} (h : Kn.HM K M) {i m : Nat} (hi : i < K.length) (hm : m < M.length) (hl : K[i].t.lk = (m : Int)) : K[i].t.pr ≤ M[m].c := by
  have h1 := (Kn.ceils_ge (K.map (·.t)) (List.replicate 16 0) m (by have := h.len; simp; omega)).2 K[i].t (List.mem_map.2 ⟨_, List.getElem_mem hi, rfl⟩) hl
  have e : (M.map (·.c))[m]?.getD 0 = M[m].c := by simp [hm]
  rw [h.cs] at e
  rw [← e]
  exact h1
theorem Kn.HM.ceil_is {K : List Kt} {M : List Mx} (h : Kn.HM K M) {m : Nat} (hm : m < M.length) : M[m].c = 0 ∨ ∃ i, ∃ hi : i < K.length, K[i].t.lk = (m : Int) ∧ M[m].c = K[i].t.pr := by
  have e : (M.map (·.c))[m]?.getD 0 = M[m].c := by simp [hm]
  rw [h.cs] at e
  rcases Kn.ceils_is (K.map (·.t)) (List.replicate 16 0) m (by have := h.len; simp; omega) with h1 | ⟨t, ht, h1, h2⟩
  · left
    rw [← e]
    refine h1.trans ?_
    have : m < 16 := by have := h.len; omega
    rw [List.getElem?_replicate, if_pos this]
    rfl
  · right
    obtain ⟨x, hx, rfl⟩ := List.mem_map.1 ht
    obtain ⟨i, hi, rfl⟩ := List.mem_iff_getElem.1 hx
    exact ⟨i, hi, h1, by rw [← e]; exact h2⟩
theorem Kn.holds_same {K K' : List Kt} (h : K'.map (·.t) = K.map (·.t)) (M : List Mx) (n : Int) : Kn.holds K' M n = Kn.holds K M n := by
  unfold Kn.holds
  have e : (K'[n.toNat]?).map (·.t) = (K[n.toNat]?).map (·.t) := by rw [← List.getElem?_map, ← List.getElem?_map, h]
  split
  · rfl
  · cases e1 : K'[n.toNat]? with
    | none =>
      cases e2 : K[n.toNat]? with
      | none => rfl
      | some x => rw [e1, e2] at e; simp at e
    | some y =>
      cases e2 : K[n.toNat]? with
      | none => rw [e1, e2] at e; simp at e
      | some x =>
        rw [e1, e2] at e
        simp only [Option.map_some, Option.some.injEq] at e
        simp only [e]
theorem Kn.HM.same {K K' : List Kt} {M : List Mx} (h : Kn.HM K M) (ht : K'.map (·.t) = K.map (·.t)) (hw : ∀ i (hi : i < K.length) (hi' : i < K'.length), K'[i].within = K[i].within) (ho : ∀ i (hi : i < K.length) (hi' : i < K'.length), K[i].within = true → K'[i].out = false) : Kn.HM K' M := by
  have hl : K'.length = K.length := by have := congrArg List.length ht; simpa using this
  have hg : ∀ i (hi : i < K.length) (hi' : i < K'.length), K'[i].t = K[i].t := fun i hi hi' => by
    have e1 : (K'.map (·.t))[i]'(by simpa using hi') = K'[i].t := by simp
    have e2 : (K.map (·.t))[i]'(by simpa using hi) = K[i].t := by simp
    rw [← e1, ← e2]
    simp only [ht]
  refine ⟨h.len, by rw [ht]; exact h.cs, fun i hi => ?_, fun m hm hh => ?_, fun i hi hwi => ?_, ?_⟩
  · rw [Kn.holds_same ht, hw i (by omega) hi]; exact h.hold i (by omega)
  · obtain ⟨i, hi, h1, h2, h3⟩ := h.held m hm hh
    exact ⟨i, by omega, h1, by rw [hg i hi (by omega)]; exact h2, by rw [hw i hi (by omega)]; exact h3⟩
  · rw [hw i (by omega) hi] at hwi
    exact ho i (by omega) hi hwi
  · have e : K'.map (·.t.pr) = K.map (·.t.pr) := by
      have := congrArg (List.map (·.pr)) ht
      simpa [List.map_map, Function.comp_def] using this
    rw [e]; exact h.pr
theorem Kn.HM.set {K : List Kt} {M : List Mx} (h : Kn.HM K M) {i : Nat} {y : Kt} (hi : i < K.length) (ht : y.t = K[i].t) (hw : y.within = K[i].within) (ho : K[i].within = true → y.out = false) : Kn.HM (K.set i y) M := by
  refine h.same (map_set_same fun _ => ht) (fun j hj hj' => ?_) (fun j hj hj' hwj => ?_)
  · rw [List.getElem_set]
    split
    · rename_i e; subst e; exact hw
    · rfl
  · rw [List.getElem_set]
    split
    · rename_i e; subst e; exact ho hwj
    · exact h.out j hj hwj
theorem Kn.HM.release {k : Nat} {K : List Kt} {M : List Mx} (h : Kn.HM K M) (hI : Kn.Inv k K) (n c a : Int) : Kn.HM (Kn.release K n c a).1 M := by
  by_cases hm : n < 0 ∨ (K.length : Int) ≤ n
  · rw [Kn.release_out hm]; exact h
  · obtain ⟨i, rfl⟩ : ∃ i : Nat, n = i := ⟨n.toNat, by omega⟩
    have hi : i < K.length := by omega
    rw [Kn.release_in hi]
    split
    · exact h
    · split
      · exact h.set hi rfl rfl (h.out i hi)
      · refine h.set hi rfl ?_ (h.out i hi)
        unfold Kt.within
        simp only []
        cases hJ : K[i].J with
        | cons x l => rfl
        | nil =>
          simp only [List.nil_append]
          by_cases hl : 0 ≤ K[i].t.lk
          · have := ((hI _ (List.getElem_mem hi)).t.2.2 hl).2.1
            have e : decide (K[i].t.fr < 0) = false := by simp; omega
            rw [e]; simp
          · simp [hl]
theorem Kn.HM.suspend {K : List Kt} {M : List Mx} (h : Kn.HM K M) (n : Int) : Kn.HM (Kn.suspend K M n).1 M := by
  by_cases hm : n < 0 ∨ (K.length : Int) ≤ n
  · rw [Kn.suspend_out hm]; exact h
  · obtain ⟨i, rfl⟩ : ∃ i : Nat, n = i := ⟨n.toNat, by omega⟩
    have hi : i < K.length := by omega
    rw [Kn.suspend_in hi]
    split
    · exact h
    · rename_i hno
      refine h.set hi rfl rfl fun hw => ?_
      exact absurd (.inr ((h.hold i hi).trans hw)) hno
theorem Kn.HM.resume {K : List Kt} {M : List Mx} (h : Kn.HM K M) (n : Int) : Kn.HM (Kn.resume K n).1 M := by
  by_cases hm : n < 0 ∨ (K.length : Int) ≤ n
  · rw [Kn.resume_out hm]; exact h
  · obtain ⟨i, rfl⟩ : ∃ i : Nat, n = i := ⟨n.toNat, by omega⟩
    have hi : i < K.length := by omega
    rw [Kn.resume_in hi]
    split
    · exact h
    · exact h.set hi rfl rfl fun _ => rfl
theorem Tb.level_ge {M : List Mx} {task : Int} {m : Nat} (p : Int) : ∀ (k : Nat), m < k → Tb.isOf M task m = true → (M[m]?.getD ⟨0, false, 0⟩).c ≤ Tb.level M (Tb.of M task k) p
  | 0, h, _ => by omega
  | k + 1, h, ho => by
    rw [Tb.of_succ]
    by_cases hk : m = k
    · subst hk
      rw [if_pos ho, Tb.level_snoc]
      omega
    · have := Tb.level_ge p k (by omega) ho
      split
      · rw [Tb.level_snoc]; omega
      · rw [List.append_nil]; exact this
theorem Tb.level_none {M : List Mx} {task : Int} (p : Int) : ∀ (k : Nat), (∀ m, m < k → Tb.isOf M task m = false) → Tb.level M (Tb.of M task k) p = p
  | 0, _ => rfl
  | k + 1, h => by
    rw [Tb.of_succ, if_neg (by rw [h k (by omega)]; decide), List.append_nil]
    exact Tb.level_none p k fun m hm => h m (by omega)
/-- Whose mutex it is. -/
theorem Kn.HM.holder {K : List Kt} {M : List Mx} (h : Kn.HM K M) {i m : Nat} (hi : i < K.length) (hm : m < M.length) (hl : K[i].t.lk = (m : Int)) : K[i].within = (M[m].held && decide (M[m].who = (i : Int))) := by
  rw [← h.hold i hi, Kn.holds_in hi, if_neg (by omega), hl, Tb.holder_in hm]
  cases M[m].held <;> simp
theorem Kn.HM.isOf {K : List Kt} {M : List Mx} (h : Kn.HM K M) {i m : Nat} (hi : i < K.length) (hm : m < M.length) (ho : Tb.isOf M (i : Int) m = true) : K[i].t.lk = (m : Int) ∧ K[i].within = true := by
  rw [Tb.isOf_holder hm, Tb.holder_in hm] at ho
  cases hh : M[m].held with
  | false => rw [hh] at ho; simp at ho
  | true =>
    rw [hh] at ho
    simp at ho
    obtain ⟨j, hj, h1, h2, h3⟩ := h.held m hm hh
    have : i = j := by omega
    subst this
    exact ⟨h2, h3⟩
theorem Kn.HM.level_no {K : List Kt} {M : List Mx} (h : Kn.HM K M) {i : Nat} (hi : i < K.length) (hw : K[i].within = false) : Kn.level K M i = K[i].t.pr := by
  rw [Kn.level_in hi]
  refine Tb.level_none _ _ fun m hm => ?_
  cases ho : Tb.isOf M (i : Int) m with
  | false => rfl
  | true => have := (h.isOf hi hm ho).2; rw [hw] at this; cases this
theorem Kn.HM.level_ge {K : List Kt} {M : List Mx} (h : Kn.HM K M) {i m : Nat} (hi : i < K.length) (hm : m < M.length) (hl : K[i].t.lk = (m : Int)) (hw : K[i].within = true) : M[m].c ≤ Kn.level K M i := by
  rw [Kn.level_in hi]
  have h1 := h.holder hi hm hl
  rw [hw] at h1
  have ho : Tb.isOf M (i : Int) m = true := by
    rw [Tb.isOf_holder hm, Tb.holder_in hm]
    simp at h1
    rw [if_pos h1.1]; simp [h1.2]
  have := Tb.level_ge K[i].t.pr M.length hm ho
  rw [List.getElem?_eq_getElem hm] at this
  exact this
/-- The mutex of the one to run is free, unless it holds it. -/
theorem Kn.HM.free {k : Nat} {K : List Kt} {M : List Mx} (h : Kn.HM K M) (hI : Kn.Inv k K) {i m : Nat} (hi : i < K.length) (hm : m < M.length) (hl : K[i].t.lk = (m : Int)) (hb : Kn.best K M = i) (hw : K[i].within = false) : M[m].held = false := by
  cases hh : M[m].held with
  | false => rfl
  | true =>
    obtain ⟨j, hj, h1, h2, h3⟩ := h.held m hm hh
    have haj : Kn.ableK K j = true := by
      rw [Kn.ableK_in hj, h.out j hj h3]
      unfold Kt.within at h3
      cases hJ : K[j].J with
      | nil => rw [hJ] at h3; simp at h3
      | cons x l => simp
    rcases Kn.best_cases (M := M) hI with ⟨hb', hno⟩ | ⟨i', hi', hb', ha, hmax, htie⟩
    · omega
    · have : i' = i := by omega
      subst this
      have l1 := hmax j haj
      have l2 := h.level_ge hj hm h2 h3
      have l3 := h.level_no hi hw
      have l4 := h.ceil_ge hi hm hl
      have := htie j haj (by omega) ((h.hold j hj).trans h3)
      rw [h.hold i' hi, hw] at this
      cases this
theorem Kn.HM.put {K : List Kt} {M : List Mx} {i m : Nat} {y : Kt} {x : Mx} (h : Kn.HM K M) (hi : i < K.length) (hm : m < M.length) (hl : K[i].t.lk = (m : Int)) (ht : y.t = K[i].t) (hx : x.c = M[m].c) (hxw : y.within = x.held) (hxi : x.held = true → x.who = (i : Int))
    (hno : M[m].held = true → M[m].who = (i : Int)) (ho : y.within = true → y.out = false) : Kn.HM (K.set i y) (M.set m x) := by
  have hK : (K.set i y).map (·.t) = K.map (·.t) := map_set_same fun _ => ht
  have hne : ∀ j (hj : j < K.length), j ≠ i → (K.set i y)[j]'(by simpa using hj) = K[j] := fun j hj hji => List.getElem_set_ne (fun hh => hji hh.symm) _
  have heq : (K.set i y)[i]'(by simpa using hi) = y := List.getElem_set_self _
  refine ⟨by rw [List.length_set]; exact h.len, by rw [hK, map_set_same (f := Mx.c) fun _ => hx]; exact h.cs, fun j hj => ?_, fun m' hm' hh => ?_, fun j hj hwj => ?_, ?_⟩
  · have hj' : j < K.length := by simpa using hj
    rw [Kn.holds_same hK, Kn.holds_in hj']
    by_cases hji : j = i
    · subst hji
      rw [heq, hxw, if_neg (by omega), hl, Tb.holder_set hm, if_pos rfl]
      cases hxh : x.held with
      | false => simp
      | true => simp [hxi hxh]
    · rw [hne j hj' hji, ← h.hold j hj', Kn.holds_in hj']
      split
      · rfl
      · by_cases hlm : K[j].t.lk = (m : Int)
        · rw [hlm, Tb.holder_set hm, if_pos rfl, Tb.holder_in hm]
          have e1 : ∀ b : Bool, ∀ z : Int, (b = true → z = (i : Int)) → ((if b = true then (z, true) else (0, false)).2 && decide ((if b = true then (z, true) else (0, false)).1 = (j : Int))) = false := fun b z hz => by
            cases b with
            | false => simp
            | true =>
              have := hz rfl
              simp; omega
          rw [e1 _ _ hxi, e1 _ _ hno]
        · rw [Tb.holder_set hm, if_neg hlm]
  · have hm2 : m' < M.length := by simpa using hm'
    by_cases hmm : m' = m
    · subst hmm
      rw [List.getElem_set_self] at hh ⊢
      exact ⟨i, by simpa using hi, hxi hh, by rw [heq, ht]; exact hl, by rw [heq, hxw]; exact hh⟩
    · rw [List.getElem_set_ne (fun h => hmm h.symm)] at hh ⊢
      obtain ⟨j, hj, h1, h2, h3⟩ := h.held m' hm2 hh
      have hji : j ≠ i := fun hh => by subst hh; omega
      exact ⟨j, by simpa using hj, h1, by rw [hne j hj hji]; exact h2, by rw [hne j hj hji]; exact h3⟩
  · have hj' : j < K.length := by simpa using hj
    by_cases hji : j = i
    · subst hji; rw [heq] at hwj ⊢; exact ho hwj
    · rw [hne j hj' hji] at hwj ⊢; exact h.out j hj' hwj
  · have e : (K.set i y).map (·.t.pr) = K.map (·.t.pr) := map_set_same fun _ => by rw [ht]
    rw [e]; exact h.pr
theorem Kn.HM.lockd {k : Nat} {K : List Kt} {M : List Mx} (h : Kn.HM K M) (hI : Kn.Inv k K) {i : Nat} {y : Kt} {wn : Int} {dn : Bool} (hi : i < K.length) (hb : Kn.best K M = i) (ht : y.t = K[i].t) (ho : y.out = false)
    (hw : y.within = true ↔ (0 ≤ K[i].t.lk ∧ dn = false ∧ K[i].t.fr < wn ∧ wn < K[i].t.tt)) : Kn.HM (K.set i y) (Kn.lockd M K[i].t i wn dn) := by
  unfold Kn.lockd
  by_cases hl0 : K[i].t.lk < 0
  · rw [if_pos hl0]
    have e1 : y.within = false := by
      cases hh : y.within with
      | false => rfl
      | true => have := hw.1 hh; omega
    have e2 : K[i].within = false := by unfold Kt.within; simp; intro hh; omega
    exact h.set hi ht (by rw [e1, e2]) fun hh => by rw [e2] at hh; cases hh
  · rw [if_neg hl0]
    have h16 := ((hI _ (List.getElem_mem hi)).t.2.2 (by omega)).1
    obtain ⟨m, hm⟩ : ∃ m : Nat, K[i].t.lk = (m : Int) := ⟨K[i].t.lk.toNat, by omega⟩
    have hmM : m < M.length := by have := h.len; omega
    have hho := h.holder hi hmM hm
    have hcond : ((Tb.holder M K[i].t.lk).2 = true ∧ (Tb.holder M K[i].t.lk).1 = (i : Int)) ↔ K[i].within = true := by
      rw [hm, Tb.holder_in hmM, hho]
      cases M[m].held <;> simp
    by_cases hc : dn = false ∧ K[i].t.fr < wn ∧ wn < K[i].t.tt
    · rw [if_pos hc]
      have e1 : y.within = true := hw.2 ⟨by omega, hc⟩
      by_cases hold : K[i].within = true
      · rw [if_pos (hcond.2 hold)]
        exact h.set hi ht (by rw [e1, hold]) fun _ => ho
      · rw [if_neg (fun hh => hold (hcond.1 hh))]
        have hwf : K[i].within = false := by simpa using hold
        have hfr := h.free hI hi hmM hm hb hwf
        have hcg := h.ceil_ge hi hmM hm
        rw [hm, Tb.lock_in hmM, if_neg (by omega), if_neg (by rw [hfr]; simp), if_neg (by rw [hfr]; simp)]
        exact h.put hi hmM hm ht rfl e1 (fun _ => rfl) (fun hh => by rw [hfr] at hh; cases hh) fun _ => ho
    · rw [if_neg hc]
      have e1 : y.within = false := by
        cases hh : y.within with
        | false => rfl
        | true => exact absurd (hw.1 hh).2 hc
      by_cases hold : K[i].within = true
      · rw [if_pos (hcond.2 hold)]
        have hh := hho
        rw [hold] at hh
        simp at hh
        obtain ⟨hh1, hh2⟩ := hh
        rw [hm, Tb.unlock_in hmM, if_pos ⟨hh1, hh2⟩]
        exact h.put hi hmM hm ht rfl e1 (fun hh => by cases hh) (fun _ => hh2) fun hh => by rw [e1] at hh; cases hh
      · rw [if_neg (fun hh => hold (hcond.1 hh))]
        have hwf : K[i].within = false := by simpa using hold
        exact h.set hi ht (by rw [e1, hwf]) fun hh => by rw [hwf] at hh; cases hh
theorem Kn.HM.run {k : Nat} {K : List Kt} {M : List Mx} (h : Kn.HM K M) (hI : Kn.Inv k K) (n : Int) : Kn.HM (Kn.run K M n).1 (Kn.run K M n).2.1 := by
  rcases Kn.best_cases (M := M) hI with ⟨hb, _⟩ | ⟨i, hi, hb, ha, -, -⟩
  · rw [Kn.run_none hb]; exact h
  · obtain ⟨_, tk, j, l, lo, hx, hg⟩ := Kn.able_at hI ha
    rw [Kn.run_some hb hi hx]
    unfold Kn.runAt
    simp only []
    have hKt : K[i].t = tk := by rw [hx]
    split
    · exact h
    · split
      · rename_i hd
        have := h.lockd hI (y := ⟨tk, l, lo, false⟩) (wn := j.went + n) (dn := true) hi hb (by rw [hx]) rfl (by
          refine ⟨fun hh => ?_, fun hh => by simp at hh⟩
          unfold Kt.within at hh
          simp only [] at hh
          cases l with
          | nil => simp at hh
          | cons y l2 =>
            simp at hh
            have hz : y.went = 0 := hg.5 y (by simp)
            have hfr0 : 0 ≤ tk.fr := (hg.t.2.2 hh.1).2.1
            omega)
        rw [hKt] at this
        exact this
      · rename_i hd
        have := h.lockd hI (y := ⟨tk, ⟨j.cost, j.at_, j.went + n⟩ :: l, lo, false⟩) (wn := j.went + n) (dn := false) hi hb (by rw [hx]) rfl (by
          rw [hx]
          unfold Kt.within
          simp)
        rw [hKt] at this
        exact this
end Vg
namespace Vg
open Go
/-- The document's ceiling of a mutex. -/
def Rf.ceil (T : List Tk) (m : Int) : Int := T.foldl (fun c t => if t.lk = m then max c t.pr else c) 0
theorem Rf.ceil_eq : ∀ (T : List Tk) (L : List Int) (m : Nat), m < L.length → (T.foldl Kn.ceil1 L)[m]?.getD 0 = T.foldl (fun c t => if t.lk = (m : Int) then max c t.pr else c) (L[m]?.getD 0)
  | [], L, m, _ => rfl
  | u :: T, L, m, hm => by
    have hl : m < (Kn.ceil1 L u).length := by rw [Kn.ceil1_len]; exact hm
    rw [List.foldl_cons, List.foldl_cons, Rf.ceil_eq T _ m hl]
    congr 1
    unfold Kn.ceil1
    by_cases h0 : 0 ≤ u.lk
    · rw [if_pos h0]
      by_cases he : u.lk = (m : Int)
      · rw [if_pos he, he, Int.toNat_natCast, List.getElem?_set_self hm]
        rfl
      · rw [if_neg he, List.getElem?_set_ne (by omega)]
    · rw [if_neg h0, if_neg (by omega)]
theorem Kn.HM.ceil {K : List Kt} {M : List Mx} (h : Kn.HM K M) {m : Nat} (hm : m < M.length) : M[m].c = Rf.ceil (K.map (·.t)) m := by
  have e : (M.map (·.c))[m]?.getD 0 = M[m].c := by simp [hm]
  rw [h.cs] at e
  have h16 : m < 16 := by have := h.len; omega
  have := Rf.ceil_eq (K.map (·.t)) (List.replicate 16 0) m (by simpa using h16)
  rw [List.getElem?_replicate, if_pos h16] at this
  rw [← e]
  exact this
theorem Tb.level_le {M : List Mx} {task : Int} {p b : Int} (hp : p ≤ b) : ∀ (k : Nat), (∀ m, m < k → Tb.isOf M task m = true → (M[m]?.getD ⟨0, false, 0⟩).c ≤ b) → Tb.level M (Tb.of M task k) p ≤ b
  | 0, _ => hp
  | k + 1, h => by
    rw [Tb.of_succ]
    have := Tb.level_le hp k fun m hm => h m (by omega)
    split
    · rename_i ho
      rw [Tb.level_snoc]
      have := h k (by omega) ho
      omega
    · rw [List.append_nil]; exact this
/-- The document's level. -/
theorem Kn.HM.level {k : Nat} {K : List Kt} {M : List Mx} (h : Kn.HM K M) (hI : Kn.Inv k K) {i : Nat} (hi : i < K.length) : Kn.level K M i = if K[i].within = true then Rf.ceil (K.map (·.t)) K[i].t.lk else K[i].t.pr := by
  cases hw : K[i].within with
  | false => rw [if_neg (by decide)]; exact h.level_no hi hw
  | true =>
    rw [if_pos rfl]
    have hl0 : 0 ≤ K[i].t.lk := by unfold Kt.within at hw; simp at hw; exact hw.1
    have h16 := ((hI _ (List.getElem_mem hi)).t.2.2 hl0).1
    obtain ⟨m, hm⟩ : ∃ m : Nat, K[i].t.lk = (m : Int) := ⟨K[i].t.lk.toNat, by omega⟩
    have hmM : m < M.length := by have := h.len; omega
    rw [hm, ← h.ceil hmM]
    have h1 := h.level_ge hi hmM hm hw
    have h2 : Kn.level K M i ≤ M[m].c := by
      rw [Kn.level_in hi]
      refine Tb.level_le (h.ceil_ge hi hmM hm) _ fun m' hm' ho => ?_
      have := (h.isOf hi hm' ho).1
      have e : m' = m := by omega
      subst e
      rw [List.getElem?_eq_getElem hm']
      exact Int.le_refl _
    omega
/-- Tasks that may run, of one level, and that hold, both or neither, are one. -/
theorem Kn.HM.one {k : Nat} {K : List Kt} {M : List Mx} (h : Kn.HM K M) (hI : Kn.Inv k K) {i j : Nat} (hi : i < K.length) (hj : j < K.length) (hl : Kn.level K M i = Kn.level K M j) (hh : K[i].within = K[j].within) : i = j := by
  have key : ∀ a b (ha : a < K.length) (hb : b < K.length), K[a].t.pr = K[b].t.pr → a = b := fun a b ha hb he => by
    have e1 : (K.map (·.t.pr))[a]'(by simpa using ha) = (K.map (·.t.pr))[b]'(by simpa using hb) := by simpa using he
    have hp := List.pairwise_iff_getElem.1 h.pr
    rcases Nat.lt_trichotomy a b with hab | hab | hab
    · exact absurd e1 (hp a b (by simpa using ha) (by simpa using hb) hab)
    · exact hab
    · exact absurd e1.symm (hp b a (by simpa using hb) (by simpa using ha) hab)
  cases hw : K[i].within with
  | false =>
    rw [h.level_no hi hw, h.level_no hj (by rw [← hh]; exact hw)] at hl
    exact key i j hi hj hl
  | true =>
    have hwj : K[j].within = true := by rw [← hh]; exact hw
    have hl0 : ∀ a (ha : a < K.length), K[a].within = true → ∃ m : Nat, ∃ hm : m < M.length, K[a].t.lk = (m : Int) ∧ Kn.level K M a = M[m].c := fun a ha hwa => by
      have hl0 : 0 ≤ K[a].t.lk := by unfold Kt.within at hwa; simp at hwa; exact hwa.1
      have h16 := ((hI _ (List.getElem_mem ha)).t.2.2 hl0).1
      have hmM : K[a].t.lk.toNat < M.length := by have := h.len; omega
      have he : K[a].t.lk = ((K[a].t.lk.toNat : Nat) : Int) := by omega
      refine ⟨K[a].t.lk.toNat, hmM, he, ?_⟩
      rw [h.level hI ha, if_pos hwa, h.ceil hmM, ← he]
    obtain ⟨m1, hm1, e1, c1⟩ := hl0 i hi hw
    obtain ⟨m2, hm2, e2, c2⟩ := hl0 j hj hwj
    have g1 := h.ceil_ge hi hm1 e1
    have g2 := h.ceil_ge hj hm2 e2
    have p1 := (hI _ (List.getElem_mem hi)).t.1.1
    have p2 := (hI _ (List.getElem_mem hj)).t.1.1
    rw [c1, c2] at hl
    rcases h.ceil_is hm1 with z1 | ⟨a, ha, la, pa⟩
    · exact key i j hi hj (by omega)
    · rcases h.ceil_is hm2 with z2 | ⟨b, hb, lb, pb⟩
      · exact key i j hi hj (by omega)
      · have hab := key a b ha hb (by omega)
        subst hab
        have hmm : m1 = m2 := by omega
        subst hmm
        have q1 := h.holder hi hm1 e1
        have q2 := h.holder hj hm1 e2
        rw [hw] at q1
        rw [hwj] at q2
        simp at q1 q2
        omega
/-- The document's pick, over the first k tasks. -/
def Rf.pk (able : Nat → Bool) (lv : Nat → Int) (ho : Nat → Bool) : Nat → Nat × Bool
  | 0 => (0, false)
  | k + 1 => if able k = false then Rf.pk able lv ho k else
      if (Rf.pk able lv ho k).2 = false ∨ lv (Rf.pk able lv ho k).1 < lv k ∨ (lv k = lv (Rf.pk able lv ho k).1 ∧ ho k = true ∧ ho (Rf.pk able lv ho k).1 = false) then (k, true) else Rf.pk able lv ho k
theorem Rf.pk_spec (able : Nat → Bool) (lv : Nat → Int) (ho : Nat → Bool) : ∀ k, ((Rf.pk able lv ho k) = (0, false) ∧ ∀ j, j < k → able j = false) ∨
    ((Rf.pk able lv ho k).2 = true ∧ (Rf.pk able lv ho k).1 < k ∧ able (Rf.pk able lv ho k).1 = true ∧ ∀ j, j < k → able j = true → lv j ≤ lv (Rf.pk able lv ho k).1 ∧ (lv j = lv (Rf.pk able lv ho k).1 → ho j = true → ho (Rf.pk able lv ho k).1 = true))
  | 0 => .inl ⟨rfl, fun j hj => by omega⟩
  | k + 1 => by
    have ih := Rf.pk_spec able lv ho k
    unfold Rf.pk
    cases hk : able k with
    | false =>
      rw [if_pos rfl]
      rcases ih with ⟨h1, h2⟩ | ⟨h1, h2, h3, h4⟩
      · refine .inl ⟨h1, fun j hj => ?_⟩
        by_cases hjk : j = k
        · rw [hjk]; exact hk
        · exact h2 j (by omega)
      · refine .inr ⟨h1, by omega, h3, fun j hj ha => ?_⟩
        by_cases hjk : j = k
        · rw [hjk, hk] at ha; cases ha
        · exact h4 j (by omega) ha
    | true =>
      rw [if_neg (by decide)]
      generalize Rf.pk able lv ho k = p at ih ⊢
      obtain ⟨b, is⟩ := p
      simp only [] at ih ⊢
      right
      rcases ih with ⟨h1, h2⟩ | ⟨h1, h2, h3, h4⟩
      · simp only [Prod.mk.injEq] at h1
        obtain ⟨rfl, rfl⟩ := h1
        rw [if_pos (.inl rfl)]
        refine ⟨rfl, by simp, hk, fun j hj ha => ?_⟩
        by_cases hjk : j = k
        · subst hjk; exact ⟨Int.le_refl _, fun _ h => h⟩
        · rw [h2 j (by omega)] at ha; cases ha
      · subst h1
        split
        · rename_i hc
          refine ⟨rfl, by simp, hk, fun j hj ha => ?_⟩
          by_cases hjk : j = k
          · subst hjk; exact ⟨Int.le_refl _, fun _ h => h⟩
          · obtain ⟨q1, q2⟩ := h4 j (by omega) ha
            rcases hc with hc | hc | ⟨c1, c2, c3⟩
            · cases hc
            · exact ⟨by simp only []; omega, fun he => by simp only [] at he; omega⟩
            · exact ⟨by simp only []; omega, fun _ _ => c2⟩
        · rename_i hc
          refine ⟨rfl, by simp only []; omega, h3, fun j hj ha => ?_⟩
          by_cases hjk : j = k
          · subst hjk
            refine ⟨?_, fun he hh => ?_⟩
            · have : ¬ lv b < lv j := fun hh => hc (.inr (.inl hh))
              simp only []; omega
            · cases hb : ho b with
              | true => rfl
              | false => exact absurd (.inr (.inr ⟨he, hh, hb⟩)) hc
          · exact h4 j (by omega) ha
theorem Kn.HM.pick {k : Nat} {K : List Kt} {M : List Mx} (h : Kn.HM K M) (hI : Kn.Inv k K) : (Kn.best K M = -1 ∧ Rf.pk (Kn.ableK K) (fun i => Kn.level K M i) (fun i => Kn.holds K M i) K.length = (0, false)) ∨
    (∃ i : Nat, Kn.best K M = i ∧ Rf.pk (Kn.ableK K) (fun i => Kn.level K M i) (fun i => Kn.holds K M i) K.length = (i, true)) := by
  rcases Rf.pk_spec (Kn.ableK K) (fun i => Kn.level K M i) (fun i => Kn.holds K M i) K.length with ⟨h1, h2⟩ | ⟨h1, h2, h3, h4⟩
  · rcases Kn.best_cases (M := M) hI with ⟨hb, _⟩ | ⟨i, hi, hb, ha, _⟩
    · exact .inl ⟨hb, h1⟩
    · rw [h2 i hi] at ha; cases ha
  · rcases Kn.best_cases (M := M) hI with ⟨_, hno⟩ | ⟨i, hi, hb, ha, hmax, htie⟩
    · rw [hno] at h3; cases h3
    · right
      refine ⟨i, hb, ?_⟩
      obtain ⟨p, hp⟩ : ∃ p, Rf.pk (Kn.ableK K) (fun i => Kn.level K M i) (fun i => Kn.holds K M i) K.length = p := ⟨_, rfl⟩
      rw [hp] at h1 h2 h3 h4 ⊢
      obtain ⟨b, is⟩ := p
      simp only [] at h1 h2 h3 h4
      subst h1
      obtain ⟨q1, q2⟩ := h4 i hi ha
      have q3 := hmax b h3
      have he : Kn.level K M i = Kn.level K M b := by omega
      have : i = b := by
        refine h.one hI hi h2 he ?_
        rw [← h.hold i hi, ← h.hold b h2]
        cases hhi : Kn.holds K M (i : Int) with
        | true => exact (q2 he hhi).symm
        | false =>
          cases hhb : Kn.holds K M (b : Int) with
          | false => rfl
          | true => have := htie b h3 he.symm hhb; rw [hhi] at this; cases this
      rw [this]
theorem Kn.HM.start {T : List Tk} (h : Kn.check T = 0) : Kn.HM (Kn.K0 T) (Kn.M0 T) := by
  obtain ⟨-, -, hnd⟩ := Kn.check_ok h
  have hT : (Kn.K0 T).map (·.t) = T := by unfold Kn.K0 kt0; rw [List.map_map]; exact List.map_id' ..
  have hw : ∀ i (hi : i < (Kn.K0 T).length), (Kn.K0 T)[i].within = false := fun i hi => by simp [Kn.K0, kt0, Kt.within]
  have hf : ∀ m (hm : m < (Kn.M0 T).length), (Kn.M0 T)[m].held = false := fun m hm => by simp [Kn.M0]
  refine ⟨by unfold Kn.M0; rw [List.length_map]; exact Kn.ceils_len T, ?_, fun i hi => ?_, fun m hm hh => ?_, fun i hi hh => ?_, ?_⟩
  · rw [hT]; unfold Kn.M0; rw [List.map_map]; exact List.map_id' ..
  · rw [hw i hi, Kn.holds_in hi]
    split
    · rfl
    · obtain ⟨lk, hlk⟩ : ∃ lk, (Kn.K0 T)[i].t.lk = lk := ⟨_, rfl⟩
      rw [hlk]
      by_cases ho : lk < 0 ∨ ((Kn.M0 T).length : Int) ≤ lk
      · rw [Tb.holder_out ho]; simp
      · obtain ⟨m, rfl⟩ : ∃ m : Nat, lk = m := ⟨lk.toNat, by omega⟩
        have hm : m < (Kn.M0 T).length := by omega
        rw [Tb.holder_in hm, hf m hm]; simp
  · rw [hf m hm] at hh; cases hh
  · rw [hw i hi] at hh; cases hh
  · have e : (Kn.K0 T).map (·.t.pr) = T.map (·.pr) := by
      have := congrArg (List.map (·.pr)) hT
      simpa [List.map_map, Function.comp_def] using this
    rw [e]; exact hnd
end Vg
namespace Vg
open Go
theorem Rf.ceil_snoc (l : List Tk) (t : Tk) (m : Int) : Rf.ceil (l ++ [t]) m = if t.lk = m then max (Rf.ceil l m) t.pr else Rf.ceil l m := by
  unfold Rf.ceil; rw [List.foldl_append]; rfl
/-- A slice by its cells, whatever they are. -/
def VR (w : World) (sa : Option Addr) (sc : Nat) (xs : List Value) : Prop :=
  xs.length ≤ sc ∧ sc ≤ 9223372036854775807 ∧ ∀ k, (hk : k < xs.length) → ∃ g off, sa = some ⟨g, off, none⟩ ∧ g < w.heap.size ∧ w.cell? ⟨g, off + k, none⟩ = some xs[k]
theorem VR.grows {w w' : World} {sa : Option Addr} {c : Nat} {xs : List Value} (h : VR w sa c xs) (hg : Grows w w') : VR w' sa c xs :=
  ⟨h.1, h.2.1, fun k hk => by
    obtain ⟨g, off, e, hlt, hc⟩ := h.2.2 k hk
    exact ⟨g, off, e, Nat.lt_of_lt_of_le hlt hg.size, (hg.below.cell (p := ⟨g, off + k, none⟩) hlt).trans hc⟩⟩
/-- A row of jobs (three cells each) by its cells. -/
def JR (w : World) (u : Value) (J : List Jb) : Prop := ∃ a c, u = .slice a J.length c ∧ J.length ≤ c ∧ c ≤ 9223372036854775807 ∧ ∀ k, (hk : k < J.length) → ∃ g off, a = some ⟨g, off, none⟩ ∧ g < w.heap.size ∧ w.cell? ⟨g, off + k * 3, none⟩ = some (.int .i64 J[k].cost) ∧ w.cell? ⟨g, off + k * 3 + 1, none⟩ = some (.int .i64 J[k].at_) ∧ w.cell? ⟨g, off + k * 3 + 2, none⟩ = some (.int .i64 J[k].went)
theorem JR.grows {w w' : World} {u : Value} {J : List Jb} (h : JR w u J) (hg : Grows w w') : JR w' u J := by
  obtain ⟨a, c, rfl, h1, h2, h3⟩ := h
  refine ⟨a, c, rfl, h1, h2, fun k hk => ?_⟩
  obtain ⟨g, off, e, hlt, c0, c1, c2⟩ := h3 k hk
  exact ⟨g, off, e, Nat.lt_of_lt_of_le hlt hg.size, (hg.below.cell (p := ⟨g, off + k * 3, none⟩) hlt).trans c0, (hg.below.cell (p := ⟨g, off + k * 3 + 1, none⟩) hlt).trans c1, (hg.below.cell (p := ⟨g, off + k * 3 + 2, none⟩) hlt).trans c2⟩
/-- The document's kern: what its four slices hold. -/
structure FK (w : World) (v : Value) (K : List Kt) : Prop where
  ex : ∃ ta tc ja jc la lc oa oc us, v = .agg #[.slice ta K.length tc, .slice ja K.length jc, .slice la K.length lc, .slice oa K.length oc] ∧ TK w ta tc (K.map (·.t)) ∧ us.length = K.length ∧ VR w ja jc us ∧
    (∀ i (h : i < us.length) (h' : i < K.length), JR w us[i] K[i].J) ∧ VR w la lc (K.map fun x => .int .i64 x.lost) ∧ VR w oa oc (K.map fun x => .bool x.out)
theorem FK.grows {w w' : World} {v : Value} {K : List Kt} (h : FK w v K) (hg : Grows w w') : FK w' v K := by
  obtain ⟨ta, tc, ja, jc, la, lc, oa, oc, us, h1, h2, h3, h4, h5, h6, h7⟩ := h.ex
  exact ⟨ta, tc, ja, jc, la, lc, oa, oc, us, h1, h2.grows hg, h3, h4.grows hg, fun i hi hi' => (h5 i hi hi').grows hg, h6.grows hg, h7.grows hg⟩
end Vg
namespace Go.Proofs.Ytiinhofmhoplfaa
open Go.ChangeShapes Go.WideShapes Go.ChangeAt Go.RowKit
theorem rf_ceiling {w : World} {T : List Vg.Tk} {sa : Option Addr} {sc n : Nat} (m : Int) (hr : Vg.TK w sa sc T) (hn : T.length = n) :
    Calls Try.prog 122 #[.slice sa n sc, .int .i64 m] w fun e w' => e = .returned (.int .i64 (Vg.Rf.ceil T m)) ∧ Vg.Grows w w' := by
  have hrc : n ≤ sc := by rw [← hn]; exact hr.1
  have hrm : sc ≤ 9223372036854775807 := hr.2.1
  have H_hr := Lib.hid hr; clear hr; have H_hn := Lib.hid hn; clear hn
  go_enter Try.func122, Try.ntmps122
  go_wp2
  go_loopw [5, 10] (fun c i wr => ∃ k : Nat, k ≤ n ∧ i = .int .i64 k ∧ c = .int .i64 (Vg.Rf.ceil (T.take k) m) ∧ Vg.Grows w wr) (fun _ i _ => n - (intOf i).toNat)
  case atStart => exact ⟨0, by omega, rfl, by simp [Vg.Rf.ceil], by (repeat' (first | (with_reducible exact Vg.Grows.refl _) | (with_reducible assumption) | (with_reducible refine Vg.Grows.alloc ?_ _) | (with_reducible refine Vg.Grows.plus ?_ _ _) | (with_reducible refine Vg.Grows.drewN ?_ _) | (with_reducible refine Vg.Grows.drew ?_) | (with_reducible refine Vg.Grows.setCell ?_ ?_ _) | (with_reducible refine Vg.Grows.put ?_ ?_ _) | omega | (simp; omega) | (simp; done)))⟩
  case round =>
    obtain ⟨k, hk, rfl, rfl, hgr⟩ := hrel
    by_cases hlt : k < n
    · have hkT : k < T.length := by rw [H_hn.out]; exact hlt
      obtain ⟨g, off, rfl, hg, hc⟩ := H_hr.out.2.2 k hkT
      have hsn := List.take_succ_eq_append_getElem hkT
      obtain ⟨t, ht⟩ : ∃ t, T[k] = t := ⟨_, rfl⟩
      have hc' : ∀ i, i < 10 → wr.cell? ⟨g, off + k * 10 + i, none⟩ = some (Vg.tkcell t i) := fun i hi => (hgr.below.cell (p := ⟨g, off + k * 10 + i, none⟩) hg).trans (by rw [← ht]; exact hc i hi)
      rw [ht] at hsn
      have hgl : g < wr.heap.size := Nat.lt_of_lt_of_le hg hgr.size
      have c0 := hc' 0 (by decide)
      have c1 := hc' 1 (by decide)
      have c2 := hc' 2 (by decide)
      have c3 := hc' 3 (by decide)
      have c4 := hc' 4 (by decide)
      have c5 := hc' 5 (by decide)
      have c6 := hc' 6 (by decide)
      have c7 := hc' 7 (by decide)
      have c8 := hc' 8 (by decide)
      have c9 := hc' 9 (by decide)
      simp only [Vg.tkcell, Nat.add_zero] at c0 c1 c2 c3 c4 c5 c6 c7 c8 c9
      clear hc hc'
      have hce := Vg.Rf.ceil_snoc (T.take k) t m
      rw [← hsn] at hce
      obtain ⟨q, hq⟩ : ∃ q, Vg.Rf.ceil (T.take k) m = q := ⟨_, rfl⟩
      rw [hq] at hce
      by_cases hl : t.lk = m
      · have hlb : (t.lk == m) = true := by simp [hl]
        rw [if_pos hl] at hce
        by_cases hm : q < t.pr
        · have hmx : max q t.pr = t.pr := by omega
          rw [hmx] at hce
          clear hl hmx
          have H_hsn := Lib.hid hsn; clear hsn; have H_ht := Lib.hid ht; clear ht; have H_hce := Lib.hid hce; clear hce
          simp only [hq]
          have H_hq := Lib.hid hq; clear hq
          go_wp2_with fail
          exact ⟨⟨k + 1, by omega, by go_num, by rw [H_hce.out], by (repeat' (first | (with_reducible exact Vg.Grows.refl _) | (with_reducible assumption) | (with_reducible refine Vg.Grows.alloc ?_ _) | (with_reducible refine Vg.Grows.plus ?_ _ _) | (with_reducible refine Vg.Grows.drewN ?_ _) | (with_reducible refine Vg.Grows.drew ?_) | (with_reducible refine Vg.Grows.setCell ?_ ?_ _) | (with_reducible refine Vg.Grows.put ?_ ?_ _) | omega | (simp; omega) | (simp; done)))⟩, by simp [intOf]; omega⟩
        · have hmx : max q t.pr = q := by omega
          rw [hmx] at hce
          clear hl hmx
          have H_hsn := Lib.hid hsn; clear hsn; have H_ht := Lib.hid ht; clear ht; have H_hce := Lib.hid hce; clear hce
          simp only [hq]
          have H_hq := Lib.hid hq; clear hq
          go_wp2_with fail
          exact ⟨⟨k + 1, by omega, by go_num, by rw [H_hce.out], by (repeat' (first | (with_reducible exact Vg.Grows.refl _) | (with_reducible assumption) | (with_reducible refine Vg.Grows.alloc ?_ _) | (with_reducible refine Vg.Grows.plus ?_ _ _) | (with_reducible refine Vg.Grows.drewN ?_ _) | (with_reducible refine Vg.Grows.drew ?_) | (with_reducible refine Vg.Grows.setCell ?_ ?_ _) | (with_reducible refine Vg.Grows.put ?_ ?_ _) | omega | (simp; omega) | (simp; done)))⟩, by simp [intOf]; omega⟩
      · have hlb : (t.lk == m) = false := by simp [hl]
        rw [if_neg hl] at hce
        clear hl
        have H_hsn := Lib.hid hsn; clear hsn; have H_ht := Lib.hid ht; clear ht; have H_hce := Lib.hid hce; clear hce
        simp only [hq]
        have H_hq := Lib.hid hq; clear hq
        go_wp2_with fail
        exact ⟨⟨k + 1, by omega, by go_num, by rw [H_hce.out], by (repeat' (first | (with_reducible exact Vg.Grows.refl _) | (with_reducible assumption) | (with_reducible refine Vg.Grows.alloc ?_ _) | (with_reducible refine Vg.Grows.plus ?_ _ _) | (with_reducible refine Vg.Grows.drewN ?_ _) | (with_reducible refine Vg.Grows.drew ?_) | (with_reducible refine Vg.Grows.setCell ?_ ?_ _) | (with_reducible refine Vg.Grows.put ?_ ?_ _) | omega | (simp; omega) | (simp; done)))⟩, by simp [intOf]; omega⟩
    · have hkn : k = n := by omega
      subst hkn
      have htk : T.take k = T := List.take_of_length_le (by rw [H_hn.out]; exact Nat.le_refl _)
      rw [htk]
      go_wp2_with fail
      go_ret
      exact ⟨rfl, by (repeat' (first | (with_reducible exact Vg.Grows.refl _) | (with_reducible assumption) | (with_reducible refine Vg.Grows.alloc ?_ _) | (with_reducible refine Vg.Grows.plus ?_ _ _) | (with_reducible refine Vg.Grows.drewN ?_ _) | (with_reducible refine Vg.Grows.drew ?_) | (with_reducible refine Vg.Grows.setCell ?_ ?_ _) | (with_reducible refine Vg.Grows.put ?_ ?_ _) | omega | (simp; omega) | (simp; done)))⟩
theorem rf_has {w : World} {v : Value} {K : List Vg.Kt} (i : Int) (h : Vg.FK w v K) :
    Calls Try.prog 75 #[v, .int .i64 i] w fun e w' => e = .returned (.bool (decide (0 ≤ i ∧ i < K.length))) ∧ Vg.Grows w w' := by
  obtain ⟨ta, tc, ja, jc, la, lc, oa, oc, us, rfl, -⟩ := h.ex
  obtain ⟨n, hn⟩ : ∃ n, K.length = n := ⟨_, rfl⟩
  rw [hn]
  clear h hn
  by_cases h0 : 0 ≤ i
  · by_cases h1 : i < n
    · have e : decide (0 ≤ i ∧ i < (n : Int)) = true := by simp [h0, h1]
      rw [e]
      clear e
      go_enter Try.func75, Try.ntmps75
      go_wp2_with fail
      go_ret
      exact ⟨rfl, by (repeat' (first | (with_reducible exact Vg.Grows.refl _) | (with_reducible assumption) | (with_reducible refine Vg.Grows.alloc ?_ _) | (with_reducible refine Vg.Grows.plus ?_ _ _) | (with_reducible refine Vg.Grows.drewN ?_ _) | (with_reducible refine Vg.Grows.drew ?_) | (with_reducible refine Vg.Grows.setCell ?_ ?_ _) | (with_reducible refine Vg.Grows.put ?_ ?_ _) | omega | (simp; omega) | (simp; done)))⟩
    · have e : decide (0 ≤ i ∧ i < (n : Int)) = false := by simp; omega
      rw [e]
      clear e
      go_enter Try.func75, Try.ntmps75
      go_wp2_with fail
      go_ret
      exact ⟨rfl, by (repeat' (first | (with_reducible exact Vg.Grows.refl _) | (with_reducible assumption) | (with_reducible refine Vg.Grows.alloc ?_ _) | (with_reducible refine Vg.Grows.plus ?_ _ _) | (with_reducible refine Vg.Grows.drewN ?_ _) | (with_reducible refine Vg.Grows.drew ?_) | (with_reducible refine Vg.Grows.setCell ?_ ?_ _) | (with_reducible refine Vg.Grows.put ?_ ?_ _) | omega | (simp; omega) | (simp; done)))⟩
  · have e : decide (0 ≤ i ∧ i < (n : Int)) = false := by simp; omega
    rw [e]
    clear e
    go_enter Try.func75, Try.ntmps75
    go_wp2_with fail
    go_ret
    exact ⟨rfl, by (repeat' (first | (with_reducible exact Vg.Grows.refl _) | (with_reducible assumption) | (with_reducible refine Vg.Grows.alloc ?_ _) | (with_reducible refine Vg.Grows.plus ?_ _ _) | (with_reducible refine Vg.Grows.drewN ?_ _) | (with_reducible refine Vg.Grows.drew ?_) | (with_reducible refine Vg.Grows.setCell ?_ ?_ _) | (with_reducible refine Vg.Grows.put ?_ ?_ _) | omega | (simp; omega) | (simp; done)))⟩
/-- What Holds, Level and their like read of task i. -/
theorem FK.open {w : World} {v : Value} {K : List Vg.Kt} (h : Vg.FK w v K) {i n : Nat} (hn : K.length = n) (hi : i < K.length) : ∃ tg to_ tc jg jo jc la lc oa oc ua uc, v = .agg #[.slice (some ⟨tg, to_, none⟩) n tc, .slice (some ⟨jg, jo, none⟩) n jc, .slice la n lc, .slice oa n oc] ∧
    tg < w.heap.size ∧ jg < w.heap.size ∧ n ≤ tc ∧ tc ≤ 9223372036854775807 ∧ n ≤ jc ∧ jc ≤ 9223372036854775807 ∧ (∀ j, j < 10 → w.cell? ⟨tg, to_ + i * 10 + j, none⟩ = some (Vg.tkcell K[i].t j)) ∧ w.cell? ⟨jg, jo + i, none⟩ = some (.slice ua K[i].J.length uc) ∧ Vg.JR w (.slice ua K[i].J.length uc) K[i].J := by
  subst hn
  obtain ⟨ta, tc, ja, jc, la, lc, oa, oc, us, rfl, h2, h3, h4, h5, h6, h7⟩ := h.ex
  obtain ⟨tg, to_, rfl, htg, hct⟩ := h2.2.2 i (by simpa using hi)
  obtain ⟨jg, jo, rfl, hjg, hcj⟩ := h4.2.2 i (by omega)
  have hj := h5 i (by omega) hi
  obtain ⟨ua, uc, hu, r⟩ := hj
  rw [hu] at hcj
  have l1 := h2.1
  rw [List.length_map] at l1
  have l2 : tc ≤ 9223372036854775807 := h2.2.1
  refine ⟨tg, to_, tc, jg, jo, jc, la, lc, oa, oc, ua, uc, rfl, htg, hjg, l1, l2, by rw [← h3]; exact h4.1, h4.2.1, fun j hj => ?_, hcj, ua, uc, rfl, r⟩
  have := hct j hj
  rw [List.getElem_map] at this
  exact this
theorem rf_holds {w : World} {v : Value} {K : List Vg.Kt} {i : Nat} {is : Bool} (h : Vg.FK w v K) (hi : i < K.length) (his : K[i].within = is) :
    Calls Try.prog 74 #[v, .int .i64 i] w fun e w' => e = .returned (.bool is) ∧ Vg.Grows w w' := by
  obtain ⟨n, hn⟩ : ∃ n, K.length = n := ⟨_, rfl⟩
  obtain ⟨tg, to_, tc, jg, jo, jc, la, lc, oa, oc, ua, uc, rfl, htg, hjg, t1, t2, j1, j2, hct, hcj, hjr⟩ := FK.open h hn hi
  have hin : i < n := by omega
  have hhas : decide ((0 : Int) ≤ (i : Int) ∧ (i : Int) < (K.length : Int)) = true := by simp [hi]
  have c7 := hct 7 (by decide)
  have c8 := hct 8 (by decide)
  have c9 := hct 9 (by decide)
  clear hct
  unfold Vg.Kt.within at his
  obtain ⟨x, hx⟩ : ∃ x, K[i] = x := ⟨_, rfl⟩
  rw [hx] at his c7 c8 c9 hcj hjr
  obtain ⟨⟨kd, pr, pe, og, dl, co, ro, lk, fr, tt⟩, J, lo, ou⟩ := x
  simp only [Vg.tkcell] at c7 c8 c9
  simp only [] at his hcj hjr
  cases J with
  | nil =>
    simp at his
    subst his
    simp only [List.length_nil] at hcj hjr
    have H_h := Lib.hid h; clear h; have H_hn := Lib.hid hn; clear hn; have H_hx := Lib.hid hx; clear hx; have H_hhas := Lib.hid hhas; clear hhas; have H_hjr := Lib.hid hjr; clear hjr
    go_enter Try.func74, Try.ntmps74
    go_wp2_with ((go_at_call 75; (with_reducible refine (rf_has i (H_h.out.grows (by (repeat' (first | (with_reducible exact Vg.Grows.refl _) | (with_reducible assumption) | (with_reducible refine Vg.Grows.alloc ?_ _) | (with_reducible refine Vg.Grows.plus ?_ _ _) | (with_reducible refine Vg.Grows.drewN ?_ _) | (with_reducible refine Vg.Grows.drew ?_) | (with_reducible refine Vg.Grows.setCell ?_ ?_ _) | (with_reducible refine Vg.Grows.put ?_ ?_ _) | omega | (simp; omega) | (simp; done)))))).mono ?_); rintro e w1 ⟨rfl, x1, n1, rfl⟩; rw [H_hhas.out]))
    go_ret
    exact ⟨by first | rfl | exact ret_bool (by simp; omega) | exact ret_bool (by simp [h2]), by (repeat' (first | (with_reducible exact Vg.Grows.refl _) | (with_reducible assumption) | (with_reducible refine Vg.Grows.alloc ?_ _) | (with_reducible refine Vg.Grows.plus ?_ _ _) | (with_reducible refine Vg.Grows.drewN ?_ _) | (with_reducible refine Vg.Grows.drew ?_) | (with_reducible refine Vg.Grows.setCell ?_ ?_ _) | (with_reducible refine Vg.Grows.put ?_ ?_ _) | omega | (simp; omega) | (simp; done)))⟩
  | cons j l =>
    obtain ⟨p, hp⟩ : ∃ p, l.length = p := ⟨_, rfl⟩
    obtain ⟨ua', uc', he, u1, u2, u3⟩ := hjr
    simp only [Value.slice.injEq, and_true, true_and] at he
    obtain ⟨rfl, rfl⟩ := he
    obtain ⟨qg, qo, rfl, hqg, -, -, q2⟩ := u3 0 (by simp)
    simp only [List.length_cons, hp] at hcj u1
    simp only [List.getElem_cons_zero, Nat.zero_mul, Nat.add_zero] at q2
    have hz1 : (((p : Int) + 1) == 0) = false := by simp; omega
    have hz2 : ((((p + 1 : Nat) : Int)) == 0) = false := by simp; omega
    simp only [] at his
    clear u3
    by_cases hl : lk < 0
    · have e1 : decide (0 ≤ lk) = false := by simp; omega
      rw [e1] at his
      simp at his
      subst his
      clear e1
      have H_h := Lib.hid h; clear h; have H_hn := Lib.hid hn; clear hn; have H_hx := Lib.hid hx; clear hx; have H_hhas := Lib.hid hhas; clear hhas; have H_hp := Lib.hid hp; clear hp
      go_enter Try.func74, Try.ntmps74
      go_wp2_with ((go_at_call 75; (with_reducible refine (rf_has i (H_h.out.grows (by (repeat' (first | (with_reducible exact Vg.Grows.refl _) | (with_reducible assumption) | (with_reducible refine Vg.Grows.alloc ?_ _) | (with_reducible refine Vg.Grows.plus ?_ _ _) | (with_reducible refine Vg.Grows.drewN ?_ _) | (with_reducible refine Vg.Grows.drew ?_) | (with_reducible refine Vg.Grows.setCell ?_ ?_ _) | (with_reducible refine Vg.Grows.put ?_ ?_ _) | omega | (simp; omega) | (simp; done)))))).mono ?_); rintro e w1 ⟨rfl, x1, n1, rfl⟩; rw [H_hhas.out]))
      go_ret
      exact ⟨by first | rfl | exact ret_bool (by simp; omega) | exact ret_bool (by simp [h2]), by (repeat' (first | (with_reducible exact Vg.Grows.refl _) | (with_reducible assumption) | (with_reducible refine Vg.Grows.alloc ?_ _) | (with_reducible refine Vg.Grows.plus ?_ _ _) | (with_reducible refine Vg.Grows.drewN ?_ _) | (with_reducible refine Vg.Grows.drew ?_) | (with_reducible refine Vg.Grows.setCell ?_ ?_ _) | (with_reducible refine Vg.Grows.put ?_ ?_ _) | omega | (simp; omega) | (simp; done)))⟩
    · have e1 : decide (0 ≤ lk) = true := by simp; omega
      rw [e1] at his
      clear e1
      by_cases h1 : fr < j.went
      · by_cases h2 : j.went < tt
        · simp [h1, h2] at his
          subst his
          have H_h := Lib.hid h; clear h; have H_hn := Lib.hid hn; clear hn; have H_hx := Lib.hid hx; clear hx; have H_hhas := Lib.hid hhas; clear hhas; have H_hp := Lib.hid hp; clear hp
          go_enter Try.func74, Try.ntmps74
          go_wp2_with ((go_at_call 75; (with_reducible refine (rf_has i (H_h.out.grows (by (repeat' (first | (with_reducible exact Vg.Grows.refl _) | (with_reducible assumption) | (with_reducible refine Vg.Grows.alloc ?_ _) | (with_reducible refine Vg.Grows.plus ?_ _ _) | (with_reducible refine Vg.Grows.drewN ?_ _) | (with_reducible refine Vg.Grows.drew ?_) | (with_reducible refine Vg.Grows.setCell ?_ ?_ _) | (with_reducible refine Vg.Grows.put ?_ ?_ _) | omega | (simp; omega) | (simp; done)))))).mono ?_); rintro e w1 ⟨rfl, x1, n1, rfl⟩; rw [H_hhas.out]))
          go_ret
          exact ⟨by first | rfl | exact ret_bool (by simp; omega) | exact ret_bool (by simp [h2]), by (repeat' (first | (with_reducible exact Vg.Grows.refl _) | (with_reducible assumption) | (with_reducible refine Vg.Grows.alloc ?_ _) | (with_reducible refine Vg.Grows.plus ?_ _ _) | (with_reducible refine Vg.Grows.drewN ?_ _) | (with_reducible refine Vg.Grows.drew ?_) | (with_reducible refine Vg.Grows.setCell ?_ ?_ _) | (with_reducible refine Vg.Grows.put ?_ ?_ _) | omega | (simp; omega) | (simp; done)))⟩
        · simp [h2] at his
          subst his
          have H_h := Lib.hid h; clear h; have H_hn := Lib.hid hn; clear hn; have H_hx := Lib.hid hx; clear hx; have H_hhas := Lib.hid hhas; clear hhas; have H_hp := Lib.hid hp; clear hp
          go_enter Try.func74, Try.ntmps74
          go_wp2_with ((go_at_call 75; (with_reducible refine (rf_has i (H_h.out.grows (by (repeat' (first | (with_reducible exact Vg.Grows.refl _) | (with_reducible assumption) | (with_reducible refine Vg.Grows.alloc ?_ _) | (with_reducible refine Vg.Grows.plus ?_ _ _) | (with_reducible refine Vg.Grows.drewN ?_ _) | (with_reducible refine Vg.Grows.drew ?_) | (with_reducible refine Vg.Grows.setCell ?_ ?_ _) | (with_reducible refine Vg.Grows.put ?_ ?_ _) | omega | (simp; omega) | (simp; done)))))).mono ?_); rintro e w1 ⟨rfl, x1, n1, rfl⟩; rw [H_hhas.out]))
          go_ret
          exact ⟨by first | rfl | exact ret_bool (by simp; omega) | exact ret_bool (by simp [h2]), by (repeat' (first | (with_reducible exact Vg.Grows.refl _) | (with_reducible assumption) | (with_reducible refine Vg.Grows.alloc ?_ _) | (with_reducible refine Vg.Grows.plus ?_ _ _) | (with_reducible refine Vg.Grows.drewN ?_ _) | (with_reducible refine Vg.Grows.drew ?_) | (with_reducible refine Vg.Grows.setCell ?_ ?_ _) | (with_reducible refine Vg.Grows.put ?_ ?_ _) | omega | (simp; omega) | (simp; done)))⟩
      · simp [h1] at his
        subst his
        have H_h := Lib.hid h; clear h; have H_hn := Lib.hid hn; clear hn; have H_hx := Lib.hid hx; clear hx; have H_hhas := Lib.hid hhas; clear hhas; have H_hp := Lib.hid hp; clear hp
        go_enter Try.func74, Try.ntmps74
        go_wp2_with ((go_at_call 75; (with_reducible refine (rf_has i (H_h.out.grows (by (repeat' (first | (with_reducible exact Vg.Grows.refl _) | (with_reducible assumption) | (with_reducible refine Vg.Grows.alloc ?_ _) | (with_reducible refine Vg.Grows.plus ?_ _ _) | (with_reducible refine Vg.Grows.drewN ?_ _) | (with_reducible refine Vg.Grows.drew ?_) | (with_reducible refine Vg.Grows.setCell ?_ ?_ _) | (with_reducible refine Vg.Grows.put ?_ ?_ _) | omega | (simp; omega) | (simp; done)))))).mono ?_); rintro e w1 ⟨rfl, x1, n1, rfl⟩; rw [H_hhas.out]))
        go_ret
        exact ⟨by first | rfl | exact ret_bool (by simp; omega) | exact ret_bool (by simp [h2]), by (repeat' (first | (with_reducible exact Vg.Grows.refl _) | (with_reducible assumption) | (with_reducible refine Vg.Grows.alloc ?_ _) | (with_reducible refine Vg.Grows.plus ?_ _ _) | (with_reducible refine Vg.Grows.drewN ?_ _) | (with_reducible refine Vg.Grows.drew ?_) | (with_reducible refine Vg.Grows.setCell ?_ ?_ _) | (with_reducible refine Vg.Grows.put ?_ ?_ _) | omega | (simp; omega) | (simp; done)))⟩
theorem rf_level {w : World} {v : Value} {K : List Vg.Kt} {i : Nat} {lv : Int} (h : Vg.FK w v K) (hi : i < K.length) (hlv : (if K[i].within = true then Vg.Rf.ceil (K.map (·.t)) K[i].t.lk else K[i].t.pr) = lv) :
    Calls Try.prog 72 #[v, .int .i64 i] w fun e w' => e = .returned (.int .i64 lv) ∧ Vg.Grows w w' := by
  obtain ⟨n, hn⟩ : ∃ n, K.length = n := ⟨_, rfl⟩
  have hT : ∃ tg to_ tc ja jc la lc oa oc, v = .agg #[.slice (some ⟨tg, to_, none⟩) n tc, .slice ja n jc, .slice la n lc, .slice oa n oc] ∧ tg < w.heap.size ∧ n ≤ tc ∧ tc ≤ 9223372036854775807 ∧ Vg.TK w (some ⟨tg, to_, none⟩) tc (K.map (·.t)) ∧ ∀ j, j < 10 → w.cell? ⟨tg, to_ + i * 10 + j, none⟩ = some (Vg.tkcell K[i].t j) := by
    obtain ⟨ta, tc, ja, jc, la, lc, oa, oc, us, rfl, h2, -⟩ := h.ex
    obtain ⟨tg, to_, rfl, htg, hct⟩ := h2.2.2 i (by simpa using hi)
    rw [hn]
    have l1 := h2.1
    rw [List.length_map, hn] at l1
    exact ⟨tg, to_, tc, ja, jc, la, lc, oa, oc, rfl, htg, l1, h2.2.1, h2, fun j hj => by have := hct j hj; rw [List.getElem_map] at this; exact this⟩
  obtain ⟨tg, to_, tc, ja, jc, la, lc, oa, oc, rfl, htg, t1, t2, htk, hct⟩ := hT
  have hin : i < n := by omega
  have hhas : decide ((0 : Int) ≤ (i : Int) ∧ (i : Int) < (K.length : Int)) = true := by simp [hi]
  have c1 := hct 1 (by decide)
  have c7 := hct 7 (by decide)
  simp only [Vg.tkcell] at c1 c7
  have hml : (K.map (·.t)).length = n := by rw [List.length_map]; exact hn
  clear hct
  obtain ⟨wi, hwi⟩ : ∃ b, K[i].within = b := ⟨_, rfl⟩
  rw [hwi] at hlv
  obtain ⟨lk, hlk⟩ : ∃ lk, K[i].t.lk = lk := ⟨_, rfl⟩
  obtain ⟨pr, hpr⟩ : ∃ pr, K[i].t.pr = pr := ⟨_, rfl⟩
  rw [hlk] at c7 hlv
  rw [hpr] at c1 hlv
  cases wi with
  | true =>
    rw [if_pos rfl] at hlv
    have H_h := Lib.hid h; clear h; have H_hn := Lib.hid hn; clear hn; have H_hhas := Lib.hid hhas; clear hhas; have H_hml := Lib.hid hml; clear hml; have H_htk := Lib.hid htk; clear htk; have H_hwi := Lib.hid hwi; clear hwi; have H_hlk := Lib.hid hlk; clear hlk; have H_hpr := Lib.hid hpr; clear hpr; have H_hlv := Lib.hid hlv; clear hlv
    go_enter Try.func72, Try.ntmps72
    go_upto_region 4 with (first | (go_at_call 75; (with_reducible refine (rf_has i (H_h.out.grows (by (repeat' (first | (with_reducible exact Vg.Grows.refl _) | (with_reducible assumption) | (with_reducible refine Vg.Grows.alloc ?_ _) | (with_reducible refine Vg.Grows.plus ?_ _ _) | (with_reducible refine Vg.Grows.drewN ?_ _) | (with_reducible refine Vg.Grows.drew ?_) | (with_reducible refine Vg.Grows.setCell ?_ ?_ _) | (with_reducible refine Vg.Grows.put ?_ ?_ _) | omega | (simp; omega) | (simp; done)))))).mono ?_); rintro e w1 ⟨rfl, x1, n1, rfl⟩; rw [H_hhas.out]) | (go_at_call 74; (with_reducible refine (rf_holds (H_h.out.grows (by (repeat' (first | (with_reducible exact Vg.Grows.refl _) | (with_reducible assumption) | (with_reducible refine Vg.Grows.alloc ?_ _) | (with_reducible refine Vg.Grows.plus ?_ _ _) | (with_reducible refine Vg.Grows.drewN ?_ _) | (with_reducible refine Vg.Grows.drew ?_) | (with_reducible refine Vg.Grows.setCell ?_ ?_ _) | (with_reducible refine Vg.Grows.put ?_ ?_ _) | omega | (simp; omega) | (simp; done))))) hi H_hwi.out).mono ?_); rintro e w2 ⟨rfl, x2, n2, rfl⟩))
    go_region_held3 (fun w' => w.heap.size < w'.heap.size ∧ w'.cell? ⟨w.heap.size, 0, none⟩ = some (.slice (some ⟨tg, to_, none⟩) n tc) ∧ w'.cell? ⟨tg, to_ + i * 10 + 7, none⟩ = some (.int .i64 lk))
      ((go_split_ands; (try dsimp only); go_simp))
      (first | (go_at_call 122; (with_reducible refine (rf_ceiling lk (H_htk.out.grows (by (repeat' (first | (with_reducible exact Vg.Grows.refl _) | (with_reducible assumption) | (with_reducible refine Vg.Grows.alloc ?_ _) | (with_reducible refine Vg.Grows.plus ?_ _ _) | (with_reducible refine Vg.Grows.drewN ?_ _) | (with_reducible refine Vg.Grows.drew ?_) | (with_reducible refine Vg.Grows.setCell ?_ ?_ _) | (with_reducible refine Vg.Grows.put ?_ ?_ _) | omega | (simp; omega) | (simp; done))))) H_hml.out).mono ?_); rintro e w3 ⟨rfl, x3, n3, rfl⟩; rw [H_hlv.out]))
    all_goals go_wp2_with fail
    all_goals go_ret
    all_goals exact ⟨rfl, by (repeat' (first | (with_reducible exact Vg.Grows.refl _) | (with_reducible assumption) | (with_reducible refine Vg.Grows.alloc ?_ _) | (with_reducible refine Vg.Grows.plus ?_ _ _) | (with_reducible refine Vg.Grows.drewN ?_ _) | (with_reducible refine Vg.Grows.drew ?_) | (with_reducible refine Vg.Grows.setCell ?_ ?_ _) | (with_reducible refine Vg.Grows.put ?_ ?_ _) | omega | (simp; omega) | (simp; done)))⟩
  | false =>
    rw [if_neg (by decide)] at hlv
    subst hlv
    have H_h := Lib.hid h; clear h; have H_hn := Lib.hid hn; clear hn; have H_hhas := Lib.hid hhas; clear hhas; have H_hml := Lib.hid hml; clear hml; have H_htk := Lib.hid htk; clear htk; have H_hwi := Lib.hid hwi; clear hwi; have H_hlk := Lib.hid hlk; clear hlk; have H_hpr := Lib.hid hpr; clear hpr
    go_enter Try.func72, Try.ntmps72
    go_wp2_with (first | (go_at_call 75; (with_reducible refine (rf_has i (H_h.out.grows (by (repeat' (first | (with_reducible exact Vg.Grows.refl _) | (with_reducible assumption) | (with_reducible refine Vg.Grows.alloc ?_ _) | (with_reducible refine Vg.Grows.plus ?_ _ _) | (with_reducible refine Vg.Grows.drewN ?_ _) | (with_reducible refine Vg.Grows.drew ?_) | (with_reducible refine Vg.Grows.setCell ?_ ?_ _) | (with_reducible refine Vg.Grows.put ?_ ?_ _) | omega | (simp; omega) | (simp; done)))))).mono ?_); rintro e w1 ⟨rfl, x1, n1, rfl⟩; rw [H_hhas.out]) | (go_at_call 74; (with_reducible refine (rf_holds (H_h.out.grows (by (repeat' (first | (with_reducible exact Vg.Grows.refl _) | (with_reducible assumption) | (with_reducible refine Vg.Grows.alloc ?_ _) | (with_reducible refine Vg.Grows.plus ?_ _ _) | (with_reducible refine Vg.Grows.drewN ?_ _) | (with_reducible refine Vg.Grows.drew ?_) | (with_reducible refine Vg.Grows.setCell ?_ ?_ _) | (with_reducible refine Vg.Grows.put ?_ ?_ _) | omega | (simp; omega) | (simp; done))))) hi H_hwi.out).mono ?_); rintro e w2 ⟨rfl, x2, n2, rfl⟩))
    go_ret
    exact ⟨rfl, by (repeat' (first | (with_reducible exact Vg.Grows.refl _) | (with_reducible assumption) | (with_reducible refine Vg.Grows.alloc ?_ _) | (with_reducible refine Vg.Grows.plus ?_ _ _) | (with_reducible refine Vg.Grows.drewN ?_ _) | (with_reducible refine Vg.Grows.drew ?_) | (with_reducible refine Vg.Grows.setCell ?_ ?_ _) | (with_reducible refine Vg.Grows.put ?_ ?_ _) | omega | (simp; omega) | (simp; done)))⟩
end Go.Proofs.Ytiinhofmhoplfaa
namespace Vg
open Go
theorem VR.of_reads {S n c : Nat} {w : World} {sa : Option Addr} {xs : List Value} (h : Reads S w (.slice sa n c) n xs) (hl : xs.length = n) : VR w sa c xs := by
  rcases h with ⟨h0, h1, rfl⟩ | ⟨g, off, cap, hsv, _, hg, hc, hm, hx⟩
  · simp only [Value.slice.injEq] at h0
    obtain ⟨rfl, rfl, rfl⟩ := h0
    exact ⟨by simp, by decide, fun k hk => by simp at hk⟩
  · simp only [Value.slice.injEq] at hsv
    obtain ⟨rfl, _, rfl⟩ := hsv
    exact ⟨by omega, hm, fun k hk => ⟨g, off, rfl, hg, hx k hk⟩⟩
theorem jcells_get : ∀ (l : List Jb) (k : Nat) (h : k < l.length), (jcells l)[k * 3]? = some (.int .i64 l[k].cost) ∧ (jcells l)[k * 3 + 1]? = some (.int .i64 l[k].at_) ∧ (jcells l)[k * 3 + 2]? = some (.int .i64 l[k].went)
  | [], k, h => by simp at h
  | x :: l, 0, _ => by simp [jcells]
  | x :: l, k + 1, h => by
    have := jcells_get l k (by simpa using h)
    rw [show (k + 1) * 3 = k * 3 + 1 + 1 + 1 from by omega, show k * 3 + 1 + 1 + 1 + 1 = k * 3 + 1 + 1 + 1 + 1 from rfl, show k * 3 + 1 + 1 + 1 + 2 = k * 3 + 2 + 1 + 1 + 1 from by omega]
    simpa [jcells] using this
theorem JR.of_reads {S : Nat} {w : World} {u : Value} {L : List Jb} (h : Reads S w u L.length (jcells L)) : JR w u L := by
  have hl := jcells_length L
  rcases h with ⟨h0, h1, h2⟩ | ⟨g, off, cap, hsv, _, hg, hc, hm, hx⟩
  · subst h0
    exact ⟨none, 0, by rw [h1], by omega, by decide, fun k hk => by omega⟩
  · refine ⟨_, _, hsv, hc, hm, fun k hk => ⟨g, off, rfl, hg, ?_, ?_, ?_⟩⟩
    all_goals have hj := jcells_get L k hk
    · have := hx (k * 3) (by omega)
      rw [this, ← hj.1, List.getElem?_eq_getElem]
    · have := hx (k * 3 + 1) (by omega)
      rw [Nat.add_assoc, this, ← hj.2.1, List.getElem?_eq_getElem]
    · have := hx (k * 3 + 2) (by omega)
      rw [Nat.add_assoc, this, ← hj.2.2, List.getElem?_eq_getElem]
theorem TK.kept {w w' : World} {sa : Option Addr} {c : Nat} {T : List Tk} {t : Nat → Prop} (h : TK w sa c T) (ht : Touch t w w') (hB : ∀ k, t k → ∀ off, sa ≠ some ⟨k, off, none⟩) : TK w' sa c T :=
  ⟨h.1, h.2.1, fun k hk => by
    obtain ⟨g, off, e, hlt, hc⟩ := h.2.2 k hk
    refine ⟨g, off, e, Nat.lt_of_lt_of_le hlt ht.size, fun j hj => ?_⟩
    rw [← hc j hj]
    exact World.cell?_of_block (w := w) (ht.block g hlt fun hh => hB g hh off e)⟩
theorem VR.kept {w w' : World} {sa : Option Addr} {c n : Nat} {xs : List Value} {S : Nat → Prop} (h : VR w sa c xs) (hS : ∀ g, (Value.slice sa n c).ownBlock = some g → S g) (hk : Kept S w w') : VR w' sa c xs :=
  ⟨h.1, h.2.1, fun k hk' => by
    obtain ⟨g, off, e, hlt, hc⟩ := h.2.2 k hk'
    exact ⟨g, off, e, Nat.lt_of_lt_of_le hlt hk.size, (World.cell?_of_block (w := w) (hk.block g (hS g (by rw [e]; rfl)))).trans hc⟩⟩
theorem TK.keptS {w w' : World} {sa : Option Addr} {c n : Nat} {T : List Tk} {S : Nat → Prop} (h : TK w sa c T) (hS : ∀ g, (Value.slice sa n c).ownBlock = some g → S g) (hk : Kept S w w') : TK w' sa c T :=
  ⟨h.1, h.2.1, fun k hk' => by
    obtain ⟨g, off, e, hlt, hc⟩ := h.2.2 k hk'
    exact ⟨g, off, e, Nat.lt_of_lt_of_le hlt hk.size, fun j hj => (World.cell?_of_block (w := w) (hk.block g (hS g (by rw [e]; rfl)))).trans (hc j hj)⟩⟩
theorem JR.keptS {w w' : World} {u : Value} {J : List Jb} {S : Nat → Prop} (h : JR w u J) (hS : 0 < J.length → ∀ g, u.ownBlock = some g → S g) (hk : Kept S w w') : JR w' u J := by
  obtain ⟨a, c, rfl, h1, h2, h3⟩ := h
  refine ⟨a, c, rfl, h1, h2, fun k hk' => ?_⟩
  obtain ⟨g, off, e, hlt, c0, c1, c2⟩ := h3 k hk'
  have hb := hk.block g (hS (by omega) g (by rw [e]; rfl))
  exact ⟨g, off, e, Nat.lt_of_lt_of_le hlt hk.size, (World.cell?_of_block (w := w) hb).trans c0, (World.cell?_of_block (w := w) hb).trans c1, (World.cell?_of_block (w := w) hb).trans c2⟩
/-- The document's kern, all of it in blocks of S. -/
structure FKS (S : Nat → Prop) (w : World) (v : Value) (K : List Kt) : Prop where
  ex : ∃ ta tc ja jc la lc oa oc us, v = .agg #[.slice ta K.length tc, .slice ja K.length jc, .slice la K.length lc, .slice oa K.length oc] ∧ TK w ta tc (K.map (·.t)) ∧ us.length = K.length ∧ VR w ja jc us ∧
    (∀ i (h : i < us.length) (h' : i < K.length), JR w us[i] K[i].J) ∧ VR w la lc (K.map fun x => .int .i64 x.lost) ∧ VR w oa oc (K.map fun x => .bool x.out) ∧
    (∀ g, (Value.slice ta K.length tc).ownBlock = some g → S g) ∧ (∀ g, (Value.slice ja K.length jc).ownBlock = some g → S g) ∧ (∀ g, (Value.slice la K.length lc).ownBlock = some g → S g) ∧ (∀ g, (Value.slice oa K.length oc).ownBlock = some g → S g) ∧
    (∀ i (h : i < us.length) (h' : i < K.length), 0 < K[i].J.length → ∀ g, us[i].ownBlock = some g → S g)
theorem FKS.fk {S : Nat → Prop} {w : World} {v : Value} {K : List Kt} (h : FKS S w v K) : FK w v K := by
  obtain ⟨ta, tc, ja, jc, la, lc, oa, oc, us, h1, h2, h3, h4, h5, h6, h7, -⟩ := h.ex
  exact ⟨ta, tc, ja, jc, la, lc, oa, oc, us, h1, h2, h3, h4, h5, h6, h7⟩
theorem FKS.mono {S S' : Nat → Prop} {w : World} {v : Value} {K : List Kt} (h : FKS S w v K) (hS : ∀ k, S k → S' k) : FKS S' w v K := by
  obtain ⟨ta, tc, ja, jc, la, lc, oa, oc, us, h1, h2, h3, h4, h5, h6, h7, s1, s2, s3, s4, s5⟩ := h.ex
  exact ⟨ta, tc, ja, jc, la, lc, oa, oc, us, h1, h2, h3, h4, h5, h6, h7, fun g hg => hS g (s1 g hg), fun g hg => hS g (s2 g hg), fun g hg => hS g (s3 g hg), fun g hg => hS g (s4 g hg), fun i hi hi' h0 g hg => hS g (s5 i hi hi' h0 g hg)⟩
theorem FKS.kept {S : Nat → Prop} {w w' : World} {v : Value} {K : List Kt} (h : FKS S w v K) (hk : Kept S w w') : FKS S w' v K := by
  obtain ⟨ta, tc, ja, jc, la, lc, oa, oc, us, h1, h2, h3, h4, h5, h6, h7, s1, s2, s3, s4, s5⟩ := h.ex
  exact ⟨ta, tc, ja, jc, la, lc, oa, oc, us, h1, h2.keptS s1 hk, h3, h4.kept s2 hk, fun i hi hi' => (h5 i hi hi').keptS (s5 i hi hi') hk, h6.kept s3 hk, h7.kept s4 hk, s1, s2, s3, s4, s5⟩
theorem FKS.grows {S : Nat → Prop} {w w' : World} {v : Value} {K : List Kt} (h : FKS S w v K) (hg : Grows w w') : FKS S w' v K := by
  obtain ⟨ta, tc, ja, jc, la, lc, oa, oc, us, h1, h2, h3, h4, h5, h6, h7, s⟩ := h.ex
  exact ⟨ta, tc, ja, jc, la, lc, oa, oc, us, h1, h2.grows hg, h3, h4.grows hg, fun i hi hi' => (h5 i hi hi').grows hg, h6.grows hg, h7.grows hg, s⟩
theorem VR.own_lt {w : World} {sa : Option Addr} {c n : Nat} {xs : List Value} (h : VR w sa c xs) (h0 : 0 < xs.length) : ∀ g, (Value.slice sa n c).ownBlock = some g → g < w.heap.size := by
  obtain ⟨g', off, rfl, hg, -⟩ := h.2.2 0 h0
  intro g hh
  have : g' = g := by simpa [Value.ownBlock] using hh
  omega
/-- Its blocks are old ones. -/
theorem FKS.bound {S : Nat → Prop} {w : World} {v : Value} {K : List Kt} (h : FKS S w v K) (h0 : 0 < K.length) : FKS (fun k => S k ∧ k < w.heap.size) w v K := by
  obtain ⟨ta, tc, ja, jc, la, lc, oa, oc, us, h1, h2, h3, h4, h5, h6, h7, s1, s2, s3, s4, s5⟩ := h.ex
  refine ⟨ta, tc, ja, jc, la, lc, oa, oc, us, h1, h2, h3, h4, h5, h6, h7, fun g hg => ⟨s1 g hg, ?_⟩, fun g hg => ⟨s2 g hg, h4.own_lt (by omega) g hg⟩, fun g hg => ⟨s3 g hg, h6.own_lt (by simpa using h0) g hg⟩, fun g hg => ⟨s4 g hg, h7.own_lt (by simpa using h0) g hg⟩, fun i hi hi' hJ g hg => ⟨s5 i hi hi' hJ g hg, ?_⟩⟩
  · obtain ⟨g', off, e, hlt, -⟩ := h2.2.2 0 (by simpa using h0)
    rw [e] at hg
    have : g' = g := by simpa [Value.ownBlock] using hg
    omega
  · obtain ⟨a, c, e, -, -, h8⟩ := h5 i hi hi'
    obtain ⟨g', off, e2, hlt, -⟩ := h8 0 hJ
    rw [e, e2] at hg
    have : g' = g := by simpa [Value.ownBlock] using hg
    omega
/-- The document's kern of these parts. -/
theorem FKS.of {S : Nat → Prop} {w : World} {ta : Option Addr} {tc n S1 S2 S3 : Nat} {vj vl vo : Value} {us : List Value} {K : List Kt} (hn : K.length = n) (ht : TK w ta tc (K.map (·.t))) (hj : Reads S1 w vj n us) (hul : us.length = n) (hr : ∀ i (h : i < us.length) (h' : i < K.length), JR w us[i] K[i].J)
    (hl : Reads S2 w vl n (K.map fun x => .int .i64 x.lost)) (ho : Reads S3 w vo n (K.map fun x => .bool x.out)) (s1 : ∀ g off, ta = some ⟨g, off, none⟩ → S g) (s2 : ∀ g, vj.ownBlock = some g → S g) (s3 : ∀ g, vl.ownBlock = some g → S g) (s4 : ∀ g, vo.ownBlock = some g → S g)
    (s5 : ∀ i (h : i < us.length) g, us[i].ownBlock = some g → S g) (hn0 : 0 < n) : FKS S w (.agg #[.slice ta n tc, vj, vl, vo]) K := by
  have sh : ∀ {S : Nat} {v : Value} {xs : List Value}, Reads S w v n xs → ∃ a c, v = .slice a n c := fun h => by
    rcases h with ⟨rfl, rfl, _⟩ | ⟨g, off, cap, rfl, _⟩ <;> exact ⟨_, _, rfl⟩
  obtain ⟨ja, jc, rfl⟩ := sh hj
  obtain ⟨la, lc, rfl⟩ := sh hl
  obtain ⟨oa, oc, rfl⟩ := sh ho
  subst hn
  refine ⟨ta, tc, ja, jc, la, lc, oa, oc, us, rfl, ht, hul, VR.of_reads hj hul, hr, VR.of_reads hl (by simp), VR.of_reads ho (by simp), fun g hg => ?_, s2, s3, s4, fun i hi _ _ => s5 i hi⟩
  obtain ⟨g', off, rfl, -⟩ := ht.2.2 0 (by simpa using hn0)
  have : g' = g := by simpa [Value.ownBlock] using hg
  exact s1 g off (by rw [this])
end Vg
namespace Go.Proofs.Ytiinhofmhoplfaa
open Go.ChangeShapes Go.WideShapes Go.ChangeAt Go.RowKit
structure FO (w : World) (B : Nat) (ta : Option Addr) (tc n : Nat) (vj vl vo : Value) (us : List Value) (K : List Vg.Kt) : Prop where
  hn : K.length = n
  tk : Vg.TK w ta tc (K.map (·.t))
  tlo : ∀ g off, ta = some ⟨g, off, none⟩ → g < B
  ul : us.length = n
  qj : Vg.Que w B 120 1 vj n us
  ql : Vg.Que w B 3 1 vl n (K.map fun x => .int .i64 x.lost)
  qo : Vg.Que w B 4 1 vo n (K.map fun x => .bool x.out)
  row : ∀ i (h : i < us.length) (h' : i < K.length), Vg.Que w B 205 3 us[i] K[i].J.length (Vg.jcells K[i].J)
  djl : ∀ k, vj.ownBlock = some k → vl.ownBlock ≠ some k
  djo : ∀ k, vj.ownBlock = some k → vo.ownBlock ≠ some k
  dlo : ∀ k, vl.ownBlock = some k → vo.ownBlock ≠ some k
  dju : ∀ i (h : i < us.length) k, us[i].ownBlock = some k → vj.ownBlock ≠ some k
  dlu : ∀ i (h : i < us.length) k, us[i].ownBlock = some k → vl.ownBlock ≠ some k
  dou : ∀ i (h : i < us.length) k, us[i].ownBlock = some k → vo.ownBlock ≠ some k
  duu : ∀ i j (h : i < us.length) (h' : j < us.length), i ≠ j → ∀ k, us[i].ownBlock = some k → us[j].ownBlock ≠ some k
section
variable {w w' W2 : World} {S T : Nat → Prop} {B n tc i : Nat} {ta : Option Addr} {vj vl vo u2 : Value} {us : List Value} {K : List Vg.Kt} {L2 : List Vg.Jb}
theorem FO.grows (h : FO w B ta tc n vj vl vo us K) (hg : Vg.Grows w w') : FO w' B ta tc n vj vl vo us K :=
  ⟨h.hn, h.tk.grows hg, h.tlo, h.ul, h.qj.grows hg, h.ql.grows hg, h.qo.grows hg, fun i hi hi' => (h.row i hi hi').grows hg, h.djl, h.djo, h.dlo, h.dju, h.dlu, h.dou, h.duu⟩
/-- Another count of what was lost. -/
theorem FO.lost (h : FO w B ta tc n vj vl vo us K) (hi : i < K.length) (x : Int) (ht : Vg.Touch (fun k => vl.ownBlock = some k ∨ T k) w w') (hT : ∀ k, T k → k < B ∧ ∀ off, ta ≠ some ⟨k, off, none⟩) (hS : ∀ k, B ≤ k → S k) (hSt : ∀ g off, ta = some ⟨g, off, none⟩ → S g) (hq : Vg.Que w' B 3 1 vl n ((K.map fun x => .int .i64 x.lost).set i (.int .i64 x))) :
    Vg.FKS S w' (.agg #[.slice ta n tc, vj, vl, vo]) (K.set i ⟨K[i].t, K[i].J, x, K[i].out⟩) := by
  have keep : ∀ {e : TypeId} {s m : Nat} {v : Value} {xs : List Value}, Vg.Que w B e s v m xs → (∀ k, v.ownBlock = some k → vl.ownBlock ≠ some k) → Vg.Que w' B e s v m xs := fun q hd => q.kept fun k hk => ht.block k (q.lt k hk).2 fun hh => by
    rcases hh with hh | hh
    · exact hd k hk hh
    · have := (hT k hh).1; have := (q.lt k hk).1; omega
  refine Vg.FKS.of (S1 := B) (S2 := B) (S3 := B) (by simpa using h.hn) ?_ (keep h.qj h.djl).reads h.ul (fun j hj hj' => Vg.JR.of_reads (S := B) ?_) ?_ ?_ hSt (fun g hg => hS g (h.qj.lt g hg).1) (fun g hg => hS g (h.ql.lt g hg).1) (fun g hg => hS g (h.qo.lt g hg).1) (fun j hj g hg => hS g ((h.row j hj (by have := h.ul; have := h.hn; omega)).lt g hg).1) (by have := h.hn; omega)
  · rw [Vg.map_set_same fun _ => rfl]
    refine h.tk.kept ht fun k hk off e => ?_
    rcases hk with hk | hk
    · have := (h.ql.lt k hk).1; have := h.tlo k off e; omega
    · exact (hT k hk).2 off e
  · have hj2 : j < K.length := by simpa using hj'
    have e : (K.set i ⟨K[i].t, K[i].J, x, K[i].out⟩)[j].J = K[j].J := by
      rw [List.getElem_set]; split
      · rename_i hh; subst hh; rfl
      · rfl
    rw [e]
    exact (keep (h.row j hj hj2) fun k hk => h.dlu j hj k hk).reads
  · rw [List.map_set]; exact hq.reads
  · rw [Vg.map_set_same fun _ => rfl]
    exact (keep h.qo fun k hk hh => h.dlo k hh hk).reads
/-- Suspended, or not. -/
theorem FO.out (h : FO w B ta tc n vj vl vo us K) (hi : i < K.length) (x : Bool) (ht : Vg.Touch (fun k => vo.ownBlock = some k ∨ T k) w w') (hT : ∀ k, T k → k < B ∧ ∀ off, ta ≠ some ⟨k, off, none⟩) (hS : ∀ k, B ≤ k → S k) (hSt : ∀ g off, ta = some ⟨g, off, none⟩ → S g) (hq : Vg.Que w' B 4 1 vo n ((K.map fun x => .bool x.out).set i (.bool x))) :
    Vg.FKS S w' (.agg #[.slice ta n tc, vj, vl, vo]) (K.set i ⟨K[i].t, K[i].J, K[i].lost, x⟩) := by
  have keep : ∀ {e : TypeId} {s m : Nat} {v : Value} {xs : List Value}, Vg.Que w B e s v m xs → (∀ k, v.ownBlock = some k → vo.ownBlock ≠ some k) → Vg.Que w' B e s v m xs := fun q hd => q.kept fun k hk => ht.block k (q.lt k hk).2 fun hh => by
    rcases hh with hh | hh
    · exact hd k hk hh
    · have := (hT k hh).1; have := (q.lt k hk).1; omega
  refine Vg.FKS.of (S1 := B) (S2 := B) (S3 := B) (by simpa using h.hn) ?_ (keep h.qj h.djo).reads h.ul (fun j hj hj' => Vg.JR.of_reads (S := B) ?_) ?_ ?_ hSt (fun g hg => hS g (h.qj.lt g hg).1) (fun g hg => hS g (h.ql.lt g hg).1) (fun g hg => hS g (h.qo.lt g hg).1) (fun j hj g hg => hS g ((h.row j hj (by have := h.ul; have := h.hn; omega)).lt g hg).1) (by have := h.hn; omega)
  · rw [Vg.map_set_same fun _ => rfl]
    refine h.tk.kept ht fun k hk off e => ?_
    rcases hk with hk | hk
    · have := (h.qo.lt k hk).1; have := h.tlo k off e; omega
    · exact (hT k hk).2 off e
  · have hj2 : j < K.length := by simpa using hj'
    have e : (K.set i ⟨K[i].t, K[i].J, K[i].lost, x⟩)[j].J = K[j].J := by
      rw [List.getElem_set]; split
      · rename_i hh; subst hh; rfl
      · rfl
    rw [e]
    exact (keep (h.row j hj hj2) fun k hk => h.dou j hj k hk).reads
  · rw [Vg.map_set_same fun _ => rfl]
    exact (keep h.ql h.dlo).reads
  · rw [List.map_set]; exact hq.reads
/-- A task's row is another one (and its slice's head, where it is another one, was laid). -/
theorem FO.jobs (h : FO w B ta tc n vj vl vo us K) (hi : i < us.length) (hi' : i < K.length) (ht : Vg.Touch (fun k => (us[i].ownBlock = some k ∨ vj.ownBlock = some k) ∨ T k) w w') (hT : ∀ k, T k → k < B ∧ ∀ off, ta ≠ some ⟨k, off, none⟩) (hS : ∀ k, B ≤ k → S k) (hSt : ∀ g off, ta = some ⟨g, off, none⟩ → S g) (hqj : Vg.Que w' B 120 1 vj n (us.set i u2)) (hq2 : Vg.Que w' B 205 3 u2 L2.length (Vg.jcells L2)) :
    Vg.FKS S w' (.agg #[.slice ta n tc, vj, vl, vo]) (K.set i ⟨K[i].t, L2, K[i].lost, K[i].out⟩) := by
  have keep : ∀ {e : TypeId} {s m : Nat} {v : Value} {xs : List Value}, Vg.Que w B e s v m xs → (∀ k, v.ownBlock = some k → us[i].ownBlock ≠ some k ∧ vj.ownBlock ≠ some k) → Vg.Que w' B e s v m xs := fun q hd => q.kept fun k hk => ht.block k (q.lt k hk).2 fun hh => by
    rcases hh with (hh | hh) | hh
    · exact (hd k hk).1 hh
    · exact (hd k hk).2 hh
    · have := (hT k hh).1; have := (q.lt k hk).1; omega
  refine Vg.FKS.of (S1 := B) (S2 := B) (S3 := B) (by simpa using h.hn) ?_ hqj.reads (by simpa using h.ul) (fun j hj hj' => Vg.JR.of_reads (S := B) ?_) ?_ ?_ hSt (fun g hg => hS g (h.qj.lt g hg).1) (fun g hg => hS g (h.ql.lt g hg).1) (fun g hg => hS g (h.qo.lt g hg).1) (fun j hj g hg => ?_) (by have := h.hn; omega)
  · rw [Vg.map_set_same fun _ => rfl]
    refine h.tk.kept ht fun k hk off e => ?_
    have hlo := h.tlo k off e
    rcases hk with (hk | hk) | hk
    · have := ((h.row i hi hi').lt k hk).1; omega
    · have := (h.qj.lt k hk).1; omega
    · exact (hT k hk).2 off e
  · have hj1 : j < us.length := by simpa using hj
    have hj2 : j < K.length := by simpa using hj'
    by_cases hji : j = i
    · subst hji
      rw [List.getElem_set_self, List.getElem_set_self]
      exact hq2.reads
    · rw [List.getElem_set_ne (fun hh => hji hh.symm), List.getElem_set_ne (fun hh => hji hh.symm)]
      exact (keep (h.row j hj1 hj2) fun k hk => ⟨h.duu j i hj1 hi hji k hk, h.dju j hj1 k hk⟩).reads
  · rw [Vg.map_set_same fun _ => rfl]
    exact (keep h.ql fun k hk => ⟨fun hh => h.dlu i hi k hh hk, fun hh => h.djl k hh hk⟩).reads
  · rw [Vg.map_set_same fun _ => rfl]
    exact (keep h.qo fun k hk => ⟨fun hh => h.dou i hi k hh hk, fun hh => h.djo k hh hk⟩).reads
  · have hj1 : j < us.length := by simpa using hj
    by_cases hji : j = i
    · subst hji
      rw [List.getElem_set_self] at hg
      exact hS g (hq2.lt g hg).1
    · rw [List.getElem_set_ne (fun hh => hji hh.symm)] at hg
      exact hS g ((h.row j hj1 (by have := h.ul; have := h.hn; omega)).lt g hg).1
end
end Go.Proofs.Ytiinhofmhoplfaa
namespace Vg
open Go
theorem FK.shape {w : World} {v : Value} {K : List Kt} (h : FK w v K) : ∃ ta tc ja jc la lc oa oc, v = .agg #[.slice ta K.length tc, .slice ja K.length jc, .slice la K.length lc, .slice oa K.length oc] ∧ K.length ≤ tc ∧ tc ≤ 9223372036854775807 ∧ K.length ≤ jc ∧ jc ≤ 9223372036854775807 ∧ TK w ta tc (K.map (·.t)) := by
  obtain ⟨ta, tc, ja, jc, la, lc, oa, oc, us, rfl, h2, h3, h4, h5, h6, h7⟩ := h.ex
  have l1 := h2.1
  rw [List.length_map] at l1
  exact ⟨ta, tc, ja, jc, la, lc, oa, oc, rfl, l1, h2.2.1, by rw [← h3]; exact h4.1, h4.2.1, h2⟩
end Vg
namespace Go.Proofs.Ytiinhofmhoplfaa
open Go.ChangeShapes Go.WideShapes Go.ChangeAt Go.RowKit
section
variable {w w' : World} {v : Value} {K : List Vg.Kt} {M : List Vg.Mx} {k : Nat} {is : Bool} {x : Int}
theorem rf_holds' (i : Int) (h : Vg.FK w v K) (hm : Vg.Kn.HM K M) (hx : Vg.Kn.holds K M i = is) :
    Calls Try.prog 74 #[v, .int .i64 i] w fun e w' => e = .returned (.bool is) ∧ Vg.Grows w w' := by
  by_cases hin : 0 ≤ i ∧ i < (K.length : Int)
  · obtain ⟨i, rfl⟩ : ∃ n : Nat, i = n := ⟨i.toNat, by omega⟩
    have hi : i < K.length := by omega
    exact rf_holds h hi (by rw [← hx, hm.hold i hi])
  · rw [Vg.Kn.holds_out (by omega)] at hx
    subst hx
    have hd : decide (0 ≤ i ∧ i < (K.length : Int)) = false := decide_eq_false hin
    obtain ⟨ta, tc, ja, jc, la, lc, oa, oc, rfl, -⟩ := h.shape
    have H_h := Lib.hid h; clear h; have H_hm := Lib.hid hm; clear hm; have H_hd := Lib.hid hd; clear hd
    clear hin
    go_enter Try.func74, Try.ntmps74
    go_wp2_with ((go_at_call 75; (with_reducible refine (rf_has i (H_h.out.grows (by (repeat' (first | (with_reducible exact Vg.Grows.refl _) | (with_reducible assumption) | (with_reducible refine Vg.Grows.alloc ?_ _) | (with_reducible refine Vg.Grows.plus ?_ _ _) | (with_reducible refine Vg.Grows.drewN ?_ _) | (with_reducible refine Vg.Grows.drew ?_) | (with_reducible refine Vg.Grows.setCell ?_ ?_ _) | (with_reducible refine Vg.Grows.put ?_ ?_ _) | omega | (simp; omega) | (simp; done)))))).mono ?_); rintro e w1 ⟨rfl, x1, n1, rfl⟩; rw [H_hd.out]))
    go_ret
    exact ⟨rfl, by (repeat' (first | (with_reducible exact Vg.Grows.refl _) | (with_reducible assumption) | (with_reducible refine Vg.Grows.alloc ?_ _) | (with_reducible refine Vg.Grows.plus ?_ _ _) | (with_reducible refine Vg.Grows.drewN ?_ _) | (with_reducible refine Vg.Grows.drew ?_) | (with_reducible refine Vg.Grows.setCell ?_ ?_ _) | (with_reducible refine Vg.Grows.put ?_ ?_ _) | omega | (simp; omega) | (simp; done)))⟩
theorem rf_level' (i : Int) (h : Vg.FK w v K) (hm : Vg.Kn.HM K M) (hI : Vg.Kn.Inv k K) (hx : Vg.Kn.level K M i = x) :
    Calls Try.prog 72 #[v, .int .i64 i] w fun e w' => e = .returned (.int .i64 x) ∧ Vg.Grows w w' := by
  by_cases hin : 0 ≤ i ∧ i < (K.length : Int)
  · obtain ⟨i, rfl⟩ : ∃ n : Nat, i = n := ⟨i.toNat, by omega⟩
    have hi : i < K.length := by omega
    exact rf_level h hi (by rw [← hx, hm.level hI hi])
  · rw [Vg.Kn.level_out (by omega)] at hx
    subst hx
    have hd : decide (0 ≤ i ∧ i < (K.length : Int)) = false := decide_eq_false hin
    obtain ⟨ta, tc, ja, jc, la, lc, oa, oc, rfl, -⟩ := h.shape
    have H_h := Lib.hid h; clear h; have H_hm := Lib.hid hm; clear hm; have H_hd := Lib.hid hd; clear hd; have H_hI := Lib.hid hI; clear hI
    clear hin
    go_enter Try.func72, Try.ntmps72
    go_wp2_with ((go_at_call 75; (with_reducible refine (rf_has i (H_h.out.grows (by (repeat' (first | (with_reducible exact Vg.Grows.refl _) | (with_reducible assumption) | (with_reducible refine Vg.Grows.alloc ?_ _) | (with_reducible refine Vg.Grows.plus ?_ _ _) | (with_reducible refine Vg.Grows.drewN ?_ _) | (with_reducible refine Vg.Grows.drew ?_) | (with_reducible refine Vg.Grows.setCell ?_ ?_ _) | (with_reducible refine Vg.Grows.put ?_ ?_ _) | omega | (simp; omega) | (simp; done)))))).mono ?_); rintro e w1 ⟨rfl, x1, n1, rfl⟩; rw [H_hd.out]))
    go_ret
    exact ⟨rfl, by (repeat' (first | (with_reducible exact Vg.Grows.refl _) | (with_reducible assumption) | (with_reducible refine Vg.Grows.alloc ?_ _) | (with_reducible refine Vg.Grows.plus ?_ _ _) | (with_reducible refine Vg.Grows.drewN ?_ _) | (with_reducible refine Vg.Grows.drew ?_) | (with_reducible refine Vg.Grows.setCell ?_ ?_ _) | (with_reducible refine Vg.Grows.put ?_ ?_ _) | omega | (simp; omega) | (simp; done)))⟩
end
end Go.Proofs.Ytiinhofmhoplfaa
namespace Vg
open Go
section
variable {able : Nat → Bool} {lv : Nat → Int} {ho : Nat → Bool} {k b : Nat} {bi : Bool}
theorem Rf.pk_skip (h : able k = false) (hp : Rf.pk able lv ho k = (b, bi)) : Rf.pk able lv ho (k + 1) = (b, bi) := by unfold Rf.pk; rw [if_pos h, hp]
theorem Rf.pk_take (h : able k = true) (hp : Rf.pk able lv ho k = (b, bi)) (hc : bi = false ∨ lv b < lv k ∨ (lv k = lv b ∧ ho k = true ∧ ho b = false)) : Rf.pk able lv ho (k + 1) = (k, true) := by
  unfold Rf.pk; rw [if_neg (by rw [h]; decide), hp, if_pos hc]
theorem Rf.pk_keep (h : able k = true) (hp : Rf.pk able lv ho k = (b, bi)) (hc : ¬ (bi = false ∨ lv b < lv k ∨ (lv k = lv b ∧ ho k = true ∧ ho b = false))) : Rf.pk able lv ho (k + 1) = (b, bi) := by
  unfold Rf.pk; rw [if_neg (by rw [h]; decide), hp, if_neg hc]
end
section
variable {w : World} {ta ja la oa : Option Addr} {tc jc lc oc n i : Nat} {K : List Kt}
theorem FK.parts (h : FK w (.agg #[.slice ta n tc, .slice ja n jc, .slice la n lc, .slice oa n oc]) K) : ∃ us, K.length = n ∧ TK w ta tc (K.map (·.t)) ∧ us.length = n ∧ VR w ja jc us ∧ (∀ i (h : i < us.length) (h' : i < K.length), JR w us[i] K[i].J) ∧ VR w la lc (K.map fun x => .int .i64 x.lost) ∧ VR w oa oc (K.map fun x => .bool x.out) := by
  obtain ⟨ta', tc', ja', jc', la', lc', oa', oc', us, he, h2, h3, h4, h5, h6, h7⟩ := h.ex
  simp only [Value.agg.injEq, Array.mk.injEq, List.cons.injEq, Value.slice.injEq, and_true] at he
  obtain ⟨⟨rfl, hn, rfl⟩, ⟨rfl, -, rfl⟩, ⟨rfl, -, rfl⟩, rfl, -, rfl⟩ := he
  exact ⟨us, hn.symm, h2, h3.trans hn.symm, h4, h5, h6, h7⟩
theorem FK.atJ (h : FK w (.agg #[.slice ta n tc, .slice ja n jc, .slice la n lc, .slice oa n oc]) K) (hi : i < K.length) : ∃ jg jo u c, ja = some ⟨jg, jo, none⟩ ∧ jg < w.heap.size ∧ w.cell? ⟨jg, jo + i, none⟩ = some (.slice u K[i].J.length c) ∧ JR w (.slice u K[i].J.length c) K[i].J := by
  obtain ⟨us, h1, h2, h3, h4, h5, h6, h7⟩ := h.parts
  obtain ⟨jg, jo, rfl, hjg, hcj⟩ := h4.2.2 i (by omega)
  obtain ⟨ua, uc, hu, r⟩ := h5 i (by omega) hi
  rw [hu] at hcj
  exact ⟨jg, jo, ua, uc, rfl, hjg, hcj, ua, uc, rfl, r⟩
theorem FK.atO (h : FK w (.agg #[.slice ta n tc, .slice ja n jc, .slice la n lc, .slice oa n oc]) K) (hi : i < K.length) : ∃ g o, oa = some ⟨g, o, none⟩ ∧ g < w.heap.size ∧ n ≤ oc ∧ oc ≤ 9223372036854775807 ∧ w.cell? ⟨g, o + i, none⟩ = some (.bool K[i].out) := by
  obtain ⟨us, h1, h2, h3, h4, h5, h6, h7⟩ := h.parts
  obtain ⟨g, o, rfl, hg, hc⟩ := h7.2.2 i (by simpa using hi)
  rw [List.getElem_map] at hc
  have l1 := h7.1
  rw [List.length_map, h1] at l1
  exact ⟨g, o, rfl, hg, l1, h7.2.1, hc⟩
theorem FK.atL (h : FK w (.agg #[.slice ta n tc, .slice ja n jc, .slice la n lc, .slice oa n oc]) K) (hi : i < K.length) : ∃ g o, la = some ⟨g, o, none⟩ ∧ g < w.heap.size ∧ n ≤ lc ∧ lc ≤ 9223372036854775807 ∧ w.cell? ⟨g, o + i, none⟩ = some (.int .i64 K[i].lost) := by
  obtain ⟨us, h1, h2, h3, h4, h5, h6, h7⟩ := h.parts
  obtain ⟨g, o, rfl, hg, hc⟩ := h6.2.2 i (by simpa using hi)
  rw [List.getElem_map] at hc
  have l1 := h6.1
  rw [List.length_map, h1] at l1
  exact ⟨g, o, rfl, hg, l1, h6.2.1, hc⟩
theorem FK.atT (h : FK w (.agg #[.slice ta n tc, .slice ja n jc, .slice la n lc, .slice oa n oc]) K) (hi : i < K.length) : ∃ g o, ta = some ⟨g, o, none⟩ ∧ g < w.heap.size ∧ ∀ j, j < 10 → w.cell? ⟨g, o + i * 10 + j, none⟩ = some (tkcell K[i].t j) := by
  obtain ⟨us, h1, h2, h3, h4, h5, h6, h7⟩ := h.parts
  obtain ⟨g, o, rfl, hg, hc⟩ := h2.2.2 i (by simpa using hi)
  refine ⟨g, o, rfl, hg, fun j hj => ?_⟩
  have := hc j hj
  rw [List.getElem_map] at this
  exact this
end
theorem FKS.ta {S : Nat → Prop} {w : World} {ta ja la oa : Option Addr} {tc jc lc oc n : Nat} {K : List Kt} (h : FKS S w (.agg #[.slice ta n tc, .slice ja n jc, .slice la n lc, .slice oa n oc]) K) : ∀ g off, ta = some ⟨g, off, none⟩ → S g := by
  obtain ⟨ta', tc', ja', jc', la', lc', oa', oc', us, he, h2, h3, h4, h5, h6, h7, s1, s2, s3, s4, s5⟩ := h.ex
  simp only [Value.agg.injEq, Array.mk.injEq, List.cons.injEq, Value.slice.injEq, and_true] at he
  obtain ⟨⟨rfl, hn, rfl⟩, -⟩ := he
  intro g off e
  exact s1 g (by rw [e]; rfl)
end Vg
namespace Go.Proofs.Ytiinhofmhoplfaa
open Go.ChangeShapes Go.WideShapes Go.ChangeAt Go.RowKit
abbrev rkC (ta : Option Addr) (tc : Nat) (ja : Option Addr) (jc : Nat) (la : Option Addr) (lc : Nat) (oa : Option Addr) (oc n : Nat) : Obj := .cells #[.slice ta n tc, .slice ja n jc, .slice la n lc, .slice oa n oc] 112
end Go.Proofs.Ytiinhofmhoplfaa
