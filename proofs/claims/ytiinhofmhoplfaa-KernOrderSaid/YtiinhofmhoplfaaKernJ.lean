/- KernOrder: a row of rows of jobs done ('JT'), the plain law, a kern beside it ('KD'). -/
import Derived.Test.YtiinhofmhoplfaaKernX
import Derived.Test.YtiinhofmhoplfaaKernV
set_option linter.unusedSimpArgs false
set_option linter.unusedVariables false
set_option maxHeartbeats 4000000
set_option maxRecDepth 100000
namespace Vg
open Go
abbrev Jp := Value × List Jb
/-- A task's job, as it is told. -/
def dn (i : Nat) (j : Jb) : Jb := ⟨i, j.cost, j.at_⟩
def Kn.wentOf (x : Kt) : Int := match x.J with | [] => 0 | j :: _ => j.went
/-- Row i of JJ: task i's jobs. -/
def DJ (K : List Kt) (JJ : List (List Jb)) : Prop := JJ.length = K.length ∧ ∀ i (h : i < K.length) (h' : i < JJ.length), JJ[i] = K[i].J.map (dn i)
theorem DJ.set {K : List Kt} {JJ : List (List Jb)} (h : DJ K JJ) (i : Nat) (y : Kt) (l : List Jb) (hy : l = y.J.map (dn i)) : DJ (K.set i y) (JJ.set i l) := by
  refine ⟨by simpa using h.1, fun j hj hj' => ?_⟩
  rw [List.getElem_set, List.getElem_set]
  split
  · rename_i hij; subst hij; exact hy
  · exact h.2 j (by simpa using hj) (by simpa using hj')
theorem DJ.set' {K : List Kt} {JJ : List (List Jb)} (h : DJ K JJ) (i : Nat) (hi : i < K.length) (y : Kt) (hy : y.J.map (dn i) = K[i].J.map (dn i)) : DJ (K.set i y) JJ := by
  refine ⟨by simpa using h.1, fun j hj hj' => ?_⟩
  rw [List.getElem_set]
  split
  · rename_i hij; subst hij; rw [hy]; exact h.2 i hi hj'
  · exact h.2 j (by simpa using hj) hj'
/-- What a release does. -/
theorem Kn.release_cases {K : List Kt} {JJ : List (List Jb)} (h : DJ K JJ) (n c a : Int) : (∃ r, Kn.release K n c a = ((Kn.release K n c a).1, r) ∧ r ≠ 0 ∧ DJ (Kn.release K n c a).1 JJ ∧ (Kn.release K n c a).1.map Kn.wentOf = K.map Kn.wentOf) ∨
    (∃ i : Nat, ∃ hi : i < K.length, ∃ hj : i < JJ.length, n = i ∧ Kn.release K n c a = ((Kn.release K n c a).1, 0) ∧ DJ (Kn.release K n c a).1 (JJ.set i (JJ[i] ++ [⟨i, c, a⟩])) ∧ (Kn.release K n c a).1.map Kn.wentOf = K.map Kn.wentOf) := by
  by_cases hm : n < 0 ∨ (K.length : Int) ≤ n
  · rw [Kn.release_out hm]
    exact .inl ⟨1, rfl, by decide, h, rfl⟩
  · obtain ⟨i, rfl⟩ : ∃ i : Nat, n = i := ⟨n.toNat, by omega⟩
    have hi : i < K.length := by omega
    have hj : i < JJ.length := by rw [h.1]; exact hi
    rw [Kn.release_in hi]
    split
    · exact .inl ⟨1, rfl, by decide, h, rfl⟩
    · split
      · exact .inl ⟨5, rfl, by decide, h.set' i hi _ rfl, map_set_same fun _ => rfl⟩
      · refine .inr ⟨i, hi, hj, rfl, rfl, h.set i _ _ ?_, map_set_same fun _ => ?_⟩
        · rw [h.2 i hi hj]; simp [dn]
        · unfold Kn.wentOf
          simp only []
          cases K[i].J <;> rfl
theorem DJ.suspend {K : List Kt} {JJ : List (List Jb)} (h : DJ K JJ) (M : List Mx) (n : Int) : DJ (Kn.suspend K M n).1 JJ ∧ (Kn.suspend K M n).1.map Kn.wentOf = K.map Kn.wentOf := by
  by_cases hm : n < 0 ∨ (K.length : Int) ≤ n
  · rw [Kn.suspend_out hm]; exact ⟨h, rfl⟩
  · obtain ⟨i, rfl⟩ : ∃ i : Nat, n = i := ⟨n.toNat, by omega⟩
    have hi : i < K.length := by omega
    rw [Kn.suspend_in hi]
    split
    · exact ⟨h, rfl⟩
    · exact ⟨h.set' i hi _ rfl, map_set_same fun _ => rfl⟩
theorem DJ.resume {K : List Kt} {JJ : List (List Jb)} (h : DJ K JJ) (n : Int) : DJ (Kn.resume K n).1 JJ ∧ (Kn.resume K n).1.map Kn.wentOf = K.map Kn.wentOf := by
  by_cases hm : n < 0 ∨ (K.length : Int) ≤ n
  · rw [Kn.resume_out hm]; exact ⟨h, rfl⟩
  · obtain ⟨i, rfl⟩ : ∃ i : Nat, n = i := ⟨n.toNat, by omega⟩
    have hi : i < K.length := by omega
    rw [Kn.resume_in hi]
    split
    · exact ⟨h, rfl⟩
    · exact ⟨h.set' i hi _ rfl, map_set_same fun _ => rfl⟩
/-- What is done where kind is not a run's, or nobody is to run: nothing of this. -/
theorem Kn.does_idle {K : List Kt} {M : List Mx} {JJ : List (List Jb)} (h : DJ K JJ) {kd t c a : Int} (h0 : kd ≠ 0) (hno : (kd ≠ 1 ∧ kd ≠ 4) ∨ Kn.best K M = -1) : ∃ K' M', Kn.does K M kd t c a = (K', M', (0, 0, 0), false) ∧ DJ K' JJ ∧ K'.map Kn.wentOf = K.map Kn.wentOf := by
  unfold Kn.does
  rw [if_neg h0]
  split
  · rename_i h1
    have hb : Kn.best K M = -1 := by
      rcases hno with h2 | h2
      · omega
      · exact h2
    rw [Kn.run_none hb]
    exact ⟨_, _, rfl, h, rfl⟩
  · split
    · exact ⟨_, _, rfl, h.suspend M t⟩
    · split
      · exact ⟨_, _, rfl, h.resume t⟩
      · exact ⟨_, _, rfl, h, rfl⟩
/-- What a run does. -/
theorem Kn.does_run {k : Nat} {K : List Kt} {M : List Mx} {JJ : List (List Jb)} (hI : Kn.Inv k K) (h : DJ K JJ) {kd t c a : Int} (h1 : kd = 1 ∨ kd = 4) {i : Nat} (hi : i < K.length) (hb : Kn.best K M = i) (ha : Kn.ableK K i = true) :
    ∃ (hj : i < JJ.length) (x : Jb) (l : List Jb) (g : Int), JJ[i] = x :: l ∧ x.cost = i ∧ K[i].J ≠ [] ∧ (K.map Kn.wentOf)[i]? = some g ∧ 0 ≤ g ∧ 0 ≤ Kn.far K M c ∧ g + Kn.far K M c ≤ x.at_ ∧ x.at_ ≤ 1099511627776 ∧
      ((g + Kn.far K M c = x.at_ ∧ ∃ K' M', Kn.does K M kd t c a = (K', M', ((i : Int), x.at_, x.went), true) ∧ DJ K' (JJ.set i l) ∧ K'.map Kn.wentOf = (K.map Kn.wentOf).set i 0) ∨
       (g + Kn.far K M c ≠ x.at_ ∧ ∃ K' M', Kn.does K M kd t c a = (K', M', (0, 0, 0), false) ∧ DJ K' JJ ∧ K'.map Kn.wentOf = (K.map Kn.wentOf).set i (g + Kn.far K M c))) := by
  obtain ⟨_, tk, j, l, lo, hx, g1, g2, g3, g4, g5⟩ := Kn.able_at hI ha
  have hj : i < JJ.length := by rw [h.1]; exact hi
  have hJJ := h.2 i hi hj
  rw [hx] at hJJ
  simp only [List.map_cons] at hJJ
  have hok := g4 j (by simp)
  have hl := Kn.leftJ_pos (t := tk) hok
  have hle := Kn.left_some hb hi hx
  obtain ⟨q, hq⟩ : ∃ q, Kn.far K M c = q := ⟨_, rfl⟩
  have hq' : q = min (max c 0) (Kn.leftJ tk j) := by rw [← hq, Kn.far, hle]
  have hjl : Kn.leftJ tk j ≤ j.cost - j.went := by unfold Kn.leftJ; split <;> omega
  have hwe : K.map Kn.wentOf = K.map Kn.wentOf := rfl
  have hd : Kn.does K M kd t c a = ((Kn.run K M q).1, (Kn.run K M q).2.1, (Kn.run K M q).2.2.1, (Kn.run K M q).2.2.2.1) := by
    unfold Kn.does
    rw [if_neg (by omega), if_pos h1, hq]
  rw [Kn.run_some hb hi hx] at hd
  unfold Kn.runAt at hd
  simp only [] at hd
  rw [if_neg (by omega)] at hd
  rw [hd, hq]
  obtain ⟨⟨a1, a2⟩, ⟨a3, a4⟩, a5⟩ := hok
  refine ⟨hj, dn i j, l.map (dn i), j.went, hJJ, rfl, by rw [hx]; simp, by simp [hi, hx, Kn.wentOf], a3, by omega, by show _ ≤ j.cost; omega, a2, ?_⟩
  by_cases hc : j.went + q = j.cost
  · refine .inl ⟨hc, ?_⟩
    rw [if_pos hc]
    refine ⟨_, _, rfl, h.set i _ _ rfl, ?_⟩
    rw [List.map_set]
    congr 1
    show (match l with | [] => (0 : Int) | j :: _ => j.went) = 0
    cases l with
    | nil => rfl
    | cons y l => exact g5 y (by simp)
  · refine .inr ⟨hc, ?_⟩
    rw [if_neg hc]
    refine ⟨_, _, rfl, h.set' i hi _ (by rw [hx]; simp [dn]), ?_⟩
    rw [List.map_set]
    rfl
end Vg
namespace Go.Proofs.Ytiinhofmhoplfaa
open Go.ChangeShapes Go.WideShapes Go.ChangeAt Go.RowKit
abbrev dnrC (xs : List Vg.Jp) : Obj := .cells (xs.map (·.1)).toArray 132
/-- A row of rows at block g; the rows' blocks lie from B on. -/
structure JT (w : World) (B g : Nat) (xs : List Vg.Jp) : Prop where
  row : Vg.blk w g = some (dnrC xs)
  job : ∀ i (h : i < xs.length), Vg.Que w B 124 3 xs[i].1 xs[i].2.length (Vg.jcells xs[i].2)
  dis : ∀ i j (hi : i < xs.length) (hj : j < xs.length), i ≠ j → ∀ k, xs[i].1.ownBlock = some k → xs[j].1.ownBlock ≠ some k
  off : ∀ i (hi : i < xs.length), xs[i].1.ownBlock ≠ some g
def jown (g : Nat) (xs : List Vg.Jp) (k : Nat) : Prop := k = g ∨ ∃ i, ∃ h : i < xs.length, xs[i].1.ownBlock = some k
section
variable {w w' w0 W2 : World} {B b g n i : Nat} {xs : List Vg.Jp} {u u2 : Value} {L L2 : List Vg.Jb}
theorem JT.lt (h : JT w B g xs) : ∀ k, jown g xs k → k < w.heap.size := by
  rintro k (rfl | ⟨i, hi, hk⟩)
  · exact Vg.lt_of h.row
  · exact ((h.job i hi).lt k hk).2
theorem JT.keep (h : JT w B g xs) (hk : ∀ k, jown g xs k → w'.heap[k]? = w.heap[k]?) : JT w' B g xs :=
  ⟨(hk g (.inl rfl)).trans h.row, fun i hi => (h.job i hi).kept fun k hv => hk k (.inr ⟨i, hi, hv⟩), h.dis, h.off⟩
theorem JT.end (hi : i < xs.length) (h : JT w B g xs) (hx : xs[i] = (u, L)) (ht2 : Vg.Touch (fun j => u.ownBlock = some j) w W2) (hq2 : Vg.Que W2 B 124 3 u2 L2.length (Vg.jcells L2)) (ho2 : ∀ k, u2.ownBlock = some k → u.ownBlock = some k ∨ w.heap.size ≤ k) :
    JT (W2.setCell ⟨g, i, none⟩ u2) B g (xs.set i (u2, L2)) ∧ Vg.Touch (jown g xs) w (W2.setCell ⟨g, i, none⟩ u2) ∧ ∀ k, jown g (xs.set i (u2, L2)) k → jown g xs k ∨ w.heap.size ≤ k := by
  have hg := Vg.lt_of h.row
  have hug : u.ownBlock ≠ some g := by have := h.off i hi; rw [hx] at this; exact this
  have hrow2 : Vg.blk W2 g = some (dnrC xs) := (ht2.block g hg hug).trans h.row
  have hg2 := Vg.lt_of hrow2
  have e : W2.setCell ⟨g, i, none⟩ u2 = Vg.put W2 g (dnrC (xs.set i (u2, L2))) := by
    rw [Vg.setCell_of hrow2]; simp [dnrC, List.map_set]
  have hu2g : u2.ownBlock ≠ some g := fun hh => by
    rcases ho2 g hh with h1 | h1
    · exact hug h1
    · omega
  have hne : ∀ j (hj : j < xs.length), j ≠ i → (xs.set i (u2, L2))[j]'(by simpa using hj) = xs[j] := fun j hj hji => List.getElem_set_ne (fun hh => hji hh.symm) _
  have heq : (xs.set i (u2, L2))[i]'(by simpa using hi) = (u2, L2) := List.getElem_set_self _
  have hall : ∀ j (hj : j < xs.length) k, ((xs.set i (u2, L2))[j]'(by simpa using hj)).1.ownBlock = some k → xs[j].1.ownBlock = some k ∨ (w.heap.size ≤ k ∧ j = i) := fun j hj k hk => by
    by_cases hji : j = i
    · subst hji
      rw [heq] at hk
      rcases ho2 k hk with h1 | h1
      · exact .inl (by rw [hx]; exact h1)
      · exact .inr ⟨h1, rfl⟩
    · rw [hne j hj hji] at hk
      exact .inl hk
  have hjl : ∀ j (hj : j < xs.length) k, xs[j].1.ownBlock = some k → k < w.heap.size := fun j hj k hk => ((h.job j hj).lt k hk).2
  rw [e]
  refine ⟨⟨Vg.put_heap_same hg2, fun j hj => ?_, fun j l hj hl hjl' k hk hk2 => ?_, fun j hj hk => ?_⟩, (ht2.mono fun k _ hk => .inr ⟨i, hi, by rw [hx]; exact hk⟩).put (.inl rfl) _, fun k hk => ?_⟩
  · have hj' : j < xs.length := by simpa using hj
    by_cases hji : j = i
    · subst hji; rw [heq]
      exact hq2.kept fun k hk => Vg.put_heap_other fun hh => hu2g (hh ▸ hk)
    · rw [hne j hj' hji]
      refine (h.job j hj').kept fun k hk => (Vg.put_heap_other fun hh => h.off j hj' (by rw [hh]; exact hk)).trans (ht2.block k (hjl j hj' k hk) fun hh => h.dis j i hj' hi hji k hk (by rw [hx]; exact hh))
  · have hj' : j < xs.length := by simpa using hj
    have hl' : l < xs.length := by simpa using hl
    rcases hall j hj' k hk with h1 | ⟨h1, h1'⟩
    · rcases hall l hl' k hk2 with h2 | ⟨h2, h2'⟩
      · exact h.dis j l hj' hl' hjl' k h1 h2
      · have := hjl j hj' k h1; omega
    · rcases hall l hl' k hk2 with h2 | ⟨h2, h2'⟩
      · have := hjl l hl' k h2; omega
      · omega
  · have hj' : j < xs.length := by simpa using hj
    rcases hall j hj' g hk with h1 | ⟨h1, _⟩
    · exact h.off j hj' h1
    · omega
  · rcases hk with hk | ⟨j, hj, hk⟩
    · exact .inl (.inl hk)
    · have hj' : j < xs.length := by simpa using hj
      rcases hall j hj' k hk with h1 | ⟨h1, _⟩
      · exact .inl (.inr ⟨j, hj', h1⟩)
      · exact .inr h1
abbrev intC (W : List Int) : Obj := .cells (Vg.ics W).toArray 2
/-- All that KernOrder keeps beside its kern. -/
def KDs (g : Nat) (xs : List Vg.Jp) (g2 : Nat) (X : List (Nat × Obj)) (k : Nat) : Prop := jown g xs k ∨ k = g2 ∨ Vg.Dom X k
structure KDp (w0 : World) (B g : Nat) (xs : List Vg.Jp) (g2 : Nat) (W : List Int) (X : List (Nat × Obj)) (w : World) : Prop where
  jt : JT w B g xs
  wr : Vg.blk w g2 = some (intC W)
  has : Vg.Has X w
  d1 : ¬ jown g xs g2
  d2 : ∀ k, Vg.Dom X k → ¬ jown g xs k ∧ k ≠ g2
  lo : w0.heap.size ≤ B ∧ B ≤ g ∧ w0.heap.size ≤ g2 ∧ g < w.heap.size
abbrev KD (w0 w : World) (b : Nat) (K : List Vg.Kt) (M : List Vg.Mx) (B g : Nat) (xs : List Vg.Jp) (g2 : Nat) (W : List Int) (X : List (Nat × Obj)) : Prop := KX w0 w b K M (KDs g xs g2 X) (KDp w0 B g xs g2 W X)
variable {g2 : Nat} {W : List Int} {X Y : List (Nat × Obj)} {K : List Vg.Kt} {M : List Vg.Mx}
theorem KDp.dep : ∀ w w', Vg.Kept (KDs g xs g2 X) w w' → KDp w0 B g xs g2 W X w → KDp w0 B g xs g2 W X w' := fun w w' hk h =>
  ⟨h.jt.keep fun k hj => hk.block k (.inl hj), hk.blk h.wr (.inr (.inl rfl)), fun p hp => hk.blk (h.has p hp) (.inr (.inr ⟨p.2, hp⟩)), h.d1, h.d2, h.lo.1, h.lo.2.1, h.lo.2.2.1, Nat.lt_of_lt_of_le h.lo.2.2.2 hk.size⟩
theorem KDp.lo' (h : KDp w0 B g xs g2 W X w) : ∀ k, jown g xs k → w0.heap.size ≤ k := by
  rintro k (rfl | ⟨i, hi, hk⟩)
  · have := h.lo; omega
  · have := ((h.jt.job i hi).lt k hk).1; have := h.lo; omega
theorem KD.new {o : Obj} {x : Nat} (h : KD w0 w b K M B g xs g2 W X) (hg : Vg.Grows w w') (hb : Vg.blk w' x = some o) (hx : w.heap.size ≤ x) : KD w0 w' b K M B g xs g2 W ((x, o) :: X) := by
  have hp := h.grows hg
  refine h.change (tt := fun _ => False) (Vg.Touch.of_grows hg) (fun k hk => hk.elim) (fun k hk => hk.elim) (fun k hk => ?_) ⟨hp.p.jt, hp.p.wr, hp.p.has.cons hb, hp.p.d1, fun k hk => ?_, hp.p.lo⟩ KDp.dep
  · rcases hk with hk | hk | hk
    · exact ⟨.inl (.inl hk), hp.kz.lt k (.inl hk)⟩
    · exact ⟨.inl (.inr (.inl hk)), hp.kz.lt k (.inr (.inl hk))⟩
    · rcases hk.cons with rfl | hk
      · exact ⟨.inr hx, Vg.lt_of hb⟩
      · exact ⟨.inl (.inr (.inr hk)), hp.kz.lt k (.inr (.inr hk))⟩
  · rcases hk.cons with rfl | hk
    · exact ⟨fun hh => by have := h.kz.lt _ (.inl hh); omega, fun hh => by have := h.kz.lt _ (.inr (.inl hh)); omega⟩
    · exact h.p.d2 k hk
theorem KD.sub (h : KD w0 w b K M B g xs g2 W X) (hs : ∀ p ∈ Y, p ∈ X) : KD w0 w b K M B g xs g2 W Y :=
  h.less (fun k hk => by
    rcases hk with hk | hk | ⟨o, hk⟩
    · exact .inl hk
    · exact .inr (.inl hk)
    · exact .inr (.inr ⟨o, hs _ hk⟩)) ⟨h.p.jt, h.p.wr, fun p hp => h.p.has p (hs p hp), h.p.d1, fun k ⟨o, hk⟩ => h.p.d2 k ⟨o, hs _ hk⟩, h.p.lo⟩ KDp.dep
/-- A row is another one. -/
theorem KD.row (hi : i < xs.length) (h : KD w0 w b K M B g xs g2 W X) (hx : xs[i] = (u, L)) (ht2 : Vg.Touch (fun j => u.ownBlock = some j) w W2) (hq2 : Vg.Que W2 B 124 3 u2 L2.length (Vg.jcells L2)) (ho2 : ∀ k, u2.ownBlock = some k → u.ownBlock = some k ∨ w.heap.size ≤ k) :
    KD w0 (W2.setCell ⟨g, i, none⟩ u2) b K M B g (xs.set i (u2, L2)) g2 W X := by
  obtain ⟨h1, h2, h3⟩ := JT.end hi h.p.jt hx ht2 hq2 ho2
  have hl2 : g2 < w.heap.size := h.kz.lt _ (.inr (.inl rfl))
  have hsz := h2.size
  refine h.change h2 (fun k hk => .inl hk) h.p.lo' (fun k hk => ?_) ⟨h1, (h2.bk h.p.wr h.p.d1), fun p hp => h2.bk (h.p.has p hp) (h.p.d2 p.1 ⟨p.2, hp⟩).1, fun hh => ?_, fun k hk => ⟨fun hh => ?_, (h.p.d2 k hk).2⟩, h.p.lo.1, h.p.lo.2.1, h.p.lo.2.2.1, by have := h.p.lo.2.2.2; omega⟩ KDp.dep
  · rcases hk with hk | hk | hk
    · refine ⟨?_, h1.lt k hk⟩
      rcases h3 k hk with h4 | h4
      · exact .inl (.inl h4)
      · exact .inr h4
    · exact ⟨.inl (.inr (.inl hk)), by omega⟩
    · exact ⟨.inl (.inr (.inr hk)), by have := h.kz.lt k (.inr (.inr hk)); omega⟩
  · rcases h3 _ hh with h4 | h4
    · exact h.p.d1 h4
    · omega
  · rcases h3 _ hh with h4 | h4
    · exact (h.p.d2 k hk).1 h4
    · have := h.kz.lt k (.inr (.inr hk)); omega
/-- A task's count is another one. -/
theorem KD.went (h : KD w0 w b K M B g xs g2 W X) (i : Nat) (x : Int) : KD w0 (w.setCell ⟨g2, i, none⟩ (.int .i64 x)) b K M B g xs g2 (W.set i x) X := by
  have e : w.setCell ⟨g2, i, none⟩ (.int .i64 x) = Vg.put w g2 (intC (W.set i x)) := by
    rw [Vg.setCell_of h.p.wr]; simp [intC, Vg.ics, List.map_set]
  rw [e]
  have hl2 : g2 < w.heap.size := h.kz.lt _ (.inr (.inl rfl))
  refine h.change (tt := fun k => k = g2) (Vg.Touch.put (t := fun k => k = g2) (Vg.Touch.refl _ _) rfl _) (fun k hk => .inr (.inl hk)) (fun k hk => by have := h.p.lo; omega) (fun k hk => ⟨.inl hk, by rw [Vg.put_size]; exact h.kz.lt k hk⟩) ⟨h.p.jt.keep fun k hk => Vg.put_heap_other fun hh => h.p.d1 (hh ▸ hk), Vg.put_heap_same hl2, fun p hp => (Vg.put_heap_other fun hh => (h.p.d2 p.1 ⟨p.2, hp⟩).2 hh.symm).trans (h.p.has p hp), h.p.d1, h.p.d2, by rw [Vg.put_size]; exact h.p.lo⟩ KDp.dep
theorem KD.wcell (h : KD w0 w b K M B g xs g2 W X) {i : Nat} {x : Int} (hi : W[i]? = some x) : w.cell? ⟨g2, i, none⟩ = some (.int .i64 x) := by
  rw [Vg.cells_of h.p.wr]; simp [Vg.ics, hi]
theorem KD.rcell (h : KD w0 w b K M B g xs g2 W X) {i : Nat} (hi : i < xs.length) : w.cell? ⟨g, i, none⟩ = some xs[i].1 := by
  rw [Vg.cells_of h.p.jt.row]; simp [hi]
end
end Go.Proofs.Ytiinhofmhoplfaa
