/- Package kern: plain words, the predicate 'KT' (tasks in a row, each with a row of jobs; a table of ceilings), what changes keep. -/
import Derived.Test.YtiinhofmhoplfaaCeilQ
import Derived.Test.YtiinhofmhoplfaaWorkA
set_option linter.unusedSimpArgs false
set_option linter.unusedVariables false
set_option maxHeartbeats 2000000
set_option maxRecDepth 100000
namespace Vg
open Go
structure Tk where
  kd : Int
  pr : Int
  pe : Int
  og : Int
  dl : Int
  co : Int
  ro : Int
  lk : Int
  fr : Int
  tt : Int
structure Jb where
  cost : Int
  at_ : Int
  went : Int
structure Kt where
  t : Tk
  J : List Jb
  lost : Int
  out : Bool
abbrev Kp := Value × Kt
def kcells : List Kp → List Value
  | [] => []
  | x :: l => .int .u8 x.2.t.kd :: .int .i64 x.2.t.pr :: .int .i64 x.2.t.pe :: .int .i64 x.2.t.og :: .int .i64 x.2.t.dl :: .int .i64 x.2.t.co :: .int .i64 x.2.t.ro :: .int .i64 x.2.t.lk :: .int .i64 x.2.t.fr :: .int .i64 x.2.t.tt :: x.1 :: .int .i64 x.2.lost :: .bool x.2.out :: kcells l
theorem kcells_length : ∀ l : List Kp, (kcells l).length = l.length * 13
  | [] => rfl
  | x :: l => by simp [kcells, kcells_length l]; omega
theorem kcells_append : ∀ l m : List Kp, kcells (l ++ m) = kcells l ++ kcells m
  | [], m => rfl
  | x :: l, m => by simp [kcells, kcells_append l m]
theorem k13 (k : Nat) : (k + 1) * 13 = k * 13 + 1 + 1 + 1 + 1 + 1 + 1 + 1 + 1 + 1 + 1 + 1 + 1 + 1 := by omega
/-- What lies at a task's places. -/
def kcell (x : Kp) : Nat → Value
  | 0 => .int .u8 x.2.t.kd
  | 1 => .int .i64 x.2.t.pr
  | 2 => .int .i64 x.2.t.pe
  | 3 => .int .i64 x.2.t.og
  | 4 => .int .i64 x.2.t.dl
  | 5 => .int .i64 x.2.t.co
  | 6 => .int .i64 x.2.t.ro
  | 7 => .int .i64 x.2.t.lk
  | 8 => .int .i64 x.2.t.fr
  | 9 => .int .i64 x.2.t.tt
  | 10 => x.1
  | 11 => .int .i64 x.2.lost
  | _ => .bool x.2.out
theorem kcells_get : ∀ (l : List Kp) (k : Nat) (h : k < l.length) (j : Nat), j < 13 → (kcells l)[k * 13 + j]? = some (kcell l[k] j)
  | [], k, h, _, _ => by simp at h
  | x :: l, 0, _, j, hj => by
    rcases j with _ | _ | _ | _ | _ | _ | _ | _ | _ | _ | _ | _ | _ | j
    all_goals first
      | (simp [kcells, kcell]; done)
      | omega
  | x :: l, k + 1, h, j, hj => by
    have := kcells_get l k (by simpa using h) j hj
    rw [k13, show k * 13 + 1 + 1 + 1 + 1 + 1 + 1 + 1 + 1 + 1 + 1 + 1 + 1 + 1 + j = k * 13 + j + 1 + 1 + 1 + 1 + 1 + 1 + 1 + 1 + 1 + 1 + 1 + 1 + 1 from by omega]
    simpa [kcells] using this
theorem kcells_set10 : ∀ (l : List Kp) (k : Nat) (h : k < l.length) (u : Value) (J : List Jb), (kcells l).set (k * 13 + 10) u = kcells (l.set k (u, ⟨l[k].2.t, J, l[k].2.lost, l[k].2.out⟩))
  | [], k, h, _, _ => by simp at h
  | x :: l, 0, _, u, J => by simp [kcells]
  | x :: l, k + 1, h, u, J => by
    have := kcells_set10 l k (by simpa using h) u J
    rw [show (k + 1) * 13 + 10 = k * 13 + 10 + 1 + 1 + 1 + 1 + 1 + 1 + 1 + 1 + 1 + 1 + 1 + 1 + 1 from by omega]
    simpa [kcells] using this
theorem kcells_set11 : ∀ (l : List Kp) (k : Nat) (h : k < l.length) (t : Int), (kcells l).set (k * 13 + 11) (.int .i64 t) = kcells (l.set k (l[k].1, ⟨l[k].2.t, l[k].2.J, t, l[k].2.out⟩))
  | [], k, h, _ => by simp at h
  | x :: l, 0, _, t => by simp [kcells]
  | x :: l, k + 1, h, t => by
    have := kcells_set11 l k (by simpa using h) t
    rw [show (k + 1) * 13 + 11 = k * 13 + 11 + 1 + 1 + 1 + 1 + 1 + 1 + 1 + 1 + 1 + 1 + 1 + 1 + 1 from by omega]
    simpa [kcells] using this
theorem kcells_set12 : ∀ (l : List Kp) (k : Nat) (h : k < l.length) (t : Bool), (kcells l).set (k * 13 + 12) (.bool t) = kcells (l.set k (l[k].1, ⟨l[k].2.t, l[k].2.J, l[k].2.lost, t⟩))
  | [], k, h, _ => by simp at h
  | x :: l, 0, _, t => by simp [kcells]
  | x :: l, k + 1, h, t => by
    have := kcells_set12 l k (by simpa using h) t
    rw [show (k + 1) * 13 + 12 = k * 13 + 12 + 1 + 1 + 1 + 1 + 1 + 1 + 1 + 1 + 1 + 1 + 1 + 1 + 1 from by omega]
    simpa [kcells] using this
theorem kcells_setJ : ∀ (l : List Kp) (k : Nat) (h : k < l.length) (J : List Jb), kcells (l.set k (l[k].1, ⟨l[k].2.t, J, l[k].2.lost, l[k].2.out⟩)) = kcells l
  | [], k, h, _ => by simp at h
  | x :: l, 0, _, J => by simp [kcells]
  | x :: l, k + 1, h, J => by
    have := kcells_setJ l k (by simpa using h) J
    simpa [kcells] using this
def jcells : List Jb → List Value
  | [] => []
  | x :: l => .int .i64 x.cost :: .int .i64 x.at_ :: .int .i64 x.went :: jcells l
theorem jcells_length : ∀ l : List Jb, (jcells l).length = l.length * 3
  | [] => rfl
  | x :: l => by simp [jcells, jcells_length l]; omega
theorem jcells_append : ∀ l m : List Jb, jcells (l ++ m) = jcells l ++ jcells m
  | [], m => rfl
  | x :: l, m => by simp [jcells, jcells_append l m]
/-- The cells of a task of a row. -/
theorem Que.task {w : World} {B n : Nat} {ty : TypeId} {a : Option Addr} {c : Nat} {M : List Kp} (hn : M.length = n) (h : Que w B ty 13 (.slice a n c) n (kcells M)) (i : Nat) (hi : i < M.length) :
    ∃ g o, a = some ⟨g, o, none⟩ ∧ B ≤ g ∧ g < w.heap.size ∧ n ≤ c ∧ c ≤ 9223372036854775807 ∧ ∀ j, j < 13 → w.cell? ⟨g, o + i * 13 + j, none⟩ = some (kcell M[i] j) := by
  subst hn
  have hl := kcells_length M
  obtain ⟨g, o, rfl, hg, hc, hm, hx⟩ := h.reads.open (by omega)
  have hhc : c ≤ 9223372036854775807 := hm
  refine ⟨g, o, rfl, (h.lt g rfl).1, hg, hc, hhc, fun j hj => ?_⟩
  have := hx (i * 13 + j) (by omega)
  rw [← Nat.add_assoc] at this
  rw [this, ← kcells_get M i hi j hj, List.getElem?_eq_getElem]
/-- The first job of a row. -/
theorem Que.job {w : World} {B n : Nat} {ty : TypeId} {v : Value} {x : Jb} {l : List Jb} (hn : l.length + 1 = n) (h : Que w B ty 3 v n (jcells (x :: l))) :
    ∃ g o c, v = .slice (some ⟨g, o, none⟩) n c ∧ B ≤ g ∧ g < w.heap.size ∧ n ≤ c ∧ c ≤ 9223372036854775807 ∧ w.cell? ⟨g, o, none⟩ = some (.int .i64 x.cost) ∧ w.cell? ⟨g, o + 1, none⟩ = some (.int .i64 x.at_) ∧ w.cell? ⟨g, o + 2, none⟩ = some (.int .i64 x.went) := by
  subst hn
  obtain ⟨a, c, rfl⟩ := h.shape
  have hl := jcells_length (x :: l)
  obtain ⟨g, o, rfl, hg, hc, hm, hx⟩ := h.reads.open (by simp [jcells])
  have hhc : c ≤ 9223372036854775807 := hm
  have h0 := hx 0 (by simp [jcells])
  have h1 := hx 1 (by simp [jcells])
  have h2 := hx 2 (by simp [jcells])
  exact ⟨g, o, c, rfl, (h.lt g rfl).1, hg, hc, hhc, by simpa [jcells] using h0, by simpa [jcells] using h1, by simpa [jcells] using h2⟩
/-- Plain words. -/
def Kn.holds (K : List Kt) (M : List Mx) (n : Int) : Bool :=
  if n < 0 then false else
  match K[n.toNat]? with
  | none => false
  | some x => if x.t.lk < 0 then false else (Tb.holder M x.t.lk).2 && decide ((Tb.holder M x.t.lk).1 = n)
def Kn.level (K : List Kt) (M : List Mx) (n : Int) : Int :=
  if n < 0 then 0 else
  match K[n.toNat]? with
  | none => 0
  | some x => Tb.level M (Tb.of M n M.length) x.t.pr
def Kn.waiting (K : List Kt) (n : Int) : Int :=
  if n < 0 then 0 else
  match K[n.toNat]? with
  | none => 0
  | some x => x.J.length
def Kn.lost (K : List Kt) (n : Int) : Int :=
  if n < 0 then 0 else
  match K[n.toNat]? with
  | none => 0
  | some x => x.lost
def Kn.release (K : List Kt) (n cost at_ : Int) : List Kt × Int :=
  if n < 0 then (K, 1) else
  match K[n.toNat]? with
  | none => (K, 1)
  | some x => if cost < 1 ∨ 1099511627776 < cost ∨ at_ < 0 ∨ 4503599627370496 < at_ then (K, 1) else
    if x.t.ro ≤ x.J.length then (K.set n.toNat ⟨x.t, x.J, x.lost + 1, x.out⟩, 5) else (K.set n.toNat ⟨x.t, x.J ++ [⟨cost, at_, 0⟩], x.lost, x.out⟩, 0)
def Kn.suspend (K : List Kt) (M : List Mx) (n : Int) : List Kt × Int :=
  if n < 0 then (K, 1) else
  match K[n.toNat]? with
  | none => (K, 1)
  | some x => if x.out = true ∨ Kn.holds K M n = true then (K, 7) else (K.set n.toNat ⟨x.t, x.J, x.lost, true⟩, 0)
def Kn.resume (K : List Kt) (n : Int) : List Kt × Int :=
  if n < 0 then (K, 1) else
  match K[n.toNat]? with
  | none => (K, 1)
  | some x => if x.out = false then (K, 7) else (K.set n.toNat ⟨x.t, x.J, x.lost, false⟩, 0)
theorem Kn.no {α : Type} {K : List Kt} {n : Int} (h : n < 0 ∨ (K.length : Int) ≤ n) (a : α) (f : Kt → α) : (if n < 0 then a else match K[n.toNat]? with | none => a | some x => f x) = a := by
  by_cases h0 : n < 0
  · rw [if_pos h0]
  · rw [if_neg h0, List.getElem?_eq_none (by omega)]
theorem Kn.yes {α : Type} {K : List Kt} {i : Nat} (h : i < K.length) (a : α) (f : Kt → α) : (if (i : Int) < 0 then a else match K[(i : Int).toNat]? with | none => a | some x => f x) = f K[i] := by
  rw [if_neg (by omega)]
  simp [List.getElem?_eq_getElem h]
end Vg
namespace Go.Proofs.Ytiinhofmhoplfaa
open Go.ChangeShapes Go.WideShapes Go.ChangeAt Go.RowKit
theorem Try.info_job : (Try.prog.info? 210).map (fun i => (i.zero, i.size, i.bytes)) = some (some (.agg #[.int .i64 0, .int .i64 0, .int .i64 0]), 3, 24) := by kernel_rfl
abbrev kernC (rv : Value) (cb : Nat) : Obj := .cells #[rv, .pointer (some ⟨cb, 0, none⟩)] 196
def kfp (x : Vg.Kp) (k : Nat) : Prop := x.1.ownBlock = some k
def kfc (cb : Nat) (cv : Value) (k : Nat) : Prop := k = cb ∨ cv.ownBlock = some k
/-- A kern lies at block b. -/
structure KT (w : World) (b : Nat) (xs : List Vg.Kp) (rv : Value) (cb : Nat) (M : List Vg.Mx) (cv : Value) : Prop where
  tab : Vg.blk w b = some (kernC rv cb)
  row : Vg.Que w (b + 1) 199 13 rv xs.length (Vg.kcells xs)
  job : ∀ i (h : i < xs.length), Vg.Que w (b + 1) 210 3 xs[i].1 xs[i].2.J.length (Vg.jcells xs[i].2.J)
  dis : ∀ i j (hi : i < xs.length) (hj : j < xs.length), i ≠ j → ∀ k, kfp xs[i] k → ¬ kfp xs[j] k
  off : ∀ i (hi : i < xs.length) k, kfp xs[i] k → rv.ownBlock ≠ some k
  ceil : CE w cb (cb + 1) M cv
  cof : ∀ k, kfc cb cv k → k ≠ b ∧ rv.ownBlock ≠ some k
  cofj : ∀ i (hi : i < xs.length) k, kfp xs[i] k → ¬ kfc cb cv k
  clo : ∀ k, kfc cb cv k → b ≤ k
/-- What a kern owns. -/
def kown (b : Nat) (xs : List Vg.Kp) (rv : Value) (cb : Nat) (cv : Value) (k : Nat) : Prop := k = b ∨ rv.ownBlock = some k ∨ (∃ i, ∃ h : i < xs.length, kfp xs[i] k) ∨ kfc cb cv k
/-- What a call that writes leaves. -/
def KTn (w w' : World) (b : Nat) (xs : List Vg.Kp) (rv : Value) (cb : Nat) (M' : List Vg.Mx) (cv : Value) (K' : List Vg.Kt) : Prop :=
  ∃ xs', KT w' b xs' rv cb M' cv ∧ xs'.map (·.2) = K' ∧ (∀ k, kown b xs' rv cb cv k → kown b xs rv cb cv k ∨ w.heap.size ≤ k) ∧ Vg.Touch (kown b xs rv cb cv) w w'
section
variable {w w' : World} {b cb : Nat} {xs : List Vg.Kp} {rv cv : Value} {M M' : List Vg.Mx}
theorem KT.lt (h : KT w b xs rv cb M cv) : b < w.heap.size := Vg.lt_of h.tab
theorem KT.c_lt (h : KT w b xs rv cb M cv) : ∀ k, kfc cb cv k → k < w.heap.size := by
  rintro k (rfl | hk)
  · exact h.ceil.lt
  · exact (h.ceil.own k hk).2
theorem KT.own (h : KT w b xs rv cb M cv) : ∀ k, kown b xs rv cb cv k → b ≤ k ∧ k < w.heap.size := by
  rintro k (rfl | hk | ⟨i, hi, hk⟩ | hk)
  · exact ⟨Nat.le_refl _, h.lt⟩
  · have := h.row.lt k hk; omega
  · have := (h.job i hi).lt k hk; omega
  · exact ⟨h.clo k hk, h.c_lt k hk⟩
theorem KT.kept (h : KT w b xs rv cb M cv) (hk : ∀ k, kown b xs rv cb cv k → Vg.blk w' k = Vg.blk w k) : KT w' b xs rv cb M cv :=
  ⟨(hk b (.inl rfl)).trans h.tab, h.row.kept fun k hv => hk k (.inr (.inl hv)), fun i hi => (h.job i hi).kept fun k hv => hk k (.inr (.inr (.inl ⟨i, hi, hv⟩))), h.dis, h.off,
    h.ceil.kept (hk cb (.inr (.inr (.inr (.inl rfl))))) (fun k hv => hk k (.inr (.inr (.inr (.inr hv))))), h.cof, h.cofj, h.clo⟩
theorem KT.grows (h : KT w b xs rv cb M cv) (hg : Vg.Grows w w') : KT w' b xs rv cb M cv := by
  have ho := h.own
  obtain ⟨x, n, rfl⟩ := hg
  exact h.kept fun k hk => Vg.blk_plus (ho k hk).2
theorem KT.touch {t : Nat → Prop} (h : KT w b xs rv cb M cv) (ht : Vg.Touch t w w') (hv : ∀ k, kown b xs rv cb cv k → ¬ t k) : KT w' b xs rv cb M cv :=
  h.kept fun k hk => ht.block k (h.own k hk).2 (hv k hk)
theorem KTn.same (h : KT w b xs rv cb M cv) (hg : Vg.Grows w w') : KTn w w' b xs rv cb M cv (xs.map (·.2)) := ⟨xs, h.grows hg, rfl, fun k hk => .inl hk, Vg.Touch.of_grows hg⟩
theorem KTn.next {w2 w3 : World} {xs' : List Vg.Kp} {M2 : List Vg.Mx} {K2 : List Vg.Kt} (ho : ∀ k, kown b xs' rv cb cv k → kown b xs rv cb cv k ∨ w.heap.size ≤ k) (ht : Vg.Touch (kown b xs rv cb cv) w w2) (h2 : KTn w2 w3 b xs' rv cb M2 cv K2) : KTn w w3 b xs rv cb M2 cv K2 := by
  obtain ⟨ys, hb, hm, ho2, ht2⟩ := h2
  refine ⟨ys, hb, hm, fun k hk => ?_, ?_⟩
  · rcases ho2 k hk with h1 | h1
    · exact ho k h1
    · exact .inr (Nat.le_trans ht.size h1)
  · exact ⟨ht2.os.trans ht.os, ht2.tape.trans ht.tape, ht2.output.trans ht.output, Nat.le_trans ht.size ht2.size, fun k hk hkt => (ht2.block k (Nat.lt_of_lt_of_le hk ht.size) fun hh => by
      rcases ho k hh with h | h
      · exact hkt h
      · omega).trans (ht.block k hk hkt)⟩
/-- Task i alone has changed. -/
theorem KT.updx {i : Nat} {u : Value} {q : Vg.Kt} (hi : i < xs.length) (h : KT w b xs rv cb M cv) (ht : Vg.Touch (fun k => rv.ownBlock = some k ∨ kfp xs[i] k) w w')
    (hrow : Vg.Que w' (b + 1) 199 13 rv xs.length (Vg.kcells (xs.set i (u, q)))) (hu : Vg.Que w' (b + 1) 210 3 u q.J.length (Vg.jcells q.J)) (hnew : ∀ k, u.ownBlock = some k → kfp xs[i] k ∨ w.heap.size ≤ k) :
    KT w' b (xs.set i (u, q)) rv cb M cv ∧ (∀ k, kown b (xs.set i (u, q)) rv cb cv k → kown b xs rv cb cv k ∨ w.heap.size ≤ k) ∧ Vg.Touch (kown b xs rv cb cv) w w' := by
  have hne : ∀ j (hj : j < xs.length), j ≠ i → (xs.set i (u, q))[j]'(by simpa using hj) = xs[j] := fun j hj hji => List.getElem_set_ne (fun hh => hji hh.symm) _
  have heq : (xs.set i (u, q))[i]'(by simpa using hi) = (u, q) := List.getElem_set_self _
  have hall : ∀ j (hj : j < xs.length) k, kfp ((xs.set i (u, q))[j]'(by simpa using hj)) k → kfp xs[j] k ∨ (w.heap.size ≤ k ∧ j = i) := fun j hj k hk => by
    by_cases hji : j = i
    · subst hji
      rw [heq] at hk
      rcases hnew k hk with h1 | h1
      · exact .inl h1
      · exact .inr ⟨h1, rfl⟩
    · rw [hne j hj hji] at hk
      exact .inl hk
  have hjl : ∀ j (hj : j < xs.length) k, kfp xs[j] k → k < w.heap.size := fun j hj k hk => ((h.job j hj).lt k hk).2
  refine ⟨⟨ht.bk h.tab (fun hh => ?_), by rw [List.length_set]; exact hrow, fun j hj => ?_, fun j l hj hl hjl' k hk hk2 => ?_, fun j hj k hk => ?_, h.ceil.touch ht (fun hh => ?_) (fun k hk hh => ?_), h.cof, fun j hj k hk hh => ?_, h.clo⟩, fun k hk => ?_, ht.mono fun k _ hk => ?_⟩
  · rcases hh with hh | hh
    · have := (h.row.lt b hh).1; omega
    · have := ((h.job i hi).lt b hh).1; omega
  · have hj' : j < xs.length := by simpa using hj
    by_cases hji : j = i
    · subst hji; rw [heq]; exact hu
    · rw [hne j hj' hji]
      refine (h.job j hj').kept fun k hk => ht.block k (hjl j hj' k hk) fun hh => ?_
      rcases hh with hh | hh
      · exact h.off j hj' k hk hh
      · exact h.dis j i hj' hi hji k hk hh
  · have hj' : j < xs.length := by simpa using hj
    have hl' : l < xs.length := by simpa using hl
    rcases hall j hj' k hk with h1 | ⟨h1, h1'⟩
    · rcases hall l hl' k hk2 with h2 | ⟨h2, h2'⟩
      · exact h.dis j l hj' hl' hjl' k h1 h2
      · have := hjl j hj' k h1; omega
    · rcases hall l hl' k hk2 with h2 | ⟨h2, h2'⟩
      · have := hjl l hl' k h2; omega
      · omega
  · have hj' : j < xs.length := by simpa using hj
    rcases hall j hj' k hk with h1 | ⟨h1, _⟩
    · exact h.off j hj' k h1
    · intro hh; have := (h.row.lt k hh).2; omega
  · rcases hh with hh | hh
    · exact (h.cof cb (.inl rfl)).2 hh
    · exact h.cofj i hi cb hh (.inl rfl)
  · rcases hh with hh | hh
    · exact (h.cof k (.inr hk)).2 hh
    · exact h.cofj i hi k hh (.inr hk)
  · have hj' : j < xs.length := by simpa using hj
    rcases hall j hj' k hk with h1 | ⟨h1, _⟩
    · exact h.cofj j hj' k h1 hh
    · have := h.c_lt k hh; omega
  · rcases hk with hk | hk | ⟨j, hj, hk⟩ | hk
    · exact .inl (.inl hk)
    · exact .inl (.inr (.inl hk))
    · have hj' : j < xs.length := by simpa using hj
      rcases hall j hj' k hk with h1 | ⟨h1, _⟩
      · exact .inl (.inr (.inr (.inl ⟨j, hj', h1⟩)))
      · exact .inr h1
    · exact .inl (.inr (.inr (.inr hk)))
  · rcases hk with hk | hk
    · exact .inr (.inl hk)
    · exact .inr (.inr (.inl ⟨i, hi, hk⟩))
theorem KT.upd {i : Nat} {u : Value} {q : Vg.Kt} (hi : i < xs.length) (h : KT w b xs rv cb M cv) (ht : Vg.Touch (fun k => rv.ownBlock = some k ∨ kfp xs[i] k) w w')
    (hrow : Vg.Que w' (b + 1) 199 13 rv xs.length (Vg.kcells (xs.set i (u, q)))) (hu : Vg.Que w' (b + 1) 210 3 u q.J.length (Vg.jcells q.J)) (hnew : ∀ k, u.ownBlock = some k → kfp xs[i] k ∨ w.heap.size ≤ k) :
    KTn w w' b xs rv cb M cv ((xs.map (·.2)).set i q) := by
  obtain ⟨h1, h2, h3⟩ := KT.updx hi h ht hrow hu hnew
  exact ⟨_, h1, by rw [List.map_set], h2, h3⟩
/-- A cell of the row alone has changed, not the jobs. -/
theorem KT.cell {i : Nat} {q : Vg.Kt} (hi : i < xs.length) (h : KT w b xs rv cb M cv) (hJ : q.J = xs[i].2.J) (ht : Vg.Touch (fun k => rv.ownBlock = some k) w w')
    (hrow : Vg.Que w' (b + 1) 199 13 rv xs.length (Vg.kcells (xs.set i (xs[i].1, q)))) : KTn w w' b xs rv cb M cv ((xs.map (·.2)).set i q) := by
  refine KT.upd hi h (ht.mono fun k _ hk => .inl hk) hrow ?_ fun k hk => .inl hk
  rw [hJ]
  exact (h.job i hi).kept fun k hk => ht.block k ((h.job i hi).lt k hk).2 fun hh => h.off i hi k hk hh
/-- The table of ceilings alone has changed. -/
theorem KT.lockd (h : KT w b xs rv cb M cv) (hc : CE w' cb (cb + 1) M' cv) (ht : Vg.Touch (fun k => cv.ownBlock = some k) w w') : KTn w w' b xs rv cb M' cv (xs.map (·.2)) := by
  refine ⟨xs, ⟨ht.bk h.tab fun hh => (h.cof b (.inr hh)).1 rfl, h.row.kept fun k hk => ht.block k (h.row.lt k hk).2 fun hh => (h.cof k (.inr hh)).2 hk, fun i hi => (h.job i hi).kept fun k hk => ht.block k ((h.job i hi).lt k hk).2 fun hh => h.cofj i hi k hk (.inr hh), h.dis, h.off, hc, h.cof, h.cofj, h.clo⟩, rfl, fun k hk => .inl hk, ht.mono fun k _ hk => .inr (.inr (.inr (.inr hk)))⟩
end
end Go.Proofs.Ytiinhofmhoplfaa
