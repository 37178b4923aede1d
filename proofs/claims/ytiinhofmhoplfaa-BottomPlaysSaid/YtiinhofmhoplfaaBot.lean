/- Package bottom: plain words, the predicate 'BT' (threads in a row, each with a server of its own; queues), what a call that writes leaves. -/
import Derived.Test.YtiinhofmhoplfaaWorkQ
import Derived.Test.YtiinhofmhoplfaaServerA
set_option linter.unusedSimpArgs false
set_option linter.unusedVariables false
set_option maxHeartbeats 1000000
set_option maxRecDepth 100000
namespace Vg
open Go
structure Th where
  pr : Int
  bu : Int
  pe : Int
  dp : Int
structure Bp where
  t : Th
  s : Srv
structure Bt where
  p : Bp
  sb : Nat
  sv : Value
def bcells : List Bt → List Value
  | [] => []
  | x :: l => .int .i64 x.p.t.pr :: .int .i64 x.p.t.bu :: .int .i64 x.p.t.pe :: .int .i64 x.p.t.dp :: .pointer (some ⟨x.sb, 0, none⟩) :: bcells l
theorem bcells_length : ∀ l : List Bt, (bcells l).length = l.length * 5
  | [] => rfl
  | x :: l => by simp [bcells, bcells_length l]; omega
theorem bcells_append : ∀ l m : List Bt, bcells (l ++ m) = bcells l ++ bcells m
  | [], m => rfl
  | x :: l, m => by simp [bcells, bcells_append l m]
theorem bcells_get : ∀ (l : List Bt) (k : Nat) (h : k < l.length), (bcells l)[k * 5]? = some (.int .i64 l[k].p.t.pr) ∧ (bcells l)[k * 5 + 1]? = some (.int .i64 l[k].p.t.bu) ∧ (bcells l)[k * 5 + 2]? = some (.int .i64 l[k].p.t.pe) ∧ (bcells l)[k * 5 + 3]? = some (.int .i64 l[k].p.t.dp) ∧ (bcells l)[k * 5 + 4]? = some (.pointer (some ⟨l[k].sb, 0, none⟩))
  | [], k, h => by simp at h
  | x :: l, 0, _ => by simp [bcells]
  | x :: l, k + 1, h => by
    have := bcells_get l k (by simpa using h)
    rw [show (k + 1) * 5 = k * 5 + 1 + 1 + 1 + 1 + 1 from by omega]
    simpa [bcells] using this
theorem bcells_set : ∀ (l : List Bt) (k : Nat) (h : k < l.length) (s : Srv) (v : Value), bcells (l.set k ⟨⟨l[k].p.t, s⟩, l[k].sb, v⟩) = bcells l
  | [], k, h, _, _ => by simp at h
  | x :: l, 0, _, s, v => by simp [bcells]
  | x :: l, k + 1, h, s, v => by
    have := bcells_set l k (by simpa using h) s v
    simpa [bcells] using this
theorem Reads.thread {S : Nat} {w : World} {a : Option Addr} {c n : Nat} {xs : List Bt} (hn : xs.length = n) (h : Reads S w (.slice a n c) n (bcells xs)) (i : Nat) (hi : i < xs.length) :
    ∃ g o, a = some ⟨g, o, none⟩ ∧ g < w.heap.size ∧ n ≤ c ∧ c ≤ 9223372036854775807 ∧ w.cell? ⟨g, o + i * 5, none⟩ = some (.int .i64 xs[i].p.t.pr) ∧ w.cell? ⟨g, o + i * 5 + 1, none⟩ = some (.int .i64 xs[i].p.t.bu) ∧ w.cell? ⟨g, o + i * 5 + 2, none⟩ = some (.int .i64 xs[i].p.t.pe) ∧ w.cell? ⟨g, o + i * 5 + 3, none⟩ = some (.int .i64 xs[i].p.t.dp) ∧ w.cell? ⟨g, o + i * 5 + 4, none⟩ = some (.pointer (some ⟨xs[i].sb, 0, none⟩)) := by
  subst hn
  have hl := bcells_length xs
  obtain ⟨g, o, rfl, hg, hc, hm, hx⟩ := h.open (by omega)
  obtain ⟨g0, g1, g2, g3, g4⟩ := bcells_get xs i hi
  have key : ∀ j u, i * 5 + j < (bcells xs).length → (bcells xs)[i * 5 + j]? = some u → w.cell? ⟨g, o + i * 5 + j, none⟩ = some u := fun j u hj hu => by
    have := hx (i * 5 + j) hj
    rw [← Nat.add_assoc] at this
    rw [this, ← hu, List.getElem?_eq_getElem]
  have hhc : c ≤ 9223372036854775807 := hm
  exact ⟨g, o, rfl, hg, hc, hhc, by simpa using key 0 _ (by omega) g0, key 1 _ (by omega) g1, key 2 _ (by omega) g2, key 3 _ (by omega) g3, key 4 _ (by omega) g4⟩
/-- Plain words. -/
def Bo.wait (n : Nat) (Q : List Wq) (i : Int) : Int := if i < 0 ∨ (n : Int) ≤ i then 0 else Wk.waiting Q i
def Bo.lost (n : Nat) (Q : List Wq) (i : Int) : Int := if i < 0 ∨ (n : Int) ≤ i then 0 else Wk.lost Q i
def Bo.put (n : Nat) (Q : List Wq) (i c : Int) : List Wq × Int := if i < 0 ∨ (n : Int) ≤ i then (Q, 1) else Wk.put Q i c
def Bo.ableK (Bs : List Bp) (Q : List Wq) (i : Nat) : Bool :=
  match Bs[i]? with
  | none => false
  | some x => decide (0 < Wk.waiting Q i) && decide (0 < x.s.left x.t.bu)
def Bo.able (Bs : List Bp) (Q : List Wq) (i : Int) : Bool := if i < 0 then false else Bo.ableK Bs Q i.toNat
def Bo.left (Bs : List Bp) (Q : List Wq) (i : Int) : Int :=
  if i < 0 then 0 else
  match Bs[i.toNat]? with
  | none => 0
  | some x => if Bo.ableK Bs Q i.toNat = true then min (Wk.left Q i) (x.s.left x.t.bu) else 0
def Bo.run (Bs : List Bp) (Q : List Wq) (i n en : Int) : List Bp × List Wq × Bool × Int :=
  if i < 0 then (Bs, Q, false, 1) else
  match Bs[i.toNat]? with
  | none => (Bs, Q, false, 1)
  | some x =>
    if n < 0 ∨ Bo.left Bs Q i < n then (Bs, Q, false, 1) else
    if Bo.ableK Bs Q i.toNat = false then (Bs, Q, false, 7) else
    if (x.s.use x.t.bu x.t.pe n en).2 ≠ 0 then (Bs.set i.toNat ⟨x.t, (x.s.use x.t.bu x.t.pe n en).1⟩, Q, false, (x.s.use x.t.bu x.t.pe n en).2) else
    (Bs.set i.toNat ⟨x.t, (x.s.use x.t.bu x.t.pe n en).1⟩, (Wk.go Q i n).1, (Wk.go Q i n).2.1, (Wk.go Q i n).2.2)
def Bo.later (now : Int) (x : Bp) : Bool := decide (x.s.last ≤ now) && decide (now ≤ 4503599627370496)
def Bo.rf (now : Int) (x : Bp) : Bp := ⟨x.t, (x.s.refill now).1⟩
def Bo.refill (Bs : List Bp) (now : Int) : List Bp × Int := if Bs.all (Bo.later now) = true then (Bs.map (Bo.rf now), 0) else (Bs, 1)
def Bo.cand (Bs : List Bp) (Q : List Wq) (i : Nat) : Option Int :=
  match Bs[i]? with
  | none => none
  | some x => if Wk.waiting Q i = 0 ∨ 0 < x.s.left x.t.bu then none else match x.s.L with | [] => none | y :: _ => some y.1
def Bo.least : Option Int → Int × Bool → Int × Bool
  | none, r => r
  | some a, r => if r.2 = false ∨ a < r.1 then (a, true) else r
def Bo.nextK (Bs : List Bp) (Q : List Wq) : Nat → Int × Bool
  | 0 => (0, false)
  | k + 1 => Bo.least (Bo.cand Bs Q k) (Bo.nextK Bs Q k)
def Bo.next (Bs : List Bp) (Q : List Wq) : Int × Bool := Bo.nextK Bs Q Bs.length
/-- What holds of threads. -/
def Bp.ok (x : Bp) : Prop := (1 ≤ x.t.bu ∧ x.t.bu ≤ 1099511627776) ∧ (1 ≤ x.t.pe ∧ x.t.pe ≤ 1099511627776) ∧ (0 ≤ x.t.pr ∧ x.t.pr ≤ 63) ∧ x.s.Inv x.t.bu
structure Bo.Inv (k : Nat) (Bs : List Bp) (Q : List Wq) : Prop where
  each : ∀ x ∈ Bs, x.ok
  wk : Wk.Inv k Q
  len : Bs = [] ∨ Q.length = Bs.length
theorem Bo.Inv.le {k : Nat} {Bs : List Bp} {Q : List Wq} (h : Bo.Inv k Bs Q) : Bs.length ≤ 64 := by
  rcases h.len with h1 | h1
  · rw [h1]; simp
  · have := h.wk.len; omega
theorem Bo.Inv.at {k : Nat} {Bs : List Bp} {Q : List Wq} (h : Bo.Inv k Bs Q) (i : Nat) (hi : i < Bs.length) : Bs[i].ok ∧ i < Q.length := by
  refine ⟨h.each _ (List.getElem_mem _), ?_⟩
  rcases h.len with h1 | h1
  · subst h1; simp at hi
  · omega
theorem Bo.wait_in {n : Nat} {Q : List Wq} {i : Nat} (h : i < n) : Bo.wait n Q i = Wk.waiting Q i := if_neg (by omega)
theorem Bo.lost_in {n : Nat} {Q : List Wq} {i : Nat} (h : i < n) : Bo.lost n Q i = Wk.lost Q i := if_neg (by omega)
theorem Bo.put_in {n : Nat} {Q : List Wq} {i : Nat} {c : Int} (h : i < n) : Bo.put n Q i c = Wk.put Q i c := if_neg (by omega)
theorem Bo.wait_out {n : Nat} {Q : List Wq} {i : Int} (h : i < 0 ∨ (n : Int) ≤ i) : Bo.wait n Q i = 0 := if_pos h
theorem Bo.lost_out {n : Nat} {Q : List Wq} {i : Int} (h : i < 0 ∨ (n : Int) ≤ i) : Bo.lost n Q i = 0 := if_pos h
theorem Bo.put_out {n : Nat} {Q : List Wq} {i c : Int} (h : i < 0 ∨ (n : Int) ≤ i) : Bo.put n Q i c = (Q, 1) := if_pos h
theorem Bo.able_in {Bs : List Bp} {Q : List Wq} {i : Nat} (h : i < Bs.length) : Bo.able Bs Q i = (decide (0 < Wk.waiting Q i) && decide (0 < Bs[i].s.left Bs[i].t.bu)) := by
  unfold Bo.able Bo.ableK
  rw [if_neg (by omega)]
  simp [List.getElem?_eq_getElem h]
theorem Bo.ableK_eq {Bs : List Bp} {Q : List Wq} (i : Nat) : Bo.ableK Bs Q i = Bo.able Bs Q i := by
  unfold Bo.able
  rw [if_neg (by omega)]
  simp
theorem Bo.able_out {Bs : List Bp} {Q : List Wq} {i : Int} (h : i < 0 ∨ (Bs.length : Int) ≤ i) : Bo.able Bs Q i = false := by
  unfold Bo.able Bo.ableK
  by_cases h0 : i < 0
  · rw [if_pos h0]
  · rw [if_neg h0, List.getElem?_eq_none (by omega)]
theorem Bo.left_in {Bs : List Bp} {Q : List Wq} {i : Nat} (h : i < Bs.length) : Bo.left Bs Q i = if Bo.able Bs Q i = true then min (Wk.left Q i) (Bs[i].s.left Bs[i].t.bu) else 0 := by
  rw [← Bo.ableK_eq]
  unfold Bo.left
  rw [if_neg (by omega)]
  simp [List.getElem?_eq_getElem h]
theorem Bo.left_out {Bs : List Bp} {Q : List Wq} {i : Int} (h : i < 0 ∨ (Bs.length : Int) ≤ i) : Bo.left Bs Q i = 0 := by
  unfold Bo.left
  by_cases h0 : i < 0
  · rw [if_pos h0]
  · rw [if_neg h0, List.getElem?_eq_none (by omega)]
theorem Bo.left_no {Bs : List Bp} {Q : List Wq} {i : Int} (h : Bo.able Bs Q i = false) : Bo.left Bs Q i = 0 := by
  by_cases ho : i < 0 ∨ (Bs.length : Int) ≤ i
  · exact Bo.left_out ho
  · obtain ⟨j, rfl⟩ : ∃ j : Nat, i = j := ⟨i.toNat, by omega⟩
    rw [Bo.left_in (by omega), h]; rfl
end Vg
namespace Go.Proofs.Ytiinhofmhoplfaa
open Go.ChangeShapes Go.WideShapes Go.ChangeAt Go.RowKit
abbrev botC (rv : Value) (wb : Nat) : Obj := .cells #[rv, .pointer (some ⟨wb, 0, none⟩)] 171
/-- The blocks of a thread's server. -/
def fp (x : Vg.Bt) (k : Nat) : Prop := k = x.sb ∨ x.sv.ownBlock = some k
def fw (wb : Nat) (O : Nat → Prop) (k : Nat) : Prop := k = wb ∨ O k
/-- Threads lie at block b. -/
structure BT (w : World) (b : Nat) (xs : List Vg.Bt) (rv : Value) (wb : Nat) (Q : List Vg.Wq) (wv : Value) (O : Nat → Prop) : Prop where
  tab : Vg.blk w b = some (botC rv wb)
  shp : ∃ a c, rv = .slice a xs.length c
  row : Vg.Reads 0 w rv xs.length (Vg.bcells xs)
  srv : ∀ i (h : i < xs.length), SA w xs[i].sb (xs[i].sb + 1) xs[i].p.t.bu xs[i].p.t.pe xs[i].p.s xs[i].sv
  wrk : WS w wb (wb + 1) Q wv O
  dis : ∀ i j (hi : i < xs.length) (hj : j < xs.length), i ≠ j → ∀ k, fp xs[i] k → ¬ fp xs[j] k
  offw : ∀ i (hi : i < xs.length) k, fp xs[i] k → ¬ fw wb O k
  offb : ∀ i (hi : i < xs.length) k, fp xs[i] k → k ≠ b ∧ rv.ownBlock ≠ some k
  wofb : ∀ k, fw wb O k → k ≠ b ∧ rv.ownBlock ≠ some k
def bown (b : Nat) (xs : List Vg.Bt) (rv : Value) (wb : Nat) (O : Nat → Prop) (k : Nat) : Prop := k = b ∨ rv.ownBlock = some k ∨ (∃ i, ∃ h : i < xs.length, fp xs[i] k) ∨ fw wb O k
section
variable {w w' : World} {b wb : Nat} {xs : List Vg.Bt} {rv wv : Value} {Q Q' : List Vg.Wq} {O O' : Nat → Prop}
theorem BT.lt (h : BT w b xs rv wb Q wv O) : b < w.heap.size := Vg.lt_of h.tab
theorem BT.fp_lt (h : BT w b xs rv wb Q wv O) (i : Nat) (hi : i < xs.length) : ∀ k, fp xs[i] k → k < w.heap.size := by
  rintro k (rfl | hk)
  · exact (h.srv i hi).lt
  · exact ((h.srv i hi).own k hk).2
theorem BT.fw_lt (h : BT w b xs rv wb Q wv O) : ∀ k, fw wb O k → k < w.heap.size := by
  rintro k (rfl | hk)
  · have := h.wrk.hB; omega
  · exact (h.wrk.own k hk).2
theorem reads_lt {S : Nat} {w : World} {sv : Value} {n : Nat} {xs : List Value} (h : Vg.Reads S w sv n xs) : ∀ k, sv.ownBlock = some k → k < w.heap.size := by
  intro k hk
  rcases h with ⟨rfl, _⟩ | ⟨g, off, cap, rfl, h2, h3, _⟩
  · simp [Value.ownBlock] at hk
  · have : g = k := by simpa [Value.ownBlock] using hk
    omega
theorem BT.own_lt (h : BT w b xs rv wb Q wv O) : ∀ k, bown b xs rv wb O k → k < w.heap.size := by
  rintro k (rfl | hk | ⟨i, hi, hk⟩ | hk)
  · exact h.lt
  · exact reads_lt h.row k hk
  · exact h.fp_lt i hi k hk
  · exact h.fw_lt k hk
theorem reads_touch {S : Nat} {w w' : World} {t : Nat → Prop} {sv : Value} {n : Nat} {xs : List Value} (h : Vg.Reads S w sv n xs) (ht : Vg.Touch t w w') (ha : ∀ k, sv.ownBlock = some k → ¬ t k) : Vg.Reads S w' sv n xs := h.touch ht ha
theorem BT.grows (h : BT w b xs rv wb Q wv O) (hg : Vg.Grows w w') : BT w' b xs rv wb Q wv O :=
  ⟨hg.blk h.tab, h.shp, h.row.grows hg, fun i hi => (h.srv i hi).grows hg, h.wrk.grows hg, h.dis, h.offw, h.offb, h.wofb⟩
theorem BT.touch {t : Nat → Prop} (h : BT w b xs rv wb Q wv O) (ht : Vg.Touch t w w') (hv : ∀ k, bown b xs rv wb O k → ¬ t k) : BT w' b xs rv wb Q wv O :=
  ⟨ht.bk h.tab (hv b (.inl rfl)), h.shp, reads_touch h.row ht fun k hk => hv k (.inr (.inl hk)),
    fun i hi => (h.srv i hi).touch ht (hv _ (.inr (.inr (.inl ⟨i, hi, .inl rfl⟩)))) fun k hk => hv k (.inr (.inr (.inl ⟨i, hi, .inr hk⟩))),
    h.wrk.touch ht (hv _ (.inr (.inr (.inr (.inl rfl))))) fun k hk => hv k (.inr (.inr (.inr (.inr hk)))), h.dis, h.offw, h.offb, h.wofb⟩
/-- The queues alone have changed. -/
theorem BT.work (h : BT w b xs rv wb Q wv O) (hs : WSn w w' wb (wb + 1) Q' wv O) : ∃ O', BT w' b xs rv wb Q' wv O' ∧ (∀ k, bown b xs rv wb O' k → bown b xs rv wb O k ∨ w.heap.size ≤ k) ∧ Vg.Touch (bown b xs rv wb O) w w' := by
  obtain ⟨O', h1, h2, h3⟩ := hs
  have hO : ∀ k, fw wb O' k → fw wb O k ∨ w.heap.size ≤ k := by
    rintro k (rfl | hk)
    · exact .inl (.inl rfl)
    · rcases h2 k hk with h4 | h4
      · exact .inl (.inr h4)
      · exact .inr h4
  refine ⟨O', ⟨h3.bk h.tab fun hh => (h.wofb b (.inr hh)).1 rfl, h.shp, reads_touch h.row h3 fun k hk hh => (h.wofb k (.inr hh)).2 hk,
    fun i hi => (h.srv i hi).touch h3 (fun hh => h.offw i hi _ (.inl rfl) (.inr hh)) fun k hk hh => h.offw i hi k (.inr hk) (.inr hh), h1, h.dis, fun i hi k hk hh => ?_, h.offb, fun k hk => ?_⟩, ?_, h3.mono fun k _ hk => .inr (.inr (.inr (.inr hk)))⟩
  · rcases hO k hh with h4 | h4
    · exact h.offw i hi k hk h4
    · have := h.fp_lt i hi k hk; omega
  · rcases hO k hk with h4 | h4
    · exact h.wofb k h4
    · refine ⟨fun hh => by have := h.lt; omega, fun hh => by have := reads_lt h.row k hh; omega⟩
  · rintro k (hk | hk | hk | hk)
    · exact .inl (.inl hk)
    · exact .inl (.inr (.inl hk))
    · exact .inl (.inr (.inr (.inl hk)))
    · rcases hO k hk with h4 | h4
      · exact .inl (.inr (.inr (.inr h4)))
      · exact .inr h4
/-- One server alone has changed. -/
theorem BT.server {i : Nat} {s' : Vg.Srv} {v' : Value} (hi : i < xs.length) (h : BT w b xs rv wb Q wv O) (hs : SA w' xs[i].sb (xs[i].sb + 1) xs[i].p.t.bu xs[i].p.t.pe s' v')
    (ht : Vg.Touch (fun k => k = xs[i].sb ∨ xs[i].sv.ownBlock = some k) w w') (hv : ∀ k, v'.ownBlock = some k → xs[i].sv.ownBlock = some k ∨ w.heap.size ≤ k) :
    BT w' b (xs.set i ⟨⟨xs[i].p.t, s'⟩, xs[i].sb, v'⟩) rv wb Q wv O ∧ (∀ k, bown b (xs.set i ⟨⟨xs[i].p.t, s'⟩, xs[i].sb, v'⟩) rv wb O k → bown b xs rv wb O k ∨ w.heap.size ≤ k) ∧ Vg.Touch (bown b xs rv wb O) w w' := by
  have ht : Vg.Touch (fp xs[i]) w w' := ht
  obtain ⟨y, hy⟩ : ∃ y : Vg.Bt, (⟨⟨xs[i].p.t, s'⟩, xs[i].sb, v'⟩ : Vg.Bt) = y := ⟨_, rfl⟩
  rw [hy]
  have hne : ∀ j (hj : j < xs.length), j ≠ i → (xs.set i y)[j]'(by simpa using hj) = xs[j] := fun j hj hji => List.getElem_set_ne (fun hh => hji hh.symm) _
  have heq : (xs.set i y)[i]'(by simpa using hi) = y := List.getElem_set_self _
  have hfy : ∀ k, fp y k → fp xs[i] k ∨ w.heap.size ≤ k := by
    subst hy
    rintro k (hk | hk)
    · exact .inl (.inl hk)
    · rcases hv k hk with h1 | h1
      · exact .inl (.inr h1)
      · exact .inr h1
  have hall : ∀ j (hj : j < xs.length) k, fp ((xs.set i y)[j]'(by simpa using hj)) k → fp xs[j] k ∨ (w.heap.size ≤ k ∧ j = i) := fun j hj k hk => by
    by_cases hji : j = i
    · subst hji
      rw [heq] at hk
      rcases hfy k hk with h1 | h1
      · exact .inl h1
      · exact .inr ⟨h1, rfl⟩
    · rw [hne j hj hji] at hk
      exact .inl hk
  refine ⟨⟨ht.bk h.tab fun hh => (h.offb i hi b hh).1 rfl, ?_, ?_, fun j hj => ?_, h.wrk.touch ht (fun hh => h.offw i hi _ hh (.inl rfl)) (fun k hk hh => h.offw i hi k hh (.inr hk)), fun j l hj hl hjl k hk hk2 => ?_, fun j hj k hk hh => ?_, fun j hj k hk => ?_, h.wofb⟩, ?_, ht.mono fun k _ hk => .inr (.inr (.inl ⟨i, hi, hk⟩))⟩
  · rw [List.length_set]; exact h.shp
  · rw [List.length_set, ← hy, Vg.bcells_set]
    exact reads_touch h.row ht fun k hk hh => (h.offb i hi k hh).2 hk
  · have hj' : j < xs.length := by simpa using hj
    by_cases hji : j = i
    · subst hji
      rw [heq, ← hy]; exact hs
    · rw [hne j hj' hji]
      exact (h.srv j hj').touch ht (fun hh => h.dis j i hj' hi hji _ (.inl rfl) hh) fun k hk hh => h.dis j i hj' hi hji k (.inr hk) hh
  · have hj' : j < xs.length := by simpa using hj
    have hl' : l < xs.length := by simpa using hl
    rcases hall j hj' k hk with h1 | ⟨h1, h1'⟩
    · rcases hall l hl' k hk2 with h2 | ⟨h2, h2'⟩
      · exact h.dis j l hj' hl' hjl k h1 h2
      · have := h.fp_lt j hj' k h1; omega
    · rcases hall l hl' k hk2 with h2 | ⟨h2, h2'⟩
      · have := h.fp_lt l hl' k h2; omega
      · omega
  · have hj' : j < xs.length := by simpa using hj
    rcases hall j hj' k hk with h1 | ⟨h1, h1'⟩
    · exact h.offw j hj' k h1 hh
    · have := h.fw_lt k hh; omega
  · have hj' : j < xs.length := by simpa using hj
    rcases hall j hj' k hk with h1 | ⟨h1, h1'⟩
    · exact h.offb j hj' k h1
    · exact ⟨fun hh => by have := h.lt; omega, fun hh => by have := reads_lt h.row k hh; omega⟩
  · rintro k (hk | hk | ⟨j, hj, hk⟩ | hk)
    · exact .inl (.inl hk)
    · exact .inl (.inr (.inl hk))
    · have hj' : j < xs.length := by simpa using hj
      rcases hall j hj' k hk with h1 | ⟨h1, h1'⟩
      · exact .inl (.inr (.inr (.inl ⟨j, hj', h1⟩)))
      · exact .inr h1
    · exact .inl (.inr (.inr (.inr hk)))
end
end Go.Proofs.Ytiinhofmhoplfaa
