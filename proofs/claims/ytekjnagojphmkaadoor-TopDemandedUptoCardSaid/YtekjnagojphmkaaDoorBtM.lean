/- Bot, BotA, BotR, put together (a claim has at most 60 files). -/
import Derived.Test.YtekjnagojphmkaaDoorWkM
import Derived.Test.YtekjnagojphmkaaDoorSvM
set_option linter.unusedSimpArgs false
set_option linter.unusedVariables false
set_option maxHeartbeats 40000000
set_option maxRecDepth 100000
namespace Vg
open Go
structure Th where
  pr : Int
  bu : Int
  pe : Int
  dp : Int
structure Bp where
  t : Th
  s : Srv
structure Bt where
  p : Bp
  sb : Nat
  sv : Value
def bcells : List Bt → List Value
  | [] => []
  | x :: l => .int .i64 x.p.t.pr :: .int .i64 x.p.t.bu :: .int .i64 x.p.t.pe :: .int .i64 x.p.t.dp :: .pointer (some ⟨x.sb, 0, none⟩) :: bcells l
theorem bcells_length : ∀ l : List Bt, (bcells l).length = l.length * 5
  | [] => rfl
  | x :: l => by simp [bcells, bcells_length l]; omega
theorem bcells_append : ∀ l m : List Bt, bcells (l ++ m) = bcells l ++ bcells m
  | [], m => rfl
  | x :: l, m => by simp [bcells, bcells_append l m]
theorem bcells_get : ∀ (l : List Bt) (k : Nat) (h : k < l.length), (bcells l)[k * 5]? = some (.int .i64 l[k].p.t.pr) ∧ (bcells l)[k * 5 + 1]? = some (.int .i64 l[k].p.t.bu) ∧ (bcells l)[k * 5 + 2]? = some (.int .i64 l[k].p.t.pe) ∧ (bcells l)[k * 5 + 3]? = some (.int .i64 l[k].p.t.dp) ∧ (bcells l)[k * 5 + 4]? = some (.pointer (some ⟨l[k].sb, 0, none⟩))
  | [], k, h => by simp at h
  | x :: l, 0, _ => by simp [bcells]
  | x :: l, k + 1, h => by
    have := bcells_get l k (by simpa using h)
    rw [show (k + 1) * 5 = k * 5 + 1 + 1 + 1 + 1 + 1 from by omega]
    simpa [bcells] using this
theorem bcells_set : ∀ (l : List Bt) (k : Nat) (h : k < l.length) (s : Srv) (v : Value), bcells (l.set k ⟨⟨l[k].p.t, s⟩, l[k].sb, v⟩) = bcells l
  | [], k, h, _, _ => by simp at h
  | x :: l, 0, _, s, v => by simp [bcells]
  | x :: l, k + 1, h, s, v => by
    have := bcells_set l k (by simpa using h) s v
    simpa [bcells] using this
theorem Reads.thread {S : Nat} {w : World} {a : Option Addr} {c n : Nat} {xs : List Bt} (hn : xs.length = n) (h : Reads S w (.slice a n c) n (bcells xs)) (i : Nat) (hi : i < xs.length) :
    ∃ g o, a = some ⟨g, o, none⟩ ∧ g < w.heap.size ∧ n ≤ c ∧ c ≤ 9223372036854775807 ∧ w.cell? ⟨g, o + i * 5, none⟩ = some (.int .i64 xs[i].p.t.pr) ∧ w.cell? ⟨g, o + i * 5 + 1, none⟩ = some (.int .i64 xs[i].p.t.bu) ∧ w.cell? ⟨g, o + i * 5 + 2, none⟩ = some (.int .i64 xs[i].p.t.pe) ∧ w.cell? ⟨g, o + i * 5 + 3, none⟩ = some (.int .i64 xs[i].p.t.dp) ∧ w.cell? ⟨g, o + i * 5 + 4, none⟩ = some (.pointer (some ⟨xs[i].sb, 0, none⟩)) := by
  subst hn
  have hl := bcells_length xs
  obtain ⟨g, o, rfl, hg, hc, hm, hx⟩ := h.open (by omega)
  obtain ⟨g0, g1, g2, g3, g4⟩ := bcells_get xs i hi
  have key : ∀ j u, i * 5 + j < (bcells xs).length → (bcells xs)[i * 5 + j]? = some u → w.cell? ⟨g, o + i * 5 + j, none⟩ = some u := fun j u hj hu => by
    have := hx (i * 5 + j) hj
    rw [← Nat.add_assoc] at this
    rw [this, ← hu, List.getElem?_eq_getElem]
  have hhc : c ≤ 9223372036854775807 := hm
  exact ⟨g, o, rfl, hg, hc, hhc, by simpa using key 0 _ (by omega) g0, key 1 _ (by omega) g1, key 2 _ (by omega) g2, key 3 _ (by omega) g3, key 4 _ (by omega) g4⟩
/-- Plain words. -/
def Bo.wait (n : Nat) (Q : List Wq) (i : Int) : Int := if i < 0 ∨ (n : Int) ≤ i then 0 else Wk.waiting Q i
def Bo.lost (n : Nat) (Q : List Wq) (i : Int) : Int := if i < 0 ∨ (n : Int) ≤ i then 0 else Wk.lost Q i
def Bo.put (n : Nat) (Q : List Wq) (i c : Int) : List Wq × Int := if i < 0 ∨ (n : Int) ≤ i then (Q, 1) else Wk.put Q i c
def Bo.ableK (Bs : List Bp) (Q : List Wq) (i : Nat) : Bool :=
  match Bs[i]? with
  | none => false
  | some x => decide (0 < Wk.waiting Q i) && decide (0 < x.s.left x.t.bu)
def Bo.able (Bs : List Bp) (Q : List Wq) (i : Int) : Bool := if i < 0 then false else Bo.ableK Bs Q i.toNat
def Bo.left (Bs : List Bp) (Q : List Wq) (i : Int) : Int :=
  if i < 0 then 0 else
  match Bs[i.toNat]? with
  | none => 0
  | some x => if Bo.ableK Bs Q i.toNat = true then min (Wk.left Q i) (x.s.left x.t.bu) else 0
def Bo.run (Bs : List Bp) (Q : List Wq) (i n en : Int) : List Bp × List Wq × Bool × Int :=
  if i < 0 then (Bs, Q, false, 1) else
  match Bs[i.toNat]? with
  | none => (Bs, Q, false, 1)
  | some x =>
    if n < 0 ∨ Bo.left Bs Q i < n then (Bs, Q, false, 1) else
    if Bo.ableK Bs Q i.toNat = false then (Bs, Q, false, 7) else
    if (x.s.use x.t.bu x.t.pe n en).2 ≠ 0 then (Bs.set i.toNat ⟨x.t, (x.s.use x.t.bu x.t.pe n en).1⟩, Q, false, (x.s.use x.t.bu x.t.pe n en).2) else
    (Bs.set i.toNat ⟨x.t, (x.s.use x.t.bu x.t.pe n en).1⟩, (Wk.go Q i n).1, (Wk.go Q i n).2.1, (Wk.go Q i n).2.2)
def Bo.later (now : Int) (x : Bp) : Bool := decide (x.s.last ≤ now) && decide (now ≤ 4503599627370496)
def Bo.rf (now : Int) (x : Bp) : Bp := ⟨x.t, (x.s.refill now).1⟩
def Bo.refill (Bs : List Bp) (now : Int) : List Bp × Int := if Bs.all (Bo.later now) = true then (Bs.map (Bo.rf now), 0) else (Bs, 1)
def Bo.cand (Bs : List Bp) (Q : List Wq) (i : Nat) : Option Int :=
  match Bs[i]? with
  | none => none
  | some x => if Wk.waiting Q i = 0 ∨ 0 < x.s.left x.t.bu then none else match x.s.L with | [] => none | y :: _ => some y.1
def Bo.least : Option Int → Int × Bool → Int × Bool
  | none, r => r
  | some a, r => if r.2 = false ∨ a < r.1 then (a, true) else r
def Bo.nextK (Bs : List Bp) (Q : List Wq) : Nat → Int × Bool
  | 0 => (0, false)
  | k + 1 => Bo.least (Bo.cand Bs Q k) (Bo.nextK Bs Q k)
def Bo.next (Bs : List Bp) (Q : List Wq) : Int × Bool := Bo.nextK Bs Q Bs.length
/-- What holds of threads. -/
def Bp.ok (x : Bp) : Prop := (1 ≤ x.t.bu ∧ x.t.bu ≤ 1099511627776) ∧ (1 ≤ x.t.pe ∧ x.t.pe ≤ 1099511627776) ∧ (0 ≤ x.t.pr ∧ x.t.pr ≤ 63) ∧ x.s.Inv x.t.bu
structure Bo.Inv (k : Nat) (Bs : List Bp) (Q : List Wq) : Prop where
  each : ∀ x ∈ Bs, x.ok
  wk : Wk.Inv k Q
  len : Bs = [] ∨ Q.length = Bs.length
theorem Bo.Inv.le {k : Nat} {Bs : List Bp} {Q : List Wq} (h : Bo.Inv k Bs Q) : Bs.length ≤ 64 := by
  rcases h.len with h1 | h1
  · rw [h1]; simp
  · have := h.wk.len; omega
theorem Bo.Inv.at {k : Nat} {Bs : List Bp} {Q : List Wq} (h : Bo.Inv k Bs Q) (i : Nat) (hi : i < Bs.length) : Bs[i].ok ∧ i < Q.length := by
  refine ⟨h.each _ (List.getElem_mem _), ?_⟩
  rcases h.len with h1 | h1
  · subst h1; simp at hi
  · omega
theorem Bo.wait_in {n : Nat} {Q : List Wq} {i : Nat} (h : i < n) : Bo.wait n Q i = Wk.waiting Q i := if_neg (by omega)
theorem Bo.lost_in {n : Nat} {Q : List Wq} {i : Nat} (h : i < n) : Bo.lost n Q i = Wk.lost Q i := if_neg (by omega)
theorem Bo.put_in {n : Nat} {Q : List Wq} {i : Nat} {c : Int} (h : i < n) : Bo.put n Q i c = Wk.put Q i c := if_neg (by omega)
theorem Bo.wait_out {n : Nat} {Q : List Wq} {i : Int} (h : i < 0 ∨ (n : Int) ≤ i) : Bo.wait n Q i = 0 := if_pos h
theorem Bo.lost_out {n : Nat} {Q : List Wq} {i : Int} (h : i < 0 ∨ (n : Int) ≤ i) : Bo.lost n Q i = 0 := if_pos h
theorem Bo.put_out {n : Nat} {Q : List Wq} {i c : Int} (h : i < 0 ∨ (n : Int) ≤ i) : Bo.put n Q i c = (Q, 1) := if_pos h
theorem Bo.able_in {Bs : List Bp} {Q : List Wq} {i : Nat} (h : i < Bs.length) : Bo.able Bs Q i = (decide (0 < Wk.waiting Q i) && decide (0 < Bs[i].s.left Bs[i].t.bu)) := by
  unfold Bo.able Bo.ableK
  rw [if_neg (by omega)]
  simp [List.getElem?_eq_getElem h]
theorem Bo.ableK_eq {Bs : List Bp} {Q : List Wq} (i : Nat) : Bo.ableK Bs Q i = Bo.able Bs Q i := by
  unfold Bo.able
  rw [if_neg (by omega)]
  simp
theorem Bo.able_out {Bs : List Bp} {Q : List Wq} {i : Int} (h : i < 0 ∨ (Bs.length : Int) ≤ i) : Bo.able Bs Q i = false := by
  unfold Bo.able Bo.ableK
  by_cases h0 : i < 0
  · rw [if_pos h0]
  · rw [if_neg h0, List.getElem?_eq_none (by omega)]
theorem Bo.left_in {Bs : List Bp} {Q : List Wq} {i : Nat} (h : i < Bs.length) : Bo.left Bs Q i = if Bo.able Bs Q i = true then min (Wk.left Q i) (Bs[i].s.left Bs[i].t.bu) else 0 := by
  rw [← Bo.ableK_eq]
  unfold Bo.left
  rw [if_neg (by omega)]
  simp [List.getElem?_eq_getElem h]
theorem Bo.left_out {Bs : List Bp} {Q : List Wq} {i : Int} (h : i < 0 ∨ (Bs.length : Int) ≤ i) : Bo.left Bs Q i = 0 := by
  unfold Bo.left
  by_cases h0 : i < 0
  · rw [if_pos h0]
  · rw [if_neg h0, List.getElem?_eq_none (by omega)]
theorem Bo.left_no {Bs : List Bp} {Q : List Wq} {i : Int} (h : Bo.able Bs Q i = false) : Bo.left Bs Q i = 0 := by
  by_cases ho : i < 0 ∨ (Bs.length : Int) ≤ i
  · exact Bo.left_out ho
  · obtain ⟨j, rfl⟩ : ∃ j : Nat, i = j := ⟨i.toNat, by omega⟩
    rw [Bo.left_in (by omega), h]; rfl
end Vg
namespace Go.Proofs.YtekjnagojphmkaaDoor
open Go.ChangeShapes Go.WideShapes Go.ChangeAt Go.RowKit
abbrev botC (rv : Value) (wb : Nat) : Obj := .cells #[rv, .pointer (some ⟨wb, 0, none⟩)] 122
/-- The blocks of a thread's server. -/
def fp (x : Vg.Bt) (k : Nat) : Prop := k = x.sb ∨ x.sv.ownBlock = some k
def fw (wb : Nat) (O : Nat → Prop) (k : Nat) : Prop := k = wb ∨ O k
/-- Threads lie at block b. -/
structure BT (w : World) (b : Nat) (xs : List Vg.Bt) (rv : Value) (wb : Nat) (Q : List Vg.Wq) (wv : Value) (O : Nat → Prop) : Prop where
  tab : Vg.blk w b = some (botC rv wb)
  shp : ∃ a c, rv = .slice a xs.length c
  row : Vg.Reads 0 w rv xs.length (Vg.bcells xs)
  srv : ∀ i (h : i < xs.length), SA w xs[i].sb (xs[i].sb + 1) xs[i].p.t.bu xs[i].p.t.pe xs[i].p.s xs[i].sv
  wrk : WS w wb (wb + 1) Q wv O
  dis : ∀ i j (hi : i < xs.length) (hj : j < xs.length), i ≠ j → ∀ k, fp xs[i] k → ¬ fp xs[j] k
  offw : ∀ i (hi : i < xs.length) k, fp xs[i] k → ¬ fw wb O k
  offb : ∀ i (hi : i < xs.length) k, fp xs[i] k → k ≠ b ∧ rv.ownBlock ≠ some k
  wofb : ∀ k, fw wb O k → k ≠ b ∧ rv.ownBlock ≠ some k
def bown (b : Nat) (xs : List Vg.Bt) (rv : Value) (wb : Nat) (O : Nat → Prop) (k : Nat) : Prop := k = b ∨ rv.ownBlock = some k ∨ (∃ i, ∃ h : i < xs.length, fp xs[i] k) ∨ fw wb O k
section
variable {w w' : World} {b wb : Nat} {xs : List Vg.Bt} {rv wv : Value} {Q Q' : List Vg.Wq} {O O' : Nat → Prop}
theorem BT.lt (h : BT w b xs rv wb Q wv O) : b < w.heap.size := Vg.lt_of h.tab
theorem BT.fp_lt (h : BT w b xs rv wb Q wv O) (i : Nat) (hi : i < xs.length) : ∀ k, fp xs[i] k → k < w.heap.size := by
  rintro k (rfl | hk)
  · exact (h.srv i hi).lt
  · exact ((h.srv i hi).own k hk).2
theorem BT.fw_lt (h : BT w b xs rv wb Q wv O) : ∀ k, fw wb O k → k < w.heap.size := by
  rintro k (rfl | hk)
  · have := h.wrk.hB; omega
  · exact (h.wrk.own k hk).2
theorem reads_lt {S : Nat} {w : World} {sv : Value} {n : Nat} {xs : List Value} (h : Vg.Reads S w sv n xs) : ∀ k, sv.ownBlock = some k → k < w.heap.size := by
  intro k hk
  rcases h with ⟨rfl, _⟩ | ⟨g, off, cap, rfl, h2, h3, _⟩
  · simp [Value.ownBlock] at hk
  · have : g = k := by simpa [Value.ownBlock] using hk
    omega
theorem BT.own_lt (h : BT w b xs rv wb Q wv O) : ∀ k, bown b xs rv wb O k → k < w.heap.size := by
  rintro k (rfl | hk | ⟨i, hi, hk⟩ | hk)
  · exact h.lt
  · exact reads_lt h.row k hk
  · exact h.fp_lt i hi k hk
  · exact h.fw_lt k hk
theorem reads_touch {S : Nat} {w w' : World} {t : Nat → Prop} {sv : Value} {n : Nat} {xs : List Value} (h : Vg.Reads S w sv n xs) (ht : Vg.Touch t w w') (ha : ∀ k, sv.ownBlock = some k → ¬ t k) : Vg.Reads S w' sv n xs := h.touch ht ha
theorem BT.grows (h : BT w b xs rv wb Q wv O) (hg : Vg.Grows w w') : BT w' b xs rv wb Q wv O :=
  ⟨hg.blk h.tab, h.shp, h.row.grows hg, fun i hi => (h.srv i hi).grows hg, h.wrk.grows hg, h.dis, h.offw, h.offb, h.wofb⟩
theorem BT.touch {t : Nat → Prop} (h : BT w b xs rv wb Q wv O) (ht : Vg.Touch t w w') (hv : ∀ k, bown b xs rv wb O k → ¬ t k) : BT w' b xs rv wb Q wv O :=
  ⟨ht.bk h.tab (hv b (.inl rfl)), h.shp, reads_touch h.row ht fun k hk => hv k (.inr (.inl hk)),
    fun i hi => (h.srv i hi).touch ht (hv _ (.inr (.inr (.inl ⟨i, hi, .inl rfl⟩)))) fun k hk => hv k (.inr (.inr (.inl ⟨i, hi, .inr hk⟩))),
    h.wrk.touch ht (hv _ (.inr (.inr (.inr (.inl rfl))))) fun k hk => hv k (.inr (.inr (.inr (.inr hk)))), h.dis, h.offw, h.offb, h.wofb⟩
/-- The queues alone have changed. -/
theorem BT.work (h : BT w b xs rv wb Q wv O) (hs : WSn w w' wb (wb + 1) Q' wv O) : ∃ O', BT w' b xs rv wb Q' wv O' ∧ (∀ k, bown b xs rv wb O' k → bown b xs rv wb O k ∨ w.heap.size ≤ k) ∧ Vg.Touch (bown b xs rv wb O) w w' := by
  obtain ⟨O', h1, h2, h3⟩ := hs
  have hO : ∀ k, fw wb O' k → fw wb O k ∨ w.heap.size ≤ k := by
    rintro k (rfl | hk)
    · exact .inl (.inl rfl)
    · rcases h2 k hk with h4 | h4
      · exact .inl (.inr h4)
      · exact .inr h4
  refine ⟨O', ⟨h3.bk h.tab fun hh => (h.wofb b (.inr hh)).1 rfl, h.shp, reads_touch h.row h3 fun k hk hh => (h.wofb k (.inr hh)).2 hk,
    fun i hi => (h.srv i hi).touch h3 (fun hh => h.offw i hi _ (.inl rfl) (.inr hh)) fun k hk hh => h.offw i hi k (.inr hk) (.inr hh), h1, h.dis, fun i hi k hk hh => ?_, h.offb, fun k hk => ?_⟩, ?_, h3.mono fun k _ hk => .inr (.inr (.inr (.inr hk)))⟩
  · rcases hO k hh with h4 | h4
    · exact h.offw i hi k hk h4
    · have := h.fp_lt i hi k hk; omega
  · rcases hO k hk with h4 | h4
    · exact h.wofb k h4
    · refine ⟨fun hh => by have := h.lt; omega, fun hh => by have := reads_lt h.row k hh; omega⟩
  · rintro k (hk | hk | hk | hk)
    · exact .inl (.inl hk)
    · exact .inl (.inr (.inl hk))
    · exact .inl (.inr (.inr (.inl hk)))
    · rcases hO k hk with h4 | h4
      · exact .inl (.inr (.inr (.inr h4)))
      · exact .inr h4
/-- One server alone has changed. -/
theorem BT.server {i : Nat} {s' : Vg.Srv} {v' : Value} (hi : i < xs.length) (h : BT w b xs rv wb Q wv O) (hs : SA w' xs[i].sb (xs[i].sb + 1) xs[i].p.t.bu xs[i].p.t.pe s' v')
    (ht : Vg.Touch (fun k => k = xs[i].sb ∨ xs[i].sv.ownBlock = some k) w w') (hv : ∀ k, v'.ownBlock = some k → xs[i].sv.ownBlock = some k ∨ w.heap.size ≤ k) :
    BT w' b (xs.set i ⟨⟨xs[i].p.t, s'⟩, xs[i].sb, v'⟩) rv wb Q wv O ∧ (∀ k, bown b (xs.set i ⟨⟨xs[i].p.t, s'⟩, xs[i].sb, v'⟩) rv wb O k → bown b xs rv wb O k ∨ w.heap.size ≤ k) ∧ Vg.Touch (bown b xs rv wb O) w w' := by
  have ht : Vg.Touch (fp xs[i]) w w' := ht
  obtain ⟨y, hy⟩ : ∃ y : Vg.Bt, (⟨⟨xs[i].p.t, s'⟩, xs[i].sb, v'⟩ : Vg.Bt) = y := ⟨_, rfl⟩
  rw [hy]
  have hne : ∀ j (hj : j < xs.length), j ≠ i → (xs.set i y)[j]'(by simpa using hj) = xs[j] := fun j hj hji => List.getElem_set_ne (fun hh => hji hh.symm) _
  have heq : (xs.set i y)[i]'(by simpa using hi) = y := List.getElem_set_self _
  have hfy : ∀ k, fp y k → fp xs[i] k ∨ w.heap.size ≤ k := by
    subst hy
    rintro k (hk | hk)
    · exact .inl (.inl hk)
    · rcases hv k hk with h1 | h1
      · exact .inl (.inr h1)
      · exact .inr h1
  have hall : ∀ j (hj : j < xs.length) k, fp ((xs.set i y)[j]'(by simpa using hj)) k → fp xs[j] k ∨ (w.heap.size ≤ k ∧ j = i) := fun j hj k hk => by
    by_cases hji : j = i
    · subst hji
      rw [heq] at hk
      rcases hfy k hk with h1 | h1
      · exact .inl h1
      · exact .inr ⟨h1, rfl⟩
    · rw [hne j hj hji] at hk
      exact .inl hk
  refine ⟨⟨ht.bk h.tab fun hh => (h.offb i hi b hh).1 rfl, ?_, ?_, fun j hj => ?_, h.wrk.touch ht (fun hh => h.offw i hi _ hh (.inl rfl)) (fun k hk hh => h.offw i hi k hh (.inr hk)), fun j l hj hl hjl k hk hk2 => ?_, fun j hj k hk hh => ?_, fun j hj k hk => ?_, h.wofb⟩, ?_, ht.mono fun k _ hk => .inr (.inr (.inl ⟨i, hi, hk⟩))⟩
  · rw [List.length_set]; exact h.shp
  · rw [List.length_set, ← hy, Vg.bcells_set]
    exact reads_touch h.row ht fun k hk hh => (h.offb i hi k hh).2 hk
  · have hj' : j < xs.length := by simpa using hj
    by_cases hji : j = i
    · subst hji
      rw [heq, ← hy]; exact hs
    · rw [hne j hj' hji]
      exact (h.srv j hj').touch ht (fun hh => h.dis j i hj' hi hji _ (.inl rfl) hh) fun k hk hh => h.dis j i hj' hi hji k (.inr hk) hh
  · have hj' : j < xs.length := by simpa using hj
    have hl' : l < xs.length := by simpa using hl
    rcases hall j hj' k hk with h1 | ⟨h1, h1'⟩
    · rcases hall l hl' k hk2 with h2 | ⟨h2, h2'⟩
      · exact h.dis j l hj' hl' hjl k h1 h2
      · have := h.fp_lt j hj' k h1; omega
    · rcases hall l hl' k hk2 with h2 | ⟨h2, h2'⟩
      · have := h.fp_lt l hl' k h2; omega
      · omega
  · have hj' : j < xs.length := by simpa using hj
    rcases hall j hj' k hk with h1 | ⟨h1, h1'⟩
    · exact h.offw j hj' k h1 hh
    · have := h.fw_lt k hh; omega
  · have hj' : j < xs.length := by simpa using hj
    rcases hall j hj' k hk with h1 | ⟨h1, h1'⟩
    · exact h.offb j hj' k h1
    · exact ⟨fun hh => by have := h.lt; omega, fun hh => by have := reads_lt h.row k hh; omega⟩
  · rintro k (hk | hk | ⟨j, hj, hk⟩ | hk)
    · exact .inl (.inl hk)
    · exact .inl (.inr (.inl hk))
    · have hj' : j < xs.length := by simpa using hj
      rcases hall j hj' k hk with h1 | ⟨h1, h1'⟩
      · exact .inl (.inr (.inr (.inl ⟨j, hj', h1⟩)))
      · exact .inr h1
    · exact .inl (.inr (.inr (.inr hk)))
end
end Go.Proofs.YtekjnagojphmkaaDoor
namespace Vg
open Go
theorem Touch.next {w w2 w3 : World} {t t' : Nat → Prop} (h1 : Touch t w w2) (h2 : Touch t' w2 w3) (hn : ∀ k, t' k → t k ∨ w.heap.size ≤ k) : Touch t w w3 :=
  ⟨h2.os.trans h1.os, h2.tape.trans h1.tape, h2.output.trans h1.output, Nat.le_trans h1.size h2.size, fun k hk ht => (h2.block k (Nat.lt_of_lt_of_le hk h1.size) fun hh => by
    rcases hn k hh with h | h
    · exact ht h
    · omega).trans (h1.block k hk ht)⟩
end Vg
namespace Go.Proofs.YtekjnagojphmkaaDoor
open Go.ChangeShapes Go.WideShapes Go.ChangeAt Go.RowKit
/-- What a call that writes leaves. -/
def BTn (w w' : World) (b : Nat) (xs : List Vg.Bt) (rv : Value) (wb : Nat) (Q' : List Vg.Wq) (wv : Value) (O : Nat → Prop) (Bs' : List Vg.Bp) : Prop :=
  ∃ xs' O', BT w' b xs' rv wb Q' wv O' ∧ xs'.map (·.p) = Bs' ∧ (∀ k, bown b xs' rv wb O' k → bown b xs rv wb O k ∨ w.heap.size ≤ k) ∧ Vg.Touch (bown b xs rv wb O) w w'
section
variable {w w' : World} {b wb n : Nat} {xs : List Vg.Bt} {rv wv : Value} {Q Q' : List Vg.Wq} {O : Nat → Prop} {x r : Int} {is : Bool} {Bs' : List Vg.Bp}
theorem BTn.same (h : BT w b xs rv wb Q wv O) (hg : Vg.Grows w w') : BTn w w' b xs rv wb Q wv O (xs.map (·.p)) := ⟨xs, O, h.grows hg, rfl, fun k hk => .inl hk, Vg.Touch.of_grows hg⟩
theorem bot_has (i : Int) (h : BT w b xs rv wb Q wv O) (hn : xs.length = n) {is : Bool} (his : decide (0 ≤ i ∧ i < (n : Int)) = is) :
    Calls Tryd.prog 47 #[.pointer (some ⟨b, 0, none⟩), .int .i64 i] w fun e w' => e = .returned (.bool is) ∧ w = w' := by
  subst his
  obtain ⟨a, c, rfl⟩ := h.shp
  have c0 := Vg.cells_of h.tab 0
  simp at c0
  rw [hn] at c0
  clear h hn
  by_cases h0 : i < 0
  · go_enter Tryd.func47, Tryd.ntmps47
    go_wp2
    go_ret
    exact ⟨ret_bool (by simp <;> omega), rfl⟩
  · by_cases h1 : i < n
    · go_enter Tryd.func47, Tryd.ntmps47
      go_wp2
      go_ret
      exact ⟨ret_bool (by simp <;> omega), rfl⟩
    · go_enter Tryd.func47, Tryd.ntmps47
      go_wp2
      go_ret
      exact ⟨ret_bool (by simp <;> omega), rfl⟩
theorem bot_wait (i : Int) (h : BT w b xs rv wb Q wv O) (hx : Vg.Bo.wait xs.length Q i = x) :
    Calls Tryd.prog 80 #[.pointer (some ⟨b, 0, none⟩), .int .i64 i] w fun e w' => e = .returned (.int .i64 x) ∧ w = w' := by
  by_cases hi : i < 0 ∨ (xs.length : Int) ≤ i
  · rw [Vg.Bo.wait_out hi] at hx
    subst hx
    have hd : decide (0 ≤ i ∧ i < (xs.length : Int)) = false := by simp; omega
    have H_h := Lib.hid h; clear h; have H_hd := Lib.hid hd; clear hd
    go_enter Tryd.func80, Tryd.ntmps80
    go_wp2_with ((go_at_call 47; refine (bot_has i H_h.out rfl H_hd.out).mono ?_; rintro e w1 ⟨rfl, rfl⟩))
    go_ret
    exact ⟨rfl, rfl⟩
  · have hd : decide (0 ≤ i ∧ i < (xs.length : Int)) = true := by simp; omega
    unfold Vg.Bo.wait at hx
    rw [if_neg hi] at hx
    have c1 := Vg.cells_of h.tab 1
    simp at c1
    have H_h := Lib.hid h; clear h; have H_hd := Lib.hid hd; clear hd; have H_hx := Lib.hid hx; clear hx
    go_enter Tryd.func80, Tryd.ntmps80
    go_wp2_with (first | (go_at_call 47; refine (bot_has i H_h.out rfl H_hd.out).mono ?_; rintro e w1 ⟨rfl, rfl⟩) | (go_at_call 91; refine (ws_waiting i H_h.out.wrk H_hx.out).mono ?_; rintro e w1 ⟨rfl, rfl⟩))
    go_ret
    exact ⟨rfl, rfl⟩
theorem bot_put (i c : Int) (h : BT w b xs rv wb Q wv O) (hQ : ∀ q ∈ Q, q.ok) (hx : Vg.Bo.put xs.length Q i c = (Q', r)) :
    Calls Tryd.prog 17 #[.pointer (some ⟨b, 0, none⟩), .int .i64 i, .int .i64 c] w fun e w' => e = .returned (.int .i64 r) ∧ BTn w w' b xs rv wb Q' wv O (xs.map (·.p)) := by
  by_cases hi : i < 0 ∨ (xs.length : Int) ≤ i
  · rw [Vg.Bo.put_out hi] at hx
    simp only [Prod.mk.injEq] at hx
    obtain ⟨rfl, rfl⟩ := hx
    have hd : decide (0 ≤ i ∧ i < (xs.length : Int)) = false := by simp; omega
    have H_h := Lib.hid h; clear h; have H_hd := Lib.hid hd; clear hd; have H_hQ := Lib.hid hQ; clear hQ
    go_enter Tryd.func17, Tryd.ntmps17
    go_wp2_with ((go_at_call 47; refine (bot_has i H_h.out rfl H_hd.out).mono ?_; rintro e w1 ⟨rfl, rfl⟩))
    go_ret
    exact ⟨rfl, BTn.same H_h.out (Vg.Grows.refl _)⟩
  · have hd : decide (0 ≤ i ∧ i < (xs.length : Int)) = true := by simp; omega
    unfold Vg.Bo.put at hx
    rw [if_neg hi] at hx
    have c1 := Vg.cells_of h.tab 1
    simp at c1
    have H_h := Lib.hid h; clear h; have H_hd := Lib.hid hd; clear hd; have H_hx := Lib.hid hx; clear hx; have H_hQ := Lib.hid hQ; clear hQ
    go_enter Tryd.func17, Tryd.ntmps17
    go_wp2_with (first | (go_at_call 47; refine (bot_has i H_h.out rfl H_hd.out).mono ?_; rintro e w1 ⟨rfl, rfl⟩) | (go_at_call 48; refine (ws_put i c H_h.out.wrk H_hQ.out H_hx.out).mono ?_; rintro e w1 ⟨rfl, hn⟩; have HN := Lib.hid hn; clear hn))
    go_ret
    obtain ⟨O', h1, h2, h3⟩ := H_h.out.work HN.out
    exact ⟨rfl, xs, O', h1, rfl, h2, h3⟩
theorem bot_able (i : Int) (h : BT w b xs rv wb Q wv O) {is : Bool} (hx : Vg.Bo.able (xs.map (·.p)) Q i = is) :
    Calls Tryd.prog 52 #[.pointer (some ⟨b, 0, none⟩), .int .i64 i] w fun e w' => e = .returned (.bool is) ∧ w = w' := by
  subst hx
  by_cases ho : i < 0 ∨ (xs.length : Int) ≤ i
  · rw [Vg.Bo.able_out (by simpa using ho)]
    have hw := Vg.Bo.wait_out (Q := Q) ho
    have H_h := Lib.hid h; clear h; have H_hw := Lib.hid hw; clear hw
    go_enter Tryd.func52, Tryd.ntmps52
    go_wp2_with ((go_at_call 80; refine (bot_wait i H_h.out H_hw.out).mono ?_; rintro e w1 ⟨rfl, rfl⟩))
    go_ret
    exact ⟨rfl, rfl⟩
  · obtain ⟨j, rfl⟩ : ∃ j : Nat, i = j := ⟨i.toNat, by omega⟩
    have hj : j < xs.length := by omega
    rw [Vg.Bo.able_in (by simpa using hj), List.getElem_map]
    obtain ⟨wt, hwt⟩ : ∃ wt, Vg.Wk.waiting Q j = wt := ⟨_, rfl⟩
    have hw : Vg.Bo.wait xs.length Q j = wt := by rw [Vg.Bo.wait_in hj]; exact hwt
    rw [hwt]
    obtain ⟨a, c, rfl⟩ := h.shp
    have c0 := Vg.cells_of h.tab 0
    simp at c0
    have hs := h.srv j hj
    obtain ⟨g, o, rfl, hg, hcc, hcm, d0, d1, d2, d3, d4⟩ := h.row.thread rfl j hj
    obtain ⟨lf, hlf⟩ : ∃ lf, xs[j].p.s.left xs[j].p.t.bu = lf := ⟨_, rfl⟩
    rw [hlf]
    obtain ⟨sb, hsb⟩ : ∃ sb, xs[j].sb = sb := ⟨_, rfl⟩
    rw [hsb] at d4 hs
    obtain ⟨n, hn⟩ : ∃ n, xs.length = n := ⟨_, rfl⟩
    have hj0 : (0 : Int) ≤ j := by omega
    have hj1 : (j : Int) < n := by omega
    have hjn : j < n := by omega
    have hb := h
    rw [hn] at c0 hcc
    clear d0 d1 d2 d3
    by_cases hp : 0 < wt
    · have H_h := Lib.hid h; clear h; have H_hw := Lib.hid hw; clear hw; have H_hwt := Lib.hid hwt; clear hwt; have H_hs := Lib.hid hs; clear hs; have H_hlf := Lib.hid hlf; clear hlf; have H_hsb := Lib.hid hsb; clear hsb; have H_hn := Lib.hid hn; clear hn; have H_hb := Lib.hid hb; clear hb
      go_enter Tryd.func52, Tryd.ntmps52
      go_wp2_with (first | (go_at_call 80; refine (bot_wait j H_h.out H_hw.out).mono ?_; rintro e w1 ⟨rfl, rfl⟩) | (go_at_call 54; refine (sa_left H_hs.out).mono ?_; rintro e w1 ⟨rfl, rfl⟩; rw [H_hlf.out]))
      go_ret
      exact ⟨ret_bool (by simp [hp]), rfl⟩
    · have H_h := Lib.hid h; clear h; have H_hw := Lib.hid hw; clear hw; have H_hwt := Lib.hid hwt; clear hwt; have H_hs := Lib.hid hs; clear hs; have H_hlf := Lib.hid hlf; clear hlf; have H_hsb := Lib.hid hsb; clear hsb; have H_hn := Lib.hid hn; clear hn; have H_hb := Lib.hid hb; clear hb
      go_enter Tryd.func52, Tryd.ntmps52
      go_wp2_with (first | (go_at_call 80; refine (bot_wait j H_h.out H_hw.out).mono ?_; rintro e w1 ⟨rfl, rfl⟩) | (go_at_call 54; refine (sa_left H_hs.out).mono ?_; rintro e w1 ⟨rfl, rfl⟩; rw [H_hlf.out]))
      go_ret
      exact ⟨ret_bool (by simp; omega), rfl⟩
theorem bot_left (i : Int) (h : BT w b xs rv wb Q wv O) (hx : Vg.Bo.left (xs.map (·.p)) Q i = x) :
    Calls Tryd.prog 20 #[.pointer (some ⟨b, 0, none⟩), .int .i64 i] w fun e w' => e = .returned (.int .i64 x) ∧ ∃ k, w' = w.drewN k := by
  subst hx
  cases hab : Vg.Bo.able (xs.map (·.p)) Q i with
  | false =>
    rw [Vg.Bo.left_no hab]
    have H_h := Lib.hid h; clear h; have H_hab := Lib.hid hab; clear hab
    go_enter Tryd.func20, Tryd.ntmps20
    go_wp2_with ((go_at_call 52; refine (bot_able i H_h.out H_hab.out).mono ?_; rintro e w1 ⟨rfl, rfl⟩))
    go_ret
    exact ⟨rfl, 0, rfl⟩
  | true =>
    have ho : ¬ (i < 0 ∨ (xs.length : Int) ≤ i) := fun hh => by rw [Vg.Bo.able_out (by simpa using hh)] at hab; cases hab
    obtain ⟨j, rfl⟩ : ∃ j : Nat, i = j := ⟨i.toNat, by omega⟩
    have hj : j < xs.length := by omega
    rw [Vg.Bo.left_in (by simpa using hj), if_pos hab, List.getElem_map]
    obtain ⟨wl, hwl⟩ : ∃ wl, Vg.Wk.left Q j = wl := ⟨_, rfl⟩
    rw [hwl]
    obtain ⟨a, c, rfl⟩ := h.shp
    have c0 := Vg.cells_of h.tab 0
    have c1 := Vg.cells_of h.tab 1
    simp at c0 c1
    have hs := h.srv j hj
    obtain ⟨g, o, rfl, hg, hcc, hcm, d0, d1, d2, d3, d4⟩ := h.row.thread rfl j hj
    obtain ⟨lf, hlf⟩ : ∃ lf, xs[j].p.s.left xs[j].p.t.bu = lf := ⟨_, rfl⟩
    rw [hlf]
    obtain ⟨sb, hsb⟩ : ∃ sb, xs[j].sb = sb := ⟨_, rfl⟩
    rw [hsb] at d4 hs
    obtain ⟨n, hn⟩ : ∃ n, xs.length = n := ⟨_, rfl⟩
    have hj0 : (0 : Int) ≤ j := by omega
    have hj1 : (j : Int) < n := by omega
    have hjn : j < n := by omega
    rw [hn] at c0 hcc
    clear d0 d1 d2 d3
    have hcase : (wl < lf ∧ min wl lf = wl) ∨ (¬ wl < lf ∧ min wl lf = lf) := by omega
    rcases hcase with ⟨hm1, hm2⟩ | ⟨hm1, hm2⟩
    all_goals
      rw [hm2]
      have H_h := Lib.hid h; clear h; have H_hwl := Lib.hid hwl; clear hwl; have H_hs := Lib.hid hs; clear hs; have H_hlf := Lib.hid hlf; clear hlf; have H_hsb := Lib.hid hsb; clear hsb; have H_hn := Lib.hid hn; clear hn; have H_hab := Lib.hid hab; clear hab; have H_hm2 := Lib.hid hm2; clear hm2
      go_enter Tryd.func20, Tryd.ntmps20
      go_wp2_with ((go_at_call 52; refine (bot_able j H_h.out H_hab.out).mono ?_; rintro e w1 ⟨rfl, rfl⟩))
      go_region_with (first | (go_at_call 53; refine (ws_left j (H_h.out.wrk.grows (by (repeat' (first | (with_reducible exact Vg.Grows.refl _) | (with_reducible assumption) | (with_reducible refine Vg.Grows.alloc ?_ _) | (with_reducible refine Vg.Grows.plus ?_ _ _) | (with_reducible refine Vg.Grows.drewN ?_ _) | (with_reducible refine Vg.Grows.drew ?_) | (with_reducible refine Vg.Grows.setCell ?_ ?_ _) | (with_reducible refine Vg.Grows.put ?_ ?_ _) | omega | (simp; omega) | (simp; done))))) H_hwl.out).mono ?_; rintro e w1 ⟨rfl, rfl⟩) | (go_at_call 54; refine (sa_left (H_hs.out.grows (by (repeat' (first | (with_reducible exact Vg.Grows.refl _) | (with_reducible assumption) | (with_reducible refine Vg.Grows.alloc ?_ _) | (with_reducible refine Vg.Grows.plus ?_ _ _) | (with_reducible refine Vg.Grows.drewN ?_ _) | (with_reducible refine Vg.Grows.drew ?_) | (with_reducible refine Vg.Grows.setCell ?_ ?_ _) | (with_reducible refine Vg.Grows.put ?_ ?_ _) | omega | (simp; omega) | (simp; done)))))).mono ?_; rintro e w1 ⟨rfl, rfl⟩; rw [H_hlf.out]))
      all_goals go_wp2
      all_goals go_ret
      all_goals exact ⟨ret_int (by omega), _, rfl⟩
end
end Go.Proofs.YtekjnagojphmkaaDoor
namespace Vg
open Go
theorem Bo.run_out {Bs : List Bp} {Q : List Wq} {i n en : Int} (h : i < 0 ∨ (Bs.length : Int) ≤ i) : Bo.run Bs Q i n en = (Bs, Q, false, 1) := by
  unfold Bo.run
  by_cases h0 : i < 0
  · rw [if_pos h0]
  · rw [if_neg h0, List.getElem?_eq_none (by omega)]
theorem Bo.run_in {Bs : List Bp} {Q : List Wq} {i : Nat} {n en : Int} (h : i < Bs.length) : Bo.run Bs Q i n en =
    if n < 0 ∨ Bo.left Bs Q i < n then (Bs, Q, false, 1) else
    if Bo.able Bs Q i = false then (Bs, Q, false, 7) else
    if (Bs[i].s.use Bs[i].t.bu Bs[i].t.pe n en).2 ≠ 0 then (Bs.set i ⟨Bs[i].t, (Bs[i].s.use Bs[i].t.bu Bs[i].t.pe n en).1⟩, Q, false, (Bs[i].s.use Bs[i].t.bu Bs[i].t.pe n en).2) else
    (Bs.set i ⟨Bs[i].t, (Bs[i].s.use Bs[i].t.bu Bs[i].t.pe n en).1⟩, (Wk.go Q i n).1, (Wk.go Q i n).2.1, (Wk.go Q i n).2.2) := by
  rw [← Bo.ableK_eq]
  unfold Bo.run
  rw [if_neg (by omega)]
  simp [List.getElem?_eq_getElem h]
def Bo.mix (now : Int) (Bs : List Bp) (k : Nat) : List Bp := (Bs.take k).map (Bo.rf now) ++ Bs.drop k
theorem Bo.mix_len (now : Int) (Bs : List Bp) (k : Nat) (hk : k ≤ Bs.length) : (Bo.mix now Bs k).length = Bs.length := by
  unfold Bo.mix; simp; omega
theorem Bo.mix_get (now : Int) (Bs : List Bp) (k : Nat) (hk : k < Bs.length) : (Bo.mix now Bs k)[k]? = some Bs[k] := by
  unfold Bo.mix
  rw [List.getElem?_append_right (by simp; omega)]
  simp
  rw [show k - min k Bs.length = 0 by omega]
  simp [List.getElem?_eq_getElem hk]
theorem Bo.mix_succ (now : Int) (Bs : List Bp) (k : Nat) (hk : k < Bs.length) : (Bo.mix now Bs k).set k (Bo.rf now Bs[k]) = Bo.mix now Bs (k + 1) := by
  unfold Bo.mix
  rw [List.take_succ_eq_append_getElem hk, List.map_append, List.set_append_right _ _ (by simp; omega)]
  have e : k - ((Bs.take k).map (Bo.rf now)).length = 0 := by simp; omega
  rw [e, List.drop_eq_getElem_cons hk, List.set_cons_zero, List.append_assoc]
  rfl
theorem Bo.mix_all (now : Int) (Bs : List Bp) : Bo.mix now Bs Bs.length = Bs.map (Bo.rf now) := by
  unfold Bo.mix
  simp
end Vg
namespace Go.Proofs.YtekjnagojphmkaaDoor
open Go.ChangeShapes Go.WideShapes Go.ChangeAt Go.RowKit
section
variable {w w' w2 w3 : World} {b wb n : Nat} {xs xs' : List Vg.Bt} {rv wv : Value} {Q Q' Q1 Q2 : List Vg.Wq} {O O' : Nat → Prop} {x r : Int} {is : Bool} {Bs' Bs1 Bs2 : List Vg.Bp}
theorem BTn.next (ho : ∀ k, bown b xs' rv wb O' k → bown b xs rv wb O k ∨ w.heap.size ≤ k) (ht : Vg.Touch (bown b xs rv wb O) w w2) (h2 : BTn w2 w3 b xs' rv wb Q2 wv O' Bs2) : BTn w w3 b xs rv wb Q2 wv O Bs2 := by
  obtain ⟨ys, O2, hb, hm, ho2, ht2⟩ := h2
  refine ⟨ys, O2, hb, hm, fun k hk => ?_, ht.next ht2 ho⟩
  rcases ho2 k hk with h1 | h1
  · exact ho k h1
  · exact .inr (Nat.le_trans ht.size h1)
theorem BT.serv {i : Nat} {y : Vg.Bt} {s' : Vg.Srv} {v' : Value} (hi : i < xs.length) (hy : xs[i] = y) (h : BT w b xs rv wb Q wv O) (hs : SA w' y.sb (y.sb + 1) y.p.t.bu y.p.t.pe s' v')
    (ht : Vg.Touch (fun k => k = y.sb ∨ y.sv.ownBlock = some k) w w') (hv : ∀ k, v'.ownBlock = some k → y.sv.ownBlock = some k ∨ w.heap.size ≤ k) :
    BT w' b (xs.set i ⟨⟨y.p.t, s'⟩, y.sb, v'⟩) rv wb Q wv O ∧ (∀ k, bown b (xs.set i ⟨⟨y.p.t, s'⟩, y.sb, v'⟩) rv wb O k → bown b xs rv wb O k ∨ w.heap.size ≤ k) ∧ Vg.Touch (bown b xs rv wb O) w w' := by
  subst hy
  exact h.server hi hs ht hv
theorem bot_run {k : Nat} (i m en : Int) (h : BT w b xs rv wb Q wv O) (hI : Vg.Bo.Inv k (xs.map (·.p)) Q) (hk : k ≤ 1000000) (hm : -9223372036854775808 ≤ m ∧ m ≤ 9223372036854775807) (hen : -9223372036854775808 ≤ en ∧ en ≤ 9223372036854775807)
    (hx : Vg.Bo.run (xs.map (·.p)) Q i m en = (Bs', Q', is, r)) :
    Calls Tryd.prog 21 #[.pointer (some ⟨b, 0, none⟩), .int .i64 i, .int .i64 m, .int .i64 en] w fun e w' => e = .returned (.tuple #[.bool is, .int .i64 r]) ∧ BTn w w' b xs rv wb Q' wv O Bs' := by
  by_cases ho : i < 0 ∨ (xs.length : Int) ≤ i
  · rw [Vg.Bo.run_out (by simpa using ho)] at hx
    simp only [Prod.mk.injEq] at hx
    obtain ⟨rfl, rfl, rfl, rfl⟩ := hx
    have hd : decide (0 ≤ i ∧ i < (xs.length : Int)) = false := by simp; omega
    have H_h := Lib.hid h; clear h; have H_hd := Lib.hid hd; clear hd; have H_hI := Lib.hid hI; clear hI
    clear ho
    go_enter Tryd.func21, Tryd.ntmps21
    go_wp2_with ((go_at_call 47; refine (bot_has i H_h.out rfl H_hd.out).mono ?_; rintro e w1 ⟨rfl, rfl⟩))
    go_ret2
    exact ⟨rfl, BTn.same H_h.out (Vg.Grows.refl _)⟩
  · obtain ⟨j, rfl⟩ : ∃ j : Nat, i = j := ⟨i.toNat, by omega⟩
    have hj : j < xs.length := by omega
    have hd : decide ((0 : Int) ≤ j ∧ (j : Int) < (xs.length : Int)) = true := by simp; omega
    rw [Vg.Bo.run_in (by simpa using hj)] at hx
    simp only [List.getElem_map] at hx
    obtain ⟨hok, hjQ⟩ := hI.at j (by simpa using hj)
    rw [List.getElem_map] at hok
    obtain ⟨hbu, hpe, hpr, hinv⟩ := hok
    have hQ := hI.wk.ok hk
    obtain ⟨lf, hlf⟩ : ∃ lf, Vg.Bo.left (xs.map (·.p)) Q j = lf := ⟨_, rfl⟩
    rw [hlf] at hx
    by_cases hbad : m < 0 ∨ lf < m
    · rw [if_pos hbad] at hx
      simp only [Prod.mk.injEq] at hx
      obtain ⟨rfl, rfl, rfl, rfl⟩ := hx
      have H_h := Lib.hid h; clear h; have H_hd := Lib.hid hd; clear hd; have H_hI := Lib.hid hI; clear hI; have H_hlf := Lib.hid hlf; clear hlf; have H_hinv := Lib.hid hinv; clear hinv; have H_hQ := Lib.hid hQ; clear hQ
      by_cases h0 : m < 0
      · clear hbad
        go_enter Tryd.func21, Tryd.ntmps21
        go_wp2_with ((go_at_call 47; refine (bot_has j H_h.out rfl H_hd.out).mono ?_; rintro e w1 ⟨rfl, rfl⟩))
        go_ret2
        exact ⟨rfl, BTn.same H_h.out (Vg.Grows.refl _)⟩
      · have h1 : lf < m := by omega
        clear hbad
        go_enter Tryd.func21, Tryd.ntmps21
        go_wp2_with (first | (go_at_call 47; refine (bot_has j H_h.out rfl H_hd.out).mono ?_; rintro e w1 ⟨rfl, rfl⟩) | (go_at_call 20; refine (bot_left j H_h.out H_hlf.out).mono ?_; rintro e w1 ⟨rfl, kk, rfl⟩))
        go_ret2
        exact ⟨rfl, BTn.same H_h.out (by (repeat' (first | (with_reducible exact Vg.Grows.refl _) | (with_reducible assumption) | (with_reducible refine Vg.Grows.alloc ?_ _) | (with_reducible refine Vg.Grows.plus ?_ _ _) | (with_reducible refine Vg.Grows.drewN ?_ _) | (with_reducible refine Vg.Grows.drew ?_) | (with_reducible refine Vg.Grows.setCell ?_ ?_ _) | (with_reducible refine Vg.Grows.put ?_ ?_ _) | omega | (simp; omega) | (simp; done))))⟩
    · rw [if_neg hbad] at hx
      have h0 : ¬ m < 0 := by omega
      have h1 : ¬ lf < m := by omega
      clear hbad
      cases hab : Vg.Bo.able (xs.map (·.p)) Q j with
      | false =>
        rw [hab, if_pos rfl] at hx
        simp only [Prod.mk.injEq] at hx
        obtain ⟨rfl, rfl, rfl, rfl⟩ := hx
        have H_h := Lib.hid h; clear h; have H_hd := Lib.hid hd; clear hd; have H_hI := Lib.hid hI; clear hI; have H_hlf := Lib.hid hlf; clear hlf; have H_hinv := Lib.hid hinv; clear hinv; have H_hQ := Lib.hid hQ; clear hQ; have H_hab := Lib.hid hab; clear hab
        go_enter Tryd.func21, Tryd.ntmps21
        go_wp2_with (first | (go_at_call 47; refine (bot_has j H_h.out rfl H_hd.out).mono ?_; rintro e w1 ⟨rfl, rfl⟩) | (go_at_call 20; refine (bot_left j H_h.out H_hlf.out).mono ?_; rintro e w1 ⟨rfl, kk, rfl⟩) | (go_at_call 52; refine (bot_able j (H_h.out.grows (by (repeat' (first | (with_reducible exact Vg.Grows.refl _) | (with_reducible assumption) | (with_reducible refine Vg.Grows.alloc ?_ _) | (with_reducible refine Vg.Grows.plus ?_ _ _) | (with_reducible refine Vg.Grows.drewN ?_ _) | (with_reducible refine Vg.Grows.drew ?_) | (with_reducible refine Vg.Grows.setCell ?_ ?_ _) | (with_reducible refine Vg.Grows.put ?_ ?_ _) | omega | (simp; omega) | (simp; done))))) H_hab.out).mono ?_; rintro e w1 ⟨rfl, rfl⟩))
        go_ret2
        exact ⟨rfl, BTn.same H_h.out (by (repeat' (first | (with_reducible exact Vg.Grows.refl _) | (with_reducible assumption) | (with_reducible refine Vg.Grows.alloc ?_ _) | (with_reducible refine Vg.Grows.plus ?_ _ _) | (with_reducible refine Vg.Grows.drewN ?_ _) | (with_reducible refine Vg.Grows.drew ?_) | (with_reducible refine Vg.Grows.setCell ?_ ?_ _) | (with_reducible refine Vg.Grows.put ?_ ?_ _) | omega | (simp; omega) | (simp; done))))⟩
      | true =>
        rw [hab, if_neg (by simp)] at hx
        have hs := h.srv j hj
        obtain ⟨a, c, hrv⟩ := h.shp
        subst hrv
        have c0 := Vg.cells_of h.tab 0
        simp at c0
        obtain ⟨g, o, rfl, hg, hcc, hcm, d0, d1, d2, d3, d4⟩ := h.row.thread rfl j hj
        obtain ⟨y, hy⟩ : ∃ y, xs[j] = y := ⟨_, rfl⟩
        rw [hy] at hx hs d4 hbu hpe hpr hinv
        obtain ⟨⟨s', ru⟩, hu⟩ : ∃ p, y.p.s.use y.p.t.bu y.p.t.pe m en = p := ⟨_, rfl⟩
        rw [hu] at hx
        simp only [] at hx
        have hsl := hs.lt
        have hj0 : (0 : Int) ≤ j := by omega
        have hj1 : (j : Int) < xs.length := by omega
        obtain ⟨sb, hsb⟩ : ∃ sb, y.sb = sb := ⟨_, rfl⟩
        have d4' := d4
        rw [hsb] at d4'
        obtain ⟨nn, hnn⟩ : ∃ nn, xs.length = nn := ⟨_, rfl⟩
        rw [hnn] at c0 hcc hj1 ⊢
        have hrow : BT w b xs (.slice (some ⟨g, o, none⟩) nn c) wb Q wv O := by rw [← hnn]; exact h
        have hs' : SA w sb (sb + 1) y.p.t.bu y.p.t.pe y.p.s y.sv := by rw [← hsb]; exact hs
        have hsl' : sb + 1 ≤ w.heap.size := by omega
        have hd' : decide ((0 : Int) ≤ j ∧ (j : Int) < (nn : Int)) = true := by rw [← hnn]; exact hd
        clear d0 d1 d2 d3 d4 hpr hs
        by_cases hru : ru = 0
        · subst hru
          rw [if_neg (by simp)] at hx
          obtain ⟨⟨Q2, is2, r2⟩, hgo⟩ : ∃ p, Vg.Wk.go Q j m = p := ⟨_, rfl⟩
          rw [hgo] at hx
          simp only [Prod.mk.injEq] at hx
          obtain ⟨rfl, rfl, rfl, rfl⟩ := hx
          have H_h := Lib.hid h; clear h; have H_hd := Lib.hid hd; clear hd; have H_hd' := Lib.hid hd'; clear hd'; have H_hI := Lib.hid hI; clear hI; have H_hlf := Lib.hid hlf; clear hlf; have H_hinv := Lib.hid hinv; clear hinv; have H_hQ := Lib.hid hQ; clear hQ; have H_hab := Lib.hid hab; clear hab; have H_hy := Lib.hid hy; clear hy; have H_hu := Lib.hid hu; clear hu; have H_hsb := Lib.hid hsb; clear hsb; have H_hnn := Lib.hid hnn; clear hnn; have H_hrow := Lib.hid hrow; clear hrow; have H_hs' := Lib.hid hs'; clear hs'; have H_hgo := Lib.hid hgo; clear hgo
          go_enter Tryd.func21, Tryd.ntmps21
          go_wp2_with (first | (go_at_call 47; refine (bot_has j H_hrow.out H_hnn.out H_hd'.out).mono ?_; rintro e w1 ⟨rfl, rfl⟩) | (go_at_call 20; refine (bot_left j H_hrow.out H_hlf.out).mono ?_; rintro e w1 ⟨rfl, kk, rfl⟩) | (go_at_call 52; refine (bot_able j (H_hrow.out.grows (by (repeat' (first | (with_reducible exact Vg.Grows.refl _) | (with_reducible assumption) | (with_reducible refine Vg.Grows.alloc ?_ _) | (with_reducible refine Vg.Grows.plus ?_ _ _) | (with_reducible refine Vg.Grows.drewN ?_ _) | (with_reducible refine Vg.Grows.drew ?_) | (with_reducible refine Vg.Grows.setCell ?_ ?_ _) | (with_reducible refine Vg.Grows.put ?_ ?_ _) | omega | (simp; omega) | (simp; done))))) H_hab.out).mono ?_; rintro e w1 ⟨rfl, rfl⟩) | (go_at_call 55; refine (sa_use m en (H_hs'.out.grows (by (repeat' (first | (with_reducible exact Vg.Grows.refl _) | (with_reducible assumption) | (with_reducible refine Vg.Grows.alloc ?_ _) | (with_reducible refine Vg.Grows.plus ?_ _ _) | (with_reducible refine Vg.Grows.drewN ?_ _) | (with_reducible refine Vg.Grows.drew ?_) | (with_reducible refine Vg.Grows.setCell ?_ ?_ _) | (with_reducible refine Vg.Grows.put ?_ ?_ _) | omega | (simp; omega) | (simp; done))))) (by omega) (by simp only [World.heap_drewN]; omega) H_hinv.out hpe hbu hm hen).mono ?_; rintro e w2 ⟨v', rfl, hsa, ht, hv⟩; rw [H_hu.out] at hsa ⊢; rw [← H_hsb.out] at hsa ht; obtain ⟨hb2, hown2, ht2⟩ := BT.serv hj H_hy.out (H_hrow.out.grows (by (repeat' (first | (with_reducible exact Vg.Grows.refl _) | (with_reducible assumption) | (with_reducible refine Vg.Grows.alloc ?_ _) | (with_reducible refine Vg.Grows.plus ?_ _ _) | (with_reducible refine Vg.Grows.drewN ?_ _) | (with_reducible refine Vg.Grows.drew ?_) | (with_reducible refine Vg.Grows.setCell ?_ ?_ _) | (with_reducible refine Vg.Grows.put ?_ ?_ _) | omega | (simp; omega) | (simp; done))))) hsa ht hv; have e1 := Vg.cells_of hb2.tab 1; simp at e1; have ht3 := Vg.Touch.next (w := w) (Vg.Touch.of_grows (by (repeat' (first | (with_reducible exact Vg.Grows.refl _) | (with_reducible assumption) | (with_reducible refine Vg.Grows.alloc ?_ _) | (with_reducible refine Vg.Grows.plus ?_ _ _) | (with_reducible refine Vg.Grows.drewN ?_ _) | (with_reducible refine Vg.Grows.drew ?_) | (with_reducible refine Vg.Grows.setCell ?_ ?_ _) | (with_reducible refine Vg.Grows.put ?_ ?_ _) | omega | (simp; omega) | (simp; done))))) ht2 (fun _ hk => .inl hk); have H_hb2 := Lib.hid hb2; clear hb2; have H_hown2 := Lib.hid hown2; clear hown2; have H_ht3 := Lib.hid ht3; clear ht3; clear hsa ht hv ht2) | (go_at_call 56; refine (ws_go j m H_hb2.out.wrk H_hQ.out H_hgo.out).mono ?_; rintro e w3 ⟨rfl, hn⟩; have HN := Lib.hid hn; clear hn))
          go_ret2
          obtain ⟨O2, h5, h6, h7⟩ := H_hb2.out.work HN.out
          refine ⟨rfl, ?_⟩
          refine BTn.next (w2 := w2) (fun k hk => ?_) H_ht3.out ⟨_, O2, h5, ?_, h6, h7⟩
          · rcases H_hown2.out k hk with h8 | h8
            · exact .inl h8
            · exact .inr (by simp only [World.heap_drewN] at h8; exact h8)
          · rw [List.map_set]
        · rw [if_pos hru] at hx
          simp only [Prod.mk.injEq] at hx
          obtain ⟨rfl, rfl, rfl, rfl⟩ := hx
          have hz : (ru != 0) = true := by simp [hru]
          have H_h := Lib.hid h; clear h; have H_hd := Lib.hid hd; clear hd; have H_hd' := Lib.hid hd'; clear hd'; have H_hI := Lib.hid hI; clear hI; have H_hlf := Lib.hid hlf; clear hlf; have H_hinv := Lib.hid hinv; clear hinv; have H_hQ := Lib.hid hQ; clear hQ; have H_hab := Lib.hid hab; clear hab; have H_hy := Lib.hid hy; clear hy; have H_hu := Lib.hid hu; clear hu; have H_hsb := Lib.hid hsb; clear hsb; have H_hnn := Lib.hid hnn; clear hnn; have H_hrow := Lib.hid hrow; clear hrow; have H_hs' := Lib.hid hs'; clear hs'; have H_hru := Lib.hid hru; clear hru
          go_enter Tryd.func21, Tryd.ntmps21
          go_wp2_with (first | (go_at_call 47; refine (bot_has j H_hrow.out H_hnn.out H_hd'.out).mono ?_; rintro e w1 ⟨rfl, rfl⟩) | (go_at_call 20; refine (bot_left j H_hrow.out H_hlf.out).mono ?_; rintro e w1 ⟨rfl, kk, rfl⟩) | (go_at_call 52; refine (bot_able j (H_hrow.out.grows (by (repeat' (first | (with_reducible exact Vg.Grows.refl _) | (with_reducible assumption) | (with_reducible refine Vg.Grows.alloc ?_ _) | (with_reducible refine Vg.Grows.plus ?_ _ _) | (with_reducible refine Vg.Grows.drewN ?_ _) | (with_reducible refine Vg.Grows.drew ?_) | (with_reducible refine Vg.Grows.setCell ?_ ?_ _) | (with_reducible refine Vg.Grows.put ?_ ?_ _) | omega | (simp; omega) | (simp; done))))) H_hab.out).mono ?_; rintro e w1 ⟨rfl, rfl⟩) | (go_at_call 55; refine (sa_use m en (H_hs'.out.grows (by (repeat' (first | (with_reducible exact Vg.Grows.refl _) | (with_reducible assumption) | (with_reducible refine Vg.Grows.alloc ?_ _) | (with_reducible refine Vg.Grows.plus ?_ _ _) | (with_reducible refine Vg.Grows.drewN ?_ _) | (with_reducible refine Vg.Grows.drew ?_) | (with_reducible refine Vg.Grows.setCell ?_ ?_ _) | (with_reducible refine Vg.Grows.put ?_ ?_ _) | omega | (simp; omega) | (simp; done))))) (by omega) (by simp only [World.heap_drewN]; omega) H_hinv.out hpe hbu hm hen).mono ?_; rintro e w2 ⟨v', rfl, hsa, ht, hv⟩; rw [H_hu.out] at hsa ⊢; rw [← H_hsb.out] at hsa ht; obtain ⟨hb2, hown2, ht2⟩ := BT.serv hj H_hy.out (H_hrow.out.grows (by (repeat' (first | (with_reducible exact Vg.Grows.refl _) | (with_reducible assumption) | (with_reducible refine Vg.Grows.alloc ?_ _) | (with_reducible refine Vg.Grows.plus ?_ _ _) | (with_reducible refine Vg.Grows.drewN ?_ _) | (with_reducible refine Vg.Grows.drew ?_) | (with_reducible refine Vg.Grows.setCell ?_ ?_ _) | (with_reducible refine Vg.Grows.put ?_ ?_ _) | omega | (simp; omega) | (simp; done))))) hsa ht hv; have ht3 := Vg.Touch.next (w := w) (Vg.Touch.of_grows (by (repeat' (first | (with_reducible exact Vg.Grows.refl _) | (with_reducible assumption) | (with_reducible refine Vg.Grows.alloc ?_ _) | (with_reducible refine Vg.Grows.plus ?_ _ _) | (with_reducible refine Vg.Grows.drewN ?_ _) | (with_reducible refine Vg.Grows.drew ?_) | (with_reducible refine Vg.Grows.setCell ?_ ?_ _) | (with_reducible refine Vg.Grows.put ?_ ?_ _) | omega | (simp; omega) | (simp; done))))) ht2 (fun _ hk => .inl hk); have H_hb2 := Lib.hid hb2; clear hb2; have H_hown2 := Lib.hid hown2; clear hown2; have H_ht3 := Lib.hid ht3; clear ht3; clear hsa ht hv ht2))
          go_ret2
          refine ⟨rfl, ?_⟩
          refine ⟨_, O, H_hb2.out, ?_, fun k hk => ?_, H_ht3.out⟩
          · rw [List.map_set]
          · rcases H_hown2.out k hk with h8 | h8
            · exact .inl h8
            · exact .inr (by simp only [World.heap_drewN] at h8; exact h8)
theorem sa_later {bb B : Nat} {bu pe : Int} {s : Vg.Srv} {v : Value} (t : Int) (h : SA w bb B bu pe s v) {is : Bool} (his : (decide (s.last ≤ t) && decide (t ≤ 4503599627370496)) = is) :
    Calls Tryd.prog 49 #[.pointer (some ⟨bb, 0, none⟩), .int .i64 t] w fun e w' => e = .returned (.bool is) ∧ w = w' := by
  subst his
  obtain ⟨sa, sc, rfl, h1, h2⟩ := h
  exact serv_later t h1
end
end Go.Proofs.YtekjnagojphmkaaDoor
