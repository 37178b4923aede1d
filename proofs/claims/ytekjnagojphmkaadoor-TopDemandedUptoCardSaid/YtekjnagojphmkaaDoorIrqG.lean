/- Package irq: New; Unmask over one plain state. -/
import Derived.Test.YtekjnagojphmkaaDoorIrqF
set_option linter.unusedSimpArgs false
set_option linter.unusedVariables false
set_option maxHeartbeats 8000000
set_option maxRecDepth 100000
namespace Vg
open Go Go.RowKit
structure Lin where
  pr : Int
  top : Int
  many : Int
  wd : Int
/-- A slice of lines, by its cells. -/
def LR (w : World) (sa : Option Addr) (sc : Nat) (T : List Lin) : Prop :=
  T.length ≤ sc ∧ sc ≤ maxLen ∧ ∀ k, (hk : k < T.length) → ∃ g off, sa = some ⟨g, off, none⟩ ∧ g < w.heap.size ∧ w.cell? ⟨g, off + k * 4, none⟩ = some (.int .i64 T[k].pr) ∧ w.cell? ⟨g, off + k * 4 + 1, none⟩ = some (.int .i64 T[k].top) ∧ w.cell? ⟨g, off + k * 4 + 2, none⟩ = some (.int .i64 T[k].many) ∧ w.cell? ⟨g, off + k * 4 + 3, none⟩ = some (.int .i64 T[k].wd)
theorem LR.grows {w w' : World} {sa : Option Addr} {c : Nat} {T : List Lin} (h : LR w sa c T) (hg : Grows w w') : LR w' sa c T :=
  ⟨h.1, h.2.1, fun k hk => by
    obtain ⟨g, off, e, hlt, c0, c1, c2, c3⟩ := h.2.2 k hk
    exact ⟨g, off, e, Nat.lt_of_lt_of_le hlt hg.size, (hg.below.cell (p := ⟨g, off + k * 4, none⟩) hlt).trans c0, (hg.below.cell (p := ⟨g, off + k * 4 + 1, none⟩) hlt).trans c1, (hg.below.cell (p := ⟨g, off + k * 4 + 2, none⟩) hlt).trans c2, (hg.below.cell (p := ⟨g, off + k * 4 + 3, none⟩) hlt).trans c3⟩⟩
def linOf (D : Nat → Nat → Int) (i : Nat) : Lin := ⟨D i 0, D i 1, D i 2, D i 3⟩
def linsOf (D : Nat → Nat → Int) (n : Nat) : List Lin := (List.range n).map (linOf D)
theorem linsOf_len (D : Nat → Nat → Int) (n : Nat) : (linsOf D n).length = n := by simp [linsOf]
theorem LR.of_rows {w : World} {a : Option Addr} {len cap : Nat} {D : Nat → Nat → Int} (h : intRows w [.i64, .i64, .i64, .i64] a len cap D) : LR w a cap (linsOf D len) := by
  refine ⟨by rw [linsOf_len]; exact h.1, h.2.1, fun k hk => ?_⟩
  have hk' : k < len := by rw [linsOf_len] at hk; exact hk
  obtain ⟨b, off, rfl, hb, hc⟩ := h.open (by decide) (by omega)
  have c0 := (hc k hk' 0 (by decide)).1
  have c1 := (hc k hk' 1 (by decide)).1
  have c2 := (hc k hk' 2 (by decide)).1
  have c3 := (hc k hk' 3 (by decide)).1
  have e : (linsOf D len)[k] = linOf D k := by simp [linsOf]
  rw [e]
  refine ⟨b, off, rfl, hb, ?_, ?_, ?_, ?_⟩
  · simpa [linOf] using c0
  · simpa [linOf, Nat.add_assoc] using c1
  · simpa [linOf, Nat.add_assoc] using c2
  · simpa [linOf, Nat.add_assoc] using c3
def oddL (t : Lin) : Bool := !(decide (1 ≤ t.many) && decide (t.many ≤ 64) && decide (1 ≤ t.wd) && decide (t.wd ≤ 1099511627776) && decide (1 ≤ t.top) && decide (t.top ≤ 1099511627776))
theorem oddL_no {t : Lin} (h : oddL t = false) : (1 ≤ t.many ∧ t.many ≤ 64 ∧ 1 ≤ t.wd ∧ t.wd ≤ 1099511627776) ∧ (1 ≤ t.top ∧ t.top ≤ 1099511627776) := by
  unfold oddL at h
  simp at h; omega
def ln0 (t : Lin) : Ln := ⟨0, 0, 0, 0, t.many.toNat, t.wd, [], 0⟩
def prs (T : List Lin) : List Int := if T.length = 0 then [1] else T.map (·.pr)
def goodL (T : List Lin) : Bool := !(T.any oddL) && decide (T.length ≤ 64) && !((T.map (·.pr)).any oddP)
/-- Lines as New makes them. -/
def iq0 (T : List Lin) : Iq := ⟨⟨0, 2 ^ (prs T).length - 1, prs T, []⟩, T.map ln0, [], 0⟩
theorem five_new' {w : World} {x y z u v : Value} {t : TypeId} {n : Nat} (hn : n = w.heap.size) : ∀ j q, [x, y, z, u, v][j]? = some q → (w.alloc (.cells #[x, y, z, u, v] t)).cell? ((⟨n, 0, none⟩ : Addr).add j) = some q := five_new hn
end Vg
namespace Go.Proofs.YtekjnagojphmkaaDoor
open Go.ChangeShapes Go.WideShapes Go.ChangeAt Go.RowKit
theorem qs_unmask {w : World} {b lo n : Nat} {s : Vg.Iq} {OB : Nat → Prop} (now : Int) (h : QS w b lo n s OB) (hT : Vg.Tab w) (hlo : 0 < lo) (l1 : s.last ≤ now) (l2 : now ≤ 4503599627370496) :
    Calls Tryd.prog 8 #[.pointer (some ⟨b, 0, none⟩), .int .i64 now] w fun e w' => ∃ v s', e = .returned (.tuple #[v, .int .i64 0]) ∧ QSn w w' b lo n s' OB ∧ Vg.Iq.Calm now s s' ∧ s'.last = now :=
  (callsIn_wide (n := 4)).1 (unmask_in now h hT hlo l1 l2)
theorem Tryd.info_line : (Tryd.prog.info? 86).map (fun i => (i.zero, i.size, i.bytes)) = some (some (.agg #[.pointer none, .int .i64 0, .int .i64 0, .int .i64 0, .int .i64 0]), 5, 40) := by kernel_rfl
abbrev iqZ (lv : Value) : Obj := .cells #[.int .u64 0, .int .u64 0, .int .u64 0, .int .u64 0, .slice none 0 0, .int .i64 0, .slice none 0 0, lv, .slice none 0 0, .int .u64 0, .int .i64 0] 81
abbrev linR (t : Vg.Lin) : Obj := .cells #[.int .i64 t.pr, .int .i64 t.top, .int .i64 t.many, .int .i64 t.wd] 62
/-- Lines under way. -/
structure NQ (w : World) (b : Nat) (xs : List Vg.Lq) (rv v5 : Value) (L : List Int) : Prop where
  tab : Vg.blk w b = some (iqZ rv)
  row : Vg.Que w (b + 1) 86 5 rv xs.length (Vg.lcells xs)
  dep : Vg.Que w (b + 1) 3 1 v5 L.length (Vg.ics L)
  mks : ∀ i (h : i < xs.length), MK w xs[i].mb xs[i].rb xs[i].p.many xs[i].p.wd xs[i].p.q xs[i].p.ml ∧ (b < xs[i].mb ∧ b < xs[i].rb) ∧ (rv.ownBlock ≠ some xs[i].mb ∧ rv.ownBlock ≠ some xs[i].rb) ∧ (v5.ownBlock ≠ some xs[i].mb ∧ v5.ownBlock ≠ some xs[i].rb)
  ne : ∀ k, rv.ownBlock = some k → v5.ownBlock ≠ some k
  inj : ∀ i j (hi : i < xs.length) (hj : j < xs.length), i ≠ j → xs[i].mb ≠ xs[j].mb ∧ xs[i].mb ≠ xs[j].rb ∧ xs[i].rb ≠ xs[j].mb ∧ xs[i].rb ≠ xs[j].rb
section
variable {w w' W1 : World} {b n m : Nat} {xs : List Vg.Lq} {rv v5 rv2 v2 : Value} {L : List Int} {y : Array Obj}
theorem NQ.grows (h : NQ w b xs rv v5 L) (hg : Vg.Grows w w') : NQ w' b xs rv v5 L :=
  ⟨hg.blk h.tab, h.row.grows hg, h.dep.grows hg, fun i hi => ⟨(h.mks i hi).1.grows hg, (h.mks i hi).2⟩, h.ne, h.inj⟩
theorem NQ.lt (h : NQ w b xs rv v5 L) : b < w.heap.size := Vg.lt_of h.tab
/-- A line is appended, and the row stored. -/
theorem NQ.app1 {x : Vg.Lq} {news : List Value} (h : NQ w b xs rv v5 L) (hs : MK w x.mb x.rb x.p.many x.p.wd x.p.q x.p.ml) (hb : b < x.mb ∧ b < x.rb) (h1 : rv.ownBlock ≠ some x.mb ∧ rv.ownBlock ≠ some x.rb) (h2 : v5.ownBlock ≠ some x.mb ∧ v5.ownBlock ≠ some x.rb) (h3 : ∀ i (hi : i < xs.length), (xs[i].mb < x.mb ∧ xs[i].mb < x.rb) ∧ (xs[i].rb < x.mb ∧ xs[i].rb < x.rb))
    (hq : Vg.Que (Vg.plus W1 y m) (b + 1) 86 5 rv2 (xs.length + 1) (Vg.lcells xs ++ news)) (hn : Vg.lcells [x] = news) (hS : Vg.Same (fun j => rv.ownBlock = some j) w W1) (ho : rv2.ownBlock = rv.ownBlock ∨ rv2.ownBlock = some w.heap.size) :
    NQ (Vg.put (Vg.plus W1 y m) b (iqZ rv2)) b (xs ++ [x]) rv2 v5 L := by
  subst hn
  have hT : Vg.Touch (fun k => rv.ownBlock = some k ∨ k = b) w (Vg.put (Vg.plus W1 y m) b (iqZ rv2)) :=
    ((((Vg.Touch.of_same hS).mono fun k _ hk => .inl hk).trans (Vg.Touch.of_grows ((Vg.Grows.refl W1).plus y m)))).put (.inr rfl) _
  have hrl := h.row.lt
  have hdl := h.dep.lt
  have hbl := h.lt
  have hx := hs.lt
  have hbW : b < (Vg.plus W1 y m).heap.size := by rw [Vg.plus_size, hS.size]; omega
  have hall : ∀ i (hi : i < (xs ++ [x]).length), (∃ hi' : i < xs.length, (xs ++ [x])[i] = xs[i]) ∨ (i = xs.length ∧ (xs ++ [x])[i] = x) := fun i hi => by
    by_cases hlt : i < xs.length
    · exact .inl ⟨hlt, List.getElem_append_left hlt⟩
    · have : i = xs.length := by simp at hi; omega
      subst this
      exact .inr ⟨rfl, by simp⟩
  have hold : ∀ (z : Vg.Lq), (MK w z.mb z.rb z.p.many z.p.wd z.p.q z.p.ml ∧ (b < z.mb ∧ b < z.rb) ∧ (rv.ownBlock ≠ some z.mb ∧ rv.ownBlock ≠ some z.rb) ∧ (v5.ownBlock ≠ some z.mb ∧ v5.ownBlock ≠ some z.rb)) →
      MK (Vg.put (Vg.plus W1 y m) b (iqZ rv2)) z.mb z.rb z.p.many z.p.wd z.p.q z.p.ml ∧ (b < z.mb ∧ b < z.rb) ∧ (rv2.ownBlock ≠ some z.mb ∧ rv2.ownBlock ≠ some z.rb) ∧ (v5.ownBlock ≠ some z.mb ∧ v5.ownBlock ≠ some z.rb) := fun z hz => by
    obtain ⟨z1, z3, z4, z5⟩ := hz
    have zl := z1.lt
    refine ⟨z1.touch hT (fun hh => by rcases hh with hh | hh; exact z4.1 hh; omega) (fun hh => by rcases hh with hh | hh; exact z4.2 hh; omega), z3, ⟨fun hh => ?_, fun hh => ?_⟩, z5⟩
    · rcases ho with h5 | h5
      · exact z4.1 (h5.symm.trans hh)
      · have := Option.some.inj (hh.symm.trans h5); omega
    · rcases ho with h5 | h5
      · exact z4.2 (h5.symm.trans hh)
      · have := Option.some.inj (hh.symm.trans h5); omega
  refine ⟨Vg.put_heap_same hbW, ?_, h.dep.kept fun k hk => hT.block k (hdl k hk).2 fun hh => ?_, fun i hi => ?_, fun k hk hk2 => ?_, fun i j hi hj hij => ?_⟩
  · rw [List.length_append, Vg.lcells_append]
    exact hq.kept fun k hk => Vg.put_heap_other (by have := (hq.lt k hk).1; omega)
  · rcases hh with hh | hh
    · exact h.ne k hh hk
    · have := (hdl k hk).1; omega
  · rcases hall i hi with ⟨hi', e⟩ | ⟨_, e⟩
    · rw [e]; exact hold _ (h.mks i hi')
    · rw [e]; exact hold _ ⟨hs, hb, h1, h2⟩
  · rcases ho with h5 | h5
    · exact h.ne k (h5.symm.trans hk) hk2
    · have : some k = some w.heap.size := hk.symm.trans h5
      cases this
      have := (hdl _ hk2).2; omega
  · rcases hall i hi with ⟨hi', e⟩ | ⟨hi', e⟩ <;> rcases hall j hj with ⟨hj', e2⟩ | ⟨hj', e2⟩ <;> rw [e, e2]
    · exact h.inj i j hi' hj' hij
    · have := h3 i hi'; omega
    · have := h3 j hj'; omega
    · omega
/-- A priority is appended. -/
theorem NQ.app2 {d : Int} (h : NQ w b xs rv v5 L) (hq : Vg.Que (Vg.plus W1 y m) (b + 1) 3 1 v2 (L.length + 1) (Vg.ics L ++ [.int .i64 d])) (hS : Vg.Same (fun j => v5.ownBlock = some j) w W1) (ho : v2.ownBlock = v5.ownBlock ∨ v2.ownBlock = some w.heap.size) :
    NQ (Vg.plus W1 y m) b xs rv v2 (L ++ [d]) := by
  have hT : Vg.Touch (fun k => v5.ownBlock = some k) w (Vg.plus W1 y m) := (Vg.Touch.of_same hS).trans (Vg.Touch.of_grows ((Vg.Grows.refl W1).plus y m))
  have hrl := h.row.lt
  have hdl := h.dep.lt
  have hbl := h.lt
  refine ⟨hT.bk h.tab fun hh => by have := (hdl b hh).1; omega, h.row.kept fun k hk => hT.block k (hrl k hk).2 (h.ne k hk), ?_, fun i hi => ?_, fun k hk hk2 => ?_, h.inj⟩
  · have e1 : (L ++ [d]).length = L.length + 1 := by simp
    have e2 : Vg.ics (L ++ [d]) = Vg.ics L ++ [.int .i64 d] := by simp [Vg.ics]
    rw [e1, e2]; exact hq
  · obtain ⟨z1, z3, z4, z5⟩ := h.mks i hi
    have zl := z1.lt
    refine ⟨z1.touch hT z5.1 z5.2, z3, z4, ⟨fun hh => ?_, fun hh => ?_⟩⟩
    · rcases ho with h5 | h5
      · exact z5.1 (h5.symm.trans hh)
      · have := Option.some.inj (hh.symm.trans h5); omega
    · rcases ho with h5 | h5
      · exact z5.2 (h5.symm.trans hh)
      · have := Option.some.inj (hh.symm.trans h5); omega
  · rcases ho with h5 | h5
    · exact h.ne k hk (h5.symm.trans hk2)
    · have : some k = some w.heap.size := hk2.symm.trans h5
      cases this
      have := (hrl _ hk).2; omega
/-- The controller is made, and stored. -/
theorem NQ.done {c : Vg.Ic} {s : Vg.Iq} {pa sa : Option Addr} {pc sc : Nat} (h : NQ w b xs rv v5 L) (hI : IS w' c n 0 pa pc sa sc) (hg : Vg.Grows w w') (f1 : ∀ k, (Value.slice pa n pc).ownBlock = some k → w.heap.size ≤ k ∧ k < w'.heap.size) (f2 : ∀ k, (Value.slice sa 0 sc).ownBlock = some k → w.heap.size ≤ k ∧ k < w'.heap.size)
    (hs : s = ⟨c, xs.map (·.p), [], 0⟩) (hst : c.st = []) (hlen : xs.length = n ∨ (xs = [] ∧ n = 1 ∧ c.pe = 0)) (hx : ∀ x ∈ xs, (1 ≤ x.p.wd ∧ x.p.wd ≤ 1099511627776) ∧ 0 ≤ x.p.ml) (hb0 : 0 < b) :
    QS (Vg.put w' b (irqC c.pe c.en (2 ^ n - 1) pa n pc sa 0 sc rv (.slice none 0 0) 0 0)) b b n s (fun k => b ≤ k ∧ k < w'.heap.size) := by
  subst hs
  have h' := h.grows hg
  have hbl := h.lt
  have hbl' := h'.lt
  have hT : Vg.Touch (fun k => k = b) w' (Vg.put w' b (irqC c.pe c.en (2 ^ n - 1) pa n pc sa 0 sc rv (.slice none 0 0) 0 0)) := Vg.Touch.put (t := fun k => k = b) (Vg.Touch.refl _ _) rfl _
  have hrl := h.row.lt
  have hml : ∀ i (hi : i < xs.length), xs[i].mb < w.heap.size ∧ xs[i].rb < w.heap.size := fun i hi => (h.mks i hi).1.lt
  classical
  let P : Nat → Nat → Prop := fun k i => ∃ h : i < xs.length, k = xs[i].mb ∨ k = xs[i].rb
  let ow : Nat → Nat := fun k => if k = b then 1 else if rv.ownBlock = some k then 2 else if (Value.slice pa n pc).ownBlock = some k ∨ (Value.slice sa 0 sc).ownBlock = some k then 4 else if hh : ∃ i, P k i then 5 + Classical.choose hh else 0
  have o1 : ow b = 1 := if_pos rfl
  have o2 : ∀ k, rv.ownBlock = some k → ow k = 2 := fun k hk => by
    show (if k = b then 1 else _) = 2
    rw [if_neg (by have := (hrl k hk).1; omega), if_pos hk]
  have o4 : ∀ k, ((Value.slice pa n pc).ownBlock = some k ∨ (Value.slice sa 0 sc).ownBlock = some k) → ow k = 4 := fun k hk => by
    have h9 : w.heap.size ≤ k := hk.elim (fun e => (f1 k e).1) (fun e => (f2 k e).1)
    show (if k = b then 1 else _) = 4
    rw [if_neg (by omega), if_neg (fun hh => by have := (hrl k hh).2; omega), if_pos hk]
  have o5 : ∀ i (hi : i < xs.length) k, (k = xs[i].mb ∨ k = xs[i].rb) → ow k = 5 + i := fun i hi k hk => by
    obtain ⟨z1, z3, z4, z5⟩ := h.mks i hi
    have hk1 : k ≠ b ∧ rv.ownBlock ≠ some k ∧ k < w.heap.size := by
      rcases hk with rfl | rfl
      · exact ⟨by omega, z4.1, (hml i hi).1⟩
      · exact ⟨by omega, z4.2, (hml i hi).2⟩
    have hex : ∃ i, P k i := ⟨i, hi, hk⟩
    show (if k = b then 1 else _) = 5 + i
    rw [if_neg hk1.1, if_neg hk1.2.1, if_neg (fun hh => by have h9 : w.heap.size ≤ k := hh.elim (fun e => (f1 k e).1) (fun e => (f2 k e).1); omega), dif_pos hex]
    obtain ⟨hi2, hk2⟩ := Classical.choose_spec hex
    congr 1
    refine Classical.byContradiction fun hne => ?_
    have h9 := h.inj _ i hi2 hi hne
    rcases hk2 with e1 | e1 <;> rcases hk with e2 | e2
    · exact h9.1 (e1.symm.trans e2)
    · exact h9.2.1 (e1.symm.trans e2)
    · exact h9.2.2.1 (e1.symm.trans e2)
    · exact h9.2.2.2 (e1.symm.trans e2)
  have ohw : ∀ k, ow k ≠ 0 → b ≤ k ∧ k < w'.heap.size := fun k hk => by
    have hsz := hg.size
    by_cases e1 : k = b
    · omega
    by_cases e2 : rv.ownBlock = some k
    · have := hrl k e2; omega
    by_cases e3 : (Value.slice pa n pc).ownBlock = some k ∨ (Value.slice sa 0 sc).ownBlock = some k
    · rcases e3 with e3 | e3
      · have := f1 k e3; omega
      · have := f2 k e3; omega
    by_cases e4 : ∃ i, P k i
    · obtain ⟨i, hi, h9⟩ := e4
      have h8 := hml i hi
      have h7 := (h.mks i hi).2.1
      rcases h9 with rfl | rfl <;> omega
    · exact absurd (show (if k = b then 1 else if rv.ownBlock = some k then 2 else if (Value.slice pa n pc).ownBlock = some k ∨ (Value.slice sa 0 sc).ownBlock = some k then 4 else if hh : ∃ i, P k i then 5 + Classical.choose hh else 0) = 0 by rw [if_neg e1, if_neg e2, if_neg e3, dif_neg e4]) hk
  have hsz9 : (Vg.put w' b (irqC c.pe c.en (2 ^ n - 1) pa n pc sa 0 sc rv (.slice none 0 0) 0 0)).heap.size = w'.heap.size := Vg.put_size
  refine ⟨⟨xs, 0, rv, .slice none 0 0, pa, pc, sa, sc, ow, ⟨rfl, ⟨by simp [hst], ?_, fun x hx' => ?_⟩, Vg.put_heap_same hbl', hI.put (fun k hk => by have := f1 k hk; omega) (fun k hk => by have := f2 k hk; omega) _, h'.row.weaken (by omega) |>.kept (fun k hk => Vg.put_heap_other (by have := (h'.row.lt k hk).1; omega)), Vg.Que.nil _ _ _ _, fun i hi => (h'.mks i hi).1.touch hT (fun hh => by have := (h.mks i hi).2.1.1; omega) (fun hh => by have := (h.mks i hi).2.1.2; omega), Nat.two_pow_pos _, o1, o2, fun k hk => by simp [Value.ownBlock] at hk, fun k hk => o4 k (.inl hk), fun k hk => o4 k (.inr hk), fun i hi => ⟨o5 i hi _ (.inl rfl), o5 i hi _ (.inr rfl)⟩, fun k hk => by rw [hsz9]; exact ohw k hk⟩, fun k hk => ohw k hk⟩, fun k hk => by rw [hsz9]; exact hk⟩
  · rcases hlen with h9 | ⟨rfl, h9⟩
    · exact .inl (by simpa using h9)
    · exact .inr ⟨rfl, h9⟩
  · obtain ⟨z, hz, rfl⟩ := List.mem_map.1 hx'
    exact hx z hz
end
end Go.Proofs.YtekjnagojphmkaaDoor
