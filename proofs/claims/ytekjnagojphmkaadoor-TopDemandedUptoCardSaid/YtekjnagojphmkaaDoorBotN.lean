/- Package bottom: New. -/
import Derived.Test.YtekjnagojphmkaaDoorBotS
import Derived.Test.YtekjnagojphmkaaDoorBotI
import Derived.Test.YtekjnagojphmkaaDoorQueN
import Derived.Deep.RegionLaw
import Derived.Deep.DeepAppendWide
set_option linter.unusedSimpArgs false
set_option linter.unusedVariables false
set_option maxHeartbeats 4000000
set_option maxRecDepth 100000
namespace Vg
open Go Go.RowKit
/-- A slice of threads, by its cells. -/
def TR (w : World) (sa : Option Addr) (sc : Nat) (T : List Th) : Prop :=
  T.length ≤ sc ∧ sc ≤ maxLen ∧ ∀ k, (hk : k < T.length) → ∃ g off, sa = some ⟨g, off, none⟩ ∧ g < w.heap.size ∧ w.cell? ⟨g, off + k * 4, none⟩ = some (.int .i64 T[k].pr) ∧ w.cell? ⟨g, off + k * 4 + 1, none⟩ = some (.int .i64 T[k].bu) ∧ w.cell? ⟨g, off + k * 4 + 2, none⟩ = some (.int .i64 T[k].pe) ∧ w.cell? ⟨g, off + k * 4 + 3, none⟩ = some (.int .i64 T[k].dp)
theorem TR.grows {w w' : World} {sa : Option Addr} {c : Nat} {T : List Th} (h : TR w sa c T) (hg : Grows w w') : TR w' sa c T :=
  ⟨h.1, h.2.1, fun k hk => by
    obtain ⟨g, off, e, hlt, c0, c1, c2, c3⟩ := h.2.2 k hk
    exact ⟨g, off, e, Nat.lt_of_lt_of_le hlt hg.size, (hg.below.cell (p := ⟨g, off + k * 4, none⟩) hlt).trans c0, (hg.below.cell (p := ⟨g, off + k * 4 + 1, none⟩) hlt).trans c1, (hg.below.cell (p := ⟨g, off + k * 4 + 2, none⟩) hlt).trans c2, (hg.below.cell (p := ⟨g, off + k * 4 + 3, none⟩) hlt).trans c3⟩⟩
def thOf (D : Nat → Nat → Int) (i : Nat) : Th := ⟨D i 0, D i 1, D i 2, D i 3⟩
def thsOf (D : Nat → Nat → Int) (n : Nat) : List Th := (List.range n).map (thOf D)
theorem thsOf_len (D : Nat → Nat → Int) (n : Nat) : (thsOf D n).length = n := by simp [thsOf]
theorem TR.of_rows {w : World} {a : Option Addr} {len cap : Nat} {D : Nat → Nat → Int} (h : intRows w [.i64, .i64, .i64, .i64] a len cap D) : TR w a cap (thsOf D len) := by
  refine ⟨by rw [thsOf_len]; exact h.1, h.2.1, fun k hk => ?_⟩
  have hk' : k < len := by rw [thsOf_len] at hk; exact hk
  obtain ⟨b, off, rfl, hb, hc⟩ := h.open (by decide) (by omega)
  have c0 := (hc k hk' 0 (by decide)).1
  have c1 := (hc k hk' 1 (by decide)).1
  have c2 := (hc k hk' 2 (by decide)).1
  have c3 := (hc k hk' 3 (by decide)).1
  have e : (thsOf D len)[k] = thOf D k := by simp [thsOf]
  rw [e]
  refine ⟨b, off, rfl, hb, ?_, ?_, ?_, ?_⟩
  · simpa [thOf] using c0
  · simpa [thOf, Nat.add_assoc] using c1
  · simpa [thOf, Nat.add_assoc] using c2
  · simpa [thOf, Nat.add_assoc] using c3
def tcells : List Th → List Value
  | [] => []
  | t :: l => .int .i64 t.pr :: .int .i64 t.bu :: .int .i64 t.pe :: .int .i64 t.dp :: tcells l
theorem tcells_length : ∀ l : List Th, (tcells l).length = l.length * 4
  | [] => rfl
  | x :: l => by simp [tcells, tcells_length l]; omega
theorem tcells_get : ∀ (l : List Th) (k : Nat) (h : k < l.length), (tcells l)[k * 4]? = some (.int .i64 l[k].pr) ∧ (tcells l)[k * 4 + 1]? = some (.int .i64 l[k].bu) ∧ (tcells l)[k * 4 + 2]? = some (.int .i64 l[k].pe) ∧ (tcells l)[k * 4 + 3]? = some (.int .i64 l[k].dp)
  | [], k, h => by simp at h
  | x :: l, 0, _ => by simp [tcells]
  | x :: l, k + 1, h => by
    have := tcells_get l k (by simpa using h)
    rw [show (k + 1) * 4 = k * 4 + 1 + 1 + 1 + 1 from by omega]
    simpa [tcells] using this
theorem TR.block {w : World} {g : Nat} {T : List Th} {t : TypeId} (h : blk w g = some (.cells (tcells T).toArray t)) (hl : T.length ≤ maxLen) : TR w (some ⟨g, 0, none⟩) T.length T :=
  ⟨Nat.le_refl _, hl, fun k hk => by
    obtain ⟨g0, g1, g2, g3⟩ := tcells_get T k hk
    refine ⟨g, 0, rfl, lt_of h, ?_, ?_, ?_, ?_⟩ <;> rw [cells_of h] <;> simp <;> assumption⟩
def oddT (t : Th) : Bool := !(decide (1 ≤ t.bu) && decide (t.bu ≤ t.pe) && decide (t.pe ≤ 1099511627776) && decide (0 ≤ t.pr) && decide (t.pr ≤ 63))
theorem oddT_no {t : Th} (h : oddT t = false) : (1 ≤ t.bu ∧ t.bu ≤ t.pe ∧ t.pe ≤ 1099511627776) ∧ (0 ≤ t.pr ∧ t.pr ≤ 63) := by
  unfold oddT at h
  simp at h; omega
def th0 (t : Th) : Bp := ⟨t, ⟨[], 0⟩⟩
def deps (T : List Th) : List Int := if T.length = 0 then [1] else T.map (·.dp)
def goodT (T : List Th) : Bool := !(T.any oddT) && decide (T.length ≤ 64) && !((T.map (·.dp)).any oddW)
def Qs0 (T : List Th) : List Wq := (deps T).map fun d => ⟨[], d, 0⟩
theorem goodT_inv {T : List Th} (h : goodT T = true) : Bo.Inv 0 (T.map th0) (Qs0 T) := by
  unfold goodT at h
  simp only [Bool.and_eq_true, Bool.not_eq_true', decide_eq_true_eq] at h
  obtain ⟨⟨h1, h2⟩, h3⟩ := h
  refine ⟨fun x hx => ?_, ?_, ?_⟩
  · obtain ⟨t, ht, rfl⟩ := List.mem_map.1 hx
    have ho : oddT t = false := by
      cases hh : oddT t with
      | false => rfl
      | true => rw [← h1]; exact (List.any_eq_true.2 ⟨t, ht, hh⟩).symm
    obtain ⟨⟨a1, a2, a3⟩, a4, a5⟩ := oddT_no ho
    exact ⟨⟨a1, show t.bu ≤ _ by omega⟩, ⟨show 1 ≤ t.pe by omega, a3⟩, ⟨a4, a5⟩, Srv.inv0 a1⟩
  · unfold Qs0 deps
    split
    · exact Wk.Inv.start (by decide) (by decide)
    · exact Wk.Inv.start (by simpa using h2) h3
  · cases T with
    | nil => exact .inl rfl
    | cons t l => exact .inr (by simp [Qs0, deps])
theorem IR.of_reads {S : Nat} {w : World} {sa : Option Addr} {n c : Nat} {L : List Int} (h : Reads S w (.slice sa n c) n (ics L)) (hn : L.length = n) : IR w sa c L := by
  subst hn
  rcases h with ⟨h0, h1, h2⟩ | ⟨g, off, cap, h0, h2, h3, h4, h5, h6⟩
  · simp only [Value.slice.injEq] at h0
    obtain ⟨rfl, hl, rfl⟩ := h0
    exact ⟨by omega, Nat.zero_le _, fun k hk => by omega⟩
  · simp only [Value.slice.injEq] at h0
    obtain ⟨rfl, _, rfl⟩ := h0
    exact ⟨h4, h5, fun k hk => ⟨g, off, rfl, h3, by rw [h6 k (by simpa using hk)]; simp [ics]⟩⟩
end Vg
namespace Go.Proofs.YtekjnagojphmkaaDoor
open Go.ChangeShapes Go.WideShapes Go.ChangeAt Go.RowKit
theorem Tryd.info_bthread : (Tryd.prog.info? 127).map (fun i => (i.zero, i.size, i.bytes)) = some (some (.agg #[.int .i64 0, .int .i64 0, .int .i64 0, .int .i64 0, .pointer none]), 5, 40) := by kernel_rfl
abbrev bnC (rv : Value) : Obj := .cells #[rv, .pointer none] 122
abbrev thR (t : Vg.Th) : Obj := .cells #[.int .i64 t.pr, .int .i64 t.bu, .int .i64 t.pe, .int .i64 t.dp] 112
/-- Threads under way. -/
structure NB (w : World) (b : Nat) (xs : List Vg.Bt) (rv v5 : Value) (L : List Int) : Prop where
  tab : Vg.blk w b = some (bnC rv)
  row : Vg.Que w (b + 1) 127 5 rv xs.length (Vg.bcells xs)
  dep : Vg.Que w (b + 1) 3 1 v5 L.length (Vg.ics L)
  srv : ∀ i (h : i < xs.length), SA w xs[i].sb (xs[i].sb + 1) xs[i].p.t.bu xs[i].p.t.pe xs[i].p.s xs[i].sv ∧ xs[i].sv = .slice none 0 0 ∧ b < xs[i].sb ∧ rv.ownBlock ≠ some xs[i].sb ∧ v5.ownBlock ≠ some xs[i].sb
  ne : ∀ k, rv.ownBlock = some k → v5.ownBlock ≠ some k
  inj : ∀ i j (hi : i < xs.length) (hj : j < xs.length), i ≠ j → xs[i].sb ≠ xs[j].sb
section
variable {w w' W1 : World} {b n m : Nat} {xs : List Vg.Bt} {rv v5 rv2 v2 : Value} {L : List Int} {y : Array Obj}
theorem NB.grows (h : NB w b xs rv v5 L) (hg : Vg.Grows w w') : NB w' b xs rv v5 L :=
  ⟨hg.blk h.tab, h.row.grows hg, h.dep.grows hg, fun i hi => ⟨(h.srv i hi).1.grows hg, (h.srv i hi).2⟩, h.ne, h.inj⟩
theorem NB.lt (h : NB w b xs rv v5 L) : b < w.heap.size := Vg.lt_of h.tab
/-- A thread is appended, and the row stored. -/
theorem NB.app1 {x : Vg.Bt} {news : List Value} (h : NB w b xs rv v5 L) (hs : SA w x.sb (x.sb + 1) x.p.t.bu x.p.t.pe x.p.s x.sv) (hv : x.sv = .slice none 0 0) (hb : b < x.sb) (h1 : rv.ownBlock ≠ some x.sb) (h2 : v5.ownBlock ≠ some x.sb) (h3 : ∀ i (hi : i < xs.length), xs[i].sb ≠ x.sb)
    (hq : Vg.Que (Vg.plus W1 y m) (b + 1) 127 5 rv2 (xs.length + 1) (Vg.bcells xs ++ news)) (hn : Vg.bcells [x] = news) (hS : Vg.Same (fun j => rv.ownBlock = some j) w W1) (ho : rv2.ownBlock = rv.ownBlock ∨ rv2.ownBlock = some w.heap.size) :
    NB (Vg.put (Vg.plus W1 y m) b (bnC rv2)) b (xs ++ [x]) rv2 v5 L := by
  subst hn
  have hT : Vg.Touch (fun k => rv.ownBlock = some k ∨ k = b) w (Vg.put (Vg.plus W1 y m) b (bnC rv2)) :=
    ((((Vg.Touch.of_same hS).mono fun k _ hk => .inl hk).trans (Vg.Touch.of_grows ((Vg.Grows.refl W1).plus y m)))).put (.inr rfl) _
  have hrl := h.row.lt
  have hdl := h.dep.lt
  have hbl := h.lt
  have hx := hs.lt
  have hbW : b < (Vg.plus W1 y m).heap.size := by rw [Vg.plus_size, hS.size]; omega
  have hall : ∀ i (hi : i < (xs ++ [x]).length), (∃ hi' : i < xs.length, (xs ++ [x])[i] = xs[i]) ∨ (i = xs.length ∧ (xs ++ [x])[i] = x) := fun i hi => by
    by_cases hlt : i < xs.length
    · exact .inl ⟨hlt, List.getElem_append_left hlt⟩
    · have : i = xs.length := by simp at hi; omega
      subst this
      exact .inr ⟨rfl, by simp⟩
  have hold : ∀ (z : Vg.Bt), (SA w z.sb (z.sb + 1) z.p.t.bu z.p.t.pe z.p.s z.sv ∧ z.sv = .slice none 0 0 ∧ b < z.sb ∧ rv.ownBlock ≠ some z.sb ∧ v5.ownBlock ≠ some z.sb) →
      SA (Vg.put (Vg.plus W1 y m) b (bnC rv2)) z.sb (z.sb + 1) z.p.t.bu z.p.t.pe z.p.s z.sv ∧ z.sv = .slice none 0 0 ∧ b < z.sb ∧ rv2.ownBlock ≠ some z.sb ∧ v5.ownBlock ≠ some z.sb := fun z hz => by
    obtain ⟨z1, z2, z3, z4, z5⟩ := hz
    have zl := z1.lt
    refine ⟨z1.touch hT (fun hh => by rcases hh with hh | hh; exact z4 hh; omega) (fun k hk => by rw [z2] at hk; simp [Value.ownBlock] at hk), z2, z3, fun hh => ?_, z5⟩
    rcases ho with h5 | h5
    · exact z4 (h5.symm.trans hh)
    · have := Option.some.inj (hh.symm.trans h5); omega
  refine ⟨Vg.put_heap_same hbW, ?_, h.dep.kept fun k hk => hT.block k (hdl k hk).2 fun hh => ?_, fun i hi => ?_, fun k hk hk2 => ?_, fun i j hi hj hij => ?_⟩
  · rw [List.length_append, Vg.bcells_append]
    exact hq.kept fun k hk => Vg.put_heap_other (by have := (hq.lt k hk).1; omega)
  · rcases hh with hh | hh
    · exact h.ne k hh hk
    · have := (hdl k hk).1; omega
  · rcases hall i hi with ⟨hi', e⟩ | ⟨_, e⟩
    · rw [e]; exact hold _ (h.srv i hi')
    · rw [e]; exact hold _ ⟨hs, hv, hb, h1, h2⟩
  · rcases ho with h5 | h5
    · exact h.ne k (h5.symm.trans hk) hk2
    · have : some k = some w.heap.size := hk.symm.trans h5
      cases this
      have := (hdl _ hk2).2; omega
  · rcases hall i hi with ⟨hi', e⟩ | ⟨hi', e⟩ <;> rcases hall j hj with ⟨hj', e2⟩ | ⟨hj', e2⟩ <;> rw [e, e2]
    · exact h.inj i j hi' hj' hij
    · exact h3 i hi'
    · exact fun hh => h3 j hj' hh.symm
    · omega
/-- A depth is appended. -/
theorem NB.app2 {d : Int} (h : NB w b xs rv v5 L) (hq : Vg.Que (Vg.plus W1 y m) (b + 1) 3 1 v2 (L.length + 1) (Vg.ics L ++ [.int .i64 d])) (hS : Vg.Same (fun j => v5.ownBlock = some j) w W1) (ho : v2.ownBlock = v5.ownBlock ∨ v2.ownBlock = some w.heap.size) :
    NB (Vg.plus W1 y m) b xs rv v2 (L ++ [d]) := by
  have hT : Vg.Touch (fun k => v5.ownBlock = some k) w (Vg.plus W1 y m) := (Vg.Touch.of_same hS).trans (Vg.Touch.of_grows ((Vg.Grows.refl W1).plus y m))
  have hrl := h.row.lt
  have hdl := h.dep.lt
  have hbl := h.lt
  refine ⟨hT.bk h.tab fun hh => by have := (hdl b hh).1; omega, h.row.kept fun k hk => hT.block k (hrl k hk).2 (h.ne k hk), ?_, fun i hi => ?_, fun k hk hk2 => ?_, h.inj⟩
  · have e1 : (L ++ [d]).length = L.length + 1 := by simp
    have e2 : Vg.ics (L ++ [d]) = Vg.ics L ++ [.int .i64 d] := by simp [Vg.ics]
    rw [e1, e2]; exact hq
  · obtain ⟨z1, z2, z3, z4, z5⟩ := h.srv i hi
    have zl := z1.lt
    refine ⟨z1.touch hT z5 (fun k hk => by rw [z2] at hk; simp [Value.ownBlock] at hk), z2, z3, z4, fun hh => ?_⟩
    rcases ho with h5 | h5
    · exact z5 (h5.symm.trans hh)
    · have := Option.some.inj (hh.symm.trans h5); omega
  · rcases ho with h5 | h5
    · exact h.ne k hk (h5.symm.trans hk2)
    · have : some k = some w.heap.size := hk2.symm.trans h5
      cases this
      have := (hrl _ hk).2; omega
/-- The queues are made, and stored. -/
theorem NB.done {wb : Nat} {wv : Value} {O : Nat → Prop} {Q : List Vg.Wq} (h : NB w b xs rv v5 L) (hw : WS w' wb (wb + 1) Q wv O) (hg : Vg.Grows w w') (hwb : w.heap.size ≤ wb) :
    BT (Vg.put w' b (botC rv wb)) b xs rv wb Q wv O ∧ ∀ k, bown b xs rv wb O k → b ≤ k := by
  have h' := h.grows hg
  have hbl := h.lt
  have hbl' := h'.lt
  have hT : Vg.Touch (fun k => k = b) w' (Vg.put w' b (botC rv wb)) := Vg.Touch.put (t := fun k => k = b) (Vg.Touch.refl _ _) rfl _
  obtain ⟨a, c, hsh⟩ := h.row.shape
  have hlen : ∃ c, rv = .slice a xs.length c := ⟨c, hsh⟩
  have hfp : ∀ i (hi : i < xs.length) k, fp xs[i] k → k = xs[i].sb := fun i hi k hk => by
    rcases hk with hk | hk
    · exact hk
    · rw [(h.srv i hi).2.1] at hk; simp [Value.ownBlock] at hk
  have hsl : ∀ i (hi : i < xs.length), xs[i].sb < w.heap.size := fun i hi => (h.srv i hi).1.lt
  have hfw : ∀ k, fw wb O k → wb ≤ k := fun k hk => by
    rcases hk with hk | hk
    · omega
    · have := (hw.own k hk).1; omega
  refine ⟨⟨Vg.put_heap_same hbl', ⟨a, hlen⟩, (h'.row.kept (w' := Vg.put w' b (botC rv wb)) fun k hk => Vg.put_heap_other (by have := (h'.row.lt k hk).1; omega)).reads.weaken (Nat.zero_le _),
    fun i hi => ((h'.srv i hi).1).touch hT (fun hh => by have := (h.srv i hi).2.2.1; omega) (fun k hk => by rw [(h.srv i hi).2.1] at hk; simp [Value.ownBlock] at hk),
    hw.touch hT (fun hh => by omega) (fun k hk hh => by have := (hw.own k hk).1; omega), fun i j hi hj hij k hk hk2 => ?_, fun i hi k hk hh => ?_, fun i hi k hk => ?_, fun k hk => ?_⟩, ?_⟩
  · rw [hfp i hi k hk] at hk2
    exact h.inj i j hi hj hij (hfp j hj _ hk2)
  · have := hfp i hi k hk; have := hsl i hi; have := hfw k hh; omega
  · rw [hfp i hi k hk]
    exact ⟨by have := (h.srv i hi).2.2.1; omega, (h.srv i hi).2.2.2.1⟩
  · refine ⟨by have := hfw k hk; omega, fun hh => by have := (h.row.lt k hh).2; have := hfw k hk; omega⟩
  · rintro k (hk | hk | ⟨i, hi, hk⟩ | hk)
    · omega
    · have := (h.row.lt k hk).1; omega
    · have := hfp i hi k hk; have := (h.srv i hi).2.2.1; omega
    · have := hfw k hk; omega
theorem ws_newx {Q : List Vg.Wq} {sa : Option Addr} {sc n : Nat} (hr : Vg.IR w sa sc L) (hn : L.length = n) (h0 : 1 ≤ L.length) (h1 : L.length ≤ 64) (h2 : L.any Vg.oddW = false) (hQ : (L.map fun d => (⟨[], d, 0⟩ : Vg.Wq)) = Q) :
    Calls Tryd.prog 46 #[.slice sa n sc] w fun e w' => ∃ v O, e = .returned (.tuple #[.pointer (some ⟨w.heap.size, 0, none⟩), .int .i64 0]) ∧ WS w' w.heap.size (w.heap.size + 1) Q v O ∧ Vg.Grows w w' := ws_new hn hr h0 h1 h2 hQ
def BNew (w w' : World) (T : List Vg.Th) (e : Ending) : Prop :=
  (Vg.goodT T = true ∧ (∃ xs rv wb wv O, e = .returned (.tuple #[.pointer (some ⟨w.heap.size, 0, none⟩), .int .i64 0]) ∧ BT w' w.heap.size xs rv wb (Vg.Qs0 T) wv O ∧ xs.map (·.p) = T.map Vg.th0 ∧ (∀ k, bown w.heap.size xs rv wb O k → w.heap.size ≤ k)) ∧ Vg.Grows w w') ∨
  (Vg.goodT T = false ∧ e = .returned (.tuple #[.pointer none, .int .i64 1]) ∧ Vg.Grows w w')
theorem bot_new_any {T : List Vg.Th} {sa : Option Addr} {sc n : Nat} (hr : Vg.TR w sa sc T) (hn : T.length = n) (hn2 : n ≤ 4398046511104) :
    Calls Tryd.prog 16 #[.slice sa n sc] w fun e w' => BNew w w' T e := by
  obtain ⟨i0, hI, hz0, hz1, hz2⟩ := info_parts Tryd.info_bthread
  obtain ⟨j0, hJ, hy0, hy1, hy2⟩ := info_parts Tryd.info_int
  have hcm : n ≤ 9223372036854775807 := by omega
  have H_hr := Lib.hid hr; clear hr; have H_hn := Lib.hid hn; clear hn
  go_enter Tryd.func16, Tryd.ntmps16
  go_wp2
  obtain ⟨b, hb⟩ : ∃ b, w.heap.size = b := ⟨_, rfl⟩
  obtain ⟨W0, hW0⟩ : ∃ W0, w.alloc (bnC (.slice none 0 0)) = W0 := ⟨_, rfl⟩
  have g0 : NB W0 b [] (.slice none 0 0) (.slice none 0 0) [] := ⟨by rw [← hW0, ← hb]; exact Vg.alloc_heap_at rfl, Vg.Que.nil _ _ _ _, Vg.Que.nil _ _ _ _, fun i h => by simp at h, fun k h => by simp [Value.ownBlock] at h, fun i j h => by simp at h⟩
  have gg : Vg.Grows w W0 := by rw [← hW0]; (repeat' (first | (with_reducible exact Vg.Grows.refl _) | (with_reducible assumption) | (with_reducible refine Vg.Grows.alloc ?_ _) | (with_reducible refine Vg.Grows.plus ?_ _ _) | (with_reducible refine Vg.Grows.drewN ?_ _) | (with_reducible refine Vg.Grows.drew ?_) | (with_reducible refine Vg.Grows.setCell ?_ ?_ _) | (with_reducible refine Vg.Grows.put ?_ ?_ _) | omega | (simp; omega) | (simp; done)))
  have hbw : w.heap.size ≤ b := by omega
  simp only [hb]
  rw [hW0]
  have H_hb := Lib.hid hb; clear hb; have H_hW0 := Lib.hid hW0; clear hW0; have H_g0 := Lib.hid g0; clear g0
  go_loopw [5, 16] (fun v5' i wr => ∃ (k : Nat) (xs : List Vg.Bt) (rv v5 : Value), k ≤ n ∧ i = .int .i64 k ∧ v5' = v5 ∧ Vg.Grows w wr ∧ xs.map (·.p) = (T.take k).map Vg.th0 ∧ (T.take k).any Vg.oddT = false ∧ NB wr b xs rv v5 ((T.take k).map (·.dp))) (fun _ i _ => n - (intOf i).toNat)
  case atStart => exact ⟨0, [], _, _, by omega, rfl, rfl, gg, by simp, by simp, by simpa using H_g0.out⟩
  case round =>
    obtain ⟨k, xs, rv, v5, hk, rfl, rfl, hgr, hmap, hpre, hnb⟩ := hrel
    by_cases hlt : k < n
    · have hkT : k < T.length := by rw [H_hn.out]; exact hlt
      obtain ⟨g, off, rfl, hg, c0, c1, c2, c3⟩ := H_hr.out.2.2 k hkT
      have hrc := H_hr.out.1
      have hrm : sc ≤ 9223372036854775807 := H_hr.out.2.1
      rw [H_hn.out] at hrc
      have hsn := List.take_succ_eq_append_getElem hkT
      obtain ⟨t, ht⟩ : ∃ t, T[k] = t := ⟨_, rfl⟩
      rw [ht] at c0 c1 c2 c3 hsn
      have c0 := (hgr.below.cell (p := ⟨g, off + k * 4, none⟩) hg).trans c0
      have c1 := (hgr.below.cell (p := ⟨g, off + k * 4 + 1, none⟩) hg).trans c1
      have c2 := (hgr.below.cell (p := ⟨g, off + k * 4 + 2, none⟩) hg).trans c2
      have c3 := (hgr.below.cell (p := ⟨g, off + k * 4 + 3, none⟩) hg).trans c3
      have hgl : g < wr.heap.size := Nat.lt_of_lt_of_le hg hgr.size
      have hme : t ∈ T := by rw [← ht]; exact List.getElem_mem _
      cases hodd : Vg.oddT t with
      | true =>
        have hbad : Vg.goodT T = false := by
          have : T.any Vg.oddT = true := List.any_eq_true.2 ⟨t, hme, hodd⟩
          unfold Vg.goodT; rw [this]; rfl
        have hfin : ∀ w', Vg.Grows w w' → BNew w w' T (.returned (.tuple #[.pointer none, .int .i64 1])) := fun w' h => .inr ⟨hbad, rfl, h⟩
        have hcase : (t.bu < 1 ∨ t.pe < t.bu ∨ 1099511627776 < t.pe) ∨ ((1 ≤ t.bu ∧ t.bu ≤ t.pe ∧ t.pe ≤ 1099511627776) ∧ (t.pr < 0 ∨ (¬ t.pr < 0 ∧ 63 < t.pr))) := by
          unfold Vg.oddT at hodd; simp at hodd; omega
        rcases hcase with h1 | ⟨⟨h1, h2, h3⟩, h4 | ⟨h4, h5⟩⟩
        · have H_hmap := Lib.hid hmap; clear hmap; have H_hpre := Lib.hid hpre; clear hpre; have H_hnb := Lib.hid hnb; clear hnb; have H_hsn := Lib.hid hsn; clear hsn; have H_ht := Lib.hid ht; clear ht; have H_hme := Lib.hid hme; clear hme; have H_hodd := Lib.hid hodd; clear hodd; have H_hbad := Lib.hid hbad; clear hbad; have H_hfin := Lib.hid hfin; clear hfin
          go_wp2_with ((go_at_call 45; refine (serv_new_no t.bu t.pe h1).mono ?_; rintro e w1 ⟨rfl, rfl⟩))
          go_returns
          exact H_hfin.out _ (by (repeat' (first | (with_reducible exact Vg.Grows.refl _) | (with_reducible assumption) | (with_reducible refine Vg.Grows.alloc ?_ _) | (with_reducible refine Vg.Grows.plus ?_ _ _) | (with_reducible refine Vg.Grows.drewN ?_ _) | (with_reducible refine Vg.Grows.drew ?_) | (with_reducible refine Vg.Grows.setCell ?_ ?_ _) | (with_reducible refine Vg.Grows.put ?_ ?_ _) | omega | (simp; omega) | (simp; done))))
        · have H_hmap := Lib.hid hmap; clear hmap; have H_hpre := Lib.hid hpre; clear hpre; have H_hnb := Lib.hid hnb; clear hnb; have H_hsn := Lib.hid hsn; clear hsn; have H_ht := Lib.hid ht; clear ht; have H_hme := Lib.hid hme; clear hme; have H_hodd := Lib.hid hodd; clear hodd; have H_hbad := Lib.hid hbad; clear hbad; have H_hfin := Lib.hid hfin; clear hfin
          go_wp2_with ((go_at_call 45; refine (serv_new_ok t.bu t.pe h1 h2 h3).mono ?_; rintro e w1 ⟨rfl, rfl⟩))
          go_returns
          exact H_hfin.out _ (by (repeat' (first | (with_reducible exact Vg.Grows.refl _) | (with_reducible assumption) | (with_reducible refine Vg.Grows.alloc ?_ _) | (with_reducible refine Vg.Grows.plus ?_ _ _) | (with_reducible refine Vg.Grows.drewN ?_ _) | (with_reducible refine Vg.Grows.drew ?_) | (with_reducible refine Vg.Grows.setCell ?_ ?_ _) | (with_reducible refine Vg.Grows.put ?_ ?_ _) | omega | (simp; omega) | (simp; done))))
        · have H_hmap := Lib.hid hmap; clear hmap; have H_hpre := Lib.hid hpre; clear hpre; have H_hnb := Lib.hid hnb; clear hnb; have H_hsn := Lib.hid hsn; clear hsn; have H_ht := Lib.hid ht; clear ht; have H_hme := Lib.hid hme; clear hme; have H_hodd := Lib.hid hodd; clear hodd; have H_hbad := Lib.hid hbad; clear hbad; have H_hfin := Lib.hid hfin; clear hfin
          go_wp2_with ((go_at_call 45; refine (serv_new_ok t.bu t.pe h1 h2 h3).mono ?_; rintro e w1 ⟨rfl, rfl⟩))
          go_returns
          exact H_hfin.out _ (by (repeat' (first | (with_reducible exact Vg.Grows.refl _) | (with_reducible assumption) | (with_reducible refine Vg.Grows.alloc ?_ _) | (with_reducible refine Vg.Grows.plus ?_ _ _) | (with_reducible refine Vg.Grows.drewN ?_ _) | (with_reducible refine Vg.Grows.drew ?_) | (with_reducible refine Vg.Grows.setCell ?_ ?_ _) | (with_reducible refine Vg.Grows.put ?_ ?_ _) | omega | (simp; omega) | (simp; done))))
      | false =>
        obtain ⟨⟨h1, h2, h3⟩, h4, h5⟩ := Vg.oddT_no hodd
        have hnx : (T.take (k + 1)).any Vg.oddT = false := by rw [hsn, List.any_append, hpre]; simp [hodd]
        have hLk : ((T.take k).map (·.dp)).length = k := by rw [List.length_map, List.length_take]; omega
        have hxk : xs.length = k := by have := congrArg List.length hmap; rw [List.length_map, List.length_map, List.length_take] at this; omega
        have hrow := hnb.row
        have hdep := hnb.dep
        obtain ⟨ra, rc, rfl⟩ := hrow.shape
        obtain ⟨a5, c5, rfl⟩ := hdep.shape
        rw [hLk] at hnb hdep ⊢
        rw [hxk] at hnb hrow
        have H_hmap := Lib.hid hmap; clear hmap; have H_hpre := Lib.hid hpre; clear hpre; have H_hnb := Lib.hid hnb; clear hnb; have H_hsn := Lib.hid hsn; clear hsn; have H_ht := Lib.hid ht; clear ht; have H_hme := Lib.hid hme; clear hme; have H_hodd := Lib.hid hodd; clear hodd; have H_hnx := Lib.hid hnx; clear hnx; have H_hLk := Lib.hid hLk; clear hLk; have H_hxk := Lib.hid hxk; clear hxk; have H_hrow := Lib.hid hrow; clear hrow; have H_hdep := Lib.hid hdep; clear hdep
        go_upto_region 9 with ((go_at_call 45; refine (sa_new h1 h2 h3).mono ?_; rintro e w1 ⟨rfl, hsa, rfl⟩; have HSA := Lib.hid hsa; clear hsa))
        have hsa := HSA.out
        clear HSA
        obtain ⟨wy, hwy⟩ : ∃ wy, (wr.alloc (thR t)).alloc (servC t.bu t.pe (.slice none 0 0) 0) = wy := ⟨_, rfl⟩
        have hgy : Vg.Grows wr wy := by rw [← hwy]; (repeat' (first | (with_reducible exact Vg.Grows.refl _) | (with_reducible assumption) | (with_reducible refine Vg.Grows.alloc ?_ _) | (with_reducible refine Vg.Grows.plus ?_ _ _) | (with_reducible refine Vg.Grows.drewN ?_ _) | (with_reducible refine Vg.Grows.drew ?_) | (with_reducible refine Vg.Grows.setCell ?_ ?_ _) | (with_reducible refine Vg.Grows.put ?_ ?_ _) | omega | (simp; omega) | (simp; done)))
        have x2 : Vg.blk wy wr.heap.size = some (thR t) := by rw [← hwy]; exact (Vg.alloc_heap_past (by simp)).trans (Vg.alloc_heap_at rfl)
        have nb2 := H_hnb.out.grows hgy
        have q2 := H_hrow.out.grows hgy
        have x1 := nb2.tab
        have hgwy := hgr.trans hgy
        have hszy : wy.heap.size = wr.heap.size + 1 + 1 := by rw [← hwy]; simp
        have hbr := H_hnb.out.lt
        have hrr := H_hrow.out.lt
        have hdd := H_hdep.out.lt
        have hss : ∀ i (hi : i < xs.length), xs[i].sb < wr.heap.size := fun i hi => (H_hnb.out.srv i hi).1.lt
        rw [hwy] at hsa ⊢
        simp only [World.size_alloc] at hsa ⊢
        obtain ⟨sb, hsb⟩ : ∃ sb, wr.heap.size + 1 = sb := ⟨_, rfl⟩
        rw [hsb] at hsa hszy
        simp only [hsb]
        obtain ⟨bx, hbx⟩ : ∃ bx, wr.heap.size = bx := ⟨_, rfl⟩
        rw [hbx] at x2 hsb hbr hrr hdd hss
        simp only [hbx]
        have n1 : b ≠ bx := by omega
        have n2 : bx ≠ b := by omega
        have hsz9 : b + 1 ≤ wy.heap.size := by omega
        have lb1 : b < sb + 1 := by omega
        have lb2 : bx < sb + 1 := by omega
        have c_x1 := Vg.cells_of x1; have f_x1 := Vg.frozen_of x1; have p_x1 := Vg.setCell_of x1; have l_x1 := Vg.lt_of x1; have H_x1 := Lib.hid x1; clear x1; have c_x2 := Vg.cells_of x2; have f_x2 := Vg.frozen_of x2; have p_x2 := Vg.setCell_of x2; have l_x2 := Vg.lt_of x2; have H_x2 := Lib.hid x2; clear x2
        have H_hsa := Lib.hid hsa; clear hsa; have H_nb2 := Lib.hid nb2; clear nb2; have H_q2 := Lib.hid q2; clear q2; have H_hwy := Lib.hid hwy; clear hwy; have H_hrr := Lib.hid hrr; clear hrr; have H_hdd := Lib.hid hdd; clear hdd; have H_hss := Lib.hid hss; clear hss; have H_hbx := Lib.hid hbx; clear hbx
        go_cut [] (fun wz => ∃ (xs' : List Vg.Bt) (rv2 : Value), xs'.map (·.p) = (T.take (k + 1)).map Vg.th0 ∧ NB wz b xs' rv2 (.slice a5 k c5) ((T.take k).map (·.dp)) ∧ Vg.blk wz bx = some (thR t) ∧ Vg.Grows w wz)
        case first =>
          go_region_law (refine Vg.step_que1 rfl (.tmp 44) (.tmp 48) 119 rfl (b + 1) 127 i0 (.agg #[.int .i64 0, .int .i64 0, .int .i64 0, .int .i64 0, .pointer none]) 5 40 Tryd.underlying119 hI hz0 hz1 hz2 rfl (by decide) (.slice ra k rc) k (Vg.bcells xs) (by simp [Act.eval, Act.put]) (H_q2.out.grows (by (repeat' (first | (with_reducible exact Vg.Grows.refl _) | (with_reducible assumption) | (with_reducible refine Vg.Grows.alloc ?_ _) | (with_reducible refine Vg.Grows.plus ?_ _ _) | (with_reducible refine Vg.Grows.drewN ?_ _) | (with_reducible refine Vg.Grows.drew ?_) | (with_reducible refine Vg.Grows.setCell ?_ ?_ _) | (with_reducible refine Vg.Grows.put ?_ ?_ _) | omega | (simp; omega) | (simp; done))))) ⟨sb + 1, 0, none⟩ 1 [.int .i64 t.pr, .int .i64 t.bu, .int .i64 t.pe, .int .i64 t.dp, .pointer (some ⟨sb, 0, none⟩)] (by simp [Act.eval, Act.put]) rfl (Vg.five_new (by first | rfl | ((try simp only [World.size_alloc, Vg.plus_size, Vg.put_size, World.size_setCell, World.size_drew, World.heap_drewN]) <;> omega))) (by simp [Value.oneCell']) (by unfold maxLen; omega) (by omega) (by decide) (by simp only [World.size_alloc, World.heap_drewN, World.size_drew]; omega) ?_; intro v2 W1 y2 m2 hq2 hs2 ho2; obtain ⟨a2, c2, rfl⟩ := hq2.shape; have z1 := (hs2.block b (fun hh => by have := (H_q2.out.lt b hh).1; omega)).trans (Vg.Grows.blk (w0 := wy) (by (repeat' (first | (with_reducible exact Vg.Grows.refl _) | (with_reducible assumption) | (with_reducible refine Vg.Grows.alloc ?_ _) | (with_reducible refine Vg.Grows.plus ?_ _ _) | (with_reducible refine Vg.Grows.drewN ?_ _) | (with_reducible refine Vg.Grows.drew ?_) | (with_reducible refine Vg.Grows.setCell ?_ ?_ _) | (with_reducible refine Vg.Grows.put ?_ ?_ _) | omega | (simp; omega) | (simp; done)))) H_x1.out); have z2 := (hs2.block bx (fun hh => by have := (H_hrr.out bx hh).2; omega)).trans (Vg.Grows.blk (w0 := wy) (by (repeat' (first | (with_reducible exact Vg.Grows.refl _) | (with_reducible assumption) | (with_reducible refine Vg.Grows.alloc ?_ _) | (with_reducible refine Vg.Grows.plus ?_ _ _) | (with_reducible refine Vg.Grows.drewN ?_ _) | (with_reducible refine Vg.Grows.drew ?_) | (with_reducible refine Vg.Grows.setCell ?_ ?_ _) | (with_reducible refine Vg.Grows.put ?_ ?_ _) | omega | (simp; omega) | (simp; done)))) H_x2.out); have hszW := hs2.size; have hgW := hs2.grows (w0 := w) (Vg.Grows.trans hgwy (by (repeat' (first | (with_reducible exact Vg.Grows.refl _) | (with_reducible assumption) | (with_reducible refine Vg.Grows.alloc ?_ _) | (with_reducible refine Vg.Grows.plus ?_ _ _) | (with_reducible refine Vg.Grows.drewN ?_ _) | (with_reducible refine Vg.Grows.drew ?_) | (with_reducible refine Vg.Grows.setCell ?_ ?_ _) | (with_reducible refine Vg.Grows.put ?_ ?_ _) | omega | (simp; omega) | (simp; done))))) (fun j hj => by have := (H_q2.out.lt j hj).1; omega); have nb4 := fun m => NB.app1 (m := m) (x := ⟨⟨t, ⟨[], 0⟩⟩, sb, .slice none 0 0⟩) (NB.grows H_nb2.out (by (repeat' (first | (with_reducible exact Vg.Grows.refl _) | (with_reducible assumption) | (with_reducible refine Vg.Grows.alloc ?_ _) | (with_reducible refine Vg.Grows.plus ?_ _ _) | (with_reducible refine Vg.Grows.drewN ?_ _) | (with_reducible refine Vg.Grows.drew ?_) | (with_reducible refine Vg.Grows.setCell ?_ ?_ _) | (with_reducible refine Vg.Grows.put ?_ ?_ _) | omega | (simp; omega) | (simp; done))))) (SA.grows H_hsa.out (by (repeat' (first | (with_reducible exact Vg.Grows.refl _) | (with_reducible assumption) | (with_reducible refine Vg.Grows.alloc ?_ _) | (with_reducible refine Vg.Grows.plus ?_ _ _) | (with_reducible refine Vg.Grows.drewN ?_ _) | (with_reducible refine Vg.Grows.drew ?_) | (with_reducible refine Vg.Grows.setCell ?_ ?_ _) | (with_reducible refine Vg.Grows.put ?_ ?_ _) | omega | (simp; omega) | (simp; done))))) rfl (by show b < sb; omega) (fun hh => by have := (H_hrr.out sb hh).2; omega) (fun hh => by have := (H_hdd.out sb hh).2; omega) (fun i hi hh => by have hh : xs[i].sb = sb := hh; have := H_hss.out i hi; omega) (by rw [H_hxk.out]; exact hq2) rfl hs2 ho2; clear c_x1 f_x1 p_x1 c_x2 f_x2 p_x2; have c_z1 := Vg.cells_of z1; have f_z1 := Vg.frozen_of z1; have p_z1 := Vg.setCell_of z1; have l_z1 := Vg.lt_of z1; have H_z1 := Lib.hid z1; clear z1; have c_z2 := Vg.cells_of z2; have f_z2 := Vg.frozen_of z2; have p_z2 := Vg.setCell_of z2; have l_z2 := Vg.lt_of z2; have H_z2 := Lib.hid z2; clear z2; have e1 : (Vg.plus W1 y2 m2).cell? ⟨b, 0, none⟩ = some (.slice ra k rc) := (by rw [Vg.plus_cell l_z1, c_z1]; rfl); have e2 : (Vg.plus W1 y2 m2).frozen? ⟨b, 0, none⟩ = false := (by rw [Vg.plus_frozen l_z1, f_z1]); have H_hq2 := Lib.hid hq2; clear hq2; have H_hs2 := Lib.hid hs2; clear hs2; have H_ho2 := Lib.hid ho2; clear ho2; have H_nb4 := Lib.hid nb4; clear nb4; have H_hszW := Lib.hid hszW; clear hszW)
          all_goals go_wp2_with fail
          all_goals go_meet
          all_goals refine ⟨xs ++ [⟨⟨t, ⟨[], 0⟩⟩, sb, .slice none 0 0⟩], .slice a2 (k + 1) c2, by rw [List.map_append, H_hmap.out, H_hsn.out, List.map_append]; rfl, ?_, ?_, Vg.Grows.plus (Vg.Grows.put hgW hbw _) _ _⟩
          all_goals first
            | (have h9 := H_nb4.out m2; rw [Vg.put_plus l_z1] at h9; exact h9)
            | (rw [Vg.blk_plus (by rw [Vg.put_size]; exact l_z2)]; exact (Vg.put_heap_other n1).trans H_z2.out)
        case rest =>
          obtain ⟨xs', rv2, hmap', nb3, x3, hg3⟩ := hcut
          have hdep3 := nb3.dep
          rw [H_hLk.out] at hdep3
          have hsz3 : b + 1 ≤ wc.heap.size := nb3.lt
          clear c_x1 f_x1 p_x1 c_x2 f_x2 p_x2
          have c_x3 := Vg.cells_of x3; have f_x3 := Vg.frozen_of x3; have p_x3 := Vg.setCell_of x3; have l_x3 := Vg.lt_of x3; have H_x3 := Lib.hid x3; clear x3
          have H_hmap' := Lib.hid hmap'; clear hmap'; have H_nb3 := Lib.hid nb3; clear nb3; have H_hdep3 := Lib.hid hdep3; clear hdep3
          go_wp2_with (at_builtin; (refine Vg.wpList_que1 (w := _) rfl (.tmp 52) (.tmp 55) 29 rfl (b + 1) 3 j0 (.int .i64 0) 1 8 Tryd.underlying29 hJ hy0 hy1 hy2 rfl (by decide) (.slice a5 k c5) k _ rfl (H_hdep3.out.grows (by (repeat' (first | (with_reducible exact Vg.Grows.refl _) | (with_reducible assumption) | (with_reducible refine Vg.Grows.alloc ?_ _) | (with_reducible refine Vg.Grows.plus ?_ _ _) | (with_reducible refine Vg.Grows.drewN ?_ _) | (with_reducible refine Vg.Grows.drew ?_) | (with_reducible refine Vg.Grows.setCell ?_ ?_ _) | (with_reducible refine Vg.Grows.put ?_ ?_ _) | omega | (simp; omega) | (simp; done))))) _ 1 [.int .i64 t.dp] rfl rfl (Vg.one_new (by first | rfl | ((try simp only [World.size_alloc, Vg.plus_size, Vg.put_size, World.size_setCell, World.size_drew, World.heap_drewN]) <;> omega))) (by simp [Value.oneCell']) (by unfold maxLen; omega) (by omega) (by decide) (by simp only [World.size_alloc]; omega) ?_; intro v2 W1 y2 m2 hq2 hs2 ho2; have nb5 := NB.app2 (d := t.dp) (NB.grows H_nb3.out (by (repeat' (first | (with_reducible exact Vg.Grows.refl _) | (with_reducible assumption) | (with_reducible refine Vg.Grows.alloc ?_ _) | (with_reducible refine Vg.Grows.plus ?_ _ _) | (with_reducible refine Vg.Grows.drewN ?_ _) | (with_reducible refine Vg.Grows.drew ?_) | (with_reducible refine Vg.Grows.setCell ?_ ?_ _) | (with_reducible refine Vg.Grows.put ?_ ?_ _) | omega | (simp; omega) | (simp; done))))) (by rw [H_hLk.out]; exact hq2) hs2 ho2; have hgW2 := hs2.grows (hg3.alloc _) (fun j hj => by have := (H_hdep3.out.lt j hj).1; omega); obtain ⟨a6, c6, rfl⟩ := hq2.shape; have H_hq2 := Lib.hid hq2; clear hq2; have H_hs2 := Lib.hid hs2; clear hs2; have H_ho2 := Lib.hid ho2; clear ho2; have H_nb5 := Lib.hid nb5; clear nb5))
          refine ⟨⟨k + 1, xs', rv2, .slice a6 (k + 1) c6, by omega, by go_num, rfl, by (repeat' (first | (with_reducible exact Vg.Grows.refl _) | (with_reducible assumption) | (with_reducible refine Vg.Grows.alloc ?_ _) | (with_reducible refine Vg.Grows.plus ?_ _ _) | (with_reducible refine Vg.Grows.drewN ?_ _) | (with_reducible refine Vg.Grows.drew ?_) | (with_reducible refine Vg.Grows.setCell ?_ ?_ _) | (with_reducible refine Vg.Grows.put ?_ ?_ _) | omega | (simp; omega) | (simp; done))), H_hmap'.out, H_hnx.out, ?_⟩, by simp [intOf]; omega⟩
          have h9 := H_nb5.out
          rw [H_hsn.out, List.map_append]
          exact h9
    · have hkn : k = n := by omega
      subst hkn
      have htk : T.take k = T := List.take_of_length_le (by rw [H_hn.out]; exact Nat.le_refl _)
      rw [htk] at hmap hpre hnb
      have x1 := hnb.tab
      have hdep := hnb.dep
      have hlD : (T.map (·.dp)).length = k := by rw [List.length_map]; exact H_hn.out
      have hbr := hnb.lt
      have c_x1 := Vg.cells_of x1; have f_x1 := Vg.frozen_of x1; have p_x1 := Vg.setCell_of x1; have l_x1 := Vg.lt_of x1; have H_x1 := Lib.hid x1; clear x1
      by_cases hz : k = 0
      · subst hz
        have hT : T = [] := List.eq_nil_of_length_eq_zero H_hn.out
        subst hT
        have o1 : [(1 : Int)].any Vg.oddW = false := by decide
        have H_hmap := Lib.hid hmap; clear hmap; have H_hpre := Lib.hid hpre; clear hpre; have H_hnb := Lib.hid hnb; clear hnb; have H_hdep := Lib.hid hdep; clear hdep; have H_htk := Lib.hid htk; clear htk; have H_hlD := Lib.hid hlD; clear hlD; have H_o1 := Lib.hid o1; clear o1
        go_wp2_with ((go_at_call 46; refine (ws_newx (L := [1]) (Q := Vg.Qs0 []) (Vg.IR.block (L := [1]) (Vg.alloc_heap_at (by (try simp only [World.size_alloc, Vg.plus_size, Vg.put_size, World.size_setCell, World.size_drew]) <;> omega)) (by simp [maxLen])) rfl (by decide) (by decide) H_o1.out rfl).mono ?_; rintro e w2 ⟨wv, O, rfl, hws, hgw⟩; (have y1 := (Vg.Grows.blk (w0 := wr) (Vg.Grows.trans (by (repeat' (first | (with_reducible exact Vg.Grows.refl _) | (with_reducible assumption) | (with_reducible refine Vg.Grows.alloc ?_ _) | (with_reducible refine Vg.Grows.plus ?_ _ _) | (with_reducible refine Vg.Grows.drewN ?_ _) | (with_reducible refine Vg.Grows.drew ?_) | (with_reducible refine Vg.Grows.setCell ?_ ?_ _) | (with_reducible refine Vg.Grows.put ?_ ?_ _) | omega | (simp; omega) | (simp; done)))) hgw) H_x1.out); have hd := NB.done (w := wr) H_hnb.out hws (Vg.Grows.trans (by (repeat' (first | (with_reducible exact Vg.Grows.refl _) | (with_reducible assumption) | (with_reducible refine Vg.Grows.alloc ?_ _) | (with_reducible refine Vg.Grows.plus ?_ _ _) | (with_reducible refine Vg.Grows.drewN ?_ _) | (with_reducible refine Vg.Grows.drew ?_) | (with_reducible refine Vg.Grows.setCell ?_ ?_ _) | (with_reducible refine Vg.Grows.put ?_ ?_ _) | omega | (simp; omega) | (simp; done)))) hgw) (by simp); have hgw2 := Vg.Grows.trans hgr (Vg.Grows.trans (by (repeat' (first | (with_reducible exact Vg.Grows.refl _) | (with_reducible assumption) | (with_reducible refine Vg.Grows.alloc ?_ _) | (with_reducible refine Vg.Grows.plus ?_ _ _) | (with_reducible refine Vg.Grows.drewN ?_ _) | (with_reducible refine Vg.Grows.drew ?_) | (with_reducible refine Vg.Grows.setCell ?_ ?_ _) | (with_reducible refine Vg.Grows.put ?_ ?_ _) | omega | (simp; omega) | (simp; done)))) hgw); clear c_x1 f_x1 p_x1; have c_y1 := Vg.cells_of y1; have f_y1 := Vg.frozen_of y1; have p_y1 := Vg.setCell_of y1; have l_y1 := Vg.lt_of y1; have H_y1 := Lib.hid y1; clear y1; have H_hws := Lib.hid hws; clear hws; have H_hgw := Lib.hid hgw; clear hgw; have H_hd := Lib.hid hd; clear hd)))
        go_returns
        refine .inl ⟨by decide, ?_, Vg.Grows.put hgw2 hbw _⟩
        rw [H_hb.out]
        have h9 := H_hd.out
        simp only [World.size_alloc] at h9
        exact ⟨xs, rv, wr.heap.size + 1, wv, O, rfl, h9.1, H_hmap.out, h9.2⟩
      · have hzz : ((k : Int) == 0) = false := by simp; exact hz
        obtain ⟨a5, c5, rfl⟩ := hdep.shape
        rw [hlD] at hdep hnb ⊢
        have hir : Vg.IR wr a5 c5 (T.map (·.dp)) := Vg.IR.of_reads hdep.reads hlD
        have hdl : Vg.deps T = T.map (·.dp) := by unfold Vg.deps; rw [if_neg (by rw [H_hn.out]; exact hz)]
        by_cases hgd : k ≤ 64 ∧ (T.map (·.dp)).any Vg.oddW = false
        · obtain ⟨hk64, hod⟩ := hgd
          have hgood : Vg.goodT T = true := by unfold Vg.goodT; rw [hpre, hod, H_hn.out]; simpa using hk64
          have hQ : ((T.map (·.dp)).map fun d => (⟨[], d, 0⟩ : Vg.Wq)) = Vg.Qs0 T := by unfold Vg.Qs0; rw [hdl]
          have H_hmap := Lib.hid hmap; clear hmap; have H_hpre := Lib.hid hpre; clear hpre; have H_hnb := Lib.hid hnb; clear hnb; have H_hdep := Lib.hid hdep; clear hdep; have H_htk := Lib.hid htk; clear htk; have H_hlD := Lib.hid hlD; clear hlD; have H_hir := Lib.hid hir; clear hir; have H_hdl := Lib.hid hdl; clear hdl; have H_hod := Lib.hid hod; clear hod; have H_hgood := Lib.hid hgood; clear hgood; have H_hQ := Lib.hid hQ; clear hQ
          go_wp2_with ((go_at_call 46; refine (ws_newx (L := T.map (·.dp)) (Q := Vg.Qs0 T) H_hir.out H_hlD.out (by rw [H_hlD.out]; omega) (by rw [H_hlD.out]; exact hk64) H_hod.out H_hQ.out).mono ?_; rintro e w2 ⟨wv, O, rfl, hws, hgw⟩; (have y1 := (Vg.Grows.blk (w0 := wr) (Vg.Grows.trans (by (repeat' (first | (with_reducible exact Vg.Grows.refl _) | (with_reducible assumption) | (with_reducible refine Vg.Grows.alloc ?_ _) | (with_reducible refine Vg.Grows.plus ?_ _ _) | (with_reducible refine Vg.Grows.drewN ?_ _) | (with_reducible refine Vg.Grows.drew ?_) | (with_reducible refine Vg.Grows.setCell ?_ ?_ _) | (with_reducible refine Vg.Grows.put ?_ ?_ _) | omega | (simp; omega) | (simp; done)))) hgw) H_x1.out); have hd := NB.done (w := wr) H_hnb.out hws (Vg.Grows.trans (by (repeat' (first | (with_reducible exact Vg.Grows.refl _) | (with_reducible assumption) | (with_reducible refine Vg.Grows.alloc ?_ _) | (with_reducible refine Vg.Grows.plus ?_ _ _) | (with_reducible refine Vg.Grows.drewN ?_ _) | (with_reducible refine Vg.Grows.drew ?_) | (with_reducible refine Vg.Grows.setCell ?_ ?_ _) | (with_reducible refine Vg.Grows.put ?_ ?_ _) | omega | (simp; omega) | (simp; done)))) hgw) (by simp); have hgw2 := Vg.Grows.trans hgr (Vg.Grows.trans (by (repeat' (first | (with_reducible exact Vg.Grows.refl _) | (with_reducible assumption) | (with_reducible refine Vg.Grows.alloc ?_ _) | (with_reducible refine Vg.Grows.plus ?_ _ _) | (with_reducible refine Vg.Grows.drewN ?_ _) | (with_reducible refine Vg.Grows.drew ?_) | (with_reducible refine Vg.Grows.setCell ?_ ?_ _) | (with_reducible refine Vg.Grows.put ?_ ?_ _) | omega | (simp; omega) | (simp; done)))) hgw); clear c_x1 f_x1 p_x1; have c_y1 := Vg.cells_of y1; have f_y1 := Vg.frozen_of y1; have p_y1 := Vg.setCell_of y1; have l_y1 := Vg.lt_of y1; have H_y1 := Lib.hid y1; clear y1; have H_hws := Lib.hid hws; clear hws; have H_hgw := Lib.hid hgw; clear hgw; have H_hd := Lib.hid hd; clear hd)))
          go_returns
          refine .inl ⟨H_hgood.out, ?_, Vg.Grows.put hgw2 hbw _⟩
          rw [H_hb.out]
          exact ⟨xs, rv, _, wv, O, rfl, H_hd.out.1, H_hmap.out, H_hd.out.2⟩
        · have hbad : Vg.goodT T = false := by
            cases hh : Vg.goodT T with
            | false => rfl
            | true =>
              unfold Vg.goodT at hh
              simp only [Bool.and_eq_true, Bool.not_eq_true', decide_eq_true_eq] at hh
              exact absurd ⟨by rw [← H_hn.out]; exact hh.1.2, hh.2⟩ hgd
          have hno : (T.map (·.dp)).length = 0 ∨ 64 < (T.map (·.dp)).length ∨ (T.map (·.dp)).any Vg.oddW = true := by
            by_cases h64 : k ≤ 64
            · right; right
              cases hh : (T.map (·.dp)).any Vg.oddW with
              | true => rfl
              | false => exact absurd ⟨h64, hh⟩ hgd
            · right; left; rw [hlD]; omega
          have H_hmap := Lib.hid hmap; clear hmap; have H_hpre := Lib.hid hpre; clear hpre; have H_hnb := Lib.hid hnb; clear hnb; have H_hdep := Lib.hid hdep; clear hdep; have H_htk := Lib.hid htk; clear htk; have H_hlD := Lib.hid hlD; clear hlD; have H_hir := Lib.hid hir; clear hir; have H_hdl := Lib.hid hdl; clear hdl; have H_hgd := Lib.hid hgd; clear hgd; have H_hbad := Lib.hid hbad; clear hbad; have H_hno := Lib.hid hno; clear hno
          go_wp2_with ((go_at_call 46; refine (ws_new_no (L := T.map (·.dp)) H_hlD.out H_hir.out H_hno.out).mono ?_; rintro e w2 ⟨rfl, rfl⟩))
          go_returns
          exact .inr ⟨H_hbad.out, rfl, hgr⟩
end
end Go.Proofs.YtekjnagojphmkaaDoor
