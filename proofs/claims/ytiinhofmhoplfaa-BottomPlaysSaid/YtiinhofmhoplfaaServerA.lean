/- Servers as words on worlds ('SA': a server lies at block b; 'RA': the document's server's list), law 15's plain acts, and its 'lives'. -/
import Derived.Test.YtiinhofmhoplfaaServerS
import Derived.Test.YtiinhofmhoplfaaFit
set_option linter.unusedSimpArgs false
set_option linter.unusedVariables false
set_option maxHeartbeats 400000
set_option maxRecDepth 20000
namespace Vg
open Go
theorem Touch.grows {w0 w w' : World} {t : Nat → Prop} (h : Touch t w w') (hg : Grows w0 w) (ht : ∀ k, t k → w0.heap.size ≤ k) : Grows w0 w' :=
  Grows.of_below ⟨h.os.trans hg.below.os, h.tape.trans hg.below.tape, h.output.trans hg.below.output, Nat.le_trans hg.size h.size, fun k hk =>
    (h.block k (Nat.lt_of_lt_of_le hk hg.size) (fun hh => by have := ht k hh; omega)).trans (hg.below.block k hk)⟩
theorem Touch.blk {w w' : World} {t : Nat → Prop} {k : Nat} {o : Obj} (h : Touch t w w') (hb : Vg.blk w k = some o) (ht : ¬ t k) : Vg.blk w' k = some o :=
  (h.block k (lt_of hb) ht).trans hb
theorem Reads.touch {S : Nat} {w w' : World} {t : Nat → Prop} {sv : Value} {n : Nat} {xs : List Value} (h : Reads S w sv n xs) (ht : Touch t w w') (ha : ∀ k, sv.ownBlock = some k → ¬ t k) : Reads S w' sv n xs := by
  rcases h with h | ⟨g, off, cap, h1, h2, h3, h4, h5, h6⟩
  · exact .inl h
  · refine .inr ⟨g, off, cap, h1, h2, Nat.lt_of_lt_of_le h3 ht.size, h4, h5, fun j hj => ?_⟩
    rw [← h6 j hj]
    exact World.cell?_of_block (w := w) (ht.block g h3 (ha g (by rw [h1]; rfl)))
theorem Reads.own_lt {S : Nat} {w : World} {sv : Value} {n : Nat} {xs : List Value} (h : Reads S w sv n xs) : ∀ k, sv.ownBlock = some k → S ≤ k ∧ k < w.heap.size := by
  intro k hk
  rcases h with ⟨rfl, _⟩ | ⟨g, off, cap, rfl, h2, h3, _⟩
  · simp [Value.ownBlock] at hk
  · have : g = k := by simpa [Value.ownBlock] using hk
    omega
def byt (t n : Int) : Int := if n < 0 ∨ 4503599627370496 - t < n then -1 else t + n
theorem byt_bd {t n : Int} (h : 0 ≤ t ∧ t ≤ 4503599627370496) : -1 ≤ byt t n ∧ byt t n ≤ 4503599627370496 := by unfold byt; split <;> omega
/-- An act at its own time. -/
def effs (last : Int) (x : Int × Int × Int) : Int × Int × Int :=
  if x.1 = 2 then (0, x.2.1, byt (max (byt last x.2.2) 0) x.2.1) else if x.1 = 3 then (1, x.2.1, byt last x.2.2) else x
theorem effs_bd {last : Int} {x : Int × Int × Int} (hl : 0 ≤ last ∧ last ≤ 4503599627370496) (h : -9223372036854775808 ≤ x.2.2 ∧ x.2.2 ≤ 9223372036854775807) : -9223372036854775808 ≤ (effs last x).2.2 ∧ (effs last x).2.2 ≤ 9223372036854775807 ∧ (effs last x).2.1 = x.2.1 := by
  unfold effs
  have h1 := byt_bd (n := x.2.2) hl
  split
  · have := byt_bd (t := max (byt last x.2.2) 0) (n := x.2.1) (by omega)
    show -9223372036854775808 ≤ byt (max (byt last x.2.2) 0) x.2.1 ∧ byt (max (byt last x.2.2) 0) x.2.1 ≤ 9223372036854775807 ∧ x.2.1 = x.2.1
    omega
  · split
    · show -9223372036854775808 ≤ byt last x.2.2 ∧ byt last x.2.2 ≤ 9223372036854775807 ∧ x.2.1 = x.2.1
      omega
    · exact ⟨h.1, h.2, rfl⟩
def Srv.act (s : Srv) (bu pe : Int) (x : Int × Int × Int) : Srv := if x.1 = 0 then (s.use bu pe x.2.1 x.2.2).1 else if x.1 = 1 then (s.refill x.2.2).1 else s
theorem Srv.act_inv {s : Srv} {bu pe : Int} (x : Int × Int × Int) (h : s.Inv bu) (hp : 1 ≤ pe ∧ pe ≤ 1099511627776) : (s.act bu pe x).Inv bu := by
  unfold Srv.act
  split
  · exact Srv.use_inv _ _ h hp
  · split
    · exact Srv.refill_inv _ h
    · exact h
theorem Srv.inv0 {bu : Int} (h : 1 ≤ bu) : Srv.Inv ⟨[], 0⟩ bu := ⟨by show (0 : Int) ≤ 0; omega, by show (0 : Int) ≤ _; omega, by simp, by simp, by show (0 : Int) ≤ bu; omega⟩
end Vg
namespace Go.Proofs.Ytiinhofmhoplfaa
open Go.ChangeShapes Go.WideShapes Go.ChangeAt Go.RowKit
/-- A server lies at block b; its row is v, in a block from B on. -/
def SA (w : World) (b B : Nat) (bu pe : Int) (s : Vg.Srv) (v : Value) : Prop :=
  ∃ sa sc, v = .slice sa s.L.length sc ∧ Vg.blk w b = some (servC (bu - Vg.owed s.L) pe v s.last) ∧ Vg.Que w B 230 2 v s.L.length (Vg.pcells s.L)
/-- The document's list. -/
def RA (w : World) (S : Nat) (s : Vg.Srv) (v : Value) : Prop := ∃ sa sc, v = .slice sa s.L.length sc ∧ Vg.Reads S w v s.L.length (Vg.pcells s.L)
abbrev rservC (bu pe : Int) (v : Value) (last : Int) : Obj := .cells #[.int .i64 bu, .int .i64 pe, v, .int .i64 last] 179
section
variable {w w' : World} {b B S : Nat} {bu pe : Int} {s : Vg.Srv} {v : Value}
theorem SA.kept (h : SA w b B bu pe s v) (hb : Vg.blk w' b = Vg.blk w b) (hv : ∀ k, v.ownBlock = some k → Vg.blk w' k = Vg.blk w k) : SA w' b B bu pe s v := by
  obtain ⟨sa, sc, hv', h1, h2⟩ := h
  exact ⟨sa, sc, hv', hb.trans h1, h2.kept hv⟩
theorem SA.lt (h : SA w b B bu pe s v) : b < w.heap.size := by obtain ⟨sa, sc, hv', h1, h2⟩ := h; exact Vg.lt_of h1
theorem SA.own (h : SA w b B bu pe s v) : ∀ k, v.ownBlock = some k → B ≤ k ∧ k < w.heap.size := by obtain ⟨sa, sc, hv', h1, h2⟩ := h; exact h2.lt
theorem SA.grows (h : SA w b B bu pe s v) (hg : Vg.Grows w w') : SA w' b B bu pe s v := by
  have hl := h.lt
  have ho := h.own
  obtain ⟨x, n, rfl⟩ := hg
  exact h.kept (Vg.blk_plus hl) fun k hk => Vg.blk_plus (ho k hk).2
theorem SA.touch {t : Nat → Prop} (h : SA w b B bu pe s v) (ht : Vg.Touch t w w') (hb : ¬ t b) (hv : ∀ k, v.ownBlock = some k → ¬ t k) : SA w' b B bu pe s v :=
  h.kept (ht.block b h.lt hb) fun k hk => ht.block k (h.own k hk).2 (hv k hk)
theorem RA.grows (h : RA w S s v) (hg : Vg.Grows w w') : RA w' S s v := by
  obtain ⟨sa, sc, hv', h1⟩ := h
  exact ⟨sa, sc, hv', h1.grows hg⟩
theorem RA.touch {t : Nat → Prop} (h : RA w S s v) (ht : Vg.Touch t w w') (hv : ∀ k, v.ownBlock = some k → ¬ t k) : RA w' S s v := by
  obtain ⟨sa, sc, hv', h1⟩ := h
  exact ⟨sa, sc, hv', h1.touch ht hv⟩
theorem RA.own (h : RA w S s v) : ∀ k, v.ownBlock = some k → S ≤ k ∧ k < w.heap.size := by
  obtain ⟨sa, sc, hv', h1⟩ := h
  exact h1.own_lt
theorem sa_new (h1 : 1 ≤ bu) (h2 : bu ≤ pe) (h3 : pe ≤ 1099511627776) :
    Calls Try.prog 99 #[.int .i64 bu, .int .i64 pe] w fun e w' => e = .returned (.tuple #[.pointer (some ⟨w.heap.size, 0, none⟩), .int .i64 0]) ∧ SA w' w.heap.size (w.heap.size + 1) bu pe ⟨[], 0⟩ (.slice none 0 0) ∧ w' = w.alloc (servC bu pe (.slice none 0 0) 0) := by
  refine (serv_new_ok bu pe h1 h2 h3).mono ?_
  rintro e w' ⟨rfl, rfl⟩
  refine ⟨rfl, ⟨none, 0, rfl, ?_, Vg.Que.nil _ _ _ _⟩, rfl⟩
  have : bu - Vg.owed [] = bu := Int.sub_zero bu
  rw [this]
  exact Vg.alloc_heap_at rfl
theorem sa_use (n en : Int) (h : SA w b B bu pe s v) (hb : b < B) (hB : B ≤ w.heap.size) (hinv : s.Inv bu) (hp : 1 ≤ pe ∧ pe ≤ 1099511627776) (hbu : 1 ≤ bu ∧ bu ≤ 1099511627776)
    (hn : -9223372036854775808 ≤ n ∧ n ≤ 9223372036854775807) (hen : -9223372036854775808 ≤ en ∧ en ≤ 9223372036854775807) :
    Calls Try.prog 105 #[.pointer (some ⟨b, 0, none⟩), .int .i64 n, .int .i64 en] w fun e w' => ∃ v', e = .returned (.int .i64 (s.use bu pe n en).2) ∧ SA w' b B bu pe (s.use bu pe n en).1 v' ∧
      Vg.Touch (fun k => k = b ∨ v.ownBlock = some k) w w' ∧ (∀ k, v'.ownBlock = some k → v.ownBlock = some k ∨ w.heap.size ≤ k) := by
  obtain ⟨sa, sc, rfl, h1, h2⟩ := h
  refine (serv_use_any (L := s.L) (last := s.last) n en h1 h2 hb hB hinv hp hbu hn hen).mono ?_
  rintro e w' ⟨L', last', sa', sc', hst, ht, hb', hq', ho', rfl⟩
  have hst : (s.use bu pe n en).1 = ⟨L', last'⟩ := hst
  refine ⟨.slice sa' L'.length sc', rfl, ?_, ht, ?_⟩
  rotate_left
  · intro k hk
    rcases ho' with h | h
    · exact .inl (h.symm.trans hk)
    · exact .inr (h k hk)
  · rw [hst]
    exact ⟨sa', sc', rfl, hb', hq'⟩
theorem sa_refill (now : Int) (h : SA w b B bu pe s v) (hb : b < B) (hinv : s.Inv bu) (hbu : 1 ≤ bu ∧ bu ≤ 1099511627776) :
    Calls Try.prog 108 #[.pointer (some ⟨b, 0, none⟩), .int .i64 now] w fun e w' => ∃ v', e = .returned (.tuple #[.int .i64 (s.refill now).2.1, .int .i64 (s.refill now).2.2]) ∧ SA w' b B bu pe (s.refill now).1 v' ∧
      Vg.Touch (fun k => k = b ∨ v.ownBlock = some k) w w' ∧ (∀ k, v'.ownBlock = some k → v.ownBlock = some k ∨ w.heap.size ≤ k) := by
  obtain ⟨sa, sc, rfl, h1, h2⟩ := h
  refine (serv_refill_any (L := s.L) (last := s.last) now h1 h2 hb hinv hbu).mono ?_
  rintro e w' ⟨L', last', sa', sc', hst, rfl, hq', ho', rfl⟩
  have hst : (s.refill now).1 = ⟨L', last'⟩ := hst
  refine ⟨.slice sa' L'.length sc', rfl, ?_, (Vg.Touch.refl _ _).put (.inl rfl) _, fun k hk => .inl (ho'.symm.trans hk)⟩
  rw [hst]
  refine ⟨sa', sc', rfl, Vg.put_heap_same (Vg.lt_of h1), ?_⟩
  exact hq'.kept fun k hk => Vg.put_heap_other (by have := (hq'.lt k hk).1; omega)
theorem sa_left (h : SA w b B bu pe s v) : Calls Try.prog 110 #[.pointer (some ⟨b, 0, none⟩)] w fun e w' => e = .returned (.int .i64 (s.left bu)) ∧ w = w' := by
  obtain ⟨sa, sc, rfl, h1, h2⟩ := h
  exact serv_left h1
theorem sa_waits (h : SA w b B bu pe s v) : Calls Try.prog 134 #[.pointer (some ⟨b, 0, none⟩)] w fun e w' => e = .returned (.int .i64 s.L.length) ∧ w = w' := by
  obtain ⟨sa, sc, rfl, h1, h2⟩ := h
  exact serv_waits h1
theorem sa_next (h : SA w b B bu pe s v) : Calls Try.prog 111 #[.pointer (some ⟨b, 0, none⟩)] w fun e w' => e = .returned (.tuple #[.int .i64 (s.L.headD (0, 0)).1, .bool (!s.L.isEmpty)]) ∧ w = w' := by
  obtain ⟨sa, sc, rfl, h1, h2⟩ := h
  exact serv_next h1 h2
theorem ra_use (n en : Int) (h : RA w S s v) (hS : S ≤ w.heap.size) (hinv : s.Inv bu) (hp : 1 ≤ pe ∧ pe ≤ 1099511627776) (hbu : 1 ≤ bu ∧ bu ≤ 1099511627776) (hen : -9223372036854775808 ≤ en ∧ en ≤ 9223372036854775807) :
    Calls Try.prog 103 #[.agg #[.int .i64 bu, .int .i64 pe, v, .int .i64 s.last], .int .i64 n, .int .i64 en] w fun e w' => ∃ v', e = .returned (.tuple #[.agg #[.int .i64 bu, .int .i64 pe, v', .int .i64 (s.use bu pe n en).1.last], .int .i64 (s.use bu pe n en).2]) ∧
      RA w' S (s.use bu pe n en).1 v' ∧ (∀ k, v'.ownBlock = some k → v.ownBlock = some k ∨ w.heap.size ≤ k) ∧ Vg.Grows w w' := by
  obtain ⟨sa, sc, rfl, h1⟩ := h
  refine (ref15_use_any (L := s.L) (last := s.last) n en h1 hS hinv hp hbu hen).mono ?_
  rintro e w' ⟨L', last', sa', sc', hst, hr', ho', rfl, hg⟩
  have hst : (s.use bu pe n en).1 = ⟨L', last'⟩ := hst
  refine ⟨_, ?_, ?_, ho', hg⟩
  · rw [hst]
  · rw [hst]; exact ⟨sa', sc', rfl, hr'⟩
theorem ra_refill (now : Int) (h : RA w S s v) (hS : S ≤ w.heap.size) (hinv : s.Inv bu) (hbu : 1 ≤ bu ∧ bu ≤ 1099511627776) :
    Calls Try.prog 106 #[.agg #[.int .i64 bu, .int .i64 pe, v, .int .i64 s.last], .int .i64 now] w fun e w' => ∃ v', e = .returned (.tuple #[.agg #[.int .i64 bu, .int .i64 pe, v', .int .i64 (s.refill now).1.last], .int .i64 (s.refill now).2.1, .int .i64 (s.refill now).2.2]) ∧
      RA w' S (s.refill now).1 v' ∧ (∀ k, v'.ownBlock = some k → v.ownBlock = some k ∨ w.heap.size ≤ k) ∧ Vg.Grows w w' := by
  obtain ⟨sa, sc, rfl, h1⟩ := h
  refine (ref15_refill_any (L := s.L) (last := s.last) now h1 hS hinv hbu).mono ?_
  rintro e w' ⟨L', last', sa', sc', hst, hr', ho', rfl, hg⟩
  have hst : (s.refill now).1 = ⟨L', last'⟩ := hst
  refine ⟨.slice sa' L'.length sc', ?_, ?_, ho', hg⟩
  · rw [hst]
  · rw [hst]; exact ⟨sa', sc', rfl, hr'⟩
theorem ra_left (h : RA w S s v) (hinv : s.Inv bu) (hbu : 1 ≤ bu ∧ bu ≤ 1099511627776) :
    Calls Try.prog 101 #[.agg #[.int .i64 bu, .int .i64 pe, v, .int .i64 s.last]] w fun e w' => e = .returned (.int .i64 (s.left bu)) ∧ Vg.Grows w w' := by
  obtain ⟨sa, sc, rfl, h1⟩ := h
  obtain ⟨i1, i2, i3, i4, i5⟩ := hinv
  exact ref15_left h1 hbu (fun x hx => (i4 x hx).2.2) i5
theorem ra_next (h : RA w S s v) :
    Calls Try.prog 112 #[.agg #[.int .i64 bu, .int .i64 pe, v, .int .i64 s.last]] w fun e w' => e = .returned (.tuple #[.int .i64 (s.L.headD (0, 0)).1, .bool (!s.L.isEmpty)]) ∧ Vg.Grows w w' := by
  obtain ⟨sa, sc, rfl, h1⟩ := h
  exact ref15_next h1
end
end Go.Proofs.Ytiinhofmhoplfaa
