/- Package irq: Unmask. -/
import Derived.Test.YtekjnagojphmkaaDoorIrqE
import Derived.Maps.OwnIn
set_option linter.unusedSimpArgs false
set_option linter.unusedVariables false
set_option maxHeartbeats 8000000
set_option maxRecDepth 100000
namespace Vg
open Go Go.RowKit
theorem told_of {now : Int} {x : Ln} {q' : List Int} {ml' : Int} (h : (q' = x.q ∧ ml' = x.ml) ∨ (x.ml ≤ now ∧ now ≤ 4503599627370496 ∧ q' = pop now x.q ∧ ml' = now)) : Told now x { x with q := q', ml := ml' } := by
  rcases h with ⟨rfl, rfl⟩ | ⟨h1, h2, rfl, rfl⟩
  · exact .inl rfl
  · exact .inr ⟨h1, h2, rfl⟩
theorem cell_cells {W : World} {a : Addr} {v : Value} (h : W.cell? a = some v) : ∃ cs T f, W.heap[a.block]? = some (.cells cs T f) := by
  unfold World.cell? at h
  split at h
  · rename_i cs T f hh; exact ⟨cs, T, f, hh⟩
  · cases h
/-- What is no cells has turned, and the world has grown. -/
theorem turned {W W' : World} {row : Option Nat} (hg : W.grownBy W' row) (hr : ∀ r, row = some r → ∃ o : Obj, W.heap[r]? = some o ∧ o.isCells = false) : ∀ (k : Nat) (cs : Array Value) (T : TypeId) (f : Nat × Nat), W.heap[k]? = some (Obj.cells cs T f) → W'.heap[k]? = W.heap[k]? := fun k cs T f hk =>
  hg.block k (Array.getElem?_eq_some_iff.1 hk).1 fun e => by
    obtain ⟨o, ho, hc⟩ := hr k e.symm
    rw [hk] at ho
    cases ho
    cases hc
theorem IR.turned {W W' : World} {sa : Option Addr} {c : Nat} {L : List Int} (h : IR W sa c L) (hs : W.heap.size ≤ W'.heap.size) (hk : ∀ (k : Nat) (cs : Array Value) (T : TypeId) (f : Nat × Nat), W.heap[k]? = some (Obj.cells cs T f) → W'.heap[k]? = W.heap[k]?) : IR W' sa c L :=
  ⟨h.1, h.2.1, fun k hkl => by
    obtain ⟨g, off, e, hlt, hc⟩ := h.2.2 k hkl
    obtain ⟨cs, T, f, hb⟩ := cell_cells hc
    exact ⟨g, off, e, Nat.lt_of_lt_of_le hlt hs, (World.cell?_of_block (w := W) (a := ⟨g, off + k, none⟩) (hk g cs T f hb)).trans hc⟩⟩
theorem Que.turned {W W' : World} {B : Nat} {e : TypeId} {size n : Nat} {v : Value} {xs : List Value} (h : Que W B e size v n xs) (hk : ∀ (k : Nat) (cs : Array Value) (T : TypeId) (f : Nat × Nat), W.heap[k]? = some (Obj.cells cs T f) → W'.heap[k]? = W.heap[k]?) : Que W' B e size v n xs := by
  refine ⟨h.1, ?_⟩
  rcases h.2 with hn | ⟨g, o, cap, cur, rfl, hb, hgg, rest⟩
  · exact .inl hn
  · exact .inr ⟨g, o, cap, cur, rfl, hb, (hk g _ _ _ hgg).trans hgg, rest⟩
theorem Touch.turned {w W W' : World} {t : Nat → Prop} {row : Option Nat} {B : Nat} (h : Touch t w W) (hg : W.grownBy W' row) (hB : w.heap.size ≤ B) (hr : ∀ r, row = some r → B ≤ r) : Touch t w W' :=
  ⟨hg.os.trans h.os, hg.tape.trans h.tape, hg.output.trans h.output, Nat.le_trans h.size hg.size, fun k hk ht => (hg.block k (Nat.lt_of_lt_of_le hk h.size) fun e => by have := hr k e.symm; omega).trans (h.block k hk ht)⟩
end Vg
namespace Go.Proofs.YtekjnagojphmkaaDoor
open Go.ChangeShapes Go.WideShapes Go.ChangeAt Go.RowKit Go.Shelf
attribute [local go_sem] Oper.semAt_some
section
variable {w w' w1 W W' : World} {b lo n mk pc sc l c g o : Nat} {xs : List Vg.Lq} {s s' : Vg.Iq} {lv sv : Value} {pa sa a : Option Addr} {ow : Nat → Nat} {OB : Nat → Prop} {x : Int} {row : Option Nat}
theorem IQ.turned (h : IQ W b lo n xs s mk lv sv pa pc sa sc ow) (hg : W.grownBy W' row) (hr : ∀ r, row = some r → ∃ o : Obj, W.heap[r]? = some o ∧ o.isCells = false) : IQ W' b lo n xs s mk lv sv pa pc sa sc ow := by
  have hk := Vg.turned hg hr
  refine ⟨h.ls, h.ok, (hk b _ _ _ h.tab).trans h.tab, ⟨h.is.ok, h.is.m, h.is.p.turned hg.size hk, h.is.s.turned hg.size hk⟩, h.lrow.turned hk, h.srow.turned hk, fun i hi => ?_, h.hmk, h.ob, h.ol, h.os, h.op, h.oq, h.om, fun k hk => ⟨(h.hw k hk).1, Nat.lt_of_lt_of_le (h.hw k hk).2 hg.size⟩⟩
  obtain ⟨first, R, rf, a1, a2, a3⟩ := h.mks i hi
  exact ⟨first, R, rf, (hk _ _ _ _ a1).trans a1, (hk _ _ _ _ a2).trans a2, a3⟩
/-- Between the rounds of Unmask. -/
structure UI (w : World) (now : Int) (s : Vg.Iq) (b lo n b2 b3 b7 B1 L0 N : Nat) (ow0 : Nat → Nat) (W : World) (sm : Vg.Iq) (ys : List Vg.Lq) (mk : Nat) (lv sv : Value) (pa : Option Addr) (pc : Nat) (sa : Option Addr) (sc : Nat) (ow : Nat → Nat) (v : Value) (k : Nat) (us : List Value) : Prop where
  bv : Boxed W b7 29 v
  row : W.ownsRow L0 3 1 v k us
  hv : ∀ j, v.ownBlock = some j → ow j = 0
  bq : Boxed W b2 25 (.pointer (some ⟨b, 0, none⟩))
  bn : Boxed W b3 2 (.int .i64 now)
  iq : IQ W b lo n ys sm mk lv sv pa pc sa sc ow
  z : ow b2 = 0 ∧ ow b3 = 0 ∧ ow b7 = 0 ∧ ow B1 = 0 ∧ ow 0 = 0
  len : ys.length = N
  bd : ∀ i (h : i < ys.length), ys[i].mb < w.heap.size ∧ ys[i].rb < w.heap.size
  own : ∀ j, ow j ≠ 0 → ow0 j ≠ 0 ∨ w.heap.size ≤ j
  lv : ∀ j, lv.ownBlock = some j → j < w.heap.size
  t : Vg.Touch (fun j => ow0 j ≠ 0) w W
  calm : Vg.Iq.Calm now s sm
  last : sm.last = now
  size : L0 ≤ W.heap.size
theorem UI.turned {now : Int} {b2 b3 b7 B1 L0 N B k : Nat} {ow0 : Nat → Nat} {sm : Vg.Iq} {ys : List Vg.Lq} {v : Value} {us : List Value} (h : UI w now s b lo n b2 b3 b7 B1 L0 N ow0 W sm ys mk lv sv pa pc sa sc ow v k us) (hB : w.heap.size ≤ B) (hg : W.grownBy W' row) (hr : ∀ r, row = some r → B ≤ r ∧ ∃ o : Obj, W.heap[r]? = some o ∧ o.isCells = false) : UI w now s b lo n b2 b3 b7 B1 L0 N ow0 W' sm ys mk lv sv pa pc sa sc ow v k us := by
  have hr2 : ∀ r, row = some r → ∃ o : Obj, W.heap[r]? = some o ∧ o.isCells = false := fun r e => (hr r e).2
  obtain ⟨v', h1, h2, rfl⟩ := holdsRow_own L0 b7 29 3 1 (fun _ : Unit => k) (fun _ => us) (fun _ v' => v' = v) () W W' row ⟨v, h.bv, h.row, rfl⟩ hg hr2
  exact ⟨h1, h2, h.hv, boxed_own b2 _ (fun _ : Unit => _) () W W' row h.bq hg hr2, boxed_own b3 _ (fun _ : Unit => _) () W W' row h.bn hg hr2, h.iq.turned hg hr2, h.z, h.len, h.bd, h.own, h.lv, h.t.turned hg hB (fun r e => (hr r e).1), h.calm, h.last, Nat.le_trans h.size hg.size⟩
theorem owns_touch {t : Nat → Prop} {L0 sz k : Nat} {e : TypeId} {v : Value} {us : List Value} (h : W.ownsRow L0 e sz v k us) (ht : Vg.Touch t W W') (hv : ∀ j, v.ownBlock = some j → ¬ t j) : W'.ownsRow L0 e sz v k us := by
  refine ⟨h.1, ?_⟩
  rcases h.2 with h0 | ⟨g, cap, cur, rfl, hb, hg, rest⟩
  · exact .inl h0
  · exact .inr ⟨g, cap, cur, rfl, hb, (ht.block g (Array.getElem?_eq_some_iff.1 hg).1 (hv g rfl)).trans hg, rest⟩
section
variable {now : Int} {b2 b3 b7 B1 L0 N k : Nat} {ow0 : Nat → Nat} {sm : Vg.Iq} {ys : List Vg.Lq} {v : Value} {us : List Value}
theorem UI.masked {i : Nat} {q' : List Int} {ml' : Int} (h : UI w now s b lo n b2 b3 b7 B1 L0 N ow0 W sm ys mk lv sv pa pc sa sc ow v k us) (hi : i < ys.length)
    (hm : MK W' ys[i].mb ys[i].rb ys[i].p.many ys[i].p.wd q' ml') (hq : Vg.Told now ys[i].p { ys[i].p with q := q', ml := ml' }) (ht : Vg.Touch (fun j => j = ys[i].mb ∨ j = ys[i].rb) W W') :
    UI w now s b lo n b2 b3 b7 B1 L0 N ow0 W' (sm.setl i { ys[i].p with q := q', ml := ml' }) (ys.set i { ys[i] with p := { ys[i].p with q := q', ml := ml' } }) mk lv sv pa pc sa sc ow v k us := by
  have hom := h.iq.om i hi
  have ht0 : ∀ j, (j = ys[i].mb ∨ j = ys[i].rb) → ow j ≠ 0 := fun j hj => by
    rcases hj with rfl | rfl
    · rw [hom.1]; omega
    · rw [hom.2]; omega
  have hz : ∀ j, ow j = 0 → ¬ (j = ys[i].mb ∨ j = ys[i].rb) := fun j hj hh => ht0 j hh hj
  have hls : ys[i].p ∈ sm.ls := by rw [← h.iq.ls]; exact List.mem_map.2 ⟨_, List.getElem_mem hi, rfl⟩
  have hlen : ys.length = sm.ls.length := by rw [← h.iq.ls]; simp
  have hil : i < sm.ls.length := by omega
  have hyp : sm.ls[i] = ys[i].p := by simp [← h.iq.ls]
  refine ⟨ht.bk h.bv (hz _ h.z.2.2.1), owns_touch h.row ht (fun j hj => hz j (h.hv j hj)), h.hv, ht.bk h.bq (hz _ h.z.1), ht.bk h.bn (hz _ h.z.2.1), h.iq.masks hi hm ((hq.each (h.iq.ok.each _ hls)).2) ht, h.z, by rw [List.length_set]; exact h.len, fun j hj => ?_, h.own, h.lv, Vg.Touch.nextq h.t ht (fun j hj => h.own j (ht0 j hj)), h.calm.trans ⟨rfl, rfl, rfl, rfl, Vg.Tolds.set hil (by rw [hyp]; exact hq)⟩, h.last, Nat.le_trans h.size ht.size⟩
  have hj' : j < ys.length := by simpa using hj
  by_cases hji : j = i
  · subst hji
    rw [List.getElem_set_self]; exact h.bd j hj'
  · rw [List.getElem_set_ne (fun hh => hji hh.symm)]; exact h.bd j hj'
theorem UI.en {mk' pc' sc' : Nat} {pa' sa' : Option Addr} {ow' : Nat → Nat} {i : Nat} {on : Bool} (h : UI w now s b lo n b2 b3 b7 B1 L0 N ow0 W sm ys mk lv sv pa pc sa sc ow v k us) (hi : IQ W' b lo n ys ⟨sm.c.enable i on, sm.ls, sm.S, sm.last⟩ mk' lv sv pa' pc' sa' sc' ow')
    (hw : ∀ k, ow' k ≠ 0 → ow k ≠ 0 ∨ W.heap.size ≤ k) (ht : Vg.Touch (fun j => j = b) W W') (hb1 : B1 < W.heap.size) (hz0 : 0 < W.heap.size) :
    UI w now s b lo n b2 b3 b7 B1 L0 N ow0 W' ⟨sm.c.enable i on, sm.ls, sm.S, sm.last⟩ ys mk' lv sv pa' pc' sa' sc' ow' v k us := by
  have hz : ∀ j, ow j = 0 → ¬ j = b := fun j hj hh => by rw [hh, h.iq.ob] at hj; omega
  have hz' : ∀ j, ow j = 0 → j < W.heap.size → ow' j = 0 := fun j hj hl => Classical.byContradiction fun hh => by
    rcases hw j hh with h1 | h1
    · exact h1 hj
    · omega
  refine ⟨ht.bk h.bv (hz _ h.z.2.2.1), owns_touch h.row ht (fun j hj => hz j (h.hv j hj)), fun j hj => ?_, ht.bk h.bq (hz _ h.z.1), ht.bk h.bn (hz _ h.z.2.1), hi, ⟨hz' _ h.z.1 h.bq.lt, hz' _ h.z.2.1 h.bn.lt, hz' _ h.z.2.2.1 h.bv.lt, hz' _ h.z.2.2.2.1 hb1, hz' _ h.z.2.2.2.2 hz0⟩, h.len, h.bd, fun j hj => ?_, h.lv, Vg.Touch.nextq h.t ht (fun j hj => h.own j (by rw [hj, h.iq.ob]; omega)), h.calm.trans ⟨rfl, rfl, rfl, rfl, Vg.Tolds.refl _ _⟩, h.last, Nat.le_trans h.size ht.size⟩
  · refine hz' j (h.hv j hj) ?_
    rcases h.row.2 with ⟨rfl, _⟩ | ⟨g, cap, cur, rfl, _, hg, _⟩
    · simp [Value.ownBlock] at hj
    · obtain rfl : g = j := by simpa [Value.ownBlock] using hj
      exact (Array.getElem?_eq_some_iff.1 hg).1
  · rcases hw j hj with h1 | h1
    · exact h.own j h1
    · exact .inr (Nat.le_trans h.t.size h1)
theorem UI.app {v' : Value} {us' : List Value} (h : UI w now s b lo n b2 b3 b7 B1 L0 N ow0 W sm ys mk lv sv pa pc sa sc ow v k us) (hb : Boxed W' b7 29 v') (hr : W'.ownsRow L0 3 1 v' (k + 1) us')
    (ht : Vg.Touch (fun j => j = b7 ∨ v.ownBlock = some j) W W') (hv : ∀ j, v'.ownBlock = some j → v.ownBlock = some j ∨ W.heap.size ≤ j) (h7 : w.heap.size ≤ b7) (hL : w.heap.size ≤ L0) (hne : b7 ≠ b2 ∧ b7 ≠ b3) (hl2 : b2 < L0 ∧ b3 < L0) :
    UI w now s b lo n b2 b3 b7 B1 L0 N ow0 W' sm ys mk lv sv pa pc sa sc ow v' (k + 1) us' := by
  have hro : ∀ j, v.ownBlock = some j → L0 ≤ j ∧ j < W.heap.size := fun j hj => by
    rcases h.row.2 with ⟨rfl, _⟩ | ⟨g, cap, cur, rfl, hbg, hg, _⟩
    · simp [Value.ownBlock] at hj
    · obtain rfl : g = j := by simpa [Value.ownBlock] using hj
      exact ⟨hbg, (Array.getElem?_eq_some_iff.1 hg).1⟩
  have ho : ∀ j, (j = b7 ∨ v.ownBlock = some j) → ow j = 0 := fun j hj => by
    rcases hj with rfl | hj
    · exact h.z.2.2.1
    · exact h.hv j hj
  refine ⟨hb, hr, fun j hj => ?_, ht.bk h.bq (fun hh => ?_), ht.bk h.bn (fun hh => ?_), h.iq.touch ht ho, h.z, h.len, h.bd, h.own, h.lv, Vg.Touch.nextq h.t ht (fun j hj => .inr ?_), h.calm, h.last, Nat.le_trans h.size ht.size⟩
  · rcases hv j hj with h1 | h1
    · exact h.hv j h1
    · exact Classical.byContradiction fun hh => by have := (h.iq.hw j hh).2; omega
  · rcases hh with hh | hh
    · exact hne.1 hh.symm
    · have := (hro _ hh).1; omega
  · rcases hh with hh | hh
    · exact hne.2 hh.symm
    · have := (hro _ hh).1; omega
  · rcases hj with rfl | hj
    · exact h7
    · have := (hro j hj).1; omega
theorem UI.push {tmp : Obj} {v' : Value} {us' : List Value} {w4 : World} (h : UI w now s b lo n b2 b3 b7 B1 L0 N ow0 W sm ys mk lv sv pa pc sa sc ow v k us) (hown : w4.ownsRow L0 3 1 v' (k + 1) us') (hg : (W.alloc tmp).grownBy w4 v.ownBlock)
    (hob : v'.ownBlock = v.ownBlock ∨ v'.ownBlock = some (W.alloc tmp).heap.size) (h7 : w.heap.size ≤ b7) (hL : w.heap.size ≤ L0) (h7L : b7 < L0) (hne : b7 ≠ b2 ∧ b7 ≠ b3) (hl2 : b2 < L0 ∧ b3 < L0) :
    Boxed w4 b7 29 v ∧ UI w now s b lo n b2 b3 b7 B1 L0 N ow0 (w4.setCell ⟨b7, 0, none⟩ v') sm ys mk lv sv pa pc sa sc ow v' (k + 1) us' ∧ Vg.Touch (fun j => j = b7 ∨ v.ownBlock = some j) W (w4.setCell ⟨b7, 0, none⟩ v') ∧ (∀ j, v.ownBlock = some j → L0 ≤ j ∧ ∃ o, W.heap[j]? = some o ∧ o.isCells = true) := by
  have hro : ∀ j, v.ownBlock = some j → L0 ≤ j ∧ ∃ o, W.heap[j]? = some o ∧ o.isCells = true := fun j hj => by
    rcases h.row.2 with ⟨rfl, _⟩ | ⟨g, cap, cur, rfl, hbg, hg, _⟩
    · simp [Value.ownBlock] at hj
    · obtain rfl : g = j := by simpa [Value.ownBlock] using hj
      exact ⟨hbg, _, hg, rfl⟩
  have ht4 : Vg.Touch (fun j => j = b7 ∨ v.ownBlock = some j) W w4 := ⟨hg.os, hg.tape, hg.output, by have := hg.size; simp at this; omega, fun j hj hh => (hg.block j (by simp; omega) (fun e => hh (.inr e.symm))).trans (Vg.alloc_heap_past hj)⟩
  have hb4 : Boxed w4 b7 29 v := (hg.block b7 (by have := h.bv.lt; simp; omega) (fun e => by have := (hro b7 e.symm).1; omega)).trans ((Vg.alloc_heap_past h.bv.lt).trans h.bv)
  have hs4 := Vg.setCell_of (w := w4) (b := b7) hb4 0 v'
  have ht5 : Vg.Touch (fun j => j = b7 ∨ v.ownBlock = some j) W (w4.setCell ⟨b7, 0, none⟩ v') := by
    rw [hs4]; exact ht4.put (.inl rfl) _
  refine ⟨hb4, UI.app h (hb4.set v') ?_ ht5 (fun j hj => ?_) h7 hL hne hl2, ht5, hro⟩
  · refine hown.kept (grownBy_setCell' w4 b7 v') (.inr fun e => ?_)
    rcases hob with h1 | h1
    · have := (hro b7 (h1.symm.trans e)).1; omega
    · rw [h1] at e
      have e' : (W.alloc tmp).heap.size = b7 := by simpa using e
      have := h.bv.lt
      simp at e'
      omega
  · rcases hob with h1 | h1
    · exact .inl (h1.symm.trans hj)
    · rw [h1] at hj
      have e' : (W.alloc tmp).heap.size = j := by simpa using hj
      simp at e'
      exact .inr (by omega)
end
theorem keeps_touch {t : Nat → Prop} {B : Nat} (ht : Vg.Touch t W W') (hb : ∀ k, t k → k < B) : KeepsFrom B W W' :=
  ⟨ht.size, fun k o hk ho _ => (ht.block k (Array.getElem?_eq_some_iff.1 ho).1 (fun hh => by have := hb k hh; omega)).trans ho⟩
theorem kept_touch {t S : Nat → Prop} (ht : Vg.Touch t W W') (hS : ∀ k, S k → k < W.heap.size ∧ ¬ t k) : Vg.Kept S W W' :=
  ⟨ht.size, fun k hk => ht.block k (hS k hk).1 (hS k hk).2⟩
theorem unmask_in (now : Int) (h : QS w b lo n s OB) (hT : Vg.Tab w) (hlo : 0 < lo) (l1 : s.last ≤ now) (l2 : now ≤ 4503599627370496) :
    CallsIn Fence.wide 4 Tryd.prog 8 #[.pointer (some ⟨b, 0, none⟩), .int .i64 now] w fun e w' => ∃ v s', e = .returned (.tuple #[v, .int .i64 0]) ∧ QSn w w' b lo n s' OB ∧ Vg.Iq.Calm now s s' ∧ s'.last = now := by
  have h00 := h
  obtain ⟨⟨xs, mk, lv, sv, pa, pc, sa, sc, ow, h1, h2⟩, h3⟩ := h
  have hro : Fence.wide.round = none := rfl
  have hn1 : 1 ≤ 4 := by omega
  obtain ⟨i0, hi, hz0, hz1, hz2⟩ := info_parts Tryd.info_int5
  have h0l : 0 < w.heap.size := World.block_lt_of_cell? w _ (hT 0 (by decide))
  obtain ⟨hl1, hl2, hl3⟩ := h1.len64
  have hmk64 : mk < 18446744073709551616 := Vg.lt64_of h1.hmk (by omega)
  have hmx : Tryd.prog.follows .mixedOrders = true := by kernel_rfl
  have hbl := Vg.lt_of h1.tab
  obtain ⟨ed, hed⟩ : ∃ ed, 2 ^ n - 1 = ed := ⟨_, rfl⟩
  have H_h00 := Lib.hid h00; clear h00; have H_h1 := Lib.hid h1; clear h1; have H_h2 := Lib.hid h2; clear h2; have H_h3 := Lib.hid h3; clear h3; have H_hT := Lib.hid hT; clear hT; have H_hmk64 := Lib.hid hmk64; clear hmk64; have H_hed := Lib.hid hed; clear hed
  refine callsIn_of_wp_marks Tryd.func8 rfl trivial ?_ rfl
  simp only [Tryd.ntmps8, List.size_toArray, List.length_cons, List.length_nil, Nat.reduceAdd, Nat.reduceSub, Array.replicate_succ, Array.replicate_zero, List.push_toArray, List.append_toArray, List.nil_append, List.cons_append]
  gi_wp2_with (first | (refine ⟨trivial, ?_⟩; gi_at_call 30; refine (callsIn_wide.2 (irq_tell now (H_h1.out.grows (by (repeat' (first | (with_reducible exact Vg.Grows.refl _) | (with_reducible assumption) | (with_reducible refine Vg.Grows.alloc ?_ _) | (with_reducible refine Vg.Grows.plus ?_ _ _) | (with_reducible refine Vg.Grows.drewN ?_ _) | (with_reducible refine Vg.Grows.drew ?_) | (with_reducible refine Vg.Grows.setCell ?_ ?_ _) | (with_reducible refine Vg.Grows.put ?_ ?_ _) | omega | (simp; omega) | (simp; done))))) l1 l2)).mono ?_; rintro e w1 ⟨rfl, hI1, ht1⟩; have y2 := ht1.bk (k := w.heap.size) (o := .cells #[.pointer (some ⟨b, 0, none⟩)] 25) (by go_simp) (by omega); have y3 := ht1.bk (k := w.heap.size + 1) (o := .cells #[.int .i64 now] 2) (by go_simp) (by omega); have hs1 := ht1.size; simp only [World.size_alloc] at hs1; have yb := hI1.tab; rw [H_hed.out] at yb; have c_y2 := Vg.cells_of y2; have f_y2 := Vg.frozen_of y2; have p_y2 := Vg.setCell_of y2; have l_y2 := Vg.lt_of y2; have H_y2 := Lib.hid y2; clear y2; have c_y3 := Vg.cells_of y3; have f_y3 := Vg.frozen_of y3; have p_y3 := Vg.setCell_of y3; have l_y3 := Vg.lt_of y3; have H_y3 := Lib.hid y3; clear y3; have c_yb := Vg.cells_of yb; have f_yb := Vg.frozen_of yb; have p_yb := Vg.setCell_of yb; have l_yb := Vg.lt_of yb; have H_yb := Lib.hid yb; clear yb; have H_hI1 := Lib.hid hI1; clear hI1; have H_ht1 := Lib.hid ht1; clear ht1) | (refine ⟨trivial, ?_⟩; gi_at_call 31; refine (callsIn_wide.2 (bits_each mk _)).mono ?_; rintro e w2 ⟨rfl, rfl⟩))
  have hz : ∀ j, w.heap.size ≤ j → ow j = 0 := fun j hj => Classical.byContradiction fun hh => by have := (H_h1.out.hw j hh).2; omega
  have h00' : ow 0 = 0 := Classical.byContradiction fun hh => by have := (H_h1.out.hw 0 hh).1; omega
  have hob : ow b ≠ 0 := by rw [H_h1.out.ob]; omega
  have hTw : Vg.Tab w1 := H_ht1.out.tab (H_hT.out.grows (by (repeat' (first | (with_reducible exact Vg.Grows.refl _) | (with_reducible assumption) | (with_reducible refine Vg.Grows.alloc ?_ _) | (with_reducible refine Vg.Grows.plus ?_ _ _) | (with_reducible refine Vg.Grows.drewN ?_ _) | (with_reducible refine Vg.Grows.drew ?_) | (with_reducible refine Vg.Grows.setCell ?_ ?_ _) | (with_reducible refine Vg.Grows.put ?_ ?_ _) | omega | (simp; omega) | (simp; done))))) (by intro hh; rw [← hh] at hob; exact hob h00')
  have hgl : Vg.Grows w1 ((w1.alloc (.cells #[.slice none 0 0] 29)).alloc (u64C mk)) := by (repeat' (first | (with_reducible exact Vg.Grows.refl _) | (with_reducible assumption) | (with_reducible refine Vg.Grows.alloc ?_ _) | (with_reducible refine Vg.Grows.plus ?_ _ _) | (with_reducible refine Vg.Grows.drewN ?_ _) | (with_reducible refine Vg.Grows.drew ?_) | (with_reducible refine Vg.Grows.setCell ?_ ?_ _) | (with_reducible refine Vg.Grows.put ?_ ?_ _) | omega | (simp; omega) | (simp; done)))
  have hU0 : UI w now s b lo n w.heap.size (w.heap.size + 1) w1.heap.size (w1.heap.size + 1) (w1.heap.size + 2) xs.length ow ((w1.alloc (.cells #[.slice none 0 0] 29)).alloc (u64C mk)) { s with last := now } xs mk lv sv pa pc sa sc ow (.slice none 0 0) 0 [] := by
    refine ⟨Vg.Grows.blk (w0 := w1.alloc (.cells #[.slice none 0 0] 29)) (by (repeat' (first | (with_reducible exact Vg.Grows.refl _) | (with_reducible assumption) | (with_reducible refine Vg.Grows.alloc ?_ _) | (with_reducible refine Vg.Grows.plus ?_ _ _) | (with_reducible refine Vg.Grows.drewN ?_ _) | (with_reducible refine Vg.Grows.drew ?_) | (with_reducible refine Vg.Grows.setCell ?_ ?_ _) | (with_reducible refine Vg.Grows.put ?_ ?_ _) | omega | (simp; omega) | (simp; done)))) (Vg.alloc_heap_at rfl), World.ownsRow_nil _ _ _ _, fun j hj => by simp [Value.ownBlock] at hj, hgl.blk H_y2.out, hgl.blk H_y3.out, H_hI1.out.grows hgl, ⟨hz _ (by omega), hz _ (by omega), hz _ (by omega), hz _ (by omega), h00'⟩, rfl, fun i hi => (H_h1.out.mks i hi).lt, fun j hj => .inl hj, fun j hj => (H_h1.out.lrow.lt j hj).2, ?_, ⟨rfl, rfl, rfl, rfl, Vg.Tolds.refl _ _⟩, rfl, by simp⟩
    exact ((Vg.Touch.of_grows (by (repeat' (first | (with_reducible exact Vg.Grows.refl _) | (with_reducible assumption) | (with_reducible refine Vg.Grows.alloc ?_ _) | (with_reducible refine Vg.Grows.plus ?_ _ _) | (with_reducible refine Vg.Grows.drewN ?_ _) | (with_reducible refine Vg.Grows.drew ?_) | (with_reducible refine Vg.Grows.setCell ?_ ?_ _) | (with_reducible refine Vg.Grows.put ?_ ?_ _) | omega | (simp; omega) | (simp; done))) : Vg.Grows w ((w.alloc (.cells #[.pointer (some ⟨b, 0, none⟩)] 25)).alloc (.cells #[.int .i64 now] 2)))).trans (H_ht1.out.mono fun j _ hj => by rw [hj]; exact hob)).trans (Vg.Touch.of_grows hgl)
  obtain ⟨b7, hb7⟩ : ∃ b7, w1.heap.size = b7 := ⟨_, rfl⟩
  obtain ⟨WL, hWL⟩ : ∃ WL, (w1.alloc (.cells #[.slice none 0 0] 29)).alloc (u64C mk) = WL := ⟨_, rfl⟩
  have hsL : WL.heap.size = b7 + 2 := by rw [← hWL, ← hb7]; simp
  have hT1 : Vg.Tab WL := hTw.grows (by rw [← hWL]; exact hgl)
  have hB1 : Vg.blk WL (b7 + 1) = some (u64C mk) := by rw [← hWL, ← hb7]; exact Vg.alloc_heap_at (by simp)
  rw [hWL, hb7] at hU0 ⊢
  rw [hb7] at hs1
  have H_hU0 := Lib.hid hU0; clear hU0; have H_hz := Lib.hid hz; clear hz; have H_h00' := Lib.hid h00'; clear h00'; have H_hob := Lib.hid hob; clear hob; have H_hTw := Lib.hid hTw; clear hTw; have H_hWL := Lib.hid hWL; clear hWL; have H_hT1 := Lib.hid hT1; clear hT1; have H_hB1 := Lib.hid hB1; clear hB1
  clear hgl
  have h0L : 0 < WL.heap.size := by omega
  refine wpIn_rangeFunc_ownG hro hn1 (gf := 67) (lb := #[.pointer (some ⟨b7 + 1, 0, none⟩)]) rfl trivial (enters_of Tryd.func67 (by kernel_rfl) rfl)
    (each_stops (4 - 1) (by omega) (fun k => k = 0 ∨ k = b7 + 1) (b7 + 1) mk H_hmk64.out _ (.inl rfl) (.inr rfl)
      (by rintro k (rfl | rfl) <;> omega) H_hB1.out H_hT1.out) Vg.Kept.trans
    (Vg.Kept.putObj (by rintro k (rfl | rfl) <;> omega)) (Below.refl _ _) (fun _ => rfl)
    (fun pre W => ∃ sm ys mk' pa' pc' sa' sc' ow' v k us, UI w now s b lo n w.heap.size (w.heap.size + 1) b7 (b7 + 1) (b7 + 2) xs.length ow W sm ys mk' lv sv pa' pc' sa' sc' ow' v k us ∧ k ≤ pre.length)
    (fun _ _ _ => False)
    (fun pre A C row hs hg hr => by
      obtain ⟨sm, ys, mk', pa', pc', sa', sc', ow', v, k, us, hU, hk⟩ := hs
      exact ⟨sm, ys, mk', pa', pc', sa', sc', ow', v, k, us, hU.turned (by omega) hg hr, hk⟩)
    (fun _ _ _ _ _ hs _ _ => hs)
    ⟨_, _, _, _, _, _, _, _, _, _, _, H_hU0.out, Nat.le_refl _⟩ ?a1 ?assign ?body ?done ?stop
  case assign =>
    intro l x W K hK
    gi_wp2
    exact hK
  case body =>
    rintro l pre ⟨k, hkb⟩ W ⟨sm, ys, mk', pa', pc', sa', sc', ow', v, kk, us, hU, hkk⟩ hlt
    have hkN : k < xs.length := Vg.lt_of_tb H_h1.out.hmk hkb
    have hky : k < ys.length := by rw [hU.len]; exact hkN
    have hbq := hU.bq.cell
    have hbn := hU.bn.cell
    have hbv := hU.bv.cell
    have hbf := hU.bv.frozen
    obtain ⟨g, o, c, hlv, hg1, hg2, hc1, hc2, c0, -, -, -, -⟩ := hU.iq.lrow.line rfl k hky
    have hb := hU.iq.tab
    have hbl9 := Vg.lt_of hb
    have hm := hU.iq.mks k hky
    have hbd := hU.bd k hky
    have hom := hU.iq.om k hky
    have hgw : g < w.heap.size := hU.lv g (by rw [hlv]; rfl)
    have hlv9 := hU.iq.ol g (by rw [hlv]; rfl)
    obtain ⟨N, hN⟩ : ∃ N, ys.length = N := ⟨_, rfl⟩
    rw [hN] at hlv hc1
    subst hlv
    have hcb7 := Vg.cells_of hb 7
    simp at hcb7
    have hkNN : k < N := by omega
    obtain ⟨z, hz⟩ : ∃ z, ys[k] = z := ⟨_, rfl⟩
    rw [hz] at c0 hm hbd hom
    have hgm : ¬ (g = z.mb ∨ g = z.rb) := fun hh => by rcases hh with hh | hh <;> (rw [← hh] at hom; omega)
    have hk0 : (0 : Int) ≤ k := by omega
    have hk1 : (k : Int) < N := by omega
    have hszW := hU.size
    have hsv := hU.bv.lt
    have hsq := hU.bq.lt
    have hsn := hU.bn.lt
    clear c_y2 f_y2 p_y2 c_y3 f_y3 p_y3 c_yb f_yb p_yb
    clear l_y2 l_y3 l_yb
    have H_hU := Lib.hid hU; clear hU; have H_hm := Lib.hid hm; clear hm; have H_hN := Lib.hid hN; clear hN; have H_hz := Lib.hid hz; clear hz; have H_hgm := Lib.hid hgm; clear hgm
    gi_wp2
    rename_i K4 a4
    refine Vg.wpIn_region_held_drew (S := fun w' => w.heap.size < w'.heap.size ∧ w.heap.size + 1 < w'.heap.size ∧ b < w'.heap.size ∧ g < w'.heap.size ∧ w'.cell? ⟨w.heap.size, 0, none⟩ = some (.pointer (some ⟨b, 0, none⟩)) ∧ w'.cell? ⟨w.heap.size + 1, 0, none⟩ = some (.int .i64 now) ∧ w'.cell? ⟨b, 7, none⟩ = some (.slice (some ⟨g, o, none⟩) N c) ∧ w'.cell? ⟨g, o + k * 5, none⟩ = some (.pointer (some ⟨z.mb, 0, none⟩))) (by kernel_rfl) (Vg.noDefer_of (by kernel_rfl)) _ (fun _ _ h => h) (by go_split_ands <;> (try dsimp only) <;> go_simp) (fun hHeld => ?_)
    refine wpAnyH_take (i := 0) (oi := _) (v := ?v1) rfl (by kernel_rfl) (by kernel_rfl) (by kernel_rfl) (fun _ _ _ h => h) (Or.inl ⟨by rfl, ?hy1⟩) (by assumption) ?rest1
    case hy1 => (intro w hSw; (try dsimp only at hSw); go_simp; first | done | with_reducible rfl)
    (try simp only [List.getElem_toArray, List.getElem_cons_succ, List.getElem_cons_zero, Act.put, List.setIfInBounds_toArray, List.set_cons_zero, List.set_cons_succ])
    refine wpAnyH_take (i := 1) (oi := _) (v := ?v2) rfl (by kernel_rfl) (by kernel_rfl) (by kernel_rfl) (fun _ _ _ h => h) (Or.inl ⟨by rfl, ?hy2⟩) (by assumption) ?rest2
    case hy2 => (intro w hSw; (try dsimp only at hSw); go_simp; first | done | with_reducible rfl)
    (try simp only [List.getElem_toArray, List.getElem_cons_succ, List.getElem_cons_zero, Act.put, List.setIfInBounds_toArray, List.set_cons_zero, List.set_cons_succ])
    refine wpAnyH_take (i := 2) (oi := _) (v := ?v3) rfl (by kernel_rfl) (by kernel_rfl) (by kernel_rfl) (fun _ _ _ h => h) (Or.inl ⟨by rfl, ?hy3⟩) (by assumption) ?rest3
    case hy3 => (intro w hSw; (try dsimp only at hSw); go_simp; first | done | with_reducible rfl)
    (try simp only [List.getElem_toArray, List.getElem_cons_succ, List.getElem_cons_zero, Act.put, List.setIfInBounds_toArray, List.set_cons_zero, List.set_cons_succ])
    refine wpAnyH_take (i := 3) (oi := _) (v := ?v4) rfl (by kernel_rfl) (by kernel_rfl) (by kernel_rfl) (fun _ _ _ h => h) (Or.inl ⟨by rfl, ?hy4⟩) (by assumption) ?rest4
    case hy4 => (intro w hSw; (try dsimp only at hSw); go_simp; first | done | with_reducible rfl)
    (try simp only [List.getElem_toArray, List.getElem_cons_succ, List.getElem_cons_zero, Act.put, List.setIfInBounds_toArray, List.set_cons_zero, List.set_cons_succ])
    refine wpAnyH_take (i := 4) (oi := _) (v := ?v5) rfl (by kernel_rfl) (by kernel_rfl) (by kernel_rfl) (fun _ _ _ h => h) (Or.inl ⟨by rfl, ?hy5⟩) (by assumption) ?rest5
    case hy5 => (intro w hSw; (try dsimp only at hSw); go_simp; first | done | with_reducible rfl)
    (try simp only [List.getElem_toArray, List.getElem_cons_succ, List.getElem_cons_zero, Act.put, List.setIfInBounds_toArray, List.set_cons_zero, List.set_cons_succ])
    refine wpAnyH_take (i := 5) (oi := _) (v := ?v6) rfl (by kernel_rfl) (by kernel_rfl) (by kernel_rfl) (fun _ _ _ h => h) (Or.inl ⟨by rfl, ?hy6⟩) (by assumption) ?rest6
    case hy6 => (intro w hSw; (try dsimp only at hSw); go_simp; first | done | with_reducible rfl)
    (try simp only [List.getElem_toArray, List.getElem_cons_succ, List.getElem_cons_zero, Act.put, List.setIfInBounds_toArray, List.set_cons_zero, List.set_cons_succ])
    refine wpAnyH_take (i := 6) (oi := _) (v := ?v7) rfl (by kernel_rfl) (by kernel_rfl) (by kernel_rfl) (fun _ _ _ h => h) (Or.inl ⟨by rfl, ?hy7⟩) (by assumption) ?rest7
    case hy7 => (intro w hSw; (try dsimp only at hSw); go_simp; first | done | with_reducible rfl)
    (try simp only [List.getElem_toArray, List.getElem_cons_succ, List.getElem_cons_zero, Act.put, List.setIfInBounds_toArray, List.set_cons_zero, List.set_cons_succ])
    refine wpAnyH_take (i := 7) (oi := _) (v := ?v8) rfl (by kernel_rfl) (by kernel_rfl) (by kernel_rfl) (fun _ _ _ h => h) (Or.inl ⟨by rfl, ?hy8⟩) (by assumption) ?rest8
    case hy8 => (intro w hSw; (try dsimp only at hSw); go_simp; first | done | with_reducible rfl)
    (try simp only [List.getElem_toArray, List.getElem_cons_succ, List.getElem_cons_zero, Act.put, List.setIfInBounds_toArray, List.set_cons_zero, List.set_cons_succ])
    refine wpAnyH_take (i := 8) (oi := _) (v := ?v9) rfl (by kernel_rfl) (by kernel_rfl) (by kernel_rfl) (fun _ _ _ h => h) (Or.inl ⟨by rfl, ?hy9⟩) (by assumption) ?rest9
    case hy9 => (intro w hSw; (try dsimp only at hSw); go_simp; first | done | with_reducible rfl)
    (try simp only [List.getElem_toArray, List.getElem_cons_succ, List.getElem_cons_zero, Act.put, List.setIfInBounds_toArray, List.set_cons_zero, List.set_cons_succ])
    refine wpAnyH_ready (rs := [9]) (by kernel_rfl) (by simp) ?_
    refine AllReadyH.cons (o := _) rfl (fun K hK => ?st10) ?mo10
    case st10 =>
      go_simp
      ((go_at_call 32; (with_reducible refine (mk_masked now (H_hm.out.grows (by (repeat' (first | (with_reducible exact Vg.Grows.refl _) | (with_reducible assumption) | (with_reducible refine Vg.Grows.alloc ?_ _) | (with_reducible refine Vg.Grows.plus ?_ _ _) | (with_reducible refine Vg.Grows.drewN ?_ _) | (with_reducible refine Vg.Grows.drew ?_) | (with_reducible refine Vg.Grows.setCell ?_ ?_ _) | (with_reducible refine Vg.Grows.put ?_ ?_ _) | omega | (simp; omega) | (simp; done)))))).mono ?_); rintro e w2 ⟨fl, er, q', ml', rfl, hm2, hqq, ht2⟩; have hT2 := (Vg.Touch.of_grows (t := fun j => j = z.mb ∨ j = z.rb) (by (repeat' (first | (with_reducible exact Vg.Grows.refl _) | (with_reducible assumption) | (with_reducible refine Vg.Grows.alloc ?_ _) | (with_reducible refine Vg.Grows.plus ?_ _ _) | (with_reducible refine Vg.Grows.drewN ?_ _) | (with_reducible refine Vg.Grows.drew ?_) | (with_reducible refine Vg.Grows.setCell ?_ ?_ _) | (with_reducible refine Vg.Grows.put ?_ ?_ _) | omega | (simp; omega) | (simp; done))) : Vg.Grows W W.drew)).trans ht2; have hU2 := UI.masked (i := k) (q' := q') (ml' := ml') (W' := w2) H_hU.out hky (by rw [H_hz.out]; exact hm2) (by rw [H_hz.out]; exact Vg.told_of hqq) (by rw [H_hz.out]; exact hT2); have e2 := hU2.bq.cell; have e3 := hU2.bn.cell; have e4 := hU2.bv.cell; have e5 := hU2.bv.frozen; have e7 := Vg.cells_of hU2.iq.tab 7; simp only [List.getElem?_toArray, List.getElem?_cons_succ, List.getElem?_cons_zero] at e7; have e9 := (World.cell?_of_block (a := ⟨g, o + k * 5, none⟩) (hT2.block g (by omega) H_hgm.out)).trans c0; have s2 := hT2.size; have n21 : w.heap.size < w2.heap.size := (by omega); have n22 : w.heap.size + 1 < w2.heap.size := (by omega); have n23 : b < w2.heap.size := (by omega); have n24 : g < w2.heap.size := (by omega); clear hbq hbn hbv hbf hcb7 c0; have H_hT2 := Lib.hid hT2; clear hT2; have H_hU2 := Lib.hid hU2; clear hU2; have H_hm2 := Lib.hid hm2; clear hm2; have H_ht2 := Lib.hid ht2; clear ht2; have H_hqq := Lib.hid hqq; clear hqq))
      all_goals (try go_wp2_with fail)
      refine hK.out _ _ (by go_split_ands <;> (try dsimp only) <;> go_simp) (fun hHeld10 => ?_)
      clear hK K
      (try simp only [List.getElem_toArray, List.getElem_cons_succ, List.getElem_cons_zero, Act.put, List.setIfInBounds_toArray, List.set_cons_zero, List.set_cons_succ])
      refine wpAnyH_take (i := 10) (oi := _) (v := ?v11) rfl (by kernel_rfl) (by kernel_rfl) (by kernel_rfl) (fun _ _ _ h => h) (Or.inl ⟨by rfl, ?hy11⟩) (by assumption) ?rest11
      case hy11 => (intro w hSw; (try dsimp only at hSw); go_simp; first | done | with_reducible rfl)
      (try simp only [List.getElem_toArray, List.getElem_cons_succ, List.getElem_cons_zero, Act.put, List.setIfInBounds_toArray, List.set_cons_zero, List.set_cons_succ])
      refine wpAnyH_take (i := 11) (oi := _) (v := ?v12) rfl (by kernel_rfl) (by kernel_rfl) (by kernel_rfl) (fun _ _ _ h => h) (Or.inl ⟨by rfl, ?hy12⟩) (by assumption) ?rest12
      case hy12 => (intro w hSw; (try dsimp only at hSw); go_simp; first | done | with_reducible rfl)
      (try simp only [List.getElem_toArray, List.getElem_cons_succ, List.getElem_cons_zero, Act.put, List.setIfInBounds_toArray, List.set_cons_zero, List.set_cons_succ])
      refine wpAnyH_take (i := 12) (oi := _) (v := ?v13) rfl (by kernel_rfl) (by kernel_rfl) (by kernel_rfl) (fun _ _ _ h => h) (Or.inl ⟨by rfl, ?hy13⟩) (by assumption) ?rest13
      case hy13 => (intro w hSw; (try dsimp only at hSw); go_simp; first | done | with_reducible rfl)
      (try simp only [List.getElem_toArray, List.getElem_cons_succ, List.getElem_cons_zero, Act.put, List.setIfInBounds_toArray, List.set_cons_zero, List.set_cons_succ])
      refine wpAnyH_take (i := 13) (oi := _) (v := ?v14) rfl (by kernel_rfl) (by kernel_rfl) (by kernel_rfl) (fun _ _ _ h => h) (Or.inl ⟨by rfl, ?hy14⟩) (by assumption) ?rest14
      case hy14 => (intro w hSw; (try dsimp only at hSw); go_simp; first | done | with_reducible rfl)
      (try simp only [List.getElem_toArray, List.getElem_cons_succ, List.getElem_cons_zero, Act.put, List.setIfInBounds_toArray, List.set_cons_zero, List.set_cons_succ])
      refine wpAnyH_take (i := 14) (oi := _) (v := ?v15) rfl (by kernel_rfl) (by kernel_rfl) (by kernel_rfl) (fun _ _ _ h => h) (Or.inl ⟨by rfl, ?hy15⟩) (by assumption) ?rest15
      case hy15 => (intro w hSw; (try dsimp only at hSw); go_simp; first | done | with_reducible rfl)
      (try simp only [List.getElem_toArray, List.getElem_cons_succ, List.getElem_cons_zero, Act.put, List.setIfInBounds_toArray, List.set_cons_zero, List.set_cons_succ])
      refine wpAnyH_done (by kernel_rfl) ?_ _
      refine a4 _ _ ?_
      have hk5 : ∀ j, (j = z.mb ∨ j = z.rb) → j < WL.heap.size := fun j hj => by rcases hj with rfl | rfl <;> omega
      have hk6 : ∀ j, (j = 0 ∨ j = b7 + 1) → j < W.heap.size ∧ ¬ (j = z.mb ∨ j = z.rb) := fun j hj => by
        have hz9 := H_hU.out.z
        refine ⟨by rcases hj with rfl | rfl <;> omega, fun hh => ?_⟩
        rcases hj with rfl | rfl
        · rcases hh with hh | hh
          · rw [← hh] at hom; omega
          · rw [← hh] at hom; omega
        · rcases hh with hh | hh
          · rw [← hh] at hom; omega
          · rw [← hh] at hom; omega
      cases fl with
      | true =>
        gi_wp2
        exact (show KeepsFrom _ W _ ∧ Vg.Kept _ W _ ∧ _ from ⟨keeps_touch H_hT2.out hk5, kept_touch H_hT2.out hk6, ⟨_, _, _, _, _, _, _, _, _, _, _, H_hU2.out, by simp; omega⟩⟩)
      | false =>
        have H_hk5 := Lib.hid hk5; clear hk5; have H_hk6 := Lib.hid hk6; clear hk6
        gi_wp2_with (first | (refine ⟨trivial, ?_⟩; gi_at_call 33; refine (CallsIn.inRound l (callsIn_wide.2 (irq_mask k false (by rw [List.length_set]; exact hky) H_hU2.out.iq))).mono ?_; rintro e w3 ⟨rfl, ⟨mk3, pa3, pc3, sa3, sc3, ow3, hI3, how3⟩, ht3⟩; have hU3 := UI.en H_hU2.out hI3 how3 ht3 (by omega) (by omega); have s3 := ht3.size; have d2 := hU3.bq.cell; have d4 := hU3.bv.cell; have d5 := hU3.bv.frozen; have hrow3 := hU3.row; clear e2 e3 e4 e5 e7 e9; have H_hU3 := Lib.hid hU3; clear hU3; have H_hI3 := Lib.hid hI3; clear hI3; have H_how3 := Lib.hid how3; clear how3; have H_ht3 := Lib.hid ht3; clear ht3) | (gi_at_builtin; go_loud (refine wpListIn_append_own_at _ rfl (.tmp 41) (.tmp 43) 29 rfl (b7 + 2) 3 i0 (.int .i64 0) 1 8 Tryd.underlying29 hi hz0 hz1 hz2 rfl (by decide) _ _ _ rfl (hrow3.alloc _) ⟨w3.heap.size, 0, none⟩ 1 1 [.int .i64 (k : Nat)] rfl rfl (cell_one_new _ _ _) (by simp [Value.oneCell']) (by unfold maxLen; omega) (by omega) (by simp; omega) ?_; intro v' w4 hown' hgrow _ hob'; obtain ⟨g', cap', rfl⟩ := ownsRow_succ hown'; obtain ⟨hb4, hU4, hT4, hro4⟩ := H_hU3.out.push hown' hgrow hob' (by omega) (by omega) (by omega) (by omega) (by omega); have f4 := hb4.cell; have f5 := hb4.frozen; have H_hU4 := Lib.hid hU4; clear hU4; have H_hT4 := Lib.hid hT4; clear hT4; have H_hro4 := Lib.hid hro4; clear hro4; have H_hb4 := Lib.hid hb4; clear hb4)))
        have hk7 : ∀ j, (j = b7 ∨ v.ownBlock = some j) → j ≠ 0 ∧ j ≠ b7 + 1 := fun j hj => by
          rcases hj with rfl | hj
          · omega
          · have := (H_hro4.out j hj).1; omega
        have hkf2 : KeepsFrom WL.heap.size w2 w3 := keeps_touch H_ht3.out (fun j hj => by rw [hj]; omega)
        have hkf3 : KeepsFrom WL.heap.size w3 _ := ⟨H_hT4.out.size, fun j o hj ho hc => (H_hT4.out.block j (Array.getElem?_eq_some_iff.1 ho).1 (fun hh => by
          rcases hh with rfl | hh
          · omega
          · obtain ⟨o', ho', hc'⟩ := (H_hro4.out j hh).2
            rw [ho] at ho'
            cases ho'
            rw [hc] at hc'
            cases hc')).trans ho⟩
        have hkp2 : Vg.Kept (fun k => k = 0 ∨ k = b7 + 1) w2 w3 := kept_touch H_ht3.out (fun j hj => ⟨by rcases hj with rfl | rfl <;> omega, fun hh => by
          have h9 := H_hU2.out.z
          have h8 := H_hU2.out.iq.ob
          rcases hj with rfl | rfl
          · rw [← hh] at h8; omega
          · rw [← hh] at h8; omega⟩)
        have hkp3 : Vg.Kept (fun k => k = 0 ∨ k = b7 + 1) w3 _ := kept_touch H_hT4.out (fun j hj => ⟨by rcases hj with rfl | rfl <;> omega, fun hh => by
          have h9 := hk7 j hh
          rcases hj with rfl | rfl <;> omega⟩)
        exact (show KeepsFrom _ W _ ∧ Vg.Kept _ W _ ∧ _ from ⟨((keeps_touch H_hT2.out H_hk5.out).trans hkf2).trans hkf3, ((kept_touch H_hT2.out H_hk6.out).trans hkp2).trans hkp3, ⟨_, _, _, _, _, _, _, _, _, _, _, H_hU4.out, by simp; omega⟩⟩)
    exact AllReadyH.nil
  case done =>
    rintro D zs W hD - ⟨sm, ys, mk', pa', pc', sa', sc', ow', v, kk, us, hU, hkk⟩ hK
    have hc := hU.bv.cell
    clear c_y2 f_y2 p_y2 c_y3 f_y3 p_y3 c_yb f_yb p_yb
    have H_hU := Lib.hid hU; clear hU
    gi_wp2
    refine ⟨by simp, .inl ⟨_, _, rfl, run_takeDeferred hK, ?_⟩⟩
    have hU9 := H_hU.out.turned (B := WL.heap.size) (by omega) (grownBy_putObj' W D (.deferred none)) (fun r e => by cases e; exact ⟨hD, _, hK, rfl⟩)
    exact ⟨_, results_tmp2 rfl _ _ _, v, sm, rfl, QSn.of H_h00.out hU9.iq (fun k hk => (hU9.own k hk).imp (H_h2.out k) id) (hU9.t.mono fun k _ hk => H_h2.out k hk), hU9.calm, hU9.last⟩
  case stop =>
    rintro D c pre W _ _ h _
    exact h.elim
end
end Go.Proofs.YtekjnagojphmkaaDoor
