/- Contracts of package server. A server lies at block b: 'servC'; what comes back (time, how many): a list of pairs, which its row shows ('Vg.Que', from block B on). -/
import Derived.Test.YtekjnagojphmkaaDoorChecked
import Derived.Test.YtekjnagojphmkaaDoorQue
set_option linter.unusedSimpArgs false
set_option linter.unusedVariables false
set_option maxHeartbeats 400000
set_option maxRecDepth 20000
namespace Vg
open Go
/-- The cells of parts. -/
def pcells : List (Int × Int) → List Value
  | [] => []
  | x :: l => .int .i64 x.1 :: .int .i64 x.2 :: pcells l
theorem pcells_length : ∀ l : List (Int × Int), (pcells l).length = l.length * 2
  | [] => rfl
  | x :: l => by simp [pcells, pcells_length l]; omega
theorem pcells_append : ∀ l m : List (Int × Int), pcells (l ++ m) = pcells l ++ pcells m
  | [], m => rfl
  | x :: l, m => by simp [pcells, pcells_append l m]
theorem pcells_get : ∀ (l : List (Int × Int)) (k : Nat) (h : k < l.length), (pcells l)[k * 2]? = some (.int .i64 l[k].1) ∧ (pcells l)[k * 2 + 1]? = some (.int .i64 l[k].2)
  | [], k, h => by simp at h
  | x :: l, 0, _ => by simp [pcells]
  | x :: l, k + 1, h => by
    have := pcells_get l k (by simpa using h)
    rw [show (k + 1) * 2 = k * 2 + 1 + 1 from by omega]
    simpa [pcells] using this
theorem pcells_set (l : List (Int × Int)) (x : Int × Int) (y : Int) : (pcells (l ++ [x])).set (l.length * 2 + 1) (.int .i64 y) = pcells (l ++ [(x.1, y)]) := by
  rw [pcells_append, pcells_append, List.set_append_right _ _ (by rw [pcells_length]; omega), pcells_length, show l.length * 2 + 1 - l.length * 2 = 1 from by omega]
  rfl
/-- What is owed when more is: onto the last part, if it comes back at that time. -/
def owe (at_ n : Int) : List (Int × Int) → List (Int × Int)
  | [] => [(at_, n)]
  | [x] => if x.1 = at_ then [(x.1, x.2 + n)] else [x, (at_, n)]
  | x :: y :: l => x :: owe at_ n (y :: l)
theorem owe_snoc (at_ n : Int) (x : Int × Int) : ∀ l : List (Int × Int), owe at_ n (l ++ [x]) = if x.1 = at_ then l ++ [(x.1, x.2 + n)] else l ++ [x] ++ [(at_, n)]
  | [] => by simp only [List.nil_append, owe]; split <;> rfl
  | [y] => by simp only [List.cons_append, List.nil_append, owe]; split <;> rfl
  | y :: z :: l => by
    have := owe_snoc at_ n x (z :: l)
    simp only [List.cons_append] at this ⊢
    rw [owe, this]
    split <;> rfl
theorem Que.set {w : World} {B : Nat} {e : TypeId} {size : Nat} {n : Nat} {xs : List Value} {g o c j : Nat} {u : Value} (h : Que w B e size (.slice (some ⟨g, o, none⟩) n c) n xs) (hj : j < xs.length) :
    Que (w.setCell ⟨g, o + j, none⟩ u) B e size (.slice (some ⟨g, o, none⟩) n c) n (xs.set j u) ∧ Same (fun k => k = g) w (w.setCell ⟨g, o + j, none⟩ u) := by
  rcases h.2 with ⟨h0, _⟩ | ⟨g', o', cap', cur, hv, hb, hg, hn, hm, hcs, ht⟩
  · cases h0
  · simp only [Value.slice.injEq, Option.some.injEq, Addr.mk.injEq] at hv
    obtain ⟨⟨rfl, rfl, _⟩, _, rfl⟩ := hv
    rw [setCell_of (w := w) (b := g) hg]
    refine ⟨⟨by rw [List.length_set]; exact h.1, .inr ⟨g, o, c, _, rfl, hb, put_heap_same (Array.getElem?_eq_some_iff.1 hg).1, hn, hm, by simpa using hcs, ?_⟩⟩, Same.put (t := fun k => k = g) (Same.refl _ w) rfl _⟩
    rw [Array.toList_setIfInBounds, List.drop_set, if_neg (by omega), List.take_set, ht, show o + j - o = j from by omega]
theorem Que.frozen {w : World} {B : Nat} {e : TypeId} {size : Nat} {n : Nat} {xs : List Value} {g o c : Nat} (h : Que w B e size (.slice (some ⟨g, o, none⟩) n c) n xs) : ∀ j, w.frozen? ⟨g, j, none⟩ = false := by
  rcases h.2 with ⟨h0, _⟩ | ⟨g', o', cap', cur, hv, hb, hg, hn, hm, hcs, ht⟩
  · cases h0
  · simp only [Value.slice.injEq, Option.some.injEq, Addr.mk.injEq] at hv
    obtain ⟨⟨rfl, rfl, _⟩, _, rfl⟩ := hv
    exact frozen_of (w := w) (b := g) hg
/-- How much the parts are that come back by a time, and the rest. -/
def due (now : Int) : List (Int × Int) → Int × List (Int × Int)
  | [] => (0, [])
  | x :: l => if x.1 ≤ now then (x.2 + (due now l).1, (due now l).2) else (0, x :: l)
end Vg
namespace Go.Proofs.YtekjnagojphmkaaDoor
open Go.ChangeShapes Go.WideShapes Go.ChangeAt Go.RowKit
theorem Tryd.info_part : (Tryd.prog.info? 172).map (fun i => (i.zero, i.size, i.bytes)) = some (some (.agg #[.int .i64 0, .int .i64 0]), 2, 16) := by kernel_rfl
abbrev servC (left period : Int) (v : Value) (last : Int) : Obj := .cells #[.int .i64 left, .int .i64 period, v, .int .i64 last] 162

section
variable {b B : Nat} {left period last : Int} {v : Value} {L : List (Int × Int)} {w : World} {sa : Option Addr} {sc : Nat}
theorem serv_cells (h : Vg.blk w b = some (servC left period v last)) :
    w.cell? ⟨b, 0, none⟩ = some (.int .i64 left) ∧ w.cell? ⟨b, 1, none⟩ = some (.int .i64 period) ∧ w.cell? ⟨b, 2, none⟩ = some v ∧ w.cell? ⟨b, 3, none⟩ = some (.int .i64 last) := by
  have := Vg.cells_of h
  simp [this]
theorem serv_new_no (bu pe : Int) (h : bu < 1 ∨ pe < bu ∨ 1099511627776 < pe) :
    Calls Tryd.prog 45 #[.int .i64 bu, .int .i64 pe] w fun e w' => e = .returned (.tuple #[.pointer none, .int .i64 1]) ∧ w = w' := by
  by_cases h1 : bu < 1
  · clear h
    go_enter Tryd.func45, Tryd.ntmps45
    go_wp2
    go_ret2
    exact ⟨rfl, rfl⟩
  by_cases h2 : pe < bu
  · clear h
    go_enter Tryd.func45, Tryd.ntmps45
    go_wp2
    go_ret2
    exact ⟨rfl, rfl⟩
  have h3 : 1099511627776 < pe := by omega
  clear h
  go_enter Tryd.func45, Tryd.ntmps45
  go_wp2
  go_ret2
  exact ⟨rfl, rfl⟩
theorem serv_new_ok (bu pe : Int) (h1 : 1 ≤ bu) (h2 : bu ≤ pe) (h3 : pe ≤ 1099511627776) :
    Calls Tryd.prog 45 #[.int .i64 bu, .int .i64 pe] w fun e w' => e = .returned (.tuple #[.pointer (some ⟨w.heap.size, 0, none⟩), .int .i64 0]) ∧ w' = w.alloc (servC bu pe (.slice none 0 0) 0) := by
  go_enter Tryd.func45, Tryd.ntmps45
  go_wp2
  go_ret2
  exact ⟨rfl, rfl⟩
theorem serv_later (t : Int) (h : Vg.blk w b = some (servC left period v last)) :
    Calls Tryd.prog 49 #[.pointer (some ⟨b, 0, none⟩), .int .i64 t] w fun e w' => e = .returned (.bool (decide (last ≤ t) && decide (t ≤ 4503599627370496))) ∧ w = w' := by
  obtain ⟨c0, c1, c2, c3⟩ := serv_cells h
  clear h
  by_cases h1 : last ≤ t
  · go_enter Tryd.func49, Tryd.ntmps49
    go_wp2
    go_ret
    exact ⟨ret_bool (by simp [h1]), rfl⟩
  · go_enter Tryd.func49, Tryd.ntmps49
    go_wp2
    go_ret
    exact ⟨ret_bool (by simp; omega), rfl⟩
theorem serv_waits (h : Vg.blk w b = some (servC left period (.slice sa L.length sc) last)) :
    Calls Tryd.prog 81 #[.pointer (some ⟨b, 0, none⟩)] w fun e w' => e = .returned (.int .i64 L.length) ∧ w = w' := by
  obtain ⟨c0, c1, c2, c3⟩ := serv_cells h
  clear h
  go_enter Tryd.func81, Tryd.ntmps81
  go_wp2
  go_ret
  exact ⟨rfl, rfl⟩
theorem serv_left (h : Vg.blk w b = some (servC left period (.slice sa L.length sc) last)) :
    Calls Tryd.prog 54 #[.pointer (some ⟨b, 0, none⟩)] w fun e w' => e = .returned (.int .i64 (if 16 ≤ L.length then 0 else left)) ∧ w = w' := by
  obtain ⟨c0, c1, c2, c3⟩ := serv_cells h
  have N := Lib.hid h
  clear h
  by_cases hl : 16 ≤ L.length
  · go_enter Tryd.func54, Tryd.ntmps54
    go_wp2_with (go_at_call 81; refine (serv_waits (by exact N.out)).mono ?_; rintro e w1 ⟨rfl, rfl⟩)
    go_ret
    exact ⟨ret_int (by simp [hl]), rfl⟩
  · go_enter Tryd.func54, Tryd.ntmps54
    go_wp2_with (go_at_call 81; refine (serv_waits (by exact N.out)).mono ?_; rintro e w1 ⟨rfl, rfl⟩)
    go_ret
    exact ⟨ret_int (by simp [hl]), rfl⟩
theorem serv_owe (at_ n : Int) (h : Vg.blk w b = some (servC left period (.slice sa L.length sc) last)) (hq : Vg.Que w B 172 2 (.slice sa L.length sc) L.length (Vg.pcells L)) (hb : b < B) (hB : B ≤ w.heap.size) (hL : L.length ≤ 1000)
    (hn : ∀ x ∈ L, 0 ≤ x.2 + n ∧ x.2 + n ≤ 9223372036854775807) :
    Calls Tryd.prog 82 #[.pointer (some ⟨b, 0, none⟩), .int .i64 at_, .int .i64 n] w fun e w' => ∃ sa' sc', Vg.Touch (fun k => k = b ∨ (Value.slice sa L.length sc).ownBlock = some k) w w' ∧
      Vg.blk w' b = some (servC left period (.slice sa' (Vg.owe at_ n L).length sc') last) ∧ Vg.Que w' B 172 2 (.slice sa' (Vg.owe at_ n L).length sc') (Vg.owe at_ n L).length (Vg.pcells (Vg.owe at_ n L)) ∧
      ((Value.slice sa' (Vg.owe at_ n L).length sc').ownBlock = (Value.slice sa L.length sc).ownBlock ∨ ∀ k, (Value.slice sa' (Vg.owe at_ n L).length sc').ownBlock = some k → w.heap.size ≤ k) ∧ e = .returned (.tuple #[]) := by
  obtain ⟨c0, c1, c2, c3⟩ := serv_cells h
  have f0 := Vg.frozen_of h
  have p0 := Vg.setCell_of h
  have l0 := Vg.lt_of h
  have N := Lib.hid h
  clear h
  obtain ⟨i0, hi, hz0, hz1, hz2⟩ := info_parts Tryd.info_part
  rcases List.eq_nil_or_concat L with rfl | ⟨l, x, rfl⟩
  · go_enter Tryd.func82, Tryd.ntmps82
    go_wp2_with (at_builtin; go_loud (refine Vg.wpList_que (w := _) rfl (.tmp 43) (.tmp 47) 160 rfl B 172 i0 (.agg #[.int .i64 0, .int .i64 0]) 2 16 Tryd.underlying160 hi hz0 hz1 hz2 rfl (by decide) (.slice sa 0 sc) 0 (Vg.pcells []) rfl (hq.grows (by (repeat' (first | (with_reducible exact Vg.Grows.refl _) | (with_reducible assumption) | (with_reducible refine Vg.Grows.alloc ?_ _) | (with_reducible refine Vg.Grows.plus ?_ _ _) | (with_reducible refine Vg.Grows.drewN ?_ _) | (with_reducible refine Vg.Grows.drew ?_) | (with_reducible refine Vg.Grows.setCell ?_ ?_ _) | (with_reducible refine Vg.Grows.put ?_ ?_ _) | omega | (simp; omega) | (simp; done))))) _ 1 1 [.int .i64 at_, .int .i64 n] rfl rfl (Vg.two_new (by (try simp only [World.size_alloc, Vg.plus_size, Vg.put_size, World.size_setCell, World.size_drew]) <;> omega)) (by simp [Value.oneCell']) (by decide) (by unfold maxLen; omega) (by omega) (by go_simp; omega) ?_; intro v2 W1 y2 m2 hq2 hs2 ho2; obtain ⟨a2, c2', rfl⟩ := hq2.shape; have hb1 : Vg.blk W1 b = some (servC left period (.slice sa 0 sc) last) := (hs2.block b (fun hh => by have := (hq.lt b hh).1; omega)).trans ((Vg.alloc_heap_past l0).trans N.out); have d5 := Vg.cells_of hb1; have f5 := Vg.frozen_of hb1; have p5 := Vg.setCell_of hb1; have l5 := Vg.lt_of hb1; have N5 := Lib.hid hb1; have HS2 := Lib.hid hs2; have HO2 := Lib.hid ho2; have HQ2 := Lib.hid hq2; clear hb1 hs2 ho2 hq2))
    go_returns
    refine ⟨a2, c2', ?_, ?_, ?_, ?_, rfl⟩
    · refine Vg.Touch.trans (w' := Vg.put W1 b (servC left period (.slice a2 (0 + 1) c2') last)) ?_ (Vg.Touch.of_grows (by (repeat' (first | (with_reducible exact Vg.Grows.refl _) | (with_reducible assumption) | (with_reducible refine Vg.Grows.alloc ?_ _) | (with_reducible refine Vg.Grows.plus ?_ _ _) | (with_reducible refine Vg.Grows.drewN ?_ _) | (with_reducible refine Vg.Grows.drew ?_) | (with_reducible refine Vg.Grows.setCell ?_ ?_ _) | (with_reducible refine Vg.Grows.put ?_ ?_ _) | omega | (simp; omega) | (simp; done)))))
      refine Vg.Touch.put ?_ (.inl rfl) _
      exact (Vg.Touch.of_grows (by (repeat' (first | (with_reducible exact Vg.Grows.refl _) | (with_reducible assumption) | (with_reducible refine Vg.Grows.alloc ?_ _) | (with_reducible refine Vg.Grows.plus ?_ _ _) | (with_reducible refine Vg.Grows.drewN ?_ _) | (with_reducible refine Vg.Grows.drew ?_) | (with_reducible refine Vg.Grows.setCell ?_ ?_ _) | (with_reducible refine Vg.Grows.put ?_ ?_ _) | omega | (simp; omega) | (simp; done))))).trans ((Vg.Touch.of_same HS2.out).mono fun k _ hk => .inr hk)
    · go_simp; rfl
    · exact HQ2.out.kept fun k hk => by
        have := (HQ2.out.lt k hk).1
        rw [← Vg.put_plus (by exact l5)]
        exact Vg.put_heap_other (by omega)
    · rcases HO2.out with h5 | h5
      · exact .inl h5
      · refine .inr fun k hk => ?_
        have e5 : some k = some _ := hk.symm.trans h5
        cases e5
        simp
  · simp only [List.concat_eq_append, List.length_append, List.length_cons, List.length_nil, Nat.zero_add] at c2 p0 N hq hL hn ⊢
    obtain ⟨g, off, rfl, hg, hc, hm, hx⟩ := hq.reads.open (by rw [Vg.pcells_length]; simp)
    have hget := Vg.pcells_get (l ++ [x]) l.length (by simp)
    simp only [List.getElem_concat_length] at hget
    have h0 := hx (l.length * 2) (by rw [Vg.pcells_length]; simp <;> omega)
    have h1 := hx (l.length * 2 + 1) (by rw [Vg.pcells_length]; simp <;> omega)
    rw [← Nat.add_assoc] at h1
    have h0' : w.cell? ⟨g, off + l.length * 2, none⟩ = some (.int .i64 x.1) := by rw [h0, ← hget.1, List.getElem?_eq_getElem]
    have h1' : w.cell? ⟨g, off + l.length * 2 + 1, none⟩ = some (.int .i64 x.2) := by rw [h1, ← hget.2, List.getElem?_eq_getElem]
    have hfz := hq.frozen
    have hx2 := hn x (by simp)
    have hcm : sc ≤ 9223372036854775807 := hm
    have hsub : IntKind.i64.wrap (((l.length : Int) + 1) - 1) = l.length := by rw [IntWalk.i64_in _ (by omega)]; omega
    have hsum : IntKind.i64.wrap (x.2 + n) = x.2 + n := by rw [IntWalk.i64_in _ (by omega)]
    have hwhole := Lib.hid (Vg.owe_snoc at_ n x l)
    have HQ := Lib.hid hq
    clear h0 h1 hget hx hn hq
    by_cases hat : x.1 = at_
    · have hab : (x.1 == at_) = true := by simp [hat]
      go_enter Tryd.func82, Tryd.ntmps82
      go_wp2
      go_returns
      obtain ⟨hq', hs'⟩ := HQ.out.set (j := l.length * 2 + 1) (u := .int .i64 (x.2 + n)) (by rw [Vg.pcells_length]; simp <;> omega)
      rw [← Nat.add_assoc] at hq' hs'
      have hgb := (HQ.out.lt g rfl).1
      rw [hwhole.out, if_pos hat]
      simp only [List.length_append, List.length_cons, List.length_nil, Nat.zero_add]
      refine ⟨some ⟨g, off, none⟩, sc, Vg.Touch.of_same (hs'.mono fun k hk => .inr (by rw [hk]; rfl)), (hs'.block b (by omega)).trans N.out, ?_, .inl rfl, by trivial⟩
      rw [← Vg.pcells_set]
      exact hq'
    · have hab : (x.1 == at_) = false := by simp [hat]
      go_enter Tryd.func82, Tryd.ntmps82
      go_wp2_with (at_builtin; go_loud (refine Vg.wpList_que (w := _) rfl (.tmp 43) (.tmp 47) 160 rfl B 172 i0 (.agg #[.int .i64 0, .int .i64 0]) 2 16 Tryd.underlying160 hi hz0 hz1 hz2 rfl (by decide) (.slice (some ⟨g, off, none⟩) (l.length + 1) sc) (l.length + 1) (Vg.pcells (l ++ [x])) rfl (HQ.out.grows (by (repeat' (first | (with_reducible exact Vg.Grows.refl _) | (with_reducible assumption) | (with_reducible refine Vg.Grows.alloc ?_ _) | (with_reducible refine Vg.Grows.plus ?_ _ _) | (with_reducible refine Vg.Grows.drewN ?_ _) | (with_reducible refine Vg.Grows.drew ?_) | (with_reducible refine Vg.Grows.setCell ?_ ?_ _) | (with_reducible refine Vg.Grows.put ?_ ?_ _) | omega | (simp; omega) | (simp; done))))) _ 1 1 [.int .i64 at_, .int .i64 n] rfl rfl (Vg.two_new (by (try simp only [World.size_alloc, Vg.plus_size, Vg.put_size, World.size_setCell, World.size_drew]) <;> omega)) (by simp [Value.oneCell']) (by decide) (by unfold maxLen; omega) (by omega) (by go_simp; omega) ?_; intro v2 W1 y2 m2 hq2 hs2 ho2; obtain ⟨a2, c2', rfl⟩ := hq2.shape; have hb1 : Vg.blk W1 b = some (servC left period (.slice (some ⟨g, off, none⟩) (l.length + 1) sc) last) := (hs2.block b (fun hh => by have := (HQ.out.lt b hh).1; omega)).trans ((Vg.alloc_heap_past l0).trans N.out); have d5 := Vg.cells_of hb1; have f5 := Vg.frozen_of hb1; have p5 := Vg.setCell_of hb1; have l5 := Vg.lt_of hb1; have N5 := Lib.hid hb1; have HS2 := Lib.hid hs2; have HO2 := Lib.hid ho2; have HQ2 := Lib.hid hq2; clear hb1 hs2 ho2 hq2))
      go_returns
      rw [hwhole.out, if_neg hat]
      simp only [List.length_append, List.length_cons, List.length_nil, Nat.zero_add]
      refine ⟨a2, c2', ?_, ?_, ?_, ?_, by trivial⟩
      · refine Vg.Touch.trans (w' := Vg.put W1 b (servC left period (.slice a2 (l.length + 1 + 1) c2') last)) ?_ (Vg.Touch.of_grows (by (repeat' (first | (with_reducible exact Vg.Grows.refl _) | (with_reducible assumption) | (with_reducible refine Vg.Grows.alloc ?_ _) | (with_reducible refine Vg.Grows.plus ?_ _ _) | (with_reducible refine Vg.Grows.drewN ?_ _) | (with_reducible refine Vg.Grows.drew ?_) | (with_reducible refine Vg.Grows.setCell ?_ ?_ _) | (with_reducible refine Vg.Grows.put ?_ ?_ _) | omega | (simp; omega) | (simp; done)))))
        refine Vg.Touch.put ?_ (.inl rfl) _
        exact (Vg.Touch.of_grows (by (repeat' (first | (with_reducible exact Vg.Grows.refl _) | (with_reducible assumption) | (with_reducible refine Vg.Grows.alloc ?_ _) | (with_reducible refine Vg.Grows.plus ?_ _ _) | (with_reducible refine Vg.Grows.drewN ?_ _) | (with_reducible refine Vg.Grows.drew ?_) | (with_reducible refine Vg.Grows.setCell ?_ ?_ _) | (with_reducible refine Vg.Grows.put ?_ ?_ _) | omega | (simp; omega) | (simp; done))))).trans ((Vg.Touch.of_same HS2.out).mono fun k _ hk => .inr hk)
      · go_simp
      · rw [Vg.pcells_append]
        refine Vg.Que.kept HQ2.out fun k hk => by
          have := (HQ2.out.lt k hk).1
          rw [← Vg.put_plus (by exact l5)]
          exact Vg.put_heap_other (by omega)
      · rcases HO2.out with h5 | h5
        · exact .inl h5
        · refine .inr fun k hk => ?_
          have e5 : some k = some _ := hk.symm.trans h5
          cases e5
          simp
end
end Go.Proofs.YtekjnagojphmkaaDoor
