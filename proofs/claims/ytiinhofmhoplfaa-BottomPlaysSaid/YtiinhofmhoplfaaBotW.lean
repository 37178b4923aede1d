/- BottomPlays: the document's queues of many depths; threads under way. -/
import Derived.Test.YtiinhofmhoplfaaBpA
set_option linter.unusedSimpArgs false
set_option linter.unusedVariables false
set_option maxHeartbeats 8000000
set_option maxRecDepth 100000
namespace Vg
open Go
def HasX (X : List (Nat × Obj)) (w : World) : Prop := ∀ p ∈ X, blk w p.1 = some p.2
def DomX (X : List (Nat × Obj)) (k : Nat) : Prop := ∃ o, (k, o) ∈ X
theorem HasX.nil (w : World) : HasX [] w := fun p hp => by simp at hp
theorem HasX.cons {X : List (Nat × Obj)} {w : World} {g : Nat} {o : Obj} (h : HasX X w) (hg : blk w g = some o) : HasX ((g, o) :: X) w := fun p hp => by
  rcases List.mem_cons.1 hp with rfl | hp
  · exact hg
  · exact h p hp
theorem DomX.nil {k : Nat} : ¬ DomX [] k := fun ⟨o, h⟩ => by simp at h
theorem DomX.cons {X : List (Nat × Obj)} {g k : Nat} {o : Obj} (h : DomX ((g, o) :: X) k) : k = g ∨ DomX X k := by
  obtain ⟨o', h⟩ := h
  rcases List.mem_cons.1 h with h | h
  · exact .inl (congrArg Prod.fst h)
  · exact .inr ⟨o', h⟩
theorem DomX.there {X : List (Nat × Obj)} {g k : Nat} {o : Obj} (h : DomX X k) : DomX ((g, o) :: X) k := by
  obtain ⟨o', h⟩ := h
  exact ⟨o', List.mem_cons_of_mem _ h⟩
theorem DomX.here {X : List (Nat × Obj)} {g : Nat} {o : Obj} : DomX ((g, o) :: X) g := ⟨o, List.mem_cons_self⟩
theorem tcells_ones : ∀ l : List Th, ∀ u ∈ tcells l, u.oneCell' = true
  | [], u, h => by simp [tcells] at h
  | x :: l, u, h => by
    simp only [tcells, List.mem_cons] at h
    rcases h with rfl | rfl | rfl | rfl | h
    all_goals first
      | rfl
      | exact tcells_ones l u h
theorem tcells_at (l : List Th) (k : Nat) (h : k < l.length) : (tcells l)[k * 4]? = some (.int .i64 l[k].pr) ∧ (tcells l)[k * 4 + 1]? = some (.int .i64 l[k].bu) ∧ (tcells l)[k * 4 + 2]? = some (.int .i64 l[k].pe) ∧ (tcells l)[k * 4 + 3]? = some (.int .i64 l[k].dp) := tcells_get l k h
theorem TR.reads {w : World} {sa : Option Addr} {n c : Nat} {T : List Th} (h : TR w sa c T) (hn : T.length = n) (h0 : 0 < n) : Reads 0 w (.slice sa n c) n (tcells T) := by
  obtain ⟨g, off, rfl, hg, -⟩ := h.2.2 0 (by omega)
  refine .inr ⟨g, off, c, rfl, Nat.zero_le _, hg, by rw [← hn]; exact h.1, h.2.1, fun j hj => ?_⟩
  have hl := tcells_length T
  have hk : j / 4 < T.length := by omega
  obtain ⟨g', off', e, -, c0, c1, c2, c3⟩ := h.2.2 (j / 4) hk
  simp only [Option.some.injEq, Addr.mk.injEq, and_true] at e
  obtain ⟨rfl, rfl⟩ := e
  obtain ⟨d0, d1, d2, d3⟩ := tcells_get T (j / 4) hk
  have key : ∀ u v : Value, w.cell? ⟨g, off + j, none⟩ = some u → (tcells T)[j]? = some v → u = v → w.cell? ⟨g, off + j, none⟩ = some (tcells T)[j] := fun u v h1 h2 h3 => by
    rw [h1, h3, ← h2, List.getElem?_eq_getElem hj]
  have h4 : j % 4 = 0 ∨ j % 4 = 1 ∨ j % 4 = 2 ∨ j % 4 = 3 := by omega
  rcases h4 with h4 | h4 | h4 | h4
  · have ej : j / 4 * 4 = j := by omega
    rw [ej] at c0 d0
    exact key _ _ c0 d0 rfl
  · have ej : j / 4 * 4 + 1 = j := by omega
    rw [Nat.add_assoc, ej] at c1
    rw [ej] at d1
    exact key _ _ c1 d1 rfl
  · have ej : j / 4 * 4 + 2 = j := by omega
    rw [Nat.add_assoc, ej] at c2
    rw [ej] at d2
    exact key _ _ c2 d2 rfl
  · have ej : j / 4 * 4 + 3 = j := by omega
    rw [Nat.add_assoc, ej] at c3
    rw [ej] at d3
    exact key _ _ c3 d3 rfl
theorem TR.of_reads {S : Nat} {w : World} {sa : Option Addr} {n c : Nat} {T : List Th} (h : Reads S w (.slice sa n c) n (tcells T)) (hn : T.length = n) : TR w sa c T := by
  have hl := tcells_length T
  rcases h with ⟨h0, h1, h2⟩ | ⟨g, off, cap, hsv, _, hg, hc, hm, hx⟩
  · simp only [Value.slice.injEq] at h0
    obtain ⟨rfl, rfl, rfl⟩ := h0
    exact ⟨by omega, by decide, fun k hk => by omega⟩
  · simp only [Value.slice.injEq] at hsv
    obtain ⟨rfl, _, rfl⟩ := hsv
    refine ⟨by omega, hm, fun k hk => ?_⟩
    obtain ⟨d0, d1, d2, d3⟩ := tcells_get T k hk
    have key : ∀ j u, k * 4 + j < (tcells T).length → (tcells T)[k * 4 + j]? = some u → w.cell? ⟨g, off + k * 4 + j, none⟩ = some u := fun j u hj hu => by
      have := hx (k * 4 + j) hj
      rw [← Nat.add_assoc] at this
      rw [this, ← hu, List.getElem?_eq_getElem]
    exact ⟨g, off, rfl, hg, by simpa using key 0 _ (by omega) d0, key 1 _ (by omega) d1, key 2 _ (by omega) d2, key 3 _ (by omega) d3⟩
def sp0 (t : Th) : Sp := (.slice none 0 0, th0 t)
theorem wpList_copy0 {P : Program} {w : World} {ops : Array Oper} {rest : List Oper} {o : Oper} {a : Act} {Q : Exit → Act → World → Prop} (hgd : o.guard = none) (s x : Operand) (t : TypeId)
    (ho : o.op = .call { callee := .builtin .append, args := #[s, x], argTypes := #[t, t] })
    (e : TypeId) (i : TypeInfo) (ht : P.underlying t = some (.slice e)) (hi : P.info? e = some i)
    (g : Nat) (hs : a.eval s = .slice (some ⟨g, 0, none⟩) 0 0) (hb : blk w g = some (.cells #[] e)) (sa : Option Addr) (c : Nat) (hx : a.eval x = .slice sa 0 c)
    (h : wpList P ops Q rest (a.put o.dst (.slice (some ⟨g, 0, none⟩) 0 0)) w) : wpList P ops Q (o :: rest) a w := by
  refine wpList_plain hgd fun _ hK => ?_
  cases sa with
  | none =>
    have hr : (Builtin.append_ #[t, t] o.type #[.slice (some ⟨g, 0, none⟩) 0 0, .slice none 0 c]).run P w = .ok (.slice (some ⟨g, 0, none⟩) 0 0) w := by
      simp [Builtin.append_, run_underlying ht, Go.sizeOf, typeInfo, hi, Builtin.lenOf, Builtin.firstCells, storeCells]
    unfold Oper.wp execOp
    simp only [ho, resolve, invoke, builtin, Sem.run_bind, Sem.run_pure, Result.andThen_ok, List.map_toArray, List.map_cons, List.map_nil, hs, hx, hr]
    exact hK _ _ h
  | some ad =>
    have hr := run_append_room (P := P) (w := w) t o.type e i ht hi g 0 0 #[] hb ad 0 c [] (by simp) (by simp) (by simp) (by omega) (by simp)
    have hsame : ∀ z : Array Value, z = #[] → w.setRow g z = w := fun z hz => by subst hz; exact setRow_same hb
    rw [hsame _ (by simp)] at hr
    unfold Oper.wp execOp
    simp only [ho, resolve, invoke, builtin, Sem.run_bind, Sem.run_pure, Result.andThen_ok, List.map_toArray, List.map_cons, List.map_nil, hs, hx, hr]
    exact hK _ _ h
end Vg
namespace Go.Proofs.Ytiinhofmhoplfaa
open Go.ChangeShapes Go.WideShapes Go.ChangeAt Go.RowKit
section
variable {w w' : World} {S S' : Nat → Prop} {rs : List Vg.Wp} {v : Value}
variable {L : List Int} {sa : Option Addr} {sc n : Nat}
theorem rq_new_nox (hn : L.length = n) (hr : Vg.IR w sa sc L) (hn2 : n ≤ 4398046511104) (h : L.any Vg.oddW = true) :
    Calls Try.prog 17 #[.slice sa n sc] w fun e w' => e = .returned (.tuple #[.slice none 0 0, .bool false]) ∧ Vg.Grows w w' := by
  obtain ⟨i0, hI, hz0, hz1, hz2⟩ := info_parts Try.info_rqueue
  have hcm : n ≤ 9223372036854775807 := by omega
  obtain ⟨b0, hb0⟩ : ∃ b0, w.heap.size = b0 := ⟨_, rfl⟩
  have hb1 : b0 ≤ w.heap.size := by omega
  have hb2 : w.heap.size ≤ b0 := by omega
  have H_hn := Lib.hid hn; clear hn; have H_h := Lib.hid h; clear h; have H_hr := Lib.hid hr; clear hr; have H_hb0 := Lib.hid hb0; clear hb0
  go_enter Try.func17, Try.ntmps17
  go_wp2
  go_loopw [4, 9] (fun v i wr => ∃ k : Nat, k ≤ n ∧ i = .int .i64 k ∧ (L.take k).any Vg.oddW = false ∧ Vg.Grows w wr ∧ Vg.Que wr b0 48 3 v k (Vg.rqcells ((L.take k).map Vg.rq0))) (fun v i _ => n - (intOf i).toNat)
  case atStart => exact ⟨0, by omega, rfl, by simp, Vg.Grows.refl _, Vg.Que.nil _ _ _ _⟩
  case round =>
    obtain ⟨k, hk, rfl, hpre, hgr, hq⟩ := hrel
    by_cases hlt : k < n
    · have hkL : k < L.length := by rw [H_hn.out]; exact hlt
      obtain ⟨g, off, rfl, hg, hc, hm, hcell⟩ := H_hr.out.icell k hkL
      have hsn := List.take_succ_eq_append_getElem hkL
      obtain ⟨x, hx⟩ : ∃ x, L[k] = x := ⟨_, rfl⟩
      rw [hx] at hcell hsn
      have hcell := (hgr.below.cell (p := ⟨g, off + k, none⟩) hg).trans hcell
      have hgl : g < wr.heap.size := Nat.lt_of_lt_of_le hg hgr.size
      obtain ⟨va, vc, rfl⟩ := hq.shape
      have hszr := hgr.size
      by_cases h1 : x < 1
      · have H_hpre := Lib.hid hpre; clear hpre; have H_hsn := Lib.hid hsn; clear hsn; have H_hx := Lib.hid hx; clear hx; have H_hq := Lib.hid hq; clear hq
        go_wp2
        go_returns
        exact ⟨rfl, by (repeat' (first | (with_reducible exact Vg.Grows.refl _) | (with_reducible assumption) | (with_reducible refine Vg.Grows.alloc ?_ _) | (with_reducible refine Vg.Grows.plus ?_ _ _) | (with_reducible refine Vg.Grows.drewN ?_ _) | (with_reducible refine Vg.Grows.drew ?_) | (with_reducible refine Vg.Grows.setCell ?_ ?_ _) | (with_reducible refine Vg.Grows.put ?_ ?_ _) | omega | (simp; omega) | (simp; done)))⟩
      · by_cases h64 : 64 < x
        · have H_hpre := Lib.hid hpre; clear hpre; have H_hsn := Lib.hid hsn; clear hsn; have H_hx := Lib.hid hx; clear hx; have H_hq := Lib.hid hq; clear hq
          go_wp2
          go_returns
          exact ⟨rfl, by (repeat' (first | (with_reducible exact Vg.Grows.refl _) | (with_reducible assumption) | (with_reducible refine Vg.Grows.alloc ?_ _) | (with_reducible refine Vg.Grows.plus ?_ _ _) | (with_reducible refine Vg.Grows.drewN ?_ _) | (with_reducible refine Vg.Grows.drew ?_) | (with_reducible refine Vg.Grows.setCell ?_ ?_ _) | (with_reducible refine Vg.Grows.put ?_ ?_ _) | omega | (simp; omega) | (simp; done)))⟩
        · have hnx : (L.take (k + 1)).any Vg.oddW = false := by rw [hsn, List.any_append, hpre]; simp [Vg.oddW]; omega
          have H_hpre := Lib.hid hpre; clear hpre; have H_hsn := Lib.hid hsn; clear hsn; have H_hx := Lib.hid hx; clear hx; have H_hq := Lib.hid hq; clear hq; have H_hnx := Lib.hid hnx; clear hnx
          go_wp2_with (at_builtin; (refine Vg.wpList_que1 (w := _) rfl (.tmp 19) (.tmp 22) 30 rfl b0 48 i0 (.agg #[.int .i64 0, .slice none 0 0, .int .i64 0]) 3 40 Try.underlying30 hI hz0 hz1 hz2 rfl (by decide) (.slice va k vc) k _ rfl (H_hq.out.grows (by (repeat' (first | (with_reducible exact Vg.Grows.refl _) | (with_reducible assumption) | (with_reducible refine Vg.Grows.alloc ?_ _) | (with_reducible refine Vg.Grows.plus ?_ _ _) | (with_reducible refine Vg.Grows.drewN ?_ _) | (with_reducible refine Vg.Grows.drew ?_) | (with_reducible refine Vg.Grows.setCell ?_ ?_ _) | (with_reducible refine Vg.Grows.put ?_ ?_ _) | omega | (simp; omega) | (simp; done))))) _ 1 [.int .i64 x, .slice none 0 0, .int .i64 0] rfl rfl (Vg.three_new (by first | rfl | ((try simp only [World.size_alloc, Vg.plus_size, Vg.put_size, World.size_setCell, World.size_drew, World.heap_drewN]) <;> omega))) (by simp [Value.oneCell']) (by unfold maxLen; omega) (by omega) (by decide) (by simp only [World.size_alloc]; omega) ?_; intro v2 W1 y2 m2 hq2 hs2 ho2; obtain ⟨a2, c2, rfl⟩ := hq2.shape; have hgW := hs2.grows (hgr.alloc _) (fun j hj => by have := (H_hq.out.lt j hj).1; omega); have H_hq2 := Lib.hid hq2; clear hq2; have H_hs2 := Lib.hid hs2; clear hs2; have H_ho2 := Lib.hid ho2; clear ho2))
          refine ⟨⟨k + 1, by omega, by go_num, H_hnx.out, by (repeat' (first | (with_reducible exact Vg.Grows.refl _) | (with_reducible assumption) | (with_reducible refine Vg.Grows.alloc ?_ _) | (with_reducible refine Vg.Grows.plus ?_ _ _) | (with_reducible refine Vg.Grows.drewN ?_ _) | (with_reducible refine Vg.Grows.drew ?_) | (with_reducible refine Vg.Grows.setCell ?_ ?_ _) | (with_reducible refine Vg.Grows.put ?_ ?_ _) | omega | (simp; omega) | (simp; done))), ?_⟩, by simp [intOf]; omega⟩
          rw [H_hsn.out, List.map_append, Vg.rqcells_append]
          exact H_hq2.out
    · have e : L.any Vg.oddW = false := by rw [← hpre, List.take_of_length_le (by rw [H_hn.out]; omega)]
      rw [H_h.out] at e
      cases e
theorem rq_newx (hn : L.length = n) (hr : Vg.IR w sa sc L) (hn2 : n ≤ 4398046511104) (h : L.any Vg.oddW = false) {is : Bool} (his : decide (1 ≤ n ∧ n ≤ 64) = is) (hS : ∀ k, w.heap.size ≤ k → S k) :
    Calls Try.prog 17 #[.slice sa n sc] w fun e w' => ∃ a c, e = .returned (.tuple #[.slice a n c, .bool is]) ∧ RQ w' S (L.map Vg.rq0) (.slice a n c) ∧ Vg.Grows w w' := by
  obtain ⟨i0, hI, hz0, hz1, hz2⟩ := info_parts Try.info_rqueue
  have hcm : n ≤ 9223372036854775807 := by omega
  obtain ⟨b0, hb0⟩ : ∃ b0, w.heap.size = b0 := ⟨_, rfl⟩
  have hb1 : b0 ≤ w.heap.size := by omega
  have hb2 : w.heap.size ≤ b0 := by omega
  have hSb : ∀ k, b0 ≤ k → S k := by rw [← hb0]; exact hS
  clear hS
  have H_hn := Lib.hid hn; clear hn; have H_h := Lib.hid h; clear h; have H_hr := Lib.hid hr; clear hr; have H_hb0 := Lib.hid hb0; clear hb0; have H_his := Lib.hid his; clear his; have H_hSb := Lib.hid hSb; clear hSb
  go_enter Try.func17, Try.ntmps17
  go_wp2
  go_loopw [4, 9] (fun v i wr => ∃ k : Nat, k ≤ n ∧ i = .int .i64 k ∧ Vg.Grows w wr ∧ Vg.Que wr b0 48 3 v k (Vg.rqcells ((L.take k).map Vg.rq0))) (fun v i _ => n - (intOf i).toNat)
  case atStart => exact ⟨0, by omega, rfl, Vg.Grows.refl _, Vg.Que.nil _ _ _ _⟩
  case round =>
    obtain ⟨k, hk, rfl, hgr, hq⟩ := hrel
    by_cases hlt : k < n
    · have hkL : k < L.length := by rw [H_hn.out]; exact hlt
      obtain ⟨g, off, rfl, hg, hc, hm, hcell⟩ := H_hr.out.icell k hkL
      have hsn := List.take_succ_eq_append_getElem hkL
      obtain ⟨x, hx⟩ : ∃ x, L[k] = x := ⟨_, rfl⟩
      have ho : Vg.oddW x = false := by
        cases hh : Vg.oddW x with
        | false => rfl
        | true => rw [← H_h.out]; exact (List.any_eq_true.2 ⟨x, by rw [← hx]; exact List.getElem_mem _, hh⟩).symm
      simp only [Vg.oddW, Bool.or_eq_false_iff, decide_eq_false_iff_not] at ho
      obtain ⟨h1, h64⟩ := ho
      rw [hx] at hcell hsn
      have hcell := (hgr.below.cell (p := ⟨g, off + k, none⟩) hg).trans hcell
      have hgl : g < wr.heap.size := Nat.lt_of_lt_of_le hg hgr.size
      obtain ⟨va, vc, rfl⟩ := hq.shape
      have hszr := hgr.size
      have H_hsn := Lib.hid hsn; clear hsn; have H_hx := Lib.hid hx; clear hx; have H_hq := Lib.hid hq; clear hq
      go_wp2_with (at_builtin; (refine Vg.wpList_que1 (w := _) rfl (.tmp 19) (.tmp 22) 30 rfl b0 48 i0 (.agg #[.int .i64 0, .slice none 0 0, .int .i64 0]) 3 40 Try.underlying30 hI hz0 hz1 hz2 rfl (by decide) (.slice va k vc) k _ rfl (H_hq.out.grows (by (repeat' (first | (with_reducible exact Vg.Grows.refl _) | (with_reducible assumption) | (with_reducible refine Vg.Grows.alloc ?_ _) | (with_reducible refine Vg.Grows.plus ?_ _ _) | (with_reducible refine Vg.Grows.drewN ?_ _) | (with_reducible refine Vg.Grows.drew ?_) | (with_reducible refine Vg.Grows.setCell ?_ ?_ _) | (with_reducible refine Vg.Grows.put ?_ ?_ _) | omega | (simp; omega) | (simp; done))))) _ 1 [.int .i64 x, .slice none 0 0, .int .i64 0] rfl rfl (Vg.three_new (by first | rfl | ((try simp only [World.size_alloc, Vg.plus_size, Vg.put_size, World.size_setCell, World.size_drew, World.heap_drewN]) <;> omega))) (by simp [Value.oneCell']) (by unfold maxLen; omega) (by omega) (by decide) (by simp only [World.size_alloc]; omega) ?_; intro v2 W1 y2 m2 hq2 hs2 ho2; obtain ⟨a2, c2, rfl⟩ := hq2.shape; have hgW := hs2.grows (hgr.alloc _) (fun j hj => by have := (H_hq.out.lt j hj).1; omega); have H_hq2 := Lib.hid hq2; clear hq2; have H_hs2 := Lib.hid hs2; clear hs2; have H_ho2 := Lib.hid ho2; clear ho2))
      refine ⟨⟨k + 1, by omega, by go_num, by (repeat' (first | (with_reducible exact Vg.Grows.refl _) | (with_reducible assumption) | (with_reducible refine Vg.Grows.alloc ?_ _) | (with_reducible refine Vg.Grows.plus ?_ _ _) | (with_reducible refine Vg.Grows.drewN ?_ _) | (with_reducible refine Vg.Grows.drew ?_) | (with_reducible refine Vg.Grows.setCell ?_ ?_ _) | (with_reducible refine Vg.Grows.put ?_ ?_ _) | omega | (simp; omega) | (simp; done))), ?_⟩, by simp [intOf]; omega⟩
      rw [H_hsn.out, List.map_append, Vg.rqcells_append]
      exact H_hq2.out
    · have hkn : k = n := by omega
      subst hkn
      have htk : L.take k = L := List.take_of_length_le (by rw [H_hn.out]; exact Nat.le_refl _)
      rw [htk] at hq
      obtain ⟨va, vc, rfl⟩ := hq.shape
      have hRR : RQ wr S (L.map Vg.rq0) (.slice va k vc) := by
        have key : ∀ i (h : i < (L.map Vg.rq0).length), (L.map Vg.rq0)[i].1 = .slice none 0 0 ∧ (L.map Vg.rq0)[i].2.L = [] := fun i h => by rw [List.getElem_map]; exact ⟨rfl, rfl⟩
        have hl : (L.map Vg.rq0).length = k := by rw [List.length_map, H_hn.out]
        refine ⟨⟨va, vc, by rw [hl]⟩, by rw [hl]; exact Vg.ReadsP.of_new hq.reads (fun j hj => H_hSb.out j hj), fun i h => ?_, fun i h => ?_⟩
        · rw [(key i h).1, (key i h).2]; exact ⟨none, 0, rfl⟩
        · rw [(key i h).1, (key i h).2]; exact Vg.ReadsP.nil _
      have H_hRR := Lib.hid hRR; clear hRR; have H_hq := Lib.hid hq; clear hq; have H_htk := Lib.hid htk; clear htk
      by_cases h1 : 1 ≤ k
      · by_cases h64 : k ≤ 64
        · have hik : true = is := by rw [← H_his.out]; simp; omega
          subst hik
          go_wp2
          go_returns
          exact ⟨va, vc, (by simp; omega), H_hRR.out, hgr⟩
        · have hik : false = is := by rw [← H_his.out]; simp; omega
          subst hik
          go_wp2
          go_returns
          exact ⟨va, vc, (by simp; omega), H_hRR.out, hgr⟩
      · have hik : false = is := by rw [← H_his.out]; simp; omega
        subst hik
        go_wp2
        go_returns
        exact ⟨va, vc, rfl, H_hRR.out, hgr⟩
end
theorem Try.info_athread : (Try.prog.info? 102).map (fun i => (i.zero, i.size, i.bytes)) = some (some (.agg #[.int .i64 0, .int .i64 0, .int .i64 0, .int .i64 0]), 4, 32) := by kernel_rfl
/-- What New makes: the copy of the threads, servers, depths; X: boxes beside. -/
structure NRB (W : World) (B0 B : Nat) (vt vs vd : Value) (n : Nat) (T : List Vg.Th) (ps : List Vg.Sp) (L : List Int) (X : List (Nat × Obj)) : Prop where
  qt : Vg.Que W B0 102 4 vt n (Vg.tcells T)
  lt : ∀ k, vt.ownBlock = some k → k < B
  qs : Vg.Que W B 179 4 vs ps.length (Vg.scells ps)
  qd : Vg.Que W B 3 1 vd L.length (Vg.ics L)
  ds : ∀ k, vs.ownBlock = some k → vd.ownBlock ≠ some k
  has : Vg.HasX X W
  off : ∀ q, Vg.DomX X q → vt.ownBlock ≠ some q ∧ vs.ownBlock ≠ some q ∧ vd.ownBlock ≠ some q
section
variable {w w' W W2 : World} {B0 B bx n : Nat} {vt vs vd v2 : Value} {T : List Vg.Th} {ps : List Vg.Sp} {L : List Int} {X : List (Nat × Obj)}
theorem NRB.start (ht : Vg.Que W B0 102 4 vt n (Vg.tcells T)) (hl : ∀ k, vt.ownBlock = some k → k < B) (h : Vg.HasX X W) (ho : ∀ q, Vg.DomX X q → vt.ownBlock ≠ some q) : NRB W B0 B vt (.slice none 0 0) (.slice none 0 0) n T [] [] X :=
  ⟨ht, hl, Vg.Que.nil _ _ _ _, Vg.Que.nil _ _ _ _, by simp [Value.ownBlock], h, fun q hq => ⟨ho q hq, by simp [Value.ownBlock], by simp [Value.ownBlock]⟩⟩
theorem NRB.grows (h : NRB W B0 B vt vs vd n T ps L X) (hg : Vg.Grows W W2) : NRB W2 B0 B vt vs vd n T ps L X :=
  ⟨h.qt.grows hg, h.lt, h.qs.grows hg, h.qd.grows hg, h.ds, fun p hp => hg.blk (h.has p hp), h.off⟩
theorem NRB.blt (h : NRB W B0 B vt vs vd n T ps L X) : ∀ q, Vg.DomX X q → q < W.heap.size := fun q ⟨o, hq⟩ => Vg.lt_of (h.has _ hq)
theorem NRB.put {o o' : Obj} (h : NRB W B0 B vt vs vd n T ps L ((bx, o) :: X)) (hX : ∀ p ∈ X, p.1 ≠ bx) : NRB (Vg.put W bx o') B0 B vt vs vd n T ps L ((bx, o') :: X) := by
  have hd := h.off bx Vg.DomX.here
  have hlt := Vg.lt_of (h.has (bx, o) List.mem_cons_self)
  refine ⟨h.qt.kept fun q hq => Vg.put_heap_other fun hh => hd.1 (hh ▸ hq), h.lt, h.qs.kept fun q hq => Vg.put_heap_other fun hh => hd.2.1 (hh ▸ hq), h.qd.kept fun q hq => Vg.put_heap_other fun hh => hd.2.2 (hh ▸ hq), h.ds, fun p hp => ?_, fun q hq => h.off q ?_⟩
  · rcases List.mem_cons.1 hp with rfl | hp
    · exact Vg.put_heap_same hlt
    · exact (Vg.put_heap_other fun hh => hX p hp hh.symm).trans (h.has p (List.mem_cons_of_mem _ hp))
  · rcases hq.cons with rfl | hq
    · exact Vg.DomX.here
    · exact hq.there
theorem NRB.apps {x : Vg.Sp} {news : List Value} (h : NRB W B0 B vt vs vd n T ps L X) (hB : B ≤ W.heap.size) (ht : Vg.Touch (fun q => vs.ownBlock = some q) W W2) (hn : Vg.scells [x] = news) (hq : Vg.Que W2 B 179 4 v2 (ps.length + 1) (Vg.scells ps ++ news)) (ho : v2.ownBlock = vs.ownBlock ∨ ∀ q, v2.ownBlock = some q → W.heap.size ≤ q) : NRB W2 B0 B vt v2 vd n T (ps ++ [x]) L X := by
  subst hn
  have hc : ∀ q, v2.ownBlock = some q → vs.ownBlock = some q ∨ W.heap.size ≤ q := fun q hq => ho.imp (fun h1 => h1.symm.trans hq) fun h1 => h1 q hq
  refine ⟨h.qt.kept fun k hk => ht.block k (h.qt.lt k hk).2 fun hh => by have := h.lt k hk; have := (h.qs.lt k hh).1; omega, h.lt, by rw [List.length_append, Vg.scells_append]; exact hq, h.qd.kept fun k hk => ht.block k (h.qd.lt k hk).2 fun hh => h.ds k hh hk, fun k hk hh => ?_, fun p hp => (ht.block p.1 (Vg.lt_of (h.has p hp)) (h.off p.1 ⟨p.2, hp⟩).2.1).trans (h.has p hp), fun q hq => ⟨(h.off q hq).1, fun hh => ?_, (h.off q hq).2.2⟩⟩
  · rcases hc k hk with h1 | h1
    · exact h.ds k h1 hh
    · have := (h.qd.lt k hh).2; omega
  · rcases hc q hh with h1 | h1
    · exact (h.off q hq).2.1 h1
    · have := h.blt q hq; omega
theorem NRB.appd {d : Int} (h : NRB W B0 B vt vs vd n T ps L X) (hB : B ≤ W.heap.size) (ht : Vg.Touch (fun q => vd.ownBlock = some q) W W2) (hq : Vg.Que W2 B 3 1 v2 (L.length + 1) (Vg.ics L ++ [.int .i64 d])) (ho : v2.ownBlock = vd.ownBlock ∨ ∀ q, v2.ownBlock = some q → W.heap.size ≤ q) : NRB W2 B0 B vt vs v2 n T ps (L ++ [d]) X := by
  have hc : ∀ q, v2.ownBlock = some q → vd.ownBlock = some q ∨ W.heap.size ≤ q := fun q hq => ho.imp (fun h1 => h1.symm.trans hq) fun h1 => h1 q hq
  refine ⟨h.qt.kept fun k hk => ht.block k (h.qt.lt k hk).2 fun hh => by have := h.lt k hk; have := (h.qd.lt k hh).1; omega, h.lt, h.qs.kept fun k hk => ht.block k (h.qs.lt k hk).2 fun hh => h.ds k hk hh, by rw [List.length_append]; simpa [Vg.ics] using hq, fun k hk hh => ?_, fun p hp => (ht.block p.1 (Vg.lt_of (h.has p hp)) (h.off p.1 ⟨p.2, hp⟩).2.2).trans (h.has p hp), fun q hq => ⟨(h.off q hq).1, (h.off q hq).2.1, fun hh => ?_⟩⟩
  · rcases hc k hh with h1 | h1
    · exact h.ds k hk h1
    · have := (h.qs.lt k hk).2; omega
  · rcases hc q hh with h1 | h1
    · exact (h.off q hq).2.2 h1
    · have := h.blt q hq; omega
theorem rb_of {S S' : Nat → Prop} {rs : List Vg.Wp} {ta sa wa : Option Addr} {tc sc wc q : Nat} (hn : T.length = n) (ht : Vg.Que W B0 102 4 (.slice ta n tc) n (Vg.tcells T)) (hs : Vg.Que W B 179 4 (.slice sa n sc) n (Vg.scells (T.map Vg.sp0))) (hB : B0 ≤ B) (hw : RQ W S' rs (.slice wa q wc)) (hq : rs.length = q) (hS' : ∀ k, S' k → S k) (hS : ∀ k, B0 ≤ k → k < W.heap.size → S k) : RB S W (.agg #[.slice ta n tc, .slice sa n sc, .slice wa q wc]) (T.map Vg.sp0) rs := by
  subst hq
  have e1 : (T.map Vg.sp0).length = n := by rw [List.length_map]; exact hn
  have e2 : (T.map Vg.sp0).map (·.2.t) = T := by rw [List.map_map]; exact List.map_id' ..
  refine ⟨⟨ta, tc, sa, sc, wa, wc, by rw [e1], by rw [e2]; exact Vg.TR.of_reads ht.reads hn, fun k hk => ?_, ?_, hw.mono hS'⟩, fun i hi => ?_⟩
  · rw [e1] at hk
    obtain ⟨h1, h2⟩ := ht.lt k hk
    exact hS k h1 h2
  · rw [e1]
    refine ⟨hs.reads.weaken (Nat.zero_le _), fun k hk => ?_⟩
    obtain ⟨h1, h2⟩ := hs.lt k hk
    exact hS k (by omega) h2
  · rw [List.getElem_map]
    exact ⟨⟨none, 0, rfl, Vg.Reads.nil _ _⟩, fun k hk => by simp [Vg.sp0, Value.ownBlock] at hk⟩
end
end Go.Proofs.Ytiinhofmhoplfaa
