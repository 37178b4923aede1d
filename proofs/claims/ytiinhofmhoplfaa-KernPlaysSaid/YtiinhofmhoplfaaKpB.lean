/- KernPlays: KernCa, KernCp, KernMv (wip/bin/merge.py puts them together: a claim has at most 60 files). -/
import Derived.Test.YtiinhofmhoplfaaBotN
import Derived.Test.YtiinhofmhoplfaaKpA
set_option linter.unusedSimpArgs false
set_option linter.unusedVariables false
set_option maxHeartbeats 40000000
set_option maxRecDepth 100000
namespace Vg
open Go Go.RowKit
/-- z begins with news, m elements of so many cells, and has room for c. -/
structure Cpy (z : Array Value) (size m c : Nat) (news : List Value) : Prop where
  l : news.length = m * size
  c1 : m ≤ c
  c2 : c ≤ maxLen
  c3 : c * size ≤ z.size
  tk : z.toList.take (m * size) = news
theorem Cpy.que {w : World} {z : Array Value} {size m c B g : Nat} {e : TypeId} {news : List Value} (h : Cpy z size m c news) (hb : blk w g = some (.cells z e)) (hB : B ≤ g) : Que w B e size (.slice (some ⟨g, 0, none⟩) m c) m news :=
  ⟨h.l, .inr ⟨g, 0, c, z, rfl, hB, hb, h.c1, h.c2, by rw [Nat.zero_add]; exact h.c3, by simpa using h.tk⟩⟩
theorem setRow_same {w : World} {g : Nat} {cur : Array Value} {t : TypeId} {fr : Nat × Nat} (hg : w.heap[g]? = some (.cells cur t fr)) : w.setRow g cur = w := by
  unfold World.setRow
  have : w.heap.modify g (fun | .cells _ elem frozen => .cells cur elem frozen | o => o) = w.heap := by
    apply Array.ext
    · simp
    · intro i h1 h2
      rw [Array.getElem_modify]
      split
      · rename_i hgi
        subst hgi
        have := (Array.getElem?_eq_some_iff.1 hg).2
        rw [this]
      · rfl
  exact congrArg (fun h => { w with heap := h }) this
section
variable {P : Program} {ops : Array Oper} {o : Oper} {a : Act} {w : World} {K : Act → World → Prop} {Q : Exit → Act → World → Prop} {E : Prop}
/-- Of m > 0 elements: a new block. -/
theorem step_copy (hg : o.guard = none) (s x : Operand) (t : TypeId) (hop : o.op = Op.call { callee := Callee.builtin Builtin.append, args := #[s, x], argTypes := #[t, t] })
    (e : TypeId) (i : TypeInfo) (z : Value) (size bytes : Nat) (ht : P.underlying t = some (.slice e)) (hi : P.info? e = some i) (hz : i.zero = some z)
    (hsize : i.size = size) (hby : i.bytes = bytes) (hzs : z.cells.size = size)
    (b : Addr) (hs : a.eval s = .slice (some b) 0 0) (S : Nat) (sa : Option Addr) (m c : Nat) (news : List Value) (hx : a.eval x = .slice sa m c) (hr : Reads S w (.slice sa m c) m news) (hl : news.length = m * size) (hm : 0 < m)
    (h63 : m ≤ maxLen) (hbytes : m * bytes ≤ 140737488355328)
    (hK : ∀ c' zc g', g' = w.heap.size → Cpy zc size m c' news → K (a.put o.dst (.slice (some ⟨g', 0, none⟩) m c')) (w.drew.alloc (.cells zc e))) :
    if Region.wanted o (yielded ops a.tmps) = true then Oper.wp P o a w K Q else E := by
  have hw : Region.wanted o (yielded ops a.tmps) = true := by simp [Region.wanted, hg]
  rw [if_pos hw]
  subst hsize hby
  rcases hr with ⟨h0, h1, h2⟩ | ⟨g, off, cap, hsv, _, _, _, _, hc⟩
  · omega
  · simp only [Value.slice.injEq] at hsv
    obtain ⟨rfl, _, rfl⟩ := hsv
    have hr := run_append_grow (P := P) (w := w) t o.type e i z ht hi hz b 0 0 [] (by simp) (by simp) ⟨g, off, none⟩ m c news hl (Reads.news hc) (by omega) (by simp only [maxLen] at h63; omega) (growslice_fits (by omega) (by rw [Nat.zero_add]; exact hbytes))
    simp only [Nat.zero_add] at hr
    have hge := grownCap_ge w m 0 e
    have hcm' : grownCap w m 0 e ≤ maxLen := grownCap_le_maxLen w m 0 e h63
    unfold Oper.wp
    simp only [execOp, hop, resolve, invoke, builtin, Sem.run_bind, Sem.run_pure, Result.andThen_ok, List.map_toArray, List.map_cons, List.map_nil, hs, hx, hr]
    refine hK _ _ _ rfl ⟨hl, hge, hcm', ?_, ?_⟩
    · simp only [Array.size_append, List.size_toArray, List.length_nil, size_zeroCells, hzs, hl, ← Nat.add_mul, Nat.zero_add]
      exact Nat.mul_le_mul_right _ (by omega)
    · simp only [Array.toList_append, List.nil_append]
      rw [← hl]
      exact List.take_left
/-- Of none: nothing is done. -/
theorem step_copy0 (hg : o.guard = none) (s x : Operand) (t : TypeId) (hop : o.op = Op.call { callee := Callee.builtin Builtin.append, args := #[s, x], argTypes := #[t, t] })
    (e : TypeId) (i : TypeInfo) (ht : P.underlying t = some (.slice e)) (hi : P.info? e = some i)
    (g : Nat) (hs : a.eval s = .slice (some ⟨g, 0, none⟩) 0 0) (hb : blk w g = some (.cells #[] e)) (sa : Option Addr) (c : Nat) (hx : a.eval x = .slice sa 0 c)
    (hK : K (a.put o.dst (.slice (some ⟨g, 0, none⟩) 0 0)) w) :
    if Region.wanted o (yielded ops a.tmps) = true then Oper.wp P o a w K Q else E := by
  have hw : Region.wanted o (yielded ops a.tmps) = true := by simp [Region.wanted, hg]
  rw [if_pos hw]
  cases sa with
  | none =>
    have hr : (Builtin.append_ #[t, t] o.type #[.slice (some ⟨g, 0, none⟩) 0 0, .slice none 0 c]).run P w = .ok (.slice (some ⟨g, 0, none⟩) 0 0) w := by
      simp [Builtin.append_, run_underlying ht, Go.sizeOf, typeInfo, hi, Builtin.lenOf, Builtin.firstCells, storeCells]
    unfold Oper.wp
    simp only [execOp, hop, resolve, invoke, builtin, Sem.run_bind, Sem.run_pure, Result.andThen_ok, List.map_toArray, List.map_cons, List.map_nil, hs, hx, hr]
    exact hK
  | some ad =>
    have hr := run_append_room (P := P) (w := w) t o.type e i ht hi g 0 0 #[] hb ad 0 c [] (by simp) (by simp) (by simp) (by omega) (by simp)
    have hsame : ∀ z : Array Value, z = #[] → w.setRow g z = w := fun z hz => by subst hz; exact setRow_same hb
    rw [hsame _ (by simp)] at hr
    unfold Oper.wp
    simp only [execOp, hop, resolve, invoke, builtin, Sem.run_bind, Sem.run_pure, Result.andThen_ok, List.map_toArray, List.map_cons, List.map_nil, hs, hx, hr]
    exact hK
end
end Vg
namespace Vg
open Go
theorem JR.reads {w : World} {u : Option Addr} {N uc : Nat} {J : List Jb} (h : JR w (.slice u N uc) J) (hN : J.length = N) (h0 : 0 < N) : Reads 0 w (.slice u N uc) N (jcells J) := by
  obtain ⟨a, c, he, h1, h2, h3⟩ := h
  simp only [Value.slice.injEq] at he
  obtain ⟨rfl, -, rfl⟩ := he
  obtain ⟨g, off, rfl, hg, -⟩ := h3 0 (by omega)
  refine .inr ⟨g, off, _, rfl, Nat.zero_le _, hg, by omega, h2, fun j hj => ?_⟩
  have hl := jcells_length J
  have hk : j / 3 < J.length := by omega
  obtain ⟨g', off', e, -, c0, c1, c2⟩ := h3 (j / 3) hk
  simp only [Option.some.injEq, Addr.mk.injEq, and_true] at e
  obtain ⟨rfl, rfl⟩ := e
  obtain ⟨d0, d1, d2⟩ := jcells_get J (j / 3) hk
  have hu : (jcells J)[j]? = some (jcells J)[j] := List.getElem?_eq_getElem hj
  obtain ⟨v, hv⟩ : ∃ v, (jcells J)[j] = v := ⟨_, rfl⟩
  rw [hv] at hu ⊢
  have hr : j = j / 3 * 3 ∨ j = j / 3 * 3 + 1 ∨ j = j / 3 * 3 + 2 := by omega
  rcases hr with e | e | e
  · rw [← e] at c0 d0
    rw [c0, ← d0, hu]
  · rw [← e] at d1
    rw [show off + j = off + j / 3 * 3 + 1 from by omega, c1, ← d1, hu]
  · rw [← e] at d2
    rw [show off + j = off + j / 3 * 3 + 2 from by omega, c2, ← d2, hu]
end Vg
namespace Go.Proofs.Ytiinhofmhoplfaa
open Go.ChangeShapes Go.WideShapes Go.ChangeAt Go.RowKit
theorem Try.info_rkern : (Try.prog.info? 112).map (fun i => (i.zero, i.size, i.bytes)) = some (some (.agg #[.slice none 0 0, .slice none 0 0, .slice none 0 0, .slice none 0 0]), 4, 96) := by kernel_rfl
theorem Try.info_rjob : (Try.prog.info? 205).map (fun i => (i.zero, i.size, i.bytes)) = some (some (.agg #[.int .i64 0, .int .i64 0, .int .i64 0]), 3, 24) := by kernel_rfl
theorem Try.info_rjobs : (Try.prog.info? 120).map (fun i => (i.zero, i.size, i.bytes)) = some (some (.slice none 0 0), 1, 24) := by kernel_rfl
theorem Try.info_rbool : (Try.prog.info? 4).map (fun i => (i.zero, i.size, i.bytes)) = some (some (.bool false), 1, 1) := by kernel_rfl
theorem Try.info_rint : (Try.prog.info? 3).map (fun i => (i.zero, i.size, i.bytes)) = some (some (.int .i64 0), 1, 8) := by kernel_rfl
/-- A box that holds a kern of the document. -/
abbrev rvC (v1 v2 v3 v4 : Value) : Obj := .cells #[v1, v2, v3, v4] 112
/-- The rows copied so far. -/
structure CL (W : World) (B : Nat) (vj : Value) (us : List Value) (k : Nat) (K : List Vg.Kt) (X : List (Nat × Obj)) : Prop where
  ul : us.length = k
  qj : Vg.Que W B 120 1 vj k us
  row : ∀ i (h : i < us.length) (h' : i < K.length), Vg.Que W B 205 3 us[i] K[i].J.length (Vg.jcells K[i].J)
  ush : ∀ i (h : i < us.length), ∃ a n c, us[i] = .slice a n c
  dju : ∀ i (h : i < us.length) q, us[i].ownBlock = some q → vj.ownBlock ≠ some q
  duu : ∀ i j (h : i < us.length) (h' : j < us.length), i ≠ j → ∀ q, us[i].ownBlock = some q → us[j].ownBlock ≠ some q
  has : Vg.Has X W
  off : ∀ q, Vg.Dom X q → vj.ownBlock ≠ some q ∧ ∀ i (h : i < us.length), us[i].ownBlock ≠ some q
section
variable {W W1 W2 W3 : World} {B k bx : Nat} {vj vj2 u : Value} {us : List Value} {K : List Vg.Kt} {X Y : List (Nat × Obj)}
theorem CL.start (hX : Vg.Has X W) : CL W B (.slice none 0 0) [] 0 K X :=
  ⟨rfl, Vg.Que.nil _ _ _ _, fun i h => by simp at h, fun i h => by simp at h, fun i h => by simp at h, fun i j h => by simp at h, hX, fun q _ => ⟨by simp [Value.ownBlock], fun i h => by simp at h⟩⟩
theorem CL.grows (h : CL W B vj us k K X) (hg : Vg.Grows W W1) : CL W1 B vj us k K X :=
  ⟨h.ul, h.qj.grows hg, fun i hi hi' => (h.row i hi hi').grows hg, h.ush, h.dju, h.duu, fun p hp => hg.blk (h.has p hp), h.off⟩
/-- A box that lies apart is another one. -/
theorem CL.put {o o' : Obj} (h : CL W B vj us k K ((bx, o) :: X)) (hX : ∀ p ∈ X, p.1 ≠ bx) : CL (Vg.put W bx o') B vj us k K ((bx, o') :: X) := by
  have hd := h.off bx Vg.Dom.here
  have hlt := Vg.lt_of (h.has (bx, o) List.mem_cons_self)
  refine ⟨h.ul, h.qj.kept fun q hq => Vg.put_heap_other fun hh => hd.1 (hh ▸ hq), fun i hi hi' => (h.row i hi hi').kept fun q hq => Vg.put_heap_other fun hh => hd.2 i hi (hh ▸ hq), h.ush, h.dju, h.duu, fun p hp => ?_, fun q hq => h.off q ?_⟩
  · rcases List.mem_cons.1 hp with rfl | hp
    · exact Vg.put_heap_same hlt
    · exact (Vg.put_heap_other fun hh => hX p hp hh.symm).trans (h.has p (List.mem_cons_of_mem _ hp))
  · rcases hq.cons with rfl | hq
    · exact Vg.Dom.here
    · exact hq.there
theorem CL.app (h : CL W B vj us k K X) (hk : k < K.length) (hg : Vg.Grows W W1) (hu : Vg.Que W1 B 205 3 u K[k].J.length (Vg.jcells K[k].J)) (hnew : ∀ q, u.ownBlock = some q → W.heap.size ≤ q)
    (ht : Vg.Touch (fun q => vj.ownBlock = some q) W1 W2) (hq : Vg.Que W2 B 120 1 vj2 (k + 1) (us ++ [u])) (ho : vj2.ownBlock = vj.ownBlock ∨ ∀ q, vj2.ownBlock = some q → W1.heap.size ≤ q) : CL W2 B vj2 (us ++ [u]) (k + 1) K X := by
  have hul := h.ul
  have hjl := h.qj.lt
  have hsz := hg.size
  have hrl : ∀ i (hi : i < us.length) q, us[i].ownBlock = some q → q < W.heap.size := fun i hi q hq => ((h.row i hi (by omega)).lt q hq).2
  have hXl : ∀ q, Vg.Dom X q → q < W.heap.size := fun q ⟨o, hq⟩ => Vg.lt_of (h.has _ hq)
  have hlast : ∀ (hi : us.length < (us ++ [u]).length), (us ++ [u])[us.length] = u := fun hi => by simp
  have hold : ∀ i (hi : i < us.length) (hi' : i < (us ++ [u]).length), (us ++ [u])[i] = us[i] := fun i hi hi' => List.getElem_append_left hi
  have huj : ∀ q, u.ownBlock = some q → vj.ownBlock ≠ some q := fun q h1 h2 => by have := hnew q h1; have := (hjl q h2).2; omega
  have hcase : ∀ q, vj2.ownBlock = some q → vj.ownBlock = some q ∨ W1.heap.size ≤ q := fun q hq => by
    rcases ho with h1 | h1
    · exact .inl (h1 ▸ hq)
    · exact .inr (h1 q hq)
  refine ⟨by simp [hul], hq, fun i hi hi' => ?_, fun i hi => ?_, fun i hi q hq1 hq2 => ?_, fun i j hi hj hij q hq1 hq2 => ?_, fun p hp => ?_, fun q hq => ⟨fun hh => ?_, fun i hi hh => ?_⟩⟩
  · by_cases hiu : i < us.length
    · rw [hold i hiu hi]
      exact ((h.row i hiu hi').grows hg).kept fun q hq => ht.block q (((h.row i hiu hi').grows hg).lt q hq).2 (h.dju i hiu q hq)
    · have : i = us.length := by simp at hi; omega
      subst this
      rw [hlast]
      have e : us.length = k := hul
      have e2 : K[us.length] = K[k] := by simp only [e]
      rw [e2]
      exact hu.kept fun q hq => ht.block q (hu.lt q hq).2 (huj q hq)
  · by_cases hiu : i < us.length
    · rw [hold i hiu hi]; exact h.ush i hiu
    · have : i = us.length := by simp at hi; omega
      subst this
      rw [hlast]
      obtain ⟨a, c, e⟩ := hu.shape
      exact ⟨a, _, c, e⟩
  · have hqu : (∃ hiu : i < us.length, us[i].ownBlock = some q) ∨ u.ownBlock = some q := by
      by_cases hiu : i < us.length
      · rw [hold i hiu hi] at hq1; exact .inl ⟨hiu, hq1⟩
      · have : i = us.length := by simp at hi; omega
        subst this
        rw [hlast] at hq1; exact .inr hq1
    rcases hqu with ⟨hiu, hq1⟩ | hq1
    · rcases hcase q hq2 with h2 | h2
      · exact h.dju i hiu q hq1 h2
      · have := hrl i hiu q hq1; omega
    · rcases hcase q hq2 with h2 | h2
      · exact huj q hq1 h2
      · have := (hu.lt q hq1).2; omega
  · by_cases hiu : i < us.length
    · rw [hold i hiu hi] at hq1
      by_cases hju : j < us.length
      · rw [hold j hju hj] at hq2; exact h.duu i j hiu hju hij q hq1 hq2
      · have : j = us.length := by simp at hj; omega
        subst this
        rw [hlast] at hq2
        have := hnew q hq2; have := hrl i hiu q hq1; omega
    · have : i = us.length := by simp at hi; omega
      subst this
      rw [hlast] at hq1
      by_cases hju : j < us.length
      · rw [hold j hju hj] at hq2
        have := hnew q hq1; have := hrl j hju q hq2; omega
      · have : j = us.length := by simp at hj; omega
        omega
  · have hp1 := hg.blk (h.has p hp)
    exact (ht.block p.1 (Vg.lt_of hp1) (h.off p.1 ⟨p.2, hp⟩).1).trans hp1
  · rcases hcase q hh with h2 | h2
    · exact (h.off q hq).1 h2
    · have := hXl q hq; omega
  · by_cases hiu : i < us.length
    · rw [hold i hiu hi] at hh; exact (h.off q hq).2 i hiu hh
    · have : i = us.length := by simp at hi; omega
      subst this
      rw [hlast] at hh
      have := hnew q hh; have := hXl q hq; omega
/-- The end: the copy, and the result's box. -/
theorem CL.fo {ta : Option Addr} {tc n lg lc og oc t2 : Nat} {zl zo : Array Value} {o' : Obj} (h : CL W B vj us n K X) (hn : K.length = n) (ht : Vg.TK W ta tc (K.map (·.t))) (hlo : ∀ g off, ta = some ⟨g, off, none⟩ → g < B) (htt : ∀ off, ta ≠ some ⟨t2, off, none⟩)
    (hl : (lg, Obj.cells zl 3) ∈ X) (hcl : Vg.Cpy zl 1 n lc (K.map fun x => .int .i64 x.lost)) (ho : (og, Obj.cells zo 4) ∈ X) (hco : Vg.Cpy zo 1 n oc (K.map fun x => .bool x.out)) (hBl : B ≤ lg) (hBo : B ≤ og) (hlgo : lg ≠ og) (h2 : Vg.Dom X t2) (h2l : t2 ≠ lg) (h2o : t2 ≠ og) :
    FO (Vg.put W t2 o') B ta tc n vj (.slice (some ⟨lg, 0, none⟩) n lc) (.slice (some ⟨og, 0, none⟩) n oc) us K := by
  have hT : Vg.Touch (fun k => k = t2) W (Vg.put W t2 o') := Vg.Touch.put (t := fun k => k = t2) (Vg.Touch.refl _ _) rfl _
  have e2 := h.off t2 h2
  have el := h.off lg ⟨_, hl⟩
  have eo := h.off og ⟨_, ho⟩
  have hql := (Vg.Cpy.que hcl (h.has _ hl) hBl).kept (w' := Vg.put W t2 o') fun k hk => Vg.put_heap_other (by have : lg = k := (by simpa [Value.ownBlock] using hk); omega)
  have hqo := (Vg.Cpy.que hco (h.has _ ho) hBo).kept (w' := Vg.put W t2 o') fun k hk => Vg.put_heap_other (by have : og = k := (by simpa [Value.ownBlock] using hk); omega)
  have ol : ∀ {k : Nat}, (Value.slice (some ⟨lg, 0, none⟩) n lc).ownBlock = some k → lg = k := fun hk => by simpa [Value.ownBlock] using hk
  have oo : ∀ {k : Nat}, (Value.slice (some ⟨og, 0, none⟩) n oc).ownBlock = some k → og = k := fun hk => by simpa [Value.ownBlock] using hk
  refine ⟨hn, ht.kept hT (fun k hk off => by subst hk; exact htt off), hlo, h.ul, h.qj.kept fun k hk => Vg.put_heap_other fun hh => e2.1 (hh ▸ hk), hql, hqo, fun i hi hi' => (h.row i hi hi').kept fun k hk => Vg.put_heap_other fun hh => e2.2 i hi (hh ▸ hk), fun k hk hh => ?_, fun k hk hh => ?_, fun k hk hh => ?_, h.dju, fun i hi k hk hh => ?_, fun i hi k hk hh => ?_, h.duu⟩
  · have := ol hh; subst this; exact el.1 hk
  · have := oo hh; subst this; exact eo.1 hk
  · have := ol hk; have := oo hh; omega
  · have := ol hh; subst this; exact el.2 i hi hk
  · have := oo hh; subst this; exact eo.2 i hi hk
end
section
variable {w w' : World} {K : List Vg.Kt} {n : Nat} {ta ja la oa : Option Addr} {tc jc lc oc : Nat}
theorem rf_copy (h : Vg.FK w (.agg #[.slice ta n tc, .slice ja n jc, .slice la n lc, .slice oa n oc]) K) (hn : K.length = n) (h0 : 0 < n) (h32 : n ≤ 32) (hJ : ∀ x ∈ K, x.J.length ≤ 16) :
    Calls Try.prog 136 #[.agg #[.slice ta n tc, .slice ja n jc, .slice la n lc, .slice oa n oc]] w fun e w' => ∃ jg jo jc' lg lo lc' og oo oc' us, e = .returned (.agg #[.slice ta n tc, .slice (some ⟨jg, jo, none⟩) n jc', .slice (some ⟨lg, lo, none⟩) n lc', .slice (some ⟨og, oo, none⟩) n oc']) ∧
      FO w' w.heap.size ta tc n (.slice (some ⟨jg, jo, none⟩) n jc') (.slice (some ⟨lg, lo, none⟩) n lc') (.slice (some ⟨og, oo, none⟩) n oc') us K ∧ (∀ i (hi : i < us.length), ∃ a m c, us[i] = .slice a m c) ∧ Vg.Grows w w' := by
  obtain ⟨us0, -, htk, hul, hvj, hrow, hvl, hvo⟩ := h.parts
  obtain ⟨i0, hI, hz0, hz1, hz2⟩ := info_parts Try.info_rint
  obtain ⟨j0, hJJ, hy0, hy1, hy2⟩ := info_parts Try.info_rbool
  have hrl : Vg.Reads 0 w (.slice la n lc) n (K.map fun x => .int .i64 x.lost) := by
    obtain ⟨g, off, rfl, hg, _⟩ := hvl.2.2 0 (by simp; omega)
    refine .inr ⟨g, off, lc, rfl, Nat.zero_le _, hg, by have := hvl.1; simp at this; omega, hvl.2.1, fun j hj => ?_⟩
    obtain ⟨g', off', e, _, hc⟩ := hvl.2.2 j hj
    simp only [Option.some.injEq, Addr.mk.injEq, and_true] at e
    obtain ⟨rfl, rfl⟩ := e
    exact hc
  have hro : Vg.Reads 0 w (.slice oa n oc) n (K.map fun x => .bool x.out) := by
    obtain ⟨g, off, rfl, hg, _⟩ := hvo.2.2 0 (by simp; omega)
    refine .inr ⟨g, off, oc, rfl, Nat.zero_le _, hg, by have := hvo.1; simp at this; omega, hvo.2.1, fun j hj => ?_⟩
    obtain ⟨g', off', e, _, hc⟩ := hvo.2.2 j hj
    simp only [Option.some.injEq, Addr.mk.injEq, and_true] at e
    obtain ⟨rfl, rfl⟩ := e
    exact hc
  have hll : (K.map fun x => Value.int .i64 x.lost).length = n * 1 := by simp [hn]
  have hlo : (K.map fun x => Value.bool x.out).length = n * 1 := by simp [hn]
  have hcj : n ≤ jc := by have := hvj.1; omega
  have hcjm : jc ≤ 9223372036854775807 := hvj.2.1
  have H_h := Lib.hid h; clear h; have H_hn := Lib.hid hn; clear hn; have H_hJ := Lib.hid hJ; clear hJ; have H_htk := Lib.hid htk; clear htk; have H_hul := Lib.hid hul; clear hul; have H_hvj := Lib.hid hvj; clear hvj; have H_hrow := Lib.hid hrow; clear hrow; have H_hvl := Lib.hid hvl; clear hvl; have H_hvo := Lib.hid hvo; clear hvo; have H_hrl := Lib.hid hrl; clear hrl; have H_hro := Lib.hid hro; clear hro; have H_hll := Lib.hid hll; clear hll; have H_hlo := Lib.hid hlo; clear hlo
  go_enter Try.func136, Try.ntmps136
  go_upto_region 1 with fail
  go_cut [3] (fun vx wx => ∃ bx lg lc' og oc' zl zo, vx = .pointer (some ⟨bx, 0, none⟩) ∧ Vg.blk wx bx = some (rvC (.slice ta n tc) (.slice none 0 0) (.slice (some ⟨lg, 0, none⟩) n lc') (.slice (some ⟨og, 0, none⟩) n oc')) ∧ Vg.blk wx lg = some (.cells zl 3) ∧ Vg.Cpy zl 1 n lc' (K.map fun x => .int .i64 x.lost) ∧
    Vg.blk wx og = some (.cells zo 4) ∧ Vg.Cpy zo 1 n oc' (K.map fun x => .bool x.out) ∧ (bx ≠ lg ∧ bx ≠ og ∧ lg ≠ og) ∧ (w.heap.size + 2 ≤ bx ∧ w.heap.size + 2 ≤ lg ∧ w.heap.size + 2 ≤ og) ∧ Vg.Grows ((w.alloc (rkC ta tc ja jc la lc oa oc n)).alloc (rvC (.slice none 0 0) (.slice none 0 0) (.slice none 0 0) (.slice none 0 0))) wx)
  case first =>
    go_region_held3 (fun w' => w.heap.size < w'.heap.size ∧ w'.cell? ⟨w.heap.size, 0, none⟩ = some (.slice ta n tc) ∧ w'.cell? ⟨w.heap.size, 2, none⟩ = some (.slice la n lc) ∧ w'.cell? ⟨w.heap.size, 3, none⟩ = some (.slice oa n oc))
      ((go_split_ands; (try dsimp only); go_simp))
      (first | ((refine Vg.step_copy rfl (.tmp 8) (.tmp 10) 22 rfl 3 i0 (.int .i64 0) 1 8 Try.underlying22 hI hz0 hz1 hz2 rfl _ rfl 0 la n lc _ (by simp [Act.eval, Act.put]) (H_hrl.out.grows (by (repeat' (first | (with_reducible exact Vg.Grows.refl _) | (with_reducible assumption) | (with_reducible refine Vg.Grows.alloc ?_ _) | (with_reducible refine Vg.Grows.plus ?_ _ _) | (with_reducible refine Vg.Grows.drewN ?_ _) | (with_reducible refine Vg.Grows.drew ?_) | (with_reducible refine Vg.Grows.setCell ?_ ?_ _) | (with_reducible refine Vg.Grows.put ?_ ?_ _) | omega | (simp; omega) | (simp; done))))) H_hll.out h0 (by unfold maxLen; omega) (by omega) ?_); intro lc' zl lg hlg hcl; have HL := Lib.hid hcl; have HLG := Lib.hid hlg; clear hcl hlg) | ((refine Vg.step_copy rfl (.tmp 12) (.tmp 14) 110 rfl 4 j0 (.bool false) 1 1 Try.underlying110 hJJ hy0 hy1 hy2 rfl _ rfl 0 oa n oc _ (by simp [Act.eval, Act.put]) (H_hro.out.grows (by (repeat' (first | (with_reducible exact Vg.Grows.refl _) | (with_reducible assumption) | (with_reducible refine Vg.Grows.alloc ?_ _) | (with_reducible refine Vg.Grows.plus ?_ _ _) | (with_reducible refine Vg.Grows.drewN ?_ _) | (with_reducible refine Vg.Grows.drew ?_) | (with_reducible refine Vg.Grows.setCell ?_ ?_ _) | (with_reducible refine Vg.Grows.put ?_ ?_ _) | omega | (simp; omega) | (simp; done))))) H_hlo.out h0 (by unfold maxLen; omega) (by omega) ?_); intro oc' zo og hog hco; have HO := Lib.hid hco; have HOG := Lib.hid hog; clear hco hog))
    all_goals go_wp2_with fail
    all_goals go_meet
    all_goals
      have e1 := HLG.out
      have e2 := HOG.out
      simp only [World.size_alloc, Vg.plus_size, Vg.put_size, World.size_setCell, World.size_drew, World.heap_drewN] at e1 e2
      refine ⟨_, lg, lc', og, oc', zl, zo, rfl, ?_, ?_, HL.out, ?_, HO.out, ?_, ?_, by (repeat' (first | (with_reducible exact Vg.Grows.refl _) | (with_reducible assumption) | (with_reducible refine Vg.Grows.alloc ?_ _) | (with_reducible refine Vg.Grows.plus ?_ _ _) | (with_reducible refine Vg.Grows.drewN ?_ _) | (with_reducible refine Vg.Grows.drew ?_) | (with_reducible refine Vg.Grows.setCell ?_ ?_ _) | (with_reducible refine Vg.Grows.put ?_ ?_ _) | omega | (simp; omega) | (simp; done)))⟩
      · clear e1 e2
        go_simp
      · subst e1
        clear e2
        go_simp
      · subst e2
        clear e1
        go_simp
      · omega
      · omega
  case rest =>
    obtain ⟨bx, lg, lc', og, oc', zl, zo, rfl, hbx, hlg, hcl, hog, hco, ⟨hd1, hd2, hd3⟩, ⟨hs1, hs2, hs3⟩, hg0⟩ := hcut
    have b1 := hg0.blk (b := w.heap.size) (o := rkC ta tc ja jc la lc oa oc n) (by go_simp)
    have b2 := hg0.blk (b := w.heap.size + 1) (o := rvC (.slice none 0 0) (.slice none 0 0) (.slice none 0 0) (.slice none 0 0)) (by go_simp)
    have hgc : Vg.Grows w wc := Vg.Grows.trans (by (repeat' (first | (with_reducible exact Vg.Grows.refl _) | (with_reducible assumption) | (with_reducible refine Vg.Grows.alloc ?_ _) | (with_reducible refine Vg.Grows.plus ?_ _ _) | (with_reducible refine Vg.Grows.drewN ?_ _) | (with_reducible refine Vg.Grows.drew ?_) | (with_reducible refine Vg.Grows.setCell ?_ ?_ _) | (with_reducible refine Vg.Grows.put ?_ ?_ _) | omega | (simp; omega) | (simp; done)))) hg0
    have hCL : CL wc w.heap.size (.slice none 0 0) [] 0 K [(bx, rvC (.slice ta n tc) (.slice none 0 0) (.slice (some ⟨lg, 0, none⟩) n lc') (.slice (some ⟨og, 0, none⟩) n oc')), (lg, .cells zl 3), (og, .cells zo 4), (w.heap.size + 1, rvC (.slice none 0 0) (.slice none 0 0) (.slice none 0 0) (.slice none 0 0)), (w.heap.size, rkC ta tc ja jc la lc oa oc n)] :=
      CL.start (Vg.Has.cons (Vg.Has.cons (Vg.Has.cons (Vg.Has.cons (Vg.Has.cons (Vg.Has.nil _) b1) b2) hog) hlg) hbx)
    clear hlg hog
    have c_b1 := Vg.cells_of b1; have f_b1 := Vg.frozen_of b1; have p_b1 := Vg.setCell_of b1; have l_b1 := Vg.lt_of b1; have H_b1 := Lib.hid b1; clear b1
    have H_hbx := Lib.hid hbx; clear hbx; have H_b2 := Lib.hid b2; clear b2; have H_hCL := Lib.hid hCL; clear hCL; have H_hcl := Lib.hid hcl; clear hcl; have H_hco := Lib.hid hco; clear hco; have H_hgc := Lib.hid hgc; clear hgc; have H_hg0 := Lib.hid hg0; clear hg0
    go_wp2_with fail
    go_loopw [20] (fun i wr => ∃ (k : Nat) (vj : Value) (us : List Value), k ≤ n ∧ i = .int .i64 k ∧ CL wr w.heap.size vj us k K [(bx, rvC (.slice ta n tc) vj (.slice (some ⟨lg, 0, none⟩) n lc') (.slice (some ⟨og, 0, none⟩) n oc')), (lg, .cells zl 3), (og, .cells zo 4), (w.heap.size + 1, rvC (.slice none 0 0) (.slice none 0 0) (.slice none 0 0) (.slice none 0 0)), (w.heap.size, rkC ta tc ja jc la lc oa oc n)] ∧ Vg.Grows w wr) (fun i _ => n - (intOf i).toNat)
    case atStart => exact ⟨0, _, _, by omega, rfl, H_hCL.out, H_hgc.out⟩
    case round =>
      obtain ⟨k, vj, us, hk, rfl, hC, hgr⟩ := hrel
      have y1 := hC.has _ List.mem_cons_self
      by_cases hlt : k < n
      · have hkK : k < K.length := by rw [H_hn.out]; exact hlt
        obtain ⟨jg, jo, u, uc, rfl, hjg, hcj, hjr⟩ := (H_h.out.grows hgr).atJ hkK
        obtain ⟨va, vc, rfl⟩ := hC.qj.shape
        have hqj := hC.qj
        have hsz := hgr.size
        obtain ⟨q0, hQ, hq0, hq1, hq2⟩ := info_parts Try.info_rjobs
        obtain ⟨r0, hR, hr0, hr1, hr2⟩ := info_parts Try.info_rjob
        obtain ⟨J, hJk⟩ : ∃ J, K[k].J = J := ⟨_, rfl⟩
        have hJ16 : J.length ≤ 16 := by rw [← hJk]; exact H_hJ.out _ (List.getElem_mem hkK)
        rw [hJk] at hcj hjr
        obtain ⟨N, hN⟩ : ∃ N, J.length = N := ⟨_, rfl⟩
        have hjl := Vg.jcells_length J
        rw [hN] at hcj hjr hjl hJ16
        have hrd := fun h0 => Vg.JR.reads hjr hN h0
        have c_y1 := Vg.cells_of y1; have f_y1 := Vg.frozen_of y1; have p_y1 := Vg.setCell_of y1; have l_y1 := Vg.lt_of y1; have H_y1 := Lib.hid y1; clear y1
        by_cases hN0 : N = 0
        · subst hN0
          have hJn : J = [] := List.eq_nil_of_length_eq_zero hN
          have H_hC := Lib.hid hC; clear hC; have H_hqj := Lib.hid hqj; clear hqj; have H_hjr := Lib.hid hjr; clear hjr; have H_hJk := Lib.hid hJk; clear hJk; have H_hN := Lib.hid hN; clear hN; have H_hrd := Lib.hid hrd; clear hrd; have H_hJn := Lib.hid hJn; clear hJn
          go_upto_region 5 with fail
          go_region_law (first | ((refine Vg.step_copy0 rfl (.tmp 26) (.tmp 27) 120 rfl 205 r0 Try.underlying120 hR wr.heap.size (by simp [Act.eval, Act.put]) (by go_simp) u uc (by simp [Act.eval, Act.put]) ?_)) | ((refine Vg.step_que1 rfl (.tmp 25) (.tmp 29) 109 rfl w.heap.size 120 q0 (.slice none 0 0) 1 24 Try.underlying109 hQ hq0 hq1 hq2 rfl (by decide) (.slice va k vc) k us (by simp [Act.eval, Act.put]) (H_hqj.out.grows (by (repeat' (first | (with_reducible exact Vg.Grows.refl _) | (with_reducible assumption) | (with_reducible refine Vg.Grows.alloc ?_ _) | (with_reducible refine Vg.Grows.plus ?_ _ _) | (with_reducible refine Vg.Grows.drewN ?_ _) | (with_reducible refine Vg.Grows.drew ?_) | (with_reducible refine Vg.Grows.setCell ?_ ?_ _) | (with_reducible refine Vg.Grows.put ?_ ?_ _) | omega | (simp; omega) | (simp; done))))) ⟨wr.heap.size + 1, 0, none⟩ 1 [.slice (some ⟨wr.heap.size, 0, none⟩) 0 0] (by simp [Act.eval, Act.put]) rfl (Vg.one_new (by first | rfl | ((try simp only [World.size_alloc, Vg.plus_size, Vg.put_size, World.size_setCell, World.size_drew, World.heap_drewN]) <;> omega))) (by simp [Value.oneCell']) (by unfold maxLen; omega) (by omega) (by decide) (by simp only [World.size_alloc, World.heap_drewN, World.size_drew]; omega) ?_); intro v2 W1 y2 m2 hqv hs2 ho2; obtain ⟨a2, c2, rfl⟩ := hqv.shape; have hT := (Vg.Touch.of_same hs2).trans (Vg.Touch.of_grows ((Vg.Grows.refl _).plus y2 m2)); have hA := CL.app H_hC.out hkK (by (repeat' (first | (with_reducible exact Vg.Grows.refl _) | (with_reducible assumption) | (with_reducible refine Vg.Grows.alloc ?_ _) | (with_reducible refine Vg.Grows.plus ?_ _ _) | (with_reducible refine Vg.Grows.drewN ?_ _) | (with_reducible refine Vg.Grows.drew ?_) | (with_reducible refine Vg.Grows.setCell ?_ ?_ _) | (with_reducible refine Vg.Grows.put ?_ ?_ _) | omega | (simp; omega) | (simp; done)))) (by rw [H_hJk.out, H_hJn.out]; exact Vg.Cpy.que (z := #[]) (e := 205) (size := 3) (m := 0) (news := []) ⟨rfl, Nat.le_refl _, by unfold Go.maxLen; omega, by simp, by simp⟩ (by go_simp) hsz) (fun q hq => by have : wr.heap.size = q := (by simpa [Value.ownBlock] using hq); omega) hT hqv (ho2.imp id (fun h q hq => by rw [h] at hq; simp only [Option.some.injEq] at hq; omega)); have hgW := hT.grows (w0 := w) (Vg.Grows.trans hgr (by (repeat' (first | (with_reducible exact Vg.Grows.refl _) | (with_reducible assumption) | (with_reducible refine Vg.Grows.alloc ?_ _) | (with_reducible refine Vg.Grows.plus ?_ _ _) | (with_reducible refine Vg.Grows.drewN ?_ _) | (with_reducible refine Vg.Grows.drew ?_) | (with_reducible refine Vg.Grows.setCell ?_ ?_ _) | (with_reducible refine Vg.Grows.put ?_ ?_ _) | omega | (simp; omega) | (simp; done))))) (fun j hj => by have := (H_hqj.out.lt j hj).1; omega); obtain ⟨W2, hW2⟩ : ∃ W2, Vg.plus W1 y2 m2 = W2 := ⟨_, rfl⟩; rw [hW2] at hA hgW ⊢; have z1 := hA.has _ List.mem_cons_self; clear hW2 hT hs2 hqv ho2; clear c_y1 f_y1 p_y1; have c_z1 := Vg.cells_of z1; have f_z1 := Vg.frozen_of z1; have p_z1 := Vg.setCell_of z1; have l_z1 := Vg.lt_of z1; have H_z1 := Lib.hid z1; clear z1; have H_hA := Lib.hid hA; clear hA; have H_hgW := Lib.hid hgW; clear hgW))
          all_goals go_wp2_with fail
          all_goals exact ⟨⟨k + 1, .slice a2 (k + 1) c2, us ++ [.slice (some ⟨wr.heap.size, 0, none⟩) 0 0], by omega, by go_num, CL.put H_hA.out (by simp; omega), Vg.Grows.put H_hgW.out (by omega) _⟩, by simp [intOf]; omega⟩
        · have hN1 : 0 < N := by omega
          have H_hC := Lib.hid hC; clear hC; have H_hqj := Lib.hid hqj; clear hqj; have H_hjr := Lib.hid hjr; clear hjr; have H_hJk := Lib.hid hJk; clear hJk; have H_hN := Lib.hid hN; clear hN; have H_hrd := Lib.hid hrd; clear hrd; have H_hjl := Lib.hid hjl; clear hjl
          go_upto_region 5 with fail
          go_region_law (first | ((refine Vg.step_copy rfl (.tmp 26) (.tmp 27) 120 rfl 205 r0 (.agg #[.int .i64 0, .int .i64 0, .int .i64 0]) 3 24 Try.underlying120 hR hr0 hr1 hr2 rfl _ (by simp [Act.eval, Act.put]; rfl) 0 u N uc _ (by simp [Act.eval, Act.put]) ((H_hrd.out hN1).grows (by (repeat' (first | (with_reducible exact Vg.Grows.refl _) | (with_reducible assumption) | (with_reducible refine Vg.Grows.alloc ?_ _) | (with_reducible refine Vg.Grows.plus ?_ _ _) | (with_reducible refine Vg.Grows.drewN ?_ _) | (with_reducible refine Vg.Grows.drew ?_) | (with_reducible refine Vg.Grows.setCell ?_ ?_ _) | (with_reducible refine Vg.Grows.put ?_ ?_ _) | omega | (simp; omega) | (simp; done))))) H_hjl.out hN1 (by unfold maxLen; omega) (by omega) ?_); intro c9 z9 g9 hg9 hc9; simp only [World.size_alloc, Vg.plus_size, Vg.put_size, World.size_setCell, World.size_drew, World.heap_drewN] at hg9; subst hg9; have HC9 := Lib.hid hc9; clear hc9) | ((refine Vg.step_que1 rfl (.tmp 25) (.tmp 29) 109 rfl w.heap.size 120 q0 (.slice none 0 0) 1 24 Try.underlying109 hQ hq0 hq1 hq2 rfl (by decide) (.slice va k vc) k us (by simp [Act.eval, Act.put]) (H_hqj.out.grows (by (repeat' (first | (with_reducible exact Vg.Grows.refl _) | (with_reducible assumption) | (with_reducible refine Vg.Grows.alloc ?_ _) | (with_reducible refine Vg.Grows.plus ?_ _ _) | (with_reducible refine Vg.Grows.drewN ?_ _) | (with_reducible refine Vg.Grows.drew ?_) | (with_reducible refine Vg.Grows.setCell ?_ ?_ _) | (with_reducible refine Vg.Grows.put ?_ ?_ _) | omega | (simp; omega) | (simp; done))))) ⟨wr.heap.size + 1 + 1, 0, none⟩ 1 [.slice (some ⟨wr.heap.size + 1, 0, none⟩) N c9] (by simp [Act.eval, Act.put]) rfl (Vg.one_new (by first | rfl | ((try simp only [World.size_alloc, Vg.plus_size, Vg.put_size, World.size_setCell, World.size_drew, World.heap_drewN]) <;> omega))) (by simp [Value.oneCell']) (by unfold maxLen; omega) (by omega) (by decide) (by simp only [World.size_alloc, World.heap_drewN, World.size_drew]; omega) ?_); intro v2 W1 y2 m2 hqv hs2 ho2; obtain ⟨a2, c2, rfl⟩ := hqv.shape; have hT := (Vg.Touch.of_same hs2).trans (Vg.Touch.of_grows ((Vg.Grows.refl _).plus y2 m2)); have hA := CL.app H_hC.out hkK (by (repeat' (first | (with_reducible exact Vg.Grows.refl _) | (with_reducible assumption) | (with_reducible refine Vg.Grows.alloc ?_ _) | (with_reducible refine Vg.Grows.plus ?_ _ _) | (with_reducible refine Vg.Grows.drewN ?_ _) | (with_reducible refine Vg.Grows.drew ?_) | (with_reducible refine Vg.Grows.setCell ?_ ?_ _) | (with_reducible refine Vg.Grows.put ?_ ?_ _) | omega | (simp; omega) | (simp; done)))) (by rw [H_hJk.out, H_hN.out]; exact Vg.Cpy.que HC9.out (by go_simp) (by omega)) (fun q hq => by have : wr.heap.size + 1 = q := (by simpa [Value.ownBlock] using hq); omega) hT hqv (ho2.imp id (fun h q hq => by rw [h] at hq; simp only [Option.some.injEq] at hq; omega)); have hgW := hT.grows (w0 := w) (Vg.Grows.trans hgr (by (repeat' (first | (with_reducible exact Vg.Grows.refl _) | (with_reducible assumption) | (with_reducible refine Vg.Grows.alloc ?_ _) | (with_reducible refine Vg.Grows.plus ?_ _ _) | (with_reducible refine Vg.Grows.drewN ?_ _) | (with_reducible refine Vg.Grows.drew ?_) | (with_reducible refine Vg.Grows.setCell ?_ ?_ _) | (with_reducible refine Vg.Grows.put ?_ ?_ _) | omega | (simp; omega) | (simp; done))))) (fun j hj => by have := (H_hqj.out.lt j hj).1; omega); obtain ⟨W2, hW2⟩ : ∃ W2, Vg.plus W1 y2 m2 = W2 := ⟨_, rfl⟩; rw [hW2] at hA hgW ⊢; have z1 := hA.has _ List.mem_cons_self; clear hW2 hT hs2 hqv ho2; clear c_y1 f_y1 p_y1; have c_z1 := Vg.cells_of z1; have f_z1 := Vg.frozen_of z1; have p_z1 := Vg.setCell_of z1; have l_z1 := Vg.lt_of z1; have H_z1 := Lib.hid z1; clear z1; have H_hA := Lib.hid hA; clear hA; have H_hgW := Lib.hid hgW; clear hgW))
          all_goals go_wp2_with fail
          all_goals exact ⟨⟨k + 1, .slice a2 (k + 1) c2, us ++ [.slice (some ⟨wr.heap.size + 1, 0, none⟩) N c9], by omega, by go_num, CL.put H_hA.out (by simp; omega), Vg.Grows.put H_hgW.out (by omega) _⟩, by simp [intOf]; omega⟩
      · have hkn : k = n := by omega
        subst hkn
        obtain ⟨va, vc, rfl⟩ := hC.qj.shape
        have y2 : Vg.blk wr (w.heap.size + 1) = some (rvC (.slice none 0 0) (.slice none 0 0) (.slice none 0 0) (.slice none 0 0)) := hC.has (w.heap.size + 1, rvC (.slice none 0 0) (.slice none 0 0) (.slice none 0 0) (.slice none 0 0)) (by simp)
        have hul := hC.ul
        have hush := hC.ush
        have hsz := hgr.size
        obtain ⟨vg, vo, rfl⟩ : ∃ vg vo, va = some ⟨vg, vo, none⟩ := by
          rcases hC.qj.2 with ⟨_, h1⟩ | ⟨g, o, cap, cur, h1, _⟩
          · omega
          · simp only [Value.slice.injEq] at h1
            exact ⟨g, o, h1.1⟩
        obtain ⟨g0, off0, hta, hg0', -⟩ := H_htk.out.2.2 0 (by rw [List.length_map]; rw [H_hn.out]; exact h0)
        have hfo := fun o' => CL.fo (t2 := w.heap.size + 1) (lg := lg) (og := og) (zl := zl) (zo := zo) (o' := o') hC H_hn.out (H_htk.out.grows hgr) (fun g off e => by rw [hta] at e; simp only [Option.some.injEq, Addr.mk.injEq, and_true] at e; omega) (fun off e => by rw [hta] at e; simp only [Option.some.injEq, Addr.mk.injEq, and_true] at e; omega) (by simp) H_hcl.out (by simp) H_hco.out (by omega) (by omega) hd3 ⟨_, List.mem_cons_of_mem _ (List.mem_cons_of_mem _ (List.mem_cons_of_mem _ List.mem_cons_self))⟩ (by omega) (by omega)
        have hgw := fun o' => Vg.Grows.put hgr (Nat.le_succ w.heap.size) o'
        have c_y1 := Vg.cells_of y1; have f_y1 := Vg.frozen_of y1; have p_y1 := Vg.setCell_of y1; have l_y1 := Vg.lt_of y1; have H_y1 := Lib.hid y1; clear y1; have c_y2 := Vg.cells_of y2; have f_y2 := Vg.frozen_of y2; have p_y2 := Vg.setCell_of y2; have l_y2 := Vg.lt_of y2; have H_y2 := Lib.hid y2; clear y2
        have hpc : ∀ (cs : Array Value) (i : Nat), (Vg.put wr (w.heap.size + 1) (.cells cs 112)).cell? ⟨w.heap.size + 1, i, none⟩ = cs[i]? := fun cs i => Vg.cells_of (Vg.put_heap_same l_y2) i
        have H_hC := Lib.hid hC; clear hC; have H_hfo := Lib.hid hfo; clear hfo; have H_hul := Lib.hid hul; clear hul; have H_hush := Lib.hid hush; clear hush; have H_hgw := Lib.hid hgw; clear hgw; have H_hta := Lib.hid hta; clear hta; have H_hpc := Lib.hid hpc; clear hpc
        go_wp2_with fail
        refine bodyPost_ret (by simp [results, Try.results136, go_sem, H_hpc.out] <;> try rfl) rfl ?_
        exact ⟨vg, vo, vc, lg, 0, lc', og, 0, oc', rfl, us, H_hfo.out _, H_hush.out, H_hgw.out _⟩
end
end Go.Proofs.Ytiinhofmhoplfaa
namespace Go.Proofs.Ytiinhofmhoplfaa
open Go.ChangeShapes Go.WideShapes Go.ChangeAt Go.RowKit
abbrev rv0 : Obj := rvC (.slice none 0 0) (.slice none 0 0) (.slice none 0 0) (.slice none 0 0)
section
variable {w w' w3 : World} {S : Nat → Prop} {v vj vl vo : Value} {us : List Value} {K K' : List Vg.Kt} {M : List Vg.Mx} {B k n i tc t4 : Nat} {ta : Option Addr} {is : Bool} {x r m : Int} {X : Obj}
theorem FO.c_out {pg po pc : Nat} (h : FO w3 B ta tc n vj vl (.slice (some ⟨pg, po, none⟩) n pc) us K) (hi : i < K.length) : w3.cell? ⟨pg, po + i, none⟩ = some (.bool K[i].out) := by
  obtain ⟨g, off, e, -, -, -, hc⟩ := h.qo.reads.open (by simp; omega)
  simp only [Option.some.injEq, Addr.mk.injEq, and_true] at e
  obtain ⟨rfl, rfl⟩ := e
  have := hc i (by simpa using hi)
  rw [List.getElem_map] at this
  exact this
theorem FO.c_lost {pg po pc : Nat} (h : FO w3 B ta tc n vj (.slice (some ⟨pg, po, none⟩) n pc) vo us K) (hi : i < K.length) : w3.cell? ⟨pg, po + i, none⟩ = some (.int .i64 K[i].lost) := by
  obtain ⟨g, off, e, -, -, -, hc⟩ := h.ql.reads.open (by simp; omega)
  simp only [Option.some.injEq, Addr.mk.injEq, and_true] at e
  obtain ⟨rfl, rfl⟩ := e
  have := hc i (by simpa using hi)
  rw [List.getElem_map] at this
  exact this
theorem FO.c_job {pg po pc : Nat} (h : FO w3 B ta tc n (.slice (some ⟨pg, po, none⟩) n pc) vl vo us K) (hi : i < us.length) : w3.cell? ⟨pg, po + i, none⟩ = some us[i] := by
  obtain ⟨g, off, e, -, -, -, hc⟩ := h.qj.reads.open (by omega)
  simp only [Option.some.injEq, Addr.mk.injEq, and_true] at e
  obtain ⟨rfl, rfl⟩ := e
  exact hc i hi
/-- What is left behind a copy, a box for it, a store of one count, and the result's box. -/
theorem FO.end_lost {pg po pc : Nat} (h : FO w3 B ta tc n vj (.slice (some ⟨pg, po, none⟩) n pc) vo us K) (hi : i < K.length) (x : Int) (hw : Vg.Grows w w3) (hB1 : w.heap.size ≤ t4) (hB2 : t4 < B) (hB3 : B ≤ w3.heap.size) (hta : ∀ off, ta ≠ some ⟨t4, off, none⟩) (hS : ∀ k, w.heap.size ≤ k → S k) (hSt : ∀ g off, ta = some ⟨g, off, none⟩ → S g) :
    Vg.blk ((w3.setCell ⟨pg, po + i, none⟩ (.int .i64 x)).alloc X) w3.heap.size = some X ∧ (∀ o, Vg.blk w3 t4 = some o → Vg.blk ((w3.setCell ⟨pg, po + i, none⟩ (.int .i64 x)).alloc X) t4 = some o) ∧
      ∀ o', Vg.FKS S (Vg.put ((w3.setCell ⟨pg, po + i, none⟩ (.int .i64 x)).alloc X) t4 o') (.agg #[.slice ta n tc, vj, .slice (some ⟨pg, po, none⟩) n pc, vo]) (K.set i ⟨K[i].t, K[i].J, x, K[i].out⟩) ∧ Vg.Grows w (Vg.put ((w3.setCell ⟨pg, po + i, none⟩ (.int .i64 x)).alloc X) t4 o') := by
  have hpg := h.ql.lt pg rfl
  have s1 := h.ql.set (j := i) (u := .int .i64 x) (by simpa using hi)
  have hgl : Vg.Grows (w3.setCell ⟨pg, po + i, none⟩ (.int .i64 x)) ((w3.setCell ⟨pg, po + i, none⟩ (.int .i64 x)).alloc X) := (Vg.Grows.refl _).alloc _
  have hT : Vg.Touch (fun k => (Value.slice (some ⟨pg, po, none⟩) n pc).ownBlock = some k ∨ k = t4) w3 ((w3.setCell ⟨pg, po + i, none⟩ (.int .i64 x)).alloc X) := (Vg.Touch.of_same (s1.2.mono fun k hk => .inl (by rw [hk]; rfl))).trans (Vg.Touch.of_grows hgl)
  have s2 := s1.1.grows hgl
  refine ⟨Vg.alloc_heap_at (by (try simp only [World.size_alloc, Vg.plus_size, Vg.put_size, World.size_setCell, World.size_drew]) <;> omega), fun o ho => hgl.blk ((s1.2.block _ (by omega)).trans ho), fun o' => ⟨?_, Vg.Grows.put ((s1.2.grows hw (fun k hk => by have := hw.size; omega)).trans hgl) hB1 _⟩⟩
  exact h.lost hi x (T := fun k => k = t4) (hT.put (.inr rfl) _) (fun k hk => by subst hk; exact ⟨hB2, hta⟩) (fun k hk => hS k (by omega)) hSt (s2.kept fun k hk => Vg.put_heap_other (by have : pg = k := (by simpa [Value.ownBlock] using hk); omega))
theorem FO.end_out {pg po pc : Nat} (h : FO w3 B ta tc n vj vl (.slice (some ⟨pg, po, none⟩) n pc) us K) (hi : i < K.length) (x : Bool) (hw : Vg.Grows w w3) (hB1 : w.heap.size ≤ t4) (hB2 : t4 < B) (hB3 : B ≤ w3.heap.size) (hta : ∀ off, ta ≠ some ⟨t4, off, none⟩) (hS : ∀ k, w.heap.size ≤ k → S k) (hSt : ∀ g off, ta = some ⟨g, off, none⟩ → S g) :
    Vg.blk ((w3.setCell ⟨pg, po + i, none⟩ (.bool x)).alloc X) w3.heap.size = some X ∧ (∀ o, Vg.blk w3 t4 = some o → Vg.blk ((w3.setCell ⟨pg, po + i, none⟩ (.bool x)).alloc X) t4 = some o) ∧
      ∀ o', Vg.FKS S (Vg.put ((w3.setCell ⟨pg, po + i, none⟩ (.bool x)).alloc X) t4 o') (.agg #[.slice ta n tc, vj, vl, .slice (some ⟨pg, po, none⟩) n pc]) (K.set i ⟨K[i].t, K[i].J, K[i].lost, x⟩) ∧ Vg.Grows w (Vg.put ((w3.setCell ⟨pg, po + i, none⟩ (.bool x)).alloc X) t4 o') := by
  have hpg := h.qo.lt pg rfl
  have s1 := h.qo.set (j := i) (u := .bool x) (by simpa using hi)
  have hgl : Vg.Grows (w3.setCell ⟨pg, po + i, none⟩ (.bool x)) ((w3.setCell ⟨pg, po + i, none⟩ (.bool x)).alloc X) := (Vg.Grows.refl _).alloc _
  have hT : Vg.Touch (fun k => (Value.slice (some ⟨pg, po, none⟩) n pc).ownBlock = some k ∨ k = t4) w3 ((w3.setCell ⟨pg, po + i, none⟩ (.bool x)).alloc X) := (Vg.Touch.of_same (s1.2.mono fun k hk => .inl (by rw [hk]; rfl))).trans (Vg.Touch.of_grows hgl)
  have s2 := s1.1.grows hgl
  refine ⟨Vg.alloc_heap_at (by (try simp only [World.size_alloc, Vg.plus_size, Vg.put_size, World.size_setCell, World.size_drew]) <;> omega), fun o ho => hgl.blk ((s1.2.block _ (by omega)).trans ho), fun o' => ⟨?_, Vg.Grows.put ((s1.2.grows hw (fun k hk => by have := hw.size; omega)).trans hgl) hB1 _⟩⟩
  exact h.out hi x (T := fun k => k = t4) (hT.put (.inr rfl) _) (fun k hk => by subst hk; exact ⟨hB2, hta⟩) (fun k hk => hS k (by omega)) hSt (s2.kept fun k hk => Vg.put_heap_other (by have : pg = k := (by simpa [Value.ownBlock] using hk); omega))
theorem rf_suspend (i : Int) (h : Vg.FKS S w v K) (hm : Vg.Kn.HM K M) (h32 : K.length ≤ 32) (hJ : ∀ x ∈ K, x.J.length ≤ 16) (hx : Vg.Kn.suspend K M i = (K', r)) :
    Calls Try.prog 117 #[v, .int .i64 i] w fun e w' => ∃ ta tc ja jc la lc oa oc, e = .returned (.tuple #[.agg #[.slice ta K.length tc, .slice ja K.length jc, .slice la K.length lc, .slice oa K.length oc], .int .i64 r]) ∧ Vg.FKS (fun k => S k ∨ w.heap.size ≤ k) w' (.agg #[.slice ta K.length tc, .slice ja K.length jc, .slice la K.length lc, .slice oa K.length oc]) K' ∧ Vg.Grows w w' := by
  obtain ⟨n, hn⟩ : ∃ n, K.length = n := ⟨_, rfl⟩
  obtain ⟨ta, tc, ja, jc, la, lc, oa, oc, rfl, t1, t2, j1, j2, htk⟩ := h.fk.shape
  rw [hn] at h t1 j1 h32 ⊢
  by_cases hin : 0 ≤ i ∧ i < (n : Int)
  · obtain ⟨i, rfl⟩ : ∃ n : Nat, i = n := ⟨i.toNat, by omega⟩
    have hi : i < K.length := by omega
    have hhas : decide ((0 : Int) ≤ (i : Int) ∧ (i : Int) < (K.length : Int)) = true := by simp [hi]
    have hin1 : i < n := by omega
    have hin2 : (i : Int) < n := by omega
    have hin0 : (0 : Int) ≤ i := by omega
    rw [Vg.Kn.suspend_in hi] at hx
    obtain ⟨og, oo, rfl, hog, o1, o2, hco⟩ := h.fk.atO hi
    obtain ⟨hd, hhd⟩ : ∃ b, Vg.Kn.holds K M i = b := ⟨_, rfl⟩
    obtain ⟨ou, hou⟩ : ∃ b, K[i].out = b := ⟨_, rfl⟩
    rw [hou] at hx hco
    clear hin
    rw [hhd] at hx
    cases ou with
    | true =>
      rw [if_pos (.inl rfl)] at hx
      simp only [Prod.mk.injEq] at hx
      obtain ⟨rfl, rfl⟩ := hx
      have H_h := Lib.hid h; clear h; have H_hm := Lib.hid hm; clear hm; have H_hJ := Lib.hid hJ; clear hJ; have H_hn := Lib.hid hn; clear hn; have H_hhas := Lib.hid hhas; clear hhas; have H_hhd := Lib.hid hhd; clear hhd; have H_hou := Lib.hid hou; clear hou; have H_htk := Lib.hid htk; clear htk
      go_enter Try.func117, Try.ntmps117
      go_wp2_with (first | (go_at_call 75; (with_reducible refine (rf_has i (H_h.out.fk.grows (by (repeat' (first | (with_reducible exact Vg.Grows.refl _) | (with_reducible assumption) | (with_reducible refine Vg.Grows.alloc ?_ _) | (with_reducible refine Vg.Grows.plus ?_ _ _) | (with_reducible refine Vg.Grows.drewN ?_ _) | (with_reducible refine Vg.Grows.drew ?_) | (with_reducible refine Vg.Grows.setCell ?_ ?_ _) | (with_reducible refine Vg.Grows.put ?_ ?_ _) | omega | (simp; omega) | (simp; done)))))).mono ?_); rintro e w1 ⟨rfl, x1, n1, rfl⟩; rw [H_hhas.out]))
      go_returns
      exact ⟨_, _, _, _, _, _, _, _, rfl, (H_h.out.grows (by (repeat' (first | (with_reducible exact Vg.Grows.refl _) | (with_reducible assumption) | (with_reducible refine Vg.Grows.alloc ?_ _) | (with_reducible refine Vg.Grows.plus ?_ _ _) | (with_reducible refine Vg.Grows.drewN ?_ _) | (with_reducible refine Vg.Grows.drew ?_) | (with_reducible refine Vg.Grows.setCell ?_ ?_ _) | (with_reducible refine Vg.Grows.put ?_ ?_ _) | omega | (simp; omega) | (simp; done))))).mono fun k hk => .inl hk, by (repeat' (first | (with_reducible exact Vg.Grows.refl _) | (with_reducible assumption) | (with_reducible refine Vg.Grows.alloc ?_ _) | (with_reducible refine Vg.Grows.plus ?_ _ _) | (with_reducible refine Vg.Grows.drewN ?_ _) | (with_reducible refine Vg.Grows.drew ?_) | (with_reducible refine Vg.Grows.setCell ?_ ?_ _) | (with_reducible refine Vg.Grows.put ?_ ?_ _) | omega | (simp; omega) | (simp; done)))⟩
    | false =>
      cases hd with
      | true =>
        rw [if_pos (.inr rfl)] at hx
        simp only [Prod.mk.injEq] at hx
        obtain ⟨rfl, rfl⟩ := hx
        have H_h := Lib.hid h; clear h; have H_hm := Lib.hid hm; clear hm; have H_hJ := Lib.hid hJ; clear hJ; have H_hn := Lib.hid hn; clear hn; have H_hhas := Lib.hid hhas; clear hhas; have H_hhd := Lib.hid hhd; clear hhd; have H_hou := Lib.hid hou; clear hou; have H_htk := Lib.hid htk; clear htk
        go_enter Try.func117, Try.ntmps117
        go_wp2_with (first | (go_at_call 75; (with_reducible refine (rf_has i (H_h.out.fk.grows (by (repeat' (first | (with_reducible exact Vg.Grows.refl _) | (with_reducible assumption) | (with_reducible refine Vg.Grows.alloc ?_ _) | (with_reducible refine Vg.Grows.plus ?_ _ _) | (with_reducible refine Vg.Grows.drewN ?_ _) | (with_reducible refine Vg.Grows.drew ?_) | (with_reducible refine Vg.Grows.setCell ?_ ?_ _) | (with_reducible refine Vg.Grows.put ?_ ?_ _) | omega | (simp; omega) | (simp; done)))))).mono ?_); rintro e w1 ⟨rfl, x1, n1, rfl⟩; rw [H_hhas.out]) | (go_at_call 74; (with_reducible refine (rf_holds' i (H_h.out.fk.grows (by (repeat' (first | (with_reducible exact Vg.Grows.refl _) | (with_reducible assumption) | (with_reducible refine Vg.Grows.alloc ?_ _) | (with_reducible refine Vg.Grows.plus ?_ _ _) | (with_reducible refine Vg.Grows.drewN ?_ _) | (with_reducible refine Vg.Grows.drew ?_) | (with_reducible refine Vg.Grows.setCell ?_ ?_ _) | (with_reducible refine Vg.Grows.put ?_ ?_ _) | omega | (simp; omega) | (simp; done))))) H_hm.out H_hhd.out).mono ?_); rintro e w2 ⟨rfl, x2, n2, rfl⟩))
        go_returns
        exact ⟨_, _, _, _, _, _, _, _, rfl, (H_h.out.grows (by (repeat' (first | (with_reducible exact Vg.Grows.refl _) | (with_reducible assumption) | (with_reducible refine Vg.Grows.alloc ?_ _) | (with_reducible refine Vg.Grows.plus ?_ _ _) | (with_reducible refine Vg.Grows.drewN ?_ _) | (with_reducible refine Vg.Grows.drew ?_) | (with_reducible refine Vg.Grows.setCell ?_ ?_ _) | (with_reducible refine Vg.Grows.put ?_ ?_ _) | omega | (simp; omega) | (simp; done))))).mono fun k hk => .inl hk, by (repeat' (first | (with_reducible exact Vg.Grows.refl _) | (with_reducible assumption) | (with_reducible refine Vg.Grows.alloc ?_ _) | (with_reducible refine Vg.Grows.plus ?_ _ _) | (with_reducible refine Vg.Grows.drewN ?_ _) | (with_reducible refine Vg.Grows.drew ?_) | (with_reducible refine Vg.Grows.setCell ?_ ?_ _) | (with_reducible refine Vg.Grows.put ?_ ?_ _) | omega | (simp; omega) | (simp; done)))⟩
      | false =>
        rw [if_neg (by simp)] at hx
        simp only [Prod.mk.injEq] at hx
        obtain ⟨hK', rfl⟩ := hx
        obtain ⟨g0, off0, hta, hg0, -⟩ := h.fk.atT hi
        have hSt := h.ta
        have H_hi : i < K.length := hi
        have H_h := Lib.hid h; clear h; have H_hm := Lib.hid hm; clear hm; have H_hJ := Lib.hid hJ; clear hJ; have H_hn := Lib.hid hn; clear hn; have H_hhas := Lib.hid hhas; clear hhas; have H_hhd := Lib.hid hhd; clear hhd; have H_hou := Lib.hid hou; clear hou; have H_htk := Lib.hid htk; clear htk; have H_hK' := Lib.hid hK'; clear hK'; have H_hta := Lib.hid hta; clear hta; have H_hSt := Lib.hid hSt; clear hSt
        go_enter Try.func117, Try.ntmps117
        go_upto_region 7 with (first | (go_at_call 75; (with_reducible refine (rf_has i (H_h.out.fk.grows (by (repeat' (first | (with_reducible exact Vg.Grows.refl _) | (with_reducible assumption) | (with_reducible refine Vg.Grows.alloc ?_ _) | (with_reducible refine Vg.Grows.plus ?_ _ _) | (with_reducible refine Vg.Grows.drewN ?_ _) | (with_reducible refine Vg.Grows.drew ?_) | (with_reducible refine Vg.Grows.setCell ?_ ?_ _) | (with_reducible refine Vg.Grows.put ?_ ?_ _) | omega | (simp; omega) | (simp; done)))))).mono ?_); rintro e w1 ⟨rfl, x1, n1, rfl⟩; rw [H_hhas.out]) | (go_at_call 74; (with_reducible refine (rf_holds' i (H_h.out.fk.grows (by (repeat' (first | (with_reducible exact Vg.Grows.refl _) | (with_reducible assumption) | (with_reducible refine Vg.Grows.alloc ?_ _) | (with_reducible refine Vg.Grows.plus ?_ _ _) | (with_reducible refine Vg.Grows.drewN ?_ _) | (with_reducible refine Vg.Grows.drew ?_) | (with_reducible refine Vg.Grows.setCell ?_ ?_ _) | (with_reducible refine Vg.Grows.put ?_ ?_ _) | omega | (simp; omega) | (simp; done))))) H_hm.out H_hhd.out).mono ?_); rintro e w2 ⟨rfl, x2, n2, rfl⟩) | (go_at_call 136; (with_reducible refine (rf_copy (H_h.out.fk.grows (by (repeat' (first | (with_reducible exact Vg.Grows.refl _) | (with_reducible assumption) | (with_reducible refine Vg.Grows.alloc ?_ _) | (with_reducible refine Vg.Grows.plus ?_ _ _) | (with_reducible refine Vg.Grows.drewN ?_ _) | (with_reducible refine Vg.Grows.drew ?_) | (with_reducible refine Vg.Grows.setCell ?_ ?_ _) | (with_reducible refine Vg.Grows.put ?_ ?_ _) | omega | (simp; omega) | (simp; done))))) H_hn.out (by omega) h32 H_hJ.out).mono ?_); rintro e w3 ⟨jg, jo, jc', lg, lo, lc', pg, po, pc', us, rfl, hfo, hus, hg3⟩; have b4 := hg3.blk (b := w.heap.size + 1) (o := rv0) (by go_simp); have hgw := Vg.Grows.trans (a := w) (by (repeat' (first | (with_reducible exact Vg.Grows.refl _) | (with_reducible assumption) | (with_reducible refine Vg.Grows.alloc ?_ _) | (with_reducible refine Vg.Grows.plus ?_ _ _) | (with_reducible refine Vg.Grows.drewN ?_ _) | (with_reducible refine Vg.Grows.drew ?_) | (with_reducible refine Vg.Grows.setCell ?_ ?_ _) | (with_reducible refine Vg.Grows.put ?_ ?_ _) | omega | (simp; omega) | (simp; done)))) hg3; have hB2 := hg3.size; simp only [World.size_alloc, Vg.plus_size, Vg.put_size, World.size_setCell, World.size_drew, World.heap_drewN] at hB2 hfo; have l_pg := (hfo.qo.lt pg rfl).2; have f_pg := hfo.qo.frozen; have c_pg := FO.c_out hfo H_hi; have c_b4 := Vg.cells_of b4; have f_b4 := Vg.frozen_of b4; have p_b4 := Vg.setCell_of b4; have l_b4 := Vg.lt_of b4; have H_b4 := Lib.hid b4; clear b4; have H_hfo := Lib.hid hfo; clear hfo; have H_hus := Lib.hid hus; clear hus; have H_hg3 := Lib.hid hg3; clear hg3; have H_hgw := Lib.hid hgw; clear hgw))
        obtain ⟨p6, p4, hend⟩ := FO.end_out (S := fun k => S k ∨ w.heap.size ≤ k) (t4 := w.heap.size + 1) (w := w) (X := rvC (.slice ta n tc) (.slice (some ⟨jg, jo, none⟩) n jc') (.slice (some ⟨lg, lo, none⟩) n lc') (.slice (some ⟨pg, po, none⟩) n pc')) H_hfo.out hi true H_hgw.out (Nat.le_succ _) (by omega) (by omega) (fun off e => by rw [H_hta.out] at e; simp only [Option.some.injEq, Addr.mk.injEq, and_true] at e; omega) (fun k hk => .inr hk) (fun g off e => .inl (H_hSt.out g off e))
        have p4 := p4 _ H_b4.out
        obtain ⟨W4, hW4⟩ : ∃ W4, (w3.setCell ⟨pg, po + i, none⟩ (.bool true)).alloc (rvC (.slice ta n tc) (.slice (some ⟨jg, jo, none⟩) n jc') (.slice (some ⟨lg, lo, none⟩) n lc') (.slice (some ⟨pg, po, none⟩) n pc')) = W4 := ⟨_, rfl⟩
        rw [hW4] at p6 p4 hend ⊢
        clear hW4 c_pg f_pg
        clear c_b4 f_b4 p_b4
        obtain ⟨b6, hb6⟩ : ∃ b6, w3.heap.size = b6 := ⟨_, rfl⟩
        rw [hb6] at p6 ⊢
        have ne1 : w.heap.size + 1 ≠ b6 := by omega
        have ne2 : b6 ≠ w.heap.size + 1 := by omega
        have c_p6 := Vg.cells_of p6; have f_p6 := Vg.frozen_of p6; have p_p6 := Vg.setCell_of p6; have l_p6 := Vg.lt_of p6; have H_p6 := Lib.hid p6; clear p6; have c_p4 := Vg.cells_of p4; have f_p4 := Vg.frozen_of p4; have p_p4 := Vg.setCell_of p4; have l_p4 := Vg.lt_of p4; have H_p4 := Lib.hid p4; clear p4
        have hpc : ∀ (cs : Array Value) (i : Nat), (Vg.put W4 (w.heap.size + 1) (.cells cs 112)).cell? ⟨w.heap.size + 1, i, none⟩ = cs[i]? := fun cs i => Vg.cells_of (Vg.put_heap_same l_p4) i
        have H_hend := Lib.hid hend; clear hend; have H_hpc := Lib.hid hpc; clear hpc; have H_hb6 := Lib.hid hb6; clear hb6
        go_wp2_with fail
        refine bodyPost_ret (by simp [results, Try.results117, go_sem, H_hpc.out] <;> try rfl) rfl ?_
        rw [← H_hK'.out]
        have hend := H_hend.out (rvC (.slice ta n tc) (.slice (some ⟨jg, jo, none⟩) n jc') (.slice (some ⟨lg, lo, none⟩) n lc') (.slice (some ⟨pg, po, none⟩) n pc'))
        exact ⟨_, _, _, _, _, _, _, _, rfl, hend.1, hend.2⟩
  · rw [Vg.Kn.suspend_out (by omega)] at hx
    simp only [Prod.mk.injEq] at hx
    obtain ⟨rfl, rfl⟩ := hx
    have hhas : decide (0 ≤ i ∧ i < (K.length : Int)) = false := decide_eq_false (by omega)
    clear hin
    have H_h := Lib.hid h; clear h; have H_hm := Lib.hid hm; clear hm; have H_hJ := Lib.hid hJ; clear hJ; have H_hn := Lib.hid hn; clear hn; have H_hhas := Lib.hid hhas; clear hhas; have H_htk := Lib.hid htk; clear htk
    go_enter Try.func117, Try.ntmps117
    go_wp2_with ((go_at_call 75; (with_reducible refine (rf_has i (H_h.out.fk.grows (by (repeat' (first | (with_reducible exact Vg.Grows.refl _) | (with_reducible assumption) | (with_reducible refine Vg.Grows.alloc ?_ _) | (with_reducible refine Vg.Grows.plus ?_ _ _) | (with_reducible refine Vg.Grows.drewN ?_ _) | (with_reducible refine Vg.Grows.drew ?_) | (with_reducible refine Vg.Grows.setCell ?_ ?_ _) | (with_reducible refine Vg.Grows.put ?_ ?_ _) | omega | (simp; omega) | (simp; done)))))).mono ?_); rintro e w1 ⟨rfl, x1, n1, rfl⟩; rw [H_hhas.out]))
    go_returns
    exact ⟨_, _, _, _, _, _, _, _, rfl, (H_h.out.grows (by (repeat' (first | (with_reducible exact Vg.Grows.refl _) | (with_reducible assumption) | (with_reducible refine Vg.Grows.alloc ?_ _) | (with_reducible refine Vg.Grows.plus ?_ _ _) | (with_reducible refine Vg.Grows.drewN ?_ _) | (with_reducible refine Vg.Grows.drew ?_) | (with_reducible refine Vg.Grows.setCell ?_ ?_ _) | (with_reducible refine Vg.Grows.put ?_ ?_ _) | omega | (simp; omega) | (simp; done))))).mono fun k hk => .inl hk, by (repeat' (first | (with_reducible exact Vg.Grows.refl _) | (with_reducible assumption) | (with_reducible refine Vg.Grows.alloc ?_ _) | (with_reducible refine Vg.Grows.plus ?_ _ _) | (with_reducible refine Vg.Grows.drewN ?_ _) | (with_reducible refine Vg.Grows.drew ?_) | (with_reducible refine Vg.Grows.setCell ?_ ?_ _) | (with_reducible refine Vg.Grows.put ?_ ?_ _) | omega | (simp; omega) | (simp; done)))⟩
theorem rf_resume (i : Int) (h : Vg.FKS S w v K) (hm : Vg.Kn.HM K M) (h32 : K.length ≤ 32) (hJ : ∀ x ∈ K, x.J.length ≤ 16) (hx : Vg.Kn.resume K i = (K', r)) :
    Calls Try.prog 118 #[v, .int .i64 i] w fun e w' => ∃ ta tc ja jc la lc oa oc, e = .returned (.tuple #[.agg #[.slice ta K.length tc, .slice ja K.length jc, .slice la K.length lc, .slice oa K.length oc], .int .i64 r]) ∧ Vg.FKS (fun k => S k ∨ w.heap.size ≤ k) w' (.agg #[.slice ta K.length tc, .slice ja K.length jc, .slice la K.length lc, .slice oa K.length oc]) K' ∧ Vg.Grows w w' := by
  obtain ⟨n, hn⟩ : ∃ n, K.length = n := ⟨_, rfl⟩
  obtain ⟨ta, tc, ja, jc, la, lc, oa, oc, rfl, t1, t2, j1, j2, htk⟩ := h.fk.shape
  rw [hn] at h t1 j1 h32 ⊢
  by_cases hin : 0 ≤ i ∧ i < (n : Int)
  · obtain ⟨i, rfl⟩ : ∃ n : Nat, i = n := ⟨i.toNat, by omega⟩
    have hi : i < K.length := by omega
    have hhas : decide ((0 : Int) ≤ (i : Int) ∧ (i : Int) < (K.length : Int)) = true := by simp [hi]
    have hin1 : i < n := by omega
    have hin2 : (i : Int) < n := by omega
    have hin0 : (0 : Int) ≤ i := by omega
    rw [Vg.Kn.resume_in hi] at hx
    obtain ⟨og, oo, rfl, hog, o1, o2, hco⟩ := h.fk.atO hi
    obtain ⟨hd, hhd⟩ : ∃ b, Vg.Kn.holds K M i = b := ⟨_, rfl⟩
    obtain ⟨ou, hou⟩ : ∃ b, K[i].out = b := ⟨_, rfl⟩
    rw [hou] at hx hco
    clear hin
    cases ou with
    | false =>
      rw [if_pos rfl] at hx
      simp only [Prod.mk.injEq] at hx
      obtain ⟨rfl, rfl⟩ := hx
      have H_h := Lib.hid h; clear h; have H_hm := Lib.hid hm; clear hm; have H_hJ := Lib.hid hJ; clear hJ; have H_hn := Lib.hid hn; clear hn; have H_hhas := Lib.hid hhas; clear hhas; have H_hhd := Lib.hid hhd; clear hhd; have H_hou := Lib.hid hou; clear hou; have H_htk := Lib.hid htk; clear htk
      go_enter Try.func118, Try.ntmps118
      go_wp2_with (first | (go_at_call 75; (with_reducible refine (rf_has i (H_h.out.fk.grows (by (repeat' (first | (with_reducible exact Vg.Grows.refl _) | (with_reducible assumption) | (with_reducible refine Vg.Grows.alloc ?_ _) | (with_reducible refine Vg.Grows.plus ?_ _ _) | (with_reducible refine Vg.Grows.drewN ?_ _) | (with_reducible refine Vg.Grows.drew ?_) | (with_reducible refine Vg.Grows.setCell ?_ ?_ _) | (with_reducible refine Vg.Grows.put ?_ ?_ _) | omega | (simp; omega) | (simp; done)))))).mono ?_); rintro e w1 ⟨rfl, x1, n1, rfl⟩; rw [H_hhas.out]))
      go_returns
      exact ⟨_, _, _, _, _, _, _, _, rfl, (H_h.out.grows (by (repeat' (first | (with_reducible exact Vg.Grows.refl _) | (with_reducible assumption) | (with_reducible refine Vg.Grows.alloc ?_ _) | (with_reducible refine Vg.Grows.plus ?_ _ _) | (with_reducible refine Vg.Grows.drewN ?_ _) | (with_reducible refine Vg.Grows.drew ?_) | (with_reducible refine Vg.Grows.setCell ?_ ?_ _) | (with_reducible refine Vg.Grows.put ?_ ?_ _) | omega | (simp; omega) | (simp; done))))).mono fun k hk => .inl hk, by (repeat' (first | (with_reducible exact Vg.Grows.refl _) | (with_reducible assumption) | (with_reducible refine Vg.Grows.alloc ?_ _) | (with_reducible refine Vg.Grows.plus ?_ _ _) | (with_reducible refine Vg.Grows.drewN ?_ _) | (with_reducible refine Vg.Grows.drew ?_) | (with_reducible refine Vg.Grows.setCell ?_ ?_ _) | (with_reducible refine Vg.Grows.put ?_ ?_ _) | omega | (simp; omega) | (simp; done)))⟩
    | true =>
      rw [if_neg (by simp)] at hx
      simp only [Prod.mk.injEq] at hx
      obtain ⟨hK', rfl⟩ := hx
      obtain ⟨g0, off0, hta, hg0, -⟩ := h.fk.atT hi
      have hSt := h.ta
      have H_hi : i < K.length := hi
      have H_h := Lib.hid h; clear h; have H_hm := Lib.hid hm; clear hm; have H_hJ := Lib.hid hJ; clear hJ; have H_hn := Lib.hid hn; clear hn; have H_hhas := Lib.hid hhas; clear hhas; have H_hhd := Lib.hid hhd; clear hhd; have H_hou := Lib.hid hou; clear hou; have H_htk := Lib.hid htk; clear htk; have H_hK' := Lib.hid hK'; clear hK'; have H_hta := Lib.hid hta; clear hta; have H_hSt := Lib.hid hSt; clear hSt
      go_enter Try.func118, Try.ntmps118
      go_upto_region 7 with (first | (go_at_call 75; (with_reducible refine (rf_has i (H_h.out.fk.grows (by (repeat' (first | (with_reducible exact Vg.Grows.refl _) | (with_reducible assumption) | (with_reducible refine Vg.Grows.alloc ?_ _) | (with_reducible refine Vg.Grows.plus ?_ _ _) | (with_reducible refine Vg.Grows.drewN ?_ _) | (with_reducible refine Vg.Grows.drew ?_) | (with_reducible refine Vg.Grows.setCell ?_ ?_ _) | (with_reducible refine Vg.Grows.put ?_ ?_ _) | omega | (simp; omega) | (simp; done)))))).mono ?_); rintro e w1 ⟨rfl, x1, n1, rfl⟩; rw [H_hhas.out]) | (go_at_call 136; (with_reducible refine (rf_copy (H_h.out.fk.grows (by (repeat' (first | (with_reducible exact Vg.Grows.refl _) | (with_reducible assumption) | (with_reducible refine Vg.Grows.alloc ?_ _) | (with_reducible refine Vg.Grows.plus ?_ _ _) | (with_reducible refine Vg.Grows.drewN ?_ _) | (with_reducible refine Vg.Grows.drew ?_) | (with_reducible refine Vg.Grows.setCell ?_ ?_ _) | (with_reducible refine Vg.Grows.put ?_ ?_ _) | omega | (simp; omega) | (simp; done))))) H_hn.out (by omega) h32 H_hJ.out).mono ?_); rintro e w3 ⟨jg, jo, jc', lg, lo, lc', pg, po, pc', us, rfl, hfo, hus, hg3⟩; have b4 := hg3.blk (b := w.heap.size + 1) (o := rv0) (by go_simp); have hgw := Vg.Grows.trans (a := w) (by (repeat' (first | (with_reducible exact Vg.Grows.refl _) | (with_reducible assumption) | (with_reducible refine Vg.Grows.alloc ?_ _) | (with_reducible refine Vg.Grows.plus ?_ _ _) | (with_reducible refine Vg.Grows.drewN ?_ _) | (with_reducible refine Vg.Grows.drew ?_) | (with_reducible refine Vg.Grows.setCell ?_ ?_ _) | (with_reducible refine Vg.Grows.put ?_ ?_ _) | omega | (simp; omega) | (simp; done)))) hg3; have hB2 := hg3.size; simp only [World.size_alloc, Vg.plus_size, Vg.put_size, World.size_setCell, World.size_drew, World.heap_drewN] at hB2 hfo; have l_pg := (hfo.qo.lt pg rfl).2; have f_pg := hfo.qo.frozen; have c_pg := FO.c_out hfo H_hi; have c_b4 := Vg.cells_of b4; have f_b4 := Vg.frozen_of b4; have p_b4 := Vg.setCell_of b4; have l_b4 := Vg.lt_of b4; have H_b4 := Lib.hid b4; clear b4; have H_hfo := Lib.hid hfo; clear hfo; have H_hus := Lib.hid hus; clear hus; have H_hg3 := Lib.hid hg3; clear hg3; have H_hgw := Lib.hid hgw; clear hgw))
      obtain ⟨p6, p4, hend⟩ := FO.end_out (S := fun k => S k ∨ w.heap.size ≤ k) (t4 := w.heap.size + 1) (w := w) (X := rvC (.slice ta n tc) (.slice (some ⟨jg, jo, none⟩) n jc') (.slice (some ⟨lg, lo, none⟩) n lc') (.slice (some ⟨pg, po, none⟩) n pc')) H_hfo.out hi false H_hgw.out (Nat.le_succ _) (by omega) (by omega) (fun off e => by rw [H_hta.out] at e; simp only [Option.some.injEq, Addr.mk.injEq, and_true] at e; omega) (fun k hk => .inr hk) (fun g off e => .inl (H_hSt.out g off e))
      have p4 := p4 _ H_b4.out
      obtain ⟨W4, hW4⟩ : ∃ W4, (w3.setCell ⟨pg, po + i, none⟩ (.bool false)).alloc (rvC (.slice ta n tc) (.slice (some ⟨jg, jo, none⟩) n jc') (.slice (some ⟨lg, lo, none⟩) n lc') (.slice (some ⟨pg, po, none⟩) n pc')) = W4 := ⟨_, rfl⟩
      rw [hW4] at p6 p4 hend ⊢
      clear hW4 c_pg f_pg
      clear c_b4 f_b4 p_b4
      obtain ⟨b6, hb6⟩ : ∃ b6, w3.heap.size = b6 := ⟨_, rfl⟩
      rw [hb6] at p6 ⊢
      have ne1 : w.heap.size + 1 ≠ b6 := by omega
      have ne2 : b6 ≠ w.heap.size + 1 := by omega
      have c_p6 := Vg.cells_of p6; have f_p6 := Vg.frozen_of p6; have p_p6 := Vg.setCell_of p6; have l_p6 := Vg.lt_of p6; have H_p6 := Lib.hid p6; clear p6; have c_p4 := Vg.cells_of p4; have f_p4 := Vg.frozen_of p4; have p_p4 := Vg.setCell_of p4; have l_p4 := Vg.lt_of p4; have H_p4 := Lib.hid p4; clear p4
      have hpc : ∀ (cs : Array Value) (i : Nat), (Vg.put W4 (w.heap.size + 1) (.cells cs 112)).cell? ⟨w.heap.size + 1, i, none⟩ = cs[i]? := fun cs i => Vg.cells_of (Vg.put_heap_same l_p4) i
      have H_hend := Lib.hid hend; clear hend; have H_hpc := Lib.hid hpc; clear hpc; have H_hb6 := Lib.hid hb6; clear hb6
      go_wp2_with fail
      refine bodyPost_ret (by simp [results, Try.results118, go_sem, H_hpc.out] <;> try rfl) rfl ?_
      rw [← H_hK'.out]
      have hend := H_hend.out (rvC (.slice ta n tc) (.slice (some ⟨jg, jo, none⟩) n jc') (.slice (some ⟨lg, lo, none⟩) n lc') (.slice (some ⟨pg, po, none⟩) n pc'))
      exact ⟨_, _, _, _, _, _, _, _, rfl, hend.1, hend.2⟩
  · rw [Vg.Kn.resume_out (by omega)] at hx
    simp only [Prod.mk.injEq] at hx
    obtain ⟨rfl, rfl⟩ := hx
    have hhas : decide (0 ≤ i ∧ i < (K.length : Int)) = false := decide_eq_false (by omega)
    clear hin
    have H_h := Lib.hid h; clear h; have H_hm := Lib.hid hm; clear hm; have H_hJ := Lib.hid hJ; clear hJ; have H_hn := Lib.hid hn; clear hn; have H_hhas := Lib.hid hhas; clear hhas; have H_htk := Lib.hid htk; clear htk
    go_enter Try.func118, Try.ntmps118
    go_wp2_with ((go_at_call 75; (with_reducible refine (rf_has i (H_h.out.fk.grows (by (repeat' (first | (with_reducible exact Vg.Grows.refl _) | (with_reducible assumption) | (with_reducible refine Vg.Grows.alloc ?_ _) | (with_reducible refine Vg.Grows.plus ?_ _ _) | (with_reducible refine Vg.Grows.drewN ?_ _) | (with_reducible refine Vg.Grows.drew ?_) | (with_reducible refine Vg.Grows.setCell ?_ ?_ _) | (with_reducible refine Vg.Grows.put ?_ ?_ _) | omega | (simp; omega) | (simp; done)))))).mono ?_); rintro e w1 ⟨rfl, x1, n1, rfl⟩; rw [H_hhas.out]))
    go_returns
    exact ⟨_, _, _, _, _, _, _, _, rfl, (H_h.out.grows (by (repeat' (first | (with_reducible exact Vg.Grows.refl _) | (with_reducible assumption) | (with_reducible refine Vg.Grows.alloc ?_ _) | (with_reducible refine Vg.Grows.plus ?_ _ _) | (with_reducible refine Vg.Grows.drewN ?_ _) | (with_reducible refine Vg.Grows.drew ?_) | (with_reducible refine Vg.Grows.setCell ?_ ?_ _) | (with_reducible refine Vg.Grows.put ?_ ?_ _) | omega | (simp; omega) | (simp; done))))).mono fun k hk => .inl hk, by (repeat' (first | (with_reducible exact Vg.Grows.refl _) | (with_reducible assumption) | (with_reducible refine Vg.Grows.alloc ?_ _) | (with_reducible refine Vg.Grows.plus ?_ _ _) | (with_reducible refine Vg.Grows.drewN ?_ _) | (with_reducible refine Vg.Grows.drew ?_) | (with_reducible refine Vg.Grows.setCell ?_ ?_ _) | (with_reducible refine Vg.Grows.put ?_ ?_ _) | omega | (simp; omega) | (simp; done)))⟩
end
end Go.Proofs.Ytiinhofmhoplfaa
