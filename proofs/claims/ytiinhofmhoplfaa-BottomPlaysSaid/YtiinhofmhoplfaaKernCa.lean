/- append(empty, all of another slice) as one step of a region that draws: a copy in a block of its own. No program is named here. -/
import Derived.Test.YtiinhofmhoplfaaBotN
set_option linter.unusedSimpArgs false
set_option linter.unusedVariables false
set_option maxHeartbeats 4000000
set_option maxRecDepth 100000
namespace Vg
open Go Go.RowKit
/-- z begins with news, m elements of so many cells, and has room for c. -/
structure Cpy (z : Array Value) (size m c : Nat) (news : List Value) : Prop where
  l : news.length = m * size
  c1 : m ≤ c
  c2 : c ≤ maxLen
  c3 : c * size ≤ z.size
  tk : z.toList.take (m * size) = news
theorem Cpy.que {w : World} {z : Array Value} {size m c B g : Nat} {e : TypeId} {news : List Value} (h : Cpy z size m c news) (hb : blk w g = some (.cells z e)) (hB : B ≤ g) : Que w B e size (.slice (some ⟨g, 0, none⟩) m c) m news :=
  ⟨h.l, .inr ⟨g, 0, c, z, rfl, hB, hb, h.c1, h.c2, by rw [Nat.zero_add]; exact h.c3, by simpa using h.tk⟩⟩
theorem setRow_same {w : World} {g : Nat} {cur : Array Value} {t : TypeId} {fr : Nat × Nat} (hg : w.heap[g]? = some (.cells cur t fr)) : w.setRow g cur = w := by
  unfold World.setRow
  have : w.heap.modify g (fun | .cells _ elem frozen => .cells cur elem frozen | o => o) = w.heap := by
    apply Array.ext
    · simp
    · intro i h1 h2
      rw [Array.getElem_modify]
      split
      · rename_i hgi
        subst hgi
        have := (Array.getElem?_eq_some_iff.1 hg).2
        rw [this]
      · rfl
  exact congrArg (fun h => { w with heap := h }) this
section
variable {P : Program} {ops : Array Oper} {o : Oper} {a : Act} {w : World} {K : Act → World → Prop} {Q : Exit → Act → World → Prop} {E : Prop}
/-- Of m > 0 elements: a new block. -/
theorem step_copy (hg : o.guard = none) (s x : Operand) (t : TypeId) (hop : o.op = Op.call { callee := Callee.builtin Builtin.append, args := #[s, x], argTypes := #[t, t] })
    (e : TypeId) (i : TypeInfo) (z : Value) (size bytes : Nat) (ht : P.underlying t = some (.slice e)) (hi : P.info? e = some i) (hz : i.zero = some z)
    (hsize : i.size = size) (hby : i.bytes = bytes) (hzs : z.cells.size = size)
    (b : Addr) (hs : a.eval s = .slice (some b) 0 0) (S : Nat) (sa : Option Addr) (m c : Nat) (news : List Value) (hx : a.eval x = .slice sa m c) (hr : Reads S w (.slice sa m c) m news) (hl : news.length = m * size) (hm : 0 < m)
    (h63 : m ≤ maxLen) (hbytes : m * bytes ≤ 140737488355328)
    (hK : ∀ c' zc g', g' = w.heap.size → Cpy zc size m c' news → K (a.put o.dst (.slice (some ⟨g', 0, none⟩) m c')) (w.drew.alloc (.cells zc e))) :
    if Region.wanted o (yielded ops a.tmps) = true then Oper.wp P o a w K Q else E := by
  have hw : Region.wanted o (yielded ops a.tmps) = true := by simp [Region.wanted, hg]
  rw [if_pos hw]
  subst hsize hby
  rcases hr with ⟨h0, h1, h2⟩ | ⟨g, off, cap, hsv, _, _, _, _, hc⟩
  · omega
  · simp only [Value.slice.injEq] at hsv
    obtain ⟨rfl, _, rfl⟩ := hsv
    have hr := run_append_grow (P := P) (w := w) t o.type e i z ht hi hz b 0 0 [] (by simp) (by simp) ⟨g, off, none⟩ m c news hl (Reads.news hc) (by omega) (by simp only [maxLen] at h63; omega) (growslice_fits (by omega) (by rw [Nat.zero_add]; exact hbytes))
    simp only [Nat.zero_add] at hr
    have hge := grownCap_ge w m 0 e
    have hcm' : grownCap w m 0 e ≤ maxLen := grownCap_le_maxLen w m 0 e h63
    unfold Oper.wp
    simp only [execOp, hop, resolve, invoke, builtin, Sem.run_bind, Sem.run_pure, Result.andThen_ok, List.map_toArray, List.map_cons, List.map_nil, hs, hx, hr]
    refine hK _ _ _ rfl ⟨hl, hge, hcm', ?_, ?_⟩
    · simp only [Array.size_append, List.size_toArray, List.length_nil, size_zeroCells, hzs, hl, ← Nat.add_mul, Nat.zero_add]
      exact Nat.mul_le_mul_right _ (by omega)
    · simp only [Array.toList_append, List.nil_append]
      rw [← hl]
      exact List.take_left
/-- Of none: nothing is done. -/
theorem step_copy0 (hg : o.guard = none) (s x : Operand) (t : TypeId) (hop : o.op = Op.call { callee := Callee.builtin Builtin.append, args := #[s, x], argTypes := #[t, t] })
    (e : TypeId) (i : TypeInfo) (ht : P.underlying t = some (.slice e)) (hi : P.info? e = some i)
    (g : Nat) (hs : a.eval s = .slice (some ⟨g, 0, none⟩) 0 0) (hb : blk w g = some (.cells #[] e)) (sa : Option Addr) (c : Nat) (hx : a.eval x = .slice sa 0 c)
    (hK : K (a.put o.dst (.slice (some ⟨g, 0, none⟩) 0 0)) w) :
    if Region.wanted o (yielded ops a.tmps) = true then Oper.wp P o a w K Q else E := by
  have hw : Region.wanted o (yielded ops a.tmps) = true := by simp [Region.wanted, hg]
  rw [if_pos hw]
  cases sa with
  | none =>
    have hr : (Builtin.append_ #[t, t] o.type #[.slice (some ⟨g, 0, none⟩) 0 0, .slice none 0 c]).run P w = .ok (.slice (some ⟨g, 0, none⟩) 0 0) w := by
      simp [Builtin.append_, run_underlying ht, Go.sizeOf, typeInfo, hi, Builtin.lenOf, Builtin.firstCells, storeCells]
    unfold Oper.wp
    simp only [execOp, hop, resolve, invoke, builtin, Sem.run_bind, Sem.run_pure, Result.andThen_ok, List.map_toArray, List.map_cons, List.map_nil, hs, hx, hr]
    exact hK
  | some ad =>
    have hr := run_append_room (P := P) (w := w) t o.type e i ht hi g 0 0 #[] hb ad 0 c [] (by simp) (by simp) (by simp) (by omega) (by simp)
    have hsame : ∀ z : Array Value, z = #[] → w.setRow g z = w := fun z hz => by subst hz; exact setRow_same hb
    rw [hsame _ (by simp)] at hr
    unfold Oper.wp
    simp only [execOp, hop, resolve, invoke, builtin, Sem.run_bind, Sem.run_pure, Result.andThen_ok, List.map_toArray, List.map_cons, List.map_nil, hs, hx, hr]
    exact hK
end
end Vg
