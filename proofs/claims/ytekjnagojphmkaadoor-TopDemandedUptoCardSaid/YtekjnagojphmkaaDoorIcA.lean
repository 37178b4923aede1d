/- Package intc: a controller's value ('IV'), Clone, lines, Check. -/
import Derived.Test.YtekjnagojphmkaaDoorEach
import Derived.Test.YtekjnagojphmkaaDoorCeilP
import Derived.Laws.Cover3
set_option linter.unusedSimpArgs false
set_option linter.unusedVariables false
set_option maxHeartbeats 4000000
set_option maxRecDepth 100000
namespace Go
theorem run_eql_slice_nil' {P : Program} {w : World} (t e : TypeId) (a : Option Addr) (l c : Nat) (h : P.underlying t = some (.slice e)) : (binOp .eql t (.slice a l c) (.slice none 0 0)).run P w = .ok (.bool a.isNone) w := by
  simp only [binOp]
  simp [run_equal_slice_nil w t e a l c h]
end Go
namespace Vg
open Go
theorem IR.of_rd {S : Nat} {w : World} {sa : Option Addr} {n c : Nat} {L : List Int} (h : Reads S w (.slice sa n c) n (ics L)) (hn : L.length = n) : IR w sa c L := by
  subst hn
  rcases h with ⟨h0, h1, h2⟩ | ⟨g, off, cap, h0, h2, h3, h4, h5, h6⟩
  · simp only [Value.slice.injEq] at h0
    obtain ⟨rfl, hl, rfl⟩ := h0
    exact ⟨by omega, Nat.zero_le _, fun k hk => by omega⟩
  · simp only [Value.slice.injEq] at h0
    obtain ⟨rfl, _, rfl⟩ := h0
    exact ⟨h4, h5, fun k hk => ⟨g, off, rfl, h3, by rw [h6 k (by simpa using hk)]; simp [ics]⟩⟩
theorem IR.touch {w w' : World} {t : Nat → Prop} {sa : Option Addr} {c n : Nat} {L : List Int} (h : IR w sa c L) (ht : Touch t w w') (hn : L.length = n) (hv : ∀ k, (Value.slice sa n c).ownBlock = some k → ¬ t k) : IR w' sa c L :=
  ⟨h.1, h.2.1, fun k hk => by
    obtain ⟨g, off, e, hlt, hc⟩ := h.2.2 k hk
    exact ⟨g, off, e, Nat.lt_of_lt_of_le hlt ht.size, (World.cell?_of_block (w := w) (ht.block g hlt (hv g (by rw [e]; rfl)))).trans hc⟩⟩
end Vg
namespace Go.Proofs.YtekjnagojphmkaaDoor
open Go.ChangeShapes Go.WideShapes Go.ChangeAt Go.RowKit
attribute [local go_sem] Go.run_eql_slice_nil'
theorem Tryd.info_int5 : (Tryd.prog.info? 3).map (fun i => (i.zero, i.size, i.bytes)) = some (some (.int .i64 0), 1, 8) := by kernel_rfl
/-- A controller's cells. -/
abbrev icL (pe en ed : Nat) (pa : Option Addr) (n pc : Nat) (sa : Option Addr) (m sc : Nat) : List Value := [.int .u64 pe, .int .u64 en, .int .u64 0, .int .u64 ed, .slice pa n pc, .int .i64 0, .slice sa m sc]
abbrev icV (pe en ed : Nat) (pa : Option Addr) (n pc : Nat) (sa : Option Addr) (m sc : Nat) : Value := .agg #[.int .u64 pe, .int .u64 en, .int .u64 0, .int .u64 ed, .slice pa n pc, .int .i64 0, .slice sa m sc]
abbrev icO (pe en ed : Nat) (pa : Option Addr) (n pc : Nat) (sa : Option Addr) (m sc : Nat) : Obj := .cells #[.int .u64 pe, .int .u64 en, .int .u64 0, .int .u64 ed, .slice pa n pc, .int .i64 0, .slice sa m sc] 77
abbrev dkO (pe en ed : Nat) (pa : Option Addr) (n pc : Nat) (sa : Option Addr) (m sc : Nat) : Obj := .cells #[.int .u64 pe, .int .u64 en, .int .u64 0, .int .u64 ed, .slice pa n pc, .int .i64 0, .slice sa m sc] 153
/-- What a controller's slices read as. -/
structure IS (w : World) (c : Vg.Ic) (n m : Nat) (pa : Option Addr) (pc : Nat) (sa : Option Addr) (sc : Nat) : Prop where
  ok : c.Ok n
  m : c.st.length = m
  p : Vg.IR w pa pc c.pr
  s : Vg.IR w sa sc (Vg.ic c.st)
section
variable {w w' : World} {c : Vg.Ic} {n m ed pc sc : Nat} {pa sa : Option Addr} {L : List Int}
theorem IS.grows (h : IS w c n m pa pc sa sc) (hg : Vg.Grows w w') : IS w' c n m pa pc sa sc := ⟨h.ok, h.m, h.p.grows hg, h.s.grows hg⟩
theorem IS.caps (h : IS w c n m pa pc sa sc) : n ≤ pc ∧ pc ≤ 9223372036854775807 ∧ m ≤ sc ∧ sc ≤ 9223372036854775807 := by
  have h1 := h.p.1
  have h2 : pc ≤ 9223372036854775807 := h.p.2.1
  have h3 := h.s.1
  have h4 : sc ≤ 9223372036854775807 := h.s.2.1
  rw [h.ok.len] at h1
  rw [Vg.ic_len, h.m] at h3
  exact ⟨h1, h2, h3, h4⟩
theorem IS.pcell (h : IS w c n m pa pc sa sc) (k : Nat) (hk : k < n) : ∃ g off, pa = some ⟨g, off, none⟩ ∧ g < w.heap.size ∧ w.cell? ⟨g, off + k, none⟩ = some (.int .i64 (c.prio k)) := by
  obtain ⟨g, off, e, hg, hc⟩ := h.p.2.2 k (by rw [h.ok.len]; exact hk)
  rw [← h.ok.prio_at hk] at hc
  exact ⟨g, off, e, hg, hc⟩
theorem IS.scell (h : IS w c n m pa pc sa sc) (k : Nat) (hk : k < m) : ∃ g off, ∃ hk' : k < c.st.length, sa = some ⟨g, off, none⟩ ∧ g < w.heap.size ∧ w.cell? ⟨g, off + k, none⟩ = some (.int .i64 (c.st[k] : Nat)) := by
  have hk' : k < c.st.length := by rw [h.m]; exact hk
  obtain ⟨g, off, e, hg, hc⟩ := h.s.2.2 k (by rw [Vg.ic_len]; exact hk')
  rw [Vg.ic_at] at hc
  exact ⟨g, off, hk', e, hg, hc⟩
theorem IS.put (h : IS w c n m pa pc sa sc) {b : Nat} (h1 : ∀ k, (Value.slice pa n pc).ownBlock = some k → k ≠ b) (h2 : ∀ k, (Value.slice sa m sc).ownBlock = some k → k ≠ b) (o : Obj) : IS (Vg.put w b o) c n m pa pc sa sc :=
  ⟨h.ok, h.m, h.p.touch (t := fun k => k = b) (Vg.Touch.put (t := fun k => k = b) (Vg.Touch.refl _ _) rfl o) h.ok.len h1, h.s.touch (t := fun k => k = b) (Vg.Touch.put (t := fun k => k = b) (Vg.Touch.refl _ _) rfl o) (by rw [Vg.ic_len]; exact h.m) h2⟩
theorem clone (hr : Vg.IR w pa pc L) (hn : L.length = n) (hb : n ≤ 17592186044416) :
    Calls Tryd.prog 60 #[.slice pa n pc] w fun e w' => ∃ a c, e = .returned (.slice a n c) ∧ Vg.IR w' a c L ∧ (∀ k, (Value.slice a n c).ownBlock = some k → w.heap.size ≤ k ∧ k < w'.heap.size) ∧ Vg.Que w' w.heap.size 3 1 (.slice a n c) n (Vg.ics L) ∧ Vg.Grows w w' := by
  obtain ⟨i0, hi, hz0, hz1, hz2⟩ := info_parts Tryd.info_int5
  cases pa with
  | none =>
    have hL : L = [] := by
      cases L with
      | nil => rfl
      | cons x l =>
        obtain ⟨g, off, e, -⟩ := hr.2.2 0 (by simp)
        cases e
    subst hL
    simp only [List.length_nil] at hn
    subst hn
    go_enter Tryd.func60, Tryd.ntmps60
    go_wp2
    go_ret
    exact ⟨none, 0, rfl, Vg.IR.nil _, by simp [Value.ownBlock], Vg.Que.nil _ _ _ _, by (repeat' (first | (with_reducible exact Vg.Grows.refl _) | (with_reducible assumption) | (with_reducible refine Vg.Grows.alloc ?_ _) | (with_reducible refine Vg.Grows.plus ?_ _ _) | (with_reducible refine Vg.Grows.drewN ?_ _) | (with_reducible refine Vg.Grows.drew ?_) | (with_reducible refine Vg.Grows.setCell ?_ ?_ _) | (with_reducible refine Vg.Grows.put ?_ ?_ _) | omega | (simp; omega) | (simp; done)))⟩
  | some ad =>
    have hc := hr.1
    have hm : pc ≤ 9223372036854775807 := hr.2.1
    rw [hn] at hc
    have H_hr := Lib.hid hr; clear hr; have H_hn := Lib.hid hn; clear hn
    go_enter Tryd.func60, Tryd.ntmps60
    go_wp2_with (at_builtin; (refine Vg.wpList_appI (W0 := _) ((Vg.Grows.refl _).alloc _) rfl (.tmp 5) (.tmp 6) 29 rfl _ (Nat.le_refl _) (by (try simp only [World.size_alloc, Vg.plus_size, Vg.put_size, World.size_setCell, World.size_drew]) <;> omega) 3 i0 (.int .i64 0) 8 Tryd.underlying29 hi hz0 hz1 hz2 rfl _ _ _ rfl (Vg.owns_made0 (by (try simp only [World.size_alloc, Vg.plus_size, Vg.put_size, World.size_setCell, World.size_drew]) <;> omega)) (some ad) n pc L rfl (H_hr.out.grows (by (repeat' (first | (with_reducible exact Vg.Grows.refl _) | (with_reducible assumption) | (with_reducible refine Vg.Grows.alloc ?_ _) | (with_reducible refine Vg.Grows.plus ?_ _ _) | (with_reducible refine Vg.Grows.drewN ?_ _) | (with_reducible refine Vg.Grows.drew ?_) | (with_reducible refine Vg.Grows.setCell ?_ ?_ _) | (with_reducible refine Vg.Grows.put ?_ ?_ _) | omega | (simp; omega) | (simp; done))))) H_hn.out (by simp) (by unfold maxLen; omega) (by omega) ?_); intro v' y' m' hown' hsz'; obtain ⟨a', c', rfl⟩ := Vg.owns_shape hown'; have H_hown' := Lib.hid hown'; clear hown')
    go_ret
    have h9 := Vg.Que.of_owns H_hown'.out
    simp only [List.nil_append, Nat.zero_add] at h9
    refine ⟨a', c', by simp, Vg.IR.of_rd h9.reads H_hn.out, fun k hk => ?_, h9, by (repeat' (first | (with_reducible exact Vg.Grows.refl _) | (with_reducible assumption) | (with_reducible refine Vg.Grows.alloc ?_ _) | (with_reducible refine Vg.Grows.plus ?_ _ _) | (with_reducible refine Vg.Grows.drewN ?_ _) | (with_reducible refine Vg.Grows.drew ?_) | (with_reducible refine Vg.Grows.setCell ?_ ?_ _) | (with_reducible refine Vg.Grows.put ?_ ?_ _) | omega | (simp; omega) | (simp; done)))⟩
    exact h9.lt k hk
end
end Go.Proofs.YtekjnagojphmkaaDoor
