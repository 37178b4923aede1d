/- Package irq: contracts over one plain state ('QS'). -/
import Derived.Test.YtekjnagojphmkaaDoorIrqD
set_option linter.unusedSimpArgs false
set_option linter.unusedVariables false
set_option maxHeartbeats 4000000
set_option maxRecDepth 100000
namespace Vg
open Go
def Iq.raise (s : Iq) (i : Nat) (y : Ln) (top bot : Int) : Iq × Int :=
  if s.c.pe.testBit i = true then (s.setl i { y with lost := y.lost + 1 }, 4) else (⟨s.c.raise i, s.ls.set i { y with top := top, bot := bot }, s.S, s.last⟩, 0)
def Iq.left (s : Iq) : Int := match s.S.getLast? with | none => 0 | some y => y.left
end Vg
namespace Go.Proofs.YtekjnagojphmkaaDoor
open Go.ChangeShapes Go.WideShapes Go.ChangeAt Go.RowKit
section
variable {w w' w1 : World} {b lo n : Nat} {s s' : Vg.Iq} {OB : Nat → Prop} {x : Int} {y : Vg.Ln}
theorem qs_left (h : QS w b lo n s OB) (hx : s.left = x) : Calls Tryd.prog 10 #[.pointer (some ⟨b, 0, none⟩)] w fun e w' => e = .returned (.int .i64 x) ∧ w = w' := by
  obtain ⟨⟨xs, mk, lv, sv, pa, pc, sa, sc, ow, h1, h2⟩, h3⟩ := h
  exact irq_left h1 hx
theorem qs_served (i : Nat) (h : QS w b lo n s OB) (hi : s.ls[i]? = some y) : Calls Tryd.prog 13 #[.pointer (some ⟨b, 0, none⟩), .int .i64 i] w fun e w' => e = .returned (.int .i64 y.srv) ∧ w = w' := by
  obtain ⟨⟨xs, mk, lv, sv, pa, pc, sa, sc, ow, h1, h2⟩, h3⟩ := h
  exact irq_served i h1 hi
theorem qs_lost (i : Nat) (h : QS w b lo n s OB) (hi : s.ls[i]? = some y) : Calls Tryd.prog 14 #[.pointer (some ⟨b, 0, none⟩), .int .i64 i] w fun e w' => e = .returned (.int .i64 y.lost) ∧ w = w' := by
  obtain ⟨⟨xs, mk, lv, sv, pa, pc, sa, sc, ow, h1, h2⟩, h3⟩ := h
  exact irq_lost i h1 hi
theorem qs_raise (i : Nat) (top bot : Int) (h : QS w b lo n s OB) (hi : s.ls[i]? = some y) (h1 : 1 ≤ top ∧ top ≤ 1099511627776) (h3 : 0 ≤ bot ∧ bot ≤ 1099511627776) (hlo : 0 ≤ y.lost ∧ y.lost ≤ 4611686018427387904) (hx : s.raise i y top bot = (s', x)) :
    Calls Tryd.prog 7 #[.pointer (some ⟨b, 0, none⟩), .int .i64 i, .int .i64 top, .int .i64 bot] w fun e w' => e = .returned (.int .i64 x) ∧ QSn w w' b lo n s' OB := by
  have h0 := h
  obtain ⟨⟨xs, mk, lv, sv, pa, pc, sa, sc, ow, h5, h6⟩, h7⟩ := h
  have hb := h6 b (by rw [h5.ob]; omega)
  have hl : ∀ k, lv.ownBlock = some k → OB k := fun k hk => h6 k (by rw [h5.ol k hk]; omega)
  unfold Vg.Iq.raise at hx
  split at hx
  · rename_i hp
    simp only [Prod.mk.injEq] at hx
    obtain ⟨rfl, rfl⟩ := hx
    refine (irq_raise_no i top bot h5 hi h1.1 h1.2 h3.1 h3.2 hp hlo).mono ?_
    rintro e w' ⟨rfl, ⟨ys, h8⟩, ht⟩
    exact ⟨rfl, QSn.of h0 h8 (fun k hk => .inl (h6 k hk)) (ht.mono fun k _ hk => hl k hk)⟩
  · rename_i hp
    simp only [Prod.mk.injEq] at hx
    obtain ⟨rfl, rfl⟩ := hx
    refine (irq_raise i top bot h5 hi h1.1 h1.2 h3.1 h3.2 (by simpa using hp)).mono ?_
    rintro e w' ⟨rfl, ⟨ys, pa', pc', sa', sc', ow', h8, h9⟩, ht⟩
    exact ⟨rfl, QSn.of h0 h8 (fun k hk => (h9 k hk).imp (h6 k) id) (ht.mono fun k _ hk => hk.elim (fun e => by rw [e]; exact hb) (hl k))⟩
theorem qs_run (cy : Int) (h : QS w b lo n s OB) {L : List Vg.Bg} {y : Vg.Bg} (hS : s.S = L ++ [y]) (h0 : 0 ≤ cy) (h1 : cy < y.left) (h2 : y.left ≤ 1099511627776) :
    Calls Tryd.prog 11 #[.pointer (some ⟨b, 0, none⟩), .int .i64 cy] w fun e w' => e = .returned (.tuple #[toppedV 0 0, .bool false, .int .i64 0]) ∧ QSn w w' b lo n { s with S := L ++ [{ y with left := y.left - cy }] } OB := by
  have hh := h
  obtain ⟨⟨xs, mk, lv, sv, pa, pc, sa, sc, ow, h5, h6⟩, h7⟩ := h
  have hb := h6 b (by rw [h5.ob]; omega)
  have hl : ∀ k, sv.ownBlock = some k → OB k := fun k hk => h6 k (by rw [h5.os k hk]; omega)
  refine (irq_run_some cy h5 hS h0 h1 h2).mono ?_
  rintro e w' ⟨rfl, ⟨ow', h8, h9⟩, ht⟩
  exact ⟨rfl, QSn.of hh h8 (fun k hk => (h9 k hk).imp (h6 k) id) (ht.mono fun k _ hk => hk.elim (fun e => by rw [e]; exact hb) (hl k))⟩
theorem qs_run_done (h : QS w b lo n s OB) {L : List Vg.Bg} {y : Vg.Bg} (hS : s.S = L ++ [y]) (h0 : 0 ≤ y.left) (h2 : y.left ≤ 1099511627776) {cy : Int} (hcy : y.left = cy) {k : Nat} {bo : Int} (hk : y.k = k) (hbo : y.bot = bo) :
    Calls Tryd.prog 11 #[.pointer (some ⟨b, 0, none⟩), .int .i64 cy] w fun e w' => e = .returned (.tuple #[toppedV k bo, .bool true, .int .i64 0]) ∧ QSn w w' b lo n { s with c := s.c.fin, S := L } OB := by
  subst hcy hk hbo
  have hh := h
  obtain ⟨⟨xs, mk, lv, sv, pa, pc, sa, sc, ow, h5, h6⟩, h7⟩ := h
  have hb := h6 b (by rw [h5.ob]; omega)
  have hl : ∀ k, sv.ownBlock = some k → OB k := fun k hk => h6 k (by rw [h5.os k hk]; omega)
  refine (irq_run_done h5 hS h0 h2).mono ?_
  rintro e w' ⟨rfl, ⟨pa', pc', sa', sc', sv', ow', h8, h9⟩, ht⟩
  exact ⟨rfl, QSn.of hh h8 (fun k hk => (h9 k hk).imp (h6 k) id) (ht.mono fun k _ hk => hk.elim (fun e => by rw [e]; exact hb) (hl k))⟩
end
end Go.Proofs.YtekjnagojphmkaaDoor
