/- Boxes as words on worlds ('BX': a box lies at block b, its ring at block g); New, Post, Fetch, Len, Lost. -/
import Derived.Test.YtiinhofmhoplfaaMbox
import Derived.Test.YtiinhofmhoplfaaServerA
set_option linter.unusedSimpArgs false
set_option linter.unusedVariables false
set_option maxHeartbeats 400000
set_option maxRecDepth 20000
namespace Vg
open Go
structure Bx where
  L : List Int
  lost : Int
def Bx.post (s : Bx) (room : Nat) (x : Int) : Bx × Int := if s.L.length = room then (⟨s.L, s.lost + 1⟩, 5) else (⟨s.L ++ [x], s.lost⟩, 0)
def Bx.fetch (s : Bx) : Bx × Int × Int := match s.L with | [] => (s, 0, 3) | t :: ts => (⟨ts, s.lost⟩, t, 0)
end Vg
namespace Go.Proofs.Ytiinhofmhoplfaa
open Go.ChangeShapes Go.WideShapes Go.ChangeAt Go.RowKit
/-- A box lies at block b, its ring at block g. -/
def BX (w : World) (b g room : Nat) (s : Vg.Bx) : Prop :=
  ∃ R first, Vg.blk w b = some (boxC g room first s.L.length s.lost) ∧ Vg.blk w g = some (ringC R room) ∧ Vg.Rings R room first s.L
section
variable {w w' : World} {b g room : Nat} {s : Vg.Bx}
theorem BX.kept (h : BX w b g room s) (hb : Vg.blk w' b = Vg.blk w b) (hg : Vg.blk w' g = Vg.blk w g) : BX w' b g room s := by
  obtain ⟨R, first, h1, h2, h3⟩ := h
  exact ⟨R, first, hb.trans h1, hg.trans h2, h3⟩
theorem BX.lt (h : BX w b g room s) : b < w.heap.size := by obtain ⟨R, first, h1, h2, h3⟩ := h; exact Vg.lt_of h1
theorem BX.ltg (h : BX w b g room s) : g < w.heap.size := by obtain ⟨R, first, h1, h2, h3⟩ := h; exact Vg.lt_of h2
theorem BX.len (h : BX w b g room s) : s.L.length ≤ room ∧ 1 ≤ room ∧ room ≤ 1024 := by obtain ⟨R, first, h1, h2, h3⟩ := h; exact ⟨h3.2.2.2.1, h3.1, h3.2.1⟩
theorem BX.grows (h : BX w b g room s) (hg : Vg.Grows w w') : BX w' b g room s := by
  have hl := h.lt
  have hl2 := h.ltg
  obtain ⟨x, n, rfl⟩ := hg
  exact h.kept (Vg.blk_plus hl) (Vg.blk_plus hl2)
theorem BX.touch {t : Nat → Prop} (h : BX w b g room s) (ht : Vg.Touch t w w') (hb : ¬ t b) (hg : ¬ t g) : BX w' b g room s :=
  h.kept (ht.block b h.lt hb) (ht.block g h.ltg hg)
theorem BX.put {bw : Nat} {o : Obj} (h : BX w b g room s) (hb : bw ≠ b) (hg : bw ≠ g) : BX (Vg.put w bw o) b g room s :=
  h.kept (Vg.put_heap_other hb) (Vg.put_heap_other hg)
theorem touch_of_put {t : Nat → Prop} {o : Obj} (hb : t b) (hg : Vg.Grows (Vg.put w b o) w') : Vg.Touch t w w' :=
  ((Vg.Touch.refl t w).put hb o).trans (Vg.Touch.of_grows hg)
theorem touch_of_put2 {t : Nat → Prop} {o o' : Obj} (hb : t b) (hb' : t g) (hg : Vg.Grows (Vg.put (Vg.put w b o) g o') w') : Vg.Touch t w w' :=
  (((Vg.Touch.refl t w).put hb o).put hb' o').trans (Vg.Touch.of_grows hg)
theorem bx_new_no (room : Int) (h : room < 1 ∨ 1024 < room) :
    Calls Try.prog 83 #[.int .i64 room] w fun e w' => e = .returned (.tuple #[.pointer none, .int .i64 1]) ∧ w = w' := by
  by_cases h1 : room < 1
  · clear h
    go_enter Try.func83, Try.ntmps83
    go_wp2
    go_ret2
    exact ⟨rfl, rfl⟩
  have h2 : 1024 < room := by omega
  clear h
  go_enter Try.func83, Try.ntmps83
  go_wp2
  go_ret2
  exact ⟨rfl, rfl⟩
theorem bx_new (room : Nat) (h1 : 1 ≤ room) (h2 : room ≤ 1024) :
    Calls Try.prog 83 #[.int .i64 room] w fun e w' => e = .returned (.tuple #[.pointer (some ⟨w.heap.size + 1, 0, none⟩), .int .i64 0]) ∧ BX w' (w.heap.size + 1) w.heap.size room ⟨[], 0⟩ ∧ w' = (w.alloc (ringC (fun _ => 0) room)).alloc (boxC w.heap.size room 0 0 0) := by
  have hmk : ∀ wx : World, (Instr.makeSlice 46 (.int .i64 room) (.int .i64 room)).run Try.prog wx = .ok (.slice (some ⟨wx.heap.size, 0, none⟩) room room) (wx.alloc (.cells (Vg.intArr (fun _ => 0) room) 2)) := fun wx => by
    have := run_make_row' (P := Try.prog) 46 2 (.int .i64 0) 8 Try.underlying46 Try.info_i64 rfl .i64 .i64 room (by omega) (by omega) wx
    rw [this, Vg.madeCells_int]
  go_enter Try.func83, Try.ntmps83
  go_wp2
  go_ret2
  refine ⟨rfl, ⟨fun _ => 0, 0, Vg.alloc_heap_at (by simp), (Vg.alloc_heap_past (by simp)).trans (Vg.alloc_heap_at rfl), h1, h2, by omega, by simp, fun i hi => by simp at hi⟩, rfl⟩
theorem bx_post (x : Int) (h : BX w b g room s) (hne : b ≠ g) (hl : 0 ≤ s.lost ∧ s.lost ≤ 4611686018427387904) :
    Calls Try.prog 84 #[.pointer (some ⟨b, 0, none⟩), .int .i64 x] w fun e w' => e = .returned (.int .i64 (s.post room x).2) ∧ BX w' b g room (s.post room x).1 ∧ Vg.Touch (fun k => k = b ∨ k = g) w w' := by
  obtain ⟨R, first, h1, h2, h3⟩ := h
  obtain ⟨L, lost⟩ := s
  simp only [] at h1 h3 hl
  have hm := h3.2.1
  have hlm := h3.2.2.2.1
  have hb := Vg.lt_of h1
  have hg := Vg.lt_of h2
  have hne2 : g ≠ b := Ne.symm hne
  by_cases hf : L.length = room
  · have e0 : Vg.Bx.post ⟨L, lost⟩ room x = (⟨L, lost + 1⟩, 5) := by unfold Vg.Bx.post; rw [if_pos hf]
    rw [e0]
    have hd : decide (L.length = room) = true := by simp [hf]
    obtain ⟨c0, c1, c2, c3⟩ := box_cells h1
    have hp := Vg.setCell_of h1
    have hfz := Vg.frozen_of h1
    have H_h1 := Lib.hid h1; clear h1; have H_h2 := Lib.hid h2; clear h2; have H_hf := Lib.hid hf; clear hf; have H_hd := Lib.hid hd; clear hd; have H_e0 := Lib.hid e0; clear e0
    go_enter Try.func84, Try.ntmps84
    go_wp2_with ((go_at_call 125; refine (ring_full (by exact H_h1.out) hm (by omega)).mono ?_; rintro e w' ⟨rfl, k1, rfl⟩; rw [H_hd.out]))
    go_ret
    have hg1 : Vg.Grows (Vg.put w b (boxC g room first L.length (lost + 1))) ((Vg.put w b (boxC g room first L.length (lost + 1))).drewN k1) := Vg.Grows.drewN (Vg.Grows.refl _) _
    exact ⟨rfl, BX.grows ⟨R, first, Vg.put_heap_same hb, (Vg.put_heap_other hne).trans H_h2.out, h3⟩ hg1, touch_of_put (.inl rfl) hg1⟩
  · have e0 : Vg.Bx.post ⟨L, lost⟩ room x = (⟨L ++ [x], lost⟩, 0) := by unfold Vg.Bx.post; rw [if_neg hf]
    rw [e0]
    have hd : decide (L.length = room) = false := by simp [hf]
    have hlt : L.length < room := by omega
    have H_h1 := Lib.hid h1; clear h1; have H_h2 := Lib.hid h2; clear h2; have H_hf := Lib.hid hf; clear hf; have H_hd := Lib.hid hd; clear hd; have H_e0 := Lib.hid e0; clear e0
    go_enter Try.func84, Try.ntmps84
    go_wp2_with (first | (go_at_call 125; refine (ring_full (by exact H_h1.out) hm (by omega)).mono ?_; rintro e w' ⟨rfl, k1, rfl⟩; rw [H_hd.out]) | (go_at_call 126; refine (ring_push x L (by exact H_h1.out) (by exact H_h2.out) hne h3 hlt).mono ?_; rintro e w' ⟨R', h3', rfl, xx, nn, rfl⟩))
    go_ret
    have hg1 : Vg.Grows (Vg.put (Vg.put w b (boxC g room first (L.length + 1) lost)) g (ringC R' room)) (Vg.plus (Vg.put (Vg.put (w.drewN k1) b (boxC g room first (L.length + 1) lost)) g (ringC R' room)) xx nn) := by
      rw [Vg.put_drewN, Vg.put_drewN]
      (repeat' (first | (with_reducible exact Vg.Grows.refl _) | (with_reducible assumption) | (with_reducible refine Vg.Grows.alloc ?_ _) | (with_reducible refine Vg.Grows.plus ?_ _ _) | (with_reducible refine Vg.Grows.drewN ?_ _) | (with_reducible refine Vg.Grows.drew ?_) | (with_reducible refine Vg.Grows.setCell ?_ ?_ _) | (with_reducible refine Vg.Grows.put ?_ ?_ _) | omega | (simp; omega) | (simp; done)))
    refine ⟨rfl, BX.grows ⟨R', first, ?_, Vg.put_heap_same (by rw [Vg.put_size]; exact hg), h3'⟩ hg1, touch_of_put2 (.inl rfl) (.inr rfl) hg1⟩
    rw [Vg.blk_put_other hne2, Vg.blk_put_same hb]
    simp
theorem bx_fetch (h : BX w b g room s) (hne : b ≠ g) :
    Calls Try.prog 86 #[.pointer (some ⟨b, 0, none⟩)] w fun e w' => e = .returned (.tuple #[.int .i64 s.fetch.2.1, .int .i64 s.fetch.2.2]) ∧ BX w' b g room s.fetch.1 ∧ Vg.Touch (fun k => k = b ∨ k = g) w w' := by
  obtain ⟨R, first, h1, h2, h3⟩ := h
  obtain ⟨L, lost⟩ := s
  cases L with
  | nil =>
    have e0 : Vg.Bx.fetch ⟨[], lost⟩ = (⟨[], lost⟩, 0, 3) := rfl
    rw [e0]
    have H_h1 := Lib.hid h1; clear h1; have H_h2 := Lib.hid h2; clear h2; have H_e0 := Lib.hid e0; clear e0
    go_enter Try.func86, Try.ntmps86
    go_wp2_with ((go_at_call 127; refine (ring_pull_none (by exact H_h1.out)).mono ?_; rintro e w' ⟨rfl, xx, nn, rfl⟩))
    go_ret2
    have hg1 : Vg.Grows w (Vg.plus w xx nn) := by (repeat' (first | (with_reducible exact Vg.Grows.refl _) | (with_reducible assumption) | (with_reducible refine Vg.Grows.alloc ?_ _) | (with_reducible refine Vg.Grows.plus ?_ _ _) | (with_reducible refine Vg.Grows.drewN ?_ _) | (with_reducible refine Vg.Grows.drew ?_) | (with_reducible refine Vg.Grows.setCell ?_ ?_ _) | (with_reducible refine Vg.Grows.put ?_ ?_ _) | omega | (simp; omega) | (simp; done)))
    exact ⟨rfl, BX.grows ⟨R, first, H_h1.out, H_h2.out, h3⟩ hg1, Vg.Touch.of_grows hg1⟩
  | cons t ts =>
    have e0 : Vg.Bx.fetch ⟨t :: ts, lost⟩ = (⟨ts, lost⟩, t, 0) := rfl
    rw [e0]
    have hb := Vg.lt_of h1
    have H_h1 := Lib.hid h1; clear h1; have H_h2 := Lib.hid h2; clear h2; have H_e0 := Lib.hid e0; clear e0
    go_enter Try.func86, Try.ntmps86
    go_wp2_with ((go_at_call 127; refine (ring_pull_some t ts (by exact H_h1.out) (by exact H_h2.out) hne h3).mono ?_; rintro e w' ⟨rfl, xx, nn, rfl⟩))
    go_ret2
    have hg1 : Vg.Grows (Vg.put w b (boxC g room ((first + 1) % room) ts.length lost)) (Vg.plus (Vg.put w b (boxC g room ((first + 1) % room) ts.length lost)) xx nn) := by (repeat' (first | (with_reducible exact Vg.Grows.refl _) | (with_reducible assumption) | (with_reducible refine Vg.Grows.alloc ?_ _) | (with_reducible refine Vg.Grows.plus ?_ _ _) | (with_reducible refine Vg.Grows.drewN ?_ _) | (with_reducible refine Vg.Grows.drew ?_) | (with_reducible refine Vg.Grows.setCell ?_ ?_ _) | (with_reducible refine Vg.Grows.put ?_ ?_ _) | omega | (simp; omega) | (simp; done)))
    exact ⟨rfl, BX.grows ⟨R, _, Vg.put_heap_same hb, (Vg.put_heap_other hne).trans H_h2.out, h3.tail⟩ hg1, touch_of_put (.inl rfl) hg1⟩
theorem bx_len (h : BX w b g room s) : Calls Try.prog 85 #[.pointer (some ⟨b, 0, none⟩)] w fun e w' => e = .returned (.int .i64 s.L.length) ∧ w = w' := by
  obtain ⟨R, first, h1, h2, h3⟩ := h
  obtain ⟨c0, c1, c2, c3⟩ := box_cells h1
  clear h1 h2
  go_enter Try.func85, Try.ntmps85
  go_wp2
  go_ret
  exact ⟨rfl, rfl⟩
theorem bx_lost (h : BX w b g room s) : Calls Try.prog 88 #[.pointer (some ⟨b, 0, none⟩)] w fun e w' => e = .returned (.int .i64 s.lost) ∧ w = w' := by
  obtain ⟨R, first, h1, h2, h3⟩ := h
  obtain ⟨c0, c1, c2, c3⟩ := box_cells h1
  clear h1 h2
  go_enter Try.func88, Try.ntmps88
  go_wp2
  go_ret
  exact ⟨rfl, rfl⟩
end
end Go.Proofs.Ytiinhofmhoplfaa
