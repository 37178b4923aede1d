/- Contracts of package mbox: the ring, New, Post, Fetch, Len, Lost. A box lies at block b, its ring at block g. -/
import Derived.Test.YtiinhofmhoplfaaStorm
set_option linter.unusedSimpArgs false
set_option linter.unusedVariables false
set_option maxHeartbeats 400000
namespace Vg
open Go
/-- The ring shows the queue. -/
def Rings (R : Nat → Int) (room first : Nat) (q : List Int) : Prop := 1 ≤ room ∧ room ≤ 1024 ∧ first < room ∧ q.length ≤ room ∧ ∀ i, i < q.length → R ((first + i) % room) = q.getD i 0
theorem Rings.head {R : Nat → Int} {many first : Nat} {t : Int} {ts : List Int} (h : Rings R many first (t :: ts)) : R first = t := by
  have := h.2.2.2.2 0 (by simp)
  rw [Nat.add_zero, Nat.mod_eq_of_lt h.2.2.1] at this
  exact this
theorem Rings.tail {R : Nat → Int} {many first : Nat} {t : Int} {ts : List Int} (h : Rings R many first (t :: ts)) : Rings R many ((first + 1) % many) ts := by
  obtain ⟨h0, h1, h2, h3, h4⟩ := h
  refine ⟨h0, h1, Nat.mod_lt _ (by omega), by simp at h3; omega, fun i hi => ?_⟩
  have := h4 (i + 1) (by simp; omega)
  rw [show first + (i + 1) = first + 1 + i from by omega] at this
  rw [Nat.mod_add_mod]
  simpa using this
theorem Rings.push {R : Nat → Int} {many first : Nat} {q : List Int} (h : Rings R many first q) (hl : q.length < many) (v : Int) : Rings (upd R ((first + q.length) % many) v) many first (q ++ [v]) := by
  obtain ⟨h0, h1, h2, h3, h4⟩ := h
  refine ⟨h0, h1, h2, by simp; omega, fun i hi => ?_⟩
  simp at hi
  unfold upd
  by_cases hi2 : i = q.length
  · subst hi2; simp
  · have hne : (first + i) % many ≠ (first + q.length) % many := by
      intro e
      have hd := Nat.sub_mod_eq_zero_of_mod_eq e.symm
      rw [show first + q.length - (first + i) = q.length - i from by omega, Nat.mod_eq_of_lt (by omega)] at hd
      omega
    rw [if_neg hne, h4 i (by omega)]
    have hlt : i < q.length := by omega
    simp [List.getElem?_append_left hlt]
end Vg
namespace Go.Proofs.Ytiinhofmhoplfaa
open Go.ChangeShapes Go.WideShapes Go.ChangeAt Go.RowKit
abbrev boxC (g room first many : Nat) (lost : Int) : Obj :=
  .cells #[.slice (some ⟨g, 0, none⟩) room room, .int .i64 first, .int .i64 many, .int .i64 lost] 217
theorem setCell_drewN0 (w : World) (k : Nat) (a : Addr) (v : Value) : (w.drewN k).setCell a v = (w.setCell a v).drewN k := rfl
section
variable {b g room first many : Nat} {lost : Int} {R : Nat → Int} {w : World}
theorem box_cells (h : Vg.blk w b = some (boxC g room first many lost)) :
    w.cell? ⟨b, 0, none⟩ = some (.slice (some ⟨g, 0, none⟩) room room) ∧ w.cell? ⟨b, 1, none⟩ = some (.int .i64 first) ∧ w.cell? ⟨b, 2, none⟩ = some (.int .i64 many) ∧ w.cell? ⟨b, 3, none⟩ = some (.int .i64 lost) := by
  have := Vg.cells_of h
  simp [this]
theorem ring_place (n : Int) (h : Vg.blk w b = some (boxC g room first many lost)) (hm : 1 ≤ room ∧ room ≤ 1024) (hf : first < room) (hn0 : 0 ≤ n) (hn : n ≤ 1024) :
    Calls Try.prog 138 #[.pointer (some ⟨b, 0, none⟩), .int .i64 n] w fun e w' => e = .returned (.int .i64 (((first : Int) + n) % room)) ∧ ∃ k, w' = w.drewN k := by
  obtain ⟨c0, c1, c2, c3⟩ := box_cells h
  clear h
  obtain ⟨hm0, hm1⟩ := hm
  go_enter Try.func138, Try.ntmps138
  go_wp2
  go_quiet (fail)
  go_wp2
  go_ret
  exact ⟨rfl, _, rfl⟩
theorem ring_full (h : Vg.blk w b = some (boxC g room first many lost)) (hm : room ≤ 1024) (hf : many ≤ 1024) :
    Calls Try.prog 125 #[.pointer (some ⟨b, 0, none⟩)] w fun e w' => e = .returned (.bool (decide (many = room))) ∧ ∃ k, w' = w.drewN k := by
  obtain ⟨c0, c1, c2, c3⟩ := box_cells h
  clear h
  go_enter Try.func125, Try.ntmps125
  go_wp2
  try go_quiet (fail)
  try go_wp2
  go_ret
  refine ⟨?_, ?_⟩
  · show Ending.returned (.bool ((many : Int) == room)) = _
    rw [show ((many : Int) == room) = decide (many = room) from by rw [Bool.eq_iff_iff]; simp; omega]
  · exact ⟨_, rfl⟩
theorem ring_push (v : Int) (q : List Int) (h : Vg.blk w b = some (boxC g room first q.length lost)) (hr : Vg.blk w g = some (ringC R room)) (hne : b ≠ g) (hs : Vg.Rings R room first q) (hl : q.length < room) :
    Calls Try.prog 126 #[.pointer (some ⟨b, 0, none⟩), .int .i64 v] w fun e w' => ∃ R', Vg.Rings R' room first (q ++ [v]) ∧ e = .returned (.tuple #[]) ∧
      Vg.Grows (Vg.put (Vg.put w b (boxC g room first (q.length + 1) lost)) g (ringC R' room)) w' := by
  obtain ⟨c0, c1, c2, c3⟩ := box_cells h
  have hp := Vg.setCell_of h
  have hf := Vg.frozen_of h
  have hb := Vg.lt_of h
  have hg := Vg.lt_of hr
  have hfr := Vg.frozen_of hr
  have hne2 : g ≠ b := Ne.symm hne
  have N1 := Lib.hid hr
  have N2 := Lib.hid h
  have hm := hs.1
  have hm2 := hs.2.1
  have hf1 := hs.2.2.1
  obtain ⟨ix, hix⟩ : ∃ ix : Nat, (first + q.length) % room = ix := ⟨_, rfl⟩
  have hixlt : ix < room := by rw [← hix]; exact Nat.mod_lt _ (by omega)
  have hixI : ((first : Int) + q.length) % room = ix := by rw [← hix]; simp
  have hixC : w.cell? ⟨g, ix, none⟩ = some (.int .i64 (R ix)) := by rw [Vg.cells_of hr]; exact Vg.intArr_get hixlt
  have hi0 : (0 : Int) ≤ ix := by omega
  have hi1 : (ix : Int) < room := by omega
  have HIX := Lib.hid hix
  clear hix h hr
  go_enter Try.func126, Try.ntmps126
  go_wp2_with fail
  go_region_held3 (fun w' => w'.heap.size = w.heap.size ∧ w'.cell? ⟨b, 0, none⟩ = some (.slice (some ⟨g, 0, none⟩) room room) ∧ w'.cell? ⟨b, 2, none⟩ = some (.int .i64 q.length) ∧ Vg.blk w' b = some (boxC g room first q.length lost) ∧ (w'.cell? ⟨g, ix, none⟩).isSome = true ∧ w'.frozen? ⟨g, ix, none⟩ = false)
    ((go_split_ands; (try dsimp only); refine ⟨by go_simp, by go_simp, by go_simp, (by first | (go_simp; done) | (go_simp; exact N2.out)), by go_simp, by go_simp⟩))
    (first | (go_at_call 138; go_split_ands; refine (ring_place q.length (by assumption) ⟨hm, hm2⟩ hf1 (by omega) (by omega)).mono ?_; rintro e w' ⟨rfl, k2, rfl⟩))
  have hpr := Vg.setCell_of N1.out
  have hset : ∀ v, (Vg.intArr R room).setIfInBounds ix (.int .i64 v) = Vg.intArr (Vg.upd R ix v) room := fun v => Vg.intArr_set
  go_wp2
  go_end0
  refine ⟨Vg.upd R ix v, by have := Vg.Rings.push hs hl v; rw [HIX.out] at this; exact this, rfl, ?_⟩
  simp only [setCell_drewN0, hpr, hset, Vg.put_setCell_other hne2, hp]
  exact Vg.Grows.drewN (Vg.Grows.refl _) _
theorem ring_pull_none (h : Vg.blk w b = some (boxC g room first 0 lost)) :
    Calls Try.prog 127 #[.pointer (some ⟨b, 0, none⟩)] w fun e w' => e = .returned (.tuple #[.int .i64 0, .bool false]) ∧ Vg.Grows w w' := by
  obtain ⟨c0, c1, c2, c3⟩ := box_cells h
  clear h
  go_enter Try.func127, Try.ntmps127
  go_wp2
  go_ret2
  exact ⟨rfl, by (repeat' (first | (with_reducible exact Vg.Grows.refl _) | (with_reducible assumption) | (with_reducible refine Vg.Grows.alloc ?_ _) | (with_reducible refine Vg.Grows.plus ?_ _ _) | (with_reducible refine Vg.Grows.drewN ?_ _) | (with_reducible refine Vg.Grows.drew ?_) | (with_reducible refine Vg.Grows.setCell ?_ ?_ _) | (with_reducible refine Vg.Grows.put ?_ ?_ _) | omega | (simp; omega) | (simp; done)))⟩
theorem ring_pull_some (t : Int) (ts : List Int) (h : Vg.blk w b = some (boxC g room first (ts.length + 1) lost)) (hr : Vg.blk w g = some (ringC R room)) (hne : b ≠ g) (hs : Vg.Rings R room first (t :: ts)) :
    Calls Try.prog 127 #[.pointer (some ⟨b, 0, none⟩)] w fun e w' => e = .returned (.tuple #[.int .i64 t, .bool true]) ∧ Vg.Grows (Vg.put w b (boxC g room ((first + 1) % room) ts.length lost)) w' := by
  obtain ⟨c0, c1, c2, c3⟩ := box_cells h
  have hp := Vg.setCell_of h
  have hf := Vg.frozen_of h
  have hb := Vg.lt_of h
  have hm := hs.1
  have hm2 := hs.2.1
  have hf1 := hs.2.2.1
  have hlen : ts.length ≤ 1024 := by have := hs.2.2.2.1; simp at this; omega
  have cr : w.cell? ⟨g, first, none⟩ = some (.int .i64 t) := by rw [Vg.cells_of hr, ← hs.head]; exact Vg.intArr_get hf1
  have i0 : (0 : Int) ≤ first := by omega
  have i1 : (first : Int) < room := by omega
  have hmod : ((first : Int) + 1) % room = (((first + 1) % room : Nat) : Int) := by simp
  have N2 := Lib.hid h
  have HM := Lib.hid hmod
  clear h hr hmod
  go_enter Try.func127, Try.ntmps127
  go_wp2
  go_quiet (fail)
  go_wp2_with ((go_at_call 138; refine (ring_place 1 (by exact N2.out) ⟨hm, hm2⟩ hf1 (by omega) (by omega)).mono ?_; rintro e w' ⟨rfl, k2, rfl⟩; rw [HM.out]))
  go_ret2
  refine ⟨rfl, ?_⟩
  simp only [setCell_drewN0, hp, Vg.put_setCell_same hb]
  exact Vg.Grows.drewN (Vg.Grows.refl _) _
end
end Go.Proofs.Ytiinhofmhoplfaa
