/- Contracts of package storm. A mask lies at block b, its ring at block rb: 'maskC', 'ringC'; what it is by the document: 'Vg.Mask' (when turns come back, in order; the last time; how many were refused). -/
import Derived.Test.YtekjnagojphmkaaDoorChecked
import Derived.Test.YtekjnagojphmkaaDoorObj
set_option linter.unusedSimpArgs false
set_option linter.unusedVariables false
set_option maxHeartbeats 400000
namespace Vg
open Go
/-- The turns that are still away at a time. -/
def pop (now : Int) : List Int → List Int
  | [] => []
  | t :: ts => if t ≤ now then pop now ts else t :: ts
structure Mask where
  q : List Int
  last : Int
  refused : Int
def Mask.tell (s : Mask) (now : Int) : Mask × Int := if now < s.last ∨ 4503599627370496 < now then (s, 1) else (⟨pop now s.q, now, s.refused⟩, 0)
def Mask.enter (s : Mask) (many : Nat) (window now : Int) : Mask × Int :=
  if (s.tell now).2 ≠ 0 then (s, (s.tell now).2) else
  if (s.tell now).1.q.length = many then (⟨(s.tell now).1.q, (s.tell now).1.last, s.refused + 1⟩, 15) else (⟨(s.tell now).1.q ++ [now + window], (s.tell now).1.last, s.refused⟩, 0)
def Mask.next (s : Mask) : Int × Bool := match s.q with | [] => (0, false) | t :: _ => (t, true)
theorem pop_length (now : Int) : ∀ q : List Int, (pop now q).length ≤ q.length
  | [] => by simp [pop]
  | t :: ts => by unfold pop; split; · have := pop_length now ts; simp; omega
                  · simp
def intArr (R : Nat → Int) (many : Nat) : Array Value := ((List.range many).map fun i => Value.int .i64 (R i)).toArray
theorem intArr_get {R : Nat → Int} {many o : Nat} (h : o < many) : (intArr R many)[o]? = some (.int .i64 (R o)) := by simp [intArr, h]
theorem intArr_size {R : Nat → Int} {many : Nat} : (intArr R many).size = many := by simp [intArr]
theorem madeCells_int (m : Nat) : madeCells #[.int .i64 0] m = intArr (fun _ => 0) m := by
  unfold madeCells intArr
  apply Array.ext'
  simp [List.map_const', Nat.mod_one]
def upd (R : Nat → Int) (i : Nat) (v : Int) : Nat → Int := fun k => if k = i then v else R k
theorem intArr_set {R : Nat → Int} {many i : Nat} {v : Int} : (intArr R many).setIfInBounds i (.int .i64 v) = intArr (upd R i v) many := by
  apply Array.ext_getElem?
  intro k
  rw [Array.getElem?_setIfInBounds, intArr_size]
  by_cases hk : k < many
  · rw [intArr_get hk, intArr_get hk]
    by_cases h : i = k
    · subst h; simp [hk, upd]
    · rw [if_neg h]; unfold upd; rw [if_neg (by omega)]
  · rw [Array.getElem?_eq_none (by rw [intArr_size]; omega), Array.getElem?_eq_none (by rw [intArr_size]; omega)]
    split
    · split
      · omega
      · rfl
    · rfl
end Vg
namespace Go.Proofs.YtekjnagojphmkaaDoor
open Go.ChangeShapes Go.WideShapes Go.ChangeAt Go.RowKit
theorem Tryd.info_i64 : (Tryd.prog.info? 2).map (fun i => (i.zero, i.size, i.bytes)) = some (some (.int .i64 0), 1, 8) := by kernel_rfl
abbrev maskC (rb many : Nat) (window : Int) (first taken : Nat) (last refused : Int) : Obj :=
  .cells #[.int .i64 window, .slice (some ⟨rb, 0, none⟩) many many, .int .i64 first, .int .i64 taken, .int .i64 last, .int .i64 refused] 144
abbrev ringC (R : Nat → Int) (many : Nat) : Obj := .cells (Vg.intArr R many) 2
/-- The ring shows the queue. -/
def Shows (R : Nat → Int) (many first : Nat) (q : List Int) : Prop := 1 ≤ many ∧ many ≤ 64 ∧ first < many ∧ q.length ≤ many ∧ ∀ i, i < q.length → R ((first + i) % many) = q.getD i 0

section
variable {b rb many : Nat} {window last refused : Int} {first taken : Nat} {R : Nat → Int} {w : World}
theorem mask_cells (h : Vg.blk w b = some (maskC rb many window first taken last refused)) :
    w.cell? ⟨b, 0, none⟩ = some (.int .i64 window) ∧ w.cell? ⟨b, 1, none⟩ = some (.slice (some ⟨rb, 0, none⟩) many many) ∧ w.cell? ⟨b, 2, none⟩ = some (.int .i64 first) ∧
    w.cell? ⟨b, 3, none⟩ = some (.int .i64 taken) ∧ w.cell? ⟨b, 4, none⟩ = some (.int .i64 last) ∧ w.cell? ⟨b, 5, none⟩ = some (.int .i64 refused) := by
  have := Vg.cells_of h
  simp [this]

theorem storm_place (n : Int) (h : Vg.blk w b = some (maskC rb many window first taken last refused)) (hm : 1 ≤ many ∧ many ≤ 64) (hf : first < many) (hn0 : 0 ≤ n) (hn : n ≤ 64) :
    Calls Tryd.prog 72 #[.pointer (some ⟨b, 0, none⟩), .int .i64 n] w fun e w' => e = .returned (.int .i64 (((first : Int) + n) % many)) ∧ ∃ k, w' = w.drewN k := by
  obtain ⟨c0, c1, c2, c3, c4, c5⟩ := mask_cells h
  clear h
  obtain ⟨hm0, hm1⟩ := hm
  go_enter Tryd.func72, Tryd.ntmps72
  go_wp2
  go_quiet (fail)
  go_wp2
  go_ret
  exact ⟨rfl, _, rfl⟩

theorem storm_next_none (h : Vg.blk w b = some (maskC rb many window first 0 last refused)) :
    Calls Tryd.prog 88 #[.pointer (some ⟨b, 0, none⟩)] w fun e w' => e = .returned (.tuple #[.int .i64 0, .bool false]) ∧ w = w' := by
  obtain ⟨c0, c1, c2, c3, c4, c5⟩ := mask_cells h
  clear h
  go_enter Tryd.func88, Tryd.ntmps88
  go_wp2
  go_ret2
  exact ⟨rfl, rfl⟩

theorem storm_next_some (h : Vg.blk w b = some (maskC rb many window first taken last refused)) (hr : Vg.blk w rb = some (ringC R many)) (ht : 1 ≤ taken) (hm : 1 ≤ many ∧ many ≤ 64) (hf : first < many) :
    Calls Tryd.prog 88 #[.pointer (some ⟨b, 0, none⟩)] w fun e w' => e = .returned (.tuple #[.int .i64 (R first), .bool true]) ∧ ∃ k, w' = w.drewN k := by
  obtain ⟨c0, c1, c2, c3, c4, c5⟩ := mask_cells h
  have cr : w.cell? ⟨rb, first, none⟩ = some (.int .i64 (R first)) := by rw [Vg.cells_of hr]; exact Vg.intArr_get hf
  have i0 : (0 : Int) ≤ first := by omega
  have i1 : (first : Int) < many := by omega
  obtain ⟨hm0, hm1⟩ := hm
  clear h hr
  go_enter Tryd.func88, Tryd.ntmps88
  go_wp2
  go_quiet (fail)
  go_wp2
  go_ret2
  exact ⟨rfl, _, rfl⟩

theorem Shows.head {R : Nat → Int} {many first : Nat} {t : Int} {ts : List Int} (h : Shows R many first (t :: ts)) : R first = t := by
  have := h.2.2.2.2 0 (by simp)
  rw [Nat.add_zero, Nat.mod_eq_of_lt h.2.2.1] at this
  exact this
theorem Shows.tail {R : Nat → Int} {many first : Nat} {t : Int} {ts : List Int} (h : Shows R many first (t :: ts)) : Shows R many ((first + 1) % many) ts := by
  obtain ⟨h0, h1, h2, h3, h4⟩ := h
  refine ⟨h0, h1, Nat.mod_lt _ (by omega), by simp at h3; omega, fun i hi => ?_⟩
  have := h4 (i + 1) (by simp; omega)
  rw [show first + (i + 1) = first + 1 + i from by omega] at this
  rw [Nat.mod_add_mod]
  simpa using this

theorem storm_tell_no (now : Int) (h : Vg.blk w b = some (maskC rb many window first taken last refused)) (hno : now < last ∨ 4503599627370496 < now) :
    Calls Tryd.prog 69 #[.pointer (some ⟨b, 0, none⟩), .int .i64 now] w fun e w' => e = .returned (.int .i64 1) ∧ w = w' := by
  obtain ⟨c0, c1, c2, c3, c4, c5⟩ := mask_cells h
  clear h
  by_cases hl : now < last
  · go_enter Tryd.func69, Tryd.ntmps69
    go_wp2
    go_step3
    go_wp2
    rw [Exit.noGoto_ret]
    go_ret
    exact ⟨rfl, rfl⟩
  · have hb : 4503599627370496 < now := by omega
    clear hno
    go_enter Tryd.func69, Tryd.ntmps69
    go_wp2
    go_step3
    go_wp2
    rw [Exit.noGoto_ret]
    go_ret
    exact ⟨rfl, rfl⟩

theorem storm_tell_ok (now : Int) (q : List Int) (h : Vg.blk w b = some (maskC rb many window first q.length last refused)) (hr : Vg.blk w rb = some (ringC R many)) (hne : b ≠ rb) (hs : Shows R many first q)
    (h1 : last ≤ now) (h2 : now ≤ 4503599627370496) :
    Calls Tryd.prog 69 #[.pointer (some ⟨b, 0, none⟩), .int .i64 now] w fun e w' => ∃ first', Shows R many first' (Vg.pop now q) ∧ e = .returned (.int .i64 0) ∧
      Vg.Grows (Vg.put w b (maskC rb many window first' (Vg.pop now q).length now refused)) w' := by
  obtain ⟨c0, c1, c2, c3, c4, c5⟩ := mask_cells h
  have hp := Vg.setCell_of h
  have hf := Vg.frozen_of h
  have hb := Vg.lt_of h
  have hrH := Lib.hid hr
  clear h hr
  go_enter Tryd.func69, Tryd.ntmps69
  go_wp2
  go_step3
  go_wp2
  go_step3
  go_wp2
  go_loopg [] q.length (fun k wr => ∃ first' q', k = q'.length ∧ Shows R many first' q' ∧ Vg.pop now q' = Vg.pop now q ∧ Vg.Grows (Vg.put w b (maskC rb many window first' q'.length now refused)) wr)
  case atStart => exact ⟨first, q, rfl, hs, rfl, by (repeat' (first | (with_reducible exact Vg.Grows.refl _) | (with_reducible assumption) | (with_reducible refine Vg.Grows.alloc ?_ _) | (with_reducible refine Vg.Grows.plus ?_ _ _) | (with_reducible refine Vg.Grows.drewN ?_ _) | (with_reducible refine Vg.Grows.drew ?_) | (with_reducible refine Vg.Grows.setCell ?_ ?_ _) | (with_reducible refine Vg.Grows.put ?_ ?_ _) | omega | (simp; omega) | (simp; done)))⟩
  case round =>
    obtain ⟨first', q', hk, hs', hpop, x, n, rfl⟩ := hrel
    have hrH2 : Vg.blk (Vg.plus (Vg.put w b (maskC rb many window first' q'.length now refused)) x n) rb = some (ringC R many) := by
      rw [Vg.blk_plus (by rw [Vg.put_size]; exact Vg.lt_of hrH.out), Vg.blk_put_other hne]; exact hrH.out
    have hbH2 : Vg.blk (Vg.plus (Vg.put w b (maskC rb many window first' q'.length now refused)) x n) b = some (maskC rb many window first' q'.length now refused) := by
      rw [Vg.blk_plus (by rw [Vg.put_size]; exact hb), Vg.blk_put_same hb]
    have N1 := Lib.hid hrH2
    have N2 := Lib.hid hbH2
    clear hrH2 hbH2
    have hm := hs'.1
    have hm2 := hs'.2.1
    have hf1 := hs'.2.2.1
    have HP := Lib.hid hpop
    have HK := Lib.hid hk
    clear hpop hk
    cases q' with
    | nil =>
      go_wp2_with (go_at_call 88; refine (storm_next_none (by exact N2.out)).mono ?_; rintro e w' ⟨rfl, rfl⟩)
      rw [Exit.noGoto_ret]
      go_ret
      have e : Vg.pop now q = [] := HP.out.symm
      rw [e]
      exact ⟨first', hs', rfl, by simp only [List.length_nil]; (repeat' (first | (with_reducible exact Vg.Grows.refl _) | (with_reducible assumption) | (with_reducible refine Vg.Grows.alloc ?_ _) | (with_reducible refine Vg.Grows.plus ?_ _ _) | (with_reducible refine Vg.Grows.drewN ?_ _) | (with_reducible refine Vg.Grows.drew ?_) | (with_reducible refine Vg.Grows.setCell ?_ ?_ _) | (with_reducible refine Vg.Grows.put ?_ ?_ _) | omega | (simp; omega) | (simp; done)))⟩
    | cons t ts =>
      have ht := hs'.head
      have HT := Lib.hid ht
      clear ht
      have hlen : ts.length ≤ 64 := by have := hs'.2.2.2.1; simp at this; omega
      by_cases hle : R first' ≤ now
      · have hmod : ((first' : Int) + 1) % many = (((first' + 1) % many : Nat) : Int) := by simp
        have HM := Lib.hid hmod
        clear hmod
        go_wp2_with (first | (go_at_call 88; refine (storm_next_some (by exact N2.out) (by exact N1.out) (by simp) ⟨hm, hm2⟩ hf1).mono ?_; rintro e w' ⟨rfl, k1, rfl⟩) | (go_at_call 72; refine (storm_place 1 (by exact N2.out) ⟨hm, hm2⟩ hf1 (by omega) (by omega)).mono ?_; rintro e w' ⟨rfl, k2, rfl⟩))
        go_roundg ts.length
        case measure => rw [HK.out]; simp
        case rel =>
          have e : Vg.pop now (t :: ts) = Vg.pop now ts := by rw [Vg.pop, if_pos (by rw [← HT.out]; exact hle)]
          refine ⟨(first' + 1) % many, ts, rfl, hs'.tail, by rw [← e]; exact HP.out, ?_⟩
          rw [HM.out]
          (repeat' (first | (with_reducible exact Vg.Grows.refl _) | (with_reducible assumption) | (with_reducible refine Vg.Grows.alloc ?_ _) | (with_reducible refine Vg.Grows.plus ?_ _ _) | (with_reducible refine Vg.Grows.drewN ?_ _) | (with_reducible refine Vg.Grows.drew ?_) | (with_reducible refine Vg.Grows.setCell ?_ ?_ _) | (with_reducible refine Vg.Grows.put ?_ ?_ _) | omega | (simp; omega) | (simp; done)))
      · go_wp2_with (go_at_call 88; refine (storm_next_some (by exact N2.out) (by exact N1.out) (by simp) ⟨hm, hm2⟩ hf1).mono ?_; rintro e w' ⟨rfl, k1, rfl⟩)
        rw [Exit.noGoto_ret]
        go_ret
        have e : Vg.pop now q = t :: ts := by rw [← HP.out, Vg.pop, if_neg (by rw [← HT.out]; omega)]
        rw [e]
        exact ⟨first', hs', rfl, by simp only [List.length_cons]; (repeat' (first | (with_reducible exact Vg.Grows.refl _) | (with_reducible assumption) | (with_reducible refine Vg.Grows.alloc ?_ _) | (with_reducible refine Vg.Grows.plus ?_ _ _) | (with_reducible refine Vg.Grows.drewN ?_ _) | (with_reducible refine Vg.Grows.drew ?_) | (with_reducible refine Vg.Grows.setCell ?_ ?_ _) | (with_reducible refine Vg.Grows.put ?_ ?_ _) | omega | (simp; omega) | (simp; done)))⟩

theorem storm_masked_no (now : Int) (h : Vg.blk w b = some (maskC rb many window first taken last refused)) (hno : now < last ∨ 4503599627370496 < now) :
    Calls Tryd.prog 32 #[.pointer (some ⟨b, 0, none⟩), .int .i64 now] w fun e w' => e = .returned (.tuple #[.bool false, .int .i64 1]) ∧ Vg.Grows w w' := by
  have N2 := Lib.hid h
  clear h
  go_enter Tryd.func32, Tryd.ntmps32
  go_wp2_with ((go_at_call 69; refine (storm_tell_no now (by exact N2.out) hno).mono ?_; rintro e w' ⟨rfl, rfl⟩))
  go_quiet (fail)
  go_wp2
  go_ret2
  exact ⟨rfl, by (repeat' (first | (with_reducible exact Vg.Grows.refl _) | (with_reducible assumption) | (with_reducible refine Vg.Grows.alloc ?_ _) | (with_reducible refine Vg.Grows.plus ?_ _ _) | (with_reducible refine Vg.Grows.drewN ?_ _) | (with_reducible refine Vg.Grows.drew ?_) | (with_reducible refine Vg.Grows.setCell ?_ ?_ _) | (with_reducible refine Vg.Grows.put ?_ ?_ _) | omega | (simp; omega) | (simp; done)))⟩

theorem storm_masked_ok (now : Int) (q : List Int) (h : Vg.blk w b = some (maskC rb many window first q.length last refused)) (hr : Vg.blk w rb = some (ringC R many)) (hne : b ≠ rb) (hs : Shows R many first q)
    (h1 : last ≤ now) (h2 : now ≤ 4503599627370496) :
    Calls Tryd.prog 32 #[.pointer (some ⟨b, 0, none⟩), .int .i64 now] w fun e w' => ∃ first', Shows R many first' (Vg.pop now q) ∧ e = .returned (.tuple #[.bool (decide ((Vg.pop now q).length = many)), .int .i64 0]) ∧
      Vg.Grows (Vg.put w b (maskC rb many window first' (Vg.pop now q).length now refused)) w' := by
  have N1 := Lib.hid hr
  have N2 := Lib.hid h
  have hb := Vg.lt_of h
  clear h hr
  obtain ⟨p, hp⟩ : ∃ p, Vg.pop now q = p := ⟨_, rfl⟩
  rw [hp]
  have HP := Lib.hid hp
  clear hp
  go_enter Tryd.func32, Tryd.ntmps32
  go_wp2_with (go_at_call 69; refine (storm_tell_ok now q (by exact N2.out) (by exact N1.out) hne hs h1 h2).mono ?_; rintro e w' ⟨first', hs', rfl, x, n, rfl⟩; rw [HP.out] at hs'; rw [HP.out])
  go_quiet (fail)
  go_wp2
  go_ret2
  refine ⟨first', hs', ?_, by (repeat' (first | (with_reducible exact Vg.Grows.refl _) | (with_reducible assumption) | (with_reducible refine Vg.Grows.alloc ?_ _) | (with_reducible refine Vg.Grows.plus ?_ _ _) | (with_reducible refine Vg.Grows.drewN ?_ _) | (with_reducible refine Vg.Grows.drew ?_) | (with_reducible refine Vg.Grows.setCell ?_ ?_ _) | (with_reducible refine Vg.Grows.put ?_ ?_ _) | omega | (simp; omega) | (simp; done)))⟩
  show Ending.returned (.tuple #[.bool ((p.length : Int) == many), .int .i64 0]) = _
  rw [show ((p.length : Int) == many) = decide (p.length = many) from by rw [Bool.eq_iff_iff]; simp; omega]

theorem Shows.push {R : Nat → Int} {many first : Nat} {q : List Int} (h : Shows R many first q) (hl : q.length < many) (v : Int) : Shows (Vg.upd R ((first + q.length) % many) v) many first (q ++ [v]) := by
  obtain ⟨h0, h1, h2, h3, h4⟩ := h
  refine ⟨h0, h1, h2, by simp; omega, fun i hi => ?_⟩
  simp at hi
  unfold Vg.upd
  by_cases hi2 : i = q.length
  · subst hi2; simp
  · have hne : (first + i) % many ≠ (first + q.length) % many := by
      intro e
      have hd := Nat.sub_mod_eq_zero_of_mod_eq e.symm
      rw [show first + q.length - (first + i) = q.length - i from by omega, Nat.mod_eq_of_lt (by omega)] at hd
      omega
    rw [if_neg hne, h4 i (by omega)]
    have hlt : i < q.length := by omega
    simp [List.getElem?_append_left hlt]

/-- 'Enter': the mask becomes what the document says. -/
theorem storm_enter (now : Int) (q : List Int) (h : Vg.blk w b = some (maskC rb many window first q.length last refused)) (hr : Vg.blk w rb = some (ringC R many)) (hne : b ≠ rb) (hs : Shows R many first q)
    (hw : 1 ≤ window ∧ window ≤ 1099511627776) (hrf : 0 ≤ refused ∧ refused ≤ 4611686018427387904) (hl : 0 ≤ last) :
    Calls Tryd.prog 35 #[.pointer (some ⟨b, 0, none⟩), .int .i64 now] w fun e w' => ∃ first' R', Shows R' many first' (Vg.Mask.enter ⟨q, last, refused⟩ many window now).1.q ∧
      e = .returned (.int .i64 (Vg.Mask.enter ⟨q, last, refused⟩ many window now).2) ∧
      Vg.Grows (Vg.put (Vg.put w rb (ringC R' many)) b (maskC rb many window first' (Vg.Mask.enter ⟨q, last, refused⟩ many window now).1.q.length (Vg.Mask.enter ⟨q, last, refused⟩ many window now).1.last (Vg.Mask.enter ⟨q, last, refused⟩ many window now).1.refused)) w' := by
  have N1 := Lib.hid hr
  have N2 := Lib.hid h
  have hb := Vg.lt_of h
  have hrb := Vg.lt_of hr
  clear h hr
  by_cases hno : now < last ∨ 4503599627370496 < now
  · have e0 : Vg.Mask.enter ⟨q, last, refused⟩ many window now = (⟨q, last, refused⟩, 1) := by unfold Vg.Mask.enter Vg.Mask.tell; rw [if_pos hno]; simp
    rw [e0]
    have e1 : Vg.put (Vg.put w rb (ringC R many)) b (maskC rb many window first q.length last refused) = w := by rw [Vg.put_self N1.out, Vg.put_self N2.out]
    have E1 := Lib.hid e1
    clear e0 e1
    go_enter Tryd.func35, Tryd.ntmps35
    go_wp2_with ((go_at_call 32; refine (storm_masked_no now (by exact N2.out) hno).mono ?_; rintro e w' ⟨rfl, x, n, rfl⟩))
    go_ret
    refine ⟨first, R, hs, rfl, ?_⟩
    rw [E1.out]
    (repeat' (first | (with_reducible exact Vg.Grows.refl _) | (with_reducible assumption) | (with_reducible refine Vg.Grows.alloc ?_ _) | (with_reducible refine Vg.Grows.plus ?_ _ _) | (with_reducible refine Vg.Grows.drewN ?_ _) | (with_reducible refine Vg.Grows.drew ?_) | (with_reducible refine Vg.Grows.setCell ?_ ?_ _) | (with_reducible refine Vg.Grows.put ?_ ?_ _) | omega | (simp; omega) | (simp; done)))
  · have h1 : last ≤ now := by omega
    have h2 : now ≤ 4503599627370496 := by omega
    obtain ⟨p, hp⟩ : ∃ p, Vg.pop now q = p := ⟨_, rfl⟩
    by_cases hfull : p.length = many
    · have e0 : Vg.Mask.enter ⟨q, last, refused⟩ many window now = (⟨p, now, refused + 1⟩, 15) := by
        unfold Vg.Mask.enter Vg.Mask.tell; rw [if_neg hno]; simp [hp, hfull]
      rw [e0]
      have HP := Lib.hid hp
      have HF := Lib.hid hfull
      clear e0 hp hno hfull
      go_enter Tryd.func35, Tryd.ntmps35
      go_wp2_with (go_at_call 32; refine (storm_masked_ok now q (by exact N2.out) (by exact N1.out) hne hs h1 h2).mono ?_; rintro e w' ⟨first', hs', rfl, x, n, rfl⟩; rw [HP.out] at hs'; rw [HP.out, decide_eq_true HF.out])
      go_ret
      refine ⟨first', R, hs', rfl, ?_⟩
      rw [Vg.put_self N1.out]
      (repeat' (first | (with_reducible exact Vg.Grows.refl _) | (with_reducible assumption) | (with_reducible refine Vg.Grows.alloc ?_ _) | (with_reducible refine Vg.Grows.plus ?_ _ _) | (with_reducible refine Vg.Grows.drewN ?_ _) | (with_reducible refine Vg.Grows.drew ?_) | (with_reducible refine Vg.Grows.setCell ?_ ?_ _) | (with_reducible refine Vg.Grows.put ?_ ?_ _) | omega | (simp; omega) | (simp; done)))
    · have e0 : Vg.Mask.enter ⟨q, last, refused⟩ many window now = (⟨p ++ [now + window], now, refused⟩, 0) := by
        unfold Vg.Mask.enter Vg.Mask.tell; rw [if_neg hno]; simp [hp, hfull]
      rw [e0]
      have HP := Lib.hid hp
      have HF := Lib.hid hfull
      clear e0 hp hno hfull
      have hl1 : p.length ≤ 64 := by rw [← HP.out]; have := Vg.pop_length now q; have := hs.2.2.2.1; have := hs.2.1; omega
      have hfr := Vg.frozen_of N1.out
      have hm := hs.1
      have hm2 := hs.2.1
      have hcr : ∀ o, o < many → w.cell? ⟨rb, o, none⟩ = some (.int .i64 (R o)) := fun o ho => by rw [Vg.cells_of N1.out]; exact Vg.intArr_get ho
      have HC := Lib.hid hcr
      clear hcr
      go_enter Tryd.func35, Tryd.ntmps35
      go_wp2_with (go_at_call 32; refine (storm_masked_ok now q (by exact N2.out) (by exact N1.out) hne hs h1 h2).mono ?_; rintro e w' ⟨first', hs', rfl, x, n, rfl⟩; rw [HP.out] at hs'; rw [HP.out, decide_eq_false HF.out])
      have hf1 := hs'.2.2.1
      obtain ⟨ix, hix⟩ : ∃ ix : Nat, (first' + p.length) % many = ix := ⟨_, rfl⟩
      have hixlt : ix < many := by rw [← hix]; exact Nat.mod_lt _ (by omega)
      have hixI : ((first' : Int) + p.length) % many = ix := by rw [← hix]; simp
      have hixC := HC.out ix hixlt
      have hi0 : (0 : Int) ≤ ix := by omega
      have hi1 : (ix : Int) < many := by omega
      have hsum : IntKind.i64.wrap (now + window) = now + window := by rw [IntWalk.i64_in _ (by omega)]
      have HIX := Lib.hid hix
      clear hix
      go_region_held3 (fun w' => w'.heap.size = w.heap.size + Vg.sz x ∧ w'.cell? ⟨b, 0, none⟩ = some (.int .i64 window) ∧ w'.cell? ⟨b, 1, none⟩ = some (.slice (some ⟨rb, 0, none⟩) many many) ∧ w'.cell? ⟨b, 3, none⟩ = some (.int .i64 p.length) ∧ Vg.blk w' b = some (maskC rb many window first' p.length now refused) ∧ (w'.cell? ⟨rb, ix, none⟩).isSome = true ∧ w'.frozen? ⟨rb, ix, none⟩ = false)
        ((go_split_ands; (try dsimp only); refine ⟨by go_simp, by go_simp, by go_simp, by go_simp, by go_simp, by go_simp, by go_simp⟩))
        (first | (go_at_call 72; go_split_ands; refine (storm_place p.length (by assumption) ⟨hm, hm2⟩ hf1 (by omega) (by omega)).mono ?_; rintro e w' ⟨rfl, k2, rfl⟩))
      have hprb := Vg.setCell_of N1.out
      have hset : ∀ v, (Vg.intArr R many).setIfInBounds ix (.int .i64 v) = Vg.intArr (Vg.upd R ix v) many := fun v => Vg.intArr_set
      go_wp2
      go_ret
      have hlen : p.length < many := by have := hs'.2.2.2.1; have := HF.out; omega
      refine ⟨first', Vg.upd R ix (now + window), by have := Shows.push hs' hlen (now + window); rw [HIX.out] at this; exact this, rfl, ?_⟩
      simp only [maskC, List.length_append, List.length_cons, List.length_nil, Nat.zero_add, Int.natCast_add, Int.natCast_one]
      (repeat' (first | (with_reducible exact Vg.Grows.refl _) | (with_reducible assumption) | (with_reducible refine Vg.Grows.alloc ?_ _) | (with_reducible refine Vg.Grows.plus ?_ _ _) | (with_reducible refine Vg.Grows.drewN ?_ _) | (with_reducible refine Vg.Grows.drew ?_) | (with_reducible refine Vg.Grows.setCell ?_ ?_ _) | (with_reducible refine Vg.Grows.put ?_ ?_ _) | omega | (simp; omega) | (simp; done)))

theorem storm_new_no (m wd : Int) (h : m < 1 ∨ 64 < m ∨ wd < 1 ∨ 1099511627776 < wd) :
    Calls Tryd.prog 25 #[.int .i64 m, .int .i64 wd] w fun e w' => e = .returned (.tuple #[.pointer none, .int .i64 1]) ∧ w = w' := by
  by_cases h1 : m < 1
  · clear h
    go_enter Tryd.func25, Tryd.ntmps25
    go_wp2
    go_ret2
    exact ⟨rfl, rfl⟩
  by_cases h2 : 64 < m
  · clear h
    go_enter Tryd.func25, Tryd.ntmps25
    go_wp2
    go_ret2
    exact ⟨rfl, rfl⟩
  by_cases h3 : wd < 1
  · clear h
    go_enter Tryd.func25, Tryd.ntmps25
    go_wp2
    go_ret2
    exact ⟨rfl, rfl⟩
  have h4 : 1099511627776 < wd := by omega
  clear h
  go_enter Tryd.func25, Tryd.ntmps25
  go_wp2
  go_ret2
  exact ⟨rfl, rfl⟩

theorem storm_new_ok (m : Nat) (wd : Int) (h1 : 1 ≤ m) (h2 : m ≤ 64) (h3 : 1 ≤ wd) (h4 : wd ≤ 1099511627776) :
    Calls Tryd.prog 25 #[.int .i64 m, .int .i64 wd] w fun e w' => e = .returned (.tuple #[.pointer (some ⟨w.heap.size + 1, 0, none⟩), .int .i64 0]) ∧
      w' = (w.alloc (ringC (fun _ => 0) m)).alloc (maskC w.heap.size m wd 0 0 0 0) := by
  have hmk : ∀ wx : World, (Instr.makeSlice 31 (.int .i64 m) (.int .i64 m)).run Tryd.prog wx = .ok (.slice (some ⟨wx.heap.size, 0, none⟩) m m) (wx.alloc (.cells (Vg.intArr (fun _ => 0) m) 2)) := fun wx => by
    have := run_make_row' (P := Tryd.prog) 31 2 (.int .i64 0) 8 Tryd.underlying31 Tryd.info_i64 rfl .i64 .i64 m (by omega) (by omega) wx
    rw [this, Vg.madeCells_int]
  go_enter Tryd.func25, Tryd.ntmps25
  go_wp2
  go_ret2
  exact ⟨rfl, rfl⟩
end
end Go.Proofs.YtekjnagojphmkaaDoor
