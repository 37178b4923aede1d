/- Package storm: Enter, however often it was refused. -/
import Derived.Test.YtekjnagojphmkaaDoorIrqA
set_option linter.unusedSimpArgs false
set_option linter.unusedVariables false
set_option maxHeartbeats 8000000
set_option maxRecDepth 100000
namespace Go.Proofs.YtekjnagojphmkaaDoor
open Go.ChangeShapes Go.WideShapes Go.ChangeAt Go.RowKit
section
variable {b rb many : Nat} {window last refused : Int} {first taken : Nat} {R : Nat → Int} {w : World}
/-- 'Enter': the mask becomes what the document says. -/
theorem storm_enter_any (now : Int) (q : List Int) (h : Vg.blk w b = some (maskC rb many window first q.length last refused)) (hr : Vg.blk w rb = some (ringC R many)) (hne : b ≠ rb) (hs : Shows R many first q)
    (hw : 1 ≤ window ∧ window ≤ 1099511627776) (hl : 0 ≤ last) :
    Calls Tryd.prog 35 #[.pointer (some ⟨b, 0, none⟩), .int .i64 now] w fun e w' => ∃ first' R' rf, Shows R' many first' (Vg.Mask.enter ⟨q, last, 0⟩ many window now).1.q ∧
      e = .returned (.int .i64 (Vg.Mask.enter ⟨q, last, 0⟩ many window now).2) ∧
      Vg.Grows (Vg.put (Vg.put w rb (ringC R' many)) b (maskC rb many window first' (Vg.Mask.enter ⟨q, last, 0⟩ many window now).1.q.length (Vg.Mask.enter ⟨q, last, 0⟩ many window now).1.last rf)) w' := by
  have N1 := Lib.hid hr
  have N2 := Lib.hid h
  have hb := Vg.lt_of h
  have hrb := Vg.lt_of hr
  clear h hr
  by_cases hno : now < last ∨ 4503599627370496 < now
  · have e0 : Vg.Mask.enter ⟨q, last, 0⟩ many window now = (⟨q, last, 0⟩, 1) := by unfold Vg.Mask.enter Vg.Mask.tell; rw [if_pos hno]; simp
    rw [e0]
    have e1 : Vg.put (Vg.put w rb (ringC R many)) b (maskC rb many window first q.length last refused) = w := by rw [Vg.put_self N1.out, Vg.put_self N2.out]
    have E1 := Lib.hid e1
    clear e0 e1
    go_enter Tryd.func35, Tryd.ntmps35
    go_wp2_with ((go_at_call 32; refine (storm_masked_no now (by exact N2.out) hno).mono ?_; rintro e w' ⟨rfl, x, n, rfl⟩))
    go_ret
    refine ⟨first, R, refused, hs, rfl, ?_⟩
    rw [E1.out]
    (repeat' (first | (with_reducible exact Vg.Grows.refl _) | (with_reducible assumption) | (with_reducible refine Vg.Grows.alloc ?_ _) | (with_reducible refine Vg.Grows.plus ?_ _ _) | (with_reducible refine Vg.Grows.drewN ?_ _) | (with_reducible refine Vg.Grows.drew ?_) | (with_reducible refine Vg.Grows.setCell ?_ ?_ _) | (with_reducible refine Vg.Grows.put ?_ ?_ _) | omega | (simp; omega) | (simp; done)))
  · have h1 : last ≤ now := by omega
    have h2 : now ≤ 4503599627370496 := by omega
    obtain ⟨p, hp⟩ : ∃ p, Vg.pop now q = p := ⟨_, rfl⟩
    by_cases hfull : p.length = many
    · have e0 : Vg.Mask.enter ⟨q, last, 0⟩ many window now = (⟨p, now, 0 + 1⟩, 15) := by
        unfold Vg.Mask.enter Vg.Mask.tell; rw [if_neg hno]; simp [hp, hfull]
      rw [e0]
      have HP := Lib.hid hp
      have HF := Lib.hid hfull
      clear e0 hp hno hfull
      obtain ⟨z, hz⟩ : ∃ z, IntKind.i64.wrap (refused + 1) = z := ⟨_, rfl⟩
      go_enter Tryd.func35, Tryd.ntmps35
      go_wp2_with (go_at_call 32; refine (storm_masked_ok now q (by exact N2.out) (by exact N1.out) hne hs h1 h2).mono ?_; rintro e w' ⟨first', hs', rfl, x, n, rfl⟩; rw [HP.out] at hs'; rw [HP.out, decide_eq_true HF.out])
      go_ret
      refine ⟨first', R, z, hs', rfl, ?_⟩
      rw [Vg.put_self N1.out]
      (repeat' (first | (with_reducible exact Vg.Grows.refl _) | (with_reducible assumption) | (with_reducible refine Vg.Grows.alloc ?_ _) | (with_reducible refine Vg.Grows.plus ?_ _ _) | (with_reducible refine Vg.Grows.drewN ?_ _) | (with_reducible refine Vg.Grows.drew ?_) | (with_reducible refine Vg.Grows.setCell ?_ ?_ _) | (with_reducible refine Vg.Grows.put ?_ ?_ _) | omega | (simp; omega) | (simp; done)))
    · have e0 : Vg.Mask.enter ⟨q, last, 0⟩ many window now = (⟨p ++ [now + window], now, 0⟩, 0) := by
        unfold Vg.Mask.enter Vg.Mask.tell; rw [if_neg hno]; simp [hp, hfull]
      rw [e0]
      have HP := Lib.hid hp
      have HF := Lib.hid hfull
      clear e0 hp hno hfull
      have hl1 : p.length ≤ 64 := by rw [← HP.out]; have := Vg.pop_length now q; have := hs.2.2.2.1; have := hs.2.1; omega
      have hfr := Vg.frozen_of N1.out
      have hm := hs.1
      have hm2 := hs.2.1
      have hcr : ∀ o, o < many → w.cell? ⟨rb, o, none⟩ = some (.int .i64 (R o)) := fun o ho => by rw [Vg.cells_of N1.out]; exact Vg.intArr_get ho
      have HC := Lib.hid hcr
      clear hcr
      go_enter Tryd.func35, Tryd.ntmps35
      go_wp2_with (go_at_call 32; refine (storm_masked_ok now q (by exact N2.out) (by exact N1.out) hne hs h1 h2).mono ?_; rintro e w' ⟨first', hs', rfl, x, n, rfl⟩; rw [HP.out] at hs'; rw [HP.out, decide_eq_false HF.out])
      have hf1 := hs'.2.2.1
      obtain ⟨ix, hix⟩ : ∃ ix : Nat, (first' + p.length) % many = ix := ⟨_, rfl⟩
      have hixlt : ix < many := by rw [← hix]; exact Nat.mod_lt _ (by omega)
      have hixI : ((first' : Int) + p.length) % many = ix := by rw [← hix]; simp
      have hixC := HC.out ix hixlt
      have hi0 : (0 : Int) ≤ ix := by omega
      have hi1 : (ix : Int) < many := by omega
      have hsum : IntKind.i64.wrap (now + window) = now + window := by rw [IntWalk.i64_in _ (by omega)]
      have HIX := Lib.hid hix
      clear hix
      go_region_held3 (fun w' => w'.heap.size = w.heap.size + Vg.sz x ∧ w'.cell? ⟨b, 0, none⟩ = some (.int .i64 window) ∧ w'.cell? ⟨b, 1, none⟩ = some (.slice (some ⟨rb, 0, none⟩) many many) ∧ w'.cell? ⟨b, 3, none⟩ = some (.int .i64 p.length) ∧ Vg.blk w' b = some (maskC rb many window first' p.length now refused) ∧ (w'.cell? ⟨rb, ix, none⟩).isSome = true ∧ w'.frozen? ⟨rb, ix, none⟩ = false)
        ((go_split_ands; (try dsimp only); refine ⟨by go_simp, by go_simp, by go_simp, by go_simp, by go_simp, by go_simp, by go_simp⟩))
        (first | (go_at_call 72; go_split_ands; refine (storm_place p.length (by assumption) ⟨hm, hm2⟩ hf1 (by omega) (by omega)).mono ?_; rintro e w' ⟨rfl, k2, rfl⟩))
      have hprb := Vg.setCell_of N1.out
      have hset : ∀ v, (Vg.intArr R many).setIfInBounds ix (.int .i64 v) = Vg.intArr (Vg.upd R ix v) many := fun v => Vg.intArr_set
      go_wp2
      go_ret
      have hlen : p.length < many := by have := hs'.2.2.2.1; have := HF.out; omega
      refine ⟨first', Vg.upd R ix (now + window), refused, by have := Shows.push hs' hlen (now + window); rw [HIX.out] at this; exact this, rfl, ?_⟩
      simp only [maskC, List.length_append, List.length_cons, List.length_nil, Nat.zero_add, Int.natCast_add, Int.natCast_one]
      (repeat' (first | (with_reducible exact Vg.Grows.refl _) | (with_reducible assumption) | (with_reducible refine Vg.Grows.alloc ?_ _) | (with_reducible refine Vg.Grows.plus ?_ _ _) | (with_reducible refine Vg.Grows.drewN ?_ _) | (with_reducible refine Vg.Grows.drew ?_) | (with_reducible refine Vg.Grows.setCell ?_ ?_ _) | (with_reducible refine Vg.Grows.put ?_ ?_ _) | omega | (simp; omega) | (simp; done)))


end
section
variable {w w' : World} {mb rb many : Nat} {wd ml : Int} {q : List Int}
theorem mk_enter (now : Int) (h : MK w mb rb many wd q ml) (hw : 1 ≤ wd ∧ wd ≤ 1099511627776) (hl : 0 ≤ ml) {r : Int} (hr : (Vg.Mask.enter ⟨q, ml, 0⟩ many wd now).2 = r) :
    Calls Tryd.prog 35 #[.pointer (some ⟨mb, 0, none⟩), .int .i64 now] w fun e w' => e = .returned (.int .i64 r) ∧ MK w' mb rb many wd (Vg.Mask.enter ⟨q, ml, 0⟩ many wd now).1.q (Vg.Mask.enter ⟨q, ml, 0⟩ many wd now).1.last ∧ Vg.Touch (fun k => k = mb ∨ k = rb) w w' := by
  subst hr
  obtain ⟨first, R, rf, a1, a2, a3, a4⟩ := h
  refine (storm_enter_any now q a1 a2 a3 a4 hw hl).mono ?_
  rintro e w1 ⟨first', R', rf', hs, rfl, hg⟩
  have l1 := Vg.lt_of a1
  have l2 := Vg.lt_of a2
  refine ⟨rfl, ⟨first', R', rf', hg.blk (Vg.blk_put_same (by rw [Vg.put_size]; exact l1)), hg.blk ((Vg.blk_put_other a3).trans (Vg.blk_put_same l2)), a3, hs⟩, ?_⟩
  exact ((Vg.Touch.put (Vg.Touch.refl (fun k => k = mb ∨ k = rb) _) (.inr rfl) _).put (.inl rfl) _).trans (Vg.Touch.of_grows hg)
end
end Go.Proofs.YtekjnagojphmkaaDoor
namespace Vg
open Go
theorem enter_cases (now : Int) (q : List Int) (ml : Int) (many : Nat) (wd : Int) (x : Ln) (hq : x.q = q) (hm : x.ml = ml) (hmn : x.many = many) (hwd : x.wd = wd) (hlen : q.length ≤ many) :
    ((Mask.enter ⟨q, ml, 0⟩ many wd now).2 = 0 ∧ Entered now x { x with q := (Mask.enter ⟨q, ml, 0⟩ many wd now).1.q, ml := (Mask.enter ⟨q, ml, 0⟩ many wd now).1.last }) ∨
    (((Mask.enter ⟨q, ml, 0⟩ many wd now).2 = 1 ∨ (Mask.enter ⟨q, ml, 0⟩ many wd now).2 = 15) ∧ Told now x { x with q := (Mask.enter ⟨q, ml, 0⟩ many wd now).1.q, ml := (Mask.enter ⟨q, ml, 0⟩ many wd now).1.last }) := by
  subst hq hm hmn hwd
  obtain ⟨top, bot, lost, srv, many, wd, q, ml⟩ := x
  simp only
  unfold Mask.enter Mask.tell
  by_cases hno : now < ml ∨ 4503599627370496 < now
  · rw [if_pos hno]
    right
    refine ⟨.inl (by simp), .inl (by simp)⟩
  · rw [if_neg hno]
    have hp := pop_length now q
    simp only [ne_eq, not_true_eq_false, if_false]
    by_cases hf : (pop now q).length = many
    · rw [if_pos hf]
      exact .inr ⟨.inr rfl, .inr ⟨by simp only; omega, by omega, rfl⟩⟩
    · rw [if_neg hf]
      exact .inl ⟨rfl, by simp only; omega, by omega, by simp only at hlen ⊢; omega, rfl⟩
end Vg
