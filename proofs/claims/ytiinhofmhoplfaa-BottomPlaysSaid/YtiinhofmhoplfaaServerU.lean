/- Use and Refill of package server. -/
import Derived.Test.YtiinhofmhoplfaaServer
set_option linter.unusedSimpArgs false
set_option linter.unusedVariables false
set_option maxHeartbeats 400000
set_option maxRecDepth 20000
namespace Go.Proofs.Ytiinhofmhoplfaa
open Go.ChangeShapes Go.WideShapes Go.ChangeAt Go.RowKit
section
variable {b B : Nat} {left period last : Int} {v : Value} {L : List (Int × Int)} {w : World} {sa : Option Addr} {sc : Nat}
theorem serv_use_no (n en : Int) (h : Vg.blk w b = some (servC left period (.slice sa L.length sc) last)) (hen : -9223372036854775808 ≤ en ∧ en ≤ 9223372036854775807)
    (hno : n < 0 ∨ en < n ∨ 4503599627370496 < en ∨ en - n < last) :
    Calls Try.prog 105 #[.pointer (some ⟨b, 0, none⟩), .int .i64 n, .int .i64 en] w fun e w' => e = .returned (.int .i64 1) ∧ w = w' := by
  have N := Lib.hid h
  clear h
  by_cases h1 : n < 0
  · go_enter Try.func105, Try.ntmps105
    go_wp2
    go_ret
    exact ⟨rfl, rfl⟩
  by_cases h2 : en < n
  · go_enter Try.func105, Try.ntmps105
    go_wp2
    go_ret
    exact ⟨rfl, rfl⟩
  by_cases h3 : 4503599627370496 < en
  · go_enter Try.func105, Try.ntmps105
    go_wp2
    go_ret
    exact ⟨rfl, rfl⟩
  have h4 : en - n < last := by omega
  clear hno
  have hsub : IntKind.i64.wrap (en - n) = en - n := by rw [IntWalk.i64_in _ (by omega)]
  have hf : (decide (last ≤ en - n) && decide (en - n ≤ 4503599627370496)) = false := by rw [decide_eq_false (by omega)]; rfl
  have HF := Lib.hid hf
  clear hf
  go_enter Try.func105, Try.ntmps105
  go_wp2_with (go_at_call 107; refine (serv_later (left := left) (period := period) (v := .slice sa L.length sc) (last := last) (en - n) (by exact N.out)).mono ?_; rintro e w1 ⟨rfl, rfl⟩; rw [HF.out])
  go_ret
  exact ⟨rfl, rfl⟩
theorem serv_use_full (n en : Int) (h : Vg.blk w b = some (servC left period (.slice sa L.length sc) last)) (hen : en ≤ 4503599627370496)
    (hn : 0 ≤ n) (h1 : n ≤ en) (h2 : last ≤ en - n) (hfull : (if 16 ≤ L.length then 0 else left) < n) :
    Calls Try.prog 105 #[.pointer (some ⟨b, 0, none⟩), .int .i64 n, .int .i64 en] w fun e w' => e = .returned (.int .i64 5) ∧ w = w' := by
  have N := Lib.hid h
  clear h
  have hsub : IntKind.i64.wrap (en - n) = en - n := by rw [IntWalk.i64_in _ (by omega)]
  have hf : (decide (last ≤ en - n) && decide (en - n ≤ 4503599627370496)) = true := by rw [decide_eq_true h2, decide_eq_true (show en - n ≤ 4503599627370496 by omega)]; rfl
  have HF := Lib.hid hf
  clear hf
  obtain ⟨lf, hlf⟩ : ∃ lf, (if 16 ≤ L.length then 0 else left) = lf := ⟨_, rfl⟩
  rw [hlf] at hfull
  have HL := Lib.hid hlf
  clear hlf
  go_enter Try.func105, Try.ntmps105
  go_wp2_with (first | (go_at_call 107; refine (serv_later (left := left) (period := period) (v := .slice sa L.length sc) (last := last) (en - n) (by exact N.out)).mono ?_; rintro e w1 ⟨rfl, rfl⟩; rw [HF.out]) | (go_at_call 110; refine (serv_left (left := left) (period := period) (sa := sa) (L := L) (sc := sc) (last := last) (by exact N.out)).mono ?_; rintro e w1 ⟨rfl, rfl⟩; rw [HL.out]))
  go_ret
  exact ⟨rfl, rfl⟩
theorem serv_use_ok (n en : Int) (h : Vg.blk w b = some (servC left period (.slice sa L.length sc) last)) (hq : Vg.Que w B 230 2 (.slice sa L.length sc) L.length (Vg.pcells L)) (hb : b < B) (hB : B ≤ w.heap.size) (hen : en ≤ 4503599627370496)
    (hn : 0 ≤ n) (h1 : n ≤ en) (h2 : last ≤ en - n) (hroom : n ≤ (if 16 ≤ L.length then 0 else left)) (hL : L.length ≤ 1000) (hpe : 1 ≤ period ∧ period ≤ 1099511627776) (hlb : left ≤ 1099511627776) (hl0 : 0 ≤ left)
    (hbd : ∀ x ∈ L, 0 ≤ x.2 ∧ x.2 ≤ 1099511627776) :
    Calls Try.prog 105 #[.pointer (some ⟨b, 0, none⟩), .int .i64 n, .int .i64 en] w fun e w' => ∃ sa' sc', Vg.Touch (fun k => k = b ∨ (Value.slice sa L.length sc).ownBlock = some k) w w' ∧
      Vg.blk w' b = some (servC (left - n) period (.slice sa' (if n = 0 then L else Vg.owe (en + period) n L).length sc') en) ∧
      Vg.Que w' B 230 2 (.slice sa' (if n = 0 then L else Vg.owe (en + period) n L).length sc') (if n = 0 then L else Vg.owe (en + period) n L).length (Vg.pcells (if n = 0 then L else Vg.owe (en + period) n L)) ∧
      ((Value.slice sa' (if n = 0 then L else Vg.owe (en + period) n L).length sc').ownBlock = (Value.slice sa L.length sc).ownBlock ∨ ∀ k, (Value.slice sa' (if n = 0 then L else Vg.owe (en + period) n L).length sc').ownBlock = some k → w.heap.size ≤ k) ∧ e = .returned (.int .i64 0) := by
  obtain ⟨c0, c1, c2, c3⟩ := serv_cells h
  have f0 := Vg.frozen_of h
  have p0 := Vg.setCell_of h
  have l0 := Vg.lt_of h
  have N := Lib.hid h
  have HQ := Lib.hid hq
  clear h hq
  have hsub : IntKind.i64.wrap (en - n) = en - n := by rw [IntWalk.i64_in _ (by omega)]
  have hf : (decide (last ≤ en - n) && decide (en - n ≤ 4503599627370496)) = true := by rw [decide_eq_true h2, decide_eq_true (show en - n ≤ 4503599627370496 by omega)]; rfl
  have HF := Lib.hid hf
  clear hf
  have hroom2 : n ≤ left := by split at hroom <;> omega
  obtain ⟨lf, hlf⟩ : ∃ lf, (if 16 ≤ L.length then 0 else left) = lf := ⟨_, rfl⟩
  rw [hlf] at hroom
  have HL := Lib.hid hlf
  clear hlf
  have hsub2 : IntKind.i64.wrap (left - n) = left - n := by rw [IntWalk.i64_in _ (by omega)]
  have hsum : IntKind.i64.wrap (en + period) = en + period := by rw [IntWalk.i64_in _ (by omega)]
  by_cases hz : n = 0
  · subst hz
    rw [if_pos rfl, Int.sub_zero]
    have hf0 : (decide (last ≤ en) && decide (en ≤ 4503599627370496)) = true := by rw [decide_eq_true (show last ≤ en by omega), decide_eq_true hen]; rfl
    have HF0 := Lib.hid hf0
    clear hf0 hsub hsub2
    go_enter Try.func105, Try.ntmps105
    go_wp2_with (first | (go_at_call 107; refine (serv_later (left := left) (period := period) (v := .slice sa L.length sc) (last := last) en (by exact N.out)).mono ?_; rintro e w1 ⟨rfl, rfl⟩; rw [HF0.out]) | (go_at_call 110; refine (serv_left (left := left) (period := period) (sa := sa) (L := L) (sc := sc) (last := last) (by exact N.out)).mono ?_; rintro e w1 ⟨rfl, rfl⟩; rw [HL.out]))
    go_ret
    refine ⟨sa, sc, (Vg.Touch.refl _ w).put (.inl rfl) _, by go_simp, HQ.out.kept fun k hk => Vg.put_heap_other (by have := (HQ.out.lt k hk).1; omega), .inl rfl, rfl⟩
  · rw [if_neg hz]
    have hpos : 0 < n := by omega
    go_enter Try.func105, Try.ntmps105
    go_wp2_with (first | (go_at_call 107; refine (serv_later (left := left) (period := period) (v := .slice sa L.length sc) (last := last) (en - n) (by exact N.out)).mono ?_; rintro e w1 ⟨rfl, rfl⟩; rw [HF.out]) | (go_at_call 110; refine (serv_left (left := left) (period := period) (sa := sa) (L := L) (sc := sc) (last := last) (by exact N.out)).mono ?_; rintro e w1 ⟨rfl, rfl⟩; rw [HL.out]) | (go_at_call 132; go_loud (refine (serv_owe (left := left - n) (period := period) (last := en) (sa := sa) (sc := sc) (L := L) (B := B) (en + period) n (by go_simp) (by exact HQ.out.kept fun k hk => Vg.put_heap_other (by have := (HQ.out.lt k hk).1; omega)) hb (by rw [Vg.put_size]; exact hB) hL (fun x hx => by have := hbd x hx; omega)).mono ?_; rintro e w1 ⟨sa', sc', ht, hb', hq', ho', rfl⟩; have HT := Lib.hid ht; have HB' := Lib.hid hb'; have HQ' := Lib.hid hq'; have HO' := Lib.hid ho'; clear ht hb' hq' ho')))
    go_ret
    refine ⟨sa', sc', ?_, HB'.out, HQ'.out, ?_, rfl⟩
    · exact ((Vg.Touch.refl _ w).put (.inl rfl) _).trans HT.out
    · rcases HO'.out with h5 | h5
      · exact .inl h5
      · exact .inr fun k hk => by have := h5 k hk; rw [Vg.put_size] at this; exact this
end
end Go.Proofs.Ytiinhofmhoplfaa
