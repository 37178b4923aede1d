/- Time, ServerU, ServerV, ServerP, ServerR, ServerS, ServerA, put together (a claim has at most 60 files). -/
import Derived.Test.YtekjnagojphmkaaDoorChecked
import Derived.Test.YtekjnagojphmkaaDoorCom
import Derived.Test.YtekjnagojphmkaaDoorServer
import Derived.Test.YtekjnagojphmkaaDoorFit
set_option linter.unusedSimpArgs false
set_option linter.unusedVariables false
set_option maxHeartbeats 40000000
set_option maxRecDepth 100000
namespace Vg
def timeB (t : Int) : Bool := decide (0 ≤ t) && decide (t ≤ 4503599627370496)
theorem timeB_true {t : Int} : timeB t = true ↔ 0 ≤ t ∧ t ≤ 4503599627370496 := by simp [timeB]
theorem timeB_false {t : Int} : timeB t = false ↔ ¬ (0 ≤ t ∧ t ≤ 4503599627370496) := by simp [timeB]
end Vg
namespace Go.Proofs.YtekjnagojphmkaaDoor
open Go.ChangeShapes Go.WideShapes Go.ChangeAt Go.RowKit
end Go.Proofs.YtekjnagojphmkaaDoor
namespace Go.Proofs.YtekjnagojphmkaaDoor
open Go.ChangeShapes Go.WideShapes Go.ChangeAt Go.RowKit
section
variable {b B : Nat} {left period last : Int} {v : Value} {L : List (Int × Int)} {w : World} {sa : Option Addr} {sc : Nat}
theorem serv_use_no (n en : Int) (h : Vg.blk w b = some (servC left period (.slice sa L.length sc) last)) (hen : -9223372036854775808 ≤ en ∧ en ≤ 9223372036854775807)
    (hno : n < 0 ∨ en < n ∨ 4503599627370496 < en ∨ en - n < last) :
    Calls Tryd.prog 55 #[.pointer (some ⟨b, 0, none⟩), .int .i64 n, .int .i64 en] w fun e w' => e = .returned (.int .i64 1) ∧ w = w' := by
  have N := Lib.hid h
  clear h
  by_cases h1 : n < 0
  · go_enter Tryd.func55, Tryd.ntmps55
    go_wp2
    go_ret
    exact ⟨rfl, rfl⟩
  by_cases h2 : en < n
  · go_enter Tryd.func55, Tryd.ntmps55
    go_wp2
    go_ret
    exact ⟨rfl, rfl⟩
  by_cases h3 : 4503599627370496 < en
  · go_enter Tryd.func55, Tryd.ntmps55
    go_wp2
    go_ret
    exact ⟨rfl, rfl⟩
  have h4 : en - n < last := by omega
  clear hno
  have hsub : IntKind.i64.wrap (en - n) = en - n := by rw [IntWalk.i64_in _ (by omega)]
  have hf : (decide (last ≤ en - n) && decide (en - n ≤ 4503599627370496)) = false := by rw [decide_eq_false (by omega)]; rfl
  have HF := Lib.hid hf
  clear hf
  go_enter Tryd.func55, Tryd.ntmps55
  go_wp2_with (go_at_call 49; refine (serv_later (left := left) (period := period) (v := .slice sa L.length sc) (last := last) (en - n) (by exact N.out)).mono ?_; rintro e w1 ⟨rfl, rfl⟩; rw [HF.out])
  go_ret
  exact ⟨rfl, rfl⟩
theorem serv_use_full (n en : Int) (h : Vg.blk w b = some (servC left period (.slice sa L.length sc) last)) (hen : en ≤ 4503599627370496)
    (hn : 0 ≤ n) (h1 : n ≤ en) (h2 : last ≤ en - n) (hfull : (if 16 ≤ L.length then 0 else left) < n) :
    Calls Tryd.prog 55 #[.pointer (some ⟨b, 0, none⟩), .int .i64 n, .int .i64 en] w fun e w' => e = .returned (.int .i64 5) ∧ w = w' := by
  have N := Lib.hid h
  clear h
  have hsub : IntKind.i64.wrap (en - n) = en - n := by rw [IntWalk.i64_in _ (by omega)]
  have hf : (decide (last ≤ en - n) && decide (en - n ≤ 4503599627370496)) = true := by rw [decide_eq_true h2, decide_eq_true (show en - n ≤ 4503599627370496 by omega)]; rfl
  have HF := Lib.hid hf
  clear hf
  obtain ⟨lf, hlf⟩ : ∃ lf, (if 16 ≤ L.length then 0 else left) = lf := ⟨_, rfl⟩
  rw [hlf] at hfull
  have HL := Lib.hid hlf
  clear hlf
  go_enter Tryd.func55, Tryd.ntmps55
  go_wp2_with (first | (go_at_call 49; refine (serv_later (left := left) (period := period) (v := .slice sa L.length sc) (last := last) (en - n) (by exact N.out)).mono ?_; rintro e w1 ⟨rfl, rfl⟩; rw [HF.out]) | (go_at_call 54; refine (serv_left (left := left) (period := period) (sa := sa) (L := L) (sc := sc) (last := last) (by exact N.out)).mono ?_; rintro e w1 ⟨rfl, rfl⟩; rw [HL.out]))
  go_ret
  exact ⟨rfl, rfl⟩
theorem serv_use_ok (n en : Int) (h : Vg.blk w b = some (servC left period (.slice sa L.length sc) last)) (hq : Vg.Que w B 172 2 (.slice sa L.length sc) L.length (Vg.pcells L)) (hb : b < B) (hB : B ≤ w.heap.size) (hen : en ≤ 4503599627370496)
    (hn : 0 ≤ n) (h1 : n ≤ en) (h2 : last ≤ en - n) (hroom : n ≤ (if 16 ≤ L.length then 0 else left)) (hL : L.length ≤ 1000) (hpe : 1 ≤ period ∧ period ≤ 1099511627776) (hlb : left ≤ 1099511627776) (hl0 : 0 ≤ left)
    (hbd : ∀ x ∈ L, 0 ≤ x.2 ∧ x.2 ≤ 1099511627776) :
    Calls Tryd.prog 55 #[.pointer (some ⟨b, 0, none⟩), .int .i64 n, .int .i64 en] w fun e w' => ∃ sa' sc', Vg.Touch (fun k => k = b ∨ (Value.slice sa L.length sc).ownBlock = some k) w w' ∧
      Vg.blk w' b = some (servC (left - n) period (.slice sa' (if n = 0 then L else Vg.owe (en + period) n L).length sc') en) ∧
      Vg.Que w' B 172 2 (.slice sa' (if n = 0 then L else Vg.owe (en + period) n L).length sc') (if n = 0 then L else Vg.owe (en + period) n L).length (Vg.pcells (if n = 0 then L else Vg.owe (en + period) n L)) ∧
      ((Value.slice sa' (if n = 0 then L else Vg.owe (en + period) n L).length sc').ownBlock = (Value.slice sa L.length sc).ownBlock ∨ ∀ k, (Value.slice sa' (if n = 0 then L else Vg.owe (en + period) n L).length sc').ownBlock = some k → w.heap.size ≤ k) ∧ e = .returned (.int .i64 0) := by
  obtain ⟨c0, c1, c2, c3⟩ := serv_cells h
  have f0 := Vg.frozen_of h
  have p0 := Vg.setCell_of h
  have l0 := Vg.lt_of h
  have N := Lib.hid h
  have HQ := Lib.hid hq
  clear h hq
  have hsub : IntKind.i64.wrap (en - n) = en - n := by rw [IntWalk.i64_in _ (by omega)]
  have hf : (decide (last ≤ en - n) && decide (en - n ≤ 4503599627370496)) = true := by rw [decide_eq_true h2, decide_eq_true (show en - n ≤ 4503599627370496 by omega)]; rfl
  have HF := Lib.hid hf
  clear hf
  have hroom2 : n ≤ left := by split at hroom <;> omega
  obtain ⟨lf, hlf⟩ : ∃ lf, (if 16 ≤ L.length then 0 else left) = lf := ⟨_, rfl⟩
  rw [hlf] at hroom
  have HL := Lib.hid hlf
  clear hlf
  have hsub2 : IntKind.i64.wrap (left - n) = left - n := by rw [IntWalk.i64_in _ (by omega)]
  have hsum : IntKind.i64.wrap (en + period) = en + period := by rw [IntWalk.i64_in _ (by omega)]
  by_cases hz : n = 0
  · subst hz
    rw [if_pos rfl, Int.sub_zero]
    have hf0 : (decide (last ≤ en) && decide (en ≤ 4503599627370496)) = true := by rw [decide_eq_true (show last ≤ en by omega), decide_eq_true hen]; rfl
    have HF0 := Lib.hid hf0
    clear hf0 hsub hsub2
    go_enter Tryd.func55, Tryd.ntmps55
    go_wp2_with (first | (go_at_call 49; refine (serv_later (left := left) (period := period) (v := .slice sa L.length sc) (last := last) en (by exact N.out)).mono ?_; rintro e w1 ⟨rfl, rfl⟩; rw [HF0.out]) | (go_at_call 54; refine (serv_left (left := left) (period := period) (sa := sa) (L := L) (sc := sc) (last := last) (by exact N.out)).mono ?_; rintro e w1 ⟨rfl, rfl⟩; rw [HL.out]))
    go_ret
    refine ⟨sa, sc, (Vg.Touch.refl _ w).put (.inl rfl) _, by go_simp, HQ.out.kept fun k hk => Vg.put_heap_other (by have := (HQ.out.lt k hk).1; omega), .inl rfl, rfl⟩
  · rw [if_neg hz]
    have hpos : 0 < n := by omega
    go_enter Tryd.func55, Tryd.ntmps55
    go_wp2_with (first | (go_at_call 49; refine (serv_later (left := left) (period := period) (v := .slice sa L.length sc) (last := last) (en - n) (by exact N.out)).mono ?_; rintro e w1 ⟨rfl, rfl⟩; rw [HF.out]) | (go_at_call 54; refine (serv_left (left := left) (period := period) (sa := sa) (L := L) (sc := sc) (last := last) (by exact N.out)).mono ?_; rintro e w1 ⟨rfl, rfl⟩; rw [HL.out]) | (go_at_call 82; go_loud (refine (serv_owe (left := left - n) (period := period) (last := en) (sa := sa) (sc := sc) (L := L) (B := B) (en + period) n (by go_simp) (by exact HQ.out.kept fun k hk => Vg.put_heap_other (by have := (HQ.out.lt k hk).1; omega)) hb (by rw [Vg.put_size]; exact hB) hL (fun x hx => by have := hbd x hx; omega)).mono ?_; rintro e w1 ⟨sa', sc', ht, hb', hq', ho', rfl⟩; have HT := Lib.hid ht; have HB' := Lib.hid hb'; have HQ' := Lib.hid hq'; have HO' := Lib.hid ho'; clear ht hb' hq' ho')))
    go_ret
    refine ⟨sa', sc', ?_, HB'.out, HQ'.out, ?_, rfl⟩
    · exact ((Vg.Touch.refl _ w).put (.inl rfl) _).trans HT.out
    · rcases HO'.out with h5 | h5
      · exact .inl h5
      · exact .inr fun k hk => by have := h5 k hk; rw [Vg.put_size] at this; exact this
end
end Go.Proofs.YtekjnagojphmkaaDoor
namespace Go.Proofs.YtekjnagojphmkaaDoor
open Go.ChangeShapes Go.WideShapes Go.ChangeAt Go.RowKit
section
variable {b B : Nat} {left period last : Int} {v : Value} {L : List (Int × Int)} {w : World} {sa : Option Addr} {sc : Nat}
theorem serv_refill_no (now : Int) (h : Vg.blk w b = some (servC left period (.slice sa L.length sc) last)) (hno : now < last ∨ 4503599627370496 < now) :
    Calls Tryd.prog 50 #[.pointer (some ⟨b, 0, none⟩), .int .i64 now] w fun e w' => e = .returned (.tuple #[.int .i64 0, .int .i64 1]) ∧ w = w' := by
  have N := Lib.hid h
  clear h
  have hf : (decide (last ≤ now) && decide (now ≤ 4503599627370496)) = false := by
    rcases hno with h | h
    · rw [decide_eq_false (by omega)]; rfl
    · rw [decide_eq_false (show ¬ now ≤ 4503599627370496 by omega), Bool.and_false]
  have HF := Lib.hid hf
  clear hf
  go_enter Tryd.func50, Tryd.ntmps50
  go_wp2_with (go_at_call 49; refine (serv_later (left := left) (period := period) (v := .slice sa L.length sc) (last := last) now (by exact N.out)).mono ?_; rintro e w1 ⟨rfl, rfl⟩; rw [HF.out])
  go_ret2
  exact ⟨rfl, rfl⟩
theorem serv_refill_ok (now : Int) (h : Vg.blk w b = some (servC left period (.slice sa L.length sc) last)) (hq : Vg.Que w B 172 2 (.slice sa L.length sc) L.length (Vg.pcells L)) (hb : b < B) (hL : L.length ≤ 1000)
    (h1 : last ≤ now) (h2 : now ≤ 4503599627370496) (hl0 : 0 ≤ left ∧ left ≤ 1099511627776) (hbd : ∀ x ∈ L, 0 ≤ x.2 ∧ x.2 ≤ 1099511627776) :
    Calls Tryd.prog 50 #[.pointer (some ⟨b, 0, none⟩), .int .i64 now] w fun e w' => ∃ sa' sc', e = .returned (.tuple #[.int .i64 (Vg.due now L).1, .int .i64 0]) ∧
      w' = Vg.put w b (servC (left + (Vg.due now L).1) period (.slice sa' (Vg.due now L).2.length sc') now) ∧ Vg.Que w B 172 2 (.slice sa' (Vg.due now L).2.length sc') (Vg.due now L).2.length (Vg.pcells (Vg.due now L).2) ∧
      (Value.slice sa' (Vg.due now L).2.length sc').ownBlock = (Value.slice sa L.length sc).ownBlock := by
  obtain ⟨c0, c1, c2, c3⟩ := serv_cells h
  have f0 := Vg.frozen_of h
  have p0 := Vg.setCell_of h
  have l0 := Vg.lt_of h
  have N := Lib.hid h
  have HQ := Lib.hid hq
  clear h hq
  have hf : (decide (last ≤ now) && decide (now ≤ 4503599627370496)) = true := by rw [decide_eq_true h1, decide_eq_true h2]; rfl
  have HF := Lib.hid hf
  clear hf
  go_enter Tryd.func50, Tryd.ntmps50
  go_wp2_with (go_at_call 49; refine (serv_later (left := left) (period := period) (v := .slice sa L.length sc) (last := last) now (by exact N.out)).mono ?_; rintro e w1 ⟨rfl, rfl⟩; rw [HF.out])
  go_loopg [6] L.length (fun k nv wr => ∃ (q : List (Int × Int)) (acc : Int) (sa' : Option Addr) (sc' : Nat), k = q.length ∧ nv = .int .i64 acc ∧ acc + (Vg.due now q).1 = (Vg.due now L).1 ∧ (Vg.due now q).2 = (Vg.due now L).2 ∧ 0 ≤ acc ∧ acc ≤ (L.length - q.length : Nat) * 1099511627776 ∧ q.length ≤ L.length ∧ (∀ x ∈ q, 0 ≤ x.2 ∧ x.2 ≤ 1099511627776) ∧
      wr = Vg.put w b (servC left period (.slice sa' q.length sc') now) ∧ Vg.Que w B 172 2 (.slice sa' q.length sc') q.length (Vg.pcells q) ∧ (Value.slice sa' q.length sc').ownBlock = (Value.slice sa L.length sc).ownBlock)
  case atStart => exact ⟨L, 0, sa, sc, rfl, rfl, by omega, rfl, by omega, by omega, by omega, hbd, rfl, HQ.out, rfl⟩
  case round =>
    obtain ⟨q, acc, sa', sc', hk, rfl, hacc, hrest, ha0, ha1, hql, hqb, rfl, hq, hown⟩ := hrel
    have HA := Lib.hid hacc
    have HR := Lib.hid hrest
    have HK := Lib.hid hk
    have HO := Lib.hid hown
    have HQ1 := Lib.hid hq
    clear hacc hrest hk hown hq
    have hsum2 : IntKind.i64.wrap (left + acc) = left + acc := by rw [IntWalk.i64_in _ (by omega)]
    cases q with
    | nil =>
      go_wp2
      go_ret2
      have e1 : acc = (Vg.due now L).1 := by have := HA.out; simpa [Vg.due] using this
      have e2 : (Vg.due now L).2 = [] := HR.out.symm
      rw [e2, ← e1]
      exact ⟨sa', sc', rfl, rfl, HQ1.out, HO.out⟩
    | cons x l =>
      obtain ⟨g, off, rfl, hg, hc, hm, hx⟩ := HQ1.out.reads.open (by rw [Vg.pcells_length]; simp)
      have c0' := hx 0 (by simp [Vg.pcells])
      have c1' := hx 1 (by simp [Vg.pcells])
      simp only [Nat.add_zero, Vg.pcells, List.getElem_cons_zero, List.getElem_cons_succ] at c0' c1'
      have hcm : sc' ≤ 9223372036854775807 := hm
      have hbg : b ≠ g := by have := (HQ1.out.lt g rfl).1; omega
      have hll : l.length + 1 ≤ 1000 := by simp at hql; omega
      have hxb := hqb x (by simp)
      have hsum : IntKind.i64.wrap (acc + x.2) = acc + x.2 := by rw [IntWalk.i64_in _ (by omega)]
      clear hx
      by_cases hle : x.1 ≤ now
      · have ed : Vg.due now (x :: l) = (x.2 + (Vg.due now l).1, (Vg.due now l).2) := by rw [Vg.due, if_pos hle]
        have HD := Lib.hid ed
        clear ed
        by_cases hc1 : sc' = 1
        · subst hc1
          go_wp2
          go_roundg l.length
          case measure => rw [HK.out]; simp
          case rel =>
            have e1 := HA.out
            have e2 := HR.out
            rw [HD.out] at e1 e2
            have hq2 := Vg.Que.tail1 (n := l.length) HQ1.out
            simp only [List.length_cons] at ha1 hql
            refine ⟨l, acc + x.2, some ⟨g, off, none⟩, 0, rfl, rfl, ?_, e2, by omega, by omega, by omega, fun y hy => hqb y (by simp [hy]), rfl, hq2, ?_⟩
            · rw [← e1]; show acc + x.2 + (Vg.due now l).1 = acc + (x.2 + (Vg.due now l).1); omega
            · exact HO.out
        · have hc2 : 2 ≤ sc' := by simp at hc; omega
          go_wp2
          go_roundg l.length
          case measure => rw [HK.out]; simp
          case rel =>
            have e1 := HA.out
            have e2 := HR.out
            rw [HD.out] at e1 e2
            have hq2 := Vg.Que.tail (n := l.length) HQ1.out
            simp only [List.length_cons] at ha1 hql
            refine ⟨l, acc + x.2, some ⟨g, off + 2, none⟩, sc' - 1, rfl, rfl, ?_, e2, by omega, by omega, by omega, fun y hy => hqb y (by simp [hy]), rfl, hq2, ?_⟩
            · rw [← e1]; show acc + x.2 + (Vg.due now l).1 = acc + (x.2 + (Vg.due now l).1); omega
            · exact HO.out
      · have ed : Vg.due now (x :: l) = (0, x :: l) := by rw [Vg.due, if_neg hle]
        have HD := Lib.hid ed
        clear ed
        go_wp2
        go_ret2
        have e1 := HA.out
        have e2 := HR.out
        rw [HD.out] at e1 e2
        have e1' : acc = (Vg.due now L).1 := by rw [← e1]; show acc = acc + 0; omega
        rw [← e2, ← e1']
        first
          | exact ⟨some ⟨g, off, none⟩, sc', rfl, rfl, HQ1.out, HO.out⟩
          | exact ⟨rfl, some ⟨g, off, none⟩, sc', rfl, HQ1.out, HO.out⟩
          | (trace_state; exact ⟨rfl, some ⟨g, off, none⟩, sc', rfl, HQ1.out, HO.out⟩)
end
end Go.Proofs.YtekjnagojphmkaaDoor
namespace Vg
def owed : List (Int × Int) → Int
  | [] => 0
  | x :: l => x.2 + owed l
theorem owed_append : ∀ l m : List (Int × Int), owed (l ++ m) = owed l + owed m
  | [], m => by simp [owed]
  | x :: l, m => by simp [owed, owed_append l m]; omega
theorem owed_owe (at_ n : Int) (L : List (Int × Int)) : owed (owe at_ n L) = owed L + n := by
  rcases List.eq_nil_or_concat L with rfl | ⟨l, x, rfl⟩
  · simp [owe, owed]
  · rw [List.concat_eq_append, owe_snoc]
    split <;> simp [owed_append, owed] <;> omega
theorem owed_due (now : Int) : ∀ L : List (Int × Int), (due now L).1 + owed (due now L).2 = owed L
  | [] => by simp [due, owed]
  | x :: l => by
    unfold due
    split
    · have := owed_due now l
      simp only [owed]; omega
    · simp [owed]
theorem due_sublist (now : Int) : ∀ L : List (Int × Int), (due now L).2.Sublist L
  | [] => by simp [due]
  | x :: l => by
    unfold due
    split
    · exact (due_sublist now l).cons x
    · exact List.Sublist.refl _
theorem owe_length (at_ n : Int) (L : List (Int × Int)) : (owe at_ n L).length ≤ L.length + 1 := by
  rcases List.eq_nil_or_concat L with rfl | ⟨l, x, rfl⟩
  · simp [owe]
  · rw [List.concat_eq_append, owe_snoc]
    split <;> simp
theorem owe_mem {at_ n : Int} {L : List (Int × Int)} {y : Int × Int} (h : y ∈ owe at_ n L) : y ∈ L ∨ y = (at_, n) ∨ ∃ x ∈ L, x.1 = at_ ∧ y = (x.1, x.2 + n) := by
  rcases List.eq_nil_or_concat L with rfl | ⟨l, x, rfl⟩
  · simp [owe] at h; exact .inr (.inl h)
  · rw [List.concat_eq_append, owe_snoc] at h
    split at h
    · rename_i he
      rcases List.mem_append.1 h with h | h
      · exact .inl (by simp [h])
      · simp at h
        exact .inr (.inr ⟨x, by simp, he, h⟩)
    · rcases List.mem_append.1 h with h | h
      · exact .inl (by simpa using h)
      · simp at h; exact .inr (.inl h)
theorem owed_nonneg : ∀ {L : List (Int × Int)}, (∀ x ∈ L, 0 ≤ x.2) → 0 ≤ owed L
  | [], _ => by simp [owed]
  | x :: l, h => by
    have := owed_nonneg (L := l) fun y hy => h y (by simp [hy])
    have := h x (by simp)
    simp only [owed]; omega
theorem owed_mem : ∀ {L : List (Int × Int)}, (∀ x ∈ L, 0 ≤ x.2) → ∀ x ∈ L, x.2 ≤ owed L
  | y :: l, h, x, hx => by
    have hl := owed_nonneg (L := l) fun z hz => h z (by simp [hz])
    have hy := h y (by simp)
    rcases List.mem_cons.1 hx with rfl | hx
    · simp only [owed]; omega
    · have := owed_mem (L := l) (fun z hz => h z (by simp [hz])) x hx
      simp only [owed]; omega
structure Srv where
  L : List (Int × Int)
  last : Int
def Srv.left (s : Srv) (budget : Int) : Int := if 16 ≤ s.L.length then 0 else budget - owed s.L
def Srv.use (s : Srv) (budget period n en : Int) : Srv × Int :=
  if n < 0 ∨ en < n ∨ 4503599627370496 < en ∨ en - n < s.last then (s, 1) else
  if s.left budget < n then (s, 5) else (⟨if n = 0 then s.L else owe (en + period) n s.L, en⟩, 0)
def Srv.refill (s : Srv) (now : Int) : Srv × Int × Int :=
  if now < s.last ∨ 4503599627370496 < now then (s, 0, 1) else (⟨(due now s.L).2, now⟩, (due now s.L).1, 0)
/-- What holds of a server in use. -/
def Srv.Inv (s : Srv) (budget : Int) : Prop := 0 ≤ s.last ∧ s.last ≤ 4503599627370496 ∧ s.L.length ≤ 16 ∧ (∀ x ∈ s.L, 0 ≤ x.1 ∧ x.1 ≤ 4504699138998272 ∧ 0 ≤ x.2) ∧ owed s.L ≤ budget
theorem Srv.use_inv {s : Srv} {budget period : Int} (n en : Int) (h : s.Inv budget) (hp : 1 ≤ period ∧ period ≤ 1099511627776) : (s.use budget period n en).1.Inv budget := by
  unfold Srv.use
  split
  · exact h
  · rename_i hno
    split
    · exact h
    · rename_i hroom
      obtain ⟨h1, h2, h3, h4, h5⟩ := h
      have hl : s.L.length < 16 ∧ n ≤ budget - owed s.L ∨ n = 0 := by
        unfold Srv.left at hroom
        split at hroom
        · right; omega
        · left; omega
      refine ⟨by show 0 ≤ en; omega, by show en ≤ _; omega, ?_, ?_, ?_⟩
      · show (if n = 0 then s.L else owe (en + period) n s.L).length ≤ 16
        split
        · exact h3
        · have := owe_length (en + period) n s.L; omega
      · intro y hy
        have hy : y ∈ (if n = 0 then s.L else owe (en + period) n s.L) := hy
        split at hy
        · exact h4 y hy
        · rcases owe_mem hy with h | rfl | ⟨x, hx, he, rfl⟩
          · exact h4 y h
          · refine ⟨?_, ?_, ?_⟩ <;> show _ ≤ _ <;> simp only [] <;> omega
          · have := h4 x hx
            refine ⟨this.1, this.2.1, ?_⟩
            show 0 ≤ x.2 + n; omega
      · show owed (if n = 0 then s.L else owe (en + period) n s.L) ≤ budget
        split
        · exact h5
        · rw [owed_owe]; omega
theorem Srv.refill_inv {s : Srv} {budget : Int} (now : Int) (h : s.Inv budget) : (s.refill now).1.Inv budget := by
  unfold Srv.refill
  split
  · exact h
  · obtain ⟨h1, h2, h3, h4, h5⟩ := h
    have hs := due_sublist now s.L
    have hd : 0 ≤ (due now s.L).1 := by
      have : ∀ L : List (Int × Int), (∀ x ∈ L, 0 ≤ x.2) → 0 ≤ (due now L).1 := by
        intro L
        induction L with
        | nil => intro _; simp [due]
        | cons x l ih =>
          intro hx
          unfold due
          split
          · have := ih fun y hy => hx y (by simp [hy])
            have := hx x (by simp)
            show 0 ≤ x.2 + (due now l).1; omega
          · show (0 : Int) ≤ 0; omega
      exact this s.L fun x hx => (h4 x hx).2.2
    have ho := owed_due now s.L
    refine ⟨by show 0 ≤ now; omega, by show now ≤ _; omega, Nat.le_trans hs.length_le h3, fun x hx => h4 x (hs.subset hx), ?_⟩
    show owed (due now s.L).2 ≤ budget
    omega
end Vg
namespace Go.Proofs.YtekjnagojphmkaaDoor
open Go.ChangeShapes Go.WideShapes Go.ChangeAt Go.RowKit
section
variable {b B : Nat} {budget period last : Int} {L : List (Int × Int)} {w : World} {sa : Option Addr} {sc : Nat}
theorem serv_use_any (n en : Int) (h : Vg.blk w b = some (servC (budget - Vg.owed L) period (.slice sa L.length sc) last)) (hq : Vg.Que w B 172 2 (.slice sa L.length sc) L.length (Vg.pcells L)) (hb : b < B) (hB : B ≤ w.heap.size)
    (hinv : Vg.Srv.Inv ⟨L, last⟩ budget) (hp : 1 ≤ period ∧ period ≤ 1099511627776) (hbu : 1 ≤ budget ∧ budget ≤ 1099511627776) (hn : -9223372036854775808 ≤ n ∧ n ≤ 9223372036854775807) (hen : -9223372036854775808 ≤ en ∧ en ≤ 9223372036854775807) :
    Calls Tryd.prog 55 #[.pointer (some ⟨b, 0, none⟩), .int .i64 n, .int .i64 en] w fun e w' => ∃ L' last' sa' sc', (Vg.Srv.use ⟨L, last⟩ budget period n en).1 = ⟨L', last'⟩ ∧ Vg.Touch (fun k => k = b ∨ (Value.slice sa L.length sc).ownBlock = some k) w w' ∧
      Vg.blk w' b = some (servC (budget - Vg.owed L') period (.slice sa' L'.length sc') last') ∧ Vg.Que w' B 172 2 (.slice sa' L'.length sc') L'.length (Vg.pcells L') ∧
      ((Value.slice sa' L'.length sc').ownBlock = (Value.slice sa L.length sc).ownBlock ∨ ∀ k, (Value.slice sa' L'.length sc').ownBlock = some k → w.heap.size ≤ k) ∧ e = .returned (.int .i64 (Vg.Srv.use ⟨L, last⟩ budget period n en).2) := by
  obtain ⟨i1, i2, i3, i4, i5⟩ := hinv
  have i1 : 0 ≤ last := i1
  have i2 : last ≤ 4503599627370496 := i2
  have i3 : L.length ≤ 16 := i3
  have i4 : ∀ x ∈ L, 0 ≤ x.1 ∧ x.1 ≤ 4504699138998272 ∧ 0 ≤ x.2 := i4
  have i5 : Vg.owed L ≤ budget := i5
  have ho := Vg.owed_nonneg (L := L) fun x hx => (i4 x hx).2.2
  by_cases hno : n < 0 ∨ en < n ∨ 4503599627370496 < en ∨ en - n < last
  · have hu : Vg.Srv.use ⟨L, last⟩ budget period n en = (⟨L, last⟩, 1) := by unfold Vg.Srv.use; rw [if_pos hno]
    rw [hu]
    refine (serv_use_no n en h hen hno).mono ?_
    rintro e w' ⟨rfl, rfl⟩
    exact ⟨L, last, sa, sc, rfl, Vg.Touch.refl _ _, h, hq, .inl rfl, rfl⟩
  · have hle : (if 16 ≤ L.length then 0 else budget - Vg.owed L) = Vg.Srv.left ⟨L, last⟩ budget := rfl
    by_cases hfull : Vg.Srv.left ⟨L, last⟩ budget < n
    · have hu : Vg.Srv.use ⟨L, last⟩ budget period n en = (⟨L, last⟩, 5) := by unfold Vg.Srv.use; rw [if_neg hno, if_pos hfull]
      rw [hu]
      refine (serv_use_full n en h (by omega) (by omega) (by omega) (by omega) (by rw [hle]; exact hfull)).mono ?_
      rintro e w' ⟨rfl, rfl⟩
      exact ⟨L, last, sa, sc, rfl, Vg.Touch.refl _ _, h, hq, .inl rfl, rfl⟩
    · have hu : Vg.Srv.use ⟨L, last⟩ budget period n en = (⟨if n = 0 then L else Vg.owe (en + period) n L, en⟩, 0) := by unfold Vg.Srv.use; rw [if_neg hno, if_neg hfull]
      rw [hu]
      refine (serv_use_ok n en h hq hb hB (by omega) (by omega) (by omega) (by omega) (by rw [hle]; omega) (by omega) hp (by omega) (by omega) (fun x hx => ⟨(i4 x hx).2.2, by have := Vg.owed_mem (fun y hy => (i4 y hy).2.2) x hx; omega⟩)).mono ?_
      rintro e w' ⟨sa', sc', ht, hb', hq', ho', rfl⟩
      refine ⟨_, _, sa', sc', rfl, ht, ?_, hq', ho', rfl⟩
      rw [hb']
      have : budget - Vg.owed L - n = budget - Vg.owed (if n = 0 then L else Vg.owe (en + period) n L) := by
        split
        · omega
        · rw [Vg.owed_owe]; omega
      rw [this]
theorem serv_refill_any (now : Int) (h : Vg.blk w b = some (servC (budget - Vg.owed L) period (.slice sa L.length sc) last)) (hq : Vg.Que w B 172 2 (.slice sa L.length sc) L.length (Vg.pcells L)) (hb : b < B)
    (hinv : Vg.Srv.Inv ⟨L, last⟩ budget) (hbu : 1 ≤ budget ∧ budget ≤ 1099511627776) :
    Calls Tryd.prog 50 #[.pointer (some ⟨b, 0, none⟩), .int .i64 now] w fun e w' => ∃ L' last' sa' sc', (Vg.Srv.refill ⟨L, last⟩ now).1 = ⟨L', last'⟩ ∧ e = .returned (.tuple #[.int .i64 (Vg.Srv.refill ⟨L, last⟩ now).2.1, .int .i64 (Vg.Srv.refill ⟨L, last⟩ now).2.2]) ∧
      Vg.Que w B 172 2 (.slice sa' L'.length sc') L'.length (Vg.pcells L') ∧ (Value.slice sa' L'.length sc').ownBlock = (Value.slice sa L.length sc).ownBlock ∧
      w' = Vg.put w b (servC (budget - Vg.owed L') period (.slice sa' L'.length sc') last') := by
  obtain ⟨i1, i2, i3, i4, i5⟩ := hinv
  have i1 : 0 ≤ last := i1
  have i2 : last ≤ 4503599627370496 := i2
  have i3 : L.length ≤ 16 := i3
  have i4 : ∀ x ∈ L, 0 ≤ x.1 ∧ x.1 ≤ 4504699138998272 ∧ 0 ≤ x.2 := i4
  have i5 : Vg.owed L ≤ budget := i5
  have ho := Vg.owed_nonneg (L := L) fun x hx => (i4 x hx).2.2
  by_cases hno : now < last ∨ 4503599627370496 < now
  · have hu : Vg.Srv.refill ⟨L, last⟩ now = (⟨L, last⟩, 0, 1) := by unfold Vg.Srv.refill; rw [if_pos hno]
    rw [hu]
    refine (serv_refill_no now h hno).mono ?_
    rintro e w' ⟨rfl, rfl⟩
    exact ⟨L, last, sa, sc, rfl, rfl, hq, rfl, (Vg.put_self h).symm⟩
  · have hu : Vg.Srv.refill ⟨L, last⟩ now = (⟨(Vg.due now L).2, now⟩, (Vg.due now L).1, 0) := by unfold Vg.Srv.refill; rw [if_neg hno]
    rw [hu]
    refine (serv_refill_ok now h hq hb (by omega) (by omega) (by omega) (by omega) (fun x hx => ⟨(i4 x hx).2.2, by have := Vg.owed_mem (fun y hy => (i4 y hy).2.2) x hx; omega⟩)).mono ?_
    rintro e w' ⟨sa', sc', rfl, rfl, hq', hown⟩
    refine ⟨_, _, sa', sc', rfl, rfl, hq', hown, ?_⟩
    have := Vg.owed_due now L
    have e1 : budget - Vg.owed L + (Vg.due now L).1 = budget - Vg.owed (Vg.due now L).2 := by omega
    rw [e1]
end
end Go.Proofs.YtekjnagojphmkaaDoor
namespace Vg
open Go
theorem Reads.ptail {S : Nat} {w : World} {g o c : Nat} {x : Int × Int} {l : List (Int × Int)} (h : Reads S w (.slice (some ⟨g, o, none⟩) (l.length + 1) c) (l.length + 1) (pcells (x :: l))) : Reads S w (.slice (some ⟨g, o + 2, none⟩) l.length (c - 1)) l.length (pcells l) := by
  rcases h with ⟨h0, _⟩ | ⟨g', o', cap', hv, hb, hg, hn, hm, hx⟩
  · cases h0
  · simp only [Value.slice.injEq, Option.some.injEq, Addr.mk.injEq] at hv
    obtain ⟨⟨rfl, rfl, _⟩, _, rfl⟩ := hv
    refine .inr ⟨g, o + 2, c - 1, rfl, hb, hg, by omega, by omega, fun j hj => ?_⟩
    have := hx (j + 2) (by simpa [pcells] using hj)
    rw [show o + 2 + j = o + (j + 2) from by omega, this]
    simp [pcells]
theorem Reads.ptail1 {S : Nat} {w : World} {g o : Nat} {x : Int × Int} {l : List (Int × Int)} (h : Reads S w (.slice (some ⟨g, o, none⟩) (l.length + 1) 1) (l.length + 1) (pcells (x :: l))) : Reads S w (.slice (some ⟨g, o, none⟩) l.length 0) l.length (pcells l) := by
  rcases h with ⟨h0, _⟩ | ⟨g', o', cap', hv, hb, hg, hn, hm, hx⟩
  · cases h0
  · simp only [Value.slice.injEq, Option.some.injEq, Addr.mk.injEq] at hv
    obtain ⟨⟨rfl, rfl, _⟩, _, rfl⟩ := hv
    have hl : l = [] := List.eq_nil_of_length_eq_zero (by omega)
    subst hl
    exact .inr ⟨g, o, 0, rfl, hb, hg, by simp, by omega, fun j hj => by simp [pcells] at hj⟩
end Vg
namespace Go.Proofs.YtekjnagojphmkaaDoor
open Go.ChangeShapes Go.WideShapes Go.ChangeAt Go.RowKit
section
variable {S : Nat} {budget period last : Int} {sa : Option Addr} {sc : Nat} {L : List (Int × Int)} {w : World}
end
end Go.Proofs.YtekjnagojphmkaaDoor
namespace Vg
open Go
theorem pcells_one : ∀ l : List (Int × Int), ∀ u ∈ pcells l, u.oneCell' = true
  | [], u, h => by simp [pcells] at h
  | x :: l, u, h => by
    simp only [pcells, List.mem_cons] at h
    rcases h with rfl | rfl | h
    · rfl
    · rfl
    · exact pcells_one l u h
@[go_sem] theorem setCell_drewN {w : World} {k : Nat} {a : Addr} {v : Value} : (w.drewN k).setCell a v = (w.setCell a v).drewN k := rfl
theorem Que.base {B n m : Nat} {W0 W1 : World} {y : Array Obj} {v : Value} {k size : Nat} {e : TypeId} {xs : List Value} (h : Que (plus W0 y n) B e size v k xs) (hs : W1.heap.size = W0.heap.size) (hB : W0.heap.size ≤ B) : Que (plus W1 y m) B e size v k xs :=
  h.kept fun j hj => by
    have := (h.lt j hj).1
    show (W1.heap ++ y)[j]? = (W0.heap ++ y)[j]?
    rw [Array.getElem?_append_right (by omega), Array.getElem?_append_right (by omega), hs]
end Vg
namespace Go.Proofs.YtekjnagojphmkaaDoor
open Go.ChangeShapes Go.WideShapes Go.ChangeAt Go.RowKit
section
variable {S : Nat} {budget period last : Int} {sa : Option Addr} {sc : Nat} {L : List (Int × Int)} {w : World}
end
end Go.Proofs.YtekjnagojphmkaaDoor
namespace Vg
open Go
theorem Touch.grows {w0 w w' : World} {t : Nat → Prop} (h : Touch t w w') (hg : Grows w0 w) (ht : ∀ k, t k → w0.heap.size ≤ k) : Grows w0 w' :=
  Grows.of_below ⟨h.os.trans hg.below.os, h.tape.trans hg.below.tape, h.output.trans hg.below.output, Nat.le_trans hg.size h.size, fun k hk =>
    (h.block k (Nat.lt_of_lt_of_le hk hg.size) (fun hh => by have := ht k hh; omega)).trans (hg.below.block k hk)⟩
theorem Touch.blk {w w' : World} {t : Nat → Prop} {k : Nat} {o : Obj} (h : Touch t w w') (hb : Vg.blk w k = some o) (ht : ¬ t k) : Vg.blk w' k = some o :=
  (h.block k (lt_of hb) ht).trans hb
theorem Reads.touch {S : Nat} {w w' : World} {t : Nat → Prop} {sv : Value} {n : Nat} {xs : List Value} (h : Reads S w sv n xs) (ht : Touch t w w') (ha : ∀ k, sv.ownBlock = some k → ¬ t k) : Reads S w' sv n xs := by
  rcases h with h | ⟨g, off, cap, h1, h2, h3, h4, h5, h6⟩
  · exact .inl h
  · refine .inr ⟨g, off, cap, h1, h2, Nat.lt_of_lt_of_le h3 ht.size, h4, h5, fun j hj => ?_⟩
    rw [← h6 j hj]
    exact World.cell?_of_block (w := w) (ht.block g h3 (ha g (by rw [h1]; rfl)))
theorem Reads.own_lt {S : Nat} {w : World} {sv : Value} {n : Nat} {xs : List Value} (h : Reads S w sv n xs) : ∀ k, sv.ownBlock = some k → S ≤ k ∧ k < w.heap.size := by
  intro k hk
  rcases h with ⟨rfl, _⟩ | ⟨g, off, cap, rfl, h2, h3, _⟩
  · simp [Value.ownBlock] at hk
  · have : g = k := by simpa [Value.ownBlock] using hk
    omega
def byt (t n : Int) : Int := if n < 0 ∨ 4503599627370496 - t < n then -1 else t + n
theorem byt_bd {t n : Int} (h : 0 ≤ t ∧ t ≤ 4503599627370496) : -1 ≤ byt t n ∧ byt t n ≤ 4503599627370496 := by unfold byt; split <;> omega
/-- An act at its own time. -/
def effs (last : Int) (x : Int × Int × Int) : Int × Int × Int :=
  if x.1 = 2 then (0, x.2.1, byt (max (byt last x.2.2) 0) x.2.1) else if x.1 = 3 then (1, x.2.1, byt last x.2.2) else x
theorem effs_bd {last : Int} {x : Int × Int × Int} (hl : 0 ≤ last ∧ last ≤ 4503599627370496) (h : -9223372036854775808 ≤ x.2.2 ∧ x.2.2 ≤ 9223372036854775807) : -9223372036854775808 ≤ (effs last x).2.2 ∧ (effs last x).2.2 ≤ 9223372036854775807 ∧ (effs last x).2.1 = x.2.1 := by
  unfold effs
  have h1 := byt_bd (n := x.2.2) hl
  split
  · have := byt_bd (t := max (byt last x.2.2) 0) (n := x.2.1) (by omega)
    show -9223372036854775808 ≤ byt (max (byt last x.2.2) 0) x.2.1 ∧ byt (max (byt last x.2.2) 0) x.2.1 ≤ 9223372036854775807 ∧ x.2.1 = x.2.1
    omega
  · split
    · show -9223372036854775808 ≤ byt last x.2.2 ∧ byt last x.2.2 ≤ 9223372036854775807 ∧ x.2.1 = x.2.1
      omega
    · exact ⟨h.1, h.2, rfl⟩
def Srv.act (s : Srv) (bu pe : Int) (x : Int × Int × Int) : Srv := if x.1 = 0 then (s.use bu pe x.2.1 x.2.2).1 else if x.1 = 1 then (s.refill x.2.2).1 else s
theorem Srv.act_inv {s : Srv} {bu pe : Int} (x : Int × Int × Int) (h : s.Inv bu) (hp : 1 ≤ pe ∧ pe ≤ 1099511627776) : (s.act bu pe x).Inv bu := by
  unfold Srv.act
  split
  · exact Srv.use_inv _ _ h hp
  · split
    · exact Srv.refill_inv _ h
    · exact h
theorem Srv.inv0 {bu : Int} (h : 1 ≤ bu) : Srv.Inv ⟨[], 0⟩ bu := ⟨by show (0 : Int) ≤ 0; omega, by show (0 : Int) ≤ _; omega, by simp, by simp, by show (0 : Int) ≤ bu; omega⟩
end Vg
namespace Go.Proofs.YtekjnagojphmkaaDoor
open Go.ChangeShapes Go.WideShapes Go.ChangeAt Go.RowKit
/-- A server lies at block b; its row is v, in a block from B on. -/
def SA (w : World) (b B : Nat) (bu pe : Int) (s : Vg.Srv) (v : Value) : Prop :=
  ∃ sa sc, v = .slice sa s.L.length sc ∧ Vg.blk w b = some (servC (bu - Vg.owed s.L) pe v s.last) ∧ Vg.Que w B 172 2 v s.L.length (Vg.pcells s.L)
/-- The document's list. -/
def RA (w : World) (S : Nat) (s : Vg.Srv) (v : Value) : Prop := ∃ sa sc, v = .slice sa s.L.length sc ∧ Vg.Reads S w v s.L.length (Vg.pcells s.L)
section
variable {w w' : World} {b B S : Nat} {bu pe : Int} {s : Vg.Srv} {v : Value}
theorem SA.kept (h : SA w b B bu pe s v) (hb : Vg.blk w' b = Vg.blk w b) (hv : ∀ k, v.ownBlock = some k → Vg.blk w' k = Vg.blk w k) : SA w' b B bu pe s v := by
  obtain ⟨sa, sc, hv', h1, h2⟩ := h
  exact ⟨sa, sc, hv', hb.trans h1, h2.kept hv⟩
theorem SA.lt (h : SA w b B bu pe s v) : b < w.heap.size := by obtain ⟨sa, sc, hv', h1, h2⟩ := h; exact Vg.lt_of h1
theorem SA.own (h : SA w b B bu pe s v) : ∀ k, v.ownBlock = some k → B ≤ k ∧ k < w.heap.size := by obtain ⟨sa, sc, hv', h1, h2⟩ := h; exact h2.lt
theorem SA.grows (h : SA w b B bu pe s v) (hg : Vg.Grows w w') : SA w' b B bu pe s v := by
  have hl := h.lt
  have ho := h.own
  obtain ⟨x, n, rfl⟩ := hg
  exact h.kept (Vg.blk_plus hl) fun k hk => Vg.blk_plus (ho k hk).2
theorem SA.touch {t : Nat → Prop} (h : SA w b B bu pe s v) (ht : Vg.Touch t w w') (hb : ¬ t b) (hv : ∀ k, v.ownBlock = some k → ¬ t k) : SA w' b B bu pe s v :=
  h.kept (ht.block b h.lt hb) fun k hk => ht.block k (h.own k hk).2 (hv k hk)
theorem RA.grows (h : RA w S s v) (hg : Vg.Grows w w') : RA w' S s v := by
  obtain ⟨sa, sc, hv', h1⟩ := h
  exact ⟨sa, sc, hv', h1.grows hg⟩
theorem RA.touch {t : Nat → Prop} (h : RA w S s v) (ht : Vg.Touch t w w') (hv : ∀ k, v.ownBlock = some k → ¬ t k) : RA w' S s v := by
  obtain ⟨sa, sc, hv', h1⟩ := h
  exact ⟨sa, sc, hv', h1.touch ht hv⟩
theorem RA.own (h : RA w S s v) : ∀ k, v.ownBlock = some k → S ≤ k ∧ k < w.heap.size := by
  obtain ⟨sa, sc, hv', h1⟩ := h
  exact h1.own_lt
theorem sa_new (h1 : 1 ≤ bu) (h2 : bu ≤ pe) (h3 : pe ≤ 1099511627776) :
    Calls Tryd.prog 45 #[.int .i64 bu, .int .i64 pe] w fun e w' => e = .returned (.tuple #[.pointer (some ⟨w.heap.size, 0, none⟩), .int .i64 0]) ∧ SA w' w.heap.size (w.heap.size + 1) bu pe ⟨[], 0⟩ (.slice none 0 0) ∧ w' = w.alloc (servC bu pe (.slice none 0 0) 0) := by
  refine (serv_new_ok bu pe h1 h2 h3).mono ?_
  rintro e w' ⟨rfl, rfl⟩
  refine ⟨rfl, ⟨none, 0, rfl, ?_, Vg.Que.nil _ _ _ _⟩, rfl⟩
  have : bu - Vg.owed [] = bu := Int.sub_zero bu
  rw [this]
  exact Vg.alloc_heap_at rfl
theorem sa_use (n en : Int) (h : SA w b B bu pe s v) (hb : b < B) (hB : B ≤ w.heap.size) (hinv : s.Inv bu) (hp : 1 ≤ pe ∧ pe ≤ 1099511627776) (hbu : 1 ≤ bu ∧ bu ≤ 1099511627776)
    (hn : -9223372036854775808 ≤ n ∧ n ≤ 9223372036854775807) (hen : -9223372036854775808 ≤ en ∧ en ≤ 9223372036854775807) :
    Calls Tryd.prog 55 #[.pointer (some ⟨b, 0, none⟩), .int .i64 n, .int .i64 en] w fun e w' => ∃ v', e = .returned (.int .i64 (s.use bu pe n en).2) ∧ SA w' b B bu pe (s.use bu pe n en).1 v' ∧
      Vg.Touch (fun k => k = b ∨ v.ownBlock = some k) w w' ∧ (∀ k, v'.ownBlock = some k → v.ownBlock = some k ∨ w.heap.size ≤ k) := by
  obtain ⟨sa, sc, rfl, h1, h2⟩ := h
  refine (serv_use_any (L := s.L) (last := s.last) n en h1 h2 hb hB hinv hp hbu hn hen).mono ?_
  rintro e w' ⟨L', last', sa', sc', hst, ht, hb', hq', ho', rfl⟩
  have hst : (s.use bu pe n en).1 = ⟨L', last'⟩ := hst
  refine ⟨.slice sa' L'.length sc', rfl, ?_, ht, ?_⟩
  rotate_left
  · intro k hk
    rcases ho' with h | h
    · exact .inl (h.symm.trans hk)
    · exact .inr (h k hk)
  · rw [hst]
    exact ⟨sa', sc', rfl, hb', hq'⟩
theorem sa_refill (now : Int) (h : SA w b B bu pe s v) (hb : b < B) (hinv : s.Inv bu) (hbu : 1 ≤ bu ∧ bu ≤ 1099511627776) :
    Calls Tryd.prog 50 #[.pointer (some ⟨b, 0, none⟩), .int .i64 now] w fun e w' => ∃ v', e = .returned (.tuple #[.int .i64 (s.refill now).2.1, .int .i64 (s.refill now).2.2]) ∧ SA w' b B bu pe (s.refill now).1 v' ∧
      Vg.Touch (fun k => k = b ∨ v.ownBlock = some k) w w' ∧ (∀ k, v'.ownBlock = some k → v.ownBlock = some k ∨ w.heap.size ≤ k) := by
  obtain ⟨sa, sc, rfl, h1, h2⟩ := h
  refine (serv_refill_any (L := s.L) (last := s.last) now h1 h2 hb hinv hbu).mono ?_
  rintro e w' ⟨L', last', sa', sc', hst, rfl, hq', ho', rfl⟩
  have hst : (s.refill now).1 = ⟨L', last'⟩ := hst
  refine ⟨.slice sa' L'.length sc', rfl, ?_, (Vg.Touch.refl _ _).put (.inl rfl) _, fun k hk => .inl (ho'.symm.trans hk)⟩
  rw [hst]
  refine ⟨sa', sc', rfl, Vg.put_heap_same (Vg.lt_of h1), ?_⟩
  exact hq'.kept fun k hk => Vg.put_heap_other (by have := (hq'.lt k hk).1; omega)
theorem sa_left (h : SA w b B bu pe s v) : Calls Tryd.prog 54 #[.pointer (some ⟨b, 0, none⟩)] w fun e w' => e = .returned (.int .i64 (s.left bu)) ∧ w = w' := by
  obtain ⟨sa, sc, rfl, h1, h2⟩ := h
  exact serv_left h1
theorem sa_waits (h : SA w b B bu pe s v) : Calls Tryd.prog 81 #[.pointer (some ⟨b, 0, none⟩)] w fun e w' => e = .returned (.int .i64 s.L.length) ∧ w = w' := by
  obtain ⟨sa, sc, rfl, h1, h2⟩ := h
  exact serv_waits h1
end
end Go.Proofs.YtekjnagojphmkaaDoor
