/- Refill of package server. -/
import Derived.Test.YtiinhofmhoplfaaServerU
set_option linter.unusedSimpArgs false
set_option linter.unusedVariables false
set_option maxHeartbeats 400000
set_option maxRecDepth 20000
namespace Go.Proofs.Ytiinhofmhoplfaa
open Go.ChangeShapes Go.WideShapes Go.ChangeAt Go.RowKit
section
variable {b B : Nat} {left period last : Int} {v : Value} {L : List (Int × Int)} {w : World} {sa : Option Addr} {sc : Nat}
theorem serv_refill_no (now : Int) (h : Vg.blk w b = some (servC left period (.slice sa L.length sc) last)) (hno : now < last ∨ 4503599627370496 < now) :
    Calls Try.prog 108 #[.pointer (some ⟨b, 0, none⟩), .int .i64 now] w fun e w' => e = .returned (.tuple #[.int .i64 0, .int .i64 1]) ∧ w = w' := by
  have N := Lib.hid h
  clear h
  have hf : (decide (last ≤ now) && decide (now ≤ 4503599627370496)) = false := by
    rcases hno with h | h
    · rw [decide_eq_false (by omega)]; rfl
    · rw [decide_eq_false (show ¬ now ≤ 4503599627370496 by omega), Bool.and_false]
  have HF := Lib.hid hf
  clear hf
  go_enter Try.func108, Try.ntmps108
  go_wp2_with (go_at_call 107; refine (serv_later (left := left) (period := period) (v := .slice sa L.length sc) (last := last) now (by exact N.out)).mono ?_; rintro e w1 ⟨rfl, rfl⟩; rw [HF.out])
  go_ret2
  exact ⟨rfl, rfl⟩
theorem serv_refill_ok (now : Int) (h : Vg.blk w b = some (servC left period (.slice sa L.length sc) last)) (hq : Vg.Que w B 230 2 (.slice sa L.length sc) L.length (Vg.pcells L)) (hb : b < B) (hL : L.length ≤ 1000)
    (h1 : last ≤ now) (h2 : now ≤ 4503599627370496) (hl0 : 0 ≤ left ∧ left ≤ 1099511627776) (hbd : ∀ x ∈ L, 0 ≤ x.2 ∧ x.2 ≤ 1099511627776) :
    Calls Try.prog 108 #[.pointer (some ⟨b, 0, none⟩), .int .i64 now] w fun e w' => ∃ sa' sc', e = .returned (.tuple #[.int .i64 (Vg.due now L).1, .int .i64 0]) ∧
      w' = Vg.put w b (servC (left + (Vg.due now L).1) period (.slice sa' (Vg.due now L).2.length sc') now) ∧ Vg.Que w B 230 2 (.slice sa' (Vg.due now L).2.length sc') (Vg.due now L).2.length (Vg.pcells (Vg.due now L).2) ∧
      (Value.slice sa' (Vg.due now L).2.length sc').ownBlock = (Value.slice sa L.length sc).ownBlock := by
  obtain ⟨c0, c1, c2, c3⟩ := serv_cells h
  have f0 := Vg.frozen_of h
  have p0 := Vg.setCell_of h
  have l0 := Vg.lt_of h
  have N := Lib.hid h
  have HQ := Lib.hid hq
  clear h hq
  have hf : (decide (last ≤ now) && decide (now ≤ 4503599627370496)) = true := by rw [decide_eq_true h1, decide_eq_true h2]; rfl
  have HF := Lib.hid hf
  clear hf
  go_enter Try.func108, Try.ntmps108
  go_wp2_with (go_at_call 107; refine (serv_later (left := left) (period := period) (v := .slice sa L.length sc) (last := last) now (by exact N.out)).mono ?_; rintro e w1 ⟨rfl, rfl⟩; rw [HF.out])
  go_loopg [6] L.length (fun k nv wr => ∃ (q : List (Int × Int)) (acc : Int) (sa' : Option Addr) (sc' : Nat), k = q.length ∧ nv = .int .i64 acc ∧ acc + (Vg.due now q).1 = (Vg.due now L).1 ∧ (Vg.due now q).2 = (Vg.due now L).2 ∧ 0 ≤ acc ∧ acc ≤ (L.length - q.length : Nat) * 1099511627776 ∧ q.length ≤ L.length ∧ (∀ x ∈ q, 0 ≤ x.2 ∧ x.2 ≤ 1099511627776) ∧
      wr = Vg.put w b (servC left period (.slice sa' q.length sc') now) ∧ Vg.Que w B 230 2 (.slice sa' q.length sc') q.length (Vg.pcells q) ∧ (Value.slice sa' q.length sc').ownBlock = (Value.slice sa L.length sc).ownBlock)
  case atStart => exact ⟨L, 0, sa, sc, rfl, rfl, by omega, rfl, by omega, by omega, by omega, hbd, rfl, HQ.out, rfl⟩
  case round =>
    obtain ⟨q, acc, sa', sc', hk, rfl, hacc, hrest, ha0, ha1, hql, hqb, rfl, hq, hown⟩ := hrel
    have HA := Lib.hid hacc
    have HR := Lib.hid hrest
    have HK := Lib.hid hk
    have HO := Lib.hid hown
    have HQ1 := Lib.hid hq
    clear hacc hrest hk hown hq
    have hsum2 : IntKind.i64.wrap (left + acc) = left + acc := by rw [IntWalk.i64_in _ (by omega)]
    cases q with
    | nil =>
      go_wp2
      go_ret2
      have e1 : acc = (Vg.due now L).1 := by have := HA.out; simpa [Vg.due] using this
      have e2 : (Vg.due now L).2 = [] := HR.out.symm
      rw [e2, ← e1]
      exact ⟨sa', sc', rfl, rfl, HQ1.out, HO.out⟩
    | cons x l =>
      obtain ⟨g, off, rfl, hg, hc, hm, hx⟩ := HQ1.out.reads.open (by rw [Vg.pcells_length]; simp)
      have c0' := hx 0 (by simp [Vg.pcells])
      have c1' := hx 1 (by simp [Vg.pcells])
      simp only [Nat.add_zero, Vg.pcells, List.getElem_cons_zero, List.getElem_cons_succ] at c0' c1'
      have hcm : sc' ≤ 9223372036854775807 := hm
      have hbg : b ≠ g := by have := (HQ1.out.lt g rfl).1; omega
      have hll : l.length + 1 ≤ 1000 := by simp at hql; omega
      have hxb := hqb x (by simp)
      have hsum : IntKind.i64.wrap (acc + x.2) = acc + x.2 := by rw [IntWalk.i64_in _ (by omega)]
      clear hx
      by_cases hle : x.1 ≤ now
      · have ed : Vg.due now (x :: l) = (x.2 + (Vg.due now l).1, (Vg.due now l).2) := by rw [Vg.due, if_pos hle]
        have HD := Lib.hid ed
        clear ed
        by_cases hc1 : sc' = 1
        · subst hc1
          go_wp2
          go_roundg l.length
          case measure => rw [HK.out]; simp
          case rel =>
            have e1 := HA.out
            have e2 := HR.out
            rw [HD.out] at e1 e2
            have hq2 := Vg.Que.tail1 (n := l.length) HQ1.out
            simp only [List.length_cons] at ha1 hql
            refine ⟨l, acc + x.2, some ⟨g, off, none⟩, 0, rfl, rfl, ?_, e2, by omega, by omega, by omega, fun y hy => hqb y (by simp [hy]), rfl, hq2, ?_⟩
            · rw [← e1]; show acc + x.2 + (Vg.due now l).1 = acc + (x.2 + (Vg.due now l).1); omega
            · exact HO.out
        · have hc2 : 2 ≤ sc' := by simp at hc; omega
          go_wp2
          go_roundg l.length
          case measure => rw [HK.out]; simp
          case rel =>
            have e1 := HA.out
            have e2 := HR.out
            rw [HD.out] at e1 e2
            have hq2 := Vg.Que.tail (n := l.length) HQ1.out
            simp only [List.length_cons] at ha1 hql
            refine ⟨l, acc + x.2, some ⟨g, off + 2, none⟩, sc' - 1, rfl, rfl, ?_, e2, by omega, by omega, by omega, fun y hy => hqb y (by simp [hy]), rfl, hq2, ?_⟩
            · rw [← e1]; show acc + x.2 + (Vg.due now l).1 = acc + (x.2 + (Vg.due now l).1); omega
            · exact HO.out
      · have ed : Vg.due now (x :: l) = (0, x :: l) := by rw [Vg.due, if_neg hle]
        have HD := Lib.hid ed
        clear ed
        go_wp2
        go_ret2
        have e1 := HA.out
        have e2 := HR.out
        rw [HD.out] at e1 e2
        have e1' : acc = (Vg.due now L).1 := by rw [← e1]; show acc = acc + 0; omega
        rw [← e2, ← e1']
        first
          | exact ⟨some ⟨g, off, none⟩, sc', rfl, rfl, HQ1.out, HO.out⟩
          | exact ⟨rfl, some ⟨g, off, none⟩, sc', rfl, HQ1.out, HO.out⟩
          | (trace_state; exact ⟨rfl, some ⟨g, off, none⟩, sc', rfl, HQ1.out, HO.out⟩)
end
end Go.Proofs.Ytiinhofmhoplfaa
