/- The laws of layer 16 (storm): lives, and the walks. -/
import Derived.Test.YtlgkcpgmnpoanaaStormR
import Derived.Test.YtlgkcpgmnpoanaaStormP
import Derived.Test.YtlgkcpgmnpoanaaFit
set_option linter.unusedSimpArgs false
set_option linter.unusedVariables false
set_option maxHeartbeats 1000000
set_option maxRecDepth 20000
namespace Go.Proofs.Ytlgkcpgmnpoanaa
open Go.ChangeShapes Go.WideShapes Go.ChangeAt Go.RowKit

theorem Shows.empty (R : Nat → Int) (many : Nat) (h1 : 1 ≤ many) (h2 : many ≤ 64) : Shows R many 0 [] := ⟨h1, h2, by omega, by simp, fun i hi => by simp at hi⟩

theorem lives16 (w : World) : Calls Try.prog 15 #[] w fun e w' => e = .returned (.bool true) ∧ Vg.Grows w w' := by
  have e1 : Vg.Mask.enter ⟨[], 0, 0⟩ 2 10 1 = (⟨[11], 1, 0⟩, 0) := by rfl
  have e2 : Vg.Mask.enter ⟨[11], 1, 0⟩ 2 10 2 = (⟨[11, 12], 2, 0⟩, 0) := by rfl
  have e3 : Vg.Mask.enter ⟨[11, 12], 2, 0⟩ 2 10 3 = (⟨[11, 12], 3, 1⟩, 15) := by rfl
  have e4 : Vg.pop 10 [11, 12] = [11, 12] := by rfl
  have e5 : Vg.Mask.enter ⟨[11, 12], 10, 1⟩ 2 10 11 = (⟨[12, 21], 11, 1⟩, 0) := by rfl
  have e6 : Vg.Mask.enter ⟨[12, 21], 11, 1⟩ 2 10 10 = (⟨[12, 21], 11, 1⟩, 1) := by rfl
  have E1 := Lib.hid e1
  have E2 := Lib.hid e2
  have E3 := Lib.hid e3
  have E4 := Lib.hid e4
  have E5 := Lib.hid e5
  have E6 := Lib.hid e6
  clear e1 e2 e3 e4 e5 e6
  go_enter Try.func15, Try.ntmps15
  go_wp2_with fail
  refine (storm_new_ok 2 10 (by omega) (by omega) (by omega) (by omega)).mono ?_
  rintro e w1 ⟨rfl, rfl⟩
  go_wp2_with fail
  refine (storm_new_no 0 10 (by omega)).mono ?_
  rintro e w1 ⟨rfl, rfl⟩
  go_wp2_with fail
  refine (storm_enter 1 [] (b := w.heap.size + 1) (rb := w.heap.size) (many := 2) (window := 10) (last := 0) (refused := 0) (first := 0) (R := fun _ => 0) (by go_simp) (by go_simp) (by omega) (Shows.empty _ 2 (by omega) (by omega)) (by omega) (by omega) (by omega)).mono ?_
  rintro e w1 ⟨f1, R1, s1, rfl, x1, n1, rfl⟩
  rw [E1.out] at s1
  rw [E1.out]
  go_wp2_with fail
  refine (storm_enter 2 [11] (b := w.heap.size + 1) (rb := w.heap.size) (many := 2) (window := 10) (last := 1) (refused := 0) (first := f1) (R := R1) (by go_simp) (by go_simp) (by omega) s1 (by omega) (by omega) (by omega)).mono ?_
  rintro e w1 ⟨f2, R2, s2, rfl, x2, n2, rfl⟩
  rw [E2.out] at s2
  rw [E2.out]
  go_wp2_with fail
  refine (storm_enter 3 [11, 12] (b := w.heap.size + 1) (rb := w.heap.size) (many := 2) (window := 10) (last := 2) (refused := 0) (first := f2) (R := R2) (by go_simp) (by go_simp) (by omega) s2 (by omega) (by omega) (by omega)).mono ?_
  rintro e w1 ⟨f3, R3, s3, rfl, x3, n3, rfl⟩
  rw [E3.out] at s3
  rw [E3.out]
  go_wp2_with fail
  have h3 := s3.head
  refine (storm_next_some (b := w.heap.size + 1) (rb := w.heap.size) (many := 2) (window := 10) (last := 3) (refused := 1) (first := f3) (taken := 2) (R := R3) (by go_simp) (by go_simp) (by omega) ⟨by omega, by omega⟩ s3.2.2.1).mono ?_
  rintro e w1 ⟨rfl, k4, rfl⟩
  rw [h3]
  clear h3
  go_wp2_with fail
  refine (storm_masked_ok 10 [11, 12] (b := w.heap.size + 1) (rb := w.heap.size) (many := 2) (window := 10) (last := 3) (refused := 1) (first := f3) (R := R3) (by go_simp) (by go_simp) (by omega) s3 (by omega) (by omega)).mono ?_
  rintro e w1 ⟨f5, s5, rfl, x5, n5, rfl⟩
  rw [E4.out] at s5
  rw [E4.out]
  go_wp2_with fail
  refine (storm_enter 11 [11, 12] (b := w.heap.size + 1) (rb := w.heap.size) (many := 2) (window := 10) (last := 10) (refused := 1) (first := f5) (R := R3) (by go_simp) (by go_simp) (by omega) s5 (by omega) (by omega) (by omega)).mono ?_
  rintro e w1 ⟨f6, R6, s6, rfl, x6, n6, rfl⟩
  rw [E5.out] at s6
  rw [E5.out]
  go_wp2_with fail
  refine (storm_enter 10 [12, 21] (b := w.heap.size + 1) (rb := w.heap.size) (many := 2) (window := 10) (last := 11) (refused := 1) (first := f6) (R := R6) (by go_simp) (by go_simp) (by omega) s6 (by omega) (by omega) (by omega)).mono ?_
  rintro e w1 ⟨f7, R7, s7, rfl, x7, n7, rfl⟩
  rw [E6.out] at s7
  rw [E6.out]
  go_wp2_with (go_at_call 25; refine (storm_refused (b := w.heap.size + 1) (rb := w.heap.size) (many := 2) (window := 10) (last := 11) (refused := 1) (first := f7) (taken := 2) (by go_simp)).mono ?_; rintro e w1 ⟨rfl, rfl⟩)
  go_ret
  exact ⟨rfl, by (repeat' (first | (with_reducible exact Vg.Grows.refl _) | (with_reducible assumption) | (with_reducible refine Vg.Grows.alloc ?_ _) | (with_reducible refine Vg.Grows.plus ?_ _ _) | (with_reducible refine Vg.Grows.drewN ?_ _) | (with_reducible refine Vg.Grows.drew ?_) | (with_reducible refine Vg.Grows.setCell ?_ ?_ _) | (with_reducible refine Vg.Grows.put ?_ ?_ _) | omega | (simp; omega) | (simp; done)))⟩

theorem by16 (t n : Int) (w : World) (ht : 0 ≤ t ∧ t ≤ 4503599627370496) (hn : -9223372036854775808 ≤ n ∧ n ≤ 9223372036854775807) :
    Calls Try.prog 18 #[.int .i64 t, .int .i64 n] w fun e w' => e = .returned (.int .i64 (Vg.byy t n)) ∧ w = w' := by
  by_cases h1 : n < 0
  · go_enter Try.func18, Try.ntmps18
    go_wp2
    go_ret
    exact ⟨ret_int (by unfold Vg.byy; rw [if_pos (.inl h1)]), rfl⟩
  · by_cases h2 : 4503599627370496 - t < n
    · go_enter Try.func18, Try.ntmps18
      go_wp2
      go_ret
      exact ⟨ret_int (by unfold Vg.byy; rw [if_pos (.inr h2)]), rfl⟩
    · go_enter Try.func18, Try.ntmps18
      go_wp2
      go_ret
      exact ⟨ret_int (by unfold Vg.byy; rw [if_neg (by omega)]), rfl⟩

section
variable {S many : Nat} {window last refused : Int} {sa : Option Addr} {sc : Nat} {q : List Int} {w : World}
theorem ref16_masked_any (now : Int) (hinv : Vg.Mask.Inv ⟨q, last, refused⟩ window) (hr : Vg.Reads S w (.slice sa (Vg.ents window q).length sc) (Vg.ents window q).length (ints (Vg.ents window q))) (hS : S ≤ w.heap.size)
    (hq : q.length ≤ many) (hm : many ≤ 64) (hw : 1 ≤ window ∧ window ≤ 1099511627776) :
    Calls Try.prog 21 #[.agg #[.int .i64 many, .int .i64 window, .slice sa (Vg.ents window q).length sc, .int .i64 last, .int .i64 refused], .int .i64 now] w fun e w' => ∃ sa' sc',
      Vg.Reads S w' (.slice sa' (Vg.ents window (Vg.Mask.tell ⟨q, last, refused⟩ now).1.q).length sc') (Vg.ents window (Vg.Mask.tell ⟨q, last, refused⟩ now).1.q).length (ints (Vg.ents window (Vg.Mask.tell ⟨q, last, refused⟩ now).1.q)) ∧
      e = .returned (.tuple #[.agg #[.int .i64 many, .int .i64 window, .slice sa' (Vg.ents window (Vg.Mask.tell ⟨q, last, refused⟩ now).1.q).length sc', .int .i64 (Vg.Mask.tell ⟨q, last, refused⟩ now).1.last, .int .i64 refused], .bool (decide ((Vg.Mask.tell ⟨q, last, refused⟩ now).2 = 0 ∧ (Vg.Mask.tell ⟨q, last, refused⟩ now).1.q.length = many)), .int .i64 (Vg.Mask.tell ⟨q, last, refused⟩ now).2]) ∧ Vg.Grows w w' := by
  have hl0 : 0 ≤ last := hinv.1
  by_cases hno : now < last ∨ 4503599627370496 < now
  · have ht : Vg.Mask.tell ⟨q, last, refused⟩ now = (⟨q, last, refused⟩, 1) := by unfold Vg.Mask.tell; rw [if_pos hno]
    rw [ht]
    refine (ref16_masked_no now (by rcases hno with h | h; · exact .inr h
                                    · exact .inl (by rw [Vg.timeB_false]; omega))).mono ?_
    rintro e w' ⟨rfl, hg⟩
    exact ⟨sa, sc, hr.grows hg, by simp, hg⟩
  · have ht : Vg.Mask.tell ⟨q, last, refused⟩ now = (⟨Vg.pop now q, now, refused⟩, 0) := by unfold Vg.Mask.tell; rw [if_neg hno]
    rw [ht]
    have hL : (Vg.ents window q).length ≤ 1000 := by rw [Vg.ents_length]; omega
    refine (ref16_masked_ok now hr hL (by omega) (by omega) (by omega) hw).mono ?_
    rw [Vg.ents_filter now window q hinv.2.2.1]
    rintro e w' ⟨sa', sc', hr', rfl, hg⟩
    have hpl := Vg.pop_length now q
    refine ⟨sa', sc', hr'.weaken hS, ?_, hg⟩
    have hd : (decide ((many : Int) ≤ (Vg.ents window (Vg.pop now q)).length)) = decide ((0 : Int) = 0 ∧ (Vg.pop now q).length = many) := by
      rw [decide_eq_decide, Vg.ents_length]
      constructor
      · intro h; exact ⟨rfl, by omega⟩
      · rintro ⟨-, h⟩; omega
    rw [hd]

theorem ref16_enter_any (now : Int) (hinv : Vg.Mask.Inv ⟨q, last, refused⟩ window) (hr : Vg.Reads S w (.slice sa (Vg.ents window q).length sc) (Vg.ents window q).length (ints (Vg.ents window q))) (hS : S ≤ w.heap.size)
    (hq : q.length ≤ many) (hm : many ≤ 64) (hw : 1 ≤ window ∧ window ≤ 1099511627776) (hrf : 0 ≤ refused ∧ refused ≤ 4611686018427387904) :
    Calls Try.prog 19 #[.agg #[.int .i64 many, .int .i64 window, .slice sa (Vg.ents window q).length sc, .int .i64 last, .int .i64 refused], .int .i64 now] w fun e w' => ∃ sa' sc',
      Vg.Reads S w' (.slice sa' (Vg.ents window (Vg.Mask.enter ⟨q, last, refused⟩ many window now).1.q).length sc') (Vg.ents window (Vg.Mask.enter ⟨q, last, refused⟩ many window now).1.q).length (ints (Vg.ents window (Vg.Mask.enter ⟨q, last, refused⟩ many window now).1.q)) ∧
      e = .returned (.tuple #[.agg #[.int .i64 many, .int .i64 window, .slice sa' (Vg.ents window (Vg.Mask.enter ⟨q, last, refused⟩ many window now).1.q).length sc', .int .i64 (Vg.Mask.enter ⟨q, last, refused⟩ many window now).1.last, .int .i64 (Vg.Mask.enter ⟨q, last, refused⟩ many window now).1.refused], .int .i64 (Vg.Mask.enter ⟨q, last, refused⟩ many window now).2]) ∧ Vg.Grows w w' := by
  have hl0 : 0 ≤ last := hinv.1
  by_cases hno : now < last ∨ 4503599627370496 < now
  · have ht : Vg.Mask.tell ⟨q, last, refused⟩ now = (⟨q, last, refused⟩, 1) := by unfold Vg.Mask.tell; rw [if_pos hno]
    have he : Vg.Mask.enter ⟨q, last, refused⟩ many window now = (⟨q, last, refused⟩, 1) := by unfold Vg.Mask.enter; rw [ht]; rfl
    rw [he]
    refine (ref16_enter_no now (by rcases hno with h | h; · exact .inr h
                                   · exact .inl (by rw [Vg.timeB_false]; omega))).mono ?_
    rintro e w' ⟨rfl, hg⟩
    exact ⟨sa, sc, hr.grows hg, rfl, hg⟩
  · have ht : Vg.Mask.tell ⟨q, last, refused⟩ now = (⟨Vg.pop now q, now, refused⟩, 0) := by unfold Vg.Mask.tell; rw [if_neg hno]
    have hL : (Vg.ents window q).length ≤ 999 := by rw [Vg.ents_length]; omega
    have hpl := Vg.pop_length now q
    have hf := Vg.ents_filter now window q hinv.2.2.1
    by_cases hfull : (Vg.pop now q).length = many
    · have he : Vg.Mask.enter ⟨q, last, refused⟩ many window now = (⟨Vg.pop now q, now, refused + 1⟩, 15) := by
        unfold Vg.Mask.enter; rw [ht]; simp only [ne_eq, not_true, if_false]; rw [if_pos hfull]
      rw [he]
      refine (ref16_enter_full now (Vg.ents window (Vg.pop now q)) hf (by rw [Vg.ents_length]; omega) hr (by omega) (by omega) (by omega) (by omega) hw hrf).mono ?_
      rintro e w' ⟨sa', sc', hr', rfl, hg⟩
      exact ⟨sa', sc', hr'.weaken hS, rfl, hg⟩
    · have he : Vg.Mask.enter ⟨q, last, refused⟩ many window now = (⟨Vg.pop now q ++ [now + window], now, refused⟩, 0) := by
        unfold Vg.Mask.enter; rw [ht]; simp only [ne_eq, not_true, if_false]; rw [if_neg hfull]
      rw [he]
      simp only [Vg.ents_snoc]
      refine (ref16_enter_ok now (Vg.ents window (Vg.pop now q)) hf (by rw [Vg.ents_length]; omega) hr hL (by omega) (by omega) (by omega) hw).mono ?_
      rintro e w' ⟨sa', sc', hr', rfl, hg⟩
      exact ⟨sa', sc', hr'.weaken hS, rfl, hg⟩
end
theorem storm_masked_any {b rb many : Nat} {window last refused : Int} {first : Nat} {R : Nat → Int} {w : World} (now : Int) (q : List Int) (h : Vg.blk w b = some (maskC rb many window first q.length last refused)) (hr : Vg.blk w rb = some (ringC R many)) (hne : b ≠ rb) (hs : Shows R many first q) :
    Calls Try.prog 22 #[.pointer (some ⟨b, 0, none⟩), .int .i64 now] w fun e w' => ∃ first', Shows R many first' (Vg.Mask.tell ⟨q, last, refused⟩ now).1.q ∧
      e = .returned (.tuple #[.bool (decide ((Vg.Mask.tell ⟨q, last, refused⟩ now).2 = 0 ∧ (Vg.Mask.tell ⟨q, last, refused⟩ now).1.q.length = many)), .int .i64 (Vg.Mask.tell ⟨q, last, refused⟩ now).2]) ∧
      Vg.Grows (Vg.put w b (maskC rb many window first' (Vg.Mask.tell ⟨q, last, refused⟩ now).1.q.length (Vg.Mask.tell ⟨q, last, refused⟩ now).1.last refused)) w' := by
  by_cases hno : now < last ∨ 4503599627370496 < now
  · have ht : Vg.Mask.tell ⟨q, last, refused⟩ now = (⟨q, last, refused⟩, 1) := by unfold Vg.Mask.tell; rw [if_pos hno]
    rw [ht]
    refine (storm_masked_no now h hno).mono ?_
    rintro e w' ⟨rfl, hg⟩
    exact ⟨first, hs, by simp, by rw [Vg.put_self h]; exact hg⟩
  · have ht : Vg.Mask.tell ⟨q, last, refused⟩ now = (⟨Vg.pop now q, now, refused⟩, 0) := by unfold Vg.Mask.tell; rw [if_neg hno]
    rw [ht]
    refine (storm_masked_ok now q h hr hne hs (by omega) (by omega)).mono ?_
    rintro e w' ⟨first', hs', rfl, hg⟩
    exact ⟨first', hs', by simp, hg⟩
theorem tell_inv {s : Vg.Mask} {window : Int} (now : Int) (h : s.Inv window) : (s.tell now).1.Inv window := by
  unfold Vg.Mask.tell
  split
  · exact h
  · exact Vg.pop_inv h (by omega) (by omega)
theorem enter_inv {s : Vg.Mask} {window : Int} (many : Nat) (now : Int) (h : s.Inv window) : (s.enter many window now).1.Inv window := by
  unfold Vg.Mask.enter
  split
  · exact h
  · rename_i ht
    have ht' : ¬ (now < s.last ∨ 4503599627370496 < now) := by
      intro hc; apply ht; unfold Vg.Mask.tell; rw [if_pos hc]; simp
    have hi := tell_inv now h
    have he : s.tell now = (⟨Vg.pop now s.q, now, s.refused⟩, 0) := by unfold Vg.Mask.tell; rw [if_neg ht']
    rw [he] at hi ⊢
    split
    · exact hi
    · exact Vg.push_inv hi
theorem tell_refused {s : Vg.Mask} (now : Int) : (s.tell now).1.refused = s.refused := by
  unfold Vg.Mask.tell; split <;> rfl
theorem enter_refused {s : Vg.Mask} (many : Nat) (window now : Int) : s.refused ≤ (s.enter many window now).1.refused ∧ (s.enter many window now).1.refused ≤ s.refused + 1 := by
  unfold Vg.Mask.enter
  have := tell_refused (s := s) now
  split
  · show s.refused ≤ s.refused ∧ s.refused ≤ s.refused + 1; omega
  · split
    · show s.refused ≤ s.refused + 1 ∧ s.refused + 1 ≤ s.refused + 1; omega
    · show s.refused ≤ s.refused ∧ s.refused ≤ s.refused + 1; omega

theorem StormPlays_walk (m wd : Int) (a : Option Addr) (len cap : Nat) (D : Nat → Nat → Int) (w : World) (hm0 : -9223372036854775808 ≤ m) (hm1 : m ≤ 9223372036854775807) (hw0 : -9223372036854775808 ≤ wd) (hw1 : wd ≤ 9223372036854775807) (hr : Vg.intRows w [.i64, .i64] a len cap D) :
    Calls Try.prog 3 #[.int .i64 m, .int .i64 wd, .slice a len cap] w fun e w' => e = .returned (.bool true) ∧ Vg.Grows w w' := by
  by_cases hok : 1 ≤ m ∧ m ≤ 64 ∧ 1 ≤ wd ∧ wd ≤ 1099511627776
  · obtain ⟨h1, h2, h3, h4⟩ := hok
    obtain ⟨many, rfl⟩ := Int.eq_ofNat_of_zero_le (show 0 ≤ m by omega)
    have hb : (decide ((1 : Int) ≤ many) && decide ((many : Int) ≤ 64) && decide (1 ≤ wd) && decide (wd ≤ 1099511627776)) = true := by simp; omega
    have HB := Lib.hid hb
    clear hb
    have hlen := hr.1
    have hcap : cap ≤ 9223372036854775807 := hr.2.1
    by_cases hl : 100 < len
    · go_enter Try.func3, Try.ntmps3
      go_wp2_with (first | (go_at_call 15; refine (lives16 _).mono ?_; rintro e w1 ⟨rfl, x0, n0, rfl⟩) | (go_at_call 16; refine (storm_new_ok many wd (by omega) (by omega) (by omega) (by omega)).mono ?_; rintro e w1 ⟨rfl, rfl⟩) | (go_at_call 17; refine (ref16_new many wd).mono ?_; rintro e w1 ⟨rfl, x1, n1, rfl⟩; rw [HB.out]))
      go_ret
      exact ⟨rfl, by (repeat' (first | (with_reducible exact Vg.Grows.refl _) | (with_reducible assumption) | (with_reducible refine Vg.Grows.alloc ?_ _) | (with_reducible refine Vg.Grows.plus ?_ _ _) | (with_reducible refine Vg.Grows.drewN ?_ _) | (with_reducible refine Vg.Grows.drew ?_) | (with_reducible refine Vg.Grows.setCell ?_ ?_ _) | (with_reducible refine Vg.Grows.put ?_ ?_ _) | omega | (simp; omega) | (simp; done)))⟩
    · have RH := Lib.hid (fun h => Vg.intRows.open (by decide) hr h)
      clear hr
      go_enter Try.func3, Try.ntmps3
      go_wp2_with (first | (go_at_call 15; refine (lives16 _).mono ?_; rintro e w1 ⟨rfl, x0, n0, rfl⟩) | (go_at_call 16; refine (storm_new_ok many wd (by omega) (by omega) (by omega) (by omega)).mono ?_; rintro e w1 ⟨rfl, rfl⟩) | (go_at_call 17; refine (ref16_new many wd).mono ?_; rintro e w1 ⟨rfl, x1, n1, rfl⟩; rw [HB.out]))
      obtain ⟨rb, hrb⟩ : ∃ rb, w.heap.size + Vg.sz x0 = rb := ⟨_, rfl⟩
      obtain ⟨b, hb⟩ : ∃ b, w.heap.size + 1 + Vg.sz x0 = b := ⟨_, rfl⟩
      obtain ⟨bw, hbw⟩ : ∃ bw, w.heap.size + 1 + 1 + Vg.sz x0 + Vg.sz x1 = bw := ⟨_, rfl⟩
      simp only [hb, hbw, hrb]
      have hrb0 : w.heap.size ≤ rb := by omega
      have hb0 : w.heap.size ≤ b := by omega
      have hbw0 : w.heap.size ≤ bw := by omega
      have n1' : b ≠ rb := by omega
      have n2' : rb ≠ b := by omega
      have n3' : bw ≠ b := by omega
      have n4' : b ≠ bw := by omega
      have n5' : bw ≠ rb := by omega
      have n6' : rb ≠ bw := by omega
      obtain ⟨W0, hW0⟩ : ∃ W0, (Vg.plus (((Vg.plus w x0 n0).alloc (ringC (fun x => 0) many)).alloc (maskC rb many wd 0 0 0 0)) x1 n1).alloc (.cells #[.int .i64 many, .int .i64 wd, .slice none 0 0, .int .i64 0, .int .i64 0] 30) = W0 := ⟨_, rfl⟩
      have g1 : Vg.blk W0 b = some (maskC rb many wd 0 0 0 0) := by rw [← hW0, ← hb]; simp [go_sem]
      have g2 : Vg.blk W0 rb = some (ringC (fun x => 0) many) := by rw [← hW0, ← hrb]; simp [go_sem]
      have g3 : Vg.blk W0 bw = some (.cells #[.int .i64 many, .int .i64 wd, .slice none 0 0, .int .i64 0, .int .i64 0] 30) := by rw [← hW0, ← hbw]; simp [go_sem]
      have g4 : Vg.Grows w W0 := by rw [← hW0]; (repeat' (first | (with_reducible exact Vg.Grows.refl _) | (with_reducible assumption) | (with_reducible refine Vg.Grows.alloc ?_ _) | (with_reducible refine Vg.Grows.plus ?_ _ _) | (with_reducible refine Vg.Grows.drewN ?_ _) | (with_reducible refine Vg.Grows.drew ?_) | (with_reducible refine Vg.Grows.setCell ?_ ?_ _) | (with_reducible refine Vg.Grows.put ?_ ?_ _) | omega | (simp; omega) | (simp; done)))
      have g5 : bw < W0.heap.size := Vg.lt_of g3
      have g6 : b < W0.heap.size := Vg.lt_of g1
      have g7 : rb < W0.heap.size := Vg.lt_of g2
      rw [hW0]
      have HB1 := Lib.hid hrb
      have HB2 := Lib.hid hb
      have HB3 := Lib.hid hbw
      have HW := Lib.hid hW0
      have G1 := Lib.hid g1
      have G2 := Lib.hid g2
      have G3 := Lib.hid g3
      clear hrb hb hbw hW0 g1 g2 g3
      obtain ⟨S, hS⟩ : ∃ S, W0.heap.size = S := ⟨_, rfl⟩
      have HS := Lib.hid hS
      rw [hS] at g5 g6 g7
      clear hS
      go_loopw [65] (fun i wr => ∃ (k : Nat) (s : Vg.Mask) (first : Nat) (R : Nat → Int) (sa : Option Addr) (sc : Nat), k ≤ len ∧ i = .int .i64 k ∧ s.Inv wd ∧ 0 ≤ s.refused ∧ s.refused ≤ k ∧ Shows R many first s.q ∧ S ≤ wr.heap.size ∧ Vg.Grows w wr ∧
          Vg.blk wr b = some (maskC rb many wd first s.q.length s.last s.refused) ∧ Vg.blk wr rb = some (ringC R many) ∧ Vg.blk wr bw = some (.cells #[.int .i64 many, .int .i64 wd, .slice sa (Vg.ents wd s.q).length sc, .int .i64 s.last, .int .i64 s.refused] 30) ∧
          Vg.Reads S wr (.slice sa (Vg.ents wd s.q).length sc) (Vg.ents wd s.q).length (ints (Vg.ents wd s.q))) (fun i _ => len - (intOf i).toNat)
      case atStart =>
        refine ⟨0, ⟨[], 0, 0⟩, 0, _, none, 0, by omega, rfl, ⟨by show (0 : Int) ≤ 0; omega, by show (0 : Int) ≤ _; omega, List.Pairwise.nil, by simp⟩, by show (0 : Int) ≤ 0; omega, by show (0 : Int) ≤ _; omega, Shows.empty _ _ (by omega) (by omega), by rw [HS.out]; exact Nat.le_refl _, g4, G1.out, G2.out, G3.out, Vg.Reads.nil _ _⟩
      case round =>
        obtain ⟨k, s, first, R, sa, sc, hk, rfl, hinv, hrf0, hrf1, hsh, hsz, hgr, b1, b2, b3, hrd⟩ := hrel
        obtain ⟨q, last, ref⟩ := s
        have hrf0 : 0 ≤ ref := hrf0
        have hrf1 : ref ≤ k := hrf1
        by_cases hlt : k < len
        · obtain ⟨ba, off, rfl, hba, hc⟩ := RH.out (by omega)
          have hc0 := hc k hlt 0 (by decide)
          have hc1 := hc k hlt 1 (by decide)
          obtain ⟨kd, hkd⟩ : ∃ kd, D k 0 = kd := ⟨_, rfl⟩
          obtain ⟨at_, hat⟩ : ∃ at_, D k 1 = at_ := ⟨_, rfl⟩
          rw [hkd] at hc0
          rw [hat] at hc1
          simp only [List.length_cons, List.length_nil, Nat.zero_add, List.getElem_cons_zero, List.getElem_cons_succ] at hc0 hc1
          obtain ⟨hc0, hw0'⟩ := hc0
          obtain ⟨hc1, hw1'⟩ := hc1
          have hbk := bounds_i64 hw0'
          have hbt := bounds_i64 hw1'
          have hc0 := (hgr.below.cell (p := ⟨ba, off + k * 2, none⟩) hba).trans hc0
          have hc1 := (hgr.below.cell (p := ⟨ba, off + k * 2 + 1, none⟩) hba).trans hc1
          have hbar : ba < wr.heap.size := Nat.lt_of_lt_of_le hba hgr.size
          clear hc hw0' hw1' hkd hat
          have c3 := Vg.cells_of b3
          have f3 := Vg.frozen_of b3
          have p3 := Vg.setCell_of b3
          have l1 := Vg.lt_of b1
          have l2 := Vg.lt_of b2
          have l3 := Vg.lt_of b3
          have B1 := Lib.hid b1
          have B2 := Lib.hid b2
          have B3 := Lib.hid b3
          clear b1 b2 b3
          go_upto_region 12 with fail
          go_cut [76] (fun s76 wx => s76 = .bool (decide (kd = 2 ∨ kd = 3)) ∧ wx = wr.alloc (.cells #[.int .i64 kd, .int .i64 at_] 34))
          case first =>
            go_wp2_with fail
            all_goals go_meet
            all_goals exact ⟨by first | (simp [*]; done) | (by_cases k2 : kd = 2 <;> by_cases k3 : kd = 3 <;> simp [*]), by simp [*]⟩
          case rest =>
            obtain ⟨rfl, rfl⟩ := hcut
            go_upto_if 76 with fail
            go_cut [] (fun wx => Vg.Grows (wr.alloc (.cells #[.int .i64 (Vg.eff last kd at_).1, .int .i64 (Vg.eff last kd at_).2] 34)) wx)
            case first =>
              by_cases h23 : kd = 2 ∨ kd = 3
              · have hd : decide (kd = 2 ∨ kd = 3) = true := decide_eq_true h23
                have he : Vg.eff last kd at_ = (kd - 2, Vg.byy last at_) := by unfold Vg.eff; rw [if_pos h23]
                have HE := Lib.hid he
                have hl0 : 0 ≤ last := hinv.1
                have hl1 : last ≤ 4503599627370496 := hinv.2.1
                have hsub : IntKind.i64.wrap (kd - 2) = kd - 2 := by rw [IntWalk.i64_in _ (by omega)]
                clear he
                go_wp2_with fail
                go_region_with (go_at_call 18; refine (by16 last at_ _ ⟨by omega, by omega⟩ (by omega)).mono ?_; rintro e w1 ⟨rfl, rfl⟩)
                all_goals (go_wp2_with fail; go_meet; rw [HE.out])
                all_goals (repeat' (first | (with_reducible exact Vg.Grows.refl _) | (with_reducible assumption) | (with_reducible refine Vg.Grows.alloc ?_ _) | (with_reducible refine Vg.Grows.plus ?_ _ _) | (with_reducible refine Vg.Grows.drewN ?_ _) | (with_reducible refine Vg.Grows.drew ?_) | (with_reducible refine Vg.Grows.setCell ?_ ?_ _) | (with_reducible refine Vg.Grows.put ?_ ?_ _) | omega | (simp; omega) | (simp; done)))
              · have hd : decide (kd = 2 ∨ kd = 3) = false := decide_eq_false h23
                have he : Vg.eff last kd at_ = (kd, at_) := by unfold Vg.eff; rw [if_neg h23]
                have HE := Lib.hid he
                clear he
                go_wp2_with fail
                go_meet
                rw [HE.out]
                exact Vg.Grows.refl _
            case rest =>
              generalize Vg.eff last kd at_ = xe at hcut
              obtain ⟨v1, v2⟩ := xe
              obtain ⟨xx, nn, rfl⟩ := hcut
              have hq : q.length ≤ many := hsh.2.2.2.1
              have hm64 : many ≤ 64 := hsh.2.1
              have hSa : S ≤ wr.heap.size + 1 + Vg.sz xx := by omega
              go_upto_block 2 with fail
              go_cut [] (fun wy => ∃ first' R' sa' sc', Shows R' many first' (Vg.Mask.act ⟨q, last, ref⟩ many wd (v1, v2)).q ∧ S ≤ wy.heap.size ∧ Vg.Grows w wy ∧
                Vg.blk wy b = some (maskC rb many wd first' (Vg.Mask.act ⟨q, last, ref⟩ many wd (v1, v2)).q.length (Vg.Mask.act ⟨q, last, ref⟩ many wd (v1, v2)).last (Vg.Mask.act ⟨q, last, ref⟩ many wd (v1, v2)).refused) ∧ Vg.blk wy rb = some (ringC R' many) ∧
                Vg.blk wy bw = some (.cells #[.int .i64 many, .int .i64 wd, .slice sa' (Vg.ents wd (Vg.Mask.act ⟨q, last, ref⟩ many wd (v1, v2)).q).length sc', .int .i64 (Vg.Mask.act ⟨q, last, ref⟩ many wd (v1, v2)).last, .int .i64 (Vg.Mask.act ⟨q, last, ref⟩ many wd (v1, v2)).refused] 30) ∧
                Vg.Reads S wy (.slice sa' (Vg.ents wd (Vg.Mask.act ⟨q, last, ref⟩ many wd (v1, v2)).q).length sc') (Vg.ents wd (Vg.Mask.act ⟨q, last, ref⟩ many wd (v1, v2)).q).length (ints (Vg.ents wd (Vg.Mask.act ⟨q, last, ref⟩ many wd (v1, v2)).q)))
              case first =>
                by_cases hv0 : v1 = 0
                · subst hv0
                  have ha : Vg.Mask.act ⟨q, last, ref⟩ many wd (0, v2) = (Vg.Mask.enter ⟨q, last, ref⟩ many wd v2).1 := rfl
                  have HA := Lib.hid ha
                  clear ha
                  go_wp2_with (first | (go_at_call 19; refine (ref16_enter_any (S := S) (last := last) (refused := ref) (q := q) v2 hinv (Vg.Reads.grows hrd (by (repeat' (first | (with_reducible exact Vg.Grows.refl _) | (with_reducible assumption) | (with_reducible refine Vg.Grows.alloc ?_ _) | (with_reducible refine Vg.Grows.plus ?_ _ _) | (with_reducible refine Vg.Grows.drewN ?_ _) | (with_reducible refine Vg.Grows.drew ?_) | (with_reducible refine Vg.Grows.setCell ?_ ?_ _) | (with_reducible refine Vg.Grows.put ?_ ?_ _) | omega | (simp; omega) | (simp; done))))) (by go_simp) hq hm64 ⟨by omega, by omega⟩ ⟨by omega, by omega⟩).mono ?_; rintro e w1 ⟨sa', sc', hr', rfl, xr, nr, rfl⟩; have HR := Lib.hid hr'; clear hr') | (go_at_call 20; refine (storm_enter v2 q (b := b) (rb := rb) (many := many) (window := wd) (last := last) (refused := ref) (first := first) (R := R) (by go_simp; exact B1.out) (by go_simp; exact B2.out) (by omega) hsh ⟨by omega, by omega⟩ ⟨by omega, by omega⟩ (by exact hinv.1)).mono ?_; rintro e w1 ⟨f', R', s', rfl, xs, ns, rfl⟩))
                  go_meet
                  rw [HA.out]
                  refine ⟨f', R', sa', sc', s', ?_, ?_, ?_, ?_, ?_, ?_⟩
                  · go_simp; omega
                  · (repeat' (first | (with_reducible exact Vg.Grows.refl _) | (with_reducible assumption) | (with_reducible refine Vg.Grows.alloc ?_ _) | (with_reducible refine Vg.Grows.plus ?_ _ _) | (with_reducible refine Vg.Grows.drewN ?_ _) | (with_reducible refine Vg.Grows.drew ?_) | (with_reducible refine Vg.Grows.setCell ?_ ?_ _) | (with_reducible refine Vg.Grows.put ?_ ?_ _) | omega | (simp; omega) | (simp; done)))
                  · go_simp
                  · go_simp
                  · go_simp
                  · have hR := HR.out
                    simp only [Vg.plus_plus] at hR
                    refine Vg.Reads.grows (w := Vg.plus ((Vg.put (Vg.put (Vg.put wr bw _) rb _) b _).alloc _) (xx ++ xr) nr) (hR.agree ?_) (by (repeat' (first | (with_reducible exact Vg.Grows.refl _) | (with_reducible assumption) | (with_reducible refine Vg.Grows.alloc ?_ _) | (with_reducible refine Vg.Grows.plus ?_ _ _) | (with_reducible refine Vg.Grows.drewN ?_ _) | (with_reducible refine Vg.Grows.drew ?_) | (with_reducible refine Vg.Grows.setCell ?_ ?_ _) | (with_reducible refine Vg.Grows.put ?_ ?_ _) | omega | (simp; omega) | (simp; done))))
                    (repeat' (first | (with_reducible exact Vg.Agree.refl _ _) | (with_reducible assumption) | (with_reducible refine Vg.Agree.alloc ?_ _) | (with_reducible refine Vg.Agree.plus ?_ _ _ _) | (with_reducible refine Vg.Agree.put_right ?_ ?_ _) | (with_reducible refine Vg.Agree.put_left ?_ ?_ _) | omega | (simp; omega) | (simp; done)))
                · by_cases hv1 : v1 = 1
                  · subst hv1
                    have ha : Vg.Mask.act ⟨q, last, ref⟩ many wd (1, v2) = (Vg.Mask.tell ⟨q, last, ref⟩ v2).1 := rfl
                    have HA := Lib.hid ha
                    have HT := Lib.hid (tell_refused (s := ⟨q, last, ref⟩) v2)
                    clear ha
                    go_wp2_with (first | (go_at_call 21; refine (ref16_masked_any (S := S) (last := last) (refused := ref) (q := q) v2 hinv (Vg.Reads.grows hrd (by (repeat' (first | (with_reducible exact Vg.Grows.refl _) | (with_reducible assumption) | (with_reducible refine Vg.Grows.alloc ?_ _) | (with_reducible refine Vg.Grows.plus ?_ _ _) | (with_reducible refine Vg.Grows.drewN ?_ _) | (with_reducible refine Vg.Grows.drew ?_) | (with_reducible refine Vg.Grows.setCell ?_ ?_ _) | (with_reducible refine Vg.Grows.put ?_ ?_ _) | omega | (simp; omega) | (simp; done))))) (by go_simp) hq hm64 ⟨by omega, by omega⟩).mono ?_; rintro e w1 ⟨sa', sc', hr', rfl, xr, nr, rfl⟩; have HR := Lib.hid hr'; clear hr') | (go_at_call 22; refine (storm_masked_any (b := b) (rb := rb) (many := many) (window := wd) (last := last) (refused := ref) (first := first) (R := R) v2 q (by go_simp; exact B1.out) (by go_simp; exact B2.out) (by omega) hsh).mono ?_; rintro e w1 ⟨f', s', rfl, xs, ns, rfl⟩))
                    go_meet
                    rw [HA.out, HT.out]
                    refine ⟨f', R, sa', sc', s', ?_, ?_, ?_, ?_, ?_, ?_⟩
                    · go_simp; omega
                    · (repeat' (first | (with_reducible exact Vg.Grows.refl _) | (with_reducible assumption) | (with_reducible refine Vg.Grows.alloc ?_ _) | (with_reducible refine Vg.Grows.plus ?_ _ _) | (with_reducible refine Vg.Grows.drewN ?_ _) | (with_reducible refine Vg.Grows.drew ?_) | (with_reducible refine Vg.Grows.setCell ?_ ?_ _) | (with_reducible refine Vg.Grows.put ?_ ?_ _) | omega | (simp; omega) | (simp; done)))
                    · go_simp
                    · go_simp; exact B2.out
                    · go_simp
                    · have hR := HR.out
                      simp only [Vg.plus_plus] at hR
                      refine Vg.Reads.grows (w := Vg.plus ((Vg.put (Vg.put wr bw _) b _).alloc _) (xx ++ xr) nr) (hR.agree ?_) (by (repeat' (first | (with_reducible exact Vg.Grows.refl _) | (with_reducible assumption) | (with_reducible refine Vg.Grows.alloc ?_ _) | (with_reducible refine Vg.Grows.plus ?_ _ _) | (with_reducible refine Vg.Grows.drewN ?_ _) | (with_reducible refine Vg.Grows.drew ?_) | (with_reducible refine Vg.Grows.setCell ?_ ?_ _) | (with_reducible refine Vg.Grows.put ?_ ?_ _) | omega | (simp; omega) | (simp; done))))
                      (repeat' (first | (with_reducible exact Vg.Agree.refl _ _) | (with_reducible assumption) | (with_reducible refine Vg.Agree.alloc ?_ _) | (with_reducible refine Vg.Agree.plus ?_ _ _ _) | (with_reducible refine Vg.Agree.put_right ?_ ?_ _) | (with_reducible refine Vg.Agree.put_left ?_ ?_ _) | omega | (simp; omega) | (simp; done)))
                  · have ha : Vg.Mask.act ⟨q, last, ref⟩ many wd (v1, v2) = ⟨q, last, ref⟩ := by unfold Vg.Mask.act; simp only [hv0, hv1, if_false]
                    have HA := Lib.hid ha
                    clear ha
                    go_wp2_with fail
                    go_meet
                    rw [HA.out]
                    refine ⟨first, R, sa, sc, hsh, ?_, ?_, ?_, ?_, ?_, ?_⟩
                    · go_simp
                    · (repeat' (first | (with_reducible exact Vg.Grows.refl _) | (with_reducible assumption) | (with_reducible refine Vg.Grows.alloc ?_ _) | (with_reducible refine Vg.Grows.plus ?_ _ _) | (with_reducible refine Vg.Grows.drewN ?_ _) | (with_reducible refine Vg.Grows.drew ?_) | (with_reducible refine Vg.Grows.setCell ?_ ?_ _) | (with_reducible refine Vg.Grows.put ?_ ?_ _) | omega | (simp; omega) | (simp; done)))
                    · go_simp; exact B1.out
                    · go_simp; exact B2.out
                    · go_simp; exact B3.out
                    · exact Vg.Reads.grows hrd (by (repeat' (first | (with_reducible exact Vg.Grows.refl _) | (with_reducible assumption) | (with_reducible refine Vg.Grows.alloc ?_ _) | (with_reducible refine Vg.Grows.plus ?_ _ _) | (with_reducible refine Vg.Grows.drewN ?_ _) | (with_reducible refine Vg.Grows.drew ?_) | (with_reducible refine Vg.Grows.setCell ?_ ?_ _) | (with_reducible refine Vg.Grows.put ?_ ?_ _) | omega | (simp; omega) | (simp; done))))
              case rest =>
                obtain ⟨f', R', sa', sc', hsh', hsz', hgr', b1, b2, b3, hrd'⟩ := hcut
                have hinv' : (Vg.Mask.act ⟨q, last, ref⟩ many wd (v1, v2)).Inv wd := by
                  unfold Vg.Mask.act; split
                  · exact enter_inv many _ hinv
                  · split
                    · exact tell_inv _ hinv
                    · exact hinv
                have hrf' : 0 ≤ (Vg.Mask.act ⟨q, last, ref⟩ many wd (v1, v2)).refused ∧ (Vg.Mask.act ⟨q, last, ref⟩ many wd (v1, v2)).refused ≤ k + 1 := by
                  unfold Vg.Mask.act; split
                  · have he := enter_refused (s := ⟨q, last, ref⟩) many wd v2
                    have e0 : (⟨q, last, ref⟩ : Vg.Mask).refused = ref := rfl
                    rw [e0] at he
                    show 0 ≤ (Vg.Mask.enter ⟨q, last, ref⟩ many wd v2).1.refused ∧ (Vg.Mask.enter ⟨q, last, ref⟩ many wd v2).1.refused ≤ k + 1
                    omega
                  · split
                    · rw [tell_refused]; show (0 : Int) ≤ ref ∧ ref ≤ k + 1; omega
                    · show (0 : Int) ≤ ref ∧ ref ≤ k + 1; omega
                generalize Vg.Mask.act ⟨q, last, ref⟩ many wd (v1, v2) = s' at hsh' b1 b2 b3 hrd' hinv' hrf'
                obtain ⟨q', last', ref'⟩ := s'
                have c3 := Vg.cells_of b3
                have f3 := Vg.frozen_of b3
                have l1 := Vg.lt_of b1
                have l2 := Vg.lt_of b2
                have l3 := Vg.lt_of b3
                have B1 := Lib.hid b1
                have B2 := Lib.hid b2
                have B3 := Lib.hid b3
                clear b1 b2 b3 p3
                have hbd := Lib.hid (Vg.ents_bd hinv')
                have hm1' : 1 ≤ many ∧ many ≤ 64 := ⟨by omega, hm64⟩
                cases q' with
                | nil =>
                  have hn : Vg.refNext wd (Vg.ents wd []) = (0, false) := rfl
                  have HN := Lib.hid hn
                  clear hn
                  go_wp2_with (first | (go_at_call 23; refine (storm_next_none (b := b) (rb := rb) (many := many) (window := wd) (last := last') (refused := ref') (first := f') (by go_simp; exact B1.out)).mono ?_; rintro e w1 ⟨rfl, rfl⟩) | (go_at_call 24; refine (ref16_next (S := S) (L := Vg.ents wd []) (Vg.Reads.grows hrd' (by (repeat' (first | (with_reducible exact Vg.Grows.refl _) | (with_reducible assumption) | (with_reducible refine Vg.Grows.alloc ?_ _) | (with_reducible refine Vg.Grows.plus ?_ _ _) | (with_reducible refine Vg.Grows.drewN ?_ _) | (with_reducible refine Vg.Grows.drew ?_) | (with_reducible refine Vg.Grows.setCell ?_ ?_ _) | (with_reducible refine Vg.Grows.put ?_ ?_ _) | omega | (simp; omega) | (simp; done))))) ⟨by omega, by omega⟩ (by exact hbd.out)).mono ?_; rintro e w1 ⟨rfl, xn, nn', rfl⟩; rw [HN.out]))
                  go_quiet ((go_at_call 25; refine (storm_refused (b := b) (rb := rb) (many := many) (window := wd) (last := last') (refused := ref') (first := f') (taken := 0) (by go_simp; exact B1.out)).mono ?_; rintro e w1 ⟨rfl, rfl⟩; exact ⟨rfl, _, rfl⟩))
                  go_wp2
                  refine ⟨⟨k + 1, ⟨[], last', ref'⟩, f', R', sa', sc', by omega, by go_num, hinv', hrf'.1, ?_, hsh', ?_, ?_, ?_, ?_, ?_, ?_⟩, by simp [intOf]; omega⟩
                  · have h5 := hrf'.2
                    rw [Int.natCast_add]
                    exact h5
                  · go_simp <;> omega
                  · (repeat' (first | (with_reducible exact Vg.Grows.refl _) | (with_reducible assumption) | (with_reducible refine Vg.Grows.alloc ?_ _) | (with_reducible refine Vg.Grows.plus ?_ _ _) | (with_reducible refine Vg.Grows.drewN ?_ _) | (with_reducible refine Vg.Grows.drew ?_) | (with_reducible refine Vg.Grows.setCell ?_ ?_ _) | (with_reducible refine Vg.Grows.put ?_ ?_ _) | omega | (simp; omega) | (simp; done)))
                  · exact Vg.Grows.blk (w0 := wc) (by (repeat' (first | (with_reducible exact Vg.Grows.refl _) | (with_reducible assumption) | (with_reducible refine Vg.Grows.alloc ?_ _) | (with_reducible refine Vg.Grows.plus ?_ _ _) | (with_reducible refine Vg.Grows.drewN ?_ _) | (with_reducible refine Vg.Grows.drew ?_) | (with_reducible refine Vg.Grows.setCell ?_ ?_ _) | (with_reducible refine Vg.Grows.put ?_ ?_ _) | omega | (simp; omega) | (simp; done)))) B1.out
                  · exact Vg.Grows.blk (w0 := wc) (by (repeat' (first | (with_reducible exact Vg.Grows.refl _) | (with_reducible assumption) | (with_reducible refine Vg.Grows.alloc ?_ _) | (with_reducible refine Vg.Grows.plus ?_ _ _) | (with_reducible refine Vg.Grows.drewN ?_ _) | (with_reducible refine Vg.Grows.drew ?_) | (with_reducible refine Vg.Grows.setCell ?_ ?_ _) | (with_reducible refine Vg.Grows.put ?_ ?_ _) | omega | (simp; omega) | (simp; done)))) B2.out
                  · exact Vg.Grows.blk (w0 := wc) (by (repeat' (first | (with_reducible exact Vg.Grows.refl _) | (with_reducible assumption) | (with_reducible refine Vg.Grows.alloc ?_ _) | (with_reducible refine Vg.Grows.plus ?_ _ _) | (with_reducible refine Vg.Grows.drewN ?_ _) | (with_reducible refine Vg.Grows.drew ?_) | (with_reducible refine Vg.Grows.setCell ?_ ?_ _) | (with_reducible refine Vg.Grows.put ?_ ?_ _) | omega | (simp; omega) | (simp; done)))) B3.out
                  · exact Vg.Reads.grows hrd' (by (repeat' (first | (with_reducible exact Vg.Grows.refl _) | (with_reducible assumption) | (with_reducible refine Vg.Grows.alloc ?_ _) | (with_reducible refine Vg.Grows.plus ?_ _ _) | (with_reducible refine Vg.Grows.drewN ?_ _) | (with_reducible refine Vg.Grows.drew ?_) | (with_reducible refine Vg.Grows.setCell ?_ ?_ _) | (with_reducible refine Vg.Grows.put ?_ ?_ _) | omega | (simp; omega) | (simp; done))))
                | cons t ts =>
                  have hn : Vg.refNext wd (Vg.ents wd (t :: ts)) = (t, true) := by
                    show (t - wd + wd, true) = (t, true)
                    rw [Int.sub_add_cancel]
                  have HN := Lib.hid hn
                  clear hn
                  have h3 := hsh'.head
                  have H3 := Lib.hid h3
                  clear h3
                  go_wp2_with (first | (go_at_call 23; refine (storm_next_some (b := b) (rb := rb) (many := many) (window := wd) (last := last') (refused := ref') (first := f') (taken := ts.length + 1) (R := R') (by go_simp; exact B1.out) (by go_simp; exact B2.out) (by omega) hm1' hsh'.2.2.1).mono ?_; rintro e w1 ⟨rfl, k4, rfl⟩; rw [H3.out]) | (go_at_call 24; refine (ref16_next (S := S) (L := Vg.ents wd (t :: ts)) (Vg.Reads.grows hrd' (by (repeat' (first | (with_reducible exact Vg.Grows.refl _) | (with_reducible assumption) | (with_reducible refine Vg.Grows.alloc ?_ _) | (with_reducible refine Vg.Grows.plus ?_ _ _) | (with_reducible refine Vg.Grows.drewN ?_ _) | (with_reducible refine Vg.Grows.drew ?_) | (with_reducible refine Vg.Grows.setCell ?_ ?_ _) | (with_reducible refine Vg.Grows.put ?_ ?_ _) | omega | (simp; omega) | (simp; done))))) ⟨by omega, by omega⟩ (by exact hbd.out)).mono ?_; rintro e w1 ⟨rfl, xn, nn', rfl⟩; rw [HN.out]))
                  go_quiet ((go_at_call 25; refine (storm_refused (b := b) (rb := rb) (many := many) (window := wd) (last := last') (refused := ref') (first := f') (taken := ts.length + 1) (by go_simp; exact B1.out)).mono ?_; rintro e w1 ⟨rfl, rfl⟩; exact ⟨rfl, _, rfl⟩))
                  go_wp2
                  refine ⟨⟨k + 1, ⟨t :: ts, last', ref'⟩, f', R', sa', sc', by omega, by go_num, hinv', hrf'.1, ?_, hsh', ?_, ?_, ?_, ?_, ?_, ?_⟩, by simp [intOf]; omega⟩
                  · have h5 := hrf'.2
                    rw [Int.natCast_add]
                    exact h5
                  · go_simp <;> omega
                  · (repeat' (first | (with_reducible exact Vg.Grows.refl _) | (with_reducible assumption) | (with_reducible refine Vg.Grows.alloc ?_ _) | (with_reducible refine Vg.Grows.plus ?_ _ _) | (with_reducible refine Vg.Grows.drewN ?_ _) | (with_reducible refine Vg.Grows.drew ?_) | (with_reducible refine Vg.Grows.setCell ?_ ?_ _) | (with_reducible refine Vg.Grows.put ?_ ?_ _) | omega | (simp; omega) | (simp; done)))
                  · exact Vg.Grows.blk (w0 := wc) (by (repeat' (first | (with_reducible exact Vg.Grows.refl _) | (with_reducible assumption) | (with_reducible refine Vg.Grows.alloc ?_ _) | (with_reducible refine Vg.Grows.plus ?_ _ _) | (with_reducible refine Vg.Grows.drewN ?_ _) | (with_reducible refine Vg.Grows.drew ?_) | (with_reducible refine Vg.Grows.setCell ?_ ?_ _) | (with_reducible refine Vg.Grows.put ?_ ?_ _) | omega | (simp; omega) | (simp; done)))) B1.out
                  · exact Vg.Grows.blk (w0 := wc) (by (repeat' (first | (with_reducible exact Vg.Grows.refl _) | (with_reducible assumption) | (with_reducible refine Vg.Grows.alloc ?_ _) | (with_reducible refine Vg.Grows.plus ?_ _ _) | (with_reducible refine Vg.Grows.drewN ?_ _) | (with_reducible refine Vg.Grows.drew ?_) | (with_reducible refine Vg.Grows.setCell ?_ ?_ _) | (with_reducible refine Vg.Grows.put ?_ ?_ _) | omega | (simp; omega) | (simp; done)))) B2.out
                  · exact Vg.Grows.blk (w0 := wc) (by (repeat' (first | (with_reducible exact Vg.Grows.refl _) | (with_reducible assumption) | (with_reducible refine Vg.Grows.alloc ?_ _) | (with_reducible refine Vg.Grows.plus ?_ _ _) | (with_reducible refine Vg.Grows.drewN ?_ _) | (with_reducible refine Vg.Grows.drew ?_) | (with_reducible refine Vg.Grows.setCell ?_ ?_ _) | (with_reducible refine Vg.Grows.put ?_ ?_ _) | omega | (simp; omega) | (simp; done)))) B3.out
                  · exact Vg.Reads.grows hrd' (by (repeat' (first | (with_reducible exact Vg.Grows.refl _) | (with_reducible assumption) | (with_reducible refine Vg.Grows.alloc ?_ _) | (with_reducible refine Vg.Grows.plus ?_ _ _) | (with_reducible refine Vg.Grows.drewN ?_ _) | (with_reducible refine Vg.Grows.drew ?_) | (with_reducible refine Vg.Grows.setCell ?_ ?_ _) | (with_reducible refine Vg.Grows.put ?_ ?_ _) | omega | (simp; omega) | (simp; done))))
        · go_wp2
          go_ret
          exact ⟨rfl, hgr⟩
  · have hb : (decide (1 ≤ m) && decide (m ≤ 64) && decide (1 ≤ wd) && decide (wd ≤ 1099511627776)) = false := by
      rw [← Bool.not_eq_true]; simp; omega
    have HB := Lib.hid hb
    clear hb
    go_enter Try.func3, Try.ntmps3
    go_wp2_with (first | (go_at_call 15; refine (lives16 _).mono ?_; rintro e w1 ⟨rfl, x0, n0, rfl⟩) | (go_at_call 16; refine (storm_new_no m wd (by omega)).mono ?_; rintro e w1 ⟨rfl, rfl⟩) | (go_at_call 17; refine (ref16_new m wd).mono ?_; rintro e w1 ⟨rfl, x1, n1, rfl⟩; rw [HB.out]))
    go_ret
    exact ⟨rfl, by (repeat' (first | (with_reducible exact Vg.Grows.refl _) | (with_reducible assumption) | (with_reducible refine Vg.Grows.alloc ?_ _) | (with_reducible refine Vg.Grows.plus ?_ _ _) | (with_reducible refine Vg.Grows.drewN ?_ _) | (with_reducible refine Vg.Grows.drew ?_) | (with_reducible refine Vg.Grows.setCell ?_ ?_ _) | (with_reducible refine Vg.Grows.put ?_ ?_ _) | omega | (simp; omega) | (simp; done)))⟩
end Go.Proofs.Ytlgkcpgmnpoanaa
