/- Law 18: threads in one bundle ('BZ': what they own lies apart from the blocks of K); lives. -/
import Derived.Test.YtiinhofmhoplfaaBotP
import Derived.Test.YtiinhofmhoplfaaKept
set_option linter.unusedSimpArgs false
set_option linter.unusedVariables false
set_option maxHeartbeats 4000000
set_option maxRecDepth 100000
namespace Go.Proofs.Ytiinhofmhoplfaa
open Go.ChangeShapes Go.WideShapes Go.ChangeAt Go.RowKit
structure BZ (w0 w : World) (b : Nat) (Bs : List Vg.Bp) (Q : List Vg.Wq) (K : Nat → Prop) : Prop where
  ex : ∃ OB, BS w b b Bs Q OB ∧ ∀ k, K k → ¬ OB k
  gr : Vg.Grows w0 w
  lo : w0.heap.size ≤ b
  lt : ∀ k, K k → k < w.heap.size
section
variable {w w' w0 : World} {b : Nat} {Bs Bs' : List Vg.Bp} {Q Q' : List Vg.Wq} {K K' : Nat → Prop} {n : Nat} {r x : Int} {is : Bool}
theorem BZ.grows (h : BZ w0 w b Bs Q K) (hg : Vg.Grows w w') : BZ w0 w' b Bs Q K := by
  obtain ⟨⟨OB, h1, h2⟩, h3, h4, h5⟩ := h
  exact ⟨⟨OB, h1.grows hg, h2⟩, h3.trans hg, h4, fun k hk => Nat.lt_of_lt_of_le (h5 k hk) hg.size⟩
theorem BZ.blt (h : BZ w0 w b Bs Q K) : b < w.heap.size := by
  obtain ⟨⟨OB, ⟨⟨xs, rv, wb, wv, O, h1, _⟩, _⟩, h2⟩, h3, h4, h5⟩ := h
  exact h1.lt
/-- Other blocks alone have changed; K may be chosen anew. -/
theorem BZ.other {t : Nat → Prop} (h : BZ w0 w b Bs Q K) (ht : Vg.Touch t w w') (htK : ∀ k, t k → K k) (hg : Vg.Grows w0 w') (hK : ∀ k, K' k → (K k ∨ w.heap.size ≤ k) ∧ k < w'.heap.size) : BZ w0 w' b Bs Q K' := by
  obtain ⟨⟨OB, h1, h2⟩, h3, h4, h5⟩ := h
  refine ⟨⟨OB, h1.touch ht fun k hk hh => h2 k (htK k hh) hk, fun k hk hh => ?_⟩, hg, h4, fun k hk => (hK k hk).2⟩
  rcases (hK k hk).1 with h6 | h6
  · exact h2 k h6 hh
  · have := (h1.own k hh).2; omega
theorem BZ.next {OB : Nat → Prop} (h1 : BS w b b Bs Q OB) (h2 : ∀ k, K k → ¬ OB k) (h3 : Vg.Grows w0 w) (h4 : w0.heap.size ≤ b) (h5 : ∀ k, K k → k < w.heap.size) (hn : BSn w w' b b Bs' Q' OB) : BZ w0 w' b Bs' Q' K ∧ Vg.Kept K w w' := by
  obtain ⟨OB', h6, h7, h8⟩ := hn
  refine ⟨⟨⟨OB', h6, fun k hk hh => ?_⟩, h1.grown h3 h4 h8, h4, fun k hk => Nat.lt_of_lt_of_le (h5 k hk) h8.size⟩, h8.size, fun k hk => h8.block k (h5 k hk) (h2 k hk)⟩
  rcases h7 k hh with h9 | h9
  · exact h2 k hk h9
  · have := h5 k hk; omega
theorem bz_put (i c : Int) (h : BZ w0 w b Bs Q K) (hQ : ∀ q ∈ Q, q.ok) (hn : Bs.length = n) (hx : Vg.Bo.put n Q i c = (Q', r)) :
    Calls Try.prog 48 #[.pointer (some ⟨b, 0, none⟩), .int .i64 i, .int .i64 c] w fun e w' => e = .returned (.int .i64 r) ∧ BZ w0 w' b Bs Q' K ∧ Vg.Kept K w w' := by
  obtain ⟨⟨OB, h1, h2⟩, h3, h4, h5⟩ := h
  refine (bs_put i c h1 hQ hn hx).mono ?_
  rintro e w' ⟨rfl, hs⟩
  exact ⟨rfl, BZ.next h1 h2 h3 h4 h5 hs⟩
theorem bz_run {k : Nat} (i m en : Int) (h : BZ w0 w b Bs Q K) (hI : Vg.Bo.Inv k Bs Q) (hk : k ≤ 1000000) (hm : -9223372036854775808 ≤ m ∧ m ≤ 9223372036854775807) (hen : -9223372036854775808 ≤ en ∧ en ≤ 9223372036854775807)
    (hx : Vg.Bo.run Bs Q i m en = (Bs', Q', is, r)) :
    Calls Try.prog 50 #[.pointer (some ⟨b, 0, none⟩), .int .i64 i, .int .i64 m, .int .i64 en] w fun e w' => e = .returned (.tuple #[.bool is, .int .i64 r]) ∧ BZ w0 w' b Bs' Q' K ∧ Vg.Kept K w w' := by
  obtain ⟨⟨OB, h1, h2⟩, h3, h4, h5⟩ := h
  refine (bs_run i m en h1 hI hk hm hen hx).mono ?_
  rintro e w' ⟨rfl, hs⟩
  exact ⟨rfl, BZ.next h1 h2 h3 h4 h5 hs⟩
theorem bz_refill {k : Nat} (now : Int) (h : BZ w0 w b Bs Q K) (hI : Vg.Bo.Inv k Bs Q) (hx : Vg.Bo.refill Bs now = (Bs', r)) :
    Calls Try.prog 52 #[.pointer (some ⟨b, 0, none⟩), .int .i64 now] w fun e w' => e = .returned (.int .i64 r) ∧ BZ w0 w' b Bs' Q K ∧ Vg.Kept K w w' := by
  obtain ⟨⟨OB, h1, h2⟩, h3, h4, h5⟩ := h
  refine (bs_refill now h1 hI hx).mono ?_
  rintro e w' ⟨rfl, hs⟩
  exact ⟨rfl, BZ.next h1 h2 h3 h4 h5 hs⟩
theorem bz_pick {m : Int} (h : BZ w0 w b Bs Q K) (hr : Vg.Bo.best Bs Q = r) (hm : max r 0 = m) (his : decide (0 ≤ r) = is) :
    Calls Try.prog 53 #[.pointer (some ⟨b, 0, none⟩)] w fun e w' => e = .returned (.tuple #[.int .i64 m, .bool is]) ∧ Vg.Grows w w' := by
  obtain ⟨⟨OB, h1, h2⟩, h3, h4, h5⟩ := h
  exact bs_pick h1 hr hm his
theorem bz_next (h : BZ w0 w b Bs Q K) (hle : Bs.length ≤ 64) (hx : Vg.Bo.next Bs Q = (x, is)) :
    Calls Try.prog 55 #[.pointer (some ⟨b, 0, none⟩)] w fun e w' => e = .returned (.tuple #[.int .i64 x, .bool is]) ∧ Vg.Grows w w' := by
  obtain ⟨⟨OB, h1, h2⟩, h3, h4, h5⟩ := h
  exact bs_next h1 hle hx
theorem bz_left (i : Int) (h : BZ w0 w b Bs Q K) (hx : Vg.Bo.left Bs Q i = x) :
    Calls Try.prog 59 #[.pointer (some ⟨b, 0, none⟩), .int .i64 i] w fun e w' => e = .returned (.int .i64 x) ∧ Vg.Grows w w' := by
  obtain ⟨⟨OB, h1, h2⟩, h3, h4, h5⟩ := h
  refine (bs_left i h1 hx).mono ?_
  rintro e w' ⟨rfl, k, rfl⟩
  exact ⟨rfl, (Vg.Grows.refl _).drewN k⟩
theorem bz_leftq (i : Int) (h : BZ w0 w b Bs Q K) (hx : Vg.Bo.left Bs Q i = x) :
    Calls Try.prog 59 #[.pointer (some ⟨b, 0, none⟩), .int .i64 i] w fun e w' => e = .returned (.int .i64 x) ∧ ∃ k, w' = w.drewN k := by
  obtain ⟨⟨OB, h1, h2⟩, h3, h4, h5⟩ := h
  exact bs_left i h1 hx
theorem bz_wait (i : Int) (h : BZ w0 w b Bs Q K) (hn : Bs.length = n) (hx : Vg.Bo.wait n Q i = x) :
    Calls Try.prog 61 #[.pointer (some ⟨b, 0, none⟩), .int .i64 i] w fun e w' => e = .returned (.int .i64 x) ∧ w = w' := by
  obtain ⟨⟨OB, h1, h2⟩, h3, h4, h5⟩ := h
  exact bs_wait i h1 hn hx
theorem bz_lost (i : Int) (h : BZ w0 w b Bs Q K) (hn : Bs.length = n) (hx : Vg.Bo.lost n Q i = x) :
    Calls Try.prog 62 #[.pointer (some ⟨b, 0, none⟩), .int .i64 i] w fun e w' => e = .returned (.int .i64 x) ∧ w = w' := by
  obtain ⟨⟨OB, h1, h2⟩, h3, h4, h5⟩ := h
  exact bs_lost i h1 hn hx
theorem bz_able (i : Int) (h : BZ w0 w b Bs Q K) (hx : Vg.Bo.able Bs Q i = is) :
    Calls Try.prog 57 #[.pointer (some ⟨b, 0, none⟩), .int .i64 i] w fun e w' => e = .returned (.bool is) ∧ w = w' := by
  obtain ⟨⟨OB, h1, h2⟩, h3, h4, h5⟩ := h
  exact bs_able i h1 hx
theorem bz_new {T : List Vg.Th} {sa : Option Addr} {sc : Nat} (h0 : Vg.Grows w0 w) (hr : Vg.TR w sa sc T) (hn : T.length = n) (hn2 : n ≤ 4398046511104) (hg : Vg.goodT T = true) (hB : T.map Vg.th0 = Bs) (hQ : Vg.Qs0 T = Q) :
    Calls Try.prog 43 #[.slice sa n sc] w fun e w' => e = .returned (.tuple #[.pointer (some ⟨w.heap.size, 0, none⟩), .int .i64 0]) ∧ BZ w0 w' w.heap.size Bs Q (fun _ => False) ∧ Vg.Grows w w' := by
  refine (bs_new hr hn hn2 hg hB hQ).mono ?_
  rintro e w' ⟨OB, rfl, hb, hgr⟩
  exact ⟨rfl, ⟨⟨OB, hb, fun k hk => hk.elim⟩, h0.trans hgr, h0.size, fun k hk => hk.elim⟩, hgr⟩
end
theorem lives18 (w : World) : Calls Try.prog 42 #[] w fun e w' => e = .returned (.bool true) ∧ Vg.Grows w w' := by
  have o1 : Vg.goodT [⟨3, 2, 10, 1⟩, ⟨2, 9, 10, 1⟩] = true := by decide
  have o2 : Vg.goodT [⟨3, 0, 0, 0⟩] = false := by decide
  have hI0 := Vg.goodT_inv o1
  have H_o1 := Lib.hid o1; clear o1; have H_o2 := Lib.hid o2; clear o2
  go_enter Try.func42, Try.ntmps42
  go_wp2_with fail
  refine (bz_new (w0 := w) (T := [⟨3, 2, 10, 1⟩, ⟨2, 9, 10, 1⟩]) (Bs := [⟨⟨3, 2, 10, 1⟩, ⟨[], 0⟩⟩, ⟨⟨2, 9, 10, 1⟩, ⟨[], 0⟩⟩]) (Q := [⟨[], 1, 0⟩, ⟨[], 1, 0⟩]) (by (repeat' (first | (with_reducible exact Vg.Grows.refl _) | (with_reducible assumption) | (with_reducible refine Vg.Grows.alloc ?_ _) | (with_reducible refine Vg.Grows.plus ?_ _ _) | (with_reducible refine Vg.Grows.drewN ?_ _) | (with_reducible refine Vg.Grows.drew ?_) | (with_reducible refine Vg.Grows.setCell ?_ ?_ _) | (with_reducible refine Vg.Grows.put ?_ ?_ _) | omega | (simp; omega) | (simp; done)))) (Vg.TR.block (T := [⟨3, 2, 10, 1⟩, ⟨2, 9, 10, 1⟩]) (Vg.alloc_heap_at (by (try simp only [World.size_alloc, Vg.plus_size, Vg.put_size, World.size_setCell, World.size_drew]) <;> omega)) (by simp [maxLen])) rfl (by decide) H_o1.out rfl rfl).mono ?_
  rintro e w1 ⟨rfl, hz1, -⟩
  obtain ⟨b, hb⟩ : ∃ b, w.heap.size + 1 = b := ⟨_, rfl⟩
  simp only [World.size_alloc, hb] at hz1 ⊢
  change Vg.Bo.Inv 0 [⟨⟨3, 2, 10, 1⟩, ⟨[], 0⟩⟩, ⟨⟨2, 9, 10, 1⟩, ⟨[], 0⟩⟩] [⟨[], 1, 0⟩, ⟨[], 1, 0⟩] at hI0
  have H_hz1 := Lib.hid hz1; clear hz1; have H_hb := Lib.hid hb; clear hb; have H_hI0 := Lib.hid hI0; clear hI0
  go_wp2_with fail
  refine (bs_new_no (T := [⟨3, 0, 0, 0⟩]) (Vg.TR.block (T := [⟨3, 0, 0, 0⟩]) (Vg.alloc_heap_at (by (try simp only [World.size_alloc, Vg.plus_size, Vg.put_size, World.size_setCell, World.size_drew]) <;> omega)) (by simp [maxLen])) rfl (by decide) H_o2.out).mono ?_
  rintro e w2 ⟨rfl, hg2⟩
  have hz2 := (H_hz1.out.grows (by (repeat' (first | (with_reducible exact Vg.Grows.refl _) | (with_reducible assumption) | (with_reducible refine Vg.Grows.alloc ?_ _) | (with_reducible refine Vg.Grows.plus ?_ _ _) | (with_reducible refine Vg.Grows.drewN ?_ _) | (with_reducible refine Vg.Grows.drew ?_) | (with_reducible refine Vg.Grows.setCell ?_ ?_ _) | (with_reducible refine Vg.Grows.put ?_ ?_ _) | omega | (simp; omega) | (simp; done))))).grows hg2
  have H_hz2 := Lib.hid hz2; clear hz2
  clear hg2
  have e3 : Vg.Bo.put 2 [⟨[], 1, 0⟩, ⟨[], 1, 0⟩] 0 5 = ([⟨[5], 1, 0⟩, ⟨[], 1, 0⟩], 0) := by rfl
  have hI3 : Vg.Bo.Inv 1 [⟨⟨3, 2, 10, 1⟩, ⟨[], 0⟩⟩, ⟨⟨2, 9, 10, 1⟩, ⟨[], 0⟩⟩] [⟨[5], 1, 0⟩, ⟨[], 1, 0⟩] := by have := H_hI0.out.put (n := 2) 0 5; rw [e3] at this; exact this
  have k3 : ∀ q ∈ ([⟨[], 1, 0⟩, ⟨[], 1, 0⟩] : List Vg.Wq), q.ok := H_hI0.out.wk.ok (by decide)
  have H_e3 := Lib.hid e3; clear e3; have H_hI3 := Lib.hid hI3; clear hI3; have H_k3 := Lib.hid k3; clear k3
  go_wp2_with fail
  refine (bz_put 0 5 H_hz2.out H_k3.out rfl H_e3.out).mono ?_
  rintro e w3 ⟨rfl, hz3, -⟩
  have H_hz3 := Lib.hid hz3; clear hz3
  have e4 : Vg.Bo.put 2 [⟨[5], 1, 0⟩, ⟨[], 1, 0⟩] 0 1 = ([⟨[5], 1, 1⟩, ⟨[], 1, 0⟩], 5) := by rfl
  have hI4 : Vg.Bo.Inv 2 [⟨⟨3, 2, 10, 1⟩, ⟨[], 0⟩⟩, ⟨⟨2, 9, 10, 1⟩, ⟨[], 0⟩⟩] [⟨[5], 1, 1⟩, ⟨[], 1, 0⟩] := by have := H_hI3.out.put (n := 2) 0 1; rw [e4] at this; exact this
  have k4 : ∀ q ∈ ([⟨[5], 1, 0⟩, ⟨[], 1, 0⟩] : List Vg.Wq), q.ok := H_hI3.out.wk.ok (by decide)
  have H_e4 := Lib.hid e4; clear e4; have H_hI4 := Lib.hid hI4; clear hI4; have H_k4 := Lib.hid k4; clear k4
  go_wp2_with fail
  refine (bz_put 0 1 H_hz3.out H_k4.out rfl H_e4.out).mono ?_
  rintro e w4 ⟨rfl, hz4, -⟩
  have H_hz4 := Lib.hid hz4; clear hz4
  have e5 : Vg.Bo.put 2 [⟨[5], 1, 1⟩, ⟨[], 1, 0⟩] 1 4 = ([⟨[5], 1, 1⟩, ⟨[4], 1, 0⟩], 0) := by rfl
  have hI5 : Vg.Bo.Inv 3 [⟨⟨3, 2, 10, 1⟩, ⟨[], 0⟩⟩, ⟨⟨2, 9, 10, 1⟩, ⟨[], 0⟩⟩] [⟨[5], 1, 1⟩, ⟨[4], 1, 0⟩] := by have := H_hI4.out.put (n := 2) 1 4; rw [e5] at this; exact this
  have k5 : ∀ q ∈ ([⟨[5], 1, 1⟩, ⟨[], 1, 0⟩] : List Vg.Wq), q.ok := H_hI4.out.wk.ok (by decide)
  have H_e5 := Lib.hid e5; clear e5; have H_hI5 := Lib.hid hI5; clear hI5; have H_k5 := Lib.hid k5; clear k5
  go_wp2_with fail
  refine (bz_put 1 4 H_hz4.out H_k5.out rfl H_e5.out).mono ?_
  rintro e w5 ⟨rfl, hz5, -⟩
  have H_hz5 := Lib.hid hz5; clear hz5
  have e6 : Vg.Bo.put 2 [⟨[5], 1, 1⟩, ⟨[4], 1, 0⟩] 2 1 = ([⟨[5], 1, 1⟩, ⟨[4], 1, 0⟩], 1) := by rfl
  have hI6 : Vg.Bo.Inv 4 [⟨⟨3, 2, 10, 1⟩, ⟨[], 0⟩⟩, ⟨⟨2, 9, 10, 1⟩, ⟨[], 0⟩⟩] [⟨[5], 1, 1⟩, ⟨[4], 1, 0⟩] := by have := H_hI5.out.put (n := 2) 2 1; rw [e6] at this; exact this
  have k6 : ∀ q ∈ ([⟨[5], 1, 1⟩, ⟨[4], 1, 0⟩] : List Vg.Wq), q.ok := H_hI5.out.wk.ok (by decide)
  have H_e6 := Lib.hid e6; clear e6; have H_hI6 := Lib.hid hI6; clear hI6; have H_k6 := Lib.hid k6; clear k6
  go_wp2_with fail
  refine (bz_put 2 1 H_hz5.out H_k6.out rfl H_e6.out).mono ?_
  rintro e w6 ⟨rfl, hz6, -⟩
  have H_hz6 := Lib.hid hz6; clear hz6
  have e7 : Vg.Bo.best [⟨⟨3, 2, 10, 1⟩, ⟨[], 0⟩⟩, ⟨⟨2, 9, 10, 1⟩, ⟨[], 0⟩⟩] [⟨[5], 1, 1⟩, ⟨[4], 1, 0⟩] = 0 := by rfl
  have H_e7 := Lib.hid e7; clear e7
  go_wp2_with fail
  refine (bz_pick (m := 0) (is := true) H_hz6.out H_e7.out (by decide) (by decide)).mono ?_
  rintro e w7 ⟨rfl, hg⟩
  have hz7 := H_hz6.out.grows hg
  have H_hz7 := Lib.hid hz7; clear hz7
  clear hg
  have e8 : Vg.Bo.left [⟨⟨3, 2, 10, 1⟩, ⟨[], 0⟩⟩, ⟨⟨2, 9, 10, 1⟩, ⟨[], 0⟩⟩] [⟨[5], 1, 1⟩, ⟨[4], 1, 0⟩] 0 = 2 := by rfl
  have H_e8 := Lib.hid e8; clear e8
  go_wp2_with fail
  refine (bz_left 0 H_hz7.out H_e8.out).mono ?_
  rintro e w8 ⟨rfl, hg⟩
  have hz8 := H_hz7.out.grows hg
  have H_hz8 := Lib.hid hz8; clear hz8
  clear hg
  have e9 : Vg.Bo.run [⟨⟨3, 2, 10, 1⟩, ⟨[], 0⟩⟩, ⟨⟨2, 9, 10, 1⟩, ⟨[], 0⟩⟩] [⟨[5], 1, 1⟩, ⟨[4], 1, 0⟩] 0 2 2 = ([⟨⟨3, 2, 10, 1⟩, ⟨[(12, 2)], 2⟩⟩, ⟨⟨2, 9, 10, 1⟩, ⟨[], 0⟩⟩], [⟨[3], 1, 1⟩, ⟨[4], 1, 0⟩], false, 0) := by rfl
  have hI9 : Vg.Bo.Inv 4 [⟨⟨3, 2, 10, 1⟩, ⟨[(12, 2)], 2⟩⟩, ⟨⟨2, 9, 10, 1⟩, ⟨[], 0⟩⟩] [⟨[3], 1, 1⟩, ⟨[4], 1, 0⟩] := by have := H_hI6.out.run 0 2 2; rw [e9] at this; exact this
  have H_e9 := Lib.hid e9; clear e9; have H_hI9 := Lib.hid hI9; clear hI9
  go_wp2_with fail
  refine (bz_run 0 2 2 H_hz8.out H_hI6.out (by decide) (by decide) (by decide) H_e9.out).mono ?_
  rintro e w9 ⟨rfl, hz9, -⟩
  have H_hz9 := Lib.hid hz9; clear hz9
  have e10 : Vg.Bo.best [⟨⟨3, 2, 10, 1⟩, ⟨[(12, 2)], 2⟩⟩, ⟨⟨2, 9, 10, 1⟩, ⟨[], 0⟩⟩] [⟨[3], 1, 1⟩, ⟨[4], 1, 0⟩] = 1 := by rfl
  have H_e10 := Lib.hid e10; clear e10
  go_wp2_with fail
  refine (bz_pick (m := 1) (is := true) H_hz9.out H_e10.out (by decide) (by decide)).mono ?_
  rintro e w10 ⟨rfl, hg⟩
  have hz10 := H_hz9.out.grows hg
  have H_hz10 := Lib.hid hz10; clear hz10
  clear hg
  have e11 : Vg.Bo.next [⟨⟨3, 2, 10, 1⟩, ⟨[(12, 2)], 2⟩⟩, ⟨⟨2, 9, 10, 1⟩, ⟨[], 0⟩⟩] [⟨[3], 1, 1⟩, ⟨[4], 1, 0⟩] = (12, true) := by rfl
  have H_e11 := Lib.hid e11; clear e11
  go_wp2_with fail
  refine (bz_next H_hz10.out (by decide) H_e11.out).mono ?_
  rintro e w11 ⟨rfl, hg⟩
  have hz11 := H_hz10.out.grows hg
  have H_hz11 := Lib.hid hz11; clear hz11
  clear hg
  have e12 : Vg.Bo.run [⟨⟨3, 2, 10, 1⟩, ⟨[(12, 2)], 2⟩⟩, ⟨⟨2, 9, 10, 1⟩, ⟨[], 0⟩⟩] [⟨[3], 1, 1⟩, ⟨[4], 1, 0⟩] 0 0 2 = ([⟨⟨3, 2, 10, 1⟩, ⟨[(12, 2)], 2⟩⟩, ⟨⟨2, 9, 10, 1⟩, ⟨[], 0⟩⟩], [⟨[3], 1, 1⟩, ⟨[4], 1, 0⟩], false, 7) := by rfl
  have hI12 : Vg.Bo.Inv 4 [⟨⟨3, 2, 10, 1⟩, ⟨[(12, 2)], 2⟩⟩, ⟨⟨2, 9, 10, 1⟩, ⟨[], 0⟩⟩] [⟨[3], 1, 1⟩, ⟨[4], 1, 0⟩] := by have := H_hI9.out.run 0 0 2; rw [e12] at this; exact this
  have H_e12 := Lib.hid e12; clear e12; have H_hI12 := Lib.hid hI12; clear hI12
  go_wp2_with fail
  refine (bz_run 0 0 2 H_hz11.out H_hI9.out (by decide) (by decide) (by decide) H_e12.out).mono ?_
  rintro e w12 ⟨rfl, hz12, -⟩
  have H_hz12 := Lib.hid hz12; clear hz12
  have e13 : Vg.Bo.run [⟨⟨3, 2, 10, 1⟩, ⟨[(12, 2)], 2⟩⟩, ⟨⟨2, 9, 10, 1⟩, ⟨[], 0⟩⟩] [⟨[3], 1, 1⟩, ⟨[4], 1, 0⟩] 1 4 6 = ([⟨⟨3, 2, 10, 1⟩, ⟨[(12, 2)], 2⟩⟩, ⟨⟨2, 9, 10, 1⟩, ⟨[(16, 4)], 6⟩⟩], [⟨[3], 1, 1⟩, ⟨[], 1, 0⟩], true, 0) := by rfl
  have hI13 : Vg.Bo.Inv 4 [⟨⟨3, 2, 10, 1⟩, ⟨[(12, 2)], 2⟩⟩, ⟨⟨2, 9, 10, 1⟩, ⟨[(16, 4)], 6⟩⟩] [⟨[3], 1, 1⟩, ⟨[], 1, 0⟩] := by have := H_hI12.out.run 1 4 6; rw [e13] at this; exact this
  have H_e13 := Lib.hid e13; clear e13; have H_hI13 := Lib.hid hI13; clear hI13
  go_wp2_with fail
  refine (bz_run 1 4 6 H_hz12.out H_hI12.out (by decide) (by decide) (by decide) H_e13.out).mono ?_
  rintro e w13 ⟨rfl, hz13, -⟩
  have H_hz13 := Lib.hid hz13; clear hz13
  have e14 : Vg.Bo.refill [⟨⟨3, 2, 10, 1⟩, ⟨[(12, 2)], 2⟩⟩, ⟨⟨2, 9, 10, 1⟩, ⟨[(16, 4)], 6⟩⟩] 12 = ([⟨⟨3, 2, 10, 1⟩, ⟨[], 12⟩⟩, ⟨⟨2, 9, 10, 1⟩, ⟨[(16, 4)], 12⟩⟩], 0) := by rfl
  have hI14 : Vg.Bo.Inv 4 [⟨⟨3, 2, 10, 1⟩, ⟨[], 12⟩⟩, ⟨⟨2, 9, 10, 1⟩, ⟨[(16, 4)], 12⟩⟩] [⟨[3], 1, 1⟩, ⟨[], 1, 0⟩] := by have := H_hI13.out.refill 12; rw [e14] at this; exact this
  have H_e14 := Lib.hid e14; clear e14; have H_hI14 := Lib.hid hI14; clear hI14
  go_wp2_with fail
  refine (bz_refill 12 H_hz13.out H_hI13.out H_e14.out).mono ?_
  rintro e w14 ⟨rfl, hz14, -⟩
  have H_hz14 := Lib.hid hz14; clear hz14
  have e15 : Vg.Bo.refill [⟨⟨3, 2, 10, 1⟩, ⟨[], 12⟩⟩, ⟨⟨2, 9, 10, 1⟩, ⟨[(16, 4)], 12⟩⟩] 11 = ([⟨⟨3, 2, 10, 1⟩, ⟨[], 12⟩⟩, ⟨⟨2, 9, 10, 1⟩, ⟨[(16, 4)], 12⟩⟩], 1) := by rfl
  have hI15 : Vg.Bo.Inv 4 [⟨⟨3, 2, 10, 1⟩, ⟨[], 12⟩⟩, ⟨⟨2, 9, 10, 1⟩, ⟨[(16, 4)], 12⟩⟩] [⟨[3], 1, 1⟩, ⟨[], 1, 0⟩] := by have := H_hI14.out.refill 11; rw [e15] at this; exact this
  have H_e15 := Lib.hid e15; clear e15; have H_hI15 := Lib.hid hI15; clear hI15
  go_wp2_with fail
  refine (bz_refill 11 H_hz14.out H_hI14.out H_e15.out).mono ?_
  rintro e w15 ⟨rfl, hz15, -⟩
  have H_hz15 := Lib.hid hz15; clear hz15
  have f1 : Vg.Bo.able [⟨⟨3, 2, 10, 1⟩, ⟨[], 12⟩⟩, ⟨⟨2, 9, 10, 1⟩, ⟨[(16, 4)], 12⟩⟩] [⟨[3], 1, 1⟩, ⟨[], 1, 0⟩] 0 = true := by rfl
  have f2 : Vg.Bo.left [⟨⟨3, 2, 10, 1⟩, ⟨[], 12⟩⟩, ⟨⟨2, 9, 10, 1⟩, ⟨[(16, 4)], 12⟩⟩] [⟨[3], 1, 1⟩, ⟨[], 1, 0⟩] 0 = 2 := by rfl
  have f3 : Vg.Bo.wait 2 [⟨[3], 1, 1⟩, ⟨[], 1, 0⟩] 0 = 1 := by rfl
  have f4 : Vg.Bo.lost 2 [⟨[3], 1, 1⟩, ⟨[], 1, 0⟩] 0 = 1 := by rfl
  have H_f1 := Lib.hid f1; clear f1; have H_f2 := Lib.hid f2; clear f2; have H_f3 := Lib.hid f3; clear f3; have H_f4 := Lib.hid f4; clear f4
  go_wp2_with (first | (go_at_call 57; refine (bz_able 0 (H_hz15.out.grows (by (repeat' (first | (with_reducible exact Vg.Grows.refl _) | (with_reducible assumption) | (with_reducible refine Vg.Grows.alloc ?_ _) | (with_reducible refine Vg.Grows.plus ?_ _ _) | (with_reducible refine Vg.Grows.drewN ?_ _) | (with_reducible refine Vg.Grows.drew ?_) | (with_reducible refine Vg.Grows.setCell ?_ ?_ _) | (with_reducible refine Vg.Grows.put ?_ ?_ _) | omega | (simp; omega) | (simp; done))))) H_f1.out).mono ?_; rintro e w1' ⟨rfl, rfl⟩) | (go_at_call 59; refine (bz_left 0 (H_hz15.out.grows (by (repeat' (first | (with_reducible exact Vg.Grows.refl _) | (with_reducible assumption) | (with_reducible refine Vg.Grows.alloc ?_ _) | (with_reducible refine Vg.Grows.plus ?_ _ _) | (with_reducible refine Vg.Grows.drewN ?_ _) | (with_reducible refine Vg.Grows.drew ?_) | (with_reducible refine Vg.Grows.setCell ?_ ?_ _) | (with_reducible refine Vg.Grows.put ?_ ?_ _) | omega | (simp; omega) | (simp; done))))) H_f2.out).mono ?_; rintro e w1' ⟨rfl, x1, n1, rfl⟩) | (go_at_call 61; refine (bz_wait 0 (H_hz15.out.grows (by (repeat' (first | (with_reducible exact Vg.Grows.refl _) | (with_reducible assumption) | (with_reducible refine Vg.Grows.alloc ?_ _) | (with_reducible refine Vg.Grows.plus ?_ _ _) | (with_reducible refine Vg.Grows.drewN ?_ _) | (with_reducible refine Vg.Grows.drew ?_) | (with_reducible refine Vg.Grows.setCell ?_ ?_ _) | (with_reducible refine Vg.Grows.put ?_ ?_ _) | omega | (simp; omega) | (simp; done))))) rfl H_f3.out).mono ?_; rintro e w1' ⟨rfl, rfl⟩) | (go_at_call 62; refine (bz_lost 0 (H_hz15.out.grows (by (repeat' (first | (with_reducible exact Vg.Grows.refl _) | (with_reducible assumption) | (with_reducible refine Vg.Grows.alloc ?_ _) | (with_reducible refine Vg.Grows.plus ?_ _ _) | (with_reducible refine Vg.Grows.drewN ?_ _) | (with_reducible refine Vg.Grows.drew ?_) | (with_reducible refine Vg.Grows.setCell ?_ ?_ _) | (with_reducible refine Vg.Grows.put ?_ ?_ _) | omega | (simp; omega) | (simp; done))))) rfl H_f4.out).mono ?_; rintro e w1' ⟨rfl, rfl⟩))
  have hgr := H_hz15.out.gr
  go_ret
  exact ⟨rfl, by (repeat' (first | (with_reducible exact Vg.Grows.refl _) | (with_reducible assumption) | (with_reducible refine Vg.Grows.alloc ?_ _) | (with_reducible refine Vg.Grows.plus ?_ _ _) | (with_reducible refine Vg.Grows.drewN ?_ _) | (with_reducible refine Vg.Grows.drew ?_) | (with_reducible refine Vg.Grows.setCell ?_ ?_ _) | (with_reducible refine Vg.Grows.put ?_ ?_ _) | omega | (simp; omega) | (simp; done)))⟩
end Go.Proofs.Ytiinhofmhoplfaa
