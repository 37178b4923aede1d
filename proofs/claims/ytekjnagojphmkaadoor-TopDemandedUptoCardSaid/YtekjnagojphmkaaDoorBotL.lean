/- Law 18: threads as one plain state ('BS'); lives. -/
import Derived.Test.YtekjnagojphmkaaDoorBotN
set_option linter.unusedSimpArgs false
set_option linter.unusedVariables false
set_option maxHeartbeats 2000000
set_option maxRecDepth 100000
namespace Go.Proofs.YtekjnagojphmkaaDoor
open Go.ChangeShapes Go.WideShapes Go.ChangeAt Go.RowKit
/-- Threads at block b show the state (Bs, Q); what they own lies in blocks of OB, from lo on. -/
structure BS (w : World) (b lo : Nat) (Bs : List Vg.Bp) (Q : List Vg.Wq) (OB : Nat → Prop) : Prop where
  ex : ∃ xs rv wb wv O, BT w b xs rv wb Q wv O ∧ xs.map (·.p) = Bs ∧ ∀ k, bown b xs rv wb O k → OB k
  own : ∀ k, OB k → lo ≤ k ∧ k < w.heap.size
section
variable {w w' w0 : World} {b lo n : Nat} {Bs Bs' : List Vg.Bp} {Q Q' : List Vg.Wq} {OB : Nat → Prop} {r x : Int} {is : Bool}
theorem BS.grows (h : BS w b lo Bs Q OB) (hg : Vg.Grows w w') : BS w' b lo Bs Q OB := by
  obtain ⟨⟨xs, rv, wb, wv, O, h1, h2, h3⟩, h4⟩ := h
  exact ⟨⟨xs, rv, wb, wv, O, h1.grows hg, h2, h3⟩, fun k hk => ⟨(h4 k hk).1, Nat.lt_of_lt_of_le (h4 k hk).2 hg.size⟩⟩
theorem BS.touch {t : Nat → Prop} (h : BS w b lo Bs Q OB) (ht : Vg.Touch t w w') (hv : ∀ k, OB k → ¬ t k) : BS w' b lo Bs Q OB := by
  obtain ⟨⟨xs, rv, wb, wv, O, h1, h2, h3⟩, h4⟩ := h
  exact ⟨⟨xs, rv, wb, wv, O, h1.touch ht fun k hk => hv k (h3 k hk), h2, h3⟩, fun k hk => ⟨(h4 k hk).1, Nat.lt_of_lt_of_le (h4 k hk).2 ht.size⟩⟩
theorem BS.grown (h : BS w b lo Bs Q OB) (hg : Vg.Grows w0 w) (hB : w0.heap.size ≤ lo) (ht : Vg.Touch OB w w') : Vg.Grows w0 w' :=
  ht.gr hg fun k hk => Nat.le_trans hB (h.own k hk).1
/-- What a call that writes leaves. -/
def BSn (w w' : World) (b lo : Nat) (Bs' : List Vg.Bp) (Q' : List Vg.Wq) (OB : Nat → Prop) : Prop :=
  ∃ OB', BS w' b lo Bs' Q' OB' ∧ (∀ k, OB' k → OB k ∨ w.heap.size ≤ k) ∧ Vg.Touch OB w w'
theorem BSn.of {xs : List Vg.Bt} {rv wv : Value} {wb : Nat} {O : Nat → Prop} (hlo : lo ≤ w.heap.size) (h4 : ∀ k, OB k → lo ≤ k ∧ k < w.heap.size) (h3 : ∀ k, bown b xs rv wb O k → OB k) (hn : BTn w w' b xs rv wb Q' wv O Bs') : BSn w w' b lo Bs' Q' OB := by
  obtain ⟨xs', O', h1, h2, h5, h6⟩ := hn
  refine ⟨bown b xs' rv wb O', ⟨⟨xs', rv, wb, wv, O', h1, h2, fun k hk => hk⟩, fun k hk => ⟨?_, h1.own_lt k hk⟩⟩, fun k hk => ?_, h6.mono fun k _ hk => h3 k hk⟩
  · rcases h5 k hk with h7 | h7
    · exact (h4 k (h3 k h7)).1
    · omega
  · rcases h5 k hk with h7 | h7
    · exact .inl (h3 k h7)
    · exact .inr h7
theorem BS.lo_le (h : BS w b lo Bs Q OB) : lo ≤ w.heap.size := by
  obtain ⟨⟨xs, rv, wb, wv, O, h1, h2, h3⟩, h4⟩ := h
  have := h4 b (h3 b (.inl rfl)); omega
theorem bs_put (i c : Int) (h : BS w b lo Bs Q OB) (hQ : ∀ q ∈ Q, q.ok) (hn : Bs.length = n) (hx : Vg.Bo.put n Q i c = (Q', r)) :
    Calls Tryd.prog 17 #[.pointer (some ⟨b, 0, none⟩), .int .i64 i, .int .i64 c] w fun e w' => e = .returned (.int .i64 r) ∧ BSn w w' b lo Bs Q' OB := by
  have hlo := h.lo_le
  obtain ⟨⟨xs, rv, wb, wv, O, h1, rfl, h3⟩, h4⟩ := h
  rw [List.length_map] at hn
  subst hn
  refine (bot_put i c h1 hQ hx).mono ?_
  rintro e w' ⟨rfl, hn⟩
  exact ⟨rfl, BSn.of hlo h4 h3 hn⟩
theorem bs_run {k : Nat} (i m en : Int) (h : BS w b lo Bs Q OB) (hI : Vg.Bo.Inv k Bs Q) (hk : k ≤ 1000000) (hm : -9223372036854775808 ≤ m ∧ m ≤ 9223372036854775807) (hen : -9223372036854775808 ≤ en ∧ en ≤ 9223372036854775807)
    (hx : Vg.Bo.run Bs Q i m en = (Bs', Q', is, r)) :
    Calls Tryd.prog 21 #[.pointer (some ⟨b, 0, none⟩), .int .i64 i, .int .i64 m, .int .i64 en] w fun e w' => e = .returned (.tuple #[.bool is, .int .i64 r]) ∧ BSn w w' b lo Bs' Q' OB := by
  have hlo := h.lo_le
  obtain ⟨⟨xs, rv, wb, wv, O, h1, rfl, h3⟩, h4⟩ := h
  refine (bot_run i m en h1 hI hk hm hen hx).mono ?_
  rintro e w' ⟨rfl, hn⟩
  exact ⟨rfl, BSn.of hlo h4 h3 hn⟩
theorem bs_refill {k : Nat} (now : Int) (h : BS w b lo Bs Q OB) (hI : Vg.Bo.Inv k Bs Q) (hx : Vg.Bo.refill Bs now = (Bs', r)) :
    Calls Tryd.prog 18 #[.pointer (some ⟨b, 0, none⟩), .int .i64 now] w fun e w' => e = .returned (.int .i64 r) ∧ BSn w w' b lo Bs' Q OB := by
  have hlo := h.lo_le
  obtain ⟨⟨xs, rv, wb, wv, O, h1, rfl, h3⟩, h4⟩ := h
  refine (bot_refill now h1 hI hx).mono ?_
  rintro e w' ⟨rfl, hn⟩
  exact ⟨rfl, BSn.of hlo h4 h3 hn⟩
theorem bs_wait (i : Int) (h : BS w b lo Bs Q OB) (hn : Bs.length = n) (hx : Vg.Bo.wait n Q i = x) :
    Calls Tryd.prog 80 #[.pointer (some ⟨b, 0, none⟩), .int .i64 i] w fun e w' => e = .returned (.int .i64 x) ∧ w = w' := by
  obtain ⟨⟨xs, rv, wb, wv, O, h1, rfl, h3⟩, h4⟩ := h
  rw [List.length_map] at hn
  subst hn
  exact bot_wait i h1 hx
theorem bs_able (i : Int) (h : BS w b lo Bs Q OB) (hx : Vg.Bo.able Bs Q i = is) :
    Calls Tryd.prog 52 #[.pointer (some ⟨b, 0, none⟩), .int .i64 i] w fun e w' => e = .returned (.bool is) ∧ w = w' := by
  obtain ⟨⟨xs, rv, wb, wv, O, h1, rfl, h3⟩, h4⟩ := h
  exact bot_able i h1 hx
theorem bs_left (i : Int) (h : BS w b lo Bs Q OB) (hx : Vg.Bo.left Bs Q i = x) :
    Calls Tryd.prog 20 #[.pointer (some ⟨b, 0, none⟩), .int .i64 i] w fun e w' => e = .returned (.int .i64 x) ∧ ∃ k, w' = w.drewN k := by
  obtain ⟨⟨xs, rv, wb, wv, O, h1, rfl, h3⟩, h4⟩ := h
  exact bot_left i h1 hx
theorem bs_pick (h : BS w b lo Bs Q OB) {m : Int} (hr : Vg.Bo.best Bs Q = r) (hm : max r 0 = m) (his : decide (0 ≤ r) = is) :
    Calls Tryd.prog 19 #[.pointer (some ⟨b, 0, none⟩)] w fun e w' => e = .returned (.tuple #[.int .i64 m, .bool is]) ∧ Vg.Grows w w' := by
  obtain ⟨⟨xs, rv, wb, wv, O, h1, rfl, h3⟩, h4⟩ := h
  exact bot_pick h1 hr hm his
theorem bs_new {T : List Vg.Th} {sa : Option Addr} {sc : Nat} (hr : Vg.TR w sa sc T) (hn : T.length = n) (hn2 : n ≤ 4398046511104) (hg : Vg.goodT T = true) (hB : T.map Vg.th0 = Bs) (hQ : Vg.Qs0 T = Q) :
    Calls Tryd.prog 16 #[.slice sa n sc] w fun e w' => ∃ OB, e = .returned (.tuple #[.pointer (some ⟨w.heap.size, 0, none⟩), .int .i64 0]) ∧ BS w' w.heap.size w.heap.size Bs Q OB ∧ Vg.Grows w w' := by
  subst hB hQ
  refine (bot_new_any hr hn hn2).mono ?_
  rintro e w' (⟨_, ⟨xs, rv, wb, wv, O, rfl, hb, hmap, hlo⟩, hgr⟩ | ⟨hbad, _⟩)
  · exact ⟨bown w.heap.size xs rv wb O, rfl, ⟨⟨xs, rv, wb, wv, O, hb, hmap, fun k hk => hk⟩, fun k hk => ⟨hlo k hk, hb.own_lt k hk⟩⟩, hgr⟩
  · rw [hg] at hbad; cases hbad
theorem bs_new_no {T : List Vg.Th} {sa : Option Addr} {sc : Nat} (hr : Vg.TR w sa sc T) (hn : T.length = n) (hn2 : n ≤ 4398046511104) (hg : Vg.goodT T = false) :
    Calls Tryd.prog 16 #[.slice sa n sc] w fun e w' => e = .returned (.tuple #[.pointer none, .int .i64 1]) ∧ Vg.Grows w w' := by
  refine (bot_new_any hr hn hn2).mono ?_
  rintro e w' (⟨hbad, _⟩ | ⟨_, rfl, hgr⟩)
  · rw [hg] at hbad; cases hbad
  · exact ⟨rfl, hgr⟩
end
end Go.Proofs.YtekjnagojphmkaaDoor
