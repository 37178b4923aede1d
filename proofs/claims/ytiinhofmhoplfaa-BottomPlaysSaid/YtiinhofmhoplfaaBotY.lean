/- BottomPlays: threads, the document's ones beside them, and boxes ('BP'). -/
import Derived.Test.YtiinhofmhoplfaaBpB
import Derived.Test.YtiinhofmhoplfaaBotW
set_option linter.unusedSimpArgs false
set_option linter.unusedVariables false
set_option maxHeartbeats 8000000
set_option maxRecDepth 100000
namespace Vg
open Go
theorem TR.nil {w w' : World} {sa : Option Addr} {c : Nat} (h : TR w sa c []) : TR w' sa c [] := ⟨h.1, h.2.1, fun k hk => by simp at hk⟩
theorem ReadsP.nil0 {S S' : Nat → Prop} {w w' : World} {sv : Value} {n : Nat} (h : ReadsP S w sv n []) (hs : w.heap.size ≤ w'.heap.size) (hS : ∀ k, S' k) : ReadsP S' w' sv n [] := by
  refine ⟨?_, fun k _ => hS k⟩
  rcases h.1 with h0 | ⟨g, off, cap, h1, h2, h3, h4, h5, h6⟩
  · exact .inl h0
  · exact .inr ⟨g, off, cap, h1, h2, Nat.lt_of_lt_of_le h3 hs, h4, h5, fun j hj => by simp at hj⟩
theorem HasX.dep {X : List (Nat × Obj)} {S : Nat → Prop} (hS : ∀ k, DomX X k → S k) : ∀ w w', Kept S w w' → HasX X w → HasX X w' := fun w w' hk h p hp => hk.blk (h p hp) (hS p.1 ⟨p.2, hp⟩)
end Vg
namespace Go.Proofs.Ytiinhofmhoplfaa
open Go.ChangeShapes Go.WideShapes Go.ChangeAt Go.RowKit
theorem RB.kept0 {S : Nat → Prop} {w w' : World} {v : Value} (h : RB S w v [] []) (hs : w.heap.size ≤ w'.heap.size) : RB (fun _ => True) w' v [] [] := by
  obtain ⟨ta, tc, sa, sc, wa, wc, h1, h2, h3, h4, h5⟩ := h.ex
  exact ⟨⟨ta, tc, sa, sc, wa, wc, h1, h2.nil, fun k _ => trivial, h4.nil0 hs fun _ => trivial, ⟨h5.shape, h5.row.nil0 hs fun _ => trivial, fun i hi => by simp at hi, fun i hi => by simp at hi⟩⟩, fun i hi => by simp at hi⟩
/-- In blocks of F, but where there are none. -/
def RF (F : Nat → Prop) (w : World) (v : Value) (Bs : List Vg.Bp) (Q : List Vg.Wq) : Prop :=
  ∃ ps rs, RB (fun k => F k ∨ Bs = []) w v ps rs ∧ ps.map (·.2) = Bs ∧ rs.map (·.2) = Q ∧ rs.length = ps.length
section
variable {w w' w0 : World} {b n k g : Nat} {Bs Bs' Bs2 Bs3 : List Vg.Bp} {Q Q' Q2 Q3 : List Vg.Wq} {v v' : Value} {X Y : List (Nat × Obj)} {o : Obj} {r x m c i : Int} {is : Bool} {F S : Nat → Prop}
theorem RF.kept (h : RF F w v Bs Q) (hk : Vg.Kept F w w') : RF F w' v Bs Q := by
  obtain ⟨ps, rs, h1, h2, h3, h4⟩ := h
  by_cases h0 : Bs = []
  · subst h0
    have e1 : ps = [] := List.map_eq_nil_iff.1 h2
    subst e1
    have e2 : rs = [] := List.eq_nil_of_length_eq_zero (by simpa using h4)
    subst e2
    exact ⟨[], [], (h1.kept0 hk.size).mono fun k _ => .inr rfl, h2, h3, h4⟩
  · exact ⟨ps, rs, ((h1.mono (S' := F) fun k hk => hk.resolve_right h0).kept hk).mono fun k hk => .inl hk, h2, h3, h4⟩
/-- A new value of these blocks and new ones. -/
theorem RF.of {ps : List Vg.Sp} {rs : List Vg.Wp} (h : RB (fun k => (F k ∨ Bs = []) ∨ w.heap.size ≤ k) w' v ps rs) (h2 : ps.map (·.2) = Bs') (h3 : rs.map (·.2) = Q') (h4 : rs.length = ps.length) (hl : Bs'.length = Bs.length) : RF (fun k => (F k ∨ w.heap.size ≤ k) ∧ k < w'.heap.size) w' v Bs' Q' := by
  by_cases h0 : Bs' = []
  · exact ⟨ps, rs, h.mono fun k _ => .inr h0, h2, h3, h4⟩
  · have h5 : Bs ≠ [] := fun hh => h0 (List.eq_nil_of_length_eq_zero (by rw [hl, hh]; rfl))
    have h6 : 0 < ps.length := by
      have := congrArg List.length h2
      rw [List.length_map] at this
      rw [this]
      exact Nat.pos_of_ne_zero fun hh => h0 (List.eq_nil_of_length_eq_zero hh)
    refine ⟨ps, rs, (h.bound h6).mono fun k hk => .inl ⟨?_, hk.2⟩, h2, h3, h4⟩
    rcases hk.1 with (h7 | h7) | h7
    · exact .inl h7
    · exact absurd h7 h5
    · exact .inr h7
structure BP (w0 w : World) (b : Nat) (Bs : List Vg.Bp) (Q : List Vg.Wq) (v : Value) (Bs2 : List Vg.Bp) (Q2 : List Vg.Wq) (X : List (Nat × Obj)) : Prop where
  ex : ∃ S F, BZ w0 w b Bs Q S ∧ RF F w v Bs2 Q2 ∧ Vg.HasX X w ∧ (∀ k, F k → S k) ∧ (∀ k, Vg.DomX X k → S k) ∧ (∀ k, F k → ¬ Vg.DomX X k)
theorem BP.gr (h : BP w0 w b Bs Q v Bs2 Q2 X) : Vg.Grows w0 w := by obtain ⟨S, F, h1, -⟩ := h.ex; exact h1.gr
theorem BP.rf (h : BP w0 w b Bs Q v Bs2 Q2 X) : ∃ F, RF F w v Bs2 Q2 := by obtain ⟨S, F, h1, h2, -⟩ := h.ex; exact ⟨F, h2⟩
theorem BP.blk (h : BP w0 w b Bs Q v Bs2 Q2 X) (hx : (g, o) ∈ X) : Vg.blk w g = some o := by obtain ⟨S, F, h1, h2, h3, -⟩ := h.ex; exact h3 _ hx
theorem BP.step (h1 : BZ w0 w' b Bs' Q' S) (hk : Vg.Kept S w w') (h2 : RF F w v Bs2 Q2) (h3 : Vg.HasX X w) (h4 : ∀ k, F k → S k) (h5 : ∀ k, Vg.DomX X k → S k) (h6 : ∀ k, F k → ¬ Vg.DomX X k) : BP w0 w' b Bs' Q' v Bs2 Q2 X :=
  ⟨S, F, h1, h2.kept ⟨hk.size, fun k hF => hk.block k (h4 k hF)⟩, Vg.HasX.dep h5 w w' hk h3, h4, h5, h6⟩
theorem BP.grows (h : BP w0 w b Bs Q v Bs2 Q2 X) (hg : Vg.Grows w w') : BP w0 w' b Bs Q v Bs2 Q2 X := by
  obtain ⟨S, F, h1, h2, h3, h4, h5, h6⟩ := h.ex
  exact BP.step (h1.grows hg) ⟨hg.size, fun k hk => hg.below.block k (h1.lt k hk)⟩ h2 h3 h4 h5 h6
theorem BP.sub (h : BP w0 w b Bs Q v Bs2 Q2 X) (hs : ∀ p ∈ Y, p ∈ X) : BP w0 w b Bs Q v Bs2 Q2 Y := by
  obtain ⟨S, F, h1, h2, h3, h4, h5, h6⟩ := h.ex
  have hD : ∀ k, Vg.DomX Y k → Vg.DomX X k := fun k ⟨o, hk⟩ => ⟨o, hs _ hk⟩
  exact ⟨S, F, h1, h2, fun p hp => h3 p (hs p hp), h4, fun k hk => h5 k (hD k hk), fun k hk hd => h6 k hk (hD k hd)⟩
theorem BP.new (h : BP w0 w b Bs Q v Bs2 Q2 X) (hg : Vg.Grows w w') (hb : Vg.blk w' g = some o) (hlo : w.heap.size ≤ g) : BP w0 w' b Bs Q v Bs2 Q2 ((g, o) :: X) := by
  obtain ⟨S, F, h1, h2, h3, h4, h5, h6⟩ := h.ex
  have hk : Vg.Kept S w w' := ⟨hg.size, fun k hk => hg.below.block k (h1.lt k hk)⟩
  refine ⟨fun k => S k ∨ k = g, F, h1.other (t := fun _ => False) (Vg.Touch.of_grows hg) (fun k hk => hk.elim) (h1.gr.trans hg) (fun k hk => ?_), h2.kept ⟨hk.size, fun k hF => hk.block k (h4 k hF)⟩, (Vg.HasX.dep h5 w w' hk h3).cons hb, fun k hk => .inl (h4 k hk), fun k hk => ?_, fun k hk hd => ?_⟩
  · rcases hk with hk | rfl
    · exact ⟨.inl hk, Nat.lt_of_lt_of_le (h1.lt k hk) hg.size⟩
    · exact ⟨.inr hlo, Vg.lt_of hb⟩
  · rcases hk.cons with rfl | hk
    · exact .inr rfl
    · exact .inl (h5 k hk)
  · rcases hd.cons with rfl | hd
    · have := h1.lt _ (h4 _ hk); omega
    · exact h6 k hk hd
theorem BP.put (o' : Obj) (h : BP w0 w b Bs Q v Bs2 Q2 ((g, o) :: X)) (hlo : w0.heap.size ≤ g) (hne : ∀ p ∈ X, g ≠ p.1) : BP w0 (Vg.put w g o') b Bs Q v Bs2 Q2 ((g, o') :: X) := by
  obtain ⟨S, F, h1, h2, h3, h4, h5, h6⟩ := h.ex
  have hg := Vg.lt_of (h3 _ List.mem_cons_self)
  have hT : Vg.Touch (fun k => k = g) w (Vg.put w g o') := Vg.Touch.put (t := fun k => k = g) (Vg.Touch.refl _ _) rfl o'
  have hD : ∀ k, Vg.DomX ((g, o') :: X) k → Vg.DomX ((g, o) :: X) k := fun k hk => by
    rcases hk.cons with rfl | hk
    · exact Vg.DomX.here
    · exact hk.there
  refine ⟨S, F, h1.other hT (fun k hk => hk ▸ h5 _ Vg.DomX.here) (h1.gr.put hlo o') (fun k hk => ⟨.inl hk, by rw [Vg.put_size]; exact h1.lt k hk⟩), h2.kept ⟨by rw [Vg.put_size]; exact Nat.le_refl _, fun k hk => Vg.put_heap_other fun hh => h6 k hk (hh ▸ Vg.DomX.here)⟩, Vg.HasX.cons (fun p hp => ?_) (Vg.put_heap_same hg), h4, fun k hk => h5 k (hD k hk), fun k hk hd => h6 k hk (hD k hd)⟩
  exact (Vg.put_heap_other (hne p hp)).trans (h3 p (List.mem_cons_of_mem _ hp))
/-- The document's threads are others, in old blocks of their own and new ones. -/
theorem BP.val {ps : List Vg.Sp} {rs : List Vg.Wp} (h1 : BZ w0 w b Bs Q S) (h3 : Vg.HasX X w) (h4 : ∀ k, F k → S k) (h5 : ∀ k, Vg.DomX X k → S k) (h6 : ∀ k, F k → ¬ Vg.DomX X k) (hg : Vg.Grows w w') (hv : RB (fun k => (F k ∨ Bs2 = []) ∨ w.heap.size ≤ k) w' v' ps rs) (e2 : ps.map (·.2) = Bs3) (e3 : rs.map (·.2) = Q3) (e4 : rs.length = ps.length) (e5 : Bs3.length = Bs2.length) : BP w0 w' b Bs Q v' Bs3 Q3 X := by
  have hk : Vg.Kept S w w' := ⟨hg.size, fun k hk => hg.below.block k (h1.lt k hk)⟩
  have hDl : ∀ k, Vg.DomX X k → k < w.heap.size := fun k hk => h1.lt k (h5 k hk)
  refine ⟨fun k => (S k ∨ w.heap.size ≤ k) ∧ k < w'.heap.size, _, h1.other (t := fun _ => False) (Vg.Touch.of_grows hg) (fun k hk => hk.elim) (h1.gr.trans hg) (fun k hk => hk), RF.of hv e2 e3 e4 e5, Vg.HasX.dep h5 w w' hk h3, fun k hk => ⟨hk.1.imp (h4 k) id, hk.2⟩, fun k hk => ⟨.inl (h5 k hk), Nat.lt_of_lt_of_le (hDl k hk) hg.size⟩, fun k hk hd => ?_⟩
  rcases hk.1 with h7 | h7
  · exact h6 k h7 hd
  · have := hDl k hd; omega
theorem bp_put (i c : Int) (h : BP w0 w b Bs Q v Bs2 Q2 X) (hQ : ∀ q ∈ Q, q.ok) (hn : Bs.length = n) (hx : Vg.Bo.put n Q i c = (Q', r)) :
    Calls Try.prog 48 #[.pointer (some ⟨b, 0, none⟩), .int .i64 i, .int .i64 c] w fun e w' => e = .returned (.int .i64 r) ∧ BP w0 w' b Bs Q' v Bs2 Q2 X := by
  obtain ⟨S, F, h1, h2, h3, h4, h5, h6⟩ := h.ex
  refine (bz_put i c h1 hQ hn hx).mono ?_
  rintro e w' ⟨rfl, hz, hk⟩
  exact ⟨rfl, BP.step hz hk h2 h3 h4 h5 h6⟩
theorem bp_run {k : Nat} (i m en : Int) (h : BP w0 w b Bs Q v Bs2 Q2 X) (hI : Vg.Bo.Inv k Bs Q) (hk : k ≤ 1000000) (hm : -9223372036854775808 ≤ m ∧ m ≤ 9223372036854775807) (hen : -9223372036854775808 ≤ en ∧ en ≤ 9223372036854775807) (hx : Vg.Bo.run Bs Q i m en = (Bs', Q', is, r)) :
    Calls Try.prog 50 #[.pointer (some ⟨b, 0, none⟩), .int .i64 i, .int .i64 m, .int .i64 en] w fun e w' => e = .returned (.tuple #[.bool is, .int .i64 r]) ∧ BP w0 w' b Bs' Q' v Bs2 Q2 X := by
  obtain ⟨S, F, h1, h2, h3, h4, h5, h6⟩ := h.ex
  refine (bz_run i m en h1 hI hk hm hen hx).mono ?_
  rintro e w' ⟨rfl, hz, hk⟩
  exact ⟨rfl, BP.step hz hk h2 h3 h4 h5 h6⟩
theorem bp_refill {k : Nat} (now : Int) (h : BP w0 w b Bs Q v Bs2 Q2 X) (hI : Vg.Bo.Inv k Bs Q) (hx : Vg.Bo.refill Bs now = (Bs', r)) :
    Calls Try.prog 52 #[.pointer (some ⟨b, 0, none⟩), .int .i64 now] w fun e w' => e = .returned (.int .i64 r) ∧ BP w0 w' b Bs' Q v Bs2 Q2 X := by
  obtain ⟨S, F, h1, h2, h3, h4, h5, h6⟩ := h.ex
  refine (bz_refill now h1 hI hx).mono ?_
  rintro e w' ⟨rfl, hz, hk⟩
  exact ⟨rfl, BP.step hz hk h2 h3 h4 h5 h6⟩
theorem bp_pick (h : BP w0 w b Bs Q v Bs2 Q2 X) (hr : Vg.Bo.best Bs Q = r) (hm : max r 0 = m) (his : decide (0 ≤ r) = is) :
    Calls Try.prog 53 #[.pointer (some ⟨b, 0, none⟩)] w fun e w' => e = .returned (.tuple #[.int .i64 m, .bool is]) ∧ Vg.Grows w w' := by
  obtain ⟨S, F, h1, h2⟩ := h.ex
  exact bz_pick h1 hr hm his
theorem bp_next (h : BP w0 w b Bs Q v Bs2 Q2 X) (hle : Bs.length ≤ 64) (hx : Vg.Bo.next Bs Q = (x, is)) :
    Calls Try.prog 55 #[.pointer (some ⟨b, 0, none⟩)] w fun e w' => e = .returned (.tuple #[.int .i64 x, .bool is]) ∧ Vg.Grows w w' := by
  obtain ⟨S, F, h1, h2⟩ := h.ex
  exact bz_next h1 hle hx
theorem bp_left (i : Int) (h : BP w0 w b Bs Q v Bs2 Q2 X) (hx : Vg.Bo.left Bs Q i = x) :
    Calls Try.prog 59 #[.pointer (some ⟨b, 0, none⟩), .int .i64 i] w fun e w' => e = .returned (.int .i64 x) ∧ ∃ k, w' = w.drewN k := by
  obtain ⟨S, F, h1, h2⟩ := h.ex
  exact bz_leftq i h1 hx
theorem bp_wait (i : Int) (h : BP w0 w b Bs Q v Bs2 Q2 X) (hn : Bs.length = n) (hx : Vg.Bo.wait n Q i = x) :
    Calls Try.prog 61 #[.pointer (some ⟨b, 0, none⟩), .int .i64 i] w fun e w' => e = .returned (.int .i64 x) ∧ w = w' := by
  obtain ⟨S, F, h1, h2⟩ := h.ex
  exact bz_wait i h1 hn hx
theorem bp_lost (i : Int) (h : BP w0 w b Bs Q v Bs2 Q2 X) (hn : Bs.length = n) (hx : Vg.Bo.lost n Q i = x) :
    Calls Try.prog 62 #[.pointer (some ⟨b, 0, none⟩), .int .i64 i] w fun e w' => e = .returned (.int .i64 x) ∧ w = w' := by
  obtain ⟨S, F, h1, h2⟩ := h.ex
  exact bz_lost i h1 hn hx
theorem bp_able (i : Int) (h : BP w0 w b Bs Q v Bs2 Q2 X) (hx : Vg.Bo.able Bs Q i = is) :
    Calls Try.prog 57 #[.pointer (some ⟨b, 0, none⟩), .int .i64 i] w fun e w' => e = .returned (.bool is) ∧ w = w' := by
  obtain ⟨S, F, h1, h2⟩ := h.ex
  exact bz_able i h1 hx
abbrev bv (ta : Option Addr) (tc : Nat) (sa : Option Addr) (sc : Nat) (wa : Option Addr) (q wc n : Nat) : Value := .agg #[.slice ta n tc, .slice sa n sc, .slice wa q wc]
theorem br_put (i c : Int) (h : BP w0 w b Bs Q v Bs2 Q2 X) (hI : Vg.Bo.Inv k Bs2 Q2) (hk : k ≤ 1000) (hn : Bs2.length = n) (hx : Vg.Bo.put n Q2 i c = (Q3, r)) :
    Calls Try.prog 47 #[v, .int .i64 i, .int .i64 c] w fun e w' => ∃ ta tc sa sc wa q wc, e = .returned (.tuple #[bv ta tc sa sc wa q wc n, .int .i64 r]) ∧ BP w0 w' b Bs Q (bv ta tc sa sc wa q wc n) Bs2 Q3 X := by
  obtain ⟨S, F, h1, ⟨ps, rs, h2, rfl, rfl, h7⟩, h3, h4, h5, h6⟩ := h.ex
  rw [List.length_map] at hn
  have hl := Vg.Bo.put_len n (rs.map (·.2)) i c
  rw [hx] at hl
  refine (rb_put i c h2 rfl rfl hI hk hn hx).mono ?_
  rintro e w' ⟨rs', ta, tc, sa, sc, wa, q, wc, rfl, hf, hm, hg⟩
  refine ⟨ta, tc, sa, sc, wa, q, wc, rfl, BP.val h1 h3 h4 h5 h6 hg hf rfl hm ?_ rfl⟩
  have := congrArg List.length hm
  simp only [List.length_map] at this hl
  omega
theorem br_refill (now : Int) (h : BP w0 w b Bs Q v Bs2 Q2 X) (hI : Vg.Bo.Inv k Bs2 Q2) (hn : Bs2.length = n) (hx : Vg.Bo.refill Bs2 now = (Bs3, r)) :
    Calls Try.prog 51 #[v, .int .i64 now] w fun e w' => ∃ ta tc sa sc wa q wc, e = .returned (.tuple #[bv ta tc sa sc wa q wc n, .int .i64 r]) ∧ BP w0 w' b Bs Q (bv ta tc sa sc wa q wc n) Bs3 Q2 X := by
  obtain ⟨S, F, h1, ⟨ps, rs, h2, rfl, rfl, h7⟩, h3, h4, h5, h6⟩ := h.ex
  rw [List.length_map] at hn
  have hl := Vg.Bo.refill_len (ps.map (·.2)) now
  rw [hx] at hl
  refine (rb_refill now h2 rfl hI hn hx).mono ?_
  rintro e w' ⟨ps', ta, tc, sa, sc, wa, q, wc, rfl, hf, hm, hg⟩
  refine ⟨ta, tc, sa, sc, wa, q, wc, rfl, BP.val h1 h3 h4 h5 h6 hg hf hm rfl ?_ hl⟩
  have := congrArg List.length hm
  simp only [List.length_map] at this hl
  omega
theorem br_run (i m en : Int) (h : BP w0 w b Bs Q v Bs2 Q2 X) (hI : Vg.Bo.Inv k Bs2 Q2) (hn : Bs2.length = n) (hen : -9223372036854775808 ≤ en ∧ en ≤ 9223372036854775807) (hx : Vg.Bo.run Bs2 Q2 i m en = (Bs3, Q3, is, r)) :
    Calls Try.prog 49 #[v, .int .i64 i, .int .i64 m, .int .i64 en] w fun e w' => ∃ ta tc sa sc wa q wc, e = .returned (.tuple #[bv ta tc sa sc wa q wc n, .bool is, .int .i64 r]) ∧ BP w0 w' b Bs Q (bv ta tc sa sc wa q wc n) Bs3 Q3 X := by
  obtain ⟨S, F, h1, ⟨ps, rs, h2, rfl, rfl, h7⟩, h3, h4, h5, h6⟩ := h.ex
  rw [List.length_map] at hn
  have hl := Vg.Bo.run_len (ps.map (·.2)) (rs.map (·.2)) i m en
  rw [hx] at hl
  refine (rb_run i m en h2 rfl rfl hI hn hen hx).mono ?_
  rintro e w' ⟨ps', rs', ta, tc, sa, sc, wa, q, wc, rfl, hf, hm, hm2, hg⟩
  refine ⟨ta, tc, sa, sc, wa, q, wc, rfl, BP.val h1 h3 h4 h5 h6 hg hf hm hm2 ?_ hl.1⟩
  have e1 := congrArg List.length hm
  have e2 := congrArg List.length hm2
  simp only [List.length_map] at e1 e2 hl
  omega
theorem br_has (i : Int) (h : BP w0 w b Bs Q v Bs2 Q2 X) (hn : Bs2.length = n) (his : decide (0 ≤ i ∧ i < (n : Int)) = is) :
    Calls Try.prog 60 #[v, .int .i64 i] w fun e w' => e = .returned (.bool is) ∧ Vg.Grows w w' := by
  obtain ⟨F, ps, rs, h2, rfl, rfl, h7⟩ := h.rf
  rw [List.length_map] at hn
  subst hn his
  exact rb_has i h2
theorem br_able (i : Int) (h : BP w0 w b Bs Q v Bs2 Q2 X) (hI : Vg.Bo.Inv k Bs2 Q2) (hx : Vg.Bo.able Bs2 Q2 i = is) :
    Calls Try.prog 58 #[v, .int .i64 i] w fun e w' => e = .returned (.bool is) ∧ Vg.Grows w w' := by
  obtain ⟨F, ps, rs, h2, h3, h4, h7⟩ := h.rf
  exact rb_able i h2 h3 h4 hI hx
theorem br_left (i : Int) (h : BP w0 w b Bs Q v Bs2 Q2 X) (hI : Vg.Bo.Inv k Bs2 Q2) (hx : Vg.Bo.left Bs2 Q2 i = x) :
    Calls Try.prog 45 #[v, .int .i64 i] w fun e w' => e = .returned (.int .i64 x) ∧ Vg.Grows w w' := by
  obtain ⟨F, ps, rs, h2, h3, h4, h7⟩ := h.rf
  exact rb_left i h2 h3 h4 hI hx
theorem br_pick (h : BP w0 w b Bs Q v Bs2 Q2 X) (hI : Vg.Bo.Inv k Bs2 Q2) (hr : Vg.Bo.best Bs2 Q2 = r) (hm : max r 0 = m) (his : decide (0 ≤ r) = is) :
    Calls Try.prog 54 #[v] w fun e w' => e = .returned (.tuple #[.int .i64 m, .bool is]) ∧ Vg.Grows w w' := by
  obtain ⟨F, ps, rs, h2, h3, h4, h7⟩ := h.rf
  exact rb_pick h2 h3 h4 hI hr hm his
theorem br_next (h : BP w0 w b Bs Q v Bs2 Q2 X) (hI : Vg.Bo.Inv k Bs2 Q2) (hx : Vg.Bo.next Bs2 Q2 = (x, is)) :
    Calls Try.prog 56 #[v] w fun e w' => e = .returned (.tuple #[.int .i64 x, .bool is]) ∧ Vg.Grows w w' := by
  obtain ⟨F, ps, rs, h2, h3, h4, h7⟩ := h.rf
  exact rb_next h2 h3 h4 hI hx
end
end Go.Proofs.Ytiinhofmhoplfaa
