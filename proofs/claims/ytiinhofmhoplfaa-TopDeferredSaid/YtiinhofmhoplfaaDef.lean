/- TopDeferred: threads beside plain queues (one bundle: 'TD'), and what a round keeps. -/
import Derived.Test.YtiinhofmhoplfaaBotP
set_option linter.unusedSimpArgs false
set_option linter.unusedVariables false
set_option maxHeartbeats 2000000
set_option maxRecDepth 100000
namespace Go.Proofs.Ytiinhofmhoplfaa
open Go.ChangeShapes Go.WideShapes Go.ChangeAt Go.RowKit
theorem low09 (w : World) : Calls Try.prog 123 #[.int .i64 4294967301] w fun e w' => e = .returned (.int .u32 5) ∧ w = w' := by
  go_enter Try.func123, Try.ntmps123
  go_wp2
  go_ret
  exact ⟨rfl, rfl⟩
theorem diff09 (w : World) : Calls Try.prog 124 #[.int .u32 3, .int .u32 5] w fun e w' => e = .returned (.int .i64 (-2)) ∧ w = w' := by
  go_enter Try.func124, Try.ntmps124
  go_wp2
  go_ret
  exact ⟨ret_int (by kernel_rfl), rfl⟩
theorem begins09 (w : World) : Calls Try.prog 82 #[] w fun e w' => e = .returned (.bool true) ∧ w = w' := by
  go_enter Try.func82, Try.ntmps82
  go_wp2_with (first | (go_at_call 123; refine (low09 _).mono ?_; rintro e w' ⟨rfl, rfl⟩) | (go_at_call 124; refine (diff09 _).mono ?_; rintro e w' ⟨rfl, rfl⟩))
  go_ret
  exact ⟨rfl, rfl⟩
/-- Threads at b, and queues at wb, apart. -/
structure TD (w : World) (b lo : Nat) (Bs : List Vg.Bp) (Q : List Vg.Wq) (OB : Nat → Prop) (wb : Nat) (Q2 : List Vg.Wq) (wv : Value) (O : Nat → Prop) : Prop where
  bs : BS w b lo Bs Q OB
  ws : WS w wb (wb + 1) Q2 wv O
  dis : ∀ k, OB k → ¬ fw wb O k
  low : ∀ k, fw wb O k → lo ≤ k
section
variable {w w' w0 : World} {b lo wb bx : Nat} {Bs Bs' : List Vg.Bp} {Q Q' Q2 Q2' : List Vg.Wq} {OB O : Nat → Prop} {wv : Value} {o : Obj}
theorem TD.grows (h : TD w b lo Bs Q OB wb Q2 wv O) (hg : Vg.Grows w w') : TD w' b lo Bs Q OB wb Q2 wv O := ⟨h.bs.grows hg, h.ws.grows hg, h.dis, h.low⟩
theorem TD.fw_lt (h : TD w b lo Bs Q OB wb Q2 wv O) : ∀ k, fw wb O k → k < w.heap.size := by
  rintro k (rfl | hk)
  · have := h.ws.hB; omega
  · exact (h.ws.own k hk).2
/-- What a call of either leaves. -/
def TDn (w w' : World) (b lo : Nat) (Bs' : List Vg.Bp) (Q' : List Vg.Wq) (OB : Nat → Prop) (wb : Nat) (Q2' : List Vg.Wq) (wv : Value) (O : Nat → Prop) : Prop :=
  ∃ OB' O', TD w' b lo Bs' Q' OB' wb Q2' wv O' ∧ Vg.Touch (fun k => OB k ∨ fw wb O k) w w' ∧ (∀ k, OB' k ∨ fw wb O' k → (OB k ∨ fw wb O k) ∨ w.heap.size ≤ k)
theorem TD.bot (h : TD w b lo Bs Q OB wb Q2 wv O) (hn : BSn w w' b lo Bs' Q' OB) : TDn w w' b lo Bs' Q' OB wb Q2 wv O := by
  obtain ⟨OB', h1, h2, h3⟩ := hn
  have hf := h.fw_lt
  refine ⟨OB', O, ⟨h1, h.ws.touch h3 (fun hh => h.dis wb hh (.inl rfl)) (fun k hk hh => h.dis k hh (.inr hk)), fun k hk hh => ?_, h.low⟩, h3.mono fun k _ hk => .inl hk, fun k hk => ?_⟩
  · rcases h2 k hk with h4 | h4
    · exact h.dis k h4 hh
    · have := hf k hh; omega
  · rcases hk with hk | hk
    · rcases h2 k hk with h4 | h4
      · exact .inl (.inl h4)
      · exact .inr h4
    · exact .inl (.inr hk)
theorem TD.work (h : TD w b lo Bs Q OB wb Q2 wv O) (hn : WSn w w' wb (wb + 1) Q2' wv O) : TDn w w' b lo Bs Q OB wb Q2' wv O := by
  obtain ⟨O', h1, h2, h3⟩ := hn
  have hO : ∀ k, fw wb O' k → fw wb O k ∨ w.heap.size ≤ k := by
    rintro k (hk | hk)
    · exact .inl (.inl hk)
    · rcases h2 k hk with h4 | h4
      · exact .inl (.inr h4)
      · exact .inr h4
  have hlo := h.bs.lo_le
  refine ⟨OB, O', ⟨h.bs.touch h3 (fun k hk hh => h.dis k hk (.inr hh)), h1, fun k hk hh => ?_, fun k hk => ?_⟩, h3.mono fun k _ hk => .inr (.inr hk), fun k hk => ?_⟩
  · rcases hO k hh with h4 | h4
    · exact h.dis k hk h4
    · have := (h.bs.own k hk).2; omega
  · rcases hO k hk with h4 | h4
    · exact h.low k h4
    · omega
  · rcases hk with hk | hk
    · exact .inl (.inl hk)
    · rcases hO k hk with h4 | h4
      · exact .inl (.inr h4)
      · exact .inr h4
theorem TDn.grown (hn : TDn w w' b lo Bs' Q' OB wb Q2' wv O) (h : TD w b lo Bs Q OB wb Q2 wv O) (hg : Vg.Grows w0 w) (hB : w0.heap.size ≤ lo) : Vg.Grows w0 w' := by
  obtain ⟨OB', O', h1, h2, h3⟩ := hn
  refine h2.gr hg fun k hk => ?_
  rcases hk with hk | hk
  · exact Nat.le_trans hB (h.bs.own k hk).1
  · exact Nat.le_trans hB (h.low k hk)
/-- A block of neither stays. -/
theorem TDn.bk (hn : TDn w w' b lo Bs' Q' OB wb Q2' wv O) (hb : Vg.blk w bx = some o) (hx : ¬ (OB bx ∨ fw wb O bx)) : Vg.blk w' bx = some o := by
  obtain ⟨OB', O', h1, h2, h3⟩ := hn
  exact h2.bk hb hx
/-- A round: the bundle, some block that is of neither, the growth. -/
structure TDx (w0 w : World) (b lo : Nat) (Bs : List Vg.Bp) (Q : List Vg.Wq) (wb : Nat) (Q2 : List Vg.Wq) (wv : Value) (bx : Nat) (o : Obj) : Prop where
  ex : ∃ OB O, TD w b lo Bs Q OB wb Q2 wv O ∧ ¬ (OB bx ∨ fw wb O bx)
  blk : Vg.blk w bx = some o
  gr : Vg.Grows w0 w
theorem TDx.grows (h : TDx w0 w b lo Bs Q wb Q2 wv bx o) (hg : Vg.Grows w w') : TDx w0 w' b lo Bs Q wb Q2 wv bx o := by
  obtain ⟨⟨OB, O, h1, h2⟩, h3, h4⟩ := h
  exact ⟨⟨OB, O, h1.grows hg, h2⟩, hg.blk h3, h4.trans hg⟩
theorem TDx.next {OB : Nat → Prop} {O : Nat → Prop} (hn : TDn w w' b lo Bs' Q' OB wb Q2' wv O) (h : TD w b lo Bs Q OB wb Q2 wv O) (hx : ¬ (OB bx ∨ fw wb O bx)) (h3 : Vg.blk w bx = some o) (h4 : Vg.Grows w0 w) (hB : w0.heap.size ≤ lo) : TDx w0 w' b lo Bs' Q' wb Q2' wv bx o := by
  have hg := hn.grown h h4 hB
  have hb := hn.bk h3 hx
  obtain ⟨OB', O', h5, h6, h7⟩ := hn
  refine ⟨⟨OB', O', h5, fun hh => ?_⟩, hb, hg⟩
  rcases h7 bx hh with h8 | h8
  · exact hx h8
  · have := Vg.lt_of h3; omega
theorem tx_put {n : Nat} {r : Int} (i c : Int) (h : TDx w0 w b lo Bs Q wb Q2 wv bx o) (hB : w0.heap.size ≤ lo) (hQ : ∀ q ∈ Q, q.ok) (hn : Bs.length = n) (hx : Vg.Bo.put n Q i c = (Q', r)) :
    Calls Try.prog 48 #[.pointer (some ⟨b, 0, none⟩), .int .i64 i, .int .i64 c] w fun e w' => e = .returned (.int .i64 r) ∧ TDx w0 w' b lo Bs Q' wb Q2 wv bx o := by
  obtain ⟨⟨OB, O, h1, h2⟩, h3, h4⟩ := h
  refine (bs_put i c h1.bs hQ hn hx).mono ?_
  rintro e w' ⟨rfl, hs⟩
  exact ⟨rfl, TDx.next (h1.bot hs) h1 h2 h3 h4 hB⟩
theorem tx_run {k : Nat} {r : Int} {is : Bool} (i m en : Int) (h : TDx w0 w b lo Bs Q wb Q2 wv bx o) (hB : w0.heap.size ≤ lo) (hI : Vg.Bo.Inv k Bs Q) (hk : k ≤ 1000000) (hm : -9223372036854775808 ≤ m ∧ m ≤ 9223372036854775807) (hen : -9223372036854775808 ≤ en ∧ en ≤ 9223372036854775807)
    (hx : Vg.Bo.run Bs Q i m en = (Bs', Q', is, r)) :
    Calls Try.prog 50 #[.pointer (some ⟨b, 0, none⟩), .int .i64 i, .int .i64 m, .int .i64 en] w fun e w' => e = .returned (.tuple #[.bool is, .int .i64 r]) ∧ TDx w0 w' b lo Bs' Q' wb Q2 wv bx o := by
  obtain ⟨⟨OB, O, h1, h2⟩, h3, h4⟩ := h
  refine (bs_run i m en h1.bs hI hk hm hen hx).mono ?_
  rintro e w' ⟨rfl, hs⟩
  exact ⟨rfl, TDx.next (h1.bot hs) h1 h2 h3 h4 hB⟩
theorem tx_refill {k : Nat} {r : Int} (now : Int) (h : TDx w0 w b lo Bs Q wb Q2 wv bx o) (hB : w0.heap.size ≤ lo) (hI : Vg.Bo.Inv k Bs Q) (hx : Vg.Bo.refill Bs now = (Bs', r)) :
    Calls Try.prog 52 #[.pointer (some ⟨b, 0, none⟩), .int .i64 now] w fun e w' => e = .returned (.int .i64 r) ∧ TDx w0 w' b lo Bs' Q wb Q2 wv bx o := by
  obtain ⟨⟨OB, O, h1, h2⟩, h3, h4⟩ := h
  refine (bs_refill now h1.bs hI hx).mono ?_
  rintro e w' ⟨rfl, hs⟩
  exact ⟨rfl, TDx.next (h1.bot hs) h1 h2 h3 h4 hB⟩
theorem tx_wput {r : Int} (i c : Int) (h : TDx w0 w b lo Bs Q wb Q2 wv bx o) (hB : w0.heap.size ≤ lo) (hQ : ∀ q ∈ Q2, q.ok) (hx : Vg.Wk.put Q2 i c = (Q2', r)) :
    Calls Try.prog 20 #[.pointer (some ⟨wb, 0, none⟩), .int .i64 i, .int .i64 c] w fun e w' => e = .returned (.int .i64 r) ∧ TDx w0 w' b lo Bs Q wb Q2' wv bx o := by
  obtain ⟨⟨OB, O, h1, h2⟩, h3, h4⟩ := h
  refine (ws_put i c h1.ws hQ hx).mono ?_
  rintro e w' ⟨rfl, hs⟩
  exact ⟨rfl, TDx.next (h1.work hs) h1 h2 h3 h4 hB⟩
theorem tx_wgo {r : Int} {is : Bool} (i c : Int) (h : TDx w0 w b lo Bs Q wb Q2 wv bx o) (hB : w0.heap.size ≤ lo) (hQ : ∀ q ∈ Q2, q.ok) (hx : Vg.Wk.go Q2 i c = (Q2', is, r)) :
    Calls Try.prog 22 #[.pointer (some ⟨wb, 0, none⟩), .int .i64 i, .int .i64 c] w fun e w' => e = .returned (.tuple #[.bool is, .int .i64 r]) ∧ TDx w0 w' b lo Bs Q wb Q2' wv bx o := by
  obtain ⟨⟨OB, O, h1, h2⟩, h3, h4⟩ := h
  refine (ws_go i c h1.ws hQ hx).mono ?_
  rintro e w' ⟨rfl, hs⟩
  exact ⟨rfl, TDx.next (h1.work hs) h1 h2 h3 h4 hB⟩
theorem tx_pick {r m : Int} {is : Bool} (h : TDx w0 w b lo Bs Q wb Q2 wv bx o) (hr : Vg.Bo.best Bs Q = r) (hm : max r 0 = m) (his : decide (0 ≤ r) = is) :
    Calls Try.prog 53 #[.pointer (some ⟨b, 0, none⟩)] w fun e w' => e = .returned (.tuple #[.int .i64 m, .bool is]) ∧ TDx w0 w' b lo Bs Q wb Q2 wv bx o := by
  have h' := h
  obtain ⟨⟨OB, O, h1, h2⟩, h3, h4⟩ := h
  refine (bs_pick h1.bs hr hm his).mono ?_
  rintro e w' ⟨rfl, hg⟩
  exact ⟨rfl, h'.grows hg⟩
theorem tx_next {x : Int} {is : Bool} (h : TDx w0 w b lo Bs Q wb Q2 wv bx o) (hle : Bs.length ≤ 64) (hx : Vg.Bo.next Bs Q = (x, is)) :
    Calls Try.prog 55 #[.pointer (some ⟨b, 0, none⟩)] w fun e w' => e = .returned (.tuple #[.int .i64 x, .bool is]) ∧ TDx w0 w' b lo Bs Q wb Q2 wv bx o := by
  have h' := h
  obtain ⟨⟨OB, O, h1, h2⟩, h3, h4⟩ := h
  refine (bs_next h1.bs hle hx).mono ?_
  rintro e w' ⟨rfl, hg⟩
  exact ⟨rfl, h'.grows hg⟩
theorem tx_left {x : Int} (i : Int) (h : TDx w0 w b lo Bs Q wb Q2 wv bx o) (hx : Vg.Bo.left Bs Q i = x) :
    Calls Try.prog 59 #[.pointer (some ⟨b, 0, none⟩), .int .i64 i] w fun e w' => e = .returned (.int .i64 x) ∧ TDx w0 w' b lo Bs Q wb Q2 wv bx o := by
  have h' := h
  obtain ⟨⟨OB, O, h1, h2⟩, h3, h4⟩ := h
  refine (bs_left i h1.bs hx).mono ?_
  rintro e w' ⟨rfl, k, rfl⟩
  exact ⟨rfl, h'.grows ((Vg.Grows.refl _).drewN k)⟩
theorem tx_wait {n : Nat} {x : Int} (i : Int) (h : TDx w0 w b lo Bs Q wb Q2 wv bx o) (hn : Bs.length = n) (hx : Vg.Bo.wait n Q i = x) :
    Calls Try.prog 61 #[.pointer (some ⟨b, 0, none⟩), .int .i64 i] w fun e w' => e = .returned (.int .i64 x) ∧ w = w' := by
  obtain ⟨⟨OB, O, h1, h2⟩, h3, h4⟩ := h
  exact bs_wait i h1.bs hn hx
theorem tx_lost {n : Nat} {x : Int} (i : Int) (h : TDx w0 w b lo Bs Q wb Q2 wv bx o) (hn : Bs.length = n) (hx : Vg.Bo.lost n Q i = x) :
    Calls Try.prog 62 #[.pointer (some ⟨b, 0, none⟩), .int .i64 i] w fun e w' => e = .returned (.int .i64 x) ∧ w = w' := by
  obtain ⟨⟨OB, O, h1, h2⟩, h3, h4⟩ := h
  exact bs_lost i h1.bs hn hx
theorem tx_wwait {x : Int} (i : Int) (h : TDx w0 w b lo Bs Q wb Q2 wv bx o) (hx : Vg.Wk.waiting Q2 i = x) :
    Calls Try.prog 26 #[.pointer (some ⟨wb, 0, none⟩), .int .i64 i] w fun e w' => e = .returned (.int .i64 x) ∧ w = w' := by
  obtain ⟨⟨OB, O, h1, h2⟩, h3, h4⟩ := h
  exact ws_waiting i h1.ws hx
theorem tx_wlost {x : Int} (i : Int) (h : TDx w0 w b lo Bs Q wb Q2 wv bx o) (hx : Vg.Wk.lost Q2 i = x) :
    Calls Try.prog 27 #[.pointer (some ⟨wb, 0, none⟩), .int .i64 i] w fun e w' => e = .returned (.int .i64 x) ∧ w = w' := by
  obtain ⟨⟨OB, O, h1, h2⟩, h3, h4⟩ := h
  exact ws_lost i h1.ws hx
/-- Over a new block, which is of neither. -/
theorem TDx.new {bx' : Nat} {o' : Obj} (h : TDx w0 w b lo Bs Q wb Q2 wv bx o) (hg : Vg.Grows w w') (hb : Vg.blk w' bx' = some o') (hl : w.heap.size ≤ bx') : TDx w0 w' b lo Bs Q wb Q2 wv bx' o' := by
  obtain ⟨⟨OB, O, h1, h2⟩, h3, h4⟩ := h
  refine ⟨⟨OB, O, h1.grows hg, fun hh => ?_⟩, hb, h4.trans hg⟩
  rcases hh with hh | hh
  · have := (h1.bs.own bx' hh).2; omega
  · have := h1.fw_lt bx' hh; omega
end
end Go.Proofs.Ytiinhofmhoplfaa
