/- TopThrottled: the walk. -/
import Derived.Test.YtlgkcpgmnpoanaaThr
import Derived.Test.YtlgkcpgmnpoanaaMboxR
set_option linter.unusedSimpArgs false
set_option linter.unusedVariables false
set_option maxHeartbeats 4000000
set_option maxRecDepth 100000
namespace Go.Proofs.Ytlgkcpgmnpoanaa
open Go.ChangeShapes Go.WideShapes Go.ChangeAt Go.RowKit
structure TC (w0 : World) (S b mb rb : Nat) : Prop where
  b0 : w0.heap.size ≤ b
  m0 : w0.heap.size ≤ mb
  r0 : w0.heap.size ≤ rb
  s0 : w0.heap.size ≤ S
  bS : b < S
  mS : mb < S
  rS : rb < S
  bm : b ≠ mb
  br : b ≠ rb
  mr : mb ≠ rb
/-- A server, a mask, two rows of the call's own. -/
structure TW (w0 wr : World) (S b mb rb many : Nat) (bu pe : Int) (s : Vg.Srv) (v : Value) (ms : Vg.Mask) (vf vt : Value) (nf nt : Nat) (F T : List Value) : Prop where
  sz : S ≤ wr.heap.size
  gr : Vg.Grows w0 wr
  sa : SA wr b (b + 1) bu pe s v
  ma : MA wr mb rb many pe ms
  qf : Vg.Que wr S 2 1 vf nf F
  qt : Vg.Que wr S 2 1 vt nt T
  d1 : ∀ j, v.ownBlock = some j → S ≤ j ∧ vf.ownBlock ≠ some j ∧ vt.ownBlock ≠ some j
  d2 : ∀ j, vf.ownBlock = some j → vt.ownBlock ≠ some j
section
variable {w0 wr w' W1 : World} {S b mb rb many nf nt n' m : Nat} {bu pe : Int} {s s' : Vg.Srv} {v v' vf vt v2 : Value} {ms ms' : Vg.Mask} {F T F' : List Value} {y : Array Obj} {o : Obj}
theorem TW.grows (h : TW w0 wr S b mb rb many bu pe s v ms vf vt nf nt F T) (hg : Vg.Grows wr w') : TW w0 w' S b mb rb many bu pe s v ms vf vt nf nt F T :=
  ⟨Nat.le_trans h.sz hg.size, h.gr.trans hg, h.sa.grows hg, h.ma.grows hg, h.qf.grows hg, h.qt.grows hg, h.d1, h.d2⟩
theorem TW.server (h : TW w0 wr S b mb rb many bu pe s v ms vf vt nf nt F T) (c : TC w0 S b mb rb) (hs : SA w' b (b + 1) bu pe s' v') (ht : Vg.Touch (fun k => k = b ∨ v.ownBlock = some k) wr w')
    (ho : ∀ k, v'.ownBlock = some k → v.ownBlock = some k ∨ wr.heap.size ≤ k) : TW w0 w' S b mb rb many bu pe s' v' ms vf vt nf nt F T := by
  obtain ⟨c1, c2, c3, c4, c5, c6, c7, c8, c9, c10⟩ := c
  have key : ∀ j, (j = b ∨ v.ownBlock = some j) → j = b ∨ S ≤ j := fun j hj => hj.elim .inl fun e => .inr (h.d1 j e).1
  have hsz := h.sz
  refine ⟨Nat.le_trans h.sz ht.size, ht.grows h.gr (fun k hk => by rcases key k hk with e | e <;> omega), hs, h.ma.touch ht (fun hh => by rcases key _ hh with e | e <;> omega) (fun hh => by rcases key _ hh with e | e <;> omega), ?_, ?_, ?_, h.d2⟩
  · exact h.qf.kept fun k hk => ht.block k (h.qf.lt k hk).2 (fun hh => hh.elim (fun e => by have := (h.qf.lt k hk).1; omega) (fun e => (h.d1 k e).2.1 hk))
  · exact h.qt.kept fun k hk => ht.block k (h.qt.lt k hk).2 (fun hh => hh.elim (fun e => by have := (h.qt.lt k hk).1; omega) (fun e => (h.d1 k e).2.2 hk))
  · exact fun j hj => (ho j hj).elim (h.d1 j) fun hge => ⟨by omega, fun e => by have := (h.qf.lt j e).2; omega, fun e => by have := (h.qt.lt j e).2; omega⟩
theorem TW.mask (h : TW w0 wr S b mb rb many bu pe s v ms vf vt nf nt F T) (c : TC w0 S b mb rb) (hs : MA w' mb rb many pe ms') (ht : Vg.Touch (fun k => k = mb ∨ k = rb) wr w') : TW w0 w' S b mb rb many bu pe s v ms' vf vt nf nt F T := by
  obtain ⟨c1, c2, c3, c4, c5, c6, c7, c8, c9, c10⟩ := c
  refine ⟨Nat.le_trans h.sz ht.size, ht.grows h.gr (fun k hk => by omega), h.sa.touch ht (fun hh => by omega) (fun k hk hh => by have := (h.d1 k hk).1; omega), hs, ?_, ?_, h.d1, h.d2⟩
  · exact h.qf.kept fun k hk => ht.block k (h.qf.lt k hk).2 (fun hh => by have := (h.qf.lt k hk).1; omega)
  · exact h.qt.kept fun k hk => ht.block k (h.qt.lt k hk).2 (fun hh => by have := (h.qt.lt k hk).1; omega)
theorem TW.app1 (h : TW w0 wr S b mb rb many bu pe s v ms vf vt nf nt F T) (c : TC w0 S b mb rb) (hq : Vg.Que (Vg.plus W1 y m) S 2 1 v2 n' F') (hs : Vg.Same (fun j => vf.ownBlock = some j) (wr.alloc o) W1)
    (ho : v2.ownBlock = vf.ownBlock ∨ v2.ownBlock = some (wr.alloc o).heap.size) : TW w0 (Vg.plus W1 y m) S b mb rb many bu pe s v ms v2 vt n' nt F' T := by
  obtain ⟨c1, c2, c3, c4, c5, c6, c7, c8, c9, c10⟩ := c
  have ht : Vg.Touch (fun j => vf.ownBlock = some j) wr (Vg.plus W1 y m) := ((Vg.Touch.of_grows ((Vg.Grows.refl wr).alloc o)).trans (Vg.Touch.of_same hs)).trans (Vg.Touch.of_grows ((Vg.Grows.refl W1).plus y m))
  rw [World.size_alloc] at ho
  have hsz := h.sz
  have hl := h.qf.lt
  have hown := h.sa.own
  refine ⟨Nat.le_trans h.sz ht.size, ht.grows h.gr (fun k hk => by have := (hl k hk).1; omega), h.sa.touch ht (fun hh => by have := (hl _ hh).1; omega) (fun k hk hh => (h.d1 k hk).2.1 hh), h.ma.touch ht (fun hh => by have := (hl _ hh).1; omega) (fun hh => by have := (hl _ hh).1; omega), hq, ?_, ?_, ?_⟩
  · exact h.qt.kept fun k hk => ht.block k (h.qt.lt k hk).2 (fun hh => h.d2 k hh hk)
  · refine fun j hj => ⟨(h.d1 j hj).1, fun e => ?_, (h.d1 j hj).2.2⟩
    rcases ho with ho | ho
    · exact (h.d1 j hj).2.1 (ho.symm.trans e)
    · have e5 : wr.heap.size + 1 = j := Option.some.inj (ho.symm.trans e)
      have := (hown j hj).2; omega
  · intro j hj e
    rcases ho with ho | ho
    · exact h.d2 j (ho.symm.trans hj) e
    · have e5 : wr.heap.size + 1 = j := Option.some.inj (ho.symm.trans hj)
      have := (h.qt.lt j e).2; omega
theorem TW.app2 (h : TW w0 wr S b mb rb many bu pe s v ms vf vt nf nt F T) (c : TC w0 S b mb rb) (hq : Vg.Que (Vg.plus W1 y m) S 2 1 v2 n' F') (hs : Vg.Same (fun j => vt.ownBlock = some j) (wr.alloc o) W1)
    (ho : v2.ownBlock = vt.ownBlock ∨ v2.ownBlock = some (wr.alloc o).heap.size) : TW w0 (Vg.plus W1 y m) S b mb rb many bu pe s v ms vf v2 nf n' F F' := by
  obtain ⟨c1, c2, c3, c4, c5, c6, c7, c8, c9, c10⟩ := c
  have ht : Vg.Touch (fun j => vt.ownBlock = some j) wr (Vg.plus W1 y m) := ((Vg.Touch.of_grows ((Vg.Grows.refl wr).alloc o)).trans (Vg.Touch.of_same hs)).trans (Vg.Touch.of_grows ((Vg.Grows.refl W1).plus y m))
  rw [World.size_alloc] at ho
  have hsz := h.sz
  have hl := h.qt.lt
  have hown := h.sa.own
  refine ⟨Nat.le_trans h.sz ht.size, ht.grows h.gr (fun k hk => by have := (hl k hk).1; omega), h.sa.touch ht (fun hh => by have := (hl _ hh).1; omega) (fun k hk hh => (h.d1 k hk).2.2 hh), h.ma.touch ht (fun hh => by have := (hl _ hh).1; omega) (fun hh => by have := (hl _ hh).1; omega), ?_, hq, ?_, ?_⟩
  · exact h.qf.kept fun k hk => ht.block k (h.qf.lt k hk).2 (fun hh => h.d2 k hk hh)
  · refine fun j hj => ⟨(h.d1 j hj).1, (h.d1 j hj).2.1, fun e => ?_⟩
    rcases ho with ho | ho
    · exact (h.d1 j hj).2.2 (ho.symm.trans e)
    · have e5 : wr.heap.size + 1 = j := Option.some.inj (ho.symm.trans e)
      have := (hown j hj).2; omega
  · intro j hj e
    rcases ho with ho | ho
    · exact h.d2 j hj (ho.symm.trans e)
    · have e5 : wr.heap.size + 1 = j := Option.some.inj (ho.symm.trans e)
      have := (h.qf.lt j hj).2; omega
end
theorem low08 (w : World) : Calls Try.prog 74 #[.int .i64 4294967301] w fun e w' => e = .returned (.int .u32 5) ∧ w = w' := by
  go_enter Try.func74, Try.ntmps74
  go_wp2
  go_ret
  exact ⟨rfl, rfl⟩
theorem diff08 (w : World) : Calls Try.prog 75 #[.int .u32 3, .int .u32 5] w fun e w' => e = .returned (.int .i64 (-2)) ∧ w = w' := by
  go_enter Try.func75, Try.ntmps75
  go_wp2
  go_ret
  exact ⟨ret_int (by kernel_rfl), rfl⟩
theorem begins08 (w : World) : Calls Try.prog 51 #[] w fun e w' => e = .returned (.bool true) ∧ w = w' := by
  go_enter Try.func51, Try.ntmps51
  go_wp2_with (first | (go_at_call 74; refine (low08 _).mono ?_; rintro e w' ⟨rfl, rfl⟩) | (go_at_call 75; refine (diff08 _).mono ?_; rintro e w' ⟨rfl, rfl⟩))
  go_ret
  exact ⟨rfl, rfl⟩
end Go.Proofs.Ytlgkcpgmnpoanaa
namespace Vg
open Go
theorem enter_refused (m : Mask) (many : Nat) (pe now : Int) : m.refused ≤ (m.enter many pe now).1.refused ∧ (m.enter many pe now).1.refused ≤ m.refused + 1 := by
  unfold Mask.enter Mask.tell
  by_cases h : now < m.last ∨ 4503599627370496 < now
  · rw [if_pos h]; simp; omega
  · rw [if_neg h]
    simp only [ne_eq, not_true_eq_false, if_false]
    split
    · simp only []; omega
    · simp only []; omega
theorem left_bd {s : Srv} {bu : Int} (h : s.Inv bu) (hb : 1 ≤ bu) : 0 ≤ s.left bu ∧ s.left bu ≤ bu := by
  have h5 := h.2.2.2.2
  have h0 := owed_nonneg (L := s.L) fun x hx => (h.2.2.2.1 x hx).2.2
  unfold Srv.left
  split <;> omega
theorem use_goes {s : Srv} {bu pe n now : Int} (h0 : 0 ≤ n) (hn : 0 ≤ now) (h1 : now + n ≤ 4503599627370496) (h2 : s.last ≤ now) (h3 : n ≤ s.left bu) : (s.use bu pe n (now + n)).2 = 0 := by
  unfold Srv.use
  rw [if_neg (by omega), if_neg (by omega)]
theorem refill_goes {s : Srv} {now : Int} (h1 : now ≤ 4503599627370496) (h2 : s.last ≤ now) : (s.refill now).2.2 = 0 := by
  unfold Srv.refill
  rw [if_neg (by omega)]
end Vg
namespace Go.Proofs.Ytlgkcpgmnpoanaa
open Go.ChangeShapes Go.WideShapes Go.ChangeAt Go.RowKit
theorem TopThrottled_walk (bu pe many cost : Int) (a : Option Addr) (len cap : Nat) (D : Nat → Nat → Int) (w : World) (hb0 : -9223372036854775808 ≤ bu) (hb1 : bu ≤ 9223372036854775807) (hp0 : -9223372036854775808 ≤ pe) (hp1 : pe ≤ 9223372036854775807) (hm0 : -9223372036854775808 ≤ many) (hm1 : many ≤ 9223372036854775807) (hc0 : -9223372036854775808 ≤ cost) (hc1 : cost ≤ 9223372036854775807) (hr : Vg.intRows w [.u8] a len cap D) :
    Calls Try.prog 10 #[.int .i64 bu, .int .i64 pe, .int .i64 many, .int .i64 cost, .slice a len cap] w fun e w' => e = .returned (.bool true) ∧ Vg.Grows w w' := by
  by_cases hsv : 1 ≤ bu ∧ bu ≤ pe ∧ pe ≤ 1099511627776
  · obtain ⟨h1, h2, h3⟩ := hsv
    by_cases hmv : 1 ≤ many ∧ many ≤ 64
    · obtain ⟨m1, m2⟩ := hmv
      obtain ⟨mn, rfl⟩ : ∃ mn : Nat, many = mn := ⟨many.toNat, by omega⟩
      have hlen := hr.1
      have hcap : cap ≤ 9223372036854775807 := hr.2.1
      by_cases hl : 60 < len
      · go_enter Try.func10, Try.ntmps10
        go_wp2_with (first | (go_at_call 51; refine (begins08 _).mono ?_; rintro e w' ⟨rfl, rfl⟩) | (go_at_call 27; refine (sa_new h1 h2 h3).mono ?_; rintro e w1 ⟨rfl, hs, rfl⟩; have HSA := Lib.hid hs; clear hs) | (go_at_call 16; refine (ma_new mn pe (by omega) (by omega) (by omega) h3).mono ?_; rintro e w1 ⟨rfl, hs, rfl⟩; have HMA := Lib.hid hs; clear hs))
        go_ret
        exact ⟨rfl, by (repeat' (first | (with_reducible exact Vg.Grows.refl _) | (with_reducible assumption) | (with_reducible refine Vg.Grows.alloc ?_ _) | (with_reducible refine Vg.Grows.plus ?_ _ _) | (with_reducible refine Vg.Grows.drewN ?_ _) | (with_reducible refine Vg.Grows.drew ?_) | (with_reducible refine Vg.Grows.setCell ?_ ?_ _) | (with_reducible refine Vg.Grows.put ?_ ?_ _) | omega | (simp; omega) | (simp; done)))⟩
      by_cases hcs : cost < 1
      · go_enter Try.func10, Try.ntmps10
        go_wp2_with (first | (go_at_call 51; refine (begins08 _).mono ?_; rintro e w' ⟨rfl, rfl⟩) | (go_at_call 27; refine (sa_new h1 h2 h3).mono ?_; rintro e w1 ⟨rfl, hs, rfl⟩; have HSA := Lib.hid hs; clear hs) | (go_at_call 16; refine (ma_new mn pe (by omega) (by omega) (by omega) h3).mono ?_; rintro e w1 ⟨rfl, hs, rfl⟩; have HMA := Lib.hid hs; clear hs))
        go_ret
        exact ⟨rfl, by (repeat' (first | (with_reducible exact Vg.Grows.refl _) | (with_reducible assumption) | (with_reducible refine Vg.Grows.alloc ?_ _) | (with_reducible refine Vg.Grows.plus ?_ _ _) | (with_reducible refine Vg.Grows.drewN ?_ _) | (with_reducible refine Vg.Grows.drew ?_) | (with_reducible refine Vg.Grows.setCell ?_ ?_ _) | (with_reducible refine Vg.Grows.put ?_ ?_ _) | omega | (simp; omega) | (simp; done)))⟩
      by_cases hct : 1099511627776 < cost
      · go_enter Try.func10, Try.ntmps10
        go_wp2_with (first | (go_at_call 51; refine (begins08 _).mono ?_; rintro e w' ⟨rfl, rfl⟩) | (go_at_call 27; refine (sa_new h1 h2 h3).mono ?_; rintro e w1 ⟨rfl, hs, rfl⟩; have HSA := Lib.hid hs; clear hs) | (go_at_call 16; refine (ma_new mn pe (by omega) (by omega) (by omega) h3).mono ?_; rintro e w1 ⟨rfl, hs, rfl⟩; have HMA := Lib.hid hs; clear hs))
        go_ret
        exact ⟨rfl, by (repeat' (first | (with_reducible exact Vg.Grows.refl _) | (with_reducible assumption) | (with_reducible refine Vg.Grows.alloc ?_ _) | (with_reducible refine Vg.Grows.plus ?_ _ _) | (with_reducible refine Vg.Grows.drewN ?_ _) | (with_reducible refine Vg.Grows.drew ?_) | (with_reducible refine Vg.Grows.setCell ?_ ?_ _) | (with_reducible refine Vg.Grows.put ?_ ?_ _) | omega | (simp; omega) | (simp; done)))⟩
      have RH := Lib.hid (fun h => Vg.intRows.open (by decide) hr h)
      clear hr
      go_enter Try.func10, Try.ntmps10
      go_wp2_with (first | (go_at_call 51; refine (begins08 _).mono ?_; rintro e w' ⟨rfl, rfl⟩) | (go_at_call 27; refine (sa_new h1 h2 h3).mono ?_; rintro e w1 ⟨rfl, hs, rfl⟩; have HSA := Lib.hid hs; clear hs) | (go_at_call 16; refine (ma_new mn pe (by omega) (by omega) (by omega) h3).mono ?_; rintro e w1 ⟨rfl, hs, rfl⟩; have HMA := Lib.hid hs; clear hs))
      obtain ⟨b, hb⟩ : ∃ b, w.heap.size = b := ⟨_, rfl⟩
      obtain ⟨rb, hrb⟩ : ∃ rb, w.heap.size + 1 = rb := ⟨_, rfl⟩
      obtain ⟨mb, hmb⟩ : ∃ mb, w.heap.size + 1 + 1 = mb := ⟨_, rfl⟩
      obtain ⟨S, hS⟩ : ∃ S, w.heap.size + 1 + 1 + 1 = S := ⟨_, rfl⟩
      obtain ⟨W0, hW0⟩ : ∃ W0, (((w.alloc (servC bu pe (Value.slice none 0 0) 0)).alloc (ringC (fun x => 0) mn)).alloc (maskC (w.heap.size + 1) mn pe 0 0 0 0)) = W0 := ⟨_, rfl⟩
      have hc : TC w S b mb rb := ⟨by omega, by omega, by omega, by omega, by omega, by omega, by omega, by omega, by omega, by omega⟩
      have C := Lib.hid hc
      have tw0 : TW w W0 S b mb rb mn bu pe ⟨[], 0⟩ (.slice none 0 0) ⟨[], 0, 0⟩ (.slice none 0 0) (.slice none 0 0) 0 0 [] [] := by
        have hs := HSA.out
        have hm := HMA.out
        have e1 : (w.alloc (servC bu pe (Value.slice none 0 0) 0)).heap.size = rb := by simp; omega
        rw [e1, show rb + 1 = mb from by omega] at hm
        rw [← hW0]
        refine ⟨by simp; omega, by (repeat' (first | (with_reducible exact Vg.Grows.refl _) | (with_reducible assumption) | (with_reducible refine Vg.Grows.alloc ?_ _) | (with_reducible refine Vg.Grows.plus ?_ _ _) | (with_reducible refine Vg.Grows.drewN ?_ _) | (with_reducible refine Vg.Grows.drew ?_) | (with_reducible refine Vg.Grows.setCell ?_ ?_ _) | (with_reducible refine Vg.Grows.put ?_ ?_ _) | omega | (simp; omega) | (simp; done))), ?_, ?_, Vg.Que.nil _ _ _ _, Vg.Que.nil _ _ _ _, fun j hj => by simp [Value.ownBlock] at hj, fun j hj => by simp [Value.ownBlock] at hj⟩
        · rw [← hb]; exact hs.grows (by (repeat' (first | (with_reducible exact Vg.Grows.refl _) | (with_reducible assumption) | (with_reducible refine Vg.Grows.alloc ?_ _) | (with_reducible refine Vg.Grows.plus ?_ _ _) | (with_reducible refine Vg.Grows.drewN ?_ _) | (with_reducible refine Vg.Grows.drew ?_) | (with_reducible refine Vg.Grows.setCell ?_ ?_ _) | (with_reducible refine Vg.Grows.put ?_ ?_ _) | omega | (simp; omega) | (simp; done))))
        · rw [hrb]; exact hm
      have cb0 := hc.b0
      simp only [hmb]
      simp only [hb]
      have hsz0 : W0.heap.size = S := by rw [← hW0, ← hS]; simp
      have H_hb := Lib.hid hb; clear hb; have H_hrb := Lib.hid hrb; clear hrb; have H_hmb := Lib.hid hmb; clear hmb; have H_hS := Lib.hid hS; clear hS; have H_tw0 := Lib.hid tw0; clear tw0; have H_hsz0 := Lib.hid hsz0; clear hsz0
      clear HSA HMA hc
      rw [show ((((w.alloc (servC bu pe (Value.slice none 0 0) 0)).alloc (ringC (fun x => 0) mn)).alloc (maskC (b + 1) mn pe 0 0 0 0))) = W0 from by rw [← H_hb.out]; exact hW0]
      have H_hW0 := Lib.hid hW0; clear hW0
      obtain ⟨i0, hi, hz0, hz1, hz2⟩ := info_parts Try.info_i64
      go_loopw [15, 16, 17, 18, 19, 82] (fun nw wa fr tt en i wr => ∃ (k E : Nat) (now W : Int) (s : Vg.Srv) (v vf vt : Value) (ms : Vg.Mask) (A : List (Int × Int)), k ≤ len ∧ i = .int .i64 k ∧ nw = .int .i64 now ∧ wa = .int .i64 W ∧ fr = vf ∧ tt = vt ∧ en = .int .i64 E ∧
          s.Inv bu ∧ Vg.Sup s bu pe A ∧ A.length = k ∧ Vg.Inrow A ∧ (∀ x ∈ A, x.2 ≤ now ∧ 0 ≤ x.1 ∧ x.2 - x.1 ≤ bu) ∧ s.last ≤ now ∧ 0 ≤ now ∧ now ≤ k * 1099511628031 ∧ Vg.Thr ms mn pe E ∧ ms.last ≤ now ∧ (0 ≤ ms.refused ∧ ms.refused ≤ k) ∧ E ≤ k ∧ 0 ≤ W ∧ Vg.slen A + W = E * cost ∧
          TW w wr S b mb rb mn bu pe s v ms vf vt k k (Vg.ics (A.map Prod.fst)) (Vg.ics (A.map Prod.snd))) (fun _ _ _ _ _ i _ => len - (intOf i).toNat)
      case atStart =>
        exact ⟨0, 0, 0, 0, ⟨[], 0⟩, _, _, _, ⟨[], 0, 0⟩, [], by omega, rfl, rfl, rfl, rfl, rfl, rfl, Vg.Srv.inv0 h1, Vg.Sup.nil (by omega), rfl, ⟨by simp, by simp⟩, by simp, by simp, by omega, by simp, Vg.Thr.nil, by simp, by simp, by omega, by omega, by simp [Vg.slen], H_tw0.out⟩
      case round =>
        obtain ⟨k, E, now, W, s, v, vf, vt, ms, A, hk, rfl, rfl, rfl, rfl, rfl, rfl, hinv, hsup, hAl, hrow, hAb, hsl, hn0, hnk, hthr, hml, hmr, hEk, hW0', hsum, tw⟩ := hrel
        have hEC0 : 0 ≤ (E : Int) * cost := Int.mul_nonneg (by omega) (by omega)
        have hEC1 : (E : Int) * cost ≤ 60 * 1099511627776 := Int.le_trans (Int.mul_le_mul (show (E : Int) ≤ 60 by omega) (show cost ≤ 1099511627776 by omega) (by omega) (by omega)) (by omega)
        have hsA := Vg.slen_bd (l := A) (B := bu) (fun x hx => by have := hAb x hx; have := hrow.2 x hx; omega)
        have hWb : W ≤ 60 * 1099511627776 := by omega
        obtain ⟨fa, fc, rfl⟩ := tw.qf.shape
        obtain ⟨ta, tc, rfl⟩ := tw.qt.shape
        by_cases hlt : k < len
        · obtain ⟨ba, off, rfl, hba, hcc⟩ := RH.out (by omega)
          have hcc := hcc k hlt 0 (by decide)
          obtain ⟨g, hg⟩ : ∃ g, D k 0 = g := ⟨_, rfl⟩
          rw [hg] at hcc
          obtain ⟨hcc, hw⟩ := hcc
          have hbg := bounds_u8 hw
          simp only [List.length_cons, List.length_nil, Nat.zero_add, Nat.mul_one, Nat.add_zero, List.getElem_cons_zero] at hcc
          clear hw hg
          have hcc := (tw.gr.below.cell (p := ⟨ba, off + k, none⟩) hba).trans hcc
          have hbr : ba < wr.heap.size := Nat.lt_of_lt_of_le hba tw.gr.size
          obtain ⟨t, ht⟩ : ∃ t, now + g = t := ⟨_, rfl⟩
          have htb : 0 ≤ t ∧ t ≤ 70000000000000 := by omega
          have hre := Vg.refill_goes (s := s) (now := t) (by omega) (by omega)
          have hinv1 := Vg.Srv.refill_inv t hinv
          have hsup1 := Vg.Sup.refill hsup hre
          have hl1 := (Vg.Srv.refill_ok hre).1
          obtain ⟨⟨s1, bk, cd⟩, hrf⟩ : ∃ p, s.refill t = p := ⟨_, rfl⟩
          rw [hrf] at hre hinv1 hsup1 hl1
          have hre : cd = 0 := hre
          subst hre
          have hinv1 : s1.Inv bu := hinv1
          have hsup1 : Vg.Sup s1 bu pe A := hsup1
          have hl1 : s1.last = t := hl1
          have hmd := hthr.d
          have hen3 := Vg.Thr.enter (now := t) hthr (by omega) (by omega) (by omega) (by omega)
          have hrefs := Vg.enter_refused ms mn pe t
          obtain ⟨⟨ms1, ec⟩, hen⟩ : ∃ p, ms.enter mn pe t = p := ⟨_, rfl⟩
          rw [hen] at hen3 hrefs
          simp only [] at hen3 hrefs
          obtain ⟨lf, hlf⟩ : ∃ lf, s1.left bu = lf := ⟨_, rfl⟩
          have hlfb := Vg.left_bd hinv1 h1
          rw [hlf] at hlfb
          obtain ⟨W1, E1, hWE⟩ : ∃ (W1 : Int) (E1 : Nat), (ec = 0 ∧ W1 = W + cost ∧ E1 = E + 1) ∨ ((ec == 0) = false ∧ W1 = W ∧ E1 = E) := by
            by_cases h : ec = 0
            · exact ⟨_, _, .inl ⟨h, rfl, rfl⟩⟩
            · exact ⟨_, _, .inr ⟨by simp [h], rfl, rfl⟩⟩
          have hthr1 : Vg.Thr ms1 mn pe E1 := by
            rcases hWE with ⟨a1, a2, a3⟩ | ⟨a1, a2, a3⟩
            · rw [a3]; exact hen3.1 a1
            · rw [a3]; exact hen3.2.1 (by simpa using a1)
          have hml1 : ms1.last = t := hen3.2.2
          have hsum1 : Vg.slen A + W1 = E1 * cost := by
            rcases hWE with ⟨a1, a2, a3⟩ | ⟨a1, a2, a3⟩
            · rw [a3, a2, Int.natCast_add, Int.add_mul]; simp; omega
            · rw [a3, a2]; exact hsum
          have hE1 : E1 ≤ k + 1 := by omega
          have hW1 : 0 ≤ W1 ∧ W1 ≤ 70000000000000 := by omega
          obtain ⟨n, hn⟩ : ∃ n, (lf < W1 ∧ n = lf) ∨ (W1 ≤ lf ∧ n = W1) := by
            by_cases h : lf < W1
            · exact ⟨_, .inl ⟨h, rfl⟩⟩
            · exact ⟨_, .inr ⟨by omega, rfl⟩⟩
          have hnb : 0 ≤ n ∧ n ≤ lf ∧ n ≤ W1 := by omega
          have hug := Vg.use_goes (s := s1) (bu := bu) (pe := pe) (n := n) (now := t) hnb.1 htb.1 (by omega) (by omega) (by rw [hlf]; exact hnb.2.1)
          have hinv2 := Vg.Srv.use_inv n (t + n) hinv1 (show 1 ≤ pe ∧ pe ≤ 1099511627776 from ⟨by omega, h3⟩)
          have hsup2 := Vg.Sup.use hsup1 hinv1 (by omega) hug
          have hl2 := (Vg.Srv.use_ok hug).1
          obtain ⟨⟨s2, cd⟩, huse⟩ : ∃ p, s1.use bu pe n (t + n) = p := ⟨_, rfl⟩
          rw [huse] at hug hinv2 hsup2 hl2
          have hug : cd = 0 := hug
          subst hug
          have hinv2 : s2.Inv bu := hinv2
          have hsup2 : Vg.Sup s2 bu pe (A ++ [(t + n - n, t + n)]) := hsup2
          rw [show t + n - n = t from by omega] at hsup2
          have hl2 : s2.last = t + n := hl2
          have hrow2 := hrow.snoc (t := t) (n := n) (fun x hx => by have := hAb x hx; omega) hnb.1
          have hAb2 : ∀ x ∈ A ++ [(t, t + n)], x.2 ≤ t + n ∧ 0 ≤ x.1 ∧ x.2 - x.1 ≤ bu := by
            intro x hx
            rcases List.mem_append.1 hx with hx | hx
            · have := hAb x hx; omega
            · simp at hx; subst hx; show t + n ≤ t + n ∧ 0 ≤ t ∧ t + n - t ≤ bu; omega
          have hsum2 : Vg.slen (A ++ [(t, t + n)]) + (W1 - n) = E1 * cost := by
            rw [Vg.slen_append, ← hsum1]; simp only [Vg.slen]; omega
          have hmr1 : 0 ≤ ms1.refused ∧ ms1.refused ≤ ((k + 1 : Nat) : Int) := by omega
          have hnk2 : t + n ≤ ((k + 1 : Nat) : Int) * 1099511628031 := by omega
          have hAl2 : (A ++ [(t, t + n)]).length = k + 1 := by simp; exact hAl
          have hmsl := hthr.d
          have hmrr : 0 ≤ ms.refused ∧ ms.refused ≤ 4611686018427387904 := by omega
          clear hen3 hrefs hsum hsum1 hmd
          have H_tw := Lib.hid tw; clear tw; have H_hinv := Lib.hid hinv; clear hinv; have H_hsup := Lib.hid hsup; clear hsup; have H_hrow := Lib.hid hrow; clear hrow; have H_hAb := Lib.hid hAb; clear hAb; have H_hthr := Lib.hid hthr; clear hthr; have H_hinv1 := Lib.hid hinv1; clear hinv1; have H_hsup1 := Lib.hid hsup1; clear hsup1; have H_hl1 := Lib.hid hl1; clear hl1; have H_hrf := Lib.hid hrf; clear hrf; have H_hen := Lib.hid hen; clear hen; have H_hlf := Lib.hid hlf; clear hlf; have H_hthr1 := Lib.hid hthr1; clear hthr1; have H_hml1 := Lib.hid hml1; clear hml1; have H_hinv2 := Lib.hid hinv2; clear hinv2; have H_hsup2 := Lib.hid hsup2; clear hsup2; have H_hl2 := Lib.hid hl2; clear hl2; have H_huse := Lib.hid huse; clear huse; have H_hrow2 := Lib.hid hrow2; clear hrow2; have H_hAb2 := Lib.hid hAb2; clear hAb2; have H_hsum2 := Lib.hid hsum2; clear hsum2; have H_hmr1 := Lib.hid hmr1; clear hmr1; have H_hAl2 := Lib.hid hAl2; clear hAl2; have H_hAl := Lib.hid hAl; clear hAl; have H_hsA := Lib.hid hsA; clear hsA; have H_hnk2 := Lib.hid hnk2; clear hnk2
          rcases hWE with ⟨a1, rfl, rfl⟩ | ⟨a1, rfl, rfl⟩
          all_goals rcases hn with ⟨a2, rfl⟩ | ⟨a2, rfl⟩
          all_goals
            go_wp2_with (first | (go_at_call 33; refine (sa_refill (s := s) (v := v) (B := b + 1) t H_tw.out.sa (by omega) H_hinv.out ⟨h1, by omega⟩).mono ?_; rintro e w3 ⟨v3, rfl, hsa3, ht3, ho3⟩; rw [H_hrf.out]; rw [H_hrf.out] at hsa3; have tw3 := H_tw.out.server C.out hsa3 ht3 ho3; clear hsa3 ht3 ho3; have H_tw3 := Lib.hid tw3; clear tw3) | (go_at_call 20; refine (ma_enter (s := ms) t H_tw3.out.ma C.out.mr ⟨by omega, h3⟩ hmrr hmsl).mono ?_; rintro e w4 ⟨rfl, hma4, ht4⟩; rw [H_hen.out]; rw [H_hen.out] at hma4; have tw4 := H_tw3.out.mask C.out hma4 ht4; clear hma4 ht4; have H_tw4 := Lib.hid tw4; clear tw4) | (go_at_call 36; refine (sa_left (s := s1) H_tw4.out.sa).mono ?_; rintro e w1 ⟨rfl, rfl⟩; rw [H_hlf.out]) | (go_at_call 31; refine (sa_use (s := s1) (v := v3) (B := b + 1) _ _ H_tw4.out.sa (by omega) (by have := H_tw4.out.sz; have := C.out.bS; omega) H_hinv1.out ⟨by omega, h3⟩ ⟨h1, by omega⟩ (by omega) (by omega)).mono ?_; rintro e w5 ⟨v5, rfl, hsa5, ht5, ho5⟩; rw [H_huse.out]; rw [H_huse.out] at hsa5; have tw5 := H_tw4.out.server C.out hsa5 ht5 ho5; clear hsa5 ht5 ho5; have sz5 := tw5.sz; have H_tw5 := Lib.hid tw5; clear tw5) | (at_builtin; (refine Vg.wpList_que (w := _) rfl (.tmp 118) (.tmp 120) 28 rfl S 2 i0 (.int .i64 0) 1 8 Try.underlying28 hi hz0 hz1 hz2 rfl (by decide) (.slice fa k fc) k _ rfl (H_tw5.out.qf.grows (by (repeat' (first | (with_reducible exact Vg.Grows.refl _) | (with_reducible assumption) | (with_reducible refine Vg.Grows.alloc ?_ _) | (with_reducible refine Vg.Grows.plus ?_ _ _) | (with_reducible refine Vg.Grows.drewN ?_ _) | (with_reducible refine Vg.Grows.drew ?_) | (with_reducible refine Vg.Grows.setCell ?_ ?_ _) | (with_reducible refine Vg.Grows.put ?_ ?_ _) | omega | (simp; omega) | (simp; done))))) _ 1 1 [.int .i64 t] rfl rfl (Vg.one_new (by first | rfl | ((try simp only [World.size_alloc, Vg.plus_size, Vg.put_size, World.size_setCell, World.size_drew, World.heap_drewN]) <;> omega))) (by simp [Value.oneCell']) (by decide) (by unfold maxLen; omega) (by omega) (by simp only [World.size_alloc]; omega) ?_; intro v6 W6 y6 m6 hq6 hs6 ho6; have tw6 := H_tw5.out.app1 C.out hq6 hs6 ho6; obtain ⟨a6, c6, rfl⟩ := hq6.shape; clear hq6 hs6 ho6; have sz6 := tw6.sz; have H_tw6 := Lib.hid tw6; clear tw6)) | (at_builtin; (refine Vg.wpList_que (w := _) rfl (.tmp 122) (.tmp 126) 28 rfl S 2 i0 (.int .i64 0) 1 8 Try.underlying28 hi hz0 hz1 hz2 rfl (by decide) (.slice ta k tc) k _ rfl (H_tw6.out.qt.grows (by (repeat' (first | (with_reducible exact Vg.Grows.refl _) | (with_reducible assumption) | (with_reducible refine Vg.Grows.alloc ?_ _) | (with_reducible refine Vg.Grows.plus ?_ _ _) | (with_reducible refine Vg.Grows.drewN ?_ _) | (with_reducible refine Vg.Grows.drew ?_) | (with_reducible refine Vg.Grows.setCell ?_ ?_ _) | (with_reducible refine Vg.Grows.put ?_ ?_ _) | omega | (simp; omega) | (simp; done))))) _ 1 1 [.int .i64 (t + _)] rfl rfl (Vg.one_new (by first | rfl | ((try simp only [World.size_alloc, Vg.plus_size, Vg.put_size, World.size_setCell, World.size_drew, World.heap_drewN]) <;> omega))) (by simp [Value.oneCell']) (by decide) (by unfold maxLen; omega) (by omega) (by simp only [World.size_alloc]; omega) ?_; intro v7 W7 y7 m7 hq7 hs7 ho7; have tw7 := H_tw6.out.app2 C.out hq7 hs7 ho7; obtain ⟨a7, c7, rfl⟩ := hq7.shape; clear hq7 hs7 ho7; have H_tw7 := Lib.hid tw7; clear tw7)))
            have e1 : ∀ z : Int × Int, Vg.ics ((A ++ [z]).map Prod.fst) = Vg.ics (A.map Prod.fst) ++ [.int .i64 z.1] := fun z => by simp
            have e2 : ∀ z : Int × Int, Vg.ics ((A ++ [z]).map Prod.snd) = Vg.ics (A.map Prod.snd) ++ [.int .i64 z.2] := fun z => by simp
            refine ⟨⟨k + 1, _, _, _, s2, v5, _, _, ms1, _, by omega, by go_num, rfl, rfl, rfl, rfl, (by first | rfl | go_num), H_hinv2.out, H_hsup2.out, H_hAl2.out, H_hrow2.out, H_hAb2.out, (by rw [H_hl2.out]; exact Int.le_refl _), by omega, H_hnk2.out, H_hthr1.out, (by rw [H_hml1.out]; omega), H_hmr1.out, by omega, by omega, (by first | exact H_hsum2.out | (have q := H_hsum2.out; rw [Int.sub_self] at q; exact q)), ?_⟩, by simp [intOf]; omega⟩
            rw [e1, e2]
            exact H_tw7.out
        · have hkl : k = len := by omega
          have hrf := tw.qf.reads
          have hrt := tw.qt.reads
          have hfm : fc ≤ 9223372036854775807 := hrf.cap_le
          have htm : tc ≤ 9223372036854775807 := hrt.cap_le
          have hgr := tw.gr
          have hcnt := hthr.count (now := now) (by omega) (by omega) hml
          have hk60 : k ≤ 60 := by omega
          obtain ⟨wz, rfl⟩ : ∃ wz, wz = wr := ⟨_, rfl⟩
          have hlaw : ∀ (j q : Nat) (hq : q < A.length) (hjq : j ≤ q), Vg.slen (A.take (q + 1)) - Vg.slen (A.take j) ≤ (A[q].2 - (A[j]'(by omega)).1 + pe - 1) / pe * bu := fun j q hq hjq => Vg.thr_law hsup hrow (by omega) hq hjq
          have hpos : ∀ (j q : Nat) (hq : q < A.length) (hjq : j ≤ q), (A[j]'(by omega)).1 ≤ A[q].2 := fun j q hq hjq => by have := hrow.le (show j < A.length by omega) hq hjq; have := hrow.2 A[q] (List.getElem_mem hq); omega
          have hpre : ∀ j : Nat, 0 ≤ Vg.slen (A.take j) ∧ Vg.slen (A.take j) ≤ 60 * 1099511627776 := fun j => by
            have h1 := Vg.slen_bd (l := A.take j) (B := bu) (fun x hx => by have := hAb x (List.mem_of_mem_take hx); have := hrow.2 x (List.mem_of_mem_take hx); omega)
            have h2 : (A.take j).length ≤ 60 := by simp; omega
            have h3 : ((A.take j).length : Int) * bu ≤ 60 * 1099511627776 := Int.le_trans (Int.mul_le_mul (show ((A.take j).length : Int) ≤ 60 by omega) (show bu ≤ 1099511627776 by omega) (by omega) (by omega)) (by omega)
            omega
          have hmon : ∀ j q : Nat, j ≤ q → Vg.slen (A.take j) ≤ Vg.slen (A.take q) := fun j q hjq => by
            have e1 : A.take q = A.take j ++ (A.take q).drop j := by
              conv => lhs; rw [← List.take_append_drop j (A.take q)]
              rw [List.take_take, Nat.min_eq_left hjq]
            rw [e1, Vg.slen_append]
            have := (Vg.slen_bd (l := (A.take q).drop j) (B := bu) (fun x hx => by have hx' := List.mem_of_mem_take (List.mem_of_mem_drop hx); have := hAb x hx'; have := hrow.2 x hx'; omega)).1
            omega
          have hend : Vg.slen (A.take k) = Vg.slen A := by rw [List.take_of_length_le (by omega)]
          have hnk3 : now ≤ 70000000000000 := by omega
          have hrow2 := hrow.2
          have H_tw := Lib.hid tw; clear tw; have H_hinv := Lib.hid hinv; clear hinv; have H_hsup := Lib.hid hsup; clear hsup; have H_hrow := Lib.hid hrow; clear hrow; have H_hAb := Lib.hid hAb; clear hAb; have H_hthr := Lib.hid hthr; clear hthr; have H_hAl := Lib.hid hAl; clear hAl; have H_hsA := Lib.hid hsA; clear hsA; have H_hrf := Lib.hid hrf; clear hrf; have H_hrt := Lib.hid hrt; clear hrt; have H_hlaw := Lib.hid hlaw; clear hlaw; have H_hpos := Lib.hid hpos; clear hpos; have H_hpre := Lib.hid hpre; clear hpre; have H_hmon := Lib.hid hmon; clear hmon; have H_hend := Lib.hid hend; clear hend; have H_hrow2 := Lib.hid hrow2; clear hrow2; have H_hkl := Lib.hid hkl; clear hkl
          go_wp2_with fail
          go_loopw [25, 137] (fun al i wr => ∃ j : Nat, j ≤ k ∧ i = .int .i64 j ∧ al = .int .i64 (Vg.slen (A.take j)) ∧ Vg.Grows wz wr) (fun _ i _ => k - (intOf i).toNat)
          case atStart => exact ⟨0, by omega, rfl, by simp [Vg.slen], Vg.Grows.refl _⟩
          case round =>
            obtain ⟨j, hj, rfl, rfl, hg2⟩ := hrel
            by_cases hjk : j < k
            · have hjA : j < A.length := by rw [H_hAl.out]; exact hjk
              have q1 := H_hrf.out
              have q2 := H_hrt.out
              obtain ⟨g1, o1, rfl, hg1, hc1', hm1', hx1⟩ := q1.open (by simp; omega)
              obtain ⟨g2, o2, rfl, hg2', hc2', hm2', hx2⟩ := q2.open (by simp; omega)
              have a1 := hx1 j (by simp; exact hjA)
              have a2 := hx2 j (by simp; exact hjA)
              simp only [Vg.ics, List.getElem_map] at a1 a2
              have b1 := (hg2.below.cell (p := ⟨g1, o1 + j, none⟩) hg1).trans a1
              have b2 := (hg2.below.cell (p := ⟨g2, o2 + j, none⟩) hg2').trans a2
              have hgl1 : g1 < wr.heap.size := Nat.lt_of_lt_of_le hg1 hg2.size
              have hgl2 : g2 < wr.heap.size := Nat.lt_of_lt_of_le hg2' hg2.size
              have hst := Vg.slen_take A j hjA
              have hp0 := H_hpre.out j
              have hp1 := H_hpre.out (j + 1)
              have hxb := H_hAb.out A[j] (List.getElem_mem hjA)
              have hxr := H_hrow2.out A[j] (List.getElem_mem hjA)
              obtain ⟨x, hx⟩ : ∃ x, A[j] = x := ⟨_, rfl⟩
              rw [hx] at b1 b2 hst hxb hxr
              obtain ⟨xf, xt⟩ := x
              simp only [] at b1 b2 hst hxb hxr
              obtain ⟨p, hp⟩ : ∃ p, Vg.slen (A.take j) = p := ⟨_, rfl⟩
              rw [hp] at hst hp0
              have hw1 : IntKind.i64.wrap (xt - xf) = xt - xf := by rw [IntWalk.i64_in _ (by omega)]
              have hw2 : IntKind.i64.wrap (p + (xt - xf)) = p + (xt - xf) := by rw [IntWalk.i64_in _ (by omega)]
              have hst' : p + (xt - xf) = Vg.slen (A.take (j + 1)) := hst.symm
              clear hx1 hx2 a1 a2 q1 q2 hst
              have H_hx := Lib.hid hx; clear hx; have H_hp := Lib.hid hp; clear hp; have H_hst' := Lib.hid hst'; clear hst'
              rw [H_hp.out]
              go_wp2_with fail
              go_quiet (fail)
              go_wp2_with fail
              obtain ⟨wy, hwy⟩ : ∃ wy, wr.drewN nq = wy := ⟨_, rfl⟩
              have hgy : Vg.Grows wz wy := by rw [← hwy]; (repeat' (first | (with_reducible exact Vg.Grows.refl _) | (with_reducible assumption) | (with_reducible refine Vg.Grows.alloc ?_ _) | (with_reducible refine Vg.Grows.plus ?_ _ _) | (with_reducible refine Vg.Grows.drewN ?_ _) | (with_reducible refine Vg.Grows.drew ?_) | (with_reducible refine Vg.Grows.setCell ?_ ?_ _) | (with_reducible refine Vg.Grows.put ?_ ?_ _) | omega | (simp; omega) | (simp; done)))
              rw [hwy]
              have HWY := Lib.hid hwy
              clear hwy
              go_loopw [27, 28] (fun su i wr => ∃ q : Nat, j ≤ q ∧ q ≤ k ∧ i = .int .i64 q ∧ su = .int .i64 (Vg.slen (A.take q) - Vg.slen (A.take j)) ∧ Vg.Grows wz wr) (fun _ i _ => k - (intOf i).toNat)
              case atStart => exact ⟨j, by omega, by omega, rfl, by rw [Int.sub_self], hgy⟩
              case round =>
                obtain ⟨q, hjq, hq, rfl, rfl, hg3⟩ := hrel
                by_cases hqk : q < k
                · have hqA : q < A.length := by rw [H_hAl.out]; exact hqk
                  have q1 := H_hrf.out
                  have q2 := H_hrt.out
                  have hhc : ∀ z, z < A.length → wr.cell? ⟨g1, o1 + z, none⟩ = some (.int .i64 (A[z]?.getD (0, 0)).1) ∧ wr.cell? ⟨g2, o2 + z, none⟩ = some (.int .i64 (A[z]?.getD (0, 0)).2) := fun z hz => by
                    obtain ⟨g1', o1', he1, hg1'', _, _, hx1⟩ := q1.open (by simp; omega)
                    obtain ⟨g2', o2', he2, hg2'', _, _, hx2⟩ := q2.open (by simp; omega)
                    simp only [Option.some.injEq, Addr.mk.injEq, and_true] at he1 he2
                    obtain ⟨rfl, rfl⟩ := he1
                    obtain ⟨rfl, rfl⟩ := he2
                    have a1 := hx1 z (by simp; exact hz)
                    have a2 := hx2 z (by simp; exact hz)
                    simp only [Vg.ics, List.getElem_map] at a1 a2
                    rw [List.getElem?_eq_getElem hz]
                    exact ⟨(hg3.below.cell (p := ⟨g1, o1 + z, none⟩) hg1).trans a1, (hg3.below.cell (p := ⟨g2, o2 + z, none⟩) hg2').trans a2⟩
                  obtain ⟨b3, b4⟩ := hhc q hqA
                  obtain ⟨b5, b6⟩ := hhc j hjA
                  rw [List.getElem?_eq_getElem hqA] at b3 b4
                  rw [List.getElem?_eq_getElem hjA, H_hx.out] at b5 b6
                  simp only [Option.getD_some] at b3 b4 b5 b6
                  have hgl3 : g1 < wr.heap.size := Nat.lt_of_lt_of_le hg1 hg3.size
                  have hgl4 : g2 < wr.heap.size := Nat.lt_of_lt_of_le hg2' hg3.size
                  have hst := Vg.slen_take A q hqA
                  have hq0 := H_hpre.out q
                  have hq1 := H_hpre.out (q + 1)
                  have hmo := H_hmon.out j q hjq
                  have hla := H_hlaw.out j q hqA hjq
                  have hps := H_hpos.out j q hqA hjq
                  have hyb := H_hAb.out A[q] (List.getElem_mem hqA)
                  have hyr := H_hrow2.out A[q] (List.getElem_mem hqA)
                  rw [H_hx.out] at hla hps
                  obtain ⟨y, hy⟩ : ∃ y, A[q] = y := ⟨_, rfl⟩
                  rw [hy] at b3 b4 hst hyb hyr hla hps
                  obtain ⟨yf, yt⟩ := y
                  simp only [] at b3 b4 hst hyb hyr hla hps
                  rw [H_hp.out] at hmo hla ⊢
                  obtain ⟨r, hr⟩ : ∃ r, Vg.slen (A.take q) = r := ⟨_, rfl⟩
                  rw [hr] at hst hq0 hmo ⊢
                  have hla' : r - p + (yt - yf) ≤ (yt - xf + pe - 1) / pe * bu := by omega
                  obtain ⟨qq, hqq⟩ : ∃ qq, (yt - xf + pe - 1) / pe = qq := ⟨_, rfl⟩
                  have hqq0 : 0 ≤ qq := by rw [← hqq]; exact Int.ediv_nonneg (by omega) (by omega)
                  have hqq1 : qq * pe ≤ yt - xf + pe - 1 := by rw [← hqq]; exact Int.ediv_mul_le _ (by omega)
                  have hqq2 : qq ≤ yt - xf + pe - 1 := by rw [← hqq]; exact Int.ediv_le_self _ (by omega)
                  have hqq3 : qq * bu ≤ qq * pe := Int.mul_le_mul_of_nonneg_left h2 hqq0
                  have hqq4 : 0 ≤ qq * bu := Int.mul_nonneg hqq0 (by omega)
                  have htd : (yt - xf + pe - 1).tdiv pe = qq := by rw [Int.tdiv_eq_ediv_of_nonneg (by omega)]; exact hqq
                  rw [hqq] at hla'
                  have hw3 : IntKind.i64.wrap (yt - yf) = yt - yf := by rw [IntWalk.i64_in _ (by omega)]
                  have hw4 : IntKind.i64.wrap (r - p + (yt - yf)) = r - p + (yt - yf) := by rw [IntWalk.i64_in _ (by omega)]
                  have hw5 : IntKind.i64.wrap (yt - xf) = yt - xf := by rw [IntWalk.i64_in _ (by omega)]
                  have hw6 : IntKind.i64.wrap (yt - xf + pe) = yt - xf + pe := by rw [IntWalk.i64_in _ (by omega)]
                  have hw7 : IntKind.i64.wrap (yt - xf + pe - 1) = yt - xf + pe - 1 := by rw [IntWalk.i64_in _ (by omega)]
                  have hw8 : IntKind.i64.wrap qq = qq := by rw [IntWalk.i64_in _ (by omega)]
                  have hw9 : IntKind.i64.wrap (qq * bu) = qq * bu := by rw [IntWalk.i64_in _ (by omega)]
                  have hst' : r - p + (yt - yf) = Vg.slen (A.take (q + 1)) - p := by omega
                  clear hst q1 q2 hhc
                  have H_hy := Lib.hid hy; clear hy; have H_hr := Lib.hid hr; clear hr; have H_hqq := Lib.hid hqq; clear hqq; have H_hst' := Lib.hid hst'; clear hst'
                  go_wp2_with fail
                  go_quiet (fail)
                  go_wp2_with fail
                  go_quiet (fail)
                  go_wp2_with fail
                  exact ⟨⟨q + 1, by omega, by omega, by go_num, by rw [← H_hst'.out], by (repeat' (first | (with_reducible exact Vg.Grows.refl _) | (with_reducible assumption) | (with_reducible refine Vg.Grows.alloc ?_ _) | (with_reducible refine Vg.Grows.plus ?_ _ _) | (with_reducible refine Vg.Grows.drewN ?_ _) | (with_reducible refine Vg.Grows.drew ?_) | (with_reducible refine Vg.Grows.setCell ?_ ?_ _) | (with_reducible refine Vg.Grows.put ?_ ?_ _) | omega | (simp; omega) | (simp; done)))⟩, by simp [intOf]; omega⟩
                · go_wp2_with fail
                  exact ⟨⟨j + 1, by omega, by go_num, by rw [← H_hst'.out], hg3⟩, by simp [intOf]; omega⟩
            · have hjk2 : j = k := by omega
              subst hjk2
              rw [H_hend.out]
              have hsb : Vg.slen A + W = E * cost := hsum
              have hbb : (Vg.slen A + W == E * cost) = true := by simp [hsb]
              have hp0 := H_hpre.out j
              rw [H_hend.out] at hp0
              obtain ⟨P, hP⟩ : ∃ P, Vg.slen A = P := ⟨_, rfl⟩
              rw [hP] at hbb hp0 hsb hsum ⊢
              have hw1 : IntKind.i64.wrap ((E : Int) * cost) = E * cost := by rw [IntWalk.i64_in _ (by omega)]
              obtain ⟨Q, hQ⟩ : ∃ Q, (now + pe) / pe = Q := ⟨_, rfl⟩
              have hQ0 : 0 ≤ Q := by rw [← hQ]; exact Int.ediv_nonneg (by omega) (by omega)
              have hQ1 : Q ≤ now + pe := by rw [← hQ]; exact Int.ediv_le_self _ (by omega)
              have hQ2 : 0 ≤ Q * (mn : Int) := Int.mul_nonneg hQ0 (by omega)
              have hQ3 : Q * (mn : Int) ≤ 71100000000000 * 64 := Int.mul_le_mul (by omega) (by omega) (by omega) (by omega)
              have hw2 : IntKind.i64.wrap (Q * (mn : Int)) = Q * mn := by rw [IntWalk.i64_in _ (by omega)]
              rw [hQ] at hcnt
              have htd : (now + pe) / pe = Q := hQ
              clear hsum hsb
              have H_hP := Lib.hid hP; clear hP; have H_hQ := Lib.hid hQ; clear hQ
              go_wp2_with fail
              go_ret
              exact ⟨by simp [*], hgr.trans hg2⟩
    · go_enter Try.func10, Try.ntmps10
      go_wp2_with (first | (go_at_call 51; refine (begins08 _).mono ?_; rintro e w' ⟨rfl, rfl⟩) | (go_at_call 27; refine (sa_new h1 h2 h3).mono ?_; rintro e w1 ⟨rfl, hs, rfl⟩; have HSA := Lib.hid hs; clear hs) | (go_at_call 16; refine (storm_new_no many pe (by omega)).mono ?_; rintro e w1 ⟨rfl, rfl⟩))
      go_ret
      exact ⟨rfl, by (repeat' (first | (with_reducible exact Vg.Grows.refl _) | (with_reducible assumption) | (with_reducible refine Vg.Grows.alloc ?_ _) | (with_reducible refine Vg.Grows.plus ?_ _ _) | (with_reducible refine Vg.Grows.drewN ?_ _) | (with_reducible refine Vg.Grows.drew ?_) | (with_reducible refine Vg.Grows.setCell ?_ ?_ _) | (with_reducible refine Vg.Grows.put ?_ ?_ _) | omega | (simp; omega) | (simp; done)))⟩
  · by_cases hmv : 1 ≤ many ∧ many ≤ 64 ∧ 1 ≤ pe ∧ pe ≤ 1099511627776
    · obtain ⟨m1, m2, m3, m4⟩ := hmv
      obtain ⟨mn, rfl⟩ : ∃ mn : Nat, many = mn := ⟨many.toNat, by omega⟩
      go_enter Try.func10, Try.ntmps10
      go_wp2_with (first | (go_at_call 51; refine (begins08 _).mono ?_; rintro e w' ⟨rfl, rfl⟩) | (go_at_call 27; refine (serv_new_no bu pe (by omega)).mono ?_; rintro e w1 ⟨rfl, rfl⟩) | (go_at_call 16; refine (ma_new mn pe (by omega) (by omega) (by omega) m4).mono ?_; rintro e w1 ⟨rfl, hs, rfl⟩; have HMA := Lib.hid hs; clear hs))
      go_ret
      exact ⟨rfl, by (repeat' (first | (with_reducible exact Vg.Grows.refl _) | (with_reducible assumption) | (with_reducible refine Vg.Grows.alloc ?_ _) | (with_reducible refine Vg.Grows.plus ?_ _ _) | (with_reducible refine Vg.Grows.drewN ?_ _) | (with_reducible refine Vg.Grows.drew ?_) | (with_reducible refine Vg.Grows.setCell ?_ ?_ _) | (with_reducible refine Vg.Grows.put ?_ ?_ _) | omega | (simp; omega) | (simp; done)))⟩
    · go_enter Try.func10, Try.ntmps10
      go_wp2_with (first | (go_at_call 51; refine (begins08 _).mono ?_; rintro e w' ⟨rfl, rfl⟩) | (go_at_call 27; refine (serv_new_no bu pe (by omega)).mono ?_; rintro e w1 ⟨rfl, rfl⟩) | (go_at_call 16; refine (storm_new_no many pe (by omega)).mono ?_; rintro e w1 ⟨rfl, rfl⟩))
      go_ret
      exact ⟨rfl, by (repeat' (first | (with_reducible exact Vg.Grows.refl _) | (with_reducible assumption) | (with_reducible refine Vg.Grows.alloc ?_ _) | (with_reducible refine Vg.Grows.plus ?_ _ _) | (with_reducible refine Vg.Grows.drewN ?_ _) | (with_reducible refine Vg.Grows.drew ?_) | (with_reducible refine Vg.Grows.setCell ?_ ?_ _) | (with_reducible refine Vg.Grows.put ?_ ?_ _) | omega | (simp; omega) | (simp; done)))⟩
end Go.Proofs.Ytlgkcpgmnpoanaa
