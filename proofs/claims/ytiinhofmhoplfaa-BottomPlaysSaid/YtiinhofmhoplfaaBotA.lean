/- Package bottom: has, Put, Waiting, Lost, Able, Left, Run. -/
import Derived.Test.YtiinhofmhoplfaaBot
set_option linter.unusedSimpArgs false
set_option linter.unusedVariables false
set_option maxHeartbeats 2000000
set_option maxRecDepth 100000
namespace Vg
open Go
theorem Touch.next {w w2 w3 : World} {t t' : Nat → Prop} (h1 : Touch t w w2) (h2 : Touch t' w2 w3) (hn : ∀ k, t' k → t k ∨ w.heap.size ≤ k) : Touch t w w3 :=
  ⟨h2.os.trans h1.os, h2.tape.trans h1.tape, h2.output.trans h1.output, Nat.le_trans h1.size h2.size, fun k hk ht => (h2.block k (Nat.lt_of_lt_of_le hk h1.size) fun hh => by
    rcases hn k hh with h | h
    · exact ht h
    · omega).trans (h1.block k hk ht)⟩
end Vg
namespace Go.Proofs.Ytiinhofmhoplfaa
open Go.ChangeShapes Go.WideShapes Go.ChangeAt Go.RowKit
/-- What a call that writes leaves. -/
def BTn (w w' : World) (b : Nat) (xs : List Vg.Bt) (rv : Value) (wb : Nat) (Q' : List Vg.Wq) (wv : Value) (O : Nat → Prop) (Bs' : List Vg.Bp) : Prop :=
  ∃ xs' O', BT w' b xs' rv wb Q' wv O' ∧ xs'.map (·.p) = Bs' ∧ (∀ k, bown b xs' rv wb O' k → bown b xs rv wb O k ∨ w.heap.size ≤ k) ∧ Vg.Touch (bown b xs rv wb O) w w'
section
variable {w w' : World} {b wb n : Nat} {xs : List Vg.Bt} {rv wv : Value} {Q Q' : List Vg.Wq} {O : Nat → Prop} {x r : Int} {is : Bool} {Bs' : List Vg.Bp}
theorem BTn.same (h : BT w b xs rv wb Q wv O) (hg : Vg.Grows w w') : BTn w w' b xs rv wb Q wv O (xs.map (·.p)) := ⟨xs, O, h.grows hg, rfl, fun k hk => .inl hk, Vg.Touch.of_grows hg⟩
theorem bot_has (i : Int) (h : BT w b xs rv wb Q wv O) (hn : xs.length = n) {is : Bool} (his : decide (0 ≤ i ∧ i < (n : Int)) = is) :
    Calls Try.prog 102 #[.pointer (some ⟨b, 0, none⟩), .int .i64 i] w fun e w' => e = .returned (.bool is) ∧ w = w' := by
  subst his
  obtain ⟨a, c, rfl⟩ := h.shp
  have c0 := Vg.cells_of h.tab 0
  simp at c0
  rw [hn] at c0
  clear h hn
  by_cases h0 : i < 0
  · go_enter Try.func102, Try.ntmps102
    go_wp2
    go_ret
    exact ⟨ret_bool (by simp <;> omega), rfl⟩
  · by_cases h1 : i < n
    · go_enter Try.func102, Try.ntmps102
      go_wp2
      go_ret
      exact ⟨ret_bool (by simp <;> omega), rfl⟩
    · go_enter Try.func102, Try.ntmps102
      go_wp2
      go_ret
      exact ⟨ret_bool (by simp <;> omega), rfl⟩
theorem bot_wait (i : Int) (h : BT w b xs rv wb Q wv O) (hx : Vg.Bo.wait xs.length Q i = x) :
    Calls Try.prog 61 #[.pointer (some ⟨b, 0, none⟩), .int .i64 i] w fun e w' => e = .returned (.int .i64 x) ∧ w = w' := by
  by_cases hi : i < 0 ∨ (xs.length : Int) ≤ i
  · rw [Vg.Bo.wait_out hi] at hx
    subst hx
    have hd : decide (0 ≤ i ∧ i < (xs.length : Int)) = false := by simp; omega
    have H_h := Lib.hid h; clear h; have H_hd := Lib.hid hd; clear hd
    go_enter Try.func61, Try.ntmps61
    go_wp2_with ((go_at_call 102; refine (bot_has i H_h.out rfl H_hd.out).mono ?_; rintro e w1 ⟨rfl, rfl⟩))
    go_ret
    exact ⟨rfl, rfl⟩
  · have hd : decide (0 ≤ i ∧ i < (xs.length : Int)) = true := by simp; omega
    unfold Vg.Bo.wait at hx
    rw [if_neg hi] at hx
    have c1 := Vg.cells_of h.tab 1
    simp at c1
    have H_h := Lib.hid h; clear h; have H_hd := Lib.hid hd; clear hd; have H_hx := Lib.hid hx; clear hx
    go_enter Try.func61, Try.ntmps61
    go_wp2_with (first | (go_at_call 102; refine (bot_has i H_h.out rfl H_hd.out).mono ?_; rintro e w1 ⟨rfl, rfl⟩) | (go_at_call 26; refine (ws_waiting i H_h.out.wrk H_hx.out).mono ?_; rintro e w1 ⟨rfl, rfl⟩))
    go_ret
    exact ⟨rfl, rfl⟩
theorem bot_lost (i : Int) (h : BT w b xs rv wb Q wv O) (hx : Vg.Bo.lost xs.length Q i = x) :
    Calls Try.prog 62 #[.pointer (some ⟨b, 0, none⟩), .int .i64 i] w fun e w' => e = .returned (.int .i64 x) ∧ w = w' := by
  by_cases hi : i < 0 ∨ (xs.length : Int) ≤ i
  · rw [Vg.Bo.lost_out hi] at hx
    subst hx
    have hd : decide (0 ≤ i ∧ i < (xs.length : Int)) = false := by simp; omega
    have H_h := Lib.hid h; clear h; have H_hd := Lib.hid hd; clear hd
    go_enter Try.func62, Try.ntmps62
    go_wp2_with ((go_at_call 102; refine (bot_has i H_h.out rfl H_hd.out).mono ?_; rintro e w1 ⟨rfl, rfl⟩))
    go_ret
    exact ⟨rfl, rfl⟩
  · have hd : decide (0 ≤ i ∧ i < (xs.length : Int)) = true := by simp; omega
    unfold Vg.Bo.lost at hx
    rw [if_neg hi] at hx
    have c1 := Vg.cells_of h.tab 1
    simp at c1
    have H_h := Lib.hid h; clear h; have H_hd := Lib.hid hd; clear hd; have H_hx := Lib.hid hx; clear hx
    go_enter Try.func62, Try.ntmps62
    go_wp2_with (first | (go_at_call 102; refine (bot_has i H_h.out rfl H_hd.out).mono ?_; rintro e w1 ⟨rfl, rfl⟩) | (go_at_call 27; refine (ws_lost i H_h.out.wrk H_hx.out).mono ?_; rintro e w1 ⟨rfl, rfl⟩))
    go_ret
    exact ⟨rfl, rfl⟩
theorem bot_put (i c : Int) (h : BT w b xs rv wb Q wv O) (hQ : ∀ q ∈ Q, q.ok) (hx : Vg.Bo.put xs.length Q i c = (Q', r)) :
    Calls Try.prog 48 #[.pointer (some ⟨b, 0, none⟩), .int .i64 i, .int .i64 c] w fun e w' => e = .returned (.int .i64 r) ∧ BTn w w' b xs rv wb Q' wv O (xs.map (·.p)) := by
  by_cases hi : i < 0 ∨ (xs.length : Int) ≤ i
  · rw [Vg.Bo.put_out hi] at hx
    simp only [Prod.mk.injEq] at hx
    obtain ⟨rfl, rfl⟩ := hx
    have hd : decide (0 ≤ i ∧ i < (xs.length : Int)) = false := by simp; omega
    have H_h := Lib.hid h; clear h; have H_hd := Lib.hid hd; clear hd; have H_hQ := Lib.hid hQ; clear hQ
    go_enter Try.func48, Try.ntmps48
    go_wp2_with ((go_at_call 102; refine (bot_has i H_h.out rfl H_hd.out).mono ?_; rintro e w1 ⟨rfl, rfl⟩))
    go_ret
    exact ⟨rfl, BTn.same H_h.out (Vg.Grows.refl _)⟩
  · have hd : decide (0 ≤ i ∧ i < (xs.length : Int)) = true := by simp; omega
    unfold Vg.Bo.put at hx
    rw [if_neg hi] at hx
    have c1 := Vg.cells_of h.tab 1
    simp at c1
    have H_h := Lib.hid h; clear h; have H_hd := Lib.hid hd; clear hd; have H_hx := Lib.hid hx; clear hx; have H_hQ := Lib.hid hQ; clear hQ
    go_enter Try.func48, Try.ntmps48
    go_wp2_with (first | (go_at_call 102; refine (bot_has i H_h.out rfl H_hd.out).mono ?_; rintro e w1 ⟨rfl, rfl⟩) | (go_at_call 20; refine (ws_put i c H_h.out.wrk H_hQ.out H_hx.out).mono ?_; rintro e w1 ⟨rfl, hn⟩; have HN := Lib.hid hn; clear hn))
    go_ret
    obtain ⟨O', h1, h2, h3⟩ := H_h.out.work HN.out
    exact ⟨rfl, xs, O', h1, rfl, h2, h3⟩
theorem bot_able (i : Int) (h : BT w b xs rv wb Q wv O) {is : Bool} (hx : Vg.Bo.able (xs.map (·.p)) Q i = is) :
    Calls Try.prog 57 #[.pointer (some ⟨b, 0, none⟩), .int .i64 i] w fun e w' => e = .returned (.bool is) ∧ w = w' := by
  subst hx
  by_cases ho : i < 0 ∨ (xs.length : Int) ≤ i
  · rw [Vg.Bo.able_out (by simpa using ho)]
    have hw := Vg.Bo.wait_out (Q := Q) ho
    have H_h := Lib.hid h; clear h; have H_hw := Lib.hid hw; clear hw
    go_enter Try.func57, Try.ntmps57
    go_wp2_with ((go_at_call 61; refine (bot_wait i H_h.out H_hw.out).mono ?_; rintro e w1 ⟨rfl, rfl⟩))
    go_ret
    exact ⟨rfl, rfl⟩
  · obtain ⟨j, rfl⟩ : ∃ j : Nat, i = j := ⟨i.toNat, by omega⟩
    have hj : j < xs.length := by omega
    rw [Vg.Bo.able_in (by simpa using hj), List.getElem_map]
    obtain ⟨wt, hwt⟩ : ∃ wt, Vg.Wk.waiting Q j = wt := ⟨_, rfl⟩
    have hw : Vg.Bo.wait xs.length Q j = wt := by rw [Vg.Bo.wait_in hj]; exact hwt
    rw [hwt]
    obtain ⟨a, c, rfl⟩ := h.shp
    have c0 := Vg.cells_of h.tab 0
    simp at c0
    have hs := h.srv j hj
    obtain ⟨g, o, rfl, hg, hcc, hcm, d0, d1, d2, d3, d4⟩ := h.row.thread rfl j hj
    obtain ⟨lf, hlf⟩ : ∃ lf, xs[j].p.s.left xs[j].p.t.bu = lf := ⟨_, rfl⟩
    rw [hlf]
    obtain ⟨sb, hsb⟩ : ∃ sb, xs[j].sb = sb := ⟨_, rfl⟩
    rw [hsb] at d4 hs
    obtain ⟨n, hn⟩ : ∃ n, xs.length = n := ⟨_, rfl⟩
    have hj0 : (0 : Int) ≤ j := by omega
    have hj1 : (j : Int) < n := by omega
    have hjn : j < n := by omega
    have hb := h
    rw [hn] at c0 hcc
    clear d0 d1 d2 d3
    by_cases hp : 0 < wt
    · have H_h := Lib.hid h; clear h; have H_hw := Lib.hid hw; clear hw; have H_hwt := Lib.hid hwt; clear hwt; have H_hs := Lib.hid hs; clear hs; have H_hlf := Lib.hid hlf; clear hlf; have H_hsb := Lib.hid hsb; clear hsb; have H_hn := Lib.hid hn; clear hn; have H_hb := Lib.hid hb; clear hb
      go_enter Try.func57, Try.ntmps57
      go_wp2_with (first | (go_at_call 61; refine (bot_wait j H_h.out H_hw.out).mono ?_; rintro e w1 ⟨rfl, rfl⟩) | (go_at_call 110; refine (sa_left H_hs.out).mono ?_; rintro e w1 ⟨rfl, rfl⟩; rw [H_hlf.out]))
      go_ret
      exact ⟨ret_bool (by simp [hp]), rfl⟩
    · have H_h := Lib.hid h; clear h; have H_hw := Lib.hid hw; clear hw; have H_hwt := Lib.hid hwt; clear hwt; have H_hs := Lib.hid hs; clear hs; have H_hlf := Lib.hid hlf; clear hlf; have H_hsb := Lib.hid hsb; clear hsb; have H_hn := Lib.hid hn; clear hn; have H_hb := Lib.hid hb; clear hb
      go_enter Try.func57, Try.ntmps57
      go_wp2_with (first | (go_at_call 61; refine (bot_wait j H_h.out H_hw.out).mono ?_; rintro e w1 ⟨rfl, rfl⟩) | (go_at_call 110; refine (sa_left H_hs.out).mono ?_; rintro e w1 ⟨rfl, rfl⟩; rw [H_hlf.out]))
      go_ret
      exact ⟨ret_bool (by simp; omega), rfl⟩
theorem bot_left (i : Int) (h : BT w b xs rv wb Q wv O) (hx : Vg.Bo.left (xs.map (·.p)) Q i = x) :
    Calls Try.prog 59 #[.pointer (some ⟨b, 0, none⟩), .int .i64 i] w fun e w' => e = .returned (.int .i64 x) ∧ ∃ k, w' = w.drewN k := by
  subst hx
  cases hab : Vg.Bo.able (xs.map (·.p)) Q i with
  | false =>
    rw [Vg.Bo.left_no hab]
    have H_h := Lib.hid h; clear h; have H_hab := Lib.hid hab; clear hab
    go_enter Try.func59, Try.ntmps59
    go_wp2_with ((go_at_call 57; refine (bot_able i H_h.out H_hab.out).mono ?_; rintro e w1 ⟨rfl, rfl⟩))
    go_ret
    exact ⟨rfl, 0, rfl⟩
  | true =>
    have ho : ¬ (i < 0 ∨ (xs.length : Int) ≤ i) := fun hh => by rw [Vg.Bo.able_out (by simpa using hh)] at hab; cases hab
    obtain ⟨j, rfl⟩ : ∃ j : Nat, i = j := ⟨i.toNat, by omega⟩
    have hj : j < xs.length := by omega
    rw [Vg.Bo.left_in (by simpa using hj), if_pos hab, List.getElem_map]
    obtain ⟨wl, hwl⟩ : ∃ wl, Vg.Wk.left Q j = wl := ⟨_, rfl⟩
    rw [hwl]
    obtain ⟨a, c, rfl⟩ := h.shp
    have c0 := Vg.cells_of h.tab 0
    have c1 := Vg.cells_of h.tab 1
    simp at c0 c1
    have hs := h.srv j hj
    obtain ⟨g, o, rfl, hg, hcc, hcm, d0, d1, d2, d3, d4⟩ := h.row.thread rfl j hj
    obtain ⟨lf, hlf⟩ : ∃ lf, xs[j].p.s.left xs[j].p.t.bu = lf := ⟨_, rfl⟩
    rw [hlf]
    obtain ⟨sb, hsb⟩ : ∃ sb, xs[j].sb = sb := ⟨_, rfl⟩
    rw [hsb] at d4 hs
    obtain ⟨n, hn⟩ : ∃ n, xs.length = n := ⟨_, rfl⟩
    have hj0 : (0 : Int) ≤ j := by omega
    have hj1 : (j : Int) < n := by omega
    have hjn : j < n := by omega
    rw [hn] at c0 hcc
    clear d0 d1 d2 d3
    have hcase : (wl < lf ∧ min wl lf = wl) ∨ (¬ wl < lf ∧ min wl lf = lf) := by omega
    rcases hcase with ⟨hm1, hm2⟩ | ⟨hm1, hm2⟩
    all_goals
      rw [hm2]
      have H_h := Lib.hid h; clear h; have H_hwl := Lib.hid hwl; clear hwl; have H_hs := Lib.hid hs; clear hs; have H_hlf := Lib.hid hlf; clear hlf; have H_hsb := Lib.hid hsb; clear hsb; have H_hn := Lib.hid hn; clear hn; have H_hab := Lib.hid hab; clear hab; have H_hm2 := Lib.hid hm2; clear hm2
      go_enter Try.func59, Try.ntmps59
      go_wp2_with ((go_at_call 57; refine (bot_able j H_h.out H_hab.out).mono ?_; rintro e w1 ⟨rfl, rfl⟩))
      go_region_with (first | (go_at_call 25; refine (ws_left j (H_h.out.wrk.grows (by (repeat' (first | (with_reducible exact Vg.Grows.refl _) | (with_reducible assumption) | (with_reducible refine Vg.Grows.alloc ?_ _) | (with_reducible refine Vg.Grows.plus ?_ _ _) | (with_reducible refine Vg.Grows.drewN ?_ _) | (with_reducible refine Vg.Grows.drew ?_) | (with_reducible refine Vg.Grows.setCell ?_ ?_ _) | (with_reducible refine Vg.Grows.put ?_ ?_ _) | omega | (simp; omega) | (simp; done))))) H_hwl.out).mono ?_; rintro e w1 ⟨rfl, rfl⟩) | (go_at_call 110; refine (sa_left (H_hs.out.grows (by (repeat' (first | (with_reducible exact Vg.Grows.refl _) | (with_reducible assumption) | (with_reducible refine Vg.Grows.alloc ?_ _) | (with_reducible refine Vg.Grows.plus ?_ _ _) | (with_reducible refine Vg.Grows.drewN ?_ _) | (with_reducible refine Vg.Grows.drew ?_) | (with_reducible refine Vg.Grows.setCell ?_ ?_ _) | (with_reducible refine Vg.Grows.put ?_ ?_ _) | omega | (simp; omega) | (simp; done)))))).mono ?_; rintro e w1 ⟨rfl, rfl⟩; rw [H_hlf.out]))
      all_goals go_wp2
      all_goals go_ret
      all_goals exact ⟨ret_int (by omega), _, rfl⟩
end
end Go.Proofs.Ytiinhofmhoplfaa
