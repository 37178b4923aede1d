/- Law 17: queues as one plain state ('WS'); lives. -/
import Derived.Test.YtiinhofmhoplfaaWorkN
set_option linter.unusedSimpArgs false
set_option linter.unusedVariables false
set_option maxHeartbeats 2000000
set_option maxRecDepth 100000
namespace Go.Proofs.Ytiinhofmhoplfaa
open Go.ChangeShapes Go.WideShapes Go.ChangeAt Go.RowKit
/-- Queues at block b show the state Q; their rows lie in blocks of O. -/
structure WS (w : World) (b B : Nat) (Q : List Vg.Wq) (v : Value) (O : Nat → Prop) : Prop where
  ex : ∃ qs, WK w b B qs v ∧ qs.map (·.2) = Q ∧ ∀ k, wown v qs k → O k
  hb : b < B
  hB : B ≤ w.heap.size
  own : ∀ k, O k → B ≤ k ∧ k < w.heap.size
section
variable {w w' w0 : World} {b B : Nat} {Q Q' : List Vg.Wq} {v : Value} {O : Nat → Prop} {r x : Int} {is : Bool}
theorem WS.grows (h : WS w b B Q v O) (hg : Vg.Grows w w') : WS w' b B Q v O := by
  obtain ⟨⟨qs, h1, h2, h3⟩, h4, h5, h6⟩ := h
  exact ⟨⟨qs, h1.grows hg, h2, h3⟩, h4, Nat.le_trans h5 hg.size, fun k hk => ⟨(h6 k hk).1, Nat.lt_of_lt_of_le (h6 k hk).2 hg.size⟩⟩
theorem WS.touch {t : Nat → Prop} (h : WS w b B Q v O) (ht : Vg.Touch t w w') (hb : ¬ t b) (hv : ∀ k, O k → ¬ t k) : WS w' b B Q v O := by
  obtain ⟨⟨qs, h1, h2, h3⟩, h4, h5, h6⟩ := h
  exact ⟨⟨qs, h1.touch ht hb fun k hk => hv k (h3 k hk), h2, h3⟩, h4, Nat.le_trans h5 ht.size, fun k hk => ⟨(h6 k hk).1, Nat.lt_of_lt_of_le (h6 k hk).2 ht.size⟩⟩
theorem WS.grown (h : WS w b B Q v O) (hg : Vg.Grows w0 w) (hB : w0.heap.size ≤ B) (ht : Vg.Touch O w w') : Vg.Grows w0 w' :=
  ht.gr hg fun k hk => Nat.le_trans hB (h.own k hk).1
/-- What a call that writes leaves. -/
def WSn (w w' : World) (b B : Nat) (Q' : List Vg.Wq) (v : Value) (O : Nat → Prop) : Prop :=
  ∃ O', WS w' b B Q' v O' ∧ (∀ k, O' k → O k ∨ w.heap.size ≤ k) ∧ Vg.Touch O w w'
theorem WSn.of {qs : List Vg.Wp} (h : WK w b B qs v) (hb : b < B) (hB : B ≤ w.heap.size) (ho : ∀ k, wown v qs k → O k) (hn : WKn w w' b B qs v Q') : WSn w w' b B Q' v O := by
  obtain ⟨qs', h1, h2, h3, h4⟩ := hn
  refine ⟨wown v qs', ⟨⟨qs', h1, h2, fun k hk => hk⟩, hb, Nat.le_trans hB h3.size, h1.own⟩, fun k hk => ?_, h3.mono fun k _ hk => ho k hk⟩
  rcases h4 k hk with h5 | h5
  · exact .inl (ho k h5)
  · exact .inr h5
theorem ok_of {qs : List Vg.Wp} (h : qs.map (·.2) = Q) (hQ : ∀ q ∈ Q, q.ok) : ∀ i (hi : i < qs.length), qs[i].2.ok := fun i hi => hQ _ (by rw [← h]; exact List.mem_map.2 ⟨qs[i], List.getElem_mem _, rfl⟩)
theorem ws_put (m cost : Int) (h : WS w b B Q v O) (hQ : ∀ q ∈ Q, q.ok) (hp : Vg.Wk.put Q m cost = (Q', r)) :
    Calls Try.prog 20 #[.pointer (some ⟨b, 0, none⟩), .int .i64 m, .int .i64 cost] w fun e w' => e = .returned (.int .i64 r) ∧ WSn w w' b B Q' v O := by
  obtain ⟨⟨qs, h1, h2, h3⟩, h4, h5, h6⟩ := h
  have := wk_put m cost h1 h4 h5 (ok_of h2 hQ)
  rw [h2, hp] at this
  refine this.mono ?_
  rintro e w' ⟨rfl, hn⟩
  exact ⟨rfl, WSn.of h1 h4 h5 h3 hn⟩
theorem ws_go (m c : Int) (h : WS w b B Q v O) (hQ : ∀ q ∈ Q, q.ok) (hp : Vg.Wk.go Q m c = (Q', is, r)) :
    Calls Try.prog 22 #[.pointer (some ⟨b, 0, none⟩), .int .i64 m, .int .i64 c] w fun e w' => e = .returned (.tuple #[.bool is, .int .i64 r]) ∧ WSn w w' b B Q' v O := by
  obtain ⟨⟨qs, h1, h2, h3⟩, h4, h5, h6⟩ := h
  have := wk_go m c h1 h4 h5 (ok_of h2 hQ)
  rw [h2, hp] at this
  refine this.mono ?_
  rintro e w' ⟨rfl, hn⟩
  exact ⟨rfl, WSn.of h1 h4 h5 h3 hn⟩
theorem ws_left (m : Int) (h : WS w b B Q v O) (hx : Vg.Wk.left Q m = x) :
    Calls Try.prog 25 #[.pointer (some ⟨b, 0, none⟩), .int .i64 m] w fun e w' => e = .returned (.int .i64 x) ∧ w = w' := by
  obtain ⟨⟨qs, h1, h2, h3⟩, h4, h5, h6⟩ := h
  have := wk_left m h1
  rw [h2, hx] at this
  exact this
theorem ws_waiting (m : Int) (h : WS w b B Q v O) (hx : Vg.Wk.waiting Q m = x) :
    Calls Try.prog 26 #[.pointer (some ⟨b, 0, none⟩), .int .i64 m] w fun e w' => e = .returned (.int .i64 x) ∧ w = w' := by
  obtain ⟨⟨qs, h1, h2, h3⟩, h4, h5, h6⟩ := h
  have := wk_waiting m h1
  rw [h2, hx] at this
  exact this
theorem ws_lost (m : Int) (h : WS w b B Q v O) (hx : Vg.Wk.lost Q m = x) :
    Calls Try.prog 27 #[.pointer (some ⟨b, 0, none⟩), .int .i64 m] w fun e w' => e = .returned (.int .i64 x) ∧ w = w' := by
  obtain ⟨⟨qs, h1, h2, h3⟩, h4, h5, h6⟩ := h
  have := wk_lost m h1
  rw [h2, hx] at this
  exact this
theorem ws_first (h : WS w b B Q v O) (hr : Vg.Wk.fidx Q = r) (hlo : -1 ≤ r) (hhi : r ≤ 1000000) {m : Int} {is : Bool} (hm : max r 0 = m) (hd : decide (0 ≤ r) = is) :
    Calls Try.prog 23 #[.pointer (some ⟨b, 0, none⟩)] w fun e w' => e = .returned (.tuple #[.int .i64 m, .bool is]) ∧ Vg.Grows w w' := by
  obtain ⟨⟨qs, h1, h2, h3⟩, h4, h5, h6⟩ := h
  subst hm hd
  exact wk_first h1 (by rw [h2]; exact hr) hlo hhi
theorem ws_new {L : List Int} {sa : Option Addr} {sc n : Nat} (hn : L.length = n) (hr : Vg.IR w sa sc L) (h0 : 1 ≤ L.length) (h1 : L.length ≤ 64) (h2 : L.any Vg.oddW = false) (hQ : (L.map fun d => (⟨[], d, 0⟩ : Vg.Wq)) = Q) :
    Calls Try.prog 16 #[.slice sa n sc] w fun e w' => ∃ v O, e = .returned (.tuple #[.pointer (some ⟨w.heap.size, 0, none⟩), .int .i64 0]) ∧ WS w' w.heap.size (w.heap.size + 1) Q v O ∧ Vg.Grows w w' := by
  subst hn
  refine (work_new hr h0 h1 h2).mono ?_
  rintro e w' ⟨v, rfl, hk, hg⟩
  refine ⟨v, wown v (L.map Vg.wq0), rfl, ⟨⟨_, hk, ?_, fun k hk => hk⟩, Nat.lt_succ_self _, hk.lt, hk.own⟩, hg⟩
  rw [List.map_map, ← hQ]
  rfl
theorem ws_new_no {L : List Int} {sa : Option Addr} {sc n : Nat} (hn : L.length = n) (hr : Vg.IR w sa sc L) (h : L.length = 0 ∨ 64 < L.length ∨ L.any Vg.oddW = true) :
    Calls Try.prog 16 #[.slice sa n sc] w fun e w' => e = .returned (.tuple #[.pointer none, .int .i64 1]) ∧ w = w' := by
  subst hn
  exact work_new_no hr h
end
theorem lives17 (w : World) : Calls Try.prog 15 #[] w fun e w' => e = .returned (.bool true) ∧ Vg.Grows w w' := by
  have o1 : [(1 : Int), 2].any Vg.oddW = false := by decide
  have H_o1 := Lib.hid o1; clear o1
  go_enter Try.func15, Try.ntmps15
  go_wp2_with fail
  refine (ws_new (L := [1, 2]) (Q := [⟨[], 1, 0⟩, ⟨[], 2, 0⟩]) rfl (Vg.IR.block (L := [1, 2]) (Vg.alloc_heap_at (by (try simp only [World.size_alloc, Vg.plus_size, Vg.put_size, World.size_setCell, World.size_drew]) <;> omega)) (by simp [maxLen])) (by decide) (by decide) H_o1.out rfl).mono ?_
  rintro e w1 ⟨v, O, rfl, hs1, hg1'⟩
  obtain ⟨b, hb⟩ : ∃ b, w.heap.size + 1 = b := ⟨_, rfl⟩
  have hg1 : Vg.Grows w w1 := ((Vg.Grows.refl w).alloc _).trans hg1'
  have hbB : w.heap.size ≤ b + 1 := by omega
  simp only [World.size_alloc, hb] at hs1 ⊢
  have H_hs1 := Lib.hid hs1; clear hs1; have H_hb := Lib.hid hb; clear hb
  clear hg1'
  go_wp2_with fail
  refine (ws_new_no (L := []) rfl (Vg.IR.nil _) (.inl rfl)).mono ?_
  rintro e w1' ⟨rfl, rfl⟩
  have e2 : Vg.Wk.put [⟨[], 1, 0⟩, ⟨[], 2, 0⟩] 0 5 = ([⟨[5], 1, 0⟩, ⟨[], 2, 0⟩], 0) := by rfl
  have k2 : ∀ q ∈ ([⟨[], 1, 0⟩, ⟨[], 2, 0⟩] : List Vg.Wq), q.ok := by simp [Vg.Wq.ok]
  have H_e2 := Lib.hid e2; clear e2; have H_k2 := Lib.hid k2; clear k2
  go_wp2_with fail
  refine (ws_put (0) (5) H_hs1.out H_k2.out H_e2.out).mono ?_
  rintro e w2 ⟨rfl, O2, hs2, -, ht2⟩
  have hg2 := WS.grown H_hs1.out hg1 hbB ht2
  have H_hs2 := Lib.hid hs2; clear hs2
  clear ht2
  have e3 : Vg.Wk.put [⟨[5], 1, 0⟩, ⟨[], 2, 0⟩] 0 6 = ([⟨[5], 1, 1⟩, ⟨[], 2, 0⟩], 5) := by rfl
  have k3 : ∀ q ∈ ([⟨[5], 1, 0⟩, ⟨[], 2, 0⟩] : List Vg.Wq), q.ok := by simp [Vg.Wq.ok]
  have H_e3 := Lib.hid e3; clear e3; have H_k3 := Lib.hid k3; clear k3
  go_wp2_with fail
  refine (ws_put (0) (6) H_hs2.out H_k3.out H_e3.out).mono ?_
  rintro e w3 ⟨rfl, O3, hs3, -, ht3⟩
  have hg3 := WS.grown H_hs2.out hg2 hbB ht3
  have H_hs3 := Lib.hid hs3; clear hs3
  clear ht3
  have e4 : Vg.Wk.put [⟨[5], 1, 1⟩, ⟨[], 2, 0⟩] 2 6 = ([⟨[5], 1, 1⟩, ⟨[], 2, 0⟩], 1) := by rfl
  have k4 : ∀ q ∈ ([⟨[5], 1, 1⟩, ⟨[], 2, 0⟩] : List Vg.Wq), q.ok := by simp [Vg.Wq.ok]
  have H_e4 := Lib.hid e4; clear e4; have H_k4 := Lib.hid k4; clear k4
  go_wp2_with fail
  refine (ws_put (2) (6) H_hs3.out H_k4.out H_e4.out).mono ?_
  rintro e w4 ⟨rfl, O4, hs4, -, ht4⟩
  have hg4 := WS.grown H_hs3.out hg3 hbB ht4
  have H_hs4 := Lib.hid hs4; clear hs4
  clear ht4
  have e5 : Vg.Wk.fidx [⟨[5], 1, 1⟩, ⟨[], 2, 0⟩] = 0 := by rfl
  have H_e5 := Lib.hid e5; clear e5
  go_wp2_with fail
  refine (ws_first (m := 0) (is := true) H_hs4.out H_e5.out (by decide) (by decide) (by decide) (by decide)).mono ?_
  rintro e w5 ⟨rfl, hgl5⟩
  have hs5 := H_hs4.out.grows hgl5
  have hg5 := hg4.trans hgl5
  have H_hs5 := Lib.hid hs5; clear hs5
  clear hgl5
  have e6 : Vg.Wk.go [⟨[5], 1, 1⟩, ⟨[], 2, 0⟩] 0 3 = ([⟨[2], 1, 1⟩, ⟨[], 2, 0⟩], false, 0) := by rfl
  have k6 : ∀ q ∈ ([⟨[5], 1, 1⟩, ⟨[], 2, 0⟩] : List Vg.Wq), q.ok := by simp [Vg.Wq.ok]
  have H_e6 := Lib.hid e6; clear e6; have H_k6 := Lib.hid k6; clear k6
  go_wp2_with fail
  refine (ws_go (0) (3) H_hs5.out H_k6.out H_e6.out).mono ?_
  rintro e w6 ⟨rfl, O6, hs6, -, ht6⟩
  have hg6 := WS.grown H_hs5.out hg5 hbB ht6
  have H_hs6 := Lib.hid hs6; clear hs6
  clear ht6
  have e7 : Vg.Wk.left [⟨[2], 1, 1⟩, ⟨[], 2, 0⟩] 0 = 2 := by rfl
  have H_e7 := Lib.hid e7; clear e7
  go_wp2_with fail
  refine (ws_left 0 H_hs6.out H_e7.out).mono ?_
  rintro e w7 ⟨rfl, rfl⟩
  have e8 : Vg.Wk.go [⟨[2], 1, 1⟩, ⟨[], 2, 0⟩] 0 2 = ([⟨[], 1, 1⟩, ⟨[], 2, 0⟩], true, 0) := by rfl
  have k8 : ∀ q ∈ ([⟨[2], 1, 1⟩, ⟨[], 2, 0⟩] : List Vg.Wq), q.ok := by simp [Vg.Wq.ok]
  have H_e8 := Lib.hid e8; clear e8; have H_k8 := Lib.hid k8; clear k8
  go_wp2_with fail
  refine (ws_go (0) (2) H_hs6.out H_k8.out H_e8.out).mono ?_
  rintro e w8 ⟨rfl, O8, hs8, -, ht8⟩
  have hg8 := WS.grown H_hs6.out hg6 hbB ht8
  have H_hs8 := Lib.hid hs8; clear hs8
  clear ht8
  have e9 : Vg.Wk.go [⟨[], 1, 1⟩, ⟨[], 2, 0⟩] 0 1 = ([⟨[], 1, 1⟩, ⟨[], 2, 0⟩], false, 7) := by rfl
  have k9 : ∀ q ∈ ([⟨[], 1, 1⟩, ⟨[], 2, 0⟩] : List Vg.Wq), q.ok := by simp [Vg.Wq.ok]
  have H_e9 := Lib.hid e9; clear e9; have H_k9 := Lib.hid k9; clear k9
  go_wp2_with fail
  refine (ws_go (0) (1) H_hs8.out H_k9.out H_e9.out).mono ?_
  rintro e w9 ⟨rfl, O9, hs9, -, ht9⟩
  have hg9 := WS.grown H_hs8.out hg8 hbB ht9
  have H_hs9 := Lib.hid hs9; clear hs9
  clear ht9
  have e10 : Vg.Wk.fidx [⟨[], 1, 1⟩, ⟨[], 2, 0⟩] = -1 := by rfl
  have H_e10 := Lib.hid e10; clear e10
  go_wp2_with fail
  refine (ws_first (m := 0) (is := false) H_hs9.out H_e10.out (by decide) (by decide) (by decide) (by decide)).mono ?_
  rintro e w10 ⟨rfl, hgl10⟩
  have hs10 := H_hs9.out.grows hgl10
  have hg10 := hg9.trans hgl10
  have H_hs10 := Lib.hid hs10; clear hs10
  clear hgl10
  have e11 : Vg.Wk.waiting [⟨[], 1, 1⟩, ⟨[], 2, 0⟩] 0 = 0 := by rfl
  have e12 : Vg.Wk.lost [⟨[], 1, 1⟩, ⟨[], 2, 0⟩] 0 = 1 := by rfl
  have H_e11 := Lib.hid e11; clear e11; have H_e12 := Lib.hid e12; clear e12
  go_wp2_with (first | (go_at_call 26; refine (ws_waiting 0 (H_hs10.out.grows (by (repeat' (first | (with_reducible exact Vg.Grows.refl _) | (with_reducible assumption) | (with_reducible refine Vg.Grows.alloc ?_ _) | (with_reducible refine Vg.Grows.plus ?_ _ _) | (with_reducible refine Vg.Grows.drewN ?_ _) | (with_reducible refine Vg.Grows.drew ?_) | (with_reducible refine Vg.Grows.setCell ?_ ?_ _) | (with_reducible refine Vg.Grows.put ?_ ?_ _) | omega | (simp; omega) | (simp; done))))) H_e11.out).mono ?_; rintro e w11 ⟨rfl, rfl⟩) | (go_at_call 27; refine (ws_lost 0 (H_hs10.out.grows (by (repeat' (first | (with_reducible exact Vg.Grows.refl _) | (with_reducible assumption) | (with_reducible refine Vg.Grows.alloc ?_ _) | (with_reducible refine Vg.Grows.plus ?_ _ _) | (with_reducible refine Vg.Grows.drewN ?_ _) | (with_reducible refine Vg.Grows.drew ?_) | (with_reducible refine Vg.Grows.setCell ?_ ?_ _) | (with_reducible refine Vg.Grows.put ?_ ?_ _) | omega | (simp; omega) | (simp; done))))) H_e12.out).mono ?_; rintro e w12 ⟨rfl, rfl⟩))
  go_ret
  exact ⟨rfl, by (repeat' (first | (with_reducible exact Vg.Grows.refl _) | (with_reducible assumption) | (with_reducible refine Vg.Grows.alloc ?_ _) | (with_reducible refine Vg.Grows.plus ?_ _ _) | (with_reducible refine Vg.Grows.drewN ?_ _) | (with_reducible refine Vg.Grows.drew ?_) | (with_reducible refine Vg.Grows.setCell ?_ ?_ _) | (with_reducible refine Vg.Grows.put ?_ ?_ _) | omega | (simp; omega) | (simp; done)))⟩
end Go.Proofs.Ytiinhofmhoplfaa
