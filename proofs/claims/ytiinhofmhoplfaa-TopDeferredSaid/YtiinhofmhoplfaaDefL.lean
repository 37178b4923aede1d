/- TopDeferred: the bundle at a loop's head ('TDy'), plain laws, the walk. -/
import Derived.Test.YtiinhofmhoplfaaDef
import Derived.Test.YtiinhofmhoplfaaCeilR
set_option linter.unusedSimpArgs false
set_option linter.unusedVariables false
set_option maxHeartbeats 4000000
set_option maxRecDepth 100000
namespace Vg
open Go
theorem Bo.put_eq {n : Nat} {Q : List Wq} (h : Q.length = n) (i c : Int) : Bo.put n Q i c = Wk.put Q i c := by
  unfold Bo.put
  split
  · rw [Wk.put_out (by omega)]
  · rfl
theorem Bo.wait_eq {n : Nat} {Q : List Wq} (h : Q.length = n) (i : Int) : Bo.wait n Q i = Wk.waiting Q i := by
  unfold Bo.wait
  split
  · rw [Wk.waiting_out (by omega)]
  · rfl
theorem Bo.lost_eq {n : Nat} {Q : List Wq} (h : Q.length = n) (i : Int) : Bo.lost n Q i = Wk.lost Q i := by
  unfold Bo.lost
  split
  · rw [Wk.lost_out (by omega)]
  · rfl
def Wk.small (Q : List Wq) : Prop := ∀ q ∈ Q, ∀ x ∈ q.L, x ≤ 1000
theorem Wk.small.set {Q : List Wq} (h : Wk.small Q) {i : Nat} {q : Wq} (hq : ∀ x ∈ q.L, x ≤ 1000) : Wk.small (Q.set i q) := fun x hx => by
  rcases List.mem_or_eq_of_mem_set hx with h1 | h1
  · exact h x h1
  · rw [h1]; exact hq
theorem Wk.small.put {Q : List Wq} (h : Wk.small Q) (n : Int) {c : Int} (hc : c ≤ 1000) : Wk.small (Wk.put Q n c).1 := by
  by_cases hm : n < 0 ∨ (Q.length : Int) ≤ n
  · rw [Wk.put_out hm]; exact h
  · obtain ⟨i, rfl⟩ : ∃ i : Nat, n = i := ⟨n.toNat, by omega⟩
    have hi : i < Q.length := by omega
    have h1 := h _ (List.getElem_mem hi)
    rw [Wk.put_in hi]
    split
    · exact h
    · split
      · exact h.set h1
      · refine h.set fun x hx => ?_
        rcases List.mem_append.1 hx with hx | hx
        · exact h1 x hx
        · simp at hx; omega
theorem Wk.small.go {Q : List Wq} (h : Wk.small Q) (n c : Int) : Wk.small (Wk.go Q n c).1 := by
  by_cases hm : n < 0 ∨ (Q.length : Int) ≤ n
  · rw [Wk.go_out hm]; exact h
  · obtain ⟨i, rfl⟩ : ∃ i : Nat, n = i := ⟨n.toNat, by omega⟩
    have hi : i < Q.length := by omega
    have h1 := h _ (List.getElem_mem hi)
    rw [Wk.go_in hi]
    generalize Q[i] = q at h1
    obtain ⟨L, d, lo⟩ := q
    simp only [] at h1 ⊢
    cases L with
    | nil => exact h
    | cons x l =>
      dsimp only
      split
      · exact h
      · rename_i hc
        split
        · refine h.set fun y hy => ?_
          simp only [List.mem_cons] at hy
          rcases hy with rfl | hy
          · have := h1 x (by simp); omega
          · exact h1 y (List.mem_cons_of_mem _ hy)
        · exact h.set fun y hy => h1 y (List.mem_cons_of_mem _ hy)
theorem Wk.small.left {Q : List Wq} (h : Wk.small Q) (n : Int) : Wk.left Q n ≤ 1000 := by
  by_cases hm : n < 0 ∨ (Q.length : Int) ≤ n
  · rw [Wk.left_out hm]; omega
  · obtain ⟨i, rfl⟩ : ∃ i : Nat, n = i := ⟨n.toNat, by omega⟩
    have hi : i < Q.length := by omega
    have h1 := h _ (List.getElem_mem hi)
    rw [Wk.left_in hi]
    generalize Q[i].L = L at h1
    cases L with
    | nil => simp
    | cons x l => simpa using h1 x (by simp)
/-- What a round of the loop keeps. -/
structure DR (k n : Nat) (now : Int) (Bs : List Bp) (Q : List Wq) : Prop where
  inv : Bo.Inv 40 Bs Q
  len : Bs.length = n
  ne : 1 ≤ n
  sm : Wk.small Q
  cur : ∀ x ∈ Bs, x.cur now
  t0 : 0 ≤ now
  t1 : now ≤ 1125899906842624 + 1000 * k
theorem DR.qlen {k n : Nat} {now : Int} {Bs : List Bp} {Q : List Wq} (h : DR k n now Bs Q) : Q.length = n := by
  have h1 := h.len
  have h2 := h.ne
  rcases h.inv.len with h3 | h3
  · subst h3; simp at h1; omega
  · omega
theorem DR.pr {k n : Nat} {now : Int} {Bs : List Bp} {Q : List Wq} (h : DR k n now Bs Q) : ∀ x ∈ Bs, 0 ≤ x.t.pr := fun x hx => (h.inv.each x hx).2.2.1.1
/-- It waits for a server. -/
theorem DR.wait {k n : Nat} {now at_ : Int} {Bs : List Bp} {Q : List Wq} (h : DR k n now Bs Q) (hk : k ≤ 20000) (hx : Bo.next Bs Q = (at_, true)) (hb : at_ ≤ 1125899906842624) :
    Bo.refill Bs at_ = (Bs.map (Bo.rf at_), 0) ∧ DR (k + 1) n at_ (Bs.map (Bo.rf at_)) Q := by
  have hlt := Bo.next_later h.cur hx
  have h0 := h.t0
  have hle : ∀ x ∈ Bs, x.s.last ≤ at_ := fun x hx => by have := (h.cur x hx).1; omega
  have hr := Bo.refill_ok hle (by omega)
  refine ⟨hr, ?_, by rw [List.length_map]; exact h.len, h.ne, h.sm, fun x hx => ?_, by omega, by omega⟩
  · have := h.inv.refill at_
    rw [hr] at this; exact this
  · obtain ⟨y, hy, rfl⟩ := List.mem_map.1 hx
    exact Bo.rf_cur (hle y hy) (by omega)
/-- One runs. -/
theorem DR.run {k n j : Nat} {now lf : Int} {Bs : List Bp} {Q : List Wq} (h : DR k n now Bs Q) (hk : k ≤ 20000) (hj : j < Bs.length) (ha : Bo.able Bs Q j = true) (hlf : Bo.left Bs Q j = lf) :
    ∃ Bs' Q' is Bs2, 1 ≤ lf ∧ lf ≤ 1000 ∧ Bo.run Bs Q j lf (now + lf) = (Bs', Q', is, 0) ∧ Wk.go Q j lf = (Q', is, 0) ∧ Bo.Inv 40 Bs' Q' ∧ Bo.refill Bs' (now + lf) = (Bs2, 0) ∧ DR (k + 1) n (now + lf) Bs2 Q' := by
  have h0 := h.t0
  have h1 := h.t1
  obtain ⟨l1, l2, l3⟩ := Bo.left_pos h.inv hj ha
  have l4 := h.sm.left j
  subst hlf
  have hcj := h.cur _ (List.getElem_mem hj)
  obtain ⟨r1, r2, r3⟩ := Bo.run_ok h.inv hj ha hcj.1 h0 (by omega) (Int.le_refl _) (show now + Bo.left Bs Q j ≤ 4503599627370496 by omega)
  have hI := h.inv.run j (Bo.left Bs Q j) (now + Bo.left Bs Q j)
  rw [r3] at hI
  have hlast : ∀ x ∈ Bs.set j ⟨Bs[j].t, (Bs[j].s.use Bs[j].t.bu Bs[j].t.pe (Bo.left Bs Q j) (now + Bo.left Bs Q j)).1⟩, x.s.last ≤ now + Bo.left Bs Q j := fun x hx => by
    rcases List.mem_or_eq_of_mem_set hx with h2 | h2
    · have := (h.cur x h2).1; omega
    · rw [h2]
      have := (Srv.use_ok r1).1
      show (Bs[j].s.use _ _ _ _).1.last ≤ _
      omega
  have hr := Bo.refill_ok hlast (by omega)
  have hg : Wk.go Q j (Bo.left Bs Q j) = ((Wk.go Q j (Bo.left Bs Q j)).1, (Wk.go Q j (Bo.left Bs Q j)).2.1, 0) := by
    rw [← r2]
  have hI2 := hI.refill (now + Bo.left Bs Q j)
  rw [hr] at hI2
  refine ⟨_, _, _, _, by omega, by omega, r3, hg, hI, hr, hI2, by simp [h.len], h.ne, h.sm.go _ _, fun x hx => ?_, by omega, by omega⟩
  obtain ⟨y, hy, rfl⟩ := List.mem_map.1 hx
  exact Bo.rf_cur (hlast y hy) (by omega)
/-- None is able, none waits: nothing is left. -/
theorem DR.done {k n : Nat} {now : Int} {Bs : List Bp} {Q : List Wq} (h : DR k n now Bs Q) (ha : ∀ j : Nat, j < Bs.length → Bo.able Bs Q j = false) (hx : (Bo.next Bs Q).2 = false) : ∀ j : Nat, j < n → Wk.waiting Q j = 0 := fun j hj => by
  have hl := h.len
  have hj' : j < Bs.length := by omega
  have h1 := Wk.wait_nonneg Q j
  by_cases hw : 0 < Wk.waiting Q j
  · by_cases hs : 0 < Bs[j].s.left Bs[j].t.bu
    · have h2 := (Bo.able_iff (Q := Q) hj').2 ⟨hw, hs⟩
      rw [ha j hj'] at h2; cases h2
    · obtain ⟨y, l, _, hc⟩ := Bo.cand_some hj' (h.inv.each _ (List.getElem_mem hj')).1.1 hw (by omega)
      have h3 := Bo.nextK_some (Bs := Bs) (Q := Q) Bs.length j hj' (by rw [hc]; rfl)
      unfold Bo.next at hx
      rw [h3] at hx; cases hx
  · omega
end Vg
namespace Go.Proofs.Ytiinhofmhoplfaa
open Go.ChangeShapes Go.WideShapes Go.ChangeAt Go.RowKit
section
variable {w w' w0 : World} {b lo wb bx : Nat} {Bs Bs' : List Vg.Bp} {Q Q' Q2 Q2' : List Vg.Wq} {OB O : Nat → Prop} {wv : Value} {o : Obj}
structure TDy (w0 w : World) (b lo : Nat) (Bs : List Vg.Bp) (Q : List Vg.Wq) (wb : Nat) (Q2 : List Vg.Wq) (wv : Value) : Prop where
  ex : ∃ OB O, TD w b lo Bs Q OB wb Q2 wv O
  gr : Vg.Grows w0 w
theorem TDy.grows (h : TDy w0 w b lo Bs Q wb Q2 wv) (hg : Vg.Grows w w') : TDy w0 w' b lo Bs Q wb Q2 wv := by
  obtain ⟨⟨OB, O, h1⟩, h4⟩ := h
  exact ⟨⟨OB, O, h1.grows hg⟩, h4.trans hg⟩
theorem TDy.next (hn : TDn w w' b lo Bs' Q' OB wb Q2' wv O) (h : TD w b lo Bs Q OB wb Q2 wv O) (h4 : Vg.Grows w0 w) (hB : w0.heap.size ≤ lo) : TDy w0 w' b lo Bs' Q' wb Q2' wv := by
  have hg := hn.grown h h4 hB
  obtain ⟨OB', O', h5, h6, h7⟩ := hn
  exact ⟨⟨OB', O', h5⟩, hg⟩
theorem TDx.toy (h : TDx w0 w b lo Bs Q wb Q2 wv bx o) : TDy w0 w b lo Bs Q wb Q2 wv := by
  obtain ⟨⟨OB, O, h1, h2⟩, h3, h4⟩ := h
  exact ⟨⟨OB, O, h1⟩, h4⟩
theorem TDy.new (h : TDy w0 w b lo Bs Q wb Q2 wv) (hg : Vg.Grows w w') (hb : Vg.blk w' bx = some o) (hl : w.heap.size ≤ bx) : TDx w0 w' b lo Bs Q wb Q2 wv bx o := by
  obtain ⟨⟨OB, O, h1⟩, h4⟩ := h
  refine ⟨⟨OB, O, h1.grows hg, fun hh => ?_⟩, hb, h4.trans hg⟩
  rcases hh with hh | hh
  · have := (h1.bs.own bx hh).2; omega
  · have := h1.fw_lt bx hh; omega
theorem ty_put {n : Nat} {r : Int} (i c : Int) (h : TDy w0 w b lo Bs Q wb Q2 wv) (hB : w0.heap.size ≤ lo) (hQ : ∀ q ∈ Q, q.ok) (hn : Bs.length = n) (hx : Vg.Bo.put n Q i c = (Q', r)) :
    Calls Try.prog 48 #[.pointer (some ⟨b, 0, none⟩), .int .i64 i, .int .i64 c] w fun e w' => e = .returned (.int .i64 r) ∧ TDy w0 w' b lo Bs Q' wb Q2 wv := by
  obtain ⟨⟨OB, O, h1⟩, h4⟩ := h
  refine (bs_put i c h1.bs hQ hn hx).mono ?_
  rintro e w' ⟨rfl, hs⟩
  exact ⟨rfl, TDy.next (h1.bot hs) h1 h4 hB⟩
theorem ty_run {k : Nat} {r : Int} {is : Bool} (i m en : Int) (h : TDy w0 w b lo Bs Q wb Q2 wv) (hB : w0.heap.size ≤ lo) (hI : Vg.Bo.Inv k Bs Q) (hk : k ≤ 1000000) (hm : -9223372036854775808 ≤ m ∧ m ≤ 9223372036854775807) (hen : -9223372036854775808 ≤ en ∧ en ≤ 9223372036854775807)
    (hx : Vg.Bo.run Bs Q i m en = (Bs', Q', is, r)) :
    Calls Try.prog 50 #[.pointer (some ⟨b, 0, none⟩), .int .i64 i, .int .i64 m, .int .i64 en] w fun e w' => e = .returned (.tuple #[.bool is, .int .i64 r]) ∧ TDy w0 w' b lo Bs' Q' wb Q2 wv := by
  obtain ⟨⟨OB, O, h1⟩, h4⟩ := h
  refine (bs_run i m en h1.bs hI hk hm hen hx).mono ?_
  rintro e w' ⟨rfl, hs⟩
  exact ⟨rfl, TDy.next (h1.bot hs) h1 h4 hB⟩
theorem ty_refill {k : Nat} {r : Int} (now : Int) (h : TDy w0 w b lo Bs Q wb Q2 wv) (hB : w0.heap.size ≤ lo) (hI : Vg.Bo.Inv k Bs Q) (hx : Vg.Bo.refill Bs now = (Bs', r)) :
    Calls Try.prog 52 #[.pointer (some ⟨b, 0, none⟩), .int .i64 now] w fun e w' => e = .returned (.int .i64 r) ∧ TDy w0 w' b lo Bs' Q wb Q2 wv := by
  obtain ⟨⟨OB, O, h1⟩, h4⟩ := h
  refine (bs_refill now h1.bs hI hx).mono ?_
  rintro e w' ⟨rfl, hs⟩
  exact ⟨rfl, TDy.next (h1.bot hs) h1 h4 hB⟩
theorem ty_wput {r : Int} (i c : Int) (h : TDy w0 w b lo Bs Q wb Q2 wv) (hB : w0.heap.size ≤ lo) (hQ : ∀ q ∈ Q2, q.ok) (hx : Vg.Wk.put Q2 i c = (Q2', r)) :
    Calls Try.prog 20 #[.pointer (some ⟨wb, 0, none⟩), .int .i64 i, .int .i64 c] w fun e w' => e = .returned (.int .i64 r) ∧ TDy w0 w' b lo Bs Q wb Q2' wv := by
  obtain ⟨⟨OB, O, h1⟩, h4⟩ := h
  refine (ws_put i c h1.ws hQ hx).mono ?_
  rintro e w' ⟨rfl, hs⟩
  exact ⟨rfl, TDy.next (h1.work hs) h1 h4 hB⟩
theorem ty_wgo {r : Int} {is : Bool} (i c : Int) (h : TDy w0 w b lo Bs Q wb Q2 wv) (hB : w0.heap.size ≤ lo) (hQ : ∀ q ∈ Q2, q.ok) (hx : Vg.Wk.go Q2 i c = (Q2', is, r)) :
    Calls Try.prog 22 #[.pointer (some ⟨wb, 0, none⟩), .int .i64 i, .int .i64 c] w fun e w' => e = .returned (.tuple #[.bool is, .int .i64 r]) ∧ TDy w0 w' b lo Bs Q wb Q2' wv := by
  obtain ⟨⟨OB, O, h1⟩, h4⟩ := h
  refine (ws_go i c h1.ws hQ hx).mono ?_
  rintro e w' ⟨rfl, hs⟩
  exact ⟨rfl, TDy.next (h1.work hs) h1 h4 hB⟩
theorem ty_pick {r m : Int} {is : Bool} (h : TDy w0 w b lo Bs Q wb Q2 wv) (hr : Vg.Bo.best Bs Q = r) (hm : max r 0 = m) (his : decide (0 ≤ r) = is) :
    Calls Try.prog 53 #[.pointer (some ⟨b, 0, none⟩)] w fun e w' => e = .returned (.tuple #[.int .i64 m, .bool is]) ∧ TDy w0 w' b lo Bs Q wb Q2 wv := by
  have h' := h
  obtain ⟨⟨OB, O, h1⟩, h4⟩ := h
  refine (bs_pick h1.bs hr hm his).mono ?_
  rintro e w' ⟨rfl, hg⟩
  exact ⟨rfl, h'.grows hg⟩
theorem ty_next {x : Int} {is : Bool} (h : TDy w0 w b lo Bs Q wb Q2 wv) (hle : Bs.length ≤ 64) (hx : Vg.Bo.next Bs Q = (x, is)) :
    Calls Try.prog 55 #[.pointer (some ⟨b, 0, none⟩)] w fun e w' => e = .returned (.tuple #[.int .i64 x, .bool is]) ∧ TDy w0 w' b lo Bs Q wb Q2 wv := by
  have h' := h
  obtain ⟨⟨OB, O, h1⟩, h4⟩ := h
  refine (bs_next h1.bs hle hx).mono ?_
  rintro e w' ⟨rfl, hg⟩
  exact ⟨rfl, h'.grows hg⟩
theorem ty_left {x : Int} (i : Int) (h : TDy w0 w b lo Bs Q wb Q2 wv) (hx : Vg.Bo.left Bs Q i = x) :
    Calls Try.prog 59 #[.pointer (some ⟨b, 0, none⟩), .int .i64 i] w fun e w' => e = .returned (.int .i64 x) ∧ TDy w0 w' b lo Bs Q wb Q2 wv := by
  have h' := h
  obtain ⟨⟨OB, O, h1⟩, h4⟩ := h
  refine (bs_left i h1.bs hx).mono ?_
  rintro e w' ⟨rfl, k, rfl⟩
  exact ⟨rfl, h'.grows ((Vg.Grows.refl _).drewN k)⟩
theorem ty_wait {n : Nat} {x : Int} (i : Int) (h : TDy w0 w b lo Bs Q wb Q2 wv) (hn : Bs.length = n) (hx : Vg.Bo.wait n Q i = x) :
    Calls Try.prog 61 #[.pointer (some ⟨b, 0, none⟩), .int .i64 i] w fun e w' => e = .returned (.int .i64 x) ∧ w = w' := by
  obtain ⟨⟨OB, O, h1⟩, h4⟩ := h
  exact bs_wait i h1.bs hn hx
theorem ty_lost {n : Nat} {x : Int} (i : Int) (h : TDy w0 w b lo Bs Q wb Q2 wv) (hn : Bs.length = n) (hx : Vg.Bo.lost n Q i = x) :
    Calls Try.prog 62 #[.pointer (some ⟨b, 0, none⟩), .int .i64 i] w fun e w' => e = .returned (.int .i64 x) ∧ w = w' := by
  obtain ⟨⟨OB, O, h1⟩, h4⟩ := h
  exact bs_lost i h1.bs hn hx
theorem ty_wwait {x : Int} (i : Int) (h : TDy w0 w b lo Bs Q wb Q2 wv) (hx : Vg.Wk.waiting Q2 i = x) :
    Calls Try.prog 26 #[.pointer (some ⟨wb, 0, none⟩), .int .i64 i] w fun e w' => e = .returned (.int .i64 x) ∧ w = w' := by
  obtain ⟨⟨OB, O, h1⟩, h4⟩ := h
  exact ws_waiting i h1.ws hx
theorem ty_wlost {x : Int} (i : Int) (h : TDy w0 w b lo Bs Q wb Q2 wv) (hx : Vg.Wk.lost Q2 i = x) :
    Calls Try.prog 27 #[.pointer (some ⟨wb, 0, none⟩), .int .i64 i] w fun e w' => e = .returned (.int .i64 x) ∧ w = w' := by
  obtain ⟨⟨OB, O, h1⟩, h4⟩ := h
  exact ws_lost i h1.ws hx
end
end Go.Proofs.Ytiinhofmhoplfaa
