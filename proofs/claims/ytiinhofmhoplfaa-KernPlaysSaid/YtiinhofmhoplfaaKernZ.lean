/- Package kern: what its words keep; a kern in one bundle ('KZ': what it owns lies apart from the blocks of S). -/
import Derived.Test.YtiinhofmhoplfaaKernM
set_option linter.unusedSimpArgs false
set_option linter.unusedVariables false
set_option maxHeartbeats 4000000
set_option maxRecDepth 100000
namespace Vg
open Go
theorem Kn.Inv.set {k k' : Nat} {K : List Kt} {i : Nat} {x : Kt} (h : Kn.Inv k K) (hk : k ≤ k') (hx : x.good k') : Kn.Inv k' (K.set i x) := by
  intro y hy
  rcases List.mem_or_eq_of_mem_set hy with h1 | h1
  · exact (h y h1).mono hk
  · rw [h1]; exact hx
theorem Kn.Inv.release {k : Nat} {K : List Kt} (h : Kn.Inv k K) (m c a : Int) : Kn.Inv (k + 1) (Kn.release K m c a).1 := by
  by_cases hm : m < 0 ∨ (K.length : Int) ≤ m
  · rw [Kn.release_out hm]; exact h.mono (Nat.le_succ k)
  · obtain ⟨i, rfl⟩ : ∃ i : Nat, m = i := ⟨m.toNat, by omega⟩
    have hi : i < K.length := by omega
    rw [Kn.release_in hi]
    obtain ⟨g1, g2, g3, g4, g5⟩ := h _ (List.getElem_mem hi)
    split
    · exact h.mono (Nat.le_succ k)
    · rename_i hb
      split
      · exact h.set (Nat.le_succ k) ⟨g1, by simp only []; omega, g3, g4, g5⟩
      · rename_i hf
        refine h.set (Nat.le_succ k) ⟨g1, by simp only []; omega, by simp only [List.length_append, List.length_cons, List.length_nil]; omega, fun j hj => ?_, fun j hj => ?_⟩
        · simp only [List.mem_append, List.mem_singleton] at hj
          rcases hj with hj | hj
          · exact g4 j hj
          · subst hj; exact ⟨by simp only []; omega, by simp only []; omega, by simp only []; omega⟩
        · simp only [] at hj
          cases hJ : K[i].J with
          | nil => rw [hJ] at hj; simp at hj
          | cons x l =>
            rw [hJ] at hj g5
            simp only [List.cons_append, List.tail_cons, List.mem_append, List.mem_singleton] at hj g5
            rcases hj with hj | hj
            · exact g5 j hj
            · rw [hj]
theorem Kn.Inv.suspend {k : Nat} {K : List Kt} (h : Kn.Inv k K) (M : List Mx) (m : Int) : Kn.Inv k (Kn.suspend K M m).1 := by
  by_cases hm : m < 0 ∨ (K.length : Int) ≤ m
  · rw [Kn.suspend_out hm]; exact h
  · obtain ⟨i, rfl⟩ : ∃ i : Nat, m = i := ⟨m.toNat, by omega⟩
    have hi : i < K.length := by omega
    rw [Kn.suspend_in hi]
    obtain ⟨g1, g2, g3, g4, g5⟩ := h _ (List.getElem_mem hi)
    split
    · exact h
    · exact h.set (Nat.le_refl k) ⟨g1, g2, g3, g4, g5⟩
theorem Kn.Inv.resume {k : Nat} {K : List Kt} (h : Kn.Inv k K) (m : Int) : Kn.Inv k (Kn.resume K m).1 := by
  by_cases hm : m < 0 ∨ (K.length : Int) ≤ m
  · rw [Kn.resume_out hm]; exact h
  · obtain ⟨i, rfl⟩ : ∃ i : Nat, m = i := ⟨m.toNat, by omega⟩
    have hi : i < K.length := by omega
    rw [Kn.resume_in hi]
    obtain ⟨g1, g2, g3, g4, g5⟩ := h _ (List.getElem_mem hi)
    split
    · exact h
    · exact h.set (Nat.le_refl k) ⟨g1, g2, g3, g4, g5⟩
/-- What an able task looks like. -/
theorem Kn.able_at {k i : Nat} {K : List Kt} (h : Kn.Inv k K) (ha : Kn.ableK K i = true) : ∃ (hi : i < K.length) (t : Tk) (j : Jb) (l : List Jb) (lo : Int), K[i] = ⟨t, j :: l, lo, false⟩ ∧ Kt.good k ⟨t, j :: l, lo, false⟩ := by
  have hi := Kn.ableK_lt ha
  have hg := h _ (List.getElem_mem hi)
  rw [Kn.ableK_in hi] at ha
  obtain ⟨⟨t, J, lo, ou⟩, hx⟩ : ∃ y, K[i] = y := ⟨_, rfl⟩
  rw [hx] at ha hg
  cases J with
  | nil => simp at ha
  | cons j l =>
    cases ou with
    | true => simp at ha
    | false => exact ⟨hi, t, j, l, lo, hx, hg⟩
theorem Kn.Inv.run {k : Nat} {K : List Kt} (h : Kn.Inv k K) (M : List Mx) (n : Int) : Kn.Inv k (Kn.run K M n).1 := by
  rcases Kn.best_cases (M := M) h with ⟨hb, _⟩ | ⟨i, hi, hb, ha, _⟩
  · rw [Kn.run_none hb]; exact h
  · obtain ⟨_, t, j, l, lo, hx, g1, g2, g3, g4, g5⟩ := Kn.able_at h ha
    rw [Kn.run_some hb hi hx]
    unfold Kn.runAt
    have hj := g4 j (by simp)
    have hl := Kn.leftJ_pos (t := t) hj
    simp only [List.length_cons] at g3
    split
    · exact h
    · rename_i hn
      simp only [] at hn
      split
      · refine h.set (Nat.le_refl k) ⟨g1, g2, by simp only []; omega, fun y hy => g4 y (List.mem_cons_of_mem _ hy), fun y hy => g5 y (List.mem_of_mem_tail hy)⟩
      · rename_i hd
        obtain ⟨⟨a1, a2⟩, ⟨a3, a4⟩, a5⟩ := hj
        refine h.set (Nat.le_refl k) ⟨g1, g2, by simp only [List.length_cons]; omega, fun y hy => ?_, g5⟩
        rcases List.mem_cons.1 hy with rfl | hy
        · exact ⟨⟨a1, a2⟩, ⟨by simp only []; omega, by simp only []; omega⟩, a5⟩
        · exact g4 y (List.mem_cons_of_mem _ hy)
end Vg
namespace Go.Proofs.Ytiinhofmhoplfaa
open Go.ChangeShapes Go.WideShapes Go.ChangeAt Go.RowKit
structure KZ (w0 w : World) (b : Nat) (K : List Vg.Kt) (M : List Vg.Mx) (S : Nat → Prop) : Prop where
  ex : ∃ xs rv cb cv, KT w b xs rv cb M cv ∧ xs.map (·.2) = K ∧ ∀ k, S k → ¬ kown b xs rv cb cv k
  gr : Vg.Grows w0 w
  lo : w0.heap.size ≤ b
  lt : ∀ k, S k → k < w.heap.size
section
variable {w w' w0 : World} {b n k : Nat} {K K' : List Vg.Kt} {M M' : List Vg.Mx} {S S' : Nat → Prop} {r x d1 d2 d3 m : Int} {is : Bool}
theorem KZ.grows (h : KZ w0 w b K M S) (hg : Vg.Grows w w') : KZ w0 w' b K M S := by
  obtain ⟨⟨xs, rv, cb, cv, h1, h2, h3⟩, h4, h5, h6⟩ := h
  exact ⟨⟨xs, rv, cb, cv, h1.grows hg, h2, h3⟩, h4.trans hg, h5, fun k hk => Nat.lt_of_lt_of_le (h6 k hk) hg.size⟩
theorem KZ.blt (h : KZ w0 w b K M S) : b < w.heap.size := by
  obtain ⟨⟨xs, rv, cb, cv, h1, h2, h3⟩, h4, h5, h6⟩ := h
  exact h1.lt
/-- Other blocks alone have changed; S may be chosen anew. -/
theorem KZ.other {t : Nat → Prop} (h : KZ w0 w b K M S) (ht : Vg.Touch t w w') (htS : ∀ k, t k → S k) (hg : Vg.Grows w0 w') (hS : ∀ k, S' k → (S k ∨ w.heap.size ≤ k) ∧ k < w'.heap.size) : KZ w0 w' b K M S' := by
  obtain ⟨⟨xs, rv, cb, cv, h1, h2, h3⟩, h4, h5, h6⟩ := h
  refine ⟨⟨xs, rv, cb, cv, h1.touch ht fun k hk hh => h3 k (htS k hh) hk, h2, fun k hk hh => ?_⟩, hg, h5, fun k hk => (hS k hk).2⟩
  rcases (hS k hk).1 with h7 | h7
  · exact h3 k h7 hh
  · have := (h1.own k hh).2; omega
theorem KZ.next {xs : List Vg.Kp} {rv cv : Value} {cb : Nat} (h1 : KT w b xs rv cb M cv) (h3 : ∀ k, S k → ¬ kown b xs rv cb cv k) (h4 : Vg.Grows w0 w) (h5 : w0.heap.size ≤ b) (h6 : ∀ k, S k → k < w.heap.size) (hn : KTn w w' b xs rv cb M' cv K') : KZ w0 w' b K' M' S ∧ Vg.Kept S w w' := by
  obtain ⟨ys, k1, k2, k3, k4⟩ := hn
  refine ⟨⟨⟨ys, rv, cb, cv, k1, k2, fun k hk hh => ?_⟩, k4.gr h4 fun k hk => by have := (h1.own k hk).1; omega, h5, fun k hk => Nat.lt_of_lt_of_le (h6 k hk) k4.size⟩, k4.size, fun k hk => k4.block k (h6 k hk) (h3 k hk)⟩
  rcases k3 k hh with h9 | h9
  · exact h3 k hk h9
  · have := h6 k hk; omega
theorem kz_release (i c a : Int) (h : KZ w0 w b K M S) (hI : Vg.Kn.Inv k K) (hk : k ≤ 1000000) (hx : Vg.Kn.release K i c a = (K', r)) :
    Calls Try.prog 81 #[.pointer (some ⟨b, 0, none⟩), .int .i64 i, .int .i64 c, .int .i64 a] w fun e w' => e = .returned (.int .i64 r) ∧ KZ w0 w' b K' M S ∧ Vg.Kept S w w' := by
  obtain ⟨⟨xs, rv, cb, cv, h1, rfl, h3⟩, h4, h5, h6⟩ := h
  refine (kern_release i c a h1 (fun j hj => (hI _ (List.mem_map.2 ⟨_, List.getElem_mem hj, rfl⟩)).ok hk) hx).mono ?_
  rintro e w' ⟨rfl, hs⟩
  exact ⟨rfl, KZ.next h1 h3 h4 h5 h6 hs⟩
theorem kz_suspend (i : Int) (h : KZ w0 w b K M S) (hx : Vg.Kn.suspend K M i = (K', r)) :
    Calls Try.prog 78 #[.pointer (some ⟨b, 0, none⟩), .int .i64 i] w fun e w' => e = .returned (.int .i64 r) ∧ KZ w0 w' b K' M S ∧ Vg.Kept S w w' := by
  obtain ⟨⟨xs, rv, cb, cv, h1, rfl, h3⟩, h4, h5, h6⟩ := h
  refine (kern_suspend i h1 hx).mono ?_
  rintro e w' ⟨rfl, hs⟩
  exact ⟨rfl, KZ.next h1 h3 h4 h5 h6 hs⟩
theorem kz_resume (i : Int) (h : KZ w0 w b K M S) (hx : Vg.Kn.resume K i = (K', r)) :
    Calls Try.prog 79 #[.pointer (some ⟨b, 0, none⟩), .int .i64 i] w fun e w' => e = .returned (.int .i64 r) ∧ KZ w0 w' b K' M S ∧ Vg.Kept S w w' := by
  obtain ⟨⟨xs, rv, cb, cv, h1, rfl, h3⟩, h4, h5, h6⟩ := h
  refine (kern_resume i h1 hx).mono ?_
  rintro e w' ⟨rfl, hs⟩
  exact ⟨rfl, KZ.next h1 h3 h4 h5 h6 hs⟩
theorem kz_run (h : KZ w0 w b K M S) (hI : Vg.Kn.Inv k K) (hx : Vg.Kn.run K M m = (K', M', (d1, d2, d3), is, r)) :
    Calls Try.prog 87 #[.pointer (some ⟨b, 0, none⟩), .int .i64 m] w fun e w' => e = .returned (.tuple #[.agg #[.int .i64 d1, .int .i64 d2, .int .i64 d3], .bool is, .int .i64 r]) ∧ KZ w0 w' b K' M' S ∧ Vg.Kept S w w' := by
  obtain ⟨⟨xs, rv, cb, cv, h1, rfl, h3⟩, h4, h5, h6⟩ := h
  refine (kern_run m h1 hI hx).mono ?_
  rintro e w' ⟨rfl, hs⟩
  exact ⟨rfl, KZ.next h1 h3 h4 h5 h6 hs⟩
theorem kz_pick (h : KZ w0 w b K M S) (hr : Vg.Kn.best K M = r) (hm : max r 0 = m) (his : decide (0 ≤ r) = is) :
    Calls Try.prog 67 #[.pointer (some ⟨b, 0, none⟩)] w fun e w' => e = .returned (.tuple #[.int .i64 m, .bool is]) ∧ Vg.Grows w w' := by
  obtain ⟨⟨xs, rv, cb, cv, h1, rfl, h3⟩, h4, h5, h6⟩ := h
  exact kern_pick h1 hr hm his
theorem kz_left (h : KZ w0 w b K M S) (hI : Vg.Kn.Inv k K) (hx : Vg.Kn.left K M = x) :
    Calls Try.prog 69 #[.pointer (some ⟨b, 0, none⟩)] w fun e w' => e = .returned (.int .i64 x) ∧ Vg.Grows w w' := by
  obtain ⟨⟨xs, rv, cb, cv, h1, rfl, h3⟩, h4, h5, h6⟩ := h
  exact kern_left h1 hI hx
theorem kz_level (i : Int) (h : KZ w0 w b K M S) (hx : Vg.Kn.level K M i = x) :
    Calls Try.prog 71 #[.pointer (some ⟨b, 0, none⟩), .int .i64 i] w fun e w' => e = .returned (.int .i64 x) ∧ Vg.Grows w w' := by
  obtain ⟨⟨xs, rv, cb, cv, h1, rfl, h3⟩, h4, h5, h6⟩ := h
  exact kern_level i h1 hx
theorem kz_holds (i : Int) (h : KZ w0 w b K M S) (hx : Vg.Kn.holds K M i = is) :
    Calls Try.prog 73 #[.pointer (some ⟨b, 0, none⟩), .int .i64 i] w fun e w' => e = .returned (.bool is) ∧ Vg.Grows w w' := by
  obtain ⟨⟨xs, rv, cb, cv, h1, rfl, h3⟩, h4, h5, h6⟩ := h
  exact kern_holds i h1 hx
theorem kz_waiting (i : Int) (h : KZ w0 w b K M S) (hx : Vg.Kn.waiting K i = x) :
    Calls Try.prog 76 #[.pointer (some ⟨b, 0, none⟩), .int .i64 i] w fun e w' => e = .returned (.int .i64 x) ∧ w = w' := by
  obtain ⟨⟨xs, rv, cb, cv, h1, rfl, h3⟩, h4, h5, h6⟩ := h
  exact kern_waiting i h1 hx
theorem kz_lost (i : Int) (h : KZ w0 w b K M S) (hx : Vg.Kn.lost K i = x) :
    Calls Try.prog 77 #[.pointer (some ⟨b, 0, none⟩), .int .i64 i] w fun e w' => e = .returned (.int .i64 x) ∧ w = w' := by
  obtain ⟨⟨xs, rv, cb, cv, h1, rfl, h3⟩, h4, h5, h6⟩ := h
  exact kern_lost i h1 hx
theorem kz_new {T : List Vg.Tk} {sa : Option Addr} {sc : Nat} (h0 : Vg.Grows w0 w) (hr : Vg.TK w sa sc T) (hn : T.length = n) (hx : Vg.Kn.check T = 0) (hK : Vg.Kn.K0 T = K) (hM : Vg.Kn.M0 T = M) :
    Calls Try.prog 64 #[.slice sa n sc] w fun e w' => ∃ b, e = .returned (.tuple #[.pointer (some ⟨b, 0, none⟩), .int .i64 0]) ∧ KZ w0 w' b K M (fun _ => False) ∧ Vg.Grows w w' := by
  subst hK hM
  refine (kern_new hr hn hx).mono ?_
  rintro e w' ⟨b, xs, rv, cb, cv, rfl, h1, h2, h3, h4⟩
  exact ⟨b, rfl, ⟨⟨xs, rv, cb, cv, h1, h2, fun k hk => hk.elim⟩, h0.trans h4, Nat.le_trans h0.size h3, fun k hk => hk.elim⟩, h4⟩
end
end Go.Proofs.Ytiinhofmhoplfaa
