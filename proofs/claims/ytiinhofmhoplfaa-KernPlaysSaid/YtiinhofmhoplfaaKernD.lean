/- Law 14: does. -/
import Derived.Test.YtiinhofmhoplfaaKernE
set_option linter.unusedSimpArgs false
set_option linter.unusedVariables false
set_option maxHeartbeats 8000000
set_option maxRecDepth 100000
namespace Go.Proofs.Ytiinhofmhoplfaa
open Go.ChangeShapes Go.WideShapes Go.ChangeAt Go.RowKit
section
variable {w w' w0 : World} {b n k : Nat} {K K' : List Vg.Kt} {M M' : List Vg.Mx} {S S' : Nat → Prop} {r x d1 d2 d3 m kd t c a : Int} {is : Bool}
theorem kz_does (h : KZ w0 w b K M S) (hI : Vg.Kn.Inv k K) (hk : k ≤ 1000000) (hx : Vg.Kn.does K M kd t c a = (K', M', (d1, d2, d3), is)) :
    Calls Try.prog 80 #[.pointer (some ⟨b, 0, none⟩), .agg #[.int .i64 kd, .int .i64 t, .int .i64 c, .int .i64 a]] w fun e w' => e = .returned (.tuple #[.agg #[.int .i64 d1, .int .i64 d2, .int .i64 d3], .bool is]) ∧ KZ w0 w' b K' M' S ∧ Vg.Kept S w w' := by
  have hS := h.lt
  have hm := h.more (w' := (w.alloc (act14 kd t c a)).alloc (doneC 0 0 0)) (((Vg.Grows.refl w).alloc _).alloc _)
  have y1 : Vg.blk ((w.alloc (act14 kd t c a)).alloc (doneC 0 0 0)) w.heap.size = some (act14 kd t c a) := (Vg.alloc_heap_past (by simp)).trans (Vg.alloc_heap_at rfl)
  have y2 : Vg.blk ((w.alloc (act14 kd t c a)).alloc (doneC 0 0 0)) (w.heap.size + 1) = some (doneC 0 0 0) := Vg.alloc_heap_at (by simp)
  have hg1 : Vg.Grows w ((w.alloc (act14 kd t c a)).alloc (doneC 0 0 0)) := by (repeat' (first | (with_reducible exact Vg.Grows.refl _) | (with_reducible assumption) | (with_reducible refine Vg.Grows.alloc ?_ _) | (with_reducible refine Vg.Grows.plus ?_ _ _) | (with_reducible refine Vg.Grows.drewN ?_ _) | (with_reducible refine Vg.Grows.drew ?_) | (with_reducible refine Vg.Grows.setCell ?_ ?_ _) | (with_reducible refine Vg.Grows.put ?_ ?_ _) | omega | (simp; omega) | (simp; done)))
  have hs1 : ((w.alloc (act14 kd t c a)).alloc (doneC 0 0 0)).heap.size = w.heap.size + 1 + 1 := by simp
  rw [hs1] at hm
  have hfin : ∀ (K' : List Vg.Kt) (M' : List Vg.Mx) (w3 : World) (o : Obj), KZ w0 w3 b K' M' (fun k => S k ∨ (w.heap.size ≤ k ∧ k < w.heap.size + 1 + 1)) → Vg.Kept (fun k => S k ∨ (w.heap.size ≤ k ∧ k < w.heap.size + 1 + 1)) ((w.alloc (act14 kd t c a)).alloc (doneC 0 0 0)) w3 → KZ w0 (Vg.put w3 (w.heap.size + 1) o) b K' M' S ∧ Vg.Kept S w (Vg.put w3 (w.heap.size + 1) o) := fun K' M' w3 o h1 h2 => by
    have ht : Vg.Touch (fun k => k = w.heap.size + 1) w3 (Vg.put w3 (w.heap.size + 1) o) := Vg.Touch.put (t := fun k => k = w.heap.size + 1) (Vg.Touch.refl _ _) rfl o
    refine ⟨(h1.other ht (fun k hk => .inr (by omega)) (Vg.Grows.put h1.gr (by have := h1.gr.size; have := h.gr.size; omega) _) (fun k hk => ⟨.inl hk, by rw [Vg.put_size]; exact h1.lt k hk⟩)).mono fun k hk => .inl hk, ?_⟩
    exact (Vg.kept_grows hg1 hS).trans ((Vg.Kept.mono' h2 fun k hk => .inl hk).trans ⟨by rw [Vg.put_size]; exact Nat.le_refl _, fun k hk => Vg.put_heap_other (by have := hS k hk; omega)⟩)
  have hfin0 : ∀ (K' : List Vg.Kt) (M' : List Vg.Mx) (w3 : World), KZ w0 w3 b K' M' (fun k => S k ∨ (w.heap.size ≤ k ∧ k < w.heap.size + 1 + 1)) → Vg.Kept (fun k => S k ∨ (w.heap.size ≤ k ∧ k < w.heap.size + 1 + 1)) ((w.alloc (act14 kd t c a)).alloc (doneC 0 0 0)) w3 → KZ w0 w3 b K' M' S ∧ Vg.Kept S w w3 := fun K' M' w3 h1 h2 => ⟨h1.mono fun k hk => .inl hk, (Vg.kept_grows hg1 hS).trans (Vg.Kept.mono' h2 fun k hk => .inl hk)⟩
  unfold Vg.Kn.does at hx
  by_cases h0 : kd = 0
  · rw [if_pos h0] at hx
    subst h0
    obtain ⟨⟨K2, r⟩, hr⟩ : ∃ p, Vg.Kn.release K t c a = p := ⟨_, rfl⟩
    rw [hr] at hx
    simp only [Prod.mk.injEq] at hx
    obtain ⟨rfl, rfl, ⟨rfl, rfl, rfl⟩, rfl⟩ := hx
    have H_h := Lib.hid h; clear h; have H_hI := Lib.hid hI; clear hI; have H_hr := Lib.hid hr; clear hr; have H_hm := Lib.hid hm; clear hm; have H_hS := Lib.hid hS; clear hS; have H_hfin := Lib.hid hfin; clear hfin; have H_hfin0 := Lib.hid hfin0; clear hfin0; have H_y1 := Lib.hid y1; clear y1; have H_y2 := Lib.hid y2; clear y2; have H_hs1 := Lib.hid hs1; clear hs1
    go_enter Try.func80, Try.ntmps80
    go_wp2_with ((go_at_call 81; refine (kz_release t c a H_hm.out H_hI.out hk H_hr.out).mono ?_; rintro e w3 ⟨rfl, hz, hk3⟩; have z2 := hk3.blk H_y2.out (.inr (by omega)); have c_z2 := Vg.cells_of z2; have f_z2 := Vg.frozen_of z2; have p_z2 := Vg.setCell_of z2; have l_z2 := Vg.lt_of z2; have H_z2 := Lib.hid z2; clear z2; have H_hz := Lib.hid hz; clear hz; have H_hk3 := Lib.hid hk3; clear hk3))
    refine bodyPost_ret (by simp [results, Try.results80, go_sem, c_z2, l_z2] <;> try rfl) rfl ?_
    exact ⟨rfl, H_hfin.out _ _ _ _ H_hz.out H_hk3.out⟩
  · have hk0 : (kd == 0) = false := by simp [h0]
    rw [if_neg h0] at hx
    by_cases h1 : kd = 1 ∨ kd = 4
    · rw [if_pos h1] at hx
      obtain ⟨⟨K2, M2, ⟨e1, e2, e3⟩, e4, e5⟩, hr⟩ : ∃ p, Vg.Kn.run K M (Vg.Kn.far K M c) = p := ⟨_, rfl⟩
      rw [hr] at hx
      simp only [Prod.mk.injEq] at hx
      obtain ⟨rfl, rfl, ⟨rfl, rfl, rfl⟩, rfl⟩ := hx
      exact kz_does_run h hI h1 hr
    · rw [if_neg h1] at hx
      have hk1 : (kd == 1) = false := by simp; omega
      have hk4 : (kd == 4) = false := by simp; omega
      by_cases h2 : kd = 2
      · rw [if_pos h2] at hx
        subst h2
        obtain ⟨⟨K2, r⟩, hr⟩ : ∃ p, Vg.Kn.suspend K M t = p := ⟨_, rfl⟩
        rw [hr] at hx
        simp only [Prod.mk.injEq] at hx
        obtain ⟨rfl, rfl, ⟨rfl, rfl, rfl⟩, rfl⟩ := hx
        have H_h := Lib.hid h; clear h; have H_hI := Lib.hid hI; clear hI; have H_hr := Lib.hid hr; clear hr; have H_hm := Lib.hid hm; clear hm; have H_hS := Lib.hid hS; clear hS; have H_hfin := Lib.hid hfin; clear hfin; have H_hfin0 := Lib.hid hfin0; clear hfin0; have H_y1 := Lib.hid y1; clear y1; have H_y2 := Lib.hid y2; clear y2; have H_hs1 := Lib.hid hs1; clear hs1
        go_enter Try.func80, Try.ntmps80
        go_wp2_with ((go_at_call 78; refine (kz_suspend t H_hm.out H_hr.out).mono ?_; rintro e w3 ⟨rfl, hz, hk3⟩; have z2 := hk3.blk H_y2.out (.inr (by omega)); have c_z2 := Vg.cells_of z2; have f_z2 := Vg.frozen_of z2; have p_z2 := Vg.setCell_of z2; have l_z2 := Vg.lt_of z2; have H_z2 := Lib.hid z2; clear z2; have H_hz := Lib.hid hz; clear hz; have H_hk3 := Lib.hid hk3; clear hk3))
        refine bodyPost_ret (by simp [results, Try.results80, go_sem, c_z2, l_z2] <;> try rfl) rfl ?_
        exact ⟨rfl, H_hfin.out _ _ _ _ H_hz.out H_hk3.out⟩
      · rw [if_neg h2] at hx
        have hk2 : (kd == 2) = false := by simp; omega
        by_cases h3 : kd = 3
        · rw [if_pos h3] at hx
          subst h3
          obtain ⟨⟨K2, r⟩, hr⟩ : ∃ p, Vg.Kn.resume K t = p := ⟨_, rfl⟩
          rw [hr] at hx
          simp only [Prod.mk.injEq] at hx
          obtain ⟨rfl, rfl, ⟨rfl, rfl, rfl⟩, rfl⟩ := hx
          have H_h := Lib.hid h; clear h; have H_hI := Lib.hid hI; clear hI; have H_hr := Lib.hid hr; clear hr; have H_hm := Lib.hid hm; clear hm; have H_hS := Lib.hid hS; clear hS; have H_hfin := Lib.hid hfin; clear hfin; have H_hfin0 := Lib.hid hfin0; clear hfin0; have H_y1 := Lib.hid y1; clear y1; have H_y2 := Lib.hid y2; clear y2; have H_hs1 := Lib.hid hs1; clear hs1
          go_enter Try.func80, Try.ntmps80
          go_wp2_with ((go_at_call 79; refine (kz_resume t H_hm.out H_hr.out).mono ?_; rintro e w3 ⟨rfl, hz, hk3⟩; have z2 := hk3.blk H_y2.out (.inr (by omega)); have c_z2 := Vg.cells_of z2; have f_z2 := Vg.frozen_of z2; have p_z2 := Vg.setCell_of z2; have l_z2 := Vg.lt_of z2; have H_z2 := Lib.hid z2; clear z2; have H_hz := Lib.hid hz; clear hz; have H_hk3 := Lib.hid hk3; clear hk3))
          refine bodyPost_ret (by simp [results, Try.results80, go_sem, c_z2, l_z2] <;> try rfl) rfl ?_
          exact ⟨rfl, H_hfin.out _ _ _ _ H_hz.out H_hk3.out⟩
        · rw [if_neg h3] at hx
          have hk3 : (kd == 3) = false := by simp; omega
          simp only [Prod.mk.injEq] at hx
          obtain ⟨rfl, rfl, ⟨rfl, rfl, rfl⟩, rfl⟩ := hx
          have H_h := Lib.hid h; clear h; have H_hI := Lib.hid hI; clear hI; have H_hm := Lib.hid hm; clear hm; have H_hS := Lib.hid hS; clear hS; have H_hfin := Lib.hid hfin; clear hfin; have H_hfin0 := Lib.hid hfin0; clear hfin0; have H_y1 := Lib.hid y1; clear y1; have H_y2 := Lib.hid y2; clear y2; have H_hs1 := Lib.hid hs1; clear hs1
          go_enter Try.func80, Try.ntmps80
          go_wp2_with fail
          refine bodyPost_ret (by simp [results, Try.results80, go_sem, ] <;> try rfl) rfl ?_
          exact ⟨rfl, H_hfin0.out _ _ _ H_hm.out (Vg.Kept.refl _ _)⟩
end
end Go.Proofs.Ytiinhofmhoplfaa
