/- The document's queues: Put, Go, First, New. -/
import Derived.Test.YtiinhofmhoplfaaWorkT
import Derived.Test.YtiinhofmhoplfaaWorkQ
set_option linter.unusedSimpArgs false
set_option linter.unusedVariables false
set_option maxHeartbeats 2000000
set_option maxRecDepth 100000
namespace Vg
open Go
theorem rqcells_irr : ∀ (l : List Wp) (k : Nat) (u : Value) (L L' : List Int) (d lo : Int), rqcells (l.set k (u, ⟨L, d, lo⟩)) = rqcells (l.set k (u, ⟨L', d, lo⟩))
  | [], k, _, _, _, _, _ => rfl
  | x :: l, 0, u, L, L', d, lo => by simp [rqcells]
  | x :: l, k + 1, u, L, L', d, lo => by
    have := rqcells_irr l k u L L' d lo
    simpa [rqcells] using this
theorem rqcells_cut (l : List Wp) (k : Nat) (h : k < l.length) (u u' : Value) (L L' : List Int) (d lo : Int) : (rqcells (l.set k (u, ⟨L, d, lo⟩))).set (k * 3 + 1) u' = rqcells (l.set k (u', ⟨L', d, lo⟩)) := by
  rw [rqcells_set1 _ k (by simpa using h) u' L', List.set_set]
  simp
end Vg
namespace Go.Proofs.Ytiinhofmhoplfaa
open Go.ChangeShapes Go.WideShapes Go.ChangeAt Go.RowKit
section
variable {w w' : World} {S S' : Nat → Prop} {rs : List Vg.Wp} {v : Value}
theorem rq_of_with {i n N c uc B : Nat} {a ua : Option Addr} {x : Vg.Wq} (hi : i < rs.length) (h : RQ w S rs v) (hn : rs.length = n) (hN : x.L.length = N) (hS : ∀ k, w.heap.size ≤ k → S k) (hB : w.heap.size ≤ B) (hg : Vg.Grows w w')
    (hrow : Vg.Que w' B 48 3 (.slice a n c) n (Vg.rqcells (rs.set i (.slice ua N uc, x)))) (hu : Vg.Que w' B 2 1 (.slice ua N uc) N (Vg.ics x.L)) : RQ w' S (rs.set i (.slice ua N uc, x)) (.slice a n c) := by
  subst hn hN
  have hne : ∀ j (hj : j < rs.length), j ≠ i → (rs.set i (.slice ua x.L.length uc, x))[j]'(by simpa using hj) = rs[j] := fun j hj hji => List.getElem_set_ne (fun hh => hji hh.symm) _
  have heq : (rs.set i (.slice ua x.L.length uc, x))[i]'(by simpa using hi) = (.slice ua x.L.length uc, x) := List.getElem_set_self _
  refine ⟨⟨a, c, by simp⟩, by rw [List.length_set]; exact Vg.ReadsP.of_new hrow.reads (fun k hk => hS k (by omega)), fun j hj => ?_, fun j hj => ?_⟩
  · have hj' : j < rs.length := by simpa using hj
    by_cases hji : j = i
    · subst hji; rw [heq]; exact ⟨_, _, rfl⟩
    · rw [hne j hj' hji]; exact h.ush j hj'
  · have hj' : j < rs.length := by simpa using hj
    by_cases hji : j = i
    · subst hji; rw [heq]; exact Vg.ReadsP.of_new hu.reads (fun k hk => hS k (by omega))
    · rw [hne j hj' hji]; exact (h.pcs j hj').grows hg
theorem rq_put {k : Nat} (m cost : Int) (h : RQ w S rs v) (hQ : Vg.Wk.Inv k (rs.map (·.2))) (hkk : k ≤ 1000) (hS : ∀ j, w.heap.size ≤ j → S j) :
    Calls Try.prog 19 #[v, .int .i64 m, .int .i64 cost] w fun e w' => ∃ rs' v', e = .returned (.tuple #[v', .int .i64 (Vg.Wk.put (rs.map (·.2)) m cost).2]) ∧ RQ w' S rs' v' ∧ rs'.map (·.2) = (Vg.Wk.put (rs.map (·.2)) m cost).1 ∧ Vg.Grows w w' := by
  obtain ⟨a, c, rfl⟩ := h.shape
  by_cases hm : m < 0 ∨ (rs.length : Int) ≤ m
  · rw [Vg.Wk.put_out (by simpa using hm)]
    have hd : decide (0 ≤ m ∧ m < (rs.length : Int)) = false := by simp; omega
    have H_h := Lib.hid h; clear h; have H_hd := Lib.hid hd; clear hd; have H_hQ := Lib.hid hQ; clear hQ
    go_enter Try.func19, Try.ntmps19
    go_wp2_with ((go_at_call 91; refine (rq_has m _ _ _ _).mono ?_; rintro e w1 ⟨rfl, rfl⟩; rw [H_hd.out]))
    go_returns
    exact ⟨rs, _, rfl, H_h.out, rfl, by (repeat' (first | (with_reducible exact Vg.Grows.refl _) | (with_reducible assumption) | (with_reducible refine Vg.Grows.alloc ?_ _) | (with_reducible refine Vg.Grows.plus ?_ _ _) | (with_reducible refine Vg.Grows.drewN ?_ _) | (with_reducible refine Vg.Grows.drew ?_) | (with_reducible refine Vg.Grows.setCell ?_ ?_ _) | (with_reducible refine Vg.Grows.put ?_ ?_ _) | omega | (simp; omega) | (simp; done)))⟩
  · obtain ⟨i, rfl⟩ : ∃ i : Nat, m = i := ⟨m.toNat, by omega⟩
    have hi : i < rs.length := by omega
    have hi0 : (0 : Int) ≤ i := by omega
    have hi1 : (i : Int) < rs.length := by omega
    have hd : decide ((0 : Int) ≤ i ∧ (i : Int) < (rs.length : Int)) = true := by simp; omega
    have hql : rs.length ≤ 64 := by simpa using hQ.len
    obtain ⟨hq1, hq2, hq3, hq4, hq5⟩ := hQ.at i (by simpa using hi)
    rw [Vg.Wk.put_in (by simpa using hi)]
    rw [List.getElem_map] at hq1 hq2 hq3 hq4 hq5 ⊢
    have hp := (h.pcs i hi).1
    have hu := h.ush i hi
    obtain ⟨g, o, rfl, hg2, hc1, hc2, c0, c1, c3⟩ := h.row.1.rqueue i hi
    obtain ⟨⟨u, ⟨L, d, lo⟩⟩, hx⟩ : ∃ x, rs[i] = x := ⟨_, rfl⟩
    rw [hx] at c0 c1 c3 hp hu hq1 hq2 hq3 hq4 hq5 ⊢
    simp only [] at c0 c1 c3 hp hu hq1 hq2 hq3 hq4 hq5 ⊢
    obtain ⟨ua, uc, rfl⟩ := hu
    obtain ⟨N, hN⟩ : ∃ N, L.length = N := ⟨_, rfl⟩
    rw [hN] at c1 hp hq4 ⊢
    obtain ⟨n, hn⟩ : ∃ n, rs.length = n := ⟨_, rfl⟩
    rw [hn] at hi1 hd hql hc1 ⊢
    have huc : uc ≤ 9223372036854775807 := hp.cap_le
    have huN := hp.len_le
    by_cases hbad : cost < 1 ∨ 1099511627776 < cost
    · rw [if_pos hbad]
      have hR := h
      obtain ⟨vv, hvv⟩ : ∃ vv, Value.slice (some ⟨g, o, none⟩) rs.length c = vv := ⟨_, rfl⟩
      have hR : RQ w S rs (.slice (some ⟨g, o, none⟩) n c) := by rw [← hn]; exact h
      by_cases h0 : cost < 1
      · clear hbad
        have H_h := Lib.hid h; clear h; have H_hx := Lib.hid hx; clear hx; have H_hp := Lib.hid hp; clear hp; have H_hd := Lib.hid hd; clear hd; have H_hQ := Lib.hid hQ; clear hQ; have H_hq5 := Lib.hid hq5; clear hq5; have H_hN := Lib.hid hN; clear hN; have H_hn := Lib.hid hn; clear hn; have H_hR := Lib.hid hR; clear hR; have H_hvv := Lib.hid hvv; clear hvv
        go_enter Try.func19, Try.ntmps19
        go_wp2_with ((go_at_call 91; refine (rq_has i _ _ _ _).mono ?_; rintro e w1 ⟨rfl, rfl⟩; rw [H_hd.out]))
        go_returns
        exact ⟨rs, _, rfl, H_hR.out, rfl, by (repeat' (first | (with_reducible exact Vg.Grows.refl _) | (with_reducible assumption) | (with_reducible refine Vg.Grows.alloc ?_ _) | (with_reducible refine Vg.Grows.plus ?_ _ _) | (with_reducible refine Vg.Grows.drewN ?_ _) | (with_reducible refine Vg.Grows.drew ?_) | (with_reducible refine Vg.Grows.setCell ?_ ?_ _) | (with_reducible refine Vg.Grows.put ?_ ?_ _) | omega | (simp; omega) | (simp; done)))⟩
      · have h1 : 1099511627776 < cost := by omega
        clear hbad
        have H_h := Lib.hid h; clear h; have H_hx := Lib.hid hx; clear hx; have H_hp := Lib.hid hp; clear hp; have H_hd := Lib.hid hd; clear hd; have H_hQ := Lib.hid hQ; clear hQ; have H_hq5 := Lib.hid hq5; clear hq5; have H_hN := Lib.hid hN; clear hN; have H_hn := Lib.hid hn; clear hn; have H_hR := Lib.hid hR; clear hR; have H_hvv := Lib.hid hvv; clear hvv
        go_enter Try.func19, Try.ntmps19
        go_wp2_with ((go_at_call 91; refine (rq_has i _ _ _ _).mono ?_; rintro e w1 ⟨rfl, rfl⟩; rw [H_hd.out]))
        go_returns
        exact ⟨rs, _, rfl, H_hR.out, rfl, by (repeat' (first | (with_reducible exact Vg.Grows.refl _) | (with_reducible assumption) | (with_reducible refine Vg.Grows.alloc ?_ _) | (with_reducible refine Vg.Grows.plus ?_ _ _) | (with_reducible refine Vg.Grows.drewN ?_ _) | (with_reducible refine Vg.Grows.drew ?_) | (with_reducible refine Vg.Grows.setCell ?_ ?_ _) | (with_reducible refine Vg.Grows.put ?_ ?_ _) | omega | (simp; omega) | (simp; done)))⟩
    · rw [if_neg hbad]
      have hk1 : ¬ cost < 1 := by omega
      have hk2 : ¬ 1099511627776 < cost := by omega
      clear hbad
      have hR : RQ w S rs (.slice (some ⟨g, o, none⟩) n c) := by rw [← hn]; exact h
      have hN64 : N ≤ 64 := by omega
      by_cases hfull : d ≤ N
      · rw [if_pos hfull]
        have hsum : IntKind.i64.wrap (lo + 1) = lo + 1 := by rw [IntWalk.i64_in _ (by omega)]
        have H_h := Lib.hid h; clear h; have H_hx := Lib.hid hx; clear hx; have H_hp := Lib.hid hp; clear hp; have H_hd := Lib.hid hd; clear hd; have H_hQ := Lib.hid hQ; clear hQ; have H_hq5 := Lib.hid hq5; clear hq5; have H_hN := Lib.hid hN; clear hN; have H_hn := Lib.hid hn; clear hn; have H_hR := Lib.hid hR; clear hR; have H_hS := Lib.hid hS; clear hS
        go_enter Try.func19, Try.ntmps19
        go_wp2_with (first | (go_at_call 91; refine (rq_has i _ _ _ _).mono ?_; rintro e w1 ⟨rfl, rfl⟩; rw [H_hd.out]) | (go_at_call 92; refine (rq_with (i := i) (L := L) (d := d) (lo := lo + 1) hi (H_hR.out.grows (by (repeat' (first | (with_reducible exact Vg.Grows.refl _) | (with_reducible assumption) | (with_reducible refine Vg.Grows.alloc ?_ _) | (with_reducible refine Vg.Grows.plus ?_ _ _) | (with_reducible refine Vg.Grows.drewN ?_ _) | (with_reducible refine Vg.Grows.drew ?_) | (with_reducible refine Vg.Grows.setCell ?_ ?_ _) | (with_reducible refine Vg.Grows.put ?_ ?_ _) | omega | (simp; omega) | (simp; done))))) (H_hp.out.grows (by (repeat' (first | (with_reducible exact Vg.Grows.refl _) | (with_reducible assumption) | (with_reducible refine Vg.Grows.alloc ?_ _) | (with_reducible refine Vg.Grows.plus ?_ _ _) | (with_reducible refine Vg.Grows.drewN ?_ _) | (with_reducible refine Vg.Grows.drew ?_) | (with_reducible refine Vg.Grows.setCell ?_ ?_ _) | (with_reducible refine Vg.Grows.put ?_ ?_ _) | omega | (simp; omega) | (simp; done))))) H_hN.out H_hn.out hql hN64).mono ?_; rintro e w1 ⟨g1, o1, cc1, ua1, uc1, rfl, q1, q2, hne, hg1⟩; have HQ1 := Lib.hid q1; have HQ2 := Lib.hid q2; clear q1 q2 hne))
        go_returns
        have hgw : Vg.Grows w w1 := Vg.Grows.trans (by (repeat' (first | (with_reducible exact Vg.Grows.refl _) | (with_reducible assumption) | (with_reducible refine Vg.Grows.alloc ?_ _) | (with_reducible refine Vg.Grows.plus ?_ _ _) | (with_reducible refine Vg.Grows.drewN ?_ _) | (with_reducible refine Vg.Grows.drew ?_) | (with_reducible refine Vg.Grows.setCell ?_ ?_ _) | (with_reducible refine Vg.Grows.put ?_ ?_ _) | omega | (simp; omega) | (simp; done)))) hg1
        exact ⟨_, _, rfl, rq_of_with (x := ⟨L, d, lo + 1⟩) hi H_hR.out H_hn.out H_hN.out H_hS.out (by simp) hgw HQ1.out HQ2.out, by rw [List.map_set], hgw⟩
      · rw [if_neg hfull]
        have hicc : Vg.ics (L ++ [cost]) = Vg.ics L ++ [.int .i64 cost] := by simp [Vg.ics]
        have hic : (Vg.ics L).length = N * 1 := by simp [hN]
        have hN' : (L ++ [cost]).length = N + 1 := by simp [hN]
        have hN65 : N + 1 ≤ 64 := by omega
        obtain ⟨j0, hJ, hy0, hy1, hy2⟩ := info_parts Try.info_i64
        have H_h := Lib.hid h; clear h; have H_hx := Lib.hid hx; clear hx; have H_hp := Lib.hid hp; clear hp; have H_hd := Lib.hid hd; clear hd; have H_hQ := Lib.hid hQ; clear hQ; have H_hq5 := Lib.hid hq5; clear hq5; have H_hN := Lib.hid hN; clear hN; have H_hn := Lib.hid hn; clear hn; have H_hR := Lib.hid hR; clear hR; have H_hS := Lib.hid hS; clear hS; have H_hicc := Lib.hid hicc; clear hicc; have H_hic := Lib.hid hic; clear hic; have H_hN' := Lib.hid hN'; clear hN'
        go_enter Try.func19, Try.ntmps19
        go_wp2_with (first | (go_at_call 91; refine (rq_has i _ _ _ _).mono ?_; rintro e w1 ⟨rfl, rfl⟩; rw [H_hd.out]) | (at_builtin; (refine Vg.wpList_appR (W0 := _) ((Vg.Grows.refl _).alloc _) rfl (.tmp 40) (.tmp 42) 46 rfl _ (Nat.le_refl _) (by (try simp only [World.size_alloc, Vg.plus_size, Vg.put_size, World.size_setCell, World.size_drew]) <;> omega) 2 j0 (.int .i64 0) 1 8 Try.underlying46 hJ hy0 hy1 hy2 rfl (by decide) _ _ _ rfl (Vg.owns_made0 (by (try simp only [World.size_alloc, Vg.plus_size, Vg.put_size, World.size_setCell, World.size_drew]) <;> omega)) 0 _ _ _ (Vg.ics L) rfl (H_hp.out.grows (by (repeat' (first | (with_reducible exact Vg.Grows.refl _) | (with_reducible assumption) | (with_reducible refine Vg.Grows.alloc ?_ _) | (with_reducible refine Vg.Grows.plus ?_ _ _) | (with_reducible refine Vg.Grows.drewN ?_ _) | (with_reducible refine Vg.Grows.drew ?_) | (with_reducible refine Vg.Grows.setCell ?_ ?_ _) | (with_reducible refine Vg.Grows.put ?_ ?_ _) | omega | (simp; omega) | (simp; done))))) H_hic.out (by simp [Value.oneCell']) (by unfold maxLen; omega) (by omega) ?_); intro v1 y1 m1 hown1 hsz1; obtain ⟨a1, c1', rfl⟩ := Vg.owns_shape hown1; simp only [List.nil_append, Nat.zero_add] at hown1; have HO1 := Lib.hid hown1; clear hown1 hsz1) | (at_builtin; (refine Vg.wpList_app ((Vg.Grows.plus (Vg.Grows.refl _) _ _).alloc _) rfl (.tmp 43) (.tmp 45) 46 rfl _ (Nat.le_refl _) (by simp [go_sem, Vg.sz] <;> omega) 2 j0 (.int .i64 0) 1 8 Try.underlying46 hJ hy0 hy1 hy2 rfl (by decide) _ _ _ rfl (HO1.out.alloc _) _ 1 1 [.int .i64 cost] rfl rfl (Vg.one_new (by first | rfl | ((try simp only [World.size_alloc, Vg.plus_size, Vg.put_size, World.size_setCell, World.size_drew, World.heap_drewN]) <;> omega))) (by simp [Value.oneCell']) (by unfold maxLen; omega) (by omega) ?_); intro v2 y2 m2 hown2 hsz2; obtain ⟨a2, c2', rfl⟩ := Vg.owns_shape hown2; have r2 := Vg.Reads.of_owns hown2; rw [← H_hicc.out] at r2; have R2 := Lib.hid r2; clear hown2 hsz2 r2) | (go_at_call 92; refine (rq_with (i := i) (L := L ++ [cost]) (d := d) (lo := lo) (N := N + 1) hi (H_hR.out.grows (by (repeat' (first | (with_reducible exact Vg.Grows.refl _) | (with_reducible assumption) | (with_reducible refine Vg.Grows.alloc ?_ _) | (with_reducible refine Vg.Grows.plus ?_ _ _) | (with_reducible refine Vg.Grows.drewN ?_ _) | (with_reducible refine Vg.Grows.drew ?_) | (with_reducible refine Vg.Grows.setCell ?_ ?_ _) | (with_reducible refine Vg.Grows.put ?_ ?_ _) | omega | (simp; omega) | (simp; done))))) ((R2.out.base (by simp [go_sem]) (by simp [go_sem])).weaken (Nat.zero_le _)) H_hN'.out H_hn.out hql hN65).mono ?_; rintro e w1 ⟨g1, o1, cc1, ua1, uc1, rfl, q1, q2, hne, hg1⟩; have HQ1 := Lib.hid q1; have HQ2 := Lib.hid q2; clear q1 q2 hne))
        go_returns
        have hgw : Vg.Grows w w1 := Vg.Grows.trans (by (repeat' (first | (with_reducible exact Vg.Grows.refl _) | (with_reducible assumption) | (with_reducible refine Vg.Grows.alloc ?_ _) | (with_reducible refine Vg.Grows.plus ?_ _ _) | (with_reducible refine Vg.Grows.drewN ?_ _) | (with_reducible refine Vg.Grows.drew ?_) | (with_reducible refine Vg.Grows.setCell ?_ ?_ _) | (with_reducible refine Vg.Grows.put ?_ ?_ _) | omega | (simp; omega) | (simp; done)))) hg1
        exact ⟨_, _, rfl, rq_of_with (x := ⟨L ++ [cost], d, lo⟩) hi H_hR.out H_hn.out H_hN'.out H_hS.out (by simp [go_sem] <;> omega) hgw HQ1.out HQ2.out, by rw [List.map_set], hgw⟩
theorem rq_go {k : Nat} (m cost : Int) (h : RQ w S rs v) (hQ : Vg.Wk.Inv k (rs.map (·.2))) (hS : ∀ j, w.heap.size ≤ j → S j) :
    Calls Try.prog 21 #[v, .int .i64 m, .int .i64 cost] w fun e w' => ∃ rs' v', e = .returned (.tuple #[v', .bool (Vg.Wk.go (rs.map (·.2)) m cost).2.1, .int .i64 (Vg.Wk.go (rs.map (·.2)) m cost).2.2]) ∧ RQ w' S rs' v' ∧ rs'.map (·.2) = (Vg.Wk.go (rs.map (·.2)) m cost).1 ∧ Vg.Grows w w' := by
  obtain ⟨a, c, rfl⟩ := h.shape
  by_cases hm : m < 0 ∨ (rs.length : Int) ≤ m
  · rw [Vg.Wk.go_out (by simpa using hm)]
    have hd : decide (0 ≤ m ∧ m < (rs.length : Int)) = false := by simp; omega
    have H_h := Lib.hid h; clear h; have H_hd := Lib.hid hd; clear hd; have H_hQ := Lib.hid hQ; clear hQ
    go_enter Try.func21, Try.ntmps21
    go_wp2_with ((go_at_call 91; refine (rq_has m _ _ _ _).mono ?_; rintro e w1 ⟨rfl, rfl⟩; rw [H_hd.out]))
    go_returns
    exact ⟨rs, _, rfl, H_h.out, rfl, by (repeat' (first | (with_reducible exact Vg.Grows.refl _) | (with_reducible assumption) | (with_reducible refine Vg.Grows.alloc ?_ _) | (with_reducible refine Vg.Grows.plus ?_ _ _) | (with_reducible refine Vg.Grows.drewN ?_ _) | (with_reducible refine Vg.Grows.drew ?_) | (with_reducible refine Vg.Grows.setCell ?_ ?_ _) | (with_reducible refine Vg.Grows.put ?_ ?_ _) | omega | (simp; omega) | (simp; done)))⟩
  · obtain ⟨i, rfl⟩ : ∃ i : Nat, m = i := ⟨m.toNat, by omega⟩
    have hi : i < rs.length := by omega
    have hi0 : (0 : Int) ≤ i := by omega
    have hi1 : (i : Int) < rs.length := by omega
    have hd : decide ((0 : Int) ≤ i ∧ (i : Int) < (rs.length : Int)) = true := by simp; omega
    have hql : rs.length ≤ 64 := by simpa using hQ.len
    obtain ⟨hq1, hq2, hq3, hq4, hq5⟩ := hQ.at i (by simpa using hi)
    rw [Vg.Wk.go_in (by simpa using hi)]
    rw [List.getElem_map] at hq1 hq2 hq3 hq4 hq5 ⊢
    have hp := (h.pcs i hi).1
    have hu := h.ush i hi
    have hrl := Vg.rqcells_length rs
    obtain ⟨g, o, rfl, hg2, hc1, hc2, c0, c1, c3⟩ := h.row.1.rqueue i hi
    obtain ⟨⟨u, ⟨L, d, lo⟩⟩, hx⟩ : ∃ x, rs[i] = x := ⟨_, rfl⟩
    rw [hx] at c0 c1 c3 hp hu hq1 hq2 hq3 hq4 hq5 ⊢
    simp only [] at c0 c1 c3 hp hu hq1 hq2 hq3 hq4 hq5 ⊢
    obtain ⟨ua, uc, rfl⟩ := hu
    obtain ⟨n, hn⟩ : ∃ n, rs.length = n := ⟨_, rfl⟩
    have hR : RQ w S rs (.slice (some ⟨g, o, none⟩) n c) := by rw [← hn]; exact h
    rw [hn] at hi1 hd hql hc1 hrl ⊢
    cases L with
    | nil =>
      have H_h := Lib.hid h; clear h; have H_hx := Lib.hid hx; clear hx; have H_hp := Lib.hid hp; clear hp; have H_hd := Lib.hid hd; clear hd; have H_hQ := Lib.hid hQ; clear hQ; have H_hq5 := Lib.hid hq5; clear hq5; have H_hn := Lib.hid hn; clear hn; have H_hR := Lib.hid hR; clear hR
      go_enter Try.func21, Try.ntmps21
      go_wp2_with ((go_at_call 91; refine (rq_has i _ _ _ _).mono ?_; rintro e w1 ⟨rfl, rfl⟩; rw [H_hd.out]))
      go_returns
      exact ⟨rs, _, rfl, H_hR.out.grows (by (repeat' (first | (with_reducible exact Vg.Grows.refl _) | (with_reducible assumption) | (with_reducible refine Vg.Grows.alloc ?_ _) | (with_reducible refine Vg.Grows.plus ?_ _ _) | (with_reducible refine Vg.Grows.drewN ?_ _) | (with_reducible refine Vg.Grows.drew ?_) | (with_reducible refine Vg.Grows.setCell ?_ ?_ _) | (with_reducible refine Vg.Grows.put ?_ ?_ _) | omega | (simp; omega) | (simp; done)))), rfl, by (repeat' (first | (with_reducible exact Vg.Grows.refl _) | (with_reducible assumption) | (with_reducible refine Vg.Grows.alloc ?_ _) | (with_reducible refine Vg.Grows.plus ?_ _ _) | (with_reducible refine Vg.Grows.drewN ?_ _) | (with_reducible refine Vg.Grows.drew ?_) | (with_reducible refine Vg.Grows.setCell ?_ ?_ _) | (with_reducible refine Vg.Grows.put ?_ ?_ _) | omega | (simp; omega) | (simp; done)))⟩
    | cons x l =>
      obtain ⟨g2, o2, rfl, hl2, hc3, hc4, hx2⟩ := hp.open (by simp)
      have hcell : w.cell? ⟨g2, o2, none⟩ = some (.int .i64 x) := by simpa using hx2 0 (by simp)
      have hc4 : uc ≤ 9223372036854775807 := hc4
      have hx1 := hq5 x (by simp)
      have hz : ((l.length : Int) + 1 == 0) = false := by simp; omega
      simp only [List.length_cons] at hc3 hq4 c1 hp
      obtain ⟨N, hN⟩ : ∃ N, l.length = N := ⟨_, rfl⟩
      rw [hN] at hc3 hz hq4 c1 hp
      clear hx2
      dsimp only
      by_cases hbad : cost < 0 ∨ x < cost
      · rw [if_pos hbad]
        have H_h := Lib.hid h; clear h; have H_hx := Lib.hid hx; clear hx; have H_hp := Lib.hid hp; clear hp; have H_hd := Lib.hid hd; clear hd; have H_hQ := Lib.hid hQ; clear hQ; have H_hq5 := Lib.hid hq5; clear hq5; have H_hn := Lib.hid hn; clear hn; have H_hR := Lib.hid hR; clear hR; have H_hN := Lib.hid hN; clear hN
        by_cases h0 : cost < 0
        · clear hbad
          go_enter Try.func21, Try.ntmps21
          go_wp2_with ((go_at_call 91; refine (rq_has i _ _ _ _).mono ?_; rintro e w1 ⟨rfl, rfl⟩; rw [H_hd.out]))
          go_returns
          exact ⟨rs, _, rfl, H_hR.out.grows (by (repeat' (first | (with_reducible exact Vg.Grows.refl _) | (with_reducible assumption) | (with_reducible refine Vg.Grows.alloc ?_ _) | (with_reducible refine Vg.Grows.plus ?_ _ _) | (with_reducible refine Vg.Grows.drewN ?_ _) | (with_reducible refine Vg.Grows.drew ?_) | (with_reducible refine Vg.Grows.setCell ?_ ?_ _) | (with_reducible refine Vg.Grows.put ?_ ?_ _) | omega | (simp; omega) | (simp; done)))), rfl, by (repeat' (first | (with_reducible exact Vg.Grows.refl _) | (with_reducible assumption) | (with_reducible refine Vg.Grows.alloc ?_ _) | (with_reducible refine Vg.Grows.plus ?_ _ _) | (with_reducible refine Vg.Grows.drewN ?_ _) | (with_reducible refine Vg.Grows.drew ?_) | (with_reducible refine Vg.Grows.setCell ?_ ?_ _) | (with_reducible refine Vg.Grows.put ?_ ?_ _) | omega | (simp; omega) | (simp; done)))⟩
        · have h1 : x < cost := by omega
          clear hbad
          go_enter Try.func21, Try.ntmps21
          go_wp2_with ((go_at_call 91; refine (rq_has i _ _ _ _).mono ?_; rintro e w1 ⟨rfl, rfl⟩; rw [H_hd.out]))
          go_returns
          exact ⟨rs, _, rfl, H_hR.out.grows (by (repeat' (first | (with_reducible exact Vg.Grows.refl _) | (with_reducible assumption) | (with_reducible refine Vg.Grows.alloc ?_ _) | (with_reducible refine Vg.Grows.plus ?_ _ _) | (with_reducible refine Vg.Grows.drewN ?_ _) | (with_reducible refine Vg.Grows.drew ?_) | (with_reducible refine Vg.Grows.setCell ?_ ?_ _) | (with_reducible refine Vg.Grows.put ?_ ?_ _) | omega | (simp; omega) | (simp; done)))), rfl, by (repeat' (first | (with_reducible exact Vg.Grows.refl _) | (with_reducible assumption) | (with_reducible refine Vg.Grows.alloc ?_ _) | (with_reducible refine Vg.Grows.plus ?_ _ _) | (with_reducible refine Vg.Grows.drewN ?_ _) | (with_reducible refine Vg.Grows.drew ?_) | (with_reducible refine Vg.Grows.setCell ?_ ?_ _) | (with_reducible refine Vg.Grows.put ?_ ?_ _) | omega | (simp; omega) | (simp; done)))⟩
      · rw [if_neg hbad]
        have hk1 : ¬ cost < 0 := by omega
        have hk2 : ¬ x < cost := by omega
        clear hbad
        have hsub : IntKind.i64.wrap (x - cost) = x - cost := by rw [IntWalk.i64_in _ (by omega)]
        have hN' : (x :: l).length = N + 1 := by simp [hN]
        have hN64 : N + 1 ≤ 64 := by omega
        by_cases hlt : cost < x
        · rw [if_pos hlt]
          have H_h := Lib.hid h; clear h; have H_hx := Lib.hid hx; clear hx; have H_hp := Lib.hid hp; clear hp; have H_hd := Lib.hid hd; clear hd; have H_hQ := Lib.hid hQ; clear hQ; have H_hq5 := Lib.hid hq5; clear hq5; have H_hn := Lib.hid hn; clear hn; have H_hR := Lib.hid hR; clear hR; have H_hN := Lib.hid hN; clear hN; have H_hN' := Lib.hid hN'; clear hN'; have H_hrl := Lib.hid hrl; clear hrl; have H_hS := Lib.hid hS; clear hS
          go_enter Try.func21, Try.ntmps21
          go_upto_region 9 with (first | (go_at_call 91; refine (rq_has i _ _ _ _).mono ?_; rintro e w1 ⟨rfl, rfl⟩; rw [H_hd.out]) | (go_at_call 92; refine (rq_with (i := i) (L := x :: l) (d := d) (lo := lo) hi (H_hR.out.grows (by (repeat' (first | (with_reducible exact Vg.Grows.refl _) | (with_reducible assumption) | (with_reducible refine Vg.Grows.alloc ?_ _) | (with_reducible refine Vg.Grows.plus ?_ _ _) | (with_reducible refine Vg.Grows.drewN ?_ _) | (with_reducible refine Vg.Grows.drew ?_) | (with_reducible refine Vg.Grows.setCell ?_ ?_ _) | (with_reducible refine Vg.Grows.put ?_ ?_ _) | omega | (simp; omega) | (simp; done))))) (H_hp.out.grows (by (repeat' (first | (with_reducible exact Vg.Grows.refl _) | (with_reducible assumption) | (with_reducible refine Vg.Grows.alloc ?_ _) | (with_reducible refine Vg.Grows.plus ?_ _ _) | (with_reducible refine Vg.Grows.drewN ?_ _) | (with_reducible refine Vg.Grows.drew ?_) | (with_reducible refine Vg.Grows.setCell ?_ ?_ _) | (with_reducible refine Vg.Grows.put ?_ ?_ _) | omega | (simp; omega) | (simp; done))))) H_hN'.out H_hn.out hql hN64).mono ?_; rintro e w1 ⟨g1, o1, cc1, ua1, uc1, rfl, q1, q2, hne, hg1⟩; have hgw : Vg.Grows w w1 := Vg.Grows.trans (by (repeat' (first | (with_reducible exact Vg.Grows.refl _) | (with_reducible assumption) | (with_reducible refine Vg.Grows.alloc ?_ _) | (with_reducible refine Vg.Grows.plus ?_ _ _) | (with_reducible refine Vg.Grows.drewN ?_ _) | (with_reducible refine Vg.Grows.drew ?_) | (with_reducible refine Vg.Grows.setCell ?_ ?_ _) | (with_reducible refine Vg.Grows.put ?_ ?_ _) | omega | (simp; omega) | (simp; done)))) hg1; have hBw : w.heap.size ≤ (w.alloc (rqC d (.slice (some ⟨g2, o2, none⟩) (N + 1) uc) lo)).heap.size := (by simp)))
          obtain ⟨B, hB⟩ : ∃ B, (w.alloc (rqC d (.slice (some ⟨g2, o2, none⟩) (N + 1) uc) lo)).heap.size = B := ⟨_, rfl⟩
          rw [hB] at q1 q2 hBw
          have r1 := q1.reads
          have hlset : (rs.set i (.slice ua1 (N + 1) uc1, (⟨x :: l, d, lo⟩ : Vg.Wq))).length = n := by rw [List.length_set]; exact H_hn.out
          have hget : (rs.set i (.slice ua1 (N + 1) uc1, (⟨x :: l, d, lo⟩ : Vg.Wq)))[i]'(by simpa using hi) = (.slice ua1 (N + 1) uc1, ⟨x :: l, d, lo⟩) := List.getElem_set_self _
          have r1' : Vg.Reads B w1 (.slice (some ⟨g1, o1, none⟩) (rs.set i (.slice ua1 (N + 1) uc1, (⟨x :: l, d, lo⟩ : Vg.Wq))).length cc1) (rs.set i (.slice ua1 (N + 1) uc1, (⟨x :: l, d, lo⟩ : Vg.Wq))).length (Vg.rqcells (rs.set i (.slice ua1 (N + 1) uc1, (⟨x :: l, d, lo⟩ : Vg.Wq)))) := by rw [hlset]; exact r1
          obtain ⟨g1', o1', he1, hgl1, hcc1, hcc2, -, d1, -⟩ := r1'.rqueue i (by simpa using hi)
          simp only [Option.some.injEq, Addr.mk.injEq] at he1
          obtain ⟨rfl, rfl, -⟩ := he1
          rw [hget] at d1
          rw [hlset] at hcc1
          simp only [] at d1
          have q2' : Vg.Que w1 B 2 1 (.slice ua1 (N + 1) uc1) (l.length + 1) (Vg.ics (x :: l)) := by rw [H_hN.out]; exact q2
          obtain ⟨g3, o3, uc3, he3, hb3, hl3, hc5, hc6, d2⟩ := Vg.Que.head q2'
          simp only [Value.slice.injEq] at he3
          obtain ⟨rfl, -, rfl⟩ := he3
          have hne3 : g3 ≠ g1 := hne g3 rfl
          have hne4 : g1 ≠ g3 := fun hh => hne3 hh.symm
          have f2 := q2.frozen
          have f1 := q1.frozen
          have s2 := q2.set (j := 0) (u := .int .i64 (x - cost)) (by simp)
          simp only [Nat.add_zero, Vg.ics, List.map_cons, List.set_cons_zero] at s2
          obtain ⟨W3, hW3⟩ : ∃ W3, w1.setCell ⟨g3, o3, none⟩ (.int .i64 (x - cost)) = W3 := ⟨_, rfl⟩
          rw [hW3] at s2
          obtain ⟨q3, s3⟩ := s2
          have row3 := q1.kept (w' := W3) fun k hk => s3.block k (fun hh => by simp [Value.ownBlock] at hk; omega)
          have e1 : W3.cell? ⟨g1, o1 + i * 3 + 1, none⟩ = some (.slice (some ⟨g3, o3, none⟩) (N + 1) uc1) := (World.cell?_of_block (w := w1) (s3.block g1 hne4)).trans d1
          have e2 : W3.cell? ⟨g3, o3, none⟩ = some (.int .i64 (x - cost)) := by
            have q3' : Vg.Que W3 B 2 1 (.slice (some ⟨g3, o3, none⟩) (l.length + 1) uc1) (l.length + 1) (Vg.ics ((x - cost) :: l)) := by rw [H_hN.out]; exact q3
            obtain ⟨g', o', c', he, -, -, -, -, hcell'⟩ := Vg.Que.head q3'
            simp only [Value.slice.injEq, Option.some.injEq, Addr.mk.injEq] at he
            obtain ⟨⟨rfl, rfl, _⟩, _⟩ := he
            exact hcell'
          have hl3' : g3 < W3.heap.size := (q3.lt g3 rfl).2
          have hl1' : g1 < W3.heap.size := (row3.lt g1 rfl).2
          have f3 := row3.frozen
          have hgw3 : Vg.Grows w W3 := s3.grows hgw (fun k hk => by subst hk; exact Nat.le_trans hBw hb3)
          have hcc5 : N + 1 ≤ uc1 := by rw [H_hN.out] at hc5; exact hc5
          clear r1 r1' q2' hc5
          have H_q1 := Lib.hid q1; clear q1; have H_q2 := Lib.hid q2; clear q2; have H_hlset := Lib.hid hlset; clear hlset; have H_hget := Lib.hid hget; clear hget; have H_hB := Lib.hid hB; clear hB; have H_s3 := Lib.hid s3; clear s3
          go_upto_region 10 with fail
          (try rw [hW3])
          have hpos : 0 < x - cost := by omega
          have hRR := rq_of_with (a := some ⟨g1, o1, none⟩) (c := cc1) (ua := some ⟨g3, o3, none⟩) (uc := uc1) (x := ⟨(x - cost) :: l, d, lo⟩) (N := N + 1) hi H_hR.out H_hn.out (by simp [H_hN.out]) H_hS.out hBw hgw3 (by rw [Vg.rqcells_irr rs i _ _ (x :: l)]; exact row3) q3
          have H_hRR := Lib.hid hRR; clear hRR; have H_row3 := Lib.hid row3; clear row3; have H_q3 := Lib.hid q3; clear q3; have H_hW3 := Lib.hid hW3; clear hW3
          go_wp2_with fail
          go_returns
          exact ⟨_, _, rfl, H_hRR.out, by rw [List.map_set], hgw3⟩
        · rw [if_neg hlt]
          have H_h := Lib.hid h; clear h; have H_hx := Lib.hid hx; clear hx; have H_hp := Lib.hid hp; clear hp; have H_hd := Lib.hid hd; clear hd; have H_hQ := Lib.hid hQ; clear hQ; have H_hq5 := Lib.hid hq5; clear hq5; have H_hn := Lib.hid hn; clear hn; have H_hR := Lib.hid hR; clear hR; have H_hN := Lib.hid hN; clear hN; have H_hN' := Lib.hid hN'; clear hN'; have H_hrl := Lib.hid hrl; clear hrl; have H_hS := Lib.hid hS; clear hS
          go_enter Try.func21, Try.ntmps21
          go_upto_region 9 with (first | (go_at_call 91; refine (rq_has i _ _ _ _).mono ?_; rintro e w1 ⟨rfl, rfl⟩; rw [H_hd.out]) | (go_at_call 92; refine (rq_with (i := i) (L := x :: l) (d := d) (lo := lo) hi (H_hR.out.grows (by (repeat' (first | (with_reducible exact Vg.Grows.refl _) | (with_reducible assumption) | (with_reducible refine Vg.Grows.alloc ?_ _) | (with_reducible refine Vg.Grows.plus ?_ _ _) | (with_reducible refine Vg.Grows.drewN ?_ _) | (with_reducible refine Vg.Grows.drew ?_) | (with_reducible refine Vg.Grows.setCell ?_ ?_ _) | (with_reducible refine Vg.Grows.put ?_ ?_ _) | omega | (simp; omega) | (simp; done))))) (H_hp.out.grows (by (repeat' (first | (with_reducible exact Vg.Grows.refl _) | (with_reducible assumption) | (with_reducible refine Vg.Grows.alloc ?_ _) | (with_reducible refine Vg.Grows.plus ?_ _ _) | (with_reducible refine Vg.Grows.drewN ?_ _) | (with_reducible refine Vg.Grows.drew ?_) | (with_reducible refine Vg.Grows.setCell ?_ ?_ _) | (with_reducible refine Vg.Grows.put ?_ ?_ _) | omega | (simp; omega) | (simp; done))))) H_hN'.out H_hn.out hql hN64).mono ?_; rintro e w1 ⟨g1, o1, cc1, ua1, uc1, rfl, q1, q2, hne, hg1⟩; have hgw : Vg.Grows w w1 := Vg.Grows.trans (by (repeat' (first | (with_reducible exact Vg.Grows.refl _) | (with_reducible assumption) | (with_reducible refine Vg.Grows.alloc ?_ _) | (with_reducible refine Vg.Grows.plus ?_ _ _) | (with_reducible refine Vg.Grows.drewN ?_ _) | (with_reducible refine Vg.Grows.drew ?_) | (with_reducible refine Vg.Grows.setCell ?_ ?_ _) | (with_reducible refine Vg.Grows.put ?_ ?_ _) | omega | (simp; omega) | (simp; done)))) hg1; have hBw : w.heap.size ≤ (w.alloc (rqC d (.slice (some ⟨g2, o2, none⟩) (N + 1) uc) lo)).heap.size := (by simp)))
          obtain ⟨B, hB⟩ : ∃ B, (w.alloc (rqC d (.slice (some ⟨g2, o2, none⟩) (N + 1) uc) lo)).heap.size = B := ⟨_, rfl⟩
          rw [hB] at q1 q2 hBw
          have r1 := q1.reads
          have hlset : (rs.set i (.slice ua1 (N + 1) uc1, (⟨x :: l, d, lo⟩ : Vg.Wq))).length = n := by rw [List.length_set]; exact H_hn.out
          have hget : (rs.set i (.slice ua1 (N + 1) uc1, (⟨x :: l, d, lo⟩ : Vg.Wq)))[i]'(by simpa using hi) = (.slice ua1 (N + 1) uc1, ⟨x :: l, d, lo⟩) := List.getElem_set_self _
          have r1' : Vg.Reads B w1 (.slice (some ⟨g1, o1, none⟩) (rs.set i (.slice ua1 (N + 1) uc1, (⟨x :: l, d, lo⟩ : Vg.Wq))).length cc1) (rs.set i (.slice ua1 (N + 1) uc1, (⟨x :: l, d, lo⟩ : Vg.Wq))).length (Vg.rqcells (rs.set i (.slice ua1 (N + 1) uc1, (⟨x :: l, d, lo⟩ : Vg.Wq)))) := by rw [hlset]; exact r1
          obtain ⟨g1', o1', he1, hgl1, hcc1, hcc2, -, d1, -⟩ := r1'.rqueue i (by simpa using hi)
          simp only [Option.some.injEq, Addr.mk.injEq] at he1
          obtain ⟨rfl, rfl, -⟩ := he1
          rw [hget] at d1
          rw [hlset] at hcc1
          simp only [] at d1
          have q2' : Vg.Que w1 B 2 1 (.slice ua1 (N + 1) uc1) (l.length + 1) (Vg.ics (x :: l)) := by rw [H_hN.out]; exact q2
          obtain ⟨g3, o3, uc3, he3, hb3, hl3, hc5, hc6, d2⟩ := Vg.Que.head q2'
          simp only [Value.slice.injEq] at he3
          obtain ⟨rfl, -, rfl⟩ := he3
          have hne3 : g3 ≠ g1 := hne g3 rfl
          have hne4 : g1 ≠ g3 := fun hh => hne3 hh.symm
          have f2 := q2.frozen
          have f1 := q1.frozen
          have s2 := q2.set (j := 0) (u := .int .i64 (x - cost)) (by simp)
          simp only [Nat.add_zero, Vg.ics, List.map_cons, List.set_cons_zero] at s2
          obtain ⟨W3, hW3⟩ : ∃ W3, w1.setCell ⟨g3, o3, none⟩ (.int .i64 (x - cost)) = W3 := ⟨_, rfl⟩
          rw [hW3] at s2
          obtain ⟨q3, s3⟩ := s2
          have row3 := q1.kept (w' := W3) fun k hk => s3.block k (fun hh => by simp [Value.ownBlock] at hk; omega)
          have e1 : W3.cell? ⟨g1, o1 + i * 3 + 1, none⟩ = some (.slice (some ⟨g3, o3, none⟩) (N + 1) uc1) := (World.cell?_of_block (w := w1) (s3.block g1 hne4)).trans d1
          have e2 : W3.cell? ⟨g3, o3, none⟩ = some (.int .i64 (x - cost)) := by
            have q3' : Vg.Que W3 B 2 1 (.slice (some ⟨g3, o3, none⟩) (l.length + 1) uc1) (l.length + 1) (Vg.ics ((x - cost) :: l)) := by rw [H_hN.out]; exact q3
            obtain ⟨g', o', c', he, -, -, -, -, hcell'⟩ := Vg.Que.head q3'
            simp only [Value.slice.injEq, Option.some.injEq, Addr.mk.injEq] at he
            obtain ⟨⟨rfl, rfl, _⟩, _⟩ := he
            exact hcell'
          have hl3' : g3 < W3.heap.size := (q3.lt g3 rfl).2
          have hl1' : g1 < W3.heap.size := (row3.lt g1 rfl).2
          have f3 := row3.frozen
          have hgw3 : Vg.Grows w W3 := s3.grows hgw (fun k hk => by subst hk; exact Nat.le_trans hBw hb3)
          have hcc5 : N + 1 ≤ uc1 := by rw [H_hN.out] at hc5; exact hc5
          clear r1 r1' q2' hc5
          have H_q1 := Lib.hid q1; clear q1; have H_q2 := Lib.hid q2; clear q2; have H_hlset := Lib.hid hlset; clear hlset; have H_hget := Lib.hid hget; clear hget; have H_hB := Lib.hid hB; clear hB; have H_s3 := Lib.hid s3; clear s3
          go_upto_region 10 with fail
          (try rw [hW3])
          have hx0 : x - cost = 0 := by omega
          rw [hx0] at e2
          have l1 : i * 3 + 1 < (Vg.rqcells (rs.set i (.slice (some ⟨g3, o3, none⟩) (N + 1) uc1, (⟨x :: l, d, lo⟩ : Vg.Wq)))).length := by rw [Vg.rqcells_length, List.length_set, H_hn.out]; omega
          by_cases hcc : uc1 = 1
          · subst hcc
            have hll : N = 0 := by omega
            subst hll
            have q5 := q3.tail1
            have s5 := row3.set (j := i * 3 + 1) (u := .slice (some ⟨g3, o3, none⟩) 0 0) l1
            rw [Vg.rqcells_cut rs i hi _ _ (x :: l) l, ← Nat.add_assoc] at s5
            have q6 := q5.kept (w' := W3.setCell ⟨g1, o1 + i * 3 + 1, none⟩ (.slice (some ⟨g3, o3, none⟩) 0 0)) (fun k hk => s5.2.block k (fun hh => by simp [Value.ownBlock] at hk; omega))
            have hgw5 := s5.2.grows hgw3 (fun k hk => by have := (row3.lt g1 rfl).1; omega)
            have hRR := rq_of_with (a := some ⟨g1, o1, none⟩) (c := cc1) (ua := some ⟨g3, o3, none⟩) (uc := 0) (x := ⟨l, d, lo⟩) (N := 0) hi H_hR.out H_hn.out H_hN.out H_hS.out hBw hgw5 s5.1 q6
            have H_hRR := Lib.hid hRR; clear hRR; have H_row3 := Lib.hid row3; clear row3; have H_q3 := Lib.hid q3; clear q3; have H_hW3 := Lib.hid hW3; clear hW3; have H_q5 := Lib.hid q5; clear q5; have H_s5 := Lib.hid s5; clear s5; have H_q6 := Lib.hid q6; clear q6; have H_hgw5 := Lib.hid hgw5; clear hgw5
            go_wp2_with fail
            go_returns
            exact ⟨_, _, rfl, H_hRR.out, by rw [List.map_set], H_hgw5.out⟩
          · have hcc7 : 2 ≤ uc1 := by omega
            have q5 := q3.tail
            simp only [List.drop_succ_cons, List.drop_zero] at q5
            have s5 := row3.set (j := i * 3 + 1) (u := .slice (some ⟨g3, o3 + 1, none⟩) N (uc1 - 1)) l1
            rw [Vg.rqcells_cut rs i hi _ _ (x :: l) l, ← Nat.add_assoc] at s5
            have q6 := q5.kept (w' := W3.setCell ⟨g1, o1 + i * 3 + 1, none⟩ (.slice (some ⟨g3, o3 + 1, none⟩) N (uc1 - 1))) (fun k hk => s5.2.block k (fun hh => by simp [Value.ownBlock] at hk; omega))
            have hgw5 := s5.2.grows hgw3 (fun k hk => by have := (row3.lt g1 rfl).1; omega)
            have hRR := rq_of_with (a := some ⟨g1, o1, none⟩) (c := cc1) (ua := some ⟨g3, o3 + 1, none⟩) (uc := uc1 - 1) (x := ⟨l, d, lo⟩) (N := N) hi H_hR.out H_hn.out H_hN.out H_hS.out hBw hgw5 s5.1 q6
            have H_hRR := Lib.hid hRR; clear hRR; have H_row3 := Lib.hid row3; clear row3; have H_q3 := Lib.hid q3; clear q3; have H_hW3 := Lib.hid hW3; clear hW3; have H_q5 := Lib.hid q5; clear q5; have H_s5 := Lib.hid s5; clear s5; have H_q6 := Lib.hid q6; clear q6; have H_hgw5 := Lib.hid hgw5; clear hgw5
            go_wp2_with fail
            go_returns
            exact ⟨_, _, rfl, H_hRR.out, by rw [List.map_set], H_hgw5.out⟩
end
end Go.Proofs.Ytiinhofmhoplfaa
