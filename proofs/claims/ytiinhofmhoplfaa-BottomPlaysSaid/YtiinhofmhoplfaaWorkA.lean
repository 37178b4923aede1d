/- Package work: Put, Go. -/
import Derived.Test.YtiinhofmhoplfaaWork
set_option linter.unusedSimpArgs false
set_option linter.unusedVariables false
set_option maxHeartbeats 2000000
set_option maxRecDepth 100000
namespace Vg
open Go
/-- No more room than what is there. -/
theorem Que.clip {w : World} {B : Nat} {e : TypeId} {size n c : Nat} {a : Option Addr} {xs : List Value} (h : Que w B e size (.slice a n c) n xs) : Que w B e size (.slice a n n) n xs := by
  refine ⟨h.1, ?_⟩
  rcases h.2 with ⟨h0, rfl⟩ | ⟨g, o, cap, cur, hv, hb, hg, hn, hm, hcs, ht⟩
  · simp only [Value.slice.injEq] at h0
    exact .inl ⟨by rw [h0.1], rfl⟩
  · simp only [Value.slice.injEq] at hv
    obtain ⟨rfl, _, rfl⟩ := hv
    exact .inr ⟨g, o, n, cur, rfl, hb, hg, Nat.le_refl _, Nat.le_trans hn hm, Nat.le_trans (Nat.add_le_add_left (Nat.mul_le_mul_right _ hn) _) hcs, ht⟩
theorem Que.cases {w : World} {B : Nat} {e : TypeId} {size n c : Nat} {a : Option Addr} {xs : List Value} (h : Que w B e size (.slice a n c) n xs) : (a = none ∧ n = 0 ∧ c = 0) ∨ ∃ g o, a = some ⟨g, o, none⟩ ∧ B ≤ g ∧ g < w.heap.size ∧ n ≤ c ∧ c ≤ 9223372036854775807 := by
  rcases h.2 with ⟨h0, rfl⟩ | ⟨g, o, cap, cur, hv, hb, hg, hn, hm, hcs, ht⟩
  · simp only [Value.slice.injEq] at h0
    exact .inl ⟨h0.1, rfl, h0.2.2⟩
  · simp only [Value.slice.injEq] at hv
    obtain ⟨rfl, _, rfl⟩ := hv
    have hm : c ≤ 9223372036854775807 := hm
    exact .inr ⟨g, o, rfl, hb, (Array.getElem?_eq_some_iff.1 hg).1, hn, hm⟩
def Wq.ok (q : Wq) : Prop := q.depth ≤ 64 ∧ 0 ≤ q.lost ∧ q.lost ≤ 1000000 ∧ ∀ x ∈ q.L, 1 ≤ x ∧ x ≤ 1099511627776
end Vg
namespace Go.Proofs.Ytiinhofmhoplfaa
open Go.ChangeShapes Go.WideShapes Go.ChangeAt Go.RowKit
section
variable {w w' : World} {b B S : Nat} {qs : List Vg.Wp} {v : Value}
theorem Try.info_i64 : (Try.prog.info? 2).map (fun i => (i.zero, i.size, i.bytes)) = some (some (.int .i64 0), 1, 8) := by kernel_rfl
/-- What a call that writes leaves. -/
def WKn (w w' : World) (b B : Nat) (qs : List Vg.Wp) (v : Value) (Q : List Vg.Wq) : Prop :=
  ∃ qs', WK w' b B qs' v ∧ qs'.map (·.2) = Q ∧ Vg.Touch (wown v qs) w w' ∧ ∀ k, wown v qs' k → wown v qs k ∨ w.heap.size ≤ k
theorem WKn.same (h : WK w b B qs v) : WKn w w b B qs v (qs.map (·.2)) := ⟨qs, h, rfl, Vg.Touch.refl _ _, fun k hk => .inl hk⟩
theorem wown_set {i : Nat} {u : Value} {q : Vg.Wq} {n : Nat} (hi : i < qs.length) (hnew : ∀ k, u.ownBlock = some k → qs[i].1.ownBlock = some k ∨ n ≤ k) : ∀ k, wown v (qs.set i (u, q)) k → wown v qs k ∨ n ≤ k := by
  rintro k (hk | ⟨j, hj, hk⟩)
  · exact .inl (.inl hk)
  · have hj' : j < qs.length := by simpa using hj
    by_cases hji : j = i
    · subst hji
      rw [List.getElem_set_self] at hk
      rcases hnew k hk with h1 | h1
      · exact .inl (.inr ⟨j, hj', h1⟩)
      · exact .inr h1
    · rw [List.getElem_set_ne (fun hh => hji hh.symm)] at hk
      exact .inl (.inr ⟨j, hj', hk⟩)
theorem WKn.of_upd {i : Nat} (hi : i < qs.length) (h : WK w b B qs v) (hb : b < B) (u : Value) (q : Vg.Wq) (hs : Vg.Touch (wown v qs) w w')
    (hrow : Vg.Que w' B 151 3 v qs.length (Vg.qcells (qs.set i (u, q)))) (hu : Vg.Que w' B 2 1 u q.L.length (Vg.ics q.L))
    (hk : ∀ j (hj : j < qs.length), j ≠ i → ∀ k, qs[j].1.ownBlock = some k → Vg.blk w' k = Vg.blk w k)
    (hnew : ∀ k, u.ownBlock = some k → qs[i].1.ownBlock = some k ∨ w.heap.size ≤ k) : WKn w w' b B qs v ((qs.map (·.2)).set i q) :=
  ⟨qs.set i (u, q), h.upd hi u q (hs.block b h.lt fun hh => by have := (h.own b hh).1; omega) hrow hu hk hnew, by rw [List.map_set], hs, wown_set hi hnew⟩
/-- A cell of the row alone has changed. -/
theorem WKn.of_row {i n g o c : Nat} (hi : i < qs.length) (h : WK w b B qs (.slice (some ⟨g, o, none⟩) n c)) (hb : b < B) (q : Vg.Wq) (hL : q.L = qs[i].2.L) (hT : Vg.Touch (fun k => k = g) w w')
    (hrow : Vg.Que w' B 151 3 (.slice (some ⟨g, o, none⟩) n c) qs.length (Vg.qcells (qs.set i (qs[i].1, q)))) : WKn w w' b B qs (.slice (some ⟨g, o, none⟩) n c) ((qs.map (·.2)).set i q) := by
  have key : ∀ j (hj : j < qs.length), ∀ k, qs[j].1.ownBlock = some k → Vg.blk w' k = Vg.blk w k := fun j hj k hk =>
    hT.block k ((h.pcs j hj).lt k hk).2 fun hh => h.off j hj k hk (by rw [hh]; rfl)
  refine WKn.of_upd hi h hb _ q (hT.mono fun k _ hk => .inl (by rw [hk]; rfl)) hrow ?_ (fun j hj _ k hk => key j hj k hk) fun k hk => .inl hk
  rw [hL]
  exact (h.pcs i hi).kept (key i hi)
theorem wk_put_end {W2 : World} {i g o c n2 s : Nat} {u u2 : Value} {L : List Int} {d lo cost : Int} (hi : i < qs.length) (h : WK w b B qs (.slice (some ⟨g, o, none⟩) qs.length c)) (hb : b < B) (hx : qs[i] = (u, ⟨L, d, lo⟩))
    (hof : ∀ k, u.ownBlock = some k → (Value.slice (some ⟨g, o, none⟩) qs.length c).ownBlock ≠ some k) (ht2 : Vg.Touch (fun j => u.ownBlock = some j) w W2)
    (hrow2 : Vg.Que W2 B 151 3 (.slice (some ⟨g, o, none⟩) qs.length c) qs.length (Vg.qcells qs)) (hq2 : Vg.Que W2 B 2 1 u2 n2 (Vg.ics L ++ [.int .i64 cost])) (hn2 : n2 = L.length + 1)
    (ho2 : u2.ownBlock = u.ownBlock ∨ u2.ownBlock = some s) (hs : w.heap.size ≤ s) :
    WKn w (W2.setCell ⟨g, o + i * 3, none⟩ u2) b B qs (.slice (some ⟨g, o, none⟩) qs.length c) ((qs.map (·.2)).set i ⟨L ++ [cost], d, lo⟩) := by
  subst hn2
  have hg2 : g < w.heap.size := (h.row.lt g rfl).2
  have hql := Vg.qcells_length qs
  have q1 := hrow2.set (j := i * 3) (u := u2) (by rw [hql]; omega)
  rw [Vg.qcells_set0 qs i hi u2 (L ++ [cost]), hx] at q1
  have hT : Vg.Touch (fun k => u.ownBlock = some k ∨ k = g) w (W2.setCell ⟨g, o + i * 3, none⟩ u2) := (ht2.mono fun k _ hk => .inl hk).trans ((Vg.Touch.of_same q1.2).mono fun k _ hk => .inr hk)
  have hne : ∀ k, u2.ownBlock = some k → k ≠ g := fun k hk hh => by
    subst hh
    rcases ho2 with h1 | h1
    · exact hof k (h1.symm.trans hk) rfl
    · have : some k = some s := hk.symm.trans h1
      cases this
      omega
  refine WKn.of_upd hi h hb u2 ⟨L ++ [cost], d, lo⟩ (hT.mono fun k _ hk => ?_) q1.1 ?_ (fun j hj hji k hk => hT.block k ((h.pcs j hj).lt k hk).2 fun hh => ?_) fun k hk => ?_
  · rcases hk with hk | hk
    · exact .inr ⟨i, hi, by rw [hx]; exact hk⟩
    · exact .inl (by rw [hk]; rfl)
  · have e1 : (L ++ [cost]).length = L.length + 1 := by simp
    rw [show (⟨L ++ [cost], d, lo⟩ : Vg.Wq).L = L ++ [cost] from rfl, e1, show Vg.ics (L ++ [cost]) = Vg.ics L ++ [.int .i64 cost] by simp [Vg.ics]]
    exact hq2.kept fun k hk => q1.2.block k (hne k hk)
  · rcases hh with hh | hh
    · exact h.apart j i hj hi hji k hk (by rw [hx]; exact hh)
    · exact h.off j hj k hk (by rw [hh]; rfl)
  · rcases ho2 with h1 | h1
    · exact .inl (by rw [hx]; exact h1.symm.trans hk)
    · have : some k = some s := hk.symm.trans h1
      cases this
      exact .inr hs
theorem wk_put (m cost : Int) (h : WK w b B qs v) (hb : b < B) (hB : B ≤ w.heap.size) (hQ : ∀ i (hi : i < qs.length), qs[i].2.ok) :
    Calls Try.prog 20 #[.pointer (some ⟨b, 0, none⟩), .int .i64 m, .int .i64 cost] w fun e w' => e = .returned (.int .i64 (Vg.Wk.put (qs.map (·.2)) m cost).2) ∧ WKn w w' b B qs v (Vg.Wk.put (qs.map (·.2)) m cost).1 := by
  by_cases hm : m < 0 ∨ (qs.length : Int) ≤ m
  · rw [Vg.Wk.put_out (by simpa using hm)]
    have H_h := Lib.hid h; clear h; have H_hQ := Lib.hid hQ; clear hQ
    go_enter Try.func20, Try.ntmps20
    go_wp2_with ((go_at_call 93; refine (work_find_no m H_h.out hm).mono ?_; rintro e w' ⟨rfl, rfl⟩))
    go_ret
    exact ⟨rfl, WKn.same H_h.out⟩
  · obtain ⟨i, rfl⟩ : ∃ i : Nat, m = i := ⟨m.toNat, by omega⟩
    have hi : i < qs.length := by omega
    rw [Vg.Wk.put_in (by simpa using hi)]
    have hp := h.pcs i hi
    have hq := hQ i hi
    obtain ⟨g, o, c, rfl, hg1, hg2, hc1, hc2, c0, c1, c2⟩ := h.row.queue i hi
    have hfz := h.row.frozen
    have hof := h.off i hi
    rw [List.getElem_map]
    obtain ⟨⟨u, ⟨L, d, lo⟩⟩, hx⟩ : ∃ x, qs[i] = x := ⟨_, rfl⟩
    rw [hx] at c0 c1 c2 hp hq hof ⊢
    simp only [Vg.Wq.ok] at c0 c1 c2 hp hq hof ⊢
    obtain ⟨hq1, hq2, hq3, -⟩ := hq
    obtain ⟨N, hN⟩ : ∃ N, L.length = N := ⟨_, rfl⟩
    rw [hN] at hp ⊢
    by_cases hbad : cost < 1 ∨ 1099511627776 < cost
    · rw [if_pos hbad]
      have H_h := Lib.hid h; clear h; have H_hx := Lib.hid hx; clear hx; have H_hp := Lib.hid hp; clear hp; have H_hof := Lib.hid hof; clear hof; have H_hQ := Lib.hid hQ; clear hQ; have H_hN := Lib.hid hN; clear hN
      by_cases h0 : cost < 1
      · clear hbad
        go_enter Try.func20, Try.ntmps20
        go_wp2_with ((go_at_call 93; refine (work_find i hi H_h.out hc1 hc2).mono ?_; rintro e w' ⟨rfl, rfl⟩))
        go_ret
        exact ⟨rfl, WKn.same H_h.out⟩
      · have h1 : 1099511627776 < cost := by omega
        clear hbad
        go_enter Try.func20, Try.ntmps20
        go_wp2_with ((go_at_call 93; refine (work_find i hi H_h.out hc1 hc2).mono ?_; rintro e w' ⟨rfl, rfl⟩))
        go_ret
        exact ⟨rfl, WKn.same H_h.out⟩
    · rw [if_neg hbad]
      have hk1 : ¬ cost < 1 := by omega
      have hk2 : ¬ 1099511627776 < cost := by omega
      clear hbad
      have hql := Vg.qcells_length qs
      by_cases hfull : d ≤ N
      · rw [if_pos hfull]
        obtain ⟨ua, uc, rfl⟩ := hp.shape
        have hsum : IntKind.i64.wrap (lo + 1) = lo + 1 := by rw [IntWalk.i64_in _ (by omega)]
        have H_h := Lib.hid h; clear h; have H_hx := Lib.hid hx; clear hx; have H_hp := Lib.hid hp; clear hp; have H_hof := Lib.hid hof; clear hof; have H_hQ := Lib.hid hQ; clear hQ; have H_hN := Lib.hid hN; clear hN; have H_hql := Lib.hid hql; clear hql
        go_enter Try.func20, Try.ntmps20
        go_wp2_with ((go_at_call 93; refine (work_find i hi H_h.out hc1 hc2).mono ?_; rintro e w' ⟨rfl, rfl⟩))
        go_quiet (fail)
        go_wp2_with fail
        go_ret
        have h1 := H_h.out.grows (w' := w.drewN nq) (by (repeat' (first | (with_reducible exact Vg.Grows.refl _) | (with_reducible assumption) | (with_reducible refine Vg.Grows.alloc ?_ _) | (with_reducible refine Vg.Grows.plus ?_ _ _) | (with_reducible refine Vg.Grows.drewN ?_ _) | (with_reducible refine Vg.Grows.drew ?_) | (with_reducible refine Vg.Grows.setCell ?_ ?_ _) | (with_reducible refine Vg.Grows.put ?_ ?_ _) | omega | (simp; omega) | (simp; done))))
        have q1 := h1.row.set (j := i * 3 + 2) (u := .int .i64 (lo + 1)) (by rw [H_hql.out]; omega)
        rw [Vg.qcells_set2 qs i hi (lo + 1) L, ← Nat.add_assoc, H_hx.out] at q1
        refine ⟨rfl, WKn.of_row hi H_h.out hb _ (by rw [H_hx.out]) ((Vg.Touch.of_grows (w' := w.drewN nq) (by (repeat' (first | (with_reducible exact Vg.Grows.refl _) | (with_reducible assumption) | (with_reducible refine Vg.Grows.alloc ?_ _) | (with_reducible refine Vg.Grows.plus ?_ _ _) | (with_reducible refine Vg.Grows.drewN ?_ _) | (with_reducible refine Vg.Grows.drew ?_) | (with_reducible refine Vg.Grows.setCell ?_ ?_ _) | (with_reducible refine Vg.Grows.put ?_ ?_ _) | omega | (simp; omega) | (simp; done))))).trans (Vg.Touch.of_same q1.2)) ?_⟩
        rw [H_hx.out]
        exact q1.1
      · rw [if_neg hfull]
        obtain ⟨ua, uc, rfl⟩ := hp.shape
        obtain ⟨i0, hI, hz0, hz1, hz2⟩ := info_parts Try.info_i64
        have hpc := hp.clip
        have hN64 : N ≤ 64 := by omega
        rcases hp.cases with ⟨rfl, rfl, rfl⟩ | ⟨g2, o2, rfl, hB2, hl2, hc3, hc4⟩
        all_goals
          have hgo := fun hh => hof g hh rfl
          have H_h := Lib.hid h; clear h; have H_hx := Lib.hid hx; clear hx; have H_hp := Lib.hid hp; clear hp; have H_hof := Lib.hid hof; clear hof; have H_hQ := Lib.hid hQ; clear hQ; have H_hN := Lib.hid hN; clear hN; have H_hql := Lib.hid hql; clear hql; have H_hpc := Lib.hid hpc; clear hpc; have H_hgo := Lib.hid hgo; clear hgo
          go_enter Try.func20, Try.ntmps20
          go_wp2_with ((go_at_call 93; refine (work_find i hi H_h.out hc1 hc2).mono ?_; rintro e w' ⟨rfl, rfl⟩))
          go_quiet (fail)
          go_wp2_with (at_builtin; go_loud (refine Vg.wpList_que (w := _) rfl (.tmp 53) (.tmp 55) 46 rfl B 2 i0 (.int .i64 0) 1 8 Try.underlying46 hI hz0 hz1 hz2 rfl (by decide) _ _ _ rfl (H_hpc.out.grows (by (repeat' (first | (with_reducible exact Vg.Grows.refl _) | (with_reducible assumption) | (with_reducible refine Vg.Grows.alloc ?_ _) | (with_reducible refine Vg.Grows.plus ?_ _ _) | (with_reducible refine Vg.Grows.drewN ?_ _) | (with_reducible refine Vg.Grows.drew ?_) | (with_reducible refine Vg.Grows.setCell ?_ ?_ _) | (with_reducible refine Vg.Grows.put ?_ ?_ _) | omega | (simp; omega) | (simp; done))))) _ 1 1 [.int .i64 cost] rfl rfl (Vg.one_new (by first | rfl | ((try simp only [World.size_alloc, Vg.plus_size, Vg.put_size, World.size_setCell, World.size_drew, World.heap_drewN]) <;> omega))) (by simp [Value.oneCell']) (by decide) (by unfold maxLen; omega) (by omega) (by simp only [World.size_alloc, World.heap_drewN]; omega) ?_); intro v2 W1 y2 m2 hq2 hs2 ho2; obtain ⟨a2, c2', rfl⟩ := hq2.shape; have ht2 := (Vg.Touch.trans (Vg.Touch.of_grows (w := w) (by (repeat' (first | (with_reducible exact Vg.Grows.refl _) | (with_reducible assumption) | (with_reducible refine Vg.Grows.alloc ?_ _) | (with_reducible refine Vg.Grows.plus ?_ _ _) | (with_reducible refine Vg.Grows.drewN ?_ _) | (with_reducible refine Vg.Grows.drew ?_) | (with_reducible refine Vg.Grows.setCell ?_ ?_ _) | (with_reducible refine Vg.Grows.put ?_ ?_ _) | omega | (simp; omega) | (simp; done))))) (Vg.Touch.of_same hs2)).trans (Vg.Touch.of_grows ((Vg.Grows.refl W1).plus y2 m2)); obtain ⟨W2, hW2⟩ : ∃ W2, Vg.plus W1 y2 m2 = W2 := ⟨_, rfl⟩; rw [hW2] at hq2 ht2 ⊢; have hrow2 := H_h.out.row.kept (w' := W2) (fun k hk => ht2.block k (H_h.out.row.lt k hk).2 (fun hh => H_hof.out k hh hk)); have f2 := hrow2.frozen; have d0 := (World.cell?_of_block (w := w) (ht2.block g hg2 H_hgo.out)).trans c0; have hg22 := Nat.lt_of_lt_of_le hg2 ht2.size; have H_hq2 := Lib.hid hq2; clear hq2; have H_hs2 := Lib.hid hs2; clear hs2; have H_ho2 := Lib.hid ho2; clear ho2; have H_ht2 := Lib.hid ht2; clear ht2; have H_hrow2 := Lib.hid hrow2; clear hrow2; have H_hW2 := Lib.hid hW2; clear hW2)
          go_ret
          exact ⟨rfl, wk_put_end hi H_h.out hb H_hx.out H_hof.out H_ht2.out H_hrow2.out H_hq2.out (by rw [H_hN.out]) H_ho2.out (by simp only [World.size_alloc, World.heap_drewN]; omega)⟩
theorem wk_go_end {W2 : World} {i g o c2 g2 o2 n2 : Nat} {uc uc2 : Nat} {o3 : Nat} {L L2 : List Int} {d lo : Int} (hi : i < qs.length) (h : WK w b B qs (.slice (some ⟨g, o, none⟩) qs.length c2)) (hb : b < B) {n : Nat} (hx : qs[i] = (.slice (some ⟨g2, o2, none⟩) n uc, ⟨L, d, lo⟩)) (hne : g ≠ g2)
    (ht2 : Vg.Touch (fun j => j = g2) w W2) (hrow2 : Vg.Que W2 B 151 3 (.slice (some ⟨g, o, none⟩) qs.length c2) qs.length (Vg.qcells qs)) (hq2 : Vg.Que W2 B 2 1 (.slice (some ⟨g2, o3, none⟩) n2 uc2) n2 (Vg.ics L2)) (hn2 : n2 = L2.length) :
    WKn w (W2.setCell ⟨g, o + i * 3, none⟩ (.slice (some ⟨g2, o3, none⟩) n2 uc2)) b B qs (.slice (some ⟨g, o, none⟩) qs.length c2) ((qs.map (·.2)).set i ⟨L2, d, lo⟩) := by
  subst hn2
  have hql := Vg.qcells_length qs
  have q1 := hrow2.set (j := i * 3) (u := .slice (some ⟨g2, o3, none⟩) L2.length uc2) (by rw [hql]; omega)
  rw [Vg.qcells_set0 qs i hi _ L2, hx] at q1
  have hT : Vg.Touch (fun k => k = g2 ∨ k = g) w (W2.setCell ⟨g, o + i * 3, none⟩ (.slice (some ⟨g2, o3, none⟩) L2.length uc2)) := (ht2.mono fun k _ hk => .inl hk).trans ((Vg.Touch.of_same q1.2).mono fun k _ hk => .inr hk)
  refine WKn.of_upd hi h hb _ ⟨L2, d, lo⟩ (hT.mono fun k _ hk => ?_) q1.1 ?_ (fun j hj hji k hk => hT.block k ((h.pcs j hj).lt k hk).2 fun hh => ?_) fun k hk => ?_
  · rcases hk with hk | hk
    · exact .inr ⟨i, hi, by rw [hx, hk]; rfl⟩
    · exact .inl (by rw [hk]; rfl)
  · exact hq2.kept fun k hk => q1.2.block k (fun hh => by simp [Value.ownBlock] at hk; omega)
  · rcases hh with hh | hh
    · exact h.apart j i hj hi hji k hk (by rw [hx, hh]; rfl)
    · exact h.off j hj k hk (by rw [hh]; rfl)
  · exact .inl (by rw [hx]; exact hk)
theorem wk_go_part {W2 : World} {i g o c2 g2 o2 : Nat} {uc : Nat} {L L2 : List Int} {d lo : Int} {n : Nat} (hi : i < qs.length) (h : WK w b B qs (.slice (some ⟨g, o, none⟩) qs.length c2)) (hb : b < B) (hx : qs[i] = (.slice (some ⟨g2, o2, none⟩) n uc, ⟨L, d, lo⟩))
    (ht2 : Vg.Touch (fun j => j = g2) w W2) (hrow2 : Vg.Que W2 B 151 3 (.slice (some ⟨g, o, none⟩) qs.length c2) qs.length (Vg.qcells qs)) (hq2 : Vg.Que W2 B 2 1 (.slice (some ⟨g2, o2, none⟩) n uc) n (Vg.ics L2)) (hn2 : n = L2.length) :
    WKn w W2 b B qs (.slice (some ⟨g, o, none⟩) qs.length c2) ((qs.map (·.2)).set i ⟨L2, d, lo⟩) := by
  subst hn2
  refine WKn.of_upd hi h hb (.slice (some ⟨g2, o2, none⟩) L2.length uc) ⟨L2, d, lo⟩ (ht2.mono fun k _ hk => .inr ⟨i, hi, by rw [hx, hk]; rfl⟩) ?_ hq2 (fun j hj hji k hk => ht2.block k ((h.pcs j hj).lt k hk).2 fun hh => ?_) fun k hk => .inl (by rw [hx]; exact hk)
  · have := Vg.qcells_setL qs i hi L2
    rw [hx] at this
    rw [this]
    exact hrow2
  · exact h.apart j i hj hi hji k hk (by rw [hx, hh]; rfl)
theorem wk_go (m c : Int) (h : WK w b B qs v) (hb : b < B) (hB : B ≤ w.heap.size) (hQ : ∀ i (hi : i < qs.length), qs[i].2.ok) :
    Calls Try.prog 22 #[.pointer (some ⟨b, 0, none⟩), .int .i64 m, .int .i64 c] w fun e w' => e = .returned (.tuple #[.bool (Vg.Wk.go (qs.map (·.2)) m c).2.1, .int .i64 (Vg.Wk.go (qs.map (·.2)) m c).2.2]) ∧ WKn w w' b B qs v (Vg.Wk.go (qs.map (·.2)) m c).1 := by
  by_cases hm : m < 0 ∨ (qs.length : Int) ≤ m
  · rw [Vg.Wk.go_out (by simpa using hm)]
    have H_h := Lib.hid h; clear h; have H_hQ := Lib.hid hQ; clear hQ
    go_enter Try.func22, Try.ntmps22
    go_wp2_with ((go_at_call 93; refine (work_find_no m H_h.out hm).mono ?_; rintro e w' ⟨rfl, rfl⟩))
    go_ret2
    exact ⟨rfl, WKn.same H_h.out⟩
  · obtain ⟨i, rfl⟩ : ∃ i : Nat, m = i := ⟨m.toNat, by omega⟩
    have hi : i < qs.length := by omega
    rw [Vg.Wk.go_in (by simpa using hi)]
    have hp := h.pcs i hi
    have hq := hQ i hi
    obtain ⟨g, o, c2, rfl, hg1, hg2, hc1, hc2, c0, c1, c3⟩ := h.row.queue i hi
    have hfz := h.row.frozen
    have hof := h.off i hi
    rw [List.getElem_map]
    obtain ⟨⟨u, ⟨L, d, lo⟩⟩, hx⟩ : ∃ x, qs[i] = x := ⟨_, rfl⟩
    rw [hx] at c0 c1 c3 hp hq hof ⊢
    simp only [Vg.Wq.ok] at c0 c1 c3 hp hq hof ⊢
    obtain ⟨-, -, -, hq4⟩ := hq
    cases L with
    | nil =>
      obtain ⟨ua, uc, rfl⟩ := hp.shape
      have H_h := Lib.hid h; clear h; have H_hx := Lib.hid hx; clear hx; have H_hp := Lib.hid hp; clear hp; have H_hof := Lib.hid hof; clear hof; have H_hQ := Lib.hid hQ; clear hQ; have H_hq4 := Lib.hid hq4; clear hq4
      go_enter Try.func22, Try.ntmps22
      go_wp2_with ((go_at_call 93; refine (work_find i hi H_h.out hc1 hc2).mono ?_; rintro e w' ⟨rfl, rfl⟩))
      go_ret2
      exact ⟨rfl, WKn.same H_h.out⟩
    | cons x l =>
      dsimp only
      obtain ⟨g2, o2, uc, rfl, hB2, hl2, hc3, hc4, hcell⟩ := Vg.Que.head hp
      have hx1 := hq4 x (by simp)
      have hfp := hp.frozen
      have hne : g ≠ g2 := fun hh => hof g2 rfl (by rw [hh]; rfl)
      have hz : ((l.length : Int) + 1 == 0) = false := by simp; omega
      by_cases hbad : c < 0 ∨ x < c
      · rw [if_pos hbad]
        have H_h := Lib.hid h; clear h; have H_hx := Lib.hid hx; clear hx; have H_hp := Lib.hid hp; clear hp; have H_hof := Lib.hid hof; clear hof; have H_hQ := Lib.hid hQ; clear hQ; have H_hq4 := Lib.hid hq4; clear hq4
        by_cases h0 : c < 0
        · clear hbad
          go_enter Try.func22, Try.ntmps22
          go_wp2_with ((go_at_call 93; refine (work_find i hi H_h.out hc1 hc2).mono ?_; rintro e w' ⟨rfl, rfl⟩))
          go_ret2
          exact ⟨rfl, WKn.same H_h.out⟩
        · have h1 : x < c := by omega
          clear hbad
          go_enter Try.func22, Try.ntmps22
          go_wp2_with ((go_at_call 93; refine (work_find i hi H_h.out hc1 hc2).mono ?_; rintro e w' ⟨rfl, rfl⟩))
          go_ret2
          exact ⟨rfl, WKn.same H_h.out⟩
      · rw [if_neg hbad]
        have hk1 : ¬ c < 0 := by omega
        have hk2 : ¬ x < c := by omega
        clear hbad
        have hsub : IntKind.i64.wrap (x - c) = x - c := by rw [IntWalk.i64_in _ (by omega)]
        have q1 := hp.set (j := 0) (u := .int .i64 (x - c)) (by simp)
        simp only [Nat.add_zero, Vg.ics, List.map_cons, List.set_cons_zero] at q1
        obtain ⟨W3, hW3⟩ : ∃ W3, w.setCell ⟨g2, o2, none⟩ (.int .i64 (x - c)) = W3 := ⟨_, rfl⟩
        rw [hW3] at q1
        obtain ⟨q1, s1⟩ := q1
        have hT := Vg.Touch.of_same s1
        have hrow3 := h.row.kept (w' := W3) fun k hk => s1.block k (fun hh => hof k (by rw [hh]; rfl) hk)
        have d0 := (World.cell?_of_block (w := w) (s1.block g hne)).trans c0
        have f3 := hrow3.frozen
        have hg3 : g < W3.heap.size := (hrow3.lt g rfl).2
        have hg4 : g2 < W3.heap.size := (q1.lt g2 rfl).2
        have d1 : W3.cell? ⟨g2, o2, none⟩ = some (.int .i64 (x - c)) := by
          obtain ⟨g', o', c', he, -, -, -, -, hcell'⟩ := Vg.Que.head (l := l) (x := x - c) q1
          simp only [Value.slice.injEq, Option.some.injEq, Addr.mk.injEq] at he
          obtain ⟨⟨rfl, rfl, _⟩, _⟩ := he
          exact hcell'
        by_cases hlt : c < x
        · rw [if_pos hlt]
          have hpos : 0 < x - c := by omega
          have H_h := Lib.hid h; clear h; have H_hx := Lib.hid hx; clear hx; have H_hp := Lib.hid hp; clear hp; have H_hof := Lib.hid hof; clear hof; have H_hQ := Lib.hid hQ; clear hQ; have H_hq4 := Lib.hid hq4; clear hq4; have H_q1 := Lib.hid q1; clear q1; have H_s1 := Lib.hid s1; clear s1; have H_hT := Lib.hid hT; clear hT; have H_hrow3 := Lib.hid hrow3; clear hrow3
          go_enter Try.func22, Try.ntmps22
          go_upto_region 9 with ((go_at_call 93; refine (work_find i hi H_h.out hc1 hc2).mono ?_; rintro e w' ⟨rfl, rfl⟩))
          (try rw [hW3])
          go_wp2_with fail
          go_ret2
          exact ⟨rfl, wk_go_part hi H_h.out hb H_hx.out H_hT.out H_hrow3.out H_q1.out rfl⟩
        · rw [if_neg hlt]
          have hx0 : x - c = 0 := by omega
          rw [hx0] at d1 hsub
          by_cases hcc : uc = 1
          · subst hcc
            have hll : l = [] := List.eq_nil_of_length_eq_zero (by omega)
            subst hll
            have hq5 := q1.tail1
            have H_h := Lib.hid h; clear h; have H_hx := Lib.hid hx; clear hx; have H_hp := Lib.hid hp; clear hp; have H_hof := Lib.hid hof; clear hof; have H_hQ := Lib.hid hQ; clear hQ; have H_hq4 := Lib.hid hq4; clear hq4; have H_q1 := Lib.hid q1; clear q1; have H_s1 := Lib.hid s1; clear s1; have H_hT := Lib.hid hT; clear hT; have H_hrow3 := Lib.hid hrow3; clear hrow3; have H_hq5 := Lib.hid hq5; clear hq5
            go_enter Try.func22, Try.ntmps22
            go_upto_region 9 with ((go_at_call 93; refine (work_find i hi H_h.out hc1 hc2).mono ?_; rintro e w' ⟨rfl, rfl⟩))
            rw [hx0] at hW3
            rw [hW3]
            go_wp2_with fail
            go_ret2
            exact ⟨rfl, wk_go_end hi H_h.out hb H_hx.out hne H_hT.out H_hrow3.out H_hq5.out rfl⟩
          · have hc5 : 2 ≤ uc := by omega
            have hq5 := q1.tail
            simp only [List.drop_succ_cons, List.drop_zero] at hq5
            have H_h := Lib.hid h; clear h; have H_hx := Lib.hid hx; clear hx; have H_hp := Lib.hid hp; clear hp; have H_hof := Lib.hid hof; clear hof; have H_hQ := Lib.hid hQ; clear hQ; have H_hq4 := Lib.hid hq4; clear hq4; have H_q1 := Lib.hid q1; clear q1; have H_s1 := Lib.hid s1; clear s1; have H_hT := Lib.hid hT; clear hT; have H_hrow3 := Lib.hid hrow3; clear hrow3; have H_hq5 := Lib.hid hq5; clear hq5
            go_enter Try.func22, Try.ntmps22
            go_upto_region 9 with ((go_at_call 93; refine (work_find i hi H_h.out hc1 hc2).mono ?_; rintro e w' ⟨rfl, rfl⟩))
            rw [hx0] at hW3
            rw [hW3]
            go_wp2_with fail
            go_ret2
            exact ⟨rfl, wk_go_end hi H_h.out hb H_hx.out hne H_hT.out H_hrow3.out H_hq5.out rfl⟩
end
end Go.Proofs.Ytiinhofmhoplfaa
