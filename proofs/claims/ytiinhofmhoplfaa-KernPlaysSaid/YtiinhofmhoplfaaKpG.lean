/- KernPlays: KernRl, KernRn (wip/bin/merge.py puts them together: a claim has at most 60 files). -/
import Derived.Test.YtiinhofmhoplfaaKpB
import Derived.Test.YtiinhofmhoplfaaKpF
set_option linter.unusedSimpArgs false
set_option linter.unusedVariables false
set_option maxHeartbeats 40000000
set_option maxRecDepth 100000
namespace Go.Proofs.Ytiinhofmhoplfaa
open Go.ChangeShapes Go.WideShapes Go.ChangeAt Go.RowKit
section
variable {w w' w3 : World} {S : Nat → Prop} {v vj vl vo : Value} {us : List Value} {K K' : List Vg.Kt} {M : List Vg.Mx} {B k n i tc t4 : Nat} {ta : Option Addr} {is : Bool} {x r m : Int} {X : Obj}
theorem Que_cell1 {w : World} {B : Nat} {e : TypeId} {g o n c i : Nat} {us : List Value} (h : Vg.Que w B e 1 (.slice (some ⟨g, o, none⟩) n c) n us) (hi : i < us.length) : w.cell? ⟨g, o + i, none⟩ = some us[i] := by
  obtain ⟨g', off, e, -, -, -, hc⟩ := h.reads.open (by omega)
  simp only [Option.some.injEq, Addr.mk.injEq, and_true] at e
  obtain ⟨rfl, rfl⟩ := e
  exact hc i hi
/-- Behind a copy (in whatever world it lies): a store of one count, and the result's box. -/
theorem FO.st_lost {pg po pc : Nat} (h : FO w3 B ta tc n vj (.slice (some ⟨pg, po, none⟩) n pc) vo us K) (hi : i < K.length) (x : Int) (hw : Vg.Grows w w3) (hBw : w.heap.size ≤ B) (hB1 : w.heap.size ≤ t4) (hB2 : t4 < B) (hta : ∀ off, ta ≠ some ⟨t4, off, none⟩) (hS : ∀ k, w.heap.size ≤ k → S k) (hSt : ∀ g off, ta = some ⟨g, off, none⟩ → S g) :
    (∀ k o, k ≠ pg → Vg.blk w3 k = some o → Vg.blk (w3.setCell ⟨pg, po + i, none⟩ (.int .i64 x)) k = some o) ∧
      ∀ o', Vg.FKS S (Vg.put (w3.setCell ⟨pg, po + i, none⟩ (.int .i64 x)) t4 o') (.agg #[.slice ta n tc, vj, .slice (some ⟨pg, po, none⟩) n pc, vo]) (K.set i ⟨K[i].t, K[i].J, x, K[i].out⟩) ∧ Vg.Grows w (Vg.put (w3.setCell ⟨pg, po + i, none⟩ (.int .i64 x)) t4 o') := by
  have hpg := h.ql.lt pg rfl
  have s1 := h.ql.set (j := i) (u := .int .i64 x) (by simpa using hi)
  have hT : Vg.Touch (fun k => (Value.slice (some ⟨pg, po, none⟩) n pc).ownBlock = some k ∨ k = t4) w3 (w3.setCell ⟨pg, po + i, none⟩ (.int .i64 x)) := Vg.Touch.of_same (s1.2.mono fun k hk => .inl (by rw [hk]; rfl))
  refine ⟨fun k o hk ho => (s1.2.block _ hk).trans ho, fun o' => ⟨?_, Vg.Grows.put (s1.2.grows hw (fun k hk => by omega)) hB1 _⟩⟩
  exact h.lost hi x (T := fun k => k = t4) (hT.put (.inr rfl) _) (fun k hk => by subst hk; exact ⟨hB2, hta⟩) (fun k hk => hS k (by omega)) hSt (s1.1.kept fun k hk => Vg.put_heap_other (by have : pg = k := (by simpa [Value.ownBlock] using hk); omega))
/-- Behind a copy: a task's row is another one, its head laid. -/
theorem FO.st_jobs {pg po pc : Nat} {W2 : World} {u2 : Value} {L2 : List Vg.Jb} (h : FO w3 B ta tc n (.slice (some ⟨pg, po, none⟩) n pc) vl vo us K) (hi : i < K.length) (hi' : i < us.length) (ht : Vg.Touch (fun k => us[i].ownBlock = some k) w3 W2) (hq : Vg.Que W2 B 205 3 u2 L2.length (Vg.jcells L2)) (ho : ∀ k, u2.ownBlock = some k → us[i].ownBlock = some k ∨ w3.heap.size ≤ k)
    (hw : Vg.Grows w w3) (hBw : w.heap.size ≤ B) (hB1 : w.heap.size ≤ t4) (hB2 : t4 < B) (hta : ∀ off, ta ≠ some ⟨t4, off, none⟩) (hS : ∀ k, w.heap.size ≤ k → S k) (hSt : ∀ g off, ta = some ⟨g, off, none⟩ → S g) :
    (∀ k o, k ≠ pg → us[i].ownBlock ≠ some k → Vg.blk w3 k = some o → Vg.blk (W2.setCell ⟨pg, po + i, none⟩ u2) k = some o) ∧
      ∀ o', Vg.FKS S (Vg.put (W2.setCell ⟨pg, po + i, none⟩ u2) t4 o') (.agg #[.slice ta n tc, .slice (some ⟨pg, po, none⟩) n pc, vl, vo]) (K.set i ⟨K[i].t, L2, K[i].lost, K[i].out⟩) ∧ Vg.Grows w (Vg.put (W2.setCell ⟨pg, po + i, none⟩ u2) t4 o') := by
  have hpg := h.qj.lt pg rfl
  have hug := fun k => h.dju i hi' k
  have hqj := h.qj.kept (w' := W2) fun k hk => ht.block k (h.qj.lt k hk).2 fun hh => hug k hh hk
  have s1 := hqj.set (j := i) (u := u2) (by omega)
  have hu2 : ∀ k, u2.ownBlock = some k → k ≠ pg := fun k hk hh => by
    subst hh
    rcases ho k hk with h1 | h1
    · exact hug k h1 rfl
    · omega
  have hq2 := hq.kept (w' := W2.setCell ⟨pg, po + i, none⟩ u2) fun k hk => s1.2.block k (hu2 k hk)
  have hul := h.row i hi' hi
  have hT : Vg.Touch (fun k => (us[i].ownBlock = some k ∨ (Value.slice (some ⟨pg, po, none⟩) n pc).ownBlock = some k) ∨ k = t4) w3 (W2.setCell ⟨pg, po + i, none⟩ u2) := (ht.mono fun k _ hk => .inl (.inl hk)).trans (Vg.Touch.of_same (s1.2.mono fun k hk => .inl (.inr (by rw [hk]; rfl))))
  refine ⟨fun k o hk hk' ho' => (s1.2.block _ hk).trans ((ht.block k (Vg.lt_of ho') hk').trans ho'), fun o' => ⟨?_, Vg.Grows.put (hT.grows hw (fun k hk => ?_)) hB1 _⟩⟩
  · exact h.jobs hi' hi (T := fun k => k = t4) (hT.put (.inr rfl) _) (fun k hk => by subst hk; exact ⟨hB2, hta⟩) (fun k hk => hS k (by omega)) hSt (s1.1.kept fun k hk => Vg.put_heap_other (by have : pg = k := (by simpa [Value.ownBlock] using hk); omega)) (hq2.kept fun k hk => Vg.put_heap_other (by have := (hq2.lt k hk).1; omega))
  · rcases hk with (hk | hk) | hk
    · have := (hul.lt k hk).1; omega
    · have : pg = k := (by simpa [Value.ownBlock] using hk)
      omega
    · omega
theorem rf_release (i cost at_ : Int) (h : Vg.FKS S w v K) (h32 : K.length ≤ 32) (hJ : ∀ x ∈ K, x.J.length ≤ 16) (hlo : ∀ x ∈ K, 0 ≤ x.lost ∧ x.lost ≤ 1000000) (hx : Vg.Kn.release K i cost at_ = (K', r)) :
    Calls Try.prog 115 #[v, .int .i64 i, .int .i64 cost, .int .i64 at_] w fun e w' => ∃ ta tc ja jc la lc oa oc, e = .returned (.tuple #[.agg #[.slice ta K.length tc, .slice ja K.length jc, .slice la K.length lc, .slice oa K.length oc], .int .i64 r]) ∧ Vg.FKS (fun k => S k ∨ w.heap.size ≤ k) w' (.agg #[.slice ta K.length tc, .slice ja K.length jc, .slice la K.length lc, .slice oa K.length oc]) K' ∧ Vg.Grows w w' := by
  obtain ⟨n, hn⟩ : ∃ n, K.length = n := ⟨_, rfl⟩
  obtain ⟨ta, tc, ja, jc, la, lc, oa, oc, rfl, t1, t2, j1, j2, htk⟩ := h.fk.shape
  rw [hn] at h t1 j1 h32 ⊢
  by_cases hin : 0 ≤ i ∧ i < (n : Int)
  · obtain ⟨i, rfl⟩ : ∃ n : Nat, i = n := ⟨i.toNat, by omega⟩
    have hi : i < K.length := by omega
    have hhas : decide ((0 : Int) ≤ (i : Int) ∧ (i : Int) < (K.length : Int)) = true := by simp [hi]
    have hin1 : i < n := by omega
    have hin2 : (i : Int) < n := by omega
    have hin0 : (0 : Int) ≤ i := by omega
    rw [Vg.Kn.release_in hi] at hx
    clear hin
    by_cases hbad : cost < 1 ∨ 1099511627776 < cost ∨ at_ < 0 ∨ 4503599627370496 < at_
    · rw [if_pos hbad] at hx
      simp only [Prod.mk.injEq] at hx
      obtain ⟨rfl, rfl⟩ := hx
      by_cases b1 : cost < 1
      · clear hbad
        have H_h := Lib.hid h; clear h; have H_hJ := Lib.hid hJ; clear hJ; have H_hn := Lib.hid hn; clear hn; have H_hhas := Lib.hid hhas; clear hhas; have H_htk := Lib.hid htk; clear htk
        go_enter Try.func115, Try.ntmps115
        go_wp2_with (first | (go_at_call 75; (with_reducible refine (rf_has i (H_h.out.fk.grows (by (repeat' (first | (with_reducible exact Vg.Grows.refl _) | (with_reducible assumption) | (with_reducible refine Vg.Grows.alloc ?_ _) | (with_reducible refine Vg.Grows.plus ?_ _ _) | (with_reducible refine Vg.Grows.drewN ?_ _) | (with_reducible refine Vg.Grows.drew ?_) | (with_reducible refine Vg.Grows.setCell ?_ ?_ _) | (with_reducible refine Vg.Grows.put ?_ ?_ _) | omega | (simp; omega) | (simp; done)))))).mono ?_); rintro e w1 ⟨rfl, x1, n1, rfl⟩; rw [H_hhas.out]))
        go_returns
        exact ⟨_, _, _, _, _, _, _, _, rfl, (H_h.out.grows (by (repeat' (first | (with_reducible exact Vg.Grows.refl _) | (with_reducible assumption) | (with_reducible refine Vg.Grows.alloc ?_ _) | (with_reducible refine Vg.Grows.plus ?_ _ _) | (with_reducible refine Vg.Grows.drewN ?_ _) | (with_reducible refine Vg.Grows.drew ?_) | (with_reducible refine Vg.Grows.setCell ?_ ?_ _) | (with_reducible refine Vg.Grows.put ?_ ?_ _) | omega | (simp; omega) | (simp; done))))).mono fun k hk => .inl hk, by (repeat' (first | (with_reducible exact Vg.Grows.refl _) | (with_reducible assumption) | (with_reducible refine Vg.Grows.alloc ?_ _) | (with_reducible refine Vg.Grows.plus ?_ _ _) | (with_reducible refine Vg.Grows.drewN ?_ _) | (with_reducible refine Vg.Grows.drew ?_) | (with_reducible refine Vg.Grows.setCell ?_ ?_ _) | (with_reducible refine Vg.Grows.put ?_ ?_ _) | omega | (simp; omega) | (simp; done)))⟩
      · by_cases b2 : 1099511627776 < cost
        · clear hbad
          have H_h := Lib.hid h; clear h; have H_hJ := Lib.hid hJ; clear hJ; have H_hn := Lib.hid hn; clear hn; have H_hhas := Lib.hid hhas; clear hhas; have H_htk := Lib.hid htk; clear htk
          go_enter Try.func115, Try.ntmps115
          go_wp2_with (first | (go_at_call 75; (with_reducible refine (rf_has i (H_h.out.fk.grows (by (repeat' (first | (with_reducible exact Vg.Grows.refl _) | (with_reducible assumption) | (with_reducible refine Vg.Grows.alloc ?_ _) | (with_reducible refine Vg.Grows.plus ?_ _ _) | (with_reducible refine Vg.Grows.drewN ?_ _) | (with_reducible refine Vg.Grows.drew ?_) | (with_reducible refine Vg.Grows.setCell ?_ ?_ _) | (with_reducible refine Vg.Grows.put ?_ ?_ _) | omega | (simp; omega) | (simp; done)))))).mono ?_); rintro e w1 ⟨rfl, x1, n1, rfl⟩; rw [H_hhas.out]))
          go_returns
          exact ⟨_, _, _, _, _, _, _, _, rfl, (H_h.out.grows (by (repeat' (first | (with_reducible exact Vg.Grows.refl _) | (with_reducible assumption) | (with_reducible refine Vg.Grows.alloc ?_ _) | (with_reducible refine Vg.Grows.plus ?_ _ _) | (with_reducible refine Vg.Grows.drewN ?_ _) | (with_reducible refine Vg.Grows.drew ?_) | (with_reducible refine Vg.Grows.setCell ?_ ?_ _) | (with_reducible refine Vg.Grows.put ?_ ?_ _) | omega | (simp; omega) | (simp; done))))).mono fun k hk => .inl hk, by (repeat' (first | (with_reducible exact Vg.Grows.refl _) | (with_reducible assumption) | (with_reducible refine Vg.Grows.alloc ?_ _) | (with_reducible refine Vg.Grows.plus ?_ _ _) | (with_reducible refine Vg.Grows.drewN ?_ _) | (with_reducible refine Vg.Grows.drew ?_) | (with_reducible refine Vg.Grows.setCell ?_ ?_ _) | (with_reducible refine Vg.Grows.put ?_ ?_ _) | omega | (simp; omega) | (simp; done)))⟩
        · have hT : Vg.timeB at_ = false := by simp [Vg.timeB]; omega
          clear hbad
          have H_h := Lib.hid h; clear h; have H_hJ := Lib.hid hJ; clear hJ; have H_hn := Lib.hid hn; clear hn; have H_hhas := Lib.hid hhas; clear hhas; have H_htk := Lib.hid htk; clear htk; have H_hT := Lib.hid hT; clear hT
          go_enter Try.func115, Try.ntmps115
          go_wp2_with (first | (go_at_call 75; (with_reducible refine (rf_has i (H_h.out.fk.grows (by (repeat' (first | (with_reducible exact Vg.Grows.refl _) | (with_reducible assumption) | (with_reducible refine Vg.Grows.alloc ?_ _) | (with_reducible refine Vg.Grows.plus ?_ _ _) | (with_reducible refine Vg.Grows.drewN ?_ _) | (with_reducible refine Vg.Grows.drew ?_) | (with_reducible refine Vg.Grows.setCell ?_ ?_ _) | (with_reducible refine Vg.Grows.put ?_ ?_ _) | omega | (simp; omega) | (simp; done)))))).mono ?_); rintro e w1 ⟨rfl, x1, n1, rfl⟩; rw [H_hhas.out]) | (go_at_call 131; (with_reducible refine (reftime_any at_ _).mono ?_); rintro e w2 ⟨rfl, rfl⟩; rw [H_hT.out]))
          go_returns
          exact ⟨_, _, _, _, _, _, _, _, rfl, (H_h.out.grows (by (repeat' (first | (with_reducible exact Vg.Grows.refl _) | (with_reducible assumption) | (with_reducible refine Vg.Grows.alloc ?_ _) | (with_reducible refine Vg.Grows.plus ?_ _ _) | (with_reducible refine Vg.Grows.drewN ?_ _) | (with_reducible refine Vg.Grows.drew ?_) | (with_reducible refine Vg.Grows.setCell ?_ ?_ _) | (with_reducible refine Vg.Grows.put ?_ ?_ _) | omega | (simp; omega) | (simp; done))))).mono fun k hk => .inl hk, by (repeat' (first | (with_reducible exact Vg.Grows.refl _) | (with_reducible assumption) | (with_reducible refine Vg.Grows.alloc ?_ _) | (with_reducible refine Vg.Grows.plus ?_ _ _) | (with_reducible refine Vg.Grows.drewN ?_ _) | (with_reducible refine Vg.Grows.drew ?_) | (with_reducible refine Vg.Grows.setCell ?_ ?_ _) | (with_reducible refine Vg.Grows.put ?_ ?_ _) | omega | (simp; omega) | (simp; done)))⟩
    · rw [if_neg hbad] at hx
      have b1 : ¬ cost < 1 := by omega
      have b2 : ¬ 1099511627776 < cost := by omega
      have hT : Vg.timeB at_ = true := by simp [Vg.timeB]; omega
      clear hbad
      obtain ⟨g0, off0, rfl, hg0, hct⟩ := h.fk.atT hi
      obtain ⟨kg, ko, u0, uc0, rfl, hkg, hck, hkr⟩ := h.fk.atJ hi
      have hSt := h.ta
      have H_hi : i < K.length := hi
      have ct6 := hct 6 (by decide)
      simp only [Vg.tkcell] at ct6
      obtain ⟨ro, hro⟩ : ∃ x, K[i].t.ro = x := ⟨_, rfl⟩
      obtain ⟨J, hJi⟩ : ∃ x, K[i].J = x := ⟨_, rfl⟩
      obtain ⟨N, hN⟩ : ∃ x, J.length = x := ⟨_, rfl⟩
      obtain ⟨lo0, hlo0⟩ : ∃ x, K[i].lost = x := ⟨_, rfl⟩
      have hlo1 := hlo _ (List.getElem_mem hi)
      have hJ1 := hJ _ (List.getElem_mem hi)
      rw [hro] at ct6 hx
      rw [hJi] at hck hkr hx hJ1
      rw [hN] at hck hkr hx hJ1
      rw [hlo0] at hlo1 hx
      obtain ⟨hlo1, hlo2⟩ := hlo1
      have hwr : IntKind.i64.wrap (lo0 + 1) = lo0 + 1 := IntWalk.i64_in _ (by omega)
      have H_h := Lib.hid h; clear h; have H_hJ := Lib.hid hJ; clear hJ; have H_hn := Lib.hid hn; clear hn; have H_hhas := Lib.hid hhas; clear hhas; have H_htk := Lib.hid htk; clear htk; have H_hSt := Lib.hid hSt; clear hSt; have H_hT := Lib.hid hT; clear hT; have H_hct := Lib.hid hct; clear hct; have H_hJi := Lib.hid hJi; clear hJi; have H_hN := Lib.hid hN; clear hN; have H_hlo0 := Lib.hid hlo0; clear hlo0; have H_hro := Lib.hid hro; clear hro; have H_hkr := Lib.hid hkr; clear hkr; have H_hlo := Lib.hid hlo; clear hlo
      go_enter Try.func115, Try.ntmps115
      go_upto_region 4 with (first | (go_at_call 75; (with_reducible refine (rf_has i (H_h.out.fk.grows (by (repeat' (first | (with_reducible exact Vg.Grows.refl _) | (with_reducible assumption) | (with_reducible refine Vg.Grows.alloc ?_ _) | (with_reducible refine Vg.Grows.plus ?_ _ _) | (with_reducible refine Vg.Grows.drewN ?_ _) | (with_reducible refine Vg.Grows.drew ?_) | (with_reducible refine Vg.Grows.setCell ?_ ?_ _) | (with_reducible refine Vg.Grows.put ?_ ?_ _) | omega | (simp; omega) | (simp; done)))))).mono ?_); rintro e w1 ⟨rfl, x1, n1, rfl⟩; rw [H_hhas.out]) | (go_at_call 131; (with_reducible refine (reftime_any at_ _).mono ?_); rintro e w2 ⟨rfl, rfl⟩; rw [H_hT.out]) | (go_at_call 136; (with_reducible refine (rf_copy (H_h.out.fk.grows (by (repeat' (first | (with_reducible exact Vg.Grows.refl _) | (with_reducible assumption) | (with_reducible refine Vg.Grows.alloc ?_ _) | (with_reducible refine Vg.Grows.plus ?_ _ _) | (with_reducible refine Vg.Grows.drewN ?_ _) | (with_reducible refine Vg.Grows.drew ?_) | (with_reducible refine Vg.Grows.setCell ?_ ?_ _) | (with_reducible refine Vg.Grows.put ?_ ?_ _) | omega | (simp; omega) | (simp; done))))) H_hn.out (by omega) h32 H_hJ.out).mono ?_); rintro e w3 ⟨jg, jo, jc', lg, lo, lc', pg, po, pc', us, rfl, hfo, hus, hg3⟩; have b4 := hg3.blk (b := w.heap.size + 1) (o := rv0) (by go_simp); have hgw := Vg.Grows.trans (a := w) (by (repeat' (first | (with_reducible exact Vg.Grows.refl _) | (with_reducible assumption) | (with_reducible refine Vg.Grows.alloc ?_ _) | (with_reducible refine Vg.Grows.plus ?_ _ _) | (with_reducible refine Vg.Grows.drewN ?_ _) | (with_reducible refine Vg.Grows.drew ?_) | (with_reducible refine Vg.Grows.setCell ?_ ?_ _) | (with_reducible refine Vg.Grows.put ?_ ?_ _) | omega | (simp; omega) | (simp; done)))) hg3; have hB2 := hg3.size; simp only [World.size_alloc, Vg.plus_size, Vg.put_size, World.size_setCell, World.size_drew, World.heap_drewN] at hB2 hfo; have l_pg := (hfo.qo.lt pg rfl).2; have f_pg := hfo.qo.frozen; have c_pg := FO.c_out hfo H_hi; have b2 := hg3.blk (b := w.heap.size) (o := rkC (some ⟨g0, off0, none⟩) tc (some ⟨kg, ko, none⟩) jc la lc oa oc n) (by go_simp); have H_hfo := Lib.hid hfo; clear hfo; have H_hus := Lib.hid hus; clear hus; have H_hg3 := Lib.hid hg3; clear hg3; have H_hgw := Lib.hid hgw; clear hgw; have H_b4 := Lib.hid b4; clear b4; have H_b2 := Lib.hid b2; clear b2))
      obtain ⟨W3, hW3⟩ : ∃ W3, w3.alloc (rvC (.slice (some ⟨g0, off0, none⟩) n tc) (.slice (some ⟨jg, jo, none⟩) n jc') (.slice (some ⟨lg, lo, none⟩) n lc') (.slice (some ⟨pg, po, none⟩) n pc')) = W3 := ⟨_, rfl⟩
      have hg33 : Vg.Grows w3 W3 := by rw [← hW3]; exact (Vg.Grows.refl _).alloc _
      have hfo := H_hfo.out.grows hg33
      have p6 : Vg.blk W3 w3.heap.size = some (rvC (.slice (some ⟨g0, off0, none⟩) n tc) (.slice (some ⟨jg, jo, none⟩) n jc') (.slice (some ⟨lg, lo, none⟩) n lc') (.slice (some ⟨pg, po, none⟩) n pc')) := by rw [← hW3]; exact Vg.alloc_heap_at rfl
      have p4 := hg33.blk H_b4.out
      have hgw3 := H_hgw.out.trans hg33
      have p2 := hg33.blk H_b2.out
      have d_t := (hgw3.below.cell (p := ⟨g0, off0 + i * 10 + 6, none⟩) hg0).trans ct6
      have d_j := (hgw3.below.cell (p := ⟨kg, ko + i, none⟩) hkg).trans hck
      have hg0l := Nat.lt_of_lt_of_le hg0 hgw3.size
      have hkgl := Nat.lt_of_lt_of_le hkg hgw3.size
      have hsz3 : W3.heap.size = w3.heap.size + 1 := by rw [← hW3]; simp
      rw [hW3]
      obtain ⟨b6, hb6⟩ : ∃ b6, w3.heap.size = b6 := ⟨_, rfl⟩
      rw [hb6] at p6 hsz3 hB2 ⊢
      have H_hb6 := Lib.hid hb6
      have ne1 : w.heap.size + 1 ≠ b6 := by omega
      have ne2 : b6 ≠ w.heap.size + 1 := by omega
      clear hW3
      have c_p2 := Vg.cells_of p2; have f_p2 := Vg.frozen_of p2; have p_p2 := Vg.setCell_of p2; have l_p2 := Vg.lt_of p2; have H_p2 := Lib.hid p2; clear p2; have c_p4 := Vg.cells_of p4; have f_p4 := Vg.frozen_of p4; have p_p4 := Vg.setCell_of p4; have l_p4 := Vg.lt_of p4; have H_p4 := Lib.hid p4; clear p4; have c_p6 := Vg.cells_of p6; have f_p6 := Vg.frozen_of p6; have p_p6 := Vg.setCell_of p6; have l_p6 := Vg.lt_of p6; have H_p6 := Lib.hid p6; clear p6
      have hfo := Lib.hid hfo
      have H_hgw3 := Lib.hid hgw3; clear hgw3
      go_cut [43] (fun v43 wx => v43 = .bool (decide (ro ≤ (N : Int))) ∧ Vg.Grows W3 wx)
      case first =>
        by_cases hf : ro ≤ (N : Int)
        · go_quiet (fail)
          all_goals go_wp2_with fail
          all_goals go_meet
          all_goals exact ⟨by simp [hf], by (repeat' (first | (with_reducible exact Vg.Grows.refl _) | (with_reducible assumption) | (with_reducible refine Vg.Grows.alloc ?_ _) | (with_reducible refine Vg.Grows.plus ?_ _ _) | (with_reducible refine Vg.Grows.drewN ?_ _) | (with_reducible refine Vg.Grows.drew ?_) | (with_reducible refine Vg.Grows.setCell ?_ ?_ _) | (with_reducible refine Vg.Grows.put ?_ ?_ _) | omega | (simp; omega) | (simp; done)))⟩
        · go_quiet (fail)
          all_goals go_wp2_with fail
          all_goals go_meet
          all_goals exact ⟨by simp [hf], by (repeat' (first | (with_reducible exact Vg.Grows.refl _) | (with_reducible assumption) | (with_reducible refine Vg.Grows.alloc ?_ _) | (with_reducible refine Vg.Grows.plus ?_ _ _) | (with_reducible refine Vg.Grows.drewN ?_ _) | (with_reducible refine Vg.Grows.drew ?_) | (with_reducible refine Vg.Grows.setCell ?_ ?_ _) | (with_reducible refine Vg.Grows.put ?_ ?_ _) | omega | (simp; omega) | (simp; done)))⟩
      case rest =>
        obtain ⟨rfl, hg4⟩ := hcut
        have hf4 := hfo.out.grows hg4
        have q4 := hg4.blk H_p4.out
        have q6 := hg4.blk H_p6.out
        have hgw4 := H_hgw3.out.trans hg4
        have hsz4 := hg4.size
        clear c_p2 f_p2 p_p2 c_p4 f_p4 p_p4 c_p6 f_p6 p_p6
        clear d_t d_j
        have lgt := hf4.ql.lt lg rfl
        have jgt := hf4.qj.lt jg rfl
        have lga := (H_hfo.out.ql.lt lg rfl).2
        have jga := (H_hfo.out.qj.lt jg rfl).2
        rw [H_hb6.out] at lga jga
        have hul : i < us.length := by rw [hf4.ul]; exact hin1
        have c_lo := FO.c_lost hf4 hi
        have c_jo := FO.c_job hf4 hul
        have f_lo := hf4.ql.frozen
        have f_jo := hf4.qj.frozen
        rw [H_hlo0.out] at c_lo
        obtain ⟨lgt1, lgt2⟩ := lgt
        obtain ⟨jgt1, jgt2⟩ := jgt
        have n1 : b6 ≠ lg := by omega
        have n2 : lg ≠ b6 := by omega
        have n3 : b6 ≠ jg := by omega
        have n4 : jg ≠ b6 := by omega
        have n5 : w.heap.size + 1 ≠ lg := by omega
        have n6 : w.heap.size + 1 ≠ jg := by omega
        have n7 : lg ≠ w.heap.size + 1 := by omega
        have n8 : jg ≠ w.heap.size + 1 := by omega
        by_cases hf : ro ≤ (N : Int)
        · rw [if_pos hf] at hx
          simp only [Prod.mk.injEq] at hx
          obtain ⟨hK', rfl⟩ := hx
          obtain ⟨hkeep, hend⟩ := FO.st_lost (S := fun k => S k ∨ w.heap.size ≤ k) (t4 := w.heap.size + 1) (w := w) hf4 hi (lo0 + 1) hgw4 (by omega) (Nat.le_succ _) (by omega) (fun off e => by simp only [Option.some.injEq, Addr.mk.injEq, and_true] at e; omega) (fun k hk => .inr hk) (fun g off e => .inl (H_hSt.out g off e))
          have r4 := hkeep _ _ n5 q4
          have r6 := hkeep _ _ n1 q6
          have c_q4 := Vg.cells_of q4; have f_q4 := Vg.frozen_of q4; have p_q4 := Vg.setCell_of q4; have l_q4 := Vg.lt_of q4; have H_q4 := Lib.hid q4; clear q4; have c_q6 := Vg.cells_of q6; have f_q6 := Vg.frozen_of q6; have p_q6 := Vg.setCell_of q6; have l_q6 := Vg.lt_of q6; have H_q6 := Lib.hid q6; clear q6
          have H_hf4 := Lib.hid hf4; clear hf4; have H_hgw4 := Lib.hid hgw4; clear hgw4; have H_hkeep := Lib.hid hkeep; clear hkeep; have H_hend := Lib.hid hend; clear hend; have H_hg4 := Lib.hid hg4; clear hg4; have H_hK' := Lib.hid hK'; clear hK'
          go_upto_region 6 with fail
          obtain ⟨W5, hW5⟩ : ∃ W5, wc.setCell ⟨lg, lo + i, none⟩ (.int .i64 (lo0 + 1)) = W5 := ⟨_, rfl⟩
          have hend := H_hend.out
          rw [hW5] at r4 r6 hend ⊢
          clear hW5 c_lo c_jo f_lo f_jo
          clear c_q4 f_q4 p_q4 c_q6 f_q6 p_q6
          have c_r4 := Vg.cells_of r4; have f_r4 := Vg.frozen_of r4; have p_r4 := Vg.setCell_of r4; have l_r4 := Vg.lt_of r4; have H_r4 := Lib.hid r4; clear r4; have c_r6 := Vg.cells_of r6; have f_r6 := Vg.frozen_of r6; have p_r6 := Vg.setCell_of r6; have l_r6 := Vg.lt_of r6; have H_r6 := Lib.hid r6; clear r6
          have hpc : ∀ (cs : Array Value) (i : Nat), (Vg.put W5 (w.heap.size + 1) (.cells cs 112)).cell? ⟨w.heap.size + 1, i, none⟩ = cs[i]? := fun cs i => Vg.cells_of (Vg.put_heap_same l_r4) i
          have H_hend := Lib.hid hend; clear hend; have H_hpc := Lib.hid hpc; clear hpc
          go_wp2_with fail
          refine bodyPost_ret (by simp [results, Try.results115, go_sem, H_hpc.out] <;> try rfl) rfl ?_
          rw [← H_hK'.out]
          have hend := H_hend.out (rvC (.slice (some ⟨g0, off0, none⟩) n tc) (.slice (some ⟨jg, jo, none⟩) n jc') (.slice (some ⟨lg, lo, none⟩) n lc') (.slice (some ⟨pg, po, none⟩) n pc'))
          rw [H_hJi.out] at hend
          exact ⟨_, _, _, _, _, _, _, _, rfl, hend.1, hend.2⟩
        · rw [if_neg hf] at hx
          simp only [Prod.mk.injEq] at hx
          obtain ⟨hK', rfl⟩ := hx
          have hrow := hf4.row i hul hi
          rw [H_hJi.out, H_hN.out] at hrow
          obtain ⟨ua, uc, hui⟩ := hrow.shape
          have how := (H_hfo.out.row i hul hi).lt
          rw [hui, H_hb6.out] at how
          rw [hui] at hrow c_jo
          have hJc := Vg.jcells_append J [⟨cost, at_, 0⟩]
          have hJn : (J ++ [(⟨cost, at_, 0⟩ : Vg.Jb)]).length = N + 1 := by rw [List.length_append, H_hN.out]; rfl
          obtain ⟨r0, hR, hr0, hr1, hr2⟩ := info_parts Try.info_rjob
          have c_q6 := Vg.cells_of q6; have f_q6 := Vg.frozen_of q6; have p_q6 := Vg.setCell_of q6; have l_q6 := Vg.lt_of q6; have H_q6 := Lib.hid q6; clear q6
          have H_hf4 := Lib.hid hf4; clear hf4; have H_hgw4 := Lib.hid hgw4; clear hgw4; have H_hg4 := Lib.hid hg4; clear hg4; have H_hK' := Lib.hid hK'; clear hK'; have H_hrow := Lib.hid hrow; clear hrow; have H_hui := Lib.hid hui; clear hui; have H_how := Lib.hid how; clear how; have H_hJc := Lib.hid hJc; clear hJc; have H_hJn := Lib.hid hJn; clear hJn; have H_q4 := Lib.hid q4; clear q4
          go_upto_region 7 with fail
          refine wp_region_held_drew (S := fun w' => b6 < w'.heap.size ∧ w'.cell? ⟨b6, 1, none⟩ = some (.slice (some ⟨jg, jo, none⟩) n jc')) (by kernel_rfl) (by go_split_ands <;> (try dsimp only) <;> go_simp) (fun hHeld => ?_)
          refine wpAnyH_take (i := 0) (oi := _) (v := ?v1) rfl (by kernel_rfl) (by kernel_rfl) (by kernel_rfl) (fun _ _ _ h => h) (Or.inl ⟨by rfl, ?hy1⟩) (by assumption) ?rest1
          case hy1 => (intro w hSw; (try dsimp only at hSw); go_simp; first | done | with_reducible rfl)
          (try simp only [List.getElem_toArray, List.getElem_cons_succ, List.getElem_cons_zero, Act.put, List.setIfInBounds_toArray, List.set_cons_zero, List.set_cons_succ])
          refine wpAnyH_take (i := 1) (oi := _) (v := ?v2) rfl (by kernel_rfl) (by kernel_rfl) (by kernel_rfl) (fun _ _ _ h => h) (Or.inl ⟨by rfl, ?hy2⟩) (by assumption) ?rest2
          case hy2 => (intro w hSw; (try dsimp only at hSw); go_simp; first | done | with_reducible rfl)
          (try simp only [List.getElem_toArray, List.getElem_cons_succ, List.getElem_cons_zero, Act.put, List.setIfInBounds_toArray, List.set_cons_zero, List.set_cons_succ])
          refine wpAnyH_take (i := 2) (oi := _) (v := ?v3) rfl (by kernel_rfl) (by kernel_rfl) (by kernel_rfl) (fun _ _ _ h => h) (Or.inl ⟨by rfl, ?hy3⟩) (by assumption) ?rest3
          case hy3 => (intro w hSw; (try dsimp only at hSw); go_simp; first | done | with_reducible rfl)
          (try simp only [List.getElem_toArray, List.getElem_cons_succ, List.getElem_cons_zero, Act.put, List.setIfInBounds_toArray, List.set_cons_zero, List.set_cons_succ])
          refine wpAnyH_take (i := 3) (oi := _) (v := ?v4) rfl (by kernel_rfl) (by kernel_rfl) (by kernel_rfl) (fun _ _ _ h => h) (Or.inl ⟨by rfl, ?hy4⟩) (by assumption) ?rest4
          case hy4 => (intro w hSw; (try dsimp only at hSw); go_simp; first | done | with_reducible rfl)
          (try simp only [List.getElem_toArray, List.getElem_cons_succ, List.getElem_cons_zero, Act.put, List.setIfInBounds_toArray, List.set_cons_zero, List.set_cons_succ])
          refine wpAnyH_take (i := 4) (oi := _) (v := ?v5) rfl (by kernel_rfl) (by kernel_rfl) (by kernel_rfl) (fun _ _ _ h => h) (Or.inl ⟨by rfl, ?hy5⟩) (by assumption) ?rest5
          case hy5 => (intro w hSw; (try dsimp only at hSw); go_simp; first | done | with_reducible rfl)
          (try simp only [List.getElem_toArray, List.getElem_cons_succ, List.getElem_cons_zero, Act.put, List.setIfInBounds_toArray, List.set_cons_zero, List.set_cons_succ])
          refine wpAnyH_take (i := 5) (oi := _) (v := ?v6) rfl (by kernel_rfl) (by kernel_rfl) (by kernel_rfl) (fun _ _ _ h => h) (Or.inl ⟨by rfl, ?hy6⟩) (by assumption) ?rest6
          case hy6 => (intro w hSw; (try dsimp only at hSw); go_simp; first | done | with_reducible rfl)
          (try simp only [List.getElem_toArray, List.getElem_cons_succ, List.getElem_cons_zero, Act.put, List.setIfInBounds_toArray, List.set_cons_zero, List.set_cons_succ])
          refine wpAnyH_take (i := 6) (oi := _) (v := ?v7) rfl (by kernel_rfl) (by kernel_rfl) (by kernel_rfl) (fun _ _ _ h => h) (Or.inl ⟨by rfl, ?hy7⟩) (by assumption) ?rest7
          case hy7 => (intro w hSw; (try dsimp only at hSw); go_simp; first | done | with_reducible rfl)
          (try simp only [List.getElem_toArray, List.getElem_cons_succ, List.getElem_cons_zero, Act.put, List.setIfInBounds_toArray, List.set_cons_zero, List.set_cons_succ])
          refine wpAnyH_take (i := 8) (oi := _) (v := ?v8) rfl (by kernel_rfl) (by kernel_rfl) (by kernel_rfl) (fun _ _ _ h => h) (Or.inl ⟨by rfl, ?hy8⟩) (by assumption) ?rest8
          case hy8 => (intro w hSw; (try dsimp only at hSw); go_simp; first | done | with_reducible rfl)
          (try simp only [List.getElem_toArray, List.getElem_cons_succ, List.getElem_cons_zero, Act.put, List.setIfInBounds_toArray, List.set_cons_zero, List.set_cons_succ])
          refine wpAnyH_take (i := 9) (oi := _) (v := ?v9) rfl (by kernel_rfl) (by kernel_rfl) (by kernel_rfl) (fun _ _ _ h => h) (Or.inl ⟨by rfl, ?hy9⟩) (by assumption) ?rest9
          case hy9 => (intro w hSw; (try dsimp only at hSw); go_simp; first | done | with_reducible rfl)
          (try simp only [List.getElem_toArray, List.getElem_cons_succ, List.getElem_cons_zero, Act.put, List.setIfInBounds_toArray, List.set_cons_zero, List.set_cons_succ])
          refine wpAnyH_take (i := 10) (oi := _) (v := ?v10) rfl (by kernel_rfl) (by kernel_rfl) (by kernel_rfl) (fun _ _ _ h => h) (Or.inl ⟨by rfl, ?hy10⟩) (by assumption) ?rest10
          case hy10 => (intro w hSw; (try dsimp only at hSw); go_simp; first | done | with_reducible rfl)
          (try simp only [List.getElem_toArray, List.getElem_cons_succ, List.getElem_cons_zero, Act.put, List.setIfInBounds_toArray, List.set_cons_zero, List.set_cons_succ])
          refine wpAnyH_ready (rs := [7, 11]) (by kernel_rfl) (by simp) ?_
          refine AllReadyH.cons (o := _) rfl (fun K hK => ?st11) ?mo11
          case st11 =>
            go_simp
            refine hK.out _ _ (by go_split_ands <;> (try dsimp only) <;> go_simp) (fun hHeld11 => ?_)
            clear hK K
            (try simp only [List.getElem_toArray, List.getElem_cons_succ, List.getElem_cons_zero, Act.put, List.setIfInBounds_toArray, List.set_cons_zero, List.set_cons_succ])
            refine wpAnyH_ready (rs := [11]) (by kernel_rfl) (by simp) ?_
            refine AllReadyH.cons (o := _) rfl (fun K hK => ?st12) ?mo12
            case st12 =>
              go_simp
              refine hK.out _ _ (by go_split_ands <;> (try dsimp only) <;> go_simp) (fun hHeld12 => ?_)
              clear hK K
              (try simp only [List.getElem_toArray, List.getElem_cons_succ, List.getElem_cons_zero, Act.put, List.setIfInBounds_toArray, List.set_cons_zero, List.set_cons_succ])
              refine wpAnyH_ready (rs := [12]) (by kernel_rfl) (by simp) ?_
              refine AllReadyH.cons (o := _) rfl (fun K hK => ?st13) ?mo13
              case st13 =>
                refine Vg.step_que1 rfl (.tmp 59) (.tmp 63) 120 rfl _ 205 r0 (.agg #[.int .i64 0, .int .i64 0, .int .i64 0]) 3 24 Try.underlying120 hR hr0 hr1 hr2 rfl (by decide) (.slice ua N uc) N (Vg.jcells J) (by simp [Act.eval, Act.put]) (H_hrow.out.grows (by (repeat' (first | (with_reducible exact Vg.Grows.refl _) | (with_reducible assumption) | (with_reducible refine Vg.Grows.alloc ?_ _) | (with_reducible refine Vg.Grows.plus ?_ _ _) | (with_reducible refine Vg.Grows.drewN ?_ _) | (with_reducible refine Vg.Grows.drew ?_) | (with_reducible refine Vg.Grows.setCell ?_ ?_ _) | (with_reducible refine Vg.Grows.put ?_ ?_ _) | omega | (simp; omega) | (simp; done))))) ⟨wc.heap.size, 0, none⟩ 1 [.int .i64 cost, .int .i64 at_, .int .i64 0] (by simp [Act.eval, Act.put]) rfl (Vg.three_new (by first | rfl | ((try simp only [World.size_alloc, Vg.plus_size, Vg.put_size, World.size_setCell, World.size_drew, World.heap_drewN]) <;> omega))) (by simp [Value.oneCell']) (by unfold maxLen; omega) (by omega) (by decide) (by simp only [World.size_alloc, World.heap_drewN, World.size_drew]; omega) ?_; intro v2 W1 y2 m2 hqv hs2 ho2; obtain ⟨a2, c2, rfl⟩ := hqv.shape; have hT := ((Vg.Touch.of_grows (t := fun j => (Value.slice ua N uc).ownBlock = some j) (by (repeat' (first | (with_reducible exact Vg.Grows.refl _) | (with_reducible assumption) | (with_reducible refine Vg.Grows.alloc ?_ _) | (with_reducible refine Vg.Grows.plus ?_ _ _) | (with_reducible refine Vg.Grows.drewN ?_ _) | (with_reducible refine Vg.Grows.drew ?_) | (with_reducible refine Vg.Grows.setCell ?_ ?_ _) | (with_reducible refine Vg.Grows.put ?_ ?_ _) | omega | (simp; omega) | (simp; done))) : Vg.Grows wc _)).trans (Vg.Touch.of_same hs2)).trans (Vg.Touch.of_grows ((Vg.Grows.refl _).plus y2 m2)); obtain ⟨W2, hW2⟩ : ∃ W2, Vg.plus W1 y2 m2 = W2 := ⟨_, rfl⟩; rw [hW2] at hqv hT ⊢; clear hW2 hs2; have z6 := (hT.block b6 (by omega) (fun hh => by have := (H_how.out b6 hh).2; omega)).trans H_q6.out; have hqj2 := H_hf4.out.qj.kept (w' := W2) (fun k hk => hT.block k (H_hf4.out.qj.lt k hk).2 (fun hh => H_hf4.out.dju i hul k (by rw [H_hui.out]; exact hh) hk)); have c_z := Que_cell1 hqj2 hul; have f_z := hqj2.frozen; have l_z := (hqj2.lt jg rfl).2; rw [H_hui.out] at c_z; obtain ⟨hkeep, hend⟩ := FO.st_jobs (S := fun k => S k ∨ w.heap.size ≤ k) (i := i) (t4 := w.heap.size + 1) (w := w) (u2 := .slice a2 (N + 1) c2) (L2 := J ++ [⟨cost, at_, 0⟩]) H_hf4.out hi hul (by rw [H_hui.out]; exact hT) (by rw [H_hJn.out, H_hJc.out]; exact hqv) (by rw [H_hui.out]; intro k hk; refine ho2.imp (fun h9 => h9.symm.trans hk) (fun h9 => ?_); rw [h9] at hk; simp only [Option.some.injEq, World.size_alloc, World.heap_drewN, World.size_drew] at hk; omega) H_hgw4.out (by omega) (Nat.le_succ _) (by omega) (fun off e => by simp only [Option.some.injEq, Addr.mk.injEq, and_true] at e; omega) (fun k hk => .inr hk) (fun g off e => .inl (H_hSt.out g off e)); have r4 := hkeep (w.heap.size + 1) _ n6 (by rw [H_hui.out]; intro hh; have := (H_how.out _ hh).1; omega) H_q4.out; have r6 := hkeep b6 _ n3 (by rw [H_hui.out]; intro hh; have := (H_how.out _ hh).2; omega) H_q6.out; clear c_jo f_jo; clear c_q6 f_q6 p_q6; have c_z6 := Vg.cells_of z6; have f_z6 := Vg.frozen_of z6; have p_z6 := Vg.setCell_of z6; have l_z6 := Vg.lt_of z6; have H_z6 := Lib.hid z6; clear z6; have H_hT := Lib.hid hT; clear hT; have H_hqv := Lib.hid hqv; clear hqv; have H_ho2 := Lib.hid ho2; clear ho2; have H_hqj2 := Lib.hid hqj2; clear hqj2; have H_hkeep := Lib.hid hkeep; clear hkeep; have H_hend := Lib.hid hend; clear hend; have H_r4 := Lib.hid r4; clear r4; have H_r6 := Lib.hid r6; clear r6
                refine hK.out _ _ (by go_split_ands <;> (try dsimp only) <;> go_simp) (fun hHeld13 => ?_)
                clear hK K
                (try simp only [List.getElem_toArray, List.getElem_cons_succ, List.getElem_cons_zero, Act.put, List.setIfInBounds_toArray, List.set_cons_zero, List.set_cons_succ])
                refine wpAnyH_take (i := 13) (oi := _) (v := ?v14) rfl (by kernel_rfl) (by kernel_rfl) (by kernel_rfl) (fun _ _ _ h => h) (Or.inl ⟨by rfl, ?hy14⟩) (by assumption) ?rest14
                case hy14 => (intro w hSw; (try dsimp only at hSw); go_simp; first | done | with_reducible rfl)
                (try simp only [List.getElem_toArray, List.getElem_cons_succ, List.getElem_cons_zero, Act.put, List.setIfInBounds_toArray, List.set_cons_zero, List.set_cons_succ])
                refine wpAnyH_ready (rs := [14]) (by kernel_rfl) (by simp) ?_
                refine AllReadyH.cons (o := _) rfl (fun K hK => ?st15) ?mo15
                case st15 =>
                  go_simp
                  refine hK.out _ _ (by go_split_ands <;> (try dsimp only) <;> go_simp) (fun hHeld15 => ?_)
                  clear hK K
                  (try simp only [List.getElem_toArray, List.getElem_cons_succ, List.getElem_cons_zero, Act.put, List.setIfInBounds_toArray, List.set_cons_zero, List.set_cons_succ])
                  refine wpAnyH_done (by kernel_rfl) ?_ _
                  obtain ⟨W5, hW5⟩ : ∃ W5, W2.setCell ⟨jg, jo + i, none⟩ (.slice a2 (N + 1) c2) = W5 := ⟨_, rfl⟩
                  have hend := H_hend.out
                  have r4 := H_r4.out
                  have r6 := H_r6.out
                  rw [hW5] at r4 r6 hend ⊢
                  clear hW5 c_z f_z l_z
                  clear c_z6 f_z6 p_z6
                  have c_r4 := Vg.cells_of r4; have f_r4 := Vg.frozen_of r4; have p_r4 := Vg.setCell_of r4; have l_r4 := Vg.lt_of r4; have H_r4 := Lib.hid r4; clear r4; have c_r6 := Vg.cells_of r6; have f_r6 := Vg.frozen_of r6; have p_r6 := Vg.setCell_of r6; have l_r6 := Vg.lt_of r6; have H_r6 := Lib.hid r6; clear r6
                  have hpc : ∀ (cs : Array Value) (i : Nat), (Vg.put W5 (w.heap.size + 1) (.cells cs 112)).cell? ⟨w.heap.size + 1, i, none⟩ = cs[i]? := fun cs i => Vg.cells_of (Vg.put_heap_same l_r4) i
                  have H_hend := Lib.hid hend; clear hend; have H_hpc := Lib.hid hpc; clear hpc
                  go_wp2_with fail
                  refine bodyPost_ret (by simp [results, Try.results115, go_sem, H_hpc.out] <;> try rfl) rfl ?_
                  rw [← H_hK'.out]
                  have hend := H_hend.out (rvC (.slice (some ⟨g0, off0, none⟩) n tc) (.slice (some ⟨jg, jo, none⟩) n jc') (.slice (some ⟨lg, lo, none⟩) n lc') (.slice (some ⟨pg, po, none⟩) n pc'))
                  rw [H_hlo0.out] at hend
                  exact ⟨_, _, _, _, _, _, _, _, rfl, hend.1, hend.2⟩
                exact AllReadyH.nil
              exact AllReadyH.nil
            exact AllReadyH.nil
          refine AllReadyH.cons (o := _) rfl (fun K hK => ?st16) ?mo16
          case st16 =>
            go_simp
            refine hK.out _ _ (by go_split_ands <;> (try dsimp only) <;> go_simp) (fun hHeld16 => ?_)
            clear hK K
            (try simp only [List.getElem_toArray, List.getElem_cons_succ, List.getElem_cons_zero, Act.put, List.setIfInBounds_toArray, List.set_cons_zero, List.set_cons_succ])
            refine wpAnyH_ready (rs := [7]) (by kernel_rfl) (by simp) ?_
            refine AllReadyH.cons (o := _) rfl (fun K hK => ?st17) ?mo17
            case st17 =>
              go_simp
              refine hK.out _ _ (by go_split_ands <;> (try dsimp only) <;> go_simp) (fun hHeld17 => ?_)
              clear hK K
              (try simp only [List.getElem_toArray, List.getElem_cons_succ, List.getElem_cons_zero, Act.put, List.setIfInBounds_toArray, List.set_cons_zero, List.set_cons_succ])
              refine wpAnyH_ready (rs := [12]) (by kernel_rfl) (by simp) ?_
              refine AllReadyH.cons (o := _) rfl (fun K hK => ?st18) ?mo18
              case st18 =>
                refine Vg.step_que1 rfl (.tmp 59) (.tmp 63) 120 rfl _ 205 r0 (.agg #[.int .i64 0, .int .i64 0, .int .i64 0]) 3 24 Try.underlying120 hR hr0 hr1 hr2 rfl (by decide) (.slice ua N uc) N (Vg.jcells J) (by simp [Act.eval, Act.put]) (H_hrow.out.grows (by (repeat' (first | (with_reducible exact Vg.Grows.refl _) | (with_reducible assumption) | (with_reducible refine Vg.Grows.alloc ?_ _) | (with_reducible refine Vg.Grows.plus ?_ _ _) | (with_reducible refine Vg.Grows.drewN ?_ _) | (with_reducible refine Vg.Grows.drew ?_) | (with_reducible refine Vg.Grows.setCell ?_ ?_ _) | (with_reducible refine Vg.Grows.put ?_ ?_ _) | omega | (simp; omega) | (simp; done))))) ⟨wc.heap.size, 0, none⟩ 1 [.int .i64 cost, .int .i64 at_, .int .i64 0] (by simp [Act.eval, Act.put]) rfl (Vg.three_new (by first | rfl | ((try simp only [World.size_alloc, Vg.plus_size, Vg.put_size, World.size_setCell, World.size_drew, World.heap_drewN]) <;> omega))) (by simp [Value.oneCell']) (by unfold maxLen; omega) (by omega) (by decide) (by simp only [World.size_alloc, World.heap_drewN, World.size_drew]; omega) ?_; intro v2 W1 y2 m2 hqv hs2 ho2; obtain ⟨a2, c2, rfl⟩ := hqv.shape; have hT := ((Vg.Touch.of_grows (t := fun j => (Value.slice ua N uc).ownBlock = some j) (by (repeat' (first | (with_reducible exact Vg.Grows.refl _) | (with_reducible assumption) | (with_reducible refine Vg.Grows.alloc ?_ _) | (with_reducible refine Vg.Grows.plus ?_ _ _) | (with_reducible refine Vg.Grows.drewN ?_ _) | (with_reducible refine Vg.Grows.drew ?_) | (with_reducible refine Vg.Grows.setCell ?_ ?_ _) | (with_reducible refine Vg.Grows.put ?_ ?_ _) | omega | (simp; omega) | (simp; done))) : Vg.Grows wc _)).trans (Vg.Touch.of_same hs2)).trans (Vg.Touch.of_grows ((Vg.Grows.refl _).plus y2 m2)); obtain ⟨W2, hW2⟩ : ∃ W2, Vg.plus W1 y2 m2 = W2 := ⟨_, rfl⟩; rw [hW2] at hqv hT ⊢; clear hW2 hs2; have z6 := (hT.block b6 (by omega) (fun hh => by have := (H_how.out b6 hh).2; omega)).trans H_q6.out; have hqj2 := H_hf4.out.qj.kept (w' := W2) (fun k hk => hT.block k (H_hf4.out.qj.lt k hk).2 (fun hh => H_hf4.out.dju i hul k (by rw [H_hui.out]; exact hh) hk)); have c_z := Que_cell1 hqj2 hul; have f_z := hqj2.frozen; have l_z := (hqj2.lt jg rfl).2; rw [H_hui.out] at c_z; obtain ⟨hkeep, hend⟩ := FO.st_jobs (S := fun k => S k ∨ w.heap.size ≤ k) (i := i) (t4 := w.heap.size + 1) (w := w) (u2 := .slice a2 (N + 1) c2) (L2 := J ++ [⟨cost, at_, 0⟩]) H_hf4.out hi hul (by rw [H_hui.out]; exact hT) (by rw [H_hJn.out, H_hJc.out]; exact hqv) (by rw [H_hui.out]; intro k hk; refine ho2.imp (fun h9 => h9.symm.trans hk) (fun h9 => ?_); rw [h9] at hk; simp only [Option.some.injEq, World.size_alloc, World.heap_drewN, World.size_drew] at hk; omega) H_hgw4.out (by omega) (Nat.le_succ _) (by omega) (fun off e => by simp only [Option.some.injEq, Addr.mk.injEq, and_true] at e; omega) (fun k hk => .inr hk) (fun g off e => .inl (H_hSt.out g off e)); have r4 := hkeep (w.heap.size + 1) _ n6 (by rw [H_hui.out]; intro hh; have := (H_how.out _ hh).1; omega) H_q4.out; have r6 := hkeep b6 _ n3 (by rw [H_hui.out]; intro hh; have := (H_how.out _ hh).2; omega) H_q6.out; clear c_jo f_jo; clear c_q6 f_q6 p_q6; have c_z6 := Vg.cells_of z6; have f_z6 := Vg.frozen_of z6; have p_z6 := Vg.setCell_of z6; have l_z6 := Vg.lt_of z6; have H_z6 := Lib.hid z6; clear z6; have H_hT := Lib.hid hT; clear hT; have H_hqv := Lib.hid hqv; clear hqv; have H_ho2 := Lib.hid ho2; clear ho2; have H_hqj2 := Lib.hid hqj2; clear hqj2; have H_hkeep := Lib.hid hkeep; clear hkeep; have H_hend := Lib.hid hend; clear hend; have H_r4 := Lib.hid r4; clear r4; have H_r6 := Lib.hid r6; clear r6
                refine hK.out _ _ (by go_split_ands <;> (try dsimp only) <;> go_simp) (fun hHeld18 => ?_)
                clear hK K
                (try simp only [List.getElem_toArray, List.getElem_cons_succ, List.getElem_cons_zero, Act.put, List.setIfInBounds_toArray, List.set_cons_zero, List.set_cons_succ])
                refine wpAnyH_take (i := 13) (oi := _) (v := ?v19) rfl (by kernel_rfl) (by kernel_rfl) (by kernel_rfl) (fun _ _ _ h => h) (Or.inl ⟨by rfl, ?hy19⟩) (by assumption) ?rest19
                case hy19 => (intro w hSw; (try dsimp only at hSw); go_simp; first | done | with_reducible rfl)
                (try simp only [List.getElem_toArray, List.getElem_cons_succ, List.getElem_cons_zero, Act.put, List.setIfInBounds_toArray, List.set_cons_zero, List.set_cons_succ])
                refine wpAnyH_ready (rs := [14]) (by kernel_rfl) (by simp) ?_
                refine AllReadyH.cons (o := _) rfl (fun K hK => ?st20) ?mo20
                case st20 =>
                  go_simp
                  refine hK.out _ _ (by go_split_ands <;> (try dsimp only) <;> go_simp) (fun hHeld20 => ?_)
                  clear hK K
                  (try simp only [List.getElem_toArray, List.getElem_cons_succ, List.getElem_cons_zero, Act.put, List.setIfInBounds_toArray, List.set_cons_zero, List.set_cons_succ])
                  refine wpAnyH_done (by kernel_rfl) ?_ _
                  obtain ⟨W5, hW5⟩ : ∃ W5, W2.setCell ⟨jg, jo + i, none⟩ (.slice a2 (N + 1) c2) = W5 := ⟨_, rfl⟩
                  have hend := H_hend.out
                  have r4 := H_r4.out
                  have r6 := H_r6.out
                  rw [hW5] at r4 r6 hend ⊢
                  clear hW5 c_z f_z l_z
                  clear c_z6 f_z6 p_z6
                  have c_r4 := Vg.cells_of r4; have f_r4 := Vg.frozen_of r4; have p_r4 := Vg.setCell_of r4; have l_r4 := Vg.lt_of r4; have H_r4 := Lib.hid r4; clear r4; have c_r6 := Vg.cells_of r6; have f_r6 := Vg.frozen_of r6; have p_r6 := Vg.setCell_of r6; have l_r6 := Vg.lt_of r6; have H_r6 := Lib.hid r6; clear r6
                  have hpc : ∀ (cs : Array Value) (i : Nat), (Vg.put W5 (w.heap.size + 1) (.cells cs 112)).cell? ⟨w.heap.size + 1, i, none⟩ = cs[i]? := fun cs i => Vg.cells_of (Vg.put_heap_same l_r4) i
                  have H_hend := Lib.hid hend; clear hend; have H_hpc := Lib.hid hpc; clear hpc
                  go_wp2_with fail
                  refine bodyPost_ret (by simp [results, Try.results115, go_sem, H_hpc.out] <;> try rfl) rfl ?_
                  rw [← H_hK'.out]
                  have hend := H_hend.out (rvC (.slice (some ⟨g0, off0, none⟩) n tc) (.slice (some ⟨jg, jo, none⟩) n jc') (.slice (some ⟨lg, lo, none⟩) n lc') (.slice (some ⟨pg, po, none⟩) n pc'))
                  rw [H_hlo0.out] at hend
                  exact ⟨_, _, _, _, _, _, _, _, rfl, hend.1, hend.2⟩
                exact AllReadyH.nil
              exact AllReadyH.nil
            exact AllReadyH.nil
          exact AllReadyH.nil
  · rw [Vg.Kn.release_out (by omega)] at hx
    simp only [Prod.mk.injEq] at hx
    obtain ⟨rfl, rfl⟩ := hx
    have hhas : decide (0 ≤ i ∧ i < (K.length : Int)) = false := decide_eq_false (by omega)
    clear hin
    have H_h := Lib.hid h; clear h; have H_hJ := Lib.hid hJ; clear hJ; have H_hn := Lib.hid hn; clear hn; have H_hhas := Lib.hid hhas; clear hhas; have H_htk := Lib.hid htk; clear htk
    go_enter Try.func115, Try.ntmps115
    go_wp2_with ((go_at_call 75; (with_reducible refine (rf_has i (H_h.out.fk.grows (by (repeat' (first | (with_reducible exact Vg.Grows.refl _) | (with_reducible assumption) | (with_reducible refine Vg.Grows.alloc ?_ _) | (with_reducible refine Vg.Grows.plus ?_ _ _) | (with_reducible refine Vg.Grows.drewN ?_ _) | (with_reducible refine Vg.Grows.drew ?_) | (with_reducible refine Vg.Grows.setCell ?_ ?_ _) | (with_reducible refine Vg.Grows.put ?_ ?_ _) | omega | (simp; omega) | (simp; done)))))).mono ?_); rintro e w1 ⟨rfl, x1, n1, rfl⟩; rw [H_hhas.out]))
    go_returns
    exact ⟨_, _, _, _, _, _, _, _, rfl, (H_h.out.grows (by (repeat' (first | (with_reducible exact Vg.Grows.refl _) | (with_reducible assumption) | (with_reducible refine Vg.Grows.alloc ?_ _) | (with_reducible refine Vg.Grows.plus ?_ _ _) | (with_reducible refine Vg.Grows.drewN ?_ _) | (with_reducible refine Vg.Grows.drew ?_) | (with_reducible refine Vg.Grows.setCell ?_ ?_ _) | (with_reducible refine Vg.Grows.put ?_ ?_ _) | omega | (simp; omega) | (simp; done))))).mono fun k hk => .inl hk, by (repeat' (first | (with_reducible exact Vg.Grows.refl _) | (with_reducible assumption) | (with_reducible refine Vg.Grows.alloc ?_ _) | (with_reducible refine Vg.Grows.plus ?_ _ _) | (with_reducible refine Vg.Grows.drewN ?_ _) | (with_reducible refine Vg.Grows.drew ?_) | (with_reducible refine Vg.Grows.setCell ?_ ?_ _) | (with_reducible refine Vg.Grows.put ?_ ?_ _) | omega | (simp; omega) | (simp; done)))⟩
end
end Go.Proofs.Ytiinhofmhoplfaa
namespace Go.Proofs.Ytiinhofmhoplfaa
open Go.ChangeShapes Go.WideShapes Go.ChangeAt Go.RowKit
abbrev dn0 : Obj := .cells #[.int .i64 0, .int .i64 0, .int .i64 0] 124
section
variable {w w' w3 : World} {S T : Nat → Prop} {v vj vl vo : Value} {us : List Value} {K K' : List Vg.Kt} {M M' : List Vg.Mx} {B k n i tc t4 : Nat} {ta : Option Addr} {is : Bool} {x r m d1 d2 d3 : Int} {X : Obj}
/-- Behind a copy: a task's row holds other jobs, its head is what it was; then some boxes more. -/
theorem FO.fin_row {W2 W' : World} {L2 : List Vg.Jb} (h : FO w3 B ta tc n vj vl vo us K) (hi : i < K.length) (hi' : i < us.length) (ht : Vg.Touch (fun k => us[i].ownBlock = some k) w3 W2) (hq : Vg.Que W2 B 205 3 us[i] L2.length (Vg.jcells L2))
    (hw : Vg.Grows w w3) (hBw : w.heap.size ≤ B) (hW : Vg.Touch T W2 W') (hT : ∀ k, T k → (w.heap.size ≤ k ∧ k < B) ∧ ∀ off, ta ≠ some ⟨k, off, none⟩) (hS : ∀ k, w.heap.size ≤ k → S k) (hSt : ∀ g off, ta = some ⟨g, off, none⟩ → S g) :
    Vg.FKS S W' (.agg #[.slice ta n tc, vj, vl, vo]) (K.set i ⟨K[i].t, L2, K[i].lost, K[i].out⟩) ∧ Vg.Grows w W' := by
  have keepT : ∀ {e : TypeId} {s m : Nat} {v : Value} {xs : List Value}, Vg.Que W2 B e s v m xs → Vg.Que W' B e s v m xs := fun q => q.kept fun k hk => hW.block k (q.lt k hk).2 fun hh => by have := (hT k hh).1; have := (q.lt k hk).1; omega
  have hqj := keepT (h.qj.kept (w' := W2) fun k hk => ht.block k (h.qj.lt k hk).2 fun hh => h.dju i hi' k hh hk)
  have hTT : Vg.Touch (fun k => (us[i].ownBlock = some k ∨ vj.ownBlock = some k) ∨ T k) w3 W' := (ht.mono fun k _ hk => .inl (.inl hk)).trans (hW.mono fun k _ hk => .inr hk)
  have hTT2 : Vg.Touch (fun k => us[i].ownBlock = some k ∨ T k) w3 W' := (ht.mono fun k _ hk => .inl hk).trans (hW.mono fun k _ hk => .inr hk)
  refine ⟨h.jobs hi' hi (T := T) hTT (fun k hk => ⟨(hT k hk).1.2, (hT k hk).2⟩) (fun k hk => hS k (by omega)) hSt (by rw [List.set_getElem_self]; exact hqj) (keepT hq), hTT2.grows hw fun k hk => ?_⟩
  rcases hk with hk | hk
  · have := ((h.row i hi' hi).lt k hk).1; omega
  · exact (hT k hk).1.1
/-- Behind a copy: a task's row is another one, its head laid; then some boxes more. -/
theorem FO.fin_jobs {pg po pc : Nat} {W2 W' : World} {u2 : Value} {L2 : List Vg.Jb} (h : FO w3 B ta tc n (.slice (some ⟨pg, po, none⟩) n pc) vl vo us K) (hi : i < K.length) (hi' : i < us.length) (ht : Vg.Touch (fun k => us[i].ownBlock = some k) w3 W2) (hq : Vg.Que W2 B 205 3 u2 L2.length (Vg.jcells L2)) (ho : ∀ k, u2.ownBlock = some k → us[i].ownBlock = some k ∨ w3.heap.size ≤ k)
    (hw : Vg.Grows w w3) (hBw : w.heap.size ≤ B) (hW : Vg.Touch T (W2.setCell ⟨pg, po + i, none⟩ u2) W') (hT : ∀ k, T k → (w.heap.size ≤ k ∧ k < B) ∧ ∀ off, ta ≠ some ⟨k, off, none⟩) (hS : ∀ k, w.heap.size ≤ k → S k) (hSt : ∀ g off, ta = some ⟨g, off, none⟩ → S g) :
    Vg.FKS S W' (.agg #[.slice ta n tc, .slice (some ⟨pg, po, none⟩) n pc, vl, vo]) (K.set i ⟨K[i].t, L2, K[i].lost, K[i].out⟩) ∧ Vg.Grows w W' := by
  have hpg := h.qj.lt pg rfl
  have hug := fun k => h.dju i hi' k
  have hqj := h.qj.kept (w' := W2) fun k hk => ht.block k (h.qj.lt k hk).2 fun hh => hug k hh hk
  have s1 := hqj.set (j := i) (u := u2) (by omega)
  have hu2 : ∀ k, u2.ownBlock = some k → k ≠ pg := fun k hk hh => by
    subst hh
    rcases ho k hk with h1 | h1
    · exact hug k h1 rfl
    · omega
  have hq2 := hq.kept (w' := W2.setCell ⟨pg, po + i, none⟩ u2) fun k hk => s1.2.block k (hu2 k hk)
  have keepT : ∀ {e : TypeId} {s m : Nat} {v : Value} {xs : List Value}, Vg.Que (W2.setCell ⟨pg, po + i, none⟩ u2) B e s v m xs → Vg.Que W' B e s v m xs := fun q => q.kept fun k hk => hW.block k (q.lt k hk).2 fun hh => by have := (hT k hh).1; have := (q.lt k hk).1; omega
  have hTT : Vg.Touch (fun k => (us[i].ownBlock = some k ∨ (Value.slice (some ⟨pg, po, none⟩) n pc).ownBlock = some k) ∨ T k) w3 W' := ((ht.mono fun k _ hk => .inl (.inl hk)).trans (Vg.Touch.of_same (s1.2.mono fun k hk => .inl (.inr (by rw [hk]; rfl))))).trans (hW.mono fun k _ hk => .inr hk)
  refine ⟨h.jobs hi' hi (T := T) hTT (fun k hk => ⟨(hT k hk).1.2, (hT k hk).2⟩) (fun k hk => hS k (by omega)) hSt (keepT s1.1) (keepT hq2), hTT.grows hw fun k hk => ?_⟩
  rcases hk with (hk | hk) | hk
  · have := ((h.row i hi' hi).lt k hk).1; omega
  · have : pg = k := (by simpa [Value.ownBlock] using hk)
    omega
  · exact (hT k hk).1.1
theorem rf_run (h : Vg.FKS S w v K) (hm : Vg.Kn.HM K M) (hI : Vg.Kn.Inv k K) (h32 : K.length ≤ 32) (hJ : ∀ x ∈ K, x.J.length ≤ 16) (hx : Vg.Kn.run K M m = (K', M', (d1, d2, d3), is, r)) :
    Calls Try.prog 116 #[v, .int .i64 m] w fun e w' => ∃ ta tc ja jc la lc oa oc, e = .returned (.tuple #[.agg #[.slice ta K.length tc, .slice ja K.length jc, .slice la K.length lc, .slice oa K.length oc], .agg #[.int .i64 d1, .int .i64 d2, .int .i64 d3], .bool is, .int .i64 r]) ∧ Vg.FKS (fun k => S k ∨ w.heap.size ≤ k) w' (.agg #[.slice ta K.length tc, .slice ja K.length jc, .slice la K.length lc, .slice oa K.length oc]) K' ∧ Vg.Grows w w' := by
  obtain ⟨n, hn⟩ : ∃ n, K.length = n := ⟨_, rfl⟩
  obtain ⟨ta, tc, ja, jc, la, lc, oa, oc, rfl, t1, t2, j1, j2, htk⟩ := h.fk.shape
  rw [hn] at h t1 j1 h32 ⊢
  rcases Vg.Kn.best_cases (M := M) hI with ⟨hb, -⟩ | ⟨i, hi, hb, ha, -⟩
  · rw [Vg.Kn.run_none hb] at hx
    simp only [Prod.mk.injEq] at hx
    obtain ⟨rfl, rfl, ⟨rfl, rfl, rfl⟩, rfl, rfl⟩ := hx
    have H_h := Lib.hid h; clear h; have H_hm := Lib.hid hm; clear hm; have H_hI := Lib.hid hI; clear hI; have H_hJ := Lib.hid hJ; clear hJ; have H_hn := Lib.hid hn; clear hn; have H_hb := Lib.hid hb; clear hb; have H_htk := Lib.hid htk; clear htk
    go_enter Try.func116, Try.ntmps116
    go_wp2_with ((go_at_call 68; (with_reducible refine (rf_pick (H_h.out.fk.grows (by (repeat' (first | (with_reducible exact Vg.Grows.refl _) | (with_reducible assumption) | (with_reducible refine Vg.Grows.alloc ?_ _) | (with_reducible refine Vg.Grows.plus ?_ _ _) | (with_reducible refine Vg.Grows.drewN ?_ _) | (with_reducible refine Vg.Grows.drew ?_) | (with_reducible refine Vg.Grows.setCell ?_ ?_ _) | (with_reducible refine Vg.Grows.put ?_ ?_ _) | omega | (simp; omega) | (simp; done))))) H_hm.out H_hI.out H_hb.out rfl rfl).mono ?_); rintro e w1 ⟨rfl, x1, n1, rfl⟩))
    go_returns
    exact ⟨_, _, _, _, _, _, _, _, rfl, (H_h.out.grows (by (repeat' (first | (with_reducible exact Vg.Grows.refl _) | (with_reducible assumption) | (with_reducible refine Vg.Grows.alloc ?_ _) | (with_reducible refine Vg.Grows.plus ?_ _ _) | (with_reducible refine Vg.Grows.drewN ?_ _) | (with_reducible refine Vg.Grows.drew ?_) | (with_reducible refine Vg.Grows.setCell ?_ ?_ _) | (with_reducible refine Vg.Grows.put ?_ ?_ _) | omega | (simp; omega) | (simp; done))))).mono fun k hk => .inl hk, by (repeat' (first | (with_reducible exact Vg.Grows.refl _) | (with_reducible assumption) | (with_reducible refine Vg.Grows.alloc ?_ _) | (with_reducible refine Vg.Grows.plus ?_ _ _) | (with_reducible refine Vg.Grows.drewN ?_ _) | (with_reducible refine Vg.Grows.drew ?_) | (with_reducible refine Vg.Grows.setCell ?_ ?_ _) | (with_reducible refine Vg.Grows.put ?_ ?_ _) | omega | (simp; omega) | (simp; done)))⟩
  · obtain ⟨_, t, j, l, lo, hxi, hg⟩ := Vg.Kn.able_at hI ha
    have hin1 : i < n := by omega
    have hin2 : (i : Int) < n := by omega
    have hin0 : (0 : Int) ≤ i := by omega
    have hmx : max (i : Int) 0 = i := by omega
    have his : decide ((0 : Int) ≤ (i : Int)) = true := by simp
    have hlf := Vg.Kn.left_some hb hi hxi
    rw [Vg.Kn.run_some hb hi hxi] at hx
    unfold Vg.Kn.runAt at hx
    obtain ⟨lf, hlfe⟩ : ∃ x, Vg.Kn.leftJ t j = x := ⟨_, rfl⟩
    have hlp := Vg.Kn.leftJ_pos (t := t) (hg.js j (by simp))
    rw [hlfe] at hlf hx hlp
    simp only [] at hx
    by_cases hbad : m < 0 ∨ lf < m
    · rw [if_pos hbad] at hx
      simp only [Prod.mk.injEq] at hx
      obtain ⟨rfl, rfl, ⟨rfl, rfl, rfl⟩, rfl, rfl⟩ := hx
      by_cases b1 : m < 0
      · clear hbad
        have H_h := Lib.hid h; clear h; have H_hm := Lib.hid hm; clear hm; have H_hI := Lib.hid hI; clear hI; have H_hJ := Lib.hid hJ; clear hJ; have H_hn := Lib.hid hn; clear hn; have H_hb := Lib.hid hb; clear hb; have H_htk := Lib.hid htk; clear htk; have H_hxi := Lib.hid hxi; clear hxi; have H_hg := Lib.hid hg; clear hg; have H_hmx := Lib.hid hmx; clear hmx; have H_his := Lib.hid his; clear his; have H_hlf := Lib.hid hlf; clear hlf; have H_hlfe := Lib.hid hlfe; clear hlfe; have H_hlp := Lib.hid hlp; clear hlp
        go_enter Try.func116, Try.ntmps116
        go_wp2_with ((go_at_call 68; (with_reducible refine (rf_pick (H_h.out.fk.grows (by (repeat' (first | (with_reducible exact Vg.Grows.refl _) | (with_reducible assumption) | (with_reducible refine Vg.Grows.alloc ?_ _) | (with_reducible refine Vg.Grows.plus ?_ _ _) | (with_reducible refine Vg.Grows.drewN ?_ _) | (with_reducible refine Vg.Grows.drew ?_) | (with_reducible refine Vg.Grows.setCell ?_ ?_ _) | (with_reducible refine Vg.Grows.put ?_ ?_ _) | omega | (simp; omega) | (simp; done))))) H_hm.out H_hI.out H_hb.out H_hmx.out H_his.out).mono ?_); rintro e w1 ⟨rfl, x1, n1, rfl⟩))
        go_returns
        exact ⟨_, _, _, _, _, _, _, _, rfl, (H_h.out.grows (by (repeat' (first | (with_reducible exact Vg.Grows.refl _) | (with_reducible assumption) | (with_reducible refine Vg.Grows.alloc ?_ _) | (with_reducible refine Vg.Grows.plus ?_ _ _) | (with_reducible refine Vg.Grows.drewN ?_ _) | (with_reducible refine Vg.Grows.drew ?_) | (with_reducible refine Vg.Grows.setCell ?_ ?_ _) | (with_reducible refine Vg.Grows.put ?_ ?_ _) | omega | (simp; omega) | (simp; done))))).mono fun k hk => .inl hk, by (repeat' (first | (with_reducible exact Vg.Grows.refl _) | (with_reducible assumption) | (with_reducible refine Vg.Grows.alloc ?_ _) | (with_reducible refine Vg.Grows.plus ?_ _ _) | (with_reducible refine Vg.Grows.drewN ?_ _) | (with_reducible refine Vg.Grows.drew ?_) | (with_reducible refine Vg.Grows.setCell ?_ ?_ _) | (with_reducible refine Vg.Grows.put ?_ ?_ _) | omega | (simp; omega) | (simp; done)))⟩
      · have b2 : lf < m := by omega
        clear hbad
        have H_h := Lib.hid h; clear h; have H_hm := Lib.hid hm; clear hm; have H_hI := Lib.hid hI; clear hI; have H_hJ := Lib.hid hJ; clear hJ; have H_hn := Lib.hid hn; clear hn; have H_hb := Lib.hid hb; clear hb; have H_htk := Lib.hid htk; clear htk; have H_hxi := Lib.hid hxi; clear hxi; have H_hg := Lib.hid hg; clear hg; have H_hmx := Lib.hid hmx; clear hmx; have H_his := Lib.hid his; clear his; have H_hlf := Lib.hid hlf; clear hlf; have H_hlfe := Lib.hid hlfe; clear hlfe; have H_hlp := Lib.hid hlp; clear hlp
        go_enter Try.func116, Try.ntmps116
        go_wp2_with (first | (go_at_call 68; (with_reducible refine (rf_pick (H_h.out.fk.grows (by (repeat' (first | (with_reducible exact Vg.Grows.refl _) | (with_reducible assumption) | (with_reducible refine Vg.Grows.alloc ?_ _) | (with_reducible refine Vg.Grows.plus ?_ _ _) | (with_reducible refine Vg.Grows.drewN ?_ _) | (with_reducible refine Vg.Grows.drew ?_) | (with_reducible refine Vg.Grows.setCell ?_ ?_ _) | (with_reducible refine Vg.Grows.put ?_ ?_ _) | omega | (simp; omega) | (simp; done))))) H_hm.out H_hI.out H_hb.out H_hmx.out H_his.out).mono ?_); rintro e w1 ⟨rfl, x1, n1, rfl⟩) | (go_at_call 70; (with_reducible refine (rf_left (H_h.out.fk.grows (by (repeat' (first | (with_reducible exact Vg.Grows.refl _) | (with_reducible assumption) | (with_reducible refine Vg.Grows.alloc ?_ _) | (with_reducible refine Vg.Grows.plus ?_ _ _) | (with_reducible refine Vg.Grows.drewN ?_ _) | (with_reducible refine Vg.Grows.drew ?_) | (with_reducible refine Vg.Grows.setCell ?_ ?_ _) | (with_reducible refine Vg.Grows.put ?_ ?_ _) | omega | (simp; omega) | (simp; done))))) H_hm.out H_hI.out H_hlf.out).mono ?_); rintro e w2 ⟨rfl, x2, n2, rfl⟩))
        go_returns
        exact ⟨_, _, _, _, _, _, _, _, rfl, (H_h.out.grows (by (repeat' (first | (with_reducible exact Vg.Grows.refl _) | (with_reducible assumption) | (with_reducible refine Vg.Grows.alloc ?_ _) | (with_reducible refine Vg.Grows.plus ?_ _ _) | (with_reducible refine Vg.Grows.drewN ?_ _) | (with_reducible refine Vg.Grows.drew ?_) | (with_reducible refine Vg.Grows.setCell ?_ ?_ _) | (with_reducible refine Vg.Grows.put ?_ ?_ _) | omega | (simp; omega) | (simp; done))))).mono fun k hk => .inl hk, by (repeat' (first | (with_reducible exact Vg.Grows.refl _) | (with_reducible assumption) | (with_reducible refine Vg.Grows.alloc ?_ _) | (with_reducible refine Vg.Grows.plus ?_ _ _) | (with_reducible refine Vg.Grows.drewN ?_ _) | (with_reducible refine Vg.Grows.drew ?_) | (with_reducible refine Vg.Grows.setCell ?_ ?_ _) | (with_reducible refine Vg.Grows.put ?_ ?_ _) | omega | (simp; omega) | (simp; done)))⟩
    · rw [if_neg hbad] at hx
      have b1 : ¬ m < 0 := by omega
      have b2 : ¬ lf < m := by omega
      clear hbad
      obtain ⟨g0, off0, hta, hg0, -⟩ := h.fk.atT hi
      have hSt := h.ta
      have H_hi : i < K.length := hi
      obtain ⟨⟨a1, a2⟩, ⟨a3, a4⟩, a5⟩ := hg.js j (by simp)
      obtain ⟨cost, at_, went⟩ := j
      simp only [] at a1 a2 a3 a4 hx hlp
      obtain ⟨N, hN⟩ : ∃ N, l.length = N := ⟨_, rfl⟩
      have hJ1 := hJ _ (List.getElem_mem hi)
      rw [hxi] at hJ1
      simp only [List.length_cons, hN] at hJ1
      have hwr : IntKind.i64.wrap (went + m) = went + m := IntWalk.i64_in _ (by omega)
      have H_h := Lib.hid h; clear h; have H_hm := Lib.hid hm; clear hm; have H_hI := Lib.hid hI; clear hI; have H_hJ := Lib.hid hJ; clear hJ; have H_hn := Lib.hid hn; clear hn; have H_hb := Lib.hid hb; clear hb; have H_htk := Lib.hid htk; clear htk; have H_hxi := Lib.hid hxi; clear hxi; have H_hg := Lib.hid hg; clear hg; have H_hmx := Lib.hid hmx; clear hmx; have H_his := Lib.hid his; clear his; have H_hlf := Lib.hid hlf; clear hlf; have H_hlfe := Lib.hid hlfe; clear hlfe; have H_hSt := Lib.hid hSt; clear hSt; have H_hta := Lib.hid hta; clear hta; have H_a5 := Lib.hid a5; clear a5; have H_hN := Lib.hid hN; clear hN; have H_hx := Lib.hid hx; clear hx
      go_enter Try.func116, Try.ntmps116
      go_upto_region 7 with (first | (go_at_call 68; (with_reducible refine (rf_pick (H_h.out.fk.grows (by (repeat' (first | (with_reducible exact Vg.Grows.refl _) | (with_reducible assumption) | (with_reducible refine Vg.Grows.alloc ?_ _) | (with_reducible refine Vg.Grows.plus ?_ _ _) | (with_reducible refine Vg.Grows.drewN ?_ _) | (with_reducible refine Vg.Grows.drew ?_) | (with_reducible refine Vg.Grows.setCell ?_ ?_ _) | (with_reducible refine Vg.Grows.put ?_ ?_ _) | omega | (simp; omega) | (simp; done))))) H_hm.out H_hI.out H_hb.out H_hmx.out H_his.out).mono ?_); rintro e w1 ⟨rfl, x1, n1, rfl⟩) | (go_at_call 70; (with_reducible refine (rf_left (H_h.out.fk.grows (by (repeat' (first | (with_reducible exact Vg.Grows.refl _) | (with_reducible assumption) | (with_reducible refine Vg.Grows.alloc ?_ _) | (with_reducible refine Vg.Grows.plus ?_ _ _) | (with_reducible refine Vg.Grows.drewN ?_ _) | (with_reducible refine Vg.Grows.drew ?_) | (with_reducible refine Vg.Grows.setCell ?_ ?_ _) | (with_reducible refine Vg.Grows.put ?_ ?_ _) | omega | (simp; omega) | (simp; done))))) H_hm.out H_hI.out H_hlf.out).mono ?_); rintro e w2 ⟨rfl, x2, n2, rfl⟩) | (go_at_call 136; (with_reducible refine (rf_copy (H_h.out.fk.grows (by (repeat' (first | (with_reducible exact Vg.Grows.refl _) | (with_reducible assumption) | (with_reducible refine Vg.Grows.alloc ?_ _) | (with_reducible refine Vg.Grows.plus ?_ _ _) | (with_reducible refine Vg.Grows.drewN ?_ _) | (with_reducible refine Vg.Grows.drew ?_) | (with_reducible refine Vg.Grows.setCell ?_ ?_ _) | (with_reducible refine Vg.Grows.put ?_ ?_ _) | omega | (simp; omega) | (simp; done))))) H_hn.out (by omega) h32 H_hJ.out).mono ?_); rintro e w3 ⟨jg, jo, jc', lg, lo, lc', pg, po, pc', us, rfl, hfo, hus, hg3⟩; have b4 := hg3.blk (b := w.heap.size + 1) (o := rv0) (by go_simp); have hgw := Vg.Grows.trans (a := w) (by (repeat' (first | (with_reducible exact Vg.Grows.refl _) | (with_reducible assumption) | (with_reducible refine Vg.Grows.alloc ?_ _) | (with_reducible refine Vg.Grows.plus ?_ _ _) | (with_reducible refine Vg.Grows.drewN ?_ _) | (with_reducible refine Vg.Grows.drew ?_) | (with_reducible refine Vg.Grows.setCell ?_ ?_ _) | (with_reducible refine Vg.Grows.put ?_ ?_ _) | omega | (simp; omega) | (simp; done)))) hg3; have hB2 := hg3.size; simp only [World.size_alloc, Vg.plus_size, Vg.put_size, World.size_setCell, World.size_drew, World.heap_drewN] at hB2 hfo; have b5 := hg3.blk (b := w.heap.size + 1 + 1) (o := dn0) (by go_simp); have H_hfo := Lib.hid hfo; clear hfo; have H_hus := Lib.hid hus; clear hus; have H_hg3 := Lib.hid hg3; clear hg3; have H_hgw := Lib.hid hgw; clear hgw; have H_b4 := Lib.hid b4; clear b4; have H_b5 := Lib.hid b5; clear b5))
      obtain ⟨W3, hW3⟩ : ∃ W3, w3.alloc (rvC (.slice ta n tc) (.slice (some ⟨jg, jo, none⟩) n jc') (.slice (some ⟨lg, lo, none⟩) n lc') (.slice (some ⟨pg, po, none⟩) n pc')) = W3 := ⟨_, rfl⟩
      have hg33 : Vg.Grows w3 W3 := by rw [← hW3]; exact (Vg.Grows.refl _).alloc _
      have hf3 := H_hfo.out.grows hg33
      have p6 : Vg.blk W3 w3.heap.size = some (rvC (.slice ta n tc) (.slice (some ⟨jg, jo, none⟩) n jc') (.slice (some ⟨lg, lo, none⟩) n lc') (.slice (some ⟨pg, po, none⟩) n pc')) := by rw [← hW3]; exact Vg.alloc_heap_at rfl
      have p4 := hg33.blk H_b4.out
      have p5 := hg33.blk H_b5.out
      have hgw3 := H_hgw.out.trans hg33
      have hsz3 : W3.heap.size = w3.heap.size + 1 := by rw [← hW3]; simp
      rw [hW3]
      clear hW3
      have jga := (H_hfo.out.qj.lt jg rfl)
      have hul : i < us.length := by rw [hf3.ul]; exact hin1
      have hrow := hf3.row i hul hi
      rw [H_hxi.out] at hrow
      simp only [List.length_cons, H_hN.out] at hrow
      have hrow0 := (H_hfo.out.row i hul hi).lt
      obtain ⟨b6, hb6⟩ : ∃ b6, w3.heap.size = b6 := ⟨_, rfl⟩
      rw [hb6] at p6 hsz3 hB2 jga hrow0 ⊢
      have c_jo := FO.c_job hf3 hul
      have f_jo := hf3.qj.frozen
      obtain ⟨ug, uo, uc, hui, hugB, hugl, hu1, hu2, e0, e1, e2⟩ := hrow.job (congrArg (· + 1) H_hN.out)
      simp only [] at e0 e1 e2
      have hug6 := (hrow0 ug (by rw [hui]; rfl)).2
      have hudj := hf3.dju i hul ug (by rw [hui]; rfl)
      have hugj : ug ≠ jg := fun hh => hudj (by rw [hh]; rfl)
      have hjug : jg ≠ ug := fun hh => hugj hh.symm
      rw [hui] at c_jo hrow
      have f_u := hrow.frozen
      have s1 := hrow.set (j := 2) (u := .int .i64 (went + m)) (by simp [Vg.jcells])
      rw [show (Vg.jcells (⟨cost, at_, went⟩ :: l)).set 2 (.int .i64 (went + m)) = Vg.jcells (⟨cost, at_, went + m⟩ :: l) from by simp [Vg.jcells]] at s1
      have hjgl : jg < W3.heap.size := by omega
      have hN2 : (0 : Int) < (N : Int) + 1 := by omega
      have hN3 : (0 : Int) < ((N + 1 : Nat) : Int) := by omega
      have n1 : b6 ≠ ug := by omega
      have n2 : ug ≠ b6 := by omega
      have n3 : b6 ≠ jg := by omega
      have n4 : jg ≠ b6 := by omega
      have n5 : w.heap.size + 1 ≠ ug := by omega
      have n6 : w.heap.size + 1 + 1 ≠ ug := by omega
      have c_p6 := Vg.cells_of p6; have f_p6 := Vg.frozen_of p6; have p_p6 := Vg.setCell_of p6; have l_p6 := Vg.lt_of p6; have H_p6 := Lib.hid p6; clear p6
      have H_hf3 := Lib.hid hf3; clear hf3; have H_p4 := Lib.hid p4; clear p4; have H_p5 := Lib.hid p5; clear p5; have H_hgw3 := Lib.hid hgw3; clear hgw3; have H_hrow := Lib.hid hrow; clear hrow; have H_hui := Lib.hid hui; clear hui; have H_s1 := Lib.hid s1; clear s1; have H_hrow0 := Lib.hid hrow0; clear hrow0; have H_hudj := Lib.hid hudj; clear hudj; have H_hb6 := Lib.hid hb6; clear hb6; have H_hg33 := Lib.hid hg33; clear hg33
      go_upto_region 9 with fail
      obtain ⟨W5, hW5⟩ : ∃ W5, W3.setCell ⟨ug, uo + 2, none⟩ (.int .i64 (went + m)) = W5 := ⟨_, rfl⟩
      have s1 := H_s1.out
      rw [hW5] at s1 ⊢
      have hT5 : Vg.Touch (fun k => us[i].ownBlock = some k) W3 W5 := Vg.Touch.of_same (s1.2.mono fun k hk => by rw [H_hui.out, hk]; rfl)
      have q6 := (s1.2.block b6 n1).trans H_p6.out
      have q4 := (s1.2.block (w.heap.size + 1) n5).trans H_p4.out
      have q5 := (s1.2.block (w.heap.size + 1 + 1) n6).trans H_p5.out
      have s1 := s1.1
      obtain ⟨ug', uo', uc', he, -, hugl5, -, -, e0', e1', e2'⟩ := s1.job (congrArg (· + 1) H_hN.out)
      simp only [Value.slice.injEq, Option.some.injEq, Addr.mk.injEq, and_true, true_and] at he
      obtain ⟨⟨rfl, rfl⟩, rfl⟩ := he
      simp only [] at e0' e1' e2'
      have hqj5 := H_hf3.out.qj.kept (w' := W5) (fun k hk => hT5.block k (H_hf3.out.qj.lt k hk).2 (fun hh => H_hf3.out.dju i hul k hh hk))
      clear hW5 e0 e1 e2 c_jo f_jo f_u
      clear c_p6 f_p6 p_p6
      clear l_p6 H_p6
      have H_hT5 := Lib.hid hT5; clear hT5; have H_s1 := Lib.hid s1; clear s1; have H_q4 := Lib.hid q4; clear q4; have H_q5 := Lib.hid q5; clear q5; have H_q6 := Lib.hid q6; clear q6; have H_hqj5 := Lib.hid hqj5; clear hqj5
      go_cut [56] (fun v56 wx => v56 = .bool (decide (went + m < cost)) ∧ Vg.Grows W5 wx)
      case first =>
        by_cases hf : went + m < cost
        · go_quiet (fail)
          all_goals go_wp2_with fail
          all_goals go_meet
          all_goals exact ⟨by simp [hf], by (repeat' (first | (with_reducible exact Vg.Grows.refl _) | (with_reducible assumption) | (with_reducible refine Vg.Grows.alloc ?_ _) | (with_reducible refine Vg.Grows.plus ?_ _ _) | (with_reducible refine Vg.Grows.drewN ?_ _) | (with_reducible refine Vg.Grows.drew ?_) | (with_reducible refine Vg.Grows.setCell ?_ ?_ _) | (with_reducible refine Vg.Grows.put ?_ ?_ _) | omega | (simp; omega) | (simp; done)))⟩
        · go_quiet (fail)
          all_goals go_wp2_with fail
          all_goals go_meet
          all_goals exact ⟨by simp [hf], by (repeat' (first | (with_reducible exact Vg.Grows.refl _) | (with_reducible assumption) | (with_reducible refine Vg.Grows.alloc ?_ _) | (with_reducible refine Vg.Grows.plus ?_ _ _) | (with_reducible refine Vg.Grows.drewN ?_ _) | (with_reducible refine Vg.Grows.drew ?_) | (with_reducible refine Vg.Grows.setCell ?_ ?_ _) | (with_reducible refine Vg.Grows.put ?_ ?_ _) | omega | (simp; omega) | (simp; done)))⟩
      case rest =>
        obtain ⟨rfl, hg9⟩ := hcut
        have x4 := hg9.blk H_q4.out
        have x5 := hg9.blk H_q5.out
        have x6 := hg9.blk H_q6.out
        have sq := H_s1.out.grows hg9
        have qj9 := H_hqj5.out.grows hg9
        have hT9 := H_hT5.out.trans (Vg.Touch.of_grows hg9)
        have hB3 : w.heap.size ≤ w.heap.size + 1 := Nat.le_succ _
        clear e0' e1' e2'
        have hTa : ∀ k, (k = w.heap.size + 1 ∨ k = w.heap.size + 1 + 1) → ∀ off, ta ≠ some ⟨k, off, none⟩ := fun k hk off e => by
          rw [H_hta.out] at e
          simp only [Option.some.injEq, Addr.mk.injEq, and_true] at e
          omega
        by_cases hd : went + m = cost
        · have hf : ¬ (went + m < cost) := by omega
          have hx := H_hx.out
          rw [if_pos hd] at hx
          simp only [Prod.mk.injEq] at hx
          obtain ⟨hK', rfl, ⟨rfl, rfl, rfl⟩, rfl, rfl⟩ := hx
          obtain ⟨ug', uo', uc', he, -, hugl9, -, -, e0', e1', e2'⟩ := sq.job (congrArg (· + 1) H_hN.out)
          simp only [Value.slice.injEq, Option.some.injEq, Addr.mk.injEq, and_true, true_and] at he
          obtain ⟨⟨rfl, rfl⟩, rfl⟩ := he
          simp only [] at e0' e1' e2'
          clear hd
          have c_x6 := Vg.cells_of x6; have f_x6 := Vg.frozen_of x6; have p_x6 := Vg.setCell_of x6; have l_x6 := Vg.lt_of x6; have H_x6 := Lib.hid x6; clear x6
          have H_hK' := Lib.hid hK'; clear hK'; have H_sq := Lib.hid sq; clear sq; have H_qj9 := Lib.hid qj9; clear qj9; have H_hT9 := Lib.hid hT9; clear hT9; have H_hTa := Lib.hid hTa; clear hTa; have H_x4 := Lib.hid x4; clear x4; have H_x5 := Lib.hid x5; clear x5; have H_hg9 := Lib.hid hg9; clear hg9
          go_upto_region 11 with fail
          go_cut [12] (fun v12 wx => ∃ b12, v12 = .pointer (some ⟨b12, 0, none⟩) ∧ Vg.blk wx b12 = some (.cells #[.int .i64 i, .int .i64 cost, .int .i64 at_] 124) ∧ wc.heap.size ≤ b12 ∧ Vg.Grows wc wx)
          case first =>
            refine wp_region_held_drew (S := fun w' => ug < w'.heap.size ∧ w'.cell? ⟨ug, uo, none⟩ = some (.int .i64 cost) ∧ w'.cell? ⟨ug, uo + 1, none⟩ = some (.int .i64 at_)) (by kernel_rfl) (by go_split_ands <;> (try dsimp only) <;> go_simp) (fun hHeld => ?_)
            refine wpAnyH_take (i := 0) (oi := _) (v := ?v1) rfl (by kernel_rfl) (by kernel_rfl) (by kernel_rfl) (fun _ _ _ h => h) (Or.inl ⟨by rfl, ?hy1⟩) (by assumption) ?rest1
            case hy1 => (intro w hSw; (try dsimp only at hSw); go_simp; first | done | with_reducible rfl)
            (try simp only [List.getElem_toArray, List.getElem_cons_succ, List.getElem_cons_zero, Act.put, List.setIfInBounds_toArray, List.set_cons_zero, List.set_cons_succ])
            refine wpAnyH_take (i := 1) (oi := _) (v := ?v2) rfl (by kernel_rfl) (by kernel_rfl) (by kernel_rfl) (fun _ _ _ h => h) (Or.inl ⟨by rfl, ?hy2⟩) (by assumption) ?rest2
            case hy2 => (intro w hSw; (try dsimp only at hSw); go_simp; first | done | with_reducible rfl)
            (try simp only [List.getElem_toArray, List.getElem_cons_succ, List.getElem_cons_zero, Act.put, List.setIfInBounds_toArray, List.set_cons_zero, List.set_cons_succ])
            refine wpAnyH_take (i := 2) (oi := _) (v := ?v3) rfl (by kernel_rfl) (by kernel_rfl) (by kernel_rfl) (fun _ _ _ h => h) (Or.inl ⟨by rfl, ?hy3⟩) (by assumption) ?rest3
            case hy3 => (intro w hSw; (try dsimp only at hSw); go_simp; first | done | with_reducible rfl)
            (try simp only [List.getElem_toArray, List.getElem_cons_succ, List.getElem_cons_zero, Act.put, List.setIfInBounds_toArray, List.set_cons_zero, List.set_cons_succ])
            refine wpAnyH_take (i := 3) (oi := _) (v := ?v4) rfl (by kernel_rfl) (by kernel_rfl) (by kernel_rfl) (fun _ _ _ h => h) (Or.inl ⟨by rfl, ?hy4⟩) (by assumption) ?rest4
            case hy4 => (intro w hSw; (try dsimp only at hSw); go_simp; first | done | with_reducible rfl)
            (try simp only [List.getElem_toArray, List.getElem_cons_succ, List.getElem_cons_zero, Act.put, List.setIfInBounds_toArray, List.set_cons_zero, List.set_cons_succ])
            refine wpAnyH_take (i := 4) (oi := _) (v := ?v5) rfl (by kernel_rfl) (by kernel_rfl) (by kernel_rfl) (fun _ _ _ h => h) (Or.inl ⟨by rfl, ?hy5⟩) (by assumption) ?rest5
            case hy5 => (intro w hSw; (try dsimp only at hSw); go_simp; first | done | with_reducible rfl)
            (try simp only [List.getElem_toArray, List.getElem_cons_succ, List.getElem_cons_zero, Act.put, List.setIfInBounds_toArray, List.set_cons_zero, List.set_cons_succ])
            refine wpAnyH_take (i := 5) (oi := _) (v := ?v6) rfl (by kernel_rfl) (by kernel_rfl) (by kernel_rfl) (fun _ _ _ h => h) (Or.inl ⟨by rfl, ?hy6⟩) (by assumption) ?rest6
            case hy6 => (intro w hSw; (try dsimp only at hSw); go_simp; first | done | with_reducible rfl)
            (try simp only [List.getElem_toArray, List.getElem_cons_succ, List.getElem_cons_zero, Act.put, List.setIfInBounds_toArray, List.set_cons_zero, List.set_cons_succ])
            refine wpAnyH_take (i := 6) (oi := _) (v := ?v7) rfl (by kernel_rfl) (by kernel_rfl) (by kernel_rfl) (fun _ _ _ h => h) (Or.inl ⟨by rfl, ?hy7⟩) (by assumption) ?rest7
            case hy7 => (intro w hSw; (try dsimp only at hSw); go_simp; first | done | with_reducible rfl)
            (try simp only [List.getElem_toArray, List.getElem_cons_succ, List.getElem_cons_zero, Act.put, List.setIfInBounds_toArray, List.set_cons_zero, List.set_cons_succ])
            refine wpAnyH_take (i := 7) (oi := _) (v := ?v8) rfl (by kernel_rfl) (by kernel_rfl) (by kernel_rfl) (fun _ _ _ h => h) (Or.inl ⟨by rfl, ?hy8⟩) (by assumption) ?rest8
            case hy8 => (intro w hSw; (try dsimp only at hSw); go_simp; first | done | with_reducible rfl)
            (try simp only [List.getElem_toArray, List.getElem_cons_succ, List.getElem_cons_zero, Act.put, List.setIfInBounds_toArray, List.set_cons_zero, List.set_cons_succ])
            refine wpAnyH_take (i := 8) (oi := _) (v := ?v9) rfl (by kernel_rfl) (by kernel_rfl) (by kernel_rfl) (fun _ _ _ h => h) (Or.inl ⟨by rfl, ?hy9⟩) (by assumption) ?rest9
            case hy9 => (intro w hSw; (try dsimp only at hSw); go_simp; first | done | with_reducible rfl)
            (try simp only [List.getElem_toArray, List.getElem_cons_succ, List.getElem_cons_zero, Act.put, List.setIfInBounds_toArray, List.set_cons_zero, List.set_cons_succ])
            refine wpAnyH_take (i := 9) (oi := _) (v := ?v10) rfl (by kernel_rfl) (by kernel_rfl) (by kernel_rfl) (fun _ _ _ h => h) (Or.inl ⟨by rfl, ?hy10⟩) (by assumption) ?rest10
            case hy10 => (intro w hSw; (try dsimp only at hSw); go_simp; first | done | with_reducible rfl)
            (try simp only [List.getElem_toArray, List.getElem_cons_succ, List.getElem_cons_zero, Act.put, List.setIfInBounds_toArray, List.set_cons_zero, List.set_cons_succ])
            refine wpAnyH_ready (rs := [10]) (by kernel_rfl) (by simp) ?_
            refine AllReadyH.cons (o := _) rfl (fun K hK => ?st11) ?mo11
            case st11 =>
              go_simp
              refine hK.out _ _ (by go_split_ands <;> (try dsimp only) <;> go_simp) (fun hHeld11 => ?_)
              clear hK K
              (try simp only [List.getElem_toArray, List.getElem_cons_succ, List.getElem_cons_zero, Act.put, List.setIfInBounds_toArray, List.set_cons_zero, List.set_cons_succ])
              refine wpAnyH_ready (rs := [11]) (by kernel_rfl) (by simp) ?_
              refine AllReadyH.cons (o := _) rfl (fun K hK => ?st12) ?mo12
              case st12 =>
                go_simp
                refine hK.out _ _ (by go_split_ands <;> (try dsimp only) <;> go_simp) (fun hHeld12 => ?_)
                clear hK K
                (try simp only [List.getElem_toArray, List.getElem_cons_succ, List.getElem_cons_zero, Act.put, List.setIfInBounds_toArray, List.set_cons_zero, List.set_cons_succ])
                refine wpAnyH_done (by kernel_rfl) ?_ _
                go_wp2_with fail
                go_meet
                exact ⟨_, rfl, by go_simp, by simp [go_sem], by (repeat' (first | (with_reducible exact Vg.Grows.refl _) | (with_reducible assumption) | (with_reducible refine Vg.Grows.alloc ?_ _) | (with_reducible refine Vg.Grows.plus ?_ _ _) | (with_reducible refine Vg.Grows.drewN ?_ _) | (with_reducible refine Vg.Grows.drew ?_) | (with_reducible refine Vg.Grows.setCell ?_ ?_ _) | (with_reducible refine Vg.Grows.put ?_ ?_ _) | omega | (simp; omega) | (simp; done)))⟩
              exact AllReadyH.nil
            exact AllReadyH.nil
          case rest =>
            obtain ⟨b12, rfl, z12, hb12, hg11⟩ := hcut
            have z4 := hg11.blk H_x4.out
            have z5 := hg11.blk H_x5.out
            have z6 := hg11.blk H_x6.out
            have sq2 := H_sq.out.grows hg11
            have qj2 := H_qj9.out.grows hg11
            have hT11 := H_hT9.out.trans (Vg.Touch.of_grows hg11)
            have hsz9 := hg11.size
            have l4 := Vg.lt_of H_x4.out
            have l5 := Vg.lt_of H_x5.out
            have l6 := Vg.lt_of H_x6.out
            have ljg := (H_qj9.out.lt jg rfl).2
            clear c_x6 f_x6 p_x6
            clear e0' e1' e2' l_x6
            have c_j := Que_cell1 qj2 hul
            rw [H_hui.out] at c_j
            have f_j := qj2.frozen
            have l_j := (qj2.lt jg rfl).2
            have m1 : b12 ≠ jg := by omega
            have m2 : b12 ≠ b6 := by omega
            have m3 : b6 ≠ b12 := by omega
            have m4 : w.heap.size + 1 ≠ b12 := by omega
            have m5 : w.heap.size + 1 + 1 ≠ b12 := by omega
            have m6 : w.heap.size + 1 ≠ b6 := by have := H_hb6.out; omega
            have m7 : w.heap.size + 1 + 1 ≠ b6 := by have := H_hb6.out; omega
            have m8 : w.heap.size + 1 ≠ jg := by omega
            have m9 : w.heap.size + 1 + 1 ≠ jg := by omega
            have k1 := m4.symm
            have k2 := m5.symm
            have k3 := m6.symm
            have k4 := m7.symm
            have hN4 : (1 : Int) ≤ (N : Int) + 1 := by omega
            have hqt : Vg.Que wc (w.heap.size + 1 + 1 + 1 + Vg.sz (x1 ++ x2)) 205 3 (.slice (if uc = 1 then some ⟨ug, uo, none⟩ else some ⟨ug, uo + 3, none⟩) N (uc - 1)) l.length (Vg.jcells l) := by
              rw [H_hN.out]
              by_cases h1 : uc = 1
              · rw [if_pos h1]
                have h5 := sq2
                rw [h1] at h5 ⊢
                have h6 := h5.tail1
                rw [show (Vg.jcells (⟨cost, at_, went + m⟩ :: l)).drop 3 = Vg.jcells l from by simp [Vg.jcells]] at h6
                exact h6
              · rw [if_neg h1]
                have h6 := sq2.tail
                rw [show (Vg.jcells (⟨cost, at_, went + m⟩ :: l)).drop 3 = Vg.jcells l from by simp [Vg.jcells]] at h6
                exact h6
            have hot : ∀ k, (Value.slice (if uc = 1 then some ⟨ug, uo, none⟩ else some ⟨ug, uo + 3, none⟩) N (uc - 1)).ownBlock = some k → us[i].ownBlock = some k ∨ W3.heap.size ≤ k := fun k hk => by
              refine .inl ?_
              rw [H_hui.out]
              by_cases h1 : uc = 1
              · rw [if_pos h1] at hk; simpa [Value.ownBlock] using hk
              · rw [if_neg h1] at hk; simpa [Value.ownBlock] using hk
            have hfin := fun W' hW' => FO.fin_jobs (S := fun k => S k ∨ w.heap.size ≤ k) (T := fun k => k = w.heap.size + 1 ∨ k = w.heap.size + 1 + 1) (W' := W') (L2 := l) (w := w) H_hf3.out hi hul hT11 hqt hot H_hgw3.out (by omega) hW' (fun k hk => ⟨by omega, H_hTa.out k hk⟩) (fun k hk => .inr hk) (fun g off e => .inl (H_hSt.out g off e))
            have s2 := (qj2.set (j := i) (u := .slice (if uc = 1 then some ⟨ug, uo, none⟩ else some ⟨ug, uo + 3, none⟩) N (uc - 1)) (by rw [H_hf3.out.ul]; exact hin1)).2
            have y4 := (s2.block _ m8).trans z4
            have y5 := (s2.block _ m9).trans z5
            have y6 := (s2.block _ n3).trans z6
            have y12 := (s2.block _ m1).trans z12
            have c_z6 := Vg.cells_of z6; have f_z6 := Vg.frozen_of z6; have p_z6 := Vg.setCell_of z6; have l_z6 := Vg.lt_of z6; have H_z6 := Lib.hid z6; clear z6
            have H_z4 := Lib.hid z4; clear z4; have H_z5 := Lib.hid z5; clear z5; have H_z12 := Lib.hid z12; clear z12; have H_sq2 := Lib.hid sq2; clear sq2; have H_qj2 := Lib.hid qj2; clear qj2; have H_hT11 := Lib.hid hT11; clear hT11; have H_hqt := Lib.hid hqt; clear hqt; have H_hot := Lib.hid hot; clear hot; have H_hfin := Lib.hid hfin; clear hfin; have H_s2 := Lib.hid s2; clear s2; have H_y4 := Lib.hid y4; clear y4; have H_y5 := Lib.hid y5; clear y5; have H_y6 := Lib.hid y6; clear y6; have H_y12 := Lib.hid y12; clear y12; have H_hg11 := Lib.hid hg11; clear hg11
            go_upto_region 12 with fail
            go_cut [] (fun wx => Vg.Grows (wc.setCell ⟨jg, jo + i, none⟩ (.slice (if uc = 1 then some ⟨ug, uo, none⟩ else some ⟨ug, uo + 3, none⟩) N (uc - 1))) wx)
            case first =>
              by_cases h1 : uc = 1
              · subst h1
                refine wp_region_held_drew (S := fun w' => b6 < w'.heap.size ∧ w'.cell? ⟨b6, 1, none⟩ = some (.slice (some ⟨jg, jo, none⟩) n jc')) (by kernel_rfl) (by go_split_ands <;> (try dsimp only) <;> go_simp) (fun hHeld => ?_)
                refine wpAnyH_take (i := 0) (oi := _) (v := ?v13) rfl (by kernel_rfl) (by kernel_rfl) (by kernel_rfl) (fun _ _ _ h => h) (Or.inl ⟨by rfl, ?hy13⟩) (by assumption) ?rest13
                case hy13 => (intro w hSw; (try dsimp only at hSw); go_simp; first | done | with_reducible rfl)
                (try simp only [List.getElem_toArray, List.getElem_cons_succ, List.getElem_cons_zero, Act.put, List.setIfInBounds_toArray, List.set_cons_zero, List.set_cons_succ])
                refine wpAnyH_take (i := 1) (oi := _) (v := ?v14) rfl (by kernel_rfl) (by kernel_rfl) (by kernel_rfl) (fun _ _ _ h => h) (Or.inl ⟨by rfl, ?hy14⟩) (by assumption) ?rest14
                case hy14 => (intro w hSw; (try dsimp only at hSw); go_simp; first | done | with_reducible rfl)
                (try simp only [List.getElem_toArray, List.getElem_cons_succ, List.getElem_cons_zero, Act.put, List.setIfInBounds_toArray, List.set_cons_zero, List.set_cons_succ])
                refine wpAnyH_take (i := 2) (oi := _) (v := ?v15) rfl (by kernel_rfl) (by kernel_rfl) (by kernel_rfl) (fun _ _ _ h => h) (Or.inl ⟨by rfl, ?hy15⟩) (by assumption) ?rest15
                case hy15 => (intro w hSw; (try dsimp only at hSw); go_simp; first | done | with_reducible rfl)
                (try simp only [List.getElem_toArray, List.getElem_cons_succ, List.getElem_cons_zero, Act.put, List.setIfInBounds_toArray, List.set_cons_zero, List.set_cons_succ])
                refine wpAnyH_take (i := 3) (oi := _) (v := ?v16) rfl (by kernel_rfl) (by kernel_rfl) (by kernel_rfl) (fun _ _ _ h => h) (Or.inl ⟨by rfl, ?hy16⟩) (by assumption) ?rest16
                case hy16 => (intro w hSw; (try dsimp only at hSw); go_simp; first | done | with_reducible rfl)
                (try simp only [List.getElem_toArray, List.getElem_cons_succ, List.getElem_cons_zero, Act.put, List.setIfInBounds_toArray, List.set_cons_zero, List.set_cons_succ])
                refine wpAnyH_take (i := 4) (oi := _) (v := ?v17) rfl (by kernel_rfl) (by kernel_rfl) (by kernel_rfl) (fun _ _ _ h => h) (Or.inl ⟨by rfl, ?hy17⟩) (by assumption) ?rest17
                case hy17 => (intro w hSw; (try dsimp only at hSw); go_simp; first | done | with_reducible rfl)
                (try simp only [List.getElem_toArray, List.getElem_cons_succ, List.getElem_cons_zero, Act.put, List.setIfInBounds_toArray, List.set_cons_zero, List.set_cons_succ])
                refine wpAnyH_take (i := 5) (oi := _) (v := ?v18) rfl (by kernel_rfl) (by kernel_rfl) (by kernel_rfl) (fun _ _ _ h => h) (Or.inl ⟨by rfl, ?hy18⟩) (by assumption) ?rest18
                case hy18 => (intro w hSw; (try dsimp only at hSw); go_simp; first | done | with_reducible rfl)
                (try simp only [List.getElem_toArray, List.getElem_cons_succ, List.getElem_cons_zero, Act.put, List.setIfInBounds_toArray, List.set_cons_zero, List.set_cons_succ])
                refine wpAnyH_take (i := 6) (oi := _) (v := ?v19) rfl (by kernel_rfl) (by kernel_rfl) (by kernel_rfl) (fun _ _ _ h => h) (Or.inl ⟨by rfl, ?hy19⟩) (by assumption) ?rest19
                case hy19 => (intro w hSw; (try dsimp only at hSw); go_simp; first | done | with_reducible rfl)
                (try simp only [List.getElem_toArray, List.getElem_cons_succ, List.getElem_cons_zero, Act.put, List.setIfInBounds_toArray, List.set_cons_zero, List.set_cons_succ])
                refine wpAnyH_ready (rs := [7]) (by kernel_rfl) (by simp) ?_
                refine AllReadyH.cons (o := _) rfl (fun K hK => ?st20) ?mo20
                case st20 =>
                  go_simp
                  refine hK.out _ _ (by go_split_ands <;> (try dsimp only) <;> go_simp) (fun hHeld20 => ?_)
                  clear hK K
                  (try simp only [List.getElem_toArray, List.getElem_cons_succ, List.getElem_cons_zero, Act.put, List.setIfInBounds_toArray, List.set_cons_zero, List.set_cons_succ])
                  refine wpAnyH_ready (rs := [8]) (by kernel_rfl) (by simp) ?_
                  refine AllReadyH.cons (o := _) rfl (fun K hK => ?st21) ?mo21
                  case st21 =>
                    go_simp
                    refine hK.out _ _ (by go_split_ands <;> (try dsimp only) <;> go_simp) (fun hHeld21 => ?_)
                    clear hK K
                    (try simp only [List.getElem_toArray, List.getElem_cons_succ, List.getElem_cons_zero, Act.put, List.setIfInBounds_toArray, List.set_cons_zero, List.set_cons_succ])
                    refine wpAnyH_take (i := 9) (oi := _) (v := ?v22) rfl (by kernel_rfl) (by kernel_rfl) (by kernel_rfl) (fun _ _ _ h => h) (Or.inl ⟨by rfl, ?hy22⟩) (by assumption) ?rest22
                    case hy22 => (intro w hSw; (try dsimp only at hSw); go_simp; first | done | with_reducible rfl)
                    (try simp only [List.getElem_toArray, List.getElem_cons_succ, List.getElem_cons_zero, Act.put, List.setIfInBounds_toArray, List.set_cons_zero, List.set_cons_succ])
                    refine wpAnyH_ready (rs := [10]) (by kernel_rfl) (by simp) ?_
                    refine AllReadyH.cons (o := _) rfl (fun K hK => ?st23) ?mo23
                    case st23 =>
                      go_simp
                      refine hK.out _ _ (by go_split_ands <;> (try dsimp only) <;> go_simp) (fun hHeld23 => ?_)
                      clear hK K
                      (try simp only [List.getElem_toArray, List.getElem_cons_succ, List.getElem_cons_zero, Act.put, List.setIfInBounds_toArray, List.set_cons_zero, List.set_cons_succ])
                      refine wpAnyH_done (by kernel_rfl) ?_ _
                      go_wp2_with fail
                      go_meet
                      obtain rfl : N = 0 := by omega
                      exact Vg.Grows.drew (Vg.Grows.refl _)
                    exact AllReadyH.nil
                  exact AllReadyH.nil
                exact AllReadyH.nil
              · skip
                refine wp_region_held_drew (S := fun w' => b6 < w'.heap.size ∧ w'.cell? ⟨b6, 1, none⟩ = some (.slice (some ⟨jg, jo, none⟩) n jc')) (by kernel_rfl) (by go_split_ands <;> (try dsimp only) <;> go_simp) (fun hHeld => ?_)
                refine wpAnyH_take (i := 0) (oi := _) (v := ?v24) rfl (by kernel_rfl) (by kernel_rfl) (by kernel_rfl) (fun _ _ _ h => h) (Or.inl ⟨by rfl, ?hy24⟩) (by assumption) ?rest24
                case hy24 => (intro w hSw; (try dsimp only at hSw); go_simp; first | done | with_reducible rfl)
                (try simp only [List.getElem_toArray, List.getElem_cons_succ, List.getElem_cons_zero, Act.put, List.setIfInBounds_toArray, List.set_cons_zero, List.set_cons_succ])
                refine wpAnyH_take (i := 1) (oi := _) (v := ?v25) rfl (by kernel_rfl) (by kernel_rfl) (by kernel_rfl) (fun _ _ _ h => h) (Or.inl ⟨by rfl, ?hy25⟩) (by assumption) ?rest25
                case hy25 => (intro w hSw; (try dsimp only at hSw); go_simp; first | done | with_reducible rfl)
                (try simp only [List.getElem_toArray, List.getElem_cons_succ, List.getElem_cons_zero, Act.put, List.setIfInBounds_toArray, List.set_cons_zero, List.set_cons_succ])
                refine wpAnyH_take (i := 2) (oi := _) (v := ?v26) rfl (by kernel_rfl) (by kernel_rfl) (by kernel_rfl) (fun _ _ _ h => h) (Or.inl ⟨by rfl, ?hy26⟩) (by assumption) ?rest26
                case hy26 => (intro w hSw; (try dsimp only at hSw); go_simp; first | done | with_reducible rfl)
                (try simp only [List.getElem_toArray, List.getElem_cons_succ, List.getElem_cons_zero, Act.put, List.setIfInBounds_toArray, List.set_cons_zero, List.set_cons_succ])
                refine wpAnyH_take (i := 3) (oi := _) (v := ?v27) rfl (by kernel_rfl) (by kernel_rfl) (by kernel_rfl) (fun _ _ _ h => h) (Or.inl ⟨by rfl, ?hy27⟩) (by assumption) ?rest27
                case hy27 => (intro w hSw; (try dsimp only at hSw); go_simp; first | done | with_reducible rfl)
                (try simp only [List.getElem_toArray, List.getElem_cons_succ, List.getElem_cons_zero, Act.put, List.setIfInBounds_toArray, List.set_cons_zero, List.set_cons_succ])
                refine wpAnyH_take (i := 4) (oi := _) (v := ?v28) rfl (by kernel_rfl) (by kernel_rfl) (by kernel_rfl) (fun _ _ _ h => h) (Or.inl ⟨by rfl, ?hy28⟩) (by assumption) ?rest28
                case hy28 => (intro w hSw; (try dsimp only at hSw); go_simp; first | done | with_reducible rfl)
                (try simp only [List.getElem_toArray, List.getElem_cons_succ, List.getElem_cons_zero, Act.put, List.setIfInBounds_toArray, List.set_cons_zero, List.set_cons_succ])
                refine wpAnyH_take (i := 5) (oi := _) (v := ?v29) rfl (by kernel_rfl) (by kernel_rfl) (by kernel_rfl) (fun _ _ _ h => h) (Or.inl ⟨by rfl, ?hy29⟩) (by assumption) ?rest29
                case hy29 => (intro w hSw; (try dsimp only at hSw); go_simp; first | done | with_reducible rfl)
                (try simp only [List.getElem_toArray, List.getElem_cons_succ, List.getElem_cons_zero, Act.put, List.setIfInBounds_toArray, List.set_cons_zero, List.set_cons_succ])
                refine wpAnyH_take (i := 6) (oi := _) (v := ?v30) rfl (by kernel_rfl) (by kernel_rfl) (by kernel_rfl) (fun _ _ _ h => h) (Or.inl ⟨by rfl, ?hy30⟩) (by assumption) ?rest30
                case hy30 => (intro w hSw; (try dsimp only at hSw); go_simp; first | done | with_reducible rfl)
                (try simp only [List.getElem_toArray, List.getElem_cons_succ, List.getElem_cons_zero, Act.put, List.setIfInBounds_toArray, List.set_cons_zero, List.set_cons_succ])
                refine wpAnyH_ready (rs := [7]) (by kernel_rfl) (by simp) ?_
                refine AllReadyH.cons (o := _) rfl (fun K hK => ?st31) ?mo31
                case st31 =>
                  go_simp
                  refine hK.out _ _ (by go_split_ands <;> (try dsimp only) <;> go_simp) (fun hHeld31 => ?_)
                  clear hK K
                  (try simp only [List.getElem_toArray, List.getElem_cons_succ, List.getElem_cons_zero, Act.put, List.setIfInBounds_toArray, List.set_cons_zero, List.set_cons_succ])
                  refine wpAnyH_ready (rs := [8]) (by kernel_rfl) (by simp) ?_
                  refine AllReadyH.cons (o := _) rfl (fun K hK => ?st32) ?mo32
                  case st32 =>
                    go_simp
                    refine hK.out _ _ (by go_split_ands <;> (try dsimp only) <;> go_simp) (fun hHeld32 => ?_)
                    clear hK K
                    (try simp only [List.getElem_toArray, List.getElem_cons_succ, List.getElem_cons_zero, Act.put, List.setIfInBounds_toArray, List.set_cons_zero, List.set_cons_succ])
                    refine wpAnyH_take (i := 9) (oi := _) (v := ?v33) rfl (by kernel_rfl) (by kernel_rfl) (by kernel_rfl) (fun _ _ _ h => h) (Or.inl ⟨by rfl, ?hy33⟩) (by assumption) ?rest33
                    case hy33 => (intro w hSw; (try dsimp only at hSw); go_simp; first | done | with_reducible rfl)
                    (try simp only [List.getElem_toArray, List.getElem_cons_succ, List.getElem_cons_zero, Act.put, List.setIfInBounds_toArray, List.set_cons_zero, List.set_cons_succ])
                    refine wpAnyH_ready (rs := [10]) (by kernel_rfl) (by simp) ?_
                    refine AllReadyH.cons (o := _) rfl (fun K hK => ?st34) ?mo34
                    case st34 =>
                      go_simp
                      refine hK.out _ _ (by go_split_ands <;> (try dsimp only) <;> go_simp) (fun hHeld34 => ?_)
                      clear hK K
                      (try simp only [List.getElem_toArray, List.getElem_cons_succ, List.getElem_cons_zero, Act.put, List.setIfInBounds_toArray, List.set_cons_zero, List.set_cons_succ])
                      refine wpAnyH_done (by kernel_rfl) ?_ _
                      go_wp2_with fail
                      go_meet
                      rw [if_neg h1]
                      exact (by (repeat' (first | (with_reducible exact Vg.Grows.refl _) | (with_reducible assumption) | (with_reducible refine Vg.Grows.alloc ?_ _) | (with_reducible refine Vg.Grows.plus ?_ _ _) | (with_reducible refine Vg.Grows.drewN ?_ _) | (with_reducible refine Vg.Grows.drew ?_) | (with_reducible refine Vg.Grows.setCell ?_ ?_ _) | (with_reducible refine Vg.Grows.put ?_ ?_ _) | omega | (simp; omega) | (simp; done))))
                    exact AllReadyH.nil
                  exact AllReadyH.nil
                exact AllReadyH.nil
            case rest =>
              have hg12 := hcut
              have v4 := hg12.blk H_y4.out
              have v5 := hg12.blk H_y5.out
              have v6 := hg12.blk H_y6.out
              have v12 := hg12.blk H_y12.out
              clear c_z6 f_z6 p_z6
              clear c_j f_j l_j l_z6
              have c_v4 := Vg.cells_of v4; have f_v4 := Vg.frozen_of v4; have p_v4 := Vg.setCell_of v4; have l_v4 := Vg.lt_of v4; have H_v4 := Lib.hid v4; clear v4; have c_v5 := Vg.cells_of v5; have f_v5 := Vg.frozen_of v5; have p_v5 := Vg.setCell_of v5; have l_v5 := Vg.lt_of v5; have H_v5 := Lib.hid v5; clear v5; have c_v6 := Vg.cells_of v6; have f_v6 := Vg.frozen_of v6; have p_v6 := Vg.setCell_of v6; have l_v6 := Vg.lt_of v6; have H_v6 := Lib.hid v6; clear v6; have c_v12 := Vg.cells_of v12; have f_v12 := Vg.frozen_of v12; have p_v12 := Vg.setCell_of v12; have l_v12 := Vg.lt_of v12; have H_v12 := Lib.hid v12; clear v12
              have H_hg12 := Lib.hid hg12; clear hg12
              go_upto_region 13 with fail
              go_cut [6, 7] (fun u6 u7 wx => u6 = .bool true ∧ u7 = .int .i64 0 ∧ Vg.blk wx (w.heap.size + 1) = some (rvC (.slice ta n tc) (.slice (some ⟨jg, jo, none⟩) n jc') (.slice (some ⟨lg, lo, none⟩) n lc') (.slice (some ⟨pg, po, none⟩) n pc')) ∧ Vg.blk wx (w.heap.size + 1 + 1) = some (.cells #[.int .i64 i, .int .i64 cost, .int .i64 at_] 124) ∧ Vg.Touch (fun k => k = w.heap.size + 1 ∨ k = w.heap.size + 1 + 1) wc wx)
              case first =>
                refine wp_region_held_drew (S := fun w' => b6 < w'.heap.size ∧ b12 < w'.heap.size ∧ w'.cell? ⟨b6, 0, none⟩ = some (.slice ta n tc) ∧ w'.cell? ⟨b6, 1, none⟩ = some (.slice (some ⟨jg, jo, none⟩) n jc') ∧ w'.cell? ⟨b6, 2, none⟩ = some (.slice (some ⟨lg, lo, none⟩) n lc') ∧ w'.cell? ⟨b6, 3, none⟩ = some (.slice (some ⟨pg, po, none⟩) n pc') ∧ w'.cell? ⟨b12, 0, none⟩ = some (.int .i64 i) ∧ w'.cell? ⟨b12, 1, none⟩ = some (.int .i64 cost) ∧ w'.cell? ⟨b12, 2, none⟩ = some (.int .i64 at_)) (by kernel_rfl) (by go_split_ands <;> (try dsimp only) <;> go_simp) (fun hHeld => ?_)
                refine wpAnyH_take (i := 0) (oi := _) (v := ?v35) rfl (by kernel_rfl) (by kernel_rfl) (by kernel_rfl) (fun _ _ _ h => h) (Or.inl ⟨by rfl, ?hy35⟩) (by assumption) ?rest35
                case hy35 => (intro w hSw; (try dsimp only at hSw); go_simp; first | done | with_reducible rfl)
                (try simp only [List.getElem_toArray, List.getElem_cons_succ, List.getElem_cons_zero, Act.put, List.setIfInBounds_toArray, List.set_cons_zero, List.set_cons_succ])
                refine wpAnyH_take (i := 1) (oi := _) (v := ?v36) rfl (by kernel_rfl) (by kernel_rfl) (by kernel_rfl) (fun _ _ _ h => h) (Or.inl ⟨by rfl, ?hy36⟩) (by assumption) ?rest36
                case hy36 => (intro w hSw; (try dsimp only at hSw); go_simp; first | done | with_reducible rfl)
                (try simp only [List.getElem_toArray, List.getElem_cons_succ, List.getElem_cons_zero, Act.put, List.setIfInBounds_toArray, List.set_cons_zero, List.set_cons_succ])
                refine wpAnyH_ready (rs := [2]) (by kernel_rfl) (by simp) ?_
                refine AllReadyH.cons (o := _) rfl (fun K hK => ?st37) ?mo37
                case st37 =>
                  go_simp
                  refine hK.out _ _ (by go_split_ands <;> (try dsimp only) <;> go_simp) (fun hHeld37 => ?_)
                  clear hK K
                  (try simp only [List.getElem_toArray, List.getElem_cons_succ, List.getElem_cons_zero, Act.put, List.setIfInBounds_toArray, List.set_cons_zero, List.set_cons_succ])
                  refine wpAnyH_ready (rs := [3]) (by kernel_rfl) (by simp) ?_
                  refine AllReadyH.cons (o := _) rfl (fun K hK => ?st38) ?mo38
                  case st38 =>
                    go_simp
                    refine hK.out _ _ (by go_split_ands <;> (try dsimp only) <;> go_simp) (fun hHeld38 => ?_)
                    clear hK K
                    (try simp only [List.getElem_toArray, List.getElem_cons_succ, List.getElem_cons_zero, Act.put, List.setIfInBounds_toArray, List.set_cons_zero, List.set_cons_succ])
                    refine wpAnyH_take (i := 4) (oi := _) (v := ?v39) rfl (by kernel_rfl) (by kernel_rfl) (by kernel_rfl) (fun _ _ _ h => h) (Or.inl ⟨by rfl, ?hy39⟩) (by assumption) ?rest39
                    case hy39 => (intro w hSw; (try dsimp only at hSw); go_simp; first | done | with_reducible rfl)
                    (try simp only [List.getElem_toArray, List.getElem_cons_succ, List.getElem_cons_zero, Act.put, List.setIfInBounds_toArray, List.set_cons_zero, List.set_cons_succ])
                    refine wpAnyH_take (i := 5) (oi := _) (v := ?v40) rfl (by kernel_rfl) (by kernel_rfl) (by kernel_rfl) (fun _ _ _ h => h) (Or.inl ⟨by rfl, ?hy40⟩) (by assumption) ?rest40
                    case hy40 => (intro w hSw; (try dsimp only at hSw); go_simp; first | done | with_reducible rfl)
                    (try simp only [List.getElem_toArray, List.getElem_cons_succ, List.getElem_cons_zero, Act.put, List.setIfInBounds_toArray, List.set_cons_zero, List.set_cons_succ])
                    refine wpAnyH_done (by kernel_rfl) ?_ _
                    go_wp2_with fail
                    go_meet
                    exact ⟨rfl, rfl, Vg.put_heap_same (by rw [Vg.put_size]; exact l_v4), (Vg.put_heap_other (by omega)).trans (Vg.put_heap_same l_v5), (((Vg.Touch.refl _ _).put (.inr rfl) _).put (.inl rfl) _).trans (Vg.Touch.of_grows (Vg.Grows.drew (Vg.Grows.refl _)))⟩
                  exact AllReadyH.nil
                exact AllReadyH.nil
              case rest =>
                obtain ⟨rfl, rfl, t4, t5, hTw⟩ := hcut
                have hfin := H_hfin.out wc ((Vg.Touch.of_grows H_hg12.out).trans hTw)
                rw [H_hxi.out] at hfin
                clear c_v4 f_v4 p_v4 c_v5 f_v5 p_v5 c_v6 f_v6 p_v6 c_v12 f_v12 p_v12
                have c_t4 := Vg.cells_of t4; have f_t4 := Vg.frozen_of t4; have p_t4 := Vg.setCell_of t4; have l_t4 := Vg.lt_of t4; have H_t4 := Lib.hid t4; clear t4; have c_t5 := Vg.cells_of t5; have f_t5 := Vg.frozen_of t5; have p_t5 := Vg.setCell_of t5; have l_t5 := Vg.lt_of t5; have H_t5 := Lib.hid t5; clear t5
                have H_hfin := Lib.hid hfin; clear hfin; have H_hTw := Lib.hid hTw; clear hTw
                refine ‹∀ (a : Act) (w : World), Code.wp Try.prog Code.ret _ a w → _› _ _ ?_
                refine wp_ret ?_
                change bodyPost Try.prog _ _ Exit.ret _ _
                refine bodyPost_ret (by simp [results, Try.results116, go_sem, c_t4, c_t5, l_t4, l_t5] <;> try rfl) rfl ?_
                rw [← H_hK'.out]
                exact ⟨_, _, _, _, _, _, _, _, rfl, H_hfin.out.1, H_hfin.out.2⟩
        · have hf : went + m < cost := by omega
          have hx := H_hx.out
          rw [if_neg hd] at hx
          simp only [Prod.mk.injEq] at hx
          obtain ⟨hK', rfl, ⟨rfl, rfl, rfl⟩, rfl, rfl⟩ := hx
          have hfin := fun W' hW' => FO.fin_row (S := fun k => S k ∨ w.heap.size ≤ k) (T := fun k => k = w.heap.size + 1 ∨ k = w.heap.size + 1 + 1) (W' := W') (L2 := ⟨cost, at_, went + m⟩ :: l) (w := w) H_hf3.out hi hul hT9 (by rw [H_hui.out]; simpa [H_hN.out] using sq) H_hgw3.out (by omega) hW' (fun k hk => ⟨by omega, hTa k hk⟩) (fun k hk => .inr hk) (fun g off e => .inl (H_hSt.out g off e))
          have c_x4 := Vg.cells_of x4; have f_x4 := Vg.frozen_of x4; have p_x4 := Vg.setCell_of x4; have l_x4 := Vg.lt_of x4; have H_x4 := Lib.hid x4; clear x4; have c_x5 := Vg.cells_of x5; have f_x5 := Vg.frozen_of x5; have p_x5 := Vg.setCell_of x5; have l_x5 := Vg.lt_of x5; have H_x5 := Lib.hid x5; clear x5; have c_x6 := Vg.cells_of x6; have f_x6 := Vg.frozen_of x6; have p_x6 := Vg.setCell_of x6; have l_x6 := Vg.lt_of x6; have H_x6 := Lib.hid x6; clear x6
          have hpc : ∀ (cs cs' : Array Value) (i : Nat), (Vg.put (Vg.put wc (w.heap.size + 1 + 1) (.cells cs' 124)) (w.heap.size + 1) (.cells cs 112)).cell? ⟨w.heap.size + 1, i, none⟩ = cs[i]? := fun cs cs' i => Vg.cells_of (Vg.put_heap_same (by rw [Vg.put_size]; exact l_x4)) i
          have hpd : ∀ (cs cs' : Array Value) (i : Nat), (Vg.put (Vg.put wc (w.heap.size + 1 + 1) (.cells cs' 124)) (w.heap.size + 1) (.cells cs 112)).cell? ⟨w.heap.size + 1 + 1, i, none⟩ = cs'[i]? := fun cs cs' i => Vg.cells_of ((Vg.put_heap_other (by omega)).trans (Vg.put_heap_same l_x5)) i
          have hW' : ∀ o o', Vg.Touch (fun k => k = w.heap.size + 1 ∨ k = w.heap.size + 1 + 1) wc (Vg.put (Vg.put wc (w.heap.size + 1 + 1) o') (w.heap.size + 1) o) := fun o o' => ((Vg.Touch.refl _ _).put (.inr rfl) _).put (.inl rfl) _
          clear hd
          have H_hK' := Lib.hid hK'; clear hK'; have H_hfin := Lib.hid hfin; clear hfin; have H_hT9 := Lib.hid hT9; clear hT9; have H_sq := Lib.hid sq; clear sq; have H_qj9 := Lib.hid qj9; clear qj9; have H_hg9 := Lib.hid hg9; clear hg9; have H_hpc := Lib.hid hpc; clear hpc; have H_hpd := Lib.hid hpd; clear hpd; have H_hW' := Lib.hid hW'; clear hW'; have H_hTa := Lib.hid hTa; clear hTa
          go_wp2_with fail
          refine bodyPost_ret (by simp [results, Try.results116, go_sem, H_hpc.out, H_hpd.out] <;> try rfl) rfl ?_
          have hfin := H_hfin.out _ (H_hW'.out (rvC (.slice ta n tc) (.slice (some ⟨jg, jo, none⟩) n jc') (.slice (some ⟨lg, lo, none⟩) n lc') (.slice (some ⟨pg, po, none⟩) n pc')) dn0)
          rw [H_hxi.out] at hfin
          rw [← H_hK'.out]
          exact ⟨_, _, _, _, _, _, _, _, rfl, hfin.1, hfin.2⟩
end
end Go.Proofs.Ytiinhofmhoplfaa
