/- Package kern: New. -/
import Derived.Test.YtiinhofmhoplfaaKernN
set_option linter.unusedSimpArgs false
set_option linter.unusedVariables false
set_option maxHeartbeats 8000000
set_option maxRecDepth 100000
namespace Vg
open Go
theorem many_new {w : World} {l : List Value} {t : TypeId} {n : Nat} (hn : n = w.heap.size) : ∀ j q, l[j]? = some q → (w.alloc (.cells l.toArray t)).cell? ((⟨n, 0, none⟩ : Addr).add j) = some q := by
  subst hn
  intro j q hu
  rw [Addr.add_lit, cells_of (w := w.alloc (.cells l.toArray t)) (b := w.heap.size) (cs := l.toArray) (t := t) (f := (0, 0)) (alloc_heap_at rfl)]
  simpa using hu
theorem madeI (m : Nat) : madeCells #[.int .i64 0] m = (ics (List.replicate m 0)).toArray := by
  unfold madeCells ics
  apply Array.ext'
  simp [List.map_const', Nat.mod_one]
def kt0 (t : Tk) : Kt := ⟨t, [], 0, false⟩
def Kn.ceil1 (L : List Int) (t : Tk) : List Int := if 0 ≤ t.lk then L.set t.lk.toNat (max (L[t.lk.toNat]?.getD 0) t.pr) else L
def Kn.ceils (T : List Tk) : List Int := T.foldl Kn.ceil1 (List.replicate 16 0)
theorem Kn.ceil1_len (L : List Int) (t : Tk) : (Kn.ceil1 L t).length = L.length := by unfold Kn.ceil1; split <;> simp
theorem Kn.ceil1_ok {L : List Int} {t : Tk} (hL : ∀ c ∈ L, 0 ≤ c ∧ c ≤ 63) (ht : t.ok) : ∀ c ∈ Kn.ceil1 L t, 0 ≤ c ∧ c ≤ 63 := by
  unfold Kn.ceil1
  split
  · intro c hc
    rcases List.mem_or_eq_of_mem_set hc with h | h
    · exact hL c h
    · have h1 := ht.1
      have h2 : 0 ≤ L[t.lk.toNat]?.getD 0 ∧ L[t.lk.toNat]?.getD 0 ≤ 63 := by
        by_cases hi : t.lk.toNat < L.length
        · rw [List.getElem?_eq_getElem hi]; exact hL _ (List.getElem_mem hi)
        · rw [List.getElem?_eq_none (by omega)]; simp
      omega
  · exact hL
theorem Kn.ceils_snoc (l : List Tk) (t : Tk) : Kn.ceils (l ++ [t]) = Kn.ceil1 (Kn.ceils l) t := by unfold Kn.ceils; rw [List.foldl_append]; rfl
theorem Kn.ceils_len (T : List Tk) : (Kn.ceils T).length = 16 := by
  have : ∀ (T : List Tk) (L : List Int), (T.foldl Kn.ceil1 L).length = L.length := by
    intro T
    induction T with
    | nil => intro L; rfl
    | cons t T ih => intro L; rw [List.foldl_cons, ih, Kn.ceil1_len]
  exact (this T _).trans (by simp)
theorem Kn.ceils_ok {T : List Tk} (h : T.any oddK = false) : (Kn.ceils T).any oddC = false := by
  have : ∀ (T : List Tk) (L : List Int), T.any oddK = false → (∀ c ∈ L, 0 ≤ c ∧ c ≤ 63) → ∀ c ∈ T.foldl Kn.ceil1 L, 0 ≤ c ∧ c ≤ 63 := by
    intro T
    induction T with
    | nil => intro L _ hL; exact hL
    | cons t T ih =>
      intro L h hL
      simp only [List.any_cons, Bool.or_eq_false_iff] at h
      rw [List.foldl_cons]
      exact ih _ h.2 (Kn.ceil1_ok hL (oddK_no h.1))
  have := this T (List.replicate 16 0) h (fun c hc => by have := List.eq_of_mem_replicate hc; omega)
  rw [List.any_eq_false]
  intro c hc
  have := this c hc
  simp [oddC]; omega
def Kn.K0 (T : List Tk) : List Kt := T.map kt0
def Kn.M0 (T : List Tk) : List Mx := (Kn.ceils T).map fun c => ⟨c, false, 0⟩
theorem Kn.inv0 {T : List Tk} (h : T.any oddK = false) : Kn.Inv 0 (Kn.K0 T) := by
  intro x hx
  obtain ⟨t, ht, rfl⟩ := List.mem_map.1 hx
  have ho : oddK t = false := by
    cases hh : oddK t with
    | false => rfl
    | true => rw [← h]; exact (List.any_eq_true.2 ⟨t, ht, hh⟩).symm
  have hk := oddK_no ho
  exact ⟨hk, ⟨Int.le_refl _, Int.le_refl _⟩, by have := hk.2.1.1; show ((0 : Nat) : Int) ≤ t.ro; omega, fun j hj => by simp [kt0] at hj, fun j hj => by simp [kt0] at hj⟩
theorem Kn.check_ok {T : List Tk} (h : Kn.check T = 0) : (1 ≤ T.length ∧ T.length ≤ 32) ∧ T.any oddK = false ∧ (T.map (·.pr)).Nodup := by
  unfold Kn.check at h
  split at h
  · cases h
  · split at h
    · cases h
    · rename_i h1 h2
      refine ⟨by omega, by simpa using h2, ?_⟩
      unfold Kn.why dupK at h
      split at h
      · cases h
      · rename_i h3; simpa using h3
end Vg
namespace Go.Proofs.Ytiinhofmhoplfaa
open Go.ChangeShapes Go.WideShapes Go.ChangeAt Go.RowKit
theorem Try.info_ktask : (Try.prog.info? 199).map (fun i => (i.zero, i.size, i.bytes)) = some (some (.agg #[.int .u8 0, .int .i64 0, .int .i64 0, .int .i64 0, .int .i64 0, .int .i64 0, .int .i64 0, .int .i64 0, .int .i64 0, .int .i64 0, .slice none 0 0, .int .i64 0, .bool false]), 13, 120) := by kernel_rfl
abbrev knC (rv : Value) : Obj := .cells #[rv, .pointer none] 196
abbrev tkN (t : Vg.Tk) : List Value := [.int .u8 t.kd, .int .i64 t.pr, .int .i64 t.pe, .int .i64 t.og, .int .i64 t.dl, .int .i64 t.co, .int .i64 t.ro, .int .i64 t.lk, .int .i64 t.fr, .int .i64 t.tt, .slice none 0 0, .int .i64 0, .bool false]
/-- A kern under way. -/
structure NK (w : World) (b : Nat) (xs : List Vg.Kp) (rv : Value) (L : List Int) : Prop where
  tab : Vg.blk w b = some (knC rv)
  cei : Vg.blk w (b + 1) = some (.cells (Vg.ics L).toArray 3)
  row : Vg.Que w (b + 2) 199 13 rv xs.length (Vg.kcells xs)
  js : ∀ i (h : i < xs.length), xs[i].1 = .slice none 0 0 ∧ xs[i].2.J = []
section
variable {w w' W1 : World} {b n m cb : Nat} {xs : List Vg.Kp} {rv rv2 cv : Value} {L : List Int} {y : Array Obj} {M : List Vg.Mx}
theorem NK.grows (h : NK w b xs rv L) (hg : Vg.Grows w w') : NK w' b xs rv L := ⟨hg.blk h.tab, hg.blk h.cei, h.row.grows hg, h.js⟩
/-- A task is appended, and the row stored. -/
theorem NK.app {t : Vg.Tk} (h : NK w b xs rv L) (hq : Vg.Que (Vg.plus W1 y m) (b + 2) 199 13 rv2 (xs.length + 1) (Vg.kcells xs ++ tkN t)) (hS : Vg.Same (fun j => rv.ownBlock = some j) w W1) :
    NK (Vg.put (Vg.plus W1 y m) b (knC rv2)) b (xs ++ [(.slice none 0 0, Vg.kt0 t)]) rv2 L := by
  have hrl := h.row.lt
  have hbl := Vg.lt_of h.tab
  have hcl := Vg.lt_of h.cei
  have hbW : b < (Vg.plus W1 y m).heap.size := by rw [Vg.plus_size, hS.size]; omega
  refine ⟨Vg.put_heap_same hbW, ?_, ?_, fun i hi => ?_⟩
  · rw [show Vg.blk (Vg.put (Vg.plus W1 y m) b (knC rv2)) (b + 1) = Vg.blk (Vg.plus W1 y m) (b + 1) from Vg.put_heap_other (by omega), Vg.blk_plus (by rw [hS.size]; exact hcl)]
    exact (hS.block (b + 1) fun hh => by have := (hrl _ hh).1; omega).trans h.cei
  · rw [List.length_append, Vg.kcells_append]
    exact hq.kept fun k hk => Vg.put_heap_other (by have := (hq.lt k hk).1; omega)
  · by_cases hlt : i < xs.length
    · rw [List.getElem_append_left hlt]; exact h.js i hlt
    · have : i = xs.length := by simp at hi; omega
      subst this
      simp [Vg.kt0]
theorem NK.ceil {L2 : List Int} (h : NK w b xs rv L) : NK (Vg.put w (b + 1) (.cells (Vg.ics L2).toArray 3)) b xs rv L2 :=
  ⟨(Vg.put_heap_other (by omega)).trans h.tab, Vg.put_heap_same (Vg.lt_of h.cei), h.row.kept fun k hk => Vg.put_heap_other (by have := (h.row.lt k hk).1; omega), h.js⟩
theorem NK.done (h : NK w b xs rv L) (hc : CE w' cb (cb + 1) M cv) (hg : Vg.Grows w w') (hcb : w.heap.size ≤ cb) :
    KT (Vg.put w' b (kernC rv cb)) b xs rv cb M cv ∧ ∀ k, kown b xs rv cb cv k → b ≤ k := by
  have h' := h.grows hg
  have hbl := Vg.lt_of h.tab
  have hbl' := Vg.lt_of h'.tab
  have hrl := h.row.lt
  have hj : ∀ i (hi : i < xs.length) k, ¬ kfp xs[i] k := fun i hi k hk => by
    unfold kfp at hk
    rw [(h.js i hi).1] at hk
    simp [Value.ownBlock] at hk
  have hcl : ∀ k, kfc cb cv k → cb ≤ k := by
    rintro k (rfl | hk)
    · exact Nat.le_refl _
    · have := (hc.own k hk).1; omega
  refine ⟨⟨Vg.put_heap_same hbl', (h'.row.weaken (by omega)).kept fun k hk => Vg.put_heap_other (by have := (h'.row.lt k hk).1; omega), fun i hi => ?_, fun i j hi hj' _ k hk => absurd hk (hj i hi k), fun i hi k hk => absurd hk (hj i hi k),
    hc.kept (Vg.put_heap_other (by omega)) (fun k hk => Vg.put_heap_other (by have := hcl k (.inr hk); omega)), fun k hk => ⟨by have := hcl k hk; omega, fun hh => by have := hcl k hk; have := (hrl k hh).2; omega⟩, fun i hi k hk => absurd hk (hj i hi k), fun k hk => by have := hcl k hk; omega⟩, ?_⟩
  · rw [(h.js i hi).1, (h.js i hi).2]
    exact Vg.Que.nil _ _ _ _
  · rintro k (hk | hk | ⟨i, hi, hk⟩ | hk)
    · omega
    · have := (hrl k hk).1; omega
    · exact absurd hk (hj i hi k)
    · have := hcl k hk; omega
theorem kern_new_no {T : List Vg.Tk} {sa : Option Addr} {sc : Nat} {r : Int} (hr : Vg.TK w sa sc T) (hn : T.length = n) (hx : Vg.Kn.check T = r) (hb : r ≠ 0) :
    Calls Try.prog 64 #[.slice sa n sc] w fun e w' => e = .returned (.tuple #[.pointer none, .int .i64 r]) ∧ Vg.Grows w w' := by
  have hbb : (r != 0) = true := by simp [hb]
  have H_hr := Lib.hid hr; clear hr; have H_hn := Lib.hid hn; clear hn; have H_hx := Lib.hid hx; clear hx; have H_hb := Lib.hid hb; clear hb
  go_enter Try.func64, Try.ntmps64
  go_wp2_with ((go_at_call 113; refine (kern_check H_hr.out H_hn.out H_hx.out).mono ?_; rintro e w1 ⟨rfl, x1, n1, rfl⟩))
  go_returns
  exact ⟨rfl, by (repeat' (first | (with_reducible exact Vg.Grows.refl _) | (with_reducible assumption) | (with_reducible refine Vg.Grows.alloc ?_ _) | (with_reducible refine Vg.Grows.plus ?_ _ _) | (with_reducible refine Vg.Grows.drewN ?_ _) | (with_reducible refine Vg.Grows.drew ?_) | (with_reducible refine Vg.Grows.setCell ?_ ?_ _) | (with_reducible refine Vg.Grows.put ?_ ?_ _) | omega | (simp; omega) | (simp; done)))⟩
theorem kern_new {T : List Vg.Tk} {sa : Option Addr} {sc : Nat} (hr : Vg.TK w sa sc T) (hn : T.length = n) (hx : Vg.Kn.check T = 0) :
    Calls Try.prog 64 #[.slice sa n sc] w fun e w' => ∃ b xs rv cb cv, e = .returned (.tuple #[.pointer (some ⟨b, 0, none⟩), .int .i64 0]) ∧ KT w' b xs rv cb (Vg.Kn.M0 T) cv ∧ xs.map (·.2) = Vg.Kn.K0 T ∧ w.heap.size ≤ b ∧ Vg.Grows w w' := by
  obtain ⟨⟨hn1, hn32⟩, hodd, hnd⟩ := Vg.Kn.check_ok hx
  obtain ⟨i0, hI, hz0, hz1, hz2⟩ := info_parts Try.info_ktask
  rw [hn] at hn1 hn32
  have hmk : ∀ wx : World, (Instr.makeSlice 22 (.int .i64 16) (.int .i64 16)).run Try.prog wx = .ok (.slice (some ⟨wx.heap.size, 0, none⟩) 16 16) (wx.alloc (.cells (Vg.ics (Vg.Kn.ceils [])).toArray 3)) := fun wx => by
    have := run_make_row' (P := Try.prog) 22 3 (.int .i64 0) 8 Try.underlying22 Try.info_int rfl .i64 .i64 16 (by omega) (by omega) wx
    rw [Vg.madeI] at this
    exact this
  have H_hr := Lib.hid hr; clear hr; have H_hn := Lib.hid hn; clear hn; have H_hx := Lib.hid hx; clear hx; have H_hodd := Lib.hid hodd; clear hodd; have H_hnd := Lib.hid hnd; clear hnd
  go_enter Try.func64, Try.ntmps64
  go_wp2_with ((go_at_call 113; refine (kern_check H_hr.out H_hn.out H_hx.out).mono ?_; rintro e w1 ⟨rfl, hg1⟩; have HG1 := Lib.hid hg1; clear hg1))
  obtain ⟨b, hb⟩ : ∃ b, w1.heap.size = b := ⟨_, rfl⟩
  obtain ⟨W0, hW0⟩ : ∃ W0, (w1.alloc (knC (.slice none 0 0))).alloc (.cells (Vg.ics (Vg.Kn.ceils [])).toArray 3) = W0 := ⟨_, rfl⟩
  have g0 : NK W0 b [] (.slice none 0 0) (Vg.Kn.ceils []) := by
    refine ⟨?_, ?_, Vg.Que.nil _ _ _ _, fun i h => by simp at h⟩
    · rw [← hW0, ← hb]; exact (Vg.alloc_heap_past (by simp)).trans (Vg.alloc_heap_at rfl)
    · rw [← hW0, ← hb]; exact Vg.alloc_heap_at (by simp)
  have gg : Vg.Grows w W0 := by rw [← hW0]; exact HG1.out.trans (by (repeat' (first | (with_reducible exact Vg.Grows.refl _) | (with_reducible assumption) | (with_reducible refine Vg.Grows.alloc ?_ _) | (with_reducible refine Vg.Grows.plus ?_ _ _) | (with_reducible refine Vg.Grows.drewN ?_ _) | (with_reducible refine Vg.Grows.drew ?_) | (with_reducible refine Vg.Grows.setCell ?_ ?_ _) | (with_reducible refine Vg.Grows.put ?_ ?_ _) | omega | (simp; omega) | (simp; done))))
  have hbw : w.heap.size ≤ b := by rw [← hb]; exact HG1.out.size
  simp only [hb]
  rw [hW0]
  have H_hb := Lib.hid hb; clear hb; have H_hW0 := Lib.hid hW0; clear hW0; have H_g0 := Lib.hid g0; clear g0
  go_loopw [20] (fun i wr => ∃ (k : Nat) (xs : List Vg.Kp) (rv : Value), k ≤ n ∧ i = .int .i64 k ∧ Vg.Grows w wr ∧ xs.map (·.2) = Vg.Kn.K0 (T.take k) ∧ NK wr b xs rv (Vg.Kn.ceils (T.take k))) (fun i _ => n - (intOf i).toNat)
  case atStart => exact ⟨0, [], _, by omega, rfl, gg, by simp [Vg.Kn.K0], by rw [List.take_zero]; exact H_g0.out⟩
  case round =>
    obtain ⟨k, xs, rv, hk, rfl, hgr, hmap, hnk⟩ := hrel
    by_cases hlt : k < n
    · have hkT : k < T.length := by rw [H_hn.out]; exact hlt
      obtain ⟨g, off, rfl, hg, hc⟩ := H_hr.out.2.2 k hkT
      have hrc := H_hr.out.1
      have hrm : sc ≤ 9223372036854775807 := H_hr.out.2.1
      rw [H_hn.out] at hrc
      have hsn := List.take_succ_eq_append_getElem hkT
      obtain ⟨t, ht⟩ : ∃ t, T[k] = t := ⟨_, rfl⟩
      have hme : t ∈ T := by rw [← ht]; exact List.getElem_mem _
      have hok : t.ok := Vg.oddK_no (by
        cases hh : Vg.oddK t with
        | false => rfl
        | true => rw [← H_hodd.out]; exact (List.any_eq_true.2 ⟨t, hme, hh⟩).symm)
      have hc' : ∀ i, i < 10 → wr.cell? ⟨g, off + k * 10 + i, none⟩ = some (Vg.tkcell t i) := fun i hi => (hgr.below.cell (p := ⟨g, off + k * 10 + i, none⟩) hg).trans (by rw [← ht]; exact hc i hi)
      rw [ht] at hsn
      have hgl : g < wr.heap.size := Nat.lt_of_lt_of_le hg hgr.size
      have c0 := hc' 0 (by decide)
      have c1 := hc' 1 (by decide)
      have c2 := hc' 2 (by decide)
      have c3 := hc' 3 (by decide)
      have c4 := hc' 4 (by decide)
      have c5 := hc' 5 (by decide)
      have c6 := hc' 6 (by decide)
      have c7 := hc' 7 (by decide)
      have c8 := hc' 8 (by decide)
      have c9 := hc' 9 (by decide)
      simp only [Vg.tkcell, Nat.add_zero] at c0 c1 c2 c3 c4 c5 c6 c7 c8 c9
      clear hc hc'
      have hxk : xs.length = k := by have := congrArg List.length hmap; unfold Vg.Kn.K0 at this; rw [List.length_map, List.length_map, List.length_take] at this; omega
      have hcl := Vg.Kn.ceils_len (T.take k)
      have hce1 : Vg.Kn.ceils (T.take (k + 1)) = Vg.Kn.ceil1 (Vg.Kn.ceils (T.take k)) t := by rw [hsn, Vg.Kn.ceils_snoc]
      obtain ⟨L, hL⟩ : ∃ L, Vg.Kn.ceils (T.take k) = L := ⟨_, rfl⟩
      rw [hL] at hnk hcl hce1
      have hrow := hnk.row
      obtain ⟨ra, rc, rfl⟩ := hrow.shape
      rw [hxk] at hnk hrow
      have H_hmap := Lib.hid hmap; clear hmap; have H_hnk := Lib.hid hnk; clear hnk; have H_hsn := Lib.hid hsn; clear hsn; have H_ht := Lib.hid ht; clear ht; have H_hme := Lib.hid hme; clear hme; have H_hxk := Lib.hid hxk; clear hxk; have H_hrow := Lib.hid hrow; clear hrow; have H_hcl := Lib.hid hcl; clear hcl; have H_hce1 := Lib.hid hce1; clear hce1; have H_hL := Lib.hid hL; clear hL; have H_hok := Lib.hid hok; clear hok
      go_upto_region 9 with (fail)
      obtain ⟨wy, hwy⟩ : ∃ wy, wr.alloc (tkC t) = wy := ⟨_, rfl⟩
      have hgy : Vg.Grows wr wy := by rw [← hwy]; (repeat' (first | (with_reducible exact Vg.Grows.refl _) | (with_reducible assumption) | (with_reducible refine Vg.Grows.alloc ?_ _) | (with_reducible refine Vg.Grows.plus ?_ _ _) | (with_reducible refine Vg.Grows.drewN ?_ _) | (with_reducible refine Vg.Grows.drew ?_) | (with_reducible refine Vg.Grows.setCell ?_ ?_ _) | (with_reducible refine Vg.Grows.put ?_ ?_ _) | omega | (simp; omega) | (simp; done)))
      have x2 : Vg.blk wy wr.heap.size = some (tkC t) := by rw [← hwy]; exact Vg.alloc_heap_at rfl
      have nk2 := H_hnk.out.grows hgy
      have q2 := H_hrow.out.grows hgy
      have x1 := nk2.tab
      have hgwy := hgr.trans hgy
      have hszy : wy.heap.size = wr.heap.size + 1 := by rw [← hwy]; simp
      have hbr := Vg.lt_of H_hnk.out.tab
      have hcr := Vg.lt_of H_hnk.out.cei
      have hrr := H_hrow.out.lt
      rw [hwy]
      obtain ⟨bx, hbx⟩ : ∃ bx, wr.heap.size = bx := ⟨_, rfl⟩
      rw [hbx] at x2 hszy hbr hcr hrr
      simp only [hbx]
      have n1 : b ≠ bx := by omega
      have n2 : bx ≠ b := by omega
      have hsz9 : b + 2 ≤ wy.heap.size := by omega
      have lb1 : b < bx + 1 := by omega
      have c_x1 := Vg.cells_of x1; have f_x1 := Vg.frozen_of x1; have p_x1 := Vg.setCell_of x1; have l_x1 := Vg.lt_of x1; have H_x1 := Lib.hid x1; clear x1; have c_x2 := Vg.cells_of x2; have f_x2 := Vg.frozen_of x2; have p_x2 := Vg.setCell_of x2; have l_x2 := Vg.lt_of x2; have H_x2 := Lib.hid x2; clear x2
      have H_nk2 := Lib.hid nk2; clear nk2; have H_q2 := Lib.hid q2; clear q2; have H_hwy := Lib.hid hwy; clear hwy; have H_hrr := Lib.hid hrr; clear hrr; have H_hbx := Lib.hid hbx; clear hbx
      go_cut [] (fun wz => ∃ (xs' : List Vg.Kp) (rv2 : Value), xs'.map (·.2) = Vg.Kn.K0 (T.take (k + 1)) ∧ NK wz b xs' rv2 L ∧ Vg.blk wz bx = some (tkC t) ∧ Vg.Grows w wz)
      case first =>
        go_region_law (refine Vg.step_que1 rfl (.tmp 28) (.tmp 31) 194 rfl (b + 2) 199 i0 _ 13 120 Try.underlying194 hI hz0 hz1 hz2 rfl (by decide) (.slice ra k rc) k (Vg.kcells xs) (by simp [Act.eval, Act.put]) (H_q2.out.grows (by (repeat' (first | (with_reducible exact Vg.Grows.refl _) | (with_reducible assumption) | (with_reducible refine Vg.Grows.alloc ?_ _) | (with_reducible refine Vg.Grows.plus ?_ _ _) | (with_reducible refine Vg.Grows.drewN ?_ _) | (with_reducible refine Vg.Grows.drew ?_) | (with_reducible refine Vg.Grows.setCell ?_ ?_ _) | (with_reducible refine Vg.Grows.put ?_ ?_ _) | omega | (simp; omega) | (simp; done))))) ⟨bx + 1, 0, none⟩ 1 (tkN t) (by simp [Act.eval, Act.put]) rfl (Vg.many_new (by first | rfl | ((try simp only [World.size_alloc, Vg.plus_size, Vg.put_size, World.size_setCell, World.size_drew, World.heap_drewN]) <;> omega))) (by simp [Value.oneCell']) (by unfold maxLen; omega) (by omega) (by decide) (by simp only [World.size_alloc, World.heap_drewN, World.size_drew]; omega) ?_; intro v2 W1 y2 m2 hq2 hs2 ho2; obtain ⟨a2, c2, rfl⟩ := hq2.shape; have z1 := (hs2.block b (fun hh => by have := (H_q2.out.lt b hh).1; omega)).trans (Vg.Grows.blk (w0 := wy) (by (repeat' (first | (with_reducible exact Vg.Grows.refl _) | (with_reducible assumption) | (with_reducible refine Vg.Grows.alloc ?_ _) | (with_reducible refine Vg.Grows.plus ?_ _ _) | (with_reducible refine Vg.Grows.drewN ?_ _) | (with_reducible refine Vg.Grows.drew ?_) | (with_reducible refine Vg.Grows.setCell ?_ ?_ _) | (with_reducible refine Vg.Grows.put ?_ ?_ _) | omega | (simp; omega) | (simp; done)))) H_x1.out); have z2 := (hs2.block bx (fun hh => by have := (H_hrr.out bx hh).2; omega)).trans (Vg.Grows.blk (w0 := wy) (by (repeat' (first | (with_reducible exact Vg.Grows.refl _) | (with_reducible assumption) | (with_reducible refine Vg.Grows.alloc ?_ _) | (with_reducible refine Vg.Grows.plus ?_ _ _) | (with_reducible refine Vg.Grows.drewN ?_ _) | (with_reducible refine Vg.Grows.drew ?_) | (with_reducible refine Vg.Grows.setCell ?_ ?_ _) | (with_reducible refine Vg.Grows.put ?_ ?_ _) | omega | (simp; omega) | (simp; done)))) H_x2.out); have hszW := hs2.size; have hgW := hs2.grows (w0 := w) (Vg.Grows.trans hgwy (by (repeat' (first | (with_reducible exact Vg.Grows.refl _) | (with_reducible assumption) | (with_reducible refine Vg.Grows.alloc ?_ _) | (with_reducible refine Vg.Grows.plus ?_ _ _) | (with_reducible refine Vg.Grows.drewN ?_ _) | (with_reducible refine Vg.Grows.drew ?_) | (with_reducible refine Vg.Grows.setCell ?_ ?_ _) | (with_reducible refine Vg.Grows.put ?_ ?_ _) | omega | (simp; omega) | (simp; done))))) (fun j hj => by have := (H_q2.out.lt j hj).1; omega); have nb4 := fun m => NK.app (m := m) (t := t) (NK.grows H_nk2.out (by (repeat' (first | (with_reducible exact Vg.Grows.refl _) | (with_reducible assumption) | (with_reducible refine Vg.Grows.alloc ?_ _) | (with_reducible refine Vg.Grows.plus ?_ _ _) | (with_reducible refine Vg.Grows.drewN ?_ _) | (with_reducible refine Vg.Grows.drew ?_) | (with_reducible refine Vg.Grows.setCell ?_ ?_ _) | (with_reducible refine Vg.Grows.put ?_ ?_ _) | omega | (simp; omega) | (simp; done))))) (by rw [H_hxk.out]; exact hq2) hs2; clear c_x1 f_x1 p_x1 c_x2 f_x2 p_x2; have c_z1 := Vg.cells_of z1; have f_z1 := Vg.frozen_of z1; have p_z1 := Vg.setCell_of z1; have l_z1 := Vg.lt_of z1; have H_z1 := Lib.hid z1; clear z1; have c_z2 := Vg.cells_of z2; have f_z2 := Vg.frozen_of z2; have p_z2 := Vg.setCell_of z2; have l_z2 := Vg.lt_of z2; have H_z2 := Lib.hid z2; clear z2; have e1 : (Vg.plus W1 y2 m2).cell? ⟨b, 0, none⟩ = some (.slice ra k rc) := (by rw [Vg.plus_cell l_z1, c_z1]; rfl); have e2 : (Vg.plus W1 y2 m2).frozen? ⟨b, 0, none⟩ = false := (by rw [Vg.plus_frozen l_z1, f_z1]); have H_hq2 := Lib.hid hq2; clear hq2; have H_hs2 := Lib.hid hs2; clear hs2; have H_ho2 := Lib.hid ho2; clear ho2; have H_nb4 := Lib.hid nb4; clear nb4; have H_hszW := Lib.hid hszW; clear hszW)
        all_goals go_wp2_with fail
        all_goals go_meet
        all_goals refine ⟨xs ++ [(.slice none 0 0, Vg.kt0 t)], .slice a2 (k + 1) c2, by unfold Vg.Kn.K0; rw [List.map_append, H_hmap.out, H_hsn.out, List.map_append]; rfl, ?_, ?_, Vg.Grows.plus (Vg.Grows.put hgW hbw _) _ _⟩
        all_goals first
          | (have h9 := H_nb4.out m2; rw [Vg.put_plus l_z1] at h9; exact h9)
          | (rw [Vg.blk_plus (by rw [Vg.put_size]; exact l_z2)]; exact (Vg.put_heap_other n1).trans H_z2.out)
      case rest =>
        obtain ⟨xs', rv2, hmap', nk3, x3, hg3⟩ := hcut
        have y1 := nk3.cei
        clear c_x1 f_x1 p_x1 c_x2 f_x2 p_x2
        have c_x3 := Vg.cells_of x3; have f_x3 := Vg.frozen_of x3; have p_x3 := Vg.setCell_of x3; have l_x3 := Vg.lt_of x3; have H_x3 := Lib.hid x3; clear x3
        by_cases hl : t.lk < 0
        · have hno : ¬ 0 ≤ t.lk := by omega
          have he : Vg.Kn.ceil1 L t = L := by unfold Vg.Kn.ceil1; rw [if_neg hno]
          have H_hmap' := Lib.hid hmap'; clear hmap'; have H_nk3 := Lib.hid nk3; clear nk3; have H_y1 := Lib.hid y1; clear y1; have H_he := Lib.hid he; clear he
          go_wp2_with fail
          exact ⟨⟨k + 1, xs', rv2, by omega, by go_num, hg3, H_hmap'.out, by rw [H_hce1.out, H_he.out]; exact H_nk3.out⟩, by simp [intOf]; omega⟩
        · have h0 : 0 ≤ t.lk := by omega
          have h16 := (H_hok.out.2.2 h0).1
          obtain ⟨i, hi⟩ : ∃ i : Nat, t.lk = i := ⟨t.lk.toNat, by omega⟩
          have hi16 : i < 16 := by omega
          have hiL : i < L.length := by rw [H_hcl.out]; exact hi16
          have he : Vg.Kn.ceil1 L t = L.set i (max L[i] t.pr) := by
            unfold Vg.Kn.ceil1
            rw [if_pos h0, hi, Int.toNat_natCast, List.getElem?_eq_getElem hiL]
            rfl
          have hcell : wc.cell? ⟨b + 1, i, none⟩ = some (.int .i64 L[i]) := by
            rw [Vg.cells_of y1]
            simp [Vg.ics, hiL]
          have hset : ∀ v : Int, wc.setCell ⟨b + 1, i, none⟩ (.int .i64 v) = Vg.put wc (b + 1) (.cells (Vg.ics (L.set i v)).toArray 3) := fun v => by
            rw [Vg.setCell_of y1]
            simp [Vg.ics, List.map_set]
          have hfz := Vg.frozen_of y1
          have hl1 := Vg.lt_of y1
          have hxb : bx ≠ b + 1 := by omega
          have hend : ∀ v : Int, NK (Vg.put wc (b + 1) (.cells ((List.map (Value.int .i64) L).set i (.int .i64 v)).toArray 3)) b xs' rv2 (L.set i v) := fun v => by
            have := nk3.ceil (L2 := L.set i v)
            unfold Vg.ics at this
            rw [List.map_set] at this
            exact this
          rw [hi] at c_x3
          obtain ⟨c, hcL⟩ : ∃ c, L[i] = c := ⟨_, rfl⟩
          rw [hcL] at hcell he
          obtain ⟨q, hq⟩ : ∃ q, max c t.pr = q := ⟨_, rfl⟩
          rw [hq] at he
          have hcase : (c < t.pr ∧ q = t.pr) ∨ (¬ c < t.pr ∧ q = c) := by
            by_cases h : c < t.pr
            · exact .inl ⟨h, by omega⟩
            · exact .inr ⟨h, by omega⟩
          clear hq
          rcases hcase with ⟨h1, rfl⟩ | ⟨h1, rfl⟩
          all_goals
            have H_hmap' := Lib.hid hmap'; clear hmap'; have H_nk3 := Lib.hid nk3; clear nk3; have H_y1 := Lib.hid y1; clear y1; have H_he := Lib.hid he; clear he; have H_hend := Lib.hid hend; clear hend; have H_hcL := Lib.hid hcL; clear hcL
            go_wp2_with fail
            go_region
            all_goals go_wp2_with fail
            all_goals exact ⟨⟨k + 1, xs', rv2, by omega, by go_num, (Vg.Grows.put hg3 (by omega) _).drew, H_hmap'.out, by rw [H_hce1.out, H_he.out]; exact (H_hend.out _).grows (by (repeat' (first | (with_reducible exact Vg.Grows.refl _) | (with_reducible assumption) | (with_reducible refine Vg.Grows.alloc ?_ _) | (with_reducible refine Vg.Grows.plus ?_ _ _) | (with_reducible refine Vg.Grows.drewN ?_ _) | (with_reducible refine Vg.Grows.drew ?_) | (with_reducible refine Vg.Grows.setCell ?_ ?_ _) | (with_reducible refine Vg.Grows.put ?_ ?_ _) | omega | (simp; omega) | (simp; done))))⟩, by simp [intOf]; omega⟩
    · have hkn : k = n := by omega
      subst hkn
      have htk : T.take k = T := List.take_of_length_le (by rw [H_hn.out]; exact Nat.le_refl _)
      rw [htk] at hmap hnk
      have x1 := hnk.tab
      have y1 := hnk.cei
      have hcl := Vg.Kn.ceils_len T
      have hco := Vg.Kn.ceils_ok H_hodd.out
      have hir : Vg.IR wr (some ⟨b + 1, 0, none⟩) 16 (Vg.Kn.ceils T) := ⟨by rw [hcl]; exact Nat.le_refl _, by unfold maxLen; omega, fun k hk => ⟨b + 1, 0, rfl, Vg.lt_of y1, by rw [Vg.cells_of y1, Nat.zero_add]; simp [Vg.ics, hk]⟩⟩
      have hnew := ceil_new hir (by rw [hcl]; exact Nat.le_refl _) hco
      rw [hcl] at hnew
      have hbl := Vg.lt_of x1
      have c_x1 := Vg.cells_of x1; have f_x1 := Vg.frozen_of x1; have p_x1 := Vg.setCell_of x1; have l_x1 := Vg.lt_of x1; have H_x1 := Lib.hid x1; clear x1
      have H_hmap := Lib.hid hmap; clear hmap; have H_hnk := Lib.hid hnk; clear hnk; have H_htk := Lib.hid htk; clear htk; have H_hcl := Lib.hid hcl; clear hcl; have H_hco := Lib.hid hco; clear hco; have H_hir := Lib.hid hir; clear hir; have H_hnew := Lib.hid hnew; clear hnew; have H_y1 := Lib.hid y1; clear y1
      go_wp2_with fail
      refine H_hnew.out.mono ?_
      rintro e w2 ⟨cv, rfl, hce, hg2⟩
      have y2 := hg2.blk H_x1.out
      have hdn := H_hnk.out.done hce hg2 (Nat.le_refl _)
      have hgw2 := hgr.trans hg2
      clear c_x1 f_x1 p_x1
      have c_y2 := Vg.cells_of y2; have f_y2 := Vg.frozen_of y2; have p_y2 := Vg.setCell_of y2; have l_y2 := Vg.lt_of y2; have H_y2 := Lib.hid y2; clear y2
      have H_hce := Lib.hid hce; clear hce; have H_hdn := Lib.hid hdn; clear hdn
      go_wp2_with fail
      go_returns
      exact ⟨b, xs, rv, _, cv, rfl, H_hdn.out.1, H_hmap.out, hbw, Vg.Grows.put hgw2 hbw _⟩
end
end Go.Proofs.Ytiinhofmhoplfaa
