/- Law 14: does. -/
import Derived.Test.YtiinhofmhoplfaaKernZ
set_option linter.unusedSimpArgs false
set_option linter.unusedVariables false
set_option maxHeartbeats 8000000
set_option maxRecDepth 100000
namespace Vg
open Go
def Kn.far (K : List Kt) (M : List Mx) (c : Int) : Int := min (max c 0) (Kn.left K M)
def Kn.does (K : List Kt) (M : List Mx) (kd t c a : Int) : List Kt × List Mx × (Int × Int × Int) × Bool :=
  if kd = 0 then ((Kn.release K t c a).1, M, (0, 0, 0), false) else
  if kd = 1 ∨ kd = 4 then ((Kn.run K M (Kn.far K M c)).1, (Kn.run K M (Kn.far K M c)).2.1, (Kn.run K M (Kn.far K M c)).2.2.1, (Kn.run K M (Kn.far K M c)).2.2.2.1) else
  if kd = 2 then ((Kn.suspend K M t).1, M, (0, 0, 0), false) else
  if kd = 3 then ((Kn.resume K t).1, M, (0, 0, 0), false) else (K, M, (0, 0, 0), false)
theorem Kn.Inv.does {k : Nat} {K : List Kt} (h : Kn.Inv k K) (M : List Mx) (kd t c a : Int) : Kn.Inv (k + 1) (Kn.does K M kd t c a).1 := by
  unfold Kn.does
  split
  · exact h.release t c a
  · split
    · exact (h.run M _).mono (Nat.le_succ k)
    · split
      · exact (h.suspend M t).mono (Nat.le_succ k)
      · split
        · exact (h.resume t).mono (Nat.le_succ k)
        · exact h.mono (Nat.le_succ k)
theorem Touch.alloc' {t : Nat → Prop} {w w' : World} (h : Touch t w w') (o : Obj) : Touch t w (w'.alloc o) := h.trans (Touch.of_grows ((Grows.refl w').alloc o))
theorem Touch.drew' {t : Nat → Prop} {w w' : World} (h : Touch t w w') : Touch t w w'.drew := h.trans (Touch.of_grows ((Grows.refl w').drew))
theorem Touch.plus' {t : Nat → Prop} {w w' : World} (h : Touch t w w') (x : Array Obj) (n : Nat) : Touch t w (plus w' x n) := h.trans (Touch.of_grows ((Grows.refl w').plus x n))
theorem Kn.left_nonneg {k : Nat} {K : List Kt} (h : Kn.Inv k K) (M : List Mx) : 0 ≤ Kn.left K M ∧ Kn.left K M ≤ 1099511627776 := by
  rcases Kn.best_cases (M := M) h with ⟨hb, _⟩ | ⟨i, hi, hb, ha, _⟩
  · rw [Kn.left_none hb]; omega
  · obtain ⟨_, t, j, l, lo, hx, hg⟩ := Kn.able_at h ha
    rw [Kn.left_some hb hi hx]
    have := Kn.leftJ_pos (t := t) (hg.js j (by simp))
    omega
end Vg
namespace Go.Proofs.Ytiinhofmhoplfaa
open Go.ChangeShapes Go.WideShapes Go.ChangeAt Go.RowKit
section
variable {w w' w0 : World} {b n k : Nat} {K K' : List Vg.Kt} {M M' : List Vg.Mx} {S S' : Nat → Prop} {r x d1 d2 d3 m kd t c a : Int} {is : Bool}
theorem KZ.mono (h : KZ w0 w b K M S) (hS : ∀ k, S' k → S k) : KZ w0 w b K M S' := by
  obtain ⟨⟨xs, rv, cb, cv, h1, h2, h3⟩, h4, h5, h6⟩ := h
  exact ⟨⟨xs, rv, cb, cv, h1, h2, fun k hk => h3 k (hS k hk)⟩, h4, h5, fun k hk => h6 k (hS k hk)⟩
/-- What is new may be kept, too. -/
theorem KZ.more (h : KZ w0 w b K M S) (hg : Vg.Grows w w') : KZ w0 w' b K M (fun k => S k ∨ (w.heap.size ≤ k ∧ k < w'.heap.size)) := by
  have hs := h.lt
  refine h.other (t := fun _ => False) (Vg.Touch.of_grows hg) (fun k hk => hk.elim) (h.gr.trans hg) fun k hk => ?_
  rcases hk with hk | hk
  · exact ⟨.inl hk, Nat.lt_of_lt_of_le (hs k hk) hg.size⟩
  · exact ⟨.inr hk.1, hk.2⟩
theorem Vg.Kept.mono' {S S' : Nat → Prop} {A B : World} (h : Vg.Kept S A B) (hS : ∀ k, S' k → S k) : Vg.Kept S' A B := ⟨h.size, fun k hk => h.block k (hS k hk)⟩
abbrev act14 (a b c d : Int) : Obj := .cells #[.int .i64 a, .int .i64 b, .int .i64 c, .int .i64 d] 116
/-- Behind a call that writes: what was kept is kept still, and what was made meanwhile. -/
structure KY (w0 wx W w3 : World) (b : Nat) (K : List Vg.Kt) (M : List Vg.Mx) (S : Nat → Prop) : Prop where
  kz : KZ w0 w3 b K M (fun k => S k ∨ (wx.heap.size ≤ k ∧ k < W.heap.size))
  kp : Vg.Kept S wx w3
  nw : ∀ k o, wx.heap.size ≤ k → Vg.blk W k = some o → Vg.blk w3 k = some o
theorem ky_run {wx W : World} (h : KZ w0 wx b K M S) (hg : Vg.Grows wx W) (hI : Vg.Kn.Inv k K) (hx : Vg.Kn.run K M m = (K', M', (d1, d2, d3), is, r)) :
    Calls Try.prog 87 #[.pointer (some ⟨b, 0, none⟩), .int .i64 m] W fun e w3 => e = .returned (.tuple #[.agg #[.int .i64 d1, .int .i64 d2, .int .i64 d3], .bool is, .int .i64 r]) ∧ KY w0 wx W w3 b K' M' S := by
  refine (kz_run (h.more hg) hI hx).mono ?_
  rintro e w3 ⟨rfl, hz, hk⟩
  refine ⟨rfl, hz, (Vg.kept_grows hg h.lt).trans (Vg.Kept.mono' hk fun k hk => .inl hk), fun k o hk1 ho => ?_⟩
  exact hk.blk ho (.inr ⟨hk1, (Array.getElem?_eq_some_iff.1 ho).1⟩)
theorem KY.mid {wx w3 : World} {y : Array Obj} {m : Nat} {o : Obj} (hy : KY w0 wx ((Vg.plus wx y m).alloc o) w3 b K M S) : Vg.blk w3 (wx.heap.size + Vg.sz y) = some o :=
  hy.nw _ _ (Nat.le_add_right _ _) (Vg.alloc_heap_at (by rw [Vg.plus_size]))
theorem KY.pre {wx w3 : World} {y : Array Obj} {m : Nat} {o : Obj} (hy : KY w0 wx (Vg.plus (wx.alloc o) y m) w3 b K M S) : Vg.blk w3 wx.heap.size = some o :=
  hy.nw _ _ (Nat.le_refl _) ((Vg.blk_plus (by simp)).trans (Vg.alloc_heap_at rfl))
/-- What stands behind a run and the store of what it tells. -/
structure KQ (w0 w wz : World) (b : Nat) (K : List Vg.Kt) (M : List Vg.Mx) (S : Nat → Prop) (d b2 : Nat) (o o2 : Obj) : Prop where
  kz : KZ w0 wz b K M S
  kp : Vg.Kept S w wz
  od : Vg.blk wz d = some o
  o2 : Vg.blk wz b2 = some o2
  ne : d ≠ b2
theorem KY.leaf1 {wx W w3 : World} {b2 : Nat} {o o2 : Obj} (hy : KY w0 wx W w3 b K M S) (h2 : Vg.blk w3 b2 = some o2) : KQ w0 wx (w3.alloc o) b K M S w3.heap.size b2 o o2 := by
  have hg : Vg.Grows w3 (w3.alloc o) := (Vg.Grows.refl w3).alloc o
  have hz := hy.kz.mono (S' := S) fun k hk => .inl hk
  exact ⟨hz.grows hg, hy.kp.trans (Vg.kept_grows hg hz.lt), Vg.alloc_heap_at rfl, hg.blk h2, fun hh => by have := Vg.lt_of h2; omega⟩
theorem KY.leaf2 {wx W w3 : World} {d b2 : Nat} {o o1 o2 : Obj} (hy : KY w0 wx W w3 b K M S) (hd : wx.heap.size ≤ d) (hw : w0.heap.size ≤ wx.heap.size) (h1 : Vg.blk w3 d = some o1) (hd2 : d < W.heap.size) (hS : ∀ k, S k → k < wx.heap.size) (hb2 : b2 < wx.heap.size) (h2 : Vg.blk w3 b2 = some o2) : KQ w0 wx (Vg.put w3 d o) b K M S d b2 o o2 := by
  have ht : Vg.Touch (fun k => k = d) w3 (Vg.put w3 d o) := Vg.Touch.put (t := fun k => k = d) (Vg.Touch.refl _ _) rfl o
  have hne : ∀ k, S k → d ≠ k := fun k hk hh => by have := hS k hk; omega
  refine ⟨(hy.kz.other ht (fun k hk => .inr (by omega)) (ht.gr hy.kz.gr fun k hk => by omega) fun k hk => ⟨.inl hk, ?_⟩).mono fun k hk => .inl hk, hy.kp.trans ⟨ht.size, fun k hk => Vg.put_heap_other (hne k hk)⟩, Vg.put_heap_same (Vg.lt_of h1), (Vg.put_heap_other (by omega)).trans h2, by omega⟩
  rw [Vg.put_size]
  exact hy.kz.lt k hk
theorem KY.mid2 {wx w3 : World} {y : Array Obj} {m b2 : Nat} {o o1 o2 : Obj} (hy : KY w0 wx ((Vg.plus wx y m).alloc o1) w3 b K M S) (hw : w0.heap.size ≤ wx.heap.size) (hS : ∀ k, S k → k < wx.heap.size) (hb2 : b2 < wx.heap.size) (h2 : Vg.blk w3 b2 = some o2) : KQ w0 wx (Vg.put w3 (wx.heap.size + Vg.sz y) o) b K M S (wx.heap.size + Vg.sz y) b2 o o2 :=
  hy.leaf2 (Nat.le_add_right _ _) hw hy.mid (by rw [World.size_alloc, Vg.plus_size]; omega) hS hb2 h2
theorem KY.pre2 {wx w3 : World} {y : Array Obj} {m b2 : Nat} {o o1 o2 : Obj} (hy : KY w0 wx (Vg.plus (wx.alloc o1) y m) w3 b K M S) (hw : w0.heap.size ≤ wx.heap.size) (hS : ∀ k, S k → k < wx.heap.size) (hb2 : b2 < wx.heap.size) (h2 : Vg.blk w3 b2 = some o2) : KQ w0 wx (Vg.put w3 wx.heap.size o) b K M S wx.heap.size b2 o o2 :=
  hy.leaf2 (Nat.le_refl _) hw hy.pre (by rw [Vg.plus_size, World.size_alloc]; omega) hS hb2 h2
theorem KZ.two {w1 : World} {b1 b2 : Nat} (h : KZ w0 w b K M S) (hg : Vg.Grows w w1) (h1 : w.heap.size ≤ b1) (h1' : b1 < w1.heap.size) (h2 : w.heap.size ≤ b2) (h2' : b2 < w1.heap.size) : KZ w0 w1 b K M (fun k => S k ∨ k = b1 ∨ k = b2) :=
  (h.more hg).mono fun k hk => by
    rcases hk with hk | rfl | rfl
    · exact .inl hk
    · exact .inr ⟨h1, h1'⟩
    · exact .inr ⟨h2, h2'⟩
/-- What 'does' leaves, at the end: behind S2 (which holds S) blocks of S2 alone that are new since w have changed. -/
theorem kz_fin {wx w3 w4 : World} {S2 : Nat → Prop} (hS : ∀ k, S k → k < w.heap.size) (hgx : Vg.Grows w wx) (hsub : ∀ k, S k → S2 k) (hz : KZ w0 w3 b K' M' S2) (hk : Vg.Kept S wx w3) (hb : w0.heap.size ≤ w.heap.size)
    (ht : Vg.Touch (fun k => S2 k ∧ w.heap.size ≤ k) w3 w4) : KZ w0 w4 b K' M' S ∧ Vg.Kept S w w4 := by
  refine ⟨hz.other ht (fun k hk => hk.1) (ht.gr hz.gr fun k hk => Nat.le_trans hb hk.2) fun k hk => ⟨.inl (hsub k hk), Nat.lt_of_lt_of_le (hz.lt k (hsub k hk)) ht.size⟩, ?_⟩
  exact (Vg.kept_grows hgx hS).trans (hk.trans ⟨ht.size, fun k hk => ht.block k (hz.lt k (hsub k hk)) fun hh => by have := hS k hk; omega⟩)
theorem kz_does_run (h : KZ w0 w b K M S) (hI : Vg.Kn.Inv k K) (hkd : kd = 1 ∨ kd = 4) (hx : Vg.Kn.run K M (Vg.Kn.far K M c) = (K', M', (d1, d2, d3), is, r)) :
    Calls Try.prog 80 #[.pointer (some ⟨b, 0, none⟩), .agg #[.int .i64 kd, .int .i64 t, .int .i64 c, .int .i64 a]] w fun e w' => e = .returned (.tuple #[.agg #[.int .i64 d1, .int .i64 d2, .int .i64 d3], .bool is]) ∧ KZ w0 w' b K' M' S ∧ Vg.Kept S w w' := by
  have hS := h.lt
  obtain ⟨lf, hlf⟩ : ∃ lf, Vg.Kn.left K M = lf := ⟨_, rfl⟩
  have hlb := Vg.Kn.left_nonneg hI M
  rw [hlf] at hlb
  obtain ⟨q, hq⟩ : ∃ q, Vg.Kn.far K M c = q := ⟨_, rfl⟩
  have hqm : min (max c 0) lf = q := by rw [← hq, ← hlf]; rfl
  rw [hq] at hx
  obtain ⟨hl0, hl1⟩ := hlb
  have hcase : (c < 0 ∧ 0 ≤ lf ∧ q = 0) ∨ (0 ≤ c ∧ c ≤ lf ∧ q = c) ∨ (0 ≤ c ∧ lf < c ∧ q = lf) := by omega
  clear hqm
  have h0w := h.gr.size
  have hb0 : (kd == 0) = false := by simp; omega
  have hbb : (kd == 1) = true ∨ ((kd == 1) = false ∧ (kd == 4) = true) := by simp; omega
  rcases hbb with hb1 | ⟨hb1, hb4⟩
  all_goals
    rcases hcase with ⟨g1, g2, e1⟩ | ⟨g1, g2, e1⟩ | ⟨g1, g2, e1⟩
    all_goals
      rw [e1] at hx hq
      clear e1
      clear hkd
      have HC := Lib.hid g1
      have HL := Lib.hid g2
      have H_h := Lib.hid h; clear h; have H_hI := Lib.hid hI; clear hI; have H_hx := Lib.hid hx; clear hx; have H_hS := Lib.hid hS; clear hS; have H_hq := Lib.hid hq; clear hq; have H_hlf := Lib.hid hlf; clear hlf
      go_enter Try.func80, Try.ntmps80
      go_upto_region 6 with (fail)
      obtain ⟨b1, hb1⟩ : ∃ b1, w.heap.size = b1 := ⟨_, rfl⟩
      obtain ⟨wx, hwx⟩ : ∃ wx, ((w.alloc (act14 kd t c a)).alloc (doneC 0 0 0)) = wx := ⟨_, rfl⟩
      have hg1 : Vg.Grows w wx := by rw [← hwx]; (repeat' (first | (with_reducible exact Vg.Grows.refl _) | (with_reducible assumption) | (with_reducible refine Vg.Grows.alloc ?_ _) | (with_reducible refine Vg.Grows.plus ?_ _ _) | (with_reducible refine Vg.Grows.drewN ?_ _) | (with_reducible refine Vg.Grows.drew ?_) | (with_reducible refine Vg.Grows.setCell ?_ ?_ _) | (with_reducible refine Vg.Grows.put ?_ ?_ _) | omega | (simp; omega) | (simp; done)))
      have hsx : wx.heap.size = b1 + 1 + 1 := by rw [← hwx]; simp [hb1]
      have x1 : Vg.blk wx b1 = some (act14 kd t c a) := by rw [← hwx, ← hb1]; exact (Vg.alloc_heap_past (by simp)).trans (Vg.alloc_heap_at rfl)
      have x2 : Vg.blk wx (b1 + 1) = some (doneC 0 0 0) := by rw [← hwx, ← hb1]; exact Vg.alloc_heap_at (by simp)
      have hz := H_h.out.two hg1 (b1 := b1) (b2 := b1 + 1) (by omega) (by omega) (by omega) (by omega)
      simp only [hb1]
      rw [hwx]
      have m1 : ∀ z, ¬ wx.heap.size + z = b1 := fun z => by omega
      have m2 : ∀ z, ¬ wx.heap.size + z = b1 + 1 := fun z => by omega
      have m3 : ¬ wx.heap.size = b1 := by omega
      have m4 : ¬ wx.heap.size = b1 + 1 := by omega
      have c_x1 := Vg.cells_of x1; have f_x1 := Vg.frozen_of x1; have p_x1 := Vg.setCell_of x1; have l_x1 := Vg.lt_of x1; have H_x1 := Lib.hid x1; clear x1; have c_x2 := Vg.cells_of x2; have f_x2 := Vg.frozen_of x2; have p_x2 := Vg.setCell_of x2; have l_x2 := Vg.lt_of x2; have H_x2 := Lib.hid x2; clear x2
      have H_hz := Lib.hid hz; clear hz; have H_hwx := Lib.hid hwx; clear hwx; have H_hb1 := Lib.hid hb1; clear hb1; have H_hsx := Lib.hid hsx; clear hsx; have H_hg1 := Lib.hid hg1; clear hg1
      go_cut [6, 7, 8] (fun v6 v7 v8 wz => ∃ d, v6 = .pointer (some ⟨d, 0, none⟩) ∧ v7 = .bool is ∧ v8 = .int .i64 r ∧ KQ w0 wx wz b K' M' (fun k => S k ∨ k = b1 ∨ k = b1 + 1) d (b1 + 1) (doneC d1 d2 d3) (doneC 0 0 0))
      case first =>
        go_region_held3 (fun w' => b1 < w'.heap.size ∧ w'.cell? ⟨b1, 2, none⟩ = some (.int .i64 c))
          ((go_split_ands; (try dsimp only); go_simp))
          (first | (go_at_call 69; (with_reducible refine (kz_left (H_hz.out.grows (by (repeat' (first | (with_reducible exact Vg.Grows.refl _) | (with_reducible assumption) | (with_reducible refine Vg.Grows.alloc ?_ _) | (with_reducible refine Vg.Grows.plus ?_ _ _) | (with_reducible refine Vg.Grows.drewN ?_ _) | (with_reducible refine Vg.Grows.drew ?_) | (with_reducible refine Vg.Grows.setCell ?_ ?_ _) | (with_reducible refine Vg.Grows.put ?_ ?_ _) | omega | (simp; omega) | (simp; done))))) H_hI.out H_hlf.out).mono ?_); rintro e w1 ⟨rfl, x1, n1, rfl⟩) | (go_at_call 87; (try simp only [if_neg (Int.not_lt.2 HC.out)]); (try simp only [if_pos HC.out]); (try simp only [if_pos HL.out]); (try simp only [if_neg (Int.not_lt.2 HL.out)]); (with_reducible refine (ky_run H_hz.out (by (repeat' (first | (with_reducible exact Vg.Grows.refl _) | (with_reducible assumption) | (with_reducible refine Vg.Grows.alloc ?_ _) | (with_reducible refine Vg.Grows.plus ?_ _ _) | (with_reducible refine Vg.Grows.drewN ?_ _) | (with_reducible refine Vg.Grows.drew ?_) | (with_reducible refine Vg.Grows.setCell ?_ ?_ _) | (with_reducible refine Vg.Grows.put ?_ ?_ _) | omega | (simp; omega) | (simp; done)))) H_hI.out H_hx.out).mono ?_); rintro e w3 ⟨rfl, hy⟩; have z1 := hy.kp.blk H_x1.out (.inr (.inl rfl)); have z2 := hy.kp.blk H_x2.out (.inr (.inr rfl)); have c_z1 := Vg.cells_of z1; have f_z1 := Vg.frozen_of z1; have p_z1 := Vg.setCell_of z1; have l_z1 := Vg.lt_of z1; have H_z1 := Lib.hid z1; clear z1; have c_z2 := Vg.cells_of z2; have f_z2 := Vg.frozen_of z2; have p_z2 := Vg.setCell_of z2; have l_z2 := Vg.lt_of z2; have H_z2 := Lib.hid z2; clear z2; (first | (have zq := hy.mid; have c_zq := Vg.cells_of zq; have f_zq := Vg.frozen_of zq; have p_zq := Vg.setCell_of zq; have l_zq := Vg.lt_of zq; have H_zq := Lib.hid zq; clear zq) | (have zq := hy.pre; have c_zq := Vg.cells_of zq; have f_zq := Vg.frozen_of zq; have p_zq := Vg.setCell_of zq; have l_zq := Vg.lt_of zq; have H_zq := Lib.hid zq; clear zq) | skip); have H_hy := Lib.hid hy; clear hy))
        all_goals go_wp2_with fail
        all_goals go_meet
        all_goals first
          | exact ⟨_, rfl, rfl, rfl, H_hy.out.leaf1 H_z2.out⟩
          | exact ⟨_, rfl, rfl, rfl, H_hy.out.mid2 (by have := H_hg1.out.size; omega) H_hz.out.lt (by have := H_hsx.out; omega) H_z2.out⟩
          | exact ⟨_, rfl, rfl, rfl, H_hy.out.pre2 (by have := H_hg1.out.size; omega) H_hz.out.lt (by have := H_hsx.out; omega) H_z2.out⟩
      case rest =>
        obtain ⟨d, rfl, rfl, rfl, hkq⟩ := hcut
        have e1 := H_hb1.out
        have z1 := hkq.od
        have z2 := hkq.o2
        have hne := hkq.ne
        have hne' := Ne.symm hkq.ne
        clear c_x1 f_x1 p_x1 c_x2 f_x2 p_x2
        have c_z1 := Vg.cells_of z1; have f_z1 := Vg.frozen_of z1; have p_z1 := Vg.setCell_of z1; have l_z1 := Vg.lt_of z1; have H_z1 := Lib.hid z1; clear z1; have c_z2 := Vg.cells_of z2; have f_z2 := Vg.frozen_of z2; have p_z2 := Vg.setCell_of z2; have l_z2 := Vg.lt_of z2; have H_z2 := Lib.hid z2; clear z2
        have H_hkq := Lib.hid hkq; clear hkq
        go_wp2_with fail
        refine bodyPost_ret (by simp [results, Try.results80, go_sem, c_z2, l_z2] <;> try rfl) rfl ?_
        exact ⟨rfl, kz_fin H_hS.out H_hg1.out (fun k hk => .inl hk) H_hkq.out.kz (Vg.Kept.mono' H_hkq.out.kp fun k hk => .inl hk) h0w ((Vg.Touch.refl _ _).put ⟨.inr (.inr rfl), by omega⟩ _)⟩
end
end Go.Proofs.Ytiinhofmhoplfaa
