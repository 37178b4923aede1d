/- clock.Step. -/
import Derived.Test.YtfkkkcihoejjgaaParts
import Derived.Test.YtfkkkcihoejjgaaObj
set_option linter.unusedSimpArgs false
set_option linter.unusedVariables false
set_option maxHeartbeats 2000000
set_option maxRecDepth 100000
namespace Vg
open Go Go.RowKit
structure Ck where
  c : Int
  n : Int
  a : Bool
  l : Bool
  t : Int
def ckRound (k : Ck) (x : Int) : Ck :=
  if (ckNow (advance ⟨k.c, k.n, k.a, k.l⟩ x).1.count k.t).2 = 0 then ⟨(advance ⟨k.c, k.n, k.a, k.l⟩ x).1.count, (advance ⟨k.c, k.n, k.a, k.l⟩ x).1.compare, (advance ⟨k.c, k.n, k.a, k.l⟩ x).1.armed, (advance ⟨k.c, k.n, k.a, k.l⟩ x).1.latch, (ckNow (advance ⟨k.c, k.n, k.a, k.l⟩ x).1.count k.t).1⟩ else ⟨0, 0, false, false, 0⟩
def ckGo (k : Ck) : List Part → Ck
  | [] => k
  | x :: l => ckGo (ckRound k x.1) l
theorem ckGo_snoc : ∀ (l : List Part) (k : Ck) (x : Part), ckGo k (l ++ [x]) = ckRound (ckGo k l) x.1
  | [], k, x => rfl
  | y :: l, k, x => ckGo_snoc l (ckRound k y.1) x
theorem adv_count {h : Hw} {x : Int} (hc : 0 ≤ h.count ∧ h.count ≤ 4294967295) : 0 ≤ (advance h x).1.count ∧ (advance h x).1.count ≤ 4294967295 := by
  unfold advance
  split
  · exact hc
  · split
    · show 0 ≤ (h.count + x) % 4294967296 ∧ (h.count + x) % 4294967296 ≤ 4294967295; omega
    · show 0 ≤ (h.count + x) % 4294967296 ∧ (h.count + x) % 4294967296 ≤ 4294967295; omega
theorem ckRound_bd {k : Ck} {x : Int} (h : 0 ≤ k.c ∧ k.c ≤ 4294967295) : 0 ≤ (ckRound k x).c ∧ (ckRound k x).c ≤ 4294967295 := by
  unfold ckRound
  split
  · exact adv_count h
  · show (0 : Int) ≤ 0 ∧ (0 : Int) ≤ 4294967295; omega
theorem ckGo_bd : ∀ {l : List Part} {k : Ck}, 0 ≤ k.c ∧ k.c ≤ 4294967295 → 0 ≤ (ckGo k l).c ∧ (ckGo k l).c ≤ 4294967295
  | [], k, h => h
  | x :: l, k, h => ckGo_bd (l := l) (ckRound_bd h)
def ckOf (h : Hw) (t : Int) : Ck := ⟨h.count, h.compare, h.armed, h.latch, t⟩
theorem ckNow_add {c t k : Int} (ht : 0 ≤ t) (hk : 0 ≤ k ∧ k ≤ 1073741824) (hm : t + k ≤ 4503599627370496) (hc : c = (low t + k) % 4294967296) : ckNow c t = (t + k, 0) := by
  have e : extend t c = (t + k, 0) := by
    have a : timeB t = true := timeB_true.2 ⟨by omega, by omega⟩
    have b : timeB (t + k) = true := timeB_true.2 ⟨by omega, by omega⟩
    have e1 : t + (c - low t) % 4294967296 = t + k := by unfold low at hc ⊢; omega
    unfold extend
    rw [a, e1, b]
    rfl
  unfold ckNow
  rw [e, if_neg (by simp; omega)]
theorem ckRound_go (h : Hw) {t k : Int} (ht : 0 ≤ t) (hk : 0 ≤ k ∧ k ≤ 1073741824) (hm : t + k ≤ 4503599627370496) (hc : h.count = low t) : ckRound (ckOf h t) k = ckOf (go h k) (t + k) := by
  have e := ckNow_add (c := (h.count + k) % 4294967296) ht hk hm (by rw [hc])
  have ha := advance_ok h k hk.1 (by omega)
  show (if (ckNow (advance h k).1.count t).2 = 0 then (⟨(advance h k).1.count, (advance h k).1.compare, (advance h k).1.armed, (advance h k).1.latch, (ckNow (advance h k).1.count t).1⟩ : Ck) else ⟨0, 0, false, false, 0⟩) = _
  rw [ha]
  show (if (ckNow ((h.count + k) % 4294967296) t).2 = 0 then (⟨(go h k).count, (go h k).compare, (go h k).armed, (go h k).latch, (ckNow ((h.count + k) % 4294967296) t).1⟩ : Ck) else ⟨0, 0, false, false, 0⟩) = _
  rw [e, if_pos rfl]
  rfl
theorem psum_nn : ∀ l : List Part, 0 ≤ psum l
  | [] => by unfold psum; omega
  | x :: l => by have := psum_nn l; have := x.2; unfold psum; omega
theorem ckGo_go : ∀ (l : List Part) (h : Hw) {t : Int}, 0 ≤ t → t + psum l ≤ 4503599627370496 → h.count = low t → (0 ≤ h.count ∧ h.count ≤ 4294967295) → ckGo (ckOf h t) l = ckOf (go h (psum l)) (t + psum l)
  | [], h, t, ht, hm, hc, hb => by
    simp only [ckGo, psum]
    rw [go_zero h hb.1 hb.2, Int.add_zero]
  | x :: l, h, t, ht, hm, hc, hb => by
    have hl := psum_nn l
    have hx := x.2
    simp only [psum] at hm
    show ckGo (ckRound (ckOf h t) x.1) l = _
    rw [ckRound_go h ht ⟨by omega, by omega⟩ (by omega) hc, ckGo_go l (go h x.1) (by omega) (by omega) ?_ (go_count_bd h x.1), go_go h x.1 (psum l) (by omega) hl]
    · simp only [psum]; rw [Int.add_assoc]
    · simp only [go_def]; rw [hc]; unfold low; omega
theorem below_put {n b : Nat} {W : World} (o : Obj) (x : Array Obj) (m : Nat) (hb : n ≤ b) (hn : n ≤ W.heap.size) : Below n W (plus (put W b o) x m) :=
  ⟨rfl, rfl, rfl, by rw [plus_size, put_size]; omega, fun k hk => by
    rw [plus_heap (by rw [put_size]; omega), put_heap_other (by omega)]⟩
theorem below_put0 {n b : Nat} {W : World} (o : Obj) (hb : n ≤ b) (hn : n ≤ W.heap.size) : Below n W (put W b o) :=
  ⟨rfl, rfl, rfl, by rw [put_size]; omega, fun k hk => by rw [put_heap_other (by omega)]⟩
theorem keeps_put {b : Nat} {W : World} {o o' : Obj} (x : Array Obj) (m : Nat) (h : blk W b = some o) (hc : o.isCells = true) : KeepsOthers W (plus (put W b o') x m) :=
  ⟨by rw [plus_size, put_size]; omega, fun k u hk hu => by
    have hl : k < W.heap.size := (Array.getElem?_eq_some_iff.1 hk).1
    have hne : b ≠ k := fun e => by
      subst e
      have : some o = some u := h.symm.trans hk
      cases this
      rw [hc] at hu; cases hu
    rw [plus_heap (by rw [put_size]; exact hl), put_heap_other hne, hk]⟩
theorem blk_own {β : Type} {B b : Nat} {f : β → Obj} (hf : ∀ s, (f s).isCells = true) : OwnFrom B (fun (s : β) W => blk W b = some (f s)) := fun s A C row hs hg hr => by
  have hl := lt_of hs
  refine (hg.block b hl (fun e => ?_)).trans hs
  obtain ⟨_, o, ho, hcc⟩ := hr b e.symm
  have : some (f s) = some o := hs.symm.trans ho
  cases this
  rw [hf s] at hcc; cases hcc
end Vg
namespace Go.Proofs.Ytfkkkcihoejjgaa
open Go.ChangeShapes Go.WideShapes Go.ChangeAt Go.RowKit Go.Shelf
attribute [local go_sem] Oper.semAt_some
abbrev ckO (k : Vg.Ck) : Obj := .cells #[.int .u32 k.c, .int .u32 k.n, .bool k.a, .bool k.l, .int .i64 k.t] 29
theorem step_in (c n : Int) (ar la : Bool) (last m t : Int) (w : World) (hc : 0 ≤ c ∧ c ≤ 4294967295) (hx : Vg.ckNow c last = (t, 0)) (h0 : 0 ≤ m) (h1 : m ≤ 4503599627370496 - t) (ht : 0 ≤ t ∧ t ≤ 4503599627370496) :
    CallsIn Fence.wide 3 Try.prog 18 #[ckV c n ar la last, .int .i64 m] w fun e w' => ∃ xs : List Vg.Part, Vg.psum xs = m ∧ e = .returned (.tuple #[ckV (Vg.ckGo ⟨c, n, ar, la, t⟩ xs).c (Vg.ckGo ⟨c, n, ar, la, t⟩ xs).n (Vg.ckGo ⟨c, n, ar, la, t⟩ xs).a (Vg.ckGo ⟨c, n, ar, la, t⟩ xs).l (Vg.ckGo ⟨c, n, ar, la, t⟩ xs).t, .int .i64 0]) ∧ Vg.Grows w w' := by
  have HX := Lib.hid hx
  clear hx
  have hro : Fence.wide.round = none := rfl
  refine callsIn_of_wp_marks Try.func18 rfl trivial ?_ rfl
  simp only [Try.ntmps18, List.size_toArray, List.length_cons, List.length_nil, Nat.reduceAdd, Nat.reduceSub, Array.replicate_succ, Array.replicate_zero, List.push_toArray, List.append_toArray, List.nil_append, List.cons_append]
  gi_wp2_with (first | (refine ⟨trivial, ?_⟩; gi_at_call 19; refine (callsIn_wide.2 (clock_now c n ar la last _ hc)).mono ?_; rintro e w1 ⟨rfl, x1, n1, rfl⟩; rw [HX.out]) | (refine ⟨trivial, ?_⟩; gi_at_call 41; refine (callsIn_wide.2 (clock_parts m _)).mono ?_; rintro e w1 ⟨rfl, rfl⟩))
  obtain ⟨bc, hbc⟩ : ∃ b, w.heap.size = b := ⟨_, rfl⟩
  obtain ⟨br, hbr⟩ : ∃ b, w.heap.size + 1 = b := ⟨_, rfl⟩
  obtain ⟨bm, hbm⟩ : ∃ b, w.heap.size + 1 + 1 + Vg.sz x1 = b := ⟨_, rfl⟩
  obtain ⟨W0, hW0⟩ : ∃ W0, (Vg.plus ((w.alloc (.cells #[.int .u32 c, .int .u32 n, .bool ar, .bool la, .int .i64 t] 29)).alloc (.cells #[.int .u32 0, .int .u32 0, .bool false, .bool false, .int .i64 0] 29)) x1 n1).alloc (.cells #[.int .i64 m] 2) = W0 := ⟨_, rfl⟩
  have b1 : Vg.blk W0 bc = some (ckO ⟨c, n, ar, la, t⟩) := by rw [← hW0, ← hbc]; simp [go_sem]
  have b2 : Vg.blk W0 br = some (ckO ⟨0, 0, false, false, 0⟩) := by rw [← hW0, ← hbr]; simp [go_sem]
  have b3 : Vg.blk W0 bm = some (.cells #[.int .i64 m] 2) := by rw [← hW0, ← hbm]; simp [go_sem]
  have hgr : Vg.Grows w W0 := by rw [← hW0]; (repeat' (first | (with_reducible exact Vg.Grows.refl _) | (with_reducible assumption) | (with_reducible refine Vg.Grows.alloc ?_ _) | (with_reducible refine Vg.Grows.plus ?_ _ _) | (with_reducible refine Vg.Grows.drewN ?_ _) | (with_reducible refine Vg.Grows.drew ?_) | (with_reducible refine Vg.Grows.setCell ?_ ?_ _) | (with_reducible refine Vg.Grows.put ?_ ?_ _) | omega | (simp; omega) | (simp; done)))
  have hB0 := hgr.below
  have n1' : w.heap.size ≤ bc ∧ w.heap.size ≤ br := by omega
  have n2' : bc ≠ br := by omega
  have n3' : br ≠ bc := by omega
  rw [hW0, hbm, hbr, hbc]
  have cm := Vg.cells_of b3 0
  have lm := Vg.lt_of b3
  have HB0 := Lib.hid hB0
  have H_hbc := Lib.hid hbc; clear hbc; have H_hbr := Lib.hid hbr; clear hbr; have H_hbm := Lib.hid hbm; clear hbm; have H_hW0 := Lib.hid hW0; clear hW0; have H_b1 := Lib.hid b1; clear b1; have H_b2 := Lib.hid b2; clear b2; have H_b3 := Lib.hid b3; clear b3
  clear hB0
  refine wpIn_rangeFunc_ownF hro (by omega) (gf := 51) (lb := #[.pointer (some ⟨bm, 0, none⟩)]) rfl trivial (enters_of Try.func51 (by kernel_rfl) rfl)
    (parts_stops w.heap.size (3 - 1) (by omega) bm m h0 (by omega) W0 lm (by simpa using cm)) belowK_t (belowK_b hgr.size) (Below.refl _ _) (fun _ => rfl)
    (fun pre W => (Vg.blk W bc = some (ckO (Vg.ckGo ⟨c, n, ar, la, t⟩ pre)) ∧ Vg.blk W br = some (ckO ⟨0, 0, false, false, 0⟩)) ∧ Below w.heap.size w W)
    (fun _ _ _ => False)
    (OwnFrom.and (OwnFrom.and (Vg.blk_own (fun _ => rfl)) (Vg.blk_own (f := fun _ => ckO ⟨0, 0, false, false, 0⟩) (fun _ => rfl))) (ownFrom_below (Nat.le_refl _) hgr.size))
    (fun _ _ _ _ _ hs _ _ => hs)
    ⟨⟨H_b1.out, H_b2.out⟩, HB0.out⟩
    (fun x => { tmps := #[ckV c n ar la last, .int .i64 m, .pointer (some ⟨bc, 0, none⟩), undef, .pointer (some ⟨br, 0, none⟩), .int .i64 0, .int .i64 t, .int .i64 0, .int .u32 x.1, .tuple #[.int .i64 t, .int .i64 0], .agg #[.int .u32 c, .int .u32 n, .bool ar, .bool la, .int .i64 last], .tuple #[.int .i64 t, .int .i64 0], .int .i64 t, .int .i64 0, .bool false, .int .i64 0, .bool false, undef, undef, .bool (decide (m < 0)), .int .i64 m, .bool (decide (m < 0)), undef, .bool (decide (4503599627370496 - t < m)), .int .i64 m, .int .i64 t, .int .i64 (4503599627370496 - t), .bool (decide (4503599627370496 - t < m)), undef, .int .i64 t, .pointer (some ⟨bc, 4, none⟩), .int .i64 m, .func (.func 51) #[] #[.pointer (some ⟨bm, 0, none⟩)], .int .u32 x.1, undef, undef, undef, undef, undef, undef, undef, undef, undef, undef, undef, undef, undef, undef, undef], defers := [] }) ?assign ?body ?done ?stop
  case assign =>
    intro l x W K hK
    gi_wp2
    exact hK
  case body =>
    rintro l pre x W ⟨⟨d1, d2⟩, hB⟩ _
    have hkb := Vg.ckGo_bd (l := pre) (k := ⟨c, n, ar, la, t⟩) hc
    have hsn := Vg.ckGo_snoc pre ⟨c, n, ar, la, t⟩ x
    generalize Vg.ckGo ⟨c, n, ar, la, t⟩ pre = k at d1 hkb hsn
    obtain ⟨kc, kn, ka, kl, kt⟩ := k
    obtain ⟨⟨⟨c1, m1, a1, l1⟩, no⟩, hadv⟩ : ∃ p, Vg.advance ⟨kc, kn, ka, kl⟩ x.1 = p := ⟨_, rfl⟩
    have hcb := Vg.adv_count (h := ⟨kc, kn, ka, kl⟩) (x := x.1) hkb
    unfold Vg.ckRound at hsn
    rw [hadv] at hcb hsn
    simp only [] at hcb hsn
    have hB1 := hB
    have hsz := hB.size
    by_cases hrd : (Vg.ckNow c1 kt).2 = 0
    · rw [if_pos hrd] at hsn
      have hre : (if (Vg.ckNow c1 kt).2 = 0 then Value.tuple #[ckV c1 m1 a1 l1 (Vg.ckNow c1 kt).1, .int .i64 (Vg.ckNow c1 kt).1, .int .i64 0] else .tuple #[ckV 0 0 false false 0, .int .i64 0, .int .i64 2]) = .tuple #[ckV c1 m1 a1 l1 (Vg.ckNow c1 kt).1, .int .i64 (Vg.ckNow c1 kt).1, .int .i64 0] := if_pos hrd
      have c_d1 := Vg.cells_of d1; have f_d1 := Vg.frozen_of d1; have p_d1 := Vg.setCell_of d1; have l_d1 := Vg.lt_of d1; have H_d1 := Lib.hid d1; clear d1; have c_d2 := Vg.cells_of d2; have f_d2 := Vg.frozen_of d2; have p_d2 := Vg.setCell_of d2; have l_d2 := Vg.lt_of d2; have H_d2 := Lib.hid d2; clear d2
      have H_hadv := Lib.hid hadv; clear hadv; have H_hsn := Lib.hid hsn; clear hsn; have H_hre := Lib.hid hre; clear hre; have H_hB1 := Lib.hid hB1; clear hB1
      clear hB hrd
      gi_wp2_with (first | (refine ⟨trivial, ?_⟩; gi_at_call 42; refine (CallsIn.inRound l (callsIn_wide.2 (hw_advance kc kn ka kl x.1 _))).mono ?_; rintro e w1 ⟨rfl, xa, na, rfl⟩; rw [H_hadv.out]) | (refine ⟨trivial, ?_⟩; gi_at_call 21; refine (CallsIn.inRound l (callsIn_wide.2 (clock_read c1 m1 a1 l1 kt _ hcb))).mono ?_; rintro e w1 ⟨rfl, xb, nb, rfl⟩; rw [H_hre.out]))
      refine ⟨Vg.keeps_put _ _ H_d1.out rfl, Vg.below_put _ _ _ n1'.1 hsz, ⟨?_, ?_⟩, H_hB1.out.trans (Vg.below_put _ _ _ n1'.1 hsz)⟩
      · rw [H_hsn.out]; go_simp
      · go_simp; exact H_d2.out
    · rw [if_neg hrd] at hsn
      have hre : (if (Vg.ckNow c1 kt).2 = 0 then Value.tuple #[ckV c1 m1 a1 l1 (Vg.ckNow c1 kt).1, .int .i64 (Vg.ckNow c1 kt).1, .int .i64 0] else .tuple #[ckV 0 0 false false 0, .int .i64 0, .int .i64 2]) = .tuple #[ckV 0 0 false false 0, .int .i64 0, .int .i64 2] := if_neg hrd
      have c_d1 := Vg.cells_of d1; have f_d1 := Vg.frozen_of d1; have p_d1 := Vg.setCell_of d1; have l_d1 := Vg.lt_of d1; have H_d1 := Lib.hid d1; clear d1; have c_d2 := Vg.cells_of d2; have f_d2 := Vg.frozen_of d2; have p_d2 := Vg.setCell_of d2; have l_d2 := Vg.lt_of d2; have H_d2 := Lib.hid d2; clear d2
      have H_hadv := Lib.hid hadv; clear hadv; have H_hsn := Lib.hid hsn; clear hsn; have H_hre := Lib.hid hre; clear hre; have H_hB1 := Lib.hid hB1; clear hB1
      clear hB hrd
      gi_wp2_with (first | (refine ⟨trivial, ?_⟩; gi_at_call 42; refine (CallsIn.inRound l (callsIn_wide.2 (hw_advance kc kn ka kl x.1 _))).mono ?_; rintro e w1 ⟨rfl, xa, na, rfl⟩; rw [H_hadv.out]) | (refine ⟨trivial, ?_⟩; gi_at_call 21; refine (CallsIn.inRound l (callsIn_wide.2 (clock_read c1 m1 a1 l1 kt _ hcb))).mono ?_; rintro e w1 ⟨rfl, xb, nb, rfl⟩; rw [H_hre.out]))
      refine ⟨Vg.keeps_put _ _ H_d1.out rfl, Vg.below_put _ _ _ n1'.1 hsz, ⟨?_, ?_⟩, H_hB1.out.trans (Vg.below_put _ _ _ n1'.1 hsz)⟩
      · rw [H_hsn.out]; go_simp
      · go_simp; exact H_d2.out
  case done =>
    rintro D ys W hD hys ⟨⟨d1, d2⟩, hB⟩ hK
    have hsz := hB.size
    have hbrD : br ≠ D := fun e => by
      subst e
      have : some _ = some _ := d2.symm.trans hK
      cases this
    have HYS := Lib.hid hys
    clear hys
    generalize hk : Vg.ckGo ⟨c, n, ar, la, t⟩ ys = k at d1
    have HK := Lib.hid hk
    clear hk
    obtain ⟨kc, kn, ka, kl, kt⟩ := k
    have HKK := Lib.hid hK
    have hB1 := hB
    clear hK hB
    have c_d1 := Vg.cells_of d1; have f_d1 := Vg.frozen_of d1; have p_d1 := Vg.setCell_of d1; have l_d1 := Vg.lt_of d1; have H_d1 := Lib.hid d1; clear d1; have c_d2 := Vg.cells_of d2; have f_d2 := Vg.frozen_of d2; have p_d2 := Vg.setCell_of d2; have l_d2 := Vg.lt_of d2; have H_d2 := Lib.hid d2; clear d2
    have H_hB1 := Lib.hid hB1; clear hB1
    gi_wp2
    have hK' : (Vg.put W br (ckO ⟨kc, kn, ka, kl, kt⟩)).heap[D]? = some (.deferred (some [])) := (Vg.put_heap_other hbrD).trans HKK.out
    refine ⟨by simp, .inl ⟨_, _, rfl, run_takeDeferred hK', ?_⟩⟩
    have hputb : Vg.blk (Vg.put W br (ckO ⟨kc, kn, ka, kl, kt⟩)) br = some (ckO ⟨kc, kn, ka, kl, kt⟩) := Vg.blk_put_same (Vg.lt_of H_d2.out)
    have hD' : w.heap.size ≤ D := by have := hgr.size; omega
    have hfin : Vg.blk ((Vg.put W br (ckO ⟨kc, kn, ka, kl, kt⟩)).putObj D (.deferred none)) br = some (ckO ⟨kc, kn, ka, kl, kt⟩) := OwnFrom.putObj (Vg.blk_own (β := Unit) (f := fun _ => ckO ⟨kc, kn, ka, kl, kt⟩) (fun _ => rfl)) (.deferred none) (s := ()) hputb hD' hK' rfl
    refine ⟨.tuple #[ckV kc kn ka kl kt, .int .i64 0], ?_, ys, HYS.out, by rw [HK.out], ?_⟩
    · obtain ⟨WW, hWW⟩ : ∃ WW, (Vg.put W br (ckO ⟨kc, kn, ka, kl, kt⟩)).putObj D (.deferred none) = WW := ⟨_, rfl⟩
      rw [hWW] at hfin
      simp only [hWW]
      have h0' := Vg.cells_of hfin 0
      have h1' := Vg.cells_of hfin 1
      have h2' := Vg.cells_of hfin 2
      have h3' := Vg.cells_of hfin 3
      have h4' := Vg.cells_of hfin 4
      simp at h0' h1' h2' h3' h4'
      simp [results, Try.f18, go_sem, h0', h1', h2', h3', h4']
    · refine Vg.Grows.of_below (H_hB1.out.trans ((Vg.below_put0 _ n1'.2 hsz).trans (belowK_b (w := w) (Nat.le_refl _) _ D _ _ hD' hK' rfl rfl)))
  case stop =>
    rintro D cc pre W _ _ h _
    exact h.elim
end Go.Proofs.Ytfkkkcihoejjgaa
