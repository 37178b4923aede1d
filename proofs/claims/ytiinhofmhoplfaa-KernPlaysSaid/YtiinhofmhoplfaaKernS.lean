/- Package kern: Run. -/
import Derived.Test.YtiinhofmhoplfaaKernR
set_option linter.unusedSimpArgs false
set_option linter.unusedVariables false
set_option maxHeartbeats 16000000
set_option maxRecDepth 100000
namespace Vg
open Go
theorem set3 {w : World} {rb : Nat} {ty : TypeId} {x y z : Value} (h : blk w rb = some (.cells #[x, y, z] ty)) (a b c : Value) : ((w.setCell ⟨rb, 0, none⟩ a).setCell ⟨rb, 1, none⟩ b).setCell ⟨rb, 2, none⟩ c = put w rb (.cells #[a, b, c] ty) := by
  rw [setCell_of h, setCell_of (put_heap_same (lt_of h)), setCell_of (put_heap_same (by rw [put_size]; exact lt_of h))]
  simp [put]
end Vg
namespace Go.Proofs.Ytiinhofmhoplfaa
open Go.ChangeShapes Go.WideShapes Go.ChangeAt Go.RowKit
abbrev doneC (a b c : Int) : Obj := .cells #[.int .i64 a, .int .i64 b, .int .i64 c] 124
section
variable {w w' : World} {b cb n : Nat} {xs : List Vg.Kp} {rv cv : Value} {M M' : List Vg.Mx} {x r d1 d2 d3 : Int} {is : Bool} {K' : List Vg.Kt}
theorem kern_run {k : Nat} (m : Int) (h : KT w b xs rv cb M cv) (hI : Vg.Kn.Inv k (xs.map (·.2))) (hx : Vg.Kn.run (xs.map (·.2)) M m = (K', M', (d1, d2, d3), is, r)) :
    Calls Try.prog 87 #[.pointer (some ⟨b, 0, none⟩), .int .i64 m] w fun e w' => e = .returned (.tuple #[.agg #[.int .i64 d1, .int .i64 d2, .int .i64 d3], .bool is, .int .i64 r]) ∧ KTn w w' b xs rv cb M' cv K' := by
  rcases Vg.Kn.best_cases (M := M) hI with ⟨hb, _⟩ | ⟨i, hi, hb, ha, -, -⟩
  · rw [Vg.Kn.run_none hb] at hx
    simp only [Prod.mk.injEq] at hx
    obtain ⟨rfl, rfl, ⟨rfl, rfl, rfl⟩, rfl, rfl⟩ := hx
    have hm : max (-1 : Int) 0 = 0 := by decide
    have his : decide ((0 : Int) ≤ -1) = false := by decide
    have H_h := Lib.hid h; clear h; have H_hb := Lib.hid hb; clear hb; have H_hI := Lib.hid hI; clear hI
    go_enter Try.func87, Try.ntmps87
    go_wp2_with ((go_at_call 67; refine (kern_pick (H_h.out.grows (by (repeat' (first | (with_reducible exact Vg.Grows.refl _) | (with_reducible assumption) | (with_reducible refine Vg.Grows.alloc ?_ _) | (with_reducible refine Vg.Grows.plus ?_ _ _) | (with_reducible refine Vg.Grows.drewN ?_ _) | (with_reducible refine Vg.Grows.drew ?_) | (with_reducible refine Vg.Grows.setCell ?_ ?_ _) | (with_reducible refine Vg.Grows.put ?_ ?_ _) | omega | (simp; omega) | (simp; done))))) H_hb.out hm his).mono ?_; rintro e w1 ⟨rfl, x1, n1, rfl⟩))
    go_returns
    exact ⟨rfl, KTn.same H_h.out (by (repeat' (first | (with_reducible exact Vg.Grows.refl _) | (with_reducible assumption) | (with_reducible refine Vg.Grows.alloc ?_ _) | (with_reducible refine Vg.Grows.plus ?_ _ _) | (with_reducible refine Vg.Grows.drewN ?_ _) | (with_reducible refine Vg.Grows.drew ?_) | (with_reducible refine Vg.Grows.setCell ?_ ?_ _) | (with_reducible refine Vg.Grows.put ?_ ?_ _) | omega | (simp; omega) | (simp; done))))⟩
  · have hix : i < xs.length := by simpa using hi
    obtain ⟨u, t, j, l, lo, ou, hxi, hg, hki⟩ := kern_at hI hix ha
    rw [Vg.Kn.run_some hb hi hki] at hx
    unfold Vg.Kn.runAt at hx
    simp only [] at hx
    have hj := hg.js j (by simp)
    have ht := hg.t
    have hm : max (i : Int) 0 = i := by omega
    have his : decide ((0 : Int) ≤ i) = true := by simp
    obtain ⟨n, hn⟩ : ∃ n, xs.length = n := ⟨_, rfl⟩
    obtain ⟨a, c, hrv⟩ := h.row.shape
    subst hrv
    rw [hn] at h ⊢
    have hq := h.row
    rw [hn] at hq
    obtain ⟨g, o, rfl, -, hgl, hcc, hcm, hcx⟩ := hq.task hn i hix
    have c10 := hcx 10 (by decide)
    rw [hxi] at c10
    simp only [Vg.kcell] at c10
    have c0 := Vg.cells_of h.tab 0
    simp at c0
    have hbl := h.lt
    have hin : i < n := by omega
    have hown := h.own
    obtain ⟨L, hL⟩ : ∃ L, Vg.Kn.leftJ t j = L := ⟨_, rfl⟩
    have hLb := Vg.Kn.leftJ_pos (t := t) hj
    rw [hL] at hx hLb
    clear hcx
    by_cases hbad : m < 0 ∨ L < m
    · rw [if_pos hbad] at hx
      simp only [Prod.mk.injEq] at hx
      obtain ⟨rfl, rfl, ⟨rfl, rfl, rfl⟩, rfl, rfl⟩ := hx
      have H_h := Lib.hid h; clear h; have H_hb := Lib.hid hb; clear hb; have H_hI := Lib.hid hI; clear hI; have H_hn := Lib.hid hn; clear hn; have H_hxi := Lib.hid hxi; clear hxi; have H_hj := Lib.hid hj; clear hj; have H_ht := Lib.hid ht; clear ht; have H_hq := Lib.hid hq; clear hq; have H_hg := Lib.hid hg; clear hg; have H_hki := Lib.hid hki; clear hki; have H_hL := Lib.hid hL; clear hL; have H_hown := Lib.hid hown; clear hown
      by_cases h0 : m < 0
      · clear hbad
        go_enter Try.func87, Try.ntmps87
        go_wp2_with ((go_at_call 67; refine (kern_pick (H_h.out.grows (by (repeat' (first | (with_reducible exact Vg.Grows.refl _) | (with_reducible assumption) | (with_reducible refine Vg.Grows.alloc ?_ _) | (with_reducible refine Vg.Grows.plus ?_ _ _) | (with_reducible refine Vg.Grows.drewN ?_ _) | (with_reducible refine Vg.Grows.drew ?_) | (with_reducible refine Vg.Grows.setCell ?_ ?_ _) | (with_reducible refine Vg.Grows.put ?_ ?_ _) | omega | (simp; omega) | (simp; done))))) H_hb.out hm his).mono ?_; rintro e w1 ⟨rfl, x1, n1, rfl⟩))
        go_returns
        exact ⟨rfl, KTn.same H_h.out (by (repeat' (first | (with_reducible exact Vg.Grows.refl _) | (with_reducible assumption) | (with_reducible refine Vg.Grows.alloc ?_ _) | (with_reducible refine Vg.Grows.plus ?_ _ _) | (with_reducible refine Vg.Grows.drewN ?_ _) | (with_reducible refine Vg.Grows.drew ?_) | (with_reducible refine Vg.Grows.setCell ?_ ?_ _) | (with_reducible refine Vg.Grows.put ?_ ?_ _) | omega | (simp; omega) | (simp; done))))⟩
      · have h1 : L < m := by omega
        clear hbad
        go_enter Try.func87, Try.ntmps87
        go_wp2_with (first | (go_at_call 67; refine (kern_pick (H_h.out.grows (by (repeat' (first | (with_reducible exact Vg.Grows.refl _) | (with_reducible assumption) | (with_reducible refine Vg.Grows.alloc ?_ _) | (with_reducible refine Vg.Grows.plus ?_ _ _) | (with_reducible refine Vg.Grows.drewN ?_ _) | (with_reducible refine Vg.Grows.drew ?_) | (with_reducible refine Vg.Grows.setCell ?_ ?_ _) | (with_reducible refine Vg.Grows.put ?_ ?_ _) | omega | (simp; omega) | (simp; done))))) H_hb.out hm his).mono ?_; rintro e w1 ⟨rfl, x1, n1, rfl⟩) | (go_at_call 120; refine (task_left hix H_hn.out (H_h.out.grows (by (repeat' (first | (with_reducible exact Vg.Grows.refl _) | (with_reducible assumption) | (with_reducible refine Vg.Grows.alloc ?_ _) | (with_reducible refine Vg.Grows.plus ?_ _ _) | (with_reducible refine Vg.Grows.drewN ?_ _) | (with_reducible refine Vg.Grows.drew ?_) | (with_reducible refine Vg.Grows.setCell ?_ ?_ _) | (with_reducible refine Vg.Grows.put ?_ ?_ _) | omega | (simp; omega) | (simp; done))))) H_hxi.out H_hj.out H_ht.out H_hL.out).mono ?_; rintro e w2 ⟨rfl, x2, n2, rfl⟩))
        go_returns
        exact ⟨rfl, KTn.same H_h.out (by (repeat' (first | (with_reducible exact Vg.Grows.refl _) | (with_reducible assumption) | (with_reducible refine Vg.Grows.alloc ?_ _) | (with_reducible refine Vg.Grows.plus ?_ _ _) | (with_reducible refine Vg.Grows.drewN ?_ _) | (with_reducible refine Vg.Grows.drew ?_) | (with_reducible refine Vg.Grows.setCell ?_ ?_ _) | (with_reducible refine Vg.Grows.put ?_ ?_ _) | omega | (simp; omega) | (simp; done))))⟩
    · rw [if_neg hbad] at hx
      have k1 : ¬ m < 0 := by omega
      have k2 : ¬ L < m := by omega
      clear hbad
      obtain ⟨⟨a1, a2⟩, ⟨a3, a4⟩, a5, a6⟩ := hj
      obtain ⟨jc, ja, jw⟩ := j
      simp only [] at a1 a2 a3 a4 a5 a6 hLb hx
      have hsum : IntKind.i64.wrap (jw + m) = jw + m := by rw [IntWalk.i64_in _ (by omega)]
      obtain ⟨wn, hwn⟩ : ∃ wn, jw + m = wn := ⟨_, rfl⟩
      rw [hwn] at hx hsum
      have hj' : Vg.Jb.ok ⟨jc, ja, jw⟩ := ⟨⟨a1, a2⟩, ⟨a3, a4⟩, a5, a6⟩
      have hno : ¬ kown b xs (.slice (some ⟨g, o, none⟩) n c) cb cv w.heap.size := fun hh => by have := (hown _ hh).2; omega
      have H_h := Lib.hid h; clear h; have H_hb := Lib.hid hb; clear hb; have H_hI := Lib.hid hI; clear hI; have H_hn := Lib.hid hn; clear hn; have H_hxi := Lib.hid hxi; clear hxi; have H_hj' := Lib.hid hj'; clear hj'; have H_ht := Lib.hid ht; clear ht; have H_hq := Lib.hid hq; clear hq; have H_hg := Lib.hid hg; clear hg; have H_hki := Lib.hid hki; clear hki; have H_hL := Lib.hid hL; clear hL; have H_hown := Lib.hid hown; clear hown; have H_hno := Lib.hid hno; clear hno
      go_enter Try.func87, Try.ntmps87
      go_upto_region 6 with (first | (go_at_call 67; refine (kern_pick (H_h.out.grows (by (repeat' (first | (with_reducible exact Vg.Grows.refl _) | (with_reducible assumption) | (with_reducible refine Vg.Grows.alloc ?_ _) | (with_reducible refine Vg.Grows.plus ?_ _ _) | (with_reducible refine Vg.Grows.drewN ?_ _) | (with_reducible refine Vg.Grows.drew ?_) | (with_reducible refine Vg.Grows.setCell ?_ ?_ _) | (with_reducible refine Vg.Grows.put ?_ ?_ _) | omega | (simp; omega) | (simp; done))))) H_hb.out hm his).mono ?_; rintro e W1 ⟨rfl, hg1⟩; have c01 := (hg1.below.cell (p := ⟨b, 0, none⟩) (by simp; omega)).trans (Eq.trans (by simp [go_sem, hbl]) c0); have h1 := H_h.out.grows (((Vg.Grows.refl w).alloc (doneC 0 0 0)).trans hg1); have hbl1 := h1.lt; have HG1 := Lib.hid hg1; clear hg1; have H_h1 := Lib.hid h1; clear h1) | (go_at_call 120; refine (task_left hix H_hn.out H_h1.out H_hxi.out H_hj'.out H_ht.out H_hL.out).mono ?_; rintro e W2 ⟨rfl, hg2⟩; have HG2 := Lib.hid hg2; clear hg2))
      have hG2 := (((Vg.Grows.refl w).alloc (doneC 0 0 0)).trans HG1.out).trans HG2.out
      have z2 : Vg.blk W2 w.heap.size = some (doneC 0 0 0) := (HG1.out.trans HG2.out).blk (Vg.alloc_heap_at rfl)
      have hz2 := Vg.lt_of z2
      have h2 := H_h.out.grows hG2
      have hq2 := H_hq.out.grows hG2
      have hj2 := h2.job i hix
      obtain ⟨p, hp⟩ : ∃ p, l.length = p := ⟨_, rfl⟩
      have d10 := (hG2.below.cell (p := ⟨g, o + i * 13 + 10, none⟩) hgl).trans c10
      have d0 := (hG2.below.cell (p := ⟨b, 0, none⟩) hbl).trans c0
      have hgl2 := Nat.lt_of_lt_of_le hgl hG2.size
      have hbl2 := Nat.lt_of_lt_of_le hbl hG2.size
      have hofi := H_h.out.off i hix
      have hcvl : ∀ k, cv.ownBlock = some k → k < w.heap.size := fun k hk => (H_h.out.ceil.own k hk).2
      rw [H_hxi.out] at hj2
      simp only [List.length_cons, hp] at hj2
      obtain ⟨jg, jo, jcap, rfl, hjB, hjg, hjc1, hjc2, f0, f1, f2⟩ := hj2.job (congrArg (· + 1) hp)
      simp only [] at f0 f1 f2
      have hgne : jg ≠ g := fun hh => hofi jg (by unfold kfp; rw [H_hxi.out]; rfl) (by rw [hh]; rfl)
      have hjw : jg < w.heap.size := H_hown.out jg (.inr (.inr (.inl ⟨i, hix, by unfold kfp; rw [H_hxi.out]; rfl⟩))) |>.2
      have hfj := hj2.frozen
      have q3 := hj2.set (j := 2) (u := .int .i64 wn) (by simp [Vg.jcells])
      rw [show (Vg.jcells (⟨jc, ja, jw⟩ :: l)).set 2 (.int .i64 wn) = Vg.jcells (⟨jc, ja, wn⟩ :: l) from by simp [Vg.jcells]] at q3
      obtain ⟨W3, hW3⟩ : ∃ W3, W2.setCell ⟨jg, jo + 2, none⟩ (.int .i64 wn) = W3 := ⟨_, rfl⟩
      rw [hW3] at q3
      obtain ⟨q3, s3⟩ := q3
      have t3 := Vg.Touch.of_same s3
      have hrow3 := hq2.kept (w' := W3) fun k hk => s3.block k fun hh => hgne (by simp [Value.ownBlock] at hk; omega)
      obtain ⟨K1, K2, K3⟩ := kt_jobs_in (J2 := ⟨jc, ja, wn⟩ :: l) H_hn.out hix h2 H_hxi.out (t3.mono fun k _ hk => by rw [hk]; rfl) hrow3 (by simpa [hp] using q3)
      obtain ⟨xs1, K1, K2, K3, ⟨hi1, hx1⟩, hn1, hm1⟩ : ∃ xs1 : List Vg.Kp, KT W3 b xs1 (.slice (some ⟨g, o, none⟩) n c) cb M cv ∧ (∀ k, kown b xs1 (.slice (some ⟨g, o, none⟩) n c) cb cv k → kown b xs (.slice (some ⟨g, o, none⟩) n c) cb cv k ∨ W2.heap.size ≤ k) ∧ Vg.Touch (kown b xs (.slice (some ⟨g, o, none⟩) n c) cb cv) W2 W3 ∧
          (∃ hi1 : i < xs1.length, xs1[i] = (.slice (some ⟨jg, jo, none⟩) (p + 1) jcap, ⟨t, ⟨jc, ja, wn⟩ :: l, lo, ou⟩)) ∧ xs1.length = n ∧ xs1.map (·.2) = (xs.map (·.2)).set i ⟨t, ⟨jc, ja, wn⟩ :: l, lo, ou⟩ :=
        ⟨_, K1, K2, K3, ⟨by rw [List.length_set]; exact hix, List.getElem_set_self _⟩, by rw [List.length_set]; exact H_hn.out, by rw [List.map_set]⟩
      have z3 := t3.bk z2 (by omega)
      obtain ⟨jg', jo', jcap', he, -, hjg3, -, -, e0, e1, e2⟩ := q3.job (congrArg (· + 1) hp)
      simp only [Value.slice.injEq, Option.some.injEq, Addr.mk.injEq, and_true, true_and] at he
      obtain ⟨⟨rfl, rfl⟩, rfl⟩ := he
      simp only [] at e0 e1 e2
      have hno1 : ¬ kown b xs1 (.slice (some ⟨g, o, none⟩) n c) cb cv w.heap.size := fun hh => by
        rcases K2 _ hh with h | h
        · exact H_hno.out h
        · omega
      have hz3 := Vg.lt_of z3
      by_cases hd : wn = jc
      · have hbq : (wn == jc) = true := by simp [hd]
        rw [if_pos hd] at hx
        simp only [Prod.mk.injEq] at hx
        obtain ⟨rfl, rfl, ⟨rfl, rfl, rfl⟩, rfl, rfl⟩ := hx
        clear hd
        have H_h2 := Lib.hid h2; clear h2; have H_hq2 := Lib.hid hq2; clear hq2; have H_hj2 := Lib.hid hj2; clear hj2; have H_hp := Lib.hid hp; clear hp; have H_q3 := Lib.hid q3; clear q3; have H_s3 := Lib.hid s3; clear s3; have H_t3 := Lib.hid t3; clear t3; have H_hrow3 := Lib.hid hrow3; clear hrow3; have H_K1 := Lib.hid K1; clear K1; have H_K2 := Lib.hid K2; clear K2; have H_K3 := Lib.hid K3; clear K3; have H_hx1 := Lib.hid hx1; clear hx1; have H_hn1 := Lib.hid hn1; clear hn1; have H_hm1 := Lib.hid hm1; clear hm1; have H_z2 := Lib.hid z2; clear z2; have H_z3 := Lib.hid z3; clear z3; have H_hno1 := Lib.hid hno1; clear hno1; have H_hofi := Lib.hid hofi; clear hofi; have H_hcvl := Lib.hid hcvl; clear hcvl
        go_upto_region 9 with (fail)
        (try rw [hW3])
        go_quiet (fail)
        go_wp2_with (fail)
        refine (kern_lock wn true (H_K1.out.grows (w' := W3.drewN nq) (by (repeat' (first | (with_reducible exact Vg.Grows.refl _) | (with_reducible assumption) | (with_reducible refine Vg.Grows.alloc ?_ _) | (with_reducible refine Vg.Grows.plus ?_ _ _) | (with_reducible refine Vg.Grows.drewN ?_ _) | (with_reducible refine Vg.Grows.drew ?_) | (with_reducible refine Vg.Grows.setCell ?_ ?_ _) | (with_reducible refine Vg.Grows.put ?_ ?_ _) | omega | (simp; omega) | (simp; done))))) hi1 H_hx1.out rfl).mono ?_
        rintro e W4 ⟨rfl, h4, t4⟩
        have z4 := t4.bk (k := w.heap.size) H_z3.out (fun hh => Nat.lt_irrefl _ (H_hcvl.out _ hh))
        have hz4 := Vg.lt_of z4
        have hq4 := h4.row
        have hj4 := h4.job i hi1
        rw [H_hn1.out] at hq4
        rw [H_hx1.out] at hj4
        simp only [List.length_cons, H_hp.out] at hj4
        obtain ⟨jg', jo', jcap', he, -, hjg4, -, -, e0, e1, e2⟩ := hj4.job (congrArg (· + 1) H_hp.out)
        simp only [Value.slice.injEq, Option.some.injEq, Addr.mk.injEq, and_true, true_and] at he
        obtain ⟨⟨rfl, rfl⟩, rfl⟩ := he
        obtain ⟨g', o', he, -, hg4, -, -, hcx⟩ := hq4.task H_hn1.out i hi1
        simp only [Option.some.injEq, Addr.mk.injEq, and_true] at he
        obtain ⟨rfl, rfl⟩ := he
        have m10 := hcx 10 (by decide)
        rw [H_hx1.out] at m10
        simp only [Vg.kcell] at m10 e0 e1 e2
        have hfq := hq4.frozen
        clear hcx
        have f5 : ∀ (v : Value), Vg.blk (W4.setCell ⟨g, o + i * 13 + 10, none⟩ v) w.heap.size = some (doneC 0 0 0) := fun v => (Vg.setCell_heap_other (by omega)).trans z4
        have hT4 : Vg.Touch (kown b xs (.slice (some ⟨g, o, none⟩) n c) cb cv) W2 W4 := H_K3.out.trans ((Vg.Touch.of_grows (w' := W3.drewN nq) (by (repeat' (first | (with_reducible exact Vg.Grows.refl _) | (with_reducible assumption) | (with_reducible refine Vg.Grows.alloc ?_ _) | (with_reducible refine Vg.Grows.plus ?_ _ _) | (with_reducible refine Vg.Grows.drewN ?_ _) | (with_reducible refine Vg.Grows.drew ?_) | (with_reducible refine Vg.Grows.setCell ?_ ?_ _) | (with_reducible refine Vg.Grows.put ?_ ?_ _) | omega | (simp; omega) | (simp; done))))).trans (t4.mono fun k _ hk => .inr (.inr (.inr (.inr hk)))))
        have hend : ∀ (v : Value) (Jn : List Vg.Jb) (oo : Obj), KTn W4 (W4.setCell ⟨g, o + i * 13 + 10, none⟩ v) b xs1 (.slice (some ⟨g, o, none⟩) n c) cb (Vg.Kn.lockd M t i wn true) cv ((xs1.map (·.2)).set i ⟨t, Jn, lo, ou⟩) → KTn w (Vg.put (W4.setCell ⟨g, o + i * 13 + 10, none⟩ v) w.heap.size oo) b xs (.slice (some ⟨g, o, none⟩) n c) cb (Vg.Kn.lockd M t i wn true) cv ((xs.map (·.2)).set i ⟨t, Jn, lo, ou⟩) := fun v Jn oo hk => by
          have k6 := KTn.next H_K2.out hT4 hk
          rw [H_hm1.out, List.set_set] at k6
          exact KTn.put H_h2.out k6 hG2 (Nat.le_refl _) hz2 H_hno.out
        have H_h4 := Lib.hid h4; clear h4; have H_t4 := Lib.hid t4; clear t4; have H_hq4 := Lib.hid hq4; clear hq4; have H_hj4 := Lib.hid hj4; clear hj4; have H_z4 := Lib.hid z4; clear z4; have H_f5 := Lib.hid f5; clear f5; have H_hT4 := Lib.hid hT4; clear hT4; have H_hend := Lib.hid hend; clear hend
        have z4 := H_z4.out
        have c_z4 := Vg.cells_of z4; have f_z4 := Vg.frozen_of z4; have p_z4 := Vg.setCell_of z4; have l_z4 := Vg.lt_of z4; have H_z4 := Lib.hid z4; clear z4
        go_wp2_with fail
        go_region
        all_goals go_wp2_with fail
        · have hq5 := H_hj4.out
          rw [show jcap = 1 from by first | assumption | omega] at hq5
          have hq5 := hq5.tail1
          rw [show (Vg.jcells (⟨jc, ja, wn⟩ :: l)).drop 3 = Vg.jcells l from by simp [Vg.jcells]] at hq5
          have k5 := kt_jobs_end (J2 := l) H_hn1.out hi1 H_h4.out H_hx1.out (Vg.Touch.refl _ _) H_hq4.out (by rw [H_hp.out]; exact hq5) (fun k hk => .inl (by simpa [Value.ownBlock] using hk))
          have k6 := H_hend.out _ _ (doneC i jc ja) k5
          rw [Vg.set3 (H_f5.out _)]
          have z6 : Vg.blk (Vg.put (W4.setCell ⟨g, o + i * 13 + 10, none⟩ (.slice (some ⟨jg, jo, none⟩) p 0)) w.heap.size (doneC i jc ja)) w.heap.size = some (doneC i jc ja) := Vg.put_heap_same (Vg.lt_of (H_f5.out _))
          obtain ⟨W6, hW6⟩ : ∃ W6, Vg.put (W4.setCell ⟨g, o + i * 13 + 10, none⟩ (.slice (some ⟨jg, jo, none⟩) p 0)) w.heap.size (doneC i jc ja) = W6 := ⟨_, rfl⟩
          rw [hW6] at k6 z6 ⊢
          have c_z6 := Vg.cells_of z6; have f_z6 := Vg.frozen_of z6; have p_z6 := Vg.setCell_of z6; have l_z6 := Vg.lt_of z6; have H_z6 := Lib.hid z6; clear z6
          have k7 := k6.grows (w3 := (W6.alloc (doneC i jc ja)).drew) (by (repeat' (first | (with_reducible exact Vg.Grows.refl _) | (with_reducible assumption) | (with_reducible refine Vg.Grows.alloc ?_ _) | (with_reducible refine Vg.Grows.plus ?_ _ _) | (with_reducible refine Vg.Grows.drewN ?_ _) | (with_reducible refine Vg.Grows.drew ?_) | (with_reducible refine Vg.Grows.setCell ?_ ?_ _) | (with_reducible refine Vg.Grows.put ?_ ?_ _) | omega | (simp; omega) | (simp; done))))
          have H_k7 := Lib.hid k7; clear k7
          refine bodyPost_ret (by simp [results, Try.results87, go_sem, c_z6, l_z6] <;> try rfl) rfl ?_
          exact ⟨rfl, H_k7.out⟩
        · have hq5 := H_hj4.out.tail
          rw [show (Vg.jcells (⟨jc, ja, wn⟩ :: l)).drop 3 = Vg.jcells l from by simp [Vg.jcells]] at hq5
          have k5 := kt_jobs_end (J2 := l) H_hn1.out hi1 H_h4.out H_hx1.out (Vg.Touch.refl _ _) H_hq4.out (by rw [H_hp.out]; exact hq5) (fun k hk => .inl (by simpa [Value.ownBlock] using hk))
          have k6 := H_hend.out _ _ (doneC i jc ja) k5
          rw [Vg.set3 (H_f5.out _)]
          have z6 : Vg.blk (Vg.put (W4.setCell ⟨g, o + i * 13 + 10, none⟩ (.slice (some ⟨jg, jo + 3, none⟩) p (jcap - 1))) w.heap.size (doneC i jc ja)) w.heap.size = some (doneC i jc ja) := Vg.put_heap_same (Vg.lt_of (H_f5.out _))
          obtain ⟨W6, hW6⟩ : ∃ W6, Vg.put (W4.setCell ⟨g, o + i * 13 + 10, none⟩ (.slice (some ⟨jg, jo + 3, none⟩) p (jcap - 1))) w.heap.size (doneC i jc ja) = W6 := ⟨_, rfl⟩
          rw [hW6] at k6 z6 ⊢
          have c_z6 := Vg.cells_of z6; have f_z6 := Vg.frozen_of z6; have p_z6 := Vg.setCell_of z6; have l_z6 := Vg.lt_of z6; have H_z6 := Lib.hid z6; clear z6
          have k7 := k6.grows (w3 := (W6.alloc (doneC i jc ja)).drew) (by (repeat' (first | (with_reducible exact Vg.Grows.refl _) | (with_reducible assumption) | (with_reducible refine Vg.Grows.alloc ?_ _) | (with_reducible refine Vg.Grows.plus ?_ _ _) | (with_reducible refine Vg.Grows.drewN ?_ _) | (with_reducible refine Vg.Grows.drew ?_) | (with_reducible refine Vg.Grows.setCell ?_ ?_ _) | (with_reducible refine Vg.Grows.put ?_ ?_ _) | omega | (simp; omega) | (simp; done))))
          have H_k7 := Lib.hid k7; clear k7
          refine bodyPost_ret (by simp [results, Try.results87, go_sem, c_z6, l_z6] <;> try rfl) rfl ?_
          exact ⟨rfl, H_k7.out⟩
      · have hbq : (wn == jc) = false := by simp [hd]
        rw [if_neg hd] at hx
        simp only [Prod.mk.injEq] at hx
        obtain ⟨rfl, rfl, ⟨rfl, rfl, rfl⟩, rfl, rfl⟩ := hx
        clear hd
        have H_h2 := Lib.hid h2; clear h2; have H_hq2 := Lib.hid hq2; clear hq2; have H_hj2 := Lib.hid hj2; clear hj2; have H_hp := Lib.hid hp; clear hp; have H_q3 := Lib.hid q3; clear q3; have H_s3 := Lib.hid s3; clear s3; have H_t3 := Lib.hid t3; clear t3; have H_hrow3 := Lib.hid hrow3; clear hrow3; have H_K1 := Lib.hid K1; clear K1; have H_K2 := Lib.hid K2; clear K2; have H_K3 := Lib.hid K3; clear K3; have H_hx1 := Lib.hid hx1; clear hx1; have H_hn1 := Lib.hid hn1; clear hn1; have H_hm1 := Lib.hid hm1; clear hm1; have H_z2 := Lib.hid z2; clear z2; have H_z3 := Lib.hid z3; clear z3; have H_hno1 := Lib.hid hno1; clear hno1; have H_hofi := Lib.hid hofi; clear hofi; have H_hcvl := Lib.hid hcvl; clear hcvl
        go_upto_region 9 with (fail)
        (try rw [hW3])
        go_quiet (fail)
        go_wp2_with (fail)
        refine (kern_lock wn false (H_K1.out.grows (w' := W3.drewN nq) (by (repeat' (first | (with_reducible exact Vg.Grows.refl _) | (with_reducible assumption) | (with_reducible refine Vg.Grows.alloc ?_ _) | (with_reducible refine Vg.Grows.plus ?_ _ _) | (with_reducible refine Vg.Grows.drewN ?_ _) | (with_reducible refine Vg.Grows.drew ?_) | (with_reducible refine Vg.Grows.setCell ?_ ?_ _) | (with_reducible refine Vg.Grows.put ?_ ?_ _) | omega | (simp; omega) | (simp; done))))) hi1 H_hx1.out rfl).mono ?_
        rintro e W4 ⟨rfl, h4, t4⟩
        have z4 := t4.bk (k := w.heap.size) H_z3.out (fun hh => Nat.lt_irrefl _ (H_hcvl.out _ hh))
        have hz4 := Vg.lt_of z4
        have hT4 : Vg.Touch (kown b xs (.slice (some ⟨g, o, none⟩) n c) cb cv) W2 W4 := H_K3.out.trans ((Vg.Touch.of_grows (w' := W3.drewN nq) (by (repeat' (first | (with_reducible exact Vg.Grows.refl _) | (with_reducible assumption) | (with_reducible refine Vg.Grows.alloc ?_ _) | (with_reducible refine Vg.Grows.plus ?_ _ _) | (with_reducible refine Vg.Grows.drewN ?_ _) | (with_reducible refine Vg.Grows.drew ?_) | (with_reducible refine Vg.Grows.setCell ?_ ?_ _) | (with_reducible refine Vg.Grows.put ?_ ?_ _) | omega | (simp; omega) | (simp; done))))).trans (t4.mono fun k _ hk => .inr (.inr (.inr (.inr hk)))))
        have k5 : KTn W4 W4 b xs1 (.slice (some ⟨g, o, none⟩) n c) cb (Vg.Kn.lockd M t i wn false) cv ((xs.map (·.2)).set i ⟨t, ⟨jc, ja, wn⟩ :: l, lo, ou⟩) := ⟨xs1, h4, H_hm1.out, fun k hk => .inl hk, Vg.Touch.refl _ _⟩
        have k6 := KTn.put (o := doneC 0 0 0) H_h2.out (KTn.next H_K2.out hT4 k5) hG2 (Nat.le_refl _) hz2 H_hno.out
        have hput := Vg.put_self z4
        have c_z4 := Vg.cells_of z4; have f_z4 := Vg.frozen_of z4; have p_z4 := Vg.setCell_of z4; have l_z4 := Vg.lt_of z4; have H_z4 := Lib.hid z4; clear z4
        have H_h4 := Lib.hid h4; clear h4; have H_t4 := Lib.hid t4; clear t4; have H_hT4 := Lib.hid hT4; clear hT4; have H_k5 := Lib.hid k5; clear k5; have H_k6 := Lib.hid k6; clear k6; have H_hput := Lib.hid hput; clear hput
        go_wp2_with fail
        have z6 : Vg.blk (Vg.put W4 w.heap.size (doneC 0 0 0)) w.heap.size = some (doneC 0 0 0) := Vg.put_heap_same hz4
        have k6 := H_k6.out
        obtain ⟨W6, hW6⟩ : ∃ W6, Vg.put W4 w.heap.size (doneC 0 0 0) = W6 := ⟨_, rfl⟩
        rw [hW6] at k6 z6 ⊢
        have c_z6 := Vg.cells_of z6; have f_z6 := Vg.frozen_of z6; have p_z6 := Vg.setCell_of z6; have l_z6 := Vg.lt_of z6; have H_z6 := Lib.hid z6; clear z6
        have H_k6 := Lib.hid k6; clear k6
        refine bodyPost_ret (by simp [results, Try.results87, go_sem, c_z6, l_z6] <;> try rfl) rfl ?_
        exact ⟨rfl, H_k6.out⟩
end
end Go.Proofs.Ytiinhofmhoplfaa
