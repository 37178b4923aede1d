/- KernPlays: KernNw, KernNx, KernPb, KernPl, KernPm, KernPw (wip/bin/merge.py puts them together: a claim has at most 60 files). -/
import Derived.Test.YtiinhofmhoplfaaKpF
import Derived.Test.YtiinhofmhoplfaaKpB
import Derived.Test.YtiinhofmhoplfaaKernX
import Derived.Test.YtiinhofmhoplfaaKpG
import Derived.Test.YtiinhofmhoplfaaKernV
set_option linter.unusedSimpArgs false
set_option linter.unusedVariables false
set_option maxHeartbeats 40000000
set_option maxRecDepth 100000
namespace Vg
open Go
theorem tkcells_length : ∀ l : List Tk, (tkcells l).length = l.length * 10
  | [] => rfl
  | x :: l => by simp [tkcells, tkcells_length l]; omega
theorem tkcells_ones : ∀ l : List Tk, ∀ u ∈ tkcells l, u.oneCell' = true
  | [], u, h => by simp [tkcells] at h
  | x :: l, u, h => by
    simp only [tkcells, List.mem_cons] at h
    rcases h with rfl | rfl | rfl | rfl | rfl | rfl | rfl | rfl | rfl | rfl | h
    all_goals first
      | rfl
      | exact tkcells_ones l u h
theorem TK.reads {w : World} {sa : Option Addr} {n c : Nat} {T : List Tk} (h : TK w sa c T) (hn : T.length = n) (h0 : 0 < n) : Reads 0 w (.slice sa n c) n (tkcells T) := by
  obtain ⟨g, off, rfl, hg, -⟩ := h.2.2 0 (by omega)
  refine .inr ⟨g, off, c, rfl, Nat.zero_le _, hg, by rw [← hn]; exact h.1, h.2.1, fun j hj => ?_⟩
  have hl := tkcells_length T
  have hk : j / 10 < T.length := by omega
  obtain ⟨g', off', e, -, hc⟩ := h.2.2 (j / 10) hk
  simp only [Option.some.injEq, Addr.mk.injEq, and_true] at e
  obtain ⟨rfl, rfl⟩ := e
  have hr := hc (j % 10) (by omega)
  have hd := tkcells_get T (j / 10) hk (j % 10) (by omega)
  have ej : j / 10 * 10 + j % 10 = j := by omega
  rw [ej] at hd
  rw [Nat.add_assoc, ej] at hr
  rw [hr, ← hd, List.getElem?_eq_getElem hj]
theorem TK.of_reads {S : Nat} {w : World} {sa : Option Addr} {n c : Nat} {T : List Tk} (h : Reads S w (.slice sa n c) n (tkcells T)) (hn : T.length = n) : TK w sa c T := by
  have hl := tkcells_length T
  rcases h with ⟨h0, h1, h2⟩ | ⟨g, off, cap, hsv, _, hg, hc, hm, hx⟩
  · simp only [Value.slice.injEq] at h0
    obtain ⟨rfl, rfl, rfl⟩ := h0
    exact ⟨by omega, by decide, fun k hk => by omega⟩
  · simp only [Value.slice.injEq] at hsv
    obtain ⟨rfl, _, rfl⟩ := hsv
    refine ⟨by omega, hm, fun k hk => ⟨g, off, rfl, hg, fun j hj => ?_⟩⟩
    have := hx (k * 10 + j) (by omega)
    rw [Nat.add_assoc, this, ← tkcells_get T k hk j hj, List.getElem?_eq_getElem]
end Vg
namespace Go.Proofs.Ytiinhofmhoplfaa
open Go.ChangeShapes Go.WideShapes Go.ChangeAt Go.RowKit
theorem Try.info_atask : (Try.prog.info? 129).map (fun i => (i.zero, i.size, i.bytes)) = some (some (.agg #[.int .u8 0, .int .i64 0, .int .i64 0, .int .i64 0, .int .i64 0, .int .i64 0, .int .i64 0, .int .i64 0, .int .i64 0, .int .i64 0]), 10, 80) := by kernel_rfl
/-- The three rows that New makes. -/
structure NR (W : World) (B : Nat) (vj vl vo : Value) (a b c : Nat) (X : List (Nat × Obj)) : Prop where
  qj : Vg.Que W B 120 1 vj a (List.replicate a (.slice none 0 0))
  ql : Vg.Que W B 3 1 vl b (List.replicate b (.int .i64 0))
  qo : Vg.Que W B 4 1 vo c (List.replicate c (.bool false))
  djl : ∀ k, vj.ownBlock = some k → vl.ownBlock ≠ some k
  djo : ∀ k, vj.ownBlock = some k → vo.ownBlock ≠ some k
  dlo : ∀ k, vl.ownBlock = some k → vo.ownBlock ≠ some k
  has : Vg.Has X W
  off : ∀ q, Vg.Dom X q → vj.ownBlock ≠ some q ∧ vl.ownBlock ≠ some q ∧ vo.ownBlock ≠ some q
section
variable {w w' W W2 : World} {B bx a b c : Nat} {vj vl vo v2 : Value} {X : List (Nat × Obj)}
theorem NR.start (h : Vg.Has X W) : NR W B (.slice none 0 0) (.slice none 0 0) (.slice none 0 0) 0 0 0 X :=
  ⟨Vg.Que.nil _ _ _ _, Vg.Que.nil _ _ _ _, Vg.Que.nil _ _ _ _, by simp [Value.ownBlock], by simp [Value.ownBlock], by simp [Value.ownBlock], h, by simp [Value.ownBlock]⟩
theorem NR.grows (h : NR W B vj vl vo a b c X) (hg : Vg.Grows W W2) : NR W2 B vj vl vo a b c X :=
  ⟨h.qj.grows hg, h.ql.grows hg, h.qo.grows hg, h.djl, h.djo, h.dlo, fun p hp => hg.blk (h.has p hp), h.off⟩
theorem NR.put {o o' : Obj} (h : NR W B vj vl vo a b c ((bx, o) :: X)) (hX : ∀ p ∈ X, p.1 ≠ bx) : NR (Vg.put W bx o') B vj vl vo a b c ((bx, o') :: X) := by
  have hd := h.off bx Vg.Dom.here
  have hlt := Vg.lt_of (h.has (bx, o) List.mem_cons_self)
  refine ⟨h.qj.kept fun q hq => Vg.put_heap_other fun hh => hd.1 (hh ▸ hq), h.ql.kept fun q hq => Vg.put_heap_other fun hh => hd.2.1 (hh ▸ hq), h.qo.kept fun q hq => Vg.put_heap_other fun hh => hd.2.2 (hh ▸ hq), h.djl, h.djo, h.dlo, fun p hp => ?_, fun q hq => h.off q ?_⟩
  · rcases List.mem_cons.1 hp with rfl | hp
    · exact Vg.put_heap_same hlt
    · exact (Vg.put_heap_other fun hh => hX p hp hh.symm).trans (h.has p (List.mem_cons_of_mem _ hp))
  · rcases hq.cons with rfl | hq
    · exact Vg.Dom.here
    · exact hq.there
theorem NR.lt (h : NR W B vj vl vo a b c X) : ∀ q, Vg.Dom X q → q < W.heap.size := fun q ⟨o, hq⟩ => Vg.lt_of (h.has _ hq)
theorem NR.appj (h : NR W B vj vl vo a b c X) (ht : Vg.Touch (fun q => vj.ownBlock = some q) W W2) (hq : Vg.Que W2 B 120 1 v2 (a + 1) (List.replicate a (.slice none 0 0) ++ [.slice none 0 0])) (ho : v2.ownBlock = vj.ownBlock ∨ ∀ q, v2.ownBlock = some q → W.heap.size ≤ q) : NR W2 B v2 vl vo (a + 1) b c X := by
  have hc : ∀ q, v2.ownBlock = some q → vj.ownBlock = some q ∨ W.heap.size ≤ q := fun q hq => ho.imp (fun h1 => h1.symm.trans hq) fun h1 => h1 q hq
  refine ⟨by rw [List.replicate_succ']; exact hq, h.ql.kept fun k hk => ht.block k (h.ql.lt k hk).2 fun hh => h.djl k hh hk, h.qo.kept fun k hk => ht.block k (h.qo.lt k hk).2 fun hh => h.djo k hh hk, fun k hk hh => ?_, fun k hk hh => ?_, h.dlo, fun p hp => (ht.block p.1 (Vg.lt_of (h.has p hp)) (h.off p.1 ⟨p.2, hp⟩).1).trans (h.has p hp), fun q hq => ⟨fun hh => ?_, (h.off q hq).2⟩⟩
  · rcases hc k hk with h1 | h1
    · exact h.djl k h1 hh
    · have := (h.ql.lt k hh).2; omega
  · rcases hc k hk with h1 | h1
    · exact h.djo k h1 hh
    · have := (h.qo.lt k hh).2; omega
  · rcases hc q hh with h1 | h1
    · exact (h.off q hq).1 h1
    · have := h.lt q hq; omega
theorem NR.appl (h : NR W B vj vl vo a b c X) (ht : Vg.Touch (fun q => vl.ownBlock = some q) W W2) (hq : Vg.Que W2 B 3 1 v2 (b + 1) (List.replicate b (.int .i64 0) ++ [.int .i64 0])) (ho : v2.ownBlock = vl.ownBlock ∨ ∀ q, v2.ownBlock = some q → W.heap.size ≤ q) : NR W2 B vj v2 vo a (b + 1) c X := by
  have hc : ∀ q, v2.ownBlock = some q → vl.ownBlock = some q ∨ W.heap.size ≤ q := fun q hq => ho.imp (fun h1 => h1.symm.trans hq) fun h1 => h1 q hq
  refine ⟨h.qj.kept fun k hk => ht.block k (h.qj.lt k hk).2 fun hh => h.djl k hk hh, by rw [List.replicate_succ']; exact hq, h.qo.kept fun k hk => ht.block k (h.qo.lt k hk).2 fun hh => h.dlo k hh hk, fun k hk hh => ?_, h.djo, fun k hk hh => ?_, fun p hp => (ht.block p.1 (Vg.lt_of (h.has p hp)) (h.off p.1 ⟨p.2, hp⟩).2.1).trans (h.has p hp), fun q hq => ⟨(h.off q hq).1, fun hh => ?_, (h.off q hq).2.2⟩⟩
  · rcases hc k hh with h1 | h1
    · exact h.djl k hk h1
    · have := (h.qj.lt k hk).2; omega
  · rcases hc k hk with h1 | h1
    · exact h.dlo k h1 hh
    · have := (h.qo.lt k hh).2; omega
  · rcases hc q hh with h1 | h1
    · exact (h.off q hq).2.1 h1
    · have := h.lt q hq; omega
theorem NR.appo (h : NR W B vj vl vo a b c X) (ht : Vg.Touch (fun q => vo.ownBlock = some q) W W2) (hq : Vg.Que W2 B 4 1 v2 (c + 1) (List.replicate c (.bool false) ++ [.bool false])) (ho : v2.ownBlock = vo.ownBlock ∨ ∀ q, v2.ownBlock = some q → W.heap.size ≤ q) : NR W2 B vj vl v2 a b (c + 1) X := by
  have hc : ∀ q, v2.ownBlock = some q → vo.ownBlock = some q ∨ W.heap.size ≤ q := fun q hq => ho.imp (fun h1 => h1.symm.trans hq) fun h1 => h1 q hq
  refine ⟨h.qj.kept fun k hk => ht.block k (h.qj.lt k hk).2 fun hh => h.djo k hk hh, h.ql.kept fun k hk => ht.block k (h.ql.lt k hk).2 fun hh => h.dlo k hk hh, by rw [List.replicate_succ']; exact hq, h.djl, fun k hk hh => ?_, fun k hk hh => ?_, fun p hp => (ht.block p.1 (Vg.lt_of (h.has p hp)) (h.off p.1 ⟨p.2, hp⟩).2.2).trans (h.has p hp), fun q hq => ⟨(h.off q hq).1, (h.off q hq).2.1, fun hh => ?_⟩⟩
  · rcases hc k hh with h1 | h1
    · exact h.djo k hk h1
    · have := (h.qj.lt k hk).2; omega
  · rcases hc k hh with h1 | h1
    · exact h.dlo k hk h1
    · have := (h.ql.lt k hk).2; omega
  · rcases hc q hh with h1 | h1
    · exact (h.off q hq).2.2 h1
    · have := h.lt q hq; omega
end
end Go.Proofs.Ytiinhofmhoplfaa
namespace Go.Proofs.Ytiinhofmhoplfaa
open Go.ChangeShapes Go.WideShapes Go.ChangeAt Go.RowKit
section
variable {w w' : World} {T : List Vg.Tk} {sa : Option Addr} {sc n : Nat} {r : Int}
theorem rf_new_no (hr : Vg.TK w sa sc T) (hn : T.length = n) (hx : Vg.Kn.check T = r) (hb : r ≠ 0) :
    Calls Try.prog 65 #[.slice sa n sc] w fun e w' => e = .returned (.tuple #[.agg #[.slice none 0 0, .slice none 0 0, .slice none 0 0, .slice none 0 0], .int .i64 r]) ∧ Vg.Grows w w' := by
  have hbb : (r != 0) = true := by simp [hb]
  have H_hr := Lib.hid hr; clear hr; have H_hn := Lib.hid hn; clear hn; have H_hx := Lib.hid hx; clear hx; have H_hb := Lib.hid hb; clear hb
  go_enter Try.func65, Try.ntmps65
  go_wp2_with ((go_at_call 114; (with_reducible refine (rf_check (H_hr.out.grows (by (repeat' (first | (with_reducible exact Vg.Grows.refl _) | (with_reducible assumption) | (with_reducible refine Vg.Grows.alloc ?_ _) | (with_reducible refine Vg.Grows.plus ?_ _ _) | (with_reducible refine Vg.Grows.drewN ?_ _) | (with_reducible refine Vg.Grows.drew ?_) | (with_reducible refine Vg.Grows.setCell ?_ ?_ _) | (with_reducible refine Vg.Grows.put ?_ ?_ _) | omega | (simp; omega) | (simp; done))))) H_hn.out H_hx.out).mono ?_); rintro e w1 ⟨rfl, x1, n1, rfl⟩))
  go_returns
  exact ⟨rfl, by (repeat' (first | (with_reducible exact Vg.Grows.refl _) | (with_reducible assumption) | (with_reducible refine Vg.Grows.alloc ?_ _) | (with_reducible refine Vg.Grows.plus ?_ _ _) | (with_reducible refine Vg.Grows.drewN ?_ _) | (with_reducible refine Vg.Grows.drew ?_) | (with_reducible refine Vg.Grows.setCell ?_ ?_ _) | (with_reducible refine Vg.Grows.put ?_ ?_ _) | omega | (simp; omega) | (simp; done)))⟩
theorem rf_new (hr : Vg.TK w sa sc T) (hn : T.length = n) (hx : Vg.Kn.check T = 0) :
    Calls Try.prog 65 #[.slice sa n sc] w fun e w' => ∃ ta tc ja jc la lc oa oc, e = .returned (.tuple #[.agg #[.slice ta n tc, .slice ja n jc, .slice la n lc, .slice oa n oc], .int .i64 0]) ∧ Vg.FKS (fun k => w.heap.size ≤ k) w' (.agg #[.slice ta n tc, .slice ja n jc, .slice la n lc, .slice oa n oc]) (Vg.Kn.K0 T) ∧ Vg.Grows w w' := by
  obtain ⟨⟨hn1, hn32⟩, hodd, hnd⟩ := Vg.Kn.check_ok hx
  rw [hn] at hn1 hn32
  obtain ⟨i0, hI, hz0, hz1, hz2⟩ := info_parts Try.info_atask
  obtain ⟨q0, hQ, hq0, hq1, hq2⟩ := info_parts Try.info_rjobs
  obtain ⟨l0, hL, hl0, hl1, hl2⟩ := info_parts Try.info_rint
  obtain ⟨o0, hO, ho0, ho1, ho2⟩ := info_parts Try.info_rbool
  have hrd := hr.reads hn (by omega)
  have htl : (Vg.tkcells T).length = n * 10 := by rw [Vg.tkcells_length, hn]
  have hto := Vg.tkcells_ones T
  have H_hr := Lib.hid hr; clear hr; have H_hn := Lib.hid hn; clear hn; have H_hx := Lib.hid hx; clear hx; have H_hodd := Lib.hid hodd; clear hodd; have H_hnd := Lib.hid hnd; clear hnd; have H_hrd := Lib.hid hrd; clear hrd; have H_htl := Lib.hid htl; clear htl; have H_hto := Lib.hid hto; clear hto
  go_enter Try.func65, Try.ntmps65
  go_upto_region 5 with (first | (go_at_call 114; (with_reducible refine (rf_check (H_hr.out.grows (by (repeat' (first | (with_reducible exact Vg.Grows.refl _) | (with_reducible assumption) | (with_reducible refine Vg.Grows.alloc ?_ _) | (with_reducible refine Vg.Grows.plus ?_ _ _) | (with_reducible refine Vg.Grows.drewN ?_ _) | (with_reducible refine Vg.Grows.drew ?_) | (with_reducible refine Vg.Grows.setCell ?_ ?_ _) | (with_reducible refine Vg.Grows.put ?_ ?_ _) | omega | (simp; omega) | (simp; done))))) H_hn.out H_hx.out).mono ?_); rintro e w1 ⟨rfl, hg1⟩; have gw1 := Vg.Grows.trans (a := w) (by (repeat' (first | (with_reducible exact Vg.Grows.refl _) | (with_reducible assumption) | (with_reducible refine Vg.Grows.alloc ?_ _) | (with_reducible refine Vg.Grows.plus ?_ _ _) | (with_reducible refine Vg.Grows.drewN ?_ _) | (with_reducible refine Vg.Grows.drew ?_) | (with_reducible refine Vg.Grows.setCell ?_ ?_ _) | (with_reducible refine Vg.Grows.put ?_ ?_ _) | omega | (simp; omega) | (simp; done)))) hg1; have b1 := hg1.blk (b := w.heap.size) (o := rv0) (by go_simp); have H_hg1 := Lib.hid hg1; clear hg1; have H_gw1 := Lib.hid gw1; clear gw1; have H_b1 := Lib.hid b1; clear b1) | (at_builtin; (refine Vg.wpList_appR (W0 := _) ((Vg.Grows.refl _).alloc _) rfl (.tmp 12) (.tmp 13) 104 rfl _ (Nat.le_refl _) (by (try simp only [World.size_alloc, Vg.plus_size, Vg.put_size, World.size_setCell, World.size_drew]) <;> omega) 129 i0 (.agg #[.int .u8 0, .int .i64 0, .int .i64 0, .int .i64 0, .int .i64 0, .int .i64 0, .int .i64 0, .int .i64 0, .int .i64 0, .int .i64 0]) 10 80 Try.underlying104 hI hz0 hz1 hz2 rfl (by decide) _ _ _ rfl (Vg.owns_made0 (by (try simp only [World.size_alloc, Vg.plus_size, Vg.put_size, World.size_setCell, World.size_drew]) <;> omega)) 0 _ _ _ (Vg.tkcells T) rfl ((H_hrd.out.grows H_gw1.out).grows (by (repeat' (first | (with_reducible exact Vg.Grows.refl _) | (with_reducible assumption) | (with_reducible refine Vg.Grows.alloc ?_ _) | (with_reducible refine Vg.Grows.plus ?_ _ _) | (with_reducible refine Vg.Grows.drewN ?_ _) | (with_reducible refine Vg.Grows.drew ?_) | (with_reducible refine Vg.Grows.setCell ?_ ?_ _) | (with_reducible refine Vg.Grows.put ?_ ?_ _) | omega | (simp; omega) | (simp; done))))) H_htl.out H_hto.out (by unfold maxLen; omega) (by omega) ?_); intro v1 y1 m1 hown1 hsz1; have gp : Vg.Grows w1 (Vg.plus w1 y1 m1) := (Vg.Grows.refl _).plus _ _; obtain ⟨Wp, hWp⟩ : ∃ Wp, Vg.plus w1 y1 m1 = Wp := ⟨_, rfl⟩; rw [hWp] at hown1 gp ⊢; clear hWp hsz1; simp only [List.nil_append, Nat.zero_add] at hown1; obtain ⟨a1, c1, rfl⟩ := Vg.owns_shape hown1; have hqt := Vg.Que.of_owns hown1; clear hown1; have H_gp := Lib.hid gp; clear gp; have H_hqt := Lib.hid hqt; clear hqt))
  have gwp := H_gw1.out.trans H_gp.out
  have bp := H_gp.out.blk H_b1.out
  obtain ⟨gt, ot, ct, cur, hct, hgt⟩ : ∃ gt ot ct, (∃ cur, (Value.slice a1 n c1 = .slice (some ⟨gt, ot, none⟩) n ct) ∧ Vg.blk Wp gt = some (.cells cur 129)) := by
    rcases H_hqt.out.2 with ⟨h1, h2⟩ | ⟨g, o, cap, cur, h1, _, h2, _⟩
    · omega
    · exact ⟨g, o, cap, cur, h1, h2⟩
  have hgl := Vg.lt_of hgt
  have hbp := Vg.lt_of bp
  have hX : Vg.Has [(Wp.heap.size, rvC (.slice a1 n c1) (.slice none 0 0) (.slice none 0 0) (.slice none 0 0)), (w.heap.size, rv0), (gt, .cells cur 129)] (Wp.alloc (rvC (.slice a1 n c1) (.slice none 0 0) (.slice none 0 0) (.slice none 0 0))) :=
    Vg.Has.cons (Vg.Has.cons (Vg.Has.cons (Vg.Has.nil _) ((Vg.Grows.alloc (Vg.Grows.refl Wp) _).blk hgt)) ((Vg.Grows.alloc (Vg.Grows.refl Wp) _).blk bp)) (Vg.alloc_heap_at rfl)
  have hN0 := NR.start (B := Wp.heap.size) hX
  obtain ⟨W5, hW5⟩ : ∃ W5, Wp.alloc (rvC (.slice a1 n c1) (.slice none 0 0) (.slice none 0 0) (.slice none 0 0)) = W5 := ⟨_, rfl⟩
  have gw5 : Vg.Grows w W5 := by rw [← hW5]; exact gwp.alloc _
  have gp5 : Vg.Grows Wp W5 := by rw [← hW5]; exact (Vg.Grows.refl _).alloc _
  rw [hW5] at hN0 ⊢
  clear hW5 hX
  obtain ⟨b5, hb5⟩ : ∃ b5, Wp.heap.size = b5 := ⟨_, rfl⟩
  rw [hb5] at hN0 hgl hbp ⊢
  have m1 : w.heap.size ≠ b5 := by omega
  have m2 : gt ≠ b5 := by omega
  have hwb : w.heap.size ≤ b5 := by omega
  have H_hN0 := Lib.hid hN0; clear hN0; have H_gw5 := Lib.hid gw5; clear gw5; have H_gp5 := Lib.hid gp5; clear gp5; have H_hct := Lib.hid hct; clear hct; have H_hgt := Lib.hid hgt; clear hgt; have H_bp := Lib.hid bp; clear bp; have H_gwp := Lib.hid gwp; clear gwp; have H_hb5 := Lib.hid hb5; clear hb5
  go_wp2_with fail
  go_loopw [18] (fun i wr => ∃ (k : Nat) (vj vl vo : Value), k ≤ n ∧ i = .int .i64 k ∧ NR wr b5 vj vl vo k k k [(b5, rvC (.slice a1 n c1) vj vl vo), (w.heap.size, rv0), (gt, .cells cur 129)] ∧ Vg.Grows w wr ∧ Vg.Grows Wp wr) (fun i _ => n - (intOf i).toNat)
  case atStart => exact ⟨0, _, _, _, by omega, rfl, H_hN0.out, H_gw5.out, H_gp5.out⟩
  case round =>
    obtain ⟨k, vj, vl, vo, hk, rfl, hN, hgr, hgp⟩ := hrel
    have y1 := hN.has _ List.mem_cons_self
    have hsz5 := hgp.size
    rw [H_hb5.out] at hsz5
    by_cases hlt : k < n
    · obtain ⟨ja, jc, rfl⟩ := hN.qj.shape
      obtain ⟨la, lc, rfl⟩ := hN.ql.shape
      obtain ⟨oa, oc, rfl⟩ := hN.qo.shape
      have hqj := hN.qj
      have c_y1 := Vg.cells_of y1; have f_y1 := Vg.frozen_of y1; have p_y1 := Vg.setCell_of y1; have l_y1 := Vg.lt_of y1; have H_y1 := Lib.hid y1; clear y1
      have H_hN := Lib.hid hN; clear hN; have H_hgr := Lib.hid hgr; clear hgr; have H_hgp := Lib.hid hgp; clear hgp; have H_hqj := Lib.hid hqj; clear hqj
      go_upto_region 8 with (at_builtin; (refine Vg.wpList_que (w := _) rfl (.tmp 21) (.tmp 22) 109 rfl b5 120 q0 (.slice none 0 0) 1 24 Try.underlying109 hQ hq0 hq1 hq2 rfl (by decide) (.slice ja k jc) k _ rfl (H_hqj.out.grows (by (repeat' (first | (with_reducible exact Vg.Grows.refl _) | (with_reducible assumption) | (with_reducible refine Vg.Grows.alloc ?_ _) | (with_reducible refine Vg.Grows.plus ?_ _ _) | (with_reducible refine Vg.Grows.drewN ?_ _) | (with_reducible refine Vg.Grows.drew ?_) | (with_reducible refine Vg.Grows.setCell ?_ ?_ _) | (with_reducible refine Vg.Grows.put ?_ ?_ _) | omega | (simp; omega) | (simp; done))))) _ 1 1 [.slice none 0 0] rfl rfl (Vg.one_new (by first | rfl | ((try simp only [World.size_alloc, Vg.plus_size, Vg.put_size, World.size_setCell, World.size_drew, World.heap_drewN]) <;> omega))) (by simp [Value.oneCell']) (by decide) (by unfold maxLen; omega) (by omega) (by simp only [World.size_alloc]; omega) ?_); intro v2 W1 yy mm hqv hs2 ho2; obtain ⟨a2, c2, rfl⟩ := hqv.shape; have hT := (Vg.Touch.of_same hs2).trans (Vg.Touch.of_grows ((Vg.Grows.refl _).plus yy mm)); have hOut := NR.appj (NR.grows H_hN.out (by (repeat' (first | (with_reducible exact Vg.Grows.refl _) | (with_reducible assumption) | (with_reducible refine Vg.Grows.alloc ?_ _) | (with_reducible refine Vg.Grows.plus ?_ _ _) | (with_reducible refine Vg.Grows.drewN ?_ _) | (with_reducible refine Vg.Grows.drew ?_) | (with_reducible refine Vg.Grows.setCell ?_ ?_ _) | (with_reducible refine Vg.Grows.put ?_ ?_ _) | omega | (simp; omega) | (simp; done))))) hT hqv (ho2.imp id (fun h q hq => by rw [h] at hq; simp only [Option.some.injEq] at hq; omega)); have gO := hT.grows (w0 := w) (Vg.Grows.trans H_hgr.out (by (repeat' (first | (with_reducible exact Vg.Grows.refl _) | (with_reducible assumption) | (with_reducible refine Vg.Grows.alloc ?_ _) | (with_reducible refine Vg.Grows.plus ?_ _ _) | (with_reducible refine Vg.Grows.drewN ?_ _) | (with_reducible refine Vg.Grows.drew ?_) | (with_reducible refine Vg.Grows.setCell ?_ ?_ _) | (with_reducible refine Vg.Grows.put ?_ ?_ _) | omega | (simp; omega) | (simp; done))))) (fun j hj => by have := (H_hqj.out.lt j hj).1; omega); have gP := hT.grows (w0 := Wp) (Vg.Grows.trans H_hgp.out (by (repeat' (first | (with_reducible exact Vg.Grows.refl _) | (with_reducible assumption) | (with_reducible refine Vg.Grows.alloc ?_ _) | (with_reducible refine Vg.Grows.plus ?_ _ _) | (with_reducible refine Vg.Grows.drewN ?_ _) | (with_reducible refine Vg.Grows.drew ?_) | (with_reducible refine Vg.Grows.setCell ?_ ?_ _) | (with_reducible refine Vg.Grows.put ?_ ?_ _) | omega | (simp; omega) | (simp; done))))) (fun j hj => by have := (H_hqj.out.lt j hj).1; have := H_hb5.out; omega); obtain ⟨W2, hW2⟩ : ∃ W2, Vg.plus W1 yy mm = W2 := ⟨_, rfl⟩; rw [hW2] at hOut gO gP ⊢; have z1 := hOut.has _ List.mem_cons_self; clear hW2 hT hs2 hqv ho2; clear c_y1 f_y1 p_y1; have c_z1 := Vg.cells_of z1; have f_z1 := Vg.frozen_of z1; have p_z1 := Vg.setCell_of z1; have l_z1 := Vg.lt_of z1; have H_z1 := Lib.hid z1; clear z1; have H_hA := Lib.hid hOut; have H_gA := Lib.hid gO; have H_gB := Lib.hid gP; clear hOut gO gP)
      have hA := NR.put (o' := rvC (.slice a1 n c1) (.slice a2 (k + 1) c2) (.slice la k lc) (.slice oa k oc)) H_hA.out (by simp; omega)
      obtain ⟨W3, hW3⟩ : ∃ W3, Vg.put W2 b5 (rvC (.slice a1 n c1) (.slice a2 (k + 1) c2) (.slice la k lc) (.slice oa k oc)) = W3 := ⟨_, rfl⟩
      have g3 := Vg.Grows.put H_gA.out hwb (rvC (.slice a1 n c1) (.slice a2 (k + 1) c2) (.slice la k lc) (.slice oa k oc))
      have g3p := Vg.Grows.put (H_gB.out) (by rw [H_hb5.out]; exact Nat.le_refl _ : Wp.heap.size ≤ b5) (rvC (.slice a1 n c1) (.slice a2 (k + 1) c2) (.slice la k lc) (.slice oa k oc))
      rw [hW3] at hA g3 g3p ⊢
      clear hW3
      clear c_z1 f_z1 p_z1
      clear H_hA H_gA H_gB l_z1 H_z1
      have y2 := hA.has _ List.mem_cons_self
      have hql := hA.ql
      have hsz6 := g3p.size
      rw [H_hb5.out] at hsz6
      have c_y2 := Vg.cells_of y2; have f_y2 := Vg.frozen_of y2; have p_y2 := Vg.setCell_of y2; have l_y2 := Vg.lt_of y2; have H_y2 := Lib.hid y2; clear y2
      have H_hA := Lib.hid hA; clear hA; have H_g3 := Lib.hid g3; clear g3; have H_g3p := Lib.hid g3p; clear g3p; have H_hql := Lib.hid hql; clear hql
      go_upto_region 9 with (at_builtin; (refine Vg.wpList_que (w := _) rfl (.tmp 26) (.tmp 27) 22 rfl b5 3 l0 (.int .i64 0) 1 8 Try.underlying22 hL hl0 hl1 hl2 rfl (by decide) (.slice la k lc) k _ rfl (H_hql.out.grows (by (repeat' (first | (with_reducible exact Vg.Grows.refl _) | (with_reducible assumption) | (with_reducible refine Vg.Grows.alloc ?_ _) | (with_reducible refine Vg.Grows.plus ?_ _ _) | (with_reducible refine Vg.Grows.drewN ?_ _) | (with_reducible refine Vg.Grows.drew ?_) | (with_reducible refine Vg.Grows.setCell ?_ ?_ _) | (with_reducible refine Vg.Grows.put ?_ ?_ _) | omega | (simp; omega) | (simp; done))))) _ 1 1 [.int .i64 0] rfl rfl (Vg.one_new (by first | rfl | ((try simp only [World.size_alloc, Vg.plus_size, Vg.put_size, World.size_setCell, World.size_drew, World.heap_drewN]) <;> omega))) (by simp [Value.oneCell']) (by decide) (by unfold maxLen; omega) (by omega) (by simp only [World.size_alloc]; omega) ?_); intro v2 W1 yy mm hqv hs2 ho2; obtain ⟨a3, c3, rfl⟩ := hqv.shape; have hT := (Vg.Touch.of_same hs2).trans (Vg.Touch.of_grows ((Vg.Grows.refl _).plus yy mm)); have hOut := NR.appl (NR.grows H_hA.out (by (repeat' (first | (with_reducible exact Vg.Grows.refl _) | (with_reducible assumption) | (with_reducible refine Vg.Grows.alloc ?_ _) | (with_reducible refine Vg.Grows.plus ?_ _ _) | (with_reducible refine Vg.Grows.drewN ?_ _) | (with_reducible refine Vg.Grows.drew ?_) | (with_reducible refine Vg.Grows.setCell ?_ ?_ _) | (with_reducible refine Vg.Grows.put ?_ ?_ _) | omega | (simp; omega) | (simp; done))))) hT hqv (ho2.imp id (fun h q hq => by rw [h] at hq; simp only [Option.some.injEq] at hq; omega)); have gO := hT.grows (w0 := w) (Vg.Grows.trans H_g3.out (by (repeat' (first | (with_reducible exact Vg.Grows.refl _) | (with_reducible assumption) | (with_reducible refine Vg.Grows.alloc ?_ _) | (with_reducible refine Vg.Grows.plus ?_ _ _) | (with_reducible refine Vg.Grows.drewN ?_ _) | (with_reducible refine Vg.Grows.drew ?_) | (with_reducible refine Vg.Grows.setCell ?_ ?_ _) | (with_reducible refine Vg.Grows.put ?_ ?_ _) | omega | (simp; omega) | (simp; done))))) (fun j hj => by have := (H_hql.out.lt j hj).1; omega); have gP := hT.grows (w0 := Wp) (Vg.Grows.trans H_g3p.out (by (repeat' (first | (with_reducible exact Vg.Grows.refl _) | (with_reducible assumption) | (with_reducible refine Vg.Grows.alloc ?_ _) | (with_reducible refine Vg.Grows.plus ?_ _ _) | (with_reducible refine Vg.Grows.drewN ?_ _) | (with_reducible refine Vg.Grows.drew ?_) | (with_reducible refine Vg.Grows.setCell ?_ ?_ _) | (with_reducible refine Vg.Grows.put ?_ ?_ _) | omega | (simp; omega) | (simp; done))))) (fun j hj => by have := (H_hql.out.lt j hj).1; have := H_hb5.out; omega); obtain ⟨W4, hW2⟩ : ∃ W2, Vg.plus W1 yy mm = W2 := ⟨_, rfl⟩; rw [hW2] at hOut gO gP ⊢; have z2 := hOut.has _ List.mem_cons_self; clear hW2 hT hs2 hqv ho2; clear c_y2 f_y2 p_y2; have c_z2 := Vg.cells_of z2; have f_z2 := Vg.frozen_of z2; have p_z2 := Vg.setCell_of z2; have l_z2 := Vg.lt_of z2; have H_z2 := Lib.hid z2; clear z2; have H_hB := Lib.hid hOut; have H_gC := Lib.hid gO; have H_gD := Lib.hid gP; clear hOut gO gP)
      have hA := NR.put (o' := rvC (.slice a1 n c1) (.slice a2 (k + 1) c2) (.slice a3 (k + 1) c3) (.slice oa k oc)) H_hB.out (by simp; omega)
      obtain ⟨W5', hW3⟩ : ∃ W3, Vg.put W4 b5 (rvC (.slice a1 n c1) (.slice a2 (k + 1) c2) (.slice a3 (k + 1) c3) (.slice oa k oc)) = W3 := ⟨_, rfl⟩
      have g3 := Vg.Grows.put H_gC.out hwb (rvC (.slice a1 n c1) (.slice a2 (k + 1) c2) (.slice a3 (k + 1) c3) (.slice oa k oc))
      have g3p := Vg.Grows.put (H_gD.out) (by rw [H_hb5.out]; exact Nat.le_refl _ : Wp.heap.size ≤ b5) (rvC (.slice a1 n c1) (.slice a2 (k + 1) c2) (.slice a3 (k + 1) c3) (.slice oa k oc))
      rw [hW3] at hA g3 g3p ⊢
      clear hW3
      clear c_z2 f_z2 p_z2
      clear H_hA H_gC H_gD H_hB l_z2 H_z2
      have y3 := hA.has _ List.mem_cons_self
      have hqo := hA.qo
      have hsz7 := g3p.size
      rw [H_hb5.out] at hsz7
      have c_y3 := Vg.cells_of y3; have f_y3 := Vg.frozen_of y3; have p_y3 := Vg.setCell_of y3; have l_y3 := Vg.lt_of y3; have H_y3 := Lib.hid y3; clear y3
      clear H_g3 H_g3p
      have H_hA := Lib.hid hA; clear hA; have H_g3 := Lib.hid g3; clear g3; have H_g3p := Lib.hid g3p; clear g3p; have H_hqo := Lib.hid hqo; clear hqo
      go_upto_region 10 with (at_builtin; (refine Vg.wpList_que (w := _) rfl (.tmp 31) (.tmp 32) 110 rfl b5 4 o0 (.bool false) 1 1 Try.underlying110 hO ho0 ho1 ho2 rfl (by decide) (.slice oa k oc) k _ rfl (H_hqo.out.grows (by (repeat' (first | (with_reducible exact Vg.Grows.refl _) | (with_reducible assumption) | (with_reducible refine Vg.Grows.alloc ?_ _) | (with_reducible refine Vg.Grows.plus ?_ _ _) | (with_reducible refine Vg.Grows.drewN ?_ _) | (with_reducible refine Vg.Grows.drew ?_) | (with_reducible refine Vg.Grows.setCell ?_ ?_ _) | (with_reducible refine Vg.Grows.put ?_ ?_ _) | omega | (simp; omega) | (simp; done))))) _ 1 1 [.bool false] rfl rfl (Vg.one_new (by first | rfl | ((try simp only [World.size_alloc, Vg.plus_size, Vg.put_size, World.size_setCell, World.size_drew, World.heap_drewN]) <;> omega))) (by simp [Value.oneCell']) (by decide) (by unfold maxLen; omega) (by omega) (by simp only [World.size_alloc]; omega) ?_); intro v2 W1 yy mm hqv hs2 ho2; obtain ⟨a4, c4, rfl⟩ := hqv.shape; have hT := (Vg.Touch.of_same hs2).trans (Vg.Touch.of_grows ((Vg.Grows.refl _).plus yy mm)); have hOut := NR.appo (NR.grows H_hA.out (by (repeat' (first | (with_reducible exact Vg.Grows.refl _) | (with_reducible assumption) | (with_reducible refine Vg.Grows.alloc ?_ _) | (with_reducible refine Vg.Grows.plus ?_ _ _) | (with_reducible refine Vg.Grows.drewN ?_ _) | (with_reducible refine Vg.Grows.drew ?_) | (with_reducible refine Vg.Grows.setCell ?_ ?_ _) | (with_reducible refine Vg.Grows.put ?_ ?_ _) | omega | (simp; omega) | (simp; done))))) hT hqv (ho2.imp id (fun h q hq => by rw [h] at hq; simp only [Option.some.injEq] at hq; omega)); have gO := hT.grows (w0 := w) (Vg.Grows.trans H_g3.out (by (repeat' (first | (with_reducible exact Vg.Grows.refl _) | (with_reducible assumption) | (with_reducible refine Vg.Grows.alloc ?_ _) | (with_reducible refine Vg.Grows.plus ?_ _ _) | (with_reducible refine Vg.Grows.drewN ?_ _) | (with_reducible refine Vg.Grows.drew ?_) | (with_reducible refine Vg.Grows.setCell ?_ ?_ _) | (with_reducible refine Vg.Grows.put ?_ ?_ _) | omega | (simp; omega) | (simp; done))))) (fun j hj => by have := (H_hqo.out.lt j hj).1; omega); have gP := hT.grows (w0 := Wp) (Vg.Grows.trans H_g3p.out (by (repeat' (first | (with_reducible exact Vg.Grows.refl _) | (with_reducible assumption) | (with_reducible refine Vg.Grows.alloc ?_ _) | (with_reducible refine Vg.Grows.plus ?_ _ _) | (with_reducible refine Vg.Grows.drewN ?_ _) | (with_reducible refine Vg.Grows.drew ?_) | (with_reducible refine Vg.Grows.setCell ?_ ?_ _) | (with_reducible refine Vg.Grows.put ?_ ?_ _) | omega | (simp; omega) | (simp; done))))) (fun j hj => by have := (H_hqo.out.lt j hj).1; have := H_hb5.out; omega); obtain ⟨W6, hW2⟩ : ∃ W2, Vg.plus W1 yy mm = W2 := ⟨_, rfl⟩; rw [hW2] at hOut gO gP ⊢; have z3 := hOut.has _ List.mem_cons_self; clear hW2 hT hs2 hqv ho2; clear c_y3 f_y3 p_y3; have c_z3 := Vg.cells_of z3; have f_z3 := Vg.frozen_of z3; have p_z3 := Vg.setCell_of z3; have l_z3 := Vg.lt_of z3; have H_z3 := Lib.hid z3; clear z3; have H_hC := Lib.hid hOut; have H_gE := Lib.hid gO; have H_gF := Lib.hid gP; clear hOut gO gP)
      have hA := NR.put (o' := rvC (.slice a1 n c1) (.slice a2 (k + 1) c2) (.slice a3 (k + 1) c3) (.slice a4 (k + 1) c4)) H_hC.out (by simp; omega)
      have g3 := Vg.Grows.put H_gE.out hwb (rvC (.slice a1 n c1) (.slice a2 (k + 1) c2) (.slice a3 (k + 1) c3) (.slice a4 (k + 1) c4))
      have g3p := Vg.Grows.put (H_gF.out) (by rw [H_hb5.out]; exact Nat.le_refl _ : Wp.heap.size ≤ b5) (rvC (.slice a1 n c1) (.slice a2 (k + 1) c2) (.slice a3 (k + 1) c3) (.slice a4 (k + 1) c4))
      clear H_hA H_hC H_gE H_gF
      have H_hA := Lib.hid hA; clear hA; have H_g3 := Lib.hid g3; clear g3; have H_g3p := Lib.hid g3p; clear g3p
      go_wp2_with fail
      exact ⟨⟨k + 1, .slice a2 (k + 1) c2, .slice a3 (k + 1) c3, .slice a4 (k + 1) c4, by omega, by go_num, H_hA.out, H_g3.out, H_g3p.out⟩, by simp [intOf]; omega⟩
    · have hkn : k = n := by omega
      subst hkn
      obtain ⟨ja, jc, rfl⟩ := hN.qj.shape
      obtain ⟨la, lc, rfl⟩ := hN.ql.shape
      obtain ⟨oa, oc, rfl⟩ := hN.qo.shape
      have y2 : Vg.blk wr w.heap.size = some rv0 := hN.has (w.heap.size, rv0) (by simp)
      have hgt2 : Vg.blk wr gt = some (.cells cur 129) := hN.has (gt, .cells cur 129) (by simp)
      have hsw := H_hg1.out.size
      simp only [World.size_alloc] at hsw
      have hgtB := (H_hqt.out.lt gt (by rw [H_hct.out]; rfl)).1
      have hqt2 := H_hqt.out.kept (w' := wr) (fun q hq => by
        rw [H_hct.out] at hq
        have : gt = q := by simpa [Value.ownBlock] using hq
        subst this
        exact hgt2.trans H_hgt.out.symm)
      have hl0 : (Vg.Kn.K0 T).length = k := by unfold Vg.Kn.K0; rw [List.length_map, H_hn.out]
      have hT0 : (Vg.Kn.K0 T).map (·.t) = T := by unfold Vg.Kn.K0 Vg.kt0; rw [List.map_map]; exact List.map_id' ..
      have hm1 : ((Vg.Kn.K0 T).map fun x => Value.int .i64 x.lost) = List.replicate k (.int .i64 0) := by
        unfold Vg.Kn.K0 Vg.kt0; rw [List.map_map, ← H_hn.out]; exact List.map_eq_replicate_iff.2 (fun _ _ => rfl)
      have hm2 : ((Vg.Kn.K0 T).map fun x => Value.bool x.out) = List.replicate k (.bool false) := by
        unfold Vg.Kn.K0 Vg.kt0; rw [List.map_map, ← H_hn.out]; exact List.map_eq_replicate_iff.2 (fun _ _ => rfl)
      have kp : ∀ {e : TypeId} {s m B : Nat} {v : Value} {xs : List Value} (o' : Obj), Vg.Que wr B e s v m xs → w.heap.size < B → Vg.Que (Vg.put wr w.heap.size o') B e s v m xs := fun o' q hB => q.kept fun j hj => Vg.put_heap_other (by have := (q.lt j hj).1; omega)
      have hfin := fun o' => Vg.FKS.of (S := fun k => w.heap.size ≤ k) (S1 := b5) (S2 := b5) (S3 := b5) (w := Vg.put wr w.heap.size o') (ta := a1) (tc := c1) (n := k) (K := Vg.Kn.K0 T) (vj := .slice ja k jc) (vl := .slice la k lc) (vo := .slice oa k oc) (us := List.replicate k (.slice none 0 0)) hl0
        (by rw [hT0]; exact Vg.TK.of_reads (kp o' hqt2 (by omega)).reads H_hn.out) (kp o' hN.qj (by omega)).reads (by simp)
        (fun i hi hi' => by
          have e1 : (List.replicate k (Value.slice none 0 0))[i] = .slice none 0 0 := by simp
          have e2 : (Vg.Kn.K0 T)[i].J = [] := by simp [Vg.Kn.K0, Vg.kt0]
          rw [e1, e2]
          exact ⟨none, 0, rfl, Nat.le_refl _, by decide, fun j hj => by simp at hj⟩)
        (by rw [hm1]; exact (kp o' hN.ql (by omega)).reads) (by rw [hm2]; exact (kp o' hN.qo (by omega)).reads)
        (fun g off e => by
          have h9 := H_hct.out
          simp only [Value.slice.injEq] at h9
          rw [h9.1] at e
          simp only [Option.some.injEq, Addr.mk.injEq, and_true] at e
          omega)
        (fun g hg => by have := (hN.qj.lt g hg).1; omega) (fun g hg => by have := (hN.ql.lt g hg).1; omega) (fun g hg => by have := (hN.qo.lt g hg).1; omega)
        (fun i hi g hg => by simp [Value.ownBlock] at hg) (by omega)
      have hgw := fun o' => Vg.Grows.put hgr (Nat.le_refl w.heap.size) o'
      have c_y1 := Vg.cells_of y1; have f_y1 := Vg.frozen_of y1; have p_y1 := Vg.setCell_of y1; have l_y1 := Vg.lt_of y1; have H_y1 := Lib.hid y1; clear y1; have c_y2 := Vg.cells_of y2; have f_y2 := Vg.frozen_of y2; have p_y2 := Vg.setCell_of y2; have l_y2 := Vg.lt_of y2; have H_y2 := Lib.hid y2; clear y2
      have hpc : ∀ (cs : Array Value) (i : Nat), (Vg.put wr w.heap.size (.cells cs 112)).cell? ⟨w.heap.size, i, none⟩ = cs[i]? := fun cs i => Vg.cells_of (Vg.put_heap_same l_y2) i
      clear kp
      have H_hN := Lib.hid hN; clear hN; have H_hgr := Lib.hid hgr; clear hgr; have H_hgp := Lib.hid hgp; clear hgp; have H_hgt2 := Lib.hid hgt2; clear hgt2; have H_hqt2 := Lib.hid hqt2; clear hqt2; have H_hfin := Lib.hid hfin; clear hfin; have H_hgw := Lib.hid hgw; clear hgw; have H_hpc := Lib.hid hpc; clear hpc; have H_hl0 := Lib.hid hl0; clear hl0; have H_hT0 := Lib.hid hT0; clear hT0; have H_hm1 := Lib.hid hm1; clear hm1; have H_hm2 := Lib.hid hm2; clear hm2
      go_wp2_with fail
      refine bodyPost_ret (by simp [results, Try.results65, go_sem, H_hpc.out] <;> try rfl) rfl ?_
      exact ⟨_, _, _, _, _, _, _, _, rfl, H_hfin.out _, H_hgw.out _⟩
end
end Go.Proofs.Ytiinhofmhoplfaa
namespace Go.Proofs.Ytiinhofmhoplfaa
open Go.ChangeShapes Go.WideShapes Go.ChangeAt Go.RowKit
structure KP (w0 w : World) (b : Nat) (K : List Vg.Kt) (M : List Vg.Mx) (v : Value) (K2 : List Vg.Kt) (X : List (Nat × Obj)) : Prop where
  ex : ∃ S F, KX w0 w b K M S (fun w => Vg.FKS F w v K2 ∧ Vg.Has X w) ∧ (∀ k, F k → S k) ∧ (∀ k, Vg.Dom X k → S k) ∧ (∀ k, F k → ¬ Vg.Dom X k)
section
variable {w w' w0 : World} {b n k g : Nat} {K K' K2 K3 : List Vg.Kt} {M M' : List Vg.Mx} {v v' : Value} {X Y : List (Nat × Obj)} {o : Obj} {r x d1 d2 d3 m c a t i : Int} {is : Bool} {F : Nat → Prop}
theorem KP.dep {S F : Nat → Prop} (hF : ∀ k, F k → S k) (hX : ∀ k, Vg.Dom X k → S k) : ∀ w w', Vg.Kept S w w' → (Vg.FKS F w v K2 ∧ Vg.Has X w) → (Vg.FKS F w' v K2 ∧ Vg.Has X w') := fun w w' hk h =>
  ⟨h.1.kept ⟨hk.size, fun k hF' => hk.block k (hF k hF')⟩, Vg.Has.dep hX w w' hk h.2⟩
theorem KP.fk (h : KP w0 w b K M v K2 X) : Vg.FK w v K2 := by obtain ⟨S, F, h1, -⟩ := h.ex; exact h1.p.1.fk
theorem KP.gr (h : KP w0 w b K M v K2 X) : Vg.Grows w0 w := by obtain ⟨S, F, h1, -⟩ := h.ex; exact h1.gr
theorem KP.blk (h : KP w0 w b K M v K2 X) (hx : (g, o) ∈ X) : Vg.blk w g = some o := by obtain ⟨S, F, h1, -⟩ := h.ex; exact h1.p.2 _ hx
theorem KP.grows (h : KP w0 w b K M v K2 X) (hg : Vg.Grows w w') : KP w0 w' b K M v K2 X := by
  obtain ⟨S, F, h1, h2⟩ := h.ex
  exact ⟨S, F, h1.grows hg, h2⟩
theorem KP.sub (h : KP w0 w b K M v K2 X) (hs : ∀ p ∈ Y, p ∈ X) : KP w0 w b K M v K2 Y := by
  obtain ⟨S, F, h1, h2, h3, h4⟩ := h.ex
  have hD : ∀ k, Vg.Dom Y k → Vg.Dom X k := fun k ⟨o, hk⟩ => ⟨o, hs _ hk⟩
  exact ⟨S, F, h1.less (fun k hk => hk) ⟨h1.p.1, fun p hp => h1.p.2 p (hs p hp)⟩ (KP.dep h2 fun k hk => h3 k (hD k hk)), h2, fun k hk => h3 k (hD k hk), fun k hk hd => h4 k hk (hD k hd)⟩
/-- A new block. -/
theorem KP.new (h : KP w0 w b K M v K2 X) (hg : Vg.Grows w w') (hb : Vg.blk w' g = some o) (hlo : w.heap.size ≤ g) : KP w0 w' b K M v K2 ((g, o) :: X) := by
  obtain ⟨S, F, h1, h2, h3, h4⟩ := h.ex
  have h5 := h1.grows hg
  refine ⟨fun k => S k ∨ k = g, F, h1.change (tt := fun _ => False) (Vg.Touch.of_grows hg) (fun k hk => hk.elim) (fun k hk => hk.elim) (fun k hk => ?_) ⟨h5.p.1, h5.p.2.cons hb⟩ (KP.dep (fun k hk => .inl (h2 k hk)) fun k hk => ?_), fun k hk => .inl (h2 k hk), fun k hk => ?_, fun k hk hd => ?_⟩
  · rcases hk with hk | rfl
    · exact ⟨.inl hk, Nat.lt_of_lt_of_le (h1.kz.lt k hk) hg.size⟩
    · exact ⟨.inr hlo, Vg.lt_of hb⟩
  · rcases hk.cons with rfl | hk
    · exact .inr rfl
    · exact .inl (h3 k hk)
  · rcases hk.cons with rfl | hk
    · exact .inr rfl
    · exact .inl (h3 k hk)
  · rcases hd.cons with rfl | hd
    · have := h1.kz.lt _ (h2 _ hk); omega
    · exact h4 k hk hd
/-- A box is another one. -/
theorem KP.put (o' : Obj) (h : KP w0 w b K M v K2 ((g, o) :: X)) (hlo : w0.heap.size ≤ g) (hne : ∀ p ∈ X, g ≠ p.1) : KP w0 (Vg.put w g o') b K M v K2 ((g, o') :: X) := by
  obtain ⟨S, F, h1, h2, h3, h4⟩ := h.ex
  have hg := Vg.lt_of (h1.p.2 _ List.mem_cons_self)
  have hT : Vg.Touch (fun k => k = g) w (Vg.put w g o') := Vg.Touch.put (t := fun k => k = g) (Vg.Touch.refl _ _) rfl o'
  have hD : ∀ k, Vg.Dom ((g, o') :: X) k → Vg.Dom ((g, o) :: X) k := fun k hk => by
    rcases hk.cons with rfl | hk
    · exact Vg.Dom.here
    · exact hk.there
  refine ⟨S, F, h1.change hT (fun k hk => hk ▸ h3 _ Vg.Dom.here) (fun k hk => by omega) (fun k hk => ⟨.inl hk, by rw [Vg.put_size]; exact h1.kz.lt k hk⟩) ⟨h1.p.1.kept ⟨by rw [Vg.put_size]; exact Nat.le_refl _, fun k hk => Vg.put_heap_other fun hh => h4 k hk (hh ▸ Vg.Dom.here)⟩, Vg.Has.cons (fun p hp => ?_) (Vg.put_heap_same hg)⟩ (KP.dep h2 fun k hk => h3 k (hD k hk)), h2, fun k hk => h3 k (hD k hk), fun k hk hd => h4 k hk (hD k hd)⟩
  exact (Vg.put_heap_other (hne p hp)).trans (h1.p.2 p (List.mem_cons_of_mem _ hp))
/-- The document's kern is another one, in old blocks of its own and new ones. -/
theorem KP.val {S : Nat → Prop} (h1 : KX w0 w b K M S (fun w => Vg.FKS F w v K2 ∧ Vg.Has X w)) (h2 : ∀ k, F k → S k) (h3 : ∀ k, Vg.Dom X k → S k) (h4 : ∀ k, F k → ¬ Vg.Dom X k) (hg : Vg.Grows w w') (h0 : 0 < K3.length) (hv : Vg.FKS (fun k => F k ∨ w.heap.size ≤ k) w' v' K3) : KP w0 w' b K M v' K3 X := by
  have h5 := h1.grows hg
  have h6 := hv.bound h0
  have hDl : ∀ k, Vg.Dom X k → k < w.heap.size := fun k hk => h1.kz.lt k (h3 k hk)
  refine ⟨fun k => (S k ∨ w.heap.size ≤ k) ∧ k < w'.heap.size, _, h1.change (tt := fun _ => False) (Vg.Touch.of_grows hg) (fun k hk => hk.elim) (fun k hk => hk.elim) (fun k hk => hk) ⟨h6, h5.p.2⟩ (KP.dep (fun k hk => ⟨hk.1.imp (h2 k) id, hk.2⟩) fun k hk => ⟨.inl (h3 k hk), Nat.lt_of_lt_of_le (hDl k hk) hg.size⟩), fun k hk => ⟨hk.1.imp (h2 k) id, hk.2⟩, fun k hk => ⟨.inl (h3 k hk), Nat.lt_of_lt_of_le (hDl k hk) hg.size⟩, fun k hk hd => ?_⟩
  rcases hk.1 with h7 | h7
  · exact h4 k h7 hd
  · have := hDl k hd; omega
theorem kp_release (i c a : Int) (h : KP w0 w b K M v K2 X) (hI : Vg.Kn.Inv k K) (hk : k ≤ 1000000) (hx : Vg.Kn.release K i c a = (K', r)) :
    Calls Try.prog 81 #[.pointer (some ⟨b, 0, none⟩), .int .i64 i, .int .i64 c, .int .i64 a] w fun e w' => e = .returned (.int .i64 r) ∧ KP w0 w' b K' M v K2 X := by
  obtain ⟨S, F, h1, h2⟩ := h.ex
  refine (kx_release i c a h1 hI hk hx).mono ?_
  rintro e w' ⟨rfl, hz⟩
  exact ⟨rfl, S, F, hz, h2⟩
theorem kp_suspend (i : Int) (h : KP w0 w b K M v K2 X) (hx : Vg.Kn.suspend K M i = (K', r)) :
    Calls Try.prog 78 #[.pointer (some ⟨b, 0, none⟩), .int .i64 i] w fun e w' => e = .returned (.int .i64 r) ∧ KP w0 w' b K' M v K2 X := by
  obtain ⟨S, F, h1, h2⟩ := h.ex
  refine (kx_suspend i h1 hx).mono ?_
  rintro e w' ⟨rfl, hz⟩
  exact ⟨rfl, S, F, hz, h2⟩
theorem kp_resume (i : Int) (h : KP w0 w b K M v K2 X) (hx : Vg.Kn.resume K i = (K', r)) :
    Calls Try.prog 79 #[.pointer (some ⟨b, 0, none⟩), .int .i64 i] w fun e w' => e = .returned (.int .i64 r) ∧ KP w0 w' b K' M v K2 X := by
  obtain ⟨S, F, h1, h2⟩ := h.ex
  refine (kx_resume i h1 hx).mono ?_
  rintro e w' ⟨rfl, hz⟩
  exact ⟨rfl, S, F, hz, h2⟩
theorem kp_run (h : KP w0 w b K M v K2 X) (hI : Vg.Kn.Inv k K) (hx : Vg.Kn.run K M m = (K', M', (d1, d2, d3), is, r)) :
    Calls Try.prog 87 #[.pointer (some ⟨b, 0, none⟩), .int .i64 m] w fun e w' => e = .returned (.tuple #[.agg #[.int .i64 d1, .int .i64 d2, .int .i64 d3], .bool is, .int .i64 r]) ∧ KP w0 w' b K' M' v K2 X := by
  obtain ⟨S, F, h1, h2⟩ := h.ex
  refine (kx_run h1 hI hx).mono ?_
  rintro e w' ⟨rfl, hz⟩
  exact ⟨rfl, S, F, hz, h2⟩
theorem kp_pick (h : KP w0 w b K M v K2 X) (hr : Vg.Kn.best K M = r) (hm : max r 0 = m) (his : decide (0 ≤ r) = is) :
    Calls Try.prog 67 #[.pointer (some ⟨b, 0, none⟩)] w fun e w' => e = .returned (.tuple #[.int .i64 m, .bool is]) ∧ KP w0 w' b K M v K2 X := by
  obtain ⟨S, F, h1, h2⟩ := h.ex
  refine (kx_pick h1 hr hm his).mono ?_
  rintro e w' ⟨rfl, hz⟩
  exact ⟨rfl, S, F, hz, h2⟩
theorem kp_left (h : KP w0 w b K M v K2 X) (hI : Vg.Kn.Inv k K) (hx : Vg.Kn.left K M = x) :
    Calls Try.prog 69 #[.pointer (some ⟨b, 0, none⟩)] w fun e w' => e = .returned (.int .i64 x) ∧ KP w0 w' b K M v K2 X := by
  obtain ⟨S, F, h1, h2⟩ := h.ex
  refine (kx_left h1 hI hx).mono ?_
  rintro e w' ⟨rfl, hz⟩
  exact ⟨rfl, S, F, hz, h2⟩
theorem kp_level (i : Int) (h : KP w0 w b K M v K2 X) (hx : Vg.Kn.level K M i = x) :
    Calls Try.prog 71 #[.pointer (some ⟨b, 0, none⟩), .int .i64 i] w fun e w' => e = .returned (.int .i64 x) ∧ KP w0 w' b K M v K2 X := by
  obtain ⟨S, F, h1, h2⟩ := h.ex
  refine (kx_level i h1 hx).mono ?_
  rintro e w' ⟨rfl, hz⟩
  exact ⟨rfl, S, F, hz, h2⟩
theorem kp_holds (i : Int) (h : KP w0 w b K M v K2 X) (hx : Vg.Kn.holds K M i = is) :
    Calls Try.prog 73 #[.pointer (some ⟨b, 0, none⟩), .int .i64 i] w fun e w' => e = .returned (.bool is) ∧ KP w0 w' b K M v K2 X := by
  obtain ⟨S, F, h1, h2⟩ := h.ex
  refine (kx_holds i h1 hx).mono ?_
  rintro e w' ⟨rfl, hz⟩
  exact ⟨rfl, S, F, hz, h2⟩
theorem kp_waiting (i : Int) (h : KP w0 w b K M v K2 X) (hx : Vg.Kn.waiting K i = x) :
    Calls Try.prog 76 #[.pointer (some ⟨b, 0, none⟩), .int .i64 i] w fun e w' => e = .returned (.int .i64 x) ∧ w = w' := by
  obtain ⟨S, F, h1, h2⟩ := h.ex
  exact kx_waiting i h1 hx
theorem kp_lost (i : Int) (h : KP w0 w b K M v K2 X) (hx : Vg.Kn.lost K i = x) :
    Calls Try.prog 77 #[.pointer (some ⟨b, 0, none⟩), .int .i64 i] w fun e w' => e = .returned (.int .i64 x) ∧ w = w' := by
  obtain ⟨S, F, h1, h2⟩ := h.ex
  exact kx_lost i h1 hx
abbrev kv (ta : Option Addr) (tc : Nat) (ja : Option Addr) (jc : Nat) (la : Option Addr) (lc : Nat) (oa : Option Addr) (oc n : Nat) : Value := .agg #[.slice ta n tc, .slice ja n jc, .slice la n lc, .slice oa n oc]
theorem inv_j16 (hI : Vg.Kn.Inv k K) : ∀ x ∈ K, x.J.length ≤ 16 := fun x hx => by have h1 := (hI x hx).len; have h2 := (hI x hx).t.2.1.2; omega
theorem kr_suspend (i : Int) (h : KP w0 w b K M v K X) (hm : Vg.Kn.HM K M) (hI : Vg.Kn.Inv k K) (hk : k ≤ 1000000) (hn : K.length = n) (hn0 : 0 < n) (hn32 : n ≤ 32) (hx : Vg.Kn.suspend K M i = (K', r)) :
    Calls Try.prog 117 #[v, .int .i64 i] w fun e w' => ∃ ta tc ja jc la lc oa oc, e = .returned (.tuple #[kv ta tc ja jc la lc oa oc n, .int .i64 r]) ∧ KP w0 w' b K M (kv ta tc ja jc la lc oa oc n) K' X := by
  subst hn
  have hl : K'.length = K.length := by have := congrArg List.length (Vg.Kn.suspend_t K M i); rw [hx] at this; simpa using this
  obtain ⟨S, F, h1, h2, h3, h4⟩ := h.ex
  refine (rf_suspend i h1.p.1 hm hn32 (inv_j16 hI) hx).mono ?_
  rintro e w' ⟨ta, tc, ja, jc, la, lc, oa, oc, rfl, hf, hg⟩
  exact ⟨ta, tc, ja, jc, la, lc, oa, oc, rfl, KP.val h1 h2 h3 h4 hg (by omega) hf⟩
theorem kr_resume (i : Int) (h : KP w0 w b K M v K X) (hm : Vg.Kn.HM K M) (hI : Vg.Kn.Inv k K) (hk : k ≤ 1000000) (hn : K.length = n) (hn0 : 0 < n) (hn32 : n ≤ 32) (hx : Vg.Kn.resume K i = (K', r)) :
    Calls Try.prog 118 #[v, .int .i64 i] w fun e w' => ∃ ta tc ja jc la lc oa oc, e = .returned (.tuple #[kv ta tc ja jc la lc oa oc n, .int .i64 r]) ∧ KP w0 w' b K M (kv ta tc ja jc la lc oa oc n) K' X := by
  subst hn
  have hl : K'.length = K.length := by have := congrArg List.length (Vg.Kn.resume_t K i); rw [hx] at this; simpa using this
  obtain ⟨S, F, h1, h2, h3, h4⟩ := h.ex
  refine (rf_resume i h1.p.1 hm hn32 (inv_j16 hI) hx).mono ?_
  rintro e w' ⟨ta, tc, ja, jc, la, lc, oa, oc, rfl, hf, hg⟩
  exact ⟨ta, tc, ja, jc, la, lc, oa, oc, rfl, KP.val h1 h2 h3 h4 hg (by omega) hf⟩
theorem kr_release (i c a : Int) (h : KP w0 w b K M v K X) (hm : Vg.Kn.HM K M) (hI : Vg.Kn.Inv k K) (hk : k ≤ 1000000) (hn : K.length = n) (hn0 : 0 < n) (hn32 : n ≤ 32) (hx : Vg.Kn.release K i c a = (K', r)) :
    Calls Try.prog 115 #[v, .int .i64 i, .int .i64 c, .int .i64 a] w fun e w' => ∃ ta tc ja jc la lc oa oc, e = .returned (.tuple #[kv ta tc ja jc la lc oa oc n, .int .i64 r]) ∧ KP w0 w' b K M (kv ta tc ja jc la lc oa oc n) K' X := by
  subst hn
  have hl : K'.length = K.length := by have := congrArg List.length (Vg.Kn.release_map (·.t) (fun _ _ _ => rfl) K i c a); rw [hx] at this; simpa using this
  obtain ⟨S, F, h1, h2, h3, h4⟩ := h.ex
  refine (rf_release i c a h1.p.1 hn32 (inv_j16 hI) (fun x hx => by have := (hI x hx).lo; omega) hx).mono ?_
  rintro e w' ⟨ta, tc, ja, jc, la, lc, oa, oc, rfl, hf, hg⟩
  exact ⟨ta, tc, ja, jc, la, lc, oa, oc, rfl, KP.val h1 h2 h3 h4 hg (by omega) hf⟩
end
end Go.Proofs.Ytiinhofmhoplfaa
namespace Vg
open Go
def Kn.plays (K : List Kt) (M : List Mx) (kd t c a : Int) : List Kt × List Mx :=
  if kd = 0 then ((Kn.release K t c a).1, M) else if kd = 1 ∨ kd = 4 then ((Kn.run K M (if kd = 4 then min c (Kn.left K M) else c)).1, (Kn.run K M (if kd = 4 then min c (Kn.left K M) else c)).2.1) else
  if kd = 2 then ((Kn.suspend K M t).1, M) else if kd = 3 then ((Kn.resume K t).1, M) else (K, M)
end Vg
namespace Go.Proofs.Ytiinhofmhoplfaa
open Go.ChangeShapes Go.WideShapes Go.ChangeAt Go.RowKit
section
variable {w w' w0 : World} {b n k g : Nat} {K K' K2 K3 : List Vg.Kt} {M M' : List Vg.Mx} {v v' : Value} {X Y Z : List (Nat × Obj)} {o : Obj} {r x d1 d2 d3 m c a t i kd : Int} {is : Bool} {F : Nat → Prop}

theorem KP.fin (o' : Obj) (h : KP w0 w b K M v K2 Z) (hz : (g, o) ∈ Z) (hX : ∀ p ∈ X, p ∈ Z) (hlo : w0.heap.size ≤ g) (hne : ∀ p ∈ X, p.1 < g) : KP w0 (Vg.put w g o') b K M v K2 X :=
  KP.sub (KP.put o' (KP.sub (Y := (g, o) :: X) h (fun p hp => by
    rcases List.mem_cons.1 hp with rfl | hp
    · exact hz
    · exact hX p hp)) hlo (fun p hp => by have := hne p hp; omega)) (fun p hp => List.mem_cons_of_mem _ hp)
theorem KP.xlt (h : KP w0 w b K M v K2 X) : ∀ p ∈ X, p.1 < w.heap.size := fun p hp => Vg.lt_of (h.blk (g := p.1) (o := p.2) hp)
theorem kp_plays_release (h : KP w0 w b K M v K X) (hm : Vg.Kn.HM K M) (hI : Vg.Kn.Inv k K) (hk : k ≤ 1000000) (hn : K.length = n) (hn0 : 0 < n) (hn32 : n ≤ 32) (hx : Vg.Kn.release K t c a = (K', r)) :
    Calls Try.prog 66 #[.pointer (some ⟨b, 0, none⟩), v, .agg #[.int .i64 0, .int .i64 t, .int .i64 c, .int .i64 a]] w fun e w' => ∃ ta tc ja jc la lc oa oc, e = .returned (.tuple #[kv ta tc ja jc la lc oa oc n, .bool true]) ∧ KP w0 w' b K' M (kv ta tc ja jc la lc oa oc n) K' X := by
  obtain ⟨ta, tc, ja, jc, la, lc, oa, oc, rfl, -⟩ := h.fk.shape
  rw [hn] at h ⊢
  have hxl := h.xlt
  have hgr := h.gr.size
  have h1 := KP.new h (g := w.heap.size) (w' := w.alloc (rkC ta tc ja jc la lc oa oc n)) (o := rkC ta tc ja jc la lc oa oc n) ((Vg.Grows.refl _).alloc _) (Vg.alloc_heap_at rfl) (Nat.le_refl _)
  have h2 := KP.new h1 (g := w.heap.size + 1) (w' := (w.alloc (rkC ta tc ja jc la lc oa oc n)).alloc (act14 0 t c a)) (o := act14 0 t c a) ((Vg.Grows.refl _).alloc _) (Vg.alloc_heap_at (by simp)) (by simp)
  have h3 := KP.new h2 (g := w.heap.size + 1 + 1) (w' := ((w.alloc (rkC ta tc ja jc la lc oa oc n)).alloc (act14 0 t c a)).alloc rv0) (o := rv0) ((Vg.Grows.refl _).alloc _) (Vg.alloc_heap_at (by simp)) (by simp)
  have H_h := Lib.hid h; clear h; have H_h1 := Lib.hid h1; clear h1; have H_h2 := Lib.hid h2; clear h2; have H_h3 := Lib.hid h3; clear h3; have H_hm := Lib.hid hm; clear hm; have H_hI := Lib.hid hI; clear hI; have H_hn := Lib.hid hn; clear hn; have H_hxl := Lib.hid hxl; clear hxl; have H_hx := Lib.hid hx; clear hx
  go_enter Try.func66, Try.ntmps66
  go_upto_region 1 with fail
  obtain ⟨W1, hW1⟩ : ∃ W1, ((w.alloc (rkC ta tc ja jc la lc oa oc n)).alloc (act14 0 t c a)).alloc rv0 = W1 := ⟨_, rfl⟩
  have h3 := H_h3.out
  rw [hW1] at h3 ⊢
  obtain ⟨b4, hb4⟩ : ∃ b4, w.heap.size = b4 := ⟨_, rfl⟩
  rw [hb4] at h3 hgr ⊢
  obtain ⟨b5, hb5⟩ : ∃ b5, b4 + 1 = b5 := ⟨_, rfl⟩
  rw [hb5] at h3 ⊢
  obtain ⟨b6, hb6⟩ : ∃ b6, b5 + 1 = b6 := ⟨_, rfl⟩
  rw [hb6] at h3 ⊢
  clear hW1 H_h1 H_h2 H_h3
  have n1 : b4 ≠ b5 := by omega
  have n2 : b4 ≠ b6 := by omega
  have n3 : b5 ≠ b6 := by omega
  have n4 : b5 ≠ b4 := by omega
  have n5 : b6 ≠ b4 := by omega
  have n6 : b6 ≠ b5 := by omega
  have hlo6 : w0.heap.size ≤ b6 := by omega
  have hxl6 : ∀ p ∈ X, p.1 < b6 := fun p hp => by have := H_hxl.out p hp; omega
  have y4 := h3.blk (g := b4) (o := rkC ta tc ja jc la lc oa oc n) (by simp)
  have y5 := h3.blk (g := b5) (o := act14 0 t c a) (by simp)
  have y6 := h3.blk (g := b6) (o := rv0) (by simp)
  have c_y4 := Vg.cells_of y4; have f_y4 := Vg.frozen_of y4; have p_y4 := Vg.setCell_of y4; have l_y4 := Vg.lt_of y4; have H_y4 := Lib.hid y4; clear y4; have c_y5 := Vg.cells_of y5; have f_y5 := Vg.frozen_of y5; have p_y5 := Vg.setCell_of y5; have l_y5 := Vg.lt_of y5; have H_y5 := Lib.hid y5; clear y5; have c_y6 := Vg.cells_of y6; have f_y6 := Vg.frozen_of y6; have p_y6 := Vg.setCell_of y6; have l_y6 := Vg.lt_of y6; have H_y6 := Lib.hid y6; clear y6
  have H_h3 := Lib.hid h3; clear h3; have H_hb4 := Lib.hid hb4; clear hb4; have H_hb5 := Lib.hid hb5; clear hb5; have H_hb6 := Lib.hid hb6; clear hb6; have H_hxl6 := Lib.hid hxl6; clear hxl6
  have hrr : (r == r) = true := by simp
  go_upto_region 4 with ((go_at_call 115; (with_reducible refine (kr_release t c a H_h3.out H_hm.out H_hI.out hk H_hn.out hn0 hn32 H_hx.out).mono ?_); rintro e w2 ⟨ta', tc', ja', jc', la', lc', oa', oc', rfl, h4⟩; have z5 := h4.blk (g := b5) (o := act14 0 t c a) (by simp); have z6 := h4.blk (g := b6) (o := rv0) (by simp); clear c_y4 f_y4 p_y4 c_y5 f_y5 p_y5 c_y6 f_y6 p_y6; have c_z5 := Vg.cells_of z5; have f_z5 := Vg.frozen_of z5; have p_z5 := Vg.setCell_of z5; have l_z5 := Vg.lt_of z5; have H_z5 := Lib.hid z5; clear z5; have c_z6 := Vg.cells_of z6; have f_z6 := Vg.frozen_of z6; have p_z6 := Vg.setCell_of z6; have l_z6 := Vg.lt_of z6; have H_z6 := Lib.hid z6; clear z6; have H_h4 := Lib.hid h4; clear h4))
  have h5 := KP.new H_h4.out (g := w2.heap.size) (w' := w2.alloc (rkC ta' tc' ja' jc' la' lc' oa' oc' n)) (o := rkC ta' tc' ja' jc' la' lc' oa' oc' n) ((Vg.Grows.refl _).alloc _) (Vg.alloc_heap_at rfl) (Nat.le_refl _)
  obtain ⟨W3, hW3⟩ : ∃ W3, w2.alloc (rkC ta' tc' ja' jc' la' lc' oa' oc' n) = W3 := ⟨_, rfl⟩
  rw [hW3] at h5 ⊢
  obtain ⟨b8, hb8⟩ : ∃ b8, w2.heap.size = b8 := ⟨_, rfl⟩
  have m1 : b8 ≠ b6 := by omega
  have m2 : b6 ≠ b8 := by omega
  have m3 : b8 ≠ b5 := by omega
  have m4 : b5 ≠ b8 := by omega
  rw [hb8] at h5 ⊢
  clear hW3
  have x5 := h5.blk (g := b5) (o := act14 0 t c a) (by simp)
  have x6 := h5.blk (g := b6) (o := rv0) (by simp)
  have x8 := h5.blk (g := b8) (o := rkC ta' tc' ja' jc' la' lc' oa' oc' n) (by simp)
  clear c_z5 f_z5 p_z5 c_z6 f_z6 p_z6
  clear l_z5 l_z6
  have c_x5 := Vg.cells_of x5; have f_x5 := Vg.frozen_of x5; have p_x5 := Vg.setCell_of x5; have l_x5 := Vg.lt_of x5; have H_x5 := Lib.hid x5; clear x5; have c_x6 := Vg.cells_of x6; have f_x6 := Vg.frozen_of x6; have p_x6 := Vg.setCell_of x6; have l_x6 := Vg.lt_of x6; have H_x6 := Lib.hid x6; clear x6; have c_x8 := Vg.cells_of x8; have f_x8 := Vg.frozen_of x8; have p_x8 := Vg.setCell_of x8; have l_x8 := Vg.lt_of x8; have H_x8 := Lib.hid x8; clear x8
  have H_h5 := Lib.hid h5; clear h5; have H_hb8 := Lib.hid hb8; clear hb8
  refine wp_region_held_drew (S := fun w' => b8 < w'.heap.size ∧ b5 < w'.heap.size ∧ w'.cell? ⟨b8, 0, none⟩ = some (.slice ta' n tc') ∧ w'.cell? ⟨b8, 1, none⟩ = some (.slice ja' n jc') ∧ w'.cell? ⟨b8, 2, none⟩ = some (.slice la' n lc') ∧ w'.cell? ⟨b8, 3, none⟩ = some (.slice oa' n oc') ∧ w'.cell? ⟨b5, 1, none⟩ = some (.int .i64 t) ∧ w'.cell? ⟨b5, 2, none⟩ = some (.int .i64 c) ∧ w'.cell? ⟨b5, 3, none⟩ = some (.int .i64 a)) (by kernel_rfl) (by go_split_ands <;> (try dsimp only) <;> go_simp) (fun hHeld => ?_)
  refine wpAnyH_take (i := 0) (oi := _) (v := ?v1) rfl (by kernel_rfl) (by kernel_rfl) (by kernel_rfl) (fun _ _ _ h => h) (Or.inl ⟨by rfl, ?hy1⟩) (by assumption) ?rest1
  case hy1 => (intro w hSw; (try dsimp only at hSw); go_simp; first | done | with_reducible rfl)
  (try simp only [List.getElem_toArray, List.getElem_cons_succ, List.getElem_cons_zero, Act.put, List.setIfInBounds_toArray, List.set_cons_zero, List.set_cons_succ])
  refine wpAnyH_take (i := 1) (oi := _) (v := ?v2) rfl (by kernel_rfl) (by kernel_rfl) (by kernel_rfl) (fun _ _ _ h => h) (Or.inl ⟨by rfl, ?hy2⟩) (by assumption) ?rest2
  case hy2 => (intro w hSw; (try dsimp only at hSw); go_simp; first | done | with_reducible rfl)
  (try simp only [List.getElem_toArray, List.getElem_cons_succ, List.getElem_cons_zero, Act.put, List.setIfInBounds_toArray, List.set_cons_zero, List.set_cons_succ])
  refine wpAnyH_take (i := 2) (oi := _) (v := ?v3) rfl (by kernel_rfl) (by kernel_rfl) (by kernel_rfl) (fun _ _ _ h => h) (Or.inl ⟨by rfl, ?hy3⟩) (by assumption) ?rest3
  case hy3 => (intro w hSw; (try dsimp only at hSw); go_simp; first | done | with_reducible rfl)
  (try simp only [List.getElem_toArray, List.getElem_cons_succ, List.getElem_cons_zero, Act.put, List.setIfInBounds_toArray, List.set_cons_zero, List.set_cons_succ])
  refine wpAnyH_take (i := 3) (oi := _) (v := ?v4) rfl (by kernel_rfl) (by kernel_rfl) (by kernel_rfl) (fun _ _ _ h => h) (Or.inl ⟨by rfl, ?hy4⟩) (by assumption) ?rest4
  case hy4 => (intro w hSw; (try dsimp only at hSw); go_simp; first | done | with_reducible rfl)
  (try simp only [List.getElem_toArray, List.getElem_cons_succ, List.getElem_cons_zero, Act.put, List.setIfInBounds_toArray, List.set_cons_zero, List.set_cons_succ])
  refine wpAnyH_take (i := 4) (oi := _) (v := ?v5) rfl (by kernel_rfl) (by kernel_rfl) (by kernel_rfl) (fun _ _ _ h => h) (Or.inl ⟨by rfl, ?hy5⟩) (by assumption) ?rest5
  case hy5 => (intro w hSw; (try dsimp only at hSw); go_simp; first | done | with_reducible rfl)
  (try simp only [List.getElem_toArray, List.getElem_cons_succ, List.getElem_cons_zero, Act.put, List.setIfInBounds_toArray, List.set_cons_zero, List.set_cons_succ])
  refine wpAnyH_take (i := 5) (oi := _) (v := ?v6) rfl (by kernel_rfl) (by kernel_rfl) (by kernel_rfl) (fun _ _ _ h => h) (Or.inl ⟨by rfl, ?hy6⟩) (by assumption) ?rest6
  case hy6 => (intro w hSw; (try dsimp only at hSw); go_simp; first | done | with_reducible rfl)
  (try simp only [List.getElem_toArray, List.getElem_cons_succ, List.getElem_cons_zero, Act.put, List.setIfInBounds_toArray, List.set_cons_zero, List.set_cons_succ])
  refine wpAnyH_take (i := 6) (oi := _) (v := ?v7) rfl (by kernel_rfl) (by kernel_rfl) (by kernel_rfl) (fun _ _ _ h => h) (Or.inl ⟨by rfl, ?hy7⟩) (by assumption) ?rest7
  case hy7 => (intro w hSw; (try dsimp only at hSw); go_simp; first | done | with_reducible rfl)
  (try simp only [List.getElem_toArray, List.getElem_cons_succ, List.getElem_cons_zero, Act.put, List.setIfInBounds_toArray, List.set_cons_zero, List.set_cons_succ])
  refine wpAnyH_take (i := 7) (oi := _) (v := ?v8) rfl (by kernel_rfl) (by kernel_rfl) (by kernel_rfl) (fun _ _ _ h => h) (Or.inl ⟨by rfl, ?hy8⟩) (by assumption) ?rest8
  case hy8 => (intro w hSw; (try dsimp only at hSw); go_simp; first | done | with_reducible rfl)
  (try simp only [List.getElem_toArray, List.getElem_cons_succ, List.getElem_cons_zero, Act.put, List.setIfInBounds_toArray, List.set_cons_zero, List.set_cons_succ])
  refine wpAnyH_take (i := 9) (oi := _) (v := ?v9) rfl (by kernel_rfl) (by kernel_rfl) (by kernel_rfl) (fun _ _ _ h => h) (Or.inl ⟨by rfl, ?hy9⟩) (by assumption) ?rest9
  case hy9 => (intro w hSw; (try dsimp only at hSw); go_simp; first | done | with_reducible rfl)
  (try simp only [List.getElem_toArray, List.getElem_cons_succ, List.getElem_cons_zero, Act.put, List.setIfInBounds_toArray, List.set_cons_zero, List.set_cons_succ])
  refine wpAnyH_ready (rs := [8]) (by kernel_rfl) (by simp) ?_
  refine AllReadyH.cons (o := _) rfl (fun K hK => ?st10) ?mo10
  case st10 =>
    go_simp
    ((go_at_call 81; (with_reducible refine (kp_release t c a (H_h5.out.grows (by (repeat' (first | (with_reducible exact Vg.Grows.refl _) | (with_reducible assumption) | (with_reducible refine Vg.Grows.alloc ?_ _) | (with_reducible refine Vg.Grows.plus ?_ _ _) | (with_reducible refine Vg.Grows.drewN ?_ _) | (with_reducible refine Vg.Grows.drew ?_) | (with_reducible refine Vg.Grows.setCell ?_ ?_ _) | (with_reducible refine Vg.Grows.put ?_ ?_ _) | omega | (simp; omega) | (simp; done))))) H_hI.out hk H_hx.out).mono ?_); rintro e w4 ⟨rfl, h6⟩; have t5 := h6.blk (g := b5) (o := act14 0 t c a) (by simp); have t6 := h6.blk (g := b6) (o := rv0) (by simp); have t8 := h6.blk (g := b8) (o := rkC ta' tc' ja' jc' la' lc' oa' oc' n) (by simp); clear c_x5 f_x5 p_x5 c_x6 f_x6 p_x6 c_x8 f_x8 p_x8; have c_t5 := Vg.cells_of t5; have f_t5 := Vg.frozen_of t5; have p_t5 := Vg.setCell_of t5; have l_t5 := Vg.lt_of t5; have H_t5 := Lib.hid t5; clear t5; have c_t6 := Vg.cells_of t6; have f_t6 := Vg.frozen_of t6; have p_t6 := Vg.setCell_of t6; have l_t6 := Vg.lt_of t6; have H_t6 := Lib.hid t6; clear t6; have c_t8 := Vg.cells_of t8; have f_t8 := Vg.frozen_of t8; have p_t8 := Vg.setCell_of t8; have l_t8 := Vg.lt_of t8; have H_t8 := Lib.hid t8; clear t8; have H_h6 := Lib.hid h6; clear h6))
    all_goals (try go_wp2_with fail)
    refine hK.out _ _ (by go_split_ands <;> (try dsimp only) <;> go_simp) (fun hHeld10 => ?_)
    clear hK K
    (try simp only [List.getElem_toArray, List.getElem_cons_succ, List.getElem_cons_zero, Act.put, List.setIfInBounds_toArray, List.set_cons_zero, List.set_cons_succ])
    refine wpAnyH_take (i := 10) (oi := _) (v := ?v11) rfl (by kernel_rfl) (by kernel_rfl) (by kernel_rfl) (fun _ _ _ h => h) (Or.inl ⟨by rfl, ?hy11⟩) (by assumption) ?rest11
    case hy11 => (intro w hSw; (try dsimp only at hSw); go_simp; first | done | with_reducible rfl)
    (try simp only [List.getElem_toArray, List.getElem_cons_succ, List.getElem_cons_zero, Act.put, List.setIfInBounds_toArray, List.set_cons_zero, List.set_cons_succ])
    refine wpAnyH_ready (rs := [11]) (by kernel_rfl) (by simp) ?_
    refine AllReadyH.cons (o := _) rfl (fun K hK => ?st12) ?mo12
    case st12 =>
      go_simp
      refine hK.out _ _ (by go_split_ands <;> (try dsimp only) <;> go_simp) (fun hHeld12 => ?_)
      clear hK K
      (try simp only [List.getElem_toArray, List.getElem_cons_succ, List.getElem_cons_zero, Act.put, List.setIfInBounds_toArray, List.set_cons_zero, List.set_cons_succ])
      refine wpAnyH_take (i := 12) (oi := _) (v := ?v13) rfl (by kernel_rfl) (by kernel_rfl) (by kernel_rfl) (fun _ _ _ h => h) (Or.inl ⟨by rfl, ?hy13⟩) (by assumption) ?rest13
      case hy13 => (intro w hSw; (try dsimp only at hSw); go_simp; first | done | with_reducible rfl)
      (try simp only [List.getElem_toArray, List.getElem_cons_succ, List.getElem_cons_zero, Act.put, List.setIfInBounds_toArray, List.set_cons_zero, List.set_cons_succ])
      refine wpAnyH_done (by kernel_rfl) ?_ _
      have hpc : ∀ (cs : Array Value) (i : Nat), (Vg.put w4 b6 (.cells cs 112)).cell? ⟨b6, i, none⟩ = cs[i]? := fun cs i => Vg.cells_of (Vg.put_heap_same l_t6) i
      have H_hpc := Lib.hid hpc; clear hpc
      go_wp2_with fail
      refine bodyPost_ret (by simp [results, Try.results66, go_sem, H_hpc.out] <;> try rfl) rfl ?_
      exact ⟨ta', tc', ja', jc', la', lc', oa', oc', rfl, KP.fin (o := rv0) _ H_h6.out (by simp) (fun p hp => by simp [hp]) hlo6 H_hxl6.out⟩
    exact AllReadyH.nil
  exact AllReadyH.nil
theorem kp_plays_suspend (h : KP w0 w b K M v K X) (hm : Vg.Kn.HM K M) (hI : Vg.Kn.Inv k K) (hk : k ≤ 1000000) (hn : K.length = n) (hn0 : 0 < n) (hn32 : n ≤ 32) (hx : Vg.Kn.suspend K M t = (K', r)) :
    Calls Try.prog 66 #[.pointer (some ⟨b, 0, none⟩), v, .agg #[.int .i64 2, .int .i64 t, .int .i64 c, .int .i64 a]] w fun e w' => ∃ ta tc ja jc la lc oa oc, e = .returned (.tuple #[kv ta tc ja jc la lc oa oc n, .bool true]) ∧ KP w0 w' b K' M (kv ta tc ja jc la lc oa oc n) K' X := by
  obtain ⟨ta, tc, ja, jc, la, lc, oa, oc, rfl, -⟩ := h.fk.shape
  rw [hn] at h ⊢
  have hxl := h.xlt
  have hgr := h.gr.size
  have h1 := KP.new h (g := w.heap.size) (w' := w.alloc (rkC ta tc ja jc la lc oa oc n)) (o := rkC ta tc ja jc la lc oa oc n) ((Vg.Grows.refl _).alloc _) (Vg.alloc_heap_at rfl) (Nat.le_refl _)
  have h2 := KP.new h1 (g := w.heap.size + 1) (w' := (w.alloc (rkC ta tc ja jc la lc oa oc n)).alloc (act14 2 t c a)) (o := act14 2 t c a) ((Vg.Grows.refl _).alloc _) (Vg.alloc_heap_at (by simp)) (by simp)
  have h3 := KP.new h2 (g := w.heap.size + 1 + 1) (w' := ((w.alloc (rkC ta tc ja jc la lc oa oc n)).alloc (act14 2 t c a)).alloc rv0) (o := rv0) ((Vg.Grows.refl _).alloc _) (Vg.alloc_heap_at (by simp)) (by simp)
  have H_h := Lib.hid h; clear h; have H_h1 := Lib.hid h1; clear h1; have H_h2 := Lib.hid h2; clear h2; have H_h3 := Lib.hid h3; clear h3; have H_hm := Lib.hid hm; clear hm; have H_hI := Lib.hid hI; clear hI; have H_hn := Lib.hid hn; clear hn; have H_hxl := Lib.hid hxl; clear hxl; have H_hx := Lib.hid hx; clear hx
  go_enter Try.func66, Try.ntmps66
  go_upto_region 1 with fail
  obtain ⟨W1, hW1⟩ : ∃ W1, ((w.alloc (rkC ta tc ja jc la lc oa oc n)).alloc (act14 2 t c a)).alloc rv0 = W1 := ⟨_, rfl⟩
  have h3 := H_h3.out
  rw [hW1] at h3 ⊢
  obtain ⟨b4, hb4⟩ : ∃ b4, w.heap.size = b4 := ⟨_, rfl⟩
  rw [hb4] at h3 hgr ⊢
  obtain ⟨b5, hb5⟩ : ∃ b5, b4 + 1 = b5 := ⟨_, rfl⟩
  rw [hb5] at h3 ⊢
  obtain ⟨b6, hb6⟩ : ∃ b6, b5 + 1 = b6 := ⟨_, rfl⟩
  rw [hb6] at h3 ⊢
  clear hW1 H_h1 H_h2 H_h3
  have n1 : b4 ≠ b5 := by omega
  have n2 : b4 ≠ b6 := by omega
  have n3 : b5 ≠ b6 := by omega
  have n4 : b5 ≠ b4 := by omega
  have n5 : b6 ≠ b4 := by omega
  have n6 : b6 ≠ b5 := by omega
  have hlo6 : w0.heap.size ≤ b6 := by omega
  have hxl6 : ∀ p ∈ X, p.1 < b6 := fun p hp => by have := H_hxl.out p hp; omega
  have y4 := h3.blk (g := b4) (o := rkC ta tc ja jc la lc oa oc n) (by simp)
  have y5 := h3.blk (g := b5) (o := act14 2 t c a) (by simp)
  have y6 := h3.blk (g := b6) (o := rv0) (by simp)
  have c_y4 := Vg.cells_of y4; have f_y4 := Vg.frozen_of y4; have p_y4 := Vg.setCell_of y4; have l_y4 := Vg.lt_of y4; have H_y4 := Lib.hid y4; clear y4; have c_y5 := Vg.cells_of y5; have f_y5 := Vg.frozen_of y5; have p_y5 := Vg.setCell_of y5; have l_y5 := Vg.lt_of y5; have H_y5 := Lib.hid y5; clear y5; have c_y6 := Vg.cells_of y6; have f_y6 := Vg.frozen_of y6; have p_y6 := Vg.setCell_of y6; have l_y6 := Vg.lt_of y6; have H_y6 := Lib.hid y6; clear y6
  have H_h3 := Lib.hid h3; clear h3; have H_hb4 := Lib.hid hb4; clear hb4; have H_hb5 := Lib.hid hb5; clear hb5; have H_hb6 := Lib.hid hb6; clear hb6; have H_hxl6 := Lib.hid hxl6; clear hxl6
  have hrr : (r == r) = true := by simp
  go_upto_region 15 with ((go_at_call 117; (with_reducible refine (kr_suspend t H_h3.out H_hm.out H_hI.out hk H_hn.out hn0 hn32 H_hx.out).mono ?_); rintro e w2 ⟨ta', tc', ja', jc', la', lc', oa', oc', rfl, h4⟩; have z5 := h4.blk (g := b5) (o := act14 2 t c a) (by simp); have z6 := h4.blk (g := b6) (o := rv0) (by simp); clear c_y4 f_y4 p_y4 c_y5 f_y5 p_y5 c_y6 f_y6 p_y6; have c_z5 := Vg.cells_of z5; have f_z5 := Vg.frozen_of z5; have p_z5 := Vg.setCell_of z5; have l_z5 := Vg.lt_of z5; have H_z5 := Lib.hid z5; clear z5; have c_z6 := Vg.cells_of z6; have f_z6 := Vg.frozen_of z6; have p_z6 := Vg.setCell_of z6; have l_z6 := Vg.lt_of z6; have H_z6 := Lib.hid z6; clear z6; have H_h4 := Lib.hid h4; clear h4))
  have h5 := KP.new H_h4.out (g := w2.heap.size) (w' := w2.alloc (rkC ta' tc' ja' jc' la' lc' oa' oc' n)) (o := rkC ta' tc' ja' jc' la' lc' oa' oc' n) ((Vg.Grows.refl _).alloc _) (Vg.alloc_heap_at rfl) (Nat.le_refl _)
  obtain ⟨W3, hW3⟩ : ∃ W3, w2.alloc (rkC ta' tc' ja' jc' la' lc' oa' oc' n) = W3 := ⟨_, rfl⟩
  rw [hW3] at h5 ⊢
  obtain ⟨b8, hb8⟩ : ∃ b8, w2.heap.size = b8 := ⟨_, rfl⟩
  have m1 : b8 ≠ b6 := by omega
  have m2 : b6 ≠ b8 := by omega
  have m3 : b8 ≠ b5 := by omega
  have m4 : b5 ≠ b8 := by omega
  rw [hb8] at h5 ⊢
  clear hW3
  have x5 := h5.blk (g := b5) (o := act14 2 t c a) (by simp)
  have x6 := h5.blk (g := b6) (o := rv0) (by simp)
  have x8 := h5.blk (g := b8) (o := rkC ta' tc' ja' jc' la' lc' oa' oc' n) (by simp)
  clear c_z5 f_z5 p_z5 c_z6 f_z6 p_z6
  clear l_z5 l_z6
  have c_x5 := Vg.cells_of x5; have f_x5 := Vg.frozen_of x5; have p_x5 := Vg.setCell_of x5; have l_x5 := Vg.lt_of x5; have H_x5 := Lib.hid x5; clear x5; have c_x6 := Vg.cells_of x6; have f_x6 := Vg.frozen_of x6; have p_x6 := Vg.setCell_of x6; have l_x6 := Vg.lt_of x6; have H_x6 := Lib.hid x6; clear x6; have c_x8 := Vg.cells_of x8; have f_x8 := Vg.frozen_of x8; have p_x8 := Vg.setCell_of x8; have l_x8 := Vg.lt_of x8; have H_x8 := Lib.hid x8; clear x8
  have H_h5 := Lib.hid h5; clear h5; have H_hb8 := Lib.hid hb8; clear hb8
  refine wp_region_held_drew (S := fun w' => b8 < w'.heap.size ∧ b5 < w'.heap.size ∧ w'.cell? ⟨b8, 0, none⟩ = some (.slice ta' n tc') ∧ w'.cell? ⟨b8, 1, none⟩ = some (.slice ja' n jc') ∧ w'.cell? ⟨b8, 2, none⟩ = some (.slice la' n lc') ∧ w'.cell? ⟨b8, 3, none⟩ = some (.slice oa' n oc') ∧ w'.cell? ⟨b5, 1, none⟩ = some (.int .i64 t)) (by kernel_rfl) (by go_split_ands <;> (try dsimp only) <;> go_simp) (fun hHeld => ?_)
  refine wpAnyH_take (i := 0) (oi := _) (v := ?v14) rfl (by kernel_rfl) (by kernel_rfl) (by kernel_rfl) (fun _ _ _ h => h) (Or.inl ⟨by rfl, ?hy14⟩) (by assumption) ?rest14
  case hy14 => (intro w hSw; (try dsimp only at hSw); go_simp; first | done | with_reducible rfl)
  (try simp only [List.getElem_toArray, List.getElem_cons_succ, List.getElem_cons_zero, Act.put, List.setIfInBounds_toArray, List.set_cons_zero, List.set_cons_succ])
  refine wpAnyH_take (i := 1) (oi := _) (v := ?v15) rfl (by kernel_rfl) (by kernel_rfl) (by kernel_rfl) (fun _ _ _ h => h) (Or.inl ⟨by rfl, ?hy15⟩) (by assumption) ?rest15
  case hy15 => (intro w hSw; (try dsimp only at hSw); go_simp; first | done | with_reducible rfl)
  (try simp only [List.getElem_toArray, List.getElem_cons_succ, List.getElem_cons_zero, Act.put, List.setIfInBounds_toArray, List.set_cons_zero, List.set_cons_succ])
  refine wpAnyH_take (i := 2) (oi := _) (v := ?v16) rfl (by kernel_rfl) (by kernel_rfl) (by kernel_rfl) (fun _ _ _ h => h) (Or.inl ⟨by rfl, ?hy16⟩) (by assumption) ?rest16
  case hy16 => (intro w hSw; (try dsimp only at hSw); go_simp; first | done | with_reducible rfl)
  (try simp only [List.getElem_toArray, List.getElem_cons_succ, List.getElem_cons_zero, Act.put, List.setIfInBounds_toArray, List.set_cons_zero, List.set_cons_succ])
  refine wpAnyH_take (i := 3) (oi := _) (v := ?v17) rfl (by kernel_rfl) (by kernel_rfl) (by kernel_rfl) (fun _ _ _ h => h) (Or.inl ⟨by rfl, ?hy17⟩) (by assumption) ?rest17
  case hy17 => (intro w hSw; (try dsimp only at hSw); go_simp; first | done | with_reducible rfl)
  (try simp only [List.getElem_toArray, List.getElem_cons_succ, List.getElem_cons_zero, Act.put, List.setIfInBounds_toArray, List.set_cons_zero, List.set_cons_succ])
  refine wpAnyH_take (i := 5) (oi := _) (v := ?v18) rfl (by kernel_rfl) (by kernel_rfl) (by kernel_rfl) (fun _ _ _ h => h) (Or.inl ⟨by rfl, ?hy18⟩) (by assumption) ?rest18
  case hy18 => (intro w hSw; (try dsimp only at hSw); go_simp; first | done | with_reducible rfl)
  (try simp only [List.getElem_toArray, List.getElem_cons_succ, List.getElem_cons_zero, Act.put, List.setIfInBounds_toArray, List.set_cons_zero, List.set_cons_succ])
  refine wpAnyH_ready (rs := [4]) (by kernel_rfl) (by simp) ?_
  refine AllReadyH.cons (o := _) rfl (fun K hK => ?st19) ?mo19
  case st19 =>
    go_simp
    ((go_at_call 78; (with_reducible refine (kp_suspend t (H_h5.out.grows (by (repeat' (first | (with_reducible exact Vg.Grows.refl _) | (with_reducible assumption) | (with_reducible refine Vg.Grows.alloc ?_ _) | (with_reducible refine Vg.Grows.plus ?_ _ _) | (with_reducible refine Vg.Grows.drewN ?_ _) | (with_reducible refine Vg.Grows.drew ?_) | (with_reducible refine Vg.Grows.setCell ?_ ?_ _) | (with_reducible refine Vg.Grows.put ?_ ?_ _) | omega | (simp; omega) | (simp; done))))) H_hx.out).mono ?_); rintro e w4 ⟨rfl, h6⟩; have t5 := h6.blk (g := b5) (o := act14 2 t c a) (by simp); have t6 := h6.blk (g := b6) (o := rv0) (by simp); have t8 := h6.blk (g := b8) (o := rkC ta' tc' ja' jc' la' lc' oa' oc' n) (by simp); clear c_x5 f_x5 p_x5 c_x6 f_x6 p_x6 c_x8 f_x8 p_x8; have c_t5 := Vg.cells_of t5; have f_t5 := Vg.frozen_of t5; have p_t5 := Vg.setCell_of t5; have l_t5 := Vg.lt_of t5; have H_t5 := Lib.hid t5; clear t5; have c_t6 := Vg.cells_of t6; have f_t6 := Vg.frozen_of t6; have p_t6 := Vg.setCell_of t6; have l_t6 := Vg.lt_of t6; have H_t6 := Lib.hid t6; clear t6; have c_t8 := Vg.cells_of t8; have f_t8 := Vg.frozen_of t8; have p_t8 := Vg.setCell_of t8; have l_t8 := Vg.lt_of t8; have H_t8 := Lib.hid t8; clear t8; have H_h6 := Lib.hid h6; clear h6))
    all_goals (try go_wp2_with fail)
    refine hK.out _ _ (by go_split_ands <;> (try dsimp only) <;> go_simp) (fun hHeld19 => ?_)
    clear hK K
    (try simp only [List.getElem_toArray, List.getElem_cons_succ, List.getElem_cons_zero, Act.put, List.setIfInBounds_toArray, List.set_cons_zero, List.set_cons_succ])
    refine wpAnyH_take (i := 6) (oi := _) (v := ?v20) rfl (by kernel_rfl) (by kernel_rfl) (by kernel_rfl) (fun _ _ _ h => h) (Or.inl ⟨by rfl, ?hy20⟩) (by assumption) ?rest20
    case hy20 => (intro w hSw; (try dsimp only at hSw); go_simp; first | done | with_reducible rfl)
    (try simp only [List.getElem_toArray, List.getElem_cons_succ, List.getElem_cons_zero, Act.put, List.setIfInBounds_toArray, List.set_cons_zero, List.set_cons_succ])
    refine wpAnyH_ready (rs := [7]) (by kernel_rfl) (by simp) ?_
    refine AllReadyH.cons (o := _) rfl (fun K hK => ?st21) ?mo21
    case st21 =>
      go_simp
      refine hK.out _ _ (by go_split_ands <;> (try dsimp only) <;> go_simp) (fun hHeld21 => ?_)
      clear hK K
      (try simp only [List.getElem_toArray, List.getElem_cons_succ, List.getElem_cons_zero, Act.put, List.setIfInBounds_toArray, List.set_cons_zero, List.set_cons_succ])
      refine wpAnyH_take (i := 8) (oi := _) (v := ?v22) rfl (by kernel_rfl) (by kernel_rfl) (by kernel_rfl) (fun _ _ _ h => h) (Or.inl ⟨by rfl, ?hy22⟩) (by assumption) ?rest22
      case hy22 => (intro w hSw; (try dsimp only at hSw); go_simp; first | done | with_reducible rfl)
      (try simp only [List.getElem_toArray, List.getElem_cons_succ, List.getElem_cons_zero, Act.put, List.setIfInBounds_toArray, List.set_cons_zero, List.set_cons_succ])
      refine wpAnyH_done (by kernel_rfl) ?_ _
      have hpc : ∀ (cs : Array Value) (i : Nat), (Vg.put w4 b6 (.cells cs 112)).cell? ⟨b6, i, none⟩ = cs[i]? := fun cs i => Vg.cells_of (Vg.put_heap_same l_t6) i
      have H_hpc := Lib.hid hpc; clear hpc
      go_wp2_with fail
      refine bodyPost_ret (by simp [results, Try.results66, go_sem, H_hpc.out] <;> try rfl) rfl ?_
      exact ⟨ta', tc', ja', jc', la', lc', oa', oc', rfl, KP.fin (o := rv0) _ H_h6.out (by simp) (fun p hp => by simp [hp]) hlo6 H_hxl6.out⟩
    exact AllReadyH.nil
  exact AllReadyH.nil
theorem kp_plays_resume (h : KP w0 w b K M v K X) (hm : Vg.Kn.HM K M) (hI : Vg.Kn.Inv k K) (hk : k ≤ 1000000) (hn : K.length = n) (hn0 : 0 < n) (hn32 : n ≤ 32) (hx : Vg.Kn.resume K t = (K', r)) :
    Calls Try.prog 66 #[.pointer (some ⟨b, 0, none⟩), v, .agg #[.int .i64 3, .int .i64 t, .int .i64 c, .int .i64 a]] w fun e w' => ∃ ta tc ja jc la lc oa oc, e = .returned (.tuple #[kv ta tc ja jc la lc oa oc n, .bool true]) ∧ KP w0 w' b K' M (kv ta tc ja jc la lc oa oc n) K' X := by
  obtain ⟨ta, tc, ja, jc, la, lc, oa, oc, rfl, -⟩ := h.fk.shape
  rw [hn] at h ⊢
  have hxl := h.xlt
  have hgr := h.gr.size
  have h1 := KP.new h (g := w.heap.size) (w' := w.alloc (rkC ta tc ja jc la lc oa oc n)) (o := rkC ta tc ja jc la lc oa oc n) ((Vg.Grows.refl _).alloc _) (Vg.alloc_heap_at rfl) (Nat.le_refl _)
  have h2 := KP.new h1 (g := w.heap.size + 1) (w' := (w.alloc (rkC ta tc ja jc la lc oa oc n)).alloc (act14 3 t c a)) (o := act14 3 t c a) ((Vg.Grows.refl _).alloc _) (Vg.alloc_heap_at (by simp)) (by simp)
  have h3 := KP.new h2 (g := w.heap.size + 1 + 1) (w' := ((w.alloc (rkC ta tc ja jc la lc oa oc n)).alloc (act14 3 t c a)).alloc rv0) (o := rv0) ((Vg.Grows.refl _).alloc _) (Vg.alloc_heap_at (by simp)) (by simp)
  have H_h := Lib.hid h; clear h; have H_h1 := Lib.hid h1; clear h1; have H_h2 := Lib.hid h2; clear h2; have H_h3 := Lib.hid h3; clear h3; have H_hm := Lib.hid hm; clear hm; have H_hI := Lib.hid hI; clear hI; have H_hn := Lib.hid hn; clear hn; have H_hxl := Lib.hid hxl; clear hxl; have H_hx := Lib.hid hx; clear hx
  go_enter Try.func66, Try.ntmps66
  go_upto_region 1 with fail
  obtain ⟨W1, hW1⟩ : ∃ W1, ((w.alloc (rkC ta tc ja jc la lc oa oc n)).alloc (act14 3 t c a)).alloc rv0 = W1 := ⟨_, rfl⟩
  have h3 := H_h3.out
  rw [hW1] at h3 ⊢
  obtain ⟨b4, hb4⟩ : ∃ b4, w.heap.size = b4 := ⟨_, rfl⟩
  rw [hb4] at h3 hgr ⊢
  obtain ⟨b5, hb5⟩ : ∃ b5, b4 + 1 = b5 := ⟨_, rfl⟩
  rw [hb5] at h3 ⊢
  obtain ⟨b6, hb6⟩ : ∃ b6, b5 + 1 = b6 := ⟨_, rfl⟩
  rw [hb6] at h3 ⊢
  clear hW1 H_h1 H_h2 H_h3
  have n1 : b4 ≠ b5 := by omega
  have n2 : b4 ≠ b6 := by omega
  have n3 : b5 ≠ b6 := by omega
  have n4 : b5 ≠ b4 := by omega
  have n5 : b6 ≠ b4 := by omega
  have n6 : b6 ≠ b5 := by omega
  have hlo6 : w0.heap.size ≤ b6 := by omega
  have hxl6 : ∀ p ∈ X, p.1 < b6 := fun p hp => by have := H_hxl.out p hp; omega
  have y4 := h3.blk (g := b4) (o := rkC ta tc ja jc la lc oa oc n) (by simp)
  have y5 := h3.blk (g := b5) (o := act14 3 t c a) (by simp)
  have y6 := h3.blk (g := b6) (o := rv0) (by simp)
  have c_y4 := Vg.cells_of y4; have f_y4 := Vg.frozen_of y4; have p_y4 := Vg.setCell_of y4; have l_y4 := Vg.lt_of y4; have H_y4 := Lib.hid y4; clear y4; have c_y5 := Vg.cells_of y5; have f_y5 := Vg.frozen_of y5; have p_y5 := Vg.setCell_of y5; have l_y5 := Vg.lt_of y5; have H_y5 := Lib.hid y5; clear y5; have c_y6 := Vg.cells_of y6; have f_y6 := Vg.frozen_of y6; have p_y6 := Vg.setCell_of y6; have l_y6 := Vg.lt_of y6; have H_y6 := Lib.hid y6; clear y6
  have H_h3 := Lib.hid h3; clear h3; have H_hb4 := Lib.hid hb4; clear hb4; have H_hb5 := Lib.hid hb5; clear hb5; have H_hb6 := Lib.hid hb6; clear hb6; have H_hxl6 := Lib.hid hxl6; clear hxl6
  have hrr : (r == r) = true := by simp
  go_upto_region 18 with ((go_at_call 118; (with_reducible refine (kr_resume t H_h3.out H_hm.out H_hI.out hk H_hn.out hn0 hn32 H_hx.out).mono ?_); rintro e w2 ⟨ta', tc', ja', jc', la', lc', oa', oc', rfl, h4⟩; have z5 := h4.blk (g := b5) (o := act14 3 t c a) (by simp); have z6 := h4.blk (g := b6) (o := rv0) (by simp); clear c_y4 f_y4 p_y4 c_y5 f_y5 p_y5 c_y6 f_y6 p_y6; have c_z5 := Vg.cells_of z5; have f_z5 := Vg.frozen_of z5; have p_z5 := Vg.setCell_of z5; have l_z5 := Vg.lt_of z5; have H_z5 := Lib.hid z5; clear z5; have c_z6 := Vg.cells_of z6; have f_z6 := Vg.frozen_of z6; have p_z6 := Vg.setCell_of z6; have l_z6 := Vg.lt_of z6; have H_z6 := Lib.hid z6; clear z6; have H_h4 := Lib.hid h4; clear h4))
  have h5 := KP.new H_h4.out (g := w2.heap.size) (w' := w2.alloc (rkC ta' tc' ja' jc' la' lc' oa' oc' n)) (o := rkC ta' tc' ja' jc' la' lc' oa' oc' n) ((Vg.Grows.refl _).alloc _) (Vg.alloc_heap_at rfl) (Nat.le_refl _)
  obtain ⟨W3, hW3⟩ : ∃ W3, w2.alloc (rkC ta' tc' ja' jc' la' lc' oa' oc' n) = W3 := ⟨_, rfl⟩
  rw [hW3] at h5 ⊢
  obtain ⟨b8, hb8⟩ : ∃ b8, w2.heap.size = b8 := ⟨_, rfl⟩
  have m1 : b8 ≠ b6 := by omega
  have m2 : b6 ≠ b8 := by omega
  have m3 : b8 ≠ b5 := by omega
  have m4 : b5 ≠ b8 := by omega
  rw [hb8] at h5 ⊢
  clear hW3
  have x5 := h5.blk (g := b5) (o := act14 3 t c a) (by simp)
  have x6 := h5.blk (g := b6) (o := rv0) (by simp)
  have x8 := h5.blk (g := b8) (o := rkC ta' tc' ja' jc' la' lc' oa' oc' n) (by simp)
  clear c_z5 f_z5 p_z5 c_z6 f_z6 p_z6
  clear l_z5 l_z6
  have c_x5 := Vg.cells_of x5; have f_x5 := Vg.frozen_of x5; have p_x5 := Vg.setCell_of x5; have l_x5 := Vg.lt_of x5; have H_x5 := Lib.hid x5; clear x5; have c_x6 := Vg.cells_of x6; have f_x6 := Vg.frozen_of x6; have p_x6 := Vg.setCell_of x6; have l_x6 := Vg.lt_of x6; have H_x6 := Lib.hid x6; clear x6; have c_x8 := Vg.cells_of x8; have f_x8 := Vg.frozen_of x8; have p_x8 := Vg.setCell_of x8; have l_x8 := Vg.lt_of x8; have H_x8 := Lib.hid x8; clear x8
  have H_h5 := Lib.hid h5; clear h5; have H_hb8 := Lib.hid hb8; clear hb8
  refine wp_region_held_drew (S := fun w' => b8 < w'.heap.size ∧ b5 < w'.heap.size ∧ w'.cell? ⟨b8, 0, none⟩ = some (.slice ta' n tc') ∧ w'.cell? ⟨b8, 1, none⟩ = some (.slice ja' n jc') ∧ w'.cell? ⟨b8, 2, none⟩ = some (.slice la' n lc') ∧ w'.cell? ⟨b8, 3, none⟩ = some (.slice oa' n oc') ∧ w'.cell? ⟨b5, 1, none⟩ = some (.int .i64 t)) (by kernel_rfl) (by go_split_ands <;> (try dsimp only) <;> go_simp) (fun hHeld => ?_)
  refine wpAnyH_take (i := 0) (oi := _) (v := ?v23) rfl (by kernel_rfl) (by kernel_rfl) (by kernel_rfl) (fun _ _ _ h => h) (Or.inl ⟨by rfl, ?hy23⟩) (by assumption) ?rest23
  case hy23 => (intro w hSw; (try dsimp only at hSw); go_simp; first | done | with_reducible rfl)
  (try simp only [List.getElem_toArray, List.getElem_cons_succ, List.getElem_cons_zero, Act.put, List.setIfInBounds_toArray, List.set_cons_zero, List.set_cons_succ])
  refine wpAnyH_take (i := 1) (oi := _) (v := ?v24) rfl (by kernel_rfl) (by kernel_rfl) (by kernel_rfl) (fun _ _ _ h => h) (Or.inl ⟨by rfl, ?hy24⟩) (by assumption) ?rest24
  case hy24 => (intro w hSw; (try dsimp only at hSw); go_simp; first | done | with_reducible rfl)
  (try simp only [List.getElem_toArray, List.getElem_cons_succ, List.getElem_cons_zero, Act.put, List.setIfInBounds_toArray, List.set_cons_zero, List.set_cons_succ])
  refine wpAnyH_take (i := 2) (oi := _) (v := ?v25) rfl (by kernel_rfl) (by kernel_rfl) (by kernel_rfl) (fun _ _ _ h => h) (Or.inl ⟨by rfl, ?hy25⟩) (by assumption) ?rest25
  case hy25 => (intro w hSw; (try dsimp only at hSw); go_simp; first | done | with_reducible rfl)
  (try simp only [List.getElem_toArray, List.getElem_cons_succ, List.getElem_cons_zero, Act.put, List.setIfInBounds_toArray, List.set_cons_zero, List.set_cons_succ])
  refine wpAnyH_take (i := 3) (oi := _) (v := ?v26) rfl (by kernel_rfl) (by kernel_rfl) (by kernel_rfl) (fun _ _ _ h => h) (Or.inl ⟨by rfl, ?hy26⟩) (by assumption) ?rest26
  case hy26 => (intro w hSw; (try dsimp only at hSw); go_simp; first | done | with_reducible rfl)
  (try simp only [List.getElem_toArray, List.getElem_cons_succ, List.getElem_cons_zero, Act.put, List.setIfInBounds_toArray, List.set_cons_zero, List.set_cons_succ])
  refine wpAnyH_take (i := 5) (oi := _) (v := ?v27) rfl (by kernel_rfl) (by kernel_rfl) (by kernel_rfl) (fun _ _ _ h => h) (Or.inl ⟨by rfl, ?hy27⟩) (by assumption) ?rest27
  case hy27 => (intro w hSw; (try dsimp only at hSw); go_simp; first | done | with_reducible rfl)
  (try simp only [List.getElem_toArray, List.getElem_cons_succ, List.getElem_cons_zero, Act.put, List.setIfInBounds_toArray, List.set_cons_zero, List.set_cons_succ])
  refine wpAnyH_ready (rs := [4]) (by kernel_rfl) (by simp) ?_
  refine AllReadyH.cons (o := _) rfl (fun K hK => ?st28) ?mo28
  case st28 =>
    go_simp
    ((go_at_call 79; (with_reducible refine (kp_resume t (H_h5.out.grows (by (repeat' (first | (with_reducible exact Vg.Grows.refl _) | (with_reducible assumption) | (with_reducible refine Vg.Grows.alloc ?_ _) | (with_reducible refine Vg.Grows.plus ?_ _ _) | (with_reducible refine Vg.Grows.drewN ?_ _) | (with_reducible refine Vg.Grows.drew ?_) | (with_reducible refine Vg.Grows.setCell ?_ ?_ _) | (with_reducible refine Vg.Grows.put ?_ ?_ _) | omega | (simp; omega) | (simp; done))))) H_hx.out).mono ?_); rintro e w4 ⟨rfl, h6⟩; have t5 := h6.blk (g := b5) (o := act14 3 t c a) (by simp); have t6 := h6.blk (g := b6) (o := rv0) (by simp); have t8 := h6.blk (g := b8) (o := rkC ta' tc' ja' jc' la' lc' oa' oc' n) (by simp); clear c_x5 f_x5 p_x5 c_x6 f_x6 p_x6 c_x8 f_x8 p_x8; have c_t5 := Vg.cells_of t5; have f_t5 := Vg.frozen_of t5; have p_t5 := Vg.setCell_of t5; have l_t5 := Vg.lt_of t5; have H_t5 := Lib.hid t5; clear t5; have c_t6 := Vg.cells_of t6; have f_t6 := Vg.frozen_of t6; have p_t6 := Vg.setCell_of t6; have l_t6 := Vg.lt_of t6; have H_t6 := Lib.hid t6; clear t6; have c_t8 := Vg.cells_of t8; have f_t8 := Vg.frozen_of t8; have p_t8 := Vg.setCell_of t8; have l_t8 := Vg.lt_of t8; have H_t8 := Lib.hid t8; clear t8; have H_h6 := Lib.hid h6; clear h6))
    all_goals (try go_wp2_with fail)
    refine hK.out _ _ (by go_split_ands <;> (try dsimp only) <;> go_simp) (fun hHeld28 => ?_)
    clear hK K
    (try simp only [List.getElem_toArray, List.getElem_cons_succ, List.getElem_cons_zero, Act.put, List.setIfInBounds_toArray, List.set_cons_zero, List.set_cons_succ])
    refine wpAnyH_take (i := 6) (oi := _) (v := ?v29) rfl (by kernel_rfl) (by kernel_rfl) (by kernel_rfl) (fun _ _ _ h => h) (Or.inl ⟨by rfl, ?hy29⟩) (by assumption) ?rest29
    case hy29 => (intro w hSw; (try dsimp only at hSw); go_simp; first | done | with_reducible rfl)
    (try simp only [List.getElem_toArray, List.getElem_cons_succ, List.getElem_cons_zero, Act.put, List.setIfInBounds_toArray, List.set_cons_zero, List.set_cons_succ])
    refine wpAnyH_ready (rs := [7]) (by kernel_rfl) (by simp) ?_
    refine AllReadyH.cons (o := _) rfl (fun K hK => ?st30) ?mo30
    case st30 =>
      go_simp
      refine hK.out _ _ (by go_split_ands <;> (try dsimp only) <;> go_simp) (fun hHeld30 => ?_)
      clear hK K
      (try simp only [List.getElem_toArray, List.getElem_cons_succ, List.getElem_cons_zero, Act.put, List.setIfInBounds_toArray, List.set_cons_zero, List.set_cons_succ])
      refine wpAnyH_take (i := 8) (oi := _) (v := ?v31) rfl (by kernel_rfl) (by kernel_rfl) (by kernel_rfl) (fun _ _ _ h => h) (Or.inl ⟨by rfl, ?hy31⟩) (by assumption) ?rest31
      case hy31 => (intro w hSw; (try dsimp only at hSw); go_simp; first | done | with_reducible rfl)
      (try simp only [List.getElem_toArray, List.getElem_cons_succ, List.getElem_cons_zero, Act.put, List.setIfInBounds_toArray, List.set_cons_zero, List.set_cons_succ])
      refine wpAnyH_done (by kernel_rfl) ?_ _
      have hpc : ∀ (cs : Array Value) (i : Nat), (Vg.put w4 b6 (.cells cs 112)).cell? ⟨b6, i, none⟩ = cs[i]? := fun cs i => Vg.cells_of (Vg.put_heap_same l_t6) i
      have H_hpc := Lib.hid hpc; clear hpc
      go_wp2_with fail
      refine bodyPost_ret (by simp [results, Try.results66, go_sem, H_hpc.out] <;> try rfl) rfl ?_
      exact ⟨ta', tc', ja', jc', la', lc', oa', oc', rfl, KP.fin (o := rv0) _ H_h6.out (by simp) (fun p hp => by simp [hp]) hlo6 H_hxl6.out⟩
    exact AllReadyH.nil
  exact AllReadyH.nil
end
end Go.Proofs.Ytiinhofmhoplfaa
namespace Go.Proofs.Ytiinhofmhoplfaa
open Go.ChangeShapes Go.WideShapes Go.ChangeAt Go.RowKit
section
variable {w w' w0 : World} {b n k g : Nat} {K K' K2 K3 : List Vg.Kt} {M M' : List Vg.Mx} {v v' : Value} {X Y Z : List (Nat × Obj)} {o : Obj} {r x d1 d2 d3 m c a t i kd : Int} {is : Bool} {F : Nat → Prop}
theorem kr_run (h : KP w0 w b K M v K X) (hm : Vg.Kn.HM K M) (hI : Vg.Kn.Inv k K) (hk : k ≤ 1000000) (hn : K.length = n) (hn0 : 0 < n) (hn32 : n ≤ 32) (hx : Vg.Kn.run K M m = (K', M', (d1, d2, d3), is, r)) :
    Calls Try.prog 116 #[v, .int .i64 m] w fun e w' => ∃ ta tc ja jc la lc oa oc, e = .returned (.tuple #[kv ta tc ja jc la lc oa oc n, .agg #[.int .i64 d1, .int .i64 d2, .int .i64 d3], .bool is, .int .i64 r]) ∧ KP w0 w' b K M (kv ta tc ja jc la lc oa oc n) K' X := by
  subst hn
  have hl : K'.length = K.length := by have := congrArg List.length (Vg.Kn.run_map (·.t) (fun _ _ _ => rfl) K M m); rw [hx] at this; simpa using this
  obtain ⟨S, F, h1, h2, h3, h4⟩ := h.ex
  refine (rf_run h1.p.1 hm hI hn32 (inv_j16 hI) hx).mono ?_
  rintro e w' ⟨ta, tc, ja, jc, la, lc, oa, oc, rfl, hf, hg⟩
  exact ⟨ta, tc, ja, jc, la, lc, oa, oc, rfl, KP.val h1 h2 h3 h4 hg (by omega) hf⟩
theorem kp_plays_run1 (h : KP w0 w b K M v K X) (hm : Vg.Kn.HM K M) (hI : Vg.Kn.Inv k K) (hk : k ≤ 1000000) (hn : K.length = n) (hn0 : 0 < n) (hn32 : n ≤ 32) (hx : Vg.Kn.run K M c = (K', M', (d1, d2, d3), is, r)) :
    Calls Try.prog 66 #[.pointer (some ⟨b, 0, none⟩), v, .agg #[.int .i64 1, .int .i64 t, .int .i64 c, .int .i64 a]] w fun e w' => ∃ ta tc ja jc la lc oa oc, e = .returned (.tuple #[kv ta tc ja jc la lc oa oc n, .bool true]) ∧ KP w0 w' b K' M' (kv ta tc ja jc la lc oa oc n) K' X := by
  obtain ⟨ta, tc, ja, jc, la, lc, oa, oc, rfl, -⟩ := h.fk.shape
  rw [hn] at h ⊢
  have hxl := h.xlt
  have hgr := h.gr.size
  have h1 := KP.new h (g := w.heap.size) (w' := w.alloc (rkC ta tc ja jc la lc oa oc n)) (o := rkC ta tc ja jc la lc oa oc n) ((Vg.Grows.refl _).alloc _) (Vg.alloc_heap_at rfl) (Nat.le_refl _)
  have h2 := KP.new h1 (g := w.heap.size + 1) (w' := (w.alloc (rkC ta tc ja jc la lc oa oc n)).alloc (act14 1 t c a)) (o := act14 1 t c a) ((Vg.Grows.refl _).alloc _) (Vg.alloc_heap_at (by simp)) (by simp)
  have h3 := KP.new h2 (g := w.heap.size + 1 + 1) (w' := ((w.alloc (rkC ta tc ja jc la lc oa oc n)).alloc (act14 1 t c a)).alloc rv0) (o := rv0) ((Vg.Grows.refl _).alloc _) (Vg.alloc_heap_at (by simp)) (by simp)
  have H_h := Lib.hid h; clear h; have H_h1 := Lib.hid h1; clear h1; have H_h2 := Lib.hid h2; clear h2; have H_h3 := Lib.hid h3; clear h3; have H_hm := Lib.hid hm; clear hm; have H_hI := Lib.hid hI; clear hI; have H_hn := Lib.hid hn; clear hn; have H_hxl := Lib.hid hxl; clear hxl; have H_hx := Lib.hid hx; clear hx
  go_enter Try.func66, Try.ntmps66
  go_upto_region 1 with fail
  obtain ⟨W1, hW1⟩ : ∃ W1, ((w.alloc (rkC ta tc ja jc la lc oa oc n)).alloc (act14 1 t c a)).alloc rv0 = W1 := ⟨_, rfl⟩
  have h3 := H_h3.out
  rw [hW1] at h3 ⊢
  obtain ⟨b4, hb4⟩ : ∃ b4, w.heap.size = b4 := ⟨_, rfl⟩
  rw [hb4] at h3 hgr ⊢
  obtain ⟨b5, hb5⟩ : ∃ b5, b4 + 1 = b5 := ⟨_, rfl⟩
  rw [hb5] at h3 ⊢
  obtain ⟨b6, hb6⟩ : ∃ b6, b5 + 1 = b6 := ⟨_, rfl⟩
  rw [hb6] at h3 ⊢
  clear hW1 H_h1 H_h2 H_h3
  have n1 : b4 ≠ b5 := by omega
  have n2 : b4 ≠ b6 := by omega
  have n3 : b5 ≠ b6 := by omega
  have n4 : b5 ≠ b4 := by omega
  have n5 : b6 ≠ b4 := by omega
  have n6 : b6 ≠ b5 := by omega
  have hlo6 : w0.heap.size ≤ b6 := by omega
  have hxl6 : ∀ p ∈ X, p.1 < b6 := fun p hp => by have := H_hxl.out p hp; omega
  have y4 := h3.blk (g := b4) (o := rkC ta tc ja jc la lc oa oc n) (by simp)
  have y5 := h3.blk (g := b5) (o := act14 1 t c a) (by simp)
  have y6 := h3.blk (g := b6) (o := rv0) (by simp)
  have c_y4 := Vg.cells_of y4; have f_y4 := Vg.frozen_of y4; have p_y4 := Vg.setCell_of y4; have l_y4 := Vg.lt_of y4; have H_y4 := Lib.hid y4; clear y4; have c_y5 := Vg.cells_of y5; have f_y5 := Vg.frozen_of y5; have p_y5 := Vg.setCell_of y5; have l_y5 := Vg.lt_of y5; have H_y5 := Lib.hid y5; clear y5; have c_y6 := Vg.cells_of y6; have f_y6 := Vg.frozen_of y6; have p_y6 := Vg.setCell_of y6; have l_y6 := Vg.lt_of y6; have H_y6 := Lib.hid y6; clear y6
  have H_h3 := Lib.hid h3; clear h3; have H_hb4 := Lib.hid hb4; clear hb4; have H_hb5 := Lib.hid hb5; clear hb5; have H_hb6 := Lib.hid hb6; clear hb6; have H_hxl6 := Lib.hid hxl6; clear hxl6
  go_upto_region 11 with (first | (go_at_call 116; (with_reducible refine (kr_run (H_h3.out.grows (by (repeat' (first | (with_reducible exact Vg.Grows.refl _) | (with_reducible assumption) | (with_reducible refine Vg.Grows.alloc ?_ _) | (with_reducible refine Vg.Grows.plus ?_ _ _) | (with_reducible refine Vg.Grows.drewN ?_ _) | (with_reducible refine Vg.Grows.drew ?_) | (with_reducible refine Vg.Grows.setCell ?_ ?_ _) | (with_reducible refine Vg.Grows.put ?_ ?_ _) | omega | (simp; omega) | (simp; done))))) H_hm.out H_hI.out hk H_hn.out hn0 hn32 H_hx.out).mono ?_); rintro e w2 ⟨ta', tc', ja', jc', la', lc', oa', oc', rfl, h4⟩; have z5 := h4.blk (g := b5) (o := act14 1 t c a) (by simp); have z6 := h4.blk (g := b6) (o := rv0) (by simp); clear c_y4 f_y4 p_y4 c_y5 f_y5 p_y5 c_y6 f_y6 p_y6; have c_z5 := Vg.cells_of z5; have f_z5 := Vg.frozen_of z5; have p_z5 := Vg.setCell_of z5; have l_z5 := Vg.lt_of z5; have H_z5 := Lib.hid z5; clear z5; have c_z6 := Vg.cells_of z6; have f_z6 := Vg.frozen_of z6; have p_z6 := Vg.setCell_of z6; have l_z6 := Vg.lt_of z6; have H_z6 := Lib.hid z6; clear z6; have H_h4 := Lib.hid h4; clear h4))
  have h5 := KP.new H_h4.out (g := w2.heap.size) (w' := w2.alloc (rkC ta' tc' ja' jc' la' lc' oa' oc' n)) (o := rkC ta' tc' ja' jc' la' lc' oa' oc' n) ((Vg.Grows.refl _).alloc _) (Vg.alloc_heap_at rfl) (Nat.le_refl _)
  have h5 := KP.new h5 (g := w2.heap.size + 1) (w' := (w2.alloc (rkC ta' tc' ja' jc' la' lc' oa' oc' n)).alloc (doneC d1 d2 d3)) (o := doneC d1 d2 d3) ((Vg.Grows.refl _).alloc _) (Vg.alloc_heap_at (by simp)) (by simp)
  obtain ⟨W3, hW3⟩ : ∃ W3, (w2.alloc (rkC ta' tc' ja' jc' la' lc' oa' oc' n)).alloc (doneC d1 d2 d3) = W3 := ⟨_, rfl⟩
  rw [hW3] at h5 ⊢
  obtain ⟨b11, hb11⟩ : ∃ b11, w2.heap.size = b11 := ⟨_, rfl⟩
  rw [hb11] at h5 ⊢
  obtain ⟨b12, hb12⟩ : ∃ b12, b11 + 1 = b12 := ⟨_, rfl⟩
  rw [hb12] at h5 ⊢
  clear hW3
  have m1 : b11 ≠ b6 := by omega
  have m2 : b6 ≠ b11 := by omega
  have m3 : b12 ≠ b6 := by omega
  have m4 : b6 ≠ b12 := by omega
  have m5 : b11 ≠ b12 := by omega
  have m6 : b12 ≠ b11 := by omega
  have x5 := h5.blk (g := b5) (o := act14 1 t c a) (by simp)
  have x6 := h5.blk (g := b6) (o := rv0) (by simp)
  have x11 := h5.blk (g := b11) (o := rkC ta' tc' ja' jc' la' lc' oa' oc' n) (by simp)
  have x12 := h5.blk (g := b12) (o := doneC d1 d2 d3) (by simp)
  clear c_z5 f_z5 p_z5 c_z6 f_z6 p_z6
  clear l_z5 l_z6
  have c_x5 := Vg.cells_of x5; have f_x5 := Vg.frozen_of x5; have p_x5 := Vg.setCell_of x5; have l_x5 := Vg.lt_of x5; have H_x5 := Lib.hid x5; clear x5; have c_x6 := Vg.cells_of x6; have f_x6 := Vg.frozen_of x6; have p_x6 := Vg.setCell_of x6; have l_x6 := Vg.lt_of x6; have H_x6 := Lib.hid x6; clear x6; have c_x11 := Vg.cells_of x11; have f_x11 := Vg.frozen_of x11; have p_x11 := Vg.setCell_of x11; have l_x11 := Vg.lt_of x11; have H_x11 := Lib.hid x11; clear x11; have c_x12 := Vg.cells_of x12; have f_x12 := Vg.frozen_of x12; have p_x12 := Vg.setCell_of x12; have l_x12 := Vg.lt_of x12; have H_x12 := Lib.hid x12; clear x12
  have H_h5 := Lib.hid h5; clear h5; have H_hb11 := Lib.hid hb11; clear hb11; have H_hb12 := Lib.hid hb12; clear hb12
  go_upto_region 12 with ((go_at_call 87; (with_reducible refine (kp_run H_h5.out H_hI.out H_hx.out).mono ?_); rintro e w4 ⟨rfl, h6⟩; have t6 := h6.blk (g := b6) (o := rv0) (by simp); have t11 := h6.blk (g := b11) (o := rkC ta' tc' ja' jc' la' lc' oa' oc' n) (by simp); have t12 := h6.blk (g := b12) (o := doneC d1 d2 d3) (by simp); clear c_x5 f_x5 p_x5 c_x6 f_x6 p_x6 c_x11 f_x11 p_x11 c_x12 f_x12 p_x12; have c_t6 := Vg.cells_of t6; have f_t6 := Vg.frozen_of t6; have p_t6 := Vg.setCell_of t6; have l_t6 := Vg.lt_of t6; have H_t6 := Lib.hid t6; clear t6; have c_t11 := Vg.cells_of t11; have f_t11 := Vg.frozen_of t11; have p_t11 := Vg.setCell_of t11; have l_t11 := Vg.lt_of t11; have H_t11 := Lib.hid t11; clear t11; have c_t12 := Vg.cells_of t12; have f_t12 := Vg.frozen_of t12; have p_t12 := Vg.setCell_of t12; have l_t12 := Vg.lt_of t12; have H_t12 := Lib.hid t12; clear t12; have H_h6 := Lib.hid h6; clear h6))
  have h7 := KP.new H_h6.out (g := w4.heap.size) (w' := w4.alloc (doneC d1 d2 d3)) (o := doneC d1 d2 d3) ((Vg.Grows.refl _).alloc _) (Vg.alloc_heap_at rfl) (Nat.le_refl _)
  obtain ⟨W5, hW5⟩ : ∃ W5, w4.alloc (doneC d1 d2 d3) = W5 := ⟨_, rfl⟩
  rw [hW5] at h7 ⊢
  obtain ⟨b15, hb15⟩ : ∃ b15, w4.heap.size = b15 := ⟨_, rfl⟩
  have m7 : b15 ≠ b6 := by omega
  have m8 : b6 ≠ b15 := by omega
  rw [hb15] at h7 ⊢
  clear hW5
  have u6 := h7.blk (g := b6) (o := rv0) (by simp)
  have u11 := h7.blk (g := b11) (o := rkC ta' tc' ja' jc' la' lc' oa' oc' n) (by simp)
  have u12 := h7.blk (g := b12) (o := doneC d1 d2 d3) (by simp)
  have u15 := h7.blk (g := b15) (o := doneC d1 d2 d3) (by simp)
  clear c_t6 f_t6 p_t6 c_t11 f_t11 p_t11 c_t12 f_t12 p_t12
  clear l_t6 l_t11 l_t12 l_x5 l_x6 l_x11 l_x12
  have c_u6 := Vg.cells_of u6; have f_u6 := Vg.frozen_of u6; have p_u6 := Vg.setCell_of u6; have l_u6 := Vg.lt_of u6; have H_u6 := Lib.hid u6; clear u6; have c_u11 := Vg.cells_of u11; have f_u11 := Vg.frozen_of u11; have p_u11 := Vg.setCell_of u11; have l_u11 := Vg.lt_of u11; have H_u11 := Lib.hid u11; clear u11; have c_u12 := Vg.cells_of u12; have f_u12 := Vg.frozen_of u12; have p_u12 := Vg.setCell_of u12; have l_u12 := Vg.lt_of u12; have H_u12 := Lib.hid u12; clear u12; have c_u15 := Vg.cells_of u15; have f_u15 := Vg.frozen_of u15; have p_u15 := Vg.setCell_of u15; have l_u15 := Vg.lt_of u15; have H_u15 := Lib.hid u15; clear u15
  have hpc : ∀ (cs : Array Value) (i : Nat), (Vg.put W5 b6 (.cells cs 112)).cell? ⟨b6, i, none⟩ = cs[i]? := fun cs i => Vg.cells_of (Vg.put_heap_same l_u6) i
  have H_h7 := Lib.hid h7; clear h7; have H_hb15 := Lib.hid hb15; clear hb15; have H_hpc := Lib.hid hpc; clear hpc
  refine wp_region_held_drew (S := fun w' => b11 < w'.heap.size ∧ b12 < w'.heap.size ∧ b15 < w'.heap.size ∧ w'.cell? ⟨b11, 0, none⟩ = some (.slice ta' n tc') ∧ w'.cell? ⟨b11, 1, none⟩ = some (.slice ja' n jc') ∧ w'.cell? ⟨b11, 2, none⟩ = some (.slice la' n lc') ∧ w'.cell? ⟨b11, 3, none⟩ = some (.slice oa' n oc') ∧ w'.cell? ⟨b12, 0, none⟩ = some (.int .i64 d1) ∧ w'.cell? ⟨b12, 1, none⟩ = some (.int .i64 d2) ∧ w'.cell? ⟨b12, 2, none⟩ = some (.int .i64 d3) ∧ w'.cell? ⟨b15, 0, none⟩ = some (.int .i64 d1) ∧ w'.cell? ⟨b15, 1, none⟩ = some (.int .i64 d2) ∧ w'.cell? ⟨b15, 2, none⟩ = some (.int .i64 d3)) (by kernel_rfl) (by go_split_ands <;> (try dsimp only) <;> go_simp) (fun hHeld => ?_)
  refine wpAnyH_take (i := 0) (oi := _) (v := ?v1) rfl (by kernel_rfl) (by kernel_rfl) (by kernel_rfl) (fun _ _ _ h => h) (Or.inl ⟨by rfl, ?hy1⟩) (by assumption) ?rest1
  case hy1 => (intro w hSw; (try dsimp only at hSw); go_simp; first | done | with_reducible rfl)
  (try simp only [List.getElem_toArray, List.getElem_cons_succ, List.getElem_cons_zero, Act.put, List.setIfInBounds_toArray, List.set_cons_zero, List.set_cons_succ])
  refine wpAnyH_take (i := 1) (oi := _) (v := ?v2) rfl (by kernel_rfl) (by kernel_rfl) (by kernel_rfl) (fun _ _ _ h => h) (Or.inl ⟨by rfl, ?hy2⟩) (by assumption) ?rest2
  case hy2 => (intro w hSw; (try dsimp only at hSw); go_simp; first | done | with_reducible rfl)
  (try simp only [List.getElem_toArray, List.getElem_cons_succ, List.getElem_cons_zero, Act.put, List.setIfInBounds_toArray, List.set_cons_zero, List.set_cons_succ])
  refine wpAnyH_take (i := 2) (oi := _) (v := ?v3) rfl (by kernel_rfl) (by kernel_rfl) (by kernel_rfl) (fun _ _ _ h => h) (Or.inl ⟨by rfl, ?hy3⟩) (by assumption) ?rest3
  case hy3 => (intro w hSw; (try dsimp only at hSw); go_simp; first | done | with_reducible rfl)
  (try simp only [List.getElem_toArray, List.getElem_cons_succ, List.getElem_cons_zero, Act.put, List.setIfInBounds_toArray, List.set_cons_zero, List.set_cons_succ])
  refine wpAnyH_take (i := 3) (oi := _) (v := ?v4) rfl (by kernel_rfl) (by kernel_rfl) (by kernel_rfl) (fun _ _ _ h => h) (Or.inl ⟨by rfl, ?hy4⟩) (by assumption) ?rest4
  case hy4 => (intro w hSw; (try dsimp only at hSw); go_simp; first | done | with_reducible rfl)
  (try simp only [List.getElem_toArray, List.getElem_cons_succ, List.getElem_cons_zero, Act.put, List.setIfInBounds_toArray, List.set_cons_zero, List.set_cons_succ])
  refine wpAnyH_take (i := 4) (oi := _) (v := ?v5) rfl (by kernel_rfl) (by kernel_rfl) (by kernel_rfl) (fun _ _ _ h => h) (Or.inl ⟨by rfl, ?hy5⟩) (by assumption) ?rest5
  case hy5 => (intro w hSw; (try dsimp only at hSw); go_simp; first | done | with_reducible rfl)
  (try simp only [List.getElem_toArray, List.getElem_cons_succ, List.getElem_cons_zero, Act.put, List.setIfInBounds_toArray, List.set_cons_zero, List.set_cons_succ])
  refine wpAnyH_take (i := 5) (oi := _) (v := ?v6) rfl (by kernel_rfl) (by kernel_rfl) (by kernel_rfl) (fun _ _ _ h => h) (Or.inl ⟨by rfl, ?hy6⟩) (by assumption) ?rest6
  case hy6 => (intro w hSw; (try dsimp only at hSw); go_simp; first | done | with_reducible rfl)
  (try simp only [List.getElem_toArray, List.getElem_cons_succ, List.getElem_cons_zero, Act.put, List.setIfInBounds_toArray, List.set_cons_zero, List.set_cons_succ])
  refine wpAnyH_take (i := 6) (oi := _) (v := ?v7) rfl (by kernel_rfl) (by kernel_rfl) (by kernel_rfl) (fun _ _ _ h => h) (Or.inl ⟨by rfl, ?hy7⟩) (by assumption) ?rest7
  case hy7 => (intro w hSw; (try dsimp only at hSw); go_simp; first | done | with_reducible rfl)
  (try simp only [List.getElem_toArray, List.getElem_cons_succ, List.getElem_cons_zero, Act.put, List.setIfInBounds_toArray, List.set_cons_zero, List.set_cons_succ])
  refine wpAnyH_take (i := 7) (oi := _) (v := ?v8) rfl (by kernel_rfl) (by kernel_rfl) (by kernel_rfl) (fun _ _ _ h => h) (Or.inl ⟨by rfl, ?hy8⟩) (by assumption) ?rest8
  case hy8 => (intro w hSw; (try dsimp only at hSw); go_simp; first | done | with_reducible rfl)
  (try simp only [List.getElem_toArray, List.getElem_cons_succ, List.getElem_cons_zero, Act.put, List.setIfInBounds_toArray, List.set_cons_zero, List.set_cons_succ])
  refine wpAnyH_take (i := 8) (oi := _) (v := ?v9) rfl (by kernel_rfl) (by kernel_rfl) (by kernel_rfl) (fun _ _ _ h => h) (Or.inl ⟨by rfl, ?hy9⟩) (by assumption) ?rest9
  case hy9 => (intro w hSw; (try dsimp only at hSw); go_simp; first | done | with_reducible rfl)
  (try simp only [List.getElem_toArray, List.getElem_cons_succ, List.getElem_cons_zero, Act.put, List.setIfInBounds_toArray, List.set_cons_zero, List.set_cons_succ])
  refine wpAnyH_take (i := 9) (oi := _) (v := ?v10) rfl (by kernel_rfl) (by kernel_rfl) (by kernel_rfl) (fun _ _ _ h => h) (Or.inl ⟨by rfl, ?hy10⟩) (by assumption) ?rest10
  case hy10 => (intro w hSw; (try dsimp only at hSw); go_simp; first | done | with_reducible rfl)
  (try simp only [List.getElem_toArray, List.getElem_cons_succ, List.getElem_cons_zero, Act.put, List.setIfInBounds_toArray, List.set_cons_zero, List.set_cons_succ])
  refine wpAnyH_take (i := 10) (oi := _) (v := ?v11) rfl (by kernel_rfl) (by kernel_rfl) (by kernel_rfl) (fun _ _ _ h => h) (Or.inl ⟨by rfl, ?hy11⟩) (by assumption) ?rest11
  case hy11 => (intro w hSw; (try dsimp only at hSw); go_simp; first | done | with_reducible rfl)
  (try simp only [List.getElem_toArray, List.getElem_cons_succ, List.getElem_cons_zero, Act.put, List.setIfInBounds_toArray, List.set_cons_zero, List.set_cons_succ])
  refine wpAnyH_take (i := 11) (oi := _) (v := ?v12) rfl (by kernel_rfl) (by kernel_rfl) (by kernel_rfl) (fun _ _ _ h => h) (Or.inl ⟨by rfl, ?hy12⟩) (by assumption) ?rest12
  case hy12 => (intro w hSw; (try dsimp only at hSw); go_simp; first | done | with_reducible rfl)
  (try simp only [List.getElem_toArray, List.getElem_cons_succ, List.getElem_cons_zero, Act.put, List.setIfInBounds_toArray, List.set_cons_zero, List.set_cons_succ])
  refine wpAnyH_take (i := 12) (oi := _) (v := ?v13) rfl (by kernel_rfl) (by kernel_rfl) (by kernel_rfl) (fun _ _ _ h => h) (Or.inl ⟨by rfl, ?hy13⟩) (by assumption) ?rest13
  case hy13 => (intro w hSw; (try dsimp only at hSw); go_simp; first | done | with_reducible rfl)
  (try simp only [List.getElem_toArray, List.getElem_cons_succ, List.getElem_cons_zero, Act.put, List.setIfInBounds_toArray, List.set_cons_zero, List.set_cons_succ])
  refine wpAnyH_take (i := 13) (oi := _) (v := ?v14) rfl (by kernel_rfl) (by kernel_rfl) (by kernel_rfl) (fun _ _ _ h => h) (Or.inl ⟨by rfl, ?hy14⟩) (by assumption) ?rest14
  case hy14 => (intro w hSw; (try dsimp only at hSw); go_simp; first | done | with_reducible rfl)
  (try simp only [List.getElem_toArray, List.getElem_cons_succ, List.getElem_cons_zero, Act.put, List.setIfInBounds_toArray, List.set_cons_zero, List.set_cons_succ])
  refine wpAnyH_ready (rs := [14]) (by kernel_rfl) (by simp) ?_
  refine AllReadyH.cons (o := _) rfl (fun K hK => ?st15) ?mo15
  case st15 =>
    go_simp
    refine hK.out _ _ (by go_split_ands <;> (try dsimp only) <;> go_simp) (fun hHeld15 => ?_)
    clear hK K
    (try simp only [List.getElem_toArray, List.getElem_cons_succ, List.getElem_cons_zero, Act.put, List.setIfInBounds_toArray, List.set_cons_zero, List.set_cons_succ])
    refine wpAnyH_take (i := 15) (oi := _) (v := ?v16) rfl (by kernel_rfl) (by kernel_rfl) (by kernel_rfl) (fun _ _ _ h => h) (Or.inl ⟨by rfl, ?hy16⟩) (by assumption) ?rest16
    case hy16 => (intro w hSw; (try dsimp only at hSw); go_simp; first | done | with_reducible rfl)
    (try simp only [List.getElem_toArray, List.getElem_cons_succ, List.getElem_cons_zero, Act.put, List.setIfInBounds_toArray, List.set_cons_zero, List.set_cons_succ])
    refine wpAnyH_done (by kernel_rfl) ?_ _
    go_wp2_with fail
    refine bodyPost_ret (by simp [results, Try.results66, go_sem, H_hpc.out] <;> try rfl) rfl ?_
    exact ⟨ta', tc', ja', jc', la', lc', oa', oc', rfl, KP.grows (KP.fin (o := rv0) _ H_h7.out (by simp) (fun p hp => by simp [hp]) hlo6 H_hxl6.out) (Vg.Grows.drew (Vg.Grows.refl _))⟩
  exact AllReadyH.nil
theorem kp_plays_run4 (h : KP w0 w b K M v K X) (hm : Vg.Kn.HM K M) (hI : Vg.Kn.Inv k K) (hk : k ≤ 1000000) (hn : K.length = n) (hn0 : 0 < n) (hn32 : n ≤ 32) (hl : Vg.Kn.left K M = x) (hx : Vg.Kn.run K M (min c x) = (K', M', (d1, d2, d3), is, r)) :
    Calls Try.prog 66 #[.pointer (some ⟨b, 0, none⟩), v, .agg #[.int .i64 4, .int .i64 t, .int .i64 c, .int .i64 a]] w fun e w' => ∃ ta tc ja jc la lc oa oc, e = .returned (.tuple #[kv ta tc ja jc la lc oa oc n, .bool true]) ∧ KP w0 w' b K' M' (kv ta tc ja jc la lc oa oc n) K' X := by
  obtain ⟨ta, tc, ja, jc, la, lc, oa, oc, rfl, -⟩ := h.fk.shape
  rw [hn] at h ⊢
  have hxl := h.xlt
  have hgr := h.gr.size
  have h1 := KP.new h (g := w.heap.size) (w' := w.alloc (rkC ta tc ja jc la lc oa oc n)) (o := rkC ta tc ja jc la lc oa oc n) ((Vg.Grows.refl _).alloc _) (Vg.alloc_heap_at rfl) (Nat.le_refl _)
  have h2 := KP.new h1 (g := w.heap.size + 1) (w' := (w.alloc (rkC ta tc ja jc la lc oa oc n)).alloc (act14 4 t c a)) (o := act14 4 t c a) ((Vg.Grows.refl _).alloc _) (Vg.alloc_heap_at (by simp)) (by simp)
  have h3 := KP.new h2 (g := w.heap.size + 1 + 1) (w' := ((w.alloc (rkC ta tc ja jc la lc oa oc n)).alloc (act14 4 t c a)).alloc rv0) (o := rv0) ((Vg.Grows.refl _).alloc _) (Vg.alloc_heap_at (by simp)) (by simp)
  by_cases hmin : c ≤ x
  · rw [Int.min_eq_left hmin] at hx
    have H_h := Lib.hid h; clear h; have H_h1 := Lib.hid h1; clear h1; have H_h2 := Lib.hid h2; clear h2; have H_h3 := Lib.hid h3; clear h3; have H_hm := Lib.hid hm; clear hm; have H_hI := Lib.hid hI; clear hI; have H_hn := Lib.hid hn; clear hn; have H_hxl := Lib.hid hxl; clear hxl; have H_hl := Lib.hid hl; clear hl; have H_hx := Lib.hid hx; clear hx
    go_enter Try.func66, Try.ntmps66
    go_upto_region 1 with fail
    obtain ⟨W1, hW1⟩ : ∃ W1, ((w.alloc (rkC ta tc ja jc la lc oa oc n)).alloc (act14 4 t c a)).alloc rv0 = W1 := ⟨_, rfl⟩
    have h3 := H_h3.out
    rw [hW1] at h3 ⊢
    obtain ⟨b4, hb4⟩ : ∃ b4, w.heap.size = b4 := ⟨_, rfl⟩
    rw [hb4] at h3 hgr ⊢
    obtain ⟨b5, hb5⟩ : ∃ b5, b4 + 1 = b5 := ⟨_, rfl⟩
    rw [hb5] at h3 ⊢
    obtain ⟨b6, hb6⟩ : ∃ b6, b5 + 1 = b6 := ⟨_, rfl⟩
    rw [hb6] at h3 ⊢
    clear hW1 H_h1 H_h2 H_h3
    have n1 : b4 ≠ b5 := by omega
    have n2 : b4 ≠ b6 := by omega
    have n3 : b5 ≠ b6 := by omega
    have n4 : b5 ≠ b4 := by omega
    have n5 : b6 ≠ b4 := by omega
    have n6 : b6 ≠ b5 := by omega
    have hlo6 : w0.heap.size ≤ b6 := by omega
    have hxl6 : ∀ p ∈ X, p.1 < b6 := fun p hp => by have := H_hxl.out p hp; omega
    have y4 := h3.blk (g := b4) (o := rkC ta tc ja jc la lc oa oc n) (by simp)
    have y5 := h3.blk (g := b5) (o := act14 4 t c a) (by simp)
    have y6 := h3.blk (g := b6) (o := rv0) (by simp)
    have c_y4 := Vg.cells_of y4; have f_y4 := Vg.frozen_of y4; have p_y4 := Vg.setCell_of y4; have l_y4 := Vg.lt_of y4; have H_y4 := Lib.hid y4; clear y4; have c_y5 := Vg.cells_of y5; have f_y5 := Vg.frozen_of y5; have p_y5 := Vg.setCell_of y5; have l_y5 := Vg.lt_of y5; have H_y5 := Lib.hid y5; clear y5; have c_y6 := Vg.cells_of y6; have f_y6 := Vg.frozen_of y6; have p_y6 := Vg.setCell_of y6; have l_y6 := Vg.lt_of y6; have H_y6 := Lib.hid y6; clear y6
    have H_h3 := Lib.hid h3; clear h3; have H_hb4 := Lib.hid hb4; clear hb4; have H_hb5 := Lib.hid hb5; clear hb5; have H_hb6 := Lib.hid hb6; clear hb6; have H_hxl6 := Lib.hid hxl6; clear hxl6
    go_upto_region 11 with (first | (go_at_call 70; (with_reducible refine (rf_left (H_h3.out.fk.grows (by (repeat' (first | (with_reducible exact Vg.Grows.refl _) | (with_reducible assumption) | (with_reducible refine Vg.Grows.alloc ?_ _) | (with_reducible refine Vg.Grows.plus ?_ _ _) | (with_reducible refine Vg.Grows.drewN ?_ _) | (with_reducible refine Vg.Grows.drew ?_) | (with_reducible refine Vg.Grows.setCell ?_ ?_ _) | (with_reducible refine Vg.Grows.put ?_ ?_ _) | omega | (simp; omega) | (simp; done))))) H_hm.out H_hI.out H_hl.out).mono ?_); rintro e w1 ⟨rfl, x1, n1, rfl⟩) | (go_at_call 116; (with_reducible refine (kr_run (H_h3.out.grows (by (repeat' (first | (with_reducible exact Vg.Grows.refl _) | (with_reducible assumption) | (with_reducible refine Vg.Grows.alloc ?_ _) | (with_reducible refine Vg.Grows.plus ?_ _ _) | (with_reducible refine Vg.Grows.drewN ?_ _) | (with_reducible refine Vg.Grows.drew ?_) | (with_reducible refine Vg.Grows.setCell ?_ ?_ _) | (with_reducible refine Vg.Grows.put ?_ ?_ _) | omega | (simp; omega) | (simp; done))))) H_hm.out H_hI.out hk H_hn.out hn0 hn32 H_hx.out).mono ?_); rintro e w2 ⟨ta', tc', ja', jc', la', lc', oa', oc', rfl, h4⟩; have z5 := h4.blk (g := b5) (o := act14 4 t c a) (by simp); have z6 := h4.blk (g := b6) (o := rv0) (by simp); clear c_y4 f_y4 p_y4 c_y5 f_y5 p_y5 c_y6 f_y6 p_y6; have c_z5 := Vg.cells_of z5; have f_z5 := Vg.frozen_of z5; have p_z5 := Vg.setCell_of z5; have l_z5 := Vg.lt_of z5; have H_z5 := Lib.hid z5; clear z5; have c_z6 := Vg.cells_of z6; have f_z6 := Vg.frozen_of z6; have p_z6 := Vg.setCell_of z6; have l_z6 := Vg.lt_of z6; have H_z6 := Lib.hid z6; clear z6; have H_h4 := Lib.hid h4; clear h4))
    have h5 := KP.new H_h4.out (g := w2.heap.size) (w' := w2.alloc (rkC ta' tc' ja' jc' la' lc' oa' oc' n)) (o := rkC ta' tc' ja' jc' la' lc' oa' oc' n) ((Vg.Grows.refl _).alloc _) (Vg.alloc_heap_at rfl) (Nat.le_refl _)
    have h5 := KP.new h5 (g := w2.heap.size + 1) (w' := (w2.alloc (rkC ta' tc' ja' jc' la' lc' oa' oc' n)).alloc (doneC d1 d2 d3)) (o := doneC d1 d2 d3) ((Vg.Grows.refl _).alloc _) (Vg.alloc_heap_at (by simp)) (by simp)
    obtain ⟨W3, hW3⟩ : ∃ W3, (w2.alloc (rkC ta' tc' ja' jc' la' lc' oa' oc' n)).alloc (doneC d1 d2 d3) = W3 := ⟨_, rfl⟩
    rw [hW3] at h5 ⊢
    obtain ⟨b11, hb11⟩ : ∃ b11, w2.heap.size = b11 := ⟨_, rfl⟩
    rw [hb11] at h5 ⊢
    obtain ⟨b12, hb12⟩ : ∃ b12, b11 + 1 = b12 := ⟨_, rfl⟩
    rw [hb12] at h5 ⊢
    clear hW3
    have m1 : b11 ≠ b6 := by omega
    have m2 : b6 ≠ b11 := by omega
    have m3 : b12 ≠ b6 := by omega
    have m4 : b6 ≠ b12 := by omega
    have m5 : b11 ≠ b12 := by omega
    have m6 : b12 ≠ b11 := by omega
    have x5 := h5.blk (g := b5) (o := act14 4 t c a) (by simp)
    have x6 := h5.blk (g := b6) (o := rv0) (by simp)
    have x11 := h5.blk (g := b11) (o := rkC ta' tc' ja' jc' la' lc' oa' oc' n) (by simp)
    have x12 := h5.blk (g := b12) (o := doneC d1 d2 d3) (by simp)
    clear c_z5 f_z5 p_z5 c_z6 f_z6 p_z6
    clear l_z5 l_z6
    have c_x5 := Vg.cells_of x5; have f_x5 := Vg.frozen_of x5; have p_x5 := Vg.setCell_of x5; have l_x5 := Vg.lt_of x5; have H_x5 := Lib.hid x5; clear x5; have c_x6 := Vg.cells_of x6; have f_x6 := Vg.frozen_of x6; have p_x6 := Vg.setCell_of x6; have l_x6 := Vg.lt_of x6; have H_x6 := Lib.hid x6; clear x6; have c_x11 := Vg.cells_of x11; have f_x11 := Vg.frozen_of x11; have p_x11 := Vg.setCell_of x11; have l_x11 := Vg.lt_of x11; have H_x11 := Lib.hid x11; clear x11; have c_x12 := Vg.cells_of x12; have f_x12 := Vg.frozen_of x12; have p_x12 := Vg.setCell_of x12; have l_x12 := Vg.lt_of x12; have H_x12 := Lib.hid x12; clear x12
    have H_h5 := Lib.hid h5; clear h5; have H_hb11 := Lib.hid hb11; clear hb11; have H_hb12 := Lib.hid hb12; clear hb12
    go_upto_region 12 with ((go_at_call 87; (with_reducible refine (kp_run H_h5.out H_hI.out H_hx.out).mono ?_); rintro e w4 ⟨rfl, h6⟩; have t6 := h6.blk (g := b6) (o := rv0) (by simp); have t11 := h6.blk (g := b11) (o := rkC ta' tc' ja' jc' la' lc' oa' oc' n) (by simp); have t12 := h6.blk (g := b12) (o := doneC d1 d2 d3) (by simp); clear c_x5 f_x5 p_x5 c_x6 f_x6 p_x6 c_x11 f_x11 p_x11 c_x12 f_x12 p_x12; have c_t6 := Vg.cells_of t6; have f_t6 := Vg.frozen_of t6; have p_t6 := Vg.setCell_of t6; have l_t6 := Vg.lt_of t6; have H_t6 := Lib.hid t6; clear t6; have c_t11 := Vg.cells_of t11; have f_t11 := Vg.frozen_of t11; have p_t11 := Vg.setCell_of t11; have l_t11 := Vg.lt_of t11; have H_t11 := Lib.hid t11; clear t11; have c_t12 := Vg.cells_of t12; have f_t12 := Vg.frozen_of t12; have p_t12 := Vg.setCell_of t12; have l_t12 := Vg.lt_of t12; have H_t12 := Lib.hid t12; clear t12; have H_h6 := Lib.hid h6; clear h6))
    have h7 := KP.new H_h6.out (g := w4.heap.size) (w' := w4.alloc (doneC d1 d2 d3)) (o := doneC d1 d2 d3) ((Vg.Grows.refl _).alloc _) (Vg.alloc_heap_at rfl) (Nat.le_refl _)
    obtain ⟨W5, hW5⟩ : ∃ W5, w4.alloc (doneC d1 d2 d3) = W5 := ⟨_, rfl⟩
    rw [hW5] at h7 ⊢
    obtain ⟨b15, hb15⟩ : ∃ b15, w4.heap.size = b15 := ⟨_, rfl⟩
    have m7 : b15 ≠ b6 := by omega
    have m8 : b6 ≠ b15 := by omega
    rw [hb15] at h7 ⊢
    clear hW5
    have u6 := h7.blk (g := b6) (o := rv0) (by simp)
    have u11 := h7.blk (g := b11) (o := rkC ta' tc' ja' jc' la' lc' oa' oc' n) (by simp)
    have u12 := h7.blk (g := b12) (o := doneC d1 d2 d3) (by simp)
    have u15 := h7.blk (g := b15) (o := doneC d1 d2 d3) (by simp)
    clear c_t6 f_t6 p_t6 c_t11 f_t11 p_t11 c_t12 f_t12 p_t12
    clear l_t6 l_t11 l_t12 l_x5 l_x6 l_x11 l_x12
    have c_u6 := Vg.cells_of u6; have f_u6 := Vg.frozen_of u6; have p_u6 := Vg.setCell_of u6; have l_u6 := Vg.lt_of u6; have H_u6 := Lib.hid u6; clear u6; have c_u11 := Vg.cells_of u11; have f_u11 := Vg.frozen_of u11; have p_u11 := Vg.setCell_of u11; have l_u11 := Vg.lt_of u11; have H_u11 := Lib.hid u11; clear u11; have c_u12 := Vg.cells_of u12; have f_u12 := Vg.frozen_of u12; have p_u12 := Vg.setCell_of u12; have l_u12 := Vg.lt_of u12; have H_u12 := Lib.hid u12; clear u12; have c_u15 := Vg.cells_of u15; have f_u15 := Vg.frozen_of u15; have p_u15 := Vg.setCell_of u15; have l_u15 := Vg.lt_of u15; have H_u15 := Lib.hid u15; clear u15
    have hpc : ∀ (cs : Array Value) (i : Nat), (Vg.put W5 b6 (.cells cs 112)).cell? ⟨b6, i, none⟩ = cs[i]? := fun cs i => Vg.cells_of (Vg.put_heap_same l_u6) i
    have H_h7 := Lib.hid h7; clear h7; have H_hb15 := Lib.hid hb15; clear hb15; have H_hpc := Lib.hid hpc; clear hpc
    refine wp_region_held_drew (S := fun w' => b11 < w'.heap.size ∧ b12 < w'.heap.size ∧ b15 < w'.heap.size ∧ w'.cell? ⟨b11, 0, none⟩ = some (.slice ta' n tc') ∧ w'.cell? ⟨b11, 1, none⟩ = some (.slice ja' n jc') ∧ w'.cell? ⟨b11, 2, none⟩ = some (.slice la' n lc') ∧ w'.cell? ⟨b11, 3, none⟩ = some (.slice oa' n oc') ∧ w'.cell? ⟨b12, 0, none⟩ = some (.int .i64 d1) ∧ w'.cell? ⟨b12, 1, none⟩ = some (.int .i64 d2) ∧ w'.cell? ⟨b12, 2, none⟩ = some (.int .i64 d3) ∧ w'.cell? ⟨b15, 0, none⟩ = some (.int .i64 d1) ∧ w'.cell? ⟨b15, 1, none⟩ = some (.int .i64 d2) ∧ w'.cell? ⟨b15, 2, none⟩ = some (.int .i64 d3)) (by kernel_rfl) (by go_split_ands <;> (try dsimp only) <;> go_simp) (fun hHeld => ?_)
    refine wpAnyH_take (i := 0) (oi := _) (v := ?v17) rfl (by kernel_rfl) (by kernel_rfl) (by kernel_rfl) (fun _ _ _ h => h) (Or.inl ⟨by rfl, ?hy17⟩) (by assumption) ?rest17
    case hy17 => (intro w hSw; (try dsimp only at hSw); go_simp; first | done | with_reducible rfl)
    (try simp only [List.getElem_toArray, List.getElem_cons_succ, List.getElem_cons_zero, Act.put, List.setIfInBounds_toArray, List.set_cons_zero, List.set_cons_succ])
    refine wpAnyH_take (i := 1) (oi := _) (v := ?v18) rfl (by kernel_rfl) (by kernel_rfl) (by kernel_rfl) (fun _ _ _ h => h) (Or.inl ⟨by rfl, ?hy18⟩) (by assumption) ?rest18
    case hy18 => (intro w hSw; (try dsimp only at hSw); go_simp; first | done | with_reducible rfl)
    (try simp only [List.getElem_toArray, List.getElem_cons_succ, List.getElem_cons_zero, Act.put, List.setIfInBounds_toArray, List.set_cons_zero, List.set_cons_succ])
    refine wpAnyH_take (i := 2) (oi := _) (v := ?v19) rfl (by kernel_rfl) (by kernel_rfl) (by kernel_rfl) (fun _ _ _ h => h) (Or.inl ⟨by rfl, ?hy19⟩) (by assumption) ?rest19
    case hy19 => (intro w hSw; (try dsimp only at hSw); go_simp; first | done | with_reducible rfl)
    (try simp only [List.getElem_toArray, List.getElem_cons_succ, List.getElem_cons_zero, Act.put, List.setIfInBounds_toArray, List.set_cons_zero, List.set_cons_succ])
    refine wpAnyH_take (i := 3) (oi := _) (v := ?v20) rfl (by kernel_rfl) (by kernel_rfl) (by kernel_rfl) (fun _ _ _ h => h) (Or.inl ⟨by rfl, ?hy20⟩) (by assumption) ?rest20
    case hy20 => (intro w hSw; (try dsimp only at hSw); go_simp; first | done | with_reducible rfl)
    (try simp only [List.getElem_toArray, List.getElem_cons_succ, List.getElem_cons_zero, Act.put, List.setIfInBounds_toArray, List.set_cons_zero, List.set_cons_succ])
    refine wpAnyH_take (i := 4) (oi := _) (v := ?v21) rfl (by kernel_rfl) (by kernel_rfl) (by kernel_rfl) (fun _ _ _ h => h) (Or.inl ⟨by rfl, ?hy21⟩) (by assumption) ?rest21
    case hy21 => (intro w hSw; (try dsimp only at hSw); go_simp; first | done | with_reducible rfl)
    (try simp only [List.getElem_toArray, List.getElem_cons_succ, List.getElem_cons_zero, Act.put, List.setIfInBounds_toArray, List.set_cons_zero, List.set_cons_succ])
    refine wpAnyH_take (i := 5) (oi := _) (v := ?v22) rfl (by kernel_rfl) (by kernel_rfl) (by kernel_rfl) (fun _ _ _ h => h) (Or.inl ⟨by rfl, ?hy22⟩) (by assumption) ?rest22
    case hy22 => (intro w hSw; (try dsimp only at hSw); go_simp; first | done | with_reducible rfl)
    (try simp only [List.getElem_toArray, List.getElem_cons_succ, List.getElem_cons_zero, Act.put, List.setIfInBounds_toArray, List.set_cons_zero, List.set_cons_succ])
    refine wpAnyH_take (i := 6) (oi := _) (v := ?v23) rfl (by kernel_rfl) (by kernel_rfl) (by kernel_rfl) (fun _ _ _ h => h) (Or.inl ⟨by rfl, ?hy23⟩) (by assumption) ?rest23
    case hy23 => (intro w hSw; (try dsimp only at hSw); go_simp; first | done | with_reducible rfl)
    (try simp only [List.getElem_toArray, List.getElem_cons_succ, List.getElem_cons_zero, Act.put, List.setIfInBounds_toArray, List.set_cons_zero, List.set_cons_succ])
    refine wpAnyH_take (i := 7) (oi := _) (v := ?v24) rfl (by kernel_rfl) (by kernel_rfl) (by kernel_rfl) (fun _ _ _ h => h) (Or.inl ⟨by rfl, ?hy24⟩) (by assumption) ?rest24
    case hy24 => (intro w hSw; (try dsimp only at hSw); go_simp; first | done | with_reducible rfl)
    (try simp only [List.getElem_toArray, List.getElem_cons_succ, List.getElem_cons_zero, Act.put, List.setIfInBounds_toArray, List.set_cons_zero, List.set_cons_succ])
    refine wpAnyH_take (i := 8) (oi := _) (v := ?v25) rfl (by kernel_rfl) (by kernel_rfl) (by kernel_rfl) (fun _ _ _ h => h) (Or.inl ⟨by rfl, ?hy25⟩) (by assumption) ?rest25
    case hy25 => (intro w hSw; (try dsimp only at hSw); go_simp; first | done | with_reducible rfl)
    (try simp only [List.getElem_toArray, List.getElem_cons_succ, List.getElem_cons_zero, Act.put, List.setIfInBounds_toArray, List.set_cons_zero, List.set_cons_succ])
    refine wpAnyH_take (i := 9) (oi := _) (v := ?v26) rfl (by kernel_rfl) (by kernel_rfl) (by kernel_rfl) (fun _ _ _ h => h) (Or.inl ⟨by rfl, ?hy26⟩) (by assumption) ?rest26
    case hy26 => (intro w hSw; (try dsimp only at hSw); go_simp; first | done | with_reducible rfl)
    (try simp only [List.getElem_toArray, List.getElem_cons_succ, List.getElem_cons_zero, Act.put, List.setIfInBounds_toArray, List.set_cons_zero, List.set_cons_succ])
    refine wpAnyH_take (i := 10) (oi := _) (v := ?v27) rfl (by kernel_rfl) (by kernel_rfl) (by kernel_rfl) (fun _ _ _ h => h) (Or.inl ⟨by rfl, ?hy27⟩) (by assumption) ?rest27
    case hy27 => (intro w hSw; (try dsimp only at hSw); go_simp; first | done | with_reducible rfl)
    (try simp only [List.getElem_toArray, List.getElem_cons_succ, List.getElem_cons_zero, Act.put, List.setIfInBounds_toArray, List.set_cons_zero, List.set_cons_succ])
    refine wpAnyH_take (i := 11) (oi := _) (v := ?v28) rfl (by kernel_rfl) (by kernel_rfl) (by kernel_rfl) (fun _ _ _ h => h) (Or.inl ⟨by rfl, ?hy28⟩) (by assumption) ?rest28
    case hy28 => (intro w hSw; (try dsimp only at hSw); go_simp; first | done | with_reducible rfl)
    (try simp only [List.getElem_toArray, List.getElem_cons_succ, List.getElem_cons_zero, Act.put, List.setIfInBounds_toArray, List.set_cons_zero, List.set_cons_succ])
    refine wpAnyH_take (i := 12) (oi := _) (v := ?v29) rfl (by kernel_rfl) (by kernel_rfl) (by kernel_rfl) (fun _ _ _ h => h) (Or.inl ⟨by rfl, ?hy29⟩) (by assumption) ?rest29
    case hy29 => (intro w hSw; (try dsimp only at hSw); go_simp; first | done | with_reducible rfl)
    (try simp only [List.getElem_toArray, List.getElem_cons_succ, List.getElem_cons_zero, Act.put, List.setIfInBounds_toArray, List.set_cons_zero, List.set_cons_succ])
    refine wpAnyH_take (i := 13) (oi := _) (v := ?v30) rfl (by kernel_rfl) (by kernel_rfl) (by kernel_rfl) (fun _ _ _ h => h) (Or.inl ⟨by rfl, ?hy30⟩) (by assumption) ?rest30
    case hy30 => (intro w hSw; (try dsimp only at hSw); go_simp; first | done | with_reducible rfl)
    (try simp only [List.getElem_toArray, List.getElem_cons_succ, List.getElem_cons_zero, Act.put, List.setIfInBounds_toArray, List.set_cons_zero, List.set_cons_succ])
    refine wpAnyH_ready (rs := [14]) (by kernel_rfl) (by simp) ?_
    refine AllReadyH.cons (o := _) rfl (fun K hK => ?st31) ?mo31
    case st31 =>
      go_simp
      refine hK.out _ _ (by go_split_ands <;> (try dsimp only) <;> go_simp) (fun hHeld31 => ?_)
      clear hK K
      (try simp only [List.getElem_toArray, List.getElem_cons_succ, List.getElem_cons_zero, Act.put, List.setIfInBounds_toArray, List.set_cons_zero, List.set_cons_succ])
      refine wpAnyH_take (i := 15) (oi := _) (v := ?v32) rfl (by kernel_rfl) (by kernel_rfl) (by kernel_rfl) (fun _ _ _ h => h) (Or.inl ⟨by rfl, ?hy32⟩) (by assumption) ?rest32
      case hy32 => (intro w hSw; (try dsimp only at hSw); go_simp; first | done | with_reducible rfl)
      (try simp only [List.getElem_toArray, List.getElem_cons_succ, List.getElem_cons_zero, Act.put, List.setIfInBounds_toArray, List.set_cons_zero, List.set_cons_succ])
      refine wpAnyH_done (by kernel_rfl) ?_ _
      go_wp2_with fail
      refine bodyPost_ret (by simp [results, Try.results66, go_sem, H_hpc.out] <;> try rfl) rfl ?_
      exact ⟨ta', tc', ja', jc', la', lc', oa', oc', rfl, KP.grows (KP.fin (o := rv0) _ H_h7.out (by simp) (fun p hp => by simp [hp]) hlo6 H_hxl6.out) (Vg.Grows.drew (Vg.Grows.refl _))⟩
    exact AllReadyH.nil
  · rw [Int.min_eq_right (by omega)] at hx
    have H_h := Lib.hid h; clear h; have H_h1 := Lib.hid h1; clear h1; have H_h2 := Lib.hid h2; clear h2; have H_h3 := Lib.hid h3; clear h3; have H_hm := Lib.hid hm; clear hm; have H_hI := Lib.hid hI; clear hI; have H_hn := Lib.hid hn; clear hn; have H_hxl := Lib.hid hxl; clear hxl; have H_hl := Lib.hid hl; clear hl; have H_hx := Lib.hid hx; clear hx
    go_enter Try.func66, Try.ntmps66
    go_upto_region 1 with fail
    obtain ⟨W1, hW1⟩ : ∃ W1, ((w.alloc (rkC ta tc ja jc la lc oa oc n)).alloc (act14 4 t c a)).alloc rv0 = W1 := ⟨_, rfl⟩
    have h3 := H_h3.out
    rw [hW1] at h3 ⊢
    obtain ⟨b4, hb4⟩ : ∃ b4, w.heap.size = b4 := ⟨_, rfl⟩
    rw [hb4] at h3 hgr ⊢
    obtain ⟨b5, hb5⟩ : ∃ b5, b4 + 1 = b5 := ⟨_, rfl⟩
    rw [hb5] at h3 ⊢
    obtain ⟨b6, hb6⟩ : ∃ b6, b5 + 1 = b6 := ⟨_, rfl⟩
    rw [hb6] at h3 ⊢
    clear hW1 H_h1 H_h2 H_h3
    have n1 : b4 ≠ b5 := by omega
    have n2 : b4 ≠ b6 := by omega
    have n3 : b5 ≠ b6 := by omega
    have n4 : b5 ≠ b4 := by omega
    have n5 : b6 ≠ b4 := by omega
    have n6 : b6 ≠ b5 := by omega
    have hlo6 : w0.heap.size ≤ b6 := by omega
    have hxl6 : ∀ p ∈ X, p.1 < b6 := fun p hp => by have := H_hxl.out p hp; omega
    have y4 := h3.blk (g := b4) (o := rkC ta tc ja jc la lc oa oc n) (by simp)
    have y5 := h3.blk (g := b5) (o := act14 4 t c a) (by simp)
    have y6 := h3.blk (g := b6) (o := rv0) (by simp)
    have c_y4 := Vg.cells_of y4; have f_y4 := Vg.frozen_of y4; have p_y4 := Vg.setCell_of y4; have l_y4 := Vg.lt_of y4; have H_y4 := Lib.hid y4; clear y4; have c_y5 := Vg.cells_of y5; have f_y5 := Vg.frozen_of y5; have p_y5 := Vg.setCell_of y5; have l_y5 := Vg.lt_of y5; have H_y5 := Lib.hid y5; clear y5; have c_y6 := Vg.cells_of y6; have f_y6 := Vg.frozen_of y6; have p_y6 := Vg.setCell_of y6; have l_y6 := Vg.lt_of y6; have H_y6 := Lib.hid y6; clear y6
    have H_h3 := Lib.hid h3; clear h3; have H_hb4 := Lib.hid hb4; clear hb4; have H_hb5 := Lib.hid hb5; clear hb5; have H_hb6 := Lib.hid hb6; clear hb6; have H_hxl6 := Lib.hid hxl6; clear hxl6
    go_upto_region 11 with (first | (go_at_call 70; (with_reducible refine (rf_left (H_h3.out.fk.grows (by (repeat' (first | (with_reducible exact Vg.Grows.refl _) | (with_reducible assumption) | (with_reducible refine Vg.Grows.alloc ?_ _) | (with_reducible refine Vg.Grows.plus ?_ _ _) | (with_reducible refine Vg.Grows.drewN ?_ _) | (with_reducible refine Vg.Grows.drew ?_) | (with_reducible refine Vg.Grows.setCell ?_ ?_ _) | (with_reducible refine Vg.Grows.put ?_ ?_ _) | omega | (simp; omega) | (simp; done))))) H_hm.out H_hI.out H_hl.out).mono ?_); rintro e w1 ⟨rfl, x1, n1, rfl⟩) | (go_at_call 116; (with_reducible refine (kr_run (H_h3.out.grows (by (repeat' (first | (with_reducible exact Vg.Grows.refl _) | (with_reducible assumption) | (with_reducible refine Vg.Grows.alloc ?_ _) | (with_reducible refine Vg.Grows.plus ?_ _ _) | (with_reducible refine Vg.Grows.drewN ?_ _) | (with_reducible refine Vg.Grows.drew ?_) | (with_reducible refine Vg.Grows.setCell ?_ ?_ _) | (with_reducible refine Vg.Grows.put ?_ ?_ _) | omega | (simp; omega) | (simp; done))))) H_hm.out H_hI.out hk H_hn.out hn0 hn32 H_hx.out).mono ?_); rintro e w2 ⟨ta', tc', ja', jc', la', lc', oa', oc', rfl, h4⟩; have z5 := h4.blk (g := b5) (o := act14 4 t c a) (by simp); have z6 := h4.blk (g := b6) (o := rv0) (by simp); clear c_y4 f_y4 p_y4 c_y5 f_y5 p_y5 c_y6 f_y6 p_y6; have c_z5 := Vg.cells_of z5; have f_z5 := Vg.frozen_of z5; have p_z5 := Vg.setCell_of z5; have l_z5 := Vg.lt_of z5; have H_z5 := Lib.hid z5; clear z5; have c_z6 := Vg.cells_of z6; have f_z6 := Vg.frozen_of z6; have p_z6 := Vg.setCell_of z6; have l_z6 := Vg.lt_of z6; have H_z6 := Lib.hid z6; clear z6; have H_h4 := Lib.hid h4; clear h4))
    have h5 := KP.new H_h4.out (g := w2.heap.size) (w' := w2.alloc (rkC ta' tc' ja' jc' la' lc' oa' oc' n)) (o := rkC ta' tc' ja' jc' la' lc' oa' oc' n) ((Vg.Grows.refl _).alloc _) (Vg.alloc_heap_at rfl) (Nat.le_refl _)
    have h5 := KP.new h5 (g := w2.heap.size + 1) (w' := (w2.alloc (rkC ta' tc' ja' jc' la' lc' oa' oc' n)).alloc (doneC d1 d2 d3)) (o := doneC d1 d2 d3) ((Vg.Grows.refl _).alloc _) (Vg.alloc_heap_at (by simp)) (by simp)
    obtain ⟨W3, hW3⟩ : ∃ W3, (w2.alloc (rkC ta' tc' ja' jc' la' lc' oa' oc' n)).alloc (doneC d1 d2 d3) = W3 := ⟨_, rfl⟩
    rw [hW3] at h5 ⊢
    obtain ⟨b11, hb11⟩ : ∃ b11, w2.heap.size = b11 := ⟨_, rfl⟩
    rw [hb11] at h5 ⊢
    obtain ⟨b12, hb12⟩ : ∃ b12, b11 + 1 = b12 := ⟨_, rfl⟩
    rw [hb12] at h5 ⊢
    clear hW3
    have m1 : b11 ≠ b6 := by omega
    have m2 : b6 ≠ b11 := by omega
    have m3 : b12 ≠ b6 := by omega
    have m4 : b6 ≠ b12 := by omega
    have m5 : b11 ≠ b12 := by omega
    have m6 : b12 ≠ b11 := by omega
    have x5 := h5.blk (g := b5) (o := act14 4 t c a) (by simp)
    have x6 := h5.blk (g := b6) (o := rv0) (by simp)
    have x11 := h5.blk (g := b11) (o := rkC ta' tc' ja' jc' la' lc' oa' oc' n) (by simp)
    have x12 := h5.blk (g := b12) (o := doneC d1 d2 d3) (by simp)
    clear c_z5 f_z5 p_z5 c_z6 f_z6 p_z6
    clear l_z5 l_z6
    have c_x5 := Vg.cells_of x5; have f_x5 := Vg.frozen_of x5; have p_x5 := Vg.setCell_of x5; have l_x5 := Vg.lt_of x5; have H_x5 := Lib.hid x5; clear x5; have c_x6 := Vg.cells_of x6; have f_x6 := Vg.frozen_of x6; have p_x6 := Vg.setCell_of x6; have l_x6 := Vg.lt_of x6; have H_x6 := Lib.hid x6; clear x6; have c_x11 := Vg.cells_of x11; have f_x11 := Vg.frozen_of x11; have p_x11 := Vg.setCell_of x11; have l_x11 := Vg.lt_of x11; have H_x11 := Lib.hid x11; clear x11; have c_x12 := Vg.cells_of x12; have f_x12 := Vg.frozen_of x12; have p_x12 := Vg.setCell_of x12; have l_x12 := Vg.lt_of x12; have H_x12 := Lib.hid x12; clear x12
    have H_h5 := Lib.hid h5; clear h5; have H_hb11 := Lib.hid hb11; clear hb11; have H_hb12 := Lib.hid hb12; clear hb12
    go_upto_region 12 with ((go_at_call 87; (with_reducible refine (kp_run H_h5.out H_hI.out H_hx.out).mono ?_); rintro e w4 ⟨rfl, h6⟩; have t6 := h6.blk (g := b6) (o := rv0) (by simp); have t11 := h6.blk (g := b11) (o := rkC ta' tc' ja' jc' la' lc' oa' oc' n) (by simp); have t12 := h6.blk (g := b12) (o := doneC d1 d2 d3) (by simp); clear c_x5 f_x5 p_x5 c_x6 f_x6 p_x6 c_x11 f_x11 p_x11 c_x12 f_x12 p_x12; have c_t6 := Vg.cells_of t6; have f_t6 := Vg.frozen_of t6; have p_t6 := Vg.setCell_of t6; have l_t6 := Vg.lt_of t6; have H_t6 := Lib.hid t6; clear t6; have c_t11 := Vg.cells_of t11; have f_t11 := Vg.frozen_of t11; have p_t11 := Vg.setCell_of t11; have l_t11 := Vg.lt_of t11; have H_t11 := Lib.hid t11; clear t11; have c_t12 := Vg.cells_of t12; have f_t12 := Vg.frozen_of t12; have p_t12 := Vg.setCell_of t12; have l_t12 := Vg.lt_of t12; have H_t12 := Lib.hid t12; clear t12; have H_h6 := Lib.hid h6; clear h6))
    have h7 := KP.new H_h6.out (g := w4.heap.size) (w' := w4.alloc (doneC d1 d2 d3)) (o := doneC d1 d2 d3) ((Vg.Grows.refl _).alloc _) (Vg.alloc_heap_at rfl) (Nat.le_refl _)
    obtain ⟨W5, hW5⟩ : ∃ W5, w4.alloc (doneC d1 d2 d3) = W5 := ⟨_, rfl⟩
    rw [hW5] at h7 ⊢
    obtain ⟨b15, hb15⟩ : ∃ b15, w4.heap.size = b15 := ⟨_, rfl⟩
    have m7 : b15 ≠ b6 := by omega
    have m8 : b6 ≠ b15 := by omega
    rw [hb15] at h7 ⊢
    clear hW5
    have u6 := h7.blk (g := b6) (o := rv0) (by simp)
    have u11 := h7.blk (g := b11) (o := rkC ta' tc' ja' jc' la' lc' oa' oc' n) (by simp)
    have u12 := h7.blk (g := b12) (o := doneC d1 d2 d3) (by simp)
    have u15 := h7.blk (g := b15) (o := doneC d1 d2 d3) (by simp)
    clear c_t6 f_t6 p_t6 c_t11 f_t11 p_t11 c_t12 f_t12 p_t12
    clear l_t6 l_t11 l_t12 l_x5 l_x6 l_x11 l_x12
    have c_u6 := Vg.cells_of u6; have f_u6 := Vg.frozen_of u6; have p_u6 := Vg.setCell_of u6; have l_u6 := Vg.lt_of u6; have H_u6 := Lib.hid u6; clear u6; have c_u11 := Vg.cells_of u11; have f_u11 := Vg.frozen_of u11; have p_u11 := Vg.setCell_of u11; have l_u11 := Vg.lt_of u11; have H_u11 := Lib.hid u11; clear u11; have c_u12 := Vg.cells_of u12; have f_u12 := Vg.frozen_of u12; have p_u12 := Vg.setCell_of u12; have l_u12 := Vg.lt_of u12; have H_u12 := Lib.hid u12; clear u12; have c_u15 := Vg.cells_of u15; have f_u15 := Vg.frozen_of u15; have p_u15 := Vg.setCell_of u15; have l_u15 := Vg.lt_of u15; have H_u15 := Lib.hid u15; clear u15
    have hpc : ∀ (cs : Array Value) (i : Nat), (Vg.put W5 b6 (.cells cs 112)).cell? ⟨b6, i, none⟩ = cs[i]? := fun cs i => Vg.cells_of (Vg.put_heap_same l_u6) i
    have H_h7 := Lib.hid h7; clear h7; have H_hb15 := Lib.hid hb15; clear hb15; have H_hpc := Lib.hid hpc; clear hpc
    refine wp_region_held_drew (S := fun w' => b11 < w'.heap.size ∧ b12 < w'.heap.size ∧ b15 < w'.heap.size ∧ w'.cell? ⟨b11, 0, none⟩ = some (.slice ta' n tc') ∧ w'.cell? ⟨b11, 1, none⟩ = some (.slice ja' n jc') ∧ w'.cell? ⟨b11, 2, none⟩ = some (.slice la' n lc') ∧ w'.cell? ⟨b11, 3, none⟩ = some (.slice oa' n oc') ∧ w'.cell? ⟨b12, 0, none⟩ = some (.int .i64 d1) ∧ w'.cell? ⟨b12, 1, none⟩ = some (.int .i64 d2) ∧ w'.cell? ⟨b12, 2, none⟩ = some (.int .i64 d3) ∧ w'.cell? ⟨b15, 0, none⟩ = some (.int .i64 d1) ∧ w'.cell? ⟨b15, 1, none⟩ = some (.int .i64 d2) ∧ w'.cell? ⟨b15, 2, none⟩ = some (.int .i64 d3)) (by kernel_rfl) (by go_split_ands <;> (try dsimp only) <;> go_simp) (fun hHeld => ?_)
    refine wpAnyH_take (i := 0) (oi := _) (v := ?v33) rfl (by kernel_rfl) (by kernel_rfl) (by kernel_rfl) (fun _ _ _ h => h) (Or.inl ⟨by rfl, ?hy33⟩) (by assumption) ?rest33
    case hy33 => (intro w hSw; (try dsimp only at hSw); go_simp; first | done | with_reducible rfl)
    (try simp only [List.getElem_toArray, List.getElem_cons_succ, List.getElem_cons_zero, Act.put, List.setIfInBounds_toArray, List.set_cons_zero, List.set_cons_succ])
    refine wpAnyH_take (i := 1) (oi := _) (v := ?v34) rfl (by kernel_rfl) (by kernel_rfl) (by kernel_rfl) (fun _ _ _ h => h) (Or.inl ⟨by rfl, ?hy34⟩) (by assumption) ?rest34
    case hy34 => (intro w hSw; (try dsimp only at hSw); go_simp; first | done | with_reducible rfl)
    (try simp only [List.getElem_toArray, List.getElem_cons_succ, List.getElem_cons_zero, Act.put, List.setIfInBounds_toArray, List.set_cons_zero, List.set_cons_succ])
    refine wpAnyH_take (i := 2) (oi := _) (v := ?v35) rfl (by kernel_rfl) (by kernel_rfl) (by kernel_rfl) (fun _ _ _ h => h) (Or.inl ⟨by rfl, ?hy35⟩) (by assumption) ?rest35
    case hy35 => (intro w hSw; (try dsimp only at hSw); go_simp; first | done | with_reducible rfl)
    (try simp only [List.getElem_toArray, List.getElem_cons_succ, List.getElem_cons_zero, Act.put, List.setIfInBounds_toArray, List.set_cons_zero, List.set_cons_succ])
    refine wpAnyH_take (i := 3) (oi := _) (v := ?v36) rfl (by kernel_rfl) (by kernel_rfl) (by kernel_rfl) (fun _ _ _ h => h) (Or.inl ⟨by rfl, ?hy36⟩) (by assumption) ?rest36
    case hy36 => (intro w hSw; (try dsimp only at hSw); go_simp; first | done | with_reducible rfl)
    (try simp only [List.getElem_toArray, List.getElem_cons_succ, List.getElem_cons_zero, Act.put, List.setIfInBounds_toArray, List.set_cons_zero, List.set_cons_succ])
    refine wpAnyH_take (i := 4) (oi := _) (v := ?v37) rfl (by kernel_rfl) (by kernel_rfl) (by kernel_rfl) (fun _ _ _ h => h) (Or.inl ⟨by rfl, ?hy37⟩) (by assumption) ?rest37
    case hy37 => (intro w hSw; (try dsimp only at hSw); go_simp; first | done | with_reducible rfl)
    (try simp only [List.getElem_toArray, List.getElem_cons_succ, List.getElem_cons_zero, Act.put, List.setIfInBounds_toArray, List.set_cons_zero, List.set_cons_succ])
    refine wpAnyH_take (i := 5) (oi := _) (v := ?v38) rfl (by kernel_rfl) (by kernel_rfl) (by kernel_rfl) (fun _ _ _ h => h) (Or.inl ⟨by rfl, ?hy38⟩) (by assumption) ?rest38
    case hy38 => (intro w hSw; (try dsimp only at hSw); go_simp; first | done | with_reducible rfl)
    (try simp only [List.getElem_toArray, List.getElem_cons_succ, List.getElem_cons_zero, Act.put, List.setIfInBounds_toArray, List.set_cons_zero, List.set_cons_succ])
    refine wpAnyH_take (i := 6) (oi := _) (v := ?v39) rfl (by kernel_rfl) (by kernel_rfl) (by kernel_rfl) (fun _ _ _ h => h) (Or.inl ⟨by rfl, ?hy39⟩) (by assumption) ?rest39
    case hy39 => (intro w hSw; (try dsimp only at hSw); go_simp; first | done | with_reducible rfl)
    (try simp only [List.getElem_toArray, List.getElem_cons_succ, List.getElem_cons_zero, Act.put, List.setIfInBounds_toArray, List.set_cons_zero, List.set_cons_succ])
    refine wpAnyH_take (i := 7) (oi := _) (v := ?v40) rfl (by kernel_rfl) (by kernel_rfl) (by kernel_rfl) (fun _ _ _ h => h) (Or.inl ⟨by rfl, ?hy40⟩) (by assumption) ?rest40
    case hy40 => (intro w hSw; (try dsimp only at hSw); go_simp; first | done | with_reducible rfl)
    (try simp only [List.getElem_toArray, List.getElem_cons_succ, List.getElem_cons_zero, Act.put, List.setIfInBounds_toArray, List.set_cons_zero, List.set_cons_succ])
    refine wpAnyH_take (i := 8) (oi := _) (v := ?v41) rfl (by kernel_rfl) (by kernel_rfl) (by kernel_rfl) (fun _ _ _ h => h) (Or.inl ⟨by rfl, ?hy41⟩) (by assumption) ?rest41
    case hy41 => (intro w hSw; (try dsimp only at hSw); go_simp; first | done | with_reducible rfl)
    (try simp only [List.getElem_toArray, List.getElem_cons_succ, List.getElem_cons_zero, Act.put, List.setIfInBounds_toArray, List.set_cons_zero, List.set_cons_succ])
    refine wpAnyH_take (i := 9) (oi := _) (v := ?v42) rfl (by kernel_rfl) (by kernel_rfl) (by kernel_rfl) (fun _ _ _ h => h) (Or.inl ⟨by rfl, ?hy42⟩) (by assumption) ?rest42
    case hy42 => (intro w hSw; (try dsimp only at hSw); go_simp; first | done | with_reducible rfl)
    (try simp only [List.getElem_toArray, List.getElem_cons_succ, List.getElem_cons_zero, Act.put, List.setIfInBounds_toArray, List.set_cons_zero, List.set_cons_succ])
    refine wpAnyH_take (i := 10) (oi := _) (v := ?v43) rfl (by kernel_rfl) (by kernel_rfl) (by kernel_rfl) (fun _ _ _ h => h) (Or.inl ⟨by rfl, ?hy43⟩) (by assumption) ?rest43
    case hy43 => (intro w hSw; (try dsimp only at hSw); go_simp; first | done | with_reducible rfl)
    (try simp only [List.getElem_toArray, List.getElem_cons_succ, List.getElem_cons_zero, Act.put, List.setIfInBounds_toArray, List.set_cons_zero, List.set_cons_succ])
    refine wpAnyH_take (i := 11) (oi := _) (v := ?v44) rfl (by kernel_rfl) (by kernel_rfl) (by kernel_rfl) (fun _ _ _ h => h) (Or.inl ⟨by rfl, ?hy44⟩) (by assumption) ?rest44
    case hy44 => (intro w hSw; (try dsimp only at hSw); go_simp; first | done | with_reducible rfl)
    (try simp only [List.getElem_toArray, List.getElem_cons_succ, List.getElem_cons_zero, Act.put, List.setIfInBounds_toArray, List.set_cons_zero, List.set_cons_succ])
    refine wpAnyH_take (i := 12) (oi := _) (v := ?v45) rfl (by kernel_rfl) (by kernel_rfl) (by kernel_rfl) (fun _ _ _ h => h) (Or.inl ⟨by rfl, ?hy45⟩) (by assumption) ?rest45
    case hy45 => (intro w hSw; (try dsimp only at hSw); go_simp; first | done | with_reducible rfl)
    (try simp only [List.getElem_toArray, List.getElem_cons_succ, List.getElem_cons_zero, Act.put, List.setIfInBounds_toArray, List.set_cons_zero, List.set_cons_succ])
    refine wpAnyH_take (i := 13) (oi := _) (v := ?v46) rfl (by kernel_rfl) (by kernel_rfl) (by kernel_rfl) (fun _ _ _ h => h) (Or.inl ⟨by rfl, ?hy46⟩) (by assumption) ?rest46
    case hy46 => (intro w hSw; (try dsimp only at hSw); go_simp; first | done | with_reducible rfl)
    (try simp only [List.getElem_toArray, List.getElem_cons_succ, List.getElem_cons_zero, Act.put, List.setIfInBounds_toArray, List.set_cons_zero, List.set_cons_succ])
    refine wpAnyH_ready (rs := [14]) (by kernel_rfl) (by simp) ?_
    refine AllReadyH.cons (o := _) rfl (fun K hK => ?st47) ?mo47
    case st47 =>
      go_simp
      refine hK.out _ _ (by go_split_ands <;> (try dsimp only) <;> go_simp) (fun hHeld47 => ?_)
      clear hK K
      (try simp only [List.getElem_toArray, List.getElem_cons_succ, List.getElem_cons_zero, Act.put, List.setIfInBounds_toArray, List.set_cons_zero, List.set_cons_succ])
      refine wpAnyH_take (i := 15) (oi := _) (v := ?v48) rfl (by kernel_rfl) (by kernel_rfl) (by kernel_rfl) (fun _ _ _ h => h) (Or.inl ⟨by rfl, ?hy48⟩) (by assumption) ?rest48
      case hy48 => (intro w hSw; (try dsimp only at hSw); go_simp; first | done | with_reducible rfl)
      (try simp only [List.getElem_toArray, List.getElem_cons_succ, List.getElem_cons_zero, Act.put, List.setIfInBounds_toArray, List.set_cons_zero, List.set_cons_succ])
      refine wpAnyH_done (by kernel_rfl) ?_ _
      go_wp2_with fail
      refine bodyPost_ret (by simp [results, Try.results66, go_sem, H_hpc.out] <;> try rfl) rfl ?_
      exact ⟨ta', tc', ja', jc', la', lc', oa', oc', rfl, KP.grows (KP.fin (o := rv0) _ H_h7.out (by simp) (fun p hp => by simp [hp]) hlo6 H_hxl6.out) (Vg.Grows.drew (Vg.Grows.refl _))⟩
    exact AllReadyH.nil
theorem kp_plays (h : KP w0 w b K M v K X) (hm : Vg.Kn.HM K M) (hI : Vg.Kn.Inv k K) (hk : k ≤ 1000000) (hn : K.length = n) (hn0 : 0 < n) (hn32 : n ≤ 32) (hx : Vg.Kn.plays K M kd t c a = (K', M')) :
    Calls Try.prog 66 #[.pointer (some ⟨b, 0, none⟩), v, .agg #[.int .i64 kd, .int .i64 t, .int .i64 c, .int .i64 a]] w fun e w' => ∃ ta tc ja jc la lc oa oc, e = .returned (.tuple #[kv ta tc ja jc la lc oa oc n, .bool true]) ∧ KP w0 w' b K' M' (kv ta tc ja jc la lc oa oc n) K' X := by
  unfold Vg.Kn.plays at hx
  by_cases e0 : kd = 0
  · rw [if_pos e0] at hx
    subst e0
    obtain ⟨⟨K9, r9⟩, h9⟩ : ∃ p, Vg.Kn.release K t c a = p := ⟨_, rfl⟩
    rw [h9] at hx
    simp only [Prod.mk.injEq] at hx
    obtain ⟨rfl, rfl⟩ := hx
    exact kp_plays_release h hm hI hk hn hn0 hn32 h9
  · rw [if_neg e0] at hx
    by_cases e1 : kd = 1 ∨ kd = 4
    · rw [if_pos e1] at hx
      rcases e1 with rfl | rfl
      · rw [if_neg (by decide)] at hx
        obtain ⟨⟨K9, M9, ⟨e1, e2, e3⟩, e4, e5⟩, h9⟩ : ∃ p, Vg.Kn.run K M c = p := ⟨_, rfl⟩
        rw [h9] at hx
        simp only [Prod.mk.injEq] at hx
        obtain ⟨rfl, rfl⟩ := hx
        exact kp_plays_run1 h hm hI hk hn hn0 hn32 h9
      · rw [if_pos rfl] at hx
        obtain ⟨x, hxl⟩ : ∃ x, Vg.Kn.left K M = x := ⟨_, rfl⟩
        rw [hxl] at hx
        obtain ⟨⟨K9, M9, ⟨e1, e2, e3⟩, e4, e5⟩, h9⟩ : ∃ p, Vg.Kn.run K M (min c x) = p := ⟨_, rfl⟩
        rw [h9] at hx
        simp only [Prod.mk.injEq] at hx
        obtain ⟨rfl, rfl⟩ := hx
        exact kp_plays_run4 h hm hI hk hn hn0 hn32 hxl h9
    · rw [if_neg e1] at hx
      by_cases e2 : kd = 2
      · rw [if_pos e2] at hx
        subst e2
        obtain ⟨⟨K9, r9⟩, h9⟩ : ∃ p, Vg.Kn.suspend K M t = p := ⟨_, rfl⟩
        rw [h9] at hx
        simp only [Prod.mk.injEq] at hx
        obtain ⟨rfl, rfl⟩ := hx
        exact kp_plays_suspend h hm hI hk hn hn0 hn32 h9
      · rw [if_neg e2] at hx
        by_cases e3 : kd = 3
        · rw [if_pos e3] at hx
          subst e3
          obtain ⟨⟨K9, r9⟩, h9⟩ : ∃ p, Vg.Kn.resume K t = p := ⟨_, rfl⟩
          rw [h9] at hx
          simp only [Prod.mk.injEq] at hx
          obtain ⟨rfl, rfl⟩ := hx
          exact kp_plays_resume h hm hI hk hn hn0 hn32 h9
        · rw [if_neg e3] at hx
          simp only [Prod.mk.injEq] at hx
          obtain ⟨rfl, rfl⟩ := hx
          have k0 : (kd == 0) = false := by simp [e0]
          have k1 : (kd == 1) = false := by simp; omega
          have k2 : (kd == 2) = false := by simp [e2]
          have k3 : (kd == 3) = false := by simp [e3]
          have k4 : (kd == 4) = false := by simp; omega
          clear e0 e1 e2 e3
          obtain ⟨ta, tc, ja, jc, la, lc, oa, oc, rfl, -⟩ := h.fk.shape
          rw [hn] at h ⊢
          have H_h := Lib.hid h; clear h; have H_hm := Lib.hid hm; clear hm; have H_hI := Lib.hid hI; clear hI; have H_hn := Lib.hid hn; clear hn
          go_enter Try.func66, Try.ntmps66
          go_wp2_with fail
          go_returns
          exact ⟨ta, tc, ja, jc, la, lc, oa, oc, rfl, H_h.out.grows (by (repeat' (first | (with_reducible exact Vg.Grows.refl _) | (with_reducible assumption) | (with_reducible refine Vg.Grows.alloc ?_ _) | (with_reducible refine Vg.Grows.plus ?_ _ _) | (with_reducible refine Vg.Grows.drewN ?_ _) | (with_reducible refine Vg.Grows.drew ?_) | (with_reducible refine Vg.Grows.setCell ?_ ?_ _) | (with_reducible refine Vg.Grows.put ?_ ?_ _) | omega | (simp; omega) | (simp; done))))⟩
end
end Go.Proofs.Ytiinhofmhoplfaa
namespace Vg
open Go
theorem Kn.HM.plays {k : Nat} {K : List Kt} {M : List Mx} (hm : Kn.HM K M) (hI : Kn.Inv k K) (kd t c a : Int) : Kn.HM (Kn.plays K M kd t c a).1 (Kn.plays K M kd t c a).2 ∧ Kn.Inv (k + 1) (Kn.plays K M kd t c a).1 ∧ (Kn.plays K M kd t c a).1.map (·.t) = K.map (·.t) := by
  unfold Kn.plays
  split
  · exact ⟨hm.release hI t c a, hI.release t c a, Kn.release_map _ (fun _ _ _ => rfl) _ _ _ _⟩
  · split
    · exact ⟨hm.run hI _, (hI.run M _).mono (Nat.le_succ k), Kn.run_map _ (fun _ _ _ => rfl) _ _ _⟩
    · split
      · exact ⟨hm.suspend t, (hI.suspend M t).mono (Nat.le_succ k), Kn.suspend_t _ _ _⟩
      · split
        · exact ⟨hm.resume t, (hI.resume t).mono (Nat.le_succ k), Kn.resume_t _ _⟩
        · exact ⟨hm, hI.mono (Nat.le_succ k), rfl⟩
end Vg
namespace Go.Proofs.Ytiinhofmhoplfaa
open Go.ChangeShapes Go.WideShapes Go.ChangeAt Go.RowKit
theorem KP.start {w0 w w' : World} {b : Nat} {K K2 : List Vg.Kt} {M : List Vg.Mx} {v : Value} (hz : KZ w0 w b K M (fun _ => False)) (h00 : Vg.Grows w0 w) (hg : Vg.Grows w w') (hv : Vg.FKS (fun k => w.heap.size ≤ k) w' v K2) (h0 : 0 < K2.length) : KP w0 w' b K M v K2 [] := by
  have h6 := hv.bound h0
  refine ⟨fun k => w.heap.size ≤ k ∧ k < w'.heap.size, _, ⟨hz.other (t := fun _ => False) (Vg.Touch.of_grows hg) (fun k hk => hk.elim) (h00.trans hg) (fun k hk => ⟨.inr hk.1, hk.2⟩), ⟨h6, Vg.Has.nil _⟩, KP.dep (fun k hk => hk) fun k hk => (Vg.Dom.nil hk).elim⟩, fun k hk => hk, fun k hk => (Vg.Dom.nil hk).elim, fun k hk hd => Vg.Dom.nil hd⟩
theorem KernPlays_walk (ta : Option Addr) (n tc : Nat) (TD0 : Nat → Nat → Int) (a : Option Addr) (len cap : Nat) (D : Nat → Nat → Int) (w : World) (hrT : Vg.intRows w [.u8, .i64, .i64, .i64, .i64, .i64, .i64, .i64, .i64, .i64] ta n tc TD0) (hr : Vg.intRows w [.i64, .i64, .i64, .i64] a len cap D) :
    Calls Try.prog 10 #[.slice ta n tc, .slice a len cap] w fun e w' => e = .returned (.bool true) ∧ Vg.Grows w w' := by
  obtain ⟨T, hTR, hTl⟩ : ∃ T, Vg.TK w ta tc T ∧ T.length = n := ⟨_, Vg.TK.of_rows hrT, Vg.tksOf_len _ _⟩
  have htc1 : n ≤ tc := hrT.1
  have htc2 : tc ≤ 9223372036854775807 := hrT.2.1
  clear hrT
  have hlen := hr.1
  have hcap : cap ≤ 9223372036854775807 := hr.2.1
  obtain ⟨r, hck⟩ : ∃ r, Vg.Kn.check T = r := ⟨_, rfl⟩
  by_cases hr0 : r = 0
  · subst hr0
    obtain ⟨⟨hn1, hn32⟩, hodd, hnd⟩ := Vg.Kn.check_ok hck
    have hinv0 := Vg.Kn.inv0 hodd
    have hT0 : (Vg.Kn.K0 T).map (·.t) = T := by unfold Vg.Kn.K0 Vg.kt0; rw [List.map_map]; exact List.map_id' ..
    have hm0 := Vg.Kn.HM.start hck
    have hK0 : (Vg.Kn.K0 T).length = n := by unfold Vg.Kn.K0; rw [List.length_map]; exact hTl
    rw [hTl] at hn1 hn32
    have RH := Lib.hid (fun h => Vg.intRows.open (by decide) hr h)
    clear hr
    by_cases h60 : 60 < len
    · have H_hTR := Lib.hid hTR; clear hTR; have H_hTl := Lib.hid hTl; clear hTl; have H_hck := Lib.hid hck; clear hck; have H_hodd := Lib.hid hodd; clear hodd; have H_hnd := Lib.hid hnd; clear hnd; have H_hinv0 := Lib.hid hinv0; clear hinv0; have H_hT0 := Lib.hid hT0; clear hT0; have H_hm0 := Lib.hid hm0; clear hm0; have H_hK0 := Lib.hid hK0; clear hK0
      go_enter Try.func10, Try.ntmps10
      go_wp2_with (first | (go_at_call 63; (with_reducible refine (lives14 _).mono ?_); rintro e w1 ⟨rfl, hg1⟩; have H_hg1 := Lib.hid hg1; clear hg1) | (go_at_call 64; (with_reducible refine (kz_new (w0 := w) H_hg1.out (H_hTR.out.grows H_hg1.out) H_hTl.out H_hck.out rfl rfl).mono ?_); rintro e w2 ⟨b, rfl, hz, hg2⟩; have H_hz := Lib.hid hz; clear hz; have H_hg2 := Lib.hid hg2; clear hg2) | (go_at_call 65; (with_reducible refine (rf_new ((H_hTR.out.grows H_hg1.out).grows H_hg2.out) H_hTl.out H_hck.out).mono ?_); rintro e w3 ⟨ta1, tc1, ja1, jc1, la1, lc1, oa1, oc1, rfl, hv, hg3⟩; have H_hv := Lib.hid hv; clear hv; have H_hg3 := Lib.hid hg3; clear hg3))
      go_ret
      exact ⟨rfl, Vg.Grows.trans ((H_hg1.out.trans H_hg2.out).trans H_hg3.out) (by (repeat' (first | (with_reducible exact Vg.Grows.refl _) | (with_reducible assumption) | (with_reducible refine Vg.Grows.alloc ?_ _) | (with_reducible refine Vg.Grows.plus ?_ _ _) | (with_reducible refine Vg.Grows.drewN ?_ _) | (with_reducible refine Vg.Grows.drew ?_) | (with_reducible refine Vg.Grows.setCell ?_ ?_ _) | (with_reducible refine Vg.Grows.put ?_ ?_ _) | omega | (simp; omega) | (simp; done))))⟩
    · have H_hTR := Lib.hid hTR; clear hTR; have H_hTl := Lib.hid hTl; clear hTl; have H_hck := Lib.hid hck; clear hck; have H_hodd := Lib.hid hodd; clear hodd; have H_hnd := Lib.hid hnd; clear hnd; have H_hinv0 := Lib.hid hinv0; clear hinv0; have H_hT0 := Lib.hid hT0; clear hT0; have H_hm0 := Lib.hid hm0; clear hm0; have H_hK0 := Lib.hid hK0; clear hK0
      go_enter Try.func10, Try.ntmps10
      go_upto_region 9 with (first | (go_at_call 63; (with_reducible refine (lives14 _).mono ?_); rintro e w1 ⟨rfl, hg1⟩; have H_hg1 := Lib.hid hg1; clear hg1) | (go_at_call 64; (with_reducible refine (kz_new (w0 := w) H_hg1.out (H_hTR.out.grows H_hg1.out) H_hTl.out H_hck.out rfl rfl).mono ?_); rintro e w2 ⟨b, rfl, hz, hg2⟩; have H_hz := Lib.hid hz; clear hz; have H_hg2 := Lib.hid hg2; clear hg2) | (go_at_call 65; (with_reducible refine (rf_new ((H_hTR.out.grows H_hg1.out).grows H_hg2.out) H_hTl.out H_hck.out).mono ?_); rintro e w3 ⟨ta1, tc1, ja1, jc1, la1, lc1, oa1, oc1, rfl, hv, hg3⟩; have H_hv := Lib.hid hv; clear hv; have H_hg3 := Lib.hid hg3; clear hg3))
      have hkp0 := KP.start H_hz.out (H_hg1.out.trans H_hg2.out) H_hg3.out H_hv.out (by rw [H_hK0.out]; omega)
      have hkp := KP.new hkp0 (g := w3.heap.size) (w' := w3.alloc (rkC ta1 tc1 ja1 jc1 la1 lc1 oa1 oc1 n)) (o := rkC ta1 tc1 ja1 jc1 la1 lc1 oa1 oc1 n) ((Vg.Grows.refl _).alloc _) (Vg.alloc_heap_at rfl) (Nat.le_refl _)
      have hw3 := ((H_hg1.out.trans H_hg2.out).trans H_hg3.out).size
      obtain ⟨W0, hW0⟩ : ∃ W0, w3.alloc (rkC ta1 tc1 ja1 jc1 la1 lc1 oa1 oc1 n) = W0 := ⟨_, rfl⟩
      rw [hW0] at hkp ⊢
      obtain ⟨b7, hb7⟩ : ∃ b7, w3.heap.size = b7 := ⟨_, rfl⟩
      rw [hb7] at hkp hw3 ⊢
      clear hW0 hkp0
      have H_hkp := Lib.hid hkp; clear hkp; have H_hb7 := Lib.hid hb7; clear hb7
      go_wp2_with fail
      go_loopw [53] (fun i wr => ∃ (q : Nat) (K : List Vg.Kt) (M : List Vg.Mx) (ta tc ja jc la lc oa oc : _), q ≤ len ∧ i = .int .i64 q ∧ KP w wr b K M (kv ta tc ja jc la lc oa oc n) K [(b7, rkC ta tc ja jc la lc oa oc n)] ∧ Vg.Kn.HM K M ∧ Vg.Kn.Inv q K ∧ K.map (·.t) = T) (fun i _ => len - (intOf i).toNat)
      case atStart => exact ⟨0, _, _, _, _, _, _, _, _, _, _, by omega, rfl, H_hkp.out, H_hm0.out, H_hinv0.out, H_hT0.out⟩
      case round =>
        obtain ⟨q, K, M, ta2, tc2, ja2, jc2, la2, lc2, oa2, oc2, hq, rfl, hkx, hhm, hinv, hKT⟩ := hrel
        by_cases hlt : q < len
        · obtain ⟨ba, off, rfl, hba, hcx⟩ := RH.out (by omega)
          have hc0 := hcx q hlt 0 (by decide)
          have hc1 := hcx q hlt 1 (by decide)
          have hc2 := hcx q hlt 2 (by decide)
          have hc3 := hcx q hlt 3 (by decide)
          generalize D q 0 = kd at hc0
          generalize D q 1 = t at hc1
          generalize D q 2 = c at hc2
          generalize D q 3 = at_ at hc3
          simp only [List.length_cons, List.length_nil, Nat.zero_add, List.getElem_cons_zero, List.getElem_cons_succ] at hc0 hc1 hc2 hc3
          have hgr := hkx.gr
          have hc0 := (hgr.below.cell (p := ⟨ba, off + q * 4, none⟩) hba).trans hc0.1
          have hc1 := (hgr.below.cell (p := ⟨ba, off + q * 4 + 1, none⟩) hba).trans hc1.1
          have hc2 := (hgr.below.cell (p := ⟨ba, off + q * 4 + 2, none⟩) hba).trans hc2.1
          have hc3 := (hgr.below.cell (p := ⟨ba, off + q * 4 + 3, none⟩) hba).trans hc3.1
          have hbar : ba < wr.heap.size := Nat.lt_of_lt_of_le hba hgr.size
          have hKl : K.length = n := by have := congrArg List.length hKT; rw [List.length_map] at this; rw [this]; exact H_hTl.out
          have y7 := hkx.blk (g := b7) (o := rkC ta2 tc2 ja2 jc2 la2 lc2 oa2 oc2 n) (by simp)
          have l7 := Vg.lt_of y7
          clear hcx
          have hk1 := KP.new hkx (g := wr.heap.size) (w' := wr.alloc (act14 kd t c at_)) (o := act14 kd t c at_) ((Vg.Grows.refl _).alloc _) (Vg.alloc_heap_at rfl) (Nat.le_refl _)
          have H_hkx := Lib.hid hkx; clear hkx; have H_hinv := Lib.hid hinv; clear hinv; have H_hKT := Lib.hid hKT; clear hKT; have H_hgr := Lib.hid hgr; clear hgr; have H_hKl := Lib.hid hKl; clear hKl; have H_hhm := Lib.hid hhm; clear hhm; have H_y7 := Lib.hid y7; clear y7; have H_hk1 := Lib.hid hk1; clear hk1
          go_upto_region 12 with (fail)
          obtain ⟨W1, hW1⟩ : ∃ W1, wr.alloc (act14 kd t c at_) = W1 := ⟨_, rfl⟩
          have hk1 := H_hk1.out
          rw [hW1] at hk1 ⊢
          obtain ⟨bx, hbx⟩ : ∃ bx, wr.heap.size = bx := ⟨_, rfl⟩
          rw [hbx] at hk1 l7 ⊢
          have n1 : b7 ≠ bx := by omega
          have n2 : bx ≠ b7 := by omega
          have z7 := hk1.blk (g := b7) (o := rkC ta2 tc2 ja2 jc2 la2 lc2 oa2 oc2 n) (by simp)
          have zx := hk1.blk (g := bx) (o := act14 kd t c at_) (by simp)
          obtain ⟨⟨K', M'⟩, hpl⟩ : ∃ p, Vg.Kn.plays K M kd t c at_ = p := ⟨_, rfl⟩
          have hnx := Vg.Kn.HM.plays H_hhm.out H_hinv.out kd t c at_
          rw [hpl] at hnx
          obtain ⟨hhm', hinv', hKT'⟩ := hnx
          simp only [] at hhm' hinv' hKT'
          rw [H_hKT.out] at hKT'
          have hKl' : K'.length = n := by have := congrArg List.length hKT'; rw [List.length_map] at this; rw [this]; exact H_hTl.out
          have hq6 : q ≤ 1000000 := by omega
          have hn0 : 0 < n := by omega
          clear hW1 hc0 hc1 hc2 hc3 H_hk1
          have c_z7 := Vg.cells_of z7; have f_z7 := Vg.frozen_of z7; have p_z7 := Vg.setCell_of z7; have l_z7 := Vg.lt_of z7; have H_z7 := Lib.hid z7; clear z7; have c_zx := Vg.cells_of zx; have f_zx := Vg.frozen_of zx; have p_zx := Vg.setCell_of zx; have l_zx := Vg.lt_of zx; have H_zx := Lib.hid zx; clear zx
          have H_hk1 := Lib.hid hk1; clear hk1; have H_hpl := Lib.hid hpl; clear hpl; have H_hhm' := Lib.hid hhm'; clear hhm'; have H_hinv' := Lib.hid hinv'; clear hinv'; have H_hKT' := Lib.hid hKT'; clear hKT'; have H_hKl' := Lib.hid hKl'; clear hKl'; have H_hbx := Lib.hid hbx; clear hbx
          go_upto_region 16 with ((go_at_call 66; (with_reducible refine (kp_plays H_hk1.out H_hhm.out H_hinv.out hq6 H_hKl.out hn0 hn32 H_hpl.out).mono ?_); rintro e w4 ⟨ta3, tc3, ja3, jc3, la3, lc3, oa3, oc3, rfl, h4⟩; have y7 := h4.blk (g := b7) (o := rkC ta2 tc2 ja2 jc2 la2 lc2 oa2 oc2 n) (by simp); have yx := h4.blk (g := bx) (o := act14 kd t c at_) (by simp); clear c_z7 f_z7 p_z7 c_zx f_zx p_zx; have c_y7 := Vg.cells_of y7; have f_y7 := Vg.frozen_of y7; have p_y7 := Vg.setCell_of y7; have l_y7 := Vg.lt_of y7; have H_y7 := Lib.hid y7; clear y7; have c_yx := Vg.cells_of yx; have f_yx := Vg.frozen_of yx; have p_yx := Vg.setCell_of yx; have l_yx := Vg.lt_of yx; have H_yx := Lib.hid yx; clear yx; have H_h4 := Lib.hid h4; clear h4))
          have h5 := KP.put (rkC ta3 tc3 ja3 jc3 la3 lc3 oa3 oc3 n) (KP.sub (Y := [(b7, rkC ta2 tc2 ja2 jc2 la2 lc2 oa2 oc2 n), (bx, act14 kd t c at_)]) H_h4.out (by simp)) hw3 (by simp; exact n1)
          have h5 := KP.grows h5 (w' := (Vg.put w4 b7 (rkC ta3 tc3 ja3 jc3 la3 lc3 oa3 oc3 n)).alloc (rkC ta3 tc3 ja3 jc3 la3 lc3 oa3 oc3 n)) ((Vg.Grows.refl _).alloc _)
          obtain ⟨W5, hW5⟩ : ∃ W5, (Vg.put w4 b7 (rkC ta3 tc3 ja3 jc3 la3 lc3 oa3 oc3 n)).alloc (rkC ta3 tc3 ja3 jc3 la3 lc3 oa3 oc3 n) = W5 := ⟨_, rfl⟩
          rw [hW5] at h5 ⊢
          clear hW5
          clear c_y7 f_y7 p_y7 c_yx f_yx p_yx
          have v7 := h5.blk (g := b7) (o := rkC ta3 tc3 ja3 jc3 la3 lc3 oa3 oc3 n) (by simp)
          have vx := h5.blk (g := bx) (o := act14 kd t c at_) (by simp)
          have c_v7 := Vg.cells_of v7; have f_v7 := Vg.frozen_of v7; have p_v7 := Vg.setCell_of v7; have l_v7 := Vg.lt_of v7; have H_v7 := Lib.hid v7; clear v7; have c_vx := Vg.cells_of vx; have f_vx := Vg.frozen_of vx; have p_vx := Vg.setCell_of vx; have l_vx := Vg.lt_of vx; have H_vx := Lib.hid vx; clear vx
          obtain ⟨rb, hrb⟩ : ∃ rb, Vg.Kn.best K' M' = rb := ⟨_, rfl⟩
          obtain ⟨pm, hpm⟩ : ∃ pm, max rb 0 = pm := ⟨_, rfl⟩
          obtain ⟨pis, hpis⟩ : ∃ pis, decide (0 ≤ rb) = pis := ⟨_, rfl⟩
          obtain ⟨lf, hlf⟩ : ∃ lf, Vg.Kn.left K' M' = lf := ⟨_, rfl⟩
          obtain ⟨lv, hlv⟩ : ∃ lv, Vg.Kn.level K' M' t = lv := ⟨_, rfl⟩
          obtain ⟨ho, hho⟩ : ∃ ho, Vg.Kn.holds K' M' t = ho := ⟨_, rfl⟩
          obtain ⟨wt, hwt⟩ : ∃ wt, Vg.Kn.waiting K' t = wt := ⟨_, rfl⟩
          obtain ⟨ls, hls⟩ : ∃ ls, Vg.Kn.lost K' t = ls := ⟨_, rfl⟩
          have q1 : (pm != pm) = false := by simp
          have q2 : (pis != pis) = false := by simp
          have q3 : (lf != lf) = false := by simp
          have q4 : (lv != lv) = false := by simp
          have q5 : (ho != ho) = false := by simp
          have H_h5 := Lib.hid h5; clear h5; have H_hrb := Lib.hid hrb; clear hrb; have H_hpm := Lib.hid hpm; clear hpm; have H_hpis := Lib.hid hpis; clear hpis; have H_hlf := Lib.hid hlf; clear hlf; have H_hlv := Lib.hid hlv; clear hlv; have H_hho := Lib.hid hho; clear hho; have H_hwt := Lib.hid hwt; clear hwt; have H_hls := Lib.hid hls; clear hls
          go_upto_region 18 with (first | (go_at_call 67; (with_reducible refine (kp_pick H_h5.out H_hrb.out H_hpm.out H_hpis.out).mono ?_); rintro e w6 ⟨rfl, h6⟩; have u7 := h6.blk (g := b7) (o := rkC ta3 tc3 ja3 jc3 la3 lc3 oa3 oc3 n) (by simp); have ux := h6.blk (g := bx) (o := act14 kd t c at_) (by simp); clear c_v7 f_v7 p_v7 c_vx f_vx p_vx; have c_u7 := Vg.cells_of u7; have f_u7 := Vg.frozen_of u7; have p_u7 := Vg.setCell_of u7; have l_u7 := Vg.lt_of u7; have H_u7 := Lib.hid u7; clear u7; have c_ux := Vg.cells_of ux; have f_ux := Vg.frozen_of ux; have p_ux := Vg.setCell_of ux; have l_ux := Vg.lt_of ux; have H_ux := Lib.hid ux; clear ux; have H_h6 := Lib.hid h6; clear h6) | (go_at_call 68; (with_reducible refine (rf_pick (H_h6.out.fk.grows (by (repeat' (first | (with_reducible exact Vg.Grows.refl _) | (with_reducible assumption) | (with_reducible refine Vg.Grows.alloc ?_ _) | (with_reducible refine Vg.Grows.plus ?_ _ _) | (with_reducible refine Vg.Grows.drewN ?_ _) | (with_reducible refine Vg.Grows.drew ?_) | (with_reducible refine Vg.Grows.setCell ?_ ?_ _) | (with_reducible refine Vg.Grows.put ?_ ?_ _) | omega | (simp; omega) | (simp; done))))) H_hhm'.out H_hinv'.out H_hrb.out H_hpm.out H_hpis.out).mono ?_); rintro e w7 ⟨rfl, x7, m7, rfl⟩))
          go_cut [113] (fun v113 wz => v113 = .bool false ∧ KP w wz b K' M' (kv ta3 tc3 ja3 jc3 la3 lc3 oa3 oc3 n) K' [(b7, rkC ta3 tc3 ja3 jc3 la3 lc3 oa3 oc3 n), (bx, act14 kd t c at_)])
          case first =>
            refine wp_region_held_drew (S := fun w' => b7 < w'.heap.size ∧ bx < w'.heap.size ∧ w'.cell? ⟨b7, 0, none⟩ = some (.slice ta3 n tc3) ∧ w'.cell? ⟨b7, 1, none⟩ = some (.slice ja3 n jc3) ∧ w'.cell? ⟨b7, 2, none⟩ = some (.slice la3 n lc3) ∧ w'.cell? ⟨b7, 3, none⟩ = some (.slice oa3 n oc3) ∧ w'.cell? ⟨bx, 1, none⟩ = some (.int .i64 t)) (by kernel_rfl) (by go_split_ands <;> (try dsimp only) <;> go_simp) (fun hHeld => ?_)
            refine wpAnyH_take (i := 0) (oi := _) (v := ?v1) rfl (by kernel_rfl) (by kernel_rfl) (by kernel_rfl) (fun _ _ _ h => h) (Or.inl ⟨by rfl, ?hy1⟩) (by assumption) ?rest1
            case hy1 => (intro w hSw; (try dsimp only at hSw); go_simp; first | done | with_reducible rfl)
            (try simp only [List.getElem_toArray, List.getElem_cons_succ, List.getElem_cons_zero, Act.put, List.setIfInBounds_toArray, List.set_cons_zero, List.set_cons_succ])
            refine wpAnyH_take (i := 1) (oi := _) (v := ?v2) rfl (by kernel_rfl) (by kernel_rfl) (by kernel_rfl) (fun _ _ _ h => h) (Or.inl ⟨by rfl, ?hy2⟩) (by assumption) ?rest2
            case hy2 => (intro w hSw; (try dsimp only at hSw); go_simp; first | done | with_reducible rfl)
            (try simp only [List.getElem_toArray, List.getElem_cons_succ, List.getElem_cons_zero, Act.put, List.setIfInBounds_toArray, List.set_cons_zero, List.set_cons_succ])
            refine wpAnyH_take (i := 2) (oi := _) (v := ?v3) rfl (by kernel_rfl) (by kernel_rfl) (by kernel_rfl) (fun _ _ _ h => h) (Or.inl ⟨by rfl, ?hy3⟩) (by assumption) ?rest3
            case hy3 => (intro w hSw; (try dsimp only at hSw); go_simp; first | done | with_reducible rfl)
            (try simp only [List.getElem_toArray, List.getElem_cons_succ, List.getElem_cons_zero, Act.put, List.setIfInBounds_toArray, List.set_cons_zero, List.set_cons_succ])
            refine wpAnyH_take (i := 3) (oi := _) (v := ?v4) rfl (by kernel_rfl) (by kernel_rfl) (by kernel_rfl) (fun _ _ _ h => h) (Or.inl ⟨by rfl, ?hy4⟩) (by assumption) ?rest4
            case hy4 => (intro w hSw; (try dsimp only at hSw); go_simp; first | done | with_reducible rfl)
            (try simp only [List.getElem_toArray, List.getElem_cons_succ, List.getElem_cons_zero, Act.put, List.setIfInBounds_toArray, List.set_cons_zero, List.set_cons_succ])
            refine wpAnyH_take (i := 4) (oi := _) (v := ?v5) rfl (by kernel_rfl) (by kernel_rfl) (by kernel_rfl) (fun _ _ _ h => h) (Or.inl ⟨by rfl, ?hy5⟩) (by assumption) ?rest5
            case hy5 => (intro w hSw; (try dsimp only at hSw); go_simp; first | done | with_reducible rfl)
            (try simp only [List.getElem_toArray, List.getElem_cons_succ, List.getElem_cons_zero, Act.put, List.setIfInBounds_toArray, List.set_cons_zero, List.set_cons_succ])
            refine wpAnyH_take (i := 5) (oi := _) (v := ?v6) rfl (by kernel_rfl) (by kernel_rfl) (by kernel_rfl) (fun _ _ _ h => h) (Or.inl ⟨by rfl, ?hy6⟩) (by assumption) ?rest6
            case hy6 => (intro w hSw; (try dsimp only at hSw); go_simp; first | done | with_reducible rfl)
            (try simp only [List.getElem_toArray, List.getElem_cons_succ, List.getElem_cons_zero, Act.put, List.setIfInBounds_toArray, List.set_cons_zero, List.set_cons_succ])
            refine wpAnyH_take (i := 6) (oi := _) (v := ?v7) rfl (by kernel_rfl) (by kernel_rfl) (by kernel_rfl) (fun _ _ _ h => h) (Or.inl ⟨by rfl, ?hy7⟩) (by assumption) ?rest7
            case hy7 => (intro w hSw; (try dsimp only at hSw); go_simp; first | done | with_reducible rfl)
            (try simp only [List.getElem_toArray, List.getElem_cons_succ, List.getElem_cons_zero, Act.put, List.setIfInBounds_toArray, List.set_cons_zero, List.set_cons_succ])
            refine wpAnyH_take (i := 7) (oi := _) (v := ?v8) rfl (by kernel_rfl) (by kernel_rfl) (by kernel_rfl) (fun _ _ _ h => h) (Or.inl ⟨by rfl, ?hy8⟩) (by assumption) ?rest8
            case hy8 => (intro w hSw; (try dsimp only at hSw); go_simp; first | done | with_reducible rfl)
            (try simp only [List.getElem_toArray, List.getElem_cons_succ, List.getElem_cons_zero, Act.put, List.setIfInBounds_toArray, List.set_cons_zero, List.set_cons_succ])
            refine wpAnyH_take (i := 8) (oi := _) (v := ?v9) rfl (by kernel_rfl) (by kernel_rfl) (by kernel_rfl) (fun _ _ _ h => h) (Or.inl ⟨by rfl, ?hy9⟩) (by assumption) ?rest9
            case hy9 => (intro w hSw; (try dsimp only at hSw); go_simp; first | done | with_reducible rfl)
            (try simp only [List.getElem_toArray, List.getElem_cons_succ, List.getElem_cons_zero, Act.put, List.setIfInBounds_toArray, List.set_cons_zero, List.set_cons_succ])
            refine wpAnyH_take (i := 9) (oi := _) (v := ?v10) rfl (by kernel_rfl) (by kernel_rfl) (by kernel_rfl) (fun _ _ _ h => h) (Or.inl ⟨by rfl, ?hy10⟩) (by assumption) ?rest10
            case hy10 => (intro w hSw; (try dsimp only at hSw); go_simp; first | done | with_reducible rfl)
            (try simp only [List.getElem_toArray, List.getElem_cons_succ, List.getElem_cons_zero, Act.put, List.setIfInBounds_toArray, List.set_cons_zero, List.set_cons_succ])
            refine wpAnyH_take (i := 11) (oi := _) (v := ?v11) rfl (by kernel_rfl) (by kernel_rfl) (by kernel_rfl) (fun _ _ _ h => h) (Or.inl ⟨by rfl, ?hy11⟩) (by assumption) ?rest11
            case hy11 => (intro w hSw; (try dsimp only at hSw); go_simp; first | done | with_reducible rfl)
            (try simp only [List.getElem_toArray, List.getElem_cons_succ, List.getElem_cons_zero, Act.put, List.setIfInBounds_toArray, List.set_cons_zero, List.set_cons_succ])
            refine wpAnyH_ready (rs := [10]) (by kernel_rfl) (by simp) ?_
            refine AllReadyH.cons (o := _) rfl (fun K hK => ?st12) ?mo12
            case st12 =>
              go_simp
              ((go_at_call 69; (with_reducible refine (kp_left (H_h6.out.grows (by (repeat' (first | (with_reducible exact Vg.Grows.refl _) | (with_reducible assumption) | (with_reducible refine Vg.Grows.alloc ?_ _) | (with_reducible refine Vg.Grows.plus ?_ _ _) | (with_reducible refine Vg.Grows.drewN ?_ _) | (with_reducible refine Vg.Grows.drew ?_) | (with_reducible refine Vg.Grows.setCell ?_ ?_ _) | (with_reducible refine Vg.Grows.put ?_ ?_ _) | omega | (simp; omega) | (simp; done))))) H_hinv'.out H_hlf.out).mono ?_); rintro e w8 ⟨rfl, h8⟩; have s7 := h8.blk (g := b7) (o := rkC ta3 tc3 ja3 jc3 la3 lc3 oa3 oc3 n) (by simp); have sx := h8.blk (g := bx) (o := act14 kd t c at_) (by simp); clear c_u7 f_u7 p_u7 c_ux f_ux p_ux; have c_s7 := Vg.cells_of s7; have f_s7 := Vg.frozen_of s7; have p_s7 := Vg.setCell_of s7; have l_s7 := Vg.lt_of s7; have H_s7 := Lib.hid s7; clear s7; have c_sx := Vg.cells_of sx; have f_sx := Vg.frozen_of sx; have p_sx := Vg.setCell_of sx; have l_sx := Vg.lt_of sx; have H_sx := Lib.hid sx; clear sx; have H_h8 := Lib.hid h8; clear h8))
              all_goals (try go_wp2_with fail)
              refine hK.out _ _ (by go_split_ands <;> (try dsimp only) <;> go_simp) (fun hHeld12 => ?_)
              clear hK K
              (try simp only [List.getElem_toArray, List.getElem_cons_succ, List.getElem_cons_zero, Act.put, List.setIfInBounds_toArray, List.set_cons_zero, List.set_cons_succ])
              refine wpAnyH_ready (rs := [12]) (by kernel_rfl) (by simp) ?_
              refine AllReadyH.cons (o := _) rfl (fun K hK => ?st13) ?mo13
              case st13 =>
                go_simp
                ((go_at_call 70; (with_reducible refine (rf_left (H_h8.out.fk.grows (by (repeat' (first | (with_reducible exact Vg.Grows.refl _) | (with_reducible assumption) | (with_reducible refine Vg.Grows.alloc ?_ _) | (with_reducible refine Vg.Grows.plus ?_ _ _) | (with_reducible refine Vg.Grows.drewN ?_ _) | (with_reducible refine Vg.Grows.drew ?_) | (with_reducible refine Vg.Grows.setCell ?_ ?_ _) | (with_reducible refine Vg.Grows.put ?_ ?_ _) | omega | (simp; omega) | (simp; done))))) H_hhm'.out H_hinv'.out H_hlf.out).mono ?_); rintro e w9 ⟨rfl, x9, m9, rfl⟩))
                all_goals (try go_wp2_with fail)
                refine hK.out _ _ (by go_split_ands <;> (try dsimp only) <;> go_simp) (fun hHeld13 => ?_)
                clear hK K
                (try simp only [List.getElem_toArray, List.getElem_cons_succ, List.getElem_cons_zero, Act.put, List.setIfInBounds_toArray, List.set_cons_zero, List.set_cons_succ])
                refine wpAnyH_take (i := 13) (oi := _) (v := ?v14) rfl (by kernel_rfl) (by kernel_rfl) (by kernel_rfl) (fun _ _ _ h => h) (Or.inl ⟨by rfl, ?hy14⟩) (by assumption) ?rest14
                case hy14 => (intro w hSw; (try dsimp only at hSw); go_simp; first | done | with_reducible rfl)
                (try simp only [List.getElem_toArray, List.getElem_cons_succ, List.getElem_cons_zero, Act.put, List.setIfInBounds_toArray, List.set_cons_zero, List.set_cons_succ])
                refine wpAnyH_take (i := 14) (oi := _) (v := ?v15) rfl (by kernel_rfl) (by kernel_rfl) (by kernel_rfl) (fun _ _ _ h => h) (Or.inl ⟨by rfl, ?hy15⟩) (by assumption) ?rest15
                case hy15 => (intro w hSw; (try dsimp only at hSw); go_simp; first | done | with_reducible rfl)
                (try simp only [List.getElem_toArray, List.getElem_cons_succ, List.getElem_cons_zero, Act.put, List.setIfInBounds_toArray, List.set_cons_zero, List.set_cons_succ])
                refine wpAnyH_take (i := 15) (oi := _) (v := ?v16) rfl (by kernel_rfl) (by kernel_rfl) (by kernel_rfl) (fun _ _ _ h => h) (Or.inl ⟨by rfl, ?hy16⟩) (by assumption) ?rest16
                case hy16 => (intro w hSw; (try dsimp only at hSw); go_simp; first | done | with_reducible rfl)
                (try simp only [List.getElem_toArray, List.getElem_cons_succ, List.getElem_cons_zero, Act.put, List.setIfInBounds_toArray, List.set_cons_zero, List.set_cons_succ])
                refine wpAnyH_take (i := 16) (oi := _) (v := ?v17) rfl (by kernel_rfl) (by kernel_rfl) (by kernel_rfl) (fun _ _ _ h => h) (Or.inl ⟨by rfl, ?hy17⟩) (by assumption) ?rest17
                case hy17 => (intro w hSw; (try dsimp only at hSw); go_simp; first | done | with_reducible rfl)
                (try simp only [List.getElem_toArray, List.getElem_cons_succ, List.getElem_cons_zero, Act.put, List.setIfInBounds_toArray, List.set_cons_zero, List.set_cons_succ])
                refine wpAnyH_take (i := 17) (oi := _) (v := ?v18) rfl (by kernel_rfl) (by kernel_rfl) (by kernel_rfl) (fun _ _ _ h => h) (Or.inl ⟨by rfl, ?hy18⟩) (by assumption) ?rest18
                case hy18 => (intro w hSw; (try dsimp only at hSw); go_simp; first | done | with_reducible rfl)
                (try simp only [List.getElem_toArray, List.getElem_cons_succ, List.getElem_cons_zero, Act.put, List.setIfInBounds_toArray, List.set_cons_zero, List.set_cons_succ])
                refine wpAnyH_take (i := 18) (oi := _) (v := ?v19) rfl (by kernel_rfl) (by kernel_rfl) (by kernel_rfl) (fun _ _ _ h => h) (Or.inl ⟨by rfl, ?hy19⟩) (by assumption) ?rest19
                case hy19 => (intro w hSw; (try dsimp only at hSw); go_simp; first | done | with_reducible rfl)
                (try simp only [List.getElem_toArray, List.getElem_cons_succ, List.getElem_cons_zero, Act.put, List.setIfInBounds_toArray, List.set_cons_zero, List.set_cons_succ])
                refine wpAnyH_take (i := 20) (oi := _) (v := ?v20) rfl (by kernel_rfl) (by kernel_rfl) (by kernel_rfl) (fun _ _ _ h => h) (Or.inl ⟨by rfl, ?hy20⟩) (by assumption) ?rest20
                case hy20 => (intro w hSw; (try dsimp only at hSw); go_simp; first | done | with_reducible rfl)
                (try simp only [List.getElem_toArray, List.getElem_cons_succ, List.getElem_cons_zero, Act.put, List.setIfInBounds_toArray, List.set_cons_zero, List.set_cons_succ])
                refine wpAnyH_take (i := 21) (oi := _) (v := ?v21) rfl (by kernel_rfl) (by kernel_rfl) (by kernel_rfl) (fun _ _ _ h => h) (Or.inl ⟨by rfl, ?hy21⟩) (by assumption) ?rest21
                case hy21 => (intro w hSw; (try dsimp only at hSw); go_simp; first | done | with_reducible rfl)
                (try simp only [List.getElem_toArray, List.getElem_cons_succ, List.getElem_cons_zero, Act.put, List.setIfInBounds_toArray, List.set_cons_zero, List.set_cons_succ])
                refine wpAnyH_take (i := 22) (oi := _) (v := ?v22) rfl (by kernel_rfl) (by kernel_rfl) (by kernel_rfl) (fun _ _ _ h => h) (Or.inl ⟨by rfl, ?hy22⟩) (by assumption) ?rest22
                case hy22 => (intro w hSw; (try dsimp only at hSw); go_simp; first | done | with_reducible rfl)
                (try simp only [List.getElem_toArray, List.getElem_cons_succ, List.getElem_cons_zero, Act.put, List.setIfInBounds_toArray, List.set_cons_zero, List.set_cons_succ])
                refine wpAnyH_ready (rs := [19]) (by kernel_rfl) (by simp) ?_
                refine AllReadyH.cons (o := _) rfl (fun K hK => ?st23) ?mo23
                case st23 =>
                  go_simp
                  ((go_at_call 71; (with_reducible refine (kp_level t (H_h8.out.grows (by (repeat' (first | (with_reducible exact Vg.Grows.refl _) | (with_reducible assumption) | (with_reducible refine Vg.Grows.alloc ?_ _) | (with_reducible refine Vg.Grows.plus ?_ _ _) | (with_reducible refine Vg.Grows.drewN ?_ _) | (with_reducible refine Vg.Grows.drew ?_) | (with_reducible refine Vg.Grows.setCell ?_ ?_ _) | (with_reducible refine Vg.Grows.put ?_ ?_ _) | omega | (simp; omega) | (simp; done))))) H_hlv.out).mono ?_); rintro e w10 ⟨rfl, h10⟩; have p7 := h10.blk (g := b7) (o := rkC ta3 tc3 ja3 jc3 la3 lc3 oa3 oc3 n) (by simp); have px := h10.blk (g := bx) (o := act14 kd t c at_) (by simp); clear c_s7 f_s7 p_s7 c_sx f_sx p_sx; have c_p7 := Vg.cells_of p7; have f_p7 := Vg.frozen_of p7; have p_p7 := Vg.setCell_of p7; have l_p7 := Vg.lt_of p7; have H_p7 := Lib.hid p7; clear p7; have c_px := Vg.cells_of px; have f_px := Vg.frozen_of px; have p_px := Vg.setCell_of px; have l_px := Vg.lt_of px; have H_px := Lib.hid px; clear px; have H_h10 := Lib.hid h10; clear h10))
                  all_goals (try go_wp2_with fail)
                  refine hK.out _ _ (by go_split_ands <;> (try dsimp only) <;> go_simp) (fun hHeld23 => ?_)
                  clear hK K
                  (try simp only [List.getElem_toArray, List.getElem_cons_succ, List.getElem_cons_zero, Act.put, List.setIfInBounds_toArray, List.set_cons_zero, List.set_cons_succ])
                  refine wpAnyH_ready (rs := [23]) (by kernel_rfl) (by simp) ?_
                  refine AllReadyH.cons (o := _) rfl (fun K hK => ?st24) ?mo24
                  case st24 =>
                    go_simp
                    ((go_at_call 72; (with_reducible refine (rf_level' t (H_h10.out.fk.grows (by (repeat' (first | (with_reducible exact Vg.Grows.refl _) | (with_reducible assumption) | (with_reducible refine Vg.Grows.alloc ?_ _) | (with_reducible refine Vg.Grows.plus ?_ _ _) | (with_reducible refine Vg.Grows.drewN ?_ _) | (with_reducible refine Vg.Grows.drew ?_) | (with_reducible refine Vg.Grows.setCell ?_ ?_ _) | (with_reducible refine Vg.Grows.put ?_ ?_ _) | omega | (simp; omega) | (simp; done))))) H_hhm'.out H_hinv'.out H_hlv.out).mono ?_); rintro e w11 ⟨rfl, x11, m11, rfl⟩))
                    all_goals (try go_wp2_with fail)
                    refine hK.out _ _ (by go_split_ands <;> (try dsimp only) <;> go_simp) (fun hHeld24 => ?_)
                    clear hK K
                    (try simp only [List.getElem_toArray, List.getElem_cons_succ, List.getElem_cons_zero, Act.put, List.setIfInBounds_toArray, List.set_cons_zero, List.set_cons_succ])
                    refine wpAnyH_take (i := 24) (oi := _) (v := ?v25) rfl (by kernel_rfl) (by kernel_rfl) (by kernel_rfl) (fun _ _ _ h => h) (Or.inl ⟨by rfl, ?hy25⟩) (by assumption) ?rest25
                    case hy25 => (intro w hSw; (try dsimp only at hSw); go_simp; first | done | with_reducible rfl)
                    (try simp only [List.getElem_toArray, List.getElem_cons_succ, List.getElem_cons_zero, Act.put, List.setIfInBounds_toArray, List.set_cons_zero, List.set_cons_succ])
                    refine wpAnyH_take (i := 25) (oi := _) (v := ?v26) rfl (by kernel_rfl) (by kernel_rfl) (by kernel_rfl) (fun _ _ _ h => h) (Or.inl ⟨by rfl, ?hy26⟩) (by assumption) ?rest26
                    case hy26 => (intro w hSw; (try dsimp only at hSw); go_simp; first | done | with_reducible rfl)
                    (try simp only [List.getElem_toArray, List.getElem_cons_succ, List.getElem_cons_zero, Act.put, List.setIfInBounds_toArray, List.set_cons_zero, List.set_cons_succ])
                    refine wpAnyH_take (i := 26) (oi := _) (v := ?v27) rfl (by kernel_rfl) (by kernel_rfl) (by kernel_rfl) (fun _ _ _ h => h) (Or.inl ⟨by rfl, ?hy27⟩) (by assumption) ?rest27
                    case hy27 => (intro w hSw; (try dsimp only at hSw); go_simp; first | done | with_reducible rfl)
                    (try simp only [List.getElem_toArray, List.getElem_cons_succ, List.getElem_cons_zero, Act.put, List.setIfInBounds_toArray, List.set_cons_zero, List.set_cons_succ])
                    refine wpAnyH_take (i := 27) (oi := _) (v := ?v28) rfl (by kernel_rfl) (by kernel_rfl) (by kernel_rfl) (fun _ _ _ h => h) (Or.inl ⟨by rfl, ?hy28⟩) (by assumption) ?rest28
                    case hy28 => (intro w hSw; (try dsimp only at hSw); go_simp; first | done | with_reducible rfl)
                    (try simp only [List.getElem_toArray, List.getElem_cons_succ, List.getElem_cons_zero, Act.put, List.setIfInBounds_toArray, List.set_cons_zero, List.set_cons_succ])
                    refine wpAnyH_take (i := 28) (oi := _) (v := ?v29) rfl (by kernel_rfl) (by kernel_rfl) (by kernel_rfl) (fun _ _ _ h => h) (Or.inl ⟨by rfl, ?hy29⟩) (by assumption) ?rest29
                    case hy29 => (intro w hSw; (try dsimp only at hSw); go_simp; first | done | with_reducible rfl)
                    (try simp only [List.getElem_toArray, List.getElem_cons_succ, List.getElem_cons_zero, Act.put, List.setIfInBounds_toArray, List.set_cons_zero, List.set_cons_succ])
                    refine wpAnyH_take (i := 29) (oi := _) (v := ?v30) rfl (by kernel_rfl) (by kernel_rfl) (by kernel_rfl) (fun _ _ _ h => h) (Or.inl ⟨by rfl, ?hy30⟩) (by assumption) ?rest30
                    case hy30 => (intro w hSw; (try dsimp only at hSw); go_simp; first | done | with_reducible rfl)
                    (try simp only [List.getElem_toArray, List.getElem_cons_succ, List.getElem_cons_zero, Act.put, List.setIfInBounds_toArray, List.set_cons_zero, List.set_cons_succ])
                    refine wpAnyH_take (i := 31) (oi := _) (v := ?v31) rfl (by kernel_rfl) (by kernel_rfl) (by kernel_rfl) (fun _ _ _ h => h) (Or.inl ⟨by rfl, ?hy31⟩) (by assumption) ?rest31
                    case hy31 => (intro w hSw; (try dsimp only at hSw); go_simp; first | done | with_reducible rfl)
                    (try simp only [List.getElem_toArray, List.getElem_cons_succ, List.getElem_cons_zero, Act.put, List.setIfInBounds_toArray, List.set_cons_zero, List.set_cons_succ])
                    refine wpAnyH_take (i := 32) (oi := _) (v := ?v32) rfl (by kernel_rfl) (by kernel_rfl) (by kernel_rfl) (fun _ _ _ h => h) (Or.inl ⟨by rfl, ?hy32⟩) (by assumption) ?rest32
                    case hy32 => (intro w hSw; (try dsimp only at hSw); go_simp; first | done | with_reducible rfl)
                    (try simp only [List.getElem_toArray, List.getElem_cons_succ, List.getElem_cons_zero, Act.put, List.setIfInBounds_toArray, List.set_cons_zero, List.set_cons_succ])
                    refine wpAnyH_take (i := 33) (oi := _) (v := ?v33) rfl (by kernel_rfl) (by kernel_rfl) (by kernel_rfl) (fun _ _ _ h => h) (Or.inl ⟨by rfl, ?hy33⟩) (by assumption) ?rest33
                    case hy33 => (intro w hSw; (try dsimp only at hSw); go_simp; first | done | with_reducible rfl)
                    (try simp only [List.getElem_toArray, List.getElem_cons_succ, List.getElem_cons_zero, Act.put, List.setIfInBounds_toArray, List.set_cons_zero, List.set_cons_succ])
                    refine wpAnyH_ready (rs := [30]) (by kernel_rfl) (by simp) ?_
                    refine AllReadyH.cons (o := _) rfl (fun K hK => ?st34) ?mo34
                    case st34 =>
                      go_simp
                      ((go_at_call 73; (with_reducible refine (kp_holds t (H_h10.out.grows (by (repeat' (first | (with_reducible exact Vg.Grows.refl _) | (with_reducible assumption) | (with_reducible refine Vg.Grows.alloc ?_ _) | (with_reducible refine Vg.Grows.plus ?_ _ _) | (with_reducible refine Vg.Grows.drewN ?_ _) | (with_reducible refine Vg.Grows.drew ?_) | (with_reducible refine Vg.Grows.setCell ?_ ?_ _) | (with_reducible refine Vg.Grows.put ?_ ?_ _) | omega | (simp; omega) | (simp; done))))) H_hho.out).mono ?_); rintro e w12 ⟨rfl, h12⟩; have o7 := h12.blk (g := b7) (o := rkC ta3 tc3 ja3 jc3 la3 lc3 oa3 oc3 n) (by simp); have ox := h12.blk (g := bx) (o := act14 kd t c at_) (by simp); clear c_p7 f_p7 p_p7 c_px f_px p_px; have c_o7 := Vg.cells_of o7; have f_o7 := Vg.frozen_of o7; have p_o7 := Vg.setCell_of o7; have l_o7 := Vg.lt_of o7; have H_o7 := Lib.hid o7; clear o7; have c_ox := Vg.cells_of ox; have f_ox := Vg.frozen_of ox; have p_ox := Vg.setCell_of ox; have l_ox := Vg.lt_of ox; have H_ox := Lib.hid ox; clear ox; have H_h12 := Lib.hid h12; clear h12))
                      all_goals (try go_wp2_with fail)
                      refine hK.out _ _ (by go_split_ands <;> (try dsimp only) <;> go_simp) (fun hHeld34 => ?_)
                      clear hK K
                      (try simp only [List.getElem_toArray, List.getElem_cons_succ, List.getElem_cons_zero, Act.put, List.setIfInBounds_toArray, List.set_cons_zero, List.set_cons_succ])
                      refine wpAnyH_ready (rs := [34]) (by kernel_rfl) (by simp) ?_
                      refine AllReadyH.cons (o := _) rfl (fun K hK => ?st35) ?mo35
                      case st35 =>
                        go_simp
                        ((go_at_call 74; (with_reducible refine (rf_holds' t (H_h12.out.fk.grows (by (repeat' (first | (with_reducible exact Vg.Grows.refl _) | (with_reducible assumption) | (with_reducible refine Vg.Grows.alloc ?_ _) | (with_reducible refine Vg.Grows.plus ?_ _ _) | (with_reducible refine Vg.Grows.drewN ?_ _) | (with_reducible refine Vg.Grows.drew ?_) | (with_reducible refine Vg.Grows.setCell ?_ ?_ _) | (with_reducible refine Vg.Grows.put ?_ ?_ _) | omega | (simp; omega) | (simp; done))))) H_hhm'.out H_hho.out).mono ?_); rintro e w13 ⟨rfl, x13, m13, rfl⟩))
                        all_goals (try go_wp2_with fail)
                        refine hK.out _ _ (by go_split_ands <;> (try dsimp only) <;> go_simp) (fun hHeld35 => ?_)
                        clear hK K
                        (try simp only [List.getElem_toArray, List.getElem_cons_succ, List.getElem_cons_zero, Act.put, List.setIfInBounds_toArray, List.set_cons_zero, List.set_cons_succ])
                        refine wpAnyH_take (i := 35) (oi := _) (v := ?v36) rfl (by kernel_rfl) (by kernel_rfl) (by kernel_rfl) (fun _ _ _ h => h) (Or.inl ⟨by rfl, ?hy36⟩) (by assumption) ?rest36
                        case hy36 => (intro w hSw; (try dsimp only at hSw); go_simp; first | done | with_reducible rfl)
                        (try simp only [List.getElem_toArray, List.getElem_cons_succ, List.getElem_cons_zero, Act.put, List.setIfInBounds_toArray, List.set_cons_zero, List.set_cons_succ])
                        refine wpAnyH_take (i := 36) (oi := _) (v := ?v37) rfl (by kernel_rfl) (by kernel_rfl) (by kernel_rfl) (fun _ _ _ h => h) (Or.inl ⟨by rfl, ?hy37⟩) (by assumption) ?rest37
                        case hy37 => (intro w hSw; (try dsimp only at hSw); go_simp; first | done | with_reducible rfl)
                        (try simp only [List.getElem_toArray, List.getElem_cons_succ, List.getElem_cons_zero, Act.put, List.setIfInBounds_toArray, List.set_cons_zero, List.set_cons_succ])
                        refine wpAnyH_done (by kernel_rfl) ?_ _
                        go_wp2_with fail
                        go_meet
                        exact ⟨by first | rfl | simp, KP.sub (H_h12.out.grows (by (repeat' (first | (with_reducible exact Vg.Grows.refl _) | (with_reducible assumption) | (with_reducible refine Vg.Grows.alloc ?_ _) | (with_reducible refine Vg.Grows.plus ?_ _ _) | (with_reducible refine Vg.Grows.drewN ?_ _) | (with_reducible refine Vg.Grows.drew ?_) | (with_reducible refine Vg.Grows.setCell ?_ ?_ _) | (with_reducible refine Vg.Grows.put ?_ ?_ _) | omega | (simp; omega) | (simp; done))))) (by simp)⟩
                      exact AllReadyH.nil
                    exact AllReadyH.nil
                  exact AllReadyH.nil
                exact AllReadyH.nil
              exact AllReadyH.nil
            exact AllReadyH.nil
          case rest =>
            obtain ⟨rfl, hkz⟩ := hcut
            have a7 := hkz.blk (g := b7) (o := rkC ta3 tc3 ja3 jc3 la3 lc3 oa3 oc3 n) (by simp)
            have ax := hkz.blk (g := bx) (o := act14 kd t c at_) (by simp)
            clear c_u7 f_u7 p_u7 c_ux f_ux p_ux
            have c_a7 := Vg.cells_of a7; have f_a7 := Vg.frozen_of a7; have p_a7 := Vg.setCell_of a7; have l_a7 := Vg.lt_of a7; have H_a7 := Lib.hid a7; clear a7; have c_ax := Vg.cells_of ax; have f_ax := Vg.frozen_of ax; have p_ax := Vg.setCell_of ax; have l_ax := Vg.lt_of ax; have H_ax := Lib.hid ax; clear ax
            have hfkz := hkz.fk
            by_cases hin : 0 ≤ t ∧ t < (n : Int)
            · obtain ⟨t, rfl⟩ : ∃ i : Nat, t = i := ⟨t.toNat, by omega⟩
              have hi : t < K'.length := by rw [H_hKl'.out]; omega
              have hi1 : t < n := by omega
              have hi2 : (t : Int) < n := by omega
              have hi0 : (0 : Int) ≤ t := by omega
              have hhas : decide ((0 : Int) ≤ (t : Int) ∧ (t : Int) < (K'.length : Int)) = true := by simp [hi]
              obtain ⟨jg, jo, ju, juc, rfl, hjg, hcj, -⟩ := hfkz.atJ hi
              obtain ⟨lg, lo, rfl, hlg, lc1, lc2', hcl⟩ := hfkz.atL hi
              have hjc : n ≤ jc3 ∧ jc3 ≤ 9223372036854775807 := by
                obtain ⟨us, -, -, h3, h4, -⟩ := hfkz.parts
                exact ⟨by rw [← h3]; exact h4.1, h4.2.1⟩
              obtain ⟨hjc1, hjc2⟩ := hjc
              have ewt := H_hwt.out
              have els := H_hls.out
              rw [Vg.Kn.waiting_in hi] at ewt
              rw [Vg.Kn.lost_in hi] at els
              obtain ⟨N, hN⟩ : ∃ N, K'[t].J.length = N := ⟨_, rfl⟩
              rw [hN] at hcj ewt
              rw [els] at hcl
              have q6 : (wt != (N : Int)) = false := by simp [ewt]
              have q7 : (ls != ls) = false := by simp
              clear ewt hin
              have H_hkz := Lib.hid hkz; clear hkz; have H_hfkz := Lib.hid hfkz; clear hfkz; have H_hhas := Lib.hid hhas; clear hhas; have H_els := Lib.hid els; clear els; have H_hN := Lib.hid hN; clear hN
              go_upto_region 23 with ((go_at_call 75; (with_reducible refine (rf_has (t : Int) (H_hfkz.out.grows (by (repeat' (first | (with_reducible exact Vg.Grows.refl _) | (with_reducible assumption) | (with_reducible refine Vg.Grows.alloc ?_ _) | (with_reducible refine Vg.Grows.plus ?_ _ _) | (with_reducible refine Vg.Grows.drewN ?_ _) | (with_reducible refine Vg.Grows.drew ?_) | (with_reducible refine Vg.Grows.setCell ?_ ?_ _) | (with_reducible refine Vg.Grows.put ?_ ?_ _) | omega | (simp; omega) | (simp; done)))))).mono ?_); rintro e w14 ⟨rfl, x14, m14, rfl⟩; rw [H_hhas.out]))
              go_quiet ((first | (go_at_call 76; with_reducible refine (kp_waiting (t : Int) (H_hkz.out.grows (by (repeat' (first | (with_reducible exact Vg.Grows.refl _) | (with_reducible assumption) | (with_reducible refine Vg.Grows.alloc ?_ _) | (with_reducible refine Vg.Grows.plus ?_ _ _) | (with_reducible refine Vg.Grows.drewN ?_ _) | (with_reducible refine Vg.Grows.drew ?_) | (with_reducible refine Vg.Grows.setCell ?_ ?_ _) | (with_reducible refine Vg.Grows.put ?_ ?_ _) | omega | (simp; omega) | (simp; done))))) H_hwt.out).mono ?_; rintro e w1 ⟨rfl, rfl⟩; exact ⟨rfl, _, rfl⟩) | (go_at_call 77; with_reducible refine (kp_lost (t : Int) (H_hkz.out.grows (by (repeat' (first | (with_reducible exact Vg.Grows.refl _) | (with_reducible assumption) | (with_reducible refine Vg.Grows.alloc ?_ _) | (with_reducible refine Vg.Grows.plus ?_ _ _) | (with_reducible refine Vg.Grows.drewN ?_ _) | (with_reducible refine Vg.Grows.drew ?_) | (with_reducible refine Vg.Grows.setCell ?_ ?_ _) | (with_reducible refine Vg.Grows.put ?_ ?_ _) | omega | (simp; omega) | (simp; done))))) H_hls.out).mono ?_; rintro e w1 ⟨rfl, rfl⟩; exact ⟨rfl, _, rfl⟩)))
              all_goals go_wp2_with fail
              all_goals exact ⟨⟨q + 1, K', M', _, _, _, _, _, _, _, _, by omega, by go_num, KP.sub (H_hkz.out.grows (by (repeat' (first | (with_reducible exact Vg.Grows.refl _) | (with_reducible assumption) | (with_reducible refine Vg.Grows.alloc ?_ _) | (with_reducible refine Vg.Grows.plus ?_ _ _) | (with_reducible refine Vg.Grows.drewN ?_ _) | (with_reducible refine Vg.Grows.drew ?_) | (with_reducible refine Vg.Grows.setCell ?_ ?_ _) | (with_reducible refine Vg.Grows.put ?_ ?_ _) | omega | (simp; omega) | (simp; done))))) (by simp), H_hhm'.out, H_hinv'.out, H_hKT'.out⟩, by simp [intOf]; omega⟩
            · have hhas : decide (0 ≤ t ∧ t < (K'.length : Int)) = false := decide_eq_false (by rw [H_hKl'.out]; exact hin)
              have ewt : Vg.Kn.waiting K' t = 0 := Vg.Kn.waiting_out (by rw [H_hKl'.out]; omega)
              have els : Vg.Kn.lost K' t = 0 := Vg.Kn.lost_out (by rw [H_hKl'.out]; omega)
              clear hin
              have H_hkz := Lib.hid hkz; clear hkz; have H_hfkz := Lib.hid hfkz; clear hfkz; have H_hhas := Lib.hid hhas; clear hhas; have H_ewt := Lib.hid ewt; clear ewt; have H_els := Lib.hid els; clear els
              go_wp2_with (first | (go_at_call 75; (with_reducible refine (rf_has t (H_hfkz.out.grows (by (repeat' (first | (with_reducible exact Vg.Grows.refl _) | (with_reducible assumption) | (with_reducible refine Vg.Grows.alloc ?_ _) | (with_reducible refine Vg.Grows.plus ?_ _ _) | (with_reducible refine Vg.Grows.drewN ?_ _) | (with_reducible refine Vg.Grows.drew ?_) | (with_reducible refine Vg.Grows.setCell ?_ ?_ _) | (with_reducible refine Vg.Grows.put ?_ ?_ _) | omega | (simp; omega) | (simp; done)))))).mono ?_); rintro e w14 ⟨rfl, x14, m14, rfl⟩; rw [H_hhas.out]) | (go_at_call 76; (with_reducible refine (kp_waiting t (H_hkz.out.grows (by (repeat' (first | (with_reducible exact Vg.Grows.refl _) | (with_reducible assumption) | (with_reducible refine Vg.Grows.alloc ?_ _) | (with_reducible refine Vg.Grows.plus ?_ _ _) | (with_reducible refine Vg.Grows.drewN ?_ _) | (with_reducible refine Vg.Grows.drew ?_) | (with_reducible refine Vg.Grows.setCell ?_ ?_ _) | (with_reducible refine Vg.Grows.put ?_ ?_ _) | omega | (simp; omega) | (simp; done))))) H_ewt.out).mono ?_); rintro e w15 ⟨rfl, rfl⟩) | (go_at_call 77; (with_reducible refine (kp_lost t (H_hkz.out.grows (by (repeat' (first | (with_reducible exact Vg.Grows.refl _) | (with_reducible assumption) | (with_reducible refine Vg.Grows.alloc ?_ _) | (with_reducible refine Vg.Grows.plus ?_ _ _) | (with_reducible refine Vg.Grows.drewN ?_ _) | (with_reducible refine Vg.Grows.drew ?_) | (with_reducible refine Vg.Grows.setCell ?_ ?_ _) | (with_reducible refine Vg.Grows.put ?_ ?_ _) | omega | (simp; omega) | (simp; done))))) H_els.out).mono ?_); rintro e w16 ⟨rfl, rfl⟩))
              exact ⟨⟨q + 1, K', M', _, _, _, _, _, _, _, _, by omega, by go_num, KP.sub (H_hkz.out.grows (by (repeat' (first | (with_reducible exact Vg.Grows.refl _) | (with_reducible assumption) | (with_reducible refine Vg.Grows.alloc ?_ _) | (with_reducible refine Vg.Grows.plus ?_ _ _) | (with_reducible refine Vg.Grows.drewN ?_ _) | (with_reducible refine Vg.Grows.drew ?_) | (with_reducible refine Vg.Grows.setCell ?_ ?_ _) | (with_reducible refine Vg.Grows.put ?_ ?_ _) | omega | (simp; omega) | (simp; done))))) (by simp), H_hhm'.out, H_hinv'.out, H_hKT'.out⟩, by simp [intOf]; omega⟩
        · have H_hkx := Lib.hid hkx; clear hkx; have H_hinv := Lib.hid hinv; clear hinv; have H_hKT := Lib.hid hKT; clear hKT; have H_hhm := Lib.hid hhm; clear hhm
          go_wp2_with fail
          go_ret
          exact ⟨rfl, H_hkx.out.gr⟩
  · have hrr : (r != 0) = true := by simp [hr0]
    have hr2 : (r == 0) = false := by simp [hr0]
    have hr3 : (r == r) = true := by simp
    clear hr
    have H_hTR := Lib.hid hTR; clear hTR; have H_hTl := Lib.hid hTl; clear hTl; have H_hck := Lib.hid hck; clear hck; have H_hr0 := Lib.hid hr0; clear hr0
    go_enter Try.func10, Try.ntmps10
    go_wp2_with (first | (go_at_call 63; (with_reducible refine (lives14 _).mono ?_); rintro e w1 ⟨rfl, hg1⟩; have H_hg1 := Lib.hid hg1; clear hg1) | (go_at_call 64; (with_reducible refine (kern_new_no (H_hTR.out.grows H_hg1.out) H_hTl.out H_hck.out H_hr0.out).mono ?_); rintro e w2 ⟨rfl, hg2⟩; have H_hg2 := Lib.hid hg2; clear hg2) | (go_at_call 65; (with_reducible refine (rf_new_no ((H_hTR.out.grows H_hg1.out).grows H_hg2.out) H_hTl.out H_hck.out H_hr0.out).mono ?_); rintro e w3 ⟨rfl, hg3⟩; have H_hg3 := Lib.hid hg3; clear hg3))
    go_ret
    exact ⟨rfl, Vg.Grows.trans ((H_hg1.out.trans H_hg2.out).trans H_hg3.out) (by (repeat' (first | (with_reducible exact Vg.Grows.refl _) | (with_reducible assumption) | (with_reducible refine Vg.Grows.alloc ?_ _) | (with_reducible refine Vg.Grows.plus ?_ _ _) | (with_reducible refine Vg.Grows.drewN ?_ _) | (with_reducible refine Vg.Grows.drew ?_) | (with_reducible refine Vg.Grows.setCell ?_ ?_ _) | (with_reducible refine Vg.Grows.put ?_ ?_ _) | omega | (simp; omega) | (simp; done))))⟩
end Go.Proofs.Ytiinhofmhoplfaa
