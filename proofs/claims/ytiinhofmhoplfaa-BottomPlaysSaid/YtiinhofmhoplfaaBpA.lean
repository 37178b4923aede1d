/- BottomPlays or KernPlays: BotF, BotG, BotH, BotK, BotM (wip/bin/merge.py puts them together: a claim has at most 60 files). -/
import Derived.Test.YtiinhofmhoplfaaBotZ
import Derived.Test.YtiinhofmhoplfaaWorkV
import Derived.Test.YtiinhofmhoplfaaKernCa
set_option linter.unusedSimpArgs false
set_option linter.unusedVariables false
set_option maxHeartbeats 40000000
set_option maxRecDepth 100000
namespace Vg
open Go
abbrev Sp := Value × Bp
def scells : List Sp → List Value
  | [] => []
  | x :: l => .int .i64 x.2.t.bu :: .int .i64 x.2.t.pe :: x.1 :: .int .i64 x.2.s.last :: scells l
theorem scells_length : ∀ l : List Sp, (scells l).length = l.length * 4
  | [] => rfl
  | x :: l => by simp [scells, scells_length l]; omega
theorem scells_append : ∀ l m : List Sp, scells (l ++ m) = scells l ++ scells m
  | [], m => rfl
  | x :: l, m => by simp [scells, scells_append l m]
theorem scells_get : ∀ (l : List Sp) (k : Nat) (h : k < l.length), (scells l)[k * 4]? = some (.int .i64 l[k].2.t.bu) ∧ (scells l)[k * 4 + 1]? = some (.int .i64 l[k].2.t.pe) ∧ (scells l)[k * 4 + 2]? = some l[k].1 ∧ (scells l)[k * 4 + 3]? = some (.int .i64 l[k].2.s.last)
  | [], k, h => by simp at h
  | x :: l, 0, _ => by simp [scells]
  | x :: l, k + 1, h => by
    have := scells_get l k (by simpa using h)
    rw [show (k + 1) * 4 = k * 4 + 1 + 1 + 1 + 1 from by omega]
    simpa [scells] using this
theorem Reads.serv {S : Nat} {w : World} {a : Option Addr} {c n : Nat} {xs : List Sp} (hn : xs.length = n) (h : Reads S w (.slice a n c) n (scells xs)) (i : Nat) (hi : i < xs.length) :
    ∃ g o, a = some ⟨g, o, none⟩ ∧ g < w.heap.size ∧ n ≤ c ∧ c ≤ 9223372036854775807 ∧ w.cell? ⟨g, o + i * 4, none⟩ = some (.int .i64 xs[i].2.t.bu) ∧ w.cell? ⟨g, o + i * 4 + 1, none⟩ = some (.int .i64 xs[i].2.t.pe) ∧ w.cell? ⟨g, o + i * 4 + 2, none⟩ = some xs[i].1 ∧ w.cell? ⟨g, o + i * 4 + 3, none⟩ = some (.int .i64 xs[i].2.s.last) := by
  subst hn
  have hl := scells_length xs
  obtain ⟨g, o, rfl, hg, hc, hm, hx⟩ := h.open (by omega)
  obtain ⟨g0, g1, g2, g3⟩ := scells_get xs i hi
  have key : ∀ j u, i * 4 + j < (scells xs).length → (scells xs)[i * 4 + j]? = some u → w.cell? ⟨g, o + i * 4 + j, none⟩ = some u := fun j u hj hu => by
    have := hx (i * 4 + j) hj
    rw [← Nat.add_assoc] at this
    rw [this, ← hu, List.getElem?_eq_getElem]
  have hhc : c ≤ 9223372036854775807 := hm
  exact ⟨g, o, rfl, hg, hc, hhc, by simpa using key 0 _ (by omega) g0, key 1 _ (by omega) g1, key 2 _ (by omega) g2, key 3 _ (by omega) g3⟩
theorem Wk.left_pos {k : Nat} {Q : List Wq} (h : Wk.Inv k Q) (i : Nat) (hi : i < Q.length) : (0 < Wk.left Q i) ↔ (0 < Wk.waiting Q i) := by
  obtain ⟨h1, h2, h3, h4, h5⟩ := h.at i hi
  rw [Wk.left_in hi, Wk.waiting_in hi]
  cases hL : Q[i].L with
  | nil => simp
  | cons x l =>
    rw [hL] at h5
    have := h5 x (by simp)
    simp only [List.headD_cons, List.length_cons]
    omega
theorem TR.touchS {w w' : World} {sa : Option Addr} {c n : Nat} {T : List Th} {S : Nat → Prop} (h : TR w sa c T) (hS : ∀ g, (Value.slice sa n c).ownBlock = some g → S g) (hk : Kept S w w') : TR w' sa c T :=
  ⟨h.1, h.2.1, fun k hk' => by
    obtain ⟨g, off, e, hlt, c0, c1, c2, c3⟩ := h.2.2 k hk'
    have hb := hk.block g (hS g (by rw [e]; rfl))
    exact ⟨g, off, e, Nat.lt_of_lt_of_le hlt hk.size, (World.cell?_of_block (w := w) hb).trans c0, (World.cell?_of_block (w := w) hb).trans c1, (World.cell?_of_block (w := w) hb).trans c2, (World.cell?_of_block (w := w) hb).trans c3⟩⟩
theorem ReadsP.keptS {S : Nat → Prop} {w w' : World} {sv : Value} {n : Nat} {xs : List Value} (h : ReadsP S w sv n xs) (hk : Kept S w w') : ReadsP S w' sv n xs := by
  refine ⟨?_, h.2⟩
  rcases h.1 with h0 | ⟨g, off, cap, h1, h2, h3, h4, h5, h6⟩
  · exact .inl h0
  · have hb := hk.block g (h.2 g (by rw [h1]; rfl))
    exact .inr ⟨g, off, cap, h1, h2, Nat.lt_of_lt_of_le h3 hk.size, h4, h5, fun j hj => (World.cell?_of_block (w := w) hb).trans (h6 j hj)⟩
end Vg
namespace Go.Proofs.Ytiinhofmhoplfaa
open Go.ChangeShapes Go.WideShapes Go.ChangeAt Go.RowKit
structure RB (S : Nat → Prop) (w : World) (v : Value) (ps : List Vg.Sp) (rs : List Vg.Wp) : Prop where
  ex : ∃ ta tc sa sc wa wc, v = .agg #[.slice ta ps.length tc, .slice sa ps.length sc, .slice wa rs.length wc] ∧ Vg.TR w ta tc (ps.map (·.2.t)) ∧ (∀ k, (Value.slice ta ps.length tc).ownBlock = some k → S k) ∧ Vg.ReadsP S w (.slice sa ps.length sc) ps.length (Vg.scells ps) ∧ RQ w S rs (.slice wa rs.length wc)
  ra : ∀ i (h : i < ps.length), RA w 0 ps[i].2.s ps[i].1 ∧ ∀ k, ps[i].1.ownBlock = some k → S k
section
variable {w w' : World} {S S' : Nat → Prop} {v : Value} {ps : List Vg.Sp} {rs : List Vg.Wp} {Bs : List Vg.Bp} {Q Q' : List Vg.Wq} {k n q : Nat} {is : Bool} {x r m : Int} {ta sa wa : Option Addr} {tc sc wc : Nat}
theorem RB.grows (h : RB S w v ps rs) (hg : Vg.Grows w w') : RB S w' v ps rs := by
  obtain ⟨ta, tc, sa, sc, wa, wc, h1, h2, h3, h4, h5⟩ := h.ex
  exact ⟨⟨ta, tc, sa, sc, wa, wc, h1, h2.grows hg, h3, h4.grows hg, h5.grows hg⟩, fun i hi => ⟨(h.ra i hi).1.grows hg, (h.ra i hi).2⟩⟩
theorem RB.mono (h : RB S w v ps rs) (hS : ∀ k, S k → S' k) : RB S' w v ps rs := by
  obtain ⟨ta, tc, sa, sc, wa, wc, h1, h2, h3, h4, h5⟩ := h.ex
  exact ⟨⟨ta, tc, sa, sc, wa, wc, h1, h2, fun k hk => hS k (h3 k hk), ⟨h4.1, fun k hk => hS k (h4.2 k hk)⟩, h5.mono hS⟩, fun i hi => ⟨(h.ra i hi).1, fun k hk => hS k ((h.ra i hi).2 k hk)⟩⟩
theorem RB.kept (h : RB S w v ps rs) (hk : Vg.Kept S w w') : RB S w' v ps rs := by
  obtain ⟨ta, tc, sa, sc, wa, wc, h1, h2, h3, h4, h5⟩ := h.ex
  refine ⟨⟨ta, tc, sa, sc, wa, wc, h1, h2.touchS h3 hk, h3, h4.keptS hk, ⟨h5.shape, h5.row.keptS hk, h5.ush, fun i hi => (h5.pcs i hi).keptS hk⟩⟩, fun i hi => ⟨?_, (h.ra i hi).2⟩⟩
  obtain ⟨a, c, e, hr⟩ := (h.ra i hi).1
  exact ⟨a, c, e, (Vg.ReadsP.keptS (S := S) ⟨hr, (h.ra i hi).2⟩ hk).1⟩
theorem RB.parts (h : RB S w (.agg #[.slice ta n tc, .slice sa n sc, .slice wa q wc]) ps rs) : ps.length = n ∧ rs.length = q ∧ Vg.TR w ta tc (ps.map (·.2.t)) ∧ (∀ k, (Value.slice ta n tc).ownBlock = some k → S k) ∧ Vg.ReadsP S w (.slice sa n sc) n (Vg.scells ps) ∧ RQ w S rs (.slice wa q wc) := by
  obtain ⟨ta', tc', sa', sc', wa', wc', h1, h2, h3, h4, h5⟩ := h.ex
  simp only [Value.agg.injEq, Array.mk.injEq, List.cons.injEq, Value.slice.injEq, and_true] at h1
  obtain ⟨⟨rfl, hn, rfl⟩, ⟨rfl, -, rfl⟩, rfl, hq, rfl⟩ := h1
  rw [← hn] at h3 h4
  rw [← hq] at h5
  exact ⟨hn.symm, hq.symm, h2, h3, h4, h5⟩
theorem RB.shape (h : RB S w v ps rs) : ∃ ta tc sa sc wa wc, v = .agg #[.slice ta ps.length tc, .slice sa ps.length sc, .slice wa rs.length wc] ∧ ps.length ≤ tc ∧ tc ≤ 9223372036854775807 := by
  obtain ⟨ta, tc, sa, sc, wa, wc, h1, h2, h3, h4, h5⟩ := h.ex
  have := h2.1
  rw [List.length_map] at this
  exact ⟨ta, tc, sa, sc, wa, wc, h1, this, h2.2.1⟩
theorem rb_has (i : Int) (h : RB S w v ps rs) :
    Calls Try.prog 60 #[v, .int .i64 i] w fun e w' => e = .returned (.bool (decide (0 ≤ i ∧ i < ps.length))) ∧ Vg.Grows w w' := by
  obtain ⟨ta, tc, sa, sc, wa, wc, rfl, -⟩ := h.shape
  obtain ⟨n, hn⟩ : ∃ n, ps.length = n := ⟨_, rfl⟩
  rw [hn]
  clear h hn
  by_cases h0 : 0 ≤ i
  · by_cases h1 : i < n
    · have e : decide (0 ≤ i ∧ i < (n : Int)) = true := by simp [h0, h1]
      rw [e]
      clear e
      go_enter Try.func60, Try.ntmps60
      go_wp2_with fail
      go_ret
      exact ⟨rfl, by (repeat' (first | (with_reducible exact Vg.Grows.refl _) | (with_reducible assumption) | (with_reducible refine Vg.Grows.alloc ?_ _) | (with_reducible refine Vg.Grows.plus ?_ _ _) | (with_reducible refine Vg.Grows.drewN ?_ _) | (with_reducible refine Vg.Grows.drew ?_) | (with_reducible refine Vg.Grows.setCell ?_ ?_ _) | (with_reducible refine Vg.Grows.put ?_ ?_ _) | omega | (simp; omega) | (simp; done)))⟩
    · have e : decide (0 ≤ i ∧ i < (n : Int)) = false := by simp; omega
      rw [e]
      clear e
      go_enter Try.func60, Try.ntmps60
      go_wp2_with fail
      go_ret
      exact ⟨rfl, by (repeat' (first | (with_reducible exact Vg.Grows.refl _) | (with_reducible assumption) | (with_reducible refine Vg.Grows.alloc ?_ _) | (with_reducible refine Vg.Grows.plus ?_ _ _) | (with_reducible refine Vg.Grows.drewN ?_ _) | (with_reducible refine Vg.Grows.drew ?_) | (with_reducible refine Vg.Grows.setCell ?_ ?_ _) | (with_reducible refine Vg.Grows.put ?_ ?_ _) | omega | (simp; omega) | (simp; done)))⟩
  · have e : decide (0 ≤ i ∧ i < (n : Int)) = false := by simp; omega
    rw [e]
    clear e
    go_enter Try.func60, Try.ntmps60
    go_wp2_with fail
    go_ret
    exact ⟨rfl, by (repeat' (first | (with_reducible exact Vg.Grows.refl _) | (with_reducible assumption) | (with_reducible refine Vg.Grows.alloc ?_ _) | (with_reducible refine Vg.Grows.plus ?_ _ _) | (with_reducible refine Vg.Grows.drewN ?_ _) | (with_reducible refine Vg.Grows.drew ?_) | (with_reducible refine Vg.Grows.setCell ?_ ?_ _) | (with_reducible refine Vg.Grows.put ?_ ?_ _) | omega | (simp; omega) | (simp; done)))⟩
theorem rq_leftz (h : RQ w S rs v) (hQ : rs.map (·.2) = Q) (hx : Vg.Wk.left Q m = x) :
    Calls Try.prog 18 #[v, .int .i64 m] w fun e w' => e = .returned (.int .i64 x) ∧ w = w' := by
  subst hQ hx
  exact rq_left m h
theorem ra_leftz {bu pe : Int} {s : Vg.Srv} {u : Value} (h : RA w 0 s u) (hinv : s.Inv bu) (hbu : 1 ≤ bu ∧ bu ≤ 1099511627776) (hx : s.left bu = x) :
    Calls Try.prog 101 #[.agg #[.int .i64 bu, .int .i64 pe, u, .int .i64 s.last]] w fun e w' => e = .returned (.int .i64 x) ∧ Vg.Grows w w' := by
  subst hx
  exact ra_left h hinv hbu
theorem rb_able (i : Int) (h : RB S w v ps rs) (hB : ps.map (·.2) = Bs) (hQ : rs.map (·.2) = Q) (hI : Vg.Bo.Inv k Bs Q) (hx : Vg.Bo.able Bs Q i = is) :
    Calls Try.prog 58 #[v, .int .i64 i] w fun e w' => e = .returned (.bool is) ∧ Vg.Grows w w' := by
  obtain ⟨ta, tc, sa, sc, wa, wc, rfl, t1, t2⟩ := h.shape
  obtain ⟨n, hn⟩ : ∃ n, ps.length = n := ⟨_, rfl⟩
  obtain ⟨q, hq⟩ : ∃ q, rs.length = q := ⟨_, rfl⟩
  have hBl : Bs.length = n := by rw [← hB, List.length_map]; exact hn
  rw [hn, hq] at h
  rw [hn] at t1 ⊢
  rw [hq]
  obtain ⟨-, -, -, -, hsr, hrq⟩ := h.parts
  by_cases hin : 0 ≤ i ∧ i < (n : Int)
  · obtain ⟨i, rfl⟩ : ∃ n : Nat, i = n := ⟨i.toNat, by omega⟩
    have hi : i < ps.length := by omega
    have hiB : i < Bs.length := by omega
    have hin1 : i < n := by omega
    have hhas : decide ((0 : Int) ≤ (i : Int) ∧ (i : Int) < (ps.length : Int)) = true := by simp [hi]
    obtain ⟨g, o, rfl, hg, s1, s2, c0, c1, c2, c3⟩ := hsr.1.serv hn i hi
    obtain ⟨⟨⟨hb1, hb2⟩, hpe, hpr, hsi⟩, hiQ⟩ := hI.at i hiB
    have hra := (h.ra i hi).1
    have hBi : Bs[i] = ps[i].2 := by subst hB; rw [List.getElem_map]
    rw [Vg.Bo.able_in hiB, hBi] at hx
    rw [hBi] at hb1 hb2 hsi
    have hpos := Vg.Wk.left_pos hI.wk i hiQ
    obtain ⟨lf, hlf⟩ : ∃ x, Vg.Wk.left Q i = x := ⟨_, rfl⟩
    obtain ⟨sl, hsl⟩ : ∃ x, ps[i].2.s.left ps[i].2.t.bu = x := ⟨_, rfl⟩
    rw [hsl] at hx
    rw [hlf] at hpos
    obtain ⟨sa', sc', hu, hrr⟩ := hra
    rw [hu] at c2
    have hra : RA w 0 ps[i].2.s (.slice sa' ps[i].2.s.L.length sc') := ⟨sa', sc', rfl, by rw [← hu]; exact hrr⟩
    obtain ⟨⟨u, ⟨⟨pr, bu, pe, dp⟩, ⟨L, last⟩⟩⟩, hx2⟩ : ∃ y, ps[i] = y := ⟨_, rfl⟩
    rw [hx2] at c0 c1 c2 c3 hra hb1 hb2 hsi hsl
    simp only [] at c0 c1 c2 c3 hra hb1 hb2 hsi hsl
    clear hrr hu
    by_cases q1 : 0 < lf
    · have q3 := hpos.1 q1
      by_cases q2 : 0 < sl
      · have e : true = is := by rw [← hx]; simp [q3, q2]
        subst e
        have H_h := Lib.hid h; clear h; have H_hB := Lib.hid hB; clear hB; have H_hQ := Lib.hid hQ; clear hQ; have H_hI := Lib.hid hI; clear hI; have H_hx := Lib.hid hx; clear hx; have H_hn := Lib.hid hn; clear hn; have H_hq := Lib.hid hq; clear hq; have H_hBl := Lib.hid hBl; clear hBl; have H_hsr := Lib.hid hsr; clear hsr; have H_hrq := Lib.hid hrq; clear hrq; have H_hhas := Lib.hid hhas; clear hhas; have H_hpos := Lib.hid hpos; clear hpos; have H_hlf := Lib.hid hlf; clear hlf; have H_hra := Lib.hid hra; clear hra; have H_hx2 := Lib.hid hx2; clear hx2; have H_hsi := Lib.hid hsi; clear hsi; have H_hsl := Lib.hid hsl; clear hsl; have H_hBi := Lib.hid hBi; clear hBi; have H_hpe := Lib.hid hpe; clear hpe; have H_hpr := Lib.hid hpr; clear hpr; have H_q3 := Lib.hid q3; clear q3
        go_enter Try.func58, Try.ntmps58
        go_wp2_with (first | (go_at_call 60; (with_reducible refine (rb_has i (H_h.out.grows (by (repeat' (first | (with_reducible exact Vg.Grows.refl _) | (with_reducible assumption) | (with_reducible refine Vg.Grows.alloc ?_ _) | (with_reducible refine Vg.Grows.plus ?_ _ _) | (with_reducible refine Vg.Grows.drewN ?_ _) | (with_reducible refine Vg.Grows.drew ?_) | (with_reducible refine Vg.Grows.setCell ?_ ?_ _) | (with_reducible refine Vg.Grows.put ?_ ?_ _) | omega | (simp; omega) | (simp; done)))))).mono ?_); rintro e w1 ⟨rfl, x1, n1, rfl⟩; rw [H_hhas.out]) | (go_at_call 18; (with_reducible refine (rq_leftz (H_hrq.out.grows (by (repeat' (first | (with_reducible exact Vg.Grows.refl _) | (with_reducible assumption) | (with_reducible refine Vg.Grows.alloc ?_ _) | (with_reducible refine Vg.Grows.plus ?_ _ _) | (with_reducible refine Vg.Grows.drewN ?_ _) | (with_reducible refine Vg.Grows.drew ?_) | (with_reducible refine Vg.Grows.setCell ?_ ?_ _) | (with_reducible refine Vg.Grows.put ?_ ?_ _) | omega | (simp; omega) | (simp; done))))) H_hQ.out H_hlf.out).mono ?_); rintro e w2 ⟨rfl, rfl⟩) | (go_at_call 101; (with_reducible refine (ra_leftz (H_hra.out.grows (by (repeat' (first | (with_reducible exact Vg.Grows.refl _) | (with_reducible assumption) | (with_reducible refine Vg.Grows.alloc ?_ _) | (with_reducible refine Vg.Grows.plus ?_ _ _) | (with_reducible refine Vg.Grows.drewN ?_ _) | (with_reducible refine Vg.Grows.drew ?_) | (with_reducible refine Vg.Grows.setCell ?_ ?_ _) | (with_reducible refine Vg.Grows.put ?_ ?_ _) | omega | (simp; omega) | (simp; done))))) H_hsi.out ⟨hb1, hb2⟩ H_hsl.out).mono ?_); rintro e w3 ⟨rfl, x3, n3, rfl⟩))
        go_ret
        exact ⟨by first | rfl | exact ret_bool (by simp; omega), by (repeat' (first | (with_reducible exact Vg.Grows.refl _) | (with_reducible assumption) | (with_reducible refine Vg.Grows.alloc ?_ _) | (with_reducible refine Vg.Grows.plus ?_ _ _) | (with_reducible refine Vg.Grows.drewN ?_ _) | (with_reducible refine Vg.Grows.drew ?_) | (with_reducible refine Vg.Grows.setCell ?_ ?_ _) | (with_reducible refine Vg.Grows.put ?_ ?_ _) | omega | (simp; omega) | (simp; done)))⟩
      · have e : false = is := by rw [← hx]; simp [q2]
        subst e
        have H_h := Lib.hid h; clear h; have H_hB := Lib.hid hB; clear hB; have H_hQ := Lib.hid hQ; clear hQ; have H_hI := Lib.hid hI; clear hI; have H_hx := Lib.hid hx; clear hx; have H_hn := Lib.hid hn; clear hn; have H_hq := Lib.hid hq; clear hq; have H_hBl := Lib.hid hBl; clear hBl; have H_hsr := Lib.hid hsr; clear hsr; have H_hrq := Lib.hid hrq; clear hrq; have H_hhas := Lib.hid hhas; clear hhas; have H_hpos := Lib.hid hpos; clear hpos; have H_hlf := Lib.hid hlf; clear hlf; have H_hra := Lib.hid hra; clear hra; have H_hx2 := Lib.hid hx2; clear hx2; have H_hsi := Lib.hid hsi; clear hsi; have H_hsl := Lib.hid hsl; clear hsl; have H_hBi := Lib.hid hBi; clear hBi; have H_hpe := Lib.hid hpe; clear hpe; have H_hpr := Lib.hid hpr; clear hpr; have H_q3 := Lib.hid q3; clear q3
        go_enter Try.func58, Try.ntmps58
        go_wp2_with (first | (go_at_call 60; (with_reducible refine (rb_has i (H_h.out.grows (by (repeat' (first | (with_reducible exact Vg.Grows.refl _) | (with_reducible assumption) | (with_reducible refine Vg.Grows.alloc ?_ _) | (with_reducible refine Vg.Grows.plus ?_ _ _) | (with_reducible refine Vg.Grows.drewN ?_ _) | (with_reducible refine Vg.Grows.drew ?_) | (with_reducible refine Vg.Grows.setCell ?_ ?_ _) | (with_reducible refine Vg.Grows.put ?_ ?_ _) | omega | (simp; omega) | (simp; done)))))).mono ?_); rintro e w1 ⟨rfl, x1, n1, rfl⟩; rw [H_hhas.out]) | (go_at_call 18; (with_reducible refine (rq_leftz (H_hrq.out.grows (by (repeat' (first | (with_reducible exact Vg.Grows.refl _) | (with_reducible assumption) | (with_reducible refine Vg.Grows.alloc ?_ _) | (with_reducible refine Vg.Grows.plus ?_ _ _) | (with_reducible refine Vg.Grows.drewN ?_ _) | (with_reducible refine Vg.Grows.drew ?_) | (with_reducible refine Vg.Grows.setCell ?_ ?_ _) | (with_reducible refine Vg.Grows.put ?_ ?_ _) | omega | (simp; omega) | (simp; done))))) H_hQ.out H_hlf.out).mono ?_); rintro e w2 ⟨rfl, rfl⟩) | (go_at_call 101; (with_reducible refine (ra_leftz (H_hra.out.grows (by (repeat' (first | (with_reducible exact Vg.Grows.refl _) | (with_reducible assumption) | (with_reducible refine Vg.Grows.alloc ?_ _) | (with_reducible refine Vg.Grows.plus ?_ _ _) | (with_reducible refine Vg.Grows.drewN ?_ _) | (with_reducible refine Vg.Grows.drew ?_) | (with_reducible refine Vg.Grows.setCell ?_ ?_ _) | (with_reducible refine Vg.Grows.put ?_ ?_ _) | omega | (simp; omega) | (simp; done))))) H_hsi.out ⟨hb1, hb2⟩ H_hsl.out).mono ?_); rintro e w3 ⟨rfl, x3, n3, rfl⟩))
        go_ret
        exact ⟨by first | rfl | exact ret_bool (by simp; omega), by (repeat' (first | (with_reducible exact Vg.Grows.refl _) | (with_reducible assumption) | (with_reducible refine Vg.Grows.alloc ?_ _) | (with_reducible refine Vg.Grows.plus ?_ _ _) | (with_reducible refine Vg.Grows.drewN ?_ _) | (with_reducible refine Vg.Grows.drew ?_) | (with_reducible refine Vg.Grows.setCell ?_ ?_ _) | (with_reducible refine Vg.Grows.put ?_ ?_ _) | omega | (simp; omega) | (simp; done)))⟩
    · have q3 : ¬ (0 < Vg.Wk.waiting Q i) := fun hh => q1 (hpos.2 hh)
      have e : false = is := by rw [← hx]; simp [q3]
      subst e
      have H_h := Lib.hid h; clear h; have H_hB := Lib.hid hB; clear hB; have H_hQ := Lib.hid hQ; clear hQ; have H_hI := Lib.hid hI; clear hI; have H_hx := Lib.hid hx; clear hx; have H_hn := Lib.hid hn; clear hn; have H_hq := Lib.hid hq; clear hq; have H_hBl := Lib.hid hBl; clear hBl; have H_hsr := Lib.hid hsr; clear hsr; have H_hrq := Lib.hid hrq; clear hrq; have H_hhas := Lib.hid hhas; clear hhas; have H_hpos := Lib.hid hpos; clear hpos; have H_hlf := Lib.hid hlf; clear hlf; have H_hra := Lib.hid hra; clear hra; have H_hx2 := Lib.hid hx2; clear hx2; have H_hsi := Lib.hid hsi; clear hsi; have H_hsl := Lib.hid hsl; clear hsl; have H_hBi := Lib.hid hBi; clear hBi; have H_hpe := Lib.hid hpe; clear hpe; have H_hpr := Lib.hid hpr; clear hpr; have H_q3 := Lib.hid q3; clear q3
      go_enter Try.func58, Try.ntmps58
      go_wp2_with (first | (go_at_call 60; (with_reducible refine (rb_has i (H_h.out.grows (by (repeat' (first | (with_reducible exact Vg.Grows.refl _) | (with_reducible assumption) | (with_reducible refine Vg.Grows.alloc ?_ _) | (with_reducible refine Vg.Grows.plus ?_ _ _) | (with_reducible refine Vg.Grows.drewN ?_ _) | (with_reducible refine Vg.Grows.drew ?_) | (with_reducible refine Vg.Grows.setCell ?_ ?_ _) | (with_reducible refine Vg.Grows.put ?_ ?_ _) | omega | (simp; omega) | (simp; done)))))).mono ?_); rintro e w1 ⟨rfl, x1, n1, rfl⟩; rw [H_hhas.out]) | (go_at_call 18; (with_reducible refine (rq_leftz (H_hrq.out.grows (by (repeat' (first | (with_reducible exact Vg.Grows.refl _) | (with_reducible assumption) | (with_reducible refine Vg.Grows.alloc ?_ _) | (with_reducible refine Vg.Grows.plus ?_ _ _) | (with_reducible refine Vg.Grows.drewN ?_ _) | (with_reducible refine Vg.Grows.drew ?_) | (with_reducible refine Vg.Grows.setCell ?_ ?_ _) | (with_reducible refine Vg.Grows.put ?_ ?_ _) | omega | (simp; omega) | (simp; done))))) H_hQ.out H_hlf.out).mono ?_); rintro e w2 ⟨rfl, rfl⟩))
      go_ret
      exact ⟨rfl, by (repeat' (first | (with_reducible exact Vg.Grows.refl _) | (with_reducible assumption) | (with_reducible refine Vg.Grows.alloc ?_ _) | (with_reducible refine Vg.Grows.plus ?_ _ _) | (with_reducible refine Vg.Grows.drewN ?_ _) | (with_reducible refine Vg.Grows.drew ?_) | (with_reducible refine Vg.Grows.setCell ?_ ?_ _) | (with_reducible refine Vg.Grows.put ?_ ?_ _) | omega | (simp; omega) | (simp; done)))⟩
  · rw [Vg.Bo.able_out (by omega)] at hx
    subst hx
    have hhas : decide (0 ≤ i ∧ i < (ps.length : Int)) = false := decide_eq_false (by omega)
    clear hin
    have H_h := Lib.hid h; clear h; have H_hB := Lib.hid hB; clear hB; have H_hQ := Lib.hid hQ; clear hQ; have H_hI := Lib.hid hI; clear hI; have H_hn := Lib.hid hn; clear hn; have H_hq := Lib.hid hq; clear hq; have H_hBl := Lib.hid hBl; clear hBl; have H_hsr := Lib.hid hsr; clear hsr; have H_hrq := Lib.hid hrq; clear hrq; have H_hhas := Lib.hid hhas; clear hhas
    go_enter Try.func58, Try.ntmps58
    go_wp2_with ((go_at_call 60; (with_reducible refine (rb_has i (H_h.out.grows (by (repeat' (first | (with_reducible exact Vg.Grows.refl _) | (with_reducible assumption) | (with_reducible refine Vg.Grows.alloc ?_ _) | (with_reducible refine Vg.Grows.plus ?_ _ _) | (with_reducible refine Vg.Grows.drewN ?_ _) | (with_reducible refine Vg.Grows.drew ?_) | (with_reducible refine Vg.Grows.setCell ?_ ?_ _) | (with_reducible refine Vg.Grows.put ?_ ?_ _) | omega | (simp; omega) | (simp; done)))))).mono ?_); rintro e w1 ⟨rfl, x1, n1, rfl⟩; rw [H_hhas.out]))
    go_ret
    exact ⟨rfl, by (repeat' (first | (with_reducible exact Vg.Grows.refl _) | (with_reducible assumption) | (with_reducible refine Vg.Grows.alloc ?_ _) | (with_reducible refine Vg.Grows.plus ?_ _ _) | (with_reducible refine Vg.Grows.drewN ?_ _) | (with_reducible refine Vg.Grows.drew ?_) | (with_reducible refine Vg.Grows.setCell ?_ ?_ _) | (with_reducible refine Vg.Grows.put ?_ ?_ _) | omega | (simp; omega) | (simp; done)))⟩
end
end Go.Proofs.Ytiinhofmhoplfaa
namespace Vg
open Go
end Vg
namespace Go.Proofs.Ytiinhofmhoplfaa
open Go.ChangeShapes Go.WideShapes Go.ChangeAt Go.RowKit
abbrev rbC (v1 v2 v3 : Value) : Obj := .cells #[v1, v2, v3] 80
section
variable {w w' : World} {S S' : Nat → Prop} {v : Value} {ps : List Vg.Sp} {rs : List Vg.Wp} {Bs : List Vg.Bp} {Q Q' : List Vg.Wq} {k n q : Nat} {is : Bool} {x r m : Int} {ta sa wa : Option Addr} {tc sc wc : Nat}
theorem rb_left (i : Int) (h : RB S w v ps rs) (hB : ps.map (·.2) = Bs) (hQ : rs.map (·.2) = Q) (hI : Vg.Bo.Inv k Bs Q) (hx : Vg.Bo.left Bs Q i = x) :
    Calls Try.prog 45 #[v, .int .i64 i] w fun e w' => e = .returned (.int .i64 x) ∧ Vg.Grows w w' := by
  obtain ⟨is, his⟩ : ∃ b, Vg.Bo.able Bs Q i = b := ⟨_, rfl⟩
  cases is with
  | false =>
    rw [Vg.Bo.left_no his] at hx
    subst hx
    obtain ⟨ta, tc, sa, sc, wa, wc, rfl, t1, t2⟩ := h.shape
    have H_h := Lib.hid h; clear h; have H_hB := Lib.hid hB; clear hB; have H_hQ := Lib.hid hQ; clear hQ; have H_hI := Lib.hid hI; clear hI; have H_his := Lib.hid his; clear his
    go_enter Try.func45, Try.ntmps45
    go_wp2_with ((go_at_call 58; (with_reducible refine (rb_able i (H_h.out.grows (by (repeat' (first | (with_reducible exact Vg.Grows.refl _) | (with_reducible assumption) | (with_reducible refine Vg.Grows.alloc ?_ _) | (with_reducible refine Vg.Grows.plus ?_ _ _) | (with_reducible refine Vg.Grows.drewN ?_ _) | (with_reducible refine Vg.Grows.drew ?_) | (with_reducible refine Vg.Grows.setCell ?_ ?_ _) | (with_reducible refine Vg.Grows.put ?_ ?_ _) | omega | (simp; omega) | (simp; done))))) H_hB.out H_hQ.out H_hI.out H_his.out).mono ?_); rintro e w1 ⟨rfl, x1, n1, rfl⟩))
    go_ret
    exact ⟨rfl, by (repeat' (first | (with_reducible exact Vg.Grows.refl _) | (with_reducible assumption) | (with_reducible refine Vg.Grows.alloc ?_ _) | (with_reducible refine Vg.Grows.plus ?_ _ _) | (with_reducible refine Vg.Grows.drewN ?_ _) | (with_reducible refine Vg.Grows.drew ?_) | (with_reducible refine Vg.Grows.setCell ?_ ?_ _) | (with_reducible refine Vg.Grows.put ?_ ?_ _) | omega | (simp; omega) | (simp; done)))⟩
  | true =>
    have hin : 0 ≤ i ∧ i < (Bs.length : Int) := by
      by_cases hh : i < 0 ∨ (Bs.length : Int) ≤ i
      · rw [Vg.Bo.able_out hh] at his; cases his
      · omega
    obtain ⟨i, rfl⟩ : ∃ n : Nat, i = n := ⟨i.toNat, by omega⟩
    obtain ⟨ta, tc, sa, sc, wa, wc, rfl, t1, t2⟩ := h.shape
    obtain ⟨n, hn⟩ : ∃ n, ps.length = n := ⟨_, rfl⟩
    obtain ⟨q, hq⟩ : ∃ q, rs.length = q := ⟨_, rfl⟩
    have hBl : Bs.length = n := by rw [← hB, List.length_map]; exact hn
    rw [hn, hq] at h
    rw [hn] at t1 ⊢
    rw [hq]
    obtain ⟨-, -, -, -, hsr, hrq⟩ := h.parts
    have hi : i < ps.length := by omega
    have hiB : i < Bs.length := by omega
    have hin1 : i < n := by omega
    obtain ⟨g, o, rfl, hg, s1, s2, c0, c1, c2, c3⟩ := hsr.1.serv hn i hi
    obtain ⟨⟨⟨hb1, hb2⟩, hpe, hpr, hsi⟩, hiQ⟩ := hI.at i hiB
    have hra := (h.ra i hi).1
    have hBi : Bs[i] = ps[i].2 := by subst hB; rw [List.getElem_map]
    rw [Vg.Bo.left_in hiB, his, if_pos rfl, hBi] at hx
    rw [hBi] at hb1 hb2 hsi
    obtain ⟨lf, hlf⟩ : ∃ x, Vg.Wk.left Q i = x := ⟨_, rfl⟩
    obtain ⟨sl, hsl⟩ : ∃ x, ps[i].2.s.left ps[i].2.t.bu = x := ⟨_, rfl⟩
    rw [hsl, hlf] at hx
    obtain ⟨sa', sc', hu, hrr⟩ := hra
    rw [hu] at c2
    have hra : RA w 0 ps[i].2.s (.slice sa' ps[i].2.s.L.length sc') := ⟨sa', sc', rfl, by rw [← hu]; exact hrr⟩
    obtain ⟨⟨u, ⟨⟨pr, bu, pe, dp⟩, ⟨L, last⟩⟩⟩, hx2⟩ : ∃ y, ps[i] = y := ⟨_, rfl⟩
    rw [hx2] at c0 c1 c2 c3 hra hb1 hb2 hsi hsl
    simp only [] at c0 c1 c2 c3 hra hb1 hb2 hsi hsl
    obtain ⟨N, hN⟩ : ∃ N, L.length = N := ⟨_, rfl⟩
    rw [hN] at c2 hra
    clear hrr hu
    by_cases hm : lf ≤ sl
    · have e : lf = x := by rw [← hx]; omega
      subst e
      have H_h := Lib.hid h; clear h; have H_hB := Lib.hid hB; clear hB; have H_hQ := Lib.hid hQ; clear hQ; have H_hI := Lib.hid hI; clear hI; have H_hx := Lib.hid hx; clear hx; have H_hn := Lib.hid hn; clear hn; have H_hq := Lib.hid hq; clear hq; have H_hBl := Lib.hid hBl; clear hBl; have H_hsr := Lib.hid hsr; clear hsr; have H_hrq := Lib.hid hrq; clear hrq; have H_hlf := Lib.hid hlf; clear hlf; have H_hra := Lib.hid hra; clear hra; have H_hx2 := Lib.hid hx2; clear hx2; have H_hsi := Lib.hid hsi; clear hsi; have H_hsl := Lib.hid hsl; clear hsl; have H_hBi := Lib.hid hBi; clear hBi; have H_hpe := Lib.hid hpe; clear hpe; have H_hpr := Lib.hid hpr; clear hpr; have H_his := Lib.hid his; clear his; have H_hN := Lib.hid hN; clear hN
      go_enter Try.func45, Try.ntmps45
      go_upto_region 3 with ((go_at_call 58; (with_reducible refine (rb_able i (H_h.out.grows (by (repeat' (first | (with_reducible exact Vg.Grows.refl _) | (with_reducible assumption) | (with_reducible refine Vg.Grows.alloc ?_ _) | (with_reducible refine Vg.Grows.plus ?_ _ _) | (with_reducible refine Vg.Grows.drewN ?_ _) | (with_reducible refine Vg.Grows.drew ?_) | (with_reducible refine Vg.Grows.setCell ?_ ?_ _) | (with_reducible refine Vg.Grows.put ?_ ?_ _) | omega | (simp; omega) | (simp; done))))) H_hB.out H_hQ.out H_hI.out H_his.out).mono ?_); rintro e w1 ⟨rfl, x1, n1, rfl⟩))
      go_region_held3 (fun w' => w.heap.size < w'.heap.size ∧ g < w.heap.size ∧ w'.cell? ⟨w.heap.size, 1, none⟩ = some (.slice (some ⟨g, o, none⟩) n sc) ∧ w'.cell? ⟨w.heap.size, 2, none⟩ = some (.slice wa q wc) ∧ w'.cell? ⟨g, o + i * 4, none⟩ = some (.int .i64 bu) ∧ w'.cell? ⟨g, o + i * 4 + 1, none⟩ = some (.int .i64 pe) ∧ w'.cell? ⟨g, o + i * 4 + 2, none⟩ = some (.slice sa' N sc') ∧ w'.cell? ⟨g, o + i * 4 + 3, none⟩ = some (.int .i64 last))
        ((go_split_ands; (try dsimp only); go_simp))
        (first | (go_at_call 18; (with_reducible refine (rq_leftz (H_hrq.out.grows (by (repeat' (first | (with_reducible exact Vg.Grows.refl _) | (with_reducible assumption) | (with_reducible refine Vg.Grows.alloc ?_ _) | (with_reducible refine Vg.Grows.plus ?_ _ _) | (with_reducible refine Vg.Grows.drewN ?_ _) | (with_reducible refine Vg.Grows.drew ?_) | (with_reducible refine Vg.Grows.setCell ?_ ?_ _) | (with_reducible refine Vg.Grows.put ?_ ?_ _) | omega | (simp; omega) | (simp; done))))) H_hQ.out H_hlf.out).mono ?_); rintro e w2 ⟨rfl, rfl⟩) | (go_at_call 101; (with_reducible refine (ra_leftz (H_hra.out.grows (by (repeat' (first | (with_reducible exact Vg.Grows.refl _) | (with_reducible assumption) | (with_reducible refine Vg.Grows.alloc ?_ _) | (with_reducible refine Vg.Grows.plus ?_ _ _) | (with_reducible refine Vg.Grows.drewN ?_ _) | (with_reducible refine Vg.Grows.drew ?_) | (with_reducible refine Vg.Grows.setCell ?_ ?_ _) | (with_reducible refine Vg.Grows.put ?_ ?_ _) | omega | (simp; omega) | (simp; done))))) H_hsi.out ⟨hb1, hb2⟩ H_hsl.out).mono ?_); rintro e w3 ⟨rfl, x3, n3, rfl⟩))
      all_goals go_wp2_with fail
      all_goals go_ret
      all_goals exact ⟨rfl, by (repeat' (first | (with_reducible exact Vg.Grows.refl _) | (with_reducible assumption) | (with_reducible refine Vg.Grows.alloc ?_ _) | (with_reducible refine Vg.Grows.plus ?_ _ _) | (with_reducible refine Vg.Grows.drewN ?_ _) | (with_reducible refine Vg.Grows.drew ?_) | (with_reducible refine Vg.Grows.setCell ?_ ?_ _) | (with_reducible refine Vg.Grows.put ?_ ?_ _) | omega | (simp; omega) | (simp; done)))⟩
    · have e : sl = x := by rw [← hx]; omega
      subst e
      have H_h := Lib.hid h; clear h; have H_hB := Lib.hid hB; clear hB; have H_hQ := Lib.hid hQ; clear hQ; have H_hI := Lib.hid hI; clear hI; have H_hx := Lib.hid hx; clear hx; have H_hn := Lib.hid hn; clear hn; have H_hq := Lib.hid hq; clear hq; have H_hBl := Lib.hid hBl; clear hBl; have H_hsr := Lib.hid hsr; clear hsr; have H_hrq := Lib.hid hrq; clear hrq; have H_hlf := Lib.hid hlf; clear hlf; have H_hra := Lib.hid hra; clear hra; have H_hx2 := Lib.hid hx2; clear hx2; have H_hsi := Lib.hid hsi; clear hsi; have H_hsl := Lib.hid hsl; clear hsl; have H_hBi := Lib.hid hBi; clear hBi; have H_hpe := Lib.hid hpe; clear hpe; have H_hpr := Lib.hid hpr; clear hpr; have H_his := Lib.hid his; clear his; have H_hN := Lib.hid hN; clear hN
      go_enter Try.func45, Try.ntmps45
      go_upto_region 3 with ((go_at_call 58; (with_reducible refine (rb_able i (H_h.out.grows (by (repeat' (first | (with_reducible exact Vg.Grows.refl _) | (with_reducible assumption) | (with_reducible refine Vg.Grows.alloc ?_ _) | (with_reducible refine Vg.Grows.plus ?_ _ _) | (with_reducible refine Vg.Grows.drewN ?_ _) | (with_reducible refine Vg.Grows.drew ?_) | (with_reducible refine Vg.Grows.setCell ?_ ?_ _) | (with_reducible refine Vg.Grows.put ?_ ?_ _) | omega | (simp; omega) | (simp; done))))) H_hB.out H_hQ.out H_hI.out H_his.out).mono ?_); rintro e w1 ⟨rfl, x1, n1, rfl⟩))
      go_region_held3 (fun w' => w.heap.size < w'.heap.size ∧ g < w.heap.size ∧ w'.cell? ⟨w.heap.size, 1, none⟩ = some (.slice (some ⟨g, o, none⟩) n sc) ∧ w'.cell? ⟨w.heap.size, 2, none⟩ = some (.slice wa q wc) ∧ w'.cell? ⟨g, o + i * 4, none⟩ = some (.int .i64 bu) ∧ w'.cell? ⟨g, o + i * 4 + 1, none⟩ = some (.int .i64 pe) ∧ w'.cell? ⟨g, o + i * 4 + 2, none⟩ = some (.slice sa' N sc') ∧ w'.cell? ⟨g, o + i * 4 + 3, none⟩ = some (.int .i64 last))
        ((go_split_ands; (try dsimp only); go_simp))
        (first | (go_at_call 18; (with_reducible refine (rq_leftz (H_hrq.out.grows (by (repeat' (first | (with_reducible exact Vg.Grows.refl _) | (with_reducible assumption) | (with_reducible refine Vg.Grows.alloc ?_ _) | (with_reducible refine Vg.Grows.plus ?_ _ _) | (with_reducible refine Vg.Grows.drewN ?_ _) | (with_reducible refine Vg.Grows.drew ?_) | (with_reducible refine Vg.Grows.setCell ?_ ?_ _) | (with_reducible refine Vg.Grows.put ?_ ?_ _) | omega | (simp; omega) | (simp; done))))) H_hQ.out H_hlf.out).mono ?_); rintro e w2 ⟨rfl, rfl⟩) | (go_at_call 101; (with_reducible refine (ra_leftz (H_hra.out.grows (by (repeat' (first | (with_reducible exact Vg.Grows.refl _) | (with_reducible assumption) | (with_reducible refine Vg.Grows.alloc ?_ _) | (with_reducible refine Vg.Grows.plus ?_ _ _) | (with_reducible refine Vg.Grows.drewN ?_ _) | (with_reducible refine Vg.Grows.drew ?_) | (with_reducible refine Vg.Grows.setCell ?_ ?_ _) | (with_reducible refine Vg.Grows.put ?_ ?_ _) | omega | (simp; omega) | (simp; done))))) H_hsi.out ⟨hb1, hb2⟩ H_hsl.out).mono ?_); rintro e w3 ⟨rfl, x3, n3, rfl⟩))
      all_goals go_wp2_with fail
      all_goals go_ret
      all_goals exact ⟨rfl, by (repeat' (first | (with_reducible exact Vg.Grows.refl _) | (with_reducible assumption) | (with_reducible refine Vg.Grows.alloc ?_ _) | (with_reducible refine Vg.Grows.plus ?_ _ _) | (with_reducible refine Vg.Grows.drewN ?_ _) | (with_reducible refine Vg.Grows.drew ?_) | (with_reducible refine Vg.Grows.setCell ?_ ?_ _) | (with_reducible refine Vg.Grows.put ?_ ?_ _) | omega | (simp; omega) | (simp; done)))⟩
end
end Go.Proofs.Ytiinhofmhoplfaa
namespace Vg
open Go
/-- Where the pick stands after k threads. -/
def Bo.J (Bs : List Bp) (Q : List Wq) (k b : Nat) (bi : Bool) : Prop :=
  (bi = false ∧ b = 0 ∧ Bo.pk Bs (Bo.ables Bs Q k) (-1, -1) = (-1, -1)) ∨ (bi = true ∧ b < Bs.length ∧ Bo.pk Bs (Bo.ables Bs Q k) (-1, -1) = ((b : Int), Bo.prio Bs b))
section
variable {Bs : List Bp} {Q : List Wq} {k b : Nat} {bi : Bool}
theorem Bo.J.start : Bo.J Bs Q 0 0 false := .inl ⟨rfl, rfl, rfl⟩
theorem Bo.J.skip (h : Bo.J Bs Q k b bi) (ha : Bo.able Bs Q k = false) : Bo.J Bs Q (k + 1) b bi := by
  unfold Bo.J at h ⊢
  rw [Bo.ables_succ, Bo.ableK_eq, ha]
  simpa using h
theorem Bo.J.take (h : Bo.J Bs Q k b bi) (hp : ∀ x ∈ Bs, 0 ≤ x.t.pr) (hk : k < Bs.length) (ha : Bo.able Bs Q k = true) (hc : bi = false ∨ Bo.prio Bs b < Bo.prio Bs k) : Bo.J Bs Q (k + 1) k true := by
  unfold Bo.J at h ⊢
  rw [Bo.ables_succ, Bo.ableK_eq, ha, if_pos rfl, Bo.pk_snoc]
  have hpk : 0 ≤ Bo.prio Bs k := by
    unfold Bo.prio
    rw [List.getElem?_eq_getElem hk]
    exact hp _ (List.getElem_mem hk)
  refine .inr ⟨rfl, hk, if_pos ?_⟩
  rcases h with ⟨_, _, h3⟩ | ⟨h1, _, h3⟩
  · rw [h3]; show (-1 : Int) < _; omega
  · rw [h3]
    rcases hc with hc | hc
    · rw [h1] at hc; cases hc
    · exact hc
theorem Bo.J.keep (h : Bo.J Bs Q k b true) (ha : Bo.able Bs Q k = true) (hc : ¬ Bo.prio Bs b < Bo.prio Bs k) : Bo.J Bs Q (k + 1) b true := by
  unfold Bo.J at h ⊢
  rw [Bo.ables_succ, Bo.ableK_eq, ha, if_pos rfl, Bo.pk_snoc]
  rcases h with ⟨h1, _, _⟩ | ⟨_, h2, h3⟩
  · cases h1
  · refine .inr ⟨rfl, h2, ?_⟩
    rw [h3, if_neg hc]
theorem Bo.J.lt (h : Bo.J Bs Q k b true) : b < Bs.length := by
  rcases h with ⟨h1, _, _⟩ | ⟨_, h2, _⟩
  · cases h1
  · exact h2
theorem Bo.J.done (h : Bo.J Bs Q Bs.length b bi) {r m : Int} {is : Bool} (hr : Bo.best Bs Q = r) (hm : max r 0 = m) (his : decide (0 ≤ r) = is) : (b : Int) = m ∧ bi = is := by
  unfold Bo.best at hr
  rcases h with ⟨h1, h2, h3⟩ | ⟨h1, h2, h3⟩
  · rw [h3] at hr
    have hr : (-1 : Int) = r := hr
    subst hr h1 h2 hm his
    exact ⟨rfl, rfl⟩
  · rw [h3] at hr
    have hr : (b : Int) = r := hr
    subst hr h1 hm his
    exact ⟨by omega, by simp⟩
end
end Vg
namespace Go.Proofs.Ytiinhofmhoplfaa
open Go.ChangeShapes Go.WideShapes Go.ChangeAt Go.RowKit
abbrev athC (t : Vg.Th) : Obj := .cells #[.int .i64 t.pr, .int .i64 t.bu, .int .i64 t.pe, .int .i64 t.dp] 102
section
variable {w w' : World} {S S' : Nat → Prop} {v : Value} {ps : List Vg.Sp} {rs : List Vg.Wp} {Bs : List Vg.Bp} {Q Q' : List Vg.Wq} {k n q : Nat} {is : Bool} {x r m : Int} {ta sa wa : Option Addr} {tc sc wc : Nat}
theorem rb_pick (h : RB S w v ps rs) (hB : ps.map (·.2) = Bs) (hQ : rs.map (·.2) = Q) (hI : Vg.Bo.Inv k Bs Q) (hr : Vg.Bo.best Bs Q = r) (hmx : max r 0 = m) (his : decide (0 ≤ r) = is) :
    Calls Try.prog 54 #[v] w fun e w' => e = .returned (.tuple #[.int .i64 m, .bool is]) ∧ Vg.Grows w w' := by
  obtain ⟨ta, tc, sa, sc, wa, wc, rfl, t1, t2⟩ := h.shape
  obtain ⟨n, hn⟩ : ∃ n, ps.length = n := ⟨_, rfl⟩
  obtain ⟨q, hq⟩ : ∃ q, rs.length = q := ⟨_, rfl⟩
  have hBl : Bs.length = n := by rw [← hB, List.length_map]; exact hn
  have hPB : ∀ x ∈ Bs, 0 ≤ x.t.pr := fun x hx => (hI.each x hx).2.2.1.1
  rw [hn, hq] at h
  rw [hn] at t1 ⊢
  rw [hq]
  obtain ⟨-, -, htr, -, -, -⟩ := h.parts
  have htl : ps.map (·.2.t) = Bs.map (·.t) := by rw [← hB, List.map_map]; rfl
  rw [htl] at htr
  have H_h := Lib.hid h; clear h; have H_hB := Lib.hid hB; clear hB; have H_hQ := Lib.hid hQ; clear hQ; have H_hI := Lib.hid hI; clear hI; have H_hr := Lib.hid hr; clear hr; have H_hmx := Lib.hid hmx; clear hmx; have H_his := Lib.hid his; clear his; have H_hn := Lib.hid hn; clear hn; have H_hq := Lib.hid hq; clear hq; have H_hBl := Lib.hid hBl; clear hBl; have H_hPB := Lib.hid hPB; clear hPB; have H_htr := Lib.hid htr; clear htr; have H_htl := Lib.hid htl; clear htl
  go_enter Try.func54, Try.ntmps54
  go_wp2_with fail
  go_loopw [4, 5, 11] (fun vb vi i wr => ∃ (j b : Nat) (bi : Bool), j ≤ n ∧ i = .int .i64 j ∧ vb = .int .i64 b ∧ vi = .bool bi ∧ Vg.Bo.J Bs Q j b bi ∧ Vg.Grows (w.alloc (rbC (.slice ta n tc) (.slice sa n sc) (.slice wa q wc))) wr) (fun _ _ i _ => n - (intOf i).toNat)
  case atStart => exact ⟨0, 0, false, by omega, rfl, rfl, rfl, Vg.Bo.J.start, by (repeat' (first | (with_reducible exact Vg.Grows.refl _) | (with_reducible assumption) | (with_reducible refine Vg.Grows.alloc ?_ _) | (with_reducible refine Vg.Grows.plus ?_ _ _) | (with_reducible refine Vg.Grows.drewN ?_ _) | (with_reducible refine Vg.Grows.drew ?_) | (with_reducible refine Vg.Grows.setCell ?_ ?_ _) | (with_reducible refine Vg.Grows.put ?_ ?_ _) | omega | (simp; omega) | (simp; done)))⟩
  case round =>
    obtain ⟨j, b, bi, hj, rfl, rfl, rfl, hJ, hgr⟩ := hrel
    have B1 := hgr.blk (Vg.alloc_heap_at rfl)
    have hg0 : Vg.Grows w wr := Vg.Grows.trans (by (repeat' (first | (with_reducible exact Vg.Grows.refl _) | (with_reducible assumption) | (with_reducible refine Vg.Grows.alloc ?_ _) | (with_reducible refine Vg.Grows.plus ?_ _ _) | (with_reducible refine Vg.Grows.drewN ?_ _) | (with_reducible refine Vg.Grows.drew ?_) | (with_reducible refine Vg.Grows.setCell ?_ ?_ _) | (with_reducible refine Vg.Grows.put ?_ ?_ _) | omega | (simp; omega) | (simp; done)))) hgr
    have hF := H_h.out.grows hg0
    by_cases hlt : j < n
    · have hjB : j < Bs.length := by rw [H_hBl.out]; exact hlt
      obtain ⟨g, off, rfl, hg, c0, c1, c2, c3⟩ := H_htr.out.2.2 j (by simpa using hjB)
      simp only [List.getElem_map] at c0 c1 c2 c3
      have c0 := (hg0.below.cell (p := ⟨g, off + j * 4, none⟩) hg).trans c0
      have c1 := (hg0.below.cell (p := ⟨g, off + j * 4 + 1, none⟩) hg).trans c1
      have c2 := (hg0.below.cell (p := ⟨g, off + j * 4 + 2, none⟩) hg).trans c2
      have c3 := (hg0.below.cell (p := ⟨g, off + j * 4 + 3, none⟩) hg).trans c3
      have hgl : g < wr.heap.size := Nat.lt_of_lt_of_le hg hg0.size
      obtain ⟨⟨pr, bu, pe, dp⟩, hxt⟩ : ∃ x, Bs[j].t = x := ⟨_, rfl⟩
      rw [hxt] at c0 c1 c2 c3
      simp only [] at c0 c1 c2 c3
      have hpj : Vg.Bo.prio Bs j = pr := by unfold Vg.Bo.prio; rw [List.getElem?_eq_getElem hjB]; show Bs[j].t.pr = pr; rw [hxt]
      obtain ⟨ab, hab⟩ : ∃ b, Vg.Bo.able Bs Q j = b := ⟨_, rfl⟩
      have c_B1 := Vg.cells_of B1; have f_B1 := Vg.frozen_of B1; have p_B1 := Vg.setCell_of B1; have l_B1 := Vg.lt_of B1; have H_B1 := Lib.hid B1; clear B1
      cases ab with
      | false =>
        have hJ2 := hJ.skip hab
        have H_hF := Lib.hid hF; clear hF; have H_hxt := Lib.hid hxt; clear hxt; have H_hab := Lib.hid hab; clear hab; have H_hJ := Lib.hid hJ; clear hJ; have H_hJ2 := Lib.hid hJ2; clear hJ2; have H_hpj := Lib.hid hpj; clear hpj; have H_hgr := Lib.hid hgr; clear hgr
        go_upto_region 5 with fail
        refine wp_region_held_drew (S := fun w' => w.heap.size < w'.heap.size ∧ wr.heap.size < w'.heap.size ∧ w'.cell? ⟨w.heap.size, 0, none⟩ = some (.slice (some ⟨g, off, none⟩) n tc) ∧ w'.cell? ⟨w.heap.size, 1, none⟩ = some (.slice sa n sc) ∧ w'.cell? ⟨w.heap.size, 2, none⟩ = some (.slice wa q wc) ∧ w'.cell? ⟨wr.heap.size, 0, none⟩ = some (.int .i64 pr)) (by kernel_rfl) (by go_split_ands <;> (try dsimp only) <;> go_simp) (fun hHeld => ?_)
        refine wpAnyH_take (i := 0) (oi := _) (v := ?v1) rfl (by kernel_rfl) (by kernel_rfl) (by kernel_rfl) (fun _ _ _ h => h) (Or.inl ⟨by rfl, ?hy1⟩) (by assumption) ?rest1
        case hy1 => (intro w hSw; (try dsimp only at hSw); go_simp; first | done | with_reducible rfl)
        (try simp only [List.getElem_toArray, List.getElem_cons_succ, List.getElem_cons_zero, Act.put, List.setIfInBounds_toArray, List.set_cons_zero, List.set_cons_succ])
        refine wpAnyH_take (i := 1) (oi := _) (v := ?v2) rfl (by kernel_rfl) (by kernel_rfl) (by kernel_rfl) (fun _ _ _ h => h) (Or.inl ⟨by rfl, ?hy2⟩) (by assumption) ?rest2
        case hy2 => (intro w hSw; (try dsimp only at hSw); go_simp; first | done | with_reducible rfl)
        (try simp only [List.getElem_toArray, List.getElem_cons_succ, List.getElem_cons_zero, Act.put, List.setIfInBounds_toArray, List.set_cons_zero, List.set_cons_succ])
        refine wpAnyH_ready (rs := [2]) (by kernel_rfl) (by simp) ?_
        refine AllReadyH.cons (o := _) rfl (fun K hK => ?st3) ?mo3
        case st3 =>
          go_simp
          ((go_at_call 58; (with_reducible refine (rb_able j (H_hF.out.grows (by (repeat' (first | (with_reducible exact Vg.Grows.refl _) | (with_reducible assumption) | (with_reducible refine Vg.Grows.alloc ?_ _) | (with_reducible refine Vg.Grows.plus ?_ _ _) | (with_reducible refine Vg.Grows.drewN ?_ _) | (with_reducible refine Vg.Grows.drew ?_) | (with_reducible refine Vg.Grows.setCell ?_ ?_ _) | (with_reducible refine Vg.Grows.put ?_ ?_ _) | omega | (simp; omega) | (simp; done))))) H_hB.out H_hQ.out H_hI.out H_hab.out).mono ?_); rintro e w1 ⟨rfl, x1, n1, rfl⟩))
          all_goals (try go_wp2_with fail)
          refine hK.out _ _ (by go_split_ands <;> (try dsimp only) <;> go_simp) (fun hHeld3 => ?_)
          clear hK K
          (try simp only [List.getElem_toArray, List.getElem_cons_succ, List.getElem_cons_zero, Act.put, List.setIfInBounds_toArray, List.set_cons_zero, List.set_cons_succ])
          refine wpAnyH_take (i := 3) (oi := _) (v := ?v4) rfl (by kernel_rfl) (by kernel_rfl) (by kernel_rfl) (fun _ _ _ h => h) (Or.inl ⟨by rfl, ?hy4⟩) (by assumption) ?rest4
          case hy4 => (intro w hSw; (try dsimp only at hSw); go_simp; first | done | with_reducible rfl)
          (try simp only [List.getElem_toArray, List.getElem_cons_succ, List.getElem_cons_zero, Act.put, List.setIfInBounds_toArray, List.set_cons_zero, List.set_cons_succ])
          refine wpAnyH_take (i := 4) (oi := _) (v := undef) rfl (by kernel_rfl) (by kernel_rfl) (by kernel_rfl) (fun _ _ _ h => h) (Or.inr ⟨by kernel_rfl, rfl⟩) (by assumption) ?rest5
          (try simp only [List.getElem_toArray, List.getElem_cons_succ, List.getElem_cons_zero, Act.put, List.setIfInBounds_toArray, List.set_cons_zero, List.set_cons_succ])
          refine wpAnyH_take (i := 5) (oi := _) (v := undef) rfl (by kernel_rfl) (by kernel_rfl) (by kernel_rfl) (fun _ _ _ h => h) (Or.inr ⟨by kernel_rfl, rfl⟩) (by assumption) ?rest6
          (try simp only [List.getElem_toArray, List.getElem_cons_succ, List.getElem_cons_zero, Act.put, List.setIfInBounds_toArray, List.set_cons_zero, List.set_cons_succ])
          refine wpAnyH_take (i := 6) (oi := _) (v := undef) rfl (by kernel_rfl) (by kernel_rfl) (by kernel_rfl) (fun _ _ _ h => h) (Or.inr ⟨by kernel_rfl, rfl⟩) (by assumption) ?rest7
          (try simp only [List.getElem_toArray, List.getElem_cons_succ, List.getElem_cons_zero, Act.put, List.setIfInBounds_toArray, List.set_cons_zero, List.set_cons_succ])
          refine wpAnyH_take (i := 7) (oi := _) (v := undef) rfl (by kernel_rfl) (by kernel_rfl) (by kernel_rfl) (fun _ _ _ h => h) (Or.inr ⟨by kernel_rfl, rfl⟩) (by assumption) ?rest8
          (try simp only [List.getElem_toArray, List.getElem_cons_succ, List.getElem_cons_zero, Act.put, List.setIfInBounds_toArray, List.set_cons_zero, List.set_cons_succ])
          refine wpAnyH_take (i := 8) (oi := _) (v := undef) rfl (by kernel_rfl) (by kernel_rfl) (by kernel_rfl) (fun _ _ _ h => h) (Or.inr ⟨by kernel_rfl, rfl⟩) (by assumption) ?rest9
          (try simp only [List.getElem_toArray, List.getElem_cons_succ, List.getElem_cons_zero, Act.put, List.setIfInBounds_toArray, List.set_cons_zero, List.set_cons_succ])
          refine wpAnyH_take (i := 9) (oi := _) (v := undef) rfl (by kernel_rfl) (by kernel_rfl) (by kernel_rfl) (fun _ _ _ h => h) (Or.inr ⟨by kernel_rfl, rfl⟩) (by assumption) ?rest10
          (try simp only [List.getElem_toArray, List.getElem_cons_succ, List.getElem_cons_zero, Act.put, List.setIfInBounds_toArray, List.set_cons_zero, List.set_cons_succ])
          refine wpAnyH_take (i := 10) (oi := _) (v := undef) rfl (by kernel_rfl) (by kernel_rfl) (by kernel_rfl) (fun _ _ _ h => h) (Or.inr ⟨by kernel_rfl, rfl⟩) (by assumption) ?rest11
          (try simp only [List.getElem_toArray, List.getElem_cons_succ, List.getElem_cons_zero, Act.put, List.setIfInBounds_toArray, List.set_cons_zero, List.set_cons_succ])
          refine wpAnyH_take (i := 11) (oi := _) (v := undef) rfl (by kernel_rfl) (by kernel_rfl) (by kernel_rfl) (fun _ _ _ h => h) (Or.inr ⟨by kernel_rfl, rfl⟩) (by assumption) ?rest12
          (try simp only [List.getElem_toArray, List.getElem_cons_succ, List.getElem_cons_zero, Act.put, List.setIfInBounds_toArray, List.set_cons_zero, List.set_cons_succ])
          refine wpAnyH_take (i := 12) (oi := _) (v := undef) rfl (by kernel_rfl) (by kernel_rfl) (by kernel_rfl) (fun _ _ _ h => h) (Or.inr ⟨by kernel_rfl, rfl⟩) (by assumption) ?rest13
          (try simp only [List.getElem_toArray, List.getElem_cons_succ, List.getElem_cons_zero, Act.put, List.setIfInBounds_toArray, List.set_cons_zero, List.set_cons_succ])
          refine wpAnyH_take (i := 13) (oi := _) (v := undef) rfl (by kernel_rfl) (by kernel_rfl) (by kernel_rfl) (fun _ _ _ h => h) (Or.inr ⟨by kernel_rfl, rfl⟩) (by assumption) ?rest14
          (try simp only [List.getElem_toArray, List.getElem_cons_succ, List.getElem_cons_zero, Act.put, List.setIfInBounds_toArray, List.set_cons_zero, List.set_cons_succ])
          refine wpAnyH_take (i := 14) (oi := _) (v := undef) rfl (by kernel_rfl) (by kernel_rfl) (by kernel_rfl) (fun _ _ _ h => h) (Or.inr ⟨by kernel_rfl, rfl⟩) (by assumption) ?rest15
          (try simp only [List.getElem_toArray, List.getElem_cons_succ, List.getElem_cons_zero, Act.put, List.setIfInBounds_toArray, List.set_cons_zero, List.set_cons_succ])
          refine wpAnyH_take (i := 15) (oi := _) (v := undef) rfl (by kernel_rfl) (by kernel_rfl) (by kernel_rfl) (fun _ _ _ h => h) (Or.inr ⟨by kernel_rfl, rfl⟩) (by assumption) ?rest16
          (try simp only [List.getElem_toArray, List.getElem_cons_succ, List.getElem_cons_zero, Act.put, List.setIfInBounds_toArray, List.set_cons_zero, List.set_cons_succ])
          refine wpAnyH_take (i := 16) (oi := _) (v := undef) rfl (by kernel_rfl) (by kernel_rfl) (by kernel_rfl) (fun _ _ _ h => h) (Or.inr ⟨by kernel_rfl, rfl⟩) (by assumption) ?rest17
          (try simp only [List.getElem_toArray, List.getElem_cons_succ, List.getElem_cons_zero, Act.put, List.setIfInBounds_toArray, List.set_cons_zero, List.set_cons_succ])
          refine wpAnyH_take (i := 17) (oi := _) (v := ?v18) rfl (by kernel_rfl) (by kernel_rfl) (by kernel_rfl) (fun _ _ _ h => h) (Or.inl ⟨by rfl, ?hy18⟩) (by assumption) ?rest18
          case hy18 => (intro w hSw; (try dsimp only at hSw); go_simp; first | done | with_reducible rfl)
          (try simp only [List.getElem_toArray, List.getElem_cons_succ, List.getElem_cons_zero, Act.put, List.setIfInBounds_toArray, List.set_cons_zero, List.set_cons_succ])
          refine wpAnyH_done (by kernel_rfl) ?_ _
          go_wp2_with fail
          exact ⟨⟨j + 1, b, bi, by omega, by go_num, rfl, rfl, H_hJ2.out, Vg.Grows.trans H_hgr.out (by (repeat' (first | (with_reducible exact Vg.Grows.refl _) | (with_reducible assumption) | (with_reducible refine Vg.Grows.alloc ?_ _) | (with_reducible refine Vg.Grows.plus ?_ _ _) | (with_reducible refine Vg.Grows.drewN ?_ _) | (with_reducible refine Vg.Grows.drew ?_) | (with_reducible refine Vg.Grows.setCell ?_ ?_ _) | (with_reducible refine Vg.Grows.put ?_ ?_ _) | omega | (simp; omega) | (simp; done))))⟩, by simp [intOf]; omega⟩
        exact AllReadyH.nil
      | true =>
        cases bi with
        | false =>
          have hJ2 := hJ.take H_hPB.out hjB hab (.inl rfl)
          have H_hF := Lib.hid hF; clear hF; have H_hxt := Lib.hid hxt; clear hxt; have H_hab := Lib.hid hab; clear hab; have H_hJ := Lib.hid hJ; clear hJ; have H_hJ2 := Lib.hid hJ2; clear hJ2; have H_hpj := Lib.hid hpj; clear hpj; have H_hgr := Lib.hid hgr; clear hgr
          go_upto_region 5 with fail
          refine wp_region_held_drew (S := fun w' => w.heap.size < w'.heap.size ∧ wr.heap.size < w'.heap.size ∧ w'.cell? ⟨w.heap.size, 0, none⟩ = some (.slice (some ⟨g, off, none⟩) n tc) ∧ w'.cell? ⟨w.heap.size, 1, none⟩ = some (.slice sa n sc) ∧ w'.cell? ⟨w.heap.size, 2, none⟩ = some (.slice wa q wc) ∧ w'.cell? ⟨wr.heap.size, 0, none⟩ = some (.int .i64 pr)) (by kernel_rfl) (by go_split_ands <;> (try dsimp only) <;> go_simp) (fun hHeld => ?_)
          refine wpAnyH_take (i := 0) (oi := _) (v := ?v19) rfl (by kernel_rfl) (by kernel_rfl) (by kernel_rfl) (fun _ _ _ h => h) (Or.inl ⟨by rfl, ?hy19⟩) (by assumption) ?rest19
          case hy19 => (intro w hSw; (try dsimp only at hSw); go_simp; first | done | with_reducible rfl)
          (try simp only [List.getElem_toArray, List.getElem_cons_succ, List.getElem_cons_zero, Act.put, List.setIfInBounds_toArray, List.set_cons_zero, List.set_cons_succ])
          refine wpAnyH_take (i := 1) (oi := _) (v := ?v20) rfl (by kernel_rfl) (by kernel_rfl) (by kernel_rfl) (fun _ _ _ h => h) (Or.inl ⟨by rfl, ?hy20⟩) (by assumption) ?rest20
          case hy20 => (intro w hSw; (try dsimp only at hSw); go_simp; first | done | with_reducible rfl)
          (try simp only [List.getElem_toArray, List.getElem_cons_succ, List.getElem_cons_zero, Act.put, List.setIfInBounds_toArray, List.set_cons_zero, List.set_cons_succ])
          refine wpAnyH_ready (rs := [2]) (by kernel_rfl) (by simp) ?_
          refine AllReadyH.cons (o := _) rfl (fun K hK => ?st21) ?mo21
          case st21 =>
            go_simp
            ((go_at_call 58; (with_reducible refine (rb_able j (H_hF.out.grows (by (repeat' (first | (with_reducible exact Vg.Grows.refl _) | (with_reducible assumption) | (with_reducible refine Vg.Grows.alloc ?_ _) | (with_reducible refine Vg.Grows.plus ?_ _ _) | (with_reducible refine Vg.Grows.drewN ?_ _) | (with_reducible refine Vg.Grows.drew ?_) | (with_reducible refine Vg.Grows.setCell ?_ ?_ _) | (with_reducible refine Vg.Grows.put ?_ ?_ _) | omega | (simp; omega) | (simp; done))))) H_hB.out H_hQ.out H_hI.out H_hab.out).mono ?_); rintro e w1 ⟨rfl, x1, n1, rfl⟩))
            all_goals (try go_wp2_with fail)
            refine hK.out _ _ (by go_split_ands <;> (try dsimp only) <;> go_simp) (fun hHeld21 => ?_)
            clear hK K
            (try simp only [List.getElem_toArray, List.getElem_cons_succ, List.getElem_cons_zero, Act.put, List.setIfInBounds_toArray, List.set_cons_zero, List.set_cons_succ])
            refine wpAnyH_take (i := 3) (oi := _) (v := ?v22) rfl (by kernel_rfl) (by kernel_rfl) (by kernel_rfl) (fun _ _ _ h => h) (Or.inl ⟨by rfl, ?hy22⟩) (by assumption) ?rest22
            case hy22 => (intro w hSw; (try dsimp only at hSw); go_simp; first | done | with_reducible rfl)
            (try simp only [List.getElem_toArray, List.getElem_cons_succ, List.getElem_cons_zero, Act.put, List.setIfInBounds_toArray, List.set_cons_zero, List.set_cons_succ])
            refine wpAnyH_take (i := 4) (oi := _) (v := ?v23) rfl (by kernel_rfl) (by kernel_rfl) (by kernel_rfl) (fun _ _ _ h => h) (Or.inl ⟨by rfl, ?hy23⟩) (by assumption) ?rest23
            case hy23 => (intro w hSw; (try dsimp only at hSw); go_simp; first | done | with_reducible rfl)
            (try simp only [List.getElem_toArray, List.getElem_cons_succ, List.getElem_cons_zero, Act.put, List.setIfInBounds_toArray, List.set_cons_zero, List.set_cons_succ])
            refine wpAnyH_take (i := 5) (oi := _) (v := ?v24) rfl (by kernel_rfl) (by kernel_rfl) (by kernel_rfl) (fun _ _ _ h => h) (Or.inl ⟨by rfl, ?hy24⟩) (by assumption) ?rest24
            case hy24 => (intro w hSw; (try dsimp only at hSw); go_simp; first | done | with_reducible rfl)
            (try simp only [List.getElem_toArray, List.getElem_cons_succ, List.getElem_cons_zero, Act.put, List.setIfInBounds_toArray, List.set_cons_zero, List.set_cons_succ])
            refine wpAnyH_take (i := 6) (oi := _) (v := ?v25) rfl (by kernel_rfl) (by kernel_rfl) (by kernel_rfl) (fun _ _ _ h => h) (Or.inl ⟨by rfl, ?hy25⟩) (by assumption) ?rest25
            case hy25 => (intro w hSw; (try dsimp only at hSw); go_simp; first | done | with_reducible rfl)
            (try simp only [List.getElem_toArray, List.getElem_cons_succ, List.getElem_cons_zero, Act.put, List.setIfInBounds_toArray, List.set_cons_zero, List.set_cons_succ])
            refine wpAnyH_take (i := 7) (oi := _) (v := undef) rfl (by kernel_rfl) (by kernel_rfl) (by kernel_rfl) (fun _ _ _ h => h) (Or.inr ⟨by kernel_rfl, rfl⟩) (by assumption) ?rest26
            (try simp only [List.getElem_toArray, List.getElem_cons_succ, List.getElem_cons_zero, Act.put, List.setIfInBounds_toArray, List.set_cons_zero, List.set_cons_succ])
            refine wpAnyH_take (i := 8) (oi := _) (v := undef) rfl (by kernel_rfl) (by kernel_rfl) (by kernel_rfl) (fun _ _ _ h => h) (Or.inr ⟨by kernel_rfl, rfl⟩) (by assumption) ?rest27
            (try simp only [List.getElem_toArray, List.getElem_cons_succ, List.getElem_cons_zero, Act.put, List.setIfInBounds_toArray, List.set_cons_zero, List.set_cons_succ])
            refine wpAnyH_take (i := 9) (oi := _) (v := undef) rfl (by kernel_rfl) (by kernel_rfl) (by kernel_rfl) (fun _ _ _ h => h) (Or.inr ⟨by kernel_rfl, rfl⟩) (by assumption) ?rest28
            (try simp only [List.getElem_toArray, List.getElem_cons_succ, List.getElem_cons_zero, Act.put, List.setIfInBounds_toArray, List.set_cons_zero, List.set_cons_succ])
            refine wpAnyH_take (i := 10) (oi := _) (v := undef) rfl (by kernel_rfl) (by kernel_rfl) (by kernel_rfl) (fun _ _ _ h => h) (Or.inr ⟨by kernel_rfl, rfl⟩) (by assumption) ?rest29
            (try simp only [List.getElem_toArray, List.getElem_cons_succ, List.getElem_cons_zero, Act.put, List.setIfInBounds_toArray, List.set_cons_zero, List.set_cons_succ])
            refine wpAnyH_take (i := 11) (oi := _) (v := undef) rfl (by kernel_rfl) (by kernel_rfl) (by kernel_rfl) (fun _ _ _ h => h) (Or.inr ⟨by kernel_rfl, rfl⟩) (by assumption) ?rest30
            (try simp only [List.getElem_toArray, List.getElem_cons_succ, List.getElem_cons_zero, Act.put, List.setIfInBounds_toArray, List.set_cons_zero, List.set_cons_succ])
            refine wpAnyH_take (i := 12) (oi := _) (v := undef) rfl (by kernel_rfl) (by kernel_rfl) (by kernel_rfl) (fun _ _ _ h => h) (Or.inr ⟨by kernel_rfl, rfl⟩) (by assumption) ?rest31
            (try simp only [List.getElem_toArray, List.getElem_cons_succ, List.getElem_cons_zero, Act.put, List.setIfInBounds_toArray, List.set_cons_zero, List.set_cons_succ])
            refine wpAnyH_take (i := 13) (oi := _) (v := undef) rfl (by kernel_rfl) (by kernel_rfl) (by kernel_rfl) (fun _ _ _ h => h) (Or.inr ⟨by kernel_rfl, rfl⟩) (by assumption) ?rest32
            (try simp only [List.getElem_toArray, List.getElem_cons_succ, List.getElem_cons_zero, Act.put, List.setIfInBounds_toArray, List.set_cons_zero, List.set_cons_succ])
            refine wpAnyH_take (i := 14) (oi := _) (v := undef) rfl (by kernel_rfl) (by kernel_rfl) (by kernel_rfl) (fun _ _ _ h => h) (Or.inr ⟨by kernel_rfl, rfl⟩) (by assumption) ?rest33
            (try simp only [List.getElem_toArray, List.getElem_cons_succ, List.getElem_cons_zero, Act.put, List.setIfInBounds_toArray, List.set_cons_zero, List.set_cons_succ])
            refine wpAnyH_take (i := 15) (oi := _) (v := undef) rfl (by kernel_rfl) (by kernel_rfl) (by kernel_rfl) (fun _ _ _ h => h) (Or.inr ⟨by kernel_rfl, rfl⟩) (by assumption) ?rest34
            (try simp only [List.getElem_toArray, List.getElem_cons_succ, List.getElem_cons_zero, Act.put, List.setIfInBounds_toArray, List.set_cons_zero, List.set_cons_succ])
            refine wpAnyH_take (i := 16) (oi := _) (v := ?v35) rfl (by kernel_rfl) (by kernel_rfl) (by kernel_rfl) (fun _ _ _ h => h) (Or.inl ⟨by rfl, ?hy35⟩) (by assumption) ?rest35
            case hy35 => (intro w hSw; (try dsimp only at hSw); go_simp; first | done | with_reducible rfl)
            (try simp only [List.getElem_toArray, List.getElem_cons_succ, List.getElem_cons_zero, Act.put, List.setIfInBounds_toArray, List.set_cons_zero, List.set_cons_succ])
            refine wpAnyH_take (i := 17) (oi := _) (v := ?v36) rfl (by kernel_rfl) (by kernel_rfl) (by kernel_rfl) (fun _ _ _ h => h) (Or.inl ⟨by rfl, ?hy36⟩) (by assumption) ?rest36
            case hy36 => (intro w hSw; (try dsimp only at hSw); go_simp; first | done | with_reducible rfl)
            (try simp only [List.getElem_toArray, List.getElem_cons_succ, List.getElem_cons_zero, Act.put, List.setIfInBounds_toArray, List.set_cons_zero, List.set_cons_succ])
            refine wpAnyH_done (by kernel_rfl) ?_ _
            go_wp2_with fail
            exact ⟨⟨j + 1, j, true, by omega, by go_num, rfl, rfl, H_hJ2.out, Vg.Grows.trans H_hgr.out (by (repeat' (first | (with_reducible exact Vg.Grows.refl _) | (with_reducible assumption) | (with_reducible refine Vg.Grows.alloc ?_ _) | (with_reducible refine Vg.Grows.plus ?_ _ _) | (with_reducible refine Vg.Grows.drewN ?_ _) | (with_reducible refine Vg.Grows.drew ?_) | (with_reducible refine Vg.Grows.setCell ?_ ?_ _) | (with_reducible refine Vg.Grows.put ?_ ?_ _) | omega | (simp; omega) | (simp; done))))⟩, by simp [intOf]; omega⟩
          exact AllReadyH.nil
        | true =>
          have hbB := hJ.lt
          have hbn : b < n := by rw [← H_hBl.out]; exact hbB
          obtain ⟨g', off', he, hg', d0, -⟩ := H_htr.out.2.2 b (by simpa using hbB)
          simp only [Option.some.injEq, Addr.mk.injEq, and_true] at he
          obtain ⟨rfl, rfl⟩ := he
          rw [List.getElem_map] at d0
          have d0 := (hg0.below.cell (p := ⟨g, off + b * 4, none⟩) hg).trans d0
          obtain ⟨pb, hpb⟩ : ∃ x, Bs[b].t.pr = x := ⟨_, rfl⟩
          rw [hpb] at d0
          have hpb2 : Vg.Bo.prio Bs b = pb := by unfold Vg.Bo.prio; rw [List.getElem?_eq_getElem hbB]; exact hpb
          by_cases hlt2 : pb < pr
          · have hJ2 := hJ.take H_hPB.out hjB hab (.inr (by rw [hpb2, hpj]; exact hlt2))
            have H_hF := Lib.hid hF; clear hF; have H_hxt := Lib.hid hxt; clear hxt; have H_hab := Lib.hid hab; clear hab; have H_hJ := Lib.hid hJ; clear hJ; have H_hJ2 := Lib.hid hJ2; clear hJ2; have H_hpj := Lib.hid hpj; clear hpj; have H_hgr := Lib.hid hgr; clear hgr; have H_hpb := Lib.hid hpb; clear hpb; have H_hpb2 := Lib.hid hpb2; clear hpb2
            go_upto_region 5 with fail
            refine wp_region_held_drew (S := fun w' => w.heap.size < w'.heap.size ∧ wr.heap.size < w'.heap.size ∧ w'.cell? ⟨w.heap.size, 0, none⟩ = some (.slice (some ⟨g, off, none⟩) n tc) ∧ w'.cell? ⟨w.heap.size, 1, none⟩ = some (.slice sa n sc) ∧ w'.cell? ⟨w.heap.size, 2, none⟩ = some (.slice wa q wc) ∧ w'.cell? ⟨wr.heap.size, 0, none⟩ = some (.int .i64 pr) ∧ w'.cell? ⟨g, off + b * 4, none⟩ = some (.int .i64 pb)) (by kernel_rfl) (by go_split_ands <;> (try dsimp only) <;> go_simp) (fun hHeld => ?_)
            refine wpAnyH_take (i := 0) (oi := _) (v := ?v37) rfl (by kernel_rfl) (by kernel_rfl) (by kernel_rfl) (fun _ _ _ h => h) (Or.inl ⟨by rfl, ?hy37⟩) (by assumption) ?rest37
            case hy37 => (intro w hSw; (try dsimp only at hSw); go_simp; first | done | with_reducible rfl)
            (try simp only [List.getElem_toArray, List.getElem_cons_succ, List.getElem_cons_zero, Act.put, List.setIfInBounds_toArray, List.set_cons_zero, List.set_cons_succ])
            refine wpAnyH_take (i := 1) (oi := _) (v := ?v38) rfl (by kernel_rfl) (by kernel_rfl) (by kernel_rfl) (fun _ _ _ h => h) (Or.inl ⟨by rfl, ?hy38⟩) (by assumption) ?rest38
            case hy38 => (intro w hSw; (try dsimp only at hSw); go_simp; first | done | with_reducible rfl)
            (try simp only [List.getElem_toArray, List.getElem_cons_succ, List.getElem_cons_zero, Act.put, List.setIfInBounds_toArray, List.set_cons_zero, List.set_cons_succ])
            refine wpAnyH_ready (rs := [2]) (by kernel_rfl) (by simp) ?_
            refine AllReadyH.cons (o := _) rfl (fun K hK => ?st39) ?mo39
            case st39 =>
              go_simp
              ((go_at_call 58; (with_reducible refine (rb_able j (H_hF.out.grows (by (repeat' (first | (with_reducible exact Vg.Grows.refl _) | (with_reducible assumption) | (with_reducible refine Vg.Grows.alloc ?_ _) | (with_reducible refine Vg.Grows.plus ?_ _ _) | (with_reducible refine Vg.Grows.drewN ?_ _) | (with_reducible refine Vg.Grows.drew ?_) | (with_reducible refine Vg.Grows.setCell ?_ ?_ _) | (with_reducible refine Vg.Grows.put ?_ ?_ _) | omega | (simp; omega) | (simp; done))))) H_hB.out H_hQ.out H_hI.out H_hab.out).mono ?_); rintro e w1 ⟨rfl, x1, n1, rfl⟩))
              all_goals (try go_wp2_with fail)
              refine hK.out _ _ (by go_split_ands <;> (try dsimp only) <;> go_simp) (fun hHeld39 => ?_)
              clear hK K
              (try simp only [List.getElem_toArray, List.getElem_cons_succ, List.getElem_cons_zero, Act.put, List.setIfInBounds_toArray, List.set_cons_zero, List.set_cons_succ])
              refine wpAnyH_take (i := 3) (oi := _) (v := ?v40) rfl (by kernel_rfl) (by kernel_rfl) (by kernel_rfl) (fun _ _ _ h => h) (Or.inl ⟨by rfl, ?hy40⟩) (by assumption) ?rest40
              case hy40 => (intro w hSw; (try dsimp only at hSw); go_simp; first | done | with_reducible rfl)
              (try simp only [List.getElem_toArray, List.getElem_cons_succ, List.getElem_cons_zero, Act.put, List.setIfInBounds_toArray, List.set_cons_zero, List.set_cons_succ])
              refine wpAnyH_take (i := 4) (oi := _) (v := ?v41) rfl (by kernel_rfl) (by kernel_rfl) (by kernel_rfl) (fun _ _ _ h => h) (Or.inl ⟨by rfl, ?hy41⟩) (by assumption) ?rest41
              case hy41 => (intro w hSw; (try dsimp only at hSw); go_simp; first | done | with_reducible rfl)
              (try simp only [List.getElem_toArray, List.getElem_cons_succ, List.getElem_cons_zero, Act.put, List.setIfInBounds_toArray, List.set_cons_zero, List.set_cons_succ])
              refine wpAnyH_take (i := 5) (oi := _) (v := ?v42) rfl (by kernel_rfl) (by kernel_rfl) (by kernel_rfl) (fun _ _ _ h => h) (Or.inl ⟨by rfl, ?hy42⟩) (by assumption) ?rest42
              case hy42 => (intro w hSw; (try dsimp only at hSw); go_simp; first | done | with_reducible rfl)
              (try simp only [List.getElem_toArray, List.getElem_cons_succ, List.getElem_cons_zero, Act.put, List.setIfInBounds_toArray, List.set_cons_zero, List.set_cons_succ])
              refine wpAnyH_take (i := 6) (oi := _) (v := ?v43) rfl (by kernel_rfl) (by kernel_rfl) (by kernel_rfl) (fun _ _ _ h => h) (Or.inl ⟨by rfl, ?hy43⟩) (by assumption) ?rest43
              case hy43 => (intro w hSw; (try dsimp only at hSw); go_simp; first | done | with_reducible rfl)
              (try simp only [List.getElem_toArray, List.getElem_cons_succ, List.getElem_cons_zero, Act.put, List.setIfInBounds_toArray, List.set_cons_zero, List.set_cons_succ])
              refine wpAnyH_take (i := 7) (oi := _) (v := ?v44) rfl (by kernel_rfl) (by kernel_rfl) (by kernel_rfl) (fun _ _ _ h => h) (Or.inl ⟨by rfl, ?hy44⟩) (by assumption) ?rest44
              case hy44 => (intro w hSw; (try dsimp only at hSw); go_simp; first | done | with_reducible rfl)
              (try simp only [List.getElem_toArray, List.getElem_cons_succ, List.getElem_cons_zero, Act.put, List.setIfInBounds_toArray, List.set_cons_zero, List.set_cons_succ])
              refine wpAnyH_take (i := 8) (oi := _) (v := ?v45) rfl (by kernel_rfl) (by kernel_rfl) (by kernel_rfl) (fun _ _ _ h => h) (Or.inl ⟨by rfl, ?hy45⟩) (by assumption) ?rest45
              case hy45 => (intro w hSw; (try dsimp only at hSw); go_simp; first | done | with_reducible rfl)
              (try simp only [List.getElem_toArray, List.getElem_cons_succ, List.getElem_cons_zero, Act.put, List.setIfInBounds_toArray, List.set_cons_zero, List.set_cons_succ])
              refine wpAnyH_take (i := 9) (oi := _) (v := ?v46) rfl (by kernel_rfl) (by kernel_rfl) (by kernel_rfl) (fun _ _ _ h => h) (Or.inl ⟨by rfl, ?hy46⟩) (by assumption) ?rest46
              case hy46 => (intro w hSw; (try dsimp only at hSw); go_simp; first | done | with_reducible rfl)
              (try simp only [List.getElem_toArray, List.getElem_cons_succ, List.getElem_cons_zero, Act.put, List.setIfInBounds_toArray, List.set_cons_zero, List.set_cons_succ])
              refine wpAnyH_take (i := 10) (oi := _) (v := ?v47) rfl (by kernel_rfl) (by kernel_rfl) (by kernel_rfl) (fun _ _ _ h => h) (Or.inl ⟨by rfl, ?hy47⟩) (by assumption) ?rest47
              case hy47 => (intro w hSw; (try dsimp only at hSw); go_simp; first | done | with_reducible rfl)
              (try simp only [List.getElem_toArray, List.getElem_cons_succ, List.getElem_cons_zero, Act.put, List.setIfInBounds_toArray, List.set_cons_zero, List.set_cons_succ])
              refine wpAnyH_take (i := 11) (oi := _) (v := ?v48) rfl (by kernel_rfl) (by kernel_rfl) (by kernel_rfl) (fun _ _ _ h => h) (Or.inl ⟨by rfl, ?hy48⟩) (by assumption) ?rest48
              case hy48 => (intro w hSw; (try dsimp only at hSw); go_simp; first | done | with_reducible rfl)
              (try simp only [List.getElem_toArray, List.getElem_cons_succ, List.getElem_cons_zero, Act.put, List.setIfInBounds_toArray, List.set_cons_zero, List.set_cons_succ])
              refine wpAnyH_take (i := 12) (oi := _) (v := ?v49) rfl (by kernel_rfl) (by kernel_rfl) (by kernel_rfl) (fun _ _ _ h => h) (Or.inl ⟨by rfl, ?hy49⟩) (by assumption) ?rest49
              case hy49 => (intro w hSw; (try dsimp only at hSw); go_simp; first | done | with_reducible rfl)
              (try simp only [List.getElem_toArray, List.getElem_cons_succ, List.getElem_cons_zero, Act.put, List.setIfInBounds_toArray, List.set_cons_zero, List.set_cons_succ])
              refine wpAnyH_take (i := 13) (oi := _) (v := ?v50) rfl (by kernel_rfl) (by kernel_rfl) (by kernel_rfl) (fun _ _ _ h => h) (Or.inl ⟨by rfl, ?hy50⟩) (by assumption) ?rest50
              case hy50 => (intro w hSw; (try dsimp only at hSw); go_simp; first | done | with_reducible rfl)
              (try simp only [List.getElem_toArray, List.getElem_cons_succ, List.getElem_cons_zero, Act.put, List.setIfInBounds_toArray, List.set_cons_zero, List.set_cons_succ])
              refine wpAnyH_take (i := 14) (oi := _) (v := ?v51) rfl (by kernel_rfl) (by kernel_rfl) (by kernel_rfl) (fun _ _ _ h => h) (Or.inl ⟨by rfl, ?hy51⟩) (by assumption) ?rest51
              case hy51 => (intro w hSw; (try dsimp only at hSw); go_simp; first | done | with_reducible rfl)
              (try simp only [List.getElem_toArray, List.getElem_cons_succ, List.getElem_cons_zero, Act.put, List.setIfInBounds_toArray, List.set_cons_zero, List.set_cons_succ])
              refine wpAnyH_take (i := 15) (oi := _) (v := ?v52) rfl (by kernel_rfl) (by kernel_rfl) (by kernel_rfl) (fun _ _ _ h => h) (Or.inl ⟨by rfl, ?hy52⟩) (by assumption) ?rest52
              case hy52 => (intro w hSw; (try dsimp only at hSw); go_simp; first | done | with_reducible rfl)
              (try simp only [List.getElem_toArray, List.getElem_cons_succ, List.getElem_cons_zero, Act.put, List.setIfInBounds_toArray, List.set_cons_zero, List.set_cons_succ])
              refine wpAnyH_take (i := 16) (oi := _) (v := ?v53) rfl (by kernel_rfl) (by kernel_rfl) (by kernel_rfl) (fun _ _ _ h => h) (Or.inl ⟨by rfl, ?hy53⟩) (by assumption) ?rest53
              case hy53 => (intro w hSw; (try dsimp only at hSw); go_simp; first | done | with_reducible rfl)
              (try simp only [List.getElem_toArray, List.getElem_cons_succ, List.getElem_cons_zero, Act.put, List.setIfInBounds_toArray, List.set_cons_zero, List.set_cons_succ])
              refine wpAnyH_take (i := 17) (oi := _) (v := ?v54) rfl (by kernel_rfl) (by kernel_rfl) (by kernel_rfl) (fun _ _ _ h => h) (Or.inl ⟨by rfl, ?hy54⟩) (by assumption) ?rest54
              case hy54 => (intro w hSw; (try dsimp only at hSw); go_simp; first | done | with_reducible rfl)
              (try simp only [List.getElem_toArray, List.getElem_cons_succ, List.getElem_cons_zero, Act.put, List.setIfInBounds_toArray, List.set_cons_zero, List.set_cons_succ])
              refine wpAnyH_done (by kernel_rfl) ?_ _
              go_wp2_with fail
              exact ⟨⟨j + 1, j, true, by omega, by go_num, rfl, rfl, H_hJ2.out, Vg.Grows.trans H_hgr.out (by (repeat' (first | (with_reducible exact Vg.Grows.refl _) | (with_reducible assumption) | (with_reducible refine Vg.Grows.alloc ?_ _) | (with_reducible refine Vg.Grows.plus ?_ _ _) | (with_reducible refine Vg.Grows.drewN ?_ _) | (with_reducible refine Vg.Grows.drew ?_) | (with_reducible refine Vg.Grows.setCell ?_ ?_ _) | (with_reducible refine Vg.Grows.put ?_ ?_ _) | omega | (simp; omega) | (simp; done))))⟩, by simp [intOf]; omega⟩
            exact AllReadyH.nil
          · have hJ2 := hJ.keep hab (by rw [hpb2, hpj]; exact hlt2)
            have H_hF := Lib.hid hF; clear hF; have H_hxt := Lib.hid hxt; clear hxt; have H_hab := Lib.hid hab; clear hab; have H_hJ := Lib.hid hJ; clear hJ; have H_hJ2 := Lib.hid hJ2; clear hJ2; have H_hpj := Lib.hid hpj; clear hpj; have H_hgr := Lib.hid hgr; clear hgr; have H_hpb := Lib.hid hpb; clear hpb; have H_hpb2 := Lib.hid hpb2; clear hpb2
            go_upto_region 5 with fail
            refine wp_region_held_drew (S := fun w' => w.heap.size < w'.heap.size ∧ wr.heap.size < w'.heap.size ∧ w'.cell? ⟨w.heap.size, 0, none⟩ = some (.slice (some ⟨g, off, none⟩) n tc) ∧ w'.cell? ⟨w.heap.size, 1, none⟩ = some (.slice sa n sc) ∧ w'.cell? ⟨w.heap.size, 2, none⟩ = some (.slice wa q wc) ∧ w'.cell? ⟨wr.heap.size, 0, none⟩ = some (.int .i64 pr) ∧ w'.cell? ⟨g, off + b * 4, none⟩ = some (.int .i64 pb)) (by kernel_rfl) (by go_split_ands <;> (try dsimp only) <;> go_simp) (fun hHeld => ?_)
            refine wpAnyH_take (i := 0) (oi := _) (v := ?v55) rfl (by kernel_rfl) (by kernel_rfl) (by kernel_rfl) (fun _ _ _ h => h) (Or.inl ⟨by rfl, ?hy55⟩) (by assumption) ?rest55
            case hy55 => (intro w hSw; (try dsimp only at hSw); go_simp; first | done | with_reducible rfl)
            (try simp only [List.getElem_toArray, List.getElem_cons_succ, List.getElem_cons_zero, Act.put, List.setIfInBounds_toArray, List.set_cons_zero, List.set_cons_succ])
            refine wpAnyH_take (i := 1) (oi := _) (v := ?v56) rfl (by kernel_rfl) (by kernel_rfl) (by kernel_rfl) (fun _ _ _ h => h) (Or.inl ⟨by rfl, ?hy56⟩) (by assumption) ?rest56
            case hy56 => (intro w hSw; (try dsimp only at hSw); go_simp; first | done | with_reducible rfl)
            (try simp only [List.getElem_toArray, List.getElem_cons_succ, List.getElem_cons_zero, Act.put, List.setIfInBounds_toArray, List.set_cons_zero, List.set_cons_succ])
            refine wpAnyH_ready (rs := [2]) (by kernel_rfl) (by simp) ?_
            refine AllReadyH.cons (o := _) rfl (fun K hK => ?st57) ?mo57
            case st57 =>
              go_simp
              ((go_at_call 58; (with_reducible refine (rb_able j (H_hF.out.grows (by (repeat' (first | (with_reducible exact Vg.Grows.refl _) | (with_reducible assumption) | (with_reducible refine Vg.Grows.alloc ?_ _) | (with_reducible refine Vg.Grows.plus ?_ _ _) | (with_reducible refine Vg.Grows.drewN ?_ _) | (with_reducible refine Vg.Grows.drew ?_) | (with_reducible refine Vg.Grows.setCell ?_ ?_ _) | (with_reducible refine Vg.Grows.put ?_ ?_ _) | omega | (simp; omega) | (simp; done))))) H_hB.out H_hQ.out H_hI.out H_hab.out).mono ?_); rintro e w1 ⟨rfl, x1, n1, rfl⟩))
              all_goals (try go_wp2_with fail)
              refine hK.out _ _ (by go_split_ands <;> (try dsimp only) <;> go_simp) (fun hHeld57 => ?_)
              clear hK K
              (try simp only [List.getElem_toArray, List.getElem_cons_succ, List.getElem_cons_zero, Act.put, List.setIfInBounds_toArray, List.set_cons_zero, List.set_cons_succ])
              refine wpAnyH_take (i := 3) (oi := _) (v := ?v58) rfl (by kernel_rfl) (by kernel_rfl) (by kernel_rfl) (fun _ _ _ h => h) (Or.inl ⟨by rfl, ?hy58⟩) (by assumption) ?rest58
              case hy58 => (intro w hSw; (try dsimp only at hSw); go_simp; first | done | with_reducible rfl)
              (try simp only [List.getElem_toArray, List.getElem_cons_succ, List.getElem_cons_zero, Act.put, List.setIfInBounds_toArray, List.set_cons_zero, List.set_cons_succ])
              refine wpAnyH_take (i := 4) (oi := _) (v := ?v59) rfl (by kernel_rfl) (by kernel_rfl) (by kernel_rfl) (fun _ _ _ h => h) (Or.inl ⟨by rfl, ?hy59⟩) (by assumption) ?rest59
              case hy59 => (intro w hSw; (try dsimp only at hSw); go_simp; first | done | with_reducible rfl)
              (try simp only [List.getElem_toArray, List.getElem_cons_succ, List.getElem_cons_zero, Act.put, List.setIfInBounds_toArray, List.set_cons_zero, List.set_cons_succ])
              refine wpAnyH_take (i := 5) (oi := _) (v := ?v60) rfl (by kernel_rfl) (by kernel_rfl) (by kernel_rfl) (fun _ _ _ h => h) (Or.inl ⟨by rfl, ?hy60⟩) (by assumption) ?rest60
              case hy60 => (intro w hSw; (try dsimp only at hSw); go_simp; first | done | with_reducible rfl)
              (try simp only [List.getElem_toArray, List.getElem_cons_succ, List.getElem_cons_zero, Act.put, List.setIfInBounds_toArray, List.set_cons_zero, List.set_cons_succ])
              refine wpAnyH_take (i := 6) (oi := _) (v := ?v61) rfl (by kernel_rfl) (by kernel_rfl) (by kernel_rfl) (fun _ _ _ h => h) (Or.inl ⟨by rfl, ?hy61⟩) (by assumption) ?rest61
              case hy61 => (intro w hSw; (try dsimp only at hSw); go_simp; first | done | with_reducible rfl)
              (try simp only [List.getElem_toArray, List.getElem_cons_succ, List.getElem_cons_zero, Act.put, List.setIfInBounds_toArray, List.set_cons_zero, List.set_cons_succ])
              refine wpAnyH_take (i := 7) (oi := _) (v := ?v62) rfl (by kernel_rfl) (by kernel_rfl) (by kernel_rfl) (fun _ _ _ h => h) (Or.inl ⟨by rfl, ?hy62⟩) (by assumption) ?rest62
              case hy62 => (intro w hSw; (try dsimp only at hSw); go_simp; first | done | with_reducible rfl)
              (try simp only [List.getElem_toArray, List.getElem_cons_succ, List.getElem_cons_zero, Act.put, List.setIfInBounds_toArray, List.set_cons_zero, List.set_cons_succ])
              refine wpAnyH_take (i := 8) (oi := _) (v := ?v63) rfl (by kernel_rfl) (by kernel_rfl) (by kernel_rfl) (fun _ _ _ h => h) (Or.inl ⟨by rfl, ?hy63⟩) (by assumption) ?rest63
              case hy63 => (intro w hSw; (try dsimp only at hSw); go_simp; first | done | with_reducible rfl)
              (try simp only [List.getElem_toArray, List.getElem_cons_succ, List.getElem_cons_zero, Act.put, List.setIfInBounds_toArray, List.set_cons_zero, List.set_cons_succ])
              refine wpAnyH_take (i := 9) (oi := _) (v := ?v64) rfl (by kernel_rfl) (by kernel_rfl) (by kernel_rfl) (fun _ _ _ h => h) (Or.inl ⟨by rfl, ?hy64⟩) (by assumption) ?rest64
              case hy64 => (intro w hSw; (try dsimp only at hSw); go_simp; first | done | with_reducible rfl)
              (try simp only [List.getElem_toArray, List.getElem_cons_succ, List.getElem_cons_zero, Act.put, List.setIfInBounds_toArray, List.set_cons_zero, List.set_cons_succ])
              refine wpAnyH_take (i := 10) (oi := _) (v := ?v65) rfl (by kernel_rfl) (by kernel_rfl) (by kernel_rfl) (fun _ _ _ h => h) (Or.inl ⟨by rfl, ?hy65⟩) (by assumption) ?rest65
              case hy65 => (intro w hSw; (try dsimp only at hSw); go_simp; first | done | with_reducible rfl)
              (try simp only [List.getElem_toArray, List.getElem_cons_succ, List.getElem_cons_zero, Act.put, List.setIfInBounds_toArray, List.set_cons_zero, List.set_cons_succ])
              refine wpAnyH_take (i := 11) (oi := _) (v := ?v66) rfl (by kernel_rfl) (by kernel_rfl) (by kernel_rfl) (fun _ _ _ h => h) (Or.inl ⟨by rfl, ?hy66⟩) (by assumption) ?rest66
              case hy66 => (intro w hSw; (try dsimp only at hSw); go_simp; first | done | with_reducible rfl)
              (try simp only [List.getElem_toArray, List.getElem_cons_succ, List.getElem_cons_zero, Act.put, List.setIfInBounds_toArray, List.set_cons_zero, List.set_cons_succ])
              refine wpAnyH_take (i := 12) (oi := _) (v := ?v67) rfl (by kernel_rfl) (by kernel_rfl) (by kernel_rfl) (fun _ _ _ h => h) (Or.inl ⟨by rfl, ?hy67⟩) (by assumption) ?rest67
              case hy67 => (intro w hSw; (try dsimp only at hSw); go_simp; first | done | with_reducible rfl)
              (try simp only [List.getElem_toArray, List.getElem_cons_succ, List.getElem_cons_zero, Act.put, List.setIfInBounds_toArray, List.set_cons_zero, List.set_cons_succ])
              refine wpAnyH_take (i := 13) (oi := _) (v := ?v68) rfl (by kernel_rfl) (by kernel_rfl) (by kernel_rfl) (fun _ _ _ h => h) (Or.inl ⟨by rfl, ?hy68⟩) (by assumption) ?rest68
              case hy68 => (intro w hSw; (try dsimp only at hSw); go_simp; first | done | with_reducible rfl)
              (try simp only [List.getElem_toArray, List.getElem_cons_succ, List.getElem_cons_zero, Act.put, List.setIfInBounds_toArray, List.set_cons_zero, List.set_cons_succ])
              refine wpAnyH_take (i := 14) (oi := _) (v := ?v69) rfl (by kernel_rfl) (by kernel_rfl) (by kernel_rfl) (fun _ _ _ h => h) (Or.inl ⟨by rfl, ?hy69⟩) (by assumption) ?rest69
              case hy69 => (intro w hSw; (try dsimp only at hSw); go_simp; first | done | with_reducible rfl)
              (try simp only [List.getElem_toArray, List.getElem_cons_succ, List.getElem_cons_zero, Act.put, List.setIfInBounds_toArray, List.set_cons_zero, List.set_cons_succ])
              refine wpAnyH_take (i := 15) (oi := _) (v := ?v70) rfl (by kernel_rfl) (by kernel_rfl) (by kernel_rfl) (fun _ _ _ h => h) (Or.inl ⟨by rfl, ?hy70⟩) (by assumption) ?rest70
              case hy70 => (intro w hSw; (try dsimp only at hSw); go_simp; first | done | with_reducible rfl)
              (try simp only [List.getElem_toArray, List.getElem_cons_succ, List.getElem_cons_zero, Act.put, List.setIfInBounds_toArray, List.set_cons_zero, List.set_cons_succ])
              refine wpAnyH_take (i := 16) (oi := _) (v := ?v71) rfl (by kernel_rfl) (by kernel_rfl) (by kernel_rfl) (fun _ _ _ h => h) (Or.inl ⟨by rfl, ?hy71⟩) (by assumption) ?rest71
              case hy71 => (intro w hSw; (try dsimp only at hSw); go_simp; first | done | with_reducible rfl)
              (try simp only [List.getElem_toArray, List.getElem_cons_succ, List.getElem_cons_zero, Act.put, List.setIfInBounds_toArray, List.set_cons_zero, List.set_cons_succ])
              refine wpAnyH_take (i := 17) (oi := _) (v := ?v72) rfl (by kernel_rfl) (by kernel_rfl) (by kernel_rfl) (fun _ _ _ h => h) (Or.inl ⟨by rfl, ?hy72⟩) (by assumption) ?rest72
              case hy72 => (intro w hSw; (try dsimp only at hSw); go_simp; first | done | with_reducible rfl)
              (try simp only [List.getElem_toArray, List.getElem_cons_succ, List.getElem_cons_zero, Act.put, List.setIfInBounds_toArray, List.set_cons_zero, List.set_cons_succ])
              refine wpAnyH_done (by kernel_rfl) ?_ _
              go_wp2_with fail
              exact ⟨⟨j + 1, b, true, by omega, by go_num, rfl, rfl, H_hJ2.out, Vg.Grows.trans H_hgr.out (by (repeat' (first | (with_reducible exact Vg.Grows.refl _) | (with_reducible assumption) | (with_reducible refine Vg.Grows.alloc ?_ _) | (with_reducible refine Vg.Grows.plus ?_ _ _) | (with_reducible refine Vg.Grows.drewN ?_ _) | (with_reducible refine Vg.Grows.drew ?_) | (with_reducible refine Vg.Grows.setCell ?_ ?_ _) | (with_reducible refine Vg.Grows.put ?_ ?_ _) | omega | (simp; omega) | (simp; done))))⟩, by simp [intOf]; omega⟩
            exact AllReadyH.nil
    · have hjn : j = n := by omega
      have hJd := hJ
      rw [hjn, ← H_hBl.out] at hJd
      obtain ⟨e1, e2⟩ := hJd.done H_hr.out H_hmx.out H_his.out
      subst e1 e2
      have c_B1 := Vg.cells_of B1; have f_B1 := Vg.frozen_of B1; have p_B1 := Vg.setCell_of B1; have l_B1 := Vg.lt_of B1; have H_B1 := Lib.hid B1; clear B1
      have H_hF := Lib.hid hF; clear hF; have H_hJ := Lib.hid hJ; clear hJ; have H_hgr := Lib.hid hgr; clear hgr
      go_wp2_with fail
      go_returns
      exact ⟨rfl, Vg.Grows.trans (Vg.Grows.alloc (Vg.Grows.refl _) _) H_hgr.out⟩
end
end Go.Proofs.Ytiinhofmhoplfaa
namespace Vg
open Go
theorem scells_set4 : ∀ (l : List Sp) (k : Nat) (h : k < l.length) (u : Value) (t : Th) (s : Srv), ((((scells l).set (k * 4) (.int .i64 t.bu)).set (k * 4 + 1) (.int .i64 t.pe)).set (k * 4 + 2) u).set (k * 4 + 3) (.int .i64 s.last) = scells (l.set k (u, ⟨t, s⟩))
  | [], k, h, _, _, _ => by simp at h
  | x :: l, 0, _, u, t, s => by simp [scells]
  | x :: l, k + 1, h, u, t, s => by
    have := scells_set4 l k (by simpa using h) u t s
    rw [show (k + 1) * 4 = k * 4 + 1 + 1 + 1 + 1 from by omega, show k * 4 + 1 + 1 + 1 + 1 + 1 = k * 4 + 1 + 1 + 1 + 1 + 1 from rfl, show k * 4 + 1 + 1 + 1 + 1 + 2 = k * 4 + 2 + 1 + 1 + 1 + 1 from by omega, show k * 4 + 1 + 1 + 1 + 1 + 3 = k * 4 + 3 + 1 + 1 + 1 + 1 from by omega]
    simpa [scells] using this
theorem scells_ones : ∀ (l : List Sp), (∀ i (h : i < l.length), ∃ a n c, l[i].1 = .slice a n c) → ∀ u ∈ scells l, u.oneCell' = true
  | [], _, u, h => by simp [scells] at h
  | x :: l, hs, u, h => by
    simp only [scells, List.mem_cons] at h
    rcases h with rfl | rfl | rfl | rfl | h
    · rfl
    · rfl
    · obtain ⟨a, n, c, e⟩ := hs 0 (by simp)
      simp only [List.getElem_cons_zero] at e
      rw [e]; rfl
    · rfl
    · exact scells_ones l (fun i hi => by have := hs (i + 1) (by simpa using hi); simpa using this) u h
theorem Reads.serv' {S : Nat} {w : World} {a : Option Addr} {c n : Nat} {M : List Sp} (hn : M.length = n) (h : Reads S w (.slice a n c) n (scells M)) (i : Nat) (hi : i < n) :
    ∃ g o, a = some ⟨g, o, none⟩ ∧ g < w.heap.size ∧ n ≤ c ∧ c ≤ 9223372036854775807 ∧ (∃ u, w.cell? ⟨g, o + i * 4, none⟩ = some u) ∧ (∃ u, w.cell? ⟨g, o + i * 4 + 1, none⟩ = some u) ∧ (∃ u, w.cell? ⟨g, o + i * 4 + 2, none⟩ = some u) ∧ (∃ u, w.cell? ⟨g, o + i * 4 + 3, none⟩ = some u) := by
  subst hn
  obtain ⟨g, o, h1, h2, h3, h4, h5, h6, h7, h8⟩ := h.serv rfl i hi
  exact ⟨g, o, h1, h2, h3, h4, ⟨_, h5⟩, ⟨_, h6⟩, ⟨_, h7⟩, ⟨_, h8⟩⟩
theorem map_set_same' {α β : Type} {f : α → β} {K : List α} {i : Nat} {y : α} (h : ∀ hi : i < K.length, f y = f K[i]) : (K.set i y).map f = K.map f := by
  rw [List.map_set]
  by_cases hi : i < K.length
  · rw [h hi]
    apply List.ext_getElem
    · simp
    · intro j h1 h2
      rw [List.getElem_set]
      split
      · rename_i hj; subst hj; simp
      · rfl
  · rw [List.set_eq_of_length_le (by simpa using hi)]
end Vg
namespace Go.Proofs.Ytiinhofmhoplfaa
open Go.ChangeShapes Go.WideShapes Go.ChangeAt Go.RowKit
theorem Try.info_rserv : (Try.prog.info? 179).map (fun i => (i.zero, i.size, i.bytes)) = some (some (.agg #[.int .i64 0, .int .i64 0, .slice none 0 0, .int .i64 0]), 4, 48) := by kernel_rfl
section
variable {w w' : World} {S S' : Nat → Prop} {v u : Value} {ps : List Vg.Sp} {rs : List Vg.Wp} {Bs : List Vg.Bp} {Q Q' : List Vg.Wq} {k n q i : Nat} {is : Bool} {x r m : Int} {ta sa wa : Option Addr} {tc sc wc : Nat} {s : Vg.Srv}
theorem rb_with (h : RB S w v ps rs) (hi : i < ps.length) (hle : ps.length ≤ 64) (hu : RA w 0 s u) (hS : ∀ k, u.ownBlock = some k → S k ∨ w.heap.size ≤ k) :
    Calls Try.prog 104 #[v, .int .i64 i, .agg #[.int .i64 ps[i].2.t.bu, .int .i64 ps[i].2.t.pe, u, .int .i64 s.last]] w fun e w' => ∃ ta tc sa sc wa wc, e = .returned (.agg #[.slice ta ps.length tc, .slice sa ps.length sc, .slice wa rs.length wc]) ∧ RB (fun k => S k ∨ w.heap.size ≤ k) w' (.agg #[.slice ta ps.length tc, .slice sa ps.length sc, .slice wa rs.length wc]) (ps.set i (u, ⟨ps[i].2.t, s⟩)) rs ∧ Vg.Grows w w' := by
  obtain ⟨ta, tc, sa, sc, wa, wc, rfl, t1, t2⟩ := h.shape
  obtain ⟨n, hn⟩ : ∃ n, ps.length = n := ⟨_, rfl⟩
  obtain ⟨q, hq⟩ : ∃ q, rs.length = q := ⟨_, rfl⟩
  rw [hn, hq] at h
  rw [hn] at t1 hle ⊢
  rw [hq]
  obtain ⟨-, -, htr, hts, hsr, hrq⟩ := h.parts
  have hra := h.ra
  obtain ⟨ua, uc, rfl, hur⟩ := hu
  obtain ⟨t, ht⟩ : ∃ t, ps[i].2.t = t := ⟨_, rfl⟩
  rw [ht]
  obtain ⟨⟨pr, bu, pe, dp⟩, rfl⟩ : ∃ t', t' = t := ⟨t, rfl⟩
  obtain ⟨L, last⟩ := s
  simp only [] at hur hS ⊢
  obtain ⟨N, hN⟩ : ∃ N, L.length = N := ⟨_, rfl⟩
  rw [hN] at hur hS ⊢
  have hin : i < n := by omega
  have hin1 : (i : Int) < n := by omega
  have hin0 : (0 : Int) ≤ i := by omega
  have hrow := hsr.1
  have hones := Vg.scells_ones ps fun j hj => by
    obtain ⟨a, c, e, _⟩ := (hra j hj).1
    exact ⟨a, _, c, e⟩
  have hsl := Vg.scells_length ps
  rw [hn] at hsl
  obtain ⟨i0, hI, hz0, hz1, hz2⟩ := info_parts Try.info_rserv
  have H_h := Lib.hid h; clear h; have H_htr := Lib.hid htr; clear htr; have H_hts := Lib.hid hts; clear hts; have H_hsr := Lib.hid hsr; clear hsr; have H_hrq := Lib.hid hrq; clear hrq; have H_hra := Lib.hid hra; clear hra; have H_hur := Lib.hid hur; clear hur; have H_hS := Lib.hid hS; clear hS; have H_ht := Lib.hid ht; clear ht; have H_hN := Lib.hid hN; clear hN; have H_hrow := Lib.hid hrow; clear hrow; have H_hones := Lib.hid hones; clear hones; have H_hsl := Lib.hid hsl; clear hsl; have H_hn := Lib.hid hn; clear hn; have H_hq := Lib.hid hq; clear hq
  go_enter Try.func104, Try.ntmps104
  go_upto_region 2 with (first | (at_builtin; (refine Vg.wpList_appR (W0 := _) ((Vg.Grows.refl _).alloc _) rfl (.tmp 7) (.tmp 9) 78 rfl _ (Nat.le_refl _) (by (try simp only [World.size_alloc, Vg.plus_size, Vg.put_size, World.size_setCell, World.size_drew]) <;> omega) 179 i0 (.agg #[.int .i64 0, .int .i64 0, .slice none 0 0, .int .i64 0]) 4 48 Try.underlying78 hI hz0 hz1 hz2 rfl (by decide) _ _ _ rfl (Vg.owns_made0 (by (try simp only [World.size_alloc, Vg.plus_size, Vg.put_size, World.size_setCell, World.size_drew]) <;> omega)) 0 _ _ _ (Vg.scells ps) rfl (H_hrow.out.grows (by (repeat' (first | (with_reducible exact Vg.Grows.refl _) | (with_reducible assumption) | (with_reducible refine Vg.Grows.alloc ?_ _) | (with_reducible refine Vg.Grows.plus ?_ _ _) | (with_reducible refine Vg.Grows.drewN ?_ _) | (with_reducible refine Vg.Grows.drew ?_) | (with_reducible refine Vg.Grows.setCell ?_ ?_ _) | (with_reducible refine Vg.Grows.put ?_ ?_ _) | omega | (simp; omega) | (simp; done))))) H_hsl.out H_hones.out (by unfold maxLen; omega) (by omega) ?_); intro v1 y1 m1 hown1 hsz1; obtain ⟨a1, c1, rfl⟩ := Vg.owns_shape hown1; have q1 := Vg.Que.of_owns hown1; have e1 : Vg.blk (Vg.plus (((w.alloc (rbC (.slice ta n tc) (.slice sa n sc) (.slice wa q wc))).alloc (rservC bu pe (.slice ua N uc) last)).alloc (rbC (.slice none 0 0) (.slice none 0 0) (.slice none 0 0))) y1 m1) w.heap.size = some (rbC (.slice ta n tc) (.slice sa n sc) (.slice wa q wc)) := (by go_simp); have e2 : Vg.blk (Vg.plus (((w.alloc (rbC (.slice ta n tc) (.slice sa n sc) (.slice wa q wc))).alloc (rservC bu pe (.slice ua N uc) last)).alloc (rbC (.slice none 0 0) (.slice none 0 0) (.slice none 0 0))) y1 m1) (w.heap.size + 1) = some (rservC bu pe (.slice ua N uc) last) := (by go_simp); have e3 : Vg.blk (Vg.plus (((w.alloc (rbC (.slice ta n tc) (.slice sa n sc) (.slice wa q wc))).alloc (rservC bu pe (.slice ua N uc) last)).alloc (rbC (.slice none 0 0) (.slice none 0 0) (.slice none 0 0))) y1 m1) (w.heap.size + 1 + 1) = some (rbC (.slice none 0 0) (.slice none 0 0) (.slice none 0 0)) := (by go_simp); have g2 : Vg.Grows w (Vg.plus (((w.alloc (rbC (.slice ta n tc) (.slice sa n sc) (.slice wa q wc))).alloc (rservC bu pe (.slice ua N uc) last)).alloc (rbC (.slice none 0 0) (.slice none 0 0) (.slice none 0 0))) y1 m1) := (by (repeat' (first | (with_reducible exact Vg.Grows.refl _) | (with_reducible assumption) | (with_reducible refine Vg.Grows.alloc ?_ _) | (with_reducible refine Vg.Grows.plus ?_ _ _) | (with_reducible refine Vg.Grows.drewN ?_ _) | (with_reducible refine Vg.Grows.drew ?_) | (with_reducible refine Vg.Grows.setCell ?_ ?_ _) | (with_reducible refine Vg.Grows.put ?_ ?_ _) | omega | (simp; omega) | (simp; done)))); obtain ⟨W2, hW2⟩ : ∃ W2, Vg.plus (((w.alloc (rbC (.slice ta n tc) (.slice sa n sc) (.slice wa q wc))).alloc (rservC bu pe (.slice ua N uc) last)).alloc (rbC (.slice none 0 0) (.slice none 0 0) (.slice none 0 0))) y1 m1 = W2 := ⟨_, rfl⟩; rw [hW2] at q1 e1 e2 e3 g2 ⊢; simp only [List.nil_append, Nat.zero_add, World.size_alloc] at q1 ⊢; have rr := q1.reads; obtain ⟨g, o, rfl, hgl, hcl, hcm, ⟨u0, d0⟩, ⟨u1, d1⟩, ⟨u2, d2⟩, ⟨u3, d3⟩⟩ := rr.serv' H_hn.out i hin; have hgb := (q1.lt g rfl).1; clear hW2 hown1 hsz1 rr; obtain ⟨b1, hb1⟩ : ∃ b1, w.heap.size = b1 := ⟨_, rfl⟩; rw [hb1] at q1 e1 e2 e3 hgb ⊢; obtain ⟨b2, hb2⟩ : ∃ b2, b1 + 1 = b2 := ⟨_, rfl⟩; rw [hb2] at q1 e2 e3 hgb ⊢; obtain ⟨b3, hb3⟩ : ∃ b3, b2 + 1 = b3 := ⟨_, rfl⟩; rw [hb3] at q1 e3 hgb ⊢; have n1 : b1 ≠ g := (by omega); have n2 : b2 ≠ g := (by omega); have n3 : b3 ≠ g := (by omega); have n4 : g ≠ b1 := (by omega); have n5 : g ≠ b2 := (by omega); have n6 : g ≠ b3 := (by omega); have n7 : b1 ≠ b2 := (by omega); have n8 : b2 ≠ b1 := (by omega); have n9 : b1 ≠ b3 := (by omega); have n10 : b3 ≠ b1 := (by omega); have n11 : b2 ≠ b3 := (by omega); have n12 : b3 ≠ b2 := (by omega); have c_e1 := Vg.cells_of e1; have f_e1 := Vg.frozen_of e1; have p_e1 := Vg.setCell_of e1; have l_e1 := Vg.lt_of e1; have H_e1 := Lib.hid e1; clear e1; have c_e2 := Vg.cells_of e2; have f_e2 := Vg.frozen_of e2; have p_e2 := Vg.setCell_of e2; have l_e2 := Vg.lt_of e2; have H_e2 := Lib.hid e2; clear e2; have c_e3 := Vg.cells_of e3; have f_e3 := Vg.frozen_of e3; have p_e3 := Vg.setCell_of e3; have l_e3 := Vg.lt_of e3; have H_e3 := Lib.hid e3; clear e3; have H_q1 := Lib.hid q1; clear q1; have H_g2 := Lib.hid g2; clear g2; have H_hb1 := Lib.hid hb1; clear hb1; have H_hb2 := Lib.hid hb2; clear hb2; have H_hb3 := Lib.hid hb3; clear hb3))
  have q3 := H_q1.out.kept (w' := Vg.put W2 b1 (rbC (.slice ta n tc) (.slice (some ⟨g, o, none⟩) n c1) (.slice wa q wc))) (fun k hk => Vg.put_heap_other (by have := (H_q1.out.lt k hk).1; have := H_hb2.out; have := H_hb3.out; omega))
  have f1 : Vg.blk (Vg.put W2 b1 (rbC (.slice ta n tc) (.slice (some ⟨g, o, none⟩) n c1) (.slice wa q wc))) b1 = some (rbC (.slice ta n tc) (.slice (some ⟨g, o, none⟩) n c1) (.slice wa q wc)) := Vg.put_heap_same l_e1
  have f2 : Vg.blk (Vg.put W2 b1 (rbC (.slice ta n tc) (.slice (some ⟨g, o, none⟩) n c1) (.slice wa q wc))) b2 = some (rservC bu pe (.slice ua N uc) last) := (Vg.put_heap_other n7).trans H_e2.out
  have f3 : Vg.blk (Vg.put W2 b1 (rbC (.slice ta n tc) (.slice (some ⟨g, o, none⟩) n c1) (.slice wa q wc))) b3 = some (rbC (.slice none 0 0) (.slice none 0 0) (.slice none 0 0)) := (Vg.put_heap_other n9).trans H_e3.out
  have g3 : Vg.Grows w (Vg.put W2 b1 (rbC (.slice ta n tc) (.slice (some ⟨g, o, none⟩) n c1) (.slice wa q wc))) := Vg.Grows.put H_g2.out (by have := H_hb1.out; omega) _
  obtain ⟨W3, hW3⟩ : ∃ W3, Vg.put W2 b1 (rbC (.slice ta n tc) (.slice (some ⟨g, o, none⟩) n c1) (.slice wa q wc)) = W3 := ⟨_, rfl⟩
  rw [hW3] at q3 f1 f2 f3 g3 ⊢
  clear hW3 d0 d1 d2 d3
  clear c_e1 f_e1 p_e1 c_e2 f_e2 p_e2 c_e3 f_e3 p_e3
  obtain ⟨g', o', he, hgl', -, -, ⟨u0', d0⟩, ⟨u1', d1⟩, ⟨u2', d2⟩, ⟨u3', d3⟩⟩ := q3.reads.serv' H_hn.out i hin
  simp only [Option.some.injEq, Addr.mk.injEq, and_true] at he
  obtain ⟨rfl, rfl⟩ := he
  have fr := q3.frozen
  have c_f1 := Vg.cells_of f1; have f_f1 := Vg.frozen_of f1; have p_f1 := Vg.setCell_of f1; have l_f1 := Vg.lt_of f1; have H_f1 := Lib.hid f1; clear f1; have c_f2 := Vg.cells_of f2; have f_f2 := Vg.frozen_of f2; have p_f2 := Vg.setCell_of f2; have l_f2 := Vg.lt_of f2; have H_f2 := Lib.hid f2; clear f2; have c_f3 := Vg.cells_of f3; have f_f3 := Vg.frozen_of f3; have p_f3 := Vg.setCell_of f3; have l_f3 := Vg.lt_of f3; have H_f3 := Lib.hid f3; clear f3
  have H_q3 := Lib.hid q3; clear q3; have H_g3 := Lib.hid g3; clear g3
  go_upto_region 3 with fail
  have l1 : i * 4 + 3 < (Vg.scells ps).length := by rw [H_hsl.out]; omega
  have s1 := H_q3.out.set (j := i * 4) (u := .int .i64 bu) (by omega)
  have s2 := s1.1.set (j := i * 4 + 1) (u := .int .i64 pe) (by rw [List.length_set]; omega)
  have s3 := s2.1.set (j := i * 4 + 2) (u := .slice ua N uc) (by rw [List.length_set, List.length_set]; omega)
  have s4 := s3.1.set (j := i * 4 + 3) (u := .int .i64 last) (by rw [List.length_set, List.length_set, List.length_set]; omega)
  simp only [← Nat.add_assoc] at s1 s2 s3 s4
  have e3 := Vg.scells_set4 ps i hi (.slice ua N uc) ⟨pr, bu, pe, dp⟩ ⟨L, last⟩
  simp only [] at e3
  rw [e3] at s4
  have sT := ((s1.2.trans s2.2).trans s3.2).trans s4.2
  obtain ⟨W4, hW4⟩ : ∃ W4, ((((W3.setCell ⟨g, o + i * 4, none⟩ (.int .i64 bu)).setCell ⟨g, o + i * 4 + 1, none⟩ (.int .i64 pe)).setCell ⟨g, o + i * 4 + 2, none⟩ (.slice ua N uc)).setCell ⟨g, o + i * 4 + 3, none⟩ (.int .i64 last)) = W4 := ⟨_, rfl⟩
  rw [hW4] at s4 sT ⊢
  have s5 := s4.1
  have p1 := (sT.block b1 n1).trans H_f1.out
  have p3 := (sT.block b3 n3).trans H_f3.out
  have gw4 := sT.grows H_g3.out (fun k hk => by subst hk; have := (H_q1.out.lt _ rfl).1; have := H_hb1.out; have := H_hb2.out; have := H_hb3.out; omega)
  clear hW4 d0 d1 d2 d3 s1 s2 s3 s4 sT fr e3
  clear c_f1 f_f1 p_f1 c_f2 f_f2 p_f2 c_f3 f_f3 p_f3
  have p1 : Vg.blk W4 b1 = some (rbC (.slice ta n tc) (.slice (some ⟨g, o, none⟩) n c1) (.slice wa q wc)) := p1
  have p3 : Vg.blk W4 b3 = some (rbC (.slice none 0 0) (.slice none 0 0) (.slice none 0 0)) := p3
  have c_p1 := Vg.cells_of p1; have f_p1 := Vg.frozen_of p1; have p_p1 := Vg.setCell_of p1; have l_p1 := Vg.lt_of p1; have H_p1 := Lib.hid p1; clear p1; have c_p3 := Vg.cells_of p3; have f_p3 := Vg.frozen_of p3; have p_p3 := Vg.setCell_of p3; have l_p3 := Vg.lt_of p3; have H_p3 := Lib.hid p3; clear p3
  have hpc : ∀ (cs : Array Value) (i : Nat), (Vg.put W4 b3 (.cells cs 80)).cell? ⟨b3, i, none⟩ = cs[i]? := fun cs i => Vg.cells_of (Vg.put_heap_same l_p3) i
  have H_s5 := Lib.hid s5; clear s5; have H_gw4 := Lib.hid gw4; clear gw4; have H_hpc := Lib.hid hpc; clear hpc
  go_wp2_with fail
  refine bodyPost_ret (by simp [results, Try.results104, go_sem, H_hpc.out] <;> try rfl) rfl ?_
  have hput : ∀ k, w.heap.size ≤ k → k ≠ b3 → ∀ o', (Vg.put W4 b3 o').heap[k]? = W4.heap[k]? := fun k _ hk o' => Vg.put_heap_other (Ne.symm hk)
  have q5 := fun o' => H_s5.out.kept (w' := Vg.put W4 b3 o') (fun k hk => Vg.put_heap_other (by have := (H_s5.out.lt k hk).1; have := H_hb2.out; have := H_hb3.out; omega))
  have gw5 := fun o' => Vg.Grows.put H_gw4.out (show w.heap.size ≤ b3 from by have := H_hb1.out; have := H_hb2.out; have := H_hb3.out; omega) o'
  refine ⟨ta, tc, _, c1, wa, wc, rfl, ⟨⟨ta, tc, _, c1, wa, wc, by rw [List.length_set, H_hn.out, H_hq.out], ?_, ?_, ?_, ?_⟩, fun j hj => ?_⟩, gw5 _⟩
  · have e : (ps.set i (.slice ua N uc, ⟨⟨pr, bu, pe, dp⟩, ⟨L, last⟩⟩)).map (·.2.t) = ps.map (·.2.t) := Vg.map_set_same' fun hh => H_ht.out.symm
    rw [e]
    exact H_htr.out.grows (gw5 _)
  · intro k hk
    rw [List.length_set, H_hn.out] at hk
    exact .inl (H_hts.out k hk)
  · rw [List.length_set, H_hn.out]
    refine ⟨(q5 _).reads.weaken (Nat.zero_le _), fun k hk => .inr ?_⟩
    have := ((q5 (rbC (.slice none 0 0) (.slice none 0 0) (.slice none 0 0))).lt k hk).1
    have := H_hb1.out; have := H_hb2.out; have := H_hb3.out
    omega
  · rw [H_hq.out]
    exact (H_hrq.out.grows (gw5 _)).mono fun k hk => .inl hk
  · have hj' : j < ps.length := by simpa using hj
    by_cases hji : j = i
    · subst hji
      rw [List.getElem_set_self]
      exact ⟨⟨ua, uc, by show _ = Value.slice ua L.length uc; rw [H_hN.out], by have := H_hur.out.grows (gw5 (rbC (.slice ta n tc) (.slice (some ⟨g, o, none⟩) n c1) (.slice wa q wc))); show Vg.Reads 0 _ _ L.length _; rw [H_hN.out]; exact this⟩, H_hS.out⟩
    · rw [List.getElem_set_ne (fun hh => hji hh.symm)]
      exact ⟨(H_hra.out j hj').1.grows (gw5 _), fun k hk => .inl ((H_hra.out j hj').2 k hk)⟩
end
end Go.Proofs.Ytiinhofmhoplfaa
namespace Go.Proofs.Ytiinhofmhoplfaa
open Go.ChangeShapes Go.WideShapes Go.ChangeAt Go.RowKit
abbrev rb0 : Obj := rbC (.slice none 0 0) (.slice none 0 0) (.slice none 0 0)
section
variable {w w' : World} {S S' : Nat → Prop} {v : Value} {ps : List Vg.Sp} {rs rs' : List Vg.Wp} {Bs : List Vg.Bp} {Q Q' : List Vg.Wq} {k n q : Nat} {is : Bool} {x r m : Int} {ta sa wa wa' : Option Addr} {tc sc wc wc' : Nat}
/-- Other queues. -/
theorem RB.queues (h : RB S w (.agg #[.slice ta n tc, .slice sa n sc, .slice wa q wc]) ps rs) (hg : Vg.Grows w w') (hr : RQ w' (fun k => S k ∨ w.heap.size ≤ k) rs' (.slice wa' rs'.length wc')) : RB (fun k => S k ∨ w.heap.size ≤ k) w' (.agg #[.slice ta n tc, .slice sa n sc, .slice wa' rs'.length wc']) ps rs' := by
  obtain ⟨hn, -, h2, h3, h4, -⟩ := h.parts
  subst hn
  exact ⟨⟨ta, tc, sa, sc, wa', wc', rfl, h2.grows hg, fun k hk => .inl (h3 k hk), ⟨h4.1.grows hg, fun k hk => .inl (h4.2 k hk)⟩, hr⟩, fun i hi => ⟨(h.ra i hi).1.grows hg, fun k hk => .inl ((h.ra i hi).2 k hk)⟩⟩
theorem RQ.boundz (h : RQ w S rs v) : RQ w (fun j => S j ∧ j < w.heap.size) rs v :=
  ⟨h.shape, ⟨h.row.1, fun k hk => ⟨h.row.2 k hk, (h.row.1.own_lt k hk).2⟩⟩, h.ush, fun i hi => ⟨(h.pcs i hi).1, fun k hk => ⟨(h.pcs i hi).2 k hk, ((h.pcs i hi).1.own_lt k hk).2⟩⟩⟩
theorem rq_putz {i c : Int} (h : RQ w S rs v) (hQ : rs.map (·.2) = Q) (hk : Vg.Wk.Inv k Q) (hkk : k ≤ 1000) (hp : Vg.Wk.put Q i c = (Q', r)) :
    Calls Try.prog 19 #[v, .int .i64 i, .int .i64 c] w fun e w' => ∃ rs' a n c', e = .returned (.tuple #[.slice a n c', .int .i64 r]) ∧ rs'.length = n ∧ RQ w' (fun k => S k ∨ w.heap.size ≤ k) rs' (.slice a n c') ∧ rs'.map (·.2) = Q' ∧ Vg.Grows w w' := by
  subst hQ
  refine (rq_put i c (h.mono (S' := fun k => S k ∨ w.heap.size ≤ k) fun k hk => .inl hk) hk hkk (fun j hj => .inr hj)).mono ?_
  rintro e w' ⟨rs', v', rfl, h1, h2, h3⟩
  rw [hp] at h2 ⊢
  obtain ⟨a, c, rfl⟩ := h1.shape
  exact ⟨rs', a, _, c, rfl, rfl, h1, h2, h3⟩
theorem rb_put (i c : Int) (h : RB S w v ps rs) (hB : ps.map (·.2) = Bs) (hQ : rs.map (·.2) = Q) (hI : Vg.Bo.Inv k Bs Q) (hk : k ≤ 1000) (hn : ps.length = n) (hx : Vg.Bo.put n Q i c = (Q', r)) :
    Calls Try.prog 47 #[v, .int .i64 i, .int .i64 c] w fun e w' => ∃ rs' ta tc sa sc wa q wc, e = .returned (.tuple #[.agg #[.slice ta n tc, .slice sa n sc, .slice wa q wc], .int .i64 r]) ∧ RB (fun k => S k ∨ w.heap.size ≤ k) w' (.agg #[.slice ta n tc, .slice sa n sc, .slice wa q wc]) ps rs' ∧ rs'.map (·.2) = Q' ∧ Vg.Grows w w' := by
  obtain ⟨ta, tc, sa, sc, wa, wc, rfl, t1, t2⟩ := h.shape
  obtain ⟨q, hq⟩ : ∃ q, rs.length = q := ⟨_, rfl⟩
  rw [hn, hq] at h
  rw [hn] at t1 ⊢
  rw [hq]
  obtain ⟨-, -, -, -, -, hrq⟩ := h.parts
  have hrq := hrq.boundz
  by_cases hin : 0 ≤ i ∧ i < (n : Int)
  · obtain ⟨i, rfl⟩ : ∃ n : Nat, i = n := ⟨i.toNat, by omega⟩
    have hhas : decide ((0 : Int) ≤ (i : Int) ∧ (i : Int) < (ps.length : Int)) = true := by rw [hn]; simp; omega
    rw [Vg.Bo.put_in (by omega)] at hx
    clear hin
    have hwk := hI.wk
    have H_h := Lib.hid h; clear h; have H_hB := Lib.hid hB; clear hB; have H_hQ := Lib.hid hQ; clear hQ; have H_hI := Lib.hid hI; clear hI; have H_hn := Lib.hid hn; clear hn; have H_hq := Lib.hid hq; clear hq; have H_hrq := Lib.hid hrq; clear hrq; have H_hhas := Lib.hid hhas; clear hhas; have H_hx := Lib.hid hx; clear hx; have H_hwk := Lib.hid hwk; clear hwk
    go_enter Try.func47, Try.ntmps47
    go_upto_region 4 with (first | (go_at_call 60; (with_reducible refine (rb_has i (H_h.out.grows (by (repeat' (first | (with_reducible exact Vg.Grows.refl _) | (with_reducible assumption) | (with_reducible refine Vg.Grows.alloc ?_ _) | (with_reducible refine Vg.Grows.plus ?_ _ _) | (with_reducible refine Vg.Grows.drewN ?_ _) | (with_reducible refine Vg.Grows.drew ?_) | (with_reducible refine Vg.Grows.setCell ?_ ?_ _) | (with_reducible refine Vg.Grows.put ?_ ?_ _) | omega | (simp; omega) | (simp; done)))))).mono ?_); rintro e w1 ⟨rfl, x1, n1, rfl⟩; rw [H_hhas.out]) | (go_at_call 19; (with_reducible refine (rq_putz (H_hrq.out.grows (by (repeat' (first | (with_reducible exact Vg.Grows.refl _) | (with_reducible assumption) | (with_reducible refine Vg.Grows.alloc ?_ _) | (with_reducible refine Vg.Grows.plus ?_ _ _) | (with_reducible refine Vg.Grows.drewN ?_ _) | (with_reducible refine Vg.Grows.drew ?_) | (with_reducible refine Vg.Grows.setCell ?_ ?_ _) | (with_reducible refine Vg.Grows.put ?_ ?_ _) | omega | (simp; omega) | (simp; done))))) H_hQ.out H_hwk.out hk H_hx.out).mono ?_); rintro e w2 ⟨rs', a2, q2, c2, rfl, hl2, hr2, hm2, hg2⟩; have b1 := hg2.blk (b := w.heap.size) (o := rbC (.slice ta n tc) (.slice sa n sc) (.slice wa q wc)) (by go_simp); have b2 := hg2.blk (b := w.heap.size + 1) (o := rb0) (by go_simp); have hgw := Vg.Grows.trans (a := w) (by (repeat' (first | (with_reducible exact Vg.Grows.refl _) | (with_reducible assumption) | (with_reducible refine Vg.Grows.alloc ?_ _) | (with_reducible refine Vg.Grows.plus ?_ _ _) | (with_reducible refine Vg.Grows.drewN ?_ _) | (with_reducible refine Vg.Grows.drew ?_) | (with_reducible refine Vg.Grows.setCell ?_ ?_ _) | (with_reducible refine Vg.Grows.put ?_ ?_ _) | omega | (simp; omega) | (simp; done)))) hg2; have hsz := hg2.size; simp only [World.size_alloc, Vg.plus_size, Vg.put_size, World.size_setCell, World.size_drew, World.heap_drewN] at hsz hr2; have c_b1 := Vg.cells_of b1; have f_b1 := Vg.frozen_of b1; have p_b1 := Vg.setCell_of b1; have l_b1 := Vg.lt_of b1; have H_b1 := Lib.hid b1; clear b1; have c_b2 := Vg.cells_of b2; have f_b2 := Vg.frozen_of b2; have p_b2 := Vg.setCell_of b2; have l_b2 := Vg.lt_of b2; have H_b2 := Lib.hid b2; clear b2; have H_hl2 := Lib.hid hl2; clear hl2; have H_hr2 := Lib.hid hr2; clear hr2; have H_hm2 := Lib.hid hm2; clear hm2; have H_hgw := Lib.hid hgw; clear hgw))
    have hpc : ∀ (o : Obj) (cs : Array Value) (i : Nat), (Vg.put (Vg.put w2 (w.heap.size + 1) (.cells cs 80)) w.heap.size o).cell? ⟨w.heap.size + 1, i, none⟩ = cs[i]? := fun o cs i => Vg.cells_of ((Vg.put_heap_other (by omega)).trans (Vg.put_heap_same l_b2)) i
    have hg9 : ∀ o o', Vg.Grows w (Vg.put (Vg.put w2 (w.heap.size + 1) o') w.heap.size o) := fun o o' => Vg.Grows.put (Vg.Grows.put H_hgw.out (Nat.le_succ _) _) (Nat.le_refl _) _
    have hrf : ∀ o o', RQ (Vg.put (Vg.put w2 (w.heap.size + 1) o') w.heap.size o) (fun k => S k ∨ w.heap.size ≤ k) rs' (.slice a2 rs'.length c2) := fun o o' => by
      rw [H_hl2.out]
      refine (H_hr2.out.touch (t := fun k => k = w.heap.size ∨ k = w.heap.size + 1) (((Vg.Touch.refl _ _).put (.inr rfl) _).put (.inl rfl) _) fun k hk => by omega).mono fun k hk => ?_
      rcases hk with hk | hk
      · exact .inl hk.1
      · exact .inr (by omega)
    have H_hpc := Lib.hid hpc; clear hpc; have H_hg9 := Lib.hid hg9; clear hg9; have H_hrf := Lib.hid hrf; clear hrf
    go_wp2_with fail
    refine bodyPost_ret (by simp [results, Try.results47, go_sem, H_hpc.out] <;> try rfl) rfl ?_
    have hfin := H_h.out.queues (H_hg9.out (rbC (.slice ta n tc) (.slice sa n sc) (.slice a2 q2 c2)) (rbC (.slice ta n tc) (.slice sa n sc) (.slice a2 q2 c2))) (H_hrf.out _ _)
    rw [H_hl2.out] at hfin
    exact ⟨rs', _, _, _, _, _, _, _, rfl, hfin, H_hm2.out, H_hg9.out _ _⟩
  · rw [Vg.Bo.put_out (by omega)] at hx
    simp only [Prod.mk.injEq] at hx
    obtain ⟨rfl, rfl⟩ := hx
    have hhas : decide (0 ≤ i ∧ i < (ps.length : Int)) = false := decide_eq_false (by rw [hn]; exact hin)
    clear hin
    have H_h := Lib.hid h; clear h; have H_hB := Lib.hid hB; clear hB; have H_hQ := Lib.hid hQ; clear hQ; have H_hI := Lib.hid hI; clear hI; have H_hn := Lib.hid hn; clear hn; have H_hq := Lib.hid hq; clear hq; have H_hrq := Lib.hid hrq; clear hrq; have H_hhas := Lib.hid hhas; clear hhas
    go_enter Try.func47, Try.ntmps47
    go_wp2_with ((go_at_call 60; (with_reducible refine (rb_has i (H_h.out.grows (by (repeat' (first | (with_reducible exact Vg.Grows.refl _) | (with_reducible assumption) | (with_reducible refine Vg.Grows.alloc ?_ _) | (with_reducible refine Vg.Grows.plus ?_ _ _) | (with_reducible refine Vg.Grows.drewN ?_ _) | (with_reducible refine Vg.Grows.drew ?_) | (with_reducible refine Vg.Grows.setCell ?_ ?_ _) | (with_reducible refine Vg.Grows.put ?_ ?_ _) | omega | (simp; omega) | (simp; done)))))).mono ?_); rintro e w1 ⟨rfl, x1, n1, rfl⟩; rw [H_hhas.out]))
    go_returns
    exact ⟨rs, _, _, _, _, _, _, _, rfl, (H_h.out.grows (by (repeat' (first | (with_reducible exact Vg.Grows.refl _) | (with_reducible assumption) | (with_reducible refine Vg.Grows.alloc ?_ _) | (with_reducible refine Vg.Grows.plus ?_ _ _) | (with_reducible refine Vg.Grows.drewN ?_ _) | (with_reducible refine Vg.Grows.drew ?_) | (with_reducible refine Vg.Grows.setCell ?_ ?_ _) | (with_reducible refine Vg.Grows.put ?_ ?_ _) | omega | (simp; omega) | (simp; done))))).mono fun k hk => .inl hk, H_hQ.out, by (repeat' (first | (with_reducible exact Vg.Grows.refl _) | (with_reducible assumption) | (with_reducible refine Vg.Grows.alloc ?_ _) | (with_reducible refine Vg.Grows.plus ?_ _ _) | (with_reducible refine Vg.Grows.drewN ?_ _) | (with_reducible refine Vg.Grows.drew ?_) | (with_reducible refine Vg.Grows.setCell ?_ ?_ _) | (with_reducible refine Vg.Grows.put ?_ ?_ _) | omega | (simp; omega) | (simp; done)))⟩
end
end Go.Proofs.Ytiinhofmhoplfaa
