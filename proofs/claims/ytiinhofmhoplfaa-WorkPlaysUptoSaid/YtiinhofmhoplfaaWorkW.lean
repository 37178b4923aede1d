/- WorkPlays: the walk. -/
import Derived.Test.YtiinhofmhoplfaaWorkV
set_option linter.unusedSimpArgs false
set_option linter.unusedVariables false
set_option maxHeartbeats 4000000
set_option maxRecDepth 100000
namespace Vg
open Go
theorem Reads.lt_own {S : Nat} {w : World} {sv : Value} {n : Nat} {xs : List Value} (h : Reads S w sv n xs) : ∀ k, sv.ownBlock = some k → k < w.heap.size := by
  intro k hk
  rcases h with ⟨rfl, _⟩ | ⟨g, off, cap, rfl, h2, h3, _⟩
  · simp [Value.ownBlock] at hk
  · have : g = k := by simpa [Value.ownBlock] using hk
    omega
end Vg
namespace Go.Proofs.Ytiinhofmhoplfaa
open Go.ChangeShapes Go.WideShapes Go.ChangeAt Go.RowKit
abbrev SO (O : Nat → Prop) (b : Nat) : Nat → Prop := fun j => ¬ O j ∧ j ≠ b
abbrev act17 (a b c : Int) : Obj := .cells #[.int .i64 a, .int .i64 b, .int .i64 c] 34
section
variable {w w' w0 w2 w3 : World} {b B n k : Nat} {S : Nat → Prop} {Q Q' : List Vg.Wq} {v u : Value} {O : Nat → Prop} {rs : List Vg.Wp} {r x m cost : Int} {is : Bool}
theorem RQ.bound (h : RQ w S rs u) : RQ w (fun j => S j ∧ j < w.heap.size) rs u :=
  ⟨h.shape, ⟨h.row.1, fun k hk => ⟨h.row.2 k hk, Vg.Reads.lt_own h.row.1 k hk⟩⟩, h.ush, fun i hi => ⟨(h.pcs i hi).1, fun k hk => ⟨(h.pcs i hi).2 k hk, (Vg.Reads.lt_own (h.pcs i hi).1 k hk)⟩⟩⟩
theorem wp_step (h : RQ w2 (SO O b) rs u) (hs : WSn w2 w3 b B Q' v O) (hw : WS w2 b B Q v O) (hg : Vg.Grows w0 w2) (hB : w0.heap.size ≤ B) : ∃ O', WS w3 b B Q' v O' ∧ RQ w3 (SO O' b) rs u ∧ Vg.Grows w0 w3 ∧ w2.heap.size ≤ w3.heap.size := by
  obtain ⟨O', h1, h2, h3⟩ := hs
  refine ⟨O', h1, (h.bound.touch h3 fun k hk => hk.1.1).mono fun k hk => ⟨fun hh => ?_, hk.1.2⟩, hw.grown hg hB h3, h3.size⟩
  rcases h2 k hh with h4 | h4
  · exact hk.1.1 h4
  · have := hk.2; omega
theorem ws_new' {L : List Int} {sa : Option Addr} {sc n : Nat} (hn : L.length = n) (hr : Vg.IR w sa sc L) (h0 : 1 ≤ n) (h1 : n ≤ 64) (h2 : L.any Vg.oddW = false) :
    Calls Try.prog 16 #[.slice sa n sc] w fun e w' => ∃ v O, e = .returned (.tuple #[.pointer (some ⟨w.heap.size, 0, none⟩), .int .i64 0]) ∧ WS w' w.heap.size (w.heap.size + 1) (L.map fun d => ⟨[], d, 0⟩) v O ∧ Vg.Grows w w' :=
  ws_new hn hr (by omega) (by omega) h2 rfl
theorem rq_putx (h : RQ w S rs u) (hQ : rs.map (·.2) = Q) (hk : Vg.Wk.Inv k Q) (hkk : k ≤ 1000) (hS : ∀ j, w.heap.size ≤ j → S j) (hp : Vg.Wk.put Q m cost = (Q', r)) (hn : rs.length = n) :
    Calls Try.prog 19 #[u, .int .i64 m, .int .i64 cost] w fun e w' => ∃ rs' a c, e = .returned (.tuple #[.slice a n c, .int .i64 r]) ∧ RQ w' S rs' (.slice a n c) ∧ rs'.map (·.2) = Q' ∧ rs'.length = n ∧ Vg.Grows w w' := by
  subst hQ
  have hl := Vg.Wk.put_len (rs.map (·.2)) m cost
  refine (rq_put m cost h hk hkk hS).mono ?_
  rintro e w' ⟨rs', v', rfl, h1, h2, h3⟩
  rw [hp] at h2 hl ⊢
  have hn' : rs'.length = n := by
    have e1 : rs'.length = Q'.length := by have := congrArg List.length h2; simpa using this
    simp only [List.length_map] at hl
    omega
  obtain ⟨a, c, rfl⟩ := h1.shape
  rw [hn'] at h1 ⊢
  exact ⟨rs', a, c, rfl, h1, h2, hn', h3⟩
theorem rq_gox (h : RQ w S rs u) (hQ : rs.map (·.2) = Q) (hk : Vg.Wk.Inv k Q) (hS : ∀ j, w.heap.size ≤ j → S j) (hp : Vg.Wk.go Q m cost = (Q', is, r)) (hn : rs.length = n) :
    Calls Try.prog 21 #[u, .int .i64 m, .int .i64 cost] w fun e w' => ∃ rs' a c, e = .returned (.tuple #[.slice a n c, .bool is, .int .i64 r]) ∧ RQ w' S rs' (.slice a n c) ∧ rs'.map (·.2) = Q' ∧ rs'.length = n ∧ Vg.Grows w w' := by
  subst hQ
  have hl := Vg.Wk.go_len (rs.map (·.2)) m cost
  refine (rq_go m cost h hk hS).mono ?_
  rintro e w' ⟨rs', v', rfl, h1, h2, h3⟩
  rw [hp] at h2 hl ⊢
  have hn' : rs'.length = n := by
    have e1 : rs'.length = Q'.length := by have := congrArg List.length h2; simpa using this
    simp only [List.length_map] at hl
    omega
  obtain ⟨a, c, rfl⟩ := h1.shape
  rw [hn'] at h1 ⊢
  exact ⟨rs', a, c, rfl, h1, h2, hn', h3⟩
theorem rq_leftx (h : RQ w S rs u) (hQ : rs.map (·.2) = Q) (hx : Vg.Wk.left Q m = x) :
    Calls Try.prog 18 #[u, .int .i64 m] w fun e w' => e = .returned (.int .i64 x) ∧ w = w' := by
  subst hQ hx
  exact rq_left m h
theorem rq_firstx {r m : Int} {is : Bool} (h : RQ w S rs u) (hQ : rs.map (·.2) = Q) (hr : Vg.Wk.fidx Q = r) (hm : max r 0 = m) (hd : decide (0 ≤ r) = is) :
    Calls Try.prog 24 #[u] w fun e w' => e = .returned (.tuple #[.int .i64 m, .bool is]) ∧ Vg.Grows w w' := by
  subst hQ
  exact rq_first h hr hm hd
end
theorem WorkPlays_walk (ca : Option Addr) (cn cc : Nat) (CD : Nat → Nat → Int) (a : Option Addr) (len cap : Nat) (D : Nat → Nat → Int) (w : World) (hrC : Vg.intRows w [.i64] ca cn cc CD) (hr : Vg.intRows w [.i64, .i64, .i64] a len cap D) (hcn : cn ≤ 1048576) :
    Calls Try.prog 3 #[.slice ca cn cc, .slice a len cap] w fun e w' => e = .returned (.bool true) ∧ Vg.Grows w w' := by
  obtain ⟨L, hIR, hLl⟩ : ∃ L, Vg.IR w ca cc L ∧ L.length = cn := ⟨_, Vg.IR.of_rows hrC, by simp⟩
  have hcc1 := hIR.1
  have hcc2 : cc ≤ 9223372036854775807 := hIR.2.1
  rw [hLl] at hcc1
  clear hrC
  have hlen := hr.1
  have hcap : cap ≤ 9223372036854775807 := hr.2.1
  by_cases hok : (1 ≤ cn ∧ cn ≤ 64) ∧ L.any Vg.oddW = false
  · obtain ⟨⟨hc0, hc64⟩, h2⟩ := hok
    have RH := Lib.hid (fun h => Vg.intRows.open (by decide) hr h)
    clear hr
    have hinv0 := Vg.Wk.Inv.start (L := L) (by omega) h2
    have his : decide (1 ≤ cn ∧ cn ≤ 64) = true := by simp; omega
    have H_hIR := Lib.hid hIR; clear hIR; have H_h2 := Lib.hid h2; clear h2; have H_hLl := Lib.hid hLl; clear hLl; have H_hinv0 := Lib.hid hinv0; clear hinv0; have H_his := Lib.hid his; clear his
    go_enter Try.func3, Try.ntmps3
    go_wp2_with ((go_at_call 15; refine (lives17 _).mono ?_; rintro e w1 ⟨rfl, x0, n0, rfl⟩))
    refine (ws_new' H_hLl.out (H_hIR.out.grows ((Vg.Grows.refl w).plus x0 n0)) hc0 hc64 H_h2.out).mono ?_
    rintro e W1 ⟨v, O, rfl, hs, hg0'⟩
    obtain ⟨b, hb⟩ : ∃ b, w.heap.size + Vg.sz x0 = b := ⟨_, rfl⟩
    simp only [Vg.plus_size, hb] at hs ⊢
    have hg0 : Vg.Grows w W1 := ((Vg.Grows.refl w).plus x0 n0).trans hg0'
    have hbw : w.heap.size ≤ b := by omega
    have hbB : b < b + 1 := by omega
    have hSn : ∀ k, W1.heap.size ≤ k → SO O b k := fun k hk => ⟨fun hh => by have := (hs.own k hh).2; omega, by have := hs.hB; omega⟩
    have H_hb := Lib.hid hb; clear hb; have H_hs := Lib.hid hs; clear hs; have H_hSn := Lib.hid hSn; clear hSn
    clear hg0'
    by_cases hl : 100 < len
    · go_wp2_with ((go_at_call 17; refine (rq_new H_hLl.out (H_hIR.out.grows hg0) hcn H_h2.out H_his.out H_hSn.out).mono ?_; rintro e W2 ⟨ra, rc, rfl, hra, hg2⟩; have hg20 := hg0.trans hg2; have H_hra := Lib.hid hra; clear hra))
      go_ret
      exact ⟨rfl, by (repeat' (first | (with_reducible exact Vg.Grows.refl _) | (with_reducible assumption) | (with_reducible refine Vg.Grows.alloc ?_ _) | (with_reducible refine Vg.Grows.plus ?_ _ _) | (with_reducible refine Vg.Grows.drewN ?_ _) | (with_reducible refine Vg.Grows.drew ?_) | (with_reducible refine Vg.Grows.setCell ?_ ?_ _) | (with_reducible refine Vg.Grows.put ?_ ?_ _) | omega | (simp; omega) | (simp; done)))⟩
    · go_wp2_with ((go_at_call 17; refine (rq_new H_hLl.out (H_hIR.out.grows hg0) hcn H_h2.out H_his.out H_hSn.out).mono ?_; rintro e W2 ⟨ra, rc, rfl, hra, hg2⟩; have hg20 := hg0.trans hg2; have hs2 := H_hs.out.grows hg2; have H_hra := Lib.hid hra; clear hra; have H_hs2 := Lib.hid hs2; clear hs2))
      go_loopw [7, 61] (fun vq i wr => ∃ (k : Nat) (Q : List Vg.Wq) (rs : List Vg.Wp) (ra : Option Addr) (rc : Nat) (O : Nat → Prop), k ≤ len ∧ i = .int .i64 k ∧ vq = .slice ra cn rc ∧ rs.length = cn ∧ Vg.Wk.Inv k Q ∧ rs.map (·.2) = Q ∧ Vg.Grows w wr ∧ WS wr b (b + 1) Q v O ∧ RQ wr (SO O b) rs vq) (fun _ i _ => len - (intOf i).toNat)
      case atStart =>
        exact ⟨0, _, L.map Vg.rq0, ra, rc, O, by omega, rfl, rfl, by rw [List.length_map]; exact H_hLl.out, H_hinv0.out, by rw [List.map_map]; rfl, hg20, H_hs2.out, H_hra.out⟩
      case round =>
        obtain ⟨k, Q, rs, ra, rc, O, hk, rfl, rfl, hrn, hinv, hmap, hgr, hws, hrq⟩ := hrel
        by_cases hlt : k < len
        · obtain ⟨ba, off, rfl, hba, hcx⟩ := RH.out (by omega)
          have hc0 := hcx k hlt 0 (by decide)
          have hc1 := hcx k hlt 1 (by decide)
          have hc2 := hcx k hlt 2 (by decide)
          generalize D k 0 = kd at hc0
          generalize D k 1 = xm at hc1
          generalize D k 2 = xn at hc2
          simp only [List.length_cons, List.length_nil, Nat.zero_add, List.getElem_cons_zero, List.getElem_cons_succ] at hc0 hc1 hc2
          have hc0 := (hgr.below.cell (p := ⟨ba, off + k * 3, none⟩) hba).trans hc0.1
          have hc1 := (hgr.below.cell (p := ⟨ba, off + k * 3 + 1, none⟩) hba).trans hc1.1
          have hc2 := (hgr.below.cell (p := ⟨ba, off + k * 3 + 2, none⟩) hba).trans hc2.1
          have hbar : ba < wr.heap.size := Nat.lt_of_lt_of_le hba hgr.size
          clear hcx
          have H_hrn := Lib.hid hrn; clear hrn; have H_hinv := Lib.hid hinv; clear hinv; have H_hmap := Lib.hid hmap; clear hmap; have H_hws := Lib.hid hws; clear hws; have H_hrq := Lib.hid hrq; clear hrq
          go_upto_if 67 with (fail)
          obtain ⟨wx, hwx⟩ : ∃ wx, (wr.alloc (act17 kd xm xn)) = wx := ⟨_, rfl⟩
          obtain ⟨bt, hbt'⟩ : ∃ bt, wr.heap.size = bt := ⟨_, rfl⟩
          have x2 : Vg.blk wx bt = some (act17 kd xm xn) := by rw [← hwx, ← hbt']; exact Vg.alloc_heap_at rfl
          have hgx : Vg.Grows wr wx := by rw [← hwx]; (repeat' (first | (with_reducible exact Vg.Grows.refl _) | (with_reducible assumption) | (with_reducible refine Vg.Grows.alloc ?_ _) | (with_reducible refine Vg.Grows.plus ?_ _ _) | (with_reducible refine Vg.Grows.drewN ?_ _) | (with_reducible refine Vg.Grows.drew ?_) | (with_reducible refine Vg.Grows.setCell ?_ ?_ _) | (with_reducible refine Vg.Grows.put ?_ ?_ _) | omega | (simp; omega) | (simp; done)))
          have hsx := H_hws.out.grows hgx
          have hrx := H_hrq.out.grows hgx
          have hgwx : Vg.Grows w wx := hgr.trans hgx
          have hwbt : w.heap.size ≤ bt := by have := hgr.size; omega
          have hbtO : ¬ O bt := fun hh => by have := (H_hws.out.own bt hh).2; omega
          have hbtb : bt ≠ b := by have := H_hws.out.hB; omega
          have hrxt : RQ wx (fun j => SO O b j ∧ j ≠ bt) rs (.slice ra cn rc) := (H_hrq.out.bound.grows hgx).mono fun j hj => ⟨hj.1, by have := hj.2; omega⟩
          rw [hwx, hbt']
          have c_x2 := Vg.cells_of x2; have f_x2 := Vg.frozen_of x2; have p_x2 := Vg.setCell_of x2; have l_x2 := Vg.lt_of x2; have H_x2 := Lib.hid x2; clear x2
          have H_hsx := Lib.hid hsx; clear hsx; have H_hrx := Lib.hid hrx; clear hrx; have H_hrxt := Lib.hid hrxt; clear hrxt; have H_hwx := Lib.hid hwx; clear hwx; have H_hbt' := Lib.hid hbt'; clear hbt'; have H_hbtO := Lib.hid hbtO; clear hbtO
          go_cut [] (fun wy => ∃ (kd' n' : Int), Vg.blk wy bt = some (act17 kd' xm n') ∧ Vg.Grows w wy ∧ WS wy b (b + 1) Q v O ∧ RQ wy (SO O b) rs (.slice ra cn rc))
          case first =>
            by_cases hkd : kd = 2
            · subst hkd
              obtain ⟨lf, hlf⟩ : ∃ lf, Vg.Wk.left Q xm = lf := ⟨_, rfl⟩
              have hfin : ∀ (q : Int) wz, Vg.Grows (Vg.put wx bt (act17 1 xm q)) wz → ∃ (kd' n' : Int), Vg.blk wz bt = some (act17 kd' xm n') ∧ Vg.Grows w wz ∧ WS wz b (b + 1) Q v O ∧ RQ wz (SO O b) rs (.slice ra cn rc) := fun q wz hgz => by
                have hT : Vg.Touch (fun j => j = bt) wx (Vg.put wx bt (act17 1 xm q)) := Vg.Touch.put (t := fun j => j = bt) (Vg.Touch.refl _ _) rfl _
                refine ⟨1, q, hgz.blk (Vg.put_heap_same l_x2), (Vg.Grows.put hgwx hwbt _).trans hgz, (H_hsx.out.touch hT (fun hh => hbtb hh.symm) (fun j hj hh => H_hbtO.out (hh ▸ hj))).grows hgz, ((H_hrxt.out.touch hT fun j hj => hj.2).mono fun j hj => hj.1).grows hgz⟩
              have H_hlf := Lib.hid hlf; clear hlf; have H_hfin := Lib.hid hfin; clear hfin
              by_cases hmin : xn < lf
              · go_wp2_with fail
                go_region_with ((go_at_call 18; refine (rq_leftx (H_hrx.out.grows (by (repeat' (first | (with_reducible exact Vg.Grows.refl _) | (with_reducible assumption) | (with_reducible refine Vg.Grows.alloc ?_ _) | (with_reducible refine Vg.Grows.plus ?_ _ _) | (with_reducible refine Vg.Grows.drewN ?_ _) | (with_reducible refine Vg.Grows.drew ?_) | (with_reducible refine Vg.Grows.setCell ?_ ?_ _) | (with_reducible refine Vg.Grows.put ?_ ?_ _) | omega | (simp; omega) | (simp; done))))) H_hmap.out H_hlf.out).mono ?_; rintro e w1 ⟨rfl, rfl⟩))
                all_goals go_wp2_with fail
                all_goals go_meet
                all_goals exact H_hfin.out _ _ (by (repeat' (first | (with_reducible exact Vg.Grows.refl _) | (with_reducible assumption) | (with_reducible refine Vg.Grows.alloc ?_ _) | (with_reducible refine Vg.Grows.plus ?_ _ _) | (with_reducible refine Vg.Grows.drewN ?_ _) | (with_reducible refine Vg.Grows.drew ?_) | (with_reducible refine Vg.Grows.setCell ?_ ?_ _) | (with_reducible refine Vg.Grows.put ?_ ?_ _) | omega | (simp; omega) | (simp; done))))
              · go_wp2_with fail
                go_region_with ((go_at_call 18; refine (rq_leftx (H_hrx.out.grows (by (repeat' (first | (with_reducible exact Vg.Grows.refl _) | (with_reducible assumption) | (with_reducible refine Vg.Grows.alloc ?_ _) | (with_reducible refine Vg.Grows.plus ?_ _ _) | (with_reducible refine Vg.Grows.drewN ?_ _) | (with_reducible refine Vg.Grows.drew ?_) | (with_reducible refine Vg.Grows.setCell ?_ ?_ _) | (with_reducible refine Vg.Grows.put ?_ ?_ _) | omega | (simp; omega) | (simp; done))))) H_hmap.out H_hlf.out).mono ?_; rintro e w1 ⟨rfl, rfl⟩))
                all_goals go_wp2_with fail
                all_goals go_meet
                all_goals exact H_hfin.out _ _ (by (repeat' (first | (with_reducible exact Vg.Grows.refl _) | (with_reducible assumption) | (with_reducible refine Vg.Grows.alloc ?_ _) | (with_reducible refine Vg.Grows.plus ?_ _ _) | (with_reducible refine Vg.Grows.drewN ?_ _) | (with_reducible refine Vg.Grows.drew ?_) | (with_reducible refine Vg.Grows.setCell ?_ ?_ _) | (with_reducible refine Vg.Grows.put ?_ ?_ _) | omega | (simp; omega) | (simp; done))))
            · have hb0 : (kd == 2) = false := by simp [hkd]
              go_wp2_with fail
              go_meet
              exact ⟨_, _, H_x2.out, hgwx, H_hsx.out, H_hrx.out⟩
          case rest =>
            obtain ⟨kd', n', y2, hgy, hsy, hry⟩ := hcut
            have hSy : ∀ j, wc.heap.size ≤ j → SO O b j := fun j hj => ⟨fun hh => by have := (hsy.own j hh).2; omega, by have := hsy.hB; omega⟩
            have hbtO2 : ¬ O bt := H_hbtO.out
            have hk1 : k ≤ 1000 := by omega
            clear c_x2 f_x2 p_x2
            have c_y2 := Vg.cells_of y2; have f_y2 := Vg.frozen_of y2; have p_y2 := Vg.setCell_of y2; have l_y2 := Vg.lt_of y2; have H_y2 := Lib.hid y2; clear y2
            have H_hsy := Lib.hid hsy; clear hsy; have H_hry := Lib.hid hry; clear hry; have H_hSy := Lib.hid hSy; clear hSy; have H_hbtO2 := Lib.hid hbtO2; clear hbtO2
            go_upto_block 2 with (fail)
            go_cut [7] (fun vq wy => ∃ (Q : List Vg.Wq) (rs : List Vg.Wp) (ra : Option Addr) (rc : Nat) (O : Nat → Prop) (kd' n' : Int), vq = .slice ra cn rc ∧ rs.length = cn ∧ Vg.Wk.Inv (k + 1) Q ∧ rs.map (·.2) = Q ∧ Vg.Grows w wy ∧ WS wy b (b + 1) Q v O ∧ RQ wy (SO O b) rs vq ∧ Vg.blk wy bt = some (act17 kd' xm n'))
            case first =>
              by_cases hv0 : kd' = 0
              · subst hv0
                obtain ⟨⟨Q', r⟩, hlk⟩ : ∃ p, Vg.Wk.put Q xm n' = p := ⟨_, rfl⟩
                have hinv' : Vg.Wk.Inv (k + 1) Q' := by have := H_hinv.out.put xm n'; rw [hlk] at this; exact this
                have hok : ∀ q ∈ Q, q.ok := H_hinv.out.ok (by omega)
                have hrr : (r != r) = false := by simp
                have H_hlk := Lib.hid hlk; clear hlk; have H_hinv' := Lib.hid hinv'; clear hinv'; have H_hok := Lib.hid hok; clear hok
                go_wp2_with (first | (go_at_call 19; refine (rq_putx H_hry.out H_hmap.out H_hinv.out hk1 H_hSy.out H_hlk.out H_hrn.out).mono ?_; rintro e w2 ⟨rs2, ra2, rc2, rfl, hra2, hmap2, hrn2, hg2⟩; have z2 := hg2.blk H_y2.out; have hs2 := H_hsy.out.grows hg2; have hgw2 := hgy.trans hg2; clear c_y2 f_y2 p_y2; have c_z2 := Vg.cells_of z2; have f_z2 := Vg.frozen_of z2; have p_z2 := Vg.setCell_of z2; have l_z2 := Vg.lt_of z2; have H_z2 := Lib.hid z2; clear z2; have H_hra2 := Lib.hid hra2; clear hra2; have H_hs2 := Lib.hid hs2; clear hs2; have H_hmap2 := Lib.hid hmap2; clear hmap2; have H_hrn2 := Lib.hid hrn2; clear hrn2; have H_hg2 := Lib.hid hg2; clear hg2) | (go_at_call 20; refine (ws_put xm n' (H_hs2.out) H_hok.out H_hlk.out).mono ?_; rintro e w3 ⟨rfl, hsn⟩; have z3 := (hsn.choose_spec.2.2).bk H_z2.out H_hbtO2.out; obtain ⟨O3, hs3, hr3, hgw3, hsz3⟩ := wp_step H_hra2.out hsn H_hs2.out hgw2 (by omega); clear c_z2 f_z2 p_z2; have c_z3 := Vg.cells_of z3; have f_z3 := Vg.frozen_of z3; have p_z3 := Vg.setCell_of z3; have l_z3 := Vg.lt_of z3; have H_z3 := Lib.hid z3; clear z3; have H_hs3 := Lib.hid hs3; clear hs3; have H_hr3 := Lib.hid hr3; clear hr3; have H_hsn := Lib.hid hsn; clear hsn))
                go_meet
                exact ⟨Q', rs2, ra2, rc2, O3, 0, n', rfl, H_hrn2.out, H_hinv'.out, H_hmap2.out, hgw3, H_hs3.out, H_hr3.out, H_z3.out⟩
              · by_cases hv1 : kd' = 1
                · subst hv1
                  obtain ⟨⟨Q', is, r⟩, hlk⟩ : ∃ p, Vg.Wk.go Q xm n' = p := ⟨_, rfl⟩
                  have hinv' : Vg.Wk.Inv (k + 1) Q' := by have := (H_hinv.out.go xm n').mono (Nat.le_succ k); rw [hlk] at this; exact this
                  have hok : ∀ q ∈ Q, q.ok := H_hinv.out.ok (by omega)
                  have hrr : (r != r) = false := by simp
                  have hii : (is != is) = false := by simp
                  have H_hlk := Lib.hid hlk; clear hlk; have H_hinv' := Lib.hid hinv'; clear hinv'; have H_hok := Lib.hid hok; clear hok
                  go_wp2_with (first | (go_at_call 21; refine (rq_gox H_hry.out H_hmap.out H_hinv.out H_hSy.out H_hlk.out H_hrn.out).mono ?_; rintro e w2 ⟨rs2, ra2, rc2, rfl, hra2, hmap2, hrn2, hg2⟩; have z2 := hg2.blk H_y2.out; have hs2 := H_hsy.out.grows hg2; have hgw2 := hgy.trans hg2; clear c_y2 f_y2 p_y2; have c_z2 := Vg.cells_of z2; have f_z2 := Vg.frozen_of z2; have p_z2 := Vg.setCell_of z2; have l_z2 := Vg.lt_of z2; have H_z2 := Lib.hid z2; clear z2; have H_hra2 := Lib.hid hra2; clear hra2; have H_hs2 := Lib.hid hs2; clear hs2; have H_hmap2 := Lib.hid hmap2; clear hmap2; have H_hrn2 := Lib.hid hrn2; clear hrn2; have H_hg2 := Lib.hid hg2; clear hg2) | (go_at_call 22; refine (ws_go xm n' (H_hs2.out) H_hok.out H_hlk.out).mono ?_; rintro e w3 ⟨rfl, hsn⟩; have z3 := (hsn.choose_spec.2.2).bk H_z2.out H_hbtO2.out; obtain ⟨O3, hs3, hr3, hgw3, hsz3⟩ := wp_step H_hra2.out hsn H_hs2.out hgw2 (by omega); clear c_z2 f_z2 p_z2; have c_z3 := Vg.cells_of z3; have f_z3 := Vg.frozen_of z3; have p_z3 := Vg.setCell_of z3; have l_z3 := Vg.lt_of z3; have H_z3 := Lib.hid z3; clear z3; have H_hs3 := Lib.hid hs3; clear hs3; have H_hr3 := Lib.hid hr3; clear hr3; have H_hsn := Lib.hid hsn; clear hsn))
                  go_meet
                  exact ⟨Q', rs2, ra2, rc2, O3, 1, n', rfl, H_hrn2.out, H_hinv'.out, H_hmap2.out, hgw3, H_hs3.out, H_hr3.out, H_z3.out⟩
                · have hb0 : (kd' == 0) = false := by simp [hv0]
                  have hb1 : (kd' == 1) = false := by simp [hv1]
                  clear hv0 hv1
                  go_wp2_with fail
                  go_meet
                  exact ⟨Q, rs, ra, rc, O, kd', n', rfl, H_hrn.out, H_hinv.out.mono (Nat.le_succ k), H_hmap.out, hgy, H_hsy.out, H_hry.out, H_y2.out⟩
            case rest =>
              obtain ⟨Q2, rs2, ra2, rc2, O2, kd2, n2, rfl, hrn2, hinv2, hmap2, hgw2, hs2, hr2, z2⟩ := hcut
              clear c_y2 f_y2 p_y2
              have c_z2 := Vg.cells_of z2; have f_z2 := Vg.frozen_of z2; have p_z2 := Vg.setCell_of z2; have l_z2 := Vg.lt_of z2; have H_z2 := Lib.hid z2; clear z2
              obtain ⟨fr, hfr⟩ : ∃ fr, Vg.Wk.fidx Q2 = fr := ⟨_, rfl⟩
              obtain ⟨fm, hfm⟩ : ∃ fm, max fr 0 = fm := ⟨_, rfl⟩
              obtain ⟨fi, hfi⟩ : ∃ fi, decide (0 ≤ fr) = fi := ⟨_, rfl⟩
              obtain ⟨lf, hlf⟩ : ∃ lf, Vg.Wk.left Q2 xm = lf := ⟨_, rfl⟩
              obtain ⟨wt, hwt⟩ : ∃ wt, Vg.Wk.waiting Q2 xm = wt := ⟨_, rfl⟩
              obtain ⟨ls, hls⟩ : ∃ ls, Vg.Wk.lost Q2 xm = ls := ⟨_, rfl⟩
              have hfb := Vg.Wk.fidx_range hinv2
              rw [hfr] at hfb
              obtain ⟨hfb1, hfb2⟩ := hfb
              have q1 : (fm != fm) = false := by simp
              have q2 : (fi != fi) = false := by simp
              have q3 : (lf != lf) = false := by simp
              have q4 : (ls != ls) = false := by simp
              have q5 : (wt != wt) = false := by simp
              by_cases hin : 0 ≤ xm ∧ xm < cn
              · obtain ⟨hx0, hx1⟩ := hin
                obtain ⟨i, rfl⟩ : ∃ i : Nat, xm = i := ⟨xm.toNat, by omega⟩
                have hi : i < rs2.length := by omega
                have hQi : i < Q2.length := by rw [← hmap2, List.length_map]; exact hi
                rw [Vg.Wk.waiting_in hQi] at hwt
                rw [Vg.Wk.lost_in hQi] at hls
                have hQg : Q2[i] = rs2[i].2 := by subst hmap2; rw [List.getElem_map]
                rw [hQg] at hwt hls
                have hu := hr2.ush i hi
                have rr := hr2.row.1
                have rr' : Vg.Reads 0 wc (.slice ra2 rs2.length rc2) rs2.length (Vg.rqcells rs2) := by rw [hrn2] at rr ⊢; exact rr
                obtain ⟨g, o, rfl, hg2, hcc1, hcc2, c0, c1, c3⟩ := rr'.rqueue i hi
                obtain ⟨⟨u, ⟨L2, d2, lo2⟩⟩, hx⟩ : ∃ x, rs2[i] = x := ⟨_, rfl⟩
                rw [hx] at c0 c1 c3 hu hwt hls
                simp only [] at c0 c1 c3 hu hwt hls
                obtain ⟨ua, uc, rfl⟩ := hu
                subst hls
                rw [hrn2] at hcc1
                obtain ⟨N, hN⟩ : ∃ N, L2.length = N := ⟨_, rfl⟩
                rw [hN] at c1 hwt
                have hwtN : (wt != (N : Int)) = false := by simp [hwt]
                have hwt2 : Vg.Wk.waiting Q2 i = wt := by rw [Vg.Wk.waiting_in hQi, hQg, hx]; show (L2.length : Int) = wt; rw [hN]; exact hwt
                have hls2 : Vg.Wk.lost Q2 i = lo2 := by rw [Vg.Wk.lost_in hQi, hQg, hx]
                have hin1 : i < cn := by omega
                clear hwt rr rr'
                have H_hs2 := Lib.hid hs2; clear hs2; have H_hr2 := Lib.hid hr2; clear hr2; have H_hrn2 := Lib.hid hrn2; clear hrn2; have H_hinv2 := Lib.hid hinv2; clear hinv2; have H_hmap2 := Lib.hid hmap2; clear hmap2; have H_hfr := Lib.hid hfr; clear hfr; have H_hfm := Lib.hid hfm; clear hfm; have H_hfi := Lib.hid hfi; clear hfi; have H_hlf := Lib.hid hlf; clear hlf; have H_hwt2 := Lib.hid hwt2; clear hwt2; have H_hls2 := Lib.hid hls2; clear hls2; have H_hx := Lib.hid hx; clear hx; have H_hQg := Lib.hid hQg; clear hQg; have H_hN := Lib.hid hN; clear hN
                go_wp2_with (first | (go_at_call 23; refine (ws_first H_hs2.out H_hfr.out hfb1 hfb2 H_hfm.out H_hfi.out).mono ?_; rintro e w4 ⟨rfl, x4, n4, rfl⟩) | (go_at_call 24; refine (rq_firstx (H_hr2.out.grows (by (repeat' (first | (with_reducible exact Vg.Grows.refl _) | (with_reducible assumption) | (with_reducible refine Vg.Grows.alloc ?_ _) | (with_reducible refine Vg.Grows.plus ?_ _ _) | (with_reducible refine Vg.Grows.drewN ?_ _) | (with_reducible refine Vg.Grows.drew ?_) | (with_reducible refine Vg.Grows.setCell ?_ ?_ _) | (with_reducible refine Vg.Grows.put ?_ ?_ _) | omega | (simp; omega) | (simp; done))))) H_hmap2.out H_hfr.out H_hfm.out H_hfi.out).mono ?_; rintro e w5 ⟨rfl, x5, n5, rfl⟩))
                go_quiet (first | (go_at_call 25; refine (ws_left _ (H_hs2.out.grows (by (repeat' (first | (with_reducible exact Vg.Grows.refl _) | (with_reducible assumption) | (with_reducible refine Vg.Grows.alloc ?_ _) | (with_reducible refine Vg.Grows.plus ?_ _ _) | (with_reducible refine Vg.Grows.drewN ?_ _) | (with_reducible refine Vg.Grows.drew ?_) | (with_reducible refine Vg.Grows.setCell ?_ ?_ _) | (with_reducible refine Vg.Grows.put ?_ ?_ _) | omega | (simp; omega) | (simp; done))))) H_hlf.out).mono ?_; rintro e w1 ⟨rfl, rfl⟩; exact ⟨rfl, _, rfl⟩) | (go_at_call 18; refine (rq_leftx (H_hr2.out.grows (by (repeat' (first | (with_reducible exact Vg.Grows.refl _) | (with_reducible assumption) | (with_reducible refine Vg.Grows.alloc ?_ _) | (with_reducible refine Vg.Grows.plus ?_ _ _) | (with_reducible refine Vg.Grows.drewN ?_ _) | (with_reducible refine Vg.Grows.drew ?_) | (with_reducible refine Vg.Grows.setCell ?_ ?_ _) | (with_reducible refine Vg.Grows.put ?_ ?_ _) | omega | (simp; omega) | (simp; done))))) H_hmap2.out H_hlf.out).mono ?_; rintro e w1 ⟨rfl, rfl⟩; exact ⟨rfl, _, rfl⟩))
                go_wp2_with fail
                go_quiet (first | (go_at_call 26; refine (ws_waiting _ (H_hs2.out.grows (by (repeat' (first | (with_reducible exact Vg.Grows.refl _) | (with_reducible assumption) | (with_reducible refine Vg.Grows.alloc ?_ _) | (with_reducible refine Vg.Grows.plus ?_ _ _) | (with_reducible refine Vg.Grows.drewN ?_ _) | (with_reducible refine Vg.Grows.drew ?_) | (with_reducible refine Vg.Grows.setCell ?_ ?_ _) | (with_reducible refine Vg.Grows.put ?_ ?_ _) | omega | (simp; omega) | (simp; done))))) H_hwt2.out).mono ?_; rintro e w1 ⟨rfl, rfl⟩; exact ⟨rfl, _, rfl⟩) | (go_at_call 27; refine (ws_lost _ (H_hs2.out.grows (by (repeat' (first | (with_reducible exact Vg.Grows.refl _) | (with_reducible assumption) | (with_reducible refine Vg.Grows.alloc ?_ _) | (with_reducible refine Vg.Grows.plus ?_ _ _) | (with_reducible refine Vg.Grows.drewN ?_ _) | (with_reducible refine Vg.Grows.drew ?_) | (with_reducible refine Vg.Grows.setCell ?_ ?_ _) | (with_reducible refine Vg.Grows.put ?_ ?_ _) | omega | (simp; omega) | (simp; done))))) H_hls2.out).mono ?_; rintro e w1 ⟨rfl, rfl⟩; exact ⟨rfl, _, rfl⟩))
                go_wp2_with fail
                exact ⟨⟨k + 1, Q2, rs2, _, rc2, O2, by omega, by go_num, rfl, H_hrn2.out, H_hinv2.out, H_hmap2.out, by (repeat' (first | (with_reducible exact Vg.Grows.refl _) | (with_reducible assumption) | (with_reducible refine Vg.Grows.alloc ?_ _) | (with_reducible refine Vg.Grows.plus ?_ _ _) | (with_reducible refine Vg.Grows.drewN ?_ _) | (with_reducible refine Vg.Grows.drew ?_) | (with_reducible refine Vg.Grows.setCell ?_ ?_ _) | (with_reducible refine Vg.Grows.put ?_ ?_ _) | omega | (simp; omega) | (simp; done))), H_hs2.out.grows (by (repeat' (first | (with_reducible exact Vg.Grows.refl _) | (with_reducible assumption) | (with_reducible refine Vg.Grows.alloc ?_ _) | (with_reducible refine Vg.Grows.plus ?_ _ _) | (with_reducible refine Vg.Grows.drewN ?_ _) | (with_reducible refine Vg.Grows.drew ?_) | (with_reducible refine Vg.Grows.setCell ?_ ?_ _) | (with_reducible refine Vg.Grows.put ?_ ?_ _) | omega | (simp; omega) | (simp; done)))), H_hr2.out.grows (by (repeat' (first | (with_reducible exact Vg.Grows.refl _) | (with_reducible assumption) | (with_reducible refine Vg.Grows.alloc ?_ _) | (with_reducible refine Vg.Grows.plus ?_ _ _) | (with_reducible refine Vg.Grows.drewN ?_ _) | (with_reducible refine Vg.Grows.drew ?_) | (with_reducible refine Vg.Grows.setCell ?_ ?_ _) | (with_reducible refine Vg.Grows.put ?_ ?_ _) | omega | (simp; omega) | (simp; done))))⟩, by simp [intOf]; omega⟩
              · have H_hs2 := Lib.hid hs2; clear hs2; have H_hr2 := Lib.hid hr2; clear hr2; have H_hrn2 := Lib.hid hrn2; clear hrn2; have H_hinv2 := Lib.hid hinv2; clear hinv2; have H_hmap2 := Lib.hid hmap2; clear hmap2; have H_hfr := Lib.hid hfr; clear hfr; have H_hfm := Lib.hid hfm; clear hfm; have H_hfi := Lib.hid hfi; clear hfi; have H_hlf := Lib.hid hlf; clear hlf; have H_hwt := Lib.hid hwt; clear hwt; have H_hls := Lib.hid hls; clear hls
                by_cases h0 : xm < 0
                · have hd : decide (0 ≤ xm) = false := by simp; omega
                  clear hin h0
                  go_wp2_with (first | (go_at_call 23; refine (ws_first H_hs2.out H_hfr.out hfb1 hfb2 H_hfm.out H_hfi.out).mono ?_; rintro e w4 ⟨rfl, x4, n4, rfl⟩) | (go_at_call 24; refine (rq_firstx (H_hr2.out.grows (by (repeat' (first | (with_reducible exact Vg.Grows.refl _) | (with_reducible assumption) | (with_reducible refine Vg.Grows.alloc ?_ _) | (with_reducible refine Vg.Grows.plus ?_ _ _) | (with_reducible refine Vg.Grows.drewN ?_ _) | (with_reducible refine Vg.Grows.drew ?_) | (with_reducible refine Vg.Grows.setCell ?_ ?_ _) | (with_reducible refine Vg.Grows.put ?_ ?_ _) | omega | (simp; omega) | (simp; done))))) H_hmap2.out H_hfr.out H_hfm.out H_hfi.out).mono ?_; rintro e w5 ⟨rfl, x5, n5, rfl⟩))
                  go_quiet (first | (go_at_call 25; refine (ws_left _ (H_hs2.out.grows (by (repeat' (first | (with_reducible exact Vg.Grows.refl _) | (with_reducible assumption) | (with_reducible refine Vg.Grows.alloc ?_ _) | (with_reducible refine Vg.Grows.plus ?_ _ _) | (with_reducible refine Vg.Grows.drewN ?_ _) | (with_reducible refine Vg.Grows.drew ?_) | (with_reducible refine Vg.Grows.setCell ?_ ?_ _) | (with_reducible refine Vg.Grows.put ?_ ?_ _) | omega | (simp; omega) | (simp; done))))) H_hlf.out).mono ?_; rintro e w1 ⟨rfl, rfl⟩; exact ⟨rfl, _, rfl⟩) | (go_at_call 18; refine (rq_leftx (H_hr2.out.grows (by (repeat' (first | (with_reducible exact Vg.Grows.refl _) | (with_reducible assumption) | (with_reducible refine Vg.Grows.alloc ?_ _) | (with_reducible refine Vg.Grows.plus ?_ _ _) | (with_reducible refine Vg.Grows.drewN ?_ _) | (with_reducible refine Vg.Grows.drew ?_) | (with_reducible refine Vg.Grows.setCell ?_ ?_ _) | (with_reducible refine Vg.Grows.put ?_ ?_ _) | omega | (simp; omega) | (simp; done))))) H_hmap2.out H_hlf.out).mono ?_; rintro e w1 ⟨rfl, rfl⟩; exact ⟨rfl, _, rfl⟩))
                  go_wp2_with fail
                  go_quiet (fail)
                  go_wp2_with fail
                  exact ⟨⟨k + 1, Q2, rs2, _, rc2, O2, by omega, by go_num, rfl, H_hrn2.out, H_hinv2.out, H_hmap2.out, by (repeat' (first | (with_reducible exact Vg.Grows.refl _) | (with_reducible assumption) | (with_reducible refine Vg.Grows.alloc ?_ _) | (with_reducible refine Vg.Grows.plus ?_ _ _) | (with_reducible refine Vg.Grows.drewN ?_ _) | (with_reducible refine Vg.Grows.drew ?_) | (with_reducible refine Vg.Grows.setCell ?_ ?_ _) | (with_reducible refine Vg.Grows.put ?_ ?_ _) | omega | (simp; omega) | (simp; done))), H_hs2.out.grows (by (repeat' (first | (with_reducible exact Vg.Grows.refl _) | (with_reducible assumption) | (with_reducible refine Vg.Grows.alloc ?_ _) | (with_reducible refine Vg.Grows.plus ?_ _ _) | (with_reducible refine Vg.Grows.drewN ?_ _) | (with_reducible refine Vg.Grows.drew ?_) | (with_reducible refine Vg.Grows.setCell ?_ ?_ _) | (with_reducible refine Vg.Grows.put ?_ ?_ _) | omega | (simp; omega) | (simp; done)))), H_hr2.out.grows (by (repeat' (first | (with_reducible exact Vg.Grows.refl _) | (with_reducible assumption) | (with_reducible refine Vg.Grows.alloc ?_ _) | (with_reducible refine Vg.Grows.plus ?_ _ _) | (with_reducible refine Vg.Grows.drewN ?_ _) | (with_reducible refine Vg.Grows.drew ?_) | (with_reducible refine Vg.Grows.setCell ?_ ?_ _) | (with_reducible refine Vg.Grows.put ?_ ?_ _) | omega | (simp; omega) | (simp; done))))⟩, by simp [intOf]; omega⟩
                · have hd : decide (0 ≤ xm) = true := by simp; omega
                  have hd2 : decide (xm < (cn : Int)) = false := by simp; omega
                  clear hin h0
                  go_wp2_with (first | (go_at_call 23; refine (ws_first H_hs2.out H_hfr.out hfb1 hfb2 H_hfm.out H_hfi.out).mono ?_; rintro e w4 ⟨rfl, x4, n4, rfl⟩) | (go_at_call 24; refine (rq_firstx (H_hr2.out.grows (by (repeat' (first | (with_reducible exact Vg.Grows.refl _) | (with_reducible assumption) | (with_reducible refine Vg.Grows.alloc ?_ _) | (with_reducible refine Vg.Grows.plus ?_ _ _) | (with_reducible refine Vg.Grows.drewN ?_ _) | (with_reducible refine Vg.Grows.drew ?_) | (with_reducible refine Vg.Grows.setCell ?_ ?_ _) | (with_reducible refine Vg.Grows.put ?_ ?_ _) | omega | (simp; omega) | (simp; done))))) H_hmap2.out H_hfr.out H_hfm.out H_hfi.out).mono ?_; rintro e w5 ⟨rfl, x5, n5, rfl⟩))
                  go_quiet (first | (go_at_call 25; refine (ws_left _ (H_hs2.out.grows (by (repeat' (first | (with_reducible exact Vg.Grows.refl _) | (with_reducible assumption) | (with_reducible refine Vg.Grows.alloc ?_ _) | (with_reducible refine Vg.Grows.plus ?_ _ _) | (with_reducible refine Vg.Grows.drewN ?_ _) | (with_reducible refine Vg.Grows.drew ?_) | (with_reducible refine Vg.Grows.setCell ?_ ?_ _) | (with_reducible refine Vg.Grows.put ?_ ?_ _) | omega | (simp; omega) | (simp; done))))) H_hlf.out).mono ?_; rintro e w1 ⟨rfl, rfl⟩; exact ⟨rfl, _, rfl⟩) | (go_at_call 18; refine (rq_leftx (H_hr2.out.grows (by (repeat' (first | (with_reducible exact Vg.Grows.refl _) | (with_reducible assumption) | (with_reducible refine Vg.Grows.alloc ?_ _) | (with_reducible refine Vg.Grows.plus ?_ _ _) | (with_reducible refine Vg.Grows.drewN ?_ _) | (with_reducible refine Vg.Grows.drew ?_) | (with_reducible refine Vg.Grows.setCell ?_ ?_ _) | (with_reducible refine Vg.Grows.put ?_ ?_ _) | omega | (simp; omega) | (simp; done))))) H_hmap2.out H_hlf.out).mono ?_; rintro e w1 ⟨rfl, rfl⟩; exact ⟨rfl, _, rfl⟩))
                  go_wp2_with fail
                  go_quiet (fail)
                  go_wp2_with fail
                  exact ⟨⟨k + 1, Q2, rs2, _, rc2, O2, by omega, by go_num, rfl, H_hrn2.out, H_hinv2.out, H_hmap2.out, by (repeat' (first | (with_reducible exact Vg.Grows.refl _) | (with_reducible assumption) | (with_reducible refine Vg.Grows.alloc ?_ _) | (with_reducible refine Vg.Grows.plus ?_ _ _) | (with_reducible refine Vg.Grows.drewN ?_ _) | (with_reducible refine Vg.Grows.drew ?_) | (with_reducible refine Vg.Grows.setCell ?_ ?_ _) | (with_reducible refine Vg.Grows.put ?_ ?_ _) | omega | (simp; omega) | (simp; done))), H_hs2.out.grows (by (repeat' (first | (with_reducible exact Vg.Grows.refl _) | (with_reducible assumption) | (with_reducible refine Vg.Grows.alloc ?_ _) | (with_reducible refine Vg.Grows.plus ?_ _ _) | (with_reducible refine Vg.Grows.drewN ?_ _) | (with_reducible refine Vg.Grows.drew ?_) | (with_reducible refine Vg.Grows.setCell ?_ ?_ _) | (with_reducible refine Vg.Grows.put ?_ ?_ _) | omega | (simp; omega) | (simp; done)))), H_hr2.out.grows (by (repeat' (first | (with_reducible exact Vg.Grows.refl _) | (with_reducible assumption) | (with_reducible refine Vg.Grows.alloc ?_ _) | (with_reducible refine Vg.Grows.plus ?_ _ _) | (with_reducible refine Vg.Grows.drewN ?_ _) | (with_reducible refine Vg.Grows.drew ?_) | (with_reducible refine Vg.Grows.setCell ?_ ?_ _) | (with_reducible refine Vg.Grows.put ?_ ?_ _) | omega | (simp; omega) | (simp; done))))⟩, by simp [intOf]; omega⟩
        · have hkl : k = len := by omega
          have hQl : Q.length = cn := by rw [← hmap, List.length_map]; exact hrn
          have e1 : Vg.Wk.waiting Q (-1) = 0 := Vg.Wk.waiting_out (.inl (by decide))
          have e2 : Vg.Wk.lost Q cn = 0 := Vg.Wk.lost_out (.inr (by omega))
          have H_hrn := Lib.hid hrn; clear hrn; have H_hinv := Lib.hid hinv; clear hinv; have H_hmap := Lib.hid hmap; clear hmap; have H_hws := Lib.hid hws; clear hws; have H_hrq := Lib.hid hrq; clear hrq; have H_hQl := Lib.hid hQl; clear hQl; have H_e1 := Lib.hid e1; clear e1; have H_e2 := Lib.hid e2; clear e2
          go_wp2_with (first | (go_at_call 26; refine (ws_waiting (-1) H_hws.out H_e1.out).mono ?_; rintro e w1 ⟨rfl, rfl⟩) | (go_at_call 27; refine (ws_lost cn H_hws.out H_e2.out).mono ?_; rintro e w1 ⟨rfl, rfl⟩))
          go_ret
          exact ⟨rfl, hgr⟩
  · clear hr
    have hno : L.length = 0 ∨ 64 < L.length ∨ L.any Vg.oddW = true := by
      by_cases h1 : 1 ≤ cn ∧ cn ≤ 64
      · cases h2 : L.any Vg.oddW with
        | true => exact .inr (.inr rfl)
        | false => exact absurd ⟨h1, h2⟩ hok
      · omega
    cases h2 : L.any Vg.oddW with
    | true =>
      have H_hIR := Lib.hid hIR; clear hIR; have H_hno := Lib.hid hno; clear hno; have H_hok := Lib.hid hok; clear hok; have H_hLl := Lib.hid hLl; clear hLl; have H_h2 := Lib.hid h2; clear h2
      go_enter Try.func3, Try.ntmps3
      go_wp2_with (first | (go_at_call 15; refine (lives17 _).mono ?_; rintro e w1 ⟨rfl, x0, n0, rfl⟩) | (go_at_call 16; refine (ws_new_no H_hLl.out (H_hIR.out.grows (by (repeat' (first | (with_reducible exact Vg.Grows.refl _) | (with_reducible assumption) | (with_reducible refine Vg.Grows.alloc ?_ _) | (with_reducible refine Vg.Grows.plus ?_ _ _) | (with_reducible refine Vg.Grows.drewN ?_ _) | (with_reducible refine Vg.Grows.drew ?_) | (with_reducible refine Vg.Grows.setCell ?_ ?_ _) | (with_reducible refine Vg.Grows.put ?_ ?_ _) | omega | (simp; omega) | (simp; done))))) H_hno.out).mono ?_; rintro e w1 ⟨rfl, rfl⟩) | (go_at_call 17; refine (rq_new_no H_hLl.out (H_hIR.out.grows (by (repeat' (first | (with_reducible exact Vg.Grows.refl _) | (with_reducible assumption) | (with_reducible refine Vg.Grows.alloc ?_ _) | (with_reducible refine Vg.Grows.plus ?_ _ _) | (with_reducible refine Vg.Grows.drewN ?_ _) | (with_reducible refine Vg.Grows.drew ?_) | (with_reducible refine Vg.Grows.setCell ?_ ?_ _) | (with_reducible refine Vg.Grows.put ?_ ?_ _) | omega | (simp; omega) | (simp; done))))) hcn H_h2.out).mono ?_; rintro e w1 ⟨rfl, x1, n1, rfl⟩))
      go_ret
      exact ⟨rfl, by (repeat' (first | (with_reducible exact Vg.Grows.refl _) | (with_reducible assumption) | (with_reducible refine Vg.Grows.alloc ?_ _) | (with_reducible refine Vg.Grows.plus ?_ _ _) | (with_reducible refine Vg.Grows.drewN ?_ _) | (with_reducible refine Vg.Grows.drew ?_) | (with_reducible refine Vg.Grows.setCell ?_ ?_ _) | (with_reducible refine Vg.Grows.put ?_ ?_ _) | omega | (simp; omega) | (simp; done)))⟩
    | false =>
      have his : decide (1 ≤ cn ∧ cn ≤ 64) = false := by
        rw [decide_eq_false_iff_not]
        exact fun h1 => hok ⟨h1, h2⟩
      have H_hIR := Lib.hid hIR; clear hIR; have H_hno := Lib.hid hno; clear hno; have H_hok := Lib.hid hok; clear hok; have H_hLl := Lib.hid hLl; clear hLl; have H_h2 := Lib.hid h2; clear h2; have H_his := Lib.hid his; clear his
      go_enter Try.func3, Try.ntmps3
      go_wp2_with (first | (go_at_call 15; refine (lives17 _).mono ?_; rintro e w1 ⟨rfl, x0, n0, rfl⟩) | (go_at_call 16; refine (ws_new_no H_hLl.out (H_hIR.out.grows (by (repeat' (first | (with_reducible exact Vg.Grows.refl _) | (with_reducible assumption) | (with_reducible refine Vg.Grows.alloc ?_ _) | (with_reducible refine Vg.Grows.plus ?_ _ _) | (with_reducible refine Vg.Grows.drewN ?_ _) | (with_reducible refine Vg.Grows.drew ?_) | (with_reducible refine Vg.Grows.setCell ?_ ?_ _) | (with_reducible refine Vg.Grows.put ?_ ?_ _) | omega | (simp; omega) | (simp; done))))) H_hno.out).mono ?_; rintro e w1 ⟨rfl, rfl⟩) | (go_at_call 17; refine (rq_new (S := fun _ => True) H_hLl.out (H_hIR.out.grows (by (repeat' (first | (with_reducible exact Vg.Grows.refl _) | (with_reducible assumption) | (with_reducible refine Vg.Grows.alloc ?_ _) | (with_reducible refine Vg.Grows.plus ?_ _ _) | (with_reducible refine Vg.Grows.drewN ?_ _) | (with_reducible refine Vg.Grows.drew ?_) | (with_reducible refine Vg.Grows.setCell ?_ ?_ _) | (with_reducible refine Vg.Grows.put ?_ ?_ _) | omega | (simp; omega) | (simp; done))))) hcn H_h2.out H_his.out (fun _ _ => trivial)).mono ?_; rintro e w1 ⟨a1, c1, rfl, -, x1, n1, rfl⟩))
      go_ret
      exact ⟨rfl, by (repeat' (first | (with_reducible exact Vg.Grows.refl _) | (with_reducible assumption) | (with_reducible refine Vg.Grows.alloc ?_ _) | (with_reducible refine Vg.Grows.plus ?_ _ _) | (with_reducible refine Vg.Grows.drewN ?_ _) | (with_reducible refine Vg.Grows.drew ?_) | (with_reducible refine Vg.Grows.setCell ?_ ?_ _) | (with_reducible refine Vg.Grows.put ?_ ?_ _) | omega | (simp; omega) | (simp; done)))⟩
end Go.Proofs.Ytiinhofmhoplfaa
