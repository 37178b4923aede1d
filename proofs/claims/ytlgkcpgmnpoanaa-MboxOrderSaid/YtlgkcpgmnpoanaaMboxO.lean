/- MboxOrder: the walk. -/
import Derived.Test.YtlgkcpgmnpoanaaMboxQ
set_option linter.unusedSimpArgs false
set_option linter.unusedVariables false
set_option maxHeartbeats 4000000
set_option maxRecDepth 100000
namespace Vg
open Go
/-- A slice cut at its head. -/
theorem Reads.cut {S : Nat} {w : World} {g o c n f : Nat} {L : List Int} (h : Reads S w (.slice (some ⟨g, o, none⟩) n c) n (ics L)) (hl : L.length = n) (hf : f ≤ n) (hc : f < c) : Reads S w (.slice (some ⟨g, o + f, none⟩) (n - f) (c - f)) (n - f) (ics (L.drop f)) := by
  rcases h with ⟨h0, _⟩ | ⟨g', o', cap', hv, hb, hg, hn, hm, hx⟩
  · cases h0
  · simp only [Value.slice.injEq, Option.some.injEq, Addr.mk.injEq] at hv
    obtain ⟨⟨rfl, rfl, _⟩, _, rfl⟩ := hv
    refine .inr ⟨g, o + f, c - f, rfl, hb, hg, by omega, by omega, fun j hj => ?_⟩
    have hj' : j + f < L.length := by simp at hj; omega
    have := hx (f + j) (by simp; omega)
    rw [show o + f + j = o + (f + j) from by omega, this]
    simp
theorem Reads.cut0 {S : Nat} {w : World} {g o c : Nat} {L : List Int} (h : Reads S w (.slice (some ⟨g, o, none⟩) c c) c (ics L)) (hl : L.length = c) : Reads S w (.slice (some ⟨g, o, none⟩) 0 0) 0 (ics (L.drop c)) := by
  rcases h with ⟨h0, _⟩ | ⟨g', o', cap', hv, hb, hg, hn, hm, hx⟩
  · cases h0
  · simp only [Value.slice.injEq, Option.some.injEq, Addr.mk.injEq] at hv
    obtain ⟨⟨rfl, rfl, _⟩, _, rfl⟩ := hv
    refine .inr ⟨g, o, 0, rfl, hb, hg, by omega, by omega, fun j hj => ?_⟩
    simp at hj; omega
end Vg
namespace Go.Proofs.Ytlgkcpgmnpoanaa
open Go.ChangeShapes Go.WideShapes Go.ChangeAt Go.RowKit
section
variable {w0 w3 W1 : World} {b g S room n m : Nat} {s : Vg.Bx} {va v2 : Value} {ty : TypeId} {xs : List Value} {o : Obj} {y : Array Obj}
theorem bapp_step (n2 : b < S) (n3 : g < S) (n6 : w0.heap.size ≤ S) (hS3 : S ≤ w3.heap.size) (hg : Vg.Grows w0 w3) (hs3 : BX w3 b g room s) (hq : Vg.Que w3 S ty 1 va n xs)
    (hs2 : Vg.Same (fun j => va.ownBlock = some j) (w3.alloc o) W1) :
    S ≤ (Vg.plus W1 y m).heap.size ∧ Vg.Grows w0 (Vg.plus W1 y m) ∧ BX (Vg.plus W1 y m) b g room s := by
  have hl := hq.lt
  have hsz := hs2.size
  rw [World.size_alloc] at hsz
  have hgW : Vg.Grows w0 W1 := hs2.grows (hg.alloc o) fun k hk => by have := (hl k hk).1; omega
  have hs4 : BX (w3.alloc o) b g room s := hs3.grows ((Vg.Grows.refl _).alloc o)
  have hs5 : BX W1 b g room s := hs4.touch (Vg.Touch.of_same hs2) (fun h => by have := (hl b h).1; omega) (fun h => by have := (hl g h).1; omega)
  exact ⟨by rw [Vg.plus_size]; omega, hgW.plus _ _, hs5.grows ((Vg.Grows.refl _).plus _ _)⟩
end
theorem MboxOrder_walk (room : Int) (a : Option Addr) (len cap : Nat) (D : Nat → Nat → Int) (w : World) (hm0 : -9223372036854775808 ≤ room) (hm1 : room ≤ 9223372036854775807) (hr : Vg.intRows w [.i64, .i64] a len cap D) :
    Calls Try.prog 9 #[.int .i64 room, .slice a len cap] w fun e w' => e = .returned (.bool true) ∧ Vg.Grows w w' := by
  by_cases hok : 1 ≤ room ∧ room ≤ 1024
  · obtain ⟨h1, h2⟩ := hok
    obtain ⟨r, rfl⟩ : ∃ r : Nat, room = r := ⟨room.toNat, by omega⟩
    have hr1 : 1 ≤ r := by omega
    have hr2 : r ≤ 1024 := by omega
    have hlen := hr.1
    have hcap : cap ≤ 9223372036854775807 := hr.2.1
    by_cases hl : 200 < len
    · go_enter Try.func9, Try.ntmps9
      go_wp2_with (first | (go_at_call 40; refine (lives13 _).mono ?_; rintro e w1 ⟨rfl, x0, n0, rfl⟩) | (go_at_call 41; refine (bx_new r hr1 hr2).mono ?_; rintro e w1 ⟨rfl, hs, rfl⟩; have HSA := Lib.hid hs; clear hs))
      go_ret
      exact ⟨rfl, by (repeat' (first | (with_reducible exact Vg.Grows.refl _) | (with_reducible assumption) | (with_reducible refine Vg.Grows.alloc ?_ _) | (with_reducible refine Vg.Grows.plus ?_ _ _) | (with_reducible refine Vg.Grows.drewN ?_ _) | (with_reducible refine Vg.Grows.drew ?_) | (with_reducible refine Vg.Grows.setCell ?_ ?_ _) | (with_reducible refine Vg.Grows.put ?_ ?_ _) | omega | (simp; omega) | (simp; done)))⟩
    · have RH := Lib.hid (fun h => Vg.intRows.open (by decide) hr h)
      clear hr
      go_enter Try.func9, Try.ntmps9
      go_wp2_with (first | (go_at_call 40; refine (lives13 _).mono ?_; rintro e w1 ⟨rfl, x0, n0, rfl⟩) | (go_at_call 41; refine (bx_new r hr1 hr2).mono ?_; rintro e w1 ⟨rfl, hs, rfl⟩; have HSA := Lib.hid hs; clear hs))
      obtain ⟨b, hb⟩ : ∃ b, w.heap.size + 1 + Vg.sz x0 = b := ⟨_, rfl⟩
      obtain ⟨g, hg⟩ : ∃ g, w.heap.size + Vg.sz x0 = g := ⟨_, rfl⟩
      obtain ⟨W0, hW0⟩ : ∃ W0, ((Vg.plus w x0 n0).alloc (ringC (fun x => 0) r)).alloc (boxC (w.heap.size + Vg.sz x0) r 0 0 0) = W0 := ⟨_, rfl⟩
      have g1 : BX W0 b g r ⟨[], 0⟩ := by
        have hs := HSA.out
        have e1 : (Vg.plus w x0 n0).heap.size + 1 = b := by rw [Vg.plus_size]; omega
        have e2 : (Vg.plus w x0 n0).heap.size = g := by rw [Vg.plus_size]; omega
        rw [e1, e2] at hs
        rw [← hW0, hg]
        exact hs
      have g4 : Vg.Grows w W0 := by rw [← hW0]; (repeat' (first | (with_reducible exact Vg.Grows.refl _) | (with_reducible assumption) | (with_reducible refine Vg.Grows.alloc ?_ _) | (with_reducible refine Vg.Grows.plus ?_ _ _) | (with_reducible refine Vg.Grows.drewN ?_ _) | (with_reducible refine Vg.Grows.drew ?_) | (with_reducible refine Vg.Grows.setCell ?_ ?_ _) | (with_reducible refine Vg.Grows.put ?_ ?_ _) | omega | (simp; omega) | (simp; done)))
      have g6 : b < W0.heap.size := g1.lt
      have g7 : g < W0.heap.size := g1.ltg
      have n5' : b ≠ g := by omega
      have n6' : w.heap.size ≤ b := by omega
      have n7' : w.heap.size ≤ g := by omega
      have n9' := g4.size
      simp only [hb]
      rw [hW0]
      have H_hb := Lib.hid hb; clear hb; have H_hg := Lib.hid hg; clear hg; have H_hW0 := Lib.hid hW0; clear hW0; have H_g1 := Lib.hid g1; clear g1
      clear HSA
      obtain ⟨S, hS⟩ : ∃ S, W0.heap.size = S := ⟨_, rfl⟩
      rw [hS] at g6 g7 n9'
      have H_hS := Lib.hid hS; clear hS
      obtain ⟨i0, hi, hz0, hz1, hz2⟩ := info_parts Try.info_i64
      go_loopw [7, 8, 9, 40] (fun po fe al i wr => ∃ (k f : Nat) (s : Vg.Bx) (va : Value) (P : List Int), k ≤ len ∧ i = .int .i64 k ∧ po = va ∧ fe = .int .i64 f ∧ al = .int .i64 (P.length + s.lost) ∧ s.L = P.drop f ∧ f ≤ P.length ∧ P.length ≤ k ∧ (0 ≤ s.lost ∧ s.lost ≤ k) ∧ S ≤ wr.heap.size ∧ Vg.Grows w wr ∧ BX wr b g r s ∧ Vg.Que wr S 2 1 va P.length (Vg.ics P)) (fun _ _ _ i _ => len - (intOf i).toNat)
      case atStart =>
        exact ⟨0, 0, ⟨[], 0⟩, _, [], by omega, rfl, rfl, rfl, rfl, rfl, by simp, by simp, by simp, by rw [H_hS.out]; exact Nat.le_refl _, g4, H_g1.out, Vg.Que.nil _ _ _ _⟩
      case round =>
        obtain ⟨k, f, s, va, P, hk, rfl, rfl, rfl, rfl, hsL, hf, hP, hlost, hsz, hgr, hsa, hq⟩ := hrel
        by_cases hlt : k < len
        · obtain ⟨ba, off, rfl, hba, hc⟩ := RH.out (by omega)
          have hc0 := hc k hlt 0 (by decide)
          have hc1 := hc k hlt 1 (by decide)
          generalize D k 0 = kd at hc0
          generalize D k 1 = x at hc1
          simp only [List.length_cons, List.length_nil, Nat.zero_add, List.getElem_cons_zero, List.getElem_cons_succ] at hc0 hc1
          obtain ⟨hc0, hw0'⟩ := hc0
          obtain ⟨hc1, hw1'⟩ := hc1
          have hc0 := (hgr.below.cell (p := ⟨ba, off + k * 2, none⟩) hba).trans hc0
          have hc1 := (hgr.below.cell (p := ⟨ba, off + k * 2 + 1, none⟩) hba).trans hc1
          have hbar : ba < wr.heap.size := Nat.lt_of_lt_of_le hba hgr.size
          have hsl := hsa.len
          obtain ⟨aa, ac, rfl⟩ := hq.shape
          clear hc hw0' hw1'
          obtain ⟨bt, hbt⟩ : ∃ bt, wr.heap.size = bt := ⟨_, rfl⟩
          obtain ⟨wx, hwx⟩ : ∃ wx, (wr.alloc (.cells #[.int .i64 kd, .int .i64 x] 82)) = wx := ⟨_, rfl⟩
          have hgx : Vg.Grows wr wx := by rw [← hwx]; (repeat' (first | (with_reducible exact Vg.Grows.refl _) | (with_reducible assumption) | (with_reducible refine Vg.Grows.alloc ?_ _) | (with_reducible refine Vg.Grows.plus ?_ _ _) | (with_reducible refine Vg.Grows.drewN ?_ _) | (with_reducible refine Vg.Grows.drew ?_) | (with_reducible refine Vg.Grows.setCell ?_ ?_ _) | (with_reducible refine Vg.Grows.put ?_ ?_ _) | omega | (simp; omega) | (simp; done)))
          have hsx := hsa.grows hgx
          have hqx := hq.grows hgx
          have hSx : S ≤ wx.heap.size := Nat.le_trans hsz hgx.size
          have hgwx := hgr.trans hgx
          have x2 : Vg.blk wx bt = some (.cells #[.int .i64 kd, .int .i64 x] 82) := by rw [← hwx]; exact Vg.alloc_heap_at hbt.symm
          have hbtS : S ≤ bt := by omega
          obtain ⟨L, lost⟩ := s
          change L = P.drop f at hsL
          have hlo0 : 0 ≤ lost := hlost.1
          have hlo1 : lost ≤ k := hlost.2
          have hsl1 : L.length ≤ r := hsl.1
          have hLl : L.length + f = P.length := by rw [hsL, List.length_drop]; omega
          by_cases hkd : kd = 0
          · subst hkd
            have hrd := hqx.reads
            have hacm : ac ≤ 9223372036854775807 := hrd.cap_le
            by_cases hfu : L.length = r
            · have e0 : Vg.Bx.post ⟨L, lost⟩ r x = (⟨L, lost + 1⟩, 5) := by unfold Vg.Bx.post; rw [if_pos hfu]
              have H_hsx := Lib.hid hsx; clear hsx; have H_hqx := Lib.hid hqx; clear hqx; have H_hsL := Lib.hid hsL; clear hsL; have H_e0 := Lib.hid e0; clear e0; have H_hwx := Lib.hid hwx; clear hwx; have H_hbt := Lib.hid hbt; clear hbt; have H_hsa := Lib.hid hsa; clear hsa; have H_hq := Lib.hid hq; clear hq; have H_hsl := Lib.hid hsl; clear hsl; have H_hfu := Lib.hid hfu; clear hfu; have H_hrd := Lib.hid hrd; clear hrd; have H_hLl := Lib.hid hLl; clear hLl
              have hLl2 := H_hLl.out
              have hle : (P.length : Int) - f ≤ r := by have := H_hfu.out; omega
              clear hLl2
              go_upto_region 17 with (fail)
              rw [H_hwx.out, H_hbt.out]
              have c_x2 := Vg.cells_of x2; have f_x2 := Vg.frozen_of x2; have p_x2 := Vg.setCell_of x2; have l_x2 := Vg.lt_of x2; have H_x2 := Lib.hid x2; clear x2
              go_wp2_with ((go_at_call 44; refine (bx_post (s := ⟨L, lost⟩) x H_hsx.out n5' ⟨hlo0, by show lost ≤ _; omega⟩).mono ?_; rintro e w3 ⟨rfl, hsa3, ht3⟩; have z3 := ht3.blk H_x2.out (fun hh => by omega); rw [H_e0.out]; rw [H_e0.out] at hsa3; clear c_x2 f_x2 p_x2; have c_z3 := Vg.cells_of z3; have f_z3 := Vg.frozen_of z3; have p_z3 := Vg.setCell_of z3; have l_z3 := Vg.lt_of z3; have H_z3 := Lib.hid z3; clear z3; have H_hsa3 := Lib.hid hsa3; clear hsa3; have H_ht3 := Lib.hid ht3; clear ht3))
              refine ⟨⟨k + 1, f, ⟨L, lost + 1⟩, _, P, by omega, by go_num, rfl, rfl, ?_, H_hsL.out, hf, by omega, ?_, Nat.le_trans hSx H_ht3.out.size, H_ht3.out.growsx hgwx n6' n7', H_hsa3.out, H_hqx.out.touchx H_ht3.out g6 g7⟩, by simp [intOf]; omega⟩
              · show Value.int .i64 (P.length + lost + 1) = .int .i64 (P.length + (lost + 1)); rw [Int.add_assoc]
              · show 0 ≤ lost + 1 ∧ lost + 1 ≤ ((k + 1 : Nat) : Int); omega
            · have e0 : Vg.Bx.post ⟨L, lost⟩ r x = (⟨L ++ [x], lost⟩, 0) := by unfold Vg.Bx.post; rw [if_neg hfu]
              have H_hsx := Lib.hid hsx; clear hsx; have H_hqx := Lib.hid hqx; clear hqx; have H_hsL := Lib.hid hsL; clear hsL; have H_e0 := Lib.hid e0; clear e0; have H_hwx := Lib.hid hwx; clear hwx; have H_hbt := Lib.hid hbt; clear hbt; have H_hsa := Lib.hid hsa; clear hsa; have H_hq := Lib.hid hq; clear hq; have H_hsl := Lib.hid hsl; clear hsl; have H_hfu := Lib.hid hfu; clear hfu; have H_hrd := Lib.hid hrd; clear hrd; have H_hLl := Lib.hid hLl; clear hLl
              have hle : (P.length : Int) + 1 - f ≤ r := by have := H_hfu.out; have := H_hLl.out; omega
              have hPl : P.length ≤ 200 := by omega
              go_upto_region 17 with (fail)
              rw [H_hwx.out, H_hbt.out]
              have c_x2 := Vg.cells_of x2; have f_x2 := Vg.frozen_of x2; have p_x2 := Vg.setCell_of x2; have l_x2 := Vg.lt_of x2; have H_x2 := Lib.hid x2; clear x2
              go_wp2_with (first | (go_at_call 44; refine (bx_post (s := ⟨L, lost⟩) x H_hsx.out n5' ⟨hlo0, by show lost ≤ _; omega⟩).mono ?_; rintro e w3 ⟨rfl, hsa3, ht3⟩; have z3 := ht3.blk H_x2.out (fun hh => by omega); have hq3 := H_hqx.out.touchx ht3 g6 g7; have hS3 := Nat.le_trans hSx ht3.size; have hg3 := ht3.growsx hgwx n6' n7'; rw [H_e0.out]; rw [H_e0.out] at hsa3; clear c_x2 f_x2 p_x2; have c_z3 := Vg.cells_of z3; have f_z3 := Vg.frozen_of z3; have p_z3 := Vg.setCell_of z3; have l_z3 := Vg.lt_of z3; have H_z3 := Lib.hid z3; clear z3; have H_hsa3 := Lib.hid hsa3; clear hsa3; have H_ht3 := Lib.hid ht3; clear ht3; have H_hq3 := Lib.hid hq3; clear hq3) | (at_builtin; go_loud (refine Vg.wpList_que (w := _) rfl (.tmp 89) (.tmp 92) 28 rfl S 2 i0 (.int .i64 0) 1 8 Try.underlying28 hi hz0 hz1 hz2 rfl (by decide) (.slice aa P.length ac) P.length (Vg.ics P) rfl (H_hq3.out.grows (by (repeat' (first | (with_reducible exact Vg.Grows.refl _) | (with_reducible assumption) | (with_reducible refine Vg.Grows.alloc ?_ _) | (with_reducible refine Vg.Grows.plus ?_ _ _) | (with_reducible refine Vg.Grows.drewN ?_ _) | (with_reducible refine Vg.Grows.drew ?_) | (with_reducible refine Vg.Grows.setCell ?_ ?_ _) | (with_reducible refine Vg.Grows.put ?_ ?_ _) | omega | (simp; omega) | (simp; done))))) _ 1 1 [.int .i64 x] rfl rfl (Vg.one_new (by first | rfl | ((try simp only [World.size_alloc, Vg.plus_size, Vg.put_size, World.size_setCell, World.size_drew, World.heap_drewN]) <;> omega))) (by simp [Value.oneCell']) (by decide) (by unfold maxLen; omega) (by omega) (by simp only [World.size_alloc]; omega) ?_; intro v2 W1 y2 m2 hq2 hs2 ho2; obtain ⟨a2, c2, rfl⟩ := hq2.shape; have H_hq2 := Lib.hid hq2; clear hq2; have H_hs2 := Lib.hid hs2; clear hs2; have H_ho2 := Lib.hid ho2; clear ho2)))
              have hst := bapp_step (y := y2) (m := m2) g6 g7 n9' hS3 hg3 H_hsa3.out H_hq3.out H_hs2.out
              refine ⟨⟨k + 1, f, ⟨L ++ [x], lost⟩, _, P ++ [x], by omega, by go_num, rfl, rfl, ?_, ?_, by simp; omega, by simp; omega, ?_, hst.1, hst.2.1, hst.2.2, ?_⟩, by simp [intOf]; omega⟩
              · show Value.int .i64 (P.length + lost + 1) = .int .i64 (((P ++ [x]).length : Nat) + lost); rw [List.length_append]; congr 1; simp; omega
              · show L ++ [x] = (P ++ [x]).drop f
                rw [List.drop_append_of_le_length hf, ← H_hsL.out]
              · show 0 ≤ lost ∧ lost ≤ ((k + 1 : Nat) : Int); omega
              · have := H_hq2.out
                rw [List.length_append, Vg.ics, List.map_append]
                exact this
          · have hkb : (kd == 0) = false := by simp [hkd]
            have hkb2 : (kd != 0) = true := by simp [hkd]
            cases L with
            | nil =>
              have hfe : f = P.length := by
                have := congrArg List.length hsL
                simp at this; omega
              have e0 : Vg.Bx.fetch ⟨[], lost⟩ = (⟨[], lost⟩, 0, 3) := rfl
              have H_hkd := Lib.hid hkd; clear hkd; have H_hsx := Lib.hid hsx; clear hsx; have H_hqx := Lib.hid hqx; clear hqx; have H_hsL := Lib.hid hsL; clear hsL; have H_e0 := Lib.hid e0; clear e0; have H_hwx := Lib.hid hwx; clear hwx; have H_hbt := Lib.hid hbt; clear hbt; have H_hsa := Lib.hid hsa; clear hsa; have H_hq := Lib.hid hq; clear hq; have H_hsl := Lib.hid hsl; clear hsl; have H_x2 := Lib.hid x2; clear x2; have H_hLl := Lib.hid hLl; clear hLl
              subst hfe
              go_upto_region 12 with (fail)
              rw [H_hwx.out]
              go_wp2_with ((go_at_call 46; refine (bx_fetch (s := ⟨[], lost⟩) H_hsx.out n5').mono ?_; rintro e w3 ⟨rfl, hsa3, ht3⟩; rw [H_e0.out]; rw [H_e0.out] at hsa3; have H_hsa3 := Lib.hid hsa3; clear hsa3; have H_ht3 := Lib.hid ht3; clear ht3))
              exact ⟨⟨k + 1, P.length, ⟨[], lost⟩, _, P, by omega, by go_num, rfl, rfl, rfl, H_hsL.out, by omega, by omega, ⟨hlo0, by show lost ≤ ((k + 1 : Nat) : Int); omega⟩, Nat.le_trans hSx H_ht3.out.size, H_ht3.out.growsx hgwx n6' n7', H_hsa3.out, H_hqx.out.touchx H_ht3.out g6 g7⟩, by simp [intOf]; omega⟩
            | cons t ts =>
              have hfl : f < P.length := by simp at hLl; omega
              have hd := List.drop_eq_getElem_cons hfl
              have htd : t = P[f] ∧ ts = P.drop (f + 1) := by
                rw [hd] at hsL
                exact List.cons.inj hsL
              obtain ⟨g1, o1, rfl, hg1, hcc, hmm, hx1⟩ := hqx.reads.open (by simp; omega)
              have c1 := hx1 f (by simp; exact hfl)
              have hgS := (hqx.lt g1 rfl).1
              simp only [Vg.ics, List.getElem_map] at c1
              rw [← htd.1] at c1
              have hacm : ac ≤ 9223372036854775807 := hmm
              have e0 : Vg.Bx.fetch ⟨t :: ts, lost⟩ = (⟨ts, lost⟩, t, 0) := rfl
              have hfi : ¬ (P.length : Int) ≤ f := by omega
              have H_hkd := Lib.hid hkd; clear hkd; have H_hsx := Lib.hid hsx; clear hsx; have H_hqx := Lib.hid hqx; clear hqx; have H_hsL := Lib.hid hsL; clear hsL; have H_e0 := Lib.hid e0; clear e0; have H_hwx := Lib.hid hwx; clear hwx; have H_hbt := Lib.hid hbt; clear hbt; have H_hsa := Lib.hid hsa; clear hsa; have H_hq := Lib.hid hq; clear hq; have H_hsl := Lib.hid hsl; clear hsl; have H_x2 := Lib.hid x2; clear x2; have H_hd := Lib.hid hd; clear hd; have H_htd := Lib.hid htd; clear htd; have H_hLl := Lib.hid hLl; clear hLl
              clear hx1
              go_upto_region 12 with (fail)
              rw [H_hwx.out]
              go_wp2_with ((go_at_call 46; refine (bx_fetch (s := ⟨t :: ts, lost⟩) H_hsx.out n5').mono ?_; rintro e w3 ⟨rfl, hsa3, ht3⟩; have c3 : w3.cell? ⟨g1, o1 + f, none⟩ = some (.int .i64 t) := (World.cell?_of_block (w := wx) (ht3.block g1 hg1 (fun hh => by omega))).trans c1; rw [H_e0.out]; rw [H_e0.out] at hsa3; have H_hsa3 := Lib.hid hsa3; clear hsa3; have H_ht3 := Lib.hid ht3; clear ht3))
              exact ⟨⟨k + 1, f + 1, ⟨ts, lost⟩, _, P, by omega, by go_num, rfl, by go_num, rfl, H_htd.out.2, by omega, by omega, ⟨hlo0, by show lost ≤ ((k + 1 : Nat) : Int); omega⟩, Nat.le_trans hSx H_ht3.out.size, H_ht3.out.growsx hgwx n6' n7', H_hsa3.out, H_hqx.out.touchx H_ht3.out g6 g7⟩, by simp [intOf]; omega⟩
        · obtain ⟨L, lost⟩ := s
          change L = P.drop f at hsL
          have hlo0 : 0 ≤ lost := hlost.1
          have hlo1 : lost ≤ k := hlost.2
          have hLl : L.length + f = P.length := by rw [hsL, List.length_drop]; omega
          have hL2 : L.length ≤ 1000 := by omega
          have hrd := hq.reads
          obtain ⟨aa, ac, rfl⟩ := hq.shape
          have hacm : ac ≤ 9223372036854775807 := hrd.cap_le
          by_cases hnil : aa = none
          · subst hnil
            have hP0 : P.length = 0 ∧ ac = 0 := by
              rcases hrd with ⟨h0, hh, _⟩ | ⟨g, off, cap, hsv, _⟩
              · simp only [Value.slice.injEq, true_and] at h0; omega
              · simp at hsv
            obtain ⟨hP0, rfl⟩ := hP0
            have hPe : P = [] := List.eq_nil_of_length_eq_zero hP0
            subst hPe
            have hf0 : f = 0 := by simpa using hf
            subst hf0
            have hLe : L = [] := by rw [hsL]; rfl
            subst hLe
            have hcut : Vg.Reads S wr (.slice none 0 0) 0 (Vg.ics []) := Vg.Reads.nil _ _
            obtain ⟨L, hLL⟩ : ∃ L : List Int, L = [] := ⟨_, rfl⟩
            have hsa' : BX wr b g r ⟨L, lost⟩ := by rw [hLL]; exact hsa
            have hcut' : Vg.Reads S wr (.slice none 0 0) 0 (Vg.ics L) := by rw [hLL]; exact hcut
            clear hsa hcut
            have hsa := hsa'
            have hcut := hcut'
            clear hsa' hcut'
            have hL0 : L.length = 0 := by rw [hLL]; rfl
            have hL9 : L.length ≤ 1000 := by omega
            have hw1 : IntKind.i64.wrap (L.length : Int) = L.length := by rw [IntWalk.i64_in _ (by omega)]
            have hw2 : IntKind.i64.wrap ((L.length : Int) + lost) = L.length + lost := by rw [IntWalk.i64_in _ (by omega)]
            have hbb : ((L.length : Int) + lost == lost) = true := by rw [hL0]; simp
            have H_hsa := Lib.hid hsa; clear hsa; have H_hq := Lib.hid hq; clear hq; have H_hsL := Lib.hid hsL; clear hsL; have H_hrd := Lib.hid hrd; clear hrd; have H_hcut := Lib.hid hcut; clear hcut; have H_hLl := Lib.hid hLl; clear hLl; have H_hLL := Lib.hid hLL; clear hLL; have H_hL0 := Lib.hid hL0; clear hL0
            go_wp2_with fail
            go_region_held3 (fun w' => Vg.Grows wr w')
              (((try dsimp only); (repeat' (first | (with_reducible exact Vg.Grows.refl _) | (with_reducible assumption) | (with_reducible refine Vg.Grows.alloc ?_ _) | (with_reducible refine Vg.Grows.plus ?_ _ _) | (with_reducible refine Vg.Grows.drewN ?_ _) | (with_reducible refine Vg.Grows.drew ?_) | (with_reducible refine Vg.Grows.setCell ?_ ?_ _) | (with_reducible refine Vg.Grows.put ?_ ?_ _) | omega | (simp; omega) | (simp; done)))))
              (first | (go_at_call 47; refine (bx_len (s := ⟨L, lost⟩) (H_hsa.out.grows (by (repeat' (first | (with_reducible exact Vg.Grows.refl _) | (with_reducible assumption) | (with_reducible refine Vg.Grows.alloc ?_ _) | (with_reducible refine Vg.Grows.plus ?_ _ _) | (with_reducible refine Vg.Grows.drewN ?_ _) | (with_reducible refine Vg.Grows.drew ?_) | (with_reducible refine Vg.Grows.setCell ?_ ?_ _) | (with_reducible refine Vg.Grows.put ?_ ?_ _) | omega | (simp; omega) | (simp; done)))))).mono ?_; rintro e w' ⟨rfl, rfl⟩) | (go_at_call 48; refine (bx_lost (s := ⟨L, lost⟩) (H_hsa.out.grows (by (repeat' (first | (with_reducible exact Vg.Grows.refl _) | (with_reducible assumption) | (with_reducible refine Vg.Grows.alloc ?_ _) | (with_reducible refine Vg.Grows.plus ?_ _ _) | (with_reducible refine Vg.Grows.drewN ?_ _) | (with_reducible refine Vg.Grows.drew ?_) | (with_reducible refine Vg.Grows.setCell ?_ ?_ _) | (with_reducible refine Vg.Grows.put ?_ ?_ _) | omega | (simp; omega) | (simp; done)))))).mono ?_; rintro e w' ⟨rfl, rfl⟩) | (go_at_call 50; refine (bx_list (s := ⟨L, lost⟩) (H_hsa.out.grows (by (repeat' (first | (with_reducible exact Vg.Grows.refl _) | (with_reducible assumption) | (with_reducible refine Vg.Grows.alloc ?_ _) | (with_reducible refine Vg.Grows.plus ?_ _ _) | (with_reducible refine Vg.Grows.drewN ?_ _) | (with_reducible refine Vg.Grows.drew ?_) | (with_reducible refine Vg.Grows.setCell ?_ ?_ _) | (with_reducible refine Vg.Grows.put ?_ ?_ _) | omega | (simp; omega) | (simp; done)))))).mono ?_; rintro e w4 ⟨v4, rfl, hq4, x4, n4, rfl⟩; obtain ⟨va, vc, rfl⟩ := hq4.shape; (try simp only [Vg.plus_drew, Vg.plus_drewN] at hq4); have HQ4 := Lib.hid hq4; clear hq4) | (go_at_call 49; refine (same13x (L := L) (M := L) (HQ4.out.reads.grows (by (repeat' (first | (with_reducible exact Vg.Grows.refl _) | (with_reducible assumption) | (with_reducible refine Vg.Grows.alloc ?_ _) | (with_reducible refine Vg.Grows.plus ?_ _ _) | (with_reducible refine Vg.Grows.drewN ?_ _) | (with_reducible refine Vg.Grows.drew ?_) | (with_reducible refine Vg.Grows.setCell ?_ ?_ _) | (with_reducible refine Vg.Grows.put ?_ ?_ _) | omega | (simp; omega) | (simp; done))))) rfl (H_hcut.out.grows (by (repeat' (first | (with_reducible exact Vg.Grows.refl _) | (with_reducible assumption) | (with_reducible refine Vg.Grows.alloc ?_ _) | (with_reducible refine Vg.Grows.plus ?_ _ _) | (with_reducible refine Vg.Grows.drewN ?_ _) | (with_reducible refine Vg.Grows.drew ?_) | (with_reducible refine Vg.Grows.setCell ?_ ?_ _) | (with_reducible refine Vg.Grows.put ?_ ?_ _) | omega | (simp; omega) | (simp; done))))) (by exact H_hL0.out) (by omega) (by omega)).mono ?_; rintro e w7 ⟨rfl, x7, n7, rfl⟩; rw [decide_eq_true (rfl : L = L)]))
            go_wp2_with fail
            go_ret
            exact ⟨by simp, by (repeat' (first | (with_reducible exact Vg.Grows.refl _) | (with_reducible assumption) | (with_reducible refine Vg.Grows.alloc ?_ _) | (with_reducible refine Vg.Grows.plus ?_ _ _) | (with_reducible refine Vg.Grows.drewN ?_ _) | (with_reducible refine Vg.Grows.drew ?_) | (with_reducible refine Vg.Grows.setCell ?_ ?_ _) | (with_reducible refine Vg.Grows.put ?_ ?_ _) | omega | (simp; omega) | (simp; done)))⟩
          · obtain ⟨⟨g1, o1, q1⟩, rfl⟩ : ∃ z, aa = some z := by cases aa with | none => exact absurd rfl hnil | some z => exact ⟨z, rfl⟩
            obtain rfl : q1 = none := by
              rcases hrd with ⟨h0, _⟩ | ⟨g, off, cap, hsv, _⟩
              · cases h0
              · simp only [Value.slice.injEq, Option.some.injEq, Addr.mk.injEq] at hsv
                exact hsv.1.2.2
            have hca : P.length ≤ ac := by
              rcases hrd with ⟨h0, _⟩ | ⟨g, off, cap, hsv, _, _, hc, _⟩
              · cases h0
              · simp only [Value.slice.injEq] at hsv
                rw [hsv.2.2]; exact hc
            by_cases hfc : f < ac
            · have hcut := hrd.cut (f := f) rfl hf hfc
              rw [← hsL] at hcut
              have hlm : L.length = P.length - f := by omega
              have hw1 : IntKind.i64.wrap ((f : Int) + L.length) = f + L.length := by rw [IntWalk.i64_in _ (by omega)]
              have hw2 : IntKind.i64.wrap ((f : Int) + L.length + lost) = f + L.length + lost := by rw [IntWalk.i64_in _ (by omega)]
              have hbb : ((f : Int) + L.length + lost == P.length + lost) = true := by simp; omega
              have H_hsa := Lib.hid hsa; clear hsa; have H_hq := Lib.hid hq; clear hq; have H_hsL := Lib.hid hsL; clear hsL; have H_hrd := Lib.hid hrd; clear hrd; have H_hcut := Lib.hid hcut; clear hcut; have H_hLl := Lib.hid hLl; clear hLl; have H_hlm := Lib.hid hlm; clear hlm
              go_wp2_with fail
              go_region_held3 (fun w' => Vg.Grows wr w')
                (((try dsimp only); (repeat' (first | (with_reducible exact Vg.Grows.refl _) | (with_reducible assumption) | (with_reducible refine Vg.Grows.alloc ?_ _) | (with_reducible refine Vg.Grows.plus ?_ _ _) | (with_reducible refine Vg.Grows.drewN ?_ _) | (with_reducible refine Vg.Grows.drew ?_) | (with_reducible refine Vg.Grows.setCell ?_ ?_ _) | (with_reducible refine Vg.Grows.put ?_ ?_ _) | omega | (simp; omega) | (simp; done)))))
                (first | (go_at_call 47; refine (bx_len (s := ⟨L, lost⟩) (H_hsa.out.grows (by (repeat' (first | (with_reducible exact Vg.Grows.refl _) | (with_reducible assumption) | (with_reducible refine Vg.Grows.alloc ?_ _) | (with_reducible refine Vg.Grows.plus ?_ _ _) | (with_reducible refine Vg.Grows.drewN ?_ _) | (with_reducible refine Vg.Grows.drew ?_) | (with_reducible refine Vg.Grows.setCell ?_ ?_ _) | (with_reducible refine Vg.Grows.put ?_ ?_ _) | omega | (simp; omega) | (simp; done)))))).mono ?_; rintro e w' ⟨rfl, rfl⟩) | (go_at_call 48; refine (bx_lost (s := ⟨L, lost⟩) (H_hsa.out.grows (by (repeat' (first | (with_reducible exact Vg.Grows.refl _) | (with_reducible assumption) | (with_reducible refine Vg.Grows.alloc ?_ _) | (with_reducible refine Vg.Grows.plus ?_ _ _) | (with_reducible refine Vg.Grows.drewN ?_ _) | (with_reducible refine Vg.Grows.drew ?_) | (with_reducible refine Vg.Grows.setCell ?_ ?_ _) | (with_reducible refine Vg.Grows.put ?_ ?_ _) | omega | (simp; omega) | (simp; done)))))).mono ?_; rintro e w' ⟨rfl, rfl⟩) | (go_at_call 50; refine (bx_list (s := ⟨L, lost⟩) (H_hsa.out.grows (by (repeat' (first | (with_reducible exact Vg.Grows.refl _) | (with_reducible assumption) | (with_reducible refine Vg.Grows.alloc ?_ _) | (with_reducible refine Vg.Grows.plus ?_ _ _) | (with_reducible refine Vg.Grows.drewN ?_ _) | (with_reducible refine Vg.Grows.drew ?_) | (with_reducible refine Vg.Grows.setCell ?_ ?_ _) | (with_reducible refine Vg.Grows.put ?_ ?_ _) | omega | (simp; omega) | (simp; done)))))).mono ?_; rintro e w4 ⟨v4, rfl, hq4, x4, n4, rfl⟩; obtain ⟨va, vc, rfl⟩ := hq4.shape; (try simp only [Vg.plus_drew, Vg.plus_drewN] at hq4); have HQ4 := Lib.hid hq4; clear hq4) | (go_at_call 49; refine (same13x (L := L) (M := L) (HQ4.out.reads.grows (by (repeat' (first | (with_reducible exact Vg.Grows.refl _) | (with_reducible assumption) | (with_reducible refine Vg.Grows.alloc ?_ _) | (with_reducible refine Vg.Grows.plus ?_ _ _) | (with_reducible refine Vg.Grows.drewN ?_ _) | (with_reducible refine Vg.Grows.drew ?_) | (with_reducible refine Vg.Grows.setCell ?_ ?_ _) | (with_reducible refine Vg.Grows.put ?_ ?_ _) | omega | (simp; omega) | (simp; done))))) rfl (H_hcut.out.grows (by (repeat' (first | (with_reducible exact Vg.Grows.refl _) | (with_reducible assumption) | (with_reducible refine Vg.Grows.alloc ?_ _) | (with_reducible refine Vg.Grows.plus ?_ _ _) | (with_reducible refine Vg.Grows.drewN ?_ _) | (with_reducible refine Vg.Grows.drew ?_) | (with_reducible refine Vg.Grows.setCell ?_ ?_ _) | (with_reducible refine Vg.Grows.put ?_ ?_ _) | omega | (simp; omega) | (simp; done))))) (by exact H_hlm.out) (by omega) (by omega)).mono ?_; rintro e w7 ⟨rfl, x7, n7, rfl⟩; rw [decide_eq_true (rfl : L = L)]))
              go_wp2_with fail
              go_ret
              exact ⟨by simp, by (repeat' (first | (with_reducible exact Vg.Grows.refl _) | (with_reducible assumption) | (with_reducible refine Vg.Grows.alloc ?_ _) | (with_reducible refine Vg.Grows.plus ?_ _ _) | (with_reducible refine Vg.Grows.drewN ?_ _) | (with_reducible refine Vg.Grows.drew ?_) | (with_reducible refine Vg.Grows.setCell ?_ ?_ _) | (with_reducible refine Vg.Grows.put ?_ ?_ _) | omega | (simp; omega) | (simp; done)))⟩
            · have hfe : f = P.length := by omega
              have hce : ac = P.length := by omega
              subst hce
              obtain ⟨n, hn⟩ : ∃ n, P.length = n := ⟨_, rfl⟩
              have hcut := hrd.cut0 rfl
              have hL0 : L.length = 0 := by omega
              rw [← hfe, ← hsL] at hcut
              clear hca hfc
              subst hfe
              have hw1 : IntKind.i64.wrap ((P.length : Int) + L.length) = P.length + L.length := by rw [IntWalk.i64_in _ (by omega)]
              have hw2 : IntKind.i64.wrap ((P.length : Int) + L.length + lost) = P.length + L.length + lost := by rw [IntWalk.i64_in _ (by omega)]
              have hbb : ((P.length : Int) + L.length + lost == P.length + lost) = true := by simp; omega
              have H_hsa := Lib.hid hsa; clear hsa; have H_hq := Lib.hid hq; clear hq; have H_hsL := Lib.hid hsL; clear hsL; have H_hrd := Lib.hid hrd; clear hrd; have H_hcut := Lib.hid hcut; clear hcut; have H_hLl := Lib.hid hLl; clear hLl; have H_hL0 := Lib.hid hL0; clear hL0; have H_hn := Lib.hid hn; clear hn
              go_wp2_with fail
              go_region_held3 (fun w' => Vg.Grows wr w')
                (((try dsimp only); (repeat' (first | (with_reducible exact Vg.Grows.refl _) | (with_reducible assumption) | (with_reducible refine Vg.Grows.alloc ?_ _) | (with_reducible refine Vg.Grows.plus ?_ _ _) | (with_reducible refine Vg.Grows.drewN ?_ _) | (with_reducible refine Vg.Grows.drew ?_) | (with_reducible refine Vg.Grows.setCell ?_ ?_ _) | (with_reducible refine Vg.Grows.put ?_ ?_ _) | omega | (simp; omega) | (simp; done)))))
                (first | (go_at_call 47; refine (bx_len (s := ⟨L, lost⟩) (H_hsa.out.grows (by (repeat' (first | (with_reducible exact Vg.Grows.refl _) | (with_reducible assumption) | (with_reducible refine Vg.Grows.alloc ?_ _) | (with_reducible refine Vg.Grows.plus ?_ _ _) | (with_reducible refine Vg.Grows.drewN ?_ _) | (with_reducible refine Vg.Grows.drew ?_) | (with_reducible refine Vg.Grows.setCell ?_ ?_ _) | (with_reducible refine Vg.Grows.put ?_ ?_ _) | omega | (simp; omega) | (simp; done)))))).mono ?_; rintro e w' ⟨rfl, rfl⟩) | (go_at_call 48; refine (bx_lost (s := ⟨L, lost⟩) (H_hsa.out.grows (by (repeat' (first | (with_reducible exact Vg.Grows.refl _) | (with_reducible assumption) | (with_reducible refine Vg.Grows.alloc ?_ _) | (with_reducible refine Vg.Grows.plus ?_ _ _) | (with_reducible refine Vg.Grows.drewN ?_ _) | (with_reducible refine Vg.Grows.drew ?_) | (with_reducible refine Vg.Grows.setCell ?_ ?_ _) | (with_reducible refine Vg.Grows.put ?_ ?_ _) | omega | (simp; omega) | (simp; done)))))).mono ?_; rintro e w' ⟨rfl, rfl⟩) | (go_at_call 50; refine (bx_list (s := ⟨L, lost⟩) (H_hsa.out.grows (by (repeat' (first | (with_reducible exact Vg.Grows.refl _) | (with_reducible assumption) | (with_reducible refine Vg.Grows.alloc ?_ _) | (with_reducible refine Vg.Grows.plus ?_ _ _) | (with_reducible refine Vg.Grows.drewN ?_ _) | (with_reducible refine Vg.Grows.drew ?_) | (with_reducible refine Vg.Grows.setCell ?_ ?_ _) | (with_reducible refine Vg.Grows.put ?_ ?_ _) | omega | (simp; omega) | (simp; done)))))).mono ?_; rintro e w4 ⟨v4, rfl, hq4, x4, n4, rfl⟩; obtain ⟨va, vc, rfl⟩ := hq4.shape; (try simp only [Vg.plus_drew, Vg.plus_drewN] at hq4); have HQ4 := Lib.hid hq4; clear hq4) | (go_at_call 49; refine (same13x (L := L) (M := L) (HQ4.out.reads.grows (by (repeat' (first | (with_reducible exact Vg.Grows.refl _) | (with_reducible assumption) | (with_reducible refine Vg.Grows.alloc ?_ _) | (with_reducible refine Vg.Grows.plus ?_ _ _) | (with_reducible refine Vg.Grows.drewN ?_ _) | (with_reducible refine Vg.Grows.drew ?_) | (with_reducible refine Vg.Grows.setCell ?_ ?_ _) | (with_reducible refine Vg.Grows.put ?_ ?_ _) | omega | (simp; omega) | (simp; done))))) rfl (H_hcut.out.grows (by (repeat' (first | (with_reducible exact Vg.Grows.refl _) | (with_reducible assumption) | (with_reducible refine Vg.Grows.alloc ?_ _) | (with_reducible refine Vg.Grows.plus ?_ _ _) | (with_reducible refine Vg.Grows.drewN ?_ _) | (with_reducible refine Vg.Grows.drew ?_) | (with_reducible refine Vg.Grows.setCell ?_ ?_ _) | (with_reducible refine Vg.Grows.put ?_ ?_ _) | omega | (simp; omega) | (simp; done))))) (by exact H_hL0.out) (by omega) (by omega)).mono ?_; rintro e w7 ⟨rfl, x7, n7, rfl⟩; rw [decide_eq_true (rfl : L = L)]))
              go_wp2_with fail
              go_ret
              exact ⟨by simp, by (repeat' (first | (with_reducible exact Vg.Grows.refl _) | (with_reducible assumption) | (with_reducible refine Vg.Grows.alloc ?_ _) | (with_reducible refine Vg.Grows.plus ?_ _ _) | (with_reducible refine Vg.Grows.drewN ?_ _) | (with_reducible refine Vg.Grows.drew ?_) | (with_reducible refine Vg.Grows.setCell ?_ ?_ _) | (with_reducible refine Vg.Grows.put ?_ ?_ _) | omega | (simp; omega) | (simp; done)))⟩
  · go_enter Try.func9, Try.ntmps9
    go_wp2_with (first | (go_at_call 40; refine (lives13 _).mono ?_; rintro e w1 ⟨rfl, x0, n0, rfl⟩) | (go_at_call 41; refine (bx_new_no room (by omega)).mono ?_; rintro e w1 ⟨rfl, rfl⟩))
    go_ret
    exact ⟨rfl, by (repeat' (first | (with_reducible exact Vg.Grows.refl _) | (with_reducible assumption) | (with_reducible refine Vg.Grows.alloc ?_ _) | (with_reducible refine Vg.Grows.plus ?_ _ _) | (with_reducible refine Vg.Grows.drewN ?_ _) | (with_reducible refine Vg.Grows.drew ?_) | (with_reducible refine Vg.Grows.setCell ?_ ?_ _) | (with_reducible refine Vg.Grows.put ?_ ?_ _) | omega | (simp; omega) | (simp; done)))⟩
end Go.Proofs.Ytlgkcpgmnpoanaa
