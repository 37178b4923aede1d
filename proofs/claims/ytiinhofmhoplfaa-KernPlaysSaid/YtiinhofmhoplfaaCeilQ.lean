/- CeilingPlays: the walk. -/
import Derived.Test.YtiinhofmhoplfaaCeilT
set_option linter.unusedSimpArgs false
set_option linter.unusedVariables false
set_option maxHeartbeats 4000000
set_option maxRecDepth 100000
namespace Vg
open Go
def Tb.act (M : List Mx) (kd m t p : Int) : List Mx := if kd = 0 then (Tb.lock M m t p).1 else if kd = 1 then (Tb.unlock M m t).1 else M
theorem Tb.act_len (M : List Mx) (kd m t p : Int) : (Tb.act M kd m t p).length = M.length := by
  unfold Tb.act
  split
  · exact Tb.lock_len _ _ _ _
  · split
    · exact Tb.unlock_len _ _ _
    · rfl
theorem Hs.rel0 (L : List Int) : Hs.Rel [] (L.map fun c => ⟨c, false, 0⟩) := by
  intro m
  by_cases h : m < 0 ∨ ((L.map fun c => (⟨c, false, 0⟩ : Mx)).length : Int) ≤ m
  · rw [Tb.holder_out h]; rfl
  · obtain ⟨j, rfl⟩ : ∃ j : Nat, m = j := ⟨m.toNat, by omega⟩
    rw [Tb.holder_in (by omega)]
    simp [Hs.find]
end Vg
namespace Go.Proofs.Ytiinhofmhoplfaa
open Go.ChangeShapes Go.WideShapes Go.ChangeAt Go.RowKit
section
variable {w w' w0 w2 w3 : World} {b B S0 bw n q N : Nat} {S : Nat → Prop} {M M' : List Vg.Mx} {v v2 : Value} {o o' : Obj} {r lv : Int} {L F : List Int}
theorem ceil_newx {sa : Option Addr} {sc : Nat} (hq : L.length = q) (hr : Vg.IR w sa sc L) (h1 : L.length ≤ 16) (h2 : L.any Vg.oddC = false) :
    Calls Try.prog 29 #[.slice sa q sc] w fun e w' => ∃ v, e = .returned (.tuple #[.pointer (some ⟨w.heap.size, 0, none⟩), .int .i64 0]) ∧ CE w' w.heap.size (w.heap.size + 1) (L.map fun c => ⟨c, false, 0⟩) v ∧ Vg.Grows w w' := by
  subst hq
  exact ceil_new hr h1 h2
theorem ref12_newx {sa : Option Addr} {sc : Nat} (hq : L.length = q) (hr : Vg.IR w sa sc L) (hz : sa = none → sc = 0) (h1 : L.length ≤ 16) (h2 : L.any Vg.oddC = false) :
    Calls Try.prog 30 #[.slice sa q sc] w fun e w' => ∃ a c, e = .returned (.tuple #[.agg #[.slice a q c, .slice none 0 0], .bool true]) ∧ Vg.Reads w.heap.size w' (.slice a q c) q (Vg.ics L) ∧ Vg.Grows w w' := by
  subst hq
  exact ref12_new hr hz h1 h2
theorem ce_heldx (task : Int) (h : CE w b B M v) (hM : M.length ≤ 1000) (hF : (Vg.Tb.of M task M.length).map (fun i : Nat => (i : Int)) = F) (hN : F.length = N) :
    Calls Try.prog 38 #[.pointer (some ⟨b, 0, none⟩), .int .i64 task] w fun e w' => ∃ a c, e = .returned (.slice a N c) ∧ Vg.Reads 0 w' (.slice a N c) N (Vg.ics F) ∧ Vg.Grows w w' := by
  subst hF hN
  refine (ce_held task h hM).mono ?_
  rintro e w' ⟨u, rfl, hq, hg⟩
  have h1 := hq.reads.weaken (Nat.zero_le _)
  obtain ⟨ua, uc, rfl⟩ := hq.shape
  refine ⟨ua, uc, by simp, ?_, hg⟩
  have e1 : Vg.ics ((Vg.Tb.of M task M.length).map (fun i : Nat => (i : Int))) = nats (Vg.Tb.of M task M.length) := by simp [nats]
  rw [e1, List.length_map]
  exact h1
theorem rt_heldx (task : Int) (h : RT w S M n v) (hM : M.length ≤ 1000) (hF : (Vg.Tb.of M task M.length).map (fun i : Nat => (i : Int)) = F) (hN : F.length = N) :
    Calls Try.prog 39 #[v, .int .i64 task] w fun e w' => ∃ a c, e = .returned (.slice a N c) ∧ Vg.Reads 0 w' (.slice a N c) N (Vg.ics F) ∧ Vg.Grows w w' := by
  subst hF hN
  refine (rt_held task h hM).mono ?_
  rintro e w' ⟨ua, uc, rfl, hq, hg⟩
  have h1 := hq.weaken (Nat.zero_le _)
  refine ⟨ua, uc, by simp, ?_, hg⟩
  have e1 : Vg.ics ((Vg.Tb.of M task M.length).map (fun i : Nat => (i : Int))) = nats (Vg.Tb.of M task M.length) := by simp [nats]
  rw [e1, List.length_map]
  exact h1
theorem ce_levelx (task prio : Int) (h : CE w b B M v) (hl : Vg.Tb.level M (Vg.Tb.of M task M.length) prio = lv) :
    Calls Try.prog 40 #[.pointer (some ⟨b, 0, none⟩), .int .i64 task, .int .i64 prio] w fun e w' => e = .returned (.int .i64 lv) ∧ Vg.Grows w w' := by
  subst hl
  exact ce_level task prio h
theorem rt_levelx (task prio : Int) (h : RT w S M n v) (hM : M.length ≤ 1000) (hl : Vg.Tb.level M (Vg.Tb.of M task M.length) prio = lv) :
    Calls Try.prog 41 #[v, .int .i64 task, .int .i64 prio] w fun e w' => e = .returned (.int .i64 lv) ∧ Vg.Grows w w' := by
  subst hl
  exact rt_level task prio h hM
theorem ce_lockx (m task prio : Int) (h : CE w b B M v) (hb : b < B) (hl : Vg.Tb.lock M m task prio = (M', r)) :
    Calls Try.prog 32 #[.pointer (some ⟨b, 0, none⟩), .int .i64 m, .int .i64 task, .int .i64 prio] w fun e w' => e = .returned (.int .i64 r) ∧ CE w' b B M' v ∧ Vg.Touch (fun k => v.ownBlock = some k) w w' := by
  have := ce_lock m task prio h hb
  rw [hl] at this
  exact this
theorem ce_unlockx (m task : Int) (h : CE w b B M v) (hb : b < B) (hl : Vg.Tb.unlock M m task = (M', r)) :
    Calls Try.prog 34 #[.pointer (some ⟨b, 0, none⟩), .int .i64 m, .int .i64 task] w fun e w' => e = .returned (.int .i64 r) ∧ CE w' b B M' v ∧ Vg.Touch (fun k => v.ownBlock = some k) w w' := by
  have := ce_unlock m task h hb
  rw [hl] at this
  exact this
theorem rt_lockx (m task prio : Int) (h : RT w S M n v) (hS : ∀ k, w.heap.size ≤ k → S k) (hn : n ≤ 1000) (hl : Vg.Tb.lock M m task prio = (M', r)) (hq : M'.length = q) :
    Calls Try.prog 31 #[v, .int .i64 m, .int .i64 task, .int .i64 prio] w fun e w' => ∃ a c a2 n2 c2, e = .returned (.tuple #[.agg #[.slice a q c, .slice a2 n2 c2], .int .i64 r]) ∧ RT w' S M' (n + 1) (.agg #[.slice a q c, .slice a2 n2 c2]) ∧ Vg.Grows w w' := by
  subst hq
  have := rt_lock m task prio h hS hn
  rw [hl] at this
  refine this.mono ?_
  rintro e w' ⟨v', rfl, hr, hg⟩
  obtain ⟨a, c, a2, n2, c2, rfl⟩ := hr.shape
  exact ⟨a, c, a2, n2, c2, rfl, hr, hg⟩
theorem rt_unlockx (m task : Int) (h : RT w S M n v) (hS : ∀ k, w.heap.size ≤ k → S k) (hn : n ≤ 1000) (hl : Vg.Tb.unlock M m task = (M', r)) (hq : M'.length = q) :
    Calls Try.prog 33 #[v, .int .i64 m, .int .i64 task] w fun e w' => ∃ a c a2 n2 c2, e = .returned (.tuple #[.agg #[.slice a q c, .slice a2 n2 c2], .int .i64 r]) ∧ RT w' S M' (n + 1) (.agg #[.slice a q c, .slice a2 n2 c2]) ∧ Vg.Grows w w' := by
  subst hq
  have := rt_unlock m task h hS hn
  rw [hl] at this
  refine this.mono ?_
  rintro e w' ⟨v', rfl, hr, hg⟩
  have hr := hr.mono (n' := n + 1) (by omega)
  obtain ⟨a, c, a2, n2, c2, rfl⟩ := hr.shape
  exact ⟨a, c, a2, n2, c2, rfl, hr, hg⟩
abbrev SP (S0 bw : Nat) (k : Nat) : Prop := S0 ≤ k ∧ k ≠ bw
theorem tab_step (hvS : ∀ k, v.ownBlock = some k → b + 1 ≤ k ∧ k < S0) (hbS : b < S0) (hbw : S0 ≤ bw) (hbw2 : bw < w2.heap.size) (hw0 : w0.heap.size ≤ b) (hg : Vg.Grows w0 w2) (hr2 : RT w2 (SP S0 bw) M' n v2) (hs3 : CE w3 b (b + 1) M' v) (ht3 : Vg.Touch (fun k => v.ownBlock = some k) (w2.alloc o) w3) :
    w2.heap.size ≤ (Vg.put w3 bw o').heap.size ∧ Vg.Grows w0 (Vg.put w3 bw o') ∧ CE (Vg.put w3 bw o') b (b + 1) M' v ∧ Vg.blk (Vg.put w3 bw o') bw = some o' ∧ RT (Vg.put w3 bw o') (SP S0 bw) M' n v2 := by
  have hz3 := ht3.size
  rw [World.size_alloc] at hz3
  have hl3 : bw < w3.heap.size := by omega
  refine ⟨by rw [Vg.put_size]; omega, ?_, ?_, Vg.put_heap_same hl3, ?_⟩
  · exact Vg.Grows.put (ht3.gr (hg.alloc o) (fun k hk => by have := hvS k hk; omega)) (by omega) _
  · exact hs3.kept (Vg.put_heap_other (by omega)) fun k hk => Vg.put_heap_other (by have := hvS k hk; omega)
  · refine RT.touch (t := fun k => k = bw) ?_ ((Vg.Touch.refl (fun k => k = bw) w3).put rfl o') (fun k hk hh => hk.2 hh)
    exact (hr2.grows ((Vg.Grows.refl _).alloc o)).touch ht3 (fun k hk hh => by have := hvS k hh; have := hk.1; omega)
end
theorem CeilingPlays_walk (ca : Option Addr) (cn cc : Nat) (CD : Nat → Nat → Int) (a : Option Addr) (len cap : Nat) (D : Nat → Nat → Int) (w : World) (hrC : Vg.intRows w [.i64] ca cn cc CD) (hr : Vg.intRows w [.i64, .i64, .i64, .i64] a len cap D) :
    Calls Try.prog 5 #[.slice ca cn cc, .slice a len cap] w fun e w' => e = .returned (.bool true) ∧ Vg.Grows w w' := by
  have hz : ca = none → cc = 0 := fun h => (hrC.2.2.1 h).2
  obtain ⟨L, hIR, hLl⟩ : ∃ L, Vg.IR w ca cc L ∧ L.length = cn := ⟨_, Vg.IR.of_rows hrC, by simp⟩
  have hcc1 := hIR.1
  have hcc2 : cc ≤ 9223372036854775807 := hIR.2.1
  rw [hLl] at hcc1
  clear hrC
  have hlen := hr.1
  have hcap : cap ≤ 9223372036854775807 := hr.2.1
  by_cases hok : L.length ≤ 16 ∧ L.any Vg.oddC = false
  · obtain ⟨h1, h2⟩ := hok
    have hcn : cn ≤ 16 := by omega
    have RH := Lib.hid (fun h => Vg.intRows.open (by decide) hr h)
    clear hr
    have H_hIR := Lib.hid hIR; clear hIR; have H_h1 := Lib.hid h1; clear h1; have H_h2 := Lib.hid h2; clear h2; have H_hLl := Lib.hid hLl; clear hLl; have H_hz := Lib.hid hz; clear hz
    go_enter Try.func5, Try.ntmps5
    go_wp2_with ((go_at_call 28; refine (lives12 _).mono ?_; rintro e w1 ⟨rfl, x0, n0, rfl⟩))
    refine (ceil_newx (q := cn) H_hLl.out (H_hIR.out.grows ((Vg.Grows.refl w).plus x0 n0)) H_h1.out H_h2.out).mono ?_
    rintro e W1 ⟨v, rfl, hs, hg0'⟩
    obtain ⟨b, hb⟩ : ∃ b, w.heap.size + Vg.sz x0 = b := ⟨_, rfl⟩
    simp only [Vg.plus_size, hb] at hs ⊢
    have hg0 : Vg.Grows w W1 := ((Vg.Grows.refl w).plus x0 n0).trans hg0'
    have hbw : w.heap.size ≤ b := by omega
    have hbB : b < b + 1 := by omega
    obtain ⟨S0, hS0⟩ : ∃ S0, W1.heap.size = S0 := ⟨_, rfl⟩
    have hvS : ∀ k, v.ownBlock = some k → b + 1 ≤ k ∧ k < S0 := by rw [← hS0]; exact hs.own
    have hbS : b < S0 := by rw [← hS0]; exact hs.lt
    have H_hb := Lib.hid hb; clear hb; have H_hs := Lib.hid hs; clear hs; have H_hvS := Lib.hid hvS; clear hvS
    clear hg0'
    by_cases hl : 60 < len
    · go_wp2_with ((go_at_call 30; refine (ref12_newx (q := cn) H_hLl.out (H_hIR.out.grows hg0) H_hz.out H_h1.out H_h2.out).mono ?_; rintro e W2 ⟨ra, rc, rfl, hra, hg2⟩; rw [hS0] at hra; have hg20 := hg0.trans hg2; have hsz2 := hg2.size; rw [hS0] at hsz2; have H_hra := Lib.hid hra; clear hra))
      go_ret
      exact ⟨rfl, by (repeat' (first | (with_reducible exact Vg.Grows.refl _) | (with_reducible assumption) | (with_reducible refine Vg.Grows.alloc ?_ _) | (with_reducible refine Vg.Grows.plus ?_ _ _) | (with_reducible refine Vg.Grows.drewN ?_ _) | (with_reducible refine Vg.Grows.drew ?_) | (with_reducible refine Vg.Grows.setCell ?_ ?_ _) | (with_reducible refine Vg.Grows.put ?_ ?_ _) | omega | (simp; omega) | (simp; done)))⟩
    · go_wp2_with ((go_at_call 30; refine (ref12_newx (q := cn) H_hLl.out (H_hIR.out.grows hg0) H_hz.out H_h1.out H_h2.out).mono ?_; rintro e W2 ⟨ra, rc, rfl, hra, hg2⟩; rw [hS0] at hra; have hg20 := hg0.trans hg2; have hsz2 := hg2.size; rw [hS0] at hsz2; have H_hra := Lib.hid hra; clear hra))
      obtain ⟨bw, hbw'⟩ : ∃ bw, W2.heap.size = bw := ⟨_, rfl⟩
      obtain ⟨W0, hW0⟩ : ∃ W0, W2.alloc (rtabC (.slice ra cn rc) (.slice none 0 0)) = W0 := ⟨_, rfl⟩
      have g1 : CE W0 b (b + 1) (L.map fun c => ⟨c, false, 0⟩) v := by rw [← hW0]; exact H_hs.out.grows (hg2.alloc _)
      have g2 : Vg.blk W0 bw = some (rtabC (.slice ra cn rc) (.slice none 0 0)) := by rw [← hW0, ← hbw']; exact Vg.alloc_heap_at rfl
      have g3 : Vg.Grows w W0 := by rw [← hW0]; exact hg20.alloc _
      have g4 : RT W0 (SP S0 bw) (L.map fun c => ⟨c, false, 0⟩) 0 (.agg #[.slice ra cn rc, .slice none 0 0]) := by
        have hr0 := H_hra.out
        have ho : ∀ k, (Value.slice ra cn rc).ownBlock = some k → SP S0 bw k := by
          rcases hr0 with ⟨h0, _⟩ | ⟨g, off, cap', h0, hgS, hgl, _⟩
          · intro k hk; rw [h0] at hk; simp [Value.ownBlock] at hk
          · intro k hk; rw [h0] at hk; simp [Value.ownBlock] at hk; subst hk; exact ⟨hgS, by omega⟩
        refine ⟨ra, rc, none, 0, [], by simp [H_hLl.out], ⟨?_, ?_⟩, Vg.ReadsP.nil _, Vg.Hs.rel0 L, Nat.le_refl _⟩
        · have e1 : Vg.Tb.cs (L.map fun c => (⟨c, false, 0⟩ : Vg.Mx)) = L := by unfold Vg.Tb.cs; rw [List.map_map]; exact List.map_id' L
          rw [e1, List.length_map, H_hLl.out, ← hW0]
          exact (hr0.weaken (Nat.zero_le _)).grows ((Vg.Grows.refl _).alloc _)
        · rw [List.length_map, H_hLl.out]; exact ho
      have g5 : bw < W0.heap.size := Vg.lt_of g2
      have g6 : S0 ≤ bw := by omega
      have n1' : bw ≠ b := by omega
      have n2' : b ≠ bw := by omega
      simp only [hbw']
      rw [hW0]
      have gl : (L.map fun c => (⟨c, false, 0⟩ : Vg.Mx)).length = cn := by rw [List.length_map, H_hLl.out]
      have H_hbw' := Lib.hid hbw'; clear hbw'; have H_hW0 := Lib.hid hW0; clear hW0; have H_g1 := Lib.hid g1; clear g1; have H_g2 := Lib.hid g2; clear g2; have H_g4 := Lib.hid g4; clear g4; have H_gl := Lib.hid gl; clear gl
      clear hg20 hsz2 hg2
      obtain ⟨T, hT⟩ : ∃ T, W0.heap.size = T := ⟨_, rfl⟩
      rw [hT] at g5
      have H_hT := Lib.hid hT; clear hT
      go_loopw [58] (fun i wr => ∃ (k : Nat) (M : List Vg.Mx) (ra : Option Addr) (rc : Nat) (ha : Option Addr) (hn hc : Nat), k ≤ len ∧ i = .int .i64 k ∧ M.length = cn ∧ T ≤ wr.heap.size ∧ Vg.Grows w wr ∧ CE wr b (b + 1) M v ∧ Vg.blk wr bw = some (rtabC (.slice ra cn rc) (.slice ha hn hc)) ∧ RT wr (SP S0 bw) M k (.agg #[.slice ra cn rc, .slice ha hn hc])) (fun i _ => len - (intOf i).toNat)
      case atStart =>
        exact ⟨0, _, ra, rc, none, 0, 0, by omega, rfl, H_gl.out, by rw [H_hT.out]; exact Nat.le_refl _, g3, H_g1.out, H_g2.out, H_g4.out⟩
      case round =>
        obtain ⟨k, M, ra, rc, ha, hn, hc, hk, rfl, hml, hsz, hgr, hce, b3, hrt⟩ := hrel
        by_cases hlt : k < len
        · obtain ⟨ba, off, rfl, hba, hcx⟩ := RH.out (by omega)
          have hc0 := hcx k hlt 0 (by decide)
          have hc1 := hcx k hlt 1 (by decide)
          have hc2 := hcx k hlt 2 (by decide)
          have hc3 := hcx k hlt 3 (by decide)
          generalize D k 0 = kd at hc0
          generalize D k 1 = xm at hc1
          generalize D k 2 = xt at hc2
          generalize D k 3 = xp at hc3
          simp only [List.length_cons, List.length_nil, Nat.zero_add, List.getElem_cons_zero, List.getElem_cons_succ] at hc0 hc1 hc2 hc3
          have hc0 := (hgr.below.cell (p := ⟨ba, off + k * 4, none⟩) hba).trans hc0.1
          have hc1 := (hgr.below.cell (p := ⟨ba, off + k * 4 + 1, none⟩) hba).trans hc1.1
          have hc2 := (hgr.below.cell (p := ⟨ba, off + k * 4 + 2, none⟩) hba).trans hc2.1
          have hc3 := (hgr.below.cell (p := ⟨ba, off + k * 4 + 3, none⟩) hba).trans hc3.1
          have hbar : ba < wr.heap.size := Nat.lt_of_lt_of_le hba hgr.size
          clear hcx
          have c_b3 := Vg.cells_of b3; have f_b3 := Vg.frozen_of b3; have p_b3 := Vg.setCell_of b3; have l_b3 := Vg.lt_of b3; have H_b3 := Lib.hid b3; clear b3
          have H_hce := Lib.hid hce; clear hce; have H_hrt := Lib.hid hrt; clear hrt; have H_hml := Lib.hid hml; clear hml
          go_upto_block 2 with (fail)
          obtain ⟨wx, hwx⟩ : ∃ wx, (wr.alloc (.cells #[.int .i64 kd, .int .i64 xm, .int .i64 xt, .int .i64 xp] 61)) = wx := ⟨_, rfl⟩
          obtain ⟨bt, hbt'⟩ : ∃ bt, wr.heap.size = bt := ⟨_, rfl⟩
          have x1 : Vg.blk wx bw = some (rtabC (.slice ra cn rc) (.slice ha hn hc)) := by rw [← hwx]; exact Vg.Grows.blk (by (repeat' (first | (with_reducible exact Vg.Grows.refl _) | (with_reducible assumption) | (with_reducible refine Vg.Grows.alloc ?_ _) | (with_reducible refine Vg.Grows.plus ?_ _ _) | (with_reducible refine Vg.Grows.drewN ?_ _) | (with_reducible refine Vg.Grows.drew ?_) | (with_reducible refine Vg.Grows.setCell ?_ ?_ _) | (with_reducible refine Vg.Grows.put ?_ ?_ _) | omega | (simp; omega) | (simp; done)))) H_b3.out
          have x2 : Vg.blk wx bt = some (.cells #[.int .i64 kd, .int .i64 xm, .int .i64 xt, .int .i64 xp] 61) := by rw [← hwx, ← hbt']; exact Vg.alloc_heap_at rfl
          have hgx : Vg.Grows wr wx := by rw [← hwx]; (repeat' (first | (with_reducible exact Vg.Grows.refl _) | (with_reducible assumption) | (with_reducible refine Vg.Grows.alloc ?_ _) | (with_reducible refine Vg.Grows.plus ?_ _ _) | (with_reducible refine Vg.Grows.drewN ?_ _) | (with_reducible refine Vg.Grows.drew ?_) | (with_reducible refine Vg.Grows.setCell ?_ ?_ _) | (with_reducible refine Vg.Grows.put ?_ ?_ _) | omega | (simp; omega) | (simp; done)))
          have hsx : CE wx b (b + 1) M v := H_hce.out.grows hgx
          have hrx : RT wx (SP S0 bw) M k (.agg #[.slice ra cn rc, .slice ha hn hc]) := H_hrt.out.grows hgx
          have hTx : T ≤ wx.heap.size := Nat.le_trans hsz hgx.size
          have hgwx : Vg.Grows w wx := hgr.trans hgx
          have hbS' : T ≤ bt := by omega
          have m1 : bt ≠ bw := by omega
          have m2 : bw ≠ bt := by omega
          have m3 : bt ≠ b := by omega
          have hSP : ∀ j, wx.heap.size ≤ j → SP S0 bw j := fun j hj => ⟨by omega, by omega⟩
          have hkb : k ≤ 1000 := by omega
          rw [hwx, hbt']
          clear c_b3 f_b3 p_b3
          have c_x1 := Vg.cells_of x1; have f_x1 := Vg.frozen_of x1; have p_x1 := Vg.setCell_of x1; have l_x1 := Vg.lt_of x1; have H_x1 := Lib.hid x1; clear x1; have c_x2 := Vg.cells_of x2; have f_x2 := Vg.frozen_of x2; have p_x2 := Vg.setCell_of x2; have l_x2 := Vg.lt_of x2; have H_x2 := Lib.hid x2; clear x2
          have H_hsx := Lib.hid hsx; clear hsx; have H_hrx := Lib.hid hrx; clear hrx; have H_hwx := Lib.hid hwx; clear hwx; have H_hbt' := Lib.hid hbt'; clear hbt'; have H_hSP := Lib.hid hSP; clear hSP
          go_cut [] (fun wy => ∃ (ra : Option Addr) (rc : Nat) (ha : Option Addr) (hn hc : Nat), T ≤ wy.heap.size ∧ Vg.Grows w wy ∧ CE wy b (b + 1) (Vg.Tb.act M kd xm xt xp) v ∧ Vg.blk wy bw = some (rtabC (.slice ra cn rc) (.slice ha hn hc)) ∧ RT wy (SP S0 bw) (Vg.Tb.act M kd xm xt xp) (k + 1) (.agg #[.slice ra cn rc, .slice ha hn hc]) ∧ Vg.blk wy bt = some (.cells #[.int .i64 kd, .int .i64 xm, .int .i64 xt, .int .i64 xp] 61))
          case first =>
            by_cases hv0 : kd = 0
            · subst hv0
              obtain ⟨⟨M', r⟩, hlk⟩ : ∃ p, Vg.Tb.lock M xm xt xp = p := ⟨_, rfl⟩
              have hml' : M'.length = cn := by have := Vg.Tb.lock_len M xm xt xp; rw [hlk] at this; exact this.trans H_hml.out
              have hact : Vg.Tb.act M 0 xm xt xp = M' := by unfold Vg.Tb.act; rw [if_pos rfl, hlk]
              have hrr : (r != r) = false := by simp
              have H_hlk := Lib.hid hlk; clear hlk; have H_hml' := Lib.hid hml'; clear hml'; have H_hact := Lib.hid hact; clear hact
              go_wp2_with (first | (go_at_call 31; refine (rt_lockx (q := cn) (n := k) xm xt xp H_hrx.out H_hSP.out hkb H_hlk.out H_hml'.out).mono ?_; rintro e w2 ⟨ra2, rc2, ha2, hn2, hc2, rfl, hra2, hg2⟩; have y1 := hg2.blk H_x1.out; have y2 := hg2.blk H_x2.out; have hs2 := H_hsx.out.grows hg2; have hz2 := hg2.size; have hgw2 := hgwx.trans hg2; clear c_x1 f_x1 p_x1 c_x2 f_x2 p_x2; have c_y1 := Vg.cells_of y1; have f_y1 := Vg.frozen_of y1; have p_y1 := Vg.setCell_of y1; have l_y1 := Vg.lt_of y1; have H_y1 := Lib.hid y1; clear y1; have c_y2 := Vg.cells_of y2; have f_y2 := Vg.frozen_of y2; have p_y2 := Vg.setCell_of y2; have l_y2 := Vg.lt_of y2; have H_y2 := Lib.hid y2; clear y2; have H_hra2 := Lib.hid hra2; clear hra2; have H_hs2 := Lib.hid hs2; clear hs2; have H_hg2 := Lib.hid hg2; clear hg2) | (go_at_call 32; refine (ce_lockx xm xt xp (H_hs2.out.grows (by (repeat' (first | (with_reducible exact Vg.Grows.refl _) | (with_reducible assumption) | (with_reducible refine Vg.Grows.alloc ?_ _) | (with_reducible refine Vg.Grows.plus ?_ _ _) | (with_reducible refine Vg.Grows.drewN ?_ _) | (with_reducible refine Vg.Grows.drew ?_) | (with_reducible refine Vg.Grows.setCell ?_ ?_ _) | (with_reducible refine Vg.Grows.put ?_ ?_ _) | omega | (simp; omega) | (simp; done))))) hbB H_hlk.out).mono ?_; rintro e w3 ⟨rfl, hsa3, ht3⟩; have z1 := ht3.bk ((Vg.alloc_heap_past l_y1).trans H_y1.out) (fun hh => by have := (H_hvS.out _ hh).2; omega); have z2 := ht3.bk (Vg.alloc_heap_at rfl) (fun hh => by have := (H_hvS.out _ hh).2; omega); have z3 := ht3.bk ((Vg.alloc_heap_past l_y2).trans H_y2.out) (fun hh => by have := (H_hvS.out _ hh).2; omega); clear c_y1 f_y1 p_y1 c_y2 f_y2 p_y2; have c_z1 := Vg.cells_of z1; have f_z1 := Vg.frozen_of z1; have p_z1 := Vg.setCell_of z1; have l_z1 := Vg.lt_of z1; have H_z1 := Lib.hid z1; clear z1; have c_z2 := Vg.cells_of z2; have f_z2 := Vg.frozen_of z2; have p_z2 := Vg.setCell_of z2; have l_z2 := Vg.lt_of z2; have H_z2 := Lib.hid z2; clear z2; have c_z3 := Vg.cells_of z3; have f_z3 := Vg.frozen_of z3; have p_z3 := Vg.setCell_of z3; have l_z3 := Vg.lt_of z3; have H_z3 := Lib.hid z3; clear z3; have H_hsa3 := Lib.hid hsa3; clear hsa3; have H_ht3 := Lib.hid ht3; clear ht3))
              go_meet
              rw [H_hact.out]
              have hst := tab_step (o' := rtabC (.slice ra2 cn rc2) (.slice ha2 hn2 hc2)) H_hvS.out hbS g6 (by omega) hbw hgw2 H_hra2.out H_hsa3.out H_ht3.out
              exact ⟨ra2, rc2, ha2, hn2, hc2, Nat.le_trans (show T ≤ w2.heap.size by omega) hst.1, hst.2.1, hst.2.2.1, hst.2.2.2.1, hst.2.2.2.2, (Vg.put_heap_other m2).trans H_z3.out⟩
            · by_cases hv1 : kd = 1
              · subst hv1
                obtain ⟨⟨M', r⟩, hlk⟩ : ∃ p, Vg.Tb.unlock M xm xt = p := ⟨_, rfl⟩
                have hml' : M'.length = cn := by have := Vg.Tb.unlock_len M xm xt; rw [hlk] at this; exact this.trans H_hml.out
                have hact : Vg.Tb.act M 1 xm xt xp = M' := by unfold Vg.Tb.act; rw [if_neg (by decide), if_pos rfl, hlk]
                have hrr : (r != r) = false := by simp
                have H_hlk := Lib.hid hlk; clear hlk; have H_hml' := Lib.hid hml'; clear hml'; have H_hact := Lib.hid hact; clear hact
                go_wp2_with (first | (go_at_call 33; refine (rt_unlockx (q := cn) (n := k) xm xt H_hrx.out H_hSP.out hkb H_hlk.out H_hml'.out).mono ?_; rintro e w2 ⟨ra2, rc2, ha2, hn2, hc2, rfl, hra2, hg2⟩; have y1 := hg2.blk H_x1.out; have y2 := hg2.blk H_x2.out; have hs2 := H_hsx.out.grows hg2; have hz2 := hg2.size; have hgw2 := hgwx.trans hg2; clear c_x1 f_x1 p_x1 c_x2 f_x2 p_x2; have c_y1 := Vg.cells_of y1; have f_y1 := Vg.frozen_of y1; have p_y1 := Vg.setCell_of y1; have l_y1 := Vg.lt_of y1; have H_y1 := Lib.hid y1; clear y1; have c_y2 := Vg.cells_of y2; have f_y2 := Vg.frozen_of y2; have p_y2 := Vg.setCell_of y2; have l_y2 := Vg.lt_of y2; have H_y2 := Lib.hid y2; clear y2; have H_hra2 := Lib.hid hra2; clear hra2; have H_hs2 := Lib.hid hs2; clear hs2; have H_hg2 := Lib.hid hg2; clear hg2) | (go_at_call 34; refine (ce_unlockx xm xt (H_hs2.out.grows (by (repeat' (first | (with_reducible exact Vg.Grows.refl _) | (with_reducible assumption) | (with_reducible refine Vg.Grows.alloc ?_ _) | (with_reducible refine Vg.Grows.plus ?_ _ _) | (with_reducible refine Vg.Grows.drewN ?_ _) | (with_reducible refine Vg.Grows.drew ?_) | (with_reducible refine Vg.Grows.setCell ?_ ?_ _) | (with_reducible refine Vg.Grows.put ?_ ?_ _) | omega | (simp; omega) | (simp; done))))) hbB H_hlk.out).mono ?_; rintro e w3 ⟨rfl, hsa3, ht3⟩; have z1 := ht3.bk ((Vg.alloc_heap_past l_y1).trans H_y1.out) (fun hh => by have := (H_hvS.out _ hh).2; omega); have z2 := ht3.bk (Vg.alloc_heap_at rfl) (fun hh => by have := (H_hvS.out _ hh).2; omega); have z3 := ht3.bk ((Vg.alloc_heap_past l_y2).trans H_y2.out) (fun hh => by have := (H_hvS.out _ hh).2; omega); clear c_y1 f_y1 p_y1 c_y2 f_y2 p_y2; have c_z1 := Vg.cells_of z1; have f_z1 := Vg.frozen_of z1; have p_z1 := Vg.setCell_of z1; have l_z1 := Vg.lt_of z1; have H_z1 := Lib.hid z1; clear z1; have c_z2 := Vg.cells_of z2; have f_z2 := Vg.frozen_of z2; have p_z2 := Vg.setCell_of z2; have l_z2 := Vg.lt_of z2; have H_z2 := Lib.hid z2; clear z2; have c_z3 := Vg.cells_of z3; have f_z3 := Vg.frozen_of z3; have p_z3 := Vg.setCell_of z3; have l_z3 := Vg.lt_of z3; have H_z3 := Lib.hid z3; clear z3; have H_hsa3 := Lib.hid hsa3; clear hsa3; have H_ht3 := Lib.hid ht3; clear ht3))
                go_meet
                rw [H_hact.out]
                have hst := tab_step (o' := rtabC (.slice ra2 cn rc2) (.slice ha2 hn2 hc2)) H_hvS.out hbS g6 (by omega) hbw hgw2 H_hra2.out H_hsa3.out H_ht3.out
                exact ⟨ra2, rc2, ha2, hn2, hc2, Nat.le_trans (show T ≤ w2.heap.size by omega) hst.1, hst.2.1, hst.2.2.1, hst.2.2.2.1, hst.2.2.2.2, (Vg.put_heap_other m2).trans H_z3.out⟩
              · have hact : Vg.Tb.act M kd xm xt xp = M := by unfold Vg.Tb.act; simp [hv0, hv1]
                have hb0 : (kd == 0) = false := by simp [hv0]
                have hb1 : (kd == 1) = false := by simp [hv1]
                have H_hact := Lib.hid hact; clear hact
                clear hv0 hv1
                go_wp2_with fail
                go_meet
                rw [H_hact.out]
                exact ⟨_, _, _, _, _, hTx, hgwx, H_hsx.out, H_x1.out, H_hrx.out.mono (by omega), H_x2.out⟩
          case rest =>
            obtain ⟨ra2, rc2, ha2, hn2, hc2', hTy, hgy, hsy, y3, hry, y4⟩ := hcut
            have hln : (Vg.Tb.act M kd xm xt xp).length = cn := (Vg.Tb.act_len M kd xm xt xp).trans H_hml.out
            generalize Vg.Tb.act M kd xm xt xp = M' at hsy hry hln
            have hln2 : M'.length ≤ 1000 := by omega
            obtain ⟨⟨who, is⟩, hho⟩ : ∃ p, Vg.Tb.holder M' xm = p := ⟨_, rfl⟩
            obtain ⟨F, hF⟩ : ∃ F, (Vg.Tb.of M' xt M'.length).map (fun i : Nat => (i : Int)) = F := ⟨_, rfl⟩
            have hFl : F.length ≤ 100000 := by rw [← hF, List.length_map]; have := Vg.Tb.of_len M' xt M'.length; omega
            obtain ⟨N, hN⟩ : ∃ N, F.length = N := ⟨_, rfl⟩
            obtain ⟨lv, hlv⟩ : ∃ lv, Vg.Tb.level M' (Vg.Tb.of M' xt M'.length) xp = lv := ⟨_, rfl⟩
            have hq1 : (who != who) = false := by simp
            have hq2 : (is != is) = false := by simp
            have hq3 : (lv != lv) = false := by simp
            clear c_x1 f_x1 p_x1 c_x2 f_x2 p_x2
            have c_y3 := Vg.cells_of y3; have f_y3 := Vg.frozen_of y3; have p_y3 := Vg.setCell_of y3; have l_y3 := Vg.lt_of y3; have H_y3 := Lib.hid y3; clear y3; have c_y4 := Vg.cells_of y4; have f_y4 := Vg.frozen_of y4; have p_y4 := Vg.setCell_of y4; have l_y4 := Vg.lt_of y4; have H_y4 := Lib.hid y4; clear y4
            have H_hsy := Lib.hid hsy; clear hsy; have H_hry := Lib.hid hry; clear hry; have H_hln := Lib.hid hln; clear hln; have H_hln2 := Lib.hid hln2; clear hln2; have H_hho := Lib.hid hho; clear hho; have H_hF := Lib.hid hF; clear hF; have H_hFl := Lib.hid hFl; clear hFl; have H_hN := Lib.hid hN; clear hN; have H_hlv := Lib.hid hlv; clear hlv
            go_wp2_with (first | (go_at_call 35; refine (ce_holder (M := M') xm (H_hsy.out.grows (by (repeat' (first | (with_reducible exact Vg.Grows.refl _) | (with_reducible assumption) | (with_reducible refine Vg.Grows.alloc ?_ _) | (with_reducible refine Vg.Grows.plus ?_ _ _) | (with_reducible refine Vg.Grows.drewN ?_ _) | (with_reducible refine Vg.Grows.drew ?_) | (with_reducible refine Vg.Grows.setCell ?_ ?_ _) | (with_reducible refine Vg.Grows.put ?_ ?_ _) | omega | (simp; omega) | (simp; done)))))).mono ?_; rintro e w4 ⟨rfl, rfl⟩; rw [H_hho.out]) | (go_at_call 36; refine (rt_holder (M := M') (n := k + 1) xm (H_hry.out.grows (by (repeat' (first | (with_reducible exact Vg.Grows.refl _) | (with_reducible assumption) | (with_reducible refine Vg.Grows.alloc ?_ _) | (with_reducible refine Vg.Grows.plus ?_ _ _) | (with_reducible refine Vg.Grows.drewN ?_ _) | (with_reducible refine Vg.Grows.drew ?_) | (with_reducible refine Vg.Grows.setCell ?_ ?_ _) | (with_reducible refine Vg.Grows.put ?_ ?_ _) | omega | (simp; omega) | (simp; done)))))).mono ?_; rintro e w4 ⟨rfl, x4, n4, rfl⟩; rw [H_hho.out]))
            go_region_held3 (fun w' => Vg.Grows wc w' ∧ bw < w'.heap.size ∧ bt < w'.heap.size ∧ w'.cell? ⟨bw, 0, none⟩ = some (.slice ra2 cn rc2) ∧ w'.cell? ⟨bw, 1, none⟩ = some (.slice ha2 hn2 hc2') ∧ w'.cell? ⟨bt, 2, none⟩ = some (.int .i64 xt) ∧ w'.cell? ⟨bt, 3, none⟩ = some (.int .i64 xp))
              ((go_split_ands; (try dsimp only); refine ⟨by (repeat' (first | (with_reducible exact Vg.Grows.refl _) | (with_reducible assumption) | (with_reducible refine Vg.Grows.alloc ?_ _) | (with_reducible refine Vg.Grows.plus ?_ _ _) | (with_reducible refine Vg.Grows.drewN ?_ _) | (with_reducible refine Vg.Grows.drew ?_) | (with_reducible refine Vg.Grows.setCell ?_ ?_ _) | (with_reducible refine Vg.Grows.put ?_ ?_ _) | omega | (simp; omega) | (simp; done))), ?_⟩; go_simp))
              (first | (go_at_call 38; refine (ce_heldx (M := M') (F := F) (N := N) xt (H_hsy.out.grows (by (repeat' (first | (with_reducible exact Vg.Grows.refl _) | (with_reducible assumption) | (with_reducible refine Vg.Grows.alloc ?_ _) | (with_reducible refine Vg.Grows.plus ?_ _ _) | (with_reducible refine Vg.Grows.drewN ?_ _) | (with_reducible refine Vg.Grows.drew ?_) | (with_reducible refine Vg.Grows.setCell ?_ ?_ _) | (with_reducible refine Vg.Grows.put ?_ ?_ _) | omega | (simp; omega) | (simp; done))))) H_hln2.out H_hF.out H_hN.out).mono ?_; rintro e w5 ⟨va, vc, rfl, hq5, x5, n5, rfl⟩; (try simp only [Vg.plus_drew, Vg.plus_drewN, Vg.plus_plus] at hq5); have HQ5 := Lib.hid hq5; clear hq5) | (go_at_call 39; refine (rt_heldx (M := M') (n := k + 1) (F := F) (N := N) xt (H_hry.out.grows (by (repeat' (first | (with_reducible exact Vg.Grows.refl _) | (with_reducible assumption) | (with_reducible refine Vg.Grows.alloc ?_ _) | (with_reducible refine Vg.Grows.plus ?_ _ _) | (with_reducible refine Vg.Grows.drewN ?_ _) | (with_reducible refine Vg.Grows.drew ?_) | (with_reducible refine Vg.Grows.setCell ?_ ?_ _) | (with_reducible refine Vg.Grows.put ?_ ?_ _) | omega | (simp; omega) | (simp; done))))) H_hln2.out H_hF.out H_hN.out).mono ?_; rintro e w6 ⟨vb, vd, rfl, hq6, hg6⟩; have hq5 := HQ5.out.grows hg6; obtain ⟨x6, n6, rfl⟩ := hg6; (try simp only [Vg.plus_drew, Vg.plus_drewN, Vg.plus_plus, Array.append_assoc] at hq5 hq6); have HQ6 := Lib.hid hq6; have HQ5b := Lib.hid hq5; clear hq6 hq5) | (go_at_call 37; refine (same05x (L := F) (M := F) (HQ5b.out.grows (by (repeat' (first | (with_reducible exact Vg.Grows.refl _) | (with_reducible assumption) | (with_reducible refine Vg.Grows.alloc ?_ _) | (with_reducible refine Vg.Grows.plus ?_ _ _) | (with_reducible refine Vg.Grows.drewN ?_ _) | (with_reducible refine Vg.Grows.drew ?_) | (with_reducible refine Vg.Grows.setCell ?_ ?_ _) | (with_reducible refine Vg.Grows.put ?_ ?_ _) | omega | (simp; omega) | (simp; done))))) H_hN.out (HQ6.out.grows (by (repeat' (first | (with_reducible exact Vg.Grows.refl _) | (with_reducible assumption) | (with_reducible refine Vg.Grows.alloc ?_ _) | (with_reducible refine Vg.Grows.plus ?_ _ _) | (with_reducible refine Vg.Grows.drewN ?_ _) | (with_reducible refine Vg.Grows.drew ?_) | (with_reducible refine Vg.Grows.setCell ?_ ?_ _) | (with_reducible refine Vg.Grows.put ?_ ?_ _) | omega | (simp; omega) | (simp; done))))) H_hN.out H_hFl.out H_hFl.out).mono ?_; rintro e w7 ⟨rfl, x7, n7, rfl⟩; rw [decide_eq_true (rfl : F = F)]) | (go_at_call 40; refine (ce_levelx (M := M') xt xp (H_hsy.out.grows (by (repeat' (first | (with_reducible exact Vg.Grows.refl _) | (with_reducible assumption) | (with_reducible refine Vg.Grows.alloc ?_ _) | (with_reducible refine Vg.Grows.plus ?_ _ _) | (with_reducible refine Vg.Grows.drewN ?_ _) | (with_reducible refine Vg.Grows.drew ?_) | (with_reducible refine Vg.Grows.setCell ?_ ?_ _) | (with_reducible refine Vg.Grows.put ?_ ?_ _) | omega | (simp; omega) | (simp; done))))) H_hlv.out).mono ?_; rintro e w8 ⟨rfl, x8, n8, rfl⟩) | (go_at_call 41; refine (rt_levelx (M := M') (n := k + 1) xt xp (H_hry.out.grows (by (repeat' (first | (with_reducible exact Vg.Grows.refl _) | (with_reducible assumption) | (with_reducible refine Vg.Grows.alloc ?_ _) | (with_reducible refine Vg.Grows.plus ?_ _ _) | (with_reducible refine Vg.Grows.drewN ?_ _) | (with_reducible refine Vg.Grows.drew ?_) | (with_reducible refine Vg.Grows.setCell ?_ ?_ _) | (with_reducible refine Vg.Grows.put ?_ ?_ _) | omega | (simp; omega) | (simp; done))))) H_hln2.out H_hlv.out).mono ?_; rintro e w9 ⟨rfl, x9, n9, rfl⟩))
            go_wp2_with fail
            exact ⟨⟨k + 1, M', ra2, rc2, ha2, hn2, hc2', by omega, by go_num, H_hln.out, by (try simp only [Vg.plus_size]); omega, by (repeat' (first | (with_reducible exact Vg.Grows.refl _) | (with_reducible assumption) | (with_reducible refine Vg.Grows.alloc ?_ _) | (with_reducible refine Vg.Grows.plus ?_ _ _) | (with_reducible refine Vg.Grows.drewN ?_ _) | (with_reducible refine Vg.Grows.drew ?_) | (with_reducible refine Vg.Grows.setCell ?_ ?_ _) | (with_reducible refine Vg.Grows.put ?_ ?_ _) | omega | (simp; omega) | (simp; done))), H_hsy.out.grows (by (repeat' (first | (with_reducible exact Vg.Grows.refl _) | (with_reducible assumption) | (with_reducible refine Vg.Grows.alloc ?_ _) | (with_reducible refine Vg.Grows.plus ?_ _ _) | (with_reducible refine Vg.Grows.drewN ?_ _) | (with_reducible refine Vg.Grows.drew ?_) | (with_reducible refine Vg.Grows.setCell ?_ ?_ _) | (with_reducible refine Vg.Grows.put ?_ ?_ _) | omega | (simp; omega) | (simp; done)))), Vg.Grows.blk (by (repeat' (first | (with_reducible exact Vg.Grows.refl _) | (with_reducible assumption) | (with_reducible refine Vg.Grows.alloc ?_ _) | (with_reducible refine Vg.Grows.plus ?_ _ _) | (with_reducible refine Vg.Grows.drewN ?_ _) | (with_reducible refine Vg.Grows.drew ?_) | (with_reducible refine Vg.Grows.setCell ?_ ?_ _) | (with_reducible refine Vg.Grows.put ?_ ?_ _) | omega | (simp; omega) | (simp; done)))) H_y3.out, H_hry.out.grows (by (repeat' (first | (with_reducible exact Vg.Grows.refl _) | (with_reducible assumption) | (with_reducible refine Vg.Grows.alloc ?_ _) | (with_reducible refine Vg.Grows.plus ?_ _ _) | (with_reducible refine Vg.Grows.drewN ?_ _) | (with_reducible refine Vg.Grows.drew ?_) | (with_reducible refine Vg.Grows.setCell ?_ ?_ _) | (with_reducible refine Vg.Grows.put ?_ ?_ _) | omega | (simp; omega) | (simp; done))))⟩, by simp [intOf]; omega⟩
        · go_wp2
          go_ret
          exact ⟨rfl, hgr⟩
  · have hno : 16 < L.length ∨ L.any Vg.oddC = true := by
      by_cases h : 16 < L.length
      · exact .inl h
      · refine .inr ?_
        cases h2 : L.any Vg.oddC with
        | true => rfl
        | false => exact absurd ⟨by omega, h2⟩ hok
    clear hr
    subst hLl
    have H_hIR := Lib.hid hIR; clear hIR; have H_hno := Lib.hid hno; clear hno; have H_hok := Lib.hid hok; clear hok
    go_enter Try.func5, Try.ntmps5
    go_wp2_with (first | (go_at_call 28; refine (lives12 _).mono ?_; rintro e w1 ⟨rfl, x0, n0, rfl⟩) | (go_at_call 29; refine (ceil_new_no (L := L) (H_hIR.out.grows (by (repeat' (first | (with_reducible exact Vg.Grows.refl _) | (with_reducible assumption) | (with_reducible refine Vg.Grows.alloc ?_ _) | (with_reducible refine Vg.Grows.plus ?_ _ _) | (with_reducible refine Vg.Grows.drewN ?_ _) | (with_reducible refine Vg.Grows.drew ?_) | (with_reducible refine Vg.Grows.setCell ?_ ?_ _) | (with_reducible refine Vg.Grows.put ?_ ?_ _) | omega | (simp; omega) | (simp; done))))) H_hno.out).mono ?_; rintro e w1 ⟨rfl, rfl⟩) | (go_at_call 30; refine (ref12_new_no (L := L) (H_hIR.out.grows (by (repeat' (first | (with_reducible exact Vg.Grows.refl _) | (with_reducible assumption) | (with_reducible refine Vg.Grows.alloc ?_ _) | (with_reducible refine Vg.Grows.plus ?_ _ _) | (with_reducible refine Vg.Grows.drewN ?_ _) | (with_reducible refine Vg.Grows.drew ?_) | (with_reducible refine Vg.Grows.setCell ?_ ?_ _) | (with_reducible refine Vg.Grows.put ?_ ?_ _) | omega | (simp; omega) | (simp; done))))) H_hno.out).mono ?_; rintro e w1 ⟨rfl, x1, n1, rfl⟩))
    go_ret
    exact ⟨rfl, by (repeat' (first | (with_reducible exact Vg.Grows.refl _) | (with_reducible assumption) | (with_reducible refine Vg.Grows.alloc ?_ _) | (with_reducible refine Vg.Grows.plus ?_ _ _) | (with_reducible refine Vg.Grows.drewN ?_ _) | (with_reducible refine Vg.Grows.drew ?_) | (with_reducible refine Vg.Grows.setCell ?_ ?_ _) | (with_reducible refine Vg.Grows.put ?_ ?_ _) | omega | (simp; omega) | (simp; done)))⟩
end Go.Proofs.Ytiinhofmhoplfaa
