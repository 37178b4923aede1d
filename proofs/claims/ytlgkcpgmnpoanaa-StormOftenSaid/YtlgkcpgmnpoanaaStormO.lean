/- The law StormOften of layer 16. (Printed by wip/bin/often.py where its two like branches are concerned.) -/
import Derived.Test.YtlgkcpgmnpoanaaStormL
import Derived.Test.YtlgkcpgmnpoanaaRowB
set_option linter.unusedSimpArgs false
set_option linter.unusedVariables false
set_option maxHeartbeats 1000000
set_option maxRecDepth 20000
namespace Go.Proofs.Ytlgkcpgmnpoanaa
open Go.ChangeShapes Go.WideShapes Go.ChangeAt Go.RowKit

theorem StormOften_walk (m wd : Int) (a : Option Addr) (len cap : Nat) (D : Nat → Nat → Int) (w : World) (hm0 : -9223372036854775808 ≤ m) (hm1 : m ≤ 9223372036854775807) (hw0 : -9223372036854775808 ≤ wd) (hw1 : wd ≤ 9223372036854775807) (hr : Vg.intRows w [.i64, .i64] a len cap D) :
    Calls Try.prog 4 #[.int .i64 m, .int .i64 wd, .slice a len cap] w fun e w' => e = .returned (.bool true) ∧ Vg.Grows w w' := by
  have hlen := hr.1
  have hcap : cap ≤ 9223372036854775807 := hr.2.1
  by_cases hok : 1 ≤ m ∧ m ≤ 64 ∧ 1 ≤ wd ∧ wd ≤ 1099511627776
  · obtain ⟨h1, h2, h3, h4⟩ := hok
    obtain ⟨many, rfl⟩ := Int.eq_ofNat_of_zero_le (show 0 ≤ m by omega)
    by_cases hl : 100 < len
    · go_enter Try.func4, Try.ntmps4
      go_wp2_with (first | (go_at_call 15; refine (lives16 _).mono ?_; rintro e w1 ⟨rfl, x0, n0, rfl⟩) | (go_at_call 16; refine (storm_new_ok many wd (by omega) (by omega) (by omega) (by omega)).mono ?_; rintro e w1 ⟨rfl, rfl⟩))
      go_ret
      exact ⟨rfl, by (repeat' (first | (with_reducible exact Vg.Grows.refl _) | (with_reducible assumption) | (with_reducible refine Vg.Grows.alloc ?_ _) | (with_reducible refine Vg.Grows.plus ?_ _ _) | (with_reducible refine Vg.Grows.drewN ?_ _) | (with_reducible refine Vg.Grows.drew ?_) | (with_reducible refine Vg.Grows.setCell ?_ ?_ _) | (with_reducible refine Vg.Grows.put ?_ ?_ _) | omega | (simp; omega) | (simp; done)))⟩
    · have RH := Lib.hid (fun h => Vg.intRows.open (by decide) hr h)
      clear hr
      obtain ⟨i0, hi, hz0, hz1, hz2⟩ := info_parts Try.info_i64
      go_enter Try.func4, Try.ntmps4
      go_wp2_with (first | (go_at_call 15; refine (lives16 _).mono ?_; rintro e w1 ⟨rfl, x0, n0, rfl⟩) | (go_at_call 16; refine (storm_new_ok many wd (by omega) (by omega) (by omega) (by omega)).mono ?_; rintro e w1 ⟨rfl, rfl⟩))
      obtain ⟨rb, hrb⟩ : ∃ rb, w.heap.size + Vg.sz x0 = rb := ⟨_, rfl⟩
      obtain ⟨b, hb⟩ : ∃ b, w.heap.size + 1 + Vg.sz x0 = b := ⟨_, rfl⟩
      simp only [hb, hrb]
      have hrb0 : w.heap.size ≤ rb := by omega
      have hb0 : w.heap.size ≤ b := by omega
      have n1' : b ≠ rb := by omega
      have n2' : rb ≠ b := by omega
      obtain ⟨W0, hW0⟩ : ∃ W0, ((Vg.plus w x0 n0).alloc (ringC (fun x => 0) many)).alloc (maskC rb many wd 0 0 0 0) = W0 := ⟨_, rfl⟩
      have g1 : Vg.blk W0 b = some (maskC rb many wd 0 0 0 0) := by rw [← hW0, ← hb]; simp [go_sem]
      have g2 : Vg.blk W0 rb = some (ringC (fun x => 0) many) := by rw [← hW0, ← hrb]; simp [go_sem]
      have g4 : Vg.Grows w W0 := by rw [← hW0]; (repeat' (first | (with_reducible exact Vg.Grows.refl _) | (with_reducible assumption) | (with_reducible refine Vg.Grows.alloc ?_ _) | (with_reducible refine Vg.Grows.plus ?_ _ _) | (with_reducible refine Vg.Grows.drewN ?_ _) | (with_reducible refine Vg.Grows.drew ?_) | (with_reducible refine Vg.Grows.setCell ?_ ?_ _) | (with_reducible refine Vg.Grows.put ?_ ?_ _) | omega | (simp; omega) | (simp; done)))
      have g6 : b < W0.heap.size := Vg.lt_of g1
      have g7 : rb < W0.heap.size := Vg.lt_of g2
      rw [hW0]
      have HB1 := Lib.hid hrb
      have HB2 := Lib.hid hb
      have HW := Lib.hid hW0
      have G1 := Lib.hid g1
      have G2 := Lib.hid g2
      clear hrb hb hW0 g1 g2
      obtain ⟨S, hS⟩ : ∃ S, W0.heap.size = S := ⟨_, rfl⟩
      have HS := Lib.hid hS
      rw [hS] at g6 g7
      clear hS
      go_loopw [9, 10, 45] (fun v lst i wr => ∃ (k : Nat) (s : Vg.Mask) (first : Nat) (R : Nat → Int) (T : List Int) (W1 : World) (y : Array Obj) (n : Nat), k ≤ len ∧ i = .int .i64 k ∧ lst = .int .i64 s.last ∧ wr = Vg.plus W1 y n ∧ W1.heap.size = S ∧ s.Inv wd ∧ 0 ≤ s.refused ∧ s.refused ≤ k ∧ Shows R many first s.q ∧ Vg.Grows w W1 ∧
          Vg.blk W1 b = some (maskC rb many wd first s.q.length s.last s.refused) ∧ Vg.blk W1 rb = some (ringC R many) ∧ T.length ≤ k ∧ Vg.ents wd s.q = T.filter (fun u => decide (s.last - wd < u)) ∧ wr.ownsRow S 2 1 v T.length (ints T)) (fun _ _ i _ => len - (intOf i).toNat)
      case atStart =>
        refine ⟨0, ⟨[], 0, 0⟩, 0, _, [], W0, #[], W0.drawn, by omega, rfl, rfl, ?_, HS.out, ⟨by show (0 : Int) ≤ 0; omega, by show (0 : Int) ≤ _; omega, List.Pairwise.nil, by simp⟩, by show (0 : Int) ≤ 0; omega, by show (0 : Int) ≤ _; omega, Shows.empty _ _ (by omega) (by omega), g4, G1.out, G2.out, by simp, rfl, World.ownsRow_nil _ _ _ _⟩
        simp [Vg.plus]
      case round =>
        obtain ⟨k, s, first, R, T, W1, y, n, hk, rfl, rfl, rfl, hS1, hinv, hrf0, hrf1, hsh, hgr, b1, b2, hTl, hTe, hown⟩ := hrel
        obtain ⟨q, last, ref⟩ := s
        have hrf0 : 0 ≤ ref := hrf0
        have hrf1 : ref ≤ k := hrf1
        have hl0 : 0 ≤ last := hinv.1
        have hl1 : last ≤ 4503599627370496 := hinv.2.1
        obtain ⟨sa, sc, rfl⟩ := Vg.owns_shape hown
        have HO := Lib.hid hown
        have HS1 := Lib.hid hS1
        have l1 := Vg.lt_of b1
        have l2 := Vg.lt_of b2
        have B1 := Lib.hid b1
        have B2 := Lib.hid b2
        clear b1 b2 hown hS1
        by_cases hlt : k < len
        · obtain ⟨ba, off, rfl, hba, hc⟩ := RH.out (by omega)
          have hc0 := hc k hlt 0 (by decide)
          have hc1 := hc k hlt 1 (by decide)
          obtain ⟨kd, hkd⟩ : ∃ kd, D k 0 = kd := ⟨_, rfl⟩
          obtain ⟨at_, hat⟩ : ∃ at_, D k 1 = at_ := ⟨_, rfl⟩
          rw [hkd] at hc0
          rw [hat] at hc1
          simp only [List.length_cons, List.length_nil, Nat.zero_add, List.getElem_cons_zero, List.getElem_cons_succ] at hc0 hc1
          obtain ⟨hc0, hw0'⟩ := hc0
          obtain ⟨hc1, hw1'⟩ := hc1
          have hbk := bounds_i64 hw0'
          have hbt := bounds_i64 hw1'
          have hc0 := (hgr.below.cell (p := ⟨ba, off + k * 2, none⟩) hba).trans hc0
          have hc1 := (hgr.below.cell (p := ⟨ba, off + k * 2 + 1, none⟩) hba).trans hc1
          have hbar : ba < W1.heap.size := Nat.lt_of_lt_of_le hba hgr.size
          clear hc hw0' hw1' hkd hat
          obtain ⟨t, ht⟩ : ∃ t, Vg.byy last at_ = t := ⟨_, rfl⟩
          have htb : -1 ≤ t ∧ t ≤ 4503599627370496 := by rw [← ht]; unfold Vg.byy; split <;> omega
          have HT := Lib.hid ht
          clear ht
          by_cases hno : t < last ∨ 4503599627370496 < t
          · have htl : Vg.Mask.tell ⟨q, last, ref⟩ t = (⟨q, last, ref⟩, 1) := by unfold Vg.Mask.tell; rw [if_pos hno]
            have he : Vg.Mask.enter ⟨q, last, ref⟩ many wd t = (⟨q, last, ref⟩, 1) := by unfold Vg.Mask.enter; rw [htl]; rfl
            have HE := Lib.hid he
            have HTE := Lib.hid hTe
            clear he htl hTe
            go_wp2_with (first | (go_at_call 18; refine (by16 last at_ _ ⟨by omega, by omega⟩ (by omega)).mono ?_; rintro e w1 ⟨rfl, rfl⟩; rw [HT.out]) | (go_at_call 20; refine (storm_enter t q (b := b) (rb := rb) (many := many) (window := wd) (last := last) (refused := ref) (first := first) (R := R) (by go_simp; exact B1.out) (by go_simp; exact B2.out) (by omega) hsh ⟨by omega, by omega⟩ ⟨by omega, by omega⟩ (by exact hinv.1)).mono ?_; rintro e w1 ⟨f', R', s', rfl, xs, ns, rfl⟩; rw [HE.out] at s'; rw [HE.out]))
            have d1 : Vg.blk (Vg.put (Vg.put W1 rb (ringC R' many)) b (maskC rb many wd f' q.length last ref)) b = some (maskC rb many wd f' q.length last ref) := by go_simp
            have d2 : Vg.blk (Vg.put (Vg.put W1 rb (ringC R' many)) b (maskC rb many wd f' q.length last ref)) rb = some (ringC R' many) := by go_simp
            have d3 : (Vg.put (Vg.put W1 rb (ringC R' many)) b (maskC rb many wd f' q.length last ref)).heap.size = S := by rw [Vg.put_size, Vg.put_size, HS1.out]
            have d4 : Vg.Grows w (Vg.put (Vg.put W1 rb (ringC R' many)) b (maskC rb many wd f' q.length last ref)) := by (repeat' (first | (with_reducible exact Vg.Grows.refl _) | (with_reducible assumption) | (with_reducible refine Vg.Grows.alloc ?_ _) | (with_reducible refine Vg.Grows.plus ?_ _ _) | (with_reducible refine Vg.Grows.drewN ?_ _) | (with_reducible refine Vg.Grows.drew ?_) | (with_reducible refine Vg.Grows.setCell ?_ ?_ _) | (with_reducible refine Vg.Grows.put ?_ ?_ _) | omega | (simp; omega) | (simp; done)))
            have hown2 : (Vg.plus (Vg.put (Vg.put W1 rb (ringC R' many)) b (maskC rb many wd f' q.length last ref)) y n).ownsRow S 2 1 (.slice sa T.length sc) T.length (ints T) := by
              refine Vg.owns_agree HO.out ?_
              (repeat' (first | (with_reducible exact Vg.Agree.refl _ _) | (with_reducible assumption) | (with_reducible refine Vg.Agree.alloc ?_ _) | (with_reducible refine Vg.Agree.plus ?_ _ _ _) | (with_reducible refine Vg.Agree.put_right ?_ ?_ _) | (with_reducible refine Vg.Agree.put_left ?_ ?_ _) | omega | (simp; omega) | (simp; done)))
            obtain ⟨W1', hW1'⟩ : ∃ W1', Vg.put (Vg.put W1 rb (ringC R' many)) b (maskC rb many wd f' q.length last ref) = W1' := ⟨_, rfl⟩
            rw [hW1'] at d1 d2 d3 d4 hown2
            rw [hW1']
            obtain ⟨wx, hwx⟩ : ∃ wx, Vg.plus ((Vg.plus W1' y n).alloc (.cells #[.int .i64 kd, .int .i64 at_] 34)) xs ns = wx := ⟨_, rfl⟩
            have e1 : Vg.Grows W1' wx := by rw [← hwx]; (repeat' (first | (with_reducible exact Vg.Grows.refl _) | (with_reducible assumption) | (with_reducible refine Vg.Grows.alloc ?_ _) | (with_reducible refine Vg.Grows.plus ?_ _ _) | (with_reducible refine Vg.Grows.drewN ?_ _) | (with_reducible refine Vg.Grows.drew ?_) | (with_reducible refine Vg.Grows.setCell ?_ ?_ _) | (with_reducible refine Vg.Grows.put ?_ ?_ _) | omega | (simp; omega) | (simp; done)))
            have e2 : Vg.Grows (Vg.plus W1' y n) wx := by rw [← hwx]; (repeat' (first | (with_reducible exact Vg.Grows.refl _) | (with_reducible assumption) | (with_reducible refine Vg.Grows.alloc ?_ _) | (with_reducible refine Vg.Grows.plus ?_ _ _) | (with_reducible refine Vg.Grows.drewN ?_ _) | (with_reducible refine Vg.Grows.drew ?_) | (with_reducible refine Vg.Grows.setCell ?_ ?_ _) | (with_reducible refine Vg.Grows.put ?_ ?_ _) | omega | (simp; omega) | (simp; done)))
            rw [hwx]
            obtain ⟨y2, n2, ey⟩ := e1
            refine ⟨⟨k + 1, ⟨q, last, ref⟩, f', R', T, W1', y2, n2, by omega, by go_num, rfl, ey, d3, hinv, hrf0, ?_, s', d4, d1, d2, by omega, HTE.out, Vg.owns_grows hown2 e2⟩, by simp [intOf]; omega⟩
            show ref ≤ ((k + 1 : Nat) : Int); omega
          · have htl : Vg.Mask.tell ⟨q, last, ref⟩ t = (⟨Vg.pop t q, t, ref⟩, 0) := by unfold Vg.Mask.tell; rw [if_neg hno]
            have hpl := Vg.pop_length t q
            have hq : q.length ≤ many := hsh.2.2.2.1
            have hTn : Vg.ents wd (Vg.pop t q) = T.filter (fun u => decide (t - wd < u)) := by
              rw [← Vg.ents_filter t wd q hinv.2.2.1, hTe, List.filter_filter]
              apply List.filter_congr
              intro u _
              rw [← Bool.decide_and, decide_eq_decide]
              show t - wd < u ∧ last - wd < u ↔ t - wd < u
              omega
            have hip : Vg.Mask.Inv ⟨Vg.pop t q, t, ref⟩ wd := Vg.pop_inv hinv (by show last ≤ t; omega) (by omega)
            have HTN := Lib.hid hTn
            have HIP := Lib.hid hip
            clear hip hTe
            by_cases hfull : (Vg.pop t q).length = many
            · skip
              have he : Vg.Mask.enter ⟨q, last, ref⟩ many wd t = (⟨Vg.pop t q, t, ref + 1⟩, 15) := by
                unfold Vg.Mask.enter; rw [htl]; simp only [ne_eq, not_true, if_false]; rw [if_pos hfull]
              have HFU := Lib.hid hfull
              clear hfull
              have HE := Lib.hid he
              clear he
              have hsub : IntKind.i64.wrap (t - wd) = t - wd := by rw [IntWalk.i64_in _ (by omega)]
              obtain ⟨f, hf⟩ : ∃ f : Nat → Nat, ∀ j, f j = ((T.take j).filter fun u => decide (t - wd < u)).length := ⟨_, fun _ => rfl⟩
              have hfl : ∀ j, f j ≤ 100 := fun j => by rw [hf]; exact Nat.le_trans (List.length_filter_le _ _) (by rw [List.length_take]; omega)
              have f0 : f 0 = 0 := by rw [hf]; rfl
              have fe : f T.length = (Vg.pop t q).length := by rw [hf, List.take_length, ← hTn, Vg.ents_length]
              have fs : ∀ j (hj : j < T.length), f (j + 1) = f j + if t - wd < T[j] then 1 else 0 := fun j hj => by
                rw [hf, hf, List.take_succ_eq_append_getElem hj, List.filter_append, List.length_append]
                congr 1
                by_cases h : t - wd < T[j] <;> simp [h]
              have F0 := Lib.hid f0
              have FE := Lib.hid fe
              have Qfs := Lib.hid fs
              have FL := Lib.hid hfl
              clear f0 fe fs hfl hf
              go_wp2_with (first | (go_at_call 18; refine (by16 last at_ _ ⟨by omega, by omega⟩ (by omega)).mono ?_; rintro e w1 ⟨rfl, rfl⟩; rw [HT.out]) | (go_at_call 20; refine (storm_enter t q (b := b) (rb := rb) (many := many) (window := wd) (last := last) (refused := ref) (first := first) (R := R) (by go_simp; exact B1.out) (by go_simp; exact B2.out) (by omega) hsh ⟨by omega, by omega⟩ ⟨by omega, by omega⟩ (by exact hinv.1)).mono ?_; rintro e w1 ⟨f', R', s', rfl, xs, ns, rfl⟩; rw [HE.out] at s'; rw [HE.out]))
              have d1 : Vg.blk (Vg.put (Vg.put W1 rb (ringC R' many)) b (maskC rb many wd f' (Vg.pop t q).length t (ref + 1))) b = some (maskC rb many wd f' (Vg.pop t q).length t (ref + 1)) := by go_simp
              have d2 : Vg.blk (Vg.put (Vg.put W1 rb (ringC R' many)) b (maskC rb many wd f' (Vg.pop t q).length t (ref + 1))) rb = some (ringC R' many) := by go_simp
              have d3 : (Vg.put (Vg.put W1 rb (ringC R' many)) b (maskC rb many wd f' (Vg.pop t q).length t (ref + 1))).heap.size = S := by rw [Vg.put_size, Vg.put_size, HS1.out]
              have d4 : Vg.Grows w (Vg.put (Vg.put W1 rb (ringC R' many)) b (maskC rb many wd f' (Vg.pop t q).length t (ref + 1))) := by (repeat' (first | (with_reducible exact Vg.Grows.refl _) | (with_reducible assumption) | (with_reducible refine Vg.Grows.alloc ?_ _) | (with_reducible refine Vg.Grows.plus ?_ _ _) | (with_reducible refine Vg.Grows.drewN ?_ _) | (with_reducible refine Vg.Grows.drew ?_) | (with_reducible refine Vg.Grows.setCell ?_ ?_ _) | (with_reducible refine Vg.Grows.put ?_ ?_ _) | omega | (simp; omega) | (simp; done)))
              have hown2 : (Vg.plus (Vg.put (Vg.put W1 rb (ringC R' many)) b (maskC rb many wd f' (Vg.pop t q).length t (ref + 1))) y n).ownsRow S 2 1 (.slice sa T.length sc) T.length (ints T) := by
                refine Vg.owns_agree HO.out ?_
                (repeat' (first | (with_reducible exact Vg.Agree.refl _ _) | (with_reducible assumption) | (with_reducible refine Vg.Agree.alloc ?_ _) | (with_reducible refine Vg.Agree.plus ?_ _ _ _) | (with_reducible refine Vg.Agree.put_right ?_ ?_ _) | (with_reducible refine Vg.Agree.put_left ?_ ?_ _) | omega | (simp; omega) | (simp; done)))
              obtain ⟨W1', hW1'⟩ : ∃ W1', Vg.put (Vg.put W1 rb (ringC R' many)) b (maskC rb many wd f' (Vg.pop t q).length t (ref + 1)) = W1' := ⟨_, rfl⟩
              rw [hW1'] at d1 d2 d3 d4 hown2
              rw [hW1']
              have D1 := Lib.hid d1
              have D2 := Lib.hid d2
              have D3 := Lib.hid d3
              have HO2 := Lib.hid hown2
              have HR2 := Lib.hid (Vg.Reads.of_owns hown2)
              clear d1 d2 d3 hown2 hW1'
              obtain ⟨wx, hwx⟩ : ∃ wx, Vg.plus ((Vg.plus W1' y n).alloc (.cells #[.int .i64 kd, .int .i64 at_] 34)) xs ns = wx := ⟨_, rfl⟩
              have e1 : Vg.Grows W1' wx := by rw [← hwx]; (repeat' (first | (with_reducible exact Vg.Grows.refl _) | (with_reducible assumption) | (with_reducible refine Vg.Grows.alloc ?_ _) | (with_reducible refine Vg.Grows.plus ?_ _ _) | (with_reducible refine Vg.Grows.drewN ?_ _) | (with_reducible refine Vg.Grows.drew ?_) | (with_reducible refine Vg.Grows.setCell ?_ ?_ _) | (with_reducible refine Vg.Grows.put ?_ ?_ _) | omega | (simp; omega) | (simp; done)))
              have e2 : Vg.Grows (Vg.plus W1' y n) wx := by rw [← hwx]; (repeat' (first | (with_reducible exact Vg.Grows.refl _) | (with_reducible assumption) | (with_reducible refine Vg.Grows.alloc ?_ _) | (with_reducible refine Vg.Grows.plus ?_ _ _) | (with_reducible refine Vg.Grows.drewN ?_ _) | (with_reducible refine Vg.Grows.drew ?_) | (with_reducible refine Vg.Grows.setCell ?_ ?_ _) | (with_reducible refine Vg.Grows.put ?_ ?_ _) | omega | (simp; omega) | (simp; done)))
              have HR3 := Lib.hid (HR2.out.grows e2)
              rw [hwx]
              clear hwx
              go_loopw [15, 61] (fun c j wr => ∃ k' : Nat, k' ≤ T.length ∧ j = .int .i64 k' ∧ c = .int .i64 (f k') ∧ wr = wx) (fun _ j _ => T.length - (intOf j).toNat)
              case atStart =>
                exact ⟨0, by omega, rfl, by rw [F0.out]; rfl, rfl⟩
              case round =>
                obtain ⟨k', hk', rfl, rfl, rfl⟩ := hrel
                have hfk := FL.out k'
                by_cases hlt' : k' < T.length
                · obtain ⟨g, off2, rfl, hg, hcc, hcm, hx⟩ := HR3.out.open (by simpa using Nat.lt_of_le_of_lt (Nat.zero_le _) hlt')
                  have hcm' : sc ≤ 9223372036854775807 := hcm
                  have hc := hx k' (by simpa using hlt')
                  simp only [List.getElem_map] at hc
                  obtain ⟨u, hu⟩ : ∃ u, T[k'] = u := ⟨_, rfl⟩
                  have hfs := Qfs.out k' hlt'
                  rw [hu] at hc hfs
                  have HFS := Lib.hid hfs
                  clear hx hfs hu
                  by_cases hin : t - wd < u
                  · go_wp2
                    refine ⟨⟨k' + 1, by omega, by go_num, ?_, by trivial⟩, by simp [intOf]; omega⟩
                    rw [HFS.out, if_pos hin]; rfl
                  · go_wp2
                    refine ⟨⟨k' + 1, by omega, by go_num, ?_, by trivial⟩, by simp [intOf]; omega⟩
                    rw [HFS.out, if_neg hin, Nat.add_zero]
                · obtain rfl : k' = T.length := by omega
                  have hN : (f T.length : Int) = many := by rw [FE.out, HFU.out]
                  have HNN := Lib.hid hN
                  clear hN
                  rw [HNN.out]
                  go_wp2_with fail
                  obtain ⟨y2, n2, ey⟩ := e1
                  refine ⟨⟨k + 1, ⟨Vg.pop t q, t, ref + 1⟩, f', R', T, W1', y2, n2, by omega, by go_num, rfl, ey, D3.out, by have h5 := HIP.out; exact h5, ?_, ?_, s', d4, D1.out, D2.out, by omega, HTN.out, ?_⟩, by simp [intOf]; omega⟩
                  · show (0 : Int) ≤ ref + 1; omega
                  · show ref + 1 ≤ ((k + 1 : Nat) : Int); omega
                  · exact Vg.owns_grows HO2.out e2
            · skip
              have he : Vg.Mask.enter ⟨q, last, ref⟩ many wd t = (⟨Vg.pop t q ++ [t + wd], t, ref⟩, 0) := by
                unfold Vg.Mask.enter; rw [htl]; simp only [ne_eq, not_true, if_false]; rw [if_neg hfull]
              have HE := Lib.hid he
              clear he
              have hsub : IntKind.i64.wrap (t - wd) = t - wd := by rw [IntWalk.i64_in _ (by omega)]
              obtain ⟨f, hf⟩ : ∃ f : Nat → Nat, ∀ j, f j = ((T.take j).filter fun u => decide (t - wd < u)).length := ⟨_, fun _ => rfl⟩
              have hfl : ∀ j, f j ≤ 100 := fun j => by rw [hf]; exact Nat.le_trans (List.length_filter_le _ _) (by rw [List.length_take]; omega)
              have f0 : f 0 = 0 := by rw [hf]; rfl
              have fe : f T.length = (Vg.pop t q).length := by rw [hf, List.take_length, ← hTn, Vg.ents_length]
              have fs : ∀ j (hj : j < T.length), f (j + 1) = f j + if t - wd < T[j] then 1 else 0 := fun j hj => by
                rw [hf, hf, List.take_succ_eq_append_getElem hj, List.filter_append, List.length_append]
                congr 1
                by_cases h : t - wd < T[j] <;> simp [h]
              have F0 := Lib.hid f0
              have FE := Lib.hid fe
              have Qfs := Lib.hid fs
              have FL := Lib.hid hfl
              clear f0 fe fs hfl hf
              go_wp2_with (first | (go_at_call 18; refine (by16 last at_ _ ⟨by omega, by omega⟩ (by omega)).mono ?_; rintro e w1 ⟨rfl, rfl⟩; rw [HT.out]) | (go_at_call 20; refine (storm_enter t q (b := b) (rb := rb) (many := many) (window := wd) (last := last) (refused := ref) (first := first) (R := R) (by go_simp; exact B1.out) (by go_simp; exact B2.out) (by omega) hsh ⟨by omega, by omega⟩ ⟨by omega, by omega⟩ (by exact hinv.1)).mono ?_; rintro e w1 ⟨f', R', s', rfl, xs, ns, rfl⟩; rw [HE.out] at s'; rw [HE.out]))
              have d1 : Vg.blk (Vg.put (Vg.put W1 rb (ringC R' many)) b (maskC rb many wd f' (Vg.pop t q ++ [t + wd]).length t ref)) b = some (maskC rb many wd f' (Vg.pop t q ++ [t + wd]).length t ref) := by go_simp
              have d2 : Vg.blk (Vg.put (Vg.put W1 rb (ringC R' many)) b (maskC rb many wd f' (Vg.pop t q ++ [t + wd]).length t ref)) rb = some (ringC R' many) := by go_simp
              have d3 : (Vg.put (Vg.put W1 rb (ringC R' many)) b (maskC rb many wd f' (Vg.pop t q ++ [t + wd]).length t ref)).heap.size = S := by rw [Vg.put_size, Vg.put_size, HS1.out]
              have d4 : Vg.Grows w (Vg.put (Vg.put W1 rb (ringC R' many)) b (maskC rb many wd f' (Vg.pop t q ++ [t + wd]).length t ref)) := by (repeat' (first | (with_reducible exact Vg.Grows.refl _) | (with_reducible assumption) | (with_reducible refine Vg.Grows.alloc ?_ _) | (with_reducible refine Vg.Grows.plus ?_ _ _) | (with_reducible refine Vg.Grows.drewN ?_ _) | (with_reducible refine Vg.Grows.drew ?_) | (with_reducible refine Vg.Grows.setCell ?_ ?_ _) | (with_reducible refine Vg.Grows.put ?_ ?_ _) | omega | (simp; omega) | (simp; done)))
              have hown2 : (Vg.plus (Vg.put (Vg.put W1 rb (ringC R' many)) b (maskC rb many wd f' (Vg.pop t q ++ [t + wd]).length t ref)) y n).ownsRow S 2 1 (.slice sa T.length sc) T.length (ints T) := by
                refine Vg.owns_agree HO.out ?_
                (repeat' (first | (with_reducible exact Vg.Agree.refl _ _) | (with_reducible assumption) | (with_reducible refine Vg.Agree.alloc ?_ _) | (with_reducible refine Vg.Agree.plus ?_ _ _ _) | (with_reducible refine Vg.Agree.put_right ?_ ?_ _) | (with_reducible refine Vg.Agree.put_left ?_ ?_ _) | omega | (simp; omega) | (simp; done)))
              obtain ⟨W1', hW1'⟩ : ∃ W1', Vg.put (Vg.put W1 rb (ringC R' many)) b (maskC rb many wd f' (Vg.pop t q ++ [t + wd]).length t ref) = W1' := ⟨_, rfl⟩
              rw [hW1'] at d1 d2 d3 d4 hown2
              have hl5 : (Vg.pop t q ++ [t + wd]).length = (Vg.pop t q).length + 1 := by simp
              rw [hl5] at hW1'
              rw [hW1']
              have D1 := Lib.hid d1
              have D2 := Lib.hid d2
              have D3 := Lib.hid d3
              have HO2 := Lib.hid hown2
              have HR2 := Lib.hid (Vg.Reads.of_owns hown2)
              clear d1 d2 d3 hown2 hW1'
              obtain ⟨wx, hwx⟩ : ∃ wx, Vg.plus ((Vg.plus W1' y n).alloc (.cells #[.int .i64 kd, .int .i64 at_] 34)) xs ns = wx := ⟨_, rfl⟩
              have e1 : Vg.Grows W1' wx := by rw [← hwx]; (repeat' (first | (with_reducible exact Vg.Grows.refl _) | (with_reducible assumption) | (with_reducible refine Vg.Grows.alloc ?_ _) | (with_reducible refine Vg.Grows.plus ?_ _ _) | (with_reducible refine Vg.Grows.drewN ?_ _) | (with_reducible refine Vg.Grows.drew ?_) | (with_reducible refine Vg.Grows.setCell ?_ ?_ _) | (with_reducible refine Vg.Grows.put ?_ ?_ _) | omega | (simp; omega) | (simp; done)))
              have e2 : Vg.Grows (Vg.plus W1' y n) wx := by rw [← hwx]; (repeat' (first | (with_reducible exact Vg.Grows.refl _) | (with_reducible assumption) | (with_reducible refine Vg.Grows.alloc ?_ _) | (with_reducible refine Vg.Grows.plus ?_ _ _) | (with_reducible refine Vg.Grows.drewN ?_ _) | (with_reducible refine Vg.Grows.drew ?_) | (with_reducible refine Vg.Grows.setCell ?_ ?_ _) | (with_reducible refine Vg.Grows.put ?_ ?_ _) | omega | (simp; omega) | (simp; done)))
              have HR3 := Lib.hid (HR2.out.grows e2)
              rw [hwx]
              clear hwx
              go_loopw [15, 61] (fun c j wr => ∃ k' : Nat, k' ≤ T.length ∧ j = .int .i64 k' ∧ c = .int .i64 (f k') ∧ wr = wx) (fun _ j _ => T.length - (intOf j).toNat)
              case atStart =>
                exact ⟨0, by omega, rfl, by rw [F0.out]; rfl, rfl⟩
              case round =>
                obtain ⟨k', hk', rfl, rfl, rfl⟩ := hrel
                have hfk := FL.out k'
                by_cases hlt' : k' < T.length
                · obtain ⟨g, off2, rfl, hg, hcc, hcm, hx⟩ := HR3.out.open (by simpa using Nat.lt_of_le_of_lt (Nat.zero_le _) hlt')
                  have hcm' : sc ≤ 9223372036854775807 := hcm
                  have hc := hx k' (by simpa using hlt')
                  simp only [List.getElem_map] at hc
                  obtain ⟨u, hu⟩ : ∃ u, T[k'] = u := ⟨_, rfl⟩
                  have hfs := Qfs.out k' hlt'
                  rw [hu] at hc hfs
                  have HFS := Lib.hid hfs
                  clear hx hfs hu
                  by_cases hin : t - wd < u
                  · go_wp2
                    refine ⟨⟨k' + 1, by omega, by go_num, ?_, by trivial⟩, by simp [intOf]; omega⟩
                    rw [HFS.out, if_pos hin]; rfl
                  · go_wp2
                    refine ⟨⟨k' + 1, by omega, by go_num, ?_, by trivial⟩, by simp [intOf]; omega⟩
                    rw [HFS.out, if_neg hin, Nat.add_zero]
                · obtain rfl : k' = T.length := by omega
                  have hN : (f T.length : Int) < many := by rw [FE.out]; omega
                  go_wp2_with (at_builtin; refine Vg.wpList_app (W0 := W1') (Vg.Grows.alloc e1 _) rfl (.tmp 89) (.tmp 91) 28 rfl S (by rw [D3.out]; exact Nat.le_refl _) (by have := e1.size; rw [D3.out] at this; go_simp <;> omega) 2 i0 (.int .i64 0) 1 8 Try.underlying28 hi hz0 hz1 hz2 rfl (by decide) _ T.length (ints T) rfl ((Vg.owns_grows HO2.out e2).alloc _) _ 1 1 [.int .i64 t] rfl rfl (Vg.one_new (by (try simp only [World.size_alloc, Vg.plus_size, Vg.put_size, World.size_setCell, World.size_drew]) <;> omega)) (by simp [Value.oneCell']) (by unfold maxLen; omega) (by omega) ?_; intro v2 y2 m2 hown3 hsz3; have HO3 := Lib.hid hown3; clear hown3)
                  refine ⟨⟨k + 1, ⟨Vg.pop t q ++ [t + wd], t, ref⟩, f', R', T ++ [t], W1', y2, m2, by omega, by go_num, rfl, rfl, D3.out, by have h5 := HIP.out; exact Vg.push_inv h5, hrf0, ?_, s', d4, D1.out, D2.out, ?_, ?_, ?_⟩, by simp [intOf]; omega⟩
                  · show ref ≤ ((k + 1 : Nat) : Int); omega
                  · rw [List.length_append]; simp; omega
                  · show Vg.ents wd (Vg.pop t q ++ [t + wd]) = _
                    rw [Vg.ents_snoc, List.filter_append, HTN.out]
                    congr 1
                    show _ = List.filter (fun u => decide (t - wd < u)) [t]
                    rw [List.filter_cons_of_pos (by simp; omega)]; rfl
                  · have h1 := HO3.out
                    rw [List.length_append, ints, List.map_append]
                    exact h1
        · go_wp2
          go_ret
          exact ⟨rfl, by (repeat' (first | (with_reducible exact Vg.Grows.refl _) | (with_reducible assumption) | (with_reducible refine Vg.Grows.alloc ?_ _) | (with_reducible refine Vg.Grows.plus ?_ _ _) | (with_reducible refine Vg.Grows.drewN ?_ _) | (with_reducible refine Vg.Grows.drew ?_) | (with_reducible refine Vg.Grows.setCell ?_ ?_ _) | (with_reducible refine Vg.Grows.put ?_ ?_ _) | omega | (simp; omega) | (simp; done)))⟩
  · go_enter Try.func4, Try.ntmps4
    go_wp2_with (first | (go_at_call 15; refine (lives16 _).mono ?_; rintro e w1 ⟨rfl, x0, n0, rfl⟩) | (go_at_call 16; refine (storm_new_no m wd (by omega)).mono ?_; rintro e w1 ⟨rfl, rfl⟩))
    go_ret
    exact ⟨rfl, by (repeat' (first | (with_reducible exact Vg.Grows.refl _) | (with_reducible assumption) | (with_reducible refine Vg.Grows.alloc ?_ _) | (with_reducible refine Vg.Grows.plus ?_ _ _) | (with_reducible refine Vg.Grows.drewN ?_ _) | (with_reducible refine Vg.Grows.drew ?_) | (with_reducible refine Vg.Grows.setCell ?_ ?_ _) | (with_reducible refine Vg.Grows.put ?_ ?_ _) | omega | (simp; omega) | (simp; done)))⟩
end Go.Proofs.Ytlgkcpgmnpoanaa
