/- Package irq: find, tell, Left, Served, Lost, mask. -/
import Derived.Test.YtekjnagojphmkaaDoorIrq
set_option linter.unusedSimpArgs false
set_option linter.unusedVariables false
set_option maxHeartbeats 8000000
set_option maxRecDepth 100000
namespace Go.Proofs.YtekjnagojphmkaaDoor
open Go.ChangeShapes Go.WideShapes Go.ChangeAt Go.RowKit
section
variable {w w' : World} {b lo n mk pc sc l c g o : Nat} {xs : List Vg.Lq} {s s' : Vg.Iq} {lv sv : Value} {pa sa a : Option Addr} {ow : Nat → Nat} {OB : Nat → Prop} {x : Int}
theorem IQ.pe0 (h : IQ w b lo n xs s mk lv sv pa pc sa sc ow) (hl : s.ls = []) : s.c.pe = 0 := by
  rcases h.ok.len with h3 | ⟨_, _, h5⟩
  · rw [hl] at h3
    have := h.is.ok.n1
    simp at h3
    omega
  · exact h5
theorem irq_find_no (m : Int) (c7 : w.cell? ⟨b, 7, none⟩ = some (.slice a l c)) (hm : m < 0 ∨ (l : Int) ≤ m) :
    Calls Tryd.prog 28 #[.pointer (some ⟨b, 0, none⟩), .int .i64 m] w fun e w' => e = .returned (.pointer none) ∧ w = w' := by
  by_cases h0 : m < 0
  · clear hm
    go_enter Tryd.func28, Tryd.ntmps28
    go_wp2
    go_ret
    exact ⟨rfl, rfl⟩
  · have h1 : (l : Int) ≤ m := by omega
    clear hm
    go_enter Tryd.func28, Tryd.ntmps28
    go_wp2
    go_ret
    exact ⟨rfl, rfl⟩
theorem irq_find (i : Nat) (c7 : w.cell? ⟨b, 7, none⟩ = some (.slice (some ⟨g, o, none⟩) l c)) (hi : i < l) (hc : l ≤ c) (hcm : c ≤ 9223372036854775807) :
    Calls Tryd.prog 28 #[.pointer (some ⟨b, 0, none⟩), .int .i64 i] w fun e w' => e = .returned (.pointer (some ⟨g, o + i * 5, none⟩)) ∧ w = w' := by
  have h0 : (0 : Int) ≤ i := by omega
  have h1 : (i : Int) < l := by omega
  go_enter Tryd.func28, Tryd.ntmps28
  go_wp2
  go_ret
  exact ⟨rfl, rfl⟩
theorem irq_tell_no (now : Int) (c10 : w.cell? ⟨b, 10, none⟩ = some (.int .i64 x)) (hm : now < x ∨ 4503599627370496 < now) :
    Calls Tryd.prog 30 #[.pointer (some ⟨b, 0, none⟩), .int .i64 now] w fun e w' => e = .returned (.int .i64 1) ∧ w = w' := by
  by_cases h0 : now < x
  · clear hm
    go_enter Tryd.func30, Tryd.ntmps30
    go_wp2
    go_ret
    exact ⟨rfl, rfl⟩
  · have h1 : 4503599627370496 < now := by omega
    clear hm
    go_enter Tryd.func30, Tryd.ntmps30
    go_wp2
    go_ret
    exact ⟨rfl, rfl⟩
theorem irq_tell (now : Int) (h : IQ w b lo n xs s mk lv sv pa pc sa sc ow) (h1 : s.last ≤ now) (h2 : now ≤ 4503599627370496) :
    Calls Tryd.prog 30 #[.pointer (some ⟨b, 0, none⟩), .int .i64 now] w fun e w' => e = .returned (.int .i64 0) ∧ IQ w' b lo n xs { s with last := now } mk lv sv pa pc sa sc ow ∧ Vg.Touch (fun k => k = b) w w' := by
  have hb := h.tab
  obtain ⟨la, hla⟩ : ∃ la, s.last = la := ⟨_, rfl⟩
  obtain ⟨ed, hed⟩ : ∃ ed, 2 ^ n - 1 = ed := ⟨_, rfl⟩
  rw [hla] at h1 hb
  rw [hed] at hb
  have H_h := Lib.hid h; clear h; have H_hla := Lib.hid hla; clear hla; have H_hed := Lib.hid hed; clear hed
  have c_hb := Vg.cells_of hb; have f_hb := Vg.frozen_of hb; have p_hb := Vg.setCell_of hb; have l_hb := Vg.lt_of hb; have H_hb := Lib.hid hb; clear hb
  go_enter Tryd.func30, Tryd.ntmps30
  go_wp2
  go_ret
  have ht : Vg.Touch (fun k => k = b) w (Vg.put w b (irqC s.c.pe s.c.en ed pa n pc sa s.S.length sc lv sv mk now)) := Vg.Touch.put (Vg.Touch.refl (fun k => k = b) w) rfl _
  have hbb := Vg.blk_put_same (o := irqC s.c.pe s.c.en ed pa n pc sa s.S.length sc lv sv mk now) l_hb
  refine ⟨rfl, ?_, ht⟩
  have H := H_h.out
  have hq : ∀ {sz : Nat} {e : TypeId} {v : Value} {m : Nat} {us : List Value} {l : Nat}, Vg.Que w lo e sz v m us → (∀ k, v.ownBlock = some k → ow k = l) → l ≠ 1 → Vg.Que (Vg.put w b (irqC s.c.pe s.c.en ed pa n pc sa s.S.length sc lv sv mk now)) lo e sz v m us := fun hh ho hl => hh.kept fun k hk => ht.block k (hh.lt k hk).2 fun hh2 => by have h9 := ho k hk; rw [hh2, H.ob] at h9; exact hl h9.symm
  exact ⟨H.ls, ⟨H.ok.st, H.ok.len, H.ok.each⟩, by rw [H_hed.out]; exact hbb, H.is.touch ht (fun k hk hh => by have h9 := H.op k hk; rw [hh, H.ob] at h9; omega) (fun k hk hh => by have h9 := H.oq k hk; rw [hh, H.ob] at h9; omega), hq H.lrow H.ol (by omega), hq H.srow H.os (by omega), fun i hi => (H.mks i hi).touch ht (fun hh => by have h9 := (H.om i hi).1; rw [hh, H.ob] at h9; omega) (fun hh => by have h9 := (H.om i hi).2; rw [hh, H.ob] at h9; omega), H.hmk, H.ob, H.ol, H.os, H.op, H.oq, H.om, fun k hk => ⟨(H.hw k hk).1, Nat.lt_of_lt_of_le (H.hw k hk).2 ht.size⟩⟩
theorem irq_left (h : IQ w b lo n xs s mk lv sv pa pc sa sc ow) {lf : Int} (hx : (match s.S.getLast? with | none => 0 | some y => y.left) = lf) :
    Calls Tryd.prog 10 #[.pointer (some ⟨b, 0, none⟩)] w fun e w' => e = .returned (.int .i64 lf) ∧ w = w' := by
  obtain ⟨a, cc, hsv⟩ := h.srow.shape
  have c8 := Vg.cells_of h.tab 8
  simp at c8
  rcases List.eq_nil_or_concat s.S with h0 | ⟨L, y, h0⟩
  · rw [h0] at hx
    subst hx
    rw [hsv, h0] at c8
    simp only [List.length_nil] at c8
    clear h hsv h0
    go_enter Tryd.func10, Tryd.ntmps10
    go_wp2
    go_ret
    exact ⟨rfl, rfl⟩
  · rw [List.concat_eq_append] at h0
    rw [h0, List.getLast?_append] at hx
    simp only [List.getLast?_singleton, Option.some_or] at hx
    obtain ⟨k, hk⟩ : ∃ k, L.length = k := ⟨_, rfl⟩
    have hlen : s.S.length = k + 1 := by rw [h0]; simp [hk]
    have hr := h.srow
    rw [hlen] at hr
    obtain ⟨g, o, c, hsv', hg1, hg2, hc1, hc2, d0, d1, d2⟩ := hr.begun hlen k (by omega)
    have e1 : s.S[k]'(by omega) = y := by simp [h0, ← hk]
    rw [e1, hx] at d1
    rw [hsv'] at c8
    clear h hsv h0 hr d0 d2 e1 hlen
    have hkk : (k : Int) + 1 - 1 = k := by omega
    go_enter Tryd.func10, Tryd.ntmps10
    go_wp2
    go_ret
    exact ⟨rfl, rfl⟩
theorem irq_served (i : Nat) (h : IQ w b lo n xs s mk lv sv pa pc sa sc ow) {y : Vg.Ln} (hi : s.ls[i]? = some y) :
    Calls Tryd.prog 13 #[.pointer (some ⟨b, 0, none⟩), .int .i64 i] w fun e w' => e = .returned (.int .i64 y.srv) ∧ w = w' := by
  have hlen : xs.length = s.ls.length := by rw [← h.ls]; simp
  obtain ⟨hil, hil2⟩ := List.getElem?_eq_some_iff.1 hi
  have hix : i < xs.length := by omega
  have hp : xs[i].p = y := by rw [← hil2]; simp [← h.ls]
  obtain ⟨g, o, c, hlv, hg1, hg2, hc1, hc2, d0, d1, d2, d3, d4⟩ := h.lrow.line rfl i hix
  have c7 := Vg.cells_of h.tab 7
  simp at c7
  rw [hlv] at c7
  rw [hp] at d4
  obtain ⟨m, hm⟩ : ∃ m, xs.length = m := ⟨_, rfl⟩
  rw [hm] at c7 hix hc1
  clear h hi hil2 hil hlen d0 d1 d2 d3 hlv hp hm
  have H_c7 := Lib.hid c7; clear c7
  go_enter Tryd.func13, Tryd.ntmps13
  go_wp2_with ((go_at_call 28; (with_reducible refine (irq_find i H_c7.out hix hc1 hc2).mono ?_); rintro e w1 ⟨rfl, rfl⟩))
  go_ret
  exact ⟨rfl, rfl⟩
theorem irq_lost (i : Nat) (h : IQ w b lo n xs s mk lv sv pa pc sa sc ow) {y : Vg.Ln} (hi : s.ls[i]? = some y) :
    Calls Tryd.prog 14 #[.pointer (some ⟨b, 0, none⟩), .int .i64 i] w fun e w' => e = .returned (.int .i64 y.lost) ∧ w = w' := by
  have hlen : xs.length = s.ls.length := by rw [← h.ls]; simp
  obtain ⟨hil, hil2⟩ := List.getElem?_eq_some_iff.1 hi
  have hix : i < xs.length := by omega
  have hp : xs[i].p = y := by rw [← hil2]; simp [← h.ls]
  obtain ⟨g, o, c, hlv, hg1, hg2, hc1, hc2, d0, d1, d2, d3, d4⟩ := h.lrow.line rfl i hix
  have c7 := Vg.cells_of h.tab 7
  simp at c7
  rw [hlv] at c7
  rw [hp] at d3
  obtain ⟨m, hm⟩ : ∃ m, xs.length = m := ⟨_, rfl⟩
  rw [hm] at c7 hix hc1
  clear h hi hil2 hil hlen d0 d1 d2 d4 hlv hp hm
  have H_c7 := Lib.hid c7; clear c7
  go_enter Tryd.func14, Tryd.ntmps14
  go_wp2_with ((go_at_call 28; (with_reducible refine (irq_find i H_c7.out hix hc1 hc2).mono ?_); rintro e w1 ⟨rfl, rfl⟩))
  go_ret
  exact ⟨rfl, rfl⟩
theorem irq_mask (i : Nat) (on : Bool) (hi : i < xs.length) (h : IQ w b lo n xs s mk lv sv pa pc sa sc ow) :
    Calls Tryd.prog 33 #[.pointer (some ⟨b, 0, none⟩), .int .i64 i, .bool on] w fun e w' => e = .returned (.tuple #[]) ∧ (∃ mk' pa' pc' sa' sc' ow', IQ w' b lo n xs ⟨s.c.enable i (!on), s.ls, s.S, s.last⟩ mk' lv sv pa' pc' sa' sc' ow' ∧ ∀ k, ow' k ≠ 0 → ow k ≠ 0 ∨ w.heap.size ≤ k) ∧ Vg.Touch (fun k => k = b) w w' := by
  obtain ⟨hl1, hl2, hl3⟩ := h.len64
  have hb := h.tab
  obtain ⟨ed, hed⟩ : ∃ ed, 2 ^ n - 1 = ed := ⟨_, rfl⟩
  obtain ⟨pe, hpe⟩ : ∃ pe, s.c.pe = pe := ⟨_, rfl⟩
  obtain ⟨en, hen⟩ : ∃ en, s.c.en = en := ⟨_, rfl⟩
  obtain ⟨m, hm⟩ : ∃ m, s.S.length = m := ⟨_, rfl⟩
  obtain ⟨la, hla⟩ : ∃ la, s.last = la := ⟨_, rfl⟩
  rw [hed, hpe, hen, hm, hla] at hb
  have hmk := h.hmk
  have hmk64 : mk < 18446744073709551616 := Vg.lt64_of hmk (by omega)
  have his := h.is
  rw [hm] at his
  have hnp : ∀ k, (Value.slice pa n pc).ownBlock = some k → k ≠ b := fun k hk hh => by have h9 := h.op k hk; rw [hh, h.ob] at h9; omega
  have hnq : ∀ k, (Value.slice sa m sc).ownBlock = some k → k ≠ b := fun k hk hh => by have h9 := h.oq k (by rw [hm]; exact hk); rw [hh, h.ob] at h9; omega
  have hin : i < n := by omega
  obtain ⟨bt, hbt⟩ : ∃ b, 2 ^ i = b := ⟨_, rfl⟩
  obtain ⟨u, hu⟩ : ∃ u, Vg.clr mk i = u := ⟨_, rfl⟩
  have hu64 : u < 18446744073709551616 := by rw [← hu]; exact Vg.clr_lt hmk64
  have hun : u < 2 ^ xs.length := by rw [← hu]; exact Nat.lt_of_le_of_lt (Vg.clr_le _ _) hmk
  obtain ⟨z, hz⟩ : ∃ z, u ||| bt = z := ⟨_, rfl⟩
  obtain ⟨k1, -, k3, -, k5, k6⟩ := bit_facts u i hu64 (by omega) hbt rfl hz
  have hzn : z < 2 ^ xs.length := by rw [← hz, ← hbt]; exact Nat.or_lt_two_pow hun (Nat.pow_lt_pow_right (by decide) hi)
  have k7 : bits .andNot .u64 (mk : Int) (bt : Int) = (u : Int) := by
    have := u64_andNot_nat mk bt hmk64 k6
    rw [this, ← hu, ← hbt]
    rfl
  have hi64 : (i : Int) ≤ 64 := by omega
  cases on with
  | false =>
    have H_h := Lib.hid h; clear h; have H_hed := Lib.hid hed; clear hed; have H_hpe := Lib.hid hpe; clear hpe; have H_hen := Lib.hid hen; clear hen; have H_hm := Lib.hid hm; clear hm; have H_hla := Lib.hid hla; clear hla; have H_hmk := Lib.hid hmk; clear hmk; have H_his := Lib.hid his; clear his; have H_hnp := Lib.hid hnp; clear hnp; have H_hnq := Lib.hid hnq; clear hnq; have H_hbt := Lib.hid hbt; clear hbt; have H_hu := Lib.hid hu; clear hu; have H_hz := Lib.hid hz; clear hz; have H_hun := Lib.hid hun; clear hun; have H_hzn := Lib.hid hzn; clear hzn; have H_k3 := Lib.hid k3; clear k3; have H_hmk64 := Lib.hid hmk64; clear hmk64; have H_hu64 := Lib.hid hu64; clear hu64; have H_k5 := Lib.hid k5; clear k5; have H_k6 := Lib.hid k6; clear k6
    have c_hb := Vg.cells_of hb; have f_hb := Vg.frozen_of hb; have p_hb := Vg.setCell_of hb; have l_hb := Vg.lt_of hb; have H_hb := Lib.hid hb; clear hb
    go_enter Tryd.func33, Tryd.ntmps33
    go_upto_region 0 with fail
    refine wp_region_held_drew (S := fun w' => b < w'.heap.size) (by kernel_rfl) (by go_split_ands <;> (try dsimp only) <;> go_simp) (fun hHeld => ?_)
    refine wpAnyH_take (i := 0) (oi := _) (v := ?v1) rfl (by kernel_rfl) (by kernel_rfl) (by kernel_rfl) (fun _ _ _ h => h) (Or.inl ⟨by rfl, ?hy1⟩) (by assumption) ?rest1
    case hy1 => (intro w hSw; (try dsimp only at hSw); go_simp; first | done | with_reducible rfl)
    (try simp only [List.getElem_toArray, List.getElem_cons_succ, List.getElem_cons_zero, Act.put, List.setIfInBounds_toArray, List.set_cons_zero, List.set_cons_succ])
    refine wpAnyH_take (i := 1) (oi := _) (v := ?v2) rfl (by kernel_rfl) (by kernel_rfl) (by kernel_rfl) (fun _ _ _ h => h) (Or.inl ⟨by rfl, ?hy2⟩) (by assumption) ?rest2
    case hy2 => (intro w hSw; (try dsimp only at hSw); go_simp; first | done | with_reducible rfl)
    (try simp only [List.getElem_toArray, List.getElem_cons_succ, List.getElem_cons_zero, Act.put, List.setIfInBounds_toArray, List.set_cons_zero, List.set_cons_succ])
    refine wpAnyH_take (i := 2) (oi := _) (v := ?v3) rfl (by kernel_rfl) (by kernel_rfl) (by kernel_rfl) (fun _ _ _ h => h) (Or.inl ⟨by rfl, ?hy3⟩) (by assumption) ?rest3
    case hy3 => (intro w hSw; (try dsimp only at hSw); go_simp; first | done | with_reducible rfl)
    (try simp only [List.getElem_toArray, List.getElem_cons_succ, List.getElem_cons_zero, Act.put, List.setIfInBounds_toArray, List.set_cons_zero, List.set_cons_succ])
    refine wpAnyH_take (i := 4) (oi := _) (v := ?v4) rfl (by kernel_rfl) (by kernel_rfl) (by kernel_rfl) (fun _ _ _ h => h) (Or.inl ⟨by rfl, ?hy4⟩) (by assumption) ?rest4
    case hy4 => (intro w hSw; (try dsimp only at hSw); go_simp; first | done | with_reducible rfl)
    (try simp only [List.getElem_toArray, List.getElem_cons_succ, List.getElem_cons_zero, Act.put, List.setIfInBounds_toArray, List.set_cons_zero, List.set_cons_succ])
    refine wpAnyH_take (i := 5) (oi := _) (v := ?v5) rfl (by kernel_rfl) (by kernel_rfl) (by kernel_rfl) (fun _ _ _ h => h) (Or.inl ⟨by rfl, ?hy5⟩) (by assumption) ?rest5
    case hy5 => (intro w hSw; (try dsimp only at hSw); go_simp; first | done | with_reducible rfl)
    (try simp only [List.getElem_toArray, List.getElem_cons_succ, List.getElem_cons_zero, Act.put, List.setIfInBounds_toArray, List.set_cons_zero, List.set_cons_succ])
    refine wpAnyH_ready (rs := [3]) (by kernel_rfl) (by simp) ?_
    refine AllReadyH.cons (o := _) rfl (fun K hK => ?st6) ?mo6
    case st6 =>
      go_simp
      refine hK.out _ _ (by go_split_ands <;> (try dsimp only) <;> go_simp) (fun hHeld6 => ?_)
      clear hK K
      (try simp only [List.getElem_toArray, List.getElem_cons_succ, List.getElem_cons_zero, Act.put, List.setIfInBounds_toArray, List.set_cons_zero, List.set_cons_succ])
      refine wpAnyH_take (i := 6) (oi := _) (v := ?v7) rfl (by kernel_rfl) (by kernel_rfl) (by kernel_rfl) (fun _ _ _ h => h) (Or.inl ⟨by rfl, ?hy7⟩) (by assumption) ?rest7
      case hy7 => (intro w hSw; (try dsimp only at hSw); go_simp; first | done | with_reducible rfl)
      (try simp only [List.getElem_toArray, List.getElem_cons_succ, List.getElem_cons_zero, Act.put, List.setIfInBounds_toArray, List.set_cons_zero, List.set_cons_succ])
      refine wpAnyH_take (i := 7) (oi := _) (v := ?v8) rfl (by kernel_rfl) (by kernel_rfl) (by kernel_rfl) (fun _ _ _ h => h) (Or.inl ⟨by rfl, ?hy8⟩) (by assumption) ?rest8
      case hy8 => (intro w hSw; (try dsimp only at hSw); go_simp; first | done | with_reducible rfl)
      (try simp only [List.getElem_toArray, List.getElem_cons_succ, List.getElem_cons_zero, Act.put, List.setIfInBounds_toArray, List.set_cons_zero, List.set_cons_succ])
      refine wpAnyH_take (i := 8) (oi := _) (v := ?v9) rfl (by kernel_rfl) (by kernel_rfl) (by kernel_rfl) (fun _ _ _ h => h) (Or.inl ⟨by rfl, ?hy9⟩) (by assumption) ?rest9
      case hy9 => (intro w hSw; (try dsimp only at hSw); go_simp; first | done | with_reducible rfl)
      (try simp only [List.getElem_toArray, List.getElem_cons_succ, List.getElem_cons_zero, Act.put, List.setIfInBounds_toArray, List.set_cons_zero, List.set_cons_succ])
      refine wpAnyH_ready (rs := [9]) (by kernel_rfl) (by simp) ?_
      refine AllReadyH.cons (o := _) rfl (fun K hK => ?st10) ?mo10
      case st10 =>
        go_simp
        refine hK.out _ _ (by go_split_ands <;> (try dsimp only) <;> go_simp) (fun hHeld10 => ?_)
        clear hK K
        (try simp only [List.getElem_toArray, List.getElem_cons_succ, List.getElem_cons_zero, Act.put, List.setIfInBounds_toArray, List.set_cons_zero, List.set_cons_succ])
        refine wpAnyH_done (by kernel_rfl) ?_ _
        go_wp2_with ((go_at_call 70; (with_reducible refine (ic_enable i true hin ((H_his.out.put H_hnp.out H_hnq.out _).grows (by (repeat' (first | (with_reducible exact Vg.Grows.refl _) | (with_reducible assumption) | (with_reducible refine Vg.Grows.alloc ?_ _) | (with_reducible refine Vg.Grows.plus ?_ _ _) | (with_reducible refine Vg.Grows.drewN ?_ _) | (with_reducible refine Vg.Grows.drew ?_) | (with_reducible refine Vg.Grows.setCell ?_ ?_ _) | (with_reducible refine Vg.Grows.put ?_ ?_ _) | omega | (simp; omega) | (simp; done))))) H_hed.out H_hpe.out H_hen.out).mono ?_); rintro e w1 ⟨v, rfl, ⟨pa', pc', sa', m', sc', rfl, hI, f1, f2⟩, hg1⟩; have yb := hg1.blk (b := b) (o := irqC pe en ed pa n pc sa m sc lv sv u la) (by go_simp); have ht1 : Vg.Touch (fun k => k = b) w w1 := (Vg.Touch.put (Vg.Touch.refl (fun k => k = b) w) rfl (irqC pe en ed pa n pc sa m sc lv sv u la)).trans (Vg.Touch.of_grows (Vg.Grows.trans (by (repeat' (first | (with_reducible exact Vg.Grows.refl _) | (with_reducible assumption) | (with_reducible refine Vg.Grows.alloc ?_ _) | (with_reducible refine Vg.Grows.plus ?_ _ _) | (with_reducible refine Vg.Grows.drewN ?_ _) | (with_reducible refine Vg.Grows.drew ?_) | (with_reducible refine Vg.Grows.setCell ?_ ?_ _) | (with_reducible refine Vg.Grows.put ?_ ?_ _) | omega | (simp; omega) | (simp; done)))) hg1)); have hsz := ht1.size; simp only [Vg.put_size, World.size_drew] at f1 f2; clear c_hb f_hb p_hb; have c_yb := Vg.cells_of yb; have f_yb := Vg.frozen_of yb; have p_yb := Vg.setCell_of yb; have l_yb := Vg.lt_of yb; have H_yb := Lib.hid yb; clear yb; have H_hI := Lib.hid hI; clear hI; have H_f1 := Lib.hid f1; clear f1; have H_f2 := Lib.hid f2; clear f2; have H_hg1 := Lib.hid hg1; clear hg1; have H_ht1 := Lib.hid ht1; clear ht1))
        (first | go_end0 | refine bodyPost_ret (results_none rfl _ _ _) rfl ?_)
        have hmm : m' = s.S.length := by rw [← H_hI.out.m]; show s.c.st.length = _; rw [H_h.out.ok.st]; simp
        have ht9 := H_ht1.out.put rfl (irqC (s.c.enable i true).pe (s.c.enable i true).en ed pa' n pc' sa' m' sc' lv sv u la)
        obtain ⟨ow', h9, h10⟩ := H_h.out.tabs (c' := s.c.enable i true) (mk' := u) (last' := la) ht9 H_h.out.ok.st H_h.out.pe0 hmm (by rw [H_hed.out]; exact Vg.blk_put_same l_yb) (H_hI.out.put (fun k hk => by have := H_f1.out k hk; have := l_hb; omega) (fun k hk => by have := H_f2.out k hk; have := l_hb; omega) _) H_hun.out (fun k hk => .inr (by rw [Vg.put_size]; exact H_f1.out k hk)) (fun k hk => .inr (by rw [Vg.put_size]; exact H_f2.out k hk))
        rw [H_hla.out]
        exact ⟨rfl, ⟨_, _, _, _, _, ow', h9, h10⟩, ht9⟩
      exact AllReadyH.nil
    exact AllReadyH.nil
  | true =>
    have H_h := Lib.hid h; clear h; have H_hed := Lib.hid hed; clear hed; have H_hpe := Lib.hid hpe; clear hpe; have H_hen := Lib.hid hen; clear hen; have H_hm := Lib.hid hm; clear hm; have H_hla := Lib.hid hla; clear hla; have H_hmk := Lib.hid hmk; clear hmk; have H_his := Lib.hid his; clear his; have H_hnp := Lib.hid hnp; clear hnp; have H_hnq := Lib.hid hnq; clear hnq; have H_hbt := Lib.hid hbt; clear hbt; have H_hu := Lib.hid hu; clear hu; have H_hz := Lib.hid hz; clear hz; have H_hun := Lib.hid hun; clear hun; have H_hzn := Lib.hid hzn; clear hzn; have H_hmk64 := Lib.hid hmk64; clear hmk64; have H_hu64 := Lib.hid hu64; clear hu64; have H_k5 := Lib.hid k5; clear k5; have H_k6 := Lib.hid k6; clear k6
    have c_hb := Vg.cells_of hb; have f_hb := Vg.frozen_of hb; have p_hb := Vg.setCell_of hb; have l_hb := Vg.lt_of hb; have H_hb := Lib.hid hb; clear hb
    go_enter Tryd.func33, Tryd.ntmps33
    go_upto_region 0 with fail
    refine wp_region_held_drew (S := fun w' => b < w'.heap.size) (by kernel_rfl) (by go_split_ands <;> (try dsimp only) <;> go_simp) (fun hHeld => ?_)
    refine wpAnyH_take (i := 0) (oi := _) (v := ?v21) rfl (by kernel_rfl) (by kernel_rfl) (by kernel_rfl) (fun _ _ _ h => h) (Or.inl ⟨by rfl, ?hy21⟩) (by assumption) ?rest21
    case hy21 => (intro w hSw; (try dsimp only at hSw); go_simp; first | done | with_reducible rfl)
    (try simp only [List.getElem_toArray, List.getElem_cons_succ, List.getElem_cons_zero, Act.put, List.setIfInBounds_toArray, List.set_cons_zero, List.set_cons_succ])
    refine wpAnyH_take (i := 1) (oi := _) (v := ?v22) rfl (by kernel_rfl) (by kernel_rfl) (by kernel_rfl) (fun _ _ _ h => h) (Or.inl ⟨by rfl, ?hy22⟩) (by assumption) ?rest22
    case hy22 => (intro w hSw; (try dsimp only at hSw); go_simp; first | done | with_reducible rfl)
    (try simp only [List.getElem_toArray, List.getElem_cons_succ, List.getElem_cons_zero, Act.put, List.setIfInBounds_toArray, List.set_cons_zero, List.set_cons_succ])
    refine wpAnyH_take (i := 2) (oi := _) (v := ?v23) rfl (by kernel_rfl) (by kernel_rfl) (by kernel_rfl) (fun _ _ _ h => h) (Or.inl ⟨by rfl, ?hy23⟩) (by assumption) ?rest23
    case hy23 => (intro w hSw; (try dsimp only at hSw); go_simp; first | done | with_reducible rfl)
    (try simp only [List.getElem_toArray, List.getElem_cons_succ, List.getElem_cons_zero, Act.put, List.setIfInBounds_toArray, List.set_cons_zero, List.set_cons_succ])
    refine wpAnyH_take (i := 4) (oi := _) (v := ?v24) rfl (by kernel_rfl) (by kernel_rfl) (by kernel_rfl) (fun _ _ _ h => h) (Or.inl ⟨by rfl, ?hy24⟩) (by assumption) ?rest24
    case hy24 => (intro w hSw; (try dsimp only at hSw); go_simp; first | done | with_reducible rfl)
    (try simp only [List.getElem_toArray, List.getElem_cons_succ, List.getElem_cons_zero, Act.put, List.setIfInBounds_toArray, List.set_cons_zero, List.set_cons_succ])
    refine wpAnyH_take (i := 5) (oi := _) (v := ?v25) rfl (by kernel_rfl) (by kernel_rfl) (by kernel_rfl) (fun _ _ _ h => h) (Or.inl ⟨by rfl, ?hy25⟩) (by assumption) ?rest25
    case hy25 => (intro w hSw; (try dsimp only at hSw); go_simp; first | done | with_reducible rfl)
    (try simp only [List.getElem_toArray, List.getElem_cons_succ, List.getElem_cons_zero, Act.put, List.setIfInBounds_toArray, List.set_cons_zero, List.set_cons_succ])
    refine wpAnyH_ready (rs := [3]) (by kernel_rfl) (by simp) ?_
    refine AllReadyH.cons (o := _) rfl (fun K hK => ?st26) ?mo26
    case st26 =>
      go_simp
      refine hK.out _ _ (by go_split_ands <;> (try dsimp only) <;> go_simp) (fun hHeld26 => ?_)
      clear hK K
      (try simp only [List.getElem_toArray, List.getElem_cons_succ, List.getElem_cons_zero, Act.put, List.setIfInBounds_toArray, List.set_cons_zero, List.set_cons_succ])
      refine wpAnyH_take (i := 6) (oi := _) (v := ?v27) rfl (by kernel_rfl) (by kernel_rfl) (by kernel_rfl) (fun _ _ _ h => h) (Or.inl ⟨by rfl, ?hy27⟩) (by assumption) ?rest27
      case hy27 => (intro w hSw; (try dsimp only at hSw); go_simp; first | done | with_reducible rfl)
      (try simp only [List.getElem_toArray, List.getElem_cons_succ, List.getElem_cons_zero, Act.put, List.setIfInBounds_toArray, List.set_cons_zero, List.set_cons_succ])
      refine wpAnyH_take (i := 7) (oi := _) (v := ?v28) rfl (by kernel_rfl) (by kernel_rfl) (by kernel_rfl) (fun _ _ _ h => h) (Or.inl ⟨by rfl, ?hy28⟩) (by assumption) ?rest28
      case hy28 => (intro w hSw; (try dsimp only at hSw); go_simp; first | done | with_reducible rfl)
      (try simp only [List.getElem_toArray, List.getElem_cons_succ, List.getElem_cons_zero, Act.put, List.setIfInBounds_toArray, List.set_cons_zero, List.set_cons_succ])
      refine wpAnyH_take (i := 8) (oi := _) (v := ?v29) rfl (by kernel_rfl) (by kernel_rfl) (by kernel_rfl) (fun _ _ _ h => h) (Or.inl ⟨by rfl, ?hy29⟩) (by assumption) ?rest29
      case hy29 => (intro w hSw; (try dsimp only at hSw); go_simp; first | done | with_reducible rfl)
      (try simp only [List.getElem_toArray, List.getElem_cons_succ, List.getElem_cons_zero, Act.put, List.setIfInBounds_toArray, List.set_cons_zero, List.set_cons_succ])
      refine wpAnyH_ready (rs := [9]) (by kernel_rfl) (by simp) ?_
      refine AllReadyH.cons (o := _) rfl (fun K hK => ?st30) ?mo30
      case st30 =>
        go_simp
        refine hK.out _ _ (by go_split_ands <;> (try dsimp only) <;> go_simp) (fun hHeld30 => ?_)
        clear hK K
        (try simp only [List.getElem_toArray, List.getElem_cons_succ, List.getElem_cons_zero, Act.put, List.setIfInBounds_toArray, List.set_cons_zero, List.set_cons_succ])
        refine wpAnyH_done (by kernel_rfl) ?_ _
        go_upto_region 2 with fail
        refine wp_region_held_drew (S := fun w' => b < w'.heap.size) (by kernel_rfl) (by go_split_ands <;> (try dsimp only) <;> go_simp) (fun hHeld => ?_)
        refine wpAnyH_take (i := 0) (oi := _) (v := ?v11) rfl (by kernel_rfl) (by kernel_rfl) (by kernel_rfl) (fun _ _ _ h => h) (Or.inl ⟨by rfl, ?hy11⟩) (by assumption) ?rest11
        case hy11 => (intro w hSw; (try dsimp only at hSw); go_simp; first | done | with_reducible rfl)
        (try simp only [List.getElem_toArray, List.getElem_cons_succ, List.getElem_cons_zero, Act.put, List.setIfInBounds_toArray, List.set_cons_zero, List.set_cons_succ])
        refine wpAnyH_take (i := 1) (oi := _) (v := ?v12) rfl (by kernel_rfl) (by kernel_rfl) (by kernel_rfl) (fun _ _ _ h => h) (Or.inl ⟨by rfl, ?hy12⟩) (by assumption) ?rest12
        case hy12 => (intro w hSw; (try dsimp only at hSw); go_simp; first | done | with_reducible rfl)
        (try simp only [List.getElem_toArray, List.getElem_cons_succ, List.getElem_cons_zero, Act.put, List.setIfInBounds_toArray, List.set_cons_zero, List.set_cons_succ])
        refine wpAnyH_take (i := 2) (oi := _) (v := ?v13) rfl (by kernel_rfl) (by kernel_rfl) (by kernel_rfl) (fun _ _ _ h => h) (Or.inl ⟨by rfl, ?hy13⟩) (by assumption) ?rest13
        case hy13 => (intro w hSw; (try dsimp only at hSw); go_simp; first | done | with_reducible rfl)
        (try simp only [List.getElem_toArray, List.getElem_cons_succ, List.getElem_cons_zero, Act.put, List.setIfInBounds_toArray, List.set_cons_zero, List.set_cons_succ])
        refine wpAnyH_take (i := 4) (oi := _) (v := ?v14) rfl (by kernel_rfl) (by kernel_rfl) (by kernel_rfl) (fun _ _ _ h => h) (Or.inl ⟨by rfl, ?hy14⟩) (by assumption) ?rest14
        case hy14 => (intro w hSw; (try dsimp only at hSw); go_simp; first | done | with_reducible rfl)
        (try simp only [List.getElem_toArray, List.getElem_cons_succ, List.getElem_cons_zero, Act.put, List.setIfInBounds_toArray, List.set_cons_zero, List.set_cons_succ])
        refine wpAnyH_take (i := 5) (oi := _) (v := ?v15) rfl (by kernel_rfl) (by kernel_rfl) (by kernel_rfl) (fun _ _ _ h => h) (Or.inl ⟨by rfl, ?hy15⟩) (by assumption) ?rest15
        case hy15 => (intro w hSw; (try dsimp only at hSw); go_simp; first | done | with_reducible rfl)
        (try simp only [List.getElem_toArray, List.getElem_cons_succ, List.getElem_cons_zero, Act.put, List.setIfInBounds_toArray, List.set_cons_zero, List.set_cons_succ])
        refine wpAnyH_ready (rs := [3]) (by kernel_rfl) (by simp) ?_
        refine AllReadyH.cons (o := _) rfl (fun K hK => ?st16) ?mo16
        case st16 =>
          go_simp
          refine hK.out _ _ (by go_split_ands <;> (try dsimp only) <;> go_simp) (fun hHeld16 => ?_)
          clear hK K
          (try simp only [List.getElem_toArray, List.getElem_cons_succ, List.getElem_cons_zero, Act.put, List.setIfInBounds_toArray, List.set_cons_zero, List.set_cons_succ])
          refine wpAnyH_take (i := 6) (oi := _) (v := ?v17) rfl (by kernel_rfl) (by kernel_rfl) (by kernel_rfl) (fun _ _ _ h => h) (Or.inl ⟨by rfl, ?hy17⟩) (by assumption) ?rest17
          case hy17 => (intro w hSw; (try dsimp only at hSw); go_simp; first | done | with_reducible rfl)
          (try simp only [List.getElem_toArray, List.getElem_cons_succ, List.getElem_cons_zero, Act.put, List.setIfInBounds_toArray, List.set_cons_zero, List.set_cons_succ])
          refine wpAnyH_take (i := 7) (oi := _) (v := ?v18) rfl (by kernel_rfl) (by kernel_rfl) (by kernel_rfl) (fun _ _ _ h => h) (Or.inl ⟨by rfl, ?hy18⟩) (by assumption) ?rest18
          case hy18 => (intro w hSw; (try dsimp only at hSw); go_simp; first | done | with_reducible rfl)
          (try simp only [List.getElem_toArray, List.getElem_cons_succ, List.getElem_cons_zero, Act.put, List.setIfInBounds_toArray, List.set_cons_zero, List.set_cons_succ])
          refine wpAnyH_take (i := 8) (oi := _) (v := ?v19) rfl (by kernel_rfl) (by kernel_rfl) (by kernel_rfl) (fun _ _ _ h => h) (Or.inl ⟨by rfl, ?hy19⟩) (by assumption) ?rest19
          case hy19 => (intro w hSw; (try dsimp only at hSw); go_simp; first | done | with_reducible rfl)
          (try simp only [List.getElem_toArray, List.getElem_cons_succ, List.getElem_cons_zero, Act.put, List.setIfInBounds_toArray, List.set_cons_zero, List.set_cons_succ])
          refine wpAnyH_ready (rs := [9]) (by kernel_rfl) (by simp) ?_
          refine AllReadyH.cons (o := _) rfl (fun K hK => ?st20) ?mo20
          case st20 =>
            go_simp
            refine hK.out _ _ (by go_split_ands <;> (try dsimp only) <;> go_simp) (fun hHeld20 => ?_)
            clear hK K
            (try simp only [List.getElem_toArray, List.getElem_cons_succ, List.getElem_cons_zero, Act.put, List.setIfInBounds_toArray, List.set_cons_zero, List.set_cons_succ])
            refine wpAnyH_done (by kernel_rfl) ?_ _
            go_wp2_with ((go_at_call 70; (with_reducible refine (ic_enable i false hin ((H_his.out.put H_hnp.out H_hnq.out _).grows (by (repeat' (first | (with_reducible exact Vg.Grows.refl _) | (with_reducible assumption) | (with_reducible refine Vg.Grows.alloc ?_ _) | (with_reducible refine Vg.Grows.plus ?_ _ _) | (with_reducible refine Vg.Grows.drewN ?_ _) | (with_reducible refine Vg.Grows.drew ?_) | (with_reducible refine Vg.Grows.setCell ?_ ?_ _) | (with_reducible refine Vg.Grows.put ?_ ?_ _) | omega | (simp; omega) | (simp; done))))) H_hed.out H_hpe.out H_hen.out).mono ?_); rintro e w1 ⟨v, rfl, ⟨pa', pc', sa', m', sc', rfl, hI, f1, f2⟩, hg1⟩; have yb := hg1.blk (b := b) (o := irqC pe en ed pa n pc sa m sc lv sv z la) (by go_simp); have ht1 : Vg.Touch (fun k => k = b) w w1 := (Vg.Touch.put (Vg.Touch.refl (fun k => k = b) w) rfl (irqC pe en ed pa n pc sa m sc lv sv z la)).trans (Vg.Touch.of_grows (Vg.Grows.trans (by (repeat' (first | (with_reducible exact Vg.Grows.refl _) | (with_reducible assumption) | (with_reducible refine Vg.Grows.alloc ?_ _) | (with_reducible refine Vg.Grows.plus ?_ _ _) | (with_reducible refine Vg.Grows.drewN ?_ _) | (with_reducible refine Vg.Grows.drew ?_) | (with_reducible refine Vg.Grows.setCell ?_ ?_ _) | (with_reducible refine Vg.Grows.put ?_ ?_ _) | omega | (simp; omega) | (simp; done)))) hg1)); have hsz := ht1.size; simp only [Vg.put_size, World.size_drew] at f1 f2; clear c_hb f_hb p_hb; have c_yb := Vg.cells_of yb; have f_yb := Vg.frozen_of yb; have p_yb := Vg.setCell_of yb; have l_yb := Vg.lt_of yb; have H_yb := Lib.hid yb; clear yb; have H_hI := Lib.hid hI; clear hI; have H_f1 := Lib.hid f1; clear f1; have H_f2 := Lib.hid f2; clear f2; have H_hg1 := Lib.hid hg1; clear hg1; have H_ht1 := Lib.hid ht1; clear ht1))
            (first | go_end0 | refine bodyPost_ret (results_none rfl _ _ _) rfl ?_)
            have hmm : m' = s.S.length := by rw [← H_hI.out.m]; show s.c.st.length = _; rw [H_h.out.ok.st]; simp
            have ht9 := H_ht1.out.put rfl (irqC (s.c.enable i false).pe (s.c.enable i false).en ed pa' n pc' sa' m' sc' lv sv z la)
            obtain ⟨ow', h9, h10⟩ := H_h.out.tabs (c' := s.c.enable i false) (mk' := z) (last' := la) ht9 H_h.out.ok.st H_h.out.pe0 hmm (by rw [H_hed.out]; exact Vg.blk_put_same l_yb) (H_hI.out.put (fun k hk => by have := H_f1.out k hk; have := l_hb; omega) (fun k hk => by have := H_f2.out k hk; have := l_hb; omega) _) H_hzn.out (fun k hk => .inr (by rw [Vg.put_size]; exact H_f1.out k hk)) (fun k hk => .inr (by rw [Vg.put_size]; exact H_f2.out k hk))
            rw [H_hla.out]
            exact ⟨rfl, ⟨_, _, _, _, _, ow', h9, h10⟩, ht9⟩
          exact AllReadyH.nil
        exact AllReadyH.nil
      exact AllReadyH.nil
    exact AllReadyH.nil
end
end Go.Proofs.YtekjnagojphmkaaDoor
