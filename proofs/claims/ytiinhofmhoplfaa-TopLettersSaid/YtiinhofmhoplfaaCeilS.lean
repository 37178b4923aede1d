/- The document's table of ceilings: Unlock, Held, Level; Same. -/
import Derived.Test.YtiinhofmhoplfaaCeilR
set_option linter.unusedSimpArgs false
set_option linter.unusedVariables false
set_option maxHeartbeats 2000000
set_option maxRecDepth 100000
namespace Go.Proofs.Ytiinhofmhoplfaa
open Go.ChangeShapes Go.WideShapes Go.ChangeAt Go.RowKit
section
variable {w w' : World} {L : List Int} {M : List Vg.Mx} {H : List (Int × Int)} {S n : Nat} {v : Value}
/-- Unlock where it takes the mutex away. -/
theorem ref12_unlock_ok {ca ha : Option Addr} {cc hc p q : Nat} (i : Nat) (task : Int) (hiq : i < q) (hqc : q ≤ cc) (hcc : cc ≤ 9223372036854775807) (hp : H.length = p) (hpn : p ≤ 1000) (hr : Vg.Reads S w (.slice ha p hc) p (Vg.pcells H)) (hf : Vg.Hs.find H i = (task, true)) :
    Calls Try.prog 33 #[.agg #[.slice ca q cc, .slice ha p hc], .int .i64 i, .int .i64 task] w fun e w' => ∃ a c, e = .returned (.tuple #[.agg #[.slice ca q cc, .slice a (H.filter fun x => decide (x.1 ≠ (i : Int))).length c], .int .i64 0]) ∧ Vg.Reads w.heap.size w' (.slice a (H.filter fun x => decide (x.1 ≠ (i : Int))).length c) (H.filter fun x => decide (x.1 ≠ (i : Int))).length (Vg.pcells (H.filter fun x => decide (x.1 ≠ (i : Int)))) ∧ Vg.Grows w w' := by
  obtain ⟨i0, hi', hz0, hz1, hz2⟩ := info_parts Try.info_hold
  obtain ⟨f, hf'⟩ : ∃ f : Nat → List (Int × Int), ∀ k, f k = (H.take k).filter fun x => decide (x.1 ≠ (i : Int)) := ⟨_, fun _ => rfl⟩
  have hfl : ∀ k, (f k).length ≤ 1000 := fun k => by rw [hf']; exact Nat.le_trans (List.length_filter_le _ _) (by rw [List.length_take]; omega)
  have f0 : f 0 = [] := by rw [hf']; rfl
  have fe : f p = H.filter fun x => decide (x.1 ≠ (i : Int)) := by rw [hf', ← hp, List.take_length]
  have fs : ∀ k (hk : k < H.length), f (k + 1) = f k ++ if H[k].1 = (i : Int) then [] else [H[k]] := fun k hk => by
    rw [hf', hf', List.take_succ_eq_append_getElem hk, List.filter_append]
    congr 1
    by_cases h : H[k].1 = (i : Int) <;> simp [h]
  have hhc : hc ≤ 9223372036854775807 := hr.cap_le
  have hpc := hr.len_le
  have hi0 : (0 : Int) ≤ i := by omega
  have hiq2 : (i : Int) < q := by omega
  have hb0 : (task != task) = false := by simp
  have F0 := Lib.hid f0
  have FE := Lib.hid fe
  have Qfs := Lib.hid fs
  have FL := Lib.hid hfl
  clear f0 fe fs hfl hf'
  rw [← FE.out]
  have H_hp := Lib.hid hp; clear hp; have H_hr := Lib.hid hr; clear hr; have H_hf := Lib.hid hf; clear hf
  go_enter Try.func33, Try.ntmps33
  go_wp2_with ((go_at_call 36; refine (ref12_holder' (H := H) i H_hp.out (H_hr.out.grows (by (repeat' (first | (with_reducible exact Vg.Grows.refl _) | (with_reducible assumption) | (with_reducible refine Vg.Grows.alloc ?_ _) | (with_reducible refine Vg.Grows.plus ?_ _ _) | (with_reducible refine Vg.Grows.drewN ?_ _) | (with_reducible refine Vg.Grows.drew ?_) | (with_reducible refine Vg.Grows.setCell ?_ ?_ _) | (with_reducible refine Vg.Grows.put ?_ ?_ _) | omega | (simp; omega) | (simp; done)))))).mono ?_; rintro e w1 ⟨rfl, x1, n1, rfl⟩; rw [H_hf.out]))
  go_loopw [10, 40] (fun v i wr => ∃ k : Nat, k ≤ p ∧ i = .int .i64 k ∧ wr.ownsRow (w.heap.size + 2) 163 2 v (f k).length (Vg.pcells (f k)) ∧ Vg.Grows ((w.alloc (.cells #[.slice ca q cc, .slice ha p hc] 57)).alloc (.cells #[.slice none 0 0, .slice none 0 0] 57)) wr) (fun _ i _ => p - (intOf i).toNat)
  case atStart =>
    refine ⟨0, by omega, rfl, ?_, by (repeat' (first | (with_reducible exact Vg.Grows.refl _) | (with_reducible assumption) | (with_reducible refine Vg.Grows.alloc ?_ _) | (with_reducible refine Vg.Grows.plus ?_ _ _) | (with_reducible refine Vg.Grows.drewN ?_ _) | (with_reducible refine Vg.Grows.drew ?_) | (with_reducible refine Vg.Grows.setCell ?_ ?_ _) | (with_reducible refine Vg.Grows.put ?_ ?_ _) | omega | (simp; omega) | (simp; done)))⟩
    rw [F0.out]
    exact World.ownsRow_nil _ _ _ _
  case round =>
    obtain ⟨k, hk, rfl, hown, y, m, rfl⟩ := hrel
    have hown0 := Lib.hid hown
    have hlen := FL.out k
    by_cases hlt : k < p
    · have hkL : k < H.length := by rw [H_hp.out]; exact hlt
      obtain ⟨g, off, rfl, hg, hcc', hm, hx⟩ := H_hr.out.open (by rw [Vg.pcells_length]; omega)
      have hget := Vg.pcells_get H k hkL
      have c0 := hx (k * 2) (by rw [Vg.pcells_length]; omega)
      have c1 := hx (k * 2 + 1) (by rw [Vg.pcells_length]; omega)
      rw [← Nat.add_assoc] at c1
      have hfs := Qfs.out k hkL
      obtain ⟨x, hxk⟩ : ∃ x, H[k] = x := ⟨_, rfl⟩
      rw [hxk] at hget hfs
      have c0' : w.cell? ⟨g, off + k * 2, none⟩ = some (.int .i64 x.1) := by rw [c0, ← hget.1, List.getElem?_eq_getElem]
      have c1' : w.cell? ⟨g, off + k * 2 + 1, none⟩ = some (.int .i64 x.2) := by rw [c1, ← hget.2, List.getElem?_eq_getElem]
      clear c0 c1 hget hx hown
      obtain ⟨x1, x2⟩ := x
      simp only [] at c0' c1' hfs
      by_cases hxm : x1 = (i : Int)
      · subst hxm
        have hb : ((i : Int) != (i : Int)) = false := by simp
        rw [if_pos rfl, List.append_nil] at hfs
        have H_hfs := Lib.hid hfs; clear hfs; have H_hxk := Lib.hid hxk; clear hxk
        go_wp2
        refine ⟨⟨k + 1, by omega, by go_num, ?_, by (repeat' (first | (with_reducible exact Vg.Grows.refl _) | (with_reducible assumption) | (with_reducible refine Vg.Grows.alloc ?_ _) | (with_reducible refine Vg.Grows.plus ?_ _ _) | (with_reducible refine Vg.Grows.drewN ?_ _) | (with_reducible refine Vg.Grows.drew ?_) | (with_reducible refine Vg.Grows.setCell ?_ ?_ _) | (with_reducible refine Vg.Grows.put ?_ ?_ _) | omega | (simp; omega) | (simp; done)))⟩, by simp [intOf]; omega⟩
        rw [H_hfs.out]
        exact hown0.out.alloc _
      · have hb : (x1 != (i : Int)) = true := by simp [hxm]
        rw [if_neg hxm] at hfs
        have H_hfs := Lib.hid hfs; clear hfs; have H_hxk := Lib.hid hxk; clear hxk; have H_hxm := Lib.hid hxm; clear hxm
        go_wp2_with (at_builtin; (refine Vg.wpList_app (((Vg.Grows.plus (Vg.Grows.refl _) _ _).alloc _).alloc _) rfl _ _ 55 rfl (w.heap.size + 2) (by simp [go_sem]) (by simp [go_sem] <;> omega) 163 i0 (.agg #[.int .i64 0, .int .i64 0]) 2 16 Try.underlying55 hi' hz0 hz1 hz2 rfl (by decide) _ _ _ rfl ((hown0.out.alloc _).alloc _) _ 1 1 [.int .i64 x1, .int .i64 x2] rfl rfl (Vg.two_new (by (try simp only [World.size_alloc, Vg.plus_size, Vg.put_size, World.size_setCell, World.size_drew]) <;> omega)) (by simp [Value.oneCell']) (by unfold maxLen; omega) (by omega) ?_); intro v' y' m' hown' hsz')
        refine ⟨⟨k + 1, by omega, by go_num, ?_, by (repeat' (first | (with_reducible exact Vg.Grows.refl _) | (with_reducible assumption) | (with_reducible refine Vg.Grows.alloc ?_ _) | (with_reducible refine Vg.Grows.plus ?_ _ _) | (with_reducible refine Vg.Grows.drewN ?_ _) | (with_reducible refine Vg.Grows.drew ?_) | (with_reducible refine Vg.Grows.setCell ?_ ?_ _) | (with_reducible refine Vg.Grows.put ?_ ?_ _) | omega | (simp; omega) | (simp; done)))⟩, by simp [intOf]; omega⟩
        rw [H_hfs.out, List.length_append, Vg.pcells_append]
        exact hown'
    · obtain rfl : k = p := by omega
      obtain ⟨a', c', rfl⟩ := Vg.owns_shape hown
      clear hown
      go_wp2
      go_returns
      refine ⟨a', c', rfl, ?_, by (repeat' (first | (with_reducible exact Vg.Grows.refl _) | (with_reducible assumption) | (with_reducible refine Vg.Grows.alloc ?_ _) | (with_reducible refine Vg.Grows.plus ?_ _ _) | (with_reducible refine Vg.Grows.drewN ?_ _) | (with_reducible refine Vg.Grows.drew ?_) | (with_reducible refine Vg.Grows.setCell ?_ ?_ _) | (with_reducible refine Vg.Grows.put ?_ ?_ _) | omega | (simp; omega) | (simp; done)))⟩
      exact ((Vg.Reads.of_owns hown0.out).base (by simp) (by simp)).weaken (by omega)
/-- Unlock where it refuses. -/
theorem ref12_unlock_no {ca ha : Option Addr} {cc hc p q : Nat} (m task r : Int) (hqc : q ≤ cc) (hcc : cc ≤ 9223372036854775807) (hhc : hc ≤ 9223372036854775807) (hp : H.length = p) (hr : Vg.Reads S w (.slice ha p hc) p (Vg.pcells H)) (h : ((m < 0 ∨ (q : Int) ≤ m) ∧ r = 1) ∨ (0 ≤ m ∧ m < q ∧ r = 7 ∧ ((Vg.Hs.find H m).2 = false ∨ ((Vg.Hs.find H m).2 = true ∧ (Vg.Hs.find H m).1 ≠ task)))) :
    Calls Try.prog 33 #[.agg #[.slice ca q cc, .slice ha p hc], .int .i64 m, .int .i64 task] w fun e w' => e = .returned (.tuple #[.agg #[.slice ca q cc, .slice ha p hc], .int .i64 r]) ∧ Vg.Grows w w' := by
  rcases h with ⟨hm, rfl⟩ | ⟨h0, h1, rfl, hf⟩
  · have H_hr := Lib.hid hr; clear hr; have H_hp := Lib.hid hp; clear hp
    by_cases h0 : m < 0
    · clear hm
      go_enter Try.func33, Try.ntmps33
      go_wp2
      go_returns
      exact ⟨rfl, by (repeat' (first | (with_reducible exact Vg.Grows.refl _) | (with_reducible assumption) | (with_reducible refine Vg.Grows.alloc ?_ _) | (with_reducible refine Vg.Grows.plus ?_ _ _) | (with_reducible refine Vg.Grows.drewN ?_ _) | (with_reducible refine Vg.Grows.drew ?_) | (with_reducible refine Vg.Grows.setCell ?_ ?_ _) | (with_reducible refine Vg.Grows.put ?_ ?_ _) | omega | (simp; omega) | (simp; done)))⟩
    · have h5 : (q : Int) ≤ m := by omega
      clear hm
      go_enter Try.func33, Try.ntmps33
      go_wp2
      go_returns
      exact ⟨rfl, by (repeat' (first | (with_reducible exact Vg.Grows.refl _) | (with_reducible assumption) | (with_reducible refine Vg.Grows.alloc ?_ _) | (with_reducible refine Vg.Grows.plus ?_ _ _) | (with_reducible refine Vg.Grows.drewN ?_ _) | (with_reducible refine Vg.Grows.drew ?_) | (with_reducible refine Vg.Grows.setCell ?_ ?_ _) | (with_reducible refine Vg.Grows.put ?_ ?_ _) | omega | (simp; omega) | (simp; done)))⟩
  · obtain ⟨⟨who, is⟩, hx⟩ : ∃ x, Vg.Hs.find H m = x := ⟨_, rfl⟩
    rw [hx] at hf
    simp only [] at hf
    rcases hf with rfl | ⟨rfl, hw⟩
    · have H_hr := Lib.hid hr; clear hr; have H_hp := Lib.hid hp; clear hp; have H_hx := Lib.hid hx; clear hx
      go_enter Try.func33, Try.ntmps33
      go_wp2_with ((go_at_call 36; refine (ref12_holder' (H := H) m H_hp.out (H_hr.out.grows (by (repeat' (first | (with_reducible exact Vg.Grows.refl _) | (with_reducible assumption) | (with_reducible refine Vg.Grows.alloc ?_ _) | (with_reducible refine Vg.Grows.plus ?_ _ _) | (with_reducible refine Vg.Grows.drewN ?_ _) | (with_reducible refine Vg.Grows.drew ?_) | (with_reducible refine Vg.Grows.setCell ?_ ?_ _) | (with_reducible refine Vg.Grows.put ?_ ?_ _) | omega | (simp; omega) | (simp; done)))))).mono ?_; rintro e w1 ⟨rfl, x1, n1, rfl⟩; rw [H_hx.out]))
      go_returns
      exact ⟨rfl, by (repeat' (first | (with_reducible exact Vg.Grows.refl _) | (with_reducible assumption) | (with_reducible refine Vg.Grows.alloc ?_ _) | (with_reducible refine Vg.Grows.plus ?_ _ _) | (with_reducible refine Vg.Grows.drewN ?_ _) | (with_reducible refine Vg.Grows.drew ?_) | (with_reducible refine Vg.Grows.setCell ?_ ?_ _) | (with_reducible refine Vg.Grows.put ?_ ?_ _) | omega | (simp; omega) | (simp; done)))⟩
    · have hb : (who != task) = true := by simp [hw]
      have H_hr := Lib.hid hr; clear hr; have H_hp := Lib.hid hp; clear hp; have H_hx := Lib.hid hx; clear hx; have H_hw := Lib.hid hw; clear hw
      go_enter Try.func33, Try.ntmps33
      go_wp2_with ((go_at_call 36; refine (ref12_holder' (H := H) m H_hp.out (H_hr.out.grows (by (repeat' (first | (with_reducible exact Vg.Grows.refl _) | (with_reducible assumption) | (with_reducible refine Vg.Grows.alloc ?_ _) | (with_reducible refine Vg.Grows.plus ?_ _ _) | (with_reducible refine Vg.Grows.drewN ?_ _) | (with_reducible refine Vg.Grows.drew ?_) | (with_reducible refine Vg.Grows.setCell ?_ ?_ _) | (with_reducible refine Vg.Grows.put ?_ ?_ _) | omega | (simp; omega) | (simp; done)))))).mono ?_; rintro e w1 ⟨rfl, x1, n1, rfl⟩; rw [H_hx.out]))
      go_returns
      exact ⟨rfl, by (repeat' (first | (with_reducible exact Vg.Grows.refl _) | (with_reducible assumption) | (with_reducible refine Vg.Grows.alloc ?_ _) | (with_reducible refine Vg.Grows.plus ?_ _ _) | (with_reducible refine Vg.Grows.drewN ?_ _) | (with_reducible refine Vg.Grows.drew ?_) | (with_reducible refine Vg.Grows.setCell ?_ ?_ _) | (with_reducible refine Vg.Grows.put ?_ ?_ _) | omega | (simp; omega) | (simp; done)))⟩
theorem rt_unlock {S : Nat → Prop} (m task : Int) (h : RT w S M n v) (hS : ∀ k, w.heap.size ≤ k → S k) (hn : n ≤ 1000) :
    Calls Try.prog 33 #[v, .int .i64 m, .int .i64 task] w fun e w' => ∃ v', e = .returned (.tuple #[v', .int .i64 (Vg.Tb.unlock M m task).2]) ∧ RT w' S (Vg.Tb.unlock M m task).1 n v' ∧ Vg.Grows w w' := by
  have h' := h
  obtain ⟨ca, cc, ha, hc, H, rfl, h1, h2, h3, h4⟩ := h
  have hcc : cc ≤ 9223372036854775807 := h1.1.cap_le
  have hhc : hc ≤ 9223372036854775807 := h2.1.cap_le
  have hqc := h1.1.len_le
  by_cases hm : m < 0 ∨ (M.length : Int) ≤ m
  · rw [Vg.Tb.unlock_out hm]
    refine (ref12_unlock_no (S := 0) m task 1 hqc hcc hhc rfl h2.1 (.inl ⟨hm, rfl⟩)).mono ?_
    rintro e w' ⟨rfl, hg⟩
    exact ⟨_, rfl, h'.grows hg, hg⟩
  · obtain ⟨i, rfl⟩ : ∃ i : Nat, m = i := ⟨m.toNat, by omega⟩
    have hi : i < M.length := by omega
    have hfi := h3 i
    rw [Vg.Tb.holder_in hi] at hfi
    rw [Vg.Tb.unlock_in hi]
    by_cases hh : M[i].held = true ∧ M[i].who = task
    · rw [if_pos hh]
      rw [if_pos hh.1, hh.2] at hfi
      refine (ref12_unlock_ok (S := 0) (H := H) i task hi hqc hcc rfl (by omega) h2.1 hfi).mono ?_
      rintro e w' ⟨a, c, rfl, hr, hg⟩
      refine ⟨_, rfl, ⟨ca, cc, a, c, H.filter fun x => decide (x.1 ≠ (i : Int)), by rw [List.length_set], ?_, Vg.ReadsP.of_new hr hS, h3.unlock hi _ _, Nat.le_trans (List.length_filter_le _ _) h4⟩, hg⟩
      have e2 : (M.set i ⟨M[i].c, false, M[i].who⟩).length = M.length := List.length_set ..
      have e3 : Vg.Tb.cs (M.set i ⟨M[i].c, false, M[i].who⟩) = Vg.Tb.cs M := Vg.Tb.cs_set hi rfl
      show Vg.ReadsP S w' (.slice ca (M.set i ⟨M[i].c, false, M[i].who⟩).length cc) (M.set i ⟨M[i].c, false, M[i].who⟩).length (Vg.ics (Vg.Tb.cs (M.set i ⟨M[i].c, false, M[i].who⟩)))
      rw [e2, e3]
      exact h1.grows hg
    · rw [if_neg hh]
      refine (ref12_unlock_no (S := 0) i task 7 hqc hcc hhc rfl h2.1 (.inr ⟨by omega, by omega, rfl, ?_⟩)).mono ?_
      · rw [hfi]
        by_cases h5 : M[i].held = true
        · rw [if_pos h5]
          exact .inr ⟨rfl, fun h6 => hh ⟨h5, h6⟩⟩
        · rw [if_neg h5]
          exact .inl rfl
      · rintro e w' ⟨rfl, hg⟩
        exact ⟨_, rfl, h'.grows hg, hg⟩
end
end Go.Proofs.Ytiinhofmhoplfaa
