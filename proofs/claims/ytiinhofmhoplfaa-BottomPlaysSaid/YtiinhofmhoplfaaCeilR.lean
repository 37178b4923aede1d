/- The document's table of ceilings: Lock, Unlock, Held, Level; Same. 'RT': the document's table. -/
import Derived.Test.YtiinhofmhoplfaaCeilP
set_option linter.unusedSimpArgs false
set_option linter.unusedVariables false
set_option maxHeartbeats 8000000
set_option maxRecDepth 100000
namespace Vg
open Go Go.RowKit
theorem Tb.isOf_holder {M : List Mx} {task : Int} {k : Nat} (hk : k < M.length) : Tb.isOf M task k = ((Tb.holder M k).2 && decide ((Tb.holder M k).1 = task)) := by
  rw [Tb.holder_in hk]
  unfold Tb.isOf
  rw [List.getElem?_eq_getElem hk]
  cases h : M[k].held <;> simp [h]
theorem pcells_ones : ∀ (l : List (Int × Int)), ∀ u ∈ pcells l, u.oneCell' = true
  | [], u, h => by simp [pcells] at h
  | x :: l, u, h => by
    simp only [pcells, List.mem_cons] at h
    rcases h with rfl | rfl | h
    · rfl
    · rfl
    · exact pcells_ones l u h
/-- As Reads, in blocks of a set. -/
def ReadsP (S : Nat → Prop) (w : World) (sv : Value) (n : Nat) (xs : List Value) : Prop := Reads 0 w sv n xs ∧ ∀ k, sv.ownBlock = some k → S k
theorem ReadsP.grows {S : Nat → Prop} {w w' : World} {sv : Value} {n : Nat} {xs : List Value} (h : ReadsP S w sv n xs) (hg : Grows w w') : ReadsP S w' sv n xs := ⟨h.1.grows hg, h.2⟩
theorem ReadsP.touch {S : Nat → Prop} {w w' : World} {t : Nat → Prop} {sv : Value} {n : Nat} {xs : List Value} (h : ReadsP S w sv n xs) (ht : Touch t w w') (hv : ∀ k, S k → ¬ t k) : ReadsP S w' sv n xs := by
  refine ⟨?_, h.2⟩
  rcases h.1 with h0 | ⟨g, off, cap, rfl, h2, h3, h4, h5, h6⟩
  · exact .inl h0
  · refine .inr ⟨g, off, cap, rfl, h2, Nat.lt_of_lt_of_le h3 ht.size, h4, h5, fun j hj => ?_⟩
    rw [← h6 j hj]
    exact World.cell?_of_block (w := w) (ht.block g h3 (hv g (h.2 g rfl)))
theorem ReadsP.of_new {S : Nat → Prop} {w : World} {s : Nat} {sv : Value} {n : Nat} {xs : List Value} (h : Reads s w sv n xs) (hS : ∀ k, s ≤ k → S k) : ReadsP S w sv n xs := by
  refine ⟨h.weaken (Nat.zero_le _), fun k hk => hS k ?_⟩
  rcases h with ⟨rfl, _⟩ | ⟨g, off, cap, rfl, h2, _⟩
  · simp [Value.ownBlock] at hk
  · simp [Value.ownBlock] at hk; omega
theorem ReadsP.nil {S : Nat → Prop} (w : World) : ReadsP S w (.slice none 0 0) 0 [] := ⟨Reads.nil _ _, fun k hk => by simp [Value.ownBlock] at hk⟩
theorem Reads.len_le {S : Nat} {w : World} {sa : Option Addr} {n c : Nat} {xs : List Value} (h : Reads S w (.slice sa n c) n xs) : n ≤ c := by
  rcases h with ⟨h0, h1, _⟩ | ⟨g, off, cap, h0, _, _, h3, _⟩
  · omega
  · simp only [Value.slice.injEq] at h0; omega
end Vg
namespace Go.Proofs.Ytiinhofmhoplfaa
open Go.ChangeShapes Go.WideShapes Go.ChangeAt Go.RowKit
/-- The document's table. -/
def RT (w : World) (S : Nat → Prop) (M : List Vg.Mx) (n : Nat) (v : Value) : Prop := ∃ ca cc ha hc, ∃ H : List (Int × Int), v = .agg #[.slice ca M.length cc, .slice ha H.length hc] ∧ Vg.ReadsP S w (.slice ca M.length cc) M.length (Vg.ics (Vg.Tb.cs M)) ∧ Vg.ReadsP S w (.slice ha H.length hc) H.length (Vg.pcells H) ∧ Vg.Hs.Rel H M ∧ H.length ≤ n
section
variable {w w' : World} {L : List Int} {M : List Vg.Mx} {H : List (Int × Int)} {S : Nat → Prop} {s0 n : Nat} {v : Value}
theorem RT.grows (h : RT w S M n v) (hg : Vg.Grows w w') : RT w' S M n v := by
  obtain ⟨ca, cc, ha, hc, H, rfl, h1, h2, h3, h4⟩ := h
  exact ⟨ca, cc, ha, hc, H, rfl, h1.grows hg, h2.grows hg, h3, h4⟩
theorem RT.touch {t : Nat → Prop} (h : RT w S M n v) (ht : Vg.Touch t w w') (hv : ∀ k, S k → ¬ t k) : RT w' S M n v := by
  obtain ⟨ca, cc, ha, hc, H, rfl, h1, h2, h3, h4⟩ := h
  exact ⟨ca, cc, ha, hc, H, rfl, h1.touch ht hv, h2.touch ht hv, h3, h4⟩
theorem RT.mono {n' : Nat} (h : RT w S M n v) (hn : n ≤ n') : RT w S M n' v := by
  obtain ⟨ca, cc, ha, hc, H, rfl, h1, h2, h3, h4⟩ := h
  exact ⟨ca, cc, ha, hc, H, rfl, h1, h2, h3, by omega⟩
theorem RT.shape (h : RT w S M n v) : ∃ ca cc ha hn hc, v = .agg #[.slice ca M.length cc, .slice ha hn hc] := by
  obtain ⟨ca, cc, ha, hc, H, rfl, _⟩ := h
  exact ⟨ca, cc, ha, _, hc, rfl⟩
theorem ref12_holder' {ca ha : Option Addr} {cn cc hc p : Nat} (m : Int) (hp : H.length = p) (hr : Vg.Reads s0 w (.slice ha p hc) p (Vg.pcells H)) :
    Calls Try.prog 36 #[.agg #[.slice ca cn cc, .slice ha p hc], .int .i64 m] w fun e w' => e = .returned (.tuple #[.int .i64 (Vg.Hs.find H m).1, .bool (Vg.Hs.find H m).2]) ∧ Vg.Grows w w' := by
  subst hp
  exact ref12_holder m hr
theorem rt_holder (m : Int) (h : RT w S M n v) :
    Calls Try.prog 36 #[v, .int .i64 m] w fun e w' => e = .returned (.tuple #[.int .i64 (Vg.Tb.holder M m).1, .bool (Vg.Tb.holder M m).2]) ∧ Vg.Grows w w' := by
  obtain ⟨ca, cc, ha, hc, H, rfl, h1, h2, h3, h4⟩ := h
  rw [← h3 m]
  exact ref12_holder m h2.1
theorem rt_lock (m task prio : Int) (h : RT w S M n v) (hS : ∀ k, w.heap.size ≤ k → S k) (hn : n ≤ 1000) :
    Calls Try.prog 31 #[v, .int .i64 m, .int .i64 task, .int .i64 prio] w fun e w' => ∃ v', e = .returned (.tuple #[v', .int .i64 (Vg.Tb.lock M m task prio).2]) ∧ RT w' S (Vg.Tb.lock M m task prio).1 (n + 1) v' ∧ Vg.Grows w w' := by
  obtain ⟨ca, cc, ha, hc, H, rfl, h1, h2, h3, h4⟩ := h
  have hcc : cc ≤ 9223372036854775807 := h1.1.cap_le
  have hhc : hc ≤ 9223372036854775807 := h2.1.cap_le
  have hqc := h1.1.len_le
  by_cases hm : m < 0 ∨ (M.length : Int) ≤ m
  · rw [Vg.Tb.lock_out hm]
    obtain ⟨q, hq⟩ : ∃ q, M.length = q := ⟨_, rfl⟩
    obtain ⟨p, hp⟩ : ∃ p, H.length = p := ⟨_, rfl⟩
    have hR : ∀ w', Vg.Grows w w' → RT w' S M (n + 1) (.agg #[.slice ca q cc, .slice ha p hc]) := fun w' hg => ⟨ca, cc, ha, hc, H, by rw [hq, hp], h1.grows hg, h2.grows hg, h3, by omega⟩
    rw [hq] at hm hqc ⊢
    rw [hp]
    have H_hR := Lib.hid hR; clear hR; have H_h1 := Lib.hid h1; clear h1; have H_h2 := Lib.hid h2; clear h2; have H_h3 := Lib.hid h3; clear h3; have H_hq := Lib.hid hq; clear hq; have H_hp := Lib.hid hp; clear hp
    clear h4
    by_cases h0 : m < 0
    · clear hm
      go_enter Try.func31, Try.ntmps31
      go_wp2
      go_returns
      refine ⟨.agg #[.slice ca q cc, .slice ha p hc], rfl, H_hR.out _ ?_, ?_⟩ <;> (repeat' (first | (with_reducible exact Vg.Grows.refl _) | (with_reducible assumption) | (with_reducible refine Vg.Grows.alloc ?_ _) | (with_reducible refine Vg.Grows.plus ?_ _ _) | (with_reducible refine Vg.Grows.drewN ?_ _) | (with_reducible refine Vg.Grows.drew ?_) | (with_reducible refine Vg.Grows.setCell ?_ ?_ _) | (with_reducible refine Vg.Grows.put ?_ ?_ _) | omega | (simp; omega) | (simp; done)))
    · have h5 : (q : Int) ≤ m := by omega
      clear hm
      go_enter Try.func31, Try.ntmps31
      go_wp2
      go_returns
      refine ⟨.agg #[.slice ca q cc, .slice ha p hc], rfl, H_hR.out _ ?_, ?_⟩ <;> (repeat' (first | (with_reducible exact Vg.Grows.refl _) | (with_reducible assumption) | (with_reducible refine Vg.Grows.alloc ?_ _) | (with_reducible refine Vg.Grows.plus ?_ _ _) | (with_reducible refine Vg.Grows.drewN ?_ _) | (with_reducible refine Vg.Grows.drew ?_) | (with_reducible refine Vg.Grows.setCell ?_ ?_ _) | (with_reducible refine Vg.Grows.put ?_ ?_ _) | omega | (simp; omega) | (simp; done)))
  · obtain ⟨i, rfl⟩ : ∃ i : Nat, m = i := ⟨m.toNat, by omega⟩
    have hi : i < M.length := by omega
    rw [Vg.Tb.lock_in hi]
    obtain ⟨g, off, rfl, hg, -, -, hx⟩ := h1.1.open (by simp [Vg.Tb.cs]; omega)
    have hcell := hx i (by simp [Vg.Tb.cs]; exact hi)
    simp only [Vg.ics, Vg.Tb.cs, List.getElem_map] at hcell
    have hfi := h3 i
    rw [Vg.Tb.holder_in hi] at hfi
    obtain ⟨x, hxi⟩ : ∃ x, M[i] = x := ⟨_, rfl⟩
    rw [hxi] at hcell hfi ⊢
    obtain ⟨c, held, who⟩ := x
    simp only [] at hcell hfi ⊢
    clear hx
    obtain ⟨q, hq⟩ : ∃ q, M.length = q := ⟨_, rfl⟩
    obtain ⟨p, hp⟩ : ∃ p, H.length = p := ⟨_, rfl⟩
    have hR : ∀ w', Vg.Grows w w' → RT w' S M (n + 1) (.agg #[.slice (some ⟨g, off, none⟩) q cc, .slice ha p hc]) := fun w' hg => ⟨_, cc, ha, hc, H, by rw [hq, hp], h1.grows hg, h2.grows hg, h3, by omega⟩
    have hiq : i < q := by omega
    have hiq2 : (i : Int) < q := by omega
    have hi0 : (0 : Int) ≤ i := by omega
    have hpn : p ≤ 1000 := by omega
    have hpn2 : p ≤ n := by omega
    rw [hp] at h2
    rw [hq] at hqc ⊢
    rw [hp]
    clear hm h4
    have H_hR := Lib.hid hR; clear hR; have H_h1 := Lib.hid h1; clear h1; have H_h2 := Lib.hid h2; clear h2; have H_h3 := Lib.hid h3; clear h3; have H_hq := Lib.hid hq; clear hq; have H_hp := Lib.hid hp; clear hp; have H_hxi := Lib.hid hxi; clear hxi
    by_cases hpr : c < prio
    · rw [if_pos hpr]
      clear hfi
      go_enter Try.func31, Try.ntmps31
      go_wp2
      go_returns
      refine ⟨.agg #[.slice (some ⟨g, off, none⟩) q cc, .slice ha p hc], rfl, H_hR.out _ ?_, ?_⟩ <;> (repeat' (first | (with_reducible exact Vg.Grows.refl _) | (with_reducible assumption) | (with_reducible refine Vg.Grows.alloc ?_ _) | (with_reducible refine Vg.Grows.plus ?_ _ _) | (with_reducible refine Vg.Grows.drewN ?_ _) | (with_reducible refine Vg.Grows.drew ?_) | (with_reducible refine Vg.Grows.setCell ?_ ?_ _) | (with_reducible refine Vg.Grows.put ?_ ?_ _) | omega | (simp; omega) | (simp; done)))
    · rw [if_neg hpr]
      cases held with
      | true =>
        rw [if_pos rfl] at hfi
        by_cases ht : who = task
        · subst ht
          rw [if_pos ⟨rfl, rfl⟩]
          have hb : (who == who) = true := by simp
          have H_hfi := Lib.hid hfi; clear hfi
          go_enter Try.func31, Try.ntmps31
          go_wp2_with ((go_at_call 36; refine (ref12_holder' (H := H) i H_hp.out (H_h2.out.1.grows (by (repeat' (first | (with_reducible exact Vg.Grows.refl _) | (with_reducible assumption) | (with_reducible refine Vg.Grows.alloc ?_ _) | (with_reducible refine Vg.Grows.plus ?_ _ _) | (with_reducible refine Vg.Grows.drewN ?_ _) | (with_reducible refine Vg.Grows.drew ?_) | (with_reducible refine Vg.Grows.setCell ?_ ?_ _) | (with_reducible refine Vg.Grows.put ?_ ?_ _) | omega | (simp; omega) | (simp; done)))))).mono ?_; rintro e w1 ⟨rfl, x1, n1, rfl⟩; rw [H_hfi.out]))
          go_returns
          refine ⟨.agg #[.slice (some ⟨g, off, none⟩) q cc, .slice ha p hc], rfl, H_hR.out _ ?_, ?_⟩ <;> (repeat' (first | (with_reducible exact Vg.Grows.refl _) | (with_reducible assumption) | (with_reducible refine Vg.Grows.alloc ?_ _) | (with_reducible refine Vg.Grows.plus ?_ _ _) | (with_reducible refine Vg.Grows.drewN ?_ _) | (with_reducible refine Vg.Grows.drew ?_) | (with_reducible refine Vg.Grows.setCell ?_ ?_ _) | (with_reducible refine Vg.Grows.put ?_ ?_ _) | omega | (simp; omega) | (simp; done)))
        · rw [if_neg (fun hh => ht hh.2), if_pos rfl]
          have hb : (who == task) = false := by simp [ht]
          have H_hfi := Lib.hid hfi; clear hfi; have H_ht := Lib.hid ht; clear ht
          go_enter Try.func31, Try.ntmps31
          go_wp2_with ((go_at_call 36; refine (ref12_holder' (H := H) i H_hp.out (H_h2.out.1.grows (by (repeat' (first | (with_reducible exact Vg.Grows.refl _) | (with_reducible assumption) | (with_reducible refine Vg.Grows.alloc ?_ _) | (with_reducible refine Vg.Grows.plus ?_ _ _) | (with_reducible refine Vg.Grows.drewN ?_ _) | (with_reducible refine Vg.Grows.drew ?_) | (with_reducible refine Vg.Grows.setCell ?_ ?_ _) | (with_reducible refine Vg.Grows.put ?_ ?_ _) | omega | (simp; omega) | (simp; done)))))).mono ?_; rintro e w1 ⟨rfl, x1, n1, rfl⟩; rw [H_hfi.out]))
          go_returns
          refine ⟨.agg #[.slice (some ⟨g, off, none⟩) q cc, .slice ha p hc], rfl, H_hR.out _ ?_, ?_⟩ <;> (repeat' (first | (with_reducible exact Vg.Grows.refl _) | (with_reducible assumption) | (with_reducible refine Vg.Grows.alloc ?_ _) | (with_reducible refine Vg.Grows.plus ?_ _ _) | (with_reducible refine Vg.Grows.drewN ?_ _) | (with_reducible refine Vg.Grows.drew ?_) | (with_reducible refine Vg.Grows.setCell ?_ ?_ _) | (with_reducible refine Vg.Grows.put ?_ ?_ _) | omega | (simp; omega) | (simp; done)))
      | false =>
        rw [if_neg (by simp), if_neg (by simp)]
        rw [if_neg (by simp)] at hfi
        obtain ⟨i0, hi', hz0, hz1, hz2⟩ := info_parts Try.info_hold
        have H_hfi := Lib.hid hfi; clear hfi
        go_enter Try.func31, Try.ntmps31
        go_wp2_with (first | (go_at_call 36; refine (ref12_holder' (H := H) i H_hp.out (H_h2.out.1.grows (by (repeat' (first | (with_reducible exact Vg.Grows.refl _) | (with_reducible assumption) | (with_reducible refine Vg.Grows.alloc ?_ _) | (with_reducible refine Vg.Grows.plus ?_ _ _) | (with_reducible refine Vg.Grows.drewN ?_ _) | (with_reducible refine Vg.Grows.drew ?_) | (with_reducible refine Vg.Grows.setCell ?_ ?_ _) | (with_reducible refine Vg.Grows.put ?_ ?_ _) | omega | (simp; omega) | (simp; done)))))).mono ?_; rintro e w1 ⟨rfl, x1, n1, rfl⟩; rw [H_hfi.out]) | (at_builtin; (refine Vg.wpList_appR (W0 := _) ((Vg.Grows.refl _).alloc _) rfl (.tmp 45) (.tmp 47) 55 rfl _ (Nat.le_refl _) (by (try simp only [World.size_alloc, Vg.plus_size, Vg.put_size, World.size_setCell, World.size_drew]) <;> omega) 163 i0 (.agg #[.int .i64 0, .int .i64 0]) 2 16 Try.underlying55 hi' hz0 hz1 hz2 rfl (by decide) _ _ _ rfl (Vg.owns_made0 (by (try simp only [World.size_alloc, Vg.plus_size, Vg.put_size, World.size_setCell, World.size_drew]) <;> omega)) 0 _ _ _ (Vg.pcells H) rfl (H_h2.out.1.grows (by (repeat' (first | (with_reducible exact Vg.Grows.refl _) | (with_reducible assumption) | (with_reducible refine Vg.Grows.alloc ?_ _) | (with_reducible refine Vg.Grows.plus ?_ _ _) | (with_reducible refine Vg.Grows.drewN ?_ _) | (with_reducible refine Vg.Grows.drew ?_) | (with_reducible refine Vg.Grows.setCell ?_ ?_ _) | (with_reducible refine Vg.Grows.put ?_ ?_ _) | omega | (simp; omega) | (simp; done))))) (by rw [Vg.pcells_length, H_hp.out]) (Vg.pcells_ones H) (by unfold maxLen; omega) (by omega) ?_); intro v' y' m' hown' hsz'; (try simp only [Vg.plus_plus] at hown'); have HO := Lib.hid hown'; clear hown' hsz') | (at_builtin; refine Vg.wpList_app ((Vg.Grows.plus (Vg.Grows.refl _) _ _).alloc _) rfl (.tmp 48) (.tmp 52) 55 rfl _ (by simp [go_sem, Vg.sz] <;> omega) (by simp [go_sem, Vg.sz] <;> omega) 163 i0 (.agg #[.int .i64 0, .int .i64 0]) 2 16 Try.underlying55 hi' hz0 hz1 hz2 rfl (by decide) _ _ _ rfl (HO.out.alloc _) _ 1 1 [.int .i64 i, .int .i64 task] rfl rfl (Vg.two_new (by (try simp only [World.size_alloc, Vg.plus_size, Vg.put_size, World.size_setCell, World.size_drew]) <;> omega)) (by simp [Value.oneCell']) (by unfold maxLen; omega) (by omega) ?_; intro v2 y2 m2 hown2 hsz2; obtain ⟨a2, c2, rfl⟩ := Vg.owns_shape hown2; have HO2 := Lib.hid hown2; clear hown2 hsz2))
        go_returns
        refine ⟨.agg #[.slice (some ⟨g, off, none⟩) q cc, .slice a2 (p + 1) c2], rfl, ⟨some ⟨g, off, none⟩, cc, a2, c2, H ++ [((i : Int), task)], ?_, ?_, ?_, H_h3.out.lock hi (by rw [H_hxi.out]) c task, ?_⟩, by (repeat' (first | (with_reducible exact Vg.Grows.refl _) | (with_reducible assumption) | (with_reducible refine Vg.Grows.alloc ?_ _) | (with_reducible refine Vg.Grows.plus ?_ _ _) | (with_reducible refine Vg.Grows.drewN ?_ _) | (with_reducible refine Vg.Grows.drew ?_) | (with_reducible refine Vg.Grows.setCell ?_ ?_ _) | (with_reducible refine Vg.Grows.put ?_ ?_ _) | omega | (simp; omega) | (simp; done)))⟩
        · simp only [List.length_append, List.length_set, List.length_cons, List.length_nil, Nat.zero_add, H_hp.out, H_hq.out]
        · have hcs : Vg.Tb.cs (M.set i ⟨c, true, task⟩) = Vg.Tb.cs M := Vg.Tb.cs_set hi (by rw [H_hxi.out])
          rw [hcs, List.length_set]
          exact H_h1.out.grows (by (repeat' (first | (with_reducible exact Vg.Grows.refl _) | (with_reducible assumption) | (with_reducible refine Vg.Grows.alloc ?_ _) | (with_reducible refine Vg.Grows.plus ?_ _ _) | (with_reducible refine Vg.Grows.drewN ?_ _) | (with_reducible refine Vg.Grows.drew ?_) | (with_reducible refine Vg.Grows.setCell ?_ ?_ _) | (with_reducible refine Vg.Grows.put ?_ ?_ _) | omega | (simp; omega) | (simp; done))))
        · have h5 := Vg.Reads.of_owns HO2.out
          simp only [List.nil_append, Nat.zero_add] at h5
          rw [Vg.pcells_append]
          have e1 : (H ++ [((i : Int), task)]).length = p + 1 := by simp [H_hp.out]
          rw [e1]
          exact Vg.ReadsP.of_new (h5.base (by simp [go_sem]) (by simp [go_sem])) (fun k hk => hS k (by simp [go_sem] at hk; omega))
        · show (H ++ [((i : Int), task)]).length ≤ n + 1
          rw [List.length_append, H_hp.out]
          exact Nat.succ_le_succ hpn2
end
end Go.Proofs.Ytiinhofmhoplfaa
