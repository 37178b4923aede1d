/- StatsParts: plain law and walk (lists of jobs up to a bulk). -/
import Derived.Test.YtlgkcpgmnpoanaaStatsW
set_option linter.unusedSimpArgs false
set_option linter.unusedVariables false
set_option maxHeartbeats 2000000
set_option maxRecDepth 20000
namespace Vg
open Go Go.RowKit
theorem ofGo_append : ∀ (l m : List Jb) (x : St), ofGo x (l ++ m) = if (ofGo x l).2 = 0 then ofGo (ofGo x l).1 m else (St.zero, (ofGo x l).2)
  | [], m, x => by simp [ofGo]
  | y :: l, m, x => by
    rw [List.cons_append]
    by_cases h : (x.add y).2 = 0
    · have e1 : ofGo x (y :: l) = ofGo (x.add y).1 l := if_pos h
      have e2 : ofGo x (y :: (l ++ m)) = ofGo (x.add y).1 (l ++ m) := if_pos h
      rw [e1, e2, ofGo_append l m]
    · have e1 : ofGo x (y :: l) = (St.zero, (x.add y).2) := if_neg h
      have e2 : ofGo x (y :: (l ++ m)) = (St.zero, (x.add y).2) := if_neg h
      rw [e1, e2, if_neg h]
theorem St.jo_assoc (a u v : St) : (a.jo u).jo v = a.jo (u.jo v) := by
  unfold St.jo
  simp only [St.mk.injEq]
  omega
theorem St.jo_zero {a : St} (h : a.OK) : a.jo ⟨0, 0, 0, 0, 0⟩ = a := by
  have := h.bd
  obtain ⟨j, m, w, s, l⟩ := a
  simp only [] at this
  unfold St.jo
  simp only [St.mk.injEq]
  omega
theorem ofGo_from : ∀ {m : List Jb} {a u t : St}, a.OK → u.OK → (a.jo u).OK → ofGo (a.jo u) m = (t, 0) → ∃ v, ofGo u m = (v, 0) ∧ v.OK ∧ t = a.jo v ∧ a.fit v = true
  | [], a, u, t, ha, hu, hau, h => ⟨u, rfl, hu, (congrArg Prod.fst h).symm, (St.jo_ok ha hu).1 hau⟩
  | y :: m, a, u, t, ha, hu, hau, h => by
    unfold ofGo at h
    by_cases h0 : ((a.jo u).add y).2 = 0
    · rw [if_pos h0] at h
      obtain ⟨_, h2, h3, h4⟩ := St.add_ok h0
      have hy := Jb.st_ok h2
      rw [h4] at h
      have hj := (St.jo_ok hau hy).2 h3
      rw [St.jo_assoc] at h hj
      have hab := ha.bd
      have huf : u.fit y.st = true := by
        unfold St.fit at h3 ⊢
        simp only [Bool.and_eq_true, decide_eq_true_eq] at h3 ⊢
        have e1 : (a.jo u).j = a.j + u.j := rfl
        have e2 : (a.jo u).s = a.s + u.s := rfl
        rw [e1, e2] at h3
        omega
      have huy := (St.jo_ok hu hy).2 huf
      obtain ⟨v, h5, h6⟩ := ofGo_from ha huy hj h
      refine ⟨v, ?_, h6⟩
      unfold ofGo
      have hadd : u.add y = (u.jo y.st, 0) := by unfold St.add; rw [if_pos ⟨hu, h2⟩, if_pos huf]
      rw [hadd]
      exact h5
    · rw [if_neg h0] at h
      exact absurd (congrArg Prod.snd h) h0
theorem parts {l m : List Jb} {al : St} (h : ofGo ⟨0, 0, 0, 0, 0⟩ (l ++ m) = (al, 0)) : ∃ a b, ofGo ⟨0, 0, 0, 0, 0⟩ l = (a, 0) ∧ ofGo ⟨0, 0, 0, 0, 0⟩ m = (b, 0) ∧ al = a.jo b ∧ a.join b = (al, 0) := by
  rw [ofGo_append] at h
  by_cases h0 : (ofGo ⟨0, 0, 0, 0, 0⟩ l).2 = 0
  · rw [if_pos h0] at h
    obtain ⟨⟨a, z⟩, ha⟩ : ∃ p, ofGo ⟨0, 0, 0, 0, 0⟩ l = p := ⟨_, rfl⟩
    rw [ha] at h h0
    have h0 : z = 0 := h0
    subst h0
    have hao := (ofGo_ok ha St.ok0).1
    have h : ofGo a m = (al, 0) := h
    rw [← St.jo_zero hao] at h
    obtain ⟨b, h1, h2, h3, h4⟩ := ofGo_from hao St.ok0 (by rw [St.jo_zero hao]; exact hao) h
    refine ⟨a, b, ha, h1, h3, ?_⟩
    unfold St.join
    rw [if_pos ⟨hao, h2⟩, if_pos h4, h3]
  · rw [if_neg h0] at h
    exact absurd (congrArg Prod.snd h) h0
section
variable {P : Program} {W0 w : World} {ops : Array Oper} {rest : List Oper} {o : Oper} {a : Act} {Q : Exit → Act → World → Prop}
theorem wpList_appJ (hg : Grows W0 w) (hgd : o.guard = none) (s x : Operand) (t : TypeId)
    (ho : o.op = .call { callee := .builtin .append, args := #[s, x], argTypes := #[t, t] })
    (B : Nat) (hB : W0.heap.size ≤ B) (hBw : B ≤ w.heap.size) (e : TypeId) (i : TypeInfo) (z : Value) (bytes : Nat) (ht : P.underlying t = some (.slice e)) (hi : P.info? e = some i) (hz : i.zero = some z)
    (hsize : i.size = 5) (hby : i.bytes = bytes) (hzs : z.cells.size = 5)
    (v : Value) (n : Nat) (xs : List Value) (hs : a.eval s = v) (hown : w.ownsRow B e 5 v n xs)
    (L : List Jb) (sa : Option Addr) (m c : Nat) (hx : a.eval x = .slice sa m c) (hr : JR w sa m c L) (hnil : sa = none → c = 0)
    (h63 : n + m ≤ maxLen) (hbytes : (n + m) * bytes ≤ 140737488355328)
    (h : ∀ v' y k, (plus W0 y k).ownsRow B e 5 v' (n + m) (xs ++ jcells L) → B ≤ (plus W0 y k).heap.size → wpList P ops Q rest (a.put o.dst v') (plus W0 y k)) : wpList P ops Q (o :: rest) a w := by
  obtain ⟨hm, hmc, hcm, hj⟩ := hr
  cases sa with
  | none =>
    have hL : L = [] := by
      cases L with
      | nil => rfl
      | cons y l => obtain ⟨g, off, e, _⟩ := hj 0 (by simp); cases e
    subst hL
    have hm0 : m = 0 := hm
    have hc0 := hnil rfl
    subst hm0 hc0
    refine wpList_append_own_none hgd s x t ho B e i 5 ht hi v n xs hs hown hx ?_
    have := hg
    obtain ⟨y, k, rfl⟩ := this
    have := h v y k (by simpa [jcells] using hown) hBw
    exact this
  | some ad =>
    refine wpList_app hg hgd s x t ho B hB hBw e i z 5 bytes ht hi hz hsize hby hzs (by decide) v n xs hs hown ad m c (jcells L) hx (by rw [jcells_length, hm]) (fun j u hu => ?_) (jcells_one L) h63 hbytes h
    obtain ⟨hlt, _⟩ := List.getElem?_eq_some_iff.1 hu
    rw [jcells_length] at hlt
    obtain ⟨k, hk, q, hq, rfl⟩ : ∃ k, ∃ _ : k < L.length, ∃ q, q < 5 ∧ j = k * 5 + q := ⟨j / 5, by omega, j % 5, by omega, by omega⟩
    obtain ⟨g, off, e0, hgl, q0, q1, q2, q3, q4⟩ := hj k hk
    cases e0
    obtain ⟨g0, g1, g2, g3, g4⟩ := jcells_get L k hk
    rw [Addr.add_lit, ← Nat.add_assoc]
    rcases (by omega : q = 0 ∨ q = 1 ∨ q = 2 ∨ q = 3 ∨ q = 4) with rfl | rfl | rfl | rfl | rfl
    · rw [Nat.add_zero] at hu ⊢
      rw [← hu, g0]; exact q0
    · rw [← hu, g1]; exact q1
    · rw [← hu, g2]; exact q2
    · rw [← hu, g3]; exact q3
    · rw [← hu, g4]; exact q4
end
end Vg
namespace Go.Proofs.Ytlgkcpgmnpoanaa
open Go.ChangeShapes Go.WideShapes Go.ChangeAt Go.RowKit
theorem Try.info_job : (Try.prog.info? 96).map (fun i => (i.zero, i.size, i.bytes)) = some (some (.agg #[.int .i64 0, .int .i64 0, .int .i64 0, .int .i64 0, .int .i64 0]), 5, 40) := by kernel_rfl
theorem StatsParts_walk (sa : Option Addr) (n1 c1 : Nat) (l : List Vg.Jb) (sb : Option Addr) (n2 c2 : Nat) (m : List Vg.Jb) (w : World) (hr : Vg.JR w sa n1 c1 l) (hq : Vg.JR w sb n2 c2 m) (hna : sa = none → c1 = 0) (hnb : sb = none → c2 = 0) (hb1 : n1 ≤ 1048576) (hb2 : n2 ≤ 1048576) :
    Calls Try.prog 13 #[.slice sa n1 c1, .slice sb n2 c2] w fun e w' => e = .returned (.bool true) ∧ Vg.Grows w w' := by
  obtain ⟨i0, hi, hz0, hz1, hz2⟩ := info_parts Try.info_job
  obtain ⟨⟨al, w3⟩, h3⟩ : ∃ p, Vg.ofGo ⟨0, 0, 0, 0, 0⟩ (l ++ m) = p := ⟨_, rfl⟩
  obtain ⟨⟨a, w1⟩, h1⟩ : ∃ p, Vg.ofGo ⟨0, 0, 0, 0, 0⟩ l = p := ⟨_, rfl⟩
  obtain ⟨⟨b, w2⟩, h2⟩ : ∃ p, Vg.ofGo ⟨0, 0, 0, 0, 0⟩ m = p := ⟨_, rfl⟩
  obtain ⟨⟨x, w4⟩, h4⟩ : ∃ p, a.join b = p := ⟨_, rfl⟩
  obtain ⟨⟨mn, mo⟩, h5⟩ : ∃ p, al.mean = p := ⟨_, rfl⟩
  have hn1 := hr.1
  have hn2 := hq.1
  have hc1 : c1 ≤ 9223372036854775807 := hr.2.2.1
  have hc2 : c2 ≤ 9223372036854775807 := hq.2.2.1
  have hz3 : w3 = 0 → w1 = 0 ∧ w2 = 0 ∧ w4 = 0 ∧ x = al ∧ al.j = n1 + n2 ∧ ((mo = 3 ∧ al.j = 0) ∨ (mo = 0 ∧ 0 ≤ mn ∧ mn ≤ al.w ∧ al.j ≠ 0)) := by
    rintro rfl
    obtain ⟨a', b', e1, e2, e3, e4⟩ := Vg.parts h3
    rw [h1] at e1
    rw [h2] at e2
    simp only [Prod.mk.injEq] at e1 e2
    obtain ⟨rfl, rfl⟩ := e1
    obtain ⟨rfl, rfl⟩ := e2
    rw [h4] at e4
    simp only [Prod.mk.injEq] at e4
    obtain ⟨rfl, rfl⟩ := e4
    obtain ⟨i1, _, _, _, i5, _, _, _, i9⟩ := Vg.ofGo_ok h3 Vg.St.ok0
    have i9 := i9 (by show (0 : Int) ≤ 0 * 0; omega)
    have hb := i1.bd
    refine ⟨rfl, rfl, rfl, rfl, ?_, ?_⟩
    · rw [i5, List.length_append, ← hn1, ← hn2]
      show (0 : Int) + _ = _
      simp
    · unfold Vg.St.mean at h5
      rw [if_pos i1] at h5
      by_cases hj : x.j = 0
      · rw [if_pos hj] at h5
        simp only [Prod.mk.injEq] at h5
        exact .inl ⟨h5.2.symm, hj⟩
      · rw [if_neg hj] at h5
        simp only [Prod.mk.injEq] at h5
        obtain ⟨rfl, rfl⟩ := h5
        refine .inr ⟨rfl, Int.ediv_nonneg (by omega) (by omega), ?_, hj⟩
        exact Int.ediv_le_of_le_mul (by omega) (by rw [Int.mul_comm]; exact i9)
  by_cases hw3 : w3 = 0
  · obtain ⟨rfl, rfl, rfl, rfl, hj, hmean⟩ := hz3 hw3
    subst hw3
    clear hz3
    have hsum : IntKind.i64.wrap ((n1 : Int) + n2) = n1 + n2 := by rw [IntWalk.i64_in _ (by omega)]
    have hjb : (x.j == (n1 : Int) + n2) = true := by simp [hj]
    have hjn : (x.j != (n1 : Int) + n2) = false := by simp [hj]
    rcases hmean with ⟨rfl, hj0⟩ | ⟨rfl, q0, q1, hj0⟩
    · have hj0b : (x.j == 0) = true := by simp [hj0]
      have H_hr := Lib.hid hr; clear hr; have H_hq := Lib.hid hq; clear hq; have H_h1 := Lib.hid h1; clear h1; have H_h2 := Lib.hid h2; clear h2; have H_h3 := Lib.hid h3; clear h3; have H_h4 := Lib.hid h4; clear h4; have H_h5 := Lib.hid h5; clear h5; have H_hn1 := Lib.hid hn1; clear hn1; have H_hn2 := Lib.hid hn2; clear hn2; have H_hj := Lib.hid hj; clear hj; have H_hj0 := Lib.hid hj0; clear hj0; have H_hna := Lib.hid hna; clear hna; have H_hnb := Lib.hid hnb; clear hnb
      go_enter Try.func13, Try.ntmps13
      go_wp2_with (first | (go_at_call 56; (with_reducible refine (lives20 _).mono ?_); rintro e w1 ⟨rfl, xe, ne, rfl⟩) | (go_at_call 61; (with_reducible refine (stats_ofl (L := l) (H_hr.out.grows (by (repeat' (first | (with_reducible exact Vg.Grows.refl _) | (with_reducible assumption) | (with_reducible refine Vg.Grows.alloc ?_ _) | (with_reducible refine Vg.Grows.plus ?_ _ _) | (with_reducible refine Vg.Grows.drewN ?_ _) | (with_reducible refine Vg.Grows.drew ?_) | (with_reducible refine Vg.Grows.setCell ?_ ?_ _) | (with_reducible refine Vg.Grows.put ?_ ?_ _) | omega | (simp; omega) | (simp; done)))))).mono ?_); rintro e w1 ⟨rfl, xa, na, rfl⟩; rw [H_h1.out]) | (go_at_call 61; (with_reducible refine (stats_ofl (L := m) (H_hq.out.grows (by (repeat' (first | (with_reducible exact Vg.Grows.refl _) | (with_reducible assumption) | (with_reducible refine Vg.Grows.alloc ?_ _) | (with_reducible refine Vg.Grows.plus ?_ _ _) | (with_reducible refine Vg.Grows.drewN ?_ _) | (with_reducible refine Vg.Grows.drew ?_) | (with_reducible refine Vg.Grows.setCell ?_ ?_ _) | (with_reducible refine Vg.Grows.put ?_ ?_ _) | omega | (simp; omega) | (simp; done)))))).mono ?_); rintro e w1 ⟨rfl, xb, nb, rfl⟩; rw [H_h2.out]) | (at_builtin; (refine Vg.wpList_appJ (W0 := _) ((Vg.Grows.refl _).alloc _) rfl (.tmp 28) (.tmp 29) 102 rfl _ (Nat.le_refl _) (by first | rfl | ((try simp only [World.size_alloc, Vg.plus_size, Vg.put_size, World.size_setCell, World.size_drew, World.heap_drewN]) <;> omega)) 96 i0 (.agg #[.int .i64 0, .int .i64 0, .int .i64 0, .int .i64 0, .int .i64 0]) 40 Try.underlying102 hi hz0 hz1 hz2 rfl _ 0 [] rfl (Vg.owns_made0 (by first | rfl | ((try simp only [World.size_alloc, Vg.plus_size, Vg.put_size, World.size_setCell, World.size_drew, World.heap_drewN]) <;> omega))) l sa n1 c1 rfl (H_hr.out.grows (by (repeat' (first | (with_reducible exact Vg.Grows.refl _) | (with_reducible assumption) | (with_reducible refine Vg.Grows.alloc ?_ _) | (with_reducible refine Vg.Grows.plus ?_ _ _) | (with_reducible refine Vg.Grows.drewN ?_ _) | (with_reducible refine Vg.Grows.drew ?_) | (with_reducible refine Vg.Grows.setCell ?_ ?_ _) | (with_reducible refine Vg.Grows.put ?_ ?_ _) | omega | (simp; omega) | (simp; done))))) H_hna.out (by unfold maxLen; omega) (by omega) ?_; intro v1 y1 m1 hown1 hsz1; (try simp only [Vg.plus_plus] at hown1); have HO1 := Lib.hid hown1; clear hown1)) | (at_builtin; (refine Vg.wpList_appJ (W0 := _) ((Vg.Grows.refl _).plus _ _) rfl (.tmp 30) (.tmp 31) 102 rfl _ (Nat.le_refl _) (by (try simp only [World.size_alloc, Vg.plus_size, Vg.put_size, World.size_setCell, World.size_drew]) <;> omega) 96 i0 (.agg #[.int .i64 0, .int .i64 0, .int .i64 0, .int .i64 0, .int .i64 0]) 40 Try.underlying102 hi hz0 hz1 hz2 rfl _ _ _ rfl HO1.out m sb n2 c2 rfl (H_hq.out.grows (by (repeat' (first | (with_reducible exact Vg.Grows.refl _) | (with_reducible assumption) | (with_reducible refine Vg.Grows.alloc ?_ _) | (with_reducible refine Vg.Grows.plus ?_ _ _) | (with_reducible refine Vg.Grows.drewN ?_ _) | (with_reducible refine Vg.Grows.drew ?_) | (with_reducible refine Vg.Grows.setCell ?_ ?_ _) | (with_reducible refine Vg.Grows.put ?_ ?_ _) | omega | (simp; omega) | (simp; done))))) H_hnb.out (by unfold maxLen; omega) (by omega) ?_; intro v2 y2 m2 hown2 hsz2; (try simp only [Vg.plus_plus] at hown2); obtain ⟨a3, c3, rfl⟩ := Vg.owns_shape hown2; have hj3 := Vg.JR.of_reads (L := l ++ m) (by have := Vg.Reads.of_owns hown2; rw [List.nil_append, ← Vg.jcells_append] at this; exact this) (by rw [List.length_append, Nat.zero_add, ← H_hn1.out, ← H_hn2.out]); rw [Nat.zero_add] at hj3; have HJ3 := Lib.hid hj3; clear hown2 hj3)) | (go_at_call 61; (with_reducible refine (stats_ofl (L := l ++ m) (HJ3.out.grows (by (repeat' (first | (with_reducible exact Vg.Grows.refl _) | (with_reducible assumption) | (with_reducible refine Vg.Grows.alloc ?_ _) | (with_reducible refine Vg.Grows.plus ?_ _ _) | (with_reducible refine Vg.Grows.drewN ?_ _) | (with_reducible refine Vg.Grows.drew ?_) | (with_reducible refine Vg.Grows.setCell ?_ ?_ _) | (with_reducible refine Vg.Grows.put ?_ ?_ _) | omega | (simp; omega) | (simp; done)))))).mono ?_); rintro e w1 ⟨rfl, xf, nf, rfl⟩; rw [H_h3.out]) | (go_at_call 59; (with_reducible refine (stats_join a b _).mono ?_); rintro e w1 ⟨rfl, xg, ng, rfl⟩; rw [H_h4.out]) | (go_at_call 54; (with_reducible refine (stats_mean x _).mono ?_); rintro e w1 ⟨rfl, xh, nh, rfl⟩; rw [H_h5.out]))
      go_ret
      exact ⟨rfl, by (repeat' (first | (with_reducible exact Vg.Grows.refl _) | (with_reducible assumption) | (with_reducible refine Vg.Grows.alloc ?_ _) | (with_reducible refine Vg.Grows.plus ?_ _ _) | (with_reducible refine Vg.Grows.drewN ?_ _) | (with_reducible refine Vg.Grows.drew ?_) | (with_reducible refine Vg.Grows.setCell ?_ ?_ _) | (with_reducible refine Vg.Grows.put ?_ ?_ _) | omega | (simp; omega) | (simp; done)))⟩
    · have hj0b : (x.j == 0) = false := by simp [hj0]
      have H_hr := Lib.hid hr; clear hr; have H_hq := Lib.hid hq; clear hq; have H_h1 := Lib.hid h1; clear h1; have H_h2 := Lib.hid h2; clear h2; have H_h3 := Lib.hid h3; clear h3; have H_h4 := Lib.hid h4; clear h4; have H_h5 := Lib.hid h5; clear h5; have H_hn1 := Lib.hid hn1; clear hn1; have H_hn2 := Lib.hid hn2; clear hn2; have H_hj := Lib.hid hj; clear hj; have H_hj0 := Lib.hid hj0; clear hj0; have H_hna := Lib.hid hna; clear hna; have H_hnb := Lib.hid hnb; clear hnb
      go_enter Try.func13, Try.ntmps13
      go_wp2_with (first | (go_at_call 56; (with_reducible refine (lives20 _).mono ?_); rintro e w1 ⟨rfl, xe, ne, rfl⟩) | (go_at_call 61; (with_reducible refine (stats_ofl (L := l) (H_hr.out.grows (by (repeat' (first | (with_reducible exact Vg.Grows.refl _) | (with_reducible assumption) | (with_reducible refine Vg.Grows.alloc ?_ _) | (with_reducible refine Vg.Grows.plus ?_ _ _) | (with_reducible refine Vg.Grows.drewN ?_ _) | (with_reducible refine Vg.Grows.drew ?_) | (with_reducible refine Vg.Grows.setCell ?_ ?_ _) | (with_reducible refine Vg.Grows.put ?_ ?_ _) | omega | (simp; omega) | (simp; done)))))).mono ?_); rintro e w1 ⟨rfl, xa, na, rfl⟩; rw [H_h1.out]) | (go_at_call 61; (with_reducible refine (stats_ofl (L := m) (H_hq.out.grows (by (repeat' (first | (with_reducible exact Vg.Grows.refl _) | (with_reducible assumption) | (with_reducible refine Vg.Grows.alloc ?_ _) | (with_reducible refine Vg.Grows.plus ?_ _ _) | (with_reducible refine Vg.Grows.drewN ?_ _) | (with_reducible refine Vg.Grows.drew ?_) | (with_reducible refine Vg.Grows.setCell ?_ ?_ _) | (with_reducible refine Vg.Grows.put ?_ ?_ _) | omega | (simp; omega) | (simp; done)))))).mono ?_); rintro e w1 ⟨rfl, xb, nb, rfl⟩; rw [H_h2.out]) | (at_builtin; (refine Vg.wpList_appJ (W0 := _) ((Vg.Grows.refl _).alloc _) rfl (.tmp 28) (.tmp 29) 102 rfl _ (Nat.le_refl _) (by first | rfl | ((try simp only [World.size_alloc, Vg.plus_size, Vg.put_size, World.size_setCell, World.size_drew, World.heap_drewN]) <;> omega)) 96 i0 (.agg #[.int .i64 0, .int .i64 0, .int .i64 0, .int .i64 0, .int .i64 0]) 40 Try.underlying102 hi hz0 hz1 hz2 rfl _ 0 [] rfl (Vg.owns_made0 (by first | rfl | ((try simp only [World.size_alloc, Vg.plus_size, Vg.put_size, World.size_setCell, World.size_drew, World.heap_drewN]) <;> omega))) l sa n1 c1 rfl (H_hr.out.grows (by (repeat' (first | (with_reducible exact Vg.Grows.refl _) | (with_reducible assumption) | (with_reducible refine Vg.Grows.alloc ?_ _) | (with_reducible refine Vg.Grows.plus ?_ _ _) | (with_reducible refine Vg.Grows.drewN ?_ _) | (with_reducible refine Vg.Grows.drew ?_) | (with_reducible refine Vg.Grows.setCell ?_ ?_ _) | (with_reducible refine Vg.Grows.put ?_ ?_ _) | omega | (simp; omega) | (simp; done))))) H_hna.out (by unfold maxLen; omega) (by omega) ?_; intro v1 y1 m1 hown1 hsz1; (try simp only [Vg.plus_plus] at hown1); have HO1 := Lib.hid hown1; clear hown1)) | (at_builtin; (refine Vg.wpList_appJ (W0 := _) ((Vg.Grows.refl _).plus _ _) rfl (.tmp 30) (.tmp 31) 102 rfl _ (Nat.le_refl _) (by (try simp only [World.size_alloc, Vg.plus_size, Vg.put_size, World.size_setCell, World.size_drew]) <;> omega) 96 i0 (.agg #[.int .i64 0, .int .i64 0, .int .i64 0, .int .i64 0, .int .i64 0]) 40 Try.underlying102 hi hz0 hz1 hz2 rfl _ _ _ rfl HO1.out m sb n2 c2 rfl (H_hq.out.grows (by (repeat' (first | (with_reducible exact Vg.Grows.refl _) | (with_reducible assumption) | (with_reducible refine Vg.Grows.alloc ?_ _) | (with_reducible refine Vg.Grows.plus ?_ _ _) | (with_reducible refine Vg.Grows.drewN ?_ _) | (with_reducible refine Vg.Grows.drew ?_) | (with_reducible refine Vg.Grows.setCell ?_ ?_ _) | (with_reducible refine Vg.Grows.put ?_ ?_ _) | omega | (simp; omega) | (simp; done))))) H_hnb.out (by unfold maxLen; omega) (by omega) ?_; intro v2 y2 m2 hown2 hsz2; (try simp only [Vg.plus_plus] at hown2); obtain ⟨a3, c3, rfl⟩ := Vg.owns_shape hown2; have hj3 := Vg.JR.of_reads (L := l ++ m) (by have := Vg.Reads.of_owns hown2; rw [List.nil_append, ← Vg.jcells_append] at this; exact this) (by rw [List.length_append, Nat.zero_add, ← H_hn1.out, ← H_hn2.out]); rw [Nat.zero_add] at hj3; have HJ3 := Lib.hid hj3; clear hown2 hj3)) | (go_at_call 61; (with_reducible refine (stats_ofl (L := l ++ m) (HJ3.out.grows (by (repeat' (first | (with_reducible exact Vg.Grows.refl _) | (with_reducible assumption) | (with_reducible refine Vg.Grows.alloc ?_ _) | (with_reducible refine Vg.Grows.plus ?_ _ _) | (with_reducible refine Vg.Grows.drewN ?_ _) | (with_reducible refine Vg.Grows.drew ?_) | (with_reducible refine Vg.Grows.setCell ?_ ?_ _) | (with_reducible refine Vg.Grows.put ?_ ?_ _) | omega | (simp; omega) | (simp; done)))))).mono ?_); rintro e w1 ⟨rfl, xf, nf, rfl⟩; rw [H_h3.out]) | (go_at_call 59; (with_reducible refine (stats_join a b _).mono ?_); rintro e w1 ⟨rfl, xg, ng, rfl⟩; rw [H_h4.out]) | (go_at_call 54; (with_reducible refine (stats_mean x _).mono ?_); rintro e w1 ⟨rfl, xh, nh, rfl⟩; rw [H_h5.out]))
      go_ret
      exact ⟨rfl, by (repeat' (first | (with_reducible exact Vg.Grows.refl _) | (with_reducible assumption) | (with_reducible refine Vg.Grows.alloc ?_ _) | (with_reducible refine Vg.Grows.plus ?_ _ _) | (with_reducible refine Vg.Grows.drewN ?_ _) | (with_reducible refine Vg.Grows.drew ?_) | (with_reducible refine Vg.Grows.setCell ?_ ?_ _) | (with_reducible refine Vg.Grows.put ?_ ?_ _) | omega | (simp; omega) | (simp; done)))⟩
  · have hw3b : (w3 == 0) = false := by simp [hw3]
    have hw3n : (w3 != 0) = true := by simp [hw3]
    clear hz3 hw3
    have H_hr := Lib.hid hr; clear hr; have H_hq := Lib.hid hq; clear hq; have H_h1 := Lib.hid h1; clear h1; have H_h2 := Lib.hid h2; clear h2; have H_h3 := Lib.hid h3; clear h3; have H_h4 := Lib.hid h4; clear h4; have H_h5 := Lib.hid h5; clear h5; have H_hn1 := Lib.hid hn1; clear hn1; have H_hn2 := Lib.hid hn2; clear hn2; have H_hna := Lib.hid hna; clear hna; have H_hnb := Lib.hid hnb; clear hnb
    go_enter Try.func13, Try.ntmps13
    go_wp2_with (first | (go_at_call 56; (with_reducible refine (lives20 _).mono ?_); rintro e w1 ⟨rfl, xe, ne, rfl⟩) | (go_at_call 61; (with_reducible refine (stats_ofl (L := l) (H_hr.out.grows (by (repeat' (first | (with_reducible exact Vg.Grows.refl _) | (with_reducible assumption) | (with_reducible refine Vg.Grows.alloc ?_ _) | (with_reducible refine Vg.Grows.plus ?_ _ _) | (with_reducible refine Vg.Grows.drewN ?_ _) | (with_reducible refine Vg.Grows.drew ?_) | (with_reducible refine Vg.Grows.setCell ?_ ?_ _) | (with_reducible refine Vg.Grows.put ?_ ?_ _) | omega | (simp; omega) | (simp; done)))))).mono ?_); rintro e w1 ⟨rfl, xa, na, rfl⟩; rw [H_h1.out]) | (go_at_call 61; (with_reducible refine (stats_ofl (L := m) (H_hq.out.grows (by (repeat' (first | (with_reducible exact Vg.Grows.refl _) | (with_reducible assumption) | (with_reducible refine Vg.Grows.alloc ?_ _) | (with_reducible refine Vg.Grows.plus ?_ _ _) | (with_reducible refine Vg.Grows.drewN ?_ _) | (with_reducible refine Vg.Grows.drew ?_) | (with_reducible refine Vg.Grows.setCell ?_ ?_ _) | (with_reducible refine Vg.Grows.put ?_ ?_ _) | omega | (simp; omega) | (simp; done)))))).mono ?_); rintro e w1 ⟨rfl, xb, nb, rfl⟩; rw [H_h2.out]) | (at_builtin; (refine Vg.wpList_appJ (W0 := _) ((Vg.Grows.refl _).alloc _) rfl (.tmp 28) (.tmp 29) 102 rfl _ (Nat.le_refl _) (by first | rfl | ((try simp only [World.size_alloc, Vg.plus_size, Vg.put_size, World.size_setCell, World.size_drew, World.heap_drewN]) <;> omega)) 96 i0 (.agg #[.int .i64 0, .int .i64 0, .int .i64 0, .int .i64 0, .int .i64 0]) 40 Try.underlying102 hi hz0 hz1 hz2 rfl _ 0 [] rfl (Vg.owns_made0 (by first | rfl | ((try simp only [World.size_alloc, Vg.plus_size, Vg.put_size, World.size_setCell, World.size_drew, World.heap_drewN]) <;> omega))) l sa n1 c1 rfl (H_hr.out.grows (by (repeat' (first | (with_reducible exact Vg.Grows.refl _) | (with_reducible assumption) | (with_reducible refine Vg.Grows.alloc ?_ _) | (with_reducible refine Vg.Grows.plus ?_ _ _) | (with_reducible refine Vg.Grows.drewN ?_ _) | (with_reducible refine Vg.Grows.drew ?_) | (with_reducible refine Vg.Grows.setCell ?_ ?_ _) | (with_reducible refine Vg.Grows.put ?_ ?_ _) | omega | (simp; omega) | (simp; done))))) H_hna.out (by unfold maxLen; omega) (by omega) ?_; intro v1 y1 m1 hown1 hsz1; (try simp only [Vg.plus_plus] at hown1); have HO1 := Lib.hid hown1; clear hown1)) | (at_builtin; (refine Vg.wpList_appJ (W0 := _) ((Vg.Grows.refl _).plus _ _) rfl (.tmp 30) (.tmp 31) 102 rfl _ (Nat.le_refl _) (by (try simp only [World.size_alloc, Vg.plus_size, Vg.put_size, World.size_setCell, World.size_drew]) <;> omega) 96 i0 (.agg #[.int .i64 0, .int .i64 0, .int .i64 0, .int .i64 0, .int .i64 0]) 40 Try.underlying102 hi hz0 hz1 hz2 rfl _ _ _ rfl HO1.out m sb n2 c2 rfl (H_hq.out.grows (by (repeat' (first | (with_reducible exact Vg.Grows.refl _) | (with_reducible assumption) | (with_reducible refine Vg.Grows.alloc ?_ _) | (with_reducible refine Vg.Grows.plus ?_ _ _) | (with_reducible refine Vg.Grows.drewN ?_ _) | (with_reducible refine Vg.Grows.drew ?_) | (with_reducible refine Vg.Grows.setCell ?_ ?_ _) | (with_reducible refine Vg.Grows.put ?_ ?_ _) | omega | (simp; omega) | (simp; done))))) H_hnb.out (by unfold maxLen; omega) (by omega) ?_; intro v2 y2 m2 hown2 hsz2; (try simp only [Vg.plus_plus] at hown2); obtain ⟨a3, c3, rfl⟩ := Vg.owns_shape hown2; have hj3 := Vg.JR.of_reads (L := l ++ m) (by have := Vg.Reads.of_owns hown2; rw [List.nil_append, ← Vg.jcells_append] at this; exact this) (by rw [List.length_append, Nat.zero_add, ← H_hn1.out, ← H_hn2.out]); rw [Nat.zero_add] at hj3; have HJ3 := Lib.hid hj3; clear hown2 hj3)) | (go_at_call 61; (with_reducible refine (stats_ofl (L := l ++ m) (HJ3.out.grows (by (repeat' (first | (with_reducible exact Vg.Grows.refl _) | (with_reducible assumption) | (with_reducible refine Vg.Grows.alloc ?_ _) | (with_reducible refine Vg.Grows.plus ?_ _ _) | (with_reducible refine Vg.Grows.drewN ?_ _) | (with_reducible refine Vg.Grows.drew ?_) | (with_reducible refine Vg.Grows.setCell ?_ ?_ _) | (with_reducible refine Vg.Grows.put ?_ ?_ _) | omega | (simp; omega) | (simp; done)))))).mono ?_); rintro e w1 ⟨rfl, xf, nf, rfl⟩; rw [H_h3.out]) | (go_at_call 59; (with_reducible refine (stats_join a b _).mono ?_); rintro e w1 ⟨rfl, xg, ng, rfl⟩; rw [H_h4.out]) | (go_at_call 54; (with_reducible refine (stats_mean x _).mono ?_); rintro e w1 ⟨rfl, xh, nh, rfl⟩; rw [H_h5.out]))
    all_goals go_ret
    all_goals exact ⟨rfl, by (repeat' (first | (with_reducible exact Vg.Grows.refl _) | (with_reducible assumption) | (with_reducible refine Vg.Grows.alloc ?_ _) | (with_reducible refine Vg.Grows.plus ?_ _ _) | (with_reducible refine Vg.Grows.drewN ?_ _) | (with_reducible refine Vg.Grows.drew ?_) | (with_reducible refine Vg.Grows.setCell ?_ ?_ _) | (with_reducible refine Vg.Grows.put ?_ ?_ _) | omega | (simp; omega) | (simp; done)))⟩
end Go.Proofs.Ytlgkcpgmnpoanaa
