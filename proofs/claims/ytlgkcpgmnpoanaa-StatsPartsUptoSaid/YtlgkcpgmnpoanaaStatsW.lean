/- StatsWorst: plain law and walk. -/
import Derived.Test.YtlgkcpgmnpoanaaStatsL
set_option linter.unusedSimpArgs false
set_option linter.unusedVariables false
set_option maxHeartbeats 2000000
set_option maxRecDepth 20000
namespace Vg
open Go
/-- How many are late. -/
def late : List Jb → Int
  | [] => 0
  | y :: l => (if y.l < y.d - y.a then 1 else 0) + late l
theorem late_append : ∀ l m : List Jb, late (l ++ m) = late l + late m
  | [], m => by simp [late]
  | x :: l, m => by simp only [List.cons_append, late, late_append l m]; omega
theorem late_bd : ∀ l : List Jb, 0 ≤ late l ∧ late l ≤ l.length
  | [] => by simp [late]
  | x :: l => by
    have := late_bd l
    simp only [late, List.length_cons]
    split <;> omega
theorem St.add_ok {x : St} {y : Jb} (h : (x.add y).2 = 0) : x.OK ∧ y.rb = true ∧ x.fit y.st = true ∧ (x.add y).1 = x.jo y.st := by
  unfold St.add at h ⊢
  split at h
  · rename_i h1
    split at h
    · rename_i h2
      rw [if_pos h1, if_pos h2]
      exact ⟨h1.1, h1.2, h2, rfl⟩
    · simp at h
  · simp at h
theorem ofGo_ok : ∀ {L : List Jb} {x s : St}, ofGo x L = (s, 0) → x.OK → s.OK ∧ x.w ≤ s.w ∧ x.l ≤ s.l ∧ s.m = x.m + late L ∧ s.j = x.j + L.length ∧ (∀ y ∈ L, y.rb = true ∧ y.d - y.a ≤ s.w ∧ y.r - y.a ≤ s.l) ∧ (s.w = x.w ∨ ∃ y ∈ L, y.d - y.a = s.w) ∧ (s.l = x.l ∨ ∃ y ∈ L, y.r - y.a = s.l) ∧ (x.s ≤ x.j * x.w → s.s ≤ s.j * s.w)
  | [], x, s, h, hx => by
    have e : x = s := congrArg Prod.fst h
    subst e
    simp [hx, late]
  | y :: L, x, s, h, hx => by
    unfold ofGo at h
    by_cases h0 : (x.add y).2 = 0
    · rw [if_pos h0] at h
      obtain ⟨h1, h2, h3, h4⟩ := St.add_ok h0
      rw [h4] at h
      have hjo := (St.jo_ok h1 (Jb.st_ok h2)).2 h3
      obtain ⟨i1, i2, i3, i4, i5, i6, i7, i8, i9⟩ := ofGo_ok h hjo
      have hb := Jb.rb_true.1 h2
      have hxb := hx.bd
      have e1 : (x.jo y.st).w = max x.w (y.d - y.a) := rfl
      have e2 : (x.jo y.st).l = max x.l (y.r - y.a) := rfl
      have e3 : (x.jo y.st).m = x.m + (if y.l < y.d - y.a then 1 else 0) := rfl
      have e4 : (x.jo y.st).j = x.j + 1 := rfl
      have e5 : (x.jo y.st).s = x.s + (y.d - y.a) := rfl
      rw [e1] at i2 i7
      rw [e2] at i3 i8
      rw [e3] at i4
      rw [e4] at i5
      rw [e1, e4, e5] at i9
      have I7 := Lib.hid i7
      have I8 := Lib.hid i8
      have I6 := Lib.hid i6
      clear i7 i8 i6 e1 e2 e3 e4 e5
      refine ⟨i1, by omega, by omega, by simp only [late]; omega, by simp only [List.length_cons, Int.natCast_add]; omega, fun z hz => ?_, ?_, ?_, fun hq => i9 ?_⟩
      · rcases List.mem_cons.1 hz with rfl | hz
        · exact ⟨h2, by omega, by omega⟩
        · exact I6.out z hz
      · rcases I7.out with h | ⟨z, hz, h⟩
        · by_cases hc : x.w ≤ y.d - y.a
          · exact .inr ⟨y, by simp, by omega⟩
          · exact .inl (by omega)
        · exact .inr ⟨z, by simp [hz], h⟩
      · rcases I8.out with h | ⟨z, hz, h⟩
        · by_cases hc : x.l ≤ y.r - y.a
          · exact .inr ⟨y, by simp, by omega⟩
          · exact .inl (by omega)
        · exact .inr ⟨z, by simp [hz], h⟩
      · have q1 : x.j * x.w ≤ x.j * max x.w (y.d - y.a) := Int.mul_le_mul_of_nonneg_left (by omega) (by omega)
        have q2 : (x.j + 1) * max x.w (y.d - y.a) = x.j * max x.w (y.d - y.a) + max x.w (y.d - y.a) := by rw [Int.add_mul, Int.one_mul]
        omega
    · rw [if_neg h0] at h
      exact absurd (congrArg Prod.snd h) h0
theorem ofGo_no : ∀ {L : List Jb} {x : St}, (ofGo x L).2 ≠ 0 → (ofGo x L).1 = ⟨0, 0, 0, 0, 0⟩
  | [], x, h => absurd rfl h
  | y :: L, x, h => by
    unfold ofGo at h ⊢
    by_cases h0 : (x.add y).2 = 0
    · rw [if_pos h0] at h ⊢
      exact ofGo_no h
    · rw [if_neg h0]; rfl
theorem St.ok0 : St.OK ⟨0, 0, 0, 0, 0⟩ := by
  refine ⟨rfl, rfl, rfl, rfl, rfl, Int.le_refl _, Int.le_refl _, fun _ => ⟨rfl, rfl, rfl, rfl⟩⟩
/-- Some of the first k are such, or there is none at all. -/
def someB (f : Jb → Int) (v : Int) (L : List Jb) (k : Nat) : Bool := L.isEmpty || (L.take k).any fun y => f y == v
theorem someB_succ {f : Jb → Int} {v : Int} {L : List Jb} {k : Nat} (hk : k < L.length) : someB f v L (k + 1) = (someB f v L k || (f L[k] == v)) := by
  unfold someB
  rw [List.take_succ_eq_append_getElem hk, List.any_append]
  simp [Bool.or_assoc]
theorem someB_all {f : Jb → Int} {v x : Int} {L : List Jb} (h0 : ∀ y ∈ L, 0 ≤ f y ∧ f y ≤ v) (h : v = 0 ∨ ∃ y ∈ L, f y = v) : someB f v L L.length = true := by
  unfold someB
  rw [List.take_length]
  cases L with
  | nil => rfl
  | cons y l =>
    simp only [List.isEmpty_cons, Bool.false_or]
    rw [List.any_eq_true]
    rcases h with h | ⟨z, hz, h⟩
    · have := h0 y (by simp)
      exact ⟨y, by simp, by simp; omega⟩
    · exact ⟨z, hz, by simp [h]⟩
end Vg
namespace Go.Proofs.Ytlgkcpgmnpoanaa
open Go.ChangeShapes Go.WideShapes Go.ChangeAt Go.RowKit
theorem StatsWorst_walk (sa : Option Addr) (len sc : Nat) (L : List Vg.Jb) (w : World) (hr : Vg.JR w sa len sc L) : Calls Try.prog 14 #[.slice sa len sc] w fun e w' => e = .returned (.bool true) ∧ Vg.Grows w w' := by
  obtain ⟨hnL, hLc, hcm, _⟩ := id hr
  have hcm : sc ≤ 9223372036854775807 := hcm
  subst hnL
  obtain ⟨⟨s, no⟩, hu⟩ : ∃ p, Vg.ofGo ⟨0, 0, 0, 0, 0⟩ L = p := ⟨_, rfl⟩
  by_cases hno : no = 0
  · subst hno
    obtain ⟨i1, i2, i3, i4, i5, i6, i7, i8, _⟩ := Vg.ofGo_ok hu Vg.St.ok0
    have hsb := i1.bd
    have hW := Vg.someB_all (f := fun y => y.d - y.a) (v := s.w) (x := 0) (fun y hy => ⟨by have := Vg.Jb.rb_true.1 (i6 y hy).1; show 0 ≤ y.d - y.a; omega, (i6 y hy).2.1⟩) i7
    have hG := Vg.someB_all (f := fun y => y.r - y.a) (v := s.l) (x := 0) (fun y hy => ⟨by have := Vg.Jb.rb_true.1 (i6 y hy).1; show 0 ≤ y.r - y.a; omega, (i6 y hy).2.2⟩) i8
    have hlate : s.m = Vg.late L := by have : s.m = 0 + Vg.late L := i4; omega
    have hempty : ((L.length : Int) == 0) = L.isEmpty := by
      clear hu i4 i5 i6 i7 i8 hW hG hlate hr
      cases L with
      | nil => rfl
      | cons y l => simp; omega
    have hempty2 : (L.length == 0) = L.isEmpty := by clear hu i4 i5 i6 i7 i8 hW hG hlate hr hempty; cases L <;> simp
    obtain ⟨em, hem⟩ : ∃ em, L.isEmpty = em := ⟨_, rfl⟩
    rw [hem] at hempty hempty2
    obtain ⟨ln, hln⟩ : ∃ ln, L.length = ln := ⟨_, rfl⟩
    rw [hln] at hempty hempty2 hLc hW hG ⊢
    have hr : Vg.JR w sa ln sc L := by rw [← hln]; exact hr
    obtain ⟨fw, hfw⟩ : ∃ fw : Nat → Bool, ∀ k, fw k = Vg.someB (fun y => y.d - y.a) s.w L k := ⟨_, fun _ => rfl⟩
    obtain ⟨fg, hfg⟩ : ∃ fg : Nat → Bool, ∀ k, fg k = Vg.someB (fun y => y.r - y.a) s.l L k := ⟨_, fun _ => rfl⟩
    obtain ⟨fl, hfl⟩ : ∃ fl : Nat → Int, ∀ k, fl k = Vg.late (L.take k) := ⟨_, fun _ => rfl⟩
    have w0 : fw 0 = em := by rw [hfw, ← hem]; simp [Vg.someB]
    have g0 : fg 0 = em := by rw [hfg, ← hem]; simp [Vg.someB]
    have l0 : fl 0 = 0 := by rw [hfl]; rfl
    have wE : fw ln = true := by rw [hfw]; exact hW
    have gE : fg ln = true := by rw [hfg]; exact hG
    have lE : fl ln = s.m := by rw [hfl, ← hln, List.take_length, hlate]
    have wS : ∀ k (hk : k < L.length), fw (k + 1) = (fw k || (L[k].d - L[k].a == s.w)) := fun k hk => by rw [hfw, hfw]; exact Vg.someB_succ hk
    have gS : ∀ k (hk : k < L.length), fg (k + 1) = (fg k || (L[k].r - L[k].a == s.l)) := fun k hk => by rw [hfg, hfg]; exact Vg.someB_succ hk
    have lS : ∀ k (hk : k < L.length), fl (k + 1) = fl k + (if L[k].l < L[k].d - L[k].a then 1 else 0) := fun k hk => by
      rw [hfl, hfl, List.take_succ_eq_append_getElem hk, Vg.late_append]; simp [Vg.late]
    have lB : ∀ k, 0 ≤ fl k ∧ fl k ≤ k := fun k => by
      rw [hfl]; have := Vg.late_bd (L.take k); have h2 : (L.take k).length ≤ k := List.length_take_le _ _; omega
    clear hfw hfg hfl hW hG hlate i1 i2 i3 i4 i5 i7 i8
    have H_hu := Lib.hid hu; clear hu; have H_hr := Lib.hid hr; clear hr; have H_i6 := Lib.hid i6; clear i6; have H_w0 := Lib.hid w0; clear w0; have H_g0 := Lib.hid g0; clear g0; have H_l0 := Lib.hid l0; clear l0; have H_wE := Lib.hid wE; clear wE; have H_gE := Lib.hid gE; clear gE; have H_lE := Lib.hid lE; clear lE; have H_wS := Lib.hid wS; clear wS; have H_gS := Lib.hid gS; clear gS; have H_lS := Lib.hid lS; clear lS; have H_lB := Lib.hid lB; clear lB; have H_hem := Lib.hid hem; clear hem; have H_hln := Lib.hid hln; clear hln
    go_enter Try.func14, Try.ntmps14
    go_wp2_with (first | (go_at_call 56; (with_reducible refine (lives20 _).mono ?_); rintro e w1 ⟨rfl, xe, ne, rfl⟩) | (go_at_call 61; (with_reducible refine (stats_ofl (H_hr.out.grows (by (repeat' (first | (with_reducible exact Vg.Grows.refl _) | (with_reducible assumption) | (with_reducible refine Vg.Grows.alloc ?_ _) | (with_reducible refine Vg.Grows.plus ?_ _ _) | (with_reducible refine Vg.Grows.drewN ?_ _) | (with_reducible refine Vg.Grows.drew ?_) | (with_reducible refine Vg.Grows.setCell ?_ ?_ _) | (with_reducible refine Vg.Grows.put ?_ ?_ _) | omega | (simp; omega) | (simp; done)))))).mono ?_); rintro e w1 ⟨rfl, xc, nc, rfl⟩; rw [H_hu.out]))
    obtain ⟨bs, hbs⟩ : ∃ b, w.heap.size + Vg.sz (xe ++ xc) = b := ⟨_, rfl⟩
    obtain ⟨W0, hW0⟩ : ∃ W0, (Vg.plus w (xe ++ xc) nc).alloc (stC s) = W0 := ⟨_, rfl⟩
    have b0 : Vg.blk W0 bs = some (stC s) := by rw [← hW0, ← hbs]; simp [go_sem]
    have hg0 : Vg.Grows w W0 := by rw [← hW0]; (repeat' (first | (with_reducible exact Vg.Grows.refl _) | (with_reducible assumption) | (with_reducible refine Vg.Grows.alloc ?_ _) | (with_reducible refine Vg.Grows.plus ?_ _ _) | (with_reducible refine Vg.Grows.drewN ?_ _) | (with_reducible refine Vg.Grows.drew ?_) | (with_reducible refine Vg.Grows.setCell ?_ ?_ _) | (with_reducible refine Vg.Grows.put ?_ ?_ _) | omega | (simp; omega) | (simp; done)))
    rw [hW0, hbs]
    have H_b0 := Lib.hid b0; clear b0; have H_hbs := Lib.hid hbs; clear hbs; have H_hW0 := Lib.hid hW0; clear hW0
    clear hempty hempty2
    go_loopw [5, 6, 7, 32] (fun wo la lt i wr => ∃ k : Nat, k ≤ ln ∧ i = .int .i64 k ∧ wo = .bool (fw k) ∧ la = .bool (fg k) ∧ lt = .int .i64 (fl k) ∧ Vg.Grows W0 wr) (fun _ _ _ i _ => ln - (intOf i).toNat)
    case atStart => exact ⟨0, by omega, rfl, by rw [H_w0.out], by rw [H_g0.out], by rw [H_l0.out], Vg.Grows.refl _⟩
    case round =>
      obtain ⟨k, hk, rfl, rfl, rfl, rfl, hg⟩ := hrel
      have b1 := hg.blk H_b0.out
      have hfl := H_lB.out k
      by_cases hlt : k < ln
      · have hk' : k < L.length := by rw [H_hln.out]; exact hlt
        obtain ⟨g, off, rfl, hgl, q0, q1, q2, q3, q4⟩ := (H_hr.out.grows (hg0.trans hg)).2.2.2 k hk'
        have e1 := H_wS.out k hk'
        have e2 := H_gS.out k hk'
        have e3 := H_lS.out k hk'
        obtain ⟨hrb, hyw, hyl⟩ := H_i6.out L[k] (List.getElem_mem hk')
        generalize L[k] = y at q0 q1 q2 q3 q4 e1 e2 e3 hrb hyw hyl
        have hyb := Vg.Jb.rb_true.1 hrb
        obtain ⟨pw, hpw⟩ : ∃ p, fw k = p := ⟨_, rfl⟩
        obtain ⟨pg, hpg⟩ : ∃ p, fg k = p := ⟨_, rfl⟩
        rw [hpw] at e1 ⊢
        rw [hpg] at e2 ⊢
        have c_b1 := Vg.cells_of b1; have f_b1 := Vg.frozen_of b1; have p_b1 := Vg.setCell_of b1; have l_b1 := Vg.lt_of b1; have H_b1 := Lib.hid b1; clear b1
        have H_e1 := Lib.hid e1; clear e1; have H_e2 := Lib.hid e2; clear e2; have H_e3 := Lib.hid e3; clear e3; have H_hpw := Lib.hid hpw; clear hpw; have H_hpg := Lib.hid hpg; clear hpg; have H_hrb := Lib.hid hrb; clear hrb
        by_cases q5 : y.l < y.d - y.a
        · cases pw <;> cases pg
          all_goals
            go_wp2
            go_quiet (fail)
            go_wp2
            exact ⟨⟨k + 1, by omega, by go_num, by rw [H_e1.out]; simp, by rw [H_e2.out]; simp, by rw [H_e3.out, if_pos q5], by (repeat' (first | (with_reducible exact Vg.Grows.refl _) | (with_reducible assumption) | (with_reducible refine Vg.Grows.alloc ?_ _) | (with_reducible refine Vg.Grows.plus ?_ _ _) | (with_reducible refine Vg.Grows.drewN ?_ _) | (with_reducible refine Vg.Grows.drew ?_) | (with_reducible refine Vg.Grows.setCell ?_ ?_ _) | (with_reducible refine Vg.Grows.put ?_ ?_ _) | omega | (simp; omega) | (simp; done)))⟩, by simp [intOf]; omega⟩
        · cases pw <;> cases pg
          all_goals
            go_wp2
            go_quiet (fail)
            go_wp2
            exact ⟨⟨k + 1, by omega, by go_num, by rw [H_e1.out]; simp, by rw [H_e2.out]; simp, by rw [H_e3.out, if_neg (by omega), Int.add_zero], by (repeat' (first | (with_reducible exact Vg.Grows.refl _) | (with_reducible assumption) | (with_reducible refine Vg.Grows.alloc ?_ _) | (with_reducible refine Vg.Grows.plus ?_ _ _) | (with_reducible refine Vg.Grows.drewN ?_ _) | (with_reducible refine Vg.Grows.drew ?_) | (with_reducible refine Vg.Grows.setCell ?_ ?_ _) | (with_reducible refine Vg.Grows.put ?_ ?_ _) | omega | (simp; omega) | (simp; done)))⟩, by simp [intOf]; omega⟩
      · obtain rfl : k = ln := by omega
        have e1 := H_wE.out
        have e2 := H_gE.out
        have e3 := H_lE.out
        rw [e1, e2, e3]
        have c_b1 := Vg.cells_of b1; have f_b1 := Vg.frozen_of b1; have p_b1 := Vg.setCell_of b1; have l_b1 := Vg.lt_of b1; have H_b1 := Lib.hid b1; clear b1
        clear e1 e2 e3
        go_wp2
        go_ret
        exact ⟨rfl, hg0.trans hg⟩
  · have hz := Vg.ofGo_no (x := ⟨0, 0, 0, 0, 0⟩) (L := L) (by rw [hu]; exact hno)
    rw [hu] at hz
    have hz : s = ⟨0, 0, 0, 0, 0⟩ := hz
    subst hz
    have hnb : (no == 0) = false := by simp [hno]
    have hnc : (no != 0) = true := by simp [hno]
    clear hno
    have H_hu := Lib.hid hu; clear hu; have H_hr := Lib.hid hr; clear hr
    go_enter Try.func14, Try.ntmps14
    go_wp2_with (first | (go_at_call 56; (with_reducible refine (lives20 _).mono ?_); rintro e w1 ⟨rfl, xe, ne, rfl⟩) | (go_at_call 61; (with_reducible refine (stats_ofl (H_hr.out.grows (by (repeat' (first | (with_reducible exact Vg.Grows.refl _) | (with_reducible assumption) | (with_reducible refine Vg.Grows.alloc ?_ _) | (with_reducible refine Vg.Grows.plus ?_ _ _) | (with_reducible refine Vg.Grows.drewN ?_ _) | (with_reducible refine Vg.Grows.drew ?_) | (with_reducible refine Vg.Grows.setCell ?_ ?_ _) | (with_reducible refine Vg.Grows.put ?_ ?_ _) | omega | (simp; omega) | (simp; done)))))).mono ?_); rintro e w1 ⟨rfl, xc, nc, rfl⟩; rw [H_hu.out]))
    go_ret
    exact ⟨rfl, by (repeat' (first | (with_reducible exact Vg.Grows.refl _) | (with_reducible assumption) | (with_reducible refine Vg.Grows.alloc ?_ _) | (with_reducible refine Vg.Grows.plus ?_ _ _) | (with_reducible refine Vg.Grows.drewN ?_ _) | (with_reducible refine Vg.Grows.drew ?_) | (with_reducible refine Vg.Grows.setCell ?_ ?_ _) | (with_reducible refine Vg.Grows.put ?_ ?_ _) | omega | (simp; omega) | (simp; done)))⟩
end Go.Proofs.Ytlgkcpgmnpoanaa
