/- ServerSupply: the plain law (no window of a period holds more than the budget), and the contract of 'within'. -/
import Derived.Test.YtlgkcpgmnpoanaaServerW
set_option linter.unusedSimpArgs false
set_option linter.unusedVariables false
set_option maxHeartbeats 4000000
set_option maxRecDepth 20000
namespace Vg
/-- How much of some stretches lies from f on, for g. -/
def wi (f g : Int) : List (Int × Int) → Int
  | [] => 0
  | x :: l => max 0 (min x.2 (f + g) - max x.1 f) + wi f g l
/-- How much of some stretches lies from f on. -/
def wf (f : Int) : List (Int × Int) → Int
  | [] => 0
  | x :: l => max 0 (x.2 - max x.1 f) + wf f l
/-- What is owed behind a time. -/
def oweda (t : Int) : List (Int × Int) → Int
  | [] => 0
  | x :: l => (if t < x.1 then x.2 else 0) + oweda t l
theorem wi_append (f g : Int) : ∀ l m : List (Int × Int), wi f g (l ++ m) = wi f g l + wi f g m
  | [], m => by simp [wi]
  | x :: l, m => by simp only [List.cons_append, wi, wi_append f g l m]; omega
theorem wf_append (f : Int) : ∀ l m : List (Int × Int), wf f (l ++ m) = wf f l + wf f m
  | [], m => by simp [wf]
  | x :: l, m => by simp only [List.cons_append, wf, wf_append f l m]; omega
theorem oweda_append (t : Int) : ∀ l m : List (Int × Int), oweda t (l ++ m) = oweda t l + oweda t m
  | [], m => by simp [oweda]
  | x :: l, m => by simp only [List.cons_append, oweda, oweda_append t l m]; omega
theorem wi_le_wf (f g : Int) : ∀ l : List (Int × Int), wi f g l ≤ wf f l
  | [] => by simp [wi, wf]
  | x :: l => by have := wi_le_wf f g l; simp only [wi, wf]; omega
theorem oweda_le (t : Int) : ∀ {l : List (Int × Int)}, (∀ x ∈ l, 0 ≤ x.2) → oweda t l ≤ owed l
  | [], _ => by simp [oweda, owed]
  | x :: l, h => by
    have := oweda_le t (l := l) fun y hy => h y (by simp [hy])
    have := h x (by simp)
    simp only [oweda, owed]
    split <;> omega
theorem oweda_owe (t at_ n : Int) (L : List (Int × Int)) : oweda t (owe at_ n L) = oweda t L + if t < at_ then n else 0 := by
  rcases List.eq_nil_or_concat L with rfl | ⟨l, x, rfl⟩
  · simp [owe, oweda]
  · rw [List.concat_eq_append, owe_snoc]
    split
    · rename_i he
      rw [oweda_append, oweda_append]
      simp only [oweda, he]
      split <;> omega
    · rw [oweda_append _ (l ++ [x])]
      simp [oweda]
theorem oweda_due {t now : Int} (h : now ≤ t) : ∀ L : List (Int × Int), oweda t (due now L).2 = oweda t L
  | [] => by simp [due]
  | x :: l => by
    unfold due
    split
    · simp only [oweda]
      rw [if_neg (by omega), oweda_due h l]; omega
    · rfl
/-- What holds of a server and the stretches in which cycles were used. -/
structure Sup (s : Srv) (bu pe : Int) (all : List (Int × Int)) : Prop where
  bd : ∀ x ∈ all, 0 ≤ x.1 ∧ x.1 ≤ x.2 ∧ x.2 ≤ s.last
  win : ∀ t, wi t pe all ≤ bu
  out : ∀ t, s.last ≤ t + pe → wf t all ≤ oweda (t + pe) s.L
theorem Sup.nil {bu pe : Int} (h : 0 ≤ bu) : Sup ⟨[], 0⟩ bu pe [] := ⟨by simp, fun t => by simp only [wi]; omega, fun t _ => by simp [wf, oweda]⟩
theorem Sup.use {s : Srv} {bu pe n en : Int} {all : List (Int × Int)} (h : Sup s bu pe all) (hi : s.Inv bu) (hp : 1 ≤ pe) (h0 : (s.use bu pe n en).2 = 0) : Sup (s.use bu pe n en).1 bu pe (all ++ [(en - n, en)]) := by
  obtain ⟨h1, h2, h3, h4, h5, h6, h7, h8⟩ := Srv.use_ok h0
  obtain ⟨i1, i2, i3, i4, i5⟩ := hi
  have hnn : ∀ x ∈ s.L, 0 ≤ x.2 := fun x hx => (i4 x hx).2.2
  have hL : ∀ t, oweda t (s.use bu pe n en).1.L = oweda t s.L + if t < en + pe then n else 0 := by
    intro t
    rw [h8]
    split
    · rename_i hz; subst hz; split <;> omega
    · rw [oweda_owe]
  refine ⟨fun x hx => ?_, fun t => ?_, fun t ht => ?_⟩
  · rw [h1]
    rcases List.mem_append.1 hx with hx | hx
    · have := h.bd x hx; omega
    · simp at hx; subst hx
      show 0 ≤ en - n ∧ en - n ≤ en ∧ en ≤ en
      omega
  · rw [wi_append]
    simp only [wi]
    have hw := h.win t
    by_cases hov : t + pe ≤ en - n
    · omega
    · have h9 := h.out t (by omega)
      have h10 := oweda_le (t + pe) hnn
      have h11 := wi_le_wf t pe all
      have h12 : n ≤ bu - owed s.L ∨ n = 0 := by
        unfold Srv.left at h7
        split at h7
        · right; omega
        · left; omega
      omega
  · rw [h1] at ht
    rw [wf_append, hL]
    simp only [wf]
    have h9 := h.out t (by omega)
    split <;> omega
theorem Sup.refill {s : Srv} {bu pe now : Int} {all : List (Int × Int)} (h : Sup s bu pe all) (h0 : (s.refill now).2.2 = 0) : Sup (s.refill now).1 bu pe all := by
  obtain ⟨h1, h2, h3, h4, h5, h6⟩ := Srv.refill_ok h0
  refine ⟨fun x hx => ?_, h.win, fun t ht => ?_⟩
  · rw [h1]; have := h.bd x hx; omega
  · rw [h1] at ht
    rw [h5, oweda_due ht]
    exact h.out t (by omega)
theorem wi_split (f g u : Int) (hg : 0 ≤ g) (hu : 0 ≤ u) : ∀ l : List (Int × Int), wi f (g + u) l ≤ wi f g l + wi (f + g) u l
  | [] => by simp [wi]
  | x :: l => by have := wi_split f g u hg hu l; simp only [wi]; omega
theorem Sup.many {s : Srv} {bu pe : Int} {all : List (Int × Int)} (h : Sup s bu pe all) (hp : 0 ≤ pe) : ∀ (k : Nat) (t : Int), wi t ((k : Int) * pe) all ≤ (k : Int) * bu
  | 0, t => by
    have : ∀ l : List (Int × Int), wi t 0 l ≤ 0 := by
      intro l
      induction l with
      | nil => simp [wi]
      | cons x l ih => simp only [wi]; omega
    simpa using this all
  | k + 1, t => by
    have h1 := h.many hp k t
    have h2 := h.win (t + k * pe)
    have h3 := wi_split t (k * pe) pe (Int.mul_nonneg (by omega) hp) hp all
    have e1 : ((k + 1 : Nat) : Int) * pe = k * pe + pe := by rw [Int.natCast_add, Int.add_mul]; simp
    have e2 : ((k + 1 : Nat) : Int) * bu = k * bu + bu := by rw [Int.natCast_add, Int.add_mul]; simp
    rw [e1, e2]
    omega
theorem Sup.times {s : Srv} {bu pe : Int} {all : List (Int × Int)} (h : Sup s bu pe all) (hp : 0 ≤ pe) (q t : Int) (hq : 0 ≤ q) : wi t (q * pe) all ≤ q * bu := by
  obtain ⟨k, rfl⟩ := Int.eq_ofNat_of_zero_le hq
  exact h.many hp k t
theorem wi_take (f g : Int) (L : List (Int × Int)) (k : Nat) (hk : k < L.length) : wi f g (L.take (k + 1)) = wi f g (L.take k) + max 0 (min L[k].2 (f + g) - max L[k].1 f) := by
  rw [List.take_succ_eq_append_getElem hk, wi_append]
  simp [wi]
theorem wi_bd {f g : Int} : ∀ {l : List (Int × Int)}, (∀ x ∈ l, 0 ≤ x.1 ∧ x.2 ≤ 4503599627370496) → 0 ≤ wi f g l ∧ wi f g l ≤ l.length * 4503599627370496
  | [], _ => by simp [wi]
  | x :: l, h => by
    have := wi_bd (f := f) (g := g) (l := l) fun y hy => h y (by simp [hy])
    have := h x (by simp)
    simp only [wi, List.length_cons, Int.natCast_add, Int.add_mul]
    omega
end Vg
namespace Go.Proofs.Ytlgkcpgmnpoanaa
open Go.ChangeShapes Go.WideShapes Go.ChangeAt Go.RowKit
theorem within15 {S : Nat} {sa : Option Addr} {sc : Nat} {L : List (Int × Int)} {w : World} (f g : Int) (hr : Vg.Reads S w (.slice sa L.length sc) L.length (Vg.pcells L)) (hL : L.length ≤ 100) (hb : ∀ x ∈ L, 0 ≤ x.1 ∧ x.1 ≤ 4503599627370496 ∧ 0 ≤ x.2 ∧ x.2 ≤ 4503599627370496)
    (hf : -2251799813685248 ≤ f ∧ f ≤ 4503599627370496) (hg : 0 ≤ g ∧ g ≤ 2251799813685248) :
    Calls Try.prog 39 #[.slice sa L.length sc, .int .i64 f, .int .i64 g] w fun e w' => e = .returned (.int .i64 (Vg.wi f g L)) ∧ Vg.Grows w w' := by
  have hcm := hr.cap_le
  have hcm : sc ≤ 9223372036854775807 := hcm
  obtain ⟨F, hF⟩ : ∃ F : Nat → Int, ∀ k, F k = Vg.wi f g (L.take k) := ⟨_, fun _ => rfl⟩
  have f0 : F 0 = 0 := by rw [hF]; rfl
  have fe : F L.length = Vg.wi f g L := by rw [hF, List.take_length]
  have fs : ∀ k (hk : k < L.length), F (k + 1) = F k + max 0 (min L[k].2 (f + g) - max L[k].1 f) := fun k hk => by rw [hF, hF, Vg.wi_take f g L k hk]
  have fl : ∀ k, 0 ≤ F k ∧ F k ≤ 100 * 4503599627370496 := fun k => by
    have h1 := Vg.wi_bd (f := f) (g := g) (l := L.take k) fun x hx => ⟨(hb x (List.take_subset _ _ hx)).1, (hb x (List.take_subset _ _ hx)).2.2.2⟩
    have h2 : (L.take k).length ≤ L.length := by rw [List.length_take]; omega
    rw [hF]; omega
  have F0 := Lib.hid f0
  have FE := Lib.hid fe
  have Qfs := Lib.hid fs
  have FL := Lib.hid fl
  have HR := Lib.hid hr
  have HB := Lib.hid hb
  clear f0 fe fs fl hF hr hb
  go_enter Try.func39, Try.ntmps39
  go_wp2
  go_loopw [7, 14] (fun v i wr => ∃ k : Nat, k ≤ L.length ∧ i = .int .i64 k ∧ v = .int .i64 (F k) ∧ Vg.Grows w wr) (fun _ i _ => L.length - (intOf i).toNat)
  case atStart => exact ⟨0, by omega, rfl, by rw [F0.out], Vg.Grows.refl _⟩
  case round =>
    obtain ⟨k, hk, rfl, rfl, y, m, rfl⟩ := hrel
    have hfk := FL.out k
    by_cases hlt : k < L.length
    · obtain ⟨g', off, rfl, hg', hc, hm, hx⟩ := HR.out.open (by rw [Vg.pcells_length]; omega)
      have hget := Vg.pcells_get L k hlt
      have c0 := hx (k * 2) (by rw [Vg.pcells_length]; omega)
      have c1 := hx (k * 2 + 1) (by rw [Vg.pcells_length]; omega)
      rw [← Nat.add_assoc] at c1
      obtain ⟨x, hxk⟩ : ∃ x, L[k] = x := ⟨_, rfl⟩
      have hxb := HB.out L[k] (List.getElem_mem hlt)
      have hfs := Qfs.out k hlt
      rw [hxk] at hget hfs hxb
      have c0' : w.cell? ⟨g', off + k * 2, none⟩ = some (.int .i64 x.1) := by rw [c0, ← hget.1, List.getElem?_eq_getElem]
      have c1' : w.cell? ⟨g', off + k * 2 + 1, none⟩ = some (.int .i64 x.2) := by rw [c1, ← hget.2, List.getElem?_eq_getElem]
      have HFS := Lib.hid hfs
      clear c0 c1 hget hx hxk hfs
      obtain ⟨xa, xb⟩ := x
      simp only [] at c0' c1' hxb
      by_cases q1 : xa < f
      · by_cases q2 : f + g < xb
        · by_cases q3 : 0 < f + g - f
          all_goals
            go_wp2
            go_region
            all_goals go_wp2
            all_goals exact ⟨⟨k + 1, by omega, by go_num, by rw [HFS.out]; congr 1; omega, by (repeat' (first | (with_reducible exact Vg.Grows.refl _) | (with_reducible assumption) | (with_reducible refine Vg.Grows.alloc ?_ _) | (with_reducible refine Vg.Grows.plus ?_ _ _) | (with_reducible refine Vg.Grows.drewN ?_ _) | (with_reducible refine Vg.Grows.drew ?_) | (with_reducible refine Vg.Grows.setCell ?_ ?_ _) | (with_reducible refine Vg.Grows.put ?_ ?_ _) | omega | (simp; omega) | (simp; done)))⟩, by simp [intOf]; omega⟩
        · by_cases q3 : 0 < xb - f
          all_goals
            go_wp2
            go_region
            all_goals go_wp2
            all_goals exact ⟨⟨k + 1, by omega, by go_num, by rw [HFS.out]; congr 1; omega, by (repeat' (first | (with_reducible exact Vg.Grows.refl _) | (with_reducible assumption) | (with_reducible refine Vg.Grows.alloc ?_ _) | (with_reducible refine Vg.Grows.plus ?_ _ _) | (with_reducible refine Vg.Grows.drewN ?_ _) | (with_reducible refine Vg.Grows.drew ?_) | (with_reducible refine Vg.Grows.setCell ?_ ?_ _) | (with_reducible refine Vg.Grows.put ?_ ?_ _) | omega | (simp; omega) | (simp; done)))⟩, by simp [intOf]; omega⟩
      · by_cases q2 : f + g < xb
        · by_cases q3 : 0 < f + g - xa
          all_goals
            go_wp2
            go_region
            all_goals go_wp2
            all_goals exact ⟨⟨k + 1, by omega, by go_num, by rw [HFS.out]; congr 1; omega, by (repeat' (first | (with_reducible exact Vg.Grows.refl _) | (with_reducible assumption) | (with_reducible refine Vg.Grows.alloc ?_ _) | (with_reducible refine Vg.Grows.plus ?_ _ _) | (with_reducible refine Vg.Grows.drewN ?_ _) | (with_reducible refine Vg.Grows.drew ?_) | (with_reducible refine Vg.Grows.setCell ?_ ?_ _) | (with_reducible refine Vg.Grows.put ?_ ?_ _) | omega | (simp; omega) | (simp; done)))⟩, by simp [intOf]; omega⟩
        · by_cases q3 : 0 < xb - xa
          all_goals
            go_wp2
            go_region
            all_goals go_wp2
            all_goals exact ⟨⟨k + 1, by omega, by go_num, by rw [HFS.out]; congr 1; omega, by (repeat' (first | (with_reducible exact Vg.Grows.refl _) | (with_reducible assumption) | (with_reducible refine Vg.Grows.alloc ?_ _) | (with_reducible refine Vg.Grows.plus ?_ _ _) | (with_reducible refine Vg.Grows.drewN ?_ _) | (with_reducible refine Vg.Grows.drew ?_) | (with_reducible refine Vg.Grows.setCell ?_ ?_ _) | (with_reducible refine Vg.Grows.put ?_ ?_ _) | omega | (simp; omega) | (simp; done)))⟩, by simp [intOf]; omega⟩
    · obtain rfl : k = L.length := by omega
      go_wp2
      go_ret
      exact ⟨by rw [FE.out]; rfl, by (repeat' (first | (with_reducible exact Vg.Grows.refl _) | (with_reducible assumption) | (with_reducible refine Vg.Grows.alloc ?_ _) | (with_reducible refine Vg.Grows.plus ?_ _ _) | (with_reducible refine Vg.Grows.drewN ?_ _) | (with_reducible refine Vg.Grows.drew ?_) | (with_reducible refine Vg.Grows.setCell ?_ ?_ _) | (with_reducible refine Vg.Grows.put ?_ ?_ _) | omega | (simp; omega) | (simp; done)))⟩
end Go.Proofs.Ytlgkcpgmnpoanaa
