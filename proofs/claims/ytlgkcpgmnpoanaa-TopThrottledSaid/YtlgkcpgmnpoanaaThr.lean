/- TopThrottled: the plain law; masks as words on worlds. -/
import Derived.Test.YtlgkcpgmnpoanaaServerX
import Derived.Test.YtlgkcpgmnpoanaaStorm
import Derived.Test.YtlgkcpgmnpoanaaMboxA
set_option linter.unusedSimpArgs false
set_option linter.unusedVariables false
set_option maxHeartbeats 1000000
namespace Vg
open Go
/-- How long stretches are in all. -/
def slen : List (Int × Int) → Int
  | [] => 0
  | x :: l => (x.2 - x.1) + slen l
theorem slen_append : ∀ l m : List (Int × Int), slen (l ++ m) = slen l + slen m
  | [], m => by simp [slen]
  | x :: l, m => by simp only [List.cons_append, slen, slen_append l m]; omega
theorem slen_take (A : List (Int × Int)) (j : Nat) (h : j < A.length) : slen (A.take (j + 1)) = slen (A.take j) + (A[j].2 - A[j].1) := by
  rw [List.take_succ_eq_append_getElem h, slen_append]
  simp [slen]
theorem slen_bd {B : Int} : ∀ {l : List (Int × Int)}, (∀ x ∈ l, 0 ≤ x.2 - x.1 ∧ x.2 - x.1 ≤ B) → 0 ≤ slen l ∧ slen l ≤ l.length * B
  | [], _ => by simp [slen]
  | x :: l, h => by
    have := slen_bd (l := l) fun y hy => h y (by simp [hy])
    have := h x (by simp)
    simp only [slen, List.length_cons, Int.natCast_add, Int.add_mul]
    omega
theorem wi_nn (f g : Int) : ∀ l : List (Int × Int), 0 ≤ wi f g l
  | [] => by simp [wi]
  | x :: l => by have := wi_nn f g l; simp only [wi]; omega
theorem wi_in {f g : Int} : ∀ {l : List (Int × Int)}, (∀ x ∈ l, f ≤ x.1 ∧ x.1 ≤ x.2 ∧ x.2 ≤ f + g) → wi f g l = slen l
  | [], _ => rfl
  | x :: l, h => by
    have := wi_in (l := l) fun y hy => h y (by simp [hy])
    have := h x (by simp)
    simp only [wi, slen]
    omega
/-- Stretches one behind the other. -/
def Inrow (A : List (Int × Int)) : Prop := A.Pairwise (fun x y => x.2 ≤ y.1) ∧ ∀ x ∈ A, x.1 ≤ x.2
theorem Inrow.snoc {A : List (Int × Int)} {t n : Int} (h : Inrow A) (hb : ∀ x ∈ A, x.2 ≤ t) (hn : 0 ≤ n) : Inrow (A ++ [(t, t + n)]) := by
  refine ⟨List.pairwise_append.2 ⟨h.1, by simp, fun x hx y hy => ?_⟩, fun x hx => ?_⟩
  · simp at hy; subst hy; exact hb x hx
  · rcases List.mem_append.1 hx with hx | hx
    · exact h.2 x hx
    · simp at hx; subst hx; show t ≤ t + n; omega
theorem Inrow.le {A : List (Int × Int)} (h : Inrow A) {i j : Nat} (hi : i < A.length) (hj : j < A.length) (hij : i ≤ j) : A[i].1 ≤ A[j].1 ∧ A[i].2 ≤ A[j].2 := by
  have hi2 := h.2 A[i] (List.getElem_mem hi)
  have hj2 := h.2 A[j] (List.getElem_mem hj)
  rcases Nat.lt_or_ge i j with hlt | hge
  · have := List.pairwise_iff_getElem.1 h.1 i j hi hj hlt
    omega
  · have : i = j := by omega
    subst this
    omega
theorem thr_law {s : Srv} {bu pe : Int} {A : List (Int × Int)} (h : Sup s bu pe A) (hr : Inrow A) (hp : 1 ≤ pe) {i k : Nat} (hk : k < A.length) (hik : i ≤ k) :
    slen (A.take (k + 1)) - slen (A.take i) ≤ (A[k].2 - (A[i]'(by omega)).1 + pe - 1) / pe * bu := by
  have hi : i < A.length := by omega
  have h1 := (hr.le hi hk hik)
  have h2 := hr.2 A[k] (List.getElem_mem hk)
  obtain ⟨q, hq⟩ : ∃ q, (A[k].2 - A[i].1 + pe - 1) / pe = q := ⟨_, rfl⟩
  have hq0 : 0 ≤ q := by rw [← hq]; exact Int.ediv_nonneg (by omega) (by omega)
  have hqd : A[k].2 - A[i].1 ≤ q * pe := by
    have e := Int.mul_ediv_add_emod (A[k].2 - A[i].1 + pe - 1) pe
    have r1 := Int.emod_lt_of_pos (A[k].2 - A[i].1 + pe - 1) (show 0 < pe by omega)
    rw [hq, Int.mul_comm] at e
    omega
  have ht := h.times (by omega) q A[i].1 hq0
  rw [hq]
  refine Int.le_trans ?_ ht
  have e1 : A.take (k + 1) = A.take i ++ (A.take (k + 1)).drop i := by
    conv => lhs; rw [← List.take_append_drop i (A.take (k + 1))]
    rw [List.take_take, Nat.min_eq_left (by omega)]
  have e2 : wi A[i].1 (q * pe) A = wi A[i].1 (q * pe) (A.take (k + 1)) + wi A[i].1 (q * pe) (A.drop (k + 1)) := by
    rw [← wi_append, List.take_append_drop]
  rw [e2, e1, wi_append, slen_append]
  have w1 := wi_nn A[i].1 (q * pe) (A.take i)
  have w2 := wi_nn A[i].1 (q * pe) (A.drop (k + 1))
  have w3 : wi A[i].1 (q * pe) ((A.take (k + 1)).drop i) = slen ((A.take (k + 1)).drop i) := by
    refine wi_in fun x hx => ?_
    obtain ⟨j, hj, rfl⟩ := List.getElem_of_mem hx
    rw [List.getElem_drop, List.getElem_take]
    have hj' : i + j < k + 1 := by simp at hj; omega
    have a1 := hr.le hi (show i + j < A.length by omega) (by omega)
    have a2 := hr.le (show i + j < A.length by omega) hk (by omega)
    have a3 := hr.2 (A[i + j]'(by omega)) (List.getElem_mem _)
    omega
  omega
/-- What holds of a mask that E entered. -/
structure Thr (m : Mask) (many : Nat) (pe : Int) (E : Nat) : Prop where
  le : m.q.length ≤ E
  a : ∀ i, (h : i < m.q.length) → (((E - m.q.length + i) / many : Nat) + 1 : Int) * pe ≤ m.q[i]
  b : m.q.length < E → (((E - m.q.length - 1) / many : Nat) + 1 : Int) * pe ≤ m.last
  c : ∀ x ∈ m.q, x ≤ m.last + pe
  d : 0 ≤ m.last
  f : m.q.length ≤ many
theorem Thr.nil {many : Nat} {pe : Int} : Thr ⟨[], 0, 0⟩ many pe 0 := ⟨by simp, fun i h => by simp at h, fun h => by simp at h, by simp, by show (0 : Int) ≤ 0; omega, by simp⟩
theorem Thr.pop {many : Nat} {pe : Int} {E : Nat} {last now refused : Int} (hp : 0 ≤ pe) (hl : last ≤ now) : ∀ {q : List Int}, Thr ⟨q, last, refused⟩ many pe E → Thr ⟨Vg.pop now q, now, refused⟩ many pe E
  | [], h => ⟨h.le, fun i hi => by simp [Vg.pop] at hi, fun hh => Int.le_trans (h.b hh) hl, by simp [Vg.pop], Int.le_trans h.d hl, by simp [Vg.pop]⟩
  | t :: ts, h => by
    by_cases ht : t ≤ now
    · have e : Vg.pop now (t :: ts) = Vg.pop now ts := by rw [Vg.pop, if_pos ht]
      rw [e]
      have h0 := h.a 0 (by simp)
      have hle := h.le
      simp only [List.length_cons, List.getElem_cons_zero, Nat.add_zero] at h0 hle
      refine Thr.pop (last := now) hp (Int.le_refl _) ⟨?_, fun i hi => ?_, fun hh => ?_, fun x hx => ?_, Int.le_trans h.d hl, by have := h.f; simp at this; show ts.length ≤ many; omega⟩
      · show ts.length ≤ E; omega
      · have := h.a (i + 1) (by show i + 1 < ts.length + 1; exact Nat.succ_lt_succ hi)
        simp only [List.length_cons, List.getElem_cons_succ] at this
        have hi' : i < ts.length := hi
        rw [show E - (ts.length + 1) + (i + 1) = E - ts.length + i from by omega] at this
        exact this
      · show (((E - ts.length - 1) / many : Nat) + 1 : Int) * pe ≤ now
        rw [show E - ts.length - 1 = E - (ts.length + 1) from by omega]
        exact Int.le_trans h0 ht
      · have := h.c x (by show x ∈ t :: ts; simp only [List.mem_cons]; exact .inr hx)
        show x ≤ now + pe
        have hl2 : x ≤ last + pe := this
        omega
    · have e : Vg.pop now (t :: ts) = t :: ts := by rw [Vg.pop, if_neg ht]
      rw [e]
      refine ⟨h.le, h.a, fun hh => Int.le_trans (h.b hh) hl, fun x hx => ?_, Int.le_trans h.d hl, h.f⟩
      have : x ≤ last + pe := h.c x hx
      show x ≤ now + pe; omega
theorem Thr.enter {m : Mask} {many : Nat} {pe now : Int} {E : Nat} (h : Thr m many pe E) (hm : 1 ≤ many) (hp : 1 ≤ pe) (hl : m.last ≤ now) (hx : now ≤ 4503599627370496) :
    ((m.enter many pe now).2 = 0 → Thr (m.enter many pe now).1 many pe (E + 1)) ∧ ((m.enter many pe now).2 ≠ 0 → Thr (m.enter many pe now).1 many pe E) ∧ (m.enter many pe now).1.last = now := by
  obtain ⟨q, last, refused⟩ := m
  have hl : last ≤ now := hl
  have h2 := h.pop (by omega) hl
  have et : Mask.tell ⟨q, last, refused⟩ now = (⟨Vg.pop now q, now, refused⟩, 0) := by unfold Mask.tell; rw [if_neg (by show ¬ (now < last ∨ 4503599627370496 < now); omega)]
  unfold Mask.enter
  rw [et]
  simp only [ne_eq, not_true_eq_false, if_false]
  generalize Vg.pop now q = p at h2
  by_cases hf : p.length = many
  · rw [if_pos hf]
    exact ⟨fun h0 => by simp at h0, fun _ => ⟨h2.le, h2.a, h2.b, h2.c, h2.d, h2.f⟩, rfl⟩
  · rw [if_neg hf]
    refine ⟨fun _ => ⟨?_, fun i hi => ?_, fun hh => ?_, fun x hxm => ?_, h2.d, by have := h2.f; show (p ++ [now + pe]).length ≤ many; simp; have hff : p.length ≤ many := h2.f; omega⟩, fun h0 => by simp at h0, rfl⟩
    · have := h2.le
      show (p ++ [now + pe]).length ≤ E + 1
      simp; exact this
    · have hle : p.length ≤ E := h2.le
      have hi' : i < p.length + 1 := by simpa using hi
      have e1 : E + 1 - (p ++ [now + pe]).length + i = E - p.length + i := by simp
      show (((E + 1 - (p ++ [now + pe]).length + i) / many : Nat) + 1 : Int) * pe ≤ (p ++ [now + pe])[i]
      rw [e1]
      by_cases hip : i < p.length
      · rw [List.getElem_append_left hip]
        exact h2.a i hip
      · have hie : i = p.length := by omega
        subst hie
        simp only [List.getElem_concat_length]
        rw [show E - p.length + p.length = E from by omega, Int.add_mul, Int.one_mul]
        have hpm : p.length < many := by have hff : p.length ≤ many := h2.f; omega
        have key : ((E / many : Nat) : Int) * pe ≤ now := by
          by_cases hEm : E < many
          · rw [Nat.div_eq_of_lt hEm]; simp; exact h2.d
          · have hb : (((E - p.length - 1) / many : Nat) + 1 : Int) * pe ≤ now := h2.b (by show p.length < E; omega)
            have hd : E / many ≤ (E - p.length - 1) / many + 1 := by
              have : E / many = (E - many) / many + 1 := by
                rw [Nat.div_eq_sub_div (by omega) (by omega)]
              rw [this]
              exact Nat.succ_le_succ (Nat.div_le_div_right (by omega))
            have hd2 : ((E / many : Nat) : Int) ≤ ((E - p.length - 1) / many : Nat) + 1 := by omega
            exact Int.le_trans (Int.mul_le_mul_of_nonneg_right hd2 (by omega)) hb
        omega
    · have hle : p.length ≤ E := h2.le
      have e1 : E + 1 - (p ++ [now + pe]).length - 1 = E - p.length - 1 := by simp
      show (((E + 1 - (p ++ [now + pe]).length - 1) / many : Nat) + 1 : Int) * pe ≤ now
      rw [e1]
      refine h2.b ?_
      show p.length < E
      have : (p ++ [now + pe]).length < E + 1 := hh
      simp at this; exact this
    · show x ≤ now + pe
      rcases List.mem_append.1 hxm with hxp | hxp
      · exact h2.c x hxp
      · simp at hxp; omega
theorem Thr.count {m : Mask} {many : Nat} {pe now : Int} {E : Nat} (h : Thr m many pe E) (hm : 1 ≤ many) (hp : 1 ≤ pe) (hl : m.last ≤ now) : (E : Int) ≤ (now + pe) / pe * many := by
  have hd := h.d
  have h0 : 0 ≤ now := Int.le_trans hd hl
  have e1 : (now + pe) / pe = now / pe + 1 := by
    have := Int.add_mul_ediv_right now 1 (show pe ≠ 0 by omega)
    rw [Int.one_mul] at this
    exact this
  rw [e1]
  by_cases hE : E = 0
  · subst hE
    have : 0 ≤ now / pe := Int.ediv_nonneg h0 (by omega)
    exact Int.mul_nonneg (by omega) (by omega)
  · have key : (((E - 1) / many : Nat) : Int) * pe ≤ now := by
      by_cases hq : m.q.length = 0
      · have hb := h.b (by omega)
        rw [hq, Nat.sub_zero, Int.add_mul] at hb
        omega
      · have ha := h.a (m.q.length - 1) (by omega)
        have hc := h.c _ (List.getElem_mem (show m.q.length - 1 < m.q.length by omega))
        have hle := h.le
        rw [show E - m.q.length + (m.q.length - 1) = E - 1 from by omega, Int.add_mul] at ha
        omega
    have k2 : (((E - 1) / many : Nat) : Int) ≤ now / pe := Int.le_ediv_of_mul_le (by omega) key
    have k3 : E ≤ ((E - 1) / many + 1) * many := by
      have e := Nat.div_add_mod (E - 1) many
      have r := Nat.mod_lt (E - 1) (show 0 < many by omega)
      rw [Nat.add_mul, Nat.one_mul, Nat.mul_comm]
      omega
    have k4 : (E : Int) ≤ ((((E - 1) / many : Nat) : Int) + 1) * many := by exact_mod_cast k3
    exact Int.le_trans k4 (Int.mul_le_mul_of_nonneg_right (by omega) (by omega))
end Vg
namespace Go.Proofs.Ytlgkcpgmnpoanaa
open Go.ChangeShapes Go.WideShapes Go.ChangeAt Go.RowKit
/-- A mask lies at block b, its ring at block g. -/
def MA (w : World) (b g many : Nat) (pe : Int) (s : Vg.Mask) : Prop :=
  ∃ R first, Vg.blk w b = some (maskC g many pe first s.q.length s.last s.refused) ∧ Vg.blk w g = some (ringC R many) ∧ Shows R many first s.q
section
variable {w w' : World} {b g many : Nat} {pe : Int} {s : Vg.Mask}
theorem MA.kept (h : MA w b g many pe s) (hb : Vg.blk w' b = Vg.blk w b) (hg : Vg.blk w' g = Vg.blk w g) : MA w' b g many pe s := by
  obtain ⟨R, first, h1, h2, h3⟩ := h
  exact ⟨R, first, hb.trans h1, hg.trans h2, h3⟩
theorem MA.lt (h : MA w b g many pe s) : b < w.heap.size := by obtain ⟨R, first, h1, h2, h3⟩ := h; exact Vg.lt_of h1
theorem MA.ltg (h : MA w b g many pe s) : g < w.heap.size := by obtain ⟨R, first, h1, h2, h3⟩ := h; exact Vg.lt_of h2
theorem MA.grows (h : MA w b g many pe s) (hg : Vg.Grows w w') : MA w' b g many pe s := by
  have hl := h.lt
  have hl2 := h.ltg
  obtain ⟨x, n, rfl⟩ := hg
  exact h.kept (Vg.blk_plus hl) (Vg.blk_plus hl2)
theorem MA.touch {t : Nat → Prop} (h : MA w b g many pe s) (ht : Vg.Touch t w w') (hb : ¬ t b) (hg : ¬ t g) : MA w' b g many pe s :=
  h.kept (ht.block b h.lt hb) (ht.block g h.ltg hg)
theorem ma_new (m : Nat) (wd : Int) (h1 : 1 ≤ m) (h2 : m ≤ 64) (h3 : 1 ≤ wd) (h4 : wd ≤ 1099511627776) :
    Calls Try.prog 16 #[.int .i64 m, .int .i64 wd] w fun e w' => e = .returned (.tuple #[.pointer (some ⟨w.heap.size + 1, 0, none⟩), .int .i64 0]) ∧ MA w' (w.heap.size + 1) w.heap.size m wd ⟨[], 0, 0⟩ ∧ w' = (w.alloc (ringC (fun _ => 0) m)).alloc (maskC w.heap.size m wd 0 0 0 0) := by
  refine (storm_new_ok (w := w) m wd h1 h2 h3 h4).mono ?_
  rintro e w' ⟨rfl, rfl⟩
  exact ⟨rfl, ⟨fun _ => 0, 0, Vg.alloc_heap_at (by simp), (Vg.alloc_heap_past (by simp)).trans (Vg.alloc_heap_at rfl), h1, h2, by omega, by simp, fun i hi => by simp at hi⟩, rfl⟩
theorem ma_enter (now : Int) (h : MA w b g many pe s) (hne : b ≠ g) (hw : 1 ≤ pe ∧ pe ≤ 1099511627776) (hrf : 0 ≤ s.refused ∧ s.refused ≤ 4611686018427387904) (hl : 0 ≤ s.last) :
    Calls Try.prog 20 #[.pointer (some ⟨b, 0, none⟩), .int .i64 now] w fun e w' => e = .returned (.int .i64 (s.enter many pe now).2) ∧ MA w' b g many pe (s.enter many pe now).1 ∧ Vg.Touch (fun k => k = b ∨ k = g) w w' := by
  obtain ⟨R, first, h1, h2, h3⟩ := h
  have hb := Vg.lt_of h1
  have hg := Vg.lt_of h2
  refine (storm_enter now s.q h1 h2 hne h3 hw hrf hl).mono ?_
  rintro e w' ⟨first', R', h3', rfl, hgr⟩
  refine ⟨rfl, MA.grows ⟨R', first', Vg.put_heap_same (by rw [Vg.put_size]; exact hb), ?_, h3'⟩ hgr, (touch_of_put2 (.inr rfl) (.inl rfl) hgr)⟩
  rw [Vg.blk_put_other hne]
  exact Vg.put_heap_same hg
end
end Go.Proofs.Ytlgkcpgmnpoanaa
