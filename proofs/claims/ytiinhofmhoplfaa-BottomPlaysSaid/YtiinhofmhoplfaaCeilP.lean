/- The document's table of ceilings: plain words; New, Holder, Lock. -/
import Derived.Test.YtiinhofmhoplfaaCeilL
set_option linter.unusedSimpArgs false
set_option linter.unusedVariables false
set_option maxHeartbeats 1000000
set_option maxRecDepth 100000
namespace Vg
open Go Go.RowKit
/-- Who holds a mutex, in the document's list of pairs. -/
def Hs.find : List (Int × Int) → Int → Int × Bool
  | [], _ => (0, false)
  | x :: l, m => if x.1 = m then (x.2, true) else Hs.find l m
theorem Hs.find_no : ∀ {H : List (Int × Int)} {m : Int}, (Hs.find H m).2 = false → Hs.find H m = (0, false)
  | [], _, _ => rfl
  | x :: l, m, h => by
    unfold Hs.find at h ⊢
    split
    · rename_i hx; rw [if_pos hx] at h; simp at h
    · rename_i hx; rw [if_neg hx] at h; exact Hs.find_no h
theorem Hs.find_snoc : ∀ (H : List (Int × Int)) (x : Int × Int) (m : Int), Hs.find (H ++ [x]) m = if (Hs.find H m).2 = true then Hs.find H m else if x.1 = m then (x.2, true) else (0, false)
  | [], x, m => by simp [Hs.find]
  | y :: l, x, m => by
    have ih := Hs.find_snoc l x m
    simp only [List.cons_append, Hs.find]
    split
    · simp
    · exact ih
theorem Hs.find_filter : ∀ (H : List (Int × Int)) (i m : Int), Hs.find (H.filter fun x => decide (x.1 ≠ i)) m = if m = i then (0, false) else Hs.find H m
  | [], i, m => by simp [Hs.find]
  | y :: l, i, m => by
    have ih := Hs.find_filter l i m
    by_cases hy : y.1 = i
    · rw [List.filter_cons_of_neg (by simp [hy]), ih]
      split
      · rfl
      · rename_i h; rw [Hs.find, if_neg (by omega)]
    · rw [List.filter_cons_of_pos (by simp [hy]), Hs.find, ih]
      by_cases h : m = i
      · rw [if_neg (show ¬ y.1 = m by omega), if_pos h, if_pos h]
      · rw [if_neg h, if_neg h]; rfl
/-- The document's list tells what the table's row tells. -/
def Hs.Rel (H : List (Int × Int)) (M : List Mx) : Prop := ∀ m, Hs.find H m = Tb.holder M m
theorem Tb.holder_set {M : List Mx} {i : Nat} (hi : i < M.length) (x : Mx) (m : Int) : Tb.holder (M.set i x) m = if m = i then (if x.held = true then (x.who, true) else (0, false)) else Tb.holder M m := by
  by_cases h : m = i
  · subst h
    rw [if_pos rfl, Tb.holder_in (by simpa using hi)]
    simp
  · rw [if_neg h]
    by_cases ho : m < 0 ∨ (M.length : Int) ≤ m
    · rw [Tb.holder_out ho, Tb.holder_out (by simpa using ho)]
    · obtain ⟨j, rfl⟩ : ∃ j : Nat, m = j := ⟨m.toNat, by omega⟩
      have hj : j < M.length := by omega
      rw [Tb.holder_in hj, Tb.holder_in (by simpa using hj)]
      have e : (M.set i x)[j]'(by simpa using hj) = M[j] := List.getElem_set_ne (by omega) _
      rw [e]
theorem Hs.Rel.lock {H : List (Int × Int)} {M : List Mx} (h : Hs.Rel H M) {i : Nat} (hi : i < M.length) (hf : M[i].held = false) (c task : Int) : Hs.Rel (H ++ [((i : Int), task)]) (M.set i ⟨c, true, task⟩) := by
  intro m
  rw [Tb.holder_set hi, Hs.find_snoc]
  by_cases hm : m = i
  · subst hm
    have h1 := h i
    rw [Tb.holder_in hi, hf] at h1
    rw [h1]; simp
  · rw [if_neg hm, ← h m]
    cases hx : (Hs.find H m).2 with
    | true => simp
    | false => rw [Hs.find_no hx]; simp; omega
theorem Hs.Rel.unlock {H : List (Int × Int)} {M : List Mx} (h : Hs.Rel H M) {i : Nat} (hi : i < M.length) (c task : Int) : Hs.Rel (H.filter fun x => decide (x.1 ≠ (i : Int))) (M.set i ⟨c, false, task⟩) := by
  intro m
  rw [Tb.holder_set hi, Hs.find_filter]
  by_cases hm : m = i
  · rw [if_pos hm, if_pos hm]; simp
  · rw [if_neg hm, if_neg hm, h m]
theorem Reads.touchC {S : Nat} {w w' : World} {t : Nat → Prop} {sv : Value} {n : Nat} {xs : List Value} (h : Reads S w sv n xs) (ht : Touch t w w') (ha : ∀ k, S ≤ k → ¬ t k) : Reads S w' sv n xs := by
  rcases h with h | ⟨g, off, cap, h1, h2, h3, h4, h5, h6⟩
  · exact .inl h
  · refine .inr ⟨g, off, cap, h1, h2, Nat.lt_of_lt_of_le h3 ht.size, h4, h5, fun j hj => ?_⟩
    rw [← h6 j hj]
    exact World.cell?_of_block (w := w) (ht.block g h3 (ha g h2))
section
variable {P : Program} {W0 w : World} {ops : Array Oper} {rest : List Oper} {o : Oper} {a : Act} {Q : Exit → Act → World → Prop}
/-- append of all that an incoming slice of integers holds. -/
theorem wpList_appI (hg : Grows W0 w) (hgd : o.guard = none) (s x : Operand) (t : TypeId)
    (ho : o.op = .call { callee := .builtin .append, args := #[s, x], argTypes := #[t, t] })
    (B : Nat) (hB : W0.heap.size ≤ B) (hBw : B ≤ w.heap.size) (e : TypeId) (i : TypeInfo) (z : Value) (bytes : Nat) (ht : P.underlying t = some (.slice e)) (hi : P.info? e = some i) (hz : i.zero = some z)
    (hsize : i.size = 1) (hby : i.bytes = bytes) (hzs : z.cells.size = 1)
    (v : Value) (n : Nat) (xs : List Value) (hs : a.eval s = v) (hown : w.ownsRow B e 1 v n xs)
    (sa : Option Addr) (m c : Nat) (L : List Int) (hx : a.eval x = .slice sa m c) (hr : IR w sa c L) (hm : L.length = m) (hz0 : sa = none → c = 0)
    (h63 : n + m ≤ maxLen) (hbytes : (n + m) * bytes ≤ 140737488355328)
    (h : ∀ v' y k, (plus W0 y k).ownsRow B e 1 v' (n + m) (xs ++ ics L) → B ≤ (plus W0 y k).heap.size → wpList P ops Q rest (a.put o.dst v') (plus W0 y k)) : wpList P ops Q (o :: rest) a w := by
  subst hm
  cases sa with
  | none =>
    have hc := hz0 rfl
    subst hc
    have hL : L = [] := List.eq_nil_of_length_eq_zero (by have := hr.1; omega)
    subst hL
    refine wpList_append_own_none hgd s x t ho B e i 1 ht hi v n xs hs hown hx ?_
    have := hg
    obtain ⟨y, k, rfl⟩ := this
    have := h v y k (by simpa using hown) hBw
    exact this
  | some ad =>
    refine wpList_app hg hgd s x t ho B hB hBw e i z 1 bytes ht hi hz hsize hby hzs (by decide) v n xs hs hown ad L.length c (ics L) hx (by simp) (fun j u hu => ?_) (by simp [Value.oneCell']) h63 hbytes h
    obtain ⟨hj, rfl⟩ := List.getElem?_eq_some_iff.1 hu
    have hj' : j < L.length := by simpa using hj
    obtain ⟨g, off, e', hg', hc⟩ := hr.2.2 j hj'
    simp only [Option.some.injEq] at e'
    subst e'
    rw [List.getElem_map, ← hc]
    unfold Addr.add
    split
    · rename_i h0; subst h0; rfl
    · rfl
end
end Vg
namespace Go.Proofs.Ytiinhofmhoplfaa
open Go.ChangeShapes Go.WideShapes Go.ChangeAt Go.RowKit
theorem Try.info_hold : (Try.prog.info? 163).map (fun i => (i.zero, i.size, i.bytes)) = some (some (.agg #[.int .i64 0, .int .i64 0]), 2, 16) := by kernel_rfl
section
variable {w : World} {L : List Int} {M : List Vg.Mx} {H : List (Int × Int)} {sa ca ha : Option Addr} {sc cn cc hn hc S : Nat}
theorem ref12_new_no (hr : Vg.IR w sa sc L) (h : 16 < L.length ∨ L.any Vg.oddC = true) :
    Calls Try.prog 30 #[.slice sa L.length sc] w fun e w' => e = .returned (.tuple #[.agg #[.slice none 0 0, .slice none 0 0], .bool false]) ∧ Vg.Grows w w' := by
  obtain ⟨n, hn⟩ : ∃ n, L.length = n := ⟨_, rfl⟩
  rw [hn] at h ⊢
  have hcm : n ≤ 9223372036854775807 := by
    have h1 := hr.1
    have h2 : sc ≤ 9223372036854775807 := hr.2.1
    omega
  by_cases h1 : 16 < n
  · clear h hr hn
    go_enter Try.func30, Try.ntmps30
    go_wp2
    go_returns
    exact ⟨rfl, by (repeat' (first | (with_reducible exact Vg.Grows.refl _) | (with_reducible assumption) | (with_reducible refine Vg.Grows.alloc ?_ _) | (with_reducible refine Vg.Grows.plus ?_ _ _) | (with_reducible refine Vg.Grows.drewN ?_ _) | (with_reducible refine Vg.Grows.drew ?_) | (with_reducible refine Vg.Grows.setCell ?_ ?_ _) | (with_reducible refine Vg.Grows.put ?_ ?_ _) | omega | (simp; omega) | (simp; done)))⟩
  · have h2 := h.resolve_left h1
    have H_hr := Lib.hid hr; clear hr; have H_hn := Lib.hid hn; clear hn; have H_h2 := Lib.hid h2; clear h2
    clear h
    go_enter Try.func30, Try.ntmps30
    go_wp2
    go_loop [12] (fun i => ∃ k : Nat, k ≤ n ∧ i = .int .i64 k ∧ (L.take k).any Vg.oddC = false) (fun i => n - (intOf i).toNat)
    case atStart => exact ⟨0, by omega, rfl, by simp⟩
    case round =>
      obtain ⟨k, hk, rfl, hpre⟩ := hrel
      by_cases hlt : k < n
      · have hkL : k < L.length := by rw [H_hn.out]; exact hlt
        obtain ⟨g, off, rfl, hg, hc, hm, hcell⟩ := H_hr.out.icell k hkL
        have hsn := List.take_succ_eq_append_getElem hkL
        obtain ⟨x, hx⟩ : ∃ x, L[k] = x := ⟨_, rfl⟩
        rw [hx] at hcell hsn
        have H_hpre := Lib.hid hpre; clear hpre; have H_hsn := Lib.hid hsn; clear hsn; have H_hx := Lib.hid hx; clear hx
        by_cases h0 : x < 0
        · go_wp2
          go_returns
          exact ⟨rfl, by (repeat' (first | (with_reducible exact Vg.Grows.refl _) | (with_reducible assumption) | (with_reducible refine Vg.Grows.alloc ?_ _) | (with_reducible refine Vg.Grows.plus ?_ _ _) | (with_reducible refine Vg.Grows.drewN ?_ _) | (with_reducible refine Vg.Grows.drew ?_) | (with_reducible refine Vg.Grows.setCell ?_ ?_ _) | (with_reducible refine Vg.Grows.put ?_ ?_ _) | omega | (simp; omega) | (simp; done)))⟩
        · by_cases h63 : 63 < x
          · go_wp2
            go_returns
            exact ⟨rfl, by (repeat' (first | (with_reducible exact Vg.Grows.refl _) | (with_reducible assumption) | (with_reducible refine Vg.Grows.alloc ?_ _) | (with_reducible refine Vg.Grows.plus ?_ _ _) | (with_reducible refine Vg.Grows.drewN ?_ _) | (with_reducible refine Vg.Grows.drew ?_) | (with_reducible refine Vg.Grows.setCell ?_ ?_ _) | (with_reducible refine Vg.Grows.put ?_ ?_ _) | omega | (simp; omega) | (simp; done)))⟩
          · go_wp2
            exact ⟨⟨k + 1, by omega, by go_num, by rw [H_hsn.out, List.any_append, H_hpre.out]; simp [Vg.oddC]; omega⟩, by simp [intOf]; omega⟩
      · have e : L.any Vg.oddC = false := by rw [← hpre, List.take_of_length_le (by rw [H_hn.out]; omega)]
        rw [H_h2.out] at e
        cases e
theorem ref12_new (hr : Vg.IR w sa sc L) (hz : sa = none → sc = 0) (h1 : L.length ≤ 16) (h2 : L.any Vg.oddC = false) :
    Calls Try.prog 30 #[.slice sa L.length sc] w fun e w' => ∃ a c, e = .returned (.tuple #[.agg #[.slice a L.length c, .slice none 0 0], .bool true]) ∧ Vg.Reads w.heap.size w' (.slice a L.length c) L.length (Vg.ics L) ∧ Vg.Grows w w' := by
  obtain ⟨i0, hi, hz0, hz1, hz2⟩ := info_parts Try.info_int
  obtain ⟨n, hn⟩ : ∃ n, L.length = n := ⟨_, rfl⟩
  rw [hn] at h1 ⊢
  have H_hr := Lib.hid hr; clear hr; have H_hn := Lib.hid hn; clear hn; have H_h2 := Lib.hid h2; clear h2; have H_hz := Lib.hid hz; clear hz
  go_enter Try.func30, Try.ntmps30
  go_wp2
  go_loop [12] (fun i => ∃ k : Nat, k ≤ n ∧ i = .int .i64 k) (fun i => n - (intOf i).toNat)
  case atStart => exact ⟨0, by omega, rfl⟩
  case round =>
    obtain ⟨k, hk, rfl⟩ := hrel
    by_cases hlt : k < n
    · have hkL : k < L.length := by rw [H_hn.out]; exact hlt
      obtain ⟨g, off, rfl, hg, hc, hm, hcell⟩ := H_hr.out.icell k hkL
      obtain ⟨x, hx⟩ : ∃ x, L[k] = x := ⟨_, rfl⟩
      rw [hx] at hcell
      have hox : Vg.oddC x = false := by
        cases hh : Vg.oddC x with
        | false => rfl
        | true => rw [← H_h2.out]; exact (List.any_eq_true.2 ⟨x, by rw [← hx]; exact List.getElem_mem _, hh⟩).symm
      simp only [Vg.oddC, Bool.or_eq_false_iff, decide_eq_false_iff_not] at hox
      obtain ⟨h0, h63⟩ := hox
      have H_hx := Lib.hid hx; clear hx
      go_wp2
      exact ⟨⟨k + 1, by omega, by go_num⟩, by simp [intOf]; omega⟩
    · have hkn : k = n := by omega
      subst hkn
      go_wp2_with (at_builtin; (refine Vg.wpList_appI (W0 := _) ((Vg.Grows.refl _).alloc _) rfl (.tmp 24) (.tmp 25) 22 rfl _ (Nat.le_refl _) (by (try simp only [World.size_alloc, Vg.plus_size, Vg.put_size, World.size_setCell, World.size_drew]) <;> omega) 3 i0 (.int .i64 0) 8 Try.underlying22 hi hz0 hz1 hz2 rfl _ _ _ rfl (Vg.owns_made0 (by (try simp only [World.size_alloc, Vg.plus_size, Vg.put_size, World.size_setCell, World.size_drew]) <;> omega)) sa k sc L rfl (H_hr.out.grows (by (repeat' (first | (with_reducible exact Vg.Grows.refl _) | (with_reducible assumption) | (with_reducible refine Vg.Grows.alloc ?_ _) | (with_reducible refine Vg.Grows.plus ?_ _ _) | (with_reducible refine Vg.Grows.drewN ?_ _) | (with_reducible refine Vg.Grows.drew ?_) | (with_reducible refine Vg.Grows.setCell ?_ ?_ _) | (with_reducible refine Vg.Grows.put ?_ ?_ _) | omega | (simp; omega) | (simp; done))))) H_hn.out H_hz.out (by unfold maxLen; omega) (by omega) ?_); intro v' y' m' hown' hsz'; obtain ⟨a', c', rfl⟩ := Vg.owns_shape hown'; have HO := Lib.hid hown'; clear hown')
      go_returns
      refine ⟨a', c', by simp, ?_, by (repeat' (first | (with_reducible exact Vg.Grows.refl _) | (with_reducible assumption) | (with_reducible refine Vg.Grows.alloc ?_ _) | (with_reducible refine Vg.Grows.plus ?_ _ _) | (with_reducible refine Vg.Grows.drewN ?_ _) | (with_reducible refine Vg.Grows.drew ?_) | (with_reducible refine Vg.Grows.setCell ?_ ?_ _) | (with_reducible refine Vg.Grows.put ?_ ?_ _) | omega | (simp; omega) | (simp; done)))⟩
      have h3 := Vg.Reads.of_owns HO.out
      simp only [List.nil_append, Nat.zero_add] at h3
      exact (h3.base (by simp [go_sem]) (by simp [go_sem])).weaken (by simp [go_sem])
theorem ref12_holder (m : Int) (hr : Vg.Reads S w (.slice ha H.length hc) H.length (Vg.pcells H)) :
    Calls Try.prog 36 #[.agg #[.slice ca cn cc, .slice ha H.length hc], .int .i64 m] w fun e w' => e = .returned (.tuple #[.int .i64 (Vg.Hs.find H m).1, .bool (Vg.Hs.find H m).2]) ∧ Vg.Grows w w' := by
  have hcm := hr.cap_le
  have hcm : hc ≤ 9223372036854775807 := hcm
  obtain ⟨n, hn⟩ : ∃ n, H.length = n := ⟨_, rfl⟩
  rw [hn] at hr ⊢
  have H_hr := Lib.hid hr; clear hr; have H_hn := Lib.hid hn; clear hn
  have hnm : n ≤ 9223372036854775807 := by
    rcases H_hr.out with ⟨h0, h1, _⟩ | ⟨g, off, cap, h0, _, _, h3, h4, _⟩
    · omega
    · have h4 : cap ≤ 9223372036854775807 := h4
      omega
  go_enter Try.func36, Try.ntmps36
  go_wp2
  go_loopw [11] (fun i wr => ∃ k : Nat, k ≤ n ∧ i = .int .i64 k ∧ Vg.Hs.find (H.drop k) m = Vg.Hs.find H m ∧ Vg.Grows (w.alloc (.cells #[.slice ca cn cc, .slice ha n hc] 57)) wr) (fun i _ => n - (intOf i).toNat)
  case atStart => exact ⟨0, by omega, rfl, by simp, Vg.Grows.refl _⟩
  case round =>
    obtain ⟨k, hk, rfl, hpre, y, mm, rfl⟩ := hrel
    by_cases hlt : k < n
    · have hkL : k < H.length := by rw [H_hn.out]; exact hlt
      obtain ⟨g, off, rfl, hg, hcc, hm, hx⟩ := H_hr.out.open (by rw [Vg.pcells_length]; omega)
      have hget := Vg.pcells_get H k hkL
      have c0 := hx (k * 2) (by rw [Vg.pcells_length]; omega)
      have c1 := hx (k * 2 + 1) (by rw [Vg.pcells_length]; omega)
      rw [← Nat.add_assoc] at c1
      rw [List.drop_eq_getElem_cons hkL] at hpre
      obtain ⟨x, hxk⟩ : ∃ x, H[k] = x := ⟨_, rfl⟩
      rw [hxk] at hget hpre
      have c0' : w.cell? ⟨g, off + k * 2, none⟩ = some (.int .i64 x.1) := by rw [c0, ← hget.1, List.getElem?_eq_getElem]
      have c1' : w.cell? ⟨g, off + k * 2 + 1, none⟩ = some (.int .i64 x.2) := by rw [c1, ← hget.2, List.getElem?_eq_getElem]
      clear c0 c1 hget hx
      obtain ⟨x1, x2⟩ := x
      simp only [] at c0' c1'
      by_cases hxm : x1 = m
      · subst hxm
        have hf : Vg.Hs.find H x1 = (x2, true) := by rw [← hpre, Vg.Hs.find, if_pos rfl]
        have hb : (x1 == x1) = true := by simp
        have H_hpre := Lib.hid hpre; clear hpre; have H_hxk := Lib.hid hxk; clear hxk; have H_hf := Lib.hid hf; clear hf
        go_wp2
        go_returns
        rw [H_hf.out]
        exact ⟨rfl, by (repeat' (first | (with_reducible exact Vg.Grows.refl _) | (with_reducible assumption) | (with_reducible refine Vg.Grows.alloc ?_ _) | (with_reducible refine Vg.Grows.plus ?_ _ _) | (with_reducible refine Vg.Grows.drewN ?_ _) | (with_reducible refine Vg.Grows.drew ?_) | (with_reducible refine Vg.Grows.setCell ?_ ?_ _) | (with_reducible refine Vg.Grows.put ?_ ?_ _) | omega | (simp; omega) | (simp; done)))⟩
      · have hb : (x1 == m) = false := by simp [hxm]
        rw [Vg.Hs.find, if_neg hxm] at hpre
        have H_hpre := Lib.hid hpre; clear hpre; have H_hxk := Lib.hid hxk; clear hxk; have H_hxm := Lib.hid hxm; clear hxm
        go_wp2
        exact ⟨⟨k + 1, by omega, by go_num, H_hpre.out, by (repeat' (first | (with_reducible exact Vg.Grows.refl _) | (with_reducible assumption) | (with_reducible refine Vg.Grows.alloc ?_ _) | (with_reducible refine Vg.Grows.plus ?_ _ _) | (with_reducible refine Vg.Grows.drewN ?_ _) | (with_reducible refine Vg.Grows.drew ?_) | (with_reducible refine Vg.Grows.setCell ?_ ?_ _) | (with_reducible refine Vg.Grows.put ?_ ?_ _) | omega | (simp; omega) | (simp; done)))⟩, by simp [intOf]; omega⟩
    · have hkn : k = n := by omega
      subst hkn
      rw [List.drop_eq_nil_of_le (by rw [H_hn.out]; exact Nat.le_refl _)] at hpre
      have H_hpre := Lib.hid hpre; clear hpre
      go_wp2
      go_returns
      rw [← H_hpre.out]
      exact ⟨rfl, by (repeat' (first | (with_reducible exact Vg.Grows.refl _) | (with_reducible assumption) | (with_reducible refine Vg.Grows.alloc ?_ _) | (with_reducible refine Vg.Grows.plus ?_ _ _) | (with_reducible refine Vg.Grows.drewN ?_ _) | (with_reducible refine Vg.Grows.drew ?_) | (with_reducible refine Vg.Grows.setCell ?_ ?_ _) | (with_reducible refine Vg.Grows.put ?_ ?_ _) | omega | (simp; omega) | (simp; done)))⟩
end
end Go.Proofs.Ytiinhofmhoplfaa
