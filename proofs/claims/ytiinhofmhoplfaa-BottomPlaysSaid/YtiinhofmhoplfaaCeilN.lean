/- ceiling.New: slices.ContainsFunc at its closure; the loop that appends. -/
import Derived.Test.YtiinhofmhoplfaaCeil
set_option linter.unusedSimpArgs false
set_option linter.unusedVariables false
set_option maxHeartbeats 1000000
set_option maxRecDepth 100000
namespace Vg
open Go
def oddC (x : Int) : Bool := decide (x < 0) || decide (63 < x)
def idx (p : Int → Bool) : List Int → Int
  | [] => -1
  | x :: l => if p x then 0 else (if idx p l < 0 then -1 else idx p l + 1)
theorem idx_none {p : Int → Bool} : ∀ {L : List Int}, L.any p = false → idx p L = -1
  | [], _ => rfl
  | x :: l, h => by
    simp only [List.any_cons, Bool.or_eq_false_iff] at h
    rw [idx, if_neg (by rw [h.1]; simp), idx_none h.2]
    rfl
theorem idx_at {p : Int → Bool} : ∀ {L : List Int} {k : Nat} (h : k < L.length), (L.take k).any p = false → p L[k] = true → idx p L = k
  | [], k, h, _, _ => by simp at h
  | x :: l, 0, h, _, hp => by
    rw [idx, if_pos (by simpa using hp)]; rfl
  | x :: l, k + 1, h, hn, hp => by
    simp only [List.take_succ_cons, List.any_cons, Bool.or_eq_false_iff] at hn
    have := idx_at (L := l) (k := k) (by simpa using h) hn.2 (by simpa using hp)
    rw [idx, if_neg (by rw [hn.1]; simp), this, if_neg (by omega)]
    simp
theorem idx_some {p : Int → Bool} : ∀ {L : List Int}, L.any p = true → 0 ≤ idx p L
  | [], h => by simp at h
  | x :: l, h => by
    by_cases hp : p x = true
    · rw [idx, if_pos hp]; exact Int.le_refl 0
    · simp only [List.any_cons, Bool.or_eq_true, hp] at h
      have := idx_some (L := l) (by simpa using h)
      rw [idx, if_neg hp, if_neg (by omega)]
      omega
theorem three_new {w : World} {x y z : Value} {t : TypeId} {n : Nat} (hn : n = w.heap.size) : ∀ j u, [x, y, z][j]? = some u → (w.alloc (.cells #[x, y, z] t)).cell? ((⟨n, 0, none⟩ : Addr).add j) = some u := by
  subst hn
  intro j u hu
  rw [Addr.add_lit, cells_of (w := w.alloc (.cells #[x, y, z] t)) (b := w.heap.size) (cs := #[x, y, z]) (t := t) (f := (0, 0)) (alloc_heap_at rfl)]
  simpa using hu
/-- A slice of integers, whose cells are known (of an empty one nothing is said but its length). -/
def IR (w : World) (sa : Option Addr) (sc : Nat) (L : List Int) : Prop :=
  L.length ≤ sc ∧ sc ≤ maxLen ∧ ∀ k, (hk : k < L.length) → ∃ g off, sa = some ⟨g, off, none⟩ ∧ g < w.heap.size ∧ w.cell? ⟨g, off + k, none⟩ = some (.int .i64 L[k])
theorem IR.icell {w : World} {sa : Option Addr} {c : Nat} {L : List Int} (h : IR w sa c L) (k : Nat) (hk : k < L.length) :
    ∃ g off, sa = some ⟨g, off, none⟩ ∧ g < w.heap.size ∧ L.length ≤ c ∧ c ≤ 9223372036854775807 ∧ w.cell? ⟨g, off + k, none⟩ = some (.int .i64 L[k]) := by
  obtain ⟨h1, h2, h3⟩ := h
  obtain ⟨g, off, e, hg, hc⟩ := h3 k hk
  exact ⟨g, off, e, hg, h1, h2, hc⟩
theorem IR.grows {w w' : World} {sa : Option Addr} {c : Nat} {L : List Int} (h : IR w sa c L) (hg : Grows w w') : IR w' sa c L :=
  ⟨h.1, h.2.1, fun k hk => by
    obtain ⟨g, off, e, hlt, hc⟩ := h.2.2 k hk
    exact ⟨g, off, e, Nat.lt_of_lt_of_le hlt hg.size, (hg.below.cell (p := ⟨g, off + k, none⟩) hlt).trans hc⟩⟩
theorem IR.of_rows {w : World} {a : Option Addr} {len cap : Nat} {D : Nat → Nat → Int} (h : intRows w [.i64] a len cap D) : IR w a cap ((List.range len).map fun i => D i 0) := by
  refine ⟨by simpa using h.1, h.2.1, fun k hk => ?_⟩
  have hk' : k < len := by simpa using hk
  obtain ⟨b, off, rfl, hb, hc⟩ := h.open (by decide) (by omega)
  have := (hc k hk' 0 (by decide)).1
  simp only [List.length_cons, List.length_nil, Nat.zero_add, Nat.mul_one, Nat.add_zero, List.getElem_cons_zero] at this
  exact ⟨b, off, rfl, hb, by rw [this]; simp⟩
theorem IR.nil (w : World) : IR w none 0 [] := ⟨Nat.le_refl _, Nat.zero_le _, fun k hk => by simp at hk⟩
theorem IR.block {w : World} {g : Nat} {L : List Int} {t : TypeId} (h : blk w g = some (.cells (ics L).toArray t)) (hl : L.length ≤ maxLen) : IR w (some ⟨g, 0, none⟩) L.length L :=
  ⟨Nat.le_refl _, hl, fun k hk => ⟨g, 0, rfl, lt_of h, by rw [cells_of h]; simp [hk]⟩⟩
end Vg
namespace Go.Proofs.Ytiinhofmhoplfaa
open Go.ChangeShapes Go.WideShapes Go.ChangeAt Go.RowKit
section
variable {w : World} {L : List Int} {sa : Option Addr} {sc : Nat}
theorem ceil_odd (x : Int) (w : World) : Calls Try.prog 96 #[.int .i64 x] w fun e w' => e = .returned (.bool (Vg.oddC x)) ∧ w = w' := by
  by_cases h0 : x < 0
  · go_enter Try.func96, Try.ntmps96
    go_wp2
    go_ret
    exact ⟨ret_bool (by simp [Vg.oddC, h0]), rfl⟩
  · by_cases h1 : 63 < x
    · go_enter Try.func96, Try.ntmps96
      go_wp2
      go_ret
      exact ⟨ret_bool (by simp [Vg.oddC, h1]), rfl⟩
    · go_enter Try.func96, Try.ntmps96
      go_wp2
      go_ret
      exact ⟨ret_bool (by simp [Vg.oddC]; omega), rfl⟩
theorem ceil_idx (hr : Vg.IR w sa sc L) :
    Calls Try.prog 129 #[.slice sa L.length sc, .func (.func 96) #[] #[]] w fun e w' => e = .returned (.int .i64 (Vg.idx Vg.oddC L)) ∧ w = w' := by
  have HR := Lib.hid hr
  clear hr
  obtain ⟨n, hn⟩ : ∃ n, L.length = n := ⟨_, rfl⟩
  rw [hn]
  have hcm : n ≤ 9223372036854775807 := by
    have h1 := HR.out.1
    have h2 : sc ≤ 9223372036854775807 := HR.out.2.1
    omega
  have H_hn := Lib.hid hn; clear hn
  go_enter Try.func129, Try.ntmps129
  go_wp2
  go_loop [8] (fun i => ∃ k : Nat, k ≤ n ∧ i = .int .i64 k ∧ (L.take k).any Vg.oddC = false) (fun i => n - (intOf i).toNat)
  case atStart => exact ⟨0, by omega, rfl, by simp⟩
  case round =>
    obtain ⟨k, hk, rfl, hpre⟩ := hrel
    by_cases hlt : k < n
    · have hkL : k < L.length := by rw [H_hn.out]; exact hlt
      obtain ⟨g, off, rfl, hg, hc, hm, hcell⟩ := HR.out.icell k hkL
      have hsn := List.take_succ_eq_append_getElem hkL
      obtain ⟨x, hx⟩ : ∃ x, L[k] = x := ⟨_, rfl⟩
      rw [hx] at hcell hsn
      cases hp : Vg.oddC x with
      | true =>
        have hi := Vg.idx_at hkL hpre (by rw [hx]; exact hp)
        have H_hpre := Lib.hid hpre; clear hpre; have H_hsn := Lib.hid hsn; clear hsn; have H_hx := Lib.hid hx; clear hx; have H_hp := Lib.hid hp; clear hp; have H_hi := Lib.hid hi; clear hi
        go_wp2_with ((go_at_call 96; refine (ceil_odd _ _).mono ?_; rintro e w' ⟨rfl, rfl⟩; rw [H_hp.out]))
        go_ret
        rw [H_hi.out]
        exact ⟨rfl, rfl⟩
      | false =>
        have hnx : (L.take (k + 1)).any Vg.oddC = false := by rw [hsn, List.any_append, hpre]; simp [hp]
        have H_hpre := Lib.hid hpre; clear hpre; have H_hsn := Lib.hid hsn; clear hsn; have H_hx := Lib.hid hx; clear hx; have H_hp := Lib.hid hp; clear hp; have H_hnx := Lib.hid hnx; clear hnx
        go_wp2_with ((go_at_call 96; refine (ceil_odd _ _).mono ?_; rintro e w' ⟨rfl, rfl⟩; rw [H_hp.out]))
        go_round
        case rel => exact ⟨k + 1, by omega, by go_num, H_hnx.out⟩
        case measure => simp [intOf]; omega
    · have hi : Vg.idx Vg.oddC L = -1 := Vg.idx_none (by rw [← hpre, List.take_of_length_le (by rw [H_hn.out]; omega)])
      have H_hpre := Lib.hid hpre; clear hpre; have H_hi := Lib.hid hi; clear hi
      go_wp2
      go_ret
      rw [H_hi.out]
      exact ⟨rfl, rfl⟩
theorem ceil_contains (hr : Vg.IR w sa sc L) :
    Calls Try.prog 90 #[.slice sa L.length sc, .func (.func 96) #[] #[]] w fun e w' => e = .returned (.bool (L.any Vg.oddC)) ∧ w = w' := by
  cases h : L.any Vg.oddC with
  | true =>
    have hi := Vg.idx_some h
    obtain ⟨r, hr'⟩ : ∃ r, Vg.idx Vg.oddC L = r := ⟨_, rfl⟩
    rw [hr'] at hi
    have H_h := Lib.hid h; clear h; have H_hr' := Lib.hid hr'; clear hr'; have H_hr := Lib.hid hr; clear hr
    go_enter Try.func90, Try.ntmps90
    go_wp2_with ((go_at_call 129; refine (ceil_idx H_hr.out).mono ?_; rintro e w' ⟨rfl, rfl⟩; rw [H_hr'.out]))
    go_ret
    exact ⟨rfl, rfl⟩
  | false =>
    have hi := Vg.idx_none h
    have H_h := Lib.hid h; clear h; have H_hi := Lib.hid hi; clear hi; have H_hr := Lib.hid hr; clear hr
    go_enter Try.func90, Try.ntmps90
    go_wp2_with ((go_at_call 129; refine (ceil_idx H_hr.out).mono ?_; rintro e w' ⟨rfl, rfl⟩; rw [H_hi.out]))
    go_ret
    exact ⟨rfl, rfl⟩
theorem ceil_new_no (hr : Vg.IR w sa sc L) (h : 16 < L.length ∨ L.any Vg.oddC = true) :
    Calls Try.prog 29 #[.slice sa L.length sc] w fun e w' => e = .returned (.tuple #[.pointer none, .int .i64 1]) ∧ w = w' := by
  by_cases h1 : 16 < L.length
  · clear h
    have H_hr := Lib.hid hr; clear hr
    go_enter Try.func29, Try.ntmps29
    go_wp2_with fail
    go_ret2
    exact ⟨rfl, rfl⟩
  · have h2 : L.any Vg.oddC = true := h.resolve_left h1
    clear h
    have H_hr := Lib.hid hr; clear hr; have H_h2 := Lib.hid h2; clear h2
    go_enter Try.func29, Try.ntmps29
    go_wp2_with ((go_at_call 90; refine (ceil_contains H_hr.out).mono ?_; rintro e w' ⟨rfl, rfl⟩; rw [H_h2.out]))
    go_ret2
    exact ⟨rfl, rfl⟩
theorem ceil_new (hr : Vg.IR w sa sc L) (h1 : L.length ≤ 16) (h2 : L.any Vg.oddC = false) :
    Calls Try.prog 29 #[.slice sa L.length sc] w fun e w' => ∃ v, e = .returned (.tuple #[.pointer (some ⟨w.heap.size, 0, none⟩), .int .i64 0]) ∧ CE w' w.heap.size (w.heap.size + 1) (L.map fun c => ⟨c, false, 0⟩) v ∧ Vg.Grows w w' := by
  obtain ⟨i0, hi, hz0, hz1, hz2⟩ := info_parts Try.info_mutex
  obtain ⟨n, hn⟩ : ∃ n, L.length = n := ⟨_, rfl⟩
  have hcon := ceil_contains hr
  have HCON := Lib.hid hcon
  rw [hn] at h1 ⊢
  have H16 : n ≤ 16 := h1
  have H_hr := Lib.hid hr; clear hr; have H_h2 := Lib.hid h2; clear h2; have H_hn := Lib.hid hn; clear hn
  clear hcon
  go_enter Try.func29, Try.ntmps29
  go_wp2_with ((go_at_call 90; have hcon := HCON.out; rw [H_hn.out] at hcon; refine hcon.mono ?_; clear hcon; rintro e w' ⟨rfl, rfl⟩; rw [H_h2.out]))
  obtain ⟨b, hb⟩ : ∃ b, w.heap.size = b := ⟨_, rfl⟩
  obtain ⟨W0, hW0⟩ : ∃ W0, w.alloc (tabC (.slice none 0 0)) = W0 := ⟨_, rfl⟩
  have g1 : CE W0 b (b + 1) [] (.slice none 0 0) := by
    rw [← hW0, ← hb]
    exact ⟨Vg.alloc_heap_at rfl, Vg.Que.nil _ _ _ _⟩
  have g4 : Vg.Grows w W0 := by rw [← hW0]; (repeat' (first | (with_reducible exact Vg.Grows.refl _) | (with_reducible assumption) | (with_reducible refine Vg.Grows.alloc ?_ _) | (with_reducible refine Vg.Grows.plus ?_ _ _) | (with_reducible refine Vg.Grows.drewN ?_ _) | (with_reducible refine Vg.Grows.drew ?_) | (with_reducible refine Vg.Grows.setCell ?_ ?_ _) | (with_reducible refine Vg.Grows.put ?_ ?_ _) | omega | (simp; omega) | (simp; done)))
  have hbw : w.heap.size ≤ b := by omega
  have hsz : b + 1 ≤ W0.heap.size := by rw [← hW0, ← hb]; simp
  simp only [hb]
  rw [hW0]
  have H_hb := Lib.hid hb; clear hb; have H_hW0 := Lib.hid hW0; clear hW0; have H_g1 := Lib.hid g1; clear g1
  go_loopw [20] (fun i wr => ∃ (k : Nat) (v : Value), k ≤ n ∧ i = .int .i64 k ∧ b + 1 ≤ wr.heap.size ∧ Vg.Grows w wr ∧ CE wr b (b + 1) ((L.take k).map fun c => ⟨c, false, 0⟩) v) (fun i _ => n - (intOf i).toNat)
  case atStart => exact ⟨0, _, by omega, rfl, hsz, g4, H_g1.out⟩
  case round =>
    obtain ⟨k, v, hk, rfl, hszr, hgr, hce⟩ := hrel
    by_cases hlt : k < n
    · have hkL : k < L.length := by rw [H_hn.out]; exact hlt
      obtain ⟨g, off, rfl, hg, hc, hm, hcell⟩ := H_hr.out.icell k hkL
      have hsn := List.take_succ_eq_append_getElem hkL
      obtain ⟨x, hx⟩ : ∃ x, L[k] = x := ⟨_, rfl⟩
      rw [hx] at hcell hsn
      have hcell := (hgr.below.cell (p := ⟨g, off + k, none⟩) hg).trans hcell
      have hgl : g < wr.heap.size := Nat.lt_of_lt_of_le hg hgr.size
      have hlk : ((L.take k).map fun c => (⟨c, false, 0⟩ : Vg.Mx)).length = k := by simp; omega
      obtain ⟨d1, hq⟩ := hce
      rw [hlk] at hq
      obtain ⟨va, vc, rfl⟩ := hq.shape
      have c_d1 := Vg.cells_of d1; have f_d1 := Vg.frozen_of d1; have p_d1 := Vg.setCell_of d1; have l_d1 := Vg.lt_of d1; have H_d1 := Lib.hid d1; clear d1
      have H_hq := Lib.hid hq; clear hq; have H_hsn := Lib.hid hsn; clear hsn; have H_hx := Lib.hid hx; clear hx; have H_hlk := Lib.hid hlk; clear hlk
      go_wp2_with (at_builtin; (refine Vg.wpList_que (w := _) rfl (.tmp 28) (.tmp 31) 157 rfl (b + 1) 161 i0 (.agg #[.int .i64 0, .bool false, .int .i64 0]) 3 24 Try.underlying157 hi hz0 hz1 hz2 rfl (by decide) (.slice va k vc) k _ rfl (H_hq.out.grows (by (repeat' (first | (with_reducible exact Vg.Grows.refl _) | (with_reducible assumption) | (with_reducible refine Vg.Grows.alloc ?_ _) | (with_reducible refine Vg.Grows.plus ?_ _ _) | (with_reducible refine Vg.Grows.drewN ?_ _) | (with_reducible refine Vg.Grows.drew ?_) | (with_reducible refine Vg.Grows.setCell ?_ ?_ _) | (with_reducible refine Vg.Grows.put ?_ ?_ _) | omega | (simp; omega) | (simp; done))))) _ 1 1 [.int .i64 x, .bool false, .int .i64 0] rfl rfl (Vg.three_new (by first | rfl | ((try simp only [World.size_alloc, Vg.plus_size, Vg.put_size, World.size_setCell, World.size_drew, World.heap_drewN]) <;> omega))) (by simp [Value.oneCell']) (by decide) (by unfold maxLen; omega) (by omega) (by simp only [World.size_alloc]; omega) ?_; intro v2 W1 y2 m2 hq2 hs2 ho2; obtain ⟨a2, c2, rfl⟩ := hq2.shape; have z1 := (hs2.block b (fun hh => by have := (H_hq.out.lt b hh).1; omega)).trans ((Vg.alloc_heap_past l_d1).trans H_d1.out); have hszW := hs2.size; rw [World.size_alloc] at hszW; have hgW := hs2.grows (hgr.alloc _) (fun j hj => by have := (H_hq.out.lt j hj).1; omega); clear c_d1 f_d1 p_d1; have c_z1 := Vg.cells_of z1; have f_z1 := Vg.frozen_of z1; have p_z1 := Vg.setCell_of z1; have l_z1 := Vg.lt_of z1; have H_z1 := Lib.hid z1; clear z1; have H_hq2 := Lib.hid hq2; clear hq2; have H_hs2 := Lib.hid hs2; clear hs2; have H_ho2 := Lib.hid ho2; clear ho2))
      refine ⟨⟨k + 1, _, by omega, by go_num, by rw [Vg.plus_size, Vg.put_size]; omega, by (repeat' (first | (with_reducible exact Vg.Grows.refl _) | (with_reducible assumption) | (with_reducible refine Vg.Grows.alloc ?_ _) | (with_reducible refine Vg.Grows.plus ?_ _ _) | (with_reducible refine Vg.Grows.drewN ?_ _) | (with_reducible refine Vg.Grows.drew ?_) | (with_reducible refine Vg.Grows.setCell ?_ ?_ _) | (with_reducible refine Vg.Grows.put ?_ ?_ _) | omega | (simp; omega) | (simp; done))), (Vg.blk_plus (by rw [Vg.put_size]; omega)).trans (Vg.put_heap_same (by omega)), ?_⟩, by simp [intOf]; omega⟩
      rw [H_hsn.out, List.map_append, Vg.mcells_append, List.length_append, H_hlk.out]
      refine H_hq2.out.kept fun j hj => ?_
      have := (H_hq2.out.lt j hj).1
      rw [← Vg.put_plus (by omega)]
      exact Vg.put_heap_other (by omega)
    · have hkn : k = n := by omega
      subst hkn
      have htk : L.take k = L := List.take_of_length_le (by rw [H_hn.out]; exact Nat.le_refl _)
      rw [htk] at hce
      have H_hce := Lib.hid hce; clear hce; have H_htk := Lib.hid htk; clear htk
      go_wp2_with fail
      go_ret2
      exact ⟨v, (by rw [H_hb.out]; rfl), (by rw [H_hb.out]; exact H_hce.out), hgr⟩
end
end Go.Proofs.Ytiinhofmhoplfaa
