/- Package intc: lines, Check. -/
import Derived.Test.YtekjnagojphmkaaDoorIcA
set_option linter.unusedSimpArgs false
set_option linter.unusedVariables false
set_option maxHeartbeats 8000000
set_option maxRecDepth 100000
namespace Vg
open Go
def oddP (x : Int) : Bool := decide (x < 1) || decide (15 < x)
theorem Ic.Ok.odd {n : Nat} {c : Ic} (h : c.Ok n) : c.pr.any oddP = false := by
  rw [List.any_eq_false]
  intro x hx
  have := h.prs x hx
  simp [oddP]
  omega
theorem or_lt64 {a b : Nat} (ha : a < 18446744073709551616) (hb : b < 18446744073709551616) : a ||| b < 18446744073709551616 := by
  have := Nat.or_lt_two_pow (x := a) (y := b) (n := 64) (by simpa using ha) (by simpa using hb)
  simpa using this
theorem and_not_sub {a n : Nat} (h : a < 2 ^ n) (hn : n ≤ 64) : a &&& (18446744073709551615 - (2 ^ n - 1)) = 0 := by
  apply Nat.eq_of_testBit_eq
  intro i
  rw [Nat.testBit_and, Nat.zero_testBit]
  by_cases hi : n ≤ i
  · rw [tb_hin h hi]; rfl
  · have hz : 2 ^ n - 1 < 18446744073709551616 := by have := lt64_of (b := 2 ^ n - 1) (n := n) (by have := Nat.two_pow_pos n; omega) hn; exact this
    rw [not_tb hz (by omega), Nat.testBit_two_pow_sub_one]
    have : i < n := by omega
    simp [this]
/-- The level behind k of the stack. -/
def Ic.ahead (c : Ic) (k : Nat) : Int := match (c.st.take k).getLast? with
  | none => 0
  | some j => c.prio j
theorem Ic.Ok.ahead_lt {n : Nat} {c : Ic} (h : c.Ok n) {k : Nat} (hk : k < c.st.length) : c.ahead k < c.prio c.st[k] := by
  unfold Ic.ahead
  cases hl : (c.st.take k).getLast? with
  | none => have := h.prio_bd (h.sth _ (List.getElem_mem hk)); simp only; omega
  | some j =>
    have hj : j ∈ c.st.take k := List.mem_of_getLast? hl
    obtain ⟨i, hi, e⟩ := List.getElem_of_mem hj
    rw [List.getElem_take] at e
    have hik : i < k := by rw [List.length_take] at hi; omega
    have := List.pairwise_iff_getElem.1 h.asc i k (by omega) hk hik
    simp only
    rw [← e]
    exact this
theorem Ic.ahead_succ {c : Ic} {k : Nat} (hk : k < c.st.length) : c.ahead (k + 1) = c.prio c.st[k] := by
  have e : (c.st.take (k + 1)).getLast? = some c.st[k] := by
    rw [List.take_succ_eq_append_getElem hk, List.getLast?_append]
    rfl
  unfold Ic.ahead
  rw [e]
end Vg
namespace Go.Proofs.YtekjnagojphmkaaDoor
open Go.ChangeShapes Go.WideShapes Go.ChangeAt Go.RowKit
section
variable {w : World} {L : List Int} {sa : Option Addr} {sc : Nat}
theorem ic_odd (x : Int) (w : World) : Calls Tryd.prog 86 #[.int .i64 x] w fun e w' => e = .returned (.bool (Vg.oddP x)) ∧ w = w' := by
  by_cases h0 : x < 1
  · go_enter Tryd.func86, Tryd.ntmps86
    go_wp2
    go_ret
    exact ⟨ret_bool (by simp [Vg.oddP, h0]), rfl⟩
  · by_cases h1 : 15 < x
    · go_enter Tryd.func86, Tryd.ntmps86
      go_wp2
      go_ret
      exact ⟨ret_bool (by simp [Vg.oddP, h1]), rfl⟩
    · go_enter Tryd.func86, Tryd.ntmps86
      go_wp2
      go_ret
      exact ⟨ret_bool (by simp [Vg.oddP]; omega), rfl⟩
theorem ic_idx (hr : Vg.IR w sa sc L) :
    Calls Tryd.prog 90 #[.slice sa L.length sc, .func (.func 86) #[] #[]] w fun e w' => e = .returned (.int .i64 (Vg.idx Vg.oddP L)) ∧ w = w' := by
  have HR := Lib.hid hr
  clear hr
  obtain ⟨n, hn⟩ : ∃ n, L.length = n := ⟨_, rfl⟩
  rw [hn]
  have hcm : n ≤ 9223372036854775807 := by
    have h1 := HR.out.1
    have h2 : sc ≤ 9223372036854775807 := HR.out.2.1
    omega
  have H_hn := Lib.hid hn; clear hn
  go_enter Tryd.func90, Tryd.ntmps90
  go_wp2
  go_loop [8] (fun i => ∃ k : Nat, k ≤ n ∧ i = .int .i64 k ∧ (L.take k).any Vg.oddP = false) (fun i => n - (intOf i).toNat)
  case atStart => exact ⟨0, by omega, rfl, by simp⟩
  case round =>
    obtain ⟨k, hk, rfl, hpre⟩ := hrel
    by_cases hlt : k < n
    · have hkL : k < L.length := by rw [H_hn.out]; exact hlt
      obtain ⟨g, off, rfl, hg, hc, hm, hcell⟩ := HR.out.icell k hkL
      have hsn := List.take_succ_eq_append_getElem hkL
      obtain ⟨x, hx⟩ : ∃ x, L[k] = x := ⟨_, rfl⟩
      rw [hx] at hcell hsn
      cases hp : Vg.oddP x with
      | true =>
        have hi := Vg.idx_at hkL hpre (by rw [hx]; exact hp)
        have H_hpre := Lib.hid hpre; clear hpre; have H_hsn := Lib.hid hsn; clear hsn; have H_hx := Lib.hid hx; clear hx; have H_hp := Lib.hid hp; clear hp; have H_hi := Lib.hid hi; clear hi
        go_wp2_with ((go_at_call 86; refine (ic_odd _ _).mono ?_; rintro e w' ⟨rfl, rfl⟩; rw [H_hp.out]))
        go_ret
        rw [H_hi.out]
        exact ⟨rfl, rfl⟩
      | false =>
        have hnx : (L.take (k + 1)).any Vg.oddP = false := by rw [hsn, List.any_append, hpre]; simp [hp]
        have H_hpre := Lib.hid hpre; clear hpre; have H_hsn := Lib.hid hsn; clear hsn; have H_hx := Lib.hid hx; clear hx; have H_hp := Lib.hid hp; clear hp; have H_hnx := Lib.hid hnx; clear hnx
        go_wp2_with ((go_at_call 86; refine (ic_odd _ _).mono ?_; rintro e w' ⟨rfl, rfl⟩; rw [H_hp.out]))
        go_round
        case rel => exact ⟨k + 1, by omega, by go_num, H_hnx.out⟩
        case measure => simp [intOf]; omega
    · have hi : Vg.idx Vg.oddP L = -1 := Vg.idx_none (by rw [← hpre, List.take_of_length_le (by rw [H_hn.out]; omega)])
      have H_hpre := Lib.hid hpre; clear hpre; have H_hi := Lib.hid hi; clear hi
      go_wp2
      go_ret
      rw [H_hi.out]
      exact ⟨rfl, rfl⟩
theorem ic_contains (hr : Vg.IR w sa sc L) :
    Calls Tryd.prog 77 #[.slice sa L.length sc, .func (.func 86) #[] #[]] w fun e w' => e = .returned (.bool (L.any Vg.oddP)) ∧ w = w' := by
  cases h : L.any Vg.oddP with
  | true =>
    have hi := Vg.idx_some h
    obtain ⟨r, hr'⟩ : ∃ r, Vg.idx Vg.oddP L = r := ⟨_, rfl⟩
    rw [hr'] at hi
    have H_h := Lib.hid h; clear h; have H_hr' := Lib.hid hr'; clear hr'; have H_hr := Lib.hid hr; clear hr
    go_enter Tryd.func77, Tryd.ntmps77
    go_wp2_with ((go_at_call 90; refine (ic_idx H_hr.out).mono ?_; rintro e w' ⟨rfl, rfl⟩; rw [H_hr'.out]))
    go_ret
    exact ⟨rfl, rfl⟩
  | false =>
    have hi := Vg.idx_none h
    have H_h := Lib.hid h; clear h; have H_hi := Lib.hid hi; clear hi; have H_hr := Lib.hid hr; clear hr
    go_enter Tryd.func77, Tryd.ntmps77
    go_wp2_with ((go_at_call 90; refine (ic_idx H_hr.out).mono ?_; rintro e w' ⟨rfl, rfl⟩; rw [H_hi.out]))
    go_ret
    exact ⟨rfl, rfl⟩
end
section
variable {w w' : World} {c : Vg.Ic} {n m ed pc sc : Nat} {pa sa : Option Addr} {L : List Int}
theorem ic_contains' (hr : Vg.IR w pa pc L) (hn : L.length = n) {b : Bool} (hb : L.any Vg.oddP = b) :
    Calls Tryd.prog 77 #[.slice pa n pc, .func (.func 86) #[] #[]] w fun e w' => e = .returned (.bool b) ∧ w = w' := by
  subst hn hb
  exact ic_contains hr
theorem bits_between9 (n : Nat) (w : World) (h1 : 64 ≤ n) (h2 : n ≤ 9223372036854775807) (m : Int) (hm : m = (n : Int) - 1) :
    Calls Tryd.prog 27 #[.int .i64 0, .int .i64 m] w fun e w' => e = .returned (.int .u64 18446744073709551615) ∧ w = w' := by
  subst hm
  go_enter Tryd.func27, Tryd.ntmps27
  go_wp2_with ((go_at_call 63; (with_reducible refine (bits_from0 _).mono ?_); rintro e w1 ⟨rfl, rfl⟩))
  go_ret
  exact ⟨rfl, rfl⟩
/-- The set of all lines. -/
theorem ic_lines (a b d f : Int) (th : Int) (z : Nat) (hz : 2 ^ n - 1 = z) (h1 : 1 ≤ n) (h2 : n ≤ 64) (w : World) :
    Calls Tryd.prog 61 #[.agg #[.int .u64 a, .int .u64 b, .int .u64 d, .int .u64 f, .slice pa n pc, .int .i64 th, .slice sa m sc]] w fun e w' => e = .returned (.int .u64 z) ∧ Vg.Grows w w' := by
  have H_hz := Lib.hid hz; clear hz
  go_enter Tryd.func61, Tryd.ntmps61
  go_wp2_with ((go_at_call 27; (with_reducible refine (bits_between n H_hz.out _ h1 h2 _ rfl).mono ?_); rintro e w1 ⟨rfl, rfl⟩))
  go_ret
  exact ⟨rfl, by (repeat' (first | (with_reducible exact Vg.Grows.refl _) | (with_reducible assumption) | (with_reducible refine Vg.Grows.alloc ?_ _) | (with_reducible refine Vg.Grows.plus ?_ _ _) | (with_reducible refine Vg.Grows.drewN ?_ _) | (with_reducible refine Vg.Grows.drew ?_) | (with_reducible refine Vg.Grows.setCell ?_ ?_ _) | (with_reducible refine Vg.Grows.put ?_ ?_ _) | omega | (simp; omega) | (simp; done)))⟩
theorem ic_lines9 (a b d f : Int) (th : Int) (h1 : 64 < n) (h2 : n ≤ 9223372036854775807) (w : World) :
    Calls Tryd.prog 61 #[.agg #[.int .u64 a, .int .u64 b, .int .u64 d, .int .u64 f, .slice pa n pc, .int .i64 th, .slice sa m sc]] w fun e w' => e = .returned (.int .u64 18446744073709551615) ∧ Vg.Grows w w' := by
  go_enter Tryd.func61, Tryd.ntmps61
  go_wp2_with ((go_at_call 27; (with_reducible refine (bits_between9 n _ (by omega) h2 _ rfl).mono ?_); rintro e w1 ⟨rfl, rfl⟩))
  go_ret
  exact ⟨rfl, by (repeat' (first | (with_reducible exact Vg.Grows.refl _) | (with_reducible assumption) | (with_reducible refine Vg.Grows.alloc ?_ _) | (with_reducible refine Vg.Grows.plus ?_ _ _) | (with_reducible refine Vg.Grows.drewN ?_ _) | (with_reducible refine Vg.Grows.drew ?_) | (with_reducible refine Vg.Grows.setCell ?_ ?_ _) | (with_reducible refine Vg.Grows.put ?_ ?_ _) | omega | (simp; omega) | (simp; done)))⟩
theorem ic_check (h : IS w c n m pa pc sa sc) (hed : 2 ^ n - 1 = ed) {pe en : Nat} (hpe : c.pe = pe) (hen : c.en = en) :
    Calls Tryd.prog 62 #[icV pe en ed pa n pc sa m sc] w fun e w' => e = .returned (.int .i64 0) ∧ Vg.Grows w w' := by
  obtain ⟨q1, q2, q3, q4⟩ := h.caps
  obtain ⟨n1, n2⟩ := h.ok.n1
  have hodd := h.ok.odd
  have hpl := h.ok.len
  have hep : pe < 18446744073709551616 := by rw [← hpe]; exact h.ok.pe64
  have hee : en < 18446744073709551616 := by rw [← hen]; exact h.ok.en64
  have hpn : pe < 2 ^ n := by rw [← hpe]; exact h.ok.pe
  have hen2 : en < 2 ^ n := by rw [← hen]; exact h.ok.en
  have hed2 : ed < 2 ^ n := by have := Nat.two_pow_pos n; omega
  have hed3 : ed < 18446744073709551616 := Vg.lt64_of hed2 n2
  have hy1 := Vg.or_lt64 hep hee
  have hy2 := Vg.or_lt64 hy1 hed3
  have hy3 : (pe ||| en ||| ed) < 2 ^ n := Nat.or_lt_two_pow (Nat.or_lt_two_pow hpn hen2) hed2
  have k4 := Vg.and_not_sub hy3 n2
  rw [hed] at k4
  have e1 : bits .or .u64 (pe : Int) (en : Int) = ((pe ||| en : Nat) : Int) := u64_or_nat _ _ hep hee
  have e2 : bits .or .u64 ((pe ||| en : Nat) : Int) 0 = ((pe ||| en : Nat) : Int) := by
    have := u64_or_nat (pe ||| en) 0 hy1 (by decide)
    rw [Nat.or_zero] at this
    exact this
  have e3 : bits .or .u64 ((pe ||| en : Nat) : Int) (ed : Int) = ((pe ||| en ||| ed : Nat) : Int) := u64_or_nat _ _ hy1 hed3
  have e4 : bits .andNot .u64 ((pe ||| en ||| ed : Nat) : Int) (ed : Int) = 0 := by
    have := u64_andNot_nat (pe ||| en ||| ed) ed hy2 hed3
    rw [k4] at this
    exact this
  have e5 : bits .and .u64 0 (ed : Int) = 0 := by
    have := u64_and_nat 0 ed (by decide) hed3
    rw [Nat.zero_and] at this
    exact this
  obtain ⟨y, hy⟩ : ∃ y, (pe ||| en) = y := ⟨_, rfl⟩
  obtain ⟨y2, hyy⟩ : ∃ y2, (pe ||| en ||| ed) = y2 := ⟨_, rfl⟩
  rw [hyy] at e3 e4
  rw [hy] at e1 e2 e3
  have hnn : ((n : Int) == 0) = false := by simp; omega
  clear k4 hy1 hy2 hy3 hpn hen2 hed2
  have H_h := Lib.hid h; clear h; have H_hed := Lib.hid hed; clear hed; have H_hpe := Lib.hid hpe; clear hpe; have H_hen := Lib.hid hen; clear hen; have H_hodd := Lib.hid hodd; clear hodd; have H_hpl := Lib.hid hpl; clear hpl; have H_hep := Lib.hid hep; clear hep; have H_hee := Lib.hid hee; clear hee; have H_hed3 := Lib.hid hed3; clear hed3; have H_hy := Lib.hid hy; clear hy; have H_hyy := Lib.hid hyy; clear hyy
  go_enter Tryd.func62, Tryd.ntmps62
  go_wp2_with (first | (go_at_call 77; (with_reducible refine (ic_contains' (H_h.out.p.grows (by (repeat' (first | (with_reducible exact Vg.Grows.refl _) | (with_reducible assumption) | (with_reducible refine Vg.Grows.alloc ?_ _) | (with_reducible refine Vg.Grows.plus ?_ _ _) | (with_reducible refine Vg.Grows.drewN ?_ _) | (with_reducible refine Vg.Grows.drew ?_) | (with_reducible refine Vg.Grows.setCell ?_ ?_ _) | (with_reducible refine Vg.Grows.put ?_ ?_ _) | omega | (simp; omega) | (simp; done))))) H_hpl.out H_hodd.out).mono ?_); rintro e w1 ⟨rfl, rfl⟩) | (go_at_call 61; (with_reducible refine (ic_lines _ _ _ _ _ _ H_hed.out n1 n2 _).mono ?_); rintro e w1 ⟨rfl, x1, m1, rfl⟩))
  go_loopw [5, 63] (fun v5 i wr => ∃ k : Nat, k ≤ m ∧ i = .int .i64 k ∧ v5 = .int .i64 (c.ahead k) ∧ Vg.Grows (w.alloc (icO pe en ed pa n pc sa m sc)) wr) (fun _ i _ => m - (intOf i).toNat)
  case atStart => exact ⟨0, by omega, rfl, rfl, by (repeat' (first | (with_reducible exact Vg.Grows.refl _) | (with_reducible assumption) | (with_reducible refine Vg.Grows.alloc ?_ _) | (with_reducible refine Vg.Grows.plus ?_ _ _) | (with_reducible refine Vg.Grows.drewN ?_ _) | (with_reducible refine Vg.Grows.drew ?_) | (with_reducible refine Vg.Grows.setCell ?_ ?_ _) | (with_reducible refine Vg.Grows.put ?_ ?_ _) | omega | (simp; omega) | (simp; done)))⟩
  case round =>
    obtain ⟨k, hk, rfl, rfl, hgr⟩ := hrel
    have B1 := hgr.blk (Vg.alloc_heap_at rfl)
    have hg0 : Vg.Grows w wr := Vg.Grows.trans (by (repeat' (first | (with_reducible exact Vg.Grows.refl _) | (with_reducible assumption) | (with_reducible refine Vg.Grows.alloc ?_ _) | (with_reducible refine Vg.Grows.plus ?_ _ _) | (with_reducible refine Vg.Grows.drewN ?_ _) | (with_reducible refine Vg.Grows.drew ?_) | (with_reducible refine Vg.Grows.setCell ?_ ?_ _) | (with_reducible refine Vg.Grows.put ?_ ?_ _) | omega | (simp; omega) | (simp; done)))) hgr
    by_cases hlt : k < m
    · obtain ⟨g, off, hk', hsa, hg, hc⟩ := (H_h.out.grows hg0).scell k hlt
      subst hsa
      have hxn := H_h.out.ok.sth _ (List.getElem_mem hk')
      have hal := H_h.out.ok.ahead_lt hk'
      have has := Vg.Ic.ahead_succ hk'
      obtain ⟨x, hx⟩ : ∃ x, c.st[k] = x := ⟨_, rfl⟩
      rw [hx] at hc hxn hal has
      obtain ⟨g2, off2, hpa, hg2, hc2⟩ := (H_h.out.grows hg0).pcell x hxn
      subst hpa
      obtain ⟨ah, hah⟩ : ∃ a, c.ahead k = a := ⟨_, rfl⟩
      obtain ⟨px, hpx⟩ : ∃ a, c.prio x = a := ⟨_, rfl⟩
      rw [hah, hpx] at hal
      rw [hpx] at hc2 has
      rw [hah]
      have hx0 : (0 : Int) ≤ x := by omega
      have hx1 : (x : Int) < n := by omega
      have c_B1 := Vg.cells_of B1; have f_B1 := Vg.frozen_of B1; have p_B1 := Vg.setCell_of B1; have l_B1 := Vg.lt_of B1; have H_B1 := Lib.hid B1; clear B1
      have H_hgr := Lib.hid hgr; clear hgr; have H_has := Lib.hid has; clear has; have H_hah := Lib.hid hah; clear hah; have H_hpx := Lib.hid hpx; clear hpx; have H_hx := Lib.hid hx; clear hx
      go_wp2_with fail
      exact ⟨⟨k + 1, by omega, by go_num, by rw [H_has.out], Vg.Grows.trans H_hgr.out (by (repeat' (first | (with_reducible exact Vg.Grows.refl _) | (with_reducible assumption) | (with_reducible refine Vg.Grows.alloc ?_ _) | (with_reducible refine Vg.Grows.plus ?_ _ _) | (with_reducible refine Vg.Grows.drewN ?_ _) | (with_reducible refine Vg.Grows.drew ?_) | (with_reducible refine Vg.Grows.setCell ?_ ?_ _) | (with_reducible refine Vg.Grows.put ?_ ?_ _) | omega | (simp; omega) | (simp; done))))⟩, by simp [intOf]; omega⟩
    · have c_B1 := Vg.cells_of B1; have f_B1 := Vg.frozen_of B1; have p_B1 := Vg.setCell_of B1; have l_B1 := Vg.lt_of B1; have H_B1 := Lib.hid B1; clear B1
      have H_hgr := Lib.hid hgr; clear hgr
      go_wp2_with fail
      go_ret
      exact ⟨rfl, Vg.Grows.trans (Vg.Grows.alloc (Vg.Grows.refl _) _) H_hgr.out⟩
/-- There is no such controller. -/
theorem ic_check_no (hr : Vg.IR w pa pc L) (hn : L.length = n) (h1 : 1 ≤ n) (h : 64 < n ∨ L.any Vg.oddP = true) (a b d f th : Int) :
    Calls Tryd.prog 62 #[.agg #[.int .u64 a, .int .u64 b, .int .u64 d, .int .u64 f, .slice pa n pc, .int .i64 th, .slice sa m sc]] w fun e w' => e = .returned (.int .i64 2) ∧ Vg.Grows w w' := by
  have q1 := hr.1
  have q2 : pc ≤ 9223372036854775807 := hr.2.1
  rw [hn] at q1
  have hnn : ((n : Int) == 0) = false := by simp; omega
  by_cases h64 : 64 < n
  · clear h
    have H_hr := Lib.hid hr; clear hr; have H_hn := Lib.hid hn; clear hn
    go_enter Tryd.func62, Tryd.ntmps62
    go_wp2_with fail
    go_ret
    exact ⟨rfl, by (repeat' (first | (with_reducible exact Vg.Grows.refl _) | (with_reducible assumption) | (with_reducible refine Vg.Grows.alloc ?_ _) | (with_reducible refine Vg.Grows.plus ?_ _ _) | (with_reducible refine Vg.Grows.drewN ?_ _) | (with_reducible refine Vg.Grows.drew ?_) | (with_reducible refine Vg.Grows.setCell ?_ ?_ _) | (with_reducible refine Vg.Grows.put ?_ ?_ _) | omega | (simp; omega) | (simp; done)))⟩
  · have hodd := h.resolve_left h64
    clear h
    have H_hr := Lib.hid hr; clear hr; have H_hn := Lib.hid hn; clear hn; have H_hodd := Lib.hid hodd; clear hodd
    go_enter Tryd.func62, Tryd.ntmps62
    go_wp2_with (first | (go_at_call 77; (with_reducible refine (ic_contains' (H_hr.out.grows (by (repeat' (first | (with_reducible exact Vg.Grows.refl _) | (with_reducible assumption) | (with_reducible refine Vg.Grows.alloc ?_ _) | (with_reducible refine Vg.Grows.plus ?_ _ _) | (with_reducible refine Vg.Grows.drewN ?_ _) | (with_reducible refine Vg.Grows.drew ?_) | (with_reducible refine Vg.Grows.setCell ?_ ?_ _) | (with_reducible refine Vg.Grows.put ?_ ?_ _) | omega | (simp; omega) | (simp; done))))) H_hn.out H_hodd.out).mono ?_); rintro e w1 ⟨rfl, rfl⟩))
    go_ret
    exact ⟨rfl, by (repeat' (first | (with_reducible exact Vg.Grows.refl _) | (with_reducible assumption) | (with_reducible refine Vg.Grows.alloc ?_ _) | (with_reducible refine Vg.Grows.plus ?_ _ _) | (with_reducible refine Vg.Grows.drewN ?_ _) | (with_reducible refine Vg.Grows.drew ?_) | (with_reducible refine Vg.Grows.setCell ?_ ?_ _) | (with_reducible refine Vg.Grows.put ?_ ?_ _) | omega | (simp; omega) | (simp; done)))⟩
end
end Go.Proofs.YtekjnagojphmkaaDoor
