/- Package kern: odd, check. -/
import Derived.Test.YtiinhofmhoplfaaKernS
import Derived.Test.YtiinhofmhoplfaaMap
set_option linter.unusedSimpArgs false
set_option linter.unusedVariables false
set_option maxHeartbeats 8000000
set_option maxRecDepth 100000
namespace Vg
open Go
def tkcell (t : Tk) : Nat → Value
  | 0 => .int .u8 t.kd
  | 1 => .int .i64 t.pr
  | 2 => .int .i64 t.pe
  | 3 => .int .i64 t.og
  | 4 => .int .i64 t.dl
  | 5 => .int .i64 t.co
  | 6 => .int .i64 t.ro
  | 7 => .int .i64 t.lk
  | 8 => .int .i64 t.fr
  | _ => .int .i64 t.tt
/-- A slice of tasks, by its cells. -/
def TK (w : World) (sa : Option Addr) (sc : Nat) (T : List Tk) : Prop :=
  T.length ≤ sc ∧ sc ≤ maxLen ∧ ∀ k, (hk : k < T.length) → ∃ g off, sa = some ⟨g, off, none⟩ ∧ g < w.heap.size ∧ ∀ j, j < 10 → w.cell? ⟨g, off + k * 10 + j, none⟩ = some (tkcell T[k] j)
theorem TK.grows {w w' : World} {sa : Option Addr} {c : Nat} {T : List Tk} (h : TK w sa c T) (hg : Grows w w') : TK w' sa c T :=
  ⟨h.1, h.2.1, fun k hk => by
    obtain ⟨g, off, e, hlt, hc⟩ := h.2.2 k hk
    exact ⟨g, off, e, Nat.lt_of_lt_of_le hlt hg.size, fun j hj => (hg.below.cell (p := ⟨g, off + k * 10 + j, none⟩) hlt).trans (hc j hj)⟩⟩
def tkOf (D : Nat → Nat → Int) (i : Nat) : Tk := ⟨D i 0, D i 1, D i 2, D i 3, D i 4, D i 5, D i 6, D i 7, D i 8, D i 9⟩
def tksOf (D : Nat → Nat → Int) (n : Nat) : List Tk := (List.range n).map (tkOf D)
theorem tksOf_len (D : Nat → Nat → Int) (n : Nat) : (tksOf D n).length = n := by simp [tksOf]
theorem TK.of_rows {w : World} {a : Option Addr} {len cap : Nat} {D : Nat → Nat → Int} (h : intRows w [.u8, .i64, .i64, .i64, .i64, .i64, .i64, .i64, .i64, .i64] a len cap D) : TK w a cap (tksOf D len) := by
  refine ⟨by rw [tksOf_len]; exact h.1, h.2.1, fun k hk => ?_⟩
  have hk' : k < len := by rw [tksOf_len] at hk; exact hk
  obtain ⟨b, off, rfl, hb, hc⟩ := h.open (by decide) (by omega)
  have e : (tksOf D len)[k] = tkOf D k := by simp [tksOf]
  rw [e]
  refine ⟨b, off, rfl, hb, fun j hj => ?_⟩
  have c := (hc k hk' j hj).1
  simp only [List.length_cons, List.length_nil, Nat.zero_add] at c
  rcases j with _ | _ | _ | _ | _ | _ | _ | _ | _ | _ | j
  all_goals first
    | omega
    | simpa [tkOf, tkcell, Nat.add_assoc] using c
def tkcells : List Tk → List Value
  | [] => []
  | t :: l => .int .u8 t.kd :: .int .i64 t.pr :: .int .i64 t.pe :: .int .i64 t.og :: .int .i64 t.dl :: .int .i64 t.co :: .int .i64 t.ro :: .int .i64 t.lk :: .int .i64 t.fr :: .int .i64 t.tt :: tkcells l
theorem tkcells_get : ∀ (l : List Tk) (k : Nat) (h : k < l.length) (j : Nat), j < 10 → (tkcells l)[k * 10 + j]? = some (tkcell l[k] j)
  | [], k, h, _, _ => by simp at h
  | x :: l, 0, _, j, hj => by
    rcases j with _ | _ | _ | _ | _ | _ | _ | _ | _ | _ | j
    all_goals first
      | omega
      | (simp [tkcells, tkcell]; done)
  | x :: l, k + 1, h, j, hj => by
    have := tkcells_get l k (by simpa using h) j hj
    rw [show (k + 1) * 10 + j = k * 10 + j + 1 + 1 + 1 + 1 + 1 + 1 + 1 + 1 + 1 + 1 from by omega]
    simpa [tkcells] using this
theorem TK.block {w : World} {g : Nat} {T : List Tk} {t : TypeId} (h : blk w g = some (.cells (tkcells T).toArray t)) (hl : T.length ≤ maxLen) : TK w (some ⟨g, 0, none⟩) T.length T :=
  ⟨Nat.le_refl _, hl, fun k hk => ⟨g, 0, rfl, lt_of h, fun j hj => by
    rw [cells_of h, Nat.zero_add]
    have := tkcells_get T k hk j hj
    simpa using this⟩⟩
def oddK (t : Tk) : Bool := decide (t.pr < 0) || decide (63 < t.pr) || decide (t.ro < 1) || decide (16 < t.ro) || (decide (0 ≤ t.lk) && (decide (16 ≤ t.lk) || decide (t.fr < 0) || decide (t.tt ≤ t.fr) || decide (1099511627776 < t.tt)))
theorem oddK_no {t : Tk} (h : oddK t = false) : t.ok := by
  unfold oddK at h
  simp at h
  refine ⟨by omega, by omega, fun h0 => ?_⟩
  have := h.2 h0
  omega
def dupK (l : List Int) : Bool := decide (¬ l.Nodup)
theorem dupK_snoc (l : List Int) (x : Int) : dupK (l ++ [x]) = (dupK l || l.contains x) := by
  unfold dupK
  rw [Bool.eq_iff_iff]
  simp only [decide_eq_true_eq, Bool.or_eq_true, List.contains_iff_mem, List.nodup_append, List.nodup_cons, List.not_mem_nil, not_false_iff, List.nodup_nil, true_and, List.mem_singleton]
  constructor
  · intro h
    by_cases h1 : l.Nodup
    · right
      apply Classical.byContradiction
      intro h2
      exact h ⟨h1, fun a ha b hb => by subst hb; intro e; subst e; exact h2 ha⟩
    · exact .inl h1
  · rintro (h | h)
    · exact fun h2 => h h2.1
    · exact fun h2 => h2.2 x h x rfl rfl
def Kn.why (l : List Int) : Int := if dupK l = true then 12 else 0
theorem Kn.why_t {l : List Int} (h : dupK l = true) : Kn.why l = 12 := if_pos h
theorem Kn.why_eq {l m : List Int} (h : dupK l = dupK m) : Kn.why l = Kn.why m := by unfold Kn.why; rw [h]
def Kn.check (T : List Tk) : Int := if T.length = 0 ∨ 32 < T.length then 1 else if T.any oddK = true then 1 else Kn.why (T.map (·.pr))
end Vg
namespace Go.Proofs.Ytiinhofmhoplfaa
open Go.ChangeShapes Go.WideShapes Go.ChangeAt Go.RowKit
abbrev tkV (t : Vg.Tk) : Value := .agg #[.int .u8 t.kd, .int .i64 t.pr, .int .i64 t.pe, .int .i64 t.og, .int .i64 t.dl, .int .i64 t.co, .int .i64 t.ro, .int .i64 t.lk, .int .i64 t.fr, .int .i64 t.tt]
abbrev tkC (t : Vg.Tk) : Obj := .cells #[.int .u8 t.kd, .int .i64 t.pr, .int .i64 t.pe, .int .i64 t.og, .int .i64 t.dl, .int .i64 t.co, .int .i64 t.ro, .int .i64 t.lk, .int .i64 t.fr, .int .i64 t.tt] 129
theorem kern_odd (t : Vg.Tk) (w : World) {is : Bool} (his : Vg.oddK t = is) : Calls Try.prog 135 #[tkV t] w fun e w' => e = .returned (.bool is) ∧ Vg.Grows w w' := by
  subst his
  obtain ⟨kd, pr, pe, og, dl, co, ro, lk, fr, tt⟩ := t
  unfold Vg.oddK
  simp only []
  by_cases h1 : pr < 0
  · go_enter Try.func135, Try.ntmps135
    go_wp2
    go_ret
    exact ⟨ret_bool (by simp [h1]), by (repeat' (first | (with_reducible exact Vg.Grows.refl _) | (with_reducible assumption) | (with_reducible refine Vg.Grows.alloc ?_ _) | (with_reducible refine Vg.Grows.plus ?_ _ _) | (with_reducible refine Vg.Grows.drewN ?_ _) | (with_reducible refine Vg.Grows.drew ?_) | (with_reducible refine Vg.Grows.setCell ?_ ?_ _) | (with_reducible refine Vg.Grows.put ?_ ?_ _) | omega | (simp; omega) | (simp; done)))⟩
  · by_cases h2 : 63 < pr
    · go_enter Try.func135, Try.ntmps135
      go_wp2
      go_ret
      exact ⟨ret_bool (by simp [h2]), by (repeat' (first | (with_reducible exact Vg.Grows.refl _) | (with_reducible assumption) | (with_reducible refine Vg.Grows.alloc ?_ _) | (with_reducible refine Vg.Grows.plus ?_ _ _) | (with_reducible refine Vg.Grows.drewN ?_ _) | (with_reducible refine Vg.Grows.drew ?_) | (with_reducible refine Vg.Grows.setCell ?_ ?_ _) | (with_reducible refine Vg.Grows.put ?_ ?_ _) | omega | (simp; omega) | (simp; done)))⟩
    · by_cases h3 : ro < 1
      · go_enter Try.func135, Try.ntmps135
        go_wp2
        go_ret
        exact ⟨ret_bool (by simp [h3]), by (repeat' (first | (with_reducible exact Vg.Grows.refl _) | (with_reducible assumption) | (with_reducible refine Vg.Grows.alloc ?_ _) | (with_reducible refine Vg.Grows.plus ?_ _ _) | (with_reducible refine Vg.Grows.drewN ?_ _) | (with_reducible refine Vg.Grows.drew ?_) | (with_reducible refine Vg.Grows.setCell ?_ ?_ _) | (with_reducible refine Vg.Grows.put ?_ ?_ _) | omega | (simp; omega) | (simp; done)))⟩
      · by_cases h4 : 16 < ro
        · go_enter Try.func135, Try.ntmps135
          go_wp2
          go_ret
          exact ⟨ret_bool (by simp [h4]), by (repeat' (first | (with_reducible exact Vg.Grows.refl _) | (with_reducible assumption) | (with_reducible refine Vg.Grows.alloc ?_ _) | (with_reducible refine Vg.Grows.plus ?_ _ _) | (with_reducible refine Vg.Grows.drewN ?_ _) | (with_reducible refine Vg.Grows.drew ?_) | (with_reducible refine Vg.Grows.setCell ?_ ?_ _) | (with_reducible refine Vg.Grows.put ?_ ?_ _) | omega | (simp; omega) | (simp; done)))⟩
        · by_cases h5 : lk < 0
          · go_enter Try.func135, Try.ntmps135
            go_wp2
            go_ret
            exact ⟨ret_bool (by simp [h1, h2, h3, h4]; omega), by (repeat' (first | (with_reducible exact Vg.Grows.refl _) | (with_reducible assumption) | (with_reducible refine Vg.Grows.alloc ?_ _) | (with_reducible refine Vg.Grows.plus ?_ _ _) | (with_reducible refine Vg.Grows.drewN ?_ _) | (with_reducible refine Vg.Grows.drew ?_) | (with_reducible refine Vg.Grows.setCell ?_ ?_ _) | (with_reducible refine Vg.Grows.put ?_ ?_ _) | omega | (simp; omega) | (simp; done)))⟩
          · have h5' : 0 ≤ lk := by omega
            by_cases h6 : 16 ≤ lk
            · go_enter Try.func135, Try.ntmps135
              go_wp2
              go_ret
              exact ⟨ret_bool (by simp [h1, h2, h3, h4, h5', h6]), by (repeat' (first | (with_reducible exact Vg.Grows.refl _) | (with_reducible assumption) | (with_reducible refine Vg.Grows.alloc ?_ _) | (with_reducible refine Vg.Grows.plus ?_ _ _) | (with_reducible refine Vg.Grows.drewN ?_ _) | (with_reducible refine Vg.Grows.drew ?_) | (with_reducible refine Vg.Grows.setCell ?_ ?_ _) | (with_reducible refine Vg.Grows.put ?_ ?_ _) | omega | (simp; omega) | (simp; done)))⟩
            · by_cases h7 : fr < 0
              · go_enter Try.func135, Try.ntmps135
                go_wp2
                go_ret
                exact ⟨ret_bool (by simp [h1, h2, h3, h4, h5', h6, h7]), by (repeat' (first | (with_reducible exact Vg.Grows.refl _) | (with_reducible assumption) | (with_reducible refine Vg.Grows.alloc ?_ _) | (with_reducible refine Vg.Grows.plus ?_ _ _) | (with_reducible refine Vg.Grows.drewN ?_ _) | (with_reducible refine Vg.Grows.drew ?_) | (with_reducible refine Vg.Grows.setCell ?_ ?_ _) | (with_reducible refine Vg.Grows.put ?_ ?_ _) | omega | (simp; omega) | (simp; done)))⟩
              · by_cases h8 : tt ≤ fr
                · go_enter Try.func135, Try.ntmps135
                  go_wp2
                  go_ret
                  exact ⟨ret_bool (by simp [h1, h2, h3, h4, h5', h6, h7, h8]), by (repeat' (first | (with_reducible exact Vg.Grows.refl _) | (with_reducible assumption) | (with_reducible refine Vg.Grows.alloc ?_ _) | (with_reducible refine Vg.Grows.plus ?_ _ _) | (with_reducible refine Vg.Grows.drewN ?_ _) | (with_reducible refine Vg.Grows.drew ?_) | (with_reducible refine Vg.Grows.setCell ?_ ?_ _) | (with_reducible refine Vg.Grows.put ?_ ?_ _) | omega | (simp; omega) | (simp; done)))⟩
                · by_cases h9 : 1099511627776 < tt
                  · go_enter Try.func135, Try.ntmps135
                    go_wp2
                    go_ret
                    exact ⟨ret_bool (by simp [h1, h2, h3, h4, h5', h6, h7, h8, h9]), by (repeat' (first | (with_reducible exact Vg.Grows.refl _) | (with_reducible assumption) | (with_reducible refine Vg.Grows.alloc ?_ _) | (with_reducible refine Vg.Grows.plus ?_ _ _) | (with_reducible refine Vg.Grows.drewN ?_ _) | (with_reducible refine Vg.Grows.drew ?_) | (with_reducible refine Vg.Grows.setCell ?_ ?_ _) | (with_reducible refine Vg.Grows.put ?_ ?_ _) | omega | (simp; omega) | (simp; done)))⟩
                  · go_enter Try.func135, Try.ntmps135
                    go_wp2
                    go_ret
                    exact ⟨ret_bool (by simp [h1, h2, h3, h4, h5', h6, h7, h8, h9]), by (repeat' (first | (with_reducible exact Vg.Grows.refl _) | (with_reducible assumption) | (with_reducible refine Vg.Grows.alloc ?_ _) | (with_reducible refine Vg.Grows.plus ?_ _ _) | (with_reducible refine Vg.Grows.drewN ?_ _) | (with_reducible refine Vg.Grows.drew ?_) | (with_reducible refine Vg.Grows.setCell ?_ ?_ _) | (with_reducible refine Vg.Grows.put ?_ ?_ _) | omega | (simp; omega) | (simp; done)))⟩
theorem zeroB (w : World) : (zeroValue 4).run Try.prog w = .ok (.bool false) w := by kernel_rfl
theorem kern_check {w : World} {T : List Vg.Tk} {sa : Option Addr} {sc n : Nat} {r : Int} (hr : Vg.TK w sa sc T) (hn : T.length = n) (hx : Vg.Kn.check T = r) :
    Calls Try.prog 113 #[.slice sa n sc] w fun e w' => e = .returned (.int .i64 r) ∧ Vg.Grows w w' := by
  have hmm := @run_makeMap Try.prog
  have hsc : sc ≤ 9223372036854775807 := hr.2.1
  have hns : n ≤ sc := by rw [← hn]; exact hr.1
  unfold Vg.Kn.check at hx
  rw [hn] at hx
  by_cases h0 : n = 0
  · rw [if_pos (.inl h0)] at hx
    subst hx h0
    have H_hr := Lib.hid hr; clear hr; have H_hn := Lib.hid hn; clear hn
    go_enter Try.func113, Try.ntmps113
    go_wp2
    go_ret
    exact ⟨rfl, by (repeat' (first | (with_reducible exact Vg.Grows.refl _) | (with_reducible assumption) | (with_reducible refine Vg.Grows.alloc ?_ _) | (with_reducible refine Vg.Grows.plus ?_ _ _) | (with_reducible refine Vg.Grows.drewN ?_ _) | (with_reducible refine Vg.Grows.drew ?_) | (with_reducible refine Vg.Grows.setCell ?_ ?_ _) | (with_reducible refine Vg.Grows.put ?_ ?_ _) | omega | (simp; omega) | (simp; done)))⟩
  · by_cases h32 : 32 < n
    · rw [if_pos (.inr h32)] at hx
      subst hx
      have hz : ((n : Int) == 0) = false := by simp; exact h0
      have H_hr := Lib.hid hr; clear hr; have H_hn := Lib.hid hn; clear hn
      go_enter Try.func113, Try.ntmps113
      go_wp2
      go_ret
      exact ⟨rfl, by (repeat' (first | (with_reducible exact Vg.Grows.refl _) | (with_reducible assumption) | (with_reducible refine Vg.Grows.alloc ?_ _) | (with_reducible refine Vg.Grows.plus ?_ _ _) | (with_reducible refine Vg.Grows.drewN ?_ _) | (with_reducible refine Vg.Grows.drew ?_) | (with_reducible refine Vg.Grows.setCell ?_ ?_ _) | (with_reducible refine Vg.Grows.put ?_ ?_ _) | omega | (simp; omega) | (simp; done)))⟩
    · rw [if_neg (by omega)] at hx
      have hz : ((n : Int) == 0) = false := by simp; exact h0
      have H_hr := Lib.hid hr; clear hr; have H_hn := Lib.hid hn; clear hn; have H_hx := Lib.hid hx; clear hx
      go_enter Try.func113, Try.ntmps113
      go_wp2
      go_loopw [3, 18] (fun v i wr => ∃ j : Nat, j ≤ n ∧ i = .int .i64 j ∧ v = .int .i64 (Vg.Kn.why ((T.take j).map (·.pr))) ∧ (T.take j).any Vg.oddK = false ∧ Vg.Grows w wr ∧ Vg.BMap wr Try.prog 3 4 w.heap.size j (fun x => ((T.take j).map (·.pr)).contains x)) (fun _ i _ => n - (intOf i).toNat)
      case atStart => exact ⟨0, by omega, rfl, by simp [Vg.Kn.why, Vg.dupK], by simp, by (repeat' (first | (with_reducible exact Vg.Grows.refl _) | (with_reducible assumption) | (with_reducible refine Vg.Grows.alloc ?_ _) | (with_reducible refine Vg.Grows.plus ?_ _ _) | (with_reducible refine Vg.Grows.drewN ?_ _) | (with_reducible refine Vg.Grows.drew ?_) | (with_reducible refine Vg.Grows.setCell ?_ ?_ _) | (with_reducible refine Vg.Grows.put ?_ ?_ _) | omega | (simp; omega) | (simp; done))), by simpa using Vg.BMap.made w Try.prog 3 4⟩
      case round =>
        obtain ⟨j, hj, rfl, rfl, hpre, hgr, hbm⟩ := hrel
        by_cases hlt : j < n
        · have hjT : j < T.length := by rw [H_hn.out]; exact hlt
          obtain ⟨g, off, rfl, hg, hc⟩ := H_hr.out.2.2 j hjT
          have hsn := List.take_succ_eq_append_getElem hjT
          obtain ⟨t, ht⟩ : ∃ t, T[j] = t := ⟨_, rfl⟩
          have hc' : ∀ i, i < 10 → wr.cell? ⟨g, off + j * 10 + i, none⟩ = some (Vg.tkcell t i) := fun i hi => (hgr.below.cell (p := ⟨g, off + j * 10 + i, none⟩) hg).trans (by rw [← ht]; exact hc i hi)
          rw [ht] at hsn
          have hgl : g < wr.heap.size := Nat.lt_of_lt_of_le hg hgr.size
          have c0 := hc' 0 (by decide)
          have c1 := hc' 1 (by decide)
          have c2 := hc' 2 (by decide)
          have c3 := hc' 3 (by decide)
          have c4 := hc' 4 (by decide)
          have c5 := hc' 5 (by decide)
          have c6 := hc' 6 (by decide)
          have c7 := hc' 7 (by decide)
          have c8 := hc' 8 (by decide)
          have c9 := hc' 9 (by decide)
          simp only [Vg.tkcell, Nat.add_zero] at c0 c1 c2 c3 c4 c5 c6 c7 c8 c9
          clear hc hc'
          have hmb := hbm.lt
          cases ho : Vg.oddK t with
          | true =>
            have hany : T.any Vg.oddK = true := List.any_eq_true.2 ⟨t, by rw [← ht]; exact List.getElem_mem _, ho⟩
            have hr1 : r = 1 := by have := H_hx.out; rw [if_pos hany] at this; exact this.symm
            subst hr1
            have H_hpre := Lib.hid hpre; clear hpre; have H_hbm := Lib.hid hbm; clear hbm; have H_hsn := Lib.hid hsn; clear hsn; have H_ht := Lib.hid ht; clear ht; have H_ho := Lib.hid ho; clear ho; have H_hany := Lib.hid hany; clear hany
            go_wp2_with ((go_at_call 135; refine (kern_odd t _ H_ho.out).mono ?_; rintro e w1 ⟨rfl, x1, n1, rfl⟩))
            go_ret
            exact ⟨rfl, by (repeat' (first | (with_reducible exact Vg.Grows.refl _) | (with_reducible assumption) | (with_reducible refine Vg.Grows.alloc ?_ _) | (with_reducible refine Vg.Grows.plus ?_ _ _) | (with_reducible refine Vg.Grows.drewN ?_ _) | (with_reducible refine Vg.Grows.drew ?_) | (with_reducible refine Vg.Grows.setCell ?_ ?_ _) | (with_reducible refine Vg.Grows.put ?_ ?_ _) | omega | (simp; omega) | (simp; done)))⟩
          | false =>
            have htk := Vg.oddK_no ho
            have hp0 := htk.1
            have hwf : (Lit.int .i64 t.pr).wf = true := by
              simp only [Lit.wf, Bool.and_eq_true, decide_eq_true_eq]
              exact ⟨by show (-9223372036854775808 : Int) ≤ _; omega, by show _ ≤ (9223372036854775807 : Int); omega⟩
            have hpre2 : (T.take (j + 1)).any Vg.oddK = false := by rw [hsn, List.any_append, hpre]; simp [ho]
            have hdup := Vg.dupK_snoc ((T.take j).map (·.pr)) t.pr
            have hmap : (T.take (j + 1)).map (·.pr) = (T.take j).map (·.pr) ++ [t.pr] := by rw [hsn, List.map_append]; rfl
            rw [← hmap] at hdup
            obtain ⟨L, hL⟩ : ∃ L, (T.take j).map (·.pr) = L := ⟨_, rfl⟩
            rw [hL] at hbm hdup hmap ⊢
            have hfin : ∀ wz (f : Int → Bool), Vg.BMap wz Try.prog 3 4 w.heap.size (j + 1) (fun z => if z = t.pr then true else L.contains z) → Vg.BMap wz Try.prog 3 4 w.heap.size (j + 1) (fun z => ((T.take (j + 1)).map (·.pr)).contains z) := fun wz f h => by
              have e : (fun z => ((T.take (j + 1)).map (·.pr)).contains z) = fun z => if z = t.pr then true else L.contains z := by
                funext z
                rw [hmap]
                by_cases hz : z = t.pr
                · subst hz; simp
                · rw [if_neg hz]; simp [hz]
              rw [e]; exact h
            cases hcon : L.contains t.pr with
            | true =>
              have hd2 : Vg.dupK ((T.take (j + 1)).map (·.pr)) = true := by rw [hdup, hcon]; simp
              have H_hpre := Lib.hid hpre; clear hpre; have H_hbm := Lib.hid hbm; clear hbm; have H_hsn := Lib.hid hsn; clear hsn; have H_ht := Lib.hid ht; clear ht; have H_ho := Lib.hid ho; clear ho; have H_hpre2 := Lib.hid hpre2; clear hpre2; have H_hdup := Lib.hid hdup; clear hdup; have H_hmap := Lib.hid hmap; clear hmap; have H_hL := Lib.hid hL; clear hL; have H_hfin := Lib.hid hfin; clear hfin; have H_hcon := Lib.hid hcon; clear hcon; have H_hd2 := Lib.hid hd2; clear hd2; have H_htk := Lib.hid htk; clear htk
              go_wp2_with (first | (go_at_call 135; refine (kern_odd t _ H_ho.out).mono ?_; rintro e w1 ⟨rfl, x1, n1, rfl⟩) | (at_lookup; go_loud (refine Vg.wpList_lookup_bool _ rfl _ _ 232 rfl 3 4 Try.underlying3 Try.underlying232 Try.underlying4 (zeroB _) w.heap.size j _ rfl (H_hbm.out.grows (by (repeat' (first | (with_reducible exact Vg.Grows.refl _) | (with_reducible assumption) | (with_reducible refine Vg.Grows.alloc ?_ _) | (with_reducible refine Vg.Grows.plus ?_ _ _) | (with_reducible refine Vg.Grows.drewN ?_ _) | (with_reducible refine Vg.Grows.drew ?_) | (with_reducible refine Vg.Grows.setCell ?_ ?_ _) | (with_reducible refine Vg.Grows.put ?_ ?_ _) | omega | (simp; omega) | (simp; done))))) _ rfl hwf ?_); rw [H_hcon.out]) | (at_mapUpdate; go_loud (refine Vg.wpList_mapUpdate_bool _ rfl _ _ _ 232 rfl 3 4 Try.underlying3 Try.underlying232 Try.underlying4 w.heap.size j _ rfl (H_hbm.out.grows (by (repeat' (first | (with_reducible exact Vg.Grows.refl _) | (with_reducible assumption) | (with_reducible refine Vg.Grows.alloc ?_ _) | (with_reducible refine Vg.Grows.plus ?_ _ _) | (with_reducible refine Vg.Grows.drewN ?_ _) | (with_reducible refine Vg.Grows.drew ?_) | (with_reducible refine Vg.Grows.setCell ?_ ?_ _) | (with_reducible refine Vg.Grows.put ?_ ?_ _) | omega | (simp; omega) | (simp; done))))) (by unfold maxLen; omega) _ rfl hwf true rfl w (by (repeat' (first | (with_reducible exact Vg.Grows.refl _) | (with_reducible assumption) | (with_reducible refine Vg.Grows.alloc ?_ _) | (with_reducible refine Vg.Grows.plus ?_ _ _) | (with_reducible refine Vg.Grows.drewN ?_ _) | (with_reducible refine Vg.Grows.drew ?_) | (with_reducible refine Vg.Grows.setCell ?_ ?_ _) | (with_reducible refine Vg.Grows.put ?_ ?_ _) | omega | (simp; omega) | (simp; done)))) (Nat.le_refl _) ?_); intro w3 hbm3 hg3 hs3; have H_hbm3 := Lib.hid hbm3; clear hbm3))
              exact ⟨⟨j + 1, by omega, by go_num, by rw [Vg.Kn.why_t H_hd2.out], H_hpre2.out, hg3, H_hfin.out _ (fun _ => true) H_hbm3.out⟩, by simp [intOf]; omega⟩
            | false =>
              have hd2 : Vg.dupK ((T.take (j + 1)).map (·.pr)) = Vg.dupK L := by rw [hdup, hcon]; simp
              have H_hpre := Lib.hid hpre; clear hpre; have H_hbm := Lib.hid hbm; clear hbm; have H_hsn := Lib.hid hsn; clear hsn; have H_ht := Lib.hid ht; clear ht; have H_ho := Lib.hid ho; clear ho; have H_hpre2 := Lib.hid hpre2; clear hpre2; have H_hdup := Lib.hid hdup; clear hdup; have H_hmap := Lib.hid hmap; clear hmap; have H_hL := Lib.hid hL; clear hL; have H_hfin := Lib.hid hfin; clear hfin; have H_hcon := Lib.hid hcon; clear hcon; have H_hd2 := Lib.hid hd2; clear hd2; have H_htk := Lib.hid htk; clear htk
              go_wp2_with (first | (go_at_call 135; refine (kern_odd t _ H_ho.out).mono ?_; rintro e w1 ⟨rfl, x1, n1, rfl⟩) | (at_lookup; go_loud (refine Vg.wpList_lookup_bool _ rfl _ _ 232 rfl 3 4 Try.underlying3 Try.underlying232 Try.underlying4 (zeroB _) w.heap.size j _ rfl (H_hbm.out.grows (by (repeat' (first | (with_reducible exact Vg.Grows.refl _) | (with_reducible assumption) | (with_reducible refine Vg.Grows.alloc ?_ _) | (with_reducible refine Vg.Grows.plus ?_ _ _) | (with_reducible refine Vg.Grows.drewN ?_ _) | (with_reducible refine Vg.Grows.drew ?_) | (with_reducible refine Vg.Grows.setCell ?_ ?_ _) | (with_reducible refine Vg.Grows.put ?_ ?_ _) | omega | (simp; omega) | (simp; done))))) _ rfl hwf ?_); rw [H_hcon.out]) | (at_mapUpdate; go_loud (refine Vg.wpList_mapUpdate_bool _ rfl _ _ _ 232 rfl 3 4 Try.underlying3 Try.underlying232 Try.underlying4 w.heap.size j _ rfl (H_hbm.out.grows (by (repeat' (first | (with_reducible exact Vg.Grows.refl _) | (with_reducible assumption) | (with_reducible refine Vg.Grows.alloc ?_ _) | (with_reducible refine Vg.Grows.plus ?_ _ _) | (with_reducible refine Vg.Grows.drewN ?_ _) | (with_reducible refine Vg.Grows.drew ?_) | (with_reducible refine Vg.Grows.setCell ?_ ?_ _) | (with_reducible refine Vg.Grows.put ?_ ?_ _) | omega | (simp; omega) | (simp; done))))) (by unfold maxLen; omega) _ rfl hwf true rfl w (by (repeat' (first | (with_reducible exact Vg.Grows.refl _) | (with_reducible assumption) | (with_reducible refine Vg.Grows.alloc ?_ _) | (with_reducible refine Vg.Grows.plus ?_ _ _) | (with_reducible refine Vg.Grows.drewN ?_ _) | (with_reducible refine Vg.Grows.drew ?_) | (with_reducible refine Vg.Grows.setCell ?_ ?_ _) | (with_reducible refine Vg.Grows.put ?_ ?_ _) | omega | (simp; omega) | (simp; done)))) (Nat.le_refl _) ?_); intro w3 hbm3 hg3 hs3; have H_hbm3 := Lib.hid hbm3; clear hbm3))
              exact ⟨⟨j + 1, by omega, by go_num, by rw [Vg.Kn.why_eq H_hd2.out], H_hpre2.out, hg3, H_hfin.out _ (fun _ => true) H_hbm3.out⟩, by simp [intOf]; omega⟩
        · have hjn : j = n := by omega
          subst hjn
          have htk : T.take j = T := List.take_of_length_le (by rw [H_hn.out]; exact Nat.le_refl _)
          rw [htk] at hpre ⊢
          have hr2 := H_hx.out
          rw [if_neg (by rw [hpre]; simp)] at hr2
          rw [hr2]
          have H_hpre := Lib.hid hpre; clear hpre; have H_hbm := Lib.hid hbm; clear hbm; have H_htk := Lib.hid htk; clear htk; have H_hr2 := Lib.hid hr2; clear hr2
          go_wp2_with fail
          go_ret
          exact ⟨rfl, hgr⟩
end Go.Proofs.Ytiinhofmhoplfaa
