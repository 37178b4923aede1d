/- Contracts of storm's reference (vergeref16): a mask by value, the times of its entries in a slice. -/
import Derived.Test.YtlgkcpgmnpoanaaRow
import Derived.Test.YtlgkcpgmnpoanaaStorm
import Derived.Test.YtlgkcpgmnpoanaaTime
set_option linter.unusedSimpArgs false
set_option linter.unusedVariables false
set_option maxHeartbeats 400000
set_option maxRecDepth 20000
namespace Vg
def refNext (window : Int) : List Int → Int × Bool
  | [] => (0, false)
  | t :: _ => (t + window, true)
end Vg
namespace Go.Proofs.Ytlgkcpgmnpoanaa
open Go.ChangeShapes Go.WideShapes Go.ChangeAt Go.RowKit
abbrev ints (L : List Int) : List Value := L.map (Value.int .i64)

section
variable {S : Nat} {many window last refused : Int} {sa : Option Addr} {sn sc : Nat} {L : List Int} {w : World}
theorem ref16_new (m wd : Int) :
    Calls Try.prog 17 #[.int .i64 m, .int .i64 wd] w fun e w' => e = .returned (.tuple #[.agg #[.int .i64 m, .int .i64 wd, .slice none 0 0, .int .i64 0, .int .i64 0], .bool (decide (1 ≤ m) && decide (m ≤ 64) && decide (1 ≤ wd) && decide (wd ≤ 1099511627776))]) ∧ Vg.Grows w w' := by
  go_enter Try.func17, Try.ntmps17
  go_wp2
  all_goals go_returns
  all_goals exact ⟨by simp [*]; try omega, by (repeat' (first | (with_reducible exact Vg.Grows.refl _) | (with_reducible assumption) | (with_reducible refine Vg.Grows.alloc ?_ _) | (with_reducible refine Vg.Grows.plus ?_ _ _) | (with_reducible refine Vg.Grows.drewN ?_ _) | (with_reducible refine Vg.Grows.drew ?_) | (with_reducible refine Vg.Grows.setCell ?_ ?_ _) | (with_reducible refine Vg.Grows.put ?_ ?_ _) | omega | (simp; omega) | (simp; done)))⟩

theorem ref16_back_no (now : Int) (hno : Vg.timeB now = false ∨ now < last) :
    Calls Try.prog 64 #[.agg #[.int .i64 many, .int .i64 window, .slice sa sn sc, .int .i64 last, .int .i64 refused], .int .i64 now] w fun e w' =>
      e = .returned (.tuple #[.agg #[.int .i64 many, .int .i64 window, .slice sa sn sc, .int .i64 last, .int .i64 refused], .int .i64 1]) ∧ Vg.Grows w w' := by
  cases ht : Vg.timeB now with
  | false =>
    go_enter Try.func64, Try.ntmps64
    go_wp2_with (first | (go_at_call 67; refine (reftime_any _ _).mono ?_; rintro e w' ⟨rfl, rfl⟩))
    go_returns
    exact ⟨rfl, by (repeat' (first | (with_reducible exact Vg.Grows.refl _) | (with_reducible assumption) | (with_reducible refine Vg.Grows.alloc ?_ _) | (with_reducible refine Vg.Grows.plus ?_ _ _) | (with_reducible refine Vg.Grows.drewN ?_ _) | (with_reducible refine Vg.Grows.drew ?_) | (with_reducible refine Vg.Grows.setCell ?_ ?_ _) | (with_reducible refine Vg.Grows.put ?_ ?_ _) | omega | (simp; omega) | (simp; done)))⟩
  | true =>
    have hl : now < last := by rcases hno with h | h; · rw [ht] at h; cases h
                               · exact h
    clear hno
    go_enter Try.func64, Try.ntmps64
    go_wp2_with (first | (go_at_call 67; refine (reftime_any _ _).mono ?_; rintro e w' ⟨rfl, rfl⟩))
    go_returns
    exact ⟨rfl, by (repeat' (first | (with_reducible exact Vg.Grows.refl _) | (with_reducible assumption) | (with_reducible refine Vg.Grows.alloc ?_ _) | (with_reducible refine Vg.Grows.plus ?_ _ _) | (with_reducible refine Vg.Grows.drewN ?_ _) | (with_reducible refine Vg.Grows.drew ?_) | (with_reducible refine Vg.Grows.setCell ?_ ?_ _) | (with_reducible refine Vg.Grows.put ?_ ?_ _) | omega | (simp; omega) | (simp; done)))⟩

theorem ref16_back_ok (now : Int) (hr : Vg.Reads S w (.slice sa sn sc) L.length (ints L)) (hL : L.length ≤ 1000) (h0 : 0 ≤ now) (h1 : now ≤ 4503599627370496) (h2 : last ≤ now) (hw : 1 ≤ window ∧ window ≤ 1099511627776) :
    Calls Try.prog 64 #[.agg #[.int .i64 many, .int .i64 window, .slice sa sn sc, .int .i64 last, .int .i64 refused], .int .i64 now] w fun e w' => ∃ sa' sc',
      Vg.Reads w.heap.size w' (.slice sa' (L.filter fun t => decide (now - window < t)).length sc') (L.filter fun t => decide (now - window < t)).length (ints (L.filter fun t => decide (now - window < t))) ∧
      e = .returned (.tuple #[.agg #[.int .i64 many, .int .i64 window, .slice sa' (L.filter fun t => decide (now - window < t)).length sc', .int .i64 now, .int .i64 refused], .int .i64 0]) ∧ Vg.Grows w w' := by
  have ht : Vg.timeB now = true := Vg.timeB_true.2 ⟨h0, h1⟩
  rcases hr with ⟨hsv, hn, hx⟩ | ⟨g, off, cap, hsv, hg, hgl, hlc, hcm, hc⟩
  · obtain ⟨rfl, rfl, rfl⟩ : sa = none ∧ sn = 0 ∧ sc = 0 := by simpa using hsv
    have hL0 : L = [] := List.eq_nil_of_length_eq_zero hn
    subst hL0
    clear hn hx hsv
    go_enter Try.func64, Try.ntmps64
    go_wp2_with (first | (go_at_call 67; refine (reftime_any _ _).mono ?_; rintro e w' ⟨rfl, rfl⟩))
    refine wp_loop_rounds 1 ?_
    rw [rounds_succ]
    go_wp2
    go_returns
    exact ⟨none, 0, Vg.Reads.nil _ _, rfl, by (repeat' (first | (with_reducible exact Vg.Grows.refl _) | (with_reducible assumption) | (with_reducible refine Vg.Grows.alloc ?_ _) | (with_reducible refine Vg.Grows.plus ?_ _ _) | (with_reducible refine Vg.Grows.drewN ?_ _) | (with_reducible refine Vg.Grows.drew ?_) | (with_reducible refine Vg.Grows.setCell ?_ ?_ _) | (with_reducible refine Vg.Grows.put ?_ ?_ _) | omega | (simp; omega) | (simp; done)))⟩
  · obtain ⟨rfl, rfl, rfl⟩ : sa = some ⟨g, off, none⟩ ∧ sn = L.length ∧ sc = cap := by simpa using hsv
    obtain ⟨i0, hi, hz0, hz1, hz2⟩ := info_parts Try.info_i64
    have HC := Lib.hid hc
    clear hc hsv
    have hcap : sc ≤ 9223372036854775807 := hcm
    obtain ⟨f, hf⟩ : ∃ f : Nat → List Int, ∀ k, f k = (L.take k).filter fun t => decide (now - window < t) := ⟨_, fun _ => rfl⟩
    have hfl : ∀ k, (f k).length ≤ 1000 := fun k => by rw [hf]; exact Nat.le_trans (List.length_filter_le _ _) (by rw [List.length_take]; omega)
    have f0 : f 0 = [] := by rw [hf]; rfl
    have fe : f L.length = L.filter fun t => decide (now - window < t) := by rw [hf, List.take_length]
    have fs : ∀ k (hk : k < L.length), f (k + 1) = f k ++ if now - window < L[k] then [L[k]] else [] := fun k hk => by
      rw [hf, hf, List.take_succ_eq_append_getElem hk, List.filter_append]
      congr 1
      by_cases h : now - window < L[k] <;> simp [h]
    have F0 := Lib.hid f0
    have FE := Lib.hid fe
    have Qfs := Lib.hid fs
    have FL := Lib.hid hfl
    clear f0 fe fs hfl hf
    rw [← FE.out]
    go_enter Try.func64, Try.ntmps64
    go_wp2_with (first | (go_at_call 67; refine (reftime_any _ _).mono ?_; rintro e w' ⟨rfl, rfl⟩))
    go_loopw [6, 22] (fun v i wr => ∃ k : Nat, k ≤ L.length ∧ i = .int .i64 k ∧ wr.ownsRow (w.heap.size + 2) 2 1 v (f k).length (ints (f k)) ∧ Vg.Grows ((w.alloc (.cells #[.int .i64 many, .int .i64 window, .slice (some ⟨g, off, none⟩) L.length sc, .int .i64 last, .int .i64 refused] 30)).alloc (.cells #[.int .i64 0, .int .i64 0, .slice none 0 0, .int .i64 0, .int .i64 0] 30)) wr) (fun _ i _ => L.length - (intOf i).toNat)
    case atStart =>
      refine ⟨0, by omega, rfl, ?_, Vg.Grows.refl _⟩
      rw [F0.out]
      exact World.ownsRow_nil _ _ _ _
    case round =>
      obtain ⟨k, hk, rfl, hown, y, m, rfl⟩ := hrel
      have hown0 := Lib.hid hown
      have hlen := FL.out k
      by_cases hlt : k < L.length
      · have hc := HC.out k (by simpa using hlt)
        simp only [List.getElem_map] at hc
        obtain ⟨t, ht2⟩ : ∃ t, L[k] = t := ⟨_, rfl⟩
        rw [ht2] at hc
        have hfs := Qfs.out k hlt
        rw [ht2] at hfs
        have HFS := Lib.hid hfs
        clear hfs ht2 hown
        by_cases hin : now - window < t
        · go_wp2_with (at_builtin; go_loud (refine Vg.wpList_app ((Vg.Grows.plus (Vg.Grows.refl _) _ _).alloc _) rfl _ _ 28 rfl (w.heap.size + 2) (by (try simp only [World.size_alloc, Vg.plus_size, Vg.put_size, World.size_setCell, World.size_drew]) <;> omega) (by (try simp only [World.size_alloc, Vg.plus_size, Vg.put_size, World.size_setCell, World.size_drew]) <;> omega) 2 i0 (.int .i64 0) 1 8 Try.underlying28 hi hz0 hz1 hz2 rfl (by decide) _ _ _ rfl (hown0.out.alloc _) _ 1 1 [.int .i64 t] rfl rfl (Vg.one_new (by (try simp only [World.size_alloc, Vg.plus_size, Vg.put_size, World.size_setCell, World.size_drew]) <;> omega)) (by simp [Value.oneCell']) (by unfold maxLen; omega) (by omega) ?_); intro v' y' m' hown' hsz')
          have e : f (k + 1) = f k ++ [t] := by rw [HFS.out, if_pos hin]
          refine ⟨⟨k + 1, by omega, by go_num, ?_, by (repeat' (first | (with_reducible exact Vg.Grows.refl _) | (with_reducible assumption) | (with_reducible refine Vg.Grows.alloc ?_ _) | (with_reducible refine Vg.Grows.plus ?_ _ _) | (with_reducible refine Vg.Grows.drewN ?_ _) | (with_reducible refine Vg.Grows.drew ?_) | (with_reducible refine Vg.Grows.setCell ?_ ?_ _) | (with_reducible refine Vg.Grows.put ?_ ?_ _) | omega | (simp; omega) | (simp; done)))⟩, by simp [intOf]; omega⟩
          rw [e, List.length_append, ints, List.map_append]
          exact hown'
        · go_wp2
          have e : f (k + 1) = f k := by rw [HFS.out, if_neg hin, List.append_nil]
          refine ⟨⟨k + 1, by omega, by go_num, ?_, by (repeat' (first | (with_reducible exact Vg.Grows.refl _) | (with_reducible assumption) | (with_reducible refine Vg.Grows.alloc ?_ _) | (with_reducible refine Vg.Grows.plus ?_ _ _) | (with_reducible refine Vg.Grows.drewN ?_ _) | (with_reducible refine Vg.Grows.drew ?_) | (with_reducible refine Vg.Grows.setCell ?_ ?_ _) | (with_reducible refine Vg.Grows.put ?_ ?_ _) | omega | (simp; omega) | (simp; done)))⟩, by simp [intOf]; omega⟩
          rw [e]
          exact hown0.out
      · obtain rfl : k = L.length := by omega
        obtain ⟨a', c', rfl⟩ := Vg.owns_shape hown
        clear hown
        go_wp2
        go_returns
        refine ⟨a', c', ?_, rfl, by (repeat' (first | (with_reducible exact Vg.Grows.refl _) | (with_reducible assumption) | (with_reducible refine Vg.Grows.alloc ?_ _) | (with_reducible refine Vg.Grows.plus ?_ _ _) | (with_reducible refine Vg.Grows.drewN ?_ _) | (with_reducible refine Vg.Grows.drew ?_) | (with_reducible refine Vg.Grows.setCell ?_ ?_ _) | (with_reducible refine Vg.Grows.put ?_ ?_ _) | omega | (simp; omega) | (simp; done)))⟩
        exact ((Vg.Reads.of_owns hown0.out).base (by simp) (by simp)).weaken (by omega)

theorem ref16_masked_no (now : Int) (hno : Vg.timeB now = false ∨ now < last) :
    Calls Try.prog 21 #[.agg #[.int .i64 many, .int .i64 window, .slice sa sn sc, .int .i64 last, .int .i64 refused], .int .i64 now] w fun e w' =>
      e = .returned (.tuple #[.agg #[.int .i64 many, .int .i64 window, .slice sa sn sc, .int .i64 last, .int .i64 refused], .bool false, .int .i64 1]) ∧ Vg.Grows w w' := by
  go_enter Try.func21, Try.ntmps21
  go_wp2_with (first | (go_at_call 64; refine (ref16_back_no _ hno).mono ?_; rintro e w1 ⟨rfl, x_bk, n_bk, rfl⟩))
  go_region
  all_goals go_wp2
  all_goals go_returns
  all_goals exact ⟨rfl, by (repeat' (first | (with_reducible exact Vg.Grows.refl _) | (with_reducible assumption) | (with_reducible refine Vg.Grows.alloc ?_ _) | (with_reducible refine Vg.Grows.plus ?_ _ _) | (with_reducible refine Vg.Grows.drewN ?_ _) | (with_reducible refine Vg.Grows.drew ?_) | (with_reducible refine Vg.Grows.setCell ?_ ?_ _) | (with_reducible refine Vg.Grows.put ?_ ?_ _) | omega | (simp; omega) | (simp; done)))⟩

theorem ref16_masked_ok (now : Int) (hr : Vg.Reads S w (.slice sa sn sc) L.length (ints L)) (hL : L.length ≤ 1000) (h0 : 0 ≤ now) (h1 : now ≤ 4503599627370496) (h2 : last ≤ now) (hw : 1 ≤ window ∧ window ≤ 1099511627776) :
    Calls Try.prog 21 #[.agg #[.int .i64 many, .int .i64 window, .slice sa sn sc, .int .i64 last, .int .i64 refused], .int .i64 now] w fun e w' => ∃ sa' sc',
      Vg.Reads w.heap.size w' (.slice sa' (L.filter fun t => decide (now - window < t)).length sc') (L.filter fun t => decide (now - window < t)).length (ints (L.filter fun t => decide (now - window < t))) ∧
      e = .returned (.tuple #[.agg #[.int .i64 many, .int .i64 window, .slice sa' (L.filter fun t => decide (now - window < t)).length sc', .int .i64 now, .int .i64 refused], .bool (decide (many ≤ (L.filter fun t => decide (now - window < t)).length)), .int .i64 0]) ∧ Vg.Grows w w' := by
  obtain ⟨p, hp⟩ : ∃ p, (L.filter fun t => decide (now - window < t)) = p := ⟨_, rfl⟩
  rw [hp]
  have HP := Lib.hid hp
  clear hp
  go_enter Try.func21, Try.ntmps21
  go_wp2_with (go_at_call 64; refine (ref16_back_ok (S := S) now (Vg.Reads.grows hr (by (repeat' (first | (with_reducible exact Vg.Grows.refl _) | (with_reducible assumption) | (with_reducible refine Vg.Grows.alloc ?_ _) | (with_reducible refine Vg.Grows.plus ?_ _ _) | (with_reducible refine Vg.Grows.drewN ?_ _) | (with_reducible refine Vg.Grows.drew ?_) | (with_reducible refine Vg.Grows.setCell ?_ ?_ _) | (with_reducible refine Vg.Grows.put ?_ ?_ _) | omega | (simp; omega) | (simp; done))))) hL h0 h1 h2 hw).mono ?_; rintro e w1 ⟨sa', sc', hr', rfl, x, n, rfl⟩; rw [HP.out] at hr'; rw [HP.out])
  have HR := Lib.hid hr'
  clear hr'
  go_region
  go_wp2
  go_returns
  exact ⟨sa', sc', (Vg.Reads.grows (HR.out.base (W1 := ((w.alloc _).alloc _)) (m := n) (by simp) (by simp)) (by (repeat' (first | (with_reducible exact Vg.Grows.refl _) | (with_reducible assumption) | (with_reducible refine Vg.Grows.alloc ?_ _) | (with_reducible refine Vg.Grows.plus ?_ _ _) | (with_reducible refine Vg.Grows.drewN ?_ _) | (with_reducible refine Vg.Grows.drew ?_) | (with_reducible refine Vg.Grows.setCell ?_ ?_ _) | (with_reducible refine Vg.Grows.put ?_ ?_ _) | omega | (simp; omega) | (simp; done))))).weaken (by simp; omega), rfl, by (repeat' (first | (with_reducible exact Vg.Grows.refl _) | (with_reducible assumption) | (with_reducible refine Vg.Grows.alloc ?_ _) | (with_reducible refine Vg.Grows.plus ?_ _ _) | (with_reducible refine Vg.Grows.drewN ?_ _) | (with_reducible refine Vg.Grows.drew ?_) | (with_reducible refine Vg.Grows.setCell ?_ ?_ _) | (with_reducible refine Vg.Grows.put ?_ ?_ _) | omega | (simp; omega) | (simp; done)))⟩

theorem ref16_enter_no (now : Int) (hno : Vg.timeB now = false ∨ now < last) :
    Calls Try.prog 19 #[.agg #[.int .i64 many, .int .i64 window, .slice sa sn sc, .int .i64 last, .int .i64 refused], .int .i64 now] w fun e w' =>
      e = .returned (.tuple #[.agg #[.int .i64 many, .int .i64 window, .slice sa sn sc, .int .i64 last, .int .i64 refused], .int .i64 1]) ∧ Vg.Grows w w' := by
  go_enter Try.func19, Try.ntmps19
  go_wp2_with ((go_at_call 21; refine (ref16_masked_no _ hno).mono ?_; rintro e w1 ⟨rfl, x_bk, n_bk, rfl⟩))
  go_returns
  exact ⟨rfl, by (repeat' (first | (with_reducible exact Vg.Grows.refl _) | (with_reducible assumption) | (with_reducible refine Vg.Grows.alloc ?_ _) | (with_reducible refine Vg.Grows.plus ?_ _ _) | (with_reducible refine Vg.Grows.drewN ?_ _) | (with_reducible refine Vg.Grows.drew ?_) | (with_reducible refine Vg.Grows.setCell ?_ ?_ _) | (with_reducible refine Vg.Grows.put ?_ ?_ _) | omega | (simp; omega) | (simp; done)))⟩

theorem ref16_enter_full (now : Int) (p : List Int) (hp : (L.filter fun t => decide (now - window < t)) = p) (hfull : many ≤ p.length) (hr : Vg.Reads S w (.slice sa sn sc) L.length (ints L)) (hL : L.length ≤ 1000) (h0 : 0 ≤ now) (h1 : now ≤ 4503599627370496) (h2 : last ≤ now) (hw : 1 ≤ window ∧ window ≤ 1099511627776)
    (hrf : 0 ≤ refused ∧ refused ≤ 4611686018427387904) :
    Calls Try.prog 19 #[.agg #[.int .i64 many, .int .i64 window, .slice sa sn sc, .int .i64 last, .int .i64 refused], .int .i64 now] w fun e w' => ∃ sa' sc', Vg.Reads w.heap.size w' (.slice sa' p.length sc') p.length (ints p) ∧
      e = .returned (.tuple #[.agg #[.int .i64 many, .int .i64 window, .slice sa' p.length sc', .int .i64 now, .int .i64 (refused + 1)], .int .i64 15]) ∧ Vg.Grows w w' := by
  have HP := Lib.hid hp
  have HF := Lib.hid (decide_eq_true hfull)
  clear hp
  go_enter Try.func19, Try.ntmps19
  go_wp2_with (go_at_call 21; refine (ref16_masked_ok (S := S) now (Vg.Reads.grows hr (by (repeat' (first | (with_reducible exact Vg.Grows.refl _) | (with_reducible assumption) | (with_reducible refine Vg.Grows.alloc ?_ _) | (with_reducible refine Vg.Grows.plus ?_ _ _) | (with_reducible refine Vg.Grows.drewN ?_ _) | (with_reducible refine Vg.Grows.drew ?_) | (with_reducible refine Vg.Grows.setCell ?_ ?_ _) | (with_reducible refine Vg.Grows.put ?_ ?_ _) | omega | (simp; omega) | (simp; done))))) hL h0 h1 h2 hw).mono ?_; rintro e w1 ⟨sa', sc', hr', rfl, x, n, rfl⟩; rw [HP.out] at hr'; rw [HP.out, HF.out]; have HR := Lib.hid hr'; clear hr')
  go_returns
  exact ⟨sa', sc', (Vg.Reads.grows (HR.out.base (W1 := ((w.alloc _).alloc _)) (m := n) (by simp) (by simp)) (by (repeat' (first | (with_reducible exact Vg.Grows.refl _) | (with_reducible assumption) | (with_reducible refine Vg.Grows.alloc ?_ _) | (with_reducible refine Vg.Grows.plus ?_ _ _) | (with_reducible refine Vg.Grows.drewN ?_ _) | (with_reducible refine Vg.Grows.drew ?_) | (with_reducible refine Vg.Grows.setCell ?_ ?_ _) | (with_reducible refine Vg.Grows.put ?_ ?_ _) | omega | (simp; omega) | (simp; done))))).weaken (by simp; omega), rfl, by (repeat' (first | (with_reducible exact Vg.Grows.refl _) | (with_reducible assumption) | (with_reducible refine Vg.Grows.alloc ?_ _) | (with_reducible refine Vg.Grows.plus ?_ _ _) | (with_reducible refine Vg.Grows.drewN ?_ _) | (with_reducible refine Vg.Grows.drew ?_) | (with_reducible refine Vg.Grows.setCell ?_ ?_ _) | (with_reducible refine Vg.Grows.put ?_ ?_ _) | omega | (simp; omega) | (simp; done)))⟩

theorem ref16_enter_ok (now : Int) (p : List Int) (hp : (L.filter fun t => decide (now - window < t)) = p) (hfull : p.length < many) (hr : Vg.Reads S w (.slice sa sn sc) L.length (ints L)) (hL : L.length ≤ 999) (h0 : 0 ≤ now) (h1 : now ≤ 4503599627370496) (h2 : last ≤ now) (hw : 1 ≤ window ∧ window ≤ 1099511627776) :
    Calls Try.prog 19 #[.agg #[.int .i64 many, .int .i64 window, .slice sa sn sc, .int .i64 last, .int .i64 refused], .int .i64 now] w fun e w' => ∃ sa' sc', Vg.Reads w.heap.size w' (.slice sa' (p ++ [now]).length sc') (p ++ [now]).length (ints (p ++ [now])) ∧
      e = .returned (.tuple #[.agg #[.int .i64 many, .int .i64 window, .slice sa' (p ++ [now]).length sc', .int .i64 now, .int .i64 refused], .int .i64 0]) ∧ Vg.Grows w w' := by
  have HP := Lib.hid hp
  have HF := Lib.hid (show decide (many ≤ (p.length : Int)) = false from decide_eq_false (by omega))
  have hpl : p.length ≤ 999 := by rw [← hp]; exact Nat.le_trans (List.length_filter_le _ _) hL
  clear hp
  obtain ⟨i0, hi, hz0, hz1, hz2⟩ := info_parts Try.info_i64
  go_enter Try.func19, Try.ntmps19
  go_wp2_with (first | (at_builtin; (refine Vg.wpList_appR (W0 := _) ((Vg.Grows.refl _).alloc _) rfl (.tmp 26) (.tmp 28) 28 rfl _ (Nat.le_refl _) (by (try simp only [World.size_alloc, Vg.plus_size, Vg.put_size, World.size_setCell, World.size_drew]) <;> omega) 2 i0 (.int .i64 0) 1 8 Try.underlying28 hi hz0 hz1 hz2 rfl (by decide) _ _ _ rfl (Vg.owns_made0 (by (try simp only [World.size_alloc, Vg.plus_size, Vg.put_size, World.size_setCell, World.size_drew]) <;> omega)) _ _ _ _ (ints p) rfl (Vg.Reads.grows (HR.out.base (W1 := ((w.alloc _).alloc _)) (m := n) (by simp) (by simp)) (by (repeat' (first | (with_reducible exact Vg.Grows.refl _) | (with_reducible assumption) | (with_reducible refine Vg.Grows.alloc ?_ _) | (with_reducible refine Vg.Grows.plus ?_ _ _) | (with_reducible refine Vg.Grows.drewN ?_ _) | (with_reducible refine Vg.Grows.drew ?_) | (with_reducible refine Vg.Grows.setCell ?_ ?_ _) | (with_reducible refine Vg.Grows.put ?_ ?_ _) | omega | (simp; omega) | (simp; done))))) (by simp) (by simp [Value.oneCell']) (by unfold maxLen; omega) (by omega) ?_); intro v' y' m' hown' hsz'; have HO := Lib.hid hown'; clear hown') | (at_builtin; refine Vg.wpList_app ((Vg.Grows.plus (Vg.Grows.refl _) _ _).alloc _) rfl (.tmp 29) (.tmp 31) 28 rfl _ (Nat.le_refl _) (by (try simp only [World.size_alloc, Vg.plus_size, Vg.put_size, World.size_setCell, World.size_drew]) <;> omega) 2 i0 (.int .i64 0) 1 8 Try.underlying28 hi hz0 hz1 hz2 rfl (by decide) _ _ _ rfl (HO.out.alloc _) _ 1 1 [.int .i64 now] rfl rfl (Vg.one_new (by (try simp only [World.size_alloc, Vg.plus_size, Vg.put_size, World.size_setCell, World.size_drew]) <;> omega)) (by simp [Value.oneCell']) (by unfold maxLen; omega) (by omega) ?_; intro v2 y2 m2 hown2 hsz2; obtain ⟨a2, c2, rfl⟩ := Vg.owns_shape hown2; have HO2 := Lib.hid hown2; clear hown2) | (go_at_call 21; refine (ref16_masked_ok (S := S) now (Vg.Reads.grows hr (by (repeat' (first | (with_reducible exact Vg.Grows.refl _) | (with_reducible assumption) | (with_reducible refine Vg.Grows.alloc ?_ _) | (with_reducible refine Vg.Grows.plus ?_ _ _) | (with_reducible refine Vg.Grows.drewN ?_ _) | (with_reducible refine Vg.Grows.drew ?_) | (with_reducible refine Vg.Grows.setCell ?_ ?_ _) | (with_reducible refine Vg.Grows.put ?_ ?_ _) | omega | (simp; omega) | (simp; done))))) (by omega) h0 h1 h2 hw).mono ?_; rintro e w1 ⟨sa', sc', hr', rfl, x, n, rfl⟩; rw [HP.out] at hr'; rw [HP.out, HF.out]; have HR := Lib.hid hr'; clear hr'))
  go_returns
  have e1 : (p ++ [now]).length = p.length + 1 := by simp
  rw [e1]
  refine ⟨a2, c2, ?_, rfl, by (repeat' (first | (with_reducible exact Vg.Grows.refl _) | (with_reducible assumption) | (with_reducible refine Vg.Grows.alloc ?_ _) | (with_reducible refine Vg.Grows.plus ?_ _ _) | (with_reducible refine Vg.Grows.drewN ?_ _) | (with_reducible refine Vg.Grows.drew ?_) | (with_reducible refine Vg.Grows.setCell ?_ ?_ _) | (with_reducible refine Vg.Grows.put ?_ ?_ _) | omega | (simp; omega) | (simp; done)))⟩
  have h1 := Vg.Reads.of_owns HO2.out
  simp only [List.nil_append, Nat.zero_add] at h1
  rw [ints, List.map_append]
  exact (h1.base (by simp [go_sem]) (by simp [go_sem])).weaken (by simp [go_sem]; omega)

theorem ref16_next (hr : Vg.Reads S w (.slice sa sn sc) L.length (ints L)) (hw : 1 ≤ window ∧ window ≤ 1099511627776) (hb : ∀ t ∈ L, 0 ≤ t ∧ t ≤ 4503599627370496) :
    Calls Try.prog 24 #[.agg #[.int .i64 many, .int .i64 window, .slice sa sn sc, .int .i64 last, .int .i64 refused]] w fun e w' =>
      e = .returned (.tuple #[.int .i64 (Vg.refNext window L).1, .bool (Vg.refNext window L).2]) ∧ Vg.Grows w w' := by
  rcases hr with ⟨hsv, hn, hx⟩ | ⟨g, off, cap, hsv, hg, hgl, hlc, hcm, hc⟩
  · simp only [Value.slice.injEq] at hsv
    obtain ⟨rfl, rfl, rfl⟩ := hsv
    have hL0 : L = [] := List.eq_nil_of_length_eq_zero hn
    subst hL0
    clear hn hx
    go_enter Try.func24, Try.ntmps24
    go_wp2
    go_ret2
    exact ⟨rfl, by (repeat' (first | (with_reducible exact Vg.Grows.refl _) | (with_reducible assumption) | (with_reducible refine Vg.Grows.alloc ?_ _) | (with_reducible refine Vg.Grows.plus ?_ _ _) | (with_reducible refine Vg.Grows.drewN ?_ _) | (with_reducible refine Vg.Grows.drew ?_) | (with_reducible refine Vg.Grows.setCell ?_ ?_ _) | (with_reducible refine Vg.Grows.put ?_ ?_ _) | omega | (simp; omega) | (simp; done)))⟩
  · simp only [Value.slice.injEq] at hsv
    obtain ⟨rfl, rfl, rfl⟩ := hsv
    cases L with
    | nil =>
      clear hc hlc
      go_enter Try.func24, Try.ntmps24
      go_wp2
      go_ret2
      exact ⟨rfl, by (repeat' (first | (with_reducible exact Vg.Grows.refl _) | (with_reducible assumption) | (with_reducible refine Vg.Grows.alloc ?_ _) | (with_reducible refine Vg.Grows.plus ?_ _ _) | (with_reducible refine Vg.Grows.drewN ?_ _) | (with_reducible refine Vg.Grows.drew ?_) | (with_reducible refine Vg.Grows.setCell ?_ ?_ _) | (with_reducible refine Vg.Grows.put ?_ ?_ _) | omega | (simp; omega) | (simp; done)))⟩
    | cons t ts =>
      have h0 := hc 0 (by simp)
      simp only [Nat.add_zero, ints, List.map_cons, List.getElem_cons_zero] at h0
      have hbt := hb t (by simp)
      have hcap : sc ≤ 9223372036854775807 := hcm
      have hlen : (0 : Int) < ((ts.length : Int) + 1) := by omega
      have hsum : IntKind.i64.wrap (t + window) = t + window := by rw [IntWalk.i64_in _ (by omega)]
      clear hc hb
      go_enter Try.func24, Try.ntmps24
      go_wp2
      go_quiet (fail)
      go_wp2
      go_ret2
      exact ⟨rfl, by (repeat' (first | (with_reducible exact Vg.Grows.refl _) | (with_reducible assumption) | (with_reducible refine Vg.Grows.alloc ?_ _) | (with_reducible refine Vg.Grows.plus ?_ _ _) | (with_reducible refine Vg.Grows.drewN ?_ _) | (with_reducible refine Vg.Grows.drew ?_) | (with_reducible refine Vg.Grows.setCell ?_ ?_ _) | (with_reducible refine Vg.Grows.put ?_ ?_ _) | omega | (simp; omega) | (simp; done)))⟩
end
end Go.Proofs.Ytlgkcpgmnpoanaa
