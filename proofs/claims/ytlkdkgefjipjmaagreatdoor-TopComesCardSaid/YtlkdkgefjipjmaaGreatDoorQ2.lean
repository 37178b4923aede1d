/- CeilN, Bits, WheelF, Kept, Pool (put together). -/
import Derived.Test.YtlkdkgefjipjmaaGreatDoorQ1
import Derived.Test.YtlkdkgefjipjmaaGreatDoorQ0
import Derived.RangeFuncNested
import Derived.RangeFuncBound
import Derived.RangeFuncCalls
import Derived.RangeFuncLeaves
import Derived.RangeFuncFrom
import Derived.Shelf.Abstract
import Derived.Shelf.RegionOpen
import Derived.OwnWalkIn
import Derived.TacticsInMore
import Derived.LoopNIn
import Derived.LoopIn
import Derived.RangeFuncBox
import Derived.Maps.AppendAt
import Derived.Test.YtlkdkgefjipjmaaGreatDoorChecked
import Derived.StillTailTactics
set_option linter.unusedSimpArgs false
set_option linter.unusedVariables false
set_option maxHeartbeats 40000000
set_option maxRecDepth 100000
namespace Vg
open Go
def oddC (x : Int) : Bool := decide (x < 0) || decide (63 < x)
def idx (p : Int -> Bool) : List Int -> Int
 | [] => -1
 | x :: l => if p x then 0 else (if idx p l < 0 then -1 else idx p l + 1)
theorem idx_none {p : Int -> Bool} : ∀ {L : List Int}, L.any p = false -> idx p L = -1
 | [], _ => rfl
 | x :: l, h => by
  simp only [List.any_cons, Bool.or_eq_false_iff] at h
  rw [idx, if_neg (by rw [h.1]; simp), idx_none h.2]
  rfl
theorem idx_at {p : Int -> Bool} : ∀ {L : List Int} {k : Nat} (h : k < L.length), (L.take k).any p = false -> p L[k] = true -> idx p L = k
 | [], k, h, _, _ => by simp at h
 | x :: l, 0, h, _, hp => by
  rw [idx, if_pos (by simpa using hp)]; rfl
 | x :: l, k + 1, h, hn, hp => by
  simp only [List.take_succ_cons, List.any_cons, Bool.or_eq_false_iff] at hn
  have := idx_at (L := l) (k := k) (by simpa using h) hn.2 (by simpa using hp)
  rw [idx, if_neg (by rw [hn.1]; simp), this, if_neg (by omega)]
  simp
theorem idx_some {p : Int -> Bool} : ∀ {L : List Int}, L.any p = true -> 0 <= idx p L
 | [], h => by simp at h
 | x :: l, h => by
  by_cases hp : p x = true
  ·rw [idx, if_pos hp]; exact Int.le_refl 0
  ·simp only [List.any_cons, Bool.or_eq_true, hp] at h
   have := idx_some (L := l) (by simpa using h)
   rw [idx, if_neg hp, if_neg (by omega)]
   omega
theorem three_new {w : World} {x y z : Value} {t : TypeId} {n : Nat} (hn : n = w.heap.size) : ∀ j u, [x, y, z][j]? = some u -> (w.alloc (.cells #[x, y, z] t)).cell? ((⟨n, 0, none⟩ : Addr).add j) = some u := by
 subst hn
 intro j u hu
 rw [Addr.add_lit, cells_of (w := w.alloc (.cells #[x, y, z] t)) (b := w.heap.size) (cs := #[x, y, z]) (t := t) (f := (0, 0)) (alloc_heap_at rfl)]
 simpa using hu
def IR (w : World) (sa : Option Addr) (sc : Nat) (L : List Int) : Prop :=
 L.length <= sc /\ sc <= maxLen /\ ∀ k, (hk : k < L.length) -> ∃ g off, sa = some ⟨g, off, none⟩ /\ g < w.heap.size /\ w.cell? ⟨g, off + k, none⟩ = some (.int .i64 L[k])
theorem IR.icell {w : World} {sa : Option Addr} {c : Nat} {L : List Int} (h : IR w sa c L) (k : Nat) (hk : k < L.length) :
  ∃ g off, sa = some ⟨g, off, none⟩ /\ g < w.heap.size /\ L.length <= c /\ c <= 9223372036854775807 /\ w.cell? ⟨g, off + k, none⟩ = some (.int .i64 L[k]) := by
 obtain ⟨h1, h2, h3⟩ := h
 obtain ⟨g, off, e, hg, hc⟩ := h3 k hk
 exact ⟨g, off, e, hg, h1, h2, hc⟩
theorem IR.grows {w w' : World} {sa : Option Addr} {c : Nat} {L : List Int} (h : IR w sa c L) (hg : Grows w w') : IR w' sa c L :=
 ⟨h.1, h.2.1, fun k hk => by
  obtain ⟨g, off, e, hlt, hc⟩ := h.2.2 k hk
  exact ⟨g, off, e, Nat.lt_of_lt_of_le hlt hg.size, (hg.below.cell (p := ⟨g, off + k, none⟩) hlt).trans hc⟩⟩
theorem IR.nil (w : World) : IR w none 0 [] := ⟨Nat.le_refl _, Nat.zero_le _, fun k hk => by simp at hk⟩
theorem IR.block {w : World} {g : Nat} {L : List Int} {t : TypeId} (h : blk w g = some (.cells (ics L).toArray t)) (hl : L.length <= maxLen) : IR w (some ⟨g, 0, none⟩) L.length L :=
 ⟨Nat.le_refl _, hl, fun k hk => ⟨g, 0, rfl, lt_of h, by rw [cells_of h]; simp [hk]⟩⟩
end Vg
namespace Go.Proofs.YtlkdkgefjipjmaaGreatDoor
open Go.ChangeShapes Go.WideShapes Go.ChangeAt Go.RowKit
section
variable {w : World} {L : List Int} {sa : Option Addr} {sc : Nat}
theorem ceil_odd (x : Int) (w : World) : Calls Tryz.prog 81 #[.int .i64 x] w fun e w' => e = .returned (.bool (Vg.oddC x)) /\ w = w' := by
 by_cases h0 : x < 0
 ·go_enter Tryz.func81, Tryz.ntmps81
  go_wp2
  go_ret
  exact ⟨ret_bool (by simp [Vg.oddC, h0]), rfl⟩
 ·by_cases h1 : 63 < x
  ·go_enter Tryz.func81, Tryz.ntmps81
   go_wp2
   go_ret
   exact ⟨ret_bool (by simp [Vg.oddC, h1]), rfl⟩
  ·go_enter Tryz.func81, Tryz.ntmps81
   go_wp2
   go_ret
   exact ⟨ret_bool (by simp [Vg.oddC]; omega), rfl⟩
theorem ceil_idx (hr : Vg.IR w sa sc L) :
  Calls Tryz.prog 144 #[.slice sa L.length sc, .func (.func 81) #[] #[]] w fun e w' => e = .returned (.int .i64 (Vg.idx Vg.oddC L)) /\ w = w' := by
 have HR := h_ hr
 clear hr
 obtain ⟨n, hn⟩ : ∃ n, L.length = n := ⟨_, rfl⟩
 rw [hn]
 have hcm : n <= 9223372036854775807 := by
  have h1 := HR.out.1
  have h2 : sc <= 9223372036854775807 := HR.out.2.1
  omega
 have H_hn := h_ hn; clear hn
 go_enter Tryz.func144, Tryz.ntmps144
 go_wp2
 go_loop [8] (fun i => ∃ k : Nat, k <= n /\ i = .int .i64 k /\ (L.take k).any Vg.oddC = false) (fun i => n - (intOf i).toNat)
 case atStart => exact ⟨0, by omega, rfl, by simp⟩
 case round =>
  obtain ⟨k, hk, rfl, hpre⟩ := hrel
  by_cases hlt : k < n
  ·have hkL : k < L.length := by rw [H_hn.out]; exact hlt
   obtain ⟨g, off, rfl, hg, hc, hm, hcell⟩ := HR.out.icell k hkL
   have hsn := List.take_succ_eq_append_getElem hkL
   obtain ⟨x, hx⟩ : ∃ x, L[k] = x := ⟨_, rfl⟩
   rw [hx] at hcell hsn
   cases hp : Vg.oddC x with
   | true =>
    have hi := Vg.idx_at hkL hpre (by rw [hx]; exact hp)
    have H_hpre := h_ hpre; have H_hsn := h_ hsn; have H_hx := h_ hx; have H_hp := h_ hp; have H_hi := h_ hi; clear hpre hsn hx hp hi
    go_wp2_with ((go_at_call 81; refine (ceil_odd _ _).mono ?_; rintro e w' ⟨rfl, rfl⟩; rw [H_hp.out]))
    go_ret
    rw [H_hi.out]
    exact ⟨rfl, rfl⟩
   | false =>
    have hnx : (L.take (k + 1)).any Vg.oddC = false := by rw [hsn, List.any_append, hpre]; simp [hp]
    have H_hpre := h_ hpre; have H_hsn := h_ hsn; have H_hx := h_ hx; have H_hp := h_ hp; have H_hnx := h_ hnx; clear hpre hsn hx hp hnx
    go_wp2_with ((go_at_call 81; refine (ceil_odd _ _).mono ?_; rintro e w' ⟨rfl, rfl⟩; rw [H_hp.out]))
    go_round
    case rel => exact ⟨k + 1, by omega, by go_num, H_hnx.out⟩
    case measure => simp [intOf]; omega
  ·have hi : Vg.idx Vg.oddC L = -1 := Vg.idx_none (by rw [<- hpre, List.take_of_length_le (by rw [H_hn.out]; omega)])
   have H_hpre := h_ hpre; have H_hi := h_ hi; clear hpre hi
   go_wp2
   go_ret
   rw [H_hi.out]
   exact ⟨rfl, rfl⟩
theorem ceil_contains (hr : Vg.IR w sa sc L) :
  Calls Tryz.prog 82 #[.slice sa L.length sc, .func (.func 81) #[] #[]] w fun e w' => e = .returned (.bool (L.any Vg.oddC)) /\ w = w' := by
 cases h : L.any Vg.oddC with
 | true =>
  have hi := Vg.idx_some h
  obtain ⟨r, hr'⟩ : ∃ r, Vg.idx Vg.oddC L = r := ⟨_, rfl⟩
  rw [hr'] at hi
  have H_h := h_ h; have H_hr' := h_ hr'; have H_hr := h_ hr; clear h hr' hr
  go_enter Tryz.func82, Tryz.ntmps82
  go_wp2_with ((go_at_call 144; refine (ceil_idx H_hr.out).mono ?_; rintro e w' ⟨rfl, rfl⟩; rw [H_hr'.out]))
  go_ret
  exact ⟨rfl, rfl⟩
 | false =>
  have hi := Vg.idx_none h
  have H_h := h_ h; have H_hi := h_ hi; have H_hr := h_ hr; clear h hi hr
  go_enter Tryz.func82, Tryz.ntmps82
  go_wp2_with ((go_at_call 144; refine (ceil_idx H_hr.out).mono ?_; rintro e w' ⟨rfl, rfl⟩; rw [H_hi.out]))
  go_ret
  exact ⟨rfl, rfl⟩
theorem ceil_new (hr : Vg.IR w sa sc L) (h1 : L.length <= 16) (h2 : L.any Vg.oddC = false) :
  Calls Tryz.prog 45 #[.slice sa L.length sc] w fun e w' => ∃ v, e = .returned (.tuple #[.pointer (some ⟨w.heap.size, 0, none⟩), .int .i64 0]) /\ CE w' w.heap.size (w.heap.size + 1) (L.map fun c => ⟨c, false, 0⟩) v /\ Vg.Grows w w' := by
 obtain ⟨i0, hi, hz0, hz1, hz2⟩ := info_parts Tryz.info_mutex
 obtain ⟨n, hn⟩ : ∃ n, L.length = n := ⟨_, rfl⟩
 have hcon := ceil_contains hr
 have HCON := h_ hcon
 rw [hn] at h1 ⊢
 have H16 : n <= 16 := h1
 have H_hr := h_ hr; have H_h2 := h_ h2; have H_hn := h_ hn; clear hr h2 hn
 clear hcon
 go_enter Tryz.func45, Tryz.ntmps45
 go_wp2_with ((go_at_call 82; have hcon := HCON.out; rw [H_hn.out] at hcon; refine hcon.mono ?_; clear hcon; rintro e w' ⟨rfl, rfl⟩; rw [H_h2.out]))
 obtain ⟨b, hb⟩ : ∃ b, w.heap.size = b := ⟨_, rfl⟩
 obtain ⟨W0, hW0⟩ : ∃ W0, w.alloc (tabC (.slice none 0 0)) = W0 := ⟨_, rfl⟩
 have g1 : CE W0 b (b + 1) [] (.slice none 0 0) := by
  rw [<- hW0, <- hb]
  exact ⟨Vg.alloc_heap_at rfl, Vg.Que.nil _ _ _ _⟩
 have g4 : Vg.Grows w W0 := by rw [<- hW0]; exact Vg.gro
 have hbw : w.heap.size <= b := by omega
 have hsz : b + 1 <= W0.heap.size := by rw [<- hW0, <- hb]; simp
 simp only [hb]
 rw [hW0]
 have H_hb := h_ hb; have H_hW0 := h_ hW0; have H_g1 := h_ g1; clear hb hW0 g1
 go_loopw [20] (fun i wr => ∃ (k : Nat) (v : Value), k <= n /\ i = .int .i64 k /\ b + 1 <= wr.heap.size /\ Vg.Grows w wr /\ CE wr b (b + 1) ((L.take k).map fun c => ⟨c, false, 0⟩) v) (fun i _ => n - (intOf i).toNat)
 case atStart => exact ⟨0, _, by omega, rfl, hsz, g4, H_g1.out⟩
 case round =>
  obtain ⟨k, v, hk, rfl, hszr, hgr, hce⟩ := hrel
  by_cases hlt : k < n
  ·have hkL : k < L.length := by rw [H_hn.out]; exact hlt
   obtain ⟨g, off, rfl, hg, hc, hm, hcell⟩ := H_hr.out.icell k hkL
   have hsn := List.take_succ_eq_append_getElem hkL
   obtain ⟨x, hx⟩ : ∃ x, L[k] = x := ⟨_, rfl⟩
   rw [hx] at hcell hsn
   have hcell := (hgr.below.cell (p := ⟨g, off + k, none⟩) hg).trans hcell
   have hgl : g < wr.heap.size := Nat.lt_of_lt_of_le hg hgr.size
   have hlk : ((L.take k).map fun c => (⟨c, false, 0⟩ : Vg.Mx)).length = k := by simp; omega
   obtain ⟨d1, hq⟩ := hce
   rw [hlk] at hq
   obtain ⟨va, vc, rfl⟩ := hq.shape
   obtain ⟨c_d1, f_d1, p_d1, l_d1, H_d1⟩ := Vg.lay d1; clear d1
   have H_hq := h_ hq; have H_hsn := h_ hsn; have H_hx := h_ hx; have H_hlk := h_ hlk; clear hq hsn hx hlk
   go_wp2_with (at_builtin; (refine Vg.wpList_que (w := _) rfl (.tmp 28) (.tmp 31) 210 rfl (b + 1) 214 i0 (.agg #[.int .i64 0, .bool false, .int .i64 0]) 3 24 Tryz.underlying210 hi hz0 hz1 hz2 rfl (by decide) (.slice va k vc) k _ rfl (H_hq.out.grows (Vg.gro)) _ 1 1 [.int .i64 x, .bool false, .int .i64 0] rfl rfl (Vg.three_new (by first | rfl | ((try simp only [World.size_alloc, Vg.plus_size, Vg.put_size, World.size_setCell, World.size_drew, World.heap_drewN]) <;> omega))) (by simp [Value.oneCell']) (by decide) (by unfold maxLen; omega) (by omega) (by simp only [World.size_alloc]; omega) ?_; intro v2 W1 y2 m2 hq2 hs2 ho2; obtain ⟨a2, c2, rfl⟩ := hq2.shape; have z1 := (hs2.block b (fun hh => by have := (H_hq.out.lt b hh).1; omega)).trans ((Vg.alloc_heap_past l_d1).trans H_d1.out); have hszW := hs2.size; rw [World.size_alloc] at hszW; have hgW := hs2.grows (hgr.alloc _) (fun j hj => by have := (H_hq.out.lt j hj).1; omega); clear c_d1 f_d1 p_d1; obtain ⟨c_z1, f_z1, p_z1, l_z1, H_z1⟩ := Vg.lay z1; clear z1; have H_hq2 := h_ hq2; have H_hs2 := h_ hs2; have H_ho2 := h_ ho2; clear hq2 hs2 ho2))
   refine ⟨⟨k + 1, _, by omega, by go_num, by rw [Vg.plus_size, Vg.put_size]; omega, Vg.gro, (Vg.blk_plus (by rw [Vg.put_size]; omega)).trans (Vg.put_heap_same (by omega)), ?_⟩, by simp [intOf]; omega⟩
   rw [H_hsn.out, List.map_append, Vg.mcells_append, List.length_append, H_hlk.out]
   refine H_hq2.out.kept fun j hj => ?_
   have := (H_hq2.out.lt j hj).1
   rw [<- Vg.put_plus (by omega)]
   exact Vg.put_heap_other (by omega)
  ·have hkn : k = n := by omega
   subst hkn
   have htk : L.take k = L := List.take_of_length_le (by rw [H_hn.out]; exact Nat.le_refl _)
   rw [htk] at hce
   have H_hce := h_ hce; have H_htk := h_ htk; clear hce htk
   go_wp2_with fail
   go_ret2
   exact ⟨v, (by rw [H_hb.out]; rfl), (by rw [H_hb.out]; exact H_hce.out), hgr⟩
end
end Go.Proofs.YtlkdkgefjipjmaaGreatDoor
namespace Vg
open Go
def ic (L : List Nat) : List Int := L.map fun k => (Int.ofNat k)
theorem ic_len (L : List Nat) : (ic L).length = L.length := List.length_map ..
theorem ic_at {L : List Nat} {k : Nat} (h : k < (ic L).length) : (ic L)[k] = ((L[k]'(by rw [<- ic_len]; exact h) : Nat) : Int) := by
 simp [ic]
def Tab (w : World) : Prop := ∀ j, j < 64 -> w.cell? ⟨0, j, none⟩ = some (.int .u8 (Lib.deBruijn64tab.getD j 0))
theorem Tab.grows {w w' : World} (h : Tab w) (hg : Grows w w') : Tab w' := fun j hj => by
 have h0 := World.block_lt_of_cell? w _ (h j hj)
 exact (hg.below.cell (p := ⟨0, j, none⟩) h0).trans (h j hj)
theorem tz_key (x a : Nat) (hx : x < 18446744073709551616) (hx0 : x ≠ 0) (hlow : x &&& (18446744073709551616 - x) = a) :
  IntKind.u64.wrap (bits BinOp.and IntKind.u64 (x : Int) (IntKind.u64.wrap (-(x : Int))) * 285870213051353865) / 288230376151711744 = ((a * 285870213051353865 % 18446744073709551616 / 288230376151711744 : Nat) : Int) := by
 have e1 : IntKind.u64.wrap (-(x : Int)) = ((18446744073709551616 - x : Nat) : Int) := by rw [IntKind.wrap_u64]; omega
 rw [e1, u64_and_nat x _ hx (by omega), hlow, IntKind.wrap_u64]
 omega
end Vg
namespace Go.Proofs.YtlkdkgefjipjmaaGreatDoor
open Go.ChangeShapes Go.WideShapes Go.ChangeAt Go.RowKit
theorem ctz64_core (x k idx : Nat) (w : World) (hx0 : ((x : Int) == 0) = false)
  (key : IntKind.u64.wrap (bits BinOp.and IntKind.u64 (x : Int) (IntKind.u64.wrap (-(x : Int))) * 285870213051353865) / 288230376151711744 = (idx : Int))
  (hi : idx < 64) (hk : k < 64) (hcell : w.cell? ⟨0, idx, none⟩ = some (.int .u8 k)) :
  Calls Tryz.prog 71 #[.int .u64 x] w fun e w' => e = .returned (.int .i64 k) /\ w = w' := by
 go_enter Tryz.func71, Tryz.ntmps71
 go_wp2_with (simp only [key])
 go_ret
 exact ⟨rfl, rfl⟩
theorem ctz64 (x : Nat) (w : World) (h0 : 0 < x) (hx : x < 18446744073709551616) (hT : Vg.Tab w) :
  Calls Tryz.prog 71 #[.int .u64 x] w fun e w' => e = .returned (.int .i64 (Lib.ctz 64 x)) /\ w = w' := by
 obtain ⟨hlow, hk⟩ := Lib.lowest_bit 64 x (by omega) hx
 obtain ⟨hi, htab⟩ := Lib.deBruijn64_at _ hk
 have hcell := hT _ hi
 rw [htab] at hcell
 exact ctz64_core x _ _ w (by simp; omega) (Vg.tz_key x _ hx (by omega) hlow) hi hk hcell
theorem all_shr : ∀ n, n < 64 -> IntKind.u64.wrap ((18446744073709551615 : Int) / 2 ^ n * 2 ^ n) = ((18446744073709551616 - 2 ^ n : Nat) : Int) := by decide +kernel
theorem all_and : ∀ n, n < 64 -> 18446744073709551615 &&& (18446744073709551615 - (18446744073709551616 - 2 ^ n)) = 2 ^ n - 1 := by decide +kernel
theorem bits_from (n : Nat) {y : Nat} (hy : 18446744073709551616 - 2 ^ n = y) (w : World) (h1 : 1 <= n) (h2 : n <= 63) :
  Calls Tryz.prog 86 #[.int .u64 18446744073709551615, .int .i64 n] w fun e w' => e = .returned (.int .u64 y) /\ w = w' := by
 have key := all_shr n (by omega)
 rw [hy] at key
 clear hy
 go_enter Tryz.func86, Tryz.ntmps86
 go_wp2
 go_ret
 exact ⟨rfl, rfl⟩
theorem bits_from0 (w : World) :
  Calls Tryz.prog 86 #[.int .u64 18446744073709551615, .int .i64 0] w fun e w' => e = .returned (.int .u64 18446744073709551615) /\ w = w' := by
 go_enter Tryz.func86, Tryz.ntmps86
 go_wp2
 go_ret
 exact ⟨rfl, rfl⟩
theorem bits_between (n : Nat) {z : Nat} (hz : 2 ^ n - 1 = z) (w : World) (h1 : 1 <= n) (h2 : n <= 64) (m : Int) (hm : m = (n : Int) - 1) :
  Calls Tryz.prog 48 #[.int .i64 0, .int .i64 m] w fun e w' => e = .returned (.int .u64 z) /\ w = w' := by
 subst hm
 by_cases h3 : n = 64
 ·subst h3
  have : z = 18446744073709551615 := by rw [<- hz]
  subst this
  clear hz
  go_enter Tryz.func48, Tryz.ntmps48
  go_wp2_with ((go_at_call 86; (with_reducible refine (bits_from0 _).mono ?_); rintro e w1 ⟨rfl, rfl⟩))
  go_ret
  exact ⟨rfl, rfl⟩
 ·have h4 : n <= 63 := by omega
  have hm : ((n : Int) - 1 + 1) = n := by omega
  obtain ⟨y, hy⟩ : ∃ y, 18446744073709551616 - 2 ^ n = y := ⟨_, rfl⟩
  have hlt : y < 18446744073709551616 := by have := Nat.two_pow_pos n; omega
  have key : bits .andNot .u64 18446744073709551615 (y : Int) = (z : Int) := by
   have e1 := u64_andNot_nat 18446744073709551615 y (by decide) hlt
   rw [<- hy, all_and n (by omega), hz, hy] at e1
   exact e1
  clear h3
  have H_hlt := h_ hlt; have H_hy := h_ hy; have H_hz := h_ hz; clear hlt hy hz
  go_enter Tryz.func48, Tryz.ntmps48
  go_wp2_with (first | (go_at_call 86; (with_reducible refine (bits_from n H_hy.out _ h1 h4).mono ?_); rintro e w1 ⟨rfl, rfl⟩) | (go_at_call 86; (with_reducible refine (bits_from0 _).mono ?_); rintro e w1 ⟨rfl, rfl⟩))
  go_ret
  exact ⟨by first | rfl | exact ret_int key, rfl⟩
section
variable {w : World} {L : List Nat} {sa : Option Addr} {sc n : Nat}
theorem shl_one (k : Nat) (h : k < 64) : IntKind.u64.wrap ((2 : Int) ^ k) = ((2 ^ k : Nat) : Int) := by
 have h1 := Vg.pow_lt64 h
 have e : ((2 : Int) ^ k) = ((2 ^ k : Nat) : Int) := by push_cast; rfl
 rw [IntKind.wrap_u64, e]
 generalize 2 ^ k = y at h1
 omega
theorem bits_of (hr : Vg.IR w sa sc (Vg.ic L)) (hn : L.length = n) (hL : ∀ i ∈ L, i < 64) :
  Calls Tryz.prog 227 #[.slice sa n sc] w fun e w' => e = .returned (.tuple #[.int .u64 (Vg.orB L 0 : Nat), .int .i64 0]) /\ w = w' := by
 have hc := hr.1
 have hm : sc <= 9223372036854775807 := hr.2.1
 rw [Vg.ic_len, hn] at hc
 have H_hr := h_ hr; have H_hn := h_ hn; have H_hL := h_ hL; clear hr hn hL
 go_enter Tryz.func227, Tryz.ntmps227
 go_wp2
 go_loop [4, 9] (fun b i => ∃ k : Nat, k <= n /\ i = .int .i64 k /\ b = .int .u64 (Vg.orB (L.take k) 0 : Nat)) (fun _ i => n - (intOf i).toNat)
 case atStart => exact ⟨0, by omega, rfl, by simp [Vg.orB]⟩
 case round =>
  obtain ⟨k, hk, rfl, rfl⟩ := hrel
  by_cases hlt : k < n
  ·have hkL : k < L.length := by rw [H_hn.out]; exact hlt
   obtain ⟨g, off, rfl, hg, -, -, hcell⟩ := H_hr.out.icell k (by rw [Vg.ic_len]; exact hkL)
   rw [Vg.ic_at] at hcell
   have hsn := List.take_succ_eq_append_getElem hkL
   obtain ⟨x, hx⟩ : ∃ x, L[k] = x := ⟨_, rfl⟩
   rw [hx] at hcell hsn
   have hx64 : x < 64 := by rw [<- hx]; exact H_hL.out _ (List.getElem_mem _)
   have hlow : Vg.orB (L.take k) 0 < 18446744073709551616 := Vg.orB_lt (by decide) fun i hi => H_hL.out i (List.mem_of_mem_take hi)
   have key : bits .or .u64 ((Vg.orB (L.take k) 0 : Nat) : Int) (IntKind.u64.wrap ((2 : Int) ^ x)) = ((Vg.orB (L.take (k + 1)) 0 : Nat) : Int) := by
    rw [shl_one x hx64, u64_or_nat _ _ hlow (Vg.pow_lt64 hx64), hsn, Vg.orB_snoc]
   have H_hsn := h_ hsn; have H_hx := h_ hx; have H_hlow := h_ hlow; clear hsn hx hlow
   go_wp2
   go_round
   case rel => exact ⟨k + 1, by omega, by go_num, by rw [<- key]⟩
   case measure => simp [intOf]; omega
  ·have hkn : k = n := by omega
   have htk : L.take k = L := List.take_of_length_le (by rw [H_hn.out]; omega)
   rw [htk]
   subst hkn
   go_wp2
   go_returns
   exact ⟨rfl, rfl⟩
end
end Go.Proofs.YtlkdkgefjipjmaaGreatDoor
namespace Vg
open Go
def Aft (x n : Nat) (r : Int) (is : Bool) : Prop := (is = false /\ r = 0 /\ ∀ j, n < j -> x.testBit j = false) \/ (is = true /\ ∃ t : Nat, r = t /\ n < t /\ t < 64 /\ x.testBit t = true /\ ∀ j, n < j -> j < t -> x.testBit j = false)
def aftB (x n : Nat) : Int × Bool := if x / 2 ^ (n + 1) * 2 ^ (n + 1) = 0 then (0, false) else ((Lib.ctz 64 (x / 2 ^ (n + 1) * 2 ^ (n + 1)) : Int), true)
theorem shr_shl_tb (x n j : Nat) : (x / 2 ^ n * 2 ^ n).testBit j = (decide (n <= j) && x.testBit j) := by
 rw [<- Nat.shiftRight_eq_div_pow, <- Nat.shiftLeft_eq, Nat.testBit_shiftLeft, Nat.testBit_shiftRight]
 by_cases h : n <= j
 ·simp [h]
 ·simp [h]
theorem shr_shl_le (x n : Nat) : x / 2 ^ n * 2 ^ n <= x := Nat.div_mul_le_self x (2 ^ n)
theorem first_spec {x c n : Nat} (hc : x / 2 ^ (n + 1) * 2 ^ (n + 1) = c) (h0 : 0 < c) (h : c < 18446744073709551616) : n < Lib.ctz 64 c /\ Lib.ctz 64 c < 64 /\ x.testBit (Lib.ctz 64 c) = true /\ ∀ j, n < j -> j < Lib.ctz 64 c -> x.testBit j = false := by
 obtain ⟨m, hm, hk⟩ := ctz_at h0 h
 obtain ⟨k, hkk⟩ : ∃ k, Lib.ctz 64 c = k := ⟨_, rfl⟩
 rw [hkk] at hm hk ⊢
 have hb : ∀ j, (x / 2 ^ (n + 1) * 2 ^ (n + 1)).testBit j = (decide (n + 1 <= j) && x.testBit j) := shr_shl_tb x (n + 1)
 rw [hc] at hb
 have hs : ∀ j, c.testBit j = (decide (k <= j) && (2 * m + 1).testBit (j - k)) := fun j => by rw [hm, Nat.testBit_two_pow_mul]
 have h1 : c.testBit k = true := by rw [hs]; simp
 have h2 := hb k
 rw [h1] at h2
 have h3 : n + 1 <= k /\ x.testBit k = true := by simpa using h2.symm
 refine ⟨by omega, hk, h3.2, fun j h4 h5 => ?_⟩
 have h6 := hb j
 rw [hs] at h6
 simp only [show ¬ k <= j from by omega, decide_false, Bool.false_and, show n + 1 <= j from by omega, decide_true, Bool.true_and] at h6
 exact h6.symm
theorem none_spec {x n : Nat} (hc : x / 2 ^ (n + 1) * 2 ^ (n + 1) = 0) : ∀ j, n < j -> x.testBit j = false := fun j hj => by
 have hb := shr_shl_tb x (n + 1) j
 rw [hc] at hb
 simpa [show n + 1 <= j from by omega] using hb.symm
theorem aft_spec {x n : Nat} {r : Int} {is : Bool} (hx : x < 18446744073709551616) (h : aftB x n = (r, is)) : Aft x n r is := by
 unfold aftB at h
 have hl := shr_shl_le x (n + 1)
 by_cases h0 : x / 2 ^ (n + 1) * 2 ^ (n + 1) = 0
 ·rw [if_pos h0] at h
  obtain ⟨rfl, rfl⟩ := Prod.mk.injEq .. ▸ h
  exact .inl ⟨rfl, rfl, none_spec h0⟩
 ·rw [if_neg h0] at h
  obtain ⟨rfl, rfl⟩ := Prod.mk.injEq .. ▸ h
  obtain ⟨a1, a2, a3, a4⟩ := first_spec (x := x) (n := n) rfl (by omega) (by omega)
  exact .inr ⟨rfl, _, rfl, a1, a2, a3, a4⟩
theorem u64_shr_shl (x n : Nat) (hx : x < 18446744073709551616) : IntKind.u64.wrap (((x : Nat) : Int) / 2 ^ n * 2 ^ n) = ((x / 2 ^ n * 2 ^ n : Nat) : Int) := by
 have h := shr_shl_le x n
 have e : (((x : Nat) : Int) / 2 ^ n * 2 ^ n) = ((x / 2 ^ n * 2 ^ n : Nat) : Int) := by push_cast; rfl
 rw [e, IntKind.wrap_u64]
 omega
end Vg
namespace Go.Proofs.YtlkdkgefjipjmaaGreatDoor
open Go.ChangeShapes Go.WideShapes Go.ChangeAt Go.RowKit
theorem bits_from_x (x n : Nat) {y : Nat} (hy : x / 2 ^ n * 2 ^ n = y) (hx : x < 18446744073709551616) (w : World) (h1 : 1 <= n) (h2 : n <= 63) :
  Calls Tryz.prog 86 #[.int .u64 x, .int .i64 n] w fun e w' => e = .returned (.int .u64 y) /\ w = w' := by
 have key := Vg.u64_shr_shl x n hx
 rw [hy] at key
 clear hy
 go_enter Tryz.func86, Tryz.ntmps86
 go_wp2
 go_ret
 exact ⟨rfl, rfl⟩
theorem bits_first (x : Nat) (hx : x < 18446744073709551616) (w : World) (hT : Vg.Tab w) {r : Int} {is : Bool} (hr : (if x = 0 then 0 else (Lib.ctz 64 x : Int)) = r) (his : decide (x ≠ 0) = is) :
  Calls Tryz.prog 210 #[.int .u64 x] w fun e w' => e = .returned (.tuple #[.int .i64 r, .bool is]) /\ w = w' := by
 subst hr his
 by_cases h0 : x = 0
 ·subst h0
  clear hT
  go_enter Tryz.func210, Tryz.ntmps210
  go_wp2
  go_ret2
  exact ⟨rfl, rfl⟩
 ·have hne : (x : Int) ≠ 0 := by omega
  rw [if_neg h0, decide_eq_true h0]
  have hk := ctz64 x w (by omega) hx hT
  clear h0
  have H_hT := h_ hT; have H_hk := h_ hk; clear hT hk
  go_enter Tryz.func210, Tryz.ntmps210
  go_wp2_with ((go_at_call 71; (with_reducible refine (H_hk.out).mono ?_); rintro e w1 ⟨rfl, rfl⟩))
  go_ret2
  exact ⟨rfl, rfl⟩
theorem bits_after (x n : Nat) (hn : n < 64) (hx : x < 18446744073709551616) (w : World) (hT : Vg.Tab w) {r : Int} {is : Bool} (hr : Vg.aftB x n = (r, is)) :
  Calls Tryz.prog 177 #[.int .u64 x, .int .i64 n] w fun e w' => e = .returned (.tuple #[.int .i64 r, .bool is]) /\ w = w' := by
 unfold Vg.aftB at hr
 by_cases h63 : n = 63
 ·subst h63
  have e : x / 2 ^ (63 + 1) * 2 ^ (63 + 1) = 0 := by
   rw [Nat.div_eq_of_lt (by simpa using hx)]
  rw [if_pos e] at hr
  obtain ⟨rfl, rfl⟩ := Prod.mk.injEq .. ▸ hr
  clear hT
  go_enter Tryz.func177, Tryz.ntmps177
  go_wp2
  go_ret2
  exact ⟨rfl, rfl⟩
 ·have hw1 : IntKind.i64.wrap ((n : Int) + 1) = ((n + 1 : Nat) : Int) := by rw [IntKind.wrap_i64]; omega
  obtain ⟨c, hc⟩ : ∃ c, x / 2 ^ (n + 1) * 2 ^ (n + 1) = c := ⟨_, rfl⟩
  rw [hc] at hr
  have hcx : c < 18446744073709551616 := by have := Vg.shr_shl_le x (n + 1); omega
  have hn63 : n < 63 := by omega
  have hfk : Calls Tryz.prog 86 #[.int .u64 x, .int .i64 ((n : Int) + 1)] w fun e w' => e = .returned (.int .u64 c) /\ w = w' := bits_from_x x (n + 1) hc hx w (by omega) (by omega)
  have hfi := bits_first c hcx w hT (r := r) (is := is) (by by_cases h0 : c = 0 <;> simp [h0] at hr ⊢ <;> exact hr.1) (by by_cases h0 : c = 0 <;> simp [h0] at hr ⊢ <;> first | exact hr.2 | exact hr.2.symm)
  clear h63 hr
  have H_hT := h_ hT; have H_hfk := h_ hfk; have H_hfi := h_ hfi; have H_hc := h_ hc; clear hT hfk hfi hc
  go_enter Tryz.func177, Tryz.ntmps177
  go_wp2_with (first | (go_at_call 86; (with_reducible refine (H_hfk.out).mono ?_); rintro e w1 ⟨rfl, rfl⟩) | (go_at_call 210; (with_reducible refine (H_hfi.out).mono ?_); rintro e w1 ⟨rfl, rfl⟩))
  go_ret2
  exact ⟨rfl, rfl⟩
end Go.Proofs.YtlkdkgefjipjmaaGreatDoor
namespace Vg
open Go Go.RowKit
structure Kept (S : Nat -> Prop) (W W' : World) : Prop where
 size : W.heap.size <= W'.heap.size
 block : ∀ k, S k -> W'.heap[k]? = W.heap[k]?
section
variable {S : Nat -> Prop} {A B C : World}
theorem Kept.refl (S : Nat -> Prop) (W : World) : Kept S W W := ⟨Nat.le_refl _, fun _ _ => rfl⟩
theorem Kept.trans (h : Kept S A B) (k : Kept S B C) : Kept S A C := ⟨Nat.le_trans h.size k.size, fun j hj => (k.block j hj).trans (h.block j hj)⟩
theorem Kept.putObj {w : World} (hS : ∀ k, S k -> k < w.heap.size) (W : World) (l : Nat) (o o' : Obj) (hl : w.heap.size <= l) (h : W.heap[l]? = some o) (_ : o.isCells = false) (_ : o.isWalk = false) : Kept S W (W.putObj l o') := by
 have hb : Below w.heap.size W (W.putObj l o') := (Below.refl w.heap.size W).grown (grownBy_putObj' W l o') (by have := (Array.getElem?_eq_some_iff.1 h).1; omega) (fun k e => by cases e; omega)
 exact ⟨hb.size, fun k hk => hb.block k (hS k hk)⟩
theorem Kept.of_below {n : Nat} (h : Below n A B) (hS : ∀ k, S k -> k < n) : Kept S A B := ⟨h.size, fun k hk => h.block k (hS k hk)⟩
theorem Kept.blk {k : Nat} {o : Obj} (h : Kept S A B) (hb : Vg.blk A k = some o) (hk : S k) : Vg.blk B k = some o := (h.block k hk).trans hb
end
theorem appended {W w1 : World} {n₀ n₁ B : Nat} {t e : TypeId} {size : Nat} {v v' : Value} {k m : Nat} {xs ys : List Value} {tmp : Obj} {S : Nat -> Prop}
  (hv : Boxed W B t v) (hte : t ≠ e) (hrow : W.ownsRow n₁ e size v k xs) (hn₁ : n₁ <= W.heap.size) (hB : n₀ <= B) (hnn : n₀ <= n₁) (hS : ∀ k, S k -> k < n₁ /\ k ≠ B)
  (hown' : w1.ownsRow n₁ e size v' m ys) (hgrow : (W.alloc tmp).grownBy w1 v.ownBlock) :
  Boxed w1 B t v /\ Boxed (w1.setCell ⟨B, 0, none⟩ v') B t v' /\ (w1.setCell ⟨B, 0, none⟩ v').ownsRow n₁ e size v' m ys /\ KeepsOthers W (w1.setCell ⟨B, 0, none⟩ v') /\ Below n₀ W (w1.setCell ⟨B, 0, none⟩ v') /\ Kept S W (w1.setCell ⟨B, 0, none⟩ v') /\ n₁ <= (w1.setCell ⟨B, 0, none⟩ v').heap.size := by
 have hv1 : Boxed w1 B t v := (hv.alloc tmp).kept hgrow (hv.not_row hte hrow)
 have hlt : ∀ j, v.ownBlock = some j -> n₁ <= j := by
  intro j ej
  rcases hrow.2 with ⟨rfl, _⟩ | ⟨g, cap, cur, rfl, hb, _, _⟩
  ·simp [Value.ownBlock] at ej
  ·obtain rfl : g = j := by simpa [Value.ownBlock] using ej
   exact hb
 have hsz : W.heap.size + 1 <= w1.heap.size := by have := hgrow.size; simpa using this
 refine ⟨hv1, hv1.set v', hown'.kept (grownBy_setCell' w1 B v') (.inr (hv1.not_row hte hown').symm), ?_, ?_, ⟨by rw [World.size_setCell]; omega, fun k hk => ?_⟩, by rw [World.size_setCell]; omega⟩
 ·refine ((KeepsOthers.alloc W tmp).trans (KeepsOthers.of_grownBy hgrow fun j o ej hj => ?_)).trans (KeepsOthers.setCell _ _ _)
  rcases (hrow.alloc tmp).2 with ⟨rfl, _⟩ | ⟨g, cap, cur, rfl, _, hgb, _⟩
  ·simp [Value.ownBlock] at ej
  ·obtain rfl : g = j := by simpa [Value.ownBlock] using ej
   rw [hgb] at hj; cases hj; rfl
 ·refine (((Below.refl n₀ W).alloc (by omega) tmp).grown hgrow (by simp; omega) fun j ej => ?_).setCell (p := ⟨B, 0, none⟩) hB v'
  have := hlt j ej; omega
 ·obtain ⟨h1, h2⟩ := hS k hk
  rw [Below.heap_setCell w1 ⟨B, 0, none⟩ v' k h2, hgrow.block k (by simp; omega) (fun ej => by have := hlt k ej.symm; omega)]
  exact Below.heap_alloc W tmp k (by omega)
theorem ownFrom_size {β : Type} (B n : Nat) : OwnFrom (β := β) B (fun _ W => n <= W.heap.size) := fun s A C row hs hg hr => Nat.le_trans hs hg.size
end Vg
namespace Vg
open Go
def pis (L : List Int) : List Value := L.map (Value.int .i64)
abbrev rowP (L : List Int) (T : TypeId) : Obj := .cells (pis L).toArray T
theorem rowP_cell {w : World} {g i : Nat} {L : List Int} {T : TypeId} {x : Int} (h : blk w g = some (rowP L T)) (hi : L[i]? = some x) : w.cell? ⟨g, i, none⟩ = some (.int .i64 x) := by
 rw [cells_of h]
 simp [pis, hi]
theorem rowP_set {w : World} {g i : Nat} {L : List Int} {T : TypeId} (x : Int) (h : blk w g = some (rowP L T)) : w.setCell ⟨g, i, none⟩ (.int .i64 x) = put w g (rowP (L.set i x) T) := by
 rw [setCell_of h]
 congr 1
 simp [pis, List.map_set]
structure Pl where
 K : List Int
 E : List Int
 top : Int
 free : Int
def Pl.put (s : Pl) (i l : Nat) (last : Int) : Pl :=
 let K1 := ((s.K.set (i * 3) l).set (i * 3 + 1) last).set (i * 3 + 2) (-1)
 if last = -1 then { s with K := K1, E := (s.E.set (l * 2) i).set (l * 2 + 1) i } else { s with K := K1.set (last.toNat * 3 + 2) i, E := s.E.set (l * 2 + 1) i }
end Vg
namespace Go.Proofs.YtlkdkgefjipjmaaGreatDoor
open Go.ChangeShapes Go.WideShapes Go.ChangeAt Go.RowKit
abbrev poolC (g1 g2 n m : Nat) (top free : Int) : Obj := .cells #[.slice (some ⟨g1, 0, none⟩) n n, .slice (some ⟨g2, 0, none⟩) m m, .int .i64 top, .int .i64 free] 344
structure PO (w : World) (b g1 g2 n m : Nat) (s : Vg.Pl) : Prop where
 tab : Vg.blk w b = some (poolC g1 g2 n m s.top s.free)
 lk : Vg.blk w g1 = some (Vg.rowP s.K 346)
 ls : Vg.blk w g2 = some (Vg.rowP s.E 348)
 n1 : b ≠ g1
 n2 : b ≠ g2
 n3 : g1 ≠ g2
 kl : s.K.length = n * 3
 el : s.E.length = m * 2
 nn : n <= 4096
 mm : m <= 512
def pown (b g1 g2 k : Nat) : Prop := k = b \/ k = g1 \/ k = g2
def POn (w w' : World) (b g1 g2 n m : Nat) (s : Vg.Pl) : Prop := PO w' b g1 g2 n m s /\ Vg.Touch (pown b g1 g2) w w'
section
variable {w w0 w' : World} {b g1 g2 n m : Nat} {s : Vg.Pl}
theorem PO.grows (h : PO w b g1 g2 n m s) (hg : Vg.Grows w w') : PO w' b g1 g2 n m s := ⟨hg.blk h.tab, hg.blk h.lk, hg.blk h.ls, h.n1, h.n2, h.n3, h.kl, h.el, h.nn, h.mm⟩
theorem PO.touch {t : Nat -> Prop} (h : PO w b g1 g2 n m s) (ht : Vg.Touch t w w') (hv : ∀ k, pown b g1 g2 k -> ¬ t k) : PO w' b g1 g2 n m s :=
 ⟨(ht.block b (Vg.lt_of h.tab) (hv b (.inl rfl))).trans h.tab, (ht.block g1 (Vg.lt_of h.lk) (hv g1 (.inr (.inl rfl)))).trans h.lk, (ht.block g2 (Vg.lt_of h.ls) (hv g2 (.inr (.inr rfl)))).trans h.ls, h.n1, h.n2, h.n3, h.kl, h.el, h.nn, h.mm⟩
theorem PO.lt (h : PO w b g1 g2 n m s) : b < w.heap.size /\ g1 < w.heap.size /\ g2 < w.heap.size := ⟨Vg.lt_of h.tab, Vg.lt_of h.lk, Vg.lt_of h.ls⟩
theorem POn.refl (h : PO w b g1 g2 n m s) : POn w w b g1 g2 n m s := ⟨h, Vg.Touch.refl _ _⟩
theorem POn.grows (h : POn w0 w b g1 g2 n m s) (hg : Vg.Grows w w') : POn w0 w' b g1 g2 n m s := ⟨h.1.grows hg, h.2.trans (Vg.Touch.of_grows hg)⟩
theorem POn.setK (h : POn w0 w b g1 g2 n m s) (i : Nat) (x : Int) : POn w0 (w.setCell ⟨g1, i, none⟩ (.int .i64 x)) b g1 g2 n m { s with K := s.K.set i x } := by
 obtain ⟨h, ht⟩ := h
 rw [Vg.rowP_set x h.lk]
 exact ⟨⟨(Vg.blk_put_other h.n1.symm).trans h.tab, Vg.blk_put_same h.lt.2.1, (Vg.blk_put_other h.n3).trans h.ls, h.n1, h.n2, h.n3, by show (s.K.set i x).length = _; rw [List.length_set]; exact h.kl, h.el, h.nn, h.mm⟩, ht.put (.inr (.inl rfl)) _⟩
theorem POn.setE (h : POn w0 w b g1 g2 n m s) (i : Nat) (x : Int) : POn w0 (w.setCell ⟨g2, i, none⟩ (.int .i64 x)) b g1 g2 n m { s with E := s.E.set i x } := by
 obtain ⟨h, ht⟩ := h
 rw [Vg.rowP_set x h.ls]
 exact ⟨⟨(Vg.blk_put_other h.n2.symm).trans h.tab, (Vg.blk_put_other h.n3.symm).trans h.lk, Vg.blk_put_same h.lt.2.2, h.n1, h.n2, h.n3, h.kl, by show (s.E.set i x).length = _; rw [List.length_set]; exact h.el, h.nn, h.mm⟩, ht.put (.inr (.inr rfl)) _⟩
theorem pl_has (l : Int) (h : PO w b g1 g2 n m s) {is : Bool} (his : decide (0 <= l /\ l < (m : Int)) = is) :
  Calls Tryz.prog 198 #[.pointer (some ⟨b, 0, none⟩), .int .i64 l] w fun e w' => e = .returned (.bool is) /\ w = w' := by
 have x1 := h.tab
 obtain ⟨c_x1, f_x1, p_x1, l_x1, H_x1⟩ := Vg.lay x1; clear x1
 have H_h := h_ h; clear h
 by_cases h1 : 0 <= l
 ·by_cases h2 : l < m
  ·have e : is = true := by rw [<- his]; simp; omega
   subst e
   go_enter Tryz.func198, Tryz.ntmps198
   go_wp2
   go_ret
   exact ⟨ret_bool (by simp; try omega), rfl⟩
  ·have e : is = false := by rw [<- his]; simp; omega
   subst e
   go_enter Tryz.func198, Tryz.ntmps198
   go_wp2
   go_ret
   exact ⟨ret_bool (by simp; try omega), rfl⟩
 ·have e : is = false := by rw [<- his]; simp; omega
  subst e
  go_enter Tryz.func198, Tryz.ntmps198
  go_wp2
  go_ret
  exact ⟨ret_bool (by simp; try omega), rfl⟩
theorem PO.linkc (h : PO w b g1 g2 n m s) {i : Nat} (hi : i < n) : ∃ x y z, w.cell? ⟨g1, i * 3, none⟩ = some (.int .i64 x) /\ w.cell? ⟨g1, i * 3 + 1, none⟩ = some (.int .i64 y) /\ w.cell? ⟨g1, i * 3 + 2, none⟩ = some (.int .i64 z) := by
 have hk := h.kl
 exact ⟨_, _, _, Vg.rowP_cell h.lk (List.getElem?_eq_getElem (show i * 3 < s.K.length by omega)), Vg.rowP_cell h.lk (List.getElem?_eq_getElem (show i * 3 + 1 < s.K.length by omega)), Vg.rowP_cell h.lk (List.getElem?_eq_getElem (show i * 3 + 2 < s.K.length by omega))⟩
theorem PO.listc (h : PO w b g1 g2 n m s) {l : Nat} (hl : l < m) : ∃ x y, w.cell? ⟨g2, l * 2, none⟩ = some (.int .i64 x) /\ w.cell? ⟨g2, l * 2 + 1, none⟩ = some (.int .i64 y) := by
 have hk := h.el
 exact ⟨_, _, Vg.rowP_cell h.ls (List.getElem?_eq_getElem (show l * 2 < s.E.length by omega)), Vg.rowP_cell h.ls (List.getElem?_eq_getElem (show l * 2 + 1 < s.E.length by omega))⟩
theorem PO.froz (h : PO w b g1 g2 n m s) : (∀ o, w.frozen? ⟨b, o, none⟩ = false) /\ (∀ o, w.frozen? ⟨g1, o, none⟩ = false) /\ ∀ o, w.frozen? ⟨g2, o, none⟩ = false := ⟨Vg.frozen_of h.tab, Vg.frozen_of h.lk, Vg.frozen_of h.ls⟩
theorem pl_put (i l : Nat) (h : PO w b g1 g2 n m s) (hi : i < n) (hl : l < m) {last : Int} (hla : s.E[l * 2 + 1]? = some last) (hlr : last = -1 \/ (0 <= last /\ last < n)) :
  Calls Tryz.prog 199 #[.pointer (some ⟨b, 0, none⟩), .int .i64 i, .int .i64 l] w fun e w' => e = .returned (.tuple #[]) /\ POn w w' b g1 g2 n m (s.put i l last) := by
 have x1 := h.tab
 have hn := h.nn
 have hm := h.mm
 have hkl := h.kl
 have cE := Vg.rowP_cell h.ls hla
 obtain ⟨fb, fK, fE⟩ := h.froz
 obtain ⟨lb, lK, lE⟩ := h.lt
 have hiI : (i : Int) < n := by omega
 have hlI : (l : Int) < m := by omega
 have hnn : n <= n := Nat.le_refl _
 obtain ⟨c_x1, f_x1, p_x1, l_x1, H_x1⟩ := Vg.lay x1; clear x1
 have H_h := h_ h; have H_hla := h_ hla; clear h hla
 go_enter Tryz.func199, Tryz.ntmps199
 go_upto_region 1 with fail
 go_still_tail 12, (by kernel_rfl)
 obtain ⟨w1, hw1⟩ : ∃ w1, w.drew = w1 := ⟨_, rfl⟩
 have hp1 : POn w w1 b g1 g2 n m s := (POn.refl H_h.out).grows (by rw [<- hw1]; exact (Vg.Grows.refl w).drew)
 change wpList _ _ _ _ _ w.drew
 rw [hw1]
 clear c_x1 f_x1 p_x1 cE fb fK fE lb lK lE
 have y1 := hp1.1.tab
 have cE := Vg.rowP_cell hp1.1.ls H_hla.out
 obtain ⟨k1, k2, k3, cK1, cK2, cK3⟩ := hp1.1.linkc hi
 obtain ⟨fb, fK, fE⟩ := hp1.1.froz
 obtain ⟨lb, lK, lE⟩ := hp1.1.lt
 obtain ⟨c_y1, f_y1, p_y1, l_y1, H_y1⟩ := Vg.lay y1; clear y1
 have H_hp1 := h_ hp1; clear hp1
 go_upto_region 2 with fail
 have hp2 := ((H_hp1.out.setK (i * 3) l).setK (i * 3 + 1) last).setK (i * 3 + 2) (-1)
 obtain ⟨w2, hw2⟩ : ∃ w2, (((w1.setCell ⟨g1, i * 3, none⟩ (.int .i64 l)).setCell ⟨g1, i * 3 + 1, none⟩ (.int .i64 last)).setCell ⟨g1, i * 3 + 2, none⟩ (.int .i64 (-1))) = w2 := ⟨_, rfl⟩
 rw [hw2] at hp2 ⊢
 clear hw2 c_y1 f_y1 p_y1 l_y1 cE cK1 cK2 cK3 fb fK fE lb lK lE H_y1 H_hp1 hw1
 have y2 := hp2.1.tab
 have cE := Vg.rowP_cell hp2.1.ls H_hla.out
 obtain ⟨e1, e2, cE1, -⟩ := hp2.1.listc hl
 obtain ⟨fb, fK, fE⟩ := hp2.1.froz
 obtain ⟨lb, lK, lE⟩ := hp2.1.lt
 by_cases h1 : last = -1
 ·have hf : s.put i l last = { s with K := ((s.K.set (i * 3) l).set (i * 3 + 1) last).set (i * 3 + 2) (-1), E := (s.E.set (l * 2) i).set (l * 2 + 1) i } := by unfold Vg.Pl.put; rw [if_pos h1]
  subst h1
  obtain ⟨c_y2, f_y2, p_y2, l_y2, H_y2⟩ := Vg.lay y2; clear y2
  have H_hp2 := h_ hp2; have H_hf := h_ hf; clear hp2 hf
  go_wp2_with fail
  go_returns
  rw [H_hf.out]
  exact ⟨rfl, (H_hp2.out.setE (l * 2) i).setE (l * 2 + 1) i⟩
 ·obtain ⟨z, rfl⟩ : ∃ z : Nat, last = z := ⟨last.toNat, by omega⟩
  have hzn : z < n := by omega
  have hzI : (z : Int) < n := by omega
  have hzI0 : (0 : Int) <= z := by omega
  have hz1 : ¬ (z : Int) = -1 := by omega
  have hf : s.put i l z = { s with K := (((s.K.set (i * 3) l).set (i * 3 + 1) z).set (i * 3 + 2) (-1)).set (z * 3 + 2) i, E := s.E.set (l * 2 + 1) i } := by unfold Vg.Pl.put; rw [if_neg h1]; simp
  obtain ⟨c_y2, f_y2, p_y2, l_y2, H_y2⟩ := Vg.lay y2; clear y2
  have H_hp2 := h_ hp2; have H_hf := h_ hf; clear hp2 hf
  go_upto_region 4 with fail
  go_still_tail 11, (by kernel_rfl)
  obtain ⟨w3, hw3⟩ : ∃ w3, w2.drew = w3 := ⟨_, rfl⟩
  have hp3 := H_hp2.out.grows (w' := w3) (by rw [<- hw3]; exact (Vg.Grows.refl w2).drew)
  change wpList _ _ _ _ _ w2.drew
  rw [hw3]
  clear c_y2 f_y2 p_y2 l_y2 cE cE1 fb fK fE lb lK lE H_y2 H_hp2 hw3
  have y3 := hp3.1.tab
  have cE := Vg.rowP_cell hp3.1.ls H_hla.out
  obtain ⟨k4, k5, k6, -, -, cK6⟩ := hp3.1.linkc hzn
  obtain ⟨fb, fK, fE⟩ := hp3.1.froz
  obtain ⟨lb, lK, lE⟩ := hp3.1.lt
  have n12 := hp3.1.n3
  obtain ⟨c_y3, f_y3, p_y3, l_y3, H_y3⟩ := Vg.lay y3; clear y3
  have H_hp3 := h_ hp3; clear hp3
  go_wp2_with fail
  go_returns
  rw [H_hf.out]
  exact ⟨rfl, (H_hp3.out.setK (z * 3 + 2) i).setE (l * 2 + 1) i⟩
end
end Go.Proofs.YtlkdkgefjipjmaaGreatDoor
