/- mbox: List (a range over the ring's iterator). -/
import Derived.Test.YtlgkcpgmnpoanaaKept
import Derived.Test.YtlgkcpgmnpoanaaMboxA
set_option linter.unusedSimpArgs false
set_option linter.unusedVariables false
set_option maxHeartbeats 2000000
set_option maxRecDepth 100000
namespace Go.Proofs.Ytlgkcpgmnpoanaa
open Go.ChangeShapes Go.WideShapes Go.ChangeAt Go.RowKit Go.Shelf
attribute [local go_sem] Oper.semAt_some
theorem ring_each (b : Nat) (w : World) :
    Calls Try.prog 73 #[.pointer (some ⟨b, 0, none⟩)] w fun e w' => e = .returned (.func (.func 82) #[] #[.pointer (some ⟨w.heap.size, 0, none⟩)]) ∧ w' = w.alloc (.cells #[.pointer (some ⟨b, 0, none⟩)] 136) := by
  go_enter Try.func73, Try.ntmps73
  go_wp2
  go_ret
  exact ⟨rfl, rfl⟩
/-- place, to the draw. -/
theorem ring_place1 {b g room first many : Nat} {lost : Int} {w : World} (n : Int) (h : Vg.blk w b = some (boxC g room first many lost)) (hm : 1 ≤ room ∧ room ≤ 1024) (hf : first < room) (hn0 : 0 ≤ n) (hn : n ≤ 1024) :
    Calls Try.prog 81 #[.pointer (some ⟨b, 0, none⟩), .int .i64 n] w fun e w' => e = .returned (.int .i64 (((first : Int) + n) % room)) ∧ w' = w.drew := by
  obtain ⟨c0, c1, c2, c3⟩ := box_cells h
  clear h
  obtain ⟨hm0, hm1⟩ := hm
  go_enter Try.func81, Try.ntmps81
  go_wp2
  go_region
  all_goals go_wp2
  all_goals go_ret
  all_goals exact ⟨rfl, rfl⟩
theorem each_stops (n₀ k : Nat) (hk : 1 ≤ k) (S : Nat → Prop) (Bn b g room first : Nat) (R : Nat → Int) (L : List Int) (lost : Int) (w : World) (hS1 : S b) (hS2 : S g) (hS3 : S Bn) (hlt : ∀ k, S k → k < w.heap.size)
    (hc : Vg.blk w Bn = some (.cells #[.pointer (some ⟨b, 0, none⟩)] 136)) (hb : Vg.blk w b = some (boxC g room first L.length lost)) (hg : Vg.blk w g = some (ringC R room)) (hs : Vg.Rings R room first L) :
    SeqStopsK Fence.wide k Try.prog 82 #[.pointer (some ⟨Bn, 0, none⟩)] (fun x : Int => #[.int .i64 x]) (Vg.Kept S) (fun xs => xs = L) (fun _ => True) L.length w := fun l J Jx W hW hJ hJx hY hJ0 => by
  have kW : Vg.Kept S w W := Vg.Kept.of_below hW hlt
  have hm := hs.1
  have hm2 := hs.2.1
  have hf1 := hs.2.2.1
  have hlen := hs.2.2.2.1
  have d1 := kW.blk hc hS3
  have d2 := kW.blk hb hS1
  have d3 := kW.blk hg hS2
  have e1 := Vg.cells_of d1 0
  have e2 := Vg.cells_of d2 2
  have D1 := Lib.hid d1
  have D2 := Lib.hid d2
  have D3 := Lib.hid d3
  clear d1 d2 d3
  refine callsIn_of_wp Try.func82 rfl trivial ?_ rfl
  simp only [Try.ntmps82, List.size_toArray, List.length_cons, List.length_nil, Nat.reduceAdd, Nat.reduceSub, Array.replicate_succ, Array.replicate_zero, List.push_toArray, List.append_toArray, List.nil_append, List.cons_append]
  gi_wp2
  gi_loopw [8] (fun i wr => ∃ j : Nat, j ≤ L.length ∧ i = .int .i64 j ∧ J (L.take j) wr ∧ Vg.Kept S W wr) (fun i _ => L.length - (intOf i).toNat)
  case atStart => exact ⟨0, by omega, rfl, by simpa using hJ0, Vg.Kept.refl _ _⟩
  case round =>
    obtain ⟨j, hj, rfl, hJj, hkp⟩ := hrel
    have d1 := hkp.blk D1.out hS3
    have d2 := hkp.blk D2.out hS1
    have d3 := hkp.blk D3.out hS2
    by_cases hjl : j < L.length
    · obtain ⟨ix, hix⟩ : ∃ ix : Nat, (first + j) % room = ix := ⟨_, rfl⟩
      have hixlt : ix < room := by rw [← hix]; exact Nat.mod_lt _ (by omega)
      have hixI : ((first : Int) + j) % room = ix := by rw [← hix]; simp
      have hixR : R ix = L[j] := by
        have := hs.2.2.2.2 j hjl
        rw [hix] at this
        rw [this]; simp [List.getD, hjl]
      have c3 : wr.cell? ⟨g, ix, none⟩ = some (.int .i64 L[j]) := by rw [Vg.cells_of d3, ← hixR]; exact Vg.intArr_get hixlt
      obtain ⟨c20, c21, c22, c23⟩ := box_cells d2
      have c10 := Vg.cells_of d1 0
      have hi0 : (0 : Int) ≤ ix := by omega
      have hi1 : (ix : Int) < room := by omega
      simp at c10
      have hy0 := YieldAt.mono (R' := fun e W' => ∃ v : Bool, e = .returned (.bool v) ∧ Vg.Ends S J Jx (L.take j ++ [L[j]]) (wr.drew.drew) v W') (hY (L.take j) L[j] (wr.drew.drew) (Vg.abides_drewN hJ hJj 2) (by simp; omega)) (fun e W' h => h.elim (fun h => ⟨true, h.1, .inl ⟨rfl, h.2⟩⟩) (fun h => ⟨false, h.1, .inr ⟨rfl, h.2⟩⟩))
      obtain ⟨fn, tmps, assign, body, hy, hR⟩ := hy0
      have hsn := Vg.take_snoc_int L j hjl
      rw [← hsn] at hR
      have H_d1 := Lib.hid d1; clear d1; have H_d2 := Lib.hid d2; clear d2; have H_d3 := Lib.hid d3; clear d3; have H_hix := Lib.hid hix; clear hix; have H_hsn := Lib.hid hsn; clear hsn
      generalize L[j] = x at c3 hy hR hixR
      have hmx : Try.prog.follows .mixedOrders = true := by kernel_rfl
      gi_wp2
      gi_region_with_o (first | (refine ⟨trivial, ?_⟩; gi_at_call 81; refine (callsIn_wide.2 (ring_place1 j (by exact H_d2.out) ⟨hm, hm2⟩ hf1 (by omega) (by omega))).mono ?_; rintro e w1 ⟨rfl, rfl⟩) | (refine hR.mono ?_; rintro e W3 ⟨v, rfl, hq⟩))
      all_goals
        rcases hq with ⟨rfl, hJ3, hk3⟩ | ⟨rfl, hJx3⟩
        · gi_wp2
          go_roundw
          case rel => exact ⟨j + 1, by omega, by go_num, hJ3, hkp.trans ⟨hk3.size, hk3.block⟩⟩
          case measure => simp [intOf]; omega
        · gi_wp2
          refine bodyPost_ret (results_none rfl _ _ _) rfl ?_
          exact ⟨⟨_, rfl⟩, .inr ⟨_, trivial, hJx3⟩⟩
    · have hje : j = L.length := by omega
      subst hje
      rw [List.take_length] at hJj
      clear d1 d2 d3
      gi_wp2
      go_end0
      exact ⟨⟨_, rfl⟩, .inl ⟨_, rfl, hJj⟩⟩
end Go.Proofs.Ytlgkcpgmnpoanaa
