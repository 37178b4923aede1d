/- clock.parts: the iterator's contract (a range over a function). -/
import Derived.RangeFuncNested
import Derived.RangeFuncBound
import Derived.RangeFuncCalls
import Derived.RangeFuncLeaves
import Derived.RangeFuncFrom
import Derived.Shelf.Abstract
import Derived.Shelf.RegionOpen
import Derived.OwnWalkIn
import Derived.TacticsInMore
import Derived.LoopNIn
import Derived.LoopIn
import Derived.Test.YtfkkkcihoejjgaaClock
set_option linter.unusedSimpArgs false
set_option linter.unusedVariables false
set_option maxHeartbeats 1000000
set_option maxRecDepth 20000
namespace Vg
/-- How far a clock goes at most at once. -/
abbrev Part := { x : Int // 0 < x ∧ x ≤ 1073741824 }
def psum : List Part → Int
  | [] => 0
  | x :: l => x.1 + psum l
theorem psum_append : ∀ l m : List Part, psum (l ++ m) = psum l + psum m
  | [], m => by simp [psum]
  | x :: l, m => by simp only [List.cons_append, psum, psum_append l m]; omega
theorem psum_len : ∀ l : List Part, (l.length : Int) ≤ psum l
  | [] => by simp [psum]
  | x :: l => by have := psum_len l; have := x.2.1; simp only [psum, List.length_cons, Int.natCast_add]; omega
end Vg
namespace Go.Proofs.Ytfkkkcihoejjgaa
open Go.ChangeShapes Go.WideShapes Go.ChangeAt Go.RowKit Go.Shelf
attribute [local go_sem] Oper.semAt_some
theorem clock_parts (n : Int) (w : World) :
    Calls Try.prog 41 #[.int .i64 n] w fun e w' => e = .returned (.func (.func 51) #[] #[.pointer (some ⟨w.heap.size, 0, none⟩)]) ∧ w' = w.alloc (.cells #[.int .i64 n] 2) := by
  go_enter Try.func41, Try.ntmps41
  go_wp2
  go_ret
  exact ⟨rfl, rfl⟩
theorem parts_stops (n₀ k : Nat) (hk : 1 ≤ k) (Bn : Nat) (nn : Int) (h0 : 0 ≤ nn) (h1 : nn ≤ 4503599627370496) (w : World) (hlt : Bn < w.heap.size) (hc : w.cell? ⟨Bn, 0, none⟩ = some (.int .i64 nn)) :
    SeqStopsK Fence.wide k Try.prog 51 #[.pointer (some ⟨Bn, 0, none⟩)] (fun x : Vg.Part => #[.int .u32 x.1]) (Below n₀) (fun xs => Vg.psum xs = nn) (fun _ => True) (nn.toNat + 1) w := fun l J Jx W hW hJ hJx hY hJ0 => by
  refine callsIn_of_wp Try.func51 rfl trivial ?_ rfl
  simp only [Try.ntmps51, List.size_toArray, List.length_cons, List.length_nil, Nat.reduceAdd, Nat.reduceSub, Array.replicate_succ, Array.replicate_zero, List.push_toArray, List.append_toArray, List.nil_append, List.cons_append]
  have hcW : W.cell? ⟨Bn, 0, none⟩ = some (.int .i64 nn) := (hW.cell (p := ⟨Bn, 0, none⟩) hlt).trans hc
  gi_wp2
  gi_loopw [3] (fun v wr => ∃ (pre : List Vg.Part) (rem : Int), v = .int .i64 rem ∧ 0 ≤ rem ∧ Vg.psum pre + rem = nn ∧ J pre wr) (fun v _ => (intOf v).toNat)
  case atStart => exact ⟨[], nn, rfl, h0, by simp [Vg.psum], hJ0⟩
  case round =>
    obtain ⟨pre, rem, rfl, g0, hs, hJp⟩ := hrel
    have hpl := Vg.psum_len pre
    by_cases hz : 0 < rem
    · by_cases hbig : 1073741824 < rem
      · obtain ⟨fn, tmps, assign, body, hy, hR⟩ := hY pre ⟨1073741824, by omega, by omega⟩ wr hJp (by omega)
        dsimp only at hy
        gi_wp2
        refine hR.mono ?_
        rintro e W3 (⟨rfl, hJ3, hk3⟩ | ⟨rfl, hJx3⟩)
        · gi_wp2
          go_roundw
          case rel => exact ⟨_, rem - 1073741824, rfl, by omega, by rw [Vg.psum_append]; simp [Vg.psum]; omega, hJ3⟩
          case measure => simp [intOf]; omega
        · gi_wp2
          refine bodyPost_ret (results_none rfl _ _ _) rfl ?_
          exact ⟨⟨_, rfl⟩, .inr ⟨_, trivial, hJx3⟩⟩
      · obtain ⟨fn, tmps, assign, body, hy, hR⟩ := hY pre ⟨rem, by omega, by omega⟩ wr hJp (by omega)
        dsimp only at hy
        gi_wp2
        refine hR.mono ?_
        rintro e W3 (⟨rfl, hJ3, hk3⟩ | ⟨rfl, hJx3⟩)
        · gi_wp2
          go_roundw
          case rel => exact ⟨_, 0, rfl, by omega, by rw [Vg.psum_append]; simp [Vg.psum]; omega, hJ3⟩
          case measure => simp [intOf]; omega
        · gi_wp2
          refine bodyPost_ret (results_none rfl _ _ _) rfl ?_
          exact ⟨⟨_, rfl⟩, .inr ⟨_, trivial, hJx3⟩⟩
    · gi_wp2
      go_end0
      exact ⟨⟨_, rfl⟩, .inl ⟨pre, by omega, hJp⟩⟩
end Go.Proofs.Ytfkkkcihoejjgaa
