/- Law 12: lives; the plain laws of levels. -/
import Derived.Test.YtekjnagojphmkaaDoorCeilN
set_option linter.unusedSimpArgs false
set_option linter.unusedVariables false
set_option maxHeartbeats 2000000
set_option maxRecDepth 100000
namespace Vg
open Go
theorem Touch.gr {w0 w w' : World} {t : Nat → Prop} (h : Touch t w w') (hg : Grows w0 w) (ht : ∀ k, t k → w0.heap.size ≤ k) : Grows w0 w' :=
  Grows.of_below ⟨h.os.trans hg.below.os, h.tape.trans hg.below.tape, h.output.trans hg.below.output, Nat.le_trans hg.size h.size, fun k hk =>
    (h.block k (Nat.lt_of_lt_of_le hk hg.size) (fun hh => by have := ht k hh; omega)).trans (hg.below.block k hk)⟩
theorem Touch.bk {w w' : World} {t : Nat → Prop} {k : Nat} {o : Obj} (h : Touch t w w') (hb : Vg.blk w k = some o) (ht : ¬ t k) : Vg.blk w' k = some o :=
  (h.block k (lt_of hb) ht).trans hb
end Vg
