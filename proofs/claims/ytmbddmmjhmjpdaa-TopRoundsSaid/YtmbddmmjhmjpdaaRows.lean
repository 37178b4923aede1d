/-
  No cell of these rows narrows 'for every input' (looked for: loops, veiled, ifaces, maps, wideKeys, modest, calm, conditions, laid).
  DERIVED. THE GIVEN ROWS OF THIS SEAT. 11 by the template 'for every input the law returns true; each argument reads behind the call as it read before'; 0 by the template 'total and deterministic' (their statements: YtmbddmmjhmjpdaaTotals.lean).
  GIVEN WITH THE SEED: the statements are not yours to turn. If you find one false, say at which input.
  Laid BY PROGRAM, IN A SANDBOX (cutbox-rows.mjs): the forced cells as the released guide's own fill.sh prints them over the translation fcd06d22ded88cf2… (all of the seat's roots in one cut). By AI agents, Wed Nov 11 2026. No macro, syntax, notation, axiom, sorry.
-/
import Derived.Test.YtmbddmmjhmjpdaaChecked
import GoSem.Claim
import GoSem.ClaimJoined
import GoSem.ClaimMapViews
import Derived.JoinedTies
import Derived.KernelRfl
namespace Go.Proofs.Ytmbddmmjhmjpdaa
/- THE CELL 'sum', in the pinned program and in every row, IS THE sha256 OF THE DUMP (.gsa) THAT YtmbddmmjhmjpdaaProg.lean LOADS. Nothing in Lean hashes anything: it is a label: what it is worth is what the hold of that sum in a sandbox is worth. -/
noncomputable def Try.pinned : Pinned := { name := "ytmbddmmjhmjpdaa", sum := "fcd06d22ded88cf289d24dddb5c94a0d0f73ce3e463bc8b188522ad6727da907", checked := Try.checked }
namespace Rows
def none {H : Type} : Left H := { results := [], args := [] }

/-- 'vergelaw01.WrapCounts': WHATEVER THE INPUT: true; the input reads as it did. -/
def wrapCountsSpec : ChangeSpec := { name := "wrapCounts", fn := fun _ => fun
  | [d1, d2, d3] => { results := [.lit (.bool true)], args := [d1, d2, d3] }
  | _ => none }
def wrapCountsRow : OpenClaim := { program := "ytmbddmmjhmjpdaa", sum := "fcd06d22ded88cf289d24dddb5c94a0d0f73ce3e463bc8b188522ad6727da907", func := "verge/vergelaw01.WrapCounts", spec := "wrapCounts", apart := false }
def WrapCountsSaid : Prop := wrapCountsRow.holds Try.pinned (OpenSpec.ofChange wrapCountsSpec)

/-- ITS FALSE NEIGHBOUR: 'it returns false'. Refute it at one input. -/
def wrapCountsWrong : ChangeSpec := { name := "wrapCounts", fn := fun _ => fun
  | [d1, d2, d3] => { results := [.lit (.bool false)], args := [d1, d2, d3] }
  | _ => none }
def WrapCountsWrongFalsely : Prop := wrapCountsRow.holds Try.pinned (OpenSpec.ofChange wrapCountsWrong)

/-- 'vergelaw01.WrapTimes': WHATEVER THE INPUT: true; the input reads as it did. -/
def wrapTimesSpec : ChangeSpec := { name := "wrapTimes", fn := fun _ => fun
  | [d1, d2] => { results := [.lit (.bool true)], args := [d1, d2] }
  | _ => none }
def wrapTimesRow : OpenClaim := { program := "ytmbddmmjhmjpdaa", sum := "fcd06d22ded88cf289d24dddb5c94a0d0f73ce3e463bc8b188522ad6727da907", func := "verge/vergelaw01.WrapTimes", spec := "wrapTimes", apart := false }
def WrapTimesSaid : Prop := wrapTimesRow.holds Try.pinned (OpenSpec.ofChange wrapTimesSpec)

/-- ITS FALSE NEIGHBOUR: 'it returns false'. Refute it at one input. -/
def wrapTimesWrong : ChangeSpec := { name := "wrapTimes", fn := fun _ => fun
  | [d1, d2] => { results := [.lit (.bool false)], args := [d1, d2] }
  | _ => none }
def WrapTimesWrongFalsely : Prop := wrapTimesRow.holds Try.pinned (OpenSpec.ofChange wrapTimesWrong)

/-- 'vergelaw01.WrapBack': WHATEVER THE INPUT: true; the input reads as it did. -/
def wrapBackSpec : ChangeSpec := { name := "wrapBack", fn := fun _ => fun
  | [d1, d2] => { results := [.lit (.bool true)], args := [d1, d2] }
  | _ => none }
def wrapBackRow : OpenClaim := { program := "ytmbddmmjhmjpdaa", sum := "fcd06d22ded88cf289d24dddb5c94a0d0f73ce3e463bc8b188522ad6727da907", func := "verge/vergelaw01.WrapBack", spec := "wrapBack", apart := false }
def WrapBackSaid : Prop := wrapBackRow.holds Try.pinned (OpenSpec.ofChange wrapBackSpec)

/-- ITS FALSE NEIGHBOUR: 'it returns false'. Refute it at one input. -/
def wrapBackWrong : ChangeSpec := { name := "wrapBack", fn := fun _ => fun
  | [d1, d2] => { results := [.lit (.bool false)], args := [d1, d2] }
  | _ => none }
def WrapBackWrongFalsely : Prop := wrapBackRow.holds Try.pinned (OpenSpec.ofChange wrapBackWrong)

/-- 'vergelaw01.WrapTurns': WHATEVER THE INPUT: true; the input reads as it did. -/
def wrapTurnsSpec : ChangeSpec := { name := "wrapTurns", fn := fun _ => fun
  | [d1, d2] => { results := [.lit (.bool true)], args := [d1, d2] }
  | _ => none }
def wrapTurnsRow : OpenClaim := { program := "ytmbddmmjhmjpdaa", sum := "fcd06d22ded88cf289d24dddb5c94a0d0f73ce3e463bc8b188522ad6727da907", func := "verge/vergelaw01.WrapTurns", spec := "wrapTurns", apart := false }
def WrapTurnsSaid : Prop := wrapTurnsRow.holds Try.pinned (OpenSpec.ofChange wrapTurnsSpec)

/-- ITS FALSE NEIGHBOUR: 'it returns false'. Refute it at one input. -/
def wrapTurnsWrong : ChangeSpec := { name := "wrapTurns", fn := fun _ => fun
  | [d1, d2] => { results := [.lit (.bool false)], args := [d1, d2] }
  | _ => none }
def WrapTurnsWrongFalsely : Prop := wrapTurnsRow.holds Try.pinned (OpenSpec.ofChange wrapTurnsWrong)

/-- 'vergelaw01.WrapLeast': WHATEVER THE INPUT: true; the input reads as it did. -/
def wrapLeastSpec : ChangeSpec := { name := "wrapLeast", fn := fun _ => fun
  | [d1, d2] => { results := [.lit (.bool true)], args := [d1, d2] }
  | _ => none }
def wrapLeastRow : OpenClaim := { program := "ytmbddmmjhmjpdaa", sum := "fcd06d22ded88cf289d24dddb5c94a0d0f73ce3e463bc8b188522ad6727da907", func := "verge/vergelaw01.WrapLeast", spec := "wrapLeast", apart := false }
def WrapLeastSaid : Prop := wrapLeastRow.holds Try.pinned (OpenSpec.ofChange wrapLeastSpec)

/-- ITS FALSE NEIGHBOUR: 'it returns false'. Refute it at one input. -/
def wrapLeastWrong : ChangeSpec := { name := "wrapLeast", fn := fun _ => fun
  | [d1, d2] => { results := [.lit (.bool false)], args := [d1, d2] }
  | _ => none }
def WrapLeastWrongFalsely : Prop := wrapLeastRow.holds Try.pinned (OpenSpec.ofChange wrapLeastWrong)

/-- 'vergelaw02.HwtimerAdvances': WHATEVER THE INPUT: true; the input reads as it did. -/
def hwtimerAdvancesSpec : ChangeSpec := { name := "hwtimerAdvances", fn := fun _ => fun
  | [d1, d2] => { results := [.lit (.bool true)], args := [d1, d2] }
  | _ => none }
def hwtimerAdvancesRow : OpenClaim := { program := "ytmbddmmjhmjpdaa", sum := "fcd06d22ded88cf289d24dddb5c94a0d0f73ce3e463bc8b188522ad6727da907", func := "verge/vergelaw02.HwtimerAdvances", spec := "hwtimerAdvances", apart := false }
def HwtimerAdvancesSaid : Prop := hwtimerAdvancesRow.holds Try.pinned (OpenSpec.ofChange hwtimerAdvancesSpec)

/-- ITS FALSE NEIGHBOUR: 'it returns false'. Refute it at one input. -/
def hwtimerAdvancesWrong : ChangeSpec := { name := "hwtimerAdvances", fn := fun _ => fun
  | [d1, d2] => { results := [.lit (.bool false)], args := [d1, d2] }
  | _ => none }
def HwtimerAdvancesWrongFalsely : Prop := hwtimerAdvancesRow.holds Try.pinned (OpenSpec.ofChange hwtimerAdvancesWrong)

/-- 'vergelaw02.HwtimerSets': WHATEVER THE INPUT: true; the input reads as it did. -/
def hwtimerSetsSpec : ChangeSpec := { name := "hwtimerSets", fn := fun _ => fun
  | [d1, d2] => { results := [.lit (.bool true)], args := [d1, d2] }
  | _ => none }
def hwtimerSetsRow : OpenClaim := { program := "ytmbddmmjhmjpdaa", sum := "fcd06d22ded88cf289d24dddb5c94a0d0f73ce3e463bc8b188522ad6727da907", func := "verge/vergelaw02.HwtimerSets", spec := "hwtimerSets", apart := false }
def HwtimerSetsSaid : Prop := hwtimerSetsRow.holds Try.pinned (OpenSpec.ofChange hwtimerSetsSpec)

/-- ITS FALSE NEIGHBOUR: 'it returns false'. Refute it at one input. -/
def hwtimerSetsWrong : ChangeSpec := { name := "hwtimerSets", fn := fun _ => fun
  | [d1, d2] => { results := [.lit (.bool false)], args := [d1, d2] }
  | _ => none }
def HwtimerSetsWrongFalsely : Prop := hwtimerSetsRow.holds Try.pinned (OpenSpec.ofChange hwtimerSetsWrong)

/-- 'vergelaw02.HwtimerParts': WHATEVER THE INPUT: true; the input reads as it did. -/
def hwtimerPartsSpec : ChangeSpec := { name := "hwtimerParts", fn := fun _ => fun
  | [d1, d2, d3] => { results := [.lit (.bool true)], args := [d1, d2, d3] }
  | _ => none }
def hwtimerPartsRow : OpenClaim := { program := "ytmbddmmjhmjpdaa", sum := "fcd06d22ded88cf289d24dddb5c94a0d0f73ce3e463bc8b188522ad6727da907", func := "verge/vergelaw02.HwtimerParts", spec := "hwtimerParts", apart := false }
def HwtimerPartsSaid : Prop := hwtimerPartsRow.holds Try.pinned (OpenSpec.ofChange hwtimerPartsSpec)

/-- ITS FALSE NEIGHBOUR: 'it returns false'. Refute it at one input. -/
def hwtimerPartsWrong : ChangeSpec := { name := "hwtimerParts", fn := fun _ => fun
  | [d1, d2, d3] => { results := [.lit (.bool false)], args := [d1, d2, d3] }
  | _ => none }
def HwtimerPartsWrongFalsely : Prop := hwtimerPartsRow.holds Try.pinned (OpenSpec.ofChange hwtimerPartsWrong)

/-- 'vergelaw02.HwtimerOnce': WHATEVER THE INPUT: true; the input reads as it did. -/
def hwtimerOnceSpec : ChangeSpec := { name := "hwtimerOnce", fn := fun _ => fun
  | [d1, d2] => { results := [.lit (.bool true)], args := [d1, d2] }
  | _ => none }
def hwtimerOnceRow : OpenClaim := { program := "ytmbddmmjhmjpdaa", sum := "fcd06d22ded88cf289d24dddb5c94a0d0f73ce3e463bc8b188522ad6727da907", func := "verge/vergelaw02.HwtimerOnce", spec := "hwtimerOnce", apart := false }
def HwtimerOnceSaid : Prop := hwtimerOnceRow.holds Try.pinned (OpenSpec.ofChange hwtimerOnceSpec)

/-- ITS FALSE NEIGHBOUR: 'it returns false'. Refute it at one input. -/
def hwtimerOnceWrong : ChangeSpec := { name := "hwtimerOnce", fn := fun _ => fun
  | [d1, d2] => { results := [.lit (.bool false)], args := [d1, d2] }
  | _ => none }
def HwtimerOnceWrongFalsely : Prop := hwtimerOnceRow.holds Try.pinned (OpenSpec.ofChange hwtimerOnceWrong)

/-- 'vergelaw02.HwtimerRound': WHATEVER THE INPUT: true; the input reads as it did. -/
def hwtimerRoundSpec : ChangeSpec := { name := "hwtimerRound", fn := fun _ => fun
  | [d] => { results := [.lit (.bool true)], args := [d] }
  | _ => none }
def hwtimerRoundRow : OpenClaim := { program := "ytmbddmmjhmjpdaa", sum := "fcd06d22ded88cf289d24dddb5c94a0d0f73ce3e463bc8b188522ad6727da907", func := "verge/vergelaw02.HwtimerRound", spec := "hwtimerRound", apart := false }
def HwtimerRoundSaid : Prop := hwtimerRoundRow.holds Try.pinned (OpenSpec.ofChange hwtimerRoundSpec)

/-- ITS FALSE NEIGHBOUR: 'it returns false'. Refute it at one input. -/
def hwtimerRoundWrong : ChangeSpec := { name := "hwtimerRound", fn := fun _ => fun
  | [d] => { results := [.lit (.bool false)], args := [d] }
  | _ => none }
def HwtimerRoundWrongFalsely : Prop := hwtimerRoundRow.holds Try.pinned (OpenSpec.ofChange hwtimerRoundWrong)

/-- 'vergetop.TopRounds': WHATEVER THE INPUT: true; the input reads as it did. -/
def topRoundsSpec : ChangeSpec := { name := "topRounds", fn := fun _ => fun
  | [d1, d2, d3] => { results := [.lit (.bool true)], args := [d1, d2, d3] }
  | _ => none }
def topRoundsRow : OpenClaim := { program := "ytmbddmmjhmjpdaa", sum := "fcd06d22ded88cf289d24dddb5c94a0d0f73ce3e463bc8b188522ad6727da907", func := "verge/vergetop.TopRounds", spec := "topRounds", apart := false }
def TopRoundsSaid : Prop := topRoundsRow.holds Try.pinned (OpenSpec.ofChange topRoundsSpec)

/-- ITS FALSE NEIGHBOUR: 'it returns false'. Refute it at one input. -/
def topRoundsWrong : ChangeSpec := { name := "topRounds", fn := fun _ => fun
  | [d1, d2, d3] => { results := [.lit (.bool false)], args := [d1, d2, d3] }
  | _ => none }
def TopRoundsWrongFalsely : Prop := topRoundsRow.holds Try.pinned (OpenSpec.ofChange topRoundsWrong)

/- THE SECOND FORM. 'bulk': how many values and letters a reading holds, each counted each time it is reached (what is shared counts as often as it is met; a slice's spare places count too). A statement '..UptoSaid' is the law's where the arguments, and the package variables that the reading takes, are together of bulk at most 1048576: NARROWER than '..Said'. Prove '..Said' where nothing that the law and all that it calls make is longer than what came in: it says more and counts as full. Else prove '..UptoSaid'. A law counts once. -/
mutual
def uptoBulk {H : Type} : DataW H → Nat
  | .lit (.string bytes) => bytes.length + 1
  | .lit _ => 1
  | .nil => 1
  | .ptr d => uptoBulk d + 1
  | .slice elems spare => uptoBulkAll elems + uptoBulkAll spare + 1
  | .agg parts => uptoBulkAll parts + 1
  | .iface _ d => uptoBulk d + 1
  | .map entries => uptoBulkEntries entries + 1
  | .held _ => 1
def uptoBulkAll {H : Type} : List (DataW H) → Nat
  | [] => 0
  | d :: r => uptoBulk d + uptoBulkAll r
def uptoBulkEntries {H : Type} : List (Lit × DataW H) → Nat
  | [] => 0
  | x :: r => uptoBulkEntry x + uptoBulkEntries r
def uptoBulkEntry {H : Type} : Lit × DataW H → Nat
  | (.string bytes, d) => bytes.length + uptoBulk d + 1
  | (_, d) => uptoBulk d + 1
 end
def uptoSmall : (H : Type) → List (DataW H) → Bool := fun _ ds => decide (uptoBulkAll ds ≤ 1048576)
def OpenSpec.upto (s : _root_.Go.ChangeSpec) : _root_.Go.OpenSpec := { _root_.Go.OpenSpec.ofChange s with cond := some uptoSmall }

/-- 'vergelaw01.WrapCounts', WHERE WHAT IT READS IS OF BULK AT MOST 1048576: true; the input reads as it did. -/
def wrapCountsUptoRow : OpenClaim := { program := "ytmbddmmjhmjpdaa", sum := "fcd06d22ded88cf289d24dddb5c94a0d0f73ce3e463bc8b188522ad6727da907", func := "verge/vergelaw01.WrapCounts", spec := "wrapCounts", apart := false, narrowed := true }
def WrapCountsUptoSaid : Prop := wrapCountsUptoRow.holds Try.pinned (OpenSpec.upto wrapCountsSpec)

/-- 'vergelaw01.WrapTimes', WHERE WHAT IT READS IS OF BULK AT MOST 1048576: true; the input reads as it did. -/
def wrapTimesUptoRow : OpenClaim := { program := "ytmbddmmjhmjpdaa", sum := "fcd06d22ded88cf289d24dddb5c94a0d0f73ce3e463bc8b188522ad6727da907", func := "verge/vergelaw01.WrapTimes", spec := "wrapTimes", apart := false, narrowed := true }
def WrapTimesUptoSaid : Prop := wrapTimesUptoRow.holds Try.pinned (OpenSpec.upto wrapTimesSpec)

/-- 'vergelaw01.WrapBack', WHERE WHAT IT READS IS OF BULK AT MOST 1048576: true; the input reads as it did. -/
def wrapBackUptoRow : OpenClaim := { program := "ytmbddmmjhmjpdaa", sum := "fcd06d22ded88cf289d24dddb5c94a0d0f73ce3e463bc8b188522ad6727da907", func := "verge/vergelaw01.WrapBack", spec := "wrapBack", apart := false, narrowed := true }
def WrapBackUptoSaid : Prop := wrapBackUptoRow.holds Try.pinned (OpenSpec.upto wrapBackSpec)

/-- 'vergelaw01.WrapTurns', WHERE WHAT IT READS IS OF BULK AT MOST 1048576: true; the input reads as it did. -/
def wrapTurnsUptoRow : OpenClaim := { program := "ytmbddmmjhmjpdaa", sum := "fcd06d22ded88cf289d24dddb5c94a0d0f73ce3e463bc8b188522ad6727da907", func := "verge/vergelaw01.WrapTurns", spec := "wrapTurns", apart := false, narrowed := true }
def WrapTurnsUptoSaid : Prop := wrapTurnsUptoRow.holds Try.pinned (OpenSpec.upto wrapTurnsSpec)

/-- 'vergelaw01.WrapLeast', WHERE WHAT IT READS IS OF BULK AT MOST 1048576: true; the input reads as it did. -/
def wrapLeastUptoRow : OpenClaim := { program := "ytmbddmmjhmjpdaa", sum := "fcd06d22ded88cf289d24dddb5c94a0d0f73ce3e463bc8b188522ad6727da907", func := "verge/vergelaw01.WrapLeast", spec := "wrapLeast", apart := false, narrowed := true }
def WrapLeastUptoSaid : Prop := wrapLeastUptoRow.holds Try.pinned (OpenSpec.upto wrapLeastSpec)

/-- 'vergelaw02.HwtimerAdvances', WHERE WHAT IT READS IS OF BULK AT MOST 1048576: true; the input reads as it did. -/
def hwtimerAdvancesUptoRow : OpenClaim := { program := "ytmbddmmjhmjpdaa", sum := "fcd06d22ded88cf289d24dddb5c94a0d0f73ce3e463bc8b188522ad6727da907", func := "verge/vergelaw02.HwtimerAdvances", spec := "hwtimerAdvances", apart := false, narrowed := true }
def HwtimerAdvancesUptoSaid : Prop := hwtimerAdvancesUptoRow.holds Try.pinned (OpenSpec.upto hwtimerAdvancesSpec)

/-- 'vergelaw02.HwtimerSets', WHERE WHAT IT READS IS OF BULK AT MOST 1048576: true; the input reads as it did. -/
def hwtimerSetsUptoRow : OpenClaim := { program := "ytmbddmmjhmjpdaa", sum := "fcd06d22ded88cf289d24dddb5c94a0d0f73ce3e463bc8b188522ad6727da907", func := "verge/vergelaw02.HwtimerSets", spec := "hwtimerSets", apart := false, narrowed := true }
def HwtimerSetsUptoSaid : Prop := hwtimerSetsUptoRow.holds Try.pinned (OpenSpec.upto hwtimerSetsSpec)

/-- 'vergelaw02.HwtimerParts', WHERE WHAT IT READS IS OF BULK AT MOST 1048576: true; the input reads as it did. -/
def hwtimerPartsUptoRow : OpenClaim := { program := "ytmbddmmjhmjpdaa", sum := "fcd06d22ded88cf289d24dddb5c94a0d0f73ce3e463bc8b188522ad6727da907", func := "verge/vergelaw02.HwtimerParts", spec := "hwtimerParts", apart := false, narrowed := true }
def HwtimerPartsUptoSaid : Prop := hwtimerPartsUptoRow.holds Try.pinned (OpenSpec.upto hwtimerPartsSpec)

/-- 'vergelaw02.HwtimerOnce', WHERE WHAT IT READS IS OF BULK AT MOST 1048576: true; the input reads as it did. -/
def hwtimerOnceUptoRow : OpenClaim := { program := "ytmbddmmjhmjpdaa", sum := "fcd06d22ded88cf289d24dddb5c94a0d0f73ce3e463bc8b188522ad6727da907", func := "verge/vergelaw02.HwtimerOnce", spec := "hwtimerOnce", apart := false, narrowed := true }
def HwtimerOnceUptoSaid : Prop := hwtimerOnceUptoRow.holds Try.pinned (OpenSpec.upto hwtimerOnceSpec)

/-- 'vergelaw02.HwtimerRound', WHERE WHAT IT READS IS OF BULK AT MOST 1048576: true; the input reads as it did. -/
def hwtimerRoundUptoRow : OpenClaim := { program := "ytmbddmmjhmjpdaa", sum := "fcd06d22ded88cf289d24dddb5c94a0d0f73ce3e463bc8b188522ad6727da907", func := "verge/vergelaw02.HwtimerRound", spec := "hwtimerRound", apart := false, narrowed := true }
def HwtimerRoundUptoSaid : Prop := hwtimerRoundUptoRow.holds Try.pinned (OpenSpec.upto hwtimerRoundSpec)

/-- 'vergetop.TopRounds', WHERE WHAT IT READS IS OF BULK AT MOST 1048576: true; the input reads as it did. -/
def topRoundsUptoRow : OpenClaim := { program := "ytmbddmmjhmjpdaa", sum := "fcd06d22ded88cf289d24dddb5c94a0d0f73ce3e463bc8b188522ad6727da907", func := "verge/vergetop.TopRounds", spec := "topRounds", apart := false, narrowed := true }
def TopRoundsUptoSaid : Prop := topRoundsUptoRow.holds Try.pinned (OpenSpec.upto topRoundsSpec)

end Rows
end Go.Proofs.Ytmbddmmjhmjpdaa
