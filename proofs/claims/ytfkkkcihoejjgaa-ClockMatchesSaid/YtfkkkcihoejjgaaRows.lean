/-
  No cell of these rows narrows 'for every input' (looked for: loops, veiled, ifaces, maps, wideKeys, modest, calm, conditions, laid).
  DERIVED. THE GIVEN ROWS OF THIS SEAT. 10 by the template 'for every input the law returns true; each argument reads behind the call as it read before'; 0 by the template 'total and deterministic' (their statements: YtfkkkcihoejjgaaTotals.lean).
  GIVEN WITH THE SEED: the statements are not yours to turn. If you find one false, say at which input.
  Laid BY PROGRAM, IN A SANDBOX (cutbox-rows.mjs): the forced cells as the released guide's own fill.sh prints them over the translation ea0a0c79bf7dd80e… (all of the seat's roots in one cut). By AI agents, Wed Nov 11 2026. No macro, syntax, notation, axiom, sorry.
-/
import Derived.Test.YtfkkkcihoejjgaaChecked
import GoSem.Claim
import GoSem.ClaimJoined
import GoSem.ClaimMapViews
import Derived.JoinedTies
import Derived.KernelRfl
namespace Go.Proofs.Ytfkkkcihoejjgaa
/- THE CELL 'sum', in the pinned program and in every row, IS THE sha256 OF THE DUMP (.gsa) THAT YtfkkkcihoejjgaaProg.lean LOADS. Nothing in Lean hashes anything: it is a label: what it is worth is what the hold of that sum in a sandbox is worth. -/
noncomputable def Try.pinned : Pinned := { name := "ytfkkkcihoejjgaa", sum := "ea0a0c79bf7dd80effd76df426f6ebcdab5ca3f6cc678be09cc3d6d8431ad5ea", checked := Try.checked }
namespace Rows
def none {H : Type} : Left H := { results := [], args := [] }

/-- 'vergetop.TopExact': WHATEVER THE INPUT: true; the input reads as it did. -/
def topExactSpec : ChangeSpec := { name := "topExact", fn := fun _ => fun
  | [d1, d2, d3] => { results := [.lit (.bool true)], args := [d1, d2, d3] }
  | _ => none }
def topExactRow : OpenClaim := { program := "ytfkkkcihoejjgaa", sum := "ea0a0c79bf7dd80effd76df426f6ebcdab5ca3f6cc678be09cc3d6d8431ad5ea", func := "verge/vergetop.TopExact", spec := "topExact", unfollowed := true, recurses := true, apart := false }
def TopExactSaid : Prop := topExactRow.holds Try.pinned (OpenSpec.ofChange topExactSpec)

/-- ITS FALSE NEIGHBOUR: 'it returns false'. Refute it at one input. -/
def topExactWrong : ChangeSpec := { name := "topExact", fn := fun _ => fun
  | [d1, d2, d3] => { results := [.lit (.bool false)], args := [d1, d2, d3] }
  | _ => none }
def TopExactWrongFalsely : Prop := topExactRow.holds Try.pinned (OpenSpec.ofChange topExactWrong)

/-- 'vergelaw03.ClockReads': WHATEVER THE INPUT: true; the input reads as it did. -/
def clockReadsSpec : ChangeSpec := { name := "clockReads", fn := fun _ => fun
  | [d1, d2, d3] => { results := [.lit (.bool true)], args := [d1, d2, d3] }
  | _ => none }
def clockReadsRow : OpenClaim := { program := "ytfkkkcihoejjgaa", sum := "ea0a0c79bf7dd80effd76df426f6ebcdab5ca3f6cc678be09cc3d6d8431ad5ea", func := "verge/vergelaw03.ClockReads", spec := "clockReads", unfollowed := true, recurses := true, apart := false }
def ClockReadsSaid : Prop := clockReadsRow.holds Try.pinned (OpenSpec.ofChange clockReadsSpec)

/-- ITS FALSE NEIGHBOUR: 'it returns false'. Refute it at one input. -/
def clockReadsWrong : ChangeSpec := { name := "clockReads", fn := fun _ => fun
  | [d1, d2, d3] => { results := [.lit (.bool false)], args := [d1, d2, d3] }
  | _ => none }
def ClockReadsWrongFalsely : Prop := clockReadsRow.holds Try.pinned (OpenSpec.ofChange clockReadsWrong)

/-- 'vergelaw03.ClockGoes': WHATEVER THE INPUT: true; the input reads as it did. -/
def clockGoesSpec : ChangeSpec := { name := "clockGoes", fn := fun _ => fun
  | [d1, d2, d3] => { results := [.lit (.bool true)], args := [d1, d2, d3] }
  | _ => none }
def clockGoesRow : OpenClaim := { program := "ytfkkkcihoejjgaa", sum := "ea0a0c79bf7dd80effd76df426f6ebcdab5ca3f6cc678be09cc3d6d8431ad5ea", func := "verge/vergelaw03.ClockGoes", spec := "clockGoes", unfollowed := true, recurses := true, apart := false }
def ClockGoesSaid : Prop := clockGoesRow.holds Try.pinned (OpenSpec.ofChange clockGoesSpec)

/-- ITS FALSE NEIGHBOUR: 'it returns false'. Refute it at one input. -/
def clockGoesWrong : ChangeSpec := { name := "clockGoes", fn := fun _ => fun
  | [d1, d2, d3] => { results := [.lit (.bool false)], args := [d1, d2, d3] }
  | _ => none }
def ClockGoesWrongFalsely : Prop := clockGoesRow.holds Try.pinned (OpenSpec.ofChange clockGoesWrong)

/-- 'vergelaw03.ClockTicks': WHATEVER THE INPUT: true; the input reads as it did. -/
def clockTicksSpec : ChangeSpec := { name := "clockTicks", fn := fun _ => fun
  | [d1, d2] => { results := [.lit (.bool true)], args := [d1, d2] }
  | _ => none }
def clockTicksRow : OpenClaim := { program := "ytfkkkcihoejjgaa", sum := "ea0a0c79bf7dd80effd76df426f6ebcdab5ca3f6cc678be09cc3d6d8431ad5ea", func := "verge/vergelaw03.ClockTicks", spec := "clockTicks", unfollowed := true, recurses := true, apart := false }
def ClockTicksSaid : Prop := clockTicksRow.holds Try.pinned (OpenSpec.ofChange clockTicksSpec)

/-- ITS FALSE NEIGHBOUR: 'it returns false'. Refute it at one input. -/
def clockTicksWrong : ChangeSpec := { name := "clockTicks", fn := fun _ => fun
  | [d1, d2] => { results := [.lit (.bool false)], args := [d1, d2] }
  | _ => none }
def ClockTicksWrongFalsely : Prop := clockTicksRow.holds Try.pinned (OpenSpec.ofChange clockTicksWrong)

/-- 'vergelaw04.ShotPlans': WHATEVER THE INPUT: true; the input reads as it did. -/
def shotPlansSpec : ChangeSpec := { name := "shotPlans", fn := fun _ => fun
  | [d1, d2, d3] => { results := [.lit (.bool true)], args := [d1, d2, d3] }
  | _ => none }
def shotPlansRow : OpenClaim := { program := "ytfkkkcihoejjgaa", sum := "ea0a0c79bf7dd80effd76df426f6ebcdab5ca3f6cc678be09cc3d6d8431ad5ea", func := "verge/vergelaw04.ShotPlans", spec := "shotPlans", apart := false }
def ShotPlansSaid : Prop := shotPlansRow.holds Try.pinned (OpenSpec.ofChange shotPlansSpec)

/-- ITS FALSE NEIGHBOUR: 'it returns false'. Refute it at one input. -/
def shotPlansWrong : ChangeSpec := { name := "shotPlans", fn := fun _ => fun
  | [d1, d2, d3] => { results := [.lit (.bool false)], args := [d1, d2, d3] }
  | _ => none }
def ShotPlansWrongFalsely : Prop := shotPlansRow.holds Try.pinned (OpenSpec.ofChange shotPlansWrong)

/-- 'vergelaw04.ShotArms': WHATEVER THE INPUT: true; the input reads as it did. -/
def shotArmsSpec : ChangeSpec := { name := "shotArms", fn := fun _ => fun
  | [d1, d2, d3] => { results := [.lit (.bool true)], args := [d1, d2, d3] }
  | _ => none }
def shotArmsRow : OpenClaim := { program := "ytfkkkcihoejjgaa", sum := "ea0a0c79bf7dd80effd76df426f6ebcdab5ca3f6cc678be09cc3d6d8431ad5ea", func := "verge/vergelaw04.ShotArms", spec := "shotArms", apart := false }
def ShotArmsSaid : Prop := shotArmsRow.holds Try.pinned (OpenSpec.ofChange shotArmsSpec)

/-- ITS FALSE NEIGHBOUR: 'it returns false'. Refute it at one input. -/
def shotArmsWrong : ChangeSpec := { name := "shotArms", fn := fun _ => fun
  | [d1, d2, d3] => { results := [.lit (.bool false)], args := [d1, d2, d3] }
  | _ => none }
def ShotArmsWrongFalsely : Prop := shotArmsRow.holds Try.pinned (OpenSpec.ofChange shotArmsWrong)

/-- 'vergelaw04.ShotWithin': WHATEVER THE INPUT: true; the input reads as it did. -/
def shotWithinSpec : ChangeSpec := { name := "shotWithin", fn := fun _ => fun
  | [d1, d2, d3] => { results := [.lit (.bool true)], args := [d1, d2, d3] }
  | _ => none }
def shotWithinRow : OpenClaim := { program := "ytfkkkcihoejjgaa", sum := "ea0a0c79bf7dd80effd76df426f6ebcdab5ca3f6cc678be09cc3d6d8431ad5ea", func := "verge/vergelaw04.ShotWithin", spec := "shotWithin", apart := false }
def ShotWithinSaid : Prop := shotWithinRow.holds Try.pinned (OpenSpec.ofChange shotWithinSpec)

/-- ITS FALSE NEIGHBOUR: 'it returns false'. Refute it at one input. -/
def shotWithinWrong : ChangeSpec := { name := "shotWithin", fn := fun _ => fun
  | [d1, d2, d3] => { results := [.lit (.bool false)], args := [d1, d2, d3] }
  | _ => none }
def ShotWithinWrongFalsely : Prop := shotWithinRow.holds Try.pinned (OpenSpec.ofChange shotWithinWrong)

/-- 'vergelaw04.ShotChain': WHATEVER THE INPUT: true; the input reads as it did. -/
def shotChainSpec : ChangeSpec := { name := "shotChain", fn := fun _ => fun
  | [d1, d2, d3] => { results := [.lit (.bool true)], args := [d1, d2, d3] }
  | _ => none }
def shotChainRow : OpenClaim := { program := "ytfkkkcihoejjgaa", sum := "ea0a0c79bf7dd80effd76df426f6ebcdab5ca3f6cc678be09cc3d6d8431ad5ea", func := "verge/vergelaw04.ShotChain", spec := "shotChain", apart := false }
def ShotChainSaid : Prop := shotChainRow.holds Try.pinned (OpenSpec.ofChange shotChainSpec)

/-- ITS FALSE NEIGHBOUR: 'it returns false'. Refute it at one input. -/
def shotChainWrong : ChangeSpec := { name := "shotChain", fn := fun _ => fun
  | [d1, d2, d3] => { results := [.lit (.bool false)], args := [d1, d2, d3] }
  | _ => none }
def ShotChainWrongFalsely : Prop := shotChainRow.holds Try.pinned (OpenSpec.ofChange shotChainWrong)

/-- 'vergelaw03.ClockMatches': WHATEVER THE INPUT: true; the input reads as it did. -/
def clockMatchesSpec : ChangeSpec := { name := "clockMatches", fn := fun _ => fun
  | [d1, d2, d3] => { results := [.lit (.bool true)], args := [d1, d2, d3] }
  | _ => none }
def clockMatchesRow : OpenClaim := { program := "ytfkkkcihoejjgaa", sum := "ea0a0c79bf7dd80effd76df426f6ebcdab5ca3f6cc678be09cc3d6d8431ad5ea", func := "verge/vergelaw03.ClockMatches", spec := "clockMatches", unfollowed := true, recurses := true, apart := false }
def ClockMatchesSaid : Prop := clockMatchesRow.holds Try.pinned (OpenSpec.ofChange clockMatchesSpec)

/-- ITS FALSE NEIGHBOUR: 'it returns false'. Refute it at one input. -/
def clockMatchesWrong : ChangeSpec := { name := "clockMatches", fn := fun _ => fun
  | [d1, d2, d3] => { results := [.lit (.bool false)], args := [d1, d2, d3] }
  | _ => none }
def ClockMatchesWrongFalsely : Prop := clockMatchesRow.holds Try.pinned (OpenSpec.ofChange clockMatchesWrong)

/-- 'vergelaw04.ShotRings': WHATEVER THE INPUT: true; the input reads as it did. -/
def shotRingsSpec : ChangeSpec := { name := "shotRings", fn := fun _ => fun
  | [d1, d2, d3] => { results := [.lit (.bool true)], args := [d1, d2, d3] }
  | _ => none }
def shotRingsRow : OpenClaim := { program := "ytfkkkcihoejjgaa", sum := "ea0a0c79bf7dd80effd76df426f6ebcdab5ca3f6cc678be09cc3d6d8431ad5ea", func := "verge/vergelaw04.ShotRings", spec := "shotRings", unfollowed := true, recurses := true, apart := false }
def ShotRingsSaid : Prop := shotRingsRow.holds Try.pinned (OpenSpec.ofChange shotRingsSpec)

/-- ITS FALSE NEIGHBOUR: 'it returns false'. Refute it at one input. -/
def shotRingsWrong : ChangeSpec := { name := "shotRings", fn := fun _ => fun
  | [d1, d2, d3] => { results := [.lit (.bool false)], args := [d1, d2, d3] }
  | _ => none }
def ShotRingsWrongFalsely : Prop := shotRingsRow.holds Try.pinned (OpenSpec.ofChange shotRingsWrong)

/- THE SECOND FORM. 'bulk': how many values and letters a reading holds, each counted each time it is reached (what is shared counts as often as it is met; a slice's spare places count too). A statement '..UptoSaid' is the law's where the arguments, and the package variables that the reading takes, are together of bulk at most 1048576: NARROWER than '..Said'. Prove '..Said' where nothing that the law and all that it calls make is longer than what came in: it says more and counts as full. Else prove '..UptoSaid'. A law counts once. -/
mutual
def uptoBulk {H : Type} : DataW H → Nat
  | .lit (.string bytes) => bytes.length + 1
  | .lit _ => 1
  | .nil => 1
  | .ptr d => uptoBulk d + 1
  | .slice elems spare => uptoBulkAll elems + uptoBulkAll spare + 1
  | .agg parts => uptoBulkAll parts + 1
  | .iface _ d => uptoBulk d + 1
  | .map entries => uptoBulkEntries entries + 1
  | .held _ => 1
def uptoBulkAll {H : Type} : List (DataW H) → Nat
  | [] => 0
  | d :: r => uptoBulk d + uptoBulkAll r
def uptoBulkEntries {H : Type} : List (Lit × DataW H) → Nat
  | [] => 0
  | x :: r => uptoBulkEntry x + uptoBulkEntries r
def uptoBulkEntry {H : Type} : Lit × DataW H → Nat
  | (.string bytes, d) => bytes.length + uptoBulk d + 1
  | (_, d) => uptoBulk d + 1
 end
def uptoSmall : (H : Type) → List (DataW H) → Bool := fun _ ds => decide (uptoBulkAll ds ≤ 1048576)
def OpenSpec.upto (s : _root_.Go.ChangeSpec) : _root_.Go.OpenSpec := { _root_.Go.OpenSpec.ofChange s with cond := some uptoSmall }

/-- 'vergetop.TopExact', WHERE WHAT IT READS IS OF BULK AT MOST 1048576: true; the input reads as it did. -/
def topExactUptoRow : OpenClaim := { program := "ytfkkkcihoejjgaa", sum := "ea0a0c79bf7dd80effd76df426f6ebcdab5ca3f6cc678be09cc3d6d8431ad5ea", func := "verge/vergetop.TopExact", spec := "topExact", unfollowed := true, recurses := true, apart := false, narrowed := true }
def TopExactUptoSaid : Prop := topExactUptoRow.holds Try.pinned (OpenSpec.upto topExactSpec)

/-- 'vergelaw03.ClockReads', WHERE WHAT IT READS IS OF BULK AT MOST 1048576: true; the input reads as it did. -/
def clockReadsUptoRow : OpenClaim := { program := "ytfkkkcihoejjgaa", sum := "ea0a0c79bf7dd80effd76df426f6ebcdab5ca3f6cc678be09cc3d6d8431ad5ea", func := "verge/vergelaw03.ClockReads", spec := "clockReads", unfollowed := true, recurses := true, apart := false, narrowed := true }
def ClockReadsUptoSaid : Prop := clockReadsUptoRow.holds Try.pinned (OpenSpec.upto clockReadsSpec)

/-- 'vergelaw03.ClockGoes', WHERE WHAT IT READS IS OF BULK AT MOST 1048576: true; the input reads as it did. -/
def clockGoesUptoRow : OpenClaim := { program := "ytfkkkcihoejjgaa", sum := "ea0a0c79bf7dd80effd76df426f6ebcdab5ca3f6cc678be09cc3d6d8431ad5ea", func := "verge/vergelaw03.ClockGoes", spec := "clockGoes", unfollowed := true, recurses := true, apart := false, narrowed := true }
def ClockGoesUptoSaid : Prop := clockGoesUptoRow.holds Try.pinned (OpenSpec.upto clockGoesSpec)

/-- 'vergelaw03.ClockTicks', WHERE WHAT IT READS IS OF BULK AT MOST 1048576: true; the input reads as it did. -/
def clockTicksUptoRow : OpenClaim := { program := "ytfkkkcihoejjgaa", sum := "ea0a0c79bf7dd80effd76df426f6ebcdab5ca3f6cc678be09cc3d6d8431ad5ea", func := "verge/vergelaw03.ClockTicks", spec := "clockTicks", unfollowed := true, recurses := true, apart := false, narrowed := true }
def ClockTicksUptoSaid : Prop := clockTicksUptoRow.holds Try.pinned (OpenSpec.upto clockTicksSpec)

/-- 'vergelaw04.ShotPlans', WHERE WHAT IT READS IS OF BULK AT MOST 1048576: true; the input reads as it did. -/
def shotPlansUptoRow : OpenClaim := { program := "ytfkkkcihoejjgaa", sum := "ea0a0c79bf7dd80effd76df426f6ebcdab5ca3f6cc678be09cc3d6d8431ad5ea", func := "verge/vergelaw04.ShotPlans", spec := "shotPlans", apart := false, narrowed := true }
def ShotPlansUptoSaid : Prop := shotPlansUptoRow.holds Try.pinned (OpenSpec.upto shotPlansSpec)

/-- 'vergelaw04.ShotArms', WHERE WHAT IT READS IS OF BULK AT MOST 1048576: true; the input reads as it did. -/
def shotArmsUptoRow : OpenClaim := { program := "ytfkkkcihoejjgaa", sum := "ea0a0c79bf7dd80effd76df426f6ebcdab5ca3f6cc678be09cc3d6d8431ad5ea", func := "verge/vergelaw04.ShotArms", spec := "shotArms", apart := false, narrowed := true }
def ShotArmsUptoSaid : Prop := shotArmsUptoRow.holds Try.pinned (OpenSpec.upto shotArmsSpec)

/-- 'vergelaw04.ShotWithin', WHERE WHAT IT READS IS OF BULK AT MOST 1048576: true; the input reads as it did. -/
def shotWithinUptoRow : OpenClaim := { program := "ytfkkkcihoejjgaa", sum := "ea0a0c79bf7dd80effd76df426f6ebcdab5ca3f6cc678be09cc3d6d8431ad5ea", func := "verge/vergelaw04.ShotWithin", spec := "shotWithin", apart := false, narrowed := true }
def ShotWithinUptoSaid : Prop := shotWithinUptoRow.holds Try.pinned (OpenSpec.upto shotWithinSpec)

/-- 'vergelaw04.ShotChain', WHERE WHAT IT READS IS OF BULK AT MOST 1048576: true; the input reads as it did. -/
def shotChainUptoRow : OpenClaim := { program := "ytfkkkcihoejjgaa", sum := "ea0a0c79bf7dd80effd76df426f6ebcdab5ca3f6cc678be09cc3d6d8431ad5ea", func := "verge/vergelaw04.ShotChain", spec := "shotChain", apart := false, narrowed := true }
def ShotChainUptoSaid : Prop := shotChainUptoRow.holds Try.pinned (OpenSpec.upto shotChainSpec)

/-- 'vergelaw03.ClockMatches', WHERE WHAT IT READS IS OF BULK AT MOST 1048576: true; the input reads as it did. -/
def clockMatchesUptoRow : OpenClaim := { program := "ytfkkkcihoejjgaa", sum := "ea0a0c79bf7dd80effd76df426f6ebcdab5ca3f6cc678be09cc3d6d8431ad5ea", func := "verge/vergelaw03.ClockMatches", spec := "clockMatches", unfollowed := true, recurses := true, apart := false, narrowed := true }
def ClockMatchesUptoSaid : Prop := clockMatchesUptoRow.holds Try.pinned (OpenSpec.upto clockMatchesSpec)

/-- 'vergelaw04.ShotRings', WHERE WHAT IT READS IS OF BULK AT MOST 1048576: true; the input reads as it did. -/
def shotRingsUptoRow : OpenClaim := { program := "ytfkkkcihoejjgaa", sum := "ea0a0c79bf7dd80effd76df426f6ebcdab5ca3f6cc678be09cc3d6d8431ad5ea", func := "verge/vergelaw04.ShotRings", spec := "shotRings", unfollowed := true, recurses := true, apart := false, narrowed := true }
def ShotRingsUptoSaid : Prop := shotRingsUptoRow.holds Try.pinned (OpenSpec.upto shotRingsSpec)

end Rows
end Go.Proofs.Ytfkkkcihoejjgaa
