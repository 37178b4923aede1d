/-
  No cell of these rows narrows 'for every input' (looked for: loops, veiled, ifaces, maps, wideKeys, modest, calm, conditions, laid).
  DERIVED. THE GIVEN ROWS OF THIS SEAT. 12 by the template 'for every input the law returns true; each argument reads behind the call as it read before'; 0 by the template 'total and deterministic' (their statements: YtiinhofmhoplfaaTotals.lean).
  GIVEN WITH THE SEED: the statements are not yours to turn. If you find one false, say at which input.
  Laid BY PROGRAM, IN A SANDBOX (cutbox-rows.mjs): the forced cells as the released guide's own fill.sh prints them over the translation 983a51db5afa04fe… (all of the seat's roots in one cut). By AI agents, Wed Nov 11 2026. No macro, syntax, notation, axiom, sorry.
-/
import Derived.Test.YtiinhofmhoplfaaChecked
import GoSem.Claim
import GoSem.ClaimJoined
import GoSem.ClaimMapViews
import Derived.JoinedTies
import Derived.KernelRfl
namespace Go.Proofs.Ytiinhofmhoplfaa
/- THE CELL 'sum', in the pinned program and in every row, IS THE sha256 OF THE DUMP (.gsa) THAT YtiinhofmhoplfaaProg.lean LOADS. Nothing in Lean hashes anything: it is a label: what it is worth is what the hold of that sum in a sandbox is worth. -/
noncomputable def Try.pinned : Pinned := { name := "ytiinhofmhoplfaa", sum := "983a51db5afa04feb294d0b16457d6db29f6e48ddffd5217d93c2d7ca2d585ff", checked := Try.checked }
namespace Rows
def none {H : Type} : Left H := { results := [], args := [] }

/-- 'vergelaw17.WorkPlays': WHATEVER THE INPUT: true; the input reads as it did. -/
def workPlaysSpec : ChangeSpec := { name := "workPlays", fn := fun _ => fun
  | [d1, d2] => { results := [.lit (.bool true)], args := [d1, d2] }
  | _ => none }
def workPlaysRow : OpenClaim := { program := "ytiinhofmhoplfaa", sum := "983a51db5afa04feb294d0b16457d6db29f6e48ddffd5217d93c2d7ca2d585ff", func := "verge/vergelaw17.WorkPlays", spec := "workPlays", unfollowed := true, recurses := true, apart := false }
def WorkPlaysSaid : Prop := workPlaysRow.holds Try.pinned (OpenSpec.ofChange workPlaysSpec)

/-- ITS FALSE NEIGHBOUR: 'it returns false'. Refute it at one input. -/
def workPlaysWrong : ChangeSpec := { name := "workPlays", fn := fun _ => fun
  | [d1, d2] => { results := [.lit (.bool false)], args := [d1, d2] }
  | _ => none }
def WorkPlaysWrongFalsely : Prop := workPlaysRow.holds Try.pinned (OpenSpec.ofChange workPlaysWrong)

/-- 'vergelaw17.WorkOrder': WHATEVER THE INPUT: true; the input reads as it did. -/
def workOrderSpec : ChangeSpec := { name := "workOrder", fn := fun _ => fun
  | [d1, d2] => { results := [.lit (.bool true)], args := [d1, d2] }
  | _ => none }
def workOrderRow : OpenClaim := { program := "ytiinhofmhoplfaa", sum := "983a51db5afa04feb294d0b16457d6db29f6e48ddffd5217d93c2d7ca2d585ff", func := "verge/vergelaw17.WorkOrder", spec := "workOrder", unfollowed := true, recurses := true, apart := false }
def WorkOrderSaid : Prop := workOrderRow.holds Try.pinned (OpenSpec.ofChange workOrderSpec)

/-- ITS FALSE NEIGHBOUR: 'it returns false'. Refute it at one input. -/
def workOrderWrong : ChangeSpec := { name := "workOrder", fn := fun _ => fun
  | [d1, d2] => { results := [.lit (.bool false)], args := [d1, d2] }
  | _ => none }
def WorkOrderWrongFalsely : Prop := workOrderRow.holds Try.pinned (OpenSpec.ofChange workOrderWrong)

/-- 'vergelaw12.CeilingPlays': WHATEVER THE INPUT: true; the input reads as it did. -/
def ceilingPlaysSpec : ChangeSpec := { name := "ceilingPlays", fn := fun _ => fun
  | [d1, d2] => { results := [.lit (.bool true)], args := [d1, d2] }
  | _ => none }
def ceilingPlaysRow : OpenClaim := { program := "ytiinhofmhoplfaa", sum := "983a51db5afa04feb294d0b16457d6db29f6e48ddffd5217d93c2d7ca2d585ff", func := "verge/vergelaw12.CeilingPlays", spec := "ceilingPlays", unfollowed := true, recurses := true, apart := false }
def CeilingPlaysSaid : Prop := ceilingPlaysRow.holds Try.pinned (OpenSpec.ofChange ceilingPlaysSpec)

/-- ITS FALSE NEIGHBOUR: 'it returns false'. Refute it at one input. -/
def ceilingPlaysWrong : ChangeSpec := { name := "ceilingPlays", fn := fun _ => fun
  | [d1, d2] => { results := [.lit (.bool false)], args := [d1, d2] }
  | _ => none }
def CeilingPlaysWrongFalsely : Prop := ceilingPlaysRow.holds Try.pinned (OpenSpec.ofChange ceilingPlaysWrong)

/-- 'vergelaw12.CeilingOne': WHATEVER THE INPUT: true; the input reads as it did. -/
def ceilingOneSpec : ChangeSpec := { name := "ceilingOne", fn := fun _ => fun
  | [d1, d2, d3, d4, d5] => { results := [.lit (.bool true)], args := [d1, d2, d3, d4, d5] }
  | _ => none }
def ceilingOneRow : OpenClaim := { program := "ytiinhofmhoplfaa", sum := "983a51db5afa04feb294d0b16457d6db29f6e48ddffd5217d93c2d7ca2d585ff", func := "verge/vergelaw12.CeilingOne", spec := "ceilingOne", unfollowed := true, recurses := true, apart := false }
def CeilingOneSaid : Prop := ceilingOneRow.holds Try.pinned (OpenSpec.ofChange ceilingOneSpec)

/-- ITS FALSE NEIGHBOUR: 'it returns false'. Refute it at one input. -/
def ceilingOneWrong : ChangeSpec := { name := "ceilingOne", fn := fun _ => fun
  | [d1, d2, d3, d4, d5] => { results := [.lit (.bool false)], args := [d1, d2, d3, d4, d5] }
  | _ => none }
def CeilingOneWrongFalsely : Prop := ceilingOneRow.holds Try.pinned (OpenSpec.ofChange ceilingOneWrong)

/-- 'vergelaw12.CeilingFree': WHATEVER THE INPUT: true; the input reads as it did. -/
def ceilingFreeSpec : ChangeSpec := { name := "ceilingFree", fn := fun _ => fun
  | [d1, d2] => { results := [.lit (.bool true)], args := [d1, d2] }
  | _ => none }
def ceilingFreeRow : OpenClaim := { program := "ytiinhofmhoplfaa", sum := "983a51db5afa04feb294d0b16457d6db29f6e48ddffd5217d93c2d7ca2d585ff", func := "verge/vergelaw12.CeilingFree", spec := "ceilingFree", unfollowed := true, recurses := true, apart := false }
def CeilingFreeSaid : Prop := ceilingFreeRow.holds Try.pinned (OpenSpec.ofChange ceilingFreeSpec)

/-- ITS FALSE NEIGHBOUR: 'it returns false'. Refute it at one input. -/
def ceilingFreeWrong : ChangeSpec := { name := "ceilingFree", fn := fun _ => fun
  | [d1, d2] => { results := [.lit (.bool false)], args := [d1, d2] }
  | _ => none }
def CeilingFreeWrongFalsely : Prop := ceilingFreeRow.holds Try.pinned (OpenSpec.ofChange ceilingFreeWrong)

/-- 'vergelaw18.BottomPlays': WHATEVER THE INPUT: true; the input reads as it did. -/
def bottomPlaysSpec : ChangeSpec := { name := "bottomPlays", fn := fun _ => fun
  | [d1, d2] => { results := [.lit (.bool true)], args := [d1, d2] }
  | _ => none }
def bottomPlaysRow : OpenClaim := { program := "ytiinhofmhoplfaa", sum := "983a51db5afa04feb294d0b16457d6db29f6e48ddffd5217d93c2d7ca2d585ff", func := "verge/vergelaw18.BottomPlays", spec := "bottomPlays", unfollowed := true, recurses := true, apart := false }
def BottomPlaysSaid : Prop := bottomPlaysRow.holds Try.pinned (OpenSpec.ofChange bottomPlaysSpec)

/-- ITS FALSE NEIGHBOUR: 'it returns false'. Refute it at one input. -/
def bottomPlaysWrong : ChangeSpec := { name := "bottomPlays", fn := fun _ => fun
  | [d1, d2] => { results := [.lit (.bool false)], args := [d1, d2] }
  | _ => none }
def BottomPlaysWrongFalsely : Prop := bottomPlaysRow.holds Try.pinned (OpenSpec.ofChange bottomPlaysWrong)

/-- 'vergelaw18.BottomSupply': WHATEVER THE INPUT: true; the input reads as it did. -/
def bottomSupplySpec : ChangeSpec := { name := "bottomSupply", fn := fun _ => fun
  | [d1, d2] => { results := [.lit (.bool true)], args := [d1, d2] }
  | _ => none }
def bottomSupplyRow : OpenClaim := { program := "ytiinhofmhoplfaa", sum := "983a51db5afa04feb294d0b16457d6db29f6e48ddffd5217d93c2d7ca2d585ff", func := "verge/vergelaw18.BottomSupply", spec := "bottomSupply", unfollowed := true, recurses := true, apart := false }
def BottomSupplySaid : Prop := bottomSupplyRow.holds Try.pinned (OpenSpec.ofChange bottomSupplySpec)

/-- ITS FALSE NEIGHBOUR: 'it returns false'. Refute it at one input. -/
def bottomSupplyWrong : ChangeSpec := { name := "bottomSupply", fn := fun _ => fun
  | [d1, d2] => { results := [.lit (.bool false)], args := [d1, d2] }
  | _ => none }
def BottomSupplyWrongFalsely : Prop := bottomSupplyRow.holds Try.pinned (OpenSpec.ofChange bottomSupplyWrong)

/-- 'vergelaw14.KernPlays': WHATEVER THE INPUT: true; the input reads as it did. -/
def kernPlaysSpec : ChangeSpec := { name := "kernPlays", fn := fun _ => fun
  | [d1, d2] => { results := [.lit (.bool true)], args := [d1, d2] }
  | _ => none }
def kernPlaysRow : OpenClaim := { program := "ytiinhofmhoplfaa", sum := "983a51db5afa04feb294d0b16457d6db29f6e48ddffd5217d93c2d7ca2d585ff", func := "verge/vergelaw14.KernPlays", spec := "kernPlays", unfollowed := true, recurses := true, apart := false }
def KernPlaysSaid : Prop := kernPlaysRow.holds Try.pinned (OpenSpec.ofChange kernPlaysSpec)

/-- ITS FALSE NEIGHBOUR: 'it returns false'. Refute it at one input. -/
def kernPlaysWrong : ChangeSpec := { name := "kernPlays", fn := fun _ => fun
  | [d1, d2] => { results := [.lit (.bool false)], args := [d1, d2] }
  | _ => none }
def KernPlaysWrongFalsely : Prop := kernPlaysRow.holds Try.pinned (OpenSpec.ofChange kernPlaysWrong)

/-- 'vergelaw14.KernOne': WHATEVER THE INPUT: true; the input reads as it did. -/
def kernOneSpec : ChangeSpec := { name := "kernOne", fn := fun _ => fun
  | [d1, d2] => { results := [.lit (.bool true)], args := [d1, d2] }
  | _ => none }
def kernOneRow : OpenClaim := { program := "ytiinhofmhoplfaa", sum := "983a51db5afa04feb294d0b16457d6db29f6e48ddffd5217d93c2d7ca2d585ff", func := "verge/vergelaw14.KernOne", spec := "kernOne", unfollowed := true, recurses := true, apart := false }
def KernOneSaid : Prop := kernOneRow.holds Try.pinned (OpenSpec.ofChange kernOneSpec)

/-- ITS FALSE NEIGHBOUR: 'it returns false'. Refute it at one input. -/
def kernOneWrong : ChangeSpec := { name := "kernOne", fn := fun _ => fun
  | [d1, d2] => { results := [.lit (.bool false)], args := [d1, d2] }
  | _ => none }
def KernOneWrongFalsely : Prop := kernOneRow.holds Try.pinned (OpenSpec.ofChange kernOneWrong)

/-- 'vergelaw14.KernOrder': WHATEVER THE INPUT: true; the input reads as it did. -/
def kernOrderSpec : ChangeSpec := { name := "kernOrder", fn := fun _ => fun
  | [d1, d2] => { results := [.lit (.bool true)], args := [d1, d2] }
  | _ => none }
def kernOrderRow : OpenClaim := { program := "ytiinhofmhoplfaa", sum := "983a51db5afa04feb294d0b16457d6db29f6e48ddffd5217d93c2d7ca2d585ff", func := "verge/vergelaw14.KernOrder", spec := "kernOrder", unfollowed := true, recurses := true, apart := false }
def KernOrderSaid : Prop := kernOrderRow.holds Try.pinned (OpenSpec.ofChange kernOrderSpec)

/-- ITS FALSE NEIGHBOUR: 'it returns false'. Refute it at one input. -/
def kernOrderWrong : ChangeSpec := { name := "kernOrder", fn := fun _ => fun
  | [d1, d2] => { results := [.lit (.bool false)], args := [d1, d2] }
  | _ => none }
def KernOrderWrongFalsely : Prop := kernOrderRow.holds Try.pinned (OpenSpec.ofChange kernOrderWrong)

/-- 'vergetop.TopDeferred': WHATEVER THE INPUT: true; the input reads as it did. -/
def topDeferredSpec : ChangeSpec := { name := "topDeferred", fn := fun _ => fun
  | [d1, d2] => { results := [.lit (.bool true)], args := [d1, d2] }
  | _ => none }
def topDeferredRow : OpenClaim := { program := "ytiinhofmhoplfaa", sum := "983a51db5afa04feb294d0b16457d6db29f6e48ddffd5217d93c2d7ca2d585ff", func := "verge/vergetop.TopDeferred", spec := "topDeferred", unfollowed := true, recurses := true, apart := false }
def TopDeferredSaid : Prop := topDeferredRow.holds Try.pinned (OpenSpec.ofChange topDeferredSpec)

/-- ITS FALSE NEIGHBOUR: 'it returns false'. Refute it at one input. -/
def topDeferredWrong : ChangeSpec := { name := "topDeferred", fn := fun _ => fun
  | [d1, d2] => { results := [.lit (.bool false)], args := [d1, d2] }
  | _ => none }
def TopDeferredWrongFalsely : Prop := topDeferredRow.holds Try.pinned (OpenSpec.ofChange topDeferredWrong)

/-- 'vergetop.TopLetters': WHATEVER THE INPUT: true; the input reads as it did. -/
def topLettersSpec : ChangeSpec := { name := "topLetters", fn := fun _ => fun
  | [d1, d2, d3, d4] => { results := [.lit (.bool true)], args := [d1, d2, d3, d4] }
  | _ => none }
def topLettersRow : OpenClaim := { program := "ytiinhofmhoplfaa", sum := "983a51db5afa04feb294d0b16457d6db29f6e48ddffd5217d93c2d7ca2d585ff", func := "verge/vergetop.TopLetters", spec := "topLetters", unfollowed := true, recurses := true, apart := false }
def TopLettersSaid : Prop := topLettersRow.holds Try.pinned (OpenSpec.ofChange topLettersSpec)

/-- ITS FALSE NEIGHBOUR: 'it returns false'. Refute it at one input. -/
def topLettersWrong : ChangeSpec := { name := "topLetters", fn := fun _ => fun
  | [d1, d2, d3, d4] => { results := [.lit (.bool false)], args := [d1, d2, d3, d4] }
  | _ => none }
def TopLettersWrongFalsely : Prop := topLettersRow.holds Try.pinned (OpenSpec.ofChange topLettersWrong)

/- THE SECOND FORM. 'bulk': how many values and letters a reading holds, each counted each time it is reached (what is shared counts as often as it is met; a slice's spare places count too). A statement '..UptoSaid' is the law's where the arguments, and the package variables that the reading takes, are together of bulk at most 1048576: NARROWER than '..Said'. Prove '..Said' where nothing that the law and all that it calls make is longer than what came in: it says more and counts as full. Else prove '..UptoSaid'. A law counts once. -/
mutual
def uptoBulk {H : Type} : DataW H → Nat
  | .lit (.string bytes) => bytes.length + 1
  | .lit _ => 1
  | .nil => 1
  | .ptr d => uptoBulk d + 1
  | .slice elems spare => uptoBulkAll elems + uptoBulkAll spare + 1
  | .agg parts => uptoBulkAll parts + 1
  | .iface _ d => uptoBulk d + 1
  | .map entries => uptoBulkEntries entries + 1
  | .held _ => 1
def uptoBulkAll {H : Type} : List (DataW H) → Nat
  | [] => 0
  | d :: r => uptoBulk d + uptoBulkAll r
def uptoBulkEntries {H : Type} : List (Lit × DataW H) → Nat
  | [] => 0
  | x :: r => uptoBulkEntry x + uptoBulkEntries r
def uptoBulkEntry {H : Type} : Lit × DataW H → Nat
  | (.string bytes, d) => bytes.length + uptoBulk d + 1
  | (_, d) => uptoBulk d + 1
 end
def uptoSmall : (H : Type) → List (DataW H) → Bool := fun _ ds => decide (uptoBulkAll ds ≤ 1048576)
def OpenSpec.upto (s : _root_.Go.ChangeSpec) : _root_.Go.OpenSpec := { _root_.Go.OpenSpec.ofChange s with cond := some uptoSmall }

/-- 'vergelaw17.WorkPlays', WHERE WHAT IT READS IS OF BULK AT MOST 1048576: true; the input reads as it did. -/
def workPlaysUptoRow : OpenClaim := { program := "ytiinhofmhoplfaa", sum := "983a51db5afa04feb294d0b16457d6db29f6e48ddffd5217d93c2d7ca2d585ff", func := "verge/vergelaw17.WorkPlays", spec := "workPlays", unfollowed := true, recurses := true, apart := false, narrowed := true }
def WorkPlaysUptoSaid : Prop := workPlaysUptoRow.holds Try.pinned (OpenSpec.upto workPlaysSpec)

/-- 'vergelaw17.WorkOrder', WHERE WHAT IT READS IS OF BULK AT MOST 1048576: true; the input reads as it did. -/
def workOrderUptoRow : OpenClaim := { program := "ytiinhofmhoplfaa", sum := "983a51db5afa04feb294d0b16457d6db29f6e48ddffd5217d93c2d7ca2d585ff", func := "verge/vergelaw17.WorkOrder", spec := "workOrder", unfollowed := true, recurses := true, apart := false, narrowed := true }
def WorkOrderUptoSaid : Prop := workOrderUptoRow.holds Try.pinned (OpenSpec.upto workOrderSpec)

/-- 'vergelaw12.CeilingPlays', WHERE WHAT IT READS IS OF BULK AT MOST 1048576: true; the input reads as it did. -/
def ceilingPlaysUptoRow : OpenClaim := { program := "ytiinhofmhoplfaa", sum := "983a51db5afa04feb294d0b16457d6db29f6e48ddffd5217d93c2d7ca2d585ff", func := "verge/vergelaw12.CeilingPlays", spec := "ceilingPlays", unfollowed := true, recurses := true, apart := false, narrowed := true }
def CeilingPlaysUptoSaid : Prop := ceilingPlaysUptoRow.holds Try.pinned (OpenSpec.upto ceilingPlaysSpec)

/-- 'vergelaw12.CeilingOne', WHERE WHAT IT READS IS OF BULK AT MOST 1048576: true; the input reads as it did. -/
def ceilingOneUptoRow : OpenClaim := { program := "ytiinhofmhoplfaa", sum := "983a51db5afa04feb294d0b16457d6db29f6e48ddffd5217d93c2d7ca2d585ff", func := "verge/vergelaw12.CeilingOne", spec := "ceilingOne", unfollowed := true, recurses := true, apart := false, narrowed := true }
def CeilingOneUptoSaid : Prop := ceilingOneUptoRow.holds Try.pinned (OpenSpec.upto ceilingOneSpec)

/-- 'vergelaw12.CeilingFree', WHERE WHAT IT READS IS OF BULK AT MOST 1048576: true; the input reads as it did. -/
def ceilingFreeUptoRow : OpenClaim := { program := "ytiinhofmhoplfaa", sum := "983a51db5afa04feb294d0b16457d6db29f6e48ddffd5217d93c2d7ca2d585ff", func := "verge/vergelaw12.CeilingFree", spec := "ceilingFree", unfollowed := true, recurses := true, apart := false, narrowed := true }
def CeilingFreeUptoSaid : Prop := ceilingFreeUptoRow.holds Try.pinned (OpenSpec.upto ceilingFreeSpec)

/-- 'vergelaw18.BottomPlays', WHERE WHAT IT READS IS OF BULK AT MOST 1048576: true; the input reads as it did. -/
def bottomPlaysUptoRow : OpenClaim := { program := "ytiinhofmhoplfaa", sum := "983a51db5afa04feb294d0b16457d6db29f6e48ddffd5217d93c2d7ca2d585ff", func := "verge/vergelaw18.BottomPlays", spec := "bottomPlays", unfollowed := true, recurses := true, apart := false, narrowed := true }
def BottomPlaysUptoSaid : Prop := bottomPlaysUptoRow.holds Try.pinned (OpenSpec.upto bottomPlaysSpec)

/-- 'vergelaw18.BottomSupply', WHERE WHAT IT READS IS OF BULK AT MOST 1048576: true; the input reads as it did. -/
def bottomSupplyUptoRow : OpenClaim := { program := "ytiinhofmhoplfaa", sum := "983a51db5afa04feb294d0b16457d6db29f6e48ddffd5217d93c2d7ca2d585ff", func := "verge/vergelaw18.BottomSupply", spec := "bottomSupply", unfollowed := true, recurses := true, apart := false, narrowed := true }
def BottomSupplyUptoSaid : Prop := bottomSupplyUptoRow.holds Try.pinned (OpenSpec.upto bottomSupplySpec)

/-- 'vergelaw14.KernPlays', WHERE WHAT IT READS IS OF BULK AT MOST 1048576: true; the input reads as it did. -/
def kernPlaysUptoRow : OpenClaim := { program := "ytiinhofmhoplfaa", sum := "983a51db5afa04feb294d0b16457d6db29f6e48ddffd5217d93c2d7ca2d585ff", func := "verge/vergelaw14.KernPlays", spec := "kernPlays", unfollowed := true, recurses := true, apart := false, narrowed := true }
def KernPlaysUptoSaid : Prop := kernPlaysUptoRow.holds Try.pinned (OpenSpec.upto kernPlaysSpec)

/-- 'vergelaw14.KernOne', WHERE WHAT IT READS IS OF BULK AT MOST 1048576: true; the input reads as it did. -/
def kernOneUptoRow : OpenClaim := { program := "ytiinhofmhoplfaa", sum := "983a51db5afa04feb294d0b16457d6db29f6e48ddffd5217d93c2d7ca2d585ff", func := "verge/vergelaw14.KernOne", spec := "kernOne", unfollowed := true, recurses := true, apart := false, narrowed := true }
def KernOneUptoSaid : Prop := kernOneUptoRow.holds Try.pinned (OpenSpec.upto kernOneSpec)

/-- 'vergelaw14.KernOrder', WHERE WHAT IT READS IS OF BULK AT MOST 1048576: true; the input reads as it did. -/
def kernOrderUptoRow : OpenClaim := { program := "ytiinhofmhoplfaa", sum := "983a51db5afa04feb294d0b16457d6db29f6e48ddffd5217d93c2d7ca2d585ff", func := "verge/vergelaw14.KernOrder", spec := "kernOrder", unfollowed := true, recurses := true, apart := false, narrowed := true }
def KernOrderUptoSaid : Prop := kernOrderUptoRow.holds Try.pinned (OpenSpec.upto kernOrderSpec)

/-- 'vergetop.TopDeferred', WHERE WHAT IT READS IS OF BULK AT MOST 1048576: true; the input reads as it did. -/
def topDeferredUptoRow : OpenClaim := { program := "ytiinhofmhoplfaa", sum := "983a51db5afa04feb294d0b16457d6db29f6e48ddffd5217d93c2d7ca2d585ff", func := "verge/vergetop.TopDeferred", spec := "topDeferred", unfollowed := true, recurses := true, apart := false, narrowed := true }
def TopDeferredUptoSaid : Prop := topDeferredUptoRow.holds Try.pinned (OpenSpec.upto topDeferredSpec)

/-- 'vergetop.TopLetters', WHERE WHAT IT READS IS OF BULK AT MOST 1048576: true; the input reads as it did. -/
def topLettersUptoRow : OpenClaim := { program := "ytiinhofmhoplfaa", sum := "983a51db5afa04feb294d0b16457d6db29f6e48ddffd5217d93c2d7ca2d585ff", func := "verge/vergetop.TopLetters", spec := "topLetters", unfollowed := true, recurses := true, apart := false, narrowed := true }
def TopLettersUptoSaid : Prop := topLettersUptoRow.holds Try.pinned (OpenSpec.upto topLettersSpec)

end Rows
end Go.Proofs.Ytiinhofmhoplfaa
