/-
  No cell of these rows narrows 'for every input' (looked for: loops, veiled, ifaces, maps, wideKeys, modest, calm, conditions, laid).
  DERIVED. THE GIVEN ROWS OF THIS SEAT. 12 by the template 'for every input the law returns true; each argument reads behind the call as it read before'; 0 by the template 'total and deterministic' (their statements: YtlgkcpgmnpoanaaTotals.lean).
  GIVEN WITH THE SEED: the statements are not yours to turn. If you find one false, say at which input.
  Laid BY PROGRAM, IN A SANDBOX (cutbox-rows.mjs): the forced cells as the released guide's own fill.sh prints them over the translation 91867553dd28ef4a… (all of the seat's roots in one cut). By AI agents, Wed Nov 11 2026. No macro, syntax, notation, axiom, sorry.
-/
import Derived.Test.YtlgkcpgmnpoanaaChecked
import GoSem.Claim
import GoSem.ClaimJoined
import GoSem.ClaimMapViews
import Derived.JoinedTies
import Derived.KernelRfl
namespace Go.Proofs.Ytlgkcpgmnpoanaa
/- THE CELL 'sum', in the pinned program and in every row, IS THE sha256 OF THE DUMP (.gsa) THAT YtlgkcpgmnpoanaaProg.lean LOADS. Nothing in Lean hashes anything: it is a label: what it is worth is what the hold of that sum in a sandbox is worth. -/
noncomputable def Try.pinned : Pinned := { name := "ytlgkcpgmnpoanaa", sum := "91867553dd28ef4ad51a09256737717684e4463754c9e522f90552d5cac9d460", checked := Try.checked }
namespace Rows
def none {H : Type} : Left H := { results := [], args := [] }

/-- 'vergelaw16.StormPlays': WHATEVER THE INPUT: true; the input reads as it did. -/
def stormPlaysSpec : ChangeSpec := { name := "stormPlays", fn := fun _ => fun
  | [d1, d2, d3] => { results := [.lit (.bool true)], args := [d1, d2, d3] }
  | _ => none }
def stormPlaysRow : OpenClaim := { program := "ytlgkcpgmnpoanaa", sum := "91867553dd28ef4ad51a09256737717684e4463754c9e522f90552d5cac9d460", func := "verge/vergelaw16.StormPlays", spec := "stormPlays", apart := false }
def StormPlaysSaid : Prop := stormPlaysRow.holds Try.pinned (OpenSpec.ofChange stormPlaysSpec)

/-- ITS FALSE NEIGHBOUR: 'it returns false'. Refute it at one input. -/
def stormPlaysWrong : ChangeSpec := { name := "stormPlays", fn := fun _ => fun
  | [d1, d2, d3] => { results := [.lit (.bool false)], args := [d1, d2, d3] }
  | _ => none }
def StormPlaysWrongFalsely : Prop := stormPlaysRow.holds Try.pinned (OpenSpec.ofChange stormPlaysWrong)

/-- 'vergelaw16.StormOften': WHATEVER THE INPUT: true; the input reads as it did. -/
def stormOftenSpec : ChangeSpec := { name := "stormOften", fn := fun _ => fun
  | [d1, d2, d3] => { results := [.lit (.bool true)], args := [d1, d2, d3] }
  | _ => none }
def stormOftenRow : OpenClaim := { program := "ytlgkcpgmnpoanaa", sum := "91867553dd28ef4ad51a09256737717684e4463754c9e522f90552d5cac9d460", func := "verge/vergelaw16.StormOften", spec := "stormOften", apart := false }
def StormOftenSaid : Prop := stormOftenRow.holds Try.pinned (OpenSpec.ofChange stormOftenSpec)

/-- ITS FALSE NEIGHBOUR: 'it returns false'. Refute it at one input. -/
def stormOftenWrong : ChangeSpec := { name := "stormOften", fn := fun _ => fun
  | [d1, d2, d3] => { results := [.lit (.bool false)], args := [d1, d2, d3] }
  | _ => none }
def StormOftenWrongFalsely : Prop := stormOftenRow.holds Try.pinned (OpenSpec.ofChange stormOftenWrong)

/-- 'vergelaw15.ServerPlays': WHATEVER THE INPUT: true; the input reads as it did. -/
def serverPlaysSpec : ChangeSpec := { name := "serverPlays", fn := fun _ => fun
  | [d1, d2, d3] => { results := [.lit (.bool true)], args := [d1, d2, d3] }
  | _ => none }
def serverPlaysRow : OpenClaim := { program := "ytlgkcpgmnpoanaa", sum := "91867553dd28ef4ad51a09256737717684e4463754c9e522f90552d5cac9d460", func := "verge/vergelaw15.ServerPlays", spec := "serverPlays", apart := false }
def ServerPlaysSaid : Prop := serverPlaysRow.holds Try.pinned (OpenSpec.ofChange serverPlaysSpec)

/-- ITS FALSE NEIGHBOUR: 'it returns false'. Refute it at one input. -/
def serverPlaysWrong : ChangeSpec := { name := "serverPlays", fn := fun _ => fun
  | [d1, d2, d3] => { results := [.lit (.bool false)], args := [d1, d2, d3] }
  | _ => none }
def ServerPlaysWrongFalsely : Prop := serverPlaysRow.holds Try.pinned (OpenSpec.ofChange serverPlaysWrong)

/-- 'vergelaw15.ServerSupply': WHATEVER THE INPUT: true; the input reads as it did. -/
def serverSupplySpec : ChangeSpec := { name := "serverSupply", fn := fun _ => fun
  | [d1, d2, d3, d4] => { results := [.lit (.bool true)], args := [d1, d2, d3, d4] }
  | _ => none }
def serverSupplyRow : OpenClaim := { program := "ytlgkcpgmnpoanaa", sum := "91867553dd28ef4ad51a09256737717684e4463754c9e522f90552d5cac9d460", func := "verge/vergelaw15.ServerSupply", spec := "serverSupply", apart := false }
def ServerSupplySaid : Prop := serverSupplyRow.holds Try.pinned (OpenSpec.ofChange serverSupplySpec)

/-- ITS FALSE NEIGHBOUR: 'it returns false'. Refute it at one input. -/
def serverSupplyWrong : ChangeSpec := { name := "serverSupply", fn := fun _ => fun
  | [d1, d2, d3, d4] => { results := [.lit (.bool false)], args := [d1, d2, d3, d4] }
  | _ => none }
def ServerSupplyWrongFalsely : Prop := serverSupplyRow.holds Try.pinned (OpenSpec.ofChange serverSupplyWrong)

/-- 'vergelaw15.ServerWhole': WHATEVER THE INPUT: true; the input reads as it did. -/
def serverWholeSpec : ChangeSpec := { name := "serverWhole", fn := fun _ => fun
  | [d1, d2, d3] => { results := [.lit (.bool true)], args := [d1, d2, d3] }
  | _ => none }
def serverWholeRow : OpenClaim := { program := "ytlgkcpgmnpoanaa", sum := "91867553dd28ef4ad51a09256737717684e4463754c9e522f90552d5cac9d460", func := "verge/vergelaw15.ServerWhole", spec := "serverWhole", apart := false }
def ServerWholeSaid : Prop := serverWholeRow.holds Try.pinned (OpenSpec.ofChange serverWholeSpec)

/-- ITS FALSE NEIGHBOUR: 'it returns false'. Refute it at one input. -/
def serverWholeWrong : ChangeSpec := { name := "serverWhole", fn := fun _ => fun
  | [d1, d2, d3] => { results := [.lit (.bool false)], args := [d1, d2, d3] }
  | _ => none }
def ServerWholeWrongFalsely : Prop := serverWholeRow.holds Try.pinned (OpenSpec.ofChange serverWholeWrong)

/-- 'vergelaw13.MboxPlays': WHATEVER THE INPUT: true; the input reads as it did. -/
def mboxPlaysSpec : ChangeSpec := { name := "mboxPlays", fn := fun _ => fun
  | [d1, d2] => { results := [.lit (.bool true)], args := [d1, d2] }
  | _ => none }
def mboxPlaysRow : OpenClaim := { program := "ytlgkcpgmnpoanaa", sum := "91867553dd28ef4ad51a09256737717684e4463754c9e522f90552d5cac9d460", func := "verge/vergelaw13.MboxPlays", spec := "mboxPlays", unfollowed := true, recurses := true, apart := false }
def MboxPlaysSaid : Prop := mboxPlaysRow.holds Try.pinned (OpenSpec.ofChange mboxPlaysSpec)

/-- ITS FALSE NEIGHBOUR: 'it returns false'. Refute it at one input. -/
def mboxPlaysWrong : ChangeSpec := { name := "mboxPlays", fn := fun _ => fun
  | [d1, d2] => { results := [.lit (.bool false)], args := [d1, d2] }
  | _ => none }
def MboxPlaysWrongFalsely : Prop := mboxPlaysRow.holds Try.pinned (OpenSpec.ofChange mboxPlaysWrong)

/-- 'vergelaw13.MboxOrder': WHATEVER THE INPUT: true; the input reads as it did. -/
def mboxOrderSpec : ChangeSpec := { name := "mboxOrder", fn := fun _ => fun
  | [d1, d2] => { results := [.lit (.bool true)], args := [d1, d2] }
  | _ => none }
def mboxOrderRow : OpenClaim := { program := "ytlgkcpgmnpoanaa", sum := "91867553dd28ef4ad51a09256737717684e4463754c9e522f90552d5cac9d460", func := "verge/vergelaw13.MboxOrder", spec := "mboxOrder", unfollowed := true, recurses := true, apart := false }
def MboxOrderSaid : Prop := mboxOrderRow.holds Try.pinned (OpenSpec.ofChange mboxOrderSpec)

/-- ITS FALSE NEIGHBOUR: 'it returns false'. Refute it at one input. -/
def mboxOrderWrong : ChangeSpec := { name := "mboxOrder", fn := fun _ => fun
  | [d1, d2] => { results := [.lit (.bool false)], args := [d1, d2] }
  | _ => none }
def MboxOrderWrongFalsely : Prop := mboxOrderRow.holds Try.pinned (OpenSpec.ofChange mboxOrderWrong)

/-- 'vergetop.TopThrottled': WHATEVER THE INPUT: true; the input reads as it did. -/
def topThrottledSpec : ChangeSpec := { name := "topThrottled", fn := fun _ => fun
  | [d1, d2, d3, d4, d5] => { results := [.lit (.bool true)], args := [d1, d2, d3, d4, d5] }
  | _ => none }
def topThrottledRow : OpenClaim := { program := "ytlgkcpgmnpoanaa", sum := "91867553dd28ef4ad51a09256737717684e4463754c9e522f90552d5cac9d460", func := "verge/vergetop.TopThrottled", spec := "topThrottled", apart := false }
def TopThrottledSaid : Prop := topThrottledRow.holds Try.pinned (OpenSpec.ofChange topThrottledSpec)

/-- ITS FALSE NEIGHBOUR: 'it returns false'. Refute it at one input. -/
def topThrottledWrong : ChangeSpec := { name := "topThrottled", fn := fun _ => fun
  | [d1, d2, d3, d4, d5] => { results := [.lit (.bool false)], args := [d1, d2, d3, d4, d5] }
  | _ => none }
def TopThrottledWrongFalsely : Prop := topThrottledRow.holds Try.pinned (OpenSpec.ofChange topThrottledWrong)

/-- 'vergelaw20.StatsAdd': WHATEVER THE INPUT: true; the input reads as it did. -/
def statsAddSpec : ChangeSpec := { name := "statsAdd", fn := fun _ => fun
  | [d1, d2] => { results := [.lit (.bool true)], args := [d1, d2] }
  | _ => none }
def statsAddRow : OpenClaim := { program := "ytlgkcpgmnpoanaa", sum := "91867553dd28ef4ad51a09256737717684e4463754c9e522f90552d5cac9d460", func := "verge/vergelaw20.StatsAdd", spec := "statsAdd", apart := false }
def StatsAddSaid : Prop := statsAddRow.holds Try.pinned (OpenSpec.ofChange statsAddSpec)

/-- ITS FALSE NEIGHBOUR: 'it returns false'. Refute it at one input. -/
def statsAddWrong : ChangeSpec := { name := "statsAdd", fn := fun _ => fun
  | [d1, d2] => { results := [.lit (.bool false)], args := [d1, d2] }
  | _ => none }
def StatsAddWrongFalsely : Prop := statsAddRow.holds Try.pinned (OpenSpec.ofChange statsAddWrong)

/-- 'vergelaw20.StatsJoin': WHATEVER THE INPUT: true; the input reads as it did. -/
def statsJoinSpec : ChangeSpec := { name := "statsJoin", fn := fun _ => fun
  | [d1, d2, d3] => { results := [.lit (.bool true)], args := [d1, d2, d3] }
  | _ => none }
def statsJoinRow : OpenClaim := { program := "ytlgkcpgmnpoanaa", sum := "91867553dd28ef4ad51a09256737717684e4463754c9e522f90552d5cac9d460", func := "verge/vergelaw20.StatsJoin", spec := "statsJoin", apart := false }
def StatsJoinSaid : Prop := statsJoinRow.holds Try.pinned (OpenSpec.ofChange statsJoinSpec)

/-- ITS FALSE NEIGHBOUR: 'it returns false'. Refute it at one input. -/
def statsJoinWrong : ChangeSpec := { name := "statsJoin", fn := fun _ => fun
  | [d1, d2, d3] => { results := [.lit (.bool false)], args := [d1, d2, d3] }
  | _ => none }
def StatsJoinWrongFalsely : Prop := statsJoinRow.holds Try.pinned (OpenSpec.ofChange statsJoinWrong)

/-- 'vergelaw20.StatsParts': WHATEVER THE INPUT: true; the input reads as it did. -/
def statsPartsSpec : ChangeSpec := { name := "statsParts", fn := fun _ => fun
  | [d1, d2] => { results := [.lit (.bool true)], args := [d1, d2] }
  | _ => none }
def statsPartsRow : OpenClaim := { program := "ytlgkcpgmnpoanaa", sum := "91867553dd28ef4ad51a09256737717684e4463754c9e522f90552d5cac9d460", func := "verge/vergelaw20.StatsParts", spec := "statsParts", apart := false }
def StatsPartsSaid : Prop := statsPartsRow.holds Try.pinned (OpenSpec.ofChange statsPartsSpec)

/-- ITS FALSE NEIGHBOUR: 'it returns false'. Refute it at one input. -/
def statsPartsWrong : ChangeSpec := { name := "statsParts", fn := fun _ => fun
  | [d1, d2] => { results := [.lit (.bool false)], args := [d1, d2] }
  | _ => none }
def StatsPartsWrongFalsely : Prop := statsPartsRow.holds Try.pinned (OpenSpec.ofChange statsPartsWrong)

/-- 'vergelaw20.StatsWorst': WHATEVER THE INPUT: true; the input reads as it did. -/
def statsWorstSpec : ChangeSpec := { name := "statsWorst", fn := fun _ => fun
  | [d] => { results := [.lit (.bool true)], args := [d] }
  | _ => none }
def statsWorstRow : OpenClaim := { program := "ytlgkcpgmnpoanaa", sum := "91867553dd28ef4ad51a09256737717684e4463754c9e522f90552d5cac9d460", func := "verge/vergelaw20.StatsWorst", spec := "statsWorst", apart := false }
def StatsWorstSaid : Prop := statsWorstRow.holds Try.pinned (OpenSpec.ofChange statsWorstSpec)

/-- ITS FALSE NEIGHBOUR: 'it returns false'. Refute it at one input. -/
def statsWorstWrong : ChangeSpec := { name := "statsWorst", fn := fun _ => fun
  | [d] => { results := [.lit (.bool false)], args := [d] }
  | _ => none }
def StatsWorstWrongFalsely : Prop := statsWorstRow.holds Try.pinned (OpenSpec.ofChange statsWorstWrong)

/- THE SECOND FORM. 'bulk': how many values and letters a reading holds, each counted each time it is reached (what is shared counts as often as it is met; a slice's spare places count too). A statement '..UptoSaid' is the law's where the arguments, and the package variables that the reading takes, are together of bulk at most 1048576: NARROWER than '..Said'. Prove '..Said' where nothing that the law and all that it calls make is longer than what came in: it says more and counts as full. Else prove '..UptoSaid'. A law counts once. -/
mutual
def uptoBulk {H : Type} : DataW H → Nat
  | .lit (.string bytes) => bytes.length + 1
  | .lit _ => 1
  | .nil => 1
  | .ptr d => uptoBulk d + 1
  | .slice elems spare => uptoBulkAll elems + uptoBulkAll spare + 1
  | .agg parts => uptoBulkAll parts + 1
  | .iface _ d => uptoBulk d + 1
  | .map entries => uptoBulkEntries entries + 1
  | .held _ => 1
def uptoBulkAll {H : Type} : List (DataW H) → Nat
  | [] => 0
  | d :: r => uptoBulk d + uptoBulkAll r
def uptoBulkEntries {H : Type} : List (Lit × DataW H) → Nat
  | [] => 0
  | x :: r => uptoBulkEntry x + uptoBulkEntries r
def uptoBulkEntry {H : Type} : Lit × DataW H → Nat
  | (.string bytes, d) => bytes.length + uptoBulk d + 1
  | (_, d) => uptoBulk d + 1
 end
def uptoSmall : (H : Type) → List (DataW H) → Bool := fun _ ds => decide (uptoBulkAll ds ≤ 1048576)
def OpenSpec.upto (s : _root_.Go.ChangeSpec) : _root_.Go.OpenSpec := { _root_.Go.OpenSpec.ofChange s with cond := some uptoSmall }

/-- 'vergelaw16.StormPlays', WHERE WHAT IT READS IS OF BULK AT MOST 1048576: true; the input reads as it did. -/
def stormPlaysUptoRow : OpenClaim := { program := "ytlgkcpgmnpoanaa", sum := "91867553dd28ef4ad51a09256737717684e4463754c9e522f90552d5cac9d460", func := "verge/vergelaw16.StormPlays", spec := "stormPlays", apart := false, narrowed := true }
def StormPlaysUptoSaid : Prop := stormPlaysUptoRow.holds Try.pinned (OpenSpec.upto stormPlaysSpec)

/-- 'vergelaw16.StormOften', WHERE WHAT IT READS IS OF BULK AT MOST 1048576: true; the input reads as it did. -/
def stormOftenUptoRow : OpenClaim := { program := "ytlgkcpgmnpoanaa", sum := "91867553dd28ef4ad51a09256737717684e4463754c9e522f90552d5cac9d460", func := "verge/vergelaw16.StormOften", spec := "stormOften", apart := false, narrowed := true }
def StormOftenUptoSaid : Prop := stormOftenUptoRow.holds Try.pinned (OpenSpec.upto stormOftenSpec)

/-- 'vergelaw15.ServerPlays', WHERE WHAT IT READS IS OF BULK AT MOST 1048576: true; the input reads as it did. -/
def serverPlaysUptoRow : OpenClaim := { program := "ytlgkcpgmnpoanaa", sum := "91867553dd28ef4ad51a09256737717684e4463754c9e522f90552d5cac9d460", func := "verge/vergelaw15.ServerPlays", spec := "serverPlays", apart := false, narrowed := true }
def ServerPlaysUptoSaid : Prop := serverPlaysUptoRow.holds Try.pinned (OpenSpec.upto serverPlaysSpec)

/-- 'vergelaw15.ServerSupply', WHERE WHAT IT READS IS OF BULK AT MOST 1048576: true; the input reads as it did. -/
def serverSupplyUptoRow : OpenClaim := { program := "ytlgkcpgmnpoanaa", sum := "91867553dd28ef4ad51a09256737717684e4463754c9e522f90552d5cac9d460", func := "verge/vergelaw15.ServerSupply", spec := "serverSupply", apart := false, narrowed := true }
def ServerSupplyUptoSaid : Prop := serverSupplyUptoRow.holds Try.pinned (OpenSpec.upto serverSupplySpec)

/-- 'vergelaw15.ServerWhole', WHERE WHAT IT READS IS OF BULK AT MOST 1048576: true; the input reads as it did. -/
def serverWholeUptoRow : OpenClaim := { program := "ytlgkcpgmnpoanaa", sum := "91867553dd28ef4ad51a09256737717684e4463754c9e522f90552d5cac9d460", func := "verge/vergelaw15.ServerWhole", spec := "serverWhole", apart := false, narrowed := true }
def ServerWholeUptoSaid : Prop := serverWholeUptoRow.holds Try.pinned (OpenSpec.upto serverWholeSpec)

/-- 'vergelaw13.MboxPlays', WHERE WHAT IT READS IS OF BULK AT MOST 1048576: true; the input reads as it did. -/
def mboxPlaysUptoRow : OpenClaim := { program := "ytlgkcpgmnpoanaa", sum := "91867553dd28ef4ad51a09256737717684e4463754c9e522f90552d5cac9d460", func := "verge/vergelaw13.MboxPlays", spec := "mboxPlays", unfollowed := true, recurses := true, apart := false, narrowed := true }
def MboxPlaysUptoSaid : Prop := mboxPlaysUptoRow.holds Try.pinned (OpenSpec.upto mboxPlaysSpec)

/-- 'vergelaw13.MboxOrder', WHERE WHAT IT READS IS OF BULK AT MOST 1048576: true; the input reads as it did. -/
def mboxOrderUptoRow : OpenClaim := { program := "ytlgkcpgmnpoanaa", sum := "91867553dd28ef4ad51a09256737717684e4463754c9e522f90552d5cac9d460", func := "verge/vergelaw13.MboxOrder", spec := "mboxOrder", unfollowed := true, recurses := true, apart := false, narrowed := true }
def MboxOrderUptoSaid : Prop := mboxOrderUptoRow.holds Try.pinned (OpenSpec.upto mboxOrderSpec)

/-- 'vergetop.TopThrottled', WHERE WHAT IT READS IS OF BULK AT MOST 1048576: true; the input reads as it did. -/
def topThrottledUptoRow : OpenClaim := { program := "ytlgkcpgmnpoanaa", sum := "91867553dd28ef4ad51a09256737717684e4463754c9e522f90552d5cac9d460", func := "verge/vergetop.TopThrottled", spec := "topThrottled", apart := false, narrowed := true }
def TopThrottledUptoSaid : Prop := topThrottledUptoRow.holds Try.pinned (OpenSpec.upto topThrottledSpec)

/-- 'vergelaw20.StatsAdd', WHERE WHAT IT READS IS OF BULK AT MOST 1048576: true; the input reads as it did. -/
def statsAddUptoRow : OpenClaim := { program := "ytlgkcpgmnpoanaa", sum := "91867553dd28ef4ad51a09256737717684e4463754c9e522f90552d5cac9d460", func := "verge/vergelaw20.StatsAdd", spec := "statsAdd", apart := false, narrowed := true }
def StatsAddUptoSaid : Prop := statsAddUptoRow.holds Try.pinned (OpenSpec.upto statsAddSpec)

/-- 'vergelaw20.StatsJoin', WHERE WHAT IT READS IS OF BULK AT MOST 1048576: true; the input reads as it did. -/
def statsJoinUptoRow : OpenClaim := { program := "ytlgkcpgmnpoanaa", sum := "91867553dd28ef4ad51a09256737717684e4463754c9e522f90552d5cac9d460", func := "verge/vergelaw20.StatsJoin", spec := "statsJoin", apart := false, narrowed := true }
def StatsJoinUptoSaid : Prop := statsJoinUptoRow.holds Try.pinned (OpenSpec.upto statsJoinSpec)

/-- 'vergelaw20.StatsParts', WHERE WHAT IT READS IS OF BULK AT MOST 1048576: true; the input reads as it did. -/
def statsPartsUptoRow : OpenClaim := { program := "ytlgkcpgmnpoanaa", sum := "91867553dd28ef4ad51a09256737717684e4463754c9e522f90552d5cac9d460", func := "verge/vergelaw20.StatsParts", spec := "statsParts", apart := false, narrowed := true }
def StatsPartsUptoSaid : Prop := statsPartsUptoRow.holds Try.pinned (OpenSpec.upto statsPartsSpec)

/-- 'vergelaw20.StatsWorst', WHERE WHAT IT READS IS OF BULK AT MOST 1048576: true; the input reads as it did. -/
def statsWorstUptoRow : OpenClaim := { program := "ytlgkcpgmnpoanaa", sum := "91867553dd28ef4ad51a09256737717684e4463754c9e522f90552d5cac9d460", func := "verge/vergelaw20.StatsWorst", spec := "statsWorst", apart := false, narrowed := true }
def StatsWorstUptoSaid : Prop := statsWorstUptoRow.holds Try.pinned (OpenSpec.upto statsWorstSpec)

end Rows
end Go.Proofs.Ytlgkcpgmnpoanaa
