/-
  DERIVED. GIVEN WITH THE SEED: THE CARDS: each row of YtekjnagojphmkaaDoorRows.lean that lists a variable, with what it lists TIED to the program's text (the seventh form; the later family's looks); each row that meets fmt, with fmt's text TOLD by the authors' own Lean function (tested against real Go, not proved from fmt's source: count such statements apart). THE CARD IS WHAT COUNTS. Prove the row's statement (the work); the ties are given (YtekjnagojphmkaaDoorTie.lean); close each card by the builder's one call (the guide's Derived/Test/ToyasCard.lean, 'card_holds'). Laid BY PROGRAM, IN A SANDBOX (cutbox-door.mjs). By AI agents, Wed Nov 11 2026. No macro, syntax, notation, axiom, sorry.
-/
import Derived.Test.YtekjnagojphmkaaDoorRows
import GoSem.ClaimSeven
namespace Go.Proofs.YtekjnagojphmkaaDoor
namespace Rows

/-- THE TIED CARD OF 'vergetop.TopServed'. -/
def topServedCard : Claim7 := { stood := { row := topServedRow, standIns := [], harness := (true, "ece4af5d61f97d5623512769f4cf104230996d22c73c6455a4336fbcd3c5cda4"), looks := false }, kinds := [], alts := [], laidByText := true, laidKinds := [.data], laidTests := true, laidLooks := .later }
def TopServedCardSaid : Prop := Claim7.holds Tryd.pinned (.plain (OpenSpec.ofChange topServedSpec)) topServedCard

/-- THE TIED CARD OF 'vergetop.TopDemanded'. -/
def topDemandedCard : Claim7 := { stood := { row := topDemandedRow, standIns := [], harness := (true, "ece4af5d61f97d5623512769f4cf104230996d22c73c6455a4336fbcd3c5cda4"), looks := false }, kinds := [], alts := [], laidByText := true, laidKinds := [.data], laidTests := true, laidLooks := .later }
def TopDemandedCardSaid : Prop := Claim7.holds Tryd.pinned (.plain (OpenSpec.ofChange topDemandedSpec)) topDemandedCard

/-- THE SECOND FORM's CARD OF 'vergetop.TopServed'. -/
def topServedUptoCard : Claim7 := { stood := { row := topServedUptoRow, standIns := [], harness := (true, "ece4af5d61f97d5623512769f4cf104230996d22c73c6455a4336fbcd3c5cda4"), looks := false }, kinds := [], alts := [], laidByText := true, laidKinds := [.data], laidTests := true, laidLooks := .later }
def TopServedUptoCardSaid : Prop := Claim7.holds Tryd.pinned (.plain (OpenSpec.upto topServedSpec)) topServedUptoCard

/-- THE SECOND FORM's CARD OF 'vergetop.TopDemanded'. -/
def topDemandedUptoCard : Claim7 := { stood := { row := topDemandedUptoRow, standIns := [], harness := (true, "ece4af5d61f97d5623512769f4cf104230996d22c73c6455a4336fbcd3c5cda4"), looks := false }, kinds := [], alts := [], laidByText := true, laidKinds := [.data], laidTests := true, laidLooks := .later }
def TopDemandedUptoCardSaid : Prop := Claim7.holds Tryd.pinned (.plain (OpenSpec.upto topDemandedSpec)) topDemandedUptoCard
end Rows
end Go.Proofs.YtekjnagojphmkaaDoor
