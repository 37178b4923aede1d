/-
  DERIVED. GIVEN WITH THE SEED: THE CARDS: each row of YtlkdkgefjipjmaaGreatDoorRows.lean that lists a variable, with what it lists TIED to the program's text (the seventh form; the later family's looks); each row that meets fmt, with fmt's text TOLD by the authors' own Lean function (tested against real Go, not proved from fmt's source: count such statements apart). THE CARD IS WHAT COUNTS. Prove the row's statement (the work); the ties are given (YtlkdkgefjipjmaaGreatDoorTie.lean); close each card by the builder's one call (the guide's Derived/Test/ToyasCard.lean, 'card_holds'). Laid BY PROGRAM, IN A SANDBOX (cutbox-door.mjs). By AI agents, Wed Nov 11 2026. No macro, syntax, notation, axiom, sorry.
-/
import Derived.Test.YtlkdkgefjipjmaaGreatDoorRows
import GoSem.ClaimSeven
namespace Go.Proofs.YtlkdkgefjipjmaaGreatDoor
namespace Rows

/-- THE TIED CARD OF 'vergetop.TopEnd'. -/
def topEndCard : Claim7 := { stood := { row := topEndRow, standIns := [], harness := (true, "399fb20fffe51a443ab702ffe1f5f41db7ded8da6c809685585efc4ac6cff981"), looks := false }, kinds := [], alts := [], laidByText := true, laidKinds := [.data], laidTests := true, laidLooks := .later }
def TopEndCardSaid : Prop := Claim7.holds Tryz.pinned (.plain (OpenSpec.ofChange topEndSpec)) topEndCard

/-- THE TIED CARD OF 'vergetop.TopComes'. -/
def topComesCard : Claim7 := { stood := { row := topComesRow, standIns := [], harness := (true, "399fb20fffe51a443ab702ffe1f5f41db7ded8da6c809685585efc4ac6cff981"), looks := false }, kinds := [], alts := [], laidByText := true, laidKinds := [.data], laidTests := true, laidLooks := .later }
def TopComesCardSaid : Prop := Claim7.holds Tryz.pinned (.plain (OpenSpec.ofChange topComesSpec)) topComesCard

/-- THE SECOND FORM's CARD OF 'vergetop.TopEnd'. -/
def topEndUptoCard : Claim7 := { stood := { row := topEndUptoRow, standIns := [], harness := (true, "399fb20fffe51a443ab702ffe1f5f41db7ded8da6c809685585efc4ac6cff981"), looks := false }, kinds := [], alts := [], laidByText := true, laidKinds := [.data], laidTests := true, laidLooks := .later }
def TopEndUptoCardSaid : Prop := Claim7.holds Tryz.pinned (.plain (OpenSpec.upto topEndSpec)) topEndUptoCard

/-- THE SECOND FORM's CARD OF 'vergetop.TopComes'. -/
def topComesUptoCard : Claim7 := { stood := { row := topComesUptoRow, standIns := [], harness := (true, "399fb20fffe51a443ab702ffe1f5f41db7ded8da6c809685585efc4ac6cff981"), looks := false }, kinds := [], alts := [], laidByText := true, laidKinds := [.data], laidTests := true, laidLooks := .later }
def TopComesUptoCardSaid : Prop := Claim7.holds Tryz.pinned (.plain (OpenSpec.upto topComesSpec)) topComesUptoCard
end Rows
end Go.Proofs.YtlkdkgefjipjmaaGreatDoor
