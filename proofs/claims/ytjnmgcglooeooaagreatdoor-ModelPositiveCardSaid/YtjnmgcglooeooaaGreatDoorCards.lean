/-
  DERIVED. GIVEN WITH THE SEED: THE CARDS: each row of YtjnmgcglooeooaaGreatDoorRows.lean that lists a variable, with what it lists TIED to the program's text (the seventh form; the later family's looks); each row that meets fmt, with fmt's text TOLD by the authors' own Lean function (tested against real Go, not proved from fmt's source: count such statements apart). THE CARD IS WHAT COUNTS. Prove the row's statement (the work); the ties are given (YtjnmgcglooeooaaGreatDoorTie.lean); close each card by the builder's one call (the guide's Derived/Test/ToyasCard.lean, 'card_holds'). Laid BY PROGRAM, IN A SANDBOX (cutbox-door.mjs). By AI agents, Wed Nov 11 2026. No macro, syntax, notation, axiom, sorry.
-/
import Derived.Test.YtjnmgcglooeooaaGreatDoorRows
import GoSem.ClaimSeven
namespace Go.Proofs.YtjnmgcglooeooaaGreatDoor
namespace Rows

/-- THE TIED CARD OF 'binnaclelaw14.ModelPositive'. -/
def modelPositiveCard : Claim7 := { stood := { row := modelPositiveRow, standIns := [], harness := (true, "c9297e6242b549fbe793820b57b9fd4fd36f574584255785cb483945c03b0c2b"), looks := false }, kinds := [], alts := [], laidByText := true, laidKinds := [.data], laidTests := true, laidLooks := .later }
def ModelPositiveCardSaid : Prop := Claim7.holds Tryz.pinned (.plain (OpenSpec.ofChange modelPositiveSpec)) modelPositiveCard

/-- THE SECOND FORM's CARD OF 'binnaclelaw14.ModelPositive'. -/
def modelPositiveUptoCard : Claim7 := { stood := { row := modelPositiveUptoRow, standIns := [], harness := (true, "c9297e6242b549fbe793820b57b9fd4fd36f574584255785cb483945c03b0c2b"), looks := false }, kinds := [], alts := [], laidByText := true, laidKinds := [.data], laidTests := true, laidLooks := .later }
def ModelPositiveUptoCardSaid : Prop := Claim7.holds Tryz.pinned (.plain (OpenSpec.upto modelPositiveSpec)) modelPositiveUptoCard
end Rows
end Go.Proofs.YtjnmgcglooeooaaGreatDoor
