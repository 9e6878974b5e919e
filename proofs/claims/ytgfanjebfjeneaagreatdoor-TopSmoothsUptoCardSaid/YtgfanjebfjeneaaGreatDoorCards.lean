/-
  DERIVED. GIVEN WITH THE SEED: THE CARDS: each row of YtgfanjebfjeneaaGreatDoorRows.lean that lists a variable, with what it lists TIED to the program's text (the seventh form; the later family's looks); each row that meets fmt, with fmt's text TOLD by the authors' own Lean function (tested against real Go, not proved from fmt's source: count such statements apart). THE CARD IS WHAT COUNTS. Prove the row's statement (the work); the ties are given (YtgfanjebfjeneaaGreatDoorTie.lean); close each card by the builder's one call (the guide's Derived/Test/ToyasCard.lean, 'card_holds'). Laid BY PROGRAM, IN A SANDBOX (cutbox-door.mjs). By AI agents, Wed Nov 11 2026. No macro, syntax, notation, axiom, sorry.
-/
import Derived.Test.YtgfanjebfjeneaaGreatDoorRows
import GoSem.ClaimSeven
namespace Go.Proofs.YtgfanjebfjeneaaGreatDoor
namespace Rows

/-- THE TIED CARD OF 'binnacletop.TopSmooths'. -/
def topSmoothsCard : Claim7 := { stood := { row := topSmoothsRow, standIns := [], harness := (true, "84a1f24026dc5f307f074613fe0a2546b3ffbd61717fb7e7c43b86032906dc59"), looks := true }, kinds := [], alts := [], laidByText := true, laidKinds := [.data, .data], laidTests := true, laidLooks := .later }
def TopSmoothsCardSaid : Prop := Claim7.holds Tryz.pinned (.plain (OpenSpec.ofChange topSmoothsSpec)) topSmoothsCard

/-- THE SECOND FORM's CARD OF 'binnacletop.TopSmooths'. -/
def topSmoothsUptoCard : Claim7 := { stood := { row := topSmoothsUptoRow, standIns := [], harness := (true, "84a1f24026dc5f307f074613fe0a2546b3ffbd61717fb7e7c43b86032906dc59"), looks := true }, kinds := [], alts := [], laidByText := true, laidKinds := [.data, .data], laidTests := true, laidLooks := .later }
def TopSmoothsUptoCardSaid : Prop := Claim7.holds Tryz.pinned (.plain (OpenSpec.upto topSmoothsSpec)) topSmoothsUptoCard
end Rows
end Go.Proofs.YtgfanjebfjeneaaGreatDoor
