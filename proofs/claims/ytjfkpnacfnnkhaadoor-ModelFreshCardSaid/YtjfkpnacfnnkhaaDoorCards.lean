/-
  DERIVED. GIVEN WITH THE SEED: THE CARDS: each row of YtjfkpnacfnnkhaaDoorRows.lean that lists a variable, with what it lists TIED to the program's text (the seventh form; the later family's looks); each row that meets fmt, with fmt's text TOLD by the authors' own Lean function (tested against real Go, not proved from fmt's source: count such statements apart). THE CARD IS WHAT COUNTS. Prove the row's statement (the work); the ties are given (YtjfkpnacfnnkhaaDoorTie.lean); close each card by the builder's one call (the guide's Derived/Test/ToyasCard.lean, 'card_holds'). Laid BY PROGRAM, IN A SANDBOX (cutbox-door.mjs). By AI agents, Wed Nov 11 2026. No macro, syntax, notation, axiom, sorry.
-/
import Derived.Test.YtjfkpnacfnnkhaaDoorRows
import GoSem.ClaimSeven
namespace Go.Proofs.YtjfkpnacfnnkhaaDoor
namespace Rows

/-- THE TIED CARD OF 'binnaclelaw14.ModelFresh'. -/
def modelFreshCard : Claim7 := { stood := { row := modelFreshRow, standIns := [], harness := (true, "d72159715f9dbe6db39fbbe01c5ea6c2510bb74a803b602ca351e344e7ea6455"), looks := false }, kinds := [], alts := [], laidByText := true, laidKinds := [.data, .data, .data], laidTests := true, laidLooks := .later }
def ModelFreshCardSaid : Prop := Claim7.holds Tryd.pinned (.plain (OpenSpec.ofChange modelFreshSpec)) modelFreshCard

/-- THE SECOND FORM's CARD OF 'binnaclelaw14.ModelFresh'. -/
def modelFreshUptoCard : Claim7 := { stood := { row := modelFreshUptoRow, standIns := [], harness := (true, "d72159715f9dbe6db39fbbe01c5ea6c2510bb74a803b602ca351e344e7ea6455"), looks := false }, kinds := [], alts := [], laidByText := true, laidKinds := [.data, .data, .data], laidTests := true, laidLooks := .later }
def ModelFreshUptoCardSaid : Prop := Claim7.holds Tryd.pinned (.plain (OpenSpec.upto modelFreshSpec)) modelFreshUptoCard
end Rows
end Go.Proofs.YtjfkpnacfnnkhaaDoor
