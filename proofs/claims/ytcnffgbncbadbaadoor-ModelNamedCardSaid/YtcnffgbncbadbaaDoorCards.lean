/-
  DERIVED. GIVEN WITH THE SEED: THE CARDS: each row of YtcnffgbncbadbaaDoorRows.lean that lists a variable, with what it lists TIED to the program's text (the seventh form; the later family's looks); each row that meets fmt, with fmt's text TOLD by the authors' own Lean function (tested against real Go, not proved from fmt's source: count such statements apart). THE CARD IS WHAT COUNTS. Prove the row's statement (the work); the ties are given (YtcnffgbncbadbaaDoorTie.lean); close each card by the builder's one call (the guide's Derived/Test/ToyasCard.lean, 'card_holds'). Laid BY PROGRAM, IN A SANDBOX (cutbox-door.mjs). By AI agents, Wed Nov 11 2026. No macro, syntax, notation, axiom, sorry.
-/
import Derived.Test.YtcnffgbncbadbaaDoorRows
import GoSem.ClaimSeven
namespace Go.Proofs.YtcnffgbncbadbaaDoor
namespace Rows

/-- THE TIED CARD OF 'binnaclelaw14.ModelParts'. -/
def modelPartsCard : Claim7 := { stood := { row := modelPartsRow, standIns := [], harness := (true, "05024e275d5056f79f6d3d2bf0f0f53ad6a5e8f0f467a4026b303420a37b0b99"), looks := false }, kinds := [], alts := [], laidByText := true, laidKinds := [.data, .data, .data], laidTests := true, laidLooks := .later }
def ModelPartsCardSaid : Prop := Claim7.holds Tryd.pinned (.plain (OpenSpec.ofChange modelPartsSpec)) modelPartsCard

/-- THE TIED CARD OF 'binnaclelaw14.ModelNamed'. -/
def modelNamedCard : Claim7 := { stood := { row := modelNamedRow, standIns := [], harness := (true, "05024e275d5056f79f6d3d2bf0f0f53ad6a5e8f0f467a4026b303420a37b0b99"), looks := false }, kinds := [], alts := [], laidByText := true, laidKinds := [.data, .data, .data], laidTests := true, laidLooks := .later }
def ModelNamedCardSaid : Prop := Claim7.holds Tryd.pinned (.plain (OpenSpec.ofChange modelNamedSpec)) modelNamedCard

/-- THE TIED CARD OF 'binnaclelaw14.ModelFresh'. -/
def modelFreshCard : Claim7 := { stood := { row := modelFreshRow, standIns := [], harness := (true, "05024e275d5056f79f6d3d2bf0f0f53ad6a5e8f0f467a4026b303420a37b0b99"), looks := false }, kinds := [], alts := [], laidByText := true, laidKinds := [.data, .data, .data], laidTests := true, laidLooks := .later }
def ModelFreshCardSaid : Prop := Claim7.holds Tryd.pinned (.plain (OpenSpec.ofChange modelFreshSpec)) modelFreshCard

/-- THE SECOND FORM's CARD OF 'binnaclelaw14.ModelParts'. -/
def modelPartsUptoCard : Claim7 := { stood := { row := modelPartsUptoRow, standIns := [], harness := (true, "05024e275d5056f79f6d3d2bf0f0f53ad6a5e8f0f467a4026b303420a37b0b99"), looks := false }, kinds := [], alts := [], laidByText := true, laidKinds := [.data, .data, .data], laidTests := true, laidLooks := .later }
def ModelPartsUptoCardSaid : Prop := Claim7.holds Tryd.pinned (.plain (OpenSpec.upto modelPartsSpec)) modelPartsUptoCard

/-- THE SECOND FORM's CARD OF 'binnaclelaw14.ModelNamed'. -/
def modelNamedUptoCard : Claim7 := { stood := { row := modelNamedUptoRow, standIns := [], harness := (true, "05024e275d5056f79f6d3d2bf0f0f53ad6a5e8f0f467a4026b303420a37b0b99"), looks := false }, kinds := [], alts := [], laidByText := true, laidKinds := [.data, .data, .data], laidTests := true, laidLooks := .later }
def ModelNamedUptoCardSaid : Prop := Claim7.holds Tryd.pinned (.plain (OpenSpec.upto modelNamedSpec)) modelNamedUptoCard

/-- THE SECOND FORM's CARD OF 'binnaclelaw14.ModelFresh'. -/
def modelFreshUptoCard : Claim7 := { stood := { row := modelFreshUptoRow, standIns := [], harness := (true, "05024e275d5056f79f6d3d2bf0f0f53ad6a5e8f0f467a4026b303420a37b0b99"), looks := false }, kinds := [], alts := [], laidByText := true, laidKinds := [.data, .data, .data], laidTests := true, laidLooks := .later }
def ModelFreshUptoCardSaid : Prop := Claim7.holds Tryd.pinned (.plain (OpenSpec.upto modelFreshSpec)) modelFreshUptoCard
end Rows
end Go.Proofs.YtcnffgbncbadbaaDoor
