/-
  No cell of these rows narrows 'for every input' (looked for: loops, veiled, ifaces, maps, wideKeys, modest, calm, conditions, laid).
  DERIVED. THE GIVEN ROWS OF THIS SEAT. 13 by the template 'for every input the law returns true; each argument reads behind the call as it read before'; 0 by the template 'total and deterministic' (their statements: YtdnemaecalghbaaTotals.lean).
  GIVEN WITH THE SEED: the statements are not yours to turn. If you find one false, say at which input.
  Laid BY PROGRAM, IN A SANDBOX (cutbox-rows.mjs): the forced cells as the released guide's own fill.sh prints them over the translation 65d4252529bce29c… (all of the seat's roots in one cut). By AI agents, Wed Nov 11 2026. No macro, syntax, notation, axiom, sorry.
-/
import Derived.Test.YtdnemaecalghbaaChecked
import GoSem.Claim
import GoSem.ClaimJoined
import GoSem.ClaimMapViews
import Derived.JoinedTies
import Derived.KernelRfl
namespace Go.Proofs.Ytdnemaecalghbaa
/- THE CELL 'sum', in the pinned program and in every row, IS THE sha256 OF THE DUMP (.gsa) THAT YtdnemaecalghbaaProg.lean LOADS. Nothing in Lean hashes anything: it is a label: what it is worth is what the hold of that sum in a sandbox is worth. -/
noncomputable def Try.pinned : Pinned := { name := "ytdnemaecalghbaa", sum := "65d4252529bce29c75077f2cafbed9e0ec2a010012e1f00e23007f9c945245c8", checked := Try.checked }
namespace Rows
def none {H : Type} : Left H := { results := [], args := [] }

/-- 'binnaclelaw08.MatrixTurned': WHATEVER THE INPUT: true; the input reads as it did. -/
def matrixTurnedSpec : ChangeSpec := { name := "matrixTurned", fn := fun _ => fun
  | [d1, d2] => { results := [.lit (.bool true)], args := [d1, d2] }
  | _ => none }
def matrixTurnedRow : OpenClaim := { program := "ytdnemaecalghbaa", sum := "65d4252529bce29c75077f2cafbed9e0ec2a010012e1f00e23007f9c945245c8", func := "binnacle/binnaclelaw08.MatrixTurned", spec := "matrixTurned", inPlace := ["math.Float64bits", "math.Float64frombits"], unfollowed := true, recurses := true, apart := false }
def MatrixTurnedSaid : Prop := matrixTurnedRow.holds Try.pinned (OpenSpec.ofChange matrixTurnedSpec)

/-- ITS FALSE NEIGHBOUR: 'it returns false'. Refute it at one input. -/
def matrixTurnedWrong : ChangeSpec := { name := "matrixTurned", fn := fun _ => fun
  | [d1, d2] => { results := [.lit (.bool false)], args := [d1, d2] }
  | _ => none }
def MatrixTurnedWrongFalsely : Prop := matrixTurnedRow.holds Try.pinned (OpenSpec.ofChange matrixTurnedWrong)

/-- 'binnaclelaw08.MatrixSymmetric': WHATEVER THE INPUT: true; the input reads as it did. -/
def matrixSymmetricSpec : ChangeSpec := { name := "matrixSymmetric", fn := fun _ => fun
  | [d1, d2] => { results := [.lit (.bool true)], args := [d1, d2] }
  | _ => none }
def matrixSymmetricRow : OpenClaim := { program := "ytdnemaecalghbaa", sum := "65d4252529bce29c75077f2cafbed9e0ec2a010012e1f00e23007f9c945245c8", func := "binnacle/binnaclelaw08.MatrixSymmetric", spec := "matrixSymmetric", inPlace := ["math.Float64bits", "math.Float64frombits"], unfollowed := true, recurses := true, apart := false }
def MatrixSymmetricSaid : Prop := matrixSymmetricRow.holds Try.pinned (OpenSpec.ofChange matrixSymmetricSpec)

/-- ITS FALSE NEIGHBOUR: 'it returns false'. Refute it at one input. -/
def matrixSymmetricWrong : ChangeSpec := { name := "matrixSymmetric", fn := fun _ => fun
  | [d1, d2] => { results := [.lit (.bool false)], args := [d1, d2] }
  | _ => none }
def MatrixSymmetricWrongFalsely : Prop := matrixSymmetricRow.holds Try.pinned (OpenSpec.ofChange matrixSymmetricWrong)

/-- 'binnaclelaw08.MatrixProducts': WHATEVER THE INPUT: true; the input reads as it did. -/
def matrixProductsSpec : ChangeSpec := { name := "matrixProducts", fn := fun _ => fun
  | [d1, d2, d3] => { results := [.lit (.bool true)], args := [d1, d2, d3] }
  | _ => none }
def matrixProductsRow : OpenClaim := { program := "ytdnemaecalghbaa", sum := "65d4252529bce29c75077f2cafbed9e0ec2a010012e1f00e23007f9c945245c8", func := "binnacle/binnaclelaw08.MatrixProducts", spec := "matrixProducts", inPlace := ["math.Float64frombits", "math.Float64bits"], unfollowed := true, recurses := true, apart := false }
def MatrixProductsSaid : Prop := matrixProductsRow.holds Try.pinned (OpenSpec.ofChange matrixProductsSpec)

/-- ITS FALSE NEIGHBOUR: 'it returns false'. Refute it at one input. -/
def matrixProductsWrong : ChangeSpec := { name := "matrixProducts", fn := fun _ => fun
  | [d1, d2, d3] => { results := [.lit (.bool false)], args := [d1, d2, d3] }
  | _ => none }
def MatrixProductsWrongFalsely : Prop := matrixProductsRow.holds Try.pinned (OpenSpec.ofChange matrixProductsWrong)

/-- 'binnaclelaw08.MatrixOne': WHATEVER THE INPUT: true; the input reads as it did. -/
def matrixOneSpec : ChangeSpec := { name := "matrixOne", fn := fun _ => fun
  | [d] => { results := [.lit (.bool true)], args := [d] }
  | _ => none }
def matrixOneRow : OpenClaim := { program := "ytdnemaecalghbaa", sum := "65d4252529bce29c75077f2cafbed9e0ec2a010012e1f00e23007f9c945245c8", func := "binnacle/binnaclelaw08.MatrixOne", spec := "matrixOne", inPlace := ["math.Float64bits", "math.Float64frombits"], unfollowed := true, recurses := true, apart := false }
def MatrixOneSaid : Prop := matrixOneRow.holds Try.pinned (OpenSpec.ofChange matrixOneSpec)

/-- ITS FALSE NEIGHBOUR: 'it returns false'. Refute it at one input. -/
def matrixOneWrong : ChangeSpec := { name := "matrixOne", fn := fun _ => fun
  | [d] => { results := [.lit (.bool false)], args := [d] }
  | _ => none }
def MatrixOneWrongFalsely : Prop := matrixOneRow.holds Try.pinned (OpenSpec.ofChange matrixOneWrong)

/-- 'binnaclelaw08.MatrixPlaces': WHATEVER THE INPUT: true; the input reads as it did. -/
def matrixPlacesSpec : ChangeSpec := { name := "matrixPlaces", fn := fun _ => fun
  | [d1, d2, d3, d4] => { results := [.lit (.bool true)], args := [d1, d2, d3, d4] }
  | _ => none }
def matrixPlacesRow : OpenClaim := { program := "ytdnemaecalghbaa", sum := "65d4252529bce29c75077f2cafbed9e0ec2a010012e1f00e23007f9c945245c8", func := "binnacle/binnaclelaw08.MatrixPlaces", spec := "matrixPlaces", inPlace := ["math.Float64frombits", "math.Float64bits"], unfollowed := true, recurses := true, apart := false }
def MatrixPlacesSaid : Prop := matrixPlacesRow.holds Try.pinned (OpenSpec.ofChange matrixPlacesSpec)

/-- ITS FALSE NEIGHBOUR: 'it returns false'. Refute it at one input. -/
def matrixPlacesWrong : ChangeSpec := { name := "matrixPlaces", fn := fun _ => fun
  | [d1, d2, d3, d4] => { results := [.lit (.bool false)], args := [d1, d2, d3, d4] }
  | _ => none }
def MatrixPlacesWrongFalsely : Prop := matrixPlacesRow.holds Try.pinned (OpenSpec.ofChange matrixPlacesWrong)

/-- 'binnaclelaw08.MatrixSums': WHATEVER THE INPUT: true; the input reads as it did. -/
def matrixSumsSpec : ChangeSpec := { name := "matrixSums", fn := fun _ => fun
  | [d1, d2, d3, d4, d5] => { results := [.lit (.bool true)], args := [d1, d2, d3, d4, d5] }
  | _ => none }
def matrixSumsRow : OpenClaim := { program := "ytdnemaecalghbaa", sum := "65d4252529bce29c75077f2cafbed9e0ec2a010012e1f00e23007f9c945245c8", func := "binnacle/binnaclelaw08.MatrixSums", spec := "matrixSums", inPlace := ["math.Float64frombits", "math.Float64bits"], unfollowed := true, recurses := true, apart := false }
def MatrixSumsSaid : Prop := matrixSumsRow.holds Try.pinned (OpenSpec.ofChange matrixSumsSpec)

/-- ITS FALSE NEIGHBOUR: 'it returns false'. Refute it at one input. -/
def matrixSumsWrong : ChangeSpec := { name := "matrixSums", fn := fun _ => fun
  | [d1, d2, d3, d4, d5] => { results := [.lit (.bool false)], args := [d1, d2, d3, d4, d5] }
  | _ => none }
def MatrixSumsWrongFalsely : Prop := matrixSumsRow.holds Try.pinned (OpenSpec.ofChange matrixSumsWrong)

/-- 'binnaclelaw08.MatrixMakes': WHATEVER THE INPUT: true; the input reads as it did. -/
def matrixMakesSpec : ChangeSpec := { name := "matrixMakes", fn := fun _ => fun
  | [d1, d2, d3, d4, d5] => { results := [.lit (.bool true)], args := [d1, d2, d3, d4, d5] }
  | _ => none }
def matrixMakesRow : OpenClaim := { program := "ytdnemaecalghbaa", sum := "65d4252529bce29c75077f2cafbed9e0ec2a010012e1f00e23007f9c945245c8", func := "binnacle/binnaclelaw08.MatrixMakes", spec := "matrixMakes", inPlace := ["math.Float64frombits", "math.Float64bits"], unfollowed := true, recurses := true, apart := false }
def MatrixMakesSaid : Prop := matrixMakesRow.holds Try.pinned (OpenSpec.ofChange matrixMakesSpec)

/-- ITS FALSE NEIGHBOUR: 'it returns false'. Refute it at one input. -/
def matrixMakesWrong : ChangeSpec := { name := "matrixMakes", fn := fun _ => fun
  | [d1, d2, d3, d4, d5] => { results := [.lit (.bool false)], args := [d1, d2, d3, d4, d5] }
  | _ => none }
def MatrixMakesWrongFalsely : Prop := matrixMakesRow.holds Try.pinned (OpenSpec.ofChange matrixMakesWrong)

/-- 'binnaclelaw08.MatrixNear': WHATEVER THE INPUT: true; the input reads as it did. -/
def matrixNearSpec : ChangeSpec := { name := "matrixNear", fn := fun _ => fun
  | [d1, d2, d3] => { results := [.lit (.bool true)], args := [d1, d2, d3] }
  | _ => none }
def matrixNearRow : OpenClaim := { program := "ytdnemaecalghbaa", sum := "65d4252529bce29c75077f2cafbed9e0ec2a010012e1f00e23007f9c945245c8", func := "binnacle/binnaclelaw08.MatrixNear", spec := "matrixNear", inPlace := ["math.Float64bits", "math.Float64frombits"], unfollowed := true, recurses := true, apart := false }
def MatrixNearSaid : Prop := matrixNearRow.holds Try.pinned (OpenSpec.ofChange matrixNearSpec)

/-- ITS FALSE NEIGHBOUR: 'it returns false'. Refute it at one input. -/
def matrixNearWrong : ChangeSpec := { name := "matrixNear", fn := fun _ => fun
  | [d1, d2, d3] => { results := [.lit (.bool false)], args := [d1, d2, d3] }
  | _ => none }
def MatrixNearWrongFalsely : Prop := matrixNearRow.holds Try.pinned (OpenSpec.ofChange matrixNearWrong)

/-- 'binnaclelaw08.MatrixBlocks': WHATEVER THE INPUT: true; the input reads as it did. -/
def matrixBlocksSpec : ChangeSpec := { name := "matrixBlocks", fn := fun _ => fun
  | [d1, d2, d3, d4, d5] => { results := [.lit (.bool true)], args := [d1, d2, d3, d4, d5] }
  | _ => none }
def matrixBlocksRow : OpenClaim := { program := "ytdnemaecalghbaa", sum := "65d4252529bce29c75077f2cafbed9e0ec2a010012e1f00e23007f9c945245c8", func := "binnacle/binnaclelaw08.MatrixBlocks", spec := "matrixBlocks", inPlace := ["math.Float64bits", "math.Float64frombits"], unfollowed := true, recurses := true, apart := false }
def MatrixBlocksSaid : Prop := matrixBlocksRow.holds Try.pinned (OpenSpec.ofChange matrixBlocksSpec)

/-- ITS FALSE NEIGHBOUR: 'it returns false'. Refute it at one input. -/
def matrixBlocksWrong : ChangeSpec := { name := "matrixBlocks", fn := fun _ => fun
  | [d1, d2, d3, d4, d5] => { results := [.lit (.bool false)], args := [d1, d2, d3, d4, d5] }
  | _ => none }
def MatrixBlocksWrongFalsely : Prop := matrixBlocksRow.holds Try.pinned (OpenSpec.ofChange matrixBlocksWrong)

/-- 'binnaclelaw08.MatrixParts': WHATEVER THE INPUT: true; the input reads as it did. -/
def matrixPartsSpec : ChangeSpec := { name := "matrixParts", fn := fun _ => fun
  | [d1, d2, d3, d4, d5, d6, d7] => { results := [.lit (.bool true)], args := [d1, d2, d3, d4, d5, d6, d7] }
  | _ => none }
def matrixPartsRow : OpenClaim := { program := "ytdnemaecalghbaa", sum := "65d4252529bce29c75077f2cafbed9e0ec2a010012e1f00e23007f9c945245c8", func := "binnacle/binnaclelaw08.MatrixParts", spec := "matrixParts", inPlace := ["math.Float64frombits", "math.Float64bits"], unfollowed := true, recurses := true, apart := false }
def MatrixPartsSaid : Prop := matrixPartsRow.holds Try.pinned (OpenSpec.ofChange matrixPartsSpec)

/-- ITS FALSE NEIGHBOUR: 'it returns false'. Refute it at one input. -/
def matrixPartsWrong : ChangeSpec := { name := "matrixParts", fn := fun _ => fun
  | [d1, d2, d3, d4, d5, d6, d7] => { results := [.lit (.bool false)], args := [d1, d2, d3, d4, d5, d6, d7] }
  | _ => none }
def MatrixPartsWrongFalsely : Prop := matrixPartsRow.holds Try.pinned (OpenSpec.ofChange matrixPartsWrong)

/-- 'binnaclelaw08.MatrixKinds': WHATEVER THE INPUT: true; the input reads as it did. -/
def matrixKindsSpec : ChangeSpec := { name := "matrixKinds", fn := fun _ => fun
  | [d1, d2] => { results := [.lit (.bool true)], args := [d1, d2] }
  | _ => none }
def matrixKindsRow : OpenClaim := { program := "ytdnemaecalghbaa", sum := "65d4252529bce29c75077f2cafbed9e0ec2a010012e1f00e23007f9c945245c8", func := "binnacle/binnaclelaw08.MatrixKinds", spec := "matrixKinds", inPlace := ["math.Float64frombits", "math.Float64bits"], unfollowed := true, recurses := true, apart := false }
def MatrixKindsSaid : Prop := matrixKindsRow.holds Try.pinned (OpenSpec.ofChange matrixKindsSpec)

/-- ITS FALSE NEIGHBOUR: 'it returns false'. Refute it at one input. -/
def matrixKindsWrong : ChangeSpec := { name := "matrixKinds", fn := fun _ => fun
  | [d1, d2] => { results := [.lit (.bool false)], args := [d1, d2] }
  | _ => none }
def MatrixKindsWrongFalsely : Prop := matrixKindsRow.holds Try.pinned (OpenSpec.ofChange matrixKindsWrong)

/-- 'binnaclelaw08.MatrixTwos': WHATEVER THE INPUT: true; the input reads as it did. -/
def matrixTwosSpec : ChangeSpec := { name := "matrixTwos", fn := fun _ => fun
  | [d1, d2] => { results := [.lit (.bool true)], args := [d1, d2] }
  | _ => none }
def matrixTwosRow : OpenClaim := { program := "ytdnemaecalghbaa", sum := "65d4252529bce29c75077f2cafbed9e0ec2a010012e1f00e23007f9c945245c8", func := "binnacle/binnaclelaw08.MatrixTwos", spec := "matrixTwos", inPlace := ["math.Float64bits", "math.Float64frombits"], unfollowed := true, recurses := true, apart := false }
def MatrixTwosSaid : Prop := matrixTwosRow.holds Try.pinned (OpenSpec.ofChange matrixTwosSpec)

/-- ITS FALSE NEIGHBOUR: 'it returns false'. Refute it at one input. -/
def matrixTwosWrong : ChangeSpec := { name := "matrixTwos", fn := fun _ => fun
  | [d1, d2] => { results := [.lit (.bool false)], args := [d1, d2] }
  | _ => none }
def MatrixTwosWrongFalsely : Prop := matrixTwosRow.holds Try.pinned (OpenSpec.ofChange matrixTwosWrong)

/-- 'binnaclelaw08.MatrixFresh': WHATEVER THE INPUT: true; the input reads as it did. -/
def matrixFreshSpec : ChangeSpec := { name := "matrixFresh", fn := fun _ => fun
  | [d1, d2, d3, d4, d5, d6, d7, d8, d9] => { results := [.lit (.bool true)], args := [d1, d2, d3, d4, d5, d6, d7, d8, d9] }
  | _ => none }
def matrixFreshRow : OpenClaim := { program := "ytdnemaecalghbaa", sum := "65d4252529bce29c75077f2cafbed9e0ec2a010012e1f00e23007f9c945245c8", func := "binnacle/binnaclelaw08.MatrixFresh", spec := "matrixFresh", inPlace := ["math.Float64frombits", "math.Float64bits"], unfollowed := true, recurses := true, apart := false }
def MatrixFreshSaid : Prop := matrixFreshRow.holds Try.pinned (OpenSpec.ofChange matrixFreshSpec)

/-- ITS FALSE NEIGHBOUR: 'it returns false'. Refute it at one input. -/
def matrixFreshWrong : ChangeSpec := { name := "matrixFresh", fn := fun _ => fun
  | [d1, d2, d3, d4, d5, d6, d7, d8, d9] => { results := [.lit (.bool false)], args := [d1, d2, d3, d4, d5, d6, d7, d8, d9] }
  | _ => none }
def MatrixFreshWrongFalsely : Prop := matrixFreshRow.holds Try.pinned (OpenSpec.ofChange matrixFreshWrong)

/- THE SECOND FORM. 'bulk': how many values and letters a reading holds, each counted each time it is reached (what is shared counts as often as it is met; a slice's spare places count too). A statement '..UptoSaid' is the law's where the arguments, and the package variables that the reading takes, are together of bulk at most 1048576: NARROWER than '..Said'. Prove '..Said' where nothing that the law and all that it calls make is longer than what came in: it says more and counts as full. Else prove '..UptoSaid'. A law counts once. -/
mutual
def uptoBulk {H : Type} : DataW H → Nat
  | .lit (.string bytes) => bytes.length + 1
  | .lit _ => 1
  | .nil => 1
  | .ptr d => uptoBulk d + 1
  | .slice elems spare => uptoBulkAll elems + uptoBulkAll spare + 1
  | .agg parts => uptoBulkAll parts + 1
  | .iface _ d => uptoBulk d + 1
  | .map entries => uptoBulkEntries entries + 1
  | .held _ => 1
def uptoBulkAll {H : Type} : List (DataW H) → Nat
  | [] => 0
  | d :: r => uptoBulk d + uptoBulkAll r
def uptoBulkEntries {H : Type} : List (Lit × DataW H) → Nat
  | [] => 0
  | x :: r => uptoBulkEntry x + uptoBulkEntries r
def uptoBulkEntry {H : Type} : Lit × DataW H → Nat
  | (.string bytes, d) => bytes.length + uptoBulk d + 1
  | (_, d) => uptoBulk d + 1
 end
def uptoSmall : (H : Type) → List (DataW H) → Bool := fun _ ds => decide (uptoBulkAll ds ≤ 1048576)
def OpenSpec.upto (s : _root_.Go.ChangeSpec) : _root_.Go.OpenSpec := { _root_.Go.OpenSpec.ofChange s with cond := some uptoSmall }

/-- 'binnaclelaw08.MatrixTurned', WHERE WHAT IT READS IS OF BULK AT MOST 1048576: true; the input reads as it did. -/
def matrixTurnedUptoRow : OpenClaim := { program := "ytdnemaecalghbaa", sum := "65d4252529bce29c75077f2cafbed9e0ec2a010012e1f00e23007f9c945245c8", func := "binnacle/binnaclelaw08.MatrixTurned", spec := "matrixTurned", inPlace := ["math.Float64bits", "math.Float64frombits"], unfollowed := true, recurses := true, apart := false, narrowed := true }
def MatrixTurnedUptoSaid : Prop := matrixTurnedUptoRow.holds Try.pinned (OpenSpec.upto matrixTurnedSpec)

/-- 'binnaclelaw08.MatrixSymmetric', WHERE WHAT IT READS IS OF BULK AT MOST 1048576: true; the input reads as it did. -/
def matrixSymmetricUptoRow : OpenClaim := { program := "ytdnemaecalghbaa", sum := "65d4252529bce29c75077f2cafbed9e0ec2a010012e1f00e23007f9c945245c8", func := "binnacle/binnaclelaw08.MatrixSymmetric", spec := "matrixSymmetric", inPlace := ["math.Float64bits", "math.Float64frombits"], unfollowed := true, recurses := true, apart := false, narrowed := true }
def MatrixSymmetricUptoSaid : Prop := matrixSymmetricUptoRow.holds Try.pinned (OpenSpec.upto matrixSymmetricSpec)

/-- 'binnaclelaw08.MatrixProducts', WHERE WHAT IT READS IS OF BULK AT MOST 1048576: true; the input reads as it did. -/
def matrixProductsUptoRow : OpenClaim := { program := "ytdnemaecalghbaa", sum := "65d4252529bce29c75077f2cafbed9e0ec2a010012e1f00e23007f9c945245c8", func := "binnacle/binnaclelaw08.MatrixProducts", spec := "matrixProducts", inPlace := ["math.Float64frombits", "math.Float64bits"], unfollowed := true, recurses := true, apart := false, narrowed := true }
def MatrixProductsUptoSaid : Prop := matrixProductsUptoRow.holds Try.pinned (OpenSpec.upto matrixProductsSpec)

/-- 'binnaclelaw08.MatrixOne', WHERE WHAT IT READS IS OF BULK AT MOST 1048576: true; the input reads as it did. -/
def matrixOneUptoRow : OpenClaim := { program := "ytdnemaecalghbaa", sum := "65d4252529bce29c75077f2cafbed9e0ec2a010012e1f00e23007f9c945245c8", func := "binnacle/binnaclelaw08.MatrixOne", spec := "matrixOne", inPlace := ["math.Float64bits", "math.Float64frombits"], unfollowed := true, recurses := true, apart := false, narrowed := true }
def MatrixOneUptoSaid : Prop := matrixOneUptoRow.holds Try.pinned (OpenSpec.upto matrixOneSpec)

/-- 'binnaclelaw08.MatrixPlaces', WHERE WHAT IT READS IS OF BULK AT MOST 1048576: true; the input reads as it did. -/
def matrixPlacesUptoRow : OpenClaim := { program := "ytdnemaecalghbaa", sum := "65d4252529bce29c75077f2cafbed9e0ec2a010012e1f00e23007f9c945245c8", func := "binnacle/binnaclelaw08.MatrixPlaces", spec := "matrixPlaces", inPlace := ["math.Float64frombits", "math.Float64bits"], unfollowed := true, recurses := true, apart := false, narrowed := true }
def MatrixPlacesUptoSaid : Prop := matrixPlacesUptoRow.holds Try.pinned (OpenSpec.upto matrixPlacesSpec)

/-- 'binnaclelaw08.MatrixSums', WHERE WHAT IT READS IS OF BULK AT MOST 1048576: true; the input reads as it did. -/
def matrixSumsUptoRow : OpenClaim := { program := "ytdnemaecalghbaa", sum := "65d4252529bce29c75077f2cafbed9e0ec2a010012e1f00e23007f9c945245c8", func := "binnacle/binnaclelaw08.MatrixSums", spec := "matrixSums", inPlace := ["math.Float64frombits", "math.Float64bits"], unfollowed := true, recurses := true, apart := false, narrowed := true }
def MatrixSumsUptoSaid : Prop := matrixSumsUptoRow.holds Try.pinned (OpenSpec.upto matrixSumsSpec)

/-- 'binnaclelaw08.MatrixMakes', WHERE WHAT IT READS IS OF BULK AT MOST 1048576: true; the input reads as it did. -/
def matrixMakesUptoRow : OpenClaim := { program := "ytdnemaecalghbaa", sum := "65d4252529bce29c75077f2cafbed9e0ec2a010012e1f00e23007f9c945245c8", func := "binnacle/binnaclelaw08.MatrixMakes", spec := "matrixMakes", inPlace := ["math.Float64frombits", "math.Float64bits"], unfollowed := true, recurses := true, apart := false, narrowed := true }
def MatrixMakesUptoSaid : Prop := matrixMakesUptoRow.holds Try.pinned (OpenSpec.upto matrixMakesSpec)

/-- 'binnaclelaw08.MatrixNear', WHERE WHAT IT READS IS OF BULK AT MOST 1048576: true; the input reads as it did. -/
def matrixNearUptoRow : OpenClaim := { program := "ytdnemaecalghbaa", sum := "65d4252529bce29c75077f2cafbed9e0ec2a010012e1f00e23007f9c945245c8", func := "binnacle/binnaclelaw08.MatrixNear", spec := "matrixNear", inPlace := ["math.Float64bits", "math.Float64frombits"], unfollowed := true, recurses := true, apart := false, narrowed := true }
def MatrixNearUptoSaid : Prop := matrixNearUptoRow.holds Try.pinned (OpenSpec.upto matrixNearSpec)

/-- 'binnaclelaw08.MatrixBlocks', WHERE WHAT IT READS IS OF BULK AT MOST 1048576: true; the input reads as it did. -/
def matrixBlocksUptoRow : OpenClaim := { program := "ytdnemaecalghbaa", sum := "65d4252529bce29c75077f2cafbed9e0ec2a010012e1f00e23007f9c945245c8", func := "binnacle/binnaclelaw08.MatrixBlocks", spec := "matrixBlocks", inPlace := ["math.Float64bits", "math.Float64frombits"], unfollowed := true, recurses := true, apart := false, narrowed := true }
def MatrixBlocksUptoSaid : Prop := matrixBlocksUptoRow.holds Try.pinned (OpenSpec.upto matrixBlocksSpec)

/-- 'binnaclelaw08.MatrixParts', WHERE WHAT IT READS IS OF BULK AT MOST 1048576: true; the input reads as it did. -/
def matrixPartsUptoRow : OpenClaim := { program := "ytdnemaecalghbaa", sum := "65d4252529bce29c75077f2cafbed9e0ec2a010012e1f00e23007f9c945245c8", func := "binnacle/binnaclelaw08.MatrixParts", spec := "matrixParts", inPlace := ["math.Float64frombits", "math.Float64bits"], unfollowed := true, recurses := true, apart := false, narrowed := true }
def MatrixPartsUptoSaid : Prop := matrixPartsUptoRow.holds Try.pinned (OpenSpec.upto matrixPartsSpec)

/-- 'binnaclelaw08.MatrixKinds', WHERE WHAT IT READS IS OF BULK AT MOST 1048576: true; the input reads as it did. -/
def matrixKindsUptoRow : OpenClaim := { program := "ytdnemaecalghbaa", sum := "65d4252529bce29c75077f2cafbed9e0ec2a010012e1f00e23007f9c945245c8", func := "binnacle/binnaclelaw08.MatrixKinds", spec := "matrixKinds", inPlace := ["math.Float64frombits", "math.Float64bits"], unfollowed := true, recurses := true, apart := false, narrowed := true }
def MatrixKindsUptoSaid : Prop := matrixKindsUptoRow.holds Try.pinned (OpenSpec.upto matrixKindsSpec)

/-- 'binnaclelaw08.MatrixTwos', WHERE WHAT IT READS IS OF BULK AT MOST 1048576: true; the input reads as it did. -/
def matrixTwosUptoRow : OpenClaim := { program := "ytdnemaecalghbaa", sum := "65d4252529bce29c75077f2cafbed9e0ec2a010012e1f00e23007f9c945245c8", func := "binnacle/binnaclelaw08.MatrixTwos", spec := "matrixTwos", inPlace := ["math.Float64bits", "math.Float64frombits"], unfollowed := true, recurses := true, apart := false, narrowed := true }
def MatrixTwosUptoSaid : Prop := matrixTwosUptoRow.holds Try.pinned (OpenSpec.upto matrixTwosSpec)

/-- 'binnaclelaw08.MatrixFresh', WHERE WHAT IT READS IS OF BULK AT MOST 1048576: true; the input reads as it did. -/
def matrixFreshUptoRow : OpenClaim := { program := "ytdnemaecalghbaa", sum := "65d4252529bce29c75077f2cafbed9e0ec2a010012e1f00e23007f9c945245c8", func := "binnacle/binnaclelaw08.MatrixFresh", spec := "matrixFresh", inPlace := ["math.Float64frombits", "math.Float64bits"], unfollowed := true, recurses := true, apart := false, narrowed := true }
def MatrixFreshUptoSaid : Prop := matrixFreshUptoRow.holds Try.pinned (OpenSpec.upto matrixFreshSpec)

end Rows
end Go.Proofs.Ytdnemaecalghbaa
