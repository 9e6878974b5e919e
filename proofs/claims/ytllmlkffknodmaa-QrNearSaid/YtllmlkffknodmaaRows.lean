/-
  No cell of these rows narrows 'for every input' (looked for: loops, veiled, ifaces, maps, wideKeys, modest, calm, conditions, laid).
  DERIVED. THE GIVEN ROWS OF THIS SEAT. 4 by the template 'for every input the law returns true; each argument reads behind the call as it read before'; 0 by the template 'total and deterministic' (their statements: YtllmlkffknodmaaTotals.lean).
  GIVEN WITH THE SEED: the statements are not yours to turn. If you find one false, say at which input.
  Laid BY PROGRAM, IN A SANDBOX (cutbox-rows.mjs): the forced cells as the released guide's own fill.sh prints them over the translation edcf6c65ea6d740c… (all of the seat's roots in one cut). By AI agents, Wed Nov 11 2026. No macro, syntax, notation, axiom, sorry.
-/
import Derived.Test.YtllmlkffknodmaaChecked
import GoSem.Claim
import GoSem.ClaimJoined
import GoSem.ClaimMapViews
import Derived.JoinedTies
import Derived.KernelRfl
namespace Go.Proofs.Ytllmlkffknodmaa
/- THE CELL 'sum', in the pinned program and in every row, IS THE sha256 OF THE DUMP (.gsa) THAT YtllmlkffknodmaaProg.lean LOADS. Nothing in Lean hashes anything: it is a label: what it is worth is what the hold of that sum in a sandbox is worth. -/
noncomputable def Try.pinned : Pinned := { name := "ytllmlkffknodmaa", sum := "edcf6c65ea6d740c422214d8d5d6b823f90cde2f5088c01f20ef8958d879e7bc", checked := Try.checked }
namespace Rows
def none {H : Type} : Left H := { results := [], args := [] }

/-- 'binnaclelaw10.QrTurned': WHATEVER THE INPUT: true; the input reads as it did. -/
def qrTurnedSpec : ChangeSpec := { name := "qrTurned", fn := fun _ => fun
  | [d1, d2] => { results := [.lit (.bool true)], args := [d1, d2] }
  | _ => none }
def qrTurnedRow : OpenClaim := { program := "ytllmlkffknodmaa", sum := "edcf6c65ea6d740c422214d8d5d6b823f90cde2f5088c01f20ef8958d879e7bc", func := "binnacle/binnaclelaw10.QrTurned", spec := "qrTurned", inPlace := ["math.Float64bits", "math.Float64frombits", "math.sqrt"], apart := false }
def QrTurnedSaid : Prop := qrTurnedRow.holds Try.pinned (OpenSpec.ofChange qrTurnedSpec)

/-- ITS FALSE NEIGHBOUR: 'it returns false'. Refute it at one input. -/
def qrTurnedWrong : ChangeSpec := { name := "qrTurned", fn := fun _ => fun
  | [d1, d2] => { results := [.lit (.bool false)], args := [d1, d2] }
  | _ => none }
def QrTurnedWrongFalsely : Prop := qrTurnedRow.holds Try.pinned (OpenSpec.ofChange qrTurnedWrong)

/-- 'binnaclelaw10.QrSame': WHATEVER THE INPUT: true; the input reads as it did. -/
def qrSameSpec : ChangeSpec := { name := "qrSame", fn := fun _ => fun
  | [d] => { results := [.lit (.bool true)], args := [d] }
  | _ => none }
def qrSameRow : OpenClaim := { program := "ytllmlkffknodmaa", sum := "edcf6c65ea6d740c422214d8d5d6b823f90cde2f5088c01f20ef8958d879e7bc", func := "binnacle/binnaclelaw10.QrSame", spec := "qrSame", inPlace := ["math.Float64bits", "math.Float64frombits", "math.sqrt"], apart := false }
def QrSameSaid : Prop := qrSameRow.holds Try.pinned (OpenSpec.ofChange qrSameSpec)

/-- ITS FALSE NEIGHBOUR: 'it returns false'. Refute it at one input. -/
def qrSameWrong : ChangeSpec := { name := "qrSame", fn := fun _ => fun
  | [d] => { results := [.lit (.bool false)], args := [d] }
  | _ => none }
def QrSameWrongFalsely : Prop := qrSameRow.holds Try.pinned (OpenSpec.ofChange qrSameWrong)

/-- 'binnaclelaw10.QrNear': WHATEVER THE INPUT: true; the input reads as it did. -/
def qrNearSpec : ChangeSpec := { name := "qrNear", fn := fun _ => fun
  | [d1, d2, d3] => { results := [.lit (.bool true)], args := [d1, d2, d3] }
  | _ => none }
def qrNearRow : OpenClaim := { program := "ytllmlkffknodmaa", sum := "edcf6c65ea6d740c422214d8d5d6b823f90cde2f5088c01f20ef8958d879e7bc", func := "binnacle/binnaclelaw10.QrNear", spec := "qrNear", inPlace := ["math.Float64bits", "math.Float64frombits", "math.sqrt", "math.archMax"], apart := false }
def QrNearSaid : Prop := qrNearRow.holds Try.pinned (OpenSpec.ofChange qrNearSpec)

/-- ITS FALSE NEIGHBOUR: 'it returns false'. Refute it at one input. -/
def qrNearWrong : ChangeSpec := { name := "qrNear", fn := fun _ => fun
  | [d1, d2, d3] => { results := [.lit (.bool false)], args := [d1, d2, d3] }
  | _ => none }
def QrNearWrongFalsely : Prop := qrNearRow.holds Try.pinned (OpenSpec.ofChange qrNearWrong)

/-- 'binnaclelaw10.QrRotates': WHATEVER THE INPUT: true; the input reads as it did. -/
def qrRotatesSpec : ChangeSpec := { name := "qrRotates", fn := fun _ => fun
  | [d1, d2, d3, d4, d5] => { results := [.lit (.bool true)], args := [d1, d2, d3, d4, d5] }
  | _ => none }
def qrRotatesRow : OpenClaim := { program := "ytllmlkffknodmaa", sum := "edcf6c65ea6d740c422214d8d5d6b823f90cde2f5088c01f20ef8958d879e7bc", func := "binnacle/binnaclelaw10.QrRotates", spec := "qrRotates", inPlace := ["math.Float64frombits", "math.Float64bits", "math.sqrt"], apart := false }
def QrRotatesSaid : Prop := qrRotatesRow.holds Try.pinned (OpenSpec.ofChange qrRotatesSpec)

/-- ITS FALSE NEIGHBOUR: 'it returns false'. Refute it at one input. -/
def qrRotatesWrong : ChangeSpec := { name := "qrRotates", fn := fun _ => fun
  | [d1, d2, d3, d4, d5] => { results := [.lit (.bool false)], args := [d1, d2, d3, d4, d5] }
  | _ => none }
def QrRotatesWrongFalsely : Prop := qrRotatesRow.holds Try.pinned (OpenSpec.ofChange qrRotatesWrong)

/- THE SECOND FORM. 'bulk': how many values and letters a reading holds, each counted each time it is reached (what is shared counts as often as it is met; a slice's spare places count too). A statement '..UptoSaid' is the law's where the arguments, and the package variables that the reading takes, are together of bulk at most 1048576: NARROWER than '..Said'. Prove '..Said' where nothing that the law and all that it calls make is longer than what came in: it says more and counts as full. Else prove '..UptoSaid'. A law counts once. -/
mutual
def uptoBulk {H : Type} : DataW H → Nat
  | .lit (.string bytes) => bytes.length + 1
  | .lit _ => 1
  | .nil => 1
  | .ptr d => uptoBulk d + 1
  | .slice elems spare => uptoBulkAll elems + uptoBulkAll spare + 1
  | .agg parts => uptoBulkAll parts + 1
  | .iface _ d => uptoBulk d + 1
  | .map entries => uptoBulkEntries entries + 1
  | .held _ => 1
def uptoBulkAll {H : Type} : List (DataW H) → Nat
  | [] => 0
  | d :: r => uptoBulk d + uptoBulkAll r
def uptoBulkEntries {H : Type} : List (Lit × DataW H) → Nat
  | [] => 0
  | x :: r => uptoBulkEntry x + uptoBulkEntries r
def uptoBulkEntry {H : Type} : Lit × DataW H → Nat
  | (.string bytes, d) => bytes.length + uptoBulk d + 1
  | (_, d) => uptoBulk d + 1
 end
def uptoSmall : (H : Type) → List (DataW H) → Bool := fun _ ds => decide (uptoBulkAll ds ≤ 1048576)
def OpenSpec.upto (s : _root_.Go.ChangeSpec) : _root_.Go.OpenSpec := { _root_.Go.OpenSpec.ofChange s with cond := some uptoSmall }

/-- 'binnaclelaw10.QrTurned', WHERE WHAT IT READS IS OF BULK AT MOST 1048576: true; the input reads as it did. -/
def qrTurnedUptoRow : OpenClaim := { program := "ytllmlkffknodmaa", sum := "edcf6c65ea6d740c422214d8d5d6b823f90cde2f5088c01f20ef8958d879e7bc", func := "binnacle/binnaclelaw10.QrTurned", spec := "qrTurned", inPlace := ["math.Float64bits", "math.Float64frombits", "math.sqrt"], apart := false, narrowed := true }
def QrTurnedUptoSaid : Prop := qrTurnedUptoRow.holds Try.pinned (OpenSpec.upto qrTurnedSpec)

/-- 'binnaclelaw10.QrSame', WHERE WHAT IT READS IS OF BULK AT MOST 1048576: true; the input reads as it did. -/
def qrSameUptoRow : OpenClaim := { program := "ytllmlkffknodmaa", sum := "edcf6c65ea6d740c422214d8d5d6b823f90cde2f5088c01f20ef8958d879e7bc", func := "binnacle/binnaclelaw10.QrSame", spec := "qrSame", inPlace := ["math.Float64bits", "math.Float64frombits", "math.sqrt"], apart := false, narrowed := true }
def QrSameUptoSaid : Prop := qrSameUptoRow.holds Try.pinned (OpenSpec.upto qrSameSpec)

/-- 'binnaclelaw10.QrNear', WHERE WHAT IT READS IS OF BULK AT MOST 1048576: true; the input reads as it did. -/
def qrNearUptoRow : OpenClaim := { program := "ytllmlkffknodmaa", sum := "edcf6c65ea6d740c422214d8d5d6b823f90cde2f5088c01f20ef8958d879e7bc", func := "binnacle/binnaclelaw10.QrNear", spec := "qrNear", inPlace := ["math.Float64bits", "math.Float64frombits", "math.sqrt", "math.archMax"], apart := false, narrowed := true }
def QrNearUptoSaid : Prop := qrNearUptoRow.holds Try.pinned (OpenSpec.upto qrNearSpec)

/-- 'binnaclelaw10.QrRotates', WHERE WHAT IT READS IS OF BULK AT MOST 1048576: true; the input reads as it did. -/
def qrRotatesUptoRow : OpenClaim := { program := "ytllmlkffknodmaa", sum := "edcf6c65ea6d740c422214d8d5d6b823f90cde2f5088c01f20ef8958d879e7bc", func := "binnacle/binnaclelaw10.QrRotates", spec := "qrRotates", inPlace := ["math.Float64frombits", "math.Float64bits", "math.sqrt"], apart := false, narrowed := true }
def QrRotatesUptoSaid : Prop := qrRotatesUptoRow.holds Try.pinned (OpenSpec.upto qrRotatesSpec)

end Rows
end Go.Proofs.Ytllmlkffknodmaa
