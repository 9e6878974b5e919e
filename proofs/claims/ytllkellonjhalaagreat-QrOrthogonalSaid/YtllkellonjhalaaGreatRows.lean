/-
  No cell of these rows narrows 'for every input' (looked for: loops, veiled, ifaces, maps, wideKeys, modest, calm, conditions, laid).
  DERIVED. THE GIVEN ROWS OF THIS SEAT. 3 by the template 'for every input the law returns true; each argument reads behind the call as it read before'; 0 by the template 'total and deterministic' (their statements: YtllkellonjhalaaGreatTotals.lean).
  GIVEN WITH THE SEED: the statements are not yours to turn. If you find one false, say at which input.
  Laid BY PROGRAM, IN A SANDBOX (cutbox-rows.mjs): the forced cells as the released guide's own fill.sh prints them over the translation 42c283c7f6c85b22… (all of the seat's roots in one cut). By AI agents, Wed Nov 11 2026. No macro, syntax, notation, axiom, sorry.
-/
import Derived.Test.YtllkellonjhalaaGreatChecked
import GoSem.Claim
import GoSem.ClaimJoined
import GoSem.ClaimMapViews
import Derived.JoinedTies
import Derived.KernelRfl
namespace Go.Proofs.YtllkellonjhalaaGreat
/- THE CELL 'sum', in the pinned program and in every row, IS THE sha256 OF THE DUMP (.gsa) THAT YtllkellonjhalaaGreatProg.lean LOADS. Nothing in Lean hashes anything: it is a label: what it is worth is what the hold of that sum in a sandbox is worth. -/
noncomputable def Tryz.pinned : Pinned := { name := "ytllkellonjhalaagreat", sum := "42c283c7f6c85b22c3ce9ae90246c6eb7775dfc453116460d704843083547e2c", checked := Tryz.checked }
namespace Rows
def none {H : Type} : Left H := { results := [], args := [] }

/-- 'binnaclelaw10.QrRoot': WHATEVER THE INPUT: true; the input reads as it did. -/
def qrRootSpec : ChangeSpec := { name := "qrRoot", fn := fun _ => fun
  | [d] => { results := [.lit (.bool true)], args := [d] }
  | _ => none }
def qrRootRow : OpenClaim := { program := "ytllkellonjhalaagreat", sum := "42c283c7f6c85b22c3ce9ae90246c6eb7775dfc453116460d704843083547e2c", func := "binnacle/binnaclelaw10.QrRoot", spec := "qrRoot", inPlace := ["math.Float64bits", "math.Float64frombits", "math.sqrt"], apart := false }
def QrRootSaid : Prop := qrRootRow.holds Tryz.pinned (OpenSpec.ofChange qrRootSpec)

/-- ITS FALSE NEIGHBOUR: 'it returns false'. Refute it at one input. -/
def qrRootWrong : ChangeSpec := { name := "qrRoot", fn := fun _ => fun
  | [d] => { results := [.lit (.bool false)], args := [d] }
  | _ => none }
def QrRootWrongFalsely : Prop := qrRootRow.holds Tryz.pinned (OpenSpec.ofChange qrRootWrong)

/-- 'binnaclelaw10.QrOrthogonal': WHATEVER THE INPUT: true; the input reads as it did. -/
def qrOrthogonalSpec : ChangeSpec := { name := "qrOrthogonal", fn := fun _ => fun
  | [d] => { results := [.lit (.bool true)], args := [d] }
  | _ => none }
def qrOrthogonalRow : OpenClaim := { program := "ytllkellonjhalaagreat", sum := "42c283c7f6c85b22c3ce9ae90246c6eb7775dfc453116460d704843083547e2c", func := "binnacle/binnaclelaw10.QrOrthogonal", spec := "qrOrthogonal", inPlace := ["math.Float64bits", "math.Float64frombits", "math.sqrt"], apart := false }
def QrOrthogonalSaid : Prop := qrOrthogonalRow.holds Tryz.pinned (OpenSpec.ofChange qrOrthogonalSpec)

/-- ITS FALSE NEIGHBOUR: 'it returns false'. Refute it at one input. -/
def qrOrthogonalWrong : ChangeSpec := { name := "qrOrthogonal", fn := fun _ => fun
  | [d] => { results := [.lit (.bool false)], args := [d] }
  | _ => none }
def QrOrthogonalWrongFalsely : Prop := qrOrthogonalRow.holds Tryz.pinned (OpenSpec.ofChange qrOrthogonalWrong)

/-- 'binnaclelaw10.QrSplits': WHATEVER THE INPUT: true; the input reads as it did. -/
def qrSplitsSpec : ChangeSpec := { name := "qrSplits", fn := fun _ => fun
  | [d1, d2] => { results := [.lit (.bool true)], args := [d1, d2] }
  | _ => none }
def qrSplitsRow : OpenClaim := { program := "ytllkellonjhalaagreat", sum := "42c283c7f6c85b22c3ce9ae90246c6eb7775dfc453116460d704843083547e2c", func := "binnacle/binnaclelaw10.QrSplits", spec := "qrSplits", inPlace := ["math.Float64frombits", "math.Float64bits", "math.sqrt"], apart := false }
def QrSplitsSaid : Prop := qrSplitsRow.holds Tryz.pinned (OpenSpec.ofChange qrSplitsSpec)

/-- ITS FALSE NEIGHBOUR: 'it returns false'. Refute it at one input. -/
def qrSplitsWrong : ChangeSpec := { name := "qrSplits", fn := fun _ => fun
  | [d1, d2] => { results := [.lit (.bool false)], args := [d1, d2] }
  | _ => none }
def QrSplitsWrongFalsely : Prop := qrSplitsRow.holds Tryz.pinned (OpenSpec.ofChange qrSplitsWrong)

/- THE SECOND FORM. 'bulk': how many values and letters a reading holds, each counted each time it is reached (what is shared counts as often as it is met; a slice's spare places count too). A statement '..UptoSaid' is the law's where the arguments, and the package variables that the reading takes, are together of bulk at most 1048576: NARROWER than '..Said'. Prove '..Said' where nothing that the law and all that it calls make is longer than what came in: it says more and counts as full. Else prove '..UptoSaid'. A law counts once. -/
mutual
def uptoBulk {H : Type} : DataW H → Nat
  | .lit (.string bytes) => bytes.length + 1
  | .lit _ => 1
  | .nil => 1
  | .ptr d => uptoBulk d + 1
  | .slice elems spare => uptoBulkAll elems + uptoBulkAll spare + 1
  | .agg parts => uptoBulkAll parts + 1
  | .iface _ d => uptoBulk d + 1
  | .map entries => uptoBulkEntries entries + 1
  | .held _ => 1
def uptoBulkAll {H : Type} : List (DataW H) → Nat
  | [] => 0
  | d :: r => uptoBulk d + uptoBulkAll r
def uptoBulkEntries {H : Type} : List (Lit × DataW H) → Nat
  | [] => 0
  | x :: r => uptoBulkEntry x + uptoBulkEntries r
def uptoBulkEntry {H : Type} : Lit × DataW H → Nat
  | (.string bytes, d) => bytes.length + uptoBulk d + 1
  | (_, d) => uptoBulk d + 1
 end
def uptoSmall : (H : Type) → List (DataW H) → Bool := fun _ ds => decide (uptoBulkAll ds ≤ 1048576)
def OpenSpec.upto (s : _root_.Go.ChangeSpec) : _root_.Go.OpenSpec := { _root_.Go.OpenSpec.ofChange s with cond := some uptoSmall }

/-- 'binnaclelaw10.QrRoot', WHERE WHAT IT READS IS OF BULK AT MOST 1048576: true; the input reads as it did. -/
def qrRootUptoRow : OpenClaim := { program := "ytllkellonjhalaagreat", sum := "42c283c7f6c85b22c3ce9ae90246c6eb7775dfc453116460d704843083547e2c", func := "binnacle/binnaclelaw10.QrRoot", spec := "qrRoot", inPlace := ["math.Float64bits", "math.Float64frombits", "math.sqrt"], apart := false, narrowed := true }
def QrRootUptoSaid : Prop := qrRootUptoRow.holds Tryz.pinned (OpenSpec.upto qrRootSpec)

/-- 'binnaclelaw10.QrOrthogonal', WHERE WHAT IT READS IS OF BULK AT MOST 1048576: true; the input reads as it did. -/
def qrOrthogonalUptoRow : OpenClaim := { program := "ytllkellonjhalaagreat", sum := "42c283c7f6c85b22c3ce9ae90246c6eb7775dfc453116460d704843083547e2c", func := "binnacle/binnaclelaw10.QrOrthogonal", spec := "qrOrthogonal", inPlace := ["math.Float64bits", "math.Float64frombits", "math.sqrt"], apart := false, narrowed := true }
def QrOrthogonalUptoSaid : Prop := qrOrthogonalUptoRow.holds Tryz.pinned (OpenSpec.upto qrOrthogonalSpec)

/-- 'binnaclelaw10.QrSplits', WHERE WHAT IT READS IS OF BULK AT MOST 1048576: true; the input reads as it did. -/
def qrSplitsUptoRow : OpenClaim := { program := "ytllkellonjhalaagreat", sum := "42c283c7f6c85b22c3ce9ae90246c6eb7775dfc453116460d704843083547e2c", func := "binnacle/binnaclelaw10.QrSplits", spec := "qrSplits", inPlace := ["math.Float64frombits", "math.Float64bits", "math.sqrt"], apart := false, narrowed := true }
def QrSplitsUptoSaid : Prop := qrSplitsUptoRow.holds Tryz.pinned (OpenSpec.upto qrSplitsSpec)

end Rows
end Go.Proofs.YtllkellonjhalaaGreat
