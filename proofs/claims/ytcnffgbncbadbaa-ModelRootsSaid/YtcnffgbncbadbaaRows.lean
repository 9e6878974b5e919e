/-
  No cell of these rows narrows 'for every input' (looked for: loops, veiled, ifaces, maps, wideKeys, modest, calm, conditions, laid).
  DERIVED. THE GIVEN ROWS OF THIS SEAT. 5 by the template 'for every input the law returns true; each argument reads behind the call as it read before'; 0 by the template 'total and deterministic' (their statements: YtcnffgbncbadbaaTotals.lean).
  GIVEN WITH THE SEED: the statements are not yours to turn. If you find one false, say at which input.
  Laid BY PROGRAM, IN A SANDBOX (cutbox-rows.mjs): the forced cells as the released guide's own fill.sh prints them over the translation 5d4be984fe8a1357… (all of the seat's roots in one cut). By AI agents, Wed Nov 11 2026. No macro, syntax, notation, axiom, sorry.
-/
import Derived.Test.YtcnffgbncbadbaaChecked
import GoSem.Claim
import GoSem.ClaimJoined
import GoSem.ClaimMapViews
import Derived.JoinedTies
import Derived.KernelRfl
namespace Go.Proofs.Ytcnffgbncbadbaa
/- THE CELL 'sum', in the pinned program and in every row, IS THE sha256 OF THE DUMP (.gsa) THAT YtcnffgbncbadbaaProg.lean LOADS. Nothing in Lean hashes anything: it is a label: what it is worth is what the hold of that sum in a sandbox is worth. -/
noncomputable def Try.pinned : Pinned := { name := "ytcnffgbncbadbaa", sum := "5d4be984fe8a1357affe6469f851fb378a934ca3b11d0fa1737467b141e0a842", checked := Try.checked }
namespace Rows
def none {H : Type} : Left H := { results := [], args := [] }

/-- 'binnaclelaw14.ModelGoes': WHATEVER THE INPUT: true; the input reads as it did. -/
def modelGoesSpec : ChangeSpec := { name := "modelGoes", fn := fun _ => fun
  | [d1, d2, d3] => { results := [.lit (.bool true)], args := [d1, d2, d3] }
  | _ => none }
def modelGoesRow : OpenClaim := { program := "ytcnffgbncbadbaa", sum := "5d4be984fe8a1357affe6469f851fb378a934ca3b11d0fa1737467b141e0a842", func := "binnacle/binnaclelaw14.ModelGoes", spec := "modelGoes", inPlace := ["math.Float64bits", "math.Float64frombits", "math.sqrt"], unfollowed := true, recurses := true, apart := false }
def ModelGoesSaid : Prop := modelGoesRow.holds Try.pinned (OpenSpec.ofChange modelGoesSpec)

/-- ITS FALSE NEIGHBOUR: 'it returns false'. Refute it at one input. -/
def modelGoesWrong : ChangeSpec := { name := "modelGoes", fn := fun _ => fun
  | [d1, d2, d3] => { results := [.lit (.bool false)], args := [d1, d2, d3] }
  | _ => none }
def ModelGoesWrongFalsely : Prop := modelGoesRow.holds Try.pinned (OpenSpec.ofChange modelGoesWrong)

/-- 'binnaclelaw14.ModelPicks': WHATEVER THE INPUT: true; the input reads as it did. -/
def modelPicksSpec : ChangeSpec := { name := "modelPicks", fn := fun _ => fun
  | [d1, d2] => { results := [.lit (.bool true)], args := [d1, d2] }
  | _ => none }
def modelPicksRow : OpenClaim := { program := "ytcnffgbncbadbaa", sum := "5d4be984fe8a1357affe6469f851fb378a934ca3b11d0fa1737467b141e0a842", func := "binnacle/binnaclelaw14.ModelPicks", spec := "modelPicks", inPlace := ["math.Float64frombits", "math.Float64bits"], unfollowed := true, recurses := true, apart := false }
def ModelPicksSaid : Prop := modelPicksRow.holds Try.pinned (OpenSpec.ofChange modelPicksSpec)

/-- ITS FALSE NEIGHBOUR: 'it returns false'. Refute it at one input. -/
def modelPicksWrong : ChangeSpec := { name := "modelPicks", fn := fun _ => fun
  | [d1, d2] => { results := [.lit (.bool false)], args := [d1, d2] }
  | _ => none }
def ModelPicksWrongFalsely : Prop := modelPicksRow.holds Try.pinned (OpenSpec.ofChange modelPicksWrong)

/-- 'binnaclelaw14.ModelMoves': WHATEVER THE INPUT: true; the input reads as it did. -/
def modelMovesSpec : ChangeSpec := { name := "modelMoves", fn := fun _ => fun
  | [d1, d2] => { results := [.lit (.bool true)], args := [d1, d2] }
  | _ => none }
def modelMovesRow : OpenClaim := { program := "ytcnffgbncbadbaa", sum := "5d4be984fe8a1357affe6469f851fb378a934ca3b11d0fa1737467b141e0a842", func := "binnacle/binnaclelaw14.ModelMoves", spec := "modelMoves", inPlace := ["math.Float64bits", "math.Float64frombits", "math.sqrt"], unfollowed := true, recurses := true, apart := false }
def ModelMovesSaid : Prop := modelMovesRow.holds Try.pinned (OpenSpec.ofChange modelMovesSpec)

/-- ITS FALSE NEIGHBOUR: 'it returns false'. Refute it at one input. -/
def modelMovesWrong : ChangeSpec := { name := "modelMoves", fn := fun _ => fun
  | [d1, d2] => { results := [.lit (.bool false)], args := [d1, d2] }
  | _ => none }
def ModelMovesWrongFalsely : Prop := modelMovesRow.holds Try.pinned (OpenSpec.ofChange modelMovesWrong)

/-- 'binnaclelaw14.ModelRoots': WHATEVER THE INPUT: true; the input reads as it did. -/
def modelRootsSpec : ChangeSpec := { name := "modelRoots", fn := fun _ => fun
  | [d1, d2] => { results := [.lit (.bool true)], args := [d1, d2] }
  | _ => none }
def modelRootsRow : OpenClaim := { program := "ytcnffgbncbadbaa", sum := "5d4be984fe8a1357affe6469f851fb378a934ca3b11d0fa1737467b141e0a842", func := "binnacle/binnaclelaw14.ModelRoots", spec := "modelRoots", inPlace := ["math.Float64bits", "math.Float64frombits", "math.sqrt"], unfollowed := true, recurses := true, apart := false }
def ModelRootsSaid : Prop := modelRootsRow.holds Try.pinned (OpenSpec.ofChange modelRootsSpec)

/-- ITS FALSE NEIGHBOUR: 'it returns false'. Refute it at one input. -/
def modelRootsWrong : ChangeSpec := { name := "modelRoots", fn := fun _ => fun
  | [d1, d2] => { results := [.lit (.bool false)], args := [d1, d2] }
  | _ => none }
def ModelRootsWrongFalsely : Prop := modelRootsRow.holds Try.pinned (OpenSpec.ofChange modelRootsWrong)

/-- 'binnaclelaw14.ModelSees': WHATEVER THE INPUT: true; the input reads as it did. -/
def modelSeesSpec : ChangeSpec := { name := "modelSees", fn := fun _ => fun
  | [d1, d2, d3] => { results := [.lit (.bool true)], args := [d1, d2, d3] }
  | _ => none }
def modelSeesRow : OpenClaim := { program := "ytcnffgbncbadbaa", sum := "5d4be984fe8a1357affe6469f851fb378a934ca3b11d0fa1737467b141e0a842", func := "binnacle/binnaclelaw14.ModelSees", spec := "modelSees", inPlace := ["math.Float64frombits", "math.Float64bits"], unfollowed := true, recurses := true, apart := false }
def ModelSeesSaid : Prop := modelSeesRow.holds Try.pinned (OpenSpec.ofChange modelSeesSpec)

/-- ITS FALSE NEIGHBOUR: 'it returns false'. Refute it at one input. -/
def modelSeesWrong : ChangeSpec := { name := "modelSees", fn := fun _ => fun
  | [d1, d2, d3] => { results := [.lit (.bool false)], args := [d1, d2, d3] }
  | _ => none }
def ModelSeesWrongFalsely : Prop := modelSeesRow.holds Try.pinned (OpenSpec.ofChange modelSeesWrong)

/- THE SECOND FORM. 'bulk': how many values and letters a reading holds, each counted each time it is reached (what is shared counts as often as it is met; a slice's spare places count too). A statement '..UptoSaid' is the law's where the arguments, and the package variables that the reading takes, are together of bulk at most 1048576: NARROWER than '..Said'. Prove '..Said' where nothing that the law and all that it calls make is longer than what came in: it says more and counts as full. Else prove '..UptoSaid'. A law counts once. -/
mutual
def uptoBulk {H : Type} : DataW H → Nat
  | .lit (.string bytes) => bytes.length + 1
  | .lit _ => 1
  | .nil => 1
  | .ptr d => uptoBulk d + 1
  | .slice elems spare => uptoBulkAll elems + uptoBulkAll spare + 1
  | .agg parts => uptoBulkAll parts + 1
  | .iface _ d => uptoBulk d + 1
  | .map entries => uptoBulkEntries entries + 1
  | .held _ => 1
def uptoBulkAll {H : Type} : List (DataW H) → Nat
  | [] => 0
  | d :: r => uptoBulk d + uptoBulkAll r
def uptoBulkEntries {H : Type} : List (Lit × DataW H) → Nat
  | [] => 0
  | x :: r => uptoBulkEntry x + uptoBulkEntries r
def uptoBulkEntry {H : Type} : Lit × DataW H → Nat
  | (.string bytes, d) => bytes.length + uptoBulk d + 1
  | (_, d) => uptoBulk d + 1
 end
def uptoSmall : (H : Type) → List (DataW H) → Bool := fun _ ds => decide (uptoBulkAll ds ≤ 1048576)
def OpenSpec.upto (s : _root_.Go.ChangeSpec) : _root_.Go.OpenSpec := { _root_.Go.OpenSpec.ofChange s with cond := some uptoSmall }

/-- 'binnaclelaw14.ModelGoes', WHERE WHAT IT READS IS OF BULK AT MOST 1048576: true; the input reads as it did. -/
def modelGoesUptoRow : OpenClaim := { program := "ytcnffgbncbadbaa", sum := "5d4be984fe8a1357affe6469f851fb378a934ca3b11d0fa1737467b141e0a842", func := "binnacle/binnaclelaw14.ModelGoes", spec := "modelGoes", inPlace := ["math.Float64bits", "math.Float64frombits", "math.sqrt"], unfollowed := true, recurses := true, apart := false, narrowed := true }
def ModelGoesUptoSaid : Prop := modelGoesUptoRow.holds Try.pinned (OpenSpec.upto modelGoesSpec)

/-- 'binnaclelaw14.ModelPicks', WHERE WHAT IT READS IS OF BULK AT MOST 1048576: true; the input reads as it did. -/
def modelPicksUptoRow : OpenClaim := { program := "ytcnffgbncbadbaa", sum := "5d4be984fe8a1357affe6469f851fb378a934ca3b11d0fa1737467b141e0a842", func := "binnacle/binnaclelaw14.ModelPicks", spec := "modelPicks", inPlace := ["math.Float64frombits", "math.Float64bits"], unfollowed := true, recurses := true, apart := false, narrowed := true }
def ModelPicksUptoSaid : Prop := modelPicksUptoRow.holds Try.pinned (OpenSpec.upto modelPicksSpec)

/-- 'binnaclelaw14.ModelMoves', WHERE WHAT IT READS IS OF BULK AT MOST 1048576: true; the input reads as it did. -/
def modelMovesUptoRow : OpenClaim := { program := "ytcnffgbncbadbaa", sum := "5d4be984fe8a1357affe6469f851fb378a934ca3b11d0fa1737467b141e0a842", func := "binnacle/binnaclelaw14.ModelMoves", spec := "modelMoves", inPlace := ["math.Float64bits", "math.Float64frombits", "math.sqrt"], unfollowed := true, recurses := true, apart := false, narrowed := true }
def ModelMovesUptoSaid : Prop := modelMovesUptoRow.holds Try.pinned (OpenSpec.upto modelMovesSpec)

/-- 'binnaclelaw14.ModelRoots', WHERE WHAT IT READS IS OF BULK AT MOST 1048576: true; the input reads as it did. -/
def modelRootsUptoRow : OpenClaim := { program := "ytcnffgbncbadbaa", sum := "5d4be984fe8a1357affe6469f851fb378a934ca3b11d0fa1737467b141e0a842", func := "binnacle/binnaclelaw14.ModelRoots", spec := "modelRoots", inPlace := ["math.Float64bits", "math.Float64frombits", "math.sqrt"], unfollowed := true, recurses := true, apart := false, narrowed := true }
def ModelRootsUptoSaid : Prop := modelRootsUptoRow.holds Try.pinned (OpenSpec.upto modelRootsSpec)

/-- 'binnaclelaw14.ModelSees', WHERE WHAT IT READS IS OF BULK AT MOST 1048576: true; the input reads as it did. -/
def modelSeesUptoRow : OpenClaim := { program := "ytcnffgbncbadbaa", sum := "5d4be984fe8a1357affe6469f851fb378a934ca3b11d0fa1737467b141e0a842", func := "binnacle/binnaclelaw14.ModelSees", spec := "modelSees", inPlace := ["math.Float64frombits", "math.Float64bits"], unfollowed := true, recurses := true, apart := false, narrowed := true }
def ModelSeesUptoSaid : Prop := modelSeesUptoRow.holds Try.pinned (OpenSpec.upto modelSeesSpec)

end Rows
end Go.Proofs.Ytcnffgbncbadbaa
