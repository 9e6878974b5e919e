/-
 Numbers scaled, exactly; a rotation's numbers, how far they lie from what they should be.
-/
import Derived.Test.YtjnmgcglooeooaaGreatDoorPsPool
set_option linter.unusedVariables false
set_option linter.unusedSimpArgs false
namespace Go.Bn
open Go
def Cl (k a b : Nat) : Prop := ∃ t, a ≤ b + t ∧ b ≤ a + t ∧ t * UU ≤ k * b
end Go.Bn
