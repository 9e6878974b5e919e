/-
 The greater of two numbers, cleared lists; scaling by powers of two as it is done.
-/
import Derived.Test.YtjnmgcglooeooaaGreatDoorPsKd
import Derived.Test.YtjnmgcglooeooaaGreatDoorPsKe
set_option linter.unusedVariables false
set_option linter.unusedSimpArgs false
namespace Go.Bn
open Go
theorem or_add (b c i : Nat) (hc : c < 2 ^ i) : b * 2 ^ i ||| c = b * 2 ^ i + c := by
 rw [← Nat.shiftLeft_eq, Nat.shiftLeft_add_eq_or_of_lt hc]
def finQ (x : Nat) : Bool := fcmp .eql (fsub x x) 0
end Go.Bn
