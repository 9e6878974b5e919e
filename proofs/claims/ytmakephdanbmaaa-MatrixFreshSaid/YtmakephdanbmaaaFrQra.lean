/-
  The greater of two numbers, cleared lists; scaling by powers of two as it is done.
-/
import Derived.Test.YtmakephdanbmaaaFrKd
import Derived.Test.YtmakephdanbmaaaFrKe
set_option linter.unusedVariables false
set_option linter.unusedSimpArgs false
namespace Go.Bn
open Go
/-! ## Lists -/
def finQ (x : Nat) : Bool := fcmp .eql (fsub x x) 0
end Go.Bn
