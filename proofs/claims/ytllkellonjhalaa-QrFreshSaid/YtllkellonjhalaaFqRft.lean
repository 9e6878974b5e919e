/-
 Mirrors and lengths as the reference has them, of numbers finite or not.
-/
import Derived.Test.YtllkellonjhalaaFqTrn
import Derived.Test.YtllkellonjhalaaFqKe
import Derived.Test.YtllkellonjhalaaFqQra
import Derived.Test.YtllkellonjhalaaFqSeg
set_option linter.unusedVariables false
set_option linter.unusedSimpArgs false
namespace Go.Bn
open Go
def Nf (x : Nat) : Prop := ¬ rung x < 9218868437227405312
theorem nf_dec {x : Nat} (hx : x < 2 ^ 64) : Nf x ↔ finB x = false := by
 unfold Nf
 rw [← finB_iff hx]
 simp
theorem nf_sub1 {x y : Nat} (h : Nf x) : Nf (fsub x y) := by
 unfold fsub Ieee.Format.sub
 exact (sum_not (read_not h)).1
end Go.Bn
