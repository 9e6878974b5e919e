/-
  Mirrors and lengths as the reference has them, of numbers finite or not.
-/
import Derived.Test.YtllmlkffknodmaaNrLdx
set_option linter.unusedVariables false
set_option linter.unusedSimpArgs false
namespace Go.Bn
open Go
/-! ## Mirrors of any numbers -/
theorem scl_at0 {xs : List Nat} {k : Int} {i : Nat} (h : i < xs.length) : (sclL xs k).getD i 0 = ldx (xs.getD i 0) (-k) := by
  unfold sclL
  rw [List.getD, List.getElem?_map, List.getElem?_eq_getElem h, List.getD, List.getElem?_eq_getElem h]
  rfl
end Go.Bn
