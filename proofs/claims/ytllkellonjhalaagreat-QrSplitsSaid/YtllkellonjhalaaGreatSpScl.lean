/-
 Lists scaled by the power of their greatest number.
-/
import Derived.Test.YtllkellonjhalaaGreatSpRft
set_option linter.unusedVariables false
set_option linter.unusedSimpArgs false
namespace Go.Bn
open Go
theorem eql_zero {x : Nat} (hx : x < 2 ^ 64) (hr : rung x < 9218868437227405312) : fcmp .eql x 0 = decide (vlu x = 0) := by
 show (ford x 0 == some .eq) = _
 rw [ford_val' hr (by decide), show sval 0 = 0 by decide +kernel]
 by_cases h : vlu x = 0
 ·have : sval x = 0 := by have := sval_abs x; omega
  rw [this, Int.compare_eq_eq.2 rfl, decide_eq_true h]; rfl
 ·have h2 : sval x ≠ 0 := by have := sval_abs x; omega
  rw [decide_eq_false h]
  have : compare (sval x) 0 ≠ .eq := fun h3 => h2 (Int.compare_eq_eq.1 h3)
  simpa using this
theorem ltL_cn2 {bs : List Nat} (h : ∀ b, b ∈ bs → b < 2 ^ 64) : LtL (bs.map cn) := fun k => by
 by_cases hk : k < bs.length
 ·rw [List.getD, List.getElem?_map, List.getElem?_eq_getElem hk]
  exact cn_lt (h _ (List.getElem_mem hk))
 ·rw [List.getD, List.getElem?_eq_none (by rw [List.length_map]; omega)]
  decide
end Go.Bn
