/-
 Lists scaled by the power of their greatest number.
-/
import Derived.Test.YtllkellonjhalaaFqRft
set_option linter.unusedVariables false
set_option linter.unusedSimpArgs false
namespace Go.Bn
open Go
theorem ltL_cn2 {bs : List Nat} (h : ∀ b, b ∈ bs → b < 2 ^ 64) : LtL (bs.map cn) := fun k => by
 by_cases hk : k < bs.length
 ·rw [List.getD, List.getElem?_map, List.getElem?_eq_getElem hk]
  exact cn_lt (h _ (List.getElem_mem hk))
 ·rw [List.getD, List.getElem?_eq_none (by rw [List.length_map]; omega)]
  decide
def mtW (m : Mt) : List SP := [isv (.int .i64 m.r), isv (.int .i64 m.c), wsl m.a]
theorem mtW_len : ∀ m, (mtW m).length = 3 := fun _ => rfl
end Go.Bn
