/-
 Numbers with their signs: what sums, products, quotients and roots are rounded from, how far they lie from it, and what is not finite stays so. How far a dot product in order lies from the exact one (Wilkinson). What the law of nearness reckons in exact numbers: all of it is small, and the distance is not above the room.
-/
import Derived.Test.YtllkellonjhalaaFqKd
import Derived.Test.YtllkellonjhalaaFqKe
set_option linter.unusedVariables false
set_option linter.unusedSimpArgs false
namespace Go.Bn
open Go
theorem read_not {x : Nat} (h : ¬ rung x < 9218868437227405312) : (∃ s, Ieee.double.read x = .infinity s) ∨ (Ieee.double.read x).isNaN = true := by
 by_cases he : rung x = 9218868437227405312
 ·exact .inl ⟨_, read_inf he⟩
 ·right
  unfold Ieee.Format.read
  unfold rung at h he
  simp only [signW, binA, infR]
  rw [if_neg (by omega), if_neg h, if_neg he]
  rfl
theorem nan_not : ¬ rung NAN < 9218868437227405312 := by decide +kernel
theorem inf_not (s : Bool) : ¬ rung (Ieee.double.write (.infinity s)) < 9218868437227405312 := by cases s <;> decide +kernel
theorem sum_not {a b : Ieee.Datum} (h : (∃ s, a = .infinity s) ∨ a.isNaN = true) : ¬ rung (fop ((a.sum b).map Ieee.double.write)) < 9218868437227405312 ∧ ¬ rung (fop ((b.sum a).map Ieee.double.write)) < 9218868437227405312 := by
 rcases h with ⟨s, rfl⟩ | h
 ·cases b with
  | nan => exact ⟨nan_not, nan_not⟩
  | infinity t =>
   simp only [Ieee.Datum.sum]
   by_cases he : s = t
   ·subst he
    simp only [if_true, Option.map_some, fop, Option.getD_some]
    exact ⟨inf_not _, inf_not _⟩
   ·rw [if_neg he, if_neg (Ne.symm he)]
    exact ⟨nan_not, nan_not⟩
  | number t m e => exact ⟨inf_not _, inf_not _⟩
 ·cases a with
  | nan => cases b <;> exact ⟨nan_not, nan_not⟩
  | infinity t => cases h
  | number t m e => cases h
end Go.Bn
namespace Go.Bn
open Go
def FinL (xs : List Nat) : Prop := ∀ k, finB (xs.getD k 0) = true ∧ xs.getD k 0 < 2 ^ 64
theorem finL_all {xs : List Nat} (h : xs.all finB = true) (h2 : xs.all (fun x => decide (x < 2 ^ 64)) = true) : FinL xs := fun k => by
 by_cases hk : k < xs.length
 ·exact ⟨List.all_eq_true.1 h _ (mem_getD 0 hk), of_decide_eq_true (List.all_eq_true.1 h2 _ (mem_getD 0 hk))⟩
 ·rw [List.getD, List.getElem?_eq_none (by omega)]
  exact ⟨by decide, by decide⟩
theorem finL_range {g : Nat → Nat} {m : Nat} (h : ∀ k, finB (g k) = true ∧ g k < 2 ^ 64) : FinL ((List.range m).map g) := fun k => by
 by_cases hk : k < m
 ·rw [List.getD, List.getElem?_eq_getElem (by simpa using hk)]
  simp only [List.getElem_map, List.getElem_range, Option.getD_some]
  exact h k
 ·rw [List.getD, List.getElem?_eq_none (by simpa using hk)]
  exact ⟨by decide, by decide⟩
theorem finL_row {c : Int} {xs : List Nat} {i : Int} (h : FinL xs) : FinL (rowL c xs i) := finL_range fun k => h _
theorem finB_getD {xs : List Nat} (h : xs.all finB = true) (k : Nat) : finB (xs.getD k 0) = true := by
 by_cases hk : k < xs.length
 ·exact List.all_eq_true.1 h _ (mem_getD 0 hk)
 ·rw [List.getD, List.getElem?_eq_none (by omega)]
  decide
end Go.Bn
