/-
 Numbers with their signs: what sums, products, quotients and roots are rounded from, how far they lie from it, and what is not finite stays so. How far a dot product in order lies from the exact one (Wilkinson). What the law of nearness reckons in exact numbers: all of it is small, and the distance is not above the room.
-/
import Derived.Test.YtllkellonjhalaaGreatSpKd
import Derived.Test.YtllkellonjhalaaGreatSpKe
set_option linter.unusedVariables false
set_option linter.unusedSimpArgs false
namespace Go.Bn
open Go
theorem sval_abs (x : Nat) : (sval x).natAbs = vlu x := by unfold sval; split <;> omega
theorem nearest_lt {s : Bool} {n : Nat} {p : Int} : Ieee.double.nearest s n p < 2 ^ 64 := by
 unfold Ieee.Format.nearest
 split
 ·exact (@word_parts s 0 (by omega)).2.2
 ·simp only [infR]
  exact (@word_parts s _ (Nat.min_le_right ..)).2.2
theorem sval_signed {x : Nat} {b : Int} (h0 : -1074 ≤ b) (h1 : b ≤ plc x) : sval x = Ieee.signed (sgn x) (mgn x) (plc x - b).toNat * 2 ^ (b + 1074).toNat := by
 have e : ((vlu x : Nat) : Int) = ((mgn x <<< (plc x - b).toNat : Nat) : Int) * 2 ^ (b + 1074).toNat := by
  unfold vlu
  rw [Nat.shiftLeft_eq, Int.natCast_mul, Int.natCast_mul, Int.mul_assoc]
  congr 1
  rw [show (plc x + 1074).toNat = (plc x - b).toNat + (b + 1074).toNat by omega, Nat.pow_add, Int.natCast_mul]
  simp
 unfold sval Ieee.signed
 split
 ·rw [Int.neg_mul, e]
 ·exact e
theorem fadd_int {x y : Nat} (hx : rung x < 9218868437227405312) (hy : rung y < 9218868437227405312) :
  fadd x y = Ieee.double.nearest (if sval x + sval y = 0 then sgn x && sgn y else decide (sval x + sval y < 0)) (sval x + sval y).natAbs (-1074) := by
 have px := plc_ge x
 have py := plc_ge y
 obtain ⟨b, hb⟩ : ∃ b, b = min (plc x) (plc y) := ⟨_, rfl⟩
 have ex := sval_signed (x := x) (b := b) (by omega) (by omega)
 have ey := sval_signed (x := y) (b := b) (by omega) (by omega)
 have hp := pow_one_le (b + 1074).toNat
 have e : sval x + sval y = (Ieee.signed (sgn x) (mgn x) (plc x - b).toNat + Ieee.signed (sgn y) (mgn y) (plc y - b).toNat) * 2 ^ (b + 1074).toNat := by
  rw [ex, ey, Int.add_mul]
 unfold fadd Ieee.Format.add
 rw [read_fin hx, read_fin hy]
 simp only [Ieee.Datum.sum, ← hb]
 generalize Ieee.signed (sgn x) (mgn x) (plc x - b).toNat + Ieee.signed (sgn y) (mgn y) (plc y - b).toNat = T at *
 show Ieee.double.nearest _ _ _ = _
 rw [e]
 have hs : (T * 2 ^ (b + 1074).toNat = 0 ↔ T = 0) ∧ (T * 2 ^ (b + 1074).toNat < 0 ↔ T < 0) := by
  generalize (2 : Int) ^ (b + 1074).toNat = W at *
  refine ⟨⟨fun h => ?_, fun h => by rw [h, Int.zero_mul]⟩, ⟨fun h => ?_, fun h => ?_⟩⟩
  ·rcases Int.mul_eq_zero.1 h with h | h
   ·exact h
   ·omega
  ·by_cases hc : T < 0
   ·exact hc
   ·have := Int.mul_nonneg (show 0 ≤ T by omega) (show 0 ≤ W by omega)
    omega
  ·exact Int.mul_neg_of_neg_of_pos h (by omega)
 have es : (if T = 0 then sgn x && sgn y else decide (T < 0)) = (if T * 2 ^ (b + 1074).toNat = 0 then sgn x && sgn y else decide (T * 2 ^ (b + 1074).toNat < 0)) := by
  by_cases h0 : T = 0
  ·rw [if_pos h0, if_pos (hs.1.2 h0)]
  ·rw [if_neg h0, if_neg (fun h => h0 (hs.1.1 h))]
   by_cases h1 : T < 0
   ·rw [decide_eq_true h1, decide_eq_true (hs.2.2 h1)]
   ·rw [decide_eq_false h1, decide_eq_false (fun h => h1 (hs.2.1 h))]
 rw [← es]
 apply nearest_eq
 rw [show min b (-1074 : Int) = -1074 by omega, Int.natAbs_mul, Int.natAbs_pow, show (b - -1074).toNat = (b + 1074).toNat by omega]
 simp
theorem read_not {x : Nat} (h : ¬ rung x < 9218868437227405312) : (∃ s, Ieee.double.read x = .infinity s) ∨ (Ieee.double.read x).isNaN = true := by
 by_cases he : rung x = 9218868437227405312
 ·exact .inl ⟨_, read_inf he⟩
 ·right
  unfold Ieee.Format.read
  unfold rung at h he
  simp only [signW, binA, infR]
  rw [if_neg (by omega), if_neg h, if_neg he]
  rfl
theorem nan_not : ¬ rung NAN < 9218868437227405312 := by decide +kernel
theorem inf_not (s : Bool) : ¬ rung (Ieee.double.write (.infinity s)) < 9218868437227405312 := by cases s <;> decide +kernel
theorem sum_not {a b : Ieee.Datum} (h : (∃ s, a = .infinity s) ∨ a.isNaN = true) : ¬ rung (fop ((a.sum b).map Ieee.double.write)) < 9218868437227405312 ∧ ¬ rung (fop ((b.sum a).map Ieee.double.write)) < 9218868437227405312 := by
 rcases h with ⟨s, rfl⟩ | h
 ·cases b with
  | nan => exact ⟨nan_not, nan_not⟩
  | infinity t =>
   simp only [Ieee.Datum.sum]
   by_cases he : s = t
   ·subst he
    simp only [if_true, Option.map_some, fop, Option.getD_some]
    exact ⟨inf_not _, inf_not _⟩
   ·rw [if_neg he, if_neg (Ne.symm he)]
    exact ⟨nan_not, nan_not⟩
  | number t m e => exact ⟨inf_not _, inf_not _⟩
 ·cases a with
  | nan => cases b <;> exact ⟨nan_not, nan_not⟩
  | infinity t => cases h
  | number t m e => cases h
theorem product_not {a b : Ieee.Datum} (h : (∃ s, a = .infinity s) ∨ a.isNaN = true) : ¬ rung (fop ((a.product b).map Ieee.double.write)) < 9218868437227405312 ∧ ¬ rung (fop ((b.product a).map Ieee.double.write)) < 9218868437227405312 := by
 rcases h with ⟨s, rfl⟩ | h
 ·cases b with
  | nan => exact ⟨nan_not, nan_not⟩
  | infinity t => exact ⟨inf_not _, inf_not _⟩
  | number t m e =>
   simp only [Ieee.Datum.product]
   by_cases he : m = 0
   ·rw [if_pos he]
    exact ⟨nan_not, nan_not⟩
   ·rw [if_neg he]
    simp only [Option.map_some, fop, Option.getD_some]
    exact ⟨inf_not _, inf_not _⟩
 ·cases a with
  | nan => cases b <;> exact ⟨nan_not, nan_not⟩
  | infinity t => cases h
  | number t m e => cases h
theorem fadd_fin2 {x y : Nat} (h : rung (fadd x y) < 9218868437227405312) : rung x < 9218868437227405312 ∧ rung y < 9218868437227405312 := by
 constructor
 ·exact Classical.byContradiction fun hc => (sum_not (read_not hc)).1 h
 ·exact Classical.byContradiction fun hc => (sum_not (read_not hc)).2 h
theorem fmul_fin2 {x y : Nat} (h : rung (fmul x y) < 9218868437227405312) : rung x < 9218868437227405312 ∧ rung y < 9218868437227405312 := by
 constructor
 ·exact Classical.byContradiction fun hc => (product_not (read_not hc)).1 h
 ·exact Classical.byContradiction fun hc => (product_not (read_not hc)).2 h
end Go.Bn
namespace Go.Bn
open Go
def FinL (xs : List Nat) : Prop := ∀ k, finB (xs.getD k 0) = true ∧ xs.getD k 0 < 2 ^ 64
theorem finL_all {xs : List Nat} (h : xs.all finB = true) (h2 : xs.all (fun x => decide (x < 2 ^ 64)) = true) : FinL xs := fun k => by
 by_cases hk : k < xs.length
 ·exact ⟨List.all_eq_true.1 h _ (mem_getD 0 hk), of_decide_eq_true (List.all_eq_true.1 h2 _ (mem_getD 0 hk))⟩
 ·rw [List.getD, List.getElem?_eq_none (by omega)]
  exact ⟨by decide, by decide⟩
theorem finL_range {g : Nat → Nat} {m : Nat} (h : ∀ k, finB (g k) = true ∧ g k < 2 ^ 64) : FinL ((List.range m).map g) := fun k => by
 by_cases hk : k < m
 ·rw [List.getD, List.getElem?_eq_getElem (by simpa using hk)]
  simp only [List.getElem_map, List.getElem_range, Option.getD_some]
  exact h k
 ·rw [List.getD, List.getElem?_eq_none (by simpa using hk)]
  exact ⟨by decide, by decide⟩
theorem finL_row {c : Int} {xs : List Nat} {i : Int} (h : FinL xs) : FinL (rowL c xs i) := finL_range fun k => h _
theorem finB_getD {xs : List Nat} (h : xs.all finB = true) (k : Nat) : finB (xs.getD k 0) = true := by
 by_cases hk : k < xs.length
 ·exact List.all_eq_true.1 h _ (mem_getD 0 hk)
 ·rw [List.getD, List.getElem?_eq_none (by omega)]
  decide
end Go.Bn
