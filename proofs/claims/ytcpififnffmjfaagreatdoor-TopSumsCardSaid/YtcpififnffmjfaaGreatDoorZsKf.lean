/-
 Numbers with their signs: what sums, products, quotients and roots are rounded from, how far they lie from it, and what is not finite stays so. How far a dot product in order lies from the exact one (Wilkinson). What the law of nearness reckons in exact numbers: all of it is small, and the distance is not above the room.
-/
import Derived.Test.YtcpififnffmjfaaGreatDoorZsKd
import Derived.Test.YtcpififnffmjfaaGreatDoorZsKe
set_option linter.unusedVariables false
set_option linter.unusedSimpArgs false
namespace Go.Bn
open Go
theorem sval_abs (x : Nat) : (sval x).natAbs = vlu x := by unfold sval; split <;> omega
theorem nearest_sgn {s : Bool} {n : Nat} {p : Int} : sgn (Ieee.double.nearest s n p) = s := by
 unfold Ieee.Format.nearest
 split
 ·exact (@word_parts s 0 (by omega)).1
 ·simp only [infR]
  exact (@word_parts s _ (Nat.min_le_right ..)).1
theorem sval_signed {x : Nat} {b : Int} (h0 : -1074 ≤ b) (h1 : b ≤ plc x) : sval x = Ieee.signed (sgn x) (mgn x) (plc x - b).toNat * 2 ^ (b + 1074).toNat := by
 have e : ((vlu x : Nat) : Int) = ((mgn x <<< (plc x - b).toNat : Nat) : Int) * 2 ^ (b + 1074).toNat := by
  unfold vlu
  rw [Nat.shiftLeft_eq, Int.natCast_mul, Int.natCast_mul, Int.mul_assoc]
  congr 1
  rw [show (plc x + 1074).toNat = (plc x - b).toNat + (b + 1074).toNat by omega, Nat.pow_add, Int.natCast_mul]
  simp
 unfold sval Ieee.signed
 split
 ·rw [Int.neg_mul, e]
 ·exact e
theorem fadd_int {x y : Nat} (hx : rung x < 9218868437227405312) (hy : rung y < 9218868437227405312) :
  fadd x y = Ieee.double.nearest (if sval x + sval y = 0 then sgn x && sgn y else decide (sval x + sval y < 0)) (sval x + sval y).natAbs (-1074) := by
 have px := plc_ge x
 have py := plc_ge y
 obtain ⟨b, hb⟩ : ∃ b, b = min (plc x) (plc y) := ⟨_, rfl⟩
 have ex := sval_signed (x := x) (b := b) (by omega) (by omega)
 have ey := sval_signed (x := y) (b := b) (by omega) (by omega)
 have hp := pow_one_le (b + 1074).toNat
 have e : sval x + sval y = (Ieee.signed (sgn x) (mgn x) (plc x - b).toNat + Ieee.signed (sgn y) (mgn y) (plc y - b).toNat) * 2 ^ (b + 1074).toNat := by
  rw [ex, ey, Int.add_mul]
 unfold fadd Ieee.Format.add
 rw [read_fin hx, read_fin hy]
 simp only [Ieee.Datum.sum, ← hb]
 generalize Ieee.signed (sgn x) (mgn x) (plc x - b).toNat + Ieee.signed (sgn y) (mgn y) (plc y - b).toNat = T at *
 show Ieee.double.nearest _ _ _ = _
 rw [e]
 have hs : (T * 2 ^ (b + 1074).toNat = 0 ↔ T = 0) ∧ (T * 2 ^ (b + 1074).toNat < 0 ↔ T < 0) := by
  generalize (2 : Int) ^ (b + 1074).toNat = W at *
  refine ⟨⟨fun h => ?_, fun h => by rw [h, Int.zero_mul]⟩, ⟨fun h => ?_, fun h => ?_⟩⟩
  ·rcases Int.mul_eq_zero.1 h with h | h
   ·exact h
   ·omega
  ·by_cases hc : T < 0
   ·exact hc
   ·have := Int.mul_nonneg (show 0 ≤ T by omega) (show 0 ≤ W by omega)
    omega
  ·exact Int.mul_neg_of_neg_of_pos h (by omega)
 have es : (if T = 0 then sgn x && sgn y else decide (T < 0)) = (if T * 2 ^ (b + 1074).toNat = 0 then sgn x && sgn y else decide (T * 2 ^ (b + 1074).toNat < 0)) := by
  by_cases h0 : T = 0
  ·rw [if_pos h0, if_pos (hs.1.2 h0)]
  ·rw [if_neg h0, if_neg (fun h => h0 (hs.1.1 h))]
   by_cases h1 : T < 0
   ·rw [decide_eq_true h1, decide_eq_true (hs.2.2 h1)]
   ·rw [decide_eq_false h1, decide_eq_false (fun h => h1 (hs.2.1 h))]
 rw [← es]
 apply nearest_eq
 rw [show min b (-1074 : Int) = -1074 by omega, Int.natAbs_mul, Int.natAbs_pow, show (b - -1074).toNat = (b + 1074).toNat by omega]
 simp
def sgz (s : Bool) (n : Nat) : Int := if s then -(n : Int) else n
theorem sgz_abs (s : Bool) (n : Nat) : (sgz s n).natAbs = n := by unfold sgz; split <;> omega
theorem sval_sgz (x : Nat) : sval x = sgz (sgn x) (vlu x) := rfl
theorem sgz_dec (z : Int) : sgz (decide (z < 0)) z.natAbs = z := by
 unfold sgz
 by_cases h : z < 0
 ·rw [decide_eq_true h, if_pos rfl]; omega
 ·rw [decide_eq_false h, if_neg (by decide)]; omega
end Go.Bn
