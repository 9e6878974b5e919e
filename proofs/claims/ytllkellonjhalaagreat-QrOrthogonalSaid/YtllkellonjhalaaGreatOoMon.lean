/-
 What is rounded stays above every number that it was above; sums of what is not below 0 grow.
-/
import Derived.Test.YtllkellonjhalaaGreatOoLnn
set_option linter.unusedVariables false
set_option linter.unusedSimpArgs false
namespace Go.Bn
open Go
theorem nearest_ge {s : Bool} {n : Nat} {p : Int} {m e N : Nat} (hf : rung (Ieee.double.nearest s n p) < 9218868437227405312) (hm : m < 9007199254740992) (hN : 1074 ≤ N) (hp : -(N : Int) ≤ p) (h : m * 2 ^ e * 2 ^ (N - 1074) ≤ n * 2 ^ (p + N).toNat) : m * 2 ^ e ≤ vlu (Ieee.double.nearest s n p) := by
 by_cases hn : n = 0
 ·have h0 : m * 2 ^ e = 0 := by
   rw [hn, Nat.zero_mul] at h
   rcases Nat.mul_eq_zero.1 (Nat.le_zero.1 h) with h | h
   ·exact h
   ·exact absurd h (Nat.ne_of_gt (Nat.two_pow_pos _))
  rw [h0]; exact Nat.zero_le _
 ·obtain ⟨K, t, d, u, h1, h2, _, h3, h4, h5, h6, h7⟩ := nearest_step hn hf
  rw [h1]
  by_cases hu : u = 0
  ·subst hu
   rw [Nat.pow_zero, Nat.mul_one] at h4 h5 h7
   have hd := Nat.two_pow_pos d
   -- the number against the step
   have hv : m * 2 ^ e * 2 ^ d ≤ n * 2 ^ t := by
    have hQ := Nat.two_pow_pos (N - 1074)
    refine Nat.le_of_mul_le_mul_right (c := 2 ^ (N - 1074)) ?_ hQ
    have e1 : n * 2 ^ t * 2 ^ (N - 1074) = n * 2 ^ (p + N).toNat * 2 ^ d := by
     rw [Nat.mul_assoc, ← Nat.pow_add, Nat.mul_assoc, ← Nat.pow_add, show t + (N - 1074) = (p + N).toNat + d by omega]
    rw [e1, Nat.mul_right_comm]
    exact Nat.mul_le_mul_right _ h
   by_cases hte : t ≤ e
   ·have ev : m * 2 ^ e = m * 2 ^ (e - t) * 2 ^ t := by rw [Nat.mul_assoc, ← Nat.pow_add, show e - t + t = e by omega]
    rw [ev] at hv ⊢
    generalize m * 2 ^ (e - t) = j at *
    have hj : j * 2 ^ d ≤ n := by
     refine Nat.le_of_mul_le_mul_right (c := 2 ^ t) ?_ (Nat.two_pow_pos t)
     rw [Nat.mul_right_comm]; exact hv
    refine Nat.mul_le_mul_right _ ?_
    rcases Nat.lt_or_ge K j with hk | hk
    ·exfalso
     have := Nat.mul_le_mul_right (2 ^ d) (show K + 1 ≤ j from hk)
     rw [Nat.add_mul, Nat.one_mul] at this
     omega
    ·exact hk
   ·rcases h7 with h7 | h7
    ·omega
    ·have hk : 4503599627370496 ≤ K := by
      rcases Nat.lt_or_ge K 4503599627370496 with hk | hk
      ·exfalso
       have := Nat.mul_le_mul_right (2 ^ d) (show K + 1 ≤ 4503599627370496 from hk)
       rw [Nat.add_mul, Nat.one_mul] at this
       omega
      ·exact hk
     have a1 : m * 2 ^ e ≤ 9007199254740992 * 2 ^ e := Nat.mul_le_mul_right _ (by omega)
     have a2 : 9007199254740992 * 2 ^ e = 4503599627370496 * 2 ^ (e + 1) := by rw [Nat.pow_succ]; omega
     have a3 : 4503599627370496 * 2 ^ (e + 1) ≤ 4503599627370496 * 2 ^ t := Nat.mul_le_mul_left _ (Nat.pow_le_pow_right (by omega) (by omega))
     have a4 : 4503599627370496 * 2 ^ t ≤ K * 2 ^ t := Nat.mul_le_mul_right _ hk
     omega
  ·have hd0 : d = 0 := by omega
   subst hd0
   rw [h6 hu]
   refine Nat.le_of_mul_le_mul_right (c := 2 ^ (N - 1074)) ?_ (Nat.two_pow_pos _)
   refine Nat.le_trans h (Nat.le_of_eq ?_)
   rw [Nat.mul_assoc, Nat.mul_assoc, ← Nat.pow_add, ← Nat.pow_add, show (p + N).toNat = u + (t + (N - 1074)) by omega]
theorem fadd_ge {x y : Nat} (hx : rung x < 9218868437227405312) (hy : rung y < 9218868437227405312) (hf : rung (fadd x y) < 9218868437227405312) (sx : 0 ≤ sval x) (sy : 0 ≤ sval y) : vlu x ≤ vlu (fadd x y) ∧ vlu y ≤ vlu (fadd x y) := by
 have cx := sval_abs x
 have cy := sval_abs y
 have hg : ∀ z, vlu z ≤ (sval x + sval y).natAbs → vlu z ≤ vlu (fadd x y) := fun z hz => by
  rw [fadd_int hx hy] at hf ⊢
  refine nearest_ge (m := mgn z) (e := (plc z + 1074).toNat) (N := 1074) hf ?_ (Nat.le_refl _) (by decide) ?_
  ·exact mgn_lt z
  ·have h0 : (-1074 + ((1074 : Nat) : Int)).toNat = 0 := by decide
   rw [h0, Nat.sub_self, Nat.pow_zero, Nat.mul_one, Nat.mul_one]
   exact hz
 exact ⟨hg x (by omega), hg y (by omega)⟩
theorem fadd_sgn {x y : Nat} (hx : rung x < 9218868437227405312) (hy : rung y < 9218868437227405312) (sx : sgn x = false) (sy : sgn y = false) : sgn (fadd x y) = false := by
 rw [fadd_int hx hy]
 have e1 := sval_pos' sx
 have e2 := sval_pos' sy
 have : (if sval x + sval y = 0 then sgn x && sgn y else decide (sval x + sval y < 0)) = false := by
  split
  ·rw [sx]; rfl
  ·exact decide_eq_false (by omega)
 rw [this]
 exact nearest_pos
end Go.Bn
