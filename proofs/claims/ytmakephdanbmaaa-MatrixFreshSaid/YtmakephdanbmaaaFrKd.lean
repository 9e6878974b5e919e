/-
  Plain facts on motions. Plain facts on blocks laid on a diagonal. Square roots; the blocks of roots. How far a rounded number lies from the exact one. Nearly the same: a relation on whole numbers that goes through products, sums and quotients; products of numbers, rounded.
-/
import Derived.Test.YtmakephdanbmaaaFrKc
import Derived.Test.YtmakephdanbmaaaFrKb
set_option linter.unusedVariables false
set_option linter.unusedSimpArgs false
namespace Go.Bn
open Go
def UU : Nat := 9007199254740992
def UV : Nat := 9007199254740991
theorem uv_lt : UV ≤ UU := by decide
theorem uv_pos : 0 < UV := by decide
/-- a and b are the same but for k factors of 1 - 2^-53, either way. -/
structure Apx (k : Nat) (a b : Nat) : Prop where
  l : a * UV ^ k ≤ b * UU ^ k
  r : b * UV ^ k ≤ a * UU ^ k
theorem Apx.symm {k a b : Nat} (h : Apx k a b) : Apx k b a := ⟨h.r, h.l⟩
theorem uv_pow (k : Nat) : UV ^ k ≤ UU ^ k := Nat.pow_le_pow_left uv_lt k
theorem Apx.trans {k l a b c : Nat} (h : Apx k a b) (g : Apx l b c) : Apx (k + l) a c := by
  constructor
  · rw [Nat.pow_add, Nat.pow_add, ← Nat.mul_assoc]
    refine Nat.le_trans (Nat.mul_le_mul_right _ h.l) ?_
    rw [Nat.mul_right_comm]
    refine Nat.le_trans (Nat.mul_le_mul_right _ g.l) ?_
    rw [Nat.mul_assoc, Nat.mul_comm (UU ^ l)]
    exact Nat.le_refl _
  · rw [Nat.pow_add, Nat.pow_add, Nat.mul_comm (UV ^ k), ← Nat.mul_assoc]
    refine Nat.le_trans (Nat.mul_le_mul_right _ g.r) ?_
    rw [Nat.mul_right_comm]
    refine Nat.le_trans (Nat.mul_le_mul_right _ h.r) ?_
    rw [Nat.mul_assoc]
    exact Nat.le_refl _
theorem mul4 (a b c d : Nat) : a * b * (c * d) = (a * c) * (b * d) := by
  rw [Nat.mul_assoc, Nat.mul_left_comm b c d, ← Nat.mul_assoc]
theorem Apx.mul {k l a b c d : Nat} (h : Apx k a b) (g : Apx l c d) : Apx (k + l) (a * c) (b * d) := by
  constructor
  · rw [Nat.pow_add, Nat.pow_add, mul4, mul4 b]
    exact Nat.mul_le_mul h.l g.l
  · rw [Nat.pow_add, Nat.pow_add, mul4, mul4 a]
    exact Nat.mul_le_mul h.r g.r
theorem Apx.mono {k l a b : Nat} (h : Apx k a b) (hk : k ≤ l) : Apx l a b := by
  obtain ⟨d, rfl⟩ : ∃ d, l = k + d := ⟨l - k, by omega⟩
  constructor
  · rw [Nat.pow_add, Nat.pow_add, ← Nat.mul_assoc, ← Nat.mul_assoc]
    exact Nat.mul_le_mul h.l (uv_pow d)
  · rw [Nat.pow_add, Nat.pow_add, ← Nat.mul_assoc, ← Nat.mul_assoc]
    exact Nat.mul_le_mul h.r (uv_pow d)
theorem Apx.add {k a b c d : Nat} (h : Apx k a b) (g : Apx k c d) : Apx k (a + c) (b + d) := by
  constructor
  · rw [Nat.add_mul, Nat.add_mul]; exact Nat.add_le_add h.l g.l
  · rw [Nat.add_mul, Nat.add_mul]; exact Nat.add_le_add h.r g.r
/-- 2^1074: so many of the least steps are 1. -/
def NZ : Nat := 1074
def PZ : Nat := 2 ^ NZ
theorem pz_pos : 0 < PZ := Nat.two_pow_pos NZ
/-- A number above nought, from 2^-k to 2^k. -/
structure Rng (x : Nat) (k : Nat) : Prop where
  f : rung x < 9218868437227405312
  s : sgn x = false
  lo : PZ ≤ vlu x * 2 ^ k
  hi : vlu x ≤ PZ * 2 ^ k
theorem Rng.pos {x k : Nat} (h : Rng x k) : 0 < vlu x := by
  have h1 := h.lo
  rcases Nat.eq_zero_or_pos (vlu x) with h0 | h0
  · rw [h0, Nat.zero_mul] at h1
    have := pz_pos
    omega
  · exact h0
theorem uu_two : UU ≤ 2 * UV := by decide
/-- Nearly the same: not more than twice. -/
theorem Apx.two {a b : Nat} (h : Apx 1 a b) : a ≤ 2 * b ∧ b ≤ 2 * a := by
  have h1 := h.l
  have h2 := h.r
  rw [Nat.pow_one, Nat.pow_one] at h1 h2
  have hv := uv_pos
  have h3 := uu_two
  constructor
  · have h4 := Nat.mul_le_mul_left b h3
    have h5 : a * UV ≤ 2 * b * UV := by
      refine Nat.le_trans h1 (Nat.le_trans h4 (Nat.le_of_eq ?_))
      rw [← Nat.mul_assoc, Nat.mul_comm b 2]
    exact Nat.le_of_mul_le_mul_right h5 hv
  · have h4 := Nat.mul_le_mul_left a h3
    have h5 : b * UV ≤ 2 * a * UV := by
      refine Nat.le_trans h2 (Nat.le_trans h4 (Nat.le_of_eq ?_))
      rw [← Nat.mul_assoc, Nat.mul_comm a 2]
    exact Nat.le_of_mul_le_mul_right h5 hv
end Go.Bn
