/-
  How far a dot product in order of up to 48 lies from the exact one (as XNear, for longer lists).
-/
import Derived.Test.YtllmlkffknodmaaNrKf
set_option linter.unusedVariables false
set_option linter.unusedSimpArgs false
namespace Go.Bn
open Go
theorem wilk1N {K U k D d D' A p Z : Nat} (h1 : 2 * K * U * D ≤ (k + 1) * (K + 1) * (2 * A + Z)) (h2 : 2 * U * d ≤ 2 * p + Z) (h3 : U * D' ≤ (U + 1) * (D + d) + (A + p)) (hk : k + 1 ≤ 47) (hU : 50 * (K + 1) ≤ U) :
    2 * K * U * D' ≤ (k + 1 + 1) * (K + 1) * (2 * (A + p) + Z) := by
  have e : (k + 1) * (K + 1) + (K + 1) = (k + 1 + 1) * (K + 1) := by grind
  rw [← e]
  have l1 : 1 * (K + 1) ≤ (k + 1) * (K + 1) := Nat.mul_le_mul_right _ (by omega)
  have l2 : (k + 1) * (K + 1) ≤ 48 * (K + 1) := Nat.mul_le_mul_right _ (by omega)
  exact wilk h1 h2 h3 (by omega) (by omega) (by omega)
theorem wilk2N {K U D A m Z : Nat} (h : 2 * K * U * D ≤ m * (K + 1) * (2 * A + U * Z)) (hm : m ≤ 48) (hK : 48 ≤ K) : D * U ≤ A * (m + 1) + m * (Z * U) := by
  have h1 : m * A ≤ 48 * A := Nat.mul_le_mul_right _ hm
  rw [Nat.mul_comm Z]
  generalize U * Z = Y at *
  suffices hs : 2 * K * (D * U) ≤ 2 * K * (A * (m + 1) + m * Y) from Nat.le_of_mul_le_mul_left hs (by omega)
  have h2 : m * Y ≤ K * (m * Y) := Nat.le_mul_of_pos_left _ (by omega)
  have h3 : 48 * A ≤ K * A := Nat.mul_le_mul_right _ hK
  grind
theorem kk_uuN : 50 * (KK + 1) ≤ UU := by decide
theorem dev_leN {xs ys : List Nat} (hy : ∀ k, fmul (xs.getD k 0) (ys.getD k 0) < 2 ^ 64) : ∀ {k : Nat}, k ≤ 47 → rung (dotTo xs ys (k + 1)) < 9218868437227405312 →
    2 * KK * UU * dev xs ys (k + 1) ≤ (k + 1) * (KK + 1) * (2 * amtV xs ys (k + 1) + UU * PZ)
  | 0, _, hf => dev_le hy (k := 0) (by omega) hf
  | k + 1, hk, hf => by
    have hf' := hf
    rw [dot_suc] at hf'
    have h1 := (fadd_fin2 hf').1
    have h2 := (fadd_fin2 hf').2
    clear hf'
    exact wilk1N (dev_leN hy (k := k) (by omega) h1) (mul_dev h2) (dev_step hf) (by omega) kk_uuN
/-- Wilkinson's bound, up to 48. -/
theorem near_leN {xs ys : List Nat} {n : Nat} (hy : ∀ k, fmul (xs.getD k 0) (ys.getD k 0) < 2 ^ 64) (hn : n ≤ 48) (hf : rung (dotTo xs ys n) < 9218868437227405312) :
    dev xs ys n * UU ≤ amtV xs ys n * (n + 1) + n * (PZ * UU) := by
  cases n with
  | zero => exact near_le hy (by omega) hf
  | succ k => exact wilk2N (dev_leN hy (k := k) (by omega) hf) hn (by decide)
end Go.Bn
