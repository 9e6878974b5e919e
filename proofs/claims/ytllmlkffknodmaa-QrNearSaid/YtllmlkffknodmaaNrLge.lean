/-
  Scaled by a power of two, what is above a number stays above it.
-/
import Derived.Test.YtllmlkffknodmaaNrSqg
import Derived.Test.YtllmlkffknodmaaNrLdx
set_option linter.unusedVariables false
set_option linter.unusedSimpArgs false
namespace Go.Bn
open Go
theorem ldx_ge {g x : Nat} {K : Int} (hg : g < 2 ^ 64) (fg : rung g < 9218868437227405312) (hm : mgn g ≠ 0) (k0 : -2000 ≤ K) (k1 : K ≤ 2000) (hf : rung (ldx g K) < 9218868437227405312) (h : vlu x * 2 ^ (-K).toNat ≤ vlu g * 2 ^ K.toNat) : vlu x ≤ vlu (ldx g K) := by
  rw [ldx_near hg fg hm (by omega) (by omega)] at hf ⊢
  have hp := plc_ge g
  obtain ⟨N, hN⟩ : ∃ N : Nat, N = 4000 := ⟨_, rfl⟩
  refine nearest_ge (m := mgn x) (e := (plc x + 1074).toNat) (N := N) hf (mgn_lt x) (by omega) (by omega) ?_
  refine Nat.le_of_mul_le_mul_right (c := 2 ^ (-K).toNat) ?_ (Nat.two_pow_pos _)
  have h2 := Nat.mul_le_mul_right (2 ^ (N - 1074)) h
  have e2 : mgn g * 2 ^ (plc g + K + (N : Int)).toNat * 2 ^ (-K).toNat = vlu g * 2 ^ K.toNat * 2 ^ (N - 1074) := by
    have hv : vlu g = mgn g * 2 ^ (plc g + 1074).toNat := rfl
    have hE : (plc g + K + (N : Int)).toNat + (-K).toNat = (plc g + 1074).toNat + K.toNat + (N - 1074) := by omega
    calc mgn g * 2 ^ (plc g + K + (N : Int)).toNat * 2 ^ (-K).toNat = mgn g * 2 ^ ((plc g + K + (N : Int)).toNat + (-K).toNat) := by rw [Nat.mul_assoc, Nat.pow_add]
      _ = mgn g * 2 ^ ((plc g + 1074).toNat + K.toNat + (N - 1074)) := by rw [hE]
      _ = vlu g * 2 ^ K.toNat * 2 ^ (N - 1074) := by rw [hv, Nat.pow_add, Nat.pow_add, Nat.mul_assoc, Nat.mul_assoc, Nat.mul_assoc]
  rw [e2]
  refine Nat.le_trans (Nat.le_of_eq ?_) h2
  have hv : vlu x = mgn x * 2 ^ (plc x + 1074).toNat := rfl
  rw [← hv]
  have key : ∀ a b c : Nat, a * b * c = a * c * b := fun a b c => Nat.mul_right_comm a b c
  rw [key]
end Go.Bn
