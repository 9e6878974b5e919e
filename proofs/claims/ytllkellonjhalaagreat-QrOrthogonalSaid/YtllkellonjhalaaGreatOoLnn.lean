/-
 How far a dot product in order of up to 48 lies from the exact one (as XNear, for longer lists).
-/
import Derived.Test.YtllkellonjhalaaGreatOoKf
import Derived.Test.YtllkellonjhalaaGreatOoTrn
set_option linter.unusedVariables false
set_option linter.unusedSimpArgs false
namespace Go.Bn
open Go
theorem wilk1N {K U k D d D' A p Z : Nat} (h1 : 2 * K * U * D ≤ (k + 1) * (K + 1) * (2 * A + Z)) (h2 : 2 * U * d ≤ 2 * p + Z) (h3 : U * D' ≤ (U + 1) * (D + d) + (A + p)) (hk : k + 1 ≤ 47) (hU : 50 * (K + 1) ≤ U) :
  2 * K * U * D' ≤ (k + 1 + 1) * (K + 1) * (2 * (A + p) + Z) := by
 have e : (k + 1) * (K + 1) + (K + 1) = (k + 1 + 1) * (K + 1) := by grind
 rw [← e]
 have l1 : 1 * (K + 1) ≤ (k + 1) * (K + 1) := Nat.mul_le_mul_right _ (by omega)
 have l2 : (k + 1) * (K + 1) ≤ 48 * (K + 1) := Nat.mul_le_mul_right _ (by omega)
 exact wilk h1 h2 h3 (by omega) (by omega) (by omega)
theorem wilk2N {K U D A m Z : Nat} (h : 2 * K * U * D ≤ m * (K + 1) * (2 * A + U * Z)) (hm : m ≤ 48) (hK : 48 ≤ K) : D * U ≤ A * (m + 1) + m * (Z * U) := by
 have h1 : m * A ≤ 48 * A := Nat.mul_le_mul_right _ hm
 rw [Nat.mul_comm Z]
 generalize U * Z = Y at *
 suffices hs : 2 * K * (D * U) ≤ 2 * K * (A * (m + 1) + m * Y) from Nat.le_of_mul_le_mul_left hs (by omega)
 have h2 : m * Y ≤ K * (m * Y) := Nat.le_mul_of_pos_left _ (by omega)
 have h3 : 48 * A ≤ K * A := Nat.mul_le_mul_right _ hK
 grind
theorem kk_uuN : 50 * (KK + 1) ≤ UU := by decide
theorem dev_leN {xs ys : List Nat} (hy : ∀ k, fmul (xs.getD k 0) (ys.getD k 0) < 2 ^ 64) : ∀ {k : Nat}, k ≤ 47 → rung (dotTo xs ys (k + 1)) < 9218868437227405312 →
  2 * KK * UU * dev xs ys (k + 1) ≤ (k + 1) * (KK + 1) * (2 * amtV xs ys (k + 1) + UU * PZ)
 | 0, _, hf => dev_le hy (k := 0) (by omega) hf
 | k + 1, hk, hf => by
  have hf' := hf
  rw [dot_suc] at hf'
  have h1 := (fadd_fin2 hf').1
  have h2 := (fadd_fin2 hf').2
  clear hf'
  exact wilk1N (dev_leN hy (k := k) (by omega) h1) (mul_dev h2) (dev_step hf) (by omega) kk_uuN
theorem near_leN {xs ys : List Nat} {n : Nat} (hy : ∀ k, fmul (xs.getD k 0) (ys.getD k 0) < 2 ^ 64) (hn : n ≤ 48) (hf : rung (dotTo xs ys n) < 9218868437227405312) :
  dev xs ys n * UU ≤ amtV xs ys n * (n + 1) + n * (PZ * UU) := by
 cases n with
 | zero => exact near_le hy (by omega) hf
 | succ k => exact wilk2N (dev_leN hy (k := k) (by omega) hf) hn (by decide)
end Go.Bn
namespace Go.Bn
open Go
def sqV (ys : List Nat) : Nat → Nat
 | 0 => 0
 | k + 1 => sqV ys k + vlu (ys.getD k 0) * vlu (ys.getD k 0)
theorem amt_sq (ys : List Nat) : ∀ k, amtV ys ys k = sqV ys k
 | 0 => rfl
 | k + 1 => by rw [amtV, sqV, amt_sq ys k, Int.natAbs_mul, sval_abs]
theorem sum_sq (ys : List Nat) : ∀ k, sumV ys ys k = (sqV ys k : Int)
 | 0 => rfl
 | k + 1 => by
  rw [sumV, sqV, sum_sq ys k, sval_sgz, sgz_mul, Bool.xor_self]
  simp [sgz]
theorem sq_at {ys : List Nat} : ∀ {n i : Nat}, i < n → vlu (ys.getD i 0) * vlu (ys.getD i 0) ≤ sqV ys n
 | 0, i, h => absurd h (Nat.not_lt_zero i)
 | n + 1, i, h => by
  rw [sqV]
  by_cases e : i = n
  ·rw [e]; exact Nat.le_add_left _ _
  ·exact Nat.le_trans (sq_at (n := n) (by omega)) (Nat.le_add_right _ _)
theorem sq_up {ys : List Nat} {B : Nat} (h : ∀ i, vlu (ys.getD i 0) ≤ B) : ∀ n, sqV ys n ≤ n * (B * B)
 | 0 => Nat.zero_le _
 | n + 1 => by
  rw [sqV, Nat.add_mul, Nat.one_mul]
  exact Nat.add_le_add (sq_up h n) (Nat.mul_le_mul (h n) (h n))
theorem pow_top {k : Nat} (hk : k ≤ 200) : 2 ^ k * PZ < 2 ^ (1074 + 1023) := by
 obtain ⟨M, hM⟩ : ∃ M, M = NZ + 1023 := ⟨_, rfl⟩
 rw [show 1074 + 1023 = M by rw [hM, nz], pz_def, ← Nat.pow_add]
 exact Nat.pow_lt_pow_right (by omega) (by omega)
theorem dot_fin48 {ys : List Nat} (fin : ∀ k, rung (ys.getD k 0) < 9218868437227405312) (b : ∀ k, vlu (ys.getD k 0) ≤ 2 * PZ) : ∀ n, n ≤ 48 → rung (dotTo ys ys n) < 9218868437227405312 ∧ vlu (dotTo ys ys n) ≤ (2 ^ n - 1) * (18 * PZ)
 | 0, _ => ⟨by show rung 0 < _; decide, by show vlu 0 ≤ _; rw [show vlu 0 = 0 by decide +kernel]; exact Nat.zero_le _⟩
 | n + 1, hn => by
  obtain ⟨f1, b1⟩ := dot_fin48 fin b n (by omega)
  obtain ⟨f2, b2⟩ := sq_fin (fin n) (b n)
  have hP := pz_pos
  have c1 := sval_abs (dotTo ys ys n)
  have c2 := sval_abs (fmul (ys.getD n 0) (ys.getD n 0))
  have hp1 : 1 ≤ 2 ^ n := Nat.one_le_two_pow
  have hp2 : 2 ^ (n + 1) = 2 * 2 ^ n := by rw [Nat.pow_succ, Nat.mul_comm]
  have hp3 : 2 ^ n ≤ 2 ^ 47 := Nat.pow_le_pow_right (by omega) (by omega)
  have c3 : (sval (dotTo ys ys n) + sval (fmul (ys.getD n 0) (ys.getD n 0))).natAbs ≤ (2 ^ n - 1) * (18 * PZ) + 9 * PZ := by omega
  have hf : rung (dotTo ys ys (n + 1)) < 9218868437227405312 := by
   rw [dot_suc, fadd_int f1 f2]
   refine nearest_fin (N := 1074) (by decide) ?_
   have h0 : (-1074 + ((1074 : Nat) : Int)).toNat = 0 := by decide
   rw [h0, Nat.pow_zero, Nat.mul_one]
   refine Nat.lt_of_le_of_lt c3 (Nat.lt_of_le_of_lt ?_ (pow_top (k := 60) (by omega)))
   have : (2 ^ n - 1) * (18 * PZ) + 9 * PZ ≤ 2 ^ 47 * (18 * PZ) := by
    have e : (2 ^ n - 1) * (18 * PZ) + 18 * PZ = 2 ^ n * (18 * PZ) := by
     rw [← Nat.succ_mul]; congr 1; omega
    have := Nat.mul_le_mul_right (18 * PZ) hp3
    omega
   refine Nat.le_trans this ?_
   rw [← Nat.mul_assoc]
   exact Nat.mul_le_mul_right _ (by decide)
  refine ⟨hf, ?_⟩
  have he := fadd_err f1 f2 (by rw [← dot_suc]; exact hf)
  have c4 := sval_abs (dotTo ys ys (n + 1))
  rw [dot_suc] at c4 ⊢
  rw [← c4]
  have hd : (sval (fadd (dotTo ys ys n) (fmul (ys.getD n 0) (ys.getD n 0))) - (sval (dotTo ys ys n) + sval (fmul (ys.getD n 0) (ys.getD n 0)))).natAbs ≤ (sval (dotTo ys ys n) + sval (fmul (ys.getD n 0) (ys.getD n 0))).natAbs :=
   Nat.le_trans (Nat.le_mul_of_pos_right _ uu_pos) he
  have e : (2 ^ (n + 1) - 1) * (18 * PZ) = 2 * ((2 ^ n - 1) * (18 * PZ)) + 18 * PZ := by
   obtain ⟨q, hq⟩ : ∃ q, 2 ^ n = q + 1 := ⟨2 ^ n - 1, by omega⟩
   rw [hp2, hq, show 2 * (q + 1) - 1 = 2 * q + 1 by omega, show q + 1 - 1 = q by omega, Nat.add_mul, Nat.one_mul, Nat.mul_assoc]
  rw [e]
  omega
theorem len_gen {ys : List Nat} {n : Nat} (hn : n ≤ 48) (fin : ∀ k, rung (ys.getD k 0) < 9218868437227405312) (b : ∀ k, vlu (ys.getD k 0) ≤ 2 * PZ) {i : Nat} (hi : i < n) (h1 : PZ ≤ vlu (ys.getD i 0)) :
  Rng (fsqrt (dotTo ys ys n)) 11 ∧ fsqrt (dotTo ys ys n) < 2 ^ 64 ∧ Cl (n + 7) (vlu (fsqrt (dotTo ys ys n)) * vlu (fsqrt (dotTo ys ys n))) (sqV ys n) := by
 have hP := pz_pos
 have fd := (dot_fin48 fin b n hn).1
 have hy : ∀ k, fmul (ys.getD k 0) (ys.getD k 0) < 2 ^ 64 := fun k => fop_lt (op := .mul)
 have hnear := near_leN (n := n) hy hn fd
 unfold dev at hnear
 rw [amt_sq, sum_sq] at hnear
 obtain ⟨q, hq⟩ : ∃ q, q = dotTo ys ys n := ⟨_, rfl⟩
 rw [← hq] at hnear fd ⊢
 obtain ⟨W, hW⟩ : ∃ W, W = sqV ys n := ⟨_, rfl⟩
 have hW1 : PZ * PZ ≤ W := by rw [hW]; exact Nat.le_trans (Nat.mul_le_mul h1 h1) (sq_at hi)
 have hW2 : W ≤ 192 * (PZ * PZ) := by
  rw [hW]
  refine Nat.le_trans (sq_up b n) ?_
  rw [show 2 * PZ * (2 * PZ) = 4 * (PZ * PZ) by rw [mul4]]
  have := Nat.mul_le_mul_right (4 * (PZ * PZ)) hn
  omega
 rw [← hW] at hnear ⊢
 have hsm : n * (PZ * UU) ≤ W := by
  refine Nat.le_trans ?_ hW1
  rw [Nat.mul_comm, Nat.mul_assoc]
  exact Nat.mul_le_mul_left _ (Nat.le_trans (Nat.mul_le_mul_left UU (show n ≤ 2 ^ 200 from Nat.le_trans hn (by decide))) pz_big)
 have hdev : (sval q * (PZ : Nat) - (W : Int)).natAbs * UU ≤ (n + 2) * W := by
  have e : (n + 2) * W = W * (n + 1) + W := by rw [Nat.mul_comm, show n + 2 = n + 1 + 1 by omega, Nat.mul_succ]
  omega
 have hdev2 : (sval q * (PZ : Nat) - (W : Int)).natAbs * 2 ≤ W := by
  generalize (sval q * (PZ : Nat) - (W : Int)).natAbs = d at *
  have u1 := Nat.mul_le_mul_left d (show 100 ≤ UU by decide)
  have u2 := Nat.mul_le_mul_right W (show n + 2 ≤ 50 by omega)
  omega
 have hWp : 0 < W := Nat.lt_of_lt_of_le (Nat.mul_pos hP hP) hW1
 have hqp : 0 < sval q := by
  rcases Int.lt_or_le 0 (sval q) with h | h
  ·exact h
  ·exfalso
   have h2 : sval q * (PZ : Nat) ≤ 0 := Int.mul_nonpos_of_nonpos_of_nonneg h (by omega)
   omega
 have hs := sval_pos hqp
 have hv : sval q = (vlu q : Int) := by unfold sval; rw [hs]; rfl
 have hc : Cl (n + 2) (vlu q * PZ) W := by
  refine ⟨(sval q * (PZ : Nat) - (W : Int)).natAbs, ?_, ?_, hdev⟩ <;> rw [hv, ← Int.natCast_mul] <;> omega
 obtain ⟨q1, q2⟩ := hc.two (by have : UU = 9007199254740992 := rfl; omega)
 have hr : Rng q 9 := by
  refine ⟨fd, hs, ?_, ?_⟩
  ·refine Nat.le_of_mul_le_mul_right (c := PZ) ?_ hP
   rw [Nat.mul_right_comm, show (2 : Nat) ^ 9 = 512 by decide]
   omega
  ·refine Nat.le_of_mul_le_mul_right (c := PZ) ?_ hP
   rw [Nat.mul_right_comm, show (2 : Nat) ^ 9 = 512 by decide]
   omega
 obtain ⟨s1, s2⟩ := sqrt_apx hr (by omega)
 have h4 := (cl_apx3 s1).trans hc (by
  have := Nat.mul_le_mul_left 4 (show n + 2 ≤ 50 by omega)
  exact Nat.le_trans this (by decide))
 rw [show 4 + (n + 2) + 1 = n + 7 by omega] at h4
 exact ⟨s2, fsqrt_lt', h4⟩
end Go.Bn
