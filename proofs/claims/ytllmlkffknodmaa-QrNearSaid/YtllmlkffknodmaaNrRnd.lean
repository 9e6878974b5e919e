/-
  Shifts to the right, lengths and digits of whole numbers; rounding of whole numbers by shifts.
-/
import Derived.Test.YtllmlkffknodmaaNrKe
import Derived.Test.YtllmlkffknodmaaNrQra
import Derived.Test.YtllmlkffknodmaaNrSeg
set_option linter.unusedVariables false
set_option linter.unusedSimpArgs false
namespace Go.Bn
open Go
/-! ## Rounding -/
def INF : Nat := 9218868437227405312
def upB (q : Nat) (c : Int) : Bool := decide (0 < c) || (decide (c = 0) && decide (q % 2 = 1))
def cutC (m s : Nat) : Int := if m % 2 ^ s = 0 then -2 else cmpN (m % 2 ^ s) (2 ^ (s - 1))
theorem cut_low {neg : Bool} {n s : Nat} (h : n ≠ 0) (hs : s ≠ 0) : Ieee.Toward.even.cut neg n s = if upB (n / 2 ^ s) (cutC n s) = true then n / 2 ^ s + 1 else n / 2 ^ s := by
  obtain ⟨d, rfl⟩ : ∃ d, s = d + 1 := ⟨s - 1, by omega⟩
  have key : ∀ G H low rest : Nat, G = 2 * H → rest < G → 0 < H → (low + (decide (G < 2 * rest) || (G == 2 * rest && low % 2 == 1)).toNat) = if upB low (if rest = 0 then -2 else cmpN rest H) = true then low + 1 else low := by
    intro G H low rest h1 h2 h3
    unfold upB cmpN
    by_cases a0 : rest = 0
    · subst a0
      simp
      omega
    · rw [if_neg a0]
      by_cases a1 : rest < H
      · rw [if_pos a1]
        have : (decide (G < 2 * rest) || (G == 2 * rest && low % 2 == 1)) = false := by simp; omega
        rw [this]; simp
      · rw [if_neg a1]
        by_cases a2 : H < rest
        · rw [if_pos a2]
          have : (decide (G < 2 * rest) || (G == 2 * rest && low % 2 == 1)) = true := by simp; omega
          rw [this]; simp
        · rw [if_neg a2]
          have e : G = 2 * rest := by omega
          by_cases a3 : low % 2 = 1
          · have : (decide (G < 2 * rest) || (G == 2 * rest && low % 2 == 1)) = true := by simp; omega
            rw [this]; simp [a3]
          · have : (decide (G < 2 * rest) || (G == 2 * rest && low % 2 == 1)) = false := by simp; omega
            rw [this]; simp [a3]
  unfold Ieee.Toward.cut
  simp only [Nat.shiftLeft_eq, Nat.one_mul]
  unfold cutC
  rw [show d + 1 - 1 = d by omega]
  have hp := Nat.two_pow_pos d
  by_cases hd : d + 1 ≤ n.log2 + 2
  · rw [Nat.min_eq_left hd]
    exact key _ _ _ _ (by rw [Nat.pow_succ]; omega) (Nat.mod_lt _ (Nat.two_pow_pos _)) hp
  · rw [Nat.min_eq_right (by omega)]
    have h1 := Nat.lt_log2_self (n := n)
    have h2 : 2 ^ (n.log2 + 2) = 2 * 2 ^ (n.log2 + 1) := by rw [Nat.pow_succ 2 (n.log2 + 1)]; omega
    have h3 : 2 ^ (n.log2 + 1) ≤ 2 ^ d := Nat.pow_le_pow_right (by omega) (by omega)
    have h4 : 2 ^ (d + 1) = 2 * 2 ^ d := by rw [Nat.pow_succ]; omega
    have k1 := key (2 ^ (d + 1)) (2 ^ d) (n / 2 ^ (d + 1)) (n % 2 ^ (d + 1)) h4 (Nat.mod_lt _ (Nat.two_pow_pos _)) hp
    rw [← k1]
    rw [Nat.div_eq_of_lt (show n < 2 ^ (n.log2 + 2) by omega), Nat.mod_eq_of_lt (show n < 2 ^ (n.log2 + 2) by omega), Nat.div_eq_of_lt (show n < 2 ^ (d + 1) by omega), Nat.mod_eq_of_lt (show n < 2 ^ (d + 1) by omega)]
    congr 2
    have e1 : decide (2 ^ (n.log2 + 2) < 2 * n) = false := by simp; omega
    have e2 : decide (2 ^ (d + 1) < 2 * n) = false := by simp; omega
    rw [e1, e2]
    simp
/-- The place of the last digit that is kept. -/
def qtm (m : Nat) (e : Int) : Int := max (e + m.log2 - 52) (-1074)
/-- What is kept. -/
def kpt (neg : Bool) (m : Nat) (e : Int) : Nat := if qtm m e ≤ e then m * 2 ^ (e - qtm m e).toNat else Ieee.Toward.even.cut neg m (qtm m e - e).toNat
theorem nearest_kpt {neg : Bool} {m : Nat} {e : Int} (h : m ≠ 0) : Ieee.double.nearest neg m e = Ieee.double.word neg (min ((qtm m e + 1074).toNat * 4503599627370496 + kpt neg m e) INF) := by
  unfold Ieee.Format.nearest
  rw [if_neg h]
  simp only [fbE, lpE, binA, infR]
  have e1 : max (e + (m.log2 : Int) - ((52 : Nat) : Int)) (-1074) = qtm m e := rfl
  rw [e1, show qtm m e - -1074 = qtm m e + 1074 by omega]
  unfold kpt INF
  congr 3
  · split
    · rename_i h1
      rw [show (qtm m e - e).toNat = 0 by omega, cut_zero, Nat.shiftLeft_eq]
    · rename_i h1
      rw [show (e - qtm m e).toNat = 0 by omega, Nat.shiftLeft_zero]
theorem kpt_le {neg : Bool} {m : Nat} {e : Int} (h : m ≠ 0) : kpt neg m e ≤ 9007199254740992 ∧ (-1074 < qtm m e → 4503599627370496 ≤ kpt neg m e) := by
  have l1 := Nat.log2_self_le h
  have l2 := Nat.lt_log2_self (n := m)
  have p53 : (2 : Nat) ^ 53 = 9007199254740992 := by decide
  have p52 : (2 : Nat) ^ 52 = 4503599627370496 := by decide
  have hq : e + m.log2 - 52 ≤ qtm m e ∧ -1074 ≤ qtm m e ∧ (-1074 < qtm m e → qtm m e = e + m.log2 - 52) := by unfold qtm; omega
  obtain ⟨q1, q2, q3⟩ := hq
  unfold kpt
  generalize qtm m e = q at *
  split
  · rename_i h1
    obtain ⟨j, hj⟩ : ∃ j : Nat, (e - q).toNat = j := ⟨_, rfl⟩
    rw [hj]
    constructor
    · have : m * 2 ^ j < 2 ^ (m.log2 + 1) * 2 ^ j := (Nat.mul_lt_mul_right (Nat.two_pow_pos j)).2 l2
      rw [← Nat.pow_add] at this
      have h3 : 2 ^ (m.log2 + 1 + j) ≤ 2 ^ 53 := Nat.pow_le_pow_right (by omega) (by omega)
      omega
    · intro h2
      have h4 := q3 h2
      have : 2 ^ m.log2 * 2 ^ j ≤ m * 2 ^ j := Nat.mul_le_mul_right _ l1
      rw [← Nat.pow_add, show m.log2 + j = 52 by omega] at this
      omega
  · rename_i h1
    obtain ⟨s, hs⟩ : ∃ s : Nat, (q - e).toNat = s := ⟨_, rfl⟩
    rw [hs, cut_low h (by omega)]
    have hp := Nat.two_pow_pos s
    have b1 : m / 2 ^ s < 2 ^ 53 := by
      rw [Nat.div_lt_iff_lt_mul hp, ← Nat.pow_add]
      exact Nat.lt_of_lt_of_le l2 (Nat.pow_le_pow_right (by omega) (by omega))
    constructor
    · split <;> omega
    · intro h2
      have h4 := q3 h2
      have b2 : 2 ^ 52 ≤ m / 2 ^ s := by
        rw [Nat.le_div_iff_mul_le hp, ← Nat.pow_add, show 52 + s = m.log2 by omega]
        exact l1
      split <;> omega
def sgb (neg : Bool) : Nat := if neg = true then 9223372036854775808 else 0
theorem word_sgb (neg : Bool) (r : Nat) : Ieee.double.word neg r = sgb neg + r := by
  unfold Ieee.Format.word sgb
  rw [signW]
  cases neg <;> simp
end Go.Bn
