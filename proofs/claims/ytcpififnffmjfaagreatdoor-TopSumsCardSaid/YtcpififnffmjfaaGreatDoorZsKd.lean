/-
 Plain facts on motions. Plain facts on blocks laid on a diagonal. Square roots; the blocks of roots. How far a rounded number lies from the exact one. Nearly the same: a relation on whole numbers that goes through products, sums and quotients; products of numbers, rounded.
-/
import Derived.Test.YtcpififnffmjfaaGreatDoorZsKc
import Derived.Test.YtcpififnffmjfaaGreatDoorZsKb
set_option linter.unusedVariables false
set_option linter.unusedSimpArgs false
namespace Go.Bn
open Go
section ops
variable {P : Program} {n : Nat} {ops : Array Oper} {Γ : Facts} {ρ : Env} {δ : VEnv} {τ : List VR}
variable {d : Nat} {ty : TypeId} {pos : String} {af : Array Edge}
theorem op_imin {x y : Operand} {ats : Array TypeId} {k : IntKind} {a b : Int} (hx : Lk Γ δ ρ x (isv (.int k a))) (hy : Lk Γ δ ρ y (isv (.int k b))) :
  OpOK P n ops Γ ρ δ τ ⟨some d, .call ⟨.builtin .min, #[x, y], ats⟩, ty, pos, af, none⟩ .no (.c (isv (.int k (min a b)))) dum :=
 ok_pure fun A c _ hr => by
  have h1 := (hr x _ (by simp [Op.operands, Call.operands]) hx).1
  have h2 := (hr y _ (by simp [Op.operands, Call.operands]) hy).1
  refine ⟨.int k (min a b), ?_, rfl, rfl⟩
  by_cases h : b < a
  ·simp [execOp, resolve, invoke, builtin, Builtin.min_, Builtin.min2, h1, h2, h, show min a b = b by omega]
  ·simp [execOp, resolve, invoke, builtin, Builtin.min_, Builtin.min2, h1, h2, h, show min a b = a by omega]
end ops
theorem sub_zero_eq {x : Nat} (hx : x < 2 ^ 64) : fcmp .eql (fsub x x) 0 = finB x := by
 rw [fsub_self hx]
 cases finB x <;> decide +kernel
end Go.Bn
namespace Go.Bn
open Go
theorem cut_err {neg : Bool} {n d : Nat} (h : n ≠ 0) : 2 * (Ieee.Toward.even.cut neg n d * 2 ^ d) ≤ 2 * n + 2 ^ d ∧ 2 * n ≤ 2 * (Ieee.Toward.even.cut neg n d * 2 ^ d) + 2 ^ d := by
 unfold Ieee.Toward.cut
 simp only [Nat.shiftLeft_eq, Nat.one_mul]
 by_cases hd : d ≤ n.log2 + 2
 ·rw [Nat.min_eq_left hd]
  have hg := Nat.two_pow_pos d
  generalize 2 ^ d = G at *
  have e := Nat.div_add_mod n G
  have hr := Nat.mod_lt n hg
  generalize n / G = low at *
  generalize n % G = rest at *
  rw [Nat.mul_comm G low] at e
  cases hm : (decide (G < 2 * rest) || (G == 2 * rest && low % 2 == 1))
  ·simp only [Bool.or_eq_false_iff, decide_eq_false_iff_not] at hm
   simp only [Bool.toNat_false, Nat.add_zero]
   omega
  ·simp only [Bool.or_eq_true, decide_eq_true_eq, Bool.and_eq_true, beq_iff_eq] at hm
   simp only [Bool.toNat_true, Nat.add_mul, Nat.one_mul]
   omega
 ·rw [Nat.min_eq_right (by omega)]
  have h1 := Nat.lt_log2_self (n := n)
  have h2 : 2 ^ (n.log2 + 2) = 2 * 2 ^ (n.log2 + 1) := by rw [Nat.pow_succ 2 (n.log2 + 1)]; omega
  have h3 : 2 ^ (n.log2 + 2) ≤ 2 ^ d := Nat.pow_le_pow_right (by omega) (by omega)
  rw [Nat.div_eq_of_lt (by omega), Nat.mod_eq_of_lt (by omega)]
  have hm : (decide (2 ^ (n.log2 + 2) < 2 * n) || (2 ^ (n.log2 + 2) == 2 * n && 0 % 2 == 1)) = false := by
   simp
   omega
  rw [hm]
  simp
  omega
theorem vlu_word {s : Bool} {t K : Nat} (hK : K ≤ 9007199254740992) (ht : t = 0 ∨ 4503599627370496 ≤ K) (w : Nat) (hw : w = Ieee.double.word s (min (t * 4503599627370496 + K) 9218868437227405312)) (hf : rung w < 9218868437227405312) : vlu w = K * 2 ^ t := by
 have h2 := (@word_parts s (min (t * 4503599627370496 + K) 9218868437227405312) (Nat.min_le_right ..)).2.1
 rw [← hw] at h2
 have hr : rung w = t * 4503599627370496 + K := by omega
 unfold vlu mgn plc
 rw [hr]
 by_cases hs : t * 4503599627370496 + K < 4503599627370496
 ·rw [if_pos hs, if_pos hs]
  have : t = 0 := by omega
  subst this
  simp
 ·rw [if_neg hs, if_neg hs]
  by_cases hb : K = 9007199254740992
  ·subst hb
   have e1 : (t * 4503599627370496 + 9007199254740992) % 4503599627370496 = 0 := by omega
   have e2 : (t * 4503599627370496 + 9007199254740992) / 4503599627370496 - 1 = t + 1 := by omega
   rw [e1, e2, show (-1074 + ((t + 1 : Nat) : Int) + 1074).toNat = t + 1 by omega, Nat.pow_succ]
   omega
  ·have hKlow : 4503599627370496 ≤ K := by omega
   have e1 : (t * 4503599627370496 + K) % 4503599627370496 = K - 4503599627370496 := by omega
   have e2 : (t * 4503599627370496 + K) / 4503599627370496 - 1 = t := by omega
   rw [e1, e2, show 4503599627370496 + (K - 4503599627370496) = K by omega, show (-1074 + (t : Int) + 1074).toNat = t by omega]
theorem pow52 : (2 : Nat) ^ 52 = 4503599627370496 := by decide
theorem pow53 : (2 : Nat) ^ 53 = 9007199254740992 := by decide
end Go.Bn
namespace Go.Bn
open Go
theorem nf1 {s : Bool} {p : Int} : rung (Ieee.double.nearest s 0 p) < 9218868437227405312 := by
 rw [nearest_nought]
 cases s
 ·show 0 % 9223372036854775808 < _
  decide
 ·show 9223372036854775808 % 9223372036854775808 < _
  decide
theorem word_fin {s : Bool} {t K : Nat} (ht : t ≤ 2044) (hK : K ≤ 9007199254740992) : rung (Ieee.double.word s (min (t * 4503599627370496 + K) 9218868437227405312)) < 9218868437227405312 := by
 rw [(@word_parts s (min (t * 4503599627370496 + K) 9218868437227405312) (Nat.min_le_right ..)).2.1]
 omega
theorem nearest_fin {s : Bool} {n N : Nat} {p : Int} (hp : -(N : Int) ≤ p) (hb : n * 2 ^ (p + N).toNat < 2 ^ (N + 1023)) : rung (Ieee.double.nearest s n p) < 9218868437227405312 := by
 by_cases hn : n = 0
 ·subst hn
  exact nf1
 ·obtain ⟨last, hlast⟩ : ∃ last, last = max (p + (n.log2 : Int) - 52) (-1074) := ⟨_, rfl⟩
  have hw : Ieee.double.nearest s n p = Ieee.double.word s (min ((last + 1074).toNat * 4503599627370496 + Ieee.Toward.even.cut s (n <<< (p - last).toNat) (last - p).toNat) 9218868437227405312) := by
   unfold Ieee.Format.nearest
   simp only [lpE, fbE, binA, infR]
   rw [if_neg hn, show p + (n.log2 : Int) - ((52 : Nat) : Int) = p + (n.log2 : Int) - 52 by omega, ← hlast, show (last - -1074).toNat = (last + 1074).toNat by omega]
  obtain ⟨c1, c2⟩ := @cut_err s (n <<< (p - last).toNat) (last - p).toNat (shift_ne hn)
  have hlo := Nat.log2_self_le hn
  have hhi := Nat.lt_log2_self (n := n)
  generalize hK : Ieee.Toward.even.cut s (n <<< (p - last).toNat) (last - p).toNat = K at *
  rw [Nat.shiftLeft_eq] at c1 c2
  have hup : n * 2 ^ (p - last).toNat < 9007199254740992 * 2 ^ (last - p).toNat := by
   rw [← pow53, ← Nat.pow_add]
   refine Nat.lt_of_lt_of_le (Nat.mul_lt_mul_of_pos_right hhi (Nat.two_pow_pos _)) ?_
   rw [← Nat.pow_add]
   exact Nat.pow_le_pow_right (by omega) (by omega)
  have hKm : K ≤ 9007199254740992 := by
   have hdp := Nat.two_pow_pos (last - p).toNat
   generalize 2 ^ (last - p).toNat = D at *
   generalize n * 2 ^ (p - last).toNat = A at *
   by_cases hc : K ≤ 9007199254740992
   ·exact hc
   ·have := Nat.mul_le_mul_right D (show 9007199254740992 + 1 ≤ K by omega)
    rw [Nat.add_mul, Nat.one_mul] at this
    omega
  have hl : p + (n.log2 : Int) ≤ 1022 := by
   have h1 : 2 ^ (n.log2 + (p + N).toNat) < 2 ^ (N + 1023) := by
    rw [Nat.pow_add]
    exact Nat.lt_of_le_of_lt (Nat.mul_le_mul_right _ hlo) hb
   have h2 : n.log2 + (p + N).toNat < N + 1023 := (Nat.pow_lt_pow_iff_right (by omega)).1 h1
   omega
  have ht : (last + 1074).toNat ≤ 2044 := by omega
  rw [hw]
  exact word_fin ht hKm
def NZ : Nat := 1074
theorem nz : NZ = 1074 := rfl
def PZ : Nat := 2 ^ NZ
theorem pz_pow (a : Nat) : PZ * 2 ^ a = 2 ^ (NZ + a) := (Nat.pow_add 2 NZ a).symm
end Go.Bn
