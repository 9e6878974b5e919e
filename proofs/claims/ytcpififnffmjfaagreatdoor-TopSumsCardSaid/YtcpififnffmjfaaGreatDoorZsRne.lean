/-
 Shifts to the right, lengths and digits of whole numbers; rounding of whole numbers by shifts.
-/
import Derived.Test.YtcpififnffmjfaaGreatDoorZsKe
import Derived.Test.YtcpififnffmjfaaGreatDoorZsQra
import Derived.Test.YtcpififnffmjfaaGreatDoorZsSeg
set_option linter.unusedVariables false
set_option linter.unusedSimpArgs false
namespace Go.Bn
open Go
def bl (m : Nat) : Nat := if m = 0 then 0 else m.log2 + 1
theorem bl_zero : bl 0 = 0 := rfl
theorem bl_pos {m : Nat} (h : m ≠ 0) : bl m = m.log2 + 1 := if_neg h
theorem bl_shr {t k : Nat} (h : 2 ^ k ≤ t) : bl t = k + bl (t / 2 ^ k) := by
 have hp := Nat.two_pow_pos k
 have h0 : t ≠ 0 := by omega
 have h1 : t / 2 ^ k ≠ 0 := by have := Nat.div_pos h hp; omega
 rw [bl_pos h0, bl_pos h1]
 have a1 := Nat.log2_self_le h1
 have a2 := Nat.lt_log2_self (n := t / 2 ^ k)
 have : t.log2 = k + (t / 2 ^ k).log2 := by
  rw [Nat.log2_eq_iff h0]
  constructor
  ·rw [Nat.pow_add]
   exact Nat.le_trans (Nat.mul_le_mul_left _ a1) (Nat.mul_div_le _ _)
  ·rw [show k + (t / 2 ^ k).log2 + 1 = ((t / 2 ^ k).log2 + 1) + k by omega, Nat.pow_add]
   exact (Nat.div_lt_iff_lt_mul hp).1 a2
 omega
theorem bl_lt {t k : Nat} (h : t < 2 ^ k) : bl t ≤ k := by
 by_cases h0 : t = 0
 ·rw [h0, bl_zero]; omega
 ·rw [bl_pos h0]
  have := (Nat.log2_lt h0).2 h
  omega
theorem bl_le {t k : Nat} (h : bl t ≤ k) : t < 2 ^ k := by
 by_cases h0 : t = 0
 ·rw [h0]; exact Nat.two_pow_pos k
 ·rw [bl_pos h0] at h
  exact (Nat.log2_lt h0).1 (by omega)
theorem bl_ge {t k : Nat} (h : 2 ^ k ≤ t) : k < bl t := by
 by_cases hc : bl t ≤ k
 ·have := bl_le hc; omega
 ·omega
def sgb (neg : Bool) : Nat := if neg = true then 9223372036854775808 else 0
def putW (neg : Bool) (field f : Nat) : Nat := sgb neg + (field * 4503599627370496 + f)
end Go.Bn
namespace Go.Bn
open Go
section ops
variable {P : Program} {n : Nat} {ops : Array Oper} {Γ : Facts} {ρ : Env} {δ : VEnv} {τ : List VR}
variable {d : Nat} {ty : TypeId} {pos : String} {af : Array Edge}
theorem op_imax {x y : Operand} {ats : Array TypeId} {k : IntKind} {a b : Int} (hx : Lk Γ δ ρ x (isv (.int k a))) (hy : Lk Γ δ ρ y (isv (.int k b))) :
  OpOK P n ops Γ ρ δ τ ⟨some d, .call ⟨.builtin .max, #[x, y], ats⟩, ty, pos, af, none⟩ .no (.c (isv (.int k (max a b)))) dum :=
 ok_pure fun A c _ hr => by
  have h1 := (hr x _ (by simp [Op.operands, Call.operands]) hx).1
  have h2 := (hr y _ (by simp [Op.operands, Call.operands]) hy).1
  refine ⟨.int k (max a b), ?_, rfl, rfl⟩
  by_cases h : a < b
  ·simp [execOp, resolve, invoke, builtin, Builtin.max_, Builtin.max2, h1, h2, h, show max a b = b by omega]
  ·simp [execOp, resolve, invoke, builtin, Builtin.max_, Builtin.max2, h1, h2, h, show max a b = a by omega]
end ops
def len8 : ByteArray := ⟨#[0, 1, 2, 2, 3, 3, 3, 3, 4, 4, 4, 4, 4, 4, 4, 4, 5, 5, 5, 5, 5, 5, 5, 5, 5, 5, 5, 5, 5, 5, 5, 5, 6, 6, 6, 6, 6, 6, 6, 6, 6, 6, 6, 6, 6, 6, 6, 6, 6, 6, 6, 6, 6, 6, 6, 6, 6, 6, 6, 6, 6, 6, 6, 6, 7, 7, 7, 7, 7, 7, 7, 7, 7, 7, 7, 7, 7, 7, 7, 7, 7, 7, 7, 7, 7, 7, 7, 7, 7, 7, 7, 7, 7, 7, 7, 7, 7, 7, 7, 7, 7, 7, 7, 7, 7, 7, 7, 7, 7, 7, 7, 7, 7, 7, 7, 7, 7, 7, 7, 7, 7, 7, 7, 7, 7, 7, 7, 7, 8, 8, 8, 8, 8, 8, 8, 8, 8, 8, 8, 8, 8, 8, 8, 8, 8, 8, 8, 8, 8, 8, 8, 8, 8, 8, 8, 8, 8, 8, 8, 8, 8, 8, 8, 8, 8, 8, 8, 8, 8, 8, 8, 8, 8, 8, 8, 8, 8, 8, 8, 8, 8, 8, 8, 8, 8, 8, 8, 8, 8, 8, 8, 8, 8, 8, 8, 8, 8, 8, 8, 8, 8, 8, 8, 8, 8, 8, 8, 8, 8, 8, 8, 8, 8, 8, 8, 8, 8, 8, 8, 8, 8, 8, 8, 8, 8, 8, 8, 8, 8, 8, 8, 8, 8, 8, 8, 8, 8, 8, 8, 8, 8, 8, 8, 8, 8, 8, 8, 8, 8, 8, 8, 8, 8, 8, 8, 8]⟩
theorem len8_nat : ∀ i : Nat, i < 256 → len8[i]? = some (UInt8.ofNat (bl i)) := by decide +kernel
theorem len8_at {z : Int} (h0 : 0 ≤ z) (h1 : z < 256) : len8[z.toNat]? = some (UInt8.ofNat (bl z.toNat)) := len8_nat _ (by omega)
theorem len8_wrap {z : Int} (h0 : 0 ≤ z) (h1 : z < 256) : IntKind.i64.wrap (((UInt8.ofNat (bl z.toNat)).toNat : Nat) : Int) = (bl z.toNat : Int) := by
 have h := bl_lt (t := z.toNat) (k := 8) (by omega)
 have e : (UInt8.ofNat (bl z.toNat)).toNat = bl z.toNat := by simp; omega
 rw [e]
 exact zO (by omega) (by omega)
theorem wr8 {z : Int} (h0 : 0 ≤ z) (h1 : z < 256) : IntKind.u8.wrap z = z := by
 simp [IntKind.wrap, IntKind.bits, IntKind.signed]
 omega
theorem bl_16 {z : Int} (h : 65536 ≤ z) : (bl z.toNat : Int) = 16 + (bl (z / 65536).toNat : Int) := by
 have := bl_shr (t := z.toNat) (k := 16) (by show 65536 ≤ _; omega)
 rw [show z.toNat / 2 ^ 16 = (z / 65536).toNat by show z.toNat / 65536 = _; omega] at this
 omega
theorem bl_8 {z : Int} (h : 256 ≤ z) : (bl z.toNat : Int) = 8 + (bl (z / 256).toNat : Int) := by
 have := bl_shr (t := z.toNat) (k := 8) (by show 256 ≤ _; omega)
 rw [show z.toNat / 2 ^ 8 = (z / 256).toNat by show z.toNat / 256 = _; omega] at this
 omega
theorem wr_bl {n y : Int} (h0 : 0 ≤ n) (h1 : n ≤ 100) (h2 : 0 ≤ y) (h3 : y < 256) : IntKind.i64.wrap (n + (bl y.toNat : Int)) = n + (bl y.toNat : Int) := by
 have h := bl_lt (t := y.toNat) (k := 8) (by omega)
 exact zO (by omega) (by omega)
theorem set_1 {x : Int} : sgnI (decide (x < 0)) x.natAbs = x := by
 unfold sgnI
 by_cases h : x < 0
 ·rw [if_pos (by simpa using h)]; omega
 ·rw [if_neg (by simpa using h)]; omega
theorem put_or {n f : Nat} (hn : n < 2048) (hf : f < 4503599627370496) : bitsOf .or .u64 ((n * 4503599627370496 : Nat) : Int) ((f : Nat) : Int) = ((n * 4503599627370496 + f : Nat) : Int) := by
 rw [bits_or _ _ (by omega) (by omega)]
 congr 1
 rw [show (4503599627370496 : Nat) = 2 ^ 52 by decide, or_add _ _ _ (by omega)]
theorem put_top {n f : Nat} (hn : n < 2048) (hf : f < 4503599627370496) : bitsOf .or .u64 ((n * 4503599627370496 + f : Nat) : Int) 9223372036854775808 = ((putW true n f : Nat) : Int) := by
 have e : (9223372036854775808 : Int) = ((2 ^ 63 : Nat) : Int) := by decide
 rw [e, bits_or _ _ (by omega) (by decide), Nat.or_comm]
 congr 1
 have := or_add 1 (n * 4503599627370496 + f) 63 (by omega)
 rw [Nat.one_mul] at this
 rw [this]
 rfl
end Go.Bn
