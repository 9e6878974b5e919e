/-
 The greater of two numbers, cleared lists; scaling by powers of two as it is done.
-/
import Derived.Test.YtcpififnffmjfaaGreatDoorZsKf
set_option linter.unusedVariables false
set_option linter.unusedSimpArgs false
namespace Go.Bn
open Go
def PINF : Nat := 9218868437227405312
theorem or_add (b c i : Nat) (hc : c < 2 ^ i) : b * 2 ^ i ||| c = b * 2 ^ i + c := by
 rw [← Nat.shiftLeft_eq, Nat.shiftLeft_add_eq_or_of_lt hc]
theorem xor_top {a : Nat} (ha : a < 2 ^ 64) : a ^^^ 2 ^ 63 = if sgn a = true then a - 9223372036854775808 else a + 9223372036854775808 := by
 have e63 : (9223372036854775808 : Nat) = 2 ^ 63 := by decide
 have low : ∀ r, r < 2 ^ 63 → r ^^^ 2 ^ 63 = 2 ^ 63 + r := fun r hr => by
  have := or_add 1 r 63 hr
  rw [Nat.one_mul] at this
  rw [← this]
  apply Nat.eq_of_testBit_eq
  intro i
  rw [Nat.testBit_xor, Nat.testBit_or, Nat.testBit_two_pow]
  by_cases hi : 63 = i
  ·subst hi
   rw [Nat.testBit_lt_two_pow hr]
   decide
  ·rw [decide_eq_false hi]
   simp
 by_cases hs : sgn a = true
 ·rw [if_pos hs]
  have hs' : (a / 9223372036854775808 % 2 == 1) = true := hs
  have h1 : a / 9223372036854775808 % 2 = 1 := by simpa using hs'
  obtain ⟨r, hr⟩ : ∃ r, r = a - 9223372036854775808 := ⟨_, rfl⟩
  have hr2 : r < 2 ^ 63 := by omega
  have ha2 : a = 2 ^ 63 + r := by omega
  rw [← hr, ha2, ← low r hr2, Nat.xor_assoc, Nat.xor_self, Nat.xor_zero]
 ·rw [if_neg hs]
  have hs' : ¬ (a / 9223372036854775808 % 2 == 1) = true := hs
  have h1 : a / 9223372036854775808 % 2 ≠ 1 := by simpa using hs'
  rw [low a (by omega), e63, Nat.add_comm]
def fneg (a : Nat) : Nat := if nanB a = true then NAN else if sgn a = true then a - 9223372036854775808 else a + 9223372036854775808
theorem rung_top {a : Nat} (ha : a < 2 ^ 64) : rung (a ^^^ 2 ^ 63) = rung a := by
 rw [xor_top ha]
 unfold sgn rung
 split
 ·rename_i h
  have : a / 9223372036854775808 = 1 := by
   have h2 : a / 9223372036854775808 < 2 := by omega
   have h3 : a / 9223372036854775808 ≠ 0 := fun e => by rw [e] at h; cases h
   omega
  omega
 ·omega
theorem nan_rung {a b : Nat} (h : rung a = rung b) : nanB a = nanB b := by
 rw [nanB_iff, nanB_iff]
 unfold rung at h
 rw [h]
section ops
variable {P : Program} {n : Nat} {ops : Array Oper} {Γ : Facts} {ρ : Env} {δ : VEnv} {τ : List VR}
variable {d : Nat} {ty : TypeId} {pos : String} {af : Array Edge}
theorem op_negf {x : Operand} {t : TypeId} {a : Nat} (hx : Lk Γ δ ρ x (flp a)) : OpOK P n ops Γ ρ δ τ ⟨some d, .unOp .neg t x, ty, pos, af, none⟩ .no (.c (flp (fneg a))) dum :=
 ok_pure fun A c _ hr => by
  obtain ⟨b, h1, h2, rfl⟩ := hr x _ (by simp [Op.operands]) hx
  have hb : b ^^^ 2 ^ 63 < 2 ^ 64 := Nat.xor_lt_two_pow h2 (by decide)
  refine ⟨.float .f64 (b ^^^ 2 ^ 63), by simp [execOp, Op.unary, h1]; rfl, b ^^^ 2 ^ 63, rfl, hb, ?_⟩
  cases hn : nanB b
  ·rw [cn_of_not hn, cn_of_not (by rw [nan_rung (rung_top h2)]; exact hn)]
   unfold fneg
   rw [hn, xor_top h2]
   rfl
  ·rw [cn_of_nan hn, cn_of_nan (by rw [nan_rung (rung_top h2)]; exact hn)]
   unfold fneg
   rw [nanB_NAN]
   rfl
end ops
theorem sgn_i64 {x : Nat} (hx : x < 2 ^ 64) : cmpB .lss (IntKind.i64.wrap (x : Int)) 0 = sgn x := by
 rw [IntKind.wrap_i64]
 unfold cmpB sgn
 by_cases h : x < 2 ^ 63
 ·have : x / 9223372036854775808 = 0 := by omega
  rw [this]
  simp
  omega
 ·have : x / 9223372036854775808 = 1 := by omega
  rw [this]
  simp
  omega
def finQ (x : Nat) : Bool := fcmp .eql (fsub x x) 0
theorem shl52 {n : Nat} (h : n < 2048) : IntKind.u64.wrap (((n : Nat) : Int) * 2 ^ min (52 : Int).toNat IntKind.u64.bits) = ((n * 4503599627370496 : Nat) : Int) := by
 rw [show min (52 : Int).toNat IntKind.u64.bits = 52 by decide, wu64]
 omega
theorem frac_lt (x : Nat) : frac x < 4503599627370496 := Nat.mod_lt _ (by decide)
end Go.Bn
