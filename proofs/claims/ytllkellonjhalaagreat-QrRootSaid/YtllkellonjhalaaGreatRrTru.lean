/-
 The law of a rotation: what is reckoned exactly.
-/
import Derived.Test.YtllkellonjhalaaGreatRrTrn
set_option linter.unusedVariables false
set_option linter.unusedSimpArgs false
namespace Go.Bn
open Go
def tameB (x : Nat) (k : Int) : Bool := fcmp .eql x 0 || (fcmp .geq (fabs x) (ldx ONE (-k)) && fcmp .leq (fabs x) (ldx ONE k))
theorem one_v : rung ONE < 9218868437227405312 ∧ ONE < 2 ^ 64 ∧ expo ONE = 1023 ∧ sgn ONE = false ∧ mgn ONE = 4503599627370496 ∧ plc ONE = -52 := by decide +kernel
theorem two_k {k : Int} (h1 : -1022 ≤ k) (h2 : k ≤ 1023) : rung (ldx ONE k) < 9218868437227405312 ∧ sgn (ldx ONE k) = false ∧ vlu (ldx ONE k) = 2 ^ (k + 1074).toNat := by
 obtain ⟨o1, o2, o3, o4, o5, o6⟩ := one_v
 have h := ldx_exact (k := k) o2 o1 (by omega) (by omega) (by omega)
 refine ⟨h.f, h.s.trans o4, ?_⟩
 unfold vlu
 rw [h.m, h.p, o5, o6, show (4503599627370496 : Nat) = 2 ^ 52 by decide, ← Nat.pow_add]
 congr 1
 omega
theorem geq_val {x y : Nat} (h : fcmp .geq x y = true) (hx : rung x < 9218868437227405312) (hy : rung y < 9218868437227405312) : sval y ≤ sval x := by
 unfold fcmp at h
 rw [ford_val' hx hy] at h
 rcases Int.lt_trichotomy (sval x) (sval y) with g | g | g
 ·rw [Int.compare_eq_lt.2 g] at h
  cases h
 ·omega
 ·omega
theorem fneg_val {s : Nat} (hs : s < 2 ^ 64) (hr : rung s < 9218868437227405312) : fneg s < 2 ^ 64 ∧ rung (fneg s) < 9218868437227405312 ∧ sval (fneg s) = -sval s := by
 have hn : nanB s = false := fin_not_nan ((finB_iff hs).2 hr)
 have hl := fneg_lt hs
 have e : fneg s = s ^^^ 2 ^ 63 := by rw [xor_top hs]; unfold fneg; rw [hn]; rfl
 have hR : rung (fneg s) = rung s := by rw [e]; exact rung_top hs
 refine ⟨hl, by rw [hR]; exact hr, ?_⟩
 have hsg : sgn (fneg s) = !sgn s := by
  unfold fneg
  rw [hn]
  simp only [Bool.false_eq_true, if_false]
  cases h : sgn s
  ·simp only [Bool.false_eq_true, if_false]
   unfold sgn at h ⊢
   have h1 := beq_eq_false_iff_ne.1 h
   have h2 : s / 9223372036854775808 % 2 = 0 := by omega
   have h3 : (s + 9223372036854775808) / 9223372036854775808 % 2 = 1 := by omega
   rw [h3]; rfl
  ·simp only [if_true]
   unfold sgn at h ⊢
   have h2 : s / 9223372036854775808 % 2 = 1 := by simpa using h
   have h3 : (s - 9223372036854775808) / 9223372036854775808 % 2 = 0 := by omega
   rw [h3]; rfl
 have hv : vlu (fneg s) = vlu s := by unfold vlu mgn plc; rw [hR]
 unfold sval
 rw [hsg, hv]
 cases sgn s
 ·rfl
 ·simp
end Go.Bn
