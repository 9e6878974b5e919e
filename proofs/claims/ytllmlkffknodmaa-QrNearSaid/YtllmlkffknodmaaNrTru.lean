/-
  The law of a rotation: what is reckoned exactly.
-/
import Derived.Test.YtllmlkffknodmaaNrTrn
set_option linter.unusedVariables false
set_option linter.unusedSimpArgs false
namespace Go.Bn
open Go
def tameB (x : Nat) (k : Int) : Bool := fcmp .eql x 0 || (fcmp .geq (fabs x) (ldx ONE (-k)) && fcmp .leq (fabs x) (ldx ONE k))
theorem one_v : rung ONE < 9218868437227405312 ∧ ONE < 2 ^ 64 ∧ expo ONE = 1023 ∧ sgn ONE = false ∧ mgn ONE = 4503599627370496 ∧ plc ONE = -52 := by decide +kernel
theorem two_k {k : Int} (h1 : -1022 ≤ k) (h2 : k ≤ 1023) : rung (ldx ONE k) < 9218868437227405312 ∧ sgn (ldx ONE k) = false ∧ vlu (ldx ONE k) = 2 ^ (k + 1074).toNat := by
  obtain ⟨o1, o2, o3, o4, o5, o6⟩ := one_v
  have h := ldx_exact (k := k) o2 o1 (by omega) (by omega) (by omega)
  refine ⟨h.f, h.s.trans o4, ?_⟩
  unfold vlu
  rw [h.m, h.p, o5, o6, show (4503599627370496 : Nat) = 2 ^ 52 by decide, ← Nat.pow_add]
  congr 1
  omega
theorem leq_val {x y : Nat} (h : fcmp .leq x y = true) (hx : rung x < 9218868437227405312) (hy : rung y < 9218868437227405312) : sval x ≤ sval y := by
  unfold fcmp at h
  rw [ford_val' hx hy] at h
  rcases Int.lt_trichotomy (sval x) (sval y) with g | g | g
  · omega
  · omega
  · rw [Int.compare_eq_gt.2 g] at h
    cases h
theorem geq_val {x y : Nat} (h : fcmp .geq x y = true) (hx : rung x < 9218868437227405312) (hy : rung y < 9218868437227405312) : sval y ≤ sval x := by
  unfold fcmp at h
  rw [ford_val' hx hy] at h
  rcases Int.lt_trichotomy (sval x) (sval y) with g | g | g
  · rw [Int.compare_eq_lt.2 g] at h
    cases h
  · omega
  · omega
/-- A tame number that is not nought. -/
theorem tame_rng {x : Nat} (hx : x < 2 ^ 64) (h0 : fcmp .eql x 0 = false) (h : tameB x 900 = true) (hr : rung x < 9218868437227405312) : 123 ≤ expo x ∧ expo x ≤ 1923 := by
  unfold tameB at h
  rw [h0, Bool.false_or, Bool.and_eq_true] at h
  obtain ⟨a1, a2, _, _⟩ := fabs_parts hx hr
  have hv := vlu_fabs hx hr
  obtain ⟨l1, l2, l3⟩ := two_k (k := -900) (by omega) (by omega)
  obtain ⟨u1, u2, u3⟩ := two_k (k := 900) (by omega) (by omega)
  have g1 := geq_val h.1 (by rw [a1]; exact hr) l1
  have g2 := leq_val h.2 (by rw [a1]; exact hr) u1
  rw [sval_pos' a2, sval_pos' l2, hv, l3] at g1
  rw [sval_pos' a2, sval_pos' u2, hv, u3] at g2
  have g1' := Int.ofNat_le.1 g1
  have g2' := Int.ofNat_le.1 g2
  clear g1 g2 l3 u3
  constructor
  · by_cases hc : 123 ≤ expo x
    · exact hc
    · exfalso
      have : vlu x < 2 ^ (-900 + 1074 : Int).toNat := by
        rcases @vlu_lt_expo x with h2 | ⟨_, h2⟩
        · exact Nat.lt_of_lt_of_le h2 (Nat.pow_le_pow_right (by omega) (by omega))
        · exact Nat.lt_of_lt_of_le h2 (Nat.pow_le_pow_right (by omega) (by omega))
      exact Nat.lt_irrefl _ (Nat.lt_of_lt_of_le this g1')
  · by_cases hc : expo x ≤ 1923
    · exact hc
    · exfalso
      have h2 := Nat.le_trans (vlu_ge_expo (x := x) (by omega)) g2'
      have h3 := (Nat.pow_le_pow_iff_right (show 1 < 2 by omega)).1 h2
      omega
theorem two_900 : fcmp .leq NAN (ldx ONE 900) = false ∧ fcmp .leq PINF (ldx ONE 900) = false := by decide +kernel
theorem rung_inf {x : Nat} (hn : nanB x = false) (hr : ¬ rung x < 9218868437227405312) : rung x = 9218868437227405312 := by
  by_cases he : rung x = 9218868437227405312
  · exact he
  · exfalso
    unfold nanB at hn
    rcases read_not hr with ⟨s, h⟩ | h
    · unfold Ieee.Format.read at h
      unfold rung at hr he
      simp only [signW, binA, infR] at h
      rw [if_neg (by omega), if_neg hr, if_neg he] at h
      cases h
    · rw [h] at hn; cases hn
theorem abs_not {x : Nat} (hx : x < 2 ^ 64) (h : ¬ rung x < 9218868437227405312) : fabs x = NAN ∨ fabs x = PINF := by
  unfold fabs
  cases hn : nanB x
  · right
    exact rung_inf hn h
  · left; rfl
theorem tame_fin {x : Nat} (hx : x < 2 ^ 64) (h0 : fcmp .eql x 0 = false) (h : tameB x 900 = true) : rung x < 9218868437227405312 := by
  by_cases hr : rung x < 9218868437227405312
  · exact hr
  · exfalso
    unfold tameB at h
    rw [h0, Bool.false_or, Bool.and_eq_true] at h
    rcases abs_not hx hr with e | e
    · rw [e, two_900.1] at h; cases h.2
    · rw [e, two_900.2] at h; cases h.2
theorem fneg_val {s : Nat} (hs : s < 2 ^ 64) (hr : rung s < 9218868437227405312) : fneg s < 2 ^ 64 ∧ rung (fneg s) < 9218868437227405312 ∧ sval (fneg s) = -sval s := by
  have hn : nanB s = false := fin_not_nan ((finB_iff hs).2 hr)
  have hl := fneg_lt hs
  have e : fneg s = s ^^^ 2 ^ 63 := by rw [xor_top hs]; unfold fneg; rw [hn]; rfl
  have hR : rung (fneg s) = rung s := by rw [e]; exact rung_top hs
  refine ⟨hl, by rw [hR]; exact hr, ?_⟩
  have hsg : sgn (fneg s) = !sgn s := by
    unfold fneg
    rw [hn]
    simp only [Bool.false_eq_true, if_false]
    cases h : sgn s
    · simp only [Bool.false_eq_true, if_false]
      unfold sgn at h ⊢
      have h1 := beq_eq_false_iff_ne.1 h
      have h2 : s / 9223372036854775808 % 2 = 0 := by omega
      have h3 : (s + 9223372036854775808) / 9223372036854775808 % 2 = 1 := by omega
      rw [h3]; rfl
    · simp only [if_true]
      unfold sgn at h ⊢
      have h2 : s / 9223372036854775808 % 2 = 1 := by simpa using h
      have h3 : (s - 9223372036854775808) / 9223372036854775808 % 2 = 0 := by omega
      rw [h3]; rfl
  have hv : vlu (fneg s) = vlu s := by unfold vlu mgn plc; rw [hR]
  unfold sval
  rw [hsg, hv]
  cases sgn s
  · rfl
  · simp
end Go.Bn
