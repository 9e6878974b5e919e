/-
 The law of a rotation: what is reckoned exactly.
-/
import Derived.Test.YtllkellonjhalaaGreatOoTrn
set_option linter.unusedVariables false
set_option linter.unusedSimpArgs false
namespace Go.Bn
open Go
def tameB (x : Nat) (k : Int) : Bool := fcmp .eql x 0 || (fcmp .geq (fabs x) (ldx ONE (-k)) && fcmp .leq (fabs x) (ldx ONE k))
theorem one_v : rung ONE < 9218868437227405312 ∧ ONE < 2 ^ 64 ∧ expo ONE = 1023 ∧ sgn ONE = false ∧ mgn ONE = 4503599627370496 ∧ plc ONE = -52 := by decide +kernel
theorem two_k {k : Int} (h1 : -1022 ≤ k) (h2 : k ≤ 1023) : rung (ldx ONE k) < 9218868437227405312 ∧ sgn (ldx ONE k) = false ∧ vlu (ldx ONE k) = 2 ^ (k + 1074).toNat := by
 obtain ⟨o1, o2, o3, o4, o5, o6⟩ := one_v
 have h := ldx_exact (k := k) o2 o1 (by omega) (by omega) (by omega)
 refine ⟨h.f, h.s.trans o4, ?_⟩
 unfold vlu
 rw [h.m, h.p, o5, o6, show (4503599627370496 : Nat) = 2 ^ 52 by decide, ← Nat.pow_add]
 congr 1
 omega
theorem geq_val {x y : Nat} (h : fcmp .geq x y = true) (hx : rung x < 9218868437227405312) (hy : rung y < 9218868437227405312) : sval y ≤ sval x := by
 unfold fcmp at h
 rw [ford_val' hx hy] at h
 rcases Int.lt_trichotomy (sval x) (sval y) with g | g | g
 ·rw [Int.compare_eq_lt.2 g] at h
  cases h
 ·omega
 ·omega
theorem fneg_val {s : Nat} (hs : s < 2 ^ 64) (hr : rung s < 9218868437227405312) : fneg s < 2 ^ 64 ∧ rung (fneg s) < 9218868437227405312 ∧ sval (fneg s) = -sval s := by
 have hn : nanB s = false := fin_not_nan ((finB_iff hs).2 hr)
 have hl := fneg_lt hs
 have e : fneg s = s ^^^ 2 ^ 63 := by rw [xor_top hs]; unfold fneg; rw [hn]; rfl
 have hR : rung (fneg s) = rung s := by rw [e]; exact rung_top hs
 refine ⟨hl, by rw [hR]; exact hr, ?_⟩
 have hsg : sgn (fneg s) = !sgn s := by
  unfold fneg
  rw [hn]
  simp only [Bool.false_eq_true, if_false]
  cases h : sgn s
  ·simp only [Bool.false_eq_true, if_false]
   unfold sgn at h ⊢
   have h1 := beq_eq_false_iff_ne.1 h
   have h2 : s / 9223372036854775808 % 2 = 0 := by omega
   have h3 : (s + 9223372036854775808) / 9223372036854775808 % 2 = 1 := by omega
   rw [h3]; rfl
  ·simp only [if_true]
   unfold sgn at h ⊢
   have h2 : s / 9223372036854775808 % 2 = 1 := by simpa using h
   have h3 : (s - 9223372036854775808) / 9223372036854775808 % 2 = 0 := by omega
   rw [h3]; rfl
 have hv : vlu (fneg s) = vlu s := by unfold vlu mgn plc; rw [hR]
 unfold sval
 rw [hsg, hv]
 cases sgn s
 ·rfl
 ·simp
theorem pz_n {N m : Nat} (h : N = NZ + NZ + m) : (2 : Int) ^ N = ((PZ * PZ * 2 ^ m : Nat) : Int) := by
 rw [two_cast, h, Nat.pow_add, Nat.pow_add, ← pz_def]
theorem pz_m {N m : Nat} (h : N = NZ + m) : (2 : Int) ^ N = ((PZ * 2 ^ m : Nat) : Int) := by
 rw [two_cast, h, Nat.pow_add, ← pz_def]
end Go.Bn
namespace Go.Bn
open Go
theorem fneg_parts {s : Nat} (hs : s < 2 ^ 64) (hr : rung s < 9218868437227405312) : rung (fneg s) = rung s ∧ sgn (fneg s) = !sgn s := by
 have hn : nanB s = false := fin_not_nan ((finB_iff hs).2 hr)
 have e : fneg s = s ^^^ 2 ^ 63 := by rw [xor_top hs]; unfold fneg; rw [hn]; rfl
 refine ⟨by rw [e]; exact rung_top hs, ?_⟩
 unfold fneg
 rw [hn]
 simp only [Bool.false_eq_true, if_false]
 cases h : sgn s
 ·simp only [Bool.false_eq_true, if_false]
  unfold sgn at h ⊢
  have h1 := beq_eq_false_iff_ne.1 h
  have h2 : s / 9223372036854775808 % 2 = 0 := by omega
  have h3 : (s + 9223372036854775808) / 9223372036854775808 % 2 = 1 := by omega
  rw [h3]; rfl
 ·simp only [if_true]
  unfold sgn at h ⊢
  have h2 : s / 9223372036854775808 % 2 = 1 := by simpa using h
  have h3 : (s - 9223372036854775808) / 9223372036854775808 % 2 = 0 := by omega
  rw [h3]; rfl
theorem fsub_add {x y : Nat} (fx : rung x < 9218868437227405312) (hy : y < 2 ^ 64) (fy : rung y < 9218868437227405312) : fsub x y = fadd x (fneg y) := by
 obtain ⟨p1, p2⟩ := fneg_parts hy fy
 have hf : rung (fneg y) < 9218868437227405312 := by rw [p1]; exact fy
 have hm : mgn (fneg y) = mgn y := by unfold mgn; rw [p1]
 have hp : plc (fneg y) = plc y := by unfold plc; rw [p1]
 unfold fsub fadd Ieee.Format.sub Ieee.Format.add
 rw [read_fin fx, read_fin fy, read_fin hf, p2, hm, hp]
 rfl
theorem nil_fin (s : Bool) : rung (if s = true then NEG0 else 0) < 9218868437227405312 ∧ sval (if s = true then NEG0 else 0) = 0 := by cases s <;> decide +kernel
theorem fadd_nil {x y : Nat} (hx : x < 2 ^ 64) (fx : rung x < 9218868437227405312) (fy : rung y < 9218868437227405312) (h0 : sval y = 0) : rung (fadd x y) < 9218868437227405312 ∧ sval (fadd x y) = sval x := by
 have e := fadd_int fx fy
 rw [h0, Int.add_zero, sval_abs] at e
 by_cases hz : sval x = 0
 ·have hv : vlu x = 0 := by have := sval_abs x; omega
  rw [hv, nearest_nought] at e
  rw [e, hz]
  exact nil_fin _
 ·rw [if_neg hz] at e
  have hsg : decide (sval x < 0) = sgn x := by
   by_cases h : sval x < 0
   ·rw [decide_eq_true h, sval_neg h]
   ·rw [decide_eq_false h, sval_pos (by omega)]
  rw [hsg, nearest_vlu hx fx] at e
  rw [e]
  exact ⟨fx, rfl⟩
theorem fmul_nil {x y : Nat} (fx : rung x < 9218868437227405312) (fy : rung y < 9218868437227405312) (h0 : sval x = 0 ∨ sval y = 0) : rung (fmul x y) < 9218868437227405312 ∧ sval (fmul x y) = 0 := by
 have e := fmul_int fx fy
 have hv : vlu x * vlu y = 0 := by
  rcases h0 with h | h
  ·have : vlu x = 0 := by have := sval_abs x; omega
   rw [this, Nat.zero_mul]
  ·have : vlu y = 0 := by have := sval_abs y; omega
   rw [this, Nat.mul_zero]
 rw [hv, nearest_nought] at e
 rw [e]
 exact nil_fin _
theorem fdiv_nil {x y : Nat} (fx : rung x < 9218868437227405312) (fy : rung y < 9218868437227405312) (h0 : sval x = 0) (hn : mgn y ≠ 0) : rung (fdiv x y) < 9218868437227405312 ∧ sval (fdiv x y) = 0 := by
 have e := fdiv_read fx fy hn
 have hm : mgn x = 0 := by
  have hv : vlu x = 0 := by have := sval_abs x; omega
  unfold vlu at hv
  rcases Nat.mul_eq_zero.1 hv with h | h
  ·exact h
  ·have := Nat.two_pow_pos (plc x + 1074).toNat; omega
 rw [hm, Nat.zero_shiftLeft, Nat.zero_div, Nat.zero_mod] at e
 rw [show 2 * 0 + ((0 : Nat) != 0).toNat = 0 by decide, nearest_nought] at e
 rw [e]
 exact nil_fin _
theorem fadd_ok {x y k : Nat} (hk : k ≤ 900) (fx : rung x < 9218868437227405312) (fy : rung y < 9218868437227405312) (hb : (sval x + sval y).natAbs ≤ PZ * 2 ^ k) : rung (fadd x y) < 9218868437227405312 := by
 rw [fadd_int fx fy]
 refine nearest_fin (N := 1074) (by decide) ?_
 have h0 : (-1074 + ((1074 : Nat) : Int)).toNat = 0 := by decide
 rw [h0, Nat.pow_zero, Nat.mul_one]
 refine Nat.lt_of_le_of_lt hb ?_
 obtain ⟨M, hM⟩ : ∃ M, M = NZ + 1023 := ⟨_, rfl⟩
 rw [show 1074 + 1023 = M by rw [hM, nz], pz_pow]
 exact Nat.pow_lt_pow_right (by omega) (by omega)
theorem finL_r {xs : List Nat} (h : FinL xs) (k : Nat) : rung (xs.getD k 0) < 9218868437227405312 := (finB_iff (h k).2).1 (h k).1
theorem getD_mirG {v a : List Nat} {t k : Nat} (hk : k < a.length) : (mirG v t a).getD k 0 = fsub (a.getD k 0) (fmul t (v.getD k 0)) := by
 unfold mirG
 simp [List.getD, hk]
theorem getD_app {xs ys : List Nat} {k : Nat} : (xs ++ ys).getD k 0 = if k < xs.length then xs.getD k 0 else ys.getD (k - xs.length) 0 := by
 split
 ·rename_i h
  rw [List.getD, List.getElem?_append_left h]; rfl
 ·rename_i h
  rw [List.getD, List.getElem?_append_right (by omega)]; rfl
theorem getD_tak {xs : List Nat} {i k : Nat} (h : k < i) : (xs.take i).getD k 0 = xs.getD k 0 := by
 rw [List.getD, List.getElem?_take, if_pos h]; rfl
theorem getD_rep (n k : Nat) : (List.replicate n 0).getD k 0 = 0 := by
 rw [List.getD, List.getElem?_replicate]
 split <;> rfl
theorem getD_mirW {h : Gls} {p k : Nat} {x : List Nat} (hp : p ≤ x.length) : (mirW h p x).getD k 0 = if k < p then x.getD k 0 else (mirL h.v h.w (x.drop p)).getD (k - p) 0 := by
 unfold mirW
 rw [getD_app, List.length_take, Nat.min_eq_left hp]
 by_cases hk : k < p
 ·rw [if_pos hk, if_pos hk, getD_tak hk]
 ·rw [if_neg hk, if_neg hk]
end Go.Bn
