/-
 The mirror of a list whose first number alone is not nought.
-/
import Derived.Test.YtllkellonjhalaaGreatRrTru
set_option linter.unusedVariables false
set_option linter.unusedSimpArgs false
namespace Go.Bn
open Go
theorem fneg_parts {s : Nat} (hs : s < 2 ^ 64) (hr : rung s < 9218868437227405312) : rung (fneg s) = rung s ∧ sgn (fneg s) = !sgn s := by
 have hn : nanB s = false := fin_not_nan ((finB_iff hs).2 hr)
 have e : fneg s = s ^^^ 2 ^ 63 := by rw [xor_top hs]; unfold fneg; rw [hn]; rfl
 refine ⟨by rw [e]; exact rung_top hs, ?_⟩
 unfold fneg
 rw [hn]
 simp only [Bool.false_eq_true, if_false]
 cases h : sgn s
 ·simp only [Bool.false_eq_true, if_false]
  unfold sgn at h ⊢
  have h1 := beq_eq_false_iff_ne.1 h
  have h2 : s / 9223372036854775808 % 2 = 0 := by omega
  have h3 : (s + 9223372036854775808) / 9223372036854775808 % 2 = 1 := by omega
  rw [h3]; rfl
 ·simp only [if_true]
  unfold sgn at h ⊢
  have h2 : s / 9223372036854775808 % 2 = 1 := by simpa using h
  have h3 : (s - 9223372036854775808) / 9223372036854775808 % 2 = 0 := by omega
  rw [h3]; rfl
theorem fsub_add {x y : Nat} (fx : rung x < 9218868437227405312) (hy : y < 2 ^ 64) (fy : rung y < 9218868437227405312) : fsub x y = fadd x (fneg y) := by
 obtain ⟨p1, p2⟩ := fneg_parts hy fy
 have hf : rung (fneg y) < 9218868437227405312 := by rw [p1]; exact fy
 have hm : mgn (fneg y) = mgn y := by unfold mgn; rw [p1]
 have hp : plc (fneg y) = plc y := by unfold plc; rw [p1]
 unfold fsub fadd Ieee.Format.sub Ieee.Format.add
 rw [read_fin fx, read_fin fy, read_fin hf, p2, hm, hp]
 rfl
theorem nil_fin (s : Bool) : rung (if s = true then NEG0 else 0) < 9218868437227405312 ∧ sval (if s = true then NEG0 else 0) = 0 := by cases s <;> decide +kernel
theorem fadd_nil {x y : Nat} (hx : x < 2 ^ 64) (fx : rung x < 9218868437227405312) (fy : rung y < 9218868437227405312) (h0 : sval y = 0) : rung (fadd x y) < 9218868437227405312 ∧ sval (fadd x y) = sval x := by
 have e := fadd_int fx fy
 rw [h0, Int.add_zero, sval_abs] at e
 by_cases hz : sval x = 0
 ·have hv : vlu x = 0 := by have := sval_abs x; omega
  rw [hv, nearest_nought] at e
  rw [e, hz]
  exact nil_fin _
 ·rw [if_neg hz] at e
  have hsg : decide (sval x < 0) = sgn x := by
   by_cases h : sval x < 0
   ·rw [decide_eq_true h, sval_neg h]
   ·rw [decide_eq_false h, sval_pos (by omega)]
  rw [hsg, nearest_vlu hx fx] at e
  rw [e]
  exact ⟨fx, rfl⟩
theorem fmul_nil {x y : Nat} (fx : rung x < 9218868437227405312) (fy : rung y < 9218868437227405312) (h0 : sval x = 0 ∨ sval y = 0) : rung (fmul x y) < 9218868437227405312 ∧ sval (fmul x y) = 0 := by
 have e := fmul_int fx fy
 have hv : vlu x * vlu y = 0 := by
  rcases h0 with h | h
  ·have : vlu x = 0 := by have := sval_abs x; omega
   rw [this, Nat.zero_mul]
  ·have : vlu y = 0 := by have := sval_abs y; omega
   rw [this, Nat.mul_zero]
 rw [hv, nearest_nought] at e
 rw [e]
 exact nil_fin _
theorem fdiv_nil {x y : Nat} (fx : rung x < 9218868437227405312) (fy : rung y < 9218868437227405312) (h0 : sval x = 0) (hn : mgn y ≠ 0) : rung (fdiv x y) < 9218868437227405312 ∧ sval (fdiv x y) = 0 := by
 have e := fdiv_read fx fy hn
 have hm : mgn x = 0 := by
  have hv : vlu x = 0 := by have := sval_abs x; omega
  unfold vlu at hv
  rcases Nat.mul_eq_zero.1 hv with h | h
  ·exact h
  ·have := Nat.two_pow_pos (plc x + 1074).toNat; omega
 rw [hm, Nat.zero_shiftLeft, Nat.zero_div, Nat.zero_mod] at e
 rw [show 2 * 0 + ((0 : Nat) != 0).toNat = 0 by decide, nearest_nought] at e
 rw [e]
 exact nil_fin _
structure Rg (x : Nat) (k : Nat) : Prop where
 l : x < 2 ^ 64
 f : rung x < 9218868437227405312
 lo : PZ ≤ vlu x * 2 ^ k
 hi : vlu x ≤ PZ * 2 ^ k
theorem Rg.abs {x k : Nat} (h : Rg x k) : Rng (fabs x) k := by
 obtain ⟨a1, a2, _, _⟩ := fabs_parts h.l h.f
 have hv := vlu_fabs h.l h.f
 exact ⟨by rw [a1]; exact h.f, a2, by rw [hv]; exact h.lo, by rw [hv]; exact h.hi⟩
theorem Rg.up {x k l : Nat} (h : Rg x k) (hl : k ≤ l) : Rg x l := by
 have := Nat.pow_le_pow_right (show 0 < 2 by omega) hl
 exact ⟨h.l, h.f, Nat.le_trans h.lo (Nat.mul_le_mul_left _ this), Nat.le_trans h.hi (Nat.mul_le_mul_left _ this)⟩
theorem Rg.pos {x k : Nat} (h : Rg x k) : 0 < vlu x := by
 have := h.abs.pos
 rwa [vlu_fabs h.l h.f] at this
theorem fadd_ok {x y k : Nat} (hk : k ≤ 900) (fx : rung x < 9218868437227405312) (fy : rung y < 9218868437227405312) (hb : (sval x + sval y).natAbs ≤ PZ * 2 ^ k) : rung (fadd x y) < 9218868437227405312 := by
 rw [fadd_int fx fy]
 refine nearest_fin (N := 1074) (by decide) ?_
 have h0 : (-1074 + ((1074 : Nat) : Int)).toNat = 0 := by decide
 rw [h0, Nat.pow_zero, Nat.mul_one]
 refine Nat.lt_of_le_of_lt hb ?_
 obtain ⟨M, hM⟩ : ∃ M, M = NZ + 1023 := ⟨_, rfl⟩
 rw [show 1074 + 1023 = M by rw [hM, nz], pz_pow]
 exact Nat.pow_lt_pow_right (by omega) (by omega)
theorem finL_r {xs : List Nat} (h : FinL xs) (k : Nat) : rung (xs.getD k 0) < 9218868437227405312 := (finB_iff (h k).2).1 (h k).1
theorem Cl.up {k l a b : Nat} (h : Cl k a b) (hl : k ≤ l) : Cl l a b := by
 obtain ⟨t, h1, h2, h3⟩ := h
 exact ⟨t, h1, h2, Nat.le_trans h3 (Nat.mul_le_mul_right _ hl)⟩
theorem getD_mirG {v a : List Nat} {t k : Nat} (hk : k < a.length) : (mirG v t a).getD k 0 = fsub (a.getD k 0) (fmul t (v.getD k 0)) := by
 unfold mirG
 simp [List.getD, hk]
theorem getD_app {xs ys : List Nat} {k : Nat} : (xs ++ ys).getD k 0 = if k < xs.length then xs.getD k 0 else ys.getD (k - xs.length) 0 := by
 split
 ·rename_i h
  rw [List.getD, List.getElem?_append_left h]; rfl
 ·rename_i h
  rw [List.getD, List.getElem?_append_right (by omega)]; rfl
theorem getD_tak {xs : List Nat} {i k : Nat} (h : k < i) : (xs.take i).getD k 0 = xs.getD k 0 := by
 rw [List.getD, List.getElem?_take, if_pos h]; rfl
theorem getD_rep (n k : Nat) : (List.replicate n 0).getD k 0 = 0 := by
 rw [List.getD, List.getElem?_replicate]
 split <;> rfl
theorem getD_mirW {h : Gls} {p k : Nat} {x : List Nat} (hp : p ≤ x.length) : (mirW h p x).getD k 0 = if k < p then x.getD k 0 else (mirL h.v h.w (x.drop p)).getD (k - p) 0 := by
 unfold mirW
 rw [getD_app, List.length_take, Nat.min_eq_left hp]
 by_cases hk : k < p
 ·rw [if_pos hk, if_pos hk, getD_tak hk]
 ·rw [if_neg hk, if_neg hk]
end Go.Bn
