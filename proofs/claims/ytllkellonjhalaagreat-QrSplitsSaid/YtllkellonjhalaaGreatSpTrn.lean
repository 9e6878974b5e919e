/-
 Numbers scaled, exactly; a rotation's numbers, how far they lie from what they should be.
-/
import Derived.Test.YtllkellonjhalaaGreatSpTri
set_option linter.unusedVariables false
set_option linter.unusedSimpArgs false
namespace Go.Bn
open Go
theorem nrm_id {x : Nat} (hx : x < 2 ^ 64) (hr : rung x < 9218868437227405312) (h1 : 1 ≤ expo x) : nrmR x = (x, 0) := by
 unfold nrmR
 rw [if_neg]
 rw [norm_lss hx hr (by have := expo_rung x; unfold rung at *; omega)]
 decide
theorem mk_parts {s : Bool} {r : Nat} (hr : r < 9223372036854775808) : sgn ((if s = true then 9223372036854775808 else 0) + r) = s ∧ rung ((if s = true then 9223372036854775808 else 0) + r) = r := by
 unfold sgn rung
 cases s
 ·have h1 : (0 + r) / 9223372036854775808 % 2 = 0 := by omega
  have h2 : (0 + r) % 9223372036854775808 = r := by omega
  simp only [Bool.false_eq_true, if_false, h1, h2]
  exact ⟨by decide, trivial⟩
 ·have h1 : (9223372036854775808 + r) / 9223372036854775808 % 2 = 1 := by omega
  have h2 : (9223372036854775808 + r) % 9223372036854775808 = r := by omega
  simp only [if_true, h1, h2]
  exact ⟨by decide, trivial⟩
theorem ldW_mk {x : Nat} {e : Int} (hn : nrmR x = (x, 0)) : ldW x e = (if sgn x = true then 9223372036854775808 else 0) + ((e + 1023).toNat * 4503599627370496 + frac x) := by
 unfold ldW
 simp only [hn]
theorem frac_rung (x : Nat) : frac x = rung x % 4503599627370496 := by unfold frac rung; omega
theorem ldW_parts {x : Nat} {e : Int} (hx : x < 2 ^ 64) (hr : rung x < 9218868437227405312) (h1 : 1 ≤ expo x) (h2 : -1022 ≤ e) (h3 : e ≤ 1023) : sgn (ldW x e) = sgn x ∧ mgn (ldW x e) = mgn x ∧ plc (ldW x e) = e - 52 ∧ rung (ldW x e) < 9218868437227405312 ∧ ldW x e < 2 ^ 64 := by
 have e0 := ldW_mk (e := e) (nrm_id hx hr h1)
 have hf := frac_lt x
 have hl : ldW x e < 2 ^ 64 := ldW_lt h3
 have hq1 : (e + 1023).toNat ≤ 2046 ∧ 1 ≤ (e + 1023).toNat ∧ (((e + 1023).toNat : Nat) : Int) = e + 1023 := by omega
 generalize (e + 1023).toNat = q at *
 have hm := mk_parts (s := sgn x) (r := q * 4503599627370496 + frac x) (by omega)
 rw [← e0] at hm
 clear e0
 generalize ldW x e = w at *
 have hE : expo w = q := by rw [expo_rung, hm.2]; omega
 have hF : frac w = frac x := by rw [frac_rung w, hm.2]; omega
 have m1 := mgn_1 (x := w) (by omega)
 have m2 := mgn_1 (x := x) (by omega)
 refine ⟨hm.1, by rw [m1.1, m2.1, hF], ?_, by rw [hm.2]; omega, hl⟩
 rw [m1.2, hE]; omega
theorem ldW_vlu {x : Nat} {e : Int} (hx : x < 2 ^ 64) (hr : rung x < 9218868437227405312) (h1 : 1 ≤ expo x) (h2 : -1022 ≤ e) (h3 : e ≤ 1023) : vlu (ldW x e) = mgn x * 2 ^ (e + 1022).toNat := by
 obtain ⟨_, p2, p3, _, _⟩ := ldW_parts hx hr h1 h2 h3
 unfold vlu
 rw [p2, p3, show e - 52 + 1074 = e + 1022 by omega]
theorem tw_val : rung TW53 < 9218868437227405312 ∧ TW53 < 2 ^ 64 ∧ vlu TW53 * UU = PZ := by decide +kernel
def Cl (k a b : Nat) : Prop := ∃ t, a ≤ b + t ∧ b ≤ a + t ∧ t * UU ≤ k * b
theorem Cl.out {k a b : Nat} (h : Cl k a b) : a * UU ≤ b * UU + k * b ∧ b * UU ≤ a * UU + k * b := by
 obtain ⟨t, h1, h2, h3⟩ := h
 have g1 := Nat.mul_le_mul_right UU h1
 have g2 := Nat.mul_le_mul_right UU h2
 rw [Nat.add_mul] at g1 g2
 omega
theorem Cl.trans {k l a b c : Nat} (h : Cl k a b) (g : Cl l b c) (hk : k * l ≤ UU) : Cl (k + l + 1) a c := by
 obtain ⟨t, h1, h2, h3⟩ := h
 obtain ⟨s, g1, g2, g3⟩ := g
 refine ⟨t + s, by omega, by omega, ?_⟩
 have c1 : k * s ≤ c := by
  refine Nat.le_of_mul_le_mul_right (c := UU) ?_ uu_pos
  have d1 := Nat.mul_le_mul_left k g3
  have d2 := Nat.mul_le_mul_right c hk
  rw [Nat.mul_assoc k s, Nat.mul_comm c]
  rw [← Nat.mul_assoc k l] at d1
  omega
 have c2 : k * b ≤ k * c + k * s := by rw [← Nat.mul_add]; exact Nat.mul_le_mul_left _ g1
 rw [Nat.add_mul, Nat.add_mul, Nat.add_mul, Nat.one_mul]
 omega
theorem Cl.symm {k a b : Nat} (h : Cl k a b) (hk : 2 * k ≤ UU) : Cl (2 * k) b a := by
 obtain ⟨t, h1, h2, h3⟩ := h
 refine ⟨t, h2, h1, ?_⟩
 have c1 : 2 * t ≤ b := by
  refine Nat.le_of_mul_le_mul_right (c := UU) ?_ uu_pos
  have d2 := Nat.mul_le_mul_right b hk
  rw [Nat.mul_assoc, Nat.mul_comm b]
  rw [Nat.mul_assoc] at d2
  omega
 have c2 : b ≤ 2 * a := by omega
 have c3 := Nat.mul_le_mul_left k c2
 rw [← Nat.mul_assoc, Nat.mul_comm k 2] at c3
 omega
theorem Cl.two {k a b : Nat} (h : Cl k a b) (hk : 2 * k ≤ UU) : a ≤ 2 * b ∧ b ≤ 2 * a := by
 obtain ⟨t, h1, h2, h3⟩ := h
 have c1 : 2 * t ≤ b := by
  refine Nat.le_of_mul_le_mul_right (c := UU) ?_ uu_pos
  have d2 := Nat.mul_le_mul_right b hk
  rw [Nat.mul_assoc, Nat.mul_comm b]
  rw [Nat.mul_assoc] at d2
  omega
 omega
theorem cmp_scale' {a b p : Int} (hp : 1 ≤ p) : compare (a * p) (b * p) = compare a b := by
 rcases Int.lt_trichotomy a b with h | h | h
 ·rw [Int.compare_eq_lt.2 h, Int.compare_eq_lt.2 (Int.mul_lt_mul_of_pos_right h (by omega))]
 ·rw [h, Int.compare_eq_eq.2 rfl, Int.compare_eq_eq.2 rfl]
 ·rw [Int.compare_eq_gt.2 h, Int.compare_eq_gt.2 (Int.mul_lt_mul_of_pos_right h (by omega))]
theorem ford_val' {x y : Nat} (hx : rung x < 9218868437227405312) (hy : rung y < 9218868437227405312) : ford x y = some (compare (sval x) (sval y)) := by
 have px := plc_ge x
 have py := plc_ge y
 unfold ford Ieee.Format.order
 rw [read_fin hx, read_fin hy]
 simp only [Ieee.Datum.order]
 obtain ⟨b, hb⟩ : ∃ b, b = min (plc x) (plc y) := ⟨_, rfl⟩
 rw [← hb]
 have key : ∀ z, b ≤ plc z → Ieee.signed (sgn z) (mgn z) (plc z - b).toNat * 2 ^ (b + 1074).toNat = sval z := fun z hz => (sval_signed (by omega) hz).symm
 rw [← key x (by omega), ← key y (by omega), cmp_scale' (pow_one_le _)]
theorem sval_pos' {x : Nat} (h : sgn x = false) : sval x = (vlu x : Int) := by unfold sval; rw [h]; rfl
theorem vlu_fabs {x : Nat} (hx : x < 2 ^ 64) (hr : rung x < 9218868437227405312) : vlu (fabs x) = vlu x := by
 obtain ⟨_, _, q3, q4⟩ := fabs_parts hx hr
 unfold vlu; rw [q3, q4]
end Go.Bn
