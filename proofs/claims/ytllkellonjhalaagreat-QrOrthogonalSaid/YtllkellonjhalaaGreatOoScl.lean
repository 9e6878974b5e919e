/-
 Lists scaled by the power of their greatest number.
-/
import Derived.Test.YtllkellonjhalaaGreatOoRft
set_option linter.unusedVariables false
set_option linter.unusedSimpArgs false
namespace Go.Bn
open Go
theorem fin_rung {xs : List Nat} (hF : FinL xs) (k : Nat) : rung (xs.getD k 0) < 9218868437227405312 := (finB_iff (hF k).2).1 (hF k).1
theorem max_spec {xs : List Nat} (hF : FinL xs) : ∀ k, sgn (maxTo xs k) = false ∧ (∀ i, i < k → vlu (xs.getD i 0) ≤ vlu (maxTo xs k)) ∧ (maxTo xs k = 0 ∨ ∃ i, i < k ∧ maxTo xs k = fabs (xs.getD i 0))
 | 0 => ⟨by show sgn 0 = false; decide, fun i h => absurd h (Nat.not_lt_zero i), .inl rfl⟩
 | k + 1 => by
  obtain ⟨h1, h2, h3⟩ := max_spec hF k
  have m1 := maxTo_fin hF k
  have fx := fin_rung hF k
  have f1 := fabs_fin (hF k).2 (hF k).1
  have f2 := fabs_parts (hF k).2 fx
  have f3 := vlu_fabs (hF k).2 fx
  have hp := fmax_pos m1.1 f1.1 ((finB_iff m1.1).1 m1.2) ((finB_iff f1.1).1 f1.2) h1 f2.2.1
  show sgn (fmax (maxTo xs k) (fabs (xs.getD k 0))) = false ∧ (∀ i, i < k + 1 → vlu (xs.getD i 0) ≤ vlu (fmax (maxTo xs k) (fabs (xs.getD k 0)))) ∧ (fmax (maxTo xs k) (fabs (xs.getD k 0)) = 0 ∨ ∃ i, i < k + 1 ∧ fmax (maxTo xs k) (fabs (xs.getD k 0)) = fabs (xs.getD i 0))
  rcases hp with ⟨e, h⟩ | ⟨e, h⟩ <;> rw [e]
  ·refine ⟨h1, fun i hi => ?_, ?_⟩
   ·by_cases c : i = k
    ·rw [c, ← f3]; exact h
    ·exact h2 i (by omega)
   ·rcases h3 with h3 | ⟨i, h3, h4⟩
    ·exact .inl h3
    ·exact .inr ⟨i, by omega, h4⟩
  ·refine ⟨f2.2.1, fun i hi => ?_, .inr ⟨k, by omega, rfl⟩⟩
   by_cases c : i = k
   ·rw [c, f3]; exact Nat.le_refl _
   ·exact Nat.le_trans (h2 i (by omega)) h
theorem eql_zero {x : Nat} (hx : x < 2 ^ 64) (hr : rung x < 9218868437227405312) : fcmp .eql x 0 = decide (vlu x = 0) := by
 show (ford x 0 == some .eq) = _
 rw [ford_val' hr (by decide), show sval 0 = 0 by decide +kernel]
 by_cases h : vlu x = 0
 ·have : sval x = 0 := by have := sval_abs x; omega
  rw [this, Int.compare_eq_eq.2 rfl, decide_eq_true h]; rfl
 ·have h2 : sval x ≠ 0 := by have := sval_abs x; omega
  rw [decide_eq_false h]
  have : compare (sval x) 0 ≠ .eq := fun h3 => h2 (Int.compare_eq_eq.1 h3)
  simpa using this
theorem vlu_pos {x : Nat} (h : 0 < vlu x) : mgn x ≠ 0 := fun h2 => by unfold vlu at h; rw [h2, Nat.zero_mul] at h; omega
theorem frx_spec {m : Nat} (hx : m < 2 ^ 64) (hr : rung m < 9218868437227405312) (hm : 0 < vlu m) : -1073 ≤ frxE m ∧ frxE m ≤ 1024 ∧ 2 ^ (frxE m + 1073).toNat ≤ vlu m ∧ vlu m < 2 ^ (frxE m + 1074).toNat := by
 obtain ⟨y, d, hn, y1, y2, y3, y4, y5, y6⟩ := nrm_parts hx hr (vlu_pos hm)
 have hM := mgn_1 (x := y) (by omega)
 have hml := mgn_lt y
 have hf := frac_lt y
 have hE : frxE m = d + (expo y : Int) - 1022 := by unfold frxE; rw [hn]; show d + ((expo y : Int) - 1023 + 1) = _; omega
 have hel : expo y ≤ 2046 := by rw [expo_rung']; omega
 have hpm := plc_ge m
 have e1 : vlu m * 2 ^ 126 = mgn y * 2 ^ (plc y + d + 1200).toNat := by
  rw [← y6]
  unfold vlu
  rw [Nat.mul_assoc, ← Nat.pow_add]
  congr 2
  omega
 rw [hM.2] at e1
 have hlow : -1073 ≤ frxE m := by
  by_cases hc : -1073 ≤ frxE m
  ·exact hc
  ·exfalso
   have h2 : mgn y * 2 ^ ((expo y : Int) - 1 - 1074 + d + 1200).toNat < 2 ^ 53 * 2 ^ ((expo y : Int) - 1 - 1074 + d + 1200).toNat := (Nat.mul_lt_mul_right (Nat.two_pow_pos _)).2 (by rw [pow53]; exact hml)
   rw [← Nat.pow_add, ← e1] at h2
   have h3 : 2 ^ (53 + ((expo y : Int) - 1 - 1074 + d + 1200).toNat) ≤ 2 ^ 126 := Nat.pow_le_pow_right (by omega) (by omega)
   have h4 : 1 * 2 ^ 126 ≤ vlu m * 2 ^ 126 := Nat.mul_le_mul_right _ hm
   omega
 obtain ⟨q, hq⟩ : ∃ q : Nat, ((expo y : Int) - 1 - 1074 + d + 1200).toNat = q := ⟨_, rfl⟩
 rw [hq] at e1
 refine ⟨hlow, by omega, ?_, ?_⟩
 ·have h1 : 2 ^ 52 * 2 ^ q ≤ mgn y * 2 ^ q := Nat.mul_le_mul_right _ (by rw [pow52]; omega)
  rw [← e1, ← Nat.pow_add, show 52 + q = (frxE m + 1073).toNat + 126 by omega, Nat.pow_add] at h1
  exact Nat.le_of_mul_le_mul_right h1 (Nat.two_pow_pos 126)
 ·have h1 : mgn y * 2 ^ q < 2 ^ 53 * 2 ^ q := (Nat.mul_lt_mul_right (Nat.two_pow_pos _)).2 (by rw [pow53]; exact hml)
  rw [← e1, ← Nat.pow_add, show 53 + q = (frxE m + 1074).toNat + 126 by omega, Nat.pow_add] at h1
  exact Nat.lt_of_mul_lt_mul_right h1
theorem powK_spec {xs : List Nat} (hF : FinL xs) (hb : powB xs = true) : 0 < vlu (maxL xs) ∧ -1074 ≤ powK xs ∧ powK xs ≤ 1023 ∧ 2 ^ (powK xs + 1074).toNat ≤ vlu (maxL xs) ∧ vlu (maxL xs) < 2 ^ (powK xs + 1075).toNat ∧ ∀ i, vlu (xs.getD i 0) ≤ vlu (maxL xs) := by
 have m1 := maxTo_fin hF xs.length
 have mr := (finB_iff m1.1).1 m1.2
 have hpos : 0 < vlu (maxL xs) := by
  unfold powB at hb
  rw [show fcmp .eql (maxL xs) 0 = decide (vlu (maxL xs) = 0) from eql_zero m1.1 mr] at hb
  simp at hb
  omega
 obtain ⟨s1, s2, s3, s4⟩ := frx_spec (m := maxL xs) m1.1 mr hpos
 have hk : powK xs = frxE (maxL xs) - 1 := by unfold powK; rw [if_pos hb]
 refine ⟨hpos, by omega, by omega, by rw [hk, show frxE (maxL xs) - 1 + 1074 = frxE (maxL xs) + 1073 by omega]; exact s3, by rw [hk, show frxE (maxL xs) - 1 + 1075 = frxE (maxL xs) + 1074 by omega]; exact s4, fun i => ?_⟩
 by_cases hi : i < xs.length
 ·exact (max_spec hF xs.length).2.1 i hi
 ·have : xs.getD i 0 = 0 := by rw [List.getD, List.getElem?_eq_none (by omega)]; rfl
  rw [this]
  have : vlu 0 = 0 := by decide +kernel
  omega
theorem ldx_fin {x : Nat} {K : Int} (hx : x < 2 ^ 64) (hr : rung x < 9218868437227405312) (k0 : -1074 ≤ K) (k1 : K ≤ 1023) (h : vlu x < 2 ^ (K + 1075).toNat) : rung (ldx x (-K)) < 9218868437227405312 := by
 by_cases hm : mgn x = 0
 ·rw [ldx_zero (mgn_zero hm)]; exact hr
 ·rw [ldx_near hx hr hm (by omega) (by omega)]
  obtain ⟨N, hN⟩ : ∃ N : Nat, N = 2200 := ⟨_, rfl⟩
  have hp := plc_ge x
  refine nearest_fin (N := N) (by omega) ?_
  have e : mgn x * 2 ^ (plc x + -K + N).toNat = vlu x * 2 ^ (N - K - 1074).toNat := by
   unfold vlu
   rw [Nat.mul_assoc, ← Nat.pow_add]
   congr 2
   omega
  rw [e]
  have h1 : vlu x * 2 ^ (N - K - 1074).toNat < 2 ^ (K + 1075).toNat * 2 ^ (N - K - 1074).toNat := (Nat.mul_lt_mul_right (Nat.two_pow_pos _)).2 h
  rw [← Nat.pow_add] at h1
  exact Nat.lt_of_lt_of_le h1 (Nat.pow_le_pow_right (by omega) (by omega))
theorem scl_fin {xs : List Nat} (hF : FinL xs) (hb : powB xs = true) (i : Nat) : rung ((sclL xs (powK xs)).getD i 0) < 9218868437227405312 := by
 by_cases hi : i < xs.length
 ·obtain ⟨_, p1, p2, _, p4, p5⟩ := powK_spec hF hb
  rw [scl_at0 hi]
  exact ldx_fin (hF i).2 (fin_rung hF i) p1 p2 (Nat.lt_of_le_of_lt (p5 i) p4)
 ·rw [List.getD, List.getElem?_eq_none (by rw [length_sclL]; omega)]
  decide
theorem ltL_cn2 {bs : List Nat} (h : ∀ b, b ∈ bs → b < 2 ^ 64) : LtL (bs.map cn) := fun k => by
 by_cases hk : k < bs.length
 ·rw [List.getD, List.getElem?_map, List.getElem?_eq_getElem hk]
  exact cn_lt (h _ (List.getElem_mem hk))
 ·rw [List.getD, List.getElem?_eq_none (by rw [List.length_map]; omega)]
  decide
end Go.Bn
