/-
  What is rounded stays above every number that it was above; sums of what is not below 0 grow.
-/
import Derived.Test.YtllmlkffknodmaaNrLnn
set_option linter.unusedVariables false
set_option linter.unusedSimpArgs false
namespace Go.Bn
open Go
theorem nearest_ge {s : Bool} {n : Nat} {p : Int} {m e N : Nat} (hf : rung (Ieee.double.nearest s n p) < 9218868437227405312) (hm : m < 9007199254740992) (hN : 1074 ≤ N) (hp : -(N : Int) ≤ p) (h : m * 2 ^ e * 2 ^ (N - 1074) ≤ n * 2 ^ (p + N).toNat) : m * 2 ^ e ≤ vlu (Ieee.double.nearest s n p) := by
  by_cases hn : n = 0
  · have h0 : m * 2 ^ e = 0 := by
      rw [hn, Nat.zero_mul] at h
      rcases Nat.mul_eq_zero.1 (Nat.le_zero.1 h) with h | h
      · exact h
      · exact absurd h (Nat.ne_of_gt (Nat.two_pow_pos _))
    rw [h0]; exact Nat.zero_le _
  · obtain ⟨K, t, d, u, h1, h2, _, h3, h4, h5, h6, h7⟩ := nearest_step hn hf
    rw [h1]
    by_cases hu : u = 0
    · subst hu
      rw [Nat.pow_zero, Nat.mul_one] at h4 h5 h7
      have hd := Nat.two_pow_pos d
      -- the number against the step
      have hv : m * 2 ^ e * 2 ^ d ≤ n * 2 ^ t := by
        have hQ := Nat.two_pow_pos (N - 1074)
        refine Nat.le_of_mul_le_mul_right (c := 2 ^ (N - 1074)) ?_ hQ
        have e1 : n * 2 ^ t * 2 ^ (N - 1074) = n * 2 ^ (p + N).toNat * 2 ^ d := by
          rw [Nat.mul_assoc, ← Nat.pow_add, Nat.mul_assoc, ← Nat.pow_add, show t + (N - 1074) = (p + N).toNat + d by omega]
        rw [e1, Nat.mul_right_comm]
        exact Nat.mul_le_mul_right _ h
      by_cases hte : t ≤ e
      · have ev : m * 2 ^ e = m * 2 ^ (e - t) * 2 ^ t := by rw [Nat.mul_assoc, ← Nat.pow_add, show e - t + t = e by omega]
        rw [ev] at hv ⊢
        generalize m * 2 ^ (e - t) = j at *
        have hj : j * 2 ^ d ≤ n := by
          refine Nat.le_of_mul_le_mul_right (c := 2 ^ t) ?_ (Nat.two_pow_pos t)
          rw [Nat.mul_right_comm]; exact hv
        refine Nat.mul_le_mul_right _ ?_
        rcases Nat.lt_or_ge K j with hk | hk
        · exfalso
          have := Nat.mul_le_mul_right (2 ^ d) (show K + 1 ≤ j from hk)
          rw [Nat.add_mul, Nat.one_mul] at this
          omega
        · exact hk
      · rcases h7 with h7 | h7
        · omega
        · have hk : 4503599627370496 ≤ K := by
            rcases Nat.lt_or_ge K 4503599627370496 with hk | hk
            · exfalso
              have := Nat.mul_le_mul_right (2 ^ d) (show K + 1 ≤ 4503599627370496 from hk)
              rw [Nat.add_mul, Nat.one_mul] at this
              omega
            · exact hk
          have a1 : m * 2 ^ e ≤ 9007199254740992 * 2 ^ e := Nat.mul_le_mul_right _ (by omega)
          have a2 : 9007199254740992 * 2 ^ e = 4503599627370496 * 2 ^ (e + 1) := by rw [Nat.pow_succ]; omega
          have a3 : 4503599627370496 * 2 ^ (e + 1) ≤ 4503599627370496 * 2 ^ t := Nat.mul_le_mul_left _ (Nat.pow_le_pow_right (by omega) (by omega))
          have a4 : 4503599627370496 * 2 ^ t ≤ K * 2 ^ t := Nat.mul_le_mul_right _ hk
          omega
    · have hd0 : d = 0 := by omega
      subst hd0
      rw [h6 hu]
      refine Nat.le_of_mul_le_mul_right (c := 2 ^ (N - 1074)) ?_ (Nat.two_pow_pos _)
      refine Nat.le_trans h (Nat.le_of_eq ?_)
      rw [Nat.mul_assoc, Nat.mul_assoc, ← Nat.pow_add, ← Nat.pow_add, show (p + N).toNat = u + (t + (N - 1074)) by omega]
/-- A sum of two that are not below 0 is at least each. -/
theorem fadd_ge {x y : Nat} (hx : rung x < 9218868437227405312) (hy : rung y < 9218868437227405312) (hf : rung (fadd x y) < 9218868437227405312) (sx : 0 ≤ sval x) (sy : 0 ≤ sval y) : vlu x ≤ vlu (fadd x y) ∧ vlu y ≤ vlu (fadd x y) := by
  have cx := sval_abs x
  have cy := sval_abs y
  have hg : ∀ z, vlu z ≤ (sval x + sval y).natAbs → vlu z ≤ vlu (fadd x y) := fun z hz => by
    rw [fadd_int hx hy] at hf ⊢
    refine nearest_ge (m := mgn z) (e := (plc z + 1074).toNat) (N := 1074) hf ?_ (Nat.le_refl _) (by decide) ?_
    · exact mgn_lt z
    · have h0 : (-1074 + ((1074 : Nat) : Int)).toNat = 0 := by decide
      rw [h0, Nat.sub_self, Nat.pow_zero, Nat.mul_one, Nat.mul_one]
      exact hz
  exact ⟨hg x (by omega), hg y (by omega)⟩
theorem sq_sgn {y : Nat} (hy : rung y < 9218868437227405312) : sgn (fmul y y) = false := by
  rw [fmul_vlx hy hy, Bool.xor_self]
  exact nearest_pos
theorem fadd_sgn {x y : Nat} (hx : rung x < 9218868437227405312) (hy : rung y < 9218868437227405312) (sx : sgn x = false) (sy : sgn y = false) : sgn (fadd x y) = false := by
  rw [fadd_int hx hy]
  have e1 := sval_pos' sx
  have e2 := sval_pos' sy
  have : (if sval x + sval y = 0 then sgn x && sgn y else decide (sval x + sval y < 0)) = false := by
    split
    · rw [sx]; rfl
    · exact decide_eq_false (by omega)
  rw [this]
  exact nearest_pos
/-- The sum of squares is at least each square. -/
theorem dot_ge {ys : List Nat} (fin : ∀ k, rung (ys.getD k 0) < 9218868437227405312) (b : ∀ k, vlu (ys.getD k 0) ≤ 2 * PZ) : ∀ n, n ≤ 48 → sgn (dotTo ys ys n) = false ∧ ∀ i, i < n → vlu (fmul (ys.getD i 0) (ys.getD i 0)) ≤ vlu (dotTo ys ys n)
  | 0, _ => ⟨by show sgn 0 = false; decide, fun i hi => absurd hi (Nat.not_lt_zero i)⟩
  | n + 1, hn => by
    obtain ⟨g1, g2⟩ := dot_ge fin b n (by omega)
    have f1 := (dot_fin48 fin b n (by omega)).1
    have f2 := (sq_fin (fin n) (b n)).1
    have f3 := (dot_fin48 fin b (n + 1) hn).1
    have s2 := sq_sgn (fin n)
    rw [dot_suc] at f3 ⊢
    have e1 := sval_pos' g1
    have e2 := sval_pos' s2
    obtain ⟨h1, h2⟩ := fadd_ge f1 f2 f3 (by omega) (by omega)
    refine ⟨fadd_sgn f1 f2 g1 s2, fun i hi => ?_⟩
    by_cases e : i = n
    · rw [e]; exact h2
    · exact Nat.le_trans (g2 i (by omega)) h1
theorem nearest_stepK {s : Bool} {n : Nat} {p : Int} (hn : n ≠ 0) (hf : rung (Ieee.double.nearest s n p) < 9218868437227405312) :
    ∃ (K t d u : Nat), vlu (Ieee.double.nearest s n p) = K * 2 ^ t ∧ (d = 0 ∨ u = 0) ∧ (p + (u : Int) + 1074 = (t : Int) + (u : Int) + (u : Int) - (d : Int) + 0 ∨ True) ∧ p + (d : Int) = -1074 + (t : Int) + (u : Int) ∧
      2 * (K * 2 ^ d) ≤ 2 * (n * 2 ^ u) + 2 ^ d ∧ 2 * (n * 2 ^ u) ≤ 2 * (K * 2 ^ d) + 2 ^ d ∧ (u ≠ 0 → K = n * 2 ^ u) ∧ (t = 0 ∨ 4503599627370496 * 2 ^ d ≤ n * 2 ^ u) ∧ K ≤ 9007199254740992 := by
  obtain ⟨last, hlast⟩ : ∃ last, last = max (p + (n.log2 : Int) - 52) (-1074) := ⟨_, rfl⟩
  have hw : Ieee.double.nearest s n p = Ieee.double.word s (min ((last + 1074).toNat * 4503599627370496 + Ieee.Toward.even.cut s (n <<< (p - last).toNat) (last - p).toNat) 9218868437227405312) := by
    unfold Ieee.Format.nearest
    simp only [lpE, fbE, binA, infR]
    rw [if_neg hn, show p + (n.log2 : Int) - ((52 : Nat) : Int) = p + (n.log2 : Int) - 52 by omega, ← hlast, show (last - -1074).toNat = (last + 1074).toNat by omega]
  have hnu : n <<< (p - last).toNat ≠ 0 := shift_ne hn
  obtain ⟨c1, c2⟩ := @cut_err s (n <<< (p - last).toNat) (last - p).toNat hnu
  have hlo := Nat.log2_self_le hn
  have hhi := Nat.lt_log2_self (n := n)
  generalize hK : Ieee.Toward.even.cut s (n <<< (p - last).toNat) (last - p).toNat = K at *
  rw [Nat.shiftLeft_eq] at c1 c2
  have hex : (p - last).toNat ≠ 0 → K = n * 2 ^ (p - last).toNat := fun hu => by
    rw [← hK, show (last - p).toNat = 0 by omega, cut_zero, Nat.shiftLeft_eq]
  have hup : n * 2 ^ (p - last).toNat < 9007199254740992 * 2 ^ (last - p).toNat := by
    rw [← pow53, ← Nat.pow_add]
    refine Nat.lt_of_lt_of_le (Nat.mul_lt_mul_of_pos_right hhi (Nat.two_pow_pos _)) ?_
    rw [← Nat.pow_add]
    exact Nat.pow_le_pow_right (by omega) (by omega)
  have hdn : (last + 1074).toNat = 0 ∨ 4503599627370496 * 2 ^ (last - p).toNat ≤ n * 2 ^ (p - last).toNat := by
    by_cases h0 : (last + 1074).toNat = 0
    · exact .inl h0
    · right
      rw [← pow52, ← Nat.pow_add]
      refine Nat.le_trans (Nat.pow_le_pow_right (by omega) (show 52 + (last - p).toNat ≤ n.log2 + (p - last).toNat by omega)) ?_
      rw [Nat.pow_add]
      exact Nat.mul_le_mul_right _ hlo
  have hdp := Nat.two_pow_pos (last - p).toNat
  have hKm : K ≤ 9007199254740992 := by
    generalize 2 ^ (last - p).toNat = D at *
    generalize n * 2 ^ (p - last).toNat = A at *
    by_cases hc : K ≤ 9007199254740992
    · exact hc
    · have := Nat.mul_le_mul_right D (show 9007199254740992 + 1 ≤ K by omega)
      rw [Nat.add_mul, Nat.one_mul] at this
      omega
  have hKl : (last + 1074).toNat = 0 ∨ 4503599627370496 ≤ K := by
    rcases hdn with h | h
    · exact .inl h
    · right
      generalize 2 ^ (last - p).toNat = D at *
      generalize n * 2 ^ (p - last).toNat = A at *
      by_cases hc : 4503599627370496 ≤ K
      · exact hc
      · have := Nat.mul_le_mul_right D (show K + 1 ≤ 4503599627370496 by omega)
        rw [Nat.add_mul, Nat.one_mul] at this
        omega
  refine ⟨K, (last + 1074).toNat, (last - p).toNat, (p - last).toNat, vlu_word hKm hKl _ hw hf, by omega, .inr trivial, by omega, c1, c2, hex, hdn, hKm⟩
/-- More than half a step below is rounded up to it. -/
theorem nearest_half {s : Bool} {n : Nat} {p : Int} {m e N : Nat} (hf : rung (Ieee.double.nearest s n p) < 9218868437227405312) (hm0 : 4503599627370496 < m) (hm : m < 9007199254740992) (hN : 1074 ≤ N) (hp : -(N : Int) ≤ p) (h : (2 * m - 1) * 2 ^ e * 2 ^ (N - 1074) < 2 * (n * 2 ^ (p + N).toNat)) : m * 2 ^ e ≤ vlu (Ieee.double.nearest s n p) := by
  have hn : n ≠ 0 := by
    intro h0
    rw [h0, Nat.zero_mul] at h
    omega
  obtain ⟨K, t, d, u, h1, h2, _, h3, h4, h5, h6, h7, h8⟩ := nearest_stepK hn hf
  rw [h1]
  have hd := Nat.two_pow_pos d
  have hv : (2 * m - 1) * 2 ^ e * 2 ^ d < 2 * (n * 2 ^ u) * 2 ^ t := by
    refine Nat.lt_of_mul_lt_mul_right (a := 2 ^ (N - 1074)) ?_
    have e1 : 2 * (n * 2 ^ u) * 2 ^ t * 2 ^ (N - 1074) = 2 * (n * 2 ^ (p + N).toNat) * 2 ^ d := by
      have : n * 2 ^ u * 2 ^ t * 2 ^ (N - 1074) = n * 2 ^ (p + N).toNat * 2 ^ d := by
        rw [Nat.mul_assoc, Nat.mul_assoc, ← Nat.pow_add, ← Nat.pow_add, Nat.mul_assoc, ← Nat.pow_add, show u + (t + (N - 1074)) = (p + N).toNat + d by omega]
      rw [Nat.mul_assoc 2, Nat.mul_assoc 2, this, Nat.mul_assoc 2]
    rw [e1, Nat.mul_right_comm]
    exact Nat.mul_lt_mul_of_pos_right h hd
  generalize n * 2 ^ u = A at *
  rcases Nat.lt_trichotomy t e with hte | hte | hte
  · exfalso
    obtain ⟨f, hf⟩ : ∃ f, f = e - t - 1 := ⟨_, rfl⟩
    have ev : (2 * m - 1) * 2 ^ e = (2 * m - 1) * 2 ^ f * 2 * 2 ^ t := by
      rw [Nat.mul_assoc, Nat.mul_assoc, show 2 * 2 ^ t = 2 ^ (t + 1) by rw [Nat.pow_succ, Nat.mul_comm], ← Nat.pow_add, show f + (t + 1) = e by omega]
    rw [ev, Nat.mul_right_comm] at hv
    have hv2 := Nat.lt_of_mul_lt_mul_right hv
    have hp1 : 1 ≤ 2 ^ f := Nat.one_le_two_pow
    have a1 : (2 * m - 1) * 1 ≤ (2 * m - 1) * 2 ^ f := Nat.mul_le_mul_left _ hp1
    have a2 : 9007199254740993 * 2 * 2 ^ d ≤ (2 * m - 1) * 2 ^ f * 2 * 2 ^ d := Nat.mul_le_mul_right _ (Nat.mul_le_mul_right _ (by omega))
    have a3 : K * 2 ^ d ≤ 9007199254740992 * 2 ^ d := Nat.mul_le_mul_right _ h8
    omega
  · subst hte
    rw [Nat.mul_right_comm] at hv
    have hv2 := Nat.lt_of_mul_lt_mul_right hv
    refine Nat.mul_le_mul_right _ ?_
    rcases Nat.lt_or_ge K m with hk | hk
    · exfalso
      have a1 : (2 * K + 1) * 2 ^ d ≤ (2 * m - 1) * 2 ^ d := Nat.mul_le_mul_right _ (by omega)
      have a2 : (2 * K + 1) * 2 ^ d = 2 * (K * 2 ^ d) + 2 ^ d := by rw [Nat.add_mul, Nat.one_mul, Nat.mul_assoc]
      omega
    · exact hk
  · rcases h7 with h7 | h7
    · omega
    · have hk : 4503599627370496 ≤ K := by
        rcases Nat.lt_or_ge K 4503599627370496 with hk | hk
        · exfalso
          have := Nat.mul_le_mul_right (2 ^ d) (show K + 1 ≤ 4503599627370496 from hk)
          rw [Nat.add_mul, Nat.one_mul] at this
          omega
        · exact hk
      have a1 : m * 2 ^ e ≤ 9007199254740992 * 2 ^ e := Nat.mul_le_mul_right _ (by omega)
      have a2 : 9007199254740992 * 2 ^ e = 4503599627370496 * 2 ^ (e + 1) := by rw [Nat.pow_succ]; omega
      have a3 : 4503599627370496 * 2 ^ (e + 1) ≤ 4503599627370496 * 2 ^ t := Nat.mul_le_mul_left _ (Nat.pow_le_pow_right (by omega) (by omega))
      have a4 : 4503599627370496 * 2 ^ t ≤ K * 2 ^ t := Nat.mul_le_mul_right _ hk
      omega
end Go.Bn
