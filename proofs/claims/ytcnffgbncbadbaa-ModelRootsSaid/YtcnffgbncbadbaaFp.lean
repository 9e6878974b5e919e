/-
  Plain facts on binary64: what is exact.
-/
import Derived.Test.YtcnffgbncbadbaaRef
set_option linter.unusedVariables false
set_option linter.unusedSimpArgs false
namespace Go.Bn
open Go

theorem lpE : Ieee.double.leastPlace = -1074 := by decide +kernel
theorem fbE : Ieee.double.fractionBits = 52 := rfl
theorem log2_shift {n k : Nat} (h : n ≠ 0) : (n <<< k).log2 = n.log2 + k := by
  rw [Nat.shiftLeft_eq]
  refine (Nat.log2_eq_iff (by have := Nat.two_pow_pos k; exact Nat.mul_ne_zero h (by omega))).2 ⟨?_, ?_⟩
  · rw [Nat.pow_add]; exact Nat.mul_le_mul_right _ (Nat.log2_self_le h)
  · rw [show n.log2 + k + 1 = (n.log2 + 1) + k by omega, Nat.pow_add]
    exact Nat.mul_lt_mul_of_pos_right (Nat.lt_log2_self) (Nat.two_pow_pos k)
theorem shift_ne {n k : Nat} (h : n ≠ 0) : n <<< k ≠ 0 := by
  rw [Nat.shiftLeft_eq]
  have := Nat.two_pow_pos k
  exact Nat.mul_ne_zero h (by omega)
theorem cut_scale {neg : Bool} {n d k : Nat} (h : n ≠ 0) : Ieee.Toward.even.cut neg (n <<< k) (d + k) = Ieee.Toward.even.cut neg n d := by
  unfold Ieee.Toward.cut
  simp only [log2_shift h]
  rw [show min (d + k) (n.log2 + k + 2) = min d (n.log2 + 2) + k by omega]
  generalize min d (n.log2 + 2) = g
  have e1 : 1 <<< (g + k) = (1 <<< g) * 2 ^ k := by rw [Nat.shiftLeft_eq, Nat.shiftLeft_eq, Nat.pow_add]; simp
  have e2 : n <<< k = n * 2 ^ k := Nat.shiftLeft_eq _ _
  rw [e1, e2]
  generalize hG : 1 <<< g = G
  have hk := Nat.two_pow_pos k
  rw [Nat.mul_div_mul_right _ _ hk, Nat.mul_mod_mul_right]
  generalize hK : 2 ^ k = K at *
  have h1 : decide (G * K < 2 * (n % G * K)) = decide (G < 2 * (n % G)) := by
    rw [← Nat.mul_assoc]
    exact decide_eq_decide.2 (Nat.mul_lt_mul_right hk)
  have h2 : (G * K == 2 * (n % G * K)) = (G == 2 * (n % G)) := by
    rw [← Nat.mul_assoc, Bool.eq_iff_iff, beq_iff_eq, beq_iff_eq]
    exact Nat.mul_right_cancel_iff hk
  simp only [h1, h2]
theorem cut_zero {neg : Bool} {n : Nat} : Ieee.Toward.even.cut neg n 0 = n := by
  unfold Ieee.Toward.cut
  simp [Nat.mod_one]
theorem cut_exact {neg : Bool} {n d : Nat} (h : n ≠ 0) : Ieee.Toward.even.cut neg (n <<< d) d = n := by
  have := @cut_scale neg n 0 d h
  rw [Nat.zero_add] at this
  rw [this, cut_zero]
/-- What a number is rounded to hangs on its value alone. -/
theorem nearest_scale {s : Bool} {n k : Nat} {p : Int} : Ieee.double.nearest s (n <<< k) (p - k) = Ieee.double.nearest s n p := by
  by_cases h : n = 0
  · subst h; simp [Ieee.Format.nearest]
  unfold Ieee.Format.nearest
  rw [if_neg h, if_neg (shift_ne h)]
  simp only [log2_shift h]
  rw [show p - (k : Int) + ((n.log2 + k : Nat) : Int) - (Ieee.double.fractionBits : Int) = p + (n.log2 : Int) - (Ieee.double.fractionBits : Int) by omega]
  generalize max (p + (n.log2 : Int) - (Ieee.double.fractionBits : Int)) Ieee.double.leastPlace = last
  suffices hc : Ieee.Toward.even.cut s ((n <<< k) <<< (p - k - last).toNat) (last - (p - k)).toNat = Ieee.Toward.even.cut s (n <<< (p - last).toNat) (last - p).toNat by rw [hc]
  by_cases h1 : (k : Int) ≤ p - last
  · rw [show (last - (p - k)).toNat = 0 by omega, show (last - p).toNat = 0 by omega, ← Nat.shiftLeft_add]
    congr 2; omega
  · by_cases h2 : 0 ≤ p - last
    · rw [show (p - k - last).toNat = 0 by omega, show (last - p).toNat = 0 by omega, Nat.shiftLeft_zero]
      have e : n <<< k = (n <<< (p - last).toNat) <<< (k - (p - last).toNat) := by rw [← Nat.shiftLeft_add]; congr 1; omega
      rw [e, show (last - (p - k)).toNat = 0 + (k - (p - last).toNat) by omega, cut_scale (shift_ne h)]
    · rw [show (p - k - last).toNat = 0 by omega, show (p - last).toNat = 0 by omega, Nat.shiftLeft_zero, Nat.shiftLeft_zero, show (last - (p - k)).toNat = (last - p).toNat + k by omega, cut_scale h]
theorem nearest_eq {s : Bool} {n m : Nat} {p q : Int} (h : (n : Nat) * 2 ^ (p - min p q).toNat = m * 2 ^ (q - min p q).toNat) : Ieee.double.nearest s n p = Ieee.double.nearest s m q := by
  have h1 := @nearest_scale s n (p - min p q).toNat p
  have h2 := @nearest_scale s m (q - min p q).toNat q
  rw [Nat.shiftLeft_eq] at h1 h2
  rw [← h1, ← h2, h, show p - ((p - min p q).toNat : Int) = q - ((q - min p q).toNat : Int) by omega]
/-! ## Finite words -/
def sgn (w : Nat) : Bool := w / 9223372036854775808 % 2 == 1
def rung (w : Nat) : Nat := w % 9223372036854775808
/-- What a finite word stands for: digits and place. -/
def mgn (w : Nat) : Nat := if rung w < 4503599627370496 then rung w else 4503599627370496 + rung w % 4503599627370496
def plc (w : Nat) : Int := if rung w < 4503599627370496 then -1074 else -1074 + (rung w / 4503599627370496 - 1 : Nat)
/-- The value, in units of the least place. -/
def vlu (w : Nat) : Nat := mgn w * 2 ^ (plc w + 1074).toNat
theorem finB_iff {w : Nat} (hw : w < 2 ^ 64) : finB w = true ↔ rung w < 9218868437227405312 := by
  unfold finB rung expo
  simp only [decide_eq_true_eq]
  omega
theorem read_fin {w : Nat} (h : rung w < 9218868437227405312) : Ieee.double.read w = .number (sgn w) (mgn w) (plc w) := by
  unfold Ieee.Format.read mgn plc sgn rung at *
  simp only [signW, binA, infR, lpE]
  split
  · rfl
  · first | rfl | rw [if_pos h]
theorem word_eq {w : Nat} (hw : w < 2 ^ 64) : Ieee.double.word (sgn w) (rung w) = w := by
  unfold Ieee.Format.word sgn rung
  rw [signW]
  have h1 : w / 9223372036854775808 < 2 := by omega
  cases h : (w / 9223372036854775808 % 2 == 1)
  · simp at h ⊢; omega
  · simp at h ⊢; omega
theorem log2_52 {f : Nat} (h : f < 4503599627370496) : (4503599627370496 + f).log2 = 52 := (Nat.log2_eq_iff (by omega)).2 ⟨by omega, by omega⟩
/-- A finite word is what its number is rounded to. -/
theorem nearest_read {w : Nat} (hw : w < 2 ^ 64) (h : rung w < 9218868437227405312) : Ieee.double.nearest (sgn w) (mgn w) (plc w) = w := by
  conv => rhs; rw [← word_eq hw]
  unfold Ieee.Format.nearest
  simp only [lpE, fbE, binA, infR]
  by_cases h1 : rung w < 4503599627370496
  · have e1 : mgn w = rung w := by unfold mgn; rw [if_pos h1]
    have e2 : plc w = -1074 := by unfold plc; rw [if_pos h1]
    rw [e1, e2]
    by_cases h0 : rung w = 0
    · rw [if_pos h0, h0]
    · rw [if_neg h0]
      have hl : (rung w).log2 < 52 := by rw [Nat.log2_lt h0]; omega
      rw [show max (-1074 + ((rung w).log2 : Int) - ((52 : Nat) : Int)) (-1074 : Int) = -1074 by omega]
      simp [cut_zero]
      congr 1
      omega
  · have hf : rung w % 4503599627370496 < 4503599627370496 := Nat.mod_lt _ (by omega)
    have e1 : mgn w = 4503599627370496 + rung w % 4503599627370496 := by unfold mgn; rw [if_neg h1]
    have e2 : plc w = -1074 + (rung w / 4503599627370496 - 1 : Nat) := by unfold plc; rw [if_neg h1]
    rw [e1, e2, if_neg (by omega), log2_52 hf]
    generalize hq : rung w / 4503599627370496 - 1 = q
    rw [show max (-1074 + (q : Int) + ((52 : Nat) : Int) - ((52 : Nat) : Int)) (-1074 : Int) = -1074 + (q : Int) by omega]
    rw [show (-1074 + (q : Int) - (-1074 + (q : Int))).toNat = 0 by omega, Nat.shiftLeft_zero, cut_zero, show (-1074 + (q : Int) - -1074).toNat = q by omega]
    congr 1
    omega
theorem plc_ge (w : Nat) : -1074 ≤ plc w := by unfold plc; split <;> omega
theorem mgn_lt (w : Nat) : mgn w < 9007199254740992 := by
  unfold mgn
  have := Nat.mod_lt (rung w) (show 0 < 4503599627370496 by omega)
  split <;> omega
theorem nearest_vlu {w : Nat} (hw : w < 2 ^ 64) (h : rung w < 9218868437227405312) : Ieee.double.nearest (sgn w) (vlu w) (-1074) = w := by
  conv => rhs; rw [← nearest_read hw h]
  apply nearest_eq
  have := plc_ge w
  rw [show min (-1074 : Int) (plc w) = -1074 by omega]
  simp [vlu]
theorem word_parts {s : Bool} {r : Nat} (h : r ≤ 9218868437227405312) : sgn (Ieee.double.word s r) = s ∧ rung (Ieee.double.word s r) = r ∧ Ieee.double.word s r < 2 ^ 64 := by
  unfold Ieee.Format.word sgn rung
  rw [signW]
  cases s
  · simp; omega
  · simp; omega
theorem nearest_few0 {s : Bool} {a j : Nat} (ha : a < 9007199254740992) (h0 : a ≠ 0) : ∃ t K, Ieee.double.nearest s (a * 2 ^ j) (-1074) = Ieee.double.word s (min (t * 4503599627370496 + K) 9218868437227405312) ∧ K < 9007199254740992 ∧ (t = 0 ∨ 4503599627370496 ≤ K) ∧ K * 2 ^ t = a * 2 ^ j := by
  have hv0 : a * 2 ^ j ≠ 0 := by have := Nat.two_pow_pos j; exact Nat.mul_ne_zero h0 (by omega)
  have hla : a.log2 ≤ 52 := by have := (Nat.log2_lt h0 (k := 53)).2 (by omega); omega
  have hlog : (a * 2 ^ j).log2 = a.log2 + j := by rw [← Nat.shiftLeft_eq]; exact log2_shift h0
  have htj : a.log2 + j - 52 ≤ j := by omega
  refine ⟨a.log2 + j - 52, a * 2 ^ (j - (a.log2 + j - 52)), ?_, ?_, ?_, ?_⟩
  · unfold Ieee.Format.nearest
    simp only [lpE, fbE, binA, infR]
    rw [if_neg hv0, hlog]
    generalize ht : a.log2 + j - 52 = t at htj ⊢
    have hlast : max (-1074 + ((a.log2 + j : Nat) : Int) - ((52 : Nat) : Int)) (-1074 : Int) = -1074 + (t : Int) := by omega
    rw [hlast, show (-1074 - (-1074 + (t : Int))).toNat = 0 by omega, Nat.shiftLeft_zero, show (-1074 + (t : Int) - -1074).toNat = t by omega]
    have e : a * 2 ^ j = (a * 2 ^ (j - t)) <<< t := by rw [Nat.shiftLeft_eq, Nat.mul_assoc, ← Nat.pow_add]; congr 2; omega
    rw [e, cut_exact (by have := Nat.two_pow_pos (j - t); exact Nat.mul_ne_zero h0 (by omega))]
  · generalize ht : a.log2 + j - 52 = t at htj ⊢
    have h1 : (a * 2 ^ (j - t)).log2 ≤ 52 := by rw [← Nat.shiftLeft_eq, log2_shift h0]; omega
    have h2 := Nat.lt_log2_self (n := a * 2 ^ (j - t))
    have h3 : 2 ^ ((a * 2 ^ (j - t)).log2 + 1) ≤ 2 ^ 53 := Nat.pow_le_pow_right (by omega) (by omega)
    exact Nat.lt_of_lt_of_le h2 h3
  · rcases Nat.eq_zero_or_pos (a.log2 + j - 52) with h | h
    · exact .inl h
    · right
      generalize ht : a.log2 + j - 52 = t at htj h ⊢
      have h1 : (a * 2 ^ (j - t)).log2 = 52 := by rw [← Nat.shiftLeft_eq, log2_shift h0]; omega
      have h2 := Nat.log2_self_le (n := a * 2 ^ (j - t)) (by have := Nat.two_pow_pos (j - t); exact Nat.mul_ne_zero h0 (by omega))
      rw [h1] at h2
      exact h2
  · rw [Nat.mul_assoc, ← Nat.pow_add]; congr 2; omega
/-- A value of few digits: exact, or beyond all finite ones. -/
theorem nearest_few {s : Bool} {a j : Nat} (ha : a < 9007199254740992) (w : Nat) (hw : Ieee.double.nearest s (a * 2 ^ j) (-1074) = w) :
    w < 2 ^ 64 ∧ sgn w = s ∧ (rung w = 9218868437227405312 ∨ (rung w < 9218868437227405312 ∧ vlu w = a * 2 ^ j)) := by
  by_cases h0 : a = 0
  · subst h0
    rw [Nat.zero_mul] at hw ⊢
    obtain ⟨h1, h2, h3⟩ := @word_parts s 0 (by omega)
    have e : Ieee.double.nearest s 0 (-1074) = Ieee.double.word s 0 := by simp [Ieee.Format.nearest]
    rw [e] at hw
    rw [hw] at h1 h2 h3
    exact ⟨h3, h1, .inr ⟨by omega, by simp [vlu, mgn, h2]⟩⟩
  obtain ⟨t, K, h, hK, ht, hv⟩ := @nearest_few0 s a j ha h0
  rw [hw] at h
  obtain ⟨h1, h2, h3⟩ := @word_parts s (min (t * 4503599627370496 + K) 9218868437227405312) (Nat.min_le_right ..)
  rw [← h] at h1 h2 h3
  refine ⟨h3, h1, ?_⟩
  clear h hw h1 h3
  by_cases hb : 9218868437227405312 ≤ t * 4503599627370496 + K
  · exact .inl (by rw [h2]; exact Nat.min_eq_right hb)
  · right
    have hr : rung w = t * 4503599627370496 + K := by rw [h2]; exact Nat.min_eq_left (by omega)
    refine ⟨by omega, ?_⟩
    rw [← hv]
    unfold vlu mgn plc
    rw [hr]
    by_cases hs : t * 4503599627370496 + K < 4503599627370496
    · rw [if_pos hs, if_pos hs]
      have : t = 0 := by omega
      subst this
      simp
    · rw [if_neg hs, if_neg hs]
      have hKlow : 4503599627370496 ≤ K := by omega
      have e1 : (t * 4503599627370496 + K) % 4503599627370496 = K - 4503599627370496 := by omega
      have e2 : (t * 4503599627370496 + K) / 4503599627370496 - 1 = t := by omega
      rw [e1, e2, show 4503599627370496 + (K - 4503599627370496) = K by omega, show (-1074 + (t : Int) + 1074).toNat = t by omega]
/-- A finite word by its sign and its value. -/
theorem fin_ext {v w : Nat} (hv : v < 2 ^ 64) (hw : w < 2 ^ 64) (fv : rung v < 9218868437227405312) (fw : rung w < 9218868437227405312) (hs : sgn v = sgn w) (h : vlu v = vlu w) : v = w := by
  rw [← nearest_vlu hv fv, ← nearest_vlu hw fw, hs, h]

/-! ## The operations -/
theorem read_inf {w : Nat} (h : rung w = 9218868437227405312) : Ieee.double.read w = .infinity (sgn w) := by
  unfold Ieee.Format.read sgn rung at *
  simp only [signW, binA, infR, h]
  rfl
theorem inf_not_fin {w : Nat} (hw : w < 2 ^ 64) (h : rung w = 9218868437227405312) : finB w = false := by
  cases hf : finB w
  · rfl
  · have := (finB_iff hw).1 hf; omega
theorem read_two : Ieee.double.read TWO = .number false 4503599627370496 (-51) := by decide +kernel
theorem sum_self {s : Bool} {m : Nat} {e : Int} : (Ieee.Datum.number s m e).sum (.number s m e) = some (.number s (m * 2) e) := by
  simp only [Ieee.Datum.sum, Ieee.signed]
  cases s
  · simp
    refine ⟨fun h => ?_, by omega⟩
    omega
  · simp
    omega
theorem fadd_self {x : Nat} (h : rung x < 9218868437227405312) : fadd x x = Ieee.double.nearest (sgn x) (mgn x * 2) (plc x) := by
  unfold fadd Ieee.Format.add
  rw [read_fin h, sum_self]
  rfl
theorem fdiv_two {y : Nat} (h : rung y < 9218868437227405312) : fdiv y TWO = Ieee.double.nearest (sgn y) (mgn y) (plc y - 1) := by
  unfold fdiv Ieee.Format.div
  rw [read_fin h, read_two]
  simp only [Ieee.Datum.quotient]
  have hn : Nat.log2 4503599627370496 = 52 := by decide +kernel
  have hm : (mgn y).log2 ≤ 52 := by
    by_cases h0 : mgn y = 0
    · rw [h0]; decide
    · have := (Nat.log2_lt h0 (k := 53)).2 (mgn_lt y); omega
  rw [if_neg (by decide), hn, fbE]
  generalize hmo : 52 + 2 + 52 - (mgn y).log2 = more
  have e : mgn y <<< more = (mgn y * 2 ^ (more - 52)) * 4503599627370496 := by
    rw [Nat.shiftLeft_eq, show (4503599627370496 : Nat) = 2 ^ 52 by decide, Nat.mul_assoc, ← Nat.pow_add]; congr 2; omega
  rw [e, Nat.mul_div_cancel _ (by omega), Nat.mul_mod_left]
  simp only [Option.map_some, fop, Ieee.Format.write, bne_self_eq_false, Bool.toNat_false, Nat.add_zero, Bool.xor_false]
  rw [← @nearest_scale (sgn y) (mgn y) (more - 51) (plc y - 1)]
  show Ieee.double.nearest _ _ _ = _
  congr 1
  · rw [Nat.shiftLeft_eq, show more - 51 = (more - 52) + 1 by omega, Nat.pow_succ, Nat.mul_comm 2 (mgn y * _), Nat.mul_assoc]
  · omega
theorem half_inf {y : Nat} (h : rung y = 9218868437227405312) : finB (fdiv y TWO) = false := by
  unfold fdiv Ieee.Format.div
  rw [read_inf h, read_two]
  cases sgn y <;> decide +kernel
/-- A number added to itself and halved: itself, if the answer is finite. -/
theorem half_self {x : Nat} (hx : x < 2 ^ 64) (hf : finB x = true) (h : finB (fdiv (fadd x x) TWO) = true) : fdiv (fadd x x) TWO = x := by
  have hr := (finB_iff hx).1 hf
  have hp := plc_ge x
  have e1 : fadd x x = Ieee.double.nearest (sgn x) (mgn x * 2 ^ ((plc x + 1074).toNat + 1)) (-1074) := by
    rw [fadd_self hr]
    apply nearest_eq
    rw [show min (plc x) (-1074 : Int) = -1074 by omega]
    rw [Nat.pow_succ, Nat.mul_assoc, Nat.mul_comm 2, ← Nat.mul_assoc, ← Nat.mul_assoc]
    rw [show (-1074 - -1074 : Int).toNat = 0 by decide, Nat.pow_zero, Nat.mul_one, show (plc x - -1074).toNat = (plc x + 1074).toNat by omega]
  obtain ⟨h1, h2, h3⟩ := nearest_few (s := sgn x) (j := (plc x + 1074).toNat + 1) (mgn_lt x) (fadd x x) e1.symm
  rcases h3 with h3 | ⟨h3, h4⟩
  · rw [half_inf h3] at h; cases h
  · rw [fdiv_two h3, h2]
    conv => rhs; rw [← nearest_vlu hx hr]
    apply nearest_eq
    have hq := plc_ge (fadd x x)
    have h5 : mgn (fadd x x) * 2 ^ (plc (fadd x x) + 1074).toNat = vlu x * 2 := by
      show vlu (fadd x x) = _
      rw [h4]
      unfold vlu
      rw [Nat.pow_succ, ← Nat.mul_assoc]
    by_cases hc : plc (fadd x x) = -1074
    · rw [hc] at h5 ⊢
      rw [show min (-1074 - 1 : Int) (-1074) = -1075 by decide, show (-1074 - 1 - -1075 : Int).toNat = 0 by decide, show (-1074 - -1075 : Int).toNat = 1 by decide]
      simpa using h5
    · rw [show min (plc (fadd x x) - 1) (-1074 : Int) = -1074 by omega]
      rw [show (plc (fadd x x) + 1074).toNat = (plc (fadd x x) - 1 - -1074).toNat + 1 by omega, Nat.pow_succ, ← Nat.mul_assoc] at h5
      have := Nat.eq_of_mul_eq_mul_right (by omega : 0 < 2) h5
      rw [this]
      simp
end Go.Bn
