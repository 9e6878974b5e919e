/-
  Roundings; numbers nearly the same; the roots of what time adds, times themselves.
-/
import Derived.Test.YtcnffgbncbadbaaTwo
import Derived.Test.YtcnffgbncbadbaaGo
import Derived.Test.YtcnffgbncbadbaaRoot
import Derived.Test.YtcnffgbncbadbaaBex
set_option linter.unusedVariables false
set_option linter.unusedSimpArgs false
namespace Go.Bn
open Go
/-- Cut to the nearest: at most half a step away. -/
theorem cut_err {neg : Bool} {n d : Nat} (h : n ≠ 0) : 2 * (Ieee.Toward.even.cut neg n d * 2 ^ d) ≤ 2 * n + 2 ^ d ∧ 2 * n ≤ 2 * (Ieee.Toward.even.cut neg n d * 2 ^ d) + 2 ^ d := by
  unfold Ieee.Toward.cut
  simp only [Nat.shiftLeft_eq, Nat.one_mul]
  by_cases hd : d ≤ n.log2 + 2
  · rw [Nat.min_eq_left hd]
    have hg := Nat.two_pow_pos d
    generalize 2 ^ d = G at *
    have e := Nat.div_add_mod n G
    have hr := Nat.mod_lt n hg
    generalize n / G = low at *
    generalize n % G = rest at *
    rw [Nat.mul_comm G low] at e
    cases hm : (decide (G < 2 * rest) || (G == 2 * rest && low % 2 == 1))
    · simp only [Bool.or_eq_false_iff, decide_eq_false_iff_not] at hm
      simp only [Bool.toNat_false, Nat.add_zero]
      omega
    · simp only [Bool.or_eq_true, decide_eq_true_eq, Bool.and_eq_true, beq_iff_eq] at hm
      simp only [Bool.toNat_true, Nat.add_mul, Nat.one_mul]
      omega
  · rw [Nat.min_eq_right (by omega)]
    have h1 := Nat.lt_log2_self (n := n)
    have h2 : 2 ^ (n.log2 + 2) = 2 * 2 ^ (n.log2 + 1) := by rw [Nat.pow_succ 2 (n.log2 + 1)]; omega
    have h3 : 2 ^ (n.log2 + 2) ≤ 2 ^ d := Nat.pow_le_pow_right (by omega) (by omega)
    rw [Nat.div_eq_of_lt (by omega), Nat.mod_eq_of_lt (by omega)]
    have hm : (decide (2 ^ (n.log2 + 2) < 2 * n) || (2 ^ (n.log2 + 2) == 2 * n && 0 % 2 == 1)) = false := by
      simp
      omega
    rw [hm]
    simp
    omega
/-- The value of a word that is put together. -/
theorem vlu_word {s : Bool} {t K : Nat} (hK : K ≤ 9007199254740992) (ht : t = 0 ∨ 4503599627370496 ≤ K) (w : Nat) (hw : w = Ieee.double.word s (min (t * 4503599627370496 + K) 9218868437227405312)) (hf : rung w < 9218868437227405312) : vlu w = K * 2 ^ t := by
  have h2 := (@word_parts s (min (t * 4503599627370496 + K) 9218868437227405312) (Nat.min_le_right ..)).2.1
  rw [← hw] at h2
  have hr : rung w = t * 4503599627370496 + K := by omega
  unfold vlu mgn plc
  rw [hr]
  by_cases hs : t * 4503599627370496 + K < 4503599627370496
  · rw [if_pos hs, if_pos hs]
    have : t = 0 := by omega
    subst this
    simp
  · rw [if_neg hs, if_neg hs]
    by_cases hb : K = 9007199254740992
    · subst hb
      have e1 : (t * 4503599627370496 + 9007199254740992) % 4503599627370496 = 0 := by omega
      have e2 : (t * 4503599627370496 + 9007199254740992) / 4503599627370496 - 1 = t + 1 := by omega
      rw [e1, e2, show (-1074 + ((t + 1 : Nat) : Int) + 1074).toNat = t + 1 by omega, Nat.pow_succ]
      omega
    · have hKlow : 4503599627370496 ≤ K := by omega
      have e1 : (t * 4503599627370496 + K) % 4503599627370496 = K - 4503599627370496 := by omega
      have e2 : (t * 4503599627370496 + K) / 4503599627370496 - 1 = t := by omega
      rw [e1, e2, show 4503599627370496 + (K - 4503599627370496) = K by omega, show (-1074 + (t : Int) + 1074).toNat = t by omega]
theorem pow52 : (2 : Nat) ^ 52 = 4503599627370496 := by decide
theorem pow53 : (2 : Nat) ^ 53 = 9007199254740992 := by decide
/-- Rounded to the nearest: the step is 2^last, a 2^-52 of the number or the least one. -/
theorem nearest_step {s : Bool} {n : Nat} {p : Int} (hn : n ≠ 0) (hf : rung (Ieee.double.nearest s n p) < 9218868437227405312) :
    ∃ (K t d u : Nat), vlu (Ieee.double.nearest s n p) = K * 2 ^ t ∧ (d = 0 ∨ u = 0) ∧ (p + (u : Int) + 1074 = (t : Int) + (u : Int) + (u : Int) - (d : Int) + 0 ∨ True) ∧ p + (d : Int) = -1074 + (t : Int) + (u : Int) ∧
      2 * (K * 2 ^ d) ≤ 2 * (n * 2 ^ u) + 2 ^ d ∧ 2 * (n * 2 ^ u) ≤ 2 * (K * 2 ^ d) + 2 ^ d ∧ (u ≠ 0 → K = n * 2 ^ u) ∧ (t = 0 ∨ 4503599627370496 * 2 ^ d ≤ n * 2 ^ u) := by
  obtain ⟨last, hlast⟩ : ∃ last, last = max (p + (n.log2 : Int) - 52) (-1074) := ⟨_, rfl⟩
  have hw : Ieee.double.nearest s n p = Ieee.double.word s (min ((last + 1074).toNat * 4503599627370496 + Ieee.Toward.even.cut s (n <<< (p - last).toNat) (last - p).toNat) 9218868437227405312) := by
    unfold Ieee.Format.nearest
    simp only [lpE, fbE, binA, infR]
    rw [if_neg hn, show p + (n.log2 : Int) - ((52 : Nat) : Int) = p + (n.log2 : Int) - 52 by omega, ← hlast, show (last - -1074).toNat = (last + 1074).toNat by omega]
  have hnu : n <<< (p - last).toNat ≠ 0 := shift_ne hn
  obtain ⟨c1, c2⟩ := @cut_err s (n <<< (p - last).toNat) (last - p).toNat hnu
  have hlo := Nat.log2_self_le hn
  have hhi := Nat.lt_log2_self (n := n)
  generalize hK : Ieee.Toward.even.cut s (n <<< (p - last).toNat) (last - p).toNat = K at *
  rw [Nat.shiftLeft_eq] at c1 c2
  have hex : (p - last).toNat ≠ 0 → K = n * 2 ^ (p - last).toNat := fun hu => by
    rw [← hK, show (last - p).toNat = 0 by omega, cut_zero, Nat.shiftLeft_eq]
  have hup : n * 2 ^ (p - last).toNat < 9007199254740992 * 2 ^ (last - p).toNat := by
    rw [← pow53, ← Nat.pow_add]
    refine Nat.lt_of_lt_of_le (Nat.mul_lt_mul_of_pos_right hhi (Nat.two_pow_pos _)) ?_
    rw [← Nat.pow_add]
    exact Nat.pow_le_pow_right (by omega) (by omega)
  have hdn : (last + 1074).toNat = 0 ∨ 4503599627370496 * 2 ^ (last - p).toNat ≤ n * 2 ^ (p - last).toNat := by
    by_cases h0 : (last + 1074).toNat = 0
    · exact .inl h0
    · right
      rw [← pow52, ← Nat.pow_add]
      refine Nat.le_trans (Nat.pow_le_pow_right (by omega) (show 52 + (last - p).toNat ≤ n.log2 + (p - last).toNat by omega)) ?_
      rw [Nat.pow_add]
      exact Nat.mul_le_mul_right _ hlo
  have hdp := Nat.two_pow_pos (last - p).toNat
  have hKm : K ≤ 9007199254740992 := by
    generalize 2 ^ (last - p).toNat = D at *
    generalize n * 2 ^ (p - last).toNat = A at *
    by_cases hc : K ≤ 9007199254740992
    · exact hc
    · have := Nat.mul_le_mul_right D (show 9007199254740992 + 1 ≤ K by omega)
      rw [Nat.add_mul, Nat.one_mul] at this
      omega
  have hKl : (last + 1074).toNat = 0 ∨ 4503599627370496 ≤ K := by
    rcases hdn with h | h
    · exact .inl h
    · right
      generalize 2 ^ (last - p).toNat = D at *
      generalize n * 2 ^ (p - last).toNat = A at *
      by_cases hc : 4503599627370496 ≤ K
      · exact hc
      · have := Nat.mul_le_mul_right D (show K + 1 ≤ 4503599627370496 by omega)
        rw [Nat.add_mul, Nat.one_mul] at this
        omega
  refine ⟨K, (last + 1074).toNat, (last - p).toNat, (p - last).toNat, vlu_word hKm hKl _ hw hf, by omega, .inr trivial, by omega, c1, c2, hex, hdn⟩
/-- Rounded: in steps of 2^-N, at most a 2^-53 of the number away, or half of the least step. -/
theorem nearest_err {s : Bool} {n N : Nat} {p : Int} (hn : n ≠ 0) (hN : 1074 ≤ N) (hp : -(N : Int) ≤ p) (hf : rung (Ieee.double.nearest s n p) < 9218868437227405312) :
    ∃ E : Nat, vlu (Ieee.double.nearest s n p) * 2 ^ (N - 1074) ≤ n * 2 ^ (p + N).toNat + E ∧ n * 2 ^ (p + N).toNat ≤ vlu (Ieee.double.nearest s n p) * 2 ^ (N - 1074) + E ∧ (E * 9007199254740992 ≤ n * 2 ^ (p + N).toNat ∨ 2 * E ≤ 2 ^ (N - 1074)) := by
  obtain ⟨K, t, d, u, h1, h2, _, h3, h4, h5, h6, h7⟩ := nearest_step hn hf
  rw [h1]
  by_cases hu : u = 0
  · subst hu
    rw [Nat.pow_zero, Nat.mul_one] at h4 h5 h7
    have e1 : K * 2 ^ t * 2 ^ (N - 1074) = K * 2 ^ d * 2 ^ (p + N).toNat := by
      rw [Nat.mul_assoc, ← Nat.pow_add, Nat.mul_assoc, ← Nat.pow_add, show t + (N - 1074) = d + (p + N).toNat by omega]
    rw [e1]
    have e2 : 2 ^ d * 2 ^ (p + N).toNat = 2 ^ t * 2 ^ (N - 1074) := by
      rw [← Nat.pow_add, ← Nat.pow_add, show d + (p + N).toNat = t + (N - 1074) by omega]
    have hQ := Nat.two_pow_pos (p + N).toNat
    generalize hq : 2 ^ (p + N).toNat = Q at *
    by_cases hd : d = 0
    · subst hd
      rw [Nat.pow_zero] at h4 h5
      have : K = n := by omega
      subst this
      exact ⟨0, by rw [Nat.pow_zero, Nat.mul_one]; exact Nat.le_refl _, by rw [Nat.pow_zero, Nat.mul_one]; exact Nat.le_refl _, .inl (by rw [Nat.zero_mul]; exact Nat.zero_le _)⟩
    · obtain ⟨d', rfl⟩ : ∃ d', d = d' + 1 := ⟨d - 1, by omega⟩
      rw [Nat.pow_succ] at h4 h5 h7 e2 ⊢
      generalize 2 ^ d' = D at *
      refine ⟨D * Q, ?_, ?_, ?_⟩
      · rw [← Nat.add_mul]
        exact Nat.mul_le_mul_right _ (by omega)
      · rw [← Nat.add_mul]
        exact Nat.mul_le_mul_right _ (by omega)
      · rcases h7 with h7 | h7
        · right
          subst h7
          rw [Nat.pow_zero, Nat.one_mul] at e2
          rw [← e2, Nat.mul_comm D 2, Nat.mul_assoc]
          exact Nat.le_refl _
        · left
          have h8 := Nat.mul_le_mul_right Q h7
          rw [show D * Q * 9007199254740992 = 4503599627370496 * (D * 2) * Q by rw [Nat.mul_comm (D * Q), ← Nat.mul_assoc, Nat.mul_comm D 2, ← Nat.mul_assoc]]
          exact h8
  · have hd : d = 0 := by omega
    subst hd
    have hK := h6 hu
    have e1 : K * 2 ^ t * 2 ^ (N - 1074) = n * 2 ^ (p + N).toNat := by
      rw [hK, Nat.mul_assoc, Nat.mul_assoc, ← Nat.pow_add, ← Nat.pow_add, show u + (t + (N - 1074)) = (p + N).toNat by omega]
    rw [e1]
    exact ⟨0, Nat.le_refl _, Nat.le_refl _, .inl (by rw [Nat.zero_mul]; exact Nat.zero_le _)⟩
end Go.Bn
namespace Go.Bn
open Go
def UU : Nat := 9007199254740992
def UV : Nat := 9007199254740991
theorem uv_lt : UV ≤ UU := by decide
theorem uu_pos : 0 < UU := by decide
theorem uv_pos : 0 < UV := by decide
/-- a and b are the same but for k factors of 1 - 2^-53, either way. -/
structure Apx (k : Nat) (a b : Nat) : Prop where
  l : a * UV ^ k ≤ b * UU ^ k
  r : b * UV ^ k ≤ a * UU ^ k
theorem apx_refl (a : Nat) : Apx 0 a a := ⟨Nat.le_refl _, Nat.le_refl _⟩
theorem Apx.symm {k a b : Nat} (h : Apx k a b) : Apx k b a := ⟨h.r, h.l⟩
theorem uv_pow (k : Nat) : UV ^ k ≤ UU ^ k := Nat.pow_le_pow_left uv_lt k
theorem Apx.trans {k l a b c : Nat} (h : Apx k a b) (g : Apx l b c) : Apx (k + l) a c := by
  constructor
  · rw [Nat.pow_add, Nat.pow_add, ← Nat.mul_assoc]
    refine Nat.le_trans (Nat.mul_le_mul_right _ h.l) ?_
    rw [Nat.mul_right_comm]
    refine Nat.le_trans (Nat.mul_le_mul_right _ g.l) ?_
    rw [Nat.mul_assoc, Nat.mul_comm (UU ^ l)]
    exact Nat.le_refl _
  · rw [Nat.pow_add, Nat.pow_add, Nat.mul_comm (UV ^ k), ← Nat.mul_assoc]
    refine Nat.le_trans (Nat.mul_le_mul_right _ g.r) ?_
    rw [Nat.mul_right_comm]
    refine Nat.le_trans (Nat.mul_le_mul_right _ h.r) ?_
    rw [Nat.mul_assoc]
    exact Nat.le_refl _
theorem mul4 (a b c d : Nat) : a * b * (c * d) = (a * c) * (b * d) := by
  rw [Nat.mul_assoc, Nat.mul_left_comm b c d, ← Nat.mul_assoc]
theorem Apx.mul {k l a b c d : Nat} (h : Apx k a b) (g : Apx l c d) : Apx (k + l) (a * c) (b * d) := by
  constructor
  · rw [Nat.pow_add, Nat.pow_add, mul4, mul4 b]
    exact Nat.mul_le_mul h.l g.l
  · rw [Nat.pow_add, Nat.pow_add, mul4, mul4 a]
    exact Nat.mul_le_mul h.r g.r
theorem Apx.mono {k l a b : Nat} (h : Apx k a b) (hk : k ≤ l) : Apx l a b := by
  obtain ⟨d, rfl⟩ : ∃ d, l = k + d := ⟨l - k, by omega⟩
  constructor
  · rw [Nat.pow_add, Nat.pow_add, ← Nat.mul_assoc, ← Nat.mul_assoc]
    exact Nat.mul_le_mul h.l (uv_pow d)
  · rw [Nat.pow_add, Nat.pow_add, ← Nat.mul_assoc, ← Nat.mul_assoc]
    exact Nat.mul_le_mul h.r (uv_pow d)
theorem Apx.cancel {k a b c : Nat} (hc : 0 < c) (h : Apx k (a * c) (b * c)) : Apx k a b := by
  constructor
  · have := h.l
    rw [Nat.mul_right_comm, Nat.mul_right_comm b] at this
    exact Nat.le_of_mul_le_mul_right this hc
  · have := h.r
    rw [Nat.mul_right_comm, Nat.mul_right_comm a] at this
    exact Nat.le_of_mul_le_mul_right this hc
theorem Apx.add {k a b c d : Nat} (h : Apx k a b) (g : Apx k c d) : Apx k (a + c) (b + d) := by
  constructor
  · rw [Nat.add_mul, Nat.add_mul]; exact Nat.add_le_add h.l g.l
  · rw [Nat.add_mul, Nat.add_mul]; exact Nat.add_le_add h.r g.r
theorem Apx.scale {k a b : Nat} (c : Nat) (h : Apx k a b) : Apx k (a * c) (b * c) := by
  have := h.mul (apx_refl c)
  rw [Nat.add_zero] at this
  exact this
theorem apx_gen {X W E U V : Nat} (hU : U = V + 1) (h1 : W ≤ X + E) (h2 : X ≤ W + E) (hE : E * U ≤ X) : W * V ≤ X * U ∧ X * V ≤ W * U := by
  subst hU
  have g1 := Nat.mul_le_mul_right V h1
  have g2 := Nat.mul_le_mul_right V h2
  have g3 := Nat.mul_le_mul_right 1 h2
  rw [Nat.add_mul] at g1 g2
  rw [Nat.mul_add, Nat.mul_one] at hE
  rw [Nat.mul_add, Nat.mul_add, Nat.mul_one, Nat.mul_one]
  generalize W * V = a at *
  generalize X * V = b at *
  generalize E * V = c at *
  constructor
  · omega
  · by_cases hw : c ≤ W
    · omega
    · omega
theorem uu_uv : UU = UV + 1 := by decide
/-- A 2^-53 of the one away. -/
theorem apx_err {X W E : Nat} (h1 : W ≤ X + E) (h2 : X ≤ W + E) (hE : E * UU ≤ X) : Apx 1 W X := by
  obtain ⟨a, b⟩ := apx_gen uu_uv h1 h2 hE
  exact ⟨by rw [Nat.pow_one, Nat.pow_one]; exact a, by rw [Nat.pow_one, Nat.pow_one]; exact b⟩
/-- Rounded, where the number is not too small. -/
theorem nearest_apx {s : Bool} {n N : Nat} {p : Int} (hN : 1074 ≤ N) (hp : -(N : Int) ≤ p) (hf : rung (Ieee.double.nearest s n p) < 9218868437227405312) (hb : 4503599627370496 * 2 ^ (N - 1074) ≤ n * 2 ^ (p + N).toNat) :
    Apx 1 (vlu (Ieee.double.nearest s n p) * 2 ^ (N - 1074)) (n * 2 ^ (p + N).toNat) := by
  have hq := Nat.two_pow_pos (N - 1074)
  have hn : n ≠ 0 := by
    rintro rfl
    rw [Nat.zero_mul] at hb
    omega
  obtain ⟨E, h1, h2, h3⟩ := nearest_err hn hN hp hf
  refine apx_err h1 h2 ?_
  rcases h3 with h3 | h3
  · exact h3
  · have hu : UU = 2 * 4503599627370496 := by decide
    generalize 2 ^ (N - 1074) = Q at *
    generalize n * 2 ^ (p + N).toNat = X at *
    have g := Nat.mul_le_mul_right 4503599627370496 (show E * 2 ≤ Q by omega)
    rw [hu, ← Nat.mul_assoc]
    omega
theorem nf1 {s : Bool} {p : Int} : rung (Ieee.double.nearest s 0 p) < 9218868437227405312 := by
  rw [nearest_nought]
  cases s
  · show 0 % 9223372036854775808 < _
    decide
  · show 9223372036854775808 % 9223372036854775808 < _
    decide
theorem word_fin {s : Bool} {t K : Nat} (ht : t ≤ 2044) (hK : K ≤ 9007199254740992) : rung (Ieee.double.word s (min (t * 4503599627370496 + K) 9218868437227405312)) < 9218868437227405312 := by
  rw [(@word_parts s (min (t * 4503599627370496 + K) 9218868437227405312) (Nat.min_le_right ..)).2.1]
  omega
theorem nearest_fin {s : Bool} {n N : Nat} {p : Int} (hp : -(N : Int) ≤ p) (hb : n * 2 ^ (p + N).toNat < 2 ^ (N + 1023)) : rung (Ieee.double.nearest s n p) < 9218868437227405312 := by
  by_cases hn : n = 0
  · subst hn
    exact nf1
  · obtain ⟨last, hlast⟩ : ∃ last, last = max (p + (n.log2 : Int) - 52) (-1074) := ⟨_, rfl⟩
    have hw : Ieee.double.nearest s n p = Ieee.double.word s (min ((last + 1074).toNat * 4503599627370496 + Ieee.Toward.even.cut s (n <<< (p - last).toNat) (last - p).toNat) 9218868437227405312) := by
      unfold Ieee.Format.nearest
      simp only [lpE, fbE, binA, infR]
      rw [if_neg hn, show p + (n.log2 : Int) - ((52 : Nat) : Int) = p + (n.log2 : Int) - 52 by omega, ← hlast, show (last - -1074).toNat = (last + 1074).toNat by omega]
    obtain ⟨c1, c2⟩ := @cut_err s (n <<< (p - last).toNat) (last - p).toNat (shift_ne hn)
    have hlo := Nat.log2_self_le hn
    have hhi := Nat.lt_log2_self (n := n)
    generalize hK : Ieee.Toward.even.cut s (n <<< (p - last).toNat) (last - p).toNat = K at *
    rw [Nat.shiftLeft_eq] at c1 c2
    have hup : n * 2 ^ (p - last).toNat < 9007199254740992 * 2 ^ (last - p).toNat := by
      rw [← pow53, ← Nat.pow_add]
      refine Nat.lt_of_lt_of_le (Nat.mul_lt_mul_of_pos_right hhi (Nat.two_pow_pos _)) ?_
      rw [← Nat.pow_add]
      exact Nat.pow_le_pow_right (by omega) (by omega)
    have hKm : K ≤ 9007199254740992 := by
      have hdp := Nat.two_pow_pos (last - p).toNat
      generalize 2 ^ (last - p).toNat = D at *
      generalize n * 2 ^ (p - last).toNat = A at *
      by_cases hc : K ≤ 9007199254740992
      · exact hc
      · have := Nat.mul_le_mul_right D (show 9007199254740992 + 1 ≤ K by omega)
        rw [Nat.add_mul, Nat.one_mul] at this
        omega
    have hl : p + (n.log2 : Int) ≤ 1022 := by
      have h1 : 2 ^ (n.log2 + (p + N).toNat) < 2 ^ (N + 1023) := by
        rw [Nat.pow_add]
        exact Nat.lt_of_le_of_lt (Nat.mul_le_mul_right _ hlo) hb
      have h2 : n.log2 + (p + N).toNat < N + 1023 := (Nat.pow_lt_pow_iff_right (by omega)).1 h1
      omega
    have ht : (last + 1074).toNat ≤ 2044 := by omega
    rw [hw]
    exact word_fin ht hKm
/-- 2^1074: so many of the least steps are 1. -/
def NZ : Nat := 1074
theorem nz : NZ = 1074 := rfl
def PZ : Nat := 2 ^ NZ
theorem pz_def : PZ = 2 ^ NZ := rfl
theorem pz_pow (a : Nat) : PZ * 2 ^ a = 2 ^ (NZ + a) := (Nat.pow_add 2 NZ a).symm
theorem pz_pos : 0 < PZ := Nat.two_pow_pos NZ
theorem pz_ge {a : Nat} (h : a ≤ NZ) : 2 ^ a ≤ PZ := Nat.pow_le_pow_right (by omega) h
theorem pz_at {N : Nat} (h : N = 2 * NZ) : 2 ^ (N - 1074) = PZ := by
  rw [show N - 1074 = NZ by rw [h, nz]]
  rfl
/-- A number above nought, from 2^-k to 2^k. -/
structure Rng (x : Nat) (k : Nat) : Prop where
  f : rung x < 9218868437227405312
  s : sgn x = false
  lo : PZ ≤ vlu x * 2 ^ k
  hi : vlu x ≤ PZ * 2 ^ k
theorem Rng.pos {x k : Nat} (h : Rng x k) : 0 < vlu x := by
  have h1 := h.lo
  rcases Nat.eq_zero_or_pos (vlu x) with h0 | h0
  · rw [h0, Nat.zero_mul] at h1
    have := pz_pos
    omega
  · exact h0
theorem uu_two : UU ≤ 2 * UV := by decide
/-- Nearly the same: not more than twice. -/
theorem Apx.two {a b : Nat} (h : Apx 1 a b) : a ≤ 2 * b ∧ b ≤ 2 * a := by
  have h1 := h.l
  have h2 := h.r
  rw [Nat.pow_one, Nat.pow_one] at h1 h2
  have hv := uv_pos
  have h3 := uu_two
  constructor
  · have h4 := Nat.mul_le_mul_left b h3
    have h5 : a * UV ≤ 2 * b * UV := by
      refine Nat.le_trans h1 (Nat.le_trans h4 (Nat.le_of_eq ?_))
      rw [← Nat.mul_assoc, Nat.mul_comm b 2]
    exact Nat.le_of_mul_le_mul_right h5 hv
  · have h4 := Nat.mul_le_mul_left a h3
    have h5 : b * UV ≤ 2 * a * UV := by
      refine Nat.le_trans h2 (Nat.le_trans h4 (Nat.le_of_eq ?_))
      rw [← Nat.mul_assoc, Nat.mul_comm a 2]
    exact Nat.le_of_mul_le_mul_right h5 hv
theorem nearest_pos {n : Nat} {p : Int} : sgn (Ieee.double.nearest false n p) = false := by
  unfold Ieee.Format.nearest
  split
  · exact (@word_parts false 0 (by omega)).1
  · simp only [infR]
    exact (word_parts (Nat.min_le_right ..)).1
/-- A product, rounded. -/
theorem mul_apx {x y k l : Nat} (hx : Rng x k) (hy : Rng y l) (hk : k + l ≤ 900) : Apx 1 (vlu (fmul x y) * PZ) (vlu x * vlu y) ∧ Rng (fmul x y) (k + l + 1) := by
  have e := fmul_vlu hx.f hy.f
  rw [hx.s, hy.s, Bool.xor_false] at e
  have hP := pz_pos
  have hlo : PZ * PZ ≤ vlu x * vlu y * 2 ^ (k + l) := by
    rw [Nat.pow_add, ← mul4]
    rw [mul4 (vlu x) (2 ^ k)]
    rw [mul4]
    exact Nat.mul_le_mul hx.lo hy.lo
  have hhi : vlu x * vlu y ≤ PZ * PZ * 2 ^ (k + l) := by
    rw [Nat.pow_add, ← mul4 PZ (2 ^ k)]
    exact Nat.mul_le_mul hx.hi hy.hi
  have hkl := Nat.two_pow_pos (k + l)
  have hb : 4503599627370496 * PZ ≤ vlu x * vlu y := by
    have h1 : 2 ^ 52 * 2 ^ (k + l) ≤ PZ := by
      rw [← Nat.pow_add]
      exact pz_ge (by rw [nz]; omega)
    rw [pow52] at h1
    have h2 := Nat.mul_le_mul_left PZ h1
    refine Nat.le_of_mul_le_mul_right ?_ hkl
    refine Nat.le_trans (Nat.le_of_eq ?_) (Nat.le_trans h2 hlo)
    rw [Nat.mul_comm 4503599627370496 PZ, Nat.mul_assoc]
  obtain ⟨N, hN⟩ : ∃ N, N = 2 * NZ := ⟨_, rfl⟩
  have hN2 : N = 2148 := by rw [hN, nz]
  have eX : ∀ X : Nat, X * 2 ^ ((-2148 : Int) + (N : Int)).toNat = X := fun X => by
    rw [show ((-2148 : Int) + (N : Int)).toNat = 0 by omega, Nat.pow_zero, Nat.mul_one]
  have hf : rung (fmul x y) < 9218868437227405312 := by
    rw [e]
    refine nearest_fin (N := N) (by omega) ?_
    rw [eX]
    refine Nat.lt_of_le_of_lt hhi ?_
    rw [show PZ * PZ * 2 ^ (k + l) = 2 ^ (NZ + (NZ + (k + l))) by rw [Nat.mul_assoc, pz_pow (k + l)]; exact pz_pow _]
    exact Nat.pow_lt_pow_of_lt (by omega) (by rw [hN]; omega)
  have ha : Apx 1 (vlu (fmul x y) * PZ) (vlu x * vlu y) := by
    have h1 := nearest_apx (s := false) (n := vlu x * vlu y) (N := N) (p := -2148) (by omega) (by omega) (by rw [← e]; exact hf) (by rw [eX, pz_at hN]; exact hb)
    rw [eX, ← e, pz_at hN] at h1
    exact h1
  obtain ⟨t1, t2⟩ := ha.two
  refine ⟨ha, hf, by rw [e]; exact nearest_pos, ?_, ?_⟩
  · refine Nat.le_of_mul_le_mul_right ?_ hP
    refine Nat.le_trans hlo (Nat.le_trans (Nat.mul_le_mul_right _ t2) (Nat.le_of_eq ?_))
    rw [Nat.pow_succ]
    generalize vlu (fmul x y) = W
    generalize 2 ^ (k + l) = D
    rw [Nat.mul_comm 2 (W * PZ), Nat.mul_assoc, Nat.mul_comm 2 D, Nat.mul_assoc, Nat.mul_comm PZ, ← Nat.mul_assoc]
  · refine Nat.le_of_mul_le_mul_right ?_ hP
    refine Nat.le_trans t1 (Nat.le_trans (Nat.mul_le_mul_left 2 hhi) (Nat.le_of_eq ?_))
    rw [Nat.pow_succ]
    generalize 2 ^ (k + l) = D
    rw [Nat.mul_comm 2, Nat.mul_assoc (PZ * PZ), Nat.mul_assoc PZ PZ, Nat.mul_assoc PZ (D * 2), Nat.mul_comm PZ (D * 2)]
end Go.Bn
namespace Go.Bn
open Go
/-! ## Quotients, rounded -/
theorem quo_err {D n : Nat} (hn : n ≠ 0) (hq : UU * n ≤ D) : Apx 1 ((2 * (D / n) + (D % n != 0).toNat) * n) (2 * D) := by
  have e := Nat.div_add_mod D n
  have hr := Nat.mod_lt D (show 0 < n by omega)
  have hE : n * UU ≤ 2 * D := by rw [Nat.mul_comm]; omega
  generalize D / n = q at *
  generalize hrr : D % n = r at *
  rw [Nat.mul_comm n q] at e
  refine apx_err (E := n) ?_ ?_ hE
  · rw [Nat.add_mul, Nat.mul_assoc]
    cases (r != 0) <;> simp only [Bool.toNat_false, Bool.toNat_true, Nat.zero_mul, Nat.one_mul] <;> omega
  · rw [Nat.add_mul, Nat.mul_assoc]
    by_cases h0 : r = 0
    · subst h0
      simp
      omega
    · rw [show (r != 0) = true by simp [h0]]
      simp only [Bool.toNat_true, Nat.one_mul]
      omega
theorem uu53 : UU = 2 ^ 53 := by decide
theorem quo_big {m n : Nat} (hm : m ≠ 0) (hn : n ≠ 0) (hl : m.log2 ≤ 54 + n.log2) : UU * n ≤ m <<< (54 + n.log2 - m.log2) := by
  rw [Nat.shiftLeft_eq, uu53]
  have h1 := Nat.log2_self_le hm
  have h2 := Nat.lt_log2_self (n := n)
  refine Nat.le_trans (Nat.mul_le_mul_left _ (Nat.le_of_lt h2)) ?_
  rw [← Nat.pow_add]
  refine Nat.le_trans ?_ (Nat.mul_le_mul_right _ h1)
  rw [← Nat.pow_add]
  exact Nat.pow_le_pow_right (by omega) (by omega)
theorem mgn_pos {x : Nat} (h : 0 < vlu x) : mgn x ≠ 0 := by
  intro e
  unfold vlu at h
  rw [e, Nat.zero_mul] at h
  omega
theorem mgn_log {x : Nat} : (mgn x).log2 ≤ 52 := by
  by_cases h0 : mgn x = 0
  · rw [h0]; decide
  · have := (Nat.log2_lt h0 (k := 53)).2 (mgn_lt x); omega
theorem fdiv_read {x y : Nat} (hx : rung x < 9218868437227405312) (hy : rung y < 9218868437227405312) (hn : mgn y ≠ 0) :
    fdiv x y = Ieee.double.nearest (sgn x ^^ sgn y) (2 * ((mgn x <<< (54 + (mgn y).log2 - (mgn x).log2)) / mgn y) + ((mgn x <<< (54 + (mgn y).log2 - (mgn x).log2)) % mgn y != 0).toNat) (plc x - plc y - ((54 + (mgn y).log2 - (mgn x).log2 : Nat) : Int) - 1) := by
  unfold fdiv Ieee.Format.div
  rw [read_fin hx, read_fin hy]
  simp only [Ieee.Datum.quotient]
  rw [if_neg hn, fbE]
  rfl
theorem Apx.two2 {a b : Nat} (h : Apx 2 a b) : a ≤ 2 * b ∧ b ≤ 2 * a := by
  have h1 := h.l
  have h2 := h.r
  have hv : 0 < UV ^ 2 := Nat.pow_pos uv_pos
  have h3 : UU ^ 2 ≤ 2 * UV ^ 2 := by decide
  constructor
  · have h4 := Nat.mul_le_mul_left b h3
    have h5 : a * UV ^ 2 ≤ 2 * b * UV ^ 2 := by
      refine Nat.le_trans h1 (Nat.le_trans h4 (Nat.le_of_eq ?_))
      rw [← Nat.mul_assoc, Nat.mul_comm b 2]
    exact Nat.le_of_mul_le_mul_right h5 hv
  · have h4 := Nat.mul_le_mul_left a h3
    have h5 : b * UV ^ 2 ≤ 2 * a * UV ^ 2 := by
      refine Nat.le_trans h2 (Nat.le_trans h4 (Nat.le_of_eq ?_))
      rw [← Nat.mul_assoc, Nat.mul_comm a 2]
    exact Nat.le_of_mul_le_mul_right h5 hv
theorem pow_shift (m more s : Nat) : 2 * (m * 2 ^ more) * 2 ^ s = m * 2 ^ (more + 1 + s) := by
  rw [Nat.pow_add, Nat.pow_succ]
  generalize 2 ^ more = a
  generalize 2 ^ s = b
  simp only [Nat.mul_assoc, Nat.mul_comm, Nat.mul_left_comm]
/-- A quotient, rounded. -/
theorem div_apx {x y k l : Nat} (hx : Rng x k) (hy : Rng y l) (hk : k + l ≤ 900) : Apx 2 (vlu (fdiv x y) * vlu y) (vlu x * PZ) ∧ Rng (fdiv x y) (k + l + 2) := by
  have hm := mgn_pos hx.pos
  have hn := mgn_pos hy.pos
  have e := fdiv_read hx.f hy.f hn
  rw [hx.s, hy.s, show (false ^^ false) = false from rfl] at e
  have hlm := @mgn_log x
  have hln := @mgn_log y
  have hP := pz_pos
  have px := plc_ge x
  have py := plc_ge y
  have px2 := plc_le hx.f
  have py2 := plc_le hy.f
  obtain ⟨more, hmore⟩ : ∃ more, more = 54 + (mgn y).log2 - (mgn x).log2 := ⟨_, rfl⟩
  have hq := quo_err hn (quo_big hm hn (by omega))
  rw [← hmore] at e hq
  obtain ⟨Q, hQ⟩ : ∃ Q, Q = 2 * ((mgn x <<< more) / mgn y) + ((mgn x <<< more) % mgn y != 0).toNat := ⟨_, rfl⟩
  obtain ⟨p, hp⟩ : ∃ p, p = plc x - plc y - (more : Int) - 1 := ⟨_, rfl⟩
  rw [← hQ] at hq
  rw [← hQ, ← hp] at e
  obtain ⟨N, hN⟩ : ∃ N, N = 3 * NZ := ⟨_, rfl⟩
  have hN2 : N = 3222 := by rw [hN, nz]
  have hpN : -(N : Int) ≤ p := by omega
  -- X vlu y is nearly vlu x 2^N
  have hX : Apx 1 (Q * 2 ^ (p + N).toNat * vlu y) (vlu x * 2 ^ N) := by
    have h1 := hq.scale (2 ^ ((p + N).toNat + (plc y + 1074).toNat))
    rw [Nat.shiftLeft_eq] at h1
    have e1 : Q * mgn y * 2 ^ ((p + N).toNat + (plc y + 1074).toNat) = Q * 2 ^ (p + N).toNat * vlu y := by
      unfold vlu
      rw [Nat.pow_add]
      exact mul4 _ _ _ _
    have e2 : 2 * (mgn x * 2 ^ more) * 2 ^ ((p + N).toNat + (plc y + 1074).toNat) = vlu x * 2 ^ N := by
      unfold vlu
      rw [pow_shift, Nat.mul_assoc (mgn x), ← Nat.pow_add, show more + 1 + ((p + N).toNat + (plc y + 1074).toNat) = (plc x + 1074).toNat + N by omega]
    rw [e1, e2] at h1
    exact h1
  obtain ⟨x1, x2⟩ := hX.two
  have eP : 2 ^ N = PZ * PZ * PZ := by
    rw [hN, show 3 * NZ = NZ + NZ + NZ by omega, Nat.pow_add, Nat.pow_add, ← pz_def]
  have eP2 : 2 ^ (N - 1074) = PZ * PZ := by
    rw [show N - 1074 = NZ + NZ by rw [hN, nz], Nat.pow_add, ← pz_def]
  generalize hXX : Q * 2 ^ (p + N).toNat = X at *
  have hkl := Nat.two_pow_pos (k + l)
  -- X is from 2^(N - k - l - 1) to 2^(N + k + l + 1)
  have hXlo : PZ * PZ * PZ ≤ X * 2 ^ (k + l + 1) := by
    refine Nat.le_of_mul_le_mul_right ?_ hP
    have g1 := Nat.mul_le_mul_right (PZ * PZ * PZ) hx.lo
    have g2 := Nat.mul_le_mul_right (2 ^ k) x2
    have g3 := Nat.mul_le_mul_left (2 * X * 2 ^ k) hy.hi
    rw [eP] at g2
    refine Nat.le_trans (Nat.le_of_eq (Nat.mul_comm _ PZ)) (Nat.le_trans g1 ?_)
    refine Nat.le_trans (Nat.le_of_eq (Nat.mul_right_comm _ _ _)) (Nat.le_trans g2 ?_)
    refine Nat.le_trans (Nat.le_of_eq ?_) (Nat.le_trans g3 (Nat.le_of_eq ?_))
    · rw [← Nat.mul_assoc, Nat.mul_right_comm]
    · rw [Nat.pow_succ, Nat.pow_add]
      generalize 2 ^ k = a
      generalize 2 ^ l = b
      simp only [Nat.mul_assoc, Nat.mul_comm, Nat.mul_left_comm]
  have hXhi : X ≤ PZ * PZ * PZ * 2 ^ (k + l + 1) := by
    refine Nat.le_of_mul_le_mul_right ?_ hP
    have g1 := Nat.mul_le_mul_left X hy.lo
    have g2 := Nat.mul_le_mul_right (2 ^ l) x1
    have g3 := Nat.mul_le_mul_right (PZ * PZ * PZ * (2 * 2 ^ l)) hx.hi
    rw [eP] at g2
    refine Nat.le_trans g1 (Nat.le_trans (Nat.le_of_eq ?_) (Nat.le_trans g2 (Nat.le_trans (Nat.le_of_eq ?_) (Nat.le_trans g3 (Nat.le_of_eq ?_)))))
    · rw [Nat.mul_assoc]
    · simp only [Nat.mul_assoc, Nat.mul_comm, Nat.mul_left_comm]
    · rw [Nat.pow_succ, Nat.pow_add]
      generalize 2 ^ k = a
      generalize 2 ^ l = b
      simp only [Nat.mul_assoc, Nat.mul_comm, Nat.mul_left_comm]
  have hb : 4503599627370496 * 2 ^ (N - 1074) ≤ X := by
    rw [eP2]
    have h1 : 2 ^ 52 * 2 ^ (k + l + 1) ≤ PZ := by
      rw [← Nat.pow_add]
      exact pz_ge (by rw [nz]; omega)
    rw [pow52] at h1
    refine Nat.le_of_mul_le_mul_right ?_ (Nat.two_pow_pos (k + l + 1))
    refine Nat.le_trans (Nat.le_of_eq ?_) (Nat.le_trans (Nat.mul_le_mul_left (PZ * PZ) h1) hXlo)
    rw [Nat.mul_comm 4503599627370496, Nat.mul_assoc]
  have hf : rung (fdiv x y) < 9218868437227405312 := by
    rw [e]
    refine nearest_fin (N := N) hpN ?_
    rw [hXX]
    refine Nat.lt_of_le_of_lt hXhi ?_
    rw [← eP, ← Nat.pow_add]
    exact Nat.pow_lt_pow_of_lt (by omega) (by omega)
  have hW : Apx 1 (vlu (fdiv x y) * (PZ * PZ)) X := by
    have h1 := nearest_apx (s := false) (n := Q) (N := N) (p := p) (by omega) hpN (by rw [← e]; exact hf) (by rw [hXX]; exact hb)
    rw [hXX, ← e, eP2] at h1
    exact h1
  have ha : Apx 2 (vlu (fdiv x y) * vlu y) (vlu x * PZ) := by
    have h1 := (hW.scale (vlu y)).trans hX
    rw [eP] at h1
    refine Apx.cancel (c := PZ * PZ) (Nat.mul_pos hP hP) ?_
    rw [Nat.mul_right_comm, Nat.mul_assoc (vlu x) PZ, ← Nat.mul_assoc PZ PZ PZ]
    exact h1
  obtain ⟨t1, t2⟩ := hW.two
  refine ⟨ha, hf, by rw [e]; exact nearest_pos, ?_, ?_⟩
  · refine Nat.le_of_mul_le_mul_right ?_ (Nat.mul_pos hP hP)
    refine Nat.le_trans (Nat.le_of_eq (Nat.mul_assoc _ _ _).symm) (Nat.le_trans hXlo (Nat.le_trans (Nat.mul_le_mul_right _ t2) (Nat.le_of_eq ?_)))
    rw [Nat.pow_succ 2 (k + l + 1)]
    generalize vlu (fdiv x y) = W
    generalize 2 ^ (k + l + 1) = D
    simp only [Nat.mul_assoc, Nat.mul_comm, Nat.mul_left_comm]
  · refine Nat.le_of_mul_le_mul_right ?_ (Nat.mul_pos hP hP)
    refine Nat.le_trans t1 (Nat.le_trans (Nat.mul_le_mul_left 2 hXhi) (Nat.le_of_eq ?_))
    rw [Nat.pow_succ 2 (k + l + 1)]
    generalize 2 ^ (k + l + 1) = D
    simp only [Nat.mul_assoc, Nat.mul_comm, Nat.mul_left_comm]
end Go.Bn
namespace Go.Bn
open Go
/-! ## Roots, rounded -/
theorem rootFrom_ok {n : Nat} : ∀ {todo root : Nat}, root * root ≤ n → n < (root + 2 ^ todo) * (root + 2 ^ todo) → Ieee.Datum.rootFrom n todo root * Ieee.Datum.rootFrom n todo root ≤ n ∧ n < (Ieee.Datum.rootFrom n todo root + 1) * (Ieee.Datum.rootFrom n todo root + 1)
  | 0, root, h1, h2 => by
    rw [Ieee.Datum.rootFrom]
    exact ⟨h1, h2⟩
  | todo + 1, root, h1, h2 => by
    rw [Ieee.Datum.rootFrom]
    simp only [Nat.shiftLeft_eq, Nat.one_mul]
    split
    · rename_i h
      refine rootFrom_ok h ?_
      rw [Nat.add_assoc, show 2 ^ todo + 2 ^ todo = 2 ^ (todo + 1) by rw [Nat.pow_succ]; omega]
      exact h2
    · rename_i h
      exact rootFrom_ok h1 (by omega)
theorem root_start (n : Nat) (hn : n ≠ 0) : n < (0 + 2 ^ (n.log2 / 2 + 1)) * (0 + 2 ^ (n.log2 / 2 + 1)) := by
  rw [Nat.zero_add, ← Nat.pow_add]
  exact Nat.lt_of_lt_of_le (Nat.lt_log2_self (n := n)) (Nat.pow_le_pow_right (by omega) (by omega))
theorem sq_lt {a b : Nat} (h : a * a < (b + 1) * (b + 1)) : a ≤ b := by
  by_cases hc : a ≤ b
  · exact hc
  · have := Nat.mul_le_mul (show b + 1 ≤ a by omega) (show b + 1 ≤ a by omega)
    omega
theorem sq_le' {a b : Nat} (h : a * a ≤ b * b) : a ≤ b := by
  by_cases hc : a ≤ b
  · exact hc
  · have := Nat.mul_le_mul (show b + 1 ≤ a by omega) (show b + 1 ≤ a by omega)
    have e : (b + 1) * (b + 1) = b * b + b + b + 1 := by rw [Nat.add_mul, Nat.mul_add]; omega
    omega
/-- A root with one digit more, squared. -/
theorem root_err {n w : Nat} (h1 : w * w ≤ n) (h2 : n < (w + 1) * (w + 1)) (hw : UU ≤ w) : Apx 1 ((2 * w + (w * w != n).toNat) * (2 * w + (w * w != n).toNat)) (4 * n) := by
  have e : (w + 1) * (w + 1) = w * w + w + w + 1 := by rw [Nat.add_mul, Nat.mul_add]; omega
  have e2 : (2 * w + 1) * (2 * w + 1) = 4 * (w * w) + 2 * w + 2 * w + 1 := by
    rw [Nat.add_mul, Nat.mul_add, mul4]; omega
  have hE : 4 * w * UU ≤ 4 * n := by
    rw [Nat.mul_assoc]
    exact Nat.mul_le_mul_left 4 (Nat.le_trans (Nat.mul_le_mul_left w hw) h1)
  by_cases h0 : w * w = n
  · rw [show (w * w != n) = false by simp [h0]]
    simp only [Bool.toNat_false, Nat.add_zero]
    rw [mul4, h0]
    exact (apx_refl _).mono (by omega)
  · rw [show (w * w != n) = true by simp [h0]]
    simp only [Bool.toNat_true]
    rw [e2]
    rw [e] at h2
    generalize w * w = s at *
    exact apx_err (E := 4 * w) (by omega) (by omega) hE
theorem fsqrt_read {x : Nat} (hx : rung x < 9218868437227405312) (hs : sgn x = false) (hm : mgn x ≠ 0) : ∃ more w : Nat, 108 ≤ (mgn x).log2 + more ∧ more ≤ 109 ∧ (plc x - (more : Int)) % 2 = 0 ∧ w * w ≤ mgn x * 2 ^ more ∧ mgn x * 2 ^ more < (w + 1) * (w + 1) ∧
    fsqrt x = Ieee.double.nearest false (2 * w + (w * w != mgn x * 2 ^ more).toNat) ((plc x - (more : Int)) / 2 - 1) := by
  have hl := @mgn_log x
  obtain ⟨m0, h0⟩ : ∃ m0, m0 = 2 * 54 - (mgn x).log2 := ⟨_, rfl⟩
  obtain ⟨more, hmore⟩ : ∃ more, more = m0 + ((plc x - (m0 : Int)) % 2).toNat := ⟨_, rfl⟩
  have hn : mgn x <<< more ≠ 0 := shift_ne hm
  obtain ⟨r1, r2⟩ := rootFrom_ok (n := mgn x <<< more) (todo := (mgn x <<< more).log2 / 2 + 1) (root := 0) (by rw [Nat.zero_mul]; exact Nat.zero_le _) (root_start _ hn)
  refine ⟨more, Ieee.Datum.rootFrom (mgn x <<< more) ((mgn x <<< more).log2 / 2 + 1) 0, by omega, by omega, by omega, ?_, ?_, ?_⟩
  · rw [Nat.shiftLeft_eq] at r1 ⊢; exact r1
  · rw [Nat.shiftLeft_eq] at r2 ⊢; exact r2
  · unfold fsqrt Ieee.Format.sqrt
    rw [read_fin hx, hs]
    simp only [Ieee.Datum.root]
    rw [if_neg hm, if_neg (by decide), fbE]
    simp only [show (52 : Nat) + 2 = 54 from rfl, ← h0, ← hmore]
    rw [← Nat.shiftLeft_eq]
    rfl
end Go.Bn
namespace Go.Bn
open Go
theorem Apx.two3 {a b : Nat} (h : Apx 3 a b) : a ≤ 2 * b ∧ b ≤ 2 * a := by
  have h1 := h.l
  have h2 := h.r
  have hv : 0 < UV ^ 3 := Nat.pow_pos uv_pos
  have h3 : UU ^ 3 ≤ 2 * UV ^ 3 := by decide
  constructor
  · have h4 := Nat.mul_le_mul_left b h3
    have h5 : a * UV ^ 3 ≤ 2 * b * UV ^ 3 := by
      refine Nat.le_trans h1 (Nat.le_trans h4 (Nat.le_of_eq ?_))
      rw [← Nat.mul_assoc, Nat.mul_comm b 2]
    exact Nat.le_of_mul_le_mul_right h5 hv
  · have h4 := Nat.mul_le_mul_left a h3
    have h5 : b * UV ^ 3 ≤ 2 * a * UV ^ 3 := by
      refine Nat.le_trans h2 (Nat.le_trans h4 (Nat.le_of_eq ?_))
      rw [← Nat.mul_assoc, Nat.mul_comm a 2]
    exact Nat.le_of_mul_le_mul_right h5 hv
theorem pow_shift' (m more s : Nat) : 2 * (2 * (m * 2 ^ more) * 2 ^ s) = m * 2 ^ (more + 2 + s) := by
  rw [pow_shift, show more + 2 + s = more + 1 + s + 1 by omega, Nat.pow_succ 2 (more + 1 + s)]
  generalize 2 ^ (more + 1 + s) = a
  simp only [Nat.mul_assoc, Nat.mul_comm, Nat.mul_left_comm]
/-- A root, rounded. -/
theorem sqrt_apx {x k : Nat} (hx : Rng x k) (hk : k ≤ 900) : Apx 3 (vlu (fsqrt x) * vlu (fsqrt x)) (vlu x * PZ) ∧ Rng (fsqrt x) (k + 2) := by
  have hm := mgn_pos hx.pos
  have hP := pz_pos
  have px := plc_ge x
  have px2 := plc_le hx.f
  obtain ⟨more, w, m1, m2, m3, r1, r2, e⟩ := fsqrt_read hx.f hx.s hm
  have hlo := Nat.log2_self_le hm
  have hw : UU ≤ w := by
    have h1 : UU * UU ≤ mgn x * 2 ^ more := by
      rw [uu53, ← Nat.pow_add]
      refine Nat.le_trans ?_ (Nat.mul_le_mul_right _ hlo)
      rw [← Nat.pow_add]
      exact Nat.pow_le_pow_right (by omega) (by omega)
    exact sq_lt (Nat.lt_of_le_of_lt h1 r2)
  have hq := root_err r1 r2 hw
  obtain ⟨Q, hQ⟩ : ∃ Q, Q = 2 * w + (w * w != mgn x * 2 ^ more).toNat := ⟨_, rfl⟩
  obtain ⟨p, hp⟩ : ∃ p, p = (plc x - (more : Int)) / 2 - 1 := ⟨_, rfl⟩
  rw [← hQ] at hq
  rw [← hQ, ← hp] at e
  have hp2 : 2 * p = plc x - (more : Int) - 2 := by omega
  obtain ⟨N, hN⟩ : ∃ N, N = 3 * NZ := ⟨_, rfl⟩
  have hN2 : N = 3222 := by rw [hN, nz]
  have hpN : -(N : Int) ≤ p := by omega
  have eP2 : 2 ^ (N - 1074) = PZ * PZ := by
    rw [show N - 1074 = NZ + NZ by rw [hN, nz], Nat.pow_add, ← pz_def]
  -- the square of what is rounded
  have hX : Apx 1 (Q * 2 ^ (p + N).toNat * (Q * 2 ^ (p + N).toNat)) (vlu x * (PZ * PZ * PZ * PZ * PZ)) := by
    have h1 := hq.scale (2 ^ ((p + N).toNat + (p + N).toNat))
    have e1 : Q * Q * 2 ^ ((p + N).toNat + (p + N).toNat) = Q * 2 ^ (p + N).toNat * (Q * 2 ^ (p + N).toNat) := by
      rw [Nat.pow_add]
      exact mul4 _ _ _ _
    have e3 : PZ * PZ * PZ * PZ * PZ = 2 ^ (5 * NZ) := by
      rw [show 5 * NZ = NZ + NZ + NZ + NZ + NZ by omega, Nat.pow_add, Nat.pow_add, Nat.pow_add, Nat.pow_add, ← pz_def]
    have e2 : 4 * (mgn x * 2 ^ more) * 2 ^ ((p + N).toNat + (p + N).toNat) = vlu x * (PZ * PZ * PZ * PZ * PZ) := by
      rw [e3]
      unfold vlu
      rw [show (4 : Nat) = 2 * 2 by omega, Nat.mul_assoc 2 2, Nat.mul_assoc 2, pow_shift', Nat.mul_assoc (mgn x), ← Nat.pow_add]
      rw [show more + 2 + ((p + N).toNat + (p + N).toNat) = (plc x + 1074).toNat + 5 * NZ by rw [nz]; omega]
    rw [e1, e2] at h1
    exact h1
  generalize hXX : Q * 2 ^ (p + N).toNat = X at *
  obtain ⟨x1, x2⟩ := hX.two
  have hXlo : PZ * PZ * PZ ≤ X * 2 ^ (k + 1) := by
    apply sq_le'
    have g1 := Nat.mul_le_mul_right (PZ * PZ * PZ * PZ * PZ) hx.lo
    have g2 := Nat.mul_le_mul_right (2 ^ k) x2
    refine Nat.le_trans (Nat.le_of_eq ?_) (Nat.le_trans g1 (Nat.le_trans (Nat.le_of_eq ?_) (Nat.le_trans g2 ?_)))
    · simp only [Nat.mul_assoc, Nat.mul_comm, Nat.mul_left_comm]
    · simp only [Nat.mul_assoc, Nat.mul_comm, Nat.mul_left_comm]
    · rw [Nat.pow_succ]
      have h1 := Nat.two_pow_pos k
      generalize 2 ^ k = a at *
      have e5 : X * (a * 2) * (X * (a * 2)) = X * X * (a * (4 * a)) := by simp only [show (4 : Nat) = 2 * 2 by omega, Nat.mul_assoc, Nat.mul_comm, Nat.mul_left_comm]
      rw [e5, Nat.mul_comm 2 (X * X), Nat.mul_assoc]
      refine Nat.mul_le_mul_left _ ?_
      have := Nat.mul_le_mul_left a (show 1 ≤ a by omega)
      have e6 : a * (4 * a) = 4 * (a * a) := Nat.mul_left_comm ..
      omega
  have hXhi : X ≤ PZ * PZ * PZ * 2 ^ (k + 1) := by
    apply sq_le'
    have g3 := Nat.mul_le_mul_right (PZ * PZ * PZ * PZ * PZ * 2) hx.hi
    refine Nat.le_trans x1 (Nat.le_trans (Nat.le_of_eq ?_) (Nat.le_trans g3 ?_))
    · simp only [Nat.mul_assoc, Nat.mul_comm, Nat.mul_left_comm]
    · rw [Nat.pow_succ]
      have h1 := Nat.two_pow_pos k
      generalize 2 ^ k = a at *
      have e5 : PZ * PZ * PZ * (a * 2) * (PZ * PZ * PZ * (a * 2)) = PZ * PZ * PZ * PZ * PZ * PZ * (4 * (a * a)) := by simp only [show (4 : Nat) = 2 * 2 by omega, Nat.mul_assoc, Nat.mul_comm, Nat.mul_left_comm]
      have e6 : PZ * a * (PZ * PZ * PZ * PZ * PZ * 2) = PZ * PZ * PZ * PZ * PZ * PZ * (2 * a) := by simp only [Nat.mul_assoc, Nat.mul_comm, Nat.mul_left_comm]
      rw [e5, e6]
      refine Nat.mul_le_mul_left _ ?_
      have := Nat.mul_le_mul_left a (show 1 ≤ a by omega)
      omega
  have hb : 4503599627370496 * 2 ^ (N - 1074) ≤ X := by
    rw [eP2]
    have h1 : 2 ^ 52 * 2 ^ (k + 1) ≤ PZ := by
      rw [← Nat.pow_add]
      exact pz_ge (by rw [nz]; omega)
    rw [pow52] at h1
    refine Nat.le_of_mul_le_mul_right ?_ (Nat.two_pow_pos (k + 1))
    refine Nat.le_trans (Nat.le_of_eq ?_) (Nat.le_trans (Nat.mul_le_mul_left (PZ * PZ) h1) hXlo)
    rw [Nat.mul_comm 4503599627370496, Nat.mul_assoc]
  have eP : PZ * PZ * PZ = 2 ^ N := by
    rw [hN, show 3 * NZ = NZ + NZ + NZ by omega, Nat.pow_add, Nat.pow_add, ← pz_def]
  have hf : rung (fsqrt x) < 9218868437227405312 := by
    rw [e]
    refine nearest_fin (N := N) hpN ?_
    rw [hXX]
    refine Nat.lt_of_le_of_lt hXhi ?_
    rw [eP, ← Nat.pow_add]
    exact Nat.pow_lt_pow_of_lt (by omega) (by omega)
  have hW : Apx 1 (vlu (fsqrt x) * (PZ * PZ)) X := by
    have h1 := nearest_apx (s := false) (n := Q) (N := N) (p := p) (by omega) hpN (by rw [← e]; exact hf) (by rw [hXX]; exact hb)
    rw [hXX, ← e, eP2] at h1
    exact h1
  have ha : Apx 3 (vlu (fsqrt x) * vlu (fsqrt x)) (vlu x * PZ) := by
    have h1 := (hW.mul hW).trans hX
    refine Apx.cancel (c := PZ * PZ * (PZ * PZ)) (Nat.mul_pos (Nat.mul_pos hP hP) (Nat.mul_pos hP hP)) ?_
    have e7 : vlu x * PZ * (PZ * PZ * (PZ * PZ)) = vlu x * (PZ * PZ * PZ * PZ * PZ) := by simp only [Nat.mul_assoc]
    rw [e7, ← mul4]
    exact h1
  obtain ⟨t1, t2⟩ := hW.two
  refine ⟨ha, hf, by rw [e]; exact nearest_pos, ?_, ?_⟩
  · refine Nat.le_of_mul_le_mul_right ?_ (Nat.mul_pos hP hP)
    refine Nat.le_trans (Nat.le_of_eq (Nat.mul_assoc _ _ _).symm) (Nat.le_trans hXlo (Nat.le_trans (Nat.mul_le_mul_right _ t2) (Nat.le_of_eq ?_)))
    rw [Nat.pow_succ 2 (k + 1)]
    generalize vlu (fsqrt x) = W
    generalize 2 ^ (k + 1) = D
    simp only [Nat.mul_assoc, Nat.mul_comm, Nat.mul_left_comm]
  · refine Nat.le_of_mul_le_mul_right ?_ (Nat.mul_pos hP hP)
    refine Nat.le_trans t1 (Nat.le_trans (Nat.mul_le_mul_left 2 hXhi) (Nat.le_of_eq ?_))
    rw [Nat.pow_succ 2 (k + 1)]
    generalize 2 ^ (k + 1) = D
    simp only [Nat.mul_assoc, Nat.mul_comm, Nat.mul_left_comm]
end Go.Bn
namespace Go.Bn
open Go
/-- A whole number as a word. -/
structure Cst (c n k : Nat) : Prop where
  r : Rng c k
  v : vlu c = n * PZ
theorem cst_of {c n k : Nat} (hr : rung c < 9218868437227405312) (hs : sgn c = false) (hm : mgn c = n * 2 ^ (52 - n.log2)) (hp : (plc c + 1074).toNat + (52 - n.log2) = NZ) (h1 : 1 ≤ n) (h2 : n ≤ 2 ^ k) : Cst c n k := by
  have hv : vlu c = n * PZ := by
    unfold vlu
    rw [hm, Nat.mul_assoc, ← Nat.pow_add, Nat.add_comm, hp, ← pz_def]
  have hP := pz_pos
  refine ⟨⟨hr, hs, ?_, ?_⟩, hv⟩
  · rw [hv]
    have h3 := Nat.two_pow_pos k
    have h4 : 1 * PZ * 1 ≤ n * PZ * 2 ^ k := Nat.mul_le_mul (Nat.mul_le_mul_right _ h1) h3
    rw [Nat.one_mul, Nat.mul_one] at h4
    exact h4
  · rw [hv, Nat.mul_comm]
    exact Nat.mul_le_mul_left _ h2
theorem c2 : Cst 0x4000000000000000 2 1 := cst_of (by decide) (by decide) (by decide) (by decide) (by decide) (by decide)
theorem c3 : Cst 0x4008000000000000 3 2 := cst_of (by decide) (by decide) (by decide) (by decide) (by decide) (by decide)
theorem c6 : Cst 0x4018000000000000 6 3 := cst_of (by decide) (by decide) (by decide) (by decide) (by decide) (by decide)
theorem c8 : Cst 0x4020000000000000 8 3 := cst_of (by decide) (by decide) (by decide) (by decide) (by decide) (by decide)
theorem c12 : Cst 0x4028000000000000 12 4 := cst_of (by decide) (by decide) (by decide) (by decide) (by decide) (by decide)
theorem c20 : Cst 0x4034000000000000 20 5 := cst_of (by decide) (by decide) (by decide) (by decide) (by decide) (by decide)
theorem c48 : Cst 0x4048000000000000 48 6 := cst_of (by decide) (by decide) (by decide) (by decide) (by decide) (by decide)
/-- Over a whole number: two roundings. -/
theorem over_apx {x c n k l : Nat} (hx : Rng x k) (hc : Cst c n l) (hk : k + l ≤ 900) : Apx 2 (vlu (fdiv x c) * n) (vlu x) ∧ Rng (fdiv x c) (k + l + 2) := by
  obtain ⟨h1, h2⟩ := div_apx hx hc.r hk
  rw [hc.v, ← Nat.mul_assoc] at h1
  exact ⟨h1.cancel pz_pos, h2⟩
/-- A root of a whole number. -/
theorem root_apx {c n l : Nat} (hc : Cst c n l) (hl : l ≤ 900) : Apx 3 (vlu (fsqrt c) * vlu (fsqrt c)) (n * (PZ * PZ)) ∧ Rng (fsqrt c) (l + 2) := by
  obtain ⟨h1, h2⟩ := sqrt_apx hc.r hl
  rw [hc.v, Nat.mul_assoc] at h1
  exact ⟨h1, h2⟩
/-! ## Speeds -/
section
variable {a d : Nat} (ha : Rng a 200) (hd : Rng d 75)
include ha hd
/-- What time adds to a place and a speed, of the numbers themselves. -/
theorem spd_q : Apx 4 (vlu (fdiv (fmul (fmul a d) d) 0x4008000000000000) * (3 * (PZ * PZ))) (vlu a * vlu d * vlu d) ∧ Apx 3 (vlu (fdiv (fmul a d) 0x4000000000000000) * (2 * PZ)) (vlu a * vlu d) := by
  obtain ⟨m1, n1⟩ := mul_apx ha hd (by omega)
  obtain ⟨m2, n2⟩ := mul_apx n1 hd (by omega)
  obtain ⟨m3, _⟩ := over_apx n2 c3 (by omega)
  obtain ⟨m4, _⟩ := over_apx n1 c2 (by omega)
  constructor
  · have h1 := m3.scale (PZ * PZ)
    have h2 := (m2.scale PZ).trans ((m1.scale (vlu d)).mono (Nat.le_refl 1) |> fun h => by
      have e : vlu (fmul a d) * vlu d * PZ = vlu (fmul a d) * PZ * vlu d := Nat.mul_right_comm ..
      rw [e]; exact h)
    rw [Nat.mul_assoc] at h2
    have h3 := h1.trans h2
    rw [Nat.mul_assoc] at h3
    exact h3
  · have h1 := (m4.scale PZ).trans m1
    rw [Nat.mul_assoc] at h1
    exact h1
/-- The root of it, times itself. -/
theorem spd_g : let s := fsqrt a; let r := fsqrt 0x4008000000000000
    let g0 := fdiv (fmul s d) r; let g1 := fdiv (fmul s r) 0x4000000000000000; let g2 := fdiv s 0x4000000000000000
    Apx 12 (vlu g0 * vlu g0 * (3 * (PZ * PZ))) (vlu a * PZ * (vlu d * vlu d)) ∧ Apx 9 (vlu g0 * vlu g1 * 2) (vlu a * vlu d) ∧ Apx 12 (vlu g1 * vlu g1 + vlu g2 * vlu g2) (vlu a * PZ) := by
  intro s r g0 g1 g2
  have hP := pz_pos
  obtain ⟨s1, s2⟩ := sqrt_apx ha (by omega)
  obtain ⟨r1, r2⟩ := root_apx c3 (by omega)
  obtain ⟨m1, n1⟩ := mul_apx s2 hd (by omega)
  obtain ⟨q1, _⟩ := div_apx n1 r2 (by omega)
  obtain ⟨m2, n2⟩ := mul_apx s2 r2 (by omega)
  obtain ⟨q2, _⟩ := over_apx n2 c2 (by omega)
  obtain ⟨q3, _⟩ := over_apx s2 c2 (by omega)
  have hr := r2.pos
  change Apx 3 (vlu s * vlu s) (vlu a * PZ) at s1
  change Apx 3 (vlu r * vlu r) (3 * (PZ * PZ)) at r1
  change Apx 1 (vlu (fmul s d) * PZ) (vlu s * vlu d) at m1
  change Apx 2 (vlu g0 * vlu r) (vlu (fmul s d) * PZ) at q1
  change Apx 1 (vlu (fmul s r) * PZ) (vlu s * vlu r) at m2
  change Apx 2 (vlu g1 * 2) (vlu (fmul s r)) at q2
  change Apx 2 (vlu g2 * 2) (vlu s) at q3
  change 0 < vlu r at hr
  generalize vlu (fmul s d) = sd at *
  generalize vlu (fmul s r) = sr at *
  generalize vlu g0 = x at *
  generalize vlu g1 = y at *
  generalize vlu g2 = z at *
  generalize vlu s = S at *
  generalize vlu r = R at *
  generalize vlu a = A at *
  generalize vlu d = D at *
  generalize PZ = P at *
  -- x R is nearly S D; y 2 P is nearly S R
  have hx : Apx 3 (x * R) (S * D) := q1.trans m1
  have hy : Apx 3 (y * 2 * P) (S * R) := (q2.scale P).trans m2
  refine ⟨?_, ?_, ?_⟩
  · have h1 := hx.mul hx
    rw [mul4, mul4 S D] at h1
    have h2 := ((r1.symm.scale (x * x))).trans (by rw [Nat.mul_comm (R * R)]; exact h1)
    have h3 := h2.trans (s1.scale (D * D))
    rw [Nat.mul_comm (3 * (P * P))] at h3
    exact h3
  · have h1 := hx.mul hy
    have e1 : x * R * (y * 2 * P) = x * y * 2 * P * R := by simp only [Nat.mul_assoc, Nat.mul_comm, Nat.mul_left_comm]
    have e2 : S * D * (S * R) = S * S * D * R := by simp only [Nat.mul_assoc, Nat.mul_comm, Nat.mul_left_comm]
    rw [e1, e2] at h1
    have h2 := (h1.cancel hr).trans (s1.scale D)
    have e3 : A * P * D = A * D * P := Nat.mul_right_comm ..
    rw [e3] at h2
    exact h2.cancel hP
  · have h1 := hy.mul hy
    have e1 : y * 2 * P * (y * 2 * P) = y * y * 4 * (P * P) := by simp only [show (4 : Nat) = 2 * 2 by omega, Nat.mul_assoc, Nat.mul_comm, Nat.mul_left_comm]
    rw [e1, mul4 S R] at h1
    have h2 := h1.trans ((s1.mul r1))
    have e2 : A * P * (3 * (P * P)) = A * P * 3 * (P * P) := by simp only [Nat.mul_assoc]
    rw [e2] at h2
    have h3 := h2.cancel (Nat.mul_pos hP hP)
    have h4 := q3.mul q3
    have e3 : z * 2 * (z * 2) = z * z * 4 := by simp only [show (4 : Nat) = 2 * 2 by omega, Nat.mul_assoc, Nat.mul_comm, Nat.mul_left_comm]
    rw [e3] at h4
    have h5 := (h4.trans s1).mono (show 2 + 2 + 3 ≤ 12 by omega)
    have h6 := h3.add h5
    rw [← Nat.add_mul, show A * P * 3 + A * P = A * P * 4 by omega] at h6
    exact h6.cancel (by omega)
end
end Go.Bn
namespace Go.Bn
open Go
/-! ## Pulls -/
theorem nm1 (a b c : Nat) : a * b * c = a * c * b := Nat.mul_right_comm a b c
section
variable {a d : Nat} (ha : Rng a 200) (hd : Rng d 75)
include ha hd
theorem pul_q : let v2 := fmul (fmul a d) d; let v3 := fmul v2 d; let v4 := fmul v3 d
    Apx 6 (vlu (fdiv v4 0x4034000000000000) * (20 * (PZ * PZ * PZ * PZ))) (vlu a * vlu d * vlu d * vlu d * vlu d) ∧ Apx 5 (vlu (fdiv v3 0x4020000000000000) * (8 * (PZ * PZ * PZ))) (vlu a * vlu d * vlu d * vlu d) ∧
    Apx 4 (vlu (fdiv v2 0x4018000000000000) * (6 * (PZ * PZ))) (vlu a * vlu d * vlu d) ∧ Apx 4 (vlu (fdiv v2 0x4008000000000000) * (3 * (PZ * PZ))) (vlu a * vlu d * vlu d) ∧ Apx 3 (vlu (fdiv (fmul a d) 0x4000000000000000) * (2 * PZ)) (vlu a * vlu d) := by
  intro v2 v3 v4
  obtain ⟨m1, n1⟩ := mul_apx ha hd (by omega)
  obtain ⟨m2, n2⟩ := mul_apx n1 hd (by omega)
  obtain ⟨m3, n3⟩ := mul_apx n2 hd (by omega)
  obtain ⟨m4, n4⟩ := mul_apx n3 hd (by omega)
  obtain ⟨q1, _⟩ := over_apx n4 c20 (by omega)
  obtain ⟨q2, _⟩ := over_apx n3 c8 (by omega)
  obtain ⟨q3, _⟩ := over_apx n2 c6 (by omega)
  obtain ⟨q4, _⟩ := over_apx n2 c3 (by omega)
  obtain ⟨q5, _⟩ := over_apx n1 c2 (by omega)
  change Apx 2 (vlu (fdiv v4 0x4034000000000000) * 20) (vlu v4) at q1
  change Apx 2 (vlu (fdiv v3 0x4020000000000000) * 8) (vlu v3) at q2
  change Apx 2 (vlu (fdiv v2 0x4018000000000000) * 6) (vlu v2) at q3
  change Apx 2 (vlu (fdiv v2 0x4008000000000000) * 3) (vlu v2) at q4
  change Apx 1 (vlu v2 * PZ) (vlu (fmul a d) * vlu d) at m2
  change Apx 1 (vlu v3 * PZ) (vlu v2 * vlu d) at m3
  change Apx 1 (vlu v4 * PZ) (vlu v3 * vlu d) at m4
  generalize vlu (fdiv v4 0x4034000000000000) = g at *
  generalize vlu (fdiv v3 0x4020000000000000) = f at *
  generalize vlu (fdiv v2 0x4018000000000000) = c at *
  generalize vlu (fdiv v2 0x4008000000000000) = e at *
  generalize vlu (fdiv (fmul a d) 0x4000000000000000) = b at *
  generalize vlu (fmul a d) = u1 at *
  generalize vlu v2 = u2 at *
  generalize vlu v3 = u3 at *
  generalize vlu v4 = u4 at *
  generalize vlu a = A at *
  generalize vlu d = D at *
  generalize PZ = P at *
  have h2 : Apx 2 (u2 * (P * P)) (A * D * D) := by
    have h := (m2.scale P).trans (by rw [nm1 u1 D P]; exact m1.scale D)
    rw [Nat.mul_assoc] at h
    exact h
  have h3 : Apx 3 (u3 * (P * P * P)) (A * D * D * D) := by
    have h := (m3.scale (P * P)).trans (by rw [nm1 u2 D (P * P)]; exact h2.scale D)
    have e0 : u3 * P * (P * P) = u3 * (P * P * P) := by simp only [Nat.mul_assoc]
    rw [e0] at h
    exact h
  have h4 : Apx 4 (u4 * (P * P * P * P)) (A * D * D * D * D) := by
    have h := (m4.scale (P * P * P)).trans (by rw [nm1 u3 D (P * P * P)]; exact h3.scale D)
    have e0 : u4 * P * (P * P * P) = u4 * (P * P * P * P) := by simp only [Nat.mul_assoc, Nat.mul_comm, Nat.mul_left_comm]
    rw [e0] at h
    exact h
  refine ⟨?_, ?_, ?_, ?_, ?_⟩
  · rw [← Nat.mul_assoc]; exact (q1.scale _).trans h4
  · rw [← Nat.mul_assoc]; exact (q2.scale _).trans h3
  · rw [← Nat.mul_assoc]; exact (q3.scale _).trans h2
  · rw [← Nat.mul_assoc]; exact (q4.scale _).trans h2
  · rw [← Nat.mul_assoc]; exact (q5.scale _).trans m1
theorem pul_g : let s := fsqrt a; let r := fsqrt 0x4034000000000000; let t := fsqrt 0x4048000000000000
    let x0 := fdiv (fmul (fmul s d) d) r; let y0 := fdiv (fmul (fmul s d) r) 0x4020000000000000; let y1 := fdiv (fmul s d) t
    let z0 := fdiv (fmul s r) 0x4018000000000000; let z1 := fdiv (fmul s t) 0x4028000000000000; let z2 := fdiv s 0x4008000000000000
    Apx 14 (vlu x0 * vlu x0 * (20 * (PZ * PZ * PZ * PZ))) (vlu a * PZ * (vlu d * vlu d * vlu d * vlu d)) ∧ Apx 11 (vlu x0 * vlu y0 * (8 * (PZ * PZ * PZ))) (vlu a * PZ * (vlu d * vlu d * vlu d)) ∧ Apx 10 (vlu x0 * vlu z0 * (6 * (PZ * PZ))) (vlu a * PZ * (vlu d * vlu d)) ∧
    Apx 14 ((vlu y0 * vlu y0 + vlu y1 * vlu y1) * (3 * (PZ * PZ))) (vlu a * PZ * (vlu d * vlu d)) ∧ Apx 13 ((vlu y0 * vlu z0 + vlu y1 * vlu z1) * (2 * PZ)) (vlu a * PZ * vlu d) ∧ Apx 12 (vlu z0 * vlu z0 + vlu z1 * vlu z1 + vlu z2 * vlu z2) (vlu a * PZ) := by
  intro s r t x0 y0 y1 z0 z1 z2
  have hP := pz_pos
  obtain ⟨s1, s2⟩ := sqrt_apx ha (by omega)
  obtain ⟨r1, r2⟩ := root_apx c20 (by omega)
  obtain ⟨t1, t2⟩ := root_apx c48 (by omega)
  obtain ⟨m1, n1⟩ := mul_apx s2 hd (by omega)
  obtain ⟨m2, n2⟩ := mul_apx n1 hd (by omega)
  obtain ⟨m3, n3⟩ := mul_apx n1 r2 (by omega)
  obtain ⟨m5, n5⟩ := mul_apx s2 r2 (by omega)
  obtain ⟨m6, n6⟩ := mul_apx s2 t2 (by omega)
  obtain ⟨q1, _⟩ := div_apx n2 r2 (by omega)
  obtain ⟨q2, _⟩ := over_apx n3 c8 (by omega)
  obtain ⟨q3, _⟩ := div_apx n1 t2 (by omega)
  obtain ⟨q4, _⟩ := over_apx n5 c6 (by omega)
  obtain ⟨q5, _⟩ := over_apx n6 c12 (by omega)
  obtain ⟨q6, _⟩ := over_apx s2 c3 (by omega)
  have hr := r2.pos
  have ht := t2.pos
  change Apx 3 (vlu s * vlu s) (vlu a * PZ) at s1
  change Apx 3 (vlu r * vlu r) (20 * (PZ * PZ)) at r1
  change Apx 3 (vlu t * vlu t) (48 * (PZ * PZ)) at t1
  change Apx 1 (vlu (fmul s d) * PZ) (vlu s * vlu d) at m1
  change Apx 1 (vlu (fmul (fmul s d) d) * PZ) (vlu (fmul s d) * vlu d) at m2
  change Apx 1 (vlu (fmul (fmul s d) r) * PZ) (vlu (fmul s d) * vlu r) at m3
  change Apx 1 (vlu (fmul s r) * PZ) (vlu s * vlu r) at m5
  change Apx 1 (vlu (fmul s t) * PZ) (vlu s * vlu t) at m6
  change Apx 2 (vlu x0 * vlu r) (vlu (fmul (fmul s d) d) * PZ) at q1
  change Apx 2 (vlu y0 * 8) (vlu (fmul (fmul s d) r)) at q2
  change Apx 2 (vlu y1 * vlu t) (vlu (fmul s d) * PZ) at q3
  change Apx 2 (vlu z0 * 6) (vlu (fmul s r)) at q4
  change Apx 2 (vlu z1 * 12) (vlu (fmul s t)) at q5
  change Apx 2 (vlu z2 * 3) (vlu s) at q6
  change 0 < vlu r at hr
  change 0 < vlu t at ht
  generalize vlu (fmul (fmul s d) d) = w2 at *
  generalize vlu (fmul (fmul s d) r) = w3 at *
  generalize vlu (fmul s d) = w1 at *
  generalize vlu (fmul s r) = w5 at *
  generalize vlu (fmul s t) = w6 at *
  generalize vlu x0 = x at *
  generalize vlu y0 = y at *
  generalize vlu y1 = y' at *
  generalize vlu z0 = z at *
  generalize vlu z1 = z' at *
  generalize vlu z2 = z'' at *
  generalize vlu s = S at *
  generalize vlu r = R at *
  generalize vlu t = T at *
  generalize vlu a = A at *
  generalize vlu d = D at *
  generalize PZ = P at *
  have hx : Apx 4 (x * R * P) (S * D * D) := by
    have h1 := (m2.scale P).trans (by rw [nm1 w1 D P]; exact m1.scale D)
    have h2 := (q1.scale P).trans h1
    exact h2
  have hy : Apx 4 (y * 8 * (P * P)) (S * D * R) := by
    have h1 := (m3.scale P).trans (by rw [nm1 w1 R P]; exact m1.scale R)
    rw [Nat.mul_assoc] at h1
    exact (q2.scale (P * P)).trans h1
  have hy' : Apx 3 (y' * T) (S * D) := q3.trans m1
  have hz : Apx 3 (z * 6 * P) (S * R) := (q4.scale P).trans m5
  have hz' : Apx 3 (z' * 12 * P) (S * T) := (q5.scale P).trans m6
  refine ⟨?_, ?_, ?_, ?_, ?_, ?_⟩
  · have h1 := hx.mul hx
    have e1 : x * R * P * (x * R * P) = R * R * (x * x * (P * P)) := by simp only [Nat.mul_assoc, Nat.mul_comm, Nat.mul_left_comm]
    have e2 : S * D * D * (S * D * D) = S * S * (D * D * D * D) := by simp only [Nat.mul_assoc, Nat.mul_comm, Nat.mul_left_comm]
    rw [e1, e2] at h1
    have h2 := ((r1.symm.scale (x * x * (P * P))).trans h1).trans (s1.scale (D * D * D * D))
    have e3 : 20 * (P * P) * (x * x * (P * P)) = x * x * (20 * (P * P * P * P)) := by simp only [Nat.mul_assoc, Nat.mul_comm, Nat.mul_left_comm]
    rw [e3] at h2
    exact h2
  · have h1 := hx.mul hy
    have e1 : x * R * P * (y * 8 * (P * P)) = x * y * (8 * (P * P * P)) * R := by simp only [Nat.mul_assoc, Nat.mul_comm, Nat.mul_left_comm]
    have e2 : S * D * D * (S * D * R) = S * S * (D * D * D) * R := by simp only [Nat.mul_assoc, Nat.mul_comm, Nat.mul_left_comm]
    rw [e1, e2] at h1
    exact (h1.cancel hr).trans (s1.scale (D * D * D))
  · have h1 := hx.mul hz
    have e1 : x * R * P * (z * 6 * P) = x * z * (6 * (P * P)) * R := by simp only [Nat.mul_assoc, Nat.mul_comm, Nat.mul_left_comm]
    have e2 : S * D * D * (S * R) = S * S * (D * D) * R := by simp only [Nat.mul_assoc, Nat.mul_comm, Nat.mul_left_comm]
    rw [e1, e2] at h1
    exact (h1.cancel hr).trans (s1.scale (D * D))
  · have h1 := hy.mul hy
    have e1 : y * 8 * (P * P) * (y * 8 * (P * P)) = y * y * (64 * (P * P)) * (P * P) := by simp only [show (64 : Nat) = 8 * 8 by omega, Nat.mul_assoc, Nat.mul_comm, Nat.mul_left_comm]
    have e2 : S * D * R * (S * D * R) = R * R * (S * S * (D * D)) := by simp only [Nat.mul_assoc, Nat.mul_comm, Nat.mul_left_comm]
    rw [e1, e2] at h1
    have h2 := h1.trans (r1.scale (S * S * (D * D)))
    have e3 : 20 * (P * P) * (S * S * (D * D)) = S * S * (D * D) * 20 * (P * P) := by simp only [Nat.mul_assoc, Nat.mul_comm, Nat.mul_left_comm]
    rw [e3] at h2
    have h3 := (h2.cancel (Nat.mul_pos hP hP)).scale 3
    have h4 := hy'.mul hy'
    have e4 : y' * T * (y' * T) = T * T * (y' * y') := by simp only [Nat.mul_assoc, Nat.mul_comm, Nat.mul_left_comm]
    rw [e4, mul4 S D] at h4
    have h5 := ((t1.symm.scale (y' * y')).trans h4).scale 4
    have h6 := h3.add (h5.mono (show 3 + (3 + 3) ≤ 4 + 4 + 3 by omega))
    have e5 : y * y * (64 * (P * P)) * 3 + 48 * (P * P) * (y' * y') * 4 = (y * y + y' * y') * (3 * (P * P)) * 64 := by
      rw [Nat.add_mul, Nat.add_mul]
      congr 1
      · simp only [Nat.mul_assoc, Nat.mul_comm, Nat.mul_left_comm]
      · rw [show (48 : Nat) = 3 * 16 by omega, show (64 : Nat) = 16 * 4 by omega]
        simp only [Nat.mul_assoc, Nat.mul_comm, Nat.mul_left_comm]
    rw [e5, show S * S * (D * D) * 20 * 3 + S * S * (D * D) * 4 = S * S * (D * D) * 64 by omega] at h6
    exact (h6.cancel (by omega)).trans (s1.scale (D * D))
  · have h1 := hy.mul hz
    have e1 : y * 8 * (P * P) * (z * 6 * P) = y * z * 48 * P * (P * P) := by
      rw [show (48 : Nat) = 8 * 6 by omega]
      simp only [Nat.mul_assoc, Nat.mul_comm, Nat.mul_left_comm]
    have e2 : S * D * R * (S * R) = R * R * (S * S * D) := by simp only [Nat.mul_assoc, Nat.mul_comm, Nat.mul_left_comm]
    rw [e1, e2] at h1
    have h2 := h1.trans (r1.scale (S * S * D))
    have e3 : 20 * (P * P) * (S * S * D) = S * S * D * 20 * (P * P) := by simp only [Nat.mul_assoc, Nat.mul_comm, Nat.mul_left_comm]
    rw [e3] at h2
    have h3 := h2.cancel (Nat.mul_pos hP hP)
    have h4 := hy'.mul hz'
    have e4 : y' * T * (z' * 12 * P) = y' * z' * 12 * P * T := by simp only [Nat.mul_assoc, Nat.mul_comm, Nat.mul_left_comm]
    have e5 : S * D * (S * T) = S * S * D * T := by simp only [Nat.mul_assoc, Nat.mul_comm, Nat.mul_left_comm]
    rw [e4, e5] at h4
    have h5 := (h4.cancel ht).scale 4
    have h6 := h3.add (h5.mono (show 3 + 3 ≤ 4 + 3 + 3 by omega))
    have e6 : y * z * 48 * P + y' * z' * 12 * P * 4 = (y * z + y' * z') * (2 * P) * 24 := by
      rw [Nat.add_mul, Nat.add_mul]
      congr 1
      · rw [show (48 : Nat) = 2 * 24 by omega]
        simp only [Nat.mul_assoc, Nat.mul_comm, Nat.mul_left_comm]
      · rw [show (12 : Nat) = 2 * 6 by omega, show (24 : Nat) = 6 * 4 by omega]
        simp only [Nat.mul_assoc, Nat.mul_comm, Nat.mul_left_comm]
    rw [e6, show S * S * D * 20 + S * S * D * 4 = S * S * D * 24 by omega] at h6
    exact (h6.cancel (by omega)).trans (s1.scale D)
  · have h1 := hz.mul hz
    have e1 : z * 6 * P * (z * 6 * P) = z * z * 36 * (P * P) := by
      rw [show (36 : Nat) = 6 * 6 by omega]
      simp only [Nat.mul_assoc, Nat.mul_comm, Nat.mul_left_comm]
    rw [e1, mul4 S R, Nat.mul_comm (S * S)] at h1
    have h2 := h1.trans (r1.scale (S * S))
    have e2 : 20 * (P * P) * (S * S) = S * S * 20 * (P * P) := by simp only [Nat.mul_assoc, Nat.mul_comm, Nat.mul_left_comm]
    rw [e2] at h2
    have h3 := h2.cancel (Nat.mul_pos hP hP)
    have h4 := hz'.mul hz'
    have e3 : z' * 12 * P * (z' * 12 * P) = z' * z' * 144 * (P * P) := by
      rw [show (144 : Nat) = 12 * 12 by omega]
      simp only [Nat.mul_assoc, Nat.mul_comm, Nat.mul_left_comm]
    rw [e3, mul4 S T, Nat.mul_comm (S * S)] at h4
    have h5 := h4.trans (t1.scale (S * S))
    have e4 : 48 * (P * P) * (S * S) = S * S * 48 * (P * P) := by simp only [Nat.mul_assoc, Nat.mul_comm, Nat.mul_left_comm]
    rw [e4] at h5
    have h6 := h5.cancel (Nat.mul_pos hP hP)
    rw [show z' * z' * 144 = z' * z' * 36 * 4 by omega, show S * S * 48 = S * S * 12 * 4 by omega] at h6
    have h7 := h6.cancel (by omega)
    have h8 := (q6.mul q6).scale 4
    have e5 : z'' * 3 * (z'' * 3) * 4 = z'' * z'' * 36 := by
      rw [show (36 : Nat) = 3 * (3 * 4) by omega]
      simp only [Nat.mul_assoc, Nat.mul_comm, Nat.mul_left_comm]
    rw [e5] at h8
    have h9 := (h3.add h7).add (h8.mono (show 2 + 2 ≤ 3 + 3 + 3 by omega))
    rw [← Nat.add_mul, ← Nat.add_mul, show S * S * 20 + S * S * 12 + S * S * 4 = S * S * 36 by omega] at h9
    exact (h9.cancel (by omega)).trans s1
end
end Go.Bn
namespace Go.Bn
open Go
def TT : Nat := 140737488355328
theorem tt_up : UU ^ 40 * TT ≤ UV ^ 40 * (TT + 1) := by decide
theorem tt_dn : UU ^ 40 * (TT - 1) ≤ UV ^ 40 * TT := by decide
/-- Nearly the same: a 2^-47 away at most. -/
theorem apx_close {K X Y : Nat} (h : Apx K X Y) (hK : K ≤ 40) : X * TT ≤ Y * (TT + 1) ∧ Y * (TT - 1) ≤ X * TT := by
  have g := h.mono hK
  have hv : 0 < UV ^ 40 := Nat.pow_pos uv_pos
  have hu : 0 < UU ^ 40 := Nat.pow_pos uu_pos
  constructor
  · refine Nat.le_of_mul_le_mul_right ?_ hv
    have h1 := Nat.mul_le_mul_right TT g.l
    have h2 := Nat.mul_le_mul_left Y tt_up
    refine Nat.le_trans (Nat.le_of_eq (nm1 _ _ _)) (Nat.le_trans h1 (Nat.le_trans (Nat.le_of_eq (Nat.mul_assoc _ _ _)) (Nat.le_trans h2 (Nat.le_of_eq ?_))))
    rw [Nat.mul_comm (UV ^ 40), Nat.mul_assoc]
  · refine Nat.le_of_mul_le_mul_right ?_ hu
    have h1 := Nat.mul_le_mul_right TT g.r
    have h2 := Nat.mul_le_mul_left Y tt_dn
    refine Nat.le_trans (Nat.le_of_eq ?_) (Nat.le_trans h2 (Nat.le_trans (Nat.le_of_eq ?_) (Nat.le_trans h1 (Nat.le_of_eq (nm1 _ _ _)))))
    · rw [Nat.mul_comm (UU ^ 40), Nat.mul_assoc]
    · rw [Nat.mul_assoc]
theorem uu_20 : UU ^ 20 ≤ 2 * UV ^ 20 := by decide
theorem apx_20 {K a b : Nat} (h : Apx K a b) (hK : K ≤ 20) : a ≤ 2 * b := by
  have h1 := (h.mono hK).l
  have hv : 0 < UV ^ 20 := Nat.pow_pos uv_pos
  refine Nat.le_of_mul_le_mul_right ?_ hv
  refine Nat.le_trans h1 (Nat.le_trans (Nat.mul_le_mul_left b uu_20) (Nat.le_of_eq ?_))
  rw [← Nat.mul_assoc, Nat.mul_comm b 2]
/-- A sum of products of roots, near what time adds at that place, between two places of the diagonal. -/
structure NearQ (X q qi qj : Nat) : Prop where
  a : Apx 40 X (q * PZ)
  b : q * q ≤ 4 * (qi * qj)
theorem sq_bound {k l n m q qi qj W : Nat} (h1 : Apx k (q * q * n) W) (h2 : Apx l (qi * qj * m) W) (hkl : k + l ≤ 20) (hmn : m ≤ 2 * n) (hn : 0 < n) : q * q ≤ 4 * (qi * qj) := by
  have h3 := apx_20 (h1.trans h2.symm) hkl
  refine Nat.le_of_mul_le_mul_right ?_ hn
  refine Nat.le_trans h3 ?_
  have h4 := Nat.mul_le_mul_left (qi * qj) hmn
  have e : 4 * (qi * qj) * n = 2 * (qi * qj * (2 * n)) := by
    rw [show (4 : Nat) = 2 * 2 by omega]
    simp only [Nat.mul_assoc, Nat.mul_comm, Nat.mul_left_comm]
  rw [e]
  exact Nat.mul_le_mul_left 2 h4
/-- On the diagonal itself. -/
theorem near_diag {X q : Nat} {K : Nat} (h : Apx K X (q * PZ)) (hK : K ≤ 40) : NearQ X q q q := ⟨h.mono hK, by omega⟩
theorem to_q {k l X q C W P : Nat} (hC : 0 < C) (h1 : Apx k (X * C) (W * P)) (h2 : Apx l (q * C) W) : Apx (k + l) X (q * P) := by
  have h3 := (h2.symm.scale P)
  have h4 := h1.trans h3
  rw [nm1 q C P] at h4
  exact h4.cancel hC
section
variable {a d : Nat} (ha : Rng a 200) (hd : Rng d 75)
include ha hd
theorem spd_near : let s := fsqrt a; let r := fsqrt 0x4008000000000000
    let g0 := fdiv (fmul s d) r; let g1 := fdiv (fmul s r) 0x4000000000000000; let g2 := fdiv s 0x4000000000000000
    let c := fdiv (fmul (fmul a d) d) 0x4008000000000000; let b := fdiv (fmul a d) 0x4000000000000000
    NearQ (vlu g0 * vlu g0) (vlu c) (vlu c) (vlu c) ∧ NearQ (vlu g0 * vlu g1) (vlu b) (vlu c) (vlu a) ∧ NearQ (vlu g1 * vlu g1 + vlu g2 * vlu g2) (vlu a) (vlu a) (vlu a) := by
  intro s r g0 g1 g2 c b
  obtain ⟨h1, h2, h3⟩ := spd_g ha hd
  obtain ⟨q1, q2⟩ := spd_q ha hd
  change Apx 12 (vlu g0 * vlu g0 * (3 * (PZ * PZ))) (vlu a * PZ * (vlu d * vlu d)) at h1
  change Apx 9 (vlu g0 * vlu g1 * 2) (vlu a * vlu d) at h2
  change Apx 12 (vlu g1 * vlu g1 + vlu g2 * vlu g2) (vlu a * PZ) at h3
  change Apx 4 (vlu c * (3 * (PZ * PZ))) (vlu a * vlu d * vlu d) at q1
  change Apx 3 (vlu b * (2 * PZ)) (vlu a * vlu d) at q2
  have hP := pz_pos
  refine ⟨near_diag (K := 16) ?_ (by omega), ⟨?_, ?_⟩, near_diag h3 (by omega)⟩
  · refine to_q (C := 3 * (PZ * PZ)) (Nat.mul_pos (by omega) (Nat.mul_pos hP hP)) ?_ q1
    have e : vlu a * PZ * (vlu d * vlu d) = vlu a * vlu d * vlu d * PZ := by simp only [Nat.mul_assoc, Nat.mul_comm, Nat.mul_left_comm]
    rw [e] at h1
    exact h1
  · have h4 : Apx (9 + 3) (vlu g0 * vlu g1) (vlu b * PZ) := by
      have h5 := h2.trans q2.symm
      have e : vlu b * (2 * PZ) = vlu b * PZ * 2 := by simp only [Nat.mul_assoc, Nat.mul_comm, Nat.mul_left_comm]
      rw [e] at h5
      exact h5.cancel (by omega)
    exact h4.mono (by omega)
  · have g1 := q2.mul q2
    have g2 := (q1.mul (apx_refl (vlu a)))
    have e1 : vlu b * (2 * PZ) * (vlu b * (2 * PZ)) = vlu b * vlu b * (4 * (PZ * PZ)) := by
      rw [show (4 : Nat) = 2 * 2 by omega]
      simp only [Nat.mul_assoc, Nat.mul_comm, Nat.mul_left_comm]
    have e2 : vlu c * (3 * (PZ * PZ)) * vlu a = vlu c * vlu a * (3 * (PZ * PZ)) := nm1 _ _ _
    have e3 : vlu a * vlu d * vlu d * vlu a = vlu a * vlu d * (vlu a * vlu d) := by simp only [Nat.mul_assoc, Nat.mul_comm, Nat.mul_left_comm]
    rw [e1] at g1
    rw [e2, e3] at g2
    exact sq_bound g1 g2 (by omega) (by have := Nat.mul_pos hP hP; omega) (by have := Nat.mul_pos hP hP; omega)
end
end Go.Bn
namespace Go.Bn
open Go
section
variable {a d : Nat} (ha : Rng a 200) (hd : Rng d 75)
include ha hd
theorem pul_near : let s := fsqrt a; let r := fsqrt 0x4034000000000000; let t := fsqrt 0x4048000000000000
    let x0 := fdiv (fmul (fmul s d) d) r; let y0 := fdiv (fmul (fmul s d) r) 0x4020000000000000; let y1 := fdiv (fmul s d) t
    let z0 := fdiv (fmul s r) 0x4018000000000000; let z1 := fdiv (fmul s t) 0x4028000000000000; let z2 := fdiv s 0x4008000000000000
    let v2 := fmul (fmul a d) d; let v3 := fmul v2 d; let v4 := fmul v3 d
    let g := fdiv v4 0x4034000000000000; let f := fdiv v3 0x4020000000000000; let c := fdiv v2 0x4018000000000000; let e := fdiv v2 0x4008000000000000; let b := fdiv (fmul a d) 0x4000000000000000
    (NearQ (vlu x0 * vlu x0) (vlu g) (vlu g) (vlu g) ∧ NearQ (vlu x0 * vlu y0) (vlu f) (vlu g) (vlu e) ∧ NearQ (vlu x0 * vlu z0) (vlu c) (vlu g) (vlu a)) ∧
    NearQ (vlu y0 * vlu y0 + vlu y1 * vlu y1) (vlu e) (vlu e) (vlu e) ∧ NearQ (vlu y0 * vlu z0 + vlu y1 * vlu z1) (vlu b) (vlu e) (vlu a) ∧ NearQ (vlu z0 * vlu z0 + vlu z1 * vlu z1 + vlu z2 * vlu z2) (vlu a) (vlu a) (vlu a) := by
  intro s r t x0 y0 y1 z0 z1 z2 v2 v3 v4 g f c e b
  obtain ⟨h1, h2, h3, h4, h5, h6⟩ := pul_g ha hd
  obtain ⟨q1, q2, q3, q4, q5⟩ := pul_q ha hd
  change Apx 14 (vlu x0 * vlu x0 * (20 * (PZ * PZ * PZ * PZ))) (vlu a * PZ * (vlu d * vlu d * vlu d * vlu d)) at h1
  change Apx 11 (vlu x0 * vlu y0 * (8 * (PZ * PZ * PZ))) (vlu a * PZ * (vlu d * vlu d * vlu d)) at h2
  change Apx 10 (vlu x0 * vlu z0 * (6 * (PZ * PZ))) (vlu a * PZ * (vlu d * vlu d)) at h3
  change Apx 14 ((vlu y0 * vlu y0 + vlu y1 * vlu y1) * (3 * (PZ * PZ))) (vlu a * PZ * (vlu d * vlu d)) at h4
  change Apx 13 ((vlu y0 * vlu z0 + vlu y1 * vlu z1) * (2 * PZ)) (vlu a * PZ * vlu d) at h5
  change Apx 12 (vlu z0 * vlu z0 + vlu z1 * vlu z1 + vlu z2 * vlu z2) (vlu a * PZ) at h6
  change Apx 6 (vlu g * (20 * (PZ * PZ * PZ * PZ))) (vlu a * vlu d * vlu d * vlu d * vlu d) at q1
  change Apx 5 (vlu f * (8 * (PZ * PZ * PZ))) (vlu a * vlu d * vlu d * vlu d) at q2
  change Apx 4 (vlu c * (6 * (PZ * PZ))) (vlu a * vlu d * vlu d) at q3
  change Apx 4 (vlu e * (3 * (PZ * PZ))) (vlu a * vlu d * vlu d) at q4
  change Apx 3 (vlu b * (2 * PZ)) (vlu a * vlu d) at q5
  have hP := pz_pos
  generalize vlu x0 * vlu x0 = X1 at *
  generalize vlu x0 * vlu y0 = X2 at *
  generalize vlu x0 * vlu z0 = X3 at *
  generalize vlu y0 * vlu y0 + vlu y1 * vlu y1 = X4 at *
  generalize vlu y0 * vlu z0 + vlu y1 * vlu z1 = X5 at *
  generalize vlu z0 * vlu z0 + vlu z1 * vlu z1 + vlu z2 * vlu z2 = X6 at *
  generalize vlu g = g at *
  generalize vlu f = f at *
  generalize vlu c = c at *
  generalize vlu e = e at *
  generalize vlu b = b at *
  generalize vlu a = A at *
  generalize vlu d = D at *
  have p2 := Nat.mul_pos hP hP
  have p3 := Nat.mul_pos p2 hP
  have p4 := Nat.mul_pos p3 hP
  refine ⟨⟨near_diag (K := 20) (to_q (C := 20 * (PZ * PZ * PZ * PZ)) (W := A * D * D * D * D) (by omega) ?_ q1) (by omega), ⟨?_, ?_⟩, ⟨?_, ?_⟩⟩, near_diag (K := 18) (to_q (C := 3 * (PZ * PZ)) (W := A * D * D) (by omega) ?_ q4) (by omega), ⟨?_, ?_⟩, near_diag (K := 12) h6 (by omega)⟩
  · have w : A * PZ * (D * D * D * D) = A * D * D * D * D * PZ := by simp only [Nat.mul_assoc, Nat.mul_comm, Nat.mul_left_comm]
    rw [w] at h1
    exact h1
  · have w : A * PZ * (D * D * D) = A * D * D * D * PZ := by simp only [Nat.mul_assoc, Nat.mul_comm, Nat.mul_left_comm]
    rw [w] at h2
    exact (to_q (C := 8 * (PZ * PZ * PZ)) (by omega) h2 q2).mono (by omega)
  · have g1 := q2.mul q2
    have g2 := q1.mul q4
    have e1 : f * (8 * (PZ * PZ * PZ)) * (f * (8 * (PZ * PZ * PZ))) = f * f * (64 * (PZ * PZ * PZ * PZ * PZ * PZ)) := by
      rw [show (64 : Nat) = 8 * 8 by omega]
      simp only [Nat.mul_assoc, Nat.mul_comm, Nat.mul_left_comm]
    have e2 : g * (20 * (PZ * PZ * PZ * PZ)) * (e * (3 * (PZ * PZ))) = g * e * (60 * (PZ * PZ * PZ * PZ * PZ * PZ)) := by
      rw [show (60 : Nat) = 20 * 3 by omega]
      simp only [Nat.mul_assoc, Nat.mul_comm, Nat.mul_left_comm]
    have e3 : A * D * D * D * (A * D * D * D) = A * D * D * D * D * (A * D * D) := by simp only [Nat.mul_assoc, Nat.mul_comm, Nat.mul_left_comm]
    rw [e1, e3] at g1
    rw [e2] at g2
    have p6 := Nat.mul_pos (Nat.mul_pos p4 hP) hP
    exact sq_bound g1 g2 (by omega) (by omega) (by omega)
  · have w : A * PZ * (D * D) = A * D * D * PZ := by simp only [Nat.mul_assoc, Nat.mul_comm, Nat.mul_left_comm]
    rw [w] at h3
    exact (to_q (C := 6 * (PZ * PZ)) (by omega) h3 q3).mono (by omega)
  · have g1 := q3.mul q3
    have g2 := q1.mul (apx_refl A)
    have e1 : c * (6 * (PZ * PZ)) * (c * (6 * (PZ * PZ))) = c * c * (36 * (PZ * PZ * PZ * PZ)) := by
      rw [show (36 : Nat) = 6 * 6 by omega]
      simp only [Nat.mul_assoc, Nat.mul_comm, Nat.mul_left_comm]
    have e2 : g * (20 * (PZ * PZ * PZ * PZ)) * A = g * A * (20 * (PZ * PZ * PZ * PZ)) := nm1 _ _ _
    have e3 : A * D * D * (A * D * D) = A * D * D * D * D * A := by simp only [Nat.mul_assoc, Nat.mul_comm, Nat.mul_left_comm]
    rw [e1, e3] at g1
    rw [e2] at g2
    exact sq_bound g1 g2 (by omega) (by omega) (by omega)
  · have w : A * PZ * (D * D) = A * D * D * PZ := by simp only [Nat.mul_assoc, Nat.mul_comm, Nat.mul_left_comm]
    rw [w] at h4
    exact h4
  · have w : A * PZ * D = A * D * PZ := nm1 _ _ _
    rw [w] at h5
    exact (to_q (C := 2 * PZ) (by omega) h5 q5).mono (by omega)
  · have g1 := q5.mul q5
    have g2 := q4.mul (apx_refl A)
    have e1 : b * (2 * PZ) * (b * (2 * PZ)) = b * b * (4 * (PZ * PZ)) := by
      rw [show (4 : Nat) = 2 * 2 by omega]
      simp only [Nat.mul_assoc, Nat.mul_comm, Nat.mul_left_comm]
    have e2 : e * (3 * (PZ * PZ)) * A = e * A * (3 * (PZ * PZ)) := nm1 _ _ _
    have e3 : A * D * (A * D) = A * D * D * A := by simp only [Nat.mul_assoc, Nat.mul_comm, Nat.mul_left_comm]
    rw [e1, e3] at g1
    rw [e2] at g2
    exact sq_bound g1 g2 (by omega) (by omega) (by omega)
end
/-! ## Ranges -/
theorem cmp_scale {a b p : Int} (hp : 1 ≤ p) : compare (a * p) (b * p) = compare a b := by
  rcases Int.lt_trichotomy a b with h | h | h
  · rw [Int.compare_eq_lt.2 h, Int.compare_eq_lt.2 (Int.mul_lt_mul_of_pos_right h (by omega))]
  · rw [h, Int.compare_eq_eq.2 rfl, Int.compare_eq_eq.2 rfl]
  · rw [Int.compare_eq_gt.2 h, Int.compare_eq_gt.2 (Int.mul_lt_mul_of_pos_right h (by omega))]
/-- The order of numbers is that of their values. -/
theorem ford_val {x y : Nat} (hx : rung x < 9218868437227405312) (hy : rung y < 9218868437227405312) : ford x y = some (compare (sval x) (sval y)) := by
  have px := plc_ge x
  have py := plc_ge y
  unfold ford Ieee.Format.order
  rw [read_fin hx, read_fin hy]
  simp only [Ieee.Datum.order]
  obtain ⟨b, hb⟩ : ∃ b, b = min (plc x) (plc y) := ⟨_, rfl⟩
  rw [← hb]
  have key : ∀ z, b ≤ plc z → Ieee.signed (sgn z) (mgn z) (plc z - b).toNat * 2 ^ (b + 1074).toNat = sval z := by
    intro z hz
    unfold Ieee.signed sval vlu
    have e : ((mgn z <<< (plc z - b).toNat : Nat) : Int) * 2 ^ (b + 1074).toNat = ((mgn z * 2 ^ (plc z + 1074).toNat : Nat) : Int) := by
      rw [Nat.shiftLeft_eq, show (plc z + 1074).toNat = (plc z - b).toNat + (b + 1074).toNat by omega, Nat.pow_add]
      simp [Int.mul_assoc]
    split
    · rw [Int.neg_mul, e]
    · exact e
  rw [← key x (by omega), ← key y (by omega), cmp_scale (pow_one_le _)]
theorem p100_val : rung P100 < 9218868437227405312 ∧ sval P100 = ((PZ * 2 ^ 100 : Nat) : Int) := by
  constructor
  · decide
  · show ((mgn P100 * 2 ^ (plc P100 + 1074).toNat : Nat) : Int) = _
    rw [show mgn P100 = 2 ^ 52 by decide, show (plc P100 + 1074).toNat = NZ + 48 by decide, ← Nat.pow_add, pz_pow, show 52 + (NZ + 48) = NZ + 100 by omega]
def M100 : Nat := 0x39b0000000000000
theorem m100_val : rung M100 < 9218868437227405312 ∧ ∃ v : Nat, sval M100 = (v : Int) ∧ v * 2 ^ 100 = PZ := by
  refine ⟨by decide, mgn M100 * 2 ^ (plc M100 + 1074).toNat, rfl, ?_⟩
  rw [show mgn M100 = 2 ^ 52 by decide, show (plc M100 + 1074).toNat = NZ - 152 by decide, ← Nat.pow_add, ← Nat.pow_add, pz_def, show 52 + (NZ - 152) + 100 = NZ by rw [nz]]
theorem sval_zero : sval 0 = 0 := by decide
/-- A noise: nought, or from 2^-100 to 2^100. -/
theorem noise_rng {x : Nat} (hw : x < 2 ^ 64) (hf : finB x = true) (hl : loudB x = false) (h : fcmp .neq x 0 = false ∨ fcmp .lss x M100 = false) : Nil0 x ∨ Rng x 100 := by
  have hr := (finB_iff hw).1 hf
  obtain ⟨p1, p2⟩ := p100_val
  obtain ⟨m1, v, m2, m3⟩ := m100_val
  have h0 : rung 0 < 9218868437227405312 := by decide
  unfold loudB at hl
  rw [Bool.or_eq_false_iff] at hl
  obtain ⟨l1, l2⟩ := hl
  simp only [fcmp, ford_val hr h0, ford_val hr p1, ford_val hr m1, sval_zero, p2, m2] at l1 l2 h
  by_cases hz : vlu x = 0
  · left
    have hm : mgn x = 0 := by
      unfold vlu at hz
      rcases Nat.mul_eq_zero.1 hz with g | g
      · exact g
      · have := Nat.two_pow_pos (plc x + 1074).toNat; omega
    have hrg : rung x = 0 := by
      unfold mgn at hm
      split at hm
      · exact hm
      · omega
    unfold rung at hrg
    unfold Nil0
    have : NEG0 = 9223372036854775808 := rfl
    omega
  · right
    have hs : sgn x = false := by
      cases hs : sgn x with
      | false => rfl
      | true =>
        exfalso
        unfold sval at l1
        rw [if_pos hs, Int.compare_eq_lt.2 (by omega)] at l1
        exact absurd l1 (by decide)
    have hv : sval x = (vlu x : Int) := by unfold sval; rw [if_neg (by simp [hs])]
    rw [hv] at l1 l2 h
    refine ⟨hr, hs, ?_, ?_⟩
    · rcases h with h | h
      · exfalso
        rw [Int.compare_eq_gt.2 (by omega)] at h
        exact absurd h (by decide)
      · have : v ≤ vlu x := by
          by_cases c : v ≤ vlu x
          · exact c
          · rw [Int.compare_eq_lt.2 (by omega)] at h
            exact absurd h (by decide)
        rw [← m3]
        exact Nat.mul_le_mul_right _ this
    · by_cases c : vlu x ≤ PZ * 2 ^ 100
      · exact c
      · rw [Int.compare_eq_gt.2 (by omega)] at l2
        exact absurd l2 (by decide)
end Go.Bn
namespace Go.Bn
open Go
/-- A number not below nought. -/
structure Nng (x : Nat) : Prop where
  w : x < 2 ^ 64
  f : rung x < 9218868437227405312
  s : sgn x = false ∨ vlu x = 0
theorem Nng.val {x : Nat} (h : Nng x) : sval x = (vlu x : Int) := by
  unfold sval
  rcases h.s with e | e
  · rw [if_neg (by simp [e])]
  · rw [e]; split <;> rfl
theorem Nng.fin {x : Nat} (h : Nng x) : finB x = true := (finB_iff h.w).2 h.f
theorem nng_rng {x k : Nat} (h : Rng x k) (hw : x < 2 ^ 64) : Nng x := ⟨hw, h.f, .inl h.s⟩
theorem vlu_zero : vlu 0 = 0 := by decide
theorem vlu_nil {x : Nat} (h : Nil0 x) : vlu x = 0 := by rcases h with rfl | rfl <;> decide
theorem nng_nil {x : Nat} (h : Nil0 x) : Nng x := ⟨by rcases h with rfl | rfl <;> decide, by rcases h with rfl | rfl <;> decide, .inr (vlu_nil h)⟩
theorem fmul_lt {x y : Nat} : fmul x y < 2 ^ 64 := fop_lt (op := .mul)
theorem fdiv_lt {x y : Nat} : fdiv x y < 2 ^ 64 := fop_lt (op := .quo)
theorem fsqrt_lt {x : Nat} : fsqrt x < 2 ^ 64 := by
  unfold fsqrt fop
  cases h : Ieee.double.sqrt x with
  | none => exact NAN_lt
  | some r => exact (sqrt_some h).2.1
def ent (B : List (List Nat)) (u w : Nat) : Nat := (B.getD u []).getD w 0
def dotN (a b : Nat → Nat) : Nat → Nat
  | 0 => 0
  | l + 1 => dotN a b l + vlu (a l) * vlu (b l)
/-- A block of what time adds, and its root. -/
structure RB (B C : List (List Nat)) (L : Nat) : Prop where
  g : ∀ u w, Nng (ent B u w)
  q : ∀ u w, Nng (ent C u w)
  z : ∀ u w, u < w → fcmp .neq (ent B u w) 0 = false
  x : ∀ u w, u < L → w < L → NearQ (dotN (ent B u) (ent B w) L) (vlu (ent C u w)) (vlu (ent C u u)) (vlu (ent C w w))
theorem nearQ_nil {a b : Nat} : NearQ 0 0 a b := ⟨⟨by rw [Nat.zero_mul, Nat.zero_mul]; exact Nat.le_refl _, by rw [Nat.zero_mul, Nat.zero_mul]; exact Nat.le_refl _⟩, by omega⟩
theorem NearQ.flip {X q a b : Nat} (h : NearQ X q a b) : NearQ X q b a := ⟨h.a, by rw [Nat.mul_comm b a]; exact h.b⟩
theorem dotN_nil {a b : Nat → Nat} (h : ∀ l, vlu (a l) = 0 ∨ vlu (b l) = 0) : ∀ L, dotN a b L = 0
  | 0 => rfl
  | L + 1 => by
    rw [dotN, dotN_nil h L]
    rcases h L with e | e <;> rw [e] <;> simp
theorem rb_nil {B C : List (List Nat)} {L : Nat} (hB : ∀ u w, Nil0 (ent B u w)) (hC : ∀ u w, Nil0 (ent C u w)) : RB B C L where
  g := fun u w => nng_nil (hB u w)
  q := fun u w => nng_nil (hC u w)
  z := fun u w _ => (nil0_fin (hB u w)).2
  x := fun u w _ _ => by
    rw [dotN_nil (fun l => .inl (vlu_nil (hB u l))), vlu_nil (hC u w)]
    exact nearQ_nil
theorem ent_all {P : Nat → Prop} {B : List (List Nat)} (h : ∀ r, r ∈ B → ∀ v, v ∈ r → P v) (h0 : P 0) (u w : Nat) : P (ent B u w) := all_getD2 h h0 u w
/-! ## No noise -/
theorem nil_fmul {x y : Nat} (h : Nil0 x) (hw : y < 2 ^ 64) (hf : finB y = true) : Nil0 (fmul x y) := by
  have hr := (finB_iff hw).1 hf
  have h1 : rung x < 9218868437227405312 := (nng_nil h).f
  rw [fmul_vlu h1 hr, vlu_nil h, Nat.zero_mul, nearest_nought]
  unfold Nil0
  split
  · exact .inr rfl
  · exact .inl rfl
theorem nil_c {f : Nat → Nat} {x : Nat} (h0 : Nil0 (f 0)) (h1 : Nil0 (f NEG0)) (h : Nil0 x) : Nil0 (f x) := by
  rcases h with rfl | rfl
  · exact h0
  · exact h1
instance (x : Nat) : Decidable (Nil0 x) := inferInstanceAs (Decidable (x = 0 ∨ x = NEG0))
theorem nil_noise {p : Prt} {d : Nat} (hk : 1 ≤ ordN p.k) (h : Nil0 p.n) (hw : d < 2 ^ 64) (hf : finB d = true) : RB (rootB p d) (noiseB p d) (ordN p.k).toNat := by
  have a0 := nil_fmul h hw hf
  have s0 := nil_c (f := fsqrt) (by decide +kernel) (by decide +kernel) a0
  have d0 := nil_fmul s0 hw hf
  have e0 := nil_fmul d0 hw hf
  have a1 := nil_fmul a0 hw hf
  have a2 := nil_fmul a1 hw hf
  have a3 := nil_fmul a2 hw hf
  have z0 : Nil0 0 := .inl rfl
  apply rb_nil
  · intro u w
    refine ent_all (P := Nil0) (fun r hr v hv => ?_) z0 u w
    unfold rootB rtB at hr
    rcases ordN_some hk with e | e | e | e | e
    · rw [e, if_neg (by decide), if_neg (by decide), if_neg (by decide)] at hr
      simp at hr; subst hr; simp at hv; subst hv; exact z0
    · rw [e, if_pos (by decide)] at hr
      simp at hr; subst hr; simp at hv; subst hv; exact s0
    · rw [e, if_neg (by decide), if_pos (by decide)] at hr
      simp at hr
      have r1 := nil_c (f := fun x => fdiv x (fsqrt 0x4008000000000000)) (by decide +kernel) (by decide +kernel) d0
      have r2 := nil_c (f := fun x => fdiv (fmul x (fsqrt 0x4008000000000000)) 0x4000000000000000) (by decide +kernel) (by decide +kernel) s0
      have r3 := nil_c (f := fun x => fdiv x 0x4000000000000000) (by decide +kernel) (by decide +kernel) s0
      rcases hr with rfl | rfl <;> simp at hv <;> rcases hv with rfl | rfl
      · exact r1
      · exact z0
      · exact r2
      · exact r3
    · rw [e, if_neg (by decide), if_neg (by decide), if_pos (by decide)] at hr
      simp at hr
      have r1 := nil_c (f := fun x => fdiv x (fsqrt 0x4034000000000000)) (by decide +kernel) (by decide +kernel) e0
      have r2 := nil_c (f := fun x => fdiv (fmul x (fsqrt 0x4034000000000000)) 0x4020000000000000) (by decide +kernel) (by decide +kernel) d0
      have r3 := nil_c (f := fun x => fdiv x (fsqrt 0x4048000000000000)) (by decide +kernel) (by decide +kernel) d0
      have r4 := nil_c (f := fun x => fdiv (fmul x (fsqrt 0x4034000000000000)) 0x4018000000000000) (by decide +kernel) (by decide +kernel) s0
      have r5 := nil_c (f := fun x => fdiv (fmul x (fsqrt 0x4048000000000000)) 0x4028000000000000) (by decide +kernel) (by decide +kernel) s0
      have r6 := nil_c (f := fun x => fdiv x 0x4008000000000000) (by decide +kernel) (by decide +kernel) s0
      rcases hr with rfl | rfl | rfl
      · simp at hv
        rcases hv with rfl | rfl | rfl
        · exact r1
        all_goals exact z0
      · simp at hv
        rcases hv with rfl | rfl | rfl
        · exact r2
        · exact r3
        · exact z0
      · simp at hv
        rcases hv with rfl | rfl | rfl
        · exact r4
        · exact r5
        · exact r6
    · rw [e, if_pos (by decide)] at hr
      simp at hr; subst hr; simp at hv; subst hv; exact s0
  · intro u w
    refine ent_all (P := Nil0) (fun r hr v hv => ?_) z0 u w
    unfold noiseB spB at hr
    have b0 := nil_c (f := fun x => fdiv x 0x4000000000000000) (by decide +kernel) (by decide +kernel) a1
    rcases ordN_some hk with e | e | e | e | e
    · rw [e, if_neg (by decide), if_neg (by decide), if_neg (by decide)] at hr
      simp at hr; subst hr; simp at hv; subst hv; exact z0
    · rw [e, if_pos (by decide)] at hr
      simp at hr; subst hr; simp at hv; subst hv; exact a0
    · rw [e, if_neg (by decide), if_pos (by decide)] at hr
      simp at hr
      have r1 := nil_c (f := fun x => fdiv x 0x4008000000000000) (by decide +kernel) (by decide +kernel) a2
      rcases hr with rfl | rfl <;> simp at hv <;> rcases hv with rfl | rfl
      · exact r1
      · exact b0
      · exact b0
      · exact a0
    · rw [e, if_neg (by decide), if_neg (by decide), if_pos (by decide)] at hr
      simp at hr
      have a4 := nil_fmul a3 hw hf
      have r1 := nil_c (f := fun x => fdiv x 0x4034000000000000) (by decide +kernel) (by decide +kernel) a4
      have r2 := nil_c (f := fun x => fdiv x 0x4020000000000000) (by decide +kernel) (by decide +kernel) a3
      have r3 := nil_c (f := fun x => fdiv x 0x4018000000000000) (by decide +kernel) (by decide +kernel) a2
      have r4 := nil_c (f := fun x => fdiv x 0x4008000000000000) (by decide +kernel) (by decide +kernel) a2
      rcases hr with rfl | rfl | rfl
      · simp at hv
        rcases hv with rfl | rfl | rfl
        · exact r1
        · exact r2
        · exact r3
      · simp at hv
        rcases hv with rfl | rfl | rfl
        · exact r2
        · exact r4
        · exact b0
      · simp at hv
        rcases hv with rfl | rfl | rfl
        · exact r3
        · exact b0
        · exact a0
    · rw [e, if_pos (by decide)] at hr
      simp at hr; subst hr; simp at hv; subst hv; exact a0
/-! ## Noise -/
theorem lt2 {u : Nat} (h : u < 2) : u = 0 ∨ u = 1 := by omega
theorem lt3 {u : Nat} (h : u < 3) : u = 0 ∨ u = 1 ∨ u = 2 := by omega
theorem neq_zero : fcmp .neq 0 0 = false := by decide +kernel
theorem rb_rng {p : Prt} {d : Nat} (hk : 1 ≤ ordN p.k) (h : Rng p.n 100) (hd : Rng d 75) (hw : d < 2 ^ 64) : RB (rootB p d) (noiseB p d) (ordN p.k).toNat := by
  have ha' := (mul_apx h hd (by omega)).2
  have ha : Rng (fmul p.n d) 200 := by
    refine ⟨ha'.f, ha'.s, ?_, ?_⟩
    · exact Nat.le_trans ha'.lo (Nat.mul_le_mul_left _ (Nat.pow_le_pow_right (by omega) (by omega)))
    · exact Nat.le_trans ha'.hi (Nat.mul_le_mul_left _ (Nat.pow_le_pow_right (by omega) (by omega)))
  obtain ⟨s1, s2⟩ := sqrt_apx ha (by omega)
  have z0 : Nng 0 := nng_nil (.inl rfl)
  have A := nng_rng ha fmul_lt
  have S := nng_rng s2 fsqrt_lt
  obtain ⟨_, n1⟩ := mul_apx s2 hd (by omega)
  obtain ⟨_, m1⟩ := mul_apx ha hd (by omega)
  obtain ⟨_, m2⟩ := mul_apx m1 hd (by omega)
  have Bh := nng_rng (over_apx m1 c2 (by omega)).2 fdiv_lt
  rcases ordN_some hk with e | e | e | e | e
  · rw [show (ordN p.k).toNat = 1 by rw [e]; rfl]
    refine rb_nil (fun u w => ?_) (fun u w => ?_)
    · refine ent_all (P := Nil0) (fun r hr v hv => ?_) (.inl rfl) u w
      unfold rootB rtB at hr
      rw [e, if_neg (by decide), if_neg (by decide), if_neg (by decide)] at hr
      simp at hr; subst hr; simp at hv; subst hv; exact .inl rfl
    · refine ent_all (P := Nil0) (fun r hr v hv => ?_) (.inl rfl) u w
      unfold noiseB spB at hr
      rw [e, if_neg (by decide), if_neg (by decide), if_neg (by decide)] at hr
      simp at hr; subst hr; simp at hv; subst hv; exact .inl rfl
  all_goals skip
  · have eB : rootB p d = [[fsqrt (fmul p.n d)]] := by unfold rootB rtB; rw [e, if_pos (by decide)]
    have eC : noiseB p d = [[fmul p.n d]] := by unfold noiseB spB; rw [e, if_pos (by decide)]
    rw [eB, eC, show (ordN p.k).toNat = 1 by rw [e]; rfl]
    refine ⟨fun u w => ent_all (P := Nng) (fun r hr v hv => by simp at hr; subst hr; simp at hv; subst hv; exact S) z0 u w, fun u w => ent_all (P := Nng) (fun r hr v hv => by simp at hr; subst hr; simp at hv; subst hv; exact A) z0 u w, fun u w h => ?_, fun u w hu hw => ?_⟩
    · have : ent [[fsqrt (fmul p.n d)]] u w = 0 := by
        obtain ⟨w', rfl⟩ : ∃ w', w = w' + 1 := ⟨w - 1, by omega⟩
        cases u <;> simp [ent]
      rw [this]; exact neq_zero
    · obtain rfl : u = 0 := by omega
      obtain rfl : w = 0 := by omega
      simp only [dotN, ent, List.getD_cons_zero, Nat.zero_add]
      exact near_diag s1 (by omega)
  · obtain ⟨h1, h2, h3⟩ := spd_near ha hd
    obtain ⟨_, r2⟩ := root_apx c3 (by omega)
    obtain ⟨_, n2⟩ := mul_apx s2 r2 (by omega)
    have G0 := nng_rng (div_apx n1 r2 (by omega)).2 fdiv_lt
    have G1 := nng_rng (over_apx n2 c2 (by omega)).2 fdiv_lt
    have G2 := nng_rng (over_apx s2 c2 (by omega)).2 fdiv_lt
    have Q0 := nng_rng (over_apx m2 c3 (by omega)).2 fdiv_lt
    have eB : rootB p d = [[fdiv (fmul (fsqrt (fmul p.n d)) d) (fsqrt 0x4008000000000000), 0], [fdiv (fmul (fsqrt (fmul p.n d)) (fsqrt 0x4008000000000000)) 0x4000000000000000, fdiv (fsqrt (fmul p.n d)) 0x4000000000000000]] := by unfold rootB rtB; rw [e, if_neg (by decide), if_pos (by decide)]
    have eC : noiseB p d = [[fdiv (fmul (fmul (fmul p.n d) d) d) 0x4008000000000000, fdiv (fmul (fmul p.n d) d) 0x4000000000000000], [fdiv (fmul (fmul p.n d) d) 0x4000000000000000, fmul p.n d]] := by unfold noiseB spB; rw [e, if_neg (by decide), if_pos (by decide)]
    rw [eB, eC, show (ordN p.k).toNat = 2 by rw [e]; rfl]
    generalize fdiv (fmul (fsqrt (fmul p.n d)) d) (fsqrt 0x4008000000000000) = g0 at *
    generalize fdiv (fmul (fsqrt (fmul p.n d)) (fsqrt 0x4008000000000000)) 0x4000000000000000 = g1 at *
    generalize fdiv (fsqrt (fmul p.n d)) 0x4000000000000000 = g2 at *
    generalize fdiv (fmul (fmul (fmul p.n d) d) d) 0x4008000000000000 = q0 at *
    generalize fdiv (fmul (fmul p.n d) d) 0x4000000000000000 = q1 at *
    generalize fmul p.n d = q2 at *
    refine ⟨fun u w => ent_all (P := Nng) (fun r hr v hv => ?_) z0 u w, fun u w => ent_all (P := Nng) (fun r hr v hv => ?_) z0 u w, fun u w h => ?_, fun u w hu hw => ?_⟩
    · simp at hr
      rcases hr with rfl | rfl <;> simp at hv <;> rcases hv with rfl | rfl
      · exact G0
      · exact z0
      · exact G1
      · exact G2
    · simp at hr
      rcases hr with rfl | rfl <;> simp at hv <;> rcases hv with rfl | rfl
      · exact Q0
      · exact Bh
      · exact Bh
      · exact A
    · have : ent [[g0, 0], [g1, g2]] u w = 0 := by
        obtain ⟨w', rfl⟩ : ∃ w', w = w' + 1 := ⟨w - 1, by omega⟩
        match u, w' with
        | 0, 0 => rfl
        | 0, w' + 1 => simp [ent]
        | 1, 0 => omega
        | 1, w' + 1 => simp [ent]
        | u + 2, _ => simp [ent]
      rw [this]; exact neq_zero
    · rcases lt2 hu with rfl | rfl <;> rcases lt2 hw with rfl | rfl <;> simp only [dotN, ent, List.getD_cons_zero, List.getD_cons_succ, Nat.zero_add, vlu_zero, Nat.mul_zero, Nat.zero_mul, Nat.add_zero]
      · exact h1
      · exact h2
      · rw [Nat.mul_comm]; exact h2.flip
      · exact h3
  · obtain ⟨⟨h1, h2, h3⟩, h4, h5, h6⟩ := pul_near ha hd
    obtain ⟨_, r2⟩ := root_apx c20 (by omega)
    obtain ⟨_, t2⟩ := root_apx c48 (by omega)
    obtain ⟨_, n2⟩ := mul_apx n1 hd (by omega)
    obtain ⟨_, n3⟩ := mul_apx n1 r2 (by omega)
    obtain ⟨_, n5⟩ := mul_apx s2 r2 (by omega)
    obtain ⟨_, n6⟩ := mul_apx s2 t2 (by omega)
    obtain ⟨_, m3⟩ := mul_apx m2 hd (by omega)
    obtain ⟨_, m4⟩ := mul_apx m3 hd (by omega)
    have X0 := nng_rng (div_apx n2 r2 (by omega)).2 fdiv_lt
    have Y0 := nng_rng (over_apx n3 c8 (by omega)).2 fdiv_lt
    have Y1 := nng_rng (div_apx n1 t2 (by omega)).2 fdiv_lt
    have Z0 := nng_rng (over_apx n5 c6 (by omega)).2 fdiv_lt
    have Z1 := nng_rng (over_apx n6 c12 (by omega)).2 fdiv_lt
    have Z2 := nng_rng (over_apx s2 c3 (by omega)).2 fdiv_lt
    have Qg := nng_rng (over_apx m4 c20 (by omega)).2 fdiv_lt
    have Qf := nng_rng (over_apx m3 c8 (by omega)).2 fdiv_lt
    have Qc := nng_rng (over_apx m2 c6 (by omega)).2 fdiv_lt
    have Qe := nng_rng (over_apx m2 c3 (by omega)).2 fdiv_lt
    have eB : rootB p d = [[fdiv (fmul (fmul (fsqrt (fmul p.n d)) d) d) (fsqrt 0x4034000000000000), 0, 0], [fdiv (fmul (fmul (fsqrt (fmul p.n d)) d) (fsqrt 0x4034000000000000)) 0x4020000000000000, fdiv (fmul (fsqrt (fmul p.n d)) d) (fsqrt 0x4048000000000000), 0], [fdiv (fmul (fsqrt (fmul p.n d)) (fsqrt 0x4034000000000000)) 0x4018000000000000, fdiv (fmul (fsqrt (fmul p.n d)) (fsqrt 0x4048000000000000)) 0x4028000000000000, fdiv (fsqrt (fmul p.n d)) 0x4008000000000000]] := by unfold rootB rtB; rw [e, if_neg (by decide), if_neg (by decide), if_pos (by decide)]
    have eC : noiseB p d = [[fdiv (fmul (fmul (fmul (fmul (fmul p.n d) d) d) d) d) 0x4034000000000000, fdiv (fmul (fmul (fmul (fmul p.n d) d) d) d) 0x4020000000000000, fdiv (fmul (fmul (fmul p.n d) d) d) 0x4018000000000000], [fdiv (fmul (fmul (fmul (fmul p.n d) d) d) d) 0x4020000000000000, fdiv (fmul (fmul (fmul p.n d) d) d) 0x4008000000000000, fdiv (fmul (fmul p.n d) d) 0x4000000000000000], [fdiv (fmul (fmul (fmul p.n d) d) d) 0x4018000000000000, fdiv (fmul (fmul p.n d) d) 0x4000000000000000, fmul p.n d]] := by unfold noiseB spB; rw [e, if_neg (by decide), if_neg (by decide), if_pos (by decide)]
    rw [eB, eC, show (ordN p.k).toNat = 3 by rw [e]; rfl]
    generalize fdiv (fmul (fmul (fsqrt (fmul p.n d)) d) d) (fsqrt 0x4034000000000000) = x0 at *
    generalize fdiv (fmul (fmul (fsqrt (fmul p.n d)) d) (fsqrt 0x4034000000000000)) 0x4020000000000000 = y0 at *
    generalize fdiv (fmul (fsqrt (fmul p.n d)) d) (fsqrt 0x4048000000000000) = y1 at *
    generalize fdiv (fmul (fsqrt (fmul p.n d)) (fsqrt 0x4034000000000000)) 0x4018000000000000 = z0' at *
    generalize fdiv (fmul (fsqrt (fmul p.n d)) (fsqrt 0x4048000000000000)) 0x4028000000000000 = z1 at *
    generalize fdiv (fsqrt (fmul p.n d)) 0x4008000000000000 = z2 at *
    generalize fdiv (fmul (fmul (fmul (fmul (fmul p.n d) d) d) d) d) 0x4034000000000000 = qg at *
    generalize fdiv (fmul (fmul (fmul (fmul p.n d) d) d) d) 0x4020000000000000 = qf at *
    generalize fdiv (fmul (fmul (fmul p.n d) d) d) 0x4018000000000000 = qc at *
    generalize fdiv (fmul (fmul (fmul p.n d) d) d) 0x4008000000000000 = qe at *
    generalize fdiv (fmul (fmul p.n d) d) 0x4000000000000000 = qb at *
    generalize fmul p.n d = qa at *
    refine ⟨fun u w => ent_all (P := Nng) (fun r hr v hv => ?_) z0 u w, fun u w => ent_all (P := Nng) (fun r hr v hv => ?_) z0 u w, fun u w h => ?_, fun u w hu hw => ?_⟩
    · simp at hr
      rcases hr with rfl | rfl | rfl
      · simp at hv
        rcases hv with rfl | rfl | rfl
        · exact X0
        all_goals exact z0
      · simp at hv
        rcases hv with rfl | rfl | rfl
        · exact Y0
        · exact Y1
        · exact z0
      · simp at hv
        rcases hv with rfl | rfl | rfl
        · exact Z0
        · exact Z1
        · exact Z2
    · simp at hr
      rcases hr with rfl | rfl | rfl
      · simp at hv
        rcases hv with rfl | rfl | rfl
        · exact Qg
        · exact Qf
        · exact Qc
      · simp at hv
        rcases hv with rfl | rfl | rfl
        · exact Qf
        · exact Qe
        · exact Bh
      · simp at hv
        rcases hv with rfl | rfl | rfl
        · exact Qc
        · exact Bh
        · exact A
    · have : ent [[x0, 0, 0], [y0, y1, 0], [z0', z1, z2]] u w = 0 := by
        match u, w with
        | 0, 0 => omega
        | 0, 1 => rfl
        | 0, 2 => rfl
        | 1, 0 => omega
        | 1, 1 => omega
        | 1, 2 => rfl
        | 2, 0 => omega
        | 2, 1 => omega
        | 2, 2 => omega
        | 0, w + 3 => simp [ent]
        | 1, w + 3 => simp [ent]
        | 2, w + 3 => simp [ent]
        | u + 3, _ => simp [ent]
      rw [this]; exact neq_zero
    · rcases lt3 hu with rfl | rfl | rfl <;> rcases lt3 hw with rfl | rfl | rfl <;> simp only [dotN, ent, List.getD_cons_zero, List.getD_cons_succ, Nat.zero_add, vlu_zero, Nat.mul_zero, Nat.zero_mul, Nat.add_zero]
      · exact h1
      · exact h2
      · exact h3
      · rw [Nat.mul_comm]; exact h2.flip
      · exact h4
      · exact h5
      · rw [Nat.mul_comm]; exact h3.flip
      · rw [Nat.mul_comm, Nat.mul_comm (vlu z1)]; exact h5.flip
      · exact h6
  · have eB : rootB p d = [[fsqrt (fmul p.n d)]] := by unfold rootB rtB; rw [e, if_pos (by decide)]
    have eC : noiseB p d = [[fmul p.n d]] := by unfold noiseB spB; rw [e, if_pos (by decide)]
    rw [eB, eC, show (ordN p.k).toNat = 1 by rw [e]; rfl]
    refine ⟨fun u w => ent_all (P := Nng) (fun r hr v hv => by simp at hr; subst hr; simp at hv; subst hv; exact S) z0 u w, fun u w => ent_all (P := Nng) (fun r hr v hv => by simp at hr; subst hr; simp at hv; subst hv; exact A) z0 u w, fun u w h => ?_, fun u w hu hw => ?_⟩
    · have : ent [[fsqrt (fmul p.n d)]] u w = 0 := by
        obtain ⟨w', rfl⟩ : ∃ w', w = w' + 1 := ⟨w - 1, by omega⟩
        cases u <;> simp [ent]
      rw [this]; exact neq_zero
    · obtain rfl : u = 0 := by omega
      obtain rfl : w = 0 := by omega
      simp only [dotN, ent, List.getD_cons_zero, Nat.zero_add]
      exact near_diag s1 (by omega)
end Go.Bn
namespace Go.Bn
open Go
/-! ## Times -/
theorem c1m : Cst 0x412e848000000000 1000000 20 := cst_of (by decide) (by decide) (by decide) (by decide) (by decide) (by decide)
theorem time_rng {t : Int} (h1 : 1 ≤ t) (h2 : t ≤ 1125899906842624) : Rng (secR t).a 75 ∧ (secR t).a < 2 ^ 64 := by
  have e : (secR t).a = fdiv (FloatKind.f64.nearest t) 0x412e848000000000 := by unfold secR; rw [if_neg (by omega)]
  obtain ⟨n, rfl⟩ : ∃ n : Nat, t = n := ⟨t.toNat, by omega⟩
  have e2 : FloatKind.f64.nearest (n : Int) = Ieee.double.nearest false n 0 := by
    have h : decide ((n : Int) < 0) = false := by simp
    show Ieee.double.nearest (decide ((n : Int) < 0)) (n : Int).natAbs 0 = _
    rw [h]; rfl
  have hP := pz_pos
  obtain ⟨N, hN⟩ : ∃ N, N = 2 * NZ := ⟨_, rfl⟩
  have hN2 : N = 2148 := by rw [hN, nz]
  have eN : 2 ^ ((0 : Int) + (N : Int)).toNat = PZ * PZ := by
    rw [show ((0 : Int) + (N : Int)).toNat = NZ + NZ by omega, Nat.pow_add, ← pz_def]
  have hf : rung (Ieee.double.nearest false n 0) < 9218868437227405312 := by
    refine nearest_fin (N := N) (by omega) ?_
    obtain ⟨e9, he9⟩ : ∃ e : Nat, e = 1023 := ⟨_, rfl⟩
    rw [eN, show N + 1023 = NZ + (NZ + e9) by omega, Nat.pow_add, Nat.pow_add 2 NZ, ← pz_def, Nat.mul_comm n, Nat.mul_assoc]
    refine Nat.mul_lt_mul_of_pos_left (Nat.mul_lt_mul_of_pos_left ?_ hP) hP
    refine Nat.lt_of_lt_of_le (show n < 2 ^ 51 by omega) (Nat.pow_le_pow_right (by omega) (by omega))
  have hb : 4503599627370496 * 2 ^ (N - 1074) ≤ n * 2 ^ ((0 : Int) + (N : Int)).toNat := by
    rw [eN, pz_at hN, ← Nat.mul_assoc]
    refine Nat.mul_le_mul_right _ ?_
    have g1 : 2 ^ 52 ≤ PZ := pz_ge (by rw [nz]; omega)
    rw [pow52] at g1
    exact Nat.le_trans g1 (Nat.le_mul_of_pos_left _ (by omega))
  have ha := nearest_apx (s := false) (n := n) (N := N) (p := 0) (by omega) (by omega) hf hb
  rw [eN, pz_at hN, ← Nat.mul_assoc] at ha
  obtain ⟨a1, a2⟩ := (ha.cancel hP).two
  have hr : Rng (Ieee.double.nearest false n 0) 51 := by
    refine ⟨hf, nearest_pos, ?_, ?_⟩
    · refine Nat.le_trans (Nat.le_mul_of_pos_left PZ (show 0 < n by omega)) (Nat.le_trans a2 ?_)
      rw [Nat.mul_comm]
      exact Nat.mul_le_mul_left _ (by decide)
    · refine Nat.le_trans a1 ?_
      rw [← Nat.mul_assoc, Nat.mul_comm]
      exact Nat.mul_le_mul_left _ (by omega)
  have h3 := (div_apx hr c1m.r (by omega)).2
  rw [e, e2]
  refine ⟨⟨h3.f, h3.s, ?_, ?_⟩, fdiv_lt⟩
  · exact Nat.le_trans h3.lo (Nat.mul_le_mul_left _ (Nat.pow_le_pow_right (by omega) (by omega)))
  · exact Nat.le_trans h3.hi (Nat.mul_le_mul_left _ (Nat.pow_le_pow_right (by omega) (by omega)))
/-! ## Rows -/
theorem fold_sum {x y : Nat → Int} {a b : Nat → Nat} {f L n : Nat} (hL : f + L ≤ n) (hi : ∀ l, l < L → x (f + l) = (vlu (a l) : Int) ∧ y (f + l) = (vlu (b l) : Int)) (ho : ∀ r, r < n → (r < f ∨ f + L ≤ r) → x r = 0) (g : Nat → Int) (g0 : g 0 = 0) (gs : ∀ r, g (r + 1) = g r + x r * y r) : g n = (dotN a b L : Int) := by
  have key : ∀ r, r ≤ n → g r = (dotN a b (min (r - f) L) : Int) := by
    intro r
    induction r with
    | zero => intro _; rw [g0, show min (0 - f) L = 0 by omega]; rfl
    | succ r ih =>
      intro hr
      rw [gs, ih (by omega)]
      by_cases hin : r < f ∨ f + L ≤ r
      · rw [ho r (by omega) hin, Int.zero_mul, Int.add_zero, show min (r + 1 - f) L = min (r - f) L by omega]
      · obtain ⟨h1, h2⟩ := hi (r - f) (by omega)
        rw [show f + (r - f) = r by omega] at h1 h2
        rw [h1, h2, show min (r + 1 - f) L = (r - f) + 1 by omega, show min (r - f) L = r - f by omega, dotN, Int.natCast_add, Int.natCast_mul]
  rw [key n (Nat.le_refl _), show min (n - f) L = L by omega]
theorem blk_le {ps : List Prt} {k q : Nat} (hg : PrtTo ps ps.length) (h1 : k < ps.length) (h2 : (q : Int) < (ps.getD k prtD).a) : tot ps k ≤ tot ps k + (q : Int) * ordN (ps.getD k prtD).k ∧ tot ps k + (q : Int) * ordN (ps.getD k prtD).k + ordN (ps.getD k prtD).k ≤ tot ps (k + 1) := by
  have h3 := Int.mul_nonneg (show (0 : Int) ≤ q by omega) (ordN_rng (ps.getD k prtD).k).1
  have h7 : ((q : Int) + 1) * ordN (ps.getD k prtD).k ≤ (ps.getD k prtD).a * ordN (ps.getD k prtD).k := Int.mul_le_mul_of_nonneg_right (by omega) (ordN_rng _).1
  rw [Int.add_mul, Int.one_mul] at h7
  rw [tot]
  omega
theorem blk_one {ps : List Prt} {k k' q q' : Nat} (hg : PrtTo ps ps.length) (h1 : k < ps.length) (g1 : k' < ps.length) (h2 : (q : Int) < (ps.getD k prtD).a) (g2 : (q' : Int) < (ps.getD k' prtD).a) {x : Int} (a1 : tot ps k + (q : Int) * ordN (ps.getD k prtD).k ≤ x) (a2 : x < tot ps k + (q : Int) * ordN (ps.getD k prtD).k + ordN (ps.getD k prtD).k)
    (b1 : tot ps k' + (q' : Int) * ordN (ps.getD k' prtD).k ≤ x) (b2 : x < tot ps k' + (q' : Int) * ordN (ps.getD k' prtD).k + ordN (ps.getD k' prtD).k) : k = k' ∧ q = q' := by
  obtain ⟨c1, c2⟩ := blk_le hg h1 h2
  obtain ⟨d1, d2⟩ := blk_le hg g1 g2
  have hk : k = k' := by
    rcases Nat.lt_trichotomy k k' with h | h | h
    · have := tot_mono (ps := ps) (k := k + 1) (m := k') (by omega) fun q hq => hg q (by omega)
      omega
    · exact h
    · have := tot_mono (ps := ps) (k := k' + 1) (m := k) (by omega) fun q hq => hg q (by omega)
      omega
  subst hk
  refine ⟨rfl, ?_⟩
  have h0 := (ordN_rng (ps.getD k prtD).k).1
  generalize ordN (ps.getD k prtD).k = L at *
  rcases Nat.lt_trichotomy q q' with h | h | h
  · have : ((q : Int) + 1) * L ≤ (q' : Int) * L := Int.mul_le_mul_of_nonneg_right (by omega) h0
    rw [Int.add_mul, Int.one_mul] at this
    omega
  · exact h
  · have : ((q' : Int) + 1) * L ≤ (q : Int) * L := Int.mul_le_mul_of_nonneg_right (by omega) h0
    rw [Int.add_mul, Int.one_mul] at this
    omega
/-- Each noise is nought or loud enough; time goes on. -/
structure RL (ps : List Prt) (d : Nat) : Prop where
  b : ∀ k, k < ps.length → RB (rootB (ps.getD k prtD) d) (noiseB (ps.getD k prtD) d) (ordN (ps.getD k prtD).k).toNat
/-- What the law asks of two places. -/
structure RQ (n : Int) (G Q : List Nat) (i j : Int) : Prop where
  z : i < j → fcmp .neq (mat n G i j) 0 = false
  x : ∃ X : Nat, sumV (rowL n G i) (rowL n G j) n.toNat = (X : Int) ∧ NearQ X (vlu (mat n Q i j)) (vlu (mat n Q i i)) (vlu (mat n Q j j))
section
variable {ps : List Prt} {n : Int} {d : Nat}
theorem root_nng (hr : RL ps d) (hg : PrtTo ps ps.length) (hn : Siz n n) (ht : tot ps ps.length = n) {x y : Int} (hp : Pl n n x y) : Nng (mat n (layP rootB d ps n ps.length) x y) :=
  lay_all (P := Nng) rootB_ok hg hn ht (nng_nil (.inl rfl)) (fun k hk u w => (hr.b k hk).g u w) hp
theorem noise_nng (hr : RL ps d) (hg : PrtTo ps ps.length) (hn : Siz n n) (ht : tot ps ps.length = n) {x y : Int} (hp : Pl n n x y) : Nng (mat n (layP noiseB d ps n ps.length) x y) :=
  lay_all (P := Nng) noiseB_ok hg hn ht (nng_nil (.inl rfl)) (fun k hk u w => (hr.b k hk).q u w) hp
theorem sumV_row {G : List Nat} {i j : Int} (g : Nat → Int) (h : ∀ r : Nat, (r : Int) < n → g r = sval (mat n G i r) * sval (mat n G j r)) : ∀ k : Nat, k ≤ n.toNat → sumV (rowL n G i) (rowL n G j) k = (fun k => Nat.rec (motive := fun _ => Int) 0 (fun r s => s + g r) k) k
  | 0, _ => rfl
  | k + 1, hk => by
    rw [sumV, sumV_row g h k (by omega), getD_rowL (by omega), getD_rowL (by omega)]
    show _ + _ = _ + g k
    rw [h k (by omega)]
theorem roots_at (hr : RL ps d) (hg : PrtTo ps ps.length) (hn : Siz n n) (ht : tot ps ps.length = n) {i j : Int} (hp : Pl n n i j) : RQ n (layP rootB d ps n ps.length) (layP noiseB d ps n ps.length) i j := by
  obtain ⟨k, q, h1, h2, h3, h4⟩ := blk_of hp.1 (show i < tot ps ps.length by rw [ht]; exact hp.2.1) hg
  have hin := ax_in hg (by rw [ht]; exact hn.2.1) h1 h2
  have A := fun (y : Int) (hy : Pl n n i y) => layP_at (g := rootB) (d := d) rootB_ok hg hn ht h2 h1 (Nat.le_refl _) hy h3 h4
  have C := fun (y : Int) (hy : Pl n n i y) => layP_at (g := noiseB) (d := d) noiseB_ok hg hn ht h2 h1 (Nat.le_refl _) hy h3 h4
  have Aj := fun (x y : Int) (hy : Pl n n x y) => layP_at (g := rootB) (d := d) (x := x) (y := y) rootB_ok hg hn ht h2 h1 (Nat.le_refl _) hy
  have Cj := fun (x y : Int) (hy : Pl n n x y) => layP_at (g := noiseB) (d := d) (x := x) (y := y) noiseB_ok hg hn ht h2 h1 (Nat.le_refl _) hy
  have hb := hr.b k h1
  have N := fun (x y : Int) (hy : Pl n n x y) => root_nng hr hg hn ht hy
  obtain ⟨L, hL⟩ : ∃ L : Nat, (L : Int) = ordN (ps.getD k prtD).k := ⟨(ordN (ps.getD k prtD).k).toNat, by omega⟩
  rw [show (ordN (ps.getD k prtD).k).toNat = L by omega] at hb
  rw [← hL] at A C Aj Cj hin h3 h4
  rw [ht] at hin
  obtain ⟨f, hfr⟩ : ∃ f : Nat, (f : Int) = tot ps k + (q : Int) * (L : Int) := ⟨(tot ps k + (q : Int) * (L : Int)).toNat, by omega⟩
  rw [← hfr] at A C Aj Cj hin h3 h4
  obtain ⟨p1, p2, p3, p4⟩ := hp
  generalize rootB (ps.getD k prtD) d = B at *
  generalize noiseB (ps.getD k prtD) d = E at *
  -- a place beside the block holds nought in the block's columns
  have out : ∀ r : Int, (f : Int) ≤ r → r < (f : Int) + (L : Int) → ¬ ((f : Int) ≤ j ∧ j < (f : Int) + (L : Int)) → mat n (layP rootB d ps n ps.length) j r = 0 := by
    intro r r1 r2 hj
    obtain ⟨k', q', g1, g2, g3, g4⟩ := blk_of p3 (show j < tot ps ps.length by rw [ht]; exact p4) hg
    have hin' := ax_in hg (by rw [ht]; exact hn.2.1) g1 g2
    rw [layP_at (g := rootB) (d := d) rootB_ok hg hn ht g2 g1 (Nat.le_refl _) ⟨p3, p4, by omega, by omega⟩ g3 g4]
    rw [if_neg]
    intro ⟨e1, e2⟩
    -- r lies in both blocks: then both are one
    have := blk_one hg h1 g1 h2 g2 (x := r) (by rw [← hL, ← hfr]; exact r1) (by rw [← hL, ← hfr]; exact r2) e1 e2
    obtain ⟨rfl, rfl⟩ := this
    rw [← hL, ← hfr] at g3 g4
    exact hj ⟨g3, g4⟩
  constructor
  · intro hij
    rw [A j ⟨p1, p2, p3, p4⟩]
    split
    · rename_i hj
      exact hb.z _ _ (by omega)
    · exact neq_zero
  · have sumE := sumV_row (n := n) (G := layP rootB d ps n ps.length) (i := i) (j := j) (fun r => sval (mat n (layP rootB d ps n ps.length) i r) * sval (mat n (layP rootB d ps n ps.length) j r)) (fun r _ => rfl) n.toNat (Nat.le_refl _)
    by_cases hj : (f : Int) ≤ j ∧ j < (f : Int) + (L : Int)
    · have hx := hb.x (i - (f : Int)).toNat (j - (f : Int)).toNat (by omega) (by omega)
      refine ⟨dotN (ent B (i - (f : Int)).toNat) (ent B (j - (f : Int)).toNat) L, ?_, ?_⟩
      · rw [sumE]
        refine fold_sum (f := f) (L := L) (x := fun r => sval (mat n (layP rootB d ps n ps.length) i r)) (y := fun r => sval (mat n (layP rootB d ps n ps.length) j r)) (by omega) (fun l hl => ?_) (fun r hrr ho => ?_) _ rfl (fun r => rfl)
        · have a1 : Pl n n i ((f + l : Nat) : Int) := ⟨p1, p2, by omega, by omega⟩
          have a2 : Pl n n j ((f + l : Nat) : Int) := ⟨p3, p4, by omega, by omega⟩
          constructor
          · show sval (mat n _ i ((f + l : Nat) : Int)) = _
            rw [(N _ _ a1).val, A _ a1, if_pos (by omega), show (((f + l : Nat) : Int) - (f : Int)).toNat = l by omega]
            rfl
          · show sval (mat n _ j ((f + l : Nat) : Int)) = _
            rw [(N _ _ a2).val, Aj _ _ a2 (by omega) (by omega), if_pos (by omega), show (((f + l : Nat) : Int) - (f : Int)).toNat = l by omega]
            rfl
        · show sval (mat n _ i ((r : Nat) : Int)) = 0
          rw [A _ ⟨p1, p2, by omega, by omega⟩, if_neg (by omega)]
          exact sval_zero
      · rw [C j ⟨p1, p2, p3, p4⟩, if_pos hj, C i ⟨p1, p2, p1, p2⟩, if_pos (by omega), Cj j j ⟨p3, p4, p3, p4⟩ (by omega) (by omega), if_pos hj]
        exact hx
    · refine ⟨0, ?_, ?_⟩
      · rw [sumE]
        have := fold_sum (f := f) (L := L) (n := n.toNat) (a := ent B (i - (f : Int)).toNat) (b := fun _ => 0) (x := fun r => sval (mat n (layP rootB d ps n ps.length) i r)) (y := fun r => sval (mat n (layP rootB d ps n ps.length) j r)) (by omega) (fun l hl => by
          have a1 : Pl n n i ((f + l : Nat) : Int) := ⟨p1, p2, by omega, by omega⟩
          constructor
          · show sval (mat n _ i ((f + l : Nat) : Int)) = _
            rw [(N _ _ a1).val, A _ a1, if_pos (by omega), show (((f + l : Nat) : Int) - (f : Int)).toNat = l by omega]
            rfl
          · show sval (mat n _ j ((f + l : Nat) : Int)) = _
            rw [out _ (by omega) (by omega) hj]
            rfl) (fun r hrr ho => by
          show sval (mat n _ i ((r : Nat) : Int)) = 0
          rw [A _ ⟨p1, p2, by omega, by omega⟩, if_neg (by omega)]
          exact sval_zero) (fun k => Nat.rec (motive := fun _ => Int) 0 (fun r s => s + sval (mat n (layP rootB d ps n ps.length) i r) * sval (mat n (layP rootB d ps n ps.length) j r)) k) rfl (fun r => rfl)
        rw [dotN_nil (fun l => .inr vlu_zero)] at this
        exact this
      · rw [C j ⟨p1, p2, p3, p4⟩, if_neg hj, vlu_zero]
        exact nearQ_nil
end
end Go.Bn
namespace Go.Bn
open Go
theorem tt_sq : TT * TT = 4 * 4951760157141521099596496896 := by decide
theorem near_room {X q qi qj : Nat} (h : NearQ X q qi qj) : (((X : Int) - ((q * PZ : Nat) : Int)) * ((X : Int) - ((q * PZ : Nat) : Int))) * 4951760157141521099596496896 ≤ ((qi * qj * (PZ * PZ) : Nat) : Int) := by
  obtain ⟨h1, h2⟩ := apx_close h.a (by omega)
  have hb := Nat.mul_le_mul_right (PZ * PZ) h.b
  rw [mul4] at hb
  generalize hY : q * PZ = Y at *
  obtain ⟨D, hD⟩ : ∃ D, D = ((X : Int) - (Y : Int)).natAbs := ⟨_, rfl⟩
  have h3 : D * TT ≤ Y := by
    rw [Nat.mul_add, Nat.mul_one] at h1
    have hT : TT = (TT - 1) + 1 := by decide
    rw [Nat.mul_sub, Nat.mul_one] at h2
    have hYT : Y ≤ Y * TT := Nat.le_mul_of_pos_right _ (by decide)
    by_cases c : Y ≤ X
    · have : D + Y = X := by omega
      rw [← this, Nat.add_mul] at h1
      omega
    · have : D + X = Y := by omega
      have e : D * TT + X * TT = Y * TT := by rw [← Nat.add_mul, this]
      omega
  have h4 := Nat.mul_le_mul h3 h3
  rw [mul4, tt_sq] at h4
  have h5 := Nat.le_trans h4 hb
  have e1 : ((D * D : Nat) : Int) = ((X : Int) - (Y : Int)) * ((X : Int) - (Y : Int)) := by rw [hD]; exact Int.natAbs_mul_self
  rw [← e1]
  rw [← Nat.mul_assoc, Nat.mul_comm (D * D) 4, Nat.mul_assoc 4, Nat.mul_assoc 4] at h5
  have h6 := Nat.le_of_mul_le_mul_left h5 (by omega)
  generalize D * D = S at *
  generalize qi * qj * (PZ * PZ) = T at *
  omega
theorem xv_up {E F : Nat} {x : Exa} (h : -(E : Int) ≤ x.e) : xv (E + F) x = xv E x * 2 ^ F := by
  unfold xv
  rw [show (x.e + ((E + F : Nat) : Int)).toNat = (x.e + E).toNat + F by omega, Int.pow_add, Int.mul_assoc]
theorem pz_int : (PZ : Int) = 2 ^ NZ := by rw [pz_def]; exact Int.natCast_pow 2 NZ
theorem sml_xv {E : Nat} {x : Exa} {e : Int} (h0 : -(E : Int) ≤ e) (h : ((xv E x).natAbs : Int) < wpw 4000) : Sml (x.low e).m := by
  rw [← xv_low (x := x) h0] at h
  refine ⟨Int.lt_of_le_of_lt ?_ h⟩
  unfold xv
  have h1 := pow_one_le ((x.low e).e + E).toNat
  rw [Int.natAbs_mul, Int.natCast_mul]
  have := Int.mul_le_mul_of_nonneg_left (show (1 : Int) ≤ (((2 : Int) ^ ((x.low e).e + E).toNat).natAbs : Int) by omega) (show (0 : Int) ≤ ((x.low e).m.natAbs : Int) by omega)
  omega
theorem scl_xv (x : Exa) : sclI x = ((xv 2148 x).natAbs : Int) := by
  have h1 := pow_one_le (x.e + 2148).toNat
  unfold sclI xv
  rw [Int.natAbs_mul, Int.natCast_mul]
  congr 1
theorem exq_of {x : Nat} (hf : finB x = true) (hx : x < 2 ^ 64) : Exq (ofX x) 1 := by
  obtain ⟨a1, a2⟩ := ofX_e hf hx
  have c1 := ofX_small x
  refine ⟨by omega, by omega, ?_⟩
  have h2 : (9007199254740992 : Int) ≤ wpw 2 := by decide +kernel
  have h3 : (2 : Int) ^ ((ofX x).e + 2148).toNat ≤ wpw 132 := pow_le_wpw (by omega)
  have h4 := Int.mul_le_mul (show ((ofX x).m.natAbs : Int) ≤ wpw 2 by omega) h3 (by have := pow_one_le ((ofX x).e + 2148).toNat; omega) (by have := wpw_pos 2; omega)
  rw [← wpw_add] at h4
  have h5 := wpw_mono (show 2 + 132 ≤ 140 by omega)
  unfold sclI
  omega
theorem exq_neg {x : Exa} {k : Nat} (h : Exq x k) : Exq x.neg k := ⟨h.e0, h.e1, by
  have := h.hb
  unfold sclI at this ⊢
  show ((-x.m).natAbs : Int) * 2 ^ (x.e + 2148).toNat ≤ _
  rw [Int.natAbs_neg]
  exact this⟩
def rD (xs ys : List Nat) (q : Nat) : Exa := (dotX xs ys xs.length).add (ofX q).neg
def pwX : Exa := ⟨1, -92⟩
def rR (qi qj : Nat) : Exa := ((ofX qi).mul (ofX qj)).mul pwX
/-- All that the law comes by is small; and so it answers. -/
structure RS (xs ys : List Nat) (q qi qj : Nat) : Prop where
  hD : DotB xs ys
  f : finB q = true
  fi : finB qi = true
  fj : finB qj = true
  bq : Exb (ofX q)
  bi : Exb (ofX qi)
  bj : Exb (ofX qj)
  bn : Exb (ofX q).neg
  bd : Exb (dotX xs ys xs.length)
  ba : ∀ e, e = min (dotX xs ys xs.length).e (ofX q).neg.e → Sml ((dotX xs ys xs.length).low e).m ∧ Sml ((ofX q).neg.low e).m
  bD : Exb (rD xs ys q)
  bij : Exb ((ofX qi).mul (ofX qj))
  bp : Exb pwX
  bR : Exb (rR qi qj)
  bDD : Exb ((rD xs ys q).mul (rD xs ys q))
  bRn : Exb (rR qi qj).neg
  bl : ∀ e, e = min ((rD xs ys q).mul (rD xs ys q)).e (rR qi qj).neg.e → Sml (((rD xs ys q).mul (rD xs ys q)).low e).m ∧ Sml ((rR qi qj).neg.low e).m
  law : ¬ 0 < ((rD xs ys q).mul (rD xs ys q)).cmp (rR qi qj)
theorem pw_val : xv 2148 pwX * 4951760157141521099596496896 = (PZ : Int) * (PZ : Int) := by
  have h1 : xv 2148 pwX = 2 ^ (NZ + NZ - 92) := by
    unfold xv pwX
    rw [Int.one_mul]
    rw [show ((-92 : Int) + ((2148 : Nat) : Int)).toNat = NZ + NZ - 92 by rw [nz]; omega]
  have h2 : (4951760157141521099596496896 : Int) = 2 ^ 92 := by decide
  rw [h1, h2, ← Int.pow_add, pz_int, ← Int.pow_add]
  congr 1
theorem pw_le : 0 ≤ xv 2148 pwX ∧ xv 2148 pwX ≤ wpw 65 := by
  have h1 : xv 2148 pwX = 2 ^ (NZ + NZ - 92) := by
    unfold xv pwX
    rw [Int.one_mul]
    rw [show ((-92 : Int) + ((2148 : Nat) : Int)).toNat = NZ + NZ - 92 by rw [nz]; omega]
  rw [h1]
  exact ⟨by have := pow_one_le (NZ + NZ - 92); omega, pow_le_wpw (by rw [nz]; omega)⟩
theorem abs_mul_le {a b A B : Int} (ha : (a.natAbs : Int) ≤ A) (hb : (b.natAbs : Int) ≤ B) : ((a * b).natAbs : Int) ≤ A * B := by
  rw [Int.natAbs_mul, Int.natCast_mul]
  exact Int.mul_le_mul ha hb (by omega) (by omega)
theorem low_e {x : Exa} : x.low x.e = x := low_self x
theorem rs_of {xs ys : List Nat} {q qi qj X : Nat} (hl : xs.length ≤ ys.length) (h9 : xs.length ≤ 900) (hx : ∀ k, k < xs.length → finB (xs.getD k 0) = true ∧ xs.getD k 0 < 2 ^ 64) (hy : ∀ k, k < xs.length → finB (ys.getD k 0) = true ∧ ys.getD k 0 < 2 ^ 64)
    (nq : Nng q) (ni : Nng qi) (nj : Nng qj) (hX : sumV xs ys xs.length = (X : Int)) (hN : NearQ X (vlu q) (vlu qi) (vlu qj)) : RS xs ys q qi qj := by
  have hdq := dotX_exq hx hy (Nat.le_refl xs.length)
  have hqq := exq_neg (exq_of nq.fin nq.w)
  have hDq : Exq (rD xs ys q) (xs.length + 1) := exq_add hdq hqq
  have hij := exq_mul ni.fin ni.w nj.fin nj.w
  obtain ⟨w0, w1⟩ := pw_le
  have g140 := wpw_pos 140
  -- values
  have vD : xv 2148 (rD xs ys q) = (X : Int) - ((vlu q * PZ : Nat) : Int) := by
    have h1 := hdq.e0
    have h2 := hqq.e0
    unfold rD
    rw [xv_add h1 h2, xv_dot hx hy (Nat.le_refl _), hX, xv_neg]
    have h3 := xv_up (E := 1074) (F := NZ) (x := ofX q) (ofX_e nq.fin nq.w).1
    rw [xv_of, nq.val, ← pz_int, show 1074 + NZ = 2148 by rw [nz]] at h3
    rw [h3, Int.natCast_mul]
    omega
  have vDD : xv (2148 + 2148) ((rD xs ys q).mul (rD xs ys q)) = ((X : Int) - ((vlu q * PZ : Nat) : Int)) * ((X : Int) - ((vlu q * PZ : Nat) : Int)) := by
    rw [xv_mul (E := 2148) (F := 2148) hDq.e0 hDq.e0, vD]
  have vij : xv 2148 ((ofX qi).mul (ofX qj)) = (vlu qi : Int) * (vlu qj : Int) := by
    have h5 := xv_mul (E := 1074) (F := 1074) (x := ofX qi) (y := ofX qj) (ofX_e ni.fin ni.w).1 (ofX_e nj.fin nj.w).1
    rw [xv_of, xv_of, ni.val, nj.val] at h5
    exact h5
  have vR : xv (2148 + 2148) (rR qi qj) = (vlu qi : Int) * (vlu qj : Int) * xv 2148 pwX := by
    unfold rR
    rw [xv_mul (E := 2148) (F := 2148) hij.e0 (show -((2148 : Nat) : Int) ≤ pwX.e by decide), vij]
  -- bounds
  have bD1 : ((xv 2148 (rD xs ys q)).natAbs : Int) ≤ wpw 141 := by
    rw [← scl_xv]
    have h1 : (1000 : Int) < wpw 1 := by decide +kernel
    have h2 := hDq.hb
    have h3 : wpw 1 * wpw 140 = wpw 141 := (wpw_add 1 140).symm
    have h4 : ((xs.length + 1 : Nat) : Int) * wpw 140 ≤ wpw 1 * wpw 140 := Int.mul_le_mul_of_nonneg_right (by omega) (by omega)
    omega
  have bDD1 : ((xv (2148 + 2148) ((rD xs ys q).mul (rD xs ys q))).natAbs : Int) < wpw 4000 := by
    rw [xv_mul (E := 2148) (F := 2148) hDq.e0 hDq.e0]
    have h1 := abs_mul_le bD1 bD1
    rw [← wpw_add] at h1
    have h2 := wpw_mono (show 1 + (141 + 141) ≤ 4000 by omega)
    rw [wpw_add] at h2
    have h3 : (1000 : Int) < wpw 1 := by decide +kernel
    have h4 := Int.mul_lt_mul_of_pos_right h3 (wpw_pos (141 + 141))
    have h5 := wpw_pos (141 + 141)
    omega
  have bR1 : ((xv (2148 + 2148) (rR qi qj)).natAbs : Int) < wpw 4000 := by
    unfold rR
    rw [xv_mul (E := 2148) (F := 2148) hij.e0 (show -((2148 : Nat) : Int) ≤ pwX.e by decide)]
    have h0 := hij.hb
    rw [scl_xv] at h0
    have h1 := abs_mul_le (show ((xv 2148 ((ofX qi).mul (ofX qj))).natAbs : Int) ≤ wpw 140 by omega) (show ((xv 2148 pwX).natAbs : Int) ≤ wpw 65 by omega)
    rw [← wpw_add] at h1
    have h2 := wpw_mono (show 1 + (140 + 65) ≤ 4000 by omega)
    rw [wpw_add] at h2
    have h3 : (1000 : Int) < wpw 1 := by decide +kernel
    have h4 := Int.mul_lt_mul_of_pos_right h3 (wpw_pos (140 + 65))
    have h5 := wpw_pos (140 + 65)
    omega
  have bRn1 : ((xv (2148 + 2148) (rR qi qj).neg).natAbs : Int) < wpw 4000 := by rw [xv_neg, Int.natAbs_neg]; exact bR1
  have eD0 := hDq.e0
  have eD1 := hDq.e1
  have eDD : ((rD xs ys q).mul (rD xs ys q)).e = (rD xs ys q).e + (rD xs ys q).e := rfl
  have eij := hij.e0
  have eij1 := hij.e1
  have eR : (rR qi qj).e = ((ofX qi).mul (ofX qj)).e + -92 := rfl
  have eRn : (rR qi qj).neg.e = (rR qi qj).e := rfl
  have sDD : ∀ e, -((2148 + 2148 : Nat) : Int) ≤ e → Sml (((rD xs ys q).mul (rD xs ys q)).low e).m := fun e he => sml_xv he bDD1
  have sR : ∀ e, -((2148 + 2148 : Nat) : Int) ≤ e → Sml ((rR qi qj).low e).m := fun e he => sml_xv he bR1
  have sRn : ∀ e, -((2148 + 2148 : Nat) : Int) ≤ e → Sml ((rR qi qj).neg.low e).m := fun e he => sml_xv he bRn1
  refine ⟨dotB_of hl h9 hx hy, nq.fin, ni.fin, nj.fin, ofX_exb nq.fin nq.w, ofX_exb ni.fin ni.w, ofX_exb nj.fin nj.w, exq_exb hqq (by omega), exq_exb hdq (by omega), fun e he => ?_, exq_exb hDq (by omega), exq_exb hij (by omega), ⟨⟨?_⟩, by decide, by decide⟩, ?_, ?_, ?_, fun e he => ?_, ?_⟩
  · have h1 := hdq.e0
    have h2 := hqq.e0
    exact ⟨exq_sml hdq (by omega) (by omega), exq_sml hqq (by omega) (by omega)⟩
  · have h1 : (1000 : Int) < wpw 1 := by decide +kernel
    have h3 := wpw_mono (show 1 ≤ 4000 by omega)
    show (((1 : Int).natAbs : Nat) : Int) < _
    omega
  · have := sR (rR qi qj).e (by omega)
    rw [low_e] at this
    exact ⟨this, by omega, by omega⟩
  · have := sDD ((rD xs ys q).mul (rD xs ys q)).e (by omega)
    rw [low_e] at this
    exact ⟨this, by omega, by omega⟩
  · have := sRn (rR qi qj).neg.e (by omega)
    rw [low_e] at this
    exact ⟨this, by omega, by omega⟩
  · exact ⟨sDD e (by omega), sRn e (by omega)⟩
  · refine cmp_le (E := 2148 + 2148) (by omega) (by omega) ?_
    rw [vDD, vR]
    have h1 := near_room hN
    simp only [Int.natCast_mul] at h1 ⊢
    rw [← pw_val, ← Int.mul_assoc] at h1
    exact Int.le_of_mul_le_mul_right h1 (by decide)
end Go.Bn
namespace Go.Bn
open Go
theorem blkM_fin {g : BF} {ps : List Prt} {t : Int} (h : (blkM g ps t).e = 0) : motE ps = 0 ∧ 0 ≤ t ∧ t ≤ 1125899906842624 ∧ blkM g ps t = ⟨tot ps ps.length, tot ps ps.length, layP g (secR t).a ps (tot ps ps.length) ps.length, 0⟩ := by
  unfold blkM at h ⊢
  by_cases h1 : motE ps = 0
  · rw [if_neg (by simp [h1])] at h ⊢
    by_cases h2 : t < 0 ∨ 1125899906842624 < t
    · rw [if_pos h2] at h; exact absurd h (by decide)
    · rw [if_neg h2] at h ⊢
      exact ⟨h1, by omega, by omega, (toldR_e h).2⟩
  · rw [if_pos h1] at h
    exact absurd h h1
theorem blkM_nil {g : BF} {ps : List Prt} {t : Int} (h : ¬ (blkM g ps t).e = 0) : (blkM g ps t).a = [] := by
  unfold blkM at h ⊢
  split
  · rfl
  · rename_i h1
    rw [if_neg h1] at h
    split
    · rfl
    · rename_i h2
      rw [if_neg h2] at h
      unfold toldR at h ⊢
      split
      · rfl
      · rename_i h3
        rw [if_neg h3] at h
        exact (h rfl).elim
theorem partE_loud {p : Prt} (h : partE p = 0) : loudB p.n = false := by
  unfold partE at h
  split at h
  · omega
  · split at h
    · omega
    · split at h
      · omega
      · split at h
        · omega
        · rename_i h4
          rw [Bool.or_eq_true] at h4
          cases e : loudB p.n
          · rfl
          · exact (h4 (.inl e)).elim
/-- The noises up to k are nought or loud enough. -/
def LoudTo (ls : List Prt) (k : Nat) : Prop := ∀ q, q < k → fcmp .neq (cn (ls.getD q prtD).n) 0 = false ∨ fcmp .lss (cn (ls.getD q prtD).n) M100 = false
theorem loudTo_zero {ls : List Prt} : LoudTo ls 0 := fun q h => by omega
theorem loudTo_step {ls : List Prt} {k : Nat} (h : LoudTo ls k) (hk : fcmp .neq (cn (ls.getD k prtD).n) 0 = false ∨ fcmp .lss (cn (ls.getD k prtD).n) M100 = false) : LoudTo ls (k + 1) := fun q hq => by
  by_cases e : q = k
  · rw [e]; exact hk
  · exact h q (by omega)
theorem rl_of {ls : List Prt} {t : Int} (hb : GoodL ls) (hm : motE (ls.map pcn) = 0) (h1 : 1 ≤ t) (h2 : t ≤ 1125899906842624) (hl : LoudTo ls ls.length) : RL (ls.map pcn) (secR t).a where
  b := fun k hk => by
    have hw := (word_pcn hb k hk).1
    obtain ⟨_, hg, _⟩ := mot_good hm
    obtain ⟨g1, _, _, g2, _⟩ := partE_good (hg k hk)
    have g3 := partE_loud (hg k hk)
    rw [List.length_map] at hk
    have e : (ls.map pcn).getD k prtD = pcn (ls.getD k prtD) := by simp [List.getD, List.getElem?_map, List.getElem?_eq_getElem hk]
    obtain ⟨r1, r2⟩ := time_rng h1 h2
    have hf : finB (secR t).a = true := (finB_iff r2).2 r1.f
    have hn := noise_rng hw g2 g3 (by rw [e]; exact hl k hk)
    rcases hn with hn | hn
    · exact nil_noise g1 hn r2 hf
    · exact rb_rng g1 hn r1 r2
/-- The matrices of what time adds and of its root. -/
structure RM (n : Int) (G Q : List Nat) : Prop where
  s : Siz n n
  p : 1 ≤ n
  g : Good n n G
  q : Good n n Q
  z : ∀ i j, Pl n n i j → i < j → fcmp .neq (mat n G i j) 0 = false
  x : ∀ i j, Pl n n i j → RS (rowL n G i) (rowL n G j) (mat n Q i j) (mat n Q i i) (mat n Q j j)
theorem rm_of {ls : List Prt} {t n : Int} (hb : GoodL ls) (hm : motE (ls.map pcn) = 0) (hn : tot (ls.map pcn) (ls.map pcn).length = n) (h1 : 1 ≤ t) (h2 : t ≤ 1125899906842624) (hl : LoudTo ls ls.length) : RM n (layP rootB (secR t).a (ls.map pcn) n (ls.map pcn).length) (layP noiseB (secR t).a (ls.map pcn) n (ls.map pcn).length) := by
  obtain ⟨hs, hp, hg⟩ := siz_n hm hn
  have hr := rl_of hb hm h1 h2 hl
  refine ⟨hs, hp, lay_good hs, lay_good hs, fun i j hij => (roots_at hr hg hs hn hij).z, fun i j hij => ?_⟩
  obtain ⟨X, hX, hN⟩ := (roots_at hr hg hs hn hij).x
  obtain ⟨p1, p2, p3, p4⟩ := hij
  have hn12 := hs.2.1
  have row : ∀ x : Int, 0 ≤ x → x < n → ∀ k, k < (rowL n (layP rootB (secR t).a (ls.map pcn) n (ls.map pcn).length) x).length → finB ((rowL n (layP rootB (secR t).a (ls.map pcn) n (ls.map pcn).length) x).getD k 0) = true ∧ (rowL n (layP rootB (secR t).a (ls.map pcn) n (ls.map pcn).length) x).getD k 0 < 2 ^ 64 := by
    intro x x0 x1 k hk
    rw [length_rowL] at hk
    rw [getD_rowL hk]
    have := root_nng hr hg hs hn (x := x) (y := (k : Int)) ⟨x0, x1, by omega, by omega⟩
    exact ⟨this.fin, this.w⟩
  exact rs_of (X := X) (by rw [length_rowL, length_rowL]; exact Nat.le_refl _) (by rw [length_rowL]; omega) (row i p1 p2) (fun k hk => row j p3 p4 k (by rw [length_rowL] at hk ⊢; exact hk)) (noise_nng hr hg hs hn ⟨p1, p2, p3, p4⟩) (noise_nng hr hg hs hn ⟨p1, p2, p1, p2⟩) (noise_nng hr hg hs hn ⟨p3, p4, p3, p4⟩) (by rw [length_rowL]; exact hX) hN
theorem row_rng {n : Int} {i : Nat} (h : (i : Int) < n) : 0 ≤ (i : Int) * n ∧ ((i : Int) + 1) * n = (i : Int) * n + n ∧ (i : Int) * n + n ≤ n * n := by
  have h1 := Int.mul_nonneg (show (0 : Int) ≤ i by omega) (show 0 ≤ n by omega)
  have h2 : ((i : Int) + 1) * n ≤ n * n := Int.mul_le_mul_of_nonneg_right (by omega) (by omega)
  rw [Int.add_mul, Int.one_mul] at h2 ⊢
  exact ⟨h1, rfl, h2⟩
end Go.Bn
