/-
  The length of a list scaled by a power of two is the length, scaled.
-/
import Derived.Test.YtllmlkffknodmaaNrNrp
set_option linter.unusedVariables false
set_option linter.unusedSimpArgs false
namespace Go.Bn
open Go
theorem eql_same {x y : Nat} (fx : rung x < 9218868437227405312) (fy : rung y < 9218868437227405312) (h : sval x = sval y) : fcmp .eql x y = true := by
  show (ford x y == some .eq) = true
  rw [ford_val' fx fy, h, Int.compare_eq_eq.2 rfl]
  rfl
theorem sval_0 {x : Nat} (h : vlu x = 0) : sval x = 0 := by have := sval_abs x; omega
theorem zero_sq {b : Nat} (hb : b < 2 ^ 64) (h : vlu b = 0) : fmul b b = 0 := by
  have hr := mgn_zero (mgn_vlu0 h)
  unfold rung at hr
  rcases (show b = 0 ∨ b = 9223372036854775808 by omega) with h | h <;> rw [h] <;> decide +kernel
theorem sq_zero {xs : List Nat} : ∀ n, (∀ i, i < n → vlu (xs.getD i 0) = 0) → sqV xs n = 0
  | 0, _ => rfl
  | n + 1, h => by rw [sqV, sq_zero n fun i hi => h i (by omega), h n (by omega)]
theorem powB_no {xs : List Nat} (hF : FinL xs) (h : ∀ i, i < xs.length → vlu (xs.getD i 0) = 0) : powB xs = false := by
  cases hb : powB xs
  · rfl
  · exfalso
    have := (powB_sq hF).1 hb
    rw [sq_zero _ h] at this
    omega
theorem vlu_max0 {xs : List Nat} (hF : FinL xs) (hb : powB xs = false) (i : Nat) (hi : i < xs.length) : vlu (xs.getD i 0) = 0 := by
  have h : ¬ 0 < sqV xs xs.length := fun h => by rw [(powB_sq hF).2 h] at hb; cases hb
  have h2 := sq_at (ys := xs) hi
  rcases Nat.eq_zero_or_pos (vlu (xs.getD i 0)) with h0 | h0
  · exact h0
  · have := Nat.mul_pos h0 h0
    omega
/-- The main case: what is not lost is scaled exactly, and so is the length. -/
theorem pow_main {xs : List Nat} {j : Int} (hF : FinL xs) (hn : xs.length ≤ 48) (j0 : -900 ≤ j) (j1 : j ≤ 900) (hb : powB xs = true) (hP : ∀ i, i < xs.length → Pw (xs.getD i 0) ((pwL xs j).getD i 0) j)
    (fr : rung (lenL xs) < 9218868437227405312) (er : 123 ≤ expo (lenL xs)) (hr : Sc (lenL xs) (ldx (lenL xs) j) j) (br : 2 ^ 174 ≤ vlu (ldx (lenL xs) j)) : lenL (pwL xs j) = ldx (lenL xs) j := by
  have hFb := fin_pw hF hP
  have hV := lenV_of hF hn hb
  have hrng := powK_rng xs
  obtain ⟨m, hm, m0, m1, m2, m3⟩ := scl_max hF hb
  obtain ⟨p0, p1, p2, p3, p4, p5⟩ := powK_spec hF hb
  obtain ⟨K, hK⟩ : ∃ K, K = powK xs := ⟨_, rfl⟩
  rw [← hK] at hV m1 m2 m3 p1 p2 p3 p4 hrng
  obtain ⟨g, hg⟩ : ∃ g, g = sclN xs K := ⟨_, rfl⟩
  have hge := hV.ge
  rw [← hK] at hge
  rw [← hg] at hV hge
  -- the greatest one is not lost
  have hRX : vlu (lenL xs) ≤ 2 ^ 12 * vlu (xs.getD m 0) := by
    have h1 := (ldx_half (k := K) hV.gl hV.gr.f (by omega) (by omega) (by rw [← hge]; exact fr)).1
    rw [← hge] at h1
    have h2 : vlu g * 2 ^ K.toNat ≤ 2 ^ 11 * vlu (xs.getD m 0) * 2 ^ (-K).toNat := by
      refine Nat.le_trans (Nat.mul_le_mul_right _ hV.gr.hi) ?_
      rw [Nat.mul_assoc (2 ^ 11), m3, Nat.mul_comm PZ, Nat.mul_assoc]
      exact Nat.mul_le_mul_left _ (Nat.mul_le_mul_right _ m1)
    have hp := Nat.two_pow_pos (-K).toNat
    generalize vlu (xs.getD m 0) = X at *
    refine Nat.le_of_mul_le_mul_right (c := 2 * 2 ^ (-K).toNat) ?_ (by omega)
    have h3 : 1 * 2 ^ (-K).toNat ≤ X * 2 ^ (-K).toNat := Nat.mul_le_mul_right _ (by omega)
    have e1 : vlu (lenL xs) * (2 * 2 ^ (-K).toNat) = 2 * (vlu (lenL xs) * 2 ^ (-K).toNat) := by rw [Nat.mul_left_comm]
    have e2 : 2 ^ 12 * X * (2 * 2 ^ (-K).toNat) = 8192 * (X * 2 ^ (-K).toNat) := by rw [show (2 : Nat) ^ 12 = 4096 by decide]; grind
    have e3 : 2 ^ 11 * X * 2 ^ (-K).toNat = 2048 * (X * 2 ^ (-K).toNat) := by rw [show (2 : Nat) ^ 11 = 2048 by decide, Nat.mul_assoc]
    omega
  have hmv := sc_vlu hr
  have hjp := Nat.two_pow_pos (-j).toNat
  have hmS : Sc (xs.getD m 0) ((pwL xs j).getD m 0) j ∧ 2 ^ 174 ≤ vlu ((pwL xs j).getD m 0) := by
    cases hP m hm with
    | zero h e => exfalso; omega
    | lost h f l e =>
      exfalso
      have h1 := Nat.mul_le_mul_right (2 ^ j.toNat) hRX
      have h2 := Nat.mul_le_mul_right (2 ^ (-j).toNat) br
      have e1 : 2 ^ 12 * vlu (xs.getD m 0) * 2 ^ j.toNat = 2048 * (2 * (vlu (xs.getD m 0) * 2 ^ j.toNat)) := by rw [show (2 : Nat) ^ 12 = 4096 by decide]; grind
      have e2 : 4096 * 2 ^ (-j).toNat ≤ 2 ^ 174 * 2 ^ (-j).toNat := Nat.mul_le_mul_right _ (by decide)
      omega
    | sc h e => exact ⟨h, e⟩
  have hmb := sc_vlu hmS.1
  -- the greatest of what is scaled
  have hmx : ∀ i, vlu ((pwL xs j).getD i 0) ≤ vlu ((pwL xs j).getD m 0) := fun i => by
    by_cases hi : i < xs.length
    · cases hP i hi with
      | zero h e => rw [e, h]; exact Nat.zero_le _
      | lost h f l e => rw [h]; exact Nat.zero_le _
      | sc h e =>
        refine Nat.le_of_mul_le_mul_right (c := 2 ^ (-j).toNat) ?_ hjp
        rw [sc_vlu h, hmb]
        exact Nat.mul_le_mul_right _ (by rw [m0]; exact p5 i)
    · rw [getD_out (by rw [length_pwL]; exact hi), vlu_z]; exact Nat.zero_le _
  have hbm : vlu (maxL (pwL xs j)) = vlu ((pwL xs j).getD m 0) := by
    have hs := max_spec hFb (pwL xs j).length
    refine Nat.le_antisymm ?_ (hs.2.1 m (by rw [length_pwL]; exact hm))
    rcases hs.2.2 with h | ⟨i, hi, h⟩
    · show vlu (maxTo _ _) ≤ _
      rw [h, vlu_z]; exact Nat.zero_le _
    · show vlu (maxTo _ _) ≤ _
      rw [h, vlu_fabs (hFb i).2 (fin_rung hFb i)]
      exact hmx i
  have hbb : powB (pwL xs j) = true := by
    refine (powB_sq hFb).2 (Nat.lt_of_lt_of_le ?_ (sq_at (i := m) (by rw [length_pwL]; exact hm)))
    have : 0 < vlu ((pwL xs j).getD m 0) := Nat.lt_of_lt_of_le (Nat.two_pow_pos 174) hmS.2
    exact Nat.mul_pos this this
  have hKj : -901 < K + j := by
    have h1 := Nat.mul_le_mul_right (2 ^ (-j).toNat) hmS.2
    rw [hmb, m0] at h1
    have h2 := Nat.mul_lt_mul_of_pos_right p4 (Nat.two_pow_pos j.toNat)
    have h3 := Nat.lt_of_le_of_lt h1 h2
    rw [← Nat.pow_add, ← Nat.pow_add] at h3
    have := (Nat.pow_lt_pow_iff_right (show 1 < 2 by omega)).1 h3
    omega
  have hKb : powK (pwL xs j) = K + j := by
    refine powK_uniq hFb hbb (by omega) ?_ ?_
    · rw [hbm]
      refine Nat.le_of_mul_le_mul_right (c := 2 ^ (-j).toNat) ?_ hjp
      rw [hmb, m0, ← Nat.pow_add]
      refine Nat.le_trans ?_ (Nat.mul_le_mul_right _ p3)
      rw [← Nat.pow_add]
      exact Nat.pow_le_pow_right (by omega) (by omega)
    · rw [hbm]
      refine Nat.lt_of_mul_lt_mul_right (a := 2 ^ (-j).toNat) ?_
      rw [hmb, m0, ← Nat.pow_add]
      refine Nat.lt_of_lt_of_le (Nat.mul_lt_mul_of_pos_right p4 (Nat.two_pow_pos _)) ?_
      rw [← Nat.pow_add]
      exact Nat.pow_le_pow_right (by omega) (by omega)
  -- squares, one by one
  have fy : ∀ i, rung ((sclL xs K).getD i 0) < 9218868437227405312 := by rw [hK]; exact scl_fin hF hb
  have by2 : ∀ i, vlu ((sclL xs K).getD i 0) ≤ 2 * PZ := by rw [hK]; exact scl_two hF hb
  have fz : ∀ i, rung ((sclL (pwL xs j) (K + j)).getD i 0) < 9218868437227405312 := by rw [← hKb]; exact scl_fin hFb hbb
  have bz2 : ∀ i, vlu ((sclL (pwL xs j) (K + j)).getD i 0) ≤ 2 * PZ := by rw [← hKb]; exact scl_two hFb hbb
  obtain ⟨M, b1, b2⟩ := lost_bound (L := fun i => vlu ((pwL xs j).getD i 0) = 0) (q := fun i => vlu (fmul ((sclL xs K).getD i 0) ((sclL xs K).getD i 0))) (fun i => Decidable.em _) xs.length
  have hsame : ∀ i, i < xs.length → ¬ vlu ((pwL xs j).getD i 0) = 0 → (sclL (pwL xs j) (K + j)).getD i 0 = (sclL xs K).getD i 0 ∧ 2 ^ 174 ≤ vlu ((pwL xs j).getD i 0) ∧ vlu ((pwL xs j).getD i 0) * 2 ^ (-j).toNat = vlu (xs.getD i 0) * 2 ^ j.toNat := fun i hi h0 => by
    rw [scl_at0 hi, scl_at0 (by rw [length_pwL]; exact hi)]
    cases hP i hi with
    | zero h e => exact absurd (by rw [e]; exact h) h0
    | lost h f l e => exact absurd h h0
    | sc h e =>
      refine ⟨?_, e, sc_vlu h⟩
      have hb0 : mgn ((pwL xs j).getD i 0) ≠ 0 := vlu_pos (by omega)
      have hx0 : mgn (xs.getD i 0) ≠ 0 := by rw [← h.m]; exact hb0
      rw [ldx_near h.l h.f hb0 (by omega) (by omega), ldx_near (hF i).2 (fin_rung hF i) hx0 (by omega) (by omega), h.s, h.m, h.p]
      congr 1
      omega
  have hA : ∀ i, Abs2 M (fmul ((sclL xs K).getD i 0) ((sclL xs K).getD i 0)) (fmul ((sclL (pwL xs j) (K + j)).getD i 0) ((sclL (pwL xs j) (K + j)).getD i 0)) := fun i => by
    refine ⟨fop_lt (op := .mul), (sq_fin (fy i) (by2 i)).1, sq_sgn (fy i), ?_⟩
    by_cases hi : i < xs.length
    · by_cases h0 : vlu ((pwL xs j).getD i 0) = 0
      · left
        refine ⟨?_, b1 i hi h0⟩
        rw [scl_at0 (by rw [length_pwL]; exact hi), ldx_zero (mgn_zero (mgn_vlu0 h0))]
        exact zero_sq (hFb i).2 h0
      · right
        obtain ⟨s1, s2, s3⟩ := hsame i hi h0
        rw [s1]
        refine ⟨rfl, ?_⟩
        rcases b2 with b2 | ⟨l, l1, l2, l3⟩
        · rw [b2, Nat.zero_mul]; exact Nat.zero_le _
        · rw [l3]
          refine sq_far (fy l) (fy i) (sq_fin (fy l) (by2 l)).1 (sq_fin (fy i) (by2 i)).1 ?_
          have hxl : vlu (xs.getD l 0) * 2 ^ 174 ≤ vlu (xs.getD i 0) := by
            cases hP l l1 with
            | zero h e => rw [h, Nat.zero_mul]; exact Nat.zero_le _
            | lost h f l' e => exact lost_far (K := 0) (A := 0) (B := 0) (Y := 0) s2 e s3
            | sc h e => have : (0 : Nat) < 2 ^ 174 := Nat.two_pow_pos 174; omega
          have r1 := ldx_half (k := -K) (hF l).2 (fin_rung hF l) (by omega) (by omega) (by rw [← scl_at0 l1]; exact fy l)
          have r2 := ldx_half (k := -K) (hF i).2 (fin_rung hF i) (by omega) (by omega) (by rw [← scl_at0 hi]; exact fy i)
          rw [← scl_at0 l1] at r1
          rw [← scl_at0 hi] at r2
          exact scaled_far (Nat.two_pow_pos _) hxl r1.1 r2.2
    · left
      rw [getD_out (xs := sclL xs K) (by rw [length_sclL]; exact hi), getD_out (xs := sclL (pwL xs j) (K + j)) (by rw [length_sclL, length_pwL]; exact hi)]
      have : fmul 0 0 = 0 := by decide +kernel
      rw [this, vlu_z]
      exact ⟨rfl, Nat.zero_le _⟩
  have hdot := abs_dot hA (fun n hn => (dot_fin48 fy by2 n hn).1) xs.length hn
  have heq : dotTo (sclL (pwL xs j) (K + j)) (sclL (pwL xs j) (K + j)) xs.length = dotTo (sclL xs K) (sclL xs K) xs.length := by
    rcases hdot.c with ⟨c1, _⟩ | ⟨c1, _⟩
    · exfalso
      have h1 := (dot_ge fz bz2 xs.length hn).2 m hm
      rw [c1, vlu_z, (hsame m hm (by have : (0 : Nat) < 2 ^ 174 := Nat.two_pow_pos 174; have := hmS.2; omega)).1] at h1
      have h2 := (sq_val (fy m) (sq_fin (fy m) (by2 m)).1).2 (Nat.le_trans (Nat.le_mul_of_pos_left _ pz_pos) (Nat.mul_le_mul m1 m1))
      have h3 := Nat.mul_le_mul m1 m1
      have h4 := Nat.mul_pos pz_pos pz_pos
      rw [Nat.le_zero.1 h1, Nat.zero_mul] at h2
      omega
    · exact c1
  have hN : sclN (pwL xs j) (K + j) = g := by
    rw [hg]
    unfold sclN dotL
    rw [length_sclL, length_sclL, length_pwL, heq]
  have hlb : lenL (pwL xs j) = ldx g (K + j) := by
    unfold lenL
    rw [if_pos hbb, hKb, hN]
  rw [hlb]
  have hlo := hV.gr.lo
  have he1 : 1 ≤ expo g := by
    rcases Nat.eq_zero_or_pos (expo g) with h0 | h0
    · exfalso
      have : vlu g * 2 ^ 11 < PZ := by
        rcases @vlu_lt_expo g with h2 | ⟨_, h2⟩
        · rw [h0] at h2
          refine Nat.lt_of_lt_of_le (Nat.mul_lt_mul_of_pos_right h2 (Nat.two_pow_pos 11)) ?_
          rw [← Nat.pow_add]
          exact pz_ge (by rw [nz]; omega)
        · refine Nat.lt_of_lt_of_le (Nat.mul_lt_mul_of_pos_right h2 (Nat.two_pow_pos 11)) ?_
          rw [← Nat.pow_add]
          exact pz_ge (by rw [nz]; omega)
      omega
    · exact h0
  have hgs : Sc g (lenL xs) K := by
    rw [hge]
    exact sc_norm hV.gl hV.gr.f he1 (by omega) (by omega) (by rw [← hge]; exact fr) (by rw [← hge]; exact er)
  have mg0 := mgn_pos hV.gr.pos
  rw [ldx_near hgs.l hgs.f (by rw [hgs.m]; exact mg0) (by omega) (by omega), ldx_near hV.gl hV.gr.f mg0 (by omega) (by omega), hgs.s, hgs.m, hgs.p, Int.add_assoc]
/-- Powers of two leave no trace. -/
theorem pow_len {xs : List Nat} {j : Int} (hF : FinL xs) (hn : xs.length ≤ 48) (j0 : -900 ≤ j) (j1 : j ≤ 900) (tx : ∀ i, i < xs.length → tameB (xs.getD i 0) 900 = true) (ty : ∀ i, i < xs.length → tameB ((pwL xs j).getD i 0) 900 = true)
    (fr : rung (lenL xs) < 9218868437227405312) (tr : tameB (lenL xs) 900 = true) (tr2 : tameB (ldx (lenL xs) j) 900 = true) :
    FinL (pwL xs j) ∧ rung (lenL (pwL xs j)) < 9218868437227405312 ∧ fcmp .eql (lenL (pwL xs j)) (ldx (lenL xs) j) = true := by
  have hP : ∀ i, i < xs.length → Pw (xs.getD i 0) ((pwL xs j).getD i 0) j := fun i hi => by
    have := ty i hi
    rw [pw_at hi] at this ⊢
    exact pw_of (hF i).2 (fin_rung hF i) j0 j1 (tx i hi) this
  have hFb := fin_pw hF hP
  refine ⟨hFb, ?_⟩
  have r0 : rung 0 < 9218868437227405312 := by decide
  have none : (∀ i, i < xs.length → vlu ((pwL xs j).getD i 0) = 0) → lenL (pwL xs j) = 0 := fun h => lenL_0 (powB_no hFb fun i hi => h i (by rw [length_pwL] at hi; exact hi))
  cases hb : powB xs
  · have h1 : lenL (pwL xs j) = 0 := none fun i hi => by
      cases hP i hi with
      | zero h e => rw [e]; exact h
      | lost h f l e => exact h
      | sc h e =>
        exfalso
        have h2 := sc_vlu h
        rw [vlu_max0 hF hb i hi, Nat.zero_mul] at h2
        rcases Nat.mul_eq_zero.1 h2 with h3 | h3
        · have : (0 : Nat) < 2 ^ 174 := Nat.two_pow_pos 174; omega
        · exact absurd h3 (Nat.ne_of_gt (Nat.two_pow_pos _))
    rw [h1, lenL_0 hb, ldx_zero (by decide)]
    exact ⟨r0, eql_same r0 r0 rfl⟩
  · have hmost := len_most hF hn hb fr
    obtain ⟨p0, _, _, _, _, p5⟩ := powK_spec hF hb
    have hR : 0 < vlu (lenL xs) := Nat.lt_of_lt_of_le p0 hmost
    have hlt := lenL_lt (xs := xs)
    have hz : fcmp .eql (lenL xs) 0 = false := by rw [eql_zero hlt fr]; exact decide_eq_false (by omega)
    cases pw_of hlt fr j0 j1 tr tr2 with
    | zero h e => omega
    | lost h f l e =>
      have h1 : lenL (pwL xs j) = 0 := none fun i hi => by
        cases hP i hi with
        | zero h' e' => rw [e']; exact h'
        | lost h' f' l' e' => exact h'
        | sc h' e' =>
          exfalso
          have h2 := sc_vlu h'
          have h3 := Nat.mul_le_mul_right (2 ^ j.toNat) (Nat.le_trans (p5 i) hmost)
          have h4 := Nat.mul_le_mul_right (2 ^ (-j).toNat) e'
          have h5 : 1 * 2 ^ (-j).toNat ≤ 2 ^ 174 * 2 ^ (-j).toNat := Nat.mul_le_mul_right _ (Nat.two_pow_pos 174)
          have h6 := Nat.two_pow_pos (-j).toNat
          omega
      rw [h1]
      exact ⟨r0, eql_same r0 f (by rw [sval_0 h, sval_0 vlu_z])⟩
    | sc h e =>
      rw [pow_main hF hn j0 j1 hb hP fr (tame_rng hlt hz tr fr).1 h e]
      exact ⟨h.f, eql_same h.f h.f rfl⟩
end Go.Bn
