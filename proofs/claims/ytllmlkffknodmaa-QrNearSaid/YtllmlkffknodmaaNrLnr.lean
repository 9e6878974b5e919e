/-
  The length of a list, scaled back: how near it lies to the root of the exact sum of squares.
-/
import Derived.Test.YtllmlkffknodmaaNrLge
import Derived.Test.YtllmlkffknodmaaNrScl
set_option linter.unusedVariables false
set_option linter.unusedSimpArgs false
namespace Go.Bn
open Go
/-- A number scaled: at most half a step off, exact where it is scaled up. -/
theorem ldx_half {x : Nat} {k : Int} (hx : x < 2 ^ 64) (fx : rung x < 9218868437227405312) (k0 : -9000 ≤ k) (k1 : k ≤ 9000) (hf : rung (ldx x k) < 9218868437227405312) :
    2 * (vlu (ldx x k) * 2 ^ (-k).toNat) ≤ 2 * (vlu x * 2 ^ k.toNat) + 2 ^ (-k).toNat ∧ 2 * (vlu x * 2 ^ k.toNat) ≤ 2 * (vlu (ldx x k) * 2 ^ (-k).toNat) + 2 ^ (-k).toNat := by
  have hpos := Nat.two_pow_pos (-k).toNat
  by_cases hm : mgn x = 0
  · rw [ldx_zero (mgn_zero hm)]
    unfold vlu
    rw [hm, Nat.zero_mul, Nat.zero_mul, Nat.zero_mul]
    omega
  · rw [ldx_near hx fx hm k0 k1] at hf ⊢
    have hml := mgn_lt x
    have hp := plc_ge x
    obtain ⟨K, t, d, u, h1, h2, _, h3, h4, h5, h6, h7⟩ := nearest_step hm hf
    rw [h1]
    have ex : vlu x = mgn x * 2 ^ (plc x + 1074).toNat := rfl
    rw [ex]
    have exact_ : K = mgn x * 2 ^ u → d = 0 → K * 2 ^ t * 2 ^ (-k).toNat = mgn x * 2 ^ (plc x + 1074).toNat * 2 ^ k.toNat := by
      intro hK hd
      rw [hK, Nat.mul_assoc, Nat.mul_assoc, Nat.mul_assoc, ← Nat.pow_add, ← Nat.pow_add, ← Nat.pow_add]
      congr 2
      omega
    by_cases hu : u = 0
    · subst hu
      rw [Nat.pow_zero, Nat.mul_one] at h4 h5 h7
      by_cases hd : d = 0
      · subst hd
        rw [Nat.pow_zero] at h4 h5
        have := exact_ (by rw [Nat.pow_zero]; omega) rfl
        omega
      · have ht : t = 0 := by
          rcases h7 with h7 | h7
          · exact h7
          · exfalso
            have : 2 ^ 1 ≤ 2 ^ d := Nat.pow_le_pow_right (by omega) (by omega)
            have := Nat.mul_le_mul_left 4503599627370496 this
            omega
        subst ht
        obtain ⟨a, ha⟩ : ∃ a, a = (plc x + 1074).toNat := ⟨_, rfl⟩
        have e1 : k.toNat = 0 := by omega
        have e2 : (-k).toNat = d + a := by omega
        rw [← ha, e1, e2, Nat.pow_zero, Nat.mul_one, Nat.mul_one, Nat.pow_add]
        have g4 := Nat.mul_le_mul_right (2 ^ a) h4
        have g5 := Nat.mul_le_mul_right (2 ^ a) h5
        rw [Nat.add_mul, Nat.mul_assoc, Nat.mul_assoc, Nat.mul_assoc] at g4 g5
        omega
    · have := exact_ (h6 hu) (by omega)
      omega
/-! ## Sums of squares, scaled -/
theorem sq_up1 {y x A B : Nat} (h : x * B ≤ y * A + A) : x * x * (B * B) ≤ y * y * (A * A) + (2 * y + 1) * (A * A) := by
  have g := Nat.mul_le_mul h h
  have e1 : x * B * (x * B) = x * x * (B * B) := mul4 ..
  have e2 : (y * A + A) * (y * A + A) = y * y * (A * A) + (2 * y + 1) * (A * A) := by grind
  omega
theorem sq_dn1 {y x A B : Nat} (h : y * A ≤ x * B + A) (h2 : x * B ≤ y * A + A) : y * y * (A * A) ≤ x * x * (B * B) + (2 * y + 3) * (A * A) := by
  have g := Nat.mul_le_mul h h
  have g2 := Nat.mul_le_mul_right A h2
  have e1 : y * A * (y * A) = y * y * (A * A) := mul4 ..
  have e2 : (x * B + A) * (x * B + A) = x * x * (B * B) + 2 * (x * B * A) + A * A := by grind
  have e3 : (y * A + A) * A = y * (A * A) + A * A := by grind
  have e4 : (2 * y + 3) * (A * A) = 2 * (y * (A * A)) + 3 * (A * A) := by grind
  omega
theorem sqV_up {xs ys : List Nat} {A B C : Nat} (hC : ∀ i, vlu (ys.getD i 0) ≤ C) (h : ∀ i, vlu (xs.getD i 0) * B ≤ vlu (ys.getD i 0) * A + A) : ∀ n, sqV xs n * (B * B) ≤ sqV ys n * (A * A) + n * ((2 * C + 3) * (A * A))
  | 0 => by simp [sqV]
  | n + 1 => by
    have g := sq_up1 (h n)
    have g2 := sqV_up hC h n
    have g3 : (2 * vlu (ys.getD n 0) + 1) * (A * A) ≤ (2 * C + 3) * (A * A) := Nat.mul_le_mul_right _ (by have := hC n; omega)
    rw [sqV, sqV, Nat.add_mul, Nat.add_mul, Nat.add_mul, Nat.one_mul]
    omega
theorem sqV_dn {xs ys : List Nat} {A B C : Nat} (hC : ∀ i, vlu (ys.getD i 0) ≤ C) (h : ∀ i, vlu (xs.getD i 0) * B ≤ vlu (ys.getD i 0) * A + A) (h2 : ∀ i, vlu (ys.getD i 0) * A ≤ vlu (xs.getD i 0) * B + A) : ∀ n, sqV ys n * (A * A) ≤ sqV xs n * (B * B) + n * ((2 * C + 3) * (A * A))
  | 0 => by simp [sqV]
  | n + 1 => by
    have g := sq_dn1 (h2 n) (h n)
    have g2 := sqV_dn hC h h2 n
    have g3 : (2 * vlu (ys.getD n 0) + 3) * (A * A) ≤ (2 * C + 3) * (A * A) := Nat.mul_le_mul_right _ (by have := hC n; omega)
    rw [sqV, sqV, Nat.add_mul, Nat.add_mul, Nat.add_mul, Nat.one_mul]
    omega
theorem vlu_z : vlu 0 = 0 := by decide +kernel
theorem getD_out {xs : List Nat} {i : Nat} (h : ¬ i < xs.length) : xs.getD i 0 = 0 := by rw [List.getD, List.getElem?_eq_none (by omega)]; rfl
/-- What is scaled, against what was there. -/
theorem scl_rel {xs : List Nat} (hF : FinL xs) (hb : powB xs = true) (i : Nat) : vlu (xs.getD i 0) * 2 ^ (-powK xs).toNat ≤ vlu ((sclL xs (powK xs)).getD i 0) * 2 ^ (powK xs).toNat + 2 ^ (powK xs).toNat ∧ vlu ((sclL xs (powK xs)).getD i 0) * 2 ^ (powK xs).toNat ≤ vlu (xs.getD i 0) * 2 ^ (-powK xs).toNat + 2 ^ (powK xs).toNat := by
  have hr := powK_rng xs
  have hpos := Nat.two_pow_pos (powK xs).toNat
  by_cases hi : i < xs.length
  · have hf := scl_fin hF hb i
    rw [scl_at0 hi] at hf ⊢
    have h := ldx_half (k := -powK xs) (hF i).2 (fin_rung hF i) (by omega) (by omega) hf
    rw [Int.neg_neg] at h
    omega
  · rw [getD_out hi, getD_out (by rw [length_sclL]; exact hi), vlu_z, Nat.zero_mul, Nat.zero_mul]
    omega
/-- What is scaled is below 2. -/
theorem scl_two {xs : List Nat} (hF : FinL xs) (hb : powB xs = true) (i : Nat) : vlu ((sclL xs (powK xs)).getD i 0) ≤ 2 * PZ := by
  obtain ⟨_, p1, p2, _, p4, p5⟩ := powK_spec hF hb
  have h := (scl_rel hF hb i).2
  have h5 := p5 i
  by_cases hK : powK xs ≤ 0
  · -- scaled up: exact
    have hA : 2 ^ (powK xs).toNat = 1 := by rw [show (powK xs).toNat = 0 by omega, Nat.pow_zero]
    by_cases hi : i < xs.length
    · have hf := scl_fin hF hb i
      rw [scl_at0 hi] at hf ⊢
      have h6 := ldx_half (k := -powK xs) (hF i).2 (fin_rung hF i) (by omega) (by omega) hf
      rw [Int.neg_neg, hA] at h6
      have h7 : vlu (xs.getD i 0) * 2 ^ (-powK xs).toNat ≤ 2 ^ (powK xs + 1075).toNat * 2 ^ (-powK xs).toNat := Nat.mul_le_mul_right _ (Nat.le_of_lt (Nat.lt_of_le_of_lt h5 p4))
      rw [← Nat.pow_add, show (powK xs + 1075).toNat + (-powK xs).toNat = NZ + 1 by rw [nz]; omega, Nat.pow_add, Nat.pow_one, ← pz_def] at h7
      omega
    · rw [getD_out (by rw [length_sclL]; exact hi), vlu_z]; exact Nat.zero_le _
  · have hB : 2 ^ (-powK xs).toNat = 1 := by rw [show (-powK xs).toNat = 0 by omega, Nat.pow_zero]
    rw [hB, Nat.mul_one] at h
    have hA := Nat.two_pow_pos (powK xs).toNat
    -- Y A <= X + A < 2P A + A
    have h8 : 2 ^ (powK xs + 1075).toNat = 2 * PZ * 2 ^ (powK xs).toNat := by
      rw [show (powK xs + 1075).toNat = NZ + 1 + (powK xs).toNat by rw [nz]; omega, Nat.pow_add, Nat.pow_succ, ← pz_def, Nat.mul_comm PZ]
    have h9 : vlu ((sclL xs (powK xs)).getD i 0) * 2 ^ (powK xs).toNat < (2 * PZ + 1) * 2 ^ (powK xs).toNat := by
      rw [Nat.add_mul, Nat.one_mul]
      omega
    have := Nat.lt_of_mul_lt_mul_right h9
    omega
/-- The greatest one, scaled, is from 1 to 2, and exact. -/
theorem scl_max {xs : List Nat} (hF : FinL xs) (hb : powB xs = true) : ∃ i, i < xs.length ∧ vlu (xs.getD i 0) = vlu (maxL xs) ∧ PZ ≤ vlu ((sclL xs (powK xs)).getD i 0) ∧ vlu ((sclL xs (powK xs)).getD i 0) < 2 * PZ ∧ vlu (xs.getD i 0) * 2 ^ (-powK xs).toNat = vlu ((sclL xs (powK xs)).getD i 0) * 2 ^ (powK xs).toNat := by
  obtain ⟨p0, p1, p2, p3, p4, p5⟩ := powK_spec hF hb
  obtain ⟨i, hi, he⟩ : ∃ i, i < xs.length ∧ maxL xs = fabs (xs.getD i 0) := by
    rcases (max_spec hF xs.length).2.2 with h | h
    · exfalso
      have : vlu (maxL xs) = 0 := by unfold maxL; rw [h]; exact vlu_z
      omega
    · exact h
  have hv : vlu (maxL xs) = vlu (xs.getD i 0) := by rw [he, vlu_fabs (hF i).2 (fin_rung hF i)]
  rw [hv] at p0 p3 p4
  have hm := vlu_pos p0
  have hf := scl_fin hF hb i
  rw [scl_at0 hi] at hf
  have hx := fin_rung hF i
  have hp := plc_ge (xs.getD i 0)
  -- exact: nearest of 53 digits at a normal place
  have hE : vlu (xs.getD i 0) * 2 ^ (-powK xs).toNat = vlu (ldx (xs.getD i 0) (-powK xs)) * 2 ^ (powK xs).toNat := by
    by_cases hK : powK xs ≤ 0
    · have h := ldx_half (k := -powK xs) (hF i).2 hx (by omega) (by omega) hf
      rw [Int.neg_neg, show (powK xs).toNat = 0 by omega, Nat.pow_zero] at h
      rw [show (powK xs).toNat = 0 by omega, Nat.pow_zero]
      omega
    · have h1 : 1 ≤ expo (xs.getD i 0) := by
        rcases Nat.eq_zero_or_pos (expo (xs.getD i 0)) with h | h
        · exfalso
          have h2 := (vlu_sub h).2
          rw [← (vlu_sub h).1] at h2
          have h3 : 2 ^ 52 ≤ 2 ^ (powK xs + 1074).toNat := Nat.pow_le_pow_right (by omega) (by omega)
          rw [pow52] at h3
          omega
        · exact h
      have hup : powK xs ≤ (expo (xs.getD i 0) : Int) - 1023 := by
        rcases @vlu_lt_expo (xs.getD i 0) with h | ⟨h, _⟩
        · by_cases hc : powK xs ≤ (expo (xs.getD i 0) : Int) - 1023
          · exact hc
          · exfalso
            have : 2 ^ (expo (xs.getD i 0) + 52) ≤ 2 ^ (powK xs + 1074).toNat := Nat.pow_le_pow_right (by omega) (by omega)
            omega
        · omega
      have hs := ldx_exact (k := -powK xs) (hF i).2 hx h1 (by omega) (by have := expo_rung' (x := xs.getD i 0); omega)
      have := sc_vlu hs
      rw [Int.neg_neg] at this
      exact this.symm
  refine ⟨i, hi, hv.symm, ?_⟩
  rw [scl_at0 hi]
  refine ⟨?_, ?_, hE⟩
  · refine Nat.le_of_mul_le_mul_right (c := 2 ^ (powK xs).toNat) ?_ (Nat.two_pow_pos _)
    rw [← hE, pz_def, ← Nat.pow_add]
    refine Nat.le_trans ?_ (Nat.mul_le_mul_right _ p3)
    rw [← Nat.pow_add]
    exact Nat.pow_le_pow_right (by omega) (by rw [nz]; omega)
  · refine Nat.lt_of_mul_lt_mul_right (a := 2 ^ (powK xs).toNat) ?_
    rw [← hE]
    refine Nat.lt_of_lt_of_le (Nat.mul_lt_mul_of_pos_right p4 (Nat.two_pow_pos _)) ?_
    rw [pz_def, Nat.mul_comm 2, ← Nat.pow_succ, ← Nat.pow_add, ← Nat.pow_add]
    exact Nat.pow_le_pow_right (by omega) (by rw [nz]; omega)
def Q56 : Nat := 72057594037927936
/-- A number of 2^-53 for each of n and four, nine eighths of it, and a least step; in parts of 2^-56. -/
def roomV (n r : Nat) : Nat := r * (n + 4) * 9 + Q56
theorem num_up : ∀ n, n < 49 → (UU + 1) * (Q56 * Q56) ≤ (UU - (n + 7)) * ((Q56 + 9 * (n + 4)) * (Q56 + 9 * (n + 4))) := by decide +kernel
theorem num_dn : ∀ n, n < 49 → (UU + (n + 7)) * ((Q56 - 9 * (n + 4)) * (Q56 - 9 * (n + 4))) ≤ (UU - 1) * (Q56 * Q56) := by decide +kernel
section core
variable {n S T G A B R : Nat} (hn : n < 49) (hB : 0 < B)
  (c1 : Cl 1 (S * (B * B)) (T * (A * A))) (c2 : Cl (n + 7) (G * G) T)
  (r1 : 2 * (R * B) ≤ 2 * (G * A) + B) (r2 : 2 * (G * A) ≤ 2 * (R * B) + B)
include hn hB c1 c2 r2
theorem core_up : S * (Q56 * Q56) ≤ (R * Q56 + roomV n R) * (R * Q56 + roomV n R) := by
  obtain ⟨c11, c12⟩ := c1.out
  obtain ⟨c21, c22⟩ := c2.out
  obtain ⟨c, hc⟩ : ∃ c, c = 9 * (n + 4) := ⟨_, rfl⟩
  have hnum := num_up n hn
  rw [← hc] at hnum
  obtain ⟨U1, hU1⟩ : ∃ U1, U1 = UU - (n + 7) := ⟨_, rfl⟩
  have hUU : UU = U1 + (n + 7) := by have : UU = 9007199254740992 := rfl; omega
  rw [← hU1] at hnum
  -- (R Q + D) B >= G A (Q + c)
  have k1 : G * A * (Q56 + c) ≤ (R * Q56 + roomV n R) * B := by
    have e1 : (R * Q56 + roomV n R) * B = R * B * (Q56 + c) + Q56 * B := by unfold roomV; rw [hc]; grind
    have g1 := Nat.mul_le_mul_right (Q56 + c) r2
    have e2 : 2 * (G * A) * (Q56 + c) = 2 * (G * A * (Q56 + c)) := Nat.mul_assoc ..
    have e3 : (2 * (R * B) + B) * (Q56 + c) = 2 * (R * B * (Q56 + c)) + B * (Q56 + c) := by grind
    have g2 : B * (Q56 + c) ≤ B * (2 * Q56) := Nat.mul_le_mul_left _ (by have : Q56 = 72057594037927936 := rfl; omega)
    have e4 : B * (2 * Q56) = 2 * (Q56 * B) := by grind
    omega
  have k2 := Nat.mul_le_mul k1 k1
  have e5 : G * A * (Q56 + c) * (G * A * (Q56 + c)) = G * G * (A * A) * ((Q56 + c) * (Q56 + c)) := by grind
  have e6 : (R * Q56 + roomV n R) * B * ((R * Q56 + roomV n R) * B) = (R * Q56 + roomV n R) * (R * Q56 + roomV n R) * (B * B) := mul4 ..
  rw [e5, e6] at k2
  refine Nat.le_of_mul_le_mul_right (c := B * B) ?_ (Nat.mul_pos hB hB)
  refine Nat.le_trans ?_ k2
  -- S B^2 U1 <= G^2 A^2 (UU + 1)
  have k3 : S * (B * B) * U1 ≤ G * G * (A * A) * (UU + 1) := by
    have f1 := Nat.mul_le_mul_right (A * A) c22
    have f2 : S * (B * B) * UU ≤ T * (A * A) * (UU + 1) := by rw [Nat.mul_add, Nat.mul_one]; omega
    have f3 : T * (A * A) * U1 ≤ G * G * (A * A) * UU := by
      have e7 : T * UU * (A * A) = T * (A * A) * U1 + (n + 7) * T * (A * A) := by rw [hUU]; grind
      have e8 : (G * G * UU + (n + 7) * T) * (A * A) = G * G * (A * A) * UU + (n + 7) * T * (A * A) := by grind
      omega
    have f4 := Nat.mul_le_mul_right U1 f2
    have f5 := Nat.mul_le_mul_right (UU + 1) f3
    refine Nat.le_of_mul_le_mul_right (c := UU) ?_ uu_pos
    calc S * (B * B) * U1 * UU = S * (B * B) * UU * U1 := by rw [Nat.mul_right_comm]
      _ ≤ T * (A * A) * (UU + 1) * U1 := f4
      _ = T * (A * A) * U1 * (UU + 1) := by rw [Nat.mul_right_comm]
      _ ≤ G * G * (A * A) * UU * (UU + 1) := f5
      _ = G * G * (A * A) * (UU + 1) * UU := by rw [Nat.mul_right_comm]
  have hU1p : 0 < U1 := by have : UU = 9007199254740992 := rfl; omega
  refine Nat.le_of_mul_le_mul_right (c := U1) ?_ hU1p
  calc S * (Q56 * Q56) * (B * B) * U1 = S * (B * B) * U1 * (Q56 * Q56) := by grind
    _ ≤ G * G * (A * A) * (UU + 1) * (Q56 * Q56) := Nat.mul_le_mul_right _ k3
    _ = G * G * (A * A) * ((UU + 1) * (Q56 * Q56)) := by rw [Nat.mul_assoc]
    _ ≤ G * G * (A * A) * (U1 * ((Q56 + c) * (Q56 + c))) := Nat.mul_le_mul_left _ hnum
    _ = G * G * (A * A) * ((Q56 + c) * (Q56 + c)) * U1 := by grind
omit r2
include r1
theorem core_dn : (R * Q56 - roomV n R) * (R * Q56 - roomV n R) ≤ S * (Q56 * Q56) := by
  obtain ⟨c11, c12⟩ := c1.out
  obtain ⟨c21, c22⟩ := c2.out
  obtain ⟨c, hc⟩ : ∃ c, c = 9 * (n + 4) := ⟨_, rfl⟩
  have hnum := num_dn n hn
  rw [← hc] at hnum
  obtain ⟨V, hV⟩ : ∃ V, V = UU - 1 := ⟨_, rfl⟩
  have hUU : UU = V + 1 := by have : UU = 9007199254740992 := rfl; omega
  have hVp : 0 < V := by have : UU = 9007199254740992 := rfl; omega
  rw [← hV] at hnum
  obtain ⟨q, hq⟩ : ∃ q, Q56 = q + c := ⟨Q56 - c, by have : Q56 = 72057594037927936 := rfl; omega⟩
  rw [show Q56 - c = q by omega] at hnum
  have k1 : (R * Q56 - roomV n R) * B ≤ G * A * q := by
    have e1 : R * Q56 * B = R * B * q + R * B * c := by rw [hq]; grind
    have e2 : roomV n R * B = R * B * c + Q56 * B := by unfold roomV; rw [hc]; grind
    rw [Nat.sub_mul, e1, e2]
    have g1 := Nat.mul_le_mul_right q r1
    have e3 : 2 * (R * B) * q = 2 * (R * B * q) := Nat.mul_assoc ..
    have e4 : (2 * (G * A) + B) * q = 2 * (G * A * q) + B * q := by grind
    have g2 : B * q ≤ Q56 * B := by rw [Nat.mul_comm]; exact Nat.mul_le_mul_right _ (by omega)
    omega
  have k2 := Nat.mul_le_mul k1 k1
  have e5 : G * A * q * (G * A * q) = G * G * (A * A) * (q * q) := by grind
  have e6 : (R * Q56 - roomV n R) * B * ((R * Q56 - roomV n R) * B) = (R * Q56 - roomV n R) * (R * Q56 - roomV n R) * (B * B) := mul4 ..
  rw [e5, e6] at k2
  refine Nat.le_of_mul_le_mul_right (c := B * B) ?_ (Nat.mul_pos hB hB)
  refine Nat.le_trans k2 ?_
  have k3 : G * G * (A * A) * V ≤ S * (B * B) * (UU + (n + 7)) := by
    have f1 := Nat.mul_le_mul_right (A * A) c21
    have f2 : T * (A * A) * V ≤ S * (B * B) * UU := by
      have e : T * (A * A) * UU = T * (A * A) * V + T * (A * A) := by rw [hUU, Nat.mul_add, Nat.mul_one]
      omega
    have f3 : G * G * (A * A) * UU ≤ T * (A * A) * (UU + (n + 7)) := by
      have e7 : (T * UU + (n + 7) * T) * (A * A) = T * (A * A) * (UU + (n + 7)) := by grind
      have e8 : G * G * UU * (A * A) = G * G * (A * A) * UU := Nat.mul_right_comm ..
      omega
    have f4 := Nat.mul_le_mul_right V f3
    have f5 := Nat.mul_le_mul_right (UU + (n + 7)) f2
    refine Nat.le_of_mul_le_mul_right (c := UU) ?_ uu_pos
    calc G * G * (A * A) * V * UU = G * G * (A * A) * UU * V := by rw [Nat.mul_right_comm]
      _ ≤ T * (A * A) * (UU + (n + 7)) * V := f4
      _ = T * (A * A) * V * (UU + (n + 7)) := by rw [Nat.mul_right_comm]
      _ ≤ S * (B * B) * UU * (UU + (n + 7)) := f5
      _ = S * (B * B) * (UU + (n + 7)) * UU := by rw [Nat.mul_right_comm]
  refine Nat.le_of_mul_le_mul_right (c := V) ?_ hVp
  calc G * G * (A * A) * (q * q) * V = G * G * (A * A) * V * (q * q) := by grind
    _ ≤ S * (B * B) * (UU + (n + 7)) * (q * q) := Nat.mul_le_mul_right _ k3
    _ = S * (B * B) * ((UU + (n + 7)) * (q * q)) := by rw [Nat.mul_assoc]
    _ ≤ S * (B * B) * (V * (Q56 * Q56)) := Nat.mul_le_mul_left _ hnum
    _ = S * (Q56 * Q56) * (B * B) * V := by grind
end core
/-- What a length comes from: the root of the scaled sum. -/
structure LenV (xs : List Nat) (g : Nat) : Prop where
  gl : g < 2 ^ 64
  gr : Rng g 11
  ge : lenL xs = ldx g (powK xs)
  c1 : Cl 1 (sqV xs xs.length * (2 ^ (-powK xs).toNat * 2 ^ (-powK xs).toNat)) (sqV (sclL xs (powK xs)) xs.length * (2 ^ (powK xs).toNat * 2 ^ (powK xs).toNat))
  c2 : Cl (xs.length + 7) (vlu g * vlu g) (sqV (sclL xs (powK xs)) xs.length)
theorem lenV_of {xs : List Nat} (hF : FinL xs) (hn : xs.length ≤ 48) (hb : powB xs = true) : LenV xs (sclN xs (powK xs)) := by
  obtain ⟨i, hi, _, h1, h2, _⟩ := scl_max hF hb
  have hg := len_gen (ys := sclL xs (powK xs)) hn (scl_fin hF hb) (scl_two hF hb) hi h1
  have el : dotL (sclL xs (powK xs)) (sclL xs (powK xs)) = dotTo (sclL xs (powK xs)) (sclL xs (powK xs)) xs.length := by unfold dotL; rw [length_sclL]
  unfold sclN
  rw [el]
  refine ⟨hg.2.1, hg.1, ?_, ?_, hg.2.2⟩
  · unfold lenL sclN
    rw [if_pos hb, el]
  · have u1 := sqV_up (C := 2 * PZ) (scl_two hF hb) (fun i => (scl_rel hF hb i).1) xs.length
    have u2 := sqV_dn (C := 2 * PZ) (scl_two hF hb) (fun i => (scl_rel hF hb i).1) (fun i => (scl_rel hF hb i).2) xs.length
    refine ⟨xs.length * ((2 * (2 * PZ) + 3) * (2 ^ (powK xs).toNat * 2 ^ (powK xs).toNat)), u1, u2, ?_⟩
    have hT : PZ * PZ ≤ sqV (sclL xs (powK xs)) xs.length := Nat.le_trans (Nat.mul_le_mul h1 h1) (sq_at hi)
    have hs : xs.length * (2 * (2 * PZ) + 3) * UU ≤ PZ * PZ := by
      have a1 : xs.length * (2 * (2 * PZ) + 3) ≤ 48 * (7 * PZ) := Nat.mul_le_mul hn (by have := pz_pos; omega)
      have a2 := Nat.mul_le_mul_right UU a1
      refine Nat.le_trans a2 ?_
      have e : 48 * (7 * PZ) * UU = PZ * (UU * 336) := by grind
      rw [e]
      exact Nat.mul_le_mul_left _ (Nat.le_trans (Nat.mul_le_mul_left _ (by decide)) pz_big)
    have := Nat.mul_le_mul_right (2 ^ (powK xs).toNat * 2 ^ (powK xs).toNat) (Nat.le_trans hs hT)
    rw [Nat.one_mul]
    refine Nat.le_trans (Nat.le_of_eq ?_) this
    grind
/-- The length against the root of the exact sum. -/
theorem len_near {xs : List Nat} (hF : FinL xs) (hn : xs.length ≤ 48) (hb : powB xs = true) (hf : rung (lenL xs) < 9218868437227405312) :
    sqV xs xs.length * (Q56 * Q56) ≤ (vlu (lenL xs) * Q56 + roomV xs.length (vlu (lenL xs))) * (vlu (lenL xs) * Q56 + roomV xs.length (vlu (lenL xs))) ∧
    (vlu (lenL xs) * Q56 - roomV xs.length (vlu (lenL xs))) * (vlu (lenL xs) * Q56 - roomV xs.length (vlu (lenL xs))) ≤ sqV xs xs.length * (Q56 * Q56) := by
  have h := lenV_of hF hn hb
  have hr := powK_rng xs
  rw [h.ge] at hf ⊢
  obtain ⟨r1, r2⟩ := ldx_half (k := powK xs) h.gl h.gr.f (by omega) (by omega) hf
  exact ⟨core_up (by omega) (Nat.two_pow_pos _) h.c1 h.c2 r2, core_dn (by omega) (Nat.two_pow_pos _) h.c1 h.c2 r1⟩
/-- The length is at least the greatest amount. -/
theorem len_most {xs : List Nat} (hF : FinL xs) (hn : xs.length ≤ 48) (hb : powB xs = true) (hf : rung (lenL xs) < 9218868437227405312) : vlu (maxL xs) ≤ vlu (lenL xs) := by
  have h := lenV_of hF hn hb
  have hr := powK_rng xs
  obtain ⟨i, hi, h0, h1, h2, h3⟩ := scl_max hF hb
  have hg := root_ge (ys := sclL xs (powK xs)) hn (scl_fin hF hb) (scl_two hF hb) hi h1 h2
  have el : dotTo (sclL xs (powK xs)) (sclL xs (powK xs)) xs.length = dotL (sclL xs (powK xs)) (sclL xs (powK xs)) := by unfold dotL; rw [length_sclL]
  rw [el] at hg
  have hg' : vlu ((sclL xs (powK xs)).getD i 0) ≤ vlu (sclN xs (powK xs)) := hg
  rw [h.ge] at hf ⊢
  rw [← h0]
  refine ldx_ge h.gl h.gr.f (mgn_pos h.gr.pos) (by omega) (by omega) hf ?_
  rw [h3]
  exact Nat.mul_le_mul_right _ hg'
/-- The length is not below 0, and finite unless it is very great. -/
theorem len_sgn {xs : List Nat} (hF : FinL xs) (hn : xs.length ≤ 48) (hb : powB xs = true) : sgn (lenL xs) = false := by
  have h := lenV_of hF hn hb
  have hr := powK_rng xs
  rw [h.ge, ldx_near h.gl h.gr.f (mgn_pos h.gr.pos) (by omega) (by omega), h.gr.s]
  exact nearest_pos
end Go.Bn
