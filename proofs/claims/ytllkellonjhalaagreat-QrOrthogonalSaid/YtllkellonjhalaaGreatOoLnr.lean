/-
 The length of a list, scaled back: how near it lies to the root of the exact sum of squares.
-/
import Derived.Test.YtllkellonjhalaaGreatOoMon
import Derived.Test.YtllkellonjhalaaGreatOoLdx
import Derived.Test.YtllkellonjhalaaGreatOoScl
set_option linter.unusedVariables false
set_option linter.unusedSimpArgs false
namespace Go.Bn
open Go
theorem ldx_half {x : Nat} {k : Int} (hx : x < 2 ^ 64) (fx : rung x < 9218868437227405312) (k0 : -9000 ≤ k) (k1 : k ≤ 9000) (hf : rung (ldx x k) < 9218868437227405312) :
  2 * (vlu (ldx x k) * 2 ^ (-k).toNat) ≤ 2 * (vlu x * 2 ^ k.toNat) + 2 ^ (-k).toNat ∧ 2 * (vlu x * 2 ^ k.toNat) ≤ 2 * (vlu (ldx x k) * 2 ^ (-k).toNat) + 2 ^ (-k).toNat := by
 have hpos := Nat.two_pow_pos (-k).toNat
 by_cases hm : mgn x = 0
 ·rw [ldx_zero (mgn_zero hm)]
  unfold vlu
  rw [hm, Nat.zero_mul, Nat.zero_mul, Nat.zero_mul]
  omega
 ·rw [ldx_near hx fx hm k0 k1] at hf ⊢
  have hml := mgn_lt x
  have hp := plc_ge x
  obtain ⟨K, t, d, u, h1, h2, _, h3, h4, h5, h6, h7⟩ := nearest_step hm hf
  rw [h1]
  have ex : vlu x = mgn x * 2 ^ (plc x + 1074).toNat := rfl
  rw [ex]
  have exact_ : K = mgn x * 2 ^ u → d = 0 → K * 2 ^ t * 2 ^ (-k).toNat = mgn x * 2 ^ (plc x + 1074).toNat * 2 ^ k.toNat := by
   intro hK hd
   rw [hK, Nat.mul_assoc, Nat.mul_assoc, Nat.mul_assoc, ← Nat.pow_add, ← Nat.pow_add, ← Nat.pow_add]
   congr 2
   omega
  by_cases hu : u = 0
  ·subst hu
   rw [Nat.pow_zero, Nat.mul_one] at h4 h5 h7
   by_cases hd : d = 0
   ·subst hd
    rw [Nat.pow_zero] at h4 h5
    have := exact_ (by rw [Nat.pow_zero]; omega) rfl
    omega
   ·have ht : t = 0 := by
     rcases h7 with h7 | h7
     ·exact h7
     ·exfalso
      have : 2 ^ 1 ≤ 2 ^ d := Nat.pow_le_pow_right (by omega) (by omega)
      have := Nat.mul_le_mul_left 4503599627370496 this
      omega
    subst ht
    obtain ⟨a, ha⟩ : ∃ a, a = (plc x + 1074).toNat := ⟨_, rfl⟩
    have e1 : k.toNat = 0 := by omega
    have e2 : (-k).toNat = d + a := by omega
    rw [← ha, e1, e2, Nat.pow_zero, Nat.mul_one, Nat.mul_one, Nat.pow_add]
    have g4 := Nat.mul_le_mul_right (2 ^ a) h4
    have g5 := Nat.mul_le_mul_right (2 ^ a) h5
    rw [Nat.add_mul, Nat.mul_assoc, Nat.mul_assoc, Nat.mul_assoc] at g4 g5
    omega
  ·have := exact_ (h6 hu) (by omega)
   omega
theorem sq_up1 {y x A B : Nat} (h : x * B ≤ y * A + A) : x * x * (B * B) ≤ y * y * (A * A) + (2 * y + 1) * (A * A) := by
 have g := Nat.mul_le_mul h h
 have e1 : x * B * (x * B) = x * x * (B * B) := mul4 ..
 have e2 : (y * A + A) * (y * A + A) = y * y * (A * A) + (2 * y + 1) * (A * A) := by grind
 omega
theorem sq_dn1 {y x A B : Nat} (h : y * A ≤ x * B + A) (h2 : x * B ≤ y * A + A) : y * y * (A * A) ≤ x * x * (B * B) + (2 * y + 3) * (A * A) := by
 have g := Nat.mul_le_mul h h
 have g2 := Nat.mul_le_mul_right A h2
 have e1 : y * A * (y * A) = y * y * (A * A) := mul4 ..
 have e2 : (x * B + A) * (x * B + A) = x * x * (B * B) + 2 * (x * B * A) + A * A := by grind
 have e3 : (y * A + A) * A = y * (A * A) + A * A := by grind
 have e4 : (2 * y + 3) * (A * A) = 2 * (y * (A * A)) + 3 * (A * A) := by grind
 omega
theorem sqV_up {xs ys : List Nat} {A B C : Nat} (hC : ∀ i, vlu (ys.getD i 0) ≤ C) (h : ∀ i, vlu (xs.getD i 0) * B ≤ vlu (ys.getD i 0) * A + A) : ∀ n, sqV xs n * (B * B) ≤ sqV ys n * (A * A) + n * ((2 * C + 3) * (A * A))
 | 0 => by simp [sqV]
 | n + 1 => by
  have g := sq_up1 (h n)
  have g2 := sqV_up hC h n
  have g3 : (2 * vlu (ys.getD n 0) + 1) * (A * A) ≤ (2 * C + 3) * (A * A) := Nat.mul_le_mul_right _ (by have := hC n; omega)
  rw [sqV, sqV, Nat.add_mul, Nat.add_mul, Nat.add_mul, Nat.one_mul]
  omega
theorem sqV_dn {xs ys : List Nat} {A B C : Nat} (hC : ∀ i, vlu (ys.getD i 0) ≤ C) (h : ∀ i, vlu (xs.getD i 0) * B ≤ vlu (ys.getD i 0) * A + A) (h2 : ∀ i, vlu (ys.getD i 0) * A ≤ vlu (xs.getD i 0) * B + A) : ∀ n, sqV ys n * (A * A) ≤ sqV xs n * (B * B) + n * ((2 * C + 3) * (A * A))
 | 0 => by simp [sqV]
 | n + 1 => by
  have g := sq_dn1 (h2 n) (h n)
  have g2 := sqV_dn hC h h2 n
  have g3 : (2 * vlu (ys.getD n 0) + 3) * (A * A) ≤ (2 * C + 3) * (A * A) := Nat.mul_le_mul_right _ (by have := hC n; omega)
  rw [sqV, sqV, Nat.add_mul, Nat.add_mul, Nat.add_mul, Nat.one_mul]
  omega
theorem vlu_z : vlu 0 = 0 := by decide +kernel
theorem getD_out {xs : List Nat} {i : Nat} (h : ¬ i < xs.length) : xs.getD i 0 = 0 := by rw [List.getD, List.getElem?_eq_none (by omega)]; rfl
theorem scl_rel {xs : List Nat} (hF : FinL xs) (hb : powB xs = true) (i : Nat) : vlu (xs.getD i 0) * 2 ^ (-powK xs).toNat ≤ vlu ((sclL xs (powK xs)).getD i 0) * 2 ^ (powK xs).toNat + 2 ^ (powK xs).toNat ∧ vlu ((sclL xs (powK xs)).getD i 0) * 2 ^ (powK xs).toNat ≤ vlu (xs.getD i 0) * 2 ^ (-powK xs).toNat + 2 ^ (powK xs).toNat := by
 have hr := powK_rng xs
 have hpos := Nat.two_pow_pos (powK xs).toNat
 by_cases hi : i < xs.length
 ·have hf := scl_fin hF hb i
  rw [scl_at0 hi] at hf ⊢
  have h := ldx_half (k := -powK xs) (hF i).2 (fin_rung hF i) (by omega) (by omega) hf
  rw [Int.neg_neg] at h
  omega
 ·rw [getD_out hi, getD_out (by rw [length_sclL]; exact hi), vlu_z, Nat.zero_mul, Nat.zero_mul]
  omega
theorem scl_two {xs : List Nat} (hF : FinL xs) (hb : powB xs = true) (i : Nat) : vlu ((sclL xs (powK xs)).getD i 0) ≤ 2 * PZ := by
 obtain ⟨_, p1, p2, _, p4, p5⟩ := powK_spec hF hb
 have h := (scl_rel hF hb i).2
 have h5 := p5 i
 by_cases hK : powK xs ≤ 0
 ·-- scaled up: exact
  have hA : 2 ^ (powK xs).toNat = 1 := by rw [show (powK xs).toNat = 0 by omega, Nat.pow_zero]
  by_cases hi : i < xs.length
  ·have hf := scl_fin hF hb i
   rw [scl_at0 hi] at hf ⊢
   have h6 := ldx_half (k := -powK xs) (hF i).2 (fin_rung hF i) (by omega) (by omega) hf
   rw [Int.neg_neg, hA] at h6
   have h7 : vlu (xs.getD i 0) * 2 ^ (-powK xs).toNat ≤ 2 ^ (powK xs + 1075).toNat * 2 ^ (-powK xs).toNat := Nat.mul_le_mul_right _ (Nat.le_of_lt (Nat.lt_of_le_of_lt h5 p4))
   rw [← Nat.pow_add, show (powK xs + 1075).toNat + (-powK xs).toNat = NZ + 1 by rw [nz]; omega, Nat.pow_add, Nat.pow_one, ← pz_def] at h7
   omega
  ·rw [getD_out (by rw [length_sclL]; exact hi), vlu_z]; exact Nat.zero_le _
 ·have hB : 2 ^ (-powK xs).toNat = 1 := by rw [show (-powK xs).toNat = 0 by omega, Nat.pow_zero]
  rw [hB, Nat.mul_one] at h
  have hA := Nat.two_pow_pos (powK xs).toNat
  -- Y A <= X + A < 2P A + A
  have h8 : 2 ^ (powK xs + 1075).toNat = 2 * PZ * 2 ^ (powK xs).toNat := by
   rw [show (powK xs + 1075).toNat = NZ + 1 + (powK xs).toNat by rw [nz]; omega, Nat.pow_add, Nat.pow_succ, ← pz_def, Nat.mul_comm PZ]
  have h9 : vlu ((sclL xs (powK xs)).getD i 0) * 2 ^ (powK xs).toNat < (2 * PZ + 1) * 2 ^ (powK xs).toNat := by
   rw [Nat.add_mul, Nat.one_mul]
   omega
  have := Nat.lt_of_mul_lt_mul_right h9
  omega
theorem scl_max {xs : List Nat} (hF : FinL xs) (hb : powB xs = true) : ∃ i, i < xs.length ∧ vlu (xs.getD i 0) = vlu (maxL xs) ∧ PZ ≤ vlu ((sclL xs (powK xs)).getD i 0) ∧ vlu ((sclL xs (powK xs)).getD i 0) < 2 * PZ ∧ vlu (xs.getD i 0) * 2 ^ (-powK xs).toNat = vlu ((sclL xs (powK xs)).getD i 0) * 2 ^ (powK xs).toNat := by
 obtain ⟨p0, p1, p2, p3, p4, p5⟩ := powK_spec hF hb
 obtain ⟨i, hi, he⟩ : ∃ i, i < xs.length ∧ maxL xs = fabs (xs.getD i 0) := by
  rcases (max_spec hF xs.length).2.2 with h | h
  ·exfalso
   have : vlu (maxL xs) = 0 := by unfold maxL; rw [h]; exact vlu_z
   omega
  ·exact h
 have hv : vlu (maxL xs) = vlu (xs.getD i 0) := by rw [he, vlu_fabs (hF i).2 (fin_rung hF i)]
 rw [hv] at p0 p3 p4
 have hm := vlu_pos p0
 have hf := scl_fin hF hb i
 rw [scl_at0 hi] at hf
 have hx := fin_rung hF i
 have hp := plc_ge (xs.getD i 0)
 -- exact: nearest of 53 digits at a normal place
 have hE : vlu (xs.getD i 0) * 2 ^ (-powK xs).toNat = vlu (ldx (xs.getD i 0) (-powK xs)) * 2 ^ (powK xs).toNat := by
  by_cases hK : powK xs ≤ 0
  ·have h := ldx_half (k := -powK xs) (hF i).2 hx (by omega) (by omega) hf
   rw [Int.neg_neg, show (powK xs).toNat = 0 by omega, Nat.pow_zero] at h
   rw [show (powK xs).toNat = 0 by omega, Nat.pow_zero]
   omega
  ·have h1 : 1 ≤ expo (xs.getD i 0) := by
    rcases Nat.eq_zero_or_pos (expo (xs.getD i 0)) with h | h
    ·exfalso
     have h2 := (vlu_sub h).2
     rw [← (vlu_sub h).1] at h2
     have h3 : 2 ^ 52 ≤ 2 ^ (powK xs + 1074).toNat := Nat.pow_le_pow_right (by omega) (by omega)
     rw [pow52] at h3
     omega
    ·exact h
   have hup : powK xs ≤ (expo (xs.getD i 0) : Int) - 1023 := by
    rcases @vlu_lt_expo (xs.getD i 0) with h | ⟨h, _⟩
    ·by_cases hc : powK xs ≤ (expo (xs.getD i 0) : Int) - 1023
     ·exact hc
     ·exfalso
      have : 2 ^ (expo (xs.getD i 0) + 52) ≤ 2 ^ (powK xs + 1074).toNat := Nat.pow_le_pow_right (by omega) (by omega)
      omega
    ·omega
   have hs := ldx_exact (k := -powK xs) (hF i).2 hx h1 (by omega) (by have := expo_rung' (x := xs.getD i 0); omega)
   have := sc_vlu hs
   rw [Int.neg_neg] at this
   exact this.symm
 refine ⟨i, hi, hv.symm, ?_⟩
 rw [scl_at0 hi]
 refine ⟨?_, ?_, hE⟩
 ·refine Nat.le_of_mul_le_mul_right (c := 2 ^ (powK xs).toNat) ?_ (Nat.two_pow_pos _)
  rw [← hE, pz_def, ← Nat.pow_add]
  refine Nat.le_trans ?_ (Nat.mul_le_mul_right _ p3)
  rw [← Nat.pow_add]
  exact Nat.pow_le_pow_right (by omega) (by rw [nz]; omega)
 ·refine Nat.lt_of_mul_lt_mul_right (a := 2 ^ (powK xs).toNat) ?_
  rw [← hE]
  refine Nat.lt_of_lt_of_le (Nat.mul_lt_mul_of_pos_right p4 (Nat.two_pow_pos _)) ?_
  rw [pz_def, Nat.mul_comm 2, ← Nat.pow_succ, ← Nat.pow_add, ← Nat.pow_add]
  exact Nat.pow_le_pow_right (by omega) (by rw [nz]; omega)
structure LenV (xs : List Nat) (g : Nat) : Prop where
 gl : g < 2 ^ 64
 gr : Rng g 11
 ge : lenL xs = ldx g (powK xs)
 c1 : Cl 1 (sqV xs xs.length * (2 ^ (-powK xs).toNat * 2 ^ (-powK xs).toNat)) (sqV (sclL xs (powK xs)) xs.length * (2 ^ (powK xs).toNat * 2 ^ (powK xs).toNat))
 c2 : Cl (xs.length + 7) (vlu g * vlu g) (sqV (sclL xs (powK xs)) xs.length)
theorem lenV_of {xs : List Nat} (hF : FinL xs) (hn : xs.length ≤ 48) (hb : powB xs = true) : LenV xs (sclN xs (powK xs)) := by
 obtain ⟨i, hi, _, h1, h2, _⟩ := scl_max hF hb
 have hg := len_gen (ys := sclL xs (powK xs)) hn (scl_fin hF hb) (scl_two hF hb) hi h1
 have el : dotL (sclL xs (powK xs)) (sclL xs (powK xs)) = dotTo (sclL xs (powK xs)) (sclL xs (powK xs)) xs.length := by unfold dotL; rw [length_sclL]
 unfold sclN
 rw [el]
 refine ⟨hg.2.1, hg.1, ?_, ?_, hg.2.2⟩
 ·unfold lenL sclN
  rw [if_pos hb, el]
 ·have u1 := sqV_up (C := 2 * PZ) (scl_two hF hb) (fun i => (scl_rel hF hb i).1) xs.length
  have u2 := sqV_dn (C := 2 * PZ) (scl_two hF hb) (fun i => (scl_rel hF hb i).1) (fun i => (scl_rel hF hb i).2) xs.length
  refine ⟨xs.length * ((2 * (2 * PZ) + 3) * (2 ^ (powK xs).toNat * 2 ^ (powK xs).toNat)), u1, u2, ?_⟩
  have hT : PZ * PZ ≤ sqV (sclL xs (powK xs)) xs.length := Nat.le_trans (Nat.mul_le_mul h1 h1) (sq_at hi)
  have hs : xs.length * (2 * (2 * PZ) + 3) * UU ≤ PZ * PZ := by
   have a1 : xs.length * (2 * (2 * PZ) + 3) ≤ 48 * (7 * PZ) := Nat.mul_le_mul hn (by have := pz_pos; omega)
   have a2 := Nat.mul_le_mul_right UU a1
   refine Nat.le_trans a2 ?_
   have e : 48 * (7 * PZ) * UU = PZ * (UU * 336) := by grind
   rw [e]
   exact Nat.mul_le_mul_left _ (Nat.le_trans (Nat.mul_le_mul_left _ (by decide)) pz_big)
  have := Nat.mul_le_mul_right (2 ^ (powK xs).toNat * 2 ^ (powK xs).toNat) (Nat.le_trans hs hT)
  rw [Nat.one_mul]
  refine Nat.le_trans (Nat.le_of_eq ?_) this
  grind
end Go.Bn
