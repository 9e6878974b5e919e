/-
  The root of what is at least a rounded square is at least the number.
-/
import Derived.Test.YtllmlkffknodmaaNrMon
set_option linter.unusedVariables false
set_option linter.unusedSimpArgs false
namespace Go.Bn
open Go
/-- The plain core: the root, told by w and what is left over, against the middle below m. -/
theorem root_mid {M w a e m : Nat} (h1 : w * w ≤ M) (h2 : M < (w + 1) * (w + 1)) (hM : 2 ^ 108 ≤ M) (hm : m < 9007199254740992) (hm0 : 1 ≤ m) (he : 1 ≤ e) (h : (2 * m - 1) * (2 * m - 1) * (2 ^ (e - 1) * 2 ^ (e - 1)) < M * (2 ^ (a + 1) * 2 ^ (a + 1))) :
    (2 * m - 1) * 2 ^ e < 2 * ((2 * w + (w * w != M).toNat) * 2 ^ a) := by
  have ee : 2 ^ e = 2 ^ (e - 1) * 2 := by rw [← Nat.pow_succ, show (e - 1).succ = e by omega]
  by_cases hae : a + 1 ≤ e - 1
  · obtain ⟨f, hf⟩ : ∃ f, f = e - 1 - (a + 1) := ⟨_, rfl⟩
    have e1 : 2 ^ (e - 1) = 2 ^ f * 2 ^ (a + 1) := by rw [← Nat.pow_add, show f + (a + 1) = e - 1 by omega]
    have e2 : 2 ^ (a + 1) = 2 ^ a * 2 := Nat.pow_succ 2 a
    obtain ⟨c, hc⟩ : ∃ c, c = (2 * m - 1) * 2 ^ f := ⟨_, rfl⟩
    have hcM : c * c < M := by
      rw [e1] at h
      have e3 : (2 * m - 1) * (2 * m - 1) * (2 ^ f * 2 ^ (a + 1) * (2 ^ f * 2 ^ (a + 1))) = c * c * (2 ^ (a + 1) * 2 ^ (a + 1)) := by
        rw [hc]
        generalize 2 * m - 1 = q
        generalize 2 ^ f = F
        generalize 2 ^ (a + 1) = G
        grind
      rw [e3] at h
      exact Nat.lt_of_mul_lt_mul_right h
    have hcw : c ≤ w := by
      rcases Nat.lt_or_ge w c with hw | hw
      · exfalso
        have := Nat.mul_le_mul (show w + 1 ≤ c from hw) (show w + 1 ≤ c from hw)
        omega
      · exact hw
    have key : 2 * c < 2 * w + (w * w != M).toNat := by
      by_cases hw : w * w = M
      · have : c ≠ w := fun hcw2 => by rw [hcw2, hw] at hcM; omega
        rw [hw]; simp; omega
      · have : (w * w != M) = true := by simpa using hw
        rw [this]; show 2 * c < 2 * w + 1; omega
    have e4 : (2 * m - 1) * 2 ^ e = 2 * (2 * c * 2 ^ a) := by
      rw [ee, e1, e2, hc]
      generalize 2 * m - 1 = q
      generalize 2 ^ f = F
      generalize 2 ^ a = G
      grind
    rw [e4]
    exact Nat.mul_lt_mul_of_pos_left (Nat.mul_lt_mul_of_pos_right key (Nat.two_pow_pos a)) (by decide)
  · have hw : 2 ^ 54 ≤ w := by
      rcases Nat.lt_or_ge w (2 ^ 54) with hw | hw
      · exfalso
        have := Nat.mul_le_mul (show w + 1 ≤ 2 ^ 54 from hw) (show w + 1 ≤ 2 ^ 54 from hw)
        rw [← Nat.pow_add] at this
        omega
      · exact hw
    have a1 : 2 ^ (e - 1) ≤ 2 * 2 ^ a := by
      rw [Nat.mul_comm, ← Nat.pow_succ]
      exact Nat.pow_le_pow_right (by omega) (by omega)
    have a2 : (2 * m - 1) * 2 ^ e ≤ (2 * m - 1) * (2 * 2 ^ a * 2) := by rw [ee]; exact Nat.mul_le_mul_left _ (Nat.mul_le_mul_right _ a1)
    have a3 : (2 * m - 1) * (2 * 2 ^ a * 2) = 2 * ((2 * (2 * m - 1)) * 2 ^ a) := by
      generalize 2 * m - 1 = q
      generalize 2 ^ a = G
      grind
    refine Nat.lt_of_le_of_lt a2 ?_
    rw [a3]
    refine Nat.mul_lt_mul_of_pos_left (Nat.mul_lt_mul_of_pos_right ?_ (Nat.two_pow_pos a)) (by decide)
    have : (2 : Nat) ^ 54 = 18014398509481984 := by decide
    omega
theorem unit_form {y : Nat} (hv1 : PZ ≤ vlu y) (hv2 : vlu y < 2 * PZ) : vlu y = mgn y * 2 ^ (NZ - 52) ∧ 4503599627370496 ≤ mgn y := by
  have hm := mgn_lt y
  have hz := nz
  have hplc : rung y < 4503599627370496 → plc y = -1074 := fun h => by unfold plc; rw [if_pos h]
  have hmg : ¬ rung y < 4503599627370496 → 4503599627370496 ≤ mgn y := fun h => by unfold mgn; rw [if_neg h]; omega
  unfold vlu at hv1 hv2 ⊢
  obtain ⟨e, he⟩ : ∃ e, e = (plc y + 1074).toNat := ⟨_, rfl⟩
  rw [← he] at hv1 hv2 ⊢
  rw [pz_def] at hv1 hv2
  have hge : NZ - 52 ≤ e := by
    rcases Nat.lt_or_ge e (NZ - 52) with h | h
    · exfalso
      have a1 : mgn y * 2 ^ e < 9007199254740992 * 2 ^ e := Nat.mul_lt_mul_of_pos_right hm (Nat.two_pow_pos e)
      have a2 : 9007199254740992 * 2 ^ e ≤ 2 ^ NZ := by
        rw [← pow53, ← Nat.pow_add]
        exact Nat.pow_le_pow_right (by omega) (by omega)
      omega
    · exact h
  have hbig : 4503599627370496 ≤ mgn y := by
    refine hmg fun h => ?_
    have := hplc h
    omega
  have hle : e ≤ NZ - 52 := by
    rcases Nat.lt_or_ge (NZ - 52) e with h | h
    · exfalso
      have a1 : 4503599627370496 * 2 ^ e ≤ mgn y * 2 ^ e := Nat.mul_le_mul_right _ hbig
      have a2 : 2 * 2 ^ NZ ≤ 4503599627370496 * 2 ^ e := by
        rw [← pow52, ← Nat.pow_add, Nat.mul_comm, ← Nat.pow_succ]
        exact Nat.pow_le_pow_right (by omega) (by omega)
      omega
    · exact h
  rw [show e = NZ - 52 by omega]
  exact ⟨rfl, hbig⟩
/-- A rounded square is not far below the square. -/
theorem sq_low {y : Nat} (fy : rung y < 9218868437227405312) (fp : rung (fmul y y) < 9218868437227405312) (hv1 : PZ ≤ vlu y) (hv2 : vlu y < 2 * PZ) : (2 * mgn y - 1) * (2 * mgn y - 1) * (2 ^ (NZ - 52) * 2 ^ (NZ - 52)) < 4 * (vlu (fmul y y) * PZ) := by
  obtain ⟨e1, e2⟩ := unit_form hv1 hv2
  have hm := mgn_lt y
  have hz := nz
  obtain ⟨E, h1, h2⟩ := fmul_err fy fy fp
  rw [sval_pos' (sq_sgn fy)] at h1
  have hs : sval y * sval y = ((vlu y * vlu y : Nat) : Int) := by
    rw [sval_sgz, sgz_mul, Bool.xor_self]; simp [sgz]
  rw [hs] at h1 h2
  rw [Int.natAbs_natCast] at h2
  have hP : PZ ≤ 2 ^ (NZ - 52) * 2 ^ (NZ - 52) := by
    rw [← Nat.pow_add, pz_def]
    exact Nat.pow_le_pow_right (by omega) (by omega)
  rw [e1, mul4] at h1 h2
  generalize 2 ^ (NZ - 52) * 2 ^ (NZ - 52) = Q at *
  generalize mgn y = m at *
  generalize vlu (fmul y y) = p at *
  have hQ : 0 < Q := Nat.lt_of_lt_of_le pz_pos hP
  have h3 : m * m * Q ≤ p * PZ + E := by
    have : ((p * PZ : Nat) : Int) = (p : Int) * (PZ : Nat) := by push_cast; rfl
    omega
  have h4 : 4 * E < (4 * m - 1) * Q := by
    rcases h2 with h2 | h2
    · have h2' : E * UU ≤ m * m * Q := h2
      refine Nat.lt_of_mul_lt_mul_right (a := UU) ?_
      have b1 : m * m * Q ≤ m * UV * Q := Nat.mul_le_mul_right _ (Nat.mul_le_mul_left _ (by have : UV = 9007199254740991 := rfl; omega))
      have b2 : (4 * m - 1) * Q * UU + UU * Q = 4 * m * Q * UU := by
        obtain ⟨k, rfl⟩ : ∃ k, m = k + 1 := ⟨m - 1, by omega⟩
        rw [show 4 * (k + 1) - 1 = 4 * k + 3 by omega]; grind
      have b3 : 4 * (m * UV * Q) + 4 * m * Q = 4 * m * Q * UU := by rw [uu_uv]; grind
      have b4 : UU * Q < 4 * m * Q := Nat.mul_lt_mul_of_pos_right (by have : UU = 9007199254740992 := rfl; omega) hQ
      have b5 : 4 * E * UU = 4 * (E * UU) := Nat.mul_assoc 4 E UU
      omega
    · have : 3 * Q ≤ (4 * m - 1) * Q := Nat.mul_le_mul_right _ (by omega)
      omega
  have h5 : (2 * m - 1) * (2 * m - 1) * Q + (4 * m - 1) * Q = 4 * (m * m * Q) := by
    obtain ⟨k, rfl⟩ : ∃ k, m = k + 1 := ⟨m - 1, by omega⟩
    rw [show 2 * (k + 1) - 1 = 2 * k + 1 by omega, show 4 * (k + 1) - 1 = 4 * k + 3 by omega]; grind
  omega
/-- The root of what is at least the rounded square is at least the number (from 1 to 2). -/
theorem sqrt_ge {x y : Nat} (fx : rung x < 9218868437227405312) (sx : sgn x = false) (fy : rung y < 9218868437227405312) (fp : rung (fmul y y) < 9218868437227405312) (hv1 : PZ ≤ vlu y) (hv2 : vlu y < 2 * PZ) (h : vlu (fmul y y) ≤ vlu x) (hf : rung (fsqrt x) < 9218868437227405312) (hm1 : mgn y ≠ 4503599627370496) : vlu y ≤ vlu (fsqrt x) := by
  obtain ⟨e1, e2⟩ := unit_form hv1 hv2
  have hlow := sq_low fy fp hv1 hv2
  have hmy := mgn_lt y
  have hz := nz
  have hxv : 0 < vlu x := by
    rcases Nat.eq_zero_or_pos (vlu x) with h0 | h0
    · rw [h0] at h
      rw [Nat.le_zero.1 h, Nat.zero_mul] at hlow
      omega
    · exact h0
  have hmx := mgn_pos hxv
  obtain ⟨more, w, r1, r2, r3, r4, r5, r6⟩ := fsqrt_read fx sx hmx
  have hpx := plc_ge x
  obtain ⟨a, ha⟩ : ∃ a : Nat, (a : Int) = (plc x - (more : Int)) / 2 - 1 + 1074 := ⟨((plc x - (more : Int)) / 2 - 1 + 1074).toNat, by omega⟩
  have hM : 2 ^ 108 ≤ mgn x * 2 ^ more := by
    refine Nat.le_trans (Nat.pow_le_pow_right (by omega) r1) ?_
    rw [Nat.pow_add]
    exact Nat.mul_le_mul_right _ (Nat.log2_self_le hmx)
  have hunit : mgn x * 2 ^ more * (2 ^ (a + 1) * 2 ^ (a + 1)) = vlu x * PZ := by
    unfold vlu
    rw [pz_def, Nat.mul_assoc, Nat.mul_assoc, ← Nat.pow_add, ← Nat.pow_add, ← Nat.pow_add]
    congr 2
    omega
  have hle := Nat.mul_le_mul_right PZ h
  obtain ⟨k, hk⟩ : ∃ k, k = NZ - 52 := ⟨_, rfl⟩
  rw [← hk] at e1 hlow
  have hk1 : 2 ^ k = 2 ^ (k - 1) * 2 := by rw [← Nat.pow_succ, show (k - 1).succ = k by omega]
  have hmid := root_mid (a := a) (e := k) r4 r5 hM hmy (by omega) (by omega) (by
    rw [hunit]
    rw [hk1] at hlow
    have e3 : (2 * mgn y - 1) * (2 * mgn y - 1) * (2 ^ (k - 1) * 2 * (2 ^ (k - 1) * 2)) = 4 * ((2 * mgn y - 1) * (2 * mgn y - 1) * (2 ^ (k - 1) * 2 ^ (k - 1))) := by
      generalize 2 * mgn y - 1 = q
      generalize 2 ^ (k - 1) = G
      grind
    rw [e3] at hlow
    omega)
  rw [e1, r6]
  rw [r6] at hf
  refine nearest_half (N := 1074) hf (by omega) hmy (Nat.le_refl _) (by omega) ?_
  rw [Nat.sub_self, Nat.pow_zero, Nat.mul_one, show ((plc x - (more : Int)) / 2 - 1 + ((1074 : Nat) : Int)).toNat = a by omega]
  exact hmid
theorem sqrt_one {x y : Nat} (fx : rung x < 9218868437227405312) (sx : sgn x = false) (fy : rung y < 9218868437227405312) (fp : rung (fmul y y) < 9218868437227405312) (hv1 : PZ ≤ vlu y) (hv2 : vlu y < 2 * PZ) (h : vlu (fmul y y) ≤ vlu x) (hf : rung (fsqrt x) < 9218868437227405312) (hm1 : mgn y = 4503599627370496) : vlu y ≤ vlu (fsqrt x) := by
  obtain ⟨e1, e2⟩ := unit_form hv1 hv2
  have hz := nz
  have hP := pz_pos
  have hv : vlu y = PZ := by
    rw [e1, hm1, ← pow52, ← Nat.pow_add, pz_def, show 52 + (NZ - 52) = NZ by omega]
  have hp : PZ ≤ vlu (fmul y y) := by
    obtain ⟨N, hN⟩ : ∃ N, N = 2 * NZ := ⟨_, rfl⟩
    rw [fmul_vlx fy fy] at fp ⊢
    have k1 : 4503599627370496 * 2 ^ (NZ - 52) = PZ := by rw [← hv, e1, hm1]
    have k2 : (-2148 + (N : Int)).toNat = 0 := by omega
    have k3 : 4503599627370496 * 2 ^ (NZ - 52) * 2 ^ (N - 1074) ≤ vlu y * vlu y * 2 ^ (-2148 + (N : Int)).toNat := by
      rw [k1, pz_at hN, k2, Nat.pow_zero, Nat.mul_one, hv]
      generalize PZ * PZ = Z
      omega
    have k4 := nearest_ge (m := 4503599627370496) (e := NZ - 52) (N := N) fp (by decide) (by omega) (by omega) k3
    rw [k1] at k4
    exact k4
  have hxv : 0 < vlu x := by omega
  have hmx := mgn_pos hxv
  obtain ⟨more, w, r1, r2, r3, r4, r5, r6⟩ := fsqrt_read fx sx hmx
  have hpx := plc_ge x
  obtain ⟨a, ha⟩ : ∃ a : Nat, (a : Int) = (plc x - (more : Int)) / 2 - 1 + 1074 := ⟨((plc x - (more : Int)) / 2 - 1 + 1074).toNat, by omega⟩
  have hunit : mgn x * 2 ^ more * (2 ^ (a + 1) * 2 ^ (a + 1)) = vlu x * PZ := by
    unfold vlu
    rw [pz_def, Nat.mul_assoc, Nat.mul_assoc, ← Nat.pow_add, ← Nat.pow_add, ← Nat.pow_add]
    congr 2
    omega
  have hle : PZ * PZ ≤ mgn x * 2 ^ more * (2 ^ (a + 1) * 2 ^ (a + 1)) := by rw [hunit]; exact Nat.mul_le_mul_right _ (by omega)
  have hw : PZ ≤ (2 * w + (w * w != mgn x * 2 ^ more).toNat) * 2 ^ a := by
    refine Nat.le_trans ?_ (Nat.mul_le_mul_right (2 ^ a) (Nat.le_add_right (2 * w) _))
    generalize mgn x * 2 ^ more = M at *
    rcases Nat.lt_or_ge NZ (a + 1) with hc | hc
    · have hw1 : 1 ≤ w := by
        rcases Nat.eq_zero_or_pos w with h0 | h0
        · exfalso
          rw [h0] at r5
          have : M = 0 := by omega
          rw [this, Nat.zero_mul] at hle
          have := Nat.mul_pos hP hP
          omega
        · exact h0
      have a1 : PZ ≤ 2 ^ a := by rw [pz_def]; exact Nat.pow_le_pow_right (by omega) (by omega)
      have a2 : 1 * 2 ^ a ≤ 2 * w * 2 ^ a := Nat.mul_le_mul_right _ (by omega)
      omega
    · obtain ⟨f, hf2⟩ : ∃ f, f = NZ - (a + 1) := ⟨_, rfl⟩
      have e4 : PZ = 2 ^ f * 2 ^ (a + 1) := by rw [← Nat.pow_add, pz_def, show f + (a + 1) = NZ by omega]
      rw [e4, mul4] at hle
      have hc2 : 2 ^ f * 2 ^ f ≤ M := Nat.le_of_mul_le_mul_right hle (Nat.mul_pos (Nat.two_pow_pos _) (Nat.two_pow_pos _))
      have hcw : 2 ^ f ≤ w := by
        rcases Nat.lt_or_ge w (2 ^ f) with hw | hw
        · exfalso
          have := Nat.mul_le_mul (show w + 1 ≤ 2 ^ f from hw) (show w + 1 ≤ 2 ^ f from hw)
          omega
        · exact hw
      rw [e4, Nat.pow_succ]
      have a3 : 2 * 2 ^ f * 2 ^ a ≤ 2 * w * 2 ^ a := Nat.mul_le_mul_right _ (Nat.mul_le_mul_left _ hcw)
      refine Nat.le_trans (Nat.le_of_eq ?_) a3
      generalize 2 ^ f = F
      generalize 2 ^ a = G
      grind
  rw [r6] at hf ⊢
  have := nearest_ge (m := 4503599627370496) (e := NZ - 52) (N := 1074) hf (by decide) (Nat.le_refl _) (by omega) (by
    rw [← hm1, ← e1, hv, Nat.sub_self, Nat.pow_zero, Nat.mul_one, show ((plc x - (more : Int)) / 2 - 1 + ((1074 : Nat) : Int)).toNat = a by omega]
    exact hw)
  rw [← hm1, ← e1] at this
  exact this
/-- The root is at least the number, of any list from 1 to 2 in amount. -/
theorem root_ge {ys : List Nat} {n i : Nat} (hn : n ≤ 48) (fin : ∀ k, rung (ys.getD k 0) < 9218868437227405312) (b : ∀ k, vlu (ys.getD k 0) ≤ 2 * PZ) (hi : i < n) (h1 : PZ ≤ vlu (ys.getD i 0)) (h2 : vlu (ys.getD i 0) < 2 * PZ) : vlu (ys.getD i 0) ≤ vlu (fsqrt (dotTo ys ys n)) := by
  obtain ⟨g1, g2⟩ := dot_ge fin b n hn
  have hr := (len_gen hn fin b hi h1).1
  have fd := (dot_fin48 fin b n hn).1
  have fp := (sq_fin (fin i) (b i)).1
  by_cases hm : mgn (ys.getD i 0) = 4503599627370496
  · exact sqrt_one fd g1 (fin i) fp h1 h2 (g2 i hi) hr.1 hm
  · exact sqrt_ge fd g1 (fin i) fp h1 h2 (g2 i hi) hr.1 hm
end Go.Bn
