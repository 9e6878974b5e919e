/-
  The length of a list turned, one sign turned, too; and of a list scaled by a power of two.
-/
import Derived.Test.YtllmlkffknodmaaNrLnr
import Derived.Test.YtllmlkffknodmaaNrTru
set_option linter.unusedVariables false
set_option linter.unusedSimpArgs false
namespace Go.Bn
open Go
/-! ## Sums of squares, as lists -/
def sumSq : List Nat → Nat
  | [] => 0
  | x :: l => vlu x * vlu x + sumSq l
theorem sumSq_app : ∀ a b : List Nat, sumSq (a ++ b) = sumSq a + sumSq b
  | [], b => by simp [sumSq]
  | x :: a, b => by rw [List.cons_append, sumSq, sumSq, sumSq_app a b, Nat.add_assoc]
theorem sqV_take {xs : List Nat} : ∀ n, n ≤ xs.length → sqV xs n = sumSq (xs.take n)
  | 0, _ => rfl
  | n + 1, h => by
    rw [sqV, sqV_take n (by omega), take_snoc 0 (by omega), sumSq_app]
    simp [sumSq]
theorem sqV_sum (xs : List Nat) : sqV xs xs.length = sumSq xs := by rw [sqV_take _ (Nat.le_refl _), List.take_length]
/-- A list turned by k, the first one's sign turned. -/
def trnL (xs : List Nat) (k : Nat) : List Nat := (xs.drop k ++ xs.take k).set 0 (fneg ((xs.drop k ++ xs.take k).getD 0 0))
theorem length_trnL {xs : List Nat} {k : Nat} (hk : k ≤ xs.length) : (trnL xs k).length = xs.length := by
  unfold trnL
  rw [List.length_set, List.length_append, List.length_drop, List.length_take]
  omega
theorem finL_fneg {x : Nat} (h : finB x = true ∧ x < 2 ^ 64) : finB (fneg x) = true ∧ fneg x < 2 ^ 64 := by
  have h2 := fneg_val h.2 ((finB_iff h.2).1 h.1)
  exact ⟨(finB_iff h2.1).2 h2.2.1, h2.1⟩
theorem finL_mem {xs : List Nat} : FinL xs ↔ ∀ x ∈ xs, finB x = true ∧ x < 2 ^ 64 := by
  constructor
  · intro h x hx
    obtain ⟨i, hi, rfl⟩ := List.mem_iff_getElem.1 hx
    have := h i
    rwa [List.getD, List.getElem?_eq_getElem hi] at this
  · intro h k
    by_cases hk : k < xs.length
    · rw [List.getD, List.getElem?_eq_getElem hk]
      exact h _ (List.getElem_mem hk)
    · rw [getD_out hk]
      decide
theorem finL_turn {xs : List Nat} (hF : FinL xs) (k : Nat) : FinL (trnL xs k) := by
  have h0 : FinL (xs.drop k ++ xs.take k) := finL_mem.2 fun x hx => by
    rcases List.mem_append.1 hx with h | h
    · exact finL_mem.1 hF x (List.mem_of_mem_drop h)
    · exact finL_mem.1 hF x (List.mem_of_mem_take h)
  unfold trnL
  refine finL_mem.2 fun x hx => ?_
  rcases List.mem_or_eq_of_mem_set hx with h | h
  · exact finL_mem.1 h0 x h
  · rw [h]; exact finL_fneg (h0 0)
theorem vlu_fneg {x : Nat} (h : finB x = true ∧ x < 2 ^ 64) : vlu (fneg x) = vlu x := by
  have h2 := fneg_val h.2 ((finB_iff h.2).1 h.1)
  have h3 := congrArg Int.natAbs h2.2.2
  rw [Int.natAbs_neg, sval_abs, sval_abs] at h3
  exact h3
theorem sumSq_turn {xs : List Nat} (hF : FinL xs) {k : Nat} (hk : k ≤ xs.length) : sumSq (trnL xs k) = sumSq xs := by
  have e0 : sumSq (xs.drop k ++ xs.take k) = sumSq xs := by
    rw [sumSq_app, Nat.add_comm, ← sumSq_app, List.take_append_drop]
  have hL : FinL (xs.drop k ++ xs.take k) := finL_mem.2 fun x hx => by
    rcases List.mem_append.1 hx with h | h
    · exact finL_mem.1 hF x (List.mem_of_mem_drop h)
    · exact finL_mem.1 hF x (List.mem_of_mem_take h)
  rw [← e0]
  unfold trnL
  cases h : (xs.drop k ++ xs.take k) with
  | nil => rfl
  | cons a l =>
    rw [h] at hL
    show sumSq (fneg a :: l) = sumSq (a :: l)
    rw [sumSq, sumSq, vlu_fneg (x := a) (hL 0)]
theorem sqV_turn {xs : List Nat} (hF : FinL xs) {k : Nat} (hk : k ≤ xs.length) : sqV (trnL xs k) (trnL xs k).length = sqV xs xs.length := by
  rw [sqV_sum, sqV_sum, sumSq_turn hF hk]
theorem powB_sq {xs : List Nat} (hF : FinL xs) : powB xs = true ↔ 0 < sqV xs xs.length := by
  constructor
  · intro h
    obtain ⟨i, hi, h0, _⟩ := scl_max hF h
    have := (powK_spec hF h).1
    rw [← h0] at this
    exact Nat.lt_of_lt_of_le (Nat.mul_pos this this) (sq_at hi)
  · intro h
    cases hb : powB xs
    · exfalso
      have m1 := maxTo_fin hF xs.length
      unfold powB at hb
      rw [show fcmp .eql (maxL xs) 0 = decide (vlu (maxL xs) = 0) from eql_zero m1.1 ((finB_iff m1.1).1 m1.2)] at hb
      have h0 : vlu (maxL xs) = 0 := by simpa using hb
      have hz : ∀ n, n ≤ xs.length → sqV xs n = 0 := by
        intro n
        induction n with
        | zero => intro _; rfl
        | succ n ih =>
          intro hn
          have := (max_spec hF xs.length).2.1 n (by omega)
          have hv : vlu (xs.getD n 0) = 0 := by
            have : vlu (xs.getD n 0) ≤ vlu (maxL xs) := this
            omega
          rw [sqV, ih (by omega), hv]
      rw [hz _ (Nat.le_refl _)] at h
      omega
    · rfl
theorem lenL_0 {xs : List Nat} (h : powB xs = false) : lenL xs = 0 := by unfold lenL; rw [if_neg (by rw [h]; decide)]
/-! ## Two lengths of the same sum -/
theorem sq_mono {a b : Nat} (h : a * a ≤ b * b) : a ≤ b := by
  rcases Nat.lt_or_ge b a with h2 | h2
  · exfalso
    have := Nat.mul_le_mul h2 h2
    have e : (b + 1) * (b + 1) = b * b + 2 * b + 1 := by grind
    rw [show b.succ = b + 1 from rfl, e] at this
    omega
  · exact h2
theorem two_near {n S R T : Nat} (hn : n < 49) (a1 : S * (Q56 * Q56) ≤ (R * Q56 + roomV n R) * (R * Q56 + roomV n R)) (b1 : (T * Q56 - roomV n T) * (T * Q56 - roomV n T) ≤ S * (Q56 * Q56)) : T * Q56 ≤ R * Q56 + roomV n R + roomV n T := by
  have := sq_mono (Nat.le_trans b1 a1)
  omega
theorem room_two {n R T : Nat} (hn : n < 49) (h : T * Q56 ≤ R * Q56 + roomV n R + roomV n T) : roomV n T ≤ 2 * roomV n R := by
  obtain ⟨c, hc⟩ : ∃ c, c = 9 * (n + 4) := ⟨_, rfl⟩
  have e : ∀ z, roomV n z = c * z + Q56 := fun z => by unfold roomV; rw [hc]; grind
  rw [e, e] at h ⊢
  have hQ : Q56 = 72057594037927936 := rfl
  -- c T (Q - c) <= c R (Q + c) + 2 c Q
  obtain ⟨q, hq⟩ : ∃ q, Q56 = q + c := ⟨Q56 - c, by omega⟩
  have h1 : T * q ≤ R * (q + 2 * c) + 2 * Q56 := by
    have e1 : T * Q56 = T * q + c * T := by rw [hq]; grind
    have e2 : R * Q56 = R * q + c * R := by rw [hq]; grind
    have e3 : R * (q + 2 * c) = R * q + 2 * (c * R) := by grind
    omega
  have h2 := Nat.mul_le_mul_left c h1
  have hqp : 0 < q := by omega
  suffices hs : c * T ≤ 2 * (c * R) + Q56 by omega
  refine Nat.le_of_mul_le_mul_right (c := q) ?_ hqp
  have e4 : c * T * q = c * (T * q) := Nat.mul_assoc ..
  have e5 : c * (R * (q + 2 * c) + 2 * Q56) = c * R * q + 2 * c * (c * R) + 2 * c * Q56 := by grind
  have e6 : (2 * (c * R) + Q56) * q = 2 * (c * R * q) + Q56 * q := by grind
  have h3 : 2 * c * (c * R) ≤ c * R * q := by rw [Nat.mul_comm (2 * c)]; exact Nat.mul_le_mul_left _ (by omega)
  have h4 : 2 * c * Q56 ≤ Q56 * q := by rw [Nat.mul_comm (2 * c)]; exact Nat.mul_le_mul_left _ (by omega)
  omega
/-- Two lengths of the same sum differ by at most three rooms. -/
theorem near_two {n S R T : Nat} (hn : n < 49) (a1 : S * (Q56 * Q56) ≤ (R * Q56 + roomV n R) * (R * Q56 + roomV n R)) (a2 : (R * Q56 - roomV n R) * (R * Q56 - roomV n R) ≤ S * (Q56 * Q56))
    (b1 : S * (Q56 * Q56) ≤ (T * Q56 + roomV n T) * (T * Q56 + roomV n T)) (b2 : (T * Q56 - roomV n T) * (T * Q56 - roomV n T) ≤ S * (Q56 * Q56)) :
    T * Q56 ≤ R * Q56 + 3 * roomV n R ∧ R * Q56 ≤ T * Q56 + 3 * roomV n R := by
  have h1 := two_near hn a1 b2
  have h2 := two_near hn b1 a2
  have h3 := room_two hn h1
  omega
/-- A length that is not finite. -/
theorem len_inf {N : Nat} (hN : N = NZ + 1024) {xs : List Nat} (hF : FinL xs) (hn : xs.length ≤ 48) (hb : powB xs = true) (hf : ¬ rung (lenL xs) < 9218868437227405312) :
    2 ^ N * 2 ^ N * (UU - 1) ≤ sqV xs xs.length * (UU + (xs.length + 7)) := by
  have h := lenV_of hF hn hb
  have hr := powK_rng xs
  rw [h.ge] at hf
  obtain ⟨g, hg⟩ : ∃ g, g = sclN xs (powK xs) := ⟨_, rfl⟩
  rw [← hg] at h hf
  have hlo := h.gr.lo
  have hhi := h.gr.hi
  have he1 : 1 ≤ expo g ∧ expo g ≤ 1040 := by
    constructor
    · rcases Nat.eq_zero_or_pos (expo g) with h0 | h0
      · exfalso
        rcases @vlu_lt_expo g with h2 | ⟨_, h2⟩
        · rw [h0] at h2
          have : vlu g * 2 ^ 11 < PZ := by
            refine Nat.lt_of_lt_of_le (Nat.mul_lt_mul_of_pos_right h2 (Nat.two_pow_pos 11)) ?_
            rw [← Nat.pow_add]
            exact pz_ge (by rw [nz]; omega)
          omega
        · have : vlu g * 2 ^ 11 < PZ := by
            refine Nat.lt_of_lt_of_le (Nat.mul_lt_mul_of_pos_right h2 (Nat.two_pow_pos 11)) ?_
            rw [← Nat.pow_add]
            exact pz_ge (by rw [nz]; omega)
          omega
      · exact h0
    · by_cases hc : expo g ≤ 1040
      · exact hc
      · exfalso
        have h2 := Nat.le_trans (vlu_ge_expo (x := g) (by omega)) hhi
        rw [pz_pow] at h2
        have h3 := (Nat.pow_le_pow_iff_right (show 1 < 2 by omega)).1 h2
        rw [nz] at h3
        omega
  have hbig : 2047 ≤ (expo g : Int) + powK xs := by
    by_cases hc : 2047 ≤ (expo g : Int) + powK xs
    · exact hc
    · exfalso
      apply hf
      by_cases hc2 : (expo g : Int) - 1023 + powK xs < -1022
      · exact (ldx_tiny h.gl h.gr.f he1.1 hc2).1
      · exact (ldx_exact h.gl h.gr.f he1.1 (by omega) (by omega)).f
  have hB : (-powK xs).toNat = 0 := by omega
  have c1 := h.c1
  have c2 := h.c2
  rw [hB, Nat.pow_zero, Nat.mul_one] at c1
  have hGA : 2 ^ N ≤ vlu g * 2 ^ (powK xs).toNat := by
    refine Nat.le_trans ?_ (Nat.mul_le_mul_right _ (vlu_ge_expo he1.1))
    rw [← Nat.pow_add]
    exact Nat.pow_le_pow_right (by omega) (by rw [hN, nz]; omega)
  have hsq := Nat.mul_le_mul hGA hGA
  rw [mul4 (vlu g)] at hsq
  clear hGA hN
  obtain ⟨c11, c12⟩ := c1.out
  obtain ⟨c21, c22⟩ := c2.out
  generalize 2 ^ N * 2 ^ N = Z at *
  generalize 2 ^ (powK xs).toNat * 2 ^ (powK xs).toNat = AA at *
  generalize vlu g * vlu g = GG at *
  generalize sqV (sclL xs (powK xs)) xs.length = T at *
  generalize sqV xs xs.length = Y at *
  obtain ⟨V, hV⟩ : ∃ V, UU = V + 1 := ⟨UU - 1, by have : UU = 9007199254740992 := rfl; omega⟩
  have k3 : GG * AA * V ≤ Y * (UU + (xs.length + 7)) := by
    have f1 := Nat.mul_le_mul_right AA c21
    have f2 : T * AA * V ≤ Y * UU := by
      have e : T * AA * UU = T * AA * V + T * AA := by rw [hV, Nat.mul_add, Nat.mul_one]
      omega
    have f3 : GG * AA * UU ≤ T * AA * (UU + (xs.length + 7)) := by
      have e7 : (T * UU + (xs.length + 7) * T) * AA = T * AA * (UU + (xs.length + 7)) := by grind
      have e8 : GG * UU * AA = GG * AA * UU := Nat.mul_right_comm ..
      omega
    have f4 := Nat.mul_le_mul_right V f3
    have f5 := Nat.mul_le_mul_right (UU + (xs.length + 7)) f2
    refine Nat.le_of_mul_le_mul_right (c := UU) ?_ uu_pos
    calc GG * AA * V * UU = GG * AA * UU * V := by rw [Nat.mul_right_comm]
      _ ≤ T * AA * (UU + (xs.length + 7)) * V := f4
      _ = T * AA * V * (UU + (xs.length + 7)) := by rw [Nat.mul_right_comm]
      _ ≤ Y * UU * (UU + (xs.length + 7)) := f5
      _ = Y * (UU + (xs.length + 7)) * UU := by rw [Nat.mul_right_comm]
  rw [show UU - 1 = V by omega]
  exact Nat.le_trans (Nat.mul_le_mul_right _ hsq) k3
theorem half_num : ∀ n, n < 49 → (UU + (n + 7)) * ((Q56 + 9 * (n + 4) + 1) * (Q56 + 9 * (n + 4) + 1)) < 4 * ((UU - 1) * (Q56 * Q56)) := by decide +kernel
/-- If one length of a sum is not finite, another one is at least half the greatest number. -/
theorem half_two {n S R H N : Nat} (hn : n < 49) (hN : 57 ≤ N) (hH : 2 * H = 2 ^ N) (a1 : S * (Q56 * Q56) ≤ (R * Q56 + roomV n R) * (R * Q56 + roomV n R)) (h : 2 ^ N * 2 ^ N * (UU - 1) ≤ S * (UU + (n + 7))) : H ≤ R := by
  rcases Nat.lt_or_ge R H with hR | hR
  · exfalso
    have hQ : Q56 = 72057594037927936 := rfl
    obtain ⟨c, hc⟩ : ∃ c, c = 9 * (n + 4) := ⟨_, rfl⟩
    have hnum := half_num n hn
    rw [← hc] at hnum
    have hH1 : Q56 ≤ H := by
      have h57 : 2 ^ 57 ≤ 2 ^ N := Nat.pow_le_pow_right (by omega) hN
      rw [show (2 : Nat) ^ 57 = 144115188075855872 by decide] at h57
      omega
    have h1 : R * Q56 + roomV n R ≤ H * (Q56 + c + 1) := by
      have e1 : roomV n R = c * R + Q56 := by unfold roomV; rw [hc]; grind
      have e2 : H * (Q56 + c + 1) = H * Q56 + c * H + H := by grind
      have g1 := Nat.mul_le_mul_right Q56 (Nat.le_of_lt hR)
      have g2 := Nat.mul_le_mul_left c (Nat.le_of_lt hR)
      omega
    have h2 := Nat.le_trans a1 (Nat.mul_le_mul h1 h1)
    rw [← hH] at h
    rw [mul4] at h2
    have h3 := Nat.mul_le_mul_right (Q56 * Q56) h
    have h4 := Nat.mul_le_mul_right (UU + (n + 7)) h2
    have e3 : S * (UU + (n + 7)) * (Q56 * Q56) = S * (Q56 * Q56) * (UU + (n + 7)) := Nat.mul_right_comm ..
    have e4 : 2 * H * (2 * H) * (UU - 1) * (Q56 * Q56) = H * H * (4 * ((UU - 1) * (Q56 * Q56))) := by
      generalize UU - 1 = V
      grind
    have e5 : H * H * ((Q56 + c + 1) * (Q56 + c + 1)) * (UU + (n + 7)) = H * H * ((UU + (n + 7)) * ((Q56 + c + 1) * (Q56 + c + 1))) := by grind
    have hHH : 0 < H * H := Nat.mul_pos (by omega) (by omega)
    have h5 := Nat.mul_lt_mul_of_pos_left hnum hHH
    omega
  · exact hR
/-! ## What is small beside a number leaves it as it is -/
theorem vlu_inj {x y : Nat} (hx : x < 2 ^ 64) (hy : y < 2 ^ 64) (fx : rung x < 9218868437227405312) (fy : rung y < 9218868437227405312) (hs : sgn x = sgn y) (h : vlu x = vlu y) : x = y := by
  rw [← nearest_vlu hx fx, ← nearest_vlu hy fy, hs, h]
theorem absorb {p q : Nat} (hq : q < 2 ^ 64) (fp : rung p < 9218868437227405312) (fq : rung q < 9218868437227405312) (sp : sgn p = false) (sq : sgn q = false) (hf : rung (fadd p q) < 9218868437227405312) (h : vlu p * 2 ^ 60 ≤ vlu q) : fadd p q = q := by
  have hs := fadd_sgn fp fq sp sq
  have e1 := sval_pos' sp
  have e2 := sval_pos' sq
  refine vlu_inj (fop_lt (op := .add)) hq hf fq (hs.trans sq.symm) ?_
  have hge := (fadd_ge fp fq hf (by omega) (by omega)).2
  refine Nat.le_antisymm ?_ hge
  rw [fadd_int fp fq, e1, e2] at hf ⊢
  have ea : ((vlu p : Int) + (vlu q : Int)).natAbs = vlu p + vlu q := by omega
  rw [ea] at hf ⊢
  by_cases h0 : vlu p + vlu q = 0
  · rw [h0, nearest_nought]
    have hz : ∀ b : Bool, vlu (if b = true then NEG0 else 0) = 0 := by decide +kernel
    rw [hz]; exact Nat.zero_le _
  · obtain ⟨K, t, d, u, h1, h2, _, h3, h4, h5, h6, h7, h8⟩ := nearest_stepK h0 hf
    rw [h1]
    clear h1
    have hm := mgn_lt q
    have hv : vlu q = mgn q * 2 ^ (plc q + 1074).toNat := rfl
    generalize (plc q + 1074).toNat = e at hv
    by_cases hd : d = 0
    · have ht : t = 0 := by omega
      have hu : u = 0 := by omega
      subst hd; subst ht; subst hu
      simp only [Nat.pow_zero, Nat.mul_one] at *
      have : vlu p = 0 := by omega
      omega
    · have hu : u = 0 := by omega
      have hdt : d = t := by omega
      subst hu; subst hdt
      rw [Nat.pow_zero, Nat.mul_one] at h4 h5 h7
      have hD := Nat.two_pow_pos d
      have hd2 : 2 ^ d = 2 * 2 ^ (d - 1) := by rw [Nat.mul_comm, ← Nat.pow_succ, show (d - 1).succ = d by omega]
      have hn52 : 4503599627370496 * 2 ^ d ≤ vlu p + vlu q := by omega
      -- the step is not below the number's own
      have hde : d ≤ e := by
        rcases Nat.lt_or_ge e d with hc | hc
        · exfalso
          have g1 : 2 ^ e ≤ 2 ^ (d - 1) := Nat.pow_le_pow_right (by omega) (by omega)
          have g2 : mgn q * 2 ^ e ≤ 9007199254740991 * 2 ^ (d - 1) := Nat.mul_le_mul (by omega) g1
          generalize 2 ^ (d - 1) = W at *
          have e60 : (2 : Nat) ^ 60 = 1152921504606846976 := by decide
          omega
        · exact hc
      have e3 : 2 ^ e = 2 ^ (e - d) * 2 ^ d := by rw [← Nat.pow_add, show e - d + d = e by omega]
      rw [e3, ← Nat.mul_assoc] at hv
      generalize mgn q * 2 ^ (e - d) = j at hv
      generalize 2 ^ d = D at *
      -- p is below half a step
      have hup : vlu q ≤ 9007199254740993 * D := by
        have g8 : K * D ≤ 9007199254740992 * D := Nat.mul_le_mul_right _ h8
        omega
      have e60 : (2 : Nat) ^ 60 = 1152921504606846976 := by decide
      have hp2 : 4 * vlu p < D := by omega
      rcases Nat.lt_or_ge j K with hc | hc
      · exfalso
        have := Nat.mul_le_mul_right D hc
        rw [show j.succ = j + 1 from rfl, Nat.add_mul, Nat.one_mul] at this
        omega
      · rw [hv]; exact Nat.mul_le_mul_right _ hc
end Go.Bn
