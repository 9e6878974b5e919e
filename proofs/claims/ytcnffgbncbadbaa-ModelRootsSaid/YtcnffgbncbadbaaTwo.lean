/-
  Plain facts on powers of two.
-/
import Derived.Test.YtcnffgbncbadbaaKind
set_option linter.unusedVariables false
set_option linter.unusedSimpArgs false
namespace Go.Bn
open Go
/-- The word of the k-th power of two. -/
def P2 (k : Int) : Nat := (k + 1023).toNat * 4503599627370496
theorem p2_lt {k : Int} (h0 : -500 ≤ k) (h1 : k ≤ 500) : P2 k < 2 ^ 64 := by unfold P2; omega
theorem p2_rung {k : Int} (h0 : -500 ≤ k) (h1 : k ≤ 500) : rung (P2 k) = P2 k ∧ P2 k < 9218868437227405312 := by unfold rung P2; omega
theorem p2_parts {k : Int} (h0 : -500 ≤ k) (h1 : k ≤ 500) : sgn (P2 k) = false ∧ mgn (P2 k) = 4503599627370496 ∧ plc (P2 k) = k - 52 := by
  obtain ⟨h2, h3⟩ := p2_rung h0 h1
  refine ⟨?_, ?_, ?_⟩
  · unfold sgn
    have : P2 k / 9223372036854775808 = 0 := by omega
    rw [this]; rfl
  · unfold mgn
    rw [h2, if_neg (by unfold P2; omega)]
    unfold P2; omega
  · unfold plc
    rw [h2, if_neg (by unfold P2; omega)]
    unfold P2; omega
theorem p2_fin {k : Int} (h0 : -500 ≤ k) (h1 : k ≤ 500) : finB (P2 k) = true := (finB_iff (p2_lt h0 h1)).2 (by have := p2_rung h0 h1; omega)
theorem mul_shift2 (m : Nat) : m * 4503599627370496 = m <<< 52 := by rw [Nat.mul_comm, mul_shift]
theorem fmul_fin {x y : Nat} (hx : rung x < 9218868437227405312) (hy : rung y < 9218868437227405312) : fmul x y = Ieee.double.nearest (sgn x ^^ sgn y) (mgn x * mgn y) (plc x + plc y) := by
  unfold fmul Ieee.Format.mul
  rw [read_fin hx, read_fin hy]
  rfl
/-- A finite number times a power of two. -/
theorem fmul_p2 {x : Nat} {k : Int} (hr : rung x < 9218868437227405312) (h0 : -500 ≤ k) (h1 : k ≤ 500) : fmul x (P2 k) = Ieee.double.nearest (sgn x) (mgn x) (plc x + k) := by
  obtain ⟨q1, q2, q3⟩ := p2_parts h0 h1
  obtain ⟨q4, q5⟩ := p2_rung h0 h1
  have hy : rung (P2 k) < 9218868437227405312 := by omega
  generalize P2 k = y at *
  rw [fmul_fin hr hy, q1, q2, q3, Bool.xor_false, mul_shift2]
  have e : plc x + (k - 52) = plc x + k - ((52 : Nat) : Int) := by omega
  rw [e]
  exact nearest_scale
theorem nearest_norm {s : Bool} {m t : Nat} (h0 : 4503599627370496 ≤ m) (h1 : m < 9007199254740992) (ht : t ≤ 2045) : Ieee.double.nearest s m (-1074 + (t : Int)) = Ieee.double.word s (t * 4503599627370496 + m) := by
  have hl : m.log2 = 52 := (Nat.log2_eq_iff (by omega)).2 ⟨by omega, by omega⟩
  unfold Ieee.Format.nearest
  simp only [lpE, fbE, binA, infR]
  rw [if_neg (by omega), hl, show max (-1074 + (t : Int) + ((52 : Nat) : Int) - ((52 : Nat) : Int)) (-1074 : Int) = -1074 + (t : Int) by omega]
  rw [show (-1074 + (t : Int) - (-1074 + (t : Int))).toNat = 0 by omega, Nat.shiftLeft_zero, cut_zero, show (-1074 + (t : Int) - -1074).toNat = t by omega]
  rw [Nat.min_eq_left (by omega)]
theorem word_norm {s : Bool} {m t : Nat} (h0 : 4503599627370496 ≤ m) (h1 : m < 9007199254740992) (ht : t ≤ 2045) (w : Nat) (hw : Ieee.double.word s (t * 4503599627370496 + m) = w) : sgn w = s ∧ mgn w = m ∧ plc w = -1074 + (t : Int) ∧ rung w < 9218868437227405312 ∧ w < 2 ^ 64 := by
  obtain ⟨g1, g2, g3⟩ := @word_parts s (t * 4503599627370496 + m) (by omega)
  rw [hw] at g1 g2 g3
  refine ⟨g1, ?_, ?_, by omega, g3⟩
  · unfold mgn
    rw [g2, if_neg (by omega)]
    omega
  · unfold plc
    rw [g2, if_neg (by omega)]
    omega
def expE (x : Nat) : Int := (expo x : Int) - 1022
/-- Back and forth: nothing is lost. -/
theorem twos_back {x : Nat} {k : Int} (hx : x < 2 ^ 64) (hr : rung x < 9218868437227405312) (h0 : -500 ≤ k) (h1 : k ≤ 500) (hn : mgn x = 0 ∨ (4503599627370496 ≤ rung x ∧ -1074 ≤ plc x + k ∧ plc x + k ≤ 971)) : fmul x (P2 k) < 2 ^ 64 ∧ finB (fmul x (P2 k)) = true ∧ fmul (fmul x (P2 k)) (P2 (-k)) = x := by
  rw [fmul_p2 hr h0 h1]
  rcases hn with hn | ⟨hn, hk0, hk1⟩
  · rw [hn, nearest_nought]
    have hz := nearest_read hx hr
    rw [hn, nearest_nought] at hz
    rw [hz]
    refine ⟨hx, (finB_iff hx).2 hr, ?_⟩
    rw [fmul_p2 hr (by omega) (by omega), hn, nearest_nought]
    exact hz
  · have hm0 : 4503599627370496 ≤ mgn x := by unfold mgn; rw [if_neg (by omega)]; omega
    have hm1 := mgn_lt x
    have ht : plc x + k = -1074 + ((plc x + k + 1074).toNat : Int) := by omega
    have e := @nearest_norm (sgn x) (mgn x) (plc x + k + 1074).toNat hm0 hm1 (by omega)
    rw [← ht] at e
    obtain ⟨g1, g2, g3, g4, g5⟩ := @word_norm (sgn x) (mgn x) (plc x + k + 1074).toNat hm0 hm1 (by omega) _ rfl
    rw [e]
    refine ⟨g5, (finB_iff g5).2 g4, ?_⟩
    rw [fmul_p2 g4 (by omega) (by omega), g1, g2, g3, ← ht, show plc x + k + -k = plc x by omega]
    exact nearest_read hx hr
/-! ## Exponents -/
def TINY : Nat := 0x10000000000000
def P52 : Nat := 0x4330000000000000
def nrmR (x : Nat) : Nat × Int := if fcmp .lss (fabs x) TINY = true then (fmul x P52, -52) else (x, 0)
/-- The exponent that is told. -/
def frxE (x : Nat) : Int := (nrmR x).2 + ((expo (nrmR x).1 : Int) - 1023 + 1)
theorem fabs_parts {x : Nat} (hx : x < 2 ^ 64) (hr : rung x < 9218868437227405312) : rung (fabs x) = rung x ∧ sgn (fabs x) = false ∧ mgn (fabs x) = mgn x ∧ plc (fabs x) = plc x := by
  have hn : nanB x = false := fin_not_nan ((finB_iff hx).2 hr)
  have e : fabs x = rung x := by unfold fabs; rw [hn]; rfl
  have e2 : rung (fabs x) = rung x := by rw [e]; unfold rung; omega
  refine ⟨e2, ?_, ?_, ?_⟩
  · rw [e]; unfold sgn
    have : rung x / 9223372036854775808 = 0 := by omega
    rw [this]; rfl
  · unfold mgn; rw [e2]
  · unfold plc; rw [e2]
theorem tiny_parts : Ieee.double.read TINY = .number false 4503599627370496 (-1074) := by decide +kernel
theorem norm_mgn {x : Nat} (h : 4503599627370496 ≤ rung x) : 4503599627370496 ≤ mgn x := by unfold mgn; rw [if_neg (by omega)]; omega
/-- A normal number is not below the least normal one. -/
theorem norm_lss {x : Nat} (hx : x < 2 ^ 64) (hr : rung x < 9218868437227405312) (hn : 4503599627370496 ≤ rung x) : fcmp .lss (fabs x) TINY = false := by
  obtain ⟨q1, q2, q3, q4⟩ := fabs_parts hx hr
  have hp := plc_ge x
  have hm := norm_mgn hn
  have key : ford (fabs x) TINY ≠ some .lt := by
    unfold ford Ieee.Format.order
    rw [read_fin (show rung (fabs x) < 9218868437227405312 by omega), tiny_parts, q2, q3, q4]
    simp only [Ieee.Datum.order, Ieee.signed]
    rw [show min (plc x) (-1074 : Int) = -1074 by omega, show (-1074 - -1074 : Int).toNat = 0 by decide, Nat.shiftLeft_zero, Nat.shiftLeft_eq]
    have h2 := Nat.two_pow_pos (plc x - -1074).toNat
    have h3 : mgn x * 1 ≤ mgn x * 2 ^ (plc x - -1074).toNat := Nat.mul_le_mul_left _ h2
    generalize mgn x * 2 ^ (plc x - -1074).toNat = v at h3
    simp only [Bool.false_eq_true, if_false, ne_eq, Option.some.injEq]
    rw [Int.compare_eq_lt]
    omega
  show (ford (fabs x) TINY == some .lt) = false
  simpa using key
theorem expo_rung (w : Nat) : expo w = rung w / 4503599627370496 := by unfold expo rung; omega
theorem p52_eq : P52 = P2 52 := by decide
theorem sub_expo {x : Nat} (hx : x < 2 ^ 64) (hs : rung x < 4503599627370496) : expo (fmul x P52) ≤ 52 := by
  have e1 : mgn x = rung x := by unfold mgn; rw [if_pos hs]
  have e2 : plc x = -1074 := by unfold plc; rw [if_pos hs]
  rw [p52_eq, fmul_p2 (show rung x < 9218868437227405312 by omega) (by omega) (by omega), e2]
  have e3 : Ieee.double.nearest (sgn x) (mgn x) (-1074 + 52) = Ieee.double.nearest (sgn x) (mgn x * 2 ^ 52) (-1074) := by
    apply nearest_eq
    rw [show min (-1074 + 52 : Int) (-1074) = -1074 by decide, show (-1074 + 52 - -1074 : Int).toNat = 52 by decide, show (-1074 - -1074 : Int).toNat = 0 by decide, Nat.pow_zero, Nat.mul_one]
  rw [e3]
  by_cases h0 : mgn x = 0
  · rw [h0, Nat.zero_mul, nearest_nought]
    cases sgn x <;> decide
  · obtain ⟨t, K, h, hK, ht, hv⟩ := @nearest_few0 (sgn x) (mgn x) 52 (mgn_lt x) h0
    rw [h, expo_rung]
    have hb : t ≤ 51 := by
      rcases ht with ht | ht
      · omega
      · rcases Nat.lt_or_ge 51 t with hlt | hge
        · exfalso
          have h2 : 2 ^ 52 ≤ 2 ^ t := Nat.pow_le_pow_right (by omega) hlt
          have h3 : 4503599627370496 * 2 ^ 52 ≤ K * 2 ^ t := Nat.mul_le_mul ht h2
          rw [hv, e1] at h3
          have := Nat.le_of_mul_le_mul_right h3 (by decide)
          omega
        · exact hge
    rw [(word_parts (s := sgn x) (Nat.min_le_right (t * 4503599627370496 + K) 9218868437227405312)).2.1, Nat.min_eq_left (by omega)]
    omega
/-- Where the exponent told is not too small, the number is normal. -/
theorem frx_norm {x : Nat} (hx : x < 2 ^ 64) (hr : rung x < 9218868437227405312) (he : -1021 ≤ frxE x) : 4503599627370496 ≤ rung x ∧ plc x = frxE x - 53 := by
  by_cases hs : rung x < 4503599627370496
  · exfalso
    unfold frxE nrmR at he
    split at he
    · have := sub_expo hx hs
      simp only at he
      omega
    · have e : expo x = 0 := by rw [expo_rung]; omega
      simp only [e] at he
      omega
  · have hn : 4503599627370496 ≤ rung x := by omega
    refine ⟨hn, ?_⟩
    unfold frxE nrmR
    rw [norm_lss hx hr hn, if_neg (by decide)]
    simp only
    rw [expo_rung]
    unfold plc
    rw [if_neg hs]
    omega
theorem eq_zero {x : Nat} (hr : rung x < 9218868437227405312) (h : fcmp .eql x 0 = true) : mgn x = 0 := by
  have hp := plc_ge x
  have h : (ford x 0 == some .eq) = true := h
  rw [beq_iff_eq] at h
  unfold ford Ieee.Format.order at h
  rw [read_fin hr, read_zero] at h
  simp only [Ieee.Datum.order, Ieee.signed] at h
  rw [show min (plc x) (-1074 : Int) = -1074 by omega, show (-1074 - -1074 : Int).toNat = 0 by decide, Nat.shiftLeft_zero] at h
  simp only [Option.some.injEq] at h
  rw [Int.compare_eq_eq] at h
  have h0 : mgn x <<< (plc x - -1074).toNat = 0 := by
    generalize mgn x <<< (plc x - -1074).toNat = v at h ⊢
    generalize sgn x = s at h
    cases s
    · have h : (v : Int) = ((0 : Nat) : Int) := h
      omega
    · have h : -(v : Int) = ((0 : Nat) : Int) := h
      omega
  by_cases hm : mgn x = 0
  · exact hm
  · exact (shift_ne hm h0).elim
/-! ## MatrixTwos -/
/-- A number that powers of two leave no trace on. -/
def TwoOk (k : Int) (x : Nat) : Prop := mgn x = 0 ∨ (4503599627370496 ≤ rung x ∧ -1074 ≤ plc x + k ∧ plc x + k ≤ 971)
def TwoTo (k : Int) (xs : List Nat) (n : Nat) : Prop := ∀ i, i < n → TwoOk k (xs.getD i 0)
theorem twoTo_zero {k : Int} {xs : List Nat} : TwoTo k xs 0 := fun i h => by omega
theorem twoTo_step {k : Int} {xs : List Nat} {n : Nat} (h : TwoTo k xs n) (hn : TwoOk k (xs.getD n 0)) : TwoTo k xs (n + 1) := fun i hi => by
  by_cases e : i = n
  · rw [e]; exact hn
  · exact h i (by omega)
theorem two_zero {k : Int} {x : Nat} (hx : x < 2 ^ 64) (hf : finB x = true) (h : fcmp .eql x 0 = true) : TwoOk k x := .inl (eq_zero ((finB_iff hx).1 hf) h)
theorem two_norm {k : Int} {x : Nat} (hx : x < 2 ^ 64) (hf : finB x = true) (h1 : -1021 ≤ frxE x) (h2 : -1021 ≤ frxE x + k) (h3 : frxE x + k ≤ 1024) : TwoOk k x := by
  obtain ⟨g1, g2⟩ := frx_norm hx ((finB_iff hx).1 hf) h1
  exact .inr ⟨g1, by omega, by omega⟩
theorem twos_fin {r c k : Int} {xs : List Nat} {m n : MR} (hc : chk r c xs = 0) (hw : xs.all (fun x => decide (x < 2 ^ 64)) = true) (h0 : -500 ≤ k) (h1 : k ≤ 500) (ht : TwoTo k xs xs.length) (hm : m = sclR r c xs (P2 k)) (hn : n = sclR m.r m.c m.a (P2 (-k))) : ((cmpB .eql m.e 0 && cmpB .eql n.e 0) && eqM n.r n.c n.a r c xs) = true := by
  obtain ⟨hg, hf⟩ := chk_zero.1 hc
  have hs := hg.1
  have hlen := (siz_nat hs).2
  have hl := hg.2
  have each : ∀ i j, Pl r c i j → mat c xs i j < 2 ^ 64 ∧ finB (mat c xs i j) = true ∧ TwoOk k (mat c xs i j) := fun i j hp => by
    have hq := hp.rng hs
    have hk : (i * c + j).toNat < xs.length := by omega
    have hmem := mem_getD (xs := xs) 0 hk
    rw [List.all_eq_true] at hw hf
    exact ⟨of_decide_eq_true (hw _ hmem), hf _ hmem, ht _ hk⟩
  have eachb : ∀ i j, Pl r c i j → fmul (mat c xs i j) (P2 k) < 2 ^ 64 ∧ finB (fmul (mat c xs i j) (P2 k)) = true ∧ fmul (fmul (mat c xs i j) (P2 k)) (P2 (-k)) = mat c xs i j := fun i j hp => by
    obtain ⟨a1, a2, a3⟩ := each i j hp
    exact twos_back a1 ((finB_iff a1).1 a2) h0 h1 a3
  have e1 : sclR r c xs (P2 k) = ⟨r, c, sclG r c xs (P2 k), 0⟩ := by
    have : sclE r c xs (P2 k) = 0 := by rw [sclE_eq (p2_lt h0 h1), hc, p2_fin h0 h1]; rfl
    have e : sclR r c xs (P2 k) = toldR r c (sclG r c xs (P2 k)) := if_pos this
    rw [e]
    exact toldR_ok (all_grid.2 fun i j hp => (eachb i j hp).2.1)
  have hg2 : Good r c (sclG r c xs (P2 k)) := good_grid hs
  have hc2 : chk r c (sclG r c xs (P2 k)) = 0 := chk_of hg2 (all_grid.2 fun i j hp => (eachb i j hp).2.1)
  have hb : sclG r c (sclG r c xs (P2 k)) (P2 (-k)) = xs := by
    conv => rhs; rw [← grid_mat hs.1 hs.2.2.1 hl]
    refine grid_congr fun i j q1 q2 q3 q4 => ?_
    have e : mat c (sclG r c xs (P2 k)) i j = fmul (mat c xs i j) (P2 k) := mat_grid q1 q2 q3 q4
    rw [e]
    exact (eachb i j ⟨q1, q2, q3, q4⟩).2.2
  have e2 : sclR r c (sclG r c xs (P2 k)) (P2 (-k)) = ⟨r, c, xs, 0⟩ := by
    have : sclE r c (sclG r c xs (P2 k)) (P2 (-k)) = 0 := by rw [sclE_eq (p2_lt (by omega) (by omega)), hc2, p2_fin (by omega) (by omega)]; rfl
    have e : sclR r c (sclG r c xs (P2 k)) (P2 (-k)) = toldR r c (sclG r c (sclG r c xs (P2 k)) (P2 (-k))) := if_pos this
    rw [e, hb]
    exact toldR_ok hf
  rw [hm, e1] at hn
  rw [show sclR (MR.r ⟨r, c, sclG r c xs (P2 k), 0⟩) (MR.c ⟨r, c, sclG r c xs (P2 k), 0⟩) (MR.a ⟨r, c, sclG r c xs (P2 k), 0⟩) (P2 (-k)) = _ from e2] at hn
  rw [hn, hm, e1]
  simp [cmpB, eqM]
end Go.Bn
