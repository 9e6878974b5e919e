/-
  Numbers with their signs: what sums, products, quotients and roots are rounded from, how far they lie from it, and what is not finite stays so. How far a dot product in order lies from the exact one (Wilkinson). What the law of nearness reckons in exact numbers: all of it is small, and the distance is not above the room.
-/
import Derived.Test.YtjfkpnacfnnkhaaDoorKd
import Derived.Test.YtjfkpnacfnnkhaaDoorKe
set_option linter.unusedVariables false
set_option linter.unusedSimpArgs false
namespace Go.Bn
open Go
theorem sval_abs (x : Nat) : (sval x).natAbs = vlu x := by unfold sval; split <;> omega
theorem sval_pos {x : Nat} (h : 0 < sval x) : sgn x = false := by
  unfold sval at h
  cases hs : sgn x
  · rfl
  · rw [hs] at h; simp at h; omega
theorem sval_neg {x : Nat} (h : sval x < 0) : sgn x = true := by
  unfold sval at h
  cases hs : sgn x
  · rw [hs] at h; simp at h; omega
  · rfl
theorem nearest_sgn {s : Bool} {n : Nat} {p : Int} : sgn (Ieee.double.nearest s n p) = s := by
  unfold Ieee.Format.nearest
  split
  · exact (@word_parts s 0 (by omega)).1
  · simp only [infR]
    exact (@word_parts s _ (Nat.min_le_right ..)).1
theorem nearest_lt {s : Bool} {n : Nat} {p : Int} : Ieee.double.nearest s n p < 2 ^ 64 := by
  unfold Ieee.Format.nearest
  split
  · exact (@word_parts s 0 (by omega)).2.2
  · simp only [infR]
    exact (@word_parts s _ (Nat.min_le_right ..)).2.2
theorem sval_signed {x : Nat} {b : Int} (h0 : -1074 ≤ b) (h1 : b ≤ plc x) : sval x = Ieee.signed (sgn x) (mgn x) (plc x - b).toNat * 2 ^ (b + 1074).toNat := by
  have e : ((vlu x : Nat) : Int) = ((mgn x <<< (plc x - b).toNat : Nat) : Int) * 2 ^ (b + 1074).toNat := by
    unfold vlu
    rw [Nat.shiftLeft_eq, Int.natCast_mul, Int.natCast_mul, Int.mul_assoc]
    congr 1
    rw [show (plc x + 1074).toNat = (plc x - b).toNat + (b + 1074).toNat by omega, Nat.pow_add, Int.natCast_mul]
    simp
  unfold sval Ieee.signed
  split
  · rw [Int.neg_mul, e]
  · exact e
/-- A sum, exactly, then rounded. -/
theorem fadd_int {x y : Nat} (hx : rung x < 9218868437227405312) (hy : rung y < 9218868437227405312) :
    fadd x y = Ieee.double.nearest (if sval x + sval y = 0 then sgn x && sgn y else decide (sval x + sval y < 0)) (sval x + sval y).natAbs (-1074) := by
  have px := plc_ge x
  have py := plc_ge y
  obtain ⟨b, hb⟩ : ∃ b, b = min (plc x) (plc y) := ⟨_, rfl⟩
  have ex := sval_signed (x := x) (b := b) (by omega) (by omega)
  have ey := sval_signed (x := y) (b := b) (by omega) (by omega)
  have hp := pow_one_le (b + 1074).toNat
  have e : sval x + sval y = (Ieee.signed (sgn x) (mgn x) (plc x - b).toNat + Ieee.signed (sgn y) (mgn y) (plc y - b).toNat) * 2 ^ (b + 1074).toNat := by
    rw [ex, ey, Int.add_mul]
  unfold fadd Ieee.Format.add
  rw [read_fin hx, read_fin hy]
  simp only [Ieee.Datum.sum, ← hb]
  generalize Ieee.signed (sgn x) (mgn x) (plc x - b).toNat + Ieee.signed (sgn y) (mgn y) (plc y - b).toNat = T at *
  show Ieee.double.nearest _ _ _ = _
  rw [e]
  have hs : (T * 2 ^ (b + 1074).toNat = 0 ↔ T = 0) ∧ (T * 2 ^ (b + 1074).toNat < 0 ↔ T < 0) := by
    generalize (2 : Int) ^ (b + 1074).toNat = W at *
    refine ⟨⟨fun h => ?_, fun h => by rw [h, Int.zero_mul]⟩, ⟨fun h => ?_, fun h => ?_⟩⟩
    · rcases Int.mul_eq_zero.1 h with h | h
      · exact h
      · omega
    · by_cases hc : T < 0
      · exact hc
      · have := Int.mul_nonneg (show 0 ≤ T by omega) (show 0 ≤ W by omega)
        omega
    · exact Int.mul_neg_of_neg_of_pos h (by omega)
  have es : (if T = 0 then sgn x && sgn y else decide (T < 0)) = (if T * 2 ^ (b + 1074).toNat = 0 then sgn x && sgn y else decide (T * 2 ^ (b + 1074).toNat < 0)) := by
    by_cases h0 : T = 0
    · rw [if_pos h0, if_pos (hs.1.2 h0)]
    · rw [if_neg h0, if_neg (fun h => h0 (hs.1.1 h))]
      by_cases h1 : T < 0
      · rw [decide_eq_true h1, decide_eq_true (hs.2.2 h1)]
      · rw [decide_eq_false h1, decide_eq_false (fun h => h1 (hs.2.1 h))]
  rw [← es]
  apply nearest_eq
  rw [show min b (-1074 : Int) = -1074 by omega, Int.natAbs_mul, Int.natAbs_pow, show (b - -1074).toNat = (b + 1074).toNat by omega]
  simp
theorem fmul_int {x y : Nat} (hx : rung x < 9218868437227405312) (hy : rung y < 9218868437227405312) :
    fmul x y = Ieee.double.nearest (sgn x ^^ sgn y) (vlu x * vlu y) (-2148) := by
  have px := plc_ge x
  have py := plc_ge y
  rw [fmul_fin hx hy]
  apply nearest_eq
  rw [show min (plc x + plc y) (-2148 : Int) = -2148 by omega]
  unfold vlu
  rw [show (plc x + plc y - -2148).toNat = (plc x + 1074).toNat + (plc y + 1074).toNat by omega, Nat.pow_add]
  simp [Nat.mul_assoc, Nat.mul_left_comm]
def sgz (s : Bool) (n : Nat) : Int := if s then -(n : Int) else n
theorem sgz_abs (s : Bool) (n : Nat) : (sgz s n).natAbs = n := by unfold sgz; split <;> omega
theorem sval_sgz (x : Nat) : sval x = sgz (sgn x) (vlu x) := rfl
theorem sgz_mul (s t : Bool) (m n : Nat) : sgz s m * sgz t n = sgz (s ^^ t) (m * n) := by
  cases s <;> cases t <;> simp [sgz, Int.neg_mul, Int.mul_neg]
theorem sgz_nat (s : Bool) (m n : Nat) : sgz s m * (n : Int) = sgz s (m * n) := by
  have := sgz_mul s false m n
  simpa [sgz] using this
theorem sgz_sub (s : Bool) (m n : Nat) {E : Nat} (h1 : m ≤ n + E) (h2 : n ≤ m + E) : (sgz s m - sgz s n).natAbs ≤ E := by
  unfold sgz; split <;> omega
/-- Rounded: at most a 2^-53 of the number away, or half of the least step. -/
theorem nearest_int {s : Bool} {n N : Nat} {p : Int} (hN : 1074 ≤ N) (hp : -(N : Int) ≤ p) (hf : rung (Ieee.double.nearest s n p) < 9218868437227405312) :
    ∃ E : Nat, (sval (Ieee.double.nearest s n p) * (2 ^ (N - 1074) : Nat) - sgz s (n * 2 ^ (p + N).toNat)).natAbs ≤ E ∧ (E * UU ≤ n * 2 ^ (p + N).toNat ∨ 2 * E ≤ 2 ^ (N - 1074)) := by
  by_cases hn : n = 0
  · subst hn
    refine ⟨0, ?_, .inl (by rw [Nat.zero_mul]; exact Nat.zero_le _)⟩
    rw [nearest_nought]
    have hv : sval (if s = true then NEG0 else 0) = 0 := by cases s <;> decide +kernel
    rw [hv, Nat.zero_mul, Int.zero_mul]
    cases s <;> simp [sgz]
  · obtain ⟨E, h1, h2, h3⟩ := nearest_err (s := s) hn hN hp hf
    refine ⟨E, ?_, h3⟩
    rw [sval_sgz, nearest_sgn, sgz_nat]
    exact sgz_sub s _ _ h1 h2
theorem sgz_dec (z : Int) : sgz (decide (z < 0)) z.natAbs = z := by
  unfold sgz
  by_cases h : z < 0
  · rw [decide_eq_true h, if_pos rfl]; omega
  · rw [decide_eq_false h, if_neg (by decide)]; omega
/-- How far a sum lies from the exact one. -/
theorem fadd_err {x y : Nat} (hx : rung x < 9218868437227405312) (hy : rung y < 9218868437227405312) (hf : rung (fadd x y) < 9218868437227405312) :
    (sval (fadd x y) - (sval x + sval y)).natAbs * UU ≤ (sval x + sval y).natAbs := by
  have e := fadd_int hx hy
  rw [e] at hf ⊢
  obtain ⟨E, h1, h2⟩ := nearest_int (N := 1074) (Nat.le_refl _) (by decide) hf
  have h0 : (-1074 + ((1074 : Nat) : Int)).toNat = 0 := by decide
  simp only [h0, Nat.pow_zero, Nat.mul_one, Nat.sub_self] at h1 h2
  have e2 : sgz (if sval x + sval y = 0 then sgn x && sgn y else decide (sval x + sval y < 0)) (sval x + sval y).natAbs = sval x + sval y := by
    by_cases hz : sval x + sval y = 0
    · rw [if_pos hz, hz]
      cases (sgn x && sgn y) <;> simp [sgz]
    · rw [if_neg hz]; exact sgz_dec _
  rw [e2, Int.natCast_one, Int.mul_one] at h1
  have hE : E * UU ≤ (sval x + sval y).natAbs := by
    rcases h2 with h2 | h2
    · exact h2
    · have : E = 0 := by omega
      rw [this, Nat.zero_mul]; exact Nat.zero_le _
  exact Nat.le_trans (Nat.mul_le_mul_right _ h1) hE
/-- How far a product lies from the exact one. -/
theorem fmul_err {x y : Nat} (hx : rung x < 9218868437227405312) (hy : rung y < 9218868437227405312) (hf : rung (fmul x y) < 9218868437227405312) :
    ∃ E : Nat, (sval (fmul x y) * (PZ : Nat) - sval x * sval y).natAbs ≤ E ∧ (E * UU ≤ (sval x * sval y).natAbs ∨ 2 * E ≤ PZ) := by
  rw [fmul_int hx hy] at hf ⊢
  obtain ⟨N, hN⟩ : ∃ N, N = 2 * NZ := ⟨_, rfl⟩
  have hN2 : N = 2148 := by rw [hN, nz]
  obtain ⟨E, h1, h2⟩ := nearest_int (N := N) (by omega) (by omega) hf
  rw [pz_at hN, show (-2148 + (N : Int)).toNat = 0 by omega, Nat.pow_zero, Nat.mul_one] at h1 h2
  rw [← sgz_mul, ← sval_sgz, ← sval_sgz] at h1
  refine ⟨E, h1, ?_⟩
  rw [Int.natAbs_mul, sval_abs, sval_abs]
  exact h2
/-- Nought and a number. -/
theorem fadd_zero {x : Nat} (hx : x < 2 ^ 64) (hr : rung x < 9218868437227405312) : rung (fadd 0 x) < 9218868437227405312 ∧ sval (fadd 0 x) = sval x := by
  have h0 : rung 0 < 9218868437227405312 := by decide
  have hs : sval 0 = 0 := by decide +kernel
  have e := fadd_int h0 hr
  rw [hs, Int.zero_add, sval_abs] at e
  by_cases hz : sval x = 0
  · have hv : vlu x = 0 := by have := sval_abs x; omega
    rw [if_pos hz, hv, nearest_nought] at e
    rw [e, hz]
    cases (sgn 0 && sgn x) <;> constructor <;> decide +kernel
  · rw [if_neg hz] at e
    have hsg : decide (sval x < 0) = sgn x := by
      by_cases h : sval x < 0
      · rw [decide_eq_true h, sval_neg h]
      · rw [decide_eq_false h, sval_pos (by omega)]
    rw [hsg, nearest_vlu hx hr] at e
    rw [e]
    exact ⟨hr, rfl⟩
/-! ### What is not finite stays so -/
theorem read_not {x : Nat} (h : ¬ rung x < 9218868437227405312) : (∃ s, Ieee.double.read x = .infinity s) ∨ (Ieee.double.read x).isNaN = true := by
  by_cases he : rung x = 9218868437227405312
  · exact .inl ⟨_, read_inf he⟩
  · right
    unfold Ieee.Format.read
    unfold rung at h he
    simp only [signW, binA, infR]
    rw [if_neg (by omega), if_neg h, if_neg he]
    rfl
theorem nan_not : ¬ rung NAN < 9218868437227405312 := by decide +kernel
theorem inf_not (s : Bool) : ¬ rung (Ieee.double.write (.infinity s)) < 9218868437227405312 := by cases s <;> decide +kernel
theorem sum_not {a b : Ieee.Datum} (h : (∃ s, a = .infinity s) ∨ a.isNaN = true) : ¬ rung (fop ((a.sum b).map Ieee.double.write)) < 9218868437227405312 ∧ ¬ rung (fop ((b.sum a).map Ieee.double.write)) < 9218868437227405312 := by
  rcases h with ⟨s, rfl⟩ | h
  · cases b with
    | nan => exact ⟨nan_not, nan_not⟩
    | infinity t =>
      simp only [Ieee.Datum.sum]
      by_cases he : s = t
      · subst he
        simp only [if_true, Option.map_some, fop, Option.getD_some]
        exact ⟨inf_not _, inf_not _⟩
      · rw [if_neg he, if_neg (Ne.symm he)]
        exact ⟨nan_not, nan_not⟩
    | number t m e => exact ⟨inf_not _, inf_not _⟩
  · cases a with
    | nan => cases b <;> exact ⟨nan_not, nan_not⟩
    | infinity t => cases h
    | number t m e => cases h
theorem product_not {a b : Ieee.Datum} (h : (∃ s, a = .infinity s) ∨ a.isNaN = true) : ¬ rung (fop ((a.product b).map Ieee.double.write)) < 9218868437227405312 ∧ ¬ rung (fop ((b.product a).map Ieee.double.write)) < 9218868437227405312 := by
  rcases h with ⟨s, rfl⟩ | h
  · cases b with
    | nan => exact ⟨nan_not, nan_not⟩
    | infinity t => exact ⟨inf_not _, inf_not _⟩
    | number t m e =>
      simp only [Ieee.Datum.product]
      by_cases he : m = 0
      · rw [if_pos he]
        exact ⟨nan_not, nan_not⟩
      · rw [if_neg he]
        simp only [Option.map_some, fop, Option.getD_some]
        exact ⟨inf_not _, inf_not _⟩
  · cases a with
    | nan => cases b <;> exact ⟨nan_not, nan_not⟩
    | infinity t => cases h
    | number t m e => cases h
theorem fadd_fin2 {x y : Nat} (h : rung (fadd x y) < 9218868437227405312) : rung x < 9218868437227405312 ∧ rung y < 9218868437227405312 := by
  constructor
  · exact Classical.byContradiction fun hc => (sum_not (read_not hc)).1 h
  · exact Classical.byContradiction fun hc => (sum_not (read_not hc)).2 h
theorem fmul_fin2 {x y : Nat} (h : rung (fmul x y) < 9218868437227405312) : rung x < 9218868437227405312 ∧ rung y < 9218868437227405312 := by
  constructor
  · exact Classical.byContradiction fun hc => (product_not (read_not hc)).1 h
  · exact Classical.byContradiction fun hc => (product_not (read_not hc)).2 h
end Go.Bn
namespace Go.Bn
open Go
theorem wilk {c K U D d D' A p Z : Nat} (h1 : 2 * K * U * D ≤ c * (2 * A + Z)) (h2 : 2 * U * d ≤ 2 * p + Z) (h3 : U * D' ≤ (U + 1) * (D + d) + (A + p)) (hc : K + 1 ≤ c) (hcU : c + K ≤ U) (hU : 0 < U) :
    2 * K * U * D' ≤ (c + (K + 1)) * (2 * (A + p) + Z) := by
  suffices h : U * (2 * K * U * D') ≤ U * ((c + (K + 1)) * (2 * (A + p) + Z)) from Nat.le_of_mul_le_mul_left h hU
  have a1 := Nat.mul_le_mul_left (2 * K * U) h3
  have a2 := Nat.mul_le_mul_left ((U + 1) * K) h2
  have a3 := Nat.mul_le_mul_left (U + 1) h1
  have a4 := Nat.mul_le_mul_right ((U + 1) * (2 * p)) (show K ≤ c by omega)
  have a5 := Nat.mul_le_mul_right (2 * (A + p) + Z) hcU
  have a6 : K * Z ≤ K * (2 * (A + p) + Z) := Nat.mul_le_mul_left _ (by omega)
  grind
theorem wilk0 {K U d p Z : Nat} (h : 2 * U * d ≤ 2 * p + Z) : 2 * K * U * d ≤ (0 + 1) * (K + 1) * (2 * p + Z) := by
  have h5 := Nat.mul_le_mul_left K h
  grind
theorem wilk1 {K U k D d D' A p Z : Nat} (h1 : 2 * K * U * D ≤ (k + 1) * (K + 1) * (2 * A + Z)) (h2 : 2 * U * d ≤ 2 * p + Z) (h3 : U * D' ≤ (U + 1) * (D + d) + (A + p)) (hk : k + 1 ≤ 11) (hU : 13 * (K + 1) ≤ U) :
    2 * K * U * D' ≤ (k + 1 + 1) * (K + 1) * (2 * (A + p) + Z) := by
  have e : (k + 1) * (K + 1) + (K + 1) = (k + 1 + 1) * (K + 1) := by grind
  rw [← e]
  have l1 : 1 * (K + 1) ≤ (k + 1) * (K + 1) := Nat.mul_le_mul_right _ (by omega)
  have l2 : (k + 1) * (K + 1) ≤ 12 * (K + 1) := Nat.mul_le_mul_right _ (by omega)
  exact wilk h1 h2 h3 (by omega) (by omega) (by omega)
theorem wilk2 {K U D A m Z : Nat} (h : 2 * K * U * D ≤ m * (K + 1) * (2 * A + U * Z)) (hm : m ≤ 12) (hK : 12 ≤ K) : D * U ≤ A * (m + 1) + m * (Z * U) := by
  have h1 : m * A ≤ 12 * A := Nat.mul_le_mul_right _ hm
  rw [Nat.mul_comm Z]
  generalize U * Z = Y at *
  suffices hs : 2 * K * (D * U) ≤ 2 * K * (A * (m + 1) + m * Y) from Nat.le_of_mul_le_mul_left hs (by omega)
  have h2 : m * Y ≤ K * (m * Y) := Nat.le_mul_of_pos_left _ (by omega)
  have h3 : 12 * A ≤ K * A := Nat.mul_le_mul_right _ hK
  grind
/-- The sum of the amounts of the products. -/
def amtV (xs ys : List Nat) : Nat → Nat
  | 0 => 0
  | k + 1 => amtV xs ys k + (sval (xs.getD k 0) * sval (ys.getD k 0)).natAbs
theorem sumV_amt (xs ys : List Nat) : ∀ k, (sumV xs ys k).natAbs ≤ amtV xs ys k
  | 0 => Nat.zero_le _
  | k + 1 => by
    have := sumV_amt xs ys k
    rw [sumV, amtV]
    omega
def dev (xs ys : List Nat) (k : Nat) : Nat := (sval (dotTo xs ys k) * (PZ : Nat) - sumV xs ys k).natAbs
def KK : Nat := 1048576
theorem kk_uu : 13 * (KK + 1) ≤ UU := by decide
theorem mul_dev {x y : Nat} (hf : rung (fmul x y) < 9218868437227405312) : 2 * UU * (sval (fmul x y) * (PZ : Nat) - sval x * sval y).natAbs ≤ 2 * (sval x * sval y).natAbs + UU * PZ := by
  obtain ⟨hx, hy⟩ := fmul_fin2 hf
  obtain ⟨E, h1, h2⟩ := fmul_err hx hy hf
  generalize (sval (fmul x y) * (PZ : Nat) - sval x * sval y).natAbs = d at *
  generalize (sval x * sval y).natAbs = p at *
  generalize PZ = Z at *
  have h3 : 2 * UU * d ≤ 2 * UU * E := Nat.mul_le_mul_left _ h1
  rcases h2 with h2 | h2
  · have : 2 * UU * E = 2 * (E * UU) := by grind
    omega
  · have : UU * (2 * E) ≤ UU * Z := Nat.mul_le_mul_left _ h2
    have e : UU * (2 * E) = 2 * UU * E := by grind
    omega
theorem dot_nil (xs ys : List Nat) : dotTo xs ys 0 = 0 := rfl
theorem dot_suc (xs ys : List Nat) (k : Nat) : dotTo xs ys (k + 1) = fadd (dotTo xs ys k) (fmul (xs.getD k 0) (ys.getD k 0)) := rfl
theorem dev_step {xs ys : List Nat} {k : Nat} (hf : rung (dotTo xs ys (k + 1)) < 9218868437227405312) :
    UU * dev xs ys (k + 1) ≤ (UU + 1) * (dev xs ys k + (sval (fmul (xs.getD k 0) (ys.getD k 0)) * (PZ : Nat) - sval (xs.getD k 0) * sval (ys.getD k 0)).natAbs) + (amtV xs ys k + (sval (xs.getD k 0) * sval (ys.getD k 0)).natAbs) := by
  have hf' := hf
  rw [dot_suc] at hf'
  obtain ⟨h1, h2⟩ := fadd_fin2 hf'
  have h3 := fadd_err h1 h2 hf'
  have h4 := sumV_amt xs ys k
  unfold dev
  rw [dot_suc]
  show UU * (sval (fadd (dotTo xs ys k) (fmul (xs.getD k 0) (ys.getD k 0))) * (PZ : Nat) - (sumV xs ys k + sval (xs.getD k 0) * sval (ys.getD k 0))).natAbs ≤ _
  generalize sval (fadd (dotTo xs ys k) (fmul (xs.getD k 0) (ys.getD k 0))) = s' at *
  generalize sval (dotTo xs ys k) = s at *
  generalize sval (fmul (xs.getD k 0) (ys.getD k 0)) = m at *
  generalize sval (xs.getD k 0) * sval (ys.getD k 0) = p at *
  generalize sumV xs ys k = S at *
  generalize amtV xs ys k = A at *
  have hz : ((PZ : Nat) : Int).natAbs = PZ := Int.natAbs_natCast _
  have e1 : (s' * (PZ : Nat) - (s * (PZ : Nat) + m * (PZ : Nat))).natAbs = (s' - (s + m)).natAbs * PZ := by
    rw [← Int.add_mul, ← Int.sub_mul, Int.natAbs_mul, hz]
  have e2 : (s * (PZ : Nat) + m * (PZ : Nat)).natAbs = (s + m).natAbs * PZ := by rw [← Int.add_mul, Int.natAbs_mul, hz]
  have h5 := Nat.mul_le_mul_right PZ h3
  rw [Nat.mul_right_comm, ← e1, ← e2] at h5
  generalize s' * (PZ : Nat) = a at *
  generalize s * (PZ : Nat) = b at *
  generalize m * (PZ : Nat) = c at *
  have h6 : (a - (S + p)).natAbs ≤ (a - (b + c)).natAbs + ((b - S).natAbs + (c - p).natAbs) := by omega
  have h7 : (b + c).natAbs ≤ (A + p.natAbs) + ((b - S).natAbs + (c - p).natAbs) := by omega
  have h8 := Nat.mul_le_mul_left UU h6
  grind
theorem dot_fin {xs ys : List Nat} : ∀ {n k : Nat}, k ≤ n → rung (dotTo xs ys n) < 9218868437227405312 → rung (dotTo xs ys k) < 9218868437227405312
  | 0, k, hk, h => by rw [Nat.le_zero.1 hk]; exact h
  | n + 1, k, hk, h => by
    by_cases e : k = n + 1
    · rw [e]; exact h
    · exact dot_fin (n := n) (by omega) (fadd_fin2 h).1
theorem dev_le {xs ys : List Nat} (hy : ∀ k, fmul (xs.getD k 0) (ys.getD k 0) < 2 ^ 64) : ∀ {k : Nat}, k ≤ 11 → rung (dotTo xs ys (k + 1)) < 9218868437227405312 →
    2 * KK * UU * dev xs ys (k + 1) ≤ (k + 1) * (KK + 1) * (2 * amtV xs ys (k + 1) + UU * PZ)
  | 0, _, hf => by
    have hf' := hf
    rw [dot_suc, dot_nil] at hf'
    have h2 := (fadd_fin2 hf').2
    have h3 := fadd_zero (hy 0) h2
    have h4 := mul_dev h2
    have e : dev xs ys 1 = (sval (fmul (xs.getD 0 0) (ys.getD 0 0)) * (PZ : Nat) - sval (xs.getD 0 0) * sval (ys.getD 0 0)).natAbs := by
      unfold dev
      rw [dot_suc, dot_nil]
      show (sval (fadd 0 (fmul (xs.getD 0 0) (ys.getD 0 0))) * (PZ : Nat) - (0 + sval (xs.getD 0 0) * sval (ys.getD 0 0))).natAbs = _
      rw [h3.2, Int.zero_add]
    have e2 : amtV xs ys 1 = (sval (xs.getD 0 0) * sval (ys.getD 0 0)).natAbs := by
      show 0 + _ = _
      rw [Nat.zero_add]
    rw [e, e2]
    generalize (sval (fmul (xs.getD 0 0) (ys.getD 0 0)) * (PZ : Nat) - sval (xs.getD 0 0) * sval (ys.getD 0 0)).natAbs = d at *
    generalize (sval (xs.getD 0 0) * sval (ys.getD 0 0)).natAbs = p at *
    exact wilk0 h4
  | k + 1, hk, hf => by
    have hf' := hf
    rw [dot_suc] at hf'
    have h1 := (fadd_fin2 hf').1
    have h2 := (fadd_fin2 hf').2
    clear hf'
    exact wilk1 (dev_le hy (k := k) (by omega) h1) (mul_dev h2) (dev_step hf) (by omega) kk_uu
/-- Wilkinson's bound. -/
theorem near_le {xs ys : List Nat} {n : Nat} (hy : ∀ k, fmul (xs.getD k 0) (ys.getD k 0) < 2 ^ 64) (hn : n ≤ 12) (hf : rung (dotTo xs ys n) < 9218868437227405312) :
    dev xs ys n * UU ≤ amtV xs ys n * (n + 1) + n * (PZ * UU) := by
  cases n with
  | zero =>
    have : dev xs ys 0 = 0 := by
      unfold dev
      show (sval 0 * (PZ : Nat) - 0).natAbs = 0
      rw [show sval 0 = 0 by decide +kernel, Int.zero_mul]
      rfl
    rw [this, Nat.zero_mul]; exact Nat.zero_le _
  | succ k =>
    exact wilk2 (dev_le hy (k := k) (by omega) hf) hn (by decide)
end Go.Bn
namespace Go.Bn
open Go
def Exa.abs (x : Exa) : Exa := ⟨(x.m.natAbs : Int), x.e⟩
def wholeX (n : Int) : Exa := ⟨n, 0⟩
def powX (e : Int) : Exa := ⟨1, e⟩
def prdX (xs ys : List Nat) (k : Nat) : Exa := (ofX (xs.getD k 0)).mul (ofX (ys.getD k 0))
def amtX (xs ys : List Nat) : Nat → Exa
  | 0 => Exa.zero
  | k + 1 => (amtX xs ys k).add ((prdX xs ys k).abs)
theorem whole_add (n : Int) : (wholeX n).add (wholeX 1) = wholeX (n + 1) := by
  unfold Exa.add
  split
  · rename_i h
    have : n = 0 := h
    subst this; rfl
  · split
    · rename_i h
      exact absurd (show (1 : Int) = 0 from h) (by decide)
    · show (⟨((wholeX n).low 0).m + ((wholeX 1).low 0).m, 0⟩ : Exa) = ⟨n + 1, 0⟩
      rfl
/-- From 2^-2201 on, and not too great. -/
structure Exg (x : Exa) (k : Nat) : Prop where
  e0 : -2201 ≤ x.e
  e1 : x.e ≤ 8192
  hb : ((xv 2201 x).natAbs : Int) ≤ (k : Int) * wpw 200
theorem wpw_200 {k : Nat} (hk : k ≤ 1000) : (k : Int) * wpw 200 < wpw 4000 := by
  have h1 : (1000 : Int) < wpw 1 := by decide +kernel
  have h2 := wpw_pos 200
  have h3 := wpw_mono (show 1 + 200 ≤ 4000 by omega)
  rw [wpw_add] at h3
  have h4 : (k : Int) * wpw 200 ≤ 1000 * wpw 200 := Int.mul_le_mul_of_nonneg_right (by omega) (by omega)
  have h5 := Int.mul_lt_mul_of_pos_right h1 (show 0 < wpw 200 by omega)
  omega
theorem abs_pow (m : Int) (n : Nat) : ((m * 2 ^ n).natAbs : Int) = (m.natAbs : Int) * 2 ^ n := by
  rw [Int.natAbs_mul, Int.natCast_mul]
  have e1 : (((2 : Int) ^ n).natAbs : Int) = 2 ^ n := by
    have := pow_one_le n
    omega
  rw [e1]
theorem exg_low {x : Exa} {k : Nat} (h : Exg x k) {e : Int} (he : -2201 ≤ e) : ((x.low e).m.natAbs : Int) ≤ (k : Int) * wpw 200 := by
  refine Int.le_trans ?_ h.hb
  rw [← xv_low (E := 2201) (x := x) (show -((2201 : Nat) : Int) ≤ e by omega)]
  unfold xv
  rw [abs_pow]
  have h2 := pow_one_le ((x.low e).e + ((2201 : Nat) : Int)).toNat
  have := Int.mul_le_mul_of_nonneg_left h2 (show (0 : Int) ≤ ((x.low e).m.natAbs : Int) by omega)
  omega
theorem exg_sml {x : Exa} {k : Nat} (h : Exg x k) (hk : k ≤ 1000) {e : Int} (he : -2201 ≤ e) : Sml (x.low e).m := ⟨Int.lt_of_le_of_lt (exg_low h he) (wpw_200 hk)⟩
theorem exg_exb {x : Exa} {k : Nat} (h : Exg x k) (hk : k ≤ 1000) : Exb x := by
  have h1 := exg_sml h hk h.e0
  rw [low_self] at h1
  exact ⟨h1, by have := h.e0; omega, by have := h.e1; omega⟩
theorem exg_up {x : Exa} {k l : Nat} (h : Exg x k) (hl : k ≤ l) : Exg x l := ⟨h.e0, h.e1, Int.le_trans h.hb (Int.mul_le_mul_of_nonneg_right (by omega) (by have := wpw_pos 200; omega))⟩
theorem exg_add {x y : Exa} {k l : Nat} (hx : Exg x k) (hy : Exg y l) : Exg (x.add y) (k + l) := by
  have g0 := hx.e0
  have g1 := hy.e0
  have g2 := hx.e1
  have g3 := hy.e1
  refine ⟨add_e (E := 2201) g0 g1, ?_, ?_⟩
  · unfold Exa.add
    split
    · exact g3
    · split
      · exact g2
      · show min x.e y.e ≤ 8192
        omega
  · rw [xv_add (E := 2201) g0 g1, Int.natCast_add, Int.add_mul]
    have h3 := hx.hb
    have h4 := hy.hb
    omega
theorem exg_neg {x : Exa} {k : Nat} (h : Exg x k) : Exg x.neg k := ⟨h.e0, h.e1, by rw [xv_neg, Int.natAbs_neg]; exact h.hb⟩
theorem xv_abs (E : Nat) (x : Exa) : xv E x.abs = ((xv E x).natAbs : Int) := by
  unfold xv
  rw [abs_pow]
  rfl
theorem exg_abs {x : Exa} {k : Nat} (h : Exg x k) : Exg x.abs k := ⟨h.e0, h.e1, by rw [xv_abs, Int.natAbs_natCast]; exact h.hb⟩
theorem xv_up {E F : Nat} {x : Exa} (h : -(E : Int) ≤ x.e) : xv (E + F) x = xv E x * 2 ^ F := by
  unfold xv
  rw [Int.mul_assoc, ← Int.pow_add, show (x.e + ((E + F : Nat) : Int)).toNat = (x.e + (E : Int)).toNat + F by omega]
theorem scl_xv (x : Exa) : sclI x = ((xv 2148 x).natAbs : Int) := by
  unfold xv sclI
  rw [abs_pow]
  rfl
theorem wpw_142 {k : Nat} {z : Int} (hz0 : 0 ≤ z) (hz : z ≤ (k : Int) * wpw 140) : z * 2 ^ 53 ≤ (k : Int) * wpw 200 := by
  have h1 : (2 : Int) ^ 53 ≤ wpw 2 := pow_le_wpw (by omega)
  have h2 : z * 2 ^ 53 ≤ z * wpw 2 := Int.mul_le_mul_of_nonneg_left h1 hz0
  have h3 : z * wpw 2 ≤ (k : Int) * wpw 140 * wpw 2 := Int.mul_le_mul_of_nonneg_right hz (by have := wpw_pos 2; omega)
  rw [Int.mul_assoc, ← wpw_add] at h3
  have h4 : (k : Int) * wpw (140 + 2) ≤ (k : Int) * wpw 200 := Int.mul_le_mul_of_nonneg_left (wpw_mono (by omega)) (by omega)
  omega
theorem exg_of {x : Exa} {k : Nat} (h : Exq x k) : Exg x k := by
  have g0 := h.e0
  have g1 := h.e1
  have g2 := h.hb
  refine ⟨by omega, by omega, ?_⟩
  rw [show (2201 : Nat) = 2148 + 53 from rfl, xv_up (E := 2148) g0, abs_pow, ← scl_xv]
  exact wpw_142 (by rw [scl_xv]; omega) g2
theorem exg_ofX {x : Nat} (hf : finB x = true) (hx : x < 2 ^ 64) : Exg (ofX x) 1 := by
  obtain ⟨a1, a2⟩ := ofX_e hf hx
  have c1 := ofX_small x
  refine ⟨by omega, by omega, ?_⟩
  unfold xv
  rw [abs_pow]
  have h2 : (9007199254740992 : Int) ≤ wpw 2 := by decide +kernel
  have h3 : (2 : Int) ^ ((ofX x).e + ((2201 : Nat) : Int)).toNat ≤ wpw 102 := pow_le_wpw (by omega)
  have h4 := Int.mul_le_mul (show ((ofX x).m.natAbs : Int) ≤ wpw 2 by omega) h3 (by have := pow_one_le ((ofX x).e + ((2201 : Nat) : Int)).toNat; omega) (by have := wpw_pos 2; omega)
  rw [← wpw_add] at h4
  have h5 := wpw_mono (show 2 + 102 ≤ 200 by omega)
  omega
/-- All numbers are finite. -/
def FinL (xs : List Nat) : Prop := ∀ k, finB (xs.getD k 0) = true ∧ xs.getD k 0 < 2 ^ 64
theorem exq_abs {x : Exa} {k : Nat} (h : Exq x k) : Exq x.abs k := ⟨h.e0, h.e1, h.hb⟩
theorem prd_exq {xs ys : List Nat} (hx : FinL xs) (hy : FinL ys) (k : Nat) : Exq (prdX xs ys k) 1 := exq_mul (hx k).1 (hx k).2 (hy k).1 (hy k).2
theorem amt_exq {xs ys : List Nat} (hx : FinL xs) (hy : FinL ys) : ∀ k, Exq (amtX xs ys k) k
  | 0 => exq_zero
  | k + 1 => exq_add (amt_exq hx hy k) (exq_abs (prd_exq hx hy k))
theorem dotx_exq {xs ys : List Nat} (hx : FinL xs) (hy : FinL ys) : ∀ k, Exq (dotX xs ys k) k
  | 0 => exq_zero
  | k + 1 => exq_add (dotx_exq hx hy k) (prd_exq hx hy k)
theorem xv_prd {xs ys : List Nat} (hx : FinL xs) (hy : FinL ys) (k : Nat) : xv 2148 (prdX xs ys k) = sval (xs.getD k 0) * sval (ys.getD k 0) := by
  have h5 := xv_mul (E := 1074) (F := 1074) (x := ofX (xs.getD k 0)) (y := ofX (ys.getD k 0)) (ofX_e (hx k).1 (hx k).2).1 (ofX_e (hy k).1 (hy k).2).1
  rw [xv_of, xv_of] at h5
  exact h5
theorem xv_dotx {xs ys : List Nat} (hx : FinL xs) (hy : FinL ys) : ∀ k, xv 2148 (dotX xs ys k) = sumV xs ys k
  | 0 => xv_zero _
  | k + 1 => by
    have h3 := (dotx_exq hx hy k).e0
    have h4 := (prd_exq hx hy k).e0
    show xv 2148 ((dotX xs ys k).add (prdX xs ys k)) = _
    rw [sumV, xv_add h3 h4, xv_dotx hx hy k, xv_prd hx hy k]
theorem xv_amt {xs ys : List Nat} (hx : FinL xs) (hy : FinL ys) : ∀ k, xv 2148 (amtX xs ys k) = (amtV xs ys k : Int)
  | 0 => xv_zero _
  | k + 1 => by
    have h3 := (amt_exq hx hy k).e0
    have h4 := (exq_abs (prd_exq hx hy k)).e0
    rw [amtX, amtV, xv_add h3 h4, xv_amt hx hy k, xv_abs, xv_prd hx hy k]
    omega
theorem exq_mulw {x : Exa} {k w : Nat} (h : Exq x k) : Exq (x.mul (wholeX (w : Int))) (k * w) ∧ xv 2148 (x.mul (wholeX (w : Int))) = xv 2148 x * (w : Int) := by
  have e : (x.mul (wholeX (w : Int))).e = x.e := Int.add_zero _
  have hv : xv 2148 (x.mul (wholeX (w : Int))) = xv 2148 x * (w : Int) := by
    unfold xv
    rw [e]
    show x.m * (w : Int) * _ = _
    rw [Int.mul_right_comm]
  refine ⟨⟨by rw [e]; exact h.e0, by rw [e]; exact h.e1, ?_⟩, hv⟩
  rw [scl_xv, hv, Int.natAbs_mul, Int.natCast_mul, Int.natAbs_natCast, ← scl_xv, Int.natCast_mul, Int.mul_right_comm]
  exact Int.mul_le_mul_of_nonneg_right h.hb (by omega)
theorem exg_down {x : Exa} {k : Nat} (h : Exq x k) : Exg (x.mul (powX (-53))) k ∧ xv 2201 (x.mul (powX (-53))) = xv 2148 x := by
  have g0 := h.e0
  have g1 := h.e1
  have hv : xv 2201 (x.mul (powX (-53))) = xv 2148 x := by
    unfold xv
    show (x.m * 1) * 2 ^ (x.e + -53 + ((2201 : Nat) : Int)).toNat = _
    rw [Int.mul_one, show (x.e + -53 + ((2201 : Nat) : Int)) = x.e + ((2148 : Nat) : Int) by omega]
  refine ⟨⟨by show -2201 ≤ x.e + -53; omega, by show x.e + -53 ≤ 8192; omega, ?_⟩, hv⟩
  rw [hv, ← scl_xv]
  refine Int.le_trans h.hb ?_
  exact Int.mul_le_mul_of_nonneg_left (wpw_mono (by omega)) (by omega)
theorem exg_step {w : Nat} : Exg ((wholeX (w : Int)).mul (powX (-1074))) w ∧ xv 2201 ((wholeX (w : Int)).mul (powX (-1074))) = (w : Int) * 2 ^ 1127 := by
  have hv : xv 2201 ((wholeX (w : Int)).mul (powX (-1074))) = (w : Int) * 2 ^ 1127 := by
    unfold xv
    show ((w : Int) * 1) * 2 ^ (0 + -1074 + ((2201 : Nat) : Int)).toNat = _
    rw [Int.mul_one, show (0 + -1074 + ((2201 : Nat) : Int)).toNat = 1127 by omega]
  refine ⟨⟨by show (-2201 : Int) ≤ 0 + -1074; omega, by show (0 : Int) + -1074 ≤ 8192; omega, ?_⟩, hv⟩
  rw [hv, abs_pow, Int.natAbs_natCast]
  exact Int.mul_le_mul_of_nonneg_left (pow_le_wpw (by omega)) (by omega)
def roomX (xs ys : List Nat) (n : Nat) : Exa := (((amtX xs ys n).mul (wholeX ((n : Int) + 1))).mul (powX (-53))).add ((wholeX (n : Int)).mul (powX (-1074)))
/-- All that the law reckons is small, and it says yes. -/
structure NearB (x : Nat) (xs ys : List Nat) : Prop where
  hl : xs.length ≤ ys.length
  hn : xs.length ≤ 12
  hf : finB x = true
  fx : FinL xs
  fy : FinL ys
  hx : Exb (ofX x)
  hp : ∀ k, Exb (prdX xs ys k)
  hq : ∀ k, Exb ((prdX xs ys k).abs)
  hs : ∀ k, k ≤ 12 → Exb (dotX xs ys k)
  hm : ∀ k, k ≤ 12 → Exb (amtX xs ys k)
  hsa : ∀ k, k < 12 → ∀ e, e = min (dotX xs ys k).e (prdX xs ys k).e → Sml ((dotX xs ys k).low e).m ∧ Sml ((prdX xs ys k).low e).m
  hma : ∀ k, k < 12 → ∀ e, e = min (amtX xs ys k).e (prdX xs ys k).abs.e → Sml ((amtX xs ys k).low e).m ∧ Sml ((prdX xs ys k).abs.low e).m
  r1 : Exb ((amtX xs ys xs.length).mul (wholeX ((xs.length : Int) + 1)))
  r2 : Exb (((amtX xs ys xs.length).mul (wholeX ((xs.length : Int) + 1))).mul (powX (-53)))
  r3 : Exb ((wholeX (xs.length : Int)).mul (powX (-1074)))
  r4 : ∀ e, e = min (((amtX xs ys xs.length).mul (wholeX ((xs.length : Int) + 1))).mul (powX (-53))).e ((wholeX (xs.length : Int)).mul (powX (-1074))).e → Sml ((((amtX xs ys xs.length).mul (wholeX ((xs.length : Int) + 1))).mul (powX (-53))).low e).m ∧ Sml (((wholeX (xs.length : Int)).mul (powX (-1074))).low e).m
  r5 : Exb (roomX xs ys xs.length)
  r6 : Exb (roomX xs ys xs.length).neg
  d1 : Exb (dotX xs ys xs.length).neg
  d2 : ∀ e, e = min (ofX x).e (dotX xs ys xs.length).neg.e → Sml ((ofX x).low e).m ∧ Sml ((dotX xs ys xs.length).neg.low e).m
  d3 : Exb ((ofX x).add (dotX xs ys xs.length).neg)
  d4 : Exb ((ofX x).add (dotX xs ys xs.length).neg).abs
  d5 : ∀ e, e = min ((ofX x).add (dotX xs ys xs.length).neg).abs.e (roomX xs ys xs.length).neg.e → Sml (((ofX x).add (dotX xs ys xs.length).neg).abs.low e).m ∧ Sml ((roomX xs ys xs.length).neg.low e).m
  yes : ¬ 0 < ((ofX x).add (dotX xs ys xs.length).neg).abs.cmp (roomX xs ys xs.length)
theorem exg_sml2 {x y : Exa} {k l : Nat} (hx : Exg x k) (hy : Exg y l) (hk : k ≤ 1000) (hl : l ≤ 1000) : ∀ e, e = min x.e y.e → Sml (x.low e).m ∧ Sml (y.low e).m := fun e he => by
  have h1 := hx.e0
  have h2 := hy.e0
  exact ⟨exg_sml hx hk (by omega), exg_sml hy hl (by omega)⟩
theorem whole_exb {w : Nat} (hw : w ≤ 100) : Exb (wholeX (w : Int)) := ⟨sml_of (by show ((w : Int)).natAbs < _; omega), by show (-1000000 : Int) ≤ 0; omega, by show (0 : Int) ≤ 1000000; omega⟩
theorem whole_low {w : Nat} (hw : w ≤ 100) : ∀ e, e = min (wholeX (w : Int)).e (wholeX ((1 : Nat) : Int)).e → Sml ((wholeX (w : Int)).low e).m ∧ Sml ((wholeX ((1 : Nat) : Int)).low e).m := fun e he => by
  have he : e = 0 := he
  subst he
  exact ⟨(whole_exb hw).h, (whole_exb (w := 1) (by omega)).h⟩
theorem cmp_no {z : Int} (h : ¬ 0 < z) : cmpB .leq z 0 = true := by unfold cmpB; simp; omega
theorem pow_exb {e : Int} (h0 : -1000000 ≤ e) (h1 : e ≤ 1000000) : Exb (powX e) := ⟨sml_of (by show ((1 : Int)).natAbs < _; decide), h0, h1⟩
theorem two_cast (n : Nat) : (2 : Int) ^ n = ((2 ^ n : Nat) : Int) := by rw [Int.natCast_pow]; rfl
theorem pz_top {N : Nat} (h : N = NZ + 53) : (2 : Int) ^ N = ((PZ * UU : Nat) : Int) := by
  have u : UU = 2 ^ 53 := by decide
  rw [two_cast, u, pz_pow, h]
theorem pz_1127 : (2 : Int) ^ 1127 = ((PZ * UU : Nat) : Int) := pz_top (by rw [nz])
theorem near_cmp {D A n Z : Nat} (h : D * UU ≤ A * (n + 1) + n * Z) : ((D : Int)) * ((UU : Nat) : Int) ≤ (A : Int) * ((n : Int) + 1) + (n : Int) * (Z : Int) := by
  have := Int.ofNat_le.2 h
  simpa [Int.natCast_mul, Int.natCast_add] using this
theorem nearB_of {x : Nat} {xs ys : List Nat} (fx : FinL xs) (fy : FinL ys) (hl : xs.length ≤ ys.length) (hn : xs.length ≤ 12) (hx : x = dotTo xs ys xs.length) (hx2 : x < 2 ^ 64) (hf : finB x = true) : NearB x xs ys := by
  have gx := exg_ofX hf hx2
  have gs := fun k => exg_of (dotx_exq fx fy k)
  have gm := fun k => exg_of (amt_exq fx fy k)
  have gp := fun k => exg_of (prd_exq fx fy k)
  have gq := fun k => exg_abs (gp k)
  obtain ⟨n, hnn⟩ : ∃ n, xs.length = n := ⟨_, rfl⟩
  have w1 := exq_mulw (w := n + 1) (amt_exq fx fy n)
  rw [show (((n + 1 : Nat)) : Int) = (n : Int) + 1 from rfl] at w1
  have w2 := exg_down w1.1
  have w3 := @exg_step n
  have b1 : n * (n + 1) ≤ 12 * 13 := Nat.mul_le_mul (by omega) (by omega)
  have w4 := exg_add w2.1 w3.1
  have gn := exg_neg (gs n)
  have gd := exg_add gx gn
  have ga := exg_abs gd
  have gr := exg_neg w4
  rw [hnn] at hn hx hl
  refine ⟨by rw [hnn]; exact hl, by rw [hnn]; exact hn, hf, fx, fy, exg_exb gx (by omega), fun k => exg_exb (gp k) (by omega), fun k => exg_exb (gq k) (by omega), fun k hk => exg_exb (gs k) (by omega), fun k hk => exg_exb (gm k) (by omega),
    fun k hk => exg_sml2 (gs k) (gp k) (by omega) (by omega), fun k hk => exg_sml2 (gm k) (gq k) (by omega) (by omega), ?_, ?_, ?_, ?_, ?_, ?_, ?_, ?_, ?_, ?_, ?_, ?_⟩ <;> rw [hnn]
  · exact exg_exb (exg_of w1.1) (by omega)
  · exact exg_exb w2.1 (by omega)
  · exact exg_exb w3.1 (by omega)
  · exact exg_sml2 w2.1 w3.1 (by omega) (by omega)
  · exact exg_exb w4 (by omega)
  · exact exg_exb gr (by omega)
  · exact exg_exb gn (by omega)
  · exact exg_sml2 gx gn (by omega) (by omega)
  · exact exg_exb gd (by omega)
  · exact exg_exb ga (by omega)
  · exact exg_sml2 ga gr (by omega) (by omega)
  · refine cmp_le (E := 2201) ga.e0 w4.e0 ?_
    have hr : rung (dotTo xs ys n) < 9218868437227405312 := by rw [← hx]; exact (finB_iff hx2).1 hf
    have key := near_cmp (near_le (xs := xs) (ys := ys) (n := n) (fun k => fop_lt (op := .mul)) hn hr)
    have e1 : xv 2201 (roomX xs ys n) = (amtV xs ys n : Int) * ((n : Int) + 1) + (n : Int) * ((PZ * UU : Nat) : Int) := by
      unfold roomX
      rw [xv_add (E := 2201) w2.1.e0 w3.1.e0, w2.2, w3.2, w1.2, xv_amt fx fy n, pz_1127]
    have e2 : xv 2201 ((ofX x).add (dotX xs ys n).neg) = (sval x * (PZ : Nat) - sumV xs ys n) * ((UU : Nat) : Int) := by
      rw [xv_add (E := 2201) gx.e0 gn.e0, xv_neg]
      rw [show (2201 : Nat) = 1074 + 1127 from rfl, xv_up (E := 1074) (ofX_e hf hx2).1, xv_of, pz_1127]
      rw [show (1074 + 1127 : Nat) = 2148 + 53 from rfl, xv_up (E := 2148) (dotx_exq fx fy n).e0, xv_dotx fx fy n, show (2 : Int) ^ 53 = ((UU : Nat) : Int) from rfl, Int.sub_mul, Int.natCast_mul, Int.mul_assoc]
      rfl
    rw [xv_abs, e1, e2, Int.natAbs_mul, Int.natAbs_natCast, Int.natCast_mul]
    rw [hx]
    exact key
/-! ### Rows, columns and lists of finite numbers -/
theorem finL_all {xs : List Nat} (h : xs.all finB = true) (h2 : xs.all (fun x => decide (x < 2 ^ 64)) = true) : FinL xs := fun k => by
  by_cases hk : k < xs.length
  · exact ⟨List.all_eq_true.1 h _ (mem_getD 0 hk), of_decide_eq_true (List.all_eq_true.1 h2 _ (mem_getD 0 hk))⟩
  · rw [List.getD, List.getElem?_eq_none (by omega)]
    exact ⟨by decide, by decide⟩
theorem finL_range {g : Nat → Nat} {m : Nat} (h : ∀ k, finB (g k) = true ∧ g k < 2 ^ 64) : FinL ((List.range m).map g) := fun k => by
  by_cases hk : k < m
  · rw [List.getD, List.getElem?_eq_getElem (by simpa using hk)]
    simp only [List.getElem_map, List.getElem_range, Option.getD_some]
    exact h k
  · rw [List.getD, List.getElem?_eq_none (by simpa using hk)]
    exact ⟨by decide, by decide⟩
theorem finL_row {c : Int} {xs : List Nat} {i : Int} (h : FinL xs) : FinL (rowL c xs i) := finL_range fun k => h _
theorem finL_col {r c : Int} {xs : List Nat} {j : Int} (h : FinL xs) : FinL (colL r c xs j) := finL_range fun k => h _
theorem finB_getD {xs : List Nat} (h : xs.all finB = true) (k : Nat) : finB (xs.getD k 0) = true := by
  by_cases hk : k < xs.length
  · exact List.all_eq_true.1 h _ (mem_getD 0 hk)
  · rw [List.getD, List.getElem?_eq_none (by omega)]
    decide
theorem dotTo_lt (xs ys : List Nat) : ∀ n, dotTo xs ys n < 2 ^ 64
  | 0 => by show 0 < 2 ^ 64; decide
  | n + 1 => fop_lt (op := .add)
theorem orR_e {e : Int} {x : MR} (h : (orR e x).e = 0) : e = 0 ∧ orR e x = x := by
  unfold orR at *
  by_cases h0 : e = 0
  · exact ⟨h0, if_pos h0⟩
  · rw [if_neg h0] at h
    exact (h0 h).elim
theorem orL_e {e : Int} {x : LR} (h : (orL e x).e = 0) : e = 0 ∧ orL e x = x := by
  unfold orL at *
  by_cases h0 : e = 0
  · exact ⟨h0, if_pos h0⟩
  · rw [if_neg h0] at h
    exact (h0 h).elim
theorem orN_e {e : Int} {x : NR} (h : (orN e x).e = 0) : e = 0 ∧ orN e x = x := by
  unfold orN at *
  by_cases h0 : e = 0
  · exact ⟨h0, if_pos h0⟩
  · rw [if_neg h0] at h
    exact (h0 h).elim
theorem mulR_fin {r c r' c' : Int} {xs ys : List Nat} (h : (mulR r c xs r' c' ys).e = 0) : mulE r c xs r' c' ys = 0 ∧ mulR r c xs r' c' ys = ⟨r, c', prodG r c xs c' ys, 0⟩ ∧ (prodG r c xs c' ys).all finB = true := by
  obtain ⟨h1, h2⟩ := orR_e h
  have h2 : mulR r c xs r' c' ys = toldR r c' (prodG r c xs c' ys) := h2
  rw [h2] at h ⊢
  unfold toldR at *
  by_cases hf : (prodG r c xs c' ys).all finB = false
  · rw [if_pos hf] at h
    exact absurd h (by decide)
  · rw [if_neg hf]
    exact ⟨h1, rfl, by simpa using hf⟩
theorem mvR_fin {r c : Int} {xs ys : List Nat} (h : (mvR r c xs ys).e = 0) : mvE r c xs ys = 0 ∧ mvR r c xs ys = ⟨mvG r c xs ys, 0⟩ ∧ (mvG r c xs ys).all finB = true := by
  obtain ⟨h1, h2⟩ := orL_e h
  have h2 : mvR r c xs ys = toldL (mvG r c xs ys) := h2
  rw [h2] at h ⊢
  unfold toldL at *
  by_cases hf : (mvG r c xs ys).all finB = false
  · rw [if_pos hf] at h
    exact absurd h (by decide)
  · rw [if_neg hf]
    exact ⟨h1, rfl, by simpa using hf⟩
theorem mul_ok0 {r c r' c' : Int} {xs ys : List Nat} (h : (mulR r c xs r' c' ys).e = 0) : fstE [chk r c xs, chk r' c' ys] = 0 := by
  have h1 := (mulR_fin h).1
  unfold mulE at h1
  rw [fst3] at h1
  exact fst2.2 ⟨h1.1, h1.2.1⟩
theorem mv_ok0 {r c : Int} {xs ys : List Nat} (h : (mvR r c xs ys).e = 0) : fstE [chk r c xs, lchk ys] = 0 := by
  have h1 := (mvR_fin h).1
  unfold mvE at h1
  rw [fst3] at h1
  exact fst2.2 ⟨h1.1, h1.2.1⟩
theorem finL_of {bs : List Nat} (hb : ∀ b, b ∈ bs → b < 2 ^ 64) (h : (bs.map cn).all finB = true) : FinL (bs.map cn) := finL_all h (all_cn hb)
theorem rowR_at {r c i : Int} {xs : List Nat} (hc : chk r c xs = 0) (i0 : 0 ≤ i) (i1 : i < r) : rowR r c xs i = ⟨rowL c xs i, 0⟩ := by
  unfold rowR rowE orL
  have : outB i r = false := by unfold outB; simp; omega
  rw [hc, this]
  rfl
theorem colR_at {r c j : Int} {xs : List Nat} (hc : chk r c xs = 0) (i0 : 0 ≤ j) (i1 : j < c) : colR r c xs j = ⟨colL r c xs j, 0⟩ := by
  unfold colR rowE orL
  have : outB j c = false := by unfold outB; simp; omega
  rw [hc, this]
  rfl
/-- A number of a product is near. -/
theorem mul_near {r c r' c' i j : Int} {bs cs : List Nat} (hb : ∀ b, b ∈ bs → b < 2 ^ 64) (hc : ∀ b, b ∈ cs → b < 2 ^ 64) (h : (mulR r c (bs.map cn) r' c' (cs.map cn)).e = 0) (i0 : 0 ≤ i) (i1 : i < r) (j0 : 0 ≤ j) (j1 : j < c') :
    (getR (mulR r c (bs.map cn) r' c' (cs.map cn)).r (mulR r c (bs.map cn) r' c' (cs.map cn)).c (mulR r c (bs.map cn) r' c' (cs.map cn)).a i j).e = 0 ∧ (rowR r c (bs.map cn) i).a.length = (colR r' c' (cs.map cn) j).a.length ∧
    NearB (getR (mulR r c (bs.map cn) r' c' (cs.map cn)).r (mulR r c (bs.map cn) r' c' (cs.map cn)).c (mulR r c (bs.map cn) r' c' (cs.map cn)).a i j).a (rowR r c (bs.map cn) i).a (colR r' c' (cs.map cn) j).a := by
  obtain ⟨h1, h2, h3⟩ := mulR_fin h
  obtain ⟨g1, g2, g3, g4, g5⟩ := mulE_good h1
  have q1 : chk r c (bs.map cn) = 0 := chk_zero.2 ⟨g1, g4⟩
  subst g3
  have q2 : chk r' c' (cs.map cn) = 0 := chk_zero.2 ⟨g2, g5⟩
  have q3 : chk r c' (prodG r r' (bs.map cn) c' (cs.map cn)) = 0 := chk_zero.2 ⟨good_prod g1 g2, h3⟩
  rw [h2, rowR_at q1 i0 i1, colR_at q2 j0 j1]
  have hg : getR r c' (prodG r r' (bs.map cn) c' (cs.map cn)) i j = ⟨dotL (rowL r' (bs.map cn) i) (colL r' c' (cs.map cn) j), 0⟩ := by
    unfold getR getE orN
    have : insB r c' i j = true := insB_iff.2 ⟨i0, i1, j0, j1⟩
    rw [q3, this]
    show (⟨mat c' (prodG r r' (bs.map cn) c' (cs.map cn)) i j, 0⟩ : NR) = _
    rw [show mat c' (prodG r r' (bs.map cn) c' (cs.map cn)) i j = _ from mat_grid i0 i1 j0 j1]
  have hf : finB (dotL (rowL r' (bs.map cn) i) (colL r' c' (cs.map cn) j)) = true := by
    have := finB_getD h3 (i * c' + j).toNat
    rw [← show mat c' (prodG r r' (bs.map cn) c' (cs.map cn)) i j = _ from mat_grid i0 i1 j0 j1]
    exact this
  have hs := g2.1
  have hl : (rowL r' (bs.map cn) i).length = (colL r' c' (cs.map cn) j).length := by rw [length_rowL, length_colL]
  rw [hg]
  refine ⟨rfl, hl, nearB_of (finL_row (finL_of hb g4)) (finL_col (finL_of hc g5)) (Nat.le_of_eq hl) ?_ rfl (dotTo_lt _ _ _) hf⟩
  rw [length_rowL]
  have := hs.1
  have := hs.2.1
  omega
/-- A number of a matrix times a list is near. -/
theorem mv_near {r c i : Int} {bs us : List Nat} (hb : ∀ b, b ∈ bs → b < 2 ^ 64) (hu : ∀ b, b ∈ us → b < 2 ^ 64) (h : (mvR r c (bs.map cn) (us.map cn)).e = 0) (i0 : 0 ≤ i) (i1 : i < r) :
    ((mvR r c (bs.map cn) (us.map cn)).a.length : Int) = r ∧ ((rowR r c (bs.map cn) i).a.length : Int) = us.length ∧ NearB ((mvR r c (bs.map cn) (us.map cn)).a.getD i.toNat 0) (rowR r c (bs.map cn) i).a (us.map cn) := by
  obtain ⟨h1, h2, h3⟩ := mvR_fin h
  obtain ⟨g1, g2, g4, g5⟩ := mvE_good h1
  have q1 : chk r c (bs.map cn) = 0 := chk_zero.2 ⟨g1, g4⟩
  rw [h2, rowR_at q1 i0 i1]
  obtain ⟨s1, s2, s3, s4⟩ := g1.1
  have hlen : (mvG r c (bs.map cn) (us.map cn)).length = r.toNat := length_mvG
  have hv : (mvG r c (bs.map cn) (us.map cn)).getD i.toNat 0 = dotL (rowL c (bs.map cn) i) (us.map cn) := by
    unfold mvG
    rw [List.getD, List.getElem?_eq_getElem (by simp; omega)]
    simp only [List.getElem_map, List.getElem_range, Option.getD_some]
    rw [show ((i.toNat : Nat) : Int) = i by omega]
  have hf := finB_getD h3 i.toNat
  rw [hv] at hf
  rw [List.length_map] at g2
  have hl : (rowL c (bs.map cn) i).length = (us.map cn).length := by rw [length_rowL, List.length_map]; omega
  refine ⟨by show ((mvG r c (bs.map cn) (us.map cn)).length : Int) = r; omega, by show ((rowL c (bs.map cn) i).length : Int) = _; rw [hl, List.length_map], ?_⟩
  show NearB ((mvG r c (bs.map cn) (us.map cn)).getD i.toNat 0) (rowL c (bs.map cn) i) (us.map cn)
  rw [hv]
  refine nearB_of (finL_row (finL_of hb g4)) (finL_of hu g5) (Nat.le_of_eq hl) ?_ rfl (dotTo_lt _ _ _) hf
  rw [length_rowL]
  omega
/-- The dot product of a list with itself is near. -/
theorem dot_near {us : List Nat} (hu : ∀ b, b ∈ us → b < 2 ^ 64) (h : (dotR (us.map cn) (us.map cn)).e = 0) : NearB (dotR (us.map cn) (us.map cn)).a (us.map cn) (us.map cn) := by
  obtain ⟨h1, h2⟩ := orN_e h
  have h2 : dotR (us.map cn) (us.map cn) = numR (dotL (us.map cn) (us.map cn)) := h2
  have h9 := (dotE_good h1).2
  have hlt := dotTo_lt (us.map cn) (us.map cn) (us.map cn).length
  have hfin : (us.map cn).all finB = true := by
    have h1 := h1
    unfold dotE at h1
    rw [fst3] at h1
    exact (lchk_zero.1 h1.1).2
  rw [h2] at h ⊢
  unfold numR at *
  rw [over_fin (show dotL (us.map cn) (us.map cn) < 2 ^ 64 from hlt)] at *
  by_cases hf : finB (dotL (us.map cn) (us.map cn)) = true
  · rw [if_neg (by simp [hf])]
    exact nearB_of (finL_of hu hfin) (finL_of hu hfin) (Nat.le_refl _) h9 rfl hlt hf
  · rw [if_pos (by simp [hf])] at h
    exact absurd h (by decide)
theorem near_dead {e f : Int} (h : (cmpB .eql e 0 && cmpB .neq f 0) = true) (hf : e = 0 → f = 0) : False := by
  simp [cmpB] at h
  exact h.2 (hf h.1)
theorem near_dead3 {g a b : Int} (h : ((cmpB .neq g 0 || cmpB .neq a b) || !true) = true) (h1 : g = 0) (h2 : a = b) : False := by
  subst h1; subst h2
  simp [cmpB] at h
theorem near_dead4 {a b c d : Int} (h : ((cmpB .neq a b || cmpB .neq c d) || !true) = true) (h1 : a = b) (h2 : c = d) : False := by
  subst h1; subst h2
  simp [cmpB] at h
theorem near_e {e : Int} (h : cmpB .neq e 0 = false) : e = 0 := by simpa [cmpB] using h
end Go.Bn
