/-
 Numbers with their signs: what sums, products, quotients and roots are rounded from, how far they lie from it, and what is not finite stays so. How far a dot product in order lies from the exact one (Wilkinson). What the law of nearness reckons in exact numbers: all of it is small, and the distance is not above the room.
-/
import Derived.Test.YtllkellonjhalaaGreatOoKd
import Derived.Test.YtllkellonjhalaaGreatOoKe
set_option linter.unusedVariables false
set_option linter.unusedSimpArgs false
namespace Go.Bn
open Go
theorem sval_abs (x : Nat) : (sval x).natAbs = vlu x := by unfold sval; split <;> omega
theorem sval_pos {x : Nat} (h : 0 < sval x) : sgn x = false := by
 unfold sval at h
 cases hs : sgn x
 ·rfl
 ·rw [hs] at h; simp at h; omega
theorem sval_neg {x : Nat} (h : sval x < 0) : sgn x = true := by
 unfold sval at h
 cases hs : sgn x
 ·rw [hs] at h; simp at h; omega
 ·rfl
theorem nearest_sgn {s : Bool} {n : Nat} {p : Int} : sgn (Ieee.double.nearest s n p) = s := by
 unfold Ieee.Format.nearest
 split
 ·exact (@word_parts s 0 (by omega)).1
 ·simp only [infR]
  exact (@word_parts s _ (Nat.min_le_right ..)).1
theorem nearest_lt {s : Bool} {n : Nat} {p : Int} : Ieee.double.nearest s n p < 2 ^ 64 := by
 unfold Ieee.Format.nearest
 split
 ·exact (@word_parts s 0 (by omega)).2.2
 ·simp only [infR]
  exact (@word_parts s _ (Nat.min_le_right ..)).2.2
theorem sval_signed {x : Nat} {b : Int} (h0 : -1074 ≤ b) (h1 : b ≤ plc x) : sval x = Ieee.signed (sgn x) (mgn x) (plc x - b).toNat * 2 ^ (b + 1074).toNat := by
 have e : ((vlu x : Nat) : Int) = ((mgn x <<< (plc x - b).toNat : Nat) : Int) * 2 ^ (b + 1074).toNat := by
  unfold vlu
  rw [Nat.shiftLeft_eq, Int.natCast_mul, Int.natCast_mul, Int.mul_assoc]
  congr 1
  rw [show (plc x + 1074).toNat = (plc x - b).toNat + (b + 1074).toNat by omega, Nat.pow_add, Int.natCast_mul]
  simp
 unfold sval Ieee.signed
 split
 ·rw [Int.neg_mul, e]
 ·exact e
theorem fadd_int {x y : Nat} (hx : rung x < 9218868437227405312) (hy : rung y < 9218868437227405312) :
  fadd x y = Ieee.double.nearest (if sval x + sval y = 0 then sgn x && sgn y else decide (sval x + sval y < 0)) (sval x + sval y).natAbs (-1074) := by
 have px := plc_ge x
 have py := plc_ge y
 obtain ⟨b, hb⟩ : ∃ b, b = min (plc x) (plc y) := ⟨_, rfl⟩
 have ex := sval_signed (x := x) (b := b) (by omega) (by omega)
 have ey := sval_signed (x := y) (b := b) (by omega) (by omega)
 have hp := pow_one_le (b + 1074).toNat
 have e : sval x + sval y = (Ieee.signed (sgn x) (mgn x) (plc x - b).toNat + Ieee.signed (sgn y) (mgn y) (plc y - b).toNat) * 2 ^ (b + 1074).toNat := by
  rw [ex, ey, Int.add_mul]
 unfold fadd Ieee.Format.add
 rw [read_fin hx, read_fin hy]
 simp only [Ieee.Datum.sum, ← hb]
 generalize Ieee.signed (sgn x) (mgn x) (plc x - b).toNat + Ieee.signed (sgn y) (mgn y) (plc y - b).toNat = T at *
 show Ieee.double.nearest _ _ _ = _
 rw [e]
 have hs : (T * 2 ^ (b + 1074).toNat = 0 ↔ T = 0) ∧ (T * 2 ^ (b + 1074).toNat < 0 ↔ T < 0) := by
  generalize (2 : Int) ^ (b + 1074).toNat = W at *
  refine ⟨⟨fun h => ?_, fun h => by rw [h, Int.zero_mul]⟩, ⟨fun h => ?_, fun h => ?_⟩⟩
  ·rcases Int.mul_eq_zero.1 h with h | h
   ·exact h
   ·omega
  ·by_cases hc : T < 0
   ·exact hc
   ·have := Int.mul_nonneg (show 0 ≤ T by omega) (show 0 ≤ W by omega)
    omega
  ·exact Int.mul_neg_of_neg_of_pos h (by omega)
 have es : (if T = 0 then sgn x && sgn y else decide (T < 0)) = (if T * 2 ^ (b + 1074).toNat = 0 then sgn x && sgn y else decide (T * 2 ^ (b + 1074).toNat < 0)) := by
  by_cases h0 : T = 0
  ·rw [if_pos h0, if_pos (hs.1.2 h0)]
  ·rw [if_neg h0, if_neg (fun h => h0 (hs.1.1 h))]
   by_cases h1 : T < 0
   ·rw [decide_eq_true h1, decide_eq_true (hs.2.2 h1)]
   ·rw [decide_eq_false h1, decide_eq_false (fun h => h1 (hs.2.1 h))]
 rw [← es]
 apply nearest_eq
 rw [show min b (-1074 : Int) = -1074 by omega, Int.natAbs_mul, Int.natAbs_pow, show (b - -1074).toNat = (b + 1074).toNat by omega]
 simp
theorem fmul_int {x y : Nat} (hx : rung x < 9218868437227405312) (hy : rung y < 9218868437227405312) :
  fmul x y = Ieee.double.nearest (sgn x ^^ sgn y) (vlu x * vlu y) (-2148) := by
 have px := plc_ge x
 have py := plc_ge y
 rw [fmul_fin hx hy]
 apply nearest_eq
 rw [show min (plc x + plc y) (-2148 : Int) = -2148 by omega]
 unfold vlu
 rw [show (plc x + plc y - -2148).toNat = (plc x + 1074).toNat + (plc y + 1074).toNat by omega, Nat.pow_add]
 simp [Nat.mul_assoc, Nat.mul_left_comm]
def sgz (s : Bool) (n : Nat) : Int := if s then -(n : Int) else n
theorem sval_sgz (x : Nat) : sval x = sgz (sgn x) (vlu x) := rfl
theorem sgz_mul (s t : Bool) (m n : Nat) : sgz s m * sgz t n = sgz (s ^^ t) (m * n) := by
 cases s <;> cases t <;> simp [sgz, Int.neg_mul, Int.mul_neg]
theorem sgz_nat (s : Bool) (m n : Nat) : sgz s m * (n : Int) = sgz s (m * n) := by
 have := sgz_mul s false m n
 simpa [sgz] using this
theorem sgz_sub (s : Bool) (m n : Nat) {E : Nat} (h1 : m ≤ n + E) (h2 : n ≤ m + E) : (sgz s m - sgz s n).natAbs ≤ E := by
 unfold sgz; split <;> omega
theorem nearest_int {s : Bool} {n N : Nat} {p : Int} (hN : 1074 ≤ N) (hp : -(N : Int) ≤ p) (hf : rung (Ieee.double.nearest s n p) < 9218868437227405312) :
  ∃ E : Nat, (sval (Ieee.double.nearest s n p) * (2 ^ (N - 1074) : Nat) - sgz s (n * 2 ^ (p + N).toNat)).natAbs ≤ E ∧ (E * UU ≤ n * 2 ^ (p + N).toNat ∨ 2 * E ≤ 2 ^ (N - 1074)) := by
 by_cases hn : n = 0
 ·subst hn
  refine ⟨0, ?_, .inl (by rw [Nat.zero_mul]; exact Nat.zero_le _)⟩
  rw [nearest_nought]
  have hv : sval (if s = true then NEG0 else 0) = 0 := by cases s <;> decide +kernel
  rw [hv, Nat.zero_mul, Int.zero_mul]
  cases s <;> simp [sgz]
 ·obtain ⟨E, h1, h2, h3⟩ := nearest_err (s := s) hn hN hp hf
  refine ⟨E, ?_, h3⟩
  rw [sval_sgz, nearest_sgn, sgz_nat]
  exact sgz_sub s _ _ h1 h2
theorem sgz_dec (z : Int) : sgz (decide (z < 0)) z.natAbs = z := by
 unfold sgz
 by_cases h : z < 0
 ·rw [decide_eq_true h, if_pos rfl]; omega
 ·rw [decide_eq_false h, if_neg (by decide)]; omega
theorem fadd_err {x y : Nat} (hx : rung x < 9218868437227405312) (hy : rung y < 9218868437227405312) (hf : rung (fadd x y) < 9218868437227405312) :
  (sval (fadd x y) - (sval x + sval y)).natAbs * UU ≤ (sval x + sval y).natAbs := by
 have e := fadd_int hx hy
 rw [e] at hf ⊢
 obtain ⟨E, h1, h2⟩ := nearest_int (N := 1074) (Nat.le_refl _) (by decide) hf
 have h0 : (-1074 + ((1074 : Nat) : Int)).toNat = 0 := by decide
 simp only [h0, Nat.pow_zero, Nat.mul_one, Nat.sub_self] at h1 h2
 have e2 : sgz (if sval x + sval y = 0 then sgn x && sgn y else decide (sval x + sval y < 0)) (sval x + sval y).natAbs = sval x + sval y := by
  by_cases hz : sval x + sval y = 0
  ·rw [if_pos hz, hz]
   cases (sgn x && sgn y) <;> simp [sgz]
  ·rw [if_neg hz]; exact sgz_dec _
 rw [e2, Int.natCast_one, Int.mul_one] at h1
 have hE : E * UU ≤ (sval x + sval y).natAbs := by
  rcases h2 with h2 | h2
  ·exact h2
  ·have : E = 0 := by omega
   rw [this, Nat.zero_mul]; exact Nat.zero_le _
 exact Nat.le_trans (Nat.mul_le_mul_right _ h1) hE
theorem fmul_err {x y : Nat} (hx : rung x < 9218868437227405312) (hy : rung y < 9218868437227405312) (hf : rung (fmul x y) < 9218868437227405312) :
  ∃ E : Nat, (sval (fmul x y) * (PZ : Nat) - sval x * sval y).natAbs ≤ E ∧ (E * UU ≤ (sval x * sval y).natAbs ∨ 2 * E ≤ PZ) := by
 rw [fmul_int hx hy] at hf ⊢
 obtain ⟨N, hN⟩ : ∃ N, N = 2 * NZ := ⟨_, rfl⟩
 have hN2 : N = 2148 := by rw [hN, nz]
 obtain ⟨E, h1, h2⟩ := nearest_int (N := N) (by omega) (by omega) hf
 rw [pz_at hN, show (-2148 + (N : Int)).toNat = 0 by omega, Nat.pow_zero, Nat.mul_one] at h1 h2
 rw [← sgz_mul, ← sval_sgz, ← sval_sgz] at h1
 refine ⟨E, h1, ?_⟩
 rw [Int.natAbs_mul, sval_abs, sval_abs]
 exact h2
theorem fadd_zero {x : Nat} (hx : x < 2 ^ 64) (hr : rung x < 9218868437227405312) : rung (fadd 0 x) < 9218868437227405312 ∧ sval (fadd 0 x) = sval x := by
 have h0 : rung 0 < 9218868437227405312 := by decide
 have hs : sval 0 = 0 := by decide +kernel
 have e := fadd_int h0 hr
 rw [hs, Int.zero_add, sval_abs] at e
 by_cases hz : sval x = 0
 ·have hv : vlu x = 0 := by have := sval_abs x; omega
  rw [if_pos hz, hv, nearest_nought] at e
  rw [e, hz]
  cases (sgn 0 && sgn x) <;> constructor <;> decide +kernel
 ·rw [if_neg hz] at e
  have hsg : decide (sval x < 0) = sgn x := by
   by_cases h : sval x < 0
   ·rw [decide_eq_true h, sval_neg h]
   ·rw [decide_eq_false h, sval_pos (by omega)]
  rw [hsg, nearest_vlu hx hr] at e
  rw [e]
  exact ⟨hr, rfl⟩
theorem read_not {x : Nat} (h : ¬ rung x < 9218868437227405312) : (∃ s, Ieee.double.read x = .infinity s) ∨ (Ieee.double.read x).isNaN = true := by
 by_cases he : rung x = 9218868437227405312
 ·exact .inl ⟨_, read_inf he⟩
 ·right
  unfold Ieee.Format.read
  unfold rung at h he
  simp only [signW, binA, infR]
  rw [if_neg (by omega), if_neg h, if_neg he]
  rfl
theorem nan_not : ¬ rung NAN < 9218868437227405312 := by decide +kernel
theorem inf_not (s : Bool) : ¬ rung (Ieee.double.write (.infinity s)) < 9218868437227405312 := by cases s <;> decide +kernel
theorem sum_not {a b : Ieee.Datum} (h : (∃ s, a = .infinity s) ∨ a.isNaN = true) : ¬ rung (fop ((a.sum b).map Ieee.double.write)) < 9218868437227405312 ∧ ¬ rung (fop ((b.sum a).map Ieee.double.write)) < 9218868437227405312 := by
 rcases h with ⟨s, rfl⟩ | h
 ·cases b with
  | nan => exact ⟨nan_not, nan_not⟩
  | infinity t =>
   simp only [Ieee.Datum.sum]
   by_cases he : s = t
   ·subst he
    simp only [if_true, Option.map_some, fop, Option.getD_some]
    exact ⟨inf_not _, inf_not _⟩
   ·rw [if_neg he, if_neg (Ne.symm he)]
    exact ⟨nan_not, nan_not⟩
  | number t m e => exact ⟨inf_not _, inf_not _⟩
 ·cases a with
  | nan => cases b <;> exact ⟨nan_not, nan_not⟩
  | infinity t => cases h
  | number t m e => cases h
theorem product_not {a b : Ieee.Datum} (h : (∃ s, a = .infinity s) ∨ a.isNaN = true) : ¬ rung (fop ((a.product b).map Ieee.double.write)) < 9218868437227405312 ∧ ¬ rung (fop ((b.product a).map Ieee.double.write)) < 9218868437227405312 := by
 rcases h with ⟨s, rfl⟩ | h
 ·cases b with
  | nan => exact ⟨nan_not, nan_not⟩
  | infinity t => exact ⟨inf_not _, inf_not _⟩
  | number t m e =>
   simp only [Ieee.Datum.product]
   by_cases he : m = 0
   ·rw [if_pos he]
    exact ⟨nan_not, nan_not⟩
   ·rw [if_neg he]
    simp only [Option.map_some, fop, Option.getD_some]
    exact ⟨inf_not _, inf_not _⟩
 ·cases a with
  | nan => cases b <;> exact ⟨nan_not, nan_not⟩
  | infinity t => cases h
  | number t m e => cases h
theorem fadd_fin2 {x y : Nat} (h : rung (fadd x y) < 9218868437227405312) : rung x < 9218868437227405312 ∧ rung y < 9218868437227405312 := by
 constructor
 ·exact Classical.byContradiction fun hc => (sum_not (read_not hc)).1 h
 ·exact Classical.byContradiction fun hc => (sum_not (read_not hc)).2 h
theorem fmul_fin2 {x y : Nat} (h : rung (fmul x y) < 9218868437227405312) : rung x < 9218868437227405312 ∧ rung y < 9218868437227405312 := by
 constructor
 ·exact Classical.byContradiction fun hc => (product_not (read_not hc)).1 h
 ·exact Classical.byContradiction fun hc => (product_not (read_not hc)).2 h
end Go.Bn
namespace Go.Bn
open Go
theorem wilk {c K U D d D' A p Z : Nat} (h1 : 2 * K * U * D ≤ c * (2 * A + Z)) (h2 : 2 * U * d ≤ 2 * p + Z) (h3 : U * D' ≤ (U + 1) * (D + d) + (A + p)) (hc : K + 1 ≤ c) (hcU : c + K ≤ U) (hU : 0 < U) :
  2 * K * U * D' ≤ (c + (K + 1)) * (2 * (A + p) + Z) := by
 suffices h : U * (2 * K * U * D') ≤ U * ((c + (K + 1)) * (2 * (A + p) + Z)) from Nat.le_of_mul_le_mul_left h hU
 have a1 := Nat.mul_le_mul_left (2 * K * U) h3
 have a2 := Nat.mul_le_mul_left ((U + 1) * K) h2
 have a3 := Nat.mul_le_mul_left (U + 1) h1
 have a4 := Nat.mul_le_mul_right ((U + 1) * (2 * p)) (show K ≤ c by omega)
 have a5 := Nat.mul_le_mul_right (2 * (A + p) + Z) hcU
 have a6 : K * Z ≤ K * (2 * (A + p) + Z) := Nat.mul_le_mul_left _ (by omega)
 grind
theorem wilk0 {K U d p Z : Nat} (h : 2 * U * d ≤ 2 * p + Z) : 2 * K * U * d ≤ (0 + 1) * (K + 1) * (2 * p + Z) := by
 have h5 := Nat.mul_le_mul_left K h
 grind
theorem wilk1 {K U k D d D' A p Z : Nat} (h1 : 2 * K * U * D ≤ (k + 1) * (K + 1) * (2 * A + Z)) (h2 : 2 * U * d ≤ 2 * p + Z) (h3 : U * D' ≤ (U + 1) * (D + d) + (A + p)) (hk : k + 1 ≤ 11) (hU : 13 * (K + 1) ≤ U) :
  2 * K * U * D' ≤ (k + 1 + 1) * (K + 1) * (2 * (A + p) + Z) := by
 have e : (k + 1) * (K + 1) + (K + 1) = (k + 1 + 1) * (K + 1) := by grind
 rw [← e]
 have l1 : 1 * (K + 1) ≤ (k + 1) * (K + 1) := Nat.mul_le_mul_right _ (by omega)
 have l2 : (k + 1) * (K + 1) ≤ 12 * (K + 1) := Nat.mul_le_mul_right _ (by omega)
 exact wilk h1 h2 h3 (by omega) (by omega) (by omega)
theorem wilk2 {K U D A m Z : Nat} (h : 2 * K * U * D ≤ m * (K + 1) * (2 * A + U * Z)) (hm : m ≤ 12) (hK : 12 ≤ K) : D * U ≤ A * (m + 1) + m * (Z * U) := by
 have h1 : m * A ≤ 12 * A := Nat.mul_le_mul_right _ hm
 rw [Nat.mul_comm Z]
 generalize U * Z = Y at *
 suffices hs : 2 * K * (D * U) ≤ 2 * K * (A * (m + 1) + m * Y) from Nat.le_of_mul_le_mul_left hs (by omega)
 have h2 : m * Y ≤ K * (m * Y) := Nat.le_mul_of_pos_left _ (by omega)
 have h3 : 12 * A ≤ K * A := Nat.mul_le_mul_right _ hK
 grind
def amtV (xs ys : List Nat) : Nat → Nat
 | 0 => 0
 | k + 1 => amtV xs ys k + (sval (xs.getD k 0) * sval (ys.getD k 0)).natAbs
theorem sumV_amt (xs ys : List Nat) : ∀ k, (sumV xs ys k).natAbs ≤ amtV xs ys k
 | 0 => Nat.zero_le _
 | k + 1 => by
  have := sumV_amt xs ys k
  rw [sumV, amtV]
  omega
def dev (xs ys : List Nat) (k : Nat) : Nat := (sval (dotTo xs ys k) * (PZ : Nat) - sumV xs ys k).natAbs
def KK : Nat := 1048576
theorem kk_uu : 13 * (KK + 1) ≤ UU := by decide
theorem mul_dev {x y : Nat} (hf : rung (fmul x y) < 9218868437227405312) : 2 * UU * (sval (fmul x y) * (PZ : Nat) - sval x * sval y).natAbs ≤ 2 * (sval x * sval y).natAbs + UU * PZ := by
 obtain ⟨hx, hy⟩ := fmul_fin2 hf
 obtain ⟨E, h1, h2⟩ := fmul_err hx hy hf
 generalize (sval (fmul x y) * (PZ : Nat) - sval x * sval y).natAbs = d at *
 generalize (sval x * sval y).natAbs = p at *
 generalize PZ = Z at *
 have h3 : 2 * UU * d ≤ 2 * UU * E := Nat.mul_le_mul_left _ h1
 rcases h2 with h2 | h2
 ·have : 2 * UU * E = 2 * (E * UU) := by grind
  omega
 ·have : UU * (2 * E) ≤ UU * Z := Nat.mul_le_mul_left _ h2
  have e : UU * (2 * E) = 2 * UU * E := by grind
  omega
theorem dot_nil (xs ys : List Nat) : dotTo xs ys 0 = 0 := rfl
theorem dot_suc (xs ys : List Nat) (k : Nat) : dotTo xs ys (k + 1) = fadd (dotTo xs ys k) (fmul (xs.getD k 0) (ys.getD k 0)) := rfl
theorem dev_step {xs ys : List Nat} {k : Nat} (hf : rung (dotTo xs ys (k + 1)) < 9218868437227405312) :
  UU * dev xs ys (k + 1) ≤ (UU + 1) * (dev xs ys k + (sval (fmul (xs.getD k 0) (ys.getD k 0)) * (PZ : Nat) - sval (xs.getD k 0) * sval (ys.getD k 0)).natAbs) + (amtV xs ys k + (sval (xs.getD k 0) * sval (ys.getD k 0)).natAbs) := by
 have hf' := hf
 rw [dot_suc] at hf'
 obtain ⟨h1, h2⟩ := fadd_fin2 hf'
 have h3 := fadd_err h1 h2 hf'
 have h4 := sumV_amt xs ys k
 unfold dev
 rw [dot_suc]
 show UU * (sval (fadd (dotTo xs ys k) (fmul (xs.getD k 0) (ys.getD k 0))) * (PZ : Nat) - (sumV xs ys k + sval (xs.getD k 0) * sval (ys.getD k 0))).natAbs ≤ _
 generalize sval (fadd (dotTo xs ys k) (fmul (xs.getD k 0) (ys.getD k 0))) = s' at *
 generalize sval (dotTo xs ys k) = s at *
 generalize sval (fmul (xs.getD k 0) (ys.getD k 0)) = m at *
 generalize sval (xs.getD k 0) * sval (ys.getD k 0) = p at *
 generalize sumV xs ys k = S at *
 generalize amtV xs ys k = A at *
 have hz : ((PZ : Nat) : Int).natAbs = PZ := Int.natAbs_natCast _
 have e1 : (s' * (PZ : Nat) - (s * (PZ : Nat) + m * (PZ : Nat))).natAbs = (s' - (s + m)).natAbs * PZ := by
  rw [← Int.add_mul, ← Int.sub_mul, Int.natAbs_mul, hz]
 have e2 : (s * (PZ : Nat) + m * (PZ : Nat)).natAbs = (s + m).natAbs * PZ := by rw [← Int.add_mul, Int.natAbs_mul, hz]
 have h5 := Nat.mul_le_mul_right PZ h3
 rw [Nat.mul_right_comm, ← e1, ← e2] at h5
 generalize s' * (PZ : Nat) = a at *
 generalize s * (PZ : Nat) = b at *
 generalize m * (PZ : Nat) = c at *
 have h6 : (a - (S + p)).natAbs ≤ (a - (b + c)).natAbs + ((b - S).natAbs + (c - p).natAbs) := by omega
 have h7 : (b + c).natAbs ≤ (A + p.natAbs) + ((b - S).natAbs + (c - p).natAbs) := by omega
 have h8 := Nat.mul_le_mul_left UU h6
 grind
theorem dev_le {xs ys : List Nat} (hy : ∀ k, fmul (xs.getD k 0) (ys.getD k 0) < 2 ^ 64) : ∀ {k : Nat}, k ≤ 11 → rung (dotTo xs ys (k + 1)) < 9218868437227405312 →
  2 * KK * UU * dev xs ys (k + 1) ≤ (k + 1) * (KK + 1) * (2 * amtV xs ys (k + 1) + UU * PZ)
 | 0, _, hf => by
  have hf' := hf
  rw [dot_suc, dot_nil] at hf'
  have h2 := (fadd_fin2 hf').2
  have h3 := fadd_zero (hy 0) h2
  have h4 := mul_dev h2
  have e : dev xs ys 1 = (sval (fmul (xs.getD 0 0) (ys.getD 0 0)) * (PZ : Nat) - sval (xs.getD 0 0) * sval (ys.getD 0 0)).natAbs := by
   unfold dev
   rw [dot_suc, dot_nil]
   show (sval (fadd 0 (fmul (xs.getD 0 0) (ys.getD 0 0))) * (PZ : Nat) - (0 + sval (xs.getD 0 0) * sval (ys.getD 0 0))).natAbs = _
   rw [h3.2, Int.zero_add]
  have e2 : amtV xs ys 1 = (sval (xs.getD 0 0) * sval (ys.getD 0 0)).natAbs := by
   show 0 + _ = _
   rw [Nat.zero_add]
  rw [e, e2]
  generalize (sval (fmul (xs.getD 0 0) (ys.getD 0 0)) * (PZ : Nat) - sval (xs.getD 0 0) * sval (ys.getD 0 0)).natAbs = d at *
  generalize (sval (xs.getD 0 0) * sval (ys.getD 0 0)).natAbs = p at *
  exact wilk0 h4
 | k + 1, hk, hf => by
  have hf' := hf
  rw [dot_suc] at hf'
  have h1 := (fadd_fin2 hf').1
  have h2 := (fadd_fin2 hf').2
  clear hf'
  exact wilk1 (dev_le hy (k := k) (by omega) h1) (mul_dev h2) (dev_step hf) (by omega) kk_uu
theorem near_le {xs ys : List Nat} {n : Nat} (hy : ∀ k, fmul (xs.getD k 0) (ys.getD k 0) < 2 ^ 64) (hn : n ≤ 12) (hf : rung (dotTo xs ys n) < 9218868437227405312) :
  dev xs ys n * UU ≤ amtV xs ys n * (n + 1) + n * (PZ * UU) := by
 cases n with
 | zero =>
  have : dev xs ys 0 = 0 := by
   unfold dev
   show (sval 0 * (PZ : Nat) - 0).natAbs = 0
   rw [show sval 0 = 0 by decide +kernel, Int.zero_mul]
   rfl
  rw [this, Nat.zero_mul]; exact Nat.zero_le _
 | succ k =>
  exact wilk2 (dev_le hy (k := k) (by omega) hf) hn (by decide)
end Go.Bn
namespace Go.Bn
open Go
def Exa.abs (x : Exa) : Exa := ⟨(x.m.natAbs : Int), x.e⟩
def wholeX (n : Int) : Exa := ⟨n, 0⟩
def powX (e : Int) : Exa := ⟨1, e⟩
def prdX (xs ys : List Nat) (k : Nat) : Exa := (ofX (xs.getD k 0)).mul (ofX (ys.getD k 0))
theorem abs_pow (m : Int) (n : Nat) : ((m * 2 ^ n).natAbs : Int) = (m.natAbs : Int) * 2 ^ n := by
 rw [Int.natAbs_mul, Int.natCast_mul]
 have e1 : (((2 : Int) ^ n).natAbs : Int) = 2 ^ n := by
  have := pow_one_le n
  omega
 rw [e1]
theorem xv_abs (E : Nat) (x : Exa) : xv E x.abs = ((xv E x).natAbs : Int) := by
 unfold xv
 rw [abs_pow]
 rfl
theorem xv_up {E F : Nat} {x : Exa} (h : -(E : Int) ≤ x.e) : xv (E + F) x = xv E x * 2 ^ F := by
 unfold xv
 rw [Int.mul_assoc, ← Int.pow_add, show (x.e + ((E + F : Nat) : Int)).toNat = (x.e + (E : Int)).toNat + F by omega]
def FinL (xs : List Nat) : Prop := ∀ k, finB (xs.getD k 0) = true ∧ xs.getD k 0 < 2 ^ 64
theorem prd_exq {xs ys : List Nat} (hx : FinL xs) (hy : FinL ys) (k : Nat) : Exq (prdX xs ys k) 1 := exq_mul (hx k).1 (hx k).2 (hy k).1 (hy k).2
theorem dotx_exq {xs ys : List Nat} (hx : FinL xs) (hy : FinL ys) : ∀ k, Exq (dotX xs ys k) k
 | 0 => exq_zero
 | k + 1 => exq_add (dotx_exq hx hy k) (prd_exq hx hy k)
theorem xv_prd {xs ys : List Nat} (hx : FinL xs) (hy : FinL ys) (k : Nat) : xv 2148 (prdX xs ys k) = sval (xs.getD k 0) * sval (ys.getD k 0) := by
 have h5 := xv_mul (E := 1074) (F := 1074) (x := ofX (xs.getD k 0)) (y := ofX (ys.getD k 0)) (ofX_e (hx k).1 (hx k).2).1 (ofX_e (hy k).1 (hy k).2).1
 rw [xv_of, xv_of] at h5
 exact h5
theorem xv_dotx {xs ys : List Nat} (hx : FinL xs) (hy : FinL ys) : ∀ k, xv 2148 (dotX xs ys k) = sumV xs ys k
 | 0 => xv_zero _
 | k + 1 => by
  have h3 := (dotx_exq hx hy k).e0
  have h4 := (prd_exq hx hy k).e0
  show xv 2148 ((dotX xs ys k).add (prdX xs ys k)) = _
  rw [sumV, xv_add h3 h4, xv_dotx hx hy k, xv_prd hx hy k]
theorem cmp_no {z : Int} (h : ¬ 0 < z) : cmpB .leq z 0 = true := by unfold cmpB; simp; omega
theorem pow_exb {e : Int} (h0 : -1000000 ≤ e) (h1 : e ≤ 1000000) : Exb (powX e) := ⟨sml_of (by show ((1 : Int)).natAbs < _; decide), h0, h1⟩
theorem two_cast (n : Nat) : (2 : Int) ^ n = ((2 ^ n : Nat) : Int) := by rw [Int.natCast_pow]; rfl
theorem finL_all {xs : List Nat} (h : xs.all finB = true) (h2 : xs.all (fun x => decide (x < 2 ^ 64)) = true) : FinL xs := fun k => by
 by_cases hk : k < xs.length
 ·exact ⟨List.all_eq_true.1 h _ (mem_getD 0 hk), of_decide_eq_true (List.all_eq_true.1 h2 _ (mem_getD 0 hk))⟩
 ·rw [List.getD, List.getElem?_eq_none (by omega)]
  exact ⟨by decide, by decide⟩
theorem finL_range {g : Nat → Nat} {m : Nat} (h : ∀ k, finB (g k) = true ∧ g k < 2 ^ 64) : FinL ((List.range m).map g) := fun k => by
 by_cases hk : k < m
 ·rw [List.getD, List.getElem?_eq_getElem (by simpa using hk)]
  simp only [List.getElem_map, List.getElem_range, Option.getD_some]
  exact h k
 ·rw [List.getD, List.getElem?_eq_none (by simpa using hk)]
  exact ⟨by decide, by decide⟩
theorem finL_row {c : Int} {xs : List Nat} {i : Int} (h : FinL xs) : FinL (rowL c xs i) := finL_range fun k => h _
theorem finL_col {r c : Int} {xs : List Nat} {j : Int} (h : FinL xs) : FinL (colL r c xs j) := finL_range fun k => h _
theorem finB_getD {xs : List Nat} (h : xs.all finB = true) (k : Nat) : finB (xs.getD k 0) = true := by
 by_cases hk : k < xs.length
 ·exact List.all_eq_true.1 h _ (mem_getD 0 hk)
 ·rw [List.getD, List.getElem?_eq_none (by omega)]
  decide
end Go.Bn
