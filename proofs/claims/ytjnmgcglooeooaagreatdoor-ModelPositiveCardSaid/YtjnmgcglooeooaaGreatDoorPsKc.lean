/-
 Plain facts on matrices: numbers row by row, and what the matrix packages compute. What the functions of the matrix package answer, as plain functions. Plain facts on the numbers' operations. Plain facts on what the eighth reference computes. Plain facts on binary64: what is exact. Plain facts on what is symmetric. Plain facts on the unit matrix. Plain facts on places. Plain facts on sums, multiples and outer products. Plain facts on matrices that are made. Plain facts on kinds of matrices, traces and norms. Plain facts on parts of matrices. Plain facts on orders. Plain facts on matrices taken apart and put together. Plain facts on powers of two. The logic of walks: the last operations; numbers by their bits.
-/
import Derived.Test.YtjnmgcglooeooaaGreatDoorPsKb
set_option linter.unusedVariables false
set_option linter.unusedSimpArgs false
namespace Go.Bn
open Go
def mat (c : Int) (xs : List Nat) (i j : Int) : Nat := xs.getD (i * c + j).toNat 0
def grid (r c : Int) (f : Int → Int → Nat) : List Nat := (List.range (r.toNat * c.toNat)).map fun k => f ((k / c.toNat : Nat) : Int) ((k % c.toNat : Nat) : Int)
def sizB (n : Int) : Bool := decide (0 ≤ n) && decide (n ≤ 12)
def chk (r c : Int) (xs : List Nat) : Int := if sizB r = false ∨ sizB c = false then 1 else if (xs.length : Int) ≠ r * c then 3 else if xs.all finB = false then 4 else 0
def fstE : List Int → Int
 | [] => 0
 | e :: l => if e = 0 then fstE l else e
theorem length_grid (r c : Int) (f : Int → Int → Nat) : (grid r c f).length = r.toNat * c.toNat := by simp [grid]
theorem grid_get (r c : Int) (f : Int → Int → Nat) {k : Nat} (h : k < r.toNat * c.toNat) : (grid r c f).getD k 0 = f ((k / c.toNat : Nat) : Int) ((k % c.toNat : Nat) : Int) := by
 simp [grid, List.getD, h]
theorem place_lt {r c i j : Nat} (hi : i < r) (hj : j < c) : i * c + j < r * c := by
 have h1 : (i + 1) * c ≤ r * c := Nat.mul_le_mul_right c hi
 rw [Nat.add_mul, Nat.one_mul] at h1
 omega
theorem place_div {c i j : Nat} (hj : j < c) : (i * c + j) / c = i ∧ (i * c + j) % c = j := by
 have hc : 0 < c := by omega
 rw [Nat.mul_comm, Nat.mul_add_div hc, Nat.div_eq_of_lt hj, Nat.add_zero, Nat.mul_add_mod, Nat.mod_eq_of_lt hj]
 exact ⟨rfl, rfl⟩
theorem grid_at (r c : Int) (f : Int → Int → Nat) {i j : Nat} (hi : i < r.toNat) (hj : j < c.toNat) : (grid r c f).getD (i * c.toNat + j) 0 = f i j := by
 rw [grid_get r c f (place_lt hi hj), (place_div hj).1, (place_div hj).2]
theorem ext_getD {xs ys : List Nat} (hl : xs.length = ys.length) (h : ∀ k, k < xs.length → xs.getD k 0 = ys.getD k 0) : xs = ys := by
 apply List.ext_getElem hl
 intro k h1 h2
 have := h k h1
 simpa [List.getD, List.getElem?_eq_getElem h1, List.getElem?_eq_getElem h2] using this
theorem grid_mat {r c : Int} {xs : List Nat} (hr : 0 ≤ r) (hc : 0 ≤ c) (hl : (xs.length : Int) = r * c) : grid r c (mat c xs) = xs := by
 have hlen : xs.length = r.toNat * c.toNat := by
  have h1 : r = (r.toNat : Int) := by omega
  have h2 : c = (c.toNat : Int) := by omega
  rw [h1, h2, ← Int.natCast_mul] at hl
  exact Int.ofNat.inj hl
 refine ext_getD (by rw [length_grid, hlen]) fun k hk => ?_
 rw [length_grid] at hk
 rw [grid_get r c _ hk]
 unfold mat
 congr 1
 have h2 : c = (c.toNat : Int) := by omega
 generalize c.toNat = d at *
 subst h2
 rw [← Int.natCast_mul, ← Int.natCast_add, Int.toNat_natCast, Nat.div_add_mod']
structure MR where
 r : Int
 c : Int
 a : List Nat
 e : Int
theorem MR.eq4 {x : MR} {r c e : Int} {a : List Nat} (h : ((decide (x.r = r) && decide (x.c = c)) && decide (x.a = a) && decide (x.e = e)) = true) : x = ⟨r, c, a, e⟩ := by
 obtain ⟨p, q, s, u⟩ := x
 simp at h
 obtain ⟨⟨⟨h1, h2⟩, h3⟩, h4⟩ := h
 rw [h1, h2, h3, h4]
def resM (x : MR) : SP := tupp [MatP x.r x.c x.a, isv (.int .i64 x.e)]
theorem ret_M {Γ : Facts} {r c : Int} {a : List Nat} {e : Int} {x : MR} (h : (⟨r, c, a, e⟩ : MR) = x) : Sb Γ (tupp [MatP r c a, isv (.int .i64 e)]) (resM x) := by subst h; exact zL
def badM (e : Int) : MR := ⟨0, 0, [], e⟩
def toldR (r c : Int) (xs : List Nat) : MR := if xs.all finB = false then badM 5 else ⟨r, c, xs, 0⟩
def Siz (r c : Int) : Prop := 0 ≤ r ∧ r ≤ 12 ∧ 0 ≤ c ∧ c ≤ 12
def Good (r c : Int) (xs : List Nat) : Prop := Siz r c ∧ (xs.length : Int) = r * c
def Pl (r c i j : Int) : Prop := 0 ≤ i ∧ i < r ∧ 0 ≤ j ∧ j < c
theorem Siz.mul {r c : Int} (h : Siz r c) : 0 ≤ r * c ∧ r * c ≤ 144 := by
 obtain ⟨h1, h2, h3, h4⟩ := h
 exact ⟨Int.mul_nonneg h1 h3, Int.le_trans (Int.mul_le_mul_of_nonneg_right h2 h3) (by omega)⟩
theorem Pl.rng {r c i j : Int} (hs : Siz r c) (h : Pl r c i j) : 0 ≤ i * c ∧ 0 ≤ i * c + j ∧ i * c + j < r * c ∧ r * c ≤ 144 ∧ i * c + c ≤ r * c := by
 obtain ⟨h1, h2, h3, h4⟩ := h
 have h5 : 0 ≤ i * c := Int.mul_nonneg h1 hs.2.2.1
 have h6 : (i + 1) * c ≤ r * c := Int.mul_le_mul_of_nonneg_right (by omega) hs.2.2.1
 rw [Int.add_mul, Int.one_mul] at h6
 have := hs.mul
 omega
theorem sizB_iff {n : Int} : sizB n = true ↔ 0 ≤ n ∧ n ≤ 12 := by simp [sizB]
theorem mat_replicate {c a b : Int} {n : Nat} : mat c (List.replicate n 0) a b = 0 := by
 unfold mat
 rw [List.getD, List.getElem?_replicate]
 split <;> rfl
theorem grid_zero {r c : Int} : grid r c (fun _ _ => 0) = List.replicate (r.toNat * c.toNat) 0 := by
 unfold grid
 rw [List.map_const', List.length_range]
theorem mat_set {c p q a b : Int} {xs : List Nat} {v : Nat} {r : Int} (hs : Siz r c) (hl : (xs.length : Int) = r * c) (hp : Pl r c p q) (ha : Pl r c a b) : mat c (xs.set (p * c + q).toNat v) a b = if a = p ∧ b = q then v else mat c xs a b := by
 unfold mat
 have h1 := hp.rng hs
 have h2 := ha.rng hs
 obtain ⟨hp1, hp2, hp3, hp4⟩ := hp
 obtain ⟨ha1, ha2, ha3, ha4⟩ := ha
 by_cases he : a = p ∧ b = q
 ·rw [if_pos he, he.1, he.2]
  rw [List.getD, List.getElem?_set_self (by omega)]
  rfl
 ·rw [if_neg he]
  have hne : (p * c + q).toNat ≠ (a * c + b).toNat := by
   intro e
   have e' : p * c + q = a * c + b := by omega
   apply he
   have hc : 0 < c := by omega
   rcases Int.lt_trichotomy a p with h | h | h
   ·have h6 : (a + 1) * c ≤ p * c := Int.mul_le_mul_of_nonneg_right (by omega) (by omega)
    rw [Int.add_mul, Int.one_mul] at h6
    omega
   ·subst h; omega
   ·have h6 : (p + 1) * c ≤ a * c := Int.mul_le_mul_of_nonneg_right (by omega) (by omega)
    rw [Int.add_mul, Int.one_mul] at h6
    omega
  rw [List.getD, List.getElem?_set_ne hne]
  rfl
theorem take_grid {r c : Int} {f : Int → Int → Nat} {i j : Nat} (hi : i < r.toNat) (hj : j < c.toNat) : (grid r c f).take (i * c.toNat + (j + 1)) = (grid r c f).take (i * c.toNat + j) ++ [f i j] := by
 have hl := place_lt hi hj
 rw [show i * c.toNat + (j + 1) = (i * c.toNat + j) + 1 by omega, take_snoc 0 (by rw [length_grid]; exact hl), grid_at r c f hi hj]
theorem take_grid_all {r c : Int} {f : Int → Int → Nat} : (grid r c f).take (r.toNat * c.toNat) = grid r c f := List.take_of_length_le (by rw [length_grid]; exact Nat.le_refl _)
theorem siz_nat {r c : Int} (hs : Siz r c) : r.toNat * c.toNat ≤ 144 ∧ ((r.toNat * c.toNat : Nat) : Int) = r * c := by
 have h := hs.mul
 have h1 : r = (r.toNat : Int) := by have := hs.1; omega
 have h2 : c = (c.toNat : Int) := by have := hs.2.2.1; omega
 have e : ((r.toNat * c.toNat : Nat) : Int) = r * c := by rw [Int.natCast_mul, ← h1, ← h2]
 omega
end Go.Bn
namespace Go.Bn
open Go
theorem take_grid_le {r c : Int} {f : Int → Int → Nat} {n : Nat} (hs : Siz r c) : ((grid r c f).take n).length ≤ 144 := by
 have := (siz_nat hs).1
 rw [List.length_take, length_grid]; omega
end Go.Bn
namespace Go.Bn
open Go
theorem fstE_zero {e : Int} {l : List Int} : fstE (e :: l) = 0 ↔ e = 0 ∧ fstE l = 0 := by
 show (if e = 0 then fstE l else e) = 0 ↔ _
 by_cases h : e = 0
 ·rw [if_pos h]; simp [h]
 ·rw [if_neg h]; simp [h]
end Go.Bn
namespace Go.Bn
open Go
theorem all_grid {r c : Int} {f : Int → Int → Nat} {p : Nat → Bool} : (grid r c f).all p = true ↔ ∀ i j, Pl r c i j → p (f i j) = true := by
 rw [List.all_eq_true]
 constructor
 ·intro h i j ⟨h1, h2, h3, h4⟩
  have e : (grid r c f).getD (i.toNat * c.toNat + j.toNat) 0 = f i j := by
   rw [grid_at r c f (by omega) (by omega)]; congr 1 <;> omega
  rw [← e]
  exact h _ (mem_getD 0 (by rw [length_grid]; exact place_lt (by omega) (by omega)))
 ·intro h x hx
  unfold grid at hx
  rw [List.mem_map] at hx
  obtain ⟨k, hk, rfl⟩ := hx
  rw [List.mem_range] at hk
  have hc : 0 < c.toNat := by
   rcases Nat.eq_zero_or_pos c.toNat with h0 | h0
   ·rw [h0] at hk; simp at hk
   ·exact h0
  have h1 : k / c.toNat < r.toNat := Nat.div_lt_of_lt_mul (by rw [Nat.mul_comm]; exact hk)
  have h2 : k % c.toNat < c.toNat := Nat.mod_lt _ hc
  generalize k / c.toNat = p at h1 ⊢
  generalize k % c.toNat = q at h2 ⊢
  exact h _ _ ⟨by omega, by omega, by omega, by omega⟩
theorem all_good {r c : Int} {xs : List Nat} {p : Nat → Bool} (h : Good r c xs) : xs.all p = true ↔ ∀ i j, Pl r c i j → p (mat c xs i j) = true := by
 conv => lhs; rw [← grid_mat h.1.1 h.1.2.2.1 h.2]
 exact all_grid
end Go.Bn
namespace Go.Bn
open Go
structure NR where
 a : Nat
 e : Int
def resN (x : NR) : SP := tupp [flp x.a, isv (.int .i64 x.e)]
def badN (e : Int) : NR := ⟨0, e⟩
theorem ret_N {Γ : Facts} {a : Nat} {e : Int} {x : NR} (h : (⟨a, e⟩ : NR) = x) : Sb Γ (tupp [flp a, isv (.int .i64 e)]) (resN x) := by subst h; exact zL
end Go.Bn
namespace Go.Bn
open Go
theorem lpE : Ieee.double.leastPlace = -1074 := by decide +kernel
theorem fbE : Ieee.double.fractionBits = 52 := rfl
theorem log2_shift {n k : Nat} (h : n ≠ 0) : (n <<< k).log2 = n.log2 + k := by
 rw [Nat.shiftLeft_eq]
 refine (Nat.log2_eq_iff (by have := Nat.two_pow_pos k; exact Nat.mul_ne_zero h (by omega))).2 ⟨?_, ?_⟩
 ·rw [Nat.pow_add]; exact Nat.mul_le_mul_right _ (Nat.log2_self_le h)
 ·rw [show n.log2 + k + 1 = (n.log2 + 1) + k by omega, Nat.pow_add]
  exact Nat.mul_lt_mul_of_pos_right (Nat.lt_log2_self) (Nat.two_pow_pos k)
theorem shift_ne {n k : Nat} (h : n ≠ 0) : n <<< k ≠ 0 := by
 rw [Nat.shiftLeft_eq]
 have := Nat.two_pow_pos k
 exact Nat.mul_ne_zero h (by omega)
theorem cut_scale {neg : Bool} {n d k : Nat} (h : n ≠ 0) : Ieee.Toward.even.cut neg (n <<< k) (d + k) = Ieee.Toward.even.cut neg n d := by
 unfold Ieee.Toward.cut
 simp only [log2_shift h]
 rw [show min (d + k) (n.log2 + k + 2) = min d (n.log2 + 2) + k by omega]
 generalize min d (n.log2 + 2) = g
 have e1 : 1 <<< (g + k) = (1 <<< g) * 2 ^ k := by rw [Nat.shiftLeft_eq, Nat.shiftLeft_eq, Nat.pow_add]; simp
 have e2 : n <<< k = n * 2 ^ k := Nat.shiftLeft_eq _ _
 rw [e1, e2]
 generalize hG : 1 <<< g = G
 have hk := Nat.two_pow_pos k
 rw [Nat.mul_div_mul_right _ _ hk, Nat.mul_mod_mul_right]
 generalize hK : 2 ^ k = K at *
 have h1 : decide (G * K < 2 * (n % G * K)) = decide (G < 2 * (n % G)) := by
  rw [← Nat.mul_assoc]
  exact decide_eq_decide.2 (Nat.mul_lt_mul_right hk)
 have h2 : (G * K == 2 * (n % G * K)) = (G == 2 * (n % G)) := by
  rw [← Nat.mul_assoc, Bool.eq_iff_iff, beq_iff_eq, beq_iff_eq]
  exact Nat.mul_right_cancel_iff hk
 simp only [h1, h2]
theorem cut_zero {neg : Bool} {n : Nat} : Ieee.Toward.even.cut neg n 0 = n := by
 unfold Ieee.Toward.cut
 simp [Nat.mod_one]
theorem nearest_scale {s : Bool} {n k : Nat} {p : Int} : Ieee.double.nearest s (n <<< k) (p - k) = Ieee.double.nearest s n p := by
 by_cases h : n = 0
 ·subst h; simp [Ieee.Format.nearest]
 unfold Ieee.Format.nearest
 rw [if_neg h, if_neg (shift_ne h)]
 simp only [log2_shift h]
 rw [show p - (k : Int) + ((n.log2 + k : Nat) : Int) - (Ieee.double.fractionBits : Int) = p + (n.log2 : Int) - (Ieee.double.fractionBits : Int) by omega]
 generalize max (p + (n.log2 : Int) - (Ieee.double.fractionBits : Int)) Ieee.double.leastPlace = last
 suffices hc : Ieee.Toward.even.cut s ((n <<< k) <<< (p - k - last).toNat) (last - (p - k)).toNat = Ieee.Toward.even.cut s (n <<< (p - last).toNat) (last - p).toNat by rw [hc]
 by_cases h1 : (k : Int) ≤ p - last
 ·rw [show (last - (p - k)).toNat = 0 by omega, show (last - p).toNat = 0 by omega, ← Nat.shiftLeft_add]
  congr 2; omega
 ·by_cases h2 : 0 ≤ p - last
  ·rw [show (p - k - last).toNat = 0 by omega, show (last - p).toNat = 0 by omega, Nat.shiftLeft_zero]
   have e : n <<< k = (n <<< (p - last).toNat) <<< (k - (p - last).toNat) := by rw [← Nat.shiftLeft_add]; congr 1; omega
   rw [e, show (last - (p - k)).toNat = 0 + (k - (p - last).toNat) by omega, cut_scale (shift_ne h)]
  ·rw [show (p - k - last).toNat = 0 by omega, show (p - last).toNat = 0 by omega, Nat.shiftLeft_zero, Nat.shiftLeft_zero, show (last - (p - k)).toNat = (last - p).toNat + k by omega, cut_scale h]
theorem nearest_eq {s : Bool} {n m : Nat} {p q : Int} (h : (n : Nat) * 2 ^ (p - min p q).toNat = m * 2 ^ (q - min p q).toNat) : Ieee.double.nearest s n p = Ieee.double.nearest s m q := by
 have h1 := @nearest_scale s n (p - min p q).toNat p
 have h2 := @nearest_scale s m (q - min p q).toNat q
 rw [Nat.shiftLeft_eq] at h1 h2
 rw [← h1, ← h2, h, show p - ((p - min p q).toNat : Int) = q - ((q - min p q).toNat : Int) by omega]
def sgn (w : Nat) : Bool := w / 9223372036854775808 % 2 == 1
def rung (w : Nat) : Nat := w % 9223372036854775808
def mgn (w : Nat) : Nat := if rung w < 4503599627370496 then rung w else 4503599627370496 + rung w % 4503599627370496
def plc (w : Nat) : Int := if rung w < 4503599627370496 then -1074 else -1074 + (rung w / 4503599627370496 - 1 : Nat)
def vlu (w : Nat) : Nat := mgn w * 2 ^ (plc w + 1074).toNat
theorem finB_iff {w : Nat} (hw : w < 2 ^ 64) : finB w = true ↔ rung w < 9218868437227405312 := by
 unfold finB rung expo
 simp only [decide_eq_true_eq]
 omega
theorem read_fin {w : Nat} (h : rung w < 9218868437227405312) : Ieee.double.read w = .number (sgn w) (mgn w) (plc w) := by
 unfold Ieee.Format.read mgn plc sgn rung at *
 simp only [signW, binA, infR, lpE]
 split
 ·rfl
 ·first | rfl | rw [if_pos h]
theorem word_eq {w : Nat} (hw : w < 2 ^ 64) : Ieee.double.word (sgn w) (rung w) = w := by
 unfold Ieee.Format.word sgn rung
 rw [signW]
 have h1 : w / 9223372036854775808 < 2 := by omega
 cases h : (w / 9223372036854775808 % 2 == 1)
 ·simp at h ⊢; omega
 ·simp at h ⊢; omega
theorem log2_52 {f : Nat} (h : f < 4503599627370496) : (4503599627370496 + f).log2 = 52 := (Nat.log2_eq_iff (by omega)).2 ⟨by omega, by omega⟩
theorem nearest_read {w : Nat} (hw : w < 2 ^ 64) (h : rung w < 9218868437227405312) : Ieee.double.nearest (sgn w) (mgn w) (plc w) = w := by
 conv => rhs; rw [← word_eq hw]
 unfold Ieee.Format.nearest
 simp only [lpE, fbE, binA, infR]
 by_cases h1 : rung w < 4503599627370496
 ·have e1 : mgn w = rung w := by unfold mgn; rw [if_pos h1]
  have e2 : plc w = -1074 := by unfold plc; rw [if_pos h1]
  rw [e1, e2]
  by_cases h0 : rung w = 0
  ·rw [if_pos h0, h0]
  ·rw [if_neg h0]
   have hl : (rung w).log2 < 52 := by rw [Nat.log2_lt h0]; omega
   rw [show max (-1074 + ((rung w).log2 : Int) - ((52 : Nat) : Int)) (-1074 : Int) = -1074 by omega]
   simp [cut_zero]
   congr 1
   omega
 ·have hf : rung w % 4503599627370496 < 4503599627370496 := Nat.mod_lt _ (by omega)
  have e1 : mgn w = 4503599627370496 + rung w % 4503599627370496 := by unfold mgn; rw [if_neg h1]
  have e2 : plc w = -1074 + (rung w / 4503599627370496 - 1 : Nat) := by unfold plc; rw [if_neg h1]
  rw [e1, e2, if_neg (by omega), log2_52 hf]
  generalize hq : rung w / 4503599627370496 - 1 = q
  rw [show max (-1074 + (q : Int) + ((52 : Nat) : Int) - ((52 : Nat) : Int)) (-1074 : Int) = -1074 + (q : Int) by omega]
  rw [show (-1074 + (q : Int) - (-1074 + (q : Int))).toNat = 0 by omega, Nat.shiftLeft_zero, cut_zero, show (-1074 + (q : Int) - -1074).toNat = q by omega]
  congr 1
  omega
theorem plc_ge (w : Nat) : -1074 ≤ plc w := by unfold plc; split <;> omega
theorem mgn_lt (w : Nat) : mgn w < 9007199254740992 := by
 unfold mgn
 have := Nat.mod_lt (rung w) (show 0 < 4503599627370496 by omega)
 split <;> omega
theorem word_parts {s : Bool} {r : Nat} (h : r ≤ 9218868437227405312) : sgn (Ieee.double.word s r) = s ∧ rung (Ieee.double.word s r) = r ∧ Ieee.double.word s r < 2 ^ 64 := by
 unfold Ieee.Format.word sgn rung
 rw [signW]
 cases s
 ·simp; omega
 ·simp; omega
theorem read_inf {w : Nat} (h : rung w = 9218868437227405312) : Ieee.double.read w = .infinity (sgn w) := by
 unfold Ieee.Format.read sgn rung at *
 simp only [signW, binA, infR, h]
 rfl
end Go.Bn
namespace Go.Bn
open Go
def ONE : Nat := 0x3ff0000000000000
def NEG0 : Nat := 0x8000000000000000
theorem read_one : Ieee.double.read ONE = .number false 4503599627370496 (-52) := by decide +kernel
theorem mul_shift (m : Nat) : 4503599627370496 * m = m <<< 52 := by
 rw [Nat.shiftLeft_eq, Nat.mul_comm]
theorem fmul_one {x : Nat} (hx : x < 2 ^ 64) (hf : finB x = true) : fmul ONE x = x := by
 have hr := (finB_iff hx).1 hf
 have e : fmul ONE x = Ieee.double.nearest (false ^^ sgn x) (4503599627370496 * mgn x) (-52 + plc x) := by
  unfold fmul Ieee.Format.mul
  rw [read_one, read_fin hr]
  rfl
 rw [e, mul_shift, Bool.false_xor, show (-52 + plc x) = plc x - ((52 : Nat) : Int) by omega]
 exact (@nearest_scale (sgn x) (mgn x) 52 (plc x)).trans (nearest_read hx hr)
theorem nearest_nought {s : Bool} {p : Int} : Ieee.double.nearest s 0 p = if s then NEG0 else 0 := by
 have : Ieee.double.nearest s 0 p = Ieee.double.word s 0 := by simp [Ieee.Format.nearest]
 rw [this]
 cases s <;> decide +kernel
end Go.Bn
namespace Go.Bn
open Go
theorem sum_opp {s : Bool} {m : Nat} {e : Int} : (Ieee.Datum.number s m e).sum ((Ieee.Datum.number s m e).opposite) = some (.number false 0 e) := by
 simp only [Ieee.Datum.sum, Ieee.Datum.opposite, Ieee.signed]
 cases s <;> simp <;> omega
theorem read_nan {w : Nat} (h : 9218868437227405312 < rung w) : ∃ s t, Ieee.double.read w = .nan s t := by
 unfold Ieee.Format.read
 unfold rung at h
 simp only [signW, binA, infR]
 rw [if_neg (by omega), if_neg (by omega), if_neg (by omega)]
 exact ⟨_, _, rfl⟩
theorem fsub_self {x : Nat} (hx : x < 2 ^ 64) : fsub x x = if finB x = true then 0 else NAN := by
 unfold fsub Ieee.Format.sub
 by_cases h1 : rung x < 9218868437227405312
 ·rw [if_pos ((finB_iff hx).2 h1), read_fin h1, sum_opp]
  show Ieee.double.nearest false 0 (plc x) = 0
  rw [nearest_nought]; rfl
 ·have hf : ¬ finB x = true := fun h => h1 ((finB_iff hx).1 h)
  rw [if_neg hf]
  by_cases h2 : rung x = 9218868437227405312
  ·rw [read_inf h2]
   cases sgn x <;> rfl
  ·obtain ⟨s, t, h⟩ := read_nan (show 9218868437227405312 < rung x by omega)
   rw [h]
   rfl
theorem fin_not_nan {x : Nat} (h : finB x = true) : nanB x = false := by
 rw [nanB_iff]
 unfold finB expo at h
 simp only [decide_eq_true_eq] at h
 exact decide_eq_false (by omega)
end Go.Bn
namespace Go.Bn
open Go
theorem fop_lt {op : BinOp} {x y : Nat} : fop (fbits op x y) < 2 ^ 64 := by
 cases h : fbits op x y with
 | none => exact NAN_lt
 | some r => exact (fbits_some h).2.1
def sf (s : Bool) : Nat → Nat → Nat := if s then fsub else fadd
end Go.Bn
namespace Go.Bn
open Go
def wr (a b : Int) : Int := IntKind.i64.wrap (a + b)
end Go.Bn
namespace Go.Bn
open Go
def OkAt (ps : List Int) (a : Nat) : Prop := 0 ≤ ps.getD a 0 ∧ ps.getD a 0 < (ps.length : Int) ∧ ∀ q, q < a → ps.getD q 0 ≠ ps.getD a 0
instance (ps : List Int) (a : Nat) : Decidable (OkAt ps a) := by unfold OkAt; exact inferInstance
def OkTo (ps : List Int) (k : Nat) : Prop := ∀ a, a < k → OkAt ps a
instance (ps : List Int) (k : Nat) : Decidable (OkTo ps k) := by unfold OkTo; exact inferInstance
end Go.Bn
namespace Go.Bn
open Go
theorem toldR_e {r c : Int} {xs : List Nat} (h : (toldR r c xs).e = 0) : xs.all finB = true ∧ toldR r c xs = ⟨r, c, xs, 0⟩ := by
 unfold toldR at h ⊢
 cases hf : xs.all finB
 ·rw [hf] at h; cases h
 ·exact ⟨rfl, by rw [if_neg (by decide)]⟩
end Go.Bn
namespace Go.Bn
open Go
def P2 (k : Int) : Nat := (k + 1023).toNat * 4503599627370496
theorem p2_lt {k : Int} (h0 : -500 ≤ k) (h1 : k ≤ 500) : P2 k < 2 ^ 64 := by unfold P2; omega
theorem p2_rung {k : Int} (h0 : -500 ≤ k) (h1 : k ≤ 500) : rung (P2 k) = P2 k ∧ P2 k < 9218868437227405312 := by unfold rung P2; omega
theorem p2_fin {k : Int} (h0 : -500 ≤ k) (h1 : k ≤ 500) : finB (P2 k) = true := (finB_iff (p2_lt h0 h1)).2 (by have := p2_rung h0 h1; omega)
theorem fmul_fin {x y : Nat} (hx : rung x < 9218868437227405312) (hy : rung y < 9218868437227405312) : fmul x y = Ieee.double.nearest (sgn x ^^ sgn y) (mgn x * mgn y) (plc x + plc y) := by
 unfold fmul Ieee.Format.mul
 rw [read_fin hx, read_fin hy]
 rfl
def TINY : Nat := 0x10000000000000
def P52 : Nat := 0x4330000000000000
def nrmR (x : Nat) : Nat × Int := if fcmp .lss (fabs x) TINY = true then (fmul x P52, -52) else (x, 0)
theorem expo_rung (w : Nat) : expo w = rung w / 4503599627370496 := by unfold expo rung; omega
end Go.Bn
namespace Go.Bn
open Go
section ops
variable {P : Program} {n : Nat} {ops : Array Oper} {Γ : Facts} {ρ : Env} {δ : VEnv} {τ : List VR}
variable {d : Nat} {ty : TypeId} {pos : String} {af : Array Edge}
theorem OpOK.sub {o : Oper} {acc : Acc} {p q : SP} {r' : VR} (h : OpOK P n ops Γ ρ δ τ o acc (.c p) r') (hg : o.guard = none) (hs : ∀ v c, p.H v c → q.H v c) : OpOK P n ops Γ ρ δ τ o acc (.c q) r' := by
 intro a c ob g1 g2 g3 g4 g5 g6 g7
 have := h a c ob g1 g2 g3 g4 g5 g6 g7
 have hw : Region.wanted o (yielded ops a.tmps) = true := by unfold Region.wanted; rw [hg]
 rw [if_pos hw] at this ⊢
 exact this.mono fun v w' ⟨c', ob', q1, q2, q3, q4⟩ => ⟨c', ob', q1, q2, hs _ _ q3, q4⟩
theorem op_f64bitsn {f : Nat} {x : Operand} {v : Nat} {ats : Array TypeId} (hf : Ext P f Go.Extern.MathFloatBits.float64bits) (hn : nanB v = false) (hx : Lk Γ δ ρ x (flp v)) :
  OpOK P n ops Γ ρ δ τ ⟨some d, .call ⟨.value (.func f), #[x], ats⟩, ty, pos, af, none⟩ .no (.c (isv (.int .u64 (v : Int)))) dum := (op_f64bits hf hx).sub rfl (bitp_isv hn)
theorem op_neg {x : Operand} {t : TypeId} {k : IntKind} {a z : Int} (hx : Lk Γ δ ρ x (isv (.int k a))) (hz : k.wrap (-a) = z) :
  OpOK P n ops Γ ρ δ τ ⟨some d, .unOp .neg t x, ty, pos, af, none⟩ .no (.c (isv (.int k z))) dum :=
 ok_pure fun A c _ hr => by
  subst hz
  have h := (hr x _ (by simp [Op.operands]) hx).1
  exact ⟨.int k (k.wrap (-a)), by simp [execOp, Op.unary, Op.intArith, h], rfl, rfl⟩
end ops
theorem wu64 (z : Int) : IntKind.u64.wrap z = z % 18446744073709551616 := by simp [IntKind.wrap, IntKind.bits, IntKind.signed]
theorem p2_shl {k : Int} (h0 : -500 ≤ k) (h1 : k ≤ 500) : IntKind.u64.wrap ((k + 1023) * 2 ^ min (52 : Int).toNat IntKind.u64.bits) = ((P2 k : Nat) : Int) := by
 rw [show min (52 : Int).toNat IntKind.u64.bits = 52 by decide, wu64]
 unfold P2
 omega
theorem p2_or {k : Int} (h0 : -500 ≤ k) (h1 : k ≤ 500) : bitsOf .or .u64 0 ((P2 k : Nat) : Int) = ((P2 k : Nat) : Int) := by
 rw [show (0 : Int) = ((0 : Nat) : Int) from rfl, bits_or _ _ (by decide) (p2_lt h0 h1), Nat.zero_or]
def MAXF : Nat := 0x7fefffffffffffff
theorem plc_le {x : Nat} (hr : rung x < 9218868437227405312) : plc x ≤ 971 := by unfold plc; split <;> omega
end Go.Bn
