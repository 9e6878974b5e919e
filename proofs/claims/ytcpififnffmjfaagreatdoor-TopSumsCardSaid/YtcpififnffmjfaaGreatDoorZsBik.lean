/-
 Words of 64 bits: lengths of words, shifts to the right with what they lose.
-/
import Derived.Test.YtcpififnffmjfaaGreatDoorZsBii
set_option linter.unusedVariables false
set_option linter.unusedSimpArgs false
namespace Go.Bn
open Go
theorem shr64_32 (z : Int) : z.fdiv (2 ^ min (32 : Int).toNat IntKind.u64.bits) = z / 4294967296 := by
 show z.fdiv 4294967296 = z / 4294967296
 exact Int.fdiv_eq_ediv_of_nonneg z (by omega)
theorem shr64_16 (z : Int) : z.fdiv (2 ^ min (16 : Int).toNat IntKind.u64.bits) = z / 65536 := by
 show z.fdiv 65536 = z / 65536
 exact Int.fdiv_eq_ediv_of_nonneg z (by omega)
theorem shr64_8 (z : Int) : z.fdiv (2 ^ min (8 : Int).toNat IntKind.u64.bits) = z / 256 := by
 show z.fdiv 256 = z / 256
 exact Int.fdiv_eq_ediv_of_nonneg z (by omega)
theorem bl_32 {z : Int} (h : 4294967296 ≤ z) : (bl z.toNat : Int) = 32 + (bl (z / 4294967296).toNat : Int) := by
 have := bl_shr (t := z.toNat) (k := 32) (by show 4294967296 ≤ _; omega)
 rw [show z.toNat / 2 ^ 32 = (z / 4294967296).toNat by show z.toNat / 4294967296 = _; omega] at this
 omega
theorem digB_eq (b : List Int) (k : Nat) : digBJ b k = b.getD k 0 := by
 unfold digBJ
 split
 ·rfl
 ·rw [List.getD_eq_getElem?_getD, List.getElem?_eq_none (by omega)]; rfl
theorem rgtd_eq {m : List Int} {w s i : Nat} : (digBJ m (w + i) + 18446744073709551616 * digBJ m (w + i + 1)) / 2 ^ s % 18446744073709551616 = rgtDJ m w s i := by
 unfold rgtDJ
 rw [digB_eq, digB_eq]
theorem maskJ {s : Nat} (hs : s < 64) : IntKind.u64.wrap ((2 : Int) ^ s - 1) = (2 : Int) ^ s - 1 := by
 obtain ⟨h1, h2, h3, h4⟩ := pow_32J hs
 exact wr64 (by omega) (by omega)
theorem oneJ {s : Nat} (hs : s < 64) : IntKind.u64.wrap (1 * 2 ^ min ((s : Nat) : Int).toNat IntKind.u64.bits) = (2 : Int) ^ s := by
 obtain ⟨h1, h2, h3, h4⟩ := pow_32J hs
 rw [shlJ hs, Int.one_mul]
 omega
theorem and_maskJ {x : Int} {s : Nat} (hx : 0 ≤ x ∧ x < 18446744073709551616) (hs : s < 64) : bitsOf .and .u64 x ((2 : Int) ^ s - 1) = x % 2 ^ s := by
 obtain ⟨a, rfl⟩ : ∃ n : Nat, x = n := ⟨x.toNat, by omega⟩
 obtain ⟨h1, h2, h3, h4⟩ := pow_32J hs
 have hp : (2 : Int) ^ s = ((2 ^ s : Nat) : Int) := by simp
 rw [hp] at h1 h4 ⊢
 have e2 : ((2 ^ s : Nat) : Int) - 1 = ((2 ^ s - 1 : Nat) : Int) := by omega
 rw [e2]
 have e1 : (BitVec.ofInt 64 ((a : Nat) : Int)).toNat = a := by simp [BitVec.toNat_ofInt]; omega
 have e4 : (BitVec.ofInt 64 ((2 ^ s - 1 : Nat) : Int)).toNat = 2 ^ s - 1 := by
  rw [BitVec.toNat_ofInt]
  omega
 have e3 : bitsOf .and .u64 ((a : Nat) : Int) ((2 ^ s - 1 : Nat) : Int) = IntKind.u64.wrap (((BitVec.ofInt 64 ((a : Nat) : Int)) &&& (BitVec.ofInt 64 ((2 ^ s - 1 : Nat) : Int))).toNat : Int) := rfl
 rw [e3, BitVec.toNat_and, e1, e4, and_pow, wu64]
 have := Nat.mod_le a (2 ^ s)
 rw [← Int.natCast_emod]
 omega
theorem or_zeroJ {x y : Int} (hx : 0 ≤ x ∧ x < 18446744073709551616) (hy : 0 ≤ y ∧ y < 18446744073709551616) : bitsOf .or .u64 x y = 0 ↔ x = 0 ∧ y = 0 := by
 obtain ⟨a, rfl⟩ : ∃ n : Nat, x = n := ⟨x.toNat, by omega⟩
 obtain ⟨b, rfl⟩ : ∃ n : Nat, y = n := ⟨y.toNat, by omega⟩
 rw [bits_or _ _ (by omega) (by omega)]
 constructor
 ·intro h
  have h0 : a ||| b = 0 := by omega
  have := Nat.or_eq_zero_iff.1 h0
  omega
 ·intro ⟨h1, h2⟩
  have h1 : a = 0 := by omega
  have h2 : b = 0 := by omega
  subst h1 h2
  rfl
structure LostI (L : List Int) (r : Int) (i : Nat) (c : Int) : Prop where
 hi : i ≤ L.length
 hc : 0 ≤ c ∧ c < 18446744073709551616
 hz : c = 0 ↔ (r = 0 ∧ magIJ (L.take i) = 0)
theorem lost_zero {L : List Int} {r : Int} (hr : 0 ≤ r ∧ r < 18446744073709551616) : LostI L r 0 r := ⟨Nat.zero_le _, hr, by simp [magIJ]⟩
theorem lost_step {L : List Int} {r c : Int} {i : Nat} (hL : DigJ L) (h : LostI L r i c) (hi : i < L.length) : LostI L r (i + 1) (bitsOf .or .u64 c (L.getD i 0)) := by
 have g := hL.at hi
 refine ⟨hi, dig_or h.hc g, ?_⟩
 rw [or_zeroJ h.hc g, h.hz, magI_takeJ hi, and_assoc]
 have h1 := magI_nonnegJ (hL.take i)
 have h2 := wpw_posJ i
 have h3 : 0 ≤ wpwJ i * L.getD i 0 := Int.mul_nonneg (by omega) g.1
 refine and_congr_right fun _ => ⟨fun ⟨e1, e2⟩ => by rw [e1, e2]; simp, fun e => ?_⟩
 have e1 : magIJ (L.take i) = 0 := by omega
 have e2 : wpwJ i * L.getD i 0 = 0 := by omega
 rcases Int.mul_eq_zero.1 e2 with h9 | h9
 ·omega
 ·exact ⟨e1, h9⟩
theorem mod_rng {x : Int} {s : Nat} (hx : 0 ≤ x ∧ x < 18446744073709551616) : 0 ≤ x % 2 ^ s ∧ x % 2 ^ s < 18446744073709551616 := by
 have hp : (0 : Int) < 2 ^ s := Int.pow_pos (by decide)
 have h1 := Int.emod_nonneg x (show (2 : Int) ^ s ≠ 0 by omega)
 have h2 : x % 2 ^ s ≤ x := by
  have h3 := Int.emod_add_mul_ediv x (2 ^ s)
  have h4 : 0 ≤ (2 : Int) ^ s * (x / 2 ^ s) := Int.mul_nonneg (by omega) (Int.ediv_nonneg hx.1 (by omega))
  omega
 omega
theorem lost_done {x n i : Nat} {c : Int} (hw : n / 64 < (limbsJ x).length) (h : LostI ((limbsJ x).take (n / 64)) ((limbsJ x).getD (n / 64) 0 % 2 ^ (n % 64)) i c) (hi : i = ((limbsJ x).take (n / 64)).length) : (c = 0 ↔ x % 2 ^ n = 0) := by
 have hd := limbs_digJ x
 rw [h.hz, hi, List.take_length]
 have hs := magI_splitJ hw
 rw [limbs_magJ] at hs
 obtain ⟨r, hr⟩ : ∃ r, r = (limbsJ x).getD (n / 64) 0 := ⟨_, rfl⟩
 obtain ⟨T, hT⟩ : ∃ T, T = magIJ ((limbsJ x).take (n / 64)) := ⟨_, rfl⟩
 obtain ⟨D, hD⟩ : ∃ D, D = magIJ ((limbsJ x).drop (n / 64 + 1)) := ⟨_, rfl⟩
 have gr := hd.at hw
 have gT := magI_nonnegJ (hd.take (n / 64))
 have lT := magI_ltJ (hd.take (n / 64))
 rw [List.length_take, show min (n / 64) (limbsJ x).length = n / 64 by omega] at lT
 rw [← hr, ← hT, ← hD] at hs
 rw [← hr] at gr ⊢
 rw [← hT] at gT lT ⊢
 have hs64 : n % 64 < 64 := Nat.mod_lt _ (by decide)
 obtain ⟨h1, h2, h3, h4⟩ := pow_32J hs64
 have hW := wpw_posJ (n / 64)
 obtain ⟨W, hWe⟩ : ∃ W, W = wpwJ (n / 64) := ⟨_, rfl⟩
 obtain ⟨P, hP⟩ : ∃ P : Int, P = 2 ^ (n % 64) := ⟨_, rfl⟩
 obtain ⟨Q, hQ⟩ : ∃ Q : Int, Q = 2 ^ (64 - n % 64) := ⟨_, rfl⟩
 have hWP : W * P = ((2 ^ n : Nat) : Int) := by
  rw [hWe, hP, wpw_twoJ, show 64 * (n / 64) + n % 64 = n by omega]; simp
 rw [← hP] at h1 h3 ⊢
 rw [← hQ] at h2 h3
 rw [← hWe] at hW lT hs
 have hm1 := Int.emod_nonneg r (show P ≠ 0 by omega)
 have hm2 := Int.emod_lt_of_pos r (show 0 < P by omega)
 have hrd := Int.emod_add_mul_ediv r P
 obtain ⟨m, hm⟩ : ∃ m, m = r % P := ⟨_, rfl⟩
 obtain ⟨q, hq⟩ : ∃ q, q = r / P := ⟨_, rfl⟩
 rw [← hm] at hm1 hm2 hrd ⊢
 rw [← hq] at hrd
 have e1 : (x : Int) = (T + W * m) + ((2 ^ n : Nat) : Int) * (q + Q * D) := by
  rw [hs, ← hWP, ← hrd, ← h3]
  simp only [Int.mul_add, Int.mul_assoc]
  omega
 have hWm : 0 ≤ W * m := Int.mul_nonneg (by omega) hm1
 have hb : T + W * m < ((2 ^ n : Nat) : Int) := by
  rw [← hWP]
  have := Int.mul_le_mul_of_nonneg_left (show m + 1 ≤ P by omega) (show 0 ≤ W by omega)
  rw [Int.mul_add] at this
  omega
 have e2 : ((x % 2 ^ n : Nat) : Int) = T + W * m := by
  rw [Int.natCast_emod, e1, Int.add_mul_emod_self_left, Int.emod_eq_of_lt (by omega) hb]
 constructor
 ·intro ⟨a, b⟩
  rw [a, b, Int.mul_zero, Int.zero_add] at e2
  exact Int.ofNat.inj e2
 ·intro e
  rw [e] at e2
  have e3 : T = 0 := by simp at e2; omega
  have e4 : W * m = 0 := by simp at e2; omega
  rcases Int.mul_eq_zero.1 e4 with h9 | h9
  ·omega
  ·exact ⟨h9, e3⟩
theorem lost_big {x n : Nat} (hw : (limbsJ x).length ≤ n / 64) : x < 2 ^ n := by
 have h := magI_ltJ (limbs_digJ x)
 rw [limbs_magJ] at h
 have h2 := wpw_monoJ hw
 rw [wpJ_pow (n / 64)] at h2
 have h3 : (2 : Nat) ^ (64 * (n / 64)) ≤ 2 ^ n := Nat.pow_le_pow_right (by decide) (by omega)
 omega
theorem lost_1 {x n : Nat} (hw : (limbsJ x).length ≤ n / 64) : cmpB .gtr (((limbsJ x).length : Nat) : Int) 0 = decide (x % 2 ^ n ≠ 0) := by
 have h := lost_big hw
 have h0 := limbs_len0J (n := x)
 rw [Nat.mod_eq_of_lt h]
 by_cases e : x = 0
 ·have := h0.2 e; rw [this, e]; decide
 ·have : (limbsJ x).length ≠ 0 := fun e2 => e (h0.1 e2)
  simp [cmpB, e]; omega
theorem lost_2 {x n : Nat} {c : Int} (h : c = 0 ↔ x % 2 ^ n = 0) : cmpB .neq c 0 = decide (x % 2 ^ n ≠ 0) := by
 by_cases e : c = 0
 ·have := h.1 e
  simp [cmpB, e, this]
 ·have : ¬ x % 2 ^ n = 0 := fun e2 => e (h.2 e2)
  simp [cmpB, e, this]
theorem quot_big {x n : Nat} (hw : (limbsJ x).length ≤ n / 64) : x / 2 ^ n = 0 := Nat.div_eq_of_lt (lost_big hw)
theorem rgt_endL {x n i : Nat} (hw : n / 64 < (limbsJ x).length) (hi : i = (limbsJ x).length - n / 64) : (magIJ (rgtPJ (limbsJ x) (n / 64) (n % 64) i)).toNat = x / 2 ^ n := by
 rw [rgt_endJ (limbs_digJ x) (by omega) hi, mag_shrJ]
end Go.Bn
namespace Go.Bn
open Go
def fillP (T : List Int) (i : Nat) : List Int := T.take i ++ List.replicate (T.length - i) 0
theorem fill_zero (T : List Int) : fillP T 0 = List.replicate T.length 0 := by unfold fillP; simp
theorem fill_len {T : List Int} {i : Nat} (hi : i ≤ T.length) : (fillP T i).length = T.length := by
 unfold fillP
 rw [List.length_append, List.length_take, List.length_replicate]
 omega
theorem fill_set {T : List Int} {i : Nat} {z : Int} (hi : i < T.length) (hz : z = T.getD i 0) : (fillP T i).set i z = fillP T (i + 1) := by
 unfold fillP
 have hl : (T.take i).length = i := by rw [List.length_take]; omega
 rw [List.set_append_right _ _ (by omega), hl, Nat.sub_self, List.take_add_one, List.getElem?_eq_getElem hi, show T.length - i = (T.length - (i + 1)) + 1 by omega, List.replicate_succ, List.set_cons_zero, List.append_assoc]
 rw [hz, List.getD_eq_getElem?_getD, List.getElem?_eq_getElem hi]
 rfl
theorem fill_all {T : List Int} {i : Nat} (hi : i = T.length) : fillP T i = T := by
 unfold fillP
 rw [hi]; simp
theorem bits_and' (a b : Nat) (ha : a < 2 ^ 64) (hb : b < 2 ^ 64) : bitsOf .and .u64 (a : Int) (b : Int) = ((a &&& b : Nat) : Int) := by
 have e1 : (BitVec.ofInt 64 ((a : Nat) : Int)).toNat = a := by simp [BitVec.toNat_ofInt]; omega
 have e2 : (BitVec.ofInt 64 ((b : Nat) : Int)).toNat = b := by simp [BitVec.toNat_ofInt]; omega
 have e3 : bitsOf .and .u64 ((a : Nat) : Int) ((b : Nat) : Int) = IntKind.u64.wrap (((BitVec.ofInt 64 ((a : Nat) : Int)) &&& (BitVec.ofInt 64 ((b : Nat) : Int))).toNat : Int) := rfl
 rw [e3, BitVec.toNat_and, e1, e2, wu64]
 have := Nat.and_lt_two_pow (x := a) (y := b) hb
 omega
def andLJ (a b : List Int) : List Int := List.zipWith (bitsOf .and .u64) a b
theorem andLJ_len (a b : List Int) : (andLJ a b).length = min a.length b.length := by unfold andLJ; rw [List.length_zipWith]
theorem andLJ_at {a b : List Int} {i : Nat} (h : i < min a.length b.length) : (andLJ a b).getD i 0 = bitsOf .and .u64 (a.getD i 0) (b.getD i 0) := by
 unfold andLJ
 rw [List.getD_eq_getElem?_getD, List.getElem?_eq_getElem (by rw [List.length_zipWith]; exact h), List.getElem_zipWith, List.getD_eq_getElem?_getD, List.getElem?_eq_getElem (show i < a.length by omega), List.getD_eq_getElem?_getD, List.getElem?_eq_getElem (show i < b.length by omega)]
 rfl
theorem andLJ_mag : ∀ x y : Nat, DigJ (andLJ (limbsJ x) (limbsJ y)) ∧ magIJ (andLJ (limbsJ x) (limbsJ y)) = ((x &&& y : Nat) : Int) := by
 intro x
 induction x using Nat.strongRecOn with
 | ind x ih =>
 intro y
 by_cases hx : x = 0
 ·subst hx
  rw [limbs_zeroJ]
  exact ⟨dig_nilJ, by simp [andLJ, magIJ]⟩
 by_cases hy : y = 0
 ·subst hy
  rw [limbs_zeroJ]
  refine ⟨?_, ?_⟩
  ·intro z hz; simp [andLJ] at hz
  ·simp [andLJ, magIJ]
 rw [limbs_posJ hx, limbs_posJ hy]
 have hp : (18446744073709551616 : Nat) = 2 ^ 64 := by decide
 obtain ⟨i1, i2⟩ := ih (x / 18446744073709551616) (by omega) (y / 18446744073709551616)
 have e1 : bitsOf .and .u64 ((x % 18446744073709551616 : Nat) : Int) ((y % 18446744073709551616 : Nat) : Int) = (((x &&& y) % 18446744073709551616 : Nat) : Int) := by
  rw [bits_and' _ _ (by omega) (by omega), hp, Nat.and_mod_two_pow]
 have e2 : x / 18446744073709551616 &&& y / 18446744073709551616 = (x &&& y) / 18446744073709551616 := by
  rw [hp, Nat.and_div_two_pow]
 have e0 : andLJ (((x % 18446744073709551616 : Nat) : Int) :: limbsJ (x / 18446744073709551616)) (((y % 18446744073709551616 : Nat) : Int) :: limbsJ (y / 18446744073709551616)) = (((x &&& y) % 18446744073709551616 : Nat) : Int) :: andLJ (limbsJ (x / 18446744073709551616)) (limbsJ (y / 18446744073709551616)) := by
  rw [← e1]; rfl
 rw [e0]
 refine ⟨fun z hz => ?_, ?_⟩
 ·rcases List.mem_cons.1 hz with h | h
  ·rw [h]; omega
  ·exact i1 z h
 ·show (((x &&& y) % 18446744073709551616 : Nat) : Int) + 18446744073709551616 * magIJ (andLJ (limbsJ (x / 18446744073709551616)) (limbsJ (y / 18446744073709551616))) = _
  rw [i2, e2]
  omega
def orLJ : List Int → List Int → List Int
 | [], b => b
 | a, [] => a
 | x :: a, y :: b => bitsOf .or .u64 x y :: orLJ a b
theorem orLJ_nil (a : List Int) : orLJ a [] = a := by cases a <;> rfl
theorem orLJ_len : ∀ a b : List Int, (orLJ a b).length = max a.length b.length
 | [], b => by show b.length = _; simp
 | x :: a, [] => by show (x :: a).length = _; simp
 | x :: a, y :: b => by
  show (orLJ a b).length + 1 = _
  rw [orLJ_len a b, List.length_cons, List.length_cons]
  omega
theorem or_z1 {z : Int} (h : 0 ≤ z ∧ z < 18446744073709551616) : bitsOf .or .u64 0 z = z := by
 obtain ⟨b, rfl⟩ : ∃ n : Nat, z = n := ⟨z.toNat, by omega⟩
 have := bits_or 0 b (by omega) (by omega)
 rw [Nat.zero_or] at this
 exact this
theorem or_z2 {z : Int} (h : 0 ≤ z ∧ z < 18446744073709551616) : bitsOf .or .u64 z 0 = z := by
 obtain ⟨b, rfl⟩ : ∃ n : Nat, z = n := ⟨z.toNat, by omega⟩
 have := bits_or b 0 (by omega) (by omega)
 rw [Nat.or_zero] at this
 exact this
theorem orLJ_at : ∀ {a b : List Int} {i : Nat}, DigJ a → DigJ b → i < max a.length b.length → (orLJ a b).getD i 0 = bitsOf .or .u64 (a.getD i 0) (b.getD i 0)
 | [], b, i, ha, hb, h => by
  show b.getD i 0 = bitsOf .or .u64 0 (b.getD i 0)
  rw [or_z1 (hb.at (by simpa using h))]
 | x :: a, [], i, ha, hb, h => by
  show (x :: a).getD i 0 = bitsOf .or .u64 ((x :: a).getD i 0) 0
  rw [or_z2 (ha.at (by simpa using h))]
 | x :: a, y :: b, 0, ha, hb, h => rfl
 | x :: a, y :: b, i + 1, ha, hb, h => by
  show (orLJ a b).getD i 0 = bitsOf .or .u64 (a.getD i 0) (b.getD i 0)
  exact orLJ_at ha.tail hb.tail (by simp only [List.length_cons] at h; omega)
theorem orLJ_mag : ∀ x y : Nat, DigJ (orLJ (limbsJ x) (limbsJ y)) ∧ magIJ (orLJ (limbsJ x) (limbsJ y)) = ((x ||| y : Nat) : Int) := by
 intro x
 induction x using Nat.strongRecOn with
 | ind x ih =>
 intro y
 by_cases hx : x = 0
 ·subst hx
  rw [limbs_zeroJ]
  exact ⟨limbs_digJ y, by show magIJ (limbsJ y) = _; rw [limbs_magJ, Nat.zero_or]⟩
 by_cases hy : y = 0
 ·subst hy
  rw [limbs_zeroJ, orLJ_nil]
  exact ⟨limbs_digJ x, by rw [limbs_magJ, Nat.or_zero]⟩
 rw [limbs_posJ hx, limbs_posJ hy]
 have hp : (18446744073709551616 : Nat) = 2 ^ 64 := by decide
 obtain ⟨i1, i2⟩ := ih (x / 18446744073709551616) (by omega) (y / 18446744073709551616)
 have e1 : bitsOf .or .u64 ((x % 18446744073709551616 : Nat) : Int) ((y % 18446744073709551616 : Nat) : Int) = (((x ||| y) % 18446744073709551616 : Nat) : Int) := by
  rw [bits_or _ _ (by omega) (by omega), hp, Nat.or_mod_two_pow]
 have e2 : x / 18446744073709551616 ||| y / 18446744073709551616 = (x ||| y) / 18446744073709551616 := by
  rw [hp, Nat.or_div_two_pow]
 have e0 : orLJ (((x % 18446744073709551616 : Nat) : Int) :: limbsJ (x / 18446744073709551616)) (((y % 18446744073709551616 : Nat) : Int) :: limbsJ (y / 18446744073709551616)) = (((x ||| y) % 18446744073709551616 : Nat) : Int) :: orLJ (limbsJ (x / 18446744073709551616)) (limbsJ (y / 18446744073709551616)) := by
  rw [← e1]; rfl
 rw [e0]
 refine ⟨fun z hz => ?_, ?_⟩
 ·rcases List.mem_cons.1 hz with h | h
  ·rw [h]; omega
  ·exact i1 z h
 ·show (((x ||| y) % 18446744073709551616 : Nat) : Int) + 18446744073709551616 * magIJ (orLJ (limbsJ (x / 18446744073709551616)) (limbsJ (y / 18446744073709551616))) = _
  rw [i2, e2]
  omega
theorem nat_mag {l : List Int} {n : Nat} (h : magIJ l = (n : Int)) : (magIJ l).toNat = n := by omega
theorem plus_1 {x : Int} {t : Bool} {Y : Nat} (h : (decide (x < 0) == t) = true) : sgnI t (x.natAbs + Y) = x + sgnI t Y := by
 unfold sgnI
 by_cases hx : x < 0 <;> cases t <;> simp [hx] at h ⊢ <;> omega
theorem plus_2 {x : Int} {t : Bool} {Y : Nat} (h : (decide (x < 0) == t) = false) (hle : Y ≤ x.natAbs) : sgnI (decide (x < 0)) (x.natAbs - Y) = x + sgnI t Y := by
 unfold sgnI
 by_cases hx : x < 0 <;> cases t <;> simp [hx] at h ⊢ <;> omega
theorem plus_3 {x : Int} {t : Bool} {Y : Nat} (h : (decide (x < 0) == t) = false) (hle : x.natAbs ≤ Y) : sgnI t (Y - x.natAbs) = x + sgnI t Y := by
 unfold sgnI
 by_cases hx : x < 0 <;> cases t <;> simp [hx] at h ⊢ <;> omega
theorem add_1J {x y : Int} : x + sgnI (decide (y < 0)) y.natAbs = x + y := by
 unfold sgnI
 by_cases hy : y < 0 <;> simp [hy] <;> omega
theorem sub_1J {x y : Int} : x + sgnI (!decide (y < 0)) y.natAbs = x - y := by
 unfold sgnI
 by_cases hy : y < 0 <;> simp [hy] <;> omega
theorem sml_auxJ {n k K : Nat} (h : n < 2 ^ k) (hk : k ≤ 64 * K) : ((n : Nat) : Int) < wpwJ K := by
 rw [wpJ_pow]; exact Int.ofNat_lt.2 (Nat.lt_of_lt_of_le h (Nat.pow_le_pow_right (by decide) hk))
theorem sml_powJ {x : Int} {k : Nat} (h : x.natAbs < 2 ^ k) (hk : k ≤ 64 * 4000) : SmlJ x := ⟨by
 exact sml_auxJ h hk⟩
theorem sml_ofJ {x : Int} (h : x.natAbs < 18446744073709551616) : SmlJ x := sml_powJ (k := 64) (by show _ < 18446744073709551616; exact h) (by decide)
theorem bit_0J (x : Nat) : bitsOf .and .u64 (digBJ (limbsJ x) 0) 1 = ((x % 2 : Nat) : Int) := by rw [digB_eq, bit_andJ]
theorem To.freezeM {P : Program} {n : Nat} {c0 : EW} {ob0 : Bs} {Γ : Facts} {ρ : Env} {σ : List Res} (k j0 : Nat) {r0 r0' r : Res} {v : Value} {p : SP} (hr0 : r0.H c0 ob0) (hfix : Fix r0 r0') (hj0 : nth σ j0 = some r0') (hne : Nat.beq k j0 = false) (hr : nth σ k = some r) (hf : Freezes r v p) {σ' : List Res} (hσ' : setNth σ k Go.Bn.emp = σ') : To ⟨P, n, c0, fun b => ob0 b⟩ Γ ρ σ ((v, p) :: Γ) ρ σ' := by
 subst hσ'
 intro a c hs
 obtain ⟨obs, hown, hres⟩ := hs.own
 let c' : EW := ⟨c.w, fun b => c.M b ∧ ¬ obs k b⟩
 have hle : Le c c' := ⟨rfl, rfl, rfl, Nat.le_refl _, fun j _ hm => ⟨rfl, fun h => hm h.1⟩⟩
 refine ⟨c', rfl, hs.size, hs.defers, ⟨?_, hs.facts.2.le hle⟩, fun t q hq => q.st _ _ _ hle (hs.env t q hq), fun j => if j = k then nob else obs j, ?_, ?_⟩
 ·intro v' p' hm
  rcases List.mem_cons.1 hm with he | hm
  ·cases he
   exact hf c c' (obs k) (hres k r hr) hle fun b hb => ⟨rfl, fun h => h.2 hb⟩
  ·exact p'.st _ _ _ hle (hs.facts.1 v' p' hm)
 ·refine ⟨hown.os, hown.tape, hown.out, hown.size, hown.heap, fun j hj => ?_, fun j hj => hown.wf j hj.1, fun j b hb => ?_, fun i j b hi hj => ?_, hown.wf0⟩
  ·refine ⟨fun h => (hown.mem j hj).1 h.1, fun h => ((hown.mem j hj).2 h).elim (fun h => ?_) .inr⟩
   by_cases e : obs k j
   ·rcases (hown.has k j e).2 with h' | h'
    ·omega
    ·exact .inr h'
   ·exact .inl ⟨h, e⟩
  ·by_cases hjk : j = k
   ·simp only [if_pos hjk] at hb; cases hb
   ·simp only [if_neg hjk] at hb
    exact ⟨⟨(hown.has j b hb).1, fun e => hjk (hown.one j k b hb e)⟩, (hown.has j b hb).2⟩
  ·by_cases hik : i = k
   ·simp only [if_pos hik] at hi; cases hi
   ·by_cases hjk : j = k
    ·simp only [if_pos hjk] at hj; cases hj
    ·simp only [if_neg hik] at hi
     simp only [if_neg hjk] at hj
     exact hown.one i j b hi hj
 ·intro j r' hj
  rw [nth_setNth] at hj
  by_cases hjk : j = k
  ·rw [if_pos hjk] at hj
   simp only [if_pos hjk]
   cases hn : nth σ j with
   | none => rw [hn] at hj; cases hj
   | some x => rw [hn] at hj; cases hj; rfl
  ·rw [if_neg hjk] at hj
   simp only [if_neg hjk]
   exact r'.fr _ _ _ hle (fun _ _ => rfl) (hres j r' hj)
end Go.Bn
