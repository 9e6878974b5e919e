/-
 Fractions: greatest divisors, lowest bits.
-/
import Derived.Test.YtjnmgcglooeooaaGreatDoorPsCtv
import Derived.Test.YtjnmgcglooeooaaGreatDoorPsRne
set_option linter.unusedVariables false
set_option linter.unusedSimpArgs false
namespace Go.Bn
open Go
theorem sml_lim {x : Nat} (h : Sml (x : Int)) : (limbs x).length ≤ 4000 := limbs_len (by have := h.h; simpa using this)
theorem sml_le {x y : Nat} (h : x ≤ y) (hy : Sml (y : Int)) : Sml (x : Int) := ⟨by have := hy.h; simp at this ⊢; omega⟩
theorem intP_nat (x : Nat) : intP (x : Int) = ptp [isv (.bool false), ils .u32 (limbs x)] := by
 have : decide ((x : Int) < 0) = false := by simp
 show ptp [isv (.bool (decide ((x : Int) < 0))), ils .u32 (limbs (x : Int).natAbs)] = _
 rw [this, Int.natAbs_natCast]
theorem gc_bl {x y : Nat} (hy : 2 < (limbs y).length) (h : y ≤ x) : ∃ a, bl x = a + 62 := by
  have h1 : 18446744073709551616 ≤ y := Classical.byContradiction fun hc => by
    have := limbs2 (a := y) (by omega)
    omega
  have h2 := bl_ge (t := x) (k := 64) (by have : (2 : Nat) ^ 64 = 18446744073709551616 := by decide
                                          omega)
  exact ⟨bl x - 62, by omega⟩
theorem bl_lim {x : Nat} (h : (limbs x).length ≤ 4000) : bl x ≤ 128000 := by
 have h1 := bl_top x
 split at h1
 ·omega
 ·have h2 := (limbs_dig x).at (k := (limbs x).length - 1) (by omega)
  have h3 := bl_32 h2.1 h2.2
  omega
theorem gc_lead {x y a : Nat} (hx : bl x = a + 62) (hyx : y ≤ x) : x / 2 ^ a < 18446744073709551616 ∧ y / 2 ^ a < 18446744073709551616 ∧ LehX (x : Int) (y : Int) ((x / 2 ^ a : Nat) : Int) ((y / 2 ^ a : Nat) : Int) ((2 ^ a : Nat) : Int) ∧ x / 2 ^ a ≠ 0 := by
 have hp : 0 < 2 ^ a := Nat.two_pow_pos a
 have h1 : x < 2 ^ (a + 62) := bl_le (by omega)
 have h0 : 2 ^ a ≤ x := Classical.byContradiction fun hc => by
  have := bl_lt (t := x) (k := a) (by omega)
  omega
 have e62 : (2 : Nat) ^ 62 = 4611686018427387904 := by decide
 have h2 : x / 2 ^ a < 4611686018427387904 := by
  rw [Nat.div_lt_iff_lt_mul hp, ← e62, Nat.mul_comm, ← Nat.pow_add]
  exact h1
 have h3 : y / 2 ^ a ≤ x / 2 ^ a := Nat.div_le_div_right hyx
 have h4 : x / 2 ^ a ≠ 0 := by
  have := Nat.div_pos h0 hp
  omega
 refine ⟨by omega, by omega, ⟨Int.ofNat_le.2 hp, ?_, ?_, ?_, ?_, Int.ofNat_le.2 hyx, Int.natCast_nonneg _, ⟨Int.natCast_nonneg _, Int.ofNat_le.2 h3⟩, Int.ofNat_lt.2 h2⟩, h4⟩
 ·exact_mod_cast Nat.div_mul_le_self x (2 ^ a)
 ·have := Nat.lt_div_mul_add hp (a := x)
  have e : (x / 2 ^ a + 1) * 2 ^ a = x / 2 ^ a * 2 ^ a + 2 ^ a := by rw [Nat.add_mul, Nat.one_mul]
  exact_mod_cast (show x < (x / 2 ^ a + 1) * 2 ^ a by omega)
 ·exact_mod_cast Nat.div_mul_le_self y (2 ^ a)
 ·have := Nat.lt_div_mul_add hp (a := y)
  have e : (y / 2 ^ a + 1) * 2 ^ a = y / 2 ^ a * 2 ^ a + 2 ^ a := by rw [Nat.add_mul, Nat.one_mul]
  exact_mod_cast (show y < (y / 2 ^ a + 1) * 2 ^ a by omega)
structure GcS (x y : Nat) (s : LSt) : Prop where
 a : -1073741824 ≤ s.a ∧ s.a ≤ 1073741824
 b : -1073741824 ≤ s.b ∧ s.b ≤ 1073741824
 c : -1073741824 ≤ s.c ∧ s.c ≤ 1073741824
 d : -1073741824 ≤ s.d ∧ s.d ≤ 1073741824
 s1 : (s.b ≤ 0 ∧ 0 ≤ s.a) ∨ (0 < s.b ∧ s.a ≤ 0)
 s2 : (s.d ≤ 0 ∧ 0 ≤ s.c) ∨ (0 < s.d ∧ s.c ≤ 0)
 u0 : 0 ≤ s.a * x + s.b * y
 v0 : 0 ≤ s.c * x + s.d * y
 vu : (s.c * x + s.d * y).toNat ≤ (s.a * x + s.b * y).toNat
 ux : (s.a * x + s.b * y).toNat ≤ x
 vy : (s.c * x + s.d * y).toNat < y
 g : Nat.gcd (s.a * x + s.b * y).toNat (s.c * x + s.d * y).toNat = Nat.gcd x y
theorem gc_ux {X Y x y E : Int} {s : LSt} {g A B C D : Int} (h : LehX X Y x y E) (i : LehI X Y x y E s g A B C D) (hx : x ≠ 0) : s.a * X + s.b * Y ≤ X := by
 have hp := i.ep
 have hq := i.eq
 have ea := i.ea
 have eb := i.eb
 have ec := i.ec
 have ed := i.ed
 have ex := i.ex
 have hg := i.g1
 have u0 := i.u0
 have v0 := i.v0
 have D0 := i.D0.1
 have B0 := i.B0.1
 have e1 : g * (D * A - B * C) = 1 := by
  have : g * (D * A - B * C) * x = 1 * x := by
   rw [hp, hq] at ex
   grind
  exact Int.eq_of_mul_eq_mul_right hx this
 have e2 : D * (s.a * X + s.b * Y) + B * (s.c * X + s.d * Y) = X := by
  have : D * (s.a * X + s.b * Y) + B * (s.c * X + s.d * Y) = g * (D * A - B * C) * X := by
   rw [ea, eb, ec, ed]
   grind
  rw [this, e1, Int.one_mul]
 have h1 := Int.mul_le_mul_of_nonneg_right D0 u0
 have h2 := Int.mul_nonneg B0 v0
 omega
theorem gc_step {x y a : Nat} {s : LSt} (hx : bl x = a + 62) (hyx : y ≤ x) (hs : s = lehN (((y / 2 ^ a : Nat) : Int).toNat + 1) (lst0 ((x / 2 ^ a : Nat) : Int) ((y / 2 ^ a : Nat) : Int))) (hb : s.b ≠ 0) : GcS x y s := by
 obtain ⟨_, _, h, h0⟩ := gc_lead hx hyx
 obtain ⟨g, A, B, C, D, i⟩ := leh_all h (((y / 2 ^ a : Nat) : Int).toNat + 1) (leh_zero h)
 rw [← hs] at i
 have hux := gc_ux h i (by omega)
 have u0 := i.u0
 have v0 := i.v0
 have uv := i.uv
 have hg := i.gcd
 have pr := i.pr
 have ea := i.ea
 have eb := i.eb
 have ec := i.ec
 have ed := i.ed
 have A0 := i.A0
 have B0 := i.B0
 have C0 := i.C0
 have D0 := i.D0
 have g1 := i.g1
 have hvy : s.c * x + s.d * y < y := by
  rcases pr with pr | pr
  ·exact absurd (show s.b = 0 by rw [pr]; rfl) hb
  ·exact pr.2
 have hgg : Nat.gcd (s.a * x + s.b * y).toNat (s.c * x + s.d * y).toNat = Nat.gcd x y := by
  have e1 : (s.a * x + s.b * y).natAbs = (s.a * x + s.b * y).toNat := by omega
  have e2 : (s.c * x + s.d * y).natAbs = (s.c * x + s.d * y).toNat := by omega
  rw [← e1, ← e2]
  exact hg
 clear pr hg i h hs
 rcases g1 with g1 | g1
 ·subst g1
  rw [Int.one_mul] at ea eb ec ed
  exact ⟨by omega, by omega, by omega, by omega, .inl (by omega), .inr (by omega), u0, v0, by omega, by omega, by omega, hgg⟩
 ·subst g1
  have eb' : s.b = B := by omega
  have ea' : s.a = -A := by omega
  have ec' : s.c = C := by omega
  have ed' : s.d = -D := by omega
  exact ⟨by omega, by omega, by omega, by omega, .inr (by omega), .inl (by omega), u0, v0, by omega, by omega, by omega, hgg⟩
theorem gc_mod (x y : Nat) : Nat.gcd y (x % y) = Nat.gcd x y := by
 rw [Nat.gcd_comm x y, Nat.gcd_rec y x, Nat.gcd_comm]
theorem gc_max {X Y : Nat} : Nat.gcd (max X Y) (min X Y) = Nat.gcd X Y := by
 rcases Nat.le_total X Y with h | h
 ·rw [Nat.max_eq_right h, Nat.min_eq_left h, Nat.gcd_comm]
 ·rw [Nat.max_eq_left h, Nat.min_eq_right h]
theorem gc_sml {X Y : Nat} (hX : Sml (X : Int)) (hY : Sml (Y : Int)) : Sml ((max X Y : Nat) : Int) := by
 rcases Nat.le_total X Y with h | h
 ·rw [Nat.max_eq_right h]; exact hY
 ·rw [Nat.max_eq_left h]; exact hX
def tzN (n : Nat) : Nat := if h : n = 0 then 0 else if n % 2 = 1 then 0 else tzN (n / 2) + 1
termination_by n
decreasing_by omega
theorem tzN_odd {n : Nat} (h : n % 2 = 1) : tzN n = 0 := by
 rw [tzN]
 simp [h]
theorem tzN_two {n : Nat} (h : n ≠ 0) : tzN (2 * n) = tzN n + 1 := by
 rw [tzN, dif_neg (by omega), if_neg (by omega), Nat.mul_div_cancel_left _ (by omega)]
theorem tzN_pow {n : Nat} (h : n ≠ 0) : ∀ k, tzN (2 ^ k * n) = k + tzN n
 | 0 => by rw [Nat.pow_zero, Nat.one_mul, Nat.zero_add]
 | k + 1 => by
  rw [Nat.pow_succ, Nat.mul_comm (2 ^ k) 2, Nat.mul_assoc, tzN_two (Nat.mul_ne_zero (by have := Nat.two_pow_pos k; omega) h), tzN_pow h k]
  omega
theorem tzN_of : ∀ {n : Nat}, n ≠ 0 → ∃ m, n = 2 ^ tzN n * (2 * m + 1) := by
 intro n
 induction n using Nat.strongRecOn with
 | ind n ih =>
  intro h
  by_cases h1 : n % 2 = 1
  ·refine ⟨n / 2, ?_⟩
   rw [tzN_odd h1, Nat.pow_zero, Nat.one_mul]
   omega
  ·obtain ⟨m, hm⟩ := ih (n / 2) (by omega) (by omega)
   refine ⟨m, ?_⟩
   have e : n = 2 * (n / 2) := by omega
   have e2 : tzN n = tzN (n / 2) + 1 := by have := tzN_two (n := n / 2) (by omega); rw [← e] at this; exact this
   rw [e2, Nat.pow_succ, Nat.mul_comm _ 2, Nat.mul_assoc, ← hm]
   exact e
theorem low_bit {k m : Nat} (h : 2 ^ k * (2 * m + 1) < 2 ^ 32) : (2 ^ k * (2 * m + 1)) &&& (2 ^ 32 - 2 ^ k * (2 * m + 1)) = 2 ^ k := by
 have hp := Nat.two_pow_pos k
 obtain ⟨q, hq⟩ : ∃ q, 2 ^ k * (2 * m + 1) = q + 1 := ⟨2 ^ k * (2 * m + 1) - 1, by have := Nat.mul_pos hp (show 0 < 2 * m + 1 by omega); omega⟩
 have hk : k < 32 := by
  refine (Nat.pow_lt_pow_iff_right (show 1 < 2 by omega)).1 (Nat.lt_of_le_of_lt ?_ h)
  exact Nat.le_mul_of_pos_right _ (by omega)
 have eq1 : q = 2 ^ k * (2 * m) + (2 ^ k - 1) := by
  rw [Nat.mul_add, Nat.mul_one] at hq
  omega
 refine Nat.eq_of_testBit_eq fun i => ?_
 rw [Nat.testBit_and, Nat.testBit_two_pow]
 conv => lhs; rhs; rw [hq]
 rw [Nat.testBit_two_pow_sub_succ (by rw [hq] at h; omega), Nat.testBit_two_pow_mul, eq1, Nat.testBit_two_pow_mul_add _ (by omega)]
 by_cases h1 : i < k
 ·have e1 : decide (k ≤ i) = false := by simp; omega
  have e2 : decide (k = i) = false := by simp; omega
  rw [e1, e2]; simp
 ·by_cases h2 : i = k
  ·subst h2
   have e1 : (2 * m + 1).testBit 0 = true := by simp
   have e2 : (2 * m).testBit 0 = false := by simp
   rw [Nat.sub_self, if_neg h1, e1, e2]
   simp
   omega
  ·have e2 : decide (k = i) = false := by simp; omega
   obtain ⟨j, hj⟩ : ∃ j, i - k = j + 1 := ⟨i - k - 1, by omega⟩
   have e3 : (2 * m + 1).testBit (j + 1) = m.testBit j := by rw [Nat.testBit_succ]; congr 1; omega
   have e4 : (2 * m).testBit (j + 1) = m.testBit j := by rw [Nat.testBit_succ]; congr 1; omega
   rw [if_neg h1, hj, e2, e3, e4]
   cases m.testBit j <;> simp
theorem deb_at : ∀ k : Nat, k < 32 → deb.getD ((2 ^ k * 125613361) % 4294967296 / 134217728) 0 = (k : Int) ∧ (2 ^ k * 125613361) % 4294967296 / 134217728 < 32 := by decide
theorem wneg32 {z : Int} (h0 : 0 < z) (h1 : z < 4294967296) : IntKind.u32.wrap (-z) = 4294967296 - z := by rw [wr32]; omega
theorem and_low {z : Int} (h0 : 0 < z) (h1 : z < 4294967296) : bitsOf .and .u32 z (4294967296 - z) = ((2 ^ tzN z.toNat : Nat) : Int) ∧ tzN z.toNat < 32 := by
 obtain ⟨n, rfl⟩ : ∃ n : Nat, z = n := ⟨z.toNat, by omega⟩
 rw [Int.toNat_natCast]
 have e32 : (2 : Nat) ^ 32 = 4294967296 := by decide
 obtain ⟨m, hm⟩ := tzN_of (n := n) (by omega)
 have hk : tzN n < 32 := by
  refine (Nat.pow_lt_pow_iff_right (show 1 < 2 by omega)).1 (Nat.lt_of_le_of_lt ?_ (show n < 2 ^ 32 by omega))
  have := Nat.le_mul_of_pos_right (2 ^ tzN n) (show 0 < 2 * m + 1 by omega)
  omega
 have hl := low_bit (k := tzN n) (m := m) (by rw [← hm]; omega)
 rw [← hm, e32] at hl
 have e1 : (BitVec.ofInt 32 (n : Int)).toNat = n := by simp [BitVec.toNat_ofInt]; omega
 have e2 : (BitVec.ofInt 32 (4294967296 - (n : Int))).toNat = 4294967296 - n := by simp [BitVec.toNat_ofInt]; omega
 have e3 : bitsOf .and .u32 (n : Int) (4294967296 - (n : Int)) = IntKind.u32.wrap (((BitVec.ofInt 32 (n : Int)) &&& (BitVec.ofInt 32 (4294967296 - (n : Int)))).toNat : Int) := rfl
 have hp : 2 ^ tzN n ≤ n := by
  have := Nat.le_mul_of_pos_right (2 ^ tzN n) (show 0 < 2 * m + 1 by omega)
  omega
 refine ⟨?_, hk⟩
 rw [e3, BitVec.toNat_and, e1, e2, hl, wr32]
 omega
theorem deb_mul (k : Nat) : IntKind.u32.wrap (((2 ^ k : Nat) : Int) * 125613361) = ((2 ^ k * 125613361 % 4294967296 : Nat) : Int) := by rw [wr32]; omega
theorem shr27 (n : Nat) : ((n : Nat) : Int).fdiv (2 ^ min (27 : Int).toNat IntKind.u32.bits) = ((n / 134217728 : Nat) : Int) := by
 have : (2 : Int) ^ min (27 : Int).toNat IntKind.u32.bits = ((134217728 : Nat) : Int) := by decide
 rw [this, Int.fdiv_eq_ediv_of_nonneg _ (by omega), ← Int.natCast_ediv]
theorem tab_at {Γ : Facts} {i : Nat} (hi : i < 32) : Sb Γ (ipo tabV i) (ptp [isv (.int .u8 (deb.getD i 0))]) := fun v c hf hv => by
  obtain ⟨b, hb, hv⟩ := hv
  have hb1 : b = 1 := by
    rcases hb with hb | ⟨_, _, hb⟩
    · unfold tabV at hb; cases hb; rfl
    · unfold tabV at hb; cases hb
  subst hb1
  obtain ⟨h1, cur, T, fz, h2, h3⟩ := hf.2 tabV tabP (by unfold Gl; simp)
  refine ⟨1, i, cur, T, fz, hv, h1, h2, fun j p hj => ?_⟩
  have hj0 : j = 0 := by
    have := nth_lt hj
    simpa using this
  subst hj0
  simp only [nth, Option.some.injEq] at hj
  subst hj
  have hl : i < deb.length := by have : deb.length = 32 := rfl
                                 omega
  exact ⟨_, h3 i (deb.getD i 0) (by rw [List.getD, List.getElem?_eq_getElem hl]; rfl), rfl, rfl, rfl⟩
theorem tz_limb {n k : Nat} (hk : k < (limbs n).length) (hz : magI ((limbs n).take k) = 0) (hw : (limbs n).getD k 0 ≠ 0) : tzN n = 32 * k + tzN ((limbs n).getD k 0).toNat ∧ tzN ((limbs n).getD k 0).toNat < 32 := by
 have h1 := magI_split hk
 rw [limbs_mag, hz, Int.zero_add] at h1
 have h2 := (limbs_dig n).at hk
 obtain ⟨w, hw2⟩ : ∃ w : Nat, (limbs n).getD k 0 = w := ⟨((limbs n).getD k 0).toNat, by omega⟩
 rw [hw2] at h1 h2 hw ⊢
 have h3 := magI_nonneg ((limbs_dig n).drop (k + 1))
 obtain ⟨r, hr⟩ : ∃ r : Nat, magI ((limbs n).drop (k + 1)) = r := ⟨(magI ((limbs n).drop (k + 1))).toNat, by omega⟩
 rw [hr] at h1
 rw [Int.toNat_natCast]
 have hn : n = 2 ^ (32 * k) * (w + 4294967296 * r) := by
  have e : wpw k = ((2 ^ (32 * k) : Nat) : Int) := by
   have : (2 : Nat) ^ 32 = 4294967296 := by decide
   rw [Nat.pow_mul, this, Int.natCast_pow]
   rfl
  rw [e, show (w : Int) + 4294967296 * r = ((w + 4294967296 * r : Nat) : Int) by omega, ← Int.natCast_mul] at h1
  exact Int.ofNat_inj.1 h1
 obtain ⟨m, hm⟩ := tzN_of (n := w) (by omega)
 have ht : tzN w < 32 := by
  have h5 := (and_low (z := (w : Int)) (by omega) (by omega)).2
  rwa [Int.toNat_natCast] at h5
 refine ⟨?_, ht⟩
 have e4 : w + 4294967296 * r = 2 ^ tzN w * (2 * (m + 2 ^ (31 - tzN w) * r) + 1) := by
  have e5 : 2 ^ tzN w * (2 * (2 ^ (31 - tzN w) * r)) = 4294967296 * r := by
   rw [← Nat.mul_assoc, ← Nat.mul_assoc, Nat.mul_comm (2 ^ tzN w) 2, ← Nat.pow_succ', ← Nat.pow_add, show tzN w + 1 + (31 - tzN w) = 32 by omega]
  have e6 : 2 ^ tzN w * (2 * (m + 2 ^ (31 - tzN w) * r) + 1) = 2 ^ tzN w * (2 * m + 1) + 2 ^ tzN w * (2 * (2 ^ (31 - tzN w) * r)) := by grind
  rw [e6, e5, ← hm]
 have e7 : tzN (2 * (m + 2 ^ (31 - tzN w) * r) + 1) = 0 := tzN_odd (by omega)
 rw [hn, tzN_pow (by omega), e4, tzN_pow (by omega), e7]
 rfl
theorem tz_step {n k : Nat} (hk : k < (limbs n).length) (hz : magI ((limbs n).take k) = 0) (hw : (limbs n).getD k 0 = 0) : magI ((limbs n).take (k + 1)) = 0 := by
 rw [magI_take hk, hz, hw]; simp
theorem tz_none {n k : Nat} (hk : k = (limbs n).length) (hz : magI ((limbs n).take k) = 0) : tzN n = 0 := by
 rw [hk, List.take_length, limbs_mag] at hz
 rw [tzN]
 simp
 omega
theorem tz_lim {n : Nat} (h : (limbs n).length ≤ 4000) : tzN n < 128000 ∧ (n ≠ 0 → tzN n < bl n) := by
 by_cases hn : n = 0
 ·subst hn; exact ⟨by rw [tzN]; simp, fun h => absurd rfl h⟩
 ·obtain ⟨m, hm⟩ := tzN_of hn
  have h2 : 2 ^ tzN n ≤ n := by
   have := Nat.le_mul_of_pos_right (2 ^ tzN n) (show 0 < 2 * m + 1 by omega)
   omega
  have h3 := bl_ge h2
  have h4 := bl_lim h
  exact ⟨by omega, fun _ => h3⟩
theorem limbs_1' : limbs 1 = [1] := by
 rw [limbs_pos (by omega)]
 have : 1 / 4294967296 = 0 := by decide
 rw [this, limbs_zero]; rfl
abbrev ratC (q : Rat) : List SP := [isv (.bool (decide (q.num < 0))), ils .u32 (limbs q.num.natAbs), isv (.bool false), ils .u32 (limbs q.den)]
abbrev ratP (q : Rat) : SP := ptp (ratC q)
theorem mkr_parts (b : Bool) {A B : Nat} (hB : B ≠ 0) : (mkRat (sgnI b A) B).num = sgnI b (A / Nat.gcd A B) ∧ (mkRat (sgnI b A) B).den = B / Nat.gcd A B := by
 rw [← Rat.normalize_eq_mkRat hB, Rat.normalize_eq]
 have e := sgnI_abs b A
 refine ⟨?_, by show B / (sgnI b A).natAbs.gcd B = _; rw [e]⟩
 show sgnI b A / (((sgnI b A).natAbs.gcd B : Nat) : Int) = _
 rw [e]
 unfold sgnI
 split
 ·rw [Int.neg_ediv_of_dvd (Int.natCast_dvd_natCast.2 (Nat.gcd_dvd_left A B)), Int.natCast_ediv]
 ·rw [Int.natCast_ediv]
theorem gc_shift {A B t : Nat} (hA : A ≠ 0) (hB : B ≠ 0) (ht : t = min (tzN A) (tzN B)) : A / Nat.gcd A B = A / 2 ^ t / Nat.gcd (A / 2 ^ t) (B / 2 ^ t) ∧ B / Nat.gcd A B = B / 2 ^ t / Nat.gcd (A / 2 ^ t) (B / 2 ^ t) := by
 have hd : ∀ n, n ≠ 0 → t ≤ tzN n → 2 ^ t * (n / 2 ^ t) = n := fun n hn htn => by
  refine Nat.mul_div_cancel' ?_
  obtain ⟨m, hm⟩ := tzN_of hn
  rw [hm]
  exact Nat.dvd_trans (Nat.pow_dvd_pow 2 htn) (Nat.dvd_mul_right _ _)
 have h1 := hd A hA (by omega)
 have h2 := hd B hB (by omega)
 have hp := Nat.two_pow_pos t
 have hg : Nat.gcd A B = 2 ^ t * Nat.gcd (A / 2 ^ t) (B / 2 ^ t) := by
  rw [← Nat.gcd_mul_left, h1, h2]
 rw [hg]
 exact ⟨by rw [← Nat.div_div_eq_div_mul], by rw [← Nat.div_div_eq_div_mul]⟩
theorem sh_ne {n t : Nat} (hn : n ≠ 0) (ht : t ≤ tzN n) : n / 2 ^ t ≠ 0 ∧ tzN (n / 2 ^ t) = tzN n - t := by
 obtain ⟨m, hm⟩ := tzN_of hn
 have e : n / 2 ^ t = 2 ^ (tzN n - t) * (2 * m + 1) := by
  conv => lhs; rw [hm]
  rw [show 2 ^ tzN n = 2 ^ t * 2 ^ (tzN n - t) by rw [← Nat.pow_add]; congr 1; omega, Nat.mul_assoc, Nat.mul_div_cancel_left _ (Nat.two_pow_pos t)]
 rw [e]
 exact ⟨Nat.mul_ne_zero (by have := Nat.two_pow_pos (tzN n - t); omega) (by omega), by rw [tzN_pow (by omega), tzN_odd (n := 2 * m + 1) (by omega)]; rfl⟩
theorem gc_pow {A B t : Nat} (hA : A ≠ 0) (hB : B ≠ 0) (ht : t = min (tzN A) (tzN B)) (h : (tzN (B / 2 ^ t) : Int) = (bl (B / 2 ^ t) : Int) - 1) : Nat.gcd (A / 2 ^ t) (B / 2 ^ t) = 1 := by
 obtain ⟨a1, a2⟩ := sh_ne hA (show t ≤ tzN A by omega)
 obtain ⟨b1, b2⟩ := sh_ne hB (show t ≤ tzN B by omega)
 obtain ⟨m, hm⟩ := tzN_of b1
 obtain ⟨k, hk⟩ := tzN_of a1
 have hpow : B / 2 ^ t = 2 ^ tzN (B / 2 ^ t) := by
  have h1 : B / 2 ^ t < 2 ^ (tzN (B / 2 ^ t) + 1) := bl_le (by omega)
  rw [Nat.pow_succ] at h1
  have h3 : 2 * m + 1 < 2 := by
   refine Nat.lt_of_mul_lt_mul_left (a := 2 ^ tzN (B / 2 ^ t)) ?_
   omega
  have h4 : m = 0 := by omega
  rw [h4] at hm
  simpa using hm
 rw [hpow]
 rcases Nat.le_total (tzN A) (tzN B) with hl | hl
 ·have e : tzN (A / 2 ^ t) = 0 := by omega
  rw [e, Nat.pow_zero, Nat.one_mul] at hk
  refine Nat.Coprime.pow_right _ ?_
  have : Nat.gcd (A / 2 ^ t) 2 = 1 := by
   rw [Nat.gcd_comm, Nat.gcd_rec, hk]
   have : (2 * k + 1) % 2 = 1 := by omega
   rw [this]
   rfl
  exact this
 ·have e : tzN (B / 2 ^ t) = 0 := by omega
  rw [e, Nat.pow_zero, Nat.gcd_one_right]
theorem cmpN_ne {g : Nat} : cmpN g 1 ≠ 0 ↔ g ≠ 1 := by
 unfold cmpN
 split
 ·omega
 ·split <;> omega
theorem sml_div {A g : Nat} (h : Sml (A : Int)) : Sml ((A / g : Nat) : Int) := sml_le (Nat.div_le_self A g) h
theorem To.freezeM {P : Program} {n : Nat} {c0 : EW} {ob0 : Bs} {Γ : Facts} {ρ : Env} {σ : List Res} (k j0 : Nat) {r0 r0' r : Res} {v : Value} {p : SP} (hr0 : r0.H c0 ob0) (hfix : Fix r0 r0') (hj0 : nth σ j0 = some r0') (hne : Nat.beq k j0 = false) (hr : nth σ k = some r) (hf : Freezes r v p) {σ' : List Res} (hσ' : setNth σ k Go.Bn.emp = σ') : To ⟨P, n, c0, fun b => ob0 b⟩ Γ ρ σ ((v, p) :: Γ) ρ σ' := by
 subst hσ'
 intro a c hs
 obtain ⟨obs, hown, hres⟩ := hs.own
 let c' : EW := ⟨c.w, fun b => c.M b ∧ ¬ obs k b⟩
 have hle : Le c c' := ⟨rfl, rfl, rfl, Nat.le_refl _, fun j _ hm => ⟨rfl, fun h => hm h.1⟩⟩
 refine ⟨c', rfl, hs.size, hs.defers, ⟨?_, hs.facts.2.le hle⟩, fun t q hq => q.st _ _ _ hle (hs.env t q hq), fun j => if j = k then nob else obs j, ?_, ?_⟩
 ·intro v' p' hm
  rcases List.mem_cons.1 hm with he | hm
  ·cases he
   exact hf c c' (obs k) (hres k r hr) hle fun b hb => ⟨rfl, fun h => h.2 hb⟩
  ·exact p'.st _ _ _ hle (hs.facts.1 v' p' hm)
 ·refine ⟨hown.os, hown.tape, hown.out, hown.size, hown.heap, fun j hj => ?_, fun j hj => hown.wf j hj.1, fun j b hb => ?_, fun i j b hi hj => ?_, hown.wf0⟩
  ·refine ⟨fun h => (hown.mem j hj).1 h.1, fun h => ((hown.mem j hj).2 h).elim (fun h => ?_) .inr⟩
   by_cases e : obs k j
   ·rcases (hown.has k j e).2 with h' | h'
    ·omega
    ·exact .inr h'
   ·exact .inl ⟨h, e⟩
  ·by_cases hjk : j = k
   ·simp only [if_pos hjk] at hb; cases hb
   ·simp only [if_neg hjk] at hb
    exact ⟨⟨(hown.has j b hb).1, fun e => hjk (hown.one j k b hb e)⟩, (hown.has j b hb).2⟩
  ·by_cases hik : i = k
   ·simp only [if_pos hik] at hi; cases hi
   ·by_cases hjk : j = k
    ·simp only [if_pos hjk] at hj; cases hj
    ·simp only [if_neg hik] at hi
     simp only [if_neg hjk] at hj
     exact hown.one i j b hi hj
 ·intro j r' hj
  rw [nth_setNth] at hj
  by_cases hjk : j = k
  ·rw [if_pos hjk] at hj
   simp only [if_pos hjk]
   cases hn : nth σ j with
   | none => rw [hn] at hj; cases hj
   | some x => rw [hn] at hj; cases hj; rfl
  ·rw [if_neg hjk] at hj
   simp only [if_neg hjk]
   exact r'.fr _ _ _ hle (fun _ _ => rfl) (hres j r' hj)
end Go.Bn
