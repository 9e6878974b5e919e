/-
 The greatest divisor of two long numbers (Lehmer's way): what the steps of their first bits come to.
-/
import Derived.Test.YtjnmgcglooeooaaGreatDoorPsDiw
set_option linter.unusedVariables false
set_option linter.unusedSimpArgs false
namespace Go.Bn
open Go
structure LSt where
 a : Int
 b : Int
 c : Int
 d : Int
 p : Int
 q : Int
def lst0 (x y : Int) : LSt := ⟨1, 0, 0, 1, x, y⟩
def lstN (s : LSt) : Int := (s.p + s.a).tdiv (s.q + s.c)
def lstE (s : LSt) : Int := s.a - lstN s * s.c
def lstF (s : LSt) : Int := s.b - lstN s * s.d
def lstGo (s : LSt) : Bool := decide (s.q + s.c ≠ 0) && decide (s.q + s.d ≠ 0) && decide (lstN s = (s.p + s.b).tdiv (s.q + s.d)) && !(decide (1073741824 < lstE s) || decide (lstE s < -1073741824) || decide (1073741824 < lstF s) || decide (lstF s < -1073741824))
def lstNx (s : LSt) : LSt := ⟨s.c, s.d, lstE s, lstF s, s.q, s.p - lstN s * s.q⟩
def lehN : Nat → LSt → LSt
 | 0, s => s
 | n + 1, s => if lstGo s = true then lehN n (lstNx s) else s
structure LehI (X Y x y E : Int) (s : LSt) (g A B C D : Int) : Prop where
 g1 : g = 1 ∨ g = -1
 A0 : 0 ≤ A ∧ A ≤ 1073741824
 B0 : 0 ≤ B ∧ B ≤ 1073741824
 C0 : 0 ≤ C ∧ C ≤ 1073741824
 D0 : 1 ≤ D ∧ D ≤ 1073741824
 ea : s.a = g * A
 eb : s.b = -(g * B)
 ec : s.c = -(g * C)
 ed : s.d = g * D
 ep : s.p = g * (A * x - B * y)
 eq : s.q = g * (D * y - C * x)
 ex : x = D * s.p + B * s.q
 ey : y = C * s.p + A * s.q
 p0 : 0 ≤ s.p
 q0 : 0 ≤ s.q
 pa : 0 ≤ s.p + s.a
 pb : 0 ≤ s.p + s.b
 qc : 0 ≤ s.q + s.c
 qd : 0 ≤ s.q + s.d
 v0 : 0 ≤ s.c * X + s.d * Y
 u0 : 0 ≤ s.a * X + s.b * Y
 uv : s.c * X + s.d * Y ≤ s.a * X + s.b * Y
 gcd : Int.gcd (s.a * X + s.b * Y) (s.c * X + s.d * Y) = Int.gcd X Y
 vY : s.c * X + s.d * Y ≤ Y
 pr : s = lst0 x y ∨ (s.b ≠ 0 ∧ s.c * X + s.d * Y < Y)
structure LehX (X Y x y E : Int) : Prop where
 E0 : 1 ≤ E
 x0 : x * E ≤ X
 x1 : X < (x + 1) * E
 y0 : y * E ≤ Y
 y1 : Y < (y + 1) * E
 yx : Y ≤ X
 Y0 : 0 ≤ Y
 xp : 0 ≤ y ∧ y ≤ x
 xb : x < 4611686018427387904
theorem leh_zero {X Y x y E : Int} (h : LehX X Y x y E) : LehI X Y x y E (lst0 x y) 1 1 0 0 1 := by
 have h1 := h.yx
 have h2 := h.Y0
 have h3 := h.xp
 have e1 : (lst0 x y).c * X + (lst0 x y).d * Y = Y := by show 0 * X + 1 * Y = Y; omega
 have e2 : (lst0 x y).a * X + (lst0 x y).b * Y = X := by show 1 * X + 0 * Y = X; omega
 refine ⟨.inl rfl, by omega, by omega, by omega, by omega, rfl, rfl, rfl, rfl, ?_, ?_, ?_, ?_, ?_, ?_, ?_, ?_, ?_, ?_, by rw [e1]; omega, by rw [e2]; omega, by rw [e1, e2]; omega, by rw [e1, e2], by rw [e1]; omega, .inl rfl⟩
 ·show x = 1 * (1 * x - 0 * y); omega
 ·show y = 1 * (1 * y - 0 * x); omega
 ·show x = 1 * x + 0 * y; omega
 ·show y = 0 * x + 1 * y; omega
 ·show 0 ≤ x; omega
 ·show 0 ≤ y; omega
 ·show 0 ≤ x + 1; omega
 ·show 0 ≤ x + 0; omega
 ·show 0 ≤ y + 0; omega
 ·show 0 ≤ y + 1; omega
theorem leh_rng {X Y x y E : Int} {s : LSt} {g A B C D : Int} (h : LehX X Y x y E) (i : LehI X Y x y E s g A B C D) :
  (g = 1 ∧ (s.p + s.b) * E ≤ s.a * X + s.b * Y ∧ s.a * X + s.b * Y ≤ (s.p + s.a) * E ∧ (s.q + s.c) * E ≤ s.c * X + s.d * Y ∧ s.c * X + s.d * Y ≤ (s.q + s.d) * E ∧ s.p + s.b ≤ s.p ∧ s.q ≤ s.q + s.d) ∨
  (g = -1 ∧ (s.p + s.a) * E ≤ s.a * X + s.b * Y ∧ s.a * X + s.b * Y ≤ (s.p + s.b) * E ∧ (s.q + s.d) * E ≤ s.c * X + s.d * Y ∧ s.c * X + s.d * Y ≤ (s.q + s.c) * E ∧ s.p + s.a ≤ s.p ∧ s.q ≤ s.q + s.c) := by
 obtain ⟨xi, hxi⟩ : ∃ xi, xi = X - x * E := ⟨_, rfl⟩
 obtain ⟨et, het⟩ : ∃ et, et = Y - y * E := ⟨_, rfl⟩
 have x0 := h.x0
 have x1 := h.x1
 have y0 := h.y0
 have y1 := h.y1
 have E0 := h.E0
 rw [Int.add_mul, Int.one_mul] at x1 y1
 have a1 : 0 ≤ xi ∧ xi ≤ E := by omega
 have a2 : 0 ≤ et ∧ et ≤ E := by omega
 have eX : X = x * E + xi := by omega
 have eY : Y = y * E + et := by omega
 have A0 := i.A0.1
 have B0 := i.B0.1
 have C0 := i.C0.1
 have D0 := i.D0.1
 have mA := Int.mul_nonneg A0 a1.1
 have mA2 := Int.mul_le_mul_of_nonneg_left a1.2 A0
 have mB := Int.mul_nonneg B0 a2.1
 have mB2 := Int.mul_le_mul_of_nonneg_left a2.2 B0
 have mC := Int.mul_nonneg C0 a1.1
 have mC2 := Int.mul_le_mul_of_nonneg_left a1.2 C0
 have mD := Int.mul_nonneg (show 0 ≤ D by omega) a2.1
 have mD2 := Int.mul_le_mul_of_nonneg_left a2.2 (show 0 ≤ D by omega)
 have hp := i.ep
 have hq := i.eq
 have ea := i.ea
 have eb := i.eb
 have ec := i.ec
 have ed := i.ed
 have hg := i.g1
 clear i h hxi het x0 x1 y0 y1
 rcases hg with hg | hg
 ·left
  subst hg
  rw [Int.one_mul] at ea eb ec ed hp hq
  rw [hp, hq, ea, eb, ec, ed, eX, eY]
  refine ⟨rfl, ?_, ?_, ?_, ?_, by omega, by omega⟩ <;> grind
 ·right
  subst hg
  have ea' : s.a = -A := by omega
  have eb' : s.b = B := by omega
  have ec' : s.c = C := by omega
  have ed' : s.d = -D := by omega
  have hp' : s.p = B * y - A * x := by omega
  have hq' : s.q = C * x - D * y := by omega
  rw [hp', hq', ea', eb', ec', ed', eX, eY]
  refine ⟨rfl, ?_, ?_, ?_, ?_, by omega, by omega⟩ <;> grind
theorem lst_go {s : LSt} (h : lstGo s = true) : s.q + s.c ≠ 0 ∧ s.q + s.d ≠ 0 ∧ lstN s = (s.p + s.b).tdiv (s.q + s.d) ∧ -1073741824 ≤ lstE s ∧ lstE s ≤ 1073741824 ∧ -1073741824 ≤ lstF s ∧ lstF s ≤ 1073741824 := by
 unfold lstGo at h
 simp only [Bool.and_eq_true, Bool.not_eq_true', Bool.or_eq_false_iff, decide_eq_true_eq, decide_eq_false_iff_not] at h
 obtain ⟨⟨⟨h1, h2⟩, h3⟩, ⟨⟨h4, h5⟩, h6⟩, h7⟩ := h
 exact ⟨h1, h2, h3, by omega, by omega, by omega, by omega⟩
theorem div_rng {P Q n : Int} (hP : 0 ≤ P) (hQ : 0 < Q) (hn : n = P.tdiv Q) : 0 ≤ n ∧ n * Q ≤ P ∧ P < (n + 1) * Q := by
 rw [Int.tdiv_eq_ediv_of_nonneg hP] at hn
 have e := Int.mul_ediv_add_emod P Q
 have m0 := Int.emod_nonneg P (show Q ≠ 0 by omega)
 have m1 := Int.emod_lt_of_pos P hQ
 have n0 : 0 ≤ n := by rw [hn]; exact Int.ediv_nonneg hP (by omega)
 rw [← hn, Int.mul_comm] at e
 refine ⟨n0, by omega, ?_⟩
 rw [Int.add_mul, Int.one_mul]
 omega
theorem leh_step {X Y x y E : Int} {s : LSt} {g A B C D : Int} (h : LehX X Y x y E) (i : LehI X Y x y E s g A B C D) (hgo : lstGo s = true) :
  ∃ n : Int, 1 ≤ n ∧ n = lstN s ∧ LehI X Y x y E (lstNx s) (-g) C D (A + n * C) (B + n * D) ∧ (lstNx s).c * X + (lstNx s).d * Y < s.c * X + s.d * Y := by
 obtain ⟨c1, c2, c3, c4, c5, c6, c7⟩ := lst_go hgo
 have qc := i.qc
 have qd := i.qd
 have E0 := h.E0
 obtain ⟨n, hn⟩ : ∃ n, n = lstN s := ⟨_, rfl⟩
 obtain ⟨n0, n1, n2⟩ := div_rng (Q := s.q + s.c) i.pa (by omega) (show n = (s.p + s.a).tdiv (s.q + s.c) from hn)
 obtain ⟨_, n3, n4⟩ := div_rng (Q := s.q + s.d) i.pb (by omega) (show n = (s.p + s.b).tdiv (s.q + s.d) by rw [hn]; exact c3)
 have eE : lstE s = g * (A + n * C) := by
  unfold lstE
  rw [← hn, i.ea, i.ec]
  grind
 have eF : lstF s = -(g * (B + n * D)) := by
  unfold lstF
  rw [← hn, i.eb, i.ed]
  grind
 have hnC := Int.mul_nonneg n0 i.C0.1
 have hnD := Int.mul_nonneg n0 (show 0 ≤ D by have := i.D0; omega)
 have q0 := i.q0
 have p0 := i.p0
 have uv := i.uv
 have v0 := i.v0
 have rng := leh_rng h i
 have A0 := i.A0
 have B0 := i.B0
 have C0 := i.C0
 have D0 := i.D0
 -- the new v
 have ev : lstE s * X + lstF s * Y = (s.a * X + s.b * Y) - n * (s.c * X + s.d * Y) := by
  unfold lstE lstF
  rw [← hn]
  grind
 obtain ⟨u, hu⟩ : ∃ u, u = s.a * X + s.b * Y := ⟨_, rfl⟩
 obtain ⟨v, hv⟩ : ∃ v, v = s.c * X + s.d * Y := ⟨_, rfl⟩
 rw [← hu, ← hv] at rng uv
 rw [← hv] at v0
 rw [← hu, ← hv] at ev
 have key : 0 ≤ u - n * v ∧ u < (n + 1) * v ∧ 1 ≤ n ∧ n * s.q ≤ s.p := by
  rcases rng with ⟨_, r1, r2, r3, r4, r5, r6⟩ | ⟨_, r1, r2, r3, r4, r5, r6⟩
  ·have k1 : n * v ≤ n * ((s.q + s.d) * E) := Int.mul_le_mul_of_nonneg_left r4 n0
   have k2 : n * (s.q + s.d) * E ≤ (s.p + s.b) * E := Int.mul_le_mul_of_nonneg_right n3 (by omega)
   have k3 : (s.p + s.a + 1) * E ≤ (n + 1) * (s.q + s.c) * E := Int.mul_le_mul_of_nonneg_right (by omega) (by omega)
   have k4 : (n + 1) * ((s.q + s.c) * E) ≤ (n + 1) * v := Int.mul_le_mul_of_nonneg_left r3 (by omega)
   have k5 : n * s.q ≤ n * (s.q + s.d) := Int.mul_le_mul_of_nonneg_left r6 n0
   rw [Int.mul_assoc] at k2 k3
   rw [Int.add_mul (s.p + s.a) 1, Int.one_mul] at k3
   refine ⟨by omega, by omega, ?_, by omega⟩
   refine Classical.byContradiction fun hc => ?_
   have e0 : n = 0 := by omega
   rw [e0, Int.zero_add, Int.one_mul] at n2
   have k6 : (s.p + s.a + 1) * E ≤ (s.q + s.c) * E := Int.mul_le_mul_of_nonneg_right (by omega) (by omega)
   rw [Int.add_mul (s.p + s.a) 1, Int.one_mul] at k6
   omega
  ·have k1 : n * v ≤ n * ((s.q + s.c) * E) := Int.mul_le_mul_of_nonneg_left r4 n0
   have k2 : n * (s.q + s.c) * E ≤ (s.p + s.a) * E := Int.mul_le_mul_of_nonneg_right n1 (by omega)
   have k3 : (s.p + s.b + 1) * E ≤ (n + 1) * (s.q + s.d) * E := Int.mul_le_mul_of_nonneg_right (by omega) (by omega)
   have k4 : (n + 1) * ((s.q + s.d) * E) ≤ (n + 1) * v := Int.mul_le_mul_of_nonneg_left r3 (by omega)
   have k5 : n * s.q ≤ n * (s.q + s.c) := Int.mul_le_mul_of_nonneg_left r6 n0
   rw [Int.mul_assoc] at k2 k3
   rw [Int.add_mul (s.p + s.b) 1, Int.one_mul] at k3
   refine ⟨by omega, by omega, ?_, by omega⟩
   refine Classical.byContradiction fun hc => ?_
   have e0 : n = 0 := by omega
   rw [e0, Int.zero_add, Int.one_mul] at n4
   have k6 : (s.p + s.b + 1) * E ≤ (s.q + s.d) * E := Int.mul_le_mul_of_nonneg_right (by omega) (by omega)
   rw [Int.add_mul (s.p + s.b) 1, Int.one_mul] at k6
   omega
 obtain ⟨y1, y2, y3, y4⟩ := key
 rw [Int.add_mul, Int.one_mul] at y2
 have hg := i.g1
 have vY := i.vY
 rw [← hv] at vY
 have hDn : D ≤ n * D := by
  have := Int.mul_le_mul_of_nonneg_right y3 (show 0 ≤ D by omega)
  omega
 have bE : A + n * C ≤ 1073741824 := by
  rw [eE] at c4 c5
  rcases hg with hg | hg <;> rw [hg] at c4 c5 <;> omega
 have bF : B + n * D ≤ 1073741824 := by
  rw [eF] at c6 c7
  rcases hg with hg | hg <;> rw [hg] at c6 c7 <;> omega
 have eN : (lstNx s).q = s.p - n * s.q := by rw [hn]; rfl
 have hgcd := i.gcd
 rw [← hu, ← hv] at hgcd
 refine ⟨n, y3, hn, ⟨by omega, C0, ⟨by omega, D0.2⟩, ⟨by omega, bE⟩, ⟨by omega, bF⟩, ?_, ?_, ?_, ?_, ?_, ?_, ?_, ?_, q0, ?_, qc, qd, ?_, ?_, ?_, ?_, ?_, ?_, ?_, ?_⟩, ?_⟩
 ·show s.c = _; rw [i.ec]; grind
 ·show s.d = _; rw [i.ed]; grind
 ·show lstE s = _; rw [eE]; grind
 ·show lstF s = _; rw [eF]; grind
 ·show s.q = _; rw [i.eq]; grind
 ·rw [eN, i.ep, i.eq]; grind
 ·have := i.ex
  show x = (B + n * D) * s.q + D * (lstNx s).q
  rw [eN]
  grind
 ·have := i.ey
  show y = (A + n * C) * s.q + C * (lstNx s).q
  rw [eN]
  grind
 ·rw [eN]; omega
 ·show 0 ≤ (lstNx s).q + lstE s
  rw [eN]
  unfold lstE
  rw [← hn]
  grind
 ·show 0 ≤ (lstNx s).q + lstF s
  rw [eN]
  unfold lstF
  rw [← hn]
  grind
 ·show 0 ≤ lstE s * X + lstF s * Y
  omega
 ·show 0 ≤ s.c * X + s.d * Y
  omega
 ·show lstE s * X + lstF s * Y ≤ s.c * X + s.d * Y
  omega
 ·show Int.gcd (s.c * X + s.d * Y) (lstE s * X + lstF s * Y) = Int.gcd X Y
  rw [ev, ← hv, ← hgcd, Int.gcd_comm u v]
  have := Int.gcd_sub_mul_right_right v u n
  first | exact this | (rw [Int.mul_comm] at this; exact this)
 ·show lstE s * X + lstF s * Y ≤ Y
  omega
 ·right
  refine ⟨?_, ?_⟩
  ·show s.d ≠ 0
   rw [i.ed]
   rcases hg with hg | hg <;> rw [hg] <;> omega
  ·show lstE s * X + lstF s * Y < Y
   omega
 ·show lstE s * X + lstF s * Y < s.c * X + s.d * Y
  omega
theorem leh_all {X Y x y E : Int} (h : LehX X Y x y E) : ∀ (F : Nat) {s : LSt} {g A B C D : Int}, LehI X Y x y E s g A B C D → ∃ g A B C D, LehI X Y x y E (lehN F s) g A B C D
 | 0, s, g, A, B, C, D, i => ⟨g, A, B, C, D, i⟩
 | F + 1, s, g, A, B, C, D, i => by
  rw [lehN]
  split
  ·rename_i hgo
   obtain ⟨n, _, _, i2, _⟩ := leh_step h i hgo
   exact leh_all h F i2
  ·exact ⟨g, A, B, C, D, i⟩
theorem lehN_stop {s : LSt} (h : lstGo s = false) : ∀ F, lehN F s = s
 | 0 => rfl
 | F + 1 => by rw [lehN, if_neg (by rw [h]; decide)]
theorem wr32w (z : Int) : IntKind.u32.wrap (IntKind.u64.wrap z) = z % 4294967296 := by
 rw [wr32, wu64]
 omega
theorem les_mul {g x : Int} (h0 : 0 ≤ g) (h1 : g ≤ 4294967296) (hx : 0 ≤ x ∧ x < 4294967296) : 0 ≤ g * x ∧ g * x ≤ 18446744069414584320 := ⟨Int.mul_nonneg h0 hx.1, Int.mul_le_mul h1 (show x ≤ 4294967295 by omega) hx.1 (by omega)⟩
theorem limbs2 {a : Nat} (h : a < 18446744073709551616) : (limbs a).length ≤ 2 := by
 refine limbs_len (k := 2) ?_
 show (a : Int) < 4294967296 ^ 2
 have : (4294967296 : Int) ^ 2 = 18446744073709551616 := by decide
 rw [this]
 omega
theorem limbs_mono {x y : Nat} (h : x ≤ y) : (limbs x).length ≤ (limbs y).length := by
 refine Classical.byContradiction fun hc => ?_
 have := len_less (x := y) (y := x) (by omega)
 omega
theorem limbs_mul {x y : Nat} : (limbs (x * y)).length ≤ (limbs x).length + (limbs y).length := by
 refine limbs_len ?_
 have h1 := magI_lt (limbs_dig x)
 have h2 := magI_lt (limbs_dig y)
 have h3 := magI_nonneg (limbs_dig x)
 have h4 := magI_nonneg (limbs_dig y)
 rw [limbs_mag] at h1 h2 h3 h4
 rw [wpw_add, Int.natCast_mul]
 have hp := wpw_pos (limbs y).length
 have h5 : (x : Int) * y ≤ (wpw (limbs x).length - 1) * (y : Int) := Int.mul_le_mul_of_nonneg_right (by omega) h4
 have h6 : (wpw (limbs x).length - 1) * (y : Int) ≤ (wpw (limbs x).length - 1) * (wpw (limbs y).length - 1) := Int.mul_le_mul_of_nonneg_left (by omega) (by omega)
 have h7 : (wpw (limbs x).length - 1) * (wpw (limbs y).length - 1) < wpw (limbs x).length * wpw (limbs y).length := by
  have h8 := wpw_pos (limbs x).length
  generalize wpw (limbs x).length = A at *
  generalize wpw (limbs y).length = B at *
  have : (A - 1) * (B - 1) = A * B - A - B + 1 := by grind
  omega
 omega
theorem spr_nat {X a : Nat} : (magI (limbs X) * magI (limbs a)).toNat = X * a := by
 rw [limbs_mag, limbs_mag, ← Int.natCast_mul, Int.toNat_natCast]
theorem spr_len {X a : Nat} (h : (limbs a).length ≤ 2) (hX : (limbs X).length ≤ 400000) : (limbs (magI (limbs X) * magI (limbs a)).toNat).length ≤ 1000000 := by
 rw [spr_nat]
 have := @limbs_mul X a
 omega
theorem spr_le {X Y a b : Nat} (h : b * Y ≤ a * X) : (limbs (magI (limbs Y) * magI (limbs b)).toNat).length ≤ (limbs (magI (limbs X) * magI (limbs a)).toNat).length ∧ magI (limbs (magI (limbs Y) * magI (limbs b)).toNat) ≤ magI (limbs (magI (limbs X) * magI (limbs a)).toNat) := by
 rw [spr_nat, spr_nat, limbs_mag, limbs_mag, Nat.mul_comm Y, Nat.mul_comm X]
 exact ⟨limbs_mono h, Int.ofNat_le.2 h⟩
theorem spr_val {X Y a b : Nat} (h : b * Y ≤ a * X) : (magI (limbs (magI (limbs X) * magI (limbs a)).toNat) - magI (limbs (magI (limbs Y) * magI (limbs b)).toNat)).toNat = a * X - b * Y := by
 rw [spr_nat, spr_nat, limbs_mag, limbs_mag, Nat.mul_comm Y, Nat.mul_comm X]
 omega
theorem bl_32 {z : Int} (z0 : 0 ≤ z) (z1 : z < 4294967296) : bl z.toNat ≤ 32 := by
 unfold bl
 split
 ·omega
 ·have : z.toNat.log2 < 32 := (Nat.log2_lt (by assumption)).2 (by omega)
  omega
structure StpI (x y : Int) (F : Nat) (s : LSt) : Prop where
 i : ∃ g A B C D, LehI x y x y 1 s g A B C D
 e : lehN F s = lehN (y.toNat + 1) (lst0 x y)
 f : s.q < F
theorem leh_self {x y : Int} (h0 : 0 ≤ y) (h1 : y ≤ x) (h2 : x < 4611686018427387904) : LehX x y x y 1 := ⟨by omega, by omega, by omega, by omega, by omega, h1, h0, ⟨h0, h1⟩, h2⟩
theorem stp_zero {x y : Int} (h0 : 0 ≤ y) (h1 : y ≤ x) (h2 : x < 4611686018427387904) : StpI x y (y.toNat + 1) (lst0 x y) := ⟨⟨_, _, _, _, _, leh_zero (leh_self h0 h1 h2)⟩, rfl, by show y < _; omega⟩
structure StpB (s : LSt) : Prop where
 a : -1073741824 ≤ s.a ∧ s.a ≤ 1073741824
 b : -1073741824 ≤ s.b ∧ s.b ≤ 1073741824
 c : -1073741824 ≤ s.c ∧ s.c ≤ 1073741824
 d : -1073741824 ≤ s.d ∧ s.d ≤ 1073741824
 p : 0 ≤ s.p ∧ s.p < 4611686018427387904
 q : 0 ≤ s.q ∧ s.q ≤ s.p
 pa : 0 ≤ s.p + s.a
 pb : 0 ≤ s.p + s.b
 qc : 0 ≤ s.q + s.c
 qd : 0 ≤ s.q + s.d
theorem leh_v {x y : Int} {s : LSt} {g A B C D : Int} (i : LehI x y x y 1 s g A B C D) : s.a * x + s.b * y = s.p ∧ s.c * x + s.d * y = s.q := by
 rw [i.ep, i.eq, i.ea, i.eb, i.ec, i.ed]
 constructor <;> grind
theorem stp_b {x y : Int} {F : Nat} {s : LSt} (h2 : x < 4611686018427387904) (h : StpI x y F s) : StpB s := by
 obtain ⟨g, A, B, C, D, i⟩ := h.i
 obtain ⟨e1, e2⟩ := leh_v i
 have uv := i.uv
 rw [e1, e2] at uv
 have A0 := i.A0
 have B0 := i.B0
 have C0 := i.C0
 have D0 := i.D0
 have ex := i.ex
 have p0 := i.p0
 have q0 := i.q0
 have h3 : s.p ≤ D * s.p := by
  have := Int.mul_le_mul_of_nonneg_right D0.1 p0
  omega
 have h4 := Int.mul_nonneg B0.1 q0
 refine ⟨?_, ?_, ?_, ?_, ⟨p0, by omega⟩, ⟨q0, uv⟩, i.pa, i.pb, i.qc, i.qd⟩
 ·rw [i.ea]; rcases i.g1 with hg | hg <;> rw [hg] <;> omega
 ·rw [i.eb]; rcases i.g1 with hg | hg <;> rw [hg] <;> omega
 ·rw [i.ec]; rcases i.g1 with hg | hg <;> rw [hg] <;> omega
 ·rw [i.ed]; rcases i.g1 with hg | hg <;> rw [hg] <;> omega
theorem quo_b {P Q : Int} (hP : 0 ≤ P ∧ P < 4611686019501129729) (hQ : 0 < Q) : -9223372036854775808 ≤ P.tdiv Q ∧ P.tdiv Q ≤ 9223372036854775807 := by
 obtain ⟨n0, n1, n2⟩ := div_rng hP.1 hQ rfl
 have : P.tdiv Q * 1 ≤ P.tdiv Q * Q := Int.mul_le_mul_of_nonneg_left (by omega) n0
 omega
theorem stp_n {x y : Int} {F : Nat} {s : LSt} (h2 : x < 4611686018427387904) (hyx : y ≤ x) (h : StpI x y F s) (c1 : s.q + s.c ≠ 0) (c2 : s.q + s.d ≠ 0) (c3 : lstN s = (s.p + s.b).tdiv (s.q + s.d)) :
  (-9000000000000000000 ≤ lstN s * s.c ∧ lstN s * s.c ≤ 9000000000000000000) ∧ (-9000000000000000000 ≤ lstN s * s.d ∧ lstN s * s.d ≤ 9000000000000000000) ∧ 0 ≤ lstN s * s.q ∧ lstN s * s.q ≤ s.p := by
 have hb := stp_b h2 h
 obtain ⟨g, A, B, C, D, i⟩ := h.i
 have qc := hb.qc
 have qd := hb.qd
 obtain ⟨n0, n1, n2⟩ := div_rng (n := lstN s) hb.pa (show 0 < s.q + s.c by omega) rfl
 obtain ⟨_, n3, n4⟩ := div_rng (n := lstN s) hb.pb (show 0 < s.q + s.d by omega) c3
 have k1 : lstN s * 1 ≤ lstN s * (s.q + s.c) := Int.mul_le_mul_of_nonneg_left (by omega) n0
 have k2 : lstN s * 1 ≤ lstN s * (s.q + s.d) := Int.mul_le_mul_of_nonneg_left (by omega) n0
 have A0 := i.A0
 have B0 := i.B0
 have C0 := i.C0
 have D0 := i.D0
 have ex := i.ex
 have ey := i.ey
 have p0 := hb.p
 have q0 := hb.q
 have a0 := hb.a
 have b0 := hb.b
 have z1 := Int.mul_nonneg B0.1 q0.1
 have z2 := Int.mul_nonneg A0.1 q0.1
 have m1 : C * lstN s ≤ C * (s.p + 1073741824) := Int.mul_le_mul_of_nonneg_left (by omega) C0.1
 have m2 : D * lstN s ≤ D * (s.p + 1073741824) := Int.mul_le_mul_of_nonneg_left (by omega) (by omega)
 have m3 : C * 1073741824 ≤ 1073741824 * 1073741824 := Int.mul_le_mul_of_nonneg_right C0.2 (by omega)
 have m4 : D * 1073741824 ≤ 1073741824 * 1073741824 := Int.mul_le_mul_of_nonneg_right D0.2 (by omega)
 rw [Int.mul_add] at m1 m2
 have w1 := Int.mul_nonneg C0.1 n0
 have w2 := Int.mul_nonneg (show 0 ≤ D by omega) n0
 have nq : 0 ≤ lstN s * s.q := Int.mul_nonneg n0 q0.1
 have np : lstN s * s.q ≤ s.p := by
  have hq := leh_rng (leh_self (x := x) (y := y) (by have := i.ey; have := Int.mul_nonneg C0.1 p0.1; omega) hyx h2) i
  rcases hq with ⟨_, r1, r2, r3, r4, r5, r6⟩ | ⟨_, r1, r2, r3, r4, r5, r6⟩
  ·have := Int.mul_le_mul_of_nonneg_left r6 n0
   omega
  ·have := Int.mul_le_mul_of_nonneg_left r6 n0
   omega
 refine ⟨?_, ?_, nq, np⟩
 ·rw [i.ec]
  have e : lstN s * -(g * C) = -(g * (C * lstN s)) := by grind
  rw [e]
  rcases i.g1 with hg | hg <;> rw [hg] <;> omega
 ·rw [i.ed]
  have e : lstN s * (g * D) = g * (D * lstN s) := by grind
  rw [e]
  rcases i.g1 with hg | hg <;> rw [hg] <;> omega
theorem stp_stop {x y : Int} {F : Nat} {s : LSt} (h : StpI x y F s) (hg : lstGo s = false) : s = lehN (y.toNat + 1) (lst0 x y) := by rw [← h.e, lehN_stop hg]
theorem stp_step {x y : Int} {F : Nat} {s : LSt} (h0 : 0 ≤ y) (h1 : y ≤ x) (h2 : x < 4611686018427387904) (h : StpI x y F s) (hg : lstGo s = true) : StpI x y (F - 1) (lstNx s) ∧ (lstNx s).q < s.q := by
 obtain ⟨g, A, B, C, D, i⟩ := h.i
 obtain ⟨n, _, _, i2, hv⟩ := leh_step (leh_self h0 h1 h2) i hg
 have e1 := (leh_v i).2
 have e2 := (leh_v i2).2
 rw [e1, e2] at hv
 have q0 := i2.q0
 have hf := h.f
 have he := h.e
 obtain ⟨G, hG⟩ : ∃ G, F = G + 1 := ⟨F - 1, by omega⟩
 subst hG
 refine ⟨⟨⟨_, _, _, _, _, i2⟩, ?_, by omega⟩, hv⟩
 rw [lehN, if_pos hg] at he
 rw [← he]
 rfl
theorem go_no1 {s : LSt} (h : ¬ (s.q + s.c ≠ 0 ∧ s.q + s.d ≠ 0)) : lstGo s = false := by
 unfold lstGo
 by_cases h1 : s.q + s.c = 0
 ·simp [h1]
 ·have h2 : s.q + s.d = 0 := Classical.byContradiction fun hc => h ⟨h1, hc⟩
  simp [h2]
theorem go_no2 {s : LSt} (h : lstN s ≠ (s.p + s.b).tdiv (s.q + s.d)) : lstGo s = false := by
 unfold lstGo
 simp [h]
theorem go_no3 {s : LSt} (h : ¬ (-1073741824 ≤ lstE s ∧ lstE s ≤ 1073741824 ∧ -1073741824 ≤ lstF s ∧ lstF s ≤ 1073741824)) : lstGo s = false := by
 unfold lstGo
 rw [Bool.and_eq_false_iff]
 right
 rw [Bool.not_eq_false', Bool.or_eq_true, Bool.or_eq_true, Bool.or_eq_true, decide_eq_true_eq, decide_eq_true_eq, decide_eq_true_eq, decide_eq_true_eq]
 omega
theorem go_yes {s : LSt} (c1 : s.q + s.c ≠ 0) (c2 : s.q + s.d ≠ 0) (c3 : lstN s = (s.p + s.b).tdiv (s.q + s.d)) (h : -1073741824 ≤ lstE s ∧ lstE s ≤ 1073741824 ∧ -1073741824 ≤ lstF s ∧ lstF s ≤ 1073741824) : lstGo s = true := by
 unfold lstGo
 rw [Bool.and_eq_true, Bool.and_eq_true, Bool.and_eq_true, decide_eq_true_eq, decide_eq_true_eq, decide_eq_true_eq, Bool.not_eq_true', Bool.or_eq_false_iff, Bool.or_eq_false_iff, Bool.or_eq_false_iff, decide_eq_false_iff_not, decide_eq_false_iff_not, decide_eq_false_iff_not, decide_eq_false_iff_not]
 exact ⟨⟨⟨c1, c2⟩, c3⟩, ⟨⟨by omega, by omega⟩, by omega⟩, by omega⟩
theorem mix_le {X Y : Nat} {u v : Int} (h : 0 ≤ u * X + v * Y) (hu : 0 ≤ u) (hv : v ≤ 0) : (-v).toNat * Y ≤ u.toNat * X ∧ u.toNat * X - (-v).toNat * Y = (u * X + v * Y).toNat := by
 have e1 : ((u.toNat * X : Nat) : Int) = u * X := by rw [Int.natCast_mul, Int.toNat_of_nonneg hu]
 have e2 : (((-v).toNat * Y : Nat) : Int) = -(v * Y) := by rw [Int.natCast_mul, Int.toNat_of_nonneg (by omega), Int.neg_mul]
 omega
structure LeaI (l : List Int) (k : Nat) (u : Int) : Prop where
 hk : k ≤ l.length
 hu : u = magI (l.drop k)
theorem lea_zero (l : List Int) : LeaI l l.length 0 := ⟨Nat.le_refl _, (magI_out (Nat.le_refl _)).symm⟩
theorem lea_step {l : List Int} {j : Nat} {u : Int} (hl : Dig l) (hb : magI l < 18446744073709551616) (h : LeaI l (j + 1) u) : LeaI l j (u * 4294967296 + l.getD j 0) ∧ 0 ≤ u ∧ u < 4294967296 := by
 have hk := h.hk
 have hu := h.hu
 have e := magI_drop (l := l) (k := j) (by omega)
 have e2 := magI_cut l j (by omega)
 have h1 := magI_nonneg (hl.take j)
 have h2 := magI_nonneg (hl.drop (j + 1))
 have h3 := hl.at (k := j) (by omega)
 have hp := wpw_pos j
 have h4 : 1 * magI (l.drop j) ≤ wpw j * magI (l.drop j) := Int.mul_le_mul_of_nonneg_right hp (by omega)
 refine ⟨⟨by omega, by rw [e, hu]; omega⟩, by omega, by omega⟩
theorem lea_x {X a : Nat} : (magI (limbs X) / 2 ^ a).toNat = X / 2 ^ a := by
 rw [limbs_mag]
 have : (2 : Int) ^ a = ((2 ^ a : Nat) : Int) := by simp
 rw [this, ← Int.natCast_ediv, Int.toNat_natCast]
end Go.Bn
