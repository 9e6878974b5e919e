/-
 Numbers scaled, exactly; a rotation's numbers, how far they lie from what they should be.
-/
import Derived.Test.YtllkellonjhalaaGreatOoTri
set_option linter.unusedVariables false
set_option linter.unusedSimpArgs false
namespace Go.Bn
open Go
structure Sc (x y : Nat) (k : Int) : Prop where
 s : sgn y = sgn x
 m : mgn y = mgn x
 p : plc y = plc x + k
 f : rung y < 9218868437227405312
 l : y < 2 ^ 64
theorem nrm_id {x : Nat} (hx : x < 2 ^ 64) (hr : rung x < 9218868437227405312) (h1 : 1 ≤ expo x) : nrmR x = (x, 0) := by
 unfold nrmR
 rw [if_neg]
 rw [norm_lss hx hr (by have := expo_rung x; unfold rung at *; omega)]
 decide
theorem mk_parts {s : Bool} {r : Nat} (hr : r < 9223372036854775808) : sgn ((if s = true then 9223372036854775808 else 0) + r) = s ∧ rung ((if s = true then 9223372036854775808 else 0) + r) = r := by
 unfold sgn rung
 cases s
 ·have h1 : (0 + r) / 9223372036854775808 % 2 = 0 := by omega
  have h2 : (0 + r) % 9223372036854775808 = r := by omega
  simp only [Bool.false_eq_true, if_false, h1, h2]
  exact ⟨by decide, trivial⟩
 ·have h1 : (9223372036854775808 + r) / 9223372036854775808 % 2 = 1 := by omega
  have h2 : (9223372036854775808 + r) % 9223372036854775808 = r := by omega
  simp only [if_true, h1, h2]
  exact ⟨by decide, trivial⟩
theorem ldW_mk {x : Nat} {e : Int} (hn : nrmR x = (x, 0)) : ldW x e = (if sgn x = true then 9223372036854775808 else 0) + ((e + 1023).toNat * 4503599627370496 + frac x) := by
 unfold ldW
 simp only [hn]
theorem frac_rung (x : Nat) : frac x = rung x % 4503599627370496 := by unfold frac rung; omega
theorem ldW_parts {x : Nat} {e : Int} (hx : x < 2 ^ 64) (hr : rung x < 9218868437227405312) (h1 : 1 ≤ expo x) (h2 : -1022 ≤ e) (h3 : e ≤ 1023) : sgn (ldW x e) = sgn x ∧ mgn (ldW x e) = mgn x ∧ plc (ldW x e) = e - 52 ∧ rung (ldW x e) < 9218868437227405312 ∧ ldW x e < 2 ^ 64 := by
 have e0 := ldW_mk (e := e) (nrm_id hx hr h1)
 have hf := frac_lt x
 have hl : ldW x e < 2 ^ 64 := ldW_lt h3
 have hq1 : (e + 1023).toNat ≤ 2046 ∧ 1 ≤ (e + 1023).toNat ∧ (((e + 1023).toNat : Nat) : Int) = e + 1023 := by omega
 generalize (e + 1023).toNat = q at *
 have hm := mk_parts (s := sgn x) (r := q * 4503599627370496 + frac x) (by omega)
 rw [← e0] at hm
 clear e0
 generalize ldW x e = w at *
 have hE : expo w = q := by rw [expo_rung, hm.2]; omega
 have hF : frac w = frac x := by rw [frac_rung w, hm.2]; omega
 have m1 := mgn_1 (x := w) (by omega)
 have m2 := mgn_1 (x := x) (by omega)
 refine ⟨hm.1, by rw [m1.1, m2.1, hF], ?_, by rw [hm.2]; omega, hl⟩
 rw [m1.2, hE]; omega
theorem not_zero {x : Nat} (hx : x < 2 ^ 64) (hr : rung x < 9218868437227405312) (h1 : 1 ≤ expo x) : fcmp .eql x 0 = false ∧ (fcmp .gtr (fabs x) MAXF || fcmp .neq x x) = false := by
 have hf := (finB_iff hx).2 hr
 constructor
 ·cases h : fcmp .eql x 0
  ·rfl
  ·exfalso
   have h2 : ford x 0 = some .eq := by simpa [fcmp] using h
   unfold ford Ieee.Format.order at h2
   rw [read_fin hr, show Ieee.double.read 0 = .number false 0 (-1074) by decide +kernel] at h2
   simp only [Ieee.Datum.order, Option.some.injEq] at h2
   have h3 := Int.compare_eq_eq.1 h2
   have hm := (mgn_1 (x := x) (by omega)).1
   have hp := plc_ge x
   unfold Ieee.signed at h3
   rw [show min (plc x) (-1074 : Int) = -1074 by omega] at h3
   simp only [Nat.zero_shiftLeft, Nat.shiftLeft_eq] at h3
   have hpos : 0 < mgn x * 2 ^ (plc x - -1074).toNat := Nat.mul_pos (by omega) (Nat.two_pow_pos _)
   generalize mgn x * 2 ^ (plc x - -1074).toNat = W at *
   cases sgn x <;> simp at h3 <;> omega
 ·rw [fin_gtr hx hr, fcmp_self, fin_not_nan hf]
  rfl
theorem ldx_exact {x : Nat} {k : Int} (hx : x < 2 ^ 64) (hr : rung x < 9218868437227405312) (h1 : 1 ≤ expo x) (h2 : -1022 ≤ (expo x : Int) - 1023 + k) (h3 : (expo x : Int) - 1023 + k ≤ 1023) : Sc x (ldx x k) k := by
 obtain ⟨z1, z2⟩ := not_zero hx hr h1
 have hn := nrm_id hx hr h1
 have hE : ldE x k = (expo x : Int) - 1023 + k := by unfold ldE; simp only [hn]; omega
 obtain ⟨p1, p2, p3, p4, p5⟩ := ldW_parts (e := (expo x : Int) - 1023 + k) hx hr h1 h2 h3
 have e : ldx x k = ldW x ((expo x : Int) - 1023 + k) := by
  rw [← ldx_nrm z1 z2 (by omega) (by omega) (by omega), hE, ldW_cn h3, fmul_one p5 ((finB_iff p5).2 p4)]
 rw [e]
 exact ⟨p1, p2, by rw [p3, (mgn_1 (x := x) (by omega)).2]; omega, p4, p5⟩
theorem vlu_lt_expo {x : Nat} : vlu x < 2 ^ (expo x + 52) ∨ (expo x = 0 ∧ vlu x < 2 ^ 52) := by
 have hm := mgn_lt x
 unfold vlu
 by_cases h : expo x = 0
 ·right
  obtain ⟨h1, h2⟩ := mgn_0 h
  refine ⟨h, ?_⟩
  rw [h1, h2, show ((-1074 : Int) + 1074).toNat = 0 by decide, Nat.pow_zero, Nat.mul_one]
  exact frac_lt x
 ·left
  obtain ⟨h1, h2⟩ := mgn_1 (x := x) (by omega)
  rw [h2, show ((expo x : Int) - 1 - 1074 + 1074).toNat = expo x - 1 by omega, show expo x + 52 = 53 + (expo x - 1) by omega, Nat.pow_add]
  exact Nat.mul_lt_mul_of_pos_right (by rw [show (2 : Nat) ^ 53 = 9007199254740992 by decide]; exact hm) (Nat.two_pow_pos _)
theorem sc_vlu {x y : Nat} {k : Int} (h : Sc x y k) : vlu y * 2 ^ (-k).toNat = vlu x * 2 ^ k.toNat := by
 have p1 := plc_ge x
 have p2 := plc_ge y
 have hp := h.p
 unfold vlu
 rw [h.m, Nat.mul_assoc, Nat.mul_assoc, ← Nat.pow_add, ← Nat.pow_add]
 congr 2
 omega
theorem ldW_vlu {x : Nat} {e : Int} (hx : x < 2 ^ 64) (hr : rung x < 9218868437227405312) (h1 : 1 ≤ expo x) (h2 : -1022 ≤ e) (h3 : e ≤ 1023) : vlu (ldW x e) = mgn x * 2 ^ (e + 1022).toNat := by
 obtain ⟨_, p2, p3, _, _⟩ := ldW_parts hx hr h1 h2 h3
 unfold vlu
 rw [p2, p3, show e - 52 + 1074 = e + 1022 by omega]
theorem tw_val : rung TW53 < 9218868437227405312 ∧ TW53 < 2 ^ 64 ∧ vlu TW53 * UU = PZ := by decide +kernel
theorem rat {a b p q r s : Nat} (h : a * p ≤ b * q) (hc : q * r ≤ s * p) (hp : 0 < p) : a * r ≤ b * s := by
 refine Nat.le_of_mul_le_mul_right (c := p) ?_ hp
 have h1 := Nat.mul_le_mul_right r h
 have h2 := Nat.mul_le_mul_left b hc
 rw [Nat.mul_right_comm a, Nat.mul_assoc b s]
 rw [Nat.mul_assoc b q] at h1
 omega
def Cl (k a b : Nat) : Prop := ∃ t, a ≤ b + t ∧ b ≤ a + t ∧ t * UU ≤ k * b
theorem cl_mk {k a b : Nat} (h1 : a * UU ≤ b * UU + k * b) (h2 : b * UU ≤ a * UU + k * b) : Cl k a b := by
 rcases Nat.le_total a b with h | h
 ·refine ⟨b - a, by omega, by omega, ?_⟩
  rw [Nat.sub_mul]; omega
 ·refine ⟨a - b, by omega, by omega, ?_⟩
  rw [Nat.sub_mul]; omega
theorem cl_apx1 {a b : Nat} (h : Apx 1 a b) : Cl 2 a b := by
 have h1 := h.l
 have h2 := h.r
 have g1 := rat (r := UU) (s := UU + 2) h1 (by decide) (by decide)
 have g2 := rat (r := UU - 2) (s := UU) h2 (by decide) (by decide)
 have e1 : b * (UU + 2) = b * UU + 2 * b := by rw [Nat.mul_add, Nat.mul_comm b 2]
 have e2 : b * (UU - 2) = b * UU - 2 * b := by rw [Nat.mul_sub, Nat.mul_comm b 2]
 exact cl_mk (by omega) (by omega)
theorem cl_apx3 {a b : Nat} (h : Apx 3 a b) : Cl 4 a b := by
 have h1 := h.l
 have h2 := h.r
 have g1 := rat (r := UU) (s := UU + 4) h1 (by decide) (by decide)
 have g2 := rat (r := UU - 4) (s := UU) h2 (by decide) (by decide)
 have e1 : b * (UU + 4) = b * UU + 4 * b := by rw [Nat.mul_add, Nat.mul_comm b 4]
 have e2 : b * (UU - 4) = b * UU - 4 * b := by rw [Nat.mul_sub, Nat.mul_comm b 4]
 exact cl_mk (by omega) (by omega)
theorem Cl.trans {k l a b c : Nat} (h : Cl k a b) (g : Cl l b c) (hk : k * l ≤ UU) : Cl (k + l + 1) a c := by
 obtain ⟨t, h1, h2, h3⟩ := h
 obtain ⟨s, g1, g2, g3⟩ := g
 refine ⟨t + s, by omega, by omega, ?_⟩
 have c1 : k * s ≤ c := by
  refine Nat.le_of_mul_le_mul_right (c := UU) ?_ uu_pos
  have d1 := Nat.mul_le_mul_left k g3
  have d2 := Nat.mul_le_mul_right c hk
  rw [Nat.mul_assoc k s, Nat.mul_comm c]
  rw [← Nat.mul_assoc k l] at d1
  omega
 have c2 : k * b ≤ k * c + k * s := by rw [← Nat.mul_add]; exact Nat.mul_le_mul_left _ g1
 rw [Nat.add_mul, Nat.add_mul, Nat.add_mul, Nat.one_mul]
 omega
theorem Cl.symm {k a b : Nat} (h : Cl k a b) (hk : 2 * k ≤ UU) : Cl (2 * k) b a := by
 obtain ⟨t, h1, h2, h3⟩ := h
 refine ⟨t, h2, h1, ?_⟩
 have c1 : 2 * t ≤ b := by
  refine Nat.le_of_mul_le_mul_right (c := UU) ?_ uu_pos
  have d2 := Nat.mul_le_mul_right b hk
  rw [Nat.mul_assoc, Nat.mul_comm b]
  rw [Nat.mul_assoc] at d2
  omega
 have c2 : b ≤ 2 * a := by omega
 have c3 := Nat.mul_le_mul_left k c2
 rw [← Nat.mul_assoc, Nat.mul_comm k 2] at c3
 omega
theorem Cl.two {k a b : Nat} (h : Cl k a b) (hk : 2 * k ≤ UU) : a ≤ 2 * b ∧ b ≤ 2 * a := by
 obtain ⟨t, h1, h2, h3⟩ := h
 have c1 : 2 * t ≤ b := by
  refine Nat.le_of_mul_le_mul_right (c := UU) ?_ uu_pos
  have d2 := Nat.mul_le_mul_right b hk
  rw [Nat.mul_assoc, Nat.mul_comm b]
  rw [Nat.mul_assoc] at d2
  omega
 omega
theorem sq_fin {u : Nat} (fu : rung u < 9218868437227405312) (bu : vlu u ≤ 2 * PZ) : rung (fmul u u) < 9218868437227405312 ∧ vlu (fmul u u) ≤ 9 * PZ := by
 have e := fmul_int fu fu
 obtain ⟨N, hN⟩ : ∃ N, N = 2 * NZ := ⟨_, rfl⟩
 have hN2 : N = 2148 := by rw [hN, nz]
 have hp0 : (-2148 + (N : Int)).toNat = 0 := by omega
 have hP := pz_pos
 have hb : vlu u * vlu u ≤ 4 * (PZ * PZ) := by
  have h1 := Nat.mul_le_mul bu bu
  have e1 : 2 * PZ * (2 * PZ) = 4 * (PZ * PZ) := by rw [mul4]
  omega
 have hPP : PZ * PZ = 2 ^ N := by rw [hN, show 2 * NZ = NZ + NZ by omega, Nat.pow_add, ← pz_def]
 have hN0 := Nat.two_pow_pos N
 have hf : rung (fmul u u) < 9218868437227405312 := by
  rw [e]
  refine nearest_fin (N := N) (by omega) ?_
  rw [hp0, Nat.pow_zero, Nat.mul_one]
  refine Nat.lt_of_lt_of_le ?_ (Nat.pow_le_pow_right (by omega) (show N + 3 ≤ N + 1023 by omega))
  rw [Nat.pow_add, show (2 : Nat) ^ 3 = 8 by decide, ← hPP]
  rw [← hPP] at hN0
  omega
 refine ⟨hf, ?_⟩
 by_cases hz : vlu u * vlu u = 0
 ·rw [e, hz, nearest_nought]
  have : vlu (if (sgn u ^^ sgn u) = true then NEG0 else 0) = 0 := by cases (sgn u ^^ sgn u) <;> decide +kernel
  rw [this]; exact Nat.zero_le _
 ·rw [e] at hf ⊢
  obtain ⟨E, e1, _, e3⟩ := nearest_err (N := N) hz (by omega) (by omega) hf
  rw [pz_at hN, hp0, Nat.pow_zero, Nat.mul_one] at e1 e3
  generalize vlu (Ieee.double.nearest (sgn u ^^ sgn u) (vlu u * vlu u) (-2148)) = V at *
  generalize vlu u * vlu u = M at *
  refine Nat.le_of_mul_le_mul_right (c := PZ) ?_ hP
  have g1 : PZ ≤ PZ * PZ := Nat.le_mul_of_pos_left _ hP
  rw [Nat.mul_assoc]
  generalize PZ * PZ = Q at *
  clear hPP hN0 hN2 hN
  omega
theorem pz_big : UU * 2 ^ 200 ≤ PZ := by
 rw [uu53, ← Nat.pow_add]
 exact pz_ge (by rw [nz]; omega)
theorem fsqrt_lt' {x : Nat} : fsqrt x < 2 ^ 64 := by
 unfold fsqrt fop
 cases h : Ieee.double.sqrt x with
 | none => exact NAN_lt
 | some r => exact (sqrt_some h).2.1
theorem cmp_scale' {a b p : Int} (hp : 1 ≤ p) : compare (a * p) (b * p) = compare a b := by
 rcases Int.lt_trichotomy a b with h | h | h
 ·rw [Int.compare_eq_lt.2 h, Int.compare_eq_lt.2 (Int.mul_lt_mul_of_pos_right h (by omega))]
 ·rw [h, Int.compare_eq_eq.2 rfl, Int.compare_eq_eq.2 rfl]
 ·rw [Int.compare_eq_gt.2 h, Int.compare_eq_gt.2 (Int.mul_lt_mul_of_pos_right h (by omega))]
theorem ford_val' {x y : Nat} (hx : rung x < 9218868437227405312) (hy : rung y < 9218868437227405312) : ford x y = some (compare (sval x) (sval y)) := by
 have px := plc_ge x
 have py := plc_ge y
 unfold ford Ieee.Format.order
 rw [read_fin hx, read_fin hy]
 simp only [Ieee.Datum.order]
 obtain ⟨b, hb⟩ : ∃ b, b = min (plc x) (plc y) := ⟨_, rfl⟩
 rw [← hb]
 have key : ∀ z, b ≤ plc z → Ieee.signed (sgn z) (mgn z) (plc z - b).toNat * 2 ^ (b + 1074).toNat = sval z := fun z hz => (sval_signed (by omega) hz).symm
 rw [← key x (by omega), ← key y (by omega), cmp_scale' (pow_one_le _)]
theorem sval_pos' {x : Nat} (h : sgn x = false) : sval x = (vlu x : Int) := by unfold sval; rw [h]; rfl
theorem fmax_pos {x y : Nat} (hx : x < 2 ^ 64) (hy : y < 2 ^ 64) (fx : rung x < 9218868437227405312) (fy : rung y < 9218868437227405312) (sx : sgn x = false) (sy : sgn y = false) : (fmax x y = x ∧ vlu y ≤ vlu x) ∨ (fmax x y = y ∧ vlu x ≤ vlu y) := by
 have h := ford_val' fx fy
 rw [sval_pos' sx, sval_pos' sy] at h
 unfold fmax
 rw [h]
 cases hc : compare (vlu x : Int) (vlu y : Int)
 ·right; exact ⟨rfl, by have := Int.compare_eq_lt.1 hc; omega⟩
 ·have := Int.compare_eq_eq.1 hc
  show ((if _ then y else x) = x ∧ _) ∨ ((if _ then y else x) = y ∧ _)
  split
  ·right; exact ⟨rfl, by omega⟩
  ·left; exact ⟨rfl, by omega⟩
 ·left; exact ⟨rfl, by have := Int.compare_eq_gt.1 hc; omega⟩
theorem vlu_fabs {x : Nat} (hx : x < 2 ^ 64) (hr : rung x < 9218868437227405312) : vlu (fabs x) = vlu x := by
 obtain ⟨_, _, q3, q4⟩ := fabs_parts hx hr
 unfold vlu; rw [q3, q4]
end Go.Bn
