/-
  Numbers scaled, exactly; a rotation's numbers, how far they lie from what they should be.
-/
import Derived.Test.YtllmlkffknodmaaTri
set_option linter.unusedVariables false
set_option linter.unusedSimpArgs false
namespace Go.Bn
open Go
/-- y is x, times 2^k, exactly. -/
structure Sc (x y : Nat) (k : Int) : Prop where
  s : sgn y = sgn x
  m : mgn y = mgn x
  p : plc y = plc x + k
  f : rung y < 9218868437227405312
  l : y < 2 ^ 64
theorem nrm_id {x : Nat} (hx : x < 2 ^ 64) (hr : rung x < 9218868437227405312) (h1 : 1 ≤ expo x) : nrmR x = (x, 0) := by
  unfold nrmR
  rw [if_neg]
  rw [norm_lss hx hr (by have := expo_rung x; unfold rung at *; omega)]
  decide
theorem mk_parts {s : Bool} {r : Nat} (hr : r < 9223372036854775808) : sgn ((if s = true then 9223372036854775808 else 0) + r) = s ∧ rung ((if s = true then 9223372036854775808 else 0) + r) = r := by
  unfold sgn rung
  cases s
  · have h1 : (0 + r) / 9223372036854775808 % 2 = 0 := by omega
    have h2 : (0 + r) % 9223372036854775808 = r := by omega
    simp only [Bool.false_eq_true, if_false, h1, h2]
    exact ⟨by decide, trivial⟩
  · have h1 : (9223372036854775808 + r) / 9223372036854775808 % 2 = 1 := by omega
    have h2 : (9223372036854775808 + r) % 9223372036854775808 = r := by omega
    simp only [if_true, h1, h2]
    exact ⟨by decide, trivial⟩
theorem ldW_mk {x : Nat} {e : Int} (hn : nrmR x = (x, 0)) : ldW x e = (if sgn x = true then 9223372036854775808 else 0) + ((e + 1023).toNat * 4503599627370496 + frac x) := by
  unfold ldW
  simp only [hn]
theorem frac_rung (x : Nat) : frac x = rung x % 4503599627370496 := by unfold frac rung; omega
theorem ldW_parts {x : Nat} {e : Int} (hx : x < 2 ^ 64) (hr : rung x < 9218868437227405312) (h1 : 1 ≤ expo x) (h2 : -1022 ≤ e) (h3 : e ≤ 1023) : sgn (ldW x e) = sgn x ∧ mgn (ldW x e) = mgn x ∧ plc (ldW x e) = e - 52 ∧ rung (ldW x e) < 9218868437227405312 ∧ ldW x e < 2 ^ 64 := by
  have e0 := ldW_mk (e := e) (nrm_id hx hr h1)
  have hf := frac_lt x
  have hl : ldW x e < 2 ^ 64 := ldW_lt h3
  have hq1 : (e + 1023).toNat ≤ 2046 ∧ 1 ≤ (e + 1023).toNat ∧ (((e + 1023).toNat : Nat) : Int) = e + 1023 := by omega
  generalize (e + 1023).toNat = q at *
  have hm := mk_parts (s := sgn x) (r := q * 4503599627370496 + frac x) (by omega)
  rw [← e0] at hm
  clear e0
  generalize ldW x e = w at *
  have hE : expo w = q := by rw [expo_rung, hm.2]; omega
  have hF : frac w = frac x := by rw [frac_rung w, hm.2]; omega
  have m1 := mgn_1 (x := w) (by omega)
  have m2 := mgn_1 (x := x) (by omega)
  refine ⟨hm.1, by rw [m1.1, m2.1, hF], ?_, by rw [hm.2]; omega, hl⟩
  rw [m1.2, hE]; omega
theorem not_zero {x : Nat} (hx : x < 2 ^ 64) (hr : rung x < 9218868437227405312) (h1 : 1 ≤ expo x) : fcmp .eql x 0 = false ∧ (fcmp .gtr (fabs x) MAXF || fcmp .neq x x) = false := by
  have hf := (finB_iff hx).2 hr
  constructor
  · cases h : fcmp .eql x 0
    · rfl
    · exfalso
      have h2 : ford x 0 = some .eq := by simpa [fcmp] using h
      unfold ford Ieee.Format.order at h2
      rw [read_fin hr, show Ieee.double.read 0 = .number false 0 (-1074) by decide +kernel] at h2
      simp only [Ieee.Datum.order, Option.some.injEq] at h2
      have h3 := Int.compare_eq_eq.1 h2
      have hm := (mgn_1 (x := x) (by omega)).1
      have hp := plc_ge x
      unfold Ieee.signed at h3
      rw [show min (plc x) (-1074 : Int) = -1074 by omega] at h3
      simp only [Nat.zero_shiftLeft, Nat.shiftLeft_eq] at h3
      have hpos : 0 < mgn x * 2 ^ (plc x - -1074).toNat := Nat.mul_pos (by omega) (Nat.two_pow_pos _)
      generalize mgn x * 2 ^ (plc x - -1074).toNat = W at *
      cases sgn x <;> simp at h3 <;> omega
  · rw [fin_gtr hx hr, fcmp_self, fin_not_nan hf]
    rfl
theorem ldx_exact {x : Nat} {k : Int} (hx : x < 2 ^ 64) (hr : rung x < 9218868437227405312) (h1 : 1 ≤ expo x) (h2 : -1022 ≤ (expo x : Int) - 1023 + k) (h3 : (expo x : Int) - 1023 + k ≤ 1023) : Sc x (ldx x k) k := by
  obtain ⟨z1, z2⟩ := not_zero hx hr h1
  have hn := nrm_id hx hr h1
  have hE : ldE x k = (expo x : Int) - 1023 + k := by unfold ldE; simp only [hn]; omega
  obtain ⟨p1, p2, p3, p4, p5⟩ := ldW_parts (e := (expo x : Int) - 1023 + k) hx hr h1 h2 h3
  have e : ldx x k = ldW x ((expo x : Int) - 1023 + k) := by
    rw [← ldx_nrm z1 z2 (by omega) (by omega) (by omega), hE, ldW_cn h3, fmul_one p5 ((finB_iff p5).2 p4)]
  rw [e]
  exact ⟨p1, p2, by rw [p3, (mgn_1 (x := x) (by omega)).2]; omega, p4, p5⟩
theorem vlu_lt_expo {x : Nat} : vlu x < 2 ^ (expo x + 52) ∨ (expo x = 0 ∧ vlu x < 2 ^ 52) := by
  have hm := mgn_lt x
  unfold vlu
  by_cases h : expo x = 0
  · right
    obtain ⟨h1, h2⟩ := mgn_0 h
    refine ⟨h, ?_⟩
    rw [h1, h2, show ((-1074 : Int) + 1074).toNat = 0 by decide, Nat.pow_zero, Nat.mul_one]
    exact frac_lt x
  · left
    obtain ⟨h1, h2⟩ := mgn_1 (x := x) (by omega)
    rw [h2, show ((expo x : Int) - 1 - 1074 + 1074).toNat = expo x - 1 by omega, show expo x + 52 = 53 + (expo x - 1) by omega, Nat.pow_add]
    exact Nat.mul_lt_mul_of_pos_right (by rw [show (2 : Nat) ^ 53 = 9007199254740992 by decide]; exact hm) (Nat.two_pow_pos _)
theorem vlu_ge_expo {x : Nat} (h : 1 ≤ expo x) : 2 ^ (expo x + 51) ≤ vlu x := by
  obtain ⟨h1, h2⟩ := mgn_1 (x := x) (by omega)
  unfold vlu
  rw [h2, show ((expo x : Int) - 1 - 1074 + 1074).toNat = expo x - 1 by omega, show expo x + 51 = 52 + (expo x - 1) by omega, Nat.pow_add]
  exact Nat.mul_le_mul_right _ (by rw [show (2 : Nat) ^ 52 = 4503599627370496 by decide]; omega)
theorem sc_vlu {x y : Nat} {k : Int} (h : Sc x y k) : vlu y * 2 ^ (-k).toNat = vlu x * 2 ^ k.toNat := by
  have p1 := plc_ge x
  have p2 := plc_ge y
  have hp := h.p
  unfold vlu
  rw [h.m, Nat.mul_assoc, Nat.mul_assoc, ← Nat.pow_add, ← Nat.pow_add]
  congr 2
  omega
theorem ldW_vlu {x : Nat} {e : Int} (hx : x < 2 ^ 64) (hr : rung x < 9218868437227405312) (h1 : 1 ≤ expo x) (h2 : -1022 ≤ e) (h3 : e ≤ 1023) : vlu (ldW x e) = mgn x * 2 ^ (e + 1022).toNat := by
  obtain ⟨_, p2, p3, _, _⟩ := ldW_parts hx hr h1 h2 h3
  unfold vlu
  rw [p2, p3, show e - 52 + 1074 = e + 1022 by omega]
theorem tw_val : rung TW53 < 9218868437227405312 ∧ TW53 < 2 ^ 64 ∧ vlu TW53 * UU = PZ := by decide +kernel
/-- A number scaled to nearly nothing. -/
theorem ldx_tiny {x : Nat} {k : Int} (hx : x < 2 ^ 64) (hr : rung x < 9218868437227405312) (h1 : 1 ≤ expo x) (h2 : (expo x : Int) - 1023 + k < -1022) : rung (ldx x k) < 9218868437227405312 ∧ ldx x k < 2 ^ 64 ∧ vlu (ldx x k) ≤ 2 ^ 60 := by
  obtain ⟨z1, z2⟩ := not_zero hx hr h1
  have hn := nrm_id hx hr h1
  have hE : ldE x k = (expo x : Int) - 1023 + k := by unfold ldE; simp only [hn]; omega
  by_cases h3 : ldE x k < -1075
  · rw [← ldx_lo z1 z2 h3]
    cases sgn (nrmR x).1 <;> decide +kernel
  · rw [← ldx_sub z1 z2 h3 (by omega) (by omega), ldW_cn (by omega)]
    have hv := ldW_vlu (e := ldE x k + 53) hx hr h1 (by omega) (by omega)
    obtain ⟨_, _, _, w4, w5⟩ := ldW_parts (e := ldE x k + 53) hx hr h1 (by omega) (by omega)
    obtain ⟨t1, t2, t3⟩ := tw_val
    have hm := mgn_lt x
    obtain ⟨W, hW⟩ : ∃ W, W = vlu (ldW x (ldE x k + 53)) := ⟨_, rfl⟩
    have hW2 : W ≤ 2 ^ 53 * 2 ^ 53 := by
      rw [hW, hv]
      exact Nat.mul_le_mul (by rw [show (2 : Nat) ^ 53 = 9007199254740992 by decide]; omega) (Nat.pow_le_pow_right (by omega) (by omega))
    have e := fmul_int t1 w4
    rw [← hW] at e
    obtain ⟨N, hN⟩ : ∃ N, N = 2 * NZ := ⟨_, rfl⟩
    have hN2 : N = 2148 := by rw [hN, nz]
    have hp0 : (-2148 + (N : Int)).toNat = 0 := by omega
    have hP := pz_pos
    have hb : vlu TW53 * W * UU ≤ PZ * (2 ^ 53 * 2 ^ 53) := by
      rw [Nat.mul_right_comm, t3]
      exact Nat.mul_le_mul_left _ hW2
    have hb2 : vlu TW53 * W ≤ PZ * 2 ^ 53 := by
      refine Nat.le_of_mul_le_mul_right (c := UU) ?_ uu_pos
      have e9 : PZ * 2 ^ 53 * UU = PZ * (2 ^ 53 * 2 ^ 53) := by rw [uu53, Nat.mul_assoc]
      rw [e9]
      exact hb
    have hf : rung (fmul TW53 (ldW x (ldE x k + 53))) < 9218868437227405312 := by
      rw [e]
      refine nearest_fin (N := N) (by omega) ?_
      rw [hp0, Nat.pow_zero, Nat.mul_one]
      refine Nat.lt_of_le_of_lt hb2 ?_
      rw [pz_pow]
      exact Nat.pow_lt_pow_right (by omega) (by rw [nz]; omega)
    refine ⟨hf, fop_lt (op := .mul), ?_⟩
    by_cases hz : vlu TW53 * W = 0
    · rw [e, hz, nearest_nought]
      cases (sgn TW53 ^^ sgn (ldW x (ldE x k + 53))) <;> decide +kernel
    · rw [e] at hf ⊢
      obtain ⟨E, e1, _, e3⟩ := nearest_err (N := N) hz (by omega) (by omega) hf
      rw [pz_at hN, hp0, Nat.pow_zero, Nat.mul_one] at e1 e3
      generalize vlu (Ieee.double.nearest (sgn TW53 ^^ sgn (ldW x (ldE x k + 53))) (vlu TW53 * W) (-2148)) = V at *
      generalize vlu TW53 * W = M at *
      refine Nat.le_of_mul_le_mul_right (c := PZ) ?_ hP
      rw [show (2 : Nat) ^ 60 = 1152921504606846976 by decide]
      rw [show (2 : Nat) ^ 53 = 9007199254740992 by decide] at hb2
      generalize PZ = P at *
      omega
theorem rat {a b p q r s : Nat} (h : a * p ≤ b * q) (hc : q * r ≤ s * p) (hp : 0 < p) : a * r ≤ b * s := by
  refine Nat.le_of_mul_le_mul_right (c := p) ?_ hp
  have h1 := Nat.mul_le_mul_right r h
  have h2 := Nat.mul_le_mul_left b hc
  rw [Nat.mul_right_comm a, Nat.mul_assoc b s]
  rw [Nat.mul_assoc b q] at h1
  omega
/-- Two numbers that differ by at most k 2^-53 of the second. -/
def Cl (k a b : Nat) : Prop := ∃ t, a ≤ b + t ∧ b ≤ a + t ∧ t * UU ≤ k * b
theorem cl_mk {k a b : Nat} (h1 : a * UU ≤ b * UU + k * b) (h2 : b * UU ≤ a * UU + k * b) : Cl k a b := by
  rcases Nat.le_total a b with h | h
  · refine ⟨b - a, by omega, by omega, ?_⟩
    rw [Nat.sub_mul]; omega
  · refine ⟨a - b, by omega, by omega, ?_⟩
    rw [Nat.sub_mul]; omega
theorem Cl.out {k a b : Nat} (h : Cl k a b) : a * UU ≤ b * UU + k * b ∧ b * UU ≤ a * UU + k * b := by
  obtain ⟨t, h1, h2, h3⟩ := h
  have g1 := Nat.mul_le_mul_right UU h1
  have g2 := Nat.mul_le_mul_right UU h2
  rw [Nat.add_mul] at g1 g2
  omega
theorem cl_apx1 {a b : Nat} (h : Apx 1 a b) : Cl 2 a b := by
  have h1 := h.l
  have h2 := h.r
  have g1 := rat (r := UU) (s := UU + 2) h1 (by decide) (by decide)
  have g2 := rat (r := UU - 2) (s := UU) h2 (by decide) (by decide)
  have e1 : b * (UU + 2) = b * UU + 2 * b := by rw [Nat.mul_add, Nat.mul_comm b 2]
  have e2 : b * (UU - 2) = b * UU - 2 * b := by rw [Nat.mul_sub, Nat.mul_comm b 2]
  exact cl_mk (by omega) (by omega)
theorem cl_apx3 {a b : Nat} (h : Apx 3 a b) : Cl 4 a b := by
  have h1 := h.l
  have h2 := h.r
  have g1 := rat (r := UU) (s := UU + 4) h1 (by decide) (by decide)
  have g2 := rat (r := UU - 4) (s := UU) h2 (by decide) (by decide)
  have e1 : b * (UU + 4) = b * UU + 4 * b := by rw [Nat.mul_add, Nat.mul_comm b 4]
  have e2 : b * (UU - 4) = b * UU - 4 * b := by rw [Nat.mul_sub, Nat.mul_comm b 4]
  exact cl_mk (by omega) (by omega)
theorem Cl.trans {k l a b c : Nat} (h : Cl k a b) (g : Cl l b c) (hk : k * l ≤ UU) : Cl (k + l + 1) a c := by
  obtain ⟨t, h1, h2, h3⟩ := h
  obtain ⟨s, g1, g2, g3⟩ := g
  refine ⟨t + s, by omega, by omega, ?_⟩
  have c1 : k * s ≤ c := by
    refine Nat.le_of_mul_le_mul_right (c := UU) ?_ uu_pos
    have d1 := Nat.mul_le_mul_left k g3
    have d2 := Nat.mul_le_mul_right c hk
    rw [Nat.mul_assoc k s, Nat.mul_comm c]
    rw [← Nat.mul_assoc k l] at d1
    omega
  have c2 : k * b ≤ k * c + k * s := by rw [← Nat.mul_add]; exact Nat.mul_le_mul_left _ g1
  rw [Nat.add_mul, Nat.add_mul, Nat.add_mul, Nat.one_mul]
  omega
theorem Cl.symm {k a b : Nat} (h : Cl k a b) (hk : 2 * k ≤ UU) : Cl (2 * k) b a := by
  obtain ⟨t, h1, h2, h3⟩ := h
  refine ⟨t, h2, h1, ?_⟩
  have c1 : 2 * t ≤ b := by
    refine Nat.le_of_mul_le_mul_right (c := UU) ?_ uu_pos
    have d2 := Nat.mul_le_mul_right b hk
    rw [Nat.mul_assoc, Nat.mul_comm b]
    rw [Nat.mul_assoc] at d2
    omega
  have c2 : b ≤ 2 * a := by omega
  have c3 := Nat.mul_le_mul_left k c2
  rw [← Nat.mul_assoc, Nat.mul_comm k 2] at c3
  omega
theorem Cl.mulr {k a b : Nat} (h : Cl k a b) (c : Nat) : Cl k (a * c) (b * c) := by
  obtain ⟨t, h1, h2, h3⟩ := h
  refine ⟨t * c, by rw [← Nat.add_mul]; exact Nat.mul_le_mul_right _ h1, by rw [← Nat.add_mul]; exact Nat.mul_le_mul_right _ h2, ?_⟩
  rw [Nat.mul_right_comm, ← Nat.mul_assoc]
  exact Nat.mul_le_mul_right _ h3
theorem Cl.cancel {k a b c : Nat} (hc : 0 < c) (h : Cl k (a * c) (b * c)) : Cl k a b := by
  obtain ⟨h1, h2⟩ := h.out
  refine cl_mk (Nat.le_of_mul_le_mul_right (c := c) ?_ hc) (Nat.le_of_mul_le_mul_right (c := c) ?_ hc)
  · rw [Nat.add_mul, Nat.mul_right_comm a, Nat.mul_right_comm b, Nat.mul_assoc k]; exact h1
  · rw [Nat.add_mul, Nat.mul_right_comm a, Nat.mul_right_comm b, Nat.mul_assoc k]; exact h2
theorem Cl.two {k a b : Nat} (h : Cl k a b) (hk : 2 * k ≤ UU) : a ≤ 2 * b ∧ b ≤ 2 * a := by
  obtain ⟨t, h1, h2, h3⟩ := h
  have c1 : 2 * t ≤ b := by
    refine Nat.le_of_mul_le_mul_right (c := UU) ?_ uu_pos
    have d2 := Nat.mul_le_mul_right b hk
    rw [Nat.mul_assoc, Nat.mul_comm b]
    rw [Nat.mul_assoc] at d2
    omega
  omega
/-- A quotient: how far it lies from the exact one. -/
theorem fdiv_dev {x y : Nat} (hx : rung x < 9218868437227405312) (hy : rung y < 9218868437227405312) (hm : mgn x ≠ 0) (hn : mgn y ≠ 0) (hq8 : vlu x ≤ 2 * vlu y) :
    rung (fdiv x y) < 9218868437227405312 ∧ sgn (fdiv x y) = (sgn x ^^ sgn y) ∧ ∃ t, vlu (fdiv x y) * vlu y ≤ vlu x * PZ + t ∧ vlu x * PZ ≤ vlu (fdiv x y) * vlu y + t ∧ t * UU ≤ 4 * (vlu x * PZ) + UU * vlu y := by
  have e := fdiv_read hx hy hn
  have hlm := @mgn_log x
  have hln := @mgn_log y
  have hP := pz_pos
  have px := plc_ge x
  have py := plc_ge y
  have px2 := plc_le hx
  have py2 := plc_le hy
  obtain ⟨more, hmore⟩ : ∃ more, more = 54 + (mgn y).log2 - (mgn x).log2 := ⟨_, rfl⟩
  have hq := quo_err hn (quo_big hm hn (by omega))
  rw [← hmore] at e hq
  obtain ⟨Q, hQ⟩ : ∃ Q, Q = 2 * ((mgn x <<< more) / mgn y) + ((mgn x <<< more) % mgn y != 0).toNat := ⟨_, rfl⟩
  obtain ⟨p, hp⟩ : ∃ p, p = plc x - plc y - (more : Int) - 1 := ⟨_, rfl⟩
  rw [← hQ] at hq
  rw [← hQ, ← hp] at e
  obtain ⟨N, hN⟩ : ∃ N, N = 3 * NZ := ⟨_, rfl⟩
  have hN2 : N = 3222 := by rw [hN, nz]
  have hpN : -(N : Int) ≤ p := by omega
  have hX : Apx 1 (Q * 2 ^ (p + N).toNat * vlu y) (vlu x * 2 ^ N) := by
    have h1 := hq.scale (2 ^ ((p + N).toNat + (plc y + 1074).toNat))
    rw [Nat.shiftLeft_eq] at h1
    have e1 : Q * mgn y * 2 ^ ((p + N).toNat + (plc y + 1074).toNat) = Q * 2 ^ (p + N).toNat * vlu y := by
      unfold vlu
      rw [Nat.pow_add]
      exact mul4 _ _ _ _
    have e2 : 2 * (mgn x * 2 ^ more) * 2 ^ ((p + N).toNat + (plc y + 1074).toNat) = vlu x * 2 ^ N := by
      unfold vlu
      rw [pow_shift, Nat.mul_assoc (mgn x), ← Nat.pow_add, show more + 1 + ((p + N).toNat + (plc y + 1074).toNat) = (plc x + 1074).toNat + N by omega]
    rw [e1, e2] at h1
    exact h1
  have hY : 0 < vlu y := Nat.mul_pos (by omega) (Nat.two_pow_pos _)
  have hXv : 0 < vlu x := Nat.mul_pos (by omega) (Nat.two_pow_pos _)
  obtain ⟨_, x2⟩ := hX.two
  obtain ⟨x1, _⟩ := hX.two
  have eP : 2 ^ N = PZ * (PZ * PZ) := by
    rw [hN, show 3 * NZ = NZ + (NZ + NZ) by omega, Nat.pow_add, Nat.pow_add, ← pz_def]
  have eP2 : 2 ^ (N - 1074) = PZ * PZ := by
    rw [show N - 1074 = NZ + NZ by rw [hN, nz], Nat.pow_add, ← pz_def]
  have hN0 := Nat.two_pow_pos N
  have hf : rung (fdiv x y) < 9218868437227405312 := by
    rw [e]
    refine nearest_fin hpN ?_
    have h1 : Q * 2 ^ (p + N).toNat * vlu y ≤ 4 * 2 ^ N * vlu y := by
      have := Nat.mul_le_mul_right (2 ^ N) hq8
      generalize 2 ^ N = T at *
      have e4 : 2 * vlu y * T = 2 * (T * vlu y) := by rw [Nat.mul_assoc, Nat.mul_comm (vlu y)]
      have e5 : 4 * T * vlu y = 4 * (T * vlu y) := Nat.mul_assoc _ _ _
      omega
    have h2 := Nat.le_of_mul_le_mul_right h1 hY
    refine Nat.lt_of_le_of_lt h2 ?_
    refine Nat.lt_of_lt_of_le ?_ (Nat.pow_le_pow_right (by omega) (show N + 3 ≤ N + 1023 by omega))
    rw [Nat.pow_add, show (2 : Nat) ^ 3 = 8 by decide]
    omega
  have hs : sgn (fdiv x y) = (sgn x ^^ sgn y) := by rw [e]; exact nearest_sgn
  refine ⟨hf, hs, ?_⟩
  have hQ0 : Q ≠ 0 := by
    intro h0
    rw [h0, Nat.zero_mul, Nat.zero_mul] at x2
    have := Nat.mul_pos hXv hN0
    omega
  rw [e] at hf ⊢
  obtain ⟨E, c1, c2, c3⟩ := nearest_err hQ0 (by omega) hpN hf
  generalize vlu (Ieee.double.nearest (sgn x ^^ sgn y) Q p) = S at *
  have hcl := cl_apx1 hX
  rw [eP] at hcl
  rw [eP2] at c1 c2 c3
  generalize Q * 2 ^ (p + N).toNat = Z at *
  generalize vlu x = X at *
  generalize vlu y = Y at *
  have hT : 0 < PZ * PZ := Nat.mul_pos hP hP
  rw [← Nat.mul_assoc] at hcl
  generalize PZ * PZ = T at *
  generalize X * PZ = XP at *
  have d1 : S * T * Y ≤ (Z + E) * Y := Nat.mul_le_mul_right _ c1
  have d2 : Z * Y ≤ (S * T + E) * Y := Nat.mul_le_mul_right _ c2
  have d3 : E * Y * UU ≤ Z * Y + UU * (T * Y) := by
    have g : E * UU ≤ Z + UU * T := by
      rcases c3 with c | c
      · exact Nat.le_trans c (Nat.le_add_right _ _)
      · have := Nat.mul_le_mul_left UU c
        have e6 : UU * (2 * E) = 2 * (E * UU) := by rw [Nat.mul_comm UU, Nat.mul_assoc]
        omega
    have g2 := Nat.mul_le_mul_right Y g
    have e6 : E * UU * Y = E * Y * UU := Nat.mul_right_comm _ _ _
    have e7 : (Z + UU * T) * Y = Z * Y + UU * (T * Y) := by rw [Nat.add_mul, Nat.mul_assoc UU]
    omega
  rw [Nat.add_mul, Nat.mul_right_comm S] at d1 d2
  obtain ⟨w, w1, w2, w3⟩ := hcl
  generalize hSY : S * Y = SY at *
  clear c1 c2 c3 x1 x2 hX e eP eP2 hN0 hN2 hq hpN hlm hln px py px2 py2
  obtain ⟨v, v1, v2, v3⟩ : ∃ v, SY ≤ XP + v ∧ XP ≤ SY + v ∧ v * T ≤ E * Y + w := by
    rcases Nat.le_total SY XP with h | h
    · refine ⟨XP - SY, by omega, by omega, ?_⟩
      rw [Nat.sub_mul]; omega
    · refine ⟨SY - XP, by omega, by omega, ?_⟩
      rw [Nat.sub_mul]; omega
  refine ⟨v, v1, v2, Nat.le_of_mul_le_mul_right (c := T) ?_ hT⟩
  have v4 := Nat.mul_le_mul_right UU v3
  rw [Nat.add_mul] at v4
  have e1 : v * UU * T = v * T * UU := Nat.mul_right_comm _ _ _
  have e2 : (4 * XP + UU * Y) * T = 4 * (XP * T) + UU * (T * Y) := by rw [Nat.add_mul, Nat.mul_assoc 4, Nat.mul_assoc UU, Nat.mul_comm Y]
  have w4 : w ≤ XP * T := by
    refine Nat.le_of_mul_le_mul_right (c := UU) ?_ uu_pos
    refine Nat.le_trans w3 ?_
    rw [Nat.mul_comm]
    exact Nat.mul_le_mul_left _ (by decide)
  rw [e1, e2]
  omega
/-- The square of a number not above 2. -/
theorem sq_fin {u : Nat} (fu : rung u < 9218868437227405312) (bu : vlu u ≤ 2 * PZ) : rung (fmul u u) < 9218868437227405312 ∧ vlu (fmul u u) ≤ 9 * PZ := by
  have e := fmul_int fu fu
  obtain ⟨N, hN⟩ : ∃ N, N = 2 * NZ := ⟨_, rfl⟩
  have hN2 : N = 2148 := by rw [hN, nz]
  have hp0 : (-2148 + (N : Int)).toNat = 0 := by omega
  have hP := pz_pos
  have hb : vlu u * vlu u ≤ 4 * (PZ * PZ) := by
    have h1 := Nat.mul_le_mul bu bu
    have e1 : 2 * PZ * (2 * PZ) = 4 * (PZ * PZ) := by rw [mul4]
    omega
  have hPP : PZ * PZ = 2 ^ N := by rw [hN, show 2 * NZ = NZ + NZ by omega, Nat.pow_add, ← pz_def]
  have hN0 := Nat.two_pow_pos N
  have hf : rung (fmul u u) < 9218868437227405312 := by
    rw [e]
    refine nearest_fin (N := N) (by omega) ?_
    rw [hp0, Nat.pow_zero, Nat.mul_one]
    refine Nat.lt_of_lt_of_le ?_ (Nat.pow_le_pow_right (by omega) (show N + 3 ≤ N + 1023 by omega))
    rw [Nat.pow_add, show (2 : Nat) ^ 3 = 8 by decide, ← hPP]
    rw [← hPP] at hN0
    omega
  refine ⟨hf, ?_⟩
  by_cases hz : vlu u * vlu u = 0
  · rw [e, hz, nearest_nought]
    have : vlu (if (sgn u ^^ sgn u) = true then NEG0 else 0) = 0 := by cases (sgn u ^^ sgn u) <;> decide +kernel
    rw [this]; exact Nat.zero_le _
  · rw [e] at hf ⊢
    obtain ⟨E, e1, _, e3⟩ := nearest_err (N := N) hz (by omega) (by omega) hf
    rw [pz_at hN, hp0, Nat.pow_zero, Nat.mul_one] at e1 e3
    generalize vlu (Ieee.double.nearest (sgn u ^^ sgn u) (vlu u * vlu u) (-2148)) = V at *
    generalize vlu u * vlu u = M at *
    refine Nat.le_of_mul_le_mul_right (c := PZ) ?_ hP
    have g1 : PZ ≤ PZ * PZ := Nat.le_mul_of_pos_left _ hP
    rw [Nat.mul_assoc]
    generalize PZ * PZ = Q at *
    clear hPP hN0 hN2 hN
    omega
theorem pz_big : UU * 2 ^ 200 ≤ PZ := by
  rw [uu53, ← Nat.pow_add]
  exact pz_ge (by rw [nz]; omega)
theorem fsqrt_lt' {x : Nat} : fsqrt x < 2 ^ 64 := by
  unfold fsqrt fop
  cases h : Ieee.double.sqrt x with
  | none => exact NAN_lt
  | some r => exact (sqrt_some h).2.1
/-- The root of a sum of two squares. -/
theorem len_core {u v : Nat} (hu : u < 2 ^ 64) (hv : v < 2 ^ 64) (fu : rung u < 9218868437227405312) (fv : rung v < 9218868437227405312) (bu : vlu u ≤ 2 * PZ) (bv : vlu v ≤ 2 * PZ) (h1 : PZ ≤ vlu u ∨ PZ ≤ vlu v) :
    Rng (fsqrt (dotL [u, v] [u, v])) 6 ∧ fsqrt (dotL [u, v] [u, v]) < 2 ^ 64 ∧ Cl 9 (vlu (fsqrt (dotL [u, v] [u, v])) * vlu (fsqrt (dotL [u, v] [u, v]))) (vlu u * vlu u + vlu v * vlu v) := by
  have hP := pz_pos
  obtain ⟨f1, b1⟩ := sq_fin fu bu
  obtain ⟨f2, b2⟩ := sq_fin fv bv
  obtain ⟨f3, b3⟩ := fadd_zero (x := fmul u u) (fop_lt (op := .mul)) f1
  have ed : dotL [u, v] [u, v] = fadd (fadd 0 (fmul u u)) (fmul v v) := rfl
  have fd : rung (dotL [u, v] [u, v]) < 9218868437227405312 := by
    rw [ed, fadd_int f3 f2, b3]
    refine nearest_fin (N := 1074) (by decide) ?_
    have h0 : (-1074 + ((1074 : Nat) : Int)).toNat = 0 := by decide
    rw [h0, Nat.pow_zero, Nat.mul_one]
    have c1 := sval_abs (fmul u u)
    have c2 := sval_abs (fmul v v)
    have c3 : (sval (fmul u u) + sval (fmul v v)).natAbs ≤ 18 * PZ := by omega
    refine Nat.lt_of_le_of_lt c3 ?_
    obtain ⟨M, hM⟩ : ∃ M, M = NZ + 1023 := ⟨_, rfl⟩
    rw [show 1074 + 1023 = M by rw [hM, nz]]
    refine Nat.lt_of_lt_of_le ?_ (Nat.pow_le_pow_right (by omega) (show NZ + 5 ≤ M by omega))
    rw [Nat.pow_add, ← pz_def, show (2 : Nat) ^ 5 = 32 by decide]
    omega
  have hy : ∀ k, fmul ([u, v].getD k 0) ([u, v].getD k 0) < 2 ^ 64 := fun k => fop_lt (op := .mul)
  have hnear := near_le (n := 2) hy (by omega) (show rung (dotTo [u, v] [u, v] 2) < _ from fd)
  have ea : amtV [u, v] [u, v] 2 = vlu u * vlu u + vlu v * vlu v := by
    show 0 + (sval u * sval u).natAbs + (sval v * sval v).natAbs = _
    rw [Int.natAbs_mul, Int.natAbs_mul, sval_abs, sval_abs, Nat.zero_add]
  have es : sumV [u, v] [u, v] 2 = ((vlu u * vlu u + vlu v * vlu v : Nat) : Int) := by
    show 0 + sval u * sval u + sval v * sval v = _
    rw [sval_sgz, sgz_mul, sval_sgz, sgz_mul, Bool.xor_self, Bool.xor_self]
    simp [sgz]
  unfold dev at hnear
  rw [ea, es, show dotTo [u, v] [u, v] 2 = dotL [u, v] [u, v] from rfl] at hnear
  obtain ⟨q, hq⟩ : ∃ q, q = dotL [u, v] [u, v] := ⟨_, rfl⟩
  rw [← hq] at hnear fd ⊢
  clear ed es ea f3 b3 f1 f2 b1 b2
  obtain ⟨W, hW⟩ : ∃ W, W = vlu u * vlu u + vlu v * vlu v := ⟨_, rfl⟩
  have hW1 : PZ * PZ ≤ W := by
    rw [hW]
    rcases h1 with h | h
    · have := Nat.mul_le_mul h h; omega
    · have := Nat.mul_le_mul h h; omega
  have hW2 : W ≤ 8 * (PZ * PZ) := by
    rw [hW]
    have g1 := Nat.mul_le_mul bu bu
    have g2 := Nat.mul_le_mul bv bv
    have e1 : 2 * PZ * (2 * PZ) = 4 * (PZ * PZ) := by rw [mul4]
    omega
  rw [← hW] at hnear ⊢
  have hsm : 2 * (PZ * UU) ≤ W := by
    refine Nat.le_trans ?_ hW1
    rw [Nat.mul_comm, Nat.mul_assoc]
    exact Nat.mul_le_mul_left _ (Nat.le_trans (Nat.mul_le_mul_left UU (show 2 ≤ 2 ^ 200 by decide)) pz_big)
  have hdev : (sval q * (PZ : Nat) - (W : Int)).natAbs * UU ≤ 4 * W := by omega
  have hdev2 : (sval q * (PZ : Nat) - (W : Int)).natAbs * 2 ≤ W := by
    generalize (sval q * (PZ : Nat) - (W : Int)).natAbs = d at *
    have u1 := Nat.mul_le_mul_left d (show 8 ≤ UU by decide)
    omega
  have hWp : 0 < W := Nat.lt_of_lt_of_le (Nat.mul_pos hP hP) hW1
  have hqp : 0 < sval q := by
    rcases Int.lt_or_le 0 (sval q) with h | h
    · exact h
    · exfalso
      have h2 : sval q * (PZ : Nat) ≤ 0 := Int.mul_nonpos_of_nonpos_of_nonneg h (by omega)
      omega
  have hs := sval_pos hqp
  have hv : sval q = (vlu q : Int) := by unfold sval; rw [hs]; rfl
  have hc : Cl 4 (vlu q * PZ) W := by
    refine ⟨(sval q * (PZ : Nat) - (W : Int)).natAbs, ?_, ?_, hdev⟩ <;> rw [hv, ← Int.natCast_mul] <;> omega
  obtain ⟨q1, q2⟩ := hc.two (by decide)
  have hr : Rng q 4 := by
    refine ⟨fd, hs, ?_, ?_⟩
    · refine Nat.le_of_mul_le_mul_right (c := PZ) ?_ hP
      rw [Nat.mul_right_comm, show (2 : Nat) ^ 4 = 16 by decide]
      omega
    · refine Nat.le_of_mul_le_mul_right (c := PZ) ?_ hP
      rw [Nat.mul_right_comm, show (2 : Nat) ^ 4 = 16 by decide]
      omega
  obtain ⟨s1, s2⟩ := sqrt_apx hr (by omega)
  exact ⟨s2, fsqrt_lt', (cl_apx3 s1).trans hc (by decide)⟩
theorem cmp_scale' {a b p : Int} (hp : 1 ≤ p) : compare (a * p) (b * p) = compare a b := by
  rcases Int.lt_trichotomy a b with h | h | h
  · rw [Int.compare_eq_lt.2 h, Int.compare_eq_lt.2 (Int.mul_lt_mul_of_pos_right h (by omega))]
  · rw [h, Int.compare_eq_eq.2 rfl, Int.compare_eq_eq.2 rfl]
  · rw [Int.compare_eq_gt.2 h, Int.compare_eq_gt.2 (Int.mul_lt_mul_of_pos_right h (by omega))]
/-- The order of numbers is that of their values. -/
theorem ford_val' {x y : Nat} (hx : rung x < 9218868437227405312) (hy : rung y < 9218868437227405312) : ford x y = some (compare (sval x) (sval y)) := by
  have px := plc_ge x
  have py := plc_ge y
  unfold ford Ieee.Format.order
  rw [read_fin hx, read_fin hy]
  simp only [Ieee.Datum.order]
  obtain ⟨b, hb⟩ : ∃ b, b = min (plc x) (plc y) := ⟨_, rfl⟩
  rw [← hb]
  have key : ∀ z, b ≤ plc z → Ieee.signed (sgn z) (mgn z) (plc z - b).toNat * 2 ^ (b + 1074).toNat = sval z := fun z hz => (sval_signed (by omega) hz).symm
  rw [← key x (by omega), ← key y (by omega), cmp_scale' (pow_one_le _)]
theorem sval_pos' {x : Nat} (h : sgn x = false) : sval x = (vlu x : Int) := by unfold sval; rw [h]; rfl
theorem fmax_pos {x y : Nat} (hx : x < 2 ^ 64) (hy : y < 2 ^ 64) (fx : rung x < 9218868437227405312) (fy : rung y < 9218868437227405312) (sx : sgn x = false) (sy : sgn y = false) : (fmax x y = x ∧ vlu y ≤ vlu x) ∨ (fmax x y = y ∧ vlu x ≤ vlu y) := by
  have h := ford_val' fx fy
  rw [sval_pos' sx, sval_pos' sy] at h
  unfold fmax
  rw [h]
  cases hc : compare (vlu x : Int) (vlu y : Int)
  · right; exact ⟨rfl, by have := Int.compare_eq_lt.1 hc; omega⟩
  · have := Int.compare_eq_eq.1 hc
    show ((if _ then y else x) = x ∧ _) ∨ ((if _ then y else x) = y ∧ _)
    split
    · right; exact ⟨rfl, by omega⟩
    · left; exact ⟨rfl, by omega⟩
  · left; exact ⟨rfl, by have := Int.compare_eq_gt.1 hc; omega⟩
theorem vlu_fabs {x : Nat} (hx : x < 2 ^ 64) (hr : rung x < 9218868437227405312) : vlu (fabs x) = vlu x := by
  obtain ⟨_, _, q3, q4⟩ := fabs_parts hx hr
  unfold vlu; rw [q3, q4]
/-- The greater of two amounts. -/
theorem max_two {a b : Nat} (ha : a < 2 ^ 64) (hb : b < 2 ^ 64) (fa : rung a < 9218868437227405312) (fb : rung b < 9218868437227405312) (h1 : 1 ≤ expo a) :
    (maxL [a, b] = fabs a ∧ vlu b ≤ vlu a) ∨ (maxL [a, b] = fabs b ∧ vlu a ≤ vlu b) := by
  have la := (fabs_fin ha ((finB_iff ha).2 fa)).1
  have lb := (fabs_fin hb ((finB_iff hb).2 fb)).1
  obtain ⟨a1, a2, _, _⟩ := fabs_parts ha fa
  obtain ⟨b1, b2, _, _⟩ := fabs_parts hb fb
  have va := vlu_fabs ha fa
  have vb := vlu_fabs hb fb
  have pa : 0 < vlu a := Nat.lt_of_lt_of_le (Nat.two_pow_pos _) (vlu_ge_expo h1)
  have e : maxL [a, b] = fmax (fmax 0 (fabs a)) (fabs b) := rfl
  have e1 : fmax 0 (fabs a) = fabs a := by
    rcases fmax_pos (x := 0) (y := fabs a) (by decide) la (by decide) (by rw [a1]; exact fa) (by decide) a2 with ⟨_, h⟩ | ⟨h, _⟩
    · exfalso
      rw [va, show vlu 0 = 0 by decide +kernel] at h
      omega
    · exact h
  rw [e, e1]
  rcases fmax_pos la lb (by rw [a1]; exact fa) (by rw [b1]; exact fb) a2 b2 with ⟨h, g⟩ | ⟨h, g⟩
  · left; exact ⟨h, by rw [va, vb] at g; exact g⟩
  · right; exact ⟨h, by rw [va, vb] at g; exact g⟩
theorem expo_fabs {x : Nat} (hx : x < 2 ^ 64) (hr : rung x < 9218868437227405312) : expo (fabs x) = expo x := by
  rw [expo_rung, expo_rung x, (fabs_parts hx hr).1]
theorem frx_abs {x : Nat} (hx : x < 2 ^ 64) (hr : rung x < 9218868437227405312) (h1 : 1 ≤ expo x) : frxE (fabs x) = (expo x : Int) - 1022 := by
  have hl := (fabs_fin hx ((finB_iff hx).2 hr)).1
  have hR := (fabs_parts hx hr).1
  have he := expo_fabs hx hr
  have hn := nrm_id (x := fabs x) hl (by rw [hR]; exact hr) (by rw [he]; exact h1)
  unfold frxE
  simp only [hn]
  rw [he]; omega
theorem expo_mono {x y : Nat} (h : vlu x ≤ vlu y) (h1 : 1 ≤ expo x) : expo x ≤ expo y := by
  by_cases hc : expo x ≤ expo y
  · exact hc
  · exfalso
    have g1 := vlu_ge_expo h1
    have g2 : vlu y < 2 ^ (expo x + 51) := by
      rcases @vlu_lt_expo y with h2 | ⟨_, h2⟩
      · exact Nat.lt_of_lt_of_le h2 (Nat.pow_le_pow_right (by omega) (by omega))
      · exact Nat.lt_of_lt_of_le h2 (Nat.pow_le_pow_right (by omega) (by omega))
    omega
/-- What is scaled by the greater number's power, and what the smaller one becomes. -/
theorem scl_big {x : Nat} {K : Int} (hx : x < 2 ^ 64) (fx : rung x < 9218868437227405312) (h1 : 1 ≤ expo x) (hK : K = (expo x : Int) - 1023) : Sc x (ldx x (-K)) (-K) ∧ PZ ≤ vlu (ldx x (-K)) ∧ vlu (ldx x (-K)) ≤ 2 * PZ := by
  have h := ldx_exact (k := -K) hx fx h1 (by omega) (by omega)
  refine ⟨h, ?_⟩
  have hm := mgn_lt x
  obtain ⟨m1, m2⟩ := mgn_1 (x := x) (by omega)
  obtain ⟨n, hn⟩ : ∃ n : Nat, n = 1022 := ⟨_, rfl⟩
  have hv : vlu (ldx x (-K)) = mgn x * 2 ^ n := by
    unfold vlu
    rw [h.m, h.p, m2, show ((expo x : Int) - 1 - 1074 + -K + 1074).toNat = n by omega]
  have e1 : PZ = 2 ^ 52 * 2 ^ n := by rw [← Nat.pow_add, pz_def, show 52 + n = NZ by rw [hn, nz]]
  rw [hv, e1, show (2 : Nat) ^ 52 = 4503599627370496 by decide]
  generalize (2 : Nat) ^ n = T at *
  have g1 : 4503599627370496 * T ≤ mgn x * T := Nat.mul_le_mul_right _ (by omega)
  have g2 : mgn x * T ≤ 9007199254740992 * T := Nat.mul_le_mul_right _ (by omega)
  constructor
  · exact g1
  · rw [← Nat.mul_assoc]; exact g2
theorem sq_eq {a b c d : Nat} (h : a * b = c * d) : a * a * (b * b) = c * c * (d * d) := by
  rw [← mul4 a b a b, h, mul4 c d c d]
theorem pz_two200 : 2 ^ 200 ≤ PZ := pz_ge (by rw [nz]; omega)
theorem small_sq {a b k l : Nat} (h : a * 2 ^ k ≤ b) (hk : l ≤ k + k) : a * a * 2 ^ l ≤ b * b := by
  have h1 := Nat.mul_le_mul h h
  rw [mul4, ← Nat.pow_add] at h1
  exact Nat.le_trans (Nat.mul_le_mul_left _ (Nat.pow_le_pow_right (by omega) hk)) h1
/-- Two numbers scaled by the greater one's power: the squares are scaled, nearly. -/
theorem rel_big {x z : Nat} {K : Int} (hx : x < 2 ^ 64) (fx : rung x < 9218868437227405312) (h1 : 1 ≤ expo x) (hz : z < 2 ^ 64) (fz : rung z < 9218868437227405312) (g1 : 1 ≤ expo z) (hzx : vlu z ≤ vlu x) (hK : K = (expo x : Int) - 1023) :
    rung (ldx z (-K)) < 9218868437227405312 ∧ ldx z (-K) < 2 ^ 64 ∧ vlu (ldx z (-K)) ≤ 2 * PZ ∧
    Cl 2 ((vlu x * vlu x + vlu z * vlu z) * (2 ^ (-K).toNat * 2 ^ (-K).toNat)) ((vlu (ldx x (-K)) * vlu (ldx x (-K)) + vlu (ldx z (-K)) * vlu (ldx z (-K))) * (2 ^ K.toNat * 2 ^ K.toNat)) := by
  obtain ⟨hs, p1, p2⟩ := scl_big hx fx h1 hK
  have hm := expo_mono hzx g1
  have ex := sc_vlu hs
  rw [show (- -K).toNat = K.toNat by omega] at ex
  have e2 := sq_eq ex
  by_cases hE : (expo z : Int) - 1023 + -K < -1022
  · obtain ⟨t1, t2, t3⟩ := ldx_tiny hz fz g1 hE
    refine ⟨t1, t2, ?_, ?_⟩
    · refine Nat.le_trans t3 (Nat.le_trans (Nat.pow_le_pow_right (by omega) (show 60 ≤ 200 by omega)) (Nat.le_trans pz_two200 (by omega)))
    · rw [Nat.add_mul, Nat.add_mul, ← e2]
      have hzs : vlu z * 2 ^ 30 ≤ vlu x := by
        refine Nat.le_trans ?_ (vlu_ge_expo h1)
        rcases @vlu_lt_expo z with h | ⟨h, _⟩
        · refine Nat.le_trans (Nat.mul_le_mul_right _ (Nat.le_of_lt h)) ?_
          rw [← Nat.pow_add]
          exact Nat.pow_le_pow_right (by omega) (by omega)
        · omega
      have hws : vlu (ldx z (-K)) * 2 ^ 30 ≤ vlu (ldx x (-K)) := by
        refine Nat.le_trans (Nat.mul_le_mul_right _ t3) (Nat.le_trans ?_ p1)
        rw [← Nat.pow_add]
        exact Nat.le_trans (Nat.pow_le_pow_right (by omega) (show 60 + 30 ≤ 200 by omega)) pz_two200
      have q1 := Nat.mul_le_mul_right (2 ^ (-K).toNat * 2 ^ (-K).toNat) (small_sq (l := 53) hzs (by omega))
      have q2 := Nat.mul_le_mul_right (2 ^ K.toNat * 2 ^ K.toNat) (small_sq (l := 53) hws (by omega))
      rw [← uu53] at q1 q2
      rw [← e2] at q1
      generalize vlu (ldx x (-K)) * vlu (ldx x (-K)) * (2 ^ K.toNat * 2 ^ K.toNat) = a at *
      generalize 2 ^ K.toNat * 2 ^ K.toNat = N at *
      generalize 2 ^ (-K).toNat * 2 ^ (-K).toNat = M at *
      generalize vlu (ldx z (-K)) * vlu (ldx z (-K)) = w at *
      generalize vlu z * vlu z = y at *
      refine ⟨y * M + w * N, by omega, by omega, ?_⟩
      rw [Nat.mul_right_comm] at q1 q2
      rw [Nat.add_mul]
      omega
  · have h := ldx_exact (k := -K) hz fz g1 (by omega) (by omega)
    have ez := sc_vlu h
    rw [show (- -K).toNat = K.toNat by omega] at ez
    have e3 := sq_eq ez
    refine ⟨h.f, h.l, ?_, ?_⟩
    · refine Nat.le_trans ?_ p2
      have := Nat.mul_le_mul_right (2 ^ (-K).toNat) hzx
      rw [← ez, ← ex] at this
      exact Nat.le_of_mul_le_mul_right this (Nat.two_pow_pos _)
    · rw [Nat.add_mul, Nat.add_mul, e2, e3]
      exact ⟨0, by omega, by omega, by rw [Nat.zero_mul]; exact Nat.zero_le _⟩
/-- The length of two numbers, scaled back. -/
theorem len_back {g : Nat} {K : Int} {V W : Nat} (hg : Rng g 6) (hl : g < 2 ^ 64) (hK : -900 ≤ K) (hK2 : K ≤ 900) (hc : Cl 9 (vlu g * vlu g) W) (hr : Cl 2 (V * (2 ^ (-K).toNat * 2 ^ (-K).toNat)) (W * (2 ^ K.toNat * 2 ^ K.toNat))) :
    Sc g (ldx g K) K ∧ Cl 14 (vlu (ldx g K) * vlu (ldx g K)) V := by
  have hlo := hg.lo
  have hhi := hg.hi
  have he1 : 1023 ≤ expo g + 7 ∧ expo g ≤ 1030 := by
    constructor
    · by_cases h : 1023 ≤ expo g + 7
      · exact h
      · exfalso
        have : vlu g * 2 ^ 6 < PZ := by
          rcases @vlu_lt_expo g with h2 | ⟨_, h2⟩
          · refine Nat.lt_of_lt_of_le (Nat.mul_lt_mul_of_pos_right h2 (Nat.two_pow_pos 6)) ?_
            rw [← Nat.pow_add]
            exact pz_ge (by rw [nz]; omega)
          · refine Nat.lt_of_lt_of_le (Nat.mul_lt_mul_of_pos_right h2 (Nat.two_pow_pos 6)) ?_
            rw [← Nat.pow_add]
            exact pz_ge (by rw [nz]; omega)
        omega
    · by_cases h : expo g ≤ 1030
      · exact h
      · exfalso
        have h2 := Nat.le_trans (vlu_ge_expo (x := g) (by omega)) hhi
        rw [pz_pow] at h2
        have h3 := (Nat.pow_le_pow_iff_right (show 1 < 2 by omega)).1 h2
        rw [nz] at h3
        omega
  have h := ldx_exact (k := K) hl hg.f (by omega) (by omega) (by omega)
  refine ⟨h, ?_⟩
  have ex := sc_vlu h
  have e2 := sq_eq ex
  refine Cl.cancel (c := 2 ^ (-K).toNat * 2 ^ (-K).toNat) (Nat.mul_pos (Nat.two_pow_pos _) (Nat.two_pow_pos _)) ?_
  rw [e2]
  exact (hc.mulr _).trans (hr.symm (by decide)) (by decide)
structure TurnV (a b r : Nat) : Prop where
  l : r < 2 ^ 64
  f : rung r < 9218868437227405312
  s : sgn r = false
  p : 0 < vlu r
  c : Cl 14 (vlu r * vlu r) (vlu a * vlu a + vlu b * vlu b)
theorem turn_fin {a b g : Nat} {K : Int} (hg : Rng g 6) (h : Sc g (ldx g K) K) (hc : Cl 14 (vlu (ldx g K) * vlu (ldx g K)) (vlu a * vlu a + vlu b * vlu b)) : TurnV a b (ldx g K) := by
  refine ⟨h.l, h.f, h.s.trans hg.s, ?_, hc⟩
  have := mgn_pos hg.pos
  unfold vlu
  rw [h.m]
  exact Nat.mul_pos (by omega) (Nat.two_pow_pos _)
theorem len_two {a b : Nat} (ha : a < 2 ^ 64) (hb : b < 2 ^ 64) (fa : rung a < 9218868437227405312) (fb : rung b < 9218868437227405312) (a1 : 123 ≤ expo a) (a2 : expo a ≤ 1923) (b1 : 123 ≤ expo b) (b2 : expo b ≤ 1923) : powB [a, b] = true ∧ TurnV a b (lenL [a, b]) := by
  have hB : ∀ x, x < 2 ^ 64 → rung x < 9218868437227405312 → 1 ≤ expo x → maxL [a, b] = fabs x → powB [a, b] = true ∧ powK [a, b] = (expo x : Int) - 1023 := by
    intro x hx fx h1 hm
    have hl := (fabs_fin hx ((finB_iff hx).2 fx)).1
    have hR := (fabs_parts hx fx).1
    have hp : powB [a, b] = true := by
      unfold powB
      rw [hm, (not_zero hl (by rw [hR]; exact fx) (by rw [expo_fabs hx fx]; exact h1)).1]; rfl
    refine ⟨hp, ?_⟩
    unfold powK
    rw [if_pos hp, hm, frx_abs hx fx h1]; omega
  have key : ∀ K, powB [a, b] = true → powK [a, b] = K → lenL [a, b] = ldx (fsqrt (dotL [ldx a (-K), ldx b (-K)] [ldx a (-K), ldx b (-K)])) K := by
    intro K h1 h2
    unfold lenL
    rw [if_pos h1, h2]; rfl
  rcases max_two ha hb fa fb (by omega) with ⟨hm, hv⟩ | ⟨hm, hv⟩
  · obtain ⟨p1, p2⟩ := hB a ha fa (by omega) hm
    refine ⟨p1, ?_⟩
    rw [key _ p1 p2]
    obtain ⟨s1, s2, s3⟩ := scl_big ha fa (by omega) rfl
    obtain ⟨r1, r2, r3, r4⟩ := rel_big ha fa (by omega) hb fb (by omega) hv rfl
    obtain ⟨g1, g2, g3⟩ := len_core s1.l r2 s1.f r1 s3 r3 (.inl s2)
    obtain ⟨w1, w2⟩ := len_back g1 g2 (K := (expo a : Int) - 1023) (by omega) (by omega) g3 r4
    exact turn_fin g1 w1 w2
  · obtain ⟨p1, p2⟩ := hB b hb fb (by omega) hm
    refine ⟨p1, ?_⟩
    rw [key _ p1 p2]
    obtain ⟨s1, s2, s3⟩ := scl_big hb fb (by omega) rfl
    obtain ⟨r1, r2, r3, r4⟩ := rel_big hb fb (by omega) ha fa (by omega) hv rfl
    obtain ⟨g1, g2, g3⟩ := len_core r2 s1.l r1 s1.f r3 s3 (.inr s2)
    rw [Nat.add_comm (vlu b * vlu b), Nat.add_comm (vlu (ldx b _) * _)] at r4
    obtain ⟨w1, w2⟩ := len_back g1 g2 (K := (expo b : Int) - 1023) (by omega) (by omega) g3 r4
    exact turn_fin g1 w1 w2
theorem mul2_le {a b c d : Nat} (h1 : a ≤ b) (h2 : c ≤ d) : a * c ≤ b * d := Nat.mul_le_mul h1 h2
theorem sq_le2 {a r : Nat} (h : a * a ≤ 2 * (r * r)) : a ≤ 2 * r := by
  by_cases hc : a ≤ 2 * r
  · exact hc
  · exfalso
    have h1 : 2 * r + 1 ≤ a := by omega
    have h2 := Nat.mul_le_mul h1 h1
    have h3 : (2 * r + 1) * (2 * r + 1) = 4 * (r * r) + 4 * r + 1 := by grind
    omega
/-- A difference, times what is left out, in parts of 2^-53. -/
def Nr (x y z : Nat) : Prop := ∃ t, x ≤ y + t ∧ y ≤ x + t ∧ t * 281474976710656 ≤ z
theorem nr_cancel {x y z c : Nat} (hc : 0 < c) (h : Nr (x * c) (y * c) (z * c)) : Nr x y z := by
  obtain ⟨t, h1, h2, h3⟩ := h
  have key : ∀ u, u * c ≤ t → u * 281474976710656 ≤ z := fun u hu => by
    refine Nat.le_of_mul_le_mul_right (c := c) ?_ hc
    have g := Nat.mul_le_mul_right 281474976710656 hu
    rw [Nat.mul_right_comm]
    exact Nat.le_trans g h3
  rcases Nat.le_total x y with h | h
  · exact ⟨y - x, by omega, by omega, key _ (by rw [Nat.sub_mul]; omega)⟩
  · exact ⟨x - y, by omega, by omega, key _ (by rw [Nat.sub_mul]; omega)⟩
section law
variable {A B R C S P t1 t2 : Nat} (hP : UU * 2 ^ 200 ≤ P) (hR : 0 < R) (hc : Cl 14 (R * R) (A * A + B * B))
  (c1 : C * R ≤ A * P + t1) (c2 : A * P ≤ C * R + t1) (c3 : t1 * UU ≤ 4 * (A * P) + UU * R)
  (s1 : S * R ≤ B * P + t2) (s2 : B * P ≤ S * R + t2) (s3 : t2 * UU ≤ 4 * (B * P) + UU * R)
include hc in
theorem law_ab : A ≤ 2 * R ∧ B ≤ 2 * R ∧ A * A + B * B ≤ 2 * (R * R) := by
  obtain ⟨_, h⟩ := hc.two (by decide)
  exact ⟨sq_le2 (by omega), sq_le2 (by omega), h⟩
include hP in
theorem law_p : UU * 64 ≤ P := Nat.le_trans (Nat.mul_le_mul_left _ (by decide)) hP
include hP hR hc c1 c2 c3 s1 s2 s3
theorem law_lead : Nr (A * C + B * S) (R * P) (R * P) := by
  obtain ⟨hA, hB, hV⟩ := law_ab hc
  have hp := law_p hP
  clear hP
  obtain ⟨t3, v1, v2, v3⟩ := hc
  refine nr_cancel hR ⟨t1 * A + t2 * B + t3 * P, ?_, ?_, ?_⟩
  · have g1 := Nat.mul_le_mul_right A c1
    have g2 := Nat.mul_le_mul_right B s1
    have g3 := Nat.mul_le_mul_right P v2
    have e1 : (A * C + B * S) * R = C * R * A + S * R * B := by grind
    have e2 : (A * P + t1) * A = A * A * P + t1 * A := by grind
    have e3 : (B * P + t2) * B = B * B * P + t2 * B := by grind
    have e4 : (A * A + B * B) * P = A * A * P + B * B * P := Nat.add_mul ..
    have e5 : (R * R + t3) * P = R * P * R + t3 * P := by grind
    omega
  · have g1 := Nat.mul_le_mul_right A c2
    have g2 := Nat.mul_le_mul_right B s2
    have g3 := Nat.mul_le_mul_right P v1
    have e1 : (A * C + B * S) * R = C * R * A + S * R * B := by grind
    have e2 : (C * R + t1) * A = C * R * A + t1 * A := by grind
    have e3 : (S * R + t2) * B = S * R * B + t2 * B := by grind
    have e4 : (A * A + B * B + t3) * P = A * P * A + B * P * B + t3 * P := by grind
    have e5 : R * R * P = R * P * R := Nat.mul_right_comm ..
    omega
  · have g1 := Nat.mul_le_mul_right A c3
    have g2 := Nat.mul_le_mul_right B s3
    have g3 := Nat.mul_le_mul_right P v3
    have g4 := Nat.mul_le_mul_left R hA
    have g5 := Nat.mul_le_mul_left R hB
    have g6 := Nat.mul_le_mul_right (R * R) hp
    have g7 := Nat.mul_le_mul_right P v2
    have g8 := Nat.mul_le_mul_right P hV
    have e0 : (t1 * A + t2 * B + t3 * P) * UU = t1 * UU * A + t2 * UU * B + t3 * UU * P := by grind
    have e1 : (4 * (A * P) + UU * R) * A = 4 * (A * A * P) + UU * (R * A) := by grind
    have e2 : (4 * (B * P) + UU * R) * B = 4 * (B * B * P) + UU * (R * B) := by grind
    have e3 : 14 * (A * A + B * B) * P = 14 * (A * A * P) + 14 * (B * B * P) := by grind
    have e4 : UU * 64 * (R * R) = 64 * (UU * (R * R)) := by grind
    have e5 : P * (R * R) = R * P * R := by grind
    have e6 : (A * A + B * B) * P = A * A * P + B * B * P := Nat.add_mul ..
    have e7 : (R * R + t3) * P = R * P * R + t3 * P := by grind
    have e8 : UU * (R * A) ≤ UU * (R * (2 * R)) := Nat.mul_le_mul_left _ g4
    have e9 : UU * (R * B) ≤ UU * (R * (2 * R)) := Nat.mul_le_mul_left _ g5
    have e10 : UU * (R * (2 * R)) = 2 * (UU * (R * R)) := by grind
    have e11 : 2 * (R * R) * P = 2 * (R * P * R) := by grind
    -- t3 P is little
    have f1 : t3 * P * 64 ≤ R * P * R := by
      refine Nat.le_of_mul_le_mul_right (c := UU) ?_ uu_pos
      have f0 : t3 * UU * P ≤ 28 * (R * P * R) := by omega
      have f2 : t3 * P * 64 * UU = 64 * (t3 * UU * P) := by grind
      have f3 : R * P * R * 1792 ≤ R * P * R * UU := Nat.mul_le_mul_left _ (by decide)
      have f4 := Nat.mul_le_mul_left 64 f0
      have f5 : 64 * (28 * (R * P * R)) = R * P * R * 1792 := by rw [← Nat.mul_assoc, show 64 * 28 = 1792 by decide, Nat.mul_comm]
      rw [f2]
      exact Nat.le_trans f4 (Nat.le_trans (Nat.le_of_eq f5) f3)
    have fin : (t1 * A + t2 * B + t3 * P) * UU ≤ 32 * (R * P * R) := by omega
    have u1 : (t1 * A + t2 * B + t3 * P) * UU = 32 * ((t1 * A + t2 * B + t3 * P) * 281474976710656) := by
      rw [show UU = 281474976710656 * 32 by decide, ← Nat.mul_assoc, Nat.mul_comm 32]
    rw [u1] at fin
    exact Nat.le_of_mul_le_mul_left fin (by decide)
theorem law_none : Nr (C * B) (S * A) (R * P) := by
  obtain ⟨hA, hB, hV⟩ := law_ab hc
  have hp := law_p hP
  clear hP
  refine nr_cancel hR ⟨t1 * B + t2 * A, ?_, ?_, ?_⟩
  · have g1 := Nat.mul_le_mul_right B c1
    have g2 := Nat.mul_le_mul_right A s2
    have e1 : C * B * R = C * R * B := Nat.mul_right_comm ..
    have e2 : S * A * R = S * R * A := Nat.mul_right_comm ..
    have e3 : (A * P + t1) * B = B * P * A + t1 * B := by grind
    have e4 : (S * R + t2) * A = S * R * A + t2 * A := Nat.add_mul ..
    omega
  · have g1 := Nat.mul_le_mul_right B c2
    have g2 := Nat.mul_le_mul_right A s1
    have e1 : C * B * R = C * R * B := Nat.mul_right_comm ..
    have e2 : S * A * R = S * R * A := Nat.mul_right_comm ..
    have e3 : (B * P + t2) * A = A * P * B + t2 * A := by grind
    have e4 : (C * R + t1) * B = C * R * B + t1 * B := Nat.add_mul ..
    omega
  · have g1 := Nat.mul_le_mul_right B c3
    have g2 := Nat.mul_le_mul_right A s3
    have g4 := Nat.mul_le_mul_left R hA
    have g5 := Nat.mul_le_mul_left R hB
    have g6 := Nat.mul_le_mul_right (R * R) hp
    have g8 := Nat.mul_le_mul_right P hV
    have ab : A * B ≤ A * A + B * B := by
      rcases Nat.le_total A B with h | h
      · have := Nat.mul_le_mul_right B h; omega
      · have := Nat.mul_le_mul_left A h; omega
    have g9 := Nat.mul_le_mul_right P ab
    have e0 : (t1 * B + t2 * A) * UU = t1 * UU * B + t2 * UU * A := by grind
    have e1 : (4 * (A * P) + UU * R) * B = 4 * (A * B * P) + UU * (R * B) := by grind
    have e2 : (4 * (B * P) + UU * R) * A = 4 * (A * B * P) + UU * (R * A) := by grind
    have e4 : UU * 64 * (R * R) = 64 * (UU * (R * R)) := by grind
    have e5 : P * (R * R) = R * P * R := by grind
    have e8 : UU * (R * A) ≤ UU * (R * (2 * R)) := Nat.mul_le_mul_left _ g4
    have e9 : UU * (R * B) ≤ UU * (R * (2 * R)) := Nat.mul_le_mul_left _ g5
    have e10 : UU * (R * (2 * R)) = 2 * (UU * (R * R)) := by grind
    have e11 : 2 * (R * R) * P = 2 * (R * P * R) := by grind
    have fin : (t1 * B + t2 * A) * UU ≤ 32 * (R * P * R) := by omega
    have u1 : (t1 * B + t2 * A) * UU = 32 * ((t1 * B + t2 * A) * 281474976710656) := by
      rw [show UU = 281474976710656 * 32 by decide, ← Nat.mul_assoc, Nat.mul_comm 32]
    rw [u1] at fin
    exact Nat.le_of_mul_le_mul_left fin (by decide)
omit hR hc s1 s2 s3 c1 c2 in
theorem law_sq (hA : A ≤ 2 * R) : (2 * (A * P) * t1 + 3 * (t1 * t1)) * UU ≤ 8 * (A * P * (A * P)) + R * R * (P * P) := by
  have hp := law_p hP
  clear hP
  have a1 : A * P ≤ 2 * (R * P) := by
    have := Nat.mul_le_mul_right P hA
    rw [Nat.mul_assoc] at this; exact this
  have a2 : UU * R * 64 ≤ R * P := by
    have := Nat.mul_le_mul_left R hp
    have e : R * (UU * 64) = UU * R * 64 := by grind
    omega
  have a3 : t1 * UU ≤ 9 * (R * P) := by omega
  have a4 := Nat.mul_le_mul a3 a3
  have e1 : t1 * UU * (t1 * UU) = t1 * t1 * UU * UU := by grind
  have e2 : 9 * (R * P) * (9 * (R * P)) = 81 * (R * R * (P * P)) := by grind
  have a50 : t1 * t1 * UU * 486 ≤ t1 * t1 * UU * UU := Nat.mul_le_mul_left _ (by decide)
  have a51 : t1 * t1 * UU * 486 = 81 * (t1 * t1 * UU * 6) := by grind
  rw [e1, e2] at a4
  rw [a51] at a50
  have a5 : t1 * t1 * UU * 6 ≤ R * R * (P * P) := Nat.le_of_mul_le_mul_left (Nat.le_trans a50 a4) (by decide)
  clear a50 a51 a4 e1 e2
  have a6 := Nat.mul_le_mul_left (2 * (A * P)) c3
  have e3 : 2 * (A * P) * (4 * (A * P) + UU * R) = 8 * (A * P * (A * P)) + 2 * (A * P * (UU * R)) := by grind
  have a7 : A * P * (UU * R) ≤ 2 * (R * P) * (UU * R) := Nat.mul_le_mul_right _ a1
  have a8 : R * P * (UU * R * 64) ≤ R * P * (R * P) := Nat.mul_le_mul_left _ a2
  have e4 : R * P * (UU * R * 64) = 64 * (R * P * (UU * R)) := by grind
  have e5 : R * P * (R * P) = R * R * (P * P) := mul4 ..
  have e6 : 2 * (R * P) * (UU * R) = 2 * (R * P * (UU * R)) := Nat.mul_assoc ..
  have e7 : (2 * (A * P) * t1 + 3 * (t1 * t1)) * UU = 2 * (A * P) * (t1 * UU) + 3 * (t1 * t1 * UU) := by grind
  omega
omit hP hR hc c3 s1 s2 s3 in
theorem law_sqd : C * R * (C * R) ≤ A * P * (A * P) + (2 * (A * P) * t1 + 3 * (t1 * t1)) ∧ A * P * (A * P) ≤ C * R * (C * R) + (2 * (A * P) * t1 + 3 * (t1 * t1)) := by
  constructor
  · have g := Nat.mul_le_mul c1 c1
    have e : (A * P + t1) * (A * P + t1) = A * P * (A * P) + 2 * (A * P) * t1 + t1 * t1 := by grind
    omega
  · have g := Nat.mul_le_mul c2 c2
    have e : (C * R + t1) * (C * R + t1) = C * R * (C * R) + 2 * (C * R * t1) + t1 * t1 := by grind
    have g2 := Nat.mul_le_mul_right t1 c1
    have e2 : (A * P + t1) * t1 = A * P * t1 + t1 * t1 := Nat.add_mul ..
    have e3 : 2 * (A * P) * t1 = 2 * (A * P * t1) := Nat.mul_assoc ..
    omega
theorem law_one : Nr (C * C + S * S) (P * P) (P * P) := by
  obtain ⟨hA, hB, hV⟩ := law_ab hc
  have x1 := law_sq hP c3 hA
  have x2 := law_sq hP s3 hB
  obtain ⟨x3, x4⟩ := law_sqd c1 c2
  obtain ⟨x5, x6⟩ := law_sqd s1 s2
  obtain ⟨t3, v1, v2, v3⟩ := hc
  generalize 2 * (A * P) * t1 + 3 * (t1 * t1) = w1 at *
  generalize 2 * (B * P) * t2 + 3 * (t2 * t2) = w2 at *
  have eA : A * P * (A * P) = A * A * (P * P) := mul4 ..
  have eB : B * P * (B * P) = B * B * (P * P) := mul4 ..
  have eC : C * R * (C * R) = C * C * (R * R) := mul4 ..
  have eS : S * R * (S * R) = S * S * (R * R) := mul4 ..
  rw [eA] at x1 x3 x4
  rw [eB] at x2 x5 x6
  rw [eC] at x3 x4
  rw [eS] at x5 x6
  clear hP
  have g1 := Nat.mul_le_mul_right (P * P) v1
  have g2 := Nat.mul_le_mul_right (P * P) v2
  have g3 := Nat.mul_le_mul_right (P * P) v3
  have g8 := Nat.mul_le_mul_right (P * P) hV
  have e1 : (A * A + B * B + t3) * (P * P) = A * A * (P * P) + B * B * (P * P) + t3 * (P * P) := by rw [Nat.add_mul, Nat.add_mul]
  have e2 : (R * R + t3) * (P * P) = R * R * (P * P) + t3 * (P * P) := Nat.add_mul ..
  have e3 : (A * A + B * B) * (P * P) = A * A * (P * P) + B * B * (P * P) := Nat.add_mul ..
  have e4 : t3 * UU * (P * P) = t3 * (P * P) * UU := Nat.mul_right_comm ..
  have e5 : 14 * (A * A + B * B) * (P * P) = 14 * (A * A * (P * P) + B * B * (P * P)) := by grind
  have e6 : 2 * (R * R) * (P * P) = 2 * (R * R * (P * P)) := Nat.mul_assoc ..
  have e7 : (C * C + S * S) * (R * R) = C * C * (R * R) + S * S * (R * R) := Nat.add_mul ..
  have e8 : P * P * (R * R) = R * R * (P * P) := Nat.mul_comm ..
  refine nr_cancel (Nat.mul_pos hR hR) ⟨w1 + w2 + t3 * (P * P), by omega, by omega, ?_⟩
  have f1 : t3 * (P * P) * 64 ≤ R * R * (P * P) := by
    refine Nat.le_of_mul_le_mul_right (c := UU) ?_ uu_pos
    have f0 : t3 * (P * P) * UU ≤ 28 * (R * R * (P * P)) := by omega
    have f2 : t3 * (P * P) * 64 * UU = 64 * (t3 * (P * P) * UU) := by grind
    have f3 : R * R * (P * P) * 1792 ≤ R * R * (P * P) * UU := Nat.mul_le_mul_left _ (by decide)
    have f4 := Nat.mul_le_mul_left 64 f0
    have f5 : 64 * (28 * (R * R * (P * P))) = R * R * (P * P) * 1792 := by rw [← Nat.mul_assoc, show 64 * 28 = 1792 by decide, Nat.mul_comm]
    rw [f2]
    exact Nat.le_trans f4 (Nat.le_trans (Nat.le_of_eq f5) f3)
  have e9 : (w1 + w2 + t3 * (P * P)) * UU = w1 * UU + w2 * UU + t3 * (P * P) * UU := by rw [Nat.add_mul, Nat.add_mul]
  have fin : (w1 + w2 + t3 * (P * P)) * UU ≤ 32 * (R * R * (P * P)) := by omega
  have u1 : (w1 + w2 + t3 * (P * P)) * UU = 32 * ((w1 + w2 + t3 * (P * P)) * 281474976710656) := by
    rw [show UU = 281474976710656 * 32 by decide, ← Nat.mul_assoc, Nat.mul_comm 32]
  rw [u1] at fin
  rw [e8]
  exact Nat.le_of_mul_le_mul_left fin (by decide)
end law
end Go.Bn
