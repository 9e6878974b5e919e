/-
 Rounded numbers as fractions: sums, products, quotients, dot products, powers of two.
-/
import Derived.Test.YtllkellonjhalaaGreatOoLnr
import Derived.Test.YtllkellonjhalaaGreatOoSam
import Derived.Test.YtllkellonjhalaaGreatOoVet
set_option linter.unusedVariables false
set_option linter.unusedSimpArgs false
namespace Go.Bn
open Go
theorem quotient_not {n : Nat} {a b : Ieee.Datum} (h : (∃ s, a = .infinity s) ∨ a.isNaN = true) : ¬ rung (fop ((a.quotient n b).map Ieee.double.write)) < 9218868437227405312 := by
 rcases h with ⟨s, rfl⟩ | h
 ·cases b with
  | nan => exact nan_not
  | infinity t => exact nan_not
  | number t m e => exact inf_not _
 ·cases a with
  | nan => cases b <;> exact nan_not
  | infinity t => cases h
  | number t m e => cases h
theorem fdiv_devF {x y : Nat} (hx : rung x < 9218868437227405312) (hy : rung y < 9218868437227405312) (hm : mgn x ≠ 0) (hn : mgn y ≠ 0) (hf : rung (fdiv x y) < 9218868437227405312) :
  sgn (fdiv x y) = (sgn x ^^ sgn y) ∧ ∃ t, vlu (fdiv x y) * vlu y ≤ vlu x * PZ + t ∧ vlu x * PZ ≤ vlu (fdiv x y) * vlu y + t ∧ t * UU ≤ 4 * (vlu x * PZ) + UU * vlu y := by
 have e := fdiv_read hx hy hn
 have hlm := @mgn_log x
 have hln := @mgn_log y
 have hP := pz_pos
 have px := plc_ge x
 have py := plc_ge y
 have px2 := plc_le hx
 have py2 := plc_le hy
 obtain ⟨more, hmore⟩ : ∃ more, more = 54 + (mgn y).log2 - (mgn x).log2 := ⟨_, rfl⟩
 have hq := quo_err hn (quo_big hm hn (by omega))
 rw [← hmore] at e hq
 obtain ⟨Q, hQ⟩ : ∃ Q, Q = 2 * ((mgn x <<< more) / mgn y) + ((mgn x <<< more) % mgn y != 0).toNat := ⟨_, rfl⟩
 obtain ⟨p, hp⟩ : ∃ p, p = plc x - plc y - (more : Int) - 1 := ⟨_, rfl⟩
 rw [← hQ] at hq
 rw [← hQ, ← hp] at e
 obtain ⟨N, hN⟩ : ∃ N, N = 3 * NZ := ⟨_, rfl⟩
 have hN2 : N = 3222 := by rw [hN, nz]
 have hpN : -(N : Int) ≤ p := by omega
 have hX : Apx 1 (Q * 2 ^ (p + N).toNat * vlu y) (vlu x * 2 ^ N) := by
  have h1 := hq.scale (2 ^ ((p + N).toNat + (plc y + 1074).toNat))
  rw [Nat.shiftLeft_eq] at h1
  have e1 : Q * mgn y * 2 ^ ((p + N).toNat + (plc y + 1074).toNat) = Q * 2 ^ (p + N).toNat * vlu y := by
   unfold vlu
   rw [Nat.pow_add]
   exact mul4 _ _ _ _
  have e2 : 2 * (mgn x * 2 ^ more) * 2 ^ ((p + N).toNat + (plc y + 1074).toNat) = vlu x * 2 ^ N := by
   unfold vlu
   rw [pow_shift, Nat.mul_assoc (mgn x), ← Nat.pow_add, show more + 1 + ((p + N).toNat + (plc y + 1074).toNat) = (plc x + 1074).toNat + N by omega]
  rw [e1, e2] at h1
  exact h1
 have hY : 0 < vlu y := Nat.mul_pos (by omega) (Nat.two_pow_pos _)
 have hXv : 0 < vlu x := Nat.mul_pos (by omega) (Nat.two_pow_pos _)
 obtain ⟨_, x2⟩ := hX.two
 obtain ⟨x1, _⟩ := hX.two
 have eP : 2 ^ N = PZ * (PZ * PZ) := by
  rw [hN, show 3 * NZ = NZ + (NZ + NZ) by omega, Nat.pow_add, Nat.pow_add, ← pz_def]
 have eP2 : 2 ^ (N - 1074) = PZ * PZ := by
  rw [show N - 1074 = NZ + NZ by rw [hN, nz], Nat.pow_add, ← pz_def]
 have hN0 := Nat.two_pow_pos N
 have hs : sgn (fdiv x y) = (sgn x ^^ sgn y) := by rw [e]; exact nearest_sgn
 refine ⟨hs, ?_⟩
 have hQ0 : Q ≠ 0 := by
  intro h0
  rw [h0, Nat.zero_mul, Nat.zero_mul] at x2
  have := Nat.mul_pos hXv hN0
  omega
 rw [e] at hf ⊢
 obtain ⟨E, c1, c2, c3⟩ := nearest_err hQ0 (by omega) hpN hf
 generalize vlu (Ieee.double.nearest (sgn x ^^ sgn y) Q p) = S at *
 have hcl := cl_apx1 hX
 rw [eP] at hcl
 rw [eP2] at c1 c2 c3
 generalize Q * 2 ^ (p + N).toNat = Z at *
 generalize vlu x = X at *
 generalize vlu y = Y at *
 have hT : 0 < PZ * PZ := Nat.mul_pos hP hP
 rw [← Nat.mul_assoc] at hcl
 generalize PZ * PZ = T at *
 generalize X * PZ = XP at *
 have d1 : S * T * Y ≤ (Z + E) * Y := Nat.mul_le_mul_right _ c1
 have d2 : Z * Y ≤ (S * T + E) * Y := Nat.mul_le_mul_right _ c2
 have d3 : E * Y * UU ≤ Z * Y + UU * (T * Y) := by
  have g : E * UU ≤ Z + UU * T := by
   rcases c3 with c | c
   ·exact Nat.le_trans c (Nat.le_add_right _ _)
   ·have := Nat.mul_le_mul_left UU c
    have e6 : UU * (2 * E) = 2 * (E * UU) := by rw [Nat.mul_comm UU, Nat.mul_assoc]
    omega
  have g2 := Nat.mul_le_mul_right Y g
  have e6 : E * UU * Y = E * Y * UU := Nat.mul_right_comm _ _ _
  have e7 : (Z + UU * T) * Y = Z * Y + UU * (T * Y) := by rw [Nat.add_mul, Nat.mul_assoc UU]
  omega
 rw [Nat.add_mul, Nat.mul_right_comm S] at d1 d2
 obtain ⟨w, w1, w2, w3⟩ := hcl
 generalize hSY : S * Y = SY at *
 clear c1 c2 c3 x1 x2 hX e eP eP2 hN0 hN2 hq hpN hlm hln px py px2 py2
 obtain ⟨v, v1, v2, v3⟩ : ∃ v, SY ≤ XP + v ∧ XP ≤ SY + v ∧ v * T ≤ E * Y + w := by
  rcases Nat.le_total SY XP with h | h
  ·refine ⟨XP - SY, by omega, by omega, ?_⟩
   rw [Nat.sub_mul]; omega
  ·refine ⟨SY - XP, by omega, by omega, ?_⟩
   rw [Nat.sub_mul]; omega
 refine ⟨v, v1, v2, Nat.le_of_mul_le_mul_right (c := T) ?_ hT⟩
 have v4 := Nat.mul_le_mul_right UU v3
 rw [Nat.add_mul] at v4
 have e1 : v * UU * T = v * T * UU := Nat.mul_right_comm _ _ _
 have e2 : (4 * XP + UU * Y) * T = 4 * (XP * T) + UU * (T * Y) := by rw [Nat.add_mul, Nat.mul_assoc 4, Nat.mul_assoc UU, Nat.mul_comm Y]
 have w4 : w ≤ XP * T := by
  refine Nat.le_of_mul_le_mul_right (c := UU) ?_ uu_pos
  refine Nat.le_trans w3 ?_
  rw [Nat.mul_comm]
  exact Nat.mul_le_mul_left _ (by decide)
 rw [e1, e2]
 omega
theorem fdiv_fin1 {x y : Nat} (h : rung (fdiv x y) < 9218868437227405312) : rung x < 9218868437227405312 := Classical.byContradiction fun hc => quotient_not (read_not hc) h
def ep : Rat := ((PZ : Nat) : Rat)⁻¹
theorem pz_ne : ((PZ : Nat) : Rat) ≠ 0 := by
 have : (PZ : Nat) ≠ 0 := by have := pz_pos; omega
 exact_mod_cast this
theorem ep_pz : ep * ((PZ : Nat) : Rat) = 1 := by
 have := pz_ne
 unfold ep
 generalize ((PZ : Nat) : Rat) = P at *
 grind
theorem ep_nn : 0 ≤ ep := by
 have h := ep_pz
 have hp : (0 : Rat) ≤ ((PZ : Nat) : Rat) := by exact_mod_cast Nat.zero_le _
 rcases Rat.le_total (a := 0) (b := ep) with g | g
 ·exact g
 ·have := r_mul (a := -ep) (by grind) hp
  grind
def rv (x : Nat) : Rat := ((sval x : Int) : Rat) * ep
def rl (xs : List Nat) : Rvc := fun k => rv (xs.getD k 0)
theorem nat_nn (n : Nat) : (0 : Rat) ≤ (n : Rat) := by exact_mod_cast Nat.zero_le n
theorem abs_up (d : Int) : Bd ((d : Int) : Rat) ((d.natAbs : Nat) : Rat) := by
 have e : ((d.natAbs : Nat) : Rat) = ((d.natAbs : Int) : Rat) := by push_cast; rfl
 rw [e]
 have h1 : -(d.natAbs : Int) ≤ d := by omega
 have h2 : d ≤ (d.natAbs : Int) := by omega
 refine ⟨?_, ?_⟩
 ·have : ((-(d.natAbs : Int) : Int) : Rat) ≤ ((d : Int) : Rat) := by exact_mod_cast h1
  rw [show ((-(d.natAbs : Int) : Int) : Rat) = -((d.natAbs : Int) : Rat) by push_cast; rfl] at this
  exact this
 ·exact_mod_cast h2
theorem abs_dn {z : Int} {q C : Rat} (hq : 0 ≤ q) (h : Bd (((z : Int) : Rat) * q) C) : ((z.natAbs : Nat) : Rat) * q ≤ C := by
 obtain ⟨h1, h2⟩ := h
 rcases Int.le_total 0 z with g | g
 ·have e : ((z.natAbs : Nat) : Rat) = ((z : Int) : Rat) := by
   have : ((z.natAbs : Nat) : Int) = z := by omega
   have e2 : ((z.natAbs : Nat) : Rat) = (((z.natAbs : Nat) : Int) : Rat) := by push_cast; rfl
   rw [e2, this]
  rw [e]; exact h2
 ·have e : ((z.natAbs : Nat) : Rat) = -((z : Int) : Rat) := by
   have : ((z.natAbs : Nat) : Int) = -z := by omega
   have e2 : ((z.natAbs : Nat) : Rat) = (((z.natAbs : Nat) : Int) : Rat) := by push_cast; rfl
   rw [e2, this]; push_cast; rfl
  rw [e]; grind
theorem uu_UU : uu * ((UU : Nat) : Rat) = 1 := by
 have : ((UU : Nat) : Rat) = 9007199254740992 := rfl
 rw [this]; unfold uu; grind
theorem rd_gen {z d : Int} {k E : Nat} {C q : Rat} (hk : d.natAbs * UU ≤ k * z.natAbs + E) (hq : 0 ≤ q) (hC : Bd (((z : Int) : Rat) * q) C) : Bd (((d : Int) : Rat) * q) (uu * ((k : Rat) * C) + uu * ((E : Rat) * q)) := by
 have h1 : ((d.natAbs : Nat) : Rat) * ((UU : Nat) : Rat) ≤ (k : Rat) * ((z.natAbs : Nat) : Rat) + (E : Rat) := by exact_mod_cast hk
 have h2 := abs_dn hq hC
 have h3 := (abs_up d).mul (bd_self hq)
 refine h3.up ?_
 have h4 := r_mml (r_mul uu_nn hq) h1
 have h5 := r_mml (r_mul uu_nn (nat_nn k)) h2
 have h6 := uu_UU
 generalize ((UU : Nat) : Rat) = U at *
 have e : uu * q * (((d.natAbs : Nat) : Rat) * U) = ((d.natAbs : Nat) : Rat) * q := by
  have : uu * q * (((d.natAbs : Nat) : Rat) * U) = (uu * U) * (((d.natAbs : Nat) : Rat) * q) := by grind
  rw [this, h6]; grind
 rw [e] at h4
 grind
theorem rv_0 {x : Nat} (h : sval x = 0) : rv x = 0 := by unfold rv; rw [h]; show (0 : Rat) * ep = 0; grind
theorem rd_add {x y : Nat} (hf : rung (fadd x y) < 9218868437227405312) : Rd (rv x + rv y) (rv (fadd x y) - (rv x + rv y)) 0 := fun C hC => by
 obtain ⟨hx, hy⟩ := fadd_fin2 hf
 have h := fadd_err hx hy hf
 have h2 := rd_gen (k := 1) (E := 0) (q := ep) (C := C) (d := sval (fadd x y) - (sval x + sval y)) (z := sval x + sval y) (by omega) ep_nn (hC.eq (by unfold rv; push_cast; grind))
 refine (h2.up ?_).eq (by unfold rv; push_cast; grind)
 push_cast
 grind
theorem rd_mul {x y : Nat} (hf : rung (fmul x y) < 9218868437227405312) : Rd (rv x * rv y) (rv (fmul x y) - rv x * rv y) ep := fun C hC => by
 have h := mul_dev hf
 have en := ep_nn
 have h2 := rd_gen (k := 2) (E := UU * PZ) (q := ep * ep) (C := C) (d := 2 * (sval (fmul x y) * (PZ : Nat) - sval x * sval y)) (z := sval x * sval y) (by
  rw [Int.natAbs_mul]
  show 2 * _ * UU ≤ _
  generalize (sval (fmul x y) * (PZ : Nat) - sval x * sval y).natAbs = a at *
  have : 2 * UU * a = 2 * a * UU := by rw [Nat.mul_right_comm]
  omega) (r_mul en en) (hC.eq (by unfold rv; push_cast; grind))
 have e1 : (((UU * PZ : Nat) : Nat) : Rat) * (ep * ep) = ((UU : Nat) : Rat) * ep := by
  push_cast
  have := ep_pz
  generalize ((PZ : Nat) : Rat) = P at *
  have : ((UU : Nat) : Rat) * P * (ep * ep) = ((UU : Nat) : Rat) * ep * (ep * P) := by grind
  grind
 rw [e1] at h2
 have e2 : uu * (((UU : Nat) : Rat) * ep) = ep := by
  have h6 := uu_UU
  generalize ((UU : Nat) : Rat) = U at *
  have : uu * (U * ep) = (uu * U) * ep := by grind
  rw [this, h6]; grind
 rw [e2] at h2
 have e3 : (((2 * (sval (fmul x y) * (PZ : Nat) - sval x * sval y) : Int) : Int) : Rat) * (ep * ep) = 2 * (rv (fmul x y) - rv x * rv y) := by
  unfold rv
  push_cast
  have := ep_pz
  generalize ((PZ : Nat) : Rat) = P at *
  have : 2 * (((sval (fmul x y) : Int) : Rat) * P - ((sval x : Int) : Rat) * ((sval y : Int) : Rat)) * (ep * ep) = 2 * (((sval (fmul x y) : Int) : Rat) * ep * (ep * P) - ((sval x : Int) : Rat) * ep * (((sval y : Int) : Rat) * ep)) := by grind
  grind
 rw [e3] at h2
 obtain ⟨a1, a2⟩ := h2
 have e4 : ((2 : Nat) : Rat) = 2 := rfl
 rw [e4] at a1 a2
 exact ⟨by grind, by grind⟩
theorem quo_abs {s : Bool} {S Y X P t : Nat} (h1 : S * Y ≤ X * P + t) (h2 : X * P ≤ S * Y + t) : ((if s = true then -(S : Int) else (S : Int)) * (Y : Int) - (if s = true then -(X : Int) else (X : Int)) * (P : Int)).natAbs ≤ t := by
 cases s
 ·simp only [Bool.false_eq_true, if_false]
  rw [← Int.natCast_mul, ← Int.natCast_mul]
  omega
 ·simp only [if_true]
  rw [Int.neg_mul, Int.neg_mul, ← Int.natCast_mul, ← Int.natCast_mul]
  omega
theorem rd_div {x y : Nat} {C : Rat} (hy : rung y < 9218868437227405312) (sy : sgn y = false) (hn : mgn y ≠ 0) (hf : rung (fdiv x y) < 9218868437227405312) (hC : Bd (rv x) C) : Bd (rv (fdiv x y) * rv y - rv x) (4 * uu * C + rv y * ep) := by
 have hx := fdiv_fin1 hf
 have en := ep_nn
 have hyn : 0 ≤ rv y := by
  unfold rv
  rw [sval_pos' sy]
  exact r_mul (by exact_mod_cast nat_nn (vlu y)) en
 by_cases hm : mgn x = 0
 ·have h0 : sval x = 0 := by
   have : vlu x = 0 := by unfold vlu; rw [hm, Nat.zero_mul]
   have := sval_abs x
   omega
  have h1 := (fdiv_nil hx hy h0 hn).2
  rw [rv_0 h0, rv_0 h1]
  refine (bd_zero (c := 4 * uu * C + rv y * ep) ?_).eq (by grind)
  have := r_mul uu_nn hC.nn
  have := r_mul hyn en
  grind
 ·obtain ⟨s1, t, t1, t2, t3⟩ := fdiv_devF hx hy hm hn hf
  have hd : (sval (fdiv x y) * sval y - sval x * (PZ : Nat)).natAbs ≤ t := by
   rw [sval_pos' sy]
   unfold sval
   rw [s1, sy, Bool.xor_false]
   exact quo_abs t1 t2
  have h2 := rd_gen (k := 4) (E := UU * vlu y) (q := ep * ep) (C := C) (d := sval (fdiv x y) * sval y - sval x * (PZ : Nat)) (z := sval x * (PZ : Nat)) (by
   rw [Int.natAbs_mul (sval x), sval_abs, Int.natAbs_natCast]
   exact Nat.le_trans (Nat.mul_le_mul_right UU hd) t3) (r_mul en en) (hC.eq (by
    unfold rv
    push_cast
    have := ep_pz
    generalize ((PZ : Nat) : Rat) = P at *
    have : ((sval x : Int) : Rat) * P * (ep * ep) = ((sval x : Int) : Rat) * ep * (ep * P) := by grind
    grind))
  have e1 : uu * ((((UU * vlu y : Nat) : Nat) : Rat) * (ep * ep)) = rv y * ep := by
   unfold rv
   rw [sval_pos' sy]
   push_cast
   have h6 := uu_UU
   generalize ((UU : Nat) : Rat) = U at *
   have : uu * (U * ((vlu y : Nat) : Rat) * (ep * ep)) = (uu * U) * (((vlu y : Nat) : Rat) * ep * ep) := by grind
   rw [this, h6]
   grind
  rw [e1] at h2
  have e4 : ((4 : Nat) : Rat) = 4 := rfl
  rw [e4] at h2
  refine (h2.up (by grind)).eq ?_
  unfold rv
  push_cast
  have := ep_pz
  generalize ((PZ : Nat) : Rat) = P at *
  have : ((((sval (fdiv x y) : Int) : Rat)) * ((sval y : Int) : Rat) - ((sval x : Int) : Rat) * P) * (ep * ep) = ((sval (fdiv x y) : Int) : Rat) * ep * (((sval y : Int) : Rat) * ep) - ((sval x : Int) : Rat) * ep * (ep * P) := by grind
  grind
theorem rv_sum (xs ys : List Nat) : ∀ n, ((sumV xs ys n : Int) : Rat) * (ep * ep) = dt (rl xs) (rl ys) n
 | 0 => by show (0 : Rat) * _ = 0; grind
 | n + 1 => by
  rw [dt, ← rv_sum xs ys n]
  show (((sumV xs ys n + sval (xs.getD n 0) * sval (ys.getD n 0) : Int) : Int) : Rat) * _ = _
  unfold rl rv
  push_cast
  grind
theorem ra_abs (z : Int) {q : Rat} (hq : 0 ≤ q) : ((z.natAbs : Nat) : Rat) * q = ra (((z : Int) : Rat) * q) := by
 have h1 := abs_dn hq (ra_bd (((z : Int) : Rat) * q))
 have h2 := ((abs_up z).mul (bd_self hq)).ra
 grind
theorem ra_mul (a b : Rat) : ra a * ra b = ra (a * b) := by
 have h1 := ((ra_bd a).mul (ra_bd b)).ra
 have h2 := ra_nn (a * b)
 have h3 := ra_bd (a * b)
 have e : (ra a * ra b) * (ra a * ra b) = ra (a * b) * ra (a * b) := by
  have e1 : (ra a * ra b) * (ra a * ra b) = (ra a * ra a) * (ra b * ra b) := by grind
  rw [e1, ra_sq, ra_sq, ra_sq]
  grind
 have h4 := (bd_sq (x := ra a * ra b) h2 (by rw [e]; exact Rat.le_refl)).2
 grind
theorem rv_amt (xs ys : List Nat) : ∀ n, ((amtV xs ys n : Nat) : Rat) * (ep * ep) = dt (fun k => ra (rl xs k)) (fun k => ra (rl ys k)) n
 | 0 => by show (0 : Rat) * _ = 0; grind
 | n + 1 => by
  rw [dt, ← rv_amt xs ys n, ra_mul]
  show (((amtV xs ys n + (sval (xs.getD n 0) * sval (ys.getD n 0)).natAbs : Nat) : Nat) : Rat) * _ = _
  have h := ra_abs (sval (xs.getD n 0) * sval (ys.getD n 0)) (r_mul ep_nn ep_nn)
  have e : ((sval (xs.getD n 0) * sval (ys.getD n 0) : Int) : Rat) * (ep * ep) = rl xs n * rl ys n := by unfold rl rv; push_cast; grind
  rw [e] at h
  rw [← h]
  push_cast
  grind
theorem rd_dot {xs ys : List Nat} {n : Nat} {N M : Rat} (hn : n ≤ 48) (hf : rung (dotTo xs ys n) < 9218868437227405312) (h : Nb (rl xs) n N) (g : Nb (rl ys) n M) : Bd (rv (dotTo xs ys n) - dt (rl xs) (rl ys) n) (49 * uu * (N * M) + 48 * ep) := by
 have h1 := near_leN (n := n) (fun k => fop_lt (op := .mul)) hn hf
 unfold dev at h1
 have en := ep_nn
 have hd := (abs_up (sval (dotTo xs ys n) * (PZ : Nat) - sumV xs ys n)).mul (bd_self (r_mul en en))
 have e : (((sval (dotTo xs ys n) * (PZ : Nat) - sumV xs ys n : Int) : Int) : Rat) * (ep * ep) = rv (dotTo xs ys n) - dt (rl xs) (rl ys) n := by
  rw [← rv_sum]
  unfold rv
  push_cast
  have := ep_pz
  generalize ((PZ : Nat) : Rat) = P at *
  have : ((((sval (dotTo xs ys n) : Int) : Rat)) * P - ((sumV xs ys n : Int) : Rat)) * (ep * ep) = ((sval (dotTo xs ys n) : Int) : Rat) * ep * (ep * P) - ((sumV xs ys n : Int) : Rat) * (ep * ep) := by grind
  grind
 rw [e] at hd
 refine hd.up ?_
 have h2 : ((((sval (dotTo xs ys n) * (PZ : Nat) - sumV xs ys n).natAbs : Nat)) : Rat) * ((UU : Nat) : Rat) ≤ ((amtV xs ys n : Nat) : Rat) * ((n : Rat) + 1) + (n : Rat) * (((PZ : Nat) : Rat) * ((UU : Nat) : Rat)) := by exact_mod_cast h1
 have h3 := (h.ra.dot g.ra).2
 have ha := rv_amt xs ys n
 have hNM := r_mul h.h0 g.h0
 have hn2 : (n : Rat) ≤ 48 := by exact_mod_cast hn
 have hn0 := nat_nn n
 have h6 := uu_UU
 have h7 := ep_pz
 have hu := uu_nn
 generalize ((UU : Nat) : Rat) = U at *
 generalize ((PZ : Nat) : Rat) = P at *
 generalize ((((sval (dotTo xs ys n) * (PZ : Nat) - sumV xs ys n).natAbs : Nat)) : Rat) = D at *
 have h4 := r_mml (r_mul hu (r_mul en en)) h2
 have e1 : uu * (ep * ep) * (D * U) = D * (ep * ep) := by
  have : uu * (ep * ep) * (D * U) = (uu * U) * (D * (ep * ep)) := by grind
  rw [this, h6]; grind
 have e2 : uu * (ep * ep) * (((amtV xs ys n : Nat) : Rat) * ((n : Rat) + 1) + (n : Rat) * (P * U)) = uu * (((amtV xs ys n : Nat) : Rat) * (ep * ep)) * ((n : Rat) + 1) + (n : Rat) * ep := by
  have : uu * (ep * ep) * (((amtV xs ys n : Nat) : Rat) * ((n : Rat) + 1) + (n : Rat) * (P * U)) = uu * (((amtV xs ys n : Nat) : Rat) * (ep * ep)) * ((n : Rat) + 1) + (n : Rat) * ep * ((ep * P) * (uu * U)) := by grind
  rw [this, h6, h7]; grind
 rw [e1, e2, ha] at h4
 generalize dt (fun k => ra (rl xs k)) (fun k => ra (rl ys k)) n = A at *
 have h5 : uu * A * ((n : Rat) + 1) ≤ uu * (N * M) * 49 := by
  have a1 := r_mml hu h3
  have a2 := r_mm a1 (show (n : Rat) + 1 ≤ 49 by grind) (r_mul hu hNM) (by grind)
  exact a2
 have h8 := r_mm hn2 (Rat.le_refl (a := ep)) (by grind) en
 grind
end Go.Bn
