/-
 A mirror of the program, as fractions: a list mirrored; the mirror's own list.
-/
import Derived.Test.YtllkellonjhalaaGreatOoRtv
set_option linter.unusedVariables false
set_option linter.unusedSimpArgs false
namespace Go.Bn
open Go
theorem opp_not {a : Ieee.Datum} (h : (∃ s, a = .infinity s) ∨ a.isNaN = true) : (∃ s, a.opposite = .infinity s) ∨ a.opposite.isNaN = true := by
 rcases h with ⟨s, rfl⟩ | h
 ·exact .inl ⟨_, rfl⟩
 ·cases a with
  | nan => exact .inr rfl
  | infinity t => cases h
  | number t m e => cases h
theorem fsub_fin2 {x y : Nat} (h : rung (fsub x y) < 9218868437227405312) : rung x < 9218868437227405312 ∧ rung y < 9218868437227405312 := by
 constructor
 ·exact Classical.byContradiction fun hc => (sum_not (b := (Ieee.double.read y).opposite) (read_not hc)).1 h
 ·exact Classical.byContradiction fun hc => (sum_not (b := Ieee.double.read x) (opp_not (read_not hc))).2 h
theorem rv_neg {x : Nat} (hx : x < 2 ^ 64) (fx : rung x < 9218868437227405312) : rv (fneg x) = -rv x := by
 unfold rv
 rw [(fneg_val hx fx).2.2]
 push_cast
 grind
theorem rd_sub {x y : Nat} (hy : y < 2 ^ 64) (hf : rung (fsub x y) < 9218868437227405312) : Rd (rv x - rv y) (rv (fsub x y) - (rv x - rv y)) 0 := fun C hC => by
 obtain ⟨fx, fy⟩ := fsub_fin2 hf
 rw [fsub_add fx hy fy] at hf ⊢
 have h := rd_add hf
 rw [rv_neg hy fy] at h
 exact (h C (hC.eq (by grind))).eq (by grind)
theorem rv_pos {x : Nat} (s : sgn x = false) : rv x = ((vlu x : Nat) : Rat) * ep := by
 unfold rv
 rw [sval_pos' s]
 have : (((vlu x : Nat) : Int) : Rat) = ((vlu x : Nat) : Rat) := by push_cast; rfl
 rw [this]
theorem rv_sg {x : Nat} : rv x = (if sgn x = true then -(((vlu x : Nat) : Rat) * ep) else ((vlu x : Nat) : Rat) * ep) := by
 cases s : sgn x
 ·rw [rv_pos s]; rfl
 ·unfold rv sval
  rw [s]
  simp only [if_true]
  have : ((-((vlu x : Nat) : Int) : Int) : Rat) = -((vlu x : Nat) : Rat) := by push_cast; rfl
  rw [this]
  grind
theorem mir_flt {a v : List Nat} {w : Nat} {c N V : Rat} (hl : v.length = a.length) (h0 : 0 < a.length) (hm : a.length ≤ 48) (hv : LtL v) (fw : rung w < 9218868437227405312) (sw : sgn w = false) (mw : mgn w ≠ 0)
  (hf : ∀ k, k < a.length → rung ((mirG v (mirT v w a) a).getD k 0) < 9218868437227405312) (c0 : 0 ≤ c) (c2 : c ≤ 2) (cw : c * rv w = 1) (hr : Nb (rl a) a.length N) (nv : Nb (rl v) a.length V) (v50 : V ≤ 50) (cV : c * (V * V) ≤ 9 / 2) (hN : 10000 * ep ≤ uu * N) :
  Near (rl v) c a.length (rl a) (rl (mirG v (mirT v w a) a)) N := by
 refine mirF_near (E := ep) (V := V) ⟨hr, nv, hm, ep_nn, hN, c0, c2, v50, cV, ?_⟩
 have hg : ∀ k, k < a.length → (mirG v (mirT v w a) a).getD k 0 = fsub (a.getD k 0) (fmul (mirT v w a) (v.getD k 0)) := fun k hk => getD_mirG hk
 have fk : ∀ k, k < a.length → rung (fsub (a.getD k 0) (fmul (mirT v w a) (v.getD k 0))) < 9218868437227405312 := fun k hk => by rw [← hg k hk]; exact hf k hk
 have ft : rung (mirT v w a) < 9218868437227405312 := (fmul_fin2 (fsub_fin2 (fk 0 h0)).2).1
 have fd := fdiv_fin1 (x := dotTo a v a.length) (y := w) ft
 refine ⟨rv (dotTo a v a.length), rv (mirT v w a), fun k => rv (fmul (mirT v w a) (v.getD k 0)), fun k => rv (fsub (a.getD k 0) (fmul (mirT v w a) (v.getD k 0))) - (rv (a.getD k 0) - rv (fmul (mirT v w a) (v.getD k 0))), rv (mirT v w a) - rv (dotTo a v a.length) * c, ?_, ⟨by grind, fun C hC => ?_⟩, fun k hk => rd_mul (fsub_fin2 (fk k hk)).2, fun k hk => ⟨?_, rd_sub (fop_lt (op := .mul)) (fk k hk)⟩⟩
 ·exact rd_dot hm fd hr nv
 ·have hw : 0 ≤ rv w := by rw [rv_pos sw]; exact r_mul (nat_nn _) ep_nn
  have hC2 : Bd (rv (dotTo a v a.length)) (C * rv w) := (hC.mul (bd_self hw)).eq (by
   have : rv (dotTo a v a.length) * c * rv w = rv (dotTo a v a.length) * (c * rv w) := by grind
   rw [this, cw]; grind)
  have h := (rd_div fw sw mw ft hC2).mul (bd_self c0)
  have e1 : (rv (fdiv (dotTo a v a.length) w) * rv w - rv (dotTo a v a.length)) * c = rv (mirT v w a) - rv (dotTo a v a.length) * c := by
   have : (rv (fdiv (dotTo a v a.length) w) * rv w - rv (dotTo a v a.length)) * c = rv (fdiv (dotTo a v a.length) w) * (c * rv w) - rv (dotTo a v a.length) * c := by grind
   rw [this, cw, Rat.mul_one]
   rfl
  rw [e1] at h
  refine h.up ?_
  have : (4 * uu * (C * rv w) + rv w * ep) * c = (4 * uu * C + ep) * (c * rv w) := by grind
  rw [this, cw]
  grind
 ·show rv ((mirG v (mirT v w a) a).getD k 0) = rv (a.getD k 0) - _ + _
  rw [hg k hk]
  grind
end Go.Bn
namespace Go.Bn
open Go
theorem sgn_ldx {x : Nat} {k : Int} (hx : x < 2 ^ 64) (fx : rung x < 9218868437227405312) (k0 : -9000 ≤ k) (k1 : k ≤ 9000) : sgn (ldx x k) = sgn x := by
 by_cases hm : mgn x = 0
 ·rw [ldx_zero (mgn_zero hm)]
 ·rw [ldx_near hx fx hm k0 k1]; exact nearest_sgn
def sA (K : Int) : Nat := 2 ^ K.toNat
def sB (K : Int) : Nat := 2 ^ (-K).toNat
def sS (K : Int) : Rat := ((sA K : Nat) : Rat) * ((sB K : Nat) : Rat)⁻¹
theorem sB_ne (K : Int) : ((sB K : Nat) : Rat) ≠ 0 := by
 have : (sB K : Nat) ≠ 0 := by have := Nat.two_pow_pos (-K).toNat; unfold sB; omega
 exact_mod_cast this
theorem inv_nn {B : Rat} (h0 : 0 ≤ B) (h : B ≠ 0) : 0 ≤ B⁻¹ := by
 rcases Rat.le_total (a := 0) (b := B⁻¹) with g | g
 ·exact g
 ·have := r_mul (a := -B⁻¹) (b := B) (by grind) h0
  have e : B⁻¹ * B = 1 := by grind
  grind
theorem sS_nn (K : Int) : 0 ≤ sS K := r_mul (nat_nn _) (inv_nn (nat_nn _) (sB_ne K))
theorem scl_bd {x y : Nat} {K : Int} (hs : sgn x = sgn y) (h1 : vlu x * sB K ≤ vlu y * sA K + sA K) (h2 : vlu y * sA K ≤ vlu x * sB K + sA K) : Bd (rv x - sS K * rv y) (ep * sS K) := by
 have g1 : ((vlu x : Nat) : Rat) * ((sB K : Nat) : Rat) ≤ ((vlu y : Nat) : Rat) * ((sA K : Nat) : Rat) + ((sA K : Nat) : Rat) := by exact_mod_cast h1
 have g2 : ((vlu y : Nat) : Rat) * ((sA K : Nat) : Rat) ≤ ((vlu x : Nat) : Rat) * ((sB K : Nat) : Rat) + ((sA K : Nat) : Rat) := by exact_mod_cast h2
 have hB := sB_ne K
 have hn := inv_nn (nat_nn (sB K)) hB
 have he := r_mul hn ep_nn
 have k1 := r_mml he g1
 have k2 := r_mml he g2
 have hb : Bd (((vlu x : Nat) : Rat) * ep - sS K * (((vlu y : Nat) : Rat) * ep)) (ep * sS K) := by
  unfold sS
  generalize ((sB K : Nat) : Rat) = B at *
  generalize ((sA K : Nat) : Rat) = A at *
  generalize ((vlu x : Nat) : Rat) = X at *
  generalize ((vlu y : Nat) : Rat) = Y at *
  have e : B⁻¹ * B = 1 := by grind
  generalize B⁻¹ = I at *
  have a1 : I * ep * (X * B) = (I * B) * (X * ep) := by grind
  rw [a1, e] at k1
  have a2 : I * ep * (X * B + A) = (I * B) * (X * ep) + ep * (A * I) := by grind
  rw [a2, e] at k2
  exact ⟨by grind, by grind⟩
 rw [rv_sg (x := x), rv_sg (x := y), hs]
 split
 ·exact hb.neg.eq (by grind)
 ·exact hb
theorem al_bd {b al : Nat} {K : Int} (hs : sgn al = sgn b) (h1 : 2 * (vlu al * sB K) ≤ 2 * (vlu b * sA K) + sB K) (h2 : 2 * (vlu b * sA K) ≤ 2 * (vlu al * sB K) + sB K) : Bd (rv al - sS K * rv b) ep := by
 have g1 : 2 * (((vlu al : Nat) : Rat) * ((sB K : Nat) : Rat)) ≤ 2 * (((vlu b : Nat) : Rat) * ((sA K : Nat) : Rat)) + ((sB K : Nat) : Rat) := by exact_mod_cast h1
 have g2 : 2 * (((vlu b : Nat) : Rat) * ((sA K : Nat) : Rat)) ≤ 2 * (((vlu al : Nat) : Rat) * ((sB K : Nat) : Rat)) + ((sB K : Nat) : Rat) := by exact_mod_cast h2
 have hB := sB_ne K
 have hn := inv_nn (nat_nn (sB K)) hB
 have en := ep_nn
 have he := r_mul hn en
 have k1 := r_mml he g1
 have k2 := r_mml he g2
 have hb : Bd (((vlu al : Nat) : Rat) * ep - sS K * (((vlu b : Nat) : Rat) * ep)) ep := by
  unfold sS
  generalize ((sB K : Nat) : Rat) = B at *
  generalize ((sA K : Nat) : Rat) = A at *
  generalize ((vlu al : Nat) : Rat) = X at *
  generalize ((vlu b : Nat) : Rat) = Y at *
  have e : B⁻¹ * B = 1 := by grind
  generalize B⁻¹ = I at *
  have a1 : I * ep * (2 * (X * B)) = (I * B) * (2 * (X * ep)) := by grind
  have a3 : I * ep * (2 * (Y * A) + B) = 2 * (A * I * (Y * ep)) + (I * B) * ep := by grind
  rw [a1, a3, e] at k1
  have a2 : I * ep * (2 * (X * B) + B) = (I * B) * (2 * (X * ep)) + (I * B) * ep := by grind
  rw [a2, e] at k2
  exact ⟨by grind, by grind⟩
 rw [rv_sg (x := al), rv_sg (x := b), hs]
 split
 ·exact hb.neg.eq (by grind)
 ·exact hb
theorem pz_ge1 : 1000000 * UU ≤ PZ := Nat.le_trans (Nat.le_trans (by decide) (Nat.pow_le_pow_right (n := 2) (by omega) (show 100 ≤ NZ by rw [nz]; omega))) (Nat.le_of_eq pz_def.symm)
theorem ep_small : ep ≤ uu / 1000000 := by
 have h : 1000000 * ((UU : Nat) : Rat) ≤ ((PZ : Nat) : Rat) := by exact_mod_cast pz_ge1
 have h1 := r_mml (r_mul ep_nn uu_nn) h
 have h6 := uu_UU
 have h7 := ep_pz
 generalize ((UU : Nat) : Rat) = U at *
 generalize ((PZ : Nat) : Rat) = P at *
 have e1 : ep * uu * (1000000 * U) = 1000000 * ep * (uu * U) := by grind
 have e2 : ep * uu * P = uu * (ep * P) := by grind
 rw [e1, e2, h6, h7] at h1
 grind
structure HouV (xs : List Nat) (h : Gls) (c N : Rat) : Prop where
 w : rung h.w < 9218868437227405312
 sw : sgn h.w = false
 mw : mgn h.w ≠ 0
 w0 : fcmp .eql h.w 0 = false
 cw : c * rv h.w = 1
 lv : LtL h.v
 g : ∃ V, HouG (rl xs) (rl h.v) xs.length c (rv h.alpha) N V
theorem ep_pos : 0 < ep := by
 have h2 := ep_nn
 have h3 := ep_pz
 by_cases h : ep = 0
 ·rw [h] at h3; grind
 ·grind
theorem rv_gt0 {x : Nat} (h0 : 0 < vlu x) (s : sgn x = false) : 0 < rv x := by
 rw [rv_pos s]
 have h1 : (1 : Rat) ≤ ((vlu x : Nat) : Rat) := by exact_mod_cast h0
 have h2 := ep_pos
 have := r_mml ep_nn h1
 grind
theorem pz_cast (k : Nat) {x : Nat} (h : vlu x ≤ k * PZ) : ((vlu x : Nat) : Rat) * ep ≤ (k : Rat) := by
 have h1 : ((vlu x : Nat) : Rat) ≤ (k : Rat) * ((PZ : Nat) : Rat) := by exact_mod_cast h
 have h2 := r_mml ep_nn h1
 have h3 := ep_pz
 generalize ((PZ : Nat) : Rat) = P at *
 have : ep * ((k : Rat) * P) = (k : Rat) * (ep * P) := by grind
 rw [this, h3] at h2
 grind
theorem rv_sq (ys : List Nat) (n : Nat) : ((sqV ys n : Nat) : Rat) * (ep * ep) = dt (rl ys) (rl ys) n := by
 rw [← rv_sum, sum_sq]
 have : (((sqV ys n : Nat) : Int) : Rat) = ((sqV ys n : Nat) : Rat) := by push_cast; rfl
 rw [this]
theorem two_rd {g a s W : Rat} (g0 : 9 / 10 ≤ g) (a0 : 0 ≤ a) (h1 : Rd (g + a) (s - (g + a)) 0) (h2 : Rd (g * s) (W - g * s) ep) : Bd (W - g * (g + a)) (3 * uu * (g * (g + a))) := by
 have hu := uu_nn
 have en := ep_small
 have k1 := h1 (g + a) (bd_self (by grind))
 have hg : 0 ≤ g := by grind
 have k2 := (bd_self hg).mul k1
 have hh := r_mul hg (b := g + a) (by grind)
 have k3 : Bd (g * s) ((1 + uu) * (g * (g + a))) := ((k2.add (bd_self hh)).up (by grind)).eq (by grind)
 have k4 := h2 _ k3
 have k5 := k2.add k4
 refine (k5.up ?_).eq (by grind)
 have gg : 81 / 100 ≤ g * g := by
  have := r_mm g0 g0 (by grind) (by grind)
  grind
 have ga := r_mul hg a0
 have gh : 81 / 100 ≤ g * (g + a) := by grind
 have e : g * (uu * (g + a) + 0) = uu * (g * (g + a)) := by grind
 rw [e]
 clear k1 k2 k3 k4 k5 e h1 h2
 generalize g * (g + a) = z at *
 unfold uu at *
 grind
theorem rv_lo {x : Nat} (h : PZ ≤ vlu x) : 1 ≤ rv x * rv x := by
 have h3 : ((PZ : Nat) : Rat) ≤ ((vlu x : Nat) : Rat) := by exact_mod_cast h
 have h4 := r_mml ep_nn h3
 rw [ep_pz] at h4
 have h5 := r_mm h4 h4 (by grind) (by grind)
 rw [rv_sg]
 split <;> grind
theorem rv_hi {x : Nat} (h : vlu x ≤ 2 * PZ) : Bd (rv x) 2 := by
 have h2 := pz_cast 2 h
 have h4 := r_mul (nat_nn (vlu x)) ep_nn
 have e2 : ((2 : Nat) : Rat) = 2 := rfl
 rw [e2] at h2
 rw [rv_sg]
 split
 ·exact ⟨by grind, by grind⟩
 ·exact ⟨by grind, by grind⟩
theorem g_rng {g S : Rat} (g0 : 0 ≤ g) (h1 : 1 ≤ S) (h2 : S ≤ 196) (h : Bd (S - g * g) (55 * uu * S)) : 9 / 10 ≤ g ∧ g ≤ 20 ∧ Bd (S - g * g) (56 * uu * (g * g)) := by
 obtain ⟨k1, k2⟩ := h
 unfold uu at *
 refine ⟨?_, ?_, ?_⟩
 ·rcases Rat.le_total (a := 9 / 10) (b := g) with q | q
  ·exact q
  ·have := r_mm q q (by grind) g0
   grind
 ·exact (bd_sq (x := g) (c := 20) (by grind) (by grind)).2
 ·exact ⟨by grind, by grind⟩
theorem hou_flt {xs : List Nat} {N : Rat} (hF : FinL xs) (hn : xs.length ≤ 48) (hb : powB xs = true) (fa : rung (houseL xs).alpha < 9218868437227405312) (hx : Nb (rl xs) xs.length N) (hN : ep ≤ uu * N) : ∃ c, HouV xs (houseL xs) c N := by
 have L := lenV_of hF hn hb
 have hKr := powK_rng xs
 obtain ⟨i0, hi0, _, m1, m2, _⟩ := scl_max hF hb
 have hrel := scl_rel hF hb
 have htwo := scl_two hF hb
 have hfin := scl_fin hF hb
 obtain ⟨K, hK⟩ : ∃ K, K = powK xs := ⟨_, rfl⟩
 obtain ⟨ys, hys⟩ : ∃ ys, ys = sclL xs K := ⟨_, rfl⟩
 obtain ⟨gw, hgw⟩ : ∃ gw, gw = sclN xs K := ⟨_, rfl⟩
 have Lgl := L.gl
 have Lgr := L.gr
 have Lc := L.c2
 rw [← hK] at hKr hrel htwo hfin m1 m2 Lgl Lgr Lc
 rw [← hys] at hrel htwo hfin m1 m2 Lc
 rw [← hgw] at Lgl Lgr Lc
 have hlen : ys.length = xs.length := by rw [hys, length_sclL]
 have hylt : LtL ys := fun k => by
  by_cases hk : k < xs.length
  ·rw [hys, scl_at0 hk]; exact ldx_lt (hF k).2
  ·rw [List.getD, List.getElem?_eq_none (by omega)]; decide
 -- y0 and b
 obtain ⟨y0, hy0⟩ : ∃ y0, y0 = ys.getD 0 0 := ⟨_, rfl⟩
 have y0l : y0 < 2 ^ 64 := by rw [hy0]; exact hylt 0
 have y0f : rung y0 < 9218868437227405312 := by rw [hy0]; exact hfin 0
 have y0t : vlu y0 ≤ 2 * PZ := by rw [hy0]; exact htwo 0
 obtain ⟨b, hbd⟩ : ∃ b, b = if sgn y0 = true then gw else fneg gw := ⟨_, rfl⟩
 have gf := Lgr.f
 have gs := Lgr.s
 have gneg := fneg_val Lgl gf
 have hbl : b < 2 ^ 64 := by
  rw [hbd]
  split
  ·exact Lgl
  ·exact gneg.1
 have hbf : rung b < 9218868437227405312 := by
  rw [hbd]
  split
  ·exact gf
  ·exact gneg.2.1
 have hH : houseL xs = ⟨ys.set 0 (fsub y0 b), fmul gw (fadd gw (fabs y0)), ldx b K⟩ := by
  unfold houseL
  rw [if_pos hb, ← hK, ← hys, ← hgw]
  unfold glsOf
  rw [← hy0, ← hbd]
 rw [hH] at fa ⊢
 have fa' : rung (ldx b K) < 9218868437227405312 := fa
 -- the amounts
 obtain ⟨p1, p2, p3, p4⟩ := fabs_parts y0l y0f
 have hal := fabs_fin y0l ((finB_iff y0l).2 y0f)
 have haf : rung (fabs y0) < 9218868437227405312 := by rw [p1]; exact y0f
 have hav : vlu (fabs y0) = vlu y0 := vlu_fabs y0l y0f
 have hP := pz_pos
 have g11 : vlu gw ≤ PZ * 2048 := by
  have := Lgr.hi
  rw [show (2 : Nat) ^ 11 = 2048 by decide] at this
  exact this
 have svg := sval_pos' gs
 have sva : sval (fabs y0) = (vlu y0 : Int) := by rw [sval_pos' p2, hav]
 have fs : rung (fadd gw (fabs y0)) < 9218868437227405312 := by
  refine fadd_ok (k := 12) (by omega) gf haf ?_
  rw [svg, sva, show (2 : Nat) ^ 12 = 4096 by decide]
  omega
 have ss : sgn (fadd gw (fabs y0)) = false := fadd_sgn gf haf gs p2
 have sge := (fadd_ge gf haf fs (by rw [svg]; omega) (by rw [sva]; omega)).1
 have sle := fadd_err gf haf fs
 have svs := sval_pos' ss
 have rs : Rng (fadd gw (fabs y0)) 13 := by
  refine ⟨fs, ss, Nat.le_trans Lgr.lo (Nat.le_trans (Nat.mul_le_mul_right _ sge) (Nat.mul_le_mul_left _ (by decide))), ?_⟩
  rw [svg, sva, svs] at sle
  have h8192 : (2 : Nat) ^ 13 = 8192 := by decide
  rw [h8192]
  have h1 : (((vlu (fadd gw (fabs y0)) : Nat) : Int) - (((vlu gw : Nat) : Int) + ((vlu y0 : Nat) : Int))).natAbs ≤ (((vlu gw : Nat) : Int) + ((vlu y0 : Nat) : Int)).natAbs := Nat.le_trans (Nat.le_mul_of_pos_right _ uu_pos) sle
  omega
 obtain ⟨_, rw_⟩ := mul_apx Lgr rs (by omega)
 have fw := rw_.f
 have sw := rw_.s
 have wpos := rw_.pos
 have mw : mgn (fmul gw (fadd gw (fabs y0))) ≠ 0 := mgn_pos wpos
 have f0 : rung (fsub y0 b) < 9218868437227405312 := by
  obtain ⟨q1, q2, q3⟩ := fneg_val hbl hbf
  rw [fsub_add y0f hbl hbf]
  refine fadd_ok (k := 12) (by omega) y0f q2 ?_
  rw [q3, show (2 : Nat) ^ 12 = 4096 by decide]
  have hb2 : (sval b).natAbs = vlu gw := by
   rw [hbd]; split
   ·exact sval_abs gw
   ·rw [gneg.2.2, Int.natAbs_neg]; exact sval_abs gw
  have := sval_abs y0
  omega
 obtain ⟨c, hc⟩ : ∃ c, c = (rv (fmul gw (fadd gw (fabs y0))))⁻¹ := ⟨_, rfl⟩
 have wgt := rv_gt0 wpos sw
 have wne : rv (fmul gw (fadd gw (fabs y0))) ≠ 0 := by grind
 have cw : c * rv (fmul gw (fadd gw (fabs y0))) = 1 := by
  rw [hc]
  generalize rv (fmul gw (fadd gw (fabs y0))) = W at *
  grind
 have c0 : 0 ≤ c := by rw [hc]; exact inv_nn (by grind) wne
 -- g against the sum of the squares
 have S1 : dt (rl ys) (rl ys) xs.length = ((sqV ys xs.length : Nat) : Rat) * (ep * ep) := (rv_sq ys xs.length).symm
 have rg := rv_pos gs
 have hS : Bd (dt (rl ys) (rl ys) xs.length - rv gw * rv gw) (55 * uu * dt (rl ys) (rl ys) xs.length) := by
  obtain ⟨t, t1, t2, t3⟩ := Lc
  have n1 : ((vlu gw : Nat) : Rat) * ((vlu gw : Nat) : Rat) ≤ ((sqV ys xs.length : Nat) : Rat) + (t : Rat) := by exact_mod_cast t1
  have n2 : ((sqV ys xs.length : Nat) : Rat) ≤ ((vlu gw : Nat) : Rat) * ((vlu gw : Nat) : Rat) + (t : Rat) := by exact_mod_cast t2
  have t4 : t * UU ≤ 55 * sqV ys xs.length := Nat.le_trans t3 (Nat.mul_le_mul_right _ (by omega))
  have n3 : (t : Rat) * ((UU : Nat) : Rat) ≤ 55 * ((sqV ys xs.length : Nat) : Rat) := by exact_mod_cast t4
  rw [S1, rg]
  have ee := r_mul ep_nn ep_nn
  have k1 := r_mml ee n1
  have k2 := r_mml ee n2
  have k3 := r_mml (r_mul uu_nn ee) n3
  have h6 := uu_UU
  generalize ((UU : Nat) : Rat) = U at *
  generalize ((sqV ys xs.length : Nat) : Rat) = Q at *
  generalize ((vlu gw : Nat) : Rat) = G at *
  have e1 : uu * (ep * ep) * ((t : Rat) * U) = (uu * U) * ((t : Rat) * (ep * ep)) := by grind
  rw [e1, h6] at k3
  exact ⟨by grind, by grind⟩
 have S2 : 1 ≤ dt (rl ys) (rl ys) xs.length := Rat.le_trans (rv_lo m1) (dt_at (a := rl ys) hi0)
 have S3 : dt (rl ys) (rl ys) xs.length ≤ 196 := by
  have h1 : Nb (rl ys) xs.length (7 * 2) := Nb.bound (nm_const (c := 2) (by clear hS S2; grind) (by omega)) fun k _ => rv_hi (htwo k)
  exact Rat.le_trans h1.h (by clear hS S2; grind)
 have g0 : 0 ≤ rv gw := by rw [rg]; exact r_mul (nat_nn _) ep_nn
 obtain ⟨g9, g20, hS2⟩ := g_rng g0 S2 S3 hS
 obtain ⟨a, ha⟩ : ∃ a, a = rv (fabs y0) := ⟨_, rfl⟩
 have ha2 : a = ((vlu y0 : Nat) : Rat) * ep := by rw [ha, rv_pos p2, hav]
 have a0 : 0 ≤ a := by rw [ha2]; exact r_mul (nat_nn _) ep_nn
 have hry : rl ys 0 = rv y0 := by rw [hy0]; rfl
 have hab : (rv b = -rv gw ∧ rl ys 0 = a) ∨ (rv b = rv gw ∧ rl ys 0 = -a) := by
  rw [hry, hbd, ha2, rv_sg (x := y0)]
  cases hsg : sgn y0
  ·left
   simp only [Bool.false_eq_true, if_false]
   exact ⟨rv_neg Lgl gf, trivial⟩
  ·right
   simp only [if_true]
   exact ⟨trivial, trivial⟩
 have hw := two_rd (a := a) g9 a0 (by rw [ha]; exact rd_add fs) (rd_mul fw)
 have hv0 : Bd (rv (fsub y0 b) - (rl ys 0 - rv b)) (uu * (rv gw + a)) := by
  rw [hry]
  have h1 : Bd (rv y0 - rv b) (rv gw + a) := by
   rw [← hry]
   rcases hab with ⟨q1, q2⟩ | ⟨q1, q2⟩ <;> rw [q1, q2] <;> exact ⟨by grind, by grind⟩
  exact (rd_sub hbl f0 _ h1).up (by grind)
 have hset : ∀ k, (ys.set 0 (fsub y0 b)).getD k 0 = if k = 0 then fsub y0 b else ys.getD k 0 := fun k => by
  by_cases hk : k = 0
  ·subst hk
   rw [if_pos rfl, List.getD, List.getElem?_set_self (by omega)]; rfl
  ·rw [if_neg hk, List.getD, List.getElem?_set_ne (by omega)]; rfl
 have hOF : HouF (rl xs) (rl ys) (rl (ys.set 0 (fsub y0 b))) xs.length a (rv b) (rv gw) (rv (fmul gw (fadd gw (fabs y0)))) c (sS K) (rv (ldx b K)) ep N := by
  refine ⟨by omega, hn, a0, hab, g9, g20, ?_, hw, c0, cw, ?_, fun k k1 k2 => ?_, sS_nn K, fun k hk => ?_, ?_, hx, ep_nn, ep_small, hN⟩
  ·exact hS2
  ·show Bd (rv ((ys.set 0 (fsub y0 b)).getD 0 0) - _) _
   rw [hset 0, if_pos rfl]
   exact hv0
  ·show rv ((ys.set 0 (fsub y0 b)).getD k 0) = rv (ys.getD k 0)
   rw [hset k, if_neg (by omega)]
  ·have hsg : sgn (xs.getD k 0) = sgn (ys.getD k 0) := by rw [hys, scl_at0 hk, sgn_ldx (hF k).2 (fin_rung hF k) (by omega) (by omega)]
   exact scl_bd hsg (hrel k).1 (hrel k).2
  ·have hh := ldx_half (k := K) hbl hbf (by omega) (by omega) fa'
   exact al_bd (sgn_ldx hbl hbf (by omega) (by omega)) hh.1 hh.2
 refine ⟨c, fw, sw, mw, ?_, cw, fun k => ?_, 21 / 10 * rv gw, houG_of hOF⟩
 ·show fcmp .eql (fmul gw (fadd gw (fabs y0))) 0 = false
  have wl : fmul gw (fadd gw (fabs y0)) < 2 ^ 64 := fop_lt (op := .mul)
  rw [eql_zero wl fw]
  exact decide_eq_false (by omega)
 ·show (ys.set 0 (fsub y0 b)).getD k 0 < 2 ^ 64
  rw [hset k]
  split
  ·exact fop_lt (op := .sub)
  ·exact hylt k
end Go.Bn
