/-
 Scaling as it is done and scaling by the second reference are the same.
-/
import Derived.Test.YtllkellonjhalaaGreatOoTrn
import Derived.Test.YtllkellonjhalaaGreatOoRne
set_option linter.unusedVariables false
set_option linter.unusedSimpArgs false
namespace Go.Bn
open Go
theorem nearest_sc {s : Bool} {n m : Nat} {p q k : Int} {N : Nat} (hp : -(N : Int) ≤ p) (hq : -(N : Int) ≤ q) (h : n * 2 ^ (p + N).toNat = m * 2 ^ (q + N).toNat) : Ieee.double.nearest s n (p + k) = Ieee.double.nearest s m (q + k) := by
 have h1 := @nearest_scale s n (p + N).toNat (p + k)
 have h2 := @nearest_scale s m (q + N).toNat (q + k)
 rw [Nat.shiftLeft_eq] at h1 h2
 rw [← h1, ← h2, h, show p + k - ((p + N).toNat : Int) = q + k - ((q + N).toNat : Int) by omega]
theorem p52_val : rung P52 < 9218868437227405312 ∧ sgn P52 = false ∧ vlu P52 = 4503599627370496 * PZ := by decide +kernel
theorem tiny_val : rung TINY < 9218868437227405312 ∧ sgn TINY = false ∧ vlu TINY = 4503599627370496 := by decide +kernel
theorem mgn_zero {x : Nat} (h : mgn x = 0) : rung x = 0 := by unfold mgn at h; split at h <;> omega
theorem vlu_sub {x : Nat} (h : expo x = 0) : vlu x = mgn x ∧ mgn x < 4503599627370496 := by
 obtain ⟨h1, h2⟩ := mgn_0 h
 have := frac_lt x
 refine ⟨?_, by omega⟩
 unfold vlu
 rw [h2, show ((-1074 : Int) + 1074).toNat = 0 by decide]
 simp
theorem nrm_parts {x : Nat} (hx : x < 2 ^ 64) (hr : rung x < 9218868437227405312) (hm : mgn x ≠ 0) :
    ∃ y d, nrmR x = (y, d) ∧ y < 2 ^ 64 ∧ rung y < 9218868437227405312 ∧ 1 ≤ expo y ∧ sgn y = sgn x ∧ (d = 0 ∨ d = -52) ∧ mgn x * 2 ^ (plc x + 1200).toNat = mgn y * 2 ^ (plc y + d + 1200).toNat := by
  by_cases he : 1 ≤ expo x
  · exact ⟨x, 0, nrm_id hx hr he, hx, hr, he, rfl, .inl rfl, by rw [Int.add_zero]⟩
  · have he0 : expo x = 0 := by omega
    obtain ⟨v1, v2⟩ := vlu_sub he0
    have hp : plc x = -1074 := (mgn_0 he0).2
    have hfa := fabs_parts hx hr
    have hl : fcmp .lss (fabs x) TINY = true := by
      unfold fcmp
      show (ford (fabs x) TINY == some .lt) = true
      rw [ford_val' (by rw [hfa.1]; exact hr) tiny_val.1, sval_pos' hfa.2.1, sval_pos' tiny_val.2.1, vlu_fabs hx hr, tiny_val.2.2, v1]
      have : compare ((mgn x : Nat) : Int) ((4503599627370496 : Nat) : Int) = .lt := Int.compare_eq_lt.2 (by omega)
      rw [this]
      rfl
    have hn : nrmR x = (fmul x P52, -52) := by unfold nrmR; rw [if_pos hl]
    obtain ⟨y, hy⟩ : ∃ y, fmul x P52 = y := ⟨_, rfl⟩
    have e1 : fmul x P52 = Ieee.double.nearest (sgn x) (mgn x * 2 ^ 52) (-1074) := by
      rw [fmul_vlx hr p52_val.1, p52_val.2.1, p52_val.2.2, v1, Bool.xor_false]
      have := @nearest_scale (sgn x) (mgn x * 2 ^ 52) NZ (-1074)
      rw [Nat.shiftLeft_eq] at this
      rw [← this, ← pz_def, show (-1074 - (NZ : Int)) = -2148 by rw [nz]; rfl, Nat.mul_assoc]
    have hf : rung (Ieee.double.nearest (sgn x) (mgn x * 2 ^ 52) (-1074)) < 9218868437227405312 := by
      refine nearest_fin (N := NZ) (by rw [nz]; omega) ?_
      rw [show ((-1074 : Int) + (NZ : Int)).toNat = 0 by rw [nz]; decide, Nat.pow_zero, Nat.mul_one]
      have h1 : mgn x * 2 ^ 52 < 2 ^ 52 * 2 ^ 52 := (Nat.mul_lt_mul_right (Nat.two_pow_pos 52)).2 (by rw [pow52]; exact v2)
      rw [← Nat.pow_add] at h1
      exact Nat.lt_of_lt_of_le h1 (Nat.pow_le_pow_right (by omega) (by rw [nz]; omega))
    rw [e1] at hy
    rw [hy] at hf
    obtain ⟨g1, g2, g3⟩ := nearest_few (a := mgn x) (j := 52) (by omega) y hy
    have g4 : vlu y = mgn x * 2 ^ 52 := by rcases g3 with g3 | g3; · omega
                                           · exact g3.2
    have g5 : 1 ≤ expo y := by
      by_cases hc : expo y = 0
      · have := (vlu_sub hc)
        have h3 : 1 * 2 ^ 52 ≤ mgn x * 2 ^ 52 := Nat.mul_le_mul_right _ (by omega)
        rw [pow52] at h3
        omega
      · omega
    refine ⟨y, -52, by rw [hn, e1, hy], g1, hf, g5, g2, .inr rfl, ?_⟩
    have g6 := plc_ge y
    have g7 : mgn y * 2 ^ (plc y + 1074).toNat = mgn x * 2 ^ 52 := g4
    rw [show (plc y + -52 + 1200).toNat = (plc y + 1074).toNat + 74 by omega, Nat.pow_add, ← Nat.mul_assoc, g7, hp, show ((-1074 : Int) + 1200).toNat = 52 + 74 by decide, Nat.pow_add, Nat.mul_assoc]
theorem near_53 {s : Bool} {M : Nat} {E : Int} (h1 : 4503599627370496 ≤ M) (h2 : M < 9007199254740992) : M.log2 = 52 := (Nat.log2_eq_iff (by omega)).2 ⟨by rw [pow52]; exact h1, by rw [pow53]; exact h2⟩
theorem near_lo {s : Bool} {M : Nat} {E : Int} (h1 : 4503599627370496 ≤ M) (h2 : M < 9007199254740992) (hE : E < -1075) : Ieee.double.nearest s M (E - 52) = sgb s := by
 have hl := near_53 (s := s) (E := E) h1 h2
 have hq : qtm M (E - 52) = -1074 := by unfold qtm; rw [hl]; omega
 have hk : kpt s M (E - 52) = 0 := by
  unfold kpt
  rw [hq, if_neg (by omega)]
  obtain ⟨d, hd⟩ : ∃ d : Nat, (-1074 - (E - 52)).toNat = 54 + d := ⟨(-1074 - (E - 52)).toNat - 54, by omega⟩
  rw [hd, cut_low (by omega) (by omega)]
  have hb : 2 ^ 54 ≤ 2 ^ (54 + d) := Nat.pow_le_pow_right (by omega) (by omega)
  have hb2 : 2 ^ 53 ≤ 2 ^ (54 + d - 1) := Nat.pow_le_pow_right (by omega) (by omega)
  have p54 : (2 : Nat) ^ 54 = 18014398509481984 := by decide
  rw [p54] at hb
  rw [pow53] at hb2
  have e1 : M / 2 ^ (54 + d) = 0 := Nat.div_eq_of_lt (by omega)
  have e2 : M % 2 ^ (54 + d) = M := Nat.mod_eq_of_lt (by omega)
  have e3 : cutC M (54 + d) = -1 := by
   unfold cutC cmpN
   rw [e2, if_neg (by omega), if_pos (by omega)]
  rw [e1, e3]
  rfl
 rw [nearest_kpt (by omega), hq, hk, word_sgb]
 unfold INF
 rfl
theorem near_hi {s : Bool} {M : Nat} {E : Int} (h1 : 4503599627370496 ≤ M) (h2 : M < 9007199254740992) (hE : 1023 < E) : Ieee.double.nearest s M (E - 52) = sgb s + INF := by
 have hl := near_53 (s := s) (E := E) h1 h2
 have hq : qtm M (E - 52) = E - 52 := by unfold qtm; rw [hl]; omega
 rw [nearest_kpt (by omega), hq, word_sgb]
 unfold INF
 have : 2046 ≤ (E - 52 + 1074).toNat := by omega
 have hk : 4503599627370496 ≤ kpt s M (E - 52) := (kpt_le (by omega)).2 (by omega)
 omega
theorem ldx_near {x : Nat} {k : Int} (hx : x < 2 ^ 64) (hr : rung x < 9218868437227405312) (hm : mgn x ≠ 0) (k0 : -9000 ≤ k) (k1 : k ≤ 9000) : ldx x k = Ieee.double.nearest (sgn x) (mgn x) (plc x + k) := by
 obtain ⟨y, d, hn, y1, y2, y3, y4, y5, y6⟩ := nrm_parts hx hr hm
 have hpx := plc_ge x
 have hpy := plc_ge y
 rw [nearest_sc (N := 1200) (p := plc x) (q := plc y + d) (k := k) (by omega) (by omega) y6]
 have hM := mgn_1 (x := y) (by omega)
 have hf := frac_lt y
 have hml := mgn_lt y
 have hE : ldE x k = k + d + ((expo y : Int) - 1023) := by unfold ldE; rw [hn]
 have hP : plc y + d + k = ldE x k - 52 := by rw [hE, hM.2]; omega
 rw [hP, ← y4]
 have hnz : fcmp .eql x 0 = false := by
  cases h : fcmp .eql x 0
  ·rfl
  ·exfalso
   have h2 : ford x 0 = some .eq := by simpa [fcmp] using h
   rw [ford_val' hr (show rung 0 < 9218868437227405312 by decide)] at h2
   have h3 := Int.compare_eq_eq.1 (Option.some.inj h2)
   have h4 : sval 0 = 0 := by decide +kernel
   rw [h4] at h3
   have h5 : vlu x = 0 := by have := sval_abs x; omega
   unfold vlu at h5
   have := Nat.mul_pos (Nat.pos_of_ne_zero hm) (Nat.two_pow_pos (plc x + 1074).toNat)
   omega
 have hnf : (fcmp .gtr (fabs x) MAXF || fcmp .neq x x) = false := by
  rw [fin_gtr hx hr, fcmp_self, fin_not_nan ((finB_iff hx).2 hr)]
  rfl
 have hW : ∀ e, ldW x e = ldW y e := fun e => by
  unfold ldW
  rw [hn, nrm_id y1 y2 y3]
 by_cases c1 : ldE x k < -1075
 ·rw [← ldx_lo hnz hnf c1, near_lo (by omega) hml c1, hn]
  rfl
 ·by_cases c2 : 1023 < ldE x k
  ·rw [near_hi (by omega) hml c2]
   have hlss : fcmp .lss (nrmR x).1 0 = sgn y := by
    rw [hn]
    show (ford y 0 == some .lt) = sgn y
    rw [ford_val' y2 (show rung 0 < 9218868437227405312 by decide), show sval 0 = 0 by decide +kernel]
    have h5 : 0 < vlu y := by
     unfold vlu
     exact Nat.mul_pos (by omega) (Nat.two_pow_pos _)
    cases hs : sgn y
    ·rw [sval_pos' hs, Int.compare_eq_gt.2 (by omega)]; rfl
    ·have : sval y = -(vlu y : Int) := by unfold sval; rw [hs]; rfl
     rw [this, Int.compare_eq_lt.2 (by omega)]; rfl
   cases hs : sgn y
   ·rw [hs] at hlss
    rw [← ldx_pi hnz hnf c1 c2 hlss]
    rfl
   ·rw [hs] at hlss
    rw [← ldx_ni hnz hnf c1 c2 hlss]
    rfl
  ·by_cases c3 : ldE x k < -1022
   ·rw [← ldx_sub hnz hnf c1 c2 c3, ldW_cn (by omega), hW]
    have r1 : -1022 ≤ ldE x k + 53 := by omega
    have r2 : ldE x k + 53 ≤ 1023 := by omega
    obtain ⟨p1, p2, p3, p4, p5⟩ := ldW_parts (x := y) (e := ldE x k + 53) y1 y2 y3 r1 r2
    have hv := ldW_vlu (x := y) (e := ldE x k + 53) y1 y2 y3 r1 r2
    obtain ⟨tv1, tv2, hT⟩ := tw_val
    have ts : sgn TW53 = false := by decide +kernel
    generalize TW53 = W at *
    generalize ldW y (ldE x k + 53) = Z at *
    rw [fmul_vlx tv1 p4, hv, p1, ts, Bool.false_xor]
    obtain ⟨n, hnn⟩ : ∃ n : Nat, (ldE x k + 53 + 1022).toNat = n := ⟨_, rfl⟩
    rw [uu53, pz_def] at hT
    rw [hnn]
    generalize vlu W = T at *
    have h8 := @nearest_scale (sgn y) (T * (mgn y * 2 ^ n)) 53 (-2148)
    have h9 := @nearest_scale (sgn y) (mgn y) (NZ + n) (ldE x k - 52)
    rw [Nat.shiftLeft_eq] at h8 h9
    have e3 : T * (mgn y * 2 ^ n) * 2 ^ 53 = mgn y * 2 ^ (NZ + n) := by
     rw [Nat.mul_right_comm, hT, Nat.pow_add, Nat.mul_left_comm]
    rw [← h8, ← h9, e3, show ldE x k - 52 - ((NZ + n : Nat) : Int) = -2148 - ((53 : Nat) : Int) by rw [nz]; omega]
   ·rw [← ldx_nrm hnz hnf c1 c2 c3, ldW_cn (by omega), hW]
    have r1 : -1022 ≤ ldE x k := by omega
    have r2 : ldE x k ≤ 1023 := by omega
    obtain ⟨p1, p2, p3, p4, p5⟩ := ldW_parts (x := y) (e := ldE x k) y1 y2 y3 r1 r2
    rw [fmul_one p5 ((finB_iff p5).2 p4)]
    have h9 := nearest_read p5 p4
    rw [p1, p2, p3] at h9
    exact h9.symm
theorem ldx_zero {x : Nat} {k : Int} (hr : rung x = 0) : ldx x k = x := by
 refine (ldx_0 ?_).symm
 have h1 : rung x < 9218868437227405312 := by omega
 show (ford x 0 == some .eq) = true
 rw [ford_val' h1 (by decide)]
 have : sval x = 0 := by
  have h2 : mgn x = 0 := by unfold mgn; rw [if_pos (by omega)]; exact hr
  have h3 := sval_abs x
  unfold vlu at h3
  rw [h2, Nat.zero_mul] at h3
  omega
 rw [this, show sval 0 = 0 by decide +kernel, Int.compare_eq_eq.2 rfl]
 rfl
theorem sgb_rung (x : Nat) (hx : x < 2 ^ 64) : sgb (sgn x) + rung x = x := by
 have := word_eq hx
 rw [word_sgb] at this
 exact this
theorem expo_rung' {x : Nat} : expo x = rung x / 4503599627370496 := by unfold expo rung; omega
theorem frac_rung' {x : Nat} : frac x = rung x % 4503599627370496 := by unfold frac rung; omega
theorem ldx_inf {x : Nat} {k : Int} (hx : x < 2 ^ 64) (hr : rung x = 9218868437227405312) : ldx x k = x := by
 have hs : x = 9218868437227405312 ∨ x = 18442240474082181120 := by unfold rung at hr; omega
 unfold ldx
 rcases hs with rfl | rfl
 ·rw [if_neg (by decide +kernel), if_pos (by decide +kernel)]
 ·rw [if_neg (by decide +kernel), if_pos (by decide +kernel)]
theorem ldx_NAN {k : Int} : ldx NAN k = NAN := by
 unfold ldx
 rw [if_neg (by decide +kernel), if_pos (by decide +kernel)]
theorem putW_lt (s : Bool) {n f : Nat} (hn : n < 2048) (hf : f < 4503599627370496) : putW s n f < 2 ^ 64 := by
 unfold putW sgb
 split <;> omega
theorem samW_lt (n : Nm) : samW n < 2 ^ 64 := by
 unfold samW
 split
 ·exact NAN_lt
 ·split
  ·exact putW_lt _ (by decide) (by decide)
  ·split
   ·exact putW_lt _ (by decide) (by decide)
   ·exact nearest_lt
theorem near_cn {s : Bool} {n : Nat} {p : Int} : cn (Ieee.double.nearest s n p) = Ieee.double.nearest s n p := cn_of_not (write_ok (d := .number s n p) rfl).1
theorem tms_ldx {b x : Nat} {k : Int} (hb : b < 2 ^ 64) (hc : cn b = x) (k0 : -5000 ≤ k) (k1 : k ≤ 5000) : cn (sclW b k) = ldx x k := by
 by_cases hn : nanB b = true
 ·have h2 := hn
  rw [nanB_fields hb] at h2
  have h3 := of_decide_eq_true h2
  rw [cn_of_nan hn] at hc
  subst hc
  unfold sclW
  rw [take_nan h3.1 h3.2]
  unfold sclM
  rw [if_neg (by show ¬ (2 : Int) = 0; decide)]
  show cn NAN = _
  rw [ldx_NAN]
  decide +kernel
 ·have hn' : nanB b = false := by simpa using hn
  rw [cn_of_not hn'] at hc
  subst hc
  have hr2 := sgb_rung b hb
  have e1 := @expo_rung' b
  have e2 := @frac_rung' b
  have hrl : rung b < 9223372036854775808 := Nat.mod_lt _ (by decide)
  by_cases hr : rung b < 9218868437227405312
  ·have hex : ¬ expo b = 2047 := by omega
   have htk : takN b = ⟨0, sgn b, mgn b, plc b⟩ := by unfold takN; rw [if_neg hex]
   unfold sclW
   rw [htk]
   unfold sclM
   rw [if_pos (by rfl)]
   unfold samW
   rw [if_neg (by show ¬ (0 : Int) = 2; decide), if_neg (by show ¬ (0 : Int) = 1; decide)]
   simp only
   by_cases hm : mgn b = 0
   ·rw [if_pos hm]
    have h0 := mgn_zero hm
    rw [ldx_zero h0]
    have : putW (sgn b) 0 0 = b := by rw [h0] at hr2; exact hr2
    rw [this, cn_of_not hn']
   ·rw [if_neg hm, near_cn, ldx_near hb hr hm (by omega) (by omega), show max (-5000) (min k 5000) = k by omega]
  ·have hi : rung b = 9218868437227405312 := by
    rw [nanB_iff] at hn'
    have := of_decide_eq_false hn'
    unfold rung at hr ⊢
    omega
   unfold sclW
   rw [take_inf (by omega) (by omega)]
   unfold sclM
   rw [if_neg (by show ¬ (1 : Int) = 0; decide)]
   unfold samW
   rw [if_neg (by show ¬ (1 : Int) = 2; decide), if_pos (by rfl)]
   rw [ldx_inf hb hi]
   have : putW (sgn b) 2047 0 = b := by unfold putW; omega
   show cn (putW (sgn b) 2047 0) = b
   rw [this, cn_of_not hn']
end Go.Bn
