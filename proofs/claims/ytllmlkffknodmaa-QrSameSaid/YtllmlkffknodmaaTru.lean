/-
  The law of a rotation: what is reckoned exactly.
-/
import Derived.Test.YtllmlkffknodmaaTrn
set_option linter.unusedVariables false
set_option linter.unusedSimpArgs false
namespace Go.Bn
open Go
def tameB (x : Nat) (k : Int) : Bool := fcmp .eql x 0 || (fcmp .geq (fabs x) (ldx ONE (-k)) && fcmp .leq (fabs x) (ldx ONE k))
theorem one_v : rung ONE < 9218868437227405312 ∧ ONE < 2 ^ 64 ∧ expo ONE = 1023 ∧ sgn ONE = false ∧ mgn ONE = 4503599627370496 ∧ plc ONE = -52 := by decide +kernel
theorem two_k {k : Int} (h1 : -1022 ≤ k) (h2 : k ≤ 1023) : rung (ldx ONE k) < 9218868437227405312 ∧ sgn (ldx ONE k) = false ∧ vlu (ldx ONE k) = 2 ^ (k + 1074).toNat := by
  obtain ⟨o1, o2, o3, o4, o5, o6⟩ := one_v
  have h := ldx_exact (k := k) o2 o1 (by omega) (by omega) (by omega)
  refine ⟨h.f, h.s.trans o4, ?_⟩
  unfold vlu
  rw [h.m, h.p, o5, o6, show (4503599627370496 : Nat) = 2 ^ 52 by decide, ← Nat.pow_add]
  congr 1
  omega
theorem leq_val {x y : Nat} (h : fcmp .leq x y = true) (hx : rung x < 9218868437227405312) (hy : rung y < 9218868437227405312) : sval x ≤ sval y := by
  unfold fcmp at h
  rw [ford_val' hx hy] at h
  rcases Int.lt_trichotomy (sval x) (sval y) with g | g | g
  · omega
  · omega
  · rw [Int.compare_eq_gt.2 g] at h
    cases h
theorem geq_val {x y : Nat} (h : fcmp .geq x y = true) (hx : rung x < 9218868437227405312) (hy : rung y < 9218868437227405312) : sval y ≤ sval x := by
  unfold fcmp at h
  rw [ford_val' hx hy] at h
  rcases Int.lt_trichotomy (sval x) (sval y) with g | g | g
  · rw [Int.compare_eq_lt.2 g] at h
    cases h
  · omega
  · omega
/-- A tame number that is not nought. -/
theorem tame_rng {x : Nat} (hx : x < 2 ^ 64) (h0 : fcmp .eql x 0 = false) (h : tameB x 900 = true) (hr : rung x < 9218868437227405312) : 123 ≤ expo x ∧ expo x ≤ 1923 := by
  unfold tameB at h
  rw [h0, Bool.false_or, Bool.and_eq_true] at h
  obtain ⟨a1, a2, _, _⟩ := fabs_parts hx hr
  have hv := vlu_fabs hx hr
  obtain ⟨l1, l2, l3⟩ := two_k (k := -900) (by omega) (by omega)
  obtain ⟨u1, u2, u3⟩ := two_k (k := 900) (by omega) (by omega)
  have g1 := geq_val h.1 (by rw [a1]; exact hr) l1
  have g2 := leq_val h.2 (by rw [a1]; exact hr) u1
  rw [sval_pos' a2, sval_pos' l2, hv, l3] at g1
  rw [sval_pos' a2, sval_pos' u2, hv, u3] at g2
  have g1' := Int.ofNat_le.1 g1
  have g2' := Int.ofNat_le.1 g2
  clear g1 g2 l3 u3
  constructor
  · by_cases hc : 123 ≤ expo x
    · exact hc
    · exfalso
      have : vlu x < 2 ^ (-900 + 1074 : Int).toNat := by
        rcases @vlu_lt_expo x with h2 | ⟨_, h2⟩
        · exact Nat.lt_of_lt_of_le h2 (Nat.pow_le_pow_right (by omega) (by omega))
        · exact Nat.lt_of_lt_of_le h2 (Nat.pow_le_pow_right (by omega) (by omega))
      exact Nat.lt_irrefl _ (Nat.lt_of_lt_of_le this g1')
  · by_cases hc : expo x ≤ 1923
    · exact hc
    · exfalso
      have h2 := Nat.le_trans (vlu_ge_expo (x := x) (by omega)) g2'
      have h3 := (Nat.pow_le_pow_iff_right (show 1 < 2 by omega)).1 h2
      omega
theorem two_900 : fcmp .leq NAN (ldx ONE 900) = false ∧ fcmp .leq PINF (ldx ONE 900) = false := by decide +kernel
theorem rung_inf {x : Nat} (hn : nanB x = false) (hr : ¬ rung x < 9218868437227405312) : rung x = 9218868437227405312 := by
  by_cases he : rung x = 9218868437227405312
  · exact he
  · exfalso
    unfold nanB at hn
    rcases read_not hr with ⟨s, h⟩ | h
    · unfold Ieee.Format.read at h
      unfold rung at hr he
      simp only [signW, binA, infR] at h
      rw [if_neg (by omega), if_neg hr, if_neg he] at h
      cases h
    · rw [h] at hn; cases hn
theorem abs_not {x : Nat} (hx : x < 2 ^ 64) (h : ¬ rung x < 9218868437227405312) : fabs x = NAN ∨ fabs x = PINF := by
  unfold fabs
  cases hn : nanB x
  · right
    exact rung_inf hn h
  · left; rfl
theorem tame_fin {x : Nat} (hx : x < 2 ^ 64) (h0 : fcmp .eql x 0 = false) (h : tameB x 900 = true) : rung x < 9218868437227405312 := by
  by_cases hr : rung x < 9218868437227405312
  · exact hr
  · exfalso
    unfold tameB at h
    rw [h0, Bool.false_or, Bool.and_eq_true] at h
    rcases abs_not hx hr with e | e
    · rw [e, two_900.1] at h; cases h.2
    · rw [e, two_900.2] at h; cases h.2
theorem fneg_val {s : Nat} (hs : s < 2 ^ 64) (hr : rung s < 9218868437227405312) : fneg s < 2 ^ 64 ∧ rung (fneg s) < 9218868437227405312 ∧ sval (fneg s) = -sval s := by
  have hn : nanB s = false := fin_not_nan ((finB_iff hs).2 hr)
  have hl := fneg_lt hs
  have e : fneg s = s ^^^ 2 ^ 63 := by rw [xor_top hs]; unfold fneg; rw [hn]; rfl
  have hR : rung (fneg s) = rung s := by rw [e]; exact rung_top hs
  refine ⟨hl, by rw [hR]; exact hr, ?_⟩
  have hsg : sgn (fneg s) = !sgn s := by
    unfold fneg
    rw [hn]
    simp only [Bool.false_eq_true, if_false]
    cases h : sgn s
    · simp only [Bool.false_eq_true, if_false]
      unfold sgn at h ⊢
      have h1 := beq_eq_false_iff_ne.1 h
      have h2 : s / 9223372036854775808 % 2 = 0 := by omega
      have h3 : (s + 9223372036854775808) / 9223372036854775808 % 2 = 1 := by omega
      rw [h3]; rfl
    · simp only [if_true]
      unfold sgn at h ⊢
      have h2 : s / 9223372036854775808 % 2 = 1 := by simpa using h
      have h3 : (s - 9223372036854775808) / 9223372036854775808 % 2 = 0 := by omega
      rw [h3]; rfl
  have hv : vlu (fneg s) = vlu s := by unfold vlu mgn plc; rw [hR]
  unfold sval
  rw [hsg, hv]
  cases sgn s
  · rfl
  · simp
/-- What Givens answers, and how it lies to what it should be. -/
structure GivB (a b : Nat) (g : Giv) : Prop where
  e : g.e = 0
  cl : g.c < 2 ^ 64
  cf : rung g.c < 9218868437227405312
  sl : g.s < 2 ^ 64
  sf : rung g.s < 9218868437227405312
  rl : g.r < 2 ^ 64
  rf : rung g.r < 9218868437227405312
  rs : sgn g.r = false
  one : Nr (vlu g.c * vlu g.c + vlu g.s * vlu g.s) (PZ * PZ) (PZ * PZ)
  lead : Nr (vlu a * vlu g.c + vlu b * vlu g.s) (vlu g.r * PZ) (vlu g.r * PZ)
  none : Nr (vlu g.c * vlu b) (vlu g.s * vlu a) (vlu g.r * PZ)
  sc : sgn g.c = sgn a
  ss : sgn g.s = sgn b
theorem givB_of {a b : Nat} (ha : a < 2 ^ 64) (hb : b < 2 ^ 64) (a0 : fcmp .eql a 0 = false) (b0 : fcmp .eql b 0 = false) (ta : tameB a 900 = true) (tb : tameB b 900 = true) : GivB a b (givR a b) := by
  have fa := tame_fin ha a0 ta
  have fb := tame_fin hb b0 tb
  have ga := (finB_iff ha).2 fa
  have gb := (finB_iff hb).2 fb
  obtain ⟨a1, a2⟩ := tame_rng ha a0 ta fa
  obtain ⟨b1, b2⟩ := tame_rng hb b0 tb fb
  obtain ⟨_, T⟩ := len_two ha hb fa fb a1 a2 b1 b2
  have hl : lchkW [a, b] = 0 := by
    unfold lchkW
    rw [if_neg (by show ¬ (48 : Int) < ((2 : Nat) : Int); omega), if_neg (by simp [ga, gb])]
  have hq : finQ (lenL [a, b]) = true := by rw [finQ_fin T.l]; exact (finB_iff T.l).2 T.f
  have hlr : lenR [a, b] = ⟨lenL [a, b], 0⟩ := by
    unfold lenR orN
    rw [if_pos hl, if_pos hq]
  have hg : givR a b = ⟨fdiv a (lenL [a, b]), fdiv b (lenL [a, b]), lenL [a, b], 0⟩ := by
    have h := giv_4 (a := a) (b := b) (by rw [finQ_fin ha, finQ_fin hb, ga, gb]; rfl) b0 a0 (by rw [hlr])
    rw [hlr] at h
    exact h
  generalize lenL [a, b] = r at *
  obtain ⟨A2, B2, _⟩ := law_ab T.c
  have ma : mgn a ≠ 0 := by have := (mgn_1 (x := a) (by omega)).1; omega
  have mb : mgn b ≠ 0 := by have := (mgn_1 (x := b) (by omega)).1; omega
  obtain ⟨c1, c2, t1, c3, c4, c5⟩ := fdiv_dev fa T.f ma (mgn_pos T.p) A2
  obtain ⟨s1, s2, t2, s3, s4, s5⟩ := fdiv_dev fb T.f mb (mgn_pos T.p) B2
  rw [T.s, Bool.xor_false] at c2 s2
  rw [hg]
  exact ⟨rfl, fop_lt (op := .quo), c1, fop_lt (op := .quo), s1, T.l, T.f, T.s, law_one pz_big T.p T.c c3 c4 c5 s3 s4 s5, law_lead pz_big T.p T.c c3 c4 c5 s3 s4 s5, law_none pz_big T.p T.c c3 c4 c5 s3 s4 s5, c2, s2⟩
theorem pz_n {N m : Nat} (h : N = NZ + NZ + m) : (2 : Int) ^ N = ((PZ * PZ * 2 ^ m : Nat) : Int) := by
  rw [two_cast, h, Nat.pow_add, Nat.pow_add, ← pz_def]
theorem pz_m {N m : Nat} (h : N = NZ + m) : (2 : Int) ^ N = ((PZ * 2 ^ m : Nat) : Int) := by
  rw [two_cast, h, Nat.pow_add, ← pz_def]
theorem xv_pow48 : xv 2201 (powX (-48)) = ((PZ * PZ * 2 ^ 5 : Nat) : Int) ∧ xv 1127 (powX (-48)) = ((PZ * 2 ^ 5 : Nat) : Int) := by
  constructor
  · obtain ⟨N, hN⟩ : ∃ N : Nat, N = NZ + NZ + 5 := ⟨_, rfl⟩
    rw [← pz_n hN]
    unfold xv powX
    show 1 * (2 : Int) ^ (-48 + ((2201 : Nat) : Int)).toNat = _
    rw [Int.one_mul, show (-48 + ((2201 : Nat) : Int)).toNat = N by rw [hN, nz]; omega]
  · obtain ⟨N, hN⟩ : ∃ N : Nat, N = NZ + 5 := ⟨_, rfl⟩
    rw [← pz_m hN]
    unfold xv powX
    show 1 * (2 : Int) ^ (-48 + ((1127 : Nat) : Int)).toNat = _
    rw [Int.one_mul, show (-48 + ((1127 : Nat) : Int)).toNat = N by rw [hN, nz]; omega]
theorem xv_whole1 : xv 2201 (wholeX (-1)) = -((PZ * PZ * UU : Nat) : Int) := by
  obtain ⟨N, hN⟩ : ∃ N : Nat, N = NZ + NZ + 53 := ⟨_, rfl⟩
  rw [uu53, ← pz_n hN]
  unfold xv wholeX
  show -1 * (2 : Int) ^ (0 + ((2201 : Nat) : Int)).toNat = _
  rw [Int.neg_mul, Int.one_mul, show (0 + ((2201 : Nat) : Int)).toNat = N by rw [hN, nz]; omega]
theorem big_wpw {N : Nat} (h : N ≤ 3200) : (2 : Int) ^ N ≤ wpw 200 := pow_le_wpw (by omega)
theorem exg_pow48 : Exg (powX (-48)) 1 := by
  refine ⟨by show (-2201 : Int) ≤ -48; omega, by show (-48 : Int) ≤ 8192; omega, ?_⟩
  obtain ⟨N, hN⟩ : ∃ N : Nat, N = NZ + NZ + 5 := ⟨_, rfl⟩
  have h := big_wpw (N := N) (by rw [hN, nz]; omega)
  rw [pz_n hN] at h
  rw [xv_pow48.1, Int.natAbs_natCast]
  omega
theorem exg_whole1 : Exg (wholeX (-1)) 1 := by
  refine ⟨by show (-2201 : Int) ≤ 0; omega, by show (0 : Int) ≤ 8192; omega, ?_⟩
  obtain ⟨N, hN⟩ : ∃ N : Nat, N = NZ + NZ + 53 := ⟨_, rfl⟩
  have h := big_wpw (N := N) (by rw [hN, nz]; omega)
  rw [pz_n hN, ← uu53] at h
  rw [xv_whole1, Int.natAbs_neg, Int.natAbs_natCast]
  omega
theorem xv_of2201 {r : Nat} (hf : finB r = true) (hr : r < 2 ^ 64) : xv 2201 (ofX r) = sval r * ((PZ * UU : Nat) : Int) := by
  rw [show (2201 : Nat) = 1074 + 1127 from rfl, xv_up (E := 1074) (ofX_e hf hr).1, xv_of, pz_1127]
theorem xv_room {r : Nat} (hf : finB r = true) (hr : r < 2 ^ 64) : xv 2201 ((ofX r).abs.mul (powX (-48))) = ((vlu r * (PZ * 2 ^ 5) : Nat) : Int) := by
  have h := (ofX_e hf hr).1
  rw [show (2201 : Nat) = 1074 + 1127 from rfl, xv_mul (E := 1074) (F := 1127) (by show -((1074 : Nat) : Int) ≤ (ofX r).abs.e; exact h) (by show -((1127 : Nat) : Int) ≤ -48; omega), xv_pow48.2, xv_abs, xv_of, sval_abs, ← Int.natCast_mul]
theorem exg_room {r : Nat} (hf : finB r = true) (hr : r < 2 ^ 64) : Exg ((ofX r).abs.mul (powX (-48))) 1 := by
  obtain ⟨e0, e1⟩ := ofX_e hf hr
  refine ⟨by show (-2201 : Int) ≤ (ofX r).e + -48; omega, by show (ofX r).e + -48 ≤ 8192; omega, ?_⟩
  have g := (exg_ofX hf hr).hb
  rw [xv_of2201 hf hr, Int.natAbs_mul, sval_abs, Int.natAbs_natCast] at g
  rw [xv_room hf hr, Int.natAbs_natCast]
  refine Int.le_trans ?_ g
  refine Int.ofNat_le.2 (Nat.mul_le_mul_left _ (Nat.mul_le_mul_left _ (by decide)))
theorem finL_two {x y : Nat} (hx : x < 2 ^ 64) (fx : rung x < 9218868437227405312) (hy : y < 2 ^ 64) (fy : rung y < 9218868437227405312) : FinL [x, y] := fun k => by
  match k with
  | 0 => exact ⟨(finB_iff hx).2 fx, hx⟩
  | 1 => exact ⟨(finB_iff hy).2 fy, hy⟩
  | k + 2 => exact ⟨by show finB 0 = true; decide, by show 0 < 2 ^ 64; decide⟩
theorem dotB_two {xs ys : List Nat} (hx : FinL xs) (hy : FinL ys) (hl : xs.length = 2) (hl2 : ys.length = 2) : DotB xs ys := dotB_of (by omega) (by omega) (fun k _ => hx k) (fun k _ => hy k)
theorem xv_two {xs ys : List Nat} (hx : FinL xs) (hy : FinL ys) : xv 2201 (dotX xs ys 2) = sumV xs ys 2 * ((UU : Nat) : Int) := by
  rw [show (2201 : Nat) = 2148 + 53 from rfl, xv_up (E := 2148) (dotx_exq hx hy 2).e0, xv_dotx hx hy 2]
  rfl
theorem nr_le {z x y w : Nat} (h : Nr x y w) (hz : z * 281474976710656 ≤ w → True) : ∃ t, x ≤ y + t ∧ y ≤ x + t ∧ t * UU ≤ w * 2 ^ 5 := by
  obtain ⟨t, h1, h2, h3⟩ := h
  refine ⟨t, h1, h2, ?_⟩
  rw [show UU = 281474976710656 * 2 ^ 5 by decide, ← Nat.mul_assoc]
  exact Nat.mul_le_mul_right _ h3
/-- All that the law of a rotation reckons. -/
structure TurnX (a b : Nat) (g : Giv) : Prop where
  fr : finB g.r = true
  d1 : DotB [g.c, g.s] [g.c, g.s]
  d2 : DotB [g.c, g.s] [a, b]
  d3 : DotB [g.c, fneg g.s] [b, a]
  s1 : Exg (dotX [g.c, g.s] [g.c, g.s] 2) 2
  s2 : Exg (dotX [g.c, g.s] [a, b] 2) 2
  s3 : Exg (dotX [g.c, fneg g.s] [b, a] 2) 2
  r : Exg (ofX g.r) 1
  room : Exg ((ofX g.r).abs.mul (powX (-48))) 1
  y1 : ¬ 0 < ((dotX [g.c, g.s] [g.c, g.s] 2).add (wholeX (-1))).abs.cmp (powX (-48))
  y2 : ¬ 0 < ((dotX [g.c, g.s] [a, b] 2).add (ofX g.r).neg).abs.cmp ((ofX g.r).abs.mul (powX (-48)))
  y3 : ¬ 0 < (dotX [g.c, fneg g.s] [b, a] 2).abs.cmp ((ofX g.r).abs.mul (powX (-48)))
theorem int_near {x y t : Nat} (h1 : x ≤ y + t) (h2 : y ≤ x + t) : ((x : Int) - (y : Int)).natAbs ≤ t := by omega
theorem turnX_of {a b : Nat} {g : Giv} (ha : a < 2 ^ 64) (hb : b < 2 ^ 64) (fa : rung a < 9218868437227405312) (fb : rung b < 9218868437227405312) (G : GivB a b g) : TurnX a b g := by
  have fr := (finB_iff G.rl).2 G.rf
  obtain ⟨n1, n2, n3⟩ := fneg_val G.sl G.sf
  have Lc := finL_two G.cl G.cf G.sl G.sf
  have Ln := finL_two G.cl G.cf n1 n2
  have La := finL_two ha fa hb fb
  have Lb := finL_two hb fb ha fa
  have s1 := exg_of (dotx_exq Lc Lc 2)
  have s2 := exg_of (dotx_exq Lc La 2)
  have s3 := exg_of (dotx_exq Ln Lb 2)
  have gr := exg_ofX fr G.rl
  have gm := exg_room fr G.rl
  have rv := sval_pos' G.rs
  refine ⟨fr, dotB_two Lc Lc rfl rfl, dotB_two Lc La rfl rfl, dotB_two Ln Lb rfl rfl, s1, s2, s3, gr, gm, ?_, ?_, ?_⟩
  · have go := exg_add s1 exg_whole1
    refine cmp_le (E := 2201) (exg_abs go).e0 exg_pow48.e0 ?_
    obtain ⟨t, t1, t2, t3⟩ := nr_le (z := 0) G.one (fun _ => trivial)
    have e : xv 2201 ((dotX [g.c, g.s] [g.c, g.s] 2).add (wholeX (-1))) = (((vlu g.c * vlu g.c + vlu g.s * vlu g.s : Nat) : Int) - ((PZ * PZ : Nat) : Int)) * ((UU : Nat) : Int) := by
      rw [xv_add (E := 2201) s1.e0 exg_whole1.e0, xv_two Lc Lc, xv_whole1, Int.sub_mul]
      rw [show sumV [g.c, g.s] [g.c, g.s] 2 = ((vlu g.c * vlu g.c + vlu g.s * vlu g.s : Nat) : Int) by
        show 0 + sval g.c * sval g.c + sval g.s * sval g.s = _
        rw [sval_sgz, sgz_mul, sval_sgz, sgz_mul, Bool.xor_self, Bool.xor_self]
        simp [sgz]]
      rw [Int.natCast_mul (PZ * PZ)]
      rfl
    rw [xv_abs, e, Int.natAbs_mul, Int.natAbs_natCast, xv_pow48.1]
    exact Int.ofNat_le.2 (Nat.le_trans (Nat.mul_le_mul_right _ (int_near t1 t2)) t3)
  · have gl := exg_add s2 (exg_neg gr)
    refine cmp_le (E := 2201) (exg_abs gl).e0 gm.e0 ?_
    obtain ⟨t, t1, t2, t3⟩ := nr_le (z := 0) G.lead (fun _ => trivial)
    have e : xv 2201 ((dotX [g.c, g.s] [a, b] 2).add (ofX g.r).neg) = (((vlu a * vlu g.c + vlu b * vlu g.s : Nat) : Int) - ((vlu g.r * PZ : Nat) : Int)) * ((UU : Nat) : Int) := by
      rw [xv_add (E := 2201) s2.e0 (exg_neg gr).e0, xv_two Lc La, xv_neg, xv_of2201 fr G.rl, rv, Int.sub_mul]
      rw [show sumV [g.c, g.s] [a, b] 2 = ((vlu a * vlu g.c + vlu b * vlu g.s : Nat) : Int) by
        show 0 + sval g.c * sval a + sval g.s * sval b = _
        rw [sval_sgz, sval_sgz a, sgz_mul, sval_sgz, sval_sgz b, sgz_mul, G.sc, G.ss, Bool.xor_self, Bool.xor_self]
        simp [sgz, Int.mul_comm]]
      rw [Int.natCast_mul PZ, Int.natCast_mul (vlu g.r), Int.mul_assoc]
      rfl
    rw [xv_abs, e, Int.natAbs_mul, Int.natAbs_natCast, xv_room fr G.rl, ← Nat.mul_assoc]
    exact Int.ofNat_le.2 (Nat.le_trans (Nat.mul_le_mul_right _ (int_near t1 t2)) t3)
  · refine cmp_le (E := 2201) (exg_abs s3).e0 gm.e0 ?_
    obtain ⟨t, t1, t2, t3⟩ := nr_le (z := 0) G.none (fun _ => trivial)
    have e : sumV [g.c, fneg g.s] [b, a] 2 = sgz (sgn a ^^ sgn b) (vlu g.c * vlu b) - sgz (sgn a ^^ sgn b) (vlu g.s * vlu a) := by
      show 0 + sval g.c * sval b + sval (fneg g.s) * sval a = _
      rw [n3, Int.neg_mul, sval_sgz, sval_sgz b, sgz_mul, sval_sgz, sval_sgz a, sgz_mul, G.sc, G.ss, Bool.xor_comm (sgn b)]
      omega
    rw [xv_abs, xv_two Ln Lb, e, Int.natAbs_mul, Int.natAbs_natCast, xv_room fr G.rl, ← Nat.mul_assoc]
    exact Int.ofNat_le.2 (Nat.le_trans (Nat.mul_le_mul_right _ (sgz_sub _ _ _ t1 t2)) t3)
theorem turn_case {a b : Nat} (ha : a < 2 ^ 64) (hb : b < 2 ^ 64) (h : (((fcmp .eql a 0 || fcmp .eql b 0) || !tameB a 900) || !tameB b 900) = false) : GivB a b (givR a b) ∧ TurnX a b (givR a b) := by
  rw [Bool.or_eq_false_iff, Bool.or_eq_false_iff, Bool.or_eq_false_iff] at h
  obtain ⟨⟨⟨a0, b0⟩, ta⟩, tb⟩ := h
  have ta' : tameB a 900 = true := by simpa using ta
  have tb' : tameB b 900 = true := by simpa using tb
  have G := givB_of ha hb a0 b0 ta' tb'
  exact ⟨G, turnX_of ha hb (tame_fin ha a0 ta') (tame_fin hb b0 tb') G⟩
theorem near_no {e : Int} (h : cmpB .neq e 0 = true) (h0 : e = 0) : False := by
  rw [h0] at h; cases h
end Go.Bn
