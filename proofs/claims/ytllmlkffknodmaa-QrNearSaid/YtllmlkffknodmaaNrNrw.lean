/-
  The law of lengths: what is reckoned exactly; the greater of two by the machine.
-/
import Derived.Test.YtllmlkffknodmaaNrNrl
set_option linter.unusedVariables false
set_option linter.unusedSimpArgs false
namespace Go.Bn
open Go
/-! ## Exact numbers of so many digits -/
def pw2 (b : Nat) : Nat := 2 ^ b
theorem pw2_mono {a b : Nat} (h : a ≤ b) : pw2 a ≤ pw2 b := Nat.pow_le_pow_right (by omega) h
theorem pw2_add (a b : Nat) : pw2 (a + b) = pw2 a * pw2 b := Nat.pow_add 2 a b
theorem pw2_suc (a : Nat) : pw2 (a + 1) = pw2 a * 2 := Nat.pow_succ 2 a
theorem pw2_int (a : Nat) : ((pw2 a : Nat) : Int) = 2 ^ a := (two_cast a).symm
theorem pw2_6 : pw2 6 = 64 := rfl
theorem pw2_53 : pw2 53 = 9007199254740992 := by decide
/-- From 2^-a on, of at most b digits, scaled by at most 2^b. -/
structure Exl (x : Exa) (a b : Nat) : Prop where
  e0 : -(a : Int) ≤ x.e
  e1 : x.e ≤ b
  hb : x.m.natAbs ≤ pw2 b
theorem exl_up {x : Exa} {a b c d : Nat} (h : Exl x a b) (h1 : a ≤ c) (h2 : b ≤ d) : Exl x c d := ⟨by have := h.e0; omega, by have := h.e1; omega, Nat.le_trans h.hb (pw2_mono h2)⟩
theorem exl_mul {x y : Exa} {a b c d : Nat} (hx : Exl x a b) (hy : Exl y c d) : Exl (x.mul y) (a + c) (b + d) := by
  refine ⟨?_, ?_, ?_⟩
  · show -((a + c : Nat) : Int) ≤ x.e + y.e
    have := hx.e0; have := hy.e0; omega
  · show x.e + y.e ≤ ((b + d : Nat) : Int)
    have := hx.e1; have := hy.e1; omega
  · show (x.m * y.m).natAbs ≤ _
    rw [Int.natAbs_mul, pw2_add]
    exact Nat.mul_le_mul hx.hb hy.hb
theorem exl_neg {x : Exa} {a b : Nat} (h : Exl x a b) : Exl x.neg a b := ⟨h.e0, h.e1, by show (-x.m).natAbs ≤ _; rw [Int.natAbs_neg]; exact h.hb⟩
theorem exl_abs {x : Exa} {a b : Nat} (h : Exl x a b) : Exl x.abs a b := ⟨h.e0, h.e1, by show ((x.m.natAbs : Nat) : Int).natAbs ≤ _; rw [Int.natAbs_natCast]; exact h.hb⟩
theorem exl_low {x : Exa} {a b : Nat} (h : Exl x a b) {e : Int} (he : -(a : Int) ≤ e) : (x.low e).m.natAbs ≤ pw2 (2 * b + a) := by
  have h0 := h.e0
  have h1 := h.e1
  unfold Exa.low
  split
  · exact Nat.le_trans h.hb (pw2_mono (by omega))
  · show (x.m * 2 ^ (x.e - e).toNat).natAbs ≤ _
    rw [Int.natAbs_mul, Int.natAbs_pow, show (2 : Int).natAbs = 2 from rfl]
    refine Nat.le_trans (Nat.mul_le_mul h.hb (pw2_mono (show (x.e - e).toNat ≤ b + a by omega))) ?_
    rw [← pw2_add]
    exact pw2_mono (by omega)
theorem exl_add {x y : Exa} {a b : Nat} (hx : Exl x a b) (hy : Exl y a b) : Exl (x.add y) a (2 * b + a + 1) := by
  have x0 := hx.e0
  have y0 := hy.e0
  have x1 := hx.e1
  have y1 := hy.e1
  unfold Exa.add
  split
  · exact exl_up hy (by omega) (by omega)
  · split
    · exact exl_up hx (by omega) (by omega)
    · refine ⟨by show -(a : Int) ≤ min x.e y.e; omega, by show min x.e y.e ≤ _; omega, ?_⟩
      show ((x.low (min x.e y.e)).m + (y.low (min x.e y.e)).m).natAbs ≤ _
      have g1 := exl_low hx (e := min x.e y.e) (by omega)
      have g2 := exl_low hy (e := min x.e y.e) (by omega)
      rw [pw2_suc]
      omega
theorem exl_sml {z : Int} {n : Nat} (h : z.natAbs ≤ pw2 n) (hn : n ≤ 127000) : Sml z := ⟨by
  have h1 : ((z.natAbs : Nat) : Int) ≤ 2 ^ n := by rw [← pw2_int]; exact Int.ofNat_le.2 h
  have h2 : (2 : Int) ^ n < wpw 4000 := by
    have h3 := pow_le_wpw (a := n) (w := 3999) (by omega)
    have h4 := wpw_pos 3999
    have h5 : (1 : Int) < wpw 1 := by decide +kernel
    have h6 := wpw_add 1 3999
    have h7 := Int.mul_lt_mul_of_pos_right h5 (show 0 < wpw 3999 by omega)
    rw [Int.one_mul, ← h6] at h7
    have h8 : wpw (1 + 3999) = wpw 4000 := rfl
    omega
  omega⟩
theorem exl_exb {x : Exa} {a b : Nat} (h : Exl x a b) (ha : a ≤ 100000) (hb : b ≤ 100000) : Exb x := ⟨exl_sml h.hb (by omega), by have := h.e0; omega, by have := h.e1; omega⟩
theorem exl_sml2 {x y : Exa} {a b : Nat} (hx : Exl x a b) (hy : Exl y a b) (h : 2 * b + a ≤ 127000) : ∀ e, e = min x.e y.e → Sml (x.low e).m ∧ Sml (y.low e).m := fun e he => by
  have x0 := hx.e0
  have y0 := hy.e0
  exact ⟨exl_sml (exl_low hx (by omega)) h, exl_sml (exl_low hy (by omega)) h⟩
theorem exl_ofX {x : Nat} (hf : finB x = true) (hx : x < 2 ^ 64) : Exl (ofX x) 1074 1100 := by
  obtain ⟨h1, h2⟩ := ofX_e hf hx
  refine ⟨by omega, by omega, ?_⟩
  have := ofX_small x
  refine Nat.le_trans (Nat.le_of_lt this) ?_
  rw [← pw2_53]
  exact pw2_mono (by omega)
theorem exl_whole {n : Nat} (h : n ≤ 64) : Exl (wholeX (n : Int)) 0 6 := ⟨by show -((0 : Nat) : Int) ≤ 0; omega, by show (0 : Int) ≤ ((6 : Nat) : Int); omega, by show ((n : Int)).natAbs ≤ pw2 6; rw [pw2_6]; omega⟩
theorem exl_pow {k : Nat} : Exl (powX (-(k : Int))) k 1 := ⟨by show -(k : Int) ≤ -(k : Int); omega, by show -(k : Int) ≤ ((1 : Nat) : Int); omega, by show ((1 : Int)).natAbs ≤ pw2 1; decide⟩
theorem wpw_le_pow {w a : Nat} (h : 32 * w ≤ a) : wpw w ≤ (2 : Int) ^ a := by
  have e : wpw w = 2 ^ (32 * w) := by unfold wpw; rw [Int.pow_mul]; rfl
  rw [e]
  exact pow_mono h
theorem exl_dot {xs : List Nat} (hF : FinL xs) : ∀ k, k ≤ 48 → Exl (dotX xs xs k) 2148 10000 := fun k hk => by
  have h : ∀ k, k ≤ 48 → Exq (dotX xs xs k) k := by
    intro k
    induction k with
    | zero => intro _; exact exq_zero
    | succ k ih => intro hk; exact exq_add (ih (by omega)) (prd_exq hF hF k)
  have hq := h k hk
  refine ⟨hq.e0, by have := hq.e1; omega, ?_⟩
  have h1 := exq_low hq (e := (dotX xs xs k).e) hq.e0
  rw [low_self] at h1
  have h2 : (k : Int) * wpw 140 ≤ ((pw2 10000 : Nat) : Int) := by
    have h3 : (k : Int) * wpw 140 ≤ wpw 1 * wpw 140 := Int.mul_le_mul_of_nonneg_right (by
      have : (1000 : Int) < wpw 1 := by decide +kernel
      omega) (by have := wpw_pos 140; omega)
    rw [← wpw_add] at h3
    refine Int.le_trans h3 ?_
    rw [pw2_int]
    exact wpw_le_pow (by omega)
  exact Int.ofNat_le.1 (Int.le_trans h1 h2)
def romX (n r : Nat) : Exa := (((((ofX r).mul (wholeX ((n + 4 : Nat) : Int))).mul (powX (-53))).mul (wholeX ((9 : Nat) : Int))).mul (powX (-3))).add (powX (-1074))
section sizes
variable {n r : Nat} (hn : n ≤ 48) (hf : finB r = true) (hr : r < 2 ^ 64)
include hn hf hr
theorem room_1 : Exl ((ofX r).mul (wholeX ((n + 4 : Nat) : Int))) 1074 1106 := exl_mul (exl_ofX hf hr) (exl_whole (by omega))
theorem room_2 : Exl (((ofX r).mul (wholeX ((n + 4 : Nat) : Int))).mul (powX (-53))) 1127 1107 := exl_mul (room_1 hn hf hr) (exl_pow (k := 53))
theorem room_3 : Exl ((((ofX r).mul (wholeX ((n + 4 : Nat) : Int))).mul (powX (-53))).mul (wholeX ((9 : Nat) : Int))) 1127 1113 := exl_mul (room_2 hn hf hr) (exl_whole (by omega))
theorem room_4 : Exl (((((ofX r).mul (wholeX ((n + 4 : Nat) : Int))).mul (powX (-53))).mul (wholeX ((9 : Nat) : Int))).mul (powX (-3))) 1130 1114 := exl_mul (room_3 hn hf hr) (exl_pow (k := 3))
theorem room_5 : Exl (romX n r) 1130 4000 := exl_up (exl_add (room_4 hn hf hr) (exl_up (exl_pow (k := 1074)) (by omega) (by omega))) (by omega) (by omega)
theorem room_lo : Exl ((ofX r).add (romX n r).neg) 1130 10000 := exl_up (exl_add (exl_up (exl_ofX hf hr) (by omega) (by omega)) (exl_neg (room_5 hn hf hr))) (by omega) (by omega)
theorem room_hi : Exl ((ofX r).add (romX n r)) 1130 10000 := exl_up (exl_add (exl_up (exl_ofX hf hr) (by omega) (by omega)) (room_5 hn hf hr)) (by omega) (by omega)
theorem room_x2 : Exl ((romX n r).add (romX n r)) 1130 10000 := exl_up (exl_add (room_5 hn hf hr) (room_5 hn hf hr)) (by omega) (by omega)
theorem room_x3 : Exl (((romX n r).add (romX n r)).add (romX n r)) 1130 30000 := exl_up (exl_add (room_x2 hn hf hr) (exl_up (room_5 hn hf hr) (by omega) (by omega))) (by omega) (by omega)
theorem xv_rom (hs : sgn r = false) : xv 1130 (romX n r) = ((roomV n (vlu r) : Nat) : Int) := by
  have e0 := (exl_ofX hf hr).e0
  have e1 := (room_1 hn hf hr).e0
  have e2 := (room_2 hn hf hr).e0
  have e3 := (room_3 hn hf hr).e0
  have e4 := (room_4 hn hf hr).e0
  unfold romX
  rw [xv_add (E := 1130) e4 (by show -((1130 : Nat) : Int) ≤ -1074; omega)]
  rw [show (1130 : Nat) = 1127 + 3 from rfl, xv_mul (E := 1127) (F := 3) e3 (by show -((3 : Nat) : Int) ≤ -3; omega)]
  rw [show (1127 : Nat) = 1127 + 0 from rfl, xv_mul (E := 1127) (F := 0) e2 (by show -((0 : Nat) : Int) ≤ 0; omega)]
  rw [show xv 1127 (((ofX r).mul (wholeX ((n + 4 : Nat) : Int))).mul (powX (-53))) = xv 1074 ((ofX r).mul (wholeX ((n + 4 : Nat) : Int))) * xv 53 (powX (-53)) from xv_mul (E := 1074) (F := 53) e1 (by show -((53 : Nat) : Int) ≤ -53; omega)]
  rw [show xv 1074 ((ofX r).mul (wholeX ((n + 4 : Nat) : Int))) = xv 1074 (ofX r) * xv 0 (wholeX ((n + 4 : Nat) : Int)) from xv_mul (E := 1074) (F := 0) e0 (by show -((0 : Nat) : Int) ≤ 0; omega)]
  rw [xv_of, sval_pos' hs]
  have q1 : xv 0 (wholeX ((n + 4 : Nat) : Int)) = ((n + 4 : Nat) : Int) := by unfold xv wholeX; show ((n + 4 : Nat) : Int) * 2 ^ ((0 : Int) + ((0 : Nat) : Int)).toNat = _; rw [show ((0 : Int) + ((0 : Nat) : Int)).toNat = 0 from rfl, Int.pow_zero, Int.mul_one]
  have q2 : xv 53 (powX (-53)) = 1 := by unfold xv powX; show (1 : Int) * 2 ^ ((-53 : Int) + ((53 : Nat) : Int)).toNat = _; rw [show ((-53 : Int) + ((53 : Nat) : Int)).toNat = 0 from rfl]; rfl
  have q3 : xv 0 (wholeX ((9 : Nat) : Int)) = 9 := by unfold xv wholeX; show ((9 : Nat) : Int) * 2 ^ ((0 : Int) + ((0 : Nat) : Int)).toNat = _; rw [show ((0 : Int) + ((0 : Nat) : Int)).toNat = 0 from rfl]; rfl
  have q4 : xv 3 (powX (-3)) = 1 := by unfold xv powX; show (1 : Int) * 2 ^ ((-3 : Int) + ((3 : Nat) : Int)).toNat = _; rw [show ((-3 : Int) + ((3 : Nat) : Int)).toNat = 0 from rfl]; rfl
  have q5 : xv (1127 + 0 + 3) (powX (-1074)) = ((Q56 : Nat) : Int) := by unfold xv powX; show (1 : Int) * 2 ^ ((-1074 : Int) + ((1127 + 0 + 3 : Nat) : Int)).toNat = _; rw [show ((-1074 : Int) + ((1127 + 0 + 3 : Nat) : Int)).toNat = 56 from rfl]; decide
  rw [q1, q2, q3, q4, q5]
  unfold roomV
  push_cast
  rw [Int.mul_one, Int.mul_one]
end sizes
theorem xv_ups {E k : Nat} {x : Exa} (h : -(E : Int) ≤ x.e) : xv (E + k) x = xv E x * 2 ^ k := by
  unfold xv
  rw [show (x.e + ((E + k : Nat) : Int)).toNat = (x.e + (E : Int)).toNat + k by omega, Int.pow_add, Int.mul_assoc]
theorem xv_r {r : Nat} (hf : finB r = true) (hr : r < 2 ^ 64) : xv 1130 (ofX r) = sval r * ((Q56 : Nat) : Int) := by
  have := xv_ups (k := 56) (exl_ofX hf hr).e0
  rw [xv_of] at this
  exact this
theorem signI_gt {z : Int} (h : 0 < signI z) : 0 < z := by
  unfold signI at h
  split at h
  · omega
  · split at h <;> omega
theorem signI_ge {z : Int} (h : 0 ≤ z) : ¬ signI z < 0 := by
  unfold signI
  split
  · omega
  · split <;> omega
theorem xv_sq {xs : List Nat} (hF : FinL xs) : xv 2260 (dotX xs xs xs.length) = ((sqV xs xs.length * (Q56 * Q56) : Nat) : Int) ∨ 48 < xs.length := by
  by_cases hn : 48 < xs.length
  · exact .inr hn
  · left
    have h := xv_ups (E := 2148) (k := 112) (exl_dot hF xs.length (by omega)).e0
    rw [xv_dot (fun k _ => hF k) (fun k _ => hF k) (Nat.le_refl _), sum_sq] at h
    rw [show (2260 : Nat) = 2148 + 112 from rfl, h]
    push_cast
    congr 1
theorem max_val {xs : List Nat} (hF : FinL xs) : maxL xs < 2 ^ 64 ∧ rung (maxL xs) < 9218868437227405312 ∧ sgn (maxL xs) = false := by
  have m1 := maxTo_fin hF xs.length
  exact ⟨m1.1, (finB_iff m1.1).1 m1.2, (max_spec hF xs.length).1⟩
theorem lss_not {x y : Nat} (fx : rung x < 9218868437227405312) (fy : rung y < 9218868437227405312) (sx : sgn x = false) (sy : sgn y = false) (h : vlu y ≤ vlu x) : fcmp .lss x y = false := by
  unfold fcmp
  rw [ford_val' fx fy, sval_pos' sx, sval_pos' sy]
  rcases Int.lt_trichotomy (vlu x : Int) (vlu y : Int) with g | g | g
  · omega
  · rw [Int.compare_eq_eq.2 g]; rfl
  · rw [Int.compare_eq_gt.2 g]; rfl
/-- A length that is told. -/
structure LenQ (xs : List Nat) : Prop where
  n : xs.length ≤ 48
  F : FinL xs
  f : rung (lenL xs) < 9218868437227405312
  fb : finB (lenL xs) = true
  l : lenL xs < 2 ^ 64
  s : sgn (lenL xs) = false
  most : vlu (maxL xs) ≤ vlu (lenL xs)
  up : sqV xs xs.length * (Q56 * Q56) ≤ (vlu (lenL xs) * Q56 + roomV xs.length (vlu (lenL xs))) * (vlu (lenL xs) * Q56 + roomV xs.length (vlu (lenL xs)))
  dn : (vlu (lenL xs) * Q56 - roomV xs.length (vlu (lenL xs))) * (vlu (lenL xs) * Q56 - roomV xs.length (vlu (lenL xs))) ≤ sqV xs xs.length * (Q56 * Q56)
theorem lenQ_of {xs : List Nat} (hF : FinL xs) (hn : xs.length ≤ 48) (f : rung (lenL xs) < 9218868437227405312) : LenQ xs := by
  have hl := lenL_lt (xs := xs)
  cases hb : powB xs
  · have e := lenL_0 hb
    have hz : sqV xs xs.length = 0 := sq_zero _ (vlu_max0 hF hb)
    have hm : vlu (maxL xs) = 0 := by
      have m1 := max_val hF
      unfold powB at hb
      rw [show fcmp .eql (maxL xs) 0 = decide (vlu (maxL xs) = 0) from eql_zero m1.1 m1.2.1] at hb
      simpa using hb
    refine ⟨hn, hF, f, (finB_iff hl).2 f, hl, by rw [e]; decide, by rw [hm]; exact Nat.zero_le _, by rw [hz, Nat.zero_mul]; exact Nat.zero_le _, ?_⟩
    rw [e, vlu_z, Nat.zero_mul, Nat.zero_sub, Nat.zero_mul]
    exact Nat.zero_le _
  · obtain ⟨a1, a2⟩ := len_near hF hn hb f
    exact ⟨hn, hF, f, (finB_iff hl).2 f, hl, len_sgn hF hn hb, len_most hF hn hb f, a1, a2⟩
theorem lenR_bad {xs : List Nat} (h : (lenR xs).e ≠ 0) : (lenR xs).a = 0 := by
  unfold lenR orN at h ⊢
  split at h
  · rename_i h0
    rw [if_pos h0]
    split at h
    · exact absurd rfl h
    · rename_i h1
      rw [if_neg h1]; rfl
  · rename_i h0
    rw [if_neg h0]; rfl
theorem lenR_good {xs : List Nat} (hl : LtL xs) (h : (lenR xs).e = 0) : LenQ xs ∧ (lenR xs).a = lenL xs := by
  unfold lenR orN at h ⊢
  split at h
  · rename_i h0
    obtain ⟨h1, h2⟩ := lchkW_zero h0
    have hF := finL_mk h2 hl
    rw [if_pos h0]
    split at h
    · rename_i h3
      rw [if_pos h3]
      exact ⟨lenQ_of hF h1 ((finB_iff lenL_lt).1 ((finQ_fin lenL_lt).symm.trans h3)), rfl⟩
    · exact absurd h (by show ¬ (5 : Int) = 0; decide)
  · rename_i h0
    exact absurd h h0
theorem lenR_mk {xs : List Nat} (hF : FinL xs) (hn : xs.length ≤ 48) (f : rung (lenL xs) < 9218868437227405312) : lenR xs = ⟨lenL xs, 0⟩ := by
  unfold lenR orN
  have h1 : lchkW xs = 0 := by
    unfold lchkW
    rw [if_neg (by omega), if_neg]
    intro h
    have : xs.all finB = true := List.all_eq_true.2 fun x hx => (finL_mem.1 hF x hx).1
    rw [this] at h
    cases h
  rw [if_pos h1, if_pos ((finQ_fin lenL_lt).trans ((finB_iff lenL_lt).2 f))]
theorem lenR_inf {xs : List Nat} (hF : FinL xs) (hn : xs.length ≤ 48) (h : (lenR xs).e ≠ 0) : ¬ rung (lenL xs) < 9218868437227405312 := fun f => h (by rw [lenR_mk hF hn f])
theorem LenQ.lt {xs : List Nat} (h : LenQ xs) : fcmp .lss (lenL xs) (maxL xs) = false := lss_not h.f (max_val h.F).2.1 h.s (max_val h.F).2.2 h.most
theorem LenQ.lov {xs : List Nat} (h : LenQ xs) : xv 1130 ((ofX (lenL xs)).add (romX xs.length (lenL xs)).neg) = ((vlu (lenL xs) * Q56 : Nat) : Int) - ((roomV xs.length (vlu (lenL xs)) : Nat) : Int) := by
  have h1 := exl_up (exl_ofX h.fb h.l) (show 1074 ≤ 1130 by omega) (Nat.le_refl _)
  rw [xv_add h1.e0 (exl_neg (room_5 h.n h.fb h.l)).e0, xv_neg, xv_r h.fb h.l, xv_rom h.n h.fb h.l h.s, sval_pos' h.s]
  push_cast
  omega
theorem LenQ.hiv {xs : List Nat} (h : LenQ xs) : xv 1130 ((ofX (lenL xs)).add (romX xs.length (lenL xs))) = ((vlu (lenL xs) * Q56 : Nat) : Int) + ((roomV xs.length (vlu (lenL xs)) : Nat) : Int) := by
  have h1 := exl_up (exl_ofX h.fb h.l) (show 1074 ≤ 1130 by omega) (Nat.le_refl _)
  rw [xv_add h1.e0 (room_5 h.n h.fb h.l).e0, xv_r h.fb h.l, xv_rom h.n h.fb h.l h.s, sval_pos' h.s]
  push_cast
  omega
theorem LenQ.loc {xs : List Nat} (h : LenQ xs) (hs : 0 < signI ((ofX (lenL xs)).add (romX xs.length (lenL xs)).neg).m) : ¬ 0 < (((ofX (lenL xs)).add (romX xs.length (lenL xs)).neg).mul ((ofX (lenL xs)).add (romX xs.length (lenL xs)).neg)).cmp (dotX xs xs xs.length) := by
  have hlo := room_lo h.n h.fb h.l
  have hd := exl_up (exl_dot h.F xs.length h.n) (show 2148 ≤ 2260 by omega) (Nat.le_refl _)
  have hm := signI_gt hs
  have hv := h.lov
  have hp : 0 < xv 1130 ((ofX (lenL xs)).add (romX xs.length (lenL xs)).neg) := Int.mul_pos hm (by have := pow_one_le ((((ofX (lenL xs)).add (romX xs.length (lenL xs)).neg).e + ((1130 : Nat) : Int)).toNat); omega)
  refine cmp_le (E := 2260) (exl_mul hlo hlo).e0 hd.e0 ?_
  rw [show (2260 : Nat) = 1130 + 1130 from rfl, xv_mul hlo.e0 hlo.e0]
  have hsq := (xv_sq h.F).resolve_right (by have := h.n; omega)
  rw [show (2260 : Nat) = 1130 + 1130 from rfl] at hsq
  rw [hsq, hv]
  rw [hv] at hp
  have hdn := h.dn
  generalize vlu (lenL xs) * Q56 = A at *
  generalize roomV xs.length (vlu (lenL xs)) = D at *
  rw [show (A : Int) - (D : Int) = ((A - D : Nat) : Int) by omega, ← Int.natCast_mul]
  exact Int.ofNat_le.2 hdn
theorem LenQ.hic {xs : List Nat} (h : LenQ xs) : ¬ (((ofX (lenL xs)).add (romX xs.length (lenL xs))).mul ((ofX (lenL xs)).add (romX xs.length (lenL xs)))).cmp (dotX xs xs xs.length) < 0 := by
  have hhi := room_hi h.n h.fb h.l
  have hd := exl_up (exl_dot h.F xs.length h.n) (show 2148 ≤ 2260 by omega) (Nat.le_refl _)
  rw [cmp_val (E := 2260) (exl_mul hhi hhi).e0 hd.e0]
  refine signI_ge ?_
  rw [show (2260 : Nat) = 1130 + 1130 from rfl, xv_mul hhi.e0 hhi.e0]
  have hsq := (xv_sq h.F).resolve_right (by have := h.n; omega)
  rw [show (2260 : Nat) = 1130 + 1130 from rfl] at hsq
  rw [hsq, h.hiv, ← Int.natCast_add, ← Int.natCast_mul]
  have := Int.ofNat_le.2 h.up
  omega
theorem near_c {p q1 q2 q3 : Bool} (h1 : p = false) (h2 : q1 = true → q2 = false) (h3 : q3 = false) : ¬ ((p || q1 && q2) || q3) = true := by
  subst h1; subst h3
  cases q1
  · simp
  · rw [h2 rfl]; simp
theorem LenQ.no {xs : List Nat} (h : LenQ xs) : ¬ ((fcmp .lss (lenL xs) (maxL xs) || cmpB .gtr (signI ((ofX (lenL xs)).add (romX xs.length (lenL xs)).neg).m) 0 && cmpB .gtr ((((ofX (lenL xs)).add (romX xs.length (lenL xs)).neg).mul ((ofX (lenL xs)).add (romX xs.length (lenL xs)).neg)).cmp (dotX xs xs xs.length)) 0) || cmpB .lss ((((ofX (lenL xs)).add (romX xs.length (lenL xs))).mul ((ofX (lenL xs)).add (romX xs.length (lenL xs)))).cmp (dotX xs xs xs.length)) 0) = true :=
  near_c h.lt (fun h2 => decide_eq_false (h.loc (of_decide_eq_true h2))) (decide_eq_false h.hic)
/-! ## The turned list -/
theorem max_half : rung 0x7fdfffffffffffff < 9218868437227405312 ∧ sgn 0x7fdfffffffffffff = false ∧ ∀ N, N = NZ + 1024 → 2 * vlu 0x7fdfffffffffffff ≤ 2 ^ N := by
  refine ⟨by decide +kernel, by decide +kernel, fun N hN => ?_⟩
  have e : vlu 0x7fdfffffffffffff = 9007199254740991 * 2 ^ (N - 54) := by
    unfold vlu
    rw [show mgn 0x7fdfffffffffffff = 9007199254740991 by decide +kernel, show (plc 0x7fdfffffffffffff + 1074).toNat = 2044 by decide +kernel, show N - 54 = 2044 by rw [hN, nz]]
  rw [e]
  have e2 : 2 ^ N = 2 ^ (N - 54) * 2 ^ 54 := by rw [← Nat.pow_add, show N - 54 + 54 = N by rw [hN, nz]]
  rw [e2]
  generalize 2 ^ (N - 54) = Z
  rw [show (2 : Nat) ^ 54 = 18014398509481984 by decide]
  omega
structure TrnQ (xs : List Nat) (k : Nat) : Prop where
  fb : finB (lenR (trnL xs k)).a = true
  l : (lenR (trnL xs k)).a < 2 ^ 64
  over : (lenR (trnL xs k)).e ≠ 0 → fcmp .lss (lenL xs) 0x7fdfffffffffffff = false
  near : (lenR (trnL xs k)).e = 0 → ¬ 0 < (((ofX (lenR (trnL xs k)).a).add (ofX (lenL xs)).neg).abs).cmp (((romX xs.length (lenL xs)).add (romX xs.length (lenL xs))).add (romX xs.length (lenL xs)))
theorem near_key {a b d : Nat} (h1 : a ≤ b + 3 * d) (h2 : b ≤ a + 3 * d) : ((((a : Int) + -(b : Int)).natAbs : Nat) : Int) ≤ (d : Int) + (d : Int) + (d : Int) := by omega
theorem trnQ_of {xs : List Nat} (h : LenQ xs) {k : Nat} (hk : k ≤ xs.length) : TrnQ xs k := by
  have hFt := finL_turn h.F k
  have hnt : (trnL xs k).length = xs.length := length_trnL hk
  have hS := sqV_turn h.F hk
  have hn := h.n
  by_cases he : (lenR (trnL xs k)).e = 0
  · obtain ⟨g, ga⟩ := lenR_good (finL_lt hFt) he
    refine ⟨by rw [ga]; exact g.fb, by rw [ga]; exact g.l, fun h2 => absurd he h2, fun _ => ?_⟩
    rw [ga]
    have u1 := h.up
    have u2 := h.dn
    have u3 := g.up
    have u4 := g.dn
    rw [hS, hnt] at u3 u4
    obtain ⟨n1, n2⟩ := near_two (by omega) u1 u2 u3 u4
    have x1 := exl_up (exl_ofX g.fb g.l) (show 1074 ≤ 1130 by omega) (Nat.le_refl _)
    have x2 := exl_up (exl_neg (exl_ofX h.fb h.l)) (show 1074 ≤ 1130 by omega) (Nat.le_refl _)
    have hd := exl_abs (exl_add x1 x2)
    refine cmp_le (E := 1130) hd.e0 (room_x3 h.n h.fb h.l).e0 ?_
    rw [xv_abs, xv_add x1.e0 x2.e0, xv_neg, xv_r g.fb g.l, xv_r h.fb h.l, xv_add (room_x2 h.n h.fb h.l).e0 (room_5 h.n h.fb h.l).e0, xv_add (room_5 h.n h.fb h.l).e0 (room_5 h.n h.fb h.l).e0, xv_rom h.n h.fb h.l h.s, sval_pos' h.s, sval_pos' g.s, ← Int.natCast_mul, ← Int.natCast_mul]
    exact near_key n1 n2
  · have h0 := lenR_bad he
    refine ⟨by rw [h0]; decide, by rw [h0]; decide, fun _ => ?_, fun h2 => absurd h2 he⟩
    obtain ⟨N, hN⟩ : ∃ N, N = NZ + 1024 := ⟨_, rfl⟩
    have hinf := lenR_inf hFt (by omega) he
    have hbt : powB (trnL xs k) = true := by
      cases hb : powB (trnL xs k)
      · exfalso
        apply hinf
        rw [lenL_0 hb]; decide
      · rfl
    have hi := len_inf hN hFt (by omega) hbt hinf
    rw [hS, hnt] at hi
    obtain ⟨m1, m2, m3⟩ := max_half
    have hH : 2 * 2 ^ (N - 1) = 2 ^ N := by rw [Nat.mul_comm, ← Nat.pow_succ, show (N - 1).succ = N by rw [hN, nz]]
    have hle := half_two (H := 2 ^ (N - 1)) (by omega) (show 57 ≤ N by rw [hN, nz]; omega) hH h.up hi
    refine lss_not h.f m1 h.s m2 (Nat.le_trans ?_ hle)
    have := m3 N hN
    clear hi
    omega
theorem trn_c {p q r s : Bool} (h1 : p = true → q = false) (h2 : r = true → s = false) : ¬ (p && q || r && s) = true := by
  cases p
  · cases r
    · simp
    · rw [h2 rfl]; simp
  · rw [h1 rfl]
    cases r
    · simp
    · rw [h2 rfl]; simp
theorem TrnQ.no {xs : List Nat} {k : Nat} (h : TrnQ xs k) : ¬ (cmpB .neq (lenR (trnL xs k)).e 0 && fcmp .lss (lenL xs) 9214364837600034815 || cmpB .eql (lenR (trnL xs k)).e 0 && cmpB .gtr ((((ofX (lenR (trnL xs k)).a).add (ofX (lenL xs)).neg).abs).cmp (((romX xs.length (lenL xs)).add (romX xs.length (lenL xs))).add (romX xs.length (lenL xs)))) 0) = true :=
  trn_c (fun h2 => h.over (by simpa [cmpB] using h2)) (fun h2 => decide_eq_false (h.near (by simpa [cmpB] using h2)))
/-! ## Powers of two -/
def allTN (xs : List Nat) (k : Int) : Bool := xs.all fun x => tameB x k
theorem all_tame {xs : List Nat} (h : allTN xs 900 = true) (i : Nat) (hi : i < xs.length) : tameB (xs.getD i 0) 900 = true := by
  unfold allTN at h
  rw [List.getD, List.getElem?_eq_getElem hi]
  exact List.all_eq_true.1 h _ (List.getElem_mem hi)
theorem or4_no {a b c d : Bool} (h : (!a || !b || !c || !d) = false) : a = true ∧ b = true ∧ c = true ∧ d = true := by
  revert h
  cases a <;> cases b <;> cases c <;> cases d <;> simp
theorem pow_yes {xs : List Nat} (h : LenQ xs) {j : Int} (j0 : -900 ≤ j) (j1 : j ≤ 900) (hc : (!allTN xs 900 || !allTN (pwL xs j) 900 || !tameB (lenL xs) 900 || !tameB (ldx (lenL xs) j) 900) = false) : (cmpB .eql (lenR (pwL xs j)).e 0 && fcmp .eql (lenR (pwL xs j)).a (ldx (lenL xs) j)) = true := by
  obtain ⟨c1, c2, c3, c4⟩ := or4_no hc
  obtain ⟨p1, p2, p3⟩ := pow_len h.F h.n j0 j1 (all_tame c1) (fun i hi => all_tame c2 i (by rw [length_pwL]; exact hi)) h.f c3 c4
  rw [lenR_mk p1 (by rw [length_pwL]; exact h.n) p2]
  show (cmpB .eql 0 0 && fcmp .eql (lenL (pwL xs j)) (ldx (lenL xs) j)) = true
  rw [p3]
  rfl
/-! ## What the walk needs of lists -/
theorem lt_all {xs : List Nat} (h : LtL xs) : xs.all (fun x => decide (x < 2 ^ 64)) = true := List.all_eq_true.2 fun x hx => by
  obtain ⟨i, hi, rfl⟩ := List.mem_iff_getElem.1 hx
  have := h i
  rw [List.getD, List.getElem?_eq_getElem hi] at this
  exact decide_eq_true this
theorem ltL_pw {xs : List Nat} (h : LtL xs) (j : Int) : LtL (pwL xs j) := fun k => by
  by_cases hk : k < xs.length
  · rw [pw_at hk]; exact ldx_lt (h k)
  · rw [getD_out (by rw [length_pwL]; exact hk)]; decide
/-- The second list, scaled up to k. -/
def pwI (xs ys : List Nat) (j : Int) (k : Nat) : List Nat := (pwL xs j).take k ++ ys.drop k
theorem length_pwI {xs ys : List Nat} {j : Int} {k : Nat} (hl : ys.length = xs.length) (hk : k ≤ xs.length) : (pwI xs ys j k).length = xs.length := by
  unfold pwI
  rw [List.length_append, List.length_take, List.length_drop, length_pwL]
  omega
theorem pwI_set {xs ys : List Nat} {j : Int} {k : Nat} (hl : ys.length = xs.length) (hk : k < xs.length) : (pwI xs ys j k).set ((k : Int)).toNat (ldx (xs.getD ((k : Int)).toNat 0) j) = pwI xs ys j (k + 1) := by
  have e : ((k : Int)).toNat = k := by omega
  rw [e]
  unfold pwI
  have h1 : ((pwL xs j).take k).length = k := by rw [List.length_take, length_pwL]; omega
  rw [take_snoc 0 (by rw [length_pwL]; exact hk), pw_at hk]
  have h2 : ys.drop k = ys.getD k 0 :: ys.drop (k + 1) := by
    rw [List.drop_eq_getElem_cons (by omega), List.getD, List.getElem?_eq_getElem (by omega)]; rfl
  rw [h2, List.set_append_right _ _ (by omega), h1, Nat.sub_self, List.set_cons_zero, List.append_assoc]
  rfl
theorem pwI_all {xs ys : List Nat} {j : Int} {k : Nat} (hl : ys.length = xs.length) (hk : k = xs.length) : pwI xs ys j k = pwL xs j := by
  unfold pwI
  rw [List.take_of_length_le (by rw [length_pwL]; omega), List.drop_of_length_le (by omega), List.append_nil]
theorem turn_k {k : Int} {n : Nat} (hn : n ≠ 0) (hn2 : n ≤ 48) : ∃ i : Nat, (k.tmod n + n).tmod n = (i : Int) ∧ i < n ∧ -48 ≤ k.tmod n ∧ k.tmod n ≤ 48 := by
  have h1 : (k.tmod n).natAbs < n := by
    rw [Int.natAbs_tmod]
    exact Nat.mod_lt _ (by omega)
  have h2 : 0 ≤ k.tmod n + n := by omega
  refine ⟨((k.tmod n + n).tmod n).toNat, ?_, ?_, by omega, by omega⟩
  · have := Int.tmod_nonneg (n : Int) h2
    omega
  · have := Int.tmod_lt_of_pos (k.tmod n + n) (show (0 : Int) < n by omega)
    omega
theorem tmod_901 (j : Int) : -900 ≤ j.tmod 901 ∧ j.tmod 901 ≤ 900 := by
  have h1 : (j.tmod 901).natAbs < 901 := by
    rw [Int.natAbs_tmod]
    exact Nat.mod_lt _ (by omega)
  omega
theorem wrap4 {n : Nat} (h : n ≤ 48) : IntKind.i64.wrap ((n : Int) + 4) = ((n + 4 : Nat) : Int) := by
  rw [wrap_id (by omega) (by omega)]
  omega
theorem LenQ.zero {xs : List Nat} (h : LenQ xs) (h0 : xs.length = 0) : fcmp .eql (lenL xs) 0 = true := by
  have hb : powB xs = false := powB_no h.F fun i hi => by omega
  rw [lenL_0 hb]
  decide +kernel
theorem pureT2 {p q : SP} (hp : p.Pure) (hq : q.Pure) : (tupp [p, q]).Pure := fun v c c' ⟨vs, h1, h2⟩ => ⟨vs, h1, by
  match vs, h2 with
  | [a, b], ⟨g1, g2, g3⟩ => exact ⟨hp _ _ _ g1, hq _ _ _ g2, g3⟩⟩
theorem pure_N (x : NR) : (resN x).Pure := pureT2 (pure_flp _) (pure_isv _)
/-! ## The greater of two by the machine -/
section ops
variable {P : Program} {n : Nat} {ops : Array Oper} {Γ : Facts} {ρ : Env} {δ : VEnv} {τ : List VR}
variable {d : Nat} {ty : TypeId} {pos : String} {af : Array Edge}
theorem op_ext2 {f : Nat} {g : Array Value → Sem Value} {x y : Operand} {p p' q : SP} {ats : Array TypeId} (hf : Ext P f g) (hx : Lk Γ δ ρ x p) (hy : Lk Γ δ ρ y p') (h : ∀ (v v' : Value) (c : EW), p.H v c → p'.H v' c → ∃ u m, (g #[v, v']).run P c.w = .ok u { c.w with drawn := m } ∧ ∀ c', q.H u c') :
    OpOK P n ops Γ ρ δ τ ⟨some d, .call ⟨.value (.func f), #[x, y], ats⟩, ty, pos, af, none⟩ .no (.c q) dum :=
  ok_draw fun a c _ hr => by
    obtain ⟨u, m, h1, h2⟩ := h _ _ c (hr x _ (by simp [Op.operands, Call.operands]) hx) (hr y _ (by simp [Op.operands, Call.operands]) hy)
    refine ⟨u, m, ?_, h2⟩
    have h3 := run_ext hf #[a.eval x, a.eval y] c.w h1
    have h4 : a.eval (.func f) = .func (.func f) #[] #[] := rfl
    simp [execOp, resolve, Deferred.ofValue, h4, invoke, h3]
/-- Finite, not below 0. -/
structure Pos (x : Nat) : Prop where
  l : x < 2 ^ 64
  f : rung x < 9218868437227405312
  s : sgn x = false
theorem law_amax {x y : Nat} (hx : Pos x) (hy : Pos y) : ∀ (v v' : Value) (c : EW), (flp x).H v c → (flp y).H v' c → ∃ u m, (Go.Extern.MathDim.pick "math.archMax" false .gt #[v, v']).run P c.w = .ok u { c.w with drawn := m } ∧ ∀ c', (flp (fmax x y)).H u c' := by
  rintro v v' c ⟨b, rfl, h2, h3⟩ ⟨b', rfl, g2, g3⟩
  have ex : b = x := by
    have hn : nanB x = false := fin_not_nan ((finB_iff hx.l).2 hx.f)
    rw [← h3, nanB_cn] at hn
    rw [← h3, cn_of_not hn]
  have ey : b' = y := by
    have hn : nanB y = false := fin_not_nan ((finB_iff hy.l).2 hy.f)
    rw [← g3, nanB_cn] at hn
    rw [← g3, cn_of_not hn]
  rw [ex, ey]
  have rx : FloatKind.f64.decode x = .number false (mgn x) (plc x) := by rw [← hx.s]; exact read_fin hx.f
  have ry : FloatKind.f64.decode y = .number false (mgn y) (plc y) := by rw [← hy.s]; exact read_fin hy.f
  have ho := ford_val' hx.f hy.f
  have hord : (Ieee.Datum.number false (mgn x) (plc x)).order (.number false (mgn y) (plc y)) = ford x y := by
    unfold ford Ieee.Format.order
    rw [read_fin hx.f, read_fin hy.f, hx.s, hy.s]
  have hF : Go.Extern.MathDim.pick "math.archMax" false .gt #[.float .f64 x, .float .f64 y] = pure (.float .f64 (if FloatKind.f64.decode x == .infinity false || FloatKind.f64.decode y == .infinity false then FloatKind.f64.encode (.infinity false) else if (FloatKind.f64.decode x).isNaN || (FloatKind.f64.decode y).isNaN then 0x7FF8000000000001 else if (FloatKind.f64.decode x).isZero && (FloatKind.f64.decode y).isZero then (if (FloatKind.f64.decode x).neg == false then x else y) else if (FloatKind.f64.decode x).order (FloatKind.f64.decode y) == some .gt then x else y)) := rfl
  rw [hF, rx, ry, hord]
  have hval : (if (Ieee.Datum.number false (mgn x) (plc x) == .infinity false || Ieee.Datum.number false (mgn y) (plc y) == .infinity false) = true then FloatKind.f64.encode (.infinity false) else if ((Ieee.Datum.number false (mgn x) (plc x)).isNaN || (Ieee.Datum.number false (mgn y) (plc y)).isNaN) = true then 0x7FF8000000000001 else if ((Ieee.Datum.number false (mgn x) (plc x)).isZero && (Ieee.Datum.number false (mgn y) (plc y)).isZero) = true then (if ((Ieee.Datum.number false (mgn x) (plc x)).neg == false) = true then x else y) else if (ford x y == some .gt) = true then x else y) = fmax x y := by
    rw [if_neg (by simp), if_neg (by simp [Ieee.Datum.isNaN])]
    have hmx : fmax x y = if (ford x y == some .gt) = true then x else y := by
      unfold fmax
      rw [ho]
      cases hc : compare (sval x) (sval y)
      · rfl
      · have e := Int.compare_eq_eq.1 hc
        rw [sval_pos' hx.s, sval_pos' hy.s] at e
        have := vlu_inj hx.l hy.l hx.f hy.f (hx.s.trans hy.s.symm) (by omega)
        subst this
        simp
      · rfl
    rw [hmx]
    split
    · rename_i hz
      rw [Bool.and_eq_true] at hz
      have z : ∀ w : Nat, (Ieee.Datum.number false (mgn w) (plc w)).isZero = true → vlu w = 0 := fun w hw => by
        have : mgn w = 0 := by
          cases hm : mgn w with
          | zero => rfl
          | succ k => rw [hm] at hw; cases hw
        unfold vlu
        rw [this, Nat.zero_mul]
      have := vlu_inj hx.l hy.l hx.f hy.f (hx.s.trans hy.s.symm) (by rw [z x hz.1, z y hz.2])
      subst this
      simp
    · rfl
  rw [hval]
  have hm : Pos (fmax x y) := by
    rcases fmax_pos hx.l hy.l hx.f hy.f hx.s hy.s with ⟨e, _⟩ | ⟨e, _⟩ <;> rw [e]
    · exact hx
    · exact hy
  exact ⟨.float .f64 (fmax x y), c.w.drawn, by simp [Sem.run], fun _ => ⟨fmax x y, rfl, hm.l, cn_of_not (fin_not_nan ((finB_iff hm.l).2 hm.f))⟩⟩
theorem op_amax {f : Nat} {x y : Operand} {a b : Nat} {ats : Array TypeId} (hf : Ext P f (Go.Extern.MathDim.pick "math.archMax" false .gt)) (ha : Pos a) (hb : Pos b) (hx : Lk Γ δ ρ x (flp a)) (hy : Lk Γ δ ρ y (flp b)) :
    OpOK P n ops Γ ρ δ τ ⟨some d, .call ⟨.value (.func f), #[x, y], ats⟩, ty, pos, af, none⟩ .no (.c (flp (fmax a b))) dum := op_ext2 hf hx hy (law_amax ha hb)
end ops
theorem pos_max {xs : List Nat} (hF : FinL xs) (k : Nat) : Pos (maxTo xs k) := ⟨(maxTo_fin hF k).1, (finB_iff (maxTo_fin hF k).1).1 (maxTo_fin hF k).2, (max_spec hF k).1⟩
theorem pos_abs {xs : List Nat} (hF : FinL xs) (k : Nat) : Pos (fabs (xs.getD k 0)) := by
  have f1 := fabs_fin (hF k).2 (hF k).1
  exact ⟨f1.1, (finB_iff f1.1).1 f1.2, (fabs_parts (hF k).2 (fin_rung hF k)).2.1⟩
end Go.Bn
