/-
 Numbers of two: sums, odd parts, words.
-/
import Derived.Test.YtcpififnffmjfaaGreatDoorZsAna
import Derived.Test.YtcpififnffmjfaaGreatDoorZsLnd
set_option linter.unusedVariables false
set_option linter.unusedSimpArgs false
namespace Go.Bn
open Go
abbrev exaPJ (x : Exa) : SP := aggp [intPJ x.m, isv (.int .i64 x.e)]
def dyAdd (x y : Exa) : Exa := if x.m = 0 then y else if y.m = 0 then x else ⟨x.m * 2 ^ (x.e - min x.e y.e).toNat + y.m * 2 ^ (y.e - min x.e y.e).toNat, min x.e y.e⟩
theorem dyAdd_1 {x y : Exa} (h : x.m = 0) : dyAdd x y = y := if_pos h
theorem dyAdd_2 {x y : Exa} (h : ¬ x.m = 0) (h2 : y.m = 0) : dyAdd x y = x := by unfold dyAdd; rw [if_neg h, if_pos h2]
theorem dyAdd_3 {x y : Exa} (h : ¬ x.m = 0) (h2 : ¬ y.m = 0) : dyAdd x y = ⟨x.m * 2 ^ (x.e - min x.e y.e).toNat + y.m * 2 ^ (y.e - min x.e y.e).toNat, min x.e y.e⟩ := by unfold dyAdd; rw [if_neg h, if_neg h2]
structure DyB (x : Exa) : Prop where
 h : SmlJ x.m
 e0 : -100000 ≤ x.e
 e1 : x.e ≤ 100000
structure DyL (x y : Exa) : Prop where
 hx : SmlJ (x.m * 2 ^ (x.e - min x.e y.e).toNat)
 hy : SmlJ (y.m * 2 ^ (y.e - min x.e y.e).toNat)
def dySum (l : List Nat) : Nat → Exa
 | 0 => ⟨0, 0⟩
 | k + 1 => dyAdd (dySum l k) (ofX (l.getD k 0))
structure SumH (l : List Nat) : Prop where
 hf : ∀ k, k < l.length → finB (l.getD k 0) = true
 hx : ∀ k, k < l.length → DyB (ofX (l.getD k 0))
 hs : ∀ k, k ≤ l.length → DyB (dySum l k)
 hl : ∀ k, k < l.length → DyL (dySum l k) (ofX (l.getD k 0))
theorem SumH.all {l : List Nat} (h : SumH l) : l.all finB = true := by
 rw [List.all_eq_true]
 intro x hx
 obtain ⟨k, hk, he⟩ := List.getElem_of_mem hx
 have := h.hf k hk
 rw [List.getD_eq_getElem?_getD, List.getElem?_eq_getElem hk] at this
 simpa [he] using this
def dyHalf (x : Exa) : Exa := if x.m = 0 then x else ⟨sgnI (decide (x.m < 0)) (x.m.natAbs / 2 ^ tzNJ x.m.natAbs), x.e + tzNJ x.m.natAbs⟩
theorem half_abs {x : Exa} : (dyHalf x).m.natAbs = x.m.natAbs / 2 ^ tzNJ x.m.natAbs := by
 unfold dyHalf
 split
 ·rename_i h; rw [h]; simp
 ·exact sgnI_abs _ _
theorem half_odd {x : Exa} (h : x.m ≠ 0) : (dyHalf x).m.natAbs % 2 = 1 := by
 rw [half_abs]
 obtain ⟨m, hm⟩ := tzN_ofJ (n := x.m.natAbs) (by omega)
 have hp := Nat.two_pow_pos (tzNJ x.m.natAbs)
 generalize tzNJ x.m.natAbs = t at hm hp ⊢
 rw [hm, Nat.mul_div_cancel_left _ hp]
 omega
theorem half_same {x : Exa} (h : x.m = 0 ∨ x.m.natAbs % 2 = 1) : dyHalf x = x := by
 unfold dyHalf
 split
 ·rfl
 ·rename_i h0
  have h1 : x.m.natAbs % 2 = 1 := h.resolve_left h0
  rw [tzN_oddJ h1, Nat.pow_zero, Nat.div_one, set_1]
  cases x
  simp
theorem half_mod {x : Exa} (h : x.m ≠ 0) : x.m.natAbs % 2 ^ tzNJ x.m.natAbs = 0 := by
 obtain ⟨m, hm⟩ := tzN_ofJ (n := x.m.natAbs) (by omega)
 generalize tzNJ x.m.natAbs = t at hm ⊢
 rw [hm]
 exact Nat.mul_mod_right _ _
def halfN (x : Exa) (n : Nat) : Exa := if n = 0 then x else dyHalf x
structure HalfI (x : Exa) (n : Nat) : Prop where
 h : n ≤ 1
 z : n = 1 → x.m ≠ 0
theorem half_i0 {x : Exa} : HalfI x 0 := ⟨by omega, fun h => by omega⟩
theorem half_at {x : Exa} {n : Nat} (h : HalfI x n) (h0 : (halfN x n).m ≠ 0) (h1 : (halfN x n).m.natAbs % 2 = 0) : n = 0 ∧ x.m ≠ 0 := by
 by_cases e : n = 0
 ·subst e; exact ⟨rfl, h0⟩
 ·have hz := h.z (by have := h.h; omega)
  unfold halfN at h1
  rw [if_neg e] at h1
  have := half_odd hz
  omega
theorem half_end {x : Exa} {n : Nat} (h : HalfI x n) (hc : (halfN x n).m = 0 ∨ (halfN x n).m.natAbs % 2 = 1) : halfN x n = dyHalf x := by
 unfold halfN at *
 split
 ·rename_i e
  rw [if_pos e] at hc
  exact (half_same hc).symm
 ·rfl
def dyE (x : Exa) : Int := if (dyHalf x).m = 0 then 0 else (dyHalf x).e
abbrev dyP (x : Exa) : SP := aggp [isv (.bool (decide ((dyHalf x).m < 0))), ils .u32 (limbs (dyHalf x).m.natAbs), isv (.int .i64 (dyE x))]
theorem low_word (r : Nat) : IntKind.u32.wrap (((r &&& 4294967295) % 18446744073709551616 : Nat) : Int) = ((r % 4294967296 : Nat) : Int) := by
 have h : r &&& 4294967295 = r % 2 ^ 32 := and_pow r 32
 rw [h]
 have : r % 2 ^ 32 = r % 4294967296 := rfl
 rw [this]
 simp [IntKind.wrap, IntKind.bits, IntKind.signed]
 try omega
theorem words_step {L : List Int} {r M : Nat} (h : L ++ limbs r = limbs M) (h0 : r ≠ 0) : (L ++ [((r % 4294967296 : Nat) : Int)]) ++ limbs (r / 4294967296) = limbs M := by
 rw [← h, limbs_pos h0, List.append_assoc]
 rfl
theorem words_end {L : List Int} {r M : Nat} (h : L ++ limbs r = limbs M) (h0 : r = 0) : L = limbs M := by
 rw [← h, h0, limbs_zero, List.append_nil]
theorem rsh_nat {r : Nat} : sgnI (decide (((r : Nat) : Int) < 0)) (((r : Nat) : Int).natAbs / 2 ^ 32) = ((r / 4294967296 : Nat) : Int) := by
 unfold sgnI
 rw [if_neg (by simp), Int.natAbs_natCast]
theorem dyE_0 {x : Exa} (h : (dyHalf x).m = 0) : dyE x = 0 := if_pos h
theorem dyE_1 {x : Exa} (h : ¬ (dyHalf x).m = 0) : dyE x = (dyHalf x).e := if_neg h
theorem sign_lss {z : Int} : cmpB .lss (signI z) 0 = decide (z < 0) := by
 show decide (signI z < 0) = decide (z < 0)
 rw [decide_eq_decide]
 unfold signI
 by_cases h : z < 0
 ·rw [if_pos h]; omega
 ·rw [if_neg h]
  split <;> omega
theorem words_len {M k : Nat} (h : bl M ≤ 32 * k) : (limbs M).length ≤ k := by
 refine limbs_len ?_
 have e := wpw_two k 0
 simp only [Int.pow_zero, Int.mul_one, Nat.add_zero] at e
 rw [e]
 have h2 : M < 2 ^ (32 * k) := bl_le h
 have h3 : ((M : Nat) : Int) < ((2 ^ (32 * k) : Nat) : Int) := Int.ofNat_lt.2 h2
 simpa using h3
theorem words_lim {L : List Int} {r M : Nat} (h : L ++ limbs r = limbs M) (hb : bl M ≤ 65536) : L.length ≤ 2048 := by
 have h1 := words_len (k := 2048) (show bl M ≤ 32 * 2048 by omega)
 rw [← h, List.length_append] at h1
 omega
theorem dyP_0 {x : Exa} (h : (dyHalf x).m = 0) : aggp [isv (.bool false), slm (inp .u32) [], isv (.int .i64 0)] = dyP x := by
 show _ = aggp [isv (.bool (decide ((dyHalf x).m < 0))), ils .u32 (limbs (dyHalf x).m.natAbs), isv (.int .i64 (dyE x))]
 rw [dyE_0 h, h, show (0 : Int).natAbs = 0 from rfl, limbs_zero]
 rfl
theorem dyP_1 {x : Exa} {L : List Int} {r : Nat} (h : ¬ (dyHalf x).m = 0) (hI : L ++ limbs r = limbs (dyHalf x).m.natAbs) (hr : r = 0) : aggp [isv (.bool (cmpB .lss (signI (dyHalf x).m) 0)), slm (inp .u32) L, isv (.int .i64 (dyHalf x).e)] = dyP x := by
 rw [sign_lss, words_end hI hr, ← dyE_1 h]
theorem bl_sml {m : Int} (h : bl m.natAbs ≤ 65536) : SmlJ m := by
 obtain ⟨K, hK⟩ : ∃ K : Nat, K = 65536 := ⟨_, rfl⟩
 rw [← hK] at h
 exact sml_powJ (bl_le h) (by omega)
structure PutH (x : Exa) : Prop where
 hx : DyB x
 hb : bl (dyHalf x).m.natAbs ≤ 65536
 h0 : -100000 ≤ (dyHalf x).e
 h1 : (dyHalf x).e ≤ 100000
theorem may_0 {x : Exa} (h : (limbs (dyHalf x).m.natAbs).length = 0) : (!decide ((dyHalf x).m < 0) && cmpB .eql (dyE x) 0) = true := by
 have h2 := limbs_len0.1 h
 have h3 : (dyHalf x).m = 0 := by omega
 rw [dyE_0 h3, h3]
 decide
theorem may_1 {x : Exa} {l : List Int} (h : PutH x) (hl : l = limbs (dyHalf x).m.natAbs) (h0 : l.length ≠ 0) : ((((cmpB .leq (l.length : Int) 2048 && cmpB .neq (l.getD ((l.length : Int) - 1).toNat 0) 0) && cmpB .eql ((l.getD (0 : Int).toNat 0).tmod 2) 1) && cmpB .geq (dyE x) (-100000)) && cmpB .leq (dyE x) 100000) = true := by
 have hm : (dyHalf x).m.natAbs ≠ 0 := fun e => h0 (by rw [hl]; exact limbs_len0.2 e)
 have hn : ¬ (dyHalf x).m = 0 := by omega
 have h1 := words_len (k := 2048) (show bl (dyHalf x).m.natAbs ≤ 32 * 2048 by have := h.hb; omega)
 rw [← hl] at h1
 have h2 : l.getD ((l.length : Int) - 1).toNat 0 ≠ 0 := by
  have := limbs_tight (dyHalf x).m.natAbs
  rw [← hl] at this
  rcases this with h9 | h9
  ·rw [h9] at h0; exact absurd rfl h0
  ·rw [show ((l.length : Int) - 1).toNat = l.length - 1 by omega]; exact h9
 have hxm : x.m ≠ 0 := fun e => hn (by unfold dyHalf; rw [if_pos e]; exact e)
 have ho := half_odd hxm
 have h3 : l.getD (0 : Int).toNat 0 = (((dyHalf x).m.natAbs % 4294967296 : Nat) : Int) := by
  rw [hl, limbs_pos hm]; rfl
 have h4 : (l.getD (0 : Int).toNat 0).tmod 2 = 1 := by
  rw [h3, Int.tmod_eq_emod_of_nonneg (by omega)]
  omega
 have h5 := dyE_1 hn
 have h6 := h.h0
 have h7 := h.h1
 have g1 : cmpB .leq (l.length : Int) 2048 = true := by show decide _ = true; simp; omega
 have g2 : cmpB .neq (l.getD ((l.length : Int) - 1).toNat 0) 0 = true := by show (_ != _) = true; simpa using h2
 have g3 : cmpB .eql ((l.getD (0 : Int).toNat 0).tmod 2) 1 = true := by rw [h4]; rfl
 have g4 : cmpB .geq (dyE x) (-100000) = true := by show decide _ = true; simp; omega
 have g5 : cmpB .leq (dyE x) 100000 = true := by show decide _ = true; simp; omega
 rw [g1, g2, g3, g4, g5]
 rfl
end Go.Bn
namespace Go.Bn
open Go
theorem blk_int0 {u : Value} {T : TypeId} : ∀ c ob, (blk u [isv (.bool false), isv (.slice none 0 0)] T).H c ob → (blk u (intCJ 0) T).H c ob := fun c ob ⟨b, cur, h1, h2, h3, h4, h5⟩ => ⟨b, cur, h1, h2, h3, h4, fun i p hp => by
 match i, hp with
 | 0, hp => exact h5 0 _ hp
 | 1, hp =>
  obtain ⟨x, g1, g2, g3⟩ := h5 1 _ rfl
  simp only [nth, Option.some.injEq] at hp
  subst hp
  refine ⟨x, g1, g2, ?_⟩
  have e : limbsJ (Int.natAbs 0) = [] := limbs_zeroJ
  show (ils .u64 (limbsJ (Int.natAbs 0))).H x c
  rw [e, g3.1]
  exact slm_nil
 | _ + 2, hp => simp [nth] at hp⟩
theorem limbs_get (M : Nat) : ∀ i, (limbs M).getD i 0 = ((M / 2 ^ (32 * i) % 4294967296 : Nat) : Int) := by
 intro i
 induction i generalizing M with
 | zero =>
  by_cases h : M = 0
  ·rw [h, limbs_zero]; rfl
  ·rw [limbs_pos h]; simp
 | succ i ih =>
  by_cases h : M = 0
  ·rw [h, limbs_zero]; simp
  ·rw [limbs_pos h]
   show (limbs (M / 4294967296)).getD i 0 = _
   rw [ih, Nat.div_div_eq_div_mul, show 4294967296 * 2 ^ (32 * i) = 2 ^ (32 * (i + 1)) by rw [show 32 * (i + 1) = 32 + 32 * i by omega, Nat.pow_add]]
def tkN (M L k : Nat) : Nat := M / 2 ^ (32 * (L - k))
def tkW (M i : Nat) : Nat := M / 2 ^ (32 * i) % 4294967296
theorem tk_zero {M : Nat} : tkN M (limbs M).length 0 = 0 := by
 refine Nat.div_eq_of_lt ?_
 have h := magI_lt (limbs_dig M)
 rw [limbs_mag] at h
 have e := wpw_two (limbs M).length 0
 simp only [Int.pow_zero, Int.mul_one, Nat.add_zero] at e
 rw [e] at h
 have h2 : ((M : Nat) : Int) < ((2 ^ (32 * (limbs M).length) : Nat) : Int) := by simpa using h
 exact Int.ofNat_lt.1 h2
theorem tk_done {M L k : Nat} (h : k = L) : tkN M L k = M := by unfold tkN; rw [h]; simp
theorem tk_step {M L k : Nat} (hk : k < L) : ((((tkN M L k : Nat) : Int) * 2 ^ 32).natAbs ||| ((tkW M (L - 1 - k) : Nat) : Int).natAbs) = tkN M L (k + 1) := by
 have e1 : (((tkN M L k : Nat) : Int) * 2 ^ 32).natAbs = 2 ^ 32 * tkN M L k := by
  have : ((tkN M L k : Nat) : Int) * 2 ^ 32 = ((2 ^ 32 * tkN M L k : Nat) : Int) := by
   rw [Int.natCast_mul, Int.mul_comm]; rfl
  rw [this, Int.natAbs_natCast]
 have hw : tkW M (L - 1 - k) < 2 ^ 32 := Nat.mod_lt _ (by decide)
 rw [e1, Int.natAbs_natCast, ← Nat.two_pow_add_eq_or_of_lt hw]
 have h2 : tkN M L k = tkN M L (k + 1) / 4294967296 := by
  unfold tkN
  rw [Nat.div_div_eq_div_mul]
  congr 1
  rw [show 32 * (L - k) = 32 * (L - (k + 1)) + 32 by omega, Nat.pow_add]
 have h3 : tkW M (L - 1 - k) = tkN M L (k + 1) % 4294967296 := by
  unfold tkW tkN
  rw [show L - 1 - k = L - (k + 1) by omega]
 rw [h2, h3]
 have : (2 : Nat) ^ 32 = 4294967296 := by decide
 omega
theorem tk_word {M L k : Nat} (hk : k < L) : IntKind.i64.wrap ((limbs M).getD ((L : Int) - 1 - (k : Int)).toNat 0) = ((tkW M (L - 1 - k) : Nat) : Int) := by
 rw [show ((L : Int) - 1 - (k : Int)).toNat = L - 1 - k by omega, limbs_get]
 have : M / 2 ^ (32 * (L - 1 - k)) % 4294967296 < 4294967296 := Nat.mod_lt _ (by decide)
 exact zO (by omega) (by omega)
theorem tkW_lt (M i : Nat) : tkW M i < 4294967296 := Nat.mod_lt _ (by decide)
theorem tkN_le (M L k : Nat) : tkN M L k ≤ M := Nat.div_le_self _ _
theorem abs_neg {z : Int} (h : z < 0) : -((z.natAbs : Nat) : Int) = z := by omega
theorem abs_pos {z : Int} (h : ¬ z < 0) : ((z.natAbs : Nat) : Int) = z := by omega
theorem take_aux {M L k K : Nat} (h : bl M ≤ K) : (((tkN M L k : Nat) : Int) * 2 ^ 32).natAbs < 2 ^ (K + 32) := by
 have e : ((tkN M L k : Nat) : Int) * 2 ^ 32 = ((tkN M L k * 2 ^ 32 : Nat) : Int) := by
  rw [Int.natCast_mul]; rfl
 rw [e, Int.natAbs_natCast, Nat.pow_add]
 exact Nat.mul_lt_mul_of_pos_right (Nat.lt_of_le_of_lt (tkN_le _ _ _) (bl_le h)) (Nat.two_pow_pos 32)
theorem take_sml {x : Exa} (h : PutH x) {L k : Nat} : SmlJ (((tkN (dyHalf x).m.natAbs L k : Nat) : Int) * 2 ^ 32) := sml_powJ (k := 65536 + 32) (take_aux h.hb) (by decide)
def cutU (x : Nat) (s : Int) : Bool := !(decide (x % 2 ^ s.toNat = 0)) && (cmpB .gtr (cmpN (x % 2 ^ s.toNat) (2 ^ (s - 1).toNat)) 0 || (cmpB .eql (cmpN (x % 2 ^ s.toNat) (2 ^ (s - 1).toNat)) 0 && cmpB .eql ((x / 2 ^ s.toNat % 2 : Nat) : Int) 1))
def cutD (x : Nat) (s : Int) : Nat := if s ≤ 0 then x * 2 ^ (-s).toNat else x / 2 ^ s.toNat + (if cutU x s = true then 1 else 0)
theorem cut_1 {x : Nat} {s : Int} (h : s ≤ 0) : ((x : Nat) : Int) * 2 ^ (-s).toNat = ((cutD x s : Nat) : Int) := by
 unfold cutD
 rw [if_pos h, Int.natCast_mul]
 simp
theorem cut_2 {x : Nat} {s : Int} (h : ¬ s ≤ 0) (hu : cutU x s = true) : ((x / 2 ^ s.toNat : Nat) : Int) + ((1 : Nat) : Int) = ((cutD x s : Nat) : Int) := by
 unfold cutD
 rw [if_neg h, if_pos hu]
 omega
theorem cut_3 {x : Nat} {s : Int} (h : ¬ s ≤ 0) (hu : cutU x s = false) : ((x / 2 ^ s.toNat : Nat) : Int) = ((cutD x s : Nat) : Int) := by
 unfold cutD
 rw [if_neg h, if_neg (by rw [hu]; decide)]
 omega
theorem cut_q {x n : Nat} : sgnI (decide (((x : Nat) : Int) < 0)) (((x : Nat) : Int).natAbs / 2 ^ n) = ((x / 2 ^ n : Nat) : Int) := by
 unfold sgnI
 rw [if_neg (by simp), Int.natAbs_natCast]
theorem cut_r {x n : Nat} : ((x : Nat) : Int) - ((x / 2 ^ n : Nat) : Int) * 2 ^ n = ((x % 2 ^ n : Nat) : Int) := by
 have h := Nat.div_add_mod x (2 ^ n)
 have e : ((x / 2 ^ n : Nat) : Int) * 2 ^ n = ((2 ^ n * (x / 2 ^ n) : Nat) : Int) := by
  rw [Int.natCast_mul, Int.mul_comm]; simp
 rw [e]
 omega
theorem cut_h {n : Nat} : ((1 : Nat) : Int) * 2 ^ n = ((2 ^ n : Nat) : Int) := by simp
theorem cutU_0 {x : Nat} {s : Int} (h : signI ((x % 2 ^ s.toNat : Nat) : Int) = 0) : cutU x s = false := by
 have h1 := signI_zero.1 h
 have h2 : x % 2 ^ s.toNat = 0 := by omega
 unfold cutU
 rw [decide_eq_true h2]
 rfl
theorem cutU_1 {x : Nat} {s : Int} (h : ¬ signI ((x % 2 ^ s.toNat : Nat) : Int) = 0) : cutU x s = (cmpB .gtr (cmpN (x % 2 ^ s.toNat) (2 ^ (s - 1).toNat)) 0 || (cmpB .eql (cmpN (x % 2 ^ s.toNat) (2 ^ (s - 1).toNat)) 0 && cmpB .eql ((x / 2 ^ s.toNat % 2 : Nat) : Int) 1)) := by
 have h2 : ¬ x % 2 ^ s.toNat = 0 := fun e => h (signI_zero.2 (by rw [e]; rfl))
 unfold cutU
 rw [decide_eq_false h2]
 rfl
theorem cut_sml {x n : Nat} (h : SmlJ (x : Int)) : SmlJ (((x / 2 ^ n : Nat) : Int) * 2 ^ n) := by
 have e : ((x / 2 ^ n : Nat) : Int) * 2 ^ n = ((x / 2 ^ n * 2 ^ n : Nat) : Int) := by
  rw [Int.natCast_mul]; simp
 rw [e]
 exact sml_leJ (Nat.div_mul_le_self x (2 ^ n)) h
end Go.Bn
namespace Go.Bn
open Go
def rexp (m : Nat) (e : Int) : Int := max (e + (bl m : Int) - 53) (-1074)
def rnM (m : Nat) (e : Int) : Nat := cutD m (rexp m e - e)
theorem rnM_le (m : Nat) (e : Int) : rnM m e ≤ 2 ^ 53 := by
 unfold rnM cutD
 have hm : m < 2 ^ bl m := bl_le (Nat.le_refl _)
 have hs : (bl m : Int) - 53 ≤ rexp m e - e := by unfold rexp; omega
 generalize rexp m e - e = s at hs ⊢
 split
 ·rename_i h
  have h1 : m * 2 ^ (-s).toNat < 2 ^ bl m * 2 ^ (-s).toNat := Nat.mul_lt_mul_of_pos_right hm (Nat.two_pow_pos _)
  rw [← Nat.pow_add] at h1
  have h2 : (2 : Nat) ^ (bl m + (-s).toNat) ≤ 2 ^ 53 := Nat.pow_le_pow_right (by decide) (by omega)
  omega
 ·have h1 : m / 2 ^ s.toNat < 2 ^ 53 := by
   rw [Nat.div_lt_iff_lt_mul (Nat.two_pow_pos _), ← Nat.pow_add]
   exact Nat.lt_of_lt_of_le hm (Nat.pow_le_pow_right (by decide) (by omega))
  split <;> omega
theorem bl_odd {m : Nat} (h : m ≠ 0) : bl m = tz m + bl (oddM m) := by
 have h1 := oddM_mul h
 have h2 := oddM_pos h
 have h3 : 2 ^ tz m ≤ m := tz_pow m h
 have h4 := bl_shr h3
 have h5 : m / 2 ^ tz m = oddM m := by rw [oddM, if_neg h]
 rw [h5] at h4
 exact h4
theorem md_rn {m : Nat} {e : Int} (h1 : e ≤ 100000) (h : rexp m e + (bl (rnM m e) : Int) ≤ 1024) : MdH (rnM m e) (rexp m e) := by
 have hM := rnM_le m e
 have e53 : (2 : Nat) ^ 53 = 9007199254740992 := by decide
 have hE : -1074 ≤ rexp m e := by unfold rexp; omega
 have hb := fun h0 => bl_odd (m := rnM m e) h0
 refine ⟨by omega, ?_, hE, by omega, fun h0 => ?_⟩
 ·by_cases h0 : rnM m e = 0
  ·rw [h0]; decide
  ·have h2 := hb h0
   by_cases hc : rnM m e < 2 ^ 53
   ·have := bl_lt hc; omega
   ·have h3 : rnM m e = 2 ^ 53 := by omega
    have h4 : bl (oddM (2 ^ 53)) = 1 := by decide +kernel
    rw [h3, h4]; omega
 ·have h2 := hb h0
  rw [oddE_ge h0]
  omega
def rndD (neg : Bool) (m : Nat) (e : Int) : Nat := if 1024 < rexp m e + (bl (rnM m e) : Int) then (if neg = true then fneg PINF else PINF) else mdW neg (rnM m e) (rexp m e)
theorem rnd_1 {neg : Bool} {m : Nat} {e : Int} (h : 1024 < rexp m e + (bl (rnM m e) : Int)) : rndD neg m e = (if neg = true then fneg PINF else PINF) := if_pos h
theorem rnd_2 {neg : Bool} {m : Nat} {e : Int} (h : ¬ 1024 < rexp m e + (bl (rnM m e) : Int)) : rndD neg m e = mdW neg (rnM m e) (rexp m e) := if_neg h
theorem rnd_nan {neg : Bool} {m : Nat} {e : Int} (h1 : e ≤ 100000) : nanB (rndD neg m e) = false := by
 unfold rndD
 split
 ·cases neg <;> decide +kernel
 ·rename_i h
  have := mdW_fin (neg := neg) (md_rn (m := m) (e := e) h1 (by omega))
  exact fin_not_nan ((fin64_iff this.1).1 this)
theorem mod_rn {m : Nat} {e : Int} : ((rnM m e : Nat) : Int).natAbs % 18446744073709551616 = rnM m e := by
 have := rnM_le m e
 have e53 : (2 : Nat) ^ 53 = 9007199254740992 := by decide
 rw [Int.natAbs_natCast]
 omega
end Go.Bn
