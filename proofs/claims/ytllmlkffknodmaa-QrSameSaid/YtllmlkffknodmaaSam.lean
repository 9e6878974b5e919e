/-
  The mirror of a list whose first number alone is not nought.
-/
import Derived.Test.YtllmlkffknodmaaTru
set_option linter.unusedVariables false
set_option linter.unusedSimpArgs false
namespace Go.Bn
open Go
theorem vlu_rung {a b : Nat} (h : rung a = rung b) : vlu a = vlu b := by unfold vlu mgn plc; rw [h]
theorem word_rung (s : Bool) (r : Nat) (h : r ≤ 9218868437227405312) : rung (Ieee.double.word s r) = r := (word_parts h).2.1
theorem nearest_rsgn {s t : Bool} {n : Nat} {p : Int} : rung (Ieee.double.nearest s n p) = rung (Ieee.double.nearest t n p) := by
  unfold Ieee.Format.nearest
  split
  · rw [word_rung s 0 (by omega), word_rung t 0 (by omega)]
  · simp only [infR]
    rw [word_rung s _ (Nat.min_le_right ..), word_rung t _ (Nat.min_le_right ..)]
    rfl
theorem fneg_parts {s : Nat} (hs : s < 2 ^ 64) (hr : rung s < 9218868437227405312) : rung (fneg s) = rung s ∧ sgn (fneg s) = !sgn s := by
  have hn : nanB s = false := fin_not_nan ((finB_iff hs).2 hr)
  have e : fneg s = s ^^^ 2 ^ 63 := by rw [xor_top hs]; unfold fneg; rw [hn]; rfl
  refine ⟨by rw [e]; exact rung_top hs, ?_⟩
  unfold fneg
  rw [hn]
  simp only [Bool.false_eq_true, if_false]
  cases h : sgn s
  · simp only [Bool.false_eq_true, if_false]
    unfold sgn at h ⊢
    have h1 := beq_eq_false_iff_ne.1 h
    have h2 : s / 9223372036854775808 % 2 = 0 := by omega
    have h3 : (s + 9223372036854775808) / 9223372036854775808 % 2 = 1 := by omega
    rw [h3]; rfl
  · simp only [if_true]
    unfold sgn at h ⊢
    have h2 : s / 9223372036854775808 % 2 = 1 := by simpa using h
    have h3 : (s - 9223372036854775808) / 9223372036854775808 % 2 = 0 := by omega
    rw [h3]; rfl
theorem fsub_add {x y : Nat} (fx : rung x < 9218868437227405312) (hy : y < 2 ^ 64) (fy : rung y < 9218868437227405312) : fsub x y = fadd x (fneg y) := by
  obtain ⟨p1, p2⟩ := fneg_parts hy fy
  have hf : rung (fneg y) < 9218868437227405312 := by rw [p1]; exact fy
  have hm : mgn (fneg y) = mgn y := by unfold mgn; rw [p1]
  have hp : plc (fneg y) = plc y := by unfold plc; rw [p1]
  unfold fsub fadd Ieee.Format.sub Ieee.Format.add
  rw [read_fin fx, read_fin fy, read_fin hf, p2, hm, hp]
  rfl
theorem nil_fin (s : Bool) : rung (if s = true then NEG0 else 0) < 9218868437227405312 ∧ sval (if s = true then NEG0 else 0) = 0 := by cases s <;> decide +kernel
theorem fadd_nil {x y : Nat} (hx : x < 2 ^ 64) (fx : rung x < 9218868437227405312) (fy : rung y < 9218868437227405312) (h0 : sval y = 0) : rung (fadd x y) < 9218868437227405312 ∧ sval (fadd x y) = sval x := by
  have e := fadd_int fx fy
  rw [h0, Int.add_zero, sval_abs] at e
  by_cases hz : sval x = 0
  · have hv : vlu x = 0 := by have := sval_abs x; omega
    rw [hv, nearest_nought] at e
    rw [e, hz]
    exact nil_fin _
  · rw [if_neg hz] at e
    have hsg : decide (sval x < 0) = sgn x := by
      by_cases h : sval x < 0
      · rw [decide_eq_true h, sval_neg h]
      · rw [decide_eq_false h, sval_pos (by omega)]
    rw [hsg, nearest_vlu hx fx] at e
    rw [e]
    exact ⟨fx, rfl⟩
theorem fmul_nil {x y : Nat} (fx : rung x < 9218868437227405312) (fy : rung y < 9218868437227405312) (h0 : sval x = 0 ∨ sval y = 0) : rung (fmul x y) < 9218868437227405312 ∧ sval (fmul x y) = 0 := by
  have e := fmul_int fx fy
  have hv : vlu x * vlu y = 0 := by
    rcases h0 with h | h
    · have : vlu x = 0 := by have := sval_abs x; omega
      rw [this, Nat.zero_mul]
    · have : vlu y = 0 := by have := sval_abs y; omega
      rw [this, Nat.mul_zero]
  rw [hv, nearest_nought] at e
  rw [e]
  exact nil_fin _
theorem fdiv_nil {x y : Nat} (fx : rung x < 9218868437227405312) (fy : rung y < 9218868437227405312) (h0 : sval x = 0) (hn : mgn y ≠ 0) : rung (fdiv x y) < 9218868437227405312 ∧ sval (fdiv x y) = 0 := by
  have e := fdiv_read fx fy hn
  have hm : mgn x = 0 := by
    have hv : vlu x = 0 := by have := sval_abs x; omega
    unfold vlu at hv
    rcases Nat.mul_eq_zero.1 hv with h | h
    · exact h
    · have := Nat.two_pow_pos (plc x + 1074).toNat; omega
  rw [hm, Nat.zero_shiftLeft, Nat.zero_div, Nat.zero_mod] at e
  rw [show 2 * 0 + ((0 : Nat) != 0).toNat = 0 by decide, nearest_nought] at e
  rw [e]
  exact nil_fin _
/-- A number, of either sign, from 2^-k to 2^k. -/
structure Rg (x : Nat) (k : Nat) : Prop where
  l : x < 2 ^ 64
  f : rung x < 9218868437227405312
  lo : PZ ≤ vlu x * 2 ^ k
  hi : vlu x ≤ PZ * 2 ^ k
theorem Rg.abs {x k : Nat} (h : Rg x k) : Rng (fabs x) k := by
  obtain ⟨a1, a2, _, _⟩ := fabs_parts h.l h.f
  have hv := vlu_fabs h.l h.f
  exact ⟨by rw [a1]; exact h.f, a2, by rw [hv]; exact h.lo, by rw [hv]; exact h.hi⟩
theorem Rg.up {x k l : Nat} (h : Rg x k) (hl : k ≤ l) : Rg x l := by
  have := Nat.pow_le_pow_right (show 0 < 2 by omega) hl
  exact ⟨h.l, h.f, Nat.le_trans h.lo (Nat.mul_le_mul_left _ this), Nat.le_trans h.hi (Nat.mul_le_mul_left _ this)⟩
theorem Rg.pos {x k : Nat} (h : Rg x k) : 0 < vlu x := by
  have := h.abs.pos
  rwa [vlu_fabs h.l h.f] at this
theorem cl_apx2 {a b : Nat} (h : Apx 2 a b) : Cl 3 a b := by
  have h1 := h.l
  have h2 := h.r
  have g1 := rat (r := UU) (s := UU + 3) h1 (by decide) (by decide)
  have g2 := rat (r := UU - 3) (s := UU) h2 (by decide) (by decide)
  have e1 : b * (UU + 3) = b * UU + 3 * b := by rw [Nat.mul_add, Nat.mul_comm b 3]
  have e2 : b * (UU - 3) = b * UU - 3 * b := by rw [Nat.mul_sub, Nat.mul_comm b 3]
  exact cl_mk (by omega) (by omega)
theorem mul_rg {x y k l : Nat} (hx : Rg x k) (hy : Rg y l) (hk : k + l ≤ 900) : Cl 2 (vlu (fmul x y) * PZ) (vlu x * vlu y) ∧ Rg (fmul x y) (k + l + 1) ∧ sgn (fmul x y) = (sgn x ^^ sgn y) := by
  obtain ⟨h1, h2⟩ := mul_apx hx.abs hy.abs hk
  have ax := vlu_fabs hx.l hx.f
  have ay := vlu_fabs hy.l hy.f
  have hR : rung (fmul (fabs x) (fabs y)) = rung (fmul x y) := by
    rw [fmul_int hx.f hy.f, fmul_int hx.abs.f hy.abs.f, ax, ay]
    exact nearest_rsgn
  have hV := vlu_rung hR
  rw [hV, ax, ay] at h1
  refine ⟨cl_apx1 h1, ⟨fop_lt (op := .mul), by rw [← hR]; exact h2.f, by rw [← hV]; exact h2.lo, by rw [← hV]; exact h2.hi⟩, ?_⟩
  rw [fmul_int hx.f hy.f]; exact nearest_sgn
theorem div_rg {x y k l : Nat} (hx : Rg x k) (hy : Rg y l) (hk : k + l ≤ 900) : Cl 3 (vlu (fdiv x y) * vlu y) (vlu x * PZ) ∧ Rg (fdiv x y) (k + l + 2) ∧ sgn (fdiv x y) = (sgn x ^^ sgn y) := by
  obtain ⟨h1, h2⟩ := div_apx hx.abs hy.abs hk
  have ax := vlu_fabs hx.l hx.f
  have ay := vlu_fabs hy.l hy.f
  obtain ⟨_, _, x3, x4⟩ := fabs_parts hx.l hx.f
  obtain ⟨_, _, y3, y4⟩ := fabs_parts hy.l hy.f
  have hn := mgn_pos hy.pos
  have hR : rung (fdiv (fabs x) (fabs y)) = rung (fdiv x y) := by
    rw [fdiv_read hx.f hy.f hn, fdiv_read hx.abs.f hy.abs.f (by rw [y3]; exact hn), x3, x4, y3, y4]
    exact nearest_rsgn
  have hV := vlu_rung hR
  rw [hV, ax, ay] at h1
  refine ⟨cl_apx2 h1, ⟨fop_lt (op := .quo), by rw [← hR]; exact h2.f, by rw [← hV]; exact h2.lo, by rw [← hV]; exact h2.hi⟩, ?_⟩
  rw [fdiv_read hx.f hy.f hn]; exact nearest_sgn
theorem fadd_ok {x y k : Nat} (hk : k ≤ 900) (fx : rung x < 9218868437227405312) (fy : rung y < 9218868437227405312) (hb : (sval x + sval y).natAbs ≤ PZ * 2 ^ k) : rung (fadd x y) < 9218868437227405312 := by
  rw [fadd_int fx fy]
  refine nearest_fin (N := 1074) (by decide) ?_
  have h0 : (-1074 + ((1074 : Nat) : Int)).toNat = 0 := by decide
  rw [h0, Nat.pow_zero, Nat.mul_one]
  refine Nat.lt_of_le_of_lt hb ?_
  obtain ⟨M, hM⟩ : ∃ M, M = NZ + 1023 := ⟨_, rfl⟩
  rw [show 1074 + 1023 = M by rw [hM, nz], pz_pow]
  exact Nat.pow_lt_pow_right (by omega) (by omega)
/-- A sum of numbers above nought. -/
theorem add_rg {x y k : Nat} (hx : Rg x k) (hy : Rg y k) (sx : sgn x = false) (sy : sgn y = false) (hk : k ≤ 400) : Cl 1 (vlu (fadd x y)) (vlu x + vlu y) ∧ Rg (fadd x y) (k + 2) ∧ sgn (fadd x y) = false := by
  have hp := Nat.two_pow_pos k
  have vx := sval_pos' sx
  have vy := sval_pos' sy
  have hb : (sval x + sval y).natAbs ≤ PZ * 2 ^ (k + 1) := by
    rw [vx, vy]
    have e1 : PZ * 2 ^ k + PZ * 2 ^ k = PZ * 2 ^ (k + 1) := by rw [Nat.pow_succ, ← Nat.mul_assoc]; omega
    have h1 := hx.hi
    have h2 := hy.hi
    omega
  have hf := fadd_ok (by omega) hx.f hy.f hb
  have he := fadd_err hx.f hy.f hf
  have px := hx.pos
  have hs : sgn (fadd x y) = false := by
    rw [fadd_int hx.f hy.f, nearest_sgn, vx, vy, if_neg (by omega), decide_eq_false (by omega)]
  rw [vx, vy, sval_pos' hs] at he
  have hc : Cl 1 (vlu (fadd x y)) (vlu x + vlu y) := ⟨((vlu (fadd x y) : Int) - ((vlu x : Int) + (vlu y : Int))).natAbs, by omega, by omega, by omega⟩
  refine ⟨hc, ?_, hs⟩
  obtain ⟨c1, c2⟩ := hc.two (by decide)
  have h1 := hx.hi
  have h2 := hy.hi
  have h3 := hx.lo
  refine ⟨fop_lt (op := .add), hf, ?_, ?_⟩
  · rw [Nat.pow_add, ← Nat.mul_assoc]
    have e : vlu x * 2 ^ k ≤ 2 * vlu (fadd x y) * 2 ^ k := Nat.mul_le_mul_right _ (by omega)
    rw [Nat.mul_assoc] at e
    rw [show (2 : Nat) ^ 2 = 4 by decide]
    omega
  · rw [Nat.pow_add, ← Nat.mul_assoc, show (2 : Nat) ^ 2 = 4 by decide]
    omega
/-- Its first number alone is not nought. -/
structure HdL (xs : List Nat) : Prop where
  hF : FinL xs
  hz : ∀ k, 1 ≤ k → sval (xs.getD k 0) = 0
  hl : 0 < xs.length
  hd : sgn (xs.getD 0 0) = false
  e0 : 200 ≤ expo (xs.getD 0 0)
  e1 : expo (xs.getD 0 0) ≤ 1850
theorem finL_r {xs : List Nat} (h : FinL xs) (k : Nat) : rung (xs.getD k 0) < 9218868437227405312 := (finB_iff (h k).2).1 (h k).1
theorem max_hd {xs : List Nat} (h : HdL xs) : ∀ k, maxTo xs (k + 1) = fabs (xs.getD 0 0)
  | 0 => by
    have h0 := h.hF 0
    have f0 := finL_r h.hF 0
    obtain ⟨a1, a2, _, _⟩ := fabs_parts h0.2 f0
    have pa : 0 < vlu (xs.getD 0 0) := Nat.lt_of_lt_of_le (Nat.two_pow_pos _) (vlu_ge_expo (by have := h.e0; omega))
    show fmax 0 (fabs (xs.getD 0 0)) = _
    rcases fmax_pos (x := 0) (y := fabs (xs.getD 0 0)) (by decide) (fabs_fin h0.2 h0.1).1 (by decide) (by rw [a1]; exact f0) (by decide) a2 with ⟨_, g⟩ | ⟨g, _⟩
    · exfalso
      rw [vlu_fabs h0.2 f0, show vlu 0 = 0 by decide +kernel] at g
      omega
    · exact g
  | k + 1 => by
    have h0 := h.hF 0
    have f0 := finL_r h.hF 0
    have h1 := h.hF (k + 1)
    have f1 := finL_r h.hF (k + 1)
    obtain ⟨a1, a2, _, _⟩ := fabs_parts h0.2 f0
    obtain ⟨b1, b2, _, _⟩ := fabs_parts h1.2 f1
    have pa : 0 < vlu (xs.getD 0 0) := Nat.lt_of_lt_of_le (Nat.two_pow_pos _) (vlu_ge_expo (by have := h.e0; omega))
    show fmax (maxTo xs (k + 1)) (fabs (xs.getD (k + 1) 0)) = _
    rw [max_hd h k]
    rcases fmax_pos (fabs_fin h0.2 h0.1).1 (fabs_fin h1.2 h1.1).1 (by rw [a1]; exact f0) (by rw [b1]; exact f1) a2 b2 with ⟨g, _⟩ | ⟨_, g⟩
    · exact g
    · exfalso
      have hz := h.hz (k + 1) (by omega)
      have := sval_abs (xs.getD (k + 1) 0)
      rw [vlu_fabs h0.2 f0, vlu_fabs h1.2 f1] at g
      omega
theorem dot_hd {xs ys : List Nat} (hx : FinL xs) (hy : FinL ys) (hz : ∀ k, 1 ≤ k → sval (ys.getD k 0) = 0) (h0 : rung (fmul (xs.getD 0 0) (ys.getD 0 0)) < 9218868437227405312) : ∀ k, rung (dotTo xs ys (k + 1)) < 9218868437227405312 ∧ sval (dotTo xs ys (k + 1)) = sval (fmul (xs.getD 0 0) (ys.getD 0 0))
  | 0 => fadd_zero (fop_lt (op := .mul)) h0
  | k + 1 => by
    obtain ⟨h1, h2⟩ := dot_hd hx hy hz h0 k
    obtain ⟨h3, h4⟩ := fmul_nil (finL_r hx (k + 1)) (finL_r hy (k + 1)) (.inr (hz (k + 1) (by omega)))
    have h5 := fadd_nil (dotTo_lt xs ys (k + 1)) h1 h3 h4
    exact ⟨h5.1, h5.2.trans h2⟩
theorem eql_nil {x : Nat} (fx : rung x < 9218868437227405312) (h : sval x = 0) : fcmp .eql x 0 = true := by
  unfold fcmp
  rw [ford_val' fx (by decide), h, show sval 0 = 0 by decide +kernel]
  rfl
theorem cl_root {g y k : Nat} (h : Cl k (g * g) (y * y)) (hy : 0 < y) : Cl k g y := by
  obtain ⟨t, h1, h2, h3⟩ := h
  have key : ∀ a b : Nat, b * b ≤ a * a + t → a ≤ b → (b - a) * UU ≤ k * y → True := fun _ _ _ _ _ => trivial
  rcases Nat.le_total g y with h | h
  · refine ⟨y - g, by omega, by omega, ?_⟩
    refine Nat.le_of_mul_le_mul_right (c := y) ?_ hy
    have e1 : (y - g) * y ≤ t := by
      have : g * y ≥ g * g := Nat.mul_le_mul_left _ h
      rw [Nat.sub_mul]; omega
    have e2 := Nat.mul_le_mul_right UU e1
    rw [Nat.mul_right_comm, Nat.mul_assoc k]
    omega
  · refine ⟨g - y, by omega, by omega, ?_⟩
    refine Nat.le_of_mul_le_mul_right (c := y) ?_ hy
    have e1 : (g - y) * y ≤ t := by
      have : g * y ≤ g * g := Nat.mul_le_mul_left _ h
      rw [Nat.sub_mul]; omega
    have e2 := Nat.mul_le_mul_right UU e1
    rw [Nat.mul_right_comm, Nat.mul_assoc k]
    omega
theorem expo_rg {x k : Nat} (h : Rg x k) (hk : k ≤ 900) : 1023 ≤ expo x + k + 1 ∧ expo x ≤ 1023 + k := by
  have hlo := h.lo
  have hhi := h.hi
  rw [pz_pow] at hhi
  constructor
  · rcases @vlu_lt_expo x with h1 | ⟨h1, h2⟩
    · have h3 : PZ < 2 ^ (expo x + 52 + k) := by
        rw [Nat.pow_add]
        exact Nat.lt_of_le_of_lt hlo (Nat.mul_lt_mul_of_pos_right h1 (Nat.two_pow_pos k))
      rw [pz_def] at h3
      have := (Nat.pow_lt_pow_iff_right (show 1 < 2 by omega)).1 h3
      rw [nz] at this
      omega
    · exfalso
      have h3 : PZ < 2 ^ (52 + k) := by
        rw [Nat.pow_add]
        exact Nat.lt_of_le_of_lt hlo (Nat.mul_lt_mul_of_pos_right h2 (Nat.two_pow_pos k))
      rw [pz_def] at h3
      have := (Nat.pow_lt_pow_iff_right (show 1 < 2 by omega)).1 h3
      rw [nz] at this
      omega
  · by_cases h1 : 1 ≤ expo x
    · have h2 := Nat.le_trans (vlu_ge_expo h1) hhi
      have := (Nat.pow_le_pow_iff_right (show 1 < 2 by omega)).1 h2
      rw [nz] at this
      omega
    · omega
/-- The mirror of such a list. -/
structure HouH (h : Gls) (d : Nat) : Prop where
  vF : FinL h.v
  vz : ∀ k, 1 ≤ k → sval (h.v.getD k 0) = 0
  v0 : Rg (h.v.getD 0 0) 4
  vs : sgn (h.v.getD 0 0) = false
  w : Rg h.w 8
  ws : sgn h.w = false
  y : ∃ Y, 0 < Y ∧ Cl 9 (vlu (h.v.getD 0 0)) (2 * Y) ∧ Cl 20 (vlu h.w * PZ) (2 * Y * Y)
  al : h.alpha < 2 ^ 64
  af : rung h.alpha < 9218868437227405312
  as : sgn h.alpha = true
  a : Cl 7 (vlu h.alpha) (vlu d)
theorem cl_dbl {k g y : Nat} (h : Cl k g y) : Cl k (y + g) (2 * y) := by
  obtain ⟨t, h1, h2, h3⟩ := h
  refine ⟨t, by omega, by omega, Nat.le_trans h3 (Nat.mul_le_mul_left _ (by omega))⟩
theorem Cl.up {k l a b : Nat} (h : Cl k a b) (hl : k ≤ l) : Cl l a b := by
  obtain ⟨t, h1, h2, h3⟩ := h
  exact ⟨t, h1, h2, Nat.le_trans h3 (Nat.mul_le_mul_right _ hl)⟩
theorem hou_hd {xs : List Nat} (h : HdL xs) : HouH (houseL xs) (xs.getD 0 0) := by
  have h0 := h.hF 0
  have f0 := finL_r h.hF 0
  have g0 := h.e0
  have g1 := h.e1
  obtain ⟨n, hn⟩ : ∃ n, xs.length = n + 1 := ⟨xs.length - 1, by have := h.hl; omega⟩
  have hm : maxL xs = fabs (xs.getD 0 0) := by unfold maxL; rw [hn]; exact max_hd h n
  have hla := (fabs_fin h0.2 h0.1).1
  have hRa := (fabs_parts h0.2 f0).1
  have hp : powB xs = true := by
    unfold powB
    rw [hm, (not_zero hla (by rw [hRa]; exact f0) (by rw [expo_fabs h0.2 f0]; omega)).1]; rfl
  have hK : powK xs = (expo (xs.getD 0 0) : Int) - 1023 := by
    unfold powK
    rw [if_pos hp, hm, frx_abs h0.2 f0 (by omega)]; omega
  have hE := house_n hp
  rw [hK] at hE
  obtain ⟨K, hKd⟩ : ∃ K, K = (expo (xs.getD 0 0) : Int) - 1023 := ⟨_, rfl⟩
  rw [← hKd] at hE
  obtain ⟨hs, p1, p2⟩ := scl_big h0.2 f0 (by omega) hKd
  have hy0 : (sclL xs K).getD 0 0 = ldx (xs.getD 0 0) (-K) := by
    unfold sclL
    simp [List.getD, List.getElem?_map, List.getElem?_eq_getElem h.hl]
  have hyk : ∀ k, 1 ≤ k → (sclL xs K).getD k 0 = xs.getD k 0 := by
    intro k hk
    by_cases hkl : k < xs.length
    · have e : (sclL xs K).getD k 0 = ldx (xs.getD k 0) (-K) := by
        unfold sclL
        simp [List.getD, List.getElem?_map, List.getElem?_eq_getElem hkl]
      rw [e, ← ldx_0 (eql_nil (finL_r h.hF k) (h.hz k hk))]
    · rw [List.getD, List.getElem?_eq_none (by rw [length_sclL]; omega), List.getD, List.getElem?_eq_none (by omega)]
  have hyF : FinL (sclL xs K) := by
    intro k
    by_cases hk : 1 ≤ k
    · rw [hyk k hk]; exact h.hF k
    · have : k = 0 := by omega
      rw [this, hy0]
      exact ⟨(finB_iff hs.l).2 hs.f, hs.l⟩
  have hyz : ∀ k, 1 ≤ k → sval ((sclL xs K).getD k 0) = 0 := fun k hk => by rw [hyk k hk]; exact h.hz k hk
  obtain ⟨y, hy⟩ : ∃ y, y = ldx (xs.getD 0 0) (-K) := ⟨_, rfl⟩
  rw [← hy] at hs p1 p2 hy0
  have sy : sgn y = false := hs.s.trans h.hd
  have ry : Rg y 1 := ⟨hs.l, hs.f, by omega, by rw [Nat.pow_one]; omega⟩
  obtain ⟨q1, q2, q3⟩ := mul_rg ry ry (by omega)
  have hd := dot_hd hyF hyF hyz (by rw [hy0]; exact q2.f) n
  rw [hy0] at hd
  have hN : sclN xs K = fsqrt (dotTo (sclL xs K) (sclL xs K) (n + 1)) := by unfold sclN dotL; rw [length_sclL, hn]
  obtain ⟨g, hg⟩ : ∃ g, g = sclN xs K := ⟨_, rfl⟩
  obtain ⟨q, hq⟩ : ∃ q, q = dotTo (sclL xs K) (sclL xs K) (n + 1) := ⟨_, rfl⟩
  rw [← hq] at hd hN
  have sq : sval q = (vlu (fmul y y) : Int) := by
    rw [hd.2]; exact sval_pos' (by rw [q3, Bool.xor_self])
  have pq := q2.pos
  have sq2 : sgn q = false := sval_pos (by rw [sq]; omega)
  have vq : vlu q = vlu (fmul y y) := by
    have := sval_pos' sq2
    omega
  have q2u : Rg (fmul y y) 3 := q2.up (by omega)
  have rq : Rng q 3 := ⟨hd.1, sq2, Nat.le_trans q2u.lo (Nat.le_of_eq (by rw [vq])), Nat.le_trans (Nat.le_of_eq vq) q2u.hi⟩
  obtain ⟨r1, r2⟩ := sqrt_apx rq (by omega)
  rw [← hN, ← hg] at r1 r2
  rw [vq] at r1
  have hY : 0 < vlu y := ry.pos
  have cG : Cl 7 (vlu g) (vlu y) := cl_root ((cl_apx3 r1).trans q1 (by decide)) hY
  have gl : g < 2 ^ 64 := by rw [hg]; exact fsqrt_lt'
  have rg : Rg g 2 := by
    obtain ⟨c1, c2⟩ := cG.two (by decide)
    have e4 : (2 : Nat) ^ 2 = 4 := by decide
    exact ⟨gl, r2.f, by simp only [e4]; omega, by simp only [e4]; omega⟩
  have sg := r2.s
  have ry2 : Rg y 2 := ry.up (by omega)
  -- the list
  obtain ⟨nl, nf, nv⟩ := fneg_val gl rg.f
  obtain ⟨nl2, nf2, nv2⟩ := fneg_val nl nf
  obtain ⟨n1, n2⟩ := fneg_parts gl rg.f
  obtain ⟨m1, m2⟩ := fneg_parts nl nf
  have rgg : Rg (fneg (fneg g)) 2 := ⟨nl2, nf2, by rw [vlu_rung (m1.trans n1)]; exact rg.lo, by rw [vlu_rung (m1.trans n1)]; exact rg.hi⟩
  have sgg : sgn (fneg (fneg g)) = false := by rw [m2, n2, sg]; rfl
  have hv0 : fsub y (fneg g) = fadd y (fneg (fneg g)) := fsub_add hs.f nl nf
  obtain ⟨a1, a2, a3⟩ := add_rg ry2 rgg sy sgg (by omega)
  rw [← hv0, vlu_rung (m1.trans n1)] at a1
  rw [← hv0] at a2 a3
  have ay : fabs y = rung y := by unfold fabs; rw [fin_not_nan ((finB_iff hs.l).2 hs.f)]; rfl
  obtain ⟨b1, b2, b3, b4⟩ := fabs_parts hs.l hs.f
  have ryb : Rg (fabs y) 2 := ⟨(fabs_fin hs.l ((finB_iff hs.l).2 hs.f)).1, by rw [b1]; exact hs.f, by rw [vlu_fabs hs.l hs.f]; exact ry2.lo, by rw [vlu_fabs hs.l hs.f]; exact ry2.hi⟩
  obtain ⟨w1, w2, w3⟩ := add_rg rg ryb sg b2 (by omega)
  rw [vlu_fabs hs.l hs.f, Nat.add_comm (vlu g)] at w1
  obtain ⟨u1, u2, u3⟩ := mul_rg rg w2 (by omega)
  rw [sg, w3] at u3
  -- what it is scaled back to
  obtain ⟨x1, x2⟩ := expo_rg rg (by omega)
  have hsc := ldx_exact (x := fneg g) (k := K) nl nf (by rw [expo_rung, n1, ← expo_rung]; omega) (by rw [expo_rung, n1, ← expo_rung]; omega) (by rw [expo_rung, n1, ← expo_rung]; omega)
  rw [hE (by rw [hy0]; exact sy), hy0, ← hg]
  refine ⟨?_, ?_, ?_, ?_, u2.up (by omega), by rw [u3]; rfl, ⟨vlu y, hY, ?_, ?_⟩, hsc.l, hsc.f, ?_, ?_⟩
  · exact finL_set hyF ⟨(finB_iff a2.l).2 a2.f, a2.l⟩
  · intro k hk
    show sval (((sclL xs K).set 0 (fsub y (fneg g))).getD k 0) = 0
    rw [List.getD, List.getElem?_set_ne (by omega)]
    exact hyz k hk
  · show Rg (((sclL xs K).set 0 (fsub y (fneg g))).getD 0 0) 4
    rw [List.getD, List.getElem?_set_self (by rw [length_sclL]; exact h.hl)]
    exact a2
  · show sgn (((sclL xs K).set 0 (fsub y (fneg g))).getD 0 0) = false
    rw [List.getD, List.getElem?_set_self (by rw [length_sclL]; exact h.hl)]
    exact a3
  · show Cl 9 (vlu (((sclL xs K).set 0 (fsub y (fneg g))).getD 0 0)) (2 * vlu y)
    rw [List.getD, List.getElem?_set_self (by rw [length_sclL]; exact h.hl)]
    exact a1.trans (cl_dbl cG) (by decide)
  · have c1 := w1.trans (cl_dbl cG) (by decide)
    have c2 := cG.mulr (vlu (fadd g (fabs y)))
    have c3 := c1.mulr (vlu y)
    rw [Nat.mul_comm (vlu (fadd g (fabs y)))] at c3
    exact u1.trans (c2.trans c3 (by decide)) (by decide)
  · rw [hsc.s, n2, sg]; rfl
  · have e1 := sc_vlu hsc
    have e2 := sc_vlu hs
    rw [show (- -K).toNat = K.toNat by omega] at e2
    rw [vlu_rung n1] at e1
    have c := cG.mulr (2 ^ K.toNat)
    rw [← e1, e2] at c
    exact c.cancel (Nat.two_pow_pos _)
/-- A number that is nearly another one's opposite. -/
def Tn (a b : Nat) : Prop := (sval a + sval b).natAbs * UU ≤ 150 * (sval b).natAbs
theorem tn_nil {a b : Nat} (h : sval a = 0) (h2 : sval b = 0) : Tn a b := by
  unfold Tn
  rw [h, h2]
  decide
theorem rg_of {x y k : Nat} (hy : Rg y k) (hl : x < 2 ^ 64) (hf : rung x < 9218868437227405312) (h : sval x = sval y) : Rg x k := by
  have e : vlu x = vlu y := by have h1 := sval_abs x; have h2 := sval_abs y; rw [h] at h1; omega
  exact ⟨hl, hf, Nat.le_trans hy.lo (Nat.le_of_eq (by rw [e])), Nat.le_trans (Nat.le_of_eq e) hy.hi⟩
theorem sgn_of {x y : Nat} (h : sval x = sval y) (hy : 0 < vlu y) : sgn x = sgn y := by
  have h1 := sval_abs y
  cases hs : sgn y
  · exact sval_pos (by rw [h, sval_pos' hs]; omega)
  · refine sval_neg ?_
    rw [h]
    have : sval y = -(vlu y : Int) := by unfold sval; rw [hs]; rfl
    omega
theorem tn_core {s : Bool} {A U : Nat} {z : Int} (hc : Cl 70 U (A * 2)) (hz : (z - (sgz s A - sgz s U)).natAbs * UU ≤ (sgz s A - sgz s U).natAbs) : (z + sgz s A).natAbs * UU ≤ 150 * (sgz s A).natAbs := by
  obtain ⟨t, h1, h2, h3⟩ := hc
  have h4 : t ≤ A := by
    refine Nat.le_of_mul_le_mul_right (c := UU) ?_ uu_pos
    have : A * 140 ≤ A * UU := Nat.mul_le_mul_left _ (by decide)
    omega
  rw [sgz_abs]
  have e1 : (sgz s A - sgz s U).natAbs ≤ 2 * A := by unfold sgz; split <;> omega
  have e2 : (z + sgz s A).natAbs ≤ (z - (sgz s A - sgz s U)).natAbs + t := by unfold sgz at *; split <;> omega
  have e3 := Nat.mul_le_mul_right UU e2
  rw [Nat.add_mul] at e3
  omega
theorem mir_first {h : Gls} {d a0 D : Nat} (H : HouH h d) (ha : a0 < 2 ^ 64) (fa : rung a0 < 9218868437227405312) (h0 : sval a0 = 0 ∨ Rg a0 402) (hD : D < 2 ^ 64) (fD : rung D < 9218868437227405312) (eD : sval D = sval (fmul a0 (h.v.getD 0 0))) :
    rung (fdiv D h.w) < 9218868437227405312 ∧ rung (fsub a0 (fmul (fdiv D h.w) (h.v.getD 0 0))) < 9218868437227405312 ∧ Tn (fsub a0 (fmul (fdiv D h.w) (h.v.getD 0 0))) a0 := by
  have hwn := mgn_pos H.w.pos
  rcases h0 with h0 | h0
  · have e0 := fmul_nil fa H.v0.f (.inl h0)
    obtain ⟨t1, t2⟩ := fdiv_nil fD H.w.f (eD.trans e0.2) hwn
    obtain ⟨u1, u2⟩ := fmul_nil t1 H.v0.f (.inl t2)
    have ul : fmul (fdiv D h.w) (h.v.getD 0 0) < 2 ^ 64 := fop_lt (op := .mul)
    obtain ⟨n1, n2, n3⟩ := fneg_val ul u1
    rw [fsub_add fa ul u1]
    obtain ⟨r1, r2⟩ := fadd_nil ha fa n2 (by rw [n3, u2]; rfl)
    exact ⟨t1, r1, tn_nil (r2.trans h0) h0⟩
  · obtain ⟨m1, m2, m3⟩ := mul_rg h0 H.v0 (by omega)
    rw [H.vs, Bool.xor_false] at m3
    have rD := rg_of m2 hD fD eD
    have sD := (sgn_of eD m2.pos).trans m3
    have vD : vlu D = vlu (fmul a0 (h.v.getD 0 0)) := by have h1 := sval_abs D; have h2 := sval_abs (fmul a0 (h.v.getD 0 0)); rw [eD] at h1; omega
    rw [← vD] at m1
    obtain ⟨t1, t2, t3⟩ := div_rg rD H.w (by omega)
    rw [sD, H.ws, Bool.xor_false] at t3
    obtain ⟨u1, u2, u3⟩ := mul_rg t2 H.v0 (by omega)
    rw [t3, H.vs, Bool.xor_false] at u3
    obtain ⟨Y, y1, y2, y3⟩ := H.y
    generalize fdiv D h.w = T at *
    generalize h.v.getD 0 0 = V at *
    have c2 := y2.mulr (vlu a0)
    rw [Nat.mul_comm (vlu V)] at c2
    have c3 := (t1.trans m1 (by decide)).trans c2 (by decide)
    have c4 := (y3.mulr (vlu T)).symm (by decide)
    have c5 := c3.mulr PZ
    rw [show vlu T * vlu h.w * PZ = vlu h.w * PZ * vlu T by grind] at c5
    have c6 := c4.trans c5 (by decide)
    rw [show 2 * Y * Y * vlu T = Y * vlu T * (2 * Y) by grind, show 2 * Y * vlu a0 * PZ = vlu a0 * PZ * (2 * Y) by grind] at c6
    have c7 := (c6.cancel (by omega)).mulr 2
    have c8 := y2.mulr (vlu T)
    rw [Nat.mul_comm (vlu V), show 2 * Y * vlu T = Y * vlu T * 2 by grind] at c8
    have c9 := ((u1.trans c8 (by decide)).trans c7 (by decide))
    rw [Nat.mul_right_comm (vlu a0)] at c9
    have c10 := c9.cancel pz_pos
    obtain ⟨n1, n2, n3⟩ := fneg_val u2.l u2.f
    have e1 : sval a0 + sval (fneg (fmul T V)) = sgz (sgn a0) (vlu a0) - sgz (sgn a0) (vlu (fmul T V)) := by
      rw [n3, sval_sgz, sval_sgz (fmul T V), u3]; omega
    obtain ⟨k, hk⟩ : ∃ k : Nat, k = 422 := ⟨_, rfl⟩
    have hb : (sval a0 + sval (fneg (fmul T V))).natAbs ≤ PZ * 2 ^ (k + 1) := by
      have e2 : PZ * 2 ^ k + PZ * 2 ^ k = PZ * 2 ^ (k + 1) := by rw [Nat.pow_succ, ← Nat.mul_assoc]; omega
      have g1 := (h0.up (show 402 ≤ k by omega)).hi
      have g2 := (u2.up (show 402 + 4 + 1 + 8 + 2 + 4 + 1 ≤ k by omega)).hi
      rw [e1]
      have : (sgz (sgn a0) (vlu a0) - sgz (sgn a0) (vlu (fmul T V))).natAbs ≤ vlu a0 + vlu (fmul T V) := by unfold sgz; split <;> omega
      omega
    have hf := fadd_ok (k := k + 1) (by omega) fa n2 hb
    have he := fadd_err fa n2 hf
    rw [← fsub_add fa u2.l u2.f] at hf he
    rw [e1] at he
    refine ⟨t2.f, hf, ?_⟩
    unfold Tn
    rw [sval_sgz a0]
    exact tn_core c10 he
theorem getD_mirG {v a : List Nat} {t k : Nat} (hk : k < a.length) : (mirG v t a).getD k 0 = fsub (a.getD k 0) (fmul t (v.getD k 0)) := by
  unfold mirG
  simp [List.getD, hk]
theorem mir_hd {h : Gls} {d : Nat} {a : List Nat} (H : HouH h d) (fa : FinL a) (hl : 0 < a.length) (h0 : sval (a.getD 0 0) = 0 ∨ Rg (a.getD 0 0) 402) :
    FinL (mirL h.v h.w a) ∧ Tn ((mirL h.v h.w a).getD 0 0) (a.getD 0 0) ∧ ∀ k, 1 ≤ k → sval ((mirL h.v h.w a).getD k 0) = sval (a.getD k 0) := by
  obtain ⟨m, hm⟩ : ∃ m, a.length = m + 1 := ⟨a.length - 1, by omega⟩
  have f0 := finL_r fa 0
  have hw : ¬ fcmp .eql h.w 0 = true := by
    have := (expo_rg H.w (by omega)).1
    rw [(not_zero H.w.l H.w.f (by omega)).1]; decide
  have hp : rung (fmul (a.getD 0 0) (h.v.getD 0 0)) < 9218868437227405312 := by
    rcases h0 with g | g
    · exact (fmul_nil f0 H.v0.f (.inl g)).1
    · exact (mul_rg g H.v0 (by omega)).2.1.f
  obtain ⟨d1, d2⟩ := dot_hd fa H.vF H.vz hp m
  obtain ⟨t1, t2, t3⟩ := mir_first H (fa 0).2 f0 h0 (dotTo_lt a h.v (m + 1)) d1 d2
  have e : mirL h.v h.w a = mirG h.v (fdiv (dotTo a h.v (m + 1)) h.w) a := by
    unfold mirL mirT
    rw [if_neg hw, hm]
  rw [e]
  have hr : ∀ k, 1 ≤ k → k < a.length → rung ((mirG h.v (fdiv (dotTo a h.v (m + 1)) h.w) a).getD k 0) < 9218868437227405312 ∧ sval ((mirG h.v (fdiv (dotTo a h.v (m + 1)) h.w) a).getD k 0) = sval (a.getD k 0) := by
    intro k h1 hk
    rw [getD_mirG hk]
    obtain ⟨u1, u2⟩ := fmul_nil t1 (finL_r H.vF k) (.inr (H.vz k h1))
    have ul : fmul (fdiv (dotTo a h.v (m + 1)) h.w) (h.v.getD k 0) < 2 ^ 64 := fop_lt (op := .mul)
    obtain ⟨n1, n2, n3⟩ := fneg_val ul u1
    rw [fsub_add (finL_r fa k) ul u1]
    exact fadd_nil (fa k).2 (finL_r fa k) n2 (by rw [n3, u2]; rfl)
  refine ⟨fun k => ?_, by rw [getD_mirG hl]; exact t3, fun k h1 => ?_⟩
  · by_cases hk : k < a.length
    · have hlt : (mirG h.v (fdiv (dotTo a h.v (m + 1)) h.w) a).getD k 0 < 2 ^ 64 := by rw [getD_mirG hk]; exact fop_lt (op := .sub)
      refine ⟨(finB_iff hlt).2 ?_, hlt⟩
      by_cases h1 : 1 ≤ k
      · exact (hr k h1 hk).1
      · have : k = 0 := by omega
        subst this
        rw [getD_mirG hk]; exact t2
    · rw [List.getD, List.getElem?_eq_none (by rw [length_mirG]; omega)]
      exact ⟨by decide, by decide⟩
  · by_cases hk : k < a.length
    · exact (hr k h1 hk).2
    · rw [List.getD, List.getElem?_eq_none (by rw [length_mirG]; omega), List.getD, List.getElem?_eq_none (by omega)]
/-- A triangle's rows: nought above the diagonal, which is above nought. -/
structure TrM (X : Nat → List Nat) (n : Nat) : Prop where
  hl : ∀ i, i < n → (X i).length = n
  hF : ∀ i, i < n → FinL (X i)
  hd : ∀ i, i < n → 0 < sval ((X i).getD i 0)
  hu : ∀ i j, i < n → i < j → sval ((X i).getD j 0) = 0
  hr : ∀ i j, i < n → sval ((X i).getD j 0) = 0 ∨ Rg ((X i).getD j 0) 402
structure TrS (X : Nat → List Nat) (n p : Nat) : Prop where
  hl : ∀ i, i < n → (triTo X p i).length = n
  hF : ∀ i, i < n → FinL (triTo X p i)
  hs : ∀ i j, i < n → p ≤ j → sval ((triTo X p i).getD j 0) = sval ((X i).getD j 0)
  ht : ∀ i j, i < n → j < p → Tn ((triTo X p i).getD j 0) ((X i).getD j 0)
theorem getD_app {xs ys : List Nat} {k : Nat} : (xs ++ ys).getD k 0 = if k < xs.length then xs.getD k 0 else ys.getD (k - xs.length) 0 := by
  split
  · rename_i h
    rw [List.getD, List.getElem?_append_left h]; rfl
  · rename_i h
    rw [List.getD, List.getElem?_append_right (by omega)]; rfl
theorem getD_tak {xs : List Nat} {i k : Nat} (h : k < i) : (xs.take i).getD k 0 = xs.getD k 0 := by
  rw [List.getD, List.getElem?_take, if_pos h]; rfl
theorem getD_rep (n k : Nat) : (List.replicate n 0).getD k 0 = 0 := by
  rw [List.getD, List.getElem?_replicate]
  split <;> rfl
theorem getD_mirW {h : Gls} {p k : Nat} {x : List Nat} (hp : p ≤ x.length) : (mirW h p x).getD k 0 = if k < p then x.getD k 0 else (mirL h.v h.w (x.drop p)).getD (k - p) 0 := by
  unfold mirW
  rw [getD_app, List.length_take, Nat.min_eq_left hp]
  by_cases hk : k < p
  · rw [if_pos hk, if_pos hk, getD_tak hk]
  · rw [if_neg hk, if_neg hk]
theorem rg_nil {x y k : Nat} (h : sval y = 0 ∨ Rg y k) (hl : x < 2 ^ 64) (hf : rung x < 9218868437227405312) (e : sval x = sval y) : sval x = 0 ∨ Rg x k := by
  rcases h with h | h
  · exact .inl (e.trans h)
  · exact .inr (rg_of h hl hf e)
theorem trS_zero {X : Nat → List Nat} {n : Nat} (h : TrM X n) : TrS X n 0 := ⟨h.hl, h.hF, fun _ _ _ _ => rfl, fun _ _ _ hj => absurd hj (Nat.not_lt_zero _)⟩
theorem trS_hd {X : Nat → List Nat} {n p : Nat} (h : TrM X n) (s : TrS X n p) (hp : p < n) : HdL ((triTo X p p).drop p) := by
  have e0 : ((triTo X p p).drop p).getD 0 0 = (triTo X p p).getD p 0 := by rw [getD_drop]; rfl
  have hv := s.hs p p hp (Nat.le_refl _)
  have hpos := h.hd p hp
  have hf := finL_r (s.hF p hp) p
  have hlt := (s.hF p hp p).2
  have hR : Rg ((triTo X p p).getD p 0) 402 := by
    rcases rg_nil (h.hr p p hp) hlt hf hv with g | g
    · omega
    · exact g
  obtain ⟨x1, x2⟩ := expo_rg hR (by omega)
  refine ⟨finL_drop (s.hF p hp) p, fun k hk => ?_, ?_, ?_, ?_, ?_⟩
  · rw [getD_drop, s.hs p (p + k) hp (by omega)]
    exact h.hu p (p + k) hp (by omega)
  · rw [List.length_drop, s.hl p hp]; omega
  · rw [e0]; exact sval_pos (by omega)
  · rw [e0]; omega
  · rw [e0]; omega
theorem trS_step {X : Nat → List Nat} {n p : Nat} (h : TrM X n) (s : TrS X n p) (hp : p < n) : TrS X n (p + 1) := by
  have H := hou_hd (trS_hd h s hp)
  have e0 : ((triTo X p p).drop p).getD 0 0 = (triTo X p p).getD p 0 := by rw [getD_drop]; rfl
  rw [e0] at H
  have hg : gls (triTo X p) p = houseL ((triTo X p p).drop p) := rfl
  obtain ⟨g, hg2⟩ : ∃ g, g = gls (triTo X p) p := ⟨_, rfl⟩
  rw [← hg, ← hg2] at H
  have hlen : ∀ i, i < n → (triTo X (p + 1) i).length = n := by
    intro i hi
    show (endF (triTo X p) p i).length = n
    unfold endF
    split
    · rename_i e
      rw [List.length_set, length_clrR]; exact s.hl p (e ▸ hi)
    · split
      · rw [length_mirW]; exact s.hl i hi
      · exact s.hl i hi
  have key : ∀ i, i < n → i ≠ p → p < i → FinL (mirL g.v g.w ((triTo X p i).drop p)) ∧ Tn ((mirL g.v g.w ((triTo X p i).drop p)).getD 0 0) ((triTo X p i).getD p 0) ∧ ∀ k, 1 ≤ k → sval ((mirL g.v g.w ((triTo X p i).drop p)).getD k 0) = sval ((triTo X p i).getD (p + k) 0) := by
    intro i hi _ _
    have e1 : ((triTo X p i).drop p).getD 0 0 = (triTo X p i).getD p 0 := by rw [getD_drop]; rfl
    have hm := mir_hd H (finL_drop (s.hF i hi) p) (by rw [List.length_drop, s.hl i hi]; omega) (by rw [e1]; exact rg_nil (h.hr i p hi) (s.hF i hi p).2 (finL_r (s.hF i hi) p) (s.hs i p hi (Nat.le_refl _)))
    rw [e1] at hm
    exact ⟨hm.1, hm.2.1, fun k hk => by rw [hm.2.2 k hk, getD_drop]⟩
  have hE : ∀ i, triTo X (p + 1) i = if i = p then (clrR (triTo X p p) p).set p g.alpha else if p < i then mirW g p (triTo X p i) else triTo X p i := by
    intro i
    show endF (triTo X p) p i = _
    unfold endF
    rw [hg2]
  refine ⟨hlen, ?_, ?_, ?_⟩
  · intro i hi
    rw [hE]
    split
    · exact finL_set (finL_app (finL_take (s.hF p hp) p) (finL_rep _)) ⟨(finB_iff H.al).2 H.af, H.al⟩
    · split
      · rename_i h1 h2
        exact finL_app (finL_take (s.hF i hi) p) (key i hi h1 h2).1
      · exact s.hF i hi
  · intro i j hi hj
    rw [hE]
    split
    · rename_i e
      subst e
      rw [List.getD, List.getElem?_set_ne (by omega)]
      show sval ((clrR (triTo X i i) i).getD j 0) = _
      unfold clrR
      rw [getD_app, List.length_take, s.hl i hi, Nat.min_eq_left (by omega), if_neg (by omega), getD_rep, h.hu i j hi (by omega)]
      decide +kernel
    · split
      · rename_i h1 h2
        rw [getD_mirW (by rw [s.hl i hi]; omega), if_neg (by omega), (key i hi h1 h2).2.2 (j - p) (by omega), show p + (j - p) = j by omega]
        exact s.hs i j hi (by omega)
      · exact s.hs i j hi (by omega)
  · intro i j hi hj
    rw [hE]
    by_cases hjp : j = p
    · subst hjp
      split
      · rename_i e
        subst e
        rw [List.getD, List.getElem?_set_self (by rw [length_clrR, s.hl i hi]; exact hi)]
        show Tn g.alpha _
        have hv := s.hs i i hi (Nat.le_refl _)
        have hpos := h.hd i hi
        have sp := sval_pos (show 0 < sval ((triTo X i i).getD i 0) by omega)
        have ha := H.a
        have e1 : sval g.alpha = -(vlu g.alpha : Int) := by unfold sval; rw [H.as]; rfl
        unfold Tn
        rw [← hv, e1, sval_pos' sp]
        obtain ⟨t, t1, t2, t3⟩ := ha
        have e2 : (-(vlu g.alpha : Int) + (vlu ((triTo X i i).getD i 0) : Int)).natAbs ≤ t := by omega
        have e3 := Nat.mul_le_mul_right UU e2
        rw [Int.natAbs_natCast]
        omega
      · split
        · rename_i h1 h2
          rw [getD_mirW (by rw [s.hl i hi]; omega), if_neg (by omega), Nat.sub_self]
          have := (key i hi h1 h2).2.1
          unfold Tn at this ⊢
          rw [← s.hs i j hi (Nat.le_refl _)]
          exact this
        · rename_i h1 h2
          have e1 := h.hu i j hi (by omega)
          exact tn_nil ((s.hs i j hi (Nat.le_refl _)).trans e1) e1
    · have e := s.ht i j hi (by omega)
      split
      · rename_i e1
        subst e1
        rw [List.getD, List.getElem?_set_ne (by omega)]
        show Tn ((clrR (triTo X i i) i).getD j 0) _
        unfold clrR
        rw [getD_app, List.length_take, s.hl i hi, Nat.min_eq_left (by omega), if_pos (by omega), getD_tak (by omega)]
        exact e
      · split
        · rw [getD_mirW (by rw [s.hl i hi]; omega), if_pos (by omega)]
          exact e
        · exact e
theorem trS_all {X : Nat → List Nat} {n : Nat} (h : TrM X n) : ∀ p, p ≤ n → TrS X n p
  | 0, _ => trS_zero h
  | p + 1, hp => trS_step h (trS_all h p (by omega)) (by omega)
/-- The triangle of a triangle: it, nearly. -/
theorem same_tri {X : Nat → List Nat} {n i j : Nat} (h : TrM X n) (hi : i < n) (hj : j < n) : triN (triTo X n) i j < 2 ^ 64 ∧ rung (triN (triTo X n) i j) < 9218868437227405312 ∧ (sval (triN (triTo X n) i j) - sval ((X i).getD j 0)).natAbs * UU ≤ 150 * (sval ((X i).getD j 0)).natAbs := by
  have s := trS_all h n (Nat.le_refl _)
  have t1 := s.ht j j hj hj
  have t2 := s.ht i j hi hj
  have hd := h.hd j hj
  have f1 := finL_r (s.hF j hj) j
  have f2 := finL_r (s.hF i hi) j
  have l2 := (s.hF i hi j).2
  have hneg : sval ((triTo X n j).getD j 0) < 0 := by
    unfold Tn at t1
    have g := Nat.mul_le_mul_left (sval ((triTo X n j).getD j 0) + sval ((X j).getD j 0)).natAbs (show 200 ≤ UU by decide)
    omega
  have hlt : fcmp .lss ((triTo X n j).getD j 0) 0 = true := by
    unfold fcmp
    rw [ford_val' f1 (by decide), show sval 0 = 0 by decide +kernel, Int.compare_eq_lt.2 hneg]
    rfl
  have e : triN (triTo X n) i j = fadd (fneg ((triTo X n i).getD j 0)) 0 := tri_put1 hlt
  obtain ⟨n1, n2, n3⟩ := fneg_val l2 f2
  obtain ⟨r1, r2⟩ := fadd_nil (y := 0) n1 n2 (by decide) (by decide +kernel)
  refine ⟨by rw [e]; exact fop_lt (op := .add), by rw [e]; exact r1, ?_⟩
  rw [e, r2, n3]
  unfold Tn at t2
  have : (-sval ((triTo X n i).getD j 0) - sval ((X i).getD j 0)).natAbs = (sval ((triTo X n i).getD j 0) + sval ((X i).getD j 0)).natAbs := by omega
  rw [this]
  exact t2
end Go.Bn
