/-
 The greater of two numbers, cleared lists; scaling by powers of two as it is done.
-/
import Derived.Test.YtllkellonjhalaaGreatOoKf
set_option linter.unusedVariables false
set_option linter.unusedSimpArgs false
namespace Go.Bn
open Go
def PINF : Nat := 9218868437227405312
def NINF : Nat := 18442240474082181120
def ldE (x : Nat) (k : Int) : Int := k + (nrmR x).2 + ((expo (nrmR x).1 : Int) - 1023)
def ldW (x : Nat) (e : Int) : Nat := (if sgn (nrmR x).1 = true then 9223372036854775808 else 0) + ((e + 1023).toNat * 4503599627370496 + frac (nrmR x).1)
def TW53 : Nat := 0x3ca0000000000000
def ldx (x : Nat) (k : Int) : Nat :=
 if fcmp .eql x 0 = true then x
 else if (fcmp .gtr (fabs x) MAXF || fcmp .neq x x) = true then x
 else if ldE x k < -1075 then (if sgn (nrmR x).1 = true then NEG0 else 0)
 else if 1023 < ldE x k then (if fcmp .lss (nrmR x).1 0 = true then NINF else PINF)
 else if ldE x k < -1022 then fmul TW53 (ldW x (ldE x k + 53)) else fmul ONE (ldW x (ldE x k))
theorem fin_of_not {x : Nat} (hx : x < 2 ^ 64) (h : (fcmp .gtr (fabs x) MAXF || fcmp .neq x x) = false) : finB x = true := by
 rw [Bool.or_eq_false_iff] at h
 cases hn : nanB x
 ·by_cases hr : rung x < 9218868437227405312
  ·exact (finB_iff hx).2 hr
  ·exfalso
   have he : rung x = 9218868437227405312 := by
    by_cases he : rung x = 9218868437227405312
    ·exact he
    ·exfalso
     unfold nanB at hn
     rcases read_not hr with ⟨s, h⟩ | h
     ·unfold Ieee.Format.read at h
      unfold rung at hr he
      simp only [signW, binA, infR] at h
      rw [if_neg (by omega), if_neg hr, if_neg he] at h
      cases h
     ·rw [h] at hn; cases hn
   have e : fabs x = 9218868437227405312 := by
    unfold fabs
    rw [hn]
    exact he
   rw [e] at h
   exact absurd h.1 (by decide +kernel)
 ·exfalso
  have : fcmp .neq x x = true := by
   unfold fcmp
   rw [ford_nan (.inl hn)]
   rfl
  rw [this] at h
  cases h.2
theorem and_i64 {a : Nat} (h : a < 9223372036854775808) : bitsOf .and .i64 (a : Int) 2047 = ((a % 2048 : Nat) : Int) := by
 show IntKind.i64.wrap ((BitVec.ofInt 64 (a : Int) &&& BitVec.ofInt 64 (2047 : Int)).toNat : Int) = _
 rw [BitVec.toNat_and, ofInt_toNat a (by omega), show (2047 : Int) = ((2047 : Nat) : Int) from rfl, ofInt_toNat 2047 (by decide), show (2047 : Nat) = 2 ^ 11 - 1 by decide, and_pow]
 rw [IntKind.wrap_i64]
 have := Nat.mod_lt a (show 0 < 2 ^ 11 by decide)
 omega
theorem or_add (b c i : Nat) (hc : c < 2 ^ i) : b * 2 ^ i ||| c = b * 2 ^ i + c := by
 rw [← Nat.shiftLeft_eq, Nat.shiftLeft_add_eq_or_of_lt hc]
theorem clr_expo (y : Nat) (hy : y < 2 ^ 64) : bitsOf .andNot .u64 ((y : Nat) : Int) 9218868437227405312 = (((if sgn y = true then 9223372036854775808 else 0) + frac y : Nat) : Int) := by
 rw [show (9218868437227405312 : Int) = ((9218868437227405312 : Nat) : Int) from rfl, bits_andNot y _ hy (by decide)]
 congr 1
 have e : (2 ^ 64 - 1 - 9218868437227405312 : Nat) = 2048 * 2 ^ 52 ||| (2 ^ 52 - 1) := by decide
 rw [e, Nat.and_or_distrib_left, and_pow]
 have e2 : y &&& (2048 * 2 ^ 52) = if sgn y = true then 9223372036854775808 else 0 := by
  have h1 : (2048 * 2 ^ 52 : Nat) = 2 ^ 63 := by decide
  rw [h1]
  unfold sgn
  have h2 : y.testBit 63 = (y / 9223372036854775808 % 2 == 1) := by
   rw [Nat.testBit_eq_decide_div_mod_eq]
   show decide (y / 2 ^ 63 % 2 = 1) = _
   rw [show (2 : Nat) ^ 63 = 9223372036854775808 by decide]
   cases h : (y / 9223372036854775808 % 2 == 1)
   ·simpa using h
   ·simpa using h
  rw [← h2]
  apply Nat.eq_of_testBit_eq
  intro i
  rw [Nat.testBit_and, Nat.testBit_two_pow]
  by_cases hi : 63 = i
  ·subst hi
   cases y.testBit 63 <;> decide
  ·rw [decide_eq_false hi, Bool.and_false]
   cases y.testBit 63
   ·simp
   ·simp only [if_true]
    rw [show (9223372036854775808 : Nat) = 2 ^ 63 by decide, Nat.testBit_two_pow, decide_eq_false hi]
 rw [e2]
 unfold frac
 rw [show (4503599627370496 : Nat) = 2 ^ 52 by decide]
 have hf : y % 2 ^ 52 < 2 ^ 52 := Nat.mod_lt _ (by decide)
 split
 ·rw [show (9223372036854775808 : Nat) = 2048 * 2 ^ 52 by decide, or_add _ _ _ hf]
 ·rw [Nat.zero_or, Nat.zero_add]
theorem set_expo {s : Bool} {e f : Nat} (he : e < 2048) (hf : f < 4503599627370496) : bitsOf .or .u64 (((if s = true then 9223372036854775808 else 0) + f : Nat) : Int) ((e * 4503599627370496 : Nat) : Int) = (((if s = true then 9223372036854775808 else 0) + (e * 4503599627370496 + f) : Nat) : Int) := by
 have h1 : (if s = true then 9223372036854775808 else 0) + f < 2 ^ 64 := by split <;> omega
 rw [bits_or _ _ h1 (by omega)]
 congr 1
 rw [Nat.or_comm]
 have e1 : (4503599627370496 : Nat) = 2 ^ 52 := by decide
 cases s
 ·show e * 4503599627370496 ||| (0 + f) = 0 + (e * 4503599627370496 + f)
  rw [Nat.zero_add, Nat.zero_add, e1, or_add _ _ _ (by omega)]
 ·show e * 4503599627370496 ||| (9223372036854775808 + f) = 9223372036854775808 + (e * 4503599627370496 + f)
  rw [show (9223372036854775808 : Nat) = 2048 * 2 ^ 52 by decide, e1, ← or_add 2048 f 52 (by omega), ← Nat.or_assoc]
  have e2 : e * 2 ^ 52 ||| 2048 * 2 ^ 52 = (2048 + e) * 2 ^ 52 := by
   rw [← Nat.shiftLeft_eq, ← Nat.shiftLeft_eq, ← Nat.shiftLeft_or_distrib, Nat.shiftLeft_eq]
   congr 1
   rw [Nat.or_comm]
   have := or_add 1 e 11 he
   simpa using this
  rw [e2, or_add _ _ _ (by omega)]
  omega
theorem xor_top {a : Nat} (ha : a < 2 ^ 64) : a ^^^ 2 ^ 63 = if sgn a = true then a - 9223372036854775808 else a + 9223372036854775808 := by
 have e63 : (9223372036854775808 : Nat) = 2 ^ 63 := by decide
 have low : ∀ r, r < 2 ^ 63 → r ^^^ 2 ^ 63 = 2 ^ 63 + r := fun r hr => by
  have := or_add 1 r 63 hr
  rw [Nat.one_mul] at this
  rw [← this]
  apply Nat.eq_of_testBit_eq
  intro i
  rw [Nat.testBit_xor, Nat.testBit_or, Nat.testBit_two_pow]
  by_cases hi : 63 = i
  ·subst hi
   rw [Nat.testBit_lt_two_pow hr]
   decide
  ·rw [decide_eq_false hi]
   simp
 by_cases hs : sgn a = true
 ·rw [if_pos hs]
  have hs' : (a / 9223372036854775808 % 2 == 1) = true := hs
  have h1 : a / 9223372036854775808 % 2 = 1 := by simpa using hs'
  obtain ⟨r, hr⟩ : ∃ r, r = a - 9223372036854775808 := ⟨_, rfl⟩
  have hr2 : r < 2 ^ 63 := by omega
  have ha2 : a = 2 ^ 63 + r := by omega
  rw [← hr, ha2, ← low r hr2, Nat.xor_assoc, Nat.xor_self, Nat.xor_zero]
 ·rw [if_neg hs]
  have hs' : ¬ (a / 9223372036854775808 % 2 == 1) = true := hs
  have h1 : a / 9223372036854775808 % 2 ≠ 1 := by simpa using hs'
  rw [low a (by omega), e63, Nat.add_comm]
def fneg (a : Nat) : Nat := if nanB a = true then NAN else if sgn a = true then a - 9223372036854775808 else a + 9223372036854775808
theorem fneg_lt {a : Nat} (ha : a < 2 ^ 64) : fneg a < 2 ^ 64 := by
 unfold fneg
 split
 ·exact NAN_lt
 ·unfold sgn
  split
  ·omega
  ·rename_i h
   have : a / 9223372036854775808 < 2 := by omega
   have : a / 9223372036854775808 ≠ 1 := fun e => h (by rw [e]; rfl)
   omega
theorem rung_top {a : Nat} (ha : a < 2 ^ 64) : rung (a ^^^ 2 ^ 63) = rung a := by
 rw [xor_top ha]
 unfold sgn rung
 split
 ·rename_i h
  have : a / 9223372036854775808 = 1 := by
   have h2 : a / 9223372036854775808 < 2 := by omega
   have h3 : a / 9223372036854775808 ≠ 0 := fun e => by rw [e] at h; cases h
   omega
  omega
 ·omega
theorem nan_rung {a b : Nat} (h : rung a = rung b) : nanB a = nanB b := by
 rw [nanB_iff, nanB_iff]
 unfold rung at h
 rw [h]
section ops
variable {P : Program} {n : Nat} {ops : Array Oper} {Γ : Facts} {ρ : Env} {δ : VEnv} {τ : List VR}
variable {d : Nat} {ty : TypeId} {pos : String} {af : Array Edge}
theorem op_negf {x : Operand} {t : TypeId} {a : Nat} (hx : Lk Γ δ ρ x (flp a)) : OpOK P n ops Γ ρ δ τ ⟨some d, .unOp .neg t x, ty, pos, af, none⟩ .no (.c (flp (fneg a))) dum :=
 ok_pure fun A c _ hr => by
  obtain ⟨b, h1, h2, rfl⟩ := hr x _ (by simp [Op.operands]) hx
  have hb : b ^^^ 2 ^ 63 < 2 ^ 64 := Nat.xor_lt_two_pow h2 (by decide)
  refine ⟨.float .f64 (b ^^^ 2 ^ 63), by simp [execOp, Op.unary, h1]; rfl, b ^^^ 2 ^ 63, rfl, hb, ?_⟩
  cases hn : nanB b
  ·rw [cn_of_not hn, cn_of_not (by rw [nan_rung (rung_top h2)]; exact hn)]
   unfold fneg
   rw [hn, xor_top h2]
   rfl
  ·rw [cn_of_nan hn, cn_of_nan (by rw [nan_rung (rung_top h2)]; exact hn)]
   unfold fneg
   rw [nanB_NAN]
   rfl
end ops
theorem sgn_i64 {x : Nat} (hx : x < 2 ^ 64) : cmpB .lss (IntKind.i64.wrap (x : Int)) 0 = sgn x := by
 rw [IntKind.wrap_i64]
 unfold cmpB sgn
 by_cases h : x < 2 ^ 63
 ·have : x / 9223372036854775808 = 0 := by omega
  rw [this]
  simp
  omega
 ·have : x / 9223372036854775808 = 1 := by omega
  rw [this]
  simp
  omega
theorem sign_bits {y : Nat} (hy : y < 2 ^ 64) : bitsOf .or .u64 (bitsOf .andNot .u64 ((0 : Nat) : Int) 9223372036854775808) (bitsOf .and .u64 ((y : Nat) : Int) 9223372036854775808) = (((if sgn y = true then NEG0 else 0) : Nat) : Int) := by
 rw [amount_bits 0 (by decide), show (9223372036854775808 : Int) = ((9223372036854775808 : Nat) : Int) from rfl, bits_and y _ hy (by decide)]
 have h0 : y &&& 9223372036854775808 < 2 ^ 64 := Nat.lt_of_le_of_lt Nat.and_le_left hy
 rw [bits_or _ _ (by decide) h0]
 congr 1
 show 0 ||| (y &&& 9223372036854775808) = _
 rw [Nat.zero_or, show (9223372036854775808 : Nat) = 2 ^ 63 by decide]
 apply Nat.eq_of_testBit_eq
 intro i
 have h2 : y.testBit 63 = sgn y := by
  rw [Nat.testBit_eq_decide_div_mod_eq]
  unfold sgn
  rw [show (2 : Nat) ^ 63 = 9223372036854775808 by decide]
  cases h : (y / 9223372036854775808 % 2 == 1)
  ·simpa using h
  ·simpa using h
 rw [Nat.testBit_and, Nat.testBit_two_pow, ← h2]
 by_cases hi : 63 = i
 ·subst hi
  cases y.testBit 63 <;> decide
 ·rw [decide_eq_false hi, Bool.and_false]
  cases y.testBit 63
  ·simp
  ·simp only [if_true]
   rw [show NEG0 = 2 ^ 63 by decide, Nat.testBit_two_pow, decide_eq_false hi]
theorem ldW_lt {x : Nat} {e : Int} (h : e ≤ 1023) : ldW x e < 2 ^ 64 := by
 unfold ldW frac
 split <;> omega
def lchkW (xs : List Nat) : Int := if 48 < (xs.length : Int) then 1 else if xs.all finB = false then 4 else 0
def maxTo (xs : List Nat) : Nat → Nat
 | 0 => 0
 | k + 1 => fmax (maxTo xs k) (fabs (xs.getD k 0))
def maxL (xs : List Nat) : Nat := maxTo xs xs.length
def powB (xs : List Nat) : Bool := !fcmp .eql (maxL xs) 0
def powK (xs : List Nat) : Int := if powB xs = true then frxE (maxL xs) - 1 else 0
def sclL (xs : List Nat) (k : Int) : List Nat := xs.map fun x => ldx x (-k)
def sclN (xs : List Nat) (k : Int) : Nat := fsqrt (dotL (sclL xs k) (sclL xs k))
def lenL (xs : List Nat) : Nat := if powB xs = true then ldx (sclN xs (powK xs)) (powK xs) else 0
def finQ (x : Nat) : Bool := fcmp .eql (fsub x x) 0
def lenR (xs : List Nat) : NR := orN (lchkW xs) (if finQ (lenL xs) = true then ⟨lenL xs, 0⟩ else badN 5)
structure Giv where
 c : Nat
 s : Nat
 r : Nat
 e : Int
def givR (a b : Nat) : Giv :=
 if (!finQ a || !finQ b) = true then ⟨0, 0, 0, 4⟩
 else if fcmp .eql b 0 = true then ⟨ONE, 0, a, 0⟩
 else if fcmp .eql a 0 = true then ⟨0, ONE, b, 0⟩
 else if (lenR [a, b]).e ≠ 0 then ⟨0, 0, 0, (lenR [a, b]).e⟩
 else ⟨fdiv a (lenR [a, b]).a, fdiv b (lenR [a, b]).a, (lenR [a, b]).a, 0⟩
structure Gls where
 v : List Nat
 w : Nat
 alpha : Nat
def glsOf (y : List Nat) (g : Nat) (k : Int) : Gls :=
 let b := if sgn (y.getD 0 0) = true then g else fneg g
 ⟨y.set 0 (fsub (y.getD 0 0) b), fmul g (fadd g (fabs (y.getD 0 0))), ldx b k⟩
def houseL (xs : List Nat) : Gls := if powB xs = true then glsOf (sclL xs (powK xs)) (sclN xs (powK xs)) (powK xs) else ⟨List.replicate xs.length 0, 0, 0⟩
structure Hou where
 v : List Nat
 w : Nat
 alpha : Nat
 e : Int
def houseR (xs : List Nat) : Hou := if lchkW xs ≠ 0 then ⟨[], 0, 0, lchkW xs⟩ else if finQ (houseL xs).alpha = true then ⟨(houseL xs).v, (houseL xs).w, (houseL xs).alpha, 0⟩ else ⟨[], 0, 0, 5⟩
theorem fabs_fin {x : Nat} (hx : x < 2 ^ 64) (hf : finB x = true) : fabs x < 2 ^ 64 ∧ finB (fabs x) = true := by
 have hr := (finB_iff hx).1 hf
 have e : fabs x = rung x := by unfold fabs; rw [fin_not_nan hf]; rfl
 have h1 : fabs x < 2 ^ 64 := by rw [e]; omega
 exact ⟨h1, (finB_iff h1).2 (by rw [(fabs_parts hx hr).1]; exact hr)⟩
theorem fmax_or {x y : Nat} (h : nanB x = false) (h2 : nanB y = false) : fmax x y = x ∨ fmax x y = y := by
 unfold fmax
 cases ho : ford x y with
 | none =>
  rcases ford_none ho with e | e
  ·rw [h] at e; cases e
  ·rw [h2] at e; cases e
 | some o =>
  cases o
  ·exact .inr rfl
  ·show (if _ then y else x) = x ∨ _ = y
   split
   ·exact .inr rfl
   ·exact .inl rfl
  ·exact .inl rfl
theorem maxTo_fin {xs : List Nat} (h : FinL xs) : ∀ k, maxTo xs k < 2 ^ 64 ∧ finB (maxTo xs k) = true
 | 0 => ⟨by show 0 < 2 ^ 64; decide, by show finB 0 = true; decide⟩
 | k + 1 => by
  have h1 := maxTo_fin h k
  have h2 := fabs_fin (h k).2 (h k).1
  show fmax (maxTo xs k) (fabs (xs.getD k 0)) < 2 ^ 64 ∧ finB (fmax (maxTo xs k) (fabs (xs.getD k 0))) = true
  rcases fmax_or (fin_not_nan h1.2) (fin_not_nan h2.2) with e | e <;> rw [e]
  ·exact h1
  ·exact h2
theorem take_sclL {xs : List Nat} {k : Int} {j : Nat} (hj : j < xs.length) : (sclL xs k).take (j + 1) = (sclL xs k).take j ++ [ldx (xs.getD j 0) (-k)] := by
 rw [take_snoc 0 (by unfold sclL; rw [List.length_map]; exact hj)]
 congr 2
 simp [sclL, List.getD, List.getElem?_map, List.getElem?_eq_getElem hj]
theorem powK_rng (xs : List Nat) : -1075 ≤ powK xs ∧ powK xs ≤ 1024 := by
 unfold powK
 split
 ·have := frx_rng (maxL xs)
  omega
 ·omega
theorem expo_i64b {y : Nat} (hy : y < 2 ^ 64) : bitsOf .and .i64 ((y / 2 ^ 52 : Nat) : Int) 2047 = ((expo y : Nat) : Int) := by
 rw [and_i64 (by omega)]
 rfl
theorem wr64n {z : Int} (h0 : 0 ≤ z) (h1 : z < 18446744073709551616) : IntKind.u64.wrap z = ((z.toNat : Nat) : Int) := by rw [wr64 h0 h1]; omega
theorem shl52 {n : Nat} (h : n < 2048) : IntKind.u64.wrap (((n : Nat) : Int) * 2 ^ min (52 : Int).toNat IntKind.u64.bits) = ((n * 4503599627370496 : Nat) : Int) := by
 rw [show min (52 : Int).toNat IntKind.u64.bits = 52 by decide, wu64]
 omega
theorem frac_lt (x : Nat) : frac x < 4503599627370496 := Nat.mod_lt _ (by decide)
theorem ldW_cn {x : Nat} {e : Int} (h : e ≤ 1023) : cn (ldW x e) = ldW x e := by
 have hf := frac_lt (nrmR x).1
 apply cn_of_not
 rw [nanB_iff]
 unfold ldW
 apply decide_eq_false
 split <;> omega
theorem top_cn (s : Bool) : cn (if s = true then NEG0 else 0) = if s = true then NEG0 else 0 := by cases s <;> decide +kernel
def sclP (xs : List Nat) (k : Int) (j : Nat) : List Nat := (sclL xs k).take j ++ List.replicate (xs.length - j) 0
theorem length_sclL (xs : List Nat) (k : Int) : (sclL xs k).length = xs.length := by unfold sclL; rw [List.length_map]
theorem sclP_zero (xs : List Nat) (k : Int) : sclP xs k 0 = List.replicate xs.length 0 := by unfold sclP; simp
theorem length_sclP {xs : List Nat} {k : Int} {j : Nat} (hj : j ≤ xs.length) : (sclP xs k j).length = xs.length := by
 unfold sclP
 rw [List.length_append, List.length_take, length_sclL, List.length_replicate]
 omega
theorem sclP_set {xs : List Nat} {k : Int} {j : Nat} (hj : j < xs.length) : (sclP xs k j).set j (ldx (xs.getD j 0) (-k)) = sclP xs k (j + 1) := by
 unfold sclP
 rw [take_sclL hj, List.append_assoc]
 have e : ((sclL xs k).take j).length = j := by rw [List.length_take, length_sclL]; omega
 rw [List.set_append_right _ _ (by omega), e, Nat.sub_self, show xs.length - j = (xs.length - (j + 1)) + 1 by omega, List.replicate_succ]
 rfl
theorem sclP_at {xs : List Nat} {k : Int} {j : Nat} (hj : j < xs.length) : (sclP xs k (j + 1)).getD j 0 = (sclL xs k).getD j 0 := by
 unfold sclP
 have e : ((sclL xs k).take (j + 1)).length = j + 1 := by rw [List.length_take, length_sclL]; omega
 rw [List.getD, List.getElem?_append_left (by omega), List.getElem?_take, if_pos (by omega)]
 rfl
theorem sclP_all {xs : List Nat} {k : Int} : sclP xs k xs.length = sclL xs k := by
 unfold sclP
 rw [Nat.sub_self, List.take_of_length_le (by rw [length_sclL]; exact Nat.le_refl _)]
 simp
theorem lchkW_zero {xs : List Nat} (h : lchkW xs = 0) : xs.length ≤ 48 ∧ xs.all finB = true := by
 unfold lchkW at h
 by_cases h1 : 48 < (xs.length : Int)
 ·rw [if_pos h1] at h; exact absurd h (by decide)
 ·rw [if_neg h1] at h
  by_cases h2 : xs.all finB = false
  ·rw [if_pos h2] at h; exact absurd h (by decide)
  ·exact ⟨by omega, by simpa using h2⟩
theorem ldx_0 {x : Nat} {k : Int} (h1 : fcmp .eql x 0 = true) : x = ldx x k := by unfold ldx; rw [if_pos h1]
section ldx
variable {x : Nat} {k : Int} (h1 : fcmp .eql x 0 = false)
include h1
theorem ldx_not (h2 : (fcmp .gtr (fabs x) MAXF || fcmp .neq x x) = true) : x = ldx x k := by
 unfold ldx
 simp only [h1, Bool.false_eq_true, if_false]
 rw [if_pos h2]
variable (h2 : (fcmp .gtr (fabs x) MAXF || fcmp .neq x x) = false)
include h2
theorem ldx_lo (h3 : ldE x k < -1075) : (if sgn (nrmR x).1 = true then NEG0 else 0) = ldx x k := by
 unfold ldx
 simp only [h1, h2, Bool.false_eq_true, if_false]
 rw [if_pos h3]
theorem ldx_ni (h3 : ¬ ldE x k < -1075) (h4 : 1023 < ldE x k) (h5 : fcmp .lss (nrmR x).1 0 = true) : NINF = ldx x k := by
 unfold ldx
 simp only [h1, h2, Bool.false_eq_true, if_false]
 rw [if_neg h3, if_pos h4, if_pos h5]
theorem ldx_pi (h3 : ¬ ldE x k < -1075) (h4 : 1023 < ldE x k) (h5 : fcmp .lss (nrmR x).1 0 = false) : PINF = ldx x k := by
 unfold ldx
 simp only [h1, h2, Bool.false_eq_true, if_false]
 rw [if_neg h3, if_pos h4, if_neg (by rw [h5]; decide)]
theorem ldx_sub (h3 : ¬ ldE x k < -1075) (h4 : ¬ 1023 < ldE x k) (h6 : ldE x k < -1022) : fmul TW53 (cn (ldW x (ldE x k + 53))) = ldx x k := by
 unfold ldx
 simp only [h1, h2, Bool.false_eq_true, if_false]
 rw [if_neg h3, if_neg h4, if_pos h6, ldW_cn (by omega)]
theorem ldx_nrm (h3 : ¬ ldE x k < -1075) (h4 : ¬ 1023 < ldE x k) (h6 : ¬ ldE x k < -1022) : fmul ONE (cn (ldW x (ldE x k))) = ldx x k := by
 unfold ldx
 simp only [h1, h2, Bool.false_eq_true, if_false]
 rw [if_neg h3, if_neg h4, if_neg h6, ldW_cn (by omega)]
end ldx
theorem scl_step {xs : List Nat} {k : Int} {j : Nat} (hj : j < xs.length) : fop (fbits .add (dotTo (sclL xs k) (sclL xs k) j) (fop (fbits .mul (((sclP xs k j).set ((j : Int)).toNat (ldx (xs.getD ((j : Int)).toNat 0) (-k))).getD ((j : Int)).toNat 0) (((sclP xs k j).set ((j : Int)).toNat (ldx (xs.getD ((j : Int)).toNat 0) (-k))).getD ((j : Int)).toNat 0)))) = dotTo (sclL xs k) (sclL xs k) (j + 1) := by
 rw [Int.toNat_natCast, sclP_set hj, sclP_at hj]
 rfl
theorem scl_end {xs : List Nat} {k : Int} {j : Nat} (hj : j = xs.length) : fsqrt (dotTo (sclL xs k) (sclL xs k) j) = sclN xs k := by
 subst hj
 unfold sclN dotL
 rw [length_sclL]
section giv
variable {a b : Nat} (h1 : (!finQ a || !finQ b) = false)
include h1
theorem giv_1 (h2 : fcmp .eql b 0 = true) : givR a b = ⟨ONE, 0, a, 0⟩ := by unfold givR; simp only [h1, Bool.false_eq_true, if_false]; rw [if_pos h2]
variable (h2 : fcmp .eql b 0 = false)
include h2
theorem giv_2 (h3 : fcmp .eql a 0 = true) : givR a b = ⟨0, ONE, b, 0⟩ := by unfold givR; simp only [h1, h2, Bool.false_eq_true, if_false]; rw [if_pos h3]
variable (h3 : fcmp .eql a 0 = false)
include h3
theorem giv_3 (h4 : (lenR [a, b]).e ≠ 0) : givR a b = ⟨0, 0, 0, (lenR [a, b]).e⟩ := by unfold givR; simp only [h1, h2, h3, Bool.false_eq_true, if_false]; rw [if_pos h4]
theorem giv_4 (h4 : (lenR [a, b]).e = 0) : givR a b = ⟨fdiv a (lenR [a, b]).a, fdiv b (lenR [a, b]).a, (lenR [a, b]).a, 0⟩ := by unfold givR; simp only [h1, h2, h3, Bool.false_eq_true, if_false]; rw [if_neg (by simpa using h4)]
end giv
theorem ldW_fin {x : Nat} {e : Int} (h : e ≤ 1023) : rung (ldW x e) < 9218868437227405312 := by
 have hf := frac_lt (nrmR x).1
 unfold rung ldW
 split <;> omega
theorem mul_nan {x y : Nat} (hx : rung x < 9218868437227405312) (hy : rung y < 9218868437227405312) : nanB (fmul x y) = false := by
 rw [fmul_fin hx hy]
 exact nearest_nan
theorem ldx_nan {x : Nat} {k : Int} (hx : x < 2 ^ 64) (hf : finB x = true) : nanB (ldx x k) = false := by
 unfold ldx
 split
 ·exact fin_not_nan hf
 ·split
  ·exact fin_not_nan hf
  ·split
   ·split <;> decide +kernel
   ·split
    ·split <;> decide +kernel
    ·split
     ·exact mul_nan (by decide +kernel) (ldW_fin (by omega))
     ·exact mul_nan (by decide +kernel) (ldW_fin (by omega))
theorem powB_pos {xs : List Nat} (h : powB xs = true) : 0 < xs.length := by
 rcases Nat.eq_zero_or_pos xs.length with h0 | h0
 ·exfalso
  unfold powB maxL at h
  rw [h0] at h
  have h' : (!fcmp .eql 0 0) = true := h
  exact absurd h' (by decide +kernel)
 ·exact h0
theorem scl_head {xs : List Nat} {k : Int} (hF : FinL xs) (h : 0 < xs.length) : nanB ((sclL xs k).getD 0 0) = false := by
 have e : (sclL xs k).getD 0 0 = ldx (xs.getD 0 0) (-k) := by simp [sclL, List.getD, List.getElem?_map, List.getElem?_eq_getElem h]
 rw [e]
 exact ldx_nan (hF 0).2 (hF 0).1
theorem house_0 {xs : List Nat} (h : powB xs = false) : houseL xs = ⟨List.replicate xs.length 0, 0, 0⟩ := by unfold houseL; rw [if_neg (by rw [h]; decide)]
theorem house_s {xs : List Nat} (h : powB xs = true) (hs : sgn ((sclL xs (powK xs)).getD 0 0) = true) : houseL xs = ⟨(sclL xs (powK xs)).set 0 (fsub ((sclL xs (powK xs)).getD 0 0) (sclN xs (powK xs))), fmul (sclN xs (powK xs)) (fadd (sclN xs (powK xs)) (fabs ((sclL xs (powK xs)).getD 0 0))), ldx (sclN xs (powK xs)) (powK xs)⟩ := by
 unfold houseL glsOf
 rw [if_pos h, if_pos hs]
theorem house_n {xs : List Nat} (h : powB xs = true) (hs : sgn ((sclL xs (powK xs)).getD 0 0) = false) : houseL xs = ⟨(sclL xs (powK xs)).set 0 (fsub ((sclL xs (powK xs)).getD 0 0) (fneg (sclN xs (powK xs)))), fmul (sclN xs (powK xs)) (fadd (sclN xs (powK xs)) (fabs ((sclL xs (powK xs)).getD 0 0))), ldx (fneg (sclN xs (powK xs))) (powK xs)⟩ := by
 unfold houseL glsOf
 rw [if_pos h, if_neg (by rw [hs]; decide)]
theorem hou_1 {xs : List Nat} (h : lchkW xs ≠ 0) : houseR xs = ⟨[], 0, 0, lchkW xs⟩ := by unfold houseR; rw [if_pos h]
theorem hou_2 {xs : List Nat} (h : lchkW xs = 0) (hf : finQ (houseL xs).alpha = false) : houseR xs = ⟨[], 0, 0, 5⟩ := by unfold houseR; rw [if_neg (by simpa using h), if_neg (by rw [hf]; decide)]
theorem hou_3 {xs : List Nat} (h : lchkW xs = 0) (hf : finQ (houseL xs).alpha = true) : houseR xs = ⟨(houseL xs).v, (houseL xs).w, (houseL xs).alpha, 0⟩ := by unfold houseR; rw [if_neg (by simpa using h), if_pos hf]
end Go.Bn
