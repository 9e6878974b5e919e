/-
  Plain facts on the words of binary64: fields, classes, which are finite.
-/
import Derived.Test.YtcnffgbncbadbaaTyp
set_option linter.unusedVariables false
set_option linter.unusedSimpArgs false
namespace Go.Bn
open Go

def expo (x : Nat) : Nat := x / 4503599627370496 % 2048
def frac (x : Nat) : Nat := x % 4503599627370496
def finB (x : Nat) : Bool := decide (expo x < 2047)
def clsI (x : Nat) : Int := if expo x = 2047 ∧ frac x ≠ 0 then 1 else if expo x = 2047 then 2 else if expo x = 0 ∧ frac x = 0 then 3 else if expo x = 0 then 4 else 5

theorem nanB_fields {b : Nat} (_h : b < 2 ^ 64) : nanB b = decide (expo b = 2047 ∧ frac b ≠ 0) := by
  rw [nanB_iff]
  unfold expo frac
  by_cases h : 9218868437227405312 < b % 9223372036854775808
  · rw [decide_eq_true h, decide_eq_true (by omega)]
  · rw [decide_eq_false h, decide_eq_false (by omega)]
theorem cls_finB {x : Nat} : (clsI x ≠ 1 ∧ clsI x ≠ 2) ↔ finB x = true := by
  unfold clsI finB
  have : expo x < 2048 := Nat.mod_lt _ (by omega)
  by_cases h1 : expo x = 2047
  · by_cases h2 : frac x = 0 <;> simp [h1, h2]
  · rw [if_neg (by simp [h1]), if_neg h1, decide_eq_true (by omega)]
    by_cases h3 : expo x = 0
    · by_cases h4 : frac x = 0 <;> simp [h3, h4]
    · simp [h3]
theorem cls_gt {x : Nat} : decide (2 < clsI x) = finB x := by
  unfold clsI finB
  have : expo x < 2048 := Nat.mod_lt _ (by omega)
  by_cases h1 : expo x = 2047
  · by_cases h2 : frac x = 0 <;> simp [h1, h2]
  · rw [if_neg (by simp [h1]), if_neg h1, decide_eq_true (by omega : expo x < 2047)]
    by_cases h3 : expo x = 0
    · by_cases h4 : frac x = 0 <;> simp [h3, h4]
    · simp [h3]
theorem finB_nan {x : Nat} (h : finB x = true) (hx : x < 2 ^ 64) : nanB x = false := by
  rw [nanB_fields hx]
  unfold finB at h
  have := of_decide_eq_true h
  exact decide_eq_false (by omega)

/-! ## Bit operations on words -/
theorem ofInt_toNat (b : Nat) (h : b < 2 ^ 64) : (BitVec.ofInt 64 (b : Int)).toNat = b := by
  rw [BitVec.toNat_ofInt]
  omega
theorem wrapu (z : Nat) (h : z < 2 ^ 64) : IntKind.u64.wrap (z : Int) = z := by
  unfold IntKind.wrap
  simp [IntKind.bits, IntKind.signed]
  omega
theorem bits_and (a b : Nat) (ha : a < 2 ^ 64) (hb : b < 2 ^ 64) : bitsOf .and .u64 a b = ((a &&& b : Nat) : Int) := by
  show IntKind.u64.wrap ((BitVec.ofInt 64 (a : Int) &&& BitVec.ofInt 64 (b : Int)).toNat : Int) = _
  rw [BitVec.toNat_and, ofInt_toNat a ha, ofInt_toNat b hb]
  exact wrapu _ (Nat.lt_of_le_of_lt Nat.and_le_left ha)
theorem bits_or (a b : Nat) (ha : a < 2 ^ 64) (hb : b < 2 ^ 64) : bitsOf .or .u64 a b = ((a ||| b : Nat) : Int) := by
  show IntKind.u64.wrap ((BitVec.ofInt 64 (a : Int) ||| BitVec.ofInt 64 (b : Int)).toNat : Int) = _
  rw [BitVec.toNat_or, ofInt_toNat a ha, ofInt_toNat b hb]
  exact wrapu _ (Nat.or_lt_two_pow ha hb)
theorem bits_xor (a b : Nat) (ha : a < 2 ^ 64) (hb : b < 2 ^ 64) : bitsOf .xor .u64 a b = ((a ^^^ b : Nat) : Int) := by
  show IntKind.u64.wrap ((BitVec.ofInt 64 (a : Int) ^^^ BitVec.ofInt 64 (b : Int)).toNat : Int) = _
  rw [BitVec.toNat_xor, ofInt_toNat a ha, ofInt_toNat b hb]
  exact wrapu _ (Nat.xor_lt_two_pow ha hb)
theorem bits_andNot (a b : Nat) (ha : a < 2 ^ 64) (hb : b < 2 ^ 64) : bitsOf .andNot .u64 a b = ((a &&& (2 ^ 64 - 1 - b) : Nat) : Int) := by
  show IntKind.u64.wrap ((BitVec.ofInt 64 (a : Int) &&& ~~~ BitVec.ofInt 64 (b : Int)).toNat : Int) = _
  rw [BitVec.toNat_and, BitVec.toNat_not, ofInt_toNat a ha, ofInt_toNat b hb]
  exact wrapu _ (Nat.lt_of_le_of_lt Nat.and_le_left ha)
theorem and_pow (a k : Nat) : a &&& (2 ^ k - 1) = a % 2 ^ k := Nat.and_two_pow_sub_one_eq_mod a k
theorem fdiv_nat (a b : Nat) (hb : 0 < b) : (a : Int).fdiv (b : Int) = ((a / b : Nat) : Int) := by
  rw [Int.fdiv_eq_ediv_of_nonneg _ (by omega)]
  rfl
/-- x &^ 2^63. -/
theorem amount_bits (b : Nat) (h : b < 2 ^ 64) : bitsOf .andNot .u64 b 9223372036854775808 = ((b % 9223372036854775808 : Nat) : Int) := by
  rw [show (9223372036854775808 : Int) = ((9223372036854775808 : Nat) : Int) from rfl, bits_andNot b _ h (by decide)]
  rw [show (2 ^ 64 - 1 - 9223372036854775808 : Nat) = 2 ^ 63 - 1 by decide, and_pow]
theorem shr_bits (b k : Nat) (hk : k ≤ 64) : (b : Int).fdiv (2 ^ min ((k : Int)).toNat 64) = ((b / 2 ^ k : Nat) : Int) := by
  have e : min ((k : Int)).toNat 64 = k := by simp; omega
  rw [e, show (2 ^ k : Int) = ((2 ^ k : Nat) : Int) by simp, fdiv_nat _ _ (Nat.two_pow_pos _)]

end Go.Bn
namespace Go.Bn
open Go
theorem expo_bits {b : Nat} (hb : b < 2 ^ 64) : bitsOf .and .u64 ((cn b / 4503599627370496 : Nat) : Int) 2047 = ((expo (cn b) : Nat) : Int) := by
  have h := cn_lt hb
  rw [show (2047 : Int) = ((2047 : Nat) : Int) from rfl, bits_and _ _ (by omega) (by decide)]
  rw [show (2047 : Nat) = 2 ^ 11 - 1 by decide, and_pow]
  rfl
theorem expo_i64 (x : Nat) : IntKind.i64.wrap ((expo x : Nat) : Int) = ((expo x : Nat) : Int) := by
  have : expo x < 2048 := Nat.mod_lt _ (by omega)
  rw [IntKind.wrap_i64]; omega
theorem frac_bits {b : Nat} (hb : b < 2 ^ 64) : bitsOf .and .u64 ((cn b : Nat) : Int) 4503599627370495 = ((frac (cn b) : Nat) : Int) := by
  rw [show (4503599627370495 : Int) = ((4503599627370495 : Nat) : Int) from rfl, bits_and _ _ (cn_lt hb) (by decide)]
  rw [show (4503599627370495 : Nat) = 2 ^ 52 - 1 by decide, and_pow]
  rfl
end Go.Bn
namespace Go.Bn
open Go
/-- Of a number in a slot: it is a word, all NaNs one. -/
theorem J_fl {X : Cx} {Γ : Facts} {ρ : Env} {σ : List Res} {k : Code} {Q : Exit → Act → World → Prop} (t : Nat) {x : Nat} (h : ρ.get t = some (flp x)) (hk : x < 2 ^ 64 → cn x = x → J X Γ ρ σ k Q) : J X Γ ρ σ k Q := fun a c hs => by
  obtain ⟨b, _, hb, rfl⟩ := hs.env t _ h
  exact hk (cn_lt hb) (cn_cn b) a c hs
theorem ford_self (x : Nat) : ford x x = if nanB x then none else some .eq := by
  unfold ford Ieee.Format.order nanB
  cases Ieee.double.read x with
  | nan n f => rfl
  | infinity n => cases n <;> rfl
  | number n m e => simp [Ieee.Datum.order, Ieee.Datum.isNaN, Std.ReflCmp.compare_self]
theorem fcmp_self (x : Nat) : fcmp .neq x x = nanB x := by
  unfold fcmp
  simp only [ford_self]
  cases nanB x <;> rfl
theorem bitp_isv {x : Nat} (h : nanB x = false) : ∀ v c, (bitp x).H v c → (isv (.int .u64 (x : Int))).H v c := by
  rintro v c ⟨b, h1, h2, h3⟩
  have : nanB b = false := by rw [← nanB_cn, h3]; exact h
  rw [cn_of_not this] at h3
  subst h3
  exact ⟨h1, rfl⟩
theorem all_no {α : Type} {f : α → Bool} {xs : List α} {k : Nat} (d : α) (hk : k < xs.length) (h : f (xs.getD k d) = false) : xs.all f = false := by
  cases hx : xs.all f
  · rfl
  · have := (List.all_eq_true.1 hx) (xs.getD k d) (by rw [List.getD, List.getElem?_eq_getElem hk]; exact List.getElem_mem hk)
    rw [h] at this; cases this
theorem all_take {α : Type} {f : α → Bool} {xs : List α} {k : Nat} (d : α) (hk : k < xs.length) (h1 : (xs.take k).all f = true) (h2 : f (xs.getD k d) = true) : (xs.take (k + 1)).all f = true := by
  rw [List.take_succ_eq_append_getElem hk, List.all_append, h1]
  have : xs.getD k d = xs[k] := by rw [List.getD, List.getElem?_eq_getElem hk]; rfl
  rw [this] at h2
  simp [h2]
theorem all_whole {α : Type} {f : α → Bool} {xs : List α} {k : Nat} (hk : xs.length ≤ k) (h1 : (xs.take k).all f = true) : xs.all f = true := by
  rwa [List.take_of_length_le hk] at h1
theorem take_snoc {α : Type} {xs : List α} {k : Nat} (d : α) (hk : k < xs.length) : xs.take (k + 1) = xs.take k ++ [xs.getD k d] := by
  rw [List.take_succ_eq_append_getElem hk, List.getD, List.getElem?_eq_getElem hk]; rfl
def clf (e f m : Int) : Int := if e = m ∧ f ≠ 0 then 1 else if e = m then 2 else if e = 0 ∧ f = 0 then 3 else if e = 0 then 4 else 5
theorem clf_cls (x : Nat) : clf (expo x) (frac x) 2047 = clsI x := by
  unfold clf clsI
  have e1 : ((expo x : Nat) : Int) = 2047 ↔ expo x = 2047 := by omega
  have e2 : ((frac x : Nat) : Int) = 0 ↔ frac x = 0 := by omega
  have e3 : ((expo x : Nat) : Int) = 0 ↔ expo x = 0 := by omega
  simp only [e1, e2, e3, ne_eq]
theorem eq_list {xs ys : List Nat} (h : xs.length = ys.length) (hk : xs.take xs.length = ys.take xs.length) : xs = ys := by
  rwa [List.take_length, h, List.take_length] at hk
theorem take_eq_step {xs ys : List Nat} {k : Nat} (hl : xs.length = ys.length) (hk : k < xs.length) (h : xs.take k = ys.take k) (he : xs.getD k 0 = ys.getD k 0) : xs.take (k + 1) = ys.take (k + 1) := by
  rw [take_snoc 0 hk, take_snoc 0 (by omega), h, he]
theorem law_u64 {b : Nat} (hb : b < 2 ^ 64) {P : Program} : ∀ (v : Value) (c : EW), (u64p b).H v c → ∃ u m, (Go.Extern.MathFloatBits.float64frombits #[v]).run P c.w = .ok u { c.w with drawn := m } ∧ ∀ c', (flp (cn b)).H u c' := law_from hb
theorem mem_getD {α : Type} {xs : List α} {k : Nat} (d : α) (hk : k < xs.length) : xs.getD k d ∈ xs := by
  rw [List.getD, List.getElem?_eq_getElem hk]; exact List.getElem_mem hk
end Go.Bn
