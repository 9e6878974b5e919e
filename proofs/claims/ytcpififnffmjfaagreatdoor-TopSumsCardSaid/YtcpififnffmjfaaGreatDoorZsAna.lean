/-
 Numbers taken apart and put together: sign, odd part, place.
-/
import Derived.Test.YtcpififnffmjfaaGreatDoorZsBik
import Derived.Test.YtcpififnffmjfaaGreatDoorZsEfx
set_option linter.unusedVariables false
set_option linter.unusedSimpArgs false
namespace Go.Bn
open Go
theorem tzJ_eq : ∀ n : Nat, tzNJ n = tz n := by
 intro n
 induction n using Nat.strongRecOn with
 | ind n ih =>
 rw [tzNJ, tz]
 by_cases h : n = 0
 ·simp [h]
 ·by_cases h2 : n % 2 = 1
  ·have : ¬ n % 2 = 0 := by omega
   simp [h, h2]
  ·have : n % 2 = 0 := by omega
   rw [dif_neg h, dif_neg h, if_neg h2, if_pos this, ih (n / 2) (by omega)]
theorem sgn_and {b : Nat} (hb : b < 2 ^ 64) : cmpB .neq (bitsOf .and .u64 ((b : Nat) : Int) 9223372036854775808) 0 = sgn b := by
 rw [show (9223372036854775808 : Int) = ((2 ^ 63 : Nat) : Int) by decide, bits_and _ _ hb (by decide)]
 have e : b &&& 2 ^ 63 = 2 ^ 63 * (b / 2 ^ 63 % 2) := by
  have h1 : b / 2 ^ 63 &&& 1 = b / 2 ^ 63 % 2 := by
   exact and_pow (b / 2 ^ 63) 1
  have h2 := Nat.and_div_two_pow (a := b) (b := 2 ^ 63) (n := 63)
  have h3 := Nat.and_mod_two_pow (a := b) (b := 2 ^ 63) (n := 63)
  rw [show (2 : Nat) ^ 63 / 2 ^ 63 = 1 by decide, h1] at h2
  rw [show (2 : Nat) ^ 63 % 2 ^ 63 = 0 by decide, Nat.and_zero] at h3
  have h4 := Nat.div_add_mod (b &&& 2 ^ 63) (2 ^ 63)
  rw [h2, h3] at h4
  omega
 rw [e]
 unfold sgn cmpB
 have hb' : b < 18446744073709551616 := hb
 have h9 : b / 2 ^ 63 = b / 9223372036854775808 := rfl
 rw [h9]
 by_cases h : b / 9223372036854775808 % 2 = 1
 ·rw [h]; decide
 ·rw [show b / 9223372036854775808 % 2 = 0 by omega]; decide
theorem or_hid {f : Nat} (hf : f < 4503599627370496) : bitsOf .or .u64 ((f : Nat) : Int) 4503599627370496 = ((f + 4503599627370496 : Nat) : Int) := by
 rw [show (4503599627370496 : Int) = ((2 ^ 52 : Nat) : Int) by decide, bits_or _ _ (by omega) (by decide), Nat.or_comm]
 congr 1
 have := Nat.two_pow_add_eq_or_of_lt (i := 52) (b := f) (by omega) 1
 rw [Nat.mul_one] at this
 rw [← this]
 omega
theorem shr_tz {m : Nat} (h0 : m ≠ 0) (h : m < 18446744073709551616) : ((m : Nat) : Int).fdiv (2 ^ min ((tzNJ m : Nat) : Int).toNat IntKind.u64.bits) = ((oddM m : Nat) : Int) := by
 have h1 := tz_lt h0 h
 rw [tzJ_eq, oddM, if_neg h0]
 exact shr_bits m (tz m) (by omega)
theorem oddM_pos {m : Nat} (h : m ≠ 0) : oddM m ≠ 0 := by
 rw [oddM, if_neg h]
 have := tz_mul m h
 intro e
 rw [e] at this
 omega
theorem oddM_mul {m : Nat} (h : m ≠ 0) : oddM m * 2 ^ tz m = m := by rw [oddM, if_neg h]; exact tz_mul m h
def mdU (m : Nat) (e : Int) : Nat := min (53 - bl (oddM m)) (oddE m e + 1074).toNat
def mdM (m : Nat) (e : Int) : Nat := oddM m * 2 ^ mdU m e
def mdN (m : Nat) (e : Int) : Nat := if mdM m e < 4503599627370496 then 0 else (oddE m e - mdU m e + 1075).toNat
def mdF (m : Nat) (e : Int) : Nat := if mdM m e < 4503599627370496 then mdM m e else mdM m e - 4503599627370496
def mdW (neg : Bool) (m : Nat) (e : Int) : Nat := if m = 0 then putW neg 0 0 else putW neg (mdN m e) (mdF m e)
structure MdH (m : Nat) (e : Int) : Prop where
 h : m < 18446744073709551616
 o : bl (oddM m) ≤ 53
 e0 : -1074 ≤ e
 e1 : e ≤ 2000
 e2 : m ≠ 0 → oddE m e + bl (oddM m) ≤ 1024
theorem oddE_ge {m : Nat} {e : Int} (h : m ≠ 0) : oddE m e = e + tz m := by rw [oddE, if_neg h]
theorem mdU_le {m : Nat} {e : Int} (h : MdH m e) : mdU m e ≤ 53 - bl (oddM m) ∧ (mdU m e : Int) ≤ oddE m e + 1074 ∨ m = 0 := by
 by_cases h0 : m = 0
 ·exact .inr h0
 ·left
  have := oddE_ge (e := e) h0
  have := h.e0
  unfold mdU
  omega
theorem mdM_lt {m : Nat} {e : Int} (h : MdH m e) : mdM m e < 9007199254740992 := by
 have h1 : mdU m e ≤ 53 - bl (oddM m) := Nat.min_le_left _ _
 have h2 : oddM m < 2 ^ bl (oddM m) := bl_le (Nat.le_refl _)
 have h3 : 2 ^ bl (oddM m) * 2 ^ mdU m e ≤ 2 ^ 53 := by
  rw [← Nat.pow_add]; exact Nat.pow_le_pow_right (by decide) (by have := h.o; omega)
 have h4 : oddM m * 2 ^ mdU m e < 2 ^ bl (oddM m) * 2 ^ mdU m e := Nat.mul_lt_mul_of_pos_right h2 (Nat.two_pow_pos _)
 show oddM m * 2 ^ mdU m e < 2 ^ 53
 omega
theorem mdM_big {m : Nat} {e : Int} (h : MdH m e) (h0 : m ≠ 0) (hb : mdU m e = 53 - bl (oddM m)) : 4503599627370496 ≤ mdM m e := by
 have h1 := oddM_pos h0
 have hp : 0 < bl (oddM m) := by rw [bl_pos h1]; omega
 have h2 : 2 ^ (bl (oddM m) - 1) ≤ oddM m := by
  apply Classical.byContradiction
  intro hc
  have := bl_lt (t := oddM m) (k := bl (oddM m) - 1) (by omega)
  omega
 have h3 : 2 ^ (bl (oddM m) - 1) * 2 ^ mdU m e = 2 ^ 52 := by
  rw [← Nat.pow_add]; congr 1; have := h.o; omega
 have h4 := Nat.mul_le_mul_right (2 ^ mdU m e) h2
 show 2 ^ 52 ≤ oddM m * 2 ^ mdU m e
 omega
theorem mdM_low {m : Nat} {e : Int} (h : MdH m e) (h0 : m ≠ 0) (hl : mdM m e < 4503599627370496) : (mdU m e : Int) = oddE m e + 1074 := by
 have h1 := mdM_big h h0
 rcases mdU_le h with h2 | h2
 ·have h3 : mdU m e ≠ 53 - bl (oddM m) := fun e9 => by have := h1 e9; omega
  unfold mdU at h2 h3 ⊢
  omega
 ·exact absurd h2 h0
theorem mdN_lt {m : Nat} {e : Int} (h : MdH m e) (h0 : m ≠ 0) : mdN m e < 2047 := by
 unfold mdN
 split
 ·omega
 ·have h2 := h.e2 h0
  rename_i hl
  have hU : mdU m e = 53 - bl (oddM m) ∨ (mdU m e : Int) = oddE m e + 1074 := by
   rcases mdU_le h with h3 | h3
   ·unfold mdU at h3 ⊢; omega
   ·exact absurd h3 h0
  rcases hU with hU | hU
  ·have := h.o; omega
  ·omega
theorem mdF_lt {m : Nat} {e : Int} (h : MdH m e) : mdF m e < 4503599627370496 := by
 have := mdM_lt h
 unfold mdF
 split <;> omega
theorem put_parts {neg : Bool} {n f : Nat} (hn : n < 2047) (hf : f < 4503599627370496) : putW neg n f < 2 ^ 64 ∧ nanB (putW neg n f) = false ∧ rung (putW neg n f) = n * 4503599627370496 + f ∧ sgn (putW neg n f) = neg := by
 have e : (2 : Nat) ^ 64 = 18446744073709551616 := by decide
 rw [nanB_iff, e]
 unfold putW sgb rung sgn
 cases neg
 ·simp; omega
 ·simp; omega
theorem put_vlu {neg : Bool} {n f : Nat} (hn : n < 2047) (hf : f < 4503599627370496) : sval (putW neg n f) = sgz neg ((if n = 0 then f else f + 4503599627370496) * 2 ^ (n - 1)) := by
 obtain ⟨h1, h2, h3, h4⟩ := put_parts (neg := neg) hn hf
 rw [sval_sgz, h4]
 congr 1
 unfold vlu mgn plc
 rw [h3]
 by_cases h0 : n = 0
 ·subst h0
  rw [if_pos (by omega), if_pos (by omega), if_pos rfl]
  simp
 ·rw [if_neg (by omega), if_neg (by omega), if_neg h0]
  have e1 : (n * 4503599627370496 + f) % 4503599627370496 = f := by omega
  have e2 : (n * 4503599627370496 + f) / 4503599627370496 = n := by omega
  rw [e1, e2, Nat.add_comm 4503599627370496 f, show (-1074 + ((n - 1 : Nat) : Int) + 1074).toNat = n - 1 by omega]
theorem mdW_fin {neg : Bool} {m : Nat} {e : Int} (h : MdH m e) : Fin64 (mdW neg m e) := by
 unfold mdW
 split
 ·obtain ⟨h1, h2, h3, h4⟩ := put_parts (neg := neg) (n := 0) (f := 0) (by omega) (by omega)
  exact ⟨h1, by omega⟩
 ·rename_i h0
  have hn := mdN_lt h h0
  have hf := mdF_lt h
  obtain ⟨h1, h2, h3, h4⟩ := put_parts (neg := neg) hn hf
  exact ⟨h1, by omega⟩
theorem mdW_val {neg : Bool} {m : Nat} {e : Int} (h : MdH m e) : sval (mdW neg m e) = sgz neg (m * 2 ^ (e + 1074).toNat) := by
 unfold mdW
 split
 ·rename_i h0
  rw [put_vlu (n := 0) (f := 0) (by omega) (by omega), h0]; simp only [Nat.zero_mul, if_pos]
 ·rename_i h0
  have hn := mdN_lt h h0
  have hf := mdF_lt h
  rw [put_vlu hn hf]
  congr 1
  have hE := oddE_ge (e := e) h0
  have hm := oddM_mul h0
  have hU := mdU_le h
  have he0 := h.e0
  have hM := mdM_lt h
  have key : mdM m e * 2 ^ (oddE m e - mdU m e + 1074).toNat = m * 2 ^ (e + 1074).toNat := by
   unfold mdM
   rw [Nat.mul_assoc, ← Nat.pow_add, show mdU m e + (oddE m e - mdU m e + 1074).toNat = tz m + (e + 1074).toNat by omega, Nat.pow_add, ← Nat.mul_assoc, hm]
  rw [← key]
  unfold mdN mdF
  by_cases hl : mdM m e < 4503599627370496
  ·have h1 := mdM_low h h0 hl
   rw [if_pos hl, if_pos hl, if_pos rfl, show (oddE m e - mdU m e + 1074).toNat = 0 by omega]
  ·rw [if_neg hl, if_neg hl]
   have : (oddE m e - mdU m e + 1075).toNat - 1 = (oddE m e - mdU m e + 1074).toNat := by omega
   rw [this, if_neg (by omega), show mdM m e - 4503599627370496 + 4503599627370496 = mdM m e by omega]
theorem putW_cn {neg : Bool} {n f : Nat} (hn : n < 2047) (hf : f < 4503599627370496) : cn (putW neg n f) = putW neg n f := cn_of_not (put_parts hn hf).2.1
end Go.Bn
namespace Go.Bn
open Go
theorem cls_fin {b : Nat} (h : finB b = true) : (clsI b = 3 ∧ mgn b = 0 ∧ frac b = 0) ∨ (clsI b = 4 ∧ expo b = 0 ∧ mgn b ≠ 0 ∧ mgn b = frac b ∧ plc b = -1074) ∨ (clsI b = 5 ∧ 0 < expo b ∧ mgn b ≠ 0 ∧ mgn b = frac b + 4503599627370496 ∧ plc b = (expo b : Int) - 1075) := by
 have hx : expo b < 2047 := by unfold finB at h; simpa using h
 unfold clsI
 by_cases h0 : expo b = 0
 ·obtain ⟨h1, h2⟩ := mgn_0 h0
  by_cases hf : frac b = 0
  ·left
   rw [if_neg (by omega), if_neg (by omega), if_pos ⟨h0, hf⟩]
   omega
  ·right; left
   rw [if_neg (by omega), if_neg (by omega), if_neg (by omega), if_pos h0]
   omega
 ·obtain ⟨h1, h2⟩ := mgn_1 (x := b) (by omega)
  right; right
  rw [if_neg (by omega), if_neg (by omega), if_neg (by omega), if_neg h0]
  omega
theorem odd_0 {m : Nat} {e : Int} (h : m = 0) : oddM m = 0 ∧ oddE m e = 0 := by unfold oddM oddE; rw [if_pos h, if_pos h]; exact ⟨rfl, rfl⟩
theorem or_mgn {b : Nat} (h : mgn b = frac b + 4503599627370496) : bitsOf .or .u64 ((frac b : Nat) : Int) 4503599627370496 = ((mgn b : Nat) : Int) := by rw [or_hid (frac_lt b), h]
theorem add_odd {m : Nat} {e : Int} (h0 : m ≠ 0) (h : m < 18446744073709551616) (e0 : -1000000 ≤ e) (e1 : e ≤ 1000000) : IntKind.i64.wrap (e + ((tzNJ m : Nat) : Int)) = oddE m e := by
 have := tz_lt h0 h
 rw [tzJ_eq, oddE_ge h0]
 exact zO (by omega) (by omega)
theorem join_no {n f : Nat} (hn : n < 2047) (hf : f < 4503599627370496) : ((cn (n * 4503599627370496 + f) : Nat) : Int) = ((putW false n f : Nat) : Int) := by
 have e : n * 4503599627370496 + f = putW false n f := by unfold putW sgb; simp
 rw [e, putW_cn hn hf]
theorem mdU_eq {m : Nat} {e : Int} (h : MdH m e) (h0 : m ≠ 0) : min (53 - (bl (oddM m) : Int)) (oddE m e + 1074) = ((mdU m e : Nat) : Int) := by
 have h1 := h.o
 have h2 := h.e0
 have h3 := oddE_ge (e := e) h0
 unfold mdU
 omega
theorem shl_md {m : Nat} {e : Int} (h : MdH m e) (h0 : m ≠ 0) : IntKind.u64.wrap (((oddM m : Nat) : Int) * 2 ^ min ((mdU m e : Nat) : Int).toNat IntKind.u64.bits) = ((mdM m e : Nat) : Int) := by
 have h1 : mdU m e ≤ 53 - bl (oddM m) := Nat.min_le_left _ _
 have hM := mdM_lt h
 rw [shlJ (by omega)]
 have e1 : ((oddM m : Nat) : Int) * 2 ^ mdU m e = ((mdM m e : Nat) : Int) := by
  unfold mdM; rw [Int.natCast_mul]; simp
 rw [e1]
 omega
theorem oddM_le2 {m : Nat} : oddM m ≤ m := by
 unfold oddM
 split
 ·omega
 ·exact Nat.div_le_self _ _
theorem mdN_eq {m : Nat} {e : Int} (h : MdH m e) (h0 : m ≠ 0) (hl : ¬ mdM m e < 4503599627370496) : IntKind.i64.wrap (oddE m e - ((mdU m e : Nat) : Int) + 1075) = ((mdN m e : Nat) : Int) := by
 have h1 := mdN_lt h h0
 have hU := mdU_le h
 have hN : mdN m e = (oddE m e - mdU m e + 1075).toNat := by unfold mdN; rw [if_neg hl]
 rw [hN] at h1 ⊢
 rw [zO (by omega) (by omega)]
 omega
theorem mdF_eq {m : Nat} {e : Int} (hl : ¬ mdM m e < 4503599627370496) (hM : mdM m e < 9007199254740992) : IntKind.u64.wrap (((mdM m e : Nat) : Int) - 4503599627370496) = ((mdF m e : Nat) : Int) := by
 unfold mdF
 rw [if_neg hl, wr64 (by omega) (by omega)]
 omega
theorem mdW_0 {neg : Bool} {m : Nat} {e : Int} (h : m = 0) : putW neg 0 0 = mdW neg m e := by unfold mdW; rw [if_pos h]
theorem mdW_1 {neg : Bool} {m : Nat} {e : Int} (h0 : m ≠ 0) (hl : mdM m e < 4503599627370496) : putW neg 0 (mdM m e) = mdW neg m e := by unfold mdW mdN mdF; rw [if_neg h0, if_pos hl, if_pos hl]
theorem mdW_2 {neg : Bool} {m : Nat} {e : Int} (h0 : m ≠ 0) : putW neg (mdN m e) (mdF m e) = mdW neg m e := by unfold mdW; rw [if_neg h0]
theorem mdW_cn {neg : Bool} {m : Nat} {e : Int} (h : MdH m e) : cn (mdW neg m e) = mdW neg m e := by
 have h1 := mdW_fin (neg := neg) h
 exact cn_of_not (fin_not_nan ((fin64_iff h1.1).1 h1))
end Go.Bn
