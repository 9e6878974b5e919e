/-
 Exact numbers of so many digits; what 'within' reckons.
-/
import Derived.Test.YtllkellonjhalaaGreatOoSam
set_option linter.unusedVariables false
set_option linter.unusedSimpArgs false
namespace Go.Bn
open Go
def pw2 (b : Nat) : Nat := 2 ^ b
theorem pw2_mono {a b : Nat} (h : a ≤ b) : pw2 a ≤ pw2 b := Nat.pow_le_pow_right (by omega) h
theorem pw2_add (a b : Nat) : pw2 (a + b) = pw2 a * pw2 b := Nat.pow_add 2 a b
theorem pw2_suc (a : Nat) : pw2 (a + 1) = pw2 a * 2 := Nat.pow_succ 2 a
theorem pw2_int (a : Nat) : ((pw2 a : Nat) : Int) = 2 ^ a := (two_cast a).symm
theorem pw2_53 : pw2 53 = 9007199254740992 := by decide
structure Exl (x : Exa) (a b : Nat) : Prop where
 e0 : -(a : Int) ≤ x.e
 e1 : x.e ≤ b
 hb : x.m.natAbs ≤ pw2 b
theorem exl_up {x : Exa} {a b c d : Nat} (h : Exl x a b) (h1 : a ≤ c) (h2 : b ≤ d) : Exl x c d := ⟨by have := h.e0; omega, by have := h.e1; omega, Nat.le_trans h.hb (pw2_mono h2)⟩
theorem exl_mul {x y : Exa} {a b c d : Nat} (hx : Exl x a b) (hy : Exl y c d) : Exl (x.mul y) (a + c) (b + d) := by
 refine ⟨?_, ?_, ?_⟩
 ·show -((a + c : Nat) : Int) ≤ x.e + y.e
  have := hx.e0; have := hy.e0; omega
 ·show x.e + y.e ≤ ((b + d : Nat) : Int)
  have := hx.e1; have := hy.e1; omega
 ·show (x.m * y.m).natAbs ≤ _
  rw [Int.natAbs_mul, pw2_add]
  exact Nat.mul_le_mul hx.hb hy.hb
theorem exl_neg {x : Exa} {a b : Nat} (h : Exl x a b) : Exl x.neg a b := ⟨h.e0, h.e1, by show (-x.m).natAbs ≤ _; rw [Int.natAbs_neg]; exact h.hb⟩
theorem exl_abs {x : Exa} {a b : Nat} (h : Exl x a b) : Exl x.abs a b := ⟨h.e0, h.e1, by show ((x.m.natAbs : Nat) : Int).natAbs ≤ _; rw [Int.natAbs_natCast]; exact h.hb⟩
theorem exl_low {x : Exa} {a b : Nat} (h : Exl x a b) {e : Int} (he : -(a : Int) ≤ e) : (x.low e).m.natAbs ≤ pw2 (2 * b + a) := by
 have h0 := h.e0
 have h1 := h.e1
 unfold Exa.low
 split
 ·exact Nat.le_trans h.hb (pw2_mono (by omega))
 ·show (x.m * 2 ^ (x.e - e).toNat).natAbs ≤ _
  rw [Int.natAbs_mul, Int.natAbs_pow, show (2 : Int).natAbs = 2 from rfl]
  refine Nat.le_trans (Nat.mul_le_mul h.hb (pw2_mono (show (x.e - e).toNat ≤ b + a by omega))) ?_
  rw [← pw2_add]
  exact pw2_mono (by omega)
theorem exl_add {x y : Exa} {a b : Nat} (hx : Exl x a b) (hy : Exl y a b) : Exl (x.add y) a (2 * b + a + 1) := by
 have x0 := hx.e0
 have y0 := hy.e0
 have x1 := hx.e1
 have y1 := hy.e1
 unfold Exa.add
 split
 ·exact exl_up hy (by omega) (by omega)
 ·split
  ·exact exl_up hx (by omega) (by omega)
  ·refine ⟨by show -(a : Int) ≤ min x.e y.e; omega, by show min x.e y.e ≤ _; omega, ?_⟩
   show ((x.low (min x.e y.e)).m + (y.low (min x.e y.e)).m).natAbs ≤ _
   have g1 := exl_low hx (e := min x.e y.e) (by omega)
   have g2 := exl_low hy (e := min x.e y.e) (by omega)
   rw [pw2_suc]
   omega
theorem exl_sml {z : Int} {n : Nat} (h : z.natAbs ≤ pw2 n) (hn : n ≤ 127000) : Sml z := ⟨by
 have h1 : ((z.natAbs : Nat) : Int) ≤ 2 ^ n := by rw [← pw2_int]; exact Int.ofNat_le.2 h
 have h2 : (2 : Int) ^ n < wpw 4000 := by
  have h3 := pow_le_wpw (a := n) (w := 3999) (by omega)
  have h4 := wpw_pos 3999
  have h5 : (1 : Int) < wpw 1 := by decide +kernel
  have h6 := wpw_add 1 3999
  have h7 := Int.mul_lt_mul_of_pos_right h5 (show 0 < wpw 3999 by omega)
  rw [Int.one_mul, ← h6] at h7
  have h8 : wpw (1 + 3999) = wpw 4000 := rfl
  omega
 omega⟩
theorem exl_exb {x : Exa} {a b : Nat} (h : Exl x a b) (ha : a ≤ 100000) (hb : b ≤ 100000) : Exb x := ⟨exl_sml h.hb (by omega), by have := h.e0; omega, by have := h.e1; omega⟩
theorem exl_sml2 {x y : Exa} {a b : Nat} (hx : Exl x a b) (hy : Exl y a b) (h : 2 * b + a ≤ 127000) : ∀ e, e = min x.e y.e → Sml (x.low e).m ∧ Sml (y.low e).m := fun e he => by
 have x0 := hx.e0
 have y0 := hy.e0
 exact ⟨exl_sml (exl_low hx (by omega)) h, exl_sml (exl_low hy (by omega)) h⟩
theorem exl_ofX {x : Nat} (hf : finB x = true) (hx : x < 2 ^ 64) : Exl (ofX x) 1074 1100 := by
 obtain ⟨h1, h2⟩ := ofX_e hf hx
 refine ⟨by omega, by omega, ?_⟩
 have := ofX_small x
 refine Nat.le_trans (Nat.le_of_lt this) ?_
 rw [← pw2_53]
 exact pw2_mono (by omega)
theorem exl_pow {k : Nat} : Exl (powX (-(k : Int))) k 1 := ⟨by show -(k : Int) ≤ -(k : Int); omega, by show -(k : Int) ≤ ((1 : Nat) : Int); omega, by show ((1 : Int)).natAbs ≤ pw2 1; decide⟩
theorem wpw_le_pow {w a : Nat} (h : 32 * w ≤ a) : wpw w ≤ (2 : Int) ^ a := by
 have e : wpw w = 2 ^ (32 * w) := by unfold wpw; rw [Int.pow_mul]; rfl
 rw [e]
 exact pow_mono h
theorem exl_dot2 {xs ys : List Nat} (hF : FinL xs) (hG : FinL ys) : ∀ k, k ≤ 48 → Exl (dotX xs ys k) 2148 10000 := fun k hk => by
 have hq := dotx_exq hF hG k
 refine ⟨hq.e0, by have := hq.e1; omega, ?_⟩
 have h1 := exq_low hq (e := (dotX xs ys k).e) hq.e0
 rw [low_self] at h1
 have h2 : (k : Int) * wpw 140 ≤ ((pw2 10000 : Nat) : Int) := by
  have h3 : (k : Int) * wpw 140 ≤ wpw 1 * wpw 140 := Int.mul_le_mul_of_nonneg_right (by
   have : (1000 : Int) < wpw 1 := by decide +kernel
   omega) (by have := wpw_pos 140; omega)
  rw [← wpw_add] at h3
  refine Int.le_trans h3 ?_
  rw [pw2_int]
  exact wpw_le_pow (by omega)
 exact Int.ofNat_le.1 (Int.le_trans h1 h2)
structure WinB (d w : Exa) : Prop where
 hd : Exb d
 hw : Exb w
 h1 : Exb (d.mul d)
 h2 : Exb (w.mul (powX (-76)))
 h3 : Exb (w.mul (powX (-76))).neg
 h4 : ∀ e, e = min (d.mul d).e (w.mul (powX (-76))).neg.e → Sml ((d.mul d).low e).m ∧ Sml ((w.mul (powX (-76))).neg.low e).m
 yes : ¬ 0 < (d.mul d).cmp (w.mul (powX (-76)))
theorem winB_mk {d w : Exa} {E : Nat} (hd : Exl d 2148 24000) (hw : Exl w 4296 24000) (hE : 4372 ≤ E) (h : xv E (d.mul d) ≤ xv E (w.mul (powX (-76)))) : WinB d w := by
 have hdd : Exl (d.mul d) 4372 48001 := exl_up (exl_mul hd hd) (by omega) (by omega)
 have hwp : Exl (w.mul (powX (-76))) 4372 48001 := exl_up (exl_mul hw (exl_pow (k := 76))) (by omega) (by omega)
 have d0 := hdd.e0
 have w0 := hwp.e0
 exact ⟨exl_exb hd (by omega) (by omega), exl_exb hw (by omega) (by omega), exl_exb hdd (by omega) (by omega), exl_exb hwp (by omega) (by omega), exl_exb (exl_neg hwp) (by omega) (by omega), exl_sml2 hdd (exl_neg hwp) (by omega), cmp_le (E := E) (by omega) (by omega) h⟩
theorem xv_p76 : xv 76 (powX (-76)) = 1 := by decide
end Go.Bn
