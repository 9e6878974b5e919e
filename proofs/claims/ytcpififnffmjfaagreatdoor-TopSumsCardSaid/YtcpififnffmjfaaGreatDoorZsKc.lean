/-
 Plain facts on matrices: numbers row by row, and what the matrix packages compute. What the functions of the matrix package answer, as plain functions. Plain facts on the numbers' operations. Plain facts on what the eighth reference computes. Plain facts on binary64: what is exact. Plain facts on what is symmetric. Plain facts on the unit matrix. Plain facts on places. Plain facts on sums, multiples and outer products. Plain facts on matrices that are made. Plain facts on kinds of matrices, traces and norms. Plain facts on parts of matrices. Plain facts on orders. Plain facts on matrices taken apart and put together. Plain facts on powers of two. The logic of walks: the last operations; numbers by their bits.
-/
import Derived.Test.YtcpififnffmjfaaGreatDoorZsKb
set_option linter.unusedVariables false
set_option linter.unusedSimpArgs false
namespace Go.Bn
open Go
theorem lpE : Ieee.double.leastPlace = -1074 := by decide +kernel
theorem fbE : Ieee.double.fractionBits = 52 := rfl
theorem log2_shift {n k : Nat} (h : n ≠ 0) : (n <<< k).log2 = n.log2 + k := by
 rw [Nat.shiftLeft_eq]
 refine (Nat.log2_eq_iff (by have := Nat.two_pow_pos k; exact Nat.mul_ne_zero h (by omega))).2 ⟨?_, ?_⟩
 ·rw [Nat.pow_add]; exact Nat.mul_le_mul_right _ (Nat.log2_self_le h)
 ·rw [show n.log2 + k + 1 = (n.log2 + 1) + k by omega, Nat.pow_add]
  exact Nat.mul_lt_mul_of_pos_right (Nat.lt_log2_self) (Nat.two_pow_pos k)
theorem shift_ne {n k : Nat} (h : n ≠ 0) : n <<< k ≠ 0 := by
 rw [Nat.shiftLeft_eq]
 have := Nat.two_pow_pos k
 exact Nat.mul_ne_zero h (by omega)
theorem cut_scale {neg : Bool} {n d k : Nat} (h : n ≠ 0) : Ieee.Toward.even.cut neg (n <<< k) (d + k) = Ieee.Toward.even.cut neg n d := by
 unfold Ieee.Toward.cut
 simp only [log2_shift h]
 rw [show min (d + k) (n.log2 + k + 2) = min d (n.log2 + 2) + k by omega]
 generalize min d (n.log2 + 2) = g
 have e1 : 1 <<< (g + k) = (1 <<< g) * 2 ^ k := by rw [Nat.shiftLeft_eq, Nat.shiftLeft_eq, Nat.pow_add]; simp
 have e2 : n <<< k = n * 2 ^ k := Nat.shiftLeft_eq _ _
 rw [e1, e2]
 generalize hG : 1 <<< g = G
 have hk := Nat.two_pow_pos k
 rw [Nat.mul_div_mul_right _ _ hk, Nat.mul_mod_mul_right]
 generalize hK : 2 ^ k = K at *
 have h1 : decide (G * K < 2 * (n % G * K)) = decide (G < 2 * (n % G)) := by
  rw [← Nat.mul_assoc]
  exact decide_eq_decide.2 (Nat.mul_lt_mul_right hk)
 have h2 : (G * K == 2 * (n % G * K)) = (G == 2 * (n % G)) := by
  rw [← Nat.mul_assoc, Bool.eq_iff_iff, beq_iff_eq, beq_iff_eq]
  exact Nat.mul_right_cancel_iff hk
 simp only [h1, h2]
theorem cut_zero {neg : Bool} {n : Nat} : Ieee.Toward.even.cut neg n 0 = n := by
 unfold Ieee.Toward.cut
 simp [Nat.mod_one]
theorem nearest_scale {s : Bool} {n k : Nat} {p : Int} : Ieee.double.nearest s (n <<< k) (p - k) = Ieee.double.nearest s n p := by
 by_cases h : n = 0
 ·subst h; simp [Ieee.Format.nearest]
 unfold Ieee.Format.nearest
 rw [if_neg h, if_neg (shift_ne h)]
 simp only [log2_shift h]
 rw [show p - (k : Int) + ((n.log2 + k : Nat) : Int) - (Ieee.double.fractionBits : Int) = p + (n.log2 : Int) - (Ieee.double.fractionBits : Int) by omega]
 generalize max (p + (n.log2 : Int) - (Ieee.double.fractionBits : Int)) Ieee.double.leastPlace = last
 suffices hc : Ieee.Toward.even.cut s ((n <<< k) <<< (p - k - last).toNat) (last - (p - k)).toNat = Ieee.Toward.even.cut s (n <<< (p - last).toNat) (last - p).toNat by rw [hc]
 by_cases h1 : (k : Int) ≤ p - last
 ·rw [show (last - (p - k)).toNat = 0 by omega, show (last - p).toNat = 0 by omega, ← Nat.shiftLeft_add]
  congr 2; omega
 ·by_cases h2 : 0 ≤ p - last
  ·rw [show (p - k - last).toNat = 0 by omega, show (last - p).toNat = 0 by omega, Nat.shiftLeft_zero]
   have e : n <<< k = (n <<< (p - last).toNat) <<< (k - (p - last).toNat) := by rw [← Nat.shiftLeft_add]; congr 1; omega
   rw [e, show (last - (p - k)).toNat = 0 + (k - (p - last).toNat) by omega, cut_scale (shift_ne h)]
  ·rw [show (p - k - last).toNat = 0 by omega, show (p - last).toNat = 0 by omega, Nat.shiftLeft_zero, Nat.shiftLeft_zero, show (last - (p - k)).toNat = (last - p).toNat + k by omega, cut_scale h]
theorem nearest_eq {s : Bool} {n m : Nat} {p q : Int} (h : (n : Nat) * 2 ^ (p - min p q).toNat = m * 2 ^ (q - min p q).toNat) : Ieee.double.nearest s n p = Ieee.double.nearest s m q := by
 have h1 := @nearest_scale s n (p - min p q).toNat p
 have h2 := @nearest_scale s m (q - min p q).toNat q
 rw [Nat.shiftLeft_eq] at h1 h2
 rw [← h1, ← h2, h, show p - ((p - min p q).toNat : Int) = q - ((q - min p q).toNat : Int) by omega]
def sgn (w : Nat) : Bool := w / 9223372036854775808 % 2 == 1
def rung (w : Nat) : Nat := w % 9223372036854775808
def mgn (w : Nat) : Nat := if rung w < 4503599627370496 then rung w else 4503599627370496 + rung w % 4503599627370496
def plc (w : Nat) : Int := if rung w < 4503599627370496 then -1074 else -1074 + (rung w / 4503599627370496 - 1 : Nat)
def vlu (w : Nat) : Nat := mgn w * 2 ^ (plc w + 1074).toNat
theorem finB_iff {w : Nat} (hw : w < 2 ^ 64) : finB w = true ↔ rung w < 9218868437227405312 := by
 unfold finB rung expo
 simp only [decide_eq_true_eq]
 omega
theorem read_fin {w : Nat} (h : rung w < 9218868437227405312) : Ieee.double.read w = .number (sgn w) (mgn w) (plc w) := by
 unfold Ieee.Format.read mgn plc sgn rung at *
 simp only [signW, binA, infR, lpE]
 split
 ·rfl
 ·first | rfl | rw [if_pos h]
theorem word_eq {w : Nat} (hw : w < 2 ^ 64) : Ieee.double.word (sgn w) (rung w) = w := by
 unfold Ieee.Format.word sgn rung
 rw [signW]
 have h1 : w / 9223372036854775808 < 2 := by omega
 cases h : (w / 9223372036854775808 % 2 == 1)
 ·simp at h ⊢; omega
 ·simp at h ⊢; omega
theorem log2_52 {f : Nat} (h : f < 4503599627370496) : (4503599627370496 + f).log2 = 52 := (Nat.log2_eq_iff (by omega)).2 ⟨by omega, by omega⟩
theorem nearest_read {w : Nat} (hw : w < 2 ^ 64) (h : rung w < 9218868437227405312) : Ieee.double.nearest (sgn w) (mgn w) (plc w) = w := by
 conv => rhs; rw [← word_eq hw]
 unfold Ieee.Format.nearest
 simp only [lpE, fbE, binA, infR]
 by_cases h1 : rung w < 4503599627370496
 ·have e1 : mgn w = rung w := by unfold mgn; rw [if_pos h1]
  have e2 : plc w = -1074 := by unfold plc; rw [if_pos h1]
  rw [e1, e2]
  by_cases h0 : rung w = 0
  ·rw [if_pos h0, h0]
  ·rw [if_neg h0]
   have hl : (rung w).log2 < 52 := by rw [Nat.log2_lt h0]; omega
   rw [show max (-1074 + ((rung w).log2 : Int) - ((52 : Nat) : Int)) (-1074 : Int) = -1074 by omega]
   simp [cut_zero]
   congr 1
   omega
 ·have hf : rung w % 4503599627370496 < 4503599627370496 := Nat.mod_lt _ (by omega)
  have e1 : mgn w = 4503599627370496 + rung w % 4503599627370496 := by unfold mgn; rw [if_neg h1]
  have e2 : plc w = -1074 + (rung w / 4503599627370496 - 1 : Nat) := by unfold plc; rw [if_neg h1]
  rw [e1, e2, if_neg (by omega), log2_52 hf]
  generalize hq : rung w / 4503599627370496 - 1 = q
  rw [show max (-1074 + (q : Int) + ((52 : Nat) : Int) - ((52 : Nat) : Int)) (-1074 : Int) = -1074 + (q : Int) by omega]
  rw [show (-1074 + (q : Int) - (-1074 + (q : Int))).toNat = 0 by omega, Nat.shiftLeft_zero, cut_zero, show (-1074 + (q : Int) - -1074).toNat = q by omega]
  congr 1
  omega
theorem plc_ge (w : Nat) : -1074 ≤ plc w := by unfold plc; split <;> omega
theorem mgn_lt (w : Nat) : mgn w < 9007199254740992 := by
 unfold mgn
 have := Nat.mod_lt (rung w) (show 0 < 4503599627370496 by omega)
 split <;> omega
theorem word_parts {s : Bool} {r : Nat} (h : r ≤ 9218868437227405312) : sgn (Ieee.double.word s r) = s ∧ rung (Ieee.double.word s r) = r ∧ Ieee.double.word s r < 2 ^ 64 := by
 unfold Ieee.Format.word sgn rung
 rw [signW]
 cases s
 ·simp; omega
 ·simp; omega
theorem read_inf {w : Nat} (h : rung w = 9218868437227405312) : Ieee.double.read w = .infinity (sgn w) := by
 unfold Ieee.Format.read sgn rung at *
 simp only [signW, binA, infR, h]
 rfl
end Go.Bn
namespace Go.Bn
open Go
def ONE : Nat := 0x3ff0000000000000
def NEG0 : Nat := 0x8000000000000000
theorem read_one : Ieee.double.read ONE = .number false 4503599627370496 (-52) := by decide +kernel
theorem mul_shift (m : Nat) : 4503599627370496 * m = m <<< 52 := by
 rw [Nat.shiftLeft_eq, Nat.mul_comm]
theorem fmul_one {x : Nat} (hx : x < 2 ^ 64) (hf : finB x = true) : fmul ONE x = x := by
 have hr := (finB_iff hx).1 hf
 have e : fmul ONE x = Ieee.double.nearest (false ^^ sgn x) (4503599627370496 * mgn x) (-52 + plc x) := by
  unfold fmul Ieee.Format.mul
  rw [read_one, read_fin hr]
  rfl
 rw [e, mul_shift, Bool.false_xor, show (-52 + plc x) = plc x - ((52 : Nat) : Int) by omega]
 exact (@nearest_scale (sgn x) (mgn x) 52 (plc x)).trans (nearest_read hx hr)
theorem nearest_nought {s : Bool} {p : Int} : Ieee.double.nearest s 0 p = if s then NEG0 else 0 := by
 have : Ieee.double.nearest s 0 p = Ieee.double.word s 0 := by simp [Ieee.Format.nearest]
 rw [this]
 cases s <;> decide +kernel
end Go.Bn
namespace Go.Bn
open Go
theorem sum_opp {s : Bool} {m : Nat} {e : Int} : (Ieee.Datum.number s m e).sum ((Ieee.Datum.number s m e).opposite) = some (.number false 0 e) := by
 simp only [Ieee.Datum.sum, Ieee.Datum.opposite, Ieee.signed]
 cases s <;> simp <;> omega
theorem read_nan {w : Nat} (h : 9218868437227405312 < rung w) : ∃ s t, Ieee.double.read w = .nan s t := by
 unfold Ieee.Format.read
 unfold rung at h
 simp only [signW, binA, infR]
 rw [if_neg (by omega), if_neg (by omega), if_neg (by omega)]
 exact ⟨_, _, rfl⟩
theorem fsub_self {x : Nat} (hx : x < 2 ^ 64) : fsub x x = if finB x = true then 0 else NAN := by
 unfold fsub Ieee.Format.sub
 by_cases h1 : rung x < 9218868437227405312
 ·rw [if_pos ((finB_iff hx).2 h1), read_fin h1, sum_opp]
  show Ieee.double.nearest false 0 (plc x) = 0
  rw [nearest_nought]; rfl
 ·have hf : ¬ finB x = true := fun h => h1 ((finB_iff hx).1 h)
  rw [if_neg hf]
  by_cases h2 : rung x = 9218868437227405312
  ·rw [read_inf h2]
   cases sgn x <;> rfl
  ·obtain ⟨s, t, h⟩ := read_nan (show 9218868437227405312 < rung x by omega)
   rw [h]
   rfl
theorem fin_not_nan {x : Nat} (h : finB x = true) : nanB x = false := by
 rw [nanB_iff]
 unfold finB expo at h
 simp only [decide_eq_true_eq] at h
 exact decide_eq_false (by omega)
end Go.Bn
namespace Go.Bn
open Go
theorem fop_lt {op : BinOp} {x y : Nat} : fop (fbits op x y) < 2 ^ 64 := by
 cases h : fbits op x y with
 | none => exact NAN_lt
 | some r => exact (fbits_some h).2.1
end Go.Bn
namespace Go.Bn
open Go
def wr (a b : Int) : Int := IntKind.i64.wrap (a + b)
end Go.Bn
namespace Go.Bn
open Go
def OkAt (ps : List Int) (a : Nat) : Prop := 0 ≤ ps.getD a 0 ∧ ps.getD a 0 < (ps.length : Int) ∧ ∀ q, q < a → ps.getD q 0 ≠ ps.getD a 0
instance (ps : List Int) (a : Nat) : Decidable (OkAt ps a) := by unfold OkAt; exact inferInstance
def OkTo (ps : List Int) (k : Nat) : Prop := ∀ a, a < k → OkAt ps a
instance (ps : List Int) (k : Nat) : Decidable (OkTo ps k) := by unfold OkTo; exact inferInstance
end Go.Bn
namespace Go.Bn
open Go
def P2 (k : Int) : Nat := (k + 1023).toNat * 4503599627370496
theorem p2_lt {k : Int} (h0 : -500 ≤ k) (h1 : k ≤ 500) : P2 k < 2 ^ 64 := by unfold P2; omega
theorem p2_rung {k : Int} (h0 : -500 ≤ k) (h1 : k ≤ 500) : rung (P2 k) = P2 k ∧ P2 k < 9218868437227405312 := by unfold rung P2; omega
theorem p2_fin {k : Int} (h0 : -500 ≤ k) (h1 : k ≤ 500) : finB (P2 k) = true := (finB_iff (p2_lt h0 h1)).2 (by have := p2_rung h0 h1; omega)
def TINY : Nat := 0x10000000000000
def P52 : Nat := 0x4330000000000000
def nrmR (x : Nat) : Nat × Int := if fcmp .lss (fabs x) TINY = true then (fmul x P52, -52) else (x, 0)
theorem fabs_parts {x : Nat} (hx : x < 2 ^ 64) (hr : rung x < 9218868437227405312) : rung (fabs x) = rung x ∧ sgn (fabs x) = false ∧ mgn (fabs x) = mgn x ∧ plc (fabs x) = plc x := by
 have hn : nanB x = false := fin_not_nan ((finB_iff hx).2 hr)
 have e : fabs x = rung x := by unfold fabs; rw [hn]; rfl
 have e2 : rung (fabs x) = rung x := by rw [e]; unfold rung; omega
 refine ⟨e2, ?_, ?_, ?_⟩
 ·rw [e]; unfold sgn
  have : rung x / 9223372036854775808 = 0 := by omega
  rw [this]; rfl
 ·unfold mgn; rw [e2]
 ·unfold plc; rw [e2]
theorem expo_rung (w : Nat) : expo w = rung w / 4503599627370496 := by unfold expo rung; omega
end Go.Bn
namespace Go.Bn
open Go
section ops
variable {P : Program} {n : Nat} {ops : Array Oper} {Γ : Facts} {ρ : Env} {δ : VEnv} {τ : List VR}
variable {d : Nat} {ty : TypeId} {pos : String} {af : Array Edge}
theorem OpOK.sub {o : Oper} {acc : Acc} {p q : SP} {r' : VR} (h : OpOK P n ops Γ ρ δ τ o acc (.c p) r') (hg : o.guard = none) (hs : ∀ v c, p.H v c → q.H v c) : OpOK P n ops Γ ρ δ τ o acc (.c q) r' := by
 intro a c ob g1 g2 g3 g4 g5 g6 g7
 have := h a c ob g1 g2 g3 g4 g5 g6 g7
 have hw : Region.wanted o (yielded ops a.tmps) = true := by unfold Region.wanted; rw [hg]
 rw [if_pos hw] at this ⊢
 exact this.mono fun v w' ⟨c', ob', q1, q2, q3, q4⟩ => ⟨c', ob', q1, q2, hs _ _ q3, q4⟩
theorem op_f64bitsn {f : Nat} {x : Operand} {v : Nat} {ats : Array TypeId} (hf : Ext P f Go.Extern.MathFloatBits.float64bits) (hn : nanB v = false) (hx : Lk Γ δ ρ x (flp v)) :
  OpOK P n ops Γ ρ δ τ ⟨some d, .call ⟨.value (.func f), #[x], ats⟩, ty, pos, af, none⟩ .no (.c (isv (.int .u64 (v : Int)))) dum := (op_f64bits hf hx).sub rfl (bitp_isv hn)
theorem op_neg {x : Operand} {t : TypeId} {k : IntKind} {a z : Int} (hx : Lk Γ δ ρ x (isv (.int k a))) (hz : k.wrap (-a) = z) :
  OpOK P n ops Γ ρ δ τ ⟨some d, .unOp .neg t x, ty, pos, af, none⟩ .no (.c (isv (.int k z))) dum :=
 ok_pure fun A c _ hr => by
  subst hz
  have h := (hr x _ (by simp [Op.operands]) hx).1
  exact ⟨.int k (k.wrap (-a)), by simp [execOp, Op.unary, Op.intArith, h], rfl, rfl⟩
end ops
theorem wu64 (z : Int) : IntKind.u64.wrap z = z % 18446744073709551616 := by simp [IntKind.wrap, IntKind.bits, IntKind.signed]
theorem expo_bitsN {y : Nat} (h : y < 2 ^ 64) : bitsOf .and .u64 ((y / 2 ^ 52 : Nat) : Int) 2047 = ((expo y : Nat) : Int) := by
 rw [show (2047 : Int) = ((2047 : Nat) : Int) from rfl, bits_and _ _ (by omega) (by decide)]
 rw [show (2047 : Nat) = 2 ^ 11 - 1 by decide, and_pow]
 rfl
theorem p2_shl {k : Int} (h0 : -500 ≤ k) (h1 : k ≤ 500) : IntKind.u64.wrap ((k + 1023) * 2 ^ min (52 : Int).toNat IntKind.u64.bits) = ((P2 k : Nat) : Int) := by
 rw [show min (52 : Int).toNat IntKind.u64.bits = 52 by decide, wu64]
 unfold P2
 omega
theorem p2_or {k : Int} (h0 : -500 ≤ k) (h1 : k ≤ 500) : bitsOf .or .u64 0 ((P2 k : Nat) : Int) = ((P2 k : Nat) : Int) := by
 rw [show (0 : Int) = ((0 : Nat) : Int) from rfl, bits_or _ _ (by decide) (p2_lt h0 h1), Nat.zero_or]
def MAXF : Nat := 0x7fefffffffffffff
theorem max_parts : Ieee.double.read MAXF = .number false 9007199254740991 971 := by decide +kernel
theorem plc_le {x : Nat} (hr : rung x < 9218868437227405312) : plc x ≤ 971 := by unfold plc; split <;> omega
theorem fin_gtr {x : Nat} (hx : x < 2 ^ 64) (hr : rung x < 9218868437227405312) : fcmp .gtr (fabs x) MAXF = false := by
 obtain ⟨q1, q2, q3, q4⟩ := fabs_parts hx hr
 have hp := plc_ge x
 have hp2 := plc_le hr
 have hm := mgn_lt x
 have key : ford (fabs x) MAXF ≠ some .gt := by
  unfold ford Ieee.Format.order
  rw [read_fin (show rung (fabs x) < 9218868437227405312 by omega), max_parts, q2, q3, q4]
  simp only [Ieee.Datum.order, Ieee.signed]
  rw [show min (plc x) (971 : Int) = plc x by omega, show (plc x - plc x).toNat = 0 by omega, Nat.shiftLeft_zero, Nat.shiftLeft_eq]
  have h2 := Nat.two_pow_pos (971 - plc x).toNat
  have h3 : 9007199254740991 * 1 ≤ 9007199254740991 * 2 ^ (971 - plc x).toNat := Nat.mul_le_mul_left _ h2
  generalize 9007199254740991 * 2 ^ (971 - plc x).toNat = v at h3
  simp only [Bool.false_eq_true, if_false, ne_eq, Option.some.injEq]
  rw [Int.compare_eq_gt]
  omega
 show (ford (fabs x) MAXF == some .gt) = false
 simpa using key
theorem expo_lt (x : Nat) : expo x < 2048 := Nat.mod_lt _ (by omega)
end Go.Bn
