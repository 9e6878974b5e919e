/-
  The logic of walks: the last operations; numbers by their bits.
-/
import Derived.Test.YtcnffgbncbadbaaTwo
import Derived.Test.YtcnffgbncbadbaaOpy
set_option linter.unusedVariables false
set_option linter.unusedSimpArgs false
namespace Go.Bn
open Go
section ops
variable {P : Program} {n : Nat} {ops : Array Oper} {Γ : Facts} {ρ : Env} {δ : VEnv} {τ : List VR}
variable {d : Nat} {ty : TypeId} {pos : String} {af : Array Edge}
theorem OpOK.sub {o : Oper} {acc : Acc} {p q : SP} {r' : VR} (h : OpOK P n ops Γ ρ δ τ o acc (.c p) r') (hg : o.guard = none) (hs : ∀ v c, p.H v c → q.H v c) : OpOK P n ops Γ ρ δ τ o acc (.c q) r' := by
  intro a c ob g1 g2 g3 g4 g5 g6 g7
  have := h a c ob g1 g2 g3 g4 g5 g6 g7
  have hw : Region.wanted o (yielded ops a.tmps) = true := by unfold Region.wanted; rw [hg]
  rw [if_pos hw] at this ⊢
  exact this.mono fun v w' ⟨c', ob', q1, q2, q3, q4⟩ => ⟨c', ob', q1, q2, hs _ _ q3, q4⟩
theorem op_f64bitsn {f : Nat} {x : Operand} {v : Nat} {ats : Array TypeId} (hf : Ext P f Go.Extern.MathFloatBits.float64bits) (hn : nanB v = false) (hx : Lk Γ δ ρ x (flp v)) :
    OpOK P n ops Γ ρ δ τ ⟨some d, .call ⟨.value (.func f), #[x], ats⟩, ty, pos, af, none⟩ .no (.c (isv (.int .u64 (v : Int)))) dum := (op_f64bits hf hx).sub rfl (bitp_isv hn)
theorem op_neg {x : Operand} {t : TypeId} {k : IntKind} {a z : Int} (hx : Lk Γ δ ρ x (isv (.int k a))) (hz : k.wrap (-a) = z) :
    OpOK P n ops Γ ρ δ τ ⟨some d, .unOp .neg t x, ty, pos, af, none⟩ .no (.c (isv (.int k z))) dum :=
  ok_pure fun A c _ hr => by
    subst hz
    have h := (hr x _ (by simp [Op.operands]) hx).1
    exact ⟨.int k (k.wrap (-a)), by simp [execOp, Op.unary, Op.intArith, h], rfl, rfl⟩
end ops
theorem wu64 (z : Int) : IntKind.u64.wrap z = z % 18446744073709551616 := by simp [IntKind.wrap, IntKind.bits, IntKind.signed]
theorem u64_rng (z : Int) : 0 ≤ IntKind.u64.wrap z ∧ IntKind.u64.wrap z < 18446744073709551616 := by
  rw [wu64]; omega
theorem sb_bits {Γ : Facts} {op : BinOp} {a b : Int} : Sb Γ (isv (.int .u64 (bitsOf op .u64 a b))) (bitp (cn (bitsOf op .u64 a b).toNat)) := fun v c _ hv => by
  have hr : 0 ≤ bitsOf op .u64 a b ∧ bitsOf op .u64 a b < 18446744073709551616 := by
    unfold bitsOf
    cases op <;> exact u64_rng _
  refine ⟨(bitsOf op .u64 a b).toNat, ?_, by omega, rfl⟩
  rw [hv.1, show (((bitsOf op .u64 a b).toNat : Nat) : Int) = bitsOf op .u64 a b by omega]
theorem expo_bitsN {y : Nat} (h : y < 2 ^ 64) : bitsOf .and .u64 ((y / 2 ^ 52 : Nat) : Int) 2047 = ((expo y : Nat) : Int) := by
  rw [show (2047 : Int) = ((2047 : Nat) : Int) from rfl, bits_and _ _ (by omega) (by decide)]
  rw [show (2047 : Nat) = 2 ^ 11 - 1 by decide, and_pow]
  rfl
theorem p2_shl {k : Int} (h0 : -500 ≤ k) (h1 : k ≤ 500) : IntKind.u64.wrap ((k + 1023) * 2 ^ min (52 : Int).toNat IntKind.u64.bits) = ((P2 k : Nat) : Int) := by
  rw [show min (52 : Int).toNat IntKind.u64.bits = 52 by decide, wu64]
  unfold P2
  omega
theorem p2_or {k : Int} (h0 : -500 ≤ k) (h1 : k ≤ 500) : bitsOf .or .u64 0 ((P2 k : Nat) : Int) = ((P2 k : Nat) : Int) := by
  rw [show (0 : Int) = ((0 : Nat) : Int) from rfl, bits_or _ _ (by decide) (p2_lt h0 h1), Nat.zero_or]
/-! ## More on numbers -/
def MAXF : Nat := 0x7fefffffffffffff
theorem max_parts : Ieee.double.read MAXF = .number false 9007199254740991 971 := by decide +kernel
theorem plc_le {x : Nat} (hr : rung x < 9218868437227405312) : plc x ≤ 971 := by unfold plc; split <;> omega
theorem fin_gtr {x : Nat} (hx : x < 2 ^ 64) (hr : rung x < 9218868437227405312) : fcmp .gtr (fabs x) MAXF = false := by
  obtain ⟨q1, q2, q3, q4⟩ := fabs_parts hx hr
  have hp := plc_ge x
  have hp2 := plc_le hr
  have hm := mgn_lt x
  have key : ford (fabs x) MAXF ≠ some .gt := by
    unfold ford Ieee.Format.order
    rw [read_fin (show rung (fabs x) < 9218868437227405312 by omega), max_parts, q2, q3, q4]
    simp only [Ieee.Datum.order, Ieee.signed]
    rw [show min (plc x) (971 : Int) = plc x by omega, show (plc x - plc x).toNat = 0 by omega, Nat.shiftLeft_zero, Nat.shiftLeft_eq]
    have h2 := Nat.two_pow_pos (971 - plc x).toNat
    have h3 : 9007199254740991 * 1 ≤ 9007199254740991 * 2 ^ (971 - plc x).toNat := Nat.mul_le_mul_left _ h2
    generalize 9007199254740991 * 2 ^ (971 - plc x).toNat = v at h3
    simp only [Bool.false_eq_true, if_false, ne_eq, Option.some.injEq]
    rw [Int.compare_eq_gt]
    omega
  show (ford (fabs x) MAXF == some .gt) = false
  simpa using key
theorem nearest_nan {s : Bool} {m : Nat} {p : Int} : nanB (Ieee.double.nearest s m p) = false := (write_ok (d := .number s m p) rfl).1
theorem nrm_nan {x : Nat} (hx : x < 2 ^ 64) (hf : finB x = true) : nanB (nrmR x).1 = false ∧ (nrmR x).1 < 2 ^ 64 := by
  have hr := (finB_iff hx).1 hf
  unfold nrmR
  split
  · refine ⟨?_, fop_lt (op := .mul)⟩
    show nanB (fmul x P52) = false
    rw [p52_eq, fmul_p2 hr (by omega) (by omega)]
    exact nearest_nan
  · exact ⟨fin_not_nan hf, hx⟩
theorem nrm_snd {x : Nat} : (nrmR x).2 = -52 ∨ (nrmR x).2 = 0 := by
  unfold nrmR
  split
  · exact .inl rfl
  · exact .inr rfl
theorem expo_lt (x : Nat) : expo x < 2048 := Nat.mod_lt _ (by omega)
theorem frx_rng (x : Nat) : -1074 ≤ frxE x ∧ frxE x ≤ 1025 := by
  have h1 := @nrm_snd x
  have h2 := expo_lt (nrmR x).1
  unfold frxE; omega
end Go.Bn
