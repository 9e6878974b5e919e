/-
 Plain facts on motions. Plain facts on blocks laid on a diagonal. Square roots; the blocks of roots. How far a rounded number lies from the exact one. Nearly the same: a relation on whole numbers that goes through products, sums and quotients; products of numbers, rounded.
-/
import Derived.Test.YtllkellonjhalaaFqKc
import Derived.Test.YtllkellonjhalaaFqKb
set_option linter.unusedVariables false
set_option linter.unusedSimpArgs false
namespace Go.Bn
open Go
theorem sub_zero_eq {x : Nat} (hx : x < 2 ^ 64) : fcmp .eql (fsub x x) 0 = finB x := by
 rw [fsub_self hx]
 cases finB x <;> decide +kernel
end Go.Bn
namespace Go.Bn
open Go
theorem slk_len {α : Type} {m : Nat} {mk : α → List SP} {xs : List α} {v : Value} {c : EW} (h : (slk m mk xs).H v c) : xs.length ≤ 9223372036854775807 := by
 obtain ⟨_, hv⟩ := h
 rcases hv with ⟨_, h2⟩ | ⟨ad, cap, _, h2, h3, _⟩
 ·omega
 ·simp only [maxLen] at h3; omega
theorem J_lenk {α : Type} {X : Cx} {Γ : Facts} {ρ : Env} {σ : List Res} {k : Code} {Q : Exit → Act → World → Prop} (t : Nat) {m : Nat} {mk : α → List SP} {xs : List α} (h : ρ.get t = some (slk m mk xs)) (hk : xs.length ≤ 9223372036854775807 → J X Γ ρ σ k Q) : J X Γ ρ σ k Q := fun a c hs =>
 hk (slk_len (hs.env t _ h)) a c hs
end Go.Bn
namespace Go.Bn
open Go
def fsqrt (x : Nat) : Nat := fop (Ieee.double.sqrt x)
theorem root_ok {x d : Ieee.Datum} {n : Nat} (h : x.root n = some d) : d.isNaN = false ∧ x.isNaN = false := by
 cases x with
 | nan s f => simp only [Ieee.Datum.root] at h; cases h
 | infinity s =>
  simp only [Ieee.Datum.root] at h
  split at h
  ·cases h
  ·cases h; exact ⟨rfl, rfl⟩
 | number s m i =>
  simp only [Ieee.Datum.root] at h
  split at h
  ·cases h; exact ⟨rfl, rfl⟩
  ·split at h
   ·cases h
   ·cases h; exact ⟨rfl, rfl⟩
theorem sqrt_some {x r : Nat} (h : Ieee.double.sqrt x = some r) : nanB r = false ∧ r < 2 ^ 64 ∧ nanB x = false := by
 unfold Ieee.Format.sqrt at h
 rw [Option.map_eq_some_iff] at h
 obtain ⟨d, h1, rfl⟩ := h
 obtain ⟨h2, h3⟩ := root_ok h1
 exact ⟨(write_ok h2).1, (write_ok h2).2, h3⟩
theorem fsqrt_cn {x : Nat} : fsqrt (cn x) = match Ieee.double.sqrt x with | some r => r | none => NAN := by
 unfold fsqrt
 cases h : Ieee.double.sqrt x with
 | some r =>
  obtain ⟨_, _, h1⟩ := sqrt_some h
  rw [cn_of_not h1, h]; rfl
 | none =>
  cases h' : Ieee.double.sqrt (cn x) with
  | none => rfl
  | some r =>
   obtain ⟨_, _, h1⟩ := sqrt_some h'
   rw [nanB_cn] at h1
   rw [cn_of_not h1, h] at h'
   cases h'
section ops
variable {P : Program} {n : Nat} {ops : Array Oper} {Γ : Facts} {ρ : Env} {δ : VEnv} {τ : List VR}
variable {d : Nat} {ty : TypeId} {pos : String} {af : Array Edge}
theorem law_sqrt {x : Nat} : ∀ (v : Value) (c : EW), (flp x).H v c → ∃ u m, (Go.Extern.MathSqrt.sqrt #[v]).run P c.w = .ok u { c.w with drawn := m } ∧ ∀ c', (flp (fsqrt x)).H u c' := by
 rintro v c ⟨b, h1, h2, h3⟩
 subst h1 h3
 rw [fsqrt_cn]
 have hF : Go.Extern.MathSqrt.sqrt #[.float .f64 b] = (match Ieee.double.sqrt b with | some r => pure (.float .f64 r) | none => do pure (.float .f64 (← choose (.nanBits .f64 b b)))) := rfl
 cases hs : Ieee.double.sqrt b with
 | some r =>
  obtain ⟨g1, g2, _⟩ := sqrt_some hs
  exact ⟨.float .f64 r, c.w.drawn, by rw [hF, hs]; simp [Sem.run], fun _ => ⟨r, rfl, g2, cn_of_not g1⟩⟩
 | none =>
  refine ⟨.float .f64 ((Question.nanBits .f64 b b).cut (c.w.tape c.w.drawn (.nanBits .f64 b b))), c.w.drawn + 1, ?_, fun _ => ⟨_, rfl, (nan_drawn .nanBits (.inl rfl) b b _).2, cn_of_nan (nan_drawn .nanBits (.inl rfl) b b _).1⟩⟩
  rw [hF, hs]
  simp [choose, Sem.run, Question.forced]
theorem op_f64sqrt {f : Nat} {x : Operand} {v : Nat} {ats : Array TypeId} (hf : Ext P f Go.Extern.MathSqrt.sqrt) (hx : Lk Γ δ ρ x (flp v)) :
  OpOK P n ops Γ ρ δ τ ⟨some d, .call ⟨.value (.func f), #[x], ats⟩, ty, pos, af, none⟩ .no (.c (flp (fsqrt v))) dum := op_ext hf hx law_sqrt
end ops
end Go.Bn
namespace Go.Bn
open Go
def UU : Nat := 9007199254740992
def UV : Nat := 9007199254740991
theorem uv_lt : UV ≤ UU := by decide
theorem uu_pos : 0 < UU := by decide
theorem uv_pos : 0 < UV := by decide
structure Apx (k : Nat) (a b : Nat) : Prop where
 l : a * UV ^ k ≤ b * UU ^ k
 r : b * UV ^ k ≤ a * UU ^ k
theorem Apx.symm {k a b : Nat} (h : Apx k a b) : Apx k b a := ⟨h.r, h.l⟩
theorem uv_pow (k : Nat) : UV ^ k ≤ UU ^ k := Nat.pow_le_pow_left uv_lt k
theorem Apx.trans {k l a b c : Nat} (h : Apx k a b) (g : Apx l b c) : Apx (k + l) a c := by
 constructor
 ·rw [Nat.pow_add, Nat.pow_add, ← Nat.mul_assoc]
  refine Nat.le_trans (Nat.mul_le_mul_right _ h.l) ?_
  rw [Nat.mul_right_comm]
  refine Nat.le_trans (Nat.mul_le_mul_right _ g.l) ?_
  rw [Nat.mul_assoc, Nat.mul_comm (UU ^ l)]
  exact Nat.le_refl _
 ·rw [Nat.pow_add, Nat.pow_add, Nat.mul_comm (UV ^ k), ← Nat.mul_assoc]
  refine Nat.le_trans (Nat.mul_le_mul_right _ g.r) ?_
  rw [Nat.mul_right_comm]
  refine Nat.le_trans (Nat.mul_le_mul_right _ h.r) ?_
  rw [Nat.mul_assoc]
  exact Nat.le_refl _
theorem mul4 (a b c d : Nat) : a * b * (c * d) = (a * c) * (b * d) := by
 rw [Nat.mul_assoc, Nat.mul_left_comm b c d, ← Nat.mul_assoc]
theorem Apx.mul {k l a b c d : Nat} (h : Apx k a b) (g : Apx l c d) : Apx (k + l) (a * c) (b * d) := by
 constructor
 ·rw [Nat.pow_add, Nat.pow_add, mul4, mul4 b]
  exact Nat.mul_le_mul h.l g.l
 ·rw [Nat.pow_add, Nat.pow_add, mul4, mul4 a]
  exact Nat.mul_le_mul h.r g.r
theorem Apx.mono {k l a b : Nat} (h : Apx k a b) (hk : k ≤ l) : Apx l a b := by
 obtain ⟨d, rfl⟩ : ∃ d, l = k + d := ⟨l - k, by omega⟩
 constructor
 ·rw [Nat.pow_add, Nat.pow_add, ← Nat.mul_assoc, ← Nat.mul_assoc]
  exact Nat.mul_le_mul h.l (uv_pow d)
 ·rw [Nat.pow_add, Nat.pow_add, ← Nat.mul_assoc, ← Nat.mul_assoc]
  exact Nat.mul_le_mul h.r (uv_pow d)
theorem Apx.add {k a b c d : Nat} (h : Apx k a b) (g : Apx k c d) : Apx k (a + c) (b + d) := by
 constructor
 ·rw [Nat.add_mul, Nat.add_mul]; exact Nat.add_le_add h.l g.l
 ·rw [Nat.add_mul, Nat.add_mul]; exact Nat.add_le_add h.r g.r
def NZ : Nat := 1074
def PZ : Nat := 2 ^ NZ
theorem pz_pos : 0 < PZ := Nat.two_pow_pos NZ
structure Rng (x : Nat) (k : Nat) : Prop where
 f : rung x < 9218868437227405312
 s : sgn x = false
 lo : PZ ≤ vlu x * 2 ^ k
 hi : vlu x ≤ PZ * 2 ^ k
theorem Rng.pos {x k : Nat} (h : Rng x k) : 0 < vlu x := by
 have h1 := h.lo
 rcases Nat.eq_zero_or_pos (vlu x) with h0 | h0
 ·rw [h0, Nat.zero_mul] at h1
  have := pz_pos
  omega
 ·exact h0
theorem uu_two : UU ≤ 2 * UV := by decide
theorem Apx.two {a b : Nat} (h : Apx 1 a b) : a ≤ 2 * b ∧ b ≤ 2 * a := by
 have h1 := h.l
 have h2 := h.r
 rw [Nat.pow_one, Nat.pow_one] at h1 h2
 have hv := uv_pos
 have h3 := uu_two
 constructor
 ·have h4 := Nat.mul_le_mul_left b h3
  have h5 : a * UV ≤ 2 * b * UV := by
   refine Nat.le_trans h1 (Nat.le_trans h4 (Nat.le_of_eq ?_))
   rw [← Nat.mul_assoc, Nat.mul_comm b 2]
  exact Nat.le_of_mul_le_mul_right h5 hv
 ·have h4 := Nat.mul_le_mul_left a h3
  have h5 : b * UV ≤ 2 * a * UV := by
   refine Nat.le_trans h2 (Nat.le_trans h4 (Nat.le_of_eq ?_))
   rw [← Nat.mul_assoc, Nat.mul_comm a 2]
  exact Nat.le_of_mul_le_mul_right h5 hv
end Go.Bn
