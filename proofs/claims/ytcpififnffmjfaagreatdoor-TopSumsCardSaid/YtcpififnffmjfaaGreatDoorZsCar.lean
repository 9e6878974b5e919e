/-
 Sums and differences of words with what is carried, by the library.
-/
import Derived.Test.YtcpififnffmjfaaGreatDoorZsBii
import GoSem.Extern.MathBitsCarry
set_option linter.unusedVariables false
set_option linter.unusedSimpArgs false
namespace Go.Bn
open Go
def Add64G : Array Value → Sem Value := fun args => do
 let (x, y, c) ← Go.Extern.MathBitsCarry.three "Add64" args
 pure (Go.Extern.MathBitsCarry.pair ((x + y + c) % Go.Extern.MathBitsCarry.m64) ((x + y + c) / Go.Extern.MathBitsCarry.m64))
def Sub64G : Array Value → Sem Value := fun args => do
 let (x, y, b) ← Go.Extern.MathBitsCarry.three "Sub64" args
 pure (Go.Extern.MathBitsCarry.pair ((x + Go.Extern.MathBitsCarry.m64 - y - b) % Go.Extern.MathBitsCarry.m64) (if x < y + b then 1 else 0))
theorem three_eq (name : String) (x y c : Value) : Go.Extern.MathBitsCarry.three name #[x, y, c] = (do
  let c := (← asInt c).toNat
  if c > 1 then unsupported (.noEntry ("extern/math/bits." ++ name ++ ": a carry that is neither 0 nor 1"))
  pure ((← asInt x).toNat, (← asInt y).toNat, c)) := rfl
theorem run_add64 {P : Program} {a b c : Int} (hc : ¬ c.toNat > 1) (w : World) : (Add64G #[.int .u64 a, .int .u64 b, .int .u64 c]).run P w = .ok (Go.Extern.MathBitsCarry.pair ((a.toNat + b.toNat + c.toNat) % Go.Extern.MathBitsCarry.m64) ((a.toNat + b.toNat + c.toNat) / Go.Extern.MathBitsCarry.m64)) w := by
 unfold Add64G
 rw [three_eq]
 generalize Go.Extern.MathBitsCarry.m64 = m
 simp only [asInt, asIntOf, pure_bind, if_neg hc]
 rfl
theorem run_sub64 {P : Program} {a b c : Int} (hc : ¬ c.toNat > 1) (w : World) : (Sub64G #[.int .u64 a, .int .u64 b, .int .u64 c]).run P w = .ok (Go.Extern.MathBitsCarry.pair ((a.toNat + Go.Extern.MathBitsCarry.m64 - b.toNat - c.toNat) % Go.Extern.MathBitsCarry.m64) (if a.toNat < b.toNat + c.toNat then 1 else 0)) w := by
 unfold Sub64G
 rw [three_eq]
 generalize Go.Extern.MathBitsCarry.m64 = m
 simp only [asInt, asIntOf, pure_bind, if_neg hc]
 rfl
theorem m64_eq : Go.Extern.MathBitsCarry.m64 = 18446744073709551616 := by unfold Go.Extern.MathBitsCarry.m64; decide
def subD (x y b : Int) : Int := if x < y + b then x - (y + b) + 18446744073709551616 else x - (y + b)
def subC (x y b : Int) : Int := if x < y + b then 1 else 0
theorem pair_add {a b c : Int} (ha : 0 ≤ a) (hb : 0 ≤ b) (hc : 0 ≤ c) : Go.Extern.MathBitsCarry.pair ((a.toNat + b.toNat + c.toNat) % Go.Extern.MathBitsCarry.m64) ((a.toNat + b.toNat + c.toNat) / Go.Extern.MathBitsCarry.m64) = .tuple #[.int .u64 (addD a b c), .int .u64 (addC a b c)] := by
 rw [m64_eq]
 have e1 : Int.ofNat ((a.toNat + b.toNat + c.toNat) % 18446744073709551616) = addD a b c := by unfold addD; show ((_ : Nat) : Int) = _; omega
 have e2 : Int.ofNat ((a.toNat + b.toNat + c.toNat) / 18446744073709551616) = addC a b c := by unfold addC; show ((_ : Nat) : Int) = _; omega
 unfold Go.Extern.MathBitsCarry.pair
 rw [e1, e2]
theorem pair_sub {a b c : Int} (ha : 0 ≤ a ∧ a < 18446744073709551616) (hb : 0 ≤ b ∧ b < 18446744073709551616) (hc : 0 ≤ c ∧ c ≤ 1) : Go.Extern.MathBitsCarry.pair ((a.toNat + Go.Extern.MathBitsCarry.m64 - b.toNat - c.toNat) % Go.Extern.MathBitsCarry.m64) (if a.toNat < b.toNat + c.toNat then 1 else 0) = .tuple #[.int .u64 (subD a b c), .int .u64 (subC a b c)] := by
 rw [m64_eq]
 have e1 : Int.ofNat ((a.toNat + 18446744073709551616 - b.toNat - c.toNat) % 18446744073709551616) = subD a b c := by unfold subD; show ((_ : Nat) : Int) = _; split <;> omega
 have e2 : Int.ofNat (if a.toNat < b.toNat + c.toNat then 1 else 0) = subC a b c := by
  unfold subC
  by_cases h : a < b + c
  ·rw [if_pos h, if_pos (by omega)]; rfl
  ·rw [if_neg h, if_neg (by omega)]; rfl
 unfold Go.Extern.MathBitsCarry.pair
 rw [e1, e2]
section ops
variable {P : Program} {n : Nat} {ops : Array Oper} {Γ : Facts} {ρ : Env} {δ : VEnv} {τ : List VR}
variable {d : Nat} {ty : TypeId} {pos : String} {af : Array Edge}
theorem op_ext3 {f : Nat} {g : Array Value → Sem Value} {x y z : Operand} {u1 u2 u3 u : Value} {q : SP} {ats : Array TypeId} (hf : Ext P f g) (hx : Lk Γ δ ρ x (isv u1)) (hy : Lk Γ δ ρ y (isv u2)) (hz : Lk Γ δ ρ z (isv u3)) (h : ∀ w : World, (g #[u1, u2, u3]).run P w = .ok u w) (hq : ∀ c, q.H u c) :
  OpOK P n ops Γ ρ δ τ ⟨some d, .call ⟨.value (.func f), #[x, y, z], ats⟩, ty, pos, af, none⟩ .no (.c q) dum :=
 ok_draw fun a c _ hr => by
  have h1 := (hr x _ (by simp [Op.operands, Call.operands]) hx).1
  have h2 := (hr y _ (by simp [Op.operands, Call.operands]) hy).1
  have h3 := (hr z _ (by simp [Op.operands, Call.operands]) hz).1
  refine ⟨u, c.w.drawn, ?_, hq⟩
  have h5 := run_ext hf #[u1, u2, u3] c.w (h c.w)
  have h4 : a.eval (.func f) = .func (.func f) #[] #[] := rfl
  simp [execOp, resolve, Deferred.ofValue, h4, invoke, h1, h2, h3, h5]
theorem op_add64 {f : Nat} {x y z : Operand} {a b c : Int} {ats : Array TypeId} (hf : Ext P f Add64G) (hx : Lk Γ δ ρ x (isv (.int .u64 a))) (hy : Lk Γ δ ρ y (isv (.int .u64 b))) (hz : Lk Γ δ ρ z (isv (.int .u64 c))) (ha : 0 ≤ a) (hb : 0 ≤ b) (hc : 0 ≤ c ∧ c ≤ 1) :
  OpOK P n ops Γ ρ δ τ ⟨some d, .call ⟨.value (.func f), #[x, y, z], ats⟩, ty, pos, af, none⟩ .no (.c (tupp [isv (.int .u64 (addD a b c)), isv (.int .u64 (addC a b c))])) dum :=
 op_ext3 hf hx hy hz (fun w => (run_add64 (by omega) w).trans (by rw [pair_add ha hb hc.1])) fun c' => ⟨[_, _], rfl, ⟨rfl, rfl⟩, ⟨rfl, rfl⟩, trivial⟩
theorem op_sub64 {f : Nat} {x y z : Operand} {a b c : Int} {ats : Array TypeId} (hf : Ext P f Sub64G) (hx : Lk Γ δ ρ x (isv (.int .u64 a))) (hy : Lk Γ δ ρ y (isv (.int .u64 b))) (hz : Lk Γ δ ρ z (isv (.int .u64 c))) (ha : 0 ≤ a ∧ a < 18446744073709551616) (hb : 0 ≤ b ∧ b < 18446744073709551616) (hc : 0 ≤ c ∧ c ≤ 1) :
  OpOK P n ops Γ ρ δ τ ⟨some d, .call ⟨.value (.func f), #[x, y, z], ats⟩, ty, pos, af, none⟩ .no (.c (tupp [isv (.int .u64 (subD a b c)), isv (.int .u64 (subC a b c))])) dum :=
 op_ext3 hf hx hy hz (fun w => (run_sub64 (by omega) w).trans (by rw [pair_sub ha hb hc])) fun c' => ⟨[_, _], rfl, ⟨rfl, rfl⟩, ⟨rfl, rfl⟩, trivial⟩
end ops
theorem subD_rng {x y b : Int} (hx : 0 ≤ x ∧ x < 18446744073709551616) (hy : 0 ≤ y ∧ y < 18446744073709551616) (hb : 0 ≤ b ∧ b ≤ 1) : 0 ≤ subD x y b ∧ subD x y b < 18446744073709551616 ∧ (subC x y b = 0 ∨ subC x y b = 1) ∧ subD x y b = x - (b + y) + 18446744073709551616 * subC x y b := by
 unfold subD subC
 split <;> omega
end Go.Bn
