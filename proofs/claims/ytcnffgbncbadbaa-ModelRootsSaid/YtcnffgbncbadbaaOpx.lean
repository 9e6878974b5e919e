/-
  The logic of walks: more operations (the greater of two numbers, amounts, unequal truth values, arrays, slices without room).
-/
import Derived.Test.YtcnffgbncbadbaaOwn
import Derived.Test.YtcnffgbncbadbaaNum
import Derived.Laws.Small
set_option linter.unusedVariables false
set_option linter.unusedSimpArgs false
namespace Go.Bn
open Go
/-- The greater of two. -/
def fmax (x y : Nat) : Nat := match ford x y with
  | none => NAN
  | some .lt => y
  | some .gt => x
  | some .eq => if (Ieee.double.read x).neg then y else x
/-- The amount. -/
def fabs (x : Nat) : Nat := if nanB x then NAN else x % 9223372036854775808
theorem ford_none {x y : Nat} (h : ford x y = none) : nanB x = true ∨ nanB y = true := by
  unfold ford Ieee.Format.order at h
  unfold nanB
  cases hx : Ieee.double.read x <;> cases hy : Ieee.double.read y <;> rw [hx, hy] at h <;> simp [Ieee.Datum.order] at h <;> simp [Ieee.Datum.isNaN]
theorem fmax_nan {x y : Nat} (hx : nanB x = false) (hy : nanB y = false) : nanB (fmax x y) = false := by
  unfold fmax
  cases h : ford x y with
  | none => rcases ford_none h with h | h <;> simp [h] at hx hy
  | some o =>
    cases o
    · exact hy
    · simp only; split
      · exact hy
      · exact hx
    · exact hx
theorem fmax_cn (x y : Nat) : fmax (cn x) (cn y) = match ford x y with | none => NAN | some .lt => cn y | some .gt => cn x | some .eq => if (Ieee.double.read x).neg then cn y else cn x := by
  unfold fmax
  rw [ford_cn]
  cases h : ford x y with
  | none => rfl
  | some o =>
    have hx : nanB x = false := by
      cases hn : nanB x
      · rfl
      · rw [ford_nan (.inl hn)] at h; cases h
    cases o <;> simp only
    rw [cn_of_not hx]
theorem fabs_cn {b : Nat} : fabs (cn b) = cn (b % 9223372036854775808) := by
  unfold fabs
  rw [nanB_cn]
  cases h : nanB b
  · rw [cn_of_not h]
    have : nanB (b % 9223372036854775808) = false := by
      rw [nanB_iff] at h ⊢
      rw [Nat.mod_mod]; exact h
    rw [cn_of_not this]
    simp
  · have : nanB (b % 9223372036854775808) = true := by
      rw [nanB_iff] at h ⊢
      rw [Nat.mod_mod]; exact h
    rw [cn_of_nan this]
    simp
theorem fabs_nan {x : Nat} (h : nanB x = false) : nanB (fabs x) = false := by
  unfold fabs
  rw [h]
  rw [nanB_iff] at h ⊢
  simp only [Bool.false_eq_true, if_false, Nat.mod_mod]
  exact h
section ops
variable {P : Program} {n : Nat} {ops : Array Oper} {Γ : Facts} {ρ : Env} {δ : VEnv} {τ : List VR}
variable {d : Nat} {ty : TypeId} {pos : String} {af : Array Edge}
theorem op_fmax {x y : Operand} {ats : Array TypeId} {a b : Nat} (hx : Lk Γ δ ρ x (flp a)) (hy : Lk Γ δ ρ y (flp b)) :
    OpOK P n ops Γ ρ δ τ ⟨some d, .call ⟨.builtin .max, #[x, y], ats⟩, ty, pos, af, none⟩ .no (.c (flp (fmax a b))) dum :=
  ok_draw fun A c _ hrd => by
    obtain ⟨b1, h1, h2, rfl⟩ := hrd x _ (by simp [Op.operands, Call.operands]) hx
    obtain ⟨b2, h3, h4, rfl⟩ := hrd y _ (by simp [Op.operands, Call.operands]) hy
    rw [fmax_cn]
    have hF : FloatKind.f64.format = Ieee.double := rfl
    have hd : (FloatKind.f64.decode b1).neg = (Ieee.double.read b1).neg := rfl
    cases ho : ford b1 b2 with
    | none =>
      have ho' : Ieee.double.order b1 b2 = none := ho
      refine ⟨.float .f64 ((Question.nanMinMax .f64 true b1 b2).cut (c.w.tape c.w.drawn (.nanMinMax .f64 true b1 b2))), c.w.drawn + 1, ?_, fun _ => ⟨_, rfl, (nan_drawn (fun k x y => .nanMinMax k true x y) (.inr ⟨true, rfl⟩) b1 b2 _).2, cn_of_nan (nan_drawn (fun k x y => .nanMinMax k true x y) (.inr ⟨true, rfl⟩) b1 b2 _).1⟩⟩
      simp [execOp, resolve, invoke, builtin, Builtin.max_, Builtin.max2, h1, h3, hF, ho', choose, Sem.run, Question.forced]
    | some o =>
      have ho' : Ieee.double.order b1 b2 = some o := ho
      cases o
      · exact ⟨.float .f64 b2, c.w.drawn, by simp [execOp, resolve, invoke, builtin, Builtin.max_, Builtin.max2, h1, h3, hF, ho', Sem.run], fun _ => ⟨b2, rfl, h4, rfl⟩⟩
      · cases hn : (Ieee.double.read b1).neg
        · exact ⟨.float .f64 b1, c.w.drawn, by simp [execOp, resolve, invoke, builtin, Builtin.max_, Builtin.max2, h1, h3, hF, ho', hd, hn, Sem.run], fun _ => ⟨b1, rfl, h2, by simp⟩⟩
        · exact ⟨.float .f64 b2, c.w.drawn, by simp [execOp, resolve, invoke, builtin, Builtin.max_, Builtin.max2, h1, h3, hF, ho', hd, hn, Sem.run], fun _ => ⟨b2, rfl, h4, by simp⟩⟩
      · exact ⟨.float .f64 b1, c.w.drawn, by simp [execOp, resolve, invoke, builtin, Builtin.max_, Builtin.max2, h1, h3, hF, ho', Sem.run], fun _ => ⟨b1, rfl, h2, rfl⟩⟩
theorem op_absb {x : Operand} {t t' : TypeId} {a : Nat} (hx : Lk Γ δ ρ x (bitp a)) :
    OpOK P n ops Γ ρ δ τ ⟨some d, .binOp .andNot t x (.const (.int .u64 9223372036854775808)) t', ty, pos, af, none⟩ .no (.c (bitp (fabs a))) dum :=
  ok_pure fun A c _ hr => by
    obtain ⟨b, h1, h2, rfl⟩ := hr x _ (by simp [Op.operands]) hx
    have hz : bitsOf .andNot .u64 (b : Int) 9223372036854775808 = ((b % 9223372036854775808 : Nat) : Int) := by
      have h3 := bits_andNot b 9223372036854775808 h2 (by decide)
      rw [show ((9223372036854775808 : Int)) = ((9223372036854775808 : Nat) : Int) from rfl, h3, show 2 ^ 64 - 1 - 9223372036854775808 = 2 ^ 63 - 1 by decide, Nat.and_two_pow_sub_one_eq_mod]
    refine ⟨.int .u64 ((b % 9223372036854775808 : Nat) : Int), ?_, b % 9223372036854775808, rfl, by omega, fabs_cn.symm⟩
    rw [← hz]
    simp [execOp, eqGuard, binOp, Op.intBits, h1, bitsOf, show A.eval (.const (.int .u64 9223372036854775808)) = .int .u64 9223372036854775808 from rfl]
theorem op_bne {x y : Operand} {t t' : TypeId} {a b : Bool} (hT : P.underlying t = some .bool) (hx : Lk Γ δ ρ x (isv (.bool a))) (hy : Lk Γ δ ρ y (isv (.bool b))) :
    OpOK P n ops Γ ρ δ τ ⟨some d, .binOp .neq t x y t', ty, pos, af, none⟩ .no (.c (isv (.bool (a != b)))) dum :=
  ok_pure fun A c _ hr => by
    have h1 := (hr x _ (by simp [Op.operands]) hx).1
    have h2 := (hr y _ (by simp [Op.operands]) hy).1
    refine ⟨.bool (a != b), ?_, rfl, rfl⟩
    have hrun := run_neq_bool (P := P) c.w t a b hT
    have e : (!(a == b)) = (a != b) := rfl
    rw [e] at hrun
    simp [execOp, eqGuard, h1, h2, hrun]
end ops
end Go.Bn
