/-
  Strings.
-/
import Derived.Test.YtcnffgbncbadbaaDoorLay
set_option linter.unusedVariables false
set_option linter.unusedSimpArgs false
namespace Go.Bn
open Go
abbrev strp (b : ByteArray) : SP := isv (.string b)
def seqB (a b : ByteArray) : Bool := a.toList == b.toList
def scmpB (op : BinOp) (a b : ByteArray) : Bool := match op with
  | .eql => seqB a b
  | _ => !seqB a b
section ops
variable {P : Program} {n : Nat} {ops : Array Oper} {Γ : Facts} {ρ : Env} {δ : VEnv} {τ : List VR}
variable {d : Nat} {ty : TypeId} {pos : String} {af : Array Edge}
theorem op_scat {x y : Operand} {t t' : TypeId} {a b : ByteArray} (hx : Lk Γ δ ρ x (strp a)) (hy : Lk Γ δ ρ y (strp b)) (hz : a.size + b.size ≤ 9223372036854775807) :
    OpOK P n ops Γ ρ δ τ ⟨some d, .binOp .add t x y t', ty, pos, af, none⟩ .no (.c (strp (a ++ b))) dum :=
  ok_pure fun A c _ hr => by
    have h1 := (hr x _ (by simp [Op.operands]) hx).1
    have h2 := (hr y _ (by simp [Op.operands]) hy).1
    have hm : IntKind.i64.max = 9223372036854775807 := by decide
    have hb : ¬ ((a.size + b.size : Nat) : Int) > IntKind.i64.max := by rw [hm]; omega
    have hb' : ¬ IntKind.i64.max < (a.size : Int) + (b.size : Int) := by rw [hm]; omega
    exact ⟨.string (a ++ b), by simp [execOp, eqGuard, binOp, Op.stringOp, h1, h2]; omega, rfl, rfl⟩
theorem op_scmp {x y : Operand} {t t' : TypeId} {op : BinOp} {a b : ByteArray} {r : Bool} (hop : op = .eql ∨ op = .neq) (hx : Lk Γ δ ρ x (strp a)) (hy : Lk Γ δ ρ y (strp b)) (hr : scmpB op a b = r) :
    OpOK P n ops Γ ρ δ τ ⟨some d, .binOp op t x y t', ty, pos, af, none⟩ .no (.c (isv (.bool r))) dum :=
  ok_pure fun A c _ hr' => by
    have h1 := (hr' x _ (by simp [Op.operands]) hx).1
    have h2 := (hr' y _ (by simp [Op.operands]) hy).1
    refine ⟨.bool r, ?_, rfl, rfl⟩
    subst hr
    rcases hop with h | h <;> subst h <;> simp [execOp, eqGuard, binOp, Op.stringOp, h1, h2, scmpB, seqB]
theorem op_sslice {x lo hi : Operand} {T : TypeId} {k1 k2 : IntKind} {l h : Int} {s : ByteArray} (hT : P.underlying T = some .string) (hx : Lk Γ δ ρ x (strp s)) (hlo : Lk Γ δ ρ lo (isv (.int k1 l))) (hhi : Lk Γ δ ρ hi (isv (.int k2 h)))
    (h0 : 0 ≤ l) (h1 : l ≤ h) (h2 : h ≤ (s.size : Int)) :
    OpOK P n ops Γ ρ δ τ ⟨some d, .slice T x (some lo) (some hi) none, ty, pos, af, none⟩ .no (.c (strp (s.extract l.toNat h.toNat))) dum :=
  ok_pure fun a c _ hr => by
    have hv := (hr x _ (by simp [Op.operands]) hx).1
    have hl := (hr lo _ (by simp [Op.operands]) hlo).1
    have hh := (hr hi _ (by simp [Op.operands]) hhi).1
    refine ⟨.string (s.extract l.toNat h.toNat), ?_, rfl, rfl⟩
    have e1 : 0 ≤ h ∧ h ≤ (s.size : Int) := ⟨by omega, h2⟩
    have e2 : 0 ≤ l ∧ l ≤ ((h.toNat : Nat) : Int) := ⟨h0, by omega⟩
    simp [execOp, Instr.sliceAt, Instr.slice, Instr.sliceBounds, Instr.sliceBound, hv, hl, hh, run_underlying hT, asIntOf, h0, h2, (show 0 ≤ h by omega), (show l ≤ max h 0 by omega)]
theorem op_slen {x : Operand} {T : TypeId} {s : ByteArray} (hT : P.underlying T = some .string) (hx : Lk Γ δ ρ x (strp s)) :
    OpOK P n ops Γ ρ δ τ ⟨some d, .call ⟨.builtin .len, #[x], #[T]⟩, ty, pos, af, none⟩ .no (.c (isv (.int .i64 (s.size : Int)))) dum :=
  ok_pure fun A c _ hr => by
    have h1 := (hr x _ (by simp [Op.operands, Call.operands]) hx).1
    exact ⟨.int .i64 s.size, by simp [execOp, resolve, invoke, builtin, Builtin.len_, h1, run_underlying hT, goInt], rfl, rfl⟩
theorem op_sindex {x y : Operand} {T : TypeId} {k : IntKind} {z : Int} {s : ByteArray} {v : UInt8} (hT : P.underlying T = some .string) (hx : Lk Γ δ ρ x (strp s)) (hy : Lk Γ δ ρ y (isv (.int k z))) (h0 : 0 ≤ z) (hv : s[z.toNat]? = some v) :
    OpOK P n ops Γ ρ δ τ ⟨some d, .index T x y, ty, pos, af, none⟩ .no (.c (isv (.int .u8 (v.toNat : Int)))) dum :=
  ok_pure fun A c _ hr => by
    have h1 := (hr x _ (by simp [Op.operands]) hx).1
    have h2 := (hr y _ (by simp [Op.operands]) hy).1
    exact ⟨.int .u8 v.toNat, by simp [execOp, Instr.index, h1, h2, asIntOf, run_underlying hT, h0, hv], rfl, rfl⟩
end ops
end Go.Bn
