/-
 Plain facts on motions. Plain facts on blocks laid on a diagonal. Square roots; the blocks of roots. How far a rounded number lies from the exact one. Nearly the same: a relation on whole numbers that goes through products, sums and quotients; products of numbers, rounded.
-/
import Derived.Test.YtllkellonjhalaaGreatSpKc
import Derived.Test.YtllkellonjhalaaGreatSpKb
set_option linter.unusedVariables false
set_option linter.unusedSimpArgs false
namespace Go.Bn
open Go
section ops
variable {P : Program} {n : Nat} {ops : Array Oper} {Γ : Facts} {ρ : Env} {δ : VEnv} {τ : List VR}
variable {d : Nat} {ty : TypeId} {pos : String} {af : Array Edge}
theorem op_imin {x y : Operand} {ats : Array TypeId} {k : IntKind} {a b : Int} (hx : Lk Γ δ ρ x (isv (.int k a))) (hy : Lk Γ δ ρ y (isv (.int k b))) :
  OpOK P n ops Γ ρ δ τ ⟨some d, .call ⟨.builtin .min, #[x, y], ats⟩, ty, pos, af, none⟩ .no (.c (isv (.int k (min a b)))) dum :=
 ok_pure fun A c _ hr => by
  have h1 := (hr x _ (by simp [Op.operands, Call.operands]) hx).1
  have h2 := (hr y _ (by simp [Op.operands, Call.operands]) hy).1
  refine ⟨.int k (min a b), ?_, rfl, rfl⟩
  by_cases h : b < a
  ·simp [execOp, resolve, invoke, builtin, Builtin.min_, Builtin.min2, h1, h2, h, show min a b = b by omega]
  ·simp [execOp, resolve, invoke, builtin, Builtin.min_, Builtin.min2, h1, h2, h, show min a b = a by omega]
end ops
theorem sub_zero_eq {x : Nat} (hx : x < 2 ^ 64) : fcmp .eql (fsub x x) 0 = finB x := by
 rw [fsub_self hx]
 cases finB x <;> decide +kernel
end Go.Bn
namespace Go.Bn
open Go
theorem slk_len {α : Type} {m : Nat} {mk : α → List SP} {xs : List α} {v : Value} {c : EW} (h : (slk m mk xs).H v c) : xs.length ≤ 9223372036854775807 := by
 obtain ⟨_, hv⟩ := h
 rcases hv with ⟨_, h2⟩ | ⟨ad, cap, _, h2, h3, _⟩
 ·omega
 ·simp only [maxLen] at h3; omega
theorem J_lenk {α : Type} {X : Cx} {Γ : Facts} {ρ : Env} {σ : List Res} {k : Code} {Q : Exit → Act → World → Prop} (t : Nat) {m : Nat} {mk : α → List SP} {xs : List α} (h : ρ.get t = some (slk m mk xs)) (hk : xs.length ≤ 9223372036854775807 → J X Γ ρ σ k Q) : J X Γ ρ σ k Q := fun a c hs =>
 hk (slk_len (hs.env t _ h)) a c hs
end Go.Bn
namespace Go.Bn
open Go
def fsqrt (x : Nat) : Nat := fop (Ieee.double.sqrt x)
theorem root_ok {x d : Ieee.Datum} {n : Nat} (h : x.root n = some d) : d.isNaN = false ∧ x.isNaN = false := by
 cases x with
 | nan s f => simp only [Ieee.Datum.root] at h; cases h
 | infinity s =>
  simp only [Ieee.Datum.root] at h
  split at h
  ·cases h
  ·cases h; exact ⟨rfl, rfl⟩
 | number s m i =>
  simp only [Ieee.Datum.root] at h
  split at h
  ·cases h; exact ⟨rfl, rfl⟩
  ·split at h
   ·cases h
   ·cases h; exact ⟨rfl, rfl⟩
theorem sqrt_some {x r : Nat} (h : Ieee.double.sqrt x = some r) : nanB r = false ∧ r < 2 ^ 64 ∧ nanB x = false := by
 unfold Ieee.Format.sqrt at h
 rw [Option.map_eq_some_iff] at h
 obtain ⟨d, h1, rfl⟩ := h
 obtain ⟨h2, h3⟩ := root_ok h1
 exact ⟨(write_ok h2).1, (write_ok h2).2, h3⟩
theorem fsqrt_cn {x : Nat} : fsqrt (cn x) = match Ieee.double.sqrt x with | some r => r | none => NAN := by
 unfold fsqrt
 cases h : Ieee.double.sqrt x with
 | some r =>
  obtain ⟨_, _, h1⟩ := sqrt_some h
  rw [cn_of_not h1, h]; rfl
 | none =>
  cases h' : Ieee.double.sqrt (cn x) with
  | none => rfl
  | some r =>
   obtain ⟨_, _, h1⟩ := sqrt_some h'
   rw [nanB_cn] at h1
   rw [cn_of_not h1, h] at h'
   cases h'
section ops
variable {P : Program} {n : Nat} {ops : Array Oper} {Γ : Facts} {ρ : Env} {δ : VEnv} {τ : List VR}
variable {d : Nat} {ty : TypeId} {pos : String} {af : Array Edge}
theorem law_sqrt {x : Nat} : ∀ (v : Value) (c : EW), (flp x).H v c → ∃ u m, (Go.Extern.MathSqrt.sqrt #[v]).run P c.w = .ok u { c.w with drawn := m } ∧ ∀ c', (flp (fsqrt x)).H u c' := by
 rintro v c ⟨b, h1, h2, h3⟩
 subst h1 h3
 rw [fsqrt_cn]
 have hF : Go.Extern.MathSqrt.sqrt #[.float .f64 b] = (match Ieee.double.sqrt b with | some r => pure (.float .f64 r) | none => do pure (.float .f64 (← choose (.nanBits .f64 b b)))) := rfl
 cases hs : Ieee.double.sqrt b with
 | some r =>
  obtain ⟨g1, g2, _⟩ := sqrt_some hs
  exact ⟨.float .f64 r, c.w.drawn, by rw [hF, hs]; simp [Sem.run], fun _ => ⟨r, rfl, g2, cn_of_not g1⟩⟩
 | none =>
  refine ⟨.float .f64 ((Question.nanBits .f64 b b).cut (c.w.tape c.w.drawn (.nanBits .f64 b b))), c.w.drawn + 1, ?_, fun _ => ⟨_, rfl, (nan_drawn .nanBits (.inl rfl) b b _).2, cn_of_nan (nan_drawn .nanBits (.inl rfl) b b _).1⟩⟩
  rw [hF, hs]
  simp [choose, Sem.run, Question.forced]
theorem op_f64sqrt {f : Nat} {x : Operand} {v : Nat} {ats : Array TypeId} (hf : Ext P f Go.Extern.MathSqrt.sqrt) (hx : Lk Γ δ ρ x (flp v)) :
  OpOK P n ops Γ ρ δ τ ⟨some d, .call ⟨.value (.func f), #[x], ats⟩, ty, pos, af, none⟩ .no (.c (flp (fsqrt v))) dum := op_ext hf hx law_sqrt
end ops
end Go.Bn
namespace Go.Bn
open Go
theorem cut_err {neg : Bool} {n d : Nat} (h : n ≠ 0) : 2 * (Ieee.Toward.even.cut neg n d * 2 ^ d) ≤ 2 * n + 2 ^ d ∧ 2 * n ≤ 2 * (Ieee.Toward.even.cut neg n d * 2 ^ d) + 2 ^ d := by
 unfold Ieee.Toward.cut
 simp only [Nat.shiftLeft_eq, Nat.one_mul]
 by_cases hd : d ≤ n.log2 + 2
 ·rw [Nat.min_eq_left hd]
  have hg := Nat.two_pow_pos d
  generalize 2 ^ d = G at *
  have e := Nat.div_add_mod n G
  have hr := Nat.mod_lt n hg
  generalize n / G = low at *
  generalize n % G = rest at *
  rw [Nat.mul_comm G low] at e
  cases hm : (decide (G < 2 * rest) || (G == 2 * rest && low % 2 == 1))
  ·simp only [Bool.or_eq_false_iff, decide_eq_false_iff_not] at hm
   simp only [Bool.toNat_false, Nat.add_zero]
   omega
  ·simp only [Bool.or_eq_true, decide_eq_true_eq, Bool.and_eq_true, beq_iff_eq] at hm
   simp only [Bool.toNat_true, Nat.add_mul, Nat.one_mul]
   omega
 ·rw [Nat.min_eq_right (by omega)]
  have h1 := Nat.lt_log2_self (n := n)
  have h2 : 2 ^ (n.log2 + 2) = 2 * 2 ^ (n.log2 + 1) := by rw [Nat.pow_succ 2 (n.log2 + 1)]; omega
  have h3 : 2 ^ (n.log2 + 2) ≤ 2 ^ d := Nat.pow_le_pow_right (by omega) (by omega)
  rw [Nat.div_eq_of_lt (by omega), Nat.mod_eq_of_lt (by omega)]
  have hm : (decide (2 ^ (n.log2 + 2) < 2 * n) || (2 ^ (n.log2 + 2) == 2 * n && 0 % 2 == 1)) = false := by
   simp
   omega
  rw [hm]
  simp
  omega
theorem pow52 : (2 : Nat) ^ 52 = 4503599627370496 := by decide
theorem pow53 : (2 : Nat) ^ 53 = 9007199254740992 := by decide
end Go.Bn
namespace Go.Bn
open Go
theorem fmul_vlx {x y : Nat} (hx : rung x < 9218868437227405312) (hy : rung y < 9218868437227405312) : fmul x y = Ieee.double.nearest (sgn x ^^ sgn y) (vlu x * vlu y) (-2148) := by
 have px := plc_ge x
 have py := plc_ge y
 rw [fmul_fin hx hy]
 apply nearest_eq
 rw [show min (plc x + plc y) (-2148 : Int) = -2148 by omega]
 unfold vlu
 rw [show (plc x + plc y - -2148).toNat = (plc x + 1074).toNat + (plc y + 1074).toNat by omega, Nat.pow_add]
 simp [Nat.mul_assoc, Nat.mul_left_comm]
def UU : Nat := 9007199254740992
def UV : Nat := 9007199254740991
theorem uv_lt : UV ≤ UU := by decide
theorem uu_pos : 0 < UU := by decide
theorem uv_pos : 0 < UV := by decide
structure Apx (k : Nat) (a b : Nat) : Prop where
 l : a * UV ^ k ≤ b * UU ^ k
 r : b * UV ^ k ≤ a * UU ^ k
theorem Apx.symm {k a b : Nat} (h : Apx k a b) : Apx k b a := ⟨h.r, h.l⟩
theorem uv_pow (k : Nat) : UV ^ k ≤ UU ^ k := Nat.pow_le_pow_left uv_lt k
theorem Apx.trans {k l a b c : Nat} (h : Apx k a b) (g : Apx l b c) : Apx (k + l) a c := by
 constructor
 ·rw [Nat.pow_add, Nat.pow_add, ← Nat.mul_assoc]
  refine Nat.le_trans (Nat.mul_le_mul_right _ h.l) ?_
  rw [Nat.mul_right_comm]
  refine Nat.le_trans (Nat.mul_le_mul_right _ g.l) ?_
  rw [Nat.mul_assoc, Nat.mul_comm (UU ^ l)]
  exact Nat.le_refl _
 ·rw [Nat.pow_add, Nat.pow_add, Nat.mul_comm (UV ^ k), ← Nat.mul_assoc]
  refine Nat.le_trans (Nat.mul_le_mul_right _ g.r) ?_
  rw [Nat.mul_right_comm]
  refine Nat.le_trans (Nat.mul_le_mul_right _ h.r) ?_
  rw [Nat.mul_assoc]
  exact Nat.le_refl _
theorem mul4 (a b c d : Nat) : a * b * (c * d) = (a * c) * (b * d) := by
 rw [Nat.mul_assoc, Nat.mul_left_comm b c d, ← Nat.mul_assoc]
theorem Apx.mul {k l a b c d : Nat} (h : Apx k a b) (g : Apx l c d) : Apx (k + l) (a * c) (b * d) := by
 constructor
 ·rw [Nat.pow_add, Nat.pow_add, mul4, mul4 b]
  exact Nat.mul_le_mul h.l g.l
 ·rw [Nat.pow_add, Nat.pow_add, mul4, mul4 a]
  exact Nat.mul_le_mul h.r g.r
theorem Apx.mono {k l a b : Nat} (h : Apx k a b) (hk : k ≤ l) : Apx l a b := by
 obtain ⟨d, rfl⟩ : ∃ d, l = k + d := ⟨l - k, by omega⟩
 constructor
 ·rw [Nat.pow_add, Nat.pow_add, ← Nat.mul_assoc, ← Nat.mul_assoc]
  exact Nat.mul_le_mul h.l (uv_pow d)
 ·rw [Nat.pow_add, Nat.pow_add, ← Nat.mul_assoc, ← Nat.mul_assoc]
  exact Nat.mul_le_mul h.r (uv_pow d)
theorem Apx.add {k a b c d : Nat} (h : Apx k a b) (g : Apx k c d) : Apx k (a + c) (b + d) := by
 constructor
 ·rw [Nat.add_mul, Nat.add_mul]; exact Nat.add_le_add h.l g.l
 ·rw [Nat.add_mul, Nat.add_mul]; exact Nat.add_le_add h.r g.r
theorem nf1 {s : Bool} {p : Int} : rung (Ieee.double.nearest s 0 p) < 9218868437227405312 := by
 rw [nearest_nought]
 cases s
 ·show 0 % 9223372036854775808 < _
  decide
 ·show 9223372036854775808 % 9223372036854775808 < _
  decide
theorem word_fin {s : Bool} {t K : Nat} (ht : t ≤ 2044) (hK : K ≤ 9007199254740992) : rung (Ieee.double.word s (min (t * 4503599627370496 + K) 9218868437227405312)) < 9218868437227405312 := by
 rw [(@word_parts s (min (t * 4503599627370496 + K) 9218868437227405312) (Nat.min_le_right ..)).2.1]
 omega
theorem nearest_fin {s : Bool} {n N : Nat} {p : Int} (hp : -(N : Int) ≤ p) (hb : n * 2 ^ (p + N).toNat < 2 ^ (N + 1023)) : rung (Ieee.double.nearest s n p) < 9218868437227405312 := by
 by_cases hn : n = 0
 ·subst hn
  exact nf1
 ·obtain ⟨last, hlast⟩ : ∃ last, last = max (p + (n.log2 : Int) - 52) (-1074) := ⟨_, rfl⟩
  have hw : Ieee.double.nearest s n p = Ieee.double.word s (min ((last + 1074).toNat * 4503599627370496 + Ieee.Toward.even.cut s (n <<< (p - last).toNat) (last - p).toNat) 9218868437227405312) := by
   unfold Ieee.Format.nearest
   simp only [lpE, fbE, binA, infR]
   rw [if_neg hn, show p + (n.log2 : Int) - ((52 : Nat) : Int) = p + (n.log2 : Int) - 52 by omega, ← hlast, show (last - -1074).toNat = (last + 1074).toNat by omega]
  obtain ⟨c1, c2⟩ := @cut_err s (n <<< (p - last).toNat) (last - p).toNat (shift_ne hn)
  have hlo := Nat.log2_self_le hn
  have hhi := Nat.lt_log2_self (n := n)
  generalize hK : Ieee.Toward.even.cut s (n <<< (p - last).toNat) (last - p).toNat = K at *
  rw [Nat.shiftLeft_eq] at c1 c2
  have hup : n * 2 ^ (p - last).toNat < 9007199254740992 * 2 ^ (last - p).toNat := by
   rw [← pow53, ← Nat.pow_add]
   refine Nat.lt_of_lt_of_le (Nat.mul_lt_mul_of_pos_right hhi (Nat.two_pow_pos _)) ?_
   rw [← Nat.pow_add]
   exact Nat.pow_le_pow_right (by omega) (by omega)
  have hKm : K ≤ 9007199254740992 := by
   have hdp := Nat.two_pow_pos (last - p).toNat
   generalize 2 ^ (last - p).toNat = D at *
   generalize n * 2 ^ (p - last).toNat = A at *
   by_cases hc : K ≤ 9007199254740992
   ·exact hc
   ·have := Nat.mul_le_mul_right D (show 9007199254740992 + 1 ≤ K by omega)
    rw [Nat.add_mul, Nat.one_mul] at this
    omega
  have hl : p + (n.log2 : Int) ≤ 1022 := by
   have h1 : 2 ^ (n.log2 + (p + N).toNat) < 2 ^ (N + 1023) := by
    rw [Nat.pow_add]
    exact Nat.lt_of_le_of_lt (Nat.mul_le_mul_right _ hlo) hb
   have h2 : n.log2 + (p + N).toNat < N + 1023 := (Nat.pow_lt_pow_iff_right (by omega)).1 h1
   omega
  have ht : (last + 1074).toNat ≤ 2044 := by omega
  rw [hw]
  exact word_fin ht hKm
def NZ : Nat := 1074
theorem nz : NZ = 1074 := rfl
def PZ : Nat := 2 ^ NZ
theorem pz_def : PZ = 2 ^ NZ := rfl
theorem pz_pos : 0 < PZ := Nat.two_pow_pos NZ
structure Rng (x : Nat) (k : Nat) : Prop where
 f : rung x < 9218868437227405312
 s : sgn x = false
 lo : PZ ≤ vlu x * 2 ^ k
 hi : vlu x ≤ PZ * 2 ^ k
theorem Rng.pos {x k : Nat} (h : Rng x k) : 0 < vlu x := by
 have h1 := h.lo
 rcases Nat.eq_zero_or_pos (vlu x) with h0 | h0
 ·rw [h0, Nat.zero_mul] at h1
  have := pz_pos
  omega
 ·exact h0
theorem uu_two : UU ≤ 2 * UV := by decide
theorem Apx.two {a b : Nat} (h : Apx 1 a b) : a ≤ 2 * b ∧ b ≤ 2 * a := by
 have h1 := h.l
 have h2 := h.r
 rw [Nat.pow_one, Nat.pow_one] at h1 h2
 have hv := uv_pos
 have h3 := uu_two
 constructor
 ·have h4 := Nat.mul_le_mul_left b h3
  have h5 : a * UV ≤ 2 * b * UV := by
   refine Nat.le_trans h1 (Nat.le_trans h4 (Nat.le_of_eq ?_))
   rw [← Nat.mul_assoc, Nat.mul_comm b 2]
  exact Nat.le_of_mul_le_mul_right h5 hv
 ·have h4 := Nat.mul_le_mul_left a h3
  have h5 : b * UV ≤ 2 * a * UV := by
   refine Nat.le_trans h2 (Nat.le_trans h4 (Nat.le_of_eq ?_))
   rw [← Nat.mul_assoc, Nat.mul_comm a 2]
  exact Nat.le_of_mul_le_mul_right h5 hv
end Go.Bn
namespace Go.Bn
open Go
theorem uu53 : UU = 2 ^ 53 := by decide
end Go.Bn
