/-
 Plain facts on motions. Plain facts on blocks laid on a diagonal. Square roots; the blocks of roots. How far a rounded number lies from the exact one. Nearly the same: a relation on whole numbers that goes through products, sums and quotients; products of numbers, rounded.
-/
import Derived.Test.YtllkellonjhalaaGreatOoKc
import Derived.Test.YtllkellonjhalaaGreatOoKb
set_option linter.unusedVariables false
set_option linter.unusedSimpArgs false
namespace Go.Bn
open Go
section ops
variable {P : Program} {n : Nat} {ops : Array Oper} {Γ : Facts} {ρ : Env} {δ : VEnv} {τ : List VR}
variable {d : Nat} {ty : TypeId} {pos : String} {af : Array Edge}
theorem op_imin {x y : Operand} {ats : Array TypeId} {k : IntKind} {a b : Int} (hx : Lk Γ δ ρ x (isv (.int k a))) (hy : Lk Γ δ ρ y (isv (.int k b))) :
  OpOK P n ops Γ ρ δ τ ⟨some d, .call ⟨.builtin .min, #[x, y], ats⟩, ty, pos, af, none⟩ .no (.c (isv (.int k (min a b)))) dum :=
 ok_pure fun A c _ hr => by
  have h1 := (hr x _ (by simp [Op.operands, Call.operands]) hx).1
  have h2 := (hr y _ (by simp [Op.operands, Call.operands]) hy).1
  refine ⟨.int k (min a b), ?_, rfl, rfl⟩
  by_cases h : b < a
  ·simp [execOp, resolve, invoke, builtin, Builtin.min_, Builtin.min2, h1, h2, h, show min a b = b by omega]
  ·simp [execOp, resolve, invoke, builtin, Builtin.min_, Builtin.min2, h1, h2, h, show min a b = a by omega]
end ops
theorem sub_zero_eq {x : Nat} (hx : x < 2 ^ 64) : fcmp .eql (fsub x x) 0 = finB x := by
 rw [fsub_self hx]
 cases finB x <;> decide +kernel
end Go.Bn
namespace Go.Bn
open Go
theorem slk_len {α : Type} {m : Nat} {mk : α → List SP} {xs : List α} {v : Value} {c : EW} (h : (slk m mk xs).H v c) : xs.length ≤ 9223372036854775807 := by
 obtain ⟨_, hv⟩ := h
 rcases hv with ⟨_, h2⟩ | ⟨ad, cap, _, h2, h3, _⟩
 ·omega
 ·simp only [maxLen] at h3; omega
theorem J_lenk {α : Type} {X : Cx} {Γ : Facts} {ρ : Env} {σ : List Res} {k : Code} {Q : Exit → Act → World → Prop} (t : Nat) {m : Nat} {mk : α → List SP} {xs : List α} (h : ρ.get t = some (slk m mk xs)) (hk : xs.length ≤ 9223372036854775807 → J X Γ ρ σ k Q) : J X Γ ρ σ k Q := fun a c hs =>
 hk (slk_len (hs.env t _ h)) a c hs
end Go.Bn
namespace Go.Bn
open Go
def fsqrt (x : Nat) : Nat := fop (Ieee.double.sqrt x)
theorem root_ok {x d : Ieee.Datum} {n : Nat} (h : x.root n = some d) : d.isNaN = false ∧ x.isNaN = false := by
 cases x with
 | nan s f => simp only [Ieee.Datum.root] at h; cases h
 | infinity s =>
  simp only [Ieee.Datum.root] at h
  split at h
  ·cases h
  ·cases h; exact ⟨rfl, rfl⟩
 | number s m i =>
  simp only [Ieee.Datum.root] at h
  split at h
  ·cases h; exact ⟨rfl, rfl⟩
  ·split at h
   ·cases h
   ·cases h; exact ⟨rfl, rfl⟩
theorem sqrt_some {x r : Nat} (h : Ieee.double.sqrt x = some r) : nanB r = false ∧ r < 2 ^ 64 ∧ nanB x = false := by
 unfold Ieee.Format.sqrt at h
 rw [Option.map_eq_some_iff] at h
 obtain ⟨d, h1, rfl⟩ := h
 obtain ⟨h2, h3⟩ := root_ok h1
 exact ⟨(write_ok h2).1, (write_ok h2).2, h3⟩
theorem fsqrt_cn {x : Nat} : fsqrt (cn x) = match Ieee.double.sqrt x with | some r => r | none => NAN := by
 unfold fsqrt
 cases h : Ieee.double.sqrt x with
 | some r =>
  obtain ⟨_, _, h1⟩ := sqrt_some h
  rw [cn_of_not h1, h]; rfl
 | none =>
  cases h' : Ieee.double.sqrt (cn x) with
  | none => rfl
  | some r =>
   obtain ⟨_, _, h1⟩ := sqrt_some h'
   rw [nanB_cn] at h1
   rw [cn_of_not h1, h] at h'
   cases h'
section ops
variable {P : Program} {n : Nat} {ops : Array Oper} {Γ : Facts} {ρ : Env} {δ : VEnv} {τ : List VR}
variable {d : Nat} {ty : TypeId} {pos : String} {af : Array Edge}
theorem law_sqrt {x : Nat} : ∀ (v : Value) (c : EW), (flp x).H v c → ∃ u m, (Go.Extern.MathSqrt.sqrt #[v]).run P c.w = .ok u { c.w with drawn := m } ∧ ∀ c', (flp (fsqrt x)).H u c' := by
 rintro v c ⟨b, h1, h2, h3⟩
 subst h1 h3
 rw [fsqrt_cn]
 have hF : Go.Extern.MathSqrt.sqrt #[.float .f64 b] = (match Ieee.double.sqrt b with | some r => pure (.float .f64 r) | none => do pure (.float .f64 (← choose (.nanBits .f64 b b)))) := rfl
 cases hs : Ieee.double.sqrt b with
 | some r =>
  obtain ⟨g1, g2, _⟩ := sqrt_some hs
  exact ⟨.float .f64 r, c.w.drawn, by rw [hF, hs]; simp [Sem.run], fun _ => ⟨r, rfl, g2, cn_of_not g1⟩⟩
 | none =>
  refine ⟨.float .f64 ((Question.nanBits .f64 b b).cut (c.w.tape c.w.drawn (.nanBits .f64 b b))), c.w.drawn + 1, ?_, fun _ => ⟨_, rfl, (nan_drawn .nanBits (.inl rfl) b b _).2, cn_of_nan (nan_drawn .nanBits (.inl rfl) b b _).1⟩⟩
  rw [hF, hs]
  simp [choose, Sem.run, Question.forced]
theorem op_f64sqrt {f : Nat} {x : Operand} {v : Nat} {ats : Array TypeId} (hf : Ext P f Go.Extern.MathSqrt.sqrt) (hx : Lk Γ δ ρ x (flp v)) :
  OpOK P n ops Γ ρ δ τ ⟨some d, .call ⟨.value (.func f), #[x], ats⟩, ty, pos, af, none⟩ .no (.c (flp (fsqrt v))) dum := op_ext hf hx law_sqrt
end ops
end Go.Bn
namespace Go.Bn
open Go
theorem cut_err {neg : Bool} {n d : Nat} (h : n ≠ 0) : 2 * (Ieee.Toward.even.cut neg n d * 2 ^ d) ≤ 2 * n + 2 ^ d ∧ 2 * n ≤ 2 * (Ieee.Toward.even.cut neg n d * 2 ^ d) + 2 ^ d := by
 unfold Ieee.Toward.cut
 simp only [Nat.shiftLeft_eq, Nat.one_mul]
 by_cases hd : d ≤ n.log2 + 2
 ·rw [Nat.min_eq_left hd]
  have hg := Nat.two_pow_pos d
  generalize 2 ^ d = G at *
  have e := Nat.div_add_mod n G
  have hr := Nat.mod_lt n hg
  generalize n / G = low at *
  generalize n % G = rest at *
  rw [Nat.mul_comm G low] at e
  cases hm : (decide (G < 2 * rest) || (G == 2 * rest && low % 2 == 1))
  ·simp only [Bool.or_eq_false_iff, decide_eq_false_iff_not] at hm
   simp only [Bool.toNat_false, Nat.add_zero]
   omega
  ·simp only [Bool.or_eq_true, decide_eq_true_eq, Bool.and_eq_true, beq_iff_eq] at hm
   simp only [Bool.toNat_true, Nat.add_mul, Nat.one_mul]
   omega
 ·rw [Nat.min_eq_right (by omega)]
  have h1 := Nat.lt_log2_self (n := n)
  have h2 : 2 ^ (n.log2 + 2) = 2 * 2 ^ (n.log2 + 1) := by rw [Nat.pow_succ 2 (n.log2 + 1)]; omega
  have h3 : 2 ^ (n.log2 + 2) ≤ 2 ^ d := Nat.pow_le_pow_right (by omega) (by omega)
  rw [Nat.div_eq_of_lt (by omega), Nat.mod_eq_of_lt (by omega)]
  have hm : (decide (2 ^ (n.log2 + 2) < 2 * n) || (2 ^ (n.log2 + 2) == 2 * n && 0 % 2 == 1)) = false := by
   simp
   omega
  rw [hm]
  simp
  omega
theorem vlu_word {s : Bool} {t K : Nat} (hK : K ≤ 9007199254740992) (ht : t = 0 ∨ 4503599627370496 ≤ K) (w : Nat) (hw : w = Ieee.double.word s (min (t * 4503599627370496 + K) 9218868437227405312)) (hf : rung w < 9218868437227405312) : vlu w = K * 2 ^ t := by
 have h2 := (@word_parts s (min (t * 4503599627370496 + K) 9218868437227405312) (Nat.min_le_right ..)).2.1
 rw [← hw] at h2
 have hr : rung w = t * 4503599627370496 + K := by omega
 unfold vlu mgn plc
 rw [hr]
 by_cases hs : t * 4503599627370496 + K < 4503599627370496
 ·rw [if_pos hs, if_pos hs]
  have : t = 0 := by omega
  subst this
  simp
 ·rw [if_neg hs, if_neg hs]
  by_cases hb : K = 9007199254740992
  ·subst hb
   have e1 : (t * 4503599627370496 + 9007199254740992) % 4503599627370496 = 0 := by omega
   have e2 : (t * 4503599627370496 + 9007199254740992) / 4503599627370496 - 1 = t + 1 := by omega
   rw [e1, e2, show (-1074 + ((t + 1 : Nat) : Int) + 1074).toNat = t + 1 by omega, Nat.pow_succ]
   omega
  ·have hKlow : 4503599627370496 ≤ K := by omega
   have e1 : (t * 4503599627370496 + K) % 4503599627370496 = K - 4503599627370496 := by omega
   have e2 : (t * 4503599627370496 + K) / 4503599627370496 - 1 = t := by omega
   rw [e1, e2, show 4503599627370496 + (K - 4503599627370496) = K by omega, show (-1074 + (t : Int) + 1074).toNat = t by omega]
theorem pow52 : (2 : Nat) ^ 52 = 4503599627370496 := by decide
theorem pow53 : (2 : Nat) ^ 53 = 9007199254740992 := by decide
theorem nearest_step {s : Bool} {n : Nat} {p : Int} (hn : n ≠ 0) (hf : rung (Ieee.double.nearest s n p) < 9218868437227405312) :
  ∃ (K t d u : Nat), vlu (Ieee.double.nearest s n p) = K * 2 ^ t ∧ (d = 0 ∨ u = 0) ∧ (p + (u : Int) + 1074 = (t : Int) + (u : Int) + (u : Int) - (d : Int) + 0 ∨ True) ∧ p + (d : Int) = -1074 + (t : Int) + (u : Int) ∧
   2 * (K * 2 ^ d) ≤ 2 * (n * 2 ^ u) + 2 ^ d ∧ 2 * (n * 2 ^ u) ≤ 2 * (K * 2 ^ d) + 2 ^ d ∧ (u ≠ 0 → K = n * 2 ^ u) ∧ (t = 0 ∨ 4503599627370496 * 2 ^ d ≤ n * 2 ^ u) := by
 obtain ⟨last, hlast⟩ : ∃ last, last = max (p + (n.log2 : Int) - 52) (-1074) := ⟨_, rfl⟩
 have hw : Ieee.double.nearest s n p = Ieee.double.word s (min ((last + 1074).toNat * 4503599627370496 + Ieee.Toward.even.cut s (n <<< (p - last).toNat) (last - p).toNat) 9218868437227405312) := by
  unfold Ieee.Format.nearest
  simp only [lpE, fbE, binA, infR]
  rw [if_neg hn, show p + (n.log2 : Int) - ((52 : Nat) : Int) = p + (n.log2 : Int) - 52 by omega, ← hlast, show (last - -1074).toNat = (last + 1074).toNat by omega]
 have hnu : n <<< (p - last).toNat ≠ 0 := shift_ne hn
 obtain ⟨c1, c2⟩ := @cut_err s (n <<< (p - last).toNat) (last - p).toNat hnu
 have hlo := Nat.log2_self_le hn
 have hhi := Nat.lt_log2_self (n := n)
 generalize hK : Ieee.Toward.even.cut s (n <<< (p - last).toNat) (last - p).toNat = K at *
 rw [Nat.shiftLeft_eq] at c1 c2
 have hex : (p - last).toNat ≠ 0 → K = n * 2 ^ (p - last).toNat := fun hu => by
  rw [← hK, show (last - p).toNat = 0 by omega, cut_zero, Nat.shiftLeft_eq]
 have hup : n * 2 ^ (p - last).toNat < 9007199254740992 * 2 ^ (last - p).toNat := by
  rw [← pow53, ← Nat.pow_add]
  refine Nat.lt_of_lt_of_le (Nat.mul_lt_mul_of_pos_right hhi (Nat.two_pow_pos _)) ?_
  rw [← Nat.pow_add]
  exact Nat.pow_le_pow_right (by omega) (by omega)
 have hdn : (last + 1074).toNat = 0 ∨ 4503599627370496 * 2 ^ (last - p).toNat ≤ n * 2 ^ (p - last).toNat := by
  by_cases h0 : (last + 1074).toNat = 0
  ·exact .inl h0
  ·right
   rw [← pow52, ← Nat.pow_add]
   refine Nat.le_trans (Nat.pow_le_pow_right (by omega) (show 52 + (last - p).toNat ≤ n.log2 + (p - last).toNat by omega)) ?_
   rw [Nat.pow_add]
   exact Nat.mul_le_mul_right _ hlo
 have hdp := Nat.two_pow_pos (last - p).toNat
 have hKm : K ≤ 9007199254740992 := by
  generalize 2 ^ (last - p).toNat = D at *
  generalize n * 2 ^ (p - last).toNat = A at *
  by_cases hc : K ≤ 9007199254740992
  ·exact hc
  ·have := Nat.mul_le_mul_right D (show 9007199254740992 + 1 ≤ K by omega)
   rw [Nat.add_mul, Nat.one_mul] at this
   omega
 have hKl : (last + 1074).toNat = 0 ∨ 4503599627370496 ≤ K := by
  rcases hdn with h | h
  ·exact .inl h
  ·right
   generalize 2 ^ (last - p).toNat = D at *
   generalize n * 2 ^ (p - last).toNat = A at *
   by_cases hc : 4503599627370496 ≤ K
   ·exact hc
   ·have := Nat.mul_le_mul_right D (show K + 1 ≤ 4503599627370496 by omega)
    rw [Nat.add_mul, Nat.one_mul] at this
    omega
 refine ⟨K, (last + 1074).toNat, (last - p).toNat, (p - last).toNat, vlu_word hKm hKl _ hw hf, by omega, .inr trivial, by omega, c1, c2, hex, hdn⟩
theorem nearest_err {s : Bool} {n N : Nat} {p : Int} (hn : n ≠ 0) (hN : 1074 ≤ N) (hp : -(N : Int) ≤ p) (hf : rung (Ieee.double.nearest s n p) < 9218868437227405312) :
  ∃ E : Nat, vlu (Ieee.double.nearest s n p) * 2 ^ (N - 1074) ≤ n * 2 ^ (p + N).toNat + E ∧ n * 2 ^ (p + N).toNat ≤ vlu (Ieee.double.nearest s n p) * 2 ^ (N - 1074) + E ∧ (E * 9007199254740992 ≤ n * 2 ^ (p + N).toNat ∨ 2 * E ≤ 2 ^ (N - 1074)) := by
 obtain ⟨K, t, d, u, h1, h2, _, h3, h4, h5, h6, h7⟩ := nearest_step hn hf
 rw [h1]
 by_cases hu : u = 0
 ·subst hu
  rw [Nat.pow_zero, Nat.mul_one] at h4 h5 h7
  have e1 : K * 2 ^ t * 2 ^ (N - 1074) = K * 2 ^ d * 2 ^ (p + N).toNat := by
   rw [Nat.mul_assoc, ← Nat.pow_add, Nat.mul_assoc, ← Nat.pow_add, show t + (N - 1074) = d + (p + N).toNat by omega]
  rw [e1]
  have e2 : 2 ^ d * 2 ^ (p + N).toNat = 2 ^ t * 2 ^ (N - 1074) := by
   rw [← Nat.pow_add, ← Nat.pow_add, show d + (p + N).toNat = t + (N - 1074) by omega]
  have hQ := Nat.two_pow_pos (p + N).toNat
  generalize hq : 2 ^ (p + N).toNat = Q at *
  by_cases hd : d = 0
  ·subst hd
   rw [Nat.pow_zero] at h4 h5
   have : K = n := by omega
   subst this
   exact ⟨0, by rw [Nat.pow_zero, Nat.mul_one]; exact Nat.le_refl _, by rw [Nat.pow_zero, Nat.mul_one]; exact Nat.le_refl _, .inl (by rw [Nat.zero_mul]; exact Nat.zero_le _)⟩
  ·obtain ⟨d', rfl⟩ : ∃ d', d = d' + 1 := ⟨d - 1, by omega⟩
   rw [Nat.pow_succ] at h4 h5 h7 e2 ⊢
   generalize 2 ^ d' = D at *
   refine ⟨D * Q, ?_, ?_, ?_⟩
   ·rw [← Nat.add_mul]
    exact Nat.mul_le_mul_right _ (by omega)
   ·rw [← Nat.add_mul]
    exact Nat.mul_le_mul_right _ (by omega)
   ·rcases h7 with h7 | h7
    ·right
     subst h7
     rw [Nat.pow_zero, Nat.one_mul] at e2
     rw [← e2, Nat.mul_comm D 2, Nat.mul_assoc]
     exact Nat.le_refl _
    ·left
     have h8 := Nat.mul_le_mul_right Q h7
     rw [show D * Q * 9007199254740992 = 4503599627370496 * (D * 2) * Q by rw [Nat.mul_comm (D * Q), ← Nat.mul_assoc, Nat.mul_comm D 2, ← Nat.mul_assoc]]
     exact h8
 ·have hd : d = 0 := by omega
  subst hd
  have hK := h6 hu
  have e1 : K * 2 ^ t * 2 ^ (N - 1074) = n * 2 ^ (p + N).toNat := by
   rw [hK, Nat.mul_assoc, Nat.mul_assoc, ← Nat.pow_add, ← Nat.pow_add, show u + (t + (N - 1074)) = (p + N).toNat by omega]
  rw [e1]
  exact ⟨0, Nat.le_refl _, Nat.le_refl _, .inl (by rw [Nat.zero_mul]; exact Nat.zero_le _)⟩
end Go.Bn
namespace Go.Bn
open Go
theorem fmul_vlx {x y : Nat} (hx : rung x < 9218868437227405312) (hy : rung y < 9218868437227405312) : fmul x y = Ieee.double.nearest (sgn x ^^ sgn y) (vlu x * vlu y) (-2148) := by
 have px := plc_ge x
 have py := plc_ge y
 rw [fmul_fin hx hy]
 apply nearest_eq
 rw [show min (plc x + plc y) (-2148 : Int) = -2148 by omega]
 unfold vlu
 rw [show (plc x + plc y - -2148).toNat = (plc x + 1074).toNat + (plc y + 1074).toNat by omega, Nat.pow_add]
 simp [Nat.mul_assoc, Nat.mul_left_comm]
def UU : Nat := 9007199254740992
def UV : Nat := 9007199254740991
theorem uv_lt : UV ≤ UU := by decide
theorem uu_pos : 0 < UU := by decide
theorem uv_pos : 0 < UV := by decide
structure Apx (k : Nat) (a b : Nat) : Prop where
 l : a * UV ^ k ≤ b * UU ^ k
 r : b * UV ^ k ≤ a * UU ^ k
theorem apx_refl (a : Nat) : Apx 0 a a := ⟨Nat.le_refl _, Nat.le_refl _⟩
theorem uv_pow (k : Nat) : UV ^ k ≤ UU ^ k := Nat.pow_le_pow_left uv_lt k
theorem Apx.trans {k l a b c : Nat} (h : Apx k a b) (g : Apx l b c) : Apx (k + l) a c := by
 constructor
 ·rw [Nat.pow_add, Nat.pow_add, ← Nat.mul_assoc]
  refine Nat.le_trans (Nat.mul_le_mul_right _ h.l) ?_
  rw [Nat.mul_right_comm]
  refine Nat.le_trans (Nat.mul_le_mul_right _ g.l) ?_
  rw [Nat.mul_assoc, Nat.mul_comm (UU ^ l)]
  exact Nat.le_refl _
 ·rw [Nat.pow_add, Nat.pow_add, Nat.mul_comm (UV ^ k), ← Nat.mul_assoc]
  refine Nat.le_trans (Nat.mul_le_mul_right _ g.r) ?_
  rw [Nat.mul_right_comm]
  refine Nat.le_trans (Nat.mul_le_mul_right _ h.r) ?_
  rw [Nat.mul_assoc]
  exact Nat.le_refl _
theorem mul4 (a b c d : Nat) : a * b * (c * d) = (a * c) * (b * d) := by
 rw [Nat.mul_assoc, Nat.mul_left_comm b c d, ← Nat.mul_assoc]
theorem Apx.mul {k l a b c d : Nat} (h : Apx k a b) (g : Apx l c d) : Apx (k + l) (a * c) (b * d) := by
 constructor
 ·rw [Nat.pow_add, Nat.pow_add, mul4, mul4 b]
  exact Nat.mul_le_mul h.l g.l
 ·rw [Nat.pow_add, Nat.pow_add, mul4, mul4 a]
  exact Nat.mul_le_mul h.r g.r
theorem Apx.mono {k l a b : Nat} (h : Apx k a b) (hk : k ≤ l) : Apx l a b := by
 obtain ⟨d, rfl⟩ : ∃ d, l = k + d := ⟨l - k, by omega⟩
 constructor
 ·rw [Nat.pow_add, Nat.pow_add, ← Nat.mul_assoc, ← Nat.mul_assoc]
  exact Nat.mul_le_mul h.l (uv_pow d)
 ·rw [Nat.pow_add, Nat.pow_add, ← Nat.mul_assoc, ← Nat.mul_assoc]
  exact Nat.mul_le_mul h.r (uv_pow d)
theorem Apx.cancel {k a b c : Nat} (hc : 0 < c) (h : Apx k (a * c) (b * c)) : Apx k a b := by
 constructor
 ·have := h.l
  rw [Nat.mul_right_comm, Nat.mul_right_comm b] at this
  exact Nat.le_of_mul_le_mul_right this hc
 ·have := h.r
  rw [Nat.mul_right_comm, Nat.mul_right_comm a] at this
  exact Nat.le_of_mul_le_mul_right this hc
theorem Apx.scale {k a b : Nat} (c : Nat) (h : Apx k a b) : Apx k (a * c) (b * c) := by
 have := h.mul (apx_refl c)
 rw [Nat.add_zero] at this
 exact this
theorem apx_gen {X W E U V : Nat} (hU : U = V + 1) (h1 : W ≤ X + E) (h2 : X ≤ W + E) (hE : E * U ≤ X) : W * V ≤ X * U ∧ X * V ≤ W * U := by
 subst hU
 have g1 := Nat.mul_le_mul_right V h1
 have g2 := Nat.mul_le_mul_right V h2
 have g3 := Nat.mul_le_mul_right 1 h2
 rw [Nat.add_mul] at g1 g2
 rw [Nat.mul_add, Nat.mul_one] at hE
 rw [Nat.mul_add, Nat.mul_add, Nat.mul_one, Nat.mul_one]
 generalize W * V = a at *
 generalize X * V = b at *
 generalize E * V = c at *
 constructor
 ·omega
 ·by_cases hw : c ≤ W
  ·omega
  ·omega
theorem uu_uv : UU = UV + 1 := by decide
theorem apx_err {X W E : Nat} (h1 : W ≤ X + E) (h2 : X ≤ W + E) (hE : E * UU ≤ X) : Apx 1 W X := by
 obtain ⟨a, b⟩ := apx_gen uu_uv h1 h2 hE
 exact ⟨by rw [Nat.pow_one, Nat.pow_one]; exact a, by rw [Nat.pow_one, Nat.pow_one]; exact b⟩
theorem nearest_apx {s : Bool} {n N : Nat} {p : Int} (hN : 1074 ≤ N) (hp : -(N : Int) ≤ p) (hf : rung (Ieee.double.nearest s n p) < 9218868437227405312) (hb : 4503599627370496 * 2 ^ (N - 1074) ≤ n * 2 ^ (p + N).toNat) :
  Apx 1 (vlu (Ieee.double.nearest s n p) * 2 ^ (N - 1074)) (n * 2 ^ (p + N).toNat) := by
 have hq := Nat.two_pow_pos (N - 1074)
 have hn : n ≠ 0 := by
  rintro rfl
  rw [Nat.zero_mul] at hb
  omega
 obtain ⟨E, h1, h2, h3⟩ := nearest_err hn hN hp hf
 refine apx_err h1 h2 ?_
 rcases h3 with h3 | h3
 ·exact h3
 ·have hu : UU = 2 * 4503599627370496 := by decide
  generalize 2 ^ (N - 1074) = Q at *
  generalize n * 2 ^ (p + N).toNat = X at *
  have g := Nat.mul_le_mul_right 4503599627370496 (show E * 2 ≤ Q by omega)
  rw [hu, ← Nat.mul_assoc]
  omega
theorem nf1 {s : Bool} {p : Int} : rung (Ieee.double.nearest s 0 p) < 9218868437227405312 := by
 rw [nearest_nought]
 cases s
 ·show 0 % 9223372036854775808 < _
  decide
 ·show 9223372036854775808 % 9223372036854775808 < _
  decide
theorem word_fin {s : Bool} {t K : Nat} (ht : t ≤ 2044) (hK : K ≤ 9007199254740992) : rung (Ieee.double.word s (min (t * 4503599627370496 + K) 9218868437227405312)) < 9218868437227405312 := by
 rw [(@word_parts s (min (t * 4503599627370496 + K) 9218868437227405312) (Nat.min_le_right ..)).2.1]
 omega
theorem nearest_fin {s : Bool} {n N : Nat} {p : Int} (hp : -(N : Int) ≤ p) (hb : n * 2 ^ (p + N).toNat < 2 ^ (N + 1023)) : rung (Ieee.double.nearest s n p) < 9218868437227405312 := by
 by_cases hn : n = 0
 ·subst hn
  exact nf1
 ·obtain ⟨last, hlast⟩ : ∃ last, last = max (p + (n.log2 : Int) - 52) (-1074) := ⟨_, rfl⟩
  have hw : Ieee.double.nearest s n p = Ieee.double.word s (min ((last + 1074).toNat * 4503599627370496 + Ieee.Toward.even.cut s (n <<< (p - last).toNat) (last - p).toNat) 9218868437227405312) := by
   unfold Ieee.Format.nearest
   simp only [lpE, fbE, binA, infR]
   rw [if_neg hn, show p + (n.log2 : Int) - ((52 : Nat) : Int) = p + (n.log2 : Int) - 52 by omega, ← hlast, show (last - -1074).toNat = (last + 1074).toNat by omega]
  obtain ⟨c1, c2⟩ := @cut_err s (n <<< (p - last).toNat) (last - p).toNat (shift_ne hn)
  have hlo := Nat.log2_self_le hn
  have hhi := Nat.lt_log2_self (n := n)
  generalize hK : Ieee.Toward.even.cut s (n <<< (p - last).toNat) (last - p).toNat = K at *
  rw [Nat.shiftLeft_eq] at c1 c2
  have hup : n * 2 ^ (p - last).toNat < 9007199254740992 * 2 ^ (last - p).toNat := by
   rw [← pow53, ← Nat.pow_add]
   refine Nat.lt_of_lt_of_le (Nat.mul_lt_mul_of_pos_right hhi (Nat.two_pow_pos _)) ?_
   rw [← Nat.pow_add]
   exact Nat.pow_le_pow_right (by omega) (by omega)
  have hKm : K ≤ 9007199254740992 := by
   have hdp := Nat.two_pow_pos (last - p).toNat
   generalize 2 ^ (last - p).toNat = D at *
   generalize n * 2 ^ (p - last).toNat = A at *
   by_cases hc : K ≤ 9007199254740992
   ·exact hc
   ·have := Nat.mul_le_mul_right D (show 9007199254740992 + 1 ≤ K by omega)
    rw [Nat.add_mul, Nat.one_mul] at this
    omega
  have hl : p + (n.log2 : Int) ≤ 1022 := by
   have h1 : 2 ^ (n.log2 + (p + N).toNat) < 2 ^ (N + 1023) := by
    rw [Nat.pow_add]
    exact Nat.lt_of_le_of_lt (Nat.mul_le_mul_right _ hlo) hb
   have h2 : n.log2 + (p + N).toNat < N + 1023 := (Nat.pow_lt_pow_iff_right (by omega)).1 h1
   omega
  have ht : (last + 1074).toNat ≤ 2044 := by omega
  rw [hw]
  exact word_fin ht hKm
def NZ : Nat := 1074
theorem nz : NZ = 1074 := rfl
def PZ : Nat := 2 ^ NZ
theorem pz_def : PZ = 2 ^ NZ := rfl
theorem pz_pow (a : Nat) : PZ * 2 ^ a = 2 ^ (NZ + a) := (Nat.pow_add 2 NZ a).symm
theorem pz_pos : 0 < PZ := Nat.two_pow_pos NZ
theorem pz_ge {a : Nat} (h : a ≤ NZ) : 2 ^ a ≤ PZ := Nat.pow_le_pow_right (by omega) h
theorem pz_at {N : Nat} (h : N = 2 * NZ) : 2 ^ (N - 1074) = PZ := by
 rw [show N - 1074 = NZ by rw [h, nz]]
 rfl
structure Rng (x : Nat) (k : Nat) : Prop where
 f : rung x < 9218868437227405312
 s : sgn x = false
 lo : PZ ≤ vlu x * 2 ^ k
 hi : vlu x ≤ PZ * 2 ^ k
theorem Rng.pos {x k : Nat} (h : Rng x k) : 0 < vlu x := by
 have h1 := h.lo
 rcases Nat.eq_zero_or_pos (vlu x) with h0 | h0
 ·rw [h0, Nat.zero_mul] at h1
  have := pz_pos
  omega
 ·exact h0
theorem uu_two : UU ≤ 2 * UV := by decide
theorem Apx.two {a b : Nat} (h : Apx 1 a b) : a ≤ 2 * b ∧ b ≤ 2 * a := by
 have h1 := h.l
 have h2 := h.r
 rw [Nat.pow_one, Nat.pow_one] at h1 h2
 have hv := uv_pos
 have h3 := uu_two
 constructor
 ·have h4 := Nat.mul_le_mul_left b h3
  have h5 : a * UV ≤ 2 * b * UV := by
   refine Nat.le_trans h1 (Nat.le_trans h4 (Nat.le_of_eq ?_))
   rw [← Nat.mul_assoc, Nat.mul_comm b 2]
  exact Nat.le_of_mul_le_mul_right h5 hv
 ·have h4 := Nat.mul_le_mul_left a h3
  have h5 : b * UV ≤ 2 * a * UV := by
   refine Nat.le_trans h2 (Nat.le_trans h4 (Nat.le_of_eq ?_))
   rw [← Nat.mul_assoc, Nat.mul_comm a 2]
  exact Nat.le_of_mul_le_mul_right h5 hv
theorem nearest_pos {n : Nat} {p : Int} : sgn (Ieee.double.nearest false n p) = false := by
 unfold Ieee.Format.nearest
 split
 ·exact (@word_parts false 0 (by omega)).1
 ·simp only [infR]
  exact (word_parts (Nat.min_le_right ..)).1
theorem mul_apx {x y k l : Nat} (hx : Rng x k) (hy : Rng y l) (hk : k + l ≤ 900) : Apx 1 (vlu (fmul x y) * PZ) (vlu x * vlu y) ∧ Rng (fmul x y) (k + l + 1) := by
 have e := fmul_vlx hx.f hy.f
 rw [hx.s, hy.s, Bool.xor_false] at e
 have hP := pz_pos
 have hlo : PZ * PZ ≤ vlu x * vlu y * 2 ^ (k + l) := by
  rw [Nat.pow_add, ← mul4]
  rw [mul4 (vlu x) (2 ^ k)]
  rw [mul4]
  exact Nat.mul_le_mul hx.lo hy.lo
 have hhi : vlu x * vlu y ≤ PZ * PZ * 2 ^ (k + l) := by
  rw [Nat.pow_add, ← mul4 PZ (2 ^ k)]
  exact Nat.mul_le_mul hx.hi hy.hi
 have hkl := Nat.two_pow_pos (k + l)
 have hb : 4503599627370496 * PZ ≤ vlu x * vlu y := by
  have h1 : 2 ^ 52 * 2 ^ (k + l) ≤ PZ := by
   rw [← Nat.pow_add]
   exact pz_ge (by rw [nz]; omega)
  rw [pow52] at h1
  have h2 := Nat.mul_le_mul_left PZ h1
  refine Nat.le_of_mul_le_mul_right ?_ hkl
  refine Nat.le_trans (Nat.le_of_eq ?_) (Nat.le_trans h2 hlo)
  rw [Nat.mul_comm 4503599627370496 PZ, Nat.mul_assoc]
 obtain ⟨N, hN⟩ : ∃ N, N = 2 * NZ := ⟨_, rfl⟩
 have hN2 : N = 2148 := by rw [hN, nz]
 have eX : ∀ X : Nat, X * 2 ^ ((-2148 : Int) + (N : Int)).toNat = X := fun X => by
  rw [show ((-2148 : Int) + (N : Int)).toNat = 0 by omega, Nat.pow_zero, Nat.mul_one]
 have hf : rung (fmul x y) < 9218868437227405312 := by
  rw [e]
  refine nearest_fin (N := N) (by omega) ?_
  rw [eX]
  refine Nat.lt_of_le_of_lt hhi ?_
  rw [show PZ * PZ * 2 ^ (k + l) = 2 ^ (NZ + (NZ + (k + l))) by rw [Nat.mul_assoc, pz_pow (k + l)]; exact pz_pow _]
  exact Nat.pow_lt_pow_of_lt (by omega) (by rw [hN]; omega)
 have ha : Apx 1 (vlu (fmul x y) * PZ) (vlu x * vlu y) := by
  have h1 := nearest_apx (s := false) (n := vlu x * vlu y) (N := N) (p := -2148) (by omega) (by omega) (by rw [← e]; exact hf) (by rw [eX, pz_at hN]; exact hb)
  rw [eX, ← e, pz_at hN] at h1
  exact h1
 obtain ⟨t1, t2⟩ := ha.two
 refine ⟨ha, hf, by rw [e]; exact nearest_pos, ?_, ?_⟩
 ·refine Nat.le_of_mul_le_mul_right ?_ hP
  refine Nat.le_trans hlo (Nat.le_trans (Nat.mul_le_mul_right _ t2) (Nat.le_of_eq ?_))
  rw [Nat.pow_succ]
  generalize vlu (fmul x y) = W
  generalize 2 ^ (k + l) = D
  rw [Nat.mul_comm 2 (W * PZ), Nat.mul_assoc, Nat.mul_comm 2 D, Nat.mul_assoc, Nat.mul_comm PZ, ← Nat.mul_assoc]
 ·refine Nat.le_of_mul_le_mul_right ?_ hP
  refine Nat.le_trans t1 (Nat.le_trans (Nat.mul_le_mul_left 2 hhi) (Nat.le_of_eq ?_))
  rw [Nat.pow_succ]
  generalize 2 ^ (k + l) = D
  rw [Nat.mul_comm 2, Nat.mul_assoc (PZ * PZ), Nat.mul_assoc PZ PZ, Nat.mul_assoc PZ (D * 2), Nat.mul_comm PZ (D * 2)]
end Go.Bn
namespace Go.Bn
open Go
theorem quo_err {D n : Nat} (hn : n ≠ 0) (hq : UU * n ≤ D) : Apx 1 ((2 * (D / n) + (D % n != 0).toNat) * n) (2 * D) := by
 have e := Nat.div_add_mod D n
 have hr := Nat.mod_lt D (show 0 < n by omega)
 have hE : n * UU ≤ 2 * D := by rw [Nat.mul_comm]; omega
 generalize D / n = q at *
 generalize hrr : D % n = r at *
 rw [Nat.mul_comm n q] at e
 refine apx_err (E := n) ?_ ?_ hE
 ·rw [Nat.add_mul, Nat.mul_assoc]
  cases (r != 0) <;> simp only [Bool.toNat_false, Bool.toNat_true, Nat.zero_mul, Nat.one_mul] <;> omega
 ·rw [Nat.add_mul, Nat.mul_assoc]
  by_cases h0 : r = 0
  ·subst h0
   simp
   omega
  ·rw [show (r != 0) = true by simp [h0]]
   simp only [Bool.toNat_true, Nat.one_mul]
   omega
theorem uu53 : UU = 2 ^ 53 := by decide
theorem quo_big {m n : Nat} (hm : m ≠ 0) (hn : n ≠ 0) (hl : m.log2 ≤ 54 + n.log2) : UU * n ≤ m <<< (54 + n.log2 - m.log2) := by
 rw [Nat.shiftLeft_eq, uu53]
 have h1 := Nat.log2_self_le hm
 have h2 := Nat.lt_log2_self (n := n)
 refine Nat.le_trans (Nat.mul_le_mul_left _ (Nat.le_of_lt h2)) ?_
 rw [← Nat.pow_add]
 refine Nat.le_trans ?_ (Nat.mul_le_mul_right _ h1)
 rw [← Nat.pow_add]
 exact Nat.pow_le_pow_right (by omega) (by omega)
theorem mgn_pos {x : Nat} (h : 0 < vlu x) : mgn x ≠ 0 := by
 intro e
 unfold vlu at h
 rw [e, Nat.zero_mul] at h
 omega
theorem mgn_log {x : Nat} : (mgn x).log2 ≤ 52 := by
 by_cases h0 : mgn x = 0
 ·rw [h0]; decide
 ·have := (Nat.log2_lt h0 (k := 53)).2 (mgn_lt x); omega
theorem fdiv_read {x y : Nat} (hx : rung x < 9218868437227405312) (hy : rung y < 9218868437227405312) (hn : mgn y ≠ 0) :
  fdiv x y = Ieee.double.nearest (sgn x ^^ sgn y) (2 * ((mgn x <<< (54 + (mgn y).log2 - (mgn x).log2)) / mgn y) + ((mgn x <<< (54 + (mgn y).log2 - (mgn x).log2)) % mgn y != 0).toNat) (plc x - plc y - ((54 + (mgn y).log2 - (mgn x).log2 : Nat) : Int) - 1) := by
 unfold fdiv Ieee.Format.div
 rw [read_fin hx, read_fin hy]
 simp only [Ieee.Datum.quotient]
 rw [if_neg hn, fbE]
 rfl
theorem pow_shift (m more s : Nat) : 2 * (m * 2 ^ more) * 2 ^ s = m * 2 ^ (more + 1 + s) := by
 rw [Nat.pow_add, Nat.pow_succ]
 generalize 2 ^ more = a
 generalize 2 ^ s = b
 simp only [Nat.mul_assoc, Nat.mul_comm, Nat.mul_left_comm]
end Go.Bn
namespace Go.Bn
open Go
theorem rootFrom_ok {n : Nat} : ∀ {todo root : Nat}, root * root ≤ n → n < (root + 2 ^ todo) * (root + 2 ^ todo) → Ieee.Datum.rootFrom n todo root * Ieee.Datum.rootFrom n todo root ≤ n ∧ n < (Ieee.Datum.rootFrom n todo root + 1) * (Ieee.Datum.rootFrom n todo root + 1)
 | 0, root, h1, h2 => by
  rw [Ieee.Datum.rootFrom]
  exact ⟨h1, h2⟩
 | todo + 1, root, h1, h2 => by
  rw [Ieee.Datum.rootFrom]
  simp only [Nat.shiftLeft_eq, Nat.one_mul]
  split
  ·rename_i h
   refine rootFrom_ok h ?_
   rw [Nat.add_assoc, show 2 ^ todo + 2 ^ todo = 2 ^ (todo + 1) by rw [Nat.pow_succ]; omega]
   exact h2
  ·rename_i h
   exact rootFrom_ok h1 (by omega)
theorem root_start (n : Nat) (hn : n ≠ 0) : n < (0 + 2 ^ (n.log2 / 2 + 1)) * (0 + 2 ^ (n.log2 / 2 + 1)) := by
 rw [Nat.zero_add, ← Nat.pow_add]
 exact Nat.lt_of_lt_of_le (Nat.lt_log2_self (n := n)) (Nat.pow_le_pow_right (by omega) (by omega))
theorem sq_lt {a b : Nat} (h : a * a < (b + 1) * (b + 1)) : a ≤ b := by
 by_cases hc : a ≤ b
 ·exact hc
 ·have := Nat.mul_le_mul (show b + 1 ≤ a by omega) (show b + 1 ≤ a by omega)
  omega
theorem sq_le' {a b : Nat} (h : a * a ≤ b * b) : a ≤ b := by
 by_cases hc : a ≤ b
 ·exact hc
 ·have := Nat.mul_le_mul (show b + 1 ≤ a by omega) (show b + 1 ≤ a by omega)
  have e : (b + 1) * (b + 1) = b * b + b + b + 1 := by rw [Nat.add_mul, Nat.mul_add]; omega
  omega
theorem root_err {n w : Nat} (h1 : w * w ≤ n) (h2 : n < (w + 1) * (w + 1)) (hw : UU ≤ w) : Apx 1 ((2 * w + (w * w != n).toNat) * (2 * w + (w * w != n).toNat)) (4 * n) := by
 have e : (w + 1) * (w + 1) = w * w + w + w + 1 := by rw [Nat.add_mul, Nat.mul_add]; omega
 have e2 : (2 * w + 1) * (2 * w + 1) = 4 * (w * w) + 2 * w + 2 * w + 1 := by
  rw [Nat.add_mul, Nat.mul_add, mul4]; omega
 have hE : 4 * w * UU ≤ 4 * n := by
  rw [Nat.mul_assoc]
  exact Nat.mul_le_mul_left 4 (Nat.le_trans (Nat.mul_le_mul_left w hw) h1)
 by_cases h0 : w * w = n
 ·rw [show (w * w != n) = false by simp [h0]]
  simp only [Bool.toNat_false, Nat.add_zero]
  rw [mul4, h0]
  exact (apx_refl _).mono (by omega)
 ·rw [show (w * w != n) = true by simp [h0]]
  simp only [Bool.toNat_true]
  rw [e2]
  rw [e] at h2
  generalize w * w = s at *
  exact apx_err (E := 4 * w) (by omega) (by omega) hE
theorem fsqrt_read {x : Nat} (hx : rung x < 9218868437227405312) (hs : sgn x = false) (hm : mgn x ≠ 0) : ∃ more w : Nat, 108 ≤ (mgn x).log2 + more ∧ more ≤ 109 ∧ (plc x - (more : Int)) % 2 = 0 ∧ w * w ≤ mgn x * 2 ^ more ∧ mgn x * 2 ^ more < (w + 1) * (w + 1) ∧
  fsqrt x = Ieee.double.nearest false (2 * w + (w * w != mgn x * 2 ^ more).toNat) ((plc x - (more : Int)) / 2 - 1) := by
 have hl := @mgn_log x
 obtain ⟨m0, h0⟩ : ∃ m0, m0 = 2 * 54 - (mgn x).log2 := ⟨_, rfl⟩
 obtain ⟨more, hmore⟩ : ∃ more, more = m0 + ((plc x - (m0 : Int)) % 2).toNat := ⟨_, rfl⟩
 have hn : mgn x <<< more ≠ 0 := shift_ne hm
 obtain ⟨r1, r2⟩ := rootFrom_ok (n := mgn x <<< more) (todo := (mgn x <<< more).log2 / 2 + 1) (root := 0) (by rw [Nat.zero_mul]; exact Nat.zero_le _) (root_start _ hn)
 refine ⟨more, Ieee.Datum.rootFrom (mgn x <<< more) ((mgn x <<< more).log2 / 2 + 1) 0, by omega, by omega, by omega, ?_, ?_, ?_⟩
 ·rw [Nat.shiftLeft_eq] at r1 ⊢; exact r1
 ·rw [Nat.shiftLeft_eq] at r2 ⊢; exact r2
 ·unfold fsqrt Ieee.Format.sqrt
  rw [read_fin hx, hs]
  simp only [Ieee.Datum.root]
  rw [if_neg hm, if_neg (by decide), fbE]
  simp only [show (52 : Nat) + 2 = 54 from rfl, ← h0, ← hmore]
  rw [← Nat.shiftLeft_eq]
  rfl
end Go.Bn
namespace Go.Bn
open Go
theorem pow_shift' (m more s : Nat) : 2 * (2 * (m * 2 ^ more) * 2 ^ s) = m * 2 ^ (more + 2 + s) := by
 rw [pow_shift, show more + 2 + s = more + 1 + s + 1 by omega, Nat.pow_succ 2 (more + 1 + s)]
 generalize 2 ^ (more + 1 + s) = a
 simp only [Nat.mul_assoc, Nat.mul_comm, Nat.mul_left_comm]
theorem sqrt_apx {x k : Nat} (hx : Rng x k) (hk : k ≤ 900) : Apx 3 (vlu (fsqrt x) * vlu (fsqrt x)) (vlu x * PZ) ∧ Rng (fsqrt x) (k + 2) := by
 have hm := mgn_pos hx.pos
 have hP := pz_pos
 have px := plc_ge x
 have px2 := plc_le hx.f
 obtain ⟨more, w, m1, m2, m3, r1, r2, e⟩ := fsqrt_read hx.f hx.s hm
 have hlo := Nat.log2_self_le hm
 have hw : UU ≤ w := by
  have h1 : UU * UU ≤ mgn x * 2 ^ more := by
   rw [uu53, ← Nat.pow_add]
   refine Nat.le_trans ?_ (Nat.mul_le_mul_right _ hlo)
   rw [← Nat.pow_add]
   exact Nat.pow_le_pow_right (by omega) (by omega)
  exact sq_lt (Nat.lt_of_le_of_lt h1 r2)
 have hq := root_err r1 r2 hw
 obtain ⟨Q, hQ⟩ : ∃ Q, Q = 2 * w + (w * w != mgn x * 2 ^ more).toNat := ⟨_, rfl⟩
 obtain ⟨p, hp⟩ : ∃ p, p = (plc x - (more : Int)) / 2 - 1 := ⟨_, rfl⟩
 rw [← hQ] at hq
 rw [← hQ, ← hp] at e
 have hp2 : 2 * p = plc x - (more : Int) - 2 := by omega
 obtain ⟨N, hN⟩ : ∃ N, N = 3 * NZ := ⟨_, rfl⟩
 have hN2 : N = 3222 := by rw [hN, nz]
 have hpN : -(N : Int) ≤ p := by omega
 have eP2 : 2 ^ (N - 1074) = PZ * PZ := by
  rw [show N - 1074 = NZ + NZ by rw [hN, nz], Nat.pow_add, ← pz_def]
 -- the square of what is rounded
 have hX : Apx 1 (Q * 2 ^ (p + N).toNat * (Q * 2 ^ (p + N).toNat)) (vlu x * (PZ * PZ * PZ * PZ * PZ)) := by
  have h1 := hq.scale (2 ^ ((p + N).toNat + (p + N).toNat))
  have e1 : Q * Q * 2 ^ ((p + N).toNat + (p + N).toNat) = Q * 2 ^ (p + N).toNat * (Q * 2 ^ (p + N).toNat) := by
   rw [Nat.pow_add]
   exact mul4 _ _ _ _
  have e3 : PZ * PZ * PZ * PZ * PZ = 2 ^ (5 * NZ) := by
   rw [show 5 * NZ = NZ + NZ + NZ + NZ + NZ by omega, Nat.pow_add, Nat.pow_add, Nat.pow_add, Nat.pow_add, ← pz_def]
  have e2 : 4 * (mgn x * 2 ^ more) * 2 ^ ((p + N).toNat + (p + N).toNat) = vlu x * (PZ * PZ * PZ * PZ * PZ) := by
   rw [e3]
   unfold vlu
   rw [show (4 : Nat) = 2 * 2 by omega, Nat.mul_assoc 2 2, Nat.mul_assoc 2, pow_shift', Nat.mul_assoc (mgn x), ← Nat.pow_add]
   rw [show more + 2 + ((p + N).toNat + (p + N).toNat) = (plc x + 1074).toNat + 5 * NZ by rw [nz]; omega]
  rw [e1, e2] at h1
  exact h1
 generalize hXX : Q * 2 ^ (p + N).toNat = X at *
 obtain ⟨x1, x2⟩ := hX.two
 have hXlo : PZ * PZ * PZ ≤ X * 2 ^ (k + 1) := by
  apply sq_le'
  have g1 := Nat.mul_le_mul_right (PZ * PZ * PZ * PZ * PZ) hx.lo
  have g2 := Nat.mul_le_mul_right (2 ^ k) x2
  refine Nat.le_trans (Nat.le_of_eq ?_) (Nat.le_trans g1 (Nat.le_trans (Nat.le_of_eq ?_) (Nat.le_trans g2 ?_)))
  ·simp only [Nat.mul_assoc, Nat.mul_comm, Nat.mul_left_comm]
  ·simp only [Nat.mul_assoc, Nat.mul_comm, Nat.mul_left_comm]
  ·rw [Nat.pow_succ]
   have h1 := Nat.two_pow_pos k
   generalize 2 ^ k = a at *
   have e5 : X * (a * 2) * (X * (a * 2)) = X * X * (a * (4 * a)) := by simp only [show (4 : Nat) = 2 * 2 by omega, Nat.mul_assoc, Nat.mul_comm, Nat.mul_left_comm]
   rw [e5, Nat.mul_comm 2 (X * X), Nat.mul_assoc]
   refine Nat.mul_le_mul_left _ ?_
   have := Nat.mul_le_mul_left a (show 1 ≤ a by omega)
   have e6 : a * (4 * a) = 4 * (a * a) := Nat.mul_left_comm ..
   omega
 have hXhi : X ≤ PZ * PZ * PZ * 2 ^ (k + 1) := by
  apply sq_le'
  have g3 := Nat.mul_le_mul_right (PZ * PZ * PZ * PZ * PZ * 2) hx.hi
  refine Nat.le_trans x1 (Nat.le_trans (Nat.le_of_eq ?_) (Nat.le_trans g3 ?_))
  ·simp only [Nat.mul_assoc, Nat.mul_comm, Nat.mul_left_comm]
  ·rw [Nat.pow_succ]
   have h1 := Nat.two_pow_pos k
   generalize 2 ^ k = a at *
   have e5 : PZ * PZ * PZ * (a * 2) * (PZ * PZ * PZ * (a * 2)) = PZ * PZ * PZ * PZ * PZ * PZ * (4 * (a * a)) := by simp only [show (4 : Nat) = 2 * 2 by omega, Nat.mul_assoc, Nat.mul_comm, Nat.mul_left_comm]
   have e6 : PZ * a * (PZ * PZ * PZ * PZ * PZ * 2) = PZ * PZ * PZ * PZ * PZ * PZ * (2 * a) := by simp only [Nat.mul_assoc, Nat.mul_comm, Nat.mul_left_comm]
   rw [e5, e6]
   refine Nat.mul_le_mul_left _ ?_
   have := Nat.mul_le_mul_left a (show 1 ≤ a by omega)
   omega
 have hb : 4503599627370496 * 2 ^ (N - 1074) ≤ X := by
  rw [eP2]
  have h1 : 2 ^ 52 * 2 ^ (k + 1) ≤ PZ := by
   rw [← Nat.pow_add]
   exact pz_ge (by rw [nz]; omega)
  rw [pow52] at h1
  refine Nat.le_of_mul_le_mul_right ?_ (Nat.two_pow_pos (k + 1))
  refine Nat.le_trans (Nat.le_of_eq ?_) (Nat.le_trans (Nat.mul_le_mul_left (PZ * PZ) h1) hXlo)
  rw [Nat.mul_comm 4503599627370496, Nat.mul_assoc]
 have eP : PZ * PZ * PZ = 2 ^ N := by
  rw [hN, show 3 * NZ = NZ + NZ + NZ by omega, Nat.pow_add, Nat.pow_add, ← pz_def]
 have hf : rung (fsqrt x) < 9218868437227405312 := by
  rw [e]
  refine nearest_fin (N := N) hpN ?_
  rw [hXX]
  refine Nat.lt_of_le_of_lt hXhi ?_
  rw [eP, ← Nat.pow_add]
  exact Nat.pow_lt_pow_of_lt (by omega) (by omega)
 have hW : Apx 1 (vlu (fsqrt x) * (PZ * PZ)) X := by
  have h1 := nearest_apx (s := false) (n := Q) (N := N) (p := p) (by omega) hpN (by rw [← e]; exact hf) (by rw [hXX]; exact hb)
  rw [hXX, ← e, eP2] at h1
  exact h1
 have ha : Apx 3 (vlu (fsqrt x) * vlu (fsqrt x)) (vlu x * PZ) := by
  have h1 := (hW.mul hW).trans hX
  refine Apx.cancel (c := PZ * PZ * (PZ * PZ)) (Nat.mul_pos (Nat.mul_pos hP hP) (Nat.mul_pos hP hP)) ?_
  have e7 : vlu x * PZ * (PZ * PZ * (PZ * PZ)) = vlu x * (PZ * PZ * PZ * PZ * PZ) := by simp only [Nat.mul_assoc]
  rw [e7, ← mul4]
  exact h1
 obtain ⟨t1, t2⟩ := hW.two
 refine ⟨ha, hf, by rw [e]; exact nearest_pos, ?_, ?_⟩
 ·refine Nat.le_of_mul_le_mul_right ?_ (Nat.mul_pos hP hP)
  refine Nat.le_trans (Nat.le_of_eq (Nat.mul_assoc _ _ _).symm) (Nat.le_trans hXlo (Nat.le_trans (Nat.mul_le_mul_right _ t2) (Nat.le_of_eq ?_)))
  rw [Nat.pow_succ 2 (k + 1)]
  generalize vlu (fsqrt x) = W
  generalize 2 ^ (k + 1) = D
  simp only [Nat.mul_assoc, Nat.mul_comm, Nat.mul_left_comm]
 ·refine Nat.le_of_mul_le_mul_right ?_ (Nat.mul_pos hP hP)
  refine Nat.le_trans t1 (Nat.le_trans (Nat.mul_le_mul_left 2 hXhi) (Nat.le_of_eq ?_))
  rw [Nat.pow_succ 2 (k + 1)]
  generalize 2 ^ (k + 1) = D
  simp only [Nat.mul_assoc, Nat.mul_comm, Nat.mul_left_comm]
end Go.Bn
