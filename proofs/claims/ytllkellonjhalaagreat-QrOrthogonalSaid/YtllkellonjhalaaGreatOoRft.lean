/-
 Mirrors and lengths as the reference has them, of numbers finite or not.
-/
import Derived.Test.YtllkellonjhalaaGreatOoLdx
set_option linter.unusedVariables false
set_option linter.unusedSimpArgs false
namespace Go.Bn
open Go
def boolp : SP := ⟨fun v _ => ∃ b, v = .bool b, fun _ _ _ _ h => h⟩
theorem sb_boolp {Γ : Facts} {b : Bool} : Sb Γ (isv (.bool b)) boolp := fun v c _ h => ⟨b, h.1⟩
section ops
variable {P : Program} {n : Nat} {ops : Array Oper} {Γ : Facts} {ρ : Env} {δ : VEnv} {τ : List VR}
variable {d : Nat} {ty : TypeId} {pos : String} {af : Array Edge}
theorem op_notA {x : Operand} {t : TypeId} (hx : Lk Γ δ ρ x boolp) : OpOK P n ops Γ ρ δ τ ⟨some d, .unOp .not t x, ty, pos, af, none⟩ .no (.c boolp) dum :=
 ok_pure fun A c _ hr => by
  obtain ⟨b, h1⟩ := hr x _ (by simp [Op.operands]) hx
  exact ⟨.bool (!b), by simp [execOp, Op.unary, h1], !b, rfl⟩
end ops
theorem J_condA {X : Cx} {Γ : Facts} {ρ : Env} {σ : List Res} {Q : Exit → Act → World → Prop} {x : Operand} {thn els : Code} (hx : Lk Γ [] ρ x boolp) (h1 : J X Γ ρ σ thn Q) (h2 : J X Γ ρ σ els Q) : J X Γ ρ σ (.cond x thn els) Q :=
 J_cond' fun a c hs => by
  obtain ⟨b, hb⟩ := hx.holds hs.facts hs.env
  exact ⟨b, hb, fun _ => h1 a c hs, fun _ => h2 a c hs⟩
def Nf (x : Nat) : Prop := ¬ rung x < 9218868437227405312
theorem nf_dec {x : Nat} (hx : x < 2 ^ 64) : Nf x ↔ finB x = false := by
 unfold Nf
 rw [← finB_iff hx]
 simp
theorem nf_add1 {x y : Nat} (h : Nf x) : Nf (fadd x y) := fun h2 => h (fadd_fin2 h2).1
theorem nf_add2 {x y : Nat} (h : Nf y) : Nf (fadd x y) := fun h2 => h (fadd_fin2 h2).2
theorem nf_mul1 {x y : Nat} (h : Nf x) : Nf (fmul x y) := fun h2 => h (fmul_fin2 h2).1
theorem nf_sub1 {x y : Nat} (h : Nf x) : Nf (fsub x y) := by
 unfold fsub Ieee.Format.sub
 exact (sum_not (read_not h)).1
theorem nf_sqrt {x : Nat} (h : Nf x) : Nf (fsqrt x) := by
 unfold fsqrt Ieee.Format.sqrt
 rcases read_not h with ⟨s, h⟩ | h
 ·rw [h]
  cases s
  ·exact inf_not false
  ·exact nan_not
 ·cases hd : Ieee.double.read x with
  | number => rw [hd] at h; cases h
  | infinity => rw [hd] at h; cases h
  | nan s f => exact nan_not
theorem nf_neg {x : Nat} (hx : x < 2 ^ 64) (h : Nf x) : Nf (fneg x) := by
 unfold fneg
 split
 ·exact nan_not
 ·unfold Nf rung at h ⊢
  split
  ·rename_i hs
   have : x / 9223372036854775808 = 1 := by
    have h2 : x / 9223372036854775808 < 2 := by omega
    have h3 : x / 9223372036854775808 ≠ 0 := fun e => by unfold sgn at hs; rw [e] at hs; cases hs
    omega
   omega
  ·omega
theorem nf_ldx {x : Nat} {k : Int} (hx : x < 2 ^ 64) (hc : cn x = x) (h : Nf x) : ldx x k = x := by
 by_cases hn : nanB x = true
 ·rw [← hc, cn_of_nan hn]; exact ldx_NAN
 ·refine ldx_inf hx ?_
  have hn' : nanB x = false := by simpa using hn
  rw [nanB_iff] at hn'
  have := of_decide_eq_false hn'
  unfold Nf at h
  unfold rung at h ⊢
  omega
theorem ford_nf {x : Nat} (h : Nf x) : ford x 0 ≠ some .eq := by
 unfold ford Ieee.Format.order
 rw [show Ieee.double.read 0 = .number false 0 (-1074) by decide +kernel]
 rcases read_not h with ⟨s, h⟩ | h
 ·rw [h]; cases s <;> decide
 ·cases hd : Ieee.double.read x with
  | number => rw [hd] at h; cases h
  | infinity => rw [hd] at h; cases h
  | nan s f => simp [Ieee.Datum.order]
theorem nf_eql {x : Nat} (h : Nf x) : fcmp .eql x 0 = false := by
 show (ford x 0 == some .eq) = false
 have := ford_nf h
 simpa using this
theorem nf_fabs {x : Nat} (hx : x < 2 ^ 64) (h : Nf x) : Nf (fabs x) := by
 unfold fabs
 split
 ·exact nan_not
 ·unfold Nf rung at h ⊢
  omega
theorem fabs_lt {x : Nat} (hx : x < 2 ^ 64) : fabs x < 2 ^ 64 := by
 unfold fabs
 split
 ·exact NAN_lt
 ·omega
theorem fmax_nf {x y : Nat} (h : Nf x ∨ Nf y) (hx : nanB x = true ∨ sgn x = false) (hy : nanB y = true ∨ sgn y = false) (lx : x < 2 ^ 64) (ly : y < 2 ^ 64) : Nf (fmax x y) := by
  unfold fmax
  cases ho : ford x y with
  | none => exact nan_not
  | some o =>
    have nx : nanB x = false := by
      cases hc : nanB x
      · rfl
      · rw [ford_nan (.inl hc)] at ho; cases ho
    have ny : nanB y = false := by
      cases hc : nanB y
      · rfl
      · rw [ford_nan (.inr hc)] at ho; cases ho
    have sx : sgn x = false := by rcases hx with hx | hx; · rw [nx] at hx; cases hx
                                  · exact hx
    have sy : sgn y = false := by rcases hy with hy | hy; · rw [ny] at hy; cases hy
                                  · exact hy
    have rx : rung x = x := by
      unfold sgn at sx
      unfold rung
      have : x / 9223372036854775808 ≠ 1 := fun e => by rw [e] at sx; cases sx
      omega
    have ry : rung y = y := by
      unfold sgn at sy
      unfold rung
      have : y / 9223372036854775808 ≠ 1 := fun e => by rw [e] at sy; cases sy
      omega
    rw [nanB_iff] at nx ny
    have nx := of_decide_eq_false nx
    have ny := of_decide_eq_false ny
    by_cases hf : rung x < 9218868437227405312
    · have hyn : Nf y := h.resolve_left fun h => h hf
      have : rung y = 9218868437227405312 := by unfold Nf at hyn; unfold rung at hyn ⊢; omega
      have e : o = .lt := by
        unfold ford Ieee.Format.order at ho
        rw [read_fin hf, read_inf this, sy] at ho
        simp [Ieee.Datum.order] at ho
        exact ho.symm
      rw [e]
      exact hyn
    · have : rung x = 9218868437227405312 := by unfold rung at hf ⊢; omega
      by_cases hg : rung y < 9218868437227405312
      · have e : o = .gt := by
          unfold ford Ieee.Format.order at ho
          rw [read_fin hg, read_inf this, sx] at ho
          simp [Ieee.Datum.order] at ho
          exact ho.symm
        rw [e]
        exact hf
      · have : rung y = 9218868437227405312 := by unfold rung at hg ⊢; omega
        have e : x = y := by omega
        rw [← e]
        cases o
        · exact hf
        · show Nf (if _ then x else x); split <;> exact hf
        · exact hf
def frxG (x : Nat) : Int := if finB x = true then frxE x else 0
def powG (xs : List Nat) : Int := if powB xs = true then frxG (maxL xs) - 1 else 0
def rglsL (xs : List Nat) : Gls := if powB xs = true then glsOf (sclL xs (powG xs)) (sclN xs (powG xs)) (powG xs) else ⟨List.replicate xs.length 0, 0, 0⟩
theorem powG_rng (xs : List Nat) : -1075 ≤ powG xs ∧ powG xs ≤ 1024 := by
 unfold powG frxG
 have := frx_rng (maxL xs)
 split
 ·split <;> omega
 ·omega
theorem powG_fin {xs : List Nat} (hF : FinL xs) : powG xs = powK xs := by
 unfold powG powK frxG
 rw [if_pos (show finB (maxL xs) = true from (maxTo_fin hF _).2)]
theorem rgls_fin {xs : List Nat} (hF : FinL xs) : rglsL xs = houseL xs := by
 unfold rglsL houseL
 rw [powG_fin hF]
theorem maxTo_lt {xs : List Nat} (h : ∀ k, xs.getD k 0 < 2 ^ 64) : ∀ k, maxTo xs k < 2 ^ 64
 | 0 => by show 0 < 2 ^ 64; decide
 | k + 1 => by
  have h1 := maxTo_lt h k
  have h2 := fabs_lt (h k)
  show fmax (maxTo xs k) (fabs (xs.getD k 0)) < 2 ^ 64
  unfold fmax
  split
  ·exact NAN_lt
  ·exact h2
  ·exact h1
  ·split
   ·exact h2
   ·exact h1
theorem powG_2 {xs : List Nat} (hb : powB xs = true) (hf : finB (maxL xs) = false) : (0 : Int) - 1 = powG xs := by unfold powG frxG; rw [if_pos hb, if_neg (by rw [hf]; decide)]
theorem powG_0 {xs : List Nat} (hb : powB xs = false) : (0 : Int) = powG xs := by unfold powG; rw [if_neg (by rw [hb]; decide)]
theorem gls_0 {xs : List Nat} (h : powB xs = false) : rglsL xs = ⟨List.replicate xs.length 0, 0, 0⟩ := by unfold rglsL; rw [if_neg (by rw [h]; decide)]
theorem gls_s {xs : List Nat} (h : powB xs = true) (hs : sgn ((sclL xs (powG xs)).getD 0 0) = true) : rglsL xs = ⟨(sclL xs (powG xs)).set 0 (fsub ((sclL xs (powG xs)).getD 0 0) (sclN xs (powG xs))), fmul (sclN xs (powG xs)) (fadd (sclN xs (powG xs)) (fabs ((sclL xs (powG xs)).getD 0 0))), ldx (sclN xs (powG xs)) (powG xs)⟩ := by
 unfold rglsL glsOf; rw [if_pos h]; simp only [hs, if_true]
theorem gls_n {xs : List Nat} (h : powB xs = true) (hs : sgn ((sclL xs (powG xs)).getD 0 0) = false) : rglsL xs = ⟨(sclL xs (powG xs)).set 0 (fsub ((sclL xs (powG xs)).getD 0 0) (fneg (sclN xs (powG xs)))), fmul (sclN xs (powG xs)) (fadd (sclN xs (powG xs)) (fabs ((sclL xs (powG xs)).getD 0 0))), ldx (fneg (sclN xs (powG xs))) (powG xs)⟩ := by
 unfold rglsL glsOf; rw [if_pos h]; simp only [hs, Bool.false_eq_true, if_false]
theorem dot_nf {xs ys : List Nat} {i : Nat} : ∀ {k}, i < k → Nf (fmul (xs.getD i 0) (ys.getD i 0)) → Nf (dotTo xs ys k)
 | 0, h, _ => absurd h (Nat.not_lt_zero _)
 | k + 1, h, hn => by
  show Nf (fadd (dotTo xs ys k) (fmul (xs.getD k 0) (ys.getD k 0)))
  by_cases e : i = k
  ·rw [← e]; exact nf_add2 hn
  ·exact nf_add1 (dot_nf (by omega) hn)
theorem fadd_nan1 {x y : Nat} (h : nanB x = true) : fadd x y = NAN := by
 unfold fadd Ieee.Format.add
 have h1 : (Ieee.double.read x).isNaN = true := h
 cases hd : Ieee.double.read x with
 | number => rw [hd] at h1; cases h1
 | infinity => rw [hd] at h1; cases h1
 | nan => rfl
theorem fadd_nan2 {x y : Nat} (h : nanB y = true) : fadd x y = NAN := by
 unfold fadd Ieee.Format.add
 have h1 : (Ieee.double.read y).isNaN = true := h
 cases hd : Ieee.double.read y with
 | number => rw [hd] at h1; cases h1
 | infinity => rw [hd] at h1; cases h1
 | nan => cases Ieee.double.read x <;> rfl
theorem fmul_nan1 {x y : Nat} (h : nanB x = true) : fmul x y = NAN := by
 unfold fmul Ieee.Format.mul
 have h1 : (Ieee.double.read x).isNaN = true := h
 cases hd : Ieee.double.read x with
 | number => rw [hd] at h1; cases h1
 | infinity => rw [hd] at h1; cases h1
 | nan => rfl
theorem fsqrt_nan {x : Nat} (h : nanB x = true) : fsqrt x = NAN := by
 unfold fsqrt Ieee.Format.sqrt
 have h1 : (Ieee.double.read x).isNaN = true := h
 cases hd : Ieee.double.read x with
 | number => rw [hd] at h1; cases h1
 | infinity => rw [hd] at h1; cases h1
 | nan => rfl
theorem dot_nanAt {xs ys : List Nat} {i : Nat} : ∀ {k}, i < k → fmul (xs.getD i 0) (ys.getD i 0) = NAN → dotTo xs ys k = NAN
 | 0, h, _ => absurd h (Nat.not_lt_zero _)
 | k + 1, h, hn => by
  show fadd (dotTo xs ys k) (fmul (xs.getD k 0) (ys.getD k 0)) = NAN
  by_cases e : i = k
  ·rw [← e, hn]; exact fadd_nan2 nanB_NAN
  ·rw [dot_nanAt (by omega) hn]; exact fadd_nan1 nanB_NAN
theorem scl_nan {xs : List Nat} {k : Int} (h : 0 < xs.length) (hn : nanB ((sclL xs k).getD 0 0) = true) : sclN xs k = NAN := by
 unfold sclN dotL
 rw [dot_nanAt (i := 0) (by rw [length_sclL]; exact h) (fmul_nan1 hn)]
 exact fsqrt_nan nanB_NAN
theorem fneg_nan : fneg NAN = NAN := by decide +kernel
theorem sgn_nan {x : Nat} (hc : cn x = x) (h : nanB x = true) : sgn x = false := by rw [← hc, cn_of_nan h]; decide
theorem ldx_cn {x : Nat} {k : Int} (hx : x < 2 ^ 64) (hc : cn x = x) (k0 : -5000 ≤ k) (k1 : k ≤ 5000) : cn (ldx x k) = ldx x k := by
 rw [← tms_ldx hx hc k0 k1, cn_cn]
def CnL (xs : List Nat) : Prop := ∀ k, xs.getD k 0 < 2 ^ 64 ∧ cn (xs.getD k 0) = xs.getD k 0
theorem scl_at0 {xs : List Nat} {k : Int} {i : Nat} (h : i < xs.length) : (sclL xs k).getD i 0 = ldx (xs.getD i 0) (-k) := by
 unfold sclL
 rw [List.getD, List.getElem?_map, List.getElem?_eq_getElem h, List.getD, List.getElem?_eq_getElem h]
 rfl
theorem gls_nan {xs : List Nat} (hC : CnL xs) (h : powB xs = true) (hn : nanB ((sclL xs (powG xs)).getD 0 0) = true) : rglsL xs = ⟨(sclL xs (powG xs)).set 0 (fsub ((sclL xs (powG xs)).getD 0 0) NAN), fmul NAN (fadd NAN (fabs ((sclL xs (powG xs)).getD 0 0))), ldx NAN (powG xs)⟩ := by
 have h0 := powB_pos h
 have hg := scl_nan h0 hn
 have hr := powG_rng xs
 have hs : sgn ((sclL xs (powG xs)).getD 0 0) = false := by
  refine sgn_nan ?_ hn
  rw [scl_at0 h0]
  exact ldx_cn (hC 0).1 (hC 0).2 (by omega) (by omega)
 rw [gls_n h hs, hg, fneg_nan]
end Go.Bn
