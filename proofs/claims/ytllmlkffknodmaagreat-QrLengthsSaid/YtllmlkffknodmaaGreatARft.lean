/-
  Mirrors and lengths as the reference has them, of numbers finite or not.
-/
import Derived.Test.YtllmlkffknodmaaGreatALdx
set_option linter.unusedVariables false
set_option linter.unusedSimpArgs false
namespace Go.Bn
open Go
/-! ## A bool that may be either -/
def boolp : SP := ⟨fun v _ => ∃ b, v = .bool b, fun _ _ _ _ h => h⟩
theorem sb_boolp {Γ : Facts} {b : Bool} : Sb Γ (isv (.bool b)) boolp := fun v c _ h => ⟨b, h.1⟩
section ops
variable {P : Program} {n : Nat} {ops : Array Oper} {Γ : Facts} {ρ : Env} {δ : VEnv} {τ : List VR}
variable {d : Nat} {ty : TypeId} {pos : String} {af : Array Edge}
theorem op_notA {x : Operand} {t : TypeId} (hx : Lk Γ δ ρ x boolp) : OpOK P n ops Γ ρ δ τ ⟨some d, .unOp .not t x, ty, pos, af, none⟩ .no (.c boolp) dum :=
  ok_pure fun A c _ hr => by
    obtain ⟨b, h1⟩ := hr x _ (by simp [Op.operands]) hx
    exact ⟨.bool (!b), by simp [execOp, Op.unary, h1], !b, rfl⟩
end ops
theorem J_condA {X : Cx} {Γ : Facts} {ρ : Env} {σ : List Res} {Q : Exit → Act → World → Prop} {x : Operand} {thn els : Code} (hx : Lk Γ [] ρ x boolp) (h1 : J X Γ ρ σ thn Q) (h2 : J X Γ ρ σ els Q) : J X Γ ρ σ (.cond x thn els) Q :=
  J_cond' fun a c hs => by
    obtain ⟨b, hb⟩ := hx.holds hs.facts hs.env
    exact ⟨b, hb, fun _ => h1 a c hs, fun _ => h2 a c hs⟩
/-! ## What is not finite stays so -/
theorem fabs_lt {x : Nat} (hx : x < 2 ^ 64) : fabs x < 2 ^ 64 := by
  unfold fabs
  split
  · exact NAN_lt
  · omega
/-! ## Mirrors of any numbers -/
def frxG (x : Nat) : Int := if finB x = true then frxE x else 0
def powG (xs : List Nat) : Int := if powB xs = true then frxG (maxL xs) - 1 else 0
def rglsL (xs : List Nat) : Gls := if powB xs = true then glsOf (sclL xs (powG xs)) (sclN xs (powG xs)) (powG xs) else ⟨List.replicate xs.length 0, 0, 0⟩
theorem powG_rng (xs : List Nat) : -1075 ≤ powG xs ∧ powG xs ≤ 1024 := by
  unfold powG frxG
  have := frx_rng (maxL xs)
  split
  · split <;> omega
  · omega
theorem powG_fin {xs : List Nat} (hF : FinL xs) : powG xs = powK xs := by
  unfold powG powK frxG
  rw [if_pos (show finB (maxL xs) = true from (maxTo_fin hF _).2)]
theorem rgls_fin {xs : List Nat} (hF : FinL xs) : rglsL xs = houseL xs := by
  unfold rglsL houseL
  rw [powG_fin hF]
theorem maxTo_lt {xs : List Nat} (h : ∀ k, xs.getD k 0 < 2 ^ 64) : ∀ k, maxTo xs k < 2 ^ 64
  | 0 => by show 0 < 2 ^ 64; decide
  | k + 1 => by
    have h1 := maxTo_lt h k
    have h2 := fabs_lt (h k)
    show fmax (maxTo xs k) (fabs (xs.getD k 0)) < 2 ^ 64
    unfold fmax
    split
    · exact NAN_lt
    · exact h2
    · exact h1
    · split
      · exact h2
      · exact h1
theorem powG_0 {xs : List Nat} (hb : powB xs = false) : (0 : Int) = powG xs := by unfold powG; rw [if_neg (by rw [hb]; decide)]
theorem gls_0 {xs : List Nat} (h : powB xs = false) : rglsL xs = ⟨List.replicate xs.length 0, 0, 0⟩ := by unfold rglsL; rw [if_neg (by rw [h]; decide)]
theorem gls_s {xs : List Nat} (h : powB xs = true) (hs : sgn ((sclL xs (powG xs)).getD 0 0) = true) : rglsL xs = ⟨(sclL xs (powG xs)).set 0 (fsub ((sclL xs (powG xs)).getD 0 0) (sclN xs (powG xs))), fmul (sclN xs (powG xs)) (fadd (sclN xs (powG xs)) (fabs ((sclL xs (powG xs)).getD 0 0))), ldx (sclN xs (powG xs)) (powG xs)⟩ := by
  unfold rglsL glsOf; rw [if_pos h]; simp only [hs, if_true]
theorem gls_n {xs : List Nat} (h : powB xs = true) (hs : sgn ((sclL xs (powG xs)).getD 0 0) = false) : rglsL xs = ⟨(sclL xs (powG xs)).set 0 (fsub ((sclL xs (powG xs)).getD 0 0) (fneg (sclN xs (powG xs)))), fmul (sclN xs (powG xs)) (fadd (sclN xs (powG xs)) (fabs ((sclL xs (powG xs)).getD 0 0))), ldx (fneg (sclN xs (powG xs))) (powG xs)⟩ := by
  unfold rglsL glsOf; rw [if_pos h]; simp only [hs, Bool.false_eq_true, if_false]
theorem fadd_nan1 {x y : Nat} (h : nanB x = true) : fadd x y = NAN := by
  unfold fadd Ieee.Format.add
  have h1 : (Ieee.double.read x).isNaN = true := h
  cases hd : Ieee.double.read x with
  | number => rw [hd] at h1; cases h1
  | infinity => rw [hd] at h1; cases h1
  | nan => rfl
theorem fadd_nan2 {x y : Nat} (h : nanB y = true) : fadd x y = NAN := by
  unfold fadd Ieee.Format.add
  have h1 : (Ieee.double.read y).isNaN = true := h
  cases hd : Ieee.double.read y with
  | number => rw [hd] at h1; cases h1
  | infinity => rw [hd] at h1; cases h1
  | nan => cases Ieee.double.read x <;> rfl
theorem fmul_nan1 {x y : Nat} (h : nanB x = true) : fmul x y = NAN := by
  unfold fmul Ieee.Format.mul
  have h1 : (Ieee.double.read x).isNaN = true := h
  cases hd : Ieee.double.read x with
  | number => rw [hd] at h1; cases h1
  | infinity => rw [hd] at h1; cases h1
  | nan => rfl
theorem fsqrt_nan {x : Nat} (h : nanB x = true) : fsqrt x = NAN := by
  unfold fsqrt Ieee.Format.sqrt
  have h1 : (Ieee.double.read x).isNaN = true := h
  cases hd : Ieee.double.read x with
  | number => rw [hd] at h1; cases h1
  | infinity => rw [hd] at h1; cases h1
  | nan => rfl
theorem dot_nanAt {xs ys : List Nat} {i : Nat} : ∀ {k}, i < k → fmul (xs.getD i 0) (ys.getD i 0) = NAN → dotTo xs ys k = NAN
  | 0, h, _ => absurd h (Nat.not_lt_zero _)
  | k + 1, h, hn => by
    show fadd (dotTo xs ys k) (fmul (xs.getD k 0) (ys.getD k 0)) = NAN
    by_cases e : i = k
    · rw [← e, hn]; exact fadd_nan2 nanB_NAN
    · rw [dot_nanAt (by omega) hn]; exact fadd_nan1 nanB_NAN
theorem scl_nan {xs : List Nat} {k : Int} (h : 0 < xs.length) (hn : nanB ((sclL xs k).getD 0 0) = true) : sclN xs k = NAN := by
  unfold sclN dotL
  rw [dot_nanAt (i := 0) (by rw [length_sclL]; exact h) (fmul_nan1 hn)]
  exact fsqrt_nan nanB_NAN
theorem fneg_nan : fneg NAN = NAN := by decide +kernel
theorem sgn_nan {x : Nat} (hc : cn x = x) (h : nanB x = true) : sgn x = false := by rw [← hc, cn_of_nan h]; decide
theorem ldx_cn {x : Nat} {k : Int} (hx : x < 2 ^ 64) (hc : cn x = x) (k0 : -5000 ≤ k) (k1 : k ≤ 5000) : cn (ldx x k) = ldx x k := by
  rw [← tms_ldx hx hc k0 k1, cn_cn]
/-- Numbers that a program may have in hand. -/
def CnL (xs : List Nat) : Prop := ∀ k, xs.getD k 0 < 2 ^ 64 ∧ cn (xs.getD k 0) = xs.getD k 0
theorem scl_at0 {xs : List Nat} {k : Int} {i : Nat} (h : i < xs.length) : (sclL xs k).getD i 0 = ldx (xs.getD i 0) (-k) := by
  unfold sclL
  rw [List.getD, List.getElem?_map, List.getElem?_eq_getElem h, List.getD, List.getElem?_eq_getElem h]
  rfl
theorem gls_nan {xs : List Nat} (hC : CnL xs) (h : powB xs = true) (hn : nanB ((sclL xs (powG xs)).getD 0 0) = true) : rglsL xs = ⟨(sclL xs (powG xs)).set 0 (fsub ((sclL xs (powG xs)).getD 0 0) NAN), fmul NAN (fadd NAN (fabs ((sclL xs (powG xs)).getD 0 0))), ldx NAN (powG xs)⟩ := by
  have h0 := powB_pos h
  have hg := scl_nan h0 hn
  have hr := powG_rng xs
  have hs : sgn ((sclL xs (powG xs)).getD 0 0) = false := by
    refine sgn_nan ?_ hn
    rw [scl_at0 h0]
    exact ldx_cn (hC 0).1 (hC 0).2 (by omega) (by omega)
  rw [gls_n h hs, hg, fneg_nan]
/-! ## Numbers not below nought -/
def Nn (x : Nat) : Prop := sgn x = false ∧ nanB x = false
theorem nn_zero : Nn 0 := ⟨by decide, by decide⟩
theorem nn_near {n : Nat} {p : Int} : Nn (Ieee.double.nearest false n p) := ⟨nearest_sgn, (write_ok (d := .number false n p) rfl).1⟩
theorem nn_word : Nn (Ieee.double.word false Ieee.double.infRung) := ⟨by decide +kernel, by decide +kernel⟩
theorem nn_inf : Nn (fop (some (Ieee.double.write (.infinity false)))) := nn_word
theorem read_wi : Ieee.double.read (fop (some (Ieee.double.write (.infinity false)))) = .infinity false := by decide +kernel
theorem nn_read {x : Nat} (h : Nn x) : (∃ m e, Ieee.double.read x = .number false m e) ∨ Ieee.double.read x = .infinity false := by
  obtain ⟨h1, h2⟩ := h
  by_cases hr : rung x < 9218868437227405312
  · left; rw [read_fin hr, h1]; exact ⟨_, _, rfl⟩
  · right
    rw [nanB_iff] at h2
    have := of_decide_eq_false h2
    rw [read_inf (by unfold rung at hr ⊢; omega), h1]
theorem signed_nn (m k : Nat) : 0 ≤ Ieee.signed false m k := Int.natCast_nonneg _
theorem nn_add {x y : Nat} (hx : Nn x) (hy : Nn y) : Nn (fadd x y) := by
  unfold fadd Ieee.Format.add
  rcases nn_read hx with ⟨m, i, h1⟩ | h1 <;> rcases nn_read hy with ⟨n, j, h2⟩ | h2 <;> rw [h1, h2]
  · have e : (Ieee.Datum.number false m i).sum (.number false n j) = some (.number false (Ieee.signed false m (i - min i j).toNat + Ieee.signed false n (j - min i j).toNat).natAbs (min i j)) := by
      have p1 := signed_nn m (i - min i j).toNat
      have p2 := signed_nn n (j - min i j).toNat
      unfold Ieee.Datum.sum
      simp only [Bool.and_self]
      have h3 : ¬ Ieee.signed false m (i - min i j).toNat + Ieee.signed false n (j - min i j).toNat < 0 := by omega
      simp [h3]
    rw [e]
    exact nn_near
  · exact nn_inf
  · exact nn_inf
  · exact nn_inf
theorem nn_sq {x : Nat} (hr : rung x < 9218868437227405312) : Nn (fmul x x) := by
  rw [fmul_vlx hr hr, Bool.xor_self]
  exact nn_near
theorem nn_sqrt {x : Nat} (hx : Nn x) : Nn (fsqrt x) := by
  unfold fsqrt Ieee.Format.sqrt
  rcases nn_read hx with ⟨m, e, h1⟩ | h1 <;> rw [h1]
  · simp only [Ieee.Datum.root, Bool.false_eq_true, if_false]
    split
    · exact nn_near
    · exact nn_near
  · exact nn_inf
theorem nn_fabs {x : Nat} (hx : x < 2 ^ 64) (hr : rung x < 9218868437227405312) : Nn (fabs x) := by
  have h := fabs_parts hx hr
  exact ⟨h.2.1, fin_not_nan ((finB_iff (fabs_lt hx)).2 (by rw [h.1]; exact hr))⟩
theorem nn_dot {xs : List Nat} (h : ∀ i, rung (xs.getD i 0) < 9218868437227405312) : ∀ k, Nn (dotTo xs xs k)
  | 0 => nn_zero
  | k + 1 => nn_add (nn_dot h k) (nn_sq (h k))
theorem nn_w {g y : Nat} (hg : Nn g) (hgl : g < 2 ^ 64) (hy : Nn y) (hyl : y < 2 ^ 64) (fy : rung y < 9218868437227405312) : nanB (fmul g (fadd g y)) = false := by
  rcases nn_read hg with ⟨m, i, h1⟩ | h1
  · have hgr : rung g < 9218868437227405312 := by
      by_cases hc : rung g < 9218868437227405312
      · exact hc
      · rcases read_not hc with ⟨s, h⟩ | h <;> rw [h1] at h <;> cases h
    rcases nn_read (nn_add hg hy) with ⟨n, j, h2⟩ | h2
    · unfold fmul Ieee.Format.mul
      rw [h1, h2]
      exact (write_ok (d := .number (false ^^ false) (m * n) (i + j)) rfl).1
    · by_cases hm : m = 0
      · exfalso
        have hm0 : mgn g = 0 := by
          rw [read_fin hgr] at h1
          injection h1 with _ h3 _
          omega
        have hr0 := mgn_zero hm0
        have hg0 : g = 0 := by
          have h5 := hg.1
          have := sgb_rung g hgl
          rw [h5, hr0] at this
          exact this.symm
        rw [hg0] at h2
        have h6 := (fadd_zero hyl fy).1
        rw [read_fin h6] at h2
        cases h2
      · unfold fmul Ieee.Format.mul
        rw [h1, h2]
        simp only [Ieee.Datum.product, if_neg hm, Option.map_some]
        exact (write_ok (d := .infinity (false ^^ false)) rfl).1
  · have h2 : Ieee.double.read (fadd g y) = .infinity false := by
      have h4 : fadd g y = fop (some (Ieee.double.write (.infinity false))) := by
        unfold fadd Ieee.Format.add
        rw [h1]
        rcases nn_read hy with ⟨n, j, h3⟩ | h3
        · rw [h3]; simp only [Ieee.Datum.sum, Option.map_some]
        · rw [h3]; simp only [Ieee.Datum.sum, if_true, Option.map_some]
      rw [h4]
      exact read_wi
    have h5 : fmul g (fadd g y) = fop (some (Ieee.double.write (.infinity false))) := by
      unfold fmul Ieee.Format.mul
      rw [h1, h2]
      simp only [Ieee.Datum.product, Option.map_some, Bool.xor_self]
    rw [h5]
    exact nn_inf.2
theorem glsW_nan {xs : List Nat} (hF : FinL xs) (hfy : ∀ i, rung ((sclL xs (powK xs)).getD i 0) < 9218868437227405312) (hly : (sclL xs (powK xs)).getD 0 0 < 2 ^ 64) : nanB (houseL xs).w = false := by
  unfold houseL
  split
  · unfold glsOf
    show nanB (fmul _ (fadd _ (fabs _))) = false
    have h := fabs_parts hly (hfy 0)
    exact nn_w (nn_sqrt (nn_dot hfy _)) sqrt_lt (nn_fabs hly (hfy 0)) (fabs_lt hly) (by rw [h.1]; exact hfy 0)
  · show nanB 0 = false
    decide
end Go.Bn
