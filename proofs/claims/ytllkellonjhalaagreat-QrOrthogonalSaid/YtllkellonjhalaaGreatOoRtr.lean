/-
 The triangle of the reference: the same as the program's, whatever its numbers are.
-/
import Derived.Test.YtllkellonjhalaaGreatOoScl
import Derived.Test.YtllkellonjhalaaGreatOoSld
set_option linter.unusedVariables false
set_option linter.unusedSimpArgs false
namespace Go.Bn
open Go
section three
variable {P : Program} {Γ : Facts} {ρ : Env}
theorem JN_retF3 {σ : List Res} {fn : Func} {n : Nat} {c0 : EW} {pr : Value → Value} {R : Value → SP} {r : Value → Res} {p1 p2 p3 : SP} {rv1 rv2 rv3 : ResultVar} {u : Value} (j : Nat) (hj : nth σ j = some (r u)) (hrv : fn.results.toList = [rv1, rv2, rv3]) (hr : RVL P Γ ρ σ [rv1, rv2, rv3] [p1, p2, p3]) (hpr : ∀ v1 v2 v3 c, p1.H v1 c → pr (.tuple #[v1, v2, v3]) = u) (hR : Sb Γ (tupp [p1, p2, p3]) (R u)) :
  JN ⟨P, n, c0, fun _ => False⟩ Γ ρ σ (bodyPost P fn (RetF c0 pr R r) .ret) := fun a c hs => by
 obtain ⟨vs, h1, h2⟩ := hr.run hs
 obtain ⟨obs, hown, hres⟩ := hs.own
 obtain ⟨hx, _⟩ := hs.xt
 have hrj := hres j _ hj
 have hlow : ∀ b, obs j b → c0.w.heap.size ≤ b ∧ b < c.w.heap.size := fun b hb => ⟨(hown.has j b hb).2.resolve_right (fun h => h), hown.lt hb⟩
 have hle : Le c ⟨c.w, fun k => c0.M k ∨ obs j k⟩ := ⟨rfl, rfl, rfl, Nat.le_refl _, fun k hk hm => ⟨rfl, fun h0 => hm (by
  rcases h0 with h0 | h0
  ·exact (hown.mem k (hown.wf0 k h0)).2 h0
  ·exact (hown.has j k h0).1)⟩⟩
 match vs, h2 with
 | [v1, v2, v3], h2 =>
  have hres1 : (results fn a.tmps).run P c.w = .ok (.tuple #[v1, v2, v3]) c.w := by
   have := run_results (P := P) (fn := fn) (tmps := a.tmps) (w := c.w) (vs := [v1, v2, v3]) (by rw [hrv]; exact h1)
   simpa using this
  have hu : pr (.tuple #[v1, v2, v3]) = u := hpr v1 v2 v3 c h2.1
  have ht : (tupp [p1, p2, p3]).H (.tuple #[v1, v2, v3]) c := ⟨[v1, v2, v3], rfl, h2⟩
  refine ⟨hs.defers, _, hres1, _, obs j, rfl, hx, hlow, ?_, ?_⟩
  ·rw [hu]; exact hR _ _ (hs.facts.le hle) ((tupp [p1, p2, p3]).st _ _ _ hle ht)
  ·rw [hu]; exact (r u).fr _ _ _ hle (fun _ _ => rfl) hrj
end three
theorem frz_rows {u : Value} {vs : List Value} {n : Nat} {T1 T2 : TypeId} {F : Nat → List Nat} (hv : vs.length = n) : Freezes ((som u isv vs T1).sep (pool n (poolX vs T2 F))) u (slm (slm flp) ((List.range n).map F)) := by
 intro c c' ob ⟨o1, o2, h1, h2, h3, h4⟩ hle hob
 have g1 := frz_som c c' o1 h3 hle fun b hb => hob b ((h1 b).2 (.inl hb))
 obtain ⟨os, k1, k2, k3⟩ := h4
 have g2 : ∀ i, i < n → (slm flp (F i)).H (vs.getD i NILV) c' := fun i hi => frz_som c c' (os i) (k3 i hi) hle fun b hb => hob b ((h1 b).2 (.inr ((k1 b).2 ⟨i, hi, hb⟩)))
 have hn : ((List.range n).map F).length = vs.length := by simp [hv]
 unfold slm slp at g1 ⊢
 rw [List.length_map] at g1 ⊢
 rw [hn]
 obtain ⟨q1, q2⟩ := g1
 refine ⟨by simp [hv], ?_⟩
 rcases q2 with q2 | ⟨ad, cap, e1, e2, e3, q2⟩
 ·exact .inl q2
 ·refine .inr ⟨ad, cap, e1, e2, e3, ?_⟩
  rcases q2 with q2 | ⟨b, off, e4, e5, cur, T, fz, e6, q2⟩
  ·exact .inl q2
  ·refine .inr ⟨b, off, e4, e5, cur, T, fz, e6, fun i p hp => ?_⟩
   rw [nth_eq, List.getElem?_map, List.getElem?_map] at hp
   have hi : i < n := by
    by_cases hc : i < n
    ·exact hc
    ·rw [List.getElem?_eq_none (by simpa using hc)] at hp; cases hp
   rw [List.getElem?_range hi] at hp
   cases hp
   have hvi : vs[i]? = some (vs.getD i NILV) := by
    rw [List.getD, List.getElem?_eq_getElem (show i < vs.length by omega)]; rfl
   obtain ⟨w, r1, r2, r3⟩ := q2 i (isv (vs.getD i NILV)) (by rw [nth_eq, List.getElem?_map, hvi]; rfl)
   refine ⟨w, r1, r2, ?_⟩
   rw [r3.1]
   exact g2 i hi
def rgl (X : Nat → List Nat) (i : Nat) : Gls := rglsL ((X i).drop i)
def rmidF (X : Nat → List Nat) (i k j : Nat) : List Nat := if i < j ∧ j < k then mirW (rgl X i) i (X j) else X j
def rendF (X : Nat → List Nat) (i j : Nat) : List Nat := if j = i then (clrR (X i) i).set i (rgl X i).alpha else if i < j then mirW (rgl X i) i (X j) else X j
def rtriTo (X : Nat → List Nat) : Nat → Nat → List Nat
 | 0 => X
 | i + 1 => rendF (rtriTo X i) i
def tidN (x : Nat) (t : Bool) : Nat := if fcmp .eql x 0 = true then 0 else if t = true then fneg x else x
def rtriN (X : Nat → List Nat) (i j : Nat) : Nat := tidN ((X i).getD j 0) (fcmp .lss ((X j).getD j 0) 0)
def rtriG (X : Nat → List Nat) (n : Nat) : List Nat := grid n n fun i j => rtriN (rtriTo X n) i.toNat j.toNat
theorem cn_fop {op : BinOp} {x y : Nat} : cn (fop (fbits op x y)) = fop (fbits op x y) := by
 cases h : fbits op x y with
 | none => show cn NAN = NAN; decide +kernel
 | some r => exact cn_of_not (fbits_some h).1
theorem cn_sub {x y : Nat} : cn (fsub x y) = fsub x y := cn_fop (op := .sub)
theorem fop_lt2 {op : BinOp} {x y : Nat} : fop (fbits op x y) < 2 ^ 64 := fop_lt
theorem cn_sqrt {x : Nat} : cn (fsqrt x) = fsqrt x := by
 unfold fsqrt fop
 cases h : Ieee.double.sqrt x with
 | none => show cn NAN = NAN; decide +kernel
 | some r => exact cn_of_not (sqrt_some h).1
theorem cn_neg {x : Nat} (hx : x < 2 ^ 64) : cn (fneg x) = fneg x := by
 cases hn : nanB x
 ·have h1 : fneg x = x ^^^ 2 ^ 63 := by unfold fneg; rw [hn, xor_top hx]; rfl
  refine cn_of_not ?_
  rw [h1, nan_rung (rung_top hx)]
  exact hn
 ·have : fneg x = NAN := by unfold fneg; rw [if_pos hn]
  rw [this]; decide +kernel
theorem cn_zero : cn 0 = 0 := by decide +kernel
theorem cnL_app {xs ys : List Nat} (h : CnL xs) (h2 : CnL ys) : CnL (xs ++ ys) := fun k => by
 by_cases hk : k < xs.length
 ·rw [List.getD, List.getElem?_append_left hk]; exact h k
 ·rw [List.getD, List.getElem?_append_right (by omega)]; exact h2 _
theorem cnL_take {xs : List Nat} (h : CnL xs) (i : Nat) : CnL (xs.take i) := fun k => by
 by_cases hk : k < i
 ·rw [List.getD, List.getElem?_take, if_pos hk]; exact h k
 ·rw [List.getD, List.getElem?_take, if_neg hk]; exact ⟨by decide, by decide +kernel⟩
theorem cnL_drop {xs : List Nat} (h : CnL xs) (i : Nat) : CnL (xs.drop i) := fun k => by rw [getD_drop]; exact h _
theorem cnL_rep (n : Nat) : CnL (List.replicate n 0) := fun k => by
 rw [List.getD, List.getElem?_replicate]
 split <;> exact ⟨by decide, by decide +kernel⟩
theorem cnL_set {xs : List Nat} (h : CnL xs) {i v : Nat} (hv : v < 2 ^ 64 ∧ cn v = v) : CnL (xs.set i v) := fun k => by
 by_cases e : i = k
 ·subst e
  by_cases hi : i < xs.length
  ·rw [List.getD, List.getElem?_set_self hi]; exact hv
  ·rw [List.getD, List.getElem?_eq_none (by rw [List.length_set]; omega)]; exact ⟨by decide, by decide +kernel⟩
 ·rw [List.getD, List.getElem?_set_ne e]; exact h k
theorem cnL_mirG (v : List Nat) (t : Nat) (a : List Nat) : CnL (mirG v t a) := fun k => by
 by_cases hk : k < a.length
 ·have : (mirG v t a).getD k 0 = fsub (a.getD k 0) (fmul t (v.getD k 0)) := by
   unfold mirG
   rw [List.getD, List.getElem?_map, List.getElem?_range hk]; rfl
  rw [this]
  exact ⟨fop_lt2 (op := .sub), cn_sub⟩
 ·rw [List.getD, List.getElem?_eq_none (by rw [length_mirG]; omega)]; exact ⟨by decide, by decide +kernel⟩
theorem cnL_mirL {a : List Nat} (v : List Nat) (w : Nat) (h : CnL a) : CnL (mirL v w a) := by
 unfold mirL
 split
 ·exact h
 ·exact cnL_mirG _ _ _
theorem cnL_mirW {h : Gls} {i : Nat} {x : List Nat} (hx : CnL x) : CnL (mirW h i x) := cnL_app (cnL_take hx i) (cnL_mirL _ _ (cnL_drop hx i))
theorem cnL_clr {x : List Nat} {i : Nat} (hx : CnL x) : CnL (clrR x i) := cnL_app (cnL_take hx i) (cnL_rep _)
theorem ralpha_cn {xs : List Nat} : (rglsL xs).alpha < 2 ^ 64 ∧ cn (rglsL xs).alpha = (rglsL xs).alpha := by
 have hr := powG_rng xs
 unfold rglsL
 split
 ·unfold glsOf
  show ldx _ _ < 2 ^ 64 ∧ cn (ldx _ _) = ldx _ _
  have h1 : ∀ b, b < 2 ^ 64 → cn b = b → ldx b (powG xs) < 2 ^ 64 ∧ cn (ldx b (powG xs)) = ldx b (powG xs) := fun b h1 h2 => ⟨ldx_lt h1, ldx_cn h1 h2 (by omega) (by omega)⟩
  split
  ·exact h1 _ sqrt_lt cn_sqrt
  ·exact h1 _ (fneg_lt sqrt_lt) (cn_neg sqrt_lt)
 ·exact ⟨by show 0 < 2 ^ 64; decide, cn_zero⟩
theorem length_rgls (xs : List Nat) : (rglsL xs).v.length = xs.length := by
 unfold rglsL
 split
 ·unfold glsOf
  show (List.set _ _ _).length = _
  rw [List.length_set, length_sclL]
 ·exact List.length_replicate
structure RtrI (X : Nat → List Nat) (n m i : Nat) : Prop where
 hl : ∀ j, j < n → (rtriTo X i j).length = m
 hc : ∀ j, j < n → CnL (rtriTo X i j)
theorem rtrI_step {X : Nat → List Nat} {n m i : Nat} (h : RtrI X n m i) (hi : i < n) : RtrI X n m (i + 1) where
 hl := fun j hj => by
  show (rendF (rtriTo X i) i j).length = m
  unfold rendF
  split
  ·rw [List.length_set, length_clrR]; exact h.hl i hi
  ·split
   ·rw [length_mirW]; exact h.hl j hj
   ·exact h.hl j hj
 hc := fun j hj => by
  show CnL (rendF (rtriTo X i) i j)
  unfold rendF
  split
  ·exact cnL_set (cnL_clr (h.hc i hi)) ralpha_cn
  ·split
   ·exact cnL_mirW (h.hc j hj)
   ·exact h.hc j hj
theorem cnL_fin {xs : List Nat} (h : FinL xs) : CnL xs := fun k => ⟨(h k).2, cn_of_not (fin_not_nan (h k).1)⟩
theorem rmid_at {X : Nat → List Nat} {i k j : Nat} (h : ¬ (i < j ∧ j < k)) : rmidF X i k j = X j := if_neg h
theorem mirW_no {h : Gls} {i : Nat} {x : List Nat} (hw : fcmp .eql h.w 0 = true) : mirW h i x = x := by
 unfold mirW mirL
 rw [if_pos hw, List.take_append_drop]
theorem mirW_yes {h : Gls} {i : Nat} {x : List Nat} (hw : fcmp .eql h.w 0 = false) : mirW h i x = x.take i ++ mirG h.v (fdiv (dotL (x.drop i) h.v) h.w) (x.drop i) := by
 unfold mirW mirL
 rw [if_neg (by rw [hw]; decide)]
 rfl
def zerR (x : List Nat) (i j : Nat) : List Nat := x.take i ++ (List.replicate (j - i) 0 ++ x.drop j)
theorem zerR_0 (x : List Nat) (i : Nat) : zerR x i i = x := by unfold zerR; simp
theorem length_zerR {x : List Nat} {i j : Nat} (hi : i ≤ j) (hj : j ≤ x.length) : (zerR x i j).length = x.length := by
 unfold zerR
 rw [List.length_append, List.length_append, List.length_take, List.length_replicate, List.length_drop]
 omega
theorem zerR_set {x : List Nat} {i j : Nat} (hi : i ≤ j) (hj : j < x.length) : (zerR x i j).set j 0 = zerR x i (j + 1) := by
 unfold zerR
 have e1 : (x.take i).length = i := by rw [List.length_take]; omega
 rw [List.set_append_right _ _ (by omega), e1, List.set_append_right _ _ (by rw [List.length_replicate]; omega), List.length_replicate, show j - i - (j - i) = 0 by omega, List.drop_eq_getElem_cons hj, List.set_cons_zero, show j + 1 - i = (j - i) + 1 by omega, List.replicate_succ']
 simp
theorem zerR_all {x : List Nat} {i j : Nat} (hj : j = x.length) (hi : i ≤ x.length) : zerR x i j = clrR x i := by
 unfold zerR clrR
 rw [hj, List.drop_length, List.append_nil]
theorem fneg_vlu {x : Nat} (hx : x < 2 ^ 64) (hr : rung x < 9218868437227405312) : rung (fneg x) < 9218868437227405312 ∧ vlu (fneg x) = vlu x := by
 have hn := fin_not_nan ((finB_iff hx).2 hr)
 have h1 : fneg x = x ^^^ 2 ^ 63 := by unfold fneg; rw [hn, xor_top hx]; rfl
 have h2 := rung_top hx
 rw [← h1] at h2
 refine ⟨by rw [h2]; exact hr, ?_⟩
 unfold vlu mgn plc
 rw [h2]
theorem tid_fin {x : Nat} (hx : x < 2 ^ 64) (hf : finB x = true) (t : Bool) : tidN x t = fadd (if t = true then fneg x else x) 0 := by
 have hr := (finB_iff hx).1 hf
 have hc := cn_of_not (fin_not_nan hf)
 have key : ∀ y, y < 2 ^ 64 → rung y < 9218868437227405312 → fadd y 0 = if vlu y = 0 then 0 else y := fun y hy hry => by
  have h0 : rung 0 < 9218868437227405312 := by decide
  have s0 : sval 0 = 0 := by decide +kernel
  rw [fadd_int hry h0, s0, Int.add_zero]
  have ha := sval_abs y
  by_cases hz : vlu y = 0
  ·have hs : sval y = 0 := by omega
   rw [if_pos hz, if_pos hs, hs, show sgn 0 = false by decide, Bool.and_false]
   rfl
  ·have hs : sval y ≠ 0 := by omega
   rw [if_neg hz, if_neg hs, ha]
   have h2 := nearest_vlu hy hry
   have : decide (sval y < 0) = sgn y := by
    have hv : sval y = if sgn y = true then -((vlu y : Nat) : Int) else ((vlu y : Nat) : Int) := rfl
    cases hsg : sgn y
    ·rw [hsg] at hv; simp at hv; simp; omega
    ·rw [hsg] at hv; simp at hv; simp; omega
   rw [this]
   exact h2
 unfold tidN
 rw [eql_zero hx hr]
 have hn := fneg_vlu hx hr
 cases t
 ·simp only [Bool.false_eq_true, if_false]
  rw [key x hx hr]
  by_cases hz : vlu x = 0
  ·rw [decide_eq_true hz, if_pos rfl, if_pos hz]
  ·rw [decide_eq_false hz, if_neg (by decide), if_neg hz]
 ·simp only [if_true]
  rw [key (fneg x) (fneg_lt hx) hn.1, hn.2]
  by_cases hz : vlu x = 0
  ·rw [decide_eq_true hz, if_pos rfl, if_pos hz]
  ·rw [decide_eq_false hz, if_neg (by decide), if_neg hz]
theorem tid_rung {x : Nat} (hx : x < 2 ^ 64) (hr : rung x < 9218868437227405312) (t : Bool) : rung (tidN x t) < 9218868437227405312 ∧ tidN x t < 2 ^ 64 := by
 unfold tidN
 split
 ·exact ⟨by decide, by decide⟩
 ·split
  ·exact ⟨(fneg_vlu hx hr).1, fneg_lt hx⟩
  ·exact ⟨hr, hx⟩
theorem tid_nf {x : Nat} (hx : x < 2 ^ 64) (h : Nf x) (t : Bool) : Nf (tidN x t) ∧ tidN x t < 2 ^ 64 := by
 unfold tidN
 rw [if_neg (by rw [nf_eql h]; decide)]
 split
 ·exact ⟨nf_neg hx h, fneg_lt hx⟩
 ·exact ⟨h, hx⟩
theorem over_out {X : Nat → List Nat} {n i : Nat} (h : overB X n i = false) : (∀ j, i < j → j < n → (mirW (gls X i) i (X j)).all finB = true) ∧ finQ (gls X i).alpha = true := by
 unfold overB at h
 rw [Bool.or_eq_false_iff] at h
 refine ⟨fun j hij hj => ?_, by simpa using h.2⟩
 have := List.any_eq_false.1 h.1 j (List.mem_range.2 hj)
 simpa [hij] using this
theorem over_in {X : Nat → List Nat} {n i : Nat} (h : overB X n i = true) : (∃ j, i < j ∧ j < n ∧ (mirW (gls X i) i (X j)).all finB = false) ∨ finQ (gls X i).alpha = false := by
 unfold overB at h
 rw [Bool.or_eq_true] at h
 rcases h with h | h
 ·left
  obtain ⟨j, hj, hb⟩ := List.any_eq_true.1 h
  rw [Bool.and_eq_true] at hb
  exact ⟨j, of_decide_eq_true hb.1, List.mem_range.1 hj, by simpa using hb.2⟩
 ·right; simpa using h
theorem tri_at {X : Nat → List Nat} {n m : Nat} (h0 : TriI X n m 0) : ∀ {i}, (∀ p, p < i → overB (triTo X p) n p = false) → TriI X n m i
 | 0, _ => h0
 | i + 1, ho => by
  have h := tri_at h0 (i := i) fun p hp => ho p (by omega)
  obtain ⟨g1, g2⟩ := over_out (ho i (by omega))
  exact triI_step h g1 g2
theorem rtr_same {X : Nat → List Nat} {n m : Nat} (h0 : TriI X n m 0) : ∀ {i}, (∀ p, p < i → overB (triTo X p) n p = false) → i ≤ n → ∀ j, j < n → rtriTo X i j = triTo X i j
 | 0, _, _, j, _ => rfl
 | i + 1, ho, hi, j, hj => by
  have h := tri_at h0 (i := i) fun p hp => ho p (by omega)
  have ih := fun j hj => rtr_same h0 (i := i) (fun p hp => ho p (by omega)) (by omega) j hj
  show rendF (rtriTo X i) i j = endF (triTo X i) i j
  have eg : rgl (rtriTo X i) i = gls (triTo X i) i := by
   unfold rgl gls
   rw [ih i (by omega)]
   exact rgls_fin (finL_drop (h.hf i (by omega)) i)
  unfold rendF endF
  rw [eg, ih j hj, ih i (by omega)]
def BadR (X : Nat → List Nat) (n m i : Nat) : Prop := ∃ j, j < n ∧ ((j < i ∧ ∃ p, p ≤ j ∧ Nf ((X j).getD p 0)) ∨ (i ≤ j ∧ ∃ p, p < m ∧ Nf ((X j).getD p 0)))
theorem mirW_low {h : Gls} {i p : Nat} {x : List Nat} (hp : p < i) : (mirW h i x).getD p 0 = x.getD p 0 := by
 unfold mirW
 by_cases hl : p < x.length
 ·rw [List.getD, List.getElem?_append_left (by rw [List.length_take]; omega), List.getElem?_take, if_pos hp]; rfl
 ·rw [List.getD, List.getD, List.getElem?_eq_none (by rw [List.length_append, length_mirL, List.length_take, List.length_drop]; omega), List.getElem?_eq_none (by omega)]
theorem mirW_high {h : Gls} {i p : Nat} {x : List Nat} (hi : i ≤ x.length) (hp : i ≤ p) : (mirW h i x).getD p 0 = (mirL h.v h.w (x.drop i)).getD (p - i) 0 := by
 unfold mirW
 rw [List.getD, List.getElem?_append_right (by rw [List.length_take]; omega), List.length_take, Nat.min_eq_left hi]
 rfl
theorem mirL_nf {v : List Nat} {w : Nat} {a : List Nat} {q : Nat} (hq : q < a.length) (h : Nf (a.getD q 0)) : Nf ((mirL v w a).getD q 0) := by
 unfold mirL
 split
 ·exact h
 ·have : (mirG v (mirT v w a) a).getD q 0 = fsub (a.getD q 0) (fmul (mirT v w a) (v.getD q 0)) := by
   unfold mirG
   rw [List.getD, List.getElem?_map, List.getElem?_range hq]; rfl
  rw [this]
  exact nf_sub1 h
theorem zero_fin : ¬ Nf 0 := fun h => h (by decide)
theorem maxTo_nf {xs : List Nat} (hC : CnL xs) {q : Nat} (h : Nf (xs.getD q 0)) : ∀ k, (nanB (maxTo xs k) = true ∨ sgn (maxTo xs k) = false) ∧ (q < k → Nf (maxTo xs k))
 | 0 => ⟨.inr (by show sgn 0 = false; decide), fun hq => absurd hq (Nat.not_lt_zero q)⟩
 | k + 1 => by
  obtain ⟨h1, h2⟩ := maxTo_nf hC h k
  have l1 := maxTo_lt (fun k => (hC k).1) k
  have l2 := fabs_lt (hC k).1
  have s2 : nanB (fabs (xs.getD k 0)) = true ∨ sgn (fabs (xs.getD k 0)) = false := by
   unfold fabs
   split
   ·left; exact nanB_NAN
   ·right
    unfold sgn
    have : xs.getD k 0 % 9223372036854775808 / 9223372036854775808 = 0 := Nat.div_eq_of_lt (Nat.mod_lt _ (by decide))
    rw [this]; rfl
  show (nanB (fmax (maxTo xs k) (fabs (xs.getD k 0))) = true ∨ sgn (fmax (maxTo xs k) (fabs (xs.getD k 0))) = false) ∧ (q < k + 1 → Nf (fmax (maxTo xs k) (fabs (xs.getD k 0))))
  refine ⟨?_, fun hq => fmax_nf ?_ h1 s2 l1 l2⟩
  ·unfold fmax
   split
   ·left; exact nanB_NAN
   ·exact s2
   ·exact h1
   ·split
    ·exact s2
    ·exact h1
  ·by_cases e : q = k
   ·right; rw [← e]; exact nf_fabs (hC q).1 h
   ·left; exact h2 (by omega)
theorem getD_lt {xs : List Nat} {q : Nat} (h : Nf (xs.getD q 0)) : q < xs.length := by
 by_cases hc : q < xs.length
 ·exact hc
 ·rw [List.getD, List.getElem?_eq_none (by omega)] at h; exact (zero_fin h).elim
theorem alpha_nf {xs : List Nat} (hC : CnL xs) {q : Nat} (h : Nf (xs.getD q 0)) : Nf (rglsL xs).alpha := by
 have hq := getD_lt h
 have hm : Nf (maxL xs) := (maxTo_nf hC h xs.length).2 hq
 have hml : maxL xs < 2 ^ 64 := maxTo_lt (fun k => (hC k).1) _
 have hb : powB xs = true := by unfold powB; rw [nf_eql hm]; rfl
 have hf : finB (maxL xs) = false := (nf_dec hml).1 hm
 have hp := powG_2 hb hf
 have hy : (sclL xs (powG xs)).getD q 0 = xs.getD q 0 := by
  rw [scl_at0 hq]
  exact nf_ldx (hC q).1 (hC q).2 h
 have hg : Nf (sclN xs (powG xs)) := by
  unfold sclN dotL
  refine nf_sqrt (dot_nf (i := q) (by rw [length_sclL]; exact hq) ?_)
  rw [hy]
  exact nf_mul1 h
 unfold rglsL
 rw [if_pos hb]
 unfold glsOf
 show Nf (ldx (if _ then sclN xs (powG xs) else fneg (sclN xs (powG xs))) (powG xs))
 split
 ·have hs : sclN xs (powG xs) < 2 ^ 64 := sqrt_lt
  have hs2 : cn (sclN xs (powG xs)) = sclN xs (powG xs) := cn_sqrt
  rw [nf_ldx hs hs2 hg]; exact hg
 ·have hs : sclN xs (powG xs) < 2 ^ 64 := sqrt_lt
  have hn := nf_neg hs hg
  rw [nf_ldx (fneg_lt hs) (cn_neg hs) hn]; exact hn
theorem clr_low {x : List Nat} {i p v : Nat} (hp : p < i) : ((clrR x i).set i v).getD p 0 = x.getD p 0 := by
 rw [List.getD, List.getElem?_set_ne (by omega)]
 unfold clrR
 by_cases hl : p < x.length
 ·rw [List.getElem?_append_left (by rw [List.length_take]; omega), List.getElem?_take, if_pos hp]; rfl
 ·rw [List.getD, List.getElem?_eq_none (by rw [List.length_append, List.length_take, List.length_replicate]; omega), List.getElem?_eq_none (by omega)]
theorem clr_at {x : List Nat} {i v : Nat} (hi : i < x.length) : ((clrR x i).set i v).getD i 0 = v := by
 rw [List.getD, List.getElem?_set_self (by rw [length_clrR]; exact hi)]
 rfl
theorem bad_step {X : Nat → List Nat} {n m i : Nat} (hl : ∀ j, j < n → (X j).length = m) (hc : ∀ j, j < n → CnL (X j)) (hi : i < n) (hnm : n ≤ m) (h : BadR X n m i) : BadR (rendF X i) n m (i + 1) := by
 obtain ⟨j, hj, h⟩ := h
 rcases h with ⟨h1, p, hp, hn⟩ | ⟨h1, p, hp, hn⟩
 ·refine ⟨j, hj, .inl ⟨by omega, p, hp, ?_⟩⟩
  unfold rendF
  rw [if_neg (by omega), if_neg (by omega)]
  exact hn
 ·by_cases e : j = i
  ·subst e
   refine ⟨j, hj, .inl ⟨by omega, ?_⟩⟩
   by_cases hpi : p < j
   ·refine ⟨p, by omega, ?_⟩
    unfold rendF
    rw [if_pos rfl, clr_low hpi]
    exact hn
   ·refine ⟨j, Nat.le_refl _, ?_⟩
    unfold rendF
    rw [if_pos rfl, clr_at (by rw [hl j hj]; omega)]
    refine alpha_nf (cnL_drop (hc j hj) j) (q := p - j) ?_
    rw [getD_drop, show j + (p - j) = p by omega]
    exact hn
  ·refine ⟨j, hj, .inr ⟨by omega, p, hp, ?_⟩⟩
   unfold rendF
   rw [if_neg e, if_pos (by omega)]
   by_cases hpi : p < i
   ·rw [mirW_low hpi]; exact hn
   ·rw [mirW_high (by rw [hl j hj]; omega) (by omega)]
    refine mirL_nf (by rw [List.length_drop, hl j hj]; omega) ?_
    rw [getD_drop, show i + (p - i) = p by omega]
    exact hn
theorem bad_first {X : Nat → List Nat} {n m i : Nat} (hl : ∀ j, j < n → (X j).length = m) (hf : ∀ j, j < n → FinL (X j)) (hi : i < n) (hnm : n ≤ m) (h : overB X n i = true) : BadR (rendF X i) n m (i + 1) := by
 have eg : rgl X i = gls X i := rgls_fin (finL_drop (hf i hi) i)
 rcases over_in h with ⟨j, hij, hj, hb⟩ | hb
 ·refine ⟨j, hj, .inr ⟨by omega, ?_⟩⟩
  have hcl := cnL_mirW (h := gls X i) (i := i) (cnL_fin (hf j hj))
  obtain ⟨z, hz, hzf⟩ := List.all_eq_false.1 hb
  obtain ⟨p, hp, rfl⟩ := List.mem_iff_getElem.1 hz
  have hpl : p < m := by rw [length_mirW, hl j hj] at hp; exact hp
  have e2 : (mirW (gls X i) i (X j)).getD p 0 = (mirW (gls X i) i (X j))[p] := by rw [List.getD, List.getElem?_eq_getElem hp]; rfl
  refine ⟨p, hpl, ?_⟩
  unfold rendF
  rw [if_neg (by omega), if_pos hij, eg]
  refine (nf_dec (hcl p).1).2 ?_
  rw [e2]
  simpa using hzf
 ·refine ⟨i, hi, .inl ⟨by omega, i, Nat.le_refl _, ?_⟩⟩
  unfold rendF
  rw [if_pos rfl, clr_at (by rw [hl i hi]; omega), eg]
  have hal := alpha_lt ((X i).drop i)
  exact (nf_dec hal).2 ((finQ_fin hal).symm.trans hb)
theorem bad_on {X : Nat → List Nat} {n m : Nat} (hnm : n ≤ m) (hr : ∀ i, i ≤ n → RtrI X n m i) {i : Nat} (hi : i ≤ n) (h : BadR (rtriTo X i) n m i) : ∀ d, i + d ≤ n → BadR (rtriTo X (i + d)) n m (i + d)
 | 0, _ => h
 | d + 1, hd => by
  have hd2 : i + d + 1 ≤ n := by omega
  have h1 := bad_on hnm hr hi h d (by omega)
  have h2 := hr (i + d) (by omega)
  exact bad_step h2.hl h2.hc hd2 hnm h1
theorem rtr_all {X : Nat → List Nat} {n m : Nat} (h : RtrI X n m 0) : ∀ i, i ≤ n → RtrI X n m i
 | 0, _ => h
 | i + 1, hi => rtrI_step (rtr_all h i (by omega)) (by omega)
theorem rtr_tri {X : Nat → List Nat} {n m : Nat} (hnm : n ≤ m) (h0 : TriI X n m 0) (hr : RtrI X n m 0) : toldR n n (rtriG X n) = triR X n := by
 have hra := rtr_all hr
 have hgl : ∀ z, z ∈ rtriG X n ↔ ∃ a b, a < n ∧ b < n ∧ z = rtriN (rtriTo X n) a b := fun z => by
  unfold rtriG
  constructor
  ·intro hz
   obtain ⟨k, hk, e⟩ := List.mem_iff_getElem.1 hz
   have hk2 : k < n * n := by rw [length_grid] at hk; simpa using hk
   have hn0 : 0 < n := by
    rcases Nat.eq_zero_or_pos n with h | h
    ·rw [h] at hk2; omega
    ·exact h
   have g := grid_get (n : Int) (n : Int) (fun i j => rtriN (rtriTo X n) i.toNat j.toNat) (k := k) (by simpa using hk2)
   rw [List.getD, List.getElem?_eq_getElem hk] at g
   refine ⟨k / n, k % n, ?_, Nat.mod_lt _ hn0, ?_⟩
   ·exact (Nat.div_lt_iff_lt_mul hn0).2 hk2
   ·rw [← e]; exact g
  ·rintro ⟨a, b, ha, hb, rfl⟩
   have hlt := place_lt ha hb
   have g := grid_at (n : Int) (n : Int) (fun i j => rtriN (rtriTo X n) i.toNat j.toNat) (i := a) (j := b) ha hb
   have hlen : a * n + b < (grid (n : Int) (n : Int) fun i j => rtriN (rtriTo X n) i.toNat j.toNat).length := by rw [length_grid]; exact hlt
   have g2 : (grid (n : Int) (n : Int) fun i j => rtriN (rtriTo X n) i.toNat j.toNat).getD (a * n + b) 0 = rtriN (rtriTo X n) a b := g
   rw [← g2, List.getD, List.getElem?_eq_getElem hlen]
   exact List.getElem_mem hlen
 by_cases hb : triB X n = true
 ·have hb2 := hb
  unfold triB at hb2
  -- the first step that is over
  obtain ⟨i, hi, ho, hbefore⟩ : ∃ i, i < n ∧ overB (triTo X i) n i = true ∧ ∀ p, p < i → overB (triTo X p) n p = false := by
   obtain ⟨i, hi, ho⟩ := List.any_eq_true.1 hb2
   have hi := List.mem_range.1 hi
   clear hb hb2
   rename_i hi0
   clear hi0
   induction i using Nat.strongRecOn with
   | _ i ih =>
    by_cases hc : ∃ p, p < i ∧ overB (triTo X p) n p = true
    ·obtain ⟨p, hp, hpo⟩ := hc
     exact ih p hp hpo (by omega)
    ·exact ⟨i, hi, ho, fun p hp => by
      cases hv : overB (triTo X p) n p
      ·rfl
      ·exact (hc ⟨p, hp, hv⟩).elim⟩
  have ht := tri_at h0 hbefore
  have hs := rtr_same h0 hbefore (by omega)
  have hbad : BadR (rtriTo X (i + 1)) n m (i + 1) := by
   have h1 := bad_first ht.hl ht.hf hi hnm ho
   have eX : ∀ j, j < n → rendF (rtriTo X i) i j = rendF (triTo X i) i j := fun j hj => by
    have e : rgl (rtriTo X i) i = rgl (triTo X i) i := by unfold rgl; rw [hs i hi]
    unfold rendF
    rw [e, hs j hj, hs i hi]
   obtain ⟨j, hj, h2⟩ := h1
   rw [← eX j hj] at h2
   exact ⟨j, hj, h2⟩
  have hend := bad_on hnm hra (show i + 1 ≤ n by omega) hbad (n - (i + 1)) (by omega)
  rw [show i + 1 + (n - (i + 1)) = n by omega] at hend
  obtain ⟨j, hj, h2⟩ := hend
  rcases h2 with ⟨_, p, hp, hn⟩ | ⟨h2, _⟩
  ·have hcn := (hra n (Nat.le_refl n)).hc j hj
   have hz : rtriN (rtriTo X n) j p ∈ rtriG X n := (hgl _).2 ⟨j, p, hj, by omega, rfl⟩
   have hnf := tid_nf (hcn p).1 hn (fcmp .lss ((rtriTo X n p).getD p 0) 0)
   have hall : (rtriG X n).all finB = false := by
    cases hv : (rtriG X n).all finB
    ·rfl
    ·have := List.all_eq_true.1 hv _ hz
     unfold rtriN at this
     rw [(nf_dec hnf.2).1 hnf.1] at this
     cases this
   unfold toldR triR
   rw [if_pos hall, if_pos hb]
  ·omega
 ·have ho : ∀ p, p < n → overB (triTo X p) n p = false := fun p hp => by
   cases hv : overB (triTo X p) n p
   ·rfl
   ·exact (hb (by unfold triB; exact List.any_eq_true.2 ⟨p, List.mem_range.2 hp, hv⟩)).elim
  have ht := tri_at h0 ho
  have hs := rtr_same h0 ho (Nat.le_refl n)
  have hv : ∀ a b, a < n → b < n → rtriN (rtriTo X n) a b = triN (triTo X n) a b ∧ finB (rtriN (rtriTo X n) a b) = true := fun a b ha hb => by
   unfold rtriN triN
   rw [hs a ha, hs b hb]
   have hf := ht.hf a ha b
   have hr2 := tid_rung hf.2 ((finB_iff hf.2).1 hf.1) (fcmp .lss ((triTo X n b).getD b 0) 0)
   exact ⟨tid_fin hf.2 hf.1 _, (finB_iff hr2.2).2 hr2.1⟩
  have hall : ¬ (rtriG X n).all finB = false := by
   rw [Bool.not_eq_false, List.all_eq_true]
   intro z hz
   obtain ⟨a, b, ha, hb, rfl⟩ := (hgl z).1 hz
   exact (hv a b ha hb).2
  have hg : rtriG X n = triG X n := by
   unfold rtriG triG
   refine grid_congr fun i j h1 h2 h3 h4 => ?_
   exact (hv i.toNat j.toNat (by omega) (by omega)).1
  unfold toldR triR
  rw [if_neg hall, if_neg hb, hg]
theorem mirG_take {v : List Nat} {t : Nat} {a : List Nat} {j : Nat} (hj : j < a.length) : (mirG v t a).take (j + 1) = (mirG v t a).take j ++ [fsub (a.getD j 0) (fmul t (v.getD j 0))] := by
 rw [take_snoc 0 (show j < (mirG v t a).length by rw [length_mirG]; exact hj)]
 congr 2
 unfold mirG
 rw [List.getD, List.getElem?_map, List.getElem?_range hj]
 rfl
theorem map_at {F : Nat → List Nat} {n k : Nat} (hk : k < n) : ((List.range n).map F).getD k [] = F k := by
 rw [List.getD, List.getElem?_map, List.getElem?_range hk]
 rfl
theorem nat_and {k n : Nat} {x : Bool} (h : (cmpB .lss (k : Int) (n : Int) && x) = true) : k < n := by
 rw [Bool.and_eq_true] at h
 have := h.1
 simp [cmpB] at this
 exact this
theorem neq_and {b : Bool} {x : Nat} (h : (b && fcmp .neq x 0) = true) : fcmp .eql x 0 = false := by
 rw [Bool.and_eq_true] at h
 have h2 : (!fcmp .eql x 0) = true := h.2
 simpa using h2
theorem neq_or {k n : Nat} {x : Nat} (h : (cmpB .lss (k : Int) (n : Int) && fcmp .neq x 0) = false) (hk : k ≤ n) : k = n ∨ fcmp .eql x 0 = true := by
 by_cases e : k = n
 ·exact .inl e
 ·right
  have h1 : cmpB .lss (k : Int) (n : Int) = true := by simp [cmpB]; omega
  rw [h1, Bool.true_and] at h
  have h2 : (!fcmp .eql x 0) = false := h
  simpa using h2
end Go.Bn
