/-
 A step of the triangle keeps the products of the rows, nearly; so do all.
-/
import Derived.Test.YtllkellonjhalaaGreatOoHrw
import Derived.Test.YtllkellonjhalaaGreatOoExm
set_option linter.unusedVariables false
set_option linter.unusedSimpArgs false
namespace Go.Bn
open Go
def cH (h : Gls) : Rat := (rv h.w)⁻¹
theorem houV_c {xs : List Nat} {h : Gls} {c N : Rat} (v : HouV xs h c N) : c = cH h := by
 have := v.cw
 unfold cH
 generalize rv h.w = W at *
 have : W ≠ 0 := by
  intro h0
  rw [h0] at this
  grind
 grind
theorem hou_flt2 {xs : List Nat} {N : Rat} (hF : FinL xs) (hn : xs.length ≤ 48) (hb : powB xs = true) (fa : rung (houseL xs).alpha < 9218868437227405312) (hx : Nb (rl xs) xs.length N) (hN : ep ≤ uu * N) : HouV xs (houseL xs) (cH (houseL xs)) N := by
 obtain ⟨c, h⟩ := hou_flt hF hn hb fa hx hN
 have e := houV_c h
 rw [e] at h
 exact h
theorem rv_zero : rv 0 = 0 := rv_0 (by decide +kernel)
theorem rl_out {xs : List Nat} {k : Nat} (h : xs.length ≤ k) : rl xs k = 0 := by
 show rv (xs.getD k 0) = 0
 rw [List.getD, List.getElem?_eq_none h]
 exact rv_zero
theorem rv_nil {x : Nat} (h : rv x = 0) : sval x = 0 := by
 unfold rv at h
 have hp := ep_pos
 have h2 : ((sval x : Int) : Rat) = 0 := by
  rcases Rat.mul_eq_zero.1 h with q | q
  ·exact q
  ·rw [q] at hp; grind
 exact_mod_cast h2
theorem rv_vnil {x : Nat} (h : vlu x = 0) : rv x = 0 := rv_0 (by have := sval_abs x; omega)
theorem pow_nil {xs : List Nat} (hF : FinL xs) (hb : powB xs = false) : ∀ k, rl xs k = 0 := fun k => by
 by_cases hk : k < xs.length
 ·have m1 := maxTo_fin hF xs.length
  have mr := (finB_iff m1.1).1 m1.2
  have h0 : vlu (maxL xs) = 0 := by
   unfold powB at hb
   have h1 : fcmp .eql (maxL xs) 0 = true := by simpa using hb
   have h2 := eql_zero (x := maxL xs) m1.1 mr
   rw [h1] at h2
   exact of_decide_eq_true h2.symm
  have h3 := (max_spec hF xs.length).2.1 k hk
  have h4 : vlu (maxTo xs xs.length) = 0 := h0
  exact rv_vnil (by omega)
 ·exact rl_out (by omega)
theorem pow_some {xs : List Nat} (hF : FinL xs) (hb : powB xs = true) : ¬ ∀ k, rl xs k = 0 := fun h => by
 obtain ⟨i, hi, e, _⟩ := scl_max hF hb
 have h1 := (powK_spec hF hb).1
 have h2 := rv_nil (h i)
 have := sval_abs (xs.getD i 0)
 omega
theorem any_nb (r : Rvc) (n : Nat) : Nb r n (dt r r n + 1) := by
 have h := dt_nn r n
 refine ⟨by grind, ?_⟩
 have := r_mul h h
 grind
theorem any_ep (r : Rvc) (n : Nat) : ep ≤ uu * (dt r r n + 1) := by
 have h := r_mul uu_nn (dt_nn r n)
 have := ep_small
 have := uu_nn
 grind
theorem dot_nil2 {a v : List Nat} (fa : ∀ k, rung (a.getD k 0) < 9218868437227405312) (hz : ∀ k, sval (a.getD k 0) = 0) : ∀ n, (∀ k, k < n → rung (v.getD k 0) < 9218868437227405312) → rung (dotTo a v n) < 9218868437227405312 ∧ sval (dotTo a v n) = 0
 | 0, _ => by
  rw [dot_nil]
  constructor <;> decide +kernel
 | n + 1, hv => by
  obtain ⟨h1, h2⟩ := dot_nil2 fa hz n fun k hk => hv k (by omega)
  obtain ⟨m1, m2⟩ := fmul_nil (fa n) (hv n (by omega)) (.inl (hz n))
  rw [dot_suc]
  have hl : dotTo a v n < 2 ^ 64 := by
   cases n with
   | zero => rw [dot_nil]; decide
   | succ n => exact fop_lt (op := .add)
  obtain ⟨q1, q2⟩ := fadd_nil hl h1 m1 m2
  exact ⟨q1, by rw [q2, h2]⟩
theorem mirG_nil {a v : List Nat} {w : Nat} (h0 : 0 < a.length) (fa : FinL a) (hz : ∀ k, sval (a.getD k 0) = 0) (fw : rung w < 9218868437227405312) (mw : mgn w ≠ 0)
  (hf : ∀ k, k < a.length → rung ((mirG v (mirT v w a) a).getD k 0) < 9218868437227405312) : ∀ k, rl (mirG v (mirT v w a) a) k = 0 := fun k => by
 by_cases hk : k < a.length
 ·have fk : ∀ k, k < a.length → rung (fsub (a.getD k 0) (fmul (mirT v w a) (v.getD k 0))) < 9218868437227405312 := fun k hk => by rw [← getD_mirG hk]; exact hf k hk
  have fv : ∀ k, k < a.length → rung (v.getD k 0) < 9218868437227405312 := fun k hk => (fmul_fin2 (fsub_fin2 (fk k hk)).2).2
  obtain ⟨d1, d2⟩ := dot_nil2 (v := v) (finL_r fa) hz a.length fv
  obtain ⟨t1, t2⟩ := fdiv_nil d1 fw d2 mw
  obtain ⟨q1, q2⟩ := fmul_nil (x := mirT v w a) (y := v.getD k 0) t1 (fv k hk) (.inl t2)
  show rv ((mirG v (mirT v w a) a).getD k 0) = 0
  rw [getD_mirG hk]
  have ql : fmul (mirT v w a) (v.getD k 0) < 2 ^ 64 := fop_lt (op := .mul)
  obtain ⟨n1, n2, n3⟩ := fneg_val ql q1
  rw [fsub_add (finL_r fa k) ql q1]
  refine rv_0 ?_
  rw [(fadd_nil (fa k).2 (finL_r fa k) n2 (by rw [n3, q2]; rfl)).2]
  exact hz k
 ·exact rl_out (by rw [length_mirG]; omega)
theorem rl_drop (xs : List Nat) (p : Nat) : rl (xs.drop p) = fun k => rl xs (p + k) := by
 funext k
 show rv _ = rv _
 rw [getD_drop]
theorem rl_clr {x : List Nat} {p a k : Nat} (hp : p < x.length) : rl ((clrR x p).set p a) k = if k < p then rl x k else if k = p then rv a else 0 := by
 show rv (((clrR x p).set p a).getD k 0) = _
 by_cases hk : k = p
 ·subst hk
  rw [if_neg (by omega), if_pos rfl, List.getD, List.getElem?_set_self (by rw [length_clrR]; exact hp)]
  rfl
 ·have e : ((clrR x p).set p a).getD k 0 = (clrR x p).getD k 0 := by rw [List.getD, List.getElem?_set_ne (by omega)]; rfl
  rw [e]
  unfold clrR
  rw [getD_app, List.length_take]
  by_cases h : k < p
  ·rw [if_pos (by omega), if_pos h, getD_tak h]; rfl
  ·rw [if_neg (by omega), if_neg h, if_neg hk, getD_rep]
   exact rv_zero
def Big (r : Rvc) (N : Rat) : Prop := 10000 * ep ≤ uu * N ∨ ∀ k, r k = 0
structure StepV (Y : Nat → List Nat) (n L p : Nat) (v : Rvc) (c : Rat) : Prop where
 m : Mir v c L
 z : ∀ k, k < p → v k = 0
 near : ∀ j, j < n → ∀ N, Nb (rl (Y j)) L N → Big (rl (Y j)) N → Near v c L (rl (Y j)) (rl (endF Y p j)) N
 near2 : ∀ x : List Nat, x.length = L → FinL x → (mirW (gls Y p) p x).all finB = true → ∀ N, Nb (rl x) L N → Big (rl x) N → Near v c L (rl x) (rl (mirW (gls Y p) p x)) N
theorem step_all {Y : Nat → List Nat} {n L p : Nat} (hl : ∀ j, j < n → (Y j).length = L) (hL : L ≤ 48) (hp : p < n) (hnL : n ≤ L) (hF : ∀ j, j < n → FinL (Y j)) (hmid : ∀ j, p < j → j < n → (mirW (gls Y p) p (Y j)).all finB = true) (hal : finQ (gls Y p).alpha = true)
  (hz : ∀ j, j < p → ∀ k, j < k → rl (Y j) k = 0) : ∃ v c, StepV Y n L p v c := by
 have hdl : ∀ j, j < n → ((Y j).drop p).length = L - p := fun j hj => by rw [List.length_drop, hl j hj]
 have hdF : ∀ j, j < n → FinL ((Y j).drop p) := fun j hj => finL_drop (hF j hj) p
 have eL : p + (L - p) = L := by omega
 have hpl : p < (Y p).length := by rw [hl p hp]; omega
 have hg : gls Y p = houseL ((Y p).drop p) := rfl
 have hlow : ∀ j, j < p → ∀ k, k < p + (L - p) → (∀ (v : Rvc), dt (fun k => rl (Y j) (p + k)) v (L - p) = 0) := fun j hj k _ v => dt_0 fun i _ => hz j hj (p + i) (by omega)
 have fa : rung (houseL ((Y p).drop p)).alpha < 9218868437227405312 := by
  have hal2 := alpha_lt ((Y p).drop p)
  exact (finB_iff hal2).1 ((finQ_fin hal2).symm.trans hal)
 cases hb : powB ((Y p).drop p)
 ·-- the rest of the row is nought: nothing turns
  have hh : houseL ((Y p).drop p) = ⟨List.replicate ((Y p).drop p).length 0, 0, 0⟩ := by unfold houseL; rw [if_neg (by rw [hb]; decide)]
  have hz0 := pow_nil (hdF p hp) hb
  rw [rl_drop] at hz0
  have hW : ∀ x : List Nat, mirW (gls Y p) p x = x := fun x => by
   unfold mirW mirL
   rw [hg, hh]
   show x.take p ++ (if fcmp .eql 0 0 = true then x.drop p else _) = x
   rw [if_pos (by decide +kernel), List.take_append_drop]
  refine ⟨fun _ => 0, 0, ⟨⟨(bd_zero om_nn).eq (by grind)⟩, fun _ _ => rfl, fun j hj N hN hB => ?_, fun x _ _ _ N hN _ => by
   rw [hW]
   exact near_still hN.h0 (by rw [dt_comm]; exact dt_0 fun _ _ => rfl)⟩⟩
  have e : ∀ k, rl (endF Y p j) k = rl (Y j) k := fun k => by
   unfold endF
   by_cases h1 : j = p
   ·subst h1
    rw [if_pos rfl, hg, hh, rl_clr hpl]
    by_cases hk : k < j
    ·rw [if_pos hk]
    ·have h3 : rl (Y j) k = 0 := by
      have : rl (Y j) (j + (k - j)) = 0 := hz0 (k - j)
      rwa [show j + (k - j) = k by omega] at this
     rw [if_neg hk, h3]
     split
     ·exact rv_zero
     ·rfl
   ·rw [if_neg h1]
    split
    ·rw [hW]
    ·rfl
  have e2 : rl (endF Y p j) = rl (Y j) := funext e
  rw [e2]
  exact near_still hN.h0 (by rw [dt_comm]; exact dt_0 fun _ _ => rfl)
 ·have hd48 : ((Y p).drop p).length ≤ 48 := by rw [hdl p hp]; omega
  have H := fun N => hou_flt2 (N := N) (hdF p hp) hd48 hb fa
  obtain ⟨h, hh⟩ : ∃ h, h = houseL ((Y p).drop p) := ⟨_, rfl⟩
  rw [← hh] at H fa
  rw [← hh] at hg
  obtain ⟨V, G⟩ := (H _ (any_nb _ _) (any_ep _ _)).g
  have hvl : h.v.length = L - p := by rw [hh, length_houseL, hdl p hp]
  have key : ∀ x : List Nat, x.length = L → FinL x → (mirW h p x).all finB = true → ∀ N, Nb (rl x) L N → Big (rl x) N → Near (shf (rl h.v) p) (cH h) L (rl x) (rl (mirW h p x)) N := fun x hx1 hx2 hm N hN hB => by
   have hxd : (x.drop p).length = L - p := by rw [List.length_drop, hx1]
   have hxF : FinL (x.drop p) := finL_drop hx2 p
   have hvp := H _ (any_nb _ _) (any_ep _ _)
   have eM : mirL h.v h.w (x.drop p) = mirG h.v (mirT h.v h.w (x.drop p)) (x.drop p) := by unfold mirL; rw [if_neg (by rw [hvp.w0]; decide)]
   have gM : ∀ k, (mirW h p x).getD k 0 = if k < p then x.getD k 0 else (mirG h.v (mirT h.v h.w (x.drop p)) (x.drop p)).getD (k - p) 0 := fun k => by
    rw [getD_mirW (by rw [hx1]; omega), eM]
   have hfin : ∀ k, k < (x.drop p).length → rung ((mirG h.v (mirT h.v h.w (x.drop p)) (x.drop p)).getD k 0) < 9218868437227405312 := fun k hk => by
    have hlt := ltL_mirW (h := h) (i := p) (hx2) (p + k)
    have := (finB_iff hlt).1 (finB_getD hm (p + k))
    rw [gM, if_neg (by omega), show p + k - p = k by omega] at this
    exact this
   have r2 : ∀ k, rl (mirW h p x) (p + k) = rl (mirG h.v (mirT h.v h.w (x.drop p)) (x.drop p)) k := fun k => by
    show rv _ = rv _
    rw [gM, if_neg (by omega), show p + k - p = k by omega]
   have r1 : ∀ k, k < p → rl (mirW h p x) k = rl x k := fun k hk => by
    show rv _ = rv _
    rw [gM, if_pos hk]
   rcases hB with hB | hB
   ·have hN2 : Nb (rl (x.drop p)) (x.drop p).length N := by
     rw [rl_drop, hxd]
     exact nb_suf (by rw [eL]; exact hN)
    have nv := G.hv
    rw [hdl p hp] at nv
    have hn := mir_flt (a := x.drop p) (v := h.v) (w := h.w) (c := cH h) (N := N) (V := V) (by rw [hvl, hxd]) (by rw [hxd]; omega) (by rw [hxd]; omega) hvp.lv hvp.w hvp.sw hvp.mw hfin G.c0 G.c2 hvp.cw hN2 (by rw [hxd]; exact nv) G.v50 G.cV hB
    rw [hxd, rl_drop] at hn
    have := near_lift (p := p) (r := rl x) (r2 := rl (mirW h p x)) (v := rl h.v) (c := cH h) (m := L - p) (N := N) r1 (by
     refine nm_congr hn fun k hk => ?_
     show rl (mirW h p x) (p + k) - _ = _
     rw [r2])
    rw [eL] at this
    exact this
   ·have hz2 := mirG_nil (a := x.drop p) (v := h.v) (w := h.w) (by rw [hxd]; omega) (hxF) (fun k => by
     have := hB (p + k)
     rw [getD_drop]
     exact rv_nil this) hvp.w hvp.mw hfin
    have e2 : rl (mirW h p x) = rl x := by
     funext k
     by_cases hk : k < p
     ·exact r1 k hk
     ·have := r2 (k - p)
      rw [show p + (k - p) = k by omega] at this
      rw [this, hz2, hB]
    rw [e2]
    exact near_still hN.h0 (dt_0 fun k _ => hB k)
  refine ⟨shf (rl h.v) p, cH h, ⟨?_, fun k hk => by unfold shf; rw [if_pos hk], fun j hj N hN hB => ?_, fun x a1 a2 a3 N a4 a5 => by rw [hg] at a3 ⊢; exact key x a1 a2 a3 N a4 a5⟩⟩
  ·have := mir_lift (p := p) G.mir
   rw [hdl p hp, eL] at this
   exact this
  ·by_cases h1 : j = p
   ·subst h1
    have hN2 : Nb (rl ((Y j).drop j)) ((Y j).drop j).length N := by
     rw [rl_drop, hdl j hp]
     exact nb_suf (by rw [eL]; exact hN)
    have hep : 10000 * ep ≤ uu * N := by
     rcases hB with h2 | h2
     ·exact h2
     ·exact absurd (fun k => by rw [rl_drop]; exact h2 _) (pow_some (hdF j hp) hb)
    obtain ⟨V2, G2⟩ := (H N hN2 (by have := ep_nn; grind)).g
    have hn := G2.near
    rw [hdl j hp] at hn
    have e : endF Y j j = (clrR (Y j) j).set j h.alpha := by unfold endF; rw [if_pos rfl, hg]
    rw [e]
    have := near_lift (p := j) (r := rl (Y j)) (r2 := rl ((clrR (Y j) j).set j h.alpha)) (v := rl h.v) (c := cH h) (m := L - j) (N := N) (fun k hk => by rw [rl_clr hpl, if_pos hk]) (by
     rw [rl_drop] at hn
     refine nm_congr hn fun k hk => ?_
     show rl ((clrR (Y j) j).set j h.alpha) (j + k) - _ = _
     rw [rl_clr hpl, if_neg (by omega)]
     by_cases hk0 : k = 0
     ·rw [if_pos (by omega)]
      show _ = (if k = 0 then _ else _) - _
      rw [if_pos hk0]
     ·rw [if_neg (by omega)]
      show _ = (if k = 0 then _ else _) - _
      rw [if_neg hk0])
    rw [eL] at this
    exact this
   ·by_cases h2 : p < j
    ·have e : endF Y p j = mirW h p (Y j) := by unfold endF; rw [if_neg h1, if_pos h2, hg]
     rw [e]
     have hm := hmid j h2 hj
     rw [hg] at hm
     exact key (Y j) (hl j hj) (hF j hj) hm N hN hB
    ·have e : endF Y p j = Y j := by unfold endF; rw [if_neg h1, if_neg h2]
     rw [e]
     refine near_still hN.h0 ?_
     rw [← eL, shf_dt]
     exact hlow j (by omega) 0 (by omega) _
theorem over_yes {X : Nat → List Nat} {n i : Nat} (h : overB X n i = false) : (∀ j, i < j → j < n → (mirW (gls X i) i (X j)).all finB = true) ∧ finQ (gls X i).alpha = true := by
 unfold overB at h
 rw [Bool.or_eq_false_iff] at h
 obtain ⟨h1, h2⟩ := h
 refine ⟨fun j hij hj => ?_, by simpa using h2⟩
 rw [List.any_eq_false] at h1
 have := h1 j (List.mem_range.2 hj)
 simpa [hij] using this
theorem triI_all {X : Nat → List Nat} {n L : Nat} (hl : ∀ j, j < n → (X j).length = L) (hF : ∀ j, j < n → FinL (X j)) (h : triB X n = false) : ∀ i, i ≤ n → TriI X n L i
 | 0, _ => ⟨hl, hF, fun p hp => absurd hp (Nat.not_lt_zero p)⟩
 | i + 1, hi => by
  unfold triB at h
  rw [List.any_eq_false] at h
  have h2 := over_yes (by simpa using h i (List.mem_range.2 (by omega)))
  exact triI_step (triI_all hl hF (by unfold triB; rw [List.any_eq_false]; exact h) i (by omega)) h2.1 h2.2
theorem tri_low {X : Nat → List Nat} {n L : Nat} (hnL : n ≤ L) (hT : ∀ i, i ≤ n → TriI X n L i) : ∀ p, p ≤ n → ∀ j, j < p → ∀ k, j < k → rl (triTo X p j) k = 0
 | 0, _, j, hj, _, _ => absurd hj (Nat.not_lt_zero j)
 | p + 1, hp, j, hj, k, hk => by
  show rl (endF (triTo X p) p j) k = 0
  unfold endF
  have hlen := (hT p (by omega)).hl p (by omega)
  by_cases h1 : j = p
  ·subst h1
   rw [if_pos rfl, rl_clr (by omega), if_neg (by omega), if_neg (by omega)]
  ·rw [if_neg h1, if_neg (by omega)]
   exact tri_low hnL hT p (by omega) j (by omega) k hk
structure RowN (r : Rvc) (L : Nat) (N : Rat) : Prop where
 h0 : 0 ≤ N
 h : 1000 * dt r r L ≤ 999 * (N * N)
 b : 10000 * ep ≤ uu * N ∨ N = 0
theorem gram_nb {x y : Rvc} {L p : Nat} {N : Rat} (h : RowN x L N) (hp : p ≤ 12) (g : Bd (dt y y L - dt x x L) ((p : Rat) * ga * (N * N))) : Nb y L N := by
 refine ⟨h.h0, ?_⟩
 have h1 := h.h
 have h2 := g.2
 have h3 := r_mul h.h0 h.h0
 have h4 : (p : Rat) ≤ 12 := by exact_mod_cast hp
 have h5 : (p : Rat) * ga * (N * N) ≤ 12 * ga * (N * N) := r_mm (r_mm h4 Rat.le_refl (by grind) (by unfold ga; grind)) Rat.le_refl (by unfold ga; grind) h3
 generalize (p : Rat) * ga * (N * N) = q at *
 unfold ga at *
 grind
theorem nb_zero {xs : List Nat} {L : Nat} (hl : xs.length = L) (h : Nb (rl xs) L 0) : ∀ k, rl xs k = 0 := fun k => by
 by_cases hk : k < L
 ·exact dt_nil (by have := h.h; grind) k hk
 ·exact rl_out (by omega)
theorem gram_all {X : Nat → List Nat} {n L : Nat} {N : Nat → Rat} (hn : n ≤ 12) (hL : L ≤ 48) (hnL : n ≤ L) (hT : ∀ i, i ≤ n → TriI X n L i) (hN : ∀ j, j < n → RowN (rl (X j)) L (N j)) :
  ∀ p, p ≤ n → ∀ i j, i < n → j < n → Bd (dt (rl (triTo X p i)) (rl (triTo X p j)) L - dt (rl (X i)) (rl (X j)) L) ((p : Rat) * ga * (N i * N j))
 | 0, _, i, j, hi, hj => by
  have e : dt (rl (triTo X 0 i)) (rl (triTo X 0 j)) L - dt (rl (X i)) (rl (X j)) L = 0 := by
   show dt (rl (X i)) (rl (X j)) L - dt (rl (X i)) (rl (X j)) L = 0
   grind
  rw [e]
  refine bd_zero ?_
  have : (((0 : Nat)) : Rat) = 0 := rfl
  rw [this]
  grind
 | p + 1, hp, i, j, hi, hj => by
  have ih := gram_all hn hL hnL hT hN p (by omega)
  have T := hT p (by omega)
  obtain ⟨h1, h2⟩ := over_yes ((hT (p + 1) hp).ho p (by omega))
  obtain ⟨v, c, S⟩ := step_all (n := n) (L := L) (p := p) T.hl hL (by omega) hnL T.hf h1 h2 (tri_low hnL hT p (by omega))
  have nb : ∀ a, a < n → Nb (rl (triTo X p a)) L (N a) := fun a ha => gram_nb (hN a ha) (by omega) (ih a a ha ha)
  have bg : ∀ a, a < n → Big (rl (triTo X p a)) (N a) := fun a ha => by
   rcases (hN a ha).b with b | b
   ·exact .inl b
   ·right
    have := nb a ha
    rw [b] at this
    exact nb_zero (T.hl a ha) this
  have st := step_dt S.m (nb i hi) (nb j hj) (S.near i hi _ (nb i hi) (bg i hi)) (S.near j hj _ (nb j hj) (bg j hj))
  refine ((st.add (ih i j hi hj)).up ?_).eq ?_
  ·have : (((p + 1 : Nat)) : Rat) = (p : Rat) + 1 := by push_cast; rfl
   rw [this]
   grind
  ·show dt (rl (endF (triTo X p) p i)) (rl (endF (triTo X p) p j)) L - _ = _
   grind
end Go.Bn
namespace Go.Bn
open Go
theorem getD_clr {x : List Nat} {p a k : Nat} (hp : p < x.length) : ((clrR x p).set p a).getD k 0 = if k < p then x.getD k 0 else if k = p then a else 0 := by
 by_cases hk : k = p
 ·subst hk
  rw [if_neg (by omega), if_pos rfl, List.getD, List.getElem?_set_self (by rw [length_clrR]; exact hp)]
  rfl
 ·have e : ((clrR x p).set p a).getD k 0 = (clrR x p).getD k 0 := by rw [List.getD, List.getElem?_set_ne (by omega)]; rfl
  rw [e]
  unfold clrR
  rw [getD_app, List.length_take]
  by_cases h : k < p
  ·rw [if_pos (by omega), if_pos h, getD_tak h]
  ·rw [if_neg (by omega), if_neg h, if_neg hk, getD_rep]
theorem tri_low0 {X : Nat → List Nat} {n L : Nat} (hnL : n ≤ L) (hT : ∀ i, i ≤ n → TriI X n L i) : ∀ p, p ≤ n → ∀ j, j < p → ∀ k, j < k → (triTo X p j).getD k 0 = 0
 | 0, _, j, hj, _, _ => absurd hj (Nat.not_lt_zero j)
 | p + 1, hp, j, hj, k, hk => by
  show (endF (triTo X p) p j).getD k 0 = 0
  unfold endF
  have hlen := (hT p (by omega)).hl p (by omega)
  by_cases h1 : j = p
  ·subst h1
   rw [if_pos rfl, getD_clr (by omega), if_neg (by omega), if_neg (by omega)]
  ·rw [if_neg h1, if_neg (by omega)]
   exact tri_low0 hnL hT p (by omega) j (by omega) k hk
def sgq (x : Nat) : Rat := if fcmp .lss x 0 = true then -1 else 1
theorem sgq_sq (x : Nat) : sgq x * sgq x = 1 := by unfold sgq; split <;> grind
theorem lss_pos {x : Nat} (fx : rung x < 9218868437227405312) (h : fcmp .lss x 0 = true) : sval x < 0 := by
 unfold fcmp at h
 rw [ford_val' fx (by decide), show sval 0 = 0 by decide +kernel] at h
 rcases Int.lt_trichotomy (sval x) 0 with g | g | g
 ·exact g
 ·rw [Int.compare_eq_eq.2 g] at h; cases h
 ·rw [Int.compare_eq_gt.2 g] at h; cases h
theorem lss_neg {x : Nat} (fx : rung x < 9218868437227405312) (h : ¬ fcmp .lss x 0 = true) : 0 ≤ sval x := by
 unfold fcmp at h
 rw [ford_val' fx (by decide), show sval 0 = 0 by decide +kernel] at h
 rcases Int.lt_trichotomy (sval x) 0 with g | g | g
 ·rw [Int.compare_eq_lt.2 g] at h; exact absurd rfl h
 ·omega
 ·omega
theorem geq_of {x : Nat} (fx : rung x < 9218868437227405312) (h : 0 ≤ sval x) : fcmp .geq x 0 = true := by
 unfold fcmp
 rw [ford_val' fx (by decide), show sval 0 = 0 by decide +kernel]
 rcases Int.lt_trichotomy (sval x) 0 with g | g | g
 ·omega
 ·rw [Int.compare_eq_eq.2 g]; rfl
 ·rw [Int.compare_eq_gt.2 g]; rfl
theorem triN_dia {X : Nat → List Nat} {i : Nat} (hF : FinL (X i)) : fcmp .geq (triN X i i) 0 = true := by
 have hx := (hF i).2
 have fx := finL_r hF i
 have z : sval 0 = 0 := by decide +kernel
 have fz : rung 0 < 9218868437227405312 := by decide
 obtain ⟨n1, n2, n3⟩ := fneg_val hx fx
 unfold triN
 split
 ·rename_i h
  obtain ⟨q1, q2⟩ := fadd_nil n1 n2 fz z
  have := lss_pos fx h
  exact geq_of q1 (by rw [q2, n3]; omega)
 ·rename_i h
  obtain ⟨q1, q2⟩ := fadd_nil hx fx fz z
  exact geq_of q1 (by rw [q2]; exact lss_neg fx h)
theorem root_of : ∀ A : Nat, ∃ s, s * s ≤ A ∧ A < (s + 1) * (s + 1)
 | 0 => ⟨0, by decide, by decide⟩
 | A + 1 => by
  obtain ⟨s, h1, h2⟩ := root_of A
  by_cases h : (s + 1) * (s + 1) ≤ A + 1
  ·refine ⟨s + 1, h, ?_⟩
   have : (s + 1 + 1) * (s + 1 + 1) = (s + 1) * (s + 1) + (2 * s + 3) := by grind
   omega
  ·exact ⟨s, by omega, by omega⟩
def TameL (xs : List Nat) : Prop := ∀ k, sval (xs.getD k 0) = 0 ∨ 10000 * UU ≤ vlu (xs.getD k 0)
theorem row_n {xs : List Nat} (L : Nat) (h : TameL xs) : ∃ N, RowN (rl xs) L N ∧ N * N ≤ 105 / 100 * dt (rl xs) (rl xs) L := by
 by_cases hz : ∀ k, k < L → sval (xs.getD k 0) = 0
 ·have e0 : dt (rl xs) (rl xs) L = 0 := dt_0 (a := rl xs) fun k hk => rv_0 (hz k hk)
  refine ⟨0, ⟨by grind, ?_, .inr rfl⟩, ?_⟩
  ·rw [e0]; grind
  ·rw [e0]; grind
 ·obtain ⟨k, hk⟩ : ∃ k, ¬ (k < L → sval (xs.getD k 0) = 0) := Classical.not_forall.1 hz
  have hkL : k < L := Classical.byContradiction fun hc => hk fun h => absurd h hc
  have hv : 10000 * UU ≤ vlu (xs.getD k 0) := (h k).resolve_left fun e => hk fun _ => e
  have hA := sq_at (ys := xs) hkL
  obtain ⟨s, s1, s2⟩ := root_of (sqV xs L)
  have hs : 10000 * UU ≤ s := by
   refine Nat.le_trans hv ?_
   have h1 : vlu (xs.getD k 0) * vlu (xs.getD k 0) < (s + 1) * (s + 1) := Nat.lt_of_le_of_lt hA s2
   have h2 : vlu (xs.getD k 0) < s + 1 := Nat.mul_self_lt_mul_self_iff.1 h1
   omega
  have eA := rv_sq xs L
  have r1 : (s : Rat) * (s : Rat) ≤ ((sqV xs L : Nat) : Rat) := by exact_mod_cast s1
  have r2 : ((sqV xs L : Nat) : Rat) ≤ ((s : Rat) + 1) * ((s : Rat) + 1) := by exact_mod_cast Nat.le_of_lt s2
  have r3 : 10000 * ((UU : Nat) : Rat) ≤ (s : Rat) := by exact_mod_cast hs
  have r4 : (10000 : Rat) ≤ (s : Rat) := by exact_mod_cast (show 10000 ≤ s from Nat.le_trans (by decide) hs)
  have ee := r_mul ep_nn ep_nn
  rw [← eA]
  have hu6 := uu_UU
  have hu := uu_nn
  have hen := ep_nn
  generalize ((sqV xs L : Nat) : Rat) = A at *
  generalize ((UU : Nat) : Rat) = U at *
  generalize (s : Rat) = t at *
  obtain ⟨e, he⟩ : ∃ e, e = ep := ⟨_, rfl⟩
  rw [← he] at ee hen ⊢
  refine ⟨(t + 1) * (1001 / 1000) * e, ⟨?_, ?_, .inl ?_⟩, ?_⟩
  ·exact r_mul (r_mul (by grind) (by grind)) hen
  ·rw [← eA, ← he]
   have h1 := r_mml ee r2
   have h3 := r_mul ee (r_mul (a := t + 1) (b := t + 1) (by grind) (by grind))
   grind
  ·rw [← he]
   have h1 := r_mml (r_mul hu hen) r3
   have h2 : uu * e * (10000 * U) = 10000 * e * (uu * U) := by grind
   rw [h2, hu6] at h1
   have h3 := r_mul (r_mul hu hen) (b := t) (by grind)
   have h4 := r_mul hu hen
   grind
  ·have h0 : (t + 1) * (t + 1) ≤ 1001 / 1000 * (t * t) := by
    have := r_mml (c := t) (by grind) r4
    grind
   have h1 := r_mml ee r1
   have h2 := r_mml ee h0
   have h3 := r_mul ee (r_mul (a := t) (b := t) (by grind) (by grind))
   grind
theorem int_up {D A B : Int} {m : Nat} (h : ((D : Int) : Rat) * ((D : Int) : Rat) * (m : Rat) ≤ ((A : Int) : Rat) * ((B : Int) : Rat)) : D * D * (m : Int) ≤ A * B := by exact_mod_cast h
theorem gram_int {D A B : Int} (h : (((D : Int) : Rat) * (ep * ep)) * (((D : Int) : Rat) * (ep * ep)) * 75557863725914323419136 ≤ (((A : Int) : Rat) * (ep * ep)) * (((B : Int) : Rat) * (ep * ep))) : D * (D * 2 ^ 76) ≤ A * B := by
 have hp := ep_pz
 have hP : (0 : Rat) ≤ ((PZ : Nat) : Rat) := nat_nn _
 generalize ((PZ : Nat) : Rat) = P at *
 have h4 := r_mml (r_mul (r_mul hP hP) (r_mul hP hP)) h
 have e1 : P * P * (P * P) * (((D : Int) : Rat) * (ep * ep) * (((D : Int) : Rat) * (ep * ep)) * 75557863725914323419136) = ((D : Int) : Rat) * ((D : Int) : Rat) * 75557863725914323419136 * ((ep * P) * (ep * P) * ((ep * P) * (ep * P))) := by grind
 have e2 : P * P * (P * P) * (((A : Int) : Rat) * (ep * ep) * (((B : Int) : Rat) * (ep * ep))) = ((A : Int) : Rat) * ((B : Int) : Rat) * ((ep * P) * (ep * P) * ((ep * P) * (ep * P))) := by grind
 rw [e1, e2, hp] at h4
 have h5 : ((D : Int) : Rat) * ((D : Int) : Rat) * 75557863725914323419136 ≤ ((A : Int) : Rat) * ((B : Int) : Rat) := by grind
 have h6 : D * D * ((75557863725914323419136 : Nat) : Int) ≤ A * B := int_up (by
  rw [show ((75557863725914323419136 : Nat) : Rat) = 75557863725914323419136 from rfl]
  exact h5)
 rw [← Int.mul_assoc]
 exact h6
end Go.Bn
