/-
 A step of the triangle keeps the products of the rows, nearly; so do all.
-/
import Derived.Test.YtllkellonjhalaaGreatRrHrw
set_option linter.unusedVariables false
set_option linter.unusedSimpArgs false
namespace Go.Bn
open Go
def cH (h : Gls) : Rat := (rv h.w)⁻¹
theorem houV_c {xs : List Nat} {h : Gls} {c N : Rat} (v : HouV xs h c N) : c = cH h := by
 have := v.cw
 unfold cH
 generalize rv h.w = W at *
 have : W ≠ 0 := by
  intro h0
  rw [h0] at this
  grind
 grind
theorem hou_flt2 {xs : List Nat} {N : Rat} (hF : FinL xs) (hn : xs.length ≤ 48) (hb : powB xs = true) (fa : rung (houseL xs).alpha < 9218868437227405312) (hx : Nb (rl xs) xs.length N) (hN : ep ≤ uu * N) : HouV xs (houseL xs) (cH (houseL xs)) N := by
 obtain ⟨c, h⟩ := hou_flt hF hn hb fa hx hN
 have e := houV_c h
 rw [e] at h
 exact h
theorem rv_zero : rv 0 = 0 := rv_0 (by decide +kernel)
theorem rl_out {xs : List Nat} {k : Nat} (h : xs.length ≤ k) : rl xs k = 0 := by
 show rv (xs.getD k 0) = 0
 rw [List.getD, List.getElem?_eq_none h]
 exact rv_zero
theorem rv_nil {x : Nat} (h : rv x = 0) : sval x = 0 := by
 unfold rv at h
 have hp := ep_pos
 have h2 : ((sval x : Int) : Rat) = 0 := by
  rcases Rat.mul_eq_zero.1 h with q | q
  ·exact q
  ·rw [q] at hp; grind
 exact_mod_cast h2
theorem rv_vnil {x : Nat} (h : vlu x = 0) : rv x = 0 := rv_0 (by have := sval_abs x; omega)
theorem pow_nil {xs : List Nat} (hF : FinL xs) (hb : powB xs = false) : ∀ k, rl xs k = 0 := fun k => by
 by_cases hk : k < xs.length
 ·have m1 := maxTo_fin hF xs.length
  have mr := (finB_iff m1.1).1 m1.2
  have h0 : vlu (maxL xs) = 0 := by
   unfold powB at hb
   have h1 : fcmp .eql (maxL xs) 0 = true := by simpa using hb
   have h2 := eql_zero (x := maxL xs) m1.1 mr
   rw [h1] at h2
   exact of_decide_eq_true h2.symm
  have h3 := (max_spec hF xs.length).2.1 k hk
  have h4 : vlu (maxTo xs xs.length) = 0 := h0
  exact rv_vnil (by omega)
 ·exact rl_out (by omega)
theorem pow_some {xs : List Nat} (hF : FinL xs) (hb : powB xs = true) : ¬ ∀ k, rl xs k = 0 := fun h => by
 obtain ⟨i, hi, e, _⟩ := scl_max hF hb
 have h1 := (powK_spec hF hb).1
 have h2 := rv_nil (h i)
 have := sval_abs (xs.getD i 0)
 omega
theorem any_nb (r : Rvc) (n : Nat) : Nb r n (dt r r n + 1) := by
 have h := dt_nn r n
 refine ⟨by grind, ?_⟩
 have := r_mul h h
 grind
theorem any_ep (r : Rvc) (n : Nat) : ep ≤ uu * (dt r r n + 1) := by
 have h := r_mul uu_nn (dt_nn r n)
 have := ep_small
 have := uu_nn
 grind
theorem dot_nil2 {a v : List Nat} (fa : ∀ k, rung (a.getD k 0) < 9218868437227405312) (hz : ∀ k, sval (a.getD k 0) = 0) : ∀ n, (∀ k, k < n → rung (v.getD k 0) < 9218868437227405312) → rung (dotTo a v n) < 9218868437227405312 ∧ sval (dotTo a v n) = 0
 | 0, _ => by
  rw [dot_nil]
  constructor <;> decide +kernel
 | n + 1, hv => by
  obtain ⟨h1, h2⟩ := dot_nil2 fa hz n fun k hk => hv k (by omega)
  obtain ⟨m1, m2⟩ := fmul_nil (fa n) (hv n (by omega)) (.inl (hz n))
  rw [dot_suc]
  have hl : dotTo a v n < 2 ^ 64 := by
   cases n with
   | zero => rw [dot_nil]; decide
   | succ n => exact fop_lt (op := .add)
  obtain ⟨q1, q2⟩ := fadd_nil hl h1 m1 m2
  exact ⟨q1, by rw [q2, h2]⟩
theorem mirG_nil {a v : List Nat} {w : Nat} (h0 : 0 < a.length) (fa : FinL a) (hz : ∀ k, sval (a.getD k 0) = 0) (fw : rung w < 9218868437227405312) (mw : mgn w ≠ 0)
  (hf : ∀ k, k < a.length → rung ((mirG v (mirT v w a) a).getD k 0) < 9218868437227405312) : ∀ k, rl (mirG v (mirT v w a) a) k = 0 := fun k => by
 by_cases hk : k < a.length
 ·have fk : ∀ k, k < a.length → rung (fsub (a.getD k 0) (fmul (mirT v w a) (v.getD k 0))) < 9218868437227405312 := fun k hk => by rw [← getD_mirG hk]; exact hf k hk
  have fv : ∀ k, k < a.length → rung (v.getD k 0) < 9218868437227405312 := fun k hk => (fmul_fin2 (fsub_fin2 (fk k hk)).2).2
  obtain ⟨d1, d2⟩ := dot_nil2 (v := v) (finL_r fa) hz a.length fv
  obtain ⟨t1, t2⟩ := fdiv_nil d1 fw d2 mw
  obtain ⟨q1, q2⟩ := fmul_nil (x := mirT v w a) (y := v.getD k 0) t1 (fv k hk) (.inl t2)
  show rv ((mirG v (mirT v w a) a).getD k 0) = 0
  rw [getD_mirG hk]
  have ql : fmul (mirT v w a) (v.getD k 0) < 2 ^ 64 := fop_lt (op := .mul)
  obtain ⟨n1, n2, n3⟩ := fneg_val ql q1
  rw [fsub_add (finL_r fa k) ql q1]
  refine rv_0 ?_
  rw [(fadd_nil (fa k).2 (finL_r fa k) n2 (by rw [n3, q2]; rfl)).2]
  exact hz k
 ·exact rl_out (by rw [length_mirG]; omega)
theorem rl_drop (xs : List Nat) (p : Nat) : rl (xs.drop p) = fun k => rl xs (p + k) := by
 funext k
 show rv _ = rv _
 rw [getD_drop]
theorem rl_clr {x : List Nat} {p a k : Nat} (hp : p < x.length) : rl ((clrR x p).set p a) k = if k < p then rl x k else if k = p then rv a else 0 := by
 show rv (((clrR x p).set p a).getD k 0) = _
 by_cases hk : k = p
 ·subst hk
  rw [if_neg (by omega), if_pos rfl, List.getD, List.getElem?_set_self (by rw [length_clrR]; exact hp)]
  rfl
 ·have e : ((clrR x p).set p a).getD k 0 = (clrR x p).getD k 0 := by rw [List.getD, List.getElem?_set_ne (by omega)]; rfl
  rw [e]
  unfold clrR
  rw [getD_app, List.length_take]
  by_cases h : k < p
  ·rw [if_pos (by omega), if_pos h, getD_tak h]; rfl
  ·rw [if_neg (by omega), if_neg h, if_neg hk, getD_rep]
   exact rv_zero
def Big (r : Rvc) (N : Rat) : Prop := 10000 * ep ≤ uu * N ∨ ∀ k, r k = 0
structure StepV (Y : Nat → List Nat) (n L p : Nat) (v : Rvc) (c : Rat) : Prop where
 m : Mir v c L
 z : ∀ k, k < p → v k = 0
 near : ∀ j, j < n → ∀ N, Nb (rl (Y j)) L N → Big (rl (Y j)) N → Near v c L (rl (Y j)) (rl (endF Y p j)) N
theorem step_all {Y : Nat → List Nat} {n L p : Nat} (hl : ∀ j, j < n → (Y j).length = L) (hL : L ≤ 48) (hp : p < n) (hnL : n ≤ L) (hF : ∀ j, j < n → FinL (Y j)) (hmid : ∀ j, p < j → j < n → (mirW (gls Y p) p (Y j)).all finB = true) (hal : finQ (gls Y p).alpha = true)
  (hz : ∀ j, j < p → ∀ k, j < k → rl (Y j) k = 0) : ∃ v c, StepV Y n L p v c := by
 have hdl : ∀ j, j < n → ((Y j).drop p).length = L - p := fun j hj => by rw [List.length_drop, hl j hj]
 have hdF : ∀ j, j < n → FinL ((Y j).drop p) := fun j hj => finL_drop (hF j hj) p
 have eL : p + (L - p) = L := by omega
 have hpl : p < (Y p).length := by rw [hl p hp]; omega
 have hg : gls Y p = houseL ((Y p).drop p) := rfl
 have hlow : ∀ j, j < p → ∀ k, k < p + (L - p) → (∀ (v : Rvc), dt (fun k => rl (Y j) (p + k)) v (L - p) = 0) := fun j hj k _ v => dt_0 fun i _ => hz j hj (p + i) (by omega)
 have fa : rung (houseL ((Y p).drop p)).alpha < 9218868437227405312 := by
  have hal2 := alpha_lt ((Y p).drop p)
  exact (finB_iff hal2).1 ((finQ_fin hal2).symm.trans hal)
 cases hb : powB ((Y p).drop p)
 ·-- the rest of the row is nought: nothing turns
  have hh : houseL ((Y p).drop p) = ⟨List.replicate ((Y p).drop p).length 0, 0, 0⟩ := by unfold houseL; rw [if_neg (by rw [hb]; decide)]
  have hz0 := pow_nil (hdF p hp) hb
  rw [rl_drop] at hz0
  refine ⟨fun _ => 0, 0, ⟨⟨(bd_zero om_nn).eq (by grind)⟩, fun _ _ => rfl, fun j hj N hN hB => ?_⟩⟩
  have e : ∀ k, rl (endF Y p j) k = rl (Y j) k := fun k => by
   unfold endF
   by_cases h1 : j = p
   ·subst h1
    rw [if_pos rfl, hg, hh, rl_clr hpl]
    by_cases hk : k < j
    ·rw [if_pos hk]
    ·have h3 : rl (Y j) k = 0 := by
      have : rl (Y j) (j + (k - j)) = 0 := hz0 (k - j)
      rwa [show j + (k - j) = k by omega] at this
     rw [if_neg hk, h3]
     split
     ·exact rv_zero
     ·rfl
   ·rw [if_neg h1]
    split
    ·have : mirW (gls Y p) p (Y j) = Y j := by
      unfold mirW mirL
      rw [hg, hh]
      show (Y j).take p ++ (if fcmp .eql 0 0 = true then (Y j).drop p else _) = Y j
      rw [if_pos (by decide +kernel), List.take_append_drop]
     rw [this]
    ·rfl
  have e2 : rl (endF Y p j) = rl (Y j) := funext e
  rw [e2]
  exact near_still hN.h0 (by rw [dt_comm]; exact dt_0 fun _ _ => rfl)
 ·have hd48 : ((Y p).drop p).length ≤ 48 := by rw [hdl p hp]; omega
  have H := fun N => hou_flt2 (N := N) (hdF p hp) hd48 hb fa
  obtain ⟨h, hh⟩ : ∃ h, h = houseL ((Y p).drop p) := ⟨_, rfl⟩
  rw [← hh] at H fa
  rw [← hh] at hg
  obtain ⟨V, G⟩ := (H _ (any_nb _ _) (any_ep _ _)).g
  have hvl : h.v.length = L - p := by rw [hh, length_houseL, hdl p hp]
  refine ⟨shf (rl h.v) p, cH h, ⟨?_, fun k hk => by unfold shf; rw [if_pos hk], fun j hj N hN hB => ?_⟩⟩
  ·have := mir_lift (p := p) G.mir
   rw [hdl p hp, eL] at this
   exact this
  ·by_cases h1 : j = p
   ·subst h1
    have hN2 : Nb (rl ((Y j).drop j)) ((Y j).drop j).length N := by
     rw [rl_drop, hdl j hp]
     exact nb_suf (by rw [eL]; exact hN)
    have hep : 10000 * ep ≤ uu * N := by
     rcases hB with h2 | h2
     ·exact h2
     ·exact absurd (fun k => by rw [rl_drop]; exact h2 _) (pow_some (hdF j hp) hb)
    obtain ⟨V2, G2⟩ := (H N hN2 (by have := ep_nn; grind)).g
    have hn := G2.near
    rw [hdl j hp] at hn
    have e : endF Y j j = (clrR (Y j) j).set j h.alpha := by unfold endF; rw [if_pos rfl, hg]
    rw [e]
    have := near_lift (p := j) (r := rl (Y j)) (r2 := rl ((clrR (Y j) j).set j h.alpha)) (v := rl h.v) (c := cH h) (m := L - j) (N := N) (fun k hk => by rw [rl_clr hpl, if_pos hk]) (by
     rw [rl_drop] at hn
     refine nm_congr hn fun k hk => ?_
     show rl ((clrR (Y j) j).set j h.alpha) (j + k) - _ = _
     rw [rl_clr hpl, if_neg (by omega)]
     by_cases hk0 : k = 0
     ·rw [if_pos (by omega)]
      show _ = (if k = 0 then _ else _) - _
      rw [if_pos hk0]
     ·rw [if_neg (by omega)]
      show _ = (if k = 0 then _ else _) - _
      rw [if_neg hk0])
    rw [eL] at this
    exact this
   ·by_cases h2 : p < j
    ·have e : endF Y p j = mirW h p (Y j) := by unfold endF; rw [if_neg h1, if_pos h2, hg]
     rw [e]
     have hm := hmid j h2 hj
     rw [hg] at hm
     have hvp := H _ (any_nb _ _) (any_ep _ _)
     have eM : mirL h.v h.w ((Y j).drop p) = mirG h.v (mirT h.v h.w ((Y j).drop p)) ((Y j).drop p) := by unfold mirL; rw [if_neg (by rw [hvp.w0]; decide)]
     have gM : ∀ k, (mirW h p (Y j)).getD k 0 = if k < p then (Y j).getD k 0 else (mirG h.v (mirT h.v h.w ((Y j).drop p)) ((Y j).drop p)).getD (k - p) 0 := fun k => by
      rw [getD_mirW (by rw [hl j hj]; omega), eM]
     have hfin : ∀ k, k < ((Y j).drop p).length → rung ((mirG h.v (mirT h.v h.w ((Y j).drop p)) ((Y j).drop p)).getD k 0) < 9218868437227405312 := fun k hk => by
      have hlt := ltL_mirW (h := h) (i := p) (hF j hj) (p + k)
      have := (finB_iff hlt).1 (finB_getD hm (p + k))
      rw [gM, if_neg (by omega), show p + k - p = k by omega] at this
      exact this
     have r2 : ∀ k, rl (mirW h p (Y j)) (p + k) = rl (mirG h.v (mirT h.v h.w ((Y j).drop p)) ((Y j).drop p)) k := fun k => by
      show rv _ = rv _
      rw [gM, if_neg (by omega), show p + k - p = k by omega]
     have r1 : ∀ k, k < p → rl (mirW h p (Y j)) k = rl (Y j) k := fun k hk => by
      show rv _ = rv _
      rw [gM, if_pos hk]
     rcases hB with hB | hB
     ·have hN2 : Nb (rl ((Y j).drop p)) ((Y j).drop p).length N := by
       rw [rl_drop, hdl j hj]
       exact nb_suf (by rw [eL]; exact hN)
      have nv := G.hv
      rw [hdl p hp] at nv
      have hn := mir_flt (a := (Y j).drop p) (v := h.v) (w := h.w) (c := cH h) (N := N) (V := V) (by rw [hvl, hdl j hj]) (by rw [hdl j hj]; omega) (by rw [hdl j hj]; omega) hvp.lv hvp.w hvp.sw hvp.mw hfin G.c0 G.c2 hvp.cw hN2 (by rw [hdl j hj]; exact nv) G.v50 G.cV hB
      rw [hdl j hj, rl_drop] at hn
      have := near_lift (p := p) (r := rl (Y j)) (r2 := rl (mirW h p (Y j))) (v := rl h.v) (c := cH h) (m := L - p) (N := N) r1 (by
       refine nm_congr hn fun k hk => ?_
       show rl (mirW h p (Y j)) (p + k) - _ = _
       rw [r2])
      rw [eL] at this
      exact this
     ·have hz2 := mirG_nil (a := (Y j).drop p) (v := h.v) (w := h.w) (by rw [hdl j hj]; omega) (hdF j hj) (fun k => by
       have := hB (p + k)
       rw [getD_drop]
       exact rv_nil this) hvp.w hvp.mw hfin
      have e2 : rl (mirW h p (Y j)) = rl (Y j) := by
       funext k
       by_cases hk : k < p
       ·exact r1 k hk
       ·have := r2 (k - p)
        rw [show p + (k - p) = k by omega] at this
        rw [this, hz2, hB]
      rw [e2]
      exact near_still hN.h0 (dt_0 fun k _ => hB k)
    ·have e : endF Y p j = Y j := by unfold endF; rw [if_neg h1, if_neg h2]
     rw [e]
     refine near_still hN.h0 ?_
     rw [← eL, shf_dt]
     exact hlow j (by omega) 0 (by omega) _
theorem over_yes {X : Nat → List Nat} {n i : Nat} (h : overB X n i = false) : (∀ j, i < j → j < n → (mirW (gls X i) i (X j)).all finB = true) ∧ finQ (gls X i).alpha = true := by
 unfold overB at h
 rw [Bool.or_eq_false_iff] at h
 obtain ⟨h1, h2⟩ := h
 refine ⟨fun j hij hj => ?_, by simpa using h2⟩
 rw [List.any_eq_false] at h1
 have := h1 j (List.mem_range.2 hj)
 simpa [hij] using this
theorem triI_all {X : Nat → List Nat} {n L : Nat} (hl : ∀ j, j < n → (X j).length = L) (hF : ∀ j, j < n → FinL (X j)) (h : triB X n = false) : ∀ i, i ≤ n → TriI X n L i
 | 0, _ => ⟨hl, hF, fun p hp => absurd hp (Nat.not_lt_zero p)⟩
 | i + 1, hi => by
  unfold triB at h
  rw [List.any_eq_false] at h
  have h2 := over_yes (by simpa using h i (List.mem_range.2 (by omega)))
  exact triI_step (triI_all hl hF (by unfold triB; rw [List.any_eq_false]; exact h) i (by omega)) h2.1 h2.2
theorem tri_low {X : Nat → List Nat} {n L : Nat} (hnL : n ≤ L) (hT : ∀ i, i ≤ n → TriI X n L i) : ∀ p, p ≤ n → ∀ j, j < p → ∀ k, j < k → rl (triTo X p j) k = 0
 | 0, _, j, hj, _, _ => absurd hj (Nat.not_lt_zero j)
 | p + 1, hp, j, hj, k, hk => by
  show rl (endF (triTo X p) p j) k = 0
  unfold endF
  have hlen := (hT p (by omega)).hl p (by omega)
  by_cases h1 : j = p
  ·subst h1
   rw [if_pos rfl, rl_clr (by omega), if_neg (by omega), if_neg (by omega)]
  ·rw [if_neg h1, if_neg (by omega)]
   exact tri_low hnL hT p (by omega) j (by omega) k hk
structure RowN (r : Rvc) (L : Nat) (N : Rat) : Prop where
 h0 : 0 ≤ N
 h : 1000 * dt r r L ≤ 999 * (N * N)
 b : 10000 * ep ≤ uu * N ∨ N = 0
theorem gram_nb {x y : Rvc} {L p : Nat} {N : Rat} (h : RowN x L N) (hp : p ≤ 12) (g : Bd (dt y y L - dt x x L) ((p : Rat) * ga * (N * N))) : Nb y L N := by
 refine ⟨h.h0, ?_⟩
 have h1 := h.h
 have h2 := g.2
 have h3 := r_mul h.h0 h.h0
 have h4 : (p : Rat) ≤ 12 := by exact_mod_cast hp
 have h5 : (p : Rat) * ga * (N * N) ≤ 12 * ga * (N * N) := r_mm (r_mm h4 Rat.le_refl (by grind) (by unfold ga; grind)) Rat.le_refl (by unfold ga; grind) h3
 generalize (p : Rat) * ga * (N * N) = q at *
 unfold ga at *
 grind
theorem nb_zero {xs : List Nat} {L : Nat} (hl : xs.length = L) (h : Nb (rl xs) L 0) : ∀ k, rl xs k = 0 := fun k => by
 by_cases hk : k < L
 ·exact dt_nil (by have := h.h; grind) k hk
 ·exact rl_out (by omega)
theorem gram_all {X : Nat → List Nat} {n L : Nat} {N : Nat → Rat} (hn : n ≤ 12) (hL : L ≤ 48) (hnL : n ≤ L) (hT : ∀ i, i ≤ n → TriI X n L i) (hN : ∀ j, j < n → RowN (rl (X j)) L (N j)) :
  ∀ p, p ≤ n → ∀ i j, i < n → j < n → Bd (dt (rl (triTo X p i)) (rl (triTo X p j)) L - dt (rl (X i)) (rl (X j)) L) ((p : Rat) * ga * (N i * N j))
 | 0, _, i, j, hi, hj => by
  have e : dt (rl (triTo X 0 i)) (rl (triTo X 0 j)) L - dt (rl (X i)) (rl (X j)) L = 0 := by
   show dt (rl (X i)) (rl (X j)) L - dt (rl (X i)) (rl (X j)) L = 0
   grind
  rw [e]
  refine bd_zero ?_
  have : (((0 : Nat)) : Rat) = 0 := rfl
  rw [this]
  grind
 | p + 1, hp, i, j, hi, hj => by
  have ih := gram_all hn hL hnL hT hN p (by omega)
  have T := hT p (by omega)
  obtain ⟨h1, h2⟩ := over_yes ((hT (p + 1) hp).ho p (by omega))
  obtain ⟨v, c, S⟩ := step_all (n := n) (L := L) (p := p) T.hl hL (by omega) hnL T.hf h1 h2 (tri_low hnL hT p (by omega))
  have nb : ∀ a, a < n → Nb (rl (triTo X p a)) L (N a) := fun a ha => gram_nb (hN a ha) (by omega) (ih a a ha ha)
  have bg : ∀ a, a < n → Big (rl (triTo X p a)) (N a) := fun a ha => by
   rcases (hN a ha).b with b | b
   ·exact .inl b
   ·right
    have := nb a ha
    rw [b] at this
    exact nb_zero (T.hl a ha) this
  have st := step_dt S.m (nb i hi) (nb j hj) (S.near i hi _ (nb i hi) (bg i hi)) (S.near j hj _ (nb j hj) (bg j hj))
  refine ((st.add (ih i j hi hj)).up ?_).eq ?_
  ·have : (((p + 1 : Nat)) : Rat) = (p : Rat) + 1 := by push_cast; rfl
   rw [this]
   grind
  ·show dt (rl (endF (triTo X p) p i)) (rl (endF (triTo X p) p j)) L - _ = _
   grind
end Go.Bn
