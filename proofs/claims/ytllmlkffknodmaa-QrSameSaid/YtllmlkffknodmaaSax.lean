/-
  The law of the triangle of a triangle: what is reckoned exactly.
-/
import Derived.Test.YtllmlkffknodmaaSam
set_option linter.unusedVariables false
set_option linter.unusedSimpArgs false
namespace Go.Bn
open Go
theorem eql_zero {x : Nat} (hr : rung x < 9218868437227405312) (h : fcmp .eql x 0 = true) : sval x = 0 := by
  unfold fcmp at h
  rw [ford_val' hr (by decide), show sval 0 = 0 by decide +kernel] at h
  rcases Int.lt_trichotomy (sval x) 0 with g | g | g
  · rw [Int.compare_eq_lt.2 g] at h; cases h
  · exact g
  · rw [Int.compare_eq_gt.2 g] at h; cases h
theorem neq_zero {x : Nat} (hr : rung x < 9218868437227405312) (h : fcmp .neq x 0 = false) : sval x = 0 := by
  unfold fcmp at h
  rw [ford_val' hr (by decide), show sval 0 = 0 by decide +kernel] at h
  rcases Int.lt_trichotomy (sval x) 0 with g | g | g
  · rw [Int.compare_eq_lt.2 g] at h; cases h
  · exact g
  · rw [Int.compare_eq_gt.2 g] at h; cases h
theorem gtr_zero {x : Nat} (hr : rung x < 9218868437227405312) (h : fcmp .gtr x 0 = true) : 0 < sval x := by
  unfold fcmp at h
  rw [ford_val' hr (by decide), show sval 0 = 0 by decide +kernel] at h
  rcases Int.lt_trichotomy (sval x) 0 with g | g | g
  · rw [Int.compare_eq_lt.2 g] at h; cases h
  · rw [Int.compare_eq_eq.2 g] at h; cases h
  · exact g
theorem tame_rg {x : Nat} {k : Nat} (hk : k ≤ 900) (hx : x < 2 ^ 64) (hr : rung x < 9218868437227405312) (h : tameB x (k : Int) = true) : sval x = 0 ∨ Rg x k := by
  unfold tameB at h
  cases h0 : fcmp .eql x 0
  · right
    rw [h0, Bool.false_or, Bool.and_eq_true] at h
    obtain ⟨a1, a2, _, _⟩ := fabs_parts hx hr
    have hv := vlu_fabs hx hr
    obtain ⟨l1, l2, l3⟩ := two_k (k := -(k : Int)) (by omega) (by omega)
    obtain ⟨u1, u2, u3⟩ := two_k (k := (k : Int)) (by omega) (by omega)
    have g1 := geq_val h.1 (by rw [a1]; exact hr) l1
    have g2 := leq_val h.2 (by rw [a1]; exact hr) u1
    rw [sval_pos' a2, sval_pos' l2, hv, l3] at g1
    rw [sval_pos' a2, sval_pos' u2, hv, u3] at g2
    have g1' := Int.ofNat_le.1 g1
    have g2' := Int.ofNat_le.1 g2
    clear g1 g2 l3 u3
    refine ⟨hx, hr, ?_, ?_⟩
    · refine Nat.le_trans ?_ (Nat.mul_le_mul_right _ g1')
      rw [← Nat.pow_add, pz_def]
      exact Nat.pow_le_pow_right (by omega) (by rw [nz]; omega)
    · rw [pz_pow]
      exact Nat.le_trans g2' (Nat.pow_le_pow_right (by omega) (by rw [nz]; omega))
  · exact .inl (eql_zero hr h0)
def allTB (xs : List Nat) (k : Int) : Bool := xs.all fun x => tameB x k
theorem triM_one {r c : Int} {xs : List Nat} (h : (triM [⟨r, c, xs⟩]).e = 0) : chk r c xs = 0 ∧ triM [⟨r, c, xs⟩] = ⟨(r.toNat : Int), (r.toNat : Int), triG (besRow [⟨r, c, xs⟩] r.toNat) r.toNat, 0⟩ := by
  have hl : ¬ ([⟨r, c, xs⟩] : List Mt).length = 0 := by simp
  have hc : fstE (mtChk [⟨r, c, xs⟩]) = chk r c xs := by
    show (if chk r c xs = 0 then (0 : Int) else chk r c xs) = _
    split <;> omega
  by_cases h0 : chk r c xs = 0
  · refine ⟨h0, ?_⟩
    have hs : shpB [⟨r, c, xs⟩] = true := by unfold shpB; simp [List.getD]
    have hg := chk_good h0
    have h48 : ¬ 48 < colsTo [⟨r, c, xs⟩] ([⟨r, c, xs⟩] : List Mt).length := by
      show ¬ 48 < 0 + c.toNat
      obtain ⟨⟨_, _, _, _⟩, _⟩ := hg
      omega
    have e : triM [⟨r, c, xs⟩] = triR (besRow [⟨r, c, xs⟩] r.toNat) r.toNat := by
      unfold triM
      rw [if_neg hl, if_neg (by rw [hc]; simpa using h0), if_neg (by rw [hs]; decide), if_neg h48]
      rfl
    rw [e] at h ⊢
    unfold triR at h ⊢
    split at h
    · exact absurd h (by decide)
    · rename_i h5
      rw [if_neg h5]
  · exfalso
    have e : triM [⟨r, c, xs⟩] = badM (chk r c xs) := by
      unfold triM
      rw [if_neg hl, if_pos (by rw [hc]; exact h0), hc]
    rw [e] at h
    exact h0 h
theorem bes_one {c : Int} {xs : List Nat} {i : Nat} : besRow [⟨c, c, xs⟩] c.toNat i = rowL c xs i := by
  show ([] ++ rowL c xs i) ++ List.replicate (c.toNat - ([] ++ rowL c xs i).length) 0 = _
  rw [List.nil_append, length_rowL, Nat.sub_self]
  simp
def UpJ (c : Int) (xs : List Nat) (i j : Nat) : Prop := 0 < sval (mat c xs i i) ∧ ∀ b : Nat, i < b → b < j → sval (mat c xs i b) = 0
def UpI (c : Int) (xs : List Nat) (i : Nat) : Prop := ∀ a : Nat, a < i → UpJ c xs a c.toNat
theorem upI_zero (c : Int) (xs : List Nat) : UpI c xs 0 := fun a h => absurd h (Nat.not_lt_zero a)
theorem upI_step {c : Int} {xs : List Nat} {i j : Nat} (h : UpI c xs i) (hj : UpJ c xs i j) (hn : ¬ (j : Int) < c) : UpI c xs (i + 1) := fun a ha => by
  by_cases e : a = i
  · subst e
    exact ⟨hj.1, fun b h1 h2 => hj.2 b h1 (by omega)⟩
  · exact h a (by omega)
theorem upJ_one {c : Int} {xs : List Nat} {i : Nat} (h : 0 < sval (mat c xs i i)) : UpJ c xs i (i + 1) := ⟨h, fun b h1 h2 => by omega⟩
theorem upJ_step {c : Int} {xs : List Nat} {i j : Nat} (h : UpJ c xs i j) (h0 : sval (mat c xs i j) = 0) : UpJ c xs i (j + 1) := ⟨h.1, fun b h1 h2 => by
  by_cases e : b = j
  · rw [e]; exact h0
  · exact h.2 b h1 (by omega)⟩
/-- What is known once the triangle has been answered. -/
structure SameB (c : Int) (xs : List Nat) (T : MR) : Prop where
  hr : T.r = c
  hc : T.c = c
  g : Good c c xs
  l : (T.a.length : Int) = c * c
  f : FinL xs
  a : T.a = triG (besRow [⟨c, c, xs⟩] c.toNat) c.toNat
  t : allTB xs 400 = true
theorem sameB_of {r c : Int} {xs : List Nat} (hx : LtL xs) (h : (cmpB .neq (triM [⟨r, c, xs⟩]).e 0 || cmpB .neq r c || !allTB xs 400) = false) : SameB r xs (triM [⟨r, c, xs⟩]) := by
  rw [Bool.or_eq_false_iff, Bool.or_eq_false_iff] at h
  obtain ⟨⟨h1, h2⟩, h3⟩ := h
  have e1 : (triM [⟨r, c, xs⟩]).e = 0 := by simpa [cmpB] using h1
  have e2 : r = c := by simpa [cmpB] using h2
  subst e2
  obtain ⟨c1, c2⟩ := triM_one e1
  have hg := chk_good c1
  have h0 := hg.1.1
  have hfin : xs.all finB = true := (chk_zero.1 c1).2
  rw [c2]
  have hr : ((r.toNat : Nat) : Int) = r := by omega
  refine ⟨hr, hr, hg, ?_, finL_mk hfin hx, rfl, by simpa using h3⟩
  show ((triG (besRow [⟨r, r, xs⟩] r.toNat) r.toNat).length : Int) = _
  unfold triG
  rw [length_grid, Int.toNat_natCast, Int.natCast_mul, hr]
theorem trM_of {c : Int} {xs : List Nat} {T : MR} (h : SameB c xs T) (hu : UpI c xs c.toNat) : TrM (besRow [⟨c, c, xs⟩] c.toNat) c.toNat := by
  have hin : ∀ i j : Nat, j < c.toNat → (rowL c xs i).getD j 0 = mat c xs i j := fun i j hj => getD_rowL hj
  have hout : ∀ i j : Nat, ¬ j < c.toNat → (rowL c xs i).getD j 0 = 0 := fun i j hj => by rw [List.getD, List.getElem?_eq_none (by rw [length_rowL]; omega)]; rfl
  have s0 : sval 0 = 0 := by decide +kernel
  refine ⟨fun i _ => by rw [bes_one, length_rowL], fun i _ => by rw [bes_one]; exact finL_row h.f, fun i hi => ?_, fun i j hi hij => ?_, fun i j hi => ?_⟩
  · rw [bes_one, hin i i hi]; exact (hu i hi).1
  · rw [bes_one]
    by_cases hj : j < c.toNat
    · rw [hin i j hj]; exact (hu i hi).2 j hij hj
    · rw [hout i j hj]; exact s0
  · rw [bes_one]
    by_cases hj : j < c.toNat
    · rw [hin i j hj]
      unfold mat
      have hf := h.f ((i : Int) * c + (j : Int)).toNat
      have ht : tameB (xs.getD ((i : Int) * c + (j : Int)).toNat 0) ((400 : Nat) : Int) = true := by
        by_cases hk : ((i : Int) * c + (j : Int)).toNat < xs.length
        · exact List.all_eq_true.1 h.t _ (mem_getD 0 hk)
        · rw [List.getD, List.getElem?_eq_none (by omega)]; decide +kernel
      rcases tame_rg (by omega) hf.2 ((finB_iff hf.2).1 hf.1) ht with g | g
      · exact .inl g
      · exact .inr (g.up (by omega))
    · rw [hout i j hj]; exact .inl s0
/-! ## Exactly -/
structure Exh (x : Exa) (k : Nat) : Prop where
  e0 : -2224 ≤ x.e
  e1 : x.e ≤ 16384
  hb : ((xv 2224 x).natAbs : Int) ≤ (k : Int) * wpw 200
theorem exh_low {x : Exa} {k : Nat} (h : Exh x k) {e : Int} (he : -2224 ≤ e) : ((x.low e).m.natAbs : Int) ≤ (k : Int) * wpw 200 := by
  refine Int.le_trans ?_ h.hb
  rw [← xv_low (E := 2224) (x := x) (show -((2224 : Nat) : Int) ≤ e by omega)]
  unfold xv
  rw [abs_pow]
  have h2 := pow_one_le ((x.low e).e + ((2224 : Nat) : Int)).toNat
  have := Int.mul_le_mul_of_nonneg_left h2 (show (0 : Int) ≤ ((x.low e).m.natAbs : Int) by omega)
  omega
theorem exh_sml {x : Exa} {k : Nat} (h : Exh x k) (hk : k ≤ 1000) {e : Int} (he : -2224 ≤ e) : Sml (x.low e).m := ⟨Int.lt_of_le_of_lt (exh_low h he) (wpw_200 hk)⟩
theorem exh_exb {x : Exa} {k : Nat} (h : Exh x k) (hk : k ≤ 1000) : Exb x := by
  have h1 := exh_sml h hk h.e0
  rw [low_self] at h1
  exact ⟨h1, by have := h.e0; omega, by have := h.e1; omega⟩
theorem exh_neg {x : Exa} {k : Nat} (h : Exh x k) : Exh x.neg k := ⟨h.e0, h.e1, by rw [xv_neg, Int.natAbs_neg]; exact h.hb⟩
theorem exh_sml2 {x y : Exa} {k l : Nat} (hx : Exh x k) (hy : Exh y l) (hk : k ≤ 1000) (hl : l ≤ 1000) : ∀ e, e = min x.e y.e → Sml (x.low e).m ∧ Sml (y.low e).m := fun e he => by
  have h1 := hx.e0
  have h2 := hy.e0
  exact ⟨exh_sml hx hk (by omega), exh_sml hy hl (by omega)⟩
/-- All that 'within' reckons, and that it says yes. -/
structure WinB (d w : Exa) : Prop where
  hd : Exb d
  hw : Exb w
  h1 : Exb (d.mul d)
  h2 : Exb (w.mul (powX (-76)))
  h3 : Exb (w.mul (powX (-76))).neg
  h4 : ∀ e, e = min (d.mul d).e (w.mul (powX (-76))).neg.e → Sml ((d.mul d).low e).m ∧ Sml ((w.mul (powX (-76))).neg.low e).m
  yes : ¬ 0 < (d.mul d).cmp (w.mul (powX (-76)))
theorem win_sq {D M : Nat} (h : D * UU ≤ 150 * M) : D * (D * 2 ^ 76) ≤ M * M := by
  have h1 : D * 2 ^ 38 ≤ M := by
    refine Nat.le_of_mul_le_mul_right (c := 2 ^ 15) ?_ (by decide)
    rw [Nat.mul_assoc, show (2 : Nat) ^ 38 * 2 ^ 15 = UU by decide]
    refine Nat.le_trans h ?_
    rw [Nat.mul_comm]
    exact Nat.mul_le_mul_left _ (by decide)
  have h2 := Nat.mul_le_mul h1 h1
  rw [mul4, show (2 : Nat) ^ 38 * 2 ^ 38 = 2 ^ 76 by decide, Nat.mul_assoc] at h2
  exact h2
theorem sum_ge {xs : List Nat} : ∀ {n j : Nat}, j < n → ((sval (xs.getD j 0)).natAbs * (sval (xs.getD j 0)).natAbs : Nat) ≤ (sumV xs xs n).natAbs ∧ 0 ≤ sumV xs xs n
  | 0, j, h => absurd h (Nat.not_lt_zero j)
  | n + 1, j, h => by
    have sq : ∀ z : Int, z * z = ((z.natAbs * z.natAbs : Nat) : Int) := fun z => by rw [Int.natCast_mul]; exact (Int.natAbs_mul_self' z).symm
    have e : sumV xs xs (n + 1) = sumV xs xs n + (((sval (xs.getD n 0)).natAbs * (sval (xs.getD n 0)).natAbs : Nat) : Int) := by rw [← sq]; rfl
    have h0 : ∀ m, 0 ≤ sumV xs xs m := by
      intro m
      induction m with
      | zero => exact Int.le_refl _
      | succ m ih =>
        have e2 : sumV xs xs (m + 1) = sumV xs xs m + (((sval (xs.getD m 0)).natAbs * (sval (xs.getD m 0)).natAbs : Nat) : Int) := by rw [← sq]; rfl
        rw [e2]; omega
    have h1 := h0 n
    refine ⟨?_, h0 (n + 1)⟩
    rw [e]
    by_cases hj : j = n
    · subst hj; omega
    · have := (sum_ge (xs := xs) (n := n) (j := j) (by omega)).1
      omega
theorem winB_of {t m : Nat} {xs : List Nat} {n j : Nat} (ht : t < 2 ^ 64) (ft : rung t < 9218868437227405312) (hx : FinL xs) (hn : n ≤ 12) (hj : j < n) (hm : m = xs.getD j 0) (h : (sval t - sval m).natAbs * UU ≤ 150 * (sval m).natAbs) : WinB ((ofX t).add (ofX m).neg) (dotX xs xs n) := by
  have hmf := hx j
  rw [← hm] at hmf
  have bt := (finB_iff ht).2 ft
  obtain ⟨t0, t1⟩ := ofX_e bt ht
  obtain ⟨m0, m1⟩ := ofX_e hmf.1 hmf.2
  have mn0 : -((1074 : Nat) : Int) ≤ (ofX m).neg.e := m0
  have gt := exg_ofX bt ht
  have gm := exg_neg (exg_ofX hmf.1 hmf.2)
  have gd := exg_add gt gm
  have gw := dotx_exq hx hx n
  have w0 := gw.e0
  have w1 := gw.e1
  have d0 : -((1074 : Nat) : Int) ≤ ((ofX t).add (ofX m).neg).e := add_e (E := 1074) t0 mn0
  have d1 := gd.e1
  have vd : xv 1074 ((ofX t).add (ofX m).neg) = sval t - sval m := by
    rw [xv_add (E := 1074) t0 mn0, xv_neg, xv_of, xv_of]; omega
  have vdd : xv 2224 (((ofX t).add (ofX m).neg).mul ((ofX t).add (ofX m).neg)) = (sval t - sval m) * ((sval t - sval m) * 2 ^ 76) := by
    rw [show (2224 : Nat) = 1074 + (1074 + 76) from rfl, xv_mul (E := 1074) (F := 1074 + 76) d0 (by omega), xv_up (E := 1074) d0, vd]
  have vp : xv 76 (powX (-76)) = 1 := by decide
  have vw : xv 2224 ((dotX xs xs n).mul (powX (-76))) = sumV xs xs n := by
    rw [show (2224 : Nat) = 2148 + 76 from rfl, xv_mul (E := 2148) (F := 76) w0 (by show -((76 : Nat) : Int) ≤ -76; omega), vp, xv_dotx hx hx n, Int.mul_one]
  obtain ⟨s1, s2⟩ := sum_ge (xs := xs) (n := n) (j := j) hj
  rw [← hm] at s1
  have hsq := Nat.le_trans (win_sq h) s1
  have hsqI : (sval t - sval m) * ((sval t - sval m) * 2 ^ 76) = (((sval t - sval m).natAbs * ((sval t - sval m).natAbs * 2 ^ 76) : Nat) : Int) := by
    rw [← Int.mul_assoc, ← Nat.mul_assoc, Int.natCast_mul, Int.natCast_mul, Int.natAbs_mul_self']
    rfl
  have hwb : Exh ((dotX xs xs n).mul (powX (-76))) 12 := by
    refine ⟨by show -2224 ≤ (dotX xs xs n).e + -76; omega, by show (dotX xs xs n).e + -76 ≤ 16384; omega, ?_⟩
    rw [vw, ← xv_dotx hx hx n, ← scl_xv]
    refine Int.le_trans gw.hb ?_
    have g1 := wpw_mono (show 140 ≤ 200 by omega)
    have g2 := wpw_pos 140
    exact Int.mul_le_mul (by omega) g1 (by omega) (by omega)
  have hdb : Exh (((ofX t).add (ofX m).neg).mul ((ofX t).add (ofX m).neg)) 12 := by
    refine ⟨?_, ?_, ?_⟩
    · show -2224 ≤ ((ofX t).add (ofX m).neg).e + ((ofX t).add (ofX m).neg).e; omega
    · show ((ofX t).add (ofX m).neg).e + ((ofX t).add (ofX m).neg).e ≤ 16384; omega
    · refine Int.le_trans ?_ hwb.hb
      rw [vdd, vw, hsqI, Int.natAbs_natCast]
      exact Int.ofNat_le.2 hsq
  refine ⟨exg_exb gd (by omega), exg_exb (exg_of gw) (by omega), exh_exb hdb (by omega), exh_exb hwb (by omega), exh_exb (exh_neg hwb) (by omega), exh_sml2 hdb (exh_neg hwb) (by omega) (by omega), ?_⟩
  refine cmp_le (E := 2224) hdb.e0 hwb.e0 ?_
  rw [vdd, vw, hsqI]
  have : ((sumV xs xs n).natAbs : Int) = sumV xs xs n := by omega
  rw [← this]
  exact Int.ofNat_le.2 hsq
theorem same_win {c : Int} {xs : List Nat} {T : MR} (h : SameB c xs T) (hu : UpI c xs c.toNat) {i j : Nat} (hi : (i : Int) < c) (hj : (j : Int) < c) :
    finB (T.a.getD ((i : Int) * c + (j : Int)).toNat 0) = true ∧ Exb (ofX (T.a.getD ((i : Int) * c + (j : Int)).toNat 0)) ∧ (∀ e, e = min (ofX (T.a.getD ((i : Int) * c + (j : Int)).toNat 0)).e (ofX (xs.getD ((i : Int) * c + (j : Int)).toNat 0)).neg.e → Sml ((ofX (T.a.getD ((i : Int) * c + (j : Int)).toNat 0)).low e).m ∧ Sml ((ofX (xs.getD ((i : Int) * c + (j : Int)).toNat 0)).neg.low e).m) ∧
    WinB ((ofX (T.a.getD ((i : Int) * c + (j : Int)).toNat 0)).add (ofX (xs.getD ((i : Int) * c + (j : Int)).toNat 0)).neg) (dotX (rowL c xs i) (rowL c xs i) (rowL c xs i).length) := by
  have hM := trM_of h hu
  have hi' : i < c.toNat := by omega
  have hj' : j < c.toNat := by omega
  obtain ⟨t1, t2, t3⟩ := same_tri hM hi' hj'
  have hcc : ((c.toNat : Nat) : Int) = c := by omega
  have eT : T.a.getD ((i : Int) * c + (j : Int)).toNat 0 = triN (triTo (besRow [⟨c, c, xs⟩] c.toNat) c.toNat) i j := by
    rw [h.a]
    have := mat_grid (r := ((c.toNat : Nat) : Int)) (c := ((c.toNat : Nat) : Int)) (f := fun a b => triN (triTo (besRow [⟨c, c, xs⟩] c.toNat) c.toNat) a.toNat b.toNat) (i := (i : Int)) (j := (j : Int)) (by omega) (by omega) (by omega) (by omega)
    unfold mat at this
    rw [hcc] at this
    unfold triG
    rw [hcc]
    exact this
  have em : (rowL c xs i).getD j 0 = xs.getD ((i : Int) * c + (j : Int)).toNat 0 := getD_rowL hj'
  rw [bes_one, em] at t3
  rw [eT]
  have bt := (finB_iff t1).2 t2
  have hm := h.f ((i : Int) * c + (j : Int)).toNat
  refine ⟨bt, ofX_exb bt t1, exg_sml2 (exg_ofX bt t1) (exg_neg (exg_ofX hm.1 hm.2)) (by omega) (by omega), ?_⟩
  have hn12 := h.g.1.2.1
  exact winB_of (n := (rowL c xs i).length) (j := j) t1 t2 (finL_row h.f) (by rw [length_rowL]; omega) (by rw [length_rowL]; exact hj') em.symm t3
theorem ltL_cn {bs : List Nat} (h : ∀ b, b ∈ bs → b < 2 ^ 64) : LtL (bs.map cn) := fun k => by
  by_cases hk : k < bs.length
  · rw [List.getD, List.getElem?_map, List.getElem?_eq_getElem hk]
    exact cn_lt (h _ (List.getElem_mem hk))
  · rw [List.getD, List.getElem?_eq_none (by rw [List.length_map]; omega)]
    decide
theorem dotB_row {c : Int} {xs : List Nat} (hg : Good c c xs) (hF : FinL xs) (i : Nat) : DotB (rowL c xs i) (rowL c xs i) :=
  dotB_of (Nat.le_refl _) (by rw [length_rowL]; have := hg.1.2.1; omega) (fun k _ => finL_row hF k) (fun k _ => finL_row hF k)
theorem same_no {c : Int} {xs : List Nat} {T : MR} (h : SameB c xs T) (g : (((cmpB .neq T.r c || cmpB .neq T.c c) || cmpB .neq (T.a.length : Int) (c * c)) || cmpB .neq (xs.length : Int) (c * c)) = true) : False := by
  rw [h.hr, h.hc, h.l, h.g.2] at g
  simp [cmpB] at g
theorem not_b {b : Bool} (h : (!b) = false) : b = true := by simpa using h
theorem row_rng {c : Int} {p : Nat} (h0 : 0 ≤ c) (hp : (p : Int) < c) : 0 ≤ (p : Int) * c ∧ (p : Int) * c ≤ ((p : Int) + 1) * c ∧ ((p : Int) + 1) * c ≤ c * c :=
  ⟨Int.mul_nonneg (by omega) h0, Int.mul_le_mul_of_nonneg_right (by omega) h0, Int.mul_le_mul_of_nonneg_right (by omega) h0⟩
end Go.Bn
