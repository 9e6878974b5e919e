/-
 A matrix split: its columns mirrored one by one, what unit lists come to, lists of equations.
-/
import Derived.Test.YtllkellonjhalaaGreatOoRtr
set_option linter.unusedVariables false
set_option linter.unusedSimpArgs false
namespace Go.Bn
open Go
def colsL (r c : Int) (xs : List Nat) : List (List Nat) := (List.range c.toNat).map fun (j : Nat) => colL r c xs j
theorem length_colsL (r c : Int) (xs : List Nat) : (colsL r c xs).length = c.toNat := by unfold colsL; simp
theorem colsL_at {r c : Int} {xs : List Nat} {j : Nat} (h : j < c.toNat) : (colsL r c xs).getD j [] = colL r c xs j := by
 unfold colsL
 rw [List.getD, List.getElem?_map, List.getElem?_range h]
 rfl
def colX (r c : Int) (xs : List Nat) (j : Nat) : List Nat := colL r c xs j
theorem cols_push {r c : Int} {xs : List Nat} {i : Nat} {vs : List Value} {w : Value} {T : TypeId} (hi : i < vs.length) : ∀ k ob, (pool (i + 1) (fillR (fun j => som (vs.getD j NILV) flp (colX r c xs j) T) i (som w flp (colX r c xs i) T))).H k ob → (pool (i + 1) (fun j => som ((vs.set i w).getD j NILV) flp (colX r c xs j) T)).H k ob :=
 pool_congr fun j hj => by
  unfold fillR
  by_cases e : j = i
  ·rw [if_pos e, e, vset_at hi]
  ·rw [if_neg e, vset_ne (Ne.symm e)]
theorem cols_done {r c : Int} {xs : List Nat} {i : Nat} {u : Value} {vs : List Value} {T1 T2 : TypeId} (hi : i = c.toNat) (hv : vs.length = c.toNat) : ∀ k ob, ((som u isv vs T1).sep (pool i (fun j => som (vs.getD j NILV) flp (colX r c xs j) T2))).H k ob → (rowsR u (colsL r c xs) T1 T2).H k ob := fun k ob h => by
 subst hi
 refine ⟨⟨vs, by rw [length_colsL, hv]⟩, ?_⟩
 obtain ⟨o1, o2, h1, h2, h3, h4⟩ := h
 refine ⟨o1, o2, h1, h2, h3, ?_⟩
 show (pool (colsL r c xs).length (fun j => som (vs.getD j NILV) flp ((colsL r c xs).getD j []) T2)).H k o2
 rw [length_colsL]
 exact pool_congr (fun j hj => by rw [colsL_at hj]; rfl) k o2 h4
theorem cols_open {u : Value} {r c : Int} {xs : List Nat} {n : Nat} {T1 T2 : TypeId} {vs : List Value} (hc : c = (n : Int)) : ∀ k ob, (rowsV u (colsL r c xs) T1 T2 vs).H k ob → ((som u isv vs T1).sep (pool n (poolX vs T2 (colX r c xs)))).H k ob := fun k ob ⟨o1, o2, h1, h2, h3, h4⟩ => by
 refine ⟨o1, o2, h1, h2, h3, ?_⟩
 rw [length_colsL] at h4
 rw [show n = c.toNat by omega]
 exact pool_congr (fun j hj => by rw [colsL_at hj]; rfl) k o2 h4
def glsU (g : Gls) : List SP := [fls g.v, flp g.w, flp g.alpha]
def glsD : Gls := ⟨[], 0, 0⟩
theorem glsU_len : ∀ g, (glsU g).length = 3 := fun _ => rfl
def glsAt (X : Nat → List Nat) (k : Nat) : Gls := gls (triTo X k) k
def rglsAt (X : Nat → List Nat) (k : Nat) : Gls := rgl (rtriTo X k) k
def glsTo (X : Nat → List Nat) (i : Nat) : List Gls := (List.range i).map (glsAt X)
theorem glsTo_succ (X : Nat → List Nat) (i : Nat) : glsTo X (i + 1) = glsTo X i ++ [glsAt X i] := by unfold glsTo; rw [List.range_succ, List.map_append]; rfl
theorem length_glsTo (X : Nat → List Nat) (i : Nat) : (glsTo X i).length = i := by unfold glsTo; simp
theorem glsTo_at {X : Nat → List Nat} {i k : Nat} (h : k < i) : (glsTo X i).getD k glsD = glsAt X k := by
 unfold glsTo
 rw [List.getD, List.getElem?_map, List.getElem?_range h]
 rfl
def unitL (m j : Nat) : List Nat := (List.replicate m 0).set j ONE
theorem length_unitL (m j : Nat) : (unitL m j).length = m := by unfold unitL; rw [List.length_set, List.length_replicate]
def turnP (H : Nat → Gls) (m n j : Nat) : Nat → List Nat
 | 0 => unitL m j
 | d + 1 => mirW (H (n - 1 - d)) (n - 1 - d) (turnP H m n j d)
theorem length_turnP (H : Nat → Gls) (m n j : Nat) : ∀ d, (turnP H m n j d).length = m
 | 0 => length_unitL m j
 | d + 1 => by rw [turnP, length_mirW, length_turnP H m n j d]
theorem finL_unit (m j : Nat) : FinL (unitL m j) := finL_set (finL_rep m) ⟨by decide, by decide⟩
theorem turn_push {H : Nat → Gls} {m n i : Nat} {vs : List Value} {w : Value} {T : TypeId} (hi : i < vs.length) : ∀ k ob, (pool (i + 1) (fillR (fun j => som (vs.getD j NILV) flp (turnP H m n j n) T) i (som w flp (turnP H m n i n) T))).H k ob → (pool (i + 1) (fun j => som ((vs.set i w).getD j NILV) flp (turnP H m n j n) T)).H k ob :=
 pool_congr fun j hj => by
  unfold fillR
  by_cases e : j = i
  ·rw [if_pos e, e, vset_at hi]
  ·rw [if_neg e, vset_ne (Ne.symm e)]
def flipN (x b : Nat) : Nat := fadd (if fcmp .lss b 0 = true then fneg x else x) 0
theorem flip_1 {x b : Nat} (h : fcmp .lss b 0 = true) : flipN x b = fadd (fneg x) 0 := by unfold flipN; rw [if_pos h]
theorem flip_0 {x b : Nat} (h : fcmp .lss b 0 = false) : flipN x b = fadd x 0 := by unfold flipN; rw [if_neg (by rw [h]; decide)]
structure QM where
 r1 : Int
 c1 : Int
 a1 : List Nat
 r2 : Int
 c2 : Int
 a2 : List Nat
 e : Int
def badS (e : Int) : QM := ⟨0, 0, [], 0, 0, [], e⟩
def resQ2 (x : QM) : SP := tupp [MatP x.r1 x.c1 x.a1, MatP x.r2 x.c2 x.a2, isv (.int .i64 x.e)]
def qQ (F : Nat → Nat → Nat) (X : Nat → List Nat) (H : Nat → Gls) (m n : Nat) : List Nat := grid (m : Int) (n : Int) fun i j => F ((turnP H m n j.toNat n).getD i.toNat 0) ((X j.toNat).getD j.toNat 0)
def qR (F : Nat → Nat → Nat) (X : Nat → List Nat) (n : Nat) : List Nat := grid (n : Int) (n : Int) fun i j => F ((X j.toNat).getD i.toNat 0) ((X i.toNat).getD i.toNat 0)
def endsQ (m n : Int) (q r : List Nat) : QM := if (!q.all finB || !r.all finB) = true then badS 5 else ⟨m, n, q, n, n, r, 0⟩
def qrM (r c : Int) (xs : List Nat) : QM :=
 if chk r c xs ≠ 0 then badS (chk r c xs)
 else if r < c then badS 3
 else if triB (colX r c xs) c.toNat = true then badS 5
 else endsQ r c (qQ flipN (triTo (colX r c xs) c.toNat) (glsAt (colX r c xs)) r.toNat c.toNat) (qR flipN (triTo (colX r c xs) c.toNat) c.toNat)
theorem qrM_1 {r c : Int} {xs : List Nat} (h : chk r c xs ≠ 0) : qrM r c xs = badS (chk r c xs) := by unfold qrM; rw [if_pos h]
theorem qrM_2 {r c : Int} {xs : List Nat} (h : chk r c xs = 0) (h2 : r < c) : qrM r c xs = badS 3 := by unfold qrM; rw [if_neg (by simpa using h), if_pos h2]
theorem qrM_3 {r c : Int} {xs : List Nat} {n i : Nat} (h : chk r c xs = 0) (h2 : ¬ r < c) (hc : c = (n : Int)) (hi : i < n) (ho : overB (triTo (colX r c xs) i) n i = true) : qrM r c xs = badS 5 := by
 unfold qrM
 rw [if_neg (by simpa using h), if_neg h2, if_pos]
 unfold triB
 rw [show c.toNat = n by omega]
 exact List.any_eq_true.2 ⟨i, List.mem_range.2 hi, ho⟩
theorem qrM_4 {r c : Int} {xs : List Nat} {m n : Nat} (h : chk r c xs = 0) (h2 : ¬ r < c) (hr : r = (m : Int)) (hc : c = (n : Int)) (ht : TriI (colX r c xs) n m n) : qrM r c xs = endsQ r c (qQ flipN (triTo (colX r c xs) n) (glsAt (colX r c xs)) m n) (qR flipN (triTo (colX r c xs) n) n) := by
 unfold qrM
 rw [if_neg (by simpa using h), if_neg h2, show c.toNat = n by omega, show r.toNat = m by omega, if_neg]
 unfold triB
 rw [List.any_eq_true]
 rintro ⟨p, hp, hb⟩
 rw [ht.ho p (List.mem_range.1 hp)] at hb
 cases hb
theorem over_1 {X : Nat → List Nat} {n i k : Nat} (hik : i < k) (hk : k < n) (h : (mirW (gls X i) i (X k)).all finB = false) : overB X n i = true := by
 unfold overB
 rw [Bool.or_eq_true]
 left
 rw [List.any_eq_true]
 exact ⟨k, List.mem_range.2 hk, by rw [h]; simp [hik]⟩
theorem over_2 {X : Nat → List Nat} {n i : Nat} (h : finQ (gls X i).alpha = false) : overB X n i = true := by
 unfold overB
 rw [Bool.or_eq_true]
 right
 rw [h]; rfl
theorem colX_len {r c : Int} {xs : List Nat} (j : Nat) : (colX r c xs j).length = r.toNat := length_colL
theorem finL_colX {r c : Int} {xs : List Nat} (hF : FinL xs) (j : Nat) : FinL (colX r c xs j) := fun k => by
 unfold colX colL
 by_cases hk : k < r.toNat
 ·rw [List.getD, List.getElem?_map, List.getElem?_range hk]
  exact hF _
 ·rw [List.getD, List.getElem?_eq_none (by simpa using hk)]
  exact ⟨by decide, by decide⟩
theorem qtri_start {r c : Int} {xs : List Nat} {m n : Nat} (hr : r = (m : Int)) (hF : FinL xs) : TriI (colX r c xs) n m 0 :=
 ⟨fun j _ => by show (colX r c xs j).length = m; rw [colX_len]; omega, fun j _ => finL_colX hF j, fun p hp => absurd hp (Nat.not_lt_zero p)⟩
theorem take_gridN {F : Nat → Nat → Nat} {m n p q : Nat} (hp : p < m) (hq : q < n) : (grid (m : Int) (n : Int) fun a b => F a.toNat b.toNat).take (p * n + (q + 1)) = (grid (m : Int) (n : Int) fun a b => F a.toNat b.toNat).take (p * n + q) ++ [F p q] :=
 take_grid (r := (m : Int)) (c := (n : Int)) (f := fun a b => F a.toNat b.toNat) (i := p) (j := q) hp hq
theorem take_gridN_le {F : Nat → Nat → Nat} {m n k : Nat} (hm : m ≤ 12) (hn : n ≤ 12) : ((grid (m : Int) (n : Int) fun a b => F a.toNat b.toNat).take k).length ≤ 144 := by
 rw [List.length_take, length_grid]
 have h : ((m : Int)).toNat * ((n : Int)).toNat ≤ 12 * 12 := Nat.mul_le_mul hm hn
 omega
theorem take_gridN_all {F : Nat → Nat → Nat} {m n k : Nat} (hk : k = m) : (grid (m : Int) (n : Int) fun a b => F a.toNat b.toNat).take (k * n) = grid (m : Int) (n : Int) fun a b => F a.toNat b.toNat := by
 subst hk
 refine List.take_of_length_le ?_
 rw [length_grid]
 exact Nat.le_refl _
theorem triTo_len {X : Nat → List Nat} {m n : Nat} (h : ∀ j, j < n → (X j).length = m) : ∀ k j, j < n → (triTo X k j).length = m
 | 0, j, hj => h j hj
 | k + 1, j, hj => by
  show (endF (triTo X k) k j).length = m
  unfold endF
  split
  ·rename_i e
   rw [List.length_set, length_clrR]; exact triTo_len h k k (e ▸ hj)
  ·split
   ·rw [length_mirW]; exact triTo_len h k j hj
   ·exact triTo_len h k j hj
theorem glsAt_len {X : Nat → List Nat} {m n k : Nat} (h : ∀ j, j < n → (X j).length = m) (hk : k < n) : (glsAt X k).v.length = m - k := by
 show (houseL ((triTo X k k).drop k)).v.length = m - k
 rw [length_houseL, List.length_drop, triTo_len h k k hk]
theorem turn_step {H : Nat → Gls} {m n j d k : Nat} {g : Gls} (hk : k = n - 1 - d) (hg : g = H (n - 1 - d)) : (turnP H m n j d).take k ++ mirL g.v g.w ((turnP H m n j d).drop k) = turnP H m n j (d + 1) := by
 subst hk; subst hg; rfl
def FQ (X : Nat → List Nat) (H : Nat → Gls) (m n i j : Nat) : Nat := flipN ((turnP H m n j n).getD i 0) ((X j).getD j 0)
def FR (X : Nat → List Nat) (i j : Nat) : Nat := flipN ((X j).getD i 0) ((X i).getD i 0)
theorem qQ_eq {X : Nat → List Nat} {H : Nat → Gls} {m n : Nat} : (grid (m : Int) (n : Int) fun a b => FQ X H m n a.toNat b.toNat) = qQ flipN X H m n := rfl
theorem qR_eq {X : Nat → List Nat} {n : Nat} : (grid (n : Int) (n : Int) fun a b => FR X a.toNat b.toNat) = qR flipN X n := rfl
end Go.Bn
namespace Go.Bn
open Go
theorem lent_mat {r c : Int} {u : Value} {xs : List Nat} {T : TypeId} : Lent (som u flp xs T) (aggp [isv (.int .i64 r), isv (.int .i64 c), isv u]) (MatP r c xs) := fun c0 c1 ob v h hq hle hob => by
 obtain ⟨cs, h1, h2, h3⟩ := hq
 refine ⟨cs, h1, h2, fun i p hp => ?_⟩
 match i, hp with
 | 0, hp => obtain ⟨w, g1, g2, g3⟩ := h3 0 _ rfl; cases hp; exact ⟨w, g1, g2, (isv _).st _ _ _ hle g3⟩
 | 1, hp => obtain ⟨w, g1, g2, g3⟩ := h3 1 _ rfl; cases hp; exact ⟨w, g1, g2, (isv _).st _ _ _ hle g3⟩
 | 2, hp => obtain ⟨w, g1, g2, g3⟩ := h3 2 _ rfl; cases hp; exact ⟨w, g1, g2, lent_som c0 c1 ob w h g3 hle hob⟩
 | i + 3, hp => simp [nth] at hp
def colsM (m n : Nat) (X : Nat → List Nat) : List Nat := grid (m : Int) (n : Int) fun p q => (X q.toNat).getD p.toNat 0
def updC (X : Nat → List Nat) (q : Nat) (x : List Nat) (j : Nat) : List Nat := if j = q then x else X j
theorem length_colsM (m n : Nat) (X : Nat → List Nat) : (colsM m n X).length = m * n := by unfold colsM; rw [length_grid]; rfl
theorem colsM_len (m n : Nat) (X : Nat → List Nat) : ((colsM m n X).length : Int) = (m : Int) * (n : Int) := by rw [length_colsM]; push_cast; rfl
theorem colsM_good {m n : Nat} {X : Nat → List Nat} (h : Siz (m : Int) (n : Int)) : Good (m : Int) (n : Int) (colsM m n X) := good_grid h
theorem colsM_congr {m n : Nat} {X Y : Nat → List Nat} (h : ∀ j, j < n → X j = Y j) : colsM m n X = colsM m n Y := grid_congr fun i j h1 h2 h3 h4 => by rw [h j.toNat (by omega)]
theorem colsM_at {m n : Nat} {X : Nat → List Nat} {i j : Int} (h0 : 0 ≤ i) (h1 : i < m) (h2 : 0 ≤ j) (h3 : j < n) : mat n (colsM m n X) i j = (X j.toNat).getD i.toNat 0 := mat_grid h0 h1 h2 h3
theorem colsM_col {m n : Nat} {X : Nat → List Nat} {q : Nat} (hq : q < n) (hl : (X q).length = m) : colL (m : Int) (n : Int) (colsM m n X) (q : Int) = X q := by
 unfold colL
 refine ext_getD (by simp [hl]) fun k hk => ?_
 have hk : k < m := by simpa using hk
 rw [List.getD, List.getElem?_map, List.getElem?_range (by simpa using hk)]
 show mat n (colsM m n X) k q = _
 rw [colsM_at (by omega) (by omega) (by omega) (by omega)]
 rfl
theorem colsM_set {m n : Nat} {X : Nat → List Nat} {i q x : Nat} (hs : Siz (m : Int) (n : Int)) (hi : i < m) (hq : q < n) (hl : (X q).length = m) : (colsM m n X).set ((i : Int) * (n : Int) + (q : Int)).toNat x = colsM m n (updC X q ((X q).set i x)) := by
 have hgl := colsM_len m n X
 refine (grid_mat (r := (m : Int)) (c := (n : Int)) (by omega) (by omega) (by rw [List.length_set]; exact hgl)).symm.trans ?_
 refine grid_congr fun a b h1 h2 h3 h4 => ?_
 rw [mat_set hs hgl ⟨by omega, by omega, by omega, by omega⟩ ⟨h1, h2, h3, h4⟩, colsM_at h1 h2 h3 h4]
 unfold updC
 by_cases hb : b.toNat = q
 ·rw [if_pos hb]
  by_cases ha : a.toNat = i
  ·rw [if_pos ⟨by omega, by omega⟩, ha, List.getD, List.getElem?_set_self (by omega)]; rfl
  ·rw [if_neg (by omega), List.getD, List.getD, List.getElem?_set_ne (by omega), hb]
 ·rw [if_neg hb, if_neg (by omega)]
theorem updC_same {X : Nat → List Nat} {q : Nat} {x : List Nat} : updC X q x q = x := if_pos rfl
theorem updC_updC {X : Nat → List Nat} {q : Nat} {x y : List Nat} : updC (updC X q x) q y = updC X q y := by
 funext j
 unfold updC
 by_cases h : j = q
 ·rw [if_pos h, if_pos h]
 ·rw [if_neg h, if_neg h, if_neg h]
theorem updC_self {X : Nat → List Nat} {q : Nat} : updC X q (X q) = X := by
 funext j
 unfold updC
 by_cases h : j = q
 ·rw [if_pos h, h]
 ·rw [if_neg h]
theorem colsM_put {m n : Nat} {X : Nat → List Nat} {i q x : Nat} {z : List Nat} (hs : Siz (m : Int) (n : Int)) (hi : i < m) (hq : q < n) (hl : z.length = m) : (colsM m n (updC X q z)).set ((i : Int) * (n : Int) + (q : Int)).toNat x = colsM m n (updC X q (z.set i x)) := by
 rw [colsM_set hs hi hq (by rw [updC_same]; exact hl), updC_same, updC_updC]
theorem colsM_self {m n : Nat} {xs : List Nat} (hg : Good (m : Int) (n : Int) xs) : colsM m n (colX (m : Int) (n : Int) xs) = xs := by
 refine Eq.trans (grid_congr fun a b h1 h2 h3 h4 => ?_) (grid_mat hg.1.1 hg.1.2.2.1 hg.2)
 unfold colX colL
 rw [List.getD, List.getElem?_map, List.getElem?_range (by show a.toNat < (m : Int).toNat; omega)]
 show mat _ xs (a.toNat : Int) (b.toNat : Int) = _
 rw [Int.toNat_of_nonneg h1, Int.toNat_of_nonneg h3]
def dwnT (v : List Nat) (w i : Nat) (x : List Nat) : Nat := fdiv (dotL (x.drop i) v) w
def dwnL (v : List Nat) (w i : Nat) (x : List Nat) : List Nat := x.take i ++ mirG v (dwnT v w i x) (x.drop i)
theorem dwn_mirW {h : Gls} {i : Nat} {x : List Nat} (hw : fcmp .eql h.w 0 = false) : dwnL h.v h.w i x = mirW h i x := (mirW_yes hw).symm
theorem dwn_0 {m n : Nat} {X : Nat → List Nat} {v : List Nat} {t i q : Nat} : colsM m n X = colsM m n (updC X q (mirC (X q) i v t 0)) := by rw [mirC_zero, updC_self]
theorem dwn_step {m n : Nat} {X : Nat → List Nat} {v : List Nat} {t i q k y : Nat} (hs : Siz (m : Int) (n : Int)) (hq : q < n) (hl : (X q).length = m) (hk : i + k < m) (hy : y = (mirG v t ((X q).drop i)).getD k 0) : (colsM m n (updC X q (mirC (X q) i v t k))).set (((i : Int) + (k : Int)) * (n : Int) + (q : Int)).toNat y = colsM m n (updC X q (mirC (X q) i v t (k + 1))) := by
 rw [show ((i : Int) + (k : Int)) = ((i + k : Nat) : Int) by omega, colsM_put hs hk hq (by rw [length_mirC (by omega)]; exact hl), hy]
 congr 2
 rw [← mirC_set (by omega)]
 congr 1
 unfold mirG
 rw [List.getD, List.getElem?_map, List.getElem?_range (by rw [List.length_drop]; omega)]
 show fsub (((X q).drop i).getD k 0) _ = _
 rw [getD_drop]
theorem dwn_all {m n : Nat} {X : Nat → List Nat} {v : List Nat} {w i q k : Nat} (hl : (X q).length = m) (hi : i ≤ m) (hk : k = m - i) : colsM m n (updC X q (mirC (X q) i v (dwnT v w i (X q)) k)) = colsM m n (updC X q (dwnL v w i (X q))) := by
 rw [mirC_all (by omega) (by omega)]
 rfl
theorem colM_mid0 {m n : Nat} {X : Nat → List Nat} {i : Nat} : colsM m n X = colsM m n (rmidF X i (i + 1)) := colsM_congr fun j _ => by rw [rmid_at (by omega)]
theorem colM_mid {m n : Nat} {X : Nat → List Nat} {i k : Nat} (hik : i < k) (hw : fcmp .eql (rgl X i).w 0 = false) : colsM m n (updC (rmidF X i k) k (dwnL (rgl X i).v (rgl X i).w i ((rmidF X i k) k))) = colsM m n (rmidF X i (k + 1)) := colsM_congr fun j _ => by
 rw [dwn_mirW hw, rmid_at (by omega)]
 unfold updC rmidF
 by_cases h : j = k
 ·rw [if_pos h, if_pos (by omega), h]
 ·rw [if_neg h]
  by_cases h2 : i < j ∧ j < k
  ·rw [if_pos h2, if_pos (by omega)]
  ·rw [if_neg h2, if_neg (by omega)]
theorem colM_zer0 {m n : Nat} {X : Nat → List Nat} {i k : Nat} : colsM m n (rmidF X i k) = colsM m n (updC (rmidF X i k) i (zerR (X i) i i)) := by
 rw [zerR_0]
 have : X i = rmidF X i k i := (rmid_at (by omega)).symm
 rw [this, updC_self]
theorem colM_zer {m n : Nat} {X : Nat → List Nat} {Y : Nat → List Nat} {i j : Nat} (hs : Siz (m : Int) (n : Int)) (hl : (X i).length = m) (hi : i < n) (hij : i ≤ j) (hj : j < m) : (colsM m n (updC Y i (zerR (X i) i j))).set ((j : Int) * (n : Int) + (i : Int)).toNat 0 = colsM m n (updC Y i (zerR (X i) i (j + 1))) := by
 rw [colsM_put hs hj hi (by rw [length_zerR hij (by omega)]; exact hl), zerR_set hij (by omega)]
theorem colM_end {m n : Nat} {X : Nat → List Nat} {i j k : Nat} (hs : Siz (m : Int) (n : Int)) (hl : (X i).length = m) (hi : i < n) (hnm : n ≤ m) (hj : j = m) (hk : k = n ∨ fcmp .eql (rgl X i).w 0 = true) : (colsM m n (updC (rmidF X i k) i (zerR (X i) i j))).set ((i : Int) * (n : Int) + (i : Int)).toNat (rgl X i).alpha = colsM m n (rendF X i) := by
 rw [zerR_all (by omega) (by omega), colsM_put hs (by omega) hi (by rw [length_clrR]; exact hl)]
 refine colsM_congr fun q hq => ?_
 unfold updC rendF rmidF
 by_cases h : q = i
 ·rw [if_pos h, if_pos h]
 ·rw [if_neg h, if_neg h]
  by_cases h2 : i < q ∧ q < k
  ·rw [if_pos h2, if_pos h2.1]
  ·rw [if_neg h2]
   by_cases h3 : i < q
   ·rw [if_pos h3]
    rcases hk with hk | hk
    ·omega
    ·rw [mirW_no hk]
   ·rw [if_neg h3]
def turnM (H : Nat → Gls) (m n d j : Nat) (q : Nat) : List Nat := if q < j then turnP H m n q (d + 1) else turnP H m n q d
theorem turnM_len {H : Nat → Gls} {m n d j q : Nat} : (turnM H m n d j q).length = m := by unfold turnM; split <;> exact length_turnP _ _ _ _ _
theorem turnM_step {H : Nat → Gls} {m n d j k : Nat} {v : List Nat} {w : Nat} (hk : k = n - 1 - d) (hv : v = (H (n - 1 - d)).v) (hww : w = (H (n - 1 - d)).w) (hw : fcmp .eql w 0 = false) : colsM m m (updC (turnM H m n d j) j (dwnL v w k (turnM H m n d j j))) = colsM m m (turnM H m n d (j + 1)) := colsM_congr fun q _ => by
 subst hk; subst hv; subst hww
 rw [dwn_mirW hw]
 unfold updC turnM
 by_cases h : q = j
 ·rw [if_pos h, if_neg (by omega), if_pos (by omega), h]; rfl
 ·rw [if_neg h]
  by_cases h2 : q < j
  ·rw [if_pos h2, if_pos (by omega)]
  ·rw [if_neg h2, if_neg (by omega)]
theorem turnM_end {H : Nat → Gls} {m n d j : Nat} (hj : j = m ∨ fcmp .eql (H (n - 1 - d)).w 0 = true) : colsM m m (turnM H m n d j) = colsM m m (fun q => turnP H m n q (d + 1)) := colsM_congr fun q hq => by
 unfold turnM
 by_cases h : q < j
 ·rw [if_pos h]
 ·rw [if_neg h]
  rcases hj with hj | hj
  ·omega
  ·rw [turnP, mirW_no hj]
def eyeTo (m k j : Nat) : List Nat := if j < k then unitL m j else List.replicate m 0
theorem eyeTo_len {m k j : Nat} : (eyeTo m k j).length = m := by unfold eyeTo; split; exact length_unitL m j; exact List.length_replicate
theorem eyeTo_0 {m : Nat} : (grid (m : Int) (m : Int) fun _ _ => 0) = colsM m m (eyeTo m 0) := grid_congr fun a b _ _ _ _ => by
 unfold eyeTo
 rw [if_neg (by omega), List.getD, List.getElem?_replicate]
 split <;> rfl
theorem eyeTo_step {m k : Nat} (hs : Siz (m : Int) (m : Int)) (hk : k < m) : (colsM m m (eyeTo m k)).set ((k : Int) * (m : Int) + (k : Int)).toNat ONE = colsM m m (eyeTo m (k + 1)) := by
 rw [colsM_set hs hk hk eyeTo_len]
 refine colsM_congr fun j _ => ?_
 unfold updC eyeTo
 by_cases h : j = k
 ·rw [if_pos h, if_neg (by omega), if_pos (by omega), h]; rfl
 ·rw [if_neg h]
  by_cases h2 : j < k
  ·rw [if_pos h2, if_pos (by omega)]
  ·rw [if_neg h2, if_neg (by omega)]
theorem eyeTo_all {m k : Nat} {H : Nat → Gls} {n : Nat} (hk : k = m) : colsM m m (eyeTo m k) = colsM m m (fun q => turnP H m n q 0) := colsM_congr fun j hj => by
 unfold eyeTo; rw [if_pos (by omega)]; rfl
def ClmD (i j a b : Int) : Prop := b < j ∨ (b = j ∧ a < i)
theorem clm_grid0 {r c : Int} {f : Int → Int → Nat} (hs : Siz r c) : PutI r c f (ClmD (0 : Nat) (0 : Nat)) (grid r c fun _ _ => 0) := by
 have h := putI_zero (f := f) hs
 rw [grid_zero, show r.toNat * c.toNat = (r * c).toNat by have := siz_nat hs; omega]
 refine putI_cast h fun a b hab => ?_
 obtain ⟨h1, h2, h3, h4⟩ := hab
 refine ⟨fun h => ?_, False.elim⟩
 unfold ClmD at h
 show False
 omega
theorem clm_step {r c : Int} {f : Int → Int → Nat} {i j : Nat} {xs : List Nat} {v : Nat} (hs : Siz r c) (hi : (i : Int) < r) (hj : (j : Int) < c) (h : PutI r c f (ClmD i j) xs) (hv : v = f i j) : PutI r c f (ClmD ((i + 1 : Nat) : Int) j) (xs.set ((i : Int) * c + (j : Int)).toNat v) := by
 refine putI_set hs h ⟨by omega, hi, by omega, hj⟩ hv fun a b _ => ?_
 unfold ClmD; omega
theorem clm_end {r c : Int} {f : Int → Int → Nat} {j q : Nat} {xs : List Nat} (hs : Siz r c) (hq : q = r.toNat) (h : PutI r c f (ClmD q j) xs) : PutI r c f (ClmD ((0 : Nat) : Int) ((j + 1 : Nat) : Int)) xs := by
 have h1 := hs.1
 refine putI_cast h fun a b hab => ?_
 obtain ⟨h1, h2, h3, h4⟩ := hab
 unfold ClmD; omega
theorem clm_done {r c : Int} {f : Int → Int → Nat} {k : Nat} {xs : List Nat} (hs : Siz r c) (hk : k = c.toNat) (h : PutI r c f (ClmD (0 : Nat) k) xs) : xs = grid r c f := by
 have h1 := hs.2.2.1
 refine putI_grid hs h fun a b hab => ?_
 obtain ⟨h1, h2, h3, h4⟩ := hab
 unfold ClmD; omega
def tidB (x b : Nat) : Nat := tidN x (fcmp .lss b 0)
def rqrM (r c : Int) (xs : List Nat) : QM :=
 if chk r c xs ≠ 0 then badS (chk r c xs)
 else if r < c then badS 3
 else endsQ r c (qQ tidB (rtriTo (colX r c xs) c.toNat) (rglsAt (colX r c xs)) r.toNat c.toNat) (qR tidB (rtriTo (colX r c xs) c.toNat) c.toNat)
def vsTo (X : Nat → List Nat) (i : Nat) : List (List Nat) := (List.range i).map fun k => (rglsAt X k).v
def wsTo (X : Nat → List Nat) (i : Nat) : List Nat := (List.range i).map fun k => (rglsAt X k).w
theorem vsTo_succ (X : Nat → List Nat) (i : Nat) : vsTo X (i + 1) = vsTo X i ++ [(rgl (rtriTo X i) i).v] := by unfold vsTo; rw [List.range_succ, List.map_append]; rfl
theorem wsTo_succ (X : Nat → List Nat) (i : Nat) : wsTo X (i + 1) = wsTo X i ++ [(rgl (rtriTo X i) i).w] := by unfold wsTo; rw [List.range_succ, List.map_append]; rfl
theorem length_vsTo (X : Nat → List Nat) (i : Nat) : (vsTo X i).length = i := by unfold vsTo; simp
theorem length_wsTo (X : Nat → List Nat) (i : Nat) : (wsTo X i).length = i := by unfold wsTo; simp
theorem vsTo_at {X : Nat → List Nat} {i k : Nat} (h : k < i) : (vsTo X i).getD k [] = (rglsAt X k).v := map_at h
theorem wsTo_at {X : Nat → List Nat} {i k : Nat} (h : k < i) : (wsTo X i).getD k 0 = (rglsAt X k).w := by
 unfold wsTo
 rw [List.getD, List.getElem?_map, List.getElem?_range h]
 rfl
theorem rqrM_1 {r c : Int} {xs : List Nat} (h : chk r c xs ≠ 0) : rqrM r c xs = badS (chk r c xs) := by unfold rqrM; rw [if_pos h]
theorem rqrM_2 {r c : Int} {xs : List Nat} (h : chk r c xs = 0) (h2 : r < c) : rqrM r c xs = badS 3 := by unfold rqrM; rw [if_neg (by simpa using h), if_pos h2]
theorem rqrM_4 {m n : Nat} {xs : List Nat} (h : chk (m : Int) (n : Int) xs = 0) (h2 : ¬ (m : Int) < (n : Int)) : rqrM (m : Int) (n : Int) xs = endsQ (m : Int) (n : Int) (qQ tidB (rtriTo (colX (m : Int) (n : Int) xs) n) (rglsAt (colX (m : Int) (n : Int) xs)) m n) (qR tidB (rtriTo (colX (m : Int) (n : Int) xs) n) n) := by
 unfold rqrM
 rw [if_neg (by simpa using h), if_neg h2]
 rfl
theorem rqr_start {m n : Nat} {xs : List Nat} (hF : FinL xs) : RtrI (colX (m : Int) (n : Int) xs) n m 0 :=
 ⟨fun j _ => colX_len j, fun j _ => cnL_fin (finL_colX hF j)⟩
def eQ (m n : Nat) (ys xs : List Nat) : List Nat := grid (m : Int) (n : Int) fun i j => tidB (mat (m : Int) ys i j) (mat (n : Int) xs j j)
def eR (n : Nat) (xs : List Nat) : List Nat := grid (n : Int) (n : Int) fun i j => tidB (mat (n : Int) xs i j) (mat (n : Int) xs i i)
theorem eQ_eq {m n : Nat} {X : Nat → List Nat} {H : Nat → Gls} (hmn : n ≤ m) : eQ m n (colsM m m (fun q => turnP H m n q n)) (colsM m n X) = qQ tidB X H m n := grid_congr fun i j h1 h2 h3 h4 => by
 rw [colsM_at h1 h2 h3 (by omega), colsM_at h3 (by omega) h3 h4]
theorem eR_eq {m n : Nat} {X : Nat → List Nat} (hmn : n ≤ m) : eR n (colsM m n X) = qR tidB X n := grid_congr fun i j h1 h2 h3 h4 => by
 rw [colsM_at h1 (by omega) h3 h4, colsM_at h1 (by omega) h1 h2]
end Go.Bn
namespace Go.Bn
open Go
theorem grid_same {m n : Nat} {f g : Int → Int → Nat} (h : ∀ i j : Nat, i < m → j < n → finB (f i j) = finB (g i j) ∧ (finB (f i j) = true → f i j = g i j)) : (grid (m : Int) (n : Int) f).all finB = (grid (m : Int) (n : Int) g).all finB ∧ ((grid (m : Int) (n : Int) f).all finB = true → grid (m : Int) (n : Int) f = grid (m : Int) (n : Int) g) := by
 have hp : ∀ k, k ∈ List.range ((m : Int).toNat * (n : Int).toNat) → k / (n : Int).toNat < m ∧ k % (n : Int).toNat < n := fun k hk => by
  have hk := List.mem_range.1 hk
  rw [Int.toNat_natCast, Int.toNat_natCast] at *
  have hn : 0 < n := by
   rcases Nat.eq_zero_or_pos n with h | h
   ·rw [h] at hk; omega
   ·exact h
  exact ⟨(Nat.div_lt_iff_lt_mul hn).2 hk, Nat.mod_lt _ hn⟩
 unfold grid
 constructor
 ·rw [Bool.eq_iff_iff, List.all_eq_true, List.all_eq_true]
  constructor
  ·intro ha z hz
   obtain ⟨k, hk, rfl⟩ := List.mem_map.1 hz
   have hq := hp k hk
   rw [← (h _ _ hq.1 hq.2).1]
   exact ha _ (List.mem_map.2 ⟨k, hk, rfl⟩)
  ·intro ha z hz
   obtain ⟨k, hk, rfl⟩ := List.mem_map.1 hz
   have hq := hp k hk
   rw [(h _ _ hq.1 hq.2).1]
   exact ha _ (List.mem_map.2 ⟨k, hk, rfl⟩)
 ·intro ha
  refine List.map_congr_left fun k hk => ?_
  have hq := hp k hk
  exact (h _ _ hq.1 hq.2).2 (List.all_eq_true.1 ha _ (List.mem_map.2 ⟨k, hk, rfl⟩))
theorem grid_all {m n : Nat} {f : Int → Int → Nat} : (grid (m : Int) (n : Int) f).all finB = true ↔ ∀ i j : Nat, i < m → j < n → finB (f i j) = true := by
 constructor
 ·intro h i j hi hj
  have g := grid_at (m : Int) (n : Int) f (i := i) (j := j) hi hj
  rw [← g]
  exact finB_getD h _
 ·intro h
  unfold grid
  rw [List.all_eq_true]
  intro z hz
  obtain ⟨k, hk, rfl⟩ := List.mem_map.1 hz
  have hk := List.mem_range.1 hk
  rw [Int.toNat_natCast, Int.toNat_natCast] at *
  have hn : 0 < n := by
   rcases Nat.eq_zero_or_pos n with h | h
   ·rw [h] at hk; omega
   ·exact h
  exact h _ _ ((Nat.div_lt_iff_lt_mul hn).2 hk) (Nat.mod_lt _ hn)
theorem cnL_turn {H : Nat → Gls} {m n j : Nat} : ∀ d, CnL (turnP H m n j d)
 | 0 => cnL_fin (finL_unit m j)
 | d + 1 => cnL_mirW (cnL_turn d)
theorem turn_congr {H H' : Nat → Gls} {m n j : Nat} (h : ∀ k, k < n → H k = H' k) : ∀ d, d ≤ n → turnP H m n j d = turnP H' m n j d
 | 0, _ => rfl
 | d + 1, hd => by rw [turnP, turnP, h (n - 1 - d) (by omega), turn_congr h d (by omega)]
theorem flip_same {x b : Nat} (hx : x < 2 ^ 64) : finB (tidB x b) = finB (flipN x b) ∧ (finB (tidB x b) = true → tidB x b = flipN x b) := by
 cases hf : finB x
 ·have hn : Nf x := (nf_dec hx).2 hf
  have h1 := tid_nf hx hn (fcmp .lss b 0)
  have h2 : Nf (flipN x b) := by
   unfold flipN
   split
   ·exact nf_add1 (nf_neg hx hn)
   ·exact nf_add1 hn
  have h3 : flipN x b < 2 ^ 64 := by unfold flipN; exact fop_lt (op := .add)
  have e1 : finB (tidB x b) = false := (nf_dec h1.2).1 h1.1
  have e2 : finB (flipN x b) = false := (nf_dec h3).1 h2
  rw [e1, e2]
  exact ⟨rfl, fun h => by cases h⟩
 ·have e : tidB x b = flipN x b := tid_fin hx hf _
  rw [e]
  exact ⟨rfl, fun _ => rfl⟩
theorem rqr_core {m n : Nat} {X : Nat → List Nat} (hnm : n ≤ m) (h0 : TriI X n m 0) (hr : RtrI X n m 0) :
  endsQ (m : Int) (n : Int) (qQ tidB (rtriTo X n) (rglsAt X) m n) (qR tidB (rtriTo X n) n) = if triB X n = true then badS 5 else endsQ (m : Int) (n : Int) (qQ flipN (triTo X n) (glsAt X) m n) (qR flipN (triTo X n) n) := by
 have key := rtr_tri hnm h0 hr
 have hR : (qR tidB (rtriTo X n) n).all finB = (rtriG X n).all finB := by
  rw [Bool.eq_iff_iff]
  unfold qR rtriG
  rw [grid_all, grid_all]
  constructor
  ·intro h i j hi hj; exact h j i hj hi
  ·intro h i j hi hj; exact h j i hj hi
 by_cases hb : triB X n = true
 ·rw [if_pos hb]
  unfold triR at key
  rw [if_pos hb] at key
  have hall : (rtriG X n).all finB = false := by
   cases hv : (rtriG X n).all finB
   ·rfl
   ·unfold toldR at key
    rw [if_neg (by rw [hv]; decide)] at key
    have := congrArg MR.e key
    cases this
  unfold endsQ
  rw [if_pos (by rw [hR, hall]; simp)]
 ·rw [if_neg hb]
  have ho : ∀ p, p < n → overB (triTo X p) n p = false := fun p hp => by
   cases hv : overB (triTo X p) n p
   ·rfl
   ·exact (hb (by unfold triB; exact List.any_eq_true.2 ⟨p, List.mem_range.2 hp, hv⟩)).elim
  have ht := tri_at h0 ho
  have hs := rtr_same h0 ho (Nat.le_refl n)
  have hq : qR tidB (rtriTo X n) n = qR flipN (triTo X n) n := by
   unfold qR
   refine grid_congr fun i j h1 h2 h3 h4 => ?_
   rw [hs j.toNat (by omega), hs i.toNat (by omega)]
   have hf := ht.hf j.toNat (by omega) i.toNat
   exact tid_fin hf.2 hf.1 _
  have hH : ∀ k, k < n → rglsAt X k = glsAt X k := fun k hk => by
   have h := tri_at h0 (i := k) fun p hp => ho p (by omega)
   have e := rtr_same h0 (i := k) (fun p hp => ho p (by omega)) (by omega) k hk
   unfold rglsAt glsAt rgl gls
   rw [e]
   exact rgls_fin (finL_drop (h.hf k hk) k)
  have hg := grid_same (m := m) (n := n) (f := fun i j => tidB ((turnP (rglsAt X) m n j.toNat n).getD i.toNat 0) ((rtriTo X n j.toNat).getD j.toNat 0)) (g := fun i j => flipN ((turnP (glsAt X) m n j.toNat n).getD i.toNat 0) ((triTo X n j.toNat).getD j.toNat 0)) fun i j hi hj => by
   show finB (tidB ((turnP (rglsAt X) m n j n).getD i 0) ((rtriTo X n j).getD j 0)) = finB (flipN ((turnP (glsAt X) m n j n).getD i 0) ((triTo X n j).getD j 0)) ∧ (finB (tidB ((turnP (rglsAt X) m n j n).getD i 0) ((rtriTo X n j).getD j 0)) = true → tidB ((turnP (rglsAt X) m n j n).getD i 0) ((rtriTo X n j).getD j 0) = flipN ((turnP (glsAt X) m n j n).getD i 0) ((triTo X n j).getD j 0))
   rw [turn_congr hH n (Nat.le_refl n), hs j hj]
   exact flip_same (cnL_turn n i).1
  have hg1 : (qQ tidB (rtriTo X n) (rglsAt X) m n).all finB = (qQ flipN (triTo X n) (glsAt X) m n).all finB := hg.1
  have hg2 : (qQ tidB (rtriTo X n) (rglsAt X) m n).all finB = true → qQ tidB (rtriTo X n) (rglsAt X) m n = qQ flipN (triTo X n) (glsAt X) m n := hg.2
  unfold endsQ
  rw [hq, ← hg1]
  cases hv : (qQ tidB (rtriTo X n) (rglsAt X) m n).all finB
  ·simp
  ·rw [hg2 hv]
theorem rqrM_eq {r c : Int} {xs : List Nat} (hlt : LtL xs) : rqrM r c xs = qrM r c xs := by
 unfold rqrM qrM
 split
 ·rfl
 ·rename_i h1
  split
  ·rfl
  ·rename_i h2
   have hz : chk r c xs = 0 := by simpa using h1
   have hg := chk_good hz
   obtain ⟨n, rfl⟩ : ∃ n : Nat, c = (n : Int) := ⟨c.toNat, by have := hg.1.2.2.1; omega⟩
   obtain ⟨m, rfl⟩ : ∃ m : Nat, r = (m : Int) := ⟨r.toNat, by have := hg.1.1; omega⟩
   have hF : FinL xs := finL_mk (chk_zero.1 hz).2 hlt
   exact rqr_core (by omega) (qtri_start rfl hF) (rqr_start hF)
end Go.Bn
