/-
 A matrix told by its columns, as the reference turns it in place.
-/
import Derived.Test.YtllkellonjhalaaGreatSpQrd
set_option linter.unusedVariables false
set_option linter.unusedSimpArgs false
namespace Go.Bn
open Go
theorem lent_mat {r c : Int} {u : Value} {xs : List Nat} {T : TypeId} : Lent (som u flp xs T) (aggp [isv (.int .i64 r), isv (.int .i64 c), isv u]) (MatP r c xs) := fun c0 c1 ob v h hq hle hob => by
 obtain ⟨cs, h1, h2, h3⟩ := hq
 refine ⟨cs, h1, h2, fun i p hp => ?_⟩
 match i, hp with
 | 0, hp => obtain ⟨w, g1, g2, g3⟩ := h3 0 _ rfl; cases hp; exact ⟨w, g1, g2, (isv _).st _ _ _ hle g3⟩
 | 1, hp => obtain ⟨w, g1, g2, g3⟩ := h3 1 _ rfl; cases hp; exact ⟨w, g1, g2, (isv _).st _ _ _ hle g3⟩
 | 2, hp => obtain ⟨w, g1, g2, g3⟩ := h3 2 _ rfl; cases hp; exact ⟨w, g1, g2, lent_som c0 c1 ob w h g3 hle hob⟩
 | i + 3, hp => simp [nth] at hp
def colsM (m n : Nat) (X : Nat → List Nat) : List Nat := grid (m : Int) (n : Int) fun p q => (X q.toNat).getD p.toNat 0
def updC (X : Nat → List Nat) (q : Nat) (x : List Nat) (j : Nat) : List Nat := if j = q then x else X j
theorem length_colsM (m n : Nat) (X : Nat → List Nat) : (colsM m n X).length = m * n := by unfold colsM; rw [length_grid]; rfl
theorem colsM_len (m n : Nat) (X : Nat → List Nat) : ((colsM m n X).length : Int) = (m : Int) * (n : Int) := by rw [length_colsM]; push_cast; rfl
theorem colsM_good {m n : Nat} {X : Nat → List Nat} (h : Siz (m : Int) (n : Int)) : Good (m : Int) (n : Int) (colsM m n X) := good_grid h
theorem colsM_congr {m n : Nat} {X Y : Nat → List Nat} (h : ∀ j, j < n → X j = Y j) : colsM m n X = colsM m n Y := grid_congr fun i j h1 h2 h3 h4 => by rw [h j.toNat (by omega)]
theorem colsM_at {m n : Nat} {X : Nat → List Nat} {i j : Int} (h0 : 0 ≤ i) (h1 : i < m) (h2 : 0 ≤ j) (h3 : j < n) : mat n (colsM m n X) i j = (X j.toNat).getD i.toNat 0 := mat_grid h0 h1 h2 h3
theorem colsM_col {m n : Nat} {X : Nat → List Nat} {q : Nat} (hq : q < n) (hl : (X q).length = m) : colL (m : Int) (n : Int) (colsM m n X) (q : Int) = X q := by
 unfold colL
 refine ext_getD (by simp [hl]) fun k hk => ?_
 have hk : k < m := by simpa using hk
 rw [List.getD, List.getElem?_map, List.getElem?_range (by simpa using hk)]
 show mat n (colsM m n X) k q = _
 rw [colsM_at (by omega) (by omega) (by omega) (by omega)]
 rfl
theorem colsM_set {m n : Nat} {X : Nat → List Nat} {i q x : Nat} (hs : Siz (m : Int) (n : Int)) (hi : i < m) (hq : q < n) (hl : (X q).length = m) : (colsM m n X).set ((i : Int) * (n : Int) + (q : Int)).toNat x = colsM m n (updC X q ((X q).set i x)) := by
 have hgl := colsM_len m n X
 refine (grid_mat (r := (m : Int)) (c := (n : Int)) (by omega) (by omega) (by rw [List.length_set]; exact hgl)).symm.trans ?_
 refine grid_congr fun a b h1 h2 h3 h4 => ?_
 rw [mat_set hs hgl ⟨by omega, by omega, by omega, by omega⟩ ⟨h1, h2, h3, h4⟩, colsM_at h1 h2 h3 h4]
 unfold updC
 by_cases hb : b.toNat = q
 ·rw [if_pos hb]
  by_cases ha : a.toNat = i
  ·rw [if_pos ⟨by omega, by omega⟩, ha, List.getD, List.getElem?_set_self (by omega)]; rfl
  ·rw [if_neg (by omega), List.getD, List.getD, List.getElem?_set_ne (by omega), hb]
 ·rw [if_neg hb, if_neg (by omega)]
theorem updC_same {X : Nat → List Nat} {q : Nat} {x : List Nat} : updC X q x q = x := if_pos rfl
theorem updC_updC {X : Nat → List Nat} {q : Nat} {x y : List Nat} : updC (updC X q x) q y = updC X q y := by
 funext j
 unfold updC
 by_cases h : j = q
 ·rw [if_pos h, if_pos h]
 ·rw [if_neg h, if_neg h, if_neg h]
theorem updC_self {X : Nat → List Nat} {q : Nat} : updC X q (X q) = X := by
 funext j
 unfold updC
 by_cases h : j = q
 ·rw [if_pos h, h]
 ·rw [if_neg h]
theorem colsM_put {m n : Nat} {X : Nat → List Nat} {i q x : Nat} {z : List Nat} (hs : Siz (m : Int) (n : Int)) (hi : i < m) (hq : q < n) (hl : z.length = m) : (colsM m n (updC X q z)).set ((i : Int) * (n : Int) + (q : Int)).toNat x = colsM m n (updC X q (z.set i x)) := by
 rw [colsM_set hs hi hq (by rw [updC_same]; exact hl), updC_same, updC_updC]
theorem colsM_self {m n : Nat} {xs : List Nat} (hg : Good (m : Int) (n : Int) xs) : colsM m n (colX (m : Int) (n : Int) xs) = xs := by
 refine Eq.trans (grid_congr fun a b h1 h2 h3 h4 => ?_) (grid_mat hg.1.1 hg.1.2.2.1 hg.2)
 unfold colX colL
 rw [List.getD, List.getElem?_map, List.getElem?_range (by show a.toNat < (m : Int).toNat; omega)]
 show mat _ xs (a.toNat : Int) (b.toNat : Int) = _
 rw [Int.toNat_of_nonneg h1, Int.toNat_of_nonneg h3]
def dwnT (v : List Nat) (w i : Nat) (x : List Nat) : Nat := fdiv (dotL (x.drop i) v) w
def dwnL (v : List Nat) (w i : Nat) (x : List Nat) : List Nat := x.take i ++ mirG v (dwnT v w i x) (x.drop i)
theorem dwn_mirW {h : Gls} {i : Nat} {x : List Nat} (hw : fcmp .eql h.w 0 = false) : dwnL h.v h.w i x = mirW h i x := (mirW_yes hw).symm
theorem dwn_0 {m n : Nat} {X : Nat → List Nat} {v : List Nat} {t i q : Nat} : colsM m n X = colsM m n (updC X q (mirC (X q) i v t 0)) := by rw [mirC_zero, updC_self]
theorem dwn_step {m n : Nat} {X : Nat → List Nat} {v : List Nat} {t i q k y : Nat} (hs : Siz (m : Int) (n : Int)) (hq : q < n) (hl : (X q).length = m) (hk : i + k < m) (hy : y = (mirG v t ((X q).drop i)).getD k 0) : (colsM m n (updC X q (mirC (X q) i v t k))).set (((i : Int) + (k : Int)) * (n : Int) + (q : Int)).toNat y = colsM m n (updC X q (mirC (X q) i v t (k + 1))) := by
 rw [show ((i : Int) + (k : Int)) = ((i + k : Nat) : Int) by omega, colsM_put hs hk hq (by rw [length_mirC (by omega)]; exact hl), hy]
 congr 2
 rw [← mirC_set (by omega)]
 congr 1
 unfold mirG
 rw [List.getD, List.getElem?_map, List.getElem?_range (by rw [List.length_drop]; omega)]
 show fsub (((X q).drop i).getD k 0) _ = _
 rw [getD_drop]
theorem dwn_all {m n : Nat} {X : Nat → List Nat} {v : List Nat} {w i q k : Nat} (hl : (X q).length = m) (hi : i ≤ m) (hk : k = m - i) : colsM m n (updC X q (mirC (X q) i v (dwnT v w i (X q)) k)) = colsM m n (updC X q (dwnL v w i (X q))) := by
 rw [mirC_all (by omega) (by omega)]
 rfl
theorem colM_mid0 {m n : Nat} {X : Nat → List Nat} {i : Nat} : colsM m n X = colsM m n (rmidF X i (i + 1)) := colsM_congr fun j _ => by rw [rmid_at (by omega)]
theorem colM_mid {m n : Nat} {X : Nat → List Nat} {i k : Nat} (hik : i < k) (hw : fcmp .eql (rgl X i).w 0 = false) : colsM m n (updC (rmidF X i k) k (dwnL (rgl X i).v (rgl X i).w i ((rmidF X i k) k))) = colsM m n (rmidF X i (k + 1)) := colsM_congr fun j _ => by
 rw [dwn_mirW hw, rmid_at (by omega)]
 unfold updC rmidF
 by_cases h : j = k
 ·rw [if_pos h, if_pos (by omega), h]
 ·rw [if_neg h]
  by_cases h2 : i < j ∧ j < k
  ·rw [if_pos h2, if_pos (by omega)]
  ·rw [if_neg h2, if_neg (by omega)]
theorem colM_zer0 {m n : Nat} {X : Nat → List Nat} {i k : Nat} : colsM m n (rmidF X i k) = colsM m n (updC (rmidF X i k) i (zerR (X i) i i)) := by
 rw [zerR_0]
 have : X i = rmidF X i k i := (rmid_at (by omega)).symm
 rw [this, updC_self]
theorem colM_zer {m n : Nat} {X : Nat → List Nat} {Y : Nat → List Nat} {i j : Nat} (hs : Siz (m : Int) (n : Int)) (hl : (X i).length = m) (hi : i < n) (hij : i ≤ j) (hj : j < m) : (colsM m n (updC Y i (zerR (X i) i j))).set ((j : Int) * (n : Int) + (i : Int)).toNat 0 = colsM m n (updC Y i (zerR (X i) i (j + 1))) := by
 rw [colsM_put hs hj hi (by rw [length_zerR hij (by omega)]; exact hl), zerR_set hij (by omega)]
theorem colM_end {m n : Nat} {X : Nat → List Nat} {i j k : Nat} (hs : Siz (m : Int) (n : Int)) (hl : (X i).length = m) (hi : i < n) (hnm : n ≤ m) (hj : j = m) (hk : k = n ∨ fcmp .eql (rgl X i).w 0 = true) : (colsM m n (updC (rmidF X i k) i (zerR (X i) i j))).set ((i : Int) * (n : Int) + (i : Int)).toNat (rgl X i).alpha = colsM m n (rendF X i) := by
 rw [zerR_all (by omega) (by omega), colsM_put hs (by omega) hi (by rw [length_clrR]; exact hl)]
 refine colsM_congr fun q hq => ?_
 unfold updC rendF rmidF
 by_cases h : q = i
 ·rw [if_pos h, if_pos h]
 ·rw [if_neg h, if_neg h]
  by_cases h2 : i < q ∧ q < k
  ·rw [if_pos h2, if_pos h2.1]
  ·rw [if_neg h2]
   by_cases h3 : i < q
   ·rw [if_pos h3]
    rcases hk with hk | hk
    ·omega
    ·rw [mirW_no hk]
   ·rw [if_neg h3]
def turnM (H : Nat → Gls) (m n d j : Nat) (q : Nat) : List Nat := if q < j then turnP H m n q (d + 1) else turnP H m n q d
theorem turnM_len {H : Nat → Gls} {m n d j q : Nat} : (turnM H m n d j q).length = m := by unfold turnM; split <;> exact length_turnP _ _ _ _ _
theorem turnM_step {H : Nat → Gls} {m n d j k : Nat} {v : List Nat} {w : Nat} (hk : k = n - 1 - d) (hv : v = (H (n - 1 - d)).v) (hww : w = (H (n - 1 - d)).w) (hw : fcmp .eql w 0 = false) : colsM m m (updC (turnM H m n d j) j (dwnL v w k (turnM H m n d j j))) = colsM m m (turnM H m n d (j + 1)) := colsM_congr fun q _ => by
 subst hk; subst hv; subst hww
 rw [dwn_mirW hw]
 unfold updC turnM
 by_cases h : q = j
 ·rw [if_pos h, if_neg (by omega), if_pos (by omega), h]; rfl
 ·rw [if_neg h]
  by_cases h2 : q < j
  ·rw [if_pos h2, if_pos (by omega)]
  ·rw [if_neg h2, if_neg (by omega)]
theorem turnM_end {H : Nat → Gls} {m n d j : Nat} (hj : j = m ∨ fcmp .eql (H (n - 1 - d)).w 0 = true) : colsM m m (turnM H m n d j) = colsM m m (fun q => turnP H m n q (d + 1)) := colsM_congr fun q hq => by
 unfold turnM
 by_cases h : q < j
 ·rw [if_pos h]
 ·rw [if_neg h]
  rcases hj with hj | hj
  ·omega
  ·rw [turnP, mirW_no hj]
def eyeTo (m k j : Nat) : List Nat := if j < k then unitL m j else List.replicate m 0
theorem eyeTo_len {m k j : Nat} : (eyeTo m k j).length = m := by unfold eyeTo; split; exact length_unitL m j; exact List.length_replicate
theorem eyeTo_0 {m : Nat} : (grid (m : Int) (m : Int) fun _ _ => 0) = colsM m m (eyeTo m 0) := grid_congr fun a b _ _ _ _ => by
 unfold eyeTo
 rw [if_neg (by omega), List.getD, List.getElem?_replicate]
 split <;> rfl
theorem eyeTo_step {m k : Nat} (hs : Siz (m : Int) (m : Int)) (hk : k < m) : (colsM m m (eyeTo m k)).set ((k : Int) * (m : Int) + (k : Int)).toNat ONE = colsM m m (eyeTo m (k + 1)) := by
 rw [colsM_set hs hk hk eyeTo_len]
 refine colsM_congr fun j _ => ?_
 unfold updC eyeTo
 by_cases h : j = k
 ·rw [if_pos h, if_neg (by omega), if_pos (by omega), h]; rfl
 ·rw [if_neg h]
  by_cases h2 : j < k
  ·rw [if_pos h2, if_pos (by omega)]
  ·rw [if_neg h2, if_neg (by omega)]
theorem eyeTo_all {m k : Nat} {H : Nat → Gls} {n : Nat} (hk : k = m) : colsM m m (eyeTo m k) = colsM m m (fun q => turnP H m n q 0) := colsM_congr fun j hj => by
 unfold eyeTo; rw [if_pos (by omega)]; rfl
def ClmD (i j a b : Int) : Prop := b < j ∨ (b = j ∧ a < i)
theorem clm_grid0 {r c : Int} {f : Int → Int → Nat} (hs : Siz r c) : PutI r c f (ClmD (0 : Nat) (0 : Nat)) (grid r c fun _ _ => 0) := by
 have h := putI_zero (f := f) hs
 rw [grid_zero, show r.toNat * c.toNat = (r * c).toNat by have := siz_nat hs; omega]
 refine putI_cast h fun a b hab => ?_
 obtain ⟨h1, h2, h3, h4⟩ := hab
 refine ⟨fun h => ?_, False.elim⟩
 unfold ClmD at h
 show False
 omega
theorem clm_step {r c : Int} {f : Int → Int → Nat} {i j : Nat} {xs : List Nat} {v : Nat} (hs : Siz r c) (hi : (i : Int) < r) (hj : (j : Int) < c) (h : PutI r c f (ClmD i j) xs) (hv : v = f i j) : PutI r c f (ClmD ((i + 1 : Nat) : Int) j) (xs.set ((i : Int) * c + (j : Int)).toNat v) := by
 refine putI_set hs h ⟨by omega, hi, by omega, hj⟩ hv fun a b _ => ?_
 unfold ClmD; omega
theorem clm_end {r c : Int} {f : Int → Int → Nat} {j q : Nat} {xs : List Nat} (hs : Siz r c) (hq : q = r.toNat) (h : PutI r c f (ClmD q j) xs) : PutI r c f (ClmD ((0 : Nat) : Int) ((j + 1 : Nat) : Int)) xs := by
 have h1 := hs.1
 refine putI_cast h fun a b hab => ?_
 obtain ⟨h1, h2, h3, h4⟩ := hab
 unfold ClmD; omega
theorem clm_done {r c : Int} {f : Int → Int → Nat} {k : Nat} {xs : List Nat} (hs : Siz r c) (hk : k = c.toNat) (h : PutI r c f (ClmD (0 : Nat) k) xs) : xs = grid r c f := by
 have h1 := hs.2.2.1
 refine putI_grid hs h fun a b hab => ?_
 obtain ⟨h1, h2, h3, h4⟩ := hab
 unfold ClmD; omega
def tidB (x b : Nat) : Nat := tidN x (fcmp .lss b 0)
def rqrM (r c : Int) (xs : List Nat) : QM :=
 if chk r c xs ≠ 0 then badS (chk r c xs)
 else if r < c then badS 3
 else endsQ r c (qQ tidB (rtriTo (colX r c xs) c.toNat) (rglsAt (colX r c xs)) r.toNat c.toNat) (qR tidB (rtriTo (colX r c xs) c.toNat) c.toNat)
def vsTo (X : Nat → List Nat) (i : Nat) : List (List Nat) := (List.range i).map fun k => (rglsAt X k).v
def wsTo (X : Nat → List Nat) (i : Nat) : List Nat := (List.range i).map fun k => (rglsAt X k).w
theorem vsTo_succ (X : Nat → List Nat) (i : Nat) : vsTo X (i + 1) = vsTo X i ++ [(rgl (rtriTo X i) i).v] := by unfold vsTo; rw [List.range_succ, List.map_append]; rfl
theorem wsTo_succ (X : Nat → List Nat) (i : Nat) : wsTo X (i + 1) = wsTo X i ++ [(rgl (rtriTo X i) i).w] := by unfold wsTo; rw [List.range_succ, List.map_append]; rfl
theorem length_vsTo (X : Nat → List Nat) (i : Nat) : (vsTo X i).length = i := by unfold vsTo; simp
theorem length_wsTo (X : Nat → List Nat) (i : Nat) : (wsTo X i).length = i := by unfold wsTo; simp
theorem vsTo_at {X : Nat → List Nat} {i k : Nat} (h : k < i) : (vsTo X i).getD k [] = (rglsAt X k).v := map_at h
theorem wsTo_at {X : Nat → List Nat} {i k : Nat} (h : k < i) : (wsTo X i).getD k 0 = (rglsAt X k).w := by
 unfold wsTo
 rw [List.getD, List.getElem?_map, List.getElem?_range h]
 rfl
theorem rqrM_1 {r c : Int} {xs : List Nat} (h : chk r c xs ≠ 0) : rqrM r c xs = badS (chk r c xs) := by unfold rqrM; rw [if_pos h]
theorem rqrM_2 {r c : Int} {xs : List Nat} (h : chk r c xs = 0) (h2 : r < c) : rqrM r c xs = badS 3 := by unfold rqrM; rw [if_neg (by simpa using h), if_pos h2]
theorem rqrM_4 {m n : Nat} {xs : List Nat} (h : chk (m : Int) (n : Int) xs = 0) (h2 : ¬ (m : Int) < (n : Int)) : rqrM (m : Int) (n : Int) xs = endsQ (m : Int) (n : Int) (qQ tidB (rtriTo (colX (m : Int) (n : Int) xs) n) (rglsAt (colX (m : Int) (n : Int) xs)) m n) (qR tidB (rtriTo (colX (m : Int) (n : Int) xs) n) n) := by
 unfold rqrM
 rw [if_neg (by simpa using h), if_neg h2]
 rfl
theorem rqr_start {m n : Nat} {xs : List Nat} (hF : FinL xs) : RtrI (colX (m : Int) (n : Int) xs) n m 0 :=
 ⟨fun j _ => colX_len j, fun j _ => cnL_fin (finL_colX hF j)⟩
def eQ (m n : Nat) (ys xs : List Nat) : List Nat := grid (m : Int) (n : Int) fun i j => tidB (mat (m : Int) ys i j) (mat (n : Int) xs j j)
def eR (n : Nat) (xs : List Nat) : List Nat := grid (n : Int) (n : Int) fun i j => tidB (mat (n : Int) xs i j) (mat (n : Int) xs i i)
theorem eQ_eq {m n : Nat} {X : Nat → List Nat} {H : Nat → Gls} (hmn : n ≤ m) : eQ m n (colsM m m (fun q => turnP H m n q n)) (colsM m n X) = qQ tidB X H m n := grid_congr fun i j h1 h2 h3 h4 => by
 rw [colsM_at h1 h2 h3 (by omega), colsM_at h3 (by omega) h3 h4]
theorem eR_eq {m n : Nat} {X : Nat → List Nat} (hmn : n ≤ m) : eR n (colsM m n X) = qR tidB X n := grid_congr fun i j h1 h2 h3 h4 => by
 rw [colsM_at h1 (by omega) h3 h4, colsM_at h1 (by omega) h1 h2]
end Go.Bn
