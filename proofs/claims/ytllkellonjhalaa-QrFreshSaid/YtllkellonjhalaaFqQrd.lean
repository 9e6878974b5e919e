/-
 A matrix split: its columns mirrored one by one, what unit lists come to, lists of equations.
-/
import Derived.Test.YtllkellonjhalaaFqRtr
set_option linter.unusedVariables false
set_option linter.unusedSimpArgs false
namespace Go.Bn
open Go
def colsL (r c : Int) (xs : List Nat) : List (List Nat) := (List.range c.toNat).map fun (j : Nat) => colL r c xs j
theorem length_colsL (r c : Int) (xs : List Nat) : (colsL r c xs).length = c.toNat := by unfold colsL; simp
theorem colsL_at {r c : Int} {xs : List Nat} {j : Nat} (h : j < c.toNat) : (colsL r c xs).getD j [] = colL r c xs j := by
 unfold colsL
 rw [List.getD, List.getElem?_map, List.getElem?_range h]
 rfl
def colX (r c : Int) (xs : List Nat) (j : Nat) : List Nat := colL r c xs j
theorem cols_push {r c : Int} {xs : List Nat} {i : Nat} {vs : List Value} {w : Value} {T : TypeId} (hi : i < vs.length) : ∀ k ob, (pool (i + 1) (fillR (fun j => som (vs.getD j NILV) flp (colX r c xs j) T) i (som w flp (colX r c xs i) T))).H k ob → (pool (i + 1) (fun j => som ((vs.set i w).getD j NILV) flp (colX r c xs j) T)).H k ob :=
 pool_congr fun j hj => by
  unfold fillR
  by_cases e : j = i
  ·rw [if_pos e, e, vset_at hi]
  ·rw [if_neg e, vset_ne (Ne.symm e)]
theorem cols_done {r c : Int} {xs : List Nat} {i : Nat} {u : Value} {vs : List Value} {T1 T2 : TypeId} (hi : i = c.toNat) (hv : vs.length = c.toNat) : ∀ k ob, ((som u isv vs T1).sep (pool i (fun j => som (vs.getD j NILV) flp (colX r c xs j) T2))).H k ob → (rowsR u (colsL r c xs) T1 T2).H k ob := fun k ob h => by
 subst hi
 refine ⟨⟨vs, by rw [length_colsL, hv]⟩, ?_⟩
 obtain ⟨o1, o2, h1, h2, h3, h4⟩ := h
 refine ⟨o1, o2, h1, h2, h3, ?_⟩
 show (pool (colsL r c xs).length (fun j => som (vs.getD j NILV) flp ((colsL r c xs).getD j []) T2)).H k o2
 rw [length_colsL]
 exact pool_congr (fun j hj => by rw [colsL_at hj]; rfl) k o2 h4
theorem cols_open {u : Value} {r c : Int} {xs : List Nat} {n : Nat} {T1 T2 : TypeId} {vs : List Value} (hc : c = (n : Int)) : ∀ k ob, (rowsV u (colsL r c xs) T1 T2 vs).H k ob → ((som u isv vs T1).sep (pool n (poolX vs T2 (colX r c xs)))).H k ob := fun k ob ⟨o1, o2, h1, h2, h3, h4⟩ => by
 refine ⟨o1, o2, h1, h2, h3, ?_⟩
 rw [length_colsL] at h4
 rw [show n = c.toNat by omega]
 exact pool_congr (fun j hj => by rw [colsL_at hj]; rfl) k o2 h4
def glsU (g : Gls) : List SP := [fls g.v, flp g.w, flp g.alpha]
def glsD : Gls := ⟨[], 0, 0⟩
theorem glsU_len : ∀ g, (glsU g).length = 3 := fun _ => rfl
def glsAt (X : Nat → List Nat) (k : Nat) : Gls := gls (triTo X k) k
def glsTo (X : Nat → List Nat) (i : Nat) : List Gls := (List.range i).map (glsAt X)
theorem glsTo_succ (X : Nat → List Nat) (i : Nat) : glsTo X (i + 1) = glsTo X i ++ [glsAt X i] := by unfold glsTo; rw [List.range_succ, List.map_append]; rfl
theorem length_glsTo (X : Nat → List Nat) (i : Nat) : (glsTo X i).length = i := by unfold glsTo; simp
theorem glsTo_at {X : Nat → List Nat} {i k : Nat} (h : k < i) : (glsTo X i).getD k glsD = glsAt X k := by
 unfold glsTo
 rw [List.getD, List.getElem?_map, List.getElem?_range h]
 rfl
def unitL (m j : Nat) : List Nat := (List.replicate m 0).set j ONE
theorem length_unitL (m j : Nat) : (unitL m j).length = m := by unfold unitL; rw [List.length_set, List.length_replicate]
def turnP (H : Nat → Gls) (m n j : Nat) : Nat → List Nat
 | 0 => unitL m j
 | d + 1 => mirW (H (n - 1 - d)) (n - 1 - d) (turnP H m n j d)
theorem length_turnP (H : Nat → Gls) (m n j : Nat) : ∀ d, (turnP H m n j d).length = m
 | 0 => length_unitL m j
 | d + 1 => by rw [turnP, length_mirW, length_turnP H m n j d]
theorem turn_push {H : Nat → Gls} {m n i : Nat} {vs : List Value} {w : Value} {T : TypeId} (hi : i < vs.length) : ∀ k ob, (pool (i + 1) (fillR (fun j => som (vs.getD j NILV) flp (turnP H m n j n) T) i (som w flp (turnP H m n i n) T))).H k ob → (pool (i + 1) (fun j => som ((vs.set i w).getD j NILV) flp (turnP H m n j n) T)).H k ob :=
 pool_congr fun j hj => by
  unfold fillR
  by_cases e : j = i
  ·rw [if_pos e, e, vset_at hi]
  ·rw [if_neg e, vset_ne (Ne.symm e)]
def flipN (x b : Nat) : Nat := fadd (if fcmp .lss b 0 = true then fneg x else x) 0
theorem flip_1 {x b : Nat} (h : fcmp .lss b 0 = true) : flipN x b = fadd (fneg x) 0 := by unfold flipN; rw [if_pos h]
theorem flip_0 {x b : Nat} (h : fcmp .lss b 0 = false) : flipN x b = fadd x 0 := by unfold flipN; rw [if_neg (by rw [h]; decide)]
structure QM where
 r1 : Int
 c1 : Int
 a1 : List Nat
 r2 : Int
 c2 : Int
 a2 : List Nat
 e : Int
def badS (e : Int) : QM := ⟨0, 0, [], 0, 0, [], e⟩
def resQ2 (x : QM) : SP := tupp [MatP x.r1 x.c1 x.a1, MatP x.r2 x.c2 x.a2, isv (.int .i64 x.e)]
def qQ (F : Nat → Nat → Nat) (X : Nat → List Nat) (H : Nat → Gls) (m n : Nat) : List Nat := grid (m : Int) (n : Int) fun i j => F ((turnP H m n j.toNat n).getD i.toNat 0) ((X j.toNat).getD j.toNat 0)
def qR (F : Nat → Nat → Nat) (X : Nat → List Nat) (n : Nat) : List Nat := grid (n : Int) (n : Int) fun i j => F ((X j.toNat).getD i.toNat 0) ((X i.toNat).getD i.toNat 0)
def endsQ (m n : Int) (q r : List Nat) : QM := if (!q.all finB || !r.all finB) = true then badS 5 else ⟨m, n, q, n, n, r, 0⟩
def qrM (r c : Int) (xs : List Nat) : QM :=
 if chk r c xs ≠ 0 then badS (chk r c xs)
 else if r < c then badS 3
 else if triB (colX r c xs) c.toNat = true then badS 5
 else endsQ r c (qQ flipN (triTo (colX r c xs) c.toNat) (glsAt (colX r c xs)) r.toNat c.toNat) (qR flipN (triTo (colX r c xs) c.toNat) c.toNat)
theorem qrM_1 {r c : Int} {xs : List Nat} (h : chk r c xs ≠ 0) : qrM r c xs = badS (chk r c xs) := by unfold qrM; rw [if_pos h]
theorem qrM_2 {r c : Int} {xs : List Nat} (h : chk r c xs = 0) (h2 : r < c) : qrM r c xs = badS 3 := by unfold qrM; rw [if_neg (by simpa using h), if_pos h2]
theorem qrM_3 {r c : Int} {xs : List Nat} {n i : Nat} (h : chk r c xs = 0) (h2 : ¬ r < c) (hc : c = (n : Int)) (hi : i < n) (ho : overB (triTo (colX r c xs) i) n i = true) : qrM r c xs = badS 5 := by
 unfold qrM
 rw [if_neg (by simpa using h), if_neg h2, if_pos]
 unfold triB
 rw [show c.toNat = n by omega]
 exact List.any_eq_true.2 ⟨i, List.mem_range.2 hi, ho⟩
theorem qrM_4 {r c : Int} {xs : List Nat} {m n : Nat} (h : chk r c xs = 0) (h2 : ¬ r < c) (hr : r = (m : Int)) (hc : c = (n : Int)) (ht : TriI (colX r c xs) n m n) : qrM r c xs = endsQ r c (qQ flipN (triTo (colX r c xs) n) (glsAt (colX r c xs)) m n) (qR flipN (triTo (colX r c xs) n) n) := by
 unfold qrM
 rw [if_neg (by simpa using h), if_neg h2, show c.toNat = n by omega, show r.toNat = m by omega, if_neg]
 unfold triB
 rw [List.any_eq_true]
 rintro ⟨p, hp, hb⟩
 rw [ht.ho p (List.mem_range.1 hp)] at hb
 cases hb
theorem over_1 {X : Nat → List Nat} {n i k : Nat} (hik : i < k) (hk : k < n) (h : (mirW (gls X i) i (X k)).all finB = false) : overB X n i = true := by
 unfold overB
 rw [Bool.or_eq_true]
 left
 rw [List.any_eq_true]
 exact ⟨k, List.mem_range.2 hk, by rw [h]; simp [hik]⟩
theorem over_2 {X : Nat → List Nat} {n i : Nat} (h : finQ (gls X i).alpha = false) : overB X n i = true := by
 unfold overB
 rw [Bool.or_eq_true]
 right
 rw [h]; rfl
theorem colX_len {r c : Int} {xs : List Nat} (j : Nat) : (colX r c xs j).length = r.toNat := length_colL
theorem finL_colX {r c : Int} {xs : List Nat} (hF : FinL xs) (j : Nat) : FinL (colX r c xs j) := fun k => by
 unfold colX colL
 by_cases hk : k < r.toNat
 ·rw [List.getD, List.getElem?_map, List.getElem?_range hk]
  exact hF _
 ·rw [List.getD, List.getElem?_eq_none (by simpa using hk)]
  exact ⟨by decide, by decide⟩
theorem qtri_start {r c : Int} {xs : List Nat} {m n : Nat} (hr : r = (m : Int)) (hF : FinL xs) : TriI (colX r c xs) n m 0 :=
 ⟨fun j _ => by show (colX r c xs j).length = m; rw [colX_len]; omega, fun j _ => finL_colX hF j, fun p hp => absurd hp (Nat.not_lt_zero p)⟩
theorem take_gridN {F : Nat → Nat → Nat} {m n p q : Nat} (hp : p < m) (hq : q < n) : (grid (m : Int) (n : Int) fun a b => F a.toNat b.toNat).take (p * n + (q + 1)) = (grid (m : Int) (n : Int) fun a b => F a.toNat b.toNat).take (p * n + q) ++ [F p q] :=
 take_grid (r := (m : Int)) (c := (n : Int)) (f := fun a b => F a.toNat b.toNat) (i := p) (j := q) hp hq
theorem take_gridN_le {F : Nat → Nat → Nat} {m n k : Nat} (hm : m ≤ 12) (hn : n ≤ 12) : ((grid (m : Int) (n : Int) fun a b => F a.toNat b.toNat).take k).length ≤ 144 := by
 rw [List.length_take, length_grid]
 have h : ((m : Int)).toNat * ((n : Int)).toNat ≤ 12 * 12 := Nat.mul_le_mul hm hn
 omega
theorem take_gridN_all {F : Nat → Nat → Nat} {m n k : Nat} (hk : k = m) : (grid (m : Int) (n : Int) fun a b => F a.toNat b.toNat).take (k * n) = grid (m : Int) (n : Int) fun a b => F a.toNat b.toNat := by
 subst hk
 refine List.take_of_length_le ?_
 rw [length_grid]
 exact Nat.le_refl _
theorem triTo_len {X : Nat → List Nat} {m n : Nat} (h : ∀ j, j < n → (X j).length = m) : ∀ k j, j < n → (triTo X k j).length = m
 | 0, j, hj => h j hj
 | k + 1, j, hj => by
  show (endF (triTo X k) k j).length = m
  unfold endF
  split
  ·rename_i e
   rw [List.length_set, length_clrR]; exact triTo_len h k k (e ▸ hj)
  ·split
   ·rw [length_mirW]; exact triTo_len h k j hj
   ·exact triTo_len h k j hj
theorem glsAt_len {X : Nat → List Nat} {m n k : Nat} (h : ∀ j, j < n → (X j).length = m) (hk : k < n) : (glsAt X k).v.length = m - k := by
 show (houseL ((triTo X k k).drop k)).v.length = m - k
 rw [length_houseL, List.length_drop, triTo_len h k k hk]
theorem turn_step {H : Nat → Gls} {m n j d k : Nat} {g : Gls} (hk : k = n - 1 - d) (hg : g = H (n - 1 - d)) : (turnP H m n j d).take k ++ mirL g.v g.w ((turnP H m n j d).drop k) = turnP H m n j (d + 1) := by
 subst hk; subst hg; rfl
def FQ (X : Nat → List Nat) (H : Nat → Gls) (m n i j : Nat) : Nat := flipN ((turnP H m n j n).getD i 0) ((X j).getD j 0)
def FR (X : Nat → List Nat) (i j : Nat) : Nat := flipN ((X j).getD i 0) ((X i).getD i 0)
theorem qQ_eq {X : Nat → List Nat} {H : Nat → Gls} {m n : Nat} : (grid (m : Int) (n : Int) fun a b => FQ X H m n a.toNat b.toNat) = qQ flipN X H m n := rfl
theorem qR_eq {X : Nat → List Nat} {n : Nat} : (grid (n : Int) (n : Int) fun a b => FR X a.toNat b.toNat) = qR flipN X n := rfl
end Go.Bn
