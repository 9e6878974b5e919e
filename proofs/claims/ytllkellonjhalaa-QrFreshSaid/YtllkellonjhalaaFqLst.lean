/-
 Least squares by a matrix that is split: step by step from the last place, and what is not finite stays so.
-/
import Derived.Test.YtllkellonjhalaaFqQrd
set_option linter.unusedVariables false
set_option linter.unusedSimpArgs false
namespace Go.Bn
open Go
theorem nf_sub2 {x y : Nat} (h : Nf y) : Nf (fsub x y) := by
 unfold fsub Ieee.Format.sub
 refine (sum_not (a := (Ieee.double.read y).opposite) ?_).2
 rcases read_not h with ⟨s, h⟩ | h
 ·rw [h]; exact .inl ⟨!s, rfl⟩
 ·right
  cases hd : Ieee.double.read y with
  | number => rw [hd] at h; cases h
  | infinity => rw [hd] at h; cases h
  | nan => rfl
theorem nf_div1 {x y : Nat} (h : Nf x) : Nf (fdiv x y) := by
 unfold fdiv Ieee.Format.div
 rcases read_not h with ⟨s, h⟩ | h
 ·rw [h]
  cases Ieee.double.read y with
  | nan => exact nan_not
  | infinity t => exact nan_not
  | number t m e => exact inf_not _
 ·cases hd : Ieee.double.read x with
  | number => rw [hd] at h; cases h
  | infinity => rw [hd] at h; cases h
  | nan => cases Ieee.double.read y <;> exact nan_not
def lsD (m c : Int) (q ys : List Nat) (k : Nat) : Nat := dotL (colL m c q (k : Int)) ys
def lsS (c : Int) (r x : List Nat) (k : Nat) : Nat := dotL ((rowL c r (k : Int)).drop (k + 1)) (x.drop (k + 1))
def lsV (m c c2 : Int) (q r ys x : List Nat) (k : Nat) : Nat := fdiv (fsub (lsD m c q ys k) (lsS c2 r x k)) (mat c2 r (k : Int) (k : Int))
def lsX (m c c2 : Int) (q r ys : List Nat) (n : Nat) : Nat → List Nat
 | 0 => List.replicate n 0
 | d + 1 => (lsX m c c2 q r ys n d).set (n - 1 - d) (lsV m c c2 q r ys (lsX m c c2 q r ys n d) (n - 1 - d))
theorem length_lsX (m c c2 : Int) (q r ys : List Nat) (n : Nat) : ∀ d, (lsX m c c2 q r ys n d).length = n
 | 0 => List.length_replicate
 | d + 1 => by rw [lsX, List.length_set, length_lsX m c c2 q r ys n d]
def stB (m c c2 : Int) (q r ys : List Nat) (n d : Nat) : Bool := ((!finQ (lsD m c q ys (n - 1 - d)) || !finQ (lsS c2 r (lsX m c c2 q r ys n d) (n - 1 - d))) || !finQ ((lsX m c c2 q r ys n (d + 1)).getD (n - 1 - d) 0))
theorem lsX_at {m c c2 : Int} {q r ys : List Nat} {n d : Nat} (hd : d < n) : ∀ e, d + 1 + e ≤ n → (lsX m c c2 q r ys n (d + 1 + e)).getD (n - 1 - d) 0 = lsV m c c2 q r ys (lsX m c c2 q r ys n d) (n - 1 - d)
 | 0, _ => by
  show ((lsX m c c2 q r ys n d).set (n - 1 - d) _).getD (n - 1 - d) 0 = _
  rw [List.getD, List.getElem?_set_self (by rw [length_lsX]; omega)]
  rfl
 | e + 1, he => by
  show ((lsX m c c2 q r ys n (d + 1 + e)).set (n - 1 - (d + 1 + e)) _).getD (n - 1 - d) 0 = _
  rw [List.getD, List.getElem?_set_ne (by omega)]
  exact lsX_at hd e (by omega)
theorem lsV_lt {m c c2 : Int} {q r ys x : List Nat} {k : Nat} : lsV m c c2 q r ys x k < 2 ^ 64 := fop_lt (op := .quo)
theorem dotTo_ltL (xs ys : List Nat) : ∀ k, dotTo xs ys k < 2 ^ 64
 | 0 => by show 0 < 2 ^ 64; decide
 | k + 1 => fop_lt (op := .add)
theorem dotL_lt (xs ys : List Nat) : dotL xs ys < 2 ^ 64 := dotTo_ltL _ _ _
theorem notQ {x : Nat} (hx : x < 2 ^ 64) : (!finQ x) = true ↔ Nf x := by
 rw [finQ_fin hx, nf_dec hx]; simp
theorem ls_bad {m c c2 : Int} {q r ys : List Nat} {n d : Nat} (hd : d < n) (h : stB m c c2 q r ys n d = true) : (lsX m c c2 q r ys n n).all finB = false := by
 have e1 := lsX_at (m := m) (c := c) (c2 := c2) (q := q) (r := r) (ys := ys) hd 0 (by omega)
 have e2 := lsX_at (m := m) (c := c) (c2 := c2) (q := q) (r := r) (ys := ys) hd (n - (d + 1)) (by omega)
 rw [show d + 1 + (n - (d + 1)) = n by omega] at e2
 have hV := lsV_lt (m := m) (c := c) (c2 := c2) (q := q) (r := r) (ys := ys) (x := lsX m c c2 q r ys n d) (k := n - 1 - d)
 have hn : Nf (lsV m c c2 q r ys (lsX m c c2 q r ys n d) (n - 1 - d)) := by
  unfold stB at h
  rw [Bool.or_eq_true, Bool.or_eq_true] at h
  rcases h with (h | h) | h
  ·exact nf_div1 (nf_sub1 ((notQ (dotL_lt _ _)).1 h))
  ·exact nf_div1 (nf_sub2 ((notQ (dotL_lt _ _)).1 h))
  ·rw [show d + 1 = d + 1 + 0 from rfl, e1] at h
   exact (notQ hV).1 h
 cases hv : (lsX m c c2 q r ys n n).all finB
 ·rfl
 ·have := finB_getD hv (n - 1 - d)
  rw [e2, (nf_dec hV).1 hn] at this
  cases this
theorem ls_good {m c c2 : Int} {q r ys : List Nat} {n : Nat} (h : ∀ d, d < n → stB m c c2 q r ys n d = false) : (lsX m c c2 q r ys n n).all finB = true := by
 rw [List.all_eq_true]
 intro z hz
 obtain ⟨k, hk, rfl⟩ := List.mem_iff_getElem.1 hz
 have hkn : k < n := by rw [length_lsX] at hk; exact hk
 have e2 := lsX_at (m := m) (c := c) (c2 := c2) (q := q) (r := r) (ys := ys) (n := n) (d := n - 1 - k) (by omega) (n - (n - 1 - k + 1)) (by omega)
 have e1 := lsX_at (m := m) (c := c) (c2 := c2) (q := q) (r := r) (ys := ys) (n := n) (d := n - 1 - k) (by omega) 0 (by omega)
 rw [show n - 1 - k + 1 + (n - (n - 1 - k + 1)) = n by omega, show n - 1 - (n - 1 - k) = k by omega] at e2
 rw [show n - 1 - (n - 1 - k) = k by omega] at e1
 have hs := h (n - 1 - k) (by omega)
 unfold stB at hs
 rw [Bool.or_eq_false_iff] at hs
 have h3 := hs.2
 rw [show n - 1 - (n - 1 - k) = k by omega, show n - 1 - k + 1 = n - 1 - k + 1 + 0 from rfl, e1] at h3
 rw [List.getD, List.getElem?_eq_getElem hk] at e2
 rw [show (lsX m c c2 q r ys n n)[k] = _ from e2, ← finQ_fin lsV_lt]
 simpa using h3
def zdB (c2 : Int) (r : List Nat) (n : Nat) : Bool := (List.range n).any fun k => fcmp .eql (mat c2 r (k : Int) (k : Int)) 0
def leastM (r c : Int) (xs ys : List Nat) : LR :=
 if chk r c xs ≠ 0 then badL (chk r c xs)
 else if lchkW ys ≠ 0 then badL (lchkW ys)
 else if r < c ∨ (ys.length : Int) ≠ r then badL 3
 else if (qrM r c xs).e ≠ 0 then badL (qrM r c xs).e
 else if zdB c (qrM r c xs).a2 c.toNat = true then badL 100
 else toldL (lsX r c c (qrM r c xs).a1 (qrM r c xs).a2 ys c.toNat c.toNat)
theorem qQ_good {F : Nat → Nat → Nat} {X : Nat → List Nat} {H : Nat → Gls} {m n : Nat} (hs : Siz (m : Int) (n : Int)) : Good (m : Int) (n : Int) (qQ F X H m n) := good_grid hs
theorem qR_good {F : Nat → Nat → Nat} {X : Nat → List Nat} {n : Nat} (hs : Siz (n : Int) (n : Int)) : Good (n : Int) (n : Int) (qR F X n) := good_grid hs
theorem qrM_good {r c : Int} {xs : List Nat} (h : chk r c xs = 0) (he : (qrM r c xs).e = 0) : (qrM r c xs).r1 = r ∧ (qrM r c xs).c1 = c ∧ (qrM r c xs).r2 = c ∧ (qrM r c xs).c2 = c ∧ Good r c (qrM r c xs).a1 ∧ Good c c (qrM r c xs).a2 := by
 have hg := chk_good h
 have hs : Siz c c := ⟨hg.1.2.2.1, hg.1.2.2.2, hg.1.2.2.1, hg.1.2.2.2⟩
 unfold qrM at he ⊢
 rw [if_neg (by simpa using h)] at he ⊢
 split at he
 ·cases he
 ·rename_i h1
  rw [if_neg h1]
  split at he
  ·cases he
  ·rename_i h2
   rw [if_neg h2]
   unfold endsQ at he ⊢
   split at he
   ·cases he
   ·rename_i h3
    rw [if_neg h3]
    have e1 : ((r.toNat : Nat) : Int) = r := by have := hg.1.1; omega
    have e2 : ((c.toNat : Nat) : Int) = c := by have := hg.1.2.2.1; omega
    have g1 := qQ_good (F := flipN) (X := triTo (colX r c xs) c.toNat) (H := glsAt (colX r c xs)) (m := r.toNat) (n := c.toNat) (by rw [e1, e2]; exact hg.1)
    have g2 := qR_good (F := flipN) (X := triTo (colX r c xs) c.toNat) (n := c.toNat) (by rw [e2]; exact hs)
    rw [e1, e2] at g1
    rw [e2] at g2
    exact ⟨rfl, rfl, rfl, rfl, g1, g2⟩
theorem ls_d {m c : Int} {q ys : List Nat} {k i : Nat} (hi : i < m.toNat) : dotTo (colL m c q (k : Int)) ys (i + 1) = fadd (dotTo (colL m c q (k : Int)) ys i) (fmul (mat c q (i : Int) (k : Int)) (ys.getD i 0)) := by
 rw [dotTo]
 congr 2
 unfold colL
 rw [List.getD, List.getElem?_map, List.getElem?_range hi]
 rfl
theorem ls_s {c : Int} {r x : List Nat} {k t : Nat} (ht : k + 1 + t < c.toNat) : dotTo ((rowL c r (k : Int)).drop (k + 1)) (x.drop (k + 1)) (t + 1) = fadd (dotTo ((rowL c r (k : Int)).drop (k + 1)) (x.drop (k + 1)) t) (fmul (mat c r (k : Int) ((k + 1 + t : Nat) : Int)) (x.getD (k + 1 + t) 0)) := by
 rw [dotTo, getD_drop, getD_drop]
 congr 2
 unfold rowL
 rw [List.getD, List.getElem?_map, List.getElem?_range ht]
 rfl
theorem ls_dall {m c : Int} {q ys : List Nat} {k i : Nat} (hi : i = m.toNat) : dotTo (colL m c q (k : Int)) ys i = lsD m c q ys k := by
 unfold lsD dotL; rw [length_colL, hi]
theorem ls_sall {c : Int} {r x : List Nat} {k t : Nat} (ht : t = c.toNat - (k + 1)) : dotTo ((rowL c r (k : Int)).drop (k + 1)) (x.drop (k + 1)) t = lsS c r x k := by
 unfold lsS dotL; rw [List.length_drop, length_rowL, ht]
theorem least_1 {r c : Int} {xs ys : List Nat} (h : chk r c xs ≠ 0) : leastM r c xs ys = badL (chk r c xs) := by unfold leastM; rw [if_pos h]
theorem least_2 {r c : Int} {xs ys : List Nat} (h : chk r c xs = 0) (h2 : lchkW ys ≠ 0) : leastM r c xs ys = badL (lchkW ys) := by unfold leastM; rw [if_neg (by simpa using h), if_pos h2]
theorem least_3 {r c : Int} {xs ys : List Nat} (h : chk r c xs = 0) (h2 : lchkW ys = 0) (h3 : r < c ∨ (ys.length : Int) ≠ r) : leastM r c xs ys = badL 3 := by unfold leastM; rw [if_neg (by simpa using h), if_neg (by simpa using h2), if_pos h3]
theorem least_4 {r c : Int} {xs ys : List Nat} (h : chk r c xs = 0) (h2 : lchkW ys = 0) (h3 : ¬ (r < c ∨ (ys.length : Int) ≠ r)) (h4 : (qrM r c xs).e ≠ 0) : leastM r c xs ys = badL (qrM r c xs).e := by unfold leastM; rw [if_neg (by simpa using h), if_neg (by simpa using h2), if_neg h3, if_pos h4]
theorem least_5 {r c : Int} {xs ys : List Nat} {n k : Nat} (h : chk r c xs = 0) (h2 : lchkW ys = 0) (h3 : ¬ (r < c ∨ (ys.length : Int) ≠ r)) (h4 : (qrM r c xs).e = 0) (hc : c = (n : Int)) (hk : k < n) (h5 : fcmp .eql (mat c (qrM r c xs).a2 (k : Int) (k : Int)) 0 = true) : leastM r c xs ys = badL 100 := by
 unfold leastM
 rw [if_neg (by simpa using h), if_neg (by simpa using h2), if_neg h3, if_neg (by simpa using h4), if_pos]
 unfold zdB
 exact List.any_eq_true.2 ⟨k, List.mem_range.2 (by omega), h5⟩
theorem least_6 {r c : Int} {xs ys : List Nat} {n : Nat} (h : chk r c xs = 0) (h2 : lchkW ys = 0) (h3 : ¬ (r < c ∨ (ys.length : Int) ≠ r)) (h4 : (qrM r c xs).e = 0) (hc : c = (n : Int)) (h5 : ∀ k, k < n → fcmp .eql (mat c (qrM r c xs).a2 (k : Int) (k : Int)) 0 = false) : leastM r c xs ys = toldL (lsX r c c (qrM r c xs).a1 (qrM r c xs).a2 ys n n) := by
 unfold leastM
 rw [if_neg (by simpa using h), if_neg (by simpa using h2), if_neg h3, if_neg (by simpa using h4), if_neg, show c.toNat = n by omega]
 unfold zdB
 rw [List.any_eq_true]
 rintro ⟨k, hk, hb⟩
 rw [h5 k (by have := List.mem_range.1 hk; omega)] at hb
 cases hb
theorem toldL_bad {xs : List Nat} (h : xs.all finB = false) : badL 5 = toldL xs := by unfold toldL; rw [if_pos h]
theorem toldL_yes {xs : List Nat} (h : xs.all finB = true) : (⟨xs, 0⟩ : LR) = toldL xs := by unfold toldL; rw [if_neg (by rw [h]; decide)]
end Go.Bn
