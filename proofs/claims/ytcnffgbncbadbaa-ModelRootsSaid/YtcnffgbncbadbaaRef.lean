/-
  Plain facts on what the eighth reference computes.
-/
import Derived.Test.YtcnffgbncbadbaaFlo
set_option linter.unusedVariables false
set_option linter.unusedSimpArgs false
namespace Go.Bn
open Go

theorem take_rowL {c : Int} {xs : List Nat} {i : Int} {k : Nat} (hk : k < c.toNat) : (rowL c xs i).take (k + 1) = (rowL c xs i).take k ++ [mat c xs i k] := by
  rw [take_snoc 0 (by rw [length_rowL]; exact hk)]
  congr 2
  simp [rowL, List.getD, hk]
/-- Up to row i and column j, row by row. -/
def RowD (i j a b : Int) : Prop := a < i ∨ (a = i ∧ b < j)
theorem putI_grid0 {r c : Int} {f : Int → Int → Nat} (hs : Siz r c) : PutI r c f (RowD (0 : Nat) (0 : Nat)) (grid r c fun _ _ => 0) := by
  have h := putI_zero (f := f) hs
  rw [grid_zero, show r.toNat * c.toNat = (r * c).toNat by have := siz_nat hs; omega]
  refine putI_cast h fun a b hab => ?_
  obtain ⟨h1, h2, h3, h4⟩ := hab
  refine ⟨fun h => ?_, False.elim⟩
  unfold RowD at h
  show False
  omega
theorem row_step {r c : Int} {f : Int → Int → Nat} {i j : Nat} {xs : List Nat} {v : Nat} (hs : Siz r c) (hi : (i : Int) < r) (hj : (j : Int) < c) (h : PutI r c f (RowD i j) xs) (hv : v = f i j) : PutI r c f (RowD i ((j + 1 : Nat) : Int)) (xs.set ((i : Int) * c + (j : Int)).toNat v) := by
  refine putI_set hs h ⟨by omega, hi, by omega, hj⟩ hv fun a b _ => ?_
  unfold RowD; omega
theorem row_end {r c : Int} {f : Int → Int → Nat} {i q : Nat} {xs : List Nat} (hs : Siz r c) (hq : q = c.toNat) (h : PutI r c f (RowD i q) xs) : PutI r c f (RowD ((i + 1 : Nat) : Int) ((0 : Nat) : Int)) xs := by
  have h1 := hs.2.2.1
  refine putI_cast h fun a b hab => ?_
  obtain ⟨h1, h2, h3, h4⟩ := hab
  unfold RowD; omega
theorem row_done {r c : Int} {f : Int → Int → Nat} {k : Nat} {xs : List Nat} (hs : Siz r c) (hk : k = r.toNat) (h : PutI r c f (RowD k (0 : Nat)) xs) : xs = grid r c f := by
  have h1 := hs.1
  refine putI_grid hs h fun a b hab => ?_
  obtain ⟨h1, h2, h3, h4⟩ := hab
  unfold RowD; omega
/-- Up to row i and column j of what stands below the diagonal, or on it (e = 1). -/
def LowD (e i j a b : Int) : Prop := b < a + e ∧ (a < i ∨ (a = i ∧ b < j))
/-- What stands at places below or on the diagonal, noughts above. -/
def lowF (e : Int) (f : Int → Int → Nat) (i j : Int) : Nat := if j < i + e then f i j else 0
theorem low_zero {n e : Int} {f : Int → Int → Nat} (hs : Siz n n) : PutI n n (lowF e f) (LowD e (0 : Nat) (0 : Nat)) (grid n n fun _ _ => 0) := by
  refine putI_cast (putI_grid0 hs) fun a b hab => ?_
  obtain ⟨h1, h2, h3, h4⟩ := hab
  unfold RowD LowD; omega
theorem low_step {n : Int} {f : Int → Int → Nat} {i j : Nat} {xs : List Nat} {v : Nat} (hs : Siz n n) (hi : (i : Int) < n) (hj : j ≤ i) (h : PutI n n (lowF 1 f) (LowD 1 i j) xs) (hv : v = f i j) : PutI n n (lowF 1 f) (LowD 1 i ((j + 1 : Nat) : Int)) (xs.set ((i : Int) * n + (j : Int)).toNat v) := by
  refine putI_set hs h ⟨by omega, hi, by omega, by omega⟩ (by unfold lowF; rw [if_pos (by omega)]; exact hv) fun a b _ => ?_
  unfold LowD; omega
theorem low_end {n : Int} {f : Int → Int → Nat} {i q : Nat} {xs : List Nat} (hq : q = i + 1) (h : PutI n n (lowF 1 f) (LowD 1 i q) xs) : PutI n n (lowF 1 f) (LowD 1 ((i + 1 : Nat) : Int) ((0 : Nat) : Int)) xs := by
  refine putI_cast h fun a b hab => ?_
  obtain ⟨h1, h2, h3, h4⟩ := hab
  unfold LowD; omega
theorem low_done {n : Int} {f : Int → Int → Nat} {k : Nat} {xs : List Nat} (hs : Siz n n) (hk : k = n.toNat) (h : PutI n n (lowF 1 f) (LowD 1 k (0 : Nat)) xs) : xs = grid n n (lowF 1 f) := by
  have h1 := hs.1
  rw [← grid_mat hs.1 hs.1 h.1]
  refine grid_congr fun i j h1 h2 h3 h4 => ?_
  by_cases hd : LowD 1 k (0 : Nat) i j
  · exact (h.2 i j ⟨h1, h2, h3, h4⟩).1 hd
  · rw [(h.2 i j ⟨h1, h2, h3, h4⟩).2 hd]
    unfold lowF
    rw [if_neg (fun hl => hd (by unfold LowD; omega))]
/-- Mirrored, of what stands below or on the diagonal. -/
theorem mir_low {n : Int} {f : Int → Int → Nat} : mirR n (mat n (grid n n (lowF 1 f))) = mirR n f := by
  refine grid_congr fun i j h1 h2 h3 h4 => ?_
  have e1 : mat n (grid n n (lowF 1 f)) i j = _ := mat_grid h1 h2 h3 h4
  have e2 : mat n (grid n n (lowF 1 f)) j i = _ := mat_grid h3 h4 h1 h2
  show (if j ≤ i then mat n (grid n n (lowF 1 f)) i j else mat n (grid n n (lowF 1 f)) j i) = if j ≤ i then f i j else f j i
  rw [e1, e2]
  unfold lowF
  by_cases h : j ≤ i
  · rw [if_pos h, if_pos h, if_pos (by omega)]
  · rw [if_neg h, if_neg h, if_pos (by omega)]
theorem mir_congr {n : Int} {f g : Int → Int → Nat} (h : ∀ i j, Lo n i j → f i j = g i j) : mirR n f = mirR n g := by
  refine grid_congr fun i j h1 h2 h3 h4 => ?_
  show (if j ≤ i then f i j else f j i) = if j ≤ i then g i j else g j i
  split
  · exact h _ _ ⟨by omega, by omega, by omega⟩
  · exact h _ _ ⟨by omega, by omega, by omega⟩
/-- What the laws compare: a matrix and an error, as the document has them. -/
def toldB (x y : MR) : Bool := if x.e ≠ y.e ∨ y.e ≠ 0 then decide (x.e = y.e) && decide (x.r = 0) && decide (x.c = 0) && decide ((x.a.length : Int) = 0) else decide (x.r = y.r) && decide (x.c = y.c) && decide (x.a = y.a)
def Fair (x : MR) : Prop := x.e ≠ 0 → x = badM x.e
theorem told_same {x y : MR} (hf : Fair x) (he : x.e = y.e) (h : x.e = 0 → x = y) : toldB x y = true := by
  unfold toldB
  by_cases h0 : x.e = 0
  · rw [if_neg (by omega)]
    have := h h0
    subst this
    simp
  · have hb := hf h0
    rw [if_pos (.inr (by omega))]
    rw [he, hb]
    simp [badM]
theorem fair_orR {e : Int} {x : MR} (h : Fair x) : Fair (orR e x) := by
  unfold orR
  split
  · exact h
  · exact fun _ => rfl
theorem fair_told {r c : Int} {xs : List Nat} : Fair (toldR r c xs) := by
  unfold toldR
  split
  · exact fun _ => rfl
  · exact fun h => (h rfl).elim
theorem fair_ok {r c : Int} {xs : List Nat} : Fair ⟨r, c, xs, 0⟩ := fun h => (h rfl).elim
/-! ## Lists and numbers that are answered -/
structure LR where
  a : List Nat
  e : Int
def resV (x : LR) : SP := tupp [fls x.a, isv (.int .i64 x.e)]
def badL (e : Int) : LR := ⟨[], e⟩
def orL (e : Int) (x : LR) : LR := if e = 0 then x else badL e
theorem ret_L {Γ : Facts} {a : List Nat} {e : Int} {x : LR} (h : (⟨a, e⟩ : LR) = x) : Sb Γ (tupp [fls a, isv (.int .i64 e)]) (resV x) := by subst h; exact sb_refl
def listB (x y : LR) : Bool := if x.e ≠ y.e ∨ y.e ≠ 0 then decide (x.e = y.e) && decide ((x.a.length : Int) = 0) else decide (x.a = y.a)
def FairL (x : LR) : Prop := x.e ≠ 0 → x = badL x.e
theorem list_same {x y : LR} (hf : FairL x) (he : x.e = y.e) (h : x.e = 0 → x = y) : listB x y = true := by
  unfold listB
  by_cases h0 : x.e = 0
  · rw [if_neg (by omega)]
    have := h h0
    subst this
    simp
  · have hb := hf h0
    rw [if_pos (.inr (by omega))]
    rw [he, hb]
    simp [badL]
theorem fairL_orL {e : Int} {x : LR} (h : FairL x) : FairL (orL e x) := by
  unfold orL
  split
  · exact h
  · exact fun _ => rfl
theorem fairL_ok {xs : List Nat} : FairL ⟨xs, 0⟩ := fun h => (h rfl).elim
structure NR where
  a : Nat
  e : Int
def resN (x : NR) : SP := tupp [flp x.a, isv (.int .i64 x.e)]
def badN (e : Int) : NR := ⟨0, e⟩
def orN (e : Int) (x : NR) : NR := if e = 0 then x else badN e
theorem ret_N {Γ : Facts} {a : Nat} {e : Int} {x : NR} (h : (⟨a, e⟩ : NR) = x) : Sb Γ (tupp [flp a, isv (.int .i64 e)]) (resN x) := by subst h; exact sb_refl
/-! ## The reference's answers, where the matrices are good -/
theorem rmul_no {r c r' c' : Int} {xs ys : List Nat} (h1 : chk r c xs = 0) (h2 : chk r' c' ys = 0) (h : c ≠ r') : badM 3 = mulR r c xs r' c' ys := by
  unfold mulR mulE
  rw [h1, h2, show fstE [0, 0, whenE (c != r') 3] = 3 by simp [fstE, whenE, h]]
  rfl
theorem rmul_yes {r c r' c' : Int} {xs ys : List Nat} (h1 : chk r c xs = 0) (h2 : chk r' c' ys = 0) (h : c = r') : toldR r c' (prodG r c xs c' ys) = mulR r c xs r' c' ys := by
  unfold mulR mulE
  rw [h1, h2, show fstE [0, 0, whenE (c != r') 3] = 0 by simp [fstE, whenE, h]]
  rfl
theorem rsand_no {r c r' c' : Int} {xs ys : List Nat} (h1 : chk r c xs = 0) (h2 : chk r' c' ys = 0) (h : r' ≠ c' ∨ c ≠ r') : badM 3 = sandR r c xs r' c' ys := by
  unfold sandR sandE
  rw [h1, h2, show fstE [0, 0, whenE (r' != c' || c != r') 3] = 3 by
    have : (r' != c' || c != r') = true := by simpa using h
    rw [this]; rfl]
  rfl
theorem rsand_yes {r c r' c' : Int} {xs ys : List Nat} (h1 : chk r c xs = 0) (h2 : chk r' c' ys = 0) (h : r' = c') (h' : c = r') : toldR r r (sandG r c xs ys) = sandR r c xs r' c' ys := by
  unfold sandR sandE
  rw [h1, h2, show fstE [0, 0, whenE (r' != c' || c != r') 3] = 0 by simp [fstE, whenE, h, h']]
  rfl
theorem fair_mul {r c r' c' : Int} {xs ys : List Nat} : Fair (mulR r c xs r' c' ys) := fair_orR fair_told
theorem fair_sand {r c r' c' : Int} {xs ys : List Nat} : Fair (sandR r c xs r' c' ys) := fair_orR fair_told
theorem fair_sum {f : Nat → Nat → Nat} {r c r' c' : Int} {xs ys : List Nat} : Fair (sumR f r c xs r' c' ys) := fair_orR fair_told
theorem fair_tr {r c : Int} {xs : List Nat} : Fair (trR r c xs) := fair_orR fair_ok
theorem fair_mirror {r c : Int} {xs : List Nat} : Fair (mirrorR r c xs) := fair_orR fair_ok
theorem fair_mean {r c : Int} {xs : List Nat} : Fair (meanR r c xs) := fair_orR fair_told
/-! ## A matrix times a list -/
def mvG (r c : Int) (xs ys : List Nat) : List Nat := (List.range r.toNat).map fun (i : Nat) => dotL (rowL c xs i) ys
theorem length_mvG {r c : Int} {xs ys : List Nat} : (mvG r c xs ys).length = r.toNat := by simp [mvG]
theorem take_mvG {r c : Int} {xs ys : List Nat} {k : Nat} (hk : k < r.toNat) : (mvG r c xs ys).take (k + 1) = (mvG r c xs ys).take k ++ [dotL (rowL c xs k) ys] := by
  rw [take_snoc 0 (by rw [length_mvG]; exact hk)]
  congr 2
  simp [mvG, List.getD, hk]
def mvE (r c : Int) (xs ys : List Nat) : Int := fstE [chk r c xs, lchk ys, whenE (c != (ys.length : Int)) 3]
def toldL (xs : List Nat) : LR := if xs.all finB = false then badL 5 else ⟨xs, 0⟩
def mvR (r c : Int) (xs ys : List Nat) : LR := orL (mvE r c xs ys) (toldL (mvG r c xs ys))
theorem mvE_good {r c : Int} {xs ys : List Nat} (h : mvE r c xs ys = 0) : Good r c xs ∧ c = (ys.length : Int) ∧ xs.all finB = true ∧ ys.all finB = true := by
  unfold mvE at h
  rw [fst3, whenE_zero (by decide)] at h
  obtain ⟨h1, h2, h3⟩ := h
  have h1 := chk_zero.1 h1
  have h2 := lchk_zero.1 h2
  simp at h3
  exact ⟨h1.1, h3, h1.2, h2.2⟩
theorem fairL_toldL {xs : List Nat} : FairL (toldL xs) := by
  unfold toldL
  split
  · exact fun _ => rfl
  · exact fun h => (h rfl).elim

/-! ## What the laws ask -/
theorem dead_told {x y : MR} {b : Bool} (h : (!toldB x y || b) = true) (hT : toldB x y = true) (hb : b = false) : False := by rw [hT, hb] at h; cases h
theorem dead_told1 {x y : MR} (h : (!toldB x y) = true) (hT : toldB x y = true) : False := by rw [hT] at h; cases h
theorem fst_pre2 {a b w : Int} (h : fstE [a, b] ≠ 0) : fstE [a, b, w] = fstE [a, b] := by
  by_cases ha : a = 0
  · subst ha
    by_cases hb : b = 0
    · subst hb; exact (h rfl).elim
    · simp [fstE, hb]
  · simp [fstE, ha]
theorem orR_bad {e : Int} {x : MR} (h : e ≠ 0) : orR e x = badM e := if_neg h
/-- Where the law's first look finds an error. -/
theorem told_bad {x y : MR} (hx : x = badM y.e) (h : y.e ≠ 0) : toldB x y = true := told_same (fun _ => by rw [hx]; rfl) (by rw [hx]; rfl) (fun h0 => (h (by rw [hx] at h0; exact h0)).elim)
theorem list_bad {x y : LR} (hx : x = badL y.e) (h : y.e ≠ 0) : listB x y = true := list_same (fun _ => by rw [hx]; rfl) (by rw [hx]; rfl) (fun h0 => (h (by rw [hx] at h0; exact h0)).elim)
theorem mul_bad {r c r' c' : Int} {xs ys : List Nat} (h : fstE [chk r c xs, chk r' c' ys] ≠ 0) : mulR r c xs r' c' ys = badM (fstE [chk r c xs, chk r' c' ys]) := by
  unfold mulR mulE
  rw [fst_pre2 h, orR_bad h]
theorem sand_bad {r c r' c' : Int} {xs ys : List Nat} (h : fstE [chk r c xs, chk r' c' ys] ≠ 0) : sandR r c xs r' c' ys = badM (fstE [chk r c xs, chk r' c' ys]) := by
  unfold sandR sandE
  rw [fst_pre2 h, orR_bad h]
theorem sum_bad {f : Nat → Nat → Nat} {r c r' c' : Int} {xs ys : List Nat} (h : fstE [chk r c xs, chk r' c' ys] ≠ 0) : sumR f r c xs r' c' ys = badM (fstE [chk r c xs, chk r' c' ys]) := by
  unfold sumR alikeE
  rw [fst_pre2 h, orR_bad h]
theorem mv_yes {r c : Int} {xs ys : List Nat} (h : mvE r c xs ys = 0) : listB (mvR r c xs ys) ⟨mvG r c xs ys, whenE (!(mvG r c xs ys).all finB) 5⟩ = true := by
  have e : mvR r c xs ys = toldL (mvG r c xs ys) := if_pos h
  rw [e]
  refine list_same fairL_toldL ?_ ?_
  · unfold toldL; cases (mvG r c xs ys).all finB <;> rfl
  · unfold toldL; cases (mvG r c xs ys).all finB <;> intro h <;> first | (cases h; done) | rfl
theorem mv_no {r c : Int} {xs ys : List Nat} (h : mvE r c xs ys ≠ 0) : listB (mvR r c xs ys) ⟨[], mvE r c xs ys⟩ = true := list_bad (if_neg h) h
end Go.Bn
