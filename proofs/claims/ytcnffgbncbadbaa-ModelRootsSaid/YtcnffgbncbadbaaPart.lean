/-
  Plain facts on parts of matrices.
-/
import Derived.Test.YtcnffgbncbadbaaKind
import Derived.Test.YtcnffgbncbadbaaOpy
set_option linter.unusedVariables false
set_option linter.unusedSimpArgs false
namespace Go.Bn
open Go
/-! ## Column by column -/
/-- Up to column i, and in it up to row j. -/
def ColD (i j a b : Int) : Prop := b < i ∨ (b = i ∧ a < j)
theorem col_zero {r c : Int} {f : Int → Int → Nat} (hs : Siz r c) : PutI r c f (ColD (0 : Nat) (0 : Nat)) (grid r c fun _ _ => 0) := by
  refine putI_cast (putI_grid0 hs) fun a b hab => ?_
  obtain ⟨h1, h2, h3, h4⟩ := hab
  unfold RowD ColD; omega
theorem col_step {r c : Int} {f : Int → Int → Nat} {i j : Nat} {xs : List Nat} {v : Nat} (hs : Siz r c) (hi : (i : Int) < c) (hj : (j : Int) < r) (h : PutI r c f (ColD i j) xs) (hv : v = f j i) : PutI r c f (ColD i ((j + 1 : Nat) : Int)) (xs.set ((j : Int) * c + (i : Int)).toNat v) := by
  refine putI_set hs h ⟨by omega, hj, by omega, hi⟩ hv fun a b _ => ?_
  unfold ColD; omega
theorem col_end {r c : Int} {f : Int → Int → Nat} {i q : Nat} {xs : List Nat} (hs : Siz r c) (hq : q = r.toNat) (h : PutI r c f (ColD i q) xs) : PutI r c f (ColD ((i + 1 : Nat) : Int) ((0 : Nat) : Int)) xs := by
  have h1 := hs.1
  refine putI_cast h fun a b hab => ?_
  obtain ⟨h1, h2, h3, h4⟩ := hab
  unfold ColD; omega
theorem col_done {r c : Int} {f : Int → Int → Nat} {k : Nat} {xs : List Nat} (hs : Siz r c) (hk : k = c.toNat) (h : PutI r c f (ColD k (0 : Nat)) xs) : xs = grid r c f := by
  have h1 := hs.2.2.1
  refine putI_grid hs h fun a b hab => ?_
  obtain ⟨h1, h2, h3, h4⟩ := hab
  unfold ColD; omega
/-! ## Blocks -/
def spanB (f n a : Int) : Bool := ((decide (0 ≤ f) && decide (0 ≤ n)) && decide (f ≤ a)) && decide (n ≤ IntKind.i64.wrap (a - f))
theorem spanB_iff {f n a : Int} (ha : a ≤ 12) : spanB f n a = true ↔ 0 ≤ f ∧ 0 ≤ n ∧ f + n ≤ a := by
  unfold spanB
  simp only [Bool.and_eq_true, decide_eq_true_eq]
  by_cases h : 0 ≤ f ∧ f ≤ a
  · rw [wrap_id (by omega) (by omega)]; omega
  · constructor
    · intro hh; omega
    · intro hh; omega
def blkG (c : Int) (xs : List Nat) (i j p q : Int) : List Nat := grid p q fun k l => mat c xs (i + k) (j + l)
def blkE (r c : Int) (xs : List Nat) (i j p q : Int) : Int := fstE [chk r c xs, whenE (!spanB i p r || !spanB j q c) 1]
def blkR (r c : Int) (xs : List Nat) (i j p q : Int) : MR := orR (blkE r c xs i j p q) ⟨p, q, blkG c xs i j p q, 0⟩
def rbadB (r c i j p q : Int) : Bool := ((((((decide (i < 0) || decide (j < 0)) || decide (p < 0)) || decide (q < 0)) || decide (r < i)) || decide (c < j)) || decide (IntKind.i64.wrap (r - i) < p)) || decide (IntKind.i64.wrap (c - j) < q)
def rblkR (r c : Int) (xs : List Nat) (i j p q : Int) : MR := if rbadB r c i j p q = true then badM 1 else ⟨p, q, blkG c xs i j p q, 0⟩
theorem rbad_eq {r c i j p q : Int} (hs : Siz r c) : rbadB r c i j p q = (!spanB i p r || !spanB j q c) := by
  obtain ⟨h1, h2, h3, h4⟩ := hs
  have e1 := @spanB_iff i p r h2
  have e2 := @spanB_iff j q c h4
  have e : rbadB r c i j p q = true ↔ ¬ ((0 ≤ i ∧ 0 ≤ p ∧ i + p ≤ r) ∧ (0 ≤ j ∧ 0 ≤ q ∧ j + q ≤ c)) := by
    unfold rbadB
    simp only [Bool.or_eq_true, decide_eq_true_eq]
    by_cases ha : 0 ≤ i ∧ i ≤ r
    · by_cases hb : 0 ≤ j ∧ j ≤ c
      · rw [wrap_id (z := r - i) (by omega) (by omega), wrap_id (z := c - j) (by omega) (by omega)]; omega
      · constructor
        · intro _; omega
        · intro _; omega
    · constructor
      · intro _; omega
      · intro _; omega
  rw [← e1, ← e2] at e
  cases hr : rbadB r c i j p q <;> cases h5 : spanB i p r <;> cases h6 : spanB j q c <;> rw [hr, h5, h6] at e <;> simp at e ⊢
theorem blkE_good {r c i j p q : Int} {xs : List Nat} (h : blkE r c xs i j p q = 0) : Good r c xs ∧ Siz p q ∧ 0 ≤ i ∧ i + p ≤ r ∧ 0 ≤ j ∧ j + q ≤ c := by
  unfold blkE at h
  rw [fst2, whenE_zero (by decide)] at h
  obtain ⟨h1, h2⟩ := h
  have hg := chk_good h1
  simp at h2
  have h3 := (spanB_iff hg.1.2.1).1 h2.1
  have h4 := (spanB_iff hg.1.2.2.2).1 h2.2
  have := hg.1
  unfold Siz at this ⊢
  exact ⟨hg, by omega, by omega, by omega, by omega, by omega⟩
theorem rblk_good {r c i j p q : Int} {xs : List Nat} (hg : Good r c xs) (h : rbadB r c i j p q = false) : Siz p q ∧ 0 ≤ i ∧ i + p ≤ r ∧ 0 ≤ j ∧ j + q ≤ c := by
  rw [rbad_eq hg.1] at h
  simp at h
  have h3 := (spanB_iff hg.1.2.1).1 h.1
  have h4 := (spanB_iff hg.1.2.2.2).1 h.2
  have := hg.1
  unfold Siz at this ⊢
  exact ⟨by omega, by omega, by omega, by omega, by omega⟩
theorem fair_blk {r c i j p q : Int} {xs : List Nat} : Fair (blkR r c xs i j p q) := fair_orR fair_ok
theorem blk_y {r c i j p q : Int} {xs : List Nat} (h : chk r c xs = 0) : toldB (blkR r c xs i j p q) (rblkR r c xs i j p q) = true := by
  have e : blkR r c xs i j p q = rblkR r c xs i j p q := by
    unfold blkR rblkR blkE
    rw [rbad_eq (chk_good h).1, h]
    cases (!spanB i p r || !spanB j q c) <;> rfl
  rw [← e]
  exact told_same fair_blk rfl fun _ => rfl
theorem fst_1 {a w : Int} (h : a ≠ 0) : fstE [a, w] = a := by simp [fstE, h]
theorem blk_n {r c i j p q u v : Int} {xs zs : List Nat} (h : chk r c xs ≠ 0) : toldB (blkR r c xs i j p q) ⟨u, v, zs, chk r c xs⟩ = true := by
  refine told_bad ?_ h
  show blkR r c xs i j p q = badM (chk r c xs)
  unfold blkR blkE
  rw [fst_1 h]
  exact if_neg h
/-! ## Side by side, one on top of the other -/
def besF (c : Int) (xs : List Nat) (c' : Int) (ys : List Nat) (i j : Int) : Nat := if j < c then mat c xs i j else mat c' ys i (j - c)
def besG (r c : Int) (xs : List Nat) (c' : Int) (ys : List Nat) : List Nat := grid r (c + c') (besF c xs c' ys)
def wr (a b : Int) : Int := IntKind.i64.wrap (a + b)
def besE (r c : Int) (xs : List Nat) (r' c' : Int) (ys : List Nat) : Int := fstE [chk r c xs, chk r' c' ys, whenE (r != r') 3, whenE (decide (12 < wr c c')) 1]
def besR (r c : Int) (xs : List Nat) (r' c' : Int) (ys : List Nat) : MR := orR (besE r c xs r' c' ys) ⟨r, c + c', besG r c xs c' ys, 0⟩
theorem besE_good {r c r' c' : Int} {xs ys : List Nat} (h : besE r c xs r' c' ys = 0) : Good r c xs ∧ Good r c' ys ∧ r' = r ∧ Siz r (c + c') := by
  unfold besE at h
  rw [fst4, whenE_zero (by decide), whenE_zero (by decide)] at h
  obtain ⟨h1, h2, h3, h4⟩ := h
  have g1 := chk_good h1
  have g2 := chk_good h2
  simp at h3
  subst h3
  have q1 := g1.1
  have q2 := g2.1
  unfold Siz at q1 q2
  have e : wr c c' = c + c' := wrap_id (by omega) (by omega)
  rw [e] at h4
  simp at h4
  exact ⟨g1, g2, rfl, by unfold Siz; omega⟩
def rbesR (r c : Int) (xs : List Nat) (r' c' : Int) (ys : List Nat) : MR := if r ≠ r' then badM 3 else if 12 < c + c' then badM 1 else ⟨r, c + c', besG r c xs c' ys, 0⟩
theorem bes_eq {r c r' c' : Int} {xs ys : List Nat} (h1 : chk r c xs = 0) (h2 : chk r' c' ys = 0) : besR r c xs r' c' ys = rbesR r c xs r' c' ys := by
  have q1 := (chk_good h1).1
  have q2 := (chk_good h2).1
  unfold Siz at q1 q2
  have e : wr c c' = c + c' := wrap_id (by omega) (by omega)
  unfold besR rbesR besE
  rw [h1, h2, e]
  by_cases hr : r = r'
  · rw [if_neg (by simpa using hr)]
    by_cases hc : 12 < c + c'
    · rw [if_pos hc, show fstE [0, 0, whenE (r != r') 3, whenE (decide (12 < c + c')) 1] = 1 by simp [fstE, whenE, hr, hc]]; rfl
    · rw [if_neg hc, show fstE [0, 0, whenE (r != r') 3, whenE (decide (12 < c + c')) 1] = 0 by simp [fstE, whenE, hr, hc]]; rfl
  · rw [if_pos hr, show fstE [0, 0, whenE (r != r') 3, whenE (decide (12 < c + c')) 1] = 3 by simp [fstE, whenE, hr]]; rfl
theorem fair_bes {r c r' c' : Int} {xs ys : List Nat} : Fair (besR r c xs r' c' ys) := fair_orR fair_ok
theorem bes_y {r c r' c' : Int} {xs ys : List Nat} (h : fstE [chk r c xs, chk r' c' ys] = 0) : toldB (besR r c xs r' c' ys) (rbesR r c xs r' c' ys) = true := by
  have := fst2.1 h
  rw [← bes_eq this.1 this.2]
  exact told_same fair_bes rfl fun _ => rfl
theorem fst_pre4 {a b w u : Int} (h : fstE [a, b] ≠ 0) : fstE [a, b, w, u] = fstE [a, b] := by
  by_cases ha : a = 0
  · subst ha
    by_cases hb : b = 0
    · subst hb; exact (h rfl).elim
    · simp [fstE, hb]
  · simp [fstE, ha]
theorem bes_n {r c r' c' u v : Int} {xs ys zs : List Nat} (h : fstE [chk r c xs, chk r' c' ys] ≠ 0) : toldB (besR r c xs r' c' ys) ⟨u, v, zs, fstE [chk r c xs, chk r' c' ys]⟩ = true := by
  refine told_bad ?_ h
  show besR r c xs r' c' ys = badM _
  unfold besR besE
  rw [fst_pre4 h]
  exact if_neg h
/-- The two halves of a row. -/
theorem bes_mid {r c c' : Int} {f : Int → Int → Nat} {i q : Nat} {xs : List Nat} (hc : 0 ≤ c) (hq : q = c.toNat) (h : PutI r (c + c') f (RowD i q) xs) : PutI r (c + c') f (RowD i (c + ((0 : Nat) : Int))) xs := by
  refine putI_cast h fun a b hab => ?_
  unfold RowD; omega
theorem bes_step2 {r c c' : Int} {f : Int → Int → Nat} {i j : Nat} {xs : List Nat} {v : Nat} (hs : Siz r (c + c')) (hc : 0 ≤ c) (hi : (i : Int) < r) (hj : (j : Int) < c') (h : PutI r (c + c') f (RowD i (c + (j : Int))) xs) (hv : v = f i (c + j)) : PutI r (c + c') f (RowD i (c + ((j + 1 : Nat) : Int))) (xs.set ((i : Int) * (c + c') + (c + (j : Int))).toNat v) := by
  refine putI_set hs h ⟨by omega, hi, by omega, by omega⟩ hv fun a b _ => ?_
  unfold RowD; omega
theorem bes_end {r c c' : Int} {f : Int → Int → Nat} {i q : Nat} {xs : List Nat} (hs : Siz r (c + c')) (hc : 0 ≤ c') (hq : q = c'.toNat) (h : PutI r (c + c') f (RowD i (c + (q : Int))) xs) : PutI r (c + c') f (RowD ((i + 1 : Nat) : Int) ((0 : Nat) : Int)) xs := by
  refine putI_cast h fun a b hab => ?_
  obtain ⟨h1, h2, h3, h4⟩ := hab
  unfold RowD; omega
theorem besF_l {c c' : Int} {xs ys : List Nat} {i j : Int} (h : j < c) : mat c xs i j = besF c xs c' ys i j := by unfold besF; rw [if_pos h]
theorem besF_r {c c' : Int} {xs ys : List Nat} {i : Int} {j : Nat} : mat c' ys i (j : Int) = besF c xs c' ys i (c + (j : Int)) := by
  unfold besF
  rw [if_neg (by omega), show c + (j : Int) - c = (j : Int) by omega]
def stkE (r c : Int) (xs : List Nat) (r' c' : Int) (ys : List Nat) : Int := fstE [chk r c xs, chk r' c' ys, whenE (c != c') 3, whenE (decide (12 < wr r r')) 1]
def stkR (r c : Int) (xs : List Nat) (r' c' : Int) (ys : List Nat) : MR := orR (stkE r c xs r' c' ys) ⟨r + r', c, xs ++ ys, 0⟩
theorem stkE_good {r c r' c' : Int} {xs ys : List Nat} (h : stkE r c xs r' c' ys = 0) : Good r c xs ∧ Good r' c ys ∧ c' = c ∧ Siz (r + r') c := by
  unfold stkE at h
  rw [fst4, whenE_zero (by decide), whenE_zero (by decide)] at h
  obtain ⟨h1, h2, h3, h4⟩ := h
  have g1 := chk_good h1
  have g2 := chk_good h2
  simp at h3
  subst h3
  have q1 := g1.1
  have q2 := g2.1
  unfold Siz at q1 q2
  have e : wr r r' = r + r' := wrap_id (by omega) (by omega)
  rw [e] at h4
  simp at h4
  exact ⟨g1, g2, rfl, by unfold Siz; omega⟩
theorem good_stk {r c r' : Int} {xs ys : List Nat} (h1 : Good r c xs) (h2 : Good r' c ys) (hs : Siz (r + r') c) : Good (r + r') c (xs ++ ys) := by
  refine ⟨hs, ?_⟩
  rw [List.length_append, Int.natCast_add, h1.2, h2.2, Int.add_mul]
theorem mat_stk {r c r' i j : Int} {xs ys : List Nat} (h1 : Good r c xs) (h2 : Good r' c ys) (hp : Pl (r + r') c i j) : mat c (xs ++ ys) i j = if i < r then mat c xs i j else mat c ys (i - r) j := by
  obtain ⟨p1, p2, p3, p4⟩ := hp
  unfold mat
  by_cases hi : i < r
  · rw [if_pos hi]
    have hq := (show Pl r c i j from ⟨p1, hi, p3, p4⟩).rng h1.1
    have hl := h1.2
    rw [List.getD, List.getD, List.getElem?_append_left (by omega)]
  · rw [if_neg hi]
    have hq := (show Pl r' c (i - r) j from ⟨by omega, by omega, p3, p4⟩).rng h2.1
    have hl := h1.2
    have e : (i - r) * c = i * c - r * c := Int.sub_mul ..
    rw [List.getD, List.getD, List.getElem?_append_right (by omega)]
    congr 2
    omega
/-- Stacked: turned, side by side, turned. -/
theorem stk_tr {r c r' : Int} {xs ys : List Nat} (h1 : Good r c xs) (h2 : Good r' c ys) (hs : Siz (r + r') c) : trG c (r + r') (besG c r (trG r c xs) r' (trG r' c ys)) = xs ++ ys := by
  have hg := good_stk h1 h2 hs
  conv => rhs; rw [← grid_mat hg.1.1 hg.1.2.2.1 hg.2]
  refine grid_congr fun i j q1 q2 q3 q4 => ?_
  rw [mat_stk h1 h2 ⟨q1, q2, q3, q4⟩]
  have e : mat (r + r') (besG c r (trG r c xs) r' (trG r' c ys)) j i = besF r (trG r c xs) r' (trG r' c ys) j i := mat_grid q3 q4 q1 q2
  rw [e]
  unfold besF
  by_cases hi : i < r
  · rw [if_pos hi, if_pos hi]
    exact mat_grid q3 q4 q1 hi
  · rw [if_neg hi, if_neg hi]
    exact mat_grid q3 q4 (by omega) (by omega)
def stkX (x : MR) : MR := if x.e ≠ 0 then x else ⟨x.c, x.r, trG x.r x.c x.a, 0⟩
def rstkR (r c : Int) (xs : List Nat) (r' c' : Int) (ys : List Nat) : MR := stkX (rbesR c r (trG r c xs) c' r' (trG r' c' ys))
theorem stk_eq {r c r' c' : Int} {xs ys : List Nat} (h1 : chk r c xs = 0) (h2 : chk r' c' ys = 0) : stkR r c xs r' c' ys = rstkR r c xs r' c' ys := by
  have g1 := chk_good h1
  have g2 := chk_good h2
  have q1 := g1.1
  have q2 := g2.1
  unfold Siz at q1 q2
  have e : wr r r' = r + r' := wrap_id (by omega) (by omega)
  unfold stkR rstkR stkE
  rw [h1, h2, e]
  by_cases hc : c = c'
  · subst hc
    by_cases hr : 12 < r + r'
    · have e1 : rbesR c r (trG r c xs) c r' (trG r' c ys) = badM 1 := by unfold rbesR; rw [if_neg (by simp), if_pos hr]
      rw [e1, show fstE [0, 0, whenE (c != c) 3, whenE (decide (12 < r + r')) 1] = 1 by simp [fstE, whenE, hr]]; rfl
    · have e1 : rbesR c r (trG r c xs) c r' (trG r' c ys) = ⟨c, r + r', besG c r (trG r c xs) r' (trG r' c ys), 0⟩ := by unfold rbesR; rw [if_neg (by simp), if_neg hr]
      rw [e1, show fstE [0, 0, whenE (c != c) 3, whenE (decide (12 < r + r')) 1] = 0 by simp [fstE, whenE, hr]]
      show (⟨r + r', c, xs ++ ys, 0⟩ : MR) = ⟨r + r', c, trG c (r + r') (besG c r (trG r c xs) r' (trG r' c ys)), 0⟩
      rw [stk_tr g1 g2 (by unfold Siz; omega)]
  · have e1 : rbesR c r (trG r c xs) c' r' (trG r' c' ys) = badM 3 := by unfold rbesR; rw [if_pos hc]
    rw [e1, show fstE [0, 0, whenE (c != c') 3, whenE (decide (12 < r + r')) 1] = 3 by simp [fstE, whenE, hc]]; rfl
theorem fair_stk {r c r' c' : Int} {xs ys : List Nat} : Fair (stkR r c xs r' c' ys) := fair_orR fair_ok
theorem stk_y {r c r' c' : Int} {xs ys : List Nat} (h : fstE [chk r c xs, chk r' c' ys] = 0) : toldB (stkR r c xs r' c' ys) (rstkR r c xs r' c' ys) = true := by
  have := fst2.1 h
  rw [← stk_eq this.1 this.2]
  exact told_same fair_stk rfl fun _ => rfl
theorem stk_n {r c r' c' u v : Int} {xs ys zs : List Nat} (h : fstE [chk r c xs, chk r' c' ys] ≠ 0) : toldB (stkR r c xs r' c' ys) ⟨u, v, zs, fstE [chk r c xs, chk r' c' ys]⟩ = true := by
  refine told_bad ?_ h
  show stkR r c xs r' c' ys = badM _
  unfold stkR stkE
  rw [fst_pre4 h]
  exact if_neg h
theorem flat_le {ls : List (List Nat)} {k : Nat} : (ls.take k).flatten.length ≤ ls.flatten.length := by
  conv => rhs; rw [← List.take_append_drop k ls]
  rw [List.flatten_append, List.length_append]
  omega
theorem rbes_res {r c r' c' : Int} {xs ys : List Nat} (hg : Good r c xs) (hg' : Good r' c' ys) (h : (rbesR r c xs r' c' ys).e = 0) : Good (rbesR r c xs r' c' ys).r (rbesR r c xs r' c' ys).c (rbesR r c xs r' c' ys).a := by
  unfold rbesR at h ⊢
  by_cases hr : r ≠ r'
  · rw [if_pos hr] at h; cases h
  · rw [if_neg hr] at h ⊢
    by_cases hc : 12 < c + c'
    · rw [if_pos hc] at h; cases h
    · rw [if_neg hc]
      have h1 := hg.1
      have h2 := hg'.1
      unfold Siz at h1 h2
      exact show Good r (c + c') (besG r c xs c' ys) from good_grid (by unfold Siz; omega)
end Go.Bn
