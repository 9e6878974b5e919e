/-
  What the functions of the matrix package answer, as plain functions.
-/
import Derived.Test.YtcnffgbncbadbaaMat
set_option linter.unusedVariables false
set_option linter.unusedSimpArgs false
namespace Go.Bn
open Go

def MatU (r c : Int) (bs : List Nat) : SP := aggp [isv (.int .i64 r), isv (.int .i64 c), wsl bs]
theorem fstE_nil : fstE [] = 0 := rfl
theorem fstE_zero {e : Int} {l : List Int} : fstE (e :: l) = 0 ↔ e = 0 ∧ fstE l = 0 := by
  show (if e = 0 then fstE l else e) = 0 ↔ _
  by_cases h : e = 0
  · rw [if_pos h]; simp [h]
  · rw [if_neg h]; simp [h]
theorem whenE_zero {b : Bool} {e : Int} (he : e ≠ 0) : whenE b e = 0 ↔ b = false := by cases b <;> simp [whenE, he]
theorem fst2 {a b : Int} : fstE [a, b] = 0 ↔ a = 0 ∧ b = 0 := by rw [fstE_zero, fstE_zero]; simp [fstE_nil]
theorem fst3 {a b d : Int} : fstE [a, b, d] = 0 ↔ a = 0 ∧ b = 0 ∧ d = 0 := by rw [fstE_zero, fst2]
theorem fst4 {a b d e : Int} : fstE [a, b, d, e] = 0 ↔ a = 0 ∧ b = 0 ∧ d = 0 ∧ e = 0 := by rw [fstE_zero, fst3]

/-! ## Transpose, sums, products -/
def trG (r c : Int) (xs : List Nat) : List Nat := grid c r fun i j => mat c xs j i
def trR (r c : Int) (xs : List Nat) : MR := orR (chk r c xs) ⟨c, r, trG r c xs, 0⟩
def alikeE (r c : Int) (xs : List Nat) (r' c' : Int) (ys : List Nat) : Int := fstE [chk r c xs, chk r' c' ys, whenE (r != r' || c != c') 3]
def sumG (f : Nat → Nat → Nat) (r c : Int) (xs ys : List Nat) : List Nat := grid r c fun i j => f (mat c xs i j) (mat c ys i j)
def sumR (f : Nat → Nat → Nat) (r c : Int) (xs : List Nat) (r' c' : Int) (ys : List Nat) : MR := orR (alikeE r c xs r' c' ys) (toldR r c (sumG f r c xs ys))
def prodG (r c : Int) (xs : List Nat) (c' : Int) (ys : List Nat) : List Nat := grid r c' fun i j => dotL (rowL c xs i) (colL c c' ys j)
def mulE (r c : Int) (xs : List Nat) (r' c' : Int) (ys : List Nat) : Int := fstE [chk r c xs, chk r' c' ys, whenE (c != r') 3]
def mulR (r c : Int) (xs : List Nat) (r' c' : Int) (ys : List Nat) : MR := orR (mulE r c xs r' c' ys) (toldR r c' (prodG r c xs c' ys))
def sandE (r c : Int) (xs : List Nat) (r' c' : Int) (ys : List Nat) : Int := fstE [chk r c xs, chk r' c' ys, whenE (r' != c' || c != r') 3]
def sandG (r c : Int) (xs ys : List Nat) : List Nat := mirR r fun i j => dotL (rowL c (prodG r c xs c ys) i) (rowL c xs j)
def sandR (r c : Int) (xs : List Nat) (r' c' : Int) (ys : List Nat) : MR := orR (sandE r c xs r' c' ys) (toldR r r (sandG r c xs ys))
def sqE (r c : Int) (xs : List Nat) : Int := fstE [chk r c xs, whenE (r != c) 3]
def mirrorR (r c : Int) (xs : List Nat) : MR := orR (sqE r c xs) ⟨r, r, mirR r (mat c xs), 0⟩
def TWO : Nat := 0x4000000000000000
def meanF (r c : Int) (xs : List Nat) (i j : Int) : Nat := if i = j then mat c xs i j else fdiv (fadd (mat c xs i j) (mat c xs j i)) TWO
def meanR (r c : Int) (xs : List Nat) : MR := orR (sqE r c xs) (toldR r r (mirR r (meanF r c xs)))
def eqM (r c : Int) (xs : List Nat) (r' c' : Int) (ys : List Nat) : Bool := decide (r = r') && decide (c = c') && decide (xs = ys)

theorem alikeE_good {r c r' c' : Int} {xs ys : List Nat} (h : alikeE r c xs r' c' ys = 0) : Good r c xs ∧ Good r c ys ∧ r' = r ∧ c' = c ∧ xs.all finB = true ∧ ys.all finB = true := by
  unfold alikeE at h
  rw [fst3, whenE_zero (by decide)] at h
  obtain ⟨h1, h2, h3⟩ := h
  have h1 := chk_zero.1 h1
  have h2 := chk_zero.1 h2
  simp at h3
  obtain ⟨e1, e2⟩ := h3
  subst e1; subst e2
  exact ⟨h1.1, h2.1, rfl, rfl, h1.2, h2.2⟩
theorem mulE_good {r c r' c' : Int} {xs ys : List Nat} (h : mulE r c xs r' c' ys = 0) : Good r c xs ∧ Good c c' ys ∧ r' = c ∧ xs.all finB = true ∧ ys.all finB = true := by
  unfold mulE at h
  rw [fst3, whenE_zero (by decide)] at h
  obtain ⟨h1, h2, h3⟩ := h
  have h1 := chk_zero.1 h1
  have h2 := chk_zero.1 h2
  simp at h3
  subst h3
  exact ⟨h1.1, h2.1, rfl, h1.2, h2.2⟩
theorem sandE_good {r c r' c' : Int} {xs ys : List Nat} (h : sandE r c xs r' c' ys = 0) : Good r c xs ∧ Good c c ys ∧ r' = c ∧ c' = c ∧ xs.all finB = true ∧ ys.all finB = true := by
  unfold sandE at h
  rw [fst3, whenE_zero (by decide)] at h
  obtain ⟨h1, h2, h3⟩ := h
  have h1 := chk_zero.1 h1
  have h2 := chk_zero.1 h2
  simp at h3
  obtain ⟨e1, e2⟩ := h3
  subst e1; subst e2
  exact ⟨h1.1, h2.1, rfl, rfl, h1.2, h2.2⟩
theorem sqE_good {r c : Int} {xs : List Nat} (h : sqE r c xs = 0) : Good r r xs ∧ c = r ∧ xs.all finB = true := by
  unfold sqE at h
  rw [fst2, whenE_zero (by decide)] at h
  obtain ⟨h1, h3⟩ := h
  have h1 := chk_zero.1 h1
  simp at h3
  subst h3
  exact ⟨h1.1, rfl, h1.2⟩
theorem good_prod {r c c' : Int} {xs ys : List Nat} (h : Good r c xs) (h' : Good c c' ys) : Good r c' (prodG r c xs c' ys) := good_grid (h.1.mk2 h'.1)
theorem good_mir {n : Int} {g : Int → Int → Nat} (h : Siz n n) : Good n n (mirR n g) := good_grid h
/-- The lists that are the columns. -/
def ColsI (r c : Int) (ys : List Nat) (k : Nat) (l : List (List Nat)) : Prop := l.length = c.toNat ∧ ∀ q : Nat, q < k → l.getD q [] = colL r c ys q
theorem cols_zero {r c : Int} {ys : List Nat} : ColsI r c ys 0 (List.replicate c.toNat []) := ⟨by simp, fun q h => by omega⟩
theorem cols_set {r c : Int} {ys : List Nat} {k : Nat} {l : List (List Nat)} (h : ColsI r c ys k l) (hk : k < c.toNat) : ColsI r c ys (k + 1) (l.set k (colL r c ys k)) := by
  refine ⟨by rw [List.length_set]; exact h.1, fun q hq => ?_⟩
  by_cases hqk : k = q
  · subst hqk
    rw [List.getD, List.getElem?_set_self (by rw [h.1]; exact hk)]; rfl
  · rw [List.getD, List.getElem?_set_ne hqk, ← List.getD]
    exact h.2 q (by omega)
end Go.Bn
namespace Go.Bn
open Go
def MIRF (g : Int → Int → Nat) (i j : Int) : Nat := if j ≤ i then g i j else g j i
theorem mir_zero {n : Int} {g : Int → Int → Nat} (hs : Siz n n) : PutI n n (MIRF g) (MirD (0 : Nat) 0) (grid n n fun _ _ => 0) := by
  have h := putI_zero (f := MIRF g) hs
  rw [grid_zero, show n.toNat * n.toNat = (n * n).toNat by have := siz_nat hs; omega]
  refine putI_cast h fun a b hab => ?_
  obtain ⟨h1, h2, h3, h4⟩ := hab
  refine ⟨fun h => ?_, False.elim⟩
  unfold MirD at h
  show False
  omega
theorem mir_row {n : Int} {g : Int → Int → Nat} {k q : Nat} {m : List Nat} (_ : k < n.toNat) (hq : q = k + 1) (h : PutI n n (MIRF g) (MirD k q) m) : PutI n n (MIRF g) (MirD ((k + 1 : Nat) : Int) ((0 : Nat) : Int)) m := by
  refine putI_cast h fun a b hab => ?_
  obtain ⟨h1, h2, h3, h4⟩ := hab
  unfold MirD; omega
theorem mir_done {n : Int} {g : Int → Int → Nat} {k : Nat} {m : List Nat} (hs : Siz n n) (hk : k = n.toNat) (h : PutI n n (MIRF g) (MirD k 0) m) : m = mirR n g := by
  refine putI_grid hs h fun a b hab => ?_
  obtain ⟨h1, h2, h3, h4⟩ := hab
  unfold MirD; omega
theorem eqM_yes {r c r' c' : Int} {xs ys : List Nat} (h1 : r = r') (h2 : c = c') (h3 : xs = ys) : eqM r c xs r' c' ys = true := by simp [eqM, h1, h2, h3]
theorem eqM_no2 {r c r' c' : Int} {xs ys : List Nat} {k : Nat} (h : ¬ xs.getD k 0 = ys.getD k 0) : eqM r c xs r' c' ys = false := by
  have : xs ≠ ys := fun e => h (by rw [e])
  simp [eqM, this]
theorem eqM_no1 {r c r' c' : Int} {xs ys : List Nat} (h : (¬ r = r' ∨ ¬ c = c') ∨ ¬ (xs.length : Int) = ys.length) : eqM r c xs r' c' ys = false := by
  rcases h with (h | h) | h
  · simp [eqM, h]
  · simp [eqM, h]
  · have : xs ≠ ys := fun e => h (by rw [e])
    simp [eqM, this]
end Go.Bn
namespace Go.Bn
open Go
theorem slm_len {α : Type} {mk : α → SP} {xs : List α} {v : Value} {c : EW} (h : (slm mk xs).H v c) : xs.length ≤ 9223372036854775807 := by
  obtain ⟨_, hv⟩ := h
  rw [List.length_map] at hv
  rcases hv with ⟨_, h2⟩ | ⟨ad, cap, _, h2, h3, _⟩
  · omega
  · simp only [maxLen] at h3; omega
theorem J_lenM {X : Cx} {Γ : Facts} {ρ : Env} {σ : List Res} {k : Code} {Q : Exit → Act → World → Prop} (t : Nat) {r c : Int} {xs : List Nat} (h : ρ.get t = some (MatP r c xs)) (hk : xs.length ≤ 9223372036854775807 → J X Γ ρ σ k Q) : J X Γ ρ σ k Q := fun a w hs => by
  obtain ⟨cs, _, _, h3⟩ := hs.env t _ h
  obtain ⟨u, _, _, hu⟩ := h3 2 _ rfl
  exact hk (slm_len hu) a w hs
end Go.Bn
