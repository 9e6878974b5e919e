/-
  Plain facts on matrices: numbers row by row, and what the matrix packages compute. What the functions of the matrix package answer, as plain functions. Plain facts on the numbers' operations. Plain facts on what the eighth reference computes. Plain facts on binary64: what is exact. Plain facts on what is symmetric. Plain facts on the unit matrix. Plain facts on places. Plain facts on sums, multiples and outer products. Plain facts on matrices that are made. Plain facts on kinds of matrices, traces and norms. Plain facts on parts of matrices. Plain facts on orders. Plain facts on matrices taken apart and put together. Plain facts on powers of two. The logic of walks: the last operations; numbers by their bits.
-/
import Derived.Test.YtmakephdanbmaaaFrKb
set_option linter.unusedVariables false
set_option linter.unusedSimpArgs false
namespace Go.Bn
open Go
/-- At(i, j). -/
def mat (c : Int) (xs : List Nat) (i j : Int) : Nat := xs.getD (i * c + j).toNat 0
/-- Rows times columns, place by place. -/
def grid (r c : Int) (f : Int → Int → Nat) : List Nat := (List.range (r.toNat * c.toNat)).map fun k => f ((k / c.toNat : Nat) : Int) ((k % c.toNat : Nat) : Int)
def sizB (n : Int) : Bool := decide (0 ≤ n) && decide (n ≤ 12)
/-- Why a matrix is not good (0: it is). -/
def chk (r c : Int) (xs : List Nat) : Int := if sizB r = false ∨ sizB c = false then 1 else if (xs.length : Int) ≠ r * c then 3 else if xs.all finB = false then 4 else 0
def lchk (xs : List Nat) : Int := if (12 : Int) < xs.length then 1 else if xs.all finB = false then 4 else 0
/-- The first error of several. -/
def fstE : List Int → Int
  | [] => 0
  | e :: l => if e = 0 then fstE l else e
def whenE (b : Bool) (e : Int) : Int := if b then e else 0
theorem length_grid (r c : Int) (f : Int → Int → Nat) : (grid r c f).length = r.toNat * c.toNat := by simp [grid]
theorem grid_get (r c : Int) (f : Int → Int → Nat) {k : Nat} (h : k < r.toNat * c.toNat) : (grid r c f).getD k 0 = f ((k / c.toNat : Nat) : Int) ((k % c.toNat : Nat) : Int) := by
  simp [grid, List.getD, h]
theorem place_lt {r c i j : Nat} (hi : i < r) (hj : j < c) : i * c + j < r * c := by
  have h1 : (i + 1) * c ≤ r * c := Nat.mul_le_mul_right c hi
  rw [Nat.add_mul, Nat.one_mul] at h1
  omega
theorem place_div {c i j : Nat} (hj : j < c) : (i * c + j) / c = i ∧ (i * c + j) % c = j := by
  have hc : 0 < c := by omega
  rw [Nat.mul_comm, Nat.mul_add_div hc, Nat.div_eq_of_lt hj, Nat.add_zero, Nat.mul_add_mod, Nat.mod_eq_of_lt hj]
  exact ⟨rfl, rfl⟩
theorem grid_at (r c : Int) (f : Int → Int → Nat) {i j : Nat} (hi : i < r.toNat) (hj : j < c.toNat) : (grid r c f).getD (i * c.toNat + j) 0 = f i j := by
  rw [grid_get r c f (place_lt hi hj), (place_div hj).1, (place_div hj).2]
theorem mat_grid {r c : Int} {f : Int → Int → Nat} {i j : Int} (h0 : 0 ≤ i) (h1 : i < r) (h2 : 0 ≤ j) (h3 : j < c) : mat c (grid r c f) i j = f i j := by
  have e : (i * c + j).toNat = i.toNat * c.toNat + j.toNat := by
    have hi : i = (i.toNat : Int) := by omega
    have hj : j = (j.toNat : Int) := by omega
    have hc : c = (c.toNat : Int) := by omega
    generalize i.toNat = a at *
    generalize j.toNat = b at *
    generalize c.toNat = d at *
    subst hi; subst hj; subst hc
    rw [← Int.natCast_mul, ← Int.natCast_add]; rfl
  unfold mat
  rw [e, grid_at r c f (by omega) (by omega)]
  congr 1 <;> omega
/-- Two lists of one length, alike at each place. -/
theorem ext_getD {xs ys : List Nat} (hl : xs.length = ys.length) (h : ∀ k, k < xs.length → xs.getD k 0 = ys.getD k 0) : xs = ys := by
  apply List.ext_getElem hl
  intro k h1 h2
  have := h k h1
  simpa [List.getD, List.getElem?_eq_getElem h1, List.getElem?_eq_getElem h2] using this
theorem grid_congr {r c : Int} {f g : Int → Int → Nat} (h : ∀ i j, 0 ≤ i → i < r → 0 ≤ j → j < c → f i j = g i j) : grid r c f = grid r c g := by
  unfold grid
  apply List.map_congr_left
  intro k hk
  rw [List.mem_range] at hk
  have hc : 0 < c.toNat := by
    rcases Nat.eq_zero_or_pos c.toNat with h0 | h0
    · rw [h0] at hk; simp at hk
    · exact h0
  have h1 : k / c.toNat < r.toNat := Nat.div_lt_of_lt_mul (by rw [Nat.mul_comm]; exact hk)
  have h2 : k % c.toNat < c.toNat := Nat.mod_lt _ hc
  generalize k / c.toNat = p at h1 ⊢
  generalize k % c.toNat = q at h2 ⊢
  exact h _ _ (by omega) (by omega) (by omega) (by omega)
/-- A good matrix is the grid of its places. -/
theorem grid_mat {r c : Int} {xs : List Nat} (hr : 0 ≤ r) (hc : 0 ≤ c) (hl : (xs.length : Int) = r * c) : grid r c (mat c xs) = xs := by
  have hlen : xs.length = r.toNat * c.toNat := by
    have h1 : r = (r.toNat : Int) := by omega
    have h2 : c = (c.toNat : Int) := by omega
    rw [h1, h2, ← Int.natCast_mul] at hl
    exact Int.ofNat.inj hl
  refine ext_getD (by rw [length_grid, hlen]) fun k hk => ?_
  rw [length_grid] at hk
  rw [grid_get r c _ hk]
  unfold mat
  congr 1
  have h2 : c = (c.toNat : Int) := by omega
  generalize c.toNat = d at *
  subst h2
  rw [← Int.natCast_mul, ← Int.natCast_add, Int.toNat_natCast, Nat.div_add_mod']
/-- The dot product in order. -/
def dotTo (xs ys : List Nat) : Nat → Nat
  | 0 => 0
  | k + 1 => fadd (dotTo xs ys k) (fmul (xs.getD k 0) (ys.getD k 0))
def dotL (xs ys : List Nat) : Nat := dotTo xs ys xs.length
def rowL (c : Int) (xs : List Nat) (i : Int) : List Nat := (List.range c.toNat).map fun (j : Nat) => mat c xs i j
def colL (r c : Int) (xs : List Nat) (j : Int) : List Nat := (List.range r.toNat).map fun (i : Nat) => mat c xs i j
theorem rowL_slice {r c : Int} {xs : List Nat} {i : Int} (hc : 0 ≤ c) (hl : (xs.length : Int) = r * c) (h0 : 0 ≤ i) (h1 : i < r) : (xs.drop (i * c).toNat).take (((i + 1) * c).toNat - (i * c).toNat) = rowL c xs i := by
  have hi : i = (i.toNat : Int) := by omega
  have hc' : c = (c.toNat : Int) := by omega
  have hr' : r = (r.toNat : Int) := by omega
  unfold rowL mat
  generalize i.toNat = a at *
  generalize c.toNat = d at *
  generalize r.toNat = e at *
  subst hi; subst hc'; subst hr'
  have hlen : xs.length = e * d := by rw [← Int.natCast_mul] at hl; exact Int.ofNat.inj hl
  have hae : (a + 1) * d ≤ e * d := Nat.mul_le_mul_right d (by omega)
  have e1 : ((a : Int) * (d : Int)).toNat = a * d := by rw [← Int.natCast_mul]; rfl
  have e2 : (((a : Int) + 1) * (d : Int)).toNat = (a + 1) * d := by rw [← Int.natCast_succ, ← Int.natCast_mul]; rfl
  rw [e1, e2, Nat.add_mul, Nat.one_mul, Nat.add_sub_cancel_left]
  rw [Nat.add_mul, Nat.one_mul] at hae
  apply List.ext_getElem
  · simp; omega
  · intro k h2 h3
    simp at h3
    have e3 : ((a : Int) * (d : Int) + (k : Int)).toNat = a * d + k := by rw [← Int.natCast_mul, ← Int.natCast_add]; rfl
    simp only [List.getElem_take, List.getElem_drop, List.getElem_map, List.getElem_range, e3]
    rw [List.getD, List.getElem?_eq_getElem (by omega)]
    rfl
/-! ## What calls answer -/
structure MR where
  r : Int
  c : Int
  a : List Nat
  e : Int
theorem MR.eq4 {x : MR} {r c e : Int} {a : List Nat} (h : ((decide (x.r = r) && decide (x.c = c)) && decide (x.a = a) && decide (x.e = e)) = true) : x = ⟨r, c, a, e⟩ := by
  obtain ⟨p, q, s, u⟩ := x
  simp at h
  obtain ⟨⟨⟨h1, h2⟩, h3⟩, h4⟩ := h
  rw [h1, h2, h3, h4]
def resM (x : MR) : SP := tupp [MatP x.r x.c x.a, isv (.int .i64 x.e)]
theorem ret_M {Γ : Facts} {r c : Int} {a : List Nat} {e : Int} {x : MR} (h : (⟨r, c, a, e⟩ : MR) = x) : Sb Γ (tupp [MatP r c a, isv (.int .i64 e)]) (resM x) := by subst h; exact sb_refl
def badM (e : Int) : MR := ⟨0, 0, [], e⟩
/-- A matrix, if all its numbers are finite. -/
def toldR (r c : Int) (xs : List Nat) : MR := if xs.all finB = false then badM 5 else ⟨r, c, xs, 0⟩
def orR (e : Int) (x : MR) : MR := if e = 0 then x else badM e
/-! ## Sizes and places -/
def Siz (r c : Int) : Prop := 0 ≤ r ∧ r ≤ 12 ∧ 0 ≤ c ∧ c ≤ 12
def Good (r c : Int) (xs : List Nat) : Prop := Siz r c ∧ (xs.length : Int) = r * c
def Pl (r c i j : Int) : Prop := 0 ≤ i ∧ i < r ∧ 0 ≤ j ∧ j < c
def Lo (n i j : Int) : Prop := 0 ≤ j ∧ j ≤ i ∧ i < n
theorem Siz.mul {r c : Int} (h : Siz r c) : 0 ≤ r * c ∧ r * c ≤ 144 := by
  obtain ⟨h1, h2, h3, h4⟩ := h
  exact ⟨Int.mul_nonneg h1 h3, Int.le_trans (Int.mul_le_mul_of_nonneg_right h2 h3) (by omega)⟩
theorem Siz.turn {r c : Int} (h : Siz r c) : Siz c r := ⟨h.2.2.1, h.2.2.2, h.1, h.2.1⟩
theorem Siz.sq {r c : Int} (h : Siz r c) : Siz r r := ⟨h.1, h.2.1, h.1, h.2.1⟩
theorem Siz.mk2 {r c r' c' : Int} (h : Siz r c) (h' : Siz r' c') : Siz r c' := ⟨h.1, h.2.1, h'.2.2.1, h'.2.2.2⟩
theorem Pl.rng {r c i j : Int} (hs : Siz r c) (h : Pl r c i j) : 0 ≤ i * c ∧ 0 ≤ i * c + j ∧ i * c + j < r * c ∧ r * c ≤ 144 ∧ i * c + c ≤ r * c := by
  obtain ⟨h1, h2, h3, h4⟩ := h
  have h5 : 0 ≤ i * c := Int.mul_nonneg h1 hs.2.2.1
  have h6 : (i + 1) * c ≤ r * c := Int.mul_le_mul_of_nonneg_right (by omega) hs.2.2.1
  rw [Int.add_mul, Int.one_mul] at h6
  have := hs.mul
  omega
theorem Pl.turn {r c i j : Int} (h : Pl r c i j) : Pl c r j i := ⟨h.2.2.1, h.2.2.2, h.1, h.2.1⟩
theorem good_grid {r c : Int} {f : Int → Int → Nat} (h : Siz r c) : Good r c (grid r c f) := by
  refine ⟨h, ?_⟩
  rw [length_grid]
  have h1 : r = (r.toNat : Int) := by have := h.1; omega
  have h2 : c = (c.toNat : Int) := by have := h.2.2.1; omega
  rw [Int.natCast_mul, ← h1, ← h2]
theorem Good.row {r c i : Int} {xs : List Nat} (h : Good r c xs) (h0 : 0 ≤ i) (h1 : i < r) : 0 ≤ i * c ∧ (i + 1) * c = i * c + c ∧ i * c + c ≤ xs.length ∧ (xs.length : Int) ≤ 144 := by
  have h5 : 0 ≤ i * c := Int.mul_nonneg h0 h.1.2.2.1
  have h6 : (i + 1) * c ≤ r * c := Int.mul_le_mul_of_nonneg_right (by omega) h.1.2.2.1
  have h7 : (i + 1) * c = i * c + c := by rw [Int.add_mul, Int.one_mul]
  have := h.1.mul
  have := h.2
  omega
theorem sizB_iff {n : Int} : sizB n = true ↔ 0 ≤ n ∧ n ≤ 12 := by simp [sizB]
theorem chk_zero {r c : Int} {xs : List Nat} : chk r c xs = 0 ↔ Good r c xs ∧ xs.all finB = true := by
  unfold chk Good Siz
  have h1 := @sizB_iff r
  have h2 := @sizB_iff c
  cases e1 : sizB r <;> cases e2 : sizB c <;> cases e3 : xs.all finB <;> simp only [e1, e2] at h1 h2 <;> simp <;> (try split) <;> simp_all <;> omega
theorem chk_good {r c : Int} {xs : List Nat} (h : chk r c xs = 0) : Good r c xs := (chk_zero.1 h).1
theorem lchk_zero {xs : List Nat} : lchk xs = 0 ↔ xs.length ≤ 12 ∧ xs.all finB = true := by
  unfold lchk
  cases e3 : xs.all finB <;> (split <;> simp <;> omega)
theorem sizT {r c : Int} (h : sizB r = true ∧ sizB c = true) : Siz r c := by
  have h1 := sizB_iff.1 h.1
  have h2 := sizB_iff.1 h.2
  exact ⟨h1.1, h1.2, h2.1, h2.2⟩
/-! ## Filled place by place, over noughts -/
def PutI (r c : Int) (f : Int → Int → Nat) (D : Int → Int → Prop) (xs : List Nat) : Prop := (xs.length : Int) = r * c ∧ ∀ a b, Pl r c a b → (D a b → mat c xs a b = f a b) ∧ (¬ D a b → mat c xs a b = 0)
theorem mat_replicate {c a b : Int} {n : Nat} : mat c (List.replicate n 0) a b = 0 := by
  unfold mat
  rw [List.getD, List.getElem?_replicate]
  split <;> rfl
theorem grid_zero {r c : Int} : grid r c (fun _ _ => 0) = List.replicate (r.toNat * c.toNat) 0 := by
  unfold grid
  rw [List.map_const', List.length_range]
theorem putI_zero {r c : Int} {f : Int → Int → Nat} (h : Siz r c) : PutI r c f (fun _ _ => False) (List.replicate (r * c).toNat 0) := by
  refine ⟨?_, fun a b _ => ⟨fun h => h.elim, fun _ => mat_replicate⟩⟩
  have := h.mul
  simp; omega
theorem mat_set {c p q a b : Int} {xs : List Nat} {v : Nat} {r : Int} (hs : Siz r c) (hl : (xs.length : Int) = r * c) (hp : Pl r c p q) (ha : Pl r c a b) : mat c (xs.set (p * c + q).toNat v) a b = if a = p ∧ b = q then v else mat c xs a b := by
  unfold mat
  have h1 := hp.rng hs
  have h2 := ha.rng hs
  obtain ⟨hp1, hp2, hp3, hp4⟩ := hp
  obtain ⟨ha1, ha2, ha3, ha4⟩ := ha
  by_cases he : a = p ∧ b = q
  · rw [if_pos he, he.1, he.2]
    rw [List.getD, List.getElem?_set_self (by omega)]
    rfl
  · rw [if_neg he]
    have hne : (p * c + q).toNat ≠ (a * c + b).toNat := by
      intro e
      have e' : p * c + q = a * c + b := by omega
      apply he
      have hc : 0 < c := by omega
      rcases Int.lt_trichotomy a p with h | h | h
      · have h6 : (a + 1) * c ≤ p * c := Int.mul_le_mul_of_nonneg_right (by omega) (by omega)
        rw [Int.add_mul, Int.one_mul] at h6
        omega
      · subst h; omega
      · have h6 : (p + 1) * c ≤ a * c := Int.mul_le_mul_of_nonneg_right (by omega) (by omega)
        rw [Int.add_mul, Int.one_mul] at h6
        omega
    rw [List.getD, List.getElem?_set_ne hne]
    rfl
theorem putI_set {r c p q : Int} {f : Int → Int → Nat} {D D' : Int → Int → Prop} {xs : List Nat} {v : Nat} (hs : Siz r c) (h : PutI r c f D xs) (hp : Pl r c p q) (hv : v = f p q) (hD : ∀ a b, Pl r c a b → (D' a b ↔ D a b ∨ (a = p ∧ b = q))) : PutI r c f D' (xs.set (p * c + q).toNat v) := by
  refine ⟨by rw [List.length_set]; exact h.1, fun a b hab => ?_⟩
  rw [mat_set hs h.1 hp hab]
  have h1 := h.2 a b hab
  have h2 := hD a b hab
  by_cases he : a = p ∧ b = q
  · rw [if_pos he]
    refine ⟨fun _ => by rw [hv, he.1, he.2], fun hn => (hn (h2.2 (.inr he))).elim⟩
  · rw [if_neg he]
    refine ⟨fun hd => h1.1 ((h2.1 hd).resolve_right he), fun hn => h1.2 fun hd => hn (h2.2 (.inl hd))⟩
theorem putI_cast {r c : Int} {f : Int → Int → Nat} {D D' : Int → Int → Prop} {xs : List Nat} (h : PutI r c f D xs) (hD : ∀ a b, Pl r c a b → (D' a b ↔ D a b)) : PutI r c f D' xs :=
  ⟨h.1, fun a b hab => ⟨fun hd => (h.2 a b hab).1 ((hD a b hab).1 hd), fun hn => (h.2 a b hab).2 fun hd => hn ((hD a b hab).2 hd)⟩⟩
theorem putI_grid {r c : Int} {f : Int → Int → Nat} {D : Int → Int → Prop} {xs : List Nat} (hs : Siz r c) (h : PutI r c f D xs) (hD : ∀ a b, Pl r c a b → D a b) : xs = grid r c f := by
  rw [← grid_mat hs.1 hs.2.2.1 h.1]
  exact grid_congr fun i j h1 h2 h3 h4 => (h.2 i j ⟨h1, h2, h3, h4⟩).1 (hD i j ⟨h1, h2, h3, h4⟩)
/-- Symmetric, by what stands at a place from the diagonal down. -/
def mirR (n : Int) (g : Int → Int → Nat) : List Nat := grid n n fun i j => if j ≤ i then g i j else g j i
/-- Up to row i and column j. -/
def MirD (i j a b : Int) : Prop := (b ≤ a ∧ (a < i ∨ (a = i ∧ b < j))) ∨ (a < b ∧ (b < i ∨ (b = i ∧ a < j)))
theorem mir_step {n i j : Int} {g : Int → Int → Nat} {xs : List Nat} (hs : Siz n n) (h0 : 0 ≤ j) (h1 : j ≤ i) (h2 : i < n) (h : PutI n n (fun i j => if j ≤ i then g i j else g j i) (MirD i j) xs) :
    PutI n n (fun i j => if j ≤ i then g i j else g j i) (MirD i (j + 1)) ((xs.set (i * n + j).toNat (g i j)).set (j * n + i).toNat (g i j)) := by
  refine putI_set (D := fun a b => MirD i j a b ∨ (a = i ∧ b = j)) hs (putI_set hs h ⟨by omega, h2, h0, by omega⟩ (by simp [h1]) fun a b _ => Iff.rfl) ⟨h0, by omega, by omega, h2⟩ ?_ fun a b _ => ?_
  · show g i j = if i ≤ j then g j i else g i j
    split
    · have : i = j := by omega
      rw [this]
    · rfl
  · unfold MirD; omega
/-! ## Filled from left to right -/
theorem take_grid {r c : Int} {f : Int → Int → Nat} {i j : Nat} (hi : i < r.toNat) (hj : j < c.toNat) : (grid r c f).take (i * c.toNat + (j + 1)) = (grid r c f).take (i * c.toNat + j) ++ [f i j] := by
  have hl := place_lt hi hj
  rw [show i * c.toNat + (j + 1) = (i * c.toNat + j) + 1 by omega, take_snoc 0 (by rw [length_grid]; exact hl), grid_at r c f hi hj]
theorem take_grid_all {r c : Int} {f : Int → Int → Nat} : (grid r c f).take (r.toNat * c.toNat) = grid r c f := List.take_of_length_le (by rw [length_grid]; exact Nat.le_refl _)
theorem siz_nat {r c : Int} (hs : Siz r c) : r.toNat * c.toNat ≤ 144 ∧ ((r.toNat * c.toNat : Nat) : Int) = r * c := by
  have h := hs.mul
  have h1 : r = (r.toNat : Int) := by have := hs.1; omega
  have h2 : c = (c.toNat : Int) := by have := hs.2.2.1; omega
  have e : ((r.toNat * c.toNat : Nat) : Int) = r * c := by rw [Int.natCast_mul, ← h1, ← h2]
  omega
end Go.Bn
namespace Go.Bn
open Go
theorem fstE_drop {es : List Int} {k : Nat} (hk : k < es.length) : fstE (es.drop k) = if es.getD k 0 = 0 then fstE (es.drop (k + 1)) else es.getD k 0 := by
  rw [List.drop_eq_getElem_cons hk, fstE, List.getD, List.getElem?_eq_getElem hk]; rfl
theorem length_rowL {c : Int} {xs : List Nat} {i : Int} : (rowL c xs i).length = c.toNat := by simp [rowL]
theorem length_colL {r c : Int} {xs : List Nat} {j : Int} : (colL r c xs j).length = r.toNat := by simp [colL]
theorem take_colL {r c : Int} {xs : List Nat} {j : Int} {k : Nat} (hk : k < r.toNat) : (colL r c xs j).take (k + 1) = (colL r c xs j).take k ++ [mat c xs k j] := by
  rw [take_snoc 0 (by rw [length_colL]; exact hk)]
  congr 2
  simp [colL, List.getD, hk]
theorem take_grid_le {r c : Int} {f : Int → Int → Nat} {n : Nat} (hs : Siz r c) : ((grid r c f).take n).length ≤ 144 := by
  have := (siz_nat hs).1
  rw [List.length_take, length_grid]; omega
end Go.Bn
namespace Go.Bn
open Go
def MatU (r c : Int) (bs : List Nat) : SP := aggp [isv (.int .i64 r), isv (.int .i64 c), wsl bs]
theorem fstE_nil : fstE [] = 0 := rfl
theorem fstE_zero {e : Int} {l : List Int} : fstE (e :: l) = 0 ↔ e = 0 ∧ fstE l = 0 := by
  show (if e = 0 then fstE l else e) = 0 ↔ _
  by_cases h : e = 0
  · rw [if_pos h]; simp [h]
  · rw [if_neg h]; simp [h]
theorem whenE_zero {b : Bool} {e : Int} (he : e ≠ 0) : whenE b e = 0 ↔ b = false := by cases b <;> simp [whenE, he]
theorem fst2 {a b : Int} : fstE [a, b] = 0 ↔ a = 0 ∧ b = 0 := by rw [fstE_zero, fstE_zero]; simp [fstE_nil]
theorem fst3 {a b d : Int} : fstE [a, b, d] = 0 ↔ a = 0 ∧ b = 0 ∧ d = 0 := by rw [fstE_zero, fst2]
theorem fst4 {a b d e : Int} : fstE [a, b, d, e] = 0 ↔ a = 0 ∧ b = 0 ∧ d = 0 ∧ e = 0 := by rw [fstE_zero, fst3]
/-! ## Transpose, sums, products -/
def trG (r c : Int) (xs : List Nat) : List Nat := grid c r fun i j => mat c xs j i
def trR (r c : Int) (xs : List Nat) : MR := orR (chk r c xs) ⟨c, r, trG r c xs, 0⟩
def alikeE (r c : Int) (xs : List Nat) (r' c' : Int) (ys : List Nat) : Int := fstE [chk r c xs, chk r' c' ys, whenE (r != r' || c != c') 3]
def sumG (f : Nat → Nat → Nat) (r c : Int) (xs ys : List Nat) : List Nat := grid r c fun i j => f (mat c xs i j) (mat c ys i j)
def sumR (f : Nat → Nat → Nat) (r c : Int) (xs : List Nat) (r' c' : Int) (ys : List Nat) : MR := orR (alikeE r c xs r' c' ys) (toldR r c (sumG f r c xs ys))
def prodG (r c : Int) (xs : List Nat) (c' : Int) (ys : List Nat) : List Nat := grid r c' fun i j => dotL (rowL c xs i) (colL c c' ys j)
def mulE (r c : Int) (xs : List Nat) (r' c' : Int) (ys : List Nat) : Int := fstE [chk r c xs, chk r' c' ys, whenE (c != r') 3]
def mulR (r c : Int) (xs : List Nat) (r' c' : Int) (ys : List Nat) : MR := orR (mulE r c xs r' c' ys) (toldR r c' (prodG r c xs c' ys))
def sandE (r c : Int) (xs : List Nat) (r' c' : Int) (ys : List Nat) : Int := fstE [chk r c xs, chk r' c' ys, whenE (r' != c' || c != r') 3]
def sandG (r c : Int) (xs ys : List Nat) : List Nat := mirR r fun i j => dotL (rowL c (prodG r c xs c ys) i) (rowL c xs j)
def sandR (r c : Int) (xs : List Nat) (r' c' : Int) (ys : List Nat) : MR := orR (sandE r c xs r' c' ys) (toldR r r (sandG r c xs ys))
def sqE (r c : Int) (xs : List Nat) : Int := fstE [chk r c xs, whenE (r != c) 3]
def mirrorR (r c : Int) (xs : List Nat) : MR := orR (sqE r c xs) ⟨r, r, mirR r (mat c xs), 0⟩
def TWO : Nat := 0x4000000000000000
def meanF (r c : Int) (xs : List Nat) (i j : Int) : Nat := if i = j then mat c xs i j else fdiv (fadd (mat c xs i j) (mat c xs j i)) TWO
def meanR (r c : Int) (xs : List Nat) : MR := orR (sqE r c xs) (toldR r r (mirR r (meanF r c xs)))
def eqM (r c : Int) (xs : List Nat) (r' c' : Int) (ys : List Nat) : Bool := decide (r = r') && decide (c = c') && decide (xs = ys)
theorem alikeE_good {r c r' c' : Int} {xs ys : List Nat} (h : alikeE r c xs r' c' ys = 0) : Good r c xs ∧ Good r c ys ∧ r' = r ∧ c' = c ∧ xs.all finB = true ∧ ys.all finB = true := by
  unfold alikeE at h
  rw [fst3, whenE_zero (by decide)] at h
  obtain ⟨h1, h2, h3⟩ := h
  have h1 := chk_zero.1 h1
  have h2 := chk_zero.1 h2
  simp at h3
  obtain ⟨e1, e2⟩ := h3
  subst e1; subst e2
  exact ⟨h1.1, h2.1, rfl, rfl, h1.2, h2.2⟩
theorem mulE_good {r c r' c' : Int} {xs ys : List Nat} (h : mulE r c xs r' c' ys = 0) : Good r c xs ∧ Good c c' ys ∧ r' = c ∧ xs.all finB = true ∧ ys.all finB = true := by
  unfold mulE at h
  rw [fst3, whenE_zero (by decide)] at h
  obtain ⟨h1, h2, h3⟩ := h
  have h1 := chk_zero.1 h1
  have h2 := chk_zero.1 h2
  simp at h3
  subst h3
  exact ⟨h1.1, h2.1, rfl, h1.2, h2.2⟩
theorem sandE_good {r c r' c' : Int} {xs ys : List Nat} (h : sandE r c xs r' c' ys = 0) : Good r c xs ∧ Good c c ys ∧ r' = c ∧ c' = c ∧ xs.all finB = true ∧ ys.all finB = true := by
  unfold sandE at h
  rw [fst3, whenE_zero (by decide)] at h
  obtain ⟨h1, h2, h3⟩ := h
  have h1 := chk_zero.1 h1
  have h2 := chk_zero.1 h2
  simp at h3
  obtain ⟨e1, e2⟩ := h3
  subst e1; subst e2
  exact ⟨h1.1, h2.1, rfl, rfl, h1.2, h2.2⟩
theorem sqE_good {r c : Int} {xs : List Nat} (h : sqE r c xs = 0) : Good r r xs ∧ c = r ∧ xs.all finB = true := by
  unfold sqE at h
  rw [fst2, whenE_zero (by decide)] at h
  obtain ⟨h1, h3⟩ := h
  have h1 := chk_zero.1 h1
  simp at h3
  subst h3
  exact ⟨h1.1, rfl, h1.2⟩
theorem good_prod {r c c' : Int} {xs ys : List Nat} (h : Good r c xs) (h' : Good c c' ys) : Good r c' (prodG r c xs c' ys) := good_grid (h.1.mk2 h'.1)
/-- The lists that are the columns. -/
def ColsI (r c : Int) (ys : List Nat) (k : Nat) (l : List (List Nat)) : Prop := l.length = c.toNat ∧ ∀ q : Nat, q < k → l.getD q [] = colL r c ys q
theorem cols_zero {r c : Int} {ys : List Nat} : ColsI r c ys 0 (List.replicate c.toNat []) := ⟨by simp, fun q h => by omega⟩
theorem cols_set {r c : Int} {ys : List Nat} {k : Nat} {l : List (List Nat)} (h : ColsI r c ys k l) (hk : k < c.toNat) : ColsI r c ys (k + 1) (l.set k (colL r c ys k)) := by
  refine ⟨by rw [List.length_set]; exact h.1, fun q hq => ?_⟩
  by_cases hqk : k = q
  · subst hqk
    rw [List.getD, List.getElem?_set_self (by rw [h.1]; exact hk)]; rfl
  · rw [List.getD, List.getElem?_set_ne hqk, ← List.getD]
    exact h.2 q (by omega)
end Go.Bn
namespace Go.Bn
open Go
def MIRF (g : Int → Int → Nat) (i j : Int) : Nat := if j ≤ i then g i j else g j i
theorem mir_zero {n : Int} {g : Int → Int → Nat} (hs : Siz n n) : PutI n n (MIRF g) (MirD (0 : Nat) 0) (grid n n fun _ _ => 0) := by
  have h := putI_zero (f := MIRF g) hs
  rw [grid_zero, show n.toNat * n.toNat = (n * n).toNat by have := siz_nat hs; omega]
  refine putI_cast h fun a b hab => ?_
  obtain ⟨h1, h2, h3, h4⟩ := hab
  refine ⟨fun h => ?_, False.elim⟩
  unfold MirD at h
  show False
  omega
theorem mir_row {n : Int} {g : Int → Int → Nat} {k q : Nat} {m : List Nat} (_ : k < n.toNat) (hq : q = k + 1) (h : PutI n n (MIRF g) (MirD k q) m) : PutI n n (MIRF g) (MirD ((k + 1 : Nat) : Int) ((0 : Nat) : Int)) m := by
  refine putI_cast h fun a b hab => ?_
  obtain ⟨h1, h2, h3, h4⟩ := hab
  unfold MirD; omega
theorem mir_done {n : Int} {g : Int → Int → Nat} {k : Nat} {m : List Nat} (hs : Siz n n) (hk : k = n.toNat) (h : PutI n n (MIRF g) (MirD k 0) m) : m = mirR n g := by
  refine putI_grid hs h fun a b hab => ?_
  obtain ⟨h1, h2, h3, h4⟩ := hab
  unfold MirD; omega
theorem eqM_yes {r c r' c' : Int} {xs ys : List Nat} (h1 : r = r') (h2 : c = c') (h3 : xs = ys) : eqM r c xs r' c' ys = true := by simp [eqM, h1, h2, h3]
theorem eqM_no2 {r c r' c' : Int} {xs ys : List Nat} {k : Nat} (h : ¬ xs.getD k 0 = ys.getD k 0) : eqM r c xs r' c' ys = false := by
  have : xs ≠ ys := fun e => h (by rw [e])
  simp [eqM, this]
theorem eqM_no1 {r c r' c' : Int} {xs ys : List Nat} (h : (¬ r = r' ∨ ¬ c = c') ∨ ¬ (xs.length : Int) = ys.length) : eqM r c xs r' c' ys = false := by
  rcases h with (h | h) | h
  · simp [eqM, h]
  · simp [eqM, h]
  · have : xs ≠ ys := fun e => h (by rw [e])
    simp [eqM, this]
end Go.Bn
namespace Go.Bn
open Go
theorem slm_len {α : Type} {mk : α → SP} {xs : List α} {v : Value} {c : EW} (h : (slm mk xs).H v c) : xs.length ≤ 9223372036854775807 := by
  obtain ⟨_, hv⟩ := h
  rw [List.length_map] at hv
  rcases hv with ⟨_, h2⟩ | ⟨ad, cap, _, h2, h3, _⟩
  · omega
  · simp only [maxLen] at h3; omega
theorem J_lenM {X : Cx} {Γ : Facts} {ρ : Env} {σ : List Res} {k : Code} {Q : Exit → Act → World → Prop} (t : Nat) {r c : Int} {xs : List Nat} (h : ρ.get t = some (MatP r c xs)) (hk : xs.length ≤ 9223372036854775807 → J X Γ ρ σ k Q) : J X Γ ρ σ k Q := fun a w hs => by
  obtain ⟨cs, _, _, h3⟩ := hs.env t _ h
  obtain ⟨u, _, _, hu⟩ := h3 2 _ rfl
  exact hk (slm_len hu) a w hs
end Go.Bn
namespace Go.Bn
open Go
theorem fmul_comm (x y : Nat) : fmul x y = fmul y x := by
  unfold fmul Ieee.Format.mul
  congr 2
  cases Ieee.double.read x <;> cases Ieee.double.read y <;> simp [Ieee.Datum.product, Bool.xor_comm, Nat.mul_comm, Int.add_comm]
theorem fadd_comm (x y : Nat) : fadd x y = fadd y x := by
  unfold fadd Ieee.Format.add
  congr 2
  cases Ieee.double.read x <;> cases Ieee.double.read y <;> simp [Ieee.Datum.sum, Bool.and_comm, Int.add_comm, Int.min_comm, eq_comm]
  split
  · rename_i h; rw [h]
  · rfl
theorem dotTo_comm (xs ys : List Nat) : ∀ k, dotTo xs ys k = dotTo ys xs k
  | 0 => rfl
  | k + 1 => by rw [dotTo, dotTo, dotTo_comm xs ys k, fmul_comm]
/-! ## Turned -/
/-- All places have it, or all numbers have it. -/
theorem all_grid {r c : Int} {f : Int → Int → Nat} {p : Nat → Bool} : (grid r c f).all p = true ↔ ∀ i j, Pl r c i j → p (f i j) = true := by
  rw [List.all_eq_true]
  constructor
  · intro h i j ⟨h1, h2, h3, h4⟩
    have e : (grid r c f).getD (i.toNat * c.toNat + j.toNat) 0 = f i j := by
      rw [grid_at r c f (by omega) (by omega)]; congr 1 <;> omega
    rw [← e]
    exact h _ (mem_getD 0 (by rw [length_grid]; exact place_lt (by omega) (by omega)))
  · intro h x hx
    unfold grid at hx
    rw [List.mem_map] at hx
    obtain ⟨k, hk, rfl⟩ := hx
    rw [List.mem_range] at hk
    have hc : 0 < c.toNat := by
      rcases Nat.eq_zero_or_pos c.toNat with h0 | h0
      · rw [h0] at hk; simp at hk
      · exact h0
    have h1 : k / c.toNat < r.toNat := Nat.div_lt_of_lt_mul (by rw [Nat.mul_comm]; exact hk)
    have h2 : k % c.toNat < c.toNat := Nat.mod_lt _ hc
    generalize k / c.toNat = p at h1 ⊢
    generalize k % c.toNat = q at h2 ⊢
    exact h _ _ ⟨by omega, by omega, by omega, by omega⟩
theorem all_good {r c : Int} {xs : List Nat} {p : Nat → Bool} (h : Good r c xs) : xs.all p = true ↔ ∀ i j, Pl r c i j → p (mat c xs i j) = true := by
  conv => lhs; rw [← grid_mat h.1.1 h.1.2.2.1 h.2]
  exact all_grid
end Go.Bn
namespace Go.Bn
open Go
/-! ## Lists and numbers that are answered -/
structure LR where
  a : List Nat
  e : Int
def resV (x : LR) : SP := tupp [fls x.a, isv (.int .i64 x.e)]
def badL (e : Int) : LR := ⟨[], e⟩
def orL (e : Int) (x : LR) : LR := if e = 0 then x else badL e
theorem ret_L {Γ : Facts} {a : List Nat} {e : Int} {x : LR} (h : (⟨a, e⟩ : LR) = x) : Sb Γ (tupp [fls a, isv (.int .i64 e)]) (resV x) := by subst h; exact sb_refl
/-! ## The reference's answers, where the matrices are good -/
theorem rmul_yes {r c r' c' : Int} {xs ys : List Nat} (h1 : chk r c xs = 0) (h2 : chk r' c' ys = 0) (h : c = r') : toldR r c' (prodG r c xs c' ys) = mulR r c xs r' c' ys := by
  unfold mulR mulE
  rw [h1, h2, show fstE [0, 0, whenE (c != r') 3] = 0 by simp [fstE, whenE, h]]
  rfl
/-! ## A matrix times a list -/
def mvG (r c : Int) (xs ys : List Nat) : List Nat := (List.range r.toNat).map fun (i : Nat) => dotL (rowL c xs i) ys
theorem length_mvG {r c : Int} {xs ys : List Nat} : (mvG r c xs ys).length = r.toNat := by simp [mvG]
theorem take_mvG {r c : Int} {xs ys : List Nat} {k : Nat} (hk : k < r.toNat) : (mvG r c xs ys).take (k + 1) = (mvG r c xs ys).take k ++ [dotL (rowL c xs k) ys] := by
  rw [take_snoc 0 (by rw [length_mvG]; exact hk)]
  congr 2
  simp [mvG, List.getD, hk]
def mvE (r c : Int) (xs ys : List Nat) : Int := fstE [chk r c xs, lchk ys, whenE (c != (ys.length : Int)) 3]
def toldL (xs : List Nat) : LR := if xs.all finB = false then badL 5 else ⟨xs, 0⟩
def mvR (r c : Int) (xs ys : List Nat) : LR := orL (mvE r c xs ys) (toldL (mvG r c xs ys))
theorem mvE_good {r c : Int} {xs ys : List Nat} (h : mvE r c xs ys = 0) : Good r c xs ∧ c = (ys.length : Int) ∧ xs.all finB = true ∧ ys.all finB = true := by
  unfold mvE at h
  rw [fst3, whenE_zero (by decide)] at h
  obtain ⟨h1, h2, h3⟩ := h
  have h1 := chk_zero.1 h1
  have h2 := lchk_zero.1 h2
  simp at h3
  exact ⟨h1.1, h3, h1.2, h2.2⟩
end Go.Bn
namespace Go.Bn
open Go
theorem lpE : Ieee.double.leastPlace = -1074 := by decide +kernel
theorem fbE : Ieee.double.fractionBits = 52 := rfl
theorem log2_shift {n k : Nat} (h : n ≠ 0) : (n <<< k).log2 = n.log2 + k := by
  rw [Nat.shiftLeft_eq]
  refine (Nat.log2_eq_iff (by have := Nat.two_pow_pos k; exact Nat.mul_ne_zero h (by omega))).2 ⟨?_, ?_⟩
  · rw [Nat.pow_add]; exact Nat.mul_le_mul_right _ (Nat.log2_self_le h)
  · rw [show n.log2 + k + 1 = (n.log2 + 1) + k by omega, Nat.pow_add]
    exact Nat.mul_lt_mul_of_pos_right (Nat.lt_log2_self) (Nat.two_pow_pos k)
theorem shift_ne {n k : Nat} (h : n ≠ 0) : n <<< k ≠ 0 := by
  rw [Nat.shiftLeft_eq]
  have := Nat.two_pow_pos k
  exact Nat.mul_ne_zero h (by omega)
theorem cut_scale {neg : Bool} {n d k : Nat} (h : n ≠ 0) : Ieee.Toward.even.cut neg (n <<< k) (d + k) = Ieee.Toward.even.cut neg n d := by
  unfold Ieee.Toward.cut
  simp only [log2_shift h]
  rw [show min (d + k) (n.log2 + k + 2) = min d (n.log2 + 2) + k by omega]
  generalize min d (n.log2 + 2) = g
  have e1 : 1 <<< (g + k) = (1 <<< g) * 2 ^ k := by rw [Nat.shiftLeft_eq, Nat.shiftLeft_eq, Nat.pow_add]; simp
  have e2 : n <<< k = n * 2 ^ k := Nat.shiftLeft_eq _ _
  rw [e1, e2]
  generalize hG : 1 <<< g = G
  have hk := Nat.two_pow_pos k
  rw [Nat.mul_div_mul_right _ _ hk, Nat.mul_mod_mul_right]
  generalize hK : 2 ^ k = K at *
  have h1 : decide (G * K < 2 * (n % G * K)) = decide (G < 2 * (n % G)) := by
    rw [← Nat.mul_assoc]
    exact decide_eq_decide.2 (Nat.mul_lt_mul_right hk)
  have h2 : (G * K == 2 * (n % G * K)) = (G == 2 * (n % G)) := by
    rw [← Nat.mul_assoc, Bool.eq_iff_iff, beq_iff_eq, beq_iff_eq]
    exact Nat.mul_right_cancel_iff hk
  simp only [h1, h2]
theorem cut_zero {neg : Bool} {n : Nat} : Ieee.Toward.even.cut neg n 0 = n := by
  unfold Ieee.Toward.cut
  simp [Nat.mod_one]
/-- What a number is rounded to hangs on its value alone. -/
theorem nearest_scale {s : Bool} {n k : Nat} {p : Int} : Ieee.double.nearest s (n <<< k) (p - k) = Ieee.double.nearest s n p := by
  by_cases h : n = 0
  · subst h; simp [Ieee.Format.nearest]
  unfold Ieee.Format.nearest
  rw [if_neg h, if_neg (shift_ne h)]
  simp only [log2_shift h]
  rw [show p - (k : Int) + ((n.log2 + k : Nat) : Int) - (Ieee.double.fractionBits : Int) = p + (n.log2 : Int) - (Ieee.double.fractionBits : Int) by omega]
  generalize max (p + (n.log2 : Int) - (Ieee.double.fractionBits : Int)) Ieee.double.leastPlace = last
  suffices hc : Ieee.Toward.even.cut s ((n <<< k) <<< (p - k - last).toNat) (last - (p - k)).toNat = Ieee.Toward.even.cut s (n <<< (p - last).toNat) (last - p).toNat by rw [hc]
  by_cases h1 : (k : Int) ≤ p - last
  · rw [show (last - (p - k)).toNat = 0 by omega, show (last - p).toNat = 0 by omega, ← Nat.shiftLeft_add]
    congr 2; omega
  · by_cases h2 : 0 ≤ p - last
    · rw [show (p - k - last).toNat = 0 by omega, show (last - p).toNat = 0 by omega, Nat.shiftLeft_zero]
      have e : n <<< k = (n <<< (p - last).toNat) <<< (k - (p - last).toNat) := by rw [← Nat.shiftLeft_add]; congr 1; omega
      rw [e, show (last - (p - k)).toNat = 0 + (k - (p - last).toNat) by omega, cut_scale (shift_ne h)]
    · rw [show (p - k - last).toNat = 0 by omega, show (p - last).toNat = 0 by omega, Nat.shiftLeft_zero, Nat.shiftLeft_zero, show (last - (p - k)).toNat = (last - p).toNat + k by omega, cut_scale h]
theorem nearest_eq {s : Bool} {n m : Nat} {p q : Int} (h : (n : Nat) * 2 ^ (p - min p q).toNat = m * 2 ^ (q - min p q).toNat) : Ieee.double.nearest s n p = Ieee.double.nearest s m q := by
  have h1 := @nearest_scale s n (p - min p q).toNat p
  have h2 := @nearest_scale s m (q - min p q).toNat q
  rw [Nat.shiftLeft_eq] at h1 h2
  rw [← h1, ← h2, h, show p - ((p - min p q).toNat : Int) = q - ((q - min p q).toNat : Int) by omega]
/-! ## Finite words -/
def sgn (w : Nat) : Bool := w / 9223372036854775808 % 2 == 1
def rung (w : Nat) : Nat := w % 9223372036854775808
/-- What a finite word stands for: digits and place. -/
def mgn (w : Nat) : Nat := if rung w < 4503599627370496 then rung w else 4503599627370496 + rung w % 4503599627370496
def plc (w : Nat) : Int := if rung w < 4503599627370496 then -1074 else -1074 + (rung w / 4503599627370496 - 1 : Nat)
/-- The value, in units of the least place. -/
def vlu (w : Nat) : Nat := mgn w * 2 ^ (plc w + 1074).toNat
theorem finB_iff {w : Nat} (hw : w < 2 ^ 64) : finB w = true ↔ rung w < 9218868437227405312 := by
  unfold finB rung expo
  simp only [decide_eq_true_eq]
  omega
theorem read_fin {w : Nat} (h : rung w < 9218868437227405312) : Ieee.double.read w = .number (sgn w) (mgn w) (plc w) := by
  unfold Ieee.Format.read mgn plc sgn rung at *
  simp only [signW, binA, infR, lpE]
  split
  · rfl
  · first | rfl | rw [if_pos h]
theorem word_eq {w : Nat} (hw : w < 2 ^ 64) : Ieee.double.word (sgn w) (rung w) = w := by
  unfold Ieee.Format.word sgn rung
  rw [signW]
  have h1 : w / 9223372036854775808 < 2 := by omega
  cases h : (w / 9223372036854775808 % 2 == 1)
  · simp at h ⊢; omega
  · simp at h ⊢; omega
theorem log2_52 {f : Nat} (h : f < 4503599627370496) : (4503599627370496 + f).log2 = 52 := (Nat.log2_eq_iff (by omega)).2 ⟨by omega, by omega⟩
/-- A finite word is what its number is rounded to. -/
theorem nearest_read {w : Nat} (hw : w < 2 ^ 64) (h : rung w < 9218868437227405312) : Ieee.double.nearest (sgn w) (mgn w) (plc w) = w := by
  conv => rhs; rw [← word_eq hw]
  unfold Ieee.Format.nearest
  simp only [lpE, fbE, binA, infR]
  by_cases h1 : rung w < 4503599627370496
  · have e1 : mgn w = rung w := by unfold mgn; rw [if_pos h1]
    have e2 : plc w = -1074 := by unfold plc; rw [if_pos h1]
    rw [e1, e2]
    by_cases h0 : rung w = 0
    · rw [if_pos h0, h0]
    · rw [if_neg h0]
      have hl : (rung w).log2 < 52 := by rw [Nat.log2_lt h0]; omega
      rw [show max (-1074 + ((rung w).log2 : Int) - ((52 : Nat) : Int)) (-1074 : Int) = -1074 by omega]
      simp [cut_zero]
      congr 1
      omega
  · have hf : rung w % 4503599627370496 < 4503599627370496 := Nat.mod_lt _ (by omega)
    have e1 : mgn w = 4503599627370496 + rung w % 4503599627370496 := by unfold mgn; rw [if_neg h1]
    have e2 : plc w = -1074 + (rung w / 4503599627370496 - 1 : Nat) := by unfold plc; rw [if_neg h1]
    rw [e1, e2, if_neg (by omega), log2_52 hf]
    generalize hq : rung w / 4503599627370496 - 1 = q
    rw [show max (-1074 + (q : Int) + ((52 : Nat) : Int) - ((52 : Nat) : Int)) (-1074 : Int) = -1074 + (q : Int) by omega]
    rw [show (-1074 + (q : Int) - (-1074 + (q : Int))).toNat = 0 by omega, Nat.shiftLeft_zero, cut_zero, show (-1074 + (q : Int) - -1074).toNat = q by omega]
    congr 1
    omega
theorem plc_ge (w : Nat) : -1074 ≤ plc w := by unfold plc; split <;> omega
theorem nearest_vlu {w : Nat} (hw : w < 2 ^ 64) (h : rung w < 9218868437227405312) : Ieee.double.nearest (sgn w) (vlu w) (-1074) = w := by
  conv => rhs; rw [← nearest_read hw h]
  apply nearest_eq
  have := plc_ge w
  rw [show min (-1074 : Int) (plc w) = -1074 by omega]
  simp [vlu]
end Go.Bn
namespace Go.Bn
open Go
def ONE : Nat := 0x3ff0000000000000
def NEG0 : Nat := 0x8000000000000000
theorem read_one : Ieee.double.read ONE = .number false 4503599627370496 (-52) := by decide +kernel
theorem read_zero : Ieee.double.read 0 = .number false 0 (-1074) := by decide +kernel
theorem read_neg0 : Ieee.double.read NEG0 = .number true 0 (-1074) := by decide +kernel
theorem mul_shift (m : Nat) : 4503599627370496 * m = m <<< 52 := by
  rw [Nat.shiftLeft_eq, Nat.mul_comm]
theorem fmul_one {x : Nat} (hx : x < 2 ^ 64) (hf : finB x = true) : fmul ONE x = x := by
  have hr := (finB_iff hx).1 hf
  have e : fmul ONE x = Ieee.double.nearest (false ^^ sgn x) (4503599627370496 * mgn x) (-52 + plc x) := by
    unfold fmul Ieee.Format.mul
    rw [read_one, read_fin hr]
    rfl
  rw [e, mul_shift, Bool.false_xor, show (-52 + plc x) = plc x - ((52 : Nat) : Int) by omega]
  exact (@nearest_scale (sgn x) (mgn x) 52 (plc x)).trans (nearest_read hx hr)
theorem nearest_nought {s : Bool} {p : Int} : Ieee.double.nearest s 0 p = if s then NEG0 else 0 := by
  have : Ieee.double.nearest s 0 p = Ieee.double.word s 0 := by simp [Ieee.Format.nearest]
  rw [this]
  cases s <;> decide +kernel
theorem fmul_zero {x : Nat} (hx : x < 2 ^ 64) (hf : finB x = true) : fmul 0 x = 0 ∨ fmul 0 x = NEG0 := by
  have hr := (finB_iff hx).1 hf
  unfold fmul Ieee.Format.mul
  rw [read_zero, read_fin hr]
  simp only [Ieee.Datum.product, Option.map_some, Ieee.Format.write, fop, Option.getD_some, Bool.false_xor, Nat.zero_mul, nearest_nought]
  cases sgn x
  · exact .inl rfl
  · exact .inr rfl
theorem zero_add_noughts : fadd 0 0 = 0 ∧ fadd 0 NEG0 = 0 := by constructor <;> decide +kernel
/-- A number that is not nought stays, whatever nought is added. -/
theorem fadd_nought {x z : Nat} (hx : x < 2 ^ 64) (hf : finB x = true) (hz : z = 0 ∨ z = NEG0) (h0 : mgn x ≠ 0) : fadd x z = x := by
  have hr := (finB_iff hx).1 hf
  have hp := plc_ge x
  have key : ∀ t : Bool, (Ieee.Datum.number (sgn x) (mgn x) (plc x)).sum (.number t 0 (-1074)) = some (.number (sgn x) (vlu x) (-1074)) := by
    intro t
    have hv : mgn x <<< (plc x + 1074).toNat = vlu x := by rw [Nat.shiftLeft_eq]; rfl
    have hv0 : vlu x ≠ 0 := by rw [← hv]; exact shift_ne h0
    have hs1 : Ieee.signed (sgn x) (mgn x) (plc x + 1074).toNat = if sgn x then -(vlu x : Int) else (vlu x : Int) := by unfold Ieee.signed; rw [hv]
    have hs2 : Ieee.signed t 0 (-1074 - -1074 : Int).toNat = 0 := by cases t <;> rfl
    simp only [Ieee.Datum.sum, show min (plc x) (-1074 : Int) = -1074 by omega, show (plc x - -1074).toNat = (plc x + 1074).toNat by omega, hs1, hs2]
    generalize vlu x = v at hv0
    cases sgn x <;> cases t <;> simp <;> omega
  unfold fadd Ieee.Format.add
  rw [read_fin hr]
  rcases hz with rfl | rfl
  · rw [read_zero, key]; exact nearest_vlu hx hr
  · rw [read_neg0, key]; exact nearest_vlu hx hr
theorem noughts {x : Nat} (hx : x < 2 ^ 64) (hf : finB x = true) (h0 : mgn x = 0) : x = 0 ∨ x = NEG0 := by
  have hr := (finB_iff hx).1 hf
  have h := nearest_read hx hr
  rw [h0, nearest_nought] at h
  cases hs : sgn x <;> rw [hs] at h
  · exact .inl h.symm
  · exact .inr h.symm
/-- A number and +0: only the sign of a nought changes. -/
theorem plus_cases {x : Nat} (hx : x < 2 ^ 64) (hf : finB x = true) : (mgn x = 0 ∧ fadd x 0 = 0) ∨ (mgn x ≠ 0 ∧ fadd x 0 = x) := by
  by_cases h0 : mgn x = 0
  · left
    refine ⟨h0, ?_⟩
    rcases noughts hx hf h0 with rfl | rfl
    · exact zero_add_noughts.1
    · rw [fadd_comm]; exact zero_add_noughts.2
  · exact .inr ⟨h0, fadd_nought hx hf (.inl rfl) h0⟩
theorem plus_fin {x : Nat} (hx : x < 2 ^ 64) (hf : finB x = true) : fadd x 0 < 2 ^ 64 ∧ finB (fadd x 0) = true := by
  rcases plus_cases hx hf with ⟨_, h⟩ | ⟨_, h⟩ <;> rw [h]
  · exact ⟨by decide, by decide⟩
  · exact ⟨hx, hf⟩
theorem plus_nought {x z : Nat} (hx : x < 2 ^ 64) (hf : finB x = true) (hz : z = 0 ∨ z = NEG0) : fadd (fadd x 0) z = fadd x 0 := by
  rcases plus_cases hx hf with ⟨_, h⟩ | ⟨h0, h⟩
  · rw [h]
    rcases hz with rfl | rfl
    · exact zero_add_noughts.1
    · exact zero_add_noughts.2
  · rw [h]; exact fadd_nought hx hf hz h0
def unit (i k : Nat) : Nat := if k = i then ONE else 0
/-- The dot product with a unit row. -/
theorem dot_unit {n i : Nat} {us ys : List Nat} (hu : ∀ k, k < n → us.getD k 0 = unit i k) (hy : ∀ k, k < n → ys.getD k 0 < 2 ^ 64 ∧ finB (ys.getD k 0) = true) (hi : i < n) : ∀ k, k ≤ n → dotTo us ys k = if k ≤ i then 0 else fadd (ys.getD i 0) 0
  | 0, _ => by simp [dotTo]
  | k + 1, hk => by
    rw [dotTo, dot_unit hu hy hi k (by omega), hu k (by omega)]
    have h1 := hy k (by omega)
    unfold unit
    by_cases hki : k = i
    · subst hki
      rw [if_pos rfl, if_pos (Nat.le_refl _), if_neg (by omega), fmul_one h1.1 h1.2, fadd_comm]
    · rw [if_neg hki]
      have hz := fmul_zero h1.1 h1.2
      by_cases hlt : k ≤ i
      · rw [if_pos hlt, if_pos (by omega)]
        rcases hz with h | h <;> rw [h]
        · exact zero_add_noughts.1
        · exact zero_add_noughts.2
      · rw [if_neg hlt, if_neg (by omega)]
        have h2 := hy i hi
        exact plus_nought h2.1 h2.2 hz
def eyeG (n : Int) : List Nat := grid n n fun i j => if i = j then ONE else 0
def eyeR (n : Int) : MR := if sizB n = false then badM 1 else ⟨n, n, eyeG n, 0⟩
def plusL (xs : List Nat) : List Nat := xs.map fun x => fadd x 0
theorem getD_rowL {c : Int} {xs : List Nat} {i : Int} {k : Nat} (hk : k < c.toNat) : (rowL c xs i).getD k 0 = mat c xs i k := by simp [rowL, List.getD, hk]
theorem getD_colL {r c : Int} {xs : List Nat} {j : Int} {k : Nat} (hk : k < r.toNat) : (colL r c xs j).getD k 0 = mat c xs k j := by simp [colL, List.getD, hk]
theorem chk_eye {n : Int} (h : sizB n = true) : chk n n (eyeG n) = 0 := by
  have h1 := sizB_iff.1 h
  have hs : Siz n n := ⟨h1.1, h1.2, h1.1, h1.2⟩
  refine chk_zero.2 ⟨good_grid hs, all_grid.2 fun i j _ => ?_⟩
  show finB (if i = j then ONE else 0) = true
  split <;> decide
theorem plus_grid {r c : Int} {xs : List Nat} (h : Good r c xs) : grid r c (fun i j => fadd (mat c xs i j) 0) = plusL xs := by
  conv => rhs; rw [← grid_mat h.1.1 h.1.2.2.1 h.2]
  unfold plusL grid
  rw [List.map_map]
  rfl
def Nums (xs : List Nat) : Prop := xs.all (fun x => decide (x < 2 ^ 64)) = true ∧ xs.all finB = true
theorem Nums.at {r c i j : Int} {xs : List Nat} (hn : Nums xs) (hg : Good r c xs) (hp : Pl r c i j) : mat c xs i j < 2 ^ 64 ∧ finB (mat c xs i j) = true := by
  obtain ⟨h1, h2⟩ := hn
  rw [all_good hg] at h1 h2
  exact ⟨by simpa using h1 i j hp, h2 i j hp⟩
theorem mat_eye {n i j : Int} (h0 : 0 ≤ i) (h1 : i < n) (h2 : 0 ≤ j) (h3 : j < n) : mat n (eyeG n) i j = if i = j then ONE else 0 := mat_grid h0 h1 h2 h3
theorem eye_prod {r c : Int} {xs : List Nat} (hg : Good r c xs) (hn : Nums xs) : prodG r r (eyeG r) c xs = plusL xs := by
  rw [← plus_grid hg]
  refine grid_congr fun i j h1 h2 h3 h4 => ?_
  unfold dotL
  rw [length_rowL]
  rw [dot_unit (n := r.toNat) (i := i.toNat) (fun k hk => ?_) (fun k hk => ?_) (by omega) r.toNat (Nat.le_refl _), if_neg (by omega), getD_colL (by omega), show ((i.toNat : Nat) : Int) = i by omega]
  · rw [getD_rowL (by omega), mat_eye h1 h2 (by omega) (by omega)]
    unfold unit
    by_cases h : i = (k : Int)
    · rw [if_pos h, if_pos (by omega)]
    · rw [if_neg h, if_neg (by omega)]
  · rw [getD_colL hk]
    exact hn.at hg ⟨by omega, by omega, h3, h4⟩
theorem prod_eye {r c : Int} {xs : List Nat} (hg : Good r c xs) (hn : Nums xs) : prodG r c xs c (eyeG c) = plusL xs := by
  rw [← plus_grid hg]
  refine grid_congr fun i j h1 h2 h3 h4 => ?_
  unfold dotL
  rw [length_rowL, dotTo_comm]
  rw [dot_unit (n := c.toNat) (i := j.toNat) (fun k hk => ?_) (fun k hk => ?_) (by omega) c.toNat (Nat.le_refl _), if_neg (by omega), getD_rowL (by omega), show ((j.toNat : Nat) : Int) = j by omega]
  · rw [getD_colL (by omega), mat_eye (by omega) (by omega) h3 h4]
    unfold unit
    by_cases h : (k : Int) = j
    · rw [if_pos h, if_pos (by omega)]
    · rw [if_neg h, if_neg (by omega)]
  · rw [getD_rowL hk]
    exact hn.at hg ⟨h1, h2, by omega, by omega⟩
theorem nums_plus {xs : List Nat} (hn : Nums xs) : Nums (plusL xs) := by
  obtain ⟨h1, h2⟩ := hn
  rw [List.all_eq_true] at h1 h2
  constructor <;> rw [List.all_eq_true] <;> intro x hx <;> obtain ⟨y, hy, rfl⟩ := List.mem_map.1 hx <;> have := plus_fin (by simpa using h1 y hy) (h2 y hy)
  · exact decide_eq_true this.1
  · exact this.2
/-! ## MatrixOne -/
theorem toldR_ok {r c : Int} {xs : List Nat} (h : xs.all finB = true) : toldR r c xs = ⟨r, c, xs, 0⟩ := by unfold toldR; rw [if_neg (by simp [h])]
theorem eyeR_ok {n : Int} (h : sizB n = true) : eyeR n = ⟨n, n, eyeG n, 0⟩ := by unfold eyeR; rw [if_neg (by simp [h])]
theorem one_mul {r c : Int} {xs : List Nat} (hc : chk r c xs = 0) (hw : xs.all (fun x => decide (x < 2 ^ 64)) = true) : (eyeR r).e = 0 ∧ mulR (eyeR r).r (eyeR r).c (eyeR r).a r c xs = ⟨r, c, plusL xs, 0⟩ := by
  obtain ⟨hg, hf⟩ := chk_zero.1 hc
  have hs : sizB r = true := sizB_iff.2 ⟨hg.1.1, hg.1.2.1⟩
  rw [eyeR_ok hs]
  refine ⟨rfl, ?_⟩
  have e := rmul_yes (chk_eye hs) hc rfl
  rw [eye_prod hg ⟨hw, hf⟩] at e
  exact e.symm.trans (toldR_ok (nums_plus ⟨hw, hf⟩).2)
theorem mul_one {r c : Int} {xs : List Nat} (hc : chk r c xs = 0) (hw : xs.all (fun x => decide (x < 2 ^ 64)) = true) : (eyeR c).e = 0 ∧ mulR r c xs (eyeR c).r (eyeR c).c (eyeR c).a = ⟨r, c, plusL xs, 0⟩ := by
  obtain ⟨hg, hf⟩ := chk_zero.1 hc
  have hs : sizB c = true := sizB_iff.2 ⟨hg.1.2.2.1, hg.1.2.2.2⟩
  rw [eyeR_ok hs]
  refine ⟨rfl, ?_⟩
  have e := rmul_yes hc (chk_eye hs) rfl
  rw [prod_eye hg ⟨hw, hf⟩] at e
  exact e.symm.trans (toldR_ok (nums_plus ⟨hw, hf⟩).2)
end Go.Bn
namespace Go.Bn
open Go
def insB (r c i j : Int) : Bool := ((decide (0 ≤ i) && decide (i < r)) && decide (0 ≤ j)) && decide (j < c)
theorem insB_iff {r c i j : Int} : insB r c i j = true ↔ Pl r c i j := by
  unfold insB Pl
  simp [and_assoc]
def outB (i r : Int) : Bool := decide (i < 0) || decide (r ≤ i)
def withE (r c : Int) (xs : List Nat) (i j : Int) (x : Nat) : Int := fstE [chk r c xs, whenE (!insB r c i j) 1, whenE (fcmp .neq (fsub x x) 0) 4]
def withR (r c : Int) (xs : List Nat) (i j : Int) (x : Nat) : MR := orR (withE r c xs i j x) ⟨r, c, xs.set (i * c + j).toNat x, 0⟩
def rowE (r c : Int) (xs : List Nat) (i n : Int) : Int := fstE [chk r c xs, whenE (outB i n) 1]
def rowR (r c : Int) (xs : List Nat) (i : Int) : LR := orL (rowE r c xs i r) ⟨rowL c xs i, 0⟩
def colR (r c : Int) (xs : List Nat) (j : Int) : LR := orL (rowE r c xs j c) ⟨colL r c xs j, 0⟩
theorem withE_good {r c i j : Int} {xs : List Nat} {x : Nat} (h : withE r c xs i j x = 0) : Good r c xs ∧ Pl r c i j ∧ xs.all finB = true := by
  unfold withE at h
  rw [fst3, whenE_zero (by decide)] at h
  obtain ⟨h1, h2, _⟩ := h
  have h1 := chk_zero.1 h1
  exact ⟨h1.1, insB_iff.1 (by simpa using h2), h1.2⟩
theorem rowE_good {r c i n : Int} {xs : List Nat} (h : rowE r c xs i n = 0) : Good r c xs ∧ 0 ≤ i ∧ i < n ∧ xs.all finB = true := by
  unfold rowE at h
  rw [fst2, whenE_zero (by decide)] at h
  obtain ⟨h1, h2⟩ := h
  have h1 := chk_zero.1 h1
  unfold outB at h2
  simp at h2
  exact ⟨h1.1, by omega, by omega, h1.2⟩
end Go.Bn
namespace Go.Bn
open Go
def sclG (r c : Int) (xs : List Nat) (s : Nat) : List Nat := grid r c fun i j => fmul (mat c xs i j) s
def sclE (r c : Int) (xs : List Nat) (s : Nat) : Int := fstE [chk r c xs, whenE (fcmp .neq (fsub s s) 0) 4]
def sclR (r c : Int) (xs : List Nat) (s : Nat) : MR := orR (sclE r c xs s) (toldR r c (sclG r c xs s))
def outG (xs ys : List Nat) : List Nat := grid (xs.length : Int) (ys.length : Int) fun i j => fmul (xs.getD i.toNat 0) (ys.getD j.toNat 0)
def outE (xs ys : List Nat) : Int := fstE [lchk xs, lchk ys]
def outR (xs ys : List Nat) : MR := orR (outE xs ys) (toldR (xs.length : Int) (ys.length : Int) (outG xs ys))
theorem outE_good {xs ys : List Nat} (h : outE xs ys = 0) : Siz (xs.length : Int) (ys.length : Int) := by
  unfold outE at h
  rw [fst2] at h
  have h1 := lchk_zero.1 h.1
  have h2 := lchk_zero.1 h.2
  unfold Siz
  omega
end Go.Bn
namespace Go.Bn
open Go
/-! ## What stands on the diagonal -/
def diagG (xs : List Nat) : List Nat := grid (xs.length : Int) (xs.length : Int) fun i j => if i = j then xs.getD i.toNat 0 else 0
def diagR (xs : List Nat) : MR := orR (lchk xs) ⟨(xs.length : Int), (xs.length : Int), diagG xs, 0⟩
theorem lchk_siz {xs : List Nat} (h : lchk xs = 0) : Siz (xs.length : Int) (xs.length : Int) := by
  have := lchk_zero.1 h
  unfold Siz; omega
/-! ## Of rows -/
def colN (ls : List (List Nat)) : Int := ((ls.getD 0 []).length : Nat)
def Same (ls : List (List Nat)) (k : Nat) : Prop := ∀ q, q < k → (((ls.getD q []).length : Nat) : Int) = colN ls
def ofE (ls : List (List Nat)) : Int := if sizB (ls.length : Int) = false ∨ sizB (colN ls) = false then 1 else if (ls.all fun l => decide ((l.length : Int) = colN ls)) = false then 3 else if ls.flatten.all finB = false then 4 else 0
def ofR (ls : List (List Nat)) : MR := if ls.length = 0 then ⟨0, 0, [], 0⟩ else orR (ofE ls) ⟨(ls.length : Int), colN ls, ls.flatten, 0⟩
theorem flat_take {ls : List (List Nat)} {k : Nat} (hk : k < ls.length) : (ls.take (k + 1)).flatten = (ls.take k).flatten ++ ls.getD k [] := by
  rw [take_snoc [] hk, List.flatten_append]
  simp
theorem flat_lenS {ls : List (List Nat)} : ∀ {k : Nat}, k ≤ ls.length → Same ls k → (((ls.take k).flatten.length : Nat) : Int) = k * colN ls
  | 0, _, _ => by simp
  | k + 1, hk, h => by
    rw [flat_take (by omega), List.length_append, Int.natCast_add, flat_lenS (by omega) fun q hq => h q (by omega), h k (by omega), Int.natCast_succ, Int.add_mul, Int.one_mul]
theorem same_zero {ls : List (List Nat)} : Same ls 0 := fun q hq => by omega
theorem same_step {ls : List (List Nat)} {k : Nat} (h : Same ls k) (hk : (((ls.getD k []).length : Nat) : Int) = colN ls) : Same ls (k + 1) := fun q hq => by
  by_cases hqk : q = k
  · subst hqk; exact hk
  · exact h q (by omega)
theorem same_all {ls : List (List Nat)} (h : Same ls ls.length) : (ls.all fun l => decide ((l.length : Int) = colN ls)) = true := by
  rw [List.all_eq_true]
  intro l hl
  obtain ⟨q, hq, rfl⟩ := List.mem_iff_getElem.1 hl
  have := h q hq
  rw [List.getD, List.getElem?_eq_getElem hq] at this
  exact decide_eq_true this
theorem same_not {ls : List (List Nat)} {k : Nat} (hk : k < ls.length) (h : ¬ (((ls.getD k []).length : Nat) : Int) = colN ls) : (ls.all fun l => decide ((l.length : Int) = colN ls)) = false := by
  cases ha : ls.all fun l => decide ((l.length : Int) = colN ls)
  · rfl
  · rw [List.all_eq_true] at ha
    have := ha (ls.getD k []) (mem_getD [] hk)
    exact (h (by simpa using this)).elim
theorem of_1 {ls : List (List Nat)} (h0 : ¬ ls.length = 0) (h : sizB (ls.length : Int) = false ∨ sizB (colN ls) = false) : badM 1 = ofR ls := by
  unfold ofR ofE
  rw [if_neg h0, if_pos h]; rfl
theorem of_3 {ls : List (List Nat)} (h0 : ¬ ls.length = 0) (h1 : ¬(sizB (ls.length : Int) = false ∨ sizB (colN ls) = false)) (h2 : (ls.all fun l => decide ((l.length : Int) = colN ls)) = false) : badM 3 = ofR ls := by
  unfold ofR ofE
  rw [if_neg h0, if_neg h1, if_pos h2]; rfl
theorem of_4 {ls : List (List Nat)} (h0 : ¬ ls.length = 0) (h1 : ¬(sizB (ls.length : Int) = false ∨ sizB (colN ls) = false)) (h2 : Same ls ls.length) (h3 : ls.flatten.all finB = false) : badM 4 = ofR ls := by
  unfold ofR ofE
  rw [if_neg h0, if_neg h1, if_neg (by rw [same_all h2]; decide), if_pos h3]; rfl
theorem of_0 {ls : List (List Nat)} (h0 : ¬ ls.length = 0) (h1 : ¬(sizB (ls.length : Int) = false ∨ sizB (colN ls) = false)) (h2 : Same ls ls.length) (h3 : ls.flatten.all finB = true) : ⟨(ls.length : Int), colN ls, ls.flatten, 0⟩ = ofR ls := by
  unfold ofR ofE
  rw [if_neg h0, if_neg h1, if_neg (by rw [same_all h2]; decide), if_neg (by rw [h3]; decide)]; rfl
theorem flat_bound {ls : List (List Nat)} {k : Nat} (hk : k ≤ ls.length) (h : Same ls k) (hl : ls.length ≤ 12) (hc : colN ls ≤ 12) : (ls.take k).flatten.length ≤ 144 := by
  have h1 := flat_lenS hk h
  have h0 : 0 ≤ colN ls := Int.natCast_nonneg _
  have h2 : (k : Int) * colN ls ≤ 12 * 12 := Int.mul_le_mul (by omega) hc h0 (by omega)
  omega
end Go.Bn
namespace Go.Bn
open Go
/-! ## Blocks -/
def spanB (f n a : Int) : Bool := ((decide (0 ≤ f) && decide (0 ≤ n)) && decide (f ≤ a)) && decide (n ≤ IntKind.i64.wrap (a - f))
theorem spanB_iff {f n a : Int} (ha : a ≤ 12) : spanB f n a = true ↔ 0 ≤ f ∧ 0 ≤ n ∧ f + n ≤ a := by
  unfold spanB
  simp only [Bool.and_eq_true, decide_eq_true_eq]
  by_cases h : 0 ≤ f ∧ f ≤ a
  · rw [wrap_id (by omega) (by omega)]; omega
  · constructor
    · intro hh; omega
    · intro hh; omega
def blkG (c : Int) (xs : List Nat) (i j p q : Int) : List Nat := grid p q fun k l => mat c xs (i + k) (j + l)
def blkE (r c : Int) (xs : List Nat) (i j p q : Int) : Int := fstE [chk r c xs, whenE (!spanB i p r || !spanB j q c) 1]
def blkR (r c : Int) (xs : List Nat) (i j p q : Int) : MR := orR (blkE r c xs i j p q) ⟨p, q, blkG c xs i j p q, 0⟩
theorem blkE_good {r c i j p q : Int} {xs : List Nat} (h : blkE r c xs i j p q = 0) : Good r c xs ∧ Siz p q ∧ 0 ≤ i ∧ i + p ≤ r ∧ 0 ≤ j ∧ j + q ≤ c := by
  unfold blkE at h
  rw [fst2, whenE_zero (by decide)] at h
  obtain ⟨h1, h2⟩ := h
  have hg := chk_good h1
  simp at h2
  have h3 := (spanB_iff hg.1.2.1).1 h2.1
  have h4 := (spanB_iff hg.1.2.2.2).1 h2.2
  have := hg.1
  unfold Siz at this ⊢
  exact ⟨hg, by omega, by omega, by omega, by omega, by omega⟩
/-! ## Side by side, one on top of the other -/
def besF (c : Int) (xs : List Nat) (c' : Int) (ys : List Nat) (i j : Int) : Nat := if j < c then mat c xs i j else mat c' ys i (j - c)
def besG (r c : Int) (xs : List Nat) (c' : Int) (ys : List Nat) : List Nat := grid r (c + c') (besF c xs c' ys)
def wr (a b : Int) : Int := IntKind.i64.wrap (a + b)
def besE (r c : Int) (xs : List Nat) (r' c' : Int) (ys : List Nat) : Int := fstE [chk r c xs, chk r' c' ys, whenE (r != r') 3, whenE (decide (12 < wr c c')) 1]
def besR (r c : Int) (xs : List Nat) (r' c' : Int) (ys : List Nat) : MR := orR (besE r c xs r' c' ys) ⟨r, c + c', besG r c xs c' ys, 0⟩
theorem besE_good {r c r' c' : Int} {xs ys : List Nat} (h : besE r c xs r' c' ys = 0) : Good r c xs ∧ Good r c' ys ∧ r' = r ∧ Siz r (c + c') := by
  unfold besE at h
  rw [fst4, whenE_zero (by decide), whenE_zero (by decide)] at h
  obtain ⟨h1, h2, h3, h4⟩ := h
  have g1 := chk_good h1
  have g2 := chk_good h2
  simp at h3
  subst h3
  have q1 := g1.1
  have q2 := g2.1
  unfold Siz at q1 q2
  have e : wr c c' = c + c' := wrap_id (by omega) (by omega)
  rw [e] at h4
  simp at h4
  exact ⟨g1, g2, rfl, by unfold Siz; omega⟩
def stkE (r c : Int) (xs : List Nat) (r' c' : Int) (ys : List Nat) : Int := fstE [chk r c xs, chk r' c' ys, whenE (c != c') 3, whenE (decide (12 < wr r r')) 1]
def stkR (r c : Int) (xs : List Nat) (r' c' : Int) (ys : List Nat) : MR := orR (stkE r c xs r' c' ys) ⟨r + r', c, xs ++ ys, 0⟩
theorem stkE_good {r c r' c' : Int} {xs ys : List Nat} (h : stkE r c xs r' c' ys = 0) : Good r c xs ∧ Good r' c ys ∧ c' = c ∧ Siz (r + r') c := by
  unfold stkE at h
  rw [fst4, whenE_zero (by decide), whenE_zero (by decide)] at h
  obtain ⟨h1, h2, h3, h4⟩ := h
  have g1 := chk_good h1
  have g2 := chk_good h2
  simp at h3
  subst h3
  have q1 := g1.1
  have q2 := g2.1
  unfold Siz at q1 q2
  have e : wr r r' = r + r' := wrap_id (by omega) (by omega)
  rw [e] at h4
  simp at h4
  exact ⟨g1, g2, rfl, by unfold Siz; omega⟩
theorem flat_le {ls : List (List Nat)} {k : Nat} : (ls.take k).flatten.length ≤ ls.flatten.length := by
  conv => rhs; rw [← List.take_append_drop k ls]
  rw [List.flatten_append, List.length_append]
  omega
end Go.Bn
namespace Go.Bn
open Go
def OkAt (ps : List Int) (a : Nat) : Prop := 0 ≤ ps.getD a 0 ∧ ps.getD a 0 < (ps.length : Int) ∧ ∀ q, q < a → ps.getD q 0 ≠ ps.getD a 0
instance (ps : List Int) (a : Nat) : Decidable (OkAt ps a) := by unfold OkAt; exact inferInstance
def OkTo (ps : List Int) (k : Nat) : Prop := ∀ a, a < k → OkAt ps a
instance (ps : List Int) (k : Nat) : Decidable (OkTo ps k) := by unfold OkTo; exact inferInstance
def permB (ps : List Int) : Bool := decide (OkTo ps ps.length)
theorem okTo_zero {ps : List Int} : OkTo ps 0 := fun a h => by omega
theorem okTo_step {ps : List Int} {k : Nat} (h : OkTo ps k) (hk : OkAt ps k) : OkTo ps (k + 1) := fun a ha => by
  by_cases e : a = k
  · subst e; exact hk
  · exact h a (by omega)
theorem perm_yes {ps : List Int} {k : Nat} (hk : k = ps.length) (h : OkTo ps k) : permB ps = true := by subst hk; exact decide_eq_true h
theorem perm_no {ps : List Int} {k : Nat} (hk : k < ps.length) (h : ¬ OkAt ps k) : permB ps = false := decide_eq_false fun hh => h (hh k hk)
def ordE (r c : Int) (xs : List Nat) (ps : List Int) : Int := fstE [chk r c xs, whenE (r != c || (ps.length : Int) != r) 3]
def ordG (r c : Int) (xs : List Nat) (ps : List Int) : List Nat := grid r c fun i j => mat c xs (ps.getD i.toNat 0) (ps.getD j.toNat 0)
def ordX (r c : Int) (xs : List Nat) (ps : List Int) : MR := if permB ps = true then ⟨r, c, ordG r c xs ps, 0⟩ else badM 1
def ordR (r c : Int) (xs : List Nat) (ps : List Int) : MR := orR (ordE r c xs ps) (ordX r c xs ps)
theorem ordE_good {r c : Int} {xs : List Nat} {ps : List Int} (h : ordE r c xs ps = 0) : Good r c xs ∧ c = r ∧ (ps.length : Int) = r := by
  unfold ordE at h
  rw [fst2, whenE_zero (by decide)] at h
  obtain ⟨h1, h2⟩ := h
  simp at h2
  exact ⟨chk_good h1, h2.1.symm, h2.2⟩
/-- What the first package counts: how often each place was named. -/
def SeenI (ps : List Int) (k : Nat) (m : List Int) : Prop := m.length = 12 ∧ ∀ v, v < 12 → 0 ≤ m.getD v 0 ∧ m.getD v 0 ≤ k ∧ (0 < m.getD v 0 ↔ ∃ q, q < k ∧ ps.getD q 0 = (v : Int))
theorem seen_zero {ps : List Int} : SeenI ps 0 (List.replicate 12 0) := by
  refine ⟨by simp, fun v hv => ?_⟩
  have e : (List.replicate 12 (0 : Int)).getD v 0 = 0 := by
    rw [List.getD, List.getElem?_replicate]
    split <;> rfl
  rw [e]
  refine ⟨by omega, by omega, fun h => by omega, fun ⟨q, hq, _⟩ => by omega⟩
theorem getD_setI {m : List Int} {u v : Nat} {x : Int} (hu : u < m.length) : (m.set u x).getD v 0 = if v = u then x else m.getD v 0 := by
  by_cases h : v = u
  · subst h
    rw [if_pos rfl, List.getD, List.getElem?_set_self hu]; rfl
  · rw [if_neg h, List.getD, List.getElem?_set_ne (fun e => h e.symm), ← List.getD]
theorem seen_step {ps : List Int} {k : Nat} {m : List Int} (h : SeenI ps k m) (h0 : 0 ≤ ps.getD k 0) (h1 : ps.getD k 0 < 12) : SeenI ps (k + 1) (m.set (ps.getD k 0).toNat (m.getD (ps.getD k 0).toNat 0 + 1)) := by
  obtain ⟨hl, h⟩ := h
  refine ⟨by rw [List.length_set]; exact hl, fun v hv => ?_⟩
  rw [getD_setI (by omega)]
  obtain ⟨g1, g2, g3⟩ := h v hv
  by_cases hvu : v = (ps.getD k 0).toNat
  · rw [if_pos hvu, ← hvu]
    exact ⟨by omega, by omega, fun _ => ⟨k, by omega, by omega⟩, fun _ => by omega⟩
  · rw [if_neg hvu]
    refine ⟨g1, by omega, fun hp => ?_, fun ⟨q, hq, he⟩ => ?_⟩
    · obtain ⟨q, hq, he⟩ := g3.1 hp
      exact ⟨q, by omega, he⟩
    · by_cases hqk : q = k
      · subst hqk; omega
      · exact g3.2 ⟨q, by omega, he⟩
theorem seen_new {ps : List Int} {k : Nat} {m : List Int} (h : SeenI ps k m) (h0 : 0 ≤ ps.getD k 0) (h1 : ps.getD k 0 < (ps.length : Int)) (hl : ps.length ≤ 12) (hn : m.getD (ps.getD k 0).toNat 0 ≤ 0) : OkAt ps k := by
  refine ⟨h0, h1, fun q hq he => ?_⟩
  obtain ⟨_, _, g3⟩ := h.2 (ps.getD k 0).toNat (by omega)
  have := g3.2 ⟨q, hq, by omega⟩
  omega
theorem seen_old {ps : List Int} {k : Nat} {m : List Int} (h : SeenI ps k m) (hl : ps.length ≤ 12) (hb : (ps.getD k 0 < 0 ∨ (ps.length : Int) ≤ ps.getD k 0) ∨ 0 < m.getD (ps.getD k 0).toNat 0) : ¬ OkAt ps k := fun ⟨h0, h1, h2⟩ => by
  obtain ⟨_, _, g3⟩ := h.2 (ps.getD k 0).toNat (by omega)
  have hp : 0 < m.getD (ps.getD k 0).toNat 0 := by omega
  obtain ⟨q, hq, he⟩ := g3.1 hp
  exact h2 q hq (by omega)
theorem okAt_rng {ps : List Int} {n i : Int} (hl : (ps.length : Int) = n) (h : OkTo ps ps.length) (h0 : 0 ≤ i) (h1 : i < n) : 0 ≤ ps.getD i.toNat 0 ∧ ps.getD i.toNat 0 < n := by
  have := h i.toNat (by omega)
  exact ⟨this.1, by have := this.2.1; omega⟩
theorem ordX_no {r c : Int} {xs : List Nat} {ps : List Int} (h : permB ps = false) : badM 1 = ordX r c xs ps := by unfold ordX; rw [if_neg (by rw [h]; decide)]
theorem ordX_yes {r c : Int} {xs : List Nat} {ps : List Int} (h : permB ps = true) : ⟨r, c, ordG r c xs ps, 0⟩ = ordX r c xs ps := by unfold ordX; rw [if_pos h]
theorem ordR_ok {r c : Int} {xs : List Nat} {ps : List Int} (h : ordE r c xs ps = 0) : ordX r c xs ps = ordR r c xs ps := (if_pos h).symm
end Go.Bn
namespace Go.Bn
open Go
theorem all_append {xs ys : List Nat} {p : Nat → Bool} (h1 : xs.all p = true) (h2 : ys.all p = true) : (xs ++ ys).all p = true := by rw [List.all_append, h1, h2]; rfl
end Go.Bn
namespace Go.Bn
open Go
section ops
variable {P : Program} {n : Nat} {ops : Array Oper} {Γ : Facts} {ρ : Env} {δ : VEnv} {τ : List VR}
variable {d : Nat} {ty : TypeId} {pos : String} {af : Array Edge}
theorem OpOK.sub {o : Oper} {acc : Acc} {p q : SP} {r' : VR} (h : OpOK P n ops Γ ρ δ τ o acc (.c p) r') (hg : o.guard = none) (hs : ∀ v c, p.H v c → q.H v c) : OpOK P n ops Γ ρ δ τ o acc (.c q) r' := by
  intro a c ob g1 g2 g3 g4 g5 g6 g7
  have := h a c ob g1 g2 g3 g4 g5 g6 g7
  have hw : Region.wanted o (yielded ops a.tmps) = true := by unfold Region.wanted; rw [hg]
  rw [if_pos hw] at this ⊢
  exact this.mono fun v w' ⟨c', ob', q1, q2, q3, q4⟩ => ⟨c', ob', q1, q2, hs _ _ q3, q4⟩
end ops
/-! ## More on numbers -/
def MAXF : Nat := 0x7fefffffffffffff
end Go.Bn
