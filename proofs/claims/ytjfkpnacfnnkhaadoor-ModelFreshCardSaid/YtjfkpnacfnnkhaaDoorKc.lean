/-
  Plain facts on matrices: numbers row by row, and what the matrix packages compute. What the functions of the matrix package answer, as plain functions. Plain facts on the numbers' operations. Plain facts on what the eighth reference computes. Plain facts on binary64: what is exact. Plain facts on what is symmetric. Plain facts on the unit matrix. Plain facts on places. Plain facts on sums, multiples and outer products. Plain facts on matrices that are made. Plain facts on kinds of matrices, traces and norms. Plain facts on parts of matrices. Plain facts on orders. Plain facts on matrices taken apart and put together. Plain facts on powers of two. The logic of walks: the last operations; numbers by their bits.
-/
import Derived.Test.YtjfkpnacfnnkhaaDoorKb
set_option linter.unusedVariables false
set_option linter.unusedSimpArgs false
namespace Go.Bn
open Go

/-- At(i, j). -/
def mat (c : Int) (xs : List Nat) (i j : Int) : Nat := xs.getD (i * c + j).toNat 0
/-- Rows times columns, place by place. -/
def grid (r c : Int) (f : Int → Int → Nat) : List Nat := (List.range (r.toNat * c.toNat)).map fun k => f ((k / c.toNat : Nat) : Int) ((k % c.toNat : Nat) : Int)
def sizB (n : Int) : Bool := decide (0 ≤ n) && decide (n ≤ 12)
/-- Why a matrix is not good (0: it is). -/
def chk (r c : Int) (xs : List Nat) : Int := if sizB r = false ∨ sizB c = false then 1 else if (xs.length : Int) ≠ r * c then 3 else if xs.all finB = false then 4 else 0
def lchk (xs : List Nat) : Int := if (12 : Int) < xs.length then 1 else if xs.all finB = false then 4 else 0
/-- The first error of several. -/
def fstE : List Int → Int
  | [] => 0
  | e :: l => if e = 0 then fstE l else e
def whenE (b : Bool) (e : Int) : Int := if b then e else 0

theorem length_grid (r c : Int) (f : Int → Int → Nat) : (grid r c f).length = r.toNat * c.toNat := by simp [grid]
theorem grid_get (r c : Int) (f : Int → Int → Nat) {k : Nat} (h : k < r.toNat * c.toNat) : (grid r c f).getD k 0 = f ((k / c.toNat : Nat) : Int) ((k % c.toNat : Nat) : Int) := by
  simp [grid, List.getD, h]
theorem place_lt {r c i j : Nat} (hi : i < r) (hj : j < c) : i * c + j < r * c := by
  have h1 : (i + 1) * c ≤ r * c := Nat.mul_le_mul_right c hi
  rw [Nat.add_mul, Nat.one_mul] at h1
  omega
theorem place_div {c i j : Nat} (hj : j < c) : (i * c + j) / c = i ∧ (i * c + j) % c = j := by
  have hc : 0 < c := by omega
  rw [Nat.mul_comm, Nat.mul_add_div hc, Nat.div_eq_of_lt hj, Nat.add_zero, Nat.mul_add_mod, Nat.mod_eq_of_lt hj]
  exact ⟨rfl, rfl⟩
theorem grid_at (r c : Int) (f : Int → Int → Nat) {i j : Nat} (hi : i < r.toNat) (hj : j < c.toNat) : (grid r c f).getD (i * c.toNat + j) 0 = f i j := by
  rw [grid_get r c f (place_lt hi hj), (place_div hj).1, (place_div hj).2]
theorem mat_grid {r c : Int} {f : Int → Int → Nat} {i j : Int} (h0 : 0 ≤ i) (h1 : i < r) (h2 : 0 ≤ j) (h3 : j < c) : mat c (grid r c f) i j = f i j := by
  have e : (i * c + j).toNat = i.toNat * c.toNat + j.toNat := by
    have hi : i = (i.toNat : Int) := by omega
    have hj : j = (j.toNat : Int) := by omega
    have hc : c = (c.toNat : Int) := by omega
    generalize i.toNat = a at *
    generalize j.toNat = b at *
    generalize c.toNat = d at *
    subst hi; subst hj; subst hc
    rw [← Int.natCast_mul, ← Int.natCast_add]; rfl
  unfold mat
  rw [e, grid_at r c f (by omega) (by omega)]
  congr 1 <;> omega
/-- Two lists of one length, alike at each place. -/
theorem ext_getD {xs ys : List Nat} (hl : xs.length = ys.length) (h : ∀ k, k < xs.length → xs.getD k 0 = ys.getD k 0) : xs = ys := by
  apply List.ext_getElem hl
  intro k h1 h2
  have := h k h1
  simpa [List.getD, List.getElem?_eq_getElem h1, List.getElem?_eq_getElem h2] using this
theorem grid_congr {r c : Int} {f g : Int → Int → Nat} (h : ∀ i j, 0 ≤ i → i < r → 0 ≤ j → j < c → f i j = g i j) : grid r c f = grid r c g := by
  unfold grid
  apply List.map_congr_left
  intro k hk
  rw [List.mem_range] at hk
  have hc : 0 < c.toNat := by
    rcases Nat.eq_zero_or_pos c.toNat with h0 | h0
    · rw [h0] at hk; simp at hk
    · exact h0
  have h1 : k / c.toNat < r.toNat := Nat.div_lt_of_lt_mul (by rw [Nat.mul_comm]; exact hk)
  have h2 : k % c.toNat < c.toNat := Nat.mod_lt _ hc
  generalize k / c.toNat = p at h1 ⊢
  generalize k % c.toNat = q at h2 ⊢
  exact h _ _ (by omega) (by omega) (by omega) (by omega)
/-- A good matrix is the grid of its places. -/
theorem grid_mat {r c : Int} {xs : List Nat} (hr : 0 ≤ r) (hc : 0 ≤ c) (hl : (xs.length : Int) = r * c) : grid r c (mat c xs) = xs := by
  have hlen : xs.length = r.toNat * c.toNat := by
    have h1 : r = (r.toNat : Int) := by omega
    have h2 : c = (c.toNat : Int) := by omega
    rw [h1, h2, ← Int.natCast_mul] at hl
    exact Int.ofNat.inj hl
  refine ext_getD (by rw [length_grid, hlen]) fun k hk => ?_
  rw [length_grid] at hk
  rw [grid_get r c _ hk]
  unfold mat
  congr 1
  have h2 : c = (c.toNat : Int) := by omega
  generalize c.toNat = d at *
  subst h2
  rw [← Int.natCast_mul, ← Int.natCast_add, Int.toNat_natCast, Nat.div_add_mod']

/-- The dot product in order. -/
def dotTo (xs ys : List Nat) : Nat → Nat
  | 0 => 0
  | k + 1 => fadd (dotTo xs ys k) (fmul (xs.getD k 0) (ys.getD k 0))
def dotL (xs ys : List Nat) : Nat := dotTo xs ys xs.length
def rowL (c : Int) (xs : List Nat) (i : Int) : List Nat := (List.range c.toNat).map fun (j : Nat) => mat c xs i j
def colL (r c : Int) (xs : List Nat) (j : Int) : List Nat := (List.range r.toNat).map fun (i : Nat) => mat c xs i j
theorem rowL_slice {r c : Int} {xs : List Nat} {i : Int} (hc : 0 ≤ c) (hl : (xs.length : Int) = r * c) (h0 : 0 ≤ i) (h1 : i < r) : (xs.drop (i * c).toNat).take (((i + 1) * c).toNat - (i * c).toNat) = rowL c xs i := by
  have hi : i = (i.toNat : Int) := by omega
  have hc' : c = (c.toNat : Int) := by omega
  have hr' : r = (r.toNat : Int) := by omega
  unfold rowL mat
  generalize i.toNat = a at *
  generalize c.toNat = d at *
  generalize r.toNat = e at *
  subst hi; subst hc'; subst hr'
  have hlen : xs.length = e * d := by rw [← Int.natCast_mul] at hl; exact Int.ofNat.inj hl
  have hae : (a + 1) * d ≤ e * d := Nat.mul_le_mul_right d (by omega)
  have e1 : ((a : Int) * (d : Int)).toNat = a * d := by rw [← Int.natCast_mul]; rfl
  have e2 : (((a : Int) + 1) * (d : Int)).toNat = (a + 1) * d := by rw [← Int.natCast_succ, ← Int.natCast_mul]; rfl
  rw [e1, e2, Nat.add_mul, Nat.one_mul, Nat.add_sub_cancel_left]
  rw [Nat.add_mul, Nat.one_mul] at hae
  apply List.ext_getElem
  · simp; omega
  · intro k h2 h3
    simp at h3
    have e3 : ((a : Int) * (d : Int) + (k : Int)).toNat = a * d + k := by rw [← Int.natCast_mul, ← Int.natCast_add]; rfl
    simp only [List.getElem_take, List.getElem_drop, List.getElem_map, List.getElem_range, e3]
    rw [List.getD, List.getElem?_eq_getElem (by omega)]
    rfl

/-! ## What calls answer -/
structure MR where
  r : Int
  c : Int
  a : List Nat
  e : Int
theorem MR.eq4 {x : MR} {r c e : Int} {a : List Nat} (h : ((decide (x.r = r) && decide (x.c = c)) && decide (x.a = a) && decide (x.e = e)) = true) : x = ⟨r, c, a, e⟩ := by
  obtain ⟨p, q, s, u⟩ := x
  simp at h
  obtain ⟨⟨⟨h1, h2⟩, h3⟩, h4⟩ := h
  rw [h1, h2, h3, h4]
def resM (x : MR) : SP := tupp [MatP x.r x.c x.a, isv (.int .i64 x.e)]
theorem ret_M {Γ : Facts} {r c : Int} {a : List Nat} {e : Int} {x : MR} (h : (⟨r, c, a, e⟩ : MR) = x) : Sb Γ (tupp [MatP r c a, isv (.int .i64 e)]) (resM x) := by subst h; exact sb_refl
def badM (e : Int) : MR := ⟨0, 0, [], e⟩
/-- A matrix, if all its numbers are finite. -/
def toldR (r c : Int) (xs : List Nat) : MR := if xs.all finB = false then badM 5 else ⟨r, c, xs, 0⟩
def orR (e : Int) (x : MR) : MR := if e = 0 then x else badM e


/-! ## Sizes and places -/
def Siz (r c : Int) : Prop := 0 ≤ r ∧ r ≤ 12 ∧ 0 ≤ c ∧ c ≤ 12
def Good (r c : Int) (xs : List Nat) : Prop := Siz r c ∧ (xs.length : Int) = r * c
def Pl (r c i j : Int) : Prop := 0 ≤ i ∧ i < r ∧ 0 ≤ j ∧ j < c
def Lo (n i j : Int) : Prop := 0 ≤ j ∧ j ≤ i ∧ i < n
theorem Siz.mul {r c : Int} (h : Siz r c) : 0 ≤ r * c ∧ r * c ≤ 144 := by
  obtain ⟨h1, h2, h3, h4⟩ := h
  exact ⟨Int.mul_nonneg h1 h3, Int.le_trans (Int.mul_le_mul_of_nonneg_right h2 h3) (by omega)⟩
theorem Siz.turn {r c : Int} (h : Siz r c) : Siz c r := ⟨h.2.2.1, h.2.2.2, h.1, h.2.1⟩
theorem Siz.sq {r c : Int} (h : Siz r c) : Siz r r := ⟨h.1, h.2.1, h.1, h.2.1⟩
theorem Siz.mk2 {r c r' c' : Int} (h : Siz r c) (h' : Siz r' c') : Siz r c' := ⟨h.1, h.2.1, h'.2.2.1, h'.2.2.2⟩
theorem Pl.rng {r c i j : Int} (hs : Siz r c) (h : Pl r c i j) : 0 ≤ i * c ∧ 0 ≤ i * c + j ∧ i * c + j < r * c ∧ r * c ≤ 144 ∧ i * c + c ≤ r * c := by
  obtain ⟨h1, h2, h3, h4⟩ := h
  have h5 : 0 ≤ i * c := Int.mul_nonneg h1 hs.2.2.1
  have h6 : (i + 1) * c ≤ r * c := Int.mul_le_mul_of_nonneg_right (by omega) hs.2.2.1
  rw [Int.add_mul, Int.one_mul] at h6
  have := hs.mul
  omega
theorem Pl.turn {r c i j : Int} (h : Pl r c i j) : Pl c r j i := ⟨h.2.2.1, h.2.2.2, h.1, h.2.1⟩
theorem good_grid {r c : Int} {f : Int → Int → Nat} (h : Siz r c) : Good r c (grid r c f) := by
  refine ⟨h, ?_⟩
  rw [length_grid]
  have h1 : r = (r.toNat : Int) := by have := h.1; omega
  have h2 : c = (c.toNat : Int) := by have := h.2.2.1; omega
  rw [Int.natCast_mul, ← h1, ← h2]
theorem Good.row {r c i : Int} {xs : List Nat} (h : Good r c xs) (h0 : 0 ≤ i) (h1 : i < r) : 0 ≤ i * c ∧ (i + 1) * c = i * c + c ∧ i * c + c ≤ xs.length ∧ (xs.length : Int) ≤ 144 := by
  have h5 : 0 ≤ i * c := Int.mul_nonneg h0 h.1.2.2.1
  have h6 : (i + 1) * c ≤ r * c := Int.mul_le_mul_of_nonneg_right (by omega) h.1.2.2.1
  have h7 : (i + 1) * c = i * c + c := by rw [Int.add_mul, Int.one_mul]
  have := h.1.mul
  have := h.2
  omega
theorem sizB_iff {n : Int} : sizB n = true ↔ 0 ≤ n ∧ n ≤ 12 := by simp [sizB]
theorem chk_zero {r c : Int} {xs : List Nat} : chk r c xs = 0 ↔ Good r c xs ∧ xs.all finB = true := by
  unfold chk Good Siz
  have h1 := @sizB_iff r
  have h2 := @sizB_iff c
  cases e1 : sizB r <;> cases e2 : sizB c <;> cases e3 : xs.all finB <;> simp only [e1, e2] at h1 h2 <;> simp <;> (try split) <;> simp_all <;> omega
theorem chk_good {r c : Int} {xs : List Nat} (h : chk r c xs = 0) : Good r c xs := (chk_zero.1 h).1
theorem lchk_zero {xs : List Nat} : lchk xs = 0 ↔ xs.length ≤ 12 ∧ xs.all finB = true := by
  unfold lchk
  cases e3 : xs.all finB <;> (split <;> simp <;> omega)
theorem chk_rng {r c : Int} {xs : List Nat} : 0 ≤ chk r c xs ∧ chk r c xs ≤ 4 := by unfold chk; (repeat' split) <;> omega
theorem lchk_rng {xs : List Nat} : 0 ≤ lchk xs ∧ lchk xs ≤ 4 := by unfold lchk; (repeat' split) <;> omega
theorem sizT {r c : Int} (h : sizB r = true ∧ sizB c = true) : Siz r c := by
  have h1 := sizB_iff.1 h.1
  have h2 := sizB_iff.1 h.2
  exact ⟨h1.1, h1.2, h2.1, h2.2⟩

/-! ## Filled place by place, over noughts -/
def PutI (r c : Int) (f : Int → Int → Nat) (D : Int → Int → Prop) (xs : List Nat) : Prop := (xs.length : Int) = r * c ∧ ∀ a b, Pl r c a b → (D a b → mat c xs a b = f a b) ∧ (¬ D a b → mat c xs a b = 0)
theorem mat_replicate {c a b : Int} {n : Nat} : mat c (List.replicate n 0) a b = 0 := by
  unfold mat
  rw [List.getD, List.getElem?_replicate]
  split <;> rfl
theorem grid_zero {r c : Int} : grid r c (fun _ _ => 0) = List.replicate (r.toNat * c.toNat) 0 := by
  unfold grid
  rw [List.map_const', List.length_range]
theorem putI_zero {r c : Int} {f : Int → Int → Nat} (h : Siz r c) : PutI r c f (fun _ _ => False) (List.replicate (r * c).toNat 0) := by
  refine ⟨?_, fun a b _ => ⟨fun h => h.elim, fun _ => mat_replicate⟩⟩
  have := h.mul
  simp; omega
theorem mat_set {c p q a b : Int} {xs : List Nat} {v : Nat} {r : Int} (hs : Siz r c) (hl : (xs.length : Int) = r * c) (hp : Pl r c p q) (ha : Pl r c a b) : mat c (xs.set (p * c + q).toNat v) a b = if a = p ∧ b = q then v else mat c xs a b := by
  unfold mat
  have h1 := hp.rng hs
  have h2 := ha.rng hs
  obtain ⟨hp1, hp2, hp3, hp4⟩ := hp
  obtain ⟨ha1, ha2, ha3, ha4⟩ := ha
  by_cases he : a = p ∧ b = q
  · rw [if_pos he, he.1, he.2]
    rw [List.getD, List.getElem?_set_self (by omega)]
    rfl
  · rw [if_neg he]
    have hne : (p * c + q).toNat ≠ (a * c + b).toNat := by
      intro e
      have e' : p * c + q = a * c + b := by omega
      apply he
      have hc : 0 < c := by omega
      rcases Int.lt_trichotomy a p with h | h | h
      · have h6 : (a + 1) * c ≤ p * c := Int.mul_le_mul_of_nonneg_right (by omega) (by omega)
        rw [Int.add_mul, Int.one_mul] at h6
        omega
      · subst h; omega
      · have h6 : (p + 1) * c ≤ a * c := Int.mul_le_mul_of_nonneg_right (by omega) (by omega)
        rw [Int.add_mul, Int.one_mul] at h6
        omega
    rw [List.getD, List.getElem?_set_ne hne]
    rfl
theorem putI_set {r c p q : Int} {f : Int → Int → Nat} {D D' : Int → Int → Prop} {xs : List Nat} {v : Nat} (hs : Siz r c) (h : PutI r c f D xs) (hp : Pl r c p q) (hv : v = f p q) (hD : ∀ a b, Pl r c a b → (D' a b ↔ D a b ∨ (a = p ∧ b = q))) : PutI r c f D' (xs.set (p * c + q).toNat v) := by
  refine ⟨by rw [List.length_set]; exact h.1, fun a b hab => ?_⟩
  rw [mat_set hs h.1 hp hab]
  have h1 := h.2 a b hab
  have h2 := hD a b hab
  by_cases he : a = p ∧ b = q
  · rw [if_pos he]
    refine ⟨fun _ => by rw [hv, he.1, he.2], fun hn => (hn (h2.2 (.inr he))).elim⟩
  · rw [if_neg he]
    refine ⟨fun hd => h1.1 ((h2.1 hd).resolve_right he), fun hn => h1.2 fun hd => hn (h2.2 (.inl hd))⟩
theorem putI_cast {r c : Int} {f : Int → Int → Nat} {D D' : Int → Int → Prop} {xs : List Nat} (h : PutI r c f D xs) (hD : ∀ a b, Pl r c a b → (D' a b ↔ D a b)) : PutI r c f D' xs :=
  ⟨h.1, fun a b hab => ⟨fun hd => (h.2 a b hab).1 ((hD a b hab).1 hd), fun hn => (h.2 a b hab).2 fun hd => hn ((hD a b hab).2 hd)⟩⟩
theorem putI_grid {r c : Int} {f : Int → Int → Nat} {D : Int → Int → Prop} {xs : List Nat} (hs : Siz r c) (h : PutI r c f D xs) (hD : ∀ a b, Pl r c a b → D a b) : xs = grid r c f := by
  rw [← grid_mat hs.1 hs.2.2.1 h.1]
  exact grid_congr fun i j h1 h2 h3 h4 => (h.2 i j ⟨h1, h2, h3, h4⟩).1 (hD i j ⟨h1, h2, h3, h4⟩)
/-- Symmetric, by what stands at a place from the diagonal down. -/
def mirR (n : Int) (g : Int → Int → Nat) : List Nat := grid n n fun i j => if j ≤ i then g i j else g j i
/-- Up to row i and column j. -/
def MirD (i j a b : Int) : Prop := (b ≤ a ∧ (a < i ∨ (a = i ∧ b < j))) ∨ (a < b ∧ (b < i ∨ (b = i ∧ a < j)))
theorem mir_step {n i j : Int} {g : Int → Int → Nat} {xs : List Nat} (hs : Siz n n) (h0 : 0 ≤ j) (h1 : j ≤ i) (h2 : i < n) (h : PutI n n (fun i j => if j ≤ i then g i j else g j i) (MirD i j) xs) :
    PutI n n (fun i j => if j ≤ i then g i j else g j i) (MirD i (j + 1)) ((xs.set (i * n + j).toNat (g i j)).set (j * n + i).toNat (g i j)) := by
  refine putI_set (D := fun a b => MirD i j a b ∨ (a = i ∧ b = j)) hs (putI_set hs h ⟨by omega, h2, h0, by omega⟩ (by simp [h1]) fun a b _ => Iff.rfl) ⟨h0, by omega, by omega, h2⟩ ?_ fun a b _ => ?_
  · show g i j = if i ≤ j then g j i else g i j
    split
    · have : i = j := by omega
      rw [this]
    · rfl
  · unfold MirD; omega

/-! ## Filled from left to right -/
theorem take_grid {r c : Int} {f : Int → Int → Nat} {i j : Nat} (hi : i < r.toNat) (hj : j < c.toNat) : (grid r c f).take (i * c.toNat + (j + 1)) = (grid r c f).take (i * c.toNat + j) ++ [f i j] := by
  have hl := place_lt hi hj
  rw [show i * c.toNat + (j + 1) = (i * c.toNat + j) + 1 by omega, take_snoc 0 (by rw [length_grid]; exact hl), grid_at r c f hi hj]
theorem take_grid_all {r c : Int} {f : Int → Int → Nat} : (grid r c f).take (r.toNat * c.toNat) = grid r c f := List.take_of_length_le (by rw [length_grid]; exact Nat.le_refl _)
theorem length_take_grid {r c : Int} {f : Int → Int → Nat} {i j : Nat} (hi : i < r.toNat) (hj : j ≤ c.toNat) : ((grid r c f).take (i * c.toNat + j)).length = i * c.toNat + j := by
  rw [List.length_take, length_grid]
  have h1 : (i + 1) * c.toNat ≤ r.toNat * c.toNat := Nat.mul_le_mul_right _ hi
  rw [Nat.add_mul, Nat.one_mul] at h1
  omega
theorem siz_nat {r c : Int} (hs : Siz r c) : r.toNat * c.toNat ≤ 144 ∧ ((r.toNat * c.toNat : Nat) : Int) = r * c := by
  have h := hs.mul
  have h1 : r = (r.toNat : Int) := by have := hs.1; omega
  have h2 : c = (c.toNat : Int) := by have := hs.2.2.1; omega
  have e : ((r.toNat * c.toNat : Nat) : Int) = r * c := by rw [Int.natCast_mul, ← h1, ← h2]
  omega
end Go.Bn
namespace Go.Bn
open Go
theorem fstE_drop {es : List Int} {k : Nat} (hk : k < es.length) : fstE (es.drop k) = if es.getD k 0 = 0 then fstE (es.drop (k + 1)) else es.getD k 0 := by
  rw [List.drop_eq_getElem_cons hk, fstE, List.getD, List.getElem?_eq_getElem hk]; rfl
theorem length_rowL {c : Int} {xs : List Nat} {i : Int} : (rowL c xs i).length = c.toNat := by simp [rowL]
theorem length_colL {r c : Int} {xs : List Nat} {j : Int} : (colL r c xs j).length = r.toNat := by simp [colL]
theorem take_colL {r c : Int} {xs : List Nat} {j : Int} {k : Nat} (hk : k < r.toNat) : (colL r c xs j).take (k + 1) = (colL r c xs j).take k ++ [mat c xs k j] := by
  rw [take_snoc 0 (by rw [length_colL]; exact hk)]
  congr 2
  simp [colL, List.getD, hk]
theorem take_grid_le {r c : Int} {f : Int → Int → Nat} {n : Nat} (hs : Siz r c) : ((grid r c f).take n).length ≤ 144 := by
  have := (siz_nat hs).1
  rw [List.length_take, length_grid]; omega
end Go.Bn
namespace Go.Bn
open Go

def MatU (r c : Int) (bs : List Nat) : SP := aggp [isv (.int .i64 r), isv (.int .i64 c), wsl bs]
theorem fstE_nil : fstE [] = 0 := rfl
theorem fstE_zero {e : Int} {l : List Int} : fstE (e :: l) = 0 ↔ e = 0 ∧ fstE l = 0 := by
  show (if e = 0 then fstE l else e) = 0 ↔ _
  by_cases h : e = 0
  · rw [if_pos h]; simp [h]
  · rw [if_neg h]; simp [h]
theorem whenE_zero {b : Bool} {e : Int} (he : e ≠ 0) : whenE b e = 0 ↔ b = false := by cases b <;> simp [whenE, he]
theorem fst2 {a b : Int} : fstE [a, b] = 0 ↔ a = 0 ∧ b = 0 := by rw [fstE_zero, fstE_zero]; simp [fstE_nil]
theorem fst3 {a b d : Int} : fstE [a, b, d] = 0 ↔ a = 0 ∧ b = 0 ∧ d = 0 := by rw [fstE_zero, fst2]
theorem fst4 {a b d e : Int} : fstE [a, b, d, e] = 0 ↔ a = 0 ∧ b = 0 ∧ d = 0 ∧ e = 0 := by rw [fstE_zero, fst3]

/-! ## Transpose, sums, products -/
def trG (r c : Int) (xs : List Nat) : List Nat := grid c r fun i j => mat c xs j i
def trR (r c : Int) (xs : List Nat) : MR := orR (chk r c xs) ⟨c, r, trG r c xs, 0⟩
def alikeE (r c : Int) (xs : List Nat) (r' c' : Int) (ys : List Nat) : Int := fstE [chk r c xs, chk r' c' ys, whenE (r != r' || c != c') 3]
def sumG (f : Nat → Nat → Nat) (r c : Int) (xs ys : List Nat) : List Nat := grid r c fun i j => f (mat c xs i j) (mat c ys i j)
def sumR (f : Nat → Nat → Nat) (r c : Int) (xs : List Nat) (r' c' : Int) (ys : List Nat) : MR := orR (alikeE r c xs r' c' ys) (toldR r c (sumG f r c xs ys))
def prodG (r c : Int) (xs : List Nat) (c' : Int) (ys : List Nat) : List Nat := grid r c' fun i j => dotL (rowL c xs i) (colL c c' ys j)
def mulE (r c : Int) (xs : List Nat) (r' c' : Int) (ys : List Nat) : Int := fstE [chk r c xs, chk r' c' ys, whenE (c != r') 3]
def mulR (r c : Int) (xs : List Nat) (r' c' : Int) (ys : List Nat) : MR := orR (mulE r c xs r' c' ys) (toldR r c' (prodG r c xs c' ys))
def sandE (r c : Int) (xs : List Nat) (r' c' : Int) (ys : List Nat) : Int := fstE [chk r c xs, chk r' c' ys, whenE (r' != c' || c != r') 3]
def sandG (r c : Int) (xs ys : List Nat) : List Nat := mirR r fun i j => dotL (rowL c (prodG r c xs c ys) i) (rowL c xs j)
def sandR (r c : Int) (xs : List Nat) (r' c' : Int) (ys : List Nat) : MR := orR (sandE r c xs r' c' ys) (toldR r r (sandG r c xs ys))
def sqE (r c : Int) (xs : List Nat) : Int := fstE [chk r c xs, whenE (r != c) 3]
def mirrorR (r c : Int) (xs : List Nat) : MR := orR (sqE r c xs) ⟨r, r, mirR r (mat c xs), 0⟩
def TWO : Nat := 0x4000000000000000
def meanF (r c : Int) (xs : List Nat) (i j : Int) : Nat := if i = j then mat c xs i j else fdiv (fadd (mat c xs i j) (mat c xs j i)) TWO
def meanR (r c : Int) (xs : List Nat) : MR := orR (sqE r c xs) (toldR r r (mirR r (meanF r c xs)))
def eqM (r c : Int) (xs : List Nat) (r' c' : Int) (ys : List Nat) : Bool := decide (r = r') && decide (c = c') && decide (xs = ys)

theorem alikeE_good {r c r' c' : Int} {xs ys : List Nat} (h : alikeE r c xs r' c' ys = 0) : Good r c xs ∧ Good r c ys ∧ r' = r ∧ c' = c ∧ xs.all finB = true ∧ ys.all finB = true := by
  unfold alikeE at h
  rw [fst3, whenE_zero (by decide)] at h
  obtain ⟨h1, h2, h3⟩ := h
  have h1 := chk_zero.1 h1
  have h2 := chk_zero.1 h2
  simp at h3
  obtain ⟨e1, e2⟩ := h3
  subst e1; subst e2
  exact ⟨h1.1, h2.1, rfl, rfl, h1.2, h2.2⟩
theorem mulE_good {r c r' c' : Int} {xs ys : List Nat} (h : mulE r c xs r' c' ys = 0) : Good r c xs ∧ Good c c' ys ∧ r' = c ∧ xs.all finB = true ∧ ys.all finB = true := by
  unfold mulE at h
  rw [fst3, whenE_zero (by decide)] at h
  obtain ⟨h1, h2, h3⟩ := h
  have h1 := chk_zero.1 h1
  have h2 := chk_zero.1 h2
  simp at h3
  subst h3
  exact ⟨h1.1, h2.1, rfl, h1.2, h2.2⟩
theorem sandE_good {r c r' c' : Int} {xs ys : List Nat} (h : sandE r c xs r' c' ys = 0) : Good r c xs ∧ Good c c ys ∧ r' = c ∧ c' = c ∧ xs.all finB = true ∧ ys.all finB = true := by
  unfold sandE at h
  rw [fst3, whenE_zero (by decide)] at h
  obtain ⟨h1, h2, h3⟩ := h
  have h1 := chk_zero.1 h1
  have h2 := chk_zero.1 h2
  simp at h3
  obtain ⟨e1, e2⟩ := h3
  subst e1; subst e2
  exact ⟨h1.1, h2.1, rfl, rfl, h1.2, h2.2⟩
theorem sqE_good {r c : Int} {xs : List Nat} (h : sqE r c xs = 0) : Good r r xs ∧ c = r ∧ xs.all finB = true := by
  unfold sqE at h
  rw [fst2, whenE_zero (by decide)] at h
  obtain ⟨h1, h3⟩ := h
  have h1 := chk_zero.1 h1
  simp at h3
  subst h3
  exact ⟨h1.1, rfl, h1.2⟩
theorem good_prod {r c c' : Int} {xs ys : List Nat} (h : Good r c xs) (h' : Good c c' ys) : Good r c' (prodG r c xs c' ys) := good_grid (h.1.mk2 h'.1)
theorem good_mir {n : Int} {g : Int → Int → Nat} (h : Siz n n) : Good n n (mirR n g) := good_grid h
/-- The lists that are the columns. -/
def ColsI (r c : Int) (ys : List Nat) (k : Nat) (l : List (List Nat)) : Prop := l.length = c.toNat ∧ ∀ q : Nat, q < k → l.getD q [] = colL r c ys q
theorem cols_zero {r c : Int} {ys : List Nat} : ColsI r c ys 0 (List.replicate c.toNat []) := ⟨by simp, fun q h => by omega⟩
theorem cols_set {r c : Int} {ys : List Nat} {k : Nat} {l : List (List Nat)} (h : ColsI r c ys k l) (hk : k < c.toNat) : ColsI r c ys (k + 1) (l.set k (colL r c ys k)) := by
  refine ⟨by rw [List.length_set]; exact h.1, fun q hq => ?_⟩
  by_cases hqk : k = q
  · subst hqk
    rw [List.getD, List.getElem?_set_self (by rw [h.1]; exact hk)]; rfl
  · rw [List.getD, List.getElem?_set_ne hqk, ← List.getD]
    exact h.2 q (by omega)
end Go.Bn
namespace Go.Bn
open Go
def MIRF (g : Int → Int → Nat) (i j : Int) : Nat := if j ≤ i then g i j else g j i
theorem mir_zero {n : Int} {g : Int → Int → Nat} (hs : Siz n n) : PutI n n (MIRF g) (MirD (0 : Nat) 0) (grid n n fun _ _ => 0) := by
  have h := putI_zero (f := MIRF g) hs
  rw [grid_zero, show n.toNat * n.toNat = (n * n).toNat by have := siz_nat hs; omega]
  refine putI_cast h fun a b hab => ?_
  obtain ⟨h1, h2, h3, h4⟩ := hab
  refine ⟨fun h => ?_, False.elim⟩
  unfold MirD at h
  show False
  omega
theorem mir_row {n : Int} {g : Int → Int → Nat} {k q : Nat} {m : List Nat} (_ : k < n.toNat) (hq : q = k + 1) (h : PutI n n (MIRF g) (MirD k q) m) : PutI n n (MIRF g) (MirD ((k + 1 : Nat) : Int) ((0 : Nat) : Int)) m := by
  refine putI_cast h fun a b hab => ?_
  obtain ⟨h1, h2, h3, h4⟩ := hab
  unfold MirD; omega
theorem mir_done {n : Int} {g : Int → Int → Nat} {k : Nat} {m : List Nat} (hs : Siz n n) (hk : k = n.toNat) (h : PutI n n (MIRF g) (MirD k 0) m) : m = mirR n g := by
  refine putI_grid hs h fun a b hab => ?_
  obtain ⟨h1, h2, h3, h4⟩ := hab
  unfold MirD; omega
theorem eqM_yes {r c r' c' : Int} {xs ys : List Nat} (h1 : r = r') (h2 : c = c') (h3 : xs = ys) : eqM r c xs r' c' ys = true := by simp [eqM, h1, h2, h3]
theorem eqM_no2 {r c r' c' : Int} {xs ys : List Nat} {k : Nat} (h : ¬ xs.getD k 0 = ys.getD k 0) : eqM r c xs r' c' ys = false := by
  have : xs ≠ ys := fun e => h (by rw [e])
  simp [eqM, this]
theorem eqM_no1 {r c r' c' : Int} {xs ys : List Nat} (h : (¬ r = r' ∨ ¬ c = c') ∨ ¬ (xs.length : Int) = ys.length) : eqM r c xs r' c' ys = false := by
  rcases h with (h | h) | h
  · simp [eqM, h]
  · simp [eqM, h]
  · have : xs ≠ ys := fun e => h (by rw [e])
    simp [eqM, this]
end Go.Bn
namespace Go.Bn
open Go
theorem slm_len {α : Type} {mk : α → SP} {xs : List α} {v : Value} {c : EW} (h : (slm mk xs).H v c) : xs.length ≤ 9223372036854775807 := by
  obtain ⟨_, hv⟩ := h
  rw [List.length_map] at hv
  rcases hv with ⟨_, h2⟩ | ⟨ad, cap, _, h2, h3, _⟩
  · omega
  · simp only [maxLen] at h3; omega
theorem J_lenM {X : Cx} {Γ : Facts} {ρ : Env} {σ : List Res} {k : Code} {Q : Exit → Act → World → Prop} (t : Nat) {r c : Int} {xs : List Nat} (h : ρ.get t = some (MatP r c xs)) (hk : xs.length ≤ 9223372036854775807 → J X Γ ρ σ k Q) : J X Γ ρ σ k Q := fun a w hs => by
  obtain ⟨cs, _, _, h3⟩ := hs.env t _ h
  obtain ⟨u, _, _, hu⟩ := h3 2 _ rfl
  exact hk (slm_len hu) a w hs
end Go.Bn
namespace Go.Bn
open Go

theorem fmul_comm (x y : Nat) : fmul x y = fmul y x := by
  unfold fmul Ieee.Format.mul
  congr 2
  cases Ieee.double.read x <;> cases Ieee.double.read y <;> simp [Ieee.Datum.product, Bool.xor_comm, Nat.mul_comm, Int.add_comm]
theorem fadd_comm (x y : Nat) : fadd x y = fadd y x := by
  unfold fadd Ieee.Format.add
  congr 2
  cases Ieee.double.read x <;> cases Ieee.double.read y <;> simp [Ieee.Datum.sum, Bool.and_comm, Int.add_comm, Int.min_comm, eq_comm]
  split
  · rename_i h; rw [h]
  · rfl
theorem dotTo_comm (xs ys : List Nat) : ∀ k, dotTo xs ys k = dotTo ys xs k
  | 0 => rfl
  | k + 1 => by rw [dotTo, dotTo, dotTo_comm xs ys k, fmul_comm]
theorem dotL_comm {xs ys : List Nat} (h : xs.length = ys.length) : dotL xs ys = dotL ys xs := by unfold dotL; rw [h, dotTo_comm]
theorem dotTo_congr {xs ys xs' ys' : List Nat} : ∀ {k : Nat}, (∀ i, i < k → xs.getD i 0 = xs'.getD i 0 ∧ ys.getD i 0 = ys'.getD i 0) → dotTo xs ys k = dotTo xs' ys' k
  | 0, _ => rfl
  | k + 1, h => by rw [dotTo, dotTo, dotTo_congr fun i hi => h i (by omega), (h k (by omega)).1, (h k (by omega)).2]

/-! ## Turned -/
theorem rowL_congr {c c' : Int} {xs xs' : List Nat} {i i' : Int} (hc : c = c') (h : ∀ j, 0 ≤ j → j < c → mat c xs i j = mat c' xs' i' j) : rowL c xs i = rowL c' xs' i' := by
  subst hc
  unfold rowL
  apply List.map_congr_left
  intro k hk
  rw [List.mem_range] at hk
  exact h k (by omega) (by omega)
theorem row_tr {r c i : Int} {xs : List Nat} (h0 : 0 ≤ i) (h1 : i < c) : rowL r (trG r c xs) i = colL r c xs i := by
  unfold rowL colL
  apply List.map_congr_left
  intro k hk
  rw [List.mem_range] at hk
  exact mat_grid h0 h1 (by omega) (by omega)
theorem col_tr {r c j : Int} {xs : List Nat} (h0 : 0 ≤ j) (h1 : j < r) : colL c r (trG r c xs) j = rowL c xs j := by
  unfold rowL colL
  apply List.map_congr_left
  intro k hk
  rw [List.mem_range] at hk
  exact mat_grid (by omega) (by omega) h0 h1
theorem tr_tr {r c : Int} {xs : List Nat} (h : Good r c xs) : trG c r (trG r c xs) = xs := by
  have : trG c r (trG r c xs) = grid r c (mat c xs) := grid_congr fun i j h1 h2 h3 h4 => mat_grid h3 h4 h1 h2
  rw [this, grid_mat h.1.1 h.1.2.2.1 h.2]
theorem tr_sum {f : Nat → Nat → Nat} {r c : Int} {xs ys : List Nat} : trG r c (sumG f r c xs ys) = sumG f c r (trG r c xs) (trG r c ys) := by
  refine grid_congr fun i j h1 h2 h3 h4 => ?_
  show mat c (sumG f r c xs ys) j i = f (mat r (trG r c xs) i j) (mat r (trG r c ys) i j)
  rw [show mat c (sumG f r c xs ys) j i = _ from mat_grid h3 h4 h1 h2, show mat r (trG r c xs) i j = _ from mat_grid h1 h2 h3 h4, show mat r (trG r c ys) i j = _ from mat_grid h1 h2 h3 h4]
theorem tr_prod {r c c' : Int} {xs ys : List Nat} : trG r c' (prodG r c xs c' ys) = prodG c' c (trG c c' ys) r (trG r c xs) := by
  refine grid_congr fun i j h1 h2 h3 h4 => ?_
  show mat c' (prodG r c xs c' ys) j i = dotL (rowL c (trG c c' ys) i) (colL c r (trG r c xs) j)
  rw [show mat c' (prodG r c xs c' ys) j i = _ from mat_grid h3 h4 h1 h2, row_tr h1 h2, col_tr h3 h4]
  exact dotL_comm (by rw [length_rowL, length_colL])
/-- All places have it, or all numbers have it. -/
theorem all_grid {r c : Int} {f : Int → Int → Nat} {p : Nat → Bool} : (grid r c f).all p = true ↔ ∀ i j, Pl r c i j → p (f i j) = true := by
  rw [List.all_eq_true]
  constructor
  · intro h i j ⟨h1, h2, h3, h4⟩
    have e : (grid r c f).getD (i.toNat * c.toNat + j.toNat) 0 = f i j := by
      rw [grid_at r c f (by omega) (by omega)]; congr 1 <;> omega
    rw [← e]
    exact h _ (mem_getD 0 (by rw [length_grid]; exact place_lt (by omega) (by omega)))
  · intro h x hx
    unfold grid at hx
    rw [List.mem_map] at hx
    obtain ⟨k, hk, rfl⟩ := hx
    rw [List.mem_range] at hk
    have hc : 0 < c.toNat := by
      rcases Nat.eq_zero_or_pos c.toNat with h0 | h0
      · rw [h0] at hk; simp at hk
      · exact h0
    have h1 : k / c.toNat < r.toNat := Nat.div_lt_of_lt_mul (by rw [Nat.mul_comm]; exact hk)
    have h2 : k % c.toNat < c.toNat := Nat.mod_lt _ hc
    generalize k / c.toNat = p at h1 ⊢
    generalize k % c.toNat = q at h2 ⊢
    exact h _ _ ⟨by omega, by omega, by omega, by omega⟩
theorem all_good {r c : Int} {xs : List Nat} {p : Nat → Bool} (h : Good r c xs) : xs.all p = true ↔ ∀ i j, Pl r c i j → p (mat c xs i j) = true := by
  conv => lhs; rw [← grid_mat h.1.1 h.1.2.2.1 h.2]
  exact all_grid
theorem all_tr {r c : Int} {xs : List Nat} {p : Nat → Bool} (h : Good r c xs) : (trG r c xs).all p = xs.all p := by
  rw [Bool.eq_iff_iff, all_good h]
  unfold trG
  rw [all_grid]
  exact ⟨fun k i j hp => k j i hp.turn, fun k i j hp => k j i hp.turn⟩
theorem good_tr {r c : Int} {xs : List Nat} (h : Good r c xs) : Good c r (trG r c xs) := good_grid h.1.turn
theorem trR_e {r c : Int} {xs : List Nat} : (trR r c xs).e = chk r c xs := by
  unfold trR orR
  split
  · rename_i h; exact h.symm
  · rfl
theorem trR_ok {r c : Int} {xs : List Nat} (h : chk r c xs = 0) : trR r c xs = ⟨c, r, trG r c xs, 0⟩ := if_pos h
theorem chk_tr {r c : Int} {xs : List Nat} (h : chk r c xs = 0) : chk c r (trG r c xs) = 0 := by
  have h := chk_zero.1 h
  exact chk_zero.2 ⟨good_tr h.1, by rw [all_tr h.1]; exact h.2⟩
theorem chk_of {r c : Int} {xs : List Nat} (h : Good r c xs) (hf : xs.all finB = true) : chk r c xs = 0 := chk_zero.2 ⟨h, hf⟩
/-- A told matrix, turned. -/
theorem told_tr {r c : Int} {xs : List Nat} (h : Good r c xs) : (toldR r c xs).e = (toldR c r (trG r c xs)).e ∧ ((toldR r c xs).e = 0 → trR (toldR r c xs).r (toldR r c xs).c (toldR r c xs).a = toldR c r (trG r c xs)) := by
  unfold toldR
  rw [all_tr h]
  cases hf : xs.all finB
  · exact ⟨rfl, fun h => by cases h⟩
  · exact ⟨rfl, fun _ => trR_ok (chk_of h hf)⟩
theorem eqM_refl {x : MR} : eqM x.r x.c x.a x.r x.c x.a = true := by simp [eqM]
theorem mul_tr {r c r' c' : Int} {xs ys : List Nat} (h1 : chk r c xs = 0) (h2 : chk r' c' ys = 0) :
    (mulR r c xs r' c' ys).e = (mulR c' r' (trG r' c' ys) c r (trG r c xs)).e ∧
    ((mulR r c xs r' c' ys).e = 0 → trR (mulR r c xs r' c' ys).r (mulR r c xs r' c' ys).c (mulR r c xs r' c' ys).a = mulR c' r' (trG r' c' ys) c r (trG r c xs)) := by
  unfold mulR mulE
  rw [h1, h2, chk_tr h1, chk_tr h2]
  have hg := chk_good h1
  have hg' := chk_good h2
  by_cases he : c = r'
  · subst he
    have e1 : fstE [0, 0, whenE (c != c) 3] = 0 := by simp [fstE, whenE]
    rw [e1]
    show (toldR r c' (prodG r c xs c' ys)).e = (toldR c' r (prodG c' c (trG c c' ys) r (trG r c xs))).e ∧ _
    have := told_tr (good_prod hg hg')
    rw [tr_prod] at this
    exact this
  · have e1 : fstE [0, 0, whenE (c != r') 3] = 3 := by simp [fstE, whenE, he]
    have e2 : fstE [0, 0, whenE (r' != c) 3] = 3 := by simp [fstE, whenE, Ne.symm he]
    rw [e1, e2]
    exact ⟨rfl, fun h => by cases h⟩
theorem good_sum {f : Nat → Nat → Nat} {r c : Int} {xs ys : List Nat} (h : Siz r c) : Good r c (sumG f r c xs ys) := good_grid h
theorem sum_tr {f : Nat → Nat → Nat} {r c r' c' : Int} {xs ys : List Nat} (h1 : chk r c xs = 0) (h2 : chk r' c' ys = 0) :
    (sumR f r c xs r' c' ys).e = (sumR f c r (trG r c xs) c' r' (trG r' c' ys)).e ∧
    ((sumR f r c xs r' c' ys).e = 0 → trR (sumR f r c xs r' c' ys).r (sumR f r c xs r' c' ys).c (sumR f r c xs r' c' ys).a = sumR f c r (trG r c xs) c' r' (trG r' c' ys)) := by
  unfold sumR alikeE
  rw [h1, h2, chk_tr h1, chk_tr h2]
  have hg := chk_good h1
  by_cases he : r = r' ∧ c = c'
  · obtain ⟨e1, e2⟩ := he
    subst e1; subst e2
    have e1 : fstE [0, 0, whenE (r != r || c != c) 3] = 0 := by simp [fstE, whenE]
    have e2 : fstE [0, 0, whenE (c != c || r != r) 3] = 0 := by simp [fstE, whenE]
    rw [e1, e2]
    show (toldR r c (sumG f r c xs ys)).e = (toldR c r (sumG f c r (trG r c xs) (trG r c ys))).e ∧ _
    have := told_tr (good_sum (f := f) (ys := ys) (xs := xs) hg.1)
    rw [tr_sum] at this
    exact this
  · have e1 : fstE [0, 0, whenE (r != r' || c != c') 3] = 3 := by
      by_cases h : r = r' <;> by_cases k : c = c' <;> simp_all [fstE, whenE]
    have e2 : fstE [0, 0, whenE (c != c' || r != r') 3] = 3 := by
      by_cases h : r = r' <;> by_cases k : c = c' <;> simp_all [fstE, whenE]
    rw [e1, e2]
    exact ⟨rfl, fun h => by cases h⟩
end Go.Bn
namespace Go.Bn
open Go
theorem tr_back {r c : Int} {xs : List Nat} (h : chk r c xs = 0) : trR (trR r c xs).r (trR r c xs).c (trR r c xs).a = ⟨r, c, xs, 0⟩ := by
  rw [trR_ok h]
  show trR c r (trG r c xs) = _
  rw [trR_ok (chk_tr h), tr_tr (chk_good h)]
theorem turned_2 {r c r' c' : Int} {xs ys : List Nat} (h : ¬(trR r c xs).e = 0 ∨ ¬(trR r' c' ys).e = 0) : (cmpB .neq (chk r c xs) 0 || cmpB .neq (chk r' c' ys) 0) = true := by
  rw [trR_e, trR_e] at h
  simp [cmpB, h]
theorem turned_3 {r c : Int} {xs : List Nat} (h : (trR r c xs).e = 0) (h3 : ¬(trR (trR r c xs).r (trR r c xs).c (trR r c xs).a).e = 0 ∨ eqM (trR (trR r c xs).r (trR r c xs).c (trR r c xs).a).r (trR (trR r c xs).r (trR r c xs).c (trR r c xs).a).c (trR (trR r c xs).r (trR r c xs).c (trR r c xs).a).a r c xs = false) : False := by
  rw [trR_e] at h
  rw [tr_back h] at h3
  simp [eqM] at h3
theorem turned_P {r c r' c' : Int} {xs ys : List Nat} (h1 : (trR r c xs).e = 0) (h2 : (trR r' c' ys).e = 0) :
    (mulR r c xs r' c' ys).e = (mulR (trR r' c' ys).r (trR r' c' ys).c (trR r' c' ys).a (trR r c xs).r (trR r c xs).c (trR r c xs).a).e ∧
    ((mulR r c xs r' c' ys).e = 0 → trR (mulR r c xs r' c' ys).r (mulR r c xs r' c' ys).c (mulR r c xs r' c' ys).a = mulR (trR r' c' ys).r (trR r' c' ys).c (trR r' c' ys).a (trR r c xs).r (trR r c xs).c (trR r c xs).a) := by
  rw [trR_e] at h1 h2
  rw [trR_ok h1, trR_ok h2]
  exact mul_tr h1 h2
theorem turned_S {r c r' c' : Int} {xs ys : List Nat} {f : Nat → Nat → Nat} (h1 : (trR r c xs).e = 0) (h2 : (trR r' c' ys).e = 0) :
    (sumR f r c xs r' c' ys).e = (sumR f (trR r c xs).r (trR r c xs).c (trR r c xs).a (trR r' c' ys).r (trR r' c' ys).c (trR r' c' ys).a).e ∧
    ((sumR f r c xs r' c' ys).e = 0 → trR (sumR f r c xs r' c' ys).r (sumR f r c xs r' c' ys).c (sumR f r c xs r' c' ys).a = sumR f (trR r c xs).r (trR r c xs).c (trR r c xs).a (trR r' c' ys).r (trR r' c' ys).c (trR r' c' ys).a) := by
  rw [trR_e] at h1 h2
  rw [trR_ok h1, trR_ok h2]
  exact sum_tr h1 h2
theorem turned_no {p q t : MR} (h : p.e = q.e ∧ (p.e = 0 → t = q)) (k : ¬ p.e = q.e ∨ p.e = 0 ∧ eqM t.r t.c t.a q.r q.c q.a = false) : False := by
  rcases k with k | ⟨k1, k2⟩
  · exact k h.1
  · rw [h.2 k1, eqM_refl] at k2; cases k2
theorem turned_yes {p q t : MR} (h : p.e = q.e ∧ (p.e = 0 → t = q)) : (cmpB .eql p.e q.e && (cmpB .neq p.e 0 || eqM t.r t.c t.a q.r q.c q.a)) = true := by
  obtain ⟨h1, h2⟩ := h
  by_cases h0 : p.e = 0
  · rw [h2 h0, eqM_refl]; simp [cmpB, h1]
  · rw [← h1]; simp [cmpB, h0]
end Go.Bn
namespace Go.Bn
open Go

theorem take_rowL {c : Int} {xs : List Nat} {i : Int} {k : Nat} (hk : k < c.toNat) : (rowL c xs i).take (k + 1) = (rowL c xs i).take k ++ [mat c xs i k] := by
  rw [take_snoc 0 (by rw [length_rowL]; exact hk)]
  congr 2
  simp [rowL, List.getD, hk]
/-- Up to row i and column j, row by row. -/
def RowD (i j a b : Int) : Prop := a < i ∨ (a = i ∧ b < j)
theorem putI_grid0 {r c : Int} {f : Int → Int → Nat} (hs : Siz r c) : PutI r c f (RowD (0 : Nat) (0 : Nat)) (grid r c fun _ _ => 0) := by
  have h := putI_zero (f := f) hs
  rw [grid_zero, show r.toNat * c.toNat = (r * c).toNat by have := siz_nat hs; omega]
  refine putI_cast h fun a b hab => ?_
  obtain ⟨h1, h2, h3, h4⟩ := hab
  refine ⟨fun h => ?_, False.elim⟩
  unfold RowD at h
  show False
  omega
theorem row_step {r c : Int} {f : Int → Int → Nat} {i j : Nat} {xs : List Nat} {v : Nat} (hs : Siz r c) (hi : (i : Int) < r) (hj : (j : Int) < c) (h : PutI r c f (RowD i j) xs) (hv : v = f i j) : PutI r c f (RowD i ((j + 1 : Nat) : Int)) (xs.set ((i : Int) * c + (j : Int)).toNat v) := by
  refine putI_set hs h ⟨by omega, hi, by omega, hj⟩ hv fun a b _ => ?_
  unfold RowD; omega
theorem row_end {r c : Int} {f : Int → Int → Nat} {i q : Nat} {xs : List Nat} (hs : Siz r c) (hq : q = c.toNat) (h : PutI r c f (RowD i q) xs) : PutI r c f (RowD ((i + 1 : Nat) : Int) ((0 : Nat) : Int)) xs := by
  have h1 := hs.2.2.1
  refine putI_cast h fun a b hab => ?_
  obtain ⟨h1, h2, h3, h4⟩ := hab
  unfold RowD; omega
theorem row_done {r c : Int} {f : Int → Int → Nat} {k : Nat} {xs : List Nat} (hs : Siz r c) (hk : k = r.toNat) (h : PutI r c f (RowD k (0 : Nat)) xs) : xs = grid r c f := by
  have h1 := hs.1
  refine putI_grid hs h fun a b hab => ?_
  obtain ⟨h1, h2, h3, h4⟩ := hab
  unfold RowD; omega
/-- Up to row i and column j of what stands below the diagonal, or on it (e = 1). -/
def LowD (e i j a b : Int) : Prop := b < a + e ∧ (a < i ∨ (a = i ∧ b < j))
/-- What stands at places below or on the diagonal, noughts above. -/
def lowF (e : Int) (f : Int → Int → Nat) (i j : Int) : Nat := if j < i + e then f i j else 0
theorem low_zero {n e : Int} {f : Int → Int → Nat} (hs : Siz n n) : PutI n n (lowF e f) (LowD e (0 : Nat) (0 : Nat)) (grid n n fun _ _ => 0) := by
  refine putI_cast (putI_grid0 hs) fun a b hab => ?_
  obtain ⟨h1, h2, h3, h4⟩ := hab
  unfold RowD LowD; omega
theorem low_step {n : Int} {f : Int → Int → Nat} {i j : Nat} {xs : List Nat} {v : Nat} (hs : Siz n n) (hi : (i : Int) < n) (hj : j ≤ i) (h : PutI n n (lowF 1 f) (LowD 1 i j) xs) (hv : v = f i j) : PutI n n (lowF 1 f) (LowD 1 i ((j + 1 : Nat) : Int)) (xs.set ((i : Int) * n + (j : Int)).toNat v) := by
  refine putI_set hs h ⟨by omega, hi, by omega, by omega⟩ (by unfold lowF; rw [if_pos (by omega)]; exact hv) fun a b _ => ?_
  unfold LowD; omega
theorem low_end {n : Int} {f : Int → Int → Nat} {i q : Nat} {xs : List Nat} (hq : q = i + 1) (h : PutI n n (lowF 1 f) (LowD 1 i q) xs) : PutI n n (lowF 1 f) (LowD 1 ((i + 1 : Nat) : Int) ((0 : Nat) : Int)) xs := by
  refine putI_cast h fun a b hab => ?_
  obtain ⟨h1, h2, h3, h4⟩ := hab
  unfold LowD; omega
theorem low_done {n : Int} {f : Int → Int → Nat} {k : Nat} {xs : List Nat} (hs : Siz n n) (hk : k = n.toNat) (h : PutI n n (lowF 1 f) (LowD 1 k (0 : Nat)) xs) : xs = grid n n (lowF 1 f) := by
  have h1 := hs.1
  rw [← grid_mat hs.1 hs.1 h.1]
  refine grid_congr fun i j h1 h2 h3 h4 => ?_
  by_cases hd : LowD 1 k (0 : Nat) i j
  · exact (h.2 i j ⟨h1, h2, h3, h4⟩).1 hd
  · rw [(h.2 i j ⟨h1, h2, h3, h4⟩).2 hd]
    unfold lowF
    rw [if_neg (fun hl => hd (by unfold LowD; omega))]
/-- Mirrored, of what stands below or on the diagonal. -/
theorem mir_low {n : Int} {f : Int → Int → Nat} : mirR n (mat n (grid n n (lowF 1 f))) = mirR n f := by
  refine grid_congr fun i j h1 h2 h3 h4 => ?_
  have e1 : mat n (grid n n (lowF 1 f)) i j = _ := mat_grid h1 h2 h3 h4
  have e2 : mat n (grid n n (lowF 1 f)) j i = _ := mat_grid h3 h4 h1 h2
  show (if j ≤ i then mat n (grid n n (lowF 1 f)) i j else mat n (grid n n (lowF 1 f)) j i) = if j ≤ i then f i j else f j i
  rw [e1, e2]
  unfold lowF
  by_cases h : j ≤ i
  · rw [if_pos h, if_pos h, if_pos (by omega)]
  · rw [if_neg h, if_neg h, if_pos (by omega)]
theorem mir_congr {n : Int} {f g : Int → Int → Nat} (h : ∀ i j, Lo n i j → f i j = g i j) : mirR n f = mirR n g := by
  refine grid_congr fun i j h1 h2 h3 h4 => ?_
  show (if j ≤ i then f i j else f j i) = if j ≤ i then g i j else g j i
  split
  · exact h _ _ ⟨by omega, by omega, by omega⟩
  · exact h _ _ ⟨by omega, by omega, by omega⟩
/-- What the laws compare: a matrix and an error, as the document has them. -/
def toldB (x y : MR) : Bool := if x.e ≠ y.e ∨ y.e ≠ 0 then decide (x.e = y.e) && decide (x.r = 0) && decide (x.c = 0) && decide ((x.a.length : Int) = 0) else decide (x.r = y.r) && decide (x.c = y.c) && decide (x.a = y.a)
def Fair (x : MR) : Prop := x.e ≠ 0 → x = badM x.e
theorem told_same {x y : MR} (hf : Fair x) (he : x.e = y.e) (h : x.e = 0 → x = y) : toldB x y = true := by
  unfold toldB
  by_cases h0 : x.e = 0
  · rw [if_neg (by omega)]
    have := h h0
    subst this
    simp
  · have hb := hf h0
    rw [if_pos (.inr (by omega))]
    rw [he, hb]
    simp [badM]
theorem fair_orR {e : Int} {x : MR} (h : Fair x) : Fair (orR e x) := by
  unfold orR
  split
  · exact h
  · exact fun _ => rfl
theorem fair_told {r c : Int} {xs : List Nat} : Fair (toldR r c xs) := by
  unfold toldR
  split
  · exact fun _ => rfl
  · exact fun h => (h rfl).elim
theorem fair_ok {r c : Int} {xs : List Nat} : Fair ⟨r, c, xs, 0⟩ := fun h => (h rfl).elim
/-! ## Lists and numbers that are answered -/
structure LR where
  a : List Nat
  e : Int
def resV (x : LR) : SP := tupp [fls x.a, isv (.int .i64 x.e)]
def badL (e : Int) : LR := ⟨[], e⟩
def orL (e : Int) (x : LR) : LR := if e = 0 then x else badL e
theorem ret_L {Γ : Facts} {a : List Nat} {e : Int} {x : LR} (h : (⟨a, e⟩ : LR) = x) : Sb Γ (tupp [fls a, isv (.int .i64 e)]) (resV x) := by subst h; exact sb_refl
def listB (x y : LR) : Bool := if x.e ≠ y.e ∨ y.e ≠ 0 then decide (x.e = y.e) && decide ((x.a.length : Int) = 0) else decide (x.a = y.a)
def FairL (x : LR) : Prop := x.e ≠ 0 → x = badL x.e
theorem list_same {x y : LR} (hf : FairL x) (he : x.e = y.e) (h : x.e = 0 → x = y) : listB x y = true := by
  unfold listB
  by_cases h0 : x.e = 0
  · rw [if_neg (by omega)]
    have := h h0
    subst this
    simp
  · have hb := hf h0
    rw [if_pos (.inr (by omega))]
    rw [he, hb]
    simp [badL]
theorem fairL_orL {e : Int} {x : LR} (h : FairL x) : FairL (orL e x) := by
  unfold orL
  split
  · exact h
  · exact fun _ => rfl
theorem fairL_ok {xs : List Nat} : FairL ⟨xs, 0⟩ := fun h => (h rfl).elim
structure NR where
  a : Nat
  e : Int
def resN (x : NR) : SP := tupp [flp x.a, isv (.int .i64 x.e)]
def badN (e : Int) : NR := ⟨0, e⟩
def orN (e : Int) (x : NR) : NR := if e = 0 then x else badN e
theorem ret_N {Γ : Facts} {a : Nat} {e : Int} {x : NR} (h : (⟨a, e⟩ : NR) = x) : Sb Γ (tupp [flp a, isv (.int .i64 e)]) (resN x) := by subst h; exact sb_refl
/-! ## The reference's answers, where the matrices are good -/
theorem rmul_no {r c r' c' : Int} {xs ys : List Nat} (h1 : chk r c xs = 0) (h2 : chk r' c' ys = 0) (h : c ≠ r') : badM 3 = mulR r c xs r' c' ys := by
  unfold mulR mulE
  rw [h1, h2, show fstE [0, 0, whenE (c != r') 3] = 3 by simp [fstE, whenE, h]]
  rfl
theorem rmul_yes {r c r' c' : Int} {xs ys : List Nat} (h1 : chk r c xs = 0) (h2 : chk r' c' ys = 0) (h : c = r') : toldR r c' (prodG r c xs c' ys) = mulR r c xs r' c' ys := by
  unfold mulR mulE
  rw [h1, h2, show fstE [0, 0, whenE (c != r') 3] = 0 by simp [fstE, whenE, h]]
  rfl
theorem rsand_no {r c r' c' : Int} {xs ys : List Nat} (h1 : chk r c xs = 0) (h2 : chk r' c' ys = 0) (h : r' ≠ c' ∨ c ≠ r') : badM 3 = sandR r c xs r' c' ys := by
  unfold sandR sandE
  rw [h1, h2, show fstE [0, 0, whenE (r' != c' || c != r') 3] = 3 by
    have : (r' != c' || c != r') = true := by simpa using h
    rw [this]; rfl]
  rfl
theorem rsand_yes {r c r' c' : Int} {xs ys : List Nat} (h1 : chk r c xs = 0) (h2 : chk r' c' ys = 0) (h : r' = c') (h' : c = r') : toldR r r (sandG r c xs ys) = sandR r c xs r' c' ys := by
  unfold sandR sandE
  rw [h1, h2, show fstE [0, 0, whenE (r' != c' || c != r') 3] = 0 by simp [fstE, whenE, h, h']]
  rfl
theorem fair_mul {r c r' c' : Int} {xs ys : List Nat} : Fair (mulR r c xs r' c' ys) := fair_orR fair_told
theorem fair_sand {r c r' c' : Int} {xs ys : List Nat} : Fair (sandR r c xs r' c' ys) := fair_orR fair_told
theorem fair_sum {f : Nat → Nat → Nat} {r c r' c' : Int} {xs ys : List Nat} : Fair (sumR f r c xs r' c' ys) := fair_orR fair_told
theorem fair_tr {r c : Int} {xs : List Nat} : Fair (trR r c xs) := fair_orR fair_ok
theorem fair_mirror {r c : Int} {xs : List Nat} : Fair (mirrorR r c xs) := fair_orR fair_ok
theorem fair_mean {r c : Int} {xs : List Nat} : Fair (meanR r c xs) := fair_orR fair_told
/-! ## A matrix times a list -/
def mvG (r c : Int) (xs ys : List Nat) : List Nat := (List.range r.toNat).map fun (i : Nat) => dotL (rowL c xs i) ys
theorem length_mvG {r c : Int} {xs ys : List Nat} : (mvG r c xs ys).length = r.toNat := by simp [mvG]
theorem take_mvG {r c : Int} {xs ys : List Nat} {k : Nat} (hk : k < r.toNat) : (mvG r c xs ys).take (k + 1) = (mvG r c xs ys).take k ++ [dotL (rowL c xs k) ys] := by
  rw [take_snoc 0 (by rw [length_mvG]; exact hk)]
  congr 2
  simp [mvG, List.getD, hk]
def mvE (r c : Int) (xs ys : List Nat) : Int := fstE [chk r c xs, lchk ys, whenE (c != (ys.length : Int)) 3]
def toldL (xs : List Nat) : LR := if xs.all finB = false then badL 5 else ⟨xs, 0⟩
def mvR (r c : Int) (xs ys : List Nat) : LR := orL (mvE r c xs ys) (toldL (mvG r c xs ys))
theorem mvE_good {r c : Int} {xs ys : List Nat} (h : mvE r c xs ys = 0) : Good r c xs ∧ c = (ys.length : Int) ∧ xs.all finB = true ∧ ys.all finB = true := by
  unfold mvE at h
  rw [fst3, whenE_zero (by decide)] at h
  obtain ⟨h1, h2, h3⟩ := h
  have h1 := chk_zero.1 h1
  have h2 := lchk_zero.1 h2
  simp at h3
  exact ⟨h1.1, h3, h1.2, h2.2⟩
theorem fairL_toldL {xs : List Nat} : FairL (toldL xs) := by
  unfold toldL
  split
  · exact fun _ => rfl
  · exact fun h => (h rfl).elim

/-! ## What the laws ask -/
theorem dead_told {x y : MR} {b : Bool} (h : (!toldB x y || b) = true) (hT : toldB x y = true) (hb : b = false) : False := by rw [hT, hb] at h; cases h
theorem dead_told1 {x y : MR} (h : (!toldB x y) = true) (hT : toldB x y = true) : False := by rw [hT] at h; cases h
theorem fst_pre2 {a b w : Int} (h : fstE [a, b] ≠ 0) : fstE [a, b, w] = fstE [a, b] := by
  by_cases ha : a = 0
  · subst ha
    by_cases hb : b = 0
    · subst hb; exact (h rfl).elim
    · simp [fstE, hb]
  · simp [fstE, ha]
theorem orR_bad {e : Int} {x : MR} (h : e ≠ 0) : orR e x = badM e := if_neg h
/-- Where the law's first look finds an error. -/
theorem told_bad {x y : MR} (hx : x = badM y.e) (h : y.e ≠ 0) : toldB x y = true := told_same (fun _ => by rw [hx]; rfl) (by rw [hx]; rfl) (fun h0 => (h (by rw [hx] at h0; exact h0)).elim)
theorem list_bad {x y : LR} (hx : x = badL y.e) (h : y.e ≠ 0) : listB x y = true := list_same (fun _ => by rw [hx]; rfl) (by rw [hx]; rfl) (fun h0 => (h (by rw [hx] at h0; exact h0)).elim)
theorem mul_bad {r c r' c' : Int} {xs ys : List Nat} (h : fstE [chk r c xs, chk r' c' ys] ≠ 0) : mulR r c xs r' c' ys = badM (fstE [chk r c xs, chk r' c' ys]) := by
  unfold mulR mulE
  rw [fst_pre2 h, orR_bad h]
theorem sand_bad {r c r' c' : Int} {xs ys : List Nat} (h : fstE [chk r c xs, chk r' c' ys] ≠ 0) : sandR r c xs r' c' ys = badM (fstE [chk r c xs, chk r' c' ys]) := by
  unfold sandR sandE
  rw [fst_pre2 h, orR_bad h]
theorem sum_bad {f : Nat → Nat → Nat} {r c r' c' : Int} {xs ys : List Nat} (h : fstE [chk r c xs, chk r' c' ys] ≠ 0) : sumR f r c xs r' c' ys = badM (fstE [chk r c xs, chk r' c' ys]) := by
  unfold sumR alikeE
  rw [fst_pre2 h, orR_bad h]
theorem mv_yes {r c : Int} {xs ys : List Nat} (h : mvE r c xs ys = 0) : listB (mvR r c xs ys) ⟨mvG r c xs ys, whenE (!(mvG r c xs ys).all finB) 5⟩ = true := by
  have e : mvR r c xs ys = toldL (mvG r c xs ys) := if_pos h
  rw [e]
  refine list_same fairL_toldL ?_ ?_
  · unfold toldL; cases (mvG r c xs ys).all finB <;> rfl
  · unfold toldL; cases (mvG r c xs ys).all finB <;> intro h <;> first | (cases h; done) | rfl
theorem mv_no {r c : Int} {xs ys : List Nat} (h : mvE r c xs ys ≠ 0) : listB (mvR r c xs ys) ⟨[], mvE r c xs ys⟩ = true := list_bad (if_neg h) h
end Go.Bn
namespace Go.Bn
open Go

theorem lpE : Ieee.double.leastPlace = -1074 := by decide +kernel
theorem fbE : Ieee.double.fractionBits = 52 := rfl
theorem log2_shift {n k : Nat} (h : n ≠ 0) : (n <<< k).log2 = n.log2 + k := by
  rw [Nat.shiftLeft_eq]
  refine (Nat.log2_eq_iff (by have := Nat.two_pow_pos k; exact Nat.mul_ne_zero h (by omega))).2 ⟨?_, ?_⟩
  · rw [Nat.pow_add]; exact Nat.mul_le_mul_right _ (Nat.log2_self_le h)
  · rw [show n.log2 + k + 1 = (n.log2 + 1) + k by omega, Nat.pow_add]
    exact Nat.mul_lt_mul_of_pos_right (Nat.lt_log2_self) (Nat.two_pow_pos k)
theorem shift_ne {n k : Nat} (h : n ≠ 0) : n <<< k ≠ 0 := by
  rw [Nat.shiftLeft_eq]
  have := Nat.two_pow_pos k
  exact Nat.mul_ne_zero h (by omega)
theorem cut_scale {neg : Bool} {n d k : Nat} (h : n ≠ 0) : Ieee.Toward.even.cut neg (n <<< k) (d + k) = Ieee.Toward.even.cut neg n d := by
  unfold Ieee.Toward.cut
  simp only [log2_shift h]
  rw [show min (d + k) (n.log2 + k + 2) = min d (n.log2 + 2) + k by omega]
  generalize min d (n.log2 + 2) = g
  have e1 : 1 <<< (g + k) = (1 <<< g) * 2 ^ k := by rw [Nat.shiftLeft_eq, Nat.shiftLeft_eq, Nat.pow_add]; simp
  have e2 : n <<< k = n * 2 ^ k := Nat.shiftLeft_eq _ _
  rw [e1, e2]
  generalize hG : 1 <<< g = G
  have hk := Nat.two_pow_pos k
  rw [Nat.mul_div_mul_right _ _ hk, Nat.mul_mod_mul_right]
  generalize hK : 2 ^ k = K at *
  have h1 : decide (G * K < 2 * (n % G * K)) = decide (G < 2 * (n % G)) := by
    rw [← Nat.mul_assoc]
    exact decide_eq_decide.2 (Nat.mul_lt_mul_right hk)
  have h2 : (G * K == 2 * (n % G * K)) = (G == 2 * (n % G)) := by
    rw [← Nat.mul_assoc, Bool.eq_iff_iff, beq_iff_eq, beq_iff_eq]
    exact Nat.mul_right_cancel_iff hk
  simp only [h1, h2]
theorem cut_zero {neg : Bool} {n : Nat} : Ieee.Toward.even.cut neg n 0 = n := by
  unfold Ieee.Toward.cut
  simp [Nat.mod_one]
theorem cut_exact {neg : Bool} {n d : Nat} (h : n ≠ 0) : Ieee.Toward.even.cut neg (n <<< d) d = n := by
  have := @cut_scale neg n 0 d h
  rw [Nat.zero_add] at this
  rw [this, cut_zero]
/-- What a number is rounded to hangs on its value alone. -/
theorem nearest_scale {s : Bool} {n k : Nat} {p : Int} : Ieee.double.nearest s (n <<< k) (p - k) = Ieee.double.nearest s n p := by
  by_cases h : n = 0
  · subst h; simp [Ieee.Format.nearest]
  unfold Ieee.Format.nearest
  rw [if_neg h, if_neg (shift_ne h)]
  simp only [log2_shift h]
  rw [show p - (k : Int) + ((n.log2 + k : Nat) : Int) - (Ieee.double.fractionBits : Int) = p + (n.log2 : Int) - (Ieee.double.fractionBits : Int) by omega]
  generalize max (p + (n.log2 : Int) - (Ieee.double.fractionBits : Int)) Ieee.double.leastPlace = last
  suffices hc : Ieee.Toward.even.cut s ((n <<< k) <<< (p - k - last).toNat) (last - (p - k)).toNat = Ieee.Toward.even.cut s (n <<< (p - last).toNat) (last - p).toNat by rw [hc]
  by_cases h1 : (k : Int) ≤ p - last
  · rw [show (last - (p - k)).toNat = 0 by omega, show (last - p).toNat = 0 by omega, ← Nat.shiftLeft_add]
    congr 2; omega
  · by_cases h2 : 0 ≤ p - last
    · rw [show (p - k - last).toNat = 0 by omega, show (last - p).toNat = 0 by omega, Nat.shiftLeft_zero]
      have e : n <<< k = (n <<< (p - last).toNat) <<< (k - (p - last).toNat) := by rw [← Nat.shiftLeft_add]; congr 1; omega
      rw [e, show (last - (p - k)).toNat = 0 + (k - (p - last).toNat) by omega, cut_scale (shift_ne h)]
    · rw [show (p - k - last).toNat = 0 by omega, show (p - last).toNat = 0 by omega, Nat.shiftLeft_zero, Nat.shiftLeft_zero, show (last - (p - k)).toNat = (last - p).toNat + k by omega, cut_scale h]
theorem nearest_eq {s : Bool} {n m : Nat} {p q : Int} (h : (n : Nat) * 2 ^ (p - min p q).toNat = m * 2 ^ (q - min p q).toNat) : Ieee.double.nearest s n p = Ieee.double.nearest s m q := by
  have h1 := @nearest_scale s n (p - min p q).toNat p
  have h2 := @nearest_scale s m (q - min p q).toNat q
  rw [Nat.shiftLeft_eq] at h1 h2
  rw [← h1, ← h2, h, show p - ((p - min p q).toNat : Int) = q - ((q - min p q).toNat : Int) by omega]
/-! ## Finite words -/
def sgn (w : Nat) : Bool := w / 9223372036854775808 % 2 == 1
def rung (w : Nat) : Nat := w % 9223372036854775808
/-- What a finite word stands for: digits and place. -/
def mgn (w : Nat) : Nat := if rung w < 4503599627370496 then rung w else 4503599627370496 + rung w % 4503599627370496
def plc (w : Nat) : Int := if rung w < 4503599627370496 then -1074 else -1074 + (rung w / 4503599627370496 - 1 : Nat)
/-- The value, in units of the least place. -/
def vlu (w : Nat) : Nat := mgn w * 2 ^ (plc w + 1074).toNat
theorem finB_iff {w : Nat} (hw : w < 2 ^ 64) : finB w = true ↔ rung w < 9218868437227405312 := by
  unfold finB rung expo
  simp only [decide_eq_true_eq]
  omega
theorem read_fin {w : Nat} (h : rung w < 9218868437227405312) : Ieee.double.read w = .number (sgn w) (mgn w) (plc w) := by
  unfold Ieee.Format.read mgn plc sgn rung at *
  simp only [signW, binA, infR, lpE]
  split
  · rfl
  · first | rfl | rw [if_pos h]
theorem word_eq {w : Nat} (hw : w < 2 ^ 64) : Ieee.double.word (sgn w) (rung w) = w := by
  unfold Ieee.Format.word sgn rung
  rw [signW]
  have h1 : w / 9223372036854775808 < 2 := by omega
  cases h : (w / 9223372036854775808 % 2 == 1)
  · simp at h ⊢; omega
  · simp at h ⊢; omega
theorem log2_52 {f : Nat} (h : f < 4503599627370496) : (4503599627370496 + f).log2 = 52 := (Nat.log2_eq_iff (by omega)).2 ⟨by omega, by omega⟩
/-- A finite word is what its number is rounded to. -/
theorem nearest_read {w : Nat} (hw : w < 2 ^ 64) (h : rung w < 9218868437227405312) : Ieee.double.nearest (sgn w) (mgn w) (plc w) = w := by
  conv => rhs; rw [← word_eq hw]
  unfold Ieee.Format.nearest
  simp only [lpE, fbE, binA, infR]
  by_cases h1 : rung w < 4503599627370496
  · have e1 : mgn w = rung w := by unfold mgn; rw [if_pos h1]
    have e2 : plc w = -1074 := by unfold plc; rw [if_pos h1]
    rw [e1, e2]
    by_cases h0 : rung w = 0
    · rw [if_pos h0, h0]
    · rw [if_neg h0]
      have hl : (rung w).log2 < 52 := by rw [Nat.log2_lt h0]; omega
      rw [show max (-1074 + ((rung w).log2 : Int) - ((52 : Nat) : Int)) (-1074 : Int) = -1074 by omega]
      simp [cut_zero]
      congr 1
      omega
  · have hf : rung w % 4503599627370496 < 4503599627370496 := Nat.mod_lt _ (by omega)
    have e1 : mgn w = 4503599627370496 + rung w % 4503599627370496 := by unfold mgn; rw [if_neg h1]
    have e2 : plc w = -1074 + (rung w / 4503599627370496 - 1 : Nat) := by unfold plc; rw [if_neg h1]
    rw [e1, e2, if_neg (by omega), log2_52 hf]
    generalize hq : rung w / 4503599627370496 - 1 = q
    rw [show max (-1074 + (q : Int) + ((52 : Nat) : Int) - ((52 : Nat) : Int)) (-1074 : Int) = -1074 + (q : Int) by omega]
    rw [show (-1074 + (q : Int) - (-1074 + (q : Int))).toNat = 0 by omega, Nat.shiftLeft_zero, cut_zero, show (-1074 + (q : Int) - -1074).toNat = q by omega]
    congr 1
    omega
theorem plc_ge (w : Nat) : -1074 ≤ plc w := by unfold plc; split <;> omega
theorem mgn_lt (w : Nat) : mgn w < 9007199254740992 := by
  unfold mgn
  have := Nat.mod_lt (rung w) (show 0 < 4503599627370496 by omega)
  split <;> omega
theorem nearest_vlu {w : Nat} (hw : w < 2 ^ 64) (h : rung w < 9218868437227405312) : Ieee.double.nearest (sgn w) (vlu w) (-1074) = w := by
  conv => rhs; rw [← nearest_read hw h]
  apply nearest_eq
  have := plc_ge w
  rw [show min (-1074 : Int) (plc w) = -1074 by omega]
  simp [vlu]
theorem word_parts {s : Bool} {r : Nat} (h : r ≤ 9218868437227405312) : sgn (Ieee.double.word s r) = s ∧ rung (Ieee.double.word s r) = r ∧ Ieee.double.word s r < 2 ^ 64 := by
  unfold Ieee.Format.word sgn rung
  rw [signW]
  cases s
  · simp; omega
  · simp; omega
theorem nearest_few0 {s : Bool} {a j : Nat} (ha : a < 9007199254740992) (h0 : a ≠ 0) : ∃ t K, Ieee.double.nearest s (a * 2 ^ j) (-1074) = Ieee.double.word s (min (t * 4503599627370496 + K) 9218868437227405312) ∧ K < 9007199254740992 ∧ (t = 0 ∨ 4503599627370496 ≤ K) ∧ K * 2 ^ t = a * 2 ^ j := by
  have hv0 : a * 2 ^ j ≠ 0 := by have := Nat.two_pow_pos j; exact Nat.mul_ne_zero h0 (by omega)
  have hla : a.log2 ≤ 52 := by have := (Nat.log2_lt h0 (k := 53)).2 (by omega); omega
  have hlog : (a * 2 ^ j).log2 = a.log2 + j := by rw [← Nat.shiftLeft_eq]; exact log2_shift h0
  have htj : a.log2 + j - 52 ≤ j := by omega
  refine ⟨a.log2 + j - 52, a * 2 ^ (j - (a.log2 + j - 52)), ?_, ?_, ?_, ?_⟩
  · unfold Ieee.Format.nearest
    simp only [lpE, fbE, binA, infR]
    rw [if_neg hv0, hlog]
    generalize ht : a.log2 + j - 52 = t at htj ⊢
    have hlast : max (-1074 + ((a.log2 + j : Nat) : Int) - ((52 : Nat) : Int)) (-1074 : Int) = -1074 + (t : Int) := by omega
    rw [hlast, show (-1074 - (-1074 + (t : Int))).toNat = 0 by omega, Nat.shiftLeft_zero, show (-1074 + (t : Int) - -1074).toNat = t by omega]
    have e : a * 2 ^ j = (a * 2 ^ (j - t)) <<< t := by rw [Nat.shiftLeft_eq, Nat.mul_assoc, ← Nat.pow_add]; congr 2; omega
    rw [e, cut_exact (by have := Nat.two_pow_pos (j - t); exact Nat.mul_ne_zero h0 (by omega))]
  · generalize ht : a.log2 + j - 52 = t at htj ⊢
    have h1 : (a * 2 ^ (j - t)).log2 ≤ 52 := by rw [← Nat.shiftLeft_eq, log2_shift h0]; omega
    have h2 := Nat.lt_log2_self (n := a * 2 ^ (j - t))
    have h3 : 2 ^ ((a * 2 ^ (j - t)).log2 + 1) ≤ 2 ^ 53 := Nat.pow_le_pow_right (by omega) (by omega)
    exact Nat.lt_of_lt_of_le h2 h3
  · rcases Nat.eq_zero_or_pos (a.log2 + j - 52) with h | h
    · exact .inl h
    · right
      generalize ht : a.log2 + j - 52 = t at htj h ⊢
      have h1 : (a * 2 ^ (j - t)).log2 = 52 := by rw [← Nat.shiftLeft_eq, log2_shift h0]; omega
      have h2 := Nat.log2_self_le (n := a * 2 ^ (j - t)) (by have := Nat.two_pow_pos (j - t); exact Nat.mul_ne_zero h0 (by omega))
      rw [h1] at h2
      exact h2
  · rw [Nat.mul_assoc, ← Nat.pow_add]; congr 2; omega
/-- A value of few digits: exact, or beyond all finite ones. -/
theorem nearest_few {s : Bool} {a j : Nat} (ha : a < 9007199254740992) (w : Nat) (hw : Ieee.double.nearest s (a * 2 ^ j) (-1074) = w) :
    w < 2 ^ 64 ∧ sgn w = s ∧ (rung w = 9218868437227405312 ∨ (rung w < 9218868437227405312 ∧ vlu w = a * 2 ^ j)) := by
  by_cases h0 : a = 0
  · subst h0
    rw [Nat.zero_mul] at hw ⊢
    obtain ⟨h1, h2, h3⟩ := @word_parts s 0 (by omega)
    have e : Ieee.double.nearest s 0 (-1074) = Ieee.double.word s 0 := by simp [Ieee.Format.nearest]
    rw [e] at hw
    rw [hw] at h1 h2 h3
    exact ⟨h3, h1, .inr ⟨by omega, by simp [vlu, mgn, h2]⟩⟩
  obtain ⟨t, K, h, hK, ht, hv⟩ := @nearest_few0 s a j ha h0
  rw [hw] at h
  obtain ⟨h1, h2, h3⟩ := @word_parts s (min (t * 4503599627370496 + K) 9218868437227405312) (Nat.min_le_right ..)
  rw [← h] at h1 h2 h3
  refine ⟨h3, h1, ?_⟩
  clear h hw h1 h3
  by_cases hb : 9218868437227405312 ≤ t * 4503599627370496 + K
  · exact .inl (by rw [h2]; exact Nat.min_eq_right hb)
  · right
    have hr : rung w = t * 4503599627370496 + K := by rw [h2]; exact Nat.min_eq_left (by omega)
    refine ⟨by omega, ?_⟩
    rw [← hv]
    unfold vlu mgn plc
    rw [hr]
    by_cases hs : t * 4503599627370496 + K < 4503599627370496
    · rw [if_pos hs, if_pos hs]
      have : t = 0 := by omega
      subst this
      simp
    · rw [if_neg hs, if_neg hs]
      have hKlow : 4503599627370496 ≤ K := by omega
      have e1 : (t * 4503599627370496 + K) % 4503599627370496 = K - 4503599627370496 := by omega
      have e2 : (t * 4503599627370496 + K) / 4503599627370496 - 1 = t := by omega
      rw [e1, e2, show 4503599627370496 + (K - 4503599627370496) = K by omega, show (-1074 + (t : Int) + 1074).toNat = t by omega]
/-- A finite word by its sign and its value. -/
theorem fin_ext {v w : Nat} (hv : v < 2 ^ 64) (hw : w < 2 ^ 64) (fv : rung v < 9218868437227405312) (fw : rung w < 9218868437227405312) (hs : sgn v = sgn w) (h : vlu v = vlu w) : v = w := by
  rw [← nearest_vlu hv fv, ← nearest_vlu hw fw, hs, h]

/-! ## The operations -/
theorem read_inf {w : Nat} (h : rung w = 9218868437227405312) : Ieee.double.read w = .infinity (sgn w) := by
  unfold Ieee.Format.read sgn rung at *
  simp only [signW, binA, infR, h]
  rfl
theorem inf_not_fin {w : Nat} (hw : w < 2 ^ 64) (h : rung w = 9218868437227405312) : finB w = false := by
  cases hf : finB w
  · rfl
  · have := (finB_iff hw).1 hf; omega
theorem read_two : Ieee.double.read TWO = .number false 4503599627370496 (-51) := by decide +kernel
theorem sum_self {s : Bool} {m : Nat} {e : Int} : (Ieee.Datum.number s m e).sum (.number s m e) = some (.number s (m * 2) e) := by
  simp only [Ieee.Datum.sum, Ieee.signed]
  cases s
  · simp
    refine ⟨fun h => ?_, by omega⟩
    omega
  · simp
    omega
theorem fadd_self {x : Nat} (h : rung x < 9218868437227405312) : fadd x x = Ieee.double.nearest (sgn x) (mgn x * 2) (plc x) := by
  unfold fadd Ieee.Format.add
  rw [read_fin h, sum_self]
  rfl
theorem fdiv_two {y : Nat} (h : rung y < 9218868437227405312) : fdiv y TWO = Ieee.double.nearest (sgn y) (mgn y) (plc y - 1) := by
  unfold fdiv Ieee.Format.div
  rw [read_fin h, read_two]
  simp only [Ieee.Datum.quotient]
  have hn : Nat.log2 4503599627370496 = 52 := by decide +kernel
  have hm : (mgn y).log2 ≤ 52 := by
    by_cases h0 : mgn y = 0
    · rw [h0]; decide
    · have := (Nat.log2_lt h0 (k := 53)).2 (mgn_lt y); omega
  rw [if_neg (by decide), hn, fbE]
  generalize hmo : 52 + 2 + 52 - (mgn y).log2 = more
  have e : mgn y <<< more = (mgn y * 2 ^ (more - 52)) * 4503599627370496 := by
    rw [Nat.shiftLeft_eq, show (4503599627370496 : Nat) = 2 ^ 52 by decide, Nat.mul_assoc, ← Nat.pow_add]; congr 2; omega
  rw [e, Nat.mul_div_cancel _ (by omega), Nat.mul_mod_left]
  simp only [Option.map_some, fop, Ieee.Format.write, bne_self_eq_false, Bool.toNat_false, Nat.add_zero, Bool.xor_false]
  rw [← @nearest_scale (sgn y) (mgn y) (more - 51) (plc y - 1)]
  show Ieee.double.nearest _ _ _ = _
  congr 1
  · rw [Nat.shiftLeft_eq, show more - 51 = (more - 52) + 1 by omega, Nat.pow_succ, Nat.mul_comm 2 (mgn y * _), Nat.mul_assoc]
  · omega
theorem half_inf {y : Nat} (h : rung y = 9218868437227405312) : finB (fdiv y TWO) = false := by
  unfold fdiv Ieee.Format.div
  rw [read_inf h, read_two]
  cases sgn y <;> decide +kernel
/-- A number added to itself and halved: itself, if the answer is finite. -/
theorem half_self {x : Nat} (hx : x < 2 ^ 64) (hf : finB x = true) (h : finB (fdiv (fadd x x) TWO) = true) : fdiv (fadd x x) TWO = x := by
  have hr := (finB_iff hx).1 hf
  have hp := plc_ge x
  have e1 : fadd x x = Ieee.double.nearest (sgn x) (mgn x * 2 ^ ((plc x + 1074).toNat + 1)) (-1074) := by
    rw [fadd_self hr]
    apply nearest_eq
    rw [show min (plc x) (-1074 : Int) = -1074 by omega]
    rw [Nat.pow_succ, Nat.mul_assoc, Nat.mul_comm 2, ← Nat.mul_assoc, ← Nat.mul_assoc]
    rw [show (-1074 - -1074 : Int).toNat = 0 by decide, Nat.pow_zero, Nat.mul_one, show (plc x - -1074).toNat = (plc x + 1074).toNat by omega]
  obtain ⟨h1, h2, h3⟩ := nearest_few (s := sgn x) (j := (plc x + 1074).toNat + 1) (mgn_lt x) (fadd x x) e1.symm
  rcases h3 with h3 | ⟨h3, h4⟩
  · rw [half_inf h3] at h; cases h
  · rw [fdiv_two h3, h2]
    conv => rhs; rw [← nearest_vlu hx hr]
    apply nearest_eq
    have hq := plc_ge (fadd x x)
    have h5 : mgn (fadd x x) * 2 ^ (plc (fadd x x) + 1074).toNat = vlu x * 2 := by
      show vlu (fadd x x) = _
      rw [h4]
      unfold vlu
      rw [Nat.pow_succ, ← Nat.mul_assoc]
    by_cases hc : plc (fadd x x) = -1074
    · rw [hc] at h5 ⊢
      rw [show min (-1074 - 1 : Int) (-1074) = -1075 by decide, show (-1074 - 1 - -1075 : Int).toNat = 0 by decide, show (-1074 - -1075 : Int).toNat = 1 by decide]
      simpa using h5
    · rw [show min (plc (fadd x x) - 1) (-1074 : Int) = -1074 by omega]
      rw [show (plc (fadd x x) + 1074).toNat = (plc (fadd x x) - 1 - -1074).toNat + 1 by omega, Nat.pow_succ, ← Nat.mul_assoc] at h5
      have := Nat.eq_of_mul_eq_mul_right (by omega : 0 < 2) h5
      rw [this]
      simp
end Go.Bn
namespace Go.Bn
open Go
def symB (r c : Int) (xs : List Nat) : Bool := decide (chk r c xs = 0) && decide (r = c) && decide (∀ i, i < r.toNat → ∀ j, j < i → mat c xs (i : Nat) (j : Nat) = mat c xs (j : Nat) (i : Nat))
theorem symB_iff {r c : Int} {xs : List Nat} : symB r c xs = true ↔ chk r c xs = 0 ∧ r = c ∧ ∀ i j : Int, 0 ≤ j → j < i → i < r → mat c xs i j = mat c xs j i := by
  unfold symB
  rw [Bool.and_eq_true, Bool.and_eq_true, decide_eq_true_eq, decide_eq_true_eq, decide_eq_true_eq, and_assoc]
  refine and_congr_right fun _ => and_congr_right fun _ => ⟨fun h i j h1 h2 h3 => ?_, fun h i hi j hj => h i j (by omega) (by omega) (by omega)⟩
  have := h i.toNat (by omega) j.toNat (by omega)
  rw [show ((i.toNat : Nat) : Int) = i by omega, show ((j.toNat : Nat) : Int) = j by omega] at this
  exact this
theorem sym_no1 {r c : Int} {xs : List Nat} (h : ¬ chk r c xs = 0 ∨ ¬ r = c) : symB r c xs = false := by
  cases hs : symB r c xs
  · rfl
  · obtain ⟨h1, h2, _⟩ := symB_iff.1 hs
    rcases h with h | h
    · exact (h h1).elim
    · exact (h h2).elim
theorem sym_no2 {r c i j : Int} {xs : List Nat} (h1 : 0 ≤ j) (h2 : j < i) (h3 : i < r) (h : ¬ mat c xs i j = mat c xs j i) : symB r c xs = false := by
  cases hs : symB r c xs
  · rfl
  · obtain ⟨_, _, h4⟩ := symB_iff.1 hs
    exact (h (h4 i j h1 h2 h3)).elim
/-- All below row i, and in row i below column j. -/
def SymTo (c : Int) (xs : List Nat) (i j : Nat) : Prop := ∀ a b : Nat, b < a → (a < i ∨ (a = i ∧ b < j)) → mat c xs a b = mat c xs b a
theorem symTo_zero {c : Int} {xs : List Nat} : SymTo c xs 0 0 := fun a b h1 h2 => by omega
theorem symTo_step {c : Int} {xs : List Nat} {i j : Nat} (h : SymTo c xs i j) (he : mat c xs (i : Nat) (j : Nat) = mat c xs (j : Nat) (i : Nat)) : SymTo c xs i (j + 1) := fun a b h1 h2 => by
  by_cases hab : a = i ∧ b = j
  · rw [hab.1, hab.2]; exact he
  · exact h a b h1 (by omega)
theorem symTo_row {c : Int} {xs : List Nat} {i q : Nat} (hq : q = i) (h : SymTo c xs i q) : SymTo c xs (i + 1) 0 := fun a b h1 h2 => h a b h1 (by omega)
theorem sym_yes {r c : Int} {xs : List Nat} {k : Nat} (h1 : chk r c xs = 0) (h2 : r = c) (hk : r.toNat ≤ k) (h : SymTo c xs k 0) : symB r c xs = true := by
  refine symB_iff.2 ⟨h1, h2, fun i j g1 g2 g3 => ?_⟩
  have := h i.toNat j.toNat (by omega) (by omega)
  rw [show ((i.toNat : Nat) : Int) = i by omega, show ((j.toNat : Nat) : Int) = j by omega] at this
  exact this
theorem sym_mir {n : Int} {g : Int → Int → Nat} (hs : Siz n n) (hf : (mirR n g).all finB = true) : symB n n (mirR n g) = true := by
  refine symB_iff.2 ⟨chk_zero.2 ⟨good_mir hs, hf⟩, rfl, fun i j h1 h2 h3 => ?_⟩
  have e1 : mat n (mirR n g) i j = _ := mat_grid (by omega) h3 h1 (by omega)
  have e2 : mat n (mirR n g) j i = _ := mat_grid h1 (by omega) (by omega) h3
  rw [e1, e2, if_pos (by omega), if_neg (by omega)]
theorem sym_told {n : Int} {g : Int → Int → Nat} (hs : Siz n n) (h : (toldR n n (mirR n g)).e = 0) : symB (toldR n n (mirR n g)).r (toldR n n (mirR n g)).c (toldR n n (mirR n g)).a = true := by
  unfold toldR at h ⊢
  cases hf : (mirR n g).all finB
  · rw [hf] at h; cases h
  · rw [if_neg (by simp)]
    exact sym_mir hs hf
theorem orR_zero {e : Int} {x : MR} (h : (orR e x).e = 0) : e = 0 ∧ orR e x = x := by
  unfold orR at h ⊢
  by_cases he : e = 0
  · exact ⟨he, if_pos he⟩
  · rw [if_neg he] at h; exact (he h).elim
theorem sym_sand {r c r' c' : Int} {xs ys : List Nat} (h : (sandR r c xs r' c' ys).e = 0) : symB (sandR r c xs r' c' ys).r (sandR r c xs r' c' ys).c (sandR r c xs r' c' ys).a = true := by
  obtain ⟨h1, h2⟩ := orR_zero (show (orR _ _).e = 0 from h)
  obtain ⟨hg, _⟩ := sandE_good h1
  have e : sandR r c xs r' c' ys = toldR r r (sandG r c xs ys) := h2
  rw [e] at h ⊢
  exact sym_told hg.1.sq h
theorem sym_mean {r c : Int} {xs : List Nat} (h : (meanR r c xs).e = 0) : symB (meanR r c xs).r (meanR r c xs).c (meanR r c xs).a = true := by
  obtain ⟨h1, h2⟩ := orR_zero (show (orR _ _).e = 0 from h)
  obtain ⟨hg, _⟩ := sqE_good h1
  have e : meanR r c xs = toldR r r (mirR r (meanF r c xs)) := h2
  rw [e] at h ⊢
  exact sym_told hg.1 h
theorem mirror_ok {r c : Int} {xs : List Nat} (h : (mirrorR r c xs).e = 0) : Good r r xs ∧ c = r ∧ xs.all finB = true ∧ mirrorR r c xs = ⟨r, r, mirR r (mat c xs), 0⟩ := by
  obtain ⟨h1, h2⟩ := orR_zero (show (orR _ _).e = 0 from h)
  obtain ⟨hg, hc, hf⟩ := sqE_good h1
  exact ⟨hg, hc, hf, h2⟩
theorem all_mir {n : Int} {xs : List Nat} {p : Nat → Bool} (hg : Good n n xs) (h : xs.all p = true) : (mirR n (mat n xs)).all p = true := by
  rw [all_good hg] at h
  refine all_grid.2 fun i j hp => ?_
  show p (if j ≤ i then mat n xs i j else mat n xs j i) = true
  split
  · exact h i j hp
  · exact h j i ⟨hp.2.2.1, hp.2.2.2, hp.1, hp.2.1⟩
theorem sym_mirror {r c : Int} {xs : List Nat} (h : (mirrorR r c xs).e = 0) : symB (mirrorR r c xs).r (mirrorR r c xs).c (mirrorR r c xs).a = true := by
  obtain ⟨hg, hc, hf, e⟩ := mirror_ok h
  subst hc
  rw [e]
  exact sym_mir hg.1 (all_mir hg hf)
/-- What is symmetric stays. -/
theorem mir_sym {n : Int} {xs : List Nat} (h : symB n n xs = true) : mirR n (mat n xs) = xs := by
  obtain ⟨h1, _, h3⟩ := symB_iff.1 h
  have hg := chk_good h1
  conv => rhs; rw [← grid_mat hg.1.1 hg.1.1 hg.2]
  refine grid_congr fun i j g1 g2 g3 g4 => ?_
  show (if j ≤ i then mat n xs i j else mat n xs j i) = _
  split
  · rfl
  · exact h3 j i g1 (by omega) g4
theorem sqE_ok {n : Int} {xs : List Nat} (h : chk n n xs = 0) : sqE n n xs = 0 := fst2.2 ⟨h, by simp [whenE]⟩
theorem mirror_sym {n : Int} {xs : List Nat} (h : symB n n xs = true) : mirrorR n n xs = ⟨n, n, xs, 0⟩ := by
  obtain ⟨h1, _, h3⟩ := symB_iff.1 h
  have e : mirrorR n n xs = ⟨n, n, mirR n (mat n xs), 0⟩ := if_pos (sqE_ok h1)
  rw [e, mir_sym h]
theorem mean_sym {n : Int} {xs : List Nat} (hw : xs.all (fun x => decide (x < 2 ^ 64)) = true) (h : symB n n xs = true) (he : (meanR n n xs).e = 0) : meanR n n xs = ⟨n, n, xs, 0⟩ := by
  obtain ⟨h1, _, h3⟩ := symB_iff.1 h
  obtain ⟨hg, hfin⟩ := chk_zero.1 h1
  have e : meanR n n xs = toldR n n (mirR n (meanF n n xs)) := if_pos (sqE_ok h1)
  rw [e] at he ⊢
  have hf : (mirR n (meanF n n xs)).all finB = true := by
    cases hf : (mirR n (meanF n n xs)).all finB
    · unfold toldR at he; rw [hf] at he; cases he
    · rfl
  have hall := all_grid.1 hf
  rw [all_good hg] at hw hfin
  have hm : mirR n (meanF n n xs) = xs := by
    conv => rhs; rw [← mir_sym h]
    refine mir_congr fun i j hl => ?_
    obtain ⟨l1, l2, l3⟩ := hl
    unfold meanF
    split
    · rfl
    · have hp : Pl n n i j := ⟨by omega, by omega, by omega, by omega⟩
      have h5 := hall i j hp
      change finB (if j ≤ i then meanF n n xs i j else meanF n n xs j i) = true at h5
      rw [if_pos (by omega)] at h5
      unfold meanF at h5
      rename_i hne
      rw [if_neg hne] at h5
      rw [← h3 i j l1 (by omega) l3] at h5 ⊢
      exact half_self (by simpa using hw i j hp) (hfin i j hp) h5
  rw [hm]
  unfold toldR
  rw [if_neg (by rw [hm] at hf; simp [hf])]
theorem all_cn {bs : List Nat} (h : ∀ b, b ∈ bs → b < 2 ^ 64) : (bs.map cn).all (fun x => decide (x < 2 ^ 64)) = true := by
  rw [List.all_eq_true]
  intro x hx
  obtain ⟨b, hb, rfl⟩ := List.mem_map.1 hx
  exact decide_eq_true (cn_lt (h b hb))
theorem mir_e {r c : Int} {xs : List Nat} : (mirrorR r c xs).e = sqE r c xs := by
  unfold mirrorR orR
  split
  · rename_i h; exact h.symm
  · rfl
/-! ## MatrixSymmetric -/
theorem symm_3 {r c : Int} {xs : List Nat} (h : ¬ (mirrorR r c xs).e = 0) : (cmpB .neq (chk r c xs) 0 || cmpB .neq r c) = true := by
  rw [mir_e] at h
  unfold sqE at h
  rw [fst2] at h
  by_cases h1 : chk r c xs = 0
  · by_cases h2 : r = c
    · exact (h ⟨h1, by simp [whenE, h2]⟩).elim
    · simp [cmpB, h2]
  · simp [cmpB, h1]
theorem symm_2 {x : MR} (hs : x.e = 0 → symB x.r x.c x.a = true) (h : (cmpB .eql x.e 0 && !symB x.r x.c x.a) = true) : False := by
  simp [cmpB] at h
  rw [hs h.1] at h
  cases h.2
theorem symm_4 {x y : MR} (hx : symB x.r x.c x.a = true) (hs : y.e = 0 → symB y.r y.c y.a = true) (h : (!symB x.r x.c x.a || (cmpB .eql y.e 0 && !symB y.r y.c y.a)) = true) : False := by
  rw [hx] at h
  exact symm_2 hs (by simpa using h)
theorem symm_fin {r c : Int} {xs : List Nat} {o p m : MR} (hw : xs.all (fun x => decide (x < 2 ^ 64)) = true) (hm : m = mirrorR r c xs) (he : m.e = 0) (ho : o = meanR m.r m.c m.a) (hp : p = mirrorR m.r m.c m.a) :
    ((((cmpB .neq o.e 0 || eqM o.r o.c o.a m.r m.c m.a) && cmpB .eql p.e 0) && eqM p.r p.c p.a m.r m.c m.a) && (!symB r c xs || eqM m.r m.c m.a r c xs)) = true := by
  subst hm
  have hsym := sym_mirror he
  obtain ⟨hg, hc, hf, e⟩ := mirror_ok he
  subst hc
  rw [e] at hsym ho hp ⊢
  have hp' := mirror_sym hsym
  rw [hp] at *
  simp only at hp' hsym ⊢
  rw [hp']
  have h1 : (cmpB .neq o.e 0 || eqM o.r o.c o.a c c (mirR c (mat c xs))) = true := by
    by_cases h0 : o.e = 0
    · rw [ho] at h0 ⊢
      have := mean_sym (all_mir hg hw) hsym h0
      rw [show meanR (MR.r ⟨c, c, mirR c (mat c xs), 0⟩) (MR.c ⟨c, c, mirR c (mat c xs), 0⟩) (MR.a ⟨c, c, mirR c (mat c xs), 0⟩) = _ from this]
      simp [eqM]
    · simp [cmpB, h0]
  rw [h1]
  have h2 : (!symB c c xs || eqM c c (mirR c (mat c xs)) c c xs) = true := by
    cases hs : symB c c xs
    · rfl
    · rw [mir_sym hs]; simp [eqM]
  rw [h2]
  simp [cmpB, eqM]
end Go.Bn
namespace Go.Bn
open Go
def ONE : Nat := 0x3ff0000000000000
def NEG0 : Nat := 0x8000000000000000
theorem read_one : Ieee.double.read ONE = .number false 4503599627370496 (-52) := by decide +kernel
theorem read_zero : Ieee.double.read 0 = .number false 0 (-1074) := by decide +kernel
theorem read_neg0 : Ieee.double.read NEG0 = .number true 0 (-1074) := by decide +kernel
theorem mul_shift (m : Nat) : 4503599627370496 * m = m <<< 52 := by
  rw [Nat.shiftLeft_eq, Nat.mul_comm]
theorem fmul_one {x : Nat} (hx : x < 2 ^ 64) (hf : finB x = true) : fmul ONE x = x := by
  have hr := (finB_iff hx).1 hf
  have e : fmul ONE x = Ieee.double.nearest (false ^^ sgn x) (4503599627370496 * mgn x) (-52 + plc x) := by
    unfold fmul Ieee.Format.mul
    rw [read_one, read_fin hr]
    rfl
  rw [e, mul_shift, Bool.false_xor, show (-52 + plc x) = plc x - ((52 : Nat) : Int) by omega]
  exact (@nearest_scale (sgn x) (mgn x) 52 (plc x)).trans (nearest_read hx hr)
theorem nearest_nought {s : Bool} {p : Int} : Ieee.double.nearest s 0 p = if s then NEG0 else 0 := by
  have : Ieee.double.nearest s 0 p = Ieee.double.word s 0 := by simp [Ieee.Format.nearest]
  rw [this]
  cases s <;> decide +kernel
theorem fmul_zero {x : Nat} (hx : x < 2 ^ 64) (hf : finB x = true) : fmul 0 x = 0 ∨ fmul 0 x = NEG0 := by
  have hr := (finB_iff hx).1 hf
  unfold fmul Ieee.Format.mul
  rw [read_zero, read_fin hr]
  simp only [Ieee.Datum.product, Option.map_some, Ieee.Format.write, fop, Option.getD_some, Bool.false_xor, Nat.zero_mul, nearest_nought]
  cases sgn x
  · exact .inl rfl
  · exact .inr rfl
theorem zero_add_noughts : fadd 0 0 = 0 ∧ fadd 0 NEG0 = 0 := by constructor <;> decide +kernel
/-- A number that is not nought stays, whatever nought is added. -/
theorem fadd_nought {x z : Nat} (hx : x < 2 ^ 64) (hf : finB x = true) (hz : z = 0 ∨ z = NEG0) (h0 : mgn x ≠ 0) : fadd x z = x := by
  have hr := (finB_iff hx).1 hf
  have hp := plc_ge x
  have key : ∀ t : Bool, (Ieee.Datum.number (sgn x) (mgn x) (plc x)).sum (.number t 0 (-1074)) = some (.number (sgn x) (vlu x) (-1074)) := by
    intro t
    have hv : mgn x <<< (plc x + 1074).toNat = vlu x := by rw [Nat.shiftLeft_eq]; rfl
    have hv0 : vlu x ≠ 0 := by rw [← hv]; exact shift_ne h0
    have hs1 : Ieee.signed (sgn x) (mgn x) (plc x + 1074).toNat = if sgn x then -(vlu x : Int) else (vlu x : Int) := by unfold Ieee.signed; rw [hv]
    have hs2 : Ieee.signed t 0 (-1074 - -1074 : Int).toNat = 0 := by cases t <;> rfl
    simp only [Ieee.Datum.sum, show min (plc x) (-1074 : Int) = -1074 by omega, show (plc x - -1074).toNat = (plc x + 1074).toNat by omega, hs1, hs2]
    generalize vlu x = v at hv0
    cases sgn x <;> cases t <;> simp <;> omega
  unfold fadd Ieee.Format.add
  rw [read_fin hr]
  rcases hz with rfl | rfl
  · rw [read_zero, key]; exact nearest_vlu hx hr
  · rw [read_neg0, key]; exact nearest_vlu hx hr
theorem noughts {x : Nat} (hx : x < 2 ^ 64) (hf : finB x = true) (h0 : mgn x = 0) : x = 0 ∨ x = NEG0 := by
  have hr := (finB_iff hx).1 hf
  have h := nearest_read hx hr
  rw [h0, nearest_nought] at h
  cases hs : sgn x <;> rw [hs] at h
  · exact .inl h.symm
  · exact .inr h.symm
/-- A number and +0: only the sign of a nought changes. -/
theorem plus_cases {x : Nat} (hx : x < 2 ^ 64) (hf : finB x = true) : (mgn x = 0 ∧ fadd x 0 = 0) ∨ (mgn x ≠ 0 ∧ fadd x 0 = x) := by
  by_cases h0 : mgn x = 0
  · left
    refine ⟨h0, ?_⟩
    rcases noughts hx hf h0 with rfl | rfl
    · exact zero_add_noughts.1
    · rw [fadd_comm]; exact zero_add_noughts.2
  · exact .inr ⟨h0, fadd_nought hx hf (.inl rfl) h0⟩
theorem plus_fin {x : Nat} (hx : x < 2 ^ 64) (hf : finB x = true) : fadd x 0 < 2 ^ 64 ∧ finB (fadd x 0) = true := by
  rcases plus_cases hx hf with ⟨_, h⟩ | ⟨_, h⟩ <;> rw [h]
  · exact ⟨by decide, by decide⟩
  · exact ⟨hx, hf⟩
theorem plus_nought {x z : Nat} (hx : x < 2 ^ 64) (hf : finB x = true) (hz : z = 0 ∨ z = NEG0) : fadd (fadd x 0) z = fadd x 0 := by
  rcases plus_cases hx hf with ⟨_, h⟩ | ⟨h0, h⟩
  · rw [h]
    rcases hz with rfl | rfl
    · exact zero_add_noughts.1
    · exact zero_add_noughts.2
  · rw [h]; exact fadd_nought hx hf hz h0
def unit (i k : Nat) : Nat := if k = i then ONE else 0
/-- The dot product with a unit row. -/
theorem dot_unit {n i : Nat} {us ys : List Nat} (hu : ∀ k, k < n → us.getD k 0 = unit i k) (hy : ∀ k, k < n → ys.getD k 0 < 2 ^ 64 ∧ finB (ys.getD k 0) = true) (hi : i < n) : ∀ k, k ≤ n → dotTo us ys k = if k ≤ i then 0 else fadd (ys.getD i 0) 0
  | 0, _ => by simp [dotTo]
  | k + 1, hk => by
    rw [dotTo, dot_unit hu hy hi k (by omega), hu k (by omega)]
    have h1 := hy k (by omega)
    unfold unit
    by_cases hki : k = i
    · subst hki
      rw [if_pos rfl, if_pos (Nat.le_refl _), if_neg (by omega), fmul_one h1.1 h1.2, fadd_comm]
    · rw [if_neg hki]
      have hz := fmul_zero h1.1 h1.2
      by_cases hlt : k ≤ i
      · rw [if_pos hlt, if_pos (by omega)]
        rcases hz with h | h <;> rw [h]
        · exact zero_add_noughts.1
        · exact zero_add_noughts.2
      · rw [if_neg hlt, if_neg (by omega)]
        have h2 := hy i hi
        exact plus_nought h2.1 h2.2 hz
def eyeG (n : Int) : List Nat := grid n n fun i j => if i = j then ONE else 0
def eyeR (n : Int) : MR := if sizB n = false then badM 1 else ⟨n, n, eyeG n, 0⟩
def plusL (xs : List Nat) : List Nat := xs.map fun x => fadd x 0
theorem getD_rowL {c : Int} {xs : List Nat} {i : Int} {k : Nat} (hk : k < c.toNat) : (rowL c xs i).getD k 0 = mat c xs i k := by simp [rowL, List.getD, hk]
theorem getD_colL {r c : Int} {xs : List Nat} {j : Int} {k : Nat} (hk : k < r.toNat) : (colL r c xs j).getD k 0 = mat c xs k j := by simp [colL, List.getD, hk]
theorem chk_eye {n : Int} (h : sizB n = true) : chk n n (eyeG n) = 0 := by
  have h1 := sizB_iff.1 h
  have hs : Siz n n := ⟨h1.1, h1.2, h1.1, h1.2⟩
  refine chk_zero.2 ⟨good_grid hs, all_grid.2 fun i j _ => ?_⟩
  show finB (if i = j then ONE else 0) = true
  split <;> decide
theorem plus_grid {r c : Int} {xs : List Nat} (h : Good r c xs) : grid r c (fun i j => fadd (mat c xs i j) 0) = plusL xs := by
  conv => rhs; rw [← grid_mat h.1.1 h.1.2.2.1 h.2]
  unfold plusL grid
  rw [List.map_map]
  rfl
def Nums (xs : List Nat) : Prop := xs.all (fun x => decide (x < 2 ^ 64)) = true ∧ xs.all finB = true
theorem Nums.at {r c i j : Int} {xs : List Nat} (hn : Nums xs) (hg : Good r c xs) (hp : Pl r c i j) : mat c xs i j < 2 ^ 64 ∧ finB (mat c xs i j) = true := by
  obtain ⟨h1, h2⟩ := hn
  rw [all_good hg] at h1 h2
  exact ⟨by simpa using h1 i j hp, h2 i j hp⟩
theorem mat_eye {n i j : Int} (h0 : 0 ≤ i) (h1 : i < n) (h2 : 0 ≤ j) (h3 : j < n) : mat n (eyeG n) i j = if i = j then ONE else 0 := mat_grid h0 h1 h2 h3
theorem eye_prod {r c : Int} {xs : List Nat} (hg : Good r c xs) (hn : Nums xs) : prodG r r (eyeG r) c xs = plusL xs := by
  rw [← plus_grid hg]
  refine grid_congr fun i j h1 h2 h3 h4 => ?_
  unfold dotL
  rw [length_rowL]
  rw [dot_unit (n := r.toNat) (i := i.toNat) (fun k hk => ?_) (fun k hk => ?_) (by omega) r.toNat (Nat.le_refl _), if_neg (by omega), getD_colL (by omega), show ((i.toNat : Nat) : Int) = i by omega]
  · rw [getD_rowL (by omega), mat_eye h1 h2 (by omega) (by omega)]
    unfold unit
    by_cases h : i = (k : Int)
    · rw [if_pos h, if_pos (by omega)]
    · rw [if_neg h, if_neg (by omega)]
  · rw [getD_colL hk]
    exact hn.at hg ⟨by omega, by omega, h3, h4⟩
theorem prod_eye {r c : Int} {xs : List Nat} (hg : Good r c xs) (hn : Nums xs) : prodG r c xs c (eyeG c) = plusL xs := by
  rw [← plus_grid hg]
  refine grid_congr fun i j h1 h2 h3 h4 => ?_
  unfold dotL
  rw [length_rowL, dotTo_comm]
  rw [dot_unit (n := c.toNat) (i := j.toNat) (fun k hk => ?_) (fun k hk => ?_) (by omega) c.toNat (Nat.le_refl _), if_neg (by omega), getD_rowL (by omega), show ((j.toNat : Nat) : Int) = j by omega]
  · rw [getD_colL (by omega), mat_eye (by omega) (by omega) h3 h4]
    unfold unit
    by_cases h : (k : Int) = j
    · rw [if_pos h, if_pos (by omega)]
    · rw [if_neg h, if_neg (by omega)]
  · rw [getD_rowL hk]
    exact hn.at hg ⟨h1, h2, by omega, by omega⟩
theorem nums_plus {xs : List Nat} (hn : Nums xs) : Nums (plusL xs) := by
  obtain ⟨h1, h2⟩ := hn
  rw [List.all_eq_true] at h1 h2
  constructor <;> rw [List.all_eq_true] <;> intro x hx <;> obtain ⟨y, hy, rfl⟩ := List.mem_map.1 hx <;> have := plus_fin (by simpa using h1 y hy) (h2 y hy)
  · exact decide_eq_true this.1
  · exact this.2
theorem good_plus {r c : Int} {xs : List Nat} (hg : Good r c xs) : Good r c (plusL xs) := ⟨hg.1, by unfold plusL; rw [List.length_map]; exact hg.2⟩
theorem plus_plus {xs : List Nat} (hn : Nums xs) : plusL (plusL xs) = plusL xs := by
  obtain ⟨h1, h2⟩ := hn
  rw [List.all_eq_true] at h1 h2
  unfold plusL
  rw [List.map_map]
  apply List.map_congr_left
  intro y hy
  exact plus_nought (by simpa using h1 y hy) (h2 y hy) (.inl rfl)
theorem mat_plus {r c i j : Int} {xs : List Nat} (hg : Good r c xs) (hp : Pl r c i j) : mat c (plusL xs) i j = fadd (mat c xs i j) 0 := by
  rw [← plus_grid hg]
  exact mat_grid hp.1 hp.2.1 hp.2.2.1 hp.2.2.2
/-- The places of a product with the unit matrix, row by row. -/
theorem rows_eye {n i j : Int} {xs : List Nat} (hg : Good n n xs) (hn : Nums xs) (hp : Pl n n i j) : dotL (rowL n xs i) (rowL n (eyeG n) j) = fadd (mat n xs i j) 0 := by
  obtain ⟨h1, h2, h3, h4⟩ := hp
  unfold dotL
  rw [length_rowL, dotTo_comm]
  rw [dot_unit (n := n.toNat) (i := j.toNat) (fun k hk => ?_) (fun k hk => ?_) (by omega) n.toNat (Nat.le_refl _), if_neg (by omega), getD_rowL (by omega), show ((j.toNat : Nat) : Int) = j by omega]
  · rw [getD_rowL (by omega), mat_eye h3 h4 (by omega) (by omega)]
    unfold unit
    by_cases h : j = (k : Int)
    · rw [if_pos h, if_pos (by omega)]
    · rw [if_neg h, if_neg (by omega)]
  · rw [getD_rowL hk]
    exact hn.at hg ⟨h1, h2, by omega, by omega⟩
theorem sand_eye {n : Int} {xs : List Nat} (hn : Nums xs) (h : symB n n xs = true) : sandG n n (eyeG n) xs = plusL xs := by
  obtain ⟨hc, _, hs⟩ := symB_iff.1 h
  have hg := chk_good hc
  unfold sandG
  rw [eye_prod hg hn]
  have e : mirR n (fun i j => dotL (rowL n (plusL xs) i) (rowL n (eyeG n) j)) = mirR n (mat n (plusL xs)) := mir_congr fun i j hl => by
    obtain ⟨l1, l2, l3⟩ := hl
    have hp : Pl n n i j := ⟨by omega, by omega, by omega, by omega⟩
    rw [rows_eye (good_plus hg) (nums_plus hn) hp, ← mat_plus (good_plus hg) hp, plus_plus hn]
  rw [e]
  apply mir_sym
  refine symB_iff.2 ⟨chk_zero.2 ⟨good_plus hg, (nums_plus hn).2⟩, rfl, fun i j h1 h2 h3 => ?_⟩
  rw [mat_plus hg ⟨by omega, by omega, by omega, by omega⟩, mat_plus hg ⟨by omega, by omega, by omega, by omega⟩, hs i j h1 h2 h3]
/-! ## MatrixOne -/
theorem toldR_ok {r c : Int} {xs : List Nat} (h : xs.all finB = true) : toldR r c xs = ⟨r, c, xs, 0⟩ := by unfold toldR; rw [if_neg (by simp [h])]
theorem eyeR_ok {n : Int} (h : sizB n = true) : eyeR n = ⟨n, n, eyeG n, 0⟩ := by unfold eyeR; rw [if_neg (by simp [h])]
theorem one_mul {r c : Int} {xs : List Nat} (hc : chk r c xs = 0) (hw : xs.all (fun x => decide (x < 2 ^ 64)) = true) : (eyeR r).e = 0 ∧ mulR (eyeR r).r (eyeR r).c (eyeR r).a r c xs = ⟨r, c, plusL xs, 0⟩ := by
  obtain ⟨hg, hf⟩ := chk_zero.1 hc
  have hs : sizB r = true := sizB_iff.2 ⟨hg.1.1, hg.1.2.1⟩
  rw [eyeR_ok hs]
  refine ⟨rfl, ?_⟩
  have e := rmul_yes (chk_eye hs) hc rfl
  rw [eye_prod hg ⟨hw, hf⟩] at e
  exact e.symm.trans (toldR_ok (nums_plus ⟨hw, hf⟩).2)
theorem mul_one {r c : Int} {xs : List Nat} (hc : chk r c xs = 0) (hw : xs.all (fun x => decide (x < 2 ^ 64)) = true) : (eyeR c).e = 0 ∧ mulR r c xs (eyeR c).r (eyeR c).c (eyeR c).a = ⟨r, c, plusL xs, 0⟩ := by
  obtain ⟨hg, hf⟩ := chk_zero.1 hc
  have hs : sizB c = true := sizB_iff.2 ⟨hg.1.2.2.1, hg.1.2.2.2⟩
  rw [eyeR_ok hs]
  refine ⟨rfl, ?_⟩
  have e := rmul_yes hc (chk_eye hs) rfl
  rw [prod_eye hg ⟨hw, hf⟩] at e
  exact e.symm.trans (toldR_ok (nums_plus ⟨hw, hf⟩).2)
theorem one_sand {r c : Int} {xs : List Nat} (hw : xs.all (fun x => decide (x < 2 ^ 64)) = true) (h : symB r c xs = true) : sandR (eyeR r).r (eyeR r).c (eyeR r).a r c xs = ⟨r, c, plusL xs, 0⟩ := by
  obtain ⟨hc, e, _⟩ := symB_iff.1 h
  subst e
  obtain ⟨hg, hf⟩ := chk_zero.1 hc
  have hs : sizB r = true := sizB_iff.2 ⟨hg.1.1, hg.1.2.1⟩
  rw [eyeR_ok hs]
  have e := rsand_yes (chk_eye hs) hc rfl rfl
  rw [sand_eye ⟨hw, hf⟩ h] at e
  exact e.symm.trans (toldR_ok (nums_plus ⟨hw, hf⟩).2)
theorem one_3 {r c : Int} {xs : List Nat} {one two p q : MR} (hc : chk r c xs = 0) (hw : xs.all (fun x => decide (x < 2 ^ 64)) = true) (h1 : one = eyeR r) (h2 : two = eyeR c) (h3 : p = mulR one.r one.c one.a r c xs) (h4 : q = mulR r c xs two.r two.c two.a)
    (h : (((((cmpB .neq one.e 0 || cmpB .neq two.e 0) || cmpB .neq p.e 0) || cmpB .neq q.e 0) || !eqM p.r p.c p.a r c (plusL xs)) || !eqM q.r q.c q.a r c (plusL xs)) = true) : False := by
  subst h1; subst h2
  obtain ⟨g1, g2⟩ := one_mul hc hw
  obtain ⟨g3, g4⟩ := mul_one hc hw
  rw [g2] at h3
  rw [g4] at h4
  rw [g1, g3, h3, h4] at h
  simp [cmpB, eqM] at h
theorem one_fin {r c : Int} {xs : List Nat} {s : MR} (hw : xs.all (fun x => decide (x < 2 ^ 64)) = true) (h : symB r c xs = true) (hs : s = sandR (eyeR r).r (eyeR r).c (eyeR r).a r c xs) : (cmpB .eql s.e 0 && eqM s.r s.c s.a r c (plusL xs)) = true := by
  rw [one_sand hw h] at hs
  rw [hs]
  simp [cmpB, eqM]
theorem take_plus {xs : List Nat} {k : Nat} (hk : k < xs.length) : (plusL xs).take (k + 1) = (plusL xs).take k ++ [fadd (xs.getD k 0) 0] := by
  rw [take_snoc 0 (by unfold plusL; rw [List.length_map]; exact hk)]
  congr 2
  simp [plusL, List.getD, hk]
theorem length_plus {xs : List Nat} : (plusL xs).length = xs.length := by simp [plusL]
end Go.Bn
namespace Go.Bn
open Go
theorem sum_opp {s : Bool} {m : Nat} {e : Int} : (Ieee.Datum.number s m e).sum ((Ieee.Datum.number s m e).opposite) = some (.number false 0 e) := by
  simp only [Ieee.Datum.sum, Ieee.Datum.opposite, Ieee.signed]
  cases s <;> simp <;> omega
theorem read_nan {w : Nat} (h : 9218868437227405312 < rung w) : ∃ s t, Ieee.double.read w = .nan s t := by
  unfold Ieee.Format.read
  unfold rung at h
  simp only [signW, binA, infR]
  rw [if_neg (by omega), if_neg (by omega), if_neg (by omega)]
  exact ⟨_, _, rfl⟩
theorem fsub_self {x : Nat} (hx : x < 2 ^ 64) : fsub x x = if finB x = true then 0 else NAN := by
  unfold fsub Ieee.Format.sub
  by_cases h1 : rung x < 9218868437227405312
  · rw [if_pos ((finB_iff hx).2 h1), read_fin h1, sum_opp]
    show Ieee.double.nearest false 0 (plc x) = 0
    rw [nearest_nought]; rfl
  · have hf : ¬ finB x = true := fun h => h1 ((finB_iff hx).1 h)
    rw [if_neg hf]
    by_cases h2 : rung x = 9218868437227405312
    · rw [read_inf h2]
      cases sgn x <;> rfl
    · obtain ⟨s, t, h⟩ := read_nan (show 9218868437227405312 < rung x by omega)
      rw [h]
      rfl
/-- A number less itself is not nought only if it is not finite. -/
theorem over_fin {x : Nat} (hx : x < 2 ^ 64) : fcmp .neq (fsub x x) 0 = !finB x := by
  rw [fsub_self hx]
  cases finB x <;> decide +kernel
theorem fin_not_nan {x : Nat} (h : finB x = true) : nanB x = false := by
  rw [nanB_iff]
  unfold finB expo at h
  simp only [decide_eq_true_eq] at h
  exact decide_eq_false (by omega)
def insB (r c i j : Int) : Bool := ((decide (0 ≤ i) && decide (i < r)) && decide (0 ≤ j)) && decide (j < c)
theorem insB_iff {r c i j : Int} : insB r c i j = true ↔ Pl r c i j := by
  unfold insB Pl
  simp [and_assoc]
def outB (i r : Int) : Bool := decide (i < 0) || decide (r ≤ i)
def getE (r c : Int) (xs : List Nat) (i j : Int) : Int := fstE [chk r c xs, whenE (!insB r c i j) 1]
def getR (r c : Int) (xs : List Nat) (i j : Int) : NR := orN (getE r c xs i j) ⟨mat c xs i j, 0⟩
def withE (r c : Int) (xs : List Nat) (i j : Int) (x : Nat) : Int := fstE [chk r c xs, whenE (!insB r c i j) 1, whenE (fcmp .neq (fsub x x) 0) 4]
def withR (r c : Int) (xs : List Nat) (i j : Int) (x : Nat) : MR := orR (withE r c xs i j x) ⟨r, c, xs.set (i * c + j).toNat x, 0⟩
def rowE (r c : Int) (xs : List Nat) (i n : Int) : Int := fstE [chk r c xs, whenE (outB i n) 1]
def rowR (r c : Int) (xs : List Nat) (i : Int) : LR := orL (rowE r c xs i r) ⟨rowL c xs i, 0⟩
def colR (r c : Int) (xs : List Nat) (j : Int) : LR := orL (rowE r c xs j c) ⟨colL r c xs j, 0⟩
theorem getE_good {r c i j : Int} {xs : List Nat} (h : getE r c xs i j = 0) : Good r c xs ∧ Pl r c i j ∧ xs.all finB = true := by
  unfold getE at h
  rw [fst2, whenE_zero (by decide)] at h
  obtain ⟨h1, h2⟩ := h
  have h1 := chk_zero.1 h1
  exact ⟨h1.1, insB_iff.1 (by simpa using h2), h1.2⟩
theorem withE_good {r c i j : Int} {xs : List Nat} {x : Nat} (h : withE r c xs i j x = 0) : Good r c xs ∧ Pl r c i j ∧ xs.all finB = true := by
  unfold withE at h
  rw [fst3, whenE_zero (by decide)] at h
  obtain ⟨h1, h2, _⟩ := h
  have h1 := chk_zero.1 h1
  exact ⟨h1.1, insB_iff.1 (by simpa using h2), h1.2⟩
theorem rowE_good {r c i n : Int} {xs : List Nat} (h : rowE r c xs i n = 0) : Good r c xs ∧ 0 ≤ i ∧ i < n ∧ xs.all finB = true := by
  unfold rowE at h
  rw [fst2, whenE_zero (by decide)] at h
  obtain ⟨h1, h2⟩ := h
  have h1 := chk_zero.1 h1
  unfold outB at h2
  simp at h2
  exact ⟨h1.1, by omega, by omega, h1.2⟩
/-! ## MatrixPlaces -/
/-- The law's own error of a place. -/
def plN (r c : Int) (xs : List Nat) (i j : Int) : Int := fstE [fstE [chk r c xs, whenE (outB i r) 1], fstE [chk r c xs, whenE (outB j c) 1]]
theorem plN_eq {r c i j : Int} {xs : List Nat} : plN r c xs i j = getE r c xs i j := by
  unfold plN getE
  by_cases hc : chk r c xs = 0
  · rw [hc]
    have e : (!insB r c i j) = (outB i r || outB j c) := by
      unfold insB outB
      by_cases h1 : 0 ≤ i <;> by_cases h2 : i < r <;> by_cases h3 : 0 ≤ j <;> by_cases h4 : j < c <;> simp [h1, h2, h3, h4] <;> omega
    rw [e]
    cases outB i r <;> cases outB j c <;> rfl
  · simp [fstE, hc]
theorem mat_fin {r c i j : Int} {xs : List Nat} (hg : Good r c xs) (hp : Pl r c i j) (hf : xs.all finB = true) : finB (mat c xs i j) = true := by
  rw [all_good hg] at hf
  exact hf i j hp
theorem pl_get {r c i j : Int} {xs : List Nat} (h : cmpB .eql (plN r c xs i j) 0 = true) : Good r c xs ∧ Pl r c i j ∧ (getR r c xs i j).a = mat c xs i j ∧ nanB (getR r c xs i j).a = false := by
  have h0 : plN r c xs i j = 0 := by simpa [cmpB] using h
  rw [plN_eq] at h0
  obtain ⟨h1, h2, h3⟩ := getE_good h0
  have e : getR r c xs i j = ⟨mat c xs i j, 0⟩ := if_pos h0
  rw [e]
  exact ⟨h1, h2, rfl, fin_not_nan (mat_fin h1 h2 h3)⟩
theorem pl_bad {r c i j : Int} {xs : List Nat} (h : cmpB .neq (plN r c xs i j) 0 = true) : (getR r c xs i j).a = 0 ∧ nanB (getR r c xs i j).a = false := by
  have h0 : plN r c xs i j ≠ 0 := by simpa [cmpB] using h
  rw [plN_eq] at h0
  have e : getR r c xs i j = badN (getE r c xs i j) := if_neg h0
  rw [e]
  exact ⟨rfl, show nanB 0 = false by decide +kernel⟩
theorem get_e {r c i j : Int} {xs : List Nat} : (getR r c xs i j).e = plN r c xs i j := by
  rw [plN_eq]
  unfold getR orN
  split
  · rename_i h; exact h.symm
  · rfl
theorem places_1 {r c i j : Int} {xs : List Nat} (h : (((cmpB .neq (getR r c xs i j).e (plN r c xs i j) || (cmpB .neq (plN r c xs i j) 0 && !decide ((getR r c xs i j).a = 0))) || (cmpB .eql (plN r c xs i j) 0 && !decide ((getR r c xs i j).a = mat c xs i j))) || !true) = true) : False := by
  rw [get_e] at h
  by_cases h0 : plN r c xs i j = 0
  · have h1 := (pl_get (show cmpB .eql (plN r c xs i j) 0 = true by simp [cmpB, h0])).2.2.1
    simp [cmpB, h0, h1] at h
  · have h1 := (pl_bad (show cmpB .neq (plN r c xs i j) 0 = true by simp [cmpB, h0])).1
    simp [cmpB, h0, h1] at h
/-- The law's own error of what is put. -/
def putN (r c : Int) (xs : List Nat) (i j : Int) (x : Nat) : Int := fstE [plN r c xs i j, whenE (!finB x) 4]
theorem putN_eq {r c i j : Int} {xs : List Nat} {x : Nat} (hx : x < 2 ^ 64) : putN r c xs i j x = withE r c xs i j x := by
  unfold putN withE
  rw [over_fin hx, plN_eq]
  unfold getE
  by_cases hc : chk r c xs = 0
  · rw [hc]; cases insB r c i j <;> cases finB x <;> rfl
  · simp [fstE, hc]
theorem putN_good {r c i j : Int} {xs : List Nat} {x : Nat} (h : putN r c xs i j x = 0) : Good r c xs ∧ Pl r c i j := by
  unfold putN at h
  rw [fst2, plN_eq] at h
  obtain ⟨h1, h2, _⟩ := getE_good h.1
  exact ⟨h1, h2⟩
theorem places_3 {r c i j : Int} {xs : List Nat} {x : Nat} (hx : x < 2 ^ 64) (h0 : putN r c xs i j x = 0) : toldB (withR r c xs i j x) ⟨r, c, xs.set (i * c + j).toNat x, putN r c xs i j x⟩ = true := by
  have e : withR r c xs i j x = ⟨r, c, xs.set (i * c + j).toNat x, 0⟩ := if_pos (by rw [← putN_eq hx]; exact h0)
  rw [e, h0]
  exact told_same fair_ok rfl fun _ => rfl
theorem places_3' {r c r' c' i j : Int} {xs ys : List Nat} {x : Nat} (hx : x < 2 ^ 64) (h0 : putN r c xs i j x ≠ 0) : toldB (withR r c xs i j x) ⟨r', c', ys, putN r c xs i j x⟩ = true :=
  told_bad (by show withR r c xs i j x = badM (putN r c xs i j x); rw [putN_eq hx] at h0 ⊢; exact if_neg h0) h0
theorem places_4 {r c i : Int} {xs : List Nat} (h0 : fstE [chk r c xs, whenE (outB i r) 1] = 0) : listB (rowR r c xs i) ⟨rowL c xs i, fstE [chk r c xs, whenE (outB i r) 1]⟩ = true := by
  have e : rowR r c xs i = ⟨rowL c xs i, 0⟩ := if_pos h0
  rw [e, h0]
  exact list_same fairL_ok rfl fun _ => rfl
theorem places_4' {r c i : Int} {xs : List Nat} (h0 : fstE [chk r c xs, whenE (outB i r) 1] ≠ 0) : listB (rowR r c xs i) ⟨[], fstE [chk r c xs, whenE (outB i r) 1]⟩ = true := list_bad (if_neg h0) h0
theorem places_5 {r c j : Int} {xs : List Nat} (h0 : fstE [chk r c xs, whenE (outB j c) 1] = 0) : listB (colR r c xs j) ⟨colL r c xs j, fstE [chk r c xs, whenE (outB j c) 1]⟩ = true := by
  have e : colR r c xs j = ⟨colL r c xs j, 0⟩ := if_pos h0
  rw [e, h0]
  exact list_same fairL_ok rfl fun _ => rfl
theorem places_5' {r c j : Int} {xs : List Nat} (h0 : fstE [chk r c xs, whenE (outB j c) 1] ≠ 0) : listB (colR r c xs j) ⟨[], fstE [chk r c xs, whenE (outB j c) 1]⟩ = true := list_bad (if_neg h0) h0
theorem dead_list {x y : LR} (h : (!listB x y) = true) (hT : listB x y = true) : False := by rw [hT] at h; cases h
end Go.Bn
namespace Go.Bn
open Go
/-- Up to k, the list is the other. -/
def PreI (G : List Nat) (k : Nat) (m : List Nat) : Prop := m.length = G.length ∧ ∀ q, q < k → m.getD q 0 = G.getD q 0
theorem pre_zero {G m : List Nat} (h : m.length = G.length) : PreI G 0 m := ⟨h, fun q hq => by omega⟩
theorem pre_step {G m : List Nat} {k v : Nat} (h : PreI G k m) (hk : k < G.length) (hv : v = G.getD k 0) : PreI G (k + 1) (m.set k v) := by
  refine ⟨by rw [List.length_set]; exact h.1, fun q hq => ?_⟩
  by_cases hqk : k = q
  · subst hqk
    rw [List.getD, List.getElem?_set_self (by rw [h.1]; exact hk)]; exact hv
  · rw [List.getD, List.getElem?_set_ne hqk, ← List.getD]
    exact h.2 q (by omega)
theorem pre_done {G m : List Nat} {k : Nat} (h : PreI G k m) (hk : G.length ≤ k) : m = G := ext_getD h.1 fun q hq => h.2 q (by have := h.1; omega)
theorem mat_place {r c : Int} {xs : List Nat} {k : Nat} (hs : Siz r c) (hk : k < r.toNat * c.toNat) : mat c xs ((k / c.toNat : Nat) : Int) ((k % c.toNat : Nat) : Int) = xs.getD k 0 := by
  unfold mat
  congr 1
  have h2 : c = (c.toNat : Int) := by have := hs.2.2.1; omega
  generalize c.toNat = d at *
  subst h2
  rw [← Int.natCast_mul, ← Int.natCast_add, Int.toNat_natCast, Nat.div_add_mod']
theorem sum_getD {f : Nat → Nat → Nat} {r c : Int} {xs ys : List Nat} {k : Nat} (hs : Siz r c) (hk : k < r.toNat * c.toNat) : (sumG f r c xs ys).getD k 0 = f (xs.getD k 0) (ys.getD k 0) := by
  unfold sumG
  rw [grid_get r c _ hk, mat_place hs hk, mat_place hs hk]
def sclG (r c : Int) (xs : List Nat) (s : Nat) : List Nat := grid r c fun i j => fmul (mat c xs i j) s
theorem scl_getD {r c : Int} {xs : List Nat} {s k : Nat} (hs : Siz r c) (hk : k < r.toNat * c.toNat) : (sclG r c xs s).getD k 0 = fmul (xs.getD k 0) s := by
  unfold sclG
  rw [grid_get r c _ hk, mat_place hs hk]
theorem length_sum {f : Nat → Nat → Nat} {r c : Int} {xs ys : List Nat} : (sumG f r c xs ys).length = r.toNat * c.toNat := length_grid ..
theorem length_scl {r c : Int} {xs : List Nat} {s : Nat} : (sclG r c xs s).length = r.toNat * c.toNat := length_grid ..
def sclE (r c : Int) (xs : List Nat) (s : Nat) : Int := fstE [chk r c xs, whenE (fcmp .neq (fsub s s) 0) 4]
def sclR (r c : Int) (xs : List Nat) (s : Nat) : MR := orR (sclE r c xs s) (toldR r c (sclG r c xs s))
def outG (xs ys : List Nat) : List Nat := grid (xs.length : Int) (ys.length : Int) fun i j => fmul (xs.getD i.toNat 0) (ys.getD j.toNat 0)
def outE (xs ys : List Nat) : Int := fstE [lchk xs, lchk ys]
def outR (xs ys : List Nat) : MR := orR (outE xs ys) (toldR (xs.length : Int) (ys.length : Int) (outG xs ys))
theorem outE_good {xs ys : List Nat} (h : outE xs ys = 0) : Siz (xs.length : Int) (ys.length : Int) := by
  unfold outE at h
  rw [fst2] at h
  have h1 := lchk_zero.1 h.1
  have h2 := lchk_zero.1 h.2
  unfold Siz
  omega
def numR (x : Nat) : NR := if fcmp .neq (fsub x x) 0 = true then badN 5 else ⟨x, 0⟩
def dotE (xs ys : List Nat) : Int := fstE [lchk xs, lchk ys, whenE ((xs.length : Int) != (ys.length : Int)) 3]
def dotR (xs ys : List Nat) : NR := orN (dotE xs ys) (numR (dotL xs ys))
theorem dotE_good {xs ys : List Nat} (h : dotE xs ys = 0) : xs.length = ys.length ∧ xs.length ≤ 12 := by
  unfold dotE at h
  rw [fst3, whenE_zero (by decide)] at h
  obtain ⟨h1, h2, h3⟩ := h
  have h1 := lchk_zero.1 h1
  simp at h3
  omega
def numB (x y : NR) : Bool := if y.e ≠ 0 then decide (x.e = y.e) && decide (x.a = 0) else decide (x.e = y.e) && decide (x.a = y.a)
theorem num_same {x y : NR} (hf : x.e ≠ 0 → x = badN x.e) (he : x.e = y.e) (h : x.e = 0 → x = y) : numB x y = true := by
  unfold numB
  by_cases h0 : x.e = 0
  · rw [if_neg (by omega)]
    have := h h0
    subst this
    simp
  · rw [if_pos (by omega), he, hf h0]
    simp [badN]
theorem dead_num {x y : NR} (h : (!numB x y) = true) (hT : numB x y = true) : False := by rw [hT] at h; cases h
theorem fop_lt {op : BinOp} {x y : Nat} : fop (fbits op x y) < 2 ^ 64 := by
  cases h : fbits op x y with
  | none => exact NAN_lt
  | some r => exact (fbits_some h).2.1
theorem dot_lt {xs ys : List Nat} : ∀ {k : Nat}, dotTo xs ys k < 2 ^ 64
  | 0 => by show 0 < _; decide
  | k + 1 => fop_lt (op := .add)
theorem numR_fin {x : Nat} (hx : x < 2 ^ 64) : numR x = if finB x = true then ⟨x, 0⟩ else badN 5 := by
  unfold numR
  rw [over_fin hx]
  cases finB x <;> rfl
theorem num_nan {x : Nat} (hx : x < 2 ^ 64) : nanB (numR x).a = false := by
  rw [numR_fin hx]
  split
  · rename_i h; exact fin_not_nan h
  · show nanB 0 = false; decide +kernel
theorem dot_nan {xs ys : List Nat} : nanB (dotR xs ys).a = false := by
  unfold dotR orN
  split
  · exact num_nan dot_lt
  · show nanB 0 = false; decide +kernel
/-! ## The reference's -/
def sf (s : Bool) : Nat → Nat → Nat := if s then fsub else fadd
theorem rsum_no {f : Nat → Nat → Nat} {r c r' c' : Int} {xs ys : List Nat} (h1 : chk r c xs = 0) (h2 : chk r' c' ys = 0) (h : r ≠ r' ∨ c ≠ c') : badM 3 = sumR f r c xs r' c' ys := by
  unfold sumR alikeE
  rw [h1, h2, show fstE [0, 0, whenE (r != r' || c != c') 3] = 3 by
    have : (r != r' || c != c') = true := by simpa using h
    rw [this]; rfl]
  rfl
theorem rsum_yes {f : Nat → Nat → Nat} {r c r' c' : Int} {xs ys : List Nat} (h1 : chk r c xs = 0) (h2 : chk r' c' ys = 0) (h : r = r') (h' : c = c') : toldR r c (sumG f r c xs ys) = sumR f r c xs r' c' ys := by
  unfold sumR alikeE
  rw [h1, h2, show fstE [0, 0, whenE (r != r' || c != c') 3] = 0 by simp [fstE, whenE, h, h']]
  rfl
/-! ## MatrixSums -/
theorem sums_y {b : Bool} {r c r' c' : Int} {xs ys : List Nat} (hb : b = true) : toldB (sumR fsub r c xs r' c' ys) (sumR (sf b) r c xs r' c' ys) = true := by subst hb; exact told_same fair_sum rfl fun _ => rfl
theorem sums_n {b : Bool} {r c r' c' : Int} {xs ys : List Nat} (hb : b = false) : toldB (sumR fadd r c xs r' c' ys) (sumR (sf b) r c xs r' c' ys) = true := by subst hb; exact told_same fair_sum rfl fun _ => rfl
theorem sums_bad {f : Nat → Nat → Nat} {r c r' c' p q : Int} {xs ys zs : List Nat} (h : fstE [chk r c xs, chk r' c' ys] ≠ 0) : toldB (sumR f r c xs r' c' ys) ⟨p, q, zs, fstE [chk r c xs, chk r' c' ys]⟩ = true := told_bad (sum_bad h) h
theorem sclE_eq {r c : Int} {xs : List Nat} {s : Nat} (hs : s < 2 ^ 64) : sclE r c xs s = fstE [chk r c xs, whenE (!finB s) 4] := by unfold sclE; rw [over_fin hs]
theorem sums_s {r c : Int} {xs : List Nat} {s : Nat} (hs : s < 2 ^ 64) (h : fstE [chk r c xs, whenE (!finB s) 4] = 0) : toldB (sclR r c xs s) (toldR r c (sclG r c xs s)) = true := by
  have e : sclR r c xs s = toldR r c (sclG r c xs s) := if_pos (by rw [sclE_eq hs]; exact h)
  rw [e]
  exact told_same fair_told rfl fun _ => rfl
theorem sums_s' {r c p q : Int} {xs zs : List Nat} {s : Nat} (hs : s < 2 ^ 64) (h : fstE [chk r c xs, whenE (!finB s) 4] ≠ 0) : toldB (sclR r c xs s) ⟨p, q, zs, fstE [chk r c xs, whenE (!finB s) 4]⟩ = true :=
  told_bad (by show sclR r c xs s = badM (fstE [chk r c xs, whenE (!finB s) 4]); rw [← sclE_eq hs] at h ⊢; exact if_neg h) h
theorem sums_o {xs ys : List Nat} (h : fstE [lchk xs, lchk ys] = 0) : toldB (outR xs ys) (toldR (xs.length : Int) (ys.length : Int) (outG xs ys)) = true := by
  have e : outR xs ys = toldR (xs.length : Int) (ys.length : Int) (outG xs ys) := if_pos h
  rw [e]
  exact told_same fair_told rfl fun _ => rfl
theorem sums_o' {p q : Int} {xs ys zs : List Nat} (h : fstE [lchk xs, lchk ys] ≠ 0) : toldB (outR xs ys) ⟨p, q, zs, fstE [lchk xs, lchk ys]⟩ = true := told_bad (if_neg h) h
theorem fst_nest {a b w : Int} : fstE [fstE [a, b], w] = fstE [a, b, w] := by
  by_cases ha : a = 0
  · subst ha
    by_cases hb : b = 0
    · subst hb; rfl
    · simp [fstE, hb]
  · simp [fstE, ha]
theorem sums_d {xs ys : List Nat} (h : fstE [fstE [lchk xs, lchk ys], whenE (cmpB .neq (xs.length : Int) (ys.length : Int)) 3] = 0) : numB (dotR xs ys) ⟨dotL xs ys, whenE (!finB (dotL xs ys)) 5⟩ = true := by
  rw [fst_nest] at h
  have e : dotR xs ys = numR (dotL xs ys) := if_pos h
  rw [e, numR_fin (show dotL xs ys < 2 ^ 64 from dot_lt)]
  refine num_same ?_ ?_ ?_ <;> cases finB (dotL xs ys) <;> simp [badN, whenE]
theorem sums_d' {z : Nat} {xs ys : List Nat} (h : fstE [fstE [lchk xs, lchk ys], whenE (cmpB .neq (xs.length : Int) (ys.length : Int)) 3] ≠ 0) : numB (dotR xs ys) ⟨z, fstE [fstE [lchk xs, lchk ys], whenE (cmpB .neq (xs.length : Int) (ys.length : Int)) 3]⟩ = true := by
  have e : dotR xs ys = badN (fstE [fstE [lchk xs, lchk ys], whenE (cmpB .neq (xs.length : Int) (ys.length : Int)) 3]) := by
    rw [fst_nest] at h ⊢
    exact if_neg h
  rw [e]
  exact num_same (fun _ => rfl) rfl (fun h0 => (h h0).elim)
theorem sums_dg {xs ys : List Nat} (h : fstE [fstE [lchk xs, lchk ys], whenE (cmpB .neq (xs.length : Int) (ys.length : Int)) 3] = 0) : xs.length = ys.length := by
  rw [fst_nest] at h
  exact (dotE_good h).1
theorem sums_9 {a b w : Int} (h : fstE [a, b] ≠ 0) (h' : fstE [fstE [a, b], w] = 0) : False := h (fst2.1 h').1
end Go.Bn
namespace Go.Bn
open Go
def zeroR (r c : Int) : MR := if sizB r = false ∨ sizB c = false then badM 1 else ⟨r, c, grid r c fun _ _ => 0, 0⟩
theorem fair_zero {r c : Int} : Fair (zeroR r c) := by
  unfold zeroR
  split
  · exact fun _ => rfl
  · exact fair_ok
theorem fair_eye {n : Int} : Fair (eyeR n) := by
  unfold eyeR
  split
  · exact fun _ => rfl
  · exact fair_ok
theorem zero_ok {r c : Int} (h : Siz r c) : zeroR r c = ⟨r, c, grid r c fun _ _ => 0, 0⟩ := by
  unfold zeroR
  rw [if_neg]
  have h1 := @sizB_iff r
  have h2 := @sizB_iff c
  obtain ⟨q1, q2, q3, q4⟩ := h
  rw [h1.2 ⟨q1, q2⟩, h2.2 ⟨q3, q4⟩]
  simp
theorem zero_bad {r c : Int} (h : ¬ Siz r c) : zeroR r c = badM 1 := by
  unfold zeroR
  rw [if_pos]
  have h1 := @sizB_iff r
  have h2 := @sizB_iff c
  cases e1 : sizB r
  · exact .inl rfl
  · cases e2 : sizB c
    · exact .inr rfl
    · have q1 := h1.1 e1
      have q2 := h2.1 e2
      exact (h ⟨q1.1, q1.2, q2.1, q2.2⟩).elim
theorem siz_of {r c : Int} (h : ¬(((r < 0 ∨ 12 < r) ∨ c < 0) ∨ 12 < c)) : Siz r c := by unfold Siz; omega
theorem siz_not {r c : Int} (h : ((r < 0 ∨ 12 < r) ∨ c < 0) ∨ 12 < c) : ¬ Siz r c := by unfold Siz; omega
/-! ## What stands on the diagonal -/
def DiaD (k : Int) (a b : Int) : Prop := a < k ∧ a = b
def diaF (f : Int → Nat) (i j : Int) : Nat := if i = j then f i else 0
theorem dia_zero {n : Int} {f : Int → Nat} (hs : Siz n n) : PutI n n (diaF f) (DiaD (0 : Nat)) (grid n n fun _ _ => 0) := by
  refine putI_cast (putI_grid0 hs) fun a b hab => ?_
  obtain ⟨h1, h2, h3, h4⟩ := hab
  unfold RowD DiaD; omega
theorem dia_step {n : Int} {f : Int → Nat} {k : Nat} {xs : List Nat} {v : Nat} (hs : Siz n n) (hk : (k : Int) < n) (h : PutI n n (diaF f) (DiaD k) xs) (hv : v = f k) : PutI n n (diaF f) (DiaD ((k + 1 : Nat) : Int)) (xs.set ((k : Int) * n + (k : Int)).toNat v) := by
  refine putI_set hs h ⟨by omega, hk, by omega, hk⟩ (by unfold diaF; rw [if_pos rfl]; exact hv) fun a b _ => ?_
  unfold DiaD; omega
theorem dia_done {n : Int} {f : Int → Nat} {k : Nat} {xs : List Nat} (hs : Siz n n) (hk : k = n.toNat) (h : PutI n n (diaF f) (DiaD k) xs) : xs = grid n n (diaF f) := by
  have h1 := hs.1
  rw [← grid_mat hs.1 hs.1 h.1]
  refine grid_congr fun i j h1 h2 h3 h4 => ?_
  by_cases hd : DiaD k i j
  · exact (h.2 i j ⟨h1, h2, h3, h4⟩).1 hd
  · rw [(h.2 i j ⟨h1, h2, h3, h4⟩).2 hd]
    unfold diaF
    rw [if_neg (fun hl => hd (by unfold DiaD; omega))]
def diagG (xs : List Nat) : List Nat := grid (xs.length : Int) (xs.length : Int) fun i j => if i = j then xs.getD i.toNat 0 else 0
def diagR (xs : List Nat) : MR := orR (lchk xs) ⟨(xs.length : Int), (xs.length : Int), diagG xs, 0⟩
theorem fair_diag {xs : List Nat} : Fair (diagR xs) := fair_orR fair_ok
theorem lchk_siz {xs : List Nat} (h : lchk xs = 0) : Siz (xs.length : Int) (xs.length : Int) := by
  have := lchk_zero.1 h
  unfold Siz; omega
/-! ## Of rows -/
def colN (ls : List (List Nat)) : Int := ((ls.getD 0 []).length : Nat)
def Same (ls : List (List Nat)) (k : Nat) : Prop := ∀ q, q < k → (((ls.getD q []).length : Nat) : Int) = colN ls
def ofE (ls : List (List Nat)) : Int := if sizB (ls.length : Int) = false ∨ sizB (colN ls) = false then 1 else if (ls.all fun l => decide ((l.length : Int) = colN ls)) = false then 3 else if ls.flatten.all finB = false then 4 else 0
def ofR (ls : List (List Nat)) : MR := if ls.length = 0 then ⟨0, 0, [], 0⟩ else orR (ofE ls) ⟨(ls.length : Int), colN ls, ls.flatten, 0⟩
theorem fair_of {ls : List (List Nat)} : Fair (ofR ls) := by
  unfold ofR
  split
  · exact fair_ok
  · exact fair_orR fair_ok
theorem flat_take {ls : List (List Nat)} {k : Nat} (hk : k < ls.length) : (ls.take (k + 1)).flatten = (ls.take k).flatten ++ ls.getD k [] := by
  rw [take_snoc [] hk, List.flatten_append]
  simp
theorem flat_lenS {ls : List (List Nat)} : ∀ {k : Nat}, k ≤ ls.length → Same ls k → (((ls.take k).flatten.length : Nat) : Int) = k * colN ls
  | 0, _, _ => by simp
  | k + 1, hk, h => by
    rw [flat_take (by omega), List.length_append, Int.natCast_add, flat_lenS (by omega) fun q hq => h q (by omega), h k (by omega), Int.natCast_succ, Int.add_mul, Int.one_mul]
theorem same_zero {ls : List (List Nat)} : Same ls 0 := fun q hq => by omega
theorem same_step {ls : List (List Nat)} {k : Nat} (h : Same ls k) (hk : (((ls.getD k []).length : Nat) : Int) = colN ls) : Same ls (k + 1) := fun q hq => by
  by_cases hqk : q = k
  · subst hqk; exact hk
  · exact h q (by omega)
theorem same_all {ls : List (List Nat)} (h : Same ls ls.length) : (ls.all fun l => decide ((l.length : Int) = colN ls)) = true := by
  rw [List.all_eq_true]
  intro l hl
  obtain ⟨q, hq, rfl⟩ := List.mem_iff_getElem.1 hl
  have := h q hq
  rw [List.getD, List.getElem?_eq_getElem hq] at this
  exact decide_eq_true this
theorem same_not {ls : List (List Nat)} {k : Nat} (hk : k < ls.length) (h : ¬ (((ls.getD k []).length : Nat) : Int) = colN ls) : (ls.all fun l => decide ((l.length : Int) = colN ls)) = false := by
  cases ha : ls.all fun l => decide ((l.length : Int) = colN ls)
  · rfl
  · rw [List.all_eq_true] at ha
    have := ha (ls.getD k []) (mem_getD [] hk)
    exact (h (by simpa using this)).elim
theorem of_1 {ls : List (List Nat)} (h0 : ¬ ls.length = 0) (h : sizB (ls.length : Int) = false ∨ sizB (colN ls) = false) : badM 1 = ofR ls := by
  unfold ofR ofE
  rw [if_neg h0, if_pos h]; rfl
theorem of_3 {ls : List (List Nat)} (h0 : ¬ ls.length = 0) (h1 : ¬(sizB (ls.length : Int) = false ∨ sizB (colN ls) = false)) (h2 : (ls.all fun l => decide ((l.length : Int) = colN ls)) = false) : badM 3 = ofR ls := by
  unfold ofR ofE
  rw [if_neg h0, if_neg h1, if_pos h2]; rfl
theorem of_4 {ls : List (List Nat)} (h0 : ¬ ls.length = 0) (h1 : ¬(sizB (ls.length : Int) = false ∨ sizB (colN ls) = false)) (h2 : Same ls ls.length) (h3 : ls.flatten.all finB = false) : badM 4 = ofR ls := by
  unfold ofR ofE
  rw [if_neg h0, if_neg h1, if_neg (by rw [same_all h2]; decide), if_pos h3]; rfl
theorem of_0 {ls : List (List Nat)} (h0 : ¬ ls.length = 0) (h1 : ¬(sizB (ls.length : Int) = false ∨ sizB (colN ls) = false)) (h2 : Same ls ls.length) (h3 : ls.flatten.all finB = true) : ⟨(ls.length : Int), colN ls, ls.flatten, 0⟩ = ofR ls := by
  unfold ofR ofE
  rw [if_neg h0, if_neg h1, if_neg (by rw [same_all h2]; decide), if_neg (by rw [h3]; decide)]; rfl
/-- The columns' number, as the reference sets it. -/
def colK (C : Int) : Nat → Int
  | 0 => 0
  | _ + 1 => C
/-- What the reference answers for rows: not zero beside the last error. -/
def rofR (ls : List (List Nat)) : MR := if ls.length = 0 then ⟨0, 0, [], 0⟩ else if ofE ls = 4 then ⟨(ls.length : Int), colN ls, ls.flatten, 4⟩ else ofR ls
theorem ofE_cases (ls : List (List Nat)) : ofE ls = 0 ∨ ofE ls = 1 ∨ ofE ls = 3 ∨ ofE ls = 4 := by unfold ofE; (repeat' split) <;> simp
theorem rof_told {ls : List (List Nat)} : toldB (ofR ls) (rofR ls) = true := by
  unfold rofR
  by_cases h0 : ls.length = 0
  · rw [if_pos h0]
    have e : ofR ls = ⟨0, 0, [], 0⟩ := if_pos h0
    rw [e]; decide
  · rw [if_neg h0]
    by_cases h4 : ofE ls = 4
    · rw [if_pos h4]
      refine told_bad ?_ (by simp)
      unfold ofR
      rw [if_neg h0, h4]; rfl
    · rw [if_neg h4]
      exact told_same fair_of rfl fun _ => rfl
theorem rof_n {ls : List (List Nat)} (h : ¬ ls.length = 0) (h4 : ofE ls ≠ 4) : rofR ls = ofR ls := by unfold rofR; rw [if_neg h, if_neg h4]
theorem rof_1 {ls : List (List Nat)} (h : (12 : Int) < ls.length ∨ (0 < (ls.length : Int) ∧ 12 < colN ls)) : badM 1 = rofR ls := by
  have h0 : ¬ ls.length = 0 := by omega
  have hs : sizB (ls.length : Int) = false ∨ sizB (colN ls) = false := by
    unfold sizB
    simp
    omega
  have he : ofE ls = 1 := if_pos hs
  rw [rof_n h0 (by rw [he]; decide)]
  exact of_1 h0 hs
theorem rof_siz {ls : List (List Nat)} (h : ¬((12 : Int) < ls.length ∨ (0 < (ls.length : Int) ∧ 12 < colN ls))) (h0 : ¬ ls.length = 0) : ¬(sizB (ls.length : Int) = false ∨ sizB (colN ls) = false) := by
  have hc : 0 ≤ colN ls := Int.natCast_nonneg _
  have e1 : sizB (ls.length : Int) = true := sizB_iff.2 ⟨by omega, by omega⟩
  have e2 : sizB (colN ls) = true := sizB_iff.2 ⟨hc, by omega⟩
  rw [e1, e2]; simp
theorem rof_3 {ls : List (List Nat)} (h : ¬((12 : Int) < ls.length ∨ (0 < (ls.length : Int) ∧ 12 < colN ls))) {k : Nat} (hk : k < ls.length) (h3 : ¬ (((ls.getD k []).length : Nat) : Int) = colN ls) : badM 3 = rofR ls := by
  have h0 : ¬ ls.length = 0 := by omega
  have hs := rof_siz h h0
  have hn := same_not hk h3
  have he : ofE ls = 3 := by unfold ofE; rw [if_neg hs, if_pos hn]
  rw [rof_n h0 (by rw [he]; decide)]
  exact of_3 h0 hs hn
theorem rof_fin {ls : List (List Nat)} (h : ¬((12 : Int) < ls.length ∨ (0 < (ls.length : Int) ∧ 12 < colN ls))) (hs : Same ls ls.length) : (⟨(ls.length : Int), colK (colN ls) ls.length, ls.flatten, whenE (!ls.flatten.all finB) 4⟩ : MR) = rofR ls := by
  by_cases h0 : ls.length = 0
  · have e : rofR ls = ⟨0, 0, [], 0⟩ := if_pos h0
    have e' : ls = [] := List.eq_nil_of_length_eq_zero h0
    rw [e]; subst e'; rfl
  · have hz := rof_siz h h0
    have hk : colK (colN ls) ls.length = colN ls := by
      cases hl : ls.length with
      | zero => exact (h0 hl).elim
      | succ n => rfl
    rw [hk]
    cases hf : ls.flatten.all finB
    · have he : ofE ls = 4 := by unfold ofE; rw [if_neg hz, if_neg (by rw [same_all hs]; decide), if_pos hf]
      unfold rofR
      rw [if_neg h0, if_pos he]; rfl
    · have he : ofE ls = 0 := by unfold ofE; rw [if_neg hz, if_neg (by rw [same_all hs]; decide), if_neg (by rw [hf]; decide)]
      rw [rof_n h0 (by rw [he]; decide)]
      exact of_0 h0 hz hs hf
theorem flat_bound {ls : List (List Nat)} {k : Nat} (hk : k ≤ ls.length) (h : Same ls k) (hl : ls.length ≤ 12) (hc : colN ls ≤ 12) : (ls.take k).flatten.length ≤ 144 := by
  have h1 := flat_lenS hk h
  have h0 : 0 ≤ colN ls := Int.natCast_nonneg _
  have h2 : (k : Int) * colN ls ≤ 12 * 12 := Int.mul_le_mul (by omega) hc h0 (by omega)
  omega
end Go.Bn
namespace Go.Bn
open Go
def lowB (r c : Int) (xs : List Nat) : Bool := decide (chk r c xs = 0) && decide (r = c) && decide (∀ i, i < r.toNat → ∀ j, j < r.toNat → i < j → mat c xs (i : Nat) (j : Nat) = 0)
/-- All above the diagonal up to row i, and in row i below column j. -/
def LowTo (c : Int) (xs : List Nat) (n i j : Nat) : Prop := ∀ a b : Nat, a < b → b < n → (a < i ∨ (a = i ∧ b < j)) → mat c xs a b = 0
theorem low_no1 {r c : Int} {xs : List Nat} (h : ¬ chk r c xs = 0 ∨ ¬ r = c) : lowB r c xs = false := by
  unfold lowB
  rcases h with h | h <;> simp [h]
theorem low_no2 {r c : Int} {xs : List Nat} {i j : Nat} (h1 : i < j) (h2 : j < r.toNat) (h : ¬ mat c xs (i : Nat) (j : Nat) = 0) : lowB r c xs = false := by
  cases hs : lowB r c xs
  · rfl
  · unfold lowB at hs
    rw [Bool.and_eq_true, decide_eq_true_eq] at hs
    exact (h (hs.2 i (by omega) j h2 h1)).elim
theorem lowTo_zero {c : Int} {xs : List Nat} {n : Nat} : LowTo c xs n 0 0 := fun a b h1 h2 h3 => by omega
theorem lowTo_start {c : Int} {xs : List Nat} {n i : Nat} (h : LowTo c xs n i 0) : LowTo c xs n i (i + 1) := fun a b h1 h2 h3 => h a b h1 h2 (by omega)
theorem lowTo_step {c : Int} {xs : List Nat} {n i j : Nat} (h : LowTo c xs n i j) (he : mat c xs (i : Nat) (j : Nat) = 0) : LowTo c xs n i (j + 1) := fun a b h1 h2 h3 => by
  by_cases hab : a = i ∧ b = j
  · rw [hab.1, hab.2]; exact he
  · exact h a b h1 h2 (by omega)
theorem lowTo_row {c : Int} {xs : List Nat} {n i q : Nat} (hq : n ≤ q) (h : LowTo c xs n i q) : LowTo c xs n (i + 1) 0 := fun a b h1 h2 h3 => h a b h1 h2 (by omega)
theorem low_yes {r c : Int} {xs : List Nat} {k : Nat} (h1 : chk r c xs = 0) (h2 : r = c) (hk : r.toNat ≤ k) (h : LowTo c xs r.toNat k 0) : lowB r c xs = true := by
  unfold lowB
  rw [decide_eq_true h1, decide_eq_true h2]
  simp only [Bool.true_and, decide_eq_true_eq]
  exact fun i hi j hj hij => h i j hij hj (by omega)
/-! ## Traces -/
def trTo (c : Int) (xs : List Nat) : Nat → Nat
  | 0 => 0
  | k + 1 => fadd (trTo c xs k) (mat c xs k k)
theorem trTo_lt {c : Int} {xs : List Nat} : ∀ {k : Nat}, trTo c xs k < 2 ^ 64
  | 0 => by show 0 < _; decide
  | k + 1 => fop_lt (op := .add)
def traceR (r c : Int) (xs : List Nat) : NR := orN (sqE r c xs) (numR (trTo c xs r.toNat))
def rtraceR (r c : Int) (xs : List Nat) : NR := if r ≠ c then badN 3 else if finB (trTo c xs r.toNat) = false then badN 5 else ⟨trTo c xs r.toNat, 0⟩
theorem trace_nan {r c : Int} {xs : List Nat} : nanB (traceR r c xs).a = false := by
  unfold traceR orN
  split
  · exact num_nan trTo_lt
  · show nanB 0 = false; decide +kernel
theorem trace_y {r c : Int} {xs : List Nat} (h : chk r c xs = 0) : numB (traceR r c xs) (rtraceR r c xs) = true := by
  have e : traceR r c xs = rtraceR r c xs := by
    unfold traceR rtraceR sqE
    by_cases hrc : r = c
    · rw [if_neg (by simpa using hrc), h, show fstE [0, whenE (r != c) 3] = 0 by simp [fstE, whenE, hrc]]
      show numR _ = _
      rw [numR_fin trTo_lt]
      cases finB (trTo c xs r.toNat) <;> rfl
    · rw [if_pos hrc, h, show fstE [0, whenE (r != c) 3] = 3 by simp [fstE, whenE, hrc]]
      rfl
  rw [e]
  refine num_same ?_ rfl (fun _ => rfl)
  unfold rtraceR
  split
  · exact fun _ => rfl
  · split
    · exact fun _ => rfl
    · exact fun h => (h rfl).elim
theorem trace_n {r c : Int} {xs : List Nat} {z : Nat} (h : chk r c xs ≠ 0) : numB (traceR r c xs) ⟨z, chk r c xs⟩ = true := by
  have e : traceR r c xs = badN (chk r c xs) := by
    unfold traceR sqE
    have : fstE [chk r c xs, whenE (r != c) 3] = chk r c xs := by simp [fstE, h]
    rw [this]
    exact if_neg h
  rw [e]
  exact num_same (fun _ => rfl) rfl (fun h0 => (h h0).elim)
/-! ## Norms -/
def amtTo (l : List Nat) : Nat → Nat
  | 0 => 0
  | k + 1 => fadd (amtTo l k) (fabs (l.getD k 0))
def amtL (l : List Nat) : Nat := amtTo l l.length
def oneTo (r c : Int) (xs : List Nat) : Nat → Nat
  | 0 => 0
  | k + 1 => fmax (oneTo r c xs k) (amtL (colL r c xs k))
def mostTo (c : Int) (xs : List Nat) : Nat → Nat
  | 0 => 0
  | k + 1 => fmax (mostTo c xs k) (amtL (rowL c xs k))
def grtTo (xs : List Nat) : Nat → Nat
  | 0 => 0
  | k + 1 => fmax (grtTo xs k) (fabs (xs.getD k 0))
structure QR where
  a : Nat
  b : Nat
  g : Nat
  e : Int
def resQ (x : QR) : SP := tupp [flp x.a, flp x.b, flp x.g, isv (.int .i64 x.e)]
def badQ (e : Int) : QR := ⟨0, 0, 0, e⟩
theorem ret_Q {Γ : Facts} {a b g : Nat} {e : Int} {x : QR} (h : (⟨a, b, g, e⟩ : QR) = x) : Sb Γ (tupp [flp a, flp b, flp g, isv (.int .i64 e)]) (resQ x) := by subst h; exact sb_refl
def rnormR (r c : Int) (xs : List Nat) : QR := if [oneTo r c xs c.toNat, mostTo c xs r.toNat].all finB = false then badQ 5 else ⟨oneTo r c xs c.toNat, mostTo c xs r.toNat, grtTo xs xs.length, 0⟩
def normR (r c : Int) (xs : List Nat) : QR := if chk r c xs = 0 then rnormR r c xs else badQ (chk r c xs)
theorem grt_nan {xs : List Nat} (h : ∀ k, k < xs.length → nanB (xs.getD k 0) = false) : ∀ k, k ≤ xs.length → nanB (grtTo xs k) = false
  | 0, _ => by show nanB 0 = false; decide +kernel
  | k + 1, hk => fmax_nan (grt_nan h k (by omega)) (fabs_nan (h k (by omega)))
theorem norm_nan {r c : Int} {xs : List Nat} : nanB (normR r c xs).a = false ∧ nanB (normR r c xs).b = false ∧ nanB (normR r c xs).g = false := by
  have h0 : nanB 0 = false := by decide +kernel
  unfold normR
  by_cases hc : chk r c xs = 0
  · rw [if_pos hc]
    unfold rnormR
    cases hf : [oneTo r c xs c.toNat, mostTo c xs r.toNat].all finB
    · exact ⟨h0, h0, h0⟩
    · rw [if_neg (by decide)]
      simp at hf
      refine ⟨fin_not_nan hf.1, fin_not_nan hf.2, grt_nan (fun k hk => ?_) _ (Nat.le_refl _)⟩
      have := (chk_zero.1 hc).2
      rw [List.all_eq_true] at this
      exact fin_not_nan (this _ (mem_getD 0 hk))
  · rw [if_neg hc]
    exact ⟨h0, h0, h0⟩
theorem norm_fin {x y : QR} (h : x = y) : (((cmpB .eql x.e y.e && decide (x.a = y.a)) && decide (x.b = y.b)) && decide (x.g = y.g)) = true := by
  subst h; simp [cmpB]
theorem norm_y {r c : Int} {xs : List Nat} (h : chk r c xs = 0) : normR r c xs = rnormR r c xs := if_pos h
theorem norm_n {r c : Int} {xs : List Nat} (h : ¬ chk r c xs = 0) : normR r c xs = ⟨0, 0, 0, chk r c xs⟩ := if_neg h
/-! ## MatrixKinds -/
theorem kinds_1 {a b d e : Bool} (h : ((((a != a) || (b != b)) || (d != d)) || !e || !true) = true) (he : e = true) : False := by subst he; simp at h
theorem kinds_m {r c : Int} {xs : List Nat} (h : fstE [chk r c xs, whenE (cmpB .neq r c) 3] = 0) : toldB (mirrorR r c xs) ⟨r, r, mirR r (mat c xs), fstE [chk r c xs, whenE (cmpB .neq r c) 3]⟩ = true := by
  have e : mirrorR r c xs = ⟨r, r, mirR r (mat c xs), 0⟩ := if_pos h
  rw [e, h]
  exact told_same fair_ok rfl fun _ => rfl
theorem kinds_m' {r c p q : Int} {xs zs : List Nat} (h : fstE [chk r c xs, whenE (cmpB .neq r c) 3] ≠ 0) : toldB (mirrorR r c xs) ⟨p, q, zs, fstE [chk r c xs, whenE (cmpB .neq r c) 3]⟩ = true := told_bad (if_neg h) h
def rmeanR (r c : Int) (xs : List Nat) : MR := if r ≠ c then badM 3 else toldR r r (mirR r (meanF r c xs))
theorem kinds_n {r c : Int} {xs : List Nat} (h : chk r c xs = 0) : toldB (meanR r c xs) (rmeanR r c xs) = true := by
  have e : meanR r c xs = rmeanR r c xs := by
    unfold meanR rmeanR sqE
    by_cases hrc : r = c
    · rw [if_neg (by simpa using hrc), h, show fstE [0, whenE (r != c) 3] = 0 by simp [fstE, whenE, hrc]]
      rfl
    · rw [if_pos hrc, h, show fstE [0, whenE (r != c) 3] = 3 by simp [fstE, whenE, hrc]]
      rfl
  rw [← e]
  exact told_same fair_mean rfl fun _ => rfl
theorem kinds_n' {r c p q : Int} {xs zs : List Nat} (h : chk r c xs ≠ 0) : toldB (meanR r c xs) ⟨p, q, zs, chk r c xs⟩ = true := by
  refine told_bad ?_ h
  show meanR r c xs = badM (chk r c xs)
  unfold meanR sqE
  have : fstE [chk r c xs, whenE (r != c) 3] = chk r c xs := by simp [fstE, h]
  rw [this]
  exact if_neg h
/-! ## The mean, as the reference fills it: the diagonal ahead of its row -/
def MeaD (i j a b : Int) : Prop := b ≤ a ∧ (a < i ∨ (a = i ∧ (b = a ∨ b < j)))
theorem mea_start {n : Int} {f : Int → Int → Nat} {i : Nat} {xs : List Nat} {v : Nat} (hs : Siz n n) (hi : (i : Int) < n) (h : PutI n n (lowF 1 f) (LowD 1 i (0 : Nat)) xs) (hv : v = f i i) : PutI n n (lowF 1 f) (MeaD i (0 : Nat)) (xs.set ((i : Int) * n + (i : Int)).toNat v) := by
  refine putI_set hs h ⟨by omega, hi, by omega, hi⟩ (by unfold lowF; rw [if_pos (by omega)]; exact hv) fun a b hab => ?_
  obtain ⟨h1, h2, h3, h4⟩ := hab
  unfold MeaD LowD; omega
theorem mea_step {n : Int} {f : Int → Int → Nat} {i j : Nat} {xs : List Nat} {v : Nat} (hs : Siz n n) (hi : (i : Int) < n) (hj : j < i) (h : PutI n n (lowF 1 f) (MeaD i j) xs) (hv : v = f i j) : PutI n n (lowF 1 f) (MeaD i ((j + 1 : Nat) : Int)) (xs.set ((i : Int) * n + (j : Int)).toNat v) := by
  refine putI_set hs h ⟨by omega, hi, by omega, by omega⟩ (by unfold lowF; rw [if_pos (by omega)]; exact hv) fun a b hab => ?_
  unfold MeaD; omega
theorem mea_end {n : Int} {f : Int → Int → Nat} {i q : Nat} {xs : List Nat} (hq : q = i) (h : PutI n n (lowF 1 f) (MeaD i q) xs) : PutI n n (lowF 1 f) (LowD 1 ((i + 1 : Nat) : Int) ((0 : Nat) : Int)) xs := by
  refine putI_cast h fun a b hab => ?_
  obtain ⟨h1, h2, h3, h4⟩ := hab
  unfold MeaD LowD; omega
theorem meanF_d {r c : Int} {xs : List Nat} {i : Int} : mat c xs i i = meanF r c xs i i := by unfold meanF; rw [if_pos rfl]
theorem meanF_l {r c : Int} {xs : List Nat} {i j : Int} (h : i ≠ j) : fdiv (fadd (mat c xs i j) (mat c xs j i)) TWO = meanF r c xs i j := by unfold meanF; rw [if_neg h]
end Go.Bn
namespace Go.Bn
open Go
/-! ## Column by column -/
/-- Up to column i, and in it up to row j. -/
def ColD (i j a b : Int) : Prop := b < i ∨ (b = i ∧ a < j)
theorem col_zero {r c : Int} {f : Int → Int → Nat} (hs : Siz r c) : PutI r c f (ColD (0 : Nat) (0 : Nat)) (grid r c fun _ _ => 0) := by
  refine putI_cast (putI_grid0 hs) fun a b hab => ?_
  obtain ⟨h1, h2, h3, h4⟩ := hab
  unfold RowD ColD; omega
theorem col_step {r c : Int} {f : Int → Int → Nat} {i j : Nat} {xs : List Nat} {v : Nat} (hs : Siz r c) (hi : (i : Int) < c) (hj : (j : Int) < r) (h : PutI r c f (ColD i j) xs) (hv : v = f j i) : PutI r c f (ColD i ((j + 1 : Nat) : Int)) (xs.set ((j : Int) * c + (i : Int)).toNat v) := by
  refine putI_set hs h ⟨by omega, hj, by omega, hi⟩ hv fun a b _ => ?_
  unfold ColD; omega
theorem col_end {r c : Int} {f : Int → Int → Nat} {i q : Nat} {xs : List Nat} (hs : Siz r c) (hq : q = r.toNat) (h : PutI r c f (ColD i q) xs) : PutI r c f (ColD ((i + 1 : Nat) : Int) ((0 : Nat) : Int)) xs := by
  have h1 := hs.1
  refine putI_cast h fun a b hab => ?_
  obtain ⟨h1, h2, h3, h4⟩ := hab
  unfold ColD; omega
theorem col_done {r c : Int} {f : Int → Int → Nat} {k : Nat} {xs : List Nat} (hs : Siz r c) (hk : k = c.toNat) (h : PutI r c f (ColD k (0 : Nat)) xs) : xs = grid r c f := by
  have h1 := hs.2.2.1
  refine putI_grid hs h fun a b hab => ?_
  obtain ⟨h1, h2, h3, h4⟩ := hab
  unfold ColD; omega
/-! ## Blocks -/
def spanB (f n a : Int) : Bool := ((decide (0 ≤ f) && decide (0 ≤ n)) && decide (f ≤ a)) && decide (n ≤ IntKind.i64.wrap (a - f))
theorem spanB_iff {f n a : Int} (ha : a ≤ 12) : spanB f n a = true ↔ 0 ≤ f ∧ 0 ≤ n ∧ f + n ≤ a := by
  unfold spanB
  simp only [Bool.and_eq_true, decide_eq_true_eq]
  by_cases h : 0 ≤ f ∧ f ≤ a
  · rw [wrap_id (by omega) (by omega)]; omega
  · constructor
    · intro hh; omega
    · intro hh; omega
def blkG (c : Int) (xs : List Nat) (i j p q : Int) : List Nat := grid p q fun k l => mat c xs (i + k) (j + l)
def blkE (r c : Int) (xs : List Nat) (i j p q : Int) : Int := fstE [chk r c xs, whenE (!spanB i p r || !spanB j q c) 1]
def blkR (r c : Int) (xs : List Nat) (i j p q : Int) : MR := orR (blkE r c xs i j p q) ⟨p, q, blkG c xs i j p q, 0⟩
def rbadB (r c i j p q : Int) : Bool := ((((((decide (i < 0) || decide (j < 0)) || decide (p < 0)) || decide (q < 0)) || decide (r < i)) || decide (c < j)) || decide (IntKind.i64.wrap (r - i) < p)) || decide (IntKind.i64.wrap (c - j) < q)
def rblkR (r c : Int) (xs : List Nat) (i j p q : Int) : MR := if rbadB r c i j p q = true then badM 1 else ⟨p, q, blkG c xs i j p q, 0⟩
theorem rbad_eq {r c i j p q : Int} (hs : Siz r c) : rbadB r c i j p q = (!spanB i p r || !spanB j q c) := by
  obtain ⟨h1, h2, h3, h4⟩ := hs
  have e1 := @spanB_iff i p r h2
  have e2 := @spanB_iff j q c h4
  have e : rbadB r c i j p q = true ↔ ¬ ((0 ≤ i ∧ 0 ≤ p ∧ i + p ≤ r) ∧ (0 ≤ j ∧ 0 ≤ q ∧ j + q ≤ c)) := by
    unfold rbadB
    simp only [Bool.or_eq_true, decide_eq_true_eq]
    by_cases ha : 0 ≤ i ∧ i ≤ r
    · by_cases hb : 0 ≤ j ∧ j ≤ c
      · rw [wrap_id (z := r - i) (by omega) (by omega), wrap_id (z := c - j) (by omega) (by omega)]; omega
      · constructor
        · intro _; omega
        · intro _; omega
    · constructor
      · intro _; omega
      · intro _; omega
  rw [← e1, ← e2] at e
  cases hr : rbadB r c i j p q <;> cases h5 : spanB i p r <;> cases h6 : spanB j q c <;> rw [hr, h5, h6] at e <;> simp at e ⊢
theorem blkE_good {r c i j p q : Int} {xs : List Nat} (h : blkE r c xs i j p q = 0) : Good r c xs ∧ Siz p q ∧ 0 ≤ i ∧ i + p ≤ r ∧ 0 ≤ j ∧ j + q ≤ c := by
  unfold blkE at h
  rw [fst2, whenE_zero (by decide)] at h
  obtain ⟨h1, h2⟩ := h
  have hg := chk_good h1
  simp at h2
  have h3 := (spanB_iff hg.1.2.1).1 h2.1
  have h4 := (spanB_iff hg.1.2.2.2).1 h2.2
  have := hg.1
  unfold Siz at this ⊢
  exact ⟨hg, by omega, by omega, by omega, by omega, by omega⟩
theorem rblk_good {r c i j p q : Int} {xs : List Nat} (hg : Good r c xs) (h : rbadB r c i j p q = false) : Siz p q ∧ 0 ≤ i ∧ i + p ≤ r ∧ 0 ≤ j ∧ j + q ≤ c := by
  rw [rbad_eq hg.1] at h
  simp at h
  have h3 := (spanB_iff hg.1.2.1).1 h.1
  have h4 := (spanB_iff hg.1.2.2.2).1 h.2
  have := hg.1
  unfold Siz at this ⊢
  exact ⟨by omega, by omega, by omega, by omega, by omega⟩
theorem fair_blk {r c i j p q : Int} {xs : List Nat} : Fair (blkR r c xs i j p q) := fair_orR fair_ok
theorem blk_y {r c i j p q : Int} {xs : List Nat} (h : chk r c xs = 0) : toldB (blkR r c xs i j p q) (rblkR r c xs i j p q) = true := by
  have e : blkR r c xs i j p q = rblkR r c xs i j p q := by
    unfold blkR rblkR blkE
    rw [rbad_eq (chk_good h).1, h]
    cases (!spanB i p r || !spanB j q c) <;> rfl
  rw [← e]
  exact told_same fair_blk rfl fun _ => rfl
theorem fst_1 {a w : Int} (h : a ≠ 0) : fstE [a, w] = a := by simp [fstE, h]
theorem blk_n {r c i j p q u v : Int} {xs zs : List Nat} (h : chk r c xs ≠ 0) : toldB (blkR r c xs i j p q) ⟨u, v, zs, chk r c xs⟩ = true := by
  refine told_bad ?_ h
  show blkR r c xs i j p q = badM (chk r c xs)
  unfold blkR blkE
  rw [fst_1 h]
  exact if_neg h
/-! ## Side by side, one on top of the other -/
def besF (c : Int) (xs : List Nat) (c' : Int) (ys : List Nat) (i j : Int) : Nat := if j < c then mat c xs i j else mat c' ys i (j - c)
def besG (r c : Int) (xs : List Nat) (c' : Int) (ys : List Nat) : List Nat := grid r (c + c') (besF c xs c' ys)
def wr (a b : Int) : Int := IntKind.i64.wrap (a + b)
def besE (r c : Int) (xs : List Nat) (r' c' : Int) (ys : List Nat) : Int := fstE [chk r c xs, chk r' c' ys, whenE (r != r') 3, whenE (decide (12 < wr c c')) 1]
def besR (r c : Int) (xs : List Nat) (r' c' : Int) (ys : List Nat) : MR := orR (besE r c xs r' c' ys) ⟨r, c + c', besG r c xs c' ys, 0⟩
theorem besE_good {r c r' c' : Int} {xs ys : List Nat} (h : besE r c xs r' c' ys = 0) : Good r c xs ∧ Good r c' ys ∧ r' = r ∧ Siz r (c + c') := by
  unfold besE at h
  rw [fst4, whenE_zero (by decide), whenE_zero (by decide)] at h
  obtain ⟨h1, h2, h3, h4⟩ := h
  have g1 := chk_good h1
  have g2 := chk_good h2
  simp at h3
  subst h3
  have q1 := g1.1
  have q2 := g2.1
  unfold Siz at q1 q2
  have e : wr c c' = c + c' := wrap_id (by omega) (by omega)
  rw [e] at h4
  simp at h4
  exact ⟨g1, g2, rfl, by unfold Siz; omega⟩
def rbesR (r c : Int) (xs : List Nat) (r' c' : Int) (ys : List Nat) : MR := if r ≠ r' then badM 3 else if 12 < c + c' then badM 1 else ⟨r, c + c', besG r c xs c' ys, 0⟩
theorem bes_eq {r c r' c' : Int} {xs ys : List Nat} (h1 : chk r c xs = 0) (h2 : chk r' c' ys = 0) : besR r c xs r' c' ys = rbesR r c xs r' c' ys := by
  have q1 := (chk_good h1).1
  have q2 := (chk_good h2).1
  unfold Siz at q1 q2
  have e : wr c c' = c + c' := wrap_id (by omega) (by omega)
  unfold besR rbesR besE
  rw [h1, h2, e]
  by_cases hr : r = r'
  · rw [if_neg (by simpa using hr)]
    by_cases hc : 12 < c + c'
    · rw [if_pos hc, show fstE [0, 0, whenE (r != r') 3, whenE (decide (12 < c + c')) 1] = 1 by simp [fstE, whenE, hr, hc]]; rfl
    · rw [if_neg hc, show fstE [0, 0, whenE (r != r') 3, whenE (decide (12 < c + c')) 1] = 0 by simp [fstE, whenE, hr, hc]]; rfl
  · rw [if_pos hr, show fstE [0, 0, whenE (r != r') 3, whenE (decide (12 < c + c')) 1] = 3 by simp [fstE, whenE, hr]]; rfl
theorem fair_bes {r c r' c' : Int} {xs ys : List Nat} : Fair (besR r c xs r' c' ys) := fair_orR fair_ok
theorem bes_y {r c r' c' : Int} {xs ys : List Nat} (h : fstE [chk r c xs, chk r' c' ys] = 0) : toldB (besR r c xs r' c' ys) (rbesR r c xs r' c' ys) = true := by
  have := fst2.1 h
  rw [← bes_eq this.1 this.2]
  exact told_same fair_bes rfl fun _ => rfl
theorem fst_pre4 {a b w u : Int} (h : fstE [a, b] ≠ 0) : fstE [a, b, w, u] = fstE [a, b] := by
  by_cases ha : a = 0
  · subst ha
    by_cases hb : b = 0
    · subst hb; exact (h rfl).elim
    · simp [fstE, hb]
  · simp [fstE, ha]
theorem bes_n {r c r' c' u v : Int} {xs ys zs : List Nat} (h : fstE [chk r c xs, chk r' c' ys] ≠ 0) : toldB (besR r c xs r' c' ys) ⟨u, v, zs, fstE [chk r c xs, chk r' c' ys]⟩ = true := by
  refine told_bad ?_ h
  show besR r c xs r' c' ys = badM _
  unfold besR besE
  rw [fst_pre4 h]
  exact if_neg h
/-- The two halves of a row. -/
theorem bes_mid {r c c' : Int} {f : Int → Int → Nat} {i q : Nat} {xs : List Nat} (hc : 0 ≤ c) (hq : q = c.toNat) (h : PutI r (c + c') f (RowD i q) xs) : PutI r (c + c') f (RowD i (c + ((0 : Nat) : Int))) xs := by
  refine putI_cast h fun a b hab => ?_
  unfold RowD; omega
theorem bes_step2 {r c c' : Int} {f : Int → Int → Nat} {i j : Nat} {xs : List Nat} {v : Nat} (hs : Siz r (c + c')) (hc : 0 ≤ c) (hi : (i : Int) < r) (hj : (j : Int) < c') (h : PutI r (c + c') f (RowD i (c + (j : Int))) xs) (hv : v = f i (c + j)) : PutI r (c + c') f (RowD i (c + ((j + 1 : Nat) : Int))) (xs.set ((i : Int) * (c + c') + (c + (j : Int))).toNat v) := by
  refine putI_set hs h ⟨by omega, hi, by omega, by omega⟩ hv fun a b _ => ?_
  unfold RowD; omega
theorem bes_end {r c c' : Int} {f : Int → Int → Nat} {i q : Nat} {xs : List Nat} (hs : Siz r (c + c')) (hc : 0 ≤ c') (hq : q = c'.toNat) (h : PutI r (c + c') f (RowD i (c + (q : Int))) xs) : PutI r (c + c') f (RowD ((i + 1 : Nat) : Int) ((0 : Nat) : Int)) xs := by
  refine putI_cast h fun a b hab => ?_
  obtain ⟨h1, h2, h3, h4⟩ := hab
  unfold RowD; omega
theorem besF_l {c c' : Int} {xs ys : List Nat} {i j : Int} (h : j < c) : mat c xs i j = besF c xs c' ys i j := by unfold besF; rw [if_pos h]
theorem besF_r {c c' : Int} {xs ys : List Nat} {i : Int} {j : Nat} : mat c' ys i (j : Int) = besF c xs c' ys i (c + (j : Int)) := by
  unfold besF
  rw [if_neg (by omega), show c + (j : Int) - c = (j : Int) by omega]
def stkE (r c : Int) (xs : List Nat) (r' c' : Int) (ys : List Nat) : Int := fstE [chk r c xs, chk r' c' ys, whenE (c != c') 3, whenE (decide (12 < wr r r')) 1]
def stkR (r c : Int) (xs : List Nat) (r' c' : Int) (ys : List Nat) : MR := orR (stkE r c xs r' c' ys) ⟨r + r', c, xs ++ ys, 0⟩
theorem stkE_good {r c r' c' : Int} {xs ys : List Nat} (h : stkE r c xs r' c' ys = 0) : Good r c xs ∧ Good r' c ys ∧ c' = c ∧ Siz (r + r') c := by
  unfold stkE at h
  rw [fst4, whenE_zero (by decide), whenE_zero (by decide)] at h
  obtain ⟨h1, h2, h3, h4⟩ := h
  have g1 := chk_good h1
  have g2 := chk_good h2
  simp at h3
  subst h3
  have q1 := g1.1
  have q2 := g2.1
  unfold Siz at q1 q2
  have e : wr r r' = r + r' := wrap_id (by omega) (by omega)
  rw [e] at h4
  simp at h4
  exact ⟨g1, g2, rfl, by unfold Siz; omega⟩
theorem good_stk {r c r' : Int} {xs ys : List Nat} (h1 : Good r c xs) (h2 : Good r' c ys) (hs : Siz (r + r') c) : Good (r + r') c (xs ++ ys) := by
  refine ⟨hs, ?_⟩
  rw [List.length_append, Int.natCast_add, h1.2, h2.2, Int.add_mul]
theorem mat_stk {r c r' i j : Int} {xs ys : List Nat} (h1 : Good r c xs) (h2 : Good r' c ys) (hp : Pl (r + r') c i j) : mat c (xs ++ ys) i j = if i < r then mat c xs i j else mat c ys (i - r) j := by
  obtain ⟨p1, p2, p3, p4⟩ := hp
  unfold mat
  by_cases hi : i < r
  · rw [if_pos hi]
    have hq := (show Pl r c i j from ⟨p1, hi, p3, p4⟩).rng h1.1
    have hl := h1.2
    rw [List.getD, List.getD, List.getElem?_append_left (by omega)]
  · rw [if_neg hi]
    have hq := (show Pl r' c (i - r) j from ⟨by omega, by omega, p3, p4⟩).rng h2.1
    have hl := h1.2
    have e : (i - r) * c = i * c - r * c := Int.sub_mul ..
    rw [List.getD, List.getD, List.getElem?_append_right (by omega)]
    congr 2
    omega
/-- Stacked: turned, side by side, turned. -/
theorem stk_tr {r c r' : Int} {xs ys : List Nat} (h1 : Good r c xs) (h2 : Good r' c ys) (hs : Siz (r + r') c) : trG c (r + r') (besG c r (trG r c xs) r' (trG r' c ys)) = xs ++ ys := by
  have hg := good_stk h1 h2 hs
  conv => rhs; rw [← grid_mat hg.1.1 hg.1.2.2.1 hg.2]
  refine grid_congr fun i j q1 q2 q3 q4 => ?_
  rw [mat_stk h1 h2 ⟨q1, q2, q3, q4⟩]
  have e : mat (r + r') (besG c r (trG r c xs) r' (trG r' c ys)) j i = besF r (trG r c xs) r' (trG r' c ys) j i := mat_grid q3 q4 q1 q2
  rw [e]
  unfold besF
  by_cases hi : i < r
  · rw [if_pos hi, if_pos hi]
    exact mat_grid q3 q4 q1 hi
  · rw [if_neg hi, if_neg hi]
    exact mat_grid q3 q4 (by omega) (by omega)
def stkX (x : MR) : MR := if x.e ≠ 0 then x else ⟨x.c, x.r, trG x.r x.c x.a, 0⟩
def rstkR (r c : Int) (xs : List Nat) (r' c' : Int) (ys : List Nat) : MR := stkX (rbesR c r (trG r c xs) c' r' (trG r' c' ys))
theorem stk_eq {r c r' c' : Int} {xs ys : List Nat} (h1 : chk r c xs = 0) (h2 : chk r' c' ys = 0) : stkR r c xs r' c' ys = rstkR r c xs r' c' ys := by
  have g1 := chk_good h1
  have g2 := chk_good h2
  have q1 := g1.1
  have q2 := g2.1
  unfold Siz at q1 q2
  have e : wr r r' = r + r' := wrap_id (by omega) (by omega)
  unfold stkR rstkR stkE
  rw [h1, h2, e]
  by_cases hc : c = c'
  · subst hc
    by_cases hr : 12 < r + r'
    · have e1 : rbesR c r (trG r c xs) c r' (trG r' c ys) = badM 1 := by unfold rbesR; rw [if_neg (by simp), if_pos hr]
      rw [e1, show fstE [0, 0, whenE (c != c) 3, whenE (decide (12 < r + r')) 1] = 1 by simp [fstE, whenE, hr]]; rfl
    · have e1 : rbesR c r (trG r c xs) c r' (trG r' c ys) = ⟨c, r + r', besG c r (trG r c xs) r' (trG r' c ys), 0⟩ := by unfold rbesR; rw [if_neg (by simp), if_neg hr]
      rw [e1, show fstE [0, 0, whenE (c != c) 3, whenE (decide (12 < r + r')) 1] = 0 by simp [fstE, whenE, hr]]
      show (⟨r + r', c, xs ++ ys, 0⟩ : MR) = ⟨r + r', c, trG c (r + r') (besG c r (trG r c xs) r' (trG r' c ys)), 0⟩
      rw [stk_tr g1 g2 (by unfold Siz; omega)]
  · have e1 : rbesR c r (trG r c xs) c' r' (trG r' c' ys) = badM 3 := by unfold rbesR; rw [if_pos hc]
    rw [e1, show fstE [0, 0, whenE (c != c') 3, whenE (decide (12 < r + r')) 1] = 3 by simp [fstE, whenE, hc]]; rfl
theorem fair_stk {r c r' c' : Int} {xs ys : List Nat} : Fair (stkR r c xs r' c' ys) := fair_orR fair_ok
theorem stk_y {r c r' c' : Int} {xs ys : List Nat} (h : fstE [chk r c xs, chk r' c' ys] = 0) : toldB (stkR r c xs r' c' ys) (rstkR r c xs r' c' ys) = true := by
  have := fst2.1 h
  rw [← stk_eq this.1 this.2]
  exact told_same fair_stk rfl fun _ => rfl
theorem stk_n {r c r' c' u v : Int} {xs ys zs : List Nat} (h : fstE [chk r c xs, chk r' c' ys] ≠ 0) : toldB (stkR r c xs r' c' ys) ⟨u, v, zs, fstE [chk r c xs, chk r' c' ys]⟩ = true := by
  refine told_bad ?_ h
  show stkR r c xs r' c' ys = badM _
  unfold stkR stkE
  rw [fst_pre4 h]
  exact if_neg h
theorem flat_le {ls : List (List Nat)} {k : Nat} : (ls.take k).flatten.length ≤ ls.flatten.length := by
  conv => rhs; rw [← List.take_append_drop k ls]
  rw [List.flatten_append, List.length_append]
  omega
theorem rbes_res {r c r' c' : Int} {xs ys : List Nat} (hg : Good r c xs) (hg' : Good r' c' ys) (h : (rbesR r c xs r' c' ys).e = 0) : Good (rbesR r c xs r' c' ys).r (rbesR r c xs r' c' ys).c (rbesR r c xs r' c' ys).a := by
  unfold rbesR at h ⊢
  by_cases hr : r ≠ r'
  · rw [if_pos hr] at h; cases h
  · rw [if_neg hr] at h ⊢
    by_cases hc : 12 < c + c'
    · rw [if_pos hc] at h; cases h
    · rw [if_neg hc]
      have h1 := hg.1
      have h2 := hg'.1
      unfold Siz at h1 h2
      exact show Good r (c + c') (besG r c xs c' ys) from good_grid (by unfold Siz; omega)
end Go.Bn
namespace Go.Bn
open Go
def OkAt (ps : List Int) (a : Nat) : Prop := 0 ≤ ps.getD a 0 ∧ ps.getD a 0 < (ps.length : Int) ∧ ∀ q, q < a → ps.getD q 0 ≠ ps.getD a 0
instance (ps : List Int) (a : Nat) : Decidable (OkAt ps a) := by unfold OkAt; exact inferInstance
def OkTo (ps : List Int) (k : Nat) : Prop := ∀ a, a < k → OkAt ps a
instance (ps : List Int) (k : Nat) : Decidable (OkTo ps k) := by unfold OkTo; exact inferInstance
def permB (ps : List Int) : Bool := decide (OkTo ps ps.length)
theorem okTo_zero {ps : List Int} : OkTo ps 0 := fun a h => by omega
theorem okTo_step {ps : List Int} {k : Nat} (h : OkTo ps k) (hk : OkAt ps k) : OkTo ps (k + 1) := fun a ha => by
  by_cases e : a = k
  · subst e; exact hk
  · exact h a (by omega)
theorem perm_yes {ps : List Int} {k : Nat} (hk : k = ps.length) (h : OkTo ps k) : permB ps = true := by subst hk; exact decide_eq_true h
theorem perm_no {ps : List Int} {k : Nat} (hk : k < ps.length) (h : ¬ OkAt ps k) : permB ps = false := decide_eq_false fun hh => h (hh k hk)
def ordE (r c : Int) (xs : List Nat) (ps : List Int) : Int := fstE [chk r c xs, whenE (r != c || (ps.length : Int) != r) 3]
def ordG (r c : Int) (xs : List Nat) (ps : List Int) : List Nat := grid r c fun i j => mat c xs (ps.getD i.toNat 0) (ps.getD j.toNat 0)
def ordX (r c : Int) (xs : List Nat) (ps : List Int) : MR := if permB ps = true then ⟨r, c, ordG r c xs ps, 0⟩ else badM 1
def ordR (r c : Int) (xs : List Nat) (ps : List Int) : MR := orR (ordE r c xs ps) (ordX r c xs ps)
theorem ordE_good {r c : Int} {xs : List Nat} {ps : List Int} (h : ordE r c xs ps = 0) : Good r c xs ∧ c = r ∧ (ps.length : Int) = r := by
  unfold ordE at h
  rw [fst2, whenE_zero (by decide)] at h
  obtain ⟨h1, h2⟩ := h
  simp at h2
  exact ⟨chk_good h1, h2.1.symm, h2.2⟩
/-- What the first package counts: how often each place was named. -/
def SeenI (ps : List Int) (k : Nat) (m : List Int) : Prop := m.length = 12 ∧ ∀ v, v < 12 → 0 ≤ m.getD v 0 ∧ m.getD v 0 ≤ k ∧ (0 < m.getD v 0 ↔ ∃ q, q < k ∧ ps.getD q 0 = (v : Int))
theorem seen_zero {ps : List Int} : SeenI ps 0 (List.replicate 12 0) := by
  refine ⟨by simp, fun v hv => ?_⟩
  have e : (List.replicate 12 (0 : Int)).getD v 0 = 0 := by
    rw [List.getD, List.getElem?_replicate]
    split <;> rfl
  rw [e]
  refine ⟨by omega, by omega, fun h => by omega, fun ⟨q, hq, _⟩ => by omega⟩
theorem getD_setI {m : List Int} {u v : Nat} {x : Int} (hu : u < m.length) : (m.set u x).getD v 0 = if v = u then x else m.getD v 0 := by
  by_cases h : v = u
  · subst h
    rw [if_pos rfl, List.getD, List.getElem?_set_self hu]; rfl
  · rw [if_neg h, List.getD, List.getElem?_set_ne (fun e => h e.symm), ← List.getD]
theorem seen_step {ps : List Int} {k : Nat} {m : List Int} (h : SeenI ps k m) (h0 : 0 ≤ ps.getD k 0) (h1 : ps.getD k 0 < 12) : SeenI ps (k + 1) (m.set (ps.getD k 0).toNat (m.getD (ps.getD k 0).toNat 0 + 1)) := by
  obtain ⟨hl, h⟩ := h
  refine ⟨by rw [List.length_set]; exact hl, fun v hv => ?_⟩
  rw [getD_setI (by omega)]
  obtain ⟨g1, g2, g3⟩ := h v hv
  by_cases hvu : v = (ps.getD k 0).toNat
  · rw [if_pos hvu, ← hvu]
    exact ⟨by omega, by omega, fun _ => ⟨k, by omega, by omega⟩, fun _ => by omega⟩
  · rw [if_neg hvu]
    refine ⟨g1, by omega, fun hp => ?_, fun ⟨q, hq, he⟩ => ?_⟩
    · obtain ⟨q, hq, he⟩ := g3.1 hp
      exact ⟨q, by omega, he⟩
    · by_cases hqk : q = k
      · subst hqk; omega
      · exact g3.2 ⟨q, by omega, he⟩
theorem seen_new {ps : List Int} {k : Nat} {m : List Int} (h : SeenI ps k m) (h0 : 0 ≤ ps.getD k 0) (h1 : ps.getD k 0 < (ps.length : Int)) (hl : ps.length ≤ 12) (hn : m.getD (ps.getD k 0).toNat 0 ≤ 0) : OkAt ps k := by
  refine ⟨h0, h1, fun q hq he => ?_⟩
  obtain ⟨_, _, g3⟩ := h.2 (ps.getD k 0).toNat (by omega)
  have := g3.2 ⟨q, hq, by omega⟩
  omega
theorem seen_old {ps : List Int} {k : Nat} {m : List Int} (h : SeenI ps k m) (hl : ps.length ≤ 12) (hb : (ps.getD k 0 < 0 ∨ (ps.length : Int) ≤ ps.getD k 0) ∨ 0 < m.getD (ps.getD k 0).toNat 0) : ¬ OkAt ps k := fun ⟨h0, h1, h2⟩ => by
  obtain ⟨_, _, g3⟩ := h.2 (ps.getD k 0).toNat (by omega)
  have hp : 0 < m.getD (ps.getD k 0).toNat 0 := by omega
  obtain ⟨q, hq, he⟩ := g3.1 hp
  exact h2 q hq (by omega)
theorem okAt_rng {ps : List Int} {n i : Int} (hl : (ps.length : Int) = n) (h : OkTo ps ps.length) (h0 : 0 ≤ i) (h1 : i < n) : 0 ≤ ps.getD i.toNat 0 ∧ ps.getD i.toNat 0 < n := by
  have := h i.toNat (by omega)
  exact ⟨this.1, by have := this.2.1; omega⟩
def rordR (r c : Int) (xs : List Nat) (ps : List Int) : MR := if r ≠ c ∨ (ps.length : Int) ≠ r then badM 3 else ordX r c xs ps
theorem fair_ordX {r c : Int} {xs : List Nat} {ps : List Int} : Fair (ordX r c xs ps) := by
  unfold ordX
  split
  · exact fair_ok
  · exact fun _ => rfl
theorem fair_ord {r c : Int} {xs : List Nat} {ps : List Int} : Fair (ordR r c xs ps) := fair_orR fair_ordX
theorem ord_eq {r c : Int} {xs : List Nat} {ps : List Int} (h : chk r c xs = 0) : ordR r c xs ps = rordR r c xs ps := by
  unfold ordR rordR ordE
  rw [h]
  by_cases hb : r ≠ c ∨ (ps.length : Int) ≠ r
  · rw [if_pos hb, show fstE [0, whenE (r != c || (ps.length : Int) != r) 3] = 3 by
      have : (r != c || (ps.length : Int) != r) = true := by simpa using hb
      rw [this]; rfl]
    rfl
  · rw [if_neg hb, show fstE [0, whenE (r != c || (ps.length : Int) != r) 3] = 0 by
      have : (r != c || (ps.length : Int) != r) = false := by simpa using hb
      rw [this]; rfl]
    rfl
theorem ord_y {r c : Int} {xs : List Nat} {ps : List Int} (h : chk r c xs = 0) : toldB (ordR r c xs ps) (rordR r c xs ps) = true := by
  rw [← ord_eq h]
  exact told_same fair_ord rfl fun _ => rfl
theorem ord_n {r c u v : Int} {xs zs : List Nat} {ps : List Int} (h : chk r c xs ≠ 0) : toldB (ordR r c xs ps) ⟨u, v, zs, chk r c xs⟩ = true := by
  refine told_bad ?_ h
  show ordR r c xs ps = badM (chk r c xs)
  unfold ordR ordE
  rw [fst_1 h]
  exact if_neg h
theorem ordX_no {r c : Int} {xs : List Nat} {ps : List Int} (h : permB ps = false) : badM 1 = ordX r c xs ps := by unfold ordX; rw [if_neg (by rw [h]; decide)]
theorem ordX_yes {r c : Int} {xs : List Nat} {ps : List Int} (h : permB ps = true) : ⟨r, c, ordG r c xs ps, 0⟩ = ordX r c xs ps := by unfold ordX; rw [if_pos h]
theorem ordR_ok {r c : Int} {xs : List Nat} {ps : List Int} (h : ordE r c xs ps = 0) : ordX r c xs ps = ordR r c xs ps := (if_pos h).symm
theorem rord_is {r c : Int} {xs : List Nat} {ps : List Int} (h : ¬(r ≠ c ∨ (ps.length : Int) ≠ r)) : ordX r c xs ps = rordR r c xs ps := (if_neg h).symm
/-! ## MatrixParts -/
theorem tr_y {r c : Int} {xs : List Nat} (h : chk r c xs = 0) : toldB (trR r c xs) ⟨c, r, trG r c xs, chk r c xs⟩ = true := by
  rw [trR_ok h, h]
  exact told_same fair_ok rfl fun _ => rfl
theorem tr_n {r c u v : Int} {xs zs : List Nat} (h : chk r c xs ≠ 0) : toldB (trR r c xs) ⟨u, v, zs, chk r c xs⟩ = true := told_bad (if_neg h) h
end Go.Bn
namespace Go.Bn
open Go
theorem tmod_rng (k : Int) {n : Int} (h : 0 < n) : -n < k.tmod n ∧ k.tmod n < n := by
  have h1 := Int.tmod_lt_of_pos k h
  have h2 := Int.tmod_lt_of_pos (-k) h
  rw [Int.neg_tmod] at h2
  omega
theorem tmod_rng0 {k n : Int} (hk : 0 ≤ k) (h : 0 < n) : 0 ≤ k.tmod n ∧ k.tmod n < n := ⟨Int.tmod_nonneg _ hk, Int.tmod_lt_of_pos k h⟩
theorem chk_blk {r c i j p q : Int} {xs : List Nat} (h : chk r c xs = 0) (hs : Siz p q) (h1 : 0 ≤ i) (h2 : i + p ≤ r) (h3 : 0 ≤ j) (h4 : j + q ≤ c) : blkR r c xs i j p q = ⟨p, q, blkG c xs i j p q, 0⟩ ∧ chk p q (blkG c xs i j p q) = 0 := by
  obtain ⟨hg, hf⟩ := chk_zero.1 h
  obtain ⟨z1, z2, z3, z4⟩ := hg.1
  obtain ⟨s1, s2, s3, s4⟩ := hs
  have e : blkE r c xs i j p q = 0 := by
    unfold blkE
    rw [h, (spanB_iff z2).2 ⟨h1, s1, h2⟩, (spanB_iff z4).2 ⟨h3, s3, h4⟩]
    rfl
  refine ⟨if_pos e, chk_zero.2 ⟨good_grid ⟨s1, s2, s3, s4⟩, all_grid.2 fun a b hp => ?_⟩⟩
  obtain ⟨p1, p2, p3, p4⟩ := hp
  exact mat_fin hg ⟨by omega, by omega, by omega, by omega⟩ hf
theorem chk_bes {r c c' : Int} {xs ys : List Nat} (h1 : chk r c xs = 0) (h2 : chk r c' ys = 0) (hs : Siz r (c + c')) : besR r c xs r c' ys = ⟨r, c + c', besG r c xs c' ys, 0⟩ ∧ chk r (c + c') (besG r c xs c' ys) = 0 := by
  obtain ⟨hg, hf⟩ := chk_zero.1 h1
  obtain ⟨hg', hf'⟩ := chk_zero.1 h2
  refine ⟨?_, chk_zero.2 ⟨good_grid hs, all_grid.2 fun a b hp => ?_⟩⟩
  · rw [bes_eq h1 h2]
    unfold rbesR
    have := hs.2.2.2
    rw [if_neg (by simp), if_neg (by omega)]
  · obtain ⟨p1, p2, p3, p4⟩ := hp
    unfold besF
    split
    · exact mat_fin hg ⟨p1, p2, p3, by omega⟩ hf
    · exact mat_fin hg' ⟨p1, p2, by omega, by omega⟩ hf'
theorem all_append {xs ys : List Nat} {p : Nat → Bool} (h1 : xs.all p = true) (h2 : ys.all p = true) : (xs ++ ys).all p = true := by rw [List.all_append, h1, h2]; rfl
theorem chk_stk {r c r' : Int} {xs ys : List Nat} (h1 : chk r c xs = 0) (h2 : chk r' c ys = 0) (hs : Siz (r + r') c) : stkR r c xs r' c ys = ⟨r + r', c, xs ++ ys, 0⟩ ∧ chk (r + r') c (xs ++ ys) = 0 := by
  obtain ⟨hg, hf⟩ := chk_zero.1 h1
  obtain ⟨hg', hf'⟩ := chk_zero.1 h2
  refine ⟨if_pos ?_, chk_zero.2 ⟨good_stk hg hg' hs, all_append hf hf'⟩⟩
  unfold stkE
  have q1 := hg.1
  have q2 := hg'.1
  have q3 := hs
  unfold Siz at q1 q2 q3
  have e : wr r r' = r + r' := wrap_id (by omega) (by omega)
  rw [h1, h2, e, show fstE [0, 0, whenE (c != c) 3, whenE (decide (12 < r + r')) 1] = 0 by
    have : ¬ 12 < r + r' := by omega
    simp [fstE, whenE, this]]
/-- Two blocks side by side. -/
theorem bes_blk {r c k : Int} {xs : List Nat} (hg : Good r c xs) (h0 : 0 ≤ k) (h1 : k ≤ c) : besG r k (blkG c xs 0 0 r k) (c - k) (blkG c xs 0 k r (c - k)) = xs := by
  conv => rhs; rw [← grid_mat hg.1.1 hg.1.2.2.1 hg.2]
  unfold besG
  rw [show k + (c - k) = c by omega]
  refine grid_congr fun i j q1 q2 q3 q4 => ?_
  unfold besF
  by_cases hj : j < k
  · rw [if_pos hj]
    have e : mat k (blkG c xs 0 0 r k) i j = mat c xs (0 + i) (0 + j) := mat_grid q1 q2 q3 hj
    rw [e, Int.zero_add, Int.zero_add]
  · rw [if_neg hj]
    have e : mat (c - k) (blkG c xs 0 k r (c - k)) i (j - k) = mat c xs (0 + i) (k + (j - k)) := mat_grid q1 q2 (by omega) (by omega)
    rw [e, Int.zero_add, show k + (j - k) = j by omega]
/-- Two blocks, one on top of the other. -/
theorem stk_blk {r c k : Int} {xs : List Nat} (hg : Good r c xs) (h0 : 0 ≤ k) (h1 : k ≤ r) : blkG c xs 0 0 k c ++ blkG c xs k 0 (r - k) c = xs := by
  have g1 : Good k c (blkG c xs 0 0 k c) := good_grid (by have := hg.1; unfold Siz at this ⊢; omega)
  have g2 : Good (r - k) c (blkG c xs k 0 (r - k) c) := good_grid (by have := hg.1; unfold Siz at this ⊢; omega)
  have hs : Siz (k + (r - k)) c := by have := hg.1; unfold Siz at this ⊢; omega
  have g3 := good_stk g1 g2 hs
  have e0 : k + (r - k) = r := by omega
  rw [← grid_mat g3.1.1 g3.1.2.2.1 g3.2]
  conv => rhs; rw [← grid_mat hg.1.1 hg.1.2.2.1 hg.2]
  have key : ∀ i j, 0 ≤ i → i < r → 0 ≤ j → j < c → mat c (blkG c xs 0 0 k c ++ blkG c xs k 0 (r - k) c) i j = mat c xs i j := fun i j q1 q2 q3 q4 => by
    rw [mat_stk g1 g2 ⟨q1, by omega, q3, q4⟩]
    by_cases hi : i < k
    · rw [if_pos hi]
      have e : mat c (blkG c xs 0 0 k c) i j = mat c xs (0 + i) (0 + j) := mat_grid q1 hi q3 q4
      rw [e, Int.zero_add, Int.zero_add]
    · rw [if_neg hi]
      have e : mat c (blkG c xs k 0 (r - k) c) (i - k) j = mat c xs (k + (i - k)) (0 + j) := mat_grid (by omega) (by omega) q3 q4
      rw [e, Int.zero_add, show k + (i - k) = i by omega]
  rw [show grid (k + (r - k)) c (mat c (blkG c xs 0 0 k c ++ blkG c xs k 0 (r - k) c)) = grid r c (mat c (blkG c xs 0 0 k c ++ blkG c xs k 0 (r - k) c)) by rw [e0]]
  exact grid_congr key
theorem blocks_1 {r c k n : Int} {xs : List Nat} {l t u w x y : MR} (h : chk r c xs = 0) (hk : 0 ≤ k ∧ k ≤ c) (hn : 0 ≤ n ∧ n ≤ r) (hl : l = blkR r c xs 0 0 r k) (ht : t = blkR r c xs 0 k r (c - k)) (hu : u = blkR r c xs 0 0 n c) (hw : w = blkR r c xs n 0 (r - n) c) (hx : x = besR l.r l.c l.a t.r t.c t.a) (hy : y = stkR u.r u.c u.a w.r w.c w.a)
    (hh : (((cmpB .neq x.e 0 || cmpB .neq y.e 0) || !eqM x.r x.c x.a r c xs) || !eqM y.r y.c y.a r c xs) = true) : False := by
  have hg := chk_good h
  obtain ⟨z1, z2, z3, z4⟩ := hg.1
  obtain ⟨e1, c1⟩ := @chk_blk r c 0 0 r k xs h ⟨z1, z2, hk.1, by omega⟩ (by omega) (by omega) (by omega) (by omega)
  obtain ⟨e2, c2⟩ := @chk_blk r c 0 k r (c - k) xs h ⟨z1, z2, by omega, by omega⟩ (by omega) (by omega) (by omega) (by omega)
  obtain ⟨e3, c3⟩ := @chk_blk r c 0 0 n c xs h ⟨hn.1, by omega, z3, z4⟩ (by omega) (by omega) (by omega) (by omega)
  obtain ⟨e4, c4⟩ := @chk_blk r c n 0 (r - n) c xs h ⟨by omega, by omega, z3, z4⟩ (by omega) (by omega) (by omega) (by omega)
  rw [hl, ht, e1, e2] at hx
  rw [hu, hw, e3, e4] at hy
  have b1 := (chk_bes c1 c2 ⟨z1, z2, by omega, by omega⟩).1
  have b2 := (chk_stk c3 c4 ⟨by omega, by omega, z3, z4⟩).1
  rw [bes_blk hg hk.1 hk.2, show k + (c - k) = c by omega] at b1
  rw [stk_blk hg hn.1 hn.2, show n + (r - n) = r by omega] at b2
  rw [hx, hy] at hh
  rw [show besR (MR.r ⟨r, k, blkG c xs 0 0 r k, 0⟩) (MR.c ⟨r, k, blkG c xs 0 0 r k, 0⟩) (MR.a ⟨r, k, blkG c xs 0 0 r k, 0⟩) (MR.r ⟨r, c - k, blkG c xs 0 k r (c - k), 0⟩) (MR.c ⟨r, c - k, blkG c xs 0 k r (c - k), 0⟩) (MR.a ⟨r, c - k, blkG c xs 0 k r (c - k), 0⟩) = _ from b1, show stkR (MR.r ⟨n, c, blkG c xs 0 0 n c, 0⟩) (MR.c ⟨n, c, blkG c xs 0 0 n c, 0⟩) (MR.a ⟨n, c, blkG c xs 0 0 n c, 0⟩) (MR.r ⟨r - n, c, blkG c xs n 0 (r - n) c, 0⟩) (MR.c ⟨r - n, c, blkG c xs n 0 (r - n) c, 0⟩) (MR.a ⟨r - n, c, blkG c xs n 0 (r - n) c, 0⟩) = _ from b2] at hh
  simp [cmpB, eqM] at hh
/-! ## Products by parts -/
theorem col_bes_l {r c c' j : Int} {xs ys : List Nat} (h0 : 0 ≤ j) (h1 : j < c) (hc : 0 ≤ c') : colL r (c + c') (besG r c xs c' ys) j = colL r c xs j := by
  unfold colL
  apply List.map_congr_left
  intro k hk
  rw [List.mem_range] at hk
  have e : mat (c + c') (besG r c xs c' ys) (k : Nat) j = besF c xs c' ys (k : Nat) j := mat_grid (by omega) (by omega) h0 (by omega)
  rw [e]
  unfold besF
  rw [if_pos h1]
theorem col_bes_r {r c c' j : Int} {xs ys : List Nat} (h0 : c ≤ j) (h1 : j < c + c') (hc : 0 ≤ c) : colL r (c + c') (besG r c xs c' ys) j = colL r c' ys (j - c) := by
  unfold colL
  apply List.map_congr_left
  intro k hk
  rw [List.mem_range] at hk
  have e : mat (c + c') (besG r c xs c' ys) (k : Nat) j = besF c xs c' ys (k : Nat) j := mat_grid (by omega) (by omega) (by omega) h1
  rw [e]
  unfold besF
  rw [if_neg (by omega)]
theorem prod_bes {r c p q : Int} {xs ys zs : List Nat} (hp : 0 ≤ p) (hq : 0 ≤ q) : prodG r c xs (p + q) (besG c p ys q zs) = besG r p (prodG r c xs p ys) q (prodG r c xs q zs) := by
  refine grid_congr fun i j h1 h2 h3 h4 => ?_
  unfold besF
  by_cases hj : j < p
  · rw [if_pos hj, col_bes_l h3 hj hq]
    exact (show mat p (prodG r c xs p ys) i j = dotL (rowL c xs i) (colL c p ys j) from mat_grid h1 h2 h3 hj).symm
  · rw [if_neg hj, col_bes_r (by omega) h4 hp]
    exact (show mat q (prodG r c xs q zs) i (j - p) = dotL (rowL c xs i) (colL c q zs (j - p)) from mat_grid h1 h2 (by omega) (by omega)).symm
theorem toldR_e {r c : Int} {xs : List Nat} (h : (toldR r c xs).e = 0) : xs.all finB = true ∧ toldR r c xs = ⟨r, c, xs, 0⟩ := by
  unfold toldR at h ⊢
  cases hf : xs.all finB
  · rw [hf] at h; cases h
  · exact ⟨rfl, by rw [if_neg (by decide)]⟩
theorem mul_ok_e {r c r' c' : Int} {xs ys : List Nat} (h : (mulR r c xs r' c' ys).e = 0) : chk r c xs = 0 ∧ chk r' c' ys = 0 ∧ r' = c ∧ (prodG r c xs c' ys).all finB = true ∧ mulR r c xs r' c' ys = ⟨r, c', prodG r c xs c' ys, 0⟩ := by
  obtain ⟨h1, h2⟩ := orR_zero (show (orR _ _).e = 0 from h)
  have h3 : (toldR r c' (prodG r c xs c' ys)).e = 0 := by rw [← h2]; exact h
  obtain ⟨hf, ht⟩ := toldR_e h3
  obtain ⟨_, _, e1, _, _⟩ := mulE_good h1
  unfold mulE at h1
  have h4 := (fst3.1 h1)
  exact ⟨h4.1, h4.2.1, e1, hf, h2.trans ht⟩
theorem mul_is {r c c' : Int} {xs ys : List Nat} (h1 : chk r c xs = 0) (h2 : chk c c' ys = 0) (hf : (prodG r c xs c' ys).all finB = true) : mulR r c xs c c' ys = ⟨r, c', prodG r c xs c' ys, 0⟩ := by
  rw [← rmul_yes h1 h2 rfl]
  exact toldR_ok hf
theorem bes_ok_e {r c r' c' : Int} {xs ys : List Nat} (h : (besR r c xs r' c' ys).e = 0) : chk r c xs = 0 ∧ chk r' c' ys = 0 ∧ r' = r ∧ Siz r (c + c') := by
  obtain ⟨h1, _⟩ := orR_zero (show (orR _ _).e = 0 from h)
  obtain ⟨_, _, e1, hs⟩ := besE_good h1
  unfold besE at h1
  have h4 := (fst4.1 h1)
  exact ⟨h4.1, h4.2.1, e1, hs⟩
theorem stk_ok_e {r c r' c' : Int} {xs ys : List Nat} (h : (stkR r c xs r' c' ys).e = 0) : chk r c xs = 0 ∧ chk r' c' ys = 0 ∧ c' = c ∧ Siz (r + r') c := by
  obtain ⟨h1, _⟩ := orR_zero (show (orR _ _).e = 0 from h)
  obtain ⟨_, _, e1, hs⟩ := stkE_good h1
  unfold stkE at h1
  have h4 := (fst4.1 h1)
  exact ⟨h4.1, h4.2.1, e1, hs⟩
theorem all_bes {r c c' : Int} {xs ys : List Nat} {p : Nat → Bool} (h1 : Good r c xs) (h2 : Good r c' ys) (f1 : xs.all p = true) (f2 : ys.all p = true) : (besG r c xs c' ys).all p = true := by
  rw [all_good h1] at f1
  rw [all_good h2] at f2
  refine all_grid.2 fun a b hp => ?_
  obtain ⟨p1, p2, p3, p4⟩ := hp
  unfold besF
  split
  · exact f1 a b ⟨p1, p2, p3, by omega⟩
  · exact f2 a (b - c) ⟨p1, p2, by omega, by omega⟩
/-- A product with two side by side: two products side by side. -/
theorem blocks_3 {r c r1 c1 r2 c2 : Int} {xs ys zs : List Nat} {bs ab ac m w : MR} (hb : bs = besR r1 c1 ys r2 c2 zs) (h1 : ab = mulR r c xs r1 c1 ys) (h2 : ac = mulR r c xs r2 c2 zs) (hm : m = mulR r c xs bs.r bs.c bs.a) (hw : w = besR ab.r ab.c ab.a ac.r ac.c ac.a)
    (he : (bs.e = 0 ∧ ab.e = 0) ∧ ac.e = 0) (hh : ((cmpB .neq m.e 0 || cmpB .neq w.e 0) || !eqM m.r m.c m.a w.r w.c w.a) = true) : False := by
  obtain ⟨⟨e1, e2⟩, e3⟩ := he
  rw [hb] at e1
  rw [h1] at e2
  rw [h2] at e3
  obtain ⟨b1, b2, b3, b4⟩ := bes_ok_e e1
  obtain ⟨m1, m2, m3, m4, m5⟩ := mul_ok_e e2
  obtain ⟨n1, n2, n3, n4, n5⟩ := mul_ok_e e3
  subst b3
  subst m3
  obtain ⟨q1, q2⟩ := chk_bes b1 b2 b4
  have g1 := chk_good b1
  have g2 := chk_good b2
  have hc1 := g1.1.2.2.1
  have hc2 := g2.1.2.2.1
  have gx := chk_good m1
  have gp := good_prod gx g1
  have gq := good_prod gx g2
  have ca := chk_of gp m4
  have cb := chk_of gq n4
  have s1 := gx.1
  have s2 : Siz r (c1 + c2) := by unfold Siz at b4 s1 ⊢; omega
  have w1 := (chk_bes ca cb s2).1
  have f : (prodG r r2 xs (c1 + c2) (besG r2 c1 ys c2 zs)).all finB = true := by rw [prod_bes hc1 hc2]; exact all_bes gp gq m4 n4
  have w2 := mul_is m1 q2 f
  rw [prod_bes hc1 hc2] at w2
  rw [h1, h2, m5, n5] at hw
  rw [hb, q1] at hm
  rw [show mulR r r2 xs (MR.r ⟨r2, c1 + c2, besG r2 c1 ys c2 zs, 0⟩) (MR.c ⟨r2, c1 + c2, besG r2 c1 ys c2 zs, 0⟩) (MR.a ⟨r2, c1 + c2, besG r2 c1 ys c2 zs, 0⟩) = _ from w2] at hm
  rw [show besR (MR.r ⟨r, c1, prodG r r2 xs c1 ys, 0⟩) (MR.c ⟨r, c1, prodG r r2 xs c1 ys, 0⟩) (MR.a ⟨r, c1, prodG r r2 xs c1 ys, 0⟩) (MR.r ⟨r, c2, prodG r r2 xs c2 zs, 0⟩) (MR.c ⟨r, c2, prodG r r2 xs c2 zs, 0⟩) (MR.a ⟨r, c2, prodG r r2 xs c2 zs, 0⟩) = _ from w1] at hw
  rw [hm, hw] at hh
  simp [cmpB, eqM] at hh
theorem row_stk_l {r c r' i : Int} {xs ys : List Nat} (h1 : Good r c xs) (h2 : Good r' c ys) (h0 : 0 ≤ i) (hi : i < r) : rowL c (xs ++ ys) i = rowL c xs i := by
  have := h2.1.1
  refine rowL_congr rfl fun j q1 q2 => ?_
  rw [mat_stk h1 h2 ⟨h0, by omega, q1, q2⟩, if_pos hi]
theorem row_stk_r {r c r' i : Int} {xs ys : List Nat} (h1 : Good r c xs) (h2 : Good r' c ys) (h0 : r ≤ i) (hi : i < r + r') : rowL c (xs ++ ys) i = rowL c ys (i - r) := by
  have := h1.1.1
  refine rowL_congr rfl fun j q1 q2 => ?_
  rw [mat_stk h1 h2 ⟨by omega, hi, q1, q2⟩, if_neg (by omega)]
theorem prod_stk {r c r' p : Int} {xs ys zs : List Nat} (h1 : Good r c xs) (h2 : Good r' c ys) (h3 : Good c p zs) (hs : Siz (r + r') p) : prodG (r + r') c (xs ++ ys) p zs = prodG r c xs p zs ++ prodG r' c ys p zs := by
  have g1 := good_prod h1 h3
  have g2 := good_prod h2 h3
  have g := good_stk g1 g2 hs
  conv => rhs; rw [← grid_mat g.1.1 g.1.2.2.1 g.2]
  refine grid_congr fun i j q1 q2 q3 q4 => ?_
  rw [mat_stk g1 g2 ⟨q1, q2, q3, q4⟩]
  by_cases hi : i < r
  · rw [if_pos hi, row_stk_l h1 h2 q1 hi]
    exact (show mat p (prodG r c xs p zs) i j = dotL (rowL c xs i) (colL c p zs j) from mat_grid q1 hi q3 q4).symm
  · rw [if_neg hi, row_stk_r h1 h2 (by omega) q2]
    exact (show mat p (prodG r' c ys p zs) (i - r) j = dotL (rowL c ys (i - r)) (colL c p zs j) from mat_grid (by omega) (by omega) q3 q4).symm
/-- A product of two, one on top of the other: two products, one on top of the other. -/
theorem blocks_4 {r c r1 c1 r2 c2 : Int} {xs ys zs : List Nat} {st ac bc m w : MR} (hb : st = stkR r c xs r1 c1 ys) (h1 : ac = mulR r c xs r2 c2 zs) (h2 : bc = mulR r1 c1 ys r2 c2 zs) (hm : m = mulR st.r st.c st.a r2 c2 zs) (hw : w = stkR ac.r ac.c ac.a bc.r bc.c bc.a)
    (he : (st.e = 0 ∧ ac.e = 0) ∧ bc.e = 0) : ((cmpB .eql m.e 0 && cmpB .eql w.e 0) && eqM m.r m.c m.a w.r w.c w.a) = true := by
  obtain ⟨⟨e1, e2⟩, e3⟩ := he
  rw [hb] at e1
  rw [h1] at e2
  rw [h2] at e3
  obtain ⟨b1, b2, b3, b4⟩ := stk_ok_e e1
  obtain ⟨m1, m2, m3, m4, m5⟩ := mul_ok_e e2
  obtain ⟨n1, n2, n3, n4, n5⟩ := mul_ok_e e3
  subst m3
  subst b3
  obtain ⟨q1, q2⟩ := chk_stk b1 b2 b4
  have g1 := chk_good b1
  have g2 := chk_good b2
  have g3 := chk_good m2
  have gp := good_prod g1 g3
  have gq := good_prod g2 g3
  have ca := chk_of gp m4
  have cb := chk_of gq n4
  have s3 := g3.1
  have s2 : Siz (r + r1) c2 := by unfold Siz at b4 s3 ⊢; omega
  have w1 := (chk_stk ca cb s2).1
  have f : (prodG (r + r1) c1 (xs ++ ys) c2 zs).all finB = true := by rw [prod_stk g1 g2 g3 s2]; exact all_append m4 n4
  have w2 := mul_is q2 m2 f
  rw [prod_stk g1 g2 g3 s2] at w2
  rw [h1, h2, m5, n5] at hw
  rw [hb, q1] at hm
  rw [show mulR (MR.r ⟨r + r1, c1, xs ++ ys, 0⟩) (MR.c ⟨r + r1, c1, xs ++ ys, 0⟩) (MR.a ⟨r + r1, c1, xs ++ ys, 0⟩) c1 c2 zs = _ from w2] at hm
  rw [show stkR (MR.r ⟨r, c2, prodG r c1 xs c2 zs, 0⟩) (MR.c ⟨r, c2, prodG r c1 xs c2 zs, 0⟩) (MR.a ⟨r, c2, prodG r c1 xs c2 zs, 0⟩) (MR.r ⟨r1, c2, prodG r1 c1 ys c2 zs, 0⟩) (MR.c ⟨r1, c2, prodG r1 c1 ys c2 zs, 0⟩) (MR.a ⟨r1, c2, prodG r1 c1 ys c2 zs, 0⟩) = _ from w1] at hw
  rw [hm, hw]
  simp [cmpB, eqM]
/-! ## An order and its turning -/
/-- Who leads n numbers apart into n numbers meets them all. -/
theorem meets_all : ∀ (n : Nat) (f : Nat → Nat), (∀ i, i < n → f i < n) → (∀ i j, i < n → j < n → f i = f j → i = j) → ∀ v, v < n → ∃ i, i < n ∧ f i = v
  | 0, _, _, _, v, hv => by omega
  | n + 1, f, h1, h2, v, hv => by
    by_cases hw : f n = n
    · have hlt : ∀ i, i < n → f i < n := fun i hi => by
        have := h1 i (by omega)
        have hne : f i ≠ n := fun e => by have := h2 i n (by omega) (by omega) (e.trans hw.symm); omega
        omega
      by_cases hvn : v = n
      · exact ⟨n, by omega, by omega⟩
      · obtain ⟨i, hi, he⟩ := meets_all n f hlt (fun i j hi hj => h2 i j (by omega) (by omega)) v (by omega)
        exact ⟨i, by omega, he⟩
    · have hwn : f n < n := by have := h1 n (by omega); omega
      have hg1 : ∀ i, i < n → (if f i = n then f n else f i) < n := fun i hi => by
        split
        · exact hwn
        · have := h1 i (by omega); omega
      have hg2 : ∀ i j, i < n → j < n → (if f i = n then f n else f i) = (if f j = n then f n else f j) → i = j := fun i j hi hj he => by
        by_cases a : f i = n <;> by_cases b : f j = n
        · exact h2 i j (by omega) (by omega) (a.trans b.symm)
        · rw [if_pos a, if_neg b] at he
          have := h2 n j (by omega) (by omega) he; omega
        · rw [if_neg a, if_pos b] at he
          have := h2 i n (by omega) (by omega) he; omega
        · rw [if_neg a, if_neg b] at he
          exact h2 i j (by omega) (by omega) he
      have ih := meets_all n _ hg1 hg2
      by_cases hvw : v = f n
      · exact ⟨n, by omega, hvw.symm⟩
      · by_cases hvn : v = n
        · obtain ⟨i, hi, he⟩ := ih (f n) hwn
          by_cases a : f i = n
          · exact ⟨i, by omega, by omega⟩
          · rw [if_neg a] at he
            have := h2 i n (by omega) (by omega) he; omega
        · obtain ⟨i, hi, he⟩ := ih v (by omega)
          by_cases a : f i = n
          · rw [if_pos a] at he; exact (hvw he.symm).elim
          · rw [if_neg a] at he
            exact ⟨i, by omega, he⟩
/-- The turning, up to k. -/
def BackI (ps : List Int) (k : Nat) (m : List Int) : Prop := m.length = ps.length ∧ ∀ a, a < k → m.getD (ps.getD a 0).toNat 0 = (a : Int)
theorem back_zero {ps m : List Int} (h : m.length = ps.length) : BackI ps 0 m := ⟨h, fun a ha => by omega⟩
theorem back_step {ps m : List Int} {k : Nat} (ho : OkTo ps ps.length) (hk : k < ps.length) (h : BackI ps k m) : BackI ps (k + 1) (m.set (ps.getD k 0).toNat (k : Int)) := by
  obtain ⟨hl, h⟩ := h
  obtain ⟨o1, o2, o3⟩ := ho k hk
  refine ⟨by rw [List.length_set]; exact hl, fun a ha => ?_⟩
  rw [getD_setI (by omega)]
  by_cases hak : a = k
  · subst hak; rw [if_pos rfl]
  · have h1 := o3 a (by omega)
    have h2 := (ho a (by omega)).1
    rw [if_neg (by omega)]
    exact h a (by omega)
theorem back_all {ps m : List Int} (ho : OkTo ps ps.length) (h : BackI ps ps.length m) : OkTo m m.length ∧ ∀ v, v < ps.length → 0 ≤ m.getD v 0 ∧ m.getD v 0 < (ps.length : Int) ∧ ps.getD (m.getD v 0).toNat 0 = (v : Int) := by
  obtain ⟨hl, h⟩ := h
  have inj : ∀ i j, i < ps.length → j < ps.length → (ps.getD i 0).toNat = (ps.getD j 0).toNat → i = j := fun i j hi hj he => by
    obtain ⟨a1, a2, a3⟩ := ho i hi
    obtain ⟨b1, b2, b3⟩ := ho j hj
    rcases Nat.lt_trichotomy i j with q | q | q
    · exact (b3 i q (by omega)).elim
    · exact q
    · exact (a3 j q (by omega)).elim
  have sur := meets_all ps.length (fun i => (ps.getD i 0).toNat) (fun i hi => by have := ho i hi; have := this.1; have := (ho i hi).2.1; show (ps.getD i 0).toNat < _; omega) inj
  have key : ∀ v, v < ps.length → 0 ≤ m.getD v 0 ∧ m.getD v 0 < (ps.length : Int) ∧ ps.getD (m.getD v 0).toNat 0 = (v : Int) := fun v hv => by
    obtain ⟨a, ha, he⟩ := sur v hv
    have he : (ps.getD a 0).toNat = v := he
    have hm := h a ha
    rw [he] at hm
    rw [hm]
    have := (ho a ha).1
    refine ⟨by omega, by omega, ?_⟩
    rw [Int.toNat_natCast]
    omega
  refine ⟨fun v hv => ?_, key⟩
  rw [hl] at hv
  obtain ⟨k1, k2, k3⟩ := key v hv
  refine ⟨k1, by rw [hl]; exact k2, fun q hq he => ?_⟩
  obtain ⟨_, _, l3⟩ := key q (by omega)
  rw [he, k3] at l3
  omega
theorem ord_ok_e {r c : Int} {xs : List Nat} {ps : List Int} (h : (ordR r c xs ps).e = 0) : chk r c xs = 0 ∧ c = r ∧ (ps.length : Int) = r ∧ OkTo ps ps.length ∧ ordR r c xs ps = ⟨r, c, ordG r c xs ps, 0⟩ ∧ chk r c (ordG r c xs ps) = 0 := by
  obtain ⟨h1, h2⟩ := orR_zero (show (orR _ _).e = 0 from h)
  obtain ⟨hg, e1, e2⟩ := ordE_good h1
  have hc : chk r c xs = 0 := by unfold ordE at h1; exact (fst2.1 h1).1
  have h3 : ordR r c xs ps = ordX r c xs ps := h2
  rw [h3] at h ⊢
  unfold ordX at h ⊢
  by_cases hp : permB ps = true
  · rw [if_pos hp]
    have ho : OkTo ps ps.length := of_decide_eq_true hp
    refine ⟨hc, e1, e2, ho, rfl, chk_of (good_grid hg.1) (all_grid.2 fun i j q => ?_)⟩
    obtain ⟨q1, q2, q3, q4⟩ := q
    obtain ⟨z1, z2⟩ := okAt_rng e2 ho q1 q2
    obtain ⟨z3, z4⟩ := okAt_rng e2 ho q3 (show j < r by omega)
    exact mat_fin hg ⟨z1, z2, z3, by omega⟩ (chk_zero.1 hc).2
  · rw [if_neg hp] at h; cases h
theorem blocks_2a {r c : Int} {xs : List Nat} {ps : List Int} (he : (ordR r c xs ps).e = 0) (hh : (cmpB .neq (chk r c xs) 0 || cmpB .neq (rordR r c xs ps).e 0) = true) : False := by
  have hc := (ord_ok_e he).1
  rw [← ord_eq hc, he, hc] at hh
  simp [cmpB] at hh
theorem ord_back {r c : Int} {xs : List Nat} {ps m : List Int} (he : (ordR r c xs ps).e = 0) (hb : BackI ps ps.length m) : ordR (ordR r c xs ps).r (ordR r c xs ps).c (ordR r c xs ps).a m = ⟨r, c, xs, 0⟩ := by
  obtain ⟨hc, e1, e2, ho, hx, hco⟩ := ord_ok_e he
  rw [hx]
  obtain ⟨hm, hv⟩ := back_all ho hb
  have hml : (m.length : Int) = r := by rw [hb.1]; exact e2
  have hpm : permB m = true := decide_eq_true hm
  have e3 : ordE r c (ordG r c xs ps) m = 0 := by
    unfold ordE
    rw [hco, e1, hml]
    simp [fstE, whenE]
  have e4 : ordR r c (ordG r c xs ps) m = ⟨r, c, ordG r c (ordG r c xs ps) m, 0⟩ := (if_pos e3).trans (if_pos hpm)
  have hg := chk_good hc
  have e5 : ordG r c (ordG r c xs ps) m = xs := by
    conv => rhs; rw [← grid_mat hg.1.1 hg.1.2.2.1 hg.2]
    refine grid_congr fun i j q1 q2 q3 q4 => ?_
    obtain ⟨a1, a2, a3⟩ := hv i.toNat (by omega)
    obtain ⟨b1, b2, b3⟩ := hv j.toNat (by omega)
    have e : mat c (ordG r c xs ps) (m.getD i.toNat 0) (m.getD j.toNat 0) = mat c xs (ps.getD (m.getD i.toNat 0).toNat 0) (ps.getD (m.getD j.toNat 0).toNat 0) := mat_grid a1 (by omega) b1 (by omega)
    rw [e, a3, b3, show ((i.toNat : Nat) : Int) = i by omega, show ((j.toNat : Nat) : Int) = j by omega]
  rw [e5] at e4
  exact e4
theorem blocks_2b {r c : Int} {xs : List Nat} {ps m : List Int} {x y : MR} (hx : x = ordR r c xs ps) (he : x.e = 0) (hb : BackI ps ps.length m) (hy : y = ordR x.r x.c x.a m) (hh : (cmpB .neq y.e 0 || !eqM y.r y.c y.a r c xs) = true) : False := by
  subst hx
  rw [hy, ord_back he hb] at hh
  simp [cmpB, eqM] at hh
end Go.Bn
namespace Go.Bn
open Go
/-- The word of the k-th power of two. -/
def P2 (k : Int) : Nat := (k + 1023).toNat * 4503599627370496
theorem p2_lt {k : Int} (h0 : -500 ≤ k) (h1 : k ≤ 500) : P2 k < 2 ^ 64 := by unfold P2; omega
theorem p2_rung {k : Int} (h0 : -500 ≤ k) (h1 : k ≤ 500) : rung (P2 k) = P2 k ∧ P2 k < 9218868437227405312 := by unfold rung P2; omega
theorem p2_parts {k : Int} (h0 : -500 ≤ k) (h1 : k ≤ 500) : sgn (P2 k) = false ∧ mgn (P2 k) = 4503599627370496 ∧ plc (P2 k) = k - 52 := by
  obtain ⟨h2, h3⟩ := p2_rung h0 h1
  refine ⟨?_, ?_, ?_⟩
  · unfold sgn
    have : P2 k / 9223372036854775808 = 0 := by omega
    rw [this]; rfl
  · unfold mgn
    rw [h2, if_neg (by unfold P2; omega)]
    unfold P2; omega
  · unfold plc
    rw [h2, if_neg (by unfold P2; omega)]
    unfold P2; omega
theorem p2_fin {k : Int} (h0 : -500 ≤ k) (h1 : k ≤ 500) : finB (P2 k) = true := (finB_iff (p2_lt h0 h1)).2 (by have := p2_rung h0 h1; omega)
theorem mul_shift2 (m : Nat) : m * 4503599627370496 = m <<< 52 := by rw [Nat.mul_comm, mul_shift]
theorem fmul_fin {x y : Nat} (hx : rung x < 9218868437227405312) (hy : rung y < 9218868437227405312) : fmul x y = Ieee.double.nearest (sgn x ^^ sgn y) (mgn x * mgn y) (plc x + plc y) := by
  unfold fmul Ieee.Format.mul
  rw [read_fin hx, read_fin hy]
  rfl
/-- A finite number times a power of two. -/
theorem fmul_p2 {x : Nat} {k : Int} (hr : rung x < 9218868437227405312) (h0 : -500 ≤ k) (h1 : k ≤ 500) : fmul x (P2 k) = Ieee.double.nearest (sgn x) (mgn x) (plc x + k) := by
  obtain ⟨q1, q2, q3⟩ := p2_parts h0 h1
  obtain ⟨q4, q5⟩ := p2_rung h0 h1
  have hy : rung (P2 k) < 9218868437227405312 := by omega
  generalize P2 k = y at *
  rw [fmul_fin hr hy, q1, q2, q3, Bool.xor_false, mul_shift2]
  have e : plc x + (k - 52) = plc x + k - ((52 : Nat) : Int) := by omega
  rw [e]
  exact nearest_scale
theorem nearest_norm {s : Bool} {m t : Nat} (h0 : 4503599627370496 ≤ m) (h1 : m < 9007199254740992) (ht : t ≤ 2045) : Ieee.double.nearest s m (-1074 + (t : Int)) = Ieee.double.word s (t * 4503599627370496 + m) := by
  have hl : m.log2 = 52 := (Nat.log2_eq_iff (by omega)).2 ⟨by omega, by omega⟩
  unfold Ieee.Format.nearest
  simp only [lpE, fbE, binA, infR]
  rw [if_neg (by omega), hl, show max (-1074 + (t : Int) + ((52 : Nat) : Int) - ((52 : Nat) : Int)) (-1074 : Int) = -1074 + (t : Int) by omega]
  rw [show (-1074 + (t : Int) - (-1074 + (t : Int))).toNat = 0 by omega, Nat.shiftLeft_zero, cut_zero, show (-1074 + (t : Int) - -1074).toNat = t by omega]
  rw [Nat.min_eq_left (by omega)]
theorem word_norm {s : Bool} {m t : Nat} (h0 : 4503599627370496 ≤ m) (h1 : m < 9007199254740992) (ht : t ≤ 2045) (w : Nat) (hw : Ieee.double.word s (t * 4503599627370496 + m) = w) : sgn w = s ∧ mgn w = m ∧ plc w = -1074 + (t : Int) ∧ rung w < 9218868437227405312 ∧ w < 2 ^ 64 := by
  obtain ⟨g1, g2, g3⟩ := @word_parts s (t * 4503599627370496 + m) (by omega)
  rw [hw] at g1 g2 g3
  refine ⟨g1, ?_, ?_, by omega, g3⟩
  · unfold mgn
    rw [g2, if_neg (by omega)]
    omega
  · unfold plc
    rw [g2, if_neg (by omega)]
    omega
def expE (x : Nat) : Int := (expo x : Int) - 1022
/-- Back and forth: nothing is lost. -/
theorem twos_back {x : Nat} {k : Int} (hx : x < 2 ^ 64) (hr : rung x < 9218868437227405312) (h0 : -500 ≤ k) (h1 : k ≤ 500) (hn : mgn x = 0 ∨ (4503599627370496 ≤ rung x ∧ -1074 ≤ plc x + k ∧ plc x + k ≤ 971)) : fmul x (P2 k) < 2 ^ 64 ∧ finB (fmul x (P2 k)) = true ∧ fmul (fmul x (P2 k)) (P2 (-k)) = x := by
  rw [fmul_p2 hr h0 h1]
  rcases hn with hn | ⟨hn, hk0, hk1⟩
  · rw [hn, nearest_nought]
    have hz := nearest_read hx hr
    rw [hn, nearest_nought] at hz
    rw [hz]
    refine ⟨hx, (finB_iff hx).2 hr, ?_⟩
    rw [fmul_p2 hr (by omega) (by omega), hn, nearest_nought]
    exact hz
  · have hm0 : 4503599627370496 ≤ mgn x := by unfold mgn; rw [if_neg (by omega)]; omega
    have hm1 := mgn_lt x
    have ht : plc x + k = -1074 + ((plc x + k + 1074).toNat : Int) := by omega
    have e := @nearest_norm (sgn x) (mgn x) (plc x + k + 1074).toNat hm0 hm1 (by omega)
    rw [← ht] at e
    obtain ⟨g1, g2, g3, g4, g5⟩ := @word_norm (sgn x) (mgn x) (plc x + k + 1074).toNat hm0 hm1 (by omega) _ rfl
    rw [e]
    refine ⟨g5, (finB_iff g5).2 g4, ?_⟩
    rw [fmul_p2 g4 (by omega) (by omega), g1, g2, g3, ← ht, show plc x + k + -k = plc x by omega]
    exact nearest_read hx hr
/-! ## Exponents -/
def TINY : Nat := 0x10000000000000
def P52 : Nat := 0x4330000000000000
def nrmR (x : Nat) : Nat × Int := if fcmp .lss (fabs x) TINY = true then (fmul x P52, -52) else (x, 0)
/-- The exponent that is told. -/
def frxE (x : Nat) : Int := (nrmR x).2 + ((expo (nrmR x).1 : Int) - 1023 + 1)
theorem fabs_parts {x : Nat} (hx : x < 2 ^ 64) (hr : rung x < 9218868437227405312) : rung (fabs x) = rung x ∧ sgn (fabs x) = false ∧ mgn (fabs x) = mgn x ∧ plc (fabs x) = plc x := by
  have hn : nanB x = false := fin_not_nan ((finB_iff hx).2 hr)
  have e : fabs x = rung x := by unfold fabs; rw [hn]; rfl
  have e2 : rung (fabs x) = rung x := by rw [e]; unfold rung; omega
  refine ⟨e2, ?_, ?_, ?_⟩
  · rw [e]; unfold sgn
    have : rung x / 9223372036854775808 = 0 := by omega
    rw [this]; rfl
  · unfold mgn; rw [e2]
  · unfold plc; rw [e2]
theorem tiny_parts : Ieee.double.read TINY = .number false 4503599627370496 (-1074) := by decide +kernel
theorem norm_mgn {x : Nat} (h : 4503599627370496 ≤ rung x) : 4503599627370496 ≤ mgn x := by unfold mgn; rw [if_neg (by omega)]; omega
/-- A normal number is not below the least normal one. -/
theorem norm_lss {x : Nat} (hx : x < 2 ^ 64) (hr : rung x < 9218868437227405312) (hn : 4503599627370496 ≤ rung x) : fcmp .lss (fabs x) TINY = false := by
  obtain ⟨q1, q2, q3, q4⟩ := fabs_parts hx hr
  have hp := plc_ge x
  have hm := norm_mgn hn
  have key : ford (fabs x) TINY ≠ some .lt := by
    unfold ford Ieee.Format.order
    rw [read_fin (show rung (fabs x) < 9218868437227405312 by omega), tiny_parts, q2, q3, q4]
    simp only [Ieee.Datum.order, Ieee.signed]
    rw [show min (plc x) (-1074 : Int) = -1074 by omega, show (-1074 - -1074 : Int).toNat = 0 by decide, Nat.shiftLeft_zero, Nat.shiftLeft_eq]
    have h2 := Nat.two_pow_pos (plc x - -1074).toNat
    have h3 : mgn x * 1 ≤ mgn x * 2 ^ (plc x - -1074).toNat := Nat.mul_le_mul_left _ h2
    generalize mgn x * 2 ^ (plc x - -1074).toNat = v at h3
    simp only [Bool.false_eq_true, if_false, ne_eq, Option.some.injEq]
    rw [Int.compare_eq_lt]
    omega
  show (ford (fabs x) TINY == some .lt) = false
  simpa using key
theorem expo_rung (w : Nat) : expo w = rung w / 4503599627370496 := by unfold expo rung; omega
theorem p52_eq : P52 = P2 52 := by decide
theorem sub_expo {x : Nat} (hx : x < 2 ^ 64) (hs : rung x < 4503599627370496) : expo (fmul x P52) ≤ 52 := by
  have e1 : mgn x = rung x := by unfold mgn; rw [if_pos hs]
  have e2 : plc x = -1074 := by unfold plc; rw [if_pos hs]
  rw [p52_eq, fmul_p2 (show rung x < 9218868437227405312 by omega) (by omega) (by omega), e2]
  have e3 : Ieee.double.nearest (sgn x) (mgn x) (-1074 + 52) = Ieee.double.nearest (sgn x) (mgn x * 2 ^ 52) (-1074) := by
    apply nearest_eq
    rw [show min (-1074 + 52 : Int) (-1074) = -1074 by decide, show (-1074 + 52 - -1074 : Int).toNat = 52 by decide, show (-1074 - -1074 : Int).toNat = 0 by decide, Nat.pow_zero, Nat.mul_one]
  rw [e3]
  by_cases h0 : mgn x = 0
  · rw [h0, Nat.zero_mul, nearest_nought]
    cases sgn x <;> decide
  · obtain ⟨t, K, h, hK, ht, hv⟩ := @nearest_few0 (sgn x) (mgn x) 52 (mgn_lt x) h0
    rw [h, expo_rung]
    have hb : t ≤ 51 := by
      rcases ht with ht | ht
      · omega
      · rcases Nat.lt_or_ge 51 t with hlt | hge
        · exfalso
          have h2 : 2 ^ 52 ≤ 2 ^ t := Nat.pow_le_pow_right (by omega) hlt
          have h3 : 4503599627370496 * 2 ^ 52 ≤ K * 2 ^ t := Nat.mul_le_mul ht h2
          rw [hv, e1] at h3
          have := Nat.le_of_mul_le_mul_right h3 (by decide)
          omega
        · exact hge
    rw [(word_parts (s := sgn x) (Nat.min_le_right (t * 4503599627370496 + K) 9218868437227405312)).2.1, Nat.min_eq_left (by omega)]
    omega
/-- Where the exponent told is not too small, the number is normal. -/
theorem frx_norm {x : Nat} (hx : x < 2 ^ 64) (hr : rung x < 9218868437227405312) (he : -1021 ≤ frxE x) : 4503599627370496 ≤ rung x ∧ plc x = frxE x - 53 := by
  by_cases hs : rung x < 4503599627370496
  · exfalso
    unfold frxE nrmR at he
    split at he
    · have := sub_expo hx hs
      simp only at he
      omega
    · have e : expo x = 0 := by rw [expo_rung]; omega
      simp only [e] at he
      omega
  · have hn : 4503599627370496 ≤ rung x := by omega
    refine ⟨hn, ?_⟩
    unfold frxE nrmR
    rw [norm_lss hx hr hn, if_neg (by decide)]
    simp only
    rw [expo_rung]
    unfold plc
    rw [if_neg hs]
    omega
theorem eq_zero {x : Nat} (hr : rung x < 9218868437227405312) (h : fcmp .eql x 0 = true) : mgn x = 0 := by
  have hp := plc_ge x
  have h : (ford x 0 == some .eq) = true := h
  rw [beq_iff_eq] at h
  unfold ford Ieee.Format.order at h
  rw [read_fin hr, read_zero] at h
  simp only [Ieee.Datum.order, Ieee.signed] at h
  rw [show min (plc x) (-1074 : Int) = -1074 by omega, show (-1074 - -1074 : Int).toNat = 0 by decide, Nat.shiftLeft_zero] at h
  simp only [Option.some.injEq] at h
  rw [Int.compare_eq_eq] at h
  have h0 : mgn x <<< (plc x - -1074).toNat = 0 := by
    generalize mgn x <<< (plc x - -1074).toNat = v at h ⊢
    generalize sgn x = s at h
    cases s
    · have h : (v : Int) = ((0 : Nat) : Int) := h
      omega
    · have h : -(v : Int) = ((0 : Nat) : Int) := h
      omega
  by_cases hm : mgn x = 0
  · exact hm
  · exact (shift_ne hm h0).elim
/-! ## MatrixTwos -/
/-- A number that powers of two leave no trace on. -/
def TwoOk (k : Int) (x : Nat) : Prop := mgn x = 0 ∨ (4503599627370496 ≤ rung x ∧ -1074 ≤ plc x + k ∧ plc x + k ≤ 971)
def TwoTo (k : Int) (xs : List Nat) (n : Nat) : Prop := ∀ i, i < n → TwoOk k (xs.getD i 0)
theorem twoTo_zero {k : Int} {xs : List Nat} : TwoTo k xs 0 := fun i h => by omega
theorem twoTo_step {k : Int} {xs : List Nat} {n : Nat} (h : TwoTo k xs n) (hn : TwoOk k (xs.getD n 0)) : TwoTo k xs (n + 1) := fun i hi => by
  by_cases e : i = n
  · rw [e]; exact hn
  · exact h i (by omega)
theorem two_zero {k : Int} {x : Nat} (hx : x < 2 ^ 64) (hf : finB x = true) (h : fcmp .eql x 0 = true) : TwoOk k x := .inl (eq_zero ((finB_iff hx).1 hf) h)
theorem two_norm {k : Int} {x : Nat} (hx : x < 2 ^ 64) (hf : finB x = true) (h1 : -1021 ≤ frxE x) (h2 : -1021 ≤ frxE x + k) (h3 : frxE x + k ≤ 1024) : TwoOk k x := by
  obtain ⟨g1, g2⟩ := frx_norm hx ((finB_iff hx).1 hf) h1
  exact .inr ⟨g1, by omega, by omega⟩
theorem twos_fin {r c k : Int} {xs : List Nat} {m n : MR} (hc : chk r c xs = 0) (hw : xs.all (fun x => decide (x < 2 ^ 64)) = true) (h0 : -500 ≤ k) (h1 : k ≤ 500) (ht : TwoTo k xs xs.length) (hm : m = sclR r c xs (P2 k)) (hn : n = sclR m.r m.c m.a (P2 (-k))) : ((cmpB .eql m.e 0 && cmpB .eql n.e 0) && eqM n.r n.c n.a r c xs) = true := by
  obtain ⟨hg, hf⟩ := chk_zero.1 hc
  have hs := hg.1
  have hlen := (siz_nat hs).2
  have hl := hg.2
  have each : ∀ i j, Pl r c i j → mat c xs i j < 2 ^ 64 ∧ finB (mat c xs i j) = true ∧ TwoOk k (mat c xs i j) := fun i j hp => by
    have hq := hp.rng hs
    have hk : (i * c + j).toNat < xs.length := by omega
    have hmem := mem_getD (xs := xs) 0 hk
    rw [List.all_eq_true] at hw hf
    exact ⟨of_decide_eq_true (hw _ hmem), hf _ hmem, ht _ hk⟩
  have eachb : ∀ i j, Pl r c i j → fmul (mat c xs i j) (P2 k) < 2 ^ 64 ∧ finB (fmul (mat c xs i j) (P2 k)) = true ∧ fmul (fmul (mat c xs i j) (P2 k)) (P2 (-k)) = mat c xs i j := fun i j hp => by
    obtain ⟨a1, a2, a3⟩ := each i j hp
    exact twos_back a1 ((finB_iff a1).1 a2) h0 h1 a3
  have e1 : sclR r c xs (P2 k) = ⟨r, c, sclG r c xs (P2 k), 0⟩ := by
    have : sclE r c xs (P2 k) = 0 := by rw [sclE_eq (p2_lt h0 h1), hc, p2_fin h0 h1]; rfl
    have e : sclR r c xs (P2 k) = toldR r c (sclG r c xs (P2 k)) := if_pos this
    rw [e]
    exact toldR_ok (all_grid.2 fun i j hp => (eachb i j hp).2.1)
  have hg2 : Good r c (sclG r c xs (P2 k)) := good_grid hs
  have hc2 : chk r c (sclG r c xs (P2 k)) = 0 := chk_of hg2 (all_grid.2 fun i j hp => (eachb i j hp).2.1)
  have hb : sclG r c (sclG r c xs (P2 k)) (P2 (-k)) = xs := by
    conv => rhs; rw [← grid_mat hs.1 hs.2.2.1 hl]
    refine grid_congr fun i j q1 q2 q3 q4 => ?_
    have e : mat c (sclG r c xs (P2 k)) i j = fmul (mat c xs i j) (P2 k) := mat_grid q1 q2 q3 q4
    rw [e]
    exact (eachb i j ⟨q1, q2, q3, q4⟩).2.2
  have e2 : sclR r c (sclG r c xs (P2 k)) (P2 (-k)) = ⟨r, c, xs, 0⟩ := by
    have : sclE r c (sclG r c xs (P2 k)) (P2 (-k)) = 0 := by rw [sclE_eq (p2_lt (by omega) (by omega)), hc2, p2_fin (by omega) (by omega)]; rfl
    have e : sclR r c (sclG r c xs (P2 k)) (P2 (-k)) = toldR r c (sclG r c (sclG r c xs (P2 k)) (P2 (-k))) := if_pos this
    rw [e, hb]
    exact toldR_ok hf
  rw [hm, e1] at hn
  rw [show sclR (MR.r ⟨r, c, sclG r c xs (P2 k), 0⟩) (MR.c ⟨r, c, sclG r c xs (P2 k), 0⟩) (MR.a ⟨r, c, sclG r c xs (P2 k), 0⟩) (P2 (-k)) = _ from e2] at hn
  rw [hn, hm, e1]
  simp [cmpB, eqM]
end Go.Bn
namespace Go.Bn
open Go
section ops
variable {P : Program} {n : Nat} {ops : Array Oper} {Γ : Facts} {ρ : Env} {δ : VEnv} {τ : List VR}
variable {d : Nat} {ty : TypeId} {pos : String} {af : Array Edge}
theorem OpOK.sub {o : Oper} {acc : Acc} {p q : SP} {r' : VR} (h : OpOK P n ops Γ ρ δ τ o acc (.c p) r') (hg : o.guard = none) (hs : ∀ v c, p.H v c → q.H v c) : OpOK P n ops Γ ρ δ τ o acc (.c q) r' := by
  intro a c ob g1 g2 g3 g4 g5 g6 g7
  have := h a c ob g1 g2 g3 g4 g5 g6 g7
  have hw : Region.wanted o (yielded ops a.tmps) = true := by unfold Region.wanted; rw [hg]
  rw [if_pos hw] at this ⊢
  exact this.mono fun v w' ⟨c', ob', q1, q2, q3, q4⟩ => ⟨c', ob', q1, q2, hs _ _ q3, q4⟩
theorem op_f64bitsn {f : Nat} {x : Operand} {v : Nat} {ats : Array TypeId} (hf : Ext P f Go.Extern.MathFloatBits.float64bits) (hn : nanB v = false) (hx : Lk Γ δ ρ x (flp v)) :
    OpOK P n ops Γ ρ δ τ ⟨some d, .call ⟨.value (.func f), #[x], ats⟩, ty, pos, af, none⟩ .no (.c (isv (.int .u64 (v : Int)))) dum := (op_f64bits hf hx).sub rfl (bitp_isv hn)
theorem op_neg {x : Operand} {t : TypeId} {k : IntKind} {a z : Int} (hx : Lk Γ δ ρ x (isv (.int k a))) (hz : k.wrap (-a) = z) :
    OpOK P n ops Γ ρ δ τ ⟨some d, .unOp .neg t x, ty, pos, af, none⟩ .no (.c (isv (.int k z))) dum :=
  ok_pure fun A c _ hr => by
    subst hz
    have h := (hr x _ (by simp [Op.operands]) hx).1
    exact ⟨.int k (k.wrap (-a)), by simp [execOp, Op.unary, Op.intArith, h], rfl, rfl⟩
end ops
theorem wu64 (z : Int) : IntKind.u64.wrap z = z % 18446744073709551616 := by simp [IntKind.wrap, IntKind.bits, IntKind.signed]
theorem u64_rng (z : Int) : 0 ≤ IntKind.u64.wrap z ∧ IntKind.u64.wrap z < 18446744073709551616 := by
  rw [wu64]; omega
theorem sb_bits {Γ : Facts} {op : BinOp} {a b : Int} : Sb Γ (isv (.int .u64 (bitsOf op .u64 a b))) (bitp (cn (bitsOf op .u64 a b).toNat)) := fun v c _ hv => by
  have hr : 0 ≤ bitsOf op .u64 a b ∧ bitsOf op .u64 a b < 18446744073709551616 := by
    unfold bitsOf
    cases op <;> exact u64_rng _
  refine ⟨(bitsOf op .u64 a b).toNat, ?_, by omega, rfl⟩
  rw [hv.1, show (((bitsOf op .u64 a b).toNat : Nat) : Int) = bitsOf op .u64 a b by omega]
theorem expo_bitsN {y : Nat} (h : y < 2 ^ 64) : bitsOf .and .u64 ((y / 2 ^ 52 : Nat) : Int) 2047 = ((expo y : Nat) : Int) := by
  rw [show (2047 : Int) = ((2047 : Nat) : Int) from rfl, bits_and _ _ (by omega) (by decide)]
  rw [show (2047 : Nat) = 2 ^ 11 - 1 by decide, and_pow]
  rfl
theorem p2_shl {k : Int} (h0 : -500 ≤ k) (h1 : k ≤ 500) : IntKind.u64.wrap ((k + 1023) * 2 ^ min (52 : Int).toNat IntKind.u64.bits) = ((P2 k : Nat) : Int) := by
  rw [show min (52 : Int).toNat IntKind.u64.bits = 52 by decide, wu64]
  unfold P2
  omega
theorem p2_or {k : Int} (h0 : -500 ≤ k) (h1 : k ≤ 500) : bitsOf .or .u64 0 ((P2 k : Nat) : Int) = ((P2 k : Nat) : Int) := by
  rw [show (0 : Int) = ((0 : Nat) : Int) from rfl, bits_or _ _ (by decide) (p2_lt h0 h1), Nat.zero_or]
/-! ## More on numbers -/
def MAXF : Nat := 0x7fefffffffffffff
theorem max_parts : Ieee.double.read MAXF = .number false 9007199254740991 971 := by decide +kernel
theorem plc_le {x : Nat} (hr : rung x < 9218868437227405312) : plc x ≤ 971 := by unfold plc; split <;> omega
theorem fin_gtr {x : Nat} (hx : x < 2 ^ 64) (hr : rung x < 9218868437227405312) : fcmp .gtr (fabs x) MAXF = false := by
  obtain ⟨q1, q2, q3, q4⟩ := fabs_parts hx hr
  have hp := plc_ge x
  have hp2 := plc_le hr
  have hm := mgn_lt x
  have key : ford (fabs x) MAXF ≠ some .gt := by
    unfold ford Ieee.Format.order
    rw [read_fin (show rung (fabs x) < 9218868437227405312 by omega), max_parts, q2, q3, q4]
    simp only [Ieee.Datum.order, Ieee.signed]
    rw [show min (plc x) (971 : Int) = plc x by omega, show (plc x - plc x).toNat = 0 by omega, Nat.shiftLeft_zero, Nat.shiftLeft_eq]
    have h2 := Nat.two_pow_pos (971 - plc x).toNat
    have h3 : 9007199254740991 * 1 ≤ 9007199254740991 * 2 ^ (971 - plc x).toNat := Nat.mul_le_mul_left _ h2
    generalize 9007199254740991 * 2 ^ (971 - plc x).toNat = v at h3
    simp only [Bool.false_eq_true, if_false, ne_eq, Option.some.injEq]
    rw [Int.compare_eq_gt]
    omega
  show (ford (fabs x) MAXF == some .gt) = false
  simpa using key
theorem nearest_nan {s : Bool} {m : Nat} {p : Int} : nanB (Ieee.double.nearest s m p) = false := (write_ok (d := .number s m p) rfl).1
theorem nrm_nan {x : Nat} (hx : x < 2 ^ 64) (hf : finB x = true) : nanB (nrmR x).1 = false ∧ (nrmR x).1 < 2 ^ 64 := by
  have hr := (finB_iff hx).1 hf
  unfold nrmR
  split
  · refine ⟨?_, fop_lt (op := .mul)⟩
    show nanB (fmul x P52) = false
    rw [p52_eq, fmul_p2 hr (by omega) (by omega)]
    exact nearest_nan
  · exact ⟨fin_not_nan hf, hx⟩
theorem nrm_snd {x : Nat} : (nrmR x).2 = -52 ∨ (nrmR x).2 = 0 := by
  unfold nrmR
  split
  · exact .inl rfl
  · exact .inr rfl
theorem expo_lt (x : Nat) : expo x < 2048 := Nat.mod_lt _ (by omega)
theorem frx_rng (x : Nat) : -1074 ≤ frxE x ∧ frxE x ≤ 1025 := by
  have h1 := @nrm_snd x
  have h2 := expo_lt (nrmR x).1
  unfold frxE; omega
end Go.Bn
