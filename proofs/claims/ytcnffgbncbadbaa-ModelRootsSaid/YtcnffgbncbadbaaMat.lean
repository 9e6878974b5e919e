/-
  Plain facts on matrices: numbers row by row, and what the matrix packages compute.
-/
import Derived.Test.YtcnffgbncbadbaaNum
set_option linter.unusedVariables false
set_option linter.unusedSimpArgs false
namespace Go.Bn
open Go

/-- At(i, j). -/
def mat (c : Int) (xs : List Nat) (i j : Int) : Nat := xs.getD (i * c + j).toNat 0
/-- Rows times columns, place by place. -/
def grid (r c : Int) (f : Int → Int → Nat) : List Nat := (List.range (r.toNat * c.toNat)).map fun k => f ((k / c.toNat : Nat) : Int) ((k % c.toNat : Nat) : Int)
def sizB (n : Int) : Bool := decide (0 ≤ n) && decide (n ≤ 12)
/-- Why a matrix is not good (0: it is). -/
def chk (r c : Int) (xs : List Nat) : Int := if sizB r = false ∨ sizB c = false then 1 else if (xs.length : Int) ≠ r * c then 3 else if xs.all finB = false then 4 else 0
def lchk (xs : List Nat) : Int := if (12 : Int) < xs.length then 1 else if xs.all finB = false then 4 else 0
/-- The first error of several. -/
def fstE : List Int → Int
  | [] => 0
  | e :: l => if e = 0 then fstE l else e
def whenE (b : Bool) (e : Int) : Int := if b then e else 0

theorem length_grid (r c : Int) (f : Int → Int → Nat) : (grid r c f).length = r.toNat * c.toNat := by simp [grid]
theorem grid_get (r c : Int) (f : Int → Int → Nat) {k : Nat} (h : k < r.toNat * c.toNat) : (grid r c f).getD k 0 = f ((k / c.toNat : Nat) : Int) ((k % c.toNat : Nat) : Int) := by
  simp [grid, List.getD, h]
theorem place_lt {r c i j : Nat} (hi : i < r) (hj : j < c) : i * c + j < r * c := by
  have h1 : (i + 1) * c ≤ r * c := Nat.mul_le_mul_right c hi
  rw [Nat.add_mul, Nat.one_mul] at h1
  omega
theorem place_div {c i j : Nat} (hj : j < c) : (i * c + j) / c = i ∧ (i * c + j) % c = j := by
  have hc : 0 < c := by omega
  rw [Nat.mul_comm, Nat.mul_add_div hc, Nat.div_eq_of_lt hj, Nat.add_zero, Nat.mul_add_mod, Nat.mod_eq_of_lt hj]
  exact ⟨rfl, rfl⟩
theorem grid_at (r c : Int) (f : Int → Int → Nat) {i j : Nat} (hi : i < r.toNat) (hj : j < c.toNat) : (grid r c f).getD (i * c.toNat + j) 0 = f i j := by
  rw [grid_get r c f (place_lt hi hj), (place_div hj).1, (place_div hj).2]
theorem mat_grid {r c : Int} {f : Int → Int → Nat} {i j : Int} (h0 : 0 ≤ i) (h1 : i < r) (h2 : 0 ≤ j) (h3 : j < c) : mat c (grid r c f) i j = f i j := by
  have e : (i * c + j).toNat = i.toNat * c.toNat + j.toNat := by
    have hi : i = (i.toNat : Int) := by omega
    have hj : j = (j.toNat : Int) := by omega
    have hc : c = (c.toNat : Int) := by omega
    generalize i.toNat = a at *
    generalize j.toNat = b at *
    generalize c.toNat = d at *
    subst hi; subst hj; subst hc
    rw [← Int.natCast_mul, ← Int.natCast_add]; rfl
  unfold mat
  rw [e, grid_at r c f (by omega) (by omega)]
  congr 1 <;> omega
/-- Two lists of one length, alike at each place. -/
theorem ext_getD {xs ys : List Nat} (hl : xs.length = ys.length) (h : ∀ k, k < xs.length → xs.getD k 0 = ys.getD k 0) : xs = ys := by
  apply List.ext_getElem hl
  intro k h1 h2
  have := h k h1
  simpa [List.getD, List.getElem?_eq_getElem h1, List.getElem?_eq_getElem h2] using this
theorem grid_congr {r c : Int} {f g : Int → Int → Nat} (h : ∀ i j, 0 ≤ i → i < r → 0 ≤ j → j < c → f i j = g i j) : grid r c f = grid r c g := by
  unfold grid
  apply List.map_congr_left
  intro k hk
  rw [List.mem_range] at hk
  have hc : 0 < c.toNat := by
    rcases Nat.eq_zero_or_pos c.toNat with h0 | h0
    · rw [h0] at hk; simp at hk
    · exact h0
  have h1 : k / c.toNat < r.toNat := Nat.div_lt_of_lt_mul (by rw [Nat.mul_comm]; exact hk)
  have h2 : k % c.toNat < c.toNat := Nat.mod_lt _ hc
  generalize k / c.toNat = p at h1 ⊢
  generalize k % c.toNat = q at h2 ⊢
  exact h _ _ (by omega) (by omega) (by omega) (by omega)
/-- A good matrix is the grid of its places. -/
theorem grid_mat {r c : Int} {xs : List Nat} (hr : 0 ≤ r) (hc : 0 ≤ c) (hl : (xs.length : Int) = r * c) : grid r c (mat c xs) = xs := by
  have hlen : xs.length = r.toNat * c.toNat := by
    have h1 : r = (r.toNat : Int) := by omega
    have h2 : c = (c.toNat : Int) := by omega
    rw [h1, h2, ← Int.natCast_mul] at hl
    exact Int.ofNat.inj hl
  refine ext_getD (by rw [length_grid, hlen]) fun k hk => ?_
  rw [length_grid] at hk
  rw [grid_get r c _ hk]
  unfold mat
  congr 1
  have h2 : c = (c.toNat : Int) := by omega
  generalize c.toNat = d at *
  subst h2
  rw [← Int.natCast_mul, ← Int.natCast_add, Int.toNat_natCast, Nat.div_add_mod']

/-- The dot product in order. -/
def dotTo (xs ys : List Nat) : Nat → Nat
  | 0 => 0
  | k + 1 => fadd (dotTo xs ys k) (fmul (xs.getD k 0) (ys.getD k 0))
def dotL (xs ys : List Nat) : Nat := dotTo xs ys xs.length
def rowL (c : Int) (xs : List Nat) (i : Int) : List Nat := (List.range c.toNat).map fun (j : Nat) => mat c xs i j
def colL (r c : Int) (xs : List Nat) (j : Int) : List Nat := (List.range r.toNat).map fun (i : Nat) => mat c xs i j
theorem rowL_slice {r c : Int} {xs : List Nat} {i : Int} (hc : 0 ≤ c) (hl : (xs.length : Int) = r * c) (h0 : 0 ≤ i) (h1 : i < r) : (xs.drop (i * c).toNat).take (((i + 1) * c).toNat - (i * c).toNat) = rowL c xs i := by
  have hi : i = (i.toNat : Int) := by omega
  have hc' : c = (c.toNat : Int) := by omega
  have hr' : r = (r.toNat : Int) := by omega
  unfold rowL mat
  generalize i.toNat = a at *
  generalize c.toNat = d at *
  generalize r.toNat = e at *
  subst hi; subst hc'; subst hr'
  have hlen : xs.length = e * d := by rw [← Int.natCast_mul] at hl; exact Int.ofNat.inj hl
  have hae : (a + 1) * d ≤ e * d := Nat.mul_le_mul_right d (by omega)
  have e1 : ((a : Int) * (d : Int)).toNat = a * d := by rw [← Int.natCast_mul]; rfl
  have e2 : (((a : Int) + 1) * (d : Int)).toNat = (a + 1) * d := by rw [← Int.natCast_succ, ← Int.natCast_mul]; rfl
  rw [e1, e2, Nat.add_mul, Nat.one_mul, Nat.add_sub_cancel_left]
  rw [Nat.add_mul, Nat.one_mul] at hae
  apply List.ext_getElem
  · simp; omega
  · intro k h2 h3
    simp at h3
    have e3 : ((a : Int) * (d : Int) + (k : Int)).toNat = a * d + k := by rw [← Int.natCast_mul, ← Int.natCast_add]; rfl
    simp only [List.getElem_take, List.getElem_drop, List.getElem_map, List.getElem_range, e3]
    rw [List.getD, List.getElem?_eq_getElem (by omega)]
    rfl

/-! ## What calls answer -/
structure MR where
  r : Int
  c : Int
  a : List Nat
  e : Int
theorem MR.eq4 {x : MR} {r c e : Int} {a : List Nat} (h : ((decide (x.r = r) && decide (x.c = c)) && decide (x.a = a) && decide (x.e = e)) = true) : x = ⟨r, c, a, e⟩ := by
  obtain ⟨p, q, s, u⟩ := x
  simp at h
  obtain ⟨⟨⟨h1, h2⟩, h3⟩, h4⟩ := h
  rw [h1, h2, h3, h4]
def resM (x : MR) : SP := tupp [MatP x.r x.c x.a, isv (.int .i64 x.e)]
theorem ret_M {Γ : Facts} {r c : Int} {a : List Nat} {e : Int} {x : MR} (h : (⟨r, c, a, e⟩ : MR) = x) : Sb Γ (tupp [MatP r c a, isv (.int .i64 e)]) (resM x) := by subst h; exact sb_refl
def badM (e : Int) : MR := ⟨0, 0, [], e⟩
/-- A matrix, if all its numbers are finite. -/
def toldR (r c : Int) (xs : List Nat) : MR := if xs.all finB = false then badM 5 else ⟨r, c, xs, 0⟩
def orR (e : Int) (x : MR) : MR := if e = 0 then x else badM e


/-! ## Sizes and places -/
def Siz (r c : Int) : Prop := 0 ≤ r ∧ r ≤ 12 ∧ 0 ≤ c ∧ c ≤ 12
def Good (r c : Int) (xs : List Nat) : Prop := Siz r c ∧ (xs.length : Int) = r * c
def Pl (r c i j : Int) : Prop := 0 ≤ i ∧ i < r ∧ 0 ≤ j ∧ j < c
def Lo (n i j : Int) : Prop := 0 ≤ j ∧ j ≤ i ∧ i < n
theorem Siz.mul {r c : Int} (h : Siz r c) : 0 ≤ r * c ∧ r * c ≤ 144 := by
  obtain ⟨h1, h2, h3, h4⟩ := h
  exact ⟨Int.mul_nonneg h1 h3, Int.le_trans (Int.mul_le_mul_of_nonneg_right h2 h3) (by omega)⟩
theorem Siz.turn {r c : Int} (h : Siz r c) : Siz c r := ⟨h.2.2.1, h.2.2.2, h.1, h.2.1⟩
theorem Siz.sq {r c : Int} (h : Siz r c) : Siz r r := ⟨h.1, h.2.1, h.1, h.2.1⟩
theorem Siz.mk2 {r c r' c' : Int} (h : Siz r c) (h' : Siz r' c') : Siz r c' := ⟨h.1, h.2.1, h'.2.2.1, h'.2.2.2⟩
theorem Pl.rng {r c i j : Int} (hs : Siz r c) (h : Pl r c i j) : 0 ≤ i * c ∧ 0 ≤ i * c + j ∧ i * c + j < r * c ∧ r * c ≤ 144 ∧ i * c + c ≤ r * c := by
  obtain ⟨h1, h2, h3, h4⟩ := h
  have h5 : 0 ≤ i * c := Int.mul_nonneg h1 hs.2.2.1
  have h6 : (i + 1) * c ≤ r * c := Int.mul_le_mul_of_nonneg_right (by omega) hs.2.2.1
  rw [Int.add_mul, Int.one_mul] at h6
  have := hs.mul
  omega
theorem Pl.turn {r c i j : Int} (h : Pl r c i j) : Pl c r j i := ⟨h.2.2.1, h.2.2.2, h.1, h.2.1⟩
theorem good_grid {r c : Int} {f : Int → Int → Nat} (h : Siz r c) : Good r c (grid r c f) := by
  refine ⟨h, ?_⟩
  rw [length_grid]
  have h1 : r = (r.toNat : Int) := by have := h.1; omega
  have h2 : c = (c.toNat : Int) := by have := h.2.2.1; omega
  rw [Int.natCast_mul, ← h1, ← h2]
theorem Good.row {r c i : Int} {xs : List Nat} (h : Good r c xs) (h0 : 0 ≤ i) (h1 : i < r) : 0 ≤ i * c ∧ (i + 1) * c = i * c + c ∧ i * c + c ≤ xs.length ∧ (xs.length : Int) ≤ 144 := by
  have h5 : 0 ≤ i * c := Int.mul_nonneg h0 h.1.2.2.1
  have h6 : (i + 1) * c ≤ r * c := Int.mul_le_mul_of_nonneg_right (by omega) h.1.2.2.1
  have h7 : (i + 1) * c = i * c + c := by rw [Int.add_mul, Int.one_mul]
  have := h.1.mul
  have := h.2
  omega
theorem sizB_iff {n : Int} : sizB n = true ↔ 0 ≤ n ∧ n ≤ 12 := by simp [sizB]
theorem chk_zero {r c : Int} {xs : List Nat} : chk r c xs = 0 ↔ Good r c xs ∧ xs.all finB = true := by
  unfold chk Good Siz
  have h1 := @sizB_iff r
  have h2 := @sizB_iff c
  cases e1 : sizB r <;> cases e2 : sizB c <;> cases e3 : xs.all finB <;> simp only [e1, e2] at h1 h2 <;> simp <;> (try split) <;> simp_all <;> omega
theorem chk_good {r c : Int} {xs : List Nat} (h : chk r c xs = 0) : Good r c xs := (chk_zero.1 h).1
theorem lchk_zero {xs : List Nat} : lchk xs = 0 ↔ xs.length ≤ 12 ∧ xs.all finB = true := by
  unfold lchk
  cases e3 : xs.all finB <;> (split <;> simp <;> omega)
theorem chk_rng {r c : Int} {xs : List Nat} : 0 ≤ chk r c xs ∧ chk r c xs ≤ 4 := by unfold chk; (repeat' split) <;> omega
theorem lchk_rng {xs : List Nat} : 0 ≤ lchk xs ∧ lchk xs ≤ 4 := by unfold lchk; (repeat' split) <;> omega
theorem sizT {r c : Int} (h : sizB r = true ∧ sizB c = true) : Siz r c := by
  have h1 := sizB_iff.1 h.1
  have h2 := sizB_iff.1 h.2
  exact ⟨h1.1, h1.2, h2.1, h2.2⟩

/-! ## Filled place by place, over noughts -/
def PutI (r c : Int) (f : Int → Int → Nat) (D : Int → Int → Prop) (xs : List Nat) : Prop := (xs.length : Int) = r * c ∧ ∀ a b, Pl r c a b → (D a b → mat c xs a b = f a b) ∧ (¬ D a b → mat c xs a b = 0)
theorem mat_replicate {c a b : Int} {n : Nat} : mat c (List.replicate n 0) a b = 0 := by
  unfold mat
  rw [List.getD, List.getElem?_replicate]
  split <;> rfl
theorem grid_zero {r c : Int} : grid r c (fun _ _ => 0) = List.replicate (r.toNat * c.toNat) 0 := by
  unfold grid
  rw [List.map_const', List.length_range]
theorem putI_zero {r c : Int} {f : Int → Int → Nat} (h : Siz r c) : PutI r c f (fun _ _ => False) (List.replicate (r * c).toNat 0) := by
  refine ⟨?_, fun a b _ => ⟨fun h => h.elim, fun _ => mat_replicate⟩⟩
  have := h.mul
  simp; omega
theorem mat_set {c p q a b : Int} {xs : List Nat} {v : Nat} {r : Int} (hs : Siz r c) (hl : (xs.length : Int) = r * c) (hp : Pl r c p q) (ha : Pl r c a b) : mat c (xs.set (p * c + q).toNat v) a b = if a = p ∧ b = q then v else mat c xs a b := by
  unfold mat
  have h1 := hp.rng hs
  have h2 := ha.rng hs
  obtain ⟨hp1, hp2, hp3, hp4⟩ := hp
  obtain ⟨ha1, ha2, ha3, ha4⟩ := ha
  by_cases he : a = p ∧ b = q
  · rw [if_pos he, he.1, he.2]
    rw [List.getD, List.getElem?_set_self (by omega)]
    rfl
  · rw [if_neg he]
    have hne : (p * c + q).toNat ≠ (a * c + b).toNat := by
      intro e
      have e' : p * c + q = a * c + b := by omega
      apply he
      have hc : 0 < c := by omega
      rcases Int.lt_trichotomy a p with h | h | h
      · have h6 : (a + 1) * c ≤ p * c := Int.mul_le_mul_of_nonneg_right (by omega) (by omega)
        rw [Int.add_mul, Int.one_mul] at h6
        omega
      · subst h; omega
      · have h6 : (p + 1) * c ≤ a * c := Int.mul_le_mul_of_nonneg_right (by omega) (by omega)
        rw [Int.add_mul, Int.one_mul] at h6
        omega
    rw [List.getD, List.getElem?_set_ne hne]
    rfl
theorem putI_set {r c p q : Int} {f : Int → Int → Nat} {D D' : Int → Int → Prop} {xs : List Nat} {v : Nat} (hs : Siz r c) (h : PutI r c f D xs) (hp : Pl r c p q) (hv : v = f p q) (hD : ∀ a b, Pl r c a b → (D' a b ↔ D a b ∨ (a = p ∧ b = q))) : PutI r c f D' (xs.set (p * c + q).toNat v) := by
  refine ⟨by rw [List.length_set]; exact h.1, fun a b hab => ?_⟩
  rw [mat_set hs h.1 hp hab]
  have h1 := h.2 a b hab
  have h2 := hD a b hab
  by_cases he : a = p ∧ b = q
  · rw [if_pos he]
    refine ⟨fun _ => by rw [hv, he.1, he.2], fun hn => (hn (h2.2 (.inr he))).elim⟩
  · rw [if_neg he]
    refine ⟨fun hd => h1.1 ((h2.1 hd).resolve_right he), fun hn => h1.2 fun hd => hn (h2.2 (.inl hd))⟩
theorem putI_cast {r c : Int} {f : Int → Int → Nat} {D D' : Int → Int → Prop} {xs : List Nat} (h : PutI r c f D xs) (hD : ∀ a b, Pl r c a b → (D' a b ↔ D a b)) : PutI r c f D' xs :=
  ⟨h.1, fun a b hab => ⟨fun hd => (h.2 a b hab).1 ((hD a b hab).1 hd), fun hn => (h.2 a b hab).2 fun hd => hn ((hD a b hab).2 hd)⟩⟩
theorem putI_grid {r c : Int} {f : Int → Int → Nat} {D : Int → Int → Prop} {xs : List Nat} (hs : Siz r c) (h : PutI r c f D xs) (hD : ∀ a b, Pl r c a b → D a b) : xs = grid r c f := by
  rw [← grid_mat hs.1 hs.2.2.1 h.1]
  exact grid_congr fun i j h1 h2 h3 h4 => (h.2 i j ⟨h1, h2, h3, h4⟩).1 (hD i j ⟨h1, h2, h3, h4⟩)
/-- Symmetric, by what stands at a place from the diagonal down. -/
def mirR (n : Int) (g : Int → Int → Nat) : List Nat := grid n n fun i j => if j ≤ i then g i j else g j i
/-- Up to row i and column j. -/
def MirD (i j a b : Int) : Prop := (b ≤ a ∧ (a < i ∨ (a = i ∧ b < j))) ∨ (a < b ∧ (b < i ∨ (b = i ∧ a < j)))
theorem mir_step {n i j : Int} {g : Int → Int → Nat} {xs : List Nat} (hs : Siz n n) (h0 : 0 ≤ j) (h1 : j ≤ i) (h2 : i < n) (h : PutI n n (fun i j => if j ≤ i then g i j else g j i) (MirD i j) xs) :
    PutI n n (fun i j => if j ≤ i then g i j else g j i) (MirD i (j + 1)) ((xs.set (i * n + j).toNat (g i j)).set (j * n + i).toNat (g i j)) := by
  refine putI_set (D := fun a b => MirD i j a b ∨ (a = i ∧ b = j)) hs (putI_set hs h ⟨by omega, h2, h0, by omega⟩ (by simp [h1]) fun a b _ => Iff.rfl) ⟨h0, by omega, by omega, h2⟩ ?_ fun a b _ => ?_
  · show g i j = if i ≤ j then g j i else g i j
    split
    · have : i = j := by omega
      rw [this]
    · rfl
  · unfold MirD; omega

/-! ## Filled from left to right -/
theorem take_grid {r c : Int} {f : Int → Int → Nat} {i j : Nat} (hi : i < r.toNat) (hj : j < c.toNat) : (grid r c f).take (i * c.toNat + (j + 1)) = (grid r c f).take (i * c.toNat + j) ++ [f i j] := by
  have hl := place_lt hi hj
  rw [show i * c.toNat + (j + 1) = (i * c.toNat + j) + 1 by omega, take_snoc 0 (by rw [length_grid]; exact hl), grid_at r c f hi hj]
theorem take_grid_all {r c : Int} {f : Int → Int → Nat} : (grid r c f).take (r.toNat * c.toNat) = grid r c f := List.take_of_length_le (by rw [length_grid]; exact Nat.le_refl _)
theorem length_take_grid {r c : Int} {f : Int → Int → Nat} {i j : Nat} (hi : i < r.toNat) (hj : j ≤ c.toNat) : ((grid r c f).take (i * c.toNat + j)).length = i * c.toNat + j := by
  rw [List.length_take, length_grid]
  have h1 : (i + 1) * c.toNat ≤ r.toNat * c.toNat := Nat.mul_le_mul_right _ hi
  rw [Nat.add_mul, Nat.one_mul] at h1
  omega
theorem siz_nat {r c : Int} (hs : Siz r c) : r.toNat * c.toNat ≤ 144 ∧ ((r.toNat * c.toNat : Nat) : Int) = r * c := by
  have h := hs.mul
  have h1 : r = (r.toNat : Int) := by have := hs.1; omega
  have h2 : c = (c.toNat : Int) := by have := hs.2.2.1; omega
  have e : ((r.toNat * c.toNat : Nat) : Int) = r * c := by rw [Int.natCast_mul, ← h1, ← h2]
  omega
end Go.Bn
namespace Go.Bn
open Go
theorem fstE_drop {es : List Int} {k : Nat} (hk : k < es.length) : fstE (es.drop k) = if es.getD k 0 = 0 then fstE (es.drop (k + 1)) else es.getD k 0 := by
  rw [List.drop_eq_getElem_cons hk, fstE, List.getD, List.getElem?_eq_getElem hk]; rfl
theorem length_rowL {c : Int} {xs : List Nat} {i : Int} : (rowL c xs i).length = c.toNat := by simp [rowL]
theorem length_colL {r c : Int} {xs : List Nat} {j : Int} : (colL r c xs j).length = r.toNat := by simp [colL]
theorem take_colL {r c : Int} {xs : List Nat} {j : Int} {k : Nat} (hk : k < r.toNat) : (colL r c xs j).take (k + 1) = (colL r c xs j).take k ++ [mat c xs k j] := by
  rw [take_snoc 0 (by rw [length_colL]; exact hk)]
  congr 2
  simp [colL, List.getD, hk]
theorem take_grid_le {r c : Int} {f : Int → Int → Nat} {n : Nat} (hs : Siz r c) : ((grid r c f).take n).length ≤ 144 := by
  have := (siz_nat hs).1
  rw [List.length_take, length_grid]; omega
end Go.Bn
