/-
 Plain facts on matrices: numbers row by row, and what the matrix packages compute. What the functions of the matrix package answer, as plain functions. Plain facts on the numbers' operations. Plain facts on what the eighth reference computes. Plain facts on binary64: what is exact. Plain facts on what is symmetric. Plain facts on the unit matrix. Plain facts on places. Plain facts on sums, multiples and outer products. Plain facts on matrices that are made. Plain facts on kinds of matrices, traces and norms. Plain facts on parts of matrices. Plain facts on orders. Plain facts on matrices taken apart and put together. Plain facts on powers of two. The logic of walks: the last operations; numbers by their bits.
-/
import Derived.Test.YtllkellonjhalaaGreatOoKb
set_option linter.unusedVariables false
set_option linter.unusedSimpArgs false
namespace Go.Bn
open Go
def mat (c : Int) (xs : List Nat) (i j : Int) : Nat := xs.getD (i * c + j).toNat 0
def grid (r c : Int) (f : Int → Int → Nat) : List Nat := (List.range (r.toNat * c.toNat)).map fun k => f ((k / c.toNat : Nat) : Int) ((k % c.toNat : Nat) : Int)
def sizB (n : Int) : Bool := decide (0 ≤ n) && decide (n ≤ 12)
def chk (r c : Int) (xs : List Nat) : Int := if sizB r = false ∨ sizB c = false then 1 else if (xs.length : Int) ≠ r * c then 3 else if xs.all finB = false then 4 else 0
def fstE : List Int → Int
 | [] => 0
 | e :: l => if e = 0 then fstE l else e
theorem length_grid (r c : Int) (f : Int → Int → Nat) : (grid r c f).length = r.toNat * c.toNat := by simp [grid]
theorem grid_get (r c : Int) (f : Int → Int → Nat) {k : Nat} (h : k < r.toNat * c.toNat) : (grid r c f).getD k 0 = f ((k / c.toNat : Nat) : Int) ((k % c.toNat : Nat) : Int) := by
 simp [grid, List.getD, h]
theorem place_lt {r c i j : Nat} (hi : i < r) (hj : j < c) : i * c + j < r * c := by
 have h1 : (i + 1) * c ≤ r * c := Nat.mul_le_mul_right c hi
 rw [Nat.add_mul, Nat.one_mul] at h1
 omega
theorem place_div {c i j : Nat} (hj : j < c) : (i * c + j) / c = i ∧ (i * c + j) % c = j := by
 have hc : 0 < c := by omega
 rw [Nat.mul_comm, Nat.mul_add_div hc, Nat.div_eq_of_lt hj, Nat.add_zero, Nat.mul_add_mod, Nat.mod_eq_of_lt hj]
 exact ⟨rfl, rfl⟩
theorem grid_at (r c : Int) (f : Int → Int → Nat) {i j : Nat} (hi : i < r.toNat) (hj : j < c.toNat) : (grid r c f).getD (i * c.toNat + j) 0 = f i j := by
 rw [grid_get r c f (place_lt hi hj), (place_div hj).1, (place_div hj).2]
theorem mat_grid {r c : Int} {f : Int → Int → Nat} {i j : Int} (h0 : 0 ≤ i) (h1 : i < r) (h2 : 0 ≤ j) (h3 : j < c) : mat c (grid r c f) i j = f i j := by
 have e : (i * c + j).toNat = i.toNat * c.toNat + j.toNat := by
  have hi : i = (i.toNat : Int) := by omega
  have hj : j = (j.toNat : Int) := by omega
  have hc : c = (c.toNat : Int) := by omega
  generalize i.toNat = a at *
  generalize j.toNat = b at *
  generalize c.toNat = d at *
  subst hi; subst hj; subst hc
  rw [← Int.natCast_mul, ← Int.natCast_add]; rfl
 unfold mat
 rw [e, grid_at r c f (by omega) (by omega)]
 congr 1 <;> omega
theorem ext_getD {xs ys : List Nat} (hl : xs.length = ys.length) (h : ∀ k, k < xs.length → xs.getD k 0 = ys.getD k 0) : xs = ys := by
 apply List.ext_getElem hl
 intro k h1 h2
 have := h k h1
 simpa [List.getD, List.getElem?_eq_getElem h1, List.getElem?_eq_getElem h2] using this
theorem grid_congr {r c : Int} {f g : Int → Int → Nat} (h : ∀ i j, 0 ≤ i → i < r → 0 ≤ j → j < c → f i j = g i j) : grid r c f = grid r c g := by
 unfold grid
 apply List.map_congr_left
 intro k hk
 rw [List.mem_range] at hk
 have hc : 0 < c.toNat := by
  rcases Nat.eq_zero_or_pos c.toNat with h0 | h0
  ·rw [h0] at hk; simp at hk
  ·exact h0
 have h1 : k / c.toNat < r.toNat := Nat.div_lt_of_lt_mul (by rw [Nat.mul_comm]; exact hk)
 have h2 : k % c.toNat < c.toNat := Nat.mod_lt _ hc
 generalize k / c.toNat = p at h1 ⊢
 generalize k % c.toNat = q at h2 ⊢
 exact h _ _ (by omega) (by omega) (by omega) (by omega)
theorem grid_mat {r c : Int} {xs : List Nat} (hr : 0 ≤ r) (hc : 0 ≤ c) (hl : (xs.length : Int) = r * c) : grid r c (mat c xs) = xs := by
 have hlen : xs.length = r.toNat * c.toNat := by
  have h1 : r = (r.toNat : Int) := by omega
  have h2 : c = (c.toNat : Int) := by omega
  rw [h1, h2, ← Int.natCast_mul] at hl
  exact Int.ofNat.inj hl
 refine ext_getD (by rw [length_grid, hlen]) fun k hk => ?_
 rw [length_grid] at hk
 rw [grid_get r c _ hk]
 unfold mat
 congr 1
 have h2 : c = (c.toNat : Int) := by omega
 generalize c.toNat = d at *
 subst h2
 rw [← Int.natCast_mul, ← Int.natCast_add, Int.toNat_natCast, Nat.div_add_mod']
def dotTo (xs ys : List Nat) : Nat → Nat
 | 0 => 0
 | k + 1 => fadd (dotTo xs ys k) (fmul (xs.getD k 0) (ys.getD k 0))
def dotL (xs ys : List Nat) : Nat := dotTo xs ys xs.length
def rowL (c : Int) (xs : List Nat) (i : Int) : List Nat := (List.range c.toNat).map fun (j : Nat) => mat c xs i j
def colL (r c : Int) (xs : List Nat) (j : Int) : List Nat := (List.range r.toNat).map fun (i : Nat) => mat c xs i j
theorem rowL_slice {r c : Int} {xs : List Nat} {i : Int} (hc : 0 ≤ c) (hl : (xs.length : Int) = r * c) (h0 : 0 ≤ i) (h1 : i < r) : (xs.drop (i * c).toNat).take (((i + 1) * c).toNat - (i * c).toNat) = rowL c xs i := by
 have hi : i = (i.toNat : Int) := by omega
 have hc' : c = (c.toNat : Int) := by omega
 have hr' : r = (r.toNat : Int) := by omega
 unfold rowL mat
 generalize i.toNat = a at *
 generalize c.toNat = d at *
 generalize r.toNat = e at *
 subst hi; subst hc'; subst hr'
 have hlen : xs.length = e * d := by rw [← Int.natCast_mul] at hl; exact Int.ofNat.inj hl
 have hae : (a + 1) * d ≤ e * d := Nat.mul_le_mul_right d (by omega)
 have e1 : ((a : Int) * (d : Int)).toNat = a * d := by rw [← Int.natCast_mul]; rfl
 have e2 : (((a : Int) + 1) * (d : Int)).toNat = (a + 1) * d := by rw [← Int.natCast_succ, ← Int.natCast_mul]; rfl
 rw [e1, e2, Nat.add_mul, Nat.one_mul, Nat.add_sub_cancel_left]
 rw [Nat.add_mul, Nat.one_mul] at hae
 apply List.ext_getElem
 ·simp; omega
 ·intro k h2 h3
  simp at h3
  have e3 : ((a : Int) * (d : Int) + (k : Int)).toNat = a * d + k := by rw [← Int.natCast_mul, ← Int.natCast_add]; rfl
  simp only [List.getElem_take, List.getElem_drop, List.getElem_map, List.getElem_range, e3]
  rw [List.getD, List.getElem?_eq_getElem (by omega)]
  rfl
structure MR where
 r : Int
 c : Int
 a : List Nat
 e : Int
theorem MR.eq4 {x : MR} {r c e : Int} {a : List Nat} (h : ((decide (x.r = r) && decide (x.c = c)) && decide (x.a = a) && decide (x.e = e)) = true) : x = ⟨r, c, a, e⟩ := by
 obtain ⟨p, q, s, u⟩ := x
 simp at h
 obtain ⟨⟨⟨h1, h2⟩, h3⟩, h4⟩ := h
 rw [h1, h2, h3, h4]
def resM (x : MR) : SP := tupp [MatP x.r x.c x.a, isv (.int .i64 x.e)]
theorem ret_M {Γ : Facts} {r c : Int} {a : List Nat} {e : Int} {x : MR} (h : (⟨r, c, a, e⟩ : MR) = x) : Sb Γ (tupp [MatP r c a, isv (.int .i64 e)]) (resM x) := by subst h; exact zL
def badM (e : Int) : MR := ⟨0, 0, [], e⟩
def toldR (r c : Int) (xs : List Nat) : MR := if xs.all finB = false then badM 5 else ⟨r, c, xs, 0⟩
def Siz (r c : Int) : Prop := 0 ≤ r ∧ r ≤ 12 ∧ 0 ≤ c ∧ c ≤ 12
def Good (r c : Int) (xs : List Nat) : Prop := Siz r c ∧ (xs.length : Int) = r * c
def Pl (r c i j : Int) : Prop := 0 ≤ i ∧ i < r ∧ 0 ≤ j ∧ j < c
theorem Siz.mul {r c : Int} (h : Siz r c) : 0 ≤ r * c ∧ r * c ≤ 144 := by
 obtain ⟨h1, h2, h3, h4⟩ := h
 exact ⟨Int.mul_nonneg h1 h3, Int.le_trans (Int.mul_le_mul_of_nonneg_right h2 h3) (by omega)⟩
theorem Pl.rng {r c i j : Int} (hs : Siz r c) (h : Pl r c i j) : 0 ≤ i * c ∧ 0 ≤ i * c + j ∧ i * c + j < r * c ∧ r * c ≤ 144 ∧ i * c + c ≤ r * c := by
 obtain ⟨h1, h2, h3, h4⟩ := h
 have h5 : 0 ≤ i * c := Int.mul_nonneg h1 hs.2.2.1
 have h6 : (i + 1) * c ≤ r * c := Int.mul_le_mul_of_nonneg_right (by omega) hs.2.2.1
 rw [Int.add_mul, Int.one_mul] at h6
 have := hs.mul
 omega
theorem good_grid {r c : Int} {f : Int → Int → Nat} (h : Siz r c) : Good r c (grid r c f) := by
 refine ⟨h, ?_⟩
 rw [length_grid]
 have h1 : r = (r.toNat : Int) := by have := h.1; omega
 have h2 : c = (c.toNat : Int) := by have := h.2.2.1; omega
 rw [Int.natCast_mul, ← h1, ← h2]
theorem Good.row {r c i : Int} {xs : List Nat} (h : Good r c xs) (h0 : 0 ≤ i) (h1 : i < r) : 0 ≤ i * c ∧ (i + 1) * c = i * c + c ∧ i * c + c ≤ xs.length ∧ (xs.length : Int) ≤ 144 := by
 have h5 : 0 ≤ i * c := Int.mul_nonneg h0 h.1.2.2.1
 have h6 : (i + 1) * c ≤ r * c := Int.mul_le_mul_of_nonneg_right (by omega) h.1.2.2.1
 have h7 : (i + 1) * c = i * c + c := by rw [Int.add_mul, Int.one_mul]
 have := h.1.mul
 have := h.2
 omega
theorem sizB_iff {n : Int} : sizB n = true ↔ 0 ≤ n ∧ n ≤ 12 := by simp [sizB]
theorem chk_zero {r c : Int} {xs : List Nat} : chk r c xs = 0 ↔ Good r c xs ∧ xs.all finB = true := by
 unfold chk Good Siz
 have h1 := @sizB_iff r
 have h2 := @sizB_iff c
 cases e1 : sizB r <;> cases e2 : sizB c <;> cases e3 : xs.all finB <;> simp only [e1, e2] at h1 h2 <;> simp <;> (try split) <;> simp_all <;> omega
theorem chk_good {r c : Int} {xs : List Nat} (h : chk r c xs = 0) : Good r c xs := (chk_zero.1 h).1
theorem sizT {r c : Int} (h : sizB r = true ∧ sizB c = true) : Siz r c := by
 have h1 := sizB_iff.1 h.1
 have h2 := sizB_iff.1 h.2
 exact ⟨h1.1, h1.2, h2.1, h2.2⟩
def PutI (r c : Int) (f : Int → Int → Nat) (D : Int → Int → Prop) (xs : List Nat) : Prop := (xs.length : Int) = r * c ∧ ∀ a b, Pl r c a b → (D a b → mat c xs a b = f a b) ∧ (¬ D a b → mat c xs a b = 0)
theorem mat_replicate {c a b : Int} {n : Nat} : mat c (List.replicate n 0) a b = 0 := by
 unfold mat
 rw [List.getD, List.getElem?_replicate]
 split <;> rfl
theorem grid_zero {r c : Int} : grid r c (fun _ _ => 0) = List.replicate (r.toNat * c.toNat) 0 := by
 unfold grid
 rw [List.map_const', List.length_range]
theorem putI_zero {r c : Int} {f : Int → Int → Nat} (h : Siz r c) : PutI r c f (fun _ _ => False) (List.replicate (r * c).toNat 0) := by
 refine ⟨?_, fun a b _ => ⟨fun h => h.elim, fun _ => mat_replicate⟩⟩
 have := h.mul
 simp; omega
theorem mat_set {c p q a b : Int} {xs : List Nat} {v : Nat} {r : Int} (hs : Siz r c) (hl : (xs.length : Int) = r * c) (hp : Pl r c p q) (ha : Pl r c a b) : mat c (xs.set (p * c + q).toNat v) a b = if a = p ∧ b = q then v else mat c xs a b := by
 unfold mat
 have h1 := hp.rng hs
 have h2 := ha.rng hs
 obtain ⟨hp1, hp2, hp3, hp4⟩ := hp
 obtain ⟨ha1, ha2, ha3, ha4⟩ := ha
 by_cases he : a = p ∧ b = q
 ·rw [if_pos he, he.1, he.2]
  rw [List.getD, List.getElem?_set_self (by omega)]
  rfl
 ·rw [if_neg he]
  have hne : (p * c + q).toNat ≠ (a * c + b).toNat := by
   intro e
   have e' : p * c + q = a * c + b := by omega
   apply he
   have hc : 0 < c := by omega
   rcases Int.lt_trichotomy a p with h | h | h
   ·have h6 : (a + 1) * c ≤ p * c := Int.mul_le_mul_of_nonneg_right (by omega) (by omega)
    rw [Int.add_mul, Int.one_mul] at h6
    omega
   ·subst h; omega
   ·have h6 : (p + 1) * c ≤ a * c := Int.mul_le_mul_of_nonneg_right (by omega) (by omega)
    rw [Int.add_mul, Int.one_mul] at h6
    omega
  rw [List.getD, List.getElem?_set_ne hne]
  rfl
theorem putI_set {r c p q : Int} {f : Int → Int → Nat} {D D' : Int → Int → Prop} {xs : List Nat} {v : Nat} (hs : Siz r c) (h : PutI r c f D xs) (hp : Pl r c p q) (hv : v = f p q) (hD : ∀ a b, Pl r c a b → (D' a b ↔ D a b ∨ (a = p ∧ b = q))) : PutI r c f D' (xs.set (p * c + q).toNat v) := by
 refine ⟨by rw [List.length_set]; exact h.1, fun a b hab => ?_⟩
 rw [mat_set hs h.1 hp hab]
 have h1 := h.2 a b hab
 have h2 := hD a b hab
 by_cases he : a = p ∧ b = q
 ·rw [if_pos he]
  refine ⟨fun _ => by rw [hv, he.1, he.2], fun hn => (hn (h2.2 (.inr he))).elim⟩
 ·rw [if_neg he]
  refine ⟨fun hd => h1.1 ((h2.1 hd).resolve_right he), fun hn => h1.2 fun hd => hn (h2.2 (.inl hd))⟩
theorem putI_cast {r c : Int} {f : Int → Int → Nat} {D D' : Int → Int → Prop} {xs : List Nat} (h : PutI r c f D xs) (hD : ∀ a b, Pl r c a b → (D' a b ↔ D a b)) : PutI r c f D' xs :=
 ⟨h.1, fun a b hab => ⟨fun hd => (h.2 a b hab).1 ((hD a b hab).1 hd), fun hn => (h.2 a b hab).2 fun hd => hn ((hD a b hab).2 hd)⟩⟩
theorem putI_grid {r c : Int} {f : Int → Int → Nat} {D : Int → Int → Prop} {xs : List Nat} (hs : Siz r c) (h : PutI r c f D xs) (hD : ∀ a b, Pl r c a b → D a b) : xs = grid r c f := by
 rw [← grid_mat hs.1 hs.2.2.1 h.1]
 exact grid_congr fun i j h1 h2 h3 h4 => (h.2 i j ⟨h1, h2, h3, h4⟩).1 (hD i j ⟨h1, h2, h3, h4⟩)
theorem take_grid {r c : Int} {f : Int → Int → Nat} {i j : Nat} (hi : i < r.toNat) (hj : j < c.toNat) : (grid r c f).take (i * c.toNat + (j + 1)) = (grid r c f).take (i * c.toNat + j) ++ [f i j] := by
 have hl := place_lt hi hj
 rw [show i * c.toNat + (j + 1) = (i * c.toNat + j) + 1 by omega, take_snoc 0 (by rw [length_grid]; exact hl), grid_at r c f hi hj]
theorem take_grid_all {r c : Int} {f : Int → Int → Nat} : (grid r c f).take (r.toNat * c.toNat) = grid r c f := List.take_of_length_le (by rw [length_grid]; exact Nat.le_refl _)
theorem siz_nat {r c : Int} (hs : Siz r c) : r.toNat * c.toNat ≤ 144 ∧ ((r.toNat * c.toNat : Nat) : Int) = r * c := by
 have h := hs.mul
 have h1 : r = (r.toNat : Int) := by have := hs.1; omega
 have h2 : c = (c.toNat : Int) := by have := hs.2.2.1; omega
 have e : ((r.toNat * c.toNat : Nat) : Int) = r * c := by rw [Int.natCast_mul, ← h1, ← h2]
 omega
end Go.Bn
namespace Go.Bn
open Go
theorem fstE_drop {es : List Int} {k : Nat} (hk : k < es.length) : fstE (es.drop k) = if es.getD k 0 = 0 then fstE (es.drop (k + 1)) else es.getD k 0 := by
 rw [List.drop_eq_getElem_cons hk, fstE, List.getD, List.getElem?_eq_getElem hk]; rfl
theorem length_rowL {c : Int} {xs : List Nat} {i : Int} : (rowL c xs i).length = c.toNat := by simp [rowL]
theorem length_colL {r c : Int} {xs : List Nat} {j : Int} : (colL r c xs j).length = r.toNat := by simp [colL]
theorem take_colL {r c : Int} {xs : List Nat} {j : Int} {k : Nat} (hk : k < r.toNat) : (colL r c xs j).take (k + 1) = (colL r c xs j).take k ++ [mat c xs k j] := by
 rw [take_snoc 0 (by rw [length_colL]; exact hk)]
 congr 2
 simp [colL, List.getD, hk]
end Go.Bn
namespace Go.Bn
open Go
def MatU (r c : Int) (bs : List Nat) : SP := aggp [isv (.int .i64 r), isv (.int .i64 c), wsl bs]
end Go.Bn
namespace Go.Bn
open Go
def RowD (i j a b : Int) : Prop := a < i ∨ (a = i ∧ b < j)
theorem putI_grid0 {r c : Int} {f : Int → Int → Nat} (hs : Siz r c) : PutI r c f (RowD (0 : Nat) (0 : Nat)) (grid r c fun _ _ => 0) := by
 have h := putI_zero (f := f) hs
 rw [grid_zero, show r.toNat * c.toNat = (r * c).toNat by have := siz_nat hs; omega]
 refine putI_cast h fun a b hab => ?_
 obtain ⟨h1, h2, h3, h4⟩ := hab
 refine ⟨fun h => ?_, False.elim⟩
 unfold RowD at h
 show False
 omega
theorem row_step {r c : Int} {f : Int → Int → Nat} {i j : Nat} {xs : List Nat} {v : Nat} (hs : Siz r c) (hi : (i : Int) < r) (hj : (j : Int) < c) (h : PutI r c f (RowD i j) xs) (hv : v = f i j) : PutI r c f (RowD i ((j + 1 : Nat) : Int)) (xs.set ((i : Int) * c + (j : Int)).toNat v) := by
 refine putI_set hs h ⟨by omega, hi, by omega, hj⟩ hv fun a b _ => ?_
 unfold RowD; omega
theorem row_end {r c : Int} {f : Int → Int → Nat} {i q : Nat} {xs : List Nat} (hs : Siz r c) (hq : q = c.toNat) (h : PutI r c f (RowD i q) xs) : PutI r c f (RowD ((i + 1 : Nat) : Int) ((0 : Nat) : Int)) xs := by
 have h1 := hs.2.2.1
 refine putI_cast h fun a b hab => ?_
 obtain ⟨h1, h2, h3, h4⟩ := hab
 unfold RowD; omega
theorem row_done {r c : Int} {f : Int → Int → Nat} {k : Nat} {xs : List Nat} (hs : Siz r c) (hk : k = r.toNat) (h : PutI r c f (RowD k (0 : Nat)) xs) : xs = grid r c f := by
 have h1 := hs.1
 refine putI_grid hs h fun a b hab => ?_
 obtain ⟨h1, h2, h3, h4⟩ := hab
 unfold RowD; omega
structure NR where
 a : Nat
 e : Int
def resN (x : NR) : SP := tupp [flp x.a, isv (.int .i64 x.e)]
def badN (e : Int) : NR := ⟨0, e⟩
def orN (e : Int) (x : NR) : NR := if e = 0 then x else badN e
theorem ret_N {Γ : Facts} {a : Nat} {e : Int} {x : NR} (h : (⟨a, e⟩ : NR) = x) : Sb Γ (tupp [flp a, isv (.int .i64 e)]) (resN x) := by subst h; exact zL
end Go.Bn
namespace Go.Bn
open Go
theorem lpE : Ieee.double.leastPlace = -1074 := by decide +kernel
theorem fbE : Ieee.double.fractionBits = 52 := rfl
theorem log2_shift {n k : Nat} (h : n ≠ 0) : (n <<< k).log2 = n.log2 + k := by
 rw [Nat.shiftLeft_eq]
 refine (Nat.log2_eq_iff (by have := Nat.two_pow_pos k; exact Nat.mul_ne_zero h (by omega))).2 ⟨?_, ?_⟩
 ·rw [Nat.pow_add]; exact Nat.mul_le_mul_right _ (Nat.log2_self_le h)
 ·rw [show n.log2 + k + 1 = (n.log2 + 1) + k by omega, Nat.pow_add]
  exact Nat.mul_lt_mul_of_pos_right (Nat.lt_log2_self) (Nat.two_pow_pos k)
theorem shift_ne {n k : Nat} (h : n ≠ 0) : n <<< k ≠ 0 := by
 rw [Nat.shiftLeft_eq]
 have := Nat.two_pow_pos k
 exact Nat.mul_ne_zero h (by omega)
theorem cut_scale {neg : Bool} {n d k : Nat} (h : n ≠ 0) : Ieee.Toward.even.cut neg (n <<< k) (d + k) = Ieee.Toward.even.cut neg n d := by
 unfold Ieee.Toward.cut
 simp only [log2_shift h]
 rw [show min (d + k) (n.log2 + k + 2) = min d (n.log2 + 2) + k by omega]
 generalize min d (n.log2 + 2) = g
 have e1 : 1 <<< (g + k) = (1 <<< g) * 2 ^ k := by rw [Nat.shiftLeft_eq, Nat.shiftLeft_eq, Nat.pow_add]; simp
 have e2 : n <<< k = n * 2 ^ k := Nat.shiftLeft_eq _ _
 rw [e1, e2]
 generalize hG : 1 <<< g = G
 have hk := Nat.two_pow_pos k
 rw [Nat.mul_div_mul_right _ _ hk, Nat.mul_mod_mul_right]
 generalize hK : 2 ^ k = K at *
 have h1 : decide (G * K < 2 * (n % G * K)) = decide (G < 2 * (n % G)) := by
  rw [← Nat.mul_assoc]
  exact decide_eq_decide.2 (Nat.mul_lt_mul_right hk)
 have h2 : (G * K == 2 * (n % G * K)) = (G == 2 * (n % G)) := by
  rw [← Nat.mul_assoc, Bool.eq_iff_iff, beq_iff_eq, beq_iff_eq]
  exact Nat.mul_right_cancel_iff hk
 simp only [h1, h2]
theorem cut_zero {neg : Bool} {n : Nat} : Ieee.Toward.even.cut neg n 0 = n := by
 unfold Ieee.Toward.cut
 simp [Nat.mod_one]
theorem cut_exact {neg : Bool} {n d : Nat} (h : n ≠ 0) : Ieee.Toward.even.cut neg (n <<< d) d = n := by
 have := @cut_scale neg n 0 d h
 rw [Nat.zero_add] at this
 rw [this, cut_zero]
theorem nearest_scale {s : Bool} {n k : Nat} {p : Int} : Ieee.double.nearest s (n <<< k) (p - k) = Ieee.double.nearest s n p := by
 by_cases h : n = 0
 ·subst h; simp [Ieee.Format.nearest]
 unfold Ieee.Format.nearest
 rw [if_neg h, if_neg (shift_ne h)]
 simp only [log2_shift h]
 rw [show p - (k : Int) + ((n.log2 + k : Nat) : Int) - (Ieee.double.fractionBits : Int) = p + (n.log2 : Int) - (Ieee.double.fractionBits : Int) by omega]
 generalize max (p + (n.log2 : Int) - (Ieee.double.fractionBits : Int)) Ieee.double.leastPlace = last
 suffices hc : Ieee.Toward.even.cut s ((n <<< k) <<< (p - k - last).toNat) (last - (p - k)).toNat = Ieee.Toward.even.cut s (n <<< (p - last).toNat) (last - p).toNat by rw [hc]
 by_cases h1 : (k : Int) ≤ p - last
 ·rw [show (last - (p - k)).toNat = 0 by omega, show (last - p).toNat = 0 by omega, ← Nat.shiftLeft_add]
  congr 2; omega
 ·by_cases h2 : 0 ≤ p - last
  ·rw [show (p - k - last).toNat = 0 by omega, show (last - p).toNat = 0 by omega, Nat.shiftLeft_zero]
   have e : n <<< k = (n <<< (p - last).toNat) <<< (k - (p - last).toNat) := by rw [← Nat.shiftLeft_add]; congr 1; omega
   rw [e, show (last - (p - k)).toNat = 0 + (k - (p - last).toNat) by omega, cut_scale (shift_ne h)]
  ·rw [show (p - k - last).toNat = 0 by omega, show (p - last).toNat = 0 by omega, Nat.shiftLeft_zero, Nat.shiftLeft_zero, show (last - (p - k)).toNat = (last - p).toNat + k by omega, cut_scale h]
theorem nearest_eq {s : Bool} {n m : Nat} {p q : Int} (h : (n : Nat) * 2 ^ (p - min p q).toNat = m * 2 ^ (q - min p q).toNat) : Ieee.double.nearest s n p = Ieee.double.nearest s m q := by
 have h1 := @nearest_scale s n (p - min p q).toNat p
 have h2 := @nearest_scale s m (q - min p q).toNat q
 rw [Nat.shiftLeft_eq] at h1 h2
 rw [← h1, ← h2, h, show p - ((p - min p q).toNat : Int) = q - ((q - min p q).toNat : Int) by omega]
def sgn (w : Nat) : Bool := w / 9223372036854775808 % 2 == 1
def rung (w : Nat) : Nat := w % 9223372036854775808
def mgn (w : Nat) : Nat := if rung w < 4503599627370496 then rung w else 4503599627370496 + rung w % 4503599627370496
def plc (w : Nat) : Int := if rung w < 4503599627370496 then -1074 else -1074 + (rung w / 4503599627370496 - 1 : Nat)
def vlu (w : Nat) : Nat := mgn w * 2 ^ (plc w + 1074).toNat
theorem finB_iff {w : Nat} (hw : w < 2 ^ 64) : finB w = true ↔ rung w < 9218868437227405312 := by
 unfold finB rung expo
 simp only [decide_eq_true_eq]
 omega
theorem read_fin {w : Nat} (h : rung w < 9218868437227405312) : Ieee.double.read w = .number (sgn w) (mgn w) (plc w) := by
 unfold Ieee.Format.read mgn plc sgn rung at *
 simp only [signW, binA, infR, lpE]
 split
 ·rfl
 ·first | rfl | rw [if_pos h]
theorem word_eq {w : Nat} (hw : w < 2 ^ 64) : Ieee.double.word (sgn w) (rung w) = w := by
 unfold Ieee.Format.word sgn rung
 rw [signW]
 have h1 : w / 9223372036854775808 < 2 := by omega
 cases h : (w / 9223372036854775808 % 2 == 1)
 ·simp at h ⊢; omega
 ·simp at h ⊢; omega
theorem log2_52 {f : Nat} (h : f < 4503599627370496) : (4503599627370496 + f).log2 = 52 := (Nat.log2_eq_iff (by omega)).2 ⟨by omega, by omega⟩
theorem nearest_read {w : Nat} (hw : w < 2 ^ 64) (h : rung w < 9218868437227405312) : Ieee.double.nearest (sgn w) (mgn w) (plc w) = w := by
 conv => rhs; rw [← word_eq hw]
 unfold Ieee.Format.nearest
 simp only [lpE, fbE, binA, infR]
 by_cases h1 : rung w < 4503599627370496
 ·have e1 : mgn w = rung w := by unfold mgn; rw [if_pos h1]
  have e2 : plc w = -1074 := by unfold plc; rw [if_pos h1]
  rw [e1, e2]
  by_cases h0 : rung w = 0
  ·rw [if_pos h0, h0]
  ·rw [if_neg h0]
   have hl : (rung w).log2 < 52 := by rw [Nat.log2_lt h0]; omega
   rw [show max (-1074 + ((rung w).log2 : Int) - ((52 : Nat) : Int)) (-1074 : Int) = -1074 by omega]
   simp [cut_zero]
   congr 1
   omega
 ·have hf : rung w % 4503599627370496 < 4503599627370496 := Nat.mod_lt _ (by omega)
  have e1 : mgn w = 4503599627370496 + rung w % 4503599627370496 := by unfold mgn; rw [if_neg h1]
  have e2 : plc w = -1074 + (rung w / 4503599627370496 - 1 : Nat) := by unfold plc; rw [if_neg h1]
  rw [e1, e2, if_neg (by omega), log2_52 hf]
  generalize hq : rung w / 4503599627370496 - 1 = q
  rw [show max (-1074 + (q : Int) + ((52 : Nat) : Int) - ((52 : Nat) : Int)) (-1074 : Int) = -1074 + (q : Int) by omega]
  rw [show (-1074 + (q : Int) - (-1074 + (q : Int))).toNat = 0 by omega, Nat.shiftLeft_zero, cut_zero, show (-1074 + (q : Int) - -1074).toNat = q by omega]
  congr 1
  omega
theorem plc_ge (w : Nat) : -1074 ≤ plc w := by unfold plc; split <;> omega
theorem mgn_lt (w : Nat) : mgn w < 9007199254740992 := by
 unfold mgn
 have := Nat.mod_lt (rung w) (show 0 < 4503599627370496 by omega)
 split <;> omega
theorem nearest_vlu {w : Nat} (hw : w < 2 ^ 64) (h : rung w < 9218868437227405312) : Ieee.double.nearest (sgn w) (vlu w) (-1074) = w := by
 conv => rhs; rw [← nearest_read hw h]
 apply nearest_eq
 have := plc_ge w
 rw [show min (-1074 : Int) (plc w) = -1074 by omega]
 simp [vlu]
theorem word_parts {s : Bool} {r : Nat} (h : r ≤ 9218868437227405312) : sgn (Ieee.double.word s r) = s ∧ rung (Ieee.double.word s r) = r ∧ Ieee.double.word s r < 2 ^ 64 := by
 unfold Ieee.Format.word sgn rung
 rw [signW]
 cases s
 ·simp; omega
 ·simp; omega
theorem nearest_few0 {s : Bool} {a j : Nat} (ha : a < 9007199254740992) (h0 : a ≠ 0) : ∃ t K, Ieee.double.nearest s (a * 2 ^ j) (-1074) = Ieee.double.word s (min (t * 4503599627370496 + K) 9218868437227405312) ∧ K < 9007199254740992 ∧ (t = 0 ∨ 4503599627370496 ≤ K) ∧ K * 2 ^ t = a * 2 ^ j := by
 have hv0 : a * 2 ^ j ≠ 0 := by have := Nat.two_pow_pos j; exact Nat.mul_ne_zero h0 (by omega)
 have hla : a.log2 ≤ 52 := by have := (Nat.log2_lt h0 (k := 53)).2 (by omega); omega
 have hlog : (a * 2 ^ j).log2 = a.log2 + j := by rw [← Nat.shiftLeft_eq]; exact log2_shift h0
 have htj : a.log2 + j - 52 ≤ j := by omega
 refine ⟨a.log2 + j - 52, a * 2 ^ (j - (a.log2 + j - 52)), ?_, ?_, ?_, ?_⟩
 ·unfold Ieee.Format.nearest
  simp only [lpE, fbE, binA, infR]
  rw [if_neg hv0, hlog]
  generalize ht : a.log2 + j - 52 = t at htj ⊢
  have hlast : max (-1074 + ((a.log2 + j : Nat) : Int) - ((52 : Nat) : Int)) (-1074 : Int) = -1074 + (t : Int) := by omega
  rw [hlast, show (-1074 - (-1074 + (t : Int))).toNat = 0 by omega, Nat.shiftLeft_zero, show (-1074 + (t : Int) - -1074).toNat = t by omega]
  have e : a * 2 ^ j = (a * 2 ^ (j - t)) <<< t := by rw [Nat.shiftLeft_eq, Nat.mul_assoc, ← Nat.pow_add]; congr 2; omega
  rw [e, cut_exact (by have := Nat.two_pow_pos (j - t); exact Nat.mul_ne_zero h0 (by omega))]
 ·generalize ht : a.log2 + j - 52 = t at htj ⊢
  have h1 : (a * 2 ^ (j - t)).log2 ≤ 52 := by rw [← Nat.shiftLeft_eq, log2_shift h0]; omega
  have h2 := Nat.lt_log2_self (n := a * 2 ^ (j - t))
  have h3 : 2 ^ ((a * 2 ^ (j - t)).log2 + 1) ≤ 2 ^ 53 := Nat.pow_le_pow_right (by omega) (by omega)
  exact Nat.lt_of_lt_of_le h2 h3
 ·rcases Nat.eq_zero_or_pos (a.log2 + j - 52) with h | h
  ·exact .inl h
  ·right
   generalize ht : a.log2 + j - 52 = t at htj h ⊢
   have h1 : (a * 2 ^ (j - t)).log2 = 52 := by rw [← Nat.shiftLeft_eq, log2_shift h0]; omega
   have h2 := Nat.log2_self_le (n := a * 2 ^ (j - t)) (by have := Nat.two_pow_pos (j - t); exact Nat.mul_ne_zero h0 (by omega))
   rw [h1] at h2
   exact h2
 ·rw [Nat.mul_assoc, ← Nat.pow_add]; congr 2; omega
theorem nearest_few {s : Bool} {a j : Nat} (ha : a < 9007199254740992) (w : Nat) (hw : Ieee.double.nearest s (a * 2 ^ j) (-1074) = w) :
  w < 2 ^ 64 ∧ sgn w = s ∧ (rung w = 9218868437227405312 ∨ (rung w < 9218868437227405312 ∧ vlu w = a * 2 ^ j)) := by
 by_cases h0 : a = 0
 ·subst h0
  rw [Nat.zero_mul] at hw ⊢
  obtain ⟨h1, h2, h3⟩ := @word_parts s 0 (by omega)
  have e : Ieee.double.nearest s 0 (-1074) = Ieee.double.word s 0 := by simp [Ieee.Format.nearest]
  rw [e] at hw
  rw [hw] at h1 h2 h3
  exact ⟨h3, h1, .inr ⟨by omega, by simp [vlu, mgn, h2]⟩⟩
 obtain ⟨t, K, h, hK, ht, hv⟩ := @nearest_few0 s a j ha h0
 rw [hw] at h
 obtain ⟨h1, h2, h3⟩ := @word_parts s (min (t * 4503599627370496 + K) 9218868437227405312) (Nat.min_le_right ..)
 rw [← h] at h1 h2 h3
 refine ⟨h3, h1, ?_⟩
 clear h hw h1 h3
 by_cases hb : 9218868437227405312 ≤ t * 4503599627370496 + K
 ·exact .inl (by rw [h2]; exact Nat.min_eq_right hb)
 ·right
  have hr : rung w = t * 4503599627370496 + K := by rw [h2]; exact Nat.min_eq_left (by omega)
  refine ⟨by omega, ?_⟩
  rw [← hv]
  unfold vlu mgn plc
  rw [hr]
  by_cases hs : t * 4503599627370496 + K < 4503599627370496
  ·rw [if_pos hs, if_pos hs]
   have : t = 0 := by omega
   subst this
   simp
  ·rw [if_neg hs, if_neg hs]
   have hKlow : 4503599627370496 ≤ K := by omega
   have e1 : (t * 4503599627370496 + K) % 4503599627370496 = K - 4503599627370496 := by omega
   have e2 : (t * 4503599627370496 + K) / 4503599627370496 - 1 = t := by omega
   rw [e1, e2, show 4503599627370496 + (K - 4503599627370496) = K by omega, show (-1074 + (t : Int) + 1074).toNat = t by omega]
theorem read_inf {w : Nat} (h : rung w = 9218868437227405312) : Ieee.double.read w = .infinity (sgn w) := by
 unfold Ieee.Format.read sgn rung at *
 simp only [signW, binA, infR, h]
 rfl
end Go.Bn
namespace Go.Bn
open Go
def ONE : Nat := 0x3ff0000000000000
def NEG0 : Nat := 0x8000000000000000
theorem read_one : Ieee.double.read ONE = .number false 4503599627370496 (-52) := by decide +kernel
theorem mul_shift (m : Nat) : 4503599627370496 * m = m <<< 52 := by
 rw [Nat.shiftLeft_eq, Nat.mul_comm]
theorem fmul_one {x : Nat} (hx : x < 2 ^ 64) (hf : finB x = true) : fmul ONE x = x := by
 have hr := (finB_iff hx).1 hf
 have e : fmul ONE x = Ieee.double.nearest (false ^^ sgn x) (4503599627370496 * mgn x) (-52 + plc x) := by
  unfold fmul Ieee.Format.mul
  rw [read_one, read_fin hr]
  rfl
 rw [e, mul_shift, Bool.false_xor, show (-52 + plc x) = plc x - ((52 : Nat) : Int) by omega]
 exact (@nearest_scale (sgn x) (mgn x) 52 (plc x)).trans (nearest_read hx hr)
theorem nearest_nought {s : Bool} {p : Int} : Ieee.double.nearest s 0 p = if s then NEG0 else 0 := by
 have : Ieee.double.nearest s 0 p = Ieee.double.word s 0 := by simp [Ieee.Format.nearest]
 rw [this]
 cases s <;> decide +kernel
theorem getD_rowL {c : Int} {xs : List Nat} {i : Int} {k : Nat} (hk : k < c.toNat) : (rowL c xs i).getD k 0 = mat c xs i k := by simp [rowL, List.getD, hk]
theorem getD_colL {r c : Int} {xs : List Nat} {j : Int} {k : Nat} (hk : k < r.toNat) : (colL r c xs j).getD k 0 = mat c xs k j := by simp [colL, List.getD, hk]
end Go.Bn
namespace Go.Bn
open Go
theorem sum_opp {s : Bool} {m : Nat} {e : Int} : (Ieee.Datum.number s m e).sum ((Ieee.Datum.number s m e).opposite) = some (.number false 0 e) := by
 simp only [Ieee.Datum.sum, Ieee.Datum.opposite, Ieee.signed]
 cases s <;> simp <;> omega
theorem read_nan {w : Nat} (h : 9218868437227405312 < rung w) : ∃ s t, Ieee.double.read w = .nan s t := by
 unfold Ieee.Format.read
 unfold rung at h
 simp only [signW, binA, infR]
 rw [if_neg (by omega), if_neg (by omega), if_neg (by omega)]
 exact ⟨_, _, rfl⟩
theorem fsub_self {x : Nat} (hx : x < 2 ^ 64) : fsub x x = if finB x = true then 0 else NAN := by
 unfold fsub Ieee.Format.sub
 by_cases h1 : rung x < 9218868437227405312
 ·rw [if_pos ((finB_iff hx).2 h1), read_fin h1, sum_opp]
  show Ieee.double.nearest false 0 (plc x) = 0
  rw [nearest_nought]; rfl
 ·have hf : ¬ finB x = true := fun h => h1 ((finB_iff hx).1 h)
  rw [if_neg hf]
  by_cases h2 : rung x = 9218868437227405312
  ·rw [read_inf h2]
   cases sgn x <;> rfl
  ·obtain ⟨s, t, h⟩ := read_nan (show 9218868437227405312 < rung x by omega)
   rw [h]
   rfl
theorem fin_not_nan {x : Nat} (h : finB x = true) : nanB x = false := by
 rw [nanB_iff]
 unfold finB expo at h
 simp only [decide_eq_true_eq] at h
 exact decide_eq_false (by omega)
end Go.Bn
namespace Go.Bn
open Go
theorem fop_lt {op : BinOp} {x y : Nat} : fop (fbits op x y) < 2 ^ 64 := by
 cases h : fbits op x y with
 | none => exact NAN_lt
 | some r => exact (fbits_some h).2.1
end Go.Bn
namespace Go.Bn
open Go
def wr (a b : Int) : Int := IntKind.i64.wrap (a + b)
end Go.Bn
namespace Go.Bn
open Go
def OkAt (ps : List Int) (a : Nat) : Prop := 0 ≤ ps.getD a 0 ∧ ps.getD a 0 < (ps.length : Int) ∧ ∀ q, q < a → ps.getD q 0 ≠ ps.getD a 0
instance (ps : List Int) (a : Nat) : Decidable (OkAt ps a) := by unfold OkAt; exact inferInstance
def OkTo (ps : List Int) (k : Nat) : Prop := ∀ a, a < k → OkAt ps a
instance (ps : List Int) (k : Nat) : Decidable (OkTo ps k) := by unfold OkTo; exact inferInstance
end Go.Bn
namespace Go.Bn
open Go
def P2 (k : Int) : Nat := (k + 1023).toNat * 4503599627370496
theorem p2_rung {k : Int} (h0 : -500 ≤ k) (h1 : k ≤ 500) : rung (P2 k) = P2 k ∧ P2 k < 9218868437227405312 := by unfold rung P2; omega
theorem p2_parts {k : Int} (h0 : -500 ≤ k) (h1 : k ≤ 500) : sgn (P2 k) = false ∧ mgn (P2 k) = 4503599627370496 ∧ plc (P2 k) = k - 52 := by
 obtain ⟨h2, h3⟩ := p2_rung h0 h1
 refine ⟨?_, ?_, ?_⟩
 ·unfold sgn
  have : P2 k / 9223372036854775808 = 0 := by omega
  rw [this]; rfl
 ·unfold mgn
  rw [h2, if_neg (by unfold P2; omega)]
  unfold P2; omega
 ·unfold plc
  rw [h2, if_neg (by unfold P2; omega)]
  unfold P2; omega
theorem mul_shift2 (m : Nat) : m * 4503599627370496 = m <<< 52 := by rw [Nat.mul_comm, mul_shift]
theorem fmul_fin {x y : Nat} (hx : rung x < 9218868437227405312) (hy : rung y < 9218868437227405312) : fmul x y = Ieee.double.nearest (sgn x ^^ sgn y) (mgn x * mgn y) (plc x + plc y) := by
 unfold fmul Ieee.Format.mul
 rw [read_fin hx, read_fin hy]
 rfl
theorem fmul_p2 {x : Nat} {k : Int} (hr : rung x < 9218868437227405312) (h0 : -500 ≤ k) (h1 : k ≤ 500) : fmul x (P2 k) = Ieee.double.nearest (sgn x) (mgn x) (plc x + k) := by
 obtain ⟨q1, q2, q3⟩ := p2_parts h0 h1
 obtain ⟨q4, q5⟩ := p2_rung h0 h1
 have hy : rung (P2 k) < 9218868437227405312 := by omega
 generalize P2 k = y at *
 rw [fmul_fin hr hy, q1, q2, q3, Bool.xor_false, mul_shift2]
 have e : plc x + (k - 52) = plc x + k - ((52 : Nat) : Int) := by omega
 rw [e]
 exact nearest_scale
def TINY : Nat := 0x10000000000000
def P52 : Nat := 0x4330000000000000
def nrmR (x : Nat) : Nat × Int := if fcmp .lss (fabs x) TINY = true then (fmul x P52, -52) else (x, 0)
def frxE (x : Nat) : Int := (nrmR x).2 + ((expo (nrmR x).1 : Int) - 1023 + 1)
theorem fabs_parts {x : Nat} (hx : x < 2 ^ 64) (hr : rung x < 9218868437227405312) : rung (fabs x) = rung x ∧ sgn (fabs x) = false ∧ mgn (fabs x) = mgn x ∧ plc (fabs x) = plc x := by
 have hn : nanB x = false := fin_not_nan ((finB_iff hx).2 hr)
 have e : fabs x = rung x := by unfold fabs; rw [hn]; rfl
 have e2 : rung (fabs x) = rung x := by rw [e]; unfold rung; omega
 refine ⟨e2, ?_, ?_, ?_⟩
 ·rw [e]; unfold sgn
  have : rung x / 9223372036854775808 = 0 := by omega
  rw [this]; rfl
 ·unfold mgn; rw [e2]
 ·unfold plc; rw [e2]
theorem tiny_parts : Ieee.double.read TINY = .number false 4503599627370496 (-1074) := by decide +kernel
theorem norm_mgn {x : Nat} (h : 4503599627370496 ≤ rung x) : 4503599627370496 ≤ mgn x := by unfold mgn; rw [if_neg (by omega)]; omega
theorem norm_lss {x : Nat} (hx : x < 2 ^ 64) (hr : rung x < 9218868437227405312) (hn : 4503599627370496 ≤ rung x) : fcmp .lss (fabs x) TINY = false := by
 obtain ⟨q1, q2, q3, q4⟩ := fabs_parts hx hr
 have hp := plc_ge x
 have hm := norm_mgn hn
 have key : ford (fabs x) TINY ≠ some .lt := by
  unfold ford Ieee.Format.order
  rw [read_fin (show rung (fabs x) < 9218868437227405312 by omega), tiny_parts, q2, q3, q4]
  simp only [Ieee.Datum.order, Ieee.signed]
  rw [show min (plc x) (-1074 : Int) = -1074 by omega, show (-1074 - -1074 : Int).toNat = 0 by decide, Nat.shiftLeft_zero, Nat.shiftLeft_eq]
  have h2 := Nat.two_pow_pos (plc x - -1074).toNat
  have h3 : mgn x * 1 ≤ mgn x * 2 ^ (plc x - -1074).toNat := Nat.mul_le_mul_left _ h2
  generalize mgn x * 2 ^ (plc x - -1074).toNat = v at h3
  simp only [Bool.false_eq_true, if_false, ne_eq, Option.some.injEq]
  rw [Int.compare_eq_lt]
  omega
 show (ford (fabs x) TINY == some .lt) = false
 simpa using key
theorem expo_rung (w : Nat) : expo w = rung w / 4503599627370496 := by unfold expo rung; omega
theorem p52_eq : P52 = P2 52 := by decide
end Go.Bn
namespace Go.Bn
open Go
section ops
variable {P : Program} {n : Nat} {ops : Array Oper} {Γ : Facts} {ρ : Env} {δ : VEnv} {τ : List VR}
variable {d : Nat} {ty : TypeId} {pos : String} {af : Array Edge}
theorem OpOK.sub {o : Oper} {acc : Acc} {p q : SP} {r' : VR} (h : OpOK P n ops Γ ρ δ τ o acc (.c p) r') (hg : o.guard = none) (hs : ∀ v c, p.H v c → q.H v c) : OpOK P n ops Γ ρ δ τ o acc (.c q) r' := by
 intro a c ob g1 g2 g3 g4 g5 g6 g7
 have := h a c ob g1 g2 g3 g4 g5 g6 g7
 have hw : Region.wanted o (yielded ops a.tmps) = true := by unfold Region.wanted; rw [hg]
 rw [if_pos hw] at this ⊢
 exact this.mono fun v w' ⟨c', ob', q1, q2, q3, q4⟩ => ⟨c', ob', q1, q2, hs _ _ q3, q4⟩
theorem op_f64bitsn {f : Nat} {x : Operand} {v : Nat} {ats : Array TypeId} (hf : Ext P f Go.Extern.MathFloatBits.float64bits) (hn : nanB v = false) (hx : Lk Γ δ ρ x (flp v)) :
  OpOK P n ops Γ ρ δ τ ⟨some d, .call ⟨.value (.func f), #[x], ats⟩, ty, pos, af, none⟩ .no (.c (isv (.int .u64 (v : Int)))) dum := (op_f64bits hf hx).sub rfl (bitp_isv hn)
theorem op_neg {x : Operand} {t : TypeId} {k : IntKind} {a z : Int} (hx : Lk Γ δ ρ x (isv (.int k a))) (hz : k.wrap (-a) = z) :
  OpOK P n ops Γ ρ δ τ ⟨some d, .unOp .neg t x, ty, pos, af, none⟩ .no (.c (isv (.int k z))) dum :=
 ok_pure fun A c _ hr => by
  subst hz
  have h := (hr x _ (by simp [Op.operands]) hx).1
  exact ⟨.int k (k.wrap (-a)), by simp [execOp, Op.unary, Op.intArith, h], rfl, rfl⟩
end ops
theorem wu64 (z : Int) : IntKind.u64.wrap z = z % 18446744073709551616 := by simp [IntKind.wrap, IntKind.bits, IntKind.signed]
theorem u64_rng (z : Int) : 0 ≤ IntKind.u64.wrap z ∧ IntKind.u64.wrap z < 18446744073709551616 := by
 rw [wu64]; omega
theorem sb_bits {Γ : Facts} {op : BinOp} {a b : Int} : Sb Γ (isv (.int .u64 (bitsOf op .u64 a b))) (bitp (cn (bitsOf op .u64 a b).toNat)) := fun v c _ hv => by
 have hr : 0 ≤ bitsOf op .u64 a b ∧ bitsOf op .u64 a b < 18446744073709551616 := by
  unfold bitsOf
  cases op <;> exact u64_rng _
 refine ⟨(bitsOf op .u64 a b).toNat, ?_, by omega, rfl⟩
 rw [hv.1, show (((bitsOf op .u64 a b).toNat : Nat) : Int) = bitsOf op .u64 a b by omega]
theorem expo_bitsN {y : Nat} (h : y < 2 ^ 64) : bitsOf .and .u64 ((y / 2 ^ 52 : Nat) : Int) 2047 = ((expo y : Nat) : Int) := by
 rw [show (2047 : Int) = ((2047 : Nat) : Int) from rfl, bits_and _ _ (by omega) (by decide)]
 rw [show (2047 : Nat) = 2 ^ 11 - 1 by decide, and_pow]
 rfl
def MAXF : Nat := 0x7fefffffffffffff
theorem max_parts : Ieee.double.read MAXF = .number false 9007199254740991 971 := by decide +kernel
theorem plc_le {x : Nat} (hr : rung x < 9218868437227405312) : plc x ≤ 971 := by unfold plc; split <;> omega
theorem fin_gtr {x : Nat} (hx : x < 2 ^ 64) (hr : rung x < 9218868437227405312) : fcmp .gtr (fabs x) MAXF = false := by
 obtain ⟨q1, q2, q3, q4⟩ := fabs_parts hx hr
 have hp := plc_ge x
 have hp2 := plc_le hr
 have hm := mgn_lt x
 have key : ford (fabs x) MAXF ≠ some .gt := by
  unfold ford Ieee.Format.order
  rw [read_fin (show rung (fabs x) < 9218868437227405312 by omega), max_parts, q2, q3, q4]
  simp only [Ieee.Datum.order, Ieee.signed]
  rw [show min (plc x) (971 : Int) = plc x by omega, show (plc x - plc x).toNat = 0 by omega, Nat.shiftLeft_zero, Nat.shiftLeft_eq]
  have h2 := Nat.two_pow_pos (971 - plc x).toNat
  have h3 : 9007199254740991 * 1 ≤ 9007199254740991 * 2 ^ (971 - plc x).toNat := Nat.mul_le_mul_left _ h2
  generalize 9007199254740991 * 2 ^ (971 - plc x).toNat = v at h3
  simp only [Bool.false_eq_true, if_false, ne_eq, Option.some.injEq]
  rw [Int.compare_eq_gt]
  omega
 show (ford (fabs x) MAXF == some .gt) = false
 simpa using key
theorem nearest_nan {s : Bool} {m : Nat} {p : Int} : nanB (Ieee.double.nearest s m p) = false := (write_ok (d := .number s m p) rfl).1
theorem nrm_nan {x : Nat} (hx : x < 2 ^ 64) (hf : finB x = true) : nanB (nrmR x).1 = false ∧ (nrmR x).1 < 2 ^ 64 := by
 have hr := (finB_iff hx).1 hf
 unfold nrmR
 split
 ·refine ⟨?_, fop_lt (op := .mul)⟩
  show nanB (fmul x P52) = false
  rw [p52_eq, fmul_p2 hr (by omega) (by omega)]
  exact nearest_nan
 ·exact ⟨fin_not_nan hf, hx⟩
theorem nrm_snd {x : Nat} : (nrmR x).2 = -52 ∨ (nrmR x).2 = 0 := by
 unfold nrmR
 split
 ·exact .inl rfl
 ·exact .inr rfl
theorem expo_lt (x : Nat) : expo x < 2048 := Nat.mod_lt _ (by omega)
theorem frx_rng (x : Nat) : -1074 ≤ frxE x ∧ frxE x ≤ 1025 := by
 have h1 := @nrm_snd x
 have h2 := expo_lt (nrmR x).1
 unfold frxE; omega
end Go.Bn
