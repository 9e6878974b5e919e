/-
  Plain facts on the numbers' operations.
-/
import Derived.Test.YtcnffgbncbadbaaMatR
set_option linter.unusedVariables false
set_option linter.unusedSimpArgs false
namespace Go.Bn
open Go

theorem fmul_comm (x y : Nat) : fmul x y = fmul y x := by
  unfold fmul Ieee.Format.mul
  congr 2
  cases Ieee.double.read x <;> cases Ieee.double.read y <;> simp [Ieee.Datum.product, Bool.xor_comm, Nat.mul_comm, Int.add_comm]
theorem fadd_comm (x y : Nat) : fadd x y = fadd y x := by
  unfold fadd Ieee.Format.add
  congr 2
  cases Ieee.double.read x <;> cases Ieee.double.read y <;> simp [Ieee.Datum.sum, Bool.and_comm, Int.add_comm, Int.min_comm, eq_comm]
  split
  · rename_i h; rw [h]
  · rfl
theorem dotTo_comm (xs ys : List Nat) : ∀ k, dotTo xs ys k = dotTo ys xs k
  | 0 => rfl
  | k + 1 => by rw [dotTo, dotTo, dotTo_comm xs ys k, fmul_comm]
theorem dotL_comm {xs ys : List Nat} (h : xs.length = ys.length) : dotL xs ys = dotL ys xs := by unfold dotL; rw [h, dotTo_comm]
theorem dotTo_congr {xs ys xs' ys' : List Nat} : ∀ {k : Nat}, (∀ i, i < k → xs.getD i 0 = xs'.getD i 0 ∧ ys.getD i 0 = ys'.getD i 0) → dotTo xs ys k = dotTo xs' ys' k
  | 0, _ => rfl
  | k + 1, h => by rw [dotTo, dotTo, dotTo_congr fun i hi => h i (by omega), (h k (by omega)).1, (h k (by omega)).2]

/-! ## Turned -/
theorem rowL_congr {c c' : Int} {xs xs' : List Nat} {i i' : Int} (hc : c = c') (h : ∀ j, 0 ≤ j → j < c → mat c xs i j = mat c' xs' i' j) : rowL c xs i = rowL c' xs' i' := by
  subst hc
  unfold rowL
  apply List.map_congr_left
  intro k hk
  rw [List.mem_range] at hk
  exact h k (by omega) (by omega)
theorem row_tr {r c i : Int} {xs : List Nat} (h0 : 0 ≤ i) (h1 : i < c) : rowL r (trG r c xs) i = colL r c xs i := by
  unfold rowL colL
  apply List.map_congr_left
  intro k hk
  rw [List.mem_range] at hk
  exact mat_grid h0 h1 (by omega) (by omega)
theorem col_tr {r c j : Int} {xs : List Nat} (h0 : 0 ≤ j) (h1 : j < r) : colL c r (trG r c xs) j = rowL c xs j := by
  unfold rowL colL
  apply List.map_congr_left
  intro k hk
  rw [List.mem_range] at hk
  exact mat_grid (by omega) (by omega) h0 h1
theorem tr_tr {r c : Int} {xs : List Nat} (h : Good r c xs) : trG c r (trG r c xs) = xs := by
  have : trG c r (trG r c xs) = grid r c (mat c xs) := grid_congr fun i j h1 h2 h3 h4 => mat_grid h3 h4 h1 h2
  rw [this, grid_mat h.1.1 h.1.2.2.1 h.2]
theorem tr_sum {f : Nat → Nat → Nat} {r c : Int} {xs ys : List Nat} : trG r c (sumG f r c xs ys) = sumG f c r (trG r c xs) (trG r c ys) := by
  refine grid_congr fun i j h1 h2 h3 h4 => ?_
  show mat c (sumG f r c xs ys) j i = f (mat r (trG r c xs) i j) (mat r (trG r c ys) i j)
  rw [show mat c (sumG f r c xs ys) j i = _ from mat_grid h3 h4 h1 h2, show mat r (trG r c xs) i j = _ from mat_grid h1 h2 h3 h4, show mat r (trG r c ys) i j = _ from mat_grid h1 h2 h3 h4]
theorem tr_prod {r c c' : Int} {xs ys : List Nat} : trG r c' (prodG r c xs c' ys) = prodG c' c (trG c c' ys) r (trG r c xs) := by
  refine grid_congr fun i j h1 h2 h3 h4 => ?_
  show mat c' (prodG r c xs c' ys) j i = dotL (rowL c (trG c c' ys) i) (colL c r (trG r c xs) j)
  rw [show mat c' (prodG r c xs c' ys) j i = _ from mat_grid h3 h4 h1 h2, row_tr h1 h2, col_tr h3 h4]
  exact dotL_comm (by rw [length_rowL, length_colL])
/-- All places have it, or all numbers have it. -/
theorem all_grid {r c : Int} {f : Int → Int → Nat} {p : Nat → Bool} : (grid r c f).all p = true ↔ ∀ i j, Pl r c i j → p (f i j) = true := by
  rw [List.all_eq_true]
  constructor
  · intro h i j ⟨h1, h2, h3, h4⟩
    have e : (grid r c f).getD (i.toNat * c.toNat + j.toNat) 0 = f i j := by
      rw [grid_at r c f (by omega) (by omega)]; congr 1 <;> omega
    rw [← e]
    exact h _ (mem_getD 0 (by rw [length_grid]; exact place_lt (by omega) (by omega)))
  · intro h x hx
    unfold grid at hx
    rw [List.mem_map] at hx
    obtain ⟨k, hk, rfl⟩ := hx
    rw [List.mem_range] at hk
    have hc : 0 < c.toNat := by
      rcases Nat.eq_zero_or_pos c.toNat with h0 | h0
      · rw [h0] at hk; simp at hk
      · exact h0
    have h1 : k / c.toNat < r.toNat := Nat.div_lt_of_lt_mul (by rw [Nat.mul_comm]; exact hk)
    have h2 : k % c.toNat < c.toNat := Nat.mod_lt _ hc
    generalize k / c.toNat = p at h1 ⊢
    generalize k % c.toNat = q at h2 ⊢
    exact h _ _ ⟨by omega, by omega, by omega, by omega⟩
theorem all_good {r c : Int} {xs : List Nat} {p : Nat → Bool} (h : Good r c xs) : xs.all p = true ↔ ∀ i j, Pl r c i j → p (mat c xs i j) = true := by
  conv => lhs; rw [← grid_mat h.1.1 h.1.2.2.1 h.2]
  exact all_grid
theorem all_tr {r c : Int} {xs : List Nat} {p : Nat → Bool} (h : Good r c xs) : (trG r c xs).all p = xs.all p := by
  rw [Bool.eq_iff_iff, all_good h]
  unfold trG
  rw [all_grid]
  exact ⟨fun k i j hp => k j i hp.turn, fun k i j hp => k j i hp.turn⟩
theorem good_tr {r c : Int} {xs : List Nat} (h : Good r c xs) : Good c r (trG r c xs) := good_grid h.1.turn
theorem trR_e {r c : Int} {xs : List Nat} : (trR r c xs).e = chk r c xs := by
  unfold trR orR
  split
  · rename_i h; exact h.symm
  · rfl
theorem trR_ok {r c : Int} {xs : List Nat} (h : chk r c xs = 0) : trR r c xs = ⟨c, r, trG r c xs, 0⟩ := if_pos h
theorem chk_tr {r c : Int} {xs : List Nat} (h : chk r c xs = 0) : chk c r (trG r c xs) = 0 := by
  have h := chk_zero.1 h
  exact chk_zero.2 ⟨good_tr h.1, by rw [all_tr h.1]; exact h.2⟩
theorem chk_of {r c : Int} {xs : List Nat} (h : Good r c xs) (hf : xs.all finB = true) : chk r c xs = 0 := chk_zero.2 ⟨h, hf⟩
/-- A told matrix, turned. -/
theorem told_tr {r c : Int} {xs : List Nat} (h : Good r c xs) : (toldR r c xs).e = (toldR c r (trG r c xs)).e ∧ ((toldR r c xs).e = 0 → trR (toldR r c xs).r (toldR r c xs).c (toldR r c xs).a = toldR c r (trG r c xs)) := by
  unfold toldR
  rw [all_tr h]
  cases hf : xs.all finB
  · exact ⟨rfl, fun h => by cases h⟩
  · exact ⟨rfl, fun _ => trR_ok (chk_of h hf)⟩
theorem eqM_refl {x : MR} : eqM x.r x.c x.a x.r x.c x.a = true := by simp [eqM]
theorem mul_tr {r c r' c' : Int} {xs ys : List Nat} (h1 : chk r c xs = 0) (h2 : chk r' c' ys = 0) :
    (mulR r c xs r' c' ys).e = (mulR c' r' (trG r' c' ys) c r (trG r c xs)).e ∧
    ((mulR r c xs r' c' ys).e = 0 → trR (mulR r c xs r' c' ys).r (mulR r c xs r' c' ys).c (mulR r c xs r' c' ys).a = mulR c' r' (trG r' c' ys) c r (trG r c xs)) := by
  unfold mulR mulE
  rw [h1, h2, chk_tr h1, chk_tr h2]
  have hg := chk_good h1
  have hg' := chk_good h2
  by_cases he : c = r'
  · subst he
    have e1 : fstE [0, 0, whenE (c != c) 3] = 0 := by simp [fstE, whenE]
    rw [e1]
    show (toldR r c' (prodG r c xs c' ys)).e = (toldR c' r (prodG c' c (trG c c' ys) r (trG r c xs))).e ∧ _
    have := told_tr (good_prod hg hg')
    rw [tr_prod] at this
    exact this
  · have e1 : fstE [0, 0, whenE (c != r') 3] = 3 := by simp [fstE, whenE, he]
    have e2 : fstE [0, 0, whenE (r' != c) 3] = 3 := by simp [fstE, whenE, Ne.symm he]
    rw [e1, e2]
    exact ⟨rfl, fun h => by cases h⟩
theorem good_sum {f : Nat → Nat → Nat} {r c : Int} {xs ys : List Nat} (h : Siz r c) : Good r c (sumG f r c xs ys) := good_grid h
theorem sum_tr {f : Nat → Nat → Nat} {r c r' c' : Int} {xs ys : List Nat} (h1 : chk r c xs = 0) (h2 : chk r' c' ys = 0) :
    (sumR f r c xs r' c' ys).e = (sumR f c r (trG r c xs) c' r' (trG r' c' ys)).e ∧
    ((sumR f r c xs r' c' ys).e = 0 → trR (sumR f r c xs r' c' ys).r (sumR f r c xs r' c' ys).c (sumR f r c xs r' c' ys).a = sumR f c r (trG r c xs) c' r' (trG r' c' ys)) := by
  unfold sumR alikeE
  rw [h1, h2, chk_tr h1, chk_tr h2]
  have hg := chk_good h1
  by_cases he : r = r' ∧ c = c'
  · obtain ⟨e1, e2⟩ := he
    subst e1; subst e2
    have e1 : fstE [0, 0, whenE (r != r || c != c) 3] = 0 := by simp [fstE, whenE]
    have e2 : fstE [0, 0, whenE (c != c || r != r) 3] = 0 := by simp [fstE, whenE]
    rw [e1, e2]
    show (toldR r c (sumG f r c xs ys)).e = (toldR c r (sumG f c r (trG r c xs) (trG r c ys))).e ∧ _
    have := told_tr (good_sum (f := f) (ys := ys) (xs := xs) hg.1)
    rw [tr_sum] at this
    exact this
  · have e1 : fstE [0, 0, whenE (r != r' || c != c') 3] = 3 := by
      by_cases h : r = r' <;> by_cases k : c = c' <;> simp_all [fstE, whenE]
    have e2 : fstE [0, 0, whenE (c != c' || r != r') 3] = 3 := by
      by_cases h : r = r' <;> by_cases k : c = c' <;> simp_all [fstE, whenE]
    rw [e1, e2]
    exact ⟨rfl, fun h => by cases h⟩
end Go.Bn
namespace Go.Bn
open Go
theorem tr_back {r c : Int} {xs : List Nat} (h : chk r c xs = 0) : trR (trR r c xs).r (trR r c xs).c (trR r c xs).a = ⟨r, c, xs, 0⟩ := by
  rw [trR_ok h]
  show trR c r (trG r c xs) = _
  rw [trR_ok (chk_tr h), tr_tr (chk_good h)]
theorem turned_2 {r c r' c' : Int} {xs ys : List Nat} (h : ¬(trR r c xs).e = 0 ∨ ¬(trR r' c' ys).e = 0) : (cmpB .neq (chk r c xs) 0 || cmpB .neq (chk r' c' ys) 0) = true := by
  rw [trR_e, trR_e] at h
  simp [cmpB, h]
theorem turned_3 {r c : Int} {xs : List Nat} (h : (trR r c xs).e = 0) (h3 : ¬(trR (trR r c xs).r (trR r c xs).c (trR r c xs).a).e = 0 ∨ eqM (trR (trR r c xs).r (trR r c xs).c (trR r c xs).a).r (trR (trR r c xs).r (trR r c xs).c (trR r c xs).a).c (trR (trR r c xs).r (trR r c xs).c (trR r c xs).a).a r c xs = false) : False := by
  rw [trR_e] at h
  rw [tr_back h] at h3
  simp [eqM] at h3
theorem turned_P {r c r' c' : Int} {xs ys : List Nat} (h1 : (trR r c xs).e = 0) (h2 : (trR r' c' ys).e = 0) :
    (mulR r c xs r' c' ys).e = (mulR (trR r' c' ys).r (trR r' c' ys).c (trR r' c' ys).a (trR r c xs).r (trR r c xs).c (trR r c xs).a).e ∧
    ((mulR r c xs r' c' ys).e = 0 → trR (mulR r c xs r' c' ys).r (mulR r c xs r' c' ys).c (mulR r c xs r' c' ys).a = mulR (trR r' c' ys).r (trR r' c' ys).c (trR r' c' ys).a (trR r c xs).r (trR r c xs).c (trR r c xs).a) := by
  rw [trR_e] at h1 h2
  rw [trR_ok h1, trR_ok h2]
  exact mul_tr h1 h2
theorem turned_S {r c r' c' : Int} {xs ys : List Nat} {f : Nat → Nat → Nat} (h1 : (trR r c xs).e = 0) (h2 : (trR r' c' ys).e = 0) :
    (sumR f r c xs r' c' ys).e = (sumR f (trR r c xs).r (trR r c xs).c (trR r c xs).a (trR r' c' ys).r (trR r' c' ys).c (trR r' c' ys).a).e ∧
    ((sumR f r c xs r' c' ys).e = 0 → trR (sumR f r c xs r' c' ys).r (sumR f r c xs r' c' ys).c (sumR f r c xs r' c' ys).a = sumR f (trR r c xs).r (trR r c xs).c (trR r c xs).a (trR r' c' ys).r (trR r' c' ys).c (trR r' c' ys).a) := by
  rw [trR_e] at h1 h2
  rw [trR_ok h1, trR_ok h2]
  exact sum_tr h1 h2
theorem turned_no {p q t : MR} (h : p.e = q.e ∧ (p.e = 0 → t = q)) (k : ¬ p.e = q.e ∨ p.e = 0 ∧ eqM t.r t.c t.a q.r q.c q.a = false) : False := by
  rcases k with k | ⟨k1, k2⟩
  · exact k h.1
  · rw [h.2 k1, eqM_refl] at k2; cases k2
theorem turned_yes {p q t : MR} (h : p.e = q.e ∧ (p.e = 0 → t = q)) : (cmpB .eql p.e q.e && (cmpB .neq p.e 0 || eqM t.r t.c t.a q.r q.c q.a)) = true := by
  obtain ⟨h1, h2⟩ := h
  by_cases h0 : p.e = 0
  · rw [h2 h0, eqM_refl]; simp [cmpB, h1]
  · rw [← h1]; simp [cmpB, h0]
end Go.Bn
