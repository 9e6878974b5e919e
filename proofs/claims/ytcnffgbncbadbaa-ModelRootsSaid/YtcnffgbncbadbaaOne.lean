/-
  Plain facts on the unit matrix.
-/
import Derived.Test.YtcnffgbncbadbaaSym
set_option linter.unusedVariables false
set_option linter.unusedSimpArgs false
namespace Go.Bn
open Go
def ONE : Nat := 0x3ff0000000000000
def NEG0 : Nat := 0x8000000000000000
theorem read_one : Ieee.double.read ONE = .number false 4503599627370496 (-52) := by decide +kernel
theorem read_zero : Ieee.double.read 0 = .number false 0 (-1074) := by decide +kernel
theorem read_neg0 : Ieee.double.read NEG0 = .number true 0 (-1074) := by decide +kernel
theorem mul_shift (m : Nat) : 4503599627370496 * m = m <<< 52 := by
  rw [Nat.shiftLeft_eq, Nat.mul_comm]
theorem fmul_one {x : Nat} (hx : x < 2 ^ 64) (hf : finB x = true) : fmul ONE x = x := by
  have hr := (finB_iff hx).1 hf
  have e : fmul ONE x = Ieee.double.nearest (false ^^ sgn x) (4503599627370496 * mgn x) (-52 + plc x) := by
    unfold fmul Ieee.Format.mul
    rw [read_one, read_fin hr]
    rfl
  rw [e, mul_shift, Bool.false_xor, show (-52 + plc x) = plc x - ((52 : Nat) : Int) by omega]
  exact (@nearest_scale (sgn x) (mgn x) 52 (plc x)).trans (nearest_read hx hr)
theorem nearest_nought {s : Bool} {p : Int} : Ieee.double.nearest s 0 p = if s then NEG0 else 0 := by
  have : Ieee.double.nearest s 0 p = Ieee.double.word s 0 := by simp [Ieee.Format.nearest]
  rw [this]
  cases s <;> decide +kernel
theorem fmul_zero {x : Nat} (hx : x < 2 ^ 64) (hf : finB x = true) : fmul 0 x = 0 ∨ fmul 0 x = NEG0 := by
  have hr := (finB_iff hx).1 hf
  unfold fmul Ieee.Format.mul
  rw [read_zero, read_fin hr]
  simp only [Ieee.Datum.product, Option.map_some, Ieee.Format.write, fop, Option.getD_some, Bool.false_xor, Nat.zero_mul, nearest_nought]
  cases sgn x
  · exact .inl rfl
  · exact .inr rfl
theorem zero_add_noughts : fadd 0 0 = 0 ∧ fadd 0 NEG0 = 0 := by constructor <;> decide +kernel
/-- A number that is not nought stays, whatever nought is added. -/
theorem fadd_nought {x z : Nat} (hx : x < 2 ^ 64) (hf : finB x = true) (hz : z = 0 ∨ z = NEG0) (h0 : mgn x ≠ 0) : fadd x z = x := by
  have hr := (finB_iff hx).1 hf
  have hp := plc_ge x
  have key : ∀ t : Bool, (Ieee.Datum.number (sgn x) (mgn x) (plc x)).sum (.number t 0 (-1074)) = some (.number (sgn x) (vlu x) (-1074)) := by
    intro t
    have hv : mgn x <<< (plc x + 1074).toNat = vlu x := by rw [Nat.shiftLeft_eq]; rfl
    have hv0 : vlu x ≠ 0 := by rw [← hv]; exact shift_ne h0
    have hs1 : Ieee.signed (sgn x) (mgn x) (plc x + 1074).toNat = if sgn x then -(vlu x : Int) else (vlu x : Int) := by unfold Ieee.signed; rw [hv]
    have hs2 : Ieee.signed t 0 (-1074 - -1074 : Int).toNat = 0 := by cases t <;> rfl
    simp only [Ieee.Datum.sum, show min (plc x) (-1074 : Int) = -1074 by omega, show (plc x - -1074).toNat = (plc x + 1074).toNat by omega, hs1, hs2]
    generalize vlu x = v at hv0
    cases sgn x <;> cases t <;> simp <;> omega
  unfold fadd Ieee.Format.add
  rw [read_fin hr]
  rcases hz with rfl | rfl
  · rw [read_zero, key]; exact nearest_vlu hx hr
  · rw [read_neg0, key]; exact nearest_vlu hx hr
theorem noughts {x : Nat} (hx : x < 2 ^ 64) (hf : finB x = true) (h0 : mgn x = 0) : x = 0 ∨ x = NEG0 := by
  have hr := (finB_iff hx).1 hf
  have h := nearest_read hx hr
  rw [h0, nearest_nought] at h
  cases hs : sgn x <;> rw [hs] at h
  · exact .inl h.symm
  · exact .inr h.symm
/-- A number and +0: only the sign of a nought changes. -/
theorem plus_cases {x : Nat} (hx : x < 2 ^ 64) (hf : finB x = true) : (mgn x = 0 ∧ fadd x 0 = 0) ∨ (mgn x ≠ 0 ∧ fadd x 0 = x) := by
  by_cases h0 : mgn x = 0
  · left
    refine ⟨h0, ?_⟩
    rcases noughts hx hf h0 with rfl | rfl
    · exact zero_add_noughts.1
    · rw [fadd_comm]; exact zero_add_noughts.2
  · exact .inr ⟨h0, fadd_nought hx hf (.inl rfl) h0⟩
theorem plus_fin {x : Nat} (hx : x < 2 ^ 64) (hf : finB x = true) : fadd x 0 < 2 ^ 64 ∧ finB (fadd x 0) = true := by
  rcases plus_cases hx hf with ⟨_, h⟩ | ⟨_, h⟩ <;> rw [h]
  · exact ⟨by decide, by decide⟩
  · exact ⟨hx, hf⟩
theorem plus_nought {x z : Nat} (hx : x < 2 ^ 64) (hf : finB x = true) (hz : z = 0 ∨ z = NEG0) : fadd (fadd x 0) z = fadd x 0 := by
  rcases plus_cases hx hf with ⟨_, h⟩ | ⟨h0, h⟩
  · rw [h]
    rcases hz with rfl | rfl
    · exact zero_add_noughts.1
    · exact zero_add_noughts.2
  · rw [h]; exact fadd_nought hx hf hz h0
def unit (i k : Nat) : Nat := if k = i then ONE else 0
/-- The dot product with a unit row. -/
theorem dot_unit {n i : Nat} {us ys : List Nat} (hu : ∀ k, k < n → us.getD k 0 = unit i k) (hy : ∀ k, k < n → ys.getD k 0 < 2 ^ 64 ∧ finB (ys.getD k 0) = true) (hi : i < n) : ∀ k, k ≤ n → dotTo us ys k = if k ≤ i then 0 else fadd (ys.getD i 0) 0
  | 0, _ => by simp [dotTo]
  | k + 1, hk => by
    rw [dotTo, dot_unit hu hy hi k (by omega), hu k (by omega)]
    have h1 := hy k (by omega)
    unfold unit
    by_cases hki : k = i
    · subst hki
      rw [if_pos rfl, if_pos (Nat.le_refl _), if_neg (by omega), fmul_one h1.1 h1.2, fadd_comm]
    · rw [if_neg hki]
      have hz := fmul_zero h1.1 h1.2
      by_cases hlt : k ≤ i
      · rw [if_pos hlt, if_pos (by omega)]
        rcases hz with h | h <;> rw [h]
        · exact zero_add_noughts.1
        · exact zero_add_noughts.2
      · rw [if_neg hlt, if_neg (by omega)]
        have h2 := hy i hi
        exact plus_nought h2.1 h2.2 hz
def eyeG (n : Int) : List Nat := grid n n fun i j => if i = j then ONE else 0
def eyeR (n : Int) : MR := if sizB n = false then badM 1 else ⟨n, n, eyeG n, 0⟩
def plusL (xs : List Nat) : List Nat := xs.map fun x => fadd x 0
theorem getD_rowL {c : Int} {xs : List Nat} {i : Int} {k : Nat} (hk : k < c.toNat) : (rowL c xs i).getD k 0 = mat c xs i k := by simp [rowL, List.getD, hk]
theorem getD_colL {r c : Int} {xs : List Nat} {j : Int} {k : Nat} (hk : k < r.toNat) : (colL r c xs j).getD k 0 = mat c xs k j := by simp [colL, List.getD, hk]
theorem chk_eye {n : Int} (h : sizB n = true) : chk n n (eyeG n) = 0 := by
  have h1 := sizB_iff.1 h
  have hs : Siz n n := ⟨h1.1, h1.2, h1.1, h1.2⟩
  refine chk_zero.2 ⟨good_grid hs, all_grid.2 fun i j _ => ?_⟩
  show finB (if i = j then ONE else 0) = true
  split <;> decide
theorem plus_grid {r c : Int} {xs : List Nat} (h : Good r c xs) : grid r c (fun i j => fadd (mat c xs i j) 0) = plusL xs := by
  conv => rhs; rw [← grid_mat h.1.1 h.1.2.2.1 h.2]
  unfold plusL grid
  rw [List.map_map]
  rfl
def Nums (xs : List Nat) : Prop := xs.all (fun x => decide (x < 2 ^ 64)) = true ∧ xs.all finB = true
theorem Nums.at {r c i j : Int} {xs : List Nat} (hn : Nums xs) (hg : Good r c xs) (hp : Pl r c i j) : mat c xs i j < 2 ^ 64 ∧ finB (mat c xs i j) = true := by
  obtain ⟨h1, h2⟩ := hn
  rw [all_good hg] at h1 h2
  exact ⟨by simpa using h1 i j hp, h2 i j hp⟩
theorem mat_eye {n i j : Int} (h0 : 0 ≤ i) (h1 : i < n) (h2 : 0 ≤ j) (h3 : j < n) : mat n (eyeG n) i j = if i = j then ONE else 0 := mat_grid h0 h1 h2 h3
theorem eye_prod {r c : Int} {xs : List Nat} (hg : Good r c xs) (hn : Nums xs) : prodG r r (eyeG r) c xs = plusL xs := by
  rw [← plus_grid hg]
  refine grid_congr fun i j h1 h2 h3 h4 => ?_
  unfold dotL
  rw [length_rowL]
  rw [dot_unit (n := r.toNat) (i := i.toNat) (fun k hk => ?_) (fun k hk => ?_) (by omega) r.toNat (Nat.le_refl _), if_neg (by omega), getD_colL (by omega), show ((i.toNat : Nat) : Int) = i by omega]
  · rw [getD_rowL (by omega), mat_eye h1 h2 (by omega) (by omega)]
    unfold unit
    by_cases h : i = (k : Int)
    · rw [if_pos h, if_pos (by omega)]
    · rw [if_neg h, if_neg (by omega)]
  · rw [getD_colL hk]
    exact hn.at hg ⟨by omega, by omega, h3, h4⟩
theorem prod_eye {r c : Int} {xs : List Nat} (hg : Good r c xs) (hn : Nums xs) : prodG r c xs c (eyeG c) = plusL xs := by
  rw [← plus_grid hg]
  refine grid_congr fun i j h1 h2 h3 h4 => ?_
  unfold dotL
  rw [length_rowL, dotTo_comm]
  rw [dot_unit (n := c.toNat) (i := j.toNat) (fun k hk => ?_) (fun k hk => ?_) (by omega) c.toNat (Nat.le_refl _), if_neg (by omega), getD_rowL (by omega), show ((j.toNat : Nat) : Int) = j by omega]
  · rw [getD_colL (by omega), mat_eye (by omega) (by omega) h3 h4]
    unfold unit
    by_cases h : (k : Int) = j
    · rw [if_pos h, if_pos (by omega)]
    · rw [if_neg h, if_neg (by omega)]
  · rw [getD_rowL hk]
    exact hn.at hg ⟨h1, h2, by omega, by omega⟩
theorem nums_plus {xs : List Nat} (hn : Nums xs) : Nums (plusL xs) := by
  obtain ⟨h1, h2⟩ := hn
  rw [List.all_eq_true] at h1 h2
  constructor <;> rw [List.all_eq_true] <;> intro x hx <;> obtain ⟨y, hy, rfl⟩ := List.mem_map.1 hx <;> have := plus_fin (by simpa using h1 y hy) (h2 y hy)
  · exact decide_eq_true this.1
  · exact this.2
theorem good_plus {r c : Int} {xs : List Nat} (hg : Good r c xs) : Good r c (plusL xs) := ⟨hg.1, by unfold plusL; rw [List.length_map]; exact hg.2⟩
theorem plus_plus {xs : List Nat} (hn : Nums xs) : plusL (plusL xs) = plusL xs := by
  obtain ⟨h1, h2⟩ := hn
  rw [List.all_eq_true] at h1 h2
  unfold plusL
  rw [List.map_map]
  apply List.map_congr_left
  intro y hy
  exact plus_nought (by simpa using h1 y hy) (h2 y hy) (.inl rfl)
theorem mat_plus {r c i j : Int} {xs : List Nat} (hg : Good r c xs) (hp : Pl r c i j) : mat c (plusL xs) i j = fadd (mat c xs i j) 0 := by
  rw [← plus_grid hg]
  exact mat_grid hp.1 hp.2.1 hp.2.2.1 hp.2.2.2
/-- The places of a product with the unit matrix, row by row. -/
theorem rows_eye {n i j : Int} {xs : List Nat} (hg : Good n n xs) (hn : Nums xs) (hp : Pl n n i j) : dotL (rowL n xs i) (rowL n (eyeG n) j) = fadd (mat n xs i j) 0 := by
  obtain ⟨h1, h2, h3, h4⟩ := hp
  unfold dotL
  rw [length_rowL, dotTo_comm]
  rw [dot_unit (n := n.toNat) (i := j.toNat) (fun k hk => ?_) (fun k hk => ?_) (by omega) n.toNat (Nat.le_refl _), if_neg (by omega), getD_rowL (by omega), show ((j.toNat : Nat) : Int) = j by omega]
  · rw [getD_rowL (by omega), mat_eye h3 h4 (by omega) (by omega)]
    unfold unit
    by_cases h : j = (k : Int)
    · rw [if_pos h, if_pos (by omega)]
    · rw [if_neg h, if_neg (by omega)]
  · rw [getD_rowL hk]
    exact hn.at hg ⟨h1, h2, by omega, by omega⟩
theorem sand_eye {n : Int} {xs : List Nat} (hn : Nums xs) (h : symB n n xs = true) : sandG n n (eyeG n) xs = plusL xs := by
  obtain ⟨hc, _, hs⟩ := symB_iff.1 h
  have hg := chk_good hc
  unfold sandG
  rw [eye_prod hg hn]
  have e : mirR n (fun i j => dotL (rowL n (plusL xs) i) (rowL n (eyeG n) j)) = mirR n (mat n (plusL xs)) := mir_congr fun i j hl => by
    obtain ⟨l1, l2, l3⟩ := hl
    have hp : Pl n n i j := ⟨by omega, by omega, by omega, by omega⟩
    rw [rows_eye (good_plus hg) (nums_plus hn) hp, ← mat_plus (good_plus hg) hp, plus_plus hn]
  rw [e]
  apply mir_sym
  refine symB_iff.2 ⟨chk_zero.2 ⟨good_plus hg, (nums_plus hn).2⟩, rfl, fun i j h1 h2 h3 => ?_⟩
  rw [mat_plus hg ⟨by omega, by omega, by omega, by omega⟩, mat_plus hg ⟨by omega, by omega, by omega, by omega⟩, hs i j h1 h2 h3]
/-! ## MatrixOne -/
theorem toldR_ok {r c : Int} {xs : List Nat} (h : xs.all finB = true) : toldR r c xs = ⟨r, c, xs, 0⟩ := by unfold toldR; rw [if_neg (by simp [h])]
theorem eyeR_ok {n : Int} (h : sizB n = true) : eyeR n = ⟨n, n, eyeG n, 0⟩ := by unfold eyeR; rw [if_neg (by simp [h])]
theorem one_mul {r c : Int} {xs : List Nat} (hc : chk r c xs = 0) (hw : xs.all (fun x => decide (x < 2 ^ 64)) = true) : (eyeR r).e = 0 ∧ mulR (eyeR r).r (eyeR r).c (eyeR r).a r c xs = ⟨r, c, plusL xs, 0⟩ := by
  obtain ⟨hg, hf⟩ := chk_zero.1 hc
  have hs : sizB r = true := sizB_iff.2 ⟨hg.1.1, hg.1.2.1⟩
  rw [eyeR_ok hs]
  refine ⟨rfl, ?_⟩
  have e := rmul_yes (chk_eye hs) hc rfl
  rw [eye_prod hg ⟨hw, hf⟩] at e
  exact e.symm.trans (toldR_ok (nums_plus ⟨hw, hf⟩).2)
theorem mul_one {r c : Int} {xs : List Nat} (hc : chk r c xs = 0) (hw : xs.all (fun x => decide (x < 2 ^ 64)) = true) : (eyeR c).e = 0 ∧ mulR r c xs (eyeR c).r (eyeR c).c (eyeR c).a = ⟨r, c, plusL xs, 0⟩ := by
  obtain ⟨hg, hf⟩ := chk_zero.1 hc
  have hs : sizB c = true := sizB_iff.2 ⟨hg.1.2.2.1, hg.1.2.2.2⟩
  rw [eyeR_ok hs]
  refine ⟨rfl, ?_⟩
  have e := rmul_yes hc (chk_eye hs) rfl
  rw [prod_eye hg ⟨hw, hf⟩] at e
  exact e.symm.trans (toldR_ok (nums_plus ⟨hw, hf⟩).2)
theorem one_sand {r c : Int} {xs : List Nat} (hw : xs.all (fun x => decide (x < 2 ^ 64)) = true) (h : symB r c xs = true) : sandR (eyeR r).r (eyeR r).c (eyeR r).a r c xs = ⟨r, c, plusL xs, 0⟩ := by
  obtain ⟨hc, e, _⟩ := symB_iff.1 h
  subst e
  obtain ⟨hg, hf⟩ := chk_zero.1 hc
  have hs : sizB r = true := sizB_iff.2 ⟨hg.1.1, hg.1.2.1⟩
  rw [eyeR_ok hs]
  have e := rsand_yes (chk_eye hs) hc rfl rfl
  rw [sand_eye ⟨hw, hf⟩ h] at e
  exact e.symm.trans (toldR_ok (nums_plus ⟨hw, hf⟩).2)
theorem one_3 {r c : Int} {xs : List Nat} {one two p q : MR} (hc : chk r c xs = 0) (hw : xs.all (fun x => decide (x < 2 ^ 64)) = true) (h1 : one = eyeR r) (h2 : two = eyeR c) (h3 : p = mulR one.r one.c one.a r c xs) (h4 : q = mulR r c xs two.r two.c two.a)
    (h : (((((cmpB .neq one.e 0 || cmpB .neq two.e 0) || cmpB .neq p.e 0) || cmpB .neq q.e 0) || !eqM p.r p.c p.a r c (plusL xs)) || !eqM q.r q.c q.a r c (plusL xs)) = true) : False := by
  subst h1; subst h2
  obtain ⟨g1, g2⟩ := one_mul hc hw
  obtain ⟨g3, g4⟩ := mul_one hc hw
  rw [g2] at h3
  rw [g4] at h4
  rw [g1, g3, h3, h4] at h
  simp [cmpB, eqM] at h
theorem one_fin {r c : Int} {xs : List Nat} {s : MR} (hw : xs.all (fun x => decide (x < 2 ^ 64)) = true) (h : symB r c xs = true) (hs : s = sandR (eyeR r).r (eyeR r).c (eyeR r).a r c xs) : (cmpB .eql s.e 0 && eqM s.r s.c s.a r c (plusL xs)) = true := by
  rw [one_sand hw h] at hs
  rw [hs]
  simp [cmpB, eqM]
theorem take_plus {xs : List Nat} {k : Nat} (hk : k < xs.length) : (plusL xs).take (k + 1) = (plusL xs).take k ++ [fadd (xs.getD k 0) 0] := by
  rw [take_snoc 0 (by unfold plusL; rw [List.length_map]; exact hk)]
  congr 2
  simp [plusL, List.getD, hk]
theorem length_plus {xs : List Nat} : (plusL xs).length = xs.length := by simp [plusL]
end Go.Bn
