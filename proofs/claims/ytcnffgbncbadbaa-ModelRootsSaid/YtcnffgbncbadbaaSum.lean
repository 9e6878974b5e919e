/-
  Plain facts on sums, multiples and outer products.
-/
import Derived.Test.YtcnffgbncbadbaaPlace
set_option linter.unusedVariables false
set_option linter.unusedSimpArgs false
namespace Go.Bn
open Go
/-- Up to k, the list is the other. -/
def PreI (G : List Nat) (k : Nat) (m : List Nat) : Prop := m.length = G.length ∧ ∀ q, q < k → m.getD q 0 = G.getD q 0
theorem pre_zero {G m : List Nat} (h : m.length = G.length) : PreI G 0 m := ⟨h, fun q hq => by omega⟩
theorem pre_step {G m : List Nat} {k v : Nat} (h : PreI G k m) (hk : k < G.length) (hv : v = G.getD k 0) : PreI G (k + 1) (m.set k v) := by
  refine ⟨by rw [List.length_set]; exact h.1, fun q hq => ?_⟩
  by_cases hqk : k = q
  · subst hqk
    rw [List.getD, List.getElem?_set_self (by rw [h.1]; exact hk)]; exact hv
  · rw [List.getD, List.getElem?_set_ne hqk, ← List.getD]
    exact h.2 q (by omega)
theorem pre_done {G m : List Nat} {k : Nat} (h : PreI G k m) (hk : G.length ≤ k) : m = G := ext_getD h.1 fun q hq => h.2 q (by have := h.1; omega)
theorem mat_place {r c : Int} {xs : List Nat} {k : Nat} (hs : Siz r c) (hk : k < r.toNat * c.toNat) : mat c xs ((k / c.toNat : Nat) : Int) ((k % c.toNat : Nat) : Int) = xs.getD k 0 := by
  unfold mat
  congr 1
  have h2 : c = (c.toNat : Int) := by have := hs.2.2.1; omega
  generalize c.toNat = d at *
  subst h2
  rw [← Int.natCast_mul, ← Int.natCast_add, Int.toNat_natCast, Nat.div_add_mod']
theorem sum_getD {f : Nat → Nat → Nat} {r c : Int} {xs ys : List Nat} {k : Nat} (hs : Siz r c) (hk : k < r.toNat * c.toNat) : (sumG f r c xs ys).getD k 0 = f (xs.getD k 0) (ys.getD k 0) := by
  unfold sumG
  rw [grid_get r c _ hk, mat_place hs hk, mat_place hs hk]
def sclG (r c : Int) (xs : List Nat) (s : Nat) : List Nat := grid r c fun i j => fmul (mat c xs i j) s
theorem scl_getD {r c : Int} {xs : List Nat} {s k : Nat} (hs : Siz r c) (hk : k < r.toNat * c.toNat) : (sclG r c xs s).getD k 0 = fmul (xs.getD k 0) s := by
  unfold sclG
  rw [grid_get r c _ hk, mat_place hs hk]
theorem length_sum {f : Nat → Nat → Nat} {r c : Int} {xs ys : List Nat} : (sumG f r c xs ys).length = r.toNat * c.toNat := length_grid ..
theorem length_scl {r c : Int} {xs : List Nat} {s : Nat} : (sclG r c xs s).length = r.toNat * c.toNat := length_grid ..
def sclE (r c : Int) (xs : List Nat) (s : Nat) : Int := fstE [chk r c xs, whenE (fcmp .neq (fsub s s) 0) 4]
def sclR (r c : Int) (xs : List Nat) (s : Nat) : MR := orR (sclE r c xs s) (toldR r c (sclG r c xs s))
def outG (xs ys : List Nat) : List Nat := grid (xs.length : Int) (ys.length : Int) fun i j => fmul (xs.getD i.toNat 0) (ys.getD j.toNat 0)
def outE (xs ys : List Nat) : Int := fstE [lchk xs, lchk ys]
def outR (xs ys : List Nat) : MR := orR (outE xs ys) (toldR (xs.length : Int) (ys.length : Int) (outG xs ys))
theorem outE_good {xs ys : List Nat} (h : outE xs ys = 0) : Siz (xs.length : Int) (ys.length : Int) := by
  unfold outE at h
  rw [fst2] at h
  have h1 := lchk_zero.1 h.1
  have h2 := lchk_zero.1 h.2
  unfold Siz
  omega
def numR (x : Nat) : NR := if fcmp .neq (fsub x x) 0 = true then badN 5 else ⟨x, 0⟩
def dotE (xs ys : List Nat) : Int := fstE [lchk xs, lchk ys, whenE ((xs.length : Int) != (ys.length : Int)) 3]
def dotR (xs ys : List Nat) : NR := orN (dotE xs ys) (numR (dotL xs ys))
theorem dotE_good {xs ys : List Nat} (h : dotE xs ys = 0) : xs.length = ys.length ∧ xs.length ≤ 12 := by
  unfold dotE at h
  rw [fst3, whenE_zero (by decide)] at h
  obtain ⟨h1, h2, h3⟩ := h
  have h1 := lchk_zero.1 h1
  simp at h3
  omega
def numB (x y : NR) : Bool := if y.e ≠ 0 then decide (x.e = y.e) && decide (x.a = 0) else decide (x.e = y.e) && decide (x.a = y.a)
theorem num_same {x y : NR} (hf : x.e ≠ 0 → x = badN x.e) (he : x.e = y.e) (h : x.e = 0 → x = y) : numB x y = true := by
  unfold numB
  by_cases h0 : x.e = 0
  · rw [if_neg (by omega)]
    have := h h0
    subst this
    simp
  · rw [if_pos (by omega), he, hf h0]
    simp [badN]
theorem dead_num {x y : NR} (h : (!numB x y) = true) (hT : numB x y = true) : False := by rw [hT] at h; cases h
theorem fop_lt {op : BinOp} {x y : Nat} : fop (fbits op x y) < 2 ^ 64 := by
  cases h : fbits op x y with
  | none => exact NAN_lt
  | some r => exact (fbits_some h).2.1
theorem dot_lt {xs ys : List Nat} : ∀ {k : Nat}, dotTo xs ys k < 2 ^ 64
  | 0 => by show 0 < _; decide
  | k + 1 => fop_lt (op := .add)
theorem numR_fin {x : Nat} (hx : x < 2 ^ 64) : numR x = if finB x = true then ⟨x, 0⟩ else badN 5 := by
  unfold numR
  rw [over_fin hx]
  cases finB x <;> rfl
theorem num_nan {x : Nat} (hx : x < 2 ^ 64) : nanB (numR x).a = false := by
  rw [numR_fin hx]
  split
  · rename_i h; exact fin_not_nan h
  · show nanB 0 = false; decide +kernel
theorem dot_nan {xs ys : List Nat} : nanB (dotR xs ys).a = false := by
  unfold dotR orN
  split
  · exact num_nan dot_lt
  · show nanB 0 = false; decide +kernel
/-! ## The reference's -/
def sf (s : Bool) : Nat → Nat → Nat := if s then fsub else fadd
theorem rsum_no {f : Nat → Nat → Nat} {r c r' c' : Int} {xs ys : List Nat} (h1 : chk r c xs = 0) (h2 : chk r' c' ys = 0) (h : r ≠ r' ∨ c ≠ c') : badM 3 = sumR f r c xs r' c' ys := by
  unfold sumR alikeE
  rw [h1, h2, show fstE [0, 0, whenE (r != r' || c != c') 3] = 3 by
    have : (r != r' || c != c') = true := by simpa using h
    rw [this]; rfl]
  rfl
theorem rsum_yes {f : Nat → Nat → Nat} {r c r' c' : Int} {xs ys : List Nat} (h1 : chk r c xs = 0) (h2 : chk r' c' ys = 0) (h : r = r') (h' : c = c') : toldR r c (sumG f r c xs ys) = sumR f r c xs r' c' ys := by
  unfold sumR alikeE
  rw [h1, h2, show fstE [0, 0, whenE (r != r' || c != c') 3] = 0 by simp [fstE, whenE, h, h']]
  rfl
/-! ## MatrixSums -/
theorem sums_y {b : Bool} {r c r' c' : Int} {xs ys : List Nat} (hb : b = true) : toldB (sumR fsub r c xs r' c' ys) (sumR (sf b) r c xs r' c' ys) = true := by subst hb; exact told_same fair_sum rfl fun _ => rfl
theorem sums_n {b : Bool} {r c r' c' : Int} {xs ys : List Nat} (hb : b = false) : toldB (sumR fadd r c xs r' c' ys) (sumR (sf b) r c xs r' c' ys) = true := by subst hb; exact told_same fair_sum rfl fun _ => rfl
theorem sums_bad {f : Nat → Nat → Nat} {r c r' c' p q : Int} {xs ys zs : List Nat} (h : fstE [chk r c xs, chk r' c' ys] ≠ 0) : toldB (sumR f r c xs r' c' ys) ⟨p, q, zs, fstE [chk r c xs, chk r' c' ys]⟩ = true := told_bad (sum_bad h) h
theorem sclE_eq {r c : Int} {xs : List Nat} {s : Nat} (hs : s < 2 ^ 64) : sclE r c xs s = fstE [chk r c xs, whenE (!finB s) 4] := by unfold sclE; rw [over_fin hs]
theorem sums_s {r c : Int} {xs : List Nat} {s : Nat} (hs : s < 2 ^ 64) (h : fstE [chk r c xs, whenE (!finB s) 4] = 0) : toldB (sclR r c xs s) (toldR r c (sclG r c xs s)) = true := by
  have e : sclR r c xs s = toldR r c (sclG r c xs s) := if_pos (by rw [sclE_eq hs]; exact h)
  rw [e]
  exact told_same fair_told rfl fun _ => rfl
theorem sums_s' {r c p q : Int} {xs zs : List Nat} {s : Nat} (hs : s < 2 ^ 64) (h : fstE [chk r c xs, whenE (!finB s) 4] ≠ 0) : toldB (sclR r c xs s) ⟨p, q, zs, fstE [chk r c xs, whenE (!finB s) 4]⟩ = true :=
  told_bad (by show sclR r c xs s = badM (fstE [chk r c xs, whenE (!finB s) 4]); rw [← sclE_eq hs] at h ⊢; exact if_neg h) h
theorem sums_o {xs ys : List Nat} (h : fstE [lchk xs, lchk ys] = 0) : toldB (outR xs ys) (toldR (xs.length : Int) (ys.length : Int) (outG xs ys)) = true := by
  have e : outR xs ys = toldR (xs.length : Int) (ys.length : Int) (outG xs ys) := if_pos h
  rw [e]
  exact told_same fair_told rfl fun _ => rfl
theorem sums_o' {p q : Int} {xs ys zs : List Nat} (h : fstE [lchk xs, lchk ys] ≠ 0) : toldB (outR xs ys) ⟨p, q, zs, fstE [lchk xs, lchk ys]⟩ = true := told_bad (if_neg h) h
theorem fst_nest {a b w : Int} : fstE [fstE [a, b], w] = fstE [a, b, w] := by
  by_cases ha : a = 0
  · subst ha
    by_cases hb : b = 0
    · subst hb; rfl
    · simp [fstE, hb]
  · simp [fstE, ha]
theorem sums_d {xs ys : List Nat} (h : fstE [fstE [lchk xs, lchk ys], whenE (cmpB .neq (xs.length : Int) (ys.length : Int)) 3] = 0) : numB (dotR xs ys) ⟨dotL xs ys, whenE (!finB (dotL xs ys)) 5⟩ = true := by
  rw [fst_nest] at h
  have e : dotR xs ys = numR (dotL xs ys) := if_pos h
  rw [e, numR_fin (show dotL xs ys < 2 ^ 64 from dot_lt)]
  refine num_same ?_ ?_ ?_ <;> cases finB (dotL xs ys) <;> simp [badN, whenE]
theorem sums_d' {z : Nat} {xs ys : List Nat} (h : fstE [fstE [lchk xs, lchk ys], whenE (cmpB .neq (xs.length : Int) (ys.length : Int)) 3] ≠ 0) : numB (dotR xs ys) ⟨z, fstE [fstE [lchk xs, lchk ys], whenE (cmpB .neq (xs.length : Int) (ys.length : Int)) 3]⟩ = true := by
  have e : dotR xs ys = badN (fstE [fstE [lchk xs, lchk ys], whenE (cmpB .neq (xs.length : Int) (ys.length : Int)) 3]) := by
    rw [fst_nest] at h ⊢
    exact if_neg h
  rw [e]
  exact num_same (fun _ => rfl) rfl (fun h0 => (h h0).elim)
theorem sums_dg {xs ys : List Nat} (h : fstE [fstE [lchk xs, lchk ys], whenE (cmpB .neq (xs.length : Int) (ys.length : Int)) 3] = 0) : xs.length = ys.length := by
  rw [fst_nest] at h
  exact (dotE_good h).1
theorem sums_9 {a b w : Int} (h : fstE [a, b] ≠ 0) (h' : fstE [fstE [a, b], w] = 0) : False := h (fst2.1 h').1
end Go.Bn
