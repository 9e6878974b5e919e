/-
  Plain facts on matrices that are made.
-/
import Derived.Test.YtcnffgbncbadbaaSum
set_option linter.unusedVariables false
set_option linter.unusedSimpArgs false
namespace Go.Bn
open Go
def zeroR (r c : Int) : MR := if sizB r = false ∨ sizB c = false then badM 1 else ⟨r, c, grid r c fun _ _ => 0, 0⟩
theorem fair_zero {r c : Int} : Fair (zeroR r c) := by
  unfold zeroR
  split
  · exact fun _ => rfl
  · exact fair_ok
theorem fair_eye {n : Int} : Fair (eyeR n) := by
  unfold eyeR
  split
  · exact fun _ => rfl
  · exact fair_ok
theorem zero_ok {r c : Int} (h : Siz r c) : zeroR r c = ⟨r, c, grid r c fun _ _ => 0, 0⟩ := by
  unfold zeroR
  rw [if_neg]
  have h1 := @sizB_iff r
  have h2 := @sizB_iff c
  obtain ⟨q1, q2, q3, q4⟩ := h
  rw [h1.2 ⟨q1, q2⟩, h2.2 ⟨q3, q4⟩]
  simp
theorem zero_bad {r c : Int} (h : ¬ Siz r c) : zeroR r c = badM 1 := by
  unfold zeroR
  rw [if_pos]
  have h1 := @sizB_iff r
  have h2 := @sizB_iff c
  cases e1 : sizB r
  · exact .inl rfl
  · cases e2 : sizB c
    · exact .inr rfl
    · have q1 := h1.1 e1
      have q2 := h2.1 e2
      exact (h ⟨q1.1, q1.2, q2.1, q2.2⟩).elim
theorem siz_of {r c : Int} (h : ¬(((r < 0 ∨ 12 < r) ∨ c < 0) ∨ 12 < c)) : Siz r c := by unfold Siz; omega
theorem siz_not {r c : Int} (h : ((r < 0 ∨ 12 < r) ∨ c < 0) ∨ 12 < c) : ¬ Siz r c := by unfold Siz; omega
/-! ## What stands on the diagonal -/
def DiaD (k : Int) (a b : Int) : Prop := a < k ∧ a = b
def diaF (f : Int → Nat) (i j : Int) : Nat := if i = j then f i else 0
theorem dia_zero {n : Int} {f : Int → Nat} (hs : Siz n n) : PutI n n (diaF f) (DiaD (0 : Nat)) (grid n n fun _ _ => 0) := by
  refine putI_cast (putI_grid0 hs) fun a b hab => ?_
  obtain ⟨h1, h2, h3, h4⟩ := hab
  unfold RowD DiaD; omega
theorem dia_step {n : Int} {f : Int → Nat} {k : Nat} {xs : List Nat} {v : Nat} (hs : Siz n n) (hk : (k : Int) < n) (h : PutI n n (diaF f) (DiaD k) xs) (hv : v = f k) : PutI n n (diaF f) (DiaD ((k + 1 : Nat) : Int)) (xs.set ((k : Int) * n + (k : Int)).toNat v) := by
  refine putI_set hs h ⟨by omega, hk, by omega, hk⟩ (by unfold diaF; rw [if_pos rfl]; exact hv) fun a b _ => ?_
  unfold DiaD; omega
theorem dia_done {n : Int} {f : Int → Nat} {k : Nat} {xs : List Nat} (hs : Siz n n) (hk : k = n.toNat) (h : PutI n n (diaF f) (DiaD k) xs) : xs = grid n n (diaF f) := by
  have h1 := hs.1
  rw [← grid_mat hs.1 hs.1 h.1]
  refine grid_congr fun i j h1 h2 h3 h4 => ?_
  by_cases hd : DiaD k i j
  · exact (h.2 i j ⟨h1, h2, h3, h4⟩).1 hd
  · rw [(h.2 i j ⟨h1, h2, h3, h4⟩).2 hd]
    unfold diaF
    rw [if_neg (fun hl => hd (by unfold DiaD; omega))]
def diagG (xs : List Nat) : List Nat := grid (xs.length : Int) (xs.length : Int) fun i j => if i = j then xs.getD i.toNat 0 else 0
def diagR (xs : List Nat) : MR := orR (lchk xs) ⟨(xs.length : Int), (xs.length : Int), diagG xs, 0⟩
theorem fair_diag {xs : List Nat} : Fair (diagR xs) := fair_orR fair_ok
theorem lchk_siz {xs : List Nat} (h : lchk xs = 0) : Siz (xs.length : Int) (xs.length : Int) := by
  have := lchk_zero.1 h
  unfold Siz; omega
/-! ## Of rows -/
def colN (ls : List (List Nat)) : Int := ((ls.getD 0 []).length : Nat)
def Same (ls : List (List Nat)) (k : Nat) : Prop := ∀ q, q < k → (((ls.getD q []).length : Nat) : Int) = colN ls
def ofE (ls : List (List Nat)) : Int := if sizB (ls.length : Int) = false ∨ sizB (colN ls) = false then 1 else if (ls.all fun l => decide ((l.length : Int) = colN ls)) = false then 3 else if ls.flatten.all finB = false then 4 else 0
def ofR (ls : List (List Nat)) : MR := if ls.length = 0 then ⟨0, 0, [], 0⟩ else orR (ofE ls) ⟨(ls.length : Int), colN ls, ls.flatten, 0⟩
theorem fair_of {ls : List (List Nat)} : Fair (ofR ls) := by
  unfold ofR
  split
  · exact fair_ok
  · exact fair_orR fair_ok
theorem flat_take {ls : List (List Nat)} {k : Nat} (hk : k < ls.length) : (ls.take (k + 1)).flatten = (ls.take k).flatten ++ ls.getD k [] := by
  rw [take_snoc [] hk, List.flatten_append]
  simp
theorem flat_lenS {ls : List (List Nat)} : ∀ {k : Nat}, k ≤ ls.length → Same ls k → (((ls.take k).flatten.length : Nat) : Int) = k * colN ls
  | 0, _, _ => by simp
  | k + 1, hk, h => by
    rw [flat_take (by omega), List.length_append, Int.natCast_add, flat_lenS (by omega) fun q hq => h q (by omega), h k (by omega), Int.natCast_succ, Int.add_mul, Int.one_mul]
theorem same_zero {ls : List (List Nat)} : Same ls 0 := fun q hq => by omega
theorem same_step {ls : List (List Nat)} {k : Nat} (h : Same ls k) (hk : (((ls.getD k []).length : Nat) : Int) = colN ls) : Same ls (k + 1) := fun q hq => by
  by_cases hqk : q = k
  · subst hqk; exact hk
  · exact h q (by omega)
theorem same_all {ls : List (List Nat)} (h : Same ls ls.length) : (ls.all fun l => decide ((l.length : Int) = colN ls)) = true := by
  rw [List.all_eq_true]
  intro l hl
  obtain ⟨q, hq, rfl⟩ := List.mem_iff_getElem.1 hl
  have := h q hq
  rw [List.getD, List.getElem?_eq_getElem hq] at this
  exact decide_eq_true this
theorem same_not {ls : List (List Nat)} {k : Nat} (hk : k < ls.length) (h : ¬ (((ls.getD k []).length : Nat) : Int) = colN ls) : (ls.all fun l => decide ((l.length : Int) = colN ls)) = false := by
  cases ha : ls.all fun l => decide ((l.length : Int) = colN ls)
  · rfl
  · rw [List.all_eq_true] at ha
    have := ha (ls.getD k []) (mem_getD [] hk)
    exact (h (by simpa using this)).elim
theorem of_1 {ls : List (List Nat)} (h0 : ¬ ls.length = 0) (h : sizB (ls.length : Int) = false ∨ sizB (colN ls) = false) : badM 1 = ofR ls := by
  unfold ofR ofE
  rw [if_neg h0, if_pos h]; rfl
theorem of_3 {ls : List (List Nat)} (h0 : ¬ ls.length = 0) (h1 : ¬(sizB (ls.length : Int) = false ∨ sizB (colN ls) = false)) (h2 : (ls.all fun l => decide ((l.length : Int) = colN ls)) = false) : badM 3 = ofR ls := by
  unfold ofR ofE
  rw [if_neg h0, if_neg h1, if_pos h2]; rfl
theorem of_4 {ls : List (List Nat)} (h0 : ¬ ls.length = 0) (h1 : ¬(sizB (ls.length : Int) = false ∨ sizB (colN ls) = false)) (h2 : Same ls ls.length) (h3 : ls.flatten.all finB = false) : badM 4 = ofR ls := by
  unfold ofR ofE
  rw [if_neg h0, if_neg h1, if_neg (by rw [same_all h2]; decide), if_pos h3]; rfl
theorem of_0 {ls : List (List Nat)} (h0 : ¬ ls.length = 0) (h1 : ¬(sizB (ls.length : Int) = false ∨ sizB (colN ls) = false)) (h2 : Same ls ls.length) (h3 : ls.flatten.all finB = true) : ⟨(ls.length : Int), colN ls, ls.flatten, 0⟩ = ofR ls := by
  unfold ofR ofE
  rw [if_neg h0, if_neg h1, if_neg (by rw [same_all h2]; decide), if_neg (by rw [h3]; decide)]; rfl
/-- The columns' number, as the reference sets it. -/
def colK (C : Int) : Nat → Int
  | 0 => 0
  | _ + 1 => C
/-- What the reference answers for rows: not zero beside the last error. -/
def rofR (ls : List (List Nat)) : MR := if ls.length = 0 then ⟨0, 0, [], 0⟩ else if ofE ls = 4 then ⟨(ls.length : Int), colN ls, ls.flatten, 4⟩ else ofR ls
theorem ofE_cases (ls : List (List Nat)) : ofE ls = 0 ∨ ofE ls = 1 ∨ ofE ls = 3 ∨ ofE ls = 4 := by unfold ofE; (repeat' split) <;> simp
theorem rof_told {ls : List (List Nat)} : toldB (ofR ls) (rofR ls) = true := by
  unfold rofR
  by_cases h0 : ls.length = 0
  · rw [if_pos h0]
    have e : ofR ls = ⟨0, 0, [], 0⟩ := if_pos h0
    rw [e]; decide
  · rw [if_neg h0]
    by_cases h4 : ofE ls = 4
    · rw [if_pos h4]
      refine told_bad ?_ (by simp)
      unfold ofR
      rw [if_neg h0, h4]; rfl
    · rw [if_neg h4]
      exact told_same fair_of rfl fun _ => rfl
theorem rof_n {ls : List (List Nat)} (h : ¬ ls.length = 0) (h4 : ofE ls ≠ 4) : rofR ls = ofR ls := by unfold rofR; rw [if_neg h, if_neg h4]
theorem rof_1 {ls : List (List Nat)} (h : (12 : Int) < ls.length ∨ (0 < (ls.length : Int) ∧ 12 < colN ls)) : badM 1 = rofR ls := by
  have h0 : ¬ ls.length = 0 := by omega
  have hs : sizB (ls.length : Int) = false ∨ sizB (colN ls) = false := by
    unfold sizB
    simp
    omega
  have he : ofE ls = 1 := if_pos hs
  rw [rof_n h0 (by rw [he]; decide)]
  exact of_1 h0 hs
theorem rof_siz {ls : List (List Nat)} (h : ¬((12 : Int) < ls.length ∨ (0 < (ls.length : Int) ∧ 12 < colN ls))) (h0 : ¬ ls.length = 0) : ¬(sizB (ls.length : Int) = false ∨ sizB (colN ls) = false) := by
  have hc : 0 ≤ colN ls := Int.natCast_nonneg _
  have e1 : sizB (ls.length : Int) = true := sizB_iff.2 ⟨by omega, by omega⟩
  have e2 : sizB (colN ls) = true := sizB_iff.2 ⟨hc, by omega⟩
  rw [e1, e2]; simp
theorem rof_3 {ls : List (List Nat)} (h : ¬((12 : Int) < ls.length ∨ (0 < (ls.length : Int) ∧ 12 < colN ls))) {k : Nat} (hk : k < ls.length) (h3 : ¬ (((ls.getD k []).length : Nat) : Int) = colN ls) : badM 3 = rofR ls := by
  have h0 : ¬ ls.length = 0 := by omega
  have hs := rof_siz h h0
  have hn := same_not hk h3
  have he : ofE ls = 3 := by unfold ofE; rw [if_neg hs, if_pos hn]
  rw [rof_n h0 (by rw [he]; decide)]
  exact of_3 h0 hs hn
theorem rof_fin {ls : List (List Nat)} (h : ¬((12 : Int) < ls.length ∨ (0 < (ls.length : Int) ∧ 12 < colN ls))) (hs : Same ls ls.length) : (⟨(ls.length : Int), colK (colN ls) ls.length, ls.flatten, whenE (!ls.flatten.all finB) 4⟩ : MR) = rofR ls := by
  by_cases h0 : ls.length = 0
  · have e : rofR ls = ⟨0, 0, [], 0⟩ := if_pos h0
    have e' : ls = [] := List.eq_nil_of_length_eq_zero h0
    rw [e]; subst e'; rfl
  · have hz := rof_siz h h0
    have hk : colK (colN ls) ls.length = colN ls := by
      cases hl : ls.length with
      | zero => exact (h0 hl).elim
      | succ n => rfl
    rw [hk]
    cases hf : ls.flatten.all finB
    · have he : ofE ls = 4 := by unfold ofE; rw [if_neg hz, if_neg (by rw [same_all hs]; decide), if_pos hf]
      unfold rofR
      rw [if_neg h0, if_pos he]; rfl
    · have he : ofE ls = 0 := by unfold ofE; rw [if_neg hz, if_neg (by rw [same_all hs]; decide), if_neg (by rw [hf]; decide)]
      rw [rof_n h0 (by rw [he]; decide)]
      exact of_0 h0 hz hs hf
theorem flat_bound {ls : List (List Nat)} {k : Nat} (hk : k ≤ ls.length) (h : Same ls k) (hl : ls.length ≤ 12) (hc : colN ls ≤ 12) : (ls.take k).flatten.length ≤ 144 := by
  have h1 := flat_lenS hk h
  have h0 : 0 ≤ colN ls := Int.natCast_nonneg _
  have h2 : (k : Int) * colN ls ≤ 12 * 12 := Int.mul_le_mul (by omega) hc h0 (by omega)
  omega
end Go.Bn
