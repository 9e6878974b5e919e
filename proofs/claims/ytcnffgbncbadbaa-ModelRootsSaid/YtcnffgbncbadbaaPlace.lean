/-
  Plain facts on places.
-/
import Derived.Test.YtcnffgbncbadbaaOne
set_option linter.unusedVariables false
set_option linter.unusedSimpArgs false
namespace Go.Bn
open Go
theorem sum_opp {s : Bool} {m : Nat} {e : Int} : (Ieee.Datum.number s m e).sum ((Ieee.Datum.number s m e).opposite) = some (.number false 0 e) := by
  simp only [Ieee.Datum.sum, Ieee.Datum.opposite, Ieee.signed]
  cases s <;> simp <;> omega
theorem read_nan {w : Nat} (h : 9218868437227405312 < rung w) : ∃ s t, Ieee.double.read w = .nan s t := by
  unfold Ieee.Format.read
  unfold rung at h
  simp only [signW, binA, infR]
  rw [if_neg (by omega), if_neg (by omega), if_neg (by omega)]
  exact ⟨_, _, rfl⟩
theorem fsub_self {x : Nat} (hx : x < 2 ^ 64) : fsub x x = if finB x = true then 0 else NAN := by
  unfold fsub Ieee.Format.sub
  by_cases h1 : rung x < 9218868437227405312
  · rw [if_pos ((finB_iff hx).2 h1), read_fin h1, sum_opp]
    show Ieee.double.nearest false 0 (plc x) = 0
    rw [nearest_nought]; rfl
  · have hf : ¬ finB x = true := fun h => h1 ((finB_iff hx).1 h)
    rw [if_neg hf]
    by_cases h2 : rung x = 9218868437227405312
    · rw [read_inf h2]
      cases sgn x <;> rfl
    · obtain ⟨s, t, h⟩ := read_nan (show 9218868437227405312 < rung x by omega)
      rw [h]
      rfl
/-- A number less itself is not nought only if it is not finite. -/
theorem over_fin {x : Nat} (hx : x < 2 ^ 64) : fcmp .neq (fsub x x) 0 = !finB x := by
  rw [fsub_self hx]
  cases finB x <;> decide +kernel
theorem fin_not_nan {x : Nat} (h : finB x = true) : nanB x = false := by
  rw [nanB_iff]
  unfold finB expo at h
  simp only [decide_eq_true_eq] at h
  exact decide_eq_false (by omega)
def insB (r c i j : Int) : Bool := ((decide (0 ≤ i) && decide (i < r)) && decide (0 ≤ j)) && decide (j < c)
theorem insB_iff {r c i j : Int} : insB r c i j = true ↔ Pl r c i j := by
  unfold insB Pl
  simp [and_assoc]
def outB (i r : Int) : Bool := decide (i < 0) || decide (r ≤ i)
def getE (r c : Int) (xs : List Nat) (i j : Int) : Int := fstE [chk r c xs, whenE (!insB r c i j) 1]
def getR (r c : Int) (xs : List Nat) (i j : Int) : NR := orN (getE r c xs i j) ⟨mat c xs i j, 0⟩
def withE (r c : Int) (xs : List Nat) (i j : Int) (x : Nat) : Int := fstE [chk r c xs, whenE (!insB r c i j) 1, whenE (fcmp .neq (fsub x x) 0) 4]
def withR (r c : Int) (xs : List Nat) (i j : Int) (x : Nat) : MR := orR (withE r c xs i j x) ⟨r, c, xs.set (i * c + j).toNat x, 0⟩
def rowE (r c : Int) (xs : List Nat) (i n : Int) : Int := fstE [chk r c xs, whenE (outB i n) 1]
def rowR (r c : Int) (xs : List Nat) (i : Int) : LR := orL (rowE r c xs i r) ⟨rowL c xs i, 0⟩
def colR (r c : Int) (xs : List Nat) (j : Int) : LR := orL (rowE r c xs j c) ⟨colL r c xs j, 0⟩
theorem getE_good {r c i j : Int} {xs : List Nat} (h : getE r c xs i j = 0) : Good r c xs ∧ Pl r c i j ∧ xs.all finB = true := by
  unfold getE at h
  rw [fst2, whenE_zero (by decide)] at h
  obtain ⟨h1, h2⟩ := h
  have h1 := chk_zero.1 h1
  exact ⟨h1.1, insB_iff.1 (by simpa using h2), h1.2⟩
theorem withE_good {r c i j : Int} {xs : List Nat} {x : Nat} (h : withE r c xs i j x = 0) : Good r c xs ∧ Pl r c i j ∧ xs.all finB = true := by
  unfold withE at h
  rw [fst3, whenE_zero (by decide)] at h
  obtain ⟨h1, h2, _⟩ := h
  have h1 := chk_zero.1 h1
  exact ⟨h1.1, insB_iff.1 (by simpa using h2), h1.2⟩
theorem rowE_good {r c i n : Int} {xs : List Nat} (h : rowE r c xs i n = 0) : Good r c xs ∧ 0 ≤ i ∧ i < n ∧ xs.all finB = true := by
  unfold rowE at h
  rw [fst2, whenE_zero (by decide)] at h
  obtain ⟨h1, h2⟩ := h
  have h1 := chk_zero.1 h1
  unfold outB at h2
  simp at h2
  exact ⟨h1.1, by omega, by omega, h1.2⟩
/-! ## MatrixPlaces -/
/-- The law's own error of a place. -/
def plN (r c : Int) (xs : List Nat) (i j : Int) : Int := fstE [fstE [chk r c xs, whenE (outB i r) 1], fstE [chk r c xs, whenE (outB j c) 1]]
theorem plN_eq {r c i j : Int} {xs : List Nat} : plN r c xs i j = getE r c xs i j := by
  unfold plN getE
  by_cases hc : chk r c xs = 0
  · rw [hc]
    have e : (!insB r c i j) = (outB i r || outB j c) := by
      unfold insB outB
      by_cases h1 : 0 ≤ i <;> by_cases h2 : i < r <;> by_cases h3 : 0 ≤ j <;> by_cases h4 : j < c <;> simp [h1, h2, h3, h4] <;> omega
    rw [e]
    cases outB i r <;> cases outB j c <;> rfl
  · simp [fstE, hc]
theorem mat_fin {r c i j : Int} {xs : List Nat} (hg : Good r c xs) (hp : Pl r c i j) (hf : xs.all finB = true) : finB (mat c xs i j) = true := by
  rw [all_good hg] at hf
  exact hf i j hp
theorem pl_get {r c i j : Int} {xs : List Nat} (h : cmpB .eql (plN r c xs i j) 0 = true) : Good r c xs ∧ Pl r c i j ∧ (getR r c xs i j).a = mat c xs i j ∧ nanB (getR r c xs i j).a = false := by
  have h0 : plN r c xs i j = 0 := by simpa [cmpB] using h
  rw [plN_eq] at h0
  obtain ⟨h1, h2, h3⟩ := getE_good h0
  have e : getR r c xs i j = ⟨mat c xs i j, 0⟩ := if_pos h0
  rw [e]
  exact ⟨h1, h2, rfl, fin_not_nan (mat_fin h1 h2 h3)⟩
theorem pl_bad {r c i j : Int} {xs : List Nat} (h : cmpB .neq (plN r c xs i j) 0 = true) : (getR r c xs i j).a = 0 ∧ nanB (getR r c xs i j).a = false := by
  have h0 : plN r c xs i j ≠ 0 := by simpa [cmpB] using h
  rw [plN_eq] at h0
  have e : getR r c xs i j = badN (getE r c xs i j) := if_neg h0
  rw [e]
  exact ⟨rfl, show nanB 0 = false by decide +kernel⟩
theorem get_e {r c i j : Int} {xs : List Nat} : (getR r c xs i j).e = plN r c xs i j := by
  rw [plN_eq]
  unfold getR orN
  split
  · rename_i h; exact h.symm
  · rfl
theorem places_1 {r c i j : Int} {xs : List Nat} (h : (((cmpB .neq (getR r c xs i j).e (plN r c xs i j) || (cmpB .neq (plN r c xs i j) 0 && !decide ((getR r c xs i j).a = 0))) || (cmpB .eql (plN r c xs i j) 0 && !decide ((getR r c xs i j).a = mat c xs i j))) || !true) = true) : False := by
  rw [get_e] at h
  by_cases h0 : plN r c xs i j = 0
  · have h1 := (pl_get (show cmpB .eql (plN r c xs i j) 0 = true by simp [cmpB, h0])).2.2.1
    simp [cmpB, h0, h1] at h
  · have h1 := (pl_bad (show cmpB .neq (plN r c xs i j) 0 = true by simp [cmpB, h0])).1
    simp [cmpB, h0, h1] at h
/-- The law's own error of what is put. -/
def putN (r c : Int) (xs : List Nat) (i j : Int) (x : Nat) : Int := fstE [plN r c xs i j, whenE (!finB x) 4]
theorem putN_eq {r c i j : Int} {xs : List Nat} {x : Nat} (hx : x < 2 ^ 64) : putN r c xs i j x = withE r c xs i j x := by
  unfold putN withE
  rw [over_fin hx, plN_eq]
  unfold getE
  by_cases hc : chk r c xs = 0
  · rw [hc]; cases insB r c i j <;> cases finB x <;> rfl
  · simp [fstE, hc]
theorem putN_good {r c i j : Int} {xs : List Nat} {x : Nat} (h : putN r c xs i j x = 0) : Good r c xs ∧ Pl r c i j := by
  unfold putN at h
  rw [fst2, plN_eq] at h
  obtain ⟨h1, h2, _⟩ := getE_good h.1
  exact ⟨h1, h2⟩
theorem places_3 {r c i j : Int} {xs : List Nat} {x : Nat} (hx : x < 2 ^ 64) (h0 : putN r c xs i j x = 0) : toldB (withR r c xs i j x) ⟨r, c, xs.set (i * c + j).toNat x, putN r c xs i j x⟩ = true := by
  have e : withR r c xs i j x = ⟨r, c, xs.set (i * c + j).toNat x, 0⟩ := if_pos (by rw [← putN_eq hx]; exact h0)
  rw [e, h0]
  exact told_same fair_ok rfl fun _ => rfl
theorem places_3' {r c r' c' i j : Int} {xs ys : List Nat} {x : Nat} (hx : x < 2 ^ 64) (h0 : putN r c xs i j x ≠ 0) : toldB (withR r c xs i j x) ⟨r', c', ys, putN r c xs i j x⟩ = true :=
  told_bad (by show withR r c xs i j x = badM (putN r c xs i j x); rw [putN_eq hx] at h0 ⊢; exact if_neg h0) h0
theorem places_4 {r c i : Int} {xs : List Nat} (h0 : fstE [chk r c xs, whenE (outB i r) 1] = 0) : listB (rowR r c xs i) ⟨rowL c xs i, fstE [chk r c xs, whenE (outB i r) 1]⟩ = true := by
  have e : rowR r c xs i = ⟨rowL c xs i, 0⟩ := if_pos h0
  rw [e, h0]
  exact list_same fairL_ok rfl fun _ => rfl
theorem places_4' {r c i : Int} {xs : List Nat} (h0 : fstE [chk r c xs, whenE (outB i r) 1] ≠ 0) : listB (rowR r c xs i) ⟨[], fstE [chk r c xs, whenE (outB i r) 1]⟩ = true := list_bad (if_neg h0) h0
theorem places_5 {r c j : Int} {xs : List Nat} (h0 : fstE [chk r c xs, whenE (outB j c) 1] = 0) : listB (colR r c xs j) ⟨colL r c xs j, fstE [chk r c xs, whenE (outB j c) 1]⟩ = true := by
  have e : colR r c xs j = ⟨colL r c xs j, 0⟩ := if_pos h0
  rw [e, h0]
  exact list_same fairL_ok rfl fun _ => rfl
theorem places_5' {r c j : Int} {xs : List Nat} (h0 : fstE [chk r c xs, whenE (outB j c) 1] ≠ 0) : listB (colR r c xs j) ⟨[], fstE [chk r c xs, whenE (outB j c) 1]⟩ = true := list_bad (if_neg h0) h0
theorem dead_list {x y : LR} (h : (!listB x y) = true) (hT : listB x y = true) : False := by rw [hT] at h; cases h
end Go.Bn
