/-
  Plain facts on orders.
-/
import Derived.Test.YtcnffgbncbadbaaPart
set_option linter.unusedVariables false
set_option linter.unusedSimpArgs false
namespace Go.Bn
open Go
def OkAt (ps : List Int) (a : Nat) : Prop := 0 ≤ ps.getD a 0 ∧ ps.getD a 0 < (ps.length : Int) ∧ ∀ q, q < a → ps.getD q 0 ≠ ps.getD a 0
instance (ps : List Int) (a : Nat) : Decidable (OkAt ps a) := by unfold OkAt; exact inferInstance
def OkTo (ps : List Int) (k : Nat) : Prop := ∀ a, a < k → OkAt ps a
instance (ps : List Int) (k : Nat) : Decidable (OkTo ps k) := by unfold OkTo; exact inferInstance
def permB (ps : List Int) : Bool := decide (OkTo ps ps.length)
theorem okTo_zero {ps : List Int} : OkTo ps 0 := fun a h => by omega
theorem okTo_step {ps : List Int} {k : Nat} (h : OkTo ps k) (hk : OkAt ps k) : OkTo ps (k + 1) := fun a ha => by
  by_cases e : a = k
  · subst e; exact hk
  · exact h a (by omega)
theorem perm_yes {ps : List Int} {k : Nat} (hk : k = ps.length) (h : OkTo ps k) : permB ps = true := by subst hk; exact decide_eq_true h
theorem perm_no {ps : List Int} {k : Nat} (hk : k < ps.length) (h : ¬ OkAt ps k) : permB ps = false := decide_eq_false fun hh => h (hh k hk)
def ordE (r c : Int) (xs : List Nat) (ps : List Int) : Int := fstE [chk r c xs, whenE (r != c || (ps.length : Int) != r) 3]
def ordG (r c : Int) (xs : List Nat) (ps : List Int) : List Nat := grid r c fun i j => mat c xs (ps.getD i.toNat 0) (ps.getD j.toNat 0)
def ordX (r c : Int) (xs : List Nat) (ps : List Int) : MR := if permB ps = true then ⟨r, c, ordG r c xs ps, 0⟩ else badM 1
def ordR (r c : Int) (xs : List Nat) (ps : List Int) : MR := orR (ordE r c xs ps) (ordX r c xs ps)
theorem ordE_good {r c : Int} {xs : List Nat} {ps : List Int} (h : ordE r c xs ps = 0) : Good r c xs ∧ c = r ∧ (ps.length : Int) = r := by
  unfold ordE at h
  rw [fst2, whenE_zero (by decide)] at h
  obtain ⟨h1, h2⟩ := h
  simp at h2
  exact ⟨chk_good h1, h2.1.symm, h2.2⟩
/-- What the first package counts: how often each place was named. -/
def SeenI (ps : List Int) (k : Nat) (m : List Int) : Prop := m.length = 12 ∧ ∀ v, v < 12 → 0 ≤ m.getD v 0 ∧ m.getD v 0 ≤ k ∧ (0 < m.getD v 0 ↔ ∃ q, q < k ∧ ps.getD q 0 = (v : Int))
theorem seen_zero {ps : List Int} : SeenI ps 0 (List.replicate 12 0) := by
  refine ⟨by simp, fun v hv => ?_⟩
  have e : (List.replicate 12 (0 : Int)).getD v 0 = 0 := by
    rw [List.getD, List.getElem?_replicate]
    split <;> rfl
  rw [e]
  refine ⟨by omega, by omega, fun h => by omega, fun ⟨q, hq, _⟩ => by omega⟩
theorem getD_setI {m : List Int} {u v : Nat} {x : Int} (hu : u < m.length) : (m.set u x).getD v 0 = if v = u then x else m.getD v 0 := by
  by_cases h : v = u
  · subst h
    rw [if_pos rfl, List.getD, List.getElem?_set_self hu]; rfl
  · rw [if_neg h, List.getD, List.getElem?_set_ne (fun e => h e.symm), ← List.getD]
theorem seen_step {ps : List Int} {k : Nat} {m : List Int} (h : SeenI ps k m) (h0 : 0 ≤ ps.getD k 0) (h1 : ps.getD k 0 < 12) : SeenI ps (k + 1) (m.set (ps.getD k 0).toNat (m.getD (ps.getD k 0).toNat 0 + 1)) := by
  obtain ⟨hl, h⟩ := h
  refine ⟨by rw [List.length_set]; exact hl, fun v hv => ?_⟩
  rw [getD_setI (by omega)]
  obtain ⟨g1, g2, g3⟩ := h v hv
  by_cases hvu : v = (ps.getD k 0).toNat
  · rw [if_pos hvu, ← hvu]
    exact ⟨by omega, by omega, fun _ => ⟨k, by omega, by omega⟩, fun _ => by omega⟩
  · rw [if_neg hvu]
    refine ⟨g1, by omega, fun hp => ?_, fun ⟨q, hq, he⟩ => ?_⟩
    · obtain ⟨q, hq, he⟩ := g3.1 hp
      exact ⟨q, by omega, he⟩
    · by_cases hqk : q = k
      · subst hqk; omega
      · exact g3.2 ⟨q, by omega, he⟩
theorem seen_new {ps : List Int} {k : Nat} {m : List Int} (h : SeenI ps k m) (h0 : 0 ≤ ps.getD k 0) (h1 : ps.getD k 0 < (ps.length : Int)) (hl : ps.length ≤ 12) (hn : m.getD (ps.getD k 0).toNat 0 ≤ 0) : OkAt ps k := by
  refine ⟨h0, h1, fun q hq he => ?_⟩
  obtain ⟨_, _, g3⟩ := h.2 (ps.getD k 0).toNat (by omega)
  have := g3.2 ⟨q, hq, by omega⟩
  omega
theorem seen_old {ps : List Int} {k : Nat} {m : List Int} (h : SeenI ps k m) (hl : ps.length ≤ 12) (hb : (ps.getD k 0 < 0 ∨ (ps.length : Int) ≤ ps.getD k 0) ∨ 0 < m.getD (ps.getD k 0).toNat 0) : ¬ OkAt ps k := fun ⟨h0, h1, h2⟩ => by
  obtain ⟨_, _, g3⟩ := h.2 (ps.getD k 0).toNat (by omega)
  have hp : 0 < m.getD (ps.getD k 0).toNat 0 := by omega
  obtain ⟨q, hq, he⟩ := g3.1 hp
  exact h2 q hq (by omega)
theorem okAt_rng {ps : List Int} {n i : Int} (hl : (ps.length : Int) = n) (h : OkTo ps ps.length) (h0 : 0 ≤ i) (h1 : i < n) : 0 ≤ ps.getD i.toNat 0 ∧ ps.getD i.toNat 0 < n := by
  have := h i.toNat (by omega)
  exact ⟨this.1, by have := this.2.1; omega⟩
def rordR (r c : Int) (xs : List Nat) (ps : List Int) : MR := if r ≠ c ∨ (ps.length : Int) ≠ r then badM 3 else ordX r c xs ps
theorem fair_ordX {r c : Int} {xs : List Nat} {ps : List Int} : Fair (ordX r c xs ps) := by
  unfold ordX
  split
  · exact fair_ok
  · exact fun _ => rfl
theorem fair_ord {r c : Int} {xs : List Nat} {ps : List Int} : Fair (ordR r c xs ps) := fair_orR fair_ordX
theorem ord_eq {r c : Int} {xs : List Nat} {ps : List Int} (h : chk r c xs = 0) : ordR r c xs ps = rordR r c xs ps := by
  unfold ordR rordR ordE
  rw [h]
  by_cases hb : r ≠ c ∨ (ps.length : Int) ≠ r
  · rw [if_pos hb, show fstE [0, whenE (r != c || (ps.length : Int) != r) 3] = 3 by
      have : (r != c || (ps.length : Int) != r) = true := by simpa using hb
      rw [this]; rfl]
    rfl
  · rw [if_neg hb, show fstE [0, whenE (r != c || (ps.length : Int) != r) 3] = 0 by
      have : (r != c || (ps.length : Int) != r) = false := by simpa using hb
      rw [this]; rfl]
    rfl
theorem ord_y {r c : Int} {xs : List Nat} {ps : List Int} (h : chk r c xs = 0) : toldB (ordR r c xs ps) (rordR r c xs ps) = true := by
  rw [← ord_eq h]
  exact told_same fair_ord rfl fun _ => rfl
theorem ord_n {r c u v : Int} {xs zs : List Nat} {ps : List Int} (h : chk r c xs ≠ 0) : toldB (ordR r c xs ps) ⟨u, v, zs, chk r c xs⟩ = true := by
  refine told_bad ?_ h
  show ordR r c xs ps = badM (chk r c xs)
  unfold ordR ordE
  rw [fst_1 h]
  exact if_neg h
theorem ordX_no {r c : Int} {xs : List Nat} {ps : List Int} (h : permB ps = false) : badM 1 = ordX r c xs ps := by unfold ordX; rw [if_neg (by rw [h]; decide)]
theorem ordX_yes {r c : Int} {xs : List Nat} {ps : List Int} (h : permB ps = true) : ⟨r, c, ordG r c xs ps, 0⟩ = ordX r c xs ps := by unfold ordX; rw [if_pos h]
theorem ordR_ok {r c : Int} {xs : List Nat} {ps : List Int} (h : ordE r c xs ps = 0) : ordX r c xs ps = ordR r c xs ps := (if_pos h).symm
theorem rord_is {r c : Int} {xs : List Nat} {ps : List Int} (h : ¬(r ≠ c ∨ (ps.length : Int) ≠ r)) : ordX r c xs ps = rordR r c xs ps := (if_neg h).symm
/-! ## MatrixParts -/
theorem tr_y {r c : Int} {xs : List Nat} (h : chk r c xs = 0) : toldB (trR r c xs) ⟨c, r, trG r c xs, chk r c xs⟩ = true := by
  rw [trR_ok h, h]
  exact told_same fair_ok rfl fun _ => rfl
theorem tr_n {r c u v : Int} {xs zs : List Nat} (h : chk r c xs ≠ 0) : toldB (trR r c xs) ⟨u, v, zs, chk r c xs⟩ = true := told_bad (if_neg h) h
end Go.Bn
