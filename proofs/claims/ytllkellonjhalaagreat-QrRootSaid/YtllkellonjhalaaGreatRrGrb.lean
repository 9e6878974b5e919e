/-
 The triangle times itself is what went in times itself, nearly.
-/
import Derived.Test.YtllkellonjhalaaGreatRrGra
import Derived.Test.YtllkellonjhalaaGreatRrExm
set_option linter.unusedVariables false
set_option linter.unusedSimpArgs false
namespace Go.Bn
open Go
theorem getD_clr {x : List Nat} {p a k : Nat} (hp : p < x.length) : ((clrR x p).set p a).getD k 0 = if k < p then x.getD k 0 else if k = p then a else 0 := by
 by_cases hk : k = p
 ·subst hk
  rw [if_neg (by omega), if_pos rfl, List.getD, List.getElem?_set_self (by rw [length_clrR]; exact hp)]
  rfl
 ·have e : ((clrR x p).set p a).getD k 0 = (clrR x p).getD k 0 := by rw [List.getD, List.getElem?_set_ne (by omega)]; rfl
  rw [e]
  unfold clrR
  rw [getD_app, List.length_take]
  by_cases h : k < p
  ·rw [if_pos (by omega), if_pos h, getD_tak h]
  ·rw [if_neg (by omega), if_neg h, if_neg hk, getD_rep]
theorem tri_low0 {X : Nat → List Nat} {n L : Nat} (hnL : n ≤ L) (hT : ∀ i, i ≤ n → TriI X n L i) : ∀ p, p ≤ n → ∀ j, j < p → ∀ k, j < k → (triTo X p j).getD k 0 = 0
 | 0, _, j, hj, _, _ => absurd hj (Nat.not_lt_zero j)
 | p + 1, hp, j, hj, k, hk => by
  show (endF (triTo X p) p j).getD k 0 = 0
  unfold endF
  have hlen := (hT p (by omega)).hl p (by omega)
  by_cases h1 : j = p
  ·subst h1
   rw [if_pos rfl, getD_clr (by omega), if_neg (by omega), if_neg (by omega)]
  ·rw [if_neg h1, if_neg (by omega)]
   exact tri_low0 hnL hT p (by omega) j (by omega) k hk
def sgq (x : Nat) : Rat := if fcmp .lss x 0 = true then -1 else 1
theorem sgq_sq (x : Nat) : sgq x * sgq x = 1 := by unfold sgq; split <;> grind
theorem triN_rv {X : Nat → List Nat} {i j : Nat} (hF : FinL (X i)) : triN X i j < 2 ^ 64 ∧ rung (triN X i j) < 9218868437227405312 ∧ rv (triN X i j) = sgq ((X j).getD j 0) * rl (X i) j := by
 have hx := (hF j).2
 have fx := finL_r hF j
 have z : sval 0 = 0 := by decide +kernel
 have fz : rung 0 < 9218868437227405312 := by decide
 obtain ⟨n1, n2, n3⟩ := fneg_val hx fx
 unfold triN sgq
 refine ⟨fop_lt (op := .add), ?_⟩
 split
 ·obtain ⟨q1, q2⟩ := fadd_nil n1 n2 fz z
  refine ⟨q1, ?_⟩
  have : rv (fadd (fneg ((X i).getD j 0)) 0) = rv (fneg ((X i).getD j 0)) := by unfold rv; rw [q2]
  rw [this, rv_neg hx fx]
  show -rv _ = -1 * rv _
  grind
 ·obtain ⟨q1, q2⟩ := fadd_nil hx fx fz z
  refine ⟨q1, ?_⟩
  have : rv (fadd ((X i).getD j 0) 0) = rv ((X i).getD j 0) := by unfold rv; rw [q2]
  rw [this]
  show rv _ = 1 * rv _
  grind
theorem triN_up {X : Nat → List Nat} {i j : Nat} (h : (X i).getD j 0 = 0) : triN X i j = 0 := by
 unfold triN
 rw [h]
 split <;> decide +kernel
theorem lss_pos {x : Nat} (fx : rung x < 9218868437227405312) (h : fcmp .lss x 0 = true) : sval x < 0 := by
 unfold fcmp at h
 rw [ford_val' fx (by decide), show sval 0 = 0 by decide +kernel] at h
 rcases Int.lt_trichotomy (sval x) 0 with g | g | g
 ·exact g
 ·rw [Int.compare_eq_eq.2 g] at h; cases h
 ·rw [Int.compare_eq_gt.2 g] at h; cases h
theorem lss_neg {x : Nat} (fx : rung x < 9218868437227405312) (h : ¬ fcmp .lss x 0 = true) : 0 ≤ sval x := by
 unfold fcmp at h
 rw [ford_val' fx (by decide), show sval 0 = 0 by decide +kernel] at h
 rcases Int.lt_trichotomy (sval x) 0 with g | g | g
 ·rw [Int.compare_eq_lt.2 g] at h; exact absurd rfl h
 ·omega
 ·omega
theorem geq_of {x : Nat} (fx : rung x < 9218868437227405312) (h : 0 ≤ sval x) : fcmp .geq x 0 = true := by
 unfold fcmp
 rw [ford_val' fx (by decide), show sval 0 = 0 by decide +kernel]
 rcases Int.lt_trichotomy (sval x) 0 with g | g | g
 ·omega
 ·rw [Int.compare_eq_eq.2 g]; rfl
 ·rw [Int.compare_eq_gt.2 g]; rfl
theorem triN_dia {X : Nat → List Nat} {i : Nat} (hF : FinL (X i)) : fcmp .geq (triN X i i) 0 = true := by
 have hx := (hF i).2
 have fx := finL_r hF i
 have z : sval 0 = 0 := by decide +kernel
 have fz : rung 0 < 9218868437227405312 := by decide
 obtain ⟨n1, n2, n3⟩ := fneg_val hx fx
 unfold triN
 split
 ·rename_i h
  obtain ⟨q1, q2⟩ := fadd_nil n1 n2 fz z
  have := lss_pos fx h
  exact geq_of q1 (by rw [q2, n3]; omega)
 ·rename_i h
  obtain ⟨q1, q2⟩ := fadd_nil hx fx fz z
  exact geq_of q1 (by rw [q2]; exact lss_neg fx h)
theorem root_of : ∀ A : Nat, ∃ s, s * s ≤ A ∧ A < (s + 1) * (s + 1)
 | 0 => ⟨0, by decide, by decide⟩
 | A + 1 => by
  obtain ⟨s, h1, h2⟩ := root_of A
  by_cases h : (s + 1) * (s + 1) ≤ A + 1
  ·refine ⟨s + 1, h, ?_⟩
   have : (s + 1 + 1) * (s + 1 + 1) = (s + 1) * (s + 1) + (2 * s + 3) := by grind
   omega
  ·exact ⟨s, by omega, by omega⟩
def TameL (xs : List Nat) : Prop := ∀ k, sval (xs.getD k 0) = 0 ∨ 10000 * UU ≤ vlu (xs.getD k 0)
theorem row_n {xs : List Nat} (L : Nat) (h : TameL xs) : ∃ N, RowN (rl xs) L N ∧ N * N ≤ 105 / 100 * dt (rl xs) (rl xs) L := by
 by_cases hz : ∀ k, k < L → sval (xs.getD k 0) = 0
 ·have e0 : dt (rl xs) (rl xs) L = 0 := dt_0 (a := rl xs) fun k hk => rv_0 (hz k hk)
  refine ⟨0, ⟨by grind, ?_, .inr rfl⟩, ?_⟩
  ·rw [e0]; grind
  ·rw [e0]; grind
 ·obtain ⟨k, hk⟩ : ∃ k, ¬ (k < L → sval (xs.getD k 0) = 0) := Classical.not_forall.1 hz
  have hkL : k < L := Classical.byContradiction fun hc => hk fun h => absurd h hc
  have hv : 10000 * UU ≤ vlu (xs.getD k 0) := (h k).resolve_left fun e => hk fun _ => e
  have hA := sq_at (ys := xs) hkL
  obtain ⟨s, s1, s2⟩ := root_of (sqV xs L)
  have hs : 10000 * UU ≤ s := by
   refine Nat.le_trans hv ?_
   have h1 : vlu (xs.getD k 0) * vlu (xs.getD k 0) < (s + 1) * (s + 1) := Nat.lt_of_le_of_lt hA s2
   have h2 : vlu (xs.getD k 0) < s + 1 := Nat.mul_self_lt_mul_self_iff.1 h1
   omega
  have eA := rv_sq xs L
  have r1 : (s : Rat) * (s : Rat) ≤ ((sqV xs L : Nat) : Rat) := by exact_mod_cast s1
  have r2 : ((sqV xs L : Nat) : Rat) ≤ ((s : Rat) + 1) * ((s : Rat) + 1) := by exact_mod_cast Nat.le_of_lt s2
  have r3 : 10000 * ((UU : Nat) : Rat) ≤ (s : Rat) := by exact_mod_cast hs
  have r4 : (10000 : Rat) ≤ (s : Rat) := by exact_mod_cast (show 10000 ≤ s from Nat.le_trans (by decide) hs)
  have ee := r_mul ep_nn ep_nn
  rw [← eA]
  have hu6 := uu_UU
  have hu := uu_nn
  have hen := ep_nn
  generalize ((sqV xs L : Nat) : Rat) = A at *
  generalize ((UU : Nat) : Rat) = U at *
  generalize (s : Rat) = t at *
  obtain ⟨e, he⟩ : ∃ e, e = ep := ⟨_, rfl⟩
  rw [← he] at ee hen ⊢
  refine ⟨(t + 1) * (1001 / 1000) * e, ⟨?_, ?_, .inl ?_⟩, ?_⟩
  ·exact r_mul (r_mul (by grind) (by grind)) hen
  ·rw [← eA, ← he]
   have h1 := r_mml ee r2
   have h3 := r_mul ee (r_mul (a := t + 1) (b := t + 1) (by grind) (by grind))
   grind
  ·rw [← he]
   have h1 := r_mml (r_mul hu hen) r3
   have h2 : uu * e * (10000 * U) = 10000 * e * (uu * U) := by grind
   rw [h2, hu6] at h1
   have h3 := r_mul (r_mul hu hen) (b := t) (by grind)
   have h4 := r_mul hu hen
   grind
  ·have h0 : (t + 1) * (t + 1) ≤ 1001 / 1000 * (t * t) := by
    have := r_mml (c := t) (by grind) r4
    grind
   have h1 := r_mml ee r1
   have h2 := r_mml ee h0
   have h3 := r_mul ee (r_mul (a := t) (b := t) (by grind) (by grind))
   grind
theorem gram_fin {D A B N M q : Rat} (hA : 0 ≤ A) (hN : 0 ≤ N) (hM : 0 ≤ M) (h1 : N * N ≤ 105 / 100 * A) (h2 : M * M ≤ 105 / 100 * B) (q0 : 0 ≤ q) (hq : q ≤ 12) (h : Bd D (q * ga * (N * M))) : D * D * 75557863725914323419136 ≤ A * B := by
 have h3 := (h.mul h).2
 have h4 := r_mm h1 h2 (by grind) (r_mul hM hM)
 have hg : 0 ≤ ga := by unfold ga; grind
 have h5 : q * ga ≤ 12 * ga := r_mm hq Rat.le_refl (by grind) hg
 have h6 := r_mm h5 h5 (by grind) (r_mul q0 hg)
 have hNM := r_mul (r_mul hN hN) (r_mul hM hM)
 have h7 := r_mm h6 (Rat.le_refl (a := N * N * (M * M))) (r_mul (by grind) (by grind)) hNM
 have e1 : q * ga * (N * M) * (q * ga * (N * M)) = q * ga * (q * ga) * (N * N * (M * M)) := by grind
 rw [e1] at h3
 generalize q * ga * (q * ga) * (N * N * (M * M)) = z at *
 generalize N * N * (M * M) = y at *
 unfold ga at *
 grind
theorem int_up {D A B : Int} {m : Nat} (h : ((D : Int) : Rat) * ((D : Int) : Rat) * (m : Rat) ≤ ((A : Int) : Rat) * ((B : Int) : Rat)) : D * D * (m : Int) ≤ A * B := by exact_mod_cast h
theorem gram_int {D A B : Int} (h : (((D : Int) : Rat) * (ep * ep)) * (((D : Int) : Rat) * (ep * ep)) * 75557863725914323419136 ≤ (((A : Int) : Rat) * (ep * ep)) * (((B : Int) : Rat) * (ep * ep))) : D * (D * 2 ^ 76) ≤ A * B := by
 have hp := ep_pz
 have hP : (0 : Rat) ≤ ((PZ : Nat) : Rat) := nat_nn _
 generalize ((PZ : Nat) : Rat) = P at *
 have h4 := r_mml (r_mul (r_mul hP hP) (r_mul hP hP)) h
 have e1 : P * P * (P * P) * (((D : Int) : Rat) * (ep * ep) * (((D : Int) : Rat) * (ep * ep)) * 75557863725914323419136) = ((D : Int) : Rat) * ((D : Int) : Rat) * 75557863725914323419136 * ((ep * P) * (ep * P) * ((ep * P) * (ep * P))) := by grind
 have e2 : P * P * (P * P) * (((A : Int) : Rat) * (ep * ep) * (((B : Int) : Rat) * (ep * ep))) = ((A : Int) : Rat) * ((B : Int) : Rat) * ((ep * P) * (ep * P) * ((ep * P) * (ep * P))) := by grind
 rw [e1, e2, hp] at h4
 have h5 : ((D : Int) : Rat) * ((D : Int) : Rat) * 75557863725914323419136 ≤ ((A : Int) : Rat) * ((B : Int) : Rat) := by grind
 have h6 : D * D * ((75557863725914323419136 : Nat) : Int) ≤ A * B := int_up (by
  rw [show ((75557863725914323419136 : Nat) : Rat) = 75557863725914323419136 from rfl]
  exact h5)
 rw [← Int.mul_assoc]
 exact h6
theorem dt_tri {X : Nat → List Nat} {n L i j : Nat} {a b : List Nat} (hnL : n ≤ L) (hF : ∀ k, k < n → FinL (X k)) (hi : i < n) (hj : j < n) (hz : ∀ k, j < k → rl (X j) k = 0) (ha : ∀ k, k < n → a.getD k 0 = triN X i k) (hb : ∀ k, k < n → b.getD k 0 = triN X j k) : dt (rl a) (rl b) n = dt (rl (X i)) (rl (X j)) L := by
 have e : dt (rl (X i)) (rl (X j)) L = dt (rl (X i)) (rl (X j)) n := by
  rw [show L = n + (L - n) by omega, dt_app, dt_comm (fun k => rl (X i) (n + k)), dt_0 (a := fun k => rl (X j) (n + k)) fun k _ => hz (n + k) (by omega)]
  grind
 rw [e]
 clear e
 have key : ∀ k, k < n → rl a k * rl b k = rl (X i) k * rl (X j) k := fun k hk => by
  have h1 : rl a k = sgq ((X k).getD k 0) * rl (X i) k := by show rv _ = _; rw [ha k hk]; exact (triN_rv (hF i hi)).2.2
  have h2 : rl b k = sgq ((X k).getD k 0) * rl (X j) k := by show rv _ = _; rw [hb k hk]; exact (triN_rv (hF j hj)).2.2
  rw [h1, h2]
  have := sgq_sq ((X k).getD k 0)
  generalize sgq ((X k).getD k 0) = q at *
  have e : q * rl (X i) k * (q * rl (X j) k) = (q * q) * (rl (X i) k * rl (X j) k) := by grind
  rw [e, this]; grind
 have gen : ∀ m, m ≤ n → dt (rl a) (rl b) m = dt (rl (X i)) (rl (X j)) m := by
  intro m
  induction m with
  | zero => intro _; rfl
  | succ m ih => intro hm; rw [dt, dt, ih (by omega), key m (by omega)]
 exact gen n (Nat.le_refl _)
theorem tri_gram {X : Nat → List Nat} {n L : Nat} (hn : n ≤ 12) (hL : L ≤ 48) (hnL : n ≤ L) (hl : ∀ j, j < n → (X j).length = L) (hF : ∀ j, j < n → FinL (X j)) (hT : ∀ j, j < n → TameL (X j)) (hB : triB X n = false) {i j : Nat} (hi : i < n) (hj : j < n) {a b : List Nat} (ha : ∀ k, k < n → a.getD k 0 = triN (triTo X n) i k) (hb : ∀ k, k < n → b.getD k 0 = triN (triTo X n) j k) :
  (sumV a b n - sumV (X i) (X j) L) * ((sumV a b n - sumV (X i) (X j) L) * 2 ^ 76) ≤ sumV (X i) (X i) L * sumV (X j) (X j) L := by
 have T := triI_all hl hF hB
 obtain ⟨N, hN⟩ : ∃ N : Nat → Rat, ∀ k, k < n → RowN (rl (X k)) L (N k) ∧ N k * N k ≤ 105 / 100 * dt (rl (X k)) (rl (X k)) L := by
  have : ∀ k, ∃ M : Rat, k < n → RowN (rl (X k)) L M ∧ M * M ≤ 105 / 100 * dt (rl (X k)) (rl (X k)) L := fun k => by
   by_cases hk : k < n
   ·obtain ⟨M, hM⟩ := row_n (xs := X k) L (hT k hk)
    exact ⟨M, fun _ => hM⟩
   ·exact ⟨0, fun h => absurd h hk⟩
  exact ⟨fun k => (this k).choose, fun k hk => (this k).choose_spec hk⟩
 have g := gram_all (N := N) hn hL hnL T (fun k hk => (hN k hk).1) n (Nat.le_refl _) i j hi hj
 have TF := T n (Nat.le_refl _)
 rw [← dt_tri (n := n) (L := L) hnL TF.hf hi hj (tri_low hnL T n (Nat.le_refl _) j hj) ha hb] at g
 refine gram_int ?_
 have e : (((sumV a b n - sumV (X i) (X j) L : Int) : Int) : Rat) * (ep * ep) = dt (rl a) (rl b) n - dt (rl (X i)) (rl (X j)) L := by
  rw [← rv_sum, ← rv_sum]
  push_cast
  grind
 rw [e, rv_sum, rv_sum]
 exact gram_fin (dt_nn _ _) (hN i hi).1.h0 (hN j hj).1.h0 (hN i hi).2 (hN j hj).2 (nat_nn n) (by exact_mod_cast hn) g
end Go.Bn
