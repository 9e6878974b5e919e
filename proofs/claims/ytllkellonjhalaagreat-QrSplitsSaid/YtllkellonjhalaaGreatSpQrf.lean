/-
 What the reference splits a matrix into is what the program splits it into.
-/
import Derived.Test.YtllkellonjhalaaGreatSpQre
set_option linter.unusedVariables false
set_option linter.unusedSimpArgs false
namespace Go.Bn
open Go
theorem grid_same {m n : Nat} {f g : Int → Int → Nat} (h : ∀ i j : Nat, i < m → j < n → finB (f i j) = finB (g i j) ∧ (finB (f i j) = true → f i j = g i j)) : (grid (m : Int) (n : Int) f).all finB = (grid (m : Int) (n : Int) g).all finB ∧ ((grid (m : Int) (n : Int) f).all finB = true → grid (m : Int) (n : Int) f = grid (m : Int) (n : Int) g) := by
 have hp : ∀ k, k ∈ List.range ((m : Int).toNat * (n : Int).toNat) → k / (n : Int).toNat < m ∧ k % (n : Int).toNat < n := fun k hk => by
  have hk := List.mem_range.1 hk
  rw [Int.toNat_natCast, Int.toNat_natCast] at *
  have hn : 0 < n := by
   rcases Nat.eq_zero_or_pos n with h | h
   ·rw [h] at hk; omega
   ·exact h
  exact ⟨(Nat.div_lt_iff_lt_mul hn).2 hk, Nat.mod_lt _ hn⟩
 unfold grid
 constructor
 ·rw [Bool.eq_iff_iff, List.all_eq_true, List.all_eq_true]
  constructor
  ·intro ha z hz
   obtain ⟨k, hk, rfl⟩ := List.mem_map.1 hz
   have hq := hp k hk
   rw [← (h _ _ hq.1 hq.2).1]
   exact ha _ (List.mem_map.2 ⟨k, hk, rfl⟩)
  ·intro ha z hz
   obtain ⟨k, hk, rfl⟩ := List.mem_map.1 hz
   have hq := hp k hk
   rw [(h _ _ hq.1 hq.2).1]
   exact ha _ (List.mem_map.2 ⟨k, hk, rfl⟩)
 ·intro ha
  refine List.map_congr_left fun k hk => ?_
  have hq := hp k hk
  exact (h _ _ hq.1 hq.2).2 (List.all_eq_true.1 ha _ (List.mem_map.2 ⟨k, hk, rfl⟩))
theorem grid_all {m n : Nat} {f : Int → Int → Nat} : (grid (m : Int) (n : Int) f).all finB = true ↔ ∀ i j : Nat, i < m → j < n → finB (f i j) = true := by
 constructor
 ·intro h i j hi hj
  have g := grid_at (m : Int) (n : Int) f (i := i) (j := j) hi hj
  rw [← g]
  exact finB_getD h _
 ·intro h
  unfold grid
  rw [List.all_eq_true]
  intro z hz
  obtain ⟨k, hk, rfl⟩ := List.mem_map.1 hz
  have hk := List.mem_range.1 hk
  rw [Int.toNat_natCast, Int.toNat_natCast] at *
  have hn : 0 < n := by
   rcases Nat.eq_zero_or_pos n with h | h
   ·rw [h] at hk; omega
   ·exact h
  exact h _ _ ((Nat.div_lt_iff_lt_mul hn).2 hk) (Nat.mod_lt _ hn)
theorem cnL_turn {H : Nat → Gls} {m n j : Nat} : ∀ d, CnL (turnP H m n j d)
 | 0 => cnL_fin (finL_unit m j)
 | d + 1 => cnL_mirW (cnL_turn d)
theorem turn_congr {H H' : Nat → Gls} {m n j : Nat} (h : ∀ k, k < n → H k = H' k) : ∀ d, d ≤ n → turnP H m n j d = turnP H' m n j d
 | 0, _ => rfl
 | d + 1, hd => by rw [turnP, turnP, h (n - 1 - d) (by omega), turn_congr h d (by omega)]
theorem flip_same {x b : Nat} (hx : x < 2 ^ 64) : finB (tidB x b) = finB (flipN x b) ∧ (finB (tidB x b) = true → tidB x b = flipN x b) := by
 cases hf : finB x
 ·have hn : Nf x := (nf_dec hx).2 hf
  have h1 := tid_nf hx hn (fcmp .lss b 0)
  have h2 : Nf (flipN x b) := by
   unfold flipN
   split
   ·exact nf_add1 (nf_neg hx hn)
   ·exact nf_add1 hn
  have h3 : flipN x b < 2 ^ 64 := by unfold flipN; exact fop_lt (op := .add)
  have e1 : finB (tidB x b) = false := (nf_dec h1.2).1 h1.1
  have e2 : finB (flipN x b) = false := (nf_dec h3).1 h2
  rw [e1, e2]
  exact ⟨rfl, fun h => by cases h⟩
 ·have e : tidB x b = flipN x b := tid_fin hx hf _
  rw [e]
  exact ⟨rfl, fun _ => rfl⟩
theorem rqr_core {m n : Nat} {X : Nat → List Nat} (hnm : n ≤ m) (h0 : TriI X n m 0) (hr : RtrI X n m 0) :
  endsQ (m : Int) (n : Int) (qQ tidB (rtriTo X n) (rglsAt X) m n) (qR tidB (rtriTo X n) n) = if triB X n = true then badS 5 else endsQ (m : Int) (n : Int) (qQ flipN (triTo X n) (glsAt X) m n) (qR flipN (triTo X n) n) := by
 have key := rtr_tri hnm h0 hr
 have hR : (qR tidB (rtriTo X n) n).all finB = (rtriG X n).all finB := by
  rw [Bool.eq_iff_iff]
  unfold qR rtriG
  rw [grid_all, grid_all]
  constructor
  ·intro h i j hi hj; exact h j i hj hi
  ·intro h i j hi hj; exact h j i hj hi
 by_cases hb : triB X n = true
 ·rw [if_pos hb]
  unfold triR at key
  rw [if_pos hb] at key
  have hall : (rtriG X n).all finB = false := by
   cases hv : (rtriG X n).all finB
   ·rfl
   ·unfold toldR at key
    rw [if_neg (by rw [hv]; decide)] at key
    have := congrArg MR.e key
    cases this
  unfold endsQ
  rw [if_pos (by rw [hR, hall]; simp)]
 ·rw [if_neg hb]
  have ho : ∀ p, p < n → overB (triTo X p) n p = false := fun p hp => by
   cases hv : overB (triTo X p) n p
   ·rfl
   ·exact (hb (by unfold triB; exact List.any_eq_true.2 ⟨p, List.mem_range.2 hp, hv⟩)).elim
  have ht := tri_at h0 ho
  have hs := rtr_same h0 ho (Nat.le_refl n)
  have hq : qR tidB (rtriTo X n) n = qR flipN (triTo X n) n := by
   unfold qR
   refine grid_congr fun i j h1 h2 h3 h4 => ?_
   rw [hs j.toNat (by omega), hs i.toNat (by omega)]
   have hf := ht.hf j.toNat (by omega) i.toNat
   exact tid_fin hf.2 hf.1 _
  have hH : ∀ k, k < n → rglsAt X k = glsAt X k := fun k hk => by
   have h := tri_at h0 (i := k) fun p hp => ho p (by omega)
   have e := rtr_same h0 (i := k) (fun p hp => ho p (by omega)) (by omega) k hk
   unfold rglsAt glsAt rgl gls
   rw [e]
   exact rgls_fin (finL_drop (h.hf k hk) k)
  have hg := grid_same (m := m) (n := n) (f := fun i j => tidB ((turnP (rglsAt X) m n j.toNat n).getD i.toNat 0) ((rtriTo X n j.toNat).getD j.toNat 0)) (g := fun i j => flipN ((turnP (glsAt X) m n j.toNat n).getD i.toNat 0) ((triTo X n j.toNat).getD j.toNat 0)) fun i j hi hj => by
   show finB (tidB ((turnP (rglsAt X) m n j n).getD i 0) ((rtriTo X n j).getD j 0)) = finB (flipN ((turnP (glsAt X) m n j n).getD i 0) ((triTo X n j).getD j 0)) ∧ (finB (tidB ((turnP (rglsAt X) m n j n).getD i 0) ((rtriTo X n j).getD j 0)) = true → tidB ((turnP (rglsAt X) m n j n).getD i 0) ((rtriTo X n j).getD j 0) = flipN ((turnP (glsAt X) m n j n).getD i 0) ((triTo X n j).getD j 0))
   rw [turn_congr hH n (Nat.le_refl n), hs j hj]
   exact flip_same (cnL_turn n i).1
  have hg1 : (qQ tidB (rtriTo X n) (rglsAt X) m n).all finB = (qQ flipN (triTo X n) (glsAt X) m n).all finB := hg.1
  have hg2 : (qQ tidB (rtriTo X n) (rglsAt X) m n).all finB = true → qQ tidB (rtriTo X n) (rglsAt X) m n = qQ flipN (triTo X n) (glsAt X) m n := hg.2
  unfold endsQ
  rw [hq, ← hg1]
  cases hv : (qQ tidB (rtriTo X n) (rglsAt X) m n).all finB
  ·simp
  ·rw [hg2 hv]
theorem rqrM_eq {r c : Int} {xs : List Nat} (hlt : LtL xs) : rqrM r c xs = qrM r c xs := by
 unfold rqrM qrM
 split
 ·rfl
 ·rename_i h1
  split
  ·rfl
  ·rename_i h2
   have hz : chk r c xs = 0 := by simpa using h1
   have hg := chk_good hz
   obtain ⟨n, rfl⟩ : ∃ n : Nat, c = (n : Int) := ⟨c.toNat, by have := hg.1.2.2.1; omega⟩
   obtain ⟨m, rfl⟩ : ∃ m : Nat, r = (m : Int) := ⟨r.toNat, by have := hg.1.1; omega⟩
   have hF : FinL xs := finL_mk (chk_zero.1 hz).2 hlt
   exact rqr_core (by omega) (qtri_start rfl hF) (rqr_start hF)
end Go.Bn
