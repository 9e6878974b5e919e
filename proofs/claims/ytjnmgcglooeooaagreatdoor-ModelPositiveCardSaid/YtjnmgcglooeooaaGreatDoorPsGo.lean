/-
 Plain facts on time that goes on.
-/
import Derived.Test.YtjnmgcglooeooaaGreatDoorPsKd
import Derived.Test.YtjnmgcglooeooaaGreatDoorPsKc
set_option linter.unusedVariables false
set_option linter.unusedSimpArgs false
namespace Go.Bn
open Go
section
variable {B : List (List Nat)} {n fr : Int} {xs : List Nat}
theorem layJ_at {i : Nat} (hn : Siz n n) (hl : (xs.length : Int) = n * n) (hf : 0 ≤ fr) (hi : fr + (i : Int) < n) :
  ∀ {j : Nat}, fr + (j : Int) ≤ n → ∀ {x y : Int}, Pl n n x y → mat n (layJ B n fr i xs j) x y = if x = fr + (i : Int) ∧ fr ≤ y ∧ y < fr + (j : Int) then (B.getD i []).getD (y - fr).toNat 0 else mat n xs x y
 | 0, _, x, y, hp => by rw [layJ, if_neg (by omega)]
 | j + 1, hj, x, y, hp => by
  have hp1 : Pl n n (fr + (i : Int)) (fr + (j : Int)) := ⟨by omega, hi, by omega, by omega⟩
  rw [layJ, Int.add_assoc ((fr + (i : Int)) * n), mat_set hn (by rw [layJ_len]; exact hl) hp1 hp, layJ_at hn hl hf hi (by omega) hp]
  by_cases h : x = fr + (i : Int) ∧ y = fr + (j : Int)
  ·rw [if_pos h, if_pos ⟨h.1, by omega, by omega⟩, show (y - fr).toNat = j by omega]
  ·rw [if_neg h]
   by_cases h2 : x = fr + (i : Int) ∧ fr ≤ y ∧ y < fr + (j : Int)
   ·rw [if_pos h2, if_pos ⟨h2.1, h2.2.1, by omega⟩]
   ·rw [if_neg h2, if_neg (by omega)]
theorem layI_at (hn : Siz n n) (hl : (xs.length : Int) = n * n) (hf : 0 ≤ fr) (hL : fr + (B.length : Int) ≤ n) (hR : ∀ i, i < B.length → (B.getD i []).length = B.length) :
  ∀ {i : Nat}, i ≤ B.length → ∀ {x y : Int}, Pl n n x y → mat n (layI B n fr xs i) x y = if fr ≤ x ∧ x < fr + (i : Int) ∧ fr ≤ y ∧ y < fr + (B.length : Int) then (B.getD (x - fr).toNat []).getD (y - fr).toNat 0 else mat n xs x y
 | 0, _, x, y, hp => by rw [layI, if_neg (by omega)]
 | i + 1, hi, x, y, hp => by
  rw [layI, layJ_at hn (by rw [layI_len]; exact hl) hf (by omega) (by rw [hR i (by omega)]; omega) hp, layI_at hn hl hf hL hR (by omega) hp, hR i (by omega)]
  by_cases h : x = fr + (i : Int) ∧ fr ≤ y ∧ y < fr + (B.length : Int)
  ·rw [if_pos h, if_pos ⟨by omega, by omega, h.2⟩, show (x - fr).toNat = i by omega]
  ·rw [if_neg h]
   by_cases h2 : fr ≤ x ∧ x < fr + (i : Int) ∧ fr ≤ y ∧ y < fr + (B.length : Int)
   ·rw [if_pos h2, if_pos ⟨h2.1, by omega, h2.2.2⟩]
   ·rw [if_neg h2, if_neg (by omega)]
theorem layA_out (hn : Siz n n) (hl : (xs.length : Int) = n * n) (hf : 0 ≤ fr) (hR : ∀ i, i < B.length → (B.getD i []).length = B.length) :
  ∀ {a : Nat}, fr + (a : Int) * (B.length : Int) ≤ n → ∀ {x y : Int}, Pl n n x y → (x < fr ∨ fr + (a : Int) * (B.length : Int) ≤ x) → mat n (layA B n fr xs a) x y = mat n xs x y
 | 0, _, _, _, _, _ => rfl
 | a + 1, ha, x, y, hp, hx => by
  rw [← ax_next] at ha hx
  have h0 : 0 ≤ (a : Int) * (B.length : Int) := Int.mul_nonneg (by omega) (by omega)
  rw [layA, layI_at hn (by rw [layA_len]; exact hl) (by omega) (by omega) hR (Nat.le_refl _) hp, if_neg (by omega)]
  exact layA_out hn hl hf hR (by omega) hp (by omega)
theorem layA_at (hn : Siz n n) (hl : (xs.length : Int) = n * n) (hf : 0 ≤ fr) (hR : ∀ i, i < B.length → (B.getD i []).length = B.length) {q : Nat} :
  ∀ {a : Nat}, q < a → fr + (a : Int) * (B.length : Int) ≤ n → ∀ {x y : Int}, Pl n n x y → fr + (q : Int) * (B.length : Int) ≤ x → x < fr + (q : Int) * (B.length : Int) + (B.length : Int) →
   mat n (layA B n fr xs a) x y = if fr + (q : Int) * (B.length : Int) ≤ y ∧ y < fr + (q : Int) * (B.length : Int) + (B.length : Int) then (B.getD (x - (fr + (q : Int) * (B.length : Int))).toNat []).getD (y - (fr + (q : Int) * (B.length : Int))).toNat 0 else mat n xs x y
 | 0, hq, _, _, _, _, _, _ => by omega
 | a + 1, hq, ha, x, y, hp, h1, h2 => by
  rw [← ax_next] at ha
  have h0 : 0 ≤ (a : Int) * (B.length : Int) := Int.mul_nonneg (by omega) (by omega)
  rw [layA, layI_at hn (by rw [layA_len]; exact hl) (by omega) (by omega) hR (Nat.le_refl _) hp]
  by_cases h : a = q
  ·subst h
   by_cases h3 : fr + (a : Int) * (B.length : Int) ≤ y ∧ y < fr + (a : Int) * (B.length : Int) + (B.length : Int)
   ·rw [if_pos ⟨h1, h2, h3.1, h3.2⟩, if_pos h3]
   ·rw [if_neg (by omega), if_neg h3]
    exact layA_out hn hl hf hR (by omega) hp (.inr h1)
  ·have h4 : ((q : Int) + 1) * (B.length : Int) ≤ (a : Int) * (B.length : Int) := Int.mul_le_mul_of_nonneg_right (by omega) (by omega)
   rw [Int.add_mul, Int.one_mul] at h4
   rw [if_neg (by omega)]
   exact layA_at hn hl hf hR (by omega) (by omega) hp h1 h2
end
section
variable {g : BF} {d : Nat} {ps : List Prt} {n : Int}
theorem toNat_a {ps : List Prt} {k : Nat} (hg : PrtTo ps ps.length) (hk : k < ps.length) : (((ps.getD k prtD).a.toNat : Nat) : Int) = (ps.getD k prtD).a := by
 obtain ⟨_, h, _⟩ := partE_good (hg k hk)
 omega
theorem layP_high (hb : BOk g) (hg : PrtTo ps ps.length) (hn : Siz n n) (ht : tot ps ps.length = n) : ∀ {k : Nat}, k ≤ ps.length → ∀ {x y : Int}, Pl n n x y → tot ps k ≤ x → mat n (layP g d ps n k) x y = 0
 | 0, _, _, _, _, _ => mat_replicate
 | k + 1, hk, x, y, hp, hx => by
  have h1 := tot_mono (ps := ps) (k := k + 1) (m := ps.length) hk hg
  have h0 := (tot_rng (ps := ps) (k := k) fun q hq => hg q (by omega)).1
  obtain ⟨h2, h3⟩ := hb (ps.getD k prtD) d (partE_good (hg k (by omega))).1
  have h4 := ax_rng (hg k (by omega))
  have ha := toNat_a hg (show k < ps.length by omega)
  rw [tot] at hx h1
  have h5 : (((ps.getD k prtD).a.toNat : Nat) : Int) * ((g (ps.getD k prtD) d).length : Int) = (ps.getD k prtD).a * ordN (ps.getD k prtD).k := by rw [ha, h2]
  have hl : ((layP g d ps n k).length : Int) = n * n := by rw [layP_len]; have := hn.mul; omega
  rw [layP, layA_out hn hl (by omega) h3 (by rw [h5]; omega) hp (.inr (by rw [h5]; omega))]
  exact layP_high hb hg hn ht (by omega) hp (by omega)
theorem layP_at (hb : BOk g) (hg : PrtTo ps ps.length) (hn : Siz n n) (ht : tot ps ps.length = n) {k q : Nat} (hq : (q : Int) < (ps.getD k prtD).a) :
  ∀ {m : Nat}, k < m → m ≤ ps.length → ∀ {x y : Int}, Pl n n x y → tot ps k + (q : Int) * ordN (ps.getD k prtD).k ≤ x → x < tot ps k + (q : Int) * ordN (ps.getD k prtD).k + ordN (ps.getD k prtD).k →
   mat n (layP g d ps n m) x y = if tot ps k + (q : Int) * ordN (ps.getD k prtD).k ≤ y ∧ y < tot ps k + (q : Int) * ordN (ps.getD k prtD).k + ordN (ps.getD k prtD).k then ((g (ps.getD k prtD) d).getD (x - (tot ps k + (q : Int) * ordN (ps.getD k prtD).k)).toNat []).getD (y - (tot ps k + (q : Int) * ordN (ps.getD k prtD).k)).toNat 0 else 0
 | 0, hk, _, _, _, _, _, _ => by omega
 | m + 1, hk, hm, x, y, hp, hx1, hx2 => by
  have h1 := tot_mono (ps := ps) (k := m + 1) (m := ps.length) hm hg
  have h0 := (tot_rng (ps := ps) (k := m) fun q hq => hg q (by omega)).1
  obtain ⟨h2, h3⟩ := hb (ps.getD m prtD) d (partE_good (hg m (by omega))).1
  have h4 := ax_rng (hg m (by omega))
  have ha := toNat_a hg (show m < ps.length by omega)
  rw [tot] at h1
  have h5 : (((ps.getD m prtD).a.toNat : Nat) : Int) * ((g (ps.getD m prtD) d).length : Int) = (ps.getD m prtD).a * ordN (ps.getD m prtD).k := by rw [ha, h2]
  have hl : ((layP g d ps n m).length : Int) = n * n := by rw [layP_len]; have := hn.mul; omega
  by_cases e : m = k
  ·subst e
   rw [layP, layA_at hn hl (by omega) h3 (q := q) (by omega) (by rw [h5]; omega) hp (by rw [h2]; exact hx1) (by rw [h2]; exact hx2), h2]
   rw [layP_high hb hg hn ht (by omega) hp (by have := Int.mul_nonneg (show (0 : Int) ≤ q by omega) (ordN_rng (ps.getD m prtD).k).1; omega)]
  ·have h6 := tot_mono (ps := ps) (k := k + 1) (m := m) (by omega) fun q hq => hg q (by omega)
   have h7 : ((q : Int) + 1) * ordN (ps.getD k prtD).k ≤ (ps.getD k prtD).a * ordN (ps.getD k prtD).k := Int.mul_le_mul_of_nonneg_right (by omega) (ordN_rng _).1
   rw [Int.add_mul, Int.one_mul] at h7
   rw [tot] at h6
   rw [layP, layA_out hn hl (by omega) h3 (by rw [h5]; omega) hp (.inl (by omega))]
   exact layP_at hb hg hn ht hq (by omega) (by omega) hp hx1 hx2
theorem blk_of {x : Int} (h0 : 0 ≤ x) : ∀ {m : Nat}, x < tot ps m → PrtTo ps m → ∃ k q : Nat, k < m ∧ (q : Int) < (ps.getD k prtD).a ∧ tot ps k + (q : Int) * ordN (ps.getD k prtD).k ≤ x ∧ x < tot ps k + (q : Int) * ordN (ps.getD k prtD).k + ordN (ps.getD k prtD).k
 | 0, hx, _ => by rw [tot] at hx; omega
 | m + 1, hx, hg => by
  by_cases h : x < tot ps m
  ·obtain ⟨k, q, h1, h2⟩ := blk_of h0 h fun q hq => hg q (by omega)
   exact ⟨k, q, by omega, h2⟩
  ·rw [tot] at hx
   obtain ⟨h1, h2, h3, _⟩ := partE_good (hg m (by omega))
   have h4 := (ordN_rng (ps.getD m prtD).k).2
   refine ⟨m, ((x - tot ps m) / ordN (ps.getD m prtD).k).toNat, by omega, ?_⟩
   generalize ordN (ps.getD m prtD).k = L at *
   generalize (ps.getD m prtD).a = A at *
   have : L = 1 ∨ L = 2 ∨ L = 3 := by omega
   rcases this with rfl | rfl | rfl <;> omega
end
end Go.Bn
namespace Go.Bn
open Go
theorem all_getD2 {P : Nat → Prop} {B : List (List Nat)} (h : ∀ r, r ∈ B → ∀ v, v ∈ r → P v) (h0 : P 0) (u w : Nat) : P ((B.getD u []).getD w 0) := by
 by_cases hu : u < B.length
 ·have h1 := h _ (mem_getD [] hu)
  by_cases hw : w < (B.getD u []).length
  ·exact h1 _ (mem_getD 0 hw)
  ·have : (B.getD u []).getD w 0 = 0 := by rw [List.getD, List.getElem?_eq_none (by omega)]; rfl
   rw [this]; exact h0
 ·have : B.getD u [] = [] := by rw [List.getD, List.getElem?_eq_none (by omega)]; rfl
  rw [this]; exact h0
def Nil0 (x : Nat) : Prop := x = 0 ∨ x = NEG0
section
variable {ps : List Prt} {n : Int}
def WordP (ps : List Prt) : Prop := ∀ k, k < ps.length → (ps.getD k prtD).n < 2 ^ 64 ∧ (ps.getD k prtD).f < 2 ^ 64
theorem word_pcn {ls : List Prt} (h : GoodL ls) : WordP (ls.map pcn) := by
 intro k hk
 rw [List.length_map] at hk
 have e : (ls.map pcn).getD k prtD = pcn (ls.getD k prtD) := by simp [List.getD, List.getElem?_map, List.getElem?_eq_getElem hk]
 rw [e]
 have := goodL_at h hk
 exact ⟨cn_lt this.1, cn_lt this.2⟩
theorem lay_all {g : BF} {d : Nat} {P : Nat → Prop} (hb : BOk g) (hg : PrtTo ps ps.length) (hn : Siz n n) (ht : tot ps ps.length = n) (h0 : P 0) (h : ∀ k, k < ps.length → ∀ u w, P (((g (ps.getD k prtD) d).getD u []).getD w 0)) {x y : Int} (hp : Pl n n x y) : P (mat n (layP g d ps n ps.length) x y) := by
 obtain ⟨k, q, h1, h2, h3, h4⟩ := blk_of hp.1 (show x < tot ps ps.length by rw [ht]; exact hp.2.1) hg
 rw [layP_at hb hg hn ht h2 h1 (Nat.le_refl _) hp h3 h4]
 split
 ·exact h k h1 _ _
 ·exact h0
theorem lay_good {g : BF} {d : Nat} (hn : Siz n n) : Good n n (layP g d ps n ps.length) := ⟨hn, by rw [layP_len]; have := hn.mul; omega⟩
theorem siz_n (hm : motE ps = 0) (ht : tot ps ps.length = n) : Siz n n ∧ 1 ≤ n ∧ PrtTo ps ps.length := by
 obtain ⟨h0, hg, hl⟩ := mot_good hm
 have h3 := (tot_rng hg).1
 exact ⟨⟨by omega, by omega, by omega, by omega⟩, by omega, hg⟩
theorem sec_zero : (secR 0).a = 0 := by decide +kernel
end
end Go.Bn
namespace Go.Bn
open Go
def hsum (a b : Nat → Nat) : Nat → Nat
 | 0 => 0
 | l + 1 => hsum a b l + a l * b l / 2
end Go.Bn
namespace Go.Bn
open Go
def goodB (r c : Int) (xs : List Nat) (n : Int) : Bool := (decide (r = n) && decide (c = n)) && decide ((xs.length : Int) = n * n)
theorem goodB_ok {n : Int} {xs : List Nat} (h : (xs.length : Int) = n * n) : goodB n n xs n = true := by simp [goodB, h]
end Go.Bn
