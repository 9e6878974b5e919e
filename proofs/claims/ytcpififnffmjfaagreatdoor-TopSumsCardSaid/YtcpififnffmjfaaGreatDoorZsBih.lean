/-
 Whole numbers as lists of words of 64 bits. (Printed by a program of ours, big64.py, from those of 32 bits.)
-/
import Derived.Test.YtcpififnffmjfaaGreatDoorZsRne
set_option linter.unusedVariables false
set_option linter.unusedSimpArgs false
namespace Go.Bn
open Go
def magIJ : List Int → Int
 | [] => 0
 | x :: l => x + 18446744073709551616 * magIJ l
def DigJ (l : List Int) : Prop := ∀ z, z ∈ l → 0 ≤ z ∧ z < 18446744073709551616
def wpwJ (k : Nat) : Int := 18446744073709551616 ^ k
theorem wpw_zeroJ : wpwJ 0 = 1 := rfl
theorem wpw_succJ (k : Nat) : wpwJ (k + 1) = 18446744073709551616 * wpwJ k := by unfold wpwJ; rw [Int.pow_succ, Int.mul_comm]
theorem wpw_posJ : ∀ k : Nat, 1 ≤ wpwJ k
 | 0 => by rw [wpw_zeroJ]; omega
 | k + 1 => by have := wpw_posJ k; rw [wpw_succJ]; omega
theorem wpw_addJ (a b : Nat) : wpwJ (a + b) = wpwJ a * wpwJ b := by unfold wpwJ; exact Int.pow_add ..
theorem magI_appendJ : ∀ l m : List Int, magIJ (l ++ m) = magIJ l + wpwJ l.length * magIJ m
 | [], m => by simp [magIJ, wpw_zeroJ]
 | x :: l, m => by
  rw [List.cons_append, magIJ, magI_appendJ l m, magIJ, List.length_cons, wpw_succJ, Int.mul_add, Int.mul_assoc]
  omega
theorem magI_oneJ (z : Int) : magIJ [z] = z := by simp [magIJ]
theorem magI_snocJ (l : List Int) (z : Int) : magIJ (l ++ [z]) = magIJ l + wpwJ l.length * z := by rw [magI_appendJ, magI_oneJ]
theorem DigJ.tail {x : Int} {l : List Int} (h : DigJ (x :: l)) : DigJ l := fun z hz => h z (List.mem_cons_of_mem _ hz)
theorem DigJ.head {x : Int} {l : List Int} (h : DigJ (x :: l)) : 0 ≤ x ∧ x < 18446744073709551616 := h x (List.mem_cons_self ..)
theorem DigJ.at {l : List Int} (h : DigJ l) {k : Nat} (hk : k < l.length) : 0 ≤ l.getD k 0 ∧ l.getD k 0 < 18446744073709551616 := h _ (mem_getD 0 hk)
theorem DigJ.take {l : List Int} (h : DigJ l) (k : Nat) : DigJ (l.take k) := fun z hz => h z (List.mem_of_mem_take hz)
theorem DigJ.drop {l : List Int} (h : DigJ l) (k : Nat) : DigJ (l.drop k) := fun z hz => h z (List.mem_of_mem_drop hz)
theorem DigJ.set {l : List Int} (h : DigJ l) {k : Nat} {v : Int} (hv : 0 ≤ v ∧ v < 18446744073709551616) : DigJ (l.set k v) := fun z hz => by
 rcases List.mem_or_eq_of_mem_set hz with h1 | h1
 ·exact h z h1
 ·rw [h1]; exact hv
theorem dig_nilJ : DigJ [] := fun z hz => by cases hz
theorem dig_repJ (n : Nat) : DigJ (List.replicate n 0) := fun z hz => by rw [(List.mem_replicate.1 hz).2]; omega
theorem magI_repJ : ∀ n : Nat, magIJ (List.replicate n 0) = 0
 | 0 => rfl
 | n + 1 => by rw [List.replicate_succ, magIJ, magI_repJ n]; omega
theorem magI_nonnegJ : ∀ {l : List Int}, DigJ l → 0 ≤ magIJ l
 | [], _ => by simp [magIJ]
 | x :: l, h => by have := magI_nonnegJ h.tail; have := h.head; rw [magIJ]; omega
theorem magI_ltJ : ∀ {l : List Int}, DigJ l → magIJ l < wpwJ l.length
 | [], _ => by simp [magIJ, wpw_zeroJ]
 | x :: l, h => by have := magI_ltJ h.tail; have := h.head; rw [magIJ, List.length_cons, wpw_succJ]; omega
def limbsJ (n : Nat) : List Int := if h : n = 0 then [] else ((n % 18446744073709551616 : Nat) : Int) :: limbsJ (n / 18446744073709551616)
termination_by n
decreasing_by exact Nat.div_lt_self (by omega) (by omega)
theorem limbs_zeroJ : limbsJ 0 = [] := by rw [limbsJ]; simp
theorem limbs_posJ {n : Nat} (h : n ≠ 0) : limbsJ n = ((n % 18446744073709551616 : Nat) : Int) :: limbsJ (n / 18446744073709551616) := by rw [limbsJ]; simp [h]
theorem limbs_digJ : ∀ n : Nat, DigJ (limbsJ n) := by
 intro n
 induction n using Nat.strongRecOn with
 | _ n ih =>
  by_cases h : n = 0
  ·rw [h, limbs_zeroJ]; exact dig_nilJ
  ·rw [limbs_posJ h]
   intro z hz
   rcases List.mem_cons.1 hz with rfl | hz
   ·omega
   ·exact ih _ (Nat.div_lt_self (by omega) (by omega)) z hz
theorem limbs_magJ : ∀ n : Nat, magIJ (limbsJ n) = n := by
 intro n
 induction n using Nat.strongRecOn with
 | _ n ih =>
  by_cases h : n = 0
  ·rw [h, limbs_zeroJ]; rfl
  ·rw [limbs_posJ h, magIJ, ih _ (Nat.div_lt_self (by omega) (by omega))]
   omega
theorem limbs_len0J {n : Nat} : (limbsJ n).length = 0 ↔ n = 0 := by
 constructor
 ·intro h
  have := limbs_magJ n
  rw [List.length_eq_zero_iff.1 h, magIJ] at this
  omega
 ·rintro rfl; rw [limbs_zeroJ]; rfl
def TightJ (l : List Int) : Prop := l = [] ∨ l.getD (l.length - 1) 0 ≠ 0
theorem tight_tailJ {x y : Int} {l : List Int} (h : TightJ (x :: y :: l)) : TightJ (y :: l) := by
 rcases h with h | h
 ·cases h
 ·right
  simpa [List.getD] using h
theorem limbs_ofJ : ∀ {l : List Int}, DigJ l → TightJ l → limbsJ (magIJ l).toNat = l
  | [], _, _ => by simp [magIJ, limbs_zeroJ]
  | [x], hd, ht => by
    have h1 := hd.head
    have h2 : x ≠ 0 := by rcases ht with h | h; · cases h
                          · simpa using h
    rw [magI_oneJ, limbs_posJ (by omega), show x.toNat / 18446744073709551616 = 0 by omega, limbs_zeroJ]
    congr 1; omega
  | x :: y :: l, hd, ht => by
    have ih := limbs_ofJ hd.tail (tight_tailJ ht)
    have h1 := hd.head
    have h3 := magI_nonnegJ hd.tail
    have h4 : (magIJ (y :: l)).toNat ≠ 0 := by
      intro e
      rw [e, limbs_zeroJ] at ih
      cases ih
    rw [magIJ]
    generalize magIJ (y :: l) = m at *
    rw [limbs_posJ (by omega), show (x + 18446744073709551616 * m).toNat / 18446744073709551616 = m.toNat by omega, ih]
    congr 1; omega
theorem limbs_tightJ (n : Nat) : TightJ (limbsJ n) := by
 induction n using Nat.strongRecOn with
 | _ n ih =>
  by_cases h : n = 0
  ·left; rw [h, limbs_zeroJ]
  ·right
   have ih2 := ih _ (Nat.div_lt_self (show 0 < n by omega) (show 1 < 18446744073709551616 by omega))
   rw [limbs_posJ h]
   by_cases h2 : n / 18446744073709551616 = 0
   ·rw [h2, limbs_zeroJ]
    simp [List.getD]
    omega
   ·rcases ih2 with h3 | h3
    ·have := limbs_len0J (n := n / 18446744073709551616)
     rw [h3] at this
     simp at this
     omega
    ·have hl : 0 < (limbsJ (n / 18446744073709551616)).length := by
      rcases Nat.eq_zero_or_pos (limbsJ (n / 18446744073709551616)).length with h4 | h4
      ·exact absurd (limbs_len0J.1 h4) h2
      ·exact h4
     rw [List.length_cons, show (limbsJ (n / 18446744073709551616)).length + 1 - 1 = ((limbsJ (n / 18446744073709551616)).length - 1) + 1 by omega]
     simpa [List.getD] using h3
theorem cut_stepJ {l : List Int} {k : Nat} (hk : k < l.length) (hz : l.getD k 0 = 0) : magIJ (l.take k) = magIJ (l.take (k + 1)) := by
 rw [take_last hk, magI_snocJ, hz]; omega
theorem cut_doneJ {l : List Int} {k : Nat} (hd : DigJ l) (hk : k ≤ l.length) (hm : magIJ (l.take k) = magIJ l) (h : k = 0 ∨ l.getD (k - 1) 0 ≠ 0) : l.take k = limbsJ (magIJ l).toNat := by
 rw [← hm]
 refine (limbs_ofJ (hd.take k) ?_).symm
 by_cases h0 : k = 0
 ·left; rw [h0]; rfl
 ·right
  rcases h with h | h
  ·exact absurd h h0
  ·have e : (l.take k).length = k := by rw [List.length_take]; omega
   rw [e]
   obtain ⟨j, rfl⟩ : ∃ j, k = j + 1 := ⟨k - 1, by omega⟩
   rw [show j + 1 - 1 = j by omega] at h ⊢
   rw [getD_take_last (by omega)]
   exact h
theorem magI_setJ {l : List Int} {k : Nat} {v : Int} (hk : k < l.length) : magIJ ((l.set k v).take (k + 1)) = magIJ (l.take k) + wpwJ k * v := by
 rw [set_take hk, magI_snocJ, List.length_take, Nat.min_eq_left (by omega)]
theorem magI_takeJ {l : List Int} {k : Nat} (hk : k < l.length) : magIJ (l.take (k + 1)) = magIJ (l.take k) + wpwJ k * l.getD k 0 := by
 rw [take_last hk, magI_snocJ, List.length_take, Nat.min_eq_left (by omega)]
def digBJ (b : List Int) (k : Nat) : Int := if k < b.length then b.getD k 0 else 0
theorem digB_rngJ {b : List Int} (hb : DigJ b) (k : Nat) : 0 ≤ digBJ b k ∧ digBJ b k < 18446744073709551616 := by
 unfold digBJ
 split
 ·rename_i g; exact hb.at g
 ·omega
theorem digB_takeJ (b : List Int) (k : Nat) : magIJ (b.take (k + 1)) = magIJ (b.take k) + wpwJ k * digBJ b k := by
 unfold digBJ
 split
 ·rename_i g; exact magI_takeJ g
 ·rename_i g
  rw [magI_take_all (show b.length ≤ k + 1 by omega), magI_take_all (show b.length ≤ k by omega)]
  omega
structure MinIJ (a b l : List Int) (k : Nat) (c : Int) : Prop where
 hk : k ≤ a.length
 hl : l.length = a.length
 hd : DigJ l
 hc : 0 ≤ c ∧ c ≤ 1
 hm : magIJ (l.take k) = magIJ (a.take k) - magIJ (b.take k) + wpwJ k * c
theorem min_zeroJ {a b : List Int} {m : Nat} (hm : m = a.length) : MinIJ a b (List.replicate m 0) 0 0 := by
 subst hm
 exact ⟨Nat.zero_le _, by rw [List.length_replicate], dig_repJ _, by omega, by simp [magIJ]⟩
theorem min_stepJ {a b l : List Int} {k : Nat} {c v c' : Int} (ha : DigJ a) (hb : DigJ b) (h : MinIJ a b l k c) (hk : k < a.length) (hc : c' = 0 ∨ c' = 1) (hv : 0 ≤ v ∧ v < 18446744073709551616) (he : v = a.getD k 0 - (c + digBJ b k) + 18446744073709551616 * c') : MinIJ a b (l.set k v) (k + 1) c' := by
 obtain ⟨h1, h2, h3, h4, h5⟩ := h
 refine ⟨by omega, by rw [List.length_set]; exact h2, h3.set hv, by omega, ?_⟩
 rw [magI_setJ (by omega), magI_takeJ hk, digB_takeJ, wpw_succJ, h5]
 have e : wpwJ k * v = wpwJ k * a.getD k 0 - (wpwJ k * c + wpwJ k * digBJ b k) + 18446744073709551616 * wpwJ k * c' := by
  rw [he, Int.mul_add, Int.mul_sub, Int.mul_add, Int.mul_comm 18446744073709551616 (wpwJ k), Int.mul_assoc]
 omega
theorem min_doneJ {a b l : List Int} {k : Nat} {c : Int} (ha : DigJ a) (hb : DigJ b) (hab : b.length ≤ a.length) (hle : magIJ b ≤ magIJ a) (h : MinIJ a b l k c) (hk : k = a.length) : DigJ l ∧ magIJ l = magIJ a - magIJ b := by
 obtain ⟨h1, h2, h3, h4, h5⟩ := h
 subst hk
 rw [magI_take_all (by omega), magI_take_all (Nat.le_refl _), magI_take_all hab] at h5
 have h6 := magI_ltJ h3
 rw [h2] at h6
 have h7 : c = 0 := by
  rcases (show c = 0 ∨ c = 1 by omega) with h | h
  ·exact h
  ·subst h; omega
 subst h7
 exact ⟨h3, by omega⟩
theorem magI_splitJ {l : List Int} {j : Nat} (hj : j < l.length) : magIJ l = magIJ (l.take j) + wpwJ j * (l.getD j 0 + 18446744073709551616 * magIJ (l.drop (j + 1))) := by
 have e : l = l.take j ++ (l.getD j 0 :: l.drop (j + 1)) := by
  rw [List.getD, List.getElem?_eq_getElem hj, Option.getD_some, ← List.drop_eq_getElem_cons hj, List.take_append_drop]
 conv => lhs; rw [e]
 rw [magI_appendJ, magIJ, List.length_take, Nat.min_eq_left (by omega)]
theorem mag_lessJ {a b : List Int} {j : Nat} (ha : DigJ a) (hb : DigJ b) (hja : j < a.length) (hjb : j < b.length) (hd : a.drop (j + 1) = b.drop (j + 1)) (hlt : a.getD j 0 < b.getD j 0) : magIJ a < magIJ b := by
 have h1 := magI_ltJ (ha.take j)
 rw [List.length_take, Nat.min_eq_left (by omega)] at h1
 have h2 := magI_nonnegJ (hb.take j)
 rw [magI_splitJ hja, magI_splitJ hjb, hd]
 have h3 : wpwJ j * (a.getD j 0 + 1 + 18446744073709551616 * magIJ (b.drop (j + 1))) ≤ wpwJ j * (b.getD j 0 + 18446744073709551616 * magIJ (b.drop (j + 1))) := Int.mul_le_mul_of_nonneg_left (by omega) (by have := wpw_posJ j; omega)
 rw [show a.getD j 0 + 1 + 18446744073709551616 * magIJ (b.drop (j + 1)) = (a.getD j 0 + 18446744073709551616 * magIJ (b.drop (j + 1))) + 1 by omega, Int.mul_add, Int.mul_one] at h3
 omega
theorem wpw_monoJ {a b : Nat} (h : a ≤ b) : wpwJ a ≤ wpwJ b := by
 obtain ⟨d, rfl⟩ : ∃ d, b = a + d := ⟨b - a, by omega⟩
 rw [wpw_addJ]
 have h1 := wpw_posJ a
 have h2 := wpw_posJ d
 have := Int.mul_le_mul_of_nonneg_left (show (1 : Int) ≤ wpwJ d by omega) (show (0 : Int) ≤ wpwJ a by omega)
 omega
theorem tight_geJ {l : List Int} (hd : DigJ l) (ht : TightJ l) (h0 : 0 < l.length) : wpwJ (l.length - 1) ≤ magIJ l := by
 rcases ht with ht | ht
 ·rw [ht] at h0; simp at h0
 ·have h1 := hd.at (k := l.length - 1) (by omega)
  have h2 := magI_nonnegJ (hd.take (l.length - 1))
  have h3 := magI_nonnegJ (hd.drop (l.length - 1 + 1))
  rw [magI_splitJ (l := l) (j := l.length - 1) (by omega)]
  have h4 := wpw_posJ (l.length - 1)
  have h5 := Int.mul_le_mul_of_nonneg_left (show (1 : Int) ≤ l.getD (l.length - 1) 0 + 18446744073709551616 * magIJ (l.drop (l.length - 1 + 1)) by omega) (show (0 : Int) ≤ wpwJ (l.length - 1) by omega)
  omega
theorem len_lessJ {x y : Nat} (h : (limbsJ x).length < (limbsJ y).length) : x < y := by
 have h1 := magI_ltJ (limbs_digJ x)
 have h2 := tight_geJ (limbs_digJ y) (limbs_tightJ y) (by omega)
 rw [limbs_magJ] at h1 h2
 have h3 := wpw_monoJ (show (limbsJ x).length ≤ (limbsJ y).length - 1 by omega)
 omega
theorem cmpN_1J {x y : Nat} (h : (limbsJ x).length < (limbsJ y).length) : -1 = cmpN x y := by
 have := len_lessJ h
 unfold cmpN; rw [if_pos this]
theorem cmpN_2J {x y : Nat} (h : (limbsJ y).length < (limbsJ x).length) : 1 = cmpN x y := by
 have := len_lessJ h
 unfold cmpN; rw [if_neg (by omega), if_pos this]
theorem cmpN_3J {x y k : Nat} (hl : (limbsJ x).length = (limbsJ y).length) (h : TopI (limbsJ x) (limbsJ y) (k + 1)) (h1 : (limbsJ x).getD k 0 < (limbsJ y).getD k 0) : -1 = cmpN x y := by
 obtain ⟨g1, g2⟩ := h
 have := mag_lessJ (limbs_digJ x) (limbs_digJ y) (by omega) (by omega) g2 h1
 rw [limbs_magJ, limbs_magJ] at this
 unfold cmpN; rw [if_pos (by omega)]
theorem cmpN_4J {x y k : Nat} (hl : (limbsJ x).length = (limbsJ y).length) (h : TopI (limbsJ x) (limbsJ y) (k + 1)) (h1 : (limbsJ y).getD k 0 < (limbsJ x).getD k 0) : 1 = cmpN x y := by
 obtain ⟨g1, g2⟩ := h
 have := mag_lessJ (limbs_digJ y) (limbs_digJ x) (by omega) (by omega) g2.symm h1
 rw [limbs_magJ, limbs_magJ] at this
 unfold cmpN; rw [if_neg (by omega), if_pos (by omega)]
theorem cmpN_5J {x y k : Nat} (h : TopI (limbsJ x) (limbsJ y) k) (hk : k = 0) : 0 = cmpN x y := by
 subst hk
 obtain ⟨_, g2⟩ := h
 rw [List.drop_zero, List.drop_zero] at g2
 have e := congrArg magIJ g2
 rw [limbs_magJ, limbs_magJ] at e
 unfold cmpN; rw [if_neg (by omega), if_neg (by omega)]
theorem cut_magJ {l : List Int} {k : Nat} (hk : k ≤ l.length) (h0 : 0 < k) (hz : l.getD (k - 1) 0 = 0) (hm : magIJ (l.take k) = magIJ l) : magIJ (l.take (k - 1)) = magIJ l := by
 obtain ⟨j, rfl⟩ : ∃ j, k = j + 1 := ⟨k - 1, by omega⟩
 rw [show j + 1 - 1 = j by omega] at hz ⊢
 rw [cut_stepJ (by omega) hz]
 exact hm
structure LefIJ (m l : List Int) (w : Nat) (p : Int) (i : Nat) : Prop where
 hi : i ≤ m.length
 hl : l.length = w + m.length + 1
 hd : DigJ l
 hz : ∀ j, w + i < j → l.getD j 0 = 0
 hp : l.getD (w + i) 0 < p
 hm : magIJ (l.take (w + i + 1)) = wpwJ w * (p * magIJ (m.take i))
theorem lef_zeroJ {m : List Int} {w n : Nat} {p : Int} (hn : n = w + m.length + 1) (hp : 1 ≤ p) : LefIJ m (List.replicate n 0) w p 0 := by
 subst hn
 have e : ∀ j, (List.replicate (w + m.length + 1) (0 : Int)).getD j 0 = 0 := fun j => by
  rw [List.getD, List.getElem?_replicate]; split <;> rfl
 refine ⟨Nat.zero_le _, by rw [List.length_replicate], dig_repJ _, fun j _ => e j, by rw [e]; omega, ?_⟩
 rw [List.take_replicate, magI_repJ]
 simp [magIJ]
theorem lef_partsJ {x p q : Int} (hx : 0 ≤ x ∧ x < 18446744073709551616) (hp : 1 ≤ p) (hq : 1 ≤ q) (hpq : p * q = 18446744073709551616) : 0 ≤ (x * p) % 18446744073709551616 ∧ (x * p) % 18446744073709551616 ≤ 18446744073709551616 - p ∧ 0 ≤ (x * p) / 18446744073709551616 ∧ (x * p) / 18446744073709551616 < p ∧ (x * p) % 18446744073709551616 = p * (x % q) := by
 have e1 : (x * p) % 18446744073709551616 = p * (x % q) := by rw [← hpq, Int.mul_comm x p, Int.mul_emod_mul_of_pos _ _ (by omega)]
 have e2 : (x * p) / 18446744073709551616 = x / q := by rw [← hpq, Int.mul_comm x p, Int.mul_ediv_mul_of_pos _ _ (by omega)]
 have h1 := Int.emod_nonneg x (show q ≠ 0 by omega)
 have h2 := Int.emod_lt_of_pos x (show 0 < q by omega)
 have h3 : 0 ≤ p * (x % q) := Int.mul_nonneg (by omega) h1
 have h4 : p * (x % q + 1) ≤ p * q := Int.mul_le_mul_of_nonneg_left (by omega) (by omega)
 rw [Int.mul_add, Int.mul_one] at h4
 have h5 : 0 ≤ x / q := Int.ediv_nonneg hx.1 (by omega)
 have h6 : x / q < p := Int.ediv_lt_of_lt_mul (by omega) (by rw [hpq]; exact hx.2)
 rw [e1, e2]
 omega
theorem lef_stepJ {m l : List Int} {w i : Nat} {p q x t : Int} (hm : DigJ m) (h : LefIJ m l w p i) (hi : i < m.length) (hp : 1 ≤ p) (hq : 1 ≤ q) (hpq : p * q = 18446744073709551616) (hx : x = m.getD i 0) (ht : t = x * p) :
  LefIJ m ((l.set (w + i) (l.getD (w + i) 0 + t % 18446744073709551616)).set (w + i + 1) (t / 18446744073709551616)) w p (i + 1) := by
 obtain ⟨h1, h2, h3, h4, h5, h6⟩ := h
 have g1 := hm.at hi
 rw [← hx] at g1
 obtain ⟨b1, b2, b3, b4, _⟩ := lef_partsJ g1 hp hq hpq
 rw [← ht] at b1 b2 b3 b4
 have g2 := h3.at (k := w + i) (by omega)
 have d1 : DigJ (l.set (w + i) (l.getD (w + i) 0 + t % 18446744073709551616)) := h3.set (by omega)
 refine ⟨by omega, by rw [List.length_set, List.length_set]; exact h2, d1.set (by omega), fun j hj => ?_, ?_, ?_⟩
 ·rw [getD_set_ne (by omega), getD_set_ne (by omega)]
  exact h4 j (by omega)
 ·rw [show w + (i + 1) = w + i + 1 by omega, getD_set_eq (by rw [List.length_set]; omega)]
  exact b4
 ·rw [show w + (i + 1) + 1 = w + i + 1 + 1 by omega, magI_setJ (by rw [List.length_set]; omega), magI_setJ (by omega)]
  rw [magI_takeJ (show w + i < l.length by omega)] at h6
  have e2 : wpwJ (w + i) * (t % 18446744073709551616) + wpwJ (w + i + 1) * (t / 18446744073709551616) = wpwJ (w + i) * t := by
   have := Int.emod_add_mul_ediv t 18446744073709551616
   rw [wpw_succJ, Int.mul_comm 18446744073709551616 (wpwJ (w + i)), Int.mul_assoc, ← Int.mul_add, this]
  have e3 : wpwJ w * (p * magIJ (m.take (i + 1))) = wpwJ w * (p * magIJ (m.take i)) + wpwJ (w + i) * t := by
   rw [magI_takeJ hi, ← hx, ht, Int.mul_add, Int.mul_add, wpw_addJ, Int.mul_assoc (wpwJ w) (wpwJ i), Int.mul_comm x p, Int.mul_left_comm p (wpwJ i)]
  rw [e3, ← h6, Int.mul_add]
  omega
theorem lef_doneJ {m l : List Int} {w i : Nat} {p : Int} (h : LefIJ m l w p i) (hi : i = m.length) : DigJ l ∧ magIJ l = wpwJ w * (p * magIJ m) := by
 subst hi
 have := h.hm
 rw [magI_take_all (by rw [h.hl]; exact Nat.le_refl _), magI_take_all (Nat.le_refl _)] at this
 exact ⟨h.hd, this⟩
theorem pow_32J {s : Nat} (hs : s < 64) : (1 : Int) ≤ 2 ^ s ∧ (1 : Int) ≤ 2 ^ (64 - s) ∧ (2 : Int) ^ s * 2 ^ (64 - s) = 18446744073709551616 ∧ (2 : Int) ^ s ≤ 9223372036854775808 := by
 have : ∀ s : Nat, s < 64 → (1 : Int) ≤ 2 ^ s ∧ (1 : Int) ≤ 2 ^ (64 - s) ∧ (2 : Int) ^ s * 2 ^ (64 - s) = 18446744073709551616 ∧ (2 : Int) ^ s ≤ 9223372036854775808 := by decide +kernel
 exact this s hs
theorem wpw_twoJ (w s : Nat) : wpwJ w * 2 ^ s = 2 ^ (64 * w + s) := by
 unfold wpwJ
 rw [Int.pow_add, Int.pow_mul]
 rfl
theorem limbs_lenJ {x k : Nat} (h : (x : Int) < wpwJ k) : (limbsJ x).length ≤ k := by
 rcases Nat.eq_zero_or_pos (limbsJ x).length with h0 | h0
 ·omega
 ·have h1 := tight_geJ (limbs_digJ x) (limbs_tightJ x) h0
  rw [limbs_magJ] at h1
  by_cases hc : (limbsJ x).length ≤ k
  ·exact hc
  ·have := wpw_monoJ (show k ≤ (limbsJ x).length - 1 by omega)
   omega
theorem lef_valJ (n : Nat) (M : Int) : wpwJ (n / 64) * (2 ^ (n % 64) * M) = M * 2 ^ n := by
 rw [← Int.mul_assoc, wpw_twoJ, show 64 * (n / 64) + n % 64 = n by omega, Int.mul_comm]
abbrev intCJ (z : Int) : List SP := [isv (.bool (decide (z < 0))), ils .u64 (limbsJ z.natAbs)]
abbrev intPJ (z : Int) : SP := ptp (intCJ z)
theorem put_cellsJ (b : Bool) (M : Nat) : [isv (.bool (b && cmpB .gtr (((limbsJ M).length : Nat) : Int) 0)), ils .u64 (limbsJ M)] = intCJ (sgnI b M) := by
 have e : (b && cmpB .gtr (((limbsJ M).length : Nat) : Int) 0) = decide (sgnI b M < 0) := by
  have h := limbs_len0J (n := M)
  unfold sgnI
  by_cases h0 : M = 0
  ·subst h0
   rw [h.2 rfl]
   cases b <;> decide
  ·have h1 : (limbsJ M).length ≠ 0 := fun e => h0 (h.1 e)
   cases b
   ·simp
   ·simp [cmpB]; omega
 rw [e]
 show _ = [_, ils .u64 (limbsJ (sgnI b M).natAbs)]
 rw [sgnI_abs]
structure SmlJ (x : Int) : Prop where
 h : ((x.natAbs : Nat) : Int) < wpwJ 4000
theorem sml_lenJ {x : Int} (h : SmlJ x) : (limbsJ x.natAbs).length ≤ 1000000 := Nat.le_trans (limbs_lenJ h.h) (by omega)
theorem mag_addJ (x y : Nat) : (magIJ (limbsJ x) + magIJ (limbsJ y)).toNat = x + y := by rw [limbs_magJ, limbs_magJ]; omega
theorem mag_subJ {x y : Nat} (h : y ≤ x) : (magIJ (limbsJ x) - magIJ (limbsJ y)).toNat = x - y := by rw [limbs_magJ, limbs_magJ]; omega
theorem mag_shlJ (x n : Nat) : (magIJ (limbsJ x) * 2 ^ n).toNat = x * 2 ^ n := by
 rw [limbs_magJ]
 have e : (x : Int) * 2 ^ n = ((x * 2 ^ n : Nat) : Int) := by rw [Int.natCast_mul]; simp
 rw [e]; omega
theorem len_leJ {x y : Nat} (h : y ≤ x) : (limbsJ y).length ≤ (limbsJ x).length := by
 by_cases hc : (limbsJ y).length ≤ (limbsJ x).length
 ·exact hc
 ·have := len_lessJ (x := x) (y := y) (by omega); omega
theorem mag_leJ {x y : Nat} (h : y ≤ x) : magIJ (limbsJ y) ≤ magIJ (limbsJ x) := by rw [limbs_magJ, limbs_magJ]; omega
def rgtDJ (m : List Int) (w s i : Nat) : Int := ((m.getD (w + i) 0 + 18446744073709551616 * m.getD (w + i + 1) 0) / 2 ^ s) % 18446744073709551616
def rgtLJ (m : List Int) (w s : Nat) : List Int := (List.range (m.length - w)).map (rgtDJ m w s)
theorem length_rgtLJ (m : List Int) (w s : Nat) : (rgtLJ m w s).length = m.length - w := by unfold rgtLJ; simp
theorem rgtL_digJ (m : List Int) (w s : Nat) : DigJ (rgtLJ m w s) := fun z hz => by
 unfold rgtLJ at hz
 obtain ⟨i, _, rfl⟩ := List.mem_map.1 hz
 unfold rgtDJ
 omega
def shrLJ (s : Nat) : List Int → List Int
 | [] => []
 | x :: t => (((x + 18446744073709551616 * t.getD 0 0) / 2 ^ s) % 18446744073709551616) :: shrLJ s t
theorem shrL_lengthJ (s : Nat) : ∀ l : List Int, (shrLJ s l).length = l.length
 | [] => rfl
 | x :: t => by simp [shrLJ, shrL_lengthJ s t]
theorem shrL_atJ (s : Nat) : ∀ (l : List Int) (i : Nat), i < l.length → (shrLJ s l).getD i 0 = ((l.getD i 0 + 18446744073709551616 * l.getD (i + 1) 0) / 2 ^ s) % 18446744073709551616
 | [], i, h => by simp at h
 | x :: t, 0, _ => by simp [shrLJ, List.getD]
 | x :: t, i + 1, h => by
  have := shrL_atJ s t i (by simpa using h)
  simpa [shrLJ, List.getD] using this
theorem magI_shrJ (s : Nat) (hs : s < 64) : ∀ {l : List Int}, DigJ l → magIJ (shrLJ s l) = magIJ l / 2 ^ s
 | [], _ => by simp [shrLJ, magIJ]
 | x :: t, h => by
  obtain ⟨h1, h2, h3, _⟩ := pow_32J hs
  have hx := h.head
  have ih := magI_shrJ s hs h.tail
  have hT := magI_nonnegJ h.tail
  have hh : ∃ r : Int, magIJ t = t.getD 0 0 + 18446744073709551616 * r := by
   cases t with
   | nil => exact ⟨0, by simp [magIJ]⟩
   | cons y t => exact ⟨magIJ t, by simp [magIJ]⟩
  obtain ⟨r, hr⟩ := hh
  rw [shrLJ, magIJ, magIJ, ih]
  generalize (2 : Int) ^ s = q at *
  generalize (2 : Int) ^ (64 - s) = p at *
  generalize t.getD 0 0 = y at *
  generalize magIJ t = T at *
  have hq : 0 < q := by omega
  have e1 := Int.emod_add_mul_ediv T q
  have b1 := Int.emod_nonneg T (show q ≠ 0 by omega)
  have b2 := Int.emod_lt_of_pos T hq
  have e2 : T % q = y % q := by
   rw [hr, show (18446744073709551616 : Int) * r = q * (p * r) by rw [← Int.mul_assoc, h3], Int.add_mul_emod_self_left]
  have e3 := Int.emod_add_mul_ediv y q
  rw [← e2] at e3
  generalize T % q = b at *
  generalize T / q = a at *
  generalize y / q = a' at *
  have f1 : (x + 18446744073709551616 * T) / q = 18446744073709551616 * a + (x + 18446744073709551616 * b) / q := by
   rw [← e1, show x + 18446744073709551616 * (b + q * a) = (x + 18446744073709551616 * b) + q * (18446744073709551616 * a) by rw [Int.mul_add, Int.mul_left_comm]; omega, Int.add_mul_ediv_left _ _ (by omega)]
   omega
  have f2 : (x + 18446744073709551616 * y) / q = 18446744073709551616 * a' + (x + 18446744073709551616 * b) / q := by
   rw [← e3, show x + 18446744073709551616 * (b + q * a') = (x + 18446744073709551616 * b) + q * (18446744073709551616 * a') by rw [Int.mul_add, Int.mul_left_comm]; omega, Int.add_mul_ediv_left _ _ (by omega)]
   omega
  have f3 : 0 ≤ (x + 18446744073709551616 * b) / q := Int.ediv_nonneg (by omega) (by omega)
  have f4 : (x + 18446744073709551616 * b) / q < 18446744073709551616 := by
   refine Int.ediv_lt_of_lt_mul hq ?_
   have : 18446744073709551616 * (b + 1) ≤ 18446744073709551616 * q := Int.mul_le_mul_of_nonneg_left (by omega) (by omega)
   omega
  rw [f1, f2]
  omega
theorem rgtL_shrJ (m : List Int) (w s : Nat) : rgtLJ m w s = shrLJ s (m.drop w) := by
 apply List.ext_getElem
 ·rw [length_rgtLJ, shrL_lengthJ, List.length_drop]
 ·intro i h1 h2
  have h0 := h1
  rw [length_rgtLJ] at h0
  have g1 : (shrLJ s (m.drop w)).getD i 0 = (shrLJ s (m.drop w))[i] := by
   rw [List.getD, List.getElem?_eq_getElem h2]; rfl
  have g2 : (rgtLJ m w s)[i] = rgtDJ m w s i := by
   have : (rgtLJ m w s)[i]? = some (rgtDJ m w s i) := by unfold rgtLJ; rw [List.getElem?_map, List.getElem?_range (by omega)]; rfl
   rw [List.getElem?_eq_getElem h1] at this
   exact Option.some.inj this
  rw [← g1, g2, shrL_atJ s _ i (by rw [List.length_drop]; exact h0)]
  unfold rgtDJ
  have d : ∀ j, (m.drop w).getD j 0 = m.getD (w + j) 0 := fun j => by rw [List.getD, List.getD, List.getElem?_drop]
  rw [d, d, Nat.add_assoc]
theorem magI_atJ {m : List Int} {w : Nat} (hw : w ≤ m.length) : magIJ m = magIJ (m.take w) + wpwJ w * magIJ (m.drop w) := by
 have := magI_appendJ (m.take w) (m.drop w)
 rw [List.take_append_drop, List.length_take, Nat.min_eq_left hw] at this
 exact this
theorem rgt_magJ {m : List Int} {n : Nat} (hm : DigJ m) (hw : n / 64 < m.length) : magIJ (rgtLJ m (n / 64) (n % 64)) = magIJ m / 2 ^ n := by
 rw [rgtL_shrJ, magI_shrJ _ (Nat.mod_lt _ (by omega)) (hm.drop _)]
 have e1 := magI_atJ (m := m) (w := n / 64) (by omega)
 have e2 : (2 : Int) ^ n = wpwJ (n / 64) * 2 ^ (n % 64) := by rw [wpw_twoJ, show 64 * (n / 64) + n % 64 = n by omega]
 have h1 := magI_nonnegJ (hm.take (n / 64))
 have h2 := magI_ltJ (hm.take (n / 64))
 rw [List.length_take, Nat.min_eq_left (by omega)] at h2
 have h3 := wpw_posJ (n / 64)
 have h4 : magIJ m / wpwJ (n / 64) = magIJ (m.drop (n / 64)) := by
  rw [e1, Int.add_mul_ediv_left _ _ (by omega), Int.ediv_eq_zero_of_lt h1 h2]
  omega
 rw [e2, ← Int.ediv_ediv_of_nonneg (by omega), h4]
def rgtPJ (m : List Int) (w s i : Nat) : List Int := (rgtLJ m w s).take i ++ List.replicate (m.length - w - i) 0
theorem rgtP_zeroJ (m : List Int) (w s : Nat) : rgtPJ m w s 0 = List.replicate (m.length - w) 0 := by unfold rgtPJ; simp
theorem length_rgtPJ {m : List Int} {w s i : Nat} (hi : i ≤ m.length - w) : (rgtPJ m w s i).length = m.length - w := by
 unfold rgtPJ
 rw [List.length_append, List.length_take, length_rgtLJ, List.length_replicate]
 omega
theorem rgtP_setJ {m : List Int} {w s i : Nat} {z : Int} (hi : i < m.length - w) (hz : z = rgtDJ m w s i) : (rgtPJ m w s i).set i z = rgtPJ m w s (i + 1) := by
 unfold rgtPJ
 have e : ((rgtLJ m w s).take i).length = i := by rw [List.length_take, length_rgtLJ]; omega
 rw [List.set_append_right _ _ (by omega), e, Nat.sub_self, show m.length - w - i = (m.length - w - (i + 1)) + 1 by omega, List.replicate_succ, List.set_cons_zero]
 rw [take_snoc 0 (show i < (rgtLJ m w s).length by rw [length_rgtLJ]; exact hi), List.append_assoc]
 congr 2
 rw [hz]
 unfold rgtLJ
 rw [List.getD, List.getElem?_map, List.getElem?_range (by omega)]
 rfl
theorem rgtP_allJ {m : List Int} {w s i : Nat} (hi : i = m.length - w) : rgtPJ m w s i = rgtLJ m w s := by
 unfold rgtPJ
 rw [hi, Nat.sub_self, List.take_of_length_le (by rw [length_rgtLJ]; exact Nat.le_refl _)]
 simp
theorem mag_shrJ (x n : Nat) : (magIJ (limbsJ x) / 2 ^ n).toNat = x / 2 ^ n := by
 rw [limbs_magJ]
 have : (2 : Int) ^ n = ((2 ^ n : Nat) : Int) := by simp
 rw [this, ← Int.natCast_ediv, Int.toNat_natCast]
theorem bl_topJ (n : Nat) : (bl n : Int) = if (limbsJ n).length = 0 then 0 else 64 * ((limbsJ n).length - 1 : Int) + (bl ((limbsJ n).getD ((limbsJ n).length - 1) 0).toNat : Int) := by
 by_cases h0 : (limbsJ n).length = 0
 ·rw [if_pos h0]; rw [limbs_len0J] at h0; rw [h0]; rfl
 ·rw [if_neg h0]
  obtain ⟨k, hk⟩ : ∃ k, (limbsJ n).length = k + 1 := ⟨(limbsJ n).length - 1, by omega⟩
  have hd := limbs_digJ n
  have ht := limbs_tightJ n
  have g1 := hd.at (k := k) (by omega)
  have g2 : (limbsJ n).getD k 0 ≠ 0 := by
   rcases ht with h | h
   ·rw [h] at h0; exact (h0 rfl).elim
   ·rw [hk] at h; exact h
  have e1 := magI_takeJ (l := limbsJ n) (k := k) (by omega)
  rw [List.take_of_length_le (by omega), limbs_magJ] at e1
  have a1 := magI_nonnegJ (hd.take k)
  have a2 := magI_ltJ (hd.take k)
  rw [List.length_take, Nat.min_eq_left (by omega)] at a2
  obtain ⟨t, htt⟩ : ∃ t : Nat, (limbsJ n).getD k 0 = t := ⟨((limbsJ n).getD k 0).toNat, by omega⟩
  rw [hk, show k + 1 - 1 = k by omega, htt, Int.toNat_natCast]
  rw [htt] at e1 g2
  have ew : wpwJ k = ((2 ^ (64 * k) : Nat) : Int) := by
   have := wpw_twoJ k 0
   simp only [Int.pow_zero, Int.mul_one, Nat.add_zero] at this
   rw [this]; simp
  rw [ew] at e1 a2
  obtain ⟨lo, hlo⟩ : ∃ lo : Nat, magIJ ((limbsJ n).take k) = lo := ⟨_, (Int.toNat_of_nonneg a1).symm⟩
  rw [hlo] at e1 a2
  have e2 : n = lo + 2 ^ (64 * k) * t := by rw [← Int.natCast_mul] at e1; omega
  have hp := Nat.two_pow_pos (64 * k)
  have e3 : n / 2 ^ (64 * k) = t := by
   rw [e2, Nat.add_mul_div_left _ _ hp, Nat.div_eq_of_lt (by omega)]
   omega
  have h1 : 2 ^ (64 * k) * 1 ≤ 2 ^ (64 * k) * t := Nat.mul_le_mul_left _ (by omega)
  have := bl_shr (t := n) (k := 64 * k) (by omega)
  rw [e3] at this
  omega
theorem limbs_0J (n : Nat) : (limbsJ n).getD 0 0 = ((n % 18446744073709551616 : Nat) : Int) := by
 by_cases h : n = 0
 ·rw [h, limbs_zeroJ]; rfl
 ·rw [limbs_posJ h]; rfl
theorem rgt_endJ {m : List Int} {n i : Nat} (hm : DigJ m) (hw : ¬ (m.length : Int) ≤ ((n / 64 : Nat) : Int)) (hi : i = m.length - n / 64) : magIJ (rgtPJ m (n / 64) (n % 64) i) = magIJ m / 2 ^ n := by
 rw [rgtP_allJ hi, rgt_magJ hm (by omega)]
theorem rgtP_digJ (m : List Int) (w s i : Nat) : DigJ (rgtPJ m w s i) := fun z hz => by
 unfold rgtPJ at hz
 rcases List.mem_append.1 hz with h | h
 ·exact rgtL_digJ m w s z (List.mem_of_mem_take h)
 ·rw [(List.mem_replicate.1 h).2]; omega
theorem bl_limbsJ {n : Nat} (h : (limbsJ n).length = 0) : 0 = (bl n : Int) := by rw [limbs_len0J] at h; rw [h]; rfl
theorem bl_limbs2J {n : Nat} (h : ¬ (limbsJ n).length = 0) : 64 * (((limbsJ n).length : Int) - 1) + (bl ((limbsJ n).getD ((limbsJ n).length - 1 : Int).toNat 0).toNat : Int) = (bl n : Int) := by
 rw [bl_topJ n, if_neg h, show ((limbsJ n).length - 1 : Int).toNat = (limbsJ n).length - 1 by omega]
theorem bit_andJ (x : Nat) : bitsOf .and .u64 ((limbsJ x).getD 0 0) 1 = ((x % 2 : Nat) : Int) := by
 rw [limbs_0J]
 have h := Nat.mod_lt x (show 0 < 18446744073709551616 by decide)
 have e1 : (BitVec.ofInt 64 ((x % 18446744073709551616 : Nat) : Int)).toNat = x % 18446744073709551616 := by simp [BitVec.toNat_ofInt]; omega
 have e3 : bitsOf .and .u64 ((x % 18446744073709551616 : Nat) : Int) 1 = IntKind.u64.wrap (((BitVec.ofInt 64 ((x % 18446744073709551616 : Nat) : Int)) &&& (BitVec.ofInt 64 (1 : Int))).toNat : Int) := rfl
 rw [e3, BitVec.toNat_and, e1]
 rw [show (BitVec.ofInt 64 (1 : Int)).toNat = 2 ^ 1 - 1 by decide, and_pow, wu64]
 omega
def tzNJ (n : Nat) : Nat := if h : n = 0 then 0 else if n % 2 = 1 then 0 else tzNJ (n / 2) + 1
termination_by n
decreasing_by omega
theorem tzN_oddJ {n : Nat} (h : n % 2 = 1) : tzNJ n = 0 := by
 rw [tzNJ]
 simp [h]
theorem tzN_twoJ {n : Nat} (h : n ≠ 0) : tzNJ (2 * n) = tzNJ n + 1 := by
 rw [tzNJ, dif_neg (by omega), if_neg (by omega), Nat.mul_div_cancel_left _ (by omega)]
theorem tzN_powJ {n : Nat} (h : n ≠ 0) : ∀ k, tzNJ (2 ^ k * n) = k + tzNJ n
 | 0 => by rw [Nat.pow_zero, Nat.one_mul, Nat.zero_add]
 | k + 1 => by
  rw [Nat.pow_succ, Nat.mul_comm (2 ^ k) 2, Nat.mul_assoc, tzN_twoJ (Nat.mul_ne_zero (by have := Nat.two_pow_pos k; omega) h), tzN_powJ h k]
  omega
theorem tzN_ofJ : ∀ {n : Nat}, n ≠ 0 → ∃ m, n = 2 ^ tzNJ n * (2 * m + 1) := by
 intro n
 induction n using Nat.strongRecOn with
 | ind n ih =>
  intro h
  by_cases h1 : n % 2 = 1
  ·refine ⟨n / 2, ?_⟩
   rw [tzN_oddJ h1, Nat.pow_zero, Nat.one_mul]
   omega
  ·obtain ⟨m, hm⟩ := ih (n / 2) (by omega) (by omega)
   refine ⟨m, ?_⟩
   have e : n = 2 * (n / 2) := by omega
   have e2 : tzNJ n = tzNJ (n / 2) + 1 := by have := tzN_twoJ (n := n / 2) (by omega); rw [← e] at this; exact this
   rw [e2, Nat.pow_succ, Nat.mul_comm _ 2, Nat.mul_assoc, ← hm]
   exact e
theorem low_bitJ {k m : Nat} (h : 2 ^ k * (2 * m + 1) < 2 ^ 64) : (2 ^ k * (2 * m + 1)) &&& (2 ^ 64 - 2 ^ k * (2 * m + 1)) = 2 ^ k := by
 have hp := Nat.two_pow_pos k
 obtain ⟨q, hq⟩ : ∃ q, 2 ^ k * (2 * m + 1) = q + 1 := ⟨2 ^ k * (2 * m + 1) - 1, by have := Nat.mul_pos hp (show 0 < 2 * m + 1 by omega); omega⟩
 have hk : k < 64 := by
  refine (Nat.pow_lt_pow_iff_right (show 1 < 2 by omega)).1 (Nat.lt_of_le_of_lt ?_ h)
  exact Nat.le_mul_of_pos_right _ (by omega)
 have eq1 : q = 2 ^ k * (2 * m) + (2 ^ k - 1) := by
  rw [Nat.mul_add, Nat.mul_one] at hq
  omega
 refine Nat.eq_of_testBit_eq fun i => ?_
 rw [Nat.testBit_and, Nat.testBit_two_pow]
 conv => lhs; rhs; rw [hq]
 rw [Nat.testBit_two_pow_sub_succ (by rw [hq] at h; omega), Nat.testBit_two_pow_mul, eq1, Nat.testBit_two_pow_mul_add _ (by omega)]
 by_cases h1 : i < k
 ·have e1 : decide (k ≤ i) = false := by simp; omega
  have e2 : decide (k = i) = false := by simp; omega
  rw [e1, e2]; simp
 ·by_cases h2 : i = k
  ·subst h2
   have e1 : (2 * m + 1).testBit 0 = true := by simp
   have e2 : (2 * m).testBit 0 = false := by simp
   rw [Nat.sub_self, if_neg h1, e1, e2]
   simp
   omega
  ·have e2 : decide (k = i) = false := by simp; omega
   obtain ⟨j, hj⟩ : ∃ j, i - k = j + 1 := ⟨i - k - 1, by omega⟩
   have e3 : (2 * m + 1).testBit (j + 1) = m.testBit j := by rw [Nat.testBit_succ]; congr 1; omega
   have e4 : (2 * m).testBit (j + 1) = m.testBit j := by rw [Nat.testBit_succ]; congr 1; omega
   rw [if_neg h1, hj, e2, e3, e4]
   cases m.testBit j <;> simp
theorem deb_atJ : ∀ k : Nat, k < 64 → deb.getD ((2 ^ k * 285870213051353865) % 18446744073709551616 / 288230376151711744) 0 = (k : Int) ∧ (2 ^ k * 285870213051353865) % 18446744073709551616 / 288230376151711744 < 64 := by decide
theorem wneg32J {z : Int} (h0 : 0 < z) (h1 : z < 18446744073709551616) : IntKind.u64.wrap (-z) = 18446744073709551616 - z := by rw [wu64]; omega
theorem and_lowJ {z : Int} (h0 : 0 < z) (h1 : z < 18446744073709551616) : bitsOf .and .u64 z (18446744073709551616 - z) = ((2 ^ tzNJ z.toNat : Nat) : Int) ∧ tzNJ z.toNat < 64 := by
 obtain ⟨n, rfl⟩ : ∃ n : Nat, z = n := ⟨z.toNat, by omega⟩
 rw [Int.toNat_natCast]
 have e32 : (2 : Nat) ^ 64 = 18446744073709551616 := by decide
 obtain ⟨m, hm⟩ := tzN_ofJ (n := n) (by omega)
 have hk : tzNJ n < 64 := by
  refine (Nat.pow_lt_pow_iff_right (show 1 < 2 by omega)).1 (Nat.lt_of_le_of_lt ?_ (show n < 2 ^ 64 by omega))
  have := Nat.le_mul_of_pos_right (2 ^ tzNJ n) (show 0 < 2 * m + 1 by omega)
  omega
 have hl := low_bitJ (k := tzNJ n) (m := m) (by rw [← hm]; omega)
 rw [← hm, e32] at hl
 have e1 : (BitVec.ofInt 64 (n : Int)).toNat = n := by simp [BitVec.toNat_ofInt]; omega
 have e2 : (BitVec.ofInt 64 (18446744073709551616 - (n : Int))).toNat = 18446744073709551616 - n := by simp [BitVec.toNat_ofInt]; omega
 have e3 : bitsOf .and .u64 (n : Int) (18446744073709551616 - (n : Int)) = IntKind.u64.wrap (((BitVec.ofInt 64 (n : Int)) &&& (BitVec.ofInt 64 (18446744073709551616 - (n : Int)))).toNat : Int) := rfl
 have hp : 2 ^ tzNJ n ≤ n := by
  have := Nat.le_mul_of_pos_right (2 ^ tzNJ n) (show 0 < 2 * m + 1 by omega)
  omega
 refine ⟨?_, hk⟩
 rw [e3, BitVec.toNat_and, e1, e2, hl, wu64]
 omega
theorem deb_mulJ (k : Nat) : IntKind.u64.wrap (((2 ^ k : Nat) : Int) * 285870213051353865) = ((2 ^ k * 285870213051353865 % 18446744073709551616 : Nat) : Int) := by rw [wu64]; omega
theorem shr27J (n : Nat) : ((n : Nat) : Int).fdiv (2 ^ min (58 : Int).toNat IntKind.u64.bits) = ((n / 288230376151711744 : Nat) : Int) := by
 have : (2 : Int) ^ min (58 : Int).toNat IntKind.u64.bits = ((288230376151711744 : Nat) : Int) := by decide
 rw [this, Int.fdiv_eq_ediv_of_nonneg _ (by omega), ← Int.natCast_ediv]
theorem tab_atJ {Γ : Facts} {i : Nat} (hi : i < 64) : Sb Γ (ipo tabV i) (ptp [isv (.int .u8 (deb.getD i 0))]) := fun v c hf hv => by
  obtain ⟨b, hb, hv⟩ := hv
  have hb1 : b = 1 := by
    rcases hb with hb | ⟨_, _, hb⟩
    · unfold tabV at hb; cases hb; rfl
    · unfold tabV at hb; cases hb
  subst hb1
  obtain ⟨h1, cur, T, fz, h2, h3⟩ := hf.2 tabV tabP (by unfold Gl; simp)
  refine ⟨1, i, cur, T, fz, hv, h1, h2, fun j p hj => ?_⟩
  have hj0 : j = 0 := by
    have := nth_lt hj
    simpa using this
  subst hj0
  simp only [nth, Option.some.injEq] at hj
  subst hj
  have hl : i < deb.length := by have : deb.length = 64 := rfl
                                 omega
  exact ⟨_, h3 i (deb.getD i 0) (by rw [List.getD, List.getElem?_eq_getElem hl]; rfl), rfl, rfl, rfl⟩
theorem tz_limbJ {n k : Nat} (hk : k < (limbsJ n).length) (hz : magIJ ((limbsJ n).take k) = 0) (hw : (limbsJ n).getD k 0 ≠ 0) : tzNJ n = 64 * k + tzNJ ((limbsJ n).getD k 0).toNat ∧ tzNJ ((limbsJ n).getD k 0).toNat < 64 := by
 have h1 := magI_splitJ hk
 rw [limbs_magJ, hz, Int.zero_add] at h1
 have h2 := (limbs_digJ n).at hk
 obtain ⟨w, hw2⟩ : ∃ w : Nat, (limbsJ n).getD k 0 = w := ⟨((limbsJ n).getD k 0).toNat, by omega⟩
 rw [hw2] at h1 h2 hw ⊢
 have h3 := magI_nonnegJ ((limbs_digJ n).drop (k + 1))
 obtain ⟨r, hr⟩ : ∃ r : Nat, magIJ ((limbsJ n).drop (k + 1)) = r := ⟨(magIJ ((limbsJ n).drop (k + 1))).toNat, by omega⟩
 rw [hr] at h1
 rw [Int.toNat_natCast]
 have hn : n = 2 ^ (64 * k) * (w + 18446744073709551616 * r) := by
  have e : wpwJ k = ((2 ^ (64 * k) : Nat) : Int) := by
   have : (2 : Nat) ^ 64 = 18446744073709551616 := by decide
   rw [Nat.pow_mul, this, Int.natCast_pow]
   rfl
  rw [e, show (w : Int) + 18446744073709551616 * r = ((w + 18446744073709551616 * r : Nat) : Int) by omega, ← Int.natCast_mul] at h1
  exact Int.ofNat_inj.1 h1
 obtain ⟨m, hm⟩ := tzN_ofJ (n := w) (by omega)
 have ht : tzNJ w < 64 := by
  have h5 := (and_lowJ (z := (w : Int)) (by omega) (by omega)).2
  rwa [Int.toNat_natCast] at h5
 refine ⟨?_, ht⟩
 have e4 : w + 18446744073709551616 * r = 2 ^ tzNJ w * (2 * (m + 2 ^ (63 - tzNJ w) * r) + 1) := by
  have e5 : 2 ^ tzNJ w * (2 * (2 ^ (63 - tzNJ w) * r)) = 18446744073709551616 * r := by
   rw [← Nat.mul_assoc, ← Nat.mul_assoc, Nat.mul_comm (2 ^ tzNJ w) 2, ← Nat.pow_succ', ← Nat.pow_add, show tzNJ w + 1 + (63 - tzNJ w) = 64 by omega]
  have e6 : 2 ^ tzNJ w * (2 * (m + 2 ^ (63 - tzNJ w) * r) + 1) = 2 ^ tzNJ w * (2 * m + 1) + 2 ^ tzNJ w * (2 * (2 ^ (63 - tzNJ w) * r)) := by grind
  rw [e6, e5, ← hm]
 have e7 : tzNJ (2 * (m + 2 ^ (63 - tzNJ w) * r) + 1) = 0 := tzN_oddJ (by omega)
 rw [hn, tzN_powJ (by omega), e4, tzN_powJ (by omega), e7]
 rfl
theorem tz_stepJ {n k : Nat} (hk : k < (limbsJ n).length) (hz : magIJ ((limbsJ n).take k) = 0) (hw : (limbsJ n).getD k 0 = 0) : magIJ ((limbsJ n).take (k + 1)) = 0 := by
 rw [magI_takeJ hk, hz, hw]; simp
theorem tz_noneJ {n k : Nat} (hk : k = (limbsJ n).length) (hz : magIJ ((limbsJ n).take k) = 0) : tzNJ n = 0 := by
 rw [hk, List.take_length, limbs_magJ] at hz
 rw [tzNJ]
 simp
 omega
theorem sml_leJ {x y : Nat} (h : x ≤ y) (hy : SmlJ (y : Int)) : SmlJ (x : Int) := ⟨by have := hy.h; simp at this ⊢; omega⟩
end Go.Bn
