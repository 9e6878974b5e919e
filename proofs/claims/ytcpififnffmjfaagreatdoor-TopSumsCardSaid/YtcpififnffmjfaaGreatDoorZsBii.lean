/-
 Words of 64 bits: sums, shifts, the last word, in the program's own steps.
-/
import Derived.Test.YtcpififnffmjfaaGreatDoorZsBih
import Derived.Test.YtcpififnffmjfaaGreatDoorZsRne
set_option linter.unusedVariables false
set_option linter.unusedSimpArgs false
namespace Go.Bn
open Go
theorem wpJ_pow (k : Nat) : wpwJ k = ((2 ^ (64 * k) : Nat) : Int) := by
 have := wpw_twoJ k 0
 simp only [Int.pow_zero, Int.mul_one, Nat.add_zero] at this
 rw [this]; simp
theorem bl_limJ {x : Nat} (h : (limbsJ x).length ≤ 4000) : bl x ≤ 256000 := by
 have h1 := magI_ltJ (limbs_digJ x)
 rw [limbs_magJ] at h1
 have h2 := wpw_monoJ h
 obtain ⟨K, hK⟩ : ∃ K, K = 64 * 4000 := ⟨_, rfl⟩
 have e := wpJ_pow 4000
 rw [← hK] at e
 have h3 := bl_lt (t := x) (k := K) (Int.ofNat_lt.1 (by omega))
 omega
theorem tz_limJ {n : Nat} (h : (limbsJ n).length ≤ 4000) : tzNJ n < 256000 ∧ (n ≠ 0 → tzNJ n < bl n) := by
 by_cases hn : n = 0
 ·subst hn; exact ⟨by rw [tzNJ]; simp, fun h => absurd rfl h⟩
 ·obtain ⟨m, hm⟩ := tzN_ofJ hn
  have h2 : 2 ^ tzNJ n ≤ n := by
   have := Nat.le_mul_of_pos_right (2 ^ tzNJ n) (show 0 < 2 * m + 1 by omega)
   omega
  have h3 := bl_ge h2
  have h4 := bl_limJ h
  exact ⟨by omega, fun _ => h3⟩
structure SumI' (a b l : List Int) (n k : Nat) (c : Int) : Prop where
 hk : k ≤ n
 hl : l.length = n + 1
 hd : DigJ l
 hc : 0 ≤ c ∧ c ≤ 1
 hm : magIJ (l.take k) + wpwJ k * c = magIJ (a.take k) + magIJ (b.take k)
theorem sumj_zero {a b : List Int} {n m : Nat} (hm : m = n + 1) : SumI' a b (List.replicate m 0) n 0 0 := by
 subst hm
 exact ⟨Nat.zero_le _, by rw [List.length_replicate], dig_repJ _, by omega, by simp [magIJ]⟩
def addD (x y c : Int) : Int := (x + y + c) % 18446744073709551616
def addC (x y c : Int) : Int := (x + y + c) / 18446744073709551616
theorem sumj_step {a b l : List Int} {n k : Nat} {c x y : Int} (ha : DigJ a) (hb : DigJ b) (h : SumI' a b l n k c) (hk : k < n) (hx : x = digBJ a k) (hy : y = digBJ b k) : SumI' a b (l.set k (addD x y c)) n (k + 1) (addC x y c) := by
 subst hx hy
 obtain ⟨h1, h2, h3, h4, h5⟩ := h
 have g1 := digB_rngJ ha k
 have g2 := digB_rngJ hb k
 unfold addD addC
 refine ⟨by omega, by rw [List.length_set]; exact h2, h3.set (by omega), by omega, ?_⟩
 rw [magI_setJ (by omega), digB_takeJ, digB_takeJ, wpw_succJ]
 generalize digBJ a k = x at *
 generalize digBJ b k = y at *
 have e2 : wpwJ k * ((x + y + c) % 18446744073709551616) + 18446744073709551616 * wpwJ k * ((x + y + c) / 18446744073709551616) = wpwJ k * (x + y + c) := by
  have := Int.emod_add_mul_ediv (x + y + c) 18446744073709551616
  rw [Int.mul_comm 18446744073709551616 (wpwJ k), Int.mul_assoc, ← Int.mul_add, this]
 have e3 : wpwJ k * (x + y + c) = wpwJ k * x + wpwJ k * y + wpwJ k * c := by rw [Int.mul_add, Int.mul_add]
 omega
theorem take_allJ {l : List Int} {k : Nat} (hk : l.length ≤ k) : l.take k = l := List.take_of_length_le hk
theorem sumj_done {a b l : List Int} {n k : Nat} {c : Int} (ha : a.length ≤ n) (hb : b.length ≤ n) (h : SumI' a b l n k c) (hk : k = n) : DigJ (l.set n c) ∧ magIJ (l.set n c) = magIJ a + magIJ b := by
 obtain ⟨h1, h2, h3, h4, h5⟩ := h
 subst hk
 refine ⟨h3.set (by omega), ?_⟩
 have e := magI_setJ (l := l) (v := c) (show k < l.length by omega)
 rw [take_allJ (by rw [List.length_set]; omega)] at e
 rw [e, h5, take_allJ ha, take_allJ hb]
theorem norm_again {l : List Int} {k : Nat} (hk : k ≤ l.length) (h0 : 0 < k) (hz : l.getD (k - 1) 0 = 0) (hm : magIJ (l.take k) = magIJ l) : magIJ (l.take (k - 1)) = magIJ l := cut_magJ hk h0 hz hm
theorem quo64 (n : Nat) (h : n < 18446744073709551616) : IntKind.u64.wrap ((n : Int).tdiv 64) = ((n / 64 : Nat) : Int) := by
 rw [Int.tdiv_eq_ediv_of_nonneg (by omega), wr64 (by omega) (by omega)]
 omega
theorem rem64 (n : Nat) : (n : Int).tmod 64 = ((n % 64 : Nat) : Int) := by
 rw [Int.tmod_eq_emod_of_nonneg (by omega)]
 omega
theorem shlJ {x : Int} {s : Nat} (hs : s < 64) : IntKind.u64.wrap (x * 2 ^ min ((s : Nat) : Int).toNat IntKind.u64.bits) = (x * 2 ^ s) % 18446744073709551616 := by
 have e : min ((s : Nat) : Int).toNat IntKind.u64.bits = s := by
  show min s 64 = s
  omega
 rw [e, wu64]
theorem shrJ {x : Int} {s : Nat} (hs : s ≤ 64) : x.fdiv (2 ^ min ((s : Nat) : Int).toNat IntKind.u64.bits) = x / 2 ^ s := by
 have e : min ((s : Nat) : Int).toNat IntKind.u64.bits = s := by
  show min s 64 = s
  omega
 rw [e]
 have h : (0 : Int) < 2 ^ s := Int.pow_pos (by decide)
 exact Int.fdiv_eq_ediv_of_nonneg x (by omega)
theorem shr_up {x : Int} {s : Nat} (hx : 0 ≤ x ∧ x < 18446744073709551616) (hs : s < 64) : x / 2 ^ (64 - s) = (x * 2 ^ s) / 18446744073709551616 := by
 obtain ⟨h1, h2, h3, h4⟩ := pow_32J hs
 rw [← h3, Int.mul_comm x, Int.mul_ediv_mul_of_pos _ _ (by omega)]
theorem sub64 {s : Nat} (hs : s < 64) : IntKind.u64.wrap (64 - ((s : Nat) : Int)) = ((64 - s : Nat) : Int) := by rw [wr64 (by omega) (by omega)]; omega
theorem or_lowJ {L lo p y : Int} {s : Nat} (hs : p = 2 ^ s) (h0 : 0 ≤ L) (h1 : L < p) (hlo : lo = p * y) (hy : 0 ≤ y) (hb : L + lo < 18446744073709551616) : bitsOf .or .u64 L lo = L + lo := by
 obtain ⟨L', rfl⟩ : ∃ n : Nat, L = n := ⟨L.toNat, by omega⟩
 obtain ⟨y', rfl⟩ : ∃ n : Nat, y = n := ⟨y.toNat, by omega⟩
 have hp : p = ((2 ^ s : Nat) : Int) := by rw [hs]; simp
 have e : lo = ((2 ^ s * y' : Nat) : Int) := by rw [hlo, hp, Int.natCast_mul]
 rw [e] at hb ⊢
 rw [hp] at h1
 rw [bits_or _ _ (by omega) (by omega), Nat.or_comm, ← Nat.two_pow_add_eq_or_of_lt (by omega)]
 omega
theorem lef_orJ {m l : List Int} {w i s : Nat} {x t : Int} (hs : s < 64) (hm : DigJ m) (h : LefIJ m l w (2 ^ s) i) (hi : i < m.length) (hx : x = m.getD i 0) (ht : t = x * 2 ^ s) : bitsOf .or .u64 (l.getD (w + i) 0) (t % 18446744073709551616) = l.getD (w + i) 0 + t % 18446744073709551616 := by
 obtain ⟨h1, h2, h3, h4⟩ := pow_32J hs
 have g1 := hm.at hi
 rw [← hx] at g1
 obtain ⟨b1, b2, b3, b4, b5⟩ := lef_partsJ g1 h1 h2 h3
 rw [← ht] at b1 b2 b3 b4 b5
 have g2 := h.hd.at (k := w + i) (by have := h.hl; omega)
 have g3 := h.hp
 exact or_lowJ rfl g2.1 g3 b5 (Int.emod_nonneg x (by omega)) (by omega)
theorem rgt_or {x y : Int} {s : Nat} (hx : 0 ≤ x ∧ x < 18446744073709551616) (hy : 0 ≤ y ∧ y < 18446744073709551616) (hs : s < 64) : bitsOf .or .u64 (x / 2 ^ s) (IntKind.u64.wrap (y * 2 ^ min (((64 - s : Nat) : Nat) : Int).toNat IntKind.u64.bits)) = ((x + 18446744073709551616 * y) / 2 ^ s) % 18446744073709551616 := by
 obtain ⟨h1, h2, h3, h4⟩ := pow_32J hs
 have e : min (((64 - s : Nat) : Nat) : Int).toNat IntKind.u64.bits = 64 - s := by
  show min (64 - s) 64 = 64 - s
  omega
 rw [e, wu64]
 have e1 : (x + 18446744073709551616 * y) / 2 ^ s = x / 2 ^ s + 2 ^ (64 - s) * y := by
  rw [← h3, show x + 2 ^ s * 2 ^ (64 - s) * y = x + 2 ^ s * (2 ^ (64 - s) * y) by rw [Int.mul_assoc], Int.add_mul_ediv_left _ _ (by omega)]
 have hd : x / 2 ^ s < 2 ^ (64 - s) := Int.ediv_lt_of_lt_mul (by omega) (by rw [Int.mul_comm, h3]; exact hx.2)
 have hn : 0 ≤ x / 2 ^ s := Int.ediv_nonneg hx.1 (by omega)
 have e2 : (y * 2 ^ (64 - s)) % 18446744073709551616 = 2 ^ (64 - s) * (y % 2 ^ s) := by
  rw [← h3, Int.mul_comm y, Int.mul_comm (2 ^ s), Int.mul_emod_mul_of_pos _ _ (by omega)]
 have hm1 := Int.emod_nonneg y (show (2 : Int) ^ s ≠ 0 by omega)
 have hm2 := Int.emod_lt_of_pos y (show (0 : Int) < 2 ^ s by omega)
 have hb : x / 2 ^ s + 2 ^ (64 - s) * (y % 2 ^ s) < 18446744073709551616 := by
  have h5 : 2 ^ (64 - s) * (y % 2 ^ s + 1) ≤ (2 : Int) ^ (64 - s) * 2 ^ s := Int.mul_le_mul_of_nonneg_left (by omega) (by omega)
  rw [Int.mul_comm _ ((2 : Int) ^ s), h3, Int.mul_add] at h5
  omega
 rw [e2, or_lowJ (p := 2 ^ (64 - s)) rfl hn hd rfl hm1 hb, e1]
 have e3 : 2 ^ (64 - s) * y = 2 ^ (64 - s) * (y % 2 ^ s) + 18446744073709551616 * (y / 2 ^ s) := by
  have := Int.emod_add_mul_ediv y (2 ^ s)
  have h6 : (2 : Int) ^ (64 - s) * (y % 2 ^ s + 2 ^ s * (y / 2 ^ s)) = 2 ^ (64 - s) * y := by rw [this]
  rw [Int.mul_add, ← Int.mul_assoc, Int.mul_comm _ ((2 : Int) ^ s), h3] at h6
  omega
 rw [e3, ← Int.add_assoc, Int.add_mul_emod_self_left]
 have h7 : 0 ≤ (2 : Int) ^ (64 - s) * (y % 2 ^ s) := Int.mul_nonneg (by omega) hm1
 exact (Int.emod_eq_of_lt (by omega) hb).symm
theorem dig_or {x y : Int} (hx : 0 ≤ x ∧ x < 18446744073709551616) (hy : 0 ≤ y ∧ y < 18446744073709551616) : 0 ≤ bitsOf .or .u64 x y ∧ bitsOf .or .u64 x y < 18446744073709551616 := by
 obtain ⟨a, rfl⟩ : ∃ n : Nat, x = n := ⟨x.toNat, by omega⟩
 obtain ⟨b, rfl⟩ : ∃ n : Nat, y = n := ⟨y.toNat, by omega⟩
 have h2 : (2 : Nat) ^ 64 = 18446744073709551616 := by decide
 rw [bits_or _ _ (by omega) (by omega)]
 have := Nat.or_lt_two_pow (show a < 2 ^ 64 by omega) (show b < 2 ^ 64 by omega)
 omega
end Go.Bn
namespace Go.Bn
open Go
theorem dig_one1 {n : Nat} (hn : n < 18446744073709551616) : DigJ [(n : Int)] := fun z hz => by rw [List.mem_singleton.1 hz]; omega
theorem digB_0J {n : Nat} : digBJ (limbsJ n) 0 = ((n % 18446744073709551616 : Nat) : Int) := by
 unfold digBJ
 by_cases h : 0 < (limbsJ n).length
 ·rw [if_pos h, limbs_0J]
 ·rw [if_neg h, limbs_len0J.1 (show (limbsJ n).length = 0 by omega)]; rfl
end Go.Bn
