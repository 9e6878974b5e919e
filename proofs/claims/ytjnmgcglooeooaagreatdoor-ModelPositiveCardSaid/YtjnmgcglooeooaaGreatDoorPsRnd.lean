/-
 Shifts to the right, lengths and digits of whole numbers; rounding of whole numbers by shifts.
-/
import Derived.Test.YtjnmgcglooeooaaGreatDoorPsKe
import Derived.Test.YtjnmgcglooeooaaGreatDoorPsQra
import Derived.Test.YtjnmgcglooeooaaGreatDoorPsSeg
set_option linter.unusedVariables false
set_option linter.unusedSimpArgs false
namespace Go.Bn
open Go
def rgtD (m : List Int) (w s i : Nat) : Int := ((m.getD (w + i) 0 + 4294967296 * m.getD (w + i + 1) 0) / 2 ^ s) % 4294967296
def rgtL (m : List Int) (w s : Nat) : List Int := (List.range (m.length - w)).map (rgtD m w s)
theorem length_rgtL (m : List Int) (w s : Nat) : (rgtL m w s).length = m.length - w := by unfold rgtL; simp
theorem rgtL_dig (m : List Int) (w s : Nat) : Dig (rgtL m w s) := fun z hz => by
 unfold rgtL at hz
 obtain ⟨i, _, rfl⟩ := List.mem_map.1 hz
 unfold rgtD
 omega
def shrL (s : Nat) : List Int → List Int
 | [] => []
 | x :: t => (((x + 4294967296 * t.getD 0 0) / 2 ^ s) % 4294967296) :: shrL s t
theorem shrL_length (s : Nat) : ∀ l : List Int, (shrL s l).length = l.length
 | [] => rfl
 | x :: t => by simp [shrL, shrL_length s t]
theorem shrL_at (s : Nat) : ∀ (l : List Int) (i : Nat), i < l.length → (shrL s l).getD i 0 = ((l.getD i 0 + 4294967296 * l.getD (i + 1) 0) / 2 ^ s) % 4294967296
 | [], i, h => by simp at h
 | x :: t, 0, _ => by simp [shrL, List.getD]
 | x :: t, i + 1, h => by
  have := shrL_at s t i (by simpa using h)
  simpa [shrL, List.getD] using this
theorem magI_shr (s : Nat) (hs : s < 32) : ∀ {l : List Int}, Dig l → magI (shrL s l) = magI l / 2 ^ s
 | [], _ => by simp [shrL, magI]
 | x :: t, h => by
  obtain ⟨h1, h2, h3, _⟩ := pow_32 hs
  have hx := h.head
  have ih := magI_shr s hs h.tail
  have hT := magI_nonneg h.tail
  have hh : ∃ r : Int, magI t = t.getD 0 0 + 4294967296 * r := by
   cases t with
   | nil => exact ⟨0, by simp [magI]⟩
   | cons y t => exact ⟨magI t, by simp [magI]⟩
  obtain ⟨r, hr⟩ := hh
  rw [shrL, magI, magI, ih]
  generalize (2 : Int) ^ s = q at *
  generalize (2 : Int) ^ (32 - s) = p at *
  generalize t.getD 0 0 = y at *
  generalize magI t = T at *
  have hq : 0 < q := by omega
  have e1 := Int.emod_add_mul_ediv T q
  have b1 := Int.emod_nonneg T (show q ≠ 0 by omega)
  have b2 := Int.emod_lt_of_pos T hq
  have e2 : T % q = y % q := by
   rw [hr, show (4294967296 : Int) * r = q * (p * r) by rw [← Int.mul_assoc, h3], Int.add_mul_emod_self_left]
  have e3 := Int.emod_add_mul_ediv y q
  rw [← e2] at e3
  generalize T % q = b at *
  generalize T / q = a at *
  generalize y / q = a' at *
  have f1 : (x + 4294967296 * T) / q = 4294967296 * a + (x + 4294967296 * b) / q := by
   rw [← e1, show x + 4294967296 * (b + q * a) = (x + 4294967296 * b) + q * (4294967296 * a) by rw [Int.mul_add, Int.mul_left_comm]; omega, Int.add_mul_ediv_left _ _ (by omega)]
   omega
  have f2 : (x + 4294967296 * y) / q = 4294967296 * a' + (x + 4294967296 * b) / q := by
   rw [← e3, show x + 4294967296 * (b + q * a') = (x + 4294967296 * b) + q * (4294967296 * a') by rw [Int.mul_add, Int.mul_left_comm]; omega, Int.add_mul_ediv_left _ _ (by omega)]
   omega
  have f3 : 0 ≤ (x + 4294967296 * b) / q := Int.ediv_nonneg (by omega) (by omega)
  have f4 : (x + 4294967296 * b) / q < 4294967296 := by
   refine Int.ediv_lt_of_lt_mul hq ?_
   have : 4294967296 * (b + 1) ≤ 4294967296 * q := Int.mul_le_mul_of_nonneg_left (by omega) (by omega)
   omega
  rw [f1, f2]
  omega
theorem rgtL_shr (m : List Int) (w s : Nat) : rgtL m w s = shrL s (m.drop w) := by
 apply List.ext_getElem
 ·rw [length_rgtL, shrL_length, List.length_drop]
 ·intro i h1 h2
  have h0 := h1
  rw [length_rgtL] at h0
  have g1 : (shrL s (m.drop w)).getD i 0 = (shrL s (m.drop w))[i] := by
   rw [List.getD, List.getElem?_eq_getElem h2]; rfl
  have g2 : (rgtL m w s)[i] = rgtD m w s i := by
   have : (rgtL m w s)[i]? = some (rgtD m w s i) := by unfold rgtL; rw [List.getElem?_map, List.getElem?_range (by omega)]; rfl
   rw [List.getElem?_eq_getElem h1] at this
   exact Option.some.inj this
  rw [← g1, g2, shrL_at s _ i (by rw [List.length_drop]; exact h0)]
  unfold rgtD
  have d : ∀ j, (m.drop w).getD j 0 = m.getD (w + j) 0 := fun j => by rw [List.getD, List.getD, List.getElem?_drop]
  rw [d, d, Nat.add_assoc]
theorem magI_at {m : List Int} {w : Nat} (hw : w ≤ m.length) : magI m = magI (m.take w) + wpw w * magI (m.drop w) := by
 have := magI_append (m.take w) (m.drop w)
 rw [List.take_append_drop, List.length_take, Nat.min_eq_left hw] at this
 exact this
theorem rgt_mag {m : List Int} {n : Nat} (hm : Dig m) (hw : n / 32 < m.length) : magI (rgtL m (n / 32) (n % 32)) = magI m / 2 ^ n := by
 rw [rgtL_shr, magI_shr _ (Nat.mod_lt _ (by omega)) (hm.drop _)]
 have e1 := magI_at (m := m) (w := n / 32) (by omega)
 have e2 : (2 : Int) ^ n = wpw (n / 32) * 2 ^ (n % 32) := by rw [wpw_two, show 32 * (n / 32) + n % 32 = n by omega]
 have h1 := magI_nonneg (hm.take (n / 32))
 have h2 := magI_lt (hm.take (n / 32))
 rw [List.length_take, Nat.min_eq_left (by omega)] at h2
 have h3 := wpw_pos (n / 32)
 have h4 : magI m / wpw (n / 32) = magI (m.drop (n / 32)) := by
  rw [e1, Int.add_mul_ediv_left _ _ (by omega), Int.ediv_eq_zero_of_lt h1 h2]
  omega
 rw [e2, ← Int.ediv_ediv_of_nonneg (by omega), h4]
theorem rgt_big {m : List Int} {n : Nat} (hm : Dig m) (hw : m.length ≤ n / 32) : (magI m / 2 ^ n).toNat = 0 := by
 have h1 := magI_nonneg hm
 have h2 := magI_lt hm
 have h3 := wpw_mono hw
 have e2 : (2 : Int) ^ n = wpw (n / 32) * 2 ^ (n % 32) := by rw [wpw_two, show 32 * (n / 32) + n % 32 = n by omega]
 have h4 := (pow_32 (show n % 32 < 32 from Nat.mod_lt _ (by omega))).1
 have h5 := wpw_pos (n / 32)
 have h6 : wpw (n / 32) * 1 ≤ wpw (n / 32) * 2 ^ (n % 32) := Int.mul_le_mul_of_nonneg_left h4 (by omega)
 rw [Int.ediv_eq_zero_of_lt h1 (by rw [e2]; omega)]
 rfl
def rgtP (m : List Int) (w s i : Nat) : List Int := (rgtL m w s).take i ++ List.replicate (m.length - w - i) 0
theorem rgtP_zero (m : List Int) (w s : Nat) : rgtP m w s 0 = List.replicate (m.length - w) 0 := by unfold rgtP; simp
theorem length_rgtP {m : List Int} {w s i : Nat} (hi : i ≤ m.length - w) : (rgtP m w s i).length = m.length - w := by
 unfold rgtP
 rw [List.length_append, List.length_take, length_rgtL, List.length_replicate]
 omega
theorem rgtP_set {m : List Int} {w s i : Nat} {z : Int} (hi : i < m.length - w) (hz : z = rgtD m w s i) : (rgtP m w s i).set i z = rgtP m w s (i + 1) := by
 unfold rgtP
 have e : ((rgtL m w s).take i).length = i := by rw [List.length_take, length_rgtL]; omega
 rw [List.set_append_right _ _ (by omega), e, Nat.sub_self, show m.length - w - i = (m.length - w - (i + 1)) + 1 by omega, List.replicate_succ, List.set_cons_zero]
 rw [take_snoc 0 (show i < (rgtL m w s).length by rw [length_rgtL]; exact hi), List.append_assoc]
 congr 2
 rw [hz]
 unfold rgtL
 rw [List.getD, List.getElem?_map, List.getElem?_range (by omega)]
 rfl
theorem rgtP_all {m : List Int} {w s i : Nat} (hi : i = m.length - w) : rgtP m w s i = rgtL m w s := by
 unfold rgtP
 rw [hi, Nat.sub_self, List.take_of_length_le (by rw [length_rgtL]; exact Nat.le_refl _)]
 simp
theorem or64 {x y : Int} (hx : 0 ≤ x ∧ x < 4294967296) (hy : 0 ≤ y ∧ y < 4294967296) : bitsOf .or .u64 x (IntKind.u64.wrap (y * 2 ^ min (32 : Int).toNat IntKind.u64.bits)) = x + 4294967296 * y := by
 obtain ⟨a, rfl⟩ : ∃ n : Nat, x = n := ⟨x.toNat, by omega⟩
 obtain ⟨b, rfl⟩ : ∃ n : Nat, y = n := ⟨y.toNat, by omega⟩
 have e : IntKind.u64.wrap ((b : Int) * 2 ^ min (32 : Int).toNat IntKind.u64.bits) = ((b * 2 ^ 32 : Nat) : Int) := by
  rw [show min (32 : Int).toNat IntKind.u64.bits = 32 by decide, wu64]
  have : ((2 : Int) ^ 32) = 4294967296 := by decide
  have h2 : (2 : Nat) ^ 32 = 4294967296 := by decide
  rw [this, h2]
  omega
 have h2 : (2 : Nat) ^ 32 = 4294967296 := by decide
 rw [e, bits_or _ _ (by omega) (by omega), Nat.or_comm, or_add b a 32 (by omega)]
 omega
theorem shrs64 {x : Int} {s : Nat} (hs : s < 32) : x.fdiv (2 ^ min ((s : Nat) : Int).toNat IntKind.u64.bits) = x / 2 ^ s := by
 have e : min ((s : Nat) : Int).toNat IntKind.u64.bits = s := by
  show min s 64 = s
  omega
 rw [e]
 exact Int.fdiv_eq_ediv_of_nonneg x (by have := (pow_32 hs).1; omega)
theorem getD_over {m : List Int} {k : Nat} (h : m.length ≤ k) : m.getD k 0 = 0 := by
 rw [List.getD, List.getElem?_eq_none h]; rfl
def bl (m : Nat) : Nat := if m = 0 then 0 else m.log2 + 1
theorem bl_zero : bl 0 = 0 := rfl
theorem bl_pos {m : Nat} (h : m ≠ 0) : bl m = m.log2 + 1 := if_neg h
theorem bl_shr {t k : Nat} (h : 2 ^ k ≤ t) : bl t = k + bl (t / 2 ^ k) := by
 have hp := Nat.two_pow_pos k
 have h0 : t ≠ 0 := by omega
 have h1 : t / 2 ^ k ≠ 0 := by have := Nat.div_pos h hp; omega
 rw [bl_pos h0, bl_pos h1]
 have a1 := Nat.log2_self_le h1
 have a2 := Nat.lt_log2_self (n := t / 2 ^ k)
 have : t.log2 = k + (t / 2 ^ k).log2 := by
  rw [Nat.log2_eq_iff h0]
  constructor
  ·rw [Nat.pow_add]
   exact Nat.le_trans (Nat.mul_le_mul_left _ a1) (Nat.mul_div_le _ _)
  ·rw [show k + (t / 2 ^ k).log2 + 1 = ((t / 2 ^ k).log2 + 1) + k by omega, Nat.pow_add]
   exact (Nat.div_lt_iff_lt_mul hp).1 a2
 omega
theorem bl_lt {t k : Nat} (h : t < 2 ^ k) : bl t ≤ k := by
 by_cases h0 : t = 0
 ·rw [h0, bl_zero]; omega
 ·rw [bl_pos h0]
  have := (Nat.log2_lt h0).2 h
  omega
theorem bl_le {t k : Nat} (h : bl t ≤ k) : t < 2 ^ k := by
 by_cases h0 : t = 0
 ·rw [h0]; exact Nat.two_pow_pos k
 ·rw [bl_pos h0] at h
  exact (Nat.log2_lt h0).1 (by omega)
theorem bl_ge {t k : Nat} (h : 2 ^ k ≤ t) : k < bl t := by
 by_cases hc : bl t ≤ k
 ·have := bl_le hc; omega
 ·omega
theorem bl_top (n : Nat) : (bl n : Int) = if (limbs n).length = 0 then 0 else 32 * ((limbs n).length - 1 : Int) + (bl ((limbs n).getD ((limbs n).length - 1) 0).toNat : Int) := by
 by_cases h0 : (limbs n).length = 0
 ·rw [if_pos h0]; rw [limbs_len0] at h0; rw [h0]; rfl
 ·rw [if_neg h0]
  obtain ⟨k, hk⟩ : ∃ k, (limbs n).length = k + 1 := ⟨(limbs n).length - 1, by omega⟩
  have hd := limbs_dig n
  have ht := limbs_tight n
  have g1 := hd.at (k := k) (by omega)
  have g2 : (limbs n).getD k 0 ≠ 0 := by
   rcases ht with h | h
   ·rw [h] at h0; exact (h0 rfl).elim
   ·rw [hk] at h; exact h
  have e1 := magI_take (l := limbs n) (k := k) (by omega)
  rw [List.take_of_length_le (by omega), limbs_mag] at e1
  have a1 := magI_nonneg (hd.take k)
  have a2 := magI_lt (hd.take k)
  rw [List.length_take, Nat.min_eq_left (by omega)] at a2
  obtain ⟨t, htt⟩ : ∃ t : Nat, (limbs n).getD k 0 = t := ⟨((limbs n).getD k 0).toNat, by omega⟩
  rw [hk, show k + 1 - 1 = k by omega, htt, Int.toNat_natCast]
  rw [htt] at e1 g2
  have ew : wpw k = ((2 ^ (32 * k) : Nat) : Int) := by
   have := wpw_two k 0
   simp only [Int.pow_zero, Int.mul_one, Nat.add_zero] at this
   rw [this]; simp
  rw [ew] at e1 a2
  obtain ⟨lo, hlo⟩ : ∃ lo : Nat, magI ((limbs n).take k) = lo := ⟨_, (Int.toNat_of_nonneg a1).symm⟩
  rw [hlo] at e1 a2
  have e2 : n = lo + 2 ^ (32 * k) * t := by rw [← Int.natCast_mul] at e1; omega
  have hp := Nat.two_pow_pos (32 * k)
  have e3 : n / 2 ^ (32 * k) = t := by
   rw [e2, Nat.add_mul_div_left _ _ hp, Nat.div_eq_of_lt (by omega)]
   omega
  have h1 : 2 ^ (32 * k) * 1 ≤ 2 ^ (32 * k) * t := Nat.mul_le_mul_left _ (by omega)
  have := bl_shr (t := n) (k := 32 * k) (by omega)
  rw [e3] at this
  omega
end Go.Bn
