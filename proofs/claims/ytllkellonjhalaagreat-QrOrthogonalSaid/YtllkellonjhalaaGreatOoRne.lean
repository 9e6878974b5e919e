/-
 Shifts to the right, lengths and digits of whole numbers; rounding of whole numbers by shifts.
-/
import Derived.Test.YtllkellonjhalaaGreatOoKe
import Derived.Test.YtllkellonjhalaaGreatOoQra
import Derived.Test.YtllkellonjhalaaGreatOoSeg
set_option linter.unusedVariables false
set_option linter.unusedSimpArgs false
namespace Go.Bn
open Go
def rgtD (m : List Int) (w s i : Nat) : Int := ((m.getD (w + i) 0 + 4294967296 * m.getD (w + i + 1) 0) / 2 ^ s) % 4294967296
def rgtL (m : List Int) (w s : Nat) : List Int := (List.range (m.length - w)).map (rgtD m w s)
theorem length_rgtL (m : List Int) (w s : Nat) : (rgtL m w s).length = m.length - w := by unfold rgtL; simp
theorem rgtL_dig (m : List Int) (w s : Nat) : Dig (rgtL m w s) := fun z hz => by
 unfold rgtL at hz
 obtain ⟨i, _, rfl⟩ := List.mem_map.1 hz
 unfold rgtD
 omega
def shrL (s : Nat) : List Int → List Int
 | [] => []
 | x :: t => (((x + 4294967296 * t.getD 0 0) / 2 ^ s) % 4294967296) :: shrL s t
theorem shrL_length (s : Nat) : ∀ l : List Int, (shrL s l).length = l.length
 | [] => rfl
 | x :: t => by simp [shrL, shrL_length s t]
theorem shrL_at (s : Nat) : ∀ (l : List Int) (i : Nat), i < l.length → (shrL s l).getD i 0 = ((l.getD i 0 + 4294967296 * l.getD (i + 1) 0) / 2 ^ s) % 4294967296
 | [], i, h => by simp at h
 | x :: t, 0, _ => by simp [shrL, List.getD]
 | x :: t, i + 1, h => by
  have := shrL_at s t i (by simpa using h)
  simpa [shrL, List.getD] using this
theorem magI_shr (s : Nat) (hs : s < 32) : ∀ {l : List Int}, Dig l → magI (shrL s l) = magI l / 2 ^ s
 | [], _ => by simp [shrL, magI]
 | x :: t, h => by
  obtain ⟨h1, h2, h3, _⟩ := pow_32 hs
  have hx := h.head
  have ih := magI_shr s hs h.tail
  have hT := magI_nonneg h.tail
  have hh : ∃ r : Int, magI t = t.getD 0 0 + 4294967296 * r := by
   cases t with
   | nil => exact ⟨0, by simp [magI]⟩
   | cons y t => exact ⟨magI t, by simp [magI]⟩
  obtain ⟨r, hr⟩ := hh
  rw [shrL, magI, magI, ih]
  generalize (2 : Int) ^ s = q at *
  generalize (2 : Int) ^ (32 - s) = p at *
  generalize t.getD 0 0 = y at *
  generalize magI t = T at *
  have hq : 0 < q := by omega
  have e1 := Int.emod_add_mul_ediv T q
  have b1 := Int.emod_nonneg T (show q ≠ 0 by omega)
  have b2 := Int.emod_lt_of_pos T hq
  have e2 : T % q = y % q := by
   rw [hr, show (4294967296 : Int) * r = q * (p * r) by rw [← Int.mul_assoc, h3], Int.add_mul_emod_self_left]
  have e3 := Int.emod_add_mul_ediv y q
  rw [← e2] at e3
  generalize T % q = b at *
  generalize T / q = a at *
  generalize y / q = a' at *
  have f1 : (x + 4294967296 * T) / q = 4294967296 * a + (x + 4294967296 * b) / q := by
   rw [← e1, show x + 4294967296 * (b + q * a) = (x + 4294967296 * b) + q * (4294967296 * a) by rw [Int.mul_add, Int.mul_left_comm]; omega, Int.add_mul_ediv_left _ _ (by omega)]
   omega
  have f2 : (x + 4294967296 * y) / q = 4294967296 * a' + (x + 4294967296 * b) / q := by
   rw [← e3, show x + 4294967296 * (b + q * a') = (x + 4294967296 * b) + q * (4294967296 * a') by rw [Int.mul_add, Int.mul_left_comm]; omega, Int.add_mul_ediv_left _ _ (by omega)]
   omega
  have f3 : 0 ≤ (x + 4294967296 * b) / q := Int.ediv_nonneg (by omega) (by omega)
  have f4 : (x + 4294967296 * b) / q < 4294967296 := by
   refine Int.ediv_lt_of_lt_mul hq ?_
   have : 4294967296 * (b + 1) ≤ 4294967296 * q := Int.mul_le_mul_of_nonneg_left (by omega) (by omega)
   omega
  rw [f1, f2]
  omega
theorem rgtL_shr (m : List Int) (w s : Nat) : rgtL m w s = shrL s (m.drop w) := by
 apply List.ext_getElem
 ·rw [length_rgtL, shrL_length, List.length_drop]
 ·intro i h1 h2
  have h0 := h1
  rw [length_rgtL] at h0
  have g1 : (shrL s (m.drop w)).getD i 0 = (shrL s (m.drop w))[i] := by
   rw [List.getD, List.getElem?_eq_getElem h2]; rfl
  have g2 : (rgtL m w s)[i] = rgtD m w s i := by
   have : (rgtL m w s)[i]? = some (rgtD m w s i) := by unfold rgtL; rw [List.getElem?_map, List.getElem?_range (by omega)]; rfl
   rw [List.getElem?_eq_getElem h1] at this
   exact Option.some.inj this
  rw [← g1, g2, shrL_at s _ i (by rw [List.length_drop]; exact h0)]
  unfold rgtD
  have d : ∀ j, (m.drop w).getD j 0 = m.getD (w + j) 0 := fun j => by rw [List.getD, List.getD, List.getElem?_drop]
  rw [d, d, Nat.add_assoc]
theorem magI_at {m : List Int} {w : Nat} (hw : w ≤ m.length) : magI m = magI (m.take w) + wpw w * magI (m.drop w) := by
 have := magI_append (m.take w) (m.drop w)
 rw [List.take_append_drop, List.length_take, Nat.min_eq_left hw] at this
 exact this
theorem rgt_mag {m : List Int} {n : Nat} (hm : Dig m) (hw : n / 32 < m.length) : magI (rgtL m (n / 32) (n % 32)) = magI m / 2 ^ n := by
 rw [rgtL_shr, magI_shr _ (Nat.mod_lt _ (by omega)) (hm.drop _)]
 have e1 := magI_at (m := m) (w := n / 32) (by omega)
 have e2 : (2 : Int) ^ n = wpw (n / 32) * 2 ^ (n % 32) := by rw [wpw_two, show 32 * (n / 32) + n % 32 = n by omega]
 have h1 := magI_nonneg (hm.take (n / 32))
 have h2 := magI_lt (hm.take (n / 32))
 rw [List.length_take, Nat.min_eq_left (by omega)] at h2
 have h3 := wpw_pos (n / 32)
 have h4 : magI m / wpw (n / 32) = magI (m.drop (n / 32)) := by
  rw [e1, Int.add_mul_ediv_left _ _ (by omega), Int.ediv_eq_zero_of_lt h1 h2]
  omega
 rw [e2, ← Int.ediv_ediv_of_nonneg (by omega), h4]
theorem rgt_big {m : List Int} {n : Nat} (hm : Dig m) (hw : m.length ≤ n / 32) : (magI m / 2 ^ n).toNat = 0 := by
 have h1 := magI_nonneg hm
 have h2 := magI_lt hm
 have h3 := wpw_mono hw
 have e2 : (2 : Int) ^ n = wpw (n / 32) * 2 ^ (n % 32) := by rw [wpw_two, show 32 * (n / 32) + n % 32 = n by omega]
 have h4 := (pow_32 (show n % 32 < 32 from Nat.mod_lt _ (by omega))).1
 have h5 := wpw_pos (n / 32)
 have h6 : wpw (n / 32) * 1 ≤ wpw (n / 32) * 2 ^ (n % 32) := Int.mul_le_mul_of_nonneg_left h4 (by omega)
 rw [Int.ediv_eq_zero_of_lt h1 (by rw [e2]; omega)]
 rfl
def rgtP (m : List Int) (w s i : Nat) : List Int := (rgtL m w s).take i ++ List.replicate (m.length - w - i) 0
theorem rgtP_zero (m : List Int) (w s : Nat) : rgtP m w s 0 = List.replicate (m.length - w) 0 := by unfold rgtP; simp
theorem length_rgtP {m : List Int} {w s i : Nat} (hi : i ≤ m.length - w) : (rgtP m w s i).length = m.length - w := by
 unfold rgtP
 rw [List.length_append, List.length_take, length_rgtL, List.length_replicate]
 omega
theorem rgtP_set {m : List Int} {w s i : Nat} {z : Int} (hi : i < m.length - w) (hz : z = rgtD m w s i) : (rgtP m w s i).set i z = rgtP m w s (i + 1) := by
 unfold rgtP
 have e : ((rgtL m w s).take i).length = i := by rw [List.length_take, length_rgtL]; omega
 rw [List.set_append_right _ _ (by omega), e, Nat.sub_self, show m.length - w - i = (m.length - w - (i + 1)) + 1 by omega, List.replicate_succ, List.set_cons_zero]
 rw [take_snoc 0 (show i < (rgtL m w s).length by rw [length_rgtL]; exact hi), List.append_assoc]
 congr 2
 rw [hz]
 unfold rgtL
 rw [List.getD, List.getElem?_map, List.getElem?_range (by omega)]
 rfl
theorem rgtP_all {m : List Int} {w s i : Nat} (hi : i = m.length - w) : rgtP m w s i = rgtL m w s := by
 unfold rgtP
 rw [hi, Nat.sub_self, List.take_of_length_le (by rw [length_rgtL]; exact Nat.le_refl _)]
 simp
theorem or64 {x y : Int} (hx : 0 ≤ x ∧ x < 4294967296) (hy : 0 ≤ y ∧ y < 4294967296) : bitsOf .or .u64 x (IntKind.u64.wrap (y * 2 ^ min (32 : Int).toNat IntKind.u64.bits)) = x + 4294967296 * y := by
 obtain ⟨a, rfl⟩ : ∃ n : Nat, x = n := ⟨x.toNat, by omega⟩
 obtain ⟨b, rfl⟩ : ∃ n : Nat, y = n := ⟨y.toNat, by omega⟩
 have e : IntKind.u64.wrap ((b : Int) * 2 ^ min (32 : Int).toNat IntKind.u64.bits) = ((b * 2 ^ 32 : Nat) : Int) := by
  rw [show min (32 : Int).toNat IntKind.u64.bits = 32 by decide, wu64]
  have : ((2 : Int) ^ 32) = 4294967296 := by decide
  have h2 : (2 : Nat) ^ 32 = 4294967296 := by decide
  rw [this, h2]
  omega
 have h2 : (2 : Nat) ^ 32 = 4294967296 := by decide
 rw [e, bits_or _ _ (by omega) (by omega), Nat.or_comm, or_add b a 32 (by omega)]
 omega
theorem shrs64 {x : Int} {s : Nat} (hs : s < 32) : x.fdiv (2 ^ min ((s : Nat) : Int).toNat IntKind.u64.bits) = x / 2 ^ s := by
 have e : min ((s : Nat) : Int).toNat IntKind.u64.bits = s := by
  show min s 64 = s
  omega
 rw [e]
 exact Int.fdiv_eq_ediv_of_nonneg x (by have := (pow_32 hs).1; omega)
theorem getD_over {m : List Int} {k : Nat} (h : m.length ≤ k) : m.getD k 0 = 0 := by
 rw [List.getD, List.getElem?_eq_none h]; rfl
theorem mag_shr (x n : Nat) : (magI (limbs x) / 2 ^ n).toNat = x / 2 ^ n := by
 rw [limbs_mag]
 have : (2 : Int) ^ n = ((2 ^ n : Nat) : Int) := by simp
 rw [this, ← Int.natCast_ediv, Int.toNat_natCast]
def bl (m : Nat) : Nat := if m = 0 then 0 else m.log2 + 1
theorem bl_zero : bl 0 = 0 := rfl
theorem bl_pos {m : Nat} (h : m ≠ 0) : bl m = m.log2 + 1 := if_neg h
theorem bl_shr {t k : Nat} (h : 2 ^ k ≤ t) : bl t = k + bl (t / 2 ^ k) := by
 have hp := Nat.two_pow_pos k
 have h0 : t ≠ 0 := by omega
 have h1 : t / 2 ^ k ≠ 0 := by have := Nat.div_pos h hp; omega
 rw [bl_pos h0, bl_pos h1]
 have a1 := Nat.log2_self_le h1
 have a2 := Nat.lt_log2_self (n := t / 2 ^ k)
 have : t.log2 = k + (t / 2 ^ k).log2 := by
  rw [Nat.log2_eq_iff h0]
  constructor
  ·rw [Nat.pow_add]
   exact Nat.le_trans (Nat.mul_le_mul_left _ a1) (Nat.mul_div_le _ _)
  ·rw [show k + (t / 2 ^ k).log2 + 1 = ((t / 2 ^ k).log2 + 1) + k by omega, Nat.pow_add]
   exact (Nat.div_lt_iff_lt_mul hp).1 a2
 omega
theorem bl_lt {t k : Nat} (h : t < 2 ^ k) : bl t ≤ k := by
 by_cases h0 : t = 0
 ·rw [h0, bl_zero]; omega
 ·rw [bl_pos h0]
  have := (Nat.log2_lt h0).2 h
  omega
theorem bl_le {t k : Nat} (h : bl t ≤ k) : t < 2 ^ k := by
 by_cases h0 : t = 0
 ·rw [h0]; exact Nat.two_pow_pos k
 ·rw [bl_pos h0] at h
  exact (Nat.log2_lt h0).1 (by omega)
theorem bl_top (n : Nat) : (bl n : Int) = if (limbs n).length = 0 then 0 else 32 * ((limbs n).length - 1 : Int) + (bl ((limbs n).getD ((limbs n).length - 1) 0).toNat : Int) := by
 by_cases h0 : (limbs n).length = 0
 ·rw [if_pos h0]; rw [limbs_len0] at h0; rw [h0]; rfl
 ·rw [if_neg h0]
  obtain ⟨k, hk⟩ : ∃ k, (limbs n).length = k + 1 := ⟨(limbs n).length - 1, by omega⟩
  have hd := limbs_dig n
  have ht := limbs_tight n
  have g1 := hd.at (k := k) (by omega)
  have g2 : (limbs n).getD k 0 ≠ 0 := by
   rcases ht with h | h
   ·rw [h] at h0; exact (h0 rfl).elim
   ·rw [hk] at h; exact h
  have e1 := magI_take (l := limbs n) (k := k) (by omega)
  rw [List.take_of_length_le (by omega), limbs_mag] at e1
  have a1 := magI_nonneg (hd.take k)
  have a2 := magI_lt (hd.take k)
  rw [List.length_take, Nat.min_eq_left (by omega)] at a2
  obtain ⟨t, htt⟩ : ∃ t : Nat, (limbs n).getD k 0 = t := ⟨((limbs n).getD k 0).toNat, by omega⟩
  rw [hk, show k + 1 - 1 = k by omega, htt, Int.toNat_natCast]
  rw [htt] at e1 g2
  have ew : wpw k = ((2 ^ (32 * k) : Nat) : Int) := by
   have := wpw_two k 0
   simp only [Int.pow_zero, Int.mul_one, Nat.add_zero] at this
   rw [this]; simp
  rw [ew] at e1 a2
  obtain ⟨lo, hlo⟩ : ∃ lo : Nat, magI ((limbs n).take k) = lo := ⟨_, (Int.toNat_of_nonneg a1).symm⟩
  rw [hlo] at e1 a2
  have e2 : n = lo + 2 ^ (32 * k) * t := by rw [← Int.natCast_mul] at e1; omega
  have hp := Nat.two_pow_pos (32 * k)
  have e3 : n / 2 ^ (32 * k) = t := by
   rw [e2, Nat.add_mul_div_left _ _ hp, Nat.div_eq_of_lt (by omega)]
   omega
  have h1 : 2 ^ (32 * k) * 1 ≤ 2 ^ (32 * k) * t := Nat.mul_le_mul_left _ (by omega)
  have := bl_shr (t := n) (k := 32 * k) (by omega)
  rw [e3] at this
  omega
theorem limbs_0 (n : Nat) : (limbs n).getD 0 0 = ((n % 4294967296 : Nat) : Int) := by
 by_cases h : n = 0
 ·rw [h, limbs_zero]; rfl
 ·rw [limbs_pos h]; rfl
theorem limbs_1 (n : Nat) : (limbs n).getD 1 0 = ((n / 4294967296 % 4294967296 : Nat) : Int) := by
 by_cases h : n = 0
 ·rw [h, limbs_zero]; rfl
 ·rw [limbs_pos h]
  show (limbs (n / 4294967296)).getD 0 0 = _
  exact limbs_0 _
theorem limbs_lt1 {n : Nat} (h : (limbs n).length ≤ 1) : n < 4294967296 := by
 by_cases h0 : n = 0
 ·omega
 ·rw [limbs_pos h0, List.length_cons] at h
  have := limbs_len0.1 (show (limbs (n / 4294967296)).length = 0 by omega)
  omega
def INF : Nat := 9218868437227405312
def upB (q : Nat) (c : Int) : Bool := decide (0 < c) || (decide (c = 0) && decide (q % 2 = 1))
def cutC (m s : Nat) : Int := if m % 2 ^ s = 0 then -2 else cmpN (m % 2 ^ s) (2 ^ (s - 1))
theorem cut_low {neg : Bool} {n s : Nat} (h : n ≠ 0) (hs : s ≠ 0) : Ieee.Toward.even.cut neg n s = if upB (n / 2 ^ s) (cutC n s) = true then n / 2 ^ s + 1 else n / 2 ^ s := by
 obtain ⟨d, rfl⟩ : ∃ d, s = d + 1 := ⟨s - 1, by omega⟩
 have key : ∀ G H low rest : Nat, G = 2 * H → rest < G → 0 < H → (low + (decide (G < 2 * rest) || (G == 2 * rest && low % 2 == 1)).toNat) = if upB low (if rest = 0 then -2 else cmpN rest H) = true then low + 1 else low := by
  intro G H low rest h1 h2 h3
  unfold upB cmpN
  by_cases a0 : rest = 0
  ·subst a0
   simp
   omega
  ·rw [if_neg a0]
   by_cases a1 : rest < H
   ·rw [if_pos a1]
    have : (decide (G < 2 * rest) || (G == 2 * rest && low % 2 == 1)) = false := by simp; omega
    rw [this]; simp
   ·rw [if_neg a1]
    by_cases a2 : H < rest
    ·rw [if_pos a2]
     have : (decide (G < 2 * rest) || (G == 2 * rest && low % 2 == 1)) = true := by simp; omega
     rw [this]; simp
    ·rw [if_neg a2]
     have e : G = 2 * rest := by omega
     by_cases a3 : low % 2 = 1
     ·have : (decide (G < 2 * rest) || (G == 2 * rest && low % 2 == 1)) = true := by simp; omega
      rw [this]; simp [a3]
     ·have : (decide (G < 2 * rest) || (G == 2 * rest && low % 2 == 1)) = false := by simp; omega
      rw [this]; simp [a3]
 unfold Ieee.Toward.cut
 simp only [Nat.shiftLeft_eq, Nat.one_mul]
 unfold cutC
 rw [show d + 1 - 1 = d by omega]
 have hp := Nat.two_pow_pos d
 by_cases hd : d + 1 ≤ n.log2 + 2
 ·rw [Nat.min_eq_left hd]
  exact key _ _ _ _ (by rw [Nat.pow_succ]; omega) (Nat.mod_lt _ (Nat.two_pow_pos _)) hp
 ·rw [Nat.min_eq_right (by omega)]
  have h1 := Nat.lt_log2_self (n := n)
  have h2 : 2 ^ (n.log2 + 2) = 2 * 2 ^ (n.log2 + 1) := by rw [Nat.pow_succ 2 (n.log2 + 1)]; omega
  have h3 : 2 ^ (n.log2 + 1) ≤ 2 ^ d := Nat.pow_le_pow_right (by omega) (by omega)
  have h4 : 2 ^ (d + 1) = 2 * 2 ^ d := by rw [Nat.pow_succ]; omega
  have k1 := key (2 ^ (d + 1)) (2 ^ d) (n / 2 ^ (d + 1)) (n % 2 ^ (d + 1)) h4 (Nat.mod_lt _ (Nat.two_pow_pos _)) hp
  rw [← k1]
  rw [Nat.div_eq_of_lt (show n < 2 ^ (n.log2 + 2) by omega), Nat.mod_eq_of_lt (show n < 2 ^ (n.log2 + 2) by omega), Nat.div_eq_of_lt (show n < 2 ^ (d + 1) by omega), Nat.mod_eq_of_lt (show n < 2 ^ (d + 1) by omega)]
  congr 2
  have e1 : decide (2 ^ (n.log2 + 2) < 2 * n) = false := by simp; omega
  have e2 : decide (2 ^ (d + 1) < 2 * n) = false := by simp; omega
  rw [e1, e2]
  simp
def qtm (m : Nat) (e : Int) : Int := max (e + m.log2 - 52) (-1074)
def kpt (neg : Bool) (m : Nat) (e : Int) : Nat := if qtm m e ≤ e then m * 2 ^ (e - qtm m e).toNat else Ieee.Toward.even.cut neg m (qtm m e - e).toNat
theorem nearest_kpt {neg : Bool} {m : Nat} {e : Int} (h : m ≠ 0) : Ieee.double.nearest neg m e = Ieee.double.word neg (min ((qtm m e + 1074).toNat * 4503599627370496 + kpt neg m e) INF) := by
 unfold Ieee.Format.nearest
 rw [if_neg h]
 simp only [fbE, lpE, binA, infR]
 have e1 : max (e + (m.log2 : Int) - ((52 : Nat) : Int)) (-1074) = qtm m e := rfl
 rw [e1, show qtm m e - -1074 = qtm m e + 1074 by omega]
 unfold kpt INF
 congr 3
 ·split
  ·rename_i h1
   rw [show (qtm m e - e).toNat = 0 by omega, cut_zero, Nat.shiftLeft_eq]
  ·rename_i h1
   rw [show (e - qtm m e).toNat = 0 by omega, Nat.shiftLeft_zero]
theorem kpt_le {neg : Bool} {m : Nat} {e : Int} (h : m ≠ 0) : kpt neg m e ≤ 9007199254740992 ∧ (-1074 < qtm m e → 4503599627370496 ≤ kpt neg m e) := by
 have l1 := Nat.log2_self_le h
 have l2 := Nat.lt_log2_self (n := m)
 have p53 : (2 : Nat) ^ 53 = 9007199254740992 := by decide
 have p52 : (2 : Nat) ^ 52 = 4503599627370496 := by decide
 have hq : e + m.log2 - 52 ≤ qtm m e ∧ -1074 ≤ qtm m e ∧ (-1074 < qtm m e → qtm m e = e + m.log2 - 52) := by unfold qtm; omega
 obtain ⟨q1, q2, q3⟩ := hq
 unfold kpt
 generalize qtm m e = q at *
 split
 ·rename_i h1
  obtain ⟨j, hj⟩ : ∃ j : Nat, (e - q).toNat = j := ⟨_, rfl⟩
  rw [hj]
  constructor
  ·have : m * 2 ^ j < 2 ^ (m.log2 + 1) * 2 ^ j := (Nat.mul_lt_mul_right (Nat.two_pow_pos j)).2 l2
   rw [← Nat.pow_add] at this
   have h3 : 2 ^ (m.log2 + 1 + j) ≤ 2 ^ 53 := Nat.pow_le_pow_right (by omega) (by omega)
   omega
  ·intro h2
   have h4 := q3 h2
   have : 2 ^ m.log2 * 2 ^ j ≤ m * 2 ^ j := Nat.mul_le_mul_right _ l1
   rw [← Nat.pow_add, show m.log2 + j = 52 by omega] at this
   omega
 ·rename_i h1
  obtain ⟨s, hs⟩ : ∃ s : Nat, (q - e).toNat = s := ⟨_, rfl⟩
  rw [hs, cut_low h (by omega)]
  have hp := Nat.two_pow_pos s
  have b1 : m / 2 ^ s < 2 ^ 53 := by
   rw [Nat.div_lt_iff_lt_mul hp, ← Nat.pow_add]
   exact Nat.lt_of_lt_of_le l2 (Nat.pow_le_pow_right (by omega) (by omega))
  constructor
  ·split <;> omega
  ·intro h2
   have h4 := q3 h2
   have b2 : 2 ^ 52 ≤ m / 2 ^ s := by
    rw [Nat.le_div_iff_mul_le hp, ← Nat.pow_add, show 52 + s = m.log2 by omega]
    exact l1
   split <;> omega
def sgb (neg : Bool) : Nat := if neg = true then 9223372036854775808 else 0
theorem word_sgb (neg : Bool) (r : Nat) : Ieee.double.word neg r = sgb neg + r := by
 unfold Ieee.Format.word sgb
 rw [signW]
 cases neg <;> simp
def putW (neg : Bool) (field f : Nat) : Nat := sgb neg + (field * 4503599627370496 + f)
section round
variable {neg : Bool} {m : Nat} {e : Int} (h : m ≠ 0)
include h
theorem rnd_sub {K : Nat} (hK : K = kpt neg m e) (h1 : K < 4503599627370496) : putW neg 0 K = Ieee.double.nearest neg m e := by
 have h2 := (kpt_le (neg := neg) (e := e) h).2
 have h3 : -1074 ≤ qtm m e := by unfold qtm; omega
 have h4 : (qtm m e + 1074).toNat = 0 := by
  by_cases h5 : -1074 < qtm m e
  ·have := h2 h5; omega
  ·omega
 rw [nearest_kpt h, h4, word_sgb, ← hK]
 unfold putW INF
 omega
theorem rnd_nrm {K : Nat} {q : Int} (hK : K = kpt neg m e) (hq : q = qtm m e) (h1 : 4503599627370496 ≤ K) (h2 : K < 9007199254740992) (h3 : q + 52 ≤ 1023) : putW neg (q + 1075).toNat (K % 4503599627370496) = Ieee.double.nearest neg m e := by
 have h4 : -1074 ≤ qtm m e := by unfold qtm; omega
 rw [nearest_kpt h, word_sgb, ← hK, ← hq]
 unfold putW INF
 have : (q + 1075).toNat = (q + 1074).toNat + 1 := by omega
 rw [this]
 have h5 : (q + 1074).toNat ≤ 2045 := by omega
 generalize (q + 1074).toNat = t at *
 omega
theorem rnd_two {K : Nat} {q : Int} (hK : K = kpt neg m e) (hq : q = qtm m e) (h2 : K = 9007199254740992) (h3 : q + 1 + 52 ≤ 1023) : putW neg (q + 1 + 1075).toNat 0 = Ieee.double.nearest neg m e := by
 have h4 : -1074 ≤ qtm m e := by unfold qtm; omega
 rw [nearest_kpt h, word_sgb, ← hK, ← hq, h2]
 unfold putW INF
 have : (q + 1 + 1075).toNat = (q + 1074).toNat + 2 := by omega
 rw [this]
 have h5 : (q + 1074).toNat ≤ 2044 := by omega
 generalize (q + 1074).toNat = t at *
 omega
theorem rnd_inf {K : Nat} {q : Int} (hK : K = kpt neg m e) (hq : q = qtm m e) (h1 : 4503599627370496 ≤ K) (h3 : 1023 < q + 52) : putW neg 2047 0 = Ieee.double.nearest neg m e := by
 rw [nearest_kpt h, word_sgb, ← hK, ← hq]
 unfold putW INF
 have h5 : 2046 ≤ (q + 1074).toNat := by omega
 generalize (q + 1074).toNat = t at *
 omega
theorem rnd_inf2 {K : Nat} {q : Int} (hK : K = kpt neg m e) (hq : q = qtm m e) (h1 : K = 9007199254740992) (h3 : 1023 < q + 1 + 52) : putW neg 2047 0 = Ieee.double.nearest neg m e := by
 rw [nearest_kpt h, word_sgb, ← hK, ← hq, h1]
 unfold putW INF
 have h5 : 2045 ≤ (q + 1074).toNat := by omega
 generalize (q + 1074).toNat = t at *
 omega
end round
end Go.Bn
namespace Go.Bn
open Go
section ops
variable {P : Program} {n : Nat} {ops : Array Oper} {Γ : Facts} {ρ : Env} {δ : VEnv} {τ : List VR}
variable {d : Nat} {ty : TypeId} {pos : String} {af : Array Edge}
theorem op_imax {x y : Operand} {ats : Array TypeId} {k : IntKind} {a b : Int} (hx : Lk Γ δ ρ x (isv (.int k a))) (hy : Lk Γ δ ρ y (isv (.int k b))) :
  OpOK P n ops Γ ρ δ τ ⟨some d, .call ⟨.builtin .max, #[x, y], ats⟩, ty, pos, af, none⟩ .no (.c (isv (.int k (max a b)))) dum :=
 ok_pure fun A c _ hr => by
  have h1 := (hr x _ (by simp [Op.operands, Call.operands]) hx).1
  have h2 := (hr y _ (by simp [Op.operands, Call.operands]) hy).1
  refine ⟨.int k (max a b), ?_, rfl, rfl⟩
  by_cases h : a < b
  ·simp [execOp, resolve, invoke, builtin, Builtin.max_, Builtin.max2, h1, h2, h, show max a b = b by omega]
  ·simp [execOp, resolve, invoke, builtin, Builtin.max_, Builtin.max2, h1, h2, h, show max a b = a by omega]
end ops
theorem J_cutS {X : Cx} {Γ : Facts} {ρ : Env} {σ : List Res} {Q : Exit → Act → World → Prop} {ρc ρ1 : Env} {σ' : List Res} {x y : Code} (hp : To X Γ ρ σ Γ ρc σ') (h1 : J X Γ ρ σ x (Exit.then (fun a w => ∃ c', c'.w = w ∧ St X Γ (ρ1 ++ ρc) σ' a c') Q)) (h2 : J X Γ (ρ1 ++ ρc) σ' y Q) : J X Γ ρ σ x (Exit.then (fun a w => y.wp X.P Q a w) Q) := fun a c hs =>
 fun b kk cs => by
  obtain ⟨e, a', w', hq, har⟩ := h1 a c hs b kk cs
  refine ⟨e, a', w', ?_, har⟩
  cases e
  case normal =>
   obtain ⟨c', hw, hs'⟩ := hq
   show y.wp X.P Q a' w'
   rw [← hw]
   exact h2 a' c' hs'
  all_goals exact hq
def isq (u : Value) : SP := ⟨fun v _ => v = u ∧ ∃ b, u = .pointer (some ⟨b, 0, none⟩), fun _ _ _ _ h => h⟩
theorem sb_isq {Γ : Facts} {u : Value} : Sb Γ (isq u) (ipo u 0) := fun v c _ ⟨h1, b, h2⟩ => ⟨b, .inl h2, h1.trans h2⟩
theorem To.isq {X : Cx} {Γ : Facts} {ρ : Env} {σ : List Res} (k t : Nat) {u : Value} {cells : List SP} {T : TypeId} (hk : nth σ k = some (blk u cells T)) (ht : ρ.get t = some (ipo u 0)) : To X Γ ρ σ Γ ((t, Go.Bn.isq u) :: ρ) σ := fun a c hs => by
 refine ⟨c, rfl, hs.size, hs.defers, hs.facts, fun t' p hp => ?_, hs.own⟩
 simp only [Env.get] at hp
 by_cases e : t = t'
 ·subst e
  simp at hp
  subst hp
  obtain ⟨obs, _, hres⟩ := hs.own
  obtain ⟨b, cur, g1, _⟩ := hres k _ hk
  obtain ⟨b', g2, g3⟩ := hs.env t _ ht
  refine ⟨?_, b, g1⟩
  rw [g1] at g2
  rcases g2 with g2 | ⟨_, _, g2⟩
  ·cases g2; rw [g3, g1]
  ·cases g2
 ·rw [beq_ne e] at hp
  exact hs.env t' p hp
theorem To_bit {X : Cx} {Γ : Facts} {ρ : Env} {σ : List Res} {K : Act → World → Prop} (t : Nat) {x : Nat} (ht : ρ.get t = some (bitp x)) (h : ∀ b : Nat, b < 2 ^ 64 → cn b = x → JN X Γ ((t, isv (.int .u64 (b : Int))) :: ρ) σ K) : JN X Γ ρ σ K := fun a c hs => by
 obtain ⟨b, h1, h2, h3⟩ := hs.env t _ ht
 refine h b h2 h3 a c ⟨hs.size, hs.defers, hs.facts, fun t' p hp => ?_, hs.own⟩
 simp only [Env.get] at hp
 by_cases e : t = t'
 ·subst e
  simp at hp
  subst hp
  exact ⟨h1, rfl⟩
 ·rw [beq_ne e] at hp
  exact hs.env t' p hp
def len8 : ByteArray := ⟨#[0, 1, 2, 2, 3, 3, 3, 3, 4, 4, 4, 4, 4, 4, 4, 4, 5, 5, 5, 5, 5, 5, 5, 5, 5, 5, 5, 5, 5, 5, 5, 5, 6, 6, 6, 6, 6, 6, 6, 6, 6, 6, 6, 6, 6, 6, 6, 6, 6, 6, 6, 6, 6, 6, 6, 6, 6, 6, 6, 6, 6, 6, 6, 6, 7, 7, 7, 7, 7, 7, 7, 7, 7, 7, 7, 7, 7, 7, 7, 7, 7, 7, 7, 7, 7, 7, 7, 7, 7, 7, 7, 7, 7, 7, 7, 7, 7, 7, 7, 7, 7, 7, 7, 7, 7, 7, 7, 7, 7, 7, 7, 7, 7, 7, 7, 7, 7, 7, 7, 7, 7, 7, 7, 7, 7, 7, 7, 7, 8, 8, 8, 8, 8, 8, 8, 8, 8, 8, 8, 8, 8, 8, 8, 8, 8, 8, 8, 8, 8, 8, 8, 8, 8, 8, 8, 8, 8, 8, 8, 8, 8, 8, 8, 8, 8, 8, 8, 8, 8, 8, 8, 8, 8, 8, 8, 8, 8, 8, 8, 8, 8, 8, 8, 8, 8, 8, 8, 8, 8, 8, 8, 8, 8, 8, 8, 8, 8, 8, 8, 8, 8, 8, 8, 8, 8, 8, 8, 8, 8, 8, 8, 8, 8, 8, 8, 8, 8, 8, 8, 8, 8, 8, 8, 8, 8, 8, 8, 8, 8, 8, 8, 8, 8, 8, 8, 8, 8, 8, 8, 8, 8, 8, 8, 8, 8, 8, 8, 8, 8, 8, 8, 8, 8, 8, 8, 8]⟩
theorem len8_nat : ∀ i : Nat, i < 256 → len8[i]? = some (UInt8.ofNat (bl i)) := by decide +kernel
theorem len8_at {z : Int} (h0 : 0 ≤ z) (h1 : z < 256) : len8[z.toNat]? = some (UInt8.ofNat (bl z.toNat)) := len8_nat _ (by omega)
theorem len8_wrap {z : Int} (h0 : 0 ≤ z) (h1 : z < 256) : IntKind.i64.wrap (((UInt8.ofNat (bl z.toNat)).toNat : Nat) : Int) = (bl z.toNat : Int) := by
 have h := bl_lt (t := z.toNat) (k := 8) (by omega)
 have e : (UInt8.ofNat (bl z.toNat)).toNat = bl z.toNat := by simp; omega
 rw [e]
 exact zO (by omega) (by omega)
theorem shr32_16 (z : Int) : z.fdiv (2 ^ min (16 : Int).toNat IntKind.u32.bits) = z / 65536 := by
 show z.fdiv 65536 = z / 65536
 exact Int.fdiv_eq_ediv_of_nonneg z (by omega)
theorem shr32_8 (z : Int) : z.fdiv (2 ^ min (8 : Int).toNat IntKind.u32.bits) = z / 256 := by
 show z.fdiv 256 = z / 256
 exact Int.fdiv_eq_ediv_of_nonneg z (by omega)
theorem wr8 {z : Int} (h0 : 0 ≤ z) (h1 : z < 256) : IntKind.u8.wrap z = z := by
 simp [IntKind.wrap, IntKind.bits, IntKind.signed]
 omega
theorem bl_16 {z : Int} (h : 65536 ≤ z) : (bl z.toNat : Int) = 16 + (bl (z / 65536).toNat : Int) := by
 have := bl_shr (t := z.toNat) (k := 16) (by show 65536 ≤ _; omega)
 rw [show z.toNat / 2 ^ 16 = (z / 65536).toNat by show z.toNat / 65536 = _; omega] at this
 omega
theorem bl_8 {z : Int} (h : 256 ≤ z) : (bl z.toNat : Int) = 8 + (bl (z / 256).toNat : Int) := by
 have := bl_shr (t := z.toNat) (k := 8) (by show 256 ≤ _; omega)
 rw [show z.toNat / 2 ^ 8 = (z / 256).toNat by show z.toNat / 256 = _; omega] at this
 omega
theorem wr_bl {n y : Int} (h0 : 0 ≤ n) (h1 : n ≤ 100) (h2 : 0 ≤ y) (h3 : y < 256) : IntKind.i64.wrap (n + (bl y.toNat : Int)) = n + (bl y.toNat : Int) := by
 have h := bl_lt (t := y.toNat) (k := 8) (by omega)
 exact zO (by omega) (by omega)
theorem rgt_end {m : List Int} {n i : Nat} (hm : Dig m) (hw : ¬ (m.length : Int) ≤ ((n / 32 : Nat) : Int)) (hi : i = m.length - n / 32) : magI (rgtP m (n / 32) (n % 32) i) = magI m / 2 ^ n := by
 rw [rgtP_all hi, rgt_mag hm (by omega)]
theorem rgtP_dig (m : List Int) (w s i : Nat) : Dig (rgtP m w s i) := fun z hz => by
 unfold rgtP at hz
 rcases List.mem_append.1 hz with h | h
 ·exact rgtL_dig m w s z (List.mem_of_mem_take h)
 ·rw [(List.mem_replicate.1 h).2]; omega
theorem rgtD_1 {m : List Int} {w s i : Nat} : ((m.getD (w + i) 0 + 4294967296 * m.getD (w + i + 1) 0) / 2 ^ s) % 4294967296 = rgtD m w s i := rfl
theorem rgtD_2 {m : List Int} {w s i : Nat} (h : ¬ ((w : Int) + (i : Int) + 1 < (m.length : Int))) : (m.getD (w + i) 0 / 2 ^ s) % 4294967296 = rgtD m w s i := by
 unfold rgtD
 rw [getD_over (show m.length ≤ w + i + 1 by omega), Int.mul_zero, Int.add_zero]
theorem bl_limbs {n : Nat} (h : (limbs n).length = 0) : 0 = (bl n : Int) := by rw [limbs_len0] at h; rw [h]; rfl
theorem bl_limbs2 {n : Nat} (h : ¬ (limbs n).length = 0) : 32 * (((limbs n).length : Int) - 1) + (bl ((limbs n).getD ((limbs n).length - 1 : Int).toNat 0).toNat : Int) = (bl n : Int) := by
 rw [bl_top n, if_neg h, show ((limbs n).length - 1 : Int).toNat = (limbs n).length - 1 by omega]
theorem set_1 {x : Int} : sgnI (decide (x < 0)) x.natAbs = x := by
 unfold sgnI
 by_cases h : x < 0
 ·rw [if_pos (by simpa using h)]; omega
 ·rw [if_neg (by simpa using h)]; omega
theorem bit_0 {x : Nat} (h : ¬ (0 : Int) < (limbs x).length) : x = 0 := limbs_len0.1 (by omega)
theorem bit_and (x : Nat) : bitsOf .and .u32 ((limbs x).getD 0 0) 1 = ((x % 2 : Nat) : Int) := by
 rw [limbs_0]
 have h := Nat.mod_lt x (show 0 < 4294967296 by decide)
 have e1 : (BitVec.ofInt 32 ((x % 4294967296 : Nat) : Int)).toNat = x % 4294967296 := by simp [BitVec.toNat_ofInt]; omega
 have e3 : bitsOf .and .u32 ((x % 4294967296 : Nat) : Int) 1 = IntKind.u32.wrap (((BitVec.ofInt 32 ((x % 4294967296 : Nat) : Int)) &&& (BitVec.ofInt 32 (1 : Int))).toNat : Int) := rfl
 rw [e3, BitVec.toNat_and, e1]
 rw [show (BitVec.ofInt 32 (1 : Int)).toNat = 2 ^ 1 - 1 by decide, and_pow, wr32]
 omega
theorem u64_1 {x : Nat} (h : ¬ (1 : Int) < (limbs x).length) : (limbs x).getD 0 0 = (x : Int) := by
 rw [limbs_0, Nat.mod_eq_of_lt (limbs_lt1 (by omega))]
theorem u64_2 {x : Nat} (hx : x < 18446744073709551616) : (limbs x).getD 0 0 + 4294967296 * (limbs x).getD 1 0 = (x : Int) := by
 rw [limbs_0, limbs_1]
 omega
theorem wrI_nat {z : Int} (h0 : 0 ≤ z) (h1 : z < 9223372036854775808) : IntKind.i64.wrap z = ((z.toNat : Nat) : Int) := by rw [zO (by omega) (by omega)]; omega
theorem sumA_1 {x y : Int} (hx : 0 ≤ x) (hy : 0 ≤ y) : sgnI (decide (y < 0) != false) (x.natAbs + y.natAbs) = x + y := by
 unfold sgnI
 rw [show decide (y < 0) = false by simp; omega]
 show ((x.natAbs + y.natAbs : Nat) : Int) = _
 omega
theorem up_eq (q : Nat) (c : Int) : (cmpB .gtr c 0 || (cmpB .eql c 0 && cmpB .eql ((q % 2 : Nat) : Int) 1)) = upB q c := by
 unfold upB cmpB
 have h1 : (((q % 2 : Nat) : Int) == 1) = decide (q % 2 = 1) := by
  rw [Bool.eq_iff_iff]; simp; omega
 have h2 : (c == 0) = decide (c = 0) := rfl
 show (decide (0 < c) || ((c == 0) && (((q % 2 : Nat) : Int) == 1))) = _
 rw [h1, h2]
theorem sml_low (m s : Nat) (hm : m < 18446744073709551616) : Sml (((m / 2 ^ s : Nat) : Int) * 2 ^ s) := by
 have : (2 : Int) ^ s = ((2 ^ s : Nat) : Int) := by simp
 rw [this, ← Int.natCast_mul]
 have h2 := Nat.div_mul_le_self m (2 ^ s)
 exact sml_of (by omega)
theorem half_nat (s : Nat) : (1 : Int) * 2 ^ s = ((2 ^ s : Nat) : Int) := by simp
theorem put_or {n f : Nat} (hn : n < 2048) (hf : f < 4503599627370496) : bitsOf .or .u64 ((n * 4503599627370496 : Nat) : Int) ((f : Nat) : Int) = ((n * 4503599627370496 + f : Nat) : Int) := by
 rw [bits_or _ _ (by omega) (by omega)]
 congr 1
 rw [show (4503599627370496 : Nat) = 2 ^ 52 by decide, or_add _ _ _ (by omega)]
theorem put_top {n f : Nat} (hn : n < 2048) (hf : f < 4503599627370496) : bitsOf .or .u64 ((n * 4503599627370496 + f : Nat) : Int) 9223372036854775808 = ((putW true n f : Nat) : Int) := by
 have e : (9223372036854775808 : Int) = ((2 ^ 63 : Nat) : Int) := by decide
 rw [e, bits_or _ _ (by omega) (by decide), Nat.or_comm]
 congr 1
 have := or_add 1 (n * 4503599627370496 + f) 63 (by omega)
 rw [Nat.one_mul] at this
 rw [this]
 rfl
theorem put_no {n f : Nat} : ((n * 4503599627370496 + f : Nat) : Int) = ((putW false n f : Nat) : Int) := by
 unfold putW sgb
 simp
theorem and_frac (x : Nat) (hx : x < 2 ^ 64) : bitsOf .and .u64 ((x : Nat) : Int) 4503599627370495 = ((x % 4503599627370496 : Nat) : Int) := by
 rw [show (4503599627370495 : Int) = ((2 ^ 52 - 1 : Nat) : Int) by decide, bits_and _ _ hx (by decide), and_pow]
theorem and_expo (b : Nat) (hb : b < 2 ^ 64) : bitsOf .and .u64 ((b / 2 ^ 52 : Nat) : Int) 2047 = ((expo b : Nat) : Int) := by
 rw [show (2047 : Int) = ((2 ^ 11 - 1 : Nat) : Int) by decide, bits_and _ _ (Nat.lt_of_le_of_lt (Nat.div_le_self ..) hb) (by decide), and_pow]
 rfl
theorem and_sign (b : Nat) (hb : b < 2 ^ 64) : cmpB .eql (bitsOf .and .u64 ((b / 2 ^ 63 : Nat) : Int) 1) 1 = sgn b := by
 rw [show (1 : Int) = ((2 ^ 1 - 1 : Nat) : Int) by decide, bits_and _ _ (Nat.lt_of_le_of_lt (Nat.div_le_self ..) hb) (by decide), and_pow]
 unfold cmpB sgn
 show decide (((b / 2 ^ 63 % 2 : Nat) : Int) = 1) = (b / 9223372036854775808 % 2 == 1)
 rw [show (2 : Nat) ^ 63 = 9223372036854775808 by decide]
 cases h : (b / 9223372036854775808 % 2 == 1)
 ·simp at h ⊢; omega
 ·simp at h ⊢; omega
theorem or_frac (b : Nat) : bitsOf .or .u64 ((frac b : Nat) : Int) 4503599627370496 = ((frac b + 4503599627370496 : Nat) : Int) := by
 have hf := frac_lt b
 rw [show (4503599627370496 : Int) = ((4503599627370496 : Nat) : Int) by rfl, bits_or _ _ (by omega) (by decide), Nat.or_comm]
 congr 1
 have := or_add 1 (frac b) 52 (by omega)
 rw [Nat.one_mul] at this
 rw [show (4503599627370496 : Nat) = 2 ^ 52 by decide, this]
 omega
structure Nm where
 k : Int
 s : Bool
 m : Nat
 e : Int
abbrev numP (n : Nm) : SP := aggp [isv (.int .i64 n.k), isv (.bool n.s), intP (n.m : Int), isv (.int .i64 n.e)]
abbrev dblP : SP := aggp [isv (.int .i64 53), isv (.int .i64 (-1022)), isv (.int .i64 1023), isv (.int .i64 11)]
def takN (b : Nat) : Nm := if expo b = 2047 then (if frac b ≠ 0 then ⟨2, false, 0, 0⟩ else ⟨1, sgn b, 0, -1074⟩) else ⟨0, sgn b, mgn b, plc b⟩
def samW (n : Nm) : Nat := if n.k = 2 then NAN else if n.k = 1 then putW n.s 2047 0 else if n.m = 0 then putW n.s 0 0 else Ieee.double.nearest n.s n.m n.e
def sclM (n : Nm) (k : Int) : Nm := if n.k = 0 then ⟨n.k, n.s, n.m, n.e + max (-5000) (min k 5000)⟩ else n
def sclW (b : Nat) (k : Int) : Nat := samW (sclM (takN b) k)
theorem takN_k (b : Nat) : (takN b).k = 0 ∨ (takN b).k = 1 ∨ (takN b).k = 2 := by unfold takN; split <;> (try split) <;> simp
theorem takN_m (b : Nat) : (takN b).m < 18446744073709551616 ∧ -1074 ≤ (takN b).e ∧ (takN b).e ≤ 2000 := by
 have h1 := mgn_lt b
 have h2 := plc_ge b
 have h3 : plc b ≤ 2000 := by
  have h4 := expo_lt b
  by_cases h : expo b = 0
  ·rw [(mgn_0 h).2]; omega
  ·rw [(mgn_1 (by omega)).2]; omega
 unfold takN
 split
 ·split
  ·exact ⟨by show 0 < _; decide, by show (-1074 : Int) ≤ 0; decide, by show (0 : Int) ≤ 2000; decide⟩
  ·exact ⟨by show 0 < _; decide, by show (-1074 : Int) ≤ -1074; decide, by show (-1074 : Int) ≤ 2000; decide⟩
 ·exact ⟨by show mgn b < _; omega, h2, h3⟩
theorem take_nan {b : Nat} (h1 : expo b = 2047) (h2 : frac b ≠ 0) : takN b = ⟨2, false, 0, 0⟩ := by unfold takN; rw [if_pos h1, if_pos h2]
theorem take_inf {b : Nat} (h1 : expo b = 2047) (h2 : frac b = 0) : takN b = ⟨1, sgn b, frac b, -1074⟩ := by unfold takN; rw [if_pos h1, if_neg (by simpa using h2), h2]
theorem take_sub {b : Nat} (h1 : expo b = 0) : takN b = ⟨0, sgn b, frac b, -1074⟩ := by
 unfold takN; rw [if_neg (by omega), (mgn_0 h1).1, (mgn_0 h1).2]
theorem take_nrm {b : Nat} (h1 : ¬ expo b = 2047) (h2 : 0 < expo b) : takN b = ⟨0, sgn b, frac b + 4503599627370496, (expo b : Int) - 1 - 1074⟩ := by
 unfold takN; rw [if_neg h1, (mgn_1 h2).1, (mgn_1 h2).2]
theorem intP_zero : intP 0 = ptp [isv (.bool false), ils .u32 []] := by
 show ptp [isv (.bool (decide ((0 : Int) < 0))), ils .u32 (limbs (0 : Int).natAbs)] = _
 rw [show (0 : Int).natAbs = 0 from rfl, limbs_zero]
 rfl
theorem cutC_no {m s : Nat} (h : m % 2 ^ s = 0) : cutC m s = -2 := if_pos h
theorem cutC_yes {m s : Nat} (h : ¬ m % 2 ^ s = 0) : cutC m s = cmpN (m % 2 ^ s) (2 ^ (s - 1)) := if_neg h
theorem low_rest (m s : Nat) : ((m : Int)) - ((m / 2 ^ s : Nat) : Int) * 2 ^ s = ((m % 2 ^ s : Nat) : Int) := by
 have h := Nat.div_add_mod m (2 ^ s)
 have : (2 : Int) ^ s = ((2 ^ s : Nat) : Int) := by simp
 rw [this, ← Int.natCast_mul, Nat.mul_comm]
 omega
theorem up_no {q : Nat} : upB q (-2) = false := by unfold upB; simp
theorem k_two {K : Nat} (h : K ≤ 9007199254740992) (hb : (53 : Int) < (bl K : Int)) : K = 9007199254740992 := by
 by_cases hc : K < 9007199254740992
 ·have := bl_lt (t := K) (k := 53) hc
  omega
 ·omega
theorem k_lt {K : Nat} (hb : (bl K : Int) ≤ 53) : K < 9007199254740992 := bl_le (t := K) (k := 53) (by omega)
theorem k_small {K : Nat} (hb : (bl K : Int) < 53) : K < 4503599627370496 := bl_le (t := K) (k := 52) (by omega)
theorem k_big {K : Nat} (hb : ¬ (bl K : Int) < 53) : 4503599627370496 ≤ K := by
 by_cases hc : K < 4503599627370496
 ·have := bl_lt (t := K) (k := 52) hc
  omega
 ·omega
theorem bl_half : bl 4503599627370496 = 53 := by decide +kernel
theorem nat_mul2 (m k : Nat) : (m : Int) * 2 ^ k = ((m * 2 ^ k : Nat) : Int) := by simp
theorem kpt_hi {neg : Bool} {m : Nat} {e : Int} (h : qtm m e ≤ e) : kpt neg m e = if upB (m * 2 ^ (e - qtm m e).toNat) (-2) = true then m * 2 ^ (e - qtm m e).toNat + 1 else m * 2 ^ (e - qtm m e).toNat := by
 unfold kpt
 rw [if_pos h, if_neg (by rw [up_no]; decide)]
theorem kpt_lo {neg : Bool} {m : Nat} {e : Int} (hm : m ≠ 0) (h : ¬ qtm m e ≤ e) : kpt neg m e = if upB (m / 2 ^ (qtm m e - e).toNat) (cutC m (qtm m e - e).toNat) = true then m / 2 ^ (qtm m e - e).toNat + 1 else m / 2 ^ (qtm m e - e).toNat := by
 unfold kpt
 rw [if_neg h, cut_low hm (by omega)]
theorem sam_nan {n : Nm} (h : n.k = 2) : samW n = NAN := by unfold samW; rw [if_pos h]
theorem sam_inf {n : Nm} (h : n.k = 1) : samW n = putW n.s 2047 0 := by unfold samW; rw [if_neg (by omega), if_pos h]
theorem sam_zero {n : Nm} (h : n.k = 0) (h2 : n.m = 0) : samW n = putW n.s 0 0 := by unfold samW; rw [if_neg (by omega), if_neg (by omega), if_pos h2]
theorem sam_fin {n : Nm} (h : n.k = 0) (h2 : n.m ≠ 0) : samW n = Ieee.double.nearest n.s n.m n.e := by unfold samW; rw [if_neg (by omega), if_neg (by omega), if_neg h2]
theorem scl_at {b : Nat} {k : Int} (h : (takN b).k = 0) : sclW b k = samW ⟨(takN b).k, (takN b).s, (takN b).m, (takN b).e + max (-5000) (min k 5000)⟩ := by unfold sclW sclM; rw [if_pos h]
theorem scl_no {b : Nat} {k : Int} (h : ¬ (takN b).k = 0) : sclW b k = samW (takN b) := by unfold sclW sclM; rw [if_neg h]
end Go.Bn
