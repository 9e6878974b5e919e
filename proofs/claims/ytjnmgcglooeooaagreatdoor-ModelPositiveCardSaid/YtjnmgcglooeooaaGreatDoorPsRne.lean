/-
 Words of numbers taken apart and put together; what a scaled number's word is.
-/
import Derived.Test.YtjnmgcglooeooaaGreatDoorPsRnd
set_option linter.unusedVariables false
set_option linter.unusedSimpArgs false
namespace Go.Bn
open Go
theorem J_cutS {X : Cx} {Γ : Facts} {ρ : Env} {σ : List Res} {Q : Exit → Act → World → Prop} {ρc ρ1 : Env} {σ' : List Res} {x y : Code} (hp : To X Γ ρ σ Γ ρc σ') (h1 : J X Γ ρ σ x (Exit.then (fun a w => ∃ c', c'.w = w ∧ St X Γ (ρ1 ++ ρc) σ' a c') Q)) (h2 : J X Γ (ρ1 ++ ρc) σ' y Q) : J X Γ ρ σ x (Exit.then (fun a w => y.wp X.P Q a w) Q) := fun a c hs =>
 fun b kk cs => by
  obtain ⟨e, a', w', hq, har⟩ := h1 a c hs b kk cs
  refine ⟨e, a', w', ?_, har⟩
  cases e
  case normal =>
   obtain ⟨c', hw, hs'⟩ := hq
   show y.wp X.P Q a' w'
   rw [← hw]
   exact h2 a' c' hs'
  all_goals exact hq
def len8 : ByteArray := ⟨#[0, 1, 2, 2, 3, 3, 3, 3, 4, 4, 4, 4, 4, 4, 4, 4, 5, 5, 5, 5, 5, 5, 5, 5, 5, 5, 5, 5, 5, 5, 5, 5, 6, 6, 6, 6, 6, 6, 6, 6, 6, 6, 6, 6, 6, 6, 6, 6, 6, 6, 6, 6, 6, 6, 6, 6, 6, 6, 6, 6, 6, 6, 6, 6, 7, 7, 7, 7, 7, 7, 7, 7, 7, 7, 7, 7, 7, 7, 7, 7, 7, 7, 7, 7, 7, 7, 7, 7, 7, 7, 7, 7, 7, 7, 7, 7, 7, 7, 7, 7, 7, 7, 7, 7, 7, 7, 7, 7, 7, 7, 7, 7, 7, 7, 7, 7, 7, 7, 7, 7, 7, 7, 7, 7, 7, 7, 7, 7, 8, 8, 8, 8, 8, 8, 8, 8, 8, 8, 8, 8, 8, 8, 8, 8, 8, 8, 8, 8, 8, 8, 8, 8, 8, 8, 8, 8, 8, 8, 8, 8, 8, 8, 8, 8, 8, 8, 8, 8, 8, 8, 8, 8, 8, 8, 8, 8, 8, 8, 8, 8, 8, 8, 8, 8, 8, 8, 8, 8, 8, 8, 8, 8, 8, 8, 8, 8, 8, 8, 8, 8, 8, 8, 8, 8, 8, 8, 8, 8, 8, 8, 8, 8, 8, 8, 8, 8, 8, 8, 8, 8, 8, 8, 8, 8, 8, 8, 8, 8, 8, 8, 8, 8, 8, 8, 8, 8, 8, 8, 8, 8, 8, 8, 8, 8, 8, 8, 8, 8, 8, 8, 8, 8, 8, 8, 8, 8]⟩
theorem len8_nat : ∀ i : Nat, i < 256 → len8[i]? = some (UInt8.ofNat (bl i)) := by decide +kernel
theorem len8_at {z : Int} (h0 : 0 ≤ z) (h1 : z < 256) : len8[z.toNat]? = some (UInt8.ofNat (bl z.toNat)) := len8_nat _ (by omega)
theorem len8_wrap {z : Int} (h0 : 0 ≤ z) (h1 : z < 256) : IntKind.i64.wrap (((UInt8.ofNat (bl z.toNat)).toNat : Nat) : Int) = (bl z.toNat : Int) := by
 have h := bl_lt (t := z.toNat) (k := 8) (by omega)
 have e : (UInt8.ofNat (bl z.toNat)).toNat = bl z.toNat := by simp; omega
 rw [e]
 exact zO (by omega) (by omega)
theorem shr32_16 (z : Int) : z.fdiv (2 ^ min (16 : Int).toNat IntKind.u32.bits) = z / 65536 := by
 show z.fdiv 65536 = z / 65536
 exact Int.fdiv_eq_ediv_of_nonneg z (by omega)
theorem shr32_8 (z : Int) : z.fdiv (2 ^ min (8 : Int).toNat IntKind.u32.bits) = z / 256 := by
 show z.fdiv 256 = z / 256
 exact Int.fdiv_eq_ediv_of_nonneg z (by omega)
theorem wr8 {z : Int} (h0 : 0 ≤ z) (h1 : z < 256) : IntKind.u8.wrap z = z := by
 simp [IntKind.wrap, IntKind.bits, IntKind.signed]
 omega
theorem bl_16 {z : Int} (h : 65536 ≤ z) : (bl z.toNat : Int) = 16 + (bl (z / 65536).toNat : Int) := by
 have := bl_shr (t := z.toNat) (k := 16) (by show 65536 ≤ _; omega)
 rw [show z.toNat / 2 ^ 16 = (z / 65536).toNat by show z.toNat / 65536 = _; omega] at this
 omega
theorem bl_8 {z : Int} (h : 256 ≤ z) : (bl z.toNat : Int) = 8 + (bl (z / 256).toNat : Int) := by
 have := bl_shr (t := z.toNat) (k := 8) (by show 256 ≤ _; omega)
 rw [show z.toNat / 2 ^ 8 = (z / 256).toNat by show z.toNat / 256 = _; omega] at this
 omega
theorem wr_bl {n y : Int} (h0 : 0 ≤ n) (h1 : n ≤ 100) (h2 : 0 ≤ y) (h3 : y < 256) : IntKind.i64.wrap (n + (bl y.toNat : Int)) = n + (bl y.toNat : Int) := by
 have h := bl_lt (t := y.toNat) (k := 8) (by omega)
 exact zO (by omega) (by omega)
theorem rgt_end {m : List Int} {n i : Nat} (hm : Dig m) (hw : ¬ (m.length : Int) ≤ ((n / 32 : Nat) : Int)) (hi : i = m.length - n / 32) : magI (rgtP m (n / 32) (n % 32) i) = magI m / 2 ^ n := by
 rw [rgtP_all hi, rgt_mag hm (by omega)]
theorem rgtP_dig (m : List Int) (w s i : Nat) : Dig (rgtP m w s i) := fun z hz => by
 unfold rgtP at hz
 rcases List.mem_append.1 hz with h | h
 ·exact rgtL_dig m w s z (List.mem_of_mem_take h)
 ·rw [(List.mem_replicate.1 h).2]; omega
theorem rgtD_1 {m : List Int} {w s i : Nat} : ((m.getD (w + i) 0 + 4294967296 * m.getD (w + i + 1) 0) / 2 ^ s) % 4294967296 = rgtD m w s i := rfl
theorem rgtD_2 {m : List Int} {w s i : Nat} (h : ¬ ((w : Int) + (i : Int) + 1 < (m.length : Int))) : (m.getD (w + i) 0 / 2 ^ s) % 4294967296 = rgtD m w s i := by
 unfold rgtD
 rw [getD_over (show m.length ≤ w + i + 1 by omega), Int.mul_zero, Int.add_zero]
theorem bl_limbs {n : Nat} (h : (limbs n).length = 0) : 0 = (bl n : Int) := by rw [limbs_len0] at h; rw [h]; rfl
theorem bl_limbs2 {n : Nat} (h : ¬ (limbs n).length = 0) : 32 * (((limbs n).length : Int) - 1) + (bl ((limbs n).getD ((limbs n).length - 1 : Int).toNat 0).toNat : Int) = (bl n : Int) := by
 rw [bl_top n, if_neg h, show ((limbs n).length - 1 : Int).toNat = (limbs n).length - 1 by omega]
theorem set_1 {x : Int} : sgnI (decide (x < 0)) x.natAbs = x := by
 unfold sgnI
 by_cases h : x < 0
 ·rw [if_pos (by simpa using h)]; omega
 ·rw [if_neg (by simpa using h)]; omega
end Go.Bn
