/-
 Numbers scaled, exactly; a rotation's numbers, how far they lie from what they should be.
-/
import Derived.Test.YtllkellonjhalaaFqTri
set_option linter.unusedVariables false
set_option linter.unusedSimpArgs false
namespace Go.Bn
open Go
def Cl (k a b : Nat) : Prop := ∃ t, a ≤ b + t ∧ b ≤ a + t ∧ t * UU ≤ k * b
theorem Cl.out {k a b : Nat} (h : Cl k a b) : a * UU ≤ b * UU + k * b ∧ b * UU ≤ a * UU + k * b := by
 obtain ⟨t, h1, h2, h3⟩ := h
 have g1 := Nat.mul_le_mul_right UU h1
 have g2 := Nat.mul_le_mul_right UU h2
 rw [Nat.add_mul] at g1 g2
 omega
theorem Cl.trans {k l a b c : Nat} (h : Cl k a b) (g : Cl l b c) (hk : k * l ≤ UU) : Cl (k + l + 1) a c := by
 obtain ⟨t, h1, h2, h3⟩ := h
 obtain ⟨s, g1, g2, g3⟩ := g
 refine ⟨t + s, by omega, by omega, ?_⟩
 have c1 : k * s ≤ c := by
  refine Nat.le_of_mul_le_mul_right (c := UU) ?_ uu_pos
  have d1 := Nat.mul_le_mul_left k g3
  have d2 := Nat.mul_le_mul_right c hk
  rw [Nat.mul_assoc k s, Nat.mul_comm c]
  rw [← Nat.mul_assoc k l] at d1
  omega
 have c2 : k * b ≤ k * c + k * s := by rw [← Nat.mul_add]; exact Nat.mul_le_mul_left _ g1
 rw [Nat.add_mul, Nat.add_mul, Nat.add_mul, Nat.one_mul]
 omega
theorem Cl.symm {k a b : Nat} (h : Cl k a b) (hk : 2 * k ≤ UU) : Cl (2 * k) b a := by
 obtain ⟨t, h1, h2, h3⟩ := h
 refine ⟨t, h2, h1, ?_⟩
 have c1 : 2 * t ≤ b := by
  refine Nat.le_of_mul_le_mul_right (c := UU) ?_ uu_pos
  have d2 := Nat.mul_le_mul_right b hk
  rw [Nat.mul_assoc, Nat.mul_comm b]
  rw [Nat.mul_assoc] at d2
  omega
 have c2 : b ≤ 2 * a := by omega
 have c3 := Nat.mul_le_mul_left k c2
 rw [← Nat.mul_assoc, Nat.mul_comm k 2] at c3
 omega
theorem Cl.two {k a b : Nat} (h : Cl k a b) (hk : 2 * k ≤ UU) : a ≤ 2 * b ∧ b ≤ 2 * a := by
 obtain ⟨t, h1, h2, h3⟩ := h
 have c1 : 2 * t ≤ b := by
  refine Nat.le_of_mul_le_mul_right (c := UU) ?_ uu_pos
  have d2 := Nat.mul_le_mul_right b hk
  rw [Nat.mul_assoc, Nat.mul_comm b]
  rw [Nat.mul_assoc] at d2
  omega
 omega
end Go.Bn
