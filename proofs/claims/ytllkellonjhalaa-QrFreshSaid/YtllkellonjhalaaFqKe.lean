/-
 Strings. Names of numbers; places. Plain facts on whole numbers as lists of words. Calls that lay a number into new memory; appending to nothing. All that an exact dot product comes by is small.
-/
import Derived.Test.YtllkellonjhalaaFqKd
import Derived.Test.YtllkellonjhalaaFqKc
import Derived.Test.YtllkellonjhalaaFqKb
set_option linter.unusedVariables false
set_option linter.unusedSimpArgs false
namespace Go.Bn
open Go
def Dig (l : List Int) : Prop := ∀ z, z ∈ l → 0 ≤ z ∧ z < 4294967296
theorem Dig.head {x : Int} {l : List Int} (h : Dig (x :: l)) : 0 ≤ x ∧ x < 4294967296 := h x (List.mem_cons_self ..)
theorem Dig.at {l : List Int} (h : Dig l) {k : Nat} (hk : k < l.length) : 0 ≤ l.getD k 0 ∧ l.getD k 0 < 4294967296 := h _ (mem_getD 0 hk)
theorem Dig.take {l : List Int} (h : Dig l) (k : Nat) : Dig (l.take k) := fun z hz => h z (List.mem_of_mem_take hz)
theorem Dig.drop {l : List Int} (h : Dig l) (k : Nat) : Dig (l.drop k) := fun z hz => h z (List.mem_of_mem_drop hz)
theorem Dig.set {l : List Int} (h : Dig l) {k : Nat} {v : Int} (hv : 0 ≤ v ∧ v < 4294967296) : Dig (l.set k v) := fun z hz => by
 rcases List.mem_or_eq_of_mem_set hz with h1 | h1
 ·exact h z h1
 ·rw [h1]; exact hv
end Go.Bn
namespace Go.Bn
open Go
theorem wr64 {z : Int} (h0 : 0 ≤ z) (h1 : z < 18446744073709551616) : IntKind.u64.wrap z = z := by rw [wu64]; omega
end Go.Bn
namespace Go.Bn
open Go
theorem getD_set_ne {l : List Int} {i j : Nat} {v : Int} (h : i ≠ j) : (l.set i v).getD j 0 = l.getD j 0 := by
 simp [List.getD, List.getElem?_set, h]
end Go.Bn
namespace Go.Bn
open Go
structure Exa where
 m : Int
 e : Int
def Exa.neg (x : Exa) : Exa := ⟨-x.m, x.e⟩
def Exa.mul (x y : Exa) : Exa := ⟨x.m * y.m, x.e + y.e⟩
def Exa.low (x : Exa) (e : Int) : Exa := if x.e ≤ e then x else ⟨x.m * 2 ^ (x.e - e).toNat, e⟩
def Exa.add (x y : Exa) : Exa := if x.m = 0 then y else if y.m = 0 then x else ⟨(x.low (min x.e y.e)).m + (y.low (min x.e y.e)).m, min x.e y.e⟩
def Exa.zero : Exa := ⟨0, 0⟩
end Go.Bn
