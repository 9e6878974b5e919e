/-
 The law of the triangle's root: what its walk needs.
-/
import Derived.Test.YtllkellonjhalaaGreatOoGrb
import Derived.Test.YtllkellonjhalaaGreatOoRtr
set_option linter.unusedVariables false
set_option linter.unusedSimpArgs false
namespace Go.Bn
open Go
theorem tame_v {x : Nat} (hx : x < 2 ^ 64) (hr : rung x < 9218868437227405312) (h : tameB x 400 = true) : sval x = 0 ∨ 10000 * UU ≤ vlu x := by
 unfold tameB at h
 cases h0 : fcmp .eql x 0
 ·right
  rw [h0, Bool.false_or, Bool.and_eq_true] at h
  obtain ⟨a1, a2, _, _⟩ := fabs_parts hx hr
  have hv := vlu_fabs hx hr
  obtain ⟨l1, l2, l3⟩ := two_k (k := -400) (by omega) (by omega)
  have g1 := geq_val h.1 (by rw [a1]; exact hr) l1
  rw [sval_pos' a2, sval_pos' l2, hv, l3] at g1
  have g1' := Int.ofNat_le.1 g1
  clear g1 l3
  refine Nat.le_trans ?_ g1'
  exact Nat.le_trans (show 10000 * UU ≤ 2 ^ 100 by decide) (Nat.pow_le_pow_right (by omega) (by omega))
 ·left
  rw [eql_zero hx hr] at h0
  have := sval_abs x
  have := of_decide_eq_true h0
  omega
def allTB (xs : List Nat) (k : Int) : Bool := xs.all fun x => tameB x k
theorem tameL_of {xs : List Nat} (hF : FinL xs) (h : allTB xs 400 = true) : TameL xs := fun k => by
 by_cases hk : k < xs.length
 ·exact tame_v (hF k).2 (finL_r hF k) (List.all_eq_true.1 h _ (mem_getD 0 hk))
 ·left
  rw [List.getD, List.getElem?_eq_none (by omega)]
  decide +kernel
structure RootB (ms : List Mt) (T : MR) (n : Nat) : Prop where
 b : BesOk ms n
 nd : (ms.getD 0 mtD).r = n
 n12 : n ≤ 12
 Tr : T.r = n
 Tc : T.c = n
 Ta : T.a = triG (besRow ms n) n
 Tl : (T.a.length : Int) = (n : Int) * (n : Int)
 f : ∀ k, FinL (ms.getD k mtD).a
 tb : triB (besRow ms n) n = false
theorem not_b {b : Bool} (h : (!b) = false) : b = true := by simpa using h
end Go.Bn
