/-
 What is written over: lists, and four lists one behind the other.
-/
import Derived.Test.YtllkellonjhalaaFqNew
set_option linter.unusedVariables false
set_option linter.unusedSimpArgs false
namespace Go.Bn
open Go
theorem lent_matN {r c : Int} {u : Value} {xs : List Nat} {T : TypeId} : Lent (som u flp xs T) (aggp [isv (.int .i64 r), isv (.int .i64 c), isv u]) (MatP r c xs) := fun c0 c1 ob v h hq hle hob => by
 obtain ⟨cs, h1, h2, h3⟩ := hq
 refine ⟨cs, h1, h2, fun i p hp => ?_⟩
 match i, hp with
 | 0, hp => obtain ⟨w, g1, g2, g3⟩ := h3 0 _ rfl; cases hp; exact ⟨w, g1, g2, (isv _).st _ _ _ hle g3⟩
 | 1, hp => obtain ⟨w, g1, g2, g3⟩ := h3 1 _ rfl; cases hp; exact ⟨w, g1, g2, (isv _).st _ _ _ hle g3⟩
 | 2, hp =>
  obtain ⟨w, g1, g2, g3⟩ := h3 2 _ rfl
  cases hp
  exact ⟨w, g1, g2, lent_som c0 c1 ob w h g3 hle hob⟩
def putV {α : Type} (v : α) (xs : List α) (k : Nat) : List α := List.replicate k v ++ xs.drop k
theorem length_putV {α : Type} {v : α} {xs : List α} {k : Nat} (h : k ≤ xs.length) : (putV v xs k).length = xs.length := by
 unfold putV
 rw [List.length_append, List.length_replicate, List.length_drop]
 omega
theorem putV_set {α : Type} {v : α} {xs : List α} {k : Nat} (h : k < xs.length) : (putV v xs k).set ((k : Int)).toNat v = putV v xs (k + 1) := by
 rw [show ((k : Int)).toNat = k by omega]
 unfold putV
 rw [List.drop_eq_getElem_cons h, List.set_append_right _ _ (by rw [List.length_replicate]; omega), List.length_replicate, Nat.sub_self, List.set_cons_zero, List.replicate_succ', List.append_assoc]
 rfl
theorem putV_all {α : Type} {v : α} {xs : List α} {k : Nat} (h : k = xs.length) : putV v xs k = List.replicate xs.length v := by
 unfold putV
 rw [h, List.drop_length, List.append_nil]
def wrL (v : Nat) (X : Nat → List Nat) (i : Nat) : Nat → List Nat := fun j => if j < i then List.replicate (X j).length v else X j
end Go.Bn
