/-
  What is written over: lists, and four lists one behind the other.
-/
import Derived.Test.YtjfkpnacfnnkhaaDoorNew
set_option linter.unusedVariables false
set_option linter.unusedSimpArgs false
namespace Go.Bn
open Go
theorem lent_matN {r c : Int} {u : Value} {xs : List Nat} {T : TypeId} : Lent (som u flp xs T) (aggp [isv (.int .i64 r), isv (.int .i64 c), isv u]) (MatP r c xs) := fun c0 c1 ob v h hq hle hob => by
  obtain ⟨cs, h1, h2, h3⟩ := hq
  refine ⟨cs, h1, h2, fun i p hp => ?_⟩
  match i, hp with
  | 0, hp => obtain ⟨w, g1, g2, g3⟩ := h3 0 _ rfl; cases hp; exact ⟨w, g1, g2, (isv _).st _ _ _ hle g3⟩
  | 1, hp => obtain ⟨w, g1, g2, g3⟩ := h3 1 _ rfl; cases hp; exact ⟨w, g1, g2, (isv _).st _ _ _ hle g3⟩
  | 2, hp =>
    obtain ⟨w, g1, g2, g3⟩ := h3 2 _ rfl
    cases hp
    exact ⟨w, g1, g2, lent_som c0 c1 ob w h g3 hle hob⟩
/-- A list, written over up to k. -/
def putV {α : Type} (v : α) (xs : List α) (k : Nat) : List α := List.replicate k v ++ xs.drop k
theorem putV_0 {α : Type} (v : α) (xs : List α) : putV v xs 0 = xs := rfl
theorem length_putV {α : Type} {v : α} {xs : List α} {k : Nat} (h : k ≤ xs.length) : (putV v xs k).length = xs.length := by
  unfold putV
  rw [List.length_append, List.length_replicate, List.length_drop]
  omega
theorem putV_set {α : Type} {v : α} {xs : List α} {k : Nat} (h : k < xs.length) : (putV v xs k).set ((k : Int)).toNat v = putV v xs (k + 1) := by
  rw [show ((k : Int)).toNat = k by omega]
  unfold putV
  rw [List.drop_eq_getElem_cons h, List.set_append_right _ _ (by rw [List.length_replicate]; omega), List.length_replicate, Nat.sub_self, List.set_cons_zero, List.replicate_succ', List.append_assoc]
  rfl
theorem putV_at {α : Type} {v d : α} {xs : List α} {k : Nat} (h : k < xs.length) : (putV v xs k).getD ((k : Int)).toNat d = xs.getD ((k : Int)).toNat d := by
  rw [show ((k : Int)).toNat = k by omega]
  unfold putV
  rw [List.getD, List.getD, List.getElem?_append_right (by rw [List.length_replicate]; omega), List.length_replicate, Nat.sub_self, List.getElem?_drop, Nat.add_zero]
theorem putV_all {α : Type} {v : α} {xs : List α} {k : Nat} (h : k = xs.length) : putV v xs k = List.replicate xs.length v := by
  unfold putV
  rw [h, List.drop_length, List.append_nil]
/-- Several lists, the first i of them written over. -/
def wrL (v : Nat) (X : Nat → List Nat) (i : Nat) : Nat → List Nat := fun j => if j < i then List.replicate (X j).length v else X j
def NILW : Value := .slice none 0 0
def plW (us : List Value) (X : Nat → List Nat) (T : TypeId) : Nat → Res := fun j => som (us.getD j NILW) flp (X j) T
theorem plW_0 {us : List Value} {v : Nat} {X : Nat → List Nat} {T : TypeId} : plW us (wrL v X 0) T = plW us X T := by
  funext j
  unfold plW wrL
  rw [if_neg (Nat.not_lt_zero j)]
theorem plW_fill {us : List Value} {v : Nat} {X : Nat → List Nat} {T : TypeId} {i n : Nat} : ∀ c ob, (pool n (fillR (plW us (wrL v X i) T) i (som (us.getD i NILW) flp (List.replicate (X i).length v) T))).H c ob → (pool n (plW us (wrL v X (i + 1)) T)).H c ob := pool_congr fun j hj => by
  unfold fillR plW wrL
  by_cases h : j = i
  · subst h; rw [if_pos rfl, if_pos (Nat.lt_succ_self j)]
  · rw [if_neg h]
    by_cases h2 : j < i
    · rw [if_pos h2, if_pos (by omega)]
    · rw [if_neg h2, if_neg (by omega)]
theorem plW_at {us : List Value} {v : Nat} {X : Nat → List Nat} {T : TypeId} {i : Nat} : plW us (wrL v X i) T i = som (us.getD i NILW) flp (X i) T := by
  unfold plW wrL
  rw [if_neg (Nat.lt_irrefl i)]
def frX (a b c d : List Nat) : Nat → List Nat := fun j => [a, b, c, d].getD j []
theorem frX_le {a b c d : List Nat} {n : Nat} (ha : a.length ≤ n) (hb : b.length ≤ n) (hc : c.length ≤ n) (hd : d.length ≤ n) {i : Nat} : (frX a b c d i).length ≤ n := by
  match i with
  | 0 => exact ha
  | 1 => exact hb
  | 2 => exact hc
  | 3 => exact hd
  | k + 4 => exact Nat.zero_le _
/-- Four resources as one. -/
theorem pl_4 {u0 u1 u2 u3 : Value} {x0 x1 x2 x3 : List Nat} {T : TypeId} {v : Nat} {f : Nat → Res} : ∀ c ob, (pool 4 (fillR (fillR (fillR (fillR f 0 (som u0 flp x0 T)) 1 (som u1 flp x1 T)) 2 (som u2 flp x2 T)) 3 (som u3 flp x3 T))).H c ob → (pool 4 (plW [u0, u1, u2, u3] (wrL v (frX x0 x1 x2 x3) 0) T)).H c ob := pool_congr fun j hj => by
  match j, hj with
  | 0, _ => rfl
  | 1, _ => rfl
  | 2, _ => rfl
  | 3, _ => rfl
  | k + 4, h => exact absurd h (by omega)
theorem sb_4 {Γ : Facts} {a b c d : Value} : Sb Γ (slc 4 1 [isv a, isv b, isv c, isv d]) (slm isv [a, b, c, d]) := fun _ _ _ h => h
end Go.Bn
