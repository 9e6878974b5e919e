/-
 What lies behind a place of a list.
-/
import Derived.Test.YtllkellonjhalaaGreatOoSeg
set_option linter.unusedVariables false
set_option linter.unusedSimpArgs false
namespace Go.Bn
open Go
section ops
variable {P : Program} {n : Nat} {ops : Array Oper} {Γ : Facts} {ρ : Env} {δ : VEnv} {τ : List VR}
variable {d : Nat} {ty : TypeId} {pos : String} {af : Array Edge}
theorem op_slice_d {x lo : Operand} {T E es eb : Nat} {k1 : IntKind} {l : Int} {m m' : Nat} {cells cells' : List SP} (ht : slT P T = some (E, es, eb)) (hx : Lk Γ δ ρ x (slc m es cells)) (hlo : Lk Γ δ ρ lo (isv (.int k1 l)))
  (h0 : 0 ≤ l) (h2 : l ≤ m) (hm : (m : Int) - l = m') (hlen : cells'.length = m' * es) (hp : ∀ j p, nth cells' j = some p → nth cells (l.toNat * es + j) = some p) :
  OpOK P n ops Γ ρ δ τ ⟨some d, .slice T x (some lo) none none, ty, pos, af, none⟩ .no (.c (slc m' es cells')) dum :=
 ok_pure fun a c _ hr => by
  obtain ⟨hl, hv⟩ := hr x _ (by simp [Op.operands]) hx
  have hz1 := (hr lo _ (by simp [Op.operands]) hlo).1
  obtain ⟨hu, i, hi', hs, _⟩ := slT_u ht
  have hm' : m - l.toNat = m' := by omega
  rcases hv with ⟨h3, h4⟩ | ⟨ad, cap, h3, h4, h5, h6⟩
  ·subst h4
   have hl0 : l = 0 := by omega
   subst hl0
   have hm0 : m' = 0 := by omega
   subst hm0
   refine ⟨.slice none 0 0, ?_, hlen, .inl ⟨rfl, rfl⟩⟩
   simp [execOp, Instr.sliceAt, Instr.slice, run_underlying hu, h3, hz1, Instr.sliceBounds, Instr.sliceBound, asIntOf, sizeOf, typeInfo, hi']
  ·have c4 : l ≤ (m : Int) := h2
   by_cases hc : cap = l.toNat
   ·have hm0 : m' = 0 := by omega
    have c7 : m - l.toNat = 0 := by omega
    refine ⟨.slice (some ad) 0 (cap - l.toNat), ?_, by subst hm0; exact hlen, .inr ⟨ad, cap - l.toNat, by rw [hm0], by omega, Nat.le_trans (Nat.sub_le _ _) h5, .inl hm0⟩⟩
    simp [execOp, Instr.sliceAt, Instr.slice, run_underlying hu, h3, hz1, Instr.sliceBounds, Instr.sliceBound, asIntOf, sizeOf, typeInfo, hi', h0, hc, c4, c7]
   ·refine ⟨.slice (some (ad.add (l.toNat * es))) m' (cap - l.toNat), ?_, hlen, .inr ⟨ad.add (l.toNat * es), cap - l.toNat, rfl, by omega, Nat.le_trans (Nat.sub_le _ _) h5, ?_⟩⟩
    ·simp [execOp, Instr.sliceAt, Instr.slice, run_underlying hu, h3, hz1, Instr.sliceBounds, Instr.sliceBound, asIntOf, sizeOf, typeInfo, hi', hs, c4, h0, hc, hm']
    ·rcases h6 with h6 | ⟨b, off, ha, h6, cur, U, fz, h7, h8⟩
     ·exact .inl (by omega)
     ·subst ha
      refine .inr ⟨b, off + l.toNat * es, addr_add _ _ _, h6, cur, U, fz, h7, fun j p hj => ?_⟩
      obtain ⟨u, hu', g⟩ := h8 _ p (hp j p hj)
      exact ⟨u, by rw [← hu']; congr 1; omega, g⟩
theorem op_slice_md {α : Type} {mk : α → SP} {xs : List α} {x lo : Operand} {T : TypeId} {E eb : Nat} {k1 : IntKind} {l : Int} (ht : slT P T = some (E, 1, eb)) (hx : Lk Γ δ ρ x (slm mk xs)) (hlo : Lk Γ δ ρ lo (isv (.int k1 l)))
  (h0 : 0 ≤ l) (h2 : l ≤ xs.length) :
  OpOK P n ops Γ ρ δ τ ⟨some d, .slice T x (some lo) none none, ty, pos, af, none⟩ .no (.c (slm mk (xs.drop l.toNat))) dum := by
 have hl : (xs.drop l.toNat).length = xs.length - l.toNat := by simp
 have := op_slice_d (n := n) (ops := ops) (τ := τ) (d := d) (ty := ty) (pos := pos) (af := af) (m' := xs.length - l.toNat) (cells' := (xs.drop l.toNat).map mk) ht hx hlo h0 (by simpa using h2) (by rw [List.length_map]; omega) (by rw [List.length_map, hl, Nat.mul_one]) (fun j p hj => by
  rw [nth_map] at hj ⊢
  rw [Nat.mul_one]
  cases hv : nth (xs.drop l.toNat) j with
  | none => rw [hv] at hj; cases hj
  | some u =>
   rw [hv] at hj
   rw [nth_eq, List.getElem?_drop] at hv
   rw [nth_eq, hv]; exact hj)
 unfold slm slp
 rw [List.length_map, hl]
 exact this
end ops
end Go.Bn
