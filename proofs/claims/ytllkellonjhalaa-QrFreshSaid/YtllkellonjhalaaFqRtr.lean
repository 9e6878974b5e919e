/-
 The triangle of the reference: the same as the program's, whatever its numbers are.
-/
import Derived.Test.YtllkellonjhalaaFqScl
import Derived.Test.YtllkellonjhalaaFqSeg
set_option linter.unusedVariables false
set_option linter.unusedSimpArgs false
namespace Go.Bn
open Go
theorem frz_rows {u : Value} {vs : List Value} {n : Nat} {T1 T2 : TypeId} {F : Nat → List Nat} (hv : vs.length = n) : Freezes ((som u isv vs T1).sep (pool n (poolX vs T2 F))) u (slm (slm flp) ((List.range n).map F)) := by
 intro c c' ob ⟨o1, o2, h1, h2, h3, h4⟩ hle hob
 have g1 := frz_som c c' o1 h3 hle fun b hb => hob b ((h1 b).2 (.inl hb))
 obtain ⟨os, k1, k2, k3⟩ := h4
 have g2 : ∀ i, i < n → (slm flp (F i)).H (vs.getD i NILV) c' := fun i hi => frz_som c c' (os i) (k3 i hi) hle fun b hb => hob b ((h1 b).2 (.inr ((k1 b).2 ⟨i, hi, hb⟩)))
 have hn : ((List.range n).map F).length = vs.length := by simp [hv]
 unfold slm slp at g1 ⊢
 rw [List.length_map] at g1 ⊢
 rw [hn]
 obtain ⟨q1, q2⟩ := g1
 refine ⟨by simp [hv], ?_⟩
 rcases q2 with q2 | ⟨ad, cap, e1, e2, e3, q2⟩
 ·exact .inl q2
 ·refine .inr ⟨ad, cap, e1, e2, e3, ?_⟩
  rcases q2 with q2 | ⟨b, off, e4, e5, cur, T, fz, e6, q2⟩
  ·exact .inl q2
  ·refine .inr ⟨b, off, e4, e5, cur, T, fz, e6, fun i p hp => ?_⟩
   rw [nth_eq, List.getElem?_map, List.getElem?_map] at hp
   have hi : i < n := by
    by_cases hc : i < n
    ·exact hc
    ·rw [List.getElem?_eq_none (by simpa using hc)] at hp; cases hp
   rw [List.getElem?_range hi] at hp
   cases hp
   have hvi : vs[i]? = some (vs.getD i NILV) := by
    rw [List.getD, List.getElem?_eq_getElem (show i < vs.length by omega)]; rfl
   obtain ⟨w, r1, r2, r3⟩ := q2 i (isv (vs.getD i NILV)) (by rw [nth_eq, List.getElem?_map, hvi]; rfl)
   refine ⟨w, r1, r2, ?_⟩
   rw [r3.1]
   exact g2 i hi
theorem map_at {F : Nat → List Nat} {n k : Nat} (hk : k < n) : ((List.range n).map F).getD k [] = F k := by
 rw [List.getD, List.getElem?_map, List.getElem?_range hk]
 rfl
def mcn (m : Mt) : Mt := ⟨m.r, m.c, m.a.map cn⟩
theorem mcn_at {ms : List Mt} {k : Nat} (hk : k < ms.length) : (ms.map mcn).getD k mtD = mcn (ms.getD k mtD) := by
 simp [List.getD, List.getElem?_map, List.getElem?_eq_getElem hk]
theorem take_mcn {ms : List Mt} {k : Nat} (hk : k < ms.length) : (ms.map mcn).take (k + 1) = (ms.map mcn).take k ++ [mcn (ms.getD k mtD)] := by
 rw [take_snoc (xs := ms.map mcn) mtD (k := k) (by rw [List.length_map]; exact hk), mcn_at hk]
end Go.Bn
