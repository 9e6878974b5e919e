/-
 The triangle of the reference: the same as the program's, whatever its numbers are.
-/
import Derived.Test.YtjnmgcglooeooaaGreatDoorPsTrn
import Derived.Test.YtjnmgcglooeooaaGreatDoorPsRne
import Derived.Test.YtjnmgcglooeooaaGreatDoorPsSeg
set_option linter.unusedVariables false
set_option linter.unusedSimpArgs false
namespace Go.Bn
open Go
section ops
variable {P : Program} {n : Nat} {ops : Array Oper} {Γ : Facts} {ρ : Env} {δ : VEnv} {τ : List VR}
theorem OpOK.subF {o : Oper} {acc : Acc} {p q : SP} {r' : VR} (h : OpOK P n ops Γ ρ δ τ o acc (.c p) r') (hg : o.guard = none) (hs : ∀ v c, FH Γ c → p.H v c → q.H v c) : OpOK P n ops Γ ρ δ τ o acc (.c q) r' := by
 intro a c ob h1 h2 h3 h4 h5 h6 h7
 have g := h a c ob h1 h2 h3 h4 h5 h6 h7
 have hw : Region.wanted o (yielded ops a.tmps) = true := by unfold Region.wanted; rw [hg]
 rw [if_pos hw] at g ⊢
 exact g.mono fun v w' ⟨c', ob', e1, e2, e3, e4⟩ => ⟨c', ob', e1, e2, hs _ _ (h3.le (e2.le fun b hb => (h7 b hb).1)) e3, e4⟩
end ops
end Go.Bn
