/-
  The logic of walks: where two ways come together.
-/
import Derived.Test.YtdnemaecalghbaaOwn
set_option linter.unusedVariables false
set_option linter.unusedSimpArgs false
namespace Go.Bn
open Go
section cond
variable {X : Cx} {Γ : Facts} {ρ : Env} {σ : List Res} {Q : Exit → Act → World → Prop}
/-- What holds where two ways come together. -/
theorem J_cutT {ρ' : Env} {σ' : List Res} {x y : Code} (hp : To X Γ ρ σ Γ ρ' σ') (h1 : J X Γ ρ σ x (Exit.then (fun a w => ∃ c', c'.w = w ∧ St X Γ ρ' σ' a c') Q)) (h2 : J X Γ ρ' σ' y Q) : J X Γ ρ σ x (Exit.then (fun a w => y.wp X.P Q a w) Q) := fun a c hs =>
  fun b kk cs => by
    obtain ⟨e, a', w', hq, har⟩ := h1 a c hs b kk cs
    refine ⟨e, a', w', ?_, har⟩
    cases e
    case normal =>
      obtain ⟨c', hw, hs'⟩ := hq
      show y.wp X.P Q a' w'
      rw [← hw]
      exact h2 a' c' hs'
    all_goals exact hq
theorem JN_cutT {Γ' : Facts} {ρ' : Env} {σ' : List Res} (hp : To X Γ ρ σ Γ' ρ' σ') : JN X Γ ρ σ (Exit.then (fun a w => ∃ c', c'.w = w ∧ St X Γ' ρ' σ' a c') Q .normal) := fun a c hs => hp a c hs
end cond
end Go.Bn
