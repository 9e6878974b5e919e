/-
  Regions of one order cut in two; calls that only read what their caller owns.
-/
import Derived.Test.YtmakephdanbmaaaFrPool
set_option linter.unusedVariables false
set_option linter.unusedSimpArgs false
namespace Go.Bn
open Go
/-! ## Lent memory -/
def Lent (r : Res) (q p : SP) : Prop := ∀ c c1 ob v, r.H c ob → q.H v c → Le c c1 → (∀ b, ob b → c1.w.heap[b]? = c.w.heap[b]? ∧ ¬ c1.M b) → p.H v c1
theorem lent_som {α : Type} {mk : α → SP} {u : Value} {xs : List α} {T : TypeId} : Lent (som u mk xs T) (isv u) (slm mk xs) := fun c c1 ob v h hq hle hob => by
  rw [hq.1]; exact frz_som c c1 ob h hle hob
theorem lent_l {r1 r2 : Res} {q p : SP} (h : Lent r1 q p) : Lent (r1.sep r2) q p := fun c c1 ob v ⟨o1, o2, h1, h2, h3, h4⟩ hq hle hob => h c c1 o1 v h3 hq hle fun b hb => hob b ((h1 b).2 (.inl hb))
theorem lent_r {r1 r2 : Res} {q p : SP} (h : Lent r2 q p) : Lent (r1.sep r2) q p := fun c c1 ob v ⟨o1, o2, h1, h2, h3, h4⟩ hq hle hob => h c c1 o2 v h4 hq hle fun b hb => hob b ((h1 b).2 (.inr hb))
def LkN (Γ : Facts) (δ : VEnv) (ρ : Env) (r : Res) : List Operand → List SP → Prop
  | [], [] => True
  | x :: xs, p :: ps => (Lk Γ δ ρ x p ∨ ∃ q, Lk Γ δ ρ x q ∧ Lent r q p) ∧ LkN Γ δ ρ r xs ps
  | _, _ => False
theorem LkN.val {Γ : Facts} {δ : VEnv} {ρ : Env} {r : Res} {a : Act} {c c1 : EW} {ob : Bs} (hr : r.H c ob) (hle : Le c c1) (hob : ∀ b, ob b → c1.w.heap[b]? = c.w.heap[b]? ∧ ¬ c1.M b) : ∀ {xs : List Operand} {ps : List SP}, LkN Γ δ ρ r xs ps → (∀ x q, x ∈ xs → Lk Γ δ ρ x q → q.H (a.eval x) c) → HL ps (xs.map a.eval) c1
  | [], [], _, _ => trivial
  | x :: xs, p :: ps, ⟨h1, h2⟩, h => by
    refine ⟨?_, LkN.val hr hle hob h2 fun y q hy => h y q (List.mem_cons_of_mem _ hy)⟩
    rcases h1 with h1 | ⟨q, h1, h3⟩
    · exact p.st _ _ _ hle (h x p (List.mem_cons_self ..) h1)
    · exact h3 c c1 ob _ hr (h x q (List.mem_cons_self ..) h1) hle hob
  | [], _ :: _, h, _ => h.elim
  | _ :: _, [], h, _ => h.elim
section ops
variable {P : Program} {n : Nat} {ops : Array Oper} {Γ : Facts} {ρ : Env} {δ : VEnv} {τ : List VR}
variable {d : Nat} {ty : TypeId} {pos : String} {af : Array Edge}
/-- A call that only reads what its caller owns. -/
theorem op_callL {f : Nat} {xs : List Operand} {ps : List SP} {R : SP} {r : Res} {ats : Array TypeId} (k : Nat) (hf : Ct P f ps R) (hR : R.Pure) (hx : LkN Γ δ ρ r xs ps) (hk : nth τ k = some (.c r)) :
    OpOK P n ops Γ ρ δ τ ⟨some d, .call ⟨.value (.func f), xs.toArray, ats⟩, ty, pos, af, none⟩ (.rd k) (.c R) dum := by
  intro a c ob hs hwf hfa hrr hres hno hown
  obtain ⟨r0, hr0, hh⟩ := hres k rfl
  rw [hk] at hr0
  cases hr0
  have hh' : r.H c ob := hh
  let c1 : EW := ⟨c.w, fun b => c.M b ∧ ¬ ob b⟩
  have hle : Le c c1 := ⟨rfl, rfl, rfl, Nat.le_refl _, fun j _ hm => ⟨rfl, fun h => hm h.1⟩⟩
  have harg := hx.val (a := a) (c := c) (c1 := c1) hh' hle (fun b hb => ⟨rfl, fun h => h.2 hb⟩) fun x q hx' hq => Lk.val (o := ⟨some d, .call ⟨.value (.func f), xs.toArray, ats⟩, ty, pos, af, none⟩) hrr hfa (by simp [Op.operands, Call.operands, hx']) hq
  simp only [Region.wanted, if_true]
  unfold Does
  have hex : (execOp a.eval ⟨some d, .call ⟨.value (.func f), xs.toArray, ats⟩, ty, pos, af, none⟩).run P c.w = .ok (.enter f (xs.map a.eval).toArray) c.w := by
    have h1 := run_callFunc hf.1 (xs.map a.eval).toArray c.w
    simp [execOp, resolve, Deferred.ofValue, Act.eval, invoke, h1]
  rw [hex]
  refine (hf.2 _ c1 (fun j hj => hwf j hj.1) harg).mono fun e w' ⟨v, he, hxt, hR'⟩ => ⟨v, he, ⟨w', c.M⟩, ob, rfl, ?_, hR _ _ _ hR', fun h => (by cases h)⟩
  exact ⟨hxt.os, hxt.tape, hxt.out, hxt.size, fun j hj _ => hxt.heap j hj, fun _ _ => Iff.rfl, .inl rfl, fun j hj => Nat.lt_of_lt_of_le (hwf j hj) hxt.size⟩
end ops
end Go.Bn
