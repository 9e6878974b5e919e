/-
  The logic of walks: slices written out empty that the function owns; slices looked at for nil; answers that are not known.
-/
import Derived.Test.YtcnffgbncbadbaaTyp
import Derived.Lib.SliceRun
set_option linter.unusedVariables false
set_option linter.unusedSimpArgs false
namespace Go.Bn
open Go
/-- A truth value that says so much, where it is true. -/
def impp (Q : Prop) : SP := ⟨fun v _ => ∃ b, v = .bool b ∧ (b = true → Q), fun _ _ _ _ h => h⟩
def setV : List VR → Nat → VR → List VR
  | [], _, _ => []
  | _ :: l, 0, r => r :: l
  | x :: l, k + 1, r => x :: setV l k r
theorem nth_setV (r : VR) : ∀ (l : List VR) (k j : Nat), nth (setV l k r) j = if j = k then (nth l j).map (fun _ => r) else nth l j
  | [], k, j => by simp [setV, nth]
  | x :: l, 0, 0 => by simp [setV, nth]
  | x :: l, 0, j + 1 => by simp [setV, nth]
  | x :: l, k + 1, 0 => by simp [setV, nth]
  | x :: l, k + 1, j + 1 => by simpa [setV, nth] using nth_setV r l k j
section ops
variable {P : Program} {n : Nat} {ops : Array Oper} {Γ : Facts} {ρ : Env} {δ : VEnv} {τ : List VR}
variable {d : Nat} {ty : TypeId} {pos : String} {af : Array Edge}
theorem op_nileq {α : Type} {mk : α → SP} {xs : List α} {x : Operand} {T E es eb : Nat} {t' : TypeId} (hT : slT P T = some (E, es, eb)) (hx : Lk Γ δ ρ x (slm mk xs)) :
    OpOK P n ops Γ ρ δ τ ⟨some d, .binOp .eql T x (.const (.slice none 0 0)) t', ty, pos, af, none⟩ .no (.c (impp (xs = []))) dum :=
  ok_pure fun A c _ hr => by
    obtain ⟨hu, _⟩ := slT_u hT
    obtain ⟨_, hv⟩ := hr x _ (by simp [Op.operands]) hx
    rw [List.length_map] at hv
    rcases hv with ⟨hv, h0⟩ | ⟨ad, cap, hv, _⟩
    · refine ⟨.bool true, ?_, true, rfl, fun _ => List.eq_nil_of_length_eq_zero h0⟩
      have hrun := Lib.run_eql_slice_nil (P := P) c.w T E none 0 0 0 0 hu
      simp [execOp, eqGuard, hv, show A.eval (.const (.slice none 0 0)) = .slice none 0 0 from rfl, hrun]
    · refine ⟨.bool false, ?_, false, rfl, fun h => by cases h⟩
      have hrun := Lib.run_eql_slice_nil (P := P) c.w T E (some ad) xs.length cap 0 0 hu
      simp [execOp, eqGuard, hv, show A.eval (.const (.slice none 0 0)) = .slice none 0 0 from rfl, hrun]
theorem op_build0 {α : Type} {mk : α → SP} {T E eb : Nat} (k : Nat) (ht : slT P T = some (E, 1, eb)) (hk : nth τ k = some (.c emp)) :
    OpOK P n ops Γ ρ δ τ ⟨some d, .buildSlice T 0 #[], ty, pos, af, none⟩ (.wr k) (slAt d) (.d [d] (fun f => som (f d) mk [] E) (fun f g h => by rw [h d (List.mem_singleton.2 rfl)])) := by
  obtain ⟨hu, i, hi, hsz, _⟩ := slT_u ht
  refine ok_new (T := E) (m := 0) (kk := 1) (cells := []) k hk rfl fun a c _ hr => ⟨0, #[], ?_, Nat.le_refl _, Nat.zero_le _, rfl, fun j p hj => by simp [nth] at hj⟩
  simp [execOp, Instr.buildSlice, run_underlying hu, sizeOf, typeInfo, hi, hsz, newRow, Array.range_zero', Instr.fill]
/-- What the same region has laid, by the slot that names it. -/
theorem op_vr (s k : Nat) {o : Oper} {e' : VE} {acc : Acc} {r' : VR} {q : Vl → Res} {hq : ∀ f g : Vl, (∀ t, t ∈ [s] → f t = g t) → q f = q g} (hy : getV δ ρ s = some (slAt s)) (hk : nth τ k = some (.d [s] q hq))
    (h : ∀ u : Value, OpOK P n ops Γ ρ ((s, .c (isv u)) :: δ) (setV τ k (.c (q (fun _ => u)))) o acc e' r') : OpOK P n ops Γ ρ δ τ o acc e' r' := by
  intro a c ob hs hwf hf hr hres hno hown
  refine h (vl a s) a c ob hs hwf hf (fun u hu p hp => ?_) (fun k' hk' => ?_) hno hown
  · by_cases hus : s = u
    · subst hus
      simp only [getV, Nat.beq_refl, cond_true, Option.some.injEq] at hp
      subst hp
      exact (show (isv (vl a s)).H (vl a s) c from hr s hu (slAt s) hy)
    · simp only [getV, beq_ne hus, cond_false] at hp
      exact hr u hu p hp
  · obtain ⟨r, h1, h2⟩ := hres k' hk'
    rw [nth_setV]
    by_cases hkk : k' = k
    · subst hkk
      rw [hk] at h1
      cases h1
      rw [if_pos rfl, hk]
      refine ⟨_, rfl, ?_⟩
      have e : q (fun _ => vl a s) = q (vl a) := hq _ _ fun t ht => by rw [List.mem_singleton.1 ht]
      show (q (fun _ => vl a s)).H c ob
      rw [e]
      exact h2
    · rw [if_neg hkk]
      exact ⟨r, h1, h2⟩
end ops
section cond
variable {X : Cx} {Γ : Facts} {ρ : Env} {σ : List Res} {Q : Exit → Act → World → Prop}
theorem J_condI {R : Prop} {x : Operand} {thn els : Code} (hx : Lk Γ [] ρ x (impp R)) (h1 : R → J X Γ ρ σ thn Q) (h2 : J X Γ ρ σ els Q) : J X Γ ρ σ (.cond x thn els) Q :=
  J_cond' fun a c hs => by
    obtain ⟨b, hb, hR⟩ := hx.holds hs.facts hs.env
    exact ⟨b, hb, fun h => h1 (hR h) a c hs, fun _ => h2 a c hs⟩
end cond

/-! ## Fresh results, one of two -/
def tp0 (v : Value) : Value := match v with | .tuple vs => vs.getD 0 undef | v => v
def agP (v : Value) : Value := agN 2 (tp0 v)
section two
variable {P : Program} {Γ : Facts} {ρ : Env}
theorem JN_retF2 {σ : List Res} {fn : Func} {n : Nat} {c0 : EW} {pr : Value → Value} {R : Value → SP} {r : Value → Res} {p1 p2 : SP} {rv1 rv2 : ResultVar} {u : Value} (j : Nat) (hj : nth σ j = some (r u)) (hrv : fn.results.toList = [rv1, rv2]) (hr : RVL P Γ ρ σ [rv1, rv2] [p1, p2]) (hpr : ∀ v1 v2 c, p1.H v1 c → pr (.tuple #[v1, v2]) = u) (hR : Sb Γ (tupp [p1, p2]) (R u)) :
    JN ⟨P, n, c0, fun _ => False⟩ Γ ρ σ (bodyPost P fn (RetF c0 pr R r) .ret) := fun a c hs => by
  obtain ⟨vs, h1, h2⟩ := hr.run hs
  obtain ⟨obs, hown, hres⟩ := hs.own
  obtain ⟨hx, _⟩ := hs.xt
  have hrj := hres j _ hj
  have hlow : ∀ b, obs j = some b → c0.w.heap.size ≤ b ∧ b < c.w.heap.size := fun b hb => ⟨(hown.has j b hb).2.resolve_right (fun h => h), hown.lt hb⟩
  have hle : Le c ⟨c.w, fun k => c0.M k ∨ obs j = some k⟩ := ⟨rfl, rfl, rfl, Nat.le_refl _, fun k hk hm => ⟨rfl, fun h0 => hm (by
    rcases h0 with h0 | h0
    · exact (hown.mem k (hown.wf0 k h0)).2 h0
    · exact (hown.has j k h0).1)⟩⟩
  match vs, h2 with
  | [v1, v2], h2 =>
    have hres1 : (results fn a.tmps).run P c.w = .ok (.tuple #[v1, v2]) c.w := by
      have := run_results (P := P) (fn := fn) (tmps := a.tmps) (w := c.w) (vs := [v1, v2]) (by rw [hrv]; exact h1)
      simpa using this
    have hu : pr (.tuple #[v1, v2]) = u := hpr v1 v2 c h2.1
    have ht : (tupp [p1, p2]).H (.tuple #[v1, v2]) c := ⟨[v1, v2], rfl, h2⟩
    refine ⟨hs.defers, _, hres1, _, obs j, rfl, hx, hlow, ?_, ?_⟩
    · rw [hu]; exact hR _ _ (hs.facts.le hle) ((tupp [p1, p2]).st _ _ _ hle ht)
    · rw [hu]; exact (r u).fr _ _ _ hle (fun _ _ => rfl) hrj
end two
end Go.Bn
