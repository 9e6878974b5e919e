/-
  The logic of walks: slices of elements of several cells; function values of any arguments.
-/
import Derived.Test.YtcnffgbncbadbaaOwn
set_option linter.unusedVariables false
set_option linter.unusedSimpArgs false
namespace Go.Bn
open Go
def slk {α : Type} (k : Nat) (mk : α → List SP) (xs : List α) : SP := slc xs.length k (xs.flatMap mk)
def somk {α : Type} (sv : Value) (k : Nat) (mk : α → List SP) (xs : List α) (T : TypeId) : Res := osl sv xs.length k (xs.flatMap mk) T
theorem frz_somk {α : Type} {sv : Value} {k : Nat} {mk : α → List SP} {xs : List α} {T : TypeId} : Freezes (somk sv k mk xs T) sv (slk k mk xs) := frz_osl
theorem somk_nil {α : Type} {k : Nat} {mk : α → List SP} {T : TypeId} : ∀ c ob, emp.H c ob → (somk (.slice none 0 0) k mk [] T).H c ob := fun c ob h => ⟨by simp, .inl ⟨rfl, rfl, h⟩⟩
theorem sb_nilk {α : Type} {k : Nat} {mk : α → List SP} {Γ : Facts} : Sb Γ (isv (.slice none 0 0)) (slk k mk []) := fun _ _ _ h => h.1 ▸ ⟨by simp, .inl ⟨rfl, rfl⟩⟩
theorem co_slk {α : Type} {k : Nat} {mk : α → List SP} {xs : List α} : CellsOf (slk k mk xs) [slk k mk xs] := co_slc
theorem nth_flatk {α : Type} {mk : α → List SP} {es : Nat} (hl : ∀ a, (mk a).length = es) (dv : α) : ∀ {xs : List α} {i j : Nat}, i < xs.length → j < es → nth (xs.flatMap mk) (i * es + j) = nth (mk (xs.getD i dv)) j
  | [], i, j, hi, hj => by simp at hi
  | x :: xs, 0, j, hi, hj => by
    rw [nth_eq, nth_eq, List.flatMap_cons, Nat.zero_mul, Nat.zero_add, List.getElem?_append_left (by rw [hl]; exact hj)]
    rfl
  | x :: xs, i + 1, j, hi, hj => by
    have ih := nth_flatk hl dv (xs := xs) (i := i) (j := j) (by simpa using hi) hj
    rw [nth_eq, nth_eq] at ih
    rw [nth_eq, nth_eq, List.flatMap_cons, List.getElem?_append_right (by rw [hl, Nat.add_mul]; omega), hl]
    rw [show (i + 1) * es + j - es = i * es + j by rw [Nat.add_mul]; omega, ih]
    rfl
section ops
variable {P : Program} {n : Nat} {ops : Array Oper} {Γ : Facts} {ρ : Env} {δ : VEnv} {τ : List VR}
variable {d : Nat} {ty : TypeId} {pos : String} {af : Array Edge}
theorem op_len_sk {α : Type} {k : Nat} {mk : α → List SP} {xs : List α} {x : Operand} {t : TypeId} {E es eb : Nat} (ht : slT P t = some (E, es, eb)) (hx : Lk Γ δ ρ x (slk k mk xs)) :
    OpOK P n ops Γ ρ δ τ ⟨some d, .call ⟨.builtin .len, #[x], #[t]⟩, ty, pos, af, none⟩ .no (.c (isv (.int .i64 (xs.length : Int)))) dum := op_len ht hx
theorem op_index_sk {α : Type} {mk : α → List SP} {xs : List α} (dv : α) {x y : Operand} {T E es eb : Nat} {k : IntKind} {z : Int} (ht : slT P T = some (E, es, eb)) (hl : ∀ a, (mk a).length = es) (hx : Lk Γ δ ρ x (slk es mk xs)) (hy : Lk Γ δ ρ y (isv (.int k z))) (h0 : 0 ≤ z) (h1 : z < xs.length) :
    OpOK P n ops Γ ρ δ τ ⟨some d, .indexAddr T x y, ty, pos, af, none⟩ .no (.c (ptp (mk (xs.getD z.toNat dv)))) dum :=
  op_index_k ht hx hy h0 h1 fun j p hj => by
    have hjl := nth_lt hj
    rw [hl] at hjl
    rw [nth_flatk hl dv (by omega) hjl]
    exact hj
theorem op_append_k {α : Type} {mk : α → List SP} {xs : List α} (v : α) {x y : Operand} {T E es eb : Nat} (k : Nat) {sv : Value} {zs : List Value} (ht : slT P T = some (E, es, eb)) (hz : zrT P E = some zs) (hzl : Nat.beq zs.length es = true) (hes : Nat.blt 0 es = true) (hx : Lk Γ δ ρ x (isv sv)) (hy : Lk Γ δ ρ y (slc 1 es (mk v)))
    (hk : nth τ k = some (.c (somk sv es mk xs E))) (h63 : xs.length + 1 ≤ 9223372036854775807) (hb : (xs.length + 1) * eb ≤ 140737488355328) :
    OpOK P n ops Γ ρ δ τ ⟨some d, .call ⟨.builtin .append, #[x, y], #[T, T]⟩, ty, pos, af, none⟩ (.wr k) (slAt d) (.d [d] (fun f => somk (f d) es mk (xs ++ [v]) E) (fun f g h => by rw [h d (List.mem_singleton.2 rfl)])) := by
  have h := op_append (n := n) (ops := ops) (d := d) (ty := ty) (pos := pos) (af := af) k ht hz hzl hes hx hy hk rfl h63 hb (all := (xs ++ [v]).flatMap mk) (by simp)
  intro a c ob g1 g2 g3 g4 g5 g6 g7
  have := h a c ob g1 g2 g3 g4 g5 g6 g7
  have e : xs.length + 1 = (xs ++ [v]).length := by simp
  simp only [oslAt, VR.at] at this
  simp only [VR.at, somk]
  rw [← e]
  exact this
end ops
/-! ## Function values -/
section fn
variable {P : Program}
def fnq (P : Program) {α : Type} (C : α → Prop) (ps : α → List SP) (R : α → SP) : SP := ⟨fun v c => ∃ fid capt, v = .func (.func fid) #[] capt ∧ Has P fid ∧ ∀ c', Le c c' → (∀ k, c'.M k → k < c'.w.heap.size) → ∀ a, C a → ∀ vs : List Value, HL (ps a) vs c' → Calls P fid (vs.toArray ++ capt) c'.w (fun e w' => ∃ v, e = .returned v ∧ Xt c' w' ∧ (R a).H v ⟨w', c'.M⟩), by
  rintro v c c' hle ⟨fid, capt, h1, h2, h3⟩
  exact ⟨fid, capt, h1, h2, fun c'' h => h3 c'' (hle.trans h)⟩⟩
theorem co_fnq {α : Type} {C : α → Prop} {ps : α → List SP} {R : α → SP} : CellsOf (fnq P C ps R) [fnq P C ps R] := .one fun _ _ ⟨_, _, h, _⟩ => h ▸ rfl
theorem HL.app {ps qs : List SP} {c : EW} : ∀ {vs ws : List Value}, HL ps vs c → HL qs ws c → HL (ps ++ qs) (vs ++ ws) c := by
  induction ps with
  | nil => intro vs ws h k; cases vs with | nil => exact k | cons v vs => exact h.elim
  | cons p ps ih => intro vs ws h k; cases vs with | nil => exact h.elim | cons v vs => exact ⟨h.1, ih h.2 k⟩
theorem Lk.fnq {Γ : Facts} {δ : VEnv} {ρ : Env} {f : Nat} {α : Type} {C : α → Prop} {ps : α → List SP} {R : α → SP} (h : ∀ a, C a → Ct P f (ps a) (R a)) (hH : Has P f) : Lk Γ δ ρ (.func f) (fnq P C ps R) := fun c hf =>
  ⟨f, #[], rfl, hH, fun c' _ hwf a hC vs hv => by
    have := (h a hC).2 vs c' hwf hv
    simpa using this⟩
variable {n : Nat} {ops : Array Oper} {Γ : Facts} {ρ : Env} {δ : VEnv} {τ : List VR}
variable {d : Nat} {ty : TypeId} {pos : String} {af : Array Edge}
theorem op_makeFuncq {fid : Nat} {xs : List Operand} {qs : List SP} {α : Type} {C : α → Prop} {ps : α → List SP} {R : α → SP} (hf : ∀ a, C a → Ct P fid (ps a ++ qs) (R a)) (hx : LkL Γ δ ρ xs qs) (hH : Has P fid) :
    OpOK P n ops Γ ρ δ τ ⟨some d, .makeFunc (.func fid) #[] xs.toArray, ty, pos, af, none⟩ .no (.c (fnq P C ps R)) dum :=
  ok_pure fun a c _ hr => by
    have hv := hx.val (a := a) (c := c) fun x q hx' hq => hr x q (by simpa [Op.operands] using hx') hq
    refine ⟨.func (.func fid) #[] (xs.map a.eval).toArray, by simp [execOp, Instr.makeFunc], fid, _, rfl, hH, fun c' hle hwf i hC vs hvs => ?_⟩
    have := (hf i hC).2 (vs ++ xs.map a.eval) c' hwf (hvs.app (hv.st hle))
    simpa using this
theorem op_callq {x : Operand} {xs : List Operand} {α : Type} {C : α → Prop} {ps : α → List SP} {R : α → SP} (i : α) {ats : Array TypeId} (hx : Lk Γ δ ρ x (fnq P C ps R)) (ha : LkL Γ δ ρ xs (ps i)) (hC : C i) :
    OpOK P n ops Γ ρ δ τ ⟨some d, .call ⟨.value x, xs.toArray, ats⟩, ty, pos, af, none⟩ .no (.c (R i)) dum := by
  intro a c ob hs hwf hfa hr hres hno hown
  have hob := hno rfl
  subst hob
  have hrd := fun x' q hx' hq => Lk.val (p := q) (o := ⟨some d, .call ⟨.value x, xs.toArray, ats⟩, ty, pos, af, none⟩) hr hfa (x := x') hx' hq
  obtain ⟨fid, capt, h1, h2, h3⟩ := hrd x _ (by simp [Op.operands, Call.operands]) hx
  have hv := ha.val (a := a) (c := c) fun x' q hx' hq => hrd x' q (by simp [Op.operands, Call.operands, hx']) hq
  simp only [Region.wanted, if_true]
  unfold Does
  have hex : (execOp a.eval ⟨some d, .call ⟨.value x, xs.toArray, ats⟩, ty, pos, af, none⟩).run P c.w = .ok (.enter fid ((xs.map a.eval).toArray ++ capt)) c.w := by
    have h6 := run_callFunc h2 ((xs.map a.eval).toArray ++ capt) c.w
    simp [execOp, resolve, Deferred.ofValue, h1, invoke, h6]
  rw [hex]
  exact (h3 c (Le.refl c) hwf i hC _ hv).mono fun e w' ⟨v, he, hxt, hR⟩ => ⟨v, he, ⟨w', c.M⟩, none, rfl, hxt.tr hwf none, hR, fun h => (by cases h)⟩
end fn
end Go.Bn
