/-
  A small logic for walks: what a slot holds is said by a predicate that lasts (SP), memory that the function itself owns is a resource (Res), and a region's operations are shown one by one; one theorem then serves every order that the region may draw.
-/
import Derived.Orders
import Derived.Tactics
set_option linter.unusedVariables false
set_option linter.unusedSimpArgs false
namespace Go.Bn
open Go

/-! ## Worlds with the blocks that may still be written -/

structure EW where
  w : World
  M : Nat → Prop

/-- Time goes on: what is not open for writing stays, and stays so. -/
structure Le (c c' : EW) : Prop where
  os : c'.w.os = c.w.os
  tape : c'.w.tape = c.w.tape
  out : c'.w.output = c.w.output
  size : c.w.heap.size ≤ c'.w.heap.size
  keep : ∀ k, k < c.w.heap.size → ¬ c.M k → c'.w.heap[k]? = c.w.heap[k]? ∧ ¬ c'.M k

theorem Le.refl (c : EW) : Le c c := ⟨rfl, rfl, rfl, Nat.le_refl _, fun _ _ h => ⟨rfl, h⟩⟩
theorem Le.trans {a b c : EW} (h : Le a b) (k : Le b c) : Le a c :=
  ⟨k.os.trans h.os, k.tape.trans h.tape, k.out.trans h.out, Nat.le_trans h.size k.size, fun i hi hm =>
    have h1 := h.keep i hi hm
    have h2 := k.keep i (Nat.lt_of_lt_of_le hi h.size) h1.2
    ⟨h2.1.trans h1.1, h2.2⟩⟩

/-- A predicate on a value that lasts. -/
structure SP where
  H : Value → EW → Prop
  st : ∀ v c c', Le c c' → H v c → H v c'

/-- A resource: what is known of one block that the function owns ('none': of none). -/
structure Res where
  H : EW → Option Nat → Prop
  fr : ∀ c c' ob, Le c c' → (∀ b, ob = some b → c'.w.heap[b]? = c.w.heap[b]?) → H c ob → H c' ob

/-- The slots' values. -/
abbrev Vl := Nat → Value
def vl (a : Act) : Vl := fun t => a.tmps.getD t undef
def upd (f : Vl) (d : Option Nat) (v : Value) : Vl :=
  match d with
  | some d => fun t => cond (Nat.beq d t) v (f t)
  | none => f

/-- A predicate that may name other slots' values. -/
inductive VE where
  | c (p : SP)
  | d (D : List Nat) (q : Vl → SP) (h : ∀ f g : Vl, (∀ t, t ∈ D → f t = g t) → q f = q g)
def VE.at : VE → Vl → SP
  | .c p, _ => p
  | .d _ q _, f => q f
def VE.D : VE → List Nat
  | .c _ => []
  | .d D _ _ => D
theorem VE.congr (e : VE) (f g : Vl) (h : ∀ t, t ∈ e.D → f t = g t) : e.at f = e.at g := by
  cases e with
  | c p => rfl
  | d D q hq => exact hq f g h

inductive VR where
  | c (r : Res)
  | d (D : List Nat) (q : Vl → Res) (h : ∀ f g : Vl, (∀ t, t ∈ D → f t = g t) → q f = q g)
def VR.at : VR → Vl → Res
  | .c p, _ => p
  | .d _ q _, f => q f
def VR.D : VR → List Nat
  | .c _ => []
  | .d D _ _ => D
theorem VR.congr (e : VR) (f g : Vl) (h : ∀ t, t ∈ e.D → f t = g t) : e.at f = e.at g := by
  cases e with
  | c p => rfl
  | d D q hq => exact hq f g h

/-! ## Environments -/

abbrev Env := List (Nat × SP)
abbrev VEnv := List (Nat × VE)
def Env.get : Env → Nat → Option SP
  | [], _ => none
  | (k, p) :: es, t => cond (Nat.beq k t) (some p) (Env.get es t)
/-- What is known of a slot inside a region: first what the region laid, then what was known ahead. -/
def getV : VEnv → Env → Nat → Option VE
  | [], ρ, t => match ρ.get t with | some p => some (.c p) | none => none
  | (k, e) :: es, ρ, t => cond (Nat.beq k t) (some e) (getV es ρ t)
/-- The same behind the region. -/
def getF (g : Vl) : VEnv → Env → Nat → Option SP
  | [], ρ, t => ρ.get t
  | (k, e) :: es, ρ, t => cond (Nat.beq k t) (match e with | .c p => some p | .d _ q _ => some (q g)) (getF g es ρ t)
theorem getF_eq (g : Vl) (ρ : Env) (t : Nat) : ∀ δ : VEnv, getF g δ ρ t = (getV δ ρ t).map (·.at g)
  | [] => by simp only [getF, getV]; cases ρ.get t <;> rfl
  | (k, e) :: es => by
    simp only [getF, getV]
    cases Nat.beq k t
    · exact getF_eq g ρ t es
    · cases e <;> rfl

abbrev Facts := List (Value × SP)
def FH (Γ : Facts) (c : EW) : Prop := ∀ v p, (v, p) ∈ Γ → p.H v c
theorem FH.le {Γ : Facts} {c c' : EW} (h : Le c c') (hf : FH Γ c) : FH Γ c' := fun v p hm => p.st v c c' h (hf v p hm)
def EH (ρ : Env) (f : Vl) (c : EW) : Prop := ∀ t p, ρ.get t = some p → p.H (f t) c
theorem EH.le {ρ : Env} {f : Vl} {c c' : EW} (h : Le c c') (hf : EH ρ f c) : EH ρ f c' := fun t p hm => p.st _ c c' h (hf t p hm)

/-! ## One operation -/

/-- An operation comes to a value and a world of which R holds; no panic. -/
def Does (P : Program) (o : Oper) (a : Act) (w : World) (R : Value → World → Prop) : Prop :=
  match (execOp a.eval o).run P w with
  | .ok (.value v) w' => R v w'
  | .ok .skip w' => R undef w'
  | .ok (.enter f args) w' => Calls P f args w' (fun e w'' => ∃ v, e = .returned v ∧ R v w'')
  | _ => False

theorem Does.mono {P : Program} {o : Oper} {a : Act} {w : World} {R R' : Value → World → Prop} (h : Does P o a w R) (hr : ∀ v w', R v w' → R' v w') : Does P o a w R' := by
  unfold Does at *
  split at h
  · exact hr _ _ h
  · exact hr _ _ h
  · exact h.mono fun e w' ⟨v, he, hv⟩ => ⟨v, he, hr _ _ hv⟩
  · exact h.elim

theorem Does.wp {P : Program} {o : Oper} {a : Act} {w : World} {R : Value → World → Prop} {K : Act → World → Prop} {Q : Exit → Act → World → Prop}
    (h : Does P o a w R) (hr : ∀ v w', R v w' → K (a.put o.dst v) w') : o.wp P a w K Q := by
  unfold Does at h
  unfold Oper.wp
  generalize (execOp a.eval o).run P w = r at *
  cases r with
  | ok n w' =>
    cases n <;> simp only [Oper.upon] at h ⊢
    case value v => exact hr _ _ h
    case skip => exact hr _ _ h
    case enter f args => exact h.mono fun e w'' ⟨v, he, hv⟩ => by subst he; exact hr _ _ hv
  | halt x w' => cases x <;> simp only at h

/-- Which resource an operation touches: none; it reads it; it writes it. -/
inductive Acc where
  | no
  | rd (k : Nat)
  | wr (k : Nat)
def Acc.w : Acc → Bool
  | .wr _ => true
  | _ => false
def Acc.isW : Acc → Nat → Bool
  | .wr j, k => Nat.beq j k
  | _, _ => false
def Acc.k : Acc → Option Nat
  | .no => none
  | .rd k => some k
  | .wr k => some k

/-- From c to c', where the block ob (if wr) may have been written, and is now ob'. -/
structure Tr (c : EW) (ob : Option Nat) (wr : Bool) (c' : EW) (ob' : Option Nat) : Prop where
  os : c'.w.os = c.w.os
  tape : c'.w.tape = c.w.tape
  out : c'.w.output = c.w.output
  size : c.w.heap.size ≤ c'.w.heap.size
  heap : ∀ k, k < c.w.heap.size → (wr = true → ob ≠ some k) → c'.w.heap[k]? = c.w.heap[k]?
  mem : ∀ k, k < c.w.heap.size → (c'.M k ↔ c.M k)
  own : ob' = ob ∨ (wr = true ∧ ∃ b, ob' = some b ∧ c.w.heap.size ≤ b ∧ c'.M b)
  lt : ∀ k, c'.M k → k < c'.w.heap.size

theorem Tr.le {c c' : EW} {ob ob' : Option Nat} {wr : Bool} (h : Tr c ob wr c' ob') (hm : ∀ b, ob = some b → c.M b) : Le c c' :=
  ⟨h.os, h.tape, h.out, h.size, fun k hk hn => ⟨h.heap k hk (fun _ e => hn (hm k e)), fun hc => hn ((h.mem k hk).1 hc)⟩⟩

def setAt : List VR → Nat → VR → List VR
  | [], _, _ => []
  | _ :: l, 0, r => r :: l
  | x :: l, k + 1, r => x :: setAt l k r
theorem setAt_eq (l : List VR) (k : Nat) (r : VR) : setAt l k r = l.set k r := by
  induction l generalizing k with
  | nil => rfl
  | cons x l ih => cases k <;> simp [setAt, ih]
def nth {α : Type} : List α → Nat → Option α
  | [], _ => none
  | x :: _, 0 => some x
  | _ :: l, k + 1 => nth l k
theorem nth_eq {α : Type} (l : List α) (k : Nat) : nth l k = l[k]? := by
  induction l generalizing k with
  | nil => rfl
  | cons x l ih => cases k <;> simp [nth, ih]

/-- One operation of a region, shown by what is known of the slots that it looks at and of the one resource that it touches. -/
def OpOK (P : Program) (n : Nat) (ops : Array Oper) (Γ : Facts) (ρ : Env) (δ : VEnv) (τ : List VR) (o : Oper) (acc : Acc) (e : VE) (r' : VR) : Prop :=
  ∀ (a : Act) (c : EW) (ob : Option Nat), a.tmps.size = n → (∀ k, c.M k → k < c.w.heap.size) → FH Γ c →
    (∀ t, t ∈ o.looksAt ops → ∀ q, getV δ ρ t = some q → (q.at (vl a)).H (vl a t) c) →
    (∀ k, acc.k = some k → ∃ r, nth τ k = some r ∧ (r.at (vl a)).H c ob) → (acc.k = none → ob = none) → (∀ b, ob = some b → c.M b ∧ b < c.w.heap.size) →
    if Region.wanted o (yielded ops a.tmps) then
      Does P o a c.w fun v w' => ∃ c' ob', c'.w = w' ∧ Tr c ob acc.w c' ob' ∧ (e.at (upd (vl a) o.dst v)).H v c' ∧ (acc.w = true → (r'.at (upd (vl a) o.dst v)).H c' ob')
    else acc.w = false ∧ (e.at (upd (vl a) o.dst undef)).H undef c

structure Info where
  acc : Acc
  e : VE
  r : VR

def pushE (d : Option Nat) (e : VE) (δ : VEnv) : VEnv := match d with | some d => (d, e) :: δ | none => δ
def setW (acc : Acc) (r : VR) (τ : List VR) : List VR := match acc with | .wr k => setAt τ k r | _ => τ

/-- The operations in the order of the text. -/
inductive Steps (P : Program) (n : Nat) (ops : Array Oper) (Γ : Facts) (ρ : Env) : VEnv → List VR → List Oper → List Info → VEnv → List VR → Prop where
  | nil {δ : VEnv} {τ : List VR} : Steps P n ops Γ ρ δ τ [] [] δ τ
  | cons {δ δ' : VEnv} {τ τ' : List VR} {o : Oper} {l : List Oper} {is : List Info} (acc : Acc) (e : VE) (r : VR) (h : OpOK P n ops Γ ρ δ τ o acc e r)
      (hr : Steps P n ops Γ ρ (pushE o.dst e δ) (setW acc r τ) l is δ' τ') : Steps P n ops Γ ρ δ τ (o :: l) (⟨acc, e, r⟩ :: is) δ' τ'

/-! ## The sets of operations that are done -/

section region
variable {P : Program} {n : Nat} {ops : Array Oper} {Γ : Facts} {ρ : Env}

def envL (ops : Array Oper) (is : List Info) (L : Nat → Bool) : Nat → VEnv
  | 0 => []
  | m + 1 => match ops[m]?, is[m]? with
    | some o, some i => if L m then pushE o.dst i.e (envL ops is L m) else envL ops is L m
    | _, _ => envL ops is L m
def resL (ops : Array Oper) (is : List Info) (τ : List VR) (L : Nat → Bool) : Nat → List VR
  | 0 => τ
  | m + 1 => match ops[m]?, is[m]? with
    | some _, some i => if L m then setW i.acc i.r (resL ops is τ L m) else resL ops is τ L m
    | _, _ => resL ops is τ L m

theorem beq_ne {a b : Nat} (h : a ≠ b) : Nat.beq a b = false := by
  cases e : Nat.beq a b
  · rfl
  · exact (h (Nat.eq_of_beq_eq_true e)).elim
theorem getV_push (d : Option Nat) (e : VE) (δ : VEnv) (t : Nat) : getV (pushE d e δ) ρ t = if d = some t then some e else getV δ ρ t := by
  cases d with
  | none => simp [pushE]
  | some d =>
    simp only [pushE, getV, Option.some.injEq]
    by_cases h : d = t
    · subst h; simp
    · rw [if_neg h, beq_ne h]; rfl
theorem nth_setW (acc : Acc) (r : VR) (τ : List VR) (k : Nat) : nth (setW acc r τ) k = if acc.isW k = true ∧ k < τ.length then some r else nth τ k := by
  cases acc with
  | no => simp [setW, Acc.isW]
  | rd j => simp [setW, Acc.isW]
  | wr j =>
    simp only [setW, Acc.isW]
    rw [setAt_eq, nth_eq, nth_eq, List.getElem?_set]
    by_cases h : j = k
    · subst h
      by_cases h2 : j < τ.length
      · simp [h2]
      · simp [h2]
    · simp [h, beq_ne h]
theorem length_setW (acc : Acc) (r : VR) (τ : List VR) : (setW acc r τ).length = τ.length := by
  cases acc <;> simp [setW, setAt_eq]
theorem length_resL (is : List Info) (τ : List VR) (L : Nat → Bool) : ∀ m, (resL ops is τ L m).length = τ.length
  | 0 => rfl
  | m + 1 => by
    simp only [resL]
    split
    · split
      · rw [length_setW, length_resL is τ L m]
      · exact length_resL is τ L m
    · exact length_resL is τ L m

theorem getV_congr (is : List Info) (t : Nat) (L L' : Nat → Bool) : ∀ m, (∀ j, j < m → ∀ o, ops[j]? = some o → o.dst = some t → L j = L' j) →
    getV (envL ops is L m) ρ t = getV (envL ops is L' m) ρ t
  | 0, _ => rfl
  | m + 1, h => by
    have ih := getV_congr is t L L' m (fun j hj => h j (by omega))
    simp only [envL]
    split
    · rename_i o i ho hi
      by_cases hd : o.dst = some t
      · have hl := h m (by omega) o ho hd
        rw [hl]
        split
        · rw [getV_push, getV_push, if_pos hd, if_pos hd]
        · exact ih
      · have e1 : ∀ (b : Bool) δ, getV (if b then pushE o.dst i.e δ else δ) ρ t = getV δ ρ t := fun b δ => by
          cases b
          · rfl
          · simp [getV_push, hd]
        rw [e1, e1, ih]
    · exact ih
theorem nth_congr (is : List Info) (τ : List VR) (k : Nat) (L L' : Nat → Bool) : ∀ m, (∀ j, j < m → ∀ i, is[j]? = some i → i.acc.isW k = true → L j = L' j) →
    nth (resL ops is τ L m) k = nth (resL ops is τ L' m) k
  | 0, _ => rfl
  | m + 1, h => by
    have ih := nth_congr is τ k L L' m (fun j hj => h j (by omega))
    simp only [resL]
    split
    · rename_i o i ho hi
      by_cases hd : i.acc.isW k = true
      · have hl := h m (by omega) i hi hd
        rw [hl]
        split
        · rw [nth_setW, nth_setW, length_resL, length_resL, ih]
        · exact ih
      · have e1 : ∀ (b : Bool) δ, nth (if b then setW i.acc i.r δ else δ) k = nth δ k := fun b δ => by
          cases b
          · rfl
          · simp [nth_setW, hd]
        rw [e1, e1, ih]
    · exact ih
/-- What lies beyond i adds nothing, if nothing there is done. -/
theorem envL_trunc (is : List Info) (L : Nat → Bool) (i : Nat) : ∀ m, i ≤ m → (∀ j, i ≤ j → L j = false) → envL ops is L m = envL ops is L i
  | 0, h, _ => by rw [Nat.le_zero.1 h]
  | m + 1, h, hL => by
    by_cases he : i = m + 1
    · rw [he]
    · have := envL_trunc is L i m (by omega) hL
      simp only [envL]
      split
      · rw [hL m (by omega)]; exact this
      · exact this
theorem resL_trunc (is : List Info) (τ : List VR) (L : Nat → Bool) (i : Nat) : ∀ m, i ≤ m → (∀ j, i ≤ j → L j = false) → resL ops is τ L m = resL ops is τ L i
  | 0, h, _ => by rw [Nat.le_zero.1 h]
  | m + 1, h, hL => by
    by_cases he : i = m + 1
    · rw [he]
    · have := resL_trunc is τ L i m (by omega) hL
      simp only [resL]
      split
      · rw [hL m (by omega)]; exact this
      · exact this

/-- What Steps shows of each operation. -/
theorem Steps.spec {δ δ' : VEnv} {τ τ' : List VR} {l : List Oper} {is : List Info} (h : Steps P n ops Γ ρ δ τ l is δ' τ') :
    ∀ (k : Nat) (is0 : List Info), (∀ j, l[j]? = ops[k + j]?) → is0.length = k → ∀ (τ0 : List VR), δ = envL ops (is0 ++ is) (fun _ => true) k → τ = resL ops (is0 ++ is) τ0 (fun _ => true) k →
      is.length = l.length ∧ δ' = envL ops (is0 ++ is) (fun _ => true) (k + l.length) ∧ τ' = resL ops (is0 ++ is) τ0 (fun _ => true) (k + l.length) ∧
      ∀ j o i, ops[k + j]? = some o → is[j]? = some i → OpOK P n ops Γ ρ (envL ops (is0 ++ is) (fun _ => true) (k + j)) (resL ops (is0 ++ is) τ0 (fun _ => true) (k + j)) o i.acc i.e i.r := by
  induction h with
  | nil =>
    intro k is0 hl hk τ0 hδ hτ
    exact ⟨rfl, hδ, hτ, fun j o i ho hi => by simp at hi⟩
  | @cons δ δ' τ τ' o l is acc e r hop hr ih =>
    intro k is0 hl hk τ0 hδ hτ
    have h0 : ops[k]? = some o := by simpa using (hl 0).symm
    have hi0 : (is0 ++ ⟨acc, e, r⟩ :: is)[k]? = some ⟨acc, e, r⟩ := by subst hk; simp
    have hE : pushE o.dst e δ = envL ops ((is0 ++ [⟨acc, e, r⟩]) ++ is) (fun _ => true) (k + 1) := by
      simp only [List.append_assoc, List.singleton_append, envL, h0, hi0, if_true, ← hδ]
    have hR : setW acc r τ = resL ops ((is0 ++ [⟨acc, e, r⟩]) ++ is) τ0 (fun _ => true) (k + 1) := by
      simp only [List.append_assoc, List.singleton_append, resL, h0, hi0, if_true, ← hτ]
    obtain ⟨g1, g2, g3, g4⟩ := ih (k + 1) (is0 ++ [⟨acc, e, r⟩]) (fun j => by have := hl (j + 1); simpa [Nat.add_assoc, Nat.add_comm 1 j] using this) (by simp [hk]) τ0 hE hR
    simp only [List.append_assoc, List.singleton_append] at g2 g3 g4
    refine ⟨by simp [g1], ?_, ?_, ?_⟩
    · rw [g2]; congr 1; simp; omega
    · rw [g3]; congr 1; simp; omega
    · intro j o' i' ho' hi'
      cases j with
      | zero =>
        simp only [Nat.add_zero] at ho' ⊢
        rw [h0] at ho'
        cases ho'
        simp only [List.getElem?_cons_zero, Option.some.injEq] at hi'
        subst hi'
        rw [← hδ, ← hτ]
        exact hop
      | succ j =>
        have := g4 j o' i' (by rw [← ho']; congr 1; omega) (by simpa using hi')
        have e1 : k + 1 + j = k + (j + 1) := by omega
        rw [e1] at this
        exact this

/-! ## Ownership -/

/-- What the function may write, and what has become of all else since it was entered. -/
structure Own (c0 : EW) (E : Nat → Prop) (c : EW) (obs : Nat → Option Nat) : Prop where
  os : c.w.os = c0.w.os
  tape : c.w.tape = c0.w.tape
  out : c.w.output = c0.w.output
  size : c0.w.heap.size ≤ c.w.heap.size
  heap : ∀ k, k < c0.w.heap.size → ¬ E k → c.w.heap[k]? = c0.w.heap[k]?
  mem : ∀ k, k < c0.w.heap.size → (c.M k ↔ c0.M k)
  wf : ∀ k, c.M k → k < c.w.heap.size
  has : ∀ k b, obs k = some b → c.M b ∧ (c0.w.heap.size ≤ b ∨ E b)
  one : ∀ k k' b, obs k = some b → obs k' = some b → k = k'
  wf0 : ∀ k, c0.M k → k < c0.w.heap.size

theorem Own.lt {c0 c : EW} {E : Nat → Prop} {obs : Nat → Option Nat} (h : Own c0 E c obs) {k b : Nat} (hk : obs k = some b) : b < c.w.heap.size := h.wf b (h.has k b hk).1

theorem Own.no {c0 c c' : EW} {E : Nat → Prop} {obs : Nat → Option Nat} {ob ob' : Option Nat} (h : Own c0 E c obs) (ht : Tr c ob false c' ob') : Own c0 E c' obs where
  os := ht.os.trans h.os
  tape := ht.tape.trans h.tape
  out := ht.out.trans h.out
  size := Nat.le_trans h.size ht.size
  heap k hk hE := (ht.heap k (Nat.lt_of_lt_of_le hk h.size) (by simp)).trans (h.heap k hk hE)
  mem k hk := (ht.mem k (Nat.lt_of_lt_of_le hk h.size)).trans (h.mem k hk)
  wf := ht.lt
  has k b hb := ⟨(ht.mem b (h.lt hb)).2 (h.has k b hb).1, (h.has k b hb).2⟩
  one := h.one
  wf0 := h.wf0

def setO (obs : Nat → Option Nat) (k : Nat) (ob : Option Nat) : Nat → Option Nat := fun j => if j = k then ob else obs j

theorem Own.wr {c0 c c' : EW} {E : Nat → Prop} {obs : Nat → Option Nat} {k : Nat} {ob ob' : Option Nat} {wr : Bool} (h : Own c0 E c obs) (hk : obs k = ob) (ht : Tr c ob wr c' ob') : Own c0 E c' (setO obs k ob') where
  os := ht.os.trans h.os
  tape := ht.tape.trans h.tape
  out := ht.out.trans h.out
  size := Nat.le_trans h.size ht.size
  heap j hj hE := (ht.heap j (Nat.lt_of_lt_of_le hj h.size) (fun _ e => by
    subst hk
    rcases (h.has k j e).2 with h' | h'
    · omega
    · exact hE h')).trans (h.heap j hj hE)
  mem j hj := (ht.mem j (Nat.lt_of_lt_of_le hj h.size)).trans (h.mem j hj)
  wf := ht.lt
  has j b hb := by
    unfold setO at hb
    by_cases hj : j = k
    · rw [if_pos hj] at hb
      rcases ht.own with ho | ⟨_, b', hb', hs, hm⟩
      · rw [ho, ← hk] at hb
        exact ⟨(ht.mem b (h.lt hb)).2 (h.has k b hb).1, (h.has k b hb).2⟩
      · rw [hb] at hb'
        cases hb'
        exact ⟨hm, .inl (Nat.le_trans h.size hs)⟩
    · rw [if_neg hj] at hb
      exact ⟨(ht.mem b (h.lt hb)).2 (h.has j b hb).1, (h.has j b hb).2⟩
  one j j' b hb hb' := by
    have key : ∀ i, i ≠ k → obs i = some b → ob' = some b → False := fun i hi hib hob => by
      rcases ht.own with ho | ⟨_, b', hb', hs, hm⟩
      · exact hi (h.one i k b hib (by rw [hk, ← ho, hob]))
      · rw [hob] at hb'
        cases hb'
        have := h.lt hib
        omega
    unfold setO at hb hb'
    by_cases hj : j = k <;> by_cases hj' : j' = k
    · rw [hj, hj']
    · rw [if_pos hj] at hb; rw [if_neg hj'] at hb'; exact (key j' hj' hb' hb).elim
    · rw [if_neg hj] at hb; rw [if_pos hj'] at hb'; exact (key j hj hb hb').elim
    · rw [if_neg hj] at hb; rw [if_neg hj'] at hb'; exact h.one j j' b hb hb'
  wf0 := h.wf0

end region

/-! ## A region -/

/-- What must be in order: two operations of which one writes what the other looks at, or the same slot, or the same resource. -/
def clash (ops : Array Oper) (x : Oper × Info) (y : Oper × Info) : Bool :=
  (match x.1.dst with | some d => (y.1.looksAt ops).contains d || (match y.1.dst with | some d' => Nat.beq d d' | none => false) | none => false) ||
  (match y.1.dst with | some d => (x.1.looksAt ops).contains d | none => false) ||
  (match x.2.acc, y.2.acc with
    | .no, _ => false
    | _, .no => false
    | .rd _, .rd _ => false
    | .rd j, .wr k => Nat.beq j k
    | .wr j, .rd k => Nat.beq j k
    | .wr j, .wr k => Nat.beq j k)
/-- Does x write a slot that y's predicate names? -/
def names (x : Oper × Info) (y : Oper × Info) : Bool :=
  match x.1.dst with
  | some d => y.2.e.D.contains d || y.2.r.D.contains d
  | none => false
def chkRow (ops : Array Oper) (bf : Nat → Nat → Bool) (x : Oper × Info) (i : Nat) : Nat → List (Oper × Info) → Bool
  | _, [] => true
  | j, y :: l => (Nat.beq i j || ((!clash ops x y || bf i j || bf j i) && (!names x y || bf i j))) && chkRow ops bf x i (j + 1) l
def chkAll (ops : Array Oper) (bf : Nat → Nat → Bool) (all : List (Oper × Info)) : Nat → List (Oper × Info) → Bool
  | _, [] => true
  | i, x :: l => chkRow ops bf x i 0 all && chkAll ops bf all (i + 1) l
def slotsOK (n : Nat) : List Oper → Bool
  | [] => true
  | o :: l => (match o.dst with | some d => Nat.blt d n | none => true) && slotsOK n l

theorem chkRow_spec {ops : Array Oper} {bf : Nat → Nat → Bool} {x : Oper × Info} {i : Nat} : ∀ {j : Nat} {l : List (Oper × Info)}, chkRow ops bf x i j l = true →
    ∀ m y, l[m]? = some y → i ≠ j + m → (clash ops x y = true → bf i (j + m) = true ∨ bf (j + m) i = true) ∧ (names x y = true → bf i (j + m) = true)
  | _, [], _, m, y, hm, _ => by simp at hm
  | j, z :: l, h, m, y, hm, hne => by
    simp only [chkRow, Bool.and_eq_true] at h
    cases m with
    | zero =>
      simp only [List.getElem?_cons_zero, Option.some.injEq] at hm
      subst hm
      have h1 := h.1
      rw [Nat.add_zero] at hne ⊢
      rw [beq_ne hne] at h1
      simp only [Bool.false_or, Bool.and_eq_true, Bool.or_eq_true, Bool.not_eq_true'] at h1
      exact ⟨fun hc => h1.1.elim (fun h' => h'.elim (fun h'' => by rw [hc] at h''; cases h'') .inl) .inr, fun hc => h1.2.resolve_left (by rw [hc]; simp)⟩
    | succ m =>
      have := chkRow_spec h.2 m y (by simpa using hm) (by omega)
      have e : j + 1 + m = j + (m + 1) := by omega
      rw [e] at this
      exact this
theorem chkAll_spec {ops : Array Oper} {bf : Nat → Nat → Bool} {all : List (Oper × Info)} : ∀ {i : Nat} {l : List (Oper × Info)}, chkAll ops bf all i l = true →
    ∀ m x, l[m]? = some x → chkRow ops bf x (i + m) 0 all = true
  | _, [], _, m, x, hm => by simp at hm
  | i, z :: l, h, m, x, hm => by
    simp only [chkAll, Bool.and_eq_true] at h
    cases m with
    | zero =>
      simp only [List.getElem?_cons_zero, Option.some.injEq] at hm
      subst hm
      exact h.1
    | succ m =>
      have := chkAll_spec h.2 m x (by simpa using hm)
      have e : i + 1 + m = i + (m + 1) := by omega
      rw [e] at this
      exact this
theorem slotsOK_spec {n : Nat} : ∀ {l : List Oper}, slotsOK n l = true → ∀ (o : Oper) (d : Nat), o ∈ l → o.dst = some d → d < n
  | [], _, o, d, h, _ => by simp at h
  | z :: l, h, o, d, ho, hd => by
    simp only [slotsOK, Bool.and_eq_true] at h
    rcases List.mem_cons.1 ho with rfl | ho
    · have := h.1
      rw [hd] at this
      have hb : Nat.blt d n = true := this
      unfold Nat.blt at hb
      exact Nat.le_of_ble_eq_true hb
    · exact slotsOK_spec h.2 o d ho hd

theorem vl_put (a : Act) (d : Option Nat) (v : Value) (h : ∀ t, d = some t → t < a.tmps.size) : vl (a.put d v) = upd (vl a) d v := by
  cases d with
  | none => rfl
  | some d =>
    funext t
    have hd := h d rfl
    by_cases ht : d = t
    · subst ht
      simp [vl, Act.put, upd, hd]
    · simp [vl, Act.put, upd, beq_ne ht, ht]
theorem size_put (a : Act) (d : Option Nat) (v : Value) : (a.put d v).tmps.size = a.tmps.size := by cases d <;> simp [Act.put]
theorem defers_put (a : Act) (d : Option Nat) (v : Value) : (a.put d v).defers = a.defers := by cases d <;> rfl
theorem upd_ne (f : Vl) (d : Option Nat) (v : Value) (t : Nat) (h : d ≠ some t) : upd f d v t = f t := by
  cases d with
  | none => rfl
  | some d =>
    have : d ≠ t := fun e => h (by rw [e])
    simp [upd, beq_ne this]
theorem upd_eq (f : Vl) (d : Nat) (v : Value) : upd f (some d) v d = v := by simp [upd]

section region2
variable {P : Program} {n : Nat} {ops : Array Oper} {Γ : Facts} {ρ : Env} {is : List Info} {τ : List VR}

/-- What holds once the operations of L are done. -/
structure Inv (n : Nat) (ops : Array Oper) (Γ : Facts) (ρ : Env) (is : List Info) (τ : List VR) (c0 : EW) (E : Nat → Prop) (df : List Deferred) (L : Nat → Bool) (a : Act) (c : EW) (obs : Nat → Option Nat) : Prop where
  size : a.tmps.size = n
  defers : a.defers = df
  facts : FH Γ c
  own : Own c0 E c obs
  slots : ∀ t q, getV (envL ops is L ops.size) ρ t = some q → (q.at (vl a)).H (vl a t) c
  res : ∀ k r, nth (resL ops is τ L ops.size) k = some r → (r.at (vl a)).H c (obs k)

/-- What a predicate of a done operation names was written by operations ahead of it. -/
theorem named (bf : Nat → Nat → Bool) (hchk : chkAll ops bf (ops.toList.zip is) 0 (ops.toList.zip is) = true) {i j : Nat} {oi oj : Oper} {ii ij : Info} {d : Nat}
    (hoi : ops[i]? = some oi) (hii : is[i]? = some ii) (hoj : ops[j]? = some oj) (hij : is[j]? = some ij) (hne : i ≠ j) (hd : oi.dst = some d) (hD : d ∈ ij.e.D ∨ d ∈ ij.r.D) : bf i j = true := by
  have zi : (ops.toList.zip is)[i]? = some (oi, ii) := by rw [List.getElem?_zip_eq_some]; exact ⟨by simpa using hoi, hii⟩
  have zj : (ops.toList.zip is)[j]? = some (oj, ij) := by rw [List.getElem?_zip_eq_some]; exact ⟨by simpa using hoj, hij⟩
  have h1 := chkAll_spec hchk i _ zi
  rw [Nat.zero_add] at h1
  have h2 := (chkRow_spec h1 j _ zj (by omega)).2
  rw [Nat.zero_add] at h2
  refine h2 ?_
  simp only [names, hd]
  rcases hD with h | h <;> simp [h]
theorem clashed (bf : Nat → Nat → Bool) (hchk : chkAll ops bf (ops.toList.zip is) 0 (ops.toList.zip is) = true) {i j : Nat} {oi oj : Oper} {ii ij : Info}
    (hoi : ops[i]? = some oi) (hii : is[i]? = some ii) (hoj : ops[j]? = some oj) (hij : is[j]? = some ij) (hne : i ≠ j) (hc : clash ops (oi, ii) (oj, ij) = true) : bf i j = true ∨ bf j i = true := by
  have zi : (ops.toList.zip is)[i]? = some (oi, ii) := by rw [List.getElem?_zip_eq_some]; exact ⟨by simpa using hoi, hii⟩
  have zj : (ops.toList.zip is)[j]? = some (oj, ij) := by rw [List.getElem?_zip_eq_some]; exact ⟨by simpa using hoj, hij⟩
  have h1 := chkAll_spec hchk i _ zi
  rw [Nat.zero_add] at h1
  have h2 := (chkRow_spec h1 j _ zj (by omega)).1
  rw [Nat.zero_add] at h2
  exact h2 hc

theorem getV_envL_mem (L : Nat → Bool) (t : Nat) (q : VE) : ∀ m, getV (envL ops is L m) ρ t = some q →
    (∃ p, ρ.get t = some p ∧ q = .c p) ∨ ∃ j o i, j < m ∧ L j = true ∧ ops[j]? = some o ∧ is[j]? = some i ∧ o.dst = some t ∧ q = i.e
  | 0, h => by
    simp only [envL, getV] at h
    split at h
    · rename_i p hp; cases h; exact .inl ⟨p, hp, rfl⟩
    · cases h
  | m + 1, h => by
    have up : ((∃ p, ρ.get t = some p ∧ q = .c p) ∨ ∃ j o i, j < m ∧ L j = true ∧ ops[j]? = some o ∧ is[j]? = some i ∧ o.dst = some t ∧ q = i.e) →
      (∃ p, ρ.get t = some p ∧ q = .c p) ∨ ∃ j o i, j < m + 1 ∧ L j = true ∧ ops[j]? = some o ∧ is[j]? = some i ∧ o.dst = some t ∧ q = i.e :=
      fun h => h.imp id fun ⟨j, o, i, hj, r⟩ => ⟨j, o, i, by omega, r⟩
    simp only [envL] at h
    split at h
    · rename_i o i ho hi
      split at h
      · rename_i hL
        rw [getV_push] at h
        split at h
        · rename_i hd; cases h; exact .inr ⟨m, o, i, by omega, hL, ho, hi, hd, rfl⟩
        · exact up (getV_envL_mem L t q m h)
      · exact up (getV_envL_mem L t q m h)
    · exact up (getV_envL_mem L t q m h)
theorem nth_resL_mem (L : Nat → Bool) (k : Nat) (r : VR) : ∀ m, nth (resL ops is τ L m) k = some r →
    nth τ k = some r ∨ ∃ j o i, j < m ∧ L j = true ∧ ops[j]? = some o ∧ is[j]? = some i ∧ i.acc.isW k = true ∧ r = i.r
  | 0, h => .inl h
  | m + 1, h => by
    have up : (nth τ k = some r ∨ ∃ j o i, j < m ∧ L j = true ∧ ops[j]? = some o ∧ is[j]? = some i ∧ i.acc.isW k = true ∧ r = i.r) →
      nth τ k = some r ∨ ∃ j o i, j < m + 1 ∧ L j = true ∧ ops[j]? = some o ∧ is[j]? = some i ∧ i.acc.isW k = true ∧ r = i.r :=
      fun h => h.imp id fun ⟨j, o, i, hj, r⟩ => ⟨j, o, i, by omega, r⟩
    simp only [resL] at h
    split at h
    · rename_i o i ho hi
      split at h
      · rename_i hL
        rw [nth_setW] at h
        split at h
        · rename_i hd; cases h; exact .inr ⟨m, o, i, by omega, hL, ho, hi, hd.1, rfl⟩
        · exact up (nth_resL_mem L k r m h)
      · exact up (nth_resL_mem L k r m h)
    · exact up (nth_resL_mem L k r m h)

def with1 (L : Nat → Bool) (i : Nat) : Nat → Bool := fun j => Nat.beq j i || L j

theorem getV_with1 (L : Nat → Bool) {i : Nat} {o : Oper} {ii : Info} (ho : ops[i]? = some o) (hi : is[i]? = some ii) (t : Nat)
    (hlast : ∀ j oj, i < j → ops[j]? = some oj → o.dst = some t → oj.dst = some t → L j = false) :
    ∀ m, i < m → getV (envL ops is (with1 L i) m) ρ t = if o.dst = some t then some ii.e else getV (envL ops is L m) ρ t
  | 0, h => by omega
  | m + 1, h => by
    by_cases hm : i = m
    · subst hm
      simp only [envL, ho, hi]
      have hw : with1 L i i = true := by simp [with1]
      rw [if_pos hw, getV_push]
      by_cases hd : o.dst = some t
      · rw [if_pos hd, if_pos hd]
      · rw [if_neg hd, if_neg hd]
        have e1 : getV (envL ops is (with1 L i) i) ρ t = getV (envL ops is L i) ρ t :=
          getV_congr is t _ _ i (fun j hj oj hoj hdj => by simp [with1, beq_ne (show j ≠ i by omega)])
        rw [e1]
        split
        · rw [getV_push, if_neg hd]
        · rfl
    · have ih := getV_with1 L ho hi t hlast m (by omega)
      have hwm : with1 L i m = L m := by simp [with1, beq_ne (show m ≠ i by omega)]
      simp only [envL]
      split
      · rename_i o' i' ho' hi'
        rw [hwm]
        by_cases hLm : L m = true
        · rw [if_pos hLm, if_pos hLm, getV_push, getV_push, ih]
          by_cases hd' : o'.dst = some t
          · by_cases hd : o.dst = some t
            · have := hlast m o' (by omega) ho' hd hd'
              rw [hLm] at this; cases this
            · rw [if_pos hd', if_neg hd, if_pos hd']
          · rw [if_neg hd', if_neg hd']
        · rw [if_neg hLm, if_neg hLm]; exact ih
      · exact ih
theorem nth_with1 (L : Nat → Bool) {i : Nat} {o : Oper} {ii : Info} (ho : ops[i]? = some o) (hi : is[i]? = some ii) (k : Nat)
    (hlast : ∀ j ij, i < j → is[j]? = some ij → ii.acc.isW k = true → ij.acc.isW k = true → L j = false) :
    ∀ m, i < m → nth (resL ops is τ (with1 L i) m) k = if ii.acc.isW k = true ∧ k < τ.length then some ii.r else nth (resL ops is τ L m) k
  | 0, h => by omega
  | m + 1, h => by
    by_cases hm : i = m
    · subst hm
      simp only [resL, ho, hi]
      have hw : with1 L i i = true := by simp [with1]
      rw [if_pos hw, nth_setW, length_resL]
      have e1 : nth (resL ops is τ (with1 L i) i) k = nth (resL ops is τ L i) k :=
        nth_congr is τ k _ _ i (fun j hj ij hij hdj => by simp [with1, beq_ne (show j ≠ i by omega)])
      by_cases hd : ii.acc.isW k = true ∧ k < τ.length
      · rw [if_pos hd, if_pos hd]
      · rw [if_neg hd, if_neg hd, e1]
        split
        · rw [nth_setW, length_resL, if_neg hd]
        · rfl
    · have ih := nth_with1 L ho hi k hlast m (by omega)
      have hwm : with1 L i m = L m := by simp [with1, beq_ne (show m ≠ i by omega)]
      simp only [resL]
      split
      · rename_i o' i' ho' hi'
        rw [hwm]
        by_cases hLm : L m = true
        · rw [if_pos hLm, if_pos hLm, nth_setW, nth_setW, ih, length_resL, length_resL]
          by_cases hd' : i'.acc.isW k = true ∧ k < τ.length
          · by_cases hd : ii.acc.isW k = true ∧ k < τ.length
            · have := hlast m i' (by omega) hi' hd.1 hd'.1
              rw [hLm] at this; cases this
            · rw [if_pos hd', if_neg hd, if_pos hd']
          · rw [if_neg hd', if_neg hd']
        · rw [if_neg hLm, if_neg hLm]; exact ih
      · exact ih

end region2

def accsOK (m : Nat) : List Info → Bool
  | [] => true
  | i :: l => (match i.acc.k with | some k => Nat.blt k m | none => true) && accsOK m l
theorem blt_lt {a b : Nat} (h : Nat.blt a b = true) : a < b := Nat.le_of_ble_eq_true h
theorem accsOK_spec {m : Nat} : ∀ {l : List Info}, accsOK m l = true → ∀ i k, i ∈ l → i.acc.k = some k → k < m
  | [], _, i, k, h, _ => by simp at h
  | z :: l, h, i, k, hi, hk => by
    simp only [accsOK, Bool.and_eq_true] at h
    rcases List.mem_cons.1 hi with rfl | hi
    · have := h.1
      rw [hk] at this
      exact blt_lt this
    · exact accsOK_spec h.2 i k hi hk
theorem Acc.isW_k {acc : Acc} {k : Nat} (h : acc.isW k = true) : acc.k = some k ∧ acc.w = true := by
  cases acc with
  | no => simp [Acc.isW] at h
  | rd j => simp [Acc.isW] at h
  | wr j =>
    have : j = k := Nat.eq_of_beq_eq_true h
    subst this
    exact ⟨rfl, rfl⟩
theorem Acc.w_isW {acc : Acc} (h : acc.w = true) : ∃ k, acc = .wr k := by
  cases acc with
  | no => simp [Acc.w] at h
  | rd j => simp [Acc.w] at h
  | wr j => exact ⟨j, rfl⟩

section region3
variable {P : Program} {n : Nat} {ops : Array Oper} {Γ : Facts} {ρ : Env} {is : List Info} {τ : List VR} {c0 : EW} {E : Nat → Prop} {df : List Deferred} {Q : Exit → Act → World → Prop}

theorem clash_slot {x y : Oper × Info} {d : Nat} (hd : x.1.dst = some d) (h : d ∈ y.1.looksAt ops) : clash ops x y = true := by
  simp [clash, hd, h]
theorem clash_dst {x y : Oper × Info} {d : Nat} (hd : x.1.dst = some d) (h : y.1.dst = some d) : clash ops x y = true := by
  simp [clash, hd, h]
theorem clash_res {x y : Oper × Info} {k : Nat} (hx : x.2.acc.isW k = true) (hy : y.2.acc.k = some k) : clash ops x y = true := by
  have hx' := Acc.isW_k hx
  cases hxa : x.2.acc with
  | no => rw [hxa] at hx; simp [Acc.isW] at hx
  | rd j => rw [hxa] at hx; simp [Acc.isW] at hx
  | wr j =>
    rw [hxa] at hx'
    have hj : j = k := by simpa [Acc.k] using hx'.1
    subst hj
    cases hya : y.2.acc with
    | no => rw [hya] at hy; simp [Acc.k] at hy
    | rd j' =>
      rw [hya] at hy
      have : j' = j := by simpa [Acc.k] using hy
      subst this
      simp [clash, hxa, hya]
    | wr j' =>
      rw [hya] at hy
      have : j' = j := by simpa [Acc.k] using hy
      subst this
      simp [clash, hxa, hya]

theorem inv_step (hslots : slotsOK n ops.toList = true) (haccs : accsOK τ.length is = true) (hτ : ∀ k r, nth τ k = some r → r.D = [])
    (bf : Nat → Nat → Bool) (hbf : ∀ x y, bf x y = true → x < y) (hchk : chkAll ops bf (ops.toList.zip is) 0 (ops.toList.zip is) = true) (hlen : is.length = ops.size)
    {i : Nat} {o : Oper} {ii : Info} (hoi : ops[i]? = some o) (hii : is[i]? = some ii)
    (hop : OpOK P n ops Γ ρ (envL ops is (fun _ => true) i) (resL ops is τ (fun _ => true) i) o ii.acc ii.e ii.r)
    {L : Nat → Bool} {a : Act} {c : EW} {obs : Nat → Option Nat} (hI : Inv n ops Γ ρ is τ c0 E df L a c obs) (hLi : L i = false)
    (hb : ∀ j, bf j i = true → L j = true) (hf : ∀ j, bf i j = true → L j = false)
    {K : Act → World → Prop} (hK : ∀ a' c' obs', Inv n ops Γ ρ is τ c0 E df (with1 L i) a' c' obs' → K a' c'.w) : wpOp P ops Q i K a c.w := by
  have hiN : i < ops.size := (Array.getElem?_eq_some_iff.1 hoi).1
  have hinfo : ∀ j, j < ops.size → ∃ ij, is[j]? = some ij := fun j hj => ⟨is[j]'(by omega), List.getElem?_eq_getElem (by omega)⟩
  have hoper : ∀ j ij, is[j]? = some ij → ∃ oj, ops[j]? = some oj := fun j ij hj => by
    have : j < is.length := (List.getElem?_eq_some_iff.1 hj).1
    exact ⟨ops[j]'(by omega), Array.getElem?_eq_getElem (by omega)⟩
  -- the order of two that clash
  have ord : ∀ j oj ij, ops[j]? = some oj → is[j]? = some ij → (clash ops (oj, ij) (o, ii) = true ∨ clash ops (o, ii) (oj, ij) = true) → j ≠ i → L j = decide (j < i) := fun j oj ij ho1 hi1 hc hne => by
    have h1 : bf j i = true ∨ bf i j = true := by
      rcases hc with hc | hc
      · exact clashed bf hchk ho1 hi1 hoi hii hne hc
      · exact (clashed bf hchk hoi hii ho1 hi1 (Ne.symm hne) hc).symm
    rcases h1 with h1 | h1
    · rw [hb j h1, decide_eq_true (hbf _ _ h1)]
    · have := hbf _ _ h1
      rw [hf j h1, decide_eq_false (by omega)]
  have hdst : ∀ t, o.dst = some t → t < a.tmps.size := fun t ht => by
    rw [hI.size]
    exact slotsOK_spec hslots o t (by rw [Array.mem_toList_iff]; exact Array.mem_of_getElem? hoi) ht
  -- the slots that are looked at
  have hreads : ∀ t, t ∈ o.looksAt ops → ∀ q, getV (envL ops is (fun _ => true) i) ρ t = some q → (q.at (vl a)).H (vl a t) c := fun t ht q hq => by
    refine hI.slots t q ?_
    rw [← hq]
    rw [getV_congr is t L (fun j => decide (j < i)) ops.size (fun j hj oj hoj hdj => by
      by_cases hji : j = i
      · subst hji; rw [hLi]; simp
      · obtain ⟨ij, hij⟩ := hinfo j hj
        exact ord j oj ij hoj hij (.inl (clash_slot hdj ht)) hji)]
    rw [envL_trunc is _ i ops.size (by omega) (fun j hj => by simp; omega)]
    exact getV_congr is t _ _ i (fun j hj _ _ _ => by simp [hj])
  have hnth : ∀ k, ii.acc.k = some k → nth (resL ops is τ L ops.size) k = nth (resL ops is τ (fun _ => true) i) k := fun k hk => by
    rw [nth_congr is τ k L (fun j => decide (j < i)) ops.size (fun j hj ij hij hw => by
      by_cases hji : j = i
      · subst hji; rw [hLi]; simp
      · obtain ⟨oj, hoj⟩ := hoper j ij hij
        exact ord j oj ij hoj hij (.inl (clash_res hw hk)) hji)]
    rw [resL_trunc is τ _ i ops.size (by omega) (fun j hj => by simp; omega)]
    exact nth_congr is τ k _ _ i (fun j hj _ _ _ => by simp [hj])
  have hkl : ∀ k, ii.acc.k = some k → k < τ.length := fun k hk => accsOK_spec haccs ii k (List.mem_of_getElem? hii) hk
  -- the resource that is touched
  obtain ⟨ob, hob⟩ : ∃ ob : Option Nat, (∀ k, ii.acc.k = some k → ob = obs k) ∧ (ii.acc.k = none → ob = none) := by
    cases hk : ii.acc.k with
    | none => exact ⟨none, fun k h => (by cases h), fun _ => rfl⟩
    | some k => exact ⟨obs k, fun k' h => (by cases h; rfl), fun h => (by cases h)⟩
  have hres : ∀ k, ii.acc.k = some k → ∃ r, nth (resL ops is τ (fun _ => true) i) k = some r ∧ (r.at (vl a)).H c ob := fun k hk => by
    rw [hob.1 k hk, ← hnth k hk]
    have hl : k < (resL ops is τ L ops.size).length := by rw [length_resL]; exact hkl k hk
    refine ⟨(resL ops is τ L ops.size)[k], by rw [nth_eq]; exact List.getElem?_eq_getElem hl, hI.res k _ (by rw [nth_eq]; exact List.getElem?_eq_getElem hl)⟩
  have hown : ∀ b, ob = some b → c.M b ∧ b < c.w.heap.size := fun b hb' => by
    cases hk : ii.acc.k with
    | none => rw [hob.2 hk] at hb'; cases hb'
    | some k => rw [hob.1 k hk] at hb'; exact ⟨(hI.own.has k b hb').1, hI.own.lt hb'⟩
  -- what the others' predicates name is not written
  have keepE : ∀ t q v, getV (envL ops is L ops.size) ρ t = some q → q.at (upd (vl a) o.dst v) = q.at (vl a) := fun t q v hq => by
    rcases getV_envL_mem L t q ops.size hq with ⟨p, _, rfl⟩ | ⟨j, oj, ij, hj, hLj, hoj, hij, _, rfl⟩
    · rfl
    · refine ij.e.congr _ _ fun d hd => upd_ne _ _ _ _ fun hod => ?_
      have hne : i ≠ j := fun e => by subst e; rw [hLi] at hLj; cases hLj
      have := hf j (named bf hchk hoi hii hoj hij hne hod (.inl hd))
      rw [hLj] at this; cases this
  have keepR : ∀ k r v, nth (resL ops is τ L ops.size) k = some r → r.at (upd (vl a) o.dst v) = r.at (vl a) := fun k r v hr => by
    rcases nth_resL_mem L k r ops.size hr with h0 | ⟨j, oj, ij, hj, hLj, hoj, hij, _, rfl⟩
    · exact r.congr _ _ fun d hd => by rw [hτ k r h0] at hd; simp at hd
    · refine ij.r.congr _ _ fun d hd => upd_ne _ _ _ _ fun hod => ?_
      have hne : i ≠ j := fun e => by subst e; rw [hLi] at hLj; cases hLj
      have := hf j (named bf hchk hoi hii hoj hij hne hod (.inr hd))
      rw [hLj] at this; cases this
  have hlastE : ∀ t j oj, i < j → ops[j]? = some oj → o.dst = some t → oj.dst = some t → L j = false := fun t j oj hij' hoj hd hdj => by
    obtain ⟨ij, hij⟩ := hinfo j (Array.getElem?_eq_some_iff.1 hoj).1
    rw [ord j oj ij hoj hij (.inl (clash_dst hdj hd)) (by omega), decide_eq_false (by omega)]
  have hlastR : ∀ k j ij, i < j → is[j]? = some ij → ii.acc.isW k = true → ij.acc.isW k = true → L j = false := fun k j ij hij' hij hw hwj => by
    obtain ⟨oj, hoj⟩ := hoper j ij hij
    rw [ord j oj ij hoj hij (.inl (clash_res hwj (Acc.isW_k hw).1)) (by omega), decide_eq_false (by omega)]
  have hmain := hop a c ob hI.size hI.own.wf hI.facts hreads hres hob.2 hown
  unfold wpOp
  simp only [hoi]
  by_cases hw : Region.wanted o (yielded ops a.tmps) = true
  · rw [if_pos hw] at hmain
    simp only [hw, if_true]
    refine .inl (hmain.wp fun v w' hv => ?_)
    obtain ⟨c', ob', hcw, htr, he, hr'⟩ := hv
    subst hcw
    have hle : Le c c' := htr.le fun b hb' => (hown b hb').1
    have hvl : vl (a.put o.dst v) = upd (vl a) o.dst v := vl_put a o.dst v hdst
    have slotsNew : ∀ t q, getV (envL ops is (with1 L i) ops.size) ρ t = some q → (q.at (vl (a.put o.dst v))).H (vl (a.put o.dst v) t) c' := fun t q hq => by
      rw [getV_with1 L hoi hii t (fun j oj hj hoj hd hdj => hlastE t j oj hj hoj hd hdj) ops.size hiN] at hq
      rw [hvl]
      split at hq
      · rename_i hd
        cases hq
        rw [hd] at he ⊢
        rw [upd_eq]; exact he
      · rename_i hd
        rw [keepE t q v hq, upd_ne _ _ _ _ hd]
        exact (q.at (vl a)).st _ c c' hle (hI.slots t q hq)
    by_cases haw : ii.acc.w = true
    · obtain ⟨k, hk⟩ := Acc.w_isW haw
      have hkk : ii.acc.k = some k := by rw [hk]; rfl
      refine hK (a.put o.dst v) c' (setO obs k ob') ⟨by rw [size_put, hI.size], by rw [defers_put, hI.defers], hI.facts.le hle, hI.own.wr (hob.1 k hkk).symm htr, slotsNew, ?_⟩
      intro k' r hr
      rw [nth_with1 L hoi hii k' (fun j ij hj hij h1 h2 => hlastR k' j ij hj hij h1 h2) ops.size hiN] at hr
      rw [hvl]
      split at hr
      · rename_i hd
        cases hr
        have : k' = k := by
          have := (Acc.isW_k hd.1).1
          rw [hkk] at this
          cases this; rfl
        subst this
        simp only [setO, if_true]
        exact hr' haw
      · rename_i hd
        have hkl' : k' < τ.length := by
          have : k' < (resL ops is τ L ops.size).length := by
            rw [nth_eq] at hr
            exact (List.getElem?_eq_some_iff.1 hr).1
          rwa [length_resL] at this
        have hne : k' ≠ k := fun e => hd ⟨by rw [hk, e]; simp [Acc.isW], hkl'⟩
        simp only [setO, if_neg hne]
        rw [keepR k' r v hr]
        refine (r.at (vl a)).fr c c' (obs k') hle (fun b hb' => htr.heap b (hI.own.lt hb') fun _ e => hne ?_) (hI.res k' r hr)
        rw [hob.1 k hkk] at e
        exact hI.own.one k' k b hb' e
    · have haw' : ii.acc.w = false := by simpa using haw
      rw [haw'] at htr
      refine hK (a.put o.dst v) c' obs ⟨by rw [size_put, hI.size], by rw [defers_put, hI.defers], hI.facts.le hle, hI.own.no htr, slotsNew, ?_⟩
      intro k' r hr
      rw [nth_with1 L hoi hii k' (fun j ij hj hij h1 h2 => hlastR k' j ij hj hij h1 h2) ops.size hiN] at hr
      rw [hvl]
      split at hr
      · rename_i hd
        have := (Acc.isW_k hd.1).2
        rw [haw'] at this; cases this
      · rw [keepR k' r v hr]
        exact (r.at (vl a)).fr c c' (obs k') hle (fun b hb' => htr.heap b (hI.own.lt hb') (by simp)) (hI.res k' r hr)
  · rw [if_neg hw] at hmain
    simp only [hw, if_false, Bool.false_eq_true]
    have hvl : vl (a.put o.dst undef) = upd (vl a) o.dst undef := vl_put a o.dst undef hdst
    refine hK (a.put o.dst undef) c obs ⟨by rw [size_put, hI.size], by rw [defers_put, hI.defers], hI.facts, hI.own, ?_, ?_⟩
    · intro t q hq
      rw [getV_with1 L hoi hii t (fun j oj hj hoj hd hdj => hlastE t j oj hj hoj hd hdj) ops.size hiN] at hq
      rw [hvl]
      split at hq
      · rename_i hd
        cases hq
        have he := hmain.2
        rw [hd] at he ⊢
        rw [upd_eq]; exact he
      · rename_i hd
        rw [keepE t q undef hq, upd_ne _ _ _ _ hd]
        exact hI.slots t q hq
    · intro k' r hr
      rw [nth_with1 L hoi hii k' (fun j ij hj hij h1 h2 => hlastR k' j ij hj hij h1 h2) ops.size hiN] at hr
      rw [hvl]
      split at hr
      · rename_i hd
        have := (Acc.isW_k hd.1).2
        rw [hmain.1] at this; cases this
      · rw [keepR k' r undef hr]
        exact hI.res k' r hr

/-- The region's end. -/
def Fin (n : Nat) (Γ : Facts) (ρ : Env) (c0 : EW) (E : Nat → Prop) (df : List Deferred) (δ : VEnv) (τ' : List VR) (a : Act) (c : EW) : Prop :=
  a.tmps.size = n ∧ a.defers = df ∧ FH Γ c ∧ (∀ t q, getV δ ρ t = some q → (q.at (vl a)).H (vl a t) c) ∧ ∃ obs, Own c0 E c obs ∧ ∀ k r, nth τ' k = some r → (r.at (vl a)).H c (obs k)

theorem Inv.fin {δ : VEnv} {τ' : List VR} (hδ : δ = envL ops is (fun _ => true) ops.size) (hτ' : τ' = resL ops is τ (fun _ => true) ops.size) {L : Nat → Bool} (hL : ∀ j, j < ops.size → L j = true)
    {a : Act} {c : EW} {obs : Nat → Option Nat} (h : Inv n ops Γ ρ is τ c0 E df L a c obs) : Fin n Γ ρ c0 E df δ τ' a c := by
  refine ⟨h.size, h.defers, h.facts, fun t q hq => h.slots t q ?_, obs, h.own, fun k r hr => h.res k r ?_⟩
  · rw [← hq, hδ]
    exact getV_congr is t _ _ _ fun j hj _ _ _ => hL j hj
  · rw [← hr, hτ']
    exact nth_congr is τ k _ _ _ fun j hj _ _ _ => hL j hj

theorem Inv.start {a : Act} {c : EW} {obs : Nat → Option Nat} (hs : a.tmps.size = n) (hd : a.defers = df) (hf : FH Γ c) (he : EH ρ (vl a) c) (ho : Own c0 E c obs) (hτ : ∀ k r, nth τ k = some r → (r.at (vl a)).H c (obs k)) :
    Inv n ops Γ ρ is τ c0 E df (fun _ => false) a c obs := by
  refine ⟨hs, hd, hf, ho, fun t q hq => ?_, fun k r hr => ?_⟩
  · rcases getV_envL_mem _ t q ops.size hq with ⟨p, hp, rfl⟩ | ⟨j, oj, ij, hj, hLj, _⟩
    · exact he t p hp
    · cases hLj
  · rcases nth_resL_mem _ k r ops.size hr with h0 | ⟨j, oj, ij, hj, hLj, _⟩
    · exact hτ k r h0
    · cases hLj

/-! ### The order of the text -/
theorem seq_wp (hslots : slotsOK n ops.toList = true) (haccs : accsOK τ.length is = true) (hτ : ∀ k r, nth τ k = some r → r.D = [])
    (hchk : chkAll ops (fun i j => Nat.blt i j) (ops.toList.zip is) 0 (ops.toList.zip is) = true) (hlen : is.length = ops.size)
    (hops : ∀ i o ii, ops[i]? = some o → is[i]? = some ii → OpOK P n ops Γ ρ (envL ops is (fun _ => true) i) (resL ops is τ (fun _ => true) i) o ii.acc ii.e ii.r)
    (hQ : ∀ a c obs, Inv n ops Γ ρ is τ c0 E df (fun j => decide (j < ops.size)) a c obs → Q .normal a c.w) :
    ∀ (m i : Nat), i + m = ops.size → ∀ a c obs, Inv n ops Γ ρ is τ c0 E df (fun j => decide (j < i)) a c obs → wpOps P ops Q (List.range' i m) a c.w
  | 0, i, him, a, c, obs, h => by
    have : i = ops.size := by omega
    subst this
    exact hQ a c obs h
  | m + 1, i, him, a, c, obs, h => by
    rw [List.range'_succ, wpOps_cons]
    have hi : i < ops.size := by omega
    have hoi : ops[i]? = some ops[i] := Array.getElem?_eq_getElem hi
    have hii : is[i]? = some (is[i]'(by omega)) := List.getElem?_eq_getElem (by omega)
    refine inv_step hslots haccs hτ (fun i j => Nat.blt i j) (fun x y h => blt_lt h) hchk hlen hoi hii (hops i _ _ hoi hii) h (by simp) (fun j hj => by simpa using blt_lt hj) (fun j hj => by have := blt_lt hj; simp; omega) ?_
    intro a' c' obs' h'
    refine seq_wp hslots haccs hτ hchk hlen hops hQ m (i + 1) (by omega) a' c' obs' ?_
    have e : with1 (fun j => decide (j < i)) i = fun j => decide (j < i + 1) := by
      funext j
      simp only [with1]
      by_cases hj : j = i
      · subst hj; simp
      · rw [beq_ne hj, Bool.false_or]
        have : j < i ↔ j < i + 1 := by omega
        simp [this]
    rw [e] at h'
    exact h'

/-! ### Any order -/
def ancOf (anc : List (List Nat)) (j : Nat) : List Nat := (nth anc j).getD []
def ancB (anc : List (List Nat)) (i j : Nat) : Bool := (ancOf anc j).contains i
def ancRow (anc : List (List Nat)) (o : Oper) (j : Nat) : Bool :=
  o.after.toList.all (fun e => !Region.binds .any e || Nat.blt e.on j) &&
  (ancOf anc j).all fun i => Nat.blt i j && o.after.toList.any fun e => Region.binds .any e && (Nat.beq e.on i || ancB anc i e.on)
def ancOK (anc : List (List Nat)) : Nat → List Oper → Bool
  | _, [] => true
  | j, o :: l => ancRow anc o j && ancOK anc (j + 1) l
theorem ancOK_spec {anc : List (List Nat)} : ∀ {j : Nat} {l : List Oper}, ancOK anc j l = true → ∀ m o, l[m]? = some o → ancRow anc o (j + m) = true
  | _, [], _, m, o, hm => by simp at hm
  | j, z :: l, h, m, o, hm => by
    simp only [ancOK, Bool.and_eq_true] at h
    cases m with
    | zero =>
      simp only [List.getElem?_cons_zero, Option.some.injEq] at hm
      subst hm
      exact h.1
    | succ m =>
      have := ancOK_spec h.2 m o (by simpa using hm)
      have e : j + 1 + m = j + (m + 1) := by omega
      rw [e] at this
      exact this

/-- How many are not done. -/
def left (N : Nat) (L : Nat → Bool) : Nat := ((List.range N).filter fun j => !L j).length
theorem left_lt {N i : Nat} {L L' : Nat → Bool} (hi : i < N) (h : L i = false) (h' : L' i = true) (hs : ∀ j, L j = true → L' j = true) : left N L' < left N L := by
  have key : ∀ l : List Nat, (l.filter fun j => !L' j).length ≤ (l.filter fun j => !L j).length ∧ (i ∈ l → (l.filter fun j => !L' j).length < (l.filter fun j => !L j).length) := by
    intro l
    induction l with
    | nil => exact ⟨Nat.le_refl _, fun h => by simp at h⟩
    | cons x l ih =>
      simp only [List.filter_cons]
      by_cases hx : L x = true
      · have hx' := hs x hx
        simp only [hx, hx', Bool.not_true, Bool.false_eq_true, if_false]
        refine ⟨ih.1, fun hm => ih.2 ?_⟩
        rcases List.mem_cons.1 hm with rfl | hm
        · rw [h] at hx; cases hx
        · exact hm
      · have hx0 : L x = false := by simpa using hx
        by_cases hx' : L' x = true
        · simp only [hx0, hx', Bool.not_true, Bool.not_false, Bool.false_eq_true, if_false, if_true, List.length_cons]
          exact ⟨Nat.le_succ_of_le ih.1, fun _ => Nat.lt_succ_of_le ih.1⟩
        · have hx1 : L' x = false := by simpa using hx'
          simp only [hx0, hx1, Bool.not_false, if_true, List.length_cons]
          refine ⟨Nat.succ_le_succ ih.1, fun hm => Nat.succ_lt_succ (ih.2 ?_)⟩
          rcases List.mem_cons.1 hm with rfl | hm
          · rw [h'] at hx1; cases hx1
          · exact hm
  exact (key (List.range N)).2 (by simpa using hi)

theorem any_wp (hslots : slotsOK n ops.toList = true) (haccs : accsOK τ.length is = true) (hτ : ∀ k r, nth τ k = some r → r.D = [])
    (anc : List (List Nat)) (hanc : ancOK anc 0 ops.toList = true) (hchk : chkAll ops (ancB anc) (ops.toList.zip is) 0 (ops.toList.zip is) = true) (hlen : is.length = ops.size) (hal : anc.length = ops.size)
    (hops : ∀ i o ii, ops[i]? = some o → is[i]? = some ii → OpOK P n ops Γ ρ (envL ops is (fun _ => true) i) (resL ops is τ (fun _ => true) i) o ii.acc ii.e ii.r)
    (hQ : ∀ L a c obs, (∀ j, j < ops.size → L j = true) → Inv n ops Γ ρ is τ c0 E df L a c obs → Q .normal a c.w) :
    ∀ (fuel : Nat) (listed : Array Bool) (a : Act) (c : EW) (obs : Nat → Option Nat), listed.size = ops.size → left ops.size (fun j => listed.getD j false) ≤ fuel →
      (∀ j, listed.getD j false = true → ∀ i, ancB anc i j = true → listed.getD i false = true) →
      Inv n ops Γ ρ is τ c0 E df (fun j => listed.getD j false) a c obs → wpAny P .any ops Q fuel listed a c.w := by
  have hrow : ∀ j o, ops[j]? = some o → ancRow anc o j = true := fun j o ho => by
    have := ancOK_spec hanc j o (by simpa using ho)
    rwa [Nat.zero_add] at this
  have hbf : ∀ x y, ancB anc x y = true → x < y := fun x y h => by
    by_cases hy : y < ops.size
    · have := hrow y _ (Array.getElem?_eq_getElem hy)
      simp only [ancRow, Bool.and_eq_true, List.all_eq_true] at this
      have h2 := this.2 x (by simpa [ancB] using h)
      exact blt_lt h2.1
    · have : nth anc y = none := by rw [nth_eq]; exact List.getElem?_eq_none (by omega)
      simp [ancB, ancOf, this] at h
  have full : ∀ listed : Array Bool, listed.size = ops.size → Region.ready .any ops listed = [] → ∀ j, j < ops.size → listed.getD j false = true := by
    intro listed hsz hr j
    induction j using Nat.strongRecOn with
    | _ j ih =>
      intro hj
      cases hl : listed.getD j false
      · have : j ∈ Region.ready .any ops listed := by
          rw [mem_ready]
          refine ⟨?_, _, Array.getElem?_eq_getElem hj, fun e he hb => ?_⟩
          · have hjl : j < listed.size := by omega
            simpa [hjl] using hl
          · have h1 := hrow j _ (Array.getElem?_eq_getElem hj)
            simp only [ancRow, Bool.and_eq_true, List.all_eq_true, Bool.or_eq_true, Bool.not_eq_true'] at h1
            have h2 := (h1.1 e (Array.mem_toList_iff.2 he)).resolve_left (by rw [hb]; simp)
            have h3 := blt_lt h2
            exact ih e.on h3 (by omega)
        rw [hr] at this; cases this
      · rfl
  intro fuel
  induction fuel with
  | zero =>
    intro listed a c obs hsz hleft hcl hI
    have hall : ∀ j, j < ops.size → listed.getD j false = true := fun j hj => by
      cases hl : listed.getD j false
      · have hm : j ∈ (List.range ops.size).filter fun j => !listed.getD j false := by
          rw [List.mem_filter]
          exact ⟨by simpa using hj, by rw [hl]; rfl⟩
        have h0 : ((List.range ops.size).filter fun j => !listed.getD j false).length = 0 := Nat.le_zero.1 hleft
        rw [List.length_eq_zero_iff] at h0
        rw [h0] at hm; cases hm
      · rfl
    refine ⟨?_, hQ _ a c obs hall hI⟩
    cases hr : Region.ready .any ops listed with
    | nil => rfl
    | cons x l =>
      have hx : x ∈ Region.ready .any ops listed := by rw [hr]; simp
      rw [mem_ready] at hx
      obtain ⟨h0, o, ho, _⟩ := hx
      have hxs : x < ops.size := (Array.getElem?_eq_some_iff.1 ho).1
      have := hall x hxs
      have hxl : x < listed.size := by omega
      simp [hxl] at h0 this
      rw [this] at h0; cases h0
  | succ fuel ih =>
    intro listed a c obs hsz hleft hcl hI
    refine ⟨fun hr => hQ _ a c obs (full listed hsz hr) hI, fun i hi => ?_⟩
    rw [mem_ready] at hi
    obtain ⟨h0, o, ho, hall⟩ := hi
    have hiN : i < ops.size := (Array.getElem?_eq_some_iff.1 ho).1
    have hil : i < listed.size := by omega
    have hLi : listed.getD i false = false := by simpa [hil] using h0
    have hii : is[i]? = some (is[i]'(by omega)) := List.getElem?_eq_getElem (by omega)
    have hset : (fun j => (listed.setIfInBounds i true).getD j false) = with1 (fun j => listed.getD j false) i := by
      funext j
      by_cases hj : j = i
      · subst hj; simp [with1, hil]
      · rw [getD_set_ne false (Ne.symm hj)]
        simp [with1, beq_ne hj]
    have hdeps : ∀ j, ancB anc j i = true → listed.getD j false = true := fun j hj => by
      have h1 := hrow i o ho
      simp only [ancRow, Bool.and_eq_true, List.all_eq_true] at h1
      have h2 := h1.2 j (by simpa [ancB] using hj)
      rw [List.any_eq_true] at h2
      obtain ⟨_, e, hm, h3⟩ := h2
      simp only [Bool.and_eq_true, Bool.or_eq_true] at h3
      have h4 := hall e (Array.mem_toList_iff.1 hm) h3.1
      rcases h3.2 with h5 | h5
      · rw [Nat.eq_of_beq_eq_true h5] at h4; exact h4
      · exact hcl _ h4 j h5
    refine inv_step hslots haccs hτ (ancB anc) hbf hchk hlen ho hii (hops i _ _ ho hii) hI hLi hdeps (fun j hj => ?_) ?_
    · cases hl : listed.getD j false
      · rfl
      · have := hcl j hl i hj
        rw [hLi] at this; cases this
    · intro a' c' obs' h'
      refine ih (listed.setIfInBounds i true) a' c' obs' (by simpa using hsz) ?_ ?_ (by rw [hset]; exact h')
      · rw [hset]
        have := left_lt (N := ops.size) (L := fun j => listed.getD j false) (L' := with1 (fun j => listed.getD j false) i) hiN hLi (by simp [with1]) (fun j hj => by simp only [with1, hj, Bool.or_true])
        omega
      · intro j hj k hk
        by_cases hji : j = i
        · subst hji
          exact getD_set_true (hdeps k hk)
        · rw [getD_set_ne false (Ne.symm hji)] at hj
          exact getD_set_true (hcl j hj k hk)

end region3

end Go.Bn
