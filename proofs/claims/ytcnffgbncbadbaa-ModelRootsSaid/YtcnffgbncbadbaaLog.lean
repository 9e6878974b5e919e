/-
  The logic of walks, second part: code (sequences, branches, loops, returns) over the states of the first part.
-/
import Derived.Test.YtcnffgbncbadbaaCore
set_option linter.unusedVariables false
set_option linter.unusedSimpArgs false
namespace Go.Bn
open Go

structure Cx where
  P : Program
  n : Nat
  c0 : EW
  E : Nat → Prop

/-- The state between two statements. -/
structure St (X : Cx) (Γ : Facts) (ρ : Env) (σ : List Res) (a : Act) (c : EW) : Prop where
  size : a.tmps.size = X.n
  defers : a.defers = []
  facts : FH Γ c
  env : EH ρ (vl a) c
  own : ∃ obs, Own X.c0 X.E c obs ∧ ∀ k r, nth σ k = some r → r.H c (obs k)

def JN (X : Cx) (Γ : Facts) (ρ : Env) (σ : List Res) (K : Act → World → Prop) : Prop := ∀ a c, St X Γ ρ σ a c → K a c.w
def J (X : Cx) (Γ : Facts) (ρ : Env) (σ : List Res) (k : Code) (Q : Exit → Act → World → Prop) : Prop := ∀ a c, St X Γ ρ σ a c → k.wp X.P Q a c.w

/-! ## Regions -/
def liftR (σ : List Res) : List VR := σ.map VR.c
theorem nth_liftR (σ : List Res) (k : Nat) : nth (liftR σ) k = (nth σ k).map VR.c := by simp [liftR, nth_eq]
def getRg (g : Vl) : Option VR → Option Res
  | some (.c r) => some r
  | some (.d _ q _) => some (q g)
  | none => none
theorem getRg_eq (g : Vl) (o : Option VR) : getRg g o = o.map (·.at g) := by cases o with | none => rfl | some r => cases r <;> rfl

def PickE (g : Vl) (Γ : Facts) (δ : VEnv) (ρ ρ' : Env) : Prop := ∀ t p, ρ'.get t = some p → ∃ q, getF g δ ρ t = some q ∧ ∀ v c, FH Γ c → q.H v c → p.H v c
theorem PickE.nil {g : Vl} {Γ : Facts} {δ : VEnv} {ρ : Env} : PickE g Γ δ ρ [] := fun t p h => by simp [Env.get] at h
theorem PickE.sub {g : Vl} {Γ : Facts} {δ : VEnv} {ρ ρ' : Env} {t : Nat} {q p : SP} (h : getF g δ ρ t = some q) (hs : ∀ v c, FH Γ c → q.H v c → p.H v c) (hr : PickE g Γ δ ρ ρ') : PickE g Γ δ ρ ((t, p) :: ρ') := by
  intro t' p' h'
  by_cases ht : t = t'
  · subst ht
    simp [Env.get] at h'
    subst h'
    exact ⟨q, h, hs⟩
  · simp [Env.get, beq_ne ht] at h'
    exact hr t' p' h'
theorem PickE.cons {g : Vl} {Γ : Facts} {δ : VEnv} {ρ ρ' : Env} (t : Nat) {p : SP} (h : getF g δ ρ t = some p) (hr : PickE g Γ δ ρ ρ') : PickE g Γ δ ρ ((t, p) :: ρ') := .sub h (fun _ _ _ h => h) hr

/-- The resources from here on: each is one of those at the region's end (by its number). -/
inductive PickR (g : Vl) (τ : List VR) : List Nat → List Res → Prop where
  | nil : PickR g τ [] []
  | sub (k : Nat) {q r : Res} {ks : List Nat} {σ : List Res} (h : getRg g (nth τ k) = some q) (hs : ∀ c ob, q.H c ob → r.H c ob) (hr : PickR g τ ks σ) : PickR g τ (k :: ks) (r :: σ)
theorem PickR.cons {g : Vl} {τ : List VR} (k : Nat) {q : Res} {ks : List Nat} {σ : List Res} (h : getRg g (nth τ k) = some q) (hr : PickR g τ ks σ) : PickR g τ (k :: ks) (q :: σ) := .sub k h (fun _ _ h => h) hr
theorem PickR.spec {g : Vl} {τ : List VR} {ks : List Nat} {σ : List Res} (h : PickR g τ ks σ) : ∀ j r, nth σ j = some r → ∃ k q, nth ks j = some k ∧ getRg g (nth τ k) = some q ∧ ∀ c ob, q.H c ob → r.H c ob := by
  induction h with
  | nil => intro j r h; simp [nth] at h
  | @sub k q r ks σ h hs hr ih =>
    intro j r' hj
    cases j with
    | zero => simp only [nth, Option.some.injEq] at hj; subst hj; exact ⟨k, q, rfl, h, hs⟩
    | succ j => exact ih j r' hj

def nodupN : List Nat → Bool
  | [] => true
  | x :: l => !l.contains x && nodupN l
theorem nodupN_spec : ∀ {l : List Nat}, nodupN l = true → ∀ i j k, nth l i = some k → nth l j = some k → i = j
  | [], _, i, j, k, h, _ => by simp [nth] at h
  | x :: l, h, i, j, k, hi, hj => by
    simp only [nodupN, Bool.and_eq_true, Bool.not_eq_true'] at h
    have hx : ∀ m, nth l m ≠ some x := fun m hm => by
      rw [nth_eq] at hm
      have := List.mem_of_getElem? hm
      have h1 := h.1
      simp at h1
      exact h1 this
    cases i with
    | zero =>
      cases j with
      | zero => rfl
      | succ j => simp only [nth, Option.some.injEq] at hi; subst hi; exact (hx j hj).elim
    | succ i =>
      cases j with
      | zero => simp only [nth, Option.some.injEq] at hj; subst hj; exact (hx i hi).elim
      | succ j => rw [nodupN_spec h.2 i j k hi hj]

def pickO (obs : Nat → Option Nat) (ks : List Nat) : Nat → Option Nat := fun j => (nth ks j).bind obs
theorem Own.pick {c0 c : EW} {E : Nat → Prop} {obs : Nat → Option Nat} (h : Own c0 E c obs) {ks : List Nat} (hk : nodupN ks = true) : Own c0 E c (pickO obs ks) where
  os := h.os
  tape := h.tape
  out := h.out
  size := h.size
  heap := h.heap
  mem := h.mem
  wf := h.wf
  has j b hb := by
    unfold pickO at hb
    cases hj : nth ks j with
    | none => rw [hj] at hb; cases hb
    | some k => rw [hj] at hb; exact h.has k b hb
  one i j b hi hj := by
    unfold pickO at hi hj
    cases ei : nth ks i with
    | none => rw [ei] at hi; cases hi
    | some k =>
      cases ej : nth ks j with
      | none => rw [ej] at hj; cases hj
      | some k' =>
        rw [ei] at hi
        rw [ej] at hj
        have : k = k' := h.one k k' b hi hj
        subst this
        exact nodupN_spec hk i j k ei ej
  wf0 := h.wf0

/-- What comes behind a region: from the picked environment and the picked resources. -/
def Next (X : Cx) (Γ : Facts) (ρ : Env) (δ : VEnv) (τ : List VR) (g : Vl) (K : Act → World → Prop) : Prop :=
  ∃ ρ' σ' ks, nodupN ks = true ∧ PickE g Γ δ ρ ρ' ∧ PickR g τ ks σ' ∧ JN X Γ ρ' σ' K

theorem Fin.next {X : Cx} {Γ : Facts} {ρ : Env} {δ : VEnv} {τ : List VR} {a : Act} {c : EW} {K : Act → World → Prop} (h : Fin X.n Γ ρ X.c0 X.E [] δ τ a c) (hn : ∀ g, Next X Γ ρ δ τ g K) : K a c.w := by
  obtain ⟨h1, h2, h3, h4, obs, h5, h6⟩ := h
  obtain ⟨ρ', σ', ks, hk, hE, hR, hJ⟩ := hn (vl a)
  refine hJ a c ⟨h1, h2, h3, fun t p hp => ?_, pickO obs ks, h5.pick hk, fun j r hr => ?_⟩
  · obtain ⟨q, hq, hs⟩ := hE t p hp
    rw [getF_eq] at hq
    cases hv : getV δ ρ t with
    | none => rw [hv] at hq; cases hq
    | some e =>
      rw [hv] at hq
      cases hq
      exact hs _ _ h3 (h4 t e hv)
  · obtain ⟨k, q, hkj, hq, hs⟩ := hR.spec j r hr
    rw [getRg_eq] at hq
    cases hv : nth τ k with
    | none => rw [hv] at hq; cases hq
    | some e =>
      rw [hv] at hq
      cases hq
      simp only [pickO, hkj, Option.bind_some]
      exact hs _ _ (h6 k e hv)

def regOK (draw : Bool) (n : Nat) (l : List Oper) (is : List Info) (m : Nat) (anc : List (List Nat)) : Bool :=
  slotsOK n l && accsOK m is && (cond draw (ancOK anc 0 l && Nat.beq anc.length l.length && chkAll l.toArray (ancB anc) (l.zip is) 0 (l.zip is)) (chkAll l.toArray (fun i j => Nat.blt i j) (l.zip is) 0 (l.zip is)))

theorem ff {p : Prop} (h : false = true) : p := by cases h
theorem J_reg {X : Cx} {Γ : Facts} {ρ : Env} {σ : List Res} {id : Nat} {l : List Oper} {draw : Bool} {Q : Exit → Act → World → Prop} (anc : List (List Nat)) {is : List Info} {δ : VEnv} {τ : List VR}
    (hs : Steps X.P X.n l.toArray Γ ρ [] (liftR σ) l is δ τ) (hm : draw = true → X.P.follows .mixedOrders = true) (hc : regOK draw X.n l is σ.length anc = true)
    (h : ∀ g, Next X Γ ρ δ τ g (Q .normal)) : J X Γ ρ σ (.region id l.toArray draw) Q := by
  intro a c hst
  obtain ⟨obs, hown, hres⟩ := hst.own
  simp only [regOK, Bool.and_eq_true] at hc
  obtain ⟨⟨hc1, hc2⟩, hc3⟩ := hc
  obtain ⟨g1, g2, g3, g4⟩ := hs.spec (k := 0) [] (fun j => by simp) rfl (liftR σ) rfl rfl
  simp only [List.nil_append, Nat.zero_add] at g2 g3 g4
  have hτ : ∀ k r, nth (liftR σ) k = some r → r.D = [] := fun k r hr => by
    rw [nth_liftR] at hr
    cases hn : nth σ k with
    | none => rw [hn] at hr; cases hr
    | some r' => rw [hn] at hr; cases hr; rfl
  have hτ0 : ∀ k r, nth (liftR σ) k = some r → ∃ r', nth σ k = some r' ∧ r = .c r' := fun k r hr => by
    rw [nth_liftR] at hr
    cases hn : nth σ k with
    | none => rw [hn] at hr; cases hr
    | some r' => rw [hn] at hr; cases hr; exact ⟨r', rfl, rfl⟩
  have hsz : l.toArray.size = l.length := by simp
  have hops : ∀ i o ii, l.toArray[i]? = some o → is[i]? = some ii → OpOK X.P X.n l.toArray Γ ρ (envL l.toArray is (fun _ => true) i) (resL l.toArray is (liftR σ) (fun _ => true) i) o ii.acc ii.e ii.r := g4
  have hacc : accsOK (liftR σ).length is = true := by simpa [liftR] using hc2
  cases draw with
  | false =>
    simp only [cond_false] at hc3
    refine wp_region ?_
    rw [List.range_eq_range']
    refine seq_wp (c0 := X.c0) (E := X.E) (df := []) (τ := liftR σ) (n := X.n) (Γ := Γ) (ρ := ρ) (is := is) (by simpa using hc1) hacc hτ (by simpa using hc3) (by simpa using g1) hops ?_ l.toArray.size 0 (by omega) a c obs ?_
    · intro a' c' obs' hI
      exact (hI.fin (δ := δ) (τ' := τ) (by rw [hsz]; exact g2) (by rw [hsz]; exact g3) (fun j hj => by simpa using hj)).next h
    · have hf : (fun j => decide (j < 0)) = fun _ : Nat => false := by funext j; simp
      rw [hf]
      refine Inv.start hst.size hst.defers hst.facts hst.env hown fun k r hr => ?_
      obtain ⟨r', hr', rfl⟩ := hτ0 k r hr
      exact hres k r' hr'
  | true =>
    simp only [cond_true, Bool.and_eq_true] at hc3
    obtain ⟨⟨hc3, hc4⟩, hc5⟩ := hc3
    refine wp_region_any (hm rfl) ?_
    have hT : Tr c none false ⟨{ c.w with drawn := c.w.drawn + 1 }, c.M⟩ none := ⟨rfl, rfl, rfl, Nat.le_refl _, fun _ _ _ => rfl, fun _ _ => Iff.rfl, .inl rfl, hown.wf⟩
    have hle : Le c ⟨{ c.w with drawn := c.w.drawn + 1 }, c.M⟩ := hT.le (fun _ h => by cases h)
    refine any_wp (c0 := X.c0) (E := X.E) (df := []) (τ := liftR σ) (n := X.n) (Γ := Γ) (ρ := ρ) (is := is) (by simpa using hc1) hacc hτ anc (by simpa using hc3) (by simpa using hc5) (by simpa using g1) (by rw [hsz]; exact Nat.eq_of_beq_eq_true hc4) hops ?_
      l.toArray.size (Array.replicate l.toArray.size false) a ⟨{ c.w with drawn := c.w.drawn + 1 }, c.M⟩ obs (by simp) ?_ ?_ ?_
    · intro L a' c' obs' hL hI
      exact (hI.fin (δ := δ) (τ' := τ) (by rw [hsz]; exact g2) (by rw [hsz]; exact g3) hL).next h
    · unfold left
      refine Nat.le_trans (List.length_filter_le _ _) (by simp)
    · intro j hj
      by_cases hjl : j < l.length <;> simp [Array.getElem?_replicate, hjl] at hj
    · have hf : (fun j => (Array.replicate l.toArray.size false).getD j false) = fun _ : Nat => false := by
        funext j
        by_cases hjl : j < l.length <;> simp [Array.getElem?_replicate, hjl]
      rw [hf]
      refine Inv.start hst.size hst.defers (hst.facts.le hle) (fun t p hp => p.st _ _ _ hle (hst.env t p hp)) (hown.no hT) fun k r hr => ?_
      obtain ⟨r', hr', rfl⟩ := hτ0 k r hr
      exact r'.fr _ _ _ hle (fun _ _ => rfl) (hres k r' hr')

/-! ## What is known of an operand -/
def Lk (Γ : Facts) (δ : VEnv) (ρ : Env) (x : Operand) (p : SP) : Prop :=
  match x with
  | .tmp t => ∃ q, getV δ ρ t = some q ∧ ∀ f v c, FH Γ c → (q.at f).H v c → p.H v c
  | .const u => ∀ c, FH Γ c → p.H u c
  | .global g => ∀ c, FH Γ c → p.H (.pointer (some ⟨g, 0, none⟩)) c
  | .func f => ∀ c, FH Γ c → p.H (.func (.func f) #[] #[]) c
theorem Lk.t {Γ : Facts} {δ : VEnv} {ρ : Env} {t : Nat} {p : SP} (h : getV δ ρ t = some (.c p)) : Lk Γ δ ρ (.tmp t) p := ⟨_, h, fun _ _ _ _ h => h⟩
theorem Lk.sub {Γ : Facts} {δ : VEnv} {ρ : Env} {x : Operand} {q p : SP} (hs : ∀ v c, FH Γ c → q.H v c → p.H v c) (h : Lk Γ δ ρ x q) : Lk Γ δ ρ x p := by
  cases x with
  | tmp t => obtain ⟨e, he, hh⟩ := h; exact ⟨e, he, fun f v c hf hv => hs v c hf (hh f v c hf hv)⟩
  | const u => exact fun c hf => hs _ c hf (h c hf)
  | global g => exact fun c hf => hs _ c hf (h c hf)
  | func f => exact fun c hf => hs _ c hf (h c hf)

/-! ## Code -/
section code
variable {X : Cx} {Γ : Facts} {ρ : Env} {σ : List Res} {Q : Exit → Act → World → Prop}

theorem J_seq {x y : Code} (h : J X Γ ρ σ x (Exit.then (fun a w => y.wp X.P Q a w) Q)) : J X Γ ρ σ (.seq x y) Q := fun a c hs => wp_seq (h a c hs)
theorem JN_then {y : Code} (h : J X Γ ρ σ y Q) : JN X Γ ρ σ (Exit.then (fun a w => y.wp X.P Q a w) Q .normal) := h
theorem J_block {id : Nat} {y : Code} (h : J X Γ ρ σ y (Exit.inBlock id Q)) : J X Γ ρ σ (.block id y) Q := fun a c hs => wp_block (h a c hs)
theorem JN_block {id : Nat} (h : JN X Γ ρ σ (Q .normal)) : JN X Γ ρ σ (Exit.inBlock id Q .normal) := h
theorem J_skip (h : JN X Γ ρ σ (Q .normal)) : J X Γ ρ σ .skip Q := fun a c hs => wp_skip (h a c hs)
theorem J_exit {id : Nat} (h : JN X Γ ρ σ (Q (.exit id))) : J X Γ ρ σ (.exit id) Q := fun a c hs => wp_exit (h a c hs)
theorem J_ret (h : JN X Γ ρ σ (Q .ret)) : J X Γ ρ σ .ret Q := fun a c hs => wp_ret (h a c hs)
theorem JN_exit_here {id : Nat} (h : JN X Γ ρ σ (Q .normal)) : JN X Γ ρ σ (Exit.inBlock id Q (.exit id)) := fun a c hs => by
  simp only [Exit.inBlock, if_true]; exact h a c hs
theorem JN_exit_on {id id' : Nat} (hne : Nat.beq id' id = false) (h : JN X Γ ρ σ (Q (.exit id'))) : JN X Γ ρ σ (Exit.inBlock id Q (.exit id')) := fun a c hs => by
  have : id' ≠ id := fun e => by subst e; simp at hne
  simp only [Exit.inBlock, if_neg this]; exact h a c hs
theorem JN_then_exit {id : Nat} {K : Act → World → Prop} (h : JN X Γ ρ σ (Q (.exit id))) : JN X Γ ρ σ (Exit.then K Q (.exit id)) := h
theorem JN_then_ret {K : Act → World → Prop} (h : JN X Γ ρ σ (Q .ret)) : JN X Γ ρ σ (Exit.then K Q .ret) := h
theorem JN_block_ret {id : Nat} (h : JN X Γ ρ σ (Q .ret)) : JN X Γ ρ σ (Exit.inBlock id Q .ret) := h

/-- What a slot holds, of the acting frame. -/
theorem Lk.holds {Γ : Facts} {ρ : Env} {x : Operand} {p : SP} (h : Lk Γ [] ρ x p) {a : Act} {c : EW} (hf : FH Γ c) (he : EH ρ (vl a) c) : p.H (a.eval x) c := by
  cases x with
  | tmp t =>
    obtain ⟨e, he', hh⟩ := h
    simp only [getV] at he'
    split at he'
    · rename_i q hq
      cases he'
      exact hh (vl a) _ c hf (he t q hq)
    · cases he'
  | const u => exact h c hf
  | global g => exact h c hf
  | func f => exact h c hf

theorem J_gen {k : Code} (h : ∀ a c, St X Γ ρ σ a c → J X Γ ρ σ k Q) : J X Γ ρ σ k Q := fun a c hs => h a c hs a c hs
theorem JN_gen {K : Act → World → Prop} (h : ∀ a c, St X Γ ρ σ a c → JN X Γ ρ σ K) : JN X Γ ρ σ K := fun a c hs => h a c hs a c hs

/-! ### Other views of one state -/
/-- From one description of the state to another, at the same world. -/
def To (X : Cx) (Γ : Facts) (ρ : Env) (σ : List Res) (Γ' : Facts) (ρ' : Env) (σ' : List Res) : Prop := ∀ a c, St X Γ ρ σ a c → ∃ c', c'.w = c.w ∧ St X Γ' ρ' σ' a c'
theorem J_to {Γ' : Facts} {ρ' : Env} {σ' : List Res} {k : Code} (ht : To X Γ ρ σ Γ' ρ' σ') (h : J X Γ' ρ' σ' k Q) : J X Γ ρ σ k Q := fun a c hs => by
  obtain ⟨c', hw, hs'⟩ := ht a c hs
  rw [← hw]
  exact h a c' hs'
theorem JN_to {Γ' : Facts} {ρ' : Env} {σ' : List Res} {K : Act → World → Prop} (ht : To X Γ ρ σ Γ' ρ' σ') (h : JN X Γ' ρ' σ' K) : JN X Γ ρ σ K := fun a c hs => by
  obtain ⟨c', hw, hs'⟩ := ht a c hs
  rw [← hw]
  exact h a c' hs'
theorem To.trans {Γ1 Γ2 : Facts} {ρ1 ρ2 : Env} {σ1 σ2 : List Res} (h : To X Γ ρ σ Γ1 ρ1 σ1) (k : To X Γ1 ρ1 σ1 Γ2 ρ2 σ2) : To X Γ ρ σ Γ2 ρ2 σ2 := fun a c hs => by
  obtain ⟨c1, h1, h2⟩ := h a c hs
  obtain ⟨c2, h3, h4⟩ := k a c1 h2
  exact ⟨c2, h3.trans h1, h4⟩

/-- Slots picked (perhaps said more weakly), resources picked. -/
theorem To.pick {ρ' : Env} {σ' : List Res} {ks : List Nat} (hE : ∀ g, PickE g Γ [] ρ ρ') (hR : ∀ g, PickR g (liftR σ) ks σ') (hk : nodupN ks = true) : To X Γ ρ σ Γ ρ' σ' := fun a c hs => by
  obtain ⟨obs, hown, hres⟩ := hs.own
  refine ⟨c, rfl, hs.size, hs.defers, hs.facts, fun t p hp => ?_, pickO obs ks, hown.pick hk, fun j r hr => ?_⟩
  · obtain ⟨q, hq, hh⟩ := hE (vl a) t p hp
    simp only [getF] at hq
    exact hh _ _ hs.facts (hs.env t q hq)
  · obtain ⟨k, q, hkj, hq, hh⟩ := (hR (vl a)).spec j r hr
    rw [getRg_eq, nth_liftR] at hq
    cases hv : nth σ k with
    | none => rw [hv] at hq; cases hq
    | some e =>
      rw [hv] at hq
      cases hq
      simp only [pickO, hkj, Option.bind_some]
      exact hh _ _ (hres k e hv)

/-- A place for a resource to come. -/
def emp : Res := ⟨fun _ ob => ob = none, fun _ _ _ _ _ h => h⟩
theorem To.emp : To X Γ ρ σ Γ ρ (σ ++ [emp]) := fun a c hs => by
  obtain ⟨obs, hown, hres⟩ := hs.own
  refine ⟨c, rfl, hs.size, hs.defers, hs.facts, hs.env, fun k => if k < σ.length then obs k else none, ?_, fun k r hr => ?_⟩
  · exact { hown with
      has := fun k b hb => by
        by_cases hk : k < σ.length
        · rw [if_pos hk] at hb; exact hown.has k b hb
        · rw [if_neg hk] at hb; cases hb
      one := fun i j b hi hj => by
        by_cases hk : i < σ.length
        · by_cases hk' : j < σ.length
          · rw [if_pos hk] at hi; rw [if_pos hk'] at hj; exact hown.one i j b hi hj
          · rw [if_neg hk'] at hj; cases hj
        · rw [if_neg hk] at hi; cases hi }
  · rw [nth_eq] at hr
    by_cases hk : k < σ.length
    · simp only [if_pos hk]
      rw [List.getElem?_append_left hk] at hr
      exact hres k r (by rw [nth_eq]; exact hr)
    · simp only [if_neg hk]
      rw [List.getElem?_append_right (by omega)] at hr
      by_cases he : k - σ.length = 0
      · rw [he] at hr
        simp only [List.getElem?_cons_zero, Option.some.injEq] at hr
        subst hr
        rfl
      · rw [List.getElem?_eq_none (by simp; omega)] at hr; cases hr

theorem To.emps : ∀ m : Nat, To X Γ ρ σ Γ ρ (σ ++ List.replicate m Go.Bn.emp)
  | 0 => by intro a c hs; refine ⟨c, rfl, ?_⟩; simpa using hs
  | m + 1 => by
    have h := (To.emps m).trans To.emp
    have e : σ ++ List.replicate (m + 1) Go.Bn.emp = σ ++ List.replicate m Go.Bn.emp ++ [Go.Bn.emp] := by rw [List.replicate_succ', List.append_assoc]
    rw [e]; exact h

/-- A resource is closed for writing: what it held lasts, of the value v. -/
def Freezes (r : Res) (v : Value) (p : SP) : Prop := ∀ c c' ob, r.H c ob → Le c c' → (∀ b, ob = some b → c'.w.heap[b]? = c.w.heap[b]? ∧ ¬ c'.M b) → p.H v c'
def setNth : List Res → Nat → Res → List Res
  | [], _, _ => []
  | _ :: l, 0, r => r :: l
  | x :: l, k + 1, r => x :: setNth l k r
theorem nth_setNth (r : Res) : ∀ (l : List Res) (k j : Nat), nth (setNth l k r) j = if j = k then (nth l j).map (fun _ => r) else nth l j
  | [], k, j => by simp [setNth, nth]
  | x :: l, 0, 0 => by simp [setNth, nth]
  | x :: l, 0, j + 1 => by simp [setNth, nth]
  | x :: l, k + 1, 0 => by simp [setNth, nth]
  | x :: l, k + 1, j + 1 => by simpa [setNth, nth] using nth_setNth r l k j
theorem To.freeze (k : Nat) {r : Res} {v : Value} {p : SP} (hE : ∀ b, ¬ X.E b) (hr : nth σ k = some r) (hf : Freezes r v p) {σ' : List Res} (hσ' : setNth σ k Go.Bn.emp = σ') : To X Γ ρ σ ((v, p) :: Γ) ρ σ' := by
  subst hσ'
  intro a c hs
  obtain ⟨obs, hown, hres⟩ := hs.own
  let c' : EW := ⟨c.w, fun b => c.M b ∧ obs k ≠ some b⟩
  have hle : Le c c' := ⟨rfl, rfl, rfl, Nat.le_refl _, fun j _ hm => ⟨rfl, fun h => hm h.1⟩⟩
  refine ⟨c', rfl, hs.size, hs.defers, ?_, fun t q hq => q.st _ _ _ hle (hs.env t q hq), fun j => if j = k then none else obs j, ?_, ?_⟩
  · intro v' p' hm
    rcases List.mem_cons.1 hm with he | hm
    · cases he
      exact hf c c' (obs k) (hres k r hr) hle fun b hb => ⟨rfl, fun h => h.2 hb⟩
    · exact p'.st _ _ _ hle (hs.facts v' p' hm)
  · refine ⟨hown.os, hown.tape, hown.out, hown.size, hown.heap, fun j hj => ?_, fun j hj => hown.wf j hj.1, fun j b hb => ?_, fun i j b hi hj => ?_, hown.wf0⟩
    · refine ⟨fun h => (hown.mem j hj).1 h.1, fun h => ⟨(hown.mem j hj).2 h, fun e => ?_⟩⟩
      rcases (hown.has k j e).2 with h' | h'
      · omega
      · exact hE j h'
    · by_cases hjk : j = k
      · simp only [if_pos hjk] at hb; cases hb
      · simp only [if_neg hjk] at hb
        exact ⟨⟨(hown.has j b hb).1, fun e => hjk (hown.one j k b hb e)⟩, (hown.has j b hb).2⟩
    · by_cases hik : i = k
      · simp only [if_pos hik] at hi; cases hi
      · by_cases hjk : j = k
        · simp only [if_pos hjk] at hj; cases hj
        · simp only [if_neg hik] at hi
          simp only [if_neg hjk] at hj
          exact hown.one i j b hi hj
  · intro j r' hj
    rw [nth_setNth] at hj
    by_cases hjk : j = k
    · rw [if_pos hjk] at hj
      simp only [if_pos hjk]
      cases hn : nth σ j with
      | none => rw [hn] at hj; cases hj
      | some x => rw [hn] at hj; cases hj; rfl
    · rw [if_neg hjk] at hj
      simp only [if_neg hjk]
      exact r'.fr _ _ _ hle (fun _ _ => rfl) (hres j r' hj)

/-- A fact that a slot's predicate gives, kept among the facts: the slot's value under a name. -/
theorem J_name {k : Code} (t : Nat) {p : SP} (hp : ρ.get t = some p) (h : ∀ v : Value, J X ((v, p) :: Γ) ((t, ⟨fun u _ => u = v, fun _ _ _ _ h => h⟩) :: ρ) σ k Q) : J X Γ ρ σ k Q := fun a c hs => by
  refine h (vl a t) a c ⟨hs.size, hs.defers, fun v q hm => ?_, fun t' q hq => ?_, hs.own⟩
  · rcases List.mem_cons.1 hm with he | hm
    · cases he; exact hs.env t p hp
    · exact hs.facts v q hm
  · simp only [Env.get] at hq
    by_cases ht : t = t'
    · subst ht
      simp at hq
      subst hq
      rfl
    · rw [beq_ne ht] at hq
      exact hs.env t' q hq

/-! ### Branches and loops -/

theorem J_cond {b : Bool} {x : Operand} {thn els : Code} (hx : ∀ a c, FH Γ c → EH ρ (vl a) c → a.eval x = .bool b) (h1 : b = true → J X Γ ρ σ thn Q) (h2 : b = false → J X Γ ρ σ els Q) : J X Γ ρ σ (.cond x thn els) Q := fun a c hs =>
  wp_cond_split (hx a c hs.facts hs.env) (fun h => h1 h a c hs) (fun h => h2 h a c hs)
theorem J_cond' {x : Operand} {thn els : Code} (hx : ∀ a c, St X Γ ρ σ a c → ∃ b, a.eval x = .bool b ∧ ((b = true → thn.wp X.P Q a c.w) ∧ (b = false → els.wp X.P Q a c.w))) : J X Γ ρ σ (.cond x thn els) Q := fun a c hs => by
  obtain ⟨b, he, h1, h2⟩ := hx a c hs
  exact wp_cond_split he h1 h2

theorem wp_loopN {P : Program} {k : Code} (I : Nat → Act → World → Prop) (round : ∀ n a w, I n a w → k.wp P (Exit.then (fun a' w' => ∃ m, m < n ∧ I m a' w') Q) a w) :
    ∀ n a w, I n a w → (Code.loop k).wp P Q a w := by
  intro n a w h₀ b kk cs
  have key : ∀ n a w, I n a w → ∃ e a' w', Q e a' w' ∧ Arrives P (lone (b.at a (.code k :: .inLoop k :: kk)) cs w) b kk cs e a' w' := by
    intro n
    induction n using Nat.strongRecOn with
    | _ n ih =>
      intro a w hI
      obtain ⟨e, a₁, w₁, hq, harr⟩ := round n a w hI b (.inLoop k :: kk) cs
      cases e with
      | normal =>
        obtain ⟨m, hlt, hI₁⟩ := hq
        obtain ⟨e₂, a₂, w₂, hq₂, harr₂⟩ := ih m hlt a₁ w₁ hI₁
        exact ⟨e₂, a₂, w₂, hq₂, .of_steps (Steps.trans harr (.one step_inLoop)) harr₂⟩
      | exit id => exact ⟨_, a₁, w₁, hq, .pass (x := .inLoop k) rfl (fun _ _ => .inl (by simp)) harr⟩
      | goto l => exact ⟨_, a₁, w₁, hq, .pass (x := .inLoop k) rfl (fun _ _ => .inl (by simp)) harr⟩
      | ret => exact ⟨_, a₁, w₁, hq, .pass (x := .inLoop k) rfl (fun _ _ => .inl (by simp)) harr⟩
      | panic ch => exact ⟨_, a₁, w₁, hq, .pass (x := .inLoop k) rfl (fun _ _ => .inl (by simp)) harr⟩
      | outgrown => exact ⟨_, a₁, w₁, hq, .pass (x := .inLoop k) rfl (fun _ _ => .inl (by simp)) harr⟩
  obtain ⟨e, a', w', hq, harr⟩ := key n a w h₀
  exact ⟨e, a', w', hq, .of_steps (.one step_loop) harr⟩

/-- The head of a loop again, with less left to do. -/
def Again {α : Type} (X : Cx) (I : α → Prop) (μ : α → Nat) (Γf : α → Facts) (ρf : α → Env) (σf : α → List Res) (n : Nat) (a : Act) (w : World) : Prop :=
  ∃ x c, I x ∧ μ x < n ∧ c.w = w ∧ St X (Γf x) (ρf x) (σf x) a c

theorem J_loop {α : Type} {k : Code} (I : α → Prop) (μ : α → Nat) (Γf : α → Facts) (ρf : α → Env) (σf : α → List Res) (x0 : α) (h0 : I x0) (ht : To X Γ ρ σ (Γf x0) (ρf x0) (σf x0))
    (round : ∀ x, I x → J X (Γf x) (ρf x) (σf x) k (Exit.then (Again X I μ Γf ρf σf (μ x)) Q)) : J X Γ ρ σ (.loop k) Q := fun a c hs => by
  obtain ⟨c', hw, hs'⟩ := ht a c hs
  rw [← hw]
  refine wp_loopN (fun n a w => ∃ x c, I x ∧ μ x = n ∧ c.w = w ∧ St X (Γf x) (ρf x) (σf x) a c) ?_ (μ x0) a c'.w ⟨x0, c', h0, rfl, rfl, hs'⟩
  rintro n a w ⟨x, c, hI, hn, hw, hst⟩
  subst hw
  refine Code.wp_mono ?_ (round x hI a c hst)
  intro e a' w' hq
  cases e with
  | normal =>
    obtain ⟨y, c'', hy, hlt, hw', hst'⟩ := hq
    exact ⟨μ y, by omega, y, c'', hy, rfl, hw', hst'⟩
  | _ => exact hq
theorem JN_again {α : Type} {I : α → Prop} {μ : α → Nat} {Γf : α → Facts} {ρf : α → Env} {σf : α → List Res} {n : Nat} (x : α) (hI : I x) (hμ : μ x < n) (ht : To X Γ ρ σ (Γf x) (ρf x) (σf x)) :
    JN X Γ ρ σ (Exit.then (Again X I μ Γf ρf σf n) Q .normal) := fun a c hs => by
  obtain ⟨c', hw, hs'⟩ := ht a c hs
  exact ⟨x, c', hI, hμ, hw, hs'⟩

/-- Where two ways meet again: one description serves both. -/
theorem J_cut {x y : Code} (Γ' : Facts) (ρ' : Env) (σ' : List Res) (h1 : J X Γ ρ σ x (Exit.then (fun a w => ∃ c, c.w = w ∧ St X Γ' ρ' σ' a c) Q)) (h2 : J X Γ' ρ' σ' y Q) : J X Γ ρ σ (.seq x y) Q := fun a c hs => by
  refine wp_seq (Code.wp_mono ?_ (h1 a c hs))
  intro e a' w' hq
  cases e with
  | normal =>
    obtain ⟨c', hw, hs'⟩ := hq
    subst hw
    exact h2 a' c' hs'
  | _ => exact hq
theorem JN_cut {Γ' : Facts} {ρ' : Env} {σ' : List Res} (ht : To X Γ ρ σ Γ' ρ' σ') : JN X Γ ρ σ (Exit.then (fun a w => ∃ c, c.w = w ∧ St X Γ' ρ' σ' a c) Q .normal) := fun a c hs => ht a c hs

/-- A loop of which a part of the state stays. -/
theorem J_loopc {α : Type} {k : Code} (I : α → Prop) (μ : α → Nat) (ρf : α → Env → Env) (σf : α → List Res → List Res) {ρc : Env} {σc : List Res} (x0 : α) (h0 : I x0) (ht : To X Γ ρ σ Γ (ρf x0 ρc) (σf x0 σc))
    (round : ∀ x, I x → J X Γ (ρf x ρc) (σf x σc) k (Exit.then (Again X I μ (fun _ => Γ) (fun x => ρf x ρc) (fun x => σf x σc) (μ x)) Q)) : J X Γ ρ σ (.loop k) Q :=
  J_loop I μ (fun _ => Γ) (fun x => ρf x ρc) (fun x => σf x σc) x0 h0 ht round

end code
end Go.Bn
