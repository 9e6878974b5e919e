/-
  The logic of walks, third part: the predicates (numbers, pointers, slices, structs) and the resources (a block, a slice that grows), and what each operation does to them.
-/
import Derived.Test.YtcnffgbncbadbaaLog
import Derived.Laws.FloatArith
import Derived.Laws.AppendOwn
import Derived.Laws.Cells
import Derived.Laws.Entries
import Derived.Laws.MakeOwn
import Derived.Laws.NewBlocks
import Derived.ChangeKeysEq
set_option linter.unusedVariables false
set_option linter.unusedSimpArgs false
namespace Go.Bn
open Go

/-! ## Predicates -/
def isv (u : Value) : SP := ⟨fun v _ => v = u ∧ u.oneCell' = true, fun _ _ _ _ h => h⟩
def anyp : SP := ⟨fun _ _ => True, fun _ _ _ _ h => h⟩
/-- Under a condition; else the slot was passed over. -/
def whn (C : Prop) (p : SP) : SP := ⟨fun v c => (C → p.H v c) ∧ (¬ C → v = undef), fun _ _ _ hle h => ⟨fun hc => p.st _ _ _ hle (h.1 hc), h.2⟩⟩

/-- Cells from a place on. -/
def CL (l : List SP) (cur : Array Value) (off : Nat) (c : EW) : Prop := ∀ i p, nth l i = some p → ∃ u, cur[off + i]? = some u ∧ u.oneCell' = true ∧ p.H u c
theorem CL.st {l : List SP} {cur : Array Value} {off : Nat} {c c' : EW} (hle : Le c c') (h : CL l cur off c) : CL l cur off c' := fun i p hp => by
  obtain ⟨u, h1, h2, h3⟩ := h i p hp
  exact ⟨u, h1, h2, p.st _ _ _ hle h3⟩
theorem CL.le {l : List SP} {cur : Array Value} {off : Nat} {c : EW} (h : CL l cur off c) (hl : l ≠ []) : off + l.length ≤ cur.size := by
  have hpos : l.length - 1 < l.length := by
    cases l with
    | nil => exact (hl rfl).elim
    | cons x l => simp
  obtain ⟨u, h1, _⟩ := h (l.length - 1) l[l.length - 1] (by rw [nth_eq]; exact List.getElem?_eq_getElem hpos)
  have := (Array.getElem?_eq_some_iff.1 h1).1
  omega

def ptp (cells : List SP) : SP := ⟨fun v c => ∃ b off cur T fz, v = .pointer (some ⟨b, off, none⟩) ∧ ¬ c.M b ∧ c.w.heap[b]? = some (.cells cur T fz) ∧ CL cells cur off c, by
  rintro v c c' hle ⟨b, off, cur, T, fz, h1, h2, h3, h4⟩
  have hb : b < c.w.heap.size := (Array.getElem?_eq_some_iff.1 h3).1
  have hk := hle.keep b hb h2
  exact ⟨b, off, cur, T, fz, h1, hk.2, hk.1.trans h3, h4.st hle⟩⟩

/-- A slice that nobody writes any more: n elements of k cells. -/
def slc (n k : Nat) (cells : List SP) : SP := ⟨fun v c => cells.length = n * k ∧ ((v = .slice none 0 0 ∧ n = 0) ∨ ∃ ad cap, v = .slice (some ad) n cap ∧ n ≤ cap ∧ cap ≤ maxLen ∧
    (n = 0 ∨ ∃ b off, ad = ⟨b, off, none⟩ ∧ ¬ c.M b ∧ ∃ cur T fz, c.w.heap[b]? = some (.cells cur T fz) ∧ CL cells cur off c)), by
  rintro v c c' hle ⟨h0, h⟩
  refine ⟨h0, ?_⟩
  rcases h with h | ⟨ad, cap, h1, h2, h3, h4⟩
  · exact .inl h
  · refine .inr ⟨ad, cap, h1, h2, h3, ?_⟩
    rcases h4 with h4 | ⟨b, off, ha, h4, cur, T, fz, h5, h6⟩
    · exact .inl h4
    · have hb : b < c.w.heap.size := (Array.getElem?_eq_some_iff.1 h5).1
      have hk := hle.keep b hb h4
      exact .inr ⟨b, off, ha, hk.2, cur, T, fz, hk.1.trans h5, h6.st hle⟩⟩
/-- Of elements of one cell. -/
def slp (ps : List SP) : SP := slc ps.length 1 ps

def aggp (cells : List SP) : SP := ⟨fun v c => ∃ cs, v = .agg cs ∧ cs.size = cells.length ∧ CL cells cs 0 c, by
  rintro v c c' hle ⟨cs, h1, h2, h3⟩
  exact ⟨cs, h1, h2, h3.st hle⟩⟩

def HL : List SP → List Value → EW → Prop
  | [], [], _ => True
  | p :: ps, v :: vs, c => p.H v c ∧ HL ps vs c
  | _, _, _ => False
theorem HL.st {c c' : EW} (hle : Le c c') : ∀ {ps : List SP} {vs : List Value}, HL ps vs c → HL ps vs c'
  | [], [], _ => trivial
  | p :: ps, v :: vs, h => ⟨p.st _ _ _ hle h.1, HL.st hle h.2⟩
  | [], _ :: _, h => h.elim
  | _ :: _, [], h => h.elim
theorem HL.nth {c : EW} : ∀ {ps : List SP} {vs : List Value}, HL ps vs c → ∀ i p, nth ps i = some p → ∃ v, vs[i]? = some v ∧ p.H v c
  | [], [], _, i, p, h => by simp [Bn.nth] at h
  | p :: ps, v :: vs, h, 0, q, hq => by simp only [Bn.nth, Option.some.injEq] at hq; subst hq; exact ⟨v, rfl, h.1⟩
  | p :: ps, v :: vs, h, i + 1, q, hq => by
    obtain ⟨u, h1, h2⟩ := HL.nth h.2 i q hq
    exact ⟨u, by simpa using h1, h2⟩
  | [], _ :: _, h, _, _, _ => h.elim
  | _ :: _, [], h, _, _, _ => h.elim
theorem HL.len {c : EW} : ∀ {ps : List SP} {vs : List Value}, HL ps vs c → vs.length = ps.length
  | [], [], _ => rfl
  | _ :: _, _ :: _, h => by simp [HL.len h.2]
  | [], _ :: _, h => h.elim
  | _ :: _, [], h => h.elim
def tupp (ps : List SP) : SP := ⟨fun v c => ∃ vs : List Value, v = .tuple vs.toArray ∧ HL ps vs c, by
  rintro v c c' hle ⟨vs, h1, h2⟩
  exact ⟨vs, h1, h2.st hle⟩⟩

/-! ### Numbers of 64 bits -/
def nanB (b : Nat) : Bool := (Ieee.double.read b).isNaN
def NAN : Nat := 0x7ff8000000000001
def cn (b : Nat) : Nat := if nanB b then NAN else b
def flp (x : Nat) : SP := ⟨fun v _ => ∃ b, v = .float .f64 b ∧ b < 2 ^ 64 ∧ cn b = x, fun _ _ _ _ h => h⟩
def fop (r : Option Nat) : Nat := r.getD NAN
def fadd (x y : Nat) : Nat := fop (Ieee.double.add x y)
def fsub (x y : Nat) : Nat := fop (Ieee.double.sub x y)
def fmul (x y : Nat) : Nat := fop (Ieee.double.mul x y)
def fdiv (x y : Nat) : Nat := fop (Ieee.double.div x y)

/-! ### Pointers into what is owned -/
/-- A pointer to the cell 'off' of the block at which base points (a pointer or a slice to its head). -/
def ipo (base : Value) (off : Nat) : SP := ⟨fun v _ => ∃ b, (base = .pointer (some ⟨b, 0, none⟩) ∨ ∃ n cap, base = .slice (some ⟨b, 0, none⟩) n cap) ∧ v = .pointer (some ⟨b, off, none⟩), fun _ _ _ _ h => h⟩

/-! ## Resources -/
def blk (base : Value) (cells : List SP) (T : TypeId) : Res := ⟨fun c ob => ∃ b cur, base = .pointer (some ⟨b, 0, none⟩) ∧ ob = some b ∧ c.w.heap[b]? = some (.cells cur T (0, 0)) ∧ cur.size = cells.length ∧ CL cells cur 0 c, by
  rintro c c' ob hle hk ⟨b, cur, h1, h2, h3, h4, h5⟩
  exact ⟨b, cur, h1, h2, (hk b h2).trans h3, h4, h5.st hle⟩⟩
def osl (sv : Value) (n k : Nat) (cells : List SP) (T : TypeId) : Res := ⟨fun c ob => cells.length = n * k ∧ ((sv = .slice none 0 0 ∧ n = 0 ∧ ob = none) ∨
    ∃ b cap cur, sv = .slice (some ⟨b, 0, none⟩) n cap ∧ ob = some b ∧ n ≤ cap ∧ cap ≤ maxLen ∧ c.w.heap[b]? = some (.cells cur T (0, 0)) ∧ cur.size = cap * k ∧ CL cells cur 0 c), by
  rintro c c' ob hle hk ⟨h0, h⟩
  refine ⟨h0, ?_⟩
  rcases h with h | ⟨b, cap, cur, h1, h2, h3, h4, h5, h6, h7⟩
  · exact .inl h
  · exact .inr ⟨b, cap, cur, h1, h2, h3, h4, (hk b h2).trans h5, h6, h7.st hle⟩⟩

theorem frz_blk {base : Value} {cells : List SP} {T : TypeId} : Freezes (blk base cells T) base (ptp cells) := by
  rintro c c' ob ⟨b, cur, h1, h2, h3, h4, h5⟩ hle hob
  have := hob b h2
  exact ⟨b, 0, cur, T, (0, 0), h1, this.2, this.1.trans h3, h5.st hle⟩
theorem frz_osl {sv : Value} {n k : Nat} {cells : List SP} {T : TypeId} : Freezes (osl sv n k cells T) sv (slc n k cells) := by
  rintro c c' ob ⟨h0, h⟩ hle hob
  refine ⟨h0, ?_⟩
  rcases h with ⟨h1, h2, _⟩ | ⟨b, cap, cur, h1, h2, h3, h4, h5, h6, h7⟩
  · exact .inl ⟨h1, h2⟩
  · have := hob b h2
    exact .inr ⟨⟨b, 0, none⟩, cap, h1, h3, h4, .inr ⟨b, 0, rfl, this.2, cur, T, (0, 0), this.1.trans h5, h7.st hle⟩⟩

/-! ## Lists of cells -/
def subl {α : Type} : Nat → Nat → List α → Option (List α)
  | 0, 0, _ => some []
  | 0, m + 1, x :: l => (subl 0 m l).map (x :: ·)
  | 0, _ + 1, [] => none
  | o + 1, m, _ :: l => subl o m l
  | _ + 1, _, [] => none
theorem subl_spec {α : Type} : ∀ {o m : Nat} {l l' : List α}, subl o m l = some l' → l'.length = m ∧ o + m ≤ l.length ∧ ∀ i, i < m → nth l' i = nth l (o + i)
  | 0, 0, _, l', h => by simp only [subl, Option.some.injEq] at h; subst h; exact ⟨rfl, Nat.zero_le _, fun i hi => by omega⟩
  | 0, m + 1, x :: l, l', h => by
    simp only [subl, Option.map_eq_some_iff] at h
    obtain ⟨l'', h1, rfl⟩ := h
    obtain ⟨g1, g2, g3⟩ := subl_spec h1
    refine ⟨by simp [g1], by simp; omega, fun i hi => ?_⟩
    cases i with
    | zero => rfl
    | succ i => have := g3 i (by omega); simpa [nth] using this
  | 0, m + 1, [], l', h => by simp [subl] at h
  | o + 1, m, x :: l, l', h => by
    simp only [subl] at h
    obtain ⟨g1, g2, g3⟩ := subl_spec h
    refine ⟨g1, by simp; omega, fun i hi => ?_⟩
    rw [g3 i hi, Nat.add_right_comm]
    rfl
  | o + 1, m, [], l', h => by simp [subl] at h
/-- Cells put at a place. -/
def putl {α : Type} : Nat → List α → List α → Option (List α)
  | _, [], l => some l
  | 0, x :: xs, _ :: l => (putl 0 xs l).map (x :: ·)
  | 0, _ :: _, [] => none
  | o + 1, xs, y :: l => (putl o xs l).map (y :: ·)
  | _ + 1, _ :: _, [] => none
theorem putl_spec {α : Type} : ∀ {o : Nat} {xs l l' : List α}, putl o xs l = some l' → l'.length = l.length ∧ (xs = [] ∨ o + xs.length ≤ l.length) ∧ ∀ i, nth l' i = if o ≤ i ∧ i < o + xs.length then nth xs (i - o) else nth l i
  | o, [], l, l', h => by
    simp only [putl, Option.some.injEq] at h
    subst h
    exact ⟨rfl, .inl rfl, fun i => by rw [if_neg (by simp)]⟩
  | 0, x :: xs, y :: l, l', h => by
    simp only [putl, Option.map_eq_some_iff] at h
    obtain ⟨l'', h1, rfl⟩ := h
    obtain ⟨g1, g2, g3⟩ := putl_spec h1
    refine ⟨by simp [g1], .inr ?_, fun i => ?_⟩
    · rcases g2 with rfl | g2 <;> simp at * <;> omega
    · cases i with
      | zero => simp [nth]
      | succ i =>
        have := g3 i
        simp only [Nat.zero_le, true_and, Nat.zero_add, Nat.sub_zero] at this ⊢
        simp only [nth, List.length_cons, Nat.add_lt_add_iff_right]
        exact this
  | 0, x :: xs, [], l', h => by simp [putl] at h
  | o + 1, x :: xs, y :: l, l', h => by
    simp only [putl, Option.map_eq_some_iff] at h
    obtain ⟨l'', h1, rfl⟩ := h
    obtain ⟨g1, g2, g3⟩ := putl_spec h1
    refine ⟨by simp [g1], .inr ?_, fun i => ?_⟩
    · rcases g2 with h' | g2
      · cases h'
      · simp at *; omega
    · cases i with
      | zero => simp [nth]
      | succ i =>
        have := g3 i
        simp only [nth]
        rw [this]
        have e : (o + 1 ≤ i + 1 ∧ i + 1 < o + 1 + (x :: xs).length) ↔ (o ≤ i ∧ i < o + (x :: xs).length) := by omega
        simp only [e, Nat.add_sub_add_right]
  | o + 1, x :: xs, [], l', h => by simp [putl] at h

/-- What cells a value of p has. -/
def CellsOf (p : SP) (l : List SP) : Prop := ∀ v c, p.H v c → v.cells.size = l.length ∧ CL l v.cells 0 c
theorem CellsOf.one {p : SP} (h : ∀ v c, p.H v c → v.oneCell' = true) : CellsOf p [p] := fun v c hv => by
  have h1 := h v c hv
  have hc : v.cells = #[v] := by cases v <;> simp [Value.cells, Value.oneCell'] at h1 ⊢
  refine ⟨by simp [hc], fun i q hq => ?_⟩
  cases i with
  | zero => simp only [nth, Option.some.injEq] at hq; subst hq; exact ⟨v, by simp [hc], h1, hv⟩
  | succ i => simp [nth] at hq
theorem co_isv {u : Value} : CellsOf (isv u) [isv u] := .one fun _ _ h => h.1 ▸ h.2
theorem co_flp {x : Nat} : CellsOf (flp x) [flp x] := .one fun _ _ ⟨_, h, _⟩ => h ▸ rfl
theorem co_slc {n k : Nat} {l : List SP} : CellsOf (slc n k l) [slc n k l] := .one fun _ _ ⟨_, h⟩ => by
  rcases h with ⟨h, _⟩ | ⟨_, _, h, _⟩ <;> subst h <;> rfl
theorem co_slp {l : List SP} : CellsOf (slp l) [slp l] := co_slc
theorem co_ptp {l : List SP} : CellsOf (ptp l) [ptp l] := .one fun _ _ ⟨_, _, _, _, _, h, _⟩ => h ▸ rfl
theorem co_ipo {b : Value} {o : Nat} : CellsOf (ipo b o) [ipo b o] := .one fun _ _ ⟨_, _, h⟩ => h ▸ rfl
theorem co_agg {l : List SP} : CellsOf (aggp l) l := fun v c ⟨cs, h1, h2, h3⟩ => by subst h1; exact ⟨h2, h3⟩

/-! ## Operations -/
def dum : VR := .c emp

section ops
variable {P : Program} {n : Nat} {ops : Array Oper} {Γ : Facts} {ρ : Env} {δ : VEnv} {τ : List VR}

/-- What the operand's slot holds. -/
theorem Lk.val {o : Oper} {a : Act} {c : EW} (hr : ∀ t, t ∈ o.looksAt ops → ∀ q, getV δ ρ t = some q → (q.at (vl a)).H (vl a t) c) (hf : FH Γ c) {x : Operand} {p : SP} (hm : x ∈ o.op.operands) (h : Lk Γ δ ρ x p) : p.H (a.eval x) c := by
  cases x with
  | tmp t =>
    obtain ⟨e, he, hh⟩ := h
    exact hh (vl a) _ c hf (hr t (List.mem_append_left _ (List.mem_filterMap.2 ⟨.tmp t, by simpa using hm, rfl⟩)) e he)
  | const u => exact h c hf
  | global g => exact h c hf
  | func f => exact h c hf
theorem Lk.k {u : Value} (h : u.oneCell' = true) : Lk Γ δ ρ (.const u) (isv u) := fun _ _ => ⟨rfl, h⟩

theorem Tr.refl {c : EW} {ob : Option Nat} {wr : Bool} (h : ∀ k, c.M k → k < c.w.heap.size) : Tr c ob wr c ob := ⟨rfl, rfl, rfl, Nat.le_refl _, fun _ _ _ => rfl, fun _ _ => Iff.rfl, .inl rfl, h⟩

/-- An operation that leaves the world as it is, of slots alone. -/
theorem ok_pure {d : Option Nat} {op : Op} {ty : TypeId} {pos : String} {af : Array Edge} {p : SP}
    (h : ∀ (a : Act) (c : EW), FH Γ c → (∀ x q, x ∈ op.operands → Lk Γ δ ρ x q → q.H (a.eval x) c) → ∃ v, (execOp a.eval ⟨d, op, ty, pos, af, none⟩).run P c.w = .ok (.value v) c.w ∧ p.H v c) :
    OpOK P n ops Γ ρ δ τ ⟨d, op, ty, pos, af, none⟩ .no (.c p) dum := by
  intro a c ob hs hwf hf hr _ hno _
  obtain ⟨v, hv, hp⟩ := h a c hf (fun x q hx hq => Lk.val (o := ⟨d, op, ty, pos, af, none⟩) hr hf hx hq)
  simp only [Region.wanted, if_true]
  unfold Does
  rw [hv]
  exact ⟨c, ob, rfl, Tr.refl hwf, hp, fun h => (by cases h)⟩

variable {d : Nat} {ty : TypeId} {pos : String} {af : Array Edge}

theorem op_move {x : Operand} {p : SP} (hx : Lk Γ δ ρ x p) : OpOK P n ops Γ ρ δ τ ⟨some d, .move x, ty, pos, af, none⟩ .no (.c p) dum :=
  ok_pure fun a c _ hr => ⟨a.eval x, rfl, hr x p (by simp [Op.operands]) hx⟩
theorem op_assign {x : Operand} {p : SP} (hx : Lk Γ δ ρ x p) : OpOK P n ops Γ ρ δ τ ⟨some d, .assign x, ty, pos, af, none⟩ .no (.c p) dum :=
  ok_pure fun a c _ hr => ⟨a.eval x, rfl, hr x p (by simp [Op.operands]) hx⟩

theorem op_not {x : Operand} {t : TypeId} {b : Bool} (hx : Lk Γ δ ρ x (isv (.bool b))) : OpOK P n ops Γ ρ δ τ ⟨some d, .unOp .not t x, ty, pos, af, none⟩ .no (.c (isv (.bool !b))) dum :=
  ok_pure fun a c _ hr => by
    have h := (hr x _ (by simp [Op.operands]) hx).1
    exact ⟨.bool !b, by simp [execOp, Op.unary, h], rfl, rfl⟩

/-- Integers: + - * and the bits. -/
theorem op_add {x y : Operand} {t t' : TypeId} {k : IntKind} {a b z : Int} (hx : Lk Γ δ ρ x (isv (.int k a))) (hy : Lk Γ δ ρ y (isv (.int k b))) (hz : k.wrap (a + b) = z) :
    OpOK P n ops Γ ρ δ τ ⟨some d, .binOp .add t x y t', ty, pos, af, none⟩ .no (.c (isv (.int k z))) dum :=
  ok_pure fun A c _ hr => by
    have h1 := (hr x _ (by simp [Op.operands]) hx).1
    have h2 := (hr y _ (by simp [Op.operands]) hy).1
    exact ⟨.int k z, by simp [execOp, eqGuard, binOp, Op.intArith, h1, h2, hz], rfl, rfl⟩
theorem op_sub {x y : Operand} {t t' : TypeId} {k : IntKind} {a b z : Int} (hx : Lk Γ δ ρ x (isv (.int k a))) (hy : Lk Γ δ ρ y (isv (.int k b))) (hz : k.wrap (a - b) = z) :
    OpOK P n ops Γ ρ δ τ ⟨some d, .binOp .sub t x y t', ty, pos, af, none⟩ .no (.c (isv (.int k z))) dum :=
  ok_pure fun A c _ hr => by
    have h1 := (hr x _ (by simp [Op.operands]) hx).1
    have h2 := (hr y _ (by simp [Op.operands]) hy).1
    exact ⟨.int k z, by simp [execOp, eqGuard, binOp, Op.intArith, h1, h2, hz], rfl, rfl⟩
theorem op_mul {x y : Operand} {t t' : TypeId} {k : IntKind} {a b z : Int} (hx : Lk Γ δ ρ x (isv (.int k a))) (hy : Lk Γ δ ρ y (isv (.int k b))) (hz : k.wrap (a * b) = z) :
    OpOK P n ops Γ ρ δ τ ⟨some d, .binOp .mul t x y t', ty, pos, af, none⟩ .no (.c (isv (.int k z))) dum :=
  ok_pure fun A c _ hr => by
    have h1 := (hr x _ (by simp [Op.operands]) hx).1
    have h2 := (hr y _ (by simp [Op.operands]) hy).1
    exact ⟨.int k z, by simp [execOp, eqGuard, binOp, Op.intArith, h1, h2, hz], rfl, rfl⟩
theorem op_quo {x y : Operand} {t t' : TypeId} {k : IntKind} {a b z : Int} (hx : Lk Γ δ ρ x (isv (.int k a))) (hy : Lk Γ δ ρ y (isv (.int k b))) (h0 : b ≠ 0) (hz : k.wrap (a.tdiv b) = z) :
    OpOK P n ops Γ ρ δ τ ⟨some d, .binOp .quo t x y t', ty, pos, af, none⟩ .no (.c (isv (.int k z))) dum :=
  ok_pure fun A c _ hr => by
    have h1 := (hr x _ (by simp [Op.operands]) hx).1
    have h2 := (hr y _ (by simp [Op.operands]) hy).1
    exact ⟨.int k z, by simp [execOp, eqGuard, binOp, Op.intDiv, h1, h2, h0, hz], rfl, rfl⟩
theorem op_rem {x y : Operand} {t t' : TypeId} {k : IntKind} {a b z : Int} (hx : Lk Γ δ ρ x (isv (.int k a))) (hy : Lk Γ δ ρ y (isv (.int k b))) (h0 : b ≠ 0) (hz : a.tmod b = z) :
    OpOK P n ops Γ ρ δ τ ⟨some d, .binOp .rem t x y t', ty, pos, af, none⟩ .no (.c (isv (.int k z))) dum :=
  ok_pure fun A c _ hr => by
    have h1 := (hr x _ (by simp [Op.operands]) hx).1
    have h2 := (hr y _ (by simp [Op.operands]) hy).1
    exact ⟨.int k z, by simp [execOp, eqGuard, binOp, Op.intDiv, h1, h2, h0, hz], rfl, rfl⟩
/-- The bits of two integers by an operation on words. -/
def bitsOf (op : BinOp) (k : IntKind) (x y : Int) : Int :=
  let a := BitVec.ofInt k.bits x
  let b := BitVec.ofInt k.bits y
  match op with
  | .and => k.wrap (a &&& b).toNat
  | .or => k.wrap (a ||| b).toNat
  | .xor => k.wrap (a ^^^ b).toNat
  | _ => k.wrap (a &&& ~~~b).toNat
theorem op_bits {x y : Operand} {t t' : TypeId} {op : BinOp} {k : IntKind} {a b z : Int} (hop : op = .and ∨ op = .or ∨ op = .xor ∨ op = .andNot) (hx : Lk Γ δ ρ x (isv (.int k a))) (hy : Lk Γ δ ρ y (isv (.int k b))) (hz : bitsOf op k a b = z) :
    OpOK P n ops Γ ρ δ τ ⟨some d, .binOp op t x y t', ty, pos, af, none⟩ .no (.c (isv (.int k z))) dum :=
  ok_pure fun A c _ hr => by
    have h1 := (hr x _ (by simp [Op.operands]) hx).1
    have h2 := (hr y _ (by simp [Op.operands]) hy).1
    refine ⟨.int k z, ?_, rfl, rfl⟩
    subst hz
    rcases hop with h | h | h | h <;> subst h <;> simp [execOp, eqGuard, binOp, Op.intBits, h1, h2, bitsOf]
theorem op_shl {x y : Operand} {t t' : TypeId} {k k' : IntKind} {a b z : Int} (hx : Lk Γ δ ρ x (isv (.int k a))) (hy : Lk Γ δ ρ y (isv (.int k' b))) (h0 : 0 ≤ b) (hz : k.wrap (a * 2 ^ min b.toNat k.bits) = z) :
    OpOK P n ops Γ ρ δ τ ⟨some d, .binOp .shl t x y t', ty, pos, af, none⟩ .no (.c (isv (.int k z))) dum :=
  ok_pure fun A c _ hr => by
    have h1 := (hr x _ (by simp [Op.operands]) hx).1
    have h2 := (hr y _ (by simp [Op.operands]) hy).1
    have h3 : ¬ b < 0 := by omega
    exact ⟨.int k z, by simp [execOp, eqGuard, binOp, Op.shift, h1, h2, h3, hz], rfl, rfl⟩
theorem op_shr {x y : Operand} {t t' : TypeId} {k k' : IntKind} {a b z : Int} (hx : Lk Γ δ ρ x (isv (.int k a))) (hy : Lk Γ δ ρ y (isv (.int k' b))) (h0 : 0 ≤ b) (hz : a.fdiv (2 ^ min b.toNat k.bits) = z) :
    OpOK P n ops Γ ρ δ τ ⟨some d, .binOp .shr t x y t', ty, pos, af, none⟩ .no (.c (isv (.int k z))) dum :=
  ok_pure fun A c _ hr => by
    have h1 := (hr x _ (by simp [Op.operands]) hx).1
    have h2 := (hr y _ (by simp [Op.operands]) hy).1
    have h3 : ¬ b < 0 := by omega
    exact ⟨.int k z, by simp [execOp, eqGuard, binOp, Op.shift, h1, h2, h3, hz], rfl, rfl⟩

/-- Integers compared. -/
def cmpB (op : BinOp) (a b : Int) : Bool :=
  match op with
  | .eql => a == b
  | .neq => a != b
  | .lss => decide (a < b)
  | .leq => decide (a ≤ b)
  | .gtr => decide (b < a)
  | _ => decide (b ≤ a)
theorem op_cmp {x y : Operand} {t t' : TypeId} {op : BinOp} {k : IntKind} {a b : Int} {r : Bool} (hop : op = .eql ∨ op = .neq ∨ op = .lss ∨ op = .leq ∨ op = .gtr ∨ op = .geq) (hx : Lk Γ δ ρ x (isv (.int k a))) (hy : Lk Γ δ ρ y (isv (.int k b))) (hr : cmpB op a b = r) :
    OpOK P n ops Γ ρ δ τ ⟨some d, .binOp op t x y t', ty, pos, af, none⟩ .no (.c (isv (.bool r))) dum :=
  ok_pure fun A c _ hr' => by
    have h1 := (hr' x _ (by simp [Op.operands]) hx).1
    have h2 := (hr' y _ (by simp [Op.operands]) hy).1
    refine ⟨.bool r, ?_, rfl, rfl⟩
    subst hr
    rcases hop with h | h | h | h | h | h <;> subst h <;> simp [execOp, eqGuard, binOp, Op.intCmp, h1, h2, cmpB]

/-- && and ||: the slot that chooses. -/
theorem op_pick {cx ax bx : Operand} {b1 b2 b3 r : Bool} (hc : Lk Γ δ ρ cx (isv (.bool b1))) (ha : b1 = true → Lk Γ δ ρ ax (isv (.bool b2))) (hb : b1 = false → Lk Γ δ ρ bx (isv (.bool b3))) (hr : cond b1 b2 b3 = r) :
    OpOK P n ops Γ ρ δ τ ⟨some d, .pick cx ax bx, ty, pos, af, none⟩ .no (.c (isv (.bool r))) dum :=
  ok_pure fun A c _ hr' => by
    have h1 := (hr' cx _ (by simp [Op.operands]) hc).1
    subst hr
    cases b1 with
    | true =>
      have h2 := (hr' ax _ (by simp [Op.operands]) (ha rfl)).1
      exact ⟨.bool b2, by simp [execOp, asBool, h1, h2], rfl, rfl⟩
    | false =>
      have h2 := (hr' bx _ (by simp [Op.operands]) (hb rfl)).1
      exact ⟨.bool b3, by simp [execOp, asBool, h1, h2], rfl, rfl⟩

theorem op_and {cx ax : Operand} {b1 b2 : Bool} (hc : Lk Γ δ ρ cx (isv (.bool b1))) (ha : b1 = true → Lk Γ δ ρ ax (isv (.bool b2))) :
    OpOK P n ops Γ ρ δ τ ⟨some d, .pick cx ax (.const (.bool false)), ty, pos, af, none⟩ .no (.c (isv (.bool (b1 && b2)))) dum :=
  op_pick (b3 := false) hc ha (fun _ => Lk.k rfl) (by cases b1 <;> rfl)
theorem op_or {cx bx : Operand} {b1 b3 : Bool} (hc : Lk Γ δ ρ cx (isv (.bool b1))) (hb : b1 = false → Lk Γ δ ρ bx (isv (.bool b3))) :
    OpOK P n ops Γ ρ δ τ ⟨some d, .pick cx (.const (.bool true)) bx, ty, pos, af, none⟩ .no (.c (isv (.bool (b1 || b3)))) dum :=
  op_pick (b2 := true) hc (fun _ => Lk.k rfl) hb (by cases b1 <;> rfl)

theorem op_extract {x : Operand} {i : Nat} {ps : List SP} {p : SP} (hx : Lk Γ δ ρ x (tupp ps)) (hi : nth ps i = some p) : OpOK P n ops Γ ρ δ τ ⟨some d, .extract x i, ty, pos, af, none⟩ .no (.c p) dum :=
  ok_pure fun A c _ hr => by
    obtain ⟨vs, h1, h2⟩ := hr x _ (by simp [Op.operands]) hx
    obtain ⟨v, h3, h4⟩ := h2.nth i p hi
    exact ⟨v, by simp [execOp, Instr.extract, h1, h3], h4⟩

end ops
end Go.Bn
