/-
  The logic of walks, sixth part: binary64 with all NaNs taken for one; conversions; guards; structs and slices written out.
-/
import Derived.Test.YtcnffgbncbadbaaOps
set_option linter.unusedVariables false
set_option linter.unusedSimpArgs false
namespace Go.Bn
open Go

/-! ## binary64 -/
theorem signW : Ieee.double.signWeight = 9223372036854775808 := by decide +kernel
theorem infR : Ieee.double.infRung = 9218868437227405312 := by decide +kernel
theorem binA : Ieee.double.binade = 4503599627370496 := by decide +kernel
theorem nanB_iff (b : Nat) : nanB b = decide (9218868437227405312 < b % 9223372036854775808) := by
  unfold nanB Ieee.Format.read
  simp only [signW, infR, binA]
  generalize b % 9223372036854775808 = r
  by_cases h1 : r < 4503599627370496
  · rw [if_pos h1, decide_eq_false (by omega)]; rfl
  · rw [if_neg h1]
    by_cases h2 : r < 9218868437227405312
    · rw [if_pos h2, decide_eq_false (by omega)]; rfl
    · rw [if_neg h2]
      by_cases h3 : r = 9218868437227405312
      · rw [if_pos h3, decide_eq_false (by omega)]; rfl
      · rw [if_neg h3, decide_eq_true (by omega)]; rfl
theorem nanB_NAN : nanB NAN = true := by rw [nanB_iff]; decide
theorem cn_of_not {b : Nat} (h : nanB b = false) : cn b = b := by simp [cn, h]
theorem cn_of_nan {b : Nat} (h : nanB b = true) : cn b = NAN := by simp [cn, h]
theorem nanB_cn (b : Nat) : nanB (cn b) = nanB b := by
  cases h : nanB b
  · rw [cn_of_not h, h]
  · rw [cn_of_nan h, nanB_NAN]
theorem cn_cn (b : Nat) : cn (cn b) = cn b := by
  cases h : nanB b
  · rw [cn_of_not h, cn_of_not h]
  · rw [cn_of_nan h]; exact cn_of_nan nanB_NAN
theorem NAN_lt : NAN < 2 ^ 64 := by decide
theorem cn_lt {b : Nat} (h : b < 2 ^ 64) : cn b < 2 ^ 64 := by
  unfold cn; split
  · exact NAN_lt
  · exact h
theorem word_read (neg : Bool) {r : Nat} (h : r ≤ 9218868437227405312) : nanB (Ieee.double.word neg r) = false ∧ Ieee.double.word neg r < 2 ^ 64 := by
  rw [nanB_iff]
  unfold Ieee.Format.word
  rw [signW]
  cases neg
  · simp only [Bool.false_eq_true, if_false]
    exact ⟨decide_eq_false (by omega), by omega⟩
  · simp only [if_true]
    exact ⟨decide_eq_false (by omega), by omega⟩
theorem write_ok {d : Ieee.Datum} (h : d.isNaN = false) : nanB (Ieee.double.write d) = false ∧ Ieee.double.write d < 2 ^ 64 := by
  cases d with
  | number neg mag place =>
    simp only [Ieee.Format.write]
    unfold Ieee.Format.nearest
    split
    · exact word_read neg (by omega)
    · exact word_read neg (by rw [← infR]; exact Nat.min_le_right ..)
  | infinity neg => simp only [Ieee.Format.write]; exact word_read neg (by rw [infR]; exact Nat.le_refl _)
  | nan neg fr => cases h
theorem sum_ok {x y d : Ieee.Datum} (h : x.sum y = some d) : d.isNaN = false ∧ x.isNaN = false ∧ y.isNaN = false := by
  cases x <;> cases y <;> simp only [Ieee.Datum.sum] at h <;> first
    | (cases h; done)
    | (cases h; exact ⟨rfl, rfl, rfl⟩)
    | (split at h <;> first | (cases h; done) | (cases h; exact ⟨rfl, rfl, rfl⟩))
theorem product_ok {x y d : Ieee.Datum} (h : x.product y = some d) : d.isNaN = false ∧ x.isNaN = false ∧ y.isNaN = false := by
  cases x <;> cases y <;> simp only [Ieee.Datum.product] at h <;> first
    | (cases h; done)
    | (cases h; exact ⟨rfl, rfl, rfl⟩)
    | (split at h <;> first | (cases h; done) | (cases h; exact ⟨rfl, rfl, rfl⟩))
theorem quotient_ok {n : Nat} {x y d : Ieee.Datum} (h : x.quotient n y = some d) : d.isNaN = false ∧ x.isNaN = false ∧ y.isNaN = false := by
  cases x <;> cases y <;> simp only [Ieee.Datum.quotient] at h <;> first
    | (cases h; done)
    | (cases h; exact ⟨rfl, rfl, rfl⟩)
    | (split at h <;> first | (cases h; done) | (cases h; exact ⟨rfl, rfl, rfl⟩) | (split at h <;> first | (cases h; done) | (cases h; exact ⟨rfl, rfl, rfl⟩)))
theorem opp_nan (x : Ieee.Datum) : x.opposite.isNaN = x.isNaN := by cases x <;> rfl
/-- The four operations by their words. -/
def fbits (op : BinOp) (x y : Nat) : Option Nat := floatBits op .f64 x y
theorem fbits_some {op : BinOp} {x y r : Nat} (h : fbits op x y = some r) : nanB r = false ∧ r < 2 ^ 64 ∧ nanB x = false ∧ nanB y = false := by
  unfold fbits floatBits at h
  have key : ∀ {o : Option Ieee.Datum}, o.map Ieee.double.write = some r → (∀ d, o = some d → d.isNaN = false ∧ (Ieee.double.read x).isNaN = false ∧ (Ieee.double.read y).isNaN = false) → nanB r = false ∧ r < 2 ^ 64 ∧ nanB x = false ∧ nanB y = false := by
    intro o ho hd
    cases o with
    | none => cases ho
    | some d =>
      cases ho
      obtain ⟨g1, g2, g3⟩ := hd d rfl
      exact ⟨(write_ok g1).1, (write_ok g1).2, g2, g3⟩
  cases op <;> simp only at h <;> first | (cases h; done) | skip
  · exact key h fun d hd => sum_ok hd
  · exact key h fun d hd => by have := sum_ok hd; rw [opp_nan] at this; exact this
  · exact key h fun d hd => product_ok hd
  · exact key h fun d hd => quotient_ok hd
theorem fbits_cn {op : BinOp} {x y : Nat} : fop (fbits op (cn x) (cn y)) = match fbits op x y with | some r => r | none => NAN := by
  cases h : fbits op x y with
  | some r =>
    obtain ⟨_, _, h1, h2⟩ := fbits_some h
    rw [cn_of_not h1, cn_of_not h2, h]; rfl
  | none =>
    cases h' : fbits op (cn x) (cn y) with
    | none => rfl
    | some r =>
      obtain ⟨_, _, h1, h2⟩ := fbits_some h'
      rw [nanB_cn] at h1 h2
      rw [cn_of_not h1, cn_of_not h2, h] at h'
      cases h'
theorem nan_drawn (q : FloatKind → Nat → Nat → Question) (hq : q = .nanBits ∨ (∃ b, q = fun k x y => .nanMinMax k b x y)) (x y t : Nat) : nanB ((q .f64 x y).cut t) = true ∧ (q .f64 x y).cut t < 2 ^ 64 := by
  have e : (q .f64 x y).cut t = (t % 2) * 2 ^ 63 + 0x7ff0000000000000 + 1 + (t / 2) % (2 ^ 52 - 1) := by
    rcases hq with h | ⟨b, h⟩ <;> subst h <;> rfl
  rw [e, nanB_iff]
  have h1 : t % 2 < 2 := Nat.mod_lt _ (by omega)
  have h2 : (t / 2) % (2 ^ 52 - 1) < 2 ^ 52 - 1 := Nat.mod_lt _ (by decide)
  generalize t % 2 = u at *
  generalize (t / 2) % (2 ^ 52 - 1) = w at *
  have h3 : u = 0 ∨ u = 1 := by omega
  rcases h3 with rfl | rfl <;> exact ⟨decide_eq_true (by omega), by omega⟩

section ops
variable {P : Program} {n : Nat} {ops : Array Oper} {Γ : Facts} {ρ : Env} {δ : VEnv} {τ : List VR}
variable {d : Nat} {ty : TypeId} {pos : String} {af : Array Edge}

/-- An operation that leaves memory as it is (it may draw). -/
theorem ok_draw {op : Op} {p : SP}
    (h : ∀ (a : Act) (c : EW), FH Γ c → (∀ x q, x ∈ op.operands → Lk Γ δ ρ x q → q.H (a.eval x) c) → ∃ v m, (execOp a.eval ⟨some d, op, ty, pos, af, none⟩).run P c.w = .ok (.value v) { c.w with drawn := m } ∧ ∀ c', p.H v c') :
    OpOK P n ops Γ ρ δ τ ⟨some d, op, ty, pos, af, none⟩ .no (.c p) dum := by
  intro a c ob hs hwf hf hr _ hno _
  obtain ⟨v, m, hv, hp⟩ := h a c hf (fun x q hx hq => Lk.val (o := ⟨some d, op, ty, pos, af, none⟩) hr hf hx hq)
  simp only [Region.wanted, if_true]
  unfold Does
  rw [hv]
  exact ⟨⟨{ c.w with drawn := m }, c.M⟩, ob, rfl, ⟨rfl, rfl, rfl, Nat.le_refl _, fun _ _ _ => rfl, fun _ _ => Iff.rfl, .inl rfl, hwf⟩, hp _, fun h => (by cases h)⟩

theorem op_float {x y : Operand} {t t' : TypeId} {op : BinOp} {a b r : Nat} (hop : op = .add ∨ op = .sub ∨ op = .mul ∨ op = .quo) (hx : Lk Γ δ ρ x (flp a)) (hy : Lk Γ δ ρ y (flp b)) (hr : fop (fbits op a b) = r) :
    OpOK P n ops Γ ρ δ τ ⟨some d, .binOp op t x y t', ty, pos, af, none⟩ .no (.c (flp r)) dum :=
  ok_draw fun A c _ hrd => by
    subst hr
    obtain ⟨b1, h1, h2, rfl⟩ := hrd x _ (by simp [Op.operands]) hx
    obtain ⟨b2, h3, h4, rfl⟩ := hrd y _ (by simp [Op.operands]) hy
    rw [fbits_cn]
    cases hf : fbits op b1 b2 with
    | some r =>
      have hrun := run_float_arith (P := P) c.w op t .f64 b1 b2 r hf
      obtain ⟨g1, g2, _⟩ := fbits_some hf
      refine ⟨.float .f64 r, c.w.drawn, ?_, fun _ => ⟨r, rfl, g2, cn_of_not g1⟩⟩
      rcases hop with h | h | h | h <;> subst h <;> simp [execOp, eqGuard, h1, h3, hrun]
    | none =>
      refine ⟨.float .f64 ((Question.nanBits .f64 b1 b2).cut (c.w.tape c.w.drawn (.nanBits .f64 b1 b2))), c.w.drawn + 1, ?_, fun _ => ⟨_, rfl, (nan_drawn .nanBits (.inl rfl) b1 b2 _).2, cn_of_nan (nan_drawn .nanBits (.inl rfl) b1 b2 _).1⟩⟩
      have hF : FloatKind.f64.format = Ieee.double := rfl
      rcases hop with h | h | h | h <;> subst h <;> simp only [fbits, floatBits, hF] at hf <;> simp [execOp, eqGuard, h1, h3, binOp, Op.floatArith, hF, hf, choose, Sem.run, Question.forced]

/-- How two numbers stand to one another: of a NaN, none. -/
def ford (x y : Nat) : Option Ordering := Ieee.double.order x y
theorem ford_nan {x y : Nat} (h : nanB x = true ∨ nanB y = true) : ford x y = none := by
  unfold ford Ieee.Format.order
  unfold nanB at h
  cases hx : Ieee.double.read x <;> cases hy : Ieee.double.read y <;> rw [hx, hy] at h <;> simp [Ieee.Datum.isNaN] at h <;> rfl
theorem ford_cn (x y : Nat) : ford (cn x) (cn y) = ford x y := by
  by_cases h : nanB x = true ∨ nanB y = true
  · rw [ford_nan h, ford_nan (by rw [nanB_cn, nanB_cn]; exact h)]
  · have h1 : nanB x = false := by
      cases e : nanB x
      · rfl
      · exact (h (.inl e)).elim
    have h2 : nanB y = false := by
      cases e : nanB y
      · rfl
      · exact (h (.inr e)).elim
    rw [cn_of_not h1, cn_of_not h2]
def fcmp (op : BinOp) (x y : Nat) : Bool :=
  match op with
  | .eql => ford x y == some .eq
  | .neq => ford x y != some .eq
  | .lss => ford x y == some .lt
  | .leq => ford x y == some .lt || ford x y == some .eq
  | .gtr => ford x y == some .gt
  | _ => ford x y == some .gt || ford x y == some .eq
theorem op_fcmp {x y : Operand} {t t' : TypeId} {op : BinOp} {a b : Nat} {r : Bool} (hop : op = .eql ∨ op = .neq ∨ op = .lss ∨ op = .leq ∨ op = .gtr ∨ op = .geq) (hx : Lk Γ δ ρ x (flp a)) (hy : Lk Γ δ ρ y (flp b)) (hr : fcmp op a b = r) :
    OpOK P n ops Γ ρ δ τ ⟨some d, .binOp op t x y t', ty, pos, af, none⟩ .no (.c (isv (.bool r))) dum :=
  ok_pure fun A c _ hrd => by
    subst hr
    obtain ⟨b1, h1, h2, rfl⟩ := hrd x _ (by simp [Op.operands]) hx
    obtain ⟨b2, h3, h4, rfl⟩ := hrd y _ (by simp [Op.operands]) hy
    refine ⟨.bool (fcmp op (cn b1) (cn b2)), ?_, rfl, rfl⟩
    have hF : FloatKind.f64.format = Ieee.double := rfl
    have ho : Ieee.double.order b1 b2 = ford (cn b1) (cn b2) := by rw [ford_cn]; rfl
    rcases hop with h | h | h | h | h | h <;> subst h <;> simp [execOp, eqGuard, binOp, Op.floatCmp, h1, h3, fcmp, hF, ho]

/-! ## Conversions -/
def itT (P : Program) (T : TypeId) : Option IntKind := match P.underlying T with | some (.int k) => some k | _ => none
def f64T (P : Program) (T : TypeId) : Bool := match P.underlying T with | some (.float .f64) => true | _ => false
theorem op_conv_int {x : Operand} {S T : TypeId} {k k' : IntKind} {z z' : Int} (hS : itT P S = some k) (hT : itT P T = some k') (hx : Lk Γ δ ρ x (isv (.int k z))) (hz : k'.wrap z = z') :
    OpOK P n ops Γ ρ δ τ ⟨some d, .convert S T x, ty, pos, af, none⟩ .no (.c (isv (.int k' z'))) dum :=
  ok_pure fun A c _ hr => by
    subst hz
    have h := (hr x _ (by simp [Op.operands]) hx).1
    have hu : P.underlying S = some (.int k) := by
      unfold itT at hS; split at hS
      · rename_i h'; cases hS; exact h'
      · cases hS
    have hu' : P.underlying T = some (.int k') := by
      unfold itT at hT; split at hT
      · rename_i h'; cases hT; exact h'
      · cases hT
    exact ⟨.int k' (k'.wrap z), by simp [execOp, convert, run_underlying hu, run_underlying hu', h, Conv.intToInt], rfl, rfl⟩
theorem f64T_u {T : TypeId} (h : f64T P T = true) : P.underlying T = some (.float .f64) := by
  unfold f64T at h; split at h
  · rename_i h'; exact h'
  · cases h
theorem op_conv_float {x : Operand} {S T : TypeId} {b : Nat} (hS : f64T P S = true) (hT : f64T P T = true) (hx : Lk Γ δ ρ x (flp b)) :
    OpOK P n ops Γ ρ δ τ ⟨some d, .convert S T x, ty, pos, af, none⟩ .no (.c (flp b)) dum :=
  ok_pure fun A c _ hr => by
    obtain ⟨b1, h1, h2, rfl⟩ := hr x _ (by simp [Op.operands]) hx
    exact ⟨.float .f64 b1, by simp [execOp, convert, run_underlying (f64T_u hS), run_underlying (f64T_u hT), h1, Conv.floatToFloat], b1, rfl, h2, rfl⟩
theorem op_conv_i2f {x : Operand} {S T : TypeId} {k : IntKind} {z : Int} {r : Nat} (hS : itT P S = some k) (hT : f64T P T = true) (hx : Lk Γ δ ρ x (isv (.int k z))) (hr' : FloatKind.f64.nearest z = r) :
    OpOK P n ops Γ ρ δ τ ⟨some d, .convert S T x, ty, pos, af, none⟩ .no (.c (flp r)) dum :=
  ok_pure fun A c _ hr => by
    subst hr'
    have h := (hr x _ (by simp [Op.operands]) hx).1
    have hu : P.underlying S = some (.int k) := by
      unfold itT at hS; split at hS
      · rename_i h'; cases hS; exact h'
      · cases hS
    have hw := write_ok (d := .number (decide (z < 0)) z.natAbs 0) rfl
    refine ⟨.float .f64 (FloatKind.f64.nearest z), by simp [execOp, convert, run_underlying hu, run_underlying (f64T_u hT), h, Conv.intToFloat], _, rfl, hw.2, cn_of_not hw.1⟩

/-! ## Constants that are numbers -/
theorem Lk.fk {b : Nat} (h : Nat.blt b (2 ^ 64) = true) (hn : nanB b = false) : Lk Γ δ ρ (.const (.float .f64 b)) (flp b) := fun _ _ => ⟨b, rfl, blt_lt h, cn_of_not hn⟩

/-! ## Guards -/
theorem op_guard {op : Op} {j : Nat} {want : Bool} {acc : Acc} {p : SP} {r' : VR} {dj : Nat} {C : Prop} (hacc : acc.w = false) (hj : (ops[j]?).bind (·.dst) = some dj)
    (hy : ∃ q, getV δ ρ dj = some q ∧ ∀ f v c, FH Γ c → (q.at f).H v c → (v = .bool want ↔ C))
    (h : C → OpOK P n ops Γ ρ δ τ ⟨some d, op, ty, pos, af, none⟩ acc (.c p) r') :
    OpOK P n ops Γ ρ δ τ ⟨some d, op, ty, pos, af, some (j, want)⟩ acc (.c (whn C p)) r' := by
  intro a c ob hs hwf hf hr hres hno hown
  obtain ⟨q, hq, hqv⟩ := hy
  have hlook : dj ∈ Oper.looksAt ops ⟨some d, op, ty, pos, af, some (j, want)⟩ := by
    simp only [Oper.looksAt, hj, Option.toList_some, List.mem_append, List.mem_singleton, or_true]
  have hv := hqv _ _ c hf (hr dj hlook q hq)
  have hw : Region.wanted ⟨some d, op, ty, pos, af, some (j, want)⟩ (yielded ops a.tmps) = true ↔ C := by
    rw [← hv]
    unfold Region.wanted yielded
    simp only [hj, Option.bind_some]
    unfold vl
    rw [show a.tmps.getD dj undef = (a.tmps[dj]?).getD undef by simp [Array.getD_eq_getD_getElem?]]
    cases ht : a.tmps[dj]? with
    | none => simp [undef]
    | some u =>
      cases u <;> simp
  by_cases hC : C
  · have hm := h hC a c ob hs hwf hf (fun t ht q' hq' => hr t (by simp only [Oper.looksAt, List.append_nil] at ht ⊢; exact List.mem_append_left _ ht) q' hq') hres hno hown
    simp only [Region.wanted, if_true] at hm
    rw [if_pos (hw.2 hC)]
    refine Does.mono hm ?_
    rintro v w' ⟨c', ob', h1, h2, h3, h4⟩
    exact ⟨c', ob', h1, h2, ⟨fun _ => h3, fun hn => (hn hC).elim⟩, h4⟩
  · rw [if_neg (fun h => hC (hw.1 h))]
    exact ⟨hacc, fun h => (hC h).elim, fun _ => rfl⟩
/-- The guard's slot holds a plain bool. -/
theorem gd_b {dj : Nat} {b want : Bool} (h : getV δ ρ dj = some (.c (isv (.bool b)))) : ∃ q, getV δ ρ dj = some q ∧ ∀ f v c, FH Γ c → (q.at f).H v c → (v = .bool want ↔ b = want) :=
  ⟨_, h, fun f v c _ hv => by rw [hv.1]; simp⟩
/-- The guard's slot was itself guarded. -/
theorem gd_w {dj : Nat} {b want : Bool} {C : Prop} (h : getV δ ρ dj = some (.c (whn C (isv (.bool b))))) : ∃ q, getV δ ρ dj = some q ∧ ∀ f v c, FH Γ c → (q.at f).H v c → (v = .bool want ↔ (C ∧ b = want)) :=
  ⟨_, h, fun f v c _ hv => by
    by_cases hC : C
    · rw [(hv.1 hC).1]; simp [hC]
    · rw [hv.2 hC]; simp [hC, undef]⟩
/-- A guarded slot, where the guard is known to hold. -/
theorem Lk.w {t : Nat} {C : Prop} {p : SP} (h : getV δ ρ t = some (.c (whn C p))) (hC : C) : Lk Γ δ ρ (.tmp t) p := ⟨_, h, fun _ _ _ _ hv => hv.1 hC⟩

/-! ## Slots that name slots -/
theorem op_move_ve {t : Nat} {q : VE} (h : getV δ ρ t = some q) (hd : q.D.contains d = false) : OpOK P n ops Γ ρ δ τ ⟨some d, .move (.tmp t), ty, pos, af, none⟩ .no q dum := by
  intro a c ob hs hwf hf hr _ hno _
  simp only [Region.wanted, if_true]
  refine ⟨c, ob, rfl, Tr.refl hwf, ?_, fun h => (by cases h)⟩
  rw [q.congr (upd (vl a) (some d) _) (vl a) fun t' ht' => upd_ne _ _ _ _ (fun e => by cases e; simp at hd; exact hd ht')]
  exact hr t (List.mem_append_left _ (List.mem_filterMap.2 ⟨.tmp t, by simp [Op.operands], rfl⟩)) q h
theorem op_assign_ve {t : Nat} {q : VE} (h : getV δ ρ t = some q) (hd : q.D.contains d = false) : OpOK P n ops Γ ρ δ τ ⟨some d, .assign (.tmp t), ty, pos, af, none⟩ .no q dum := by
  intro a c ob hs hwf hf hr _ hno _
  simp only [Region.wanted, if_true]
  refine ⟨c, ob, rfl, Tr.refl hwf, ?_, fun h => (by cases h)⟩
  rw [q.congr (upd (vl a) (some d) _) (vl a) fun t' ht' => upd_ne _ _ _ _ (fun e => by cases e; simp at hd; exact hd ht')]
  exact hr t (List.mem_append_left _ (List.mem_filterMap.2 ⟨.tmp t, by simp [Op.operands], rfl⟩)) q h

end ops
end Go.Bn
