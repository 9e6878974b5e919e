/-
 The logic of walks, sixth part: binary64 with all NaNs taken for one; conversions; guards; structs and slices written out. The logic of walks, seventh part: structs and slices written out, calls, function values, a function's entry and return. The logic of walks, eighth part: typed slices and small helpers that the printed walks use. The logic of walks: slices written out empty that the function owns; slices looked at for nil; answers that are not known. The logic of walks: where two ways come together. The logic of walks: slices of elements of several cells; function values of any arguments. Plain facts on the words of binary64: fields, classes, which are finite. The logic of walks: more operations (the greater of two numbers, amounts, unequal truth values, arrays, slices without room). The logic of walks: slices without room, slices made by appending, arrays that the function owns.
-/
import Derived.Test.YtcpififnffmjfaaGreatDoorZsKa
import Derived.Lib.SliceRun
import Derived.Laws.Small
import Derived.Laws.AppendOwn
import Derived.Lib.AppendZeros
set_option linter.unusedVariables false
set_option linter.unusedSimpArgs false
namespace Go.Bn
open Go
theorem signW : Ieee.double.signWeight = 9223372036854775808 := by decide +kernel
theorem infR : Ieee.double.infRung = 9218868437227405312 := by decide +kernel
theorem binA : Ieee.double.binade = 4503599627370496 := by decide +kernel
theorem nanB_iff (b : Nat) : nanB b = decide (9218868437227405312 < b % 9223372036854775808) := by
 unfold nanB Ieee.Format.read
 simp only [signW, infR, binA]
 generalize b % 9223372036854775808 = r
 by_cases h1 : r < 4503599627370496
 ·rw [if_pos h1, decide_eq_false (by omega)]; rfl
 ·rw [if_neg h1]
  by_cases h2 : r < 9218868437227405312
  ·rw [if_pos h2, decide_eq_false (by omega)]; rfl
  ·rw [if_neg h2]
   by_cases h3 : r = 9218868437227405312
   ·rw [if_pos h3, decide_eq_false (by omega)]; rfl
   ·rw [if_neg h3, decide_eq_true (by omega)]; rfl
theorem nanB_NAN : nanB NAN = true := by rw [nanB_iff]; decide
theorem cn_of_not {b : Nat} (h : nanB b = false) : cn b = b := by simp [cn, h]
theorem cn_of_nan {b : Nat} (h : nanB b = true) : cn b = NAN := by simp [cn, h]
theorem nanB_cn (b : Nat) : nanB (cn b) = nanB b := by
 cases h : nanB b
 ·rw [cn_of_not h, h]
 ·rw [cn_of_nan h, nanB_NAN]
theorem cn_cn (b : Nat) : cn (cn b) = cn b := by
 cases h : nanB b
 ·rw [cn_of_not h, cn_of_not h]
 ·rw [cn_of_nan h]; exact cn_of_nan nanB_NAN
theorem NAN_lt : NAN < 2 ^ 64 := by decide
theorem cn_lt {b : Nat} (h : b < 2 ^ 64) : cn b < 2 ^ 64 := by
 unfold cn; split
 ·exact NAN_lt
 ·exact h
theorem word_read (neg : Bool) {r : Nat} (h : r ≤ 9218868437227405312) : nanB (Ieee.double.word neg r) = false ∧ Ieee.double.word neg r < 2 ^ 64 := by
 rw [nanB_iff]
 unfold Ieee.Format.word
 rw [signW]
 cases neg
 ·simp only [Bool.false_eq_true, if_false]
  exact ⟨decide_eq_false (by omega), by omega⟩
 ·simp only [if_true]
  exact ⟨decide_eq_false (by omega), by omega⟩
theorem write_ok {d : Ieee.Datum} (h : d.isNaN = false) : nanB (Ieee.double.write d) = false ∧ Ieee.double.write d < 2 ^ 64 := by
 cases d with
 | number neg mag place =>
  simp only [Ieee.Format.write]
  unfold Ieee.Format.nearest
  split
  ·exact word_read neg (by omega)
  ·exact word_read neg (by rw [← infR]; exact Nat.min_le_right ..)
 | infinity neg => simp only [Ieee.Format.write]; exact word_read neg (by rw [infR]; exact Nat.le_refl _)
 | nan neg fr => cases h
theorem sum_ok {x y d : Ieee.Datum} (h : x.sum y = some d) : d.isNaN = false ∧ x.isNaN = false ∧ y.isNaN = false := by
 cases x <;> cases y <;> simp only [Ieee.Datum.sum] at h <;> first
  | (cases h; done)
  | (cases h; exact ⟨rfl, rfl, rfl⟩)
  | (split at h <;> first | (cases h; done) | (cases h; exact ⟨rfl, rfl, rfl⟩))
theorem product_ok {x y d : Ieee.Datum} (h : x.product y = some d) : d.isNaN = false ∧ x.isNaN = false ∧ y.isNaN = false := by
 cases x <;> cases y <;> simp only [Ieee.Datum.product] at h <;> first
  | (cases h; done)
  | (cases h; exact ⟨rfl, rfl, rfl⟩)
  | (split at h <;> first | (cases h; done) | (cases h; exact ⟨rfl, rfl, rfl⟩))
theorem quotient_ok {n : Nat} {x y d : Ieee.Datum} (h : x.quotient n y = some d) : d.isNaN = false ∧ x.isNaN = false ∧ y.isNaN = false := by
 cases x <;> cases y <;> simp only [Ieee.Datum.quotient] at h <;> first
  | (cases h; done)
  | (cases h; exact ⟨rfl, rfl, rfl⟩)
  | (split at h <;> first | (cases h; done) | (cases h; exact ⟨rfl, rfl, rfl⟩) | (split at h <;> first | (cases h; done) | (cases h; exact ⟨rfl, rfl, rfl⟩)))
theorem opp_nan (x : Ieee.Datum) : x.opposite.isNaN = x.isNaN := by cases x <;> rfl
def fbits (op : BinOp) (x y : Nat) : Option Nat := floatBits op .f64 x y
theorem fbits_some {op : BinOp} {x y r : Nat} (h : fbits op x y = some r) : nanB r = false ∧ r < 2 ^ 64 ∧ nanB x = false ∧ nanB y = false := by
 unfold fbits floatBits at h
 have key : ∀ {o : Option Ieee.Datum}, o.map Ieee.double.write = some r → (∀ d, o = some d → d.isNaN = false ∧ (Ieee.double.read x).isNaN = false ∧ (Ieee.double.read y).isNaN = false) → nanB r = false ∧ r < 2 ^ 64 ∧ nanB x = false ∧ nanB y = false := by
  intro o ho hd
  cases o with
  | none => cases ho
  | some d =>
   cases ho
   obtain ⟨g1, g2, g3⟩ := hd d rfl
   exact ⟨(write_ok g1).1, (write_ok g1).2, g2, g3⟩
 cases op <;> simp only at h <;> first | (cases h; done) | skip
 ·exact key h fun d hd => sum_ok hd
 ·exact key h fun d hd => by have := sum_ok hd; rw [opp_nan] at this; exact this
 ·exact key h fun d hd => product_ok hd
 ·exact key h fun d hd => quotient_ok hd
theorem fbits_cn {op : BinOp} {x y : Nat} : fop (fbits op (cn x) (cn y)) = match fbits op x y with | some r => r | none => NAN := by
 cases h : fbits op x y with
 | some r =>
  obtain ⟨_, _, h1, h2⟩ := fbits_some h
  rw [cn_of_not h1, cn_of_not h2, h]; rfl
 | none =>
  cases h' : fbits op (cn x) (cn y) with
  | none => rfl
  | some r =>
   obtain ⟨_, _, h1, h2⟩ := fbits_some h'
   rw [nanB_cn] at h1 h2
   rw [cn_of_not h1, cn_of_not h2, h] at h'
   cases h'
theorem nan_drawn (q : FloatKind → Nat → Nat → Question) (hq : q = .nanBits ∨ (∃ b, q = fun k x y => .nanMinMax k b x y)) (x y t : Nat) : nanB ((q .f64 x y).cut t) = true ∧ (q .f64 x y).cut t < 2 ^ 64 := by
 have e : (q .f64 x y).cut t = (t % 2) * 2 ^ 63 + 0x7ff0000000000000 + 1 + (t / 2) % (2 ^ 52 - 1) := by
  rcases hq with h | ⟨b, h⟩ <;> subst h <;> rfl
 rw [e, nanB_iff]
 have h1 : t % 2 < 2 := Nat.mod_lt _ (by omega)
 have h2 : (t / 2) % (2 ^ 52 - 1) < 2 ^ 52 - 1 := Nat.mod_lt _ (by decide)
 generalize t % 2 = u at *
 generalize (t / 2) % (2 ^ 52 - 1) = w at *
 have h3 : u = 0 ∨ u = 1 := by omega
 rcases h3 with rfl | rfl <;> exact ⟨decide_eq_true (by omega), by omega⟩
section ops
variable {P : Program} {n : Nat} {ops : Array Oper} {Γ : Facts} {ρ : Env} {δ : VEnv} {τ : List VR}
variable {d : Nat} {ty : TypeId} {pos : String} {af : Array Edge}
theorem ok_draw {op : Op} {p : SP}
  (h : ∀ (a : Act) (c : EW), FH Γ c → (∀ x q, x ∈ op.operands → Lk Γ δ ρ x q → q.H (a.eval x) c) → ∃ v m, (execOp a.eval ⟨some d, op, ty, pos, af, none⟩).run P c.w = .ok (.value v) { c.w with drawn := m } ∧ ∀ c', p.H v c') :
  OpOK P n ops Γ ρ δ τ ⟨some d, op, ty, pos, af, none⟩ .no (.c p) dum := by
 intro a c ob hs hwf hf hr _ hno _
 obtain ⟨v, m, hv, hp⟩ := h a c hf (fun x q hx hq => Lk.val (o := ⟨some d, op, ty, pos, af, none⟩) hr hf hx hq)
 simp only [Region.wanted, if_true]
 unfold Does
 rw [hv]
 exact ⟨⟨{ c.w with drawn := m }, c.M⟩, ob, rfl, ⟨rfl, rfl, rfl, Nat.le_refl _, fun _ _ _ => rfl, fun _ _ => ⟨id, .inl⟩, .inl rfl, hwf⟩, hp _, fun h => (by cases h)⟩
theorem op_float {x y : Operand} {t t' : TypeId} {op : BinOp} {a b r : Nat} (hop : op = .add ∨ op = .sub ∨ op = .mul ∨ op = .quo) (hx : Lk Γ δ ρ x (flp a)) (hy : Lk Γ δ ρ y (flp b)) (hr : fop (fbits op a b) = r) :
  OpOK P n ops Γ ρ δ τ ⟨some d, .binOp op t x y t', ty, pos, af, none⟩ .no (.c (flp r)) dum :=
 ok_draw fun A c _ hrd => by
  subst hr
  obtain ⟨b1, h1, h2, rfl⟩ := hrd x _ (by simp [Op.operands]) hx
  obtain ⟨b2, h3, h4, rfl⟩ := hrd y _ (by simp [Op.operands]) hy
  rw [fbits_cn]
  cases hf : fbits op b1 b2 with
  | some r =>
   have hrun := run_float_arith (P := P) c.w op t .f64 b1 b2 r hf
   obtain ⟨g1, g2, _⟩ := fbits_some hf
   refine ⟨.float .f64 r, c.w.drawn, ?_, fun _ => ⟨r, rfl, g2, cn_of_not g1⟩⟩
   rcases hop with h | h | h | h <;> subst h <;> simp [execOp, eqGuard, h1, h3, hrun]
  | none =>
   refine ⟨.float .f64 ((Question.nanBits .f64 b1 b2).cut (c.w.tape c.w.drawn (.nanBits .f64 b1 b2))), c.w.drawn + 1, ?_, fun _ => ⟨_, rfl, (nan_drawn .nanBits (.inl rfl) b1 b2 _).2, cn_of_nan (nan_drawn .nanBits (.inl rfl) b1 b2 _).1⟩⟩
   have hF : FloatKind.f64.format = Ieee.double := rfl
   rcases hop with h | h | h | h <;> subst h <;> simp only [fbits, floatBits, hF] at hf <;> simp [execOp, eqGuard, h1, h3, binOp, Op.floatArith, hF, hf, choose, Sem.run, Question.forced]
def ford (x y : Nat) : Option Ordering := Ieee.double.order x y
theorem ford_nan {x y : Nat} (h : nanB x = true ∨ nanB y = true) : ford x y = none := by
 unfold ford Ieee.Format.order
 unfold nanB at h
 cases hx : Ieee.double.read x <;> cases hy : Ieee.double.read y <;> rw [hx, hy] at h <;> simp [Ieee.Datum.isNaN] at h <;> rfl
theorem ford_cn (x y : Nat) : ford (cn x) (cn y) = ford x y := by
 by_cases h : nanB x = true ∨ nanB y = true
 ·rw [ford_nan h, ford_nan (by rw [nanB_cn, nanB_cn]; exact h)]
 ·have h1 : nanB x = false := by
   cases e : nanB x
   ·rfl
   ·exact (h (.inl e)).elim
  have h2 : nanB y = false := by
   cases e : nanB y
   ·rfl
   ·exact (h (.inr e)).elim
  rw [cn_of_not h1, cn_of_not h2]
def fcmp (op : BinOp) (x y : Nat) : Bool :=
 match op with
 | .eql => ford x y == some .eq
 | .neq => ford x y != some .eq
 | .lss => ford x y == some .lt
 | .leq => ford x y == some .lt || ford x y == some .eq
 | .gtr => ford x y == some .gt
 | _ => ford x y == some .gt || ford x y == some .eq
theorem op_fcmp {x y : Operand} {t t' : TypeId} {op : BinOp} {a b : Nat} {r : Bool} (hop : op = .eql ∨ op = .neq ∨ op = .lss ∨ op = .leq ∨ op = .gtr ∨ op = .geq) (hx : Lk Γ δ ρ x (flp a)) (hy : Lk Γ δ ρ y (flp b)) (hr : fcmp op a b = r) :
  OpOK P n ops Γ ρ δ τ ⟨some d, .binOp op t x y t', ty, pos, af, none⟩ .no (.c (isv (.bool r))) dum :=
 ok_pure fun A c _ hrd => by
  subst hr
  obtain ⟨b1, h1, h2, rfl⟩ := hrd x _ (by simp [Op.operands]) hx
  obtain ⟨b2, h3, h4, rfl⟩ := hrd y _ (by simp [Op.operands]) hy
  refine ⟨.bool (fcmp op (cn b1) (cn b2)), ?_, rfl, rfl⟩
  have hF : FloatKind.f64.format = Ieee.double := rfl
  have ho : Ieee.double.order b1 b2 = ford (cn b1) (cn b2) := by rw [ford_cn]; rfl
  rcases hop with h | h | h | h | h | h <;> subst h <;> simp [execOp, eqGuard, binOp, Op.floatCmp, h1, h3, fcmp, hF, ho]
def itT (P : Program) (T : TypeId) : Option IntKind := match P.underlying T with | some (.int k) => some k | _ => none
theorem op_conv_int {x : Operand} {S T : TypeId} {k k' : IntKind} {z z' : Int} (hS : itT P S = some k) (hT : itT P T = some k') (hx : Lk Γ δ ρ x (isv (.int k z))) (hz : k'.wrap z = z') :
  OpOK P n ops Γ ρ δ τ ⟨some d, .convert S T x, ty, pos, af, none⟩ .no (.c (isv (.int k' z'))) dum :=
 ok_pure fun A c _ hr => by
  subst hz
  have h := (hr x _ (by simp [Op.operands]) hx).1
  have hu : P.underlying S = some (.int k) := by
   unfold itT at hS; split at hS
   ·rename_i h'; cases hS; exact h'
   ·cases hS
  have hu' : P.underlying T = some (.int k') := by
   unfold itT at hT; split at hT
   ·rename_i h'; cases hT; exact h'
   ·cases hT
  exact ⟨.int k' (k'.wrap z), by simp [execOp, convert, run_underlying hu, run_underlying hu', h, Conv.intToInt], rfl, rfl⟩
theorem Lk.fk {b : Nat} (h : Nat.blt b (2 ^ 64) = true) (hn : nanB b = false) : Lk Γ δ ρ (.const (.float .f64 b)) (flp b) := fun _ _ => ⟨b, rfl, blt_lt h, cn_of_not hn⟩
theorem op_guard {op : Op} {j : Nat} {want : Bool} {acc : Acc} {p : SP} {r' : VR} {dj : Nat} {C : Prop} (hacc : acc.w = false) (hj : (ops[j]?).bind (·.dst) = some dj)
  (hy : ∃ q, getV δ ρ dj = some q ∧ ∀ f v c, FH Γ c → (q.at f).H v c → (v = .bool want ↔ C))
  (h : C → OpOK P n ops Γ ρ δ τ ⟨some d, op, ty, pos, af, none⟩ acc (.c p) r') :
  OpOK P n ops Γ ρ δ τ ⟨some d, op, ty, pos, af, some (j, want)⟩ acc (.c (whn C p)) r' := by
 intro a c ob hs hwf hf hr hres hno hown
 obtain ⟨q, hq, hqv⟩ := hy
 have hlook : dj ∈ Oper.looksAt ops ⟨some d, op, ty, pos, af, some (j, want)⟩ := by
  simp only [Oper.looksAt, hj, Option.toList_some, List.mem_append, List.mem_singleton, or_true]
 have hv := hqv _ _ c hf (hr dj hlook q hq)
 have hw : Region.wanted ⟨some d, op, ty, pos, af, some (j, want)⟩ (yielded ops a.tmps) = true ↔ C := by
  rw [← hv]
  unfold Region.wanted yielded
  simp only [hj, Option.bind_some]
  unfold vl
  rw [show a.tmps.getD dj undef = (a.tmps[dj]?).getD undef by simp [Array.getD_eq_getD_getElem?]]
  cases ht : a.tmps[dj]? with
  | none => simp [undef]
  | some u =>
   cases u <;> simp
 by_cases hC : C
 ·have hm := h hC a c ob hs hwf hf (fun t ht q' hq' => hr t (by simp only [Oper.looksAt, List.append_nil] at ht ⊢; exact List.mem_append_left _ ht) q' hq') hres hno hown
  simp only [Region.wanted, if_true] at hm
  rw [if_pos (hw.2 hC)]
  refine Does.mono hm ?_
  rintro v w' ⟨c', ob', h1, h2, h3, h4⟩
  exact ⟨c', ob', h1, h2, ⟨fun _ => h3, fun hn => (hn hC).elim⟩, h4⟩
 ·rw [if_neg (fun h => hC (hw.1 h))]
  exact ⟨hacc, fun h => (hC h).elim, fun _ => rfl⟩
theorem gd_b {dj : Nat} {b want : Bool} (h : getV δ ρ dj = some (.c (isv (.bool b)))) : ∃ q, getV δ ρ dj = some q ∧ ∀ f v c, FH Γ c → (q.at f).H v c → (v = .bool want ↔ b = want) :=
 ⟨_, h, fun f v c _ hv => by rw [hv.1]; simp⟩
theorem gd_w {dj : Nat} {b want : Bool} {C : Prop} (h : getV δ ρ dj = some (.c (whn C (isv (.bool b))))) : ∃ q, getV δ ρ dj = some q ∧ ∀ f v c, FH Γ c → (q.at f).H v c → (v = .bool want ↔ (C ∧ b = want)) :=
 ⟨_, h, fun f v c _ hv => by
  by_cases hC : C
  ·rw [(hv.1 hC).1]; simp [hC]
  ·rw [hv.2 hC]; simp [hC, undef]⟩
theorem Lk.w {t : Nat} {C : Prop} {p : SP} (h : getV δ ρ t = some (.c (whn C p))) (hC : C) : Lk Γ δ ρ (.tmp t) p := ⟨_, h, fun _ _ _ _ hv => hv.1 hC⟩
theorem op_assign_ve {t : Nat} {q : VE} (h : getV δ ρ t = some q) (hd : q.D.contains d = false) : OpOK P n ops Γ ρ δ τ ⟨some d, .assign (.tmp t), ty, pos, af, none⟩ .no q dum := by
 intro a c ob hs hwf hf hr _ hno _
 simp only [Region.wanted, if_true]
 refine ⟨c, ob, rfl, Tr.refl hwf, ?_, fun h => (by cases h)⟩
 rw [q.congr (upd (vl a) (some d) _) (vl a) fun t' ht' => upd_ne _ _ _ _ (fun e => by cases e; simp at hd; exact hd ht')]
 exact hr t (List.mem_append_left _ (List.mem_filterMap.2 ⟨.tmp t, by simp [Op.operands], rfl⟩)) q h
end ops
end Go.Bn
namespace Go.Bn
open Go
def plT (P : Program) (T : TypeId) : Option (List (Nat × Nat)) := match P.underlying T with
 | some (.struct fs) => go fs.toList
 | _ => none
where go : List Field → Option (List (Nat × Nat))
 | [] => some []
 | f :: l => match P.info? f.type, go l with
  | some i, some r => some ((f.offset, i.size) :: r)
  | _, _ => none
theorem fill_foldl : ∀ (vs : List Value) (off k : Nat) (cs : Array Value), off + k + vs.length ≤ cs.size →
  ∀ i, ((vs.zipIdx k).foldl (fun cs (x : Value × Nat) => cs.setIfInBounds (off + x.2) x.1) cs)[i]? = if off + k ≤ i ∧ i < off + k + vs.length then vs[i - (off + k)]? else cs[i]?
 | [], off, k, cs, _, i => by simp; intro h1 h2; omega
 | v :: vs, off, k, cs, hl, i => by
  simp only [List.zipIdx_cons, List.foldl_cons]
  simp only [List.length_cons] at hl
  rw [fill_foldl vs off (k + 1) (cs.setIfInBounds (off + k) v) (by simp; omega) i]
  simp only [List.length_cons]
  by_cases h1 : off + (k + 1) ≤ i ∧ i < off + (k + 1) + vs.length
  ·rw [if_pos h1, if_pos (by omega)]
   have e : i - (off + k) = (i - (off + (k + 1))) + 1 := by omega
   rw [e, List.getElem?_cons_succ]
  ·rw [if_neg h1]
   by_cases h2 : i = off + k
   ·subst h2
    have hlt : off + k < cs.size := by omega
    rw [if_pos (by omega)]
    simp [hlt]
   ·rw [if_neg (by omega)]
    simp [Array.getElem?_setIfInBounds, Ne.symm h2]
theorem fill_foldl_size : ∀ (vs : List (Value × Nat)) (off : Nat) (cs : Array Value), (vs.foldl (fun cs (x : Value × Nat) => cs.setIfInBounds (off + x.2) x.1) cs).size = cs.size
 | [], _, _ => rfl
 | v :: vs, off, cs => by simp only [List.foldl_cons]; rw [fill_foldl_size vs off]; simp
section ops
variable {P : Program} {n : Nat} {ops : Array Oper} {Γ : Facts} {ρ : Env} {δ : VEnv} {τ : List VR}
variable {d : Nat} {ty : TypeId} {pos : String} {af : Array Edge}
inductive BuildL (Γ : Facts) (δ : VEnv) (ρ : Env) (place : Nat → Option (Nat × Nat)) : List (Nat × Operand) → List SP → List SP → Prop where
 | nil {cs : List SP} : BuildL Γ δ ρ place [] cs cs
 | cons {i : Nat} {x : Operand} {rest : List (Nat × Operand)} {off size : Nat} {p : SP} {l cs cs1 out : List SP} (h1 : place i = some (off, size)) (h2 : Lk Γ δ ρ x p) (h3 : CellsOf p l) (h4 : Nat.beq l.length size = true) (h5 : Puts off l cs cs1)
   (hr : BuildL Γ δ ρ place rest cs1 out) : BuildL Γ δ ρ place ((i, x) :: rest) cs out
theorem BuildL.run {place : Nat → Option (Nat × Nat)} {parts : List (Nat × Operand)} {cs out : List SP} (h : BuildL Γ δ ρ place parts cs out) {a : Act} {c : EW}
  (hr : ∀ x p, x ∈ parts.map (·.2) → Lk Γ δ ρ x p → p.H (a.eval x) c) : ∀ cells : Array Value, cells.size = cs.length → CL cs cells 0 c →
  ∃ cells', Instr.fill place cells (parts.map fun x => (x.1, a.eval x.2)) = some cells' ∧ cells'.size = out.length ∧ CL out cells' 0 c := by
 induction h with
 | nil => exact fun cells h1 h2 => ⟨cells, rfl, h1, h2⟩
 | @cons i x rest off size p l cs cs1 out h1 h2 h3 h4 h5 hrest ih =>
  intro cells hsz hcl
  have hv := hr x p (by simp) h2
  obtain ⟨g1, g2⟩ := h3 _ c hv
  have h4' := Nat.eq_of_beq_eq_true h4
  obtain ⟨q1, q2, q3⟩ := h5
  let cells1 := (a.eval x).cells.zipIdx.foldl (fun cs (x : Value × Nat) => cs.setIfInBounds (off + x.2) x.1) cells
  have e1 : cells1 = ((a.eval x).cells.toList.zipIdx 0).foldl (fun cs (x : Value × Nat) => cs.setIfInBounds (off + x.2) x.1) cells := by
   show (a.eval x).cells.zipIdx.foldl _ cells = _
   rw [← Array.foldl_toList]
   simp
  have hs1 : cells1.size = cs1.length := by rw [e1, fill_foldl_size, hsz, q1]
  have hc1 : CL cs1 cells1 0 c := fun j q hj => by
   rw [q3 j] at hj
   rw [Nat.zero_add, e1, fill_foldl _ off 0 cells (by simp [g1]; omega) j]
   simp only [Nat.add_zero, Array.length_toList, g1]
   by_cases hj1 : off ≤ j ∧ j < off + l.length
   ·rw [if_pos hj1] at hj ⊢
    have := g2 (j - off) q hj
    simpa using this
   ·rw [if_neg hj1] at hj ⊢
    have := hcl j q hj
    simpa using this
  obtain ⟨cells', r1, r2, r3⟩ := ih (fun x' p' hx' => hr x' p' (by simp only [List.map_cons, List.mem_cons]; exact .inr hx')) cells1 hs1 hc1
  refine ⟨cells', ?_, r2, r3⟩
  simp only [List.map_cons, Instr.fill, h1]
  rw [if_neg (by simp [g1, h4', hsz]; omega)]
  exact r1
theorem run_places : ∀ (fs : List Field) (pl : List (Nat × Nat)) (w : World), plT.go P fs = some pl → (fs.mapM (fun f : Field => (do pure (f.offset, ← sizeOf f.type) : Sem (Nat × Nat)))).run P w = .ok pl w
 | [], pl, w, h => by simp only [plT.go, Option.some.injEq] at h; subst h; rfl
 | f :: fs, pl, w, h => by
  simp only [plT.go] at h
  split at h
  ·rename_i i r hi hr
   cases h
   have ih := run_places fs r w hr
   rw [List.mapM_cons]
   have hs : (sizeOf f.type).run P w = .ok i.size w := by simp [sizeOf, typeInfo, hi]
   simp only [Sem.run_bind, hs, Result.andThen_ok, Sem.run_pure, ih]
  ·cases h
theorem zCL {zs : List Value} (h1 : zs.all (·.oneCell') = true) {c : EW} : CL (zs.map isv) zs.toArray 0 c := fun i p hp => by
 rw [nth_eq, List.getElem?_map] at hp
 cases hu : zs[i]? with
 | none => rw [hu] at hp; cases hp
 | some u =>
  rw [hu] at hp
  cases hp
  have h1u : u.oneCell' = true := (List.all_eq_true.1 h1) u (List.mem_of_getElem? hu)
  exact ⟨u, by simpa using hu, h1u, rfl, h1u⟩
theorem op_build {T : TypeId} {parts : List (Nat × Operand)} {zs : List Value} {pl : List (Nat × Nat)} {out : List SP} (hz : zrT P T = some zs) (h1 : zs.all (·.oneCell') = true) (hp : plT P T = some pl) (hb : BuildL Γ δ ρ (nth pl) parts (zs.map isv) out) :
  OpOK P n ops Γ ρ δ τ ⟨some d, .build T parts.toArray, ty, pos, af, none⟩ .no (.c (aggp out)) dum :=
 ok_pure fun a c _ hr => by
  unfold zrT at hz
  unfold plT at hp
  cases hi : P.info? T with
  | none => rw [hi] at hz; cases hz
  | some i =>
   rw [hi] at hz
   simp only [Option.bind_some] at hz
   cases hzz : i.zero with
   | none => rw [hzz] at hz; cases hz
   | some z =>
    rw [hzz] at hz
    simp only [Option.map_some, Option.some.injEq] at hz
    cases hu : P.underlying T with
    | none => rw [hu] at hp; cases hp
    | some D =>
     rw [hu] at hp
     cases D <;> first | (cases hp; done) | skip
     rename_i fs
     simp only at hp
     have hza : z.cells = zs.toArray := by rw [← hz]
     obtain ⟨cells', q1, q2, q3⟩ := hb.run (a := a) (c := c) (fun x p hx hp' => hr x p (by simpa [Op.operands] using hx) hp') z.cells (by rw [hza]; simp) (by rw [hza]; exact zCL h1)
     refine ⟨.agg cells', ?_, cells', rfl, q2, q3⟩
     have hm : (fs.mapM (fun f : Field => (do pure (f.offset, ← sizeOf f.type) : Sem (Nat × Nat)))).run P c.w = .ok pl.toArray c.w := by
      rw [Array.mapM_eq_mapM_toList]
      simp only [Sem.run_map, run_places fs.toList pl c.w hp, Result.andThen_ok]
     have hf : Instr.fill (pl.toArray[·]?) z.cells (parts.map fun x => (x.1, a.eval x.2)) = some cells' := by
      rw [← q1]
      congr 1
      funext j
      simp [nth_eq]
     simp only [execOp, Instr.build, zeroValue, typeInfo, Sem.run_bind, program, Sem.run, hi, hzz, Result.andThen_ok, Sem.run_pure, run_underlying hu, hm, List.map_toArray, hf]
theorem ok_newslice {op : Op} {T m kk : Nat} {cells : List SP} (hlen : cells.length = m * kk)
  (h : ∀ (a : Act) (c : EW), FH Γ c → (∀ x q, x ∈ op.operands → Lk Γ δ ρ x q → q.H (a.eval x) c) → ∃ cap cur, (execOp a.eval ⟨some d, op, ty, pos, af, none⟩).run P c.w = .ok (.value (.slice (some ⟨c.w.heap.size, 0, none⟩) m cap)) (c.w.alloc (.cells cur T)) ∧ m ≤ cap ∧ cap ≤ maxLen ∧ CL cells cur 0 c) :
  OpOK P n ops Γ ρ δ τ ⟨some d, op, ty, pos, af, none⟩ .no (.c (slc m kk cells)) dum := by
 intro a c ob hs hwf hf hr hres hno hown
 have hob := hno rfl
 subst hob
 obtain ⟨cap, cur, hex, h1, h2, h4⟩ := h a c hf (fun x q hx hq => Lk.val (o := ⟨some d, op, ty, pos, af, none⟩) hr hf hx hq)
 simp only [Region.wanted, if_true]
 unfold Does
 rw [hex]
 have e : (c.w.alloc (.cells cur T)).heap.size = c.w.heap.size + 1 := by simp
 have htr : Tr c nob false ⟨c.w.alloc (.cells cur T), c.M⟩ nob :=
  ⟨rfl, rfl, rfl, by simp, fun j hj _ => heap_alloc_old c.w _ j hj, fun j hj => ⟨id, .inl⟩, .inl rfl, fun j hj => by
   show j < (c.w.alloc (.cells cur T)).heap.size
   rw [e]
   have := hwf j hj; omega⟩
 refine ⟨_, nob, rfl, htr, ⟨hlen, .inr ⟨⟨c.w.heap.size, 0, none⟩, cap, rfl, h1, h2, .inr ⟨c.w.heap.size, 0, rfl, fun hm => ?_, cur, T, (0, 0), heap_alloc_new c.w _, h4.st (htr.le (fun _ h => by cases h))⟩⟩⟩, fun h => (by cases h)⟩
 have := hwf _ hm
 omega
theorem op_buildSlice {T E es eb len : Nat} {parts : List (Nat × Operand)} {zs : List Value} {out : List SP} (ht : slT P T = some (E, es, eb)) (hz : zrT P E = some zs) (hz1 : zs.all (·.oneCell') = true) (hzl : Nat.beq zs.length es = true) (hes : Nat.blt 0 es = true) (hlim : Nat.ble (len * es) 16777216 = true)
  (hb : BuildL Γ δ ρ (fun i => some (i * es, es)) parts (List.replicate len (zs.map isv)).flatten out) :
  OpOK P n ops Γ ρ δ τ ⟨some d, .buildSlice T len parts.toArray, ty, pos, af, none⟩ .no (.c (slc len es out)) dum := by
 have hzl' : zs.length = es := Nat.eq_of_beq_eq_true hzl
 have hes' := blt_lt hes
 have hlim' : len * es ≤ 16777216 := Nat.le_of_ble_eq_true hlim
 have hlen0 : ((List.replicate len (zs.map isv)).flatten).length = len * es := by simp [hzl']
 have hlo : out.length = len * es := by
  have : ∀ {parts : List (Nat × Operand)} {cs out : List SP}, BuildL Γ δ ρ (fun i => some (i * es, es)) parts cs out → out.length = cs.length := by
   intro parts cs out h
   induction h with
   | nil => rfl
   | cons h1 h2 h3 h4 h5 hr ih => rw [ih, h5.1]
  rw [this hb, hlen0]
 refine ok_newslice (T := E) hlo fun a c _ hr => ?_
 obtain ⟨hu, i, hi, hsz, _⟩ := slT_u ht
 unfold zrT at hz
 rw [hi] at hz
 simp only [Option.bind_some] at hz
 cases hzz : i.zero with
 | none => rw [hzz] at hz; cases hz
 | some z =>
  rw [hzz] at hz
  simp only [Option.map_some, Option.some.injEq] at hz
  have hza : z.cells = zs.toArray := by rw [← hz]
  have hzsz : z.cells.size = es := by rw [hza]; simpa using hzl'
  have hcl : CL (List.replicate len (zs.map isv)).flatten (madeCells z.cells (len * es)) 0 c := fun j p hj => by
   have hjl := nth_lt hj
   rw [hlen0] at hjl
   have hmod : j % es < es := Nat.mod_lt _ hes'
   have hp : nth (List.replicate len (zs.map isv)).flatten j = (nth zs (j % es)).map isv := by
    rw [nth_eq, nth_eq]
    have key : ∀ (m : Nat) (j : Nat), j < m * es → ((List.replicate m (zs.map isv)).flatten)[j]? = (zs[j % es]?).map isv := by
     intro m
     induction m with
     | zero => intro j hj; omega
     | succ m ih =>
      intro j hj
      rw [List.replicate_succ, List.flatten_cons]
      by_cases hjs : j < es
      ·rw [List.getElem?_append_left (by simp [hzl']; exact hjs), List.getElem?_map, Nat.mod_eq_of_lt hjs]
      ·rw [List.getElem?_append_right (by simp [hzl']; omega)]
       simp only [List.length_map, hzl']
       rw [ih (j - es) (by rw [Nat.succ_mul] at hj; omega), ← Nat.mod_eq_sub_mod (by omega)]
    exact key len j hjl
   rw [hp] at hj
   cases hzv : nth zs (j % es) with
   | none => rw [hzv] at hj; cases hj
   | some zv =>
    rw [hzv] at hj
    cases hj
    have hone : zv.oneCell' = true := (List.all_eq_true.1 hz1) zv (by rw [nth_eq] at hzv; exact List.mem_of_getElem? hzv)
    refine ⟨zv, ?_, hone, rfl, hone⟩
    rw [Nat.zero_add]
    simp only [madeCells, Array.getElem?_map, hzsz]
    rw [Array.getElem?_eq_getElem (by simpa using hjl)]
    simp only [Array.getElem_range, Option.map_some, Option.some.injEq]
    rw [nth_eq] at hzv
    rw [getElem!_def, hza]
    simp [hzv]
  obtain ⟨cells', q1, q2, q3⟩ := hb.run (a := a) (c := c) (fun x p hx hp' => hr x p (by simpa [Op.operands] using hx) hp') (madeCells z.cells (len * es)) (by rw [size_madeCells, hlen0]) hcl
  refine ⟨len, cells', ?_, Nat.le_refl _, ?_, q3⟩
  ·have h24 : ¬ (16777216 < len * es) := by omega
   by_cases hl0 : len * es = 0
   ·have hempty : madeCells z.cells (len * es) = #[] := by rw [hl0]; simp [madeCells]
    rw [hempty] at q1
    simp [execOp, Instr.buildSlice, run_underlying hu, sizeOf, typeInfo, hi, hsz, hl0, newRow, Array.range_zero', q1]
   ·unfold madeCells at q1
    simp [execOp, Instr.buildSlice, run_underlying hu, sizeOf, typeInfo, hi, hsz, hl0, h24, zeroValue, hzz, newRow, q1]
  ·have h1 : len ≤ len * es := Nat.le_mul_of_pos_right _ hes'
   simp only [maxLen]; omega
structure Xt (c : EW) (w' : World) : Prop where
 os : w'.os = c.w.os
 tape : w'.tape = c.w.tape
 out : w'.output = c.w.output
 size : c.w.heap.size ≤ w'.heap.size
 heap : ∀ k, k < c.w.heap.size → w'.heap[k]? = c.w.heap[k]?
theorem Xt.tr {c : EW} {w' : World} (h : Xt c w') (hwf : ∀ k, c.M k → k < c.w.heap.size) (ob : Bs) : Tr c ob false ⟨w', c.M⟩ ob :=
 ⟨h.os, h.tape, h.out, h.size, fun k hk _ => h.heap k hk, fun _ _ => ⟨id, .inl⟩, .inl rfl, fun k hk => Nat.lt_of_lt_of_le (hwf k hk) h.size⟩
def Has (P : Program) (f : Nat) : Prop := ∃ fn, P.funcs[f]? = some fn ∧ (fn.name == "runtime.NumGoroutine") = false ∧ fn.body.isNone = false
def Ct (P : Program) (f : Nat) (ps : List SP) (R : SP) : Prop :=
 Has P f ∧ ∀ (vs : List Value) (c : EW), (∀ k, c.M k → k < c.w.heap.size) → FG c ∧ HL ps vs c → Calls P f vs.toArray c.w (fun e w' => ∃ v, e = .returned v ∧ Xt c w' ∧ R.H v ⟨w', c.M⟩)
theorem run_callFunc {f : Nat} (h : Has P f) (args : Array Value) (w : World) : (callFunc f args).run P w = .ok (.enter f args) w := by
 obtain ⟨fn, h1, h2, h3⟩ := h
 have h2' : ¬ fn.name = "runtime.NumGoroutine" := by simpa using h2
 have h3' : ¬ fn.body = none := fun e => by rw [e] at h3; cases h3
 simp [callFunc, program, Sem.run, h1, h2', h3']
def LkL (Γ : Facts) (δ : VEnv) (ρ : Env) : List Operand → List SP → Prop
 | [], [] => True
 | x :: xs, p :: ps => Lk Γ δ ρ x p ∧ LkL Γ δ ρ xs ps
 | _, _ => False
theorem LkL.val {a : Act} {c : EW} : ∀ {xs : List Operand} {ps : List SP}, LkL Γ δ ρ xs ps → (∀ x q, x ∈ xs → Lk Γ δ ρ x q → q.H (a.eval x) c) → HL ps (xs.map a.eval) c
 | [], [], _, _ => trivial
 | x :: xs, p :: ps, h, hr => ⟨hr x p (by simp) h.1, LkL.val h.2 fun x' q hx' => hr x' q (by simp [hx'])⟩
 | [], _ :: _, h, _ => h.elim
 | _ :: _, [], h, _ => h.elim
theorem zP {f : Nat} {xs : List Operand} {ps : List SP} {R : SP} {ats : Array TypeId} (hf : Ct P f ps R) (hx : LkL Γ δ ρ xs ps) :
  OpOK P n ops Γ ρ δ τ ⟨some d, .call ⟨.value (.func f), xs.toArray, ats⟩, ty, pos, af, none⟩ .no (.c R) dum := by
 intro a c ob hs hwf hfa hr hres hno hown
 have hob := hno rfl
 subst hob
 have hv := hx.val (a := a) (c := c) fun x q hx' hq => Lk.val (o := ⟨some d, .call ⟨.value (.func f), xs.toArray, ats⟩, ty, pos, af, none⟩) hr hfa (by simp [Op.operands, Call.operands, hx']) hq
 simp only [Region.wanted, if_true]
 unfold Does
 have hex : (execOp a.eval ⟨some d, .call ⟨.value (.func f), xs.toArray, ats⟩, ty, pos, af, none⟩).run P c.w = .ok (.enter f (xs.map a.eval).toArray) c.w := by
  have h1 := run_callFunc hf.1 (xs.map a.eval).toArray c.w
  simp [execOp, resolve, Deferred.ofValue, Act.eval, invoke, h1]
 rw [hex]
 refine (hf.2 _ c hwf ⟨hfa.2, hv⟩).mono fun e w' ⟨v, he, hxt, hR⟩ => ⟨v, he, ⟨w', c.M⟩, nob, rfl, hxt.tr hwf nob, hR, fun h => (by cases h)⟩
def Ext (P : Program) (f : Nat) (g : Array Value → Sem Value) : Prop := ∃ fn, P.funcs[f]? = some fn ∧ (fn.name == "runtime.NumGoroutine") = false ∧ fn.body.isNone = true ∧ (Extern.findNext fn).isNone = true ∧ Extern.find fn = some g
theorem run_ext {f : Nat} {g : Array Value → Sem Value} (h : Ext P f g) (args : Array Value) (w : World) {v : Value} {w' : World} (hg : (g args).run P w = .ok v w') : (callFunc f args).run P w = .ok (.value v) w' := by
 obtain ⟨fn, h1, h2, h3, h4, h5⟩ := h
 have h4' : Extern.findNext fn = none := by simpa using h4
 have h2' : ¬ fn.name = "runtime.NumGoroutine" := by simpa using h2
 have h3' : fn.body = none := by simpa using h3
 simp [callFunc, program, mark, Sem.run, h1, h2', h3', h4', h5, hg]
theorem op_ext {f : Nat} {g : Array Value → Sem Value} {x : Operand} {p q : SP} {ats : Array TypeId} (hf : Ext P f g) (hx : Lk Γ δ ρ x p) (h : ∀ (v : Value) (c : EW), p.H v c → ∃ u m, (g #[v]).run P c.w = .ok u { c.w with drawn := m } ∧ ∀ c', q.H u c') :
  OpOK P n ops Γ ρ δ τ ⟨some d, .call ⟨.value (.func f), #[x], ats⟩, ty, pos, af, none⟩ .no (.c q) dum :=
 ok_draw fun a c _ hr => by
  obtain ⟨u, m, h1, h2⟩ := h _ c (hr x _ (by simp [Op.operands, Call.operands]) hx)
  refine ⟨u, m, ?_, h2⟩
  have h3 := run_ext hf #[a.eval x] c.w h1
  have h4 : a.eval (.func f) = .func (.func f) #[] #[] := rfl
  simp [execOp, resolve, Deferred.ofValue, h4, invoke, h3]
theorem op_store_sl {x : Operand} {s T : Nat} {base : Value} {off : Nat} (k : Nat) {cells : List SP} {U : Nat} (hx : Lk Γ δ ρ x (ipo base off)) (hy : getV δ ρ s = some (slAt s)) (hT : szT P T = some 1) (hk : nth τ k = some (.c (blk base cells U))) (hl : Nat.blt off cells.length = true) :
  OpOK P n ops Γ ρ δ τ ⟨none, .store T x (.tmp s), ty, pos, af, none⟩ (.wr k) (.c anyp) (.d [s] (fun f => blk base (cells.set off (isv (f s))) U) (fun f g h => by rw [h s (List.mem_singleton.2 rfl)])) := by
 intro a c ob hs hwf hf hr hres hno hown
 have hvs := hr s (List.mem_append_left _ (List.mem_filterMap.2 ⟨.tmp s, by simp [Op.operands], rfl⟩)) _ hy
 -- the value under its own name
 have hL : Lk Γ ((s, .c (isv (vl a s))) :: δ) ρ (.tmp s) (isv (vl a s)) := ⟨.c (isv (vl a s)), by simp [getV], fun _ _ _ _ h => h⟩
 have hxL : Lk Γ ((s, .c (isv (vl a s))) :: δ) ρ x (ipo base off) := by
  cases x with
  | tmp t =>
   by_cases ht : s = t
   ·subst ht
    obtain ⟨e, he, hh⟩ := hx
    exact ⟨.c (isv (vl a s)), by simp [getV], fun f v c' hf' hv => by
     rw [hy] at he
     cases he
     exact hh (fun _ => v) v c' hf' ⟨rfl, hv.1 ▸ hv.2⟩⟩
   ·obtain ⟨e, he, hh⟩ := hx
    exact ⟨e, by simp [getV, beq_ne ht, he], hh⟩
  | const u => exact hx
  | global g => exact hx
  | func f => exact hx
 have hstore := op_store (P := P) (n := n) (ops := ops) (Γ := Γ) (ρ := ρ) (δ := (s, .c (isv (vl a s))) :: δ) (τ := τ) (ty := ty) (pos := pos) (af := af) (x := x) (y := .tmp s) (T := T) k hxL hL co_isv hT hk (puts_set (blt_lt hl)) (memw_blk (by simp))
 have := hstore a c ob hs hwf hf (fun t ht q hq => by
  by_cases hts : s = t
  ·subst hts
   simp only [getV, Nat.beq_refl, cond_true, Option.some.injEq] at hq
   subst hq
   exact ⟨rfl, hvs.2⟩
  ·simp only [getV, beq_ne hts, cond_false] at hq
   exact hr t ht q hq) hres hno hown
 simp only [Region.wanted, if_true] at this ⊢
 exact this
end ops
def argEnv : Nat → List SP → Env
 | _, [] => []
 | i, p :: ps => (i, p) :: argEnv (i + 1) ps
theorem argEnv_get : ∀ {ps : List SP} {k t : Nat} {p : SP}, (argEnv k ps).get t = some p → k ≤ t ∧ nth ps (t - k) = some p
 | [], k, t, p, h => by simp [argEnv, Env.get] at h
 | q :: ps, k, t, p, h => by
  simp only [argEnv, Env.get] at h
  by_cases hk : k = t
  ·subst hk
   simp at h
   subst h
   exact ⟨Nat.le_refl _, by simp [nth]⟩
  ·rw [beq_ne hk] at h
   obtain ⟨h1, h2⟩ := argEnv_get (k := k + 1) h
   refine ⟨by omega, ?_⟩
   have e : t - k = (t - (k + 1)) + 1 := by omega
   rw [e]
   exact h2
def RetP (c0 : EW) (R : SP) (e : Ending) (w' : World) : Prop := ∃ v, e = .returned v ∧ Xt c0 w' ∧ R.H v ⟨w', c0.M⟩
theorem Ct.of {P : Program} {f : Nat} {fn : Func} {k : Code} {ps : List SP} {R : SP} (hf : P.funcs[f]? = some fn) (hb : fn.body = some k) (hn : (fn.name == "runtime.NumGoroutine") = false) (hl : Nat.ble ps.length fn.ntmps = true)
  (h : ∀ c0 : EW, J ⟨P, fn.ntmps, c0, fun _ => False⟩ [] (argEnv 0 ps) [] k (bodyPost P fn (RetP c0 R))) : Ct P f ps R := by
 refine ⟨⟨fn, hf, hn, by rw [hb]; rfl⟩, fun vs c hwf ⟨hg, hv⟩ => ?_⟩
 have hl' : ps.length ≤ fn.ntmps := Nat.le_of_ble_eq_true hl
 have hlen := hv.len
 refine calls_of_wp hf hb (h c _ c ⟨?_, rfl, ⟨fun v p hm => (by cases hm), hg⟩, fun t p hp => ?_, fun _ => nob, ?_, fun k r hr => (by simp [nth] at hr)⟩)
 ·simp; omega
 ·obtain ⟨_, hp'⟩ := argEnv_get hp
  rw [Nat.sub_zero] at hp'
  obtain ⟨v, h1, h2⟩ := hv.nth t p hp'
  have ht := (List.getElem?_eq_some_iff.1 h1).1
  have : vl { tmps := vs.toArray ++ Array.replicate (fn.ntmps - vs.toArray.size) undef, defers := [] } t = v := by
   unfold vl
   simp only [Array.getD_eq_getD_getElem?]
   rw [Array.getElem?_append_left (by simpa using ht)]
   simp [h1]
  rw [this]
  exact h2
 ·exact ⟨rfl, rfl, rfl, Nat.le_refl _, fun _ _ _ => rfl, fun _ _ => ⟨id, .inl⟩, hwf, fun k b hb => (by cases hb), fun _ _ _ h => (by cases h), hwf⟩
section ret
variable {X : Cx} {Γ : Facts} {ρ : Env} {σ : List Res}
inductive RV (P : Program) (Γ : Facts) (ρ : Env) (σ : List Res) : ResultVar → SP → Prop where
 | tmp {t : Nat} {p : SP} (h : Lk Γ [] ρ (.tmp t) p) : RV P Γ ρ σ (.tmp t) p
 | sc {t T : Nat} {base : Value} {off : Nat} (k : Nat) {cells : List SP} {U : Nat} {p : SP} (h : Lk Γ [] ρ (.tmp t) (ipo base off)) (hT : scT P T = true) (hk : nth σ k = some (blk base cells U)) (hp : nth cells off = some p) : RV P Γ ρ σ (.cell t T) p
 | ag {t T m : Nat} {base : Value} {off : Nat} (k : Nat) {cells cells' : List SP} {U : Nat} (h : Lk Γ [] ρ (.tmp t) (ipo base off)) (hT : agT P T = some m) (hk : nth σ k = some (blk base cells U)) (hs : subl off m cells = some cells') (hm : Nat.blt 0 m = true) : RV P Γ ρ σ (.cell t T) (aggp cells')
def runRV (P : Program) (tmps : Array Value) : ResultVar → Sem Value
 | .tmp t => pure (tmps.getD t undef)
 | .cell a t => do loadVar t (← asAddr (tmps.getD a undef))
theorem RV.run {P : Program} {n : Nat} {c0 : EW} {E : Nat → Prop} {rv : ResultVar} {p : SP} (h : RV P Γ ρ σ rv p) {a : Act} {c : EW} (hs : St ⟨P, n, c0, E⟩ Γ ρ σ a c) : ∃ v, (runRV P a.tmps rv).run P c.w = .ok v c.w ∧ p.H v c := by
 obtain ⟨obs, hown, hres⟩ := hs.own
 cases h with
 | tmp h => exact ⟨_, rfl, h.holds hs.facts hs.env⟩
 | sc k h hT hk hp =>
  obtain ⟨b, hb, hv⟩ := h.holds hs.facts hs.env
  obtain ⟨b', cur, h1, h2, h3, h4, h5⟩ := hres k _ hk
  have : b = b' := Hd.inj hb (.inl h1)
  subst this
  obtain ⟨u, hu, _, hpu⟩ := h5 _ _ hp
  rw [Nat.zero_add] at hu
  have hl := run_load_sc (P := P) hT h3 hu
  have hv' : a.tmps.getD _ undef = _ := hv
  refine ⟨u, ?_, hpu⟩
  simp only [runRV, hv', Sem.run_bind]
  simpa [Instr.loadAt, Instr.sureAddr, asAddr] using hl
 | ag k h hT hk hs' hm =>
  obtain ⟨b, hb, hv⟩ := h.holds hs.facts hs.env
  obtain ⟨b', cur, h1, h2, h3, h4, h5⟩ := hres k _ hk
  have : b = b' := Hd.inj hb (.inl h1)
  subst this
  obtain ⟨g1, g2, _⟩ := subl_spec hs'
  have hroom := h5.room (blt_lt hm) g2
  rw [Nat.zero_add] at hroom
  have hl := run_load_ag (P := P) hT h3 hroom
  have hv' : a.tmps.getD _ undef = _ := hv
  refine ⟨_, ?_, _, rfl, ?_, sub_CL (off := 0) hs' h5 (by omega)⟩
  ·simp only [runRV, hv', Sem.run_bind]
   simpa [Instr.loadAt, Instr.sureAddr, asAddr] using hl
  ·simp; omega
theorem run_results {P : Program} {fn : Func} {tmps : Array Value} {w : World} {vs : List Value} (h : (fn.results.toList.mapM (runRV P tmps)).run P w = .ok vs w) :
  (results fn tmps).run P w = .ok (if h : vs.toArray.size = 1 then vs.toArray[0] else .tuple vs.toArray) w := by
 have e : results fn tmps = (fn.results.mapM (runRV P tmps)) >>= fun vs => pure (if h : vs.size = 1 then vs[0] else .tuple vs) := by
  unfold results
  congr 1
 rw [e, Array.mapM_eq_mapM_toList]
 simp only [Sem.run_bind, Sem.run_map, h, Result.andThen_ok, Sem.run_pure]
inductive RVL (P : Program) (Γ : Facts) (ρ : Env) (σ : List Res) : List ResultVar → List SP → Prop where
 | nil : RVL P Γ ρ σ [] []
 | cons {rv : ResultVar} {p : SP} {rvs : List ResultVar} {ps : List SP} (h : RV P Γ ρ σ rv p) (hr : RVL P Γ ρ σ rvs ps) : RVL P Γ ρ σ (rv :: rvs) (p :: ps)
theorem RVL.run {P : Program} {n : Nat} {c0 : EW} {E : Nat → Prop} {rvs : List ResultVar} {ps : List SP} (h : RVL P Γ ρ σ rvs ps) {a : Act} {c : EW} (hs : St ⟨P, n, c0, E⟩ Γ ρ σ a c) : ∃ vs, (rvs.mapM (runRV P a.tmps)).run P c.w = .ok vs c.w ∧ HL ps vs c := by
 induction h with
 | nil => exact ⟨[], rfl, trivial⟩
 | cons h hr ih =>
  obtain ⟨v, h1, h2⟩ := h.run hs
  obtain ⟨vs, h3, h4⟩ := ih
  exact ⟨v :: vs, by rw [List.mapM_cons]; simp only [Sem.run_bind, h1, Result.andThen_ok, h3, Sem.run_pure], h2, h4⟩
def resP : List SP → SP
 | [p] => p
 | ps => tupp ps
theorem St.xt {n : Nat} {P : Program} {c0 : EW} {a : Act} {c : EW} (hs : St ⟨P, n, c0, fun _ => False⟩ Γ ρ σ a c) : Xt c0 c.w ∧ Le c ⟨c.w, c0.M⟩ := by
 obtain ⟨obs, hown, _⟩ := hs.own
 exact ⟨⟨hown.os, hown.tape, hown.out, hown.size, fun k hk => hown.heap k hk (fun h => h)⟩, rfl, rfl, rfl, Nat.le_refl _, fun k hk hm => ⟨rfl, fun h0 => hm (((hown.mem k (hown.wf0 k h0)).2 h0).resolve_right id)⟩⟩
theorem zQ {P : Program} {fn : Func} {n : Nat} {c0 : EW} {R : SP} {ps : List SP} (hr : RVL P Γ ρ σ fn.results.toList ps) (hR : ∀ v c, FH Γ c → (resP ps).H v c → R.H v c) :
  JN ⟨P, n, c0, fun _ => False⟩ Γ ρ σ (bodyPost P fn (RetP c0 R) .ret) := fun a c hs => by
 obtain ⟨vs, h1, h2⟩ := hr.run hs
 obtain ⟨hx, hle⟩ := hs.xt
 refine ⟨hs.defers, _, run_results h1, _, rfl, hx, hR _ _ (hs.facts.le hle) ?_⟩
 have h3 := h2.st hle
 match ps, vs, h3 with
 | [], [], h3 => exact ⟨[], rfl, trivial⟩
 | [p], [v], h3 => exact h3.1
 | p :: q :: ps, v :: u :: vs, h3 =>
  refine ⟨v :: u :: vs, ?_, h3⟩
  rw [dif_neg (by simp)]
 | [], _ :: _, h3 => exact h3.elim
 | _ :: _, [], h3 => exact h3.elim
 | [_], _ :: _ :: _, h3 => exact h3.2.elim
 | _ :: _ :: _, [_], h3 => exact h3.2.elim
end ret
end Go.Bn
namespace Go.Bn
open Go
section calls2
variable {P : Program} {n : Nat} {ops : Array Oper} {Γ : Facts} {ρ : Env} {δ : VEnv} {τ : List VR}
variable {d : Nat} {ty : TypeId} {pos : String} {af : Array Edge}
structure Xm (c : EW) (ob : Bs) (w' : World) : Prop where
 os : w'.os = c.w.os
 tape : w'.tape = c.w.tape
 out : w'.output = c.w.output
 size : c.w.heap.size ≤ w'.heap.size
 heap : ∀ k, k < c.w.heap.size → ¬ ob k → w'.heap[k]? = c.w.heap[k]?
def Fix (r r' : Res) : Prop := ∀ c c' ob ob', r.H c ob → r'.H c' ob' → ob = ob'
def CtM (P : Program) (f : Nat) (ps : List SP) (r : Res) (R : SP) (r' : Res) : Prop :=
 Has P f ∧ ∀ (vs : List Value) (c : EW) (ob : Bs), (∀ k, c.M k → k < c.w.heap.size) → FG c ∧ HL ps vs c → r.H c ob → (∀ b, ob b → c.M b) → Calls P f vs.toArray c.w (fun e w' => ∃ v, e = .returned v ∧ Xm c ob w' ∧ R.H v ⟨w', c.M⟩ ∧ r'.H ⟨w', c.M⟩ ob)
theorem op_callM {f : Nat} {xs : List Operand} {ps : List SP} {R : SP} {r r' : Res} {ats : Array TypeId} (k : Nat) (hf : CtM P f ps r R r') (hx : LkL Γ δ ρ xs ps) (hk : nth τ k = some (.c r)) :
  OpOK P n ops Γ ρ δ τ ⟨some d, .call ⟨.value (.func f), xs.toArray, ats⟩, ty, pos, af, none⟩ (.wr k) (.c R) (.c r') := by
 intro a c ob hs hwf hfa hr hres hno hown
 obtain ⟨r0, hr0, hh⟩ := hres k rfl
 rw [hk] at hr0
 cases hr0
 have hv := hx.val (a := a) (c := c) fun x q hx' hq => Lk.val (o := ⟨some d, .call ⟨.value (.func f), xs.toArray, ats⟩, ty, pos, af, none⟩) hr hfa (by simp [Op.operands, Call.operands, hx']) hq
 simp only [Region.wanted, if_true]
 unfold Does
 have hex : (execOp a.eval ⟨some d, .call ⟨.value (.func f), xs.toArray, ats⟩, ty, pos, af, none⟩).run P c.w = .ok (.enter f (xs.map a.eval).toArray) c.w := by
  have h1 := run_callFunc hf.1 (xs.map a.eval).toArray c.w
  simp [execOp, resolve, Deferred.ofValue, Act.eval, invoke, h1]
 rw [hex]
 refine (hf.2 _ c ob hwf ⟨hfa.2, hv⟩ hh fun b hb => (hown b hb).1).mono fun e w' ⟨v, he, hxm, hR, hr'⟩ => ⟨v, he, ⟨w', c.M⟩, ob, rfl, ?_, hR, fun _ => hr'⟩
 exact ⟨hxm.os, hxm.tape, hxm.out, hxm.size, fun j hj hne => hxm.heap j hj (hne rfl), fun _ _ => ⟨id, .inl⟩, .inl rfl, fun j hj => Nat.lt_of_lt_of_le (hwf j hj) hxm.size⟩
def RetM (c0 : EW) (ob : Bs) (R : SP) (r' : Res) (e : Ending) (w' : World) : Prop := ∃ v, e = .returned v ∧ Xm c0 ob w' ∧ R.H v ⟨w', c0.M⟩ ∧ r'.H ⟨w', c0.M⟩ ob
theorem CtM.of {f : Nat} {fn : Func} {k : Code} {ps : List SP} {R : SP} {r r' : Res} (hf : P.funcs[f]? = some fn) (hb : fn.body = some k) (hn : (fn.name == "runtime.NumGoroutine") = false) (hl : Nat.ble ps.length fn.ntmps = true) (hfix : Fix r r')
  (h : ∀ (c0 : EW) (ob : Bs), r.H c0 ob → J ⟨P, fn.ntmps, c0, fun b => ob b⟩ [] (argEnv 0 ps) [r] k (bodyPost P fn (RetM c0 ob R r'))) : CtM P f ps r R r' := by
 refine ⟨⟨fn, hf, hn, by rw [hb]; rfl⟩, fun vs c ob hwf ⟨hg, hv⟩ hr hM => ?_⟩
 have hl' : ps.length ≤ fn.ntmps := Nat.le_of_ble_eq_true hl
 have hlen := hv.len
 refine calls_of_wp hf hb (h c ob hr _ c ⟨?_, rfl, ⟨fun v p hm => (by cases hm), hg⟩, fun t p hp => ?_, fun k => if k = 0 then ob else nob, ?_, fun k r0 hr0 => ?_⟩)
 ·simp; omega
 ·obtain ⟨_, hp'⟩ := argEnv_get hp
  rw [Nat.sub_zero] at hp'
  obtain ⟨v, h1, h2⟩ := hv.nth t p hp'
  have ht := (List.getElem?_eq_some_iff.1 h1).1
  have : vl { tmps := vs.toArray ++ Array.replicate (fn.ntmps - vs.toArray.size) undef, defers := [] } t = v := by
   unfold vl
   simp only [Array.getD_eq_getD_getElem?]
   rw [Array.getElem?_append_left (by simpa using ht)]
   simp [h1]
  rw [this]
  exact h2
 ·refine ⟨rfl, rfl, rfl, Nat.le_refl _, fun _ _ _ => rfl, fun _ _ => ⟨id, .inl⟩, hwf, fun k b hb => ?_, fun i j b hi hj => ?_, hwf⟩
  ·by_cases hk : k = 0
   ·rw [if_pos hk] at hb; exact ⟨hM b hb, .inr hb⟩
   ·rw [if_neg hk] at hb; cases hb
  ·by_cases hi0 : i = 0
   ·by_cases hj0 : j = 0
    ·rw [hi0, hj0]
    ·rw [if_neg hj0] at hj; cases hj
   ·rw [if_neg hi0] at hi; cases hi
 ·cases k with
  | zero => simp only [nth, Option.some.injEq] at hr0; subst hr0; simpa using hr
  | succ k => simp [nth] at hr0
theorem JN_retM {σ : List Res} {fn : Func} {n : Nat} {c0 : EW} {ob : Bs} {R : SP} {r r' : Res} {ps : List SP} (j : Nat) (hr0 : r.H c0 ob) (hfix : Fix r r') (hj : nth σ j = some r') (hr : RVL P Γ ρ σ fn.results.toList ps) (hR : ∀ v c, FH Γ c → (resP ps).H v c → R.H v c) :
  JN ⟨P, n, c0, fun b => ob b⟩ Γ ρ σ (bodyPost P fn (RetM c0 ob R r') .ret) := fun a c hs => by
 obtain ⟨vs, h1, h2⟩ := hr.run hs
 obtain ⟨obs, hown, hres⟩ := hs.own
 have hx : Xm c0 ob c.w := ⟨hown.os, hown.tape, hown.out, hown.size, fun k hk hne => hown.heap k hk hne⟩
 have hrj := hres j r' hj
 have hob : obs j = ob := (hfix _ _ _ _ hr0 hrj).symm
 have hle : Le c ⟨c.w, c0.M⟩ := ⟨rfl, rfl, rfl, Nat.le_refl _, fun k hk hm => ⟨rfl, fun h0 => hm (((hown.mem k (hown.wf0 k h0)).2 h0).elim id fun e => (hown.has j k (by rw [hob]; exact e)).1)⟩⟩
 rw [hob] at hrj
 have hrj' : r'.H ⟨c.w, c0.M⟩ ob := r'.fr _ _ _ hle (fun _ _ => rfl) hrj
 refine ⟨hs.defers, _, run_results h1, _, rfl, hx, hR _ _ (hs.facts.le hle) ?_, hrj'⟩
 have h3 := h2.st hle
 match ps, vs, h3 with
 | [], [], h3 => exact ⟨[], rfl, trivial⟩
 | [p], [v], h3 => exact h3.1
 | p :: q :: ps, v :: u :: vs, h3 =>
  refine ⟨v :: u :: vs, ?_, h3⟩
  rw [dif_neg (by simp)]
 | [], _ :: _, h3 => exact h3.elim
 | _ :: _, [], h3 => exact h3.elim
 | [_], _ :: _ :: _, h3 => exact h3.2.elim
 | _ :: _ :: _, [_], h3 => exact h3.2.elim
theorem fix_osl {sv : Value} {n k : Nat} {cells cells' : List SP} {T T' : TypeId} : Fix (osl sv n k cells T) (osl sv n k cells' T') := by
 rintro c c' ob ob' ⟨_, h⟩ ⟨_, h'⟩
 rcases h with ⟨h1, h2, h3⟩ | ⟨b, cap, cur, h1, h2, _⟩ <;> rcases h' with ⟨g1, g2, g3⟩ | ⟨b', cap', cur', g1, g2, _⟩
 ·rw [h3, g3]
 ·rw [h1] at g1; cases g1
 ·rw [h1] at g1; cases g1
 ·rw [h1] at g1; cases g1; rw [h2, g2]
theorem fix_blk {base : Value} {cells cells' : List SP} {T T' : TypeId} : Fix (blk base cells T) (blk base cells' T') := by
 rintro c c' ob ob' ⟨b, cur, h1, h2, _⟩ ⟨b', cur', g1, g2, _⟩
 rw [h1] at g1; cases g1; rw [h2, g2]
end calls2
end Go.Bn
namespace Go.Bn
open Go
theorem zK {Γ : Facts} {ρ : Env} {x : Operand} {b : Bool} (h : Lk Γ [] ρ x (isv (.bool b))) : ∀ (a : Act) (c : EW), FH Γ c → EH ρ (vl a) c → a.eval x = .bool b := fun _ _ hf he => (h.holds hf he).1
theorem zO {z : Int} (h1 : -9223372036854775808 ≤ z) (h2 : z ≤ 9223372036854775807) : IntKind.i64.wrap z = z := by rw [IntKind.wrap_i64]; omega
def slm {α : Type} (mk : α → SP) (xs : List α) : SP := slp (xs.map mk)
def inp (k : IntKind) (z : Int) : SP := isv (.int k z)
abbrev fls (xs : List Nat) : SP := slm flp xs
abbrev ils (k : IntKind) (xs : List Int) : SP := slm (inp k) xs
theorem co_slm {α : Type} {mk : α → SP} {xs : List α} : CellsOf (slm mk xs) [slm mk xs] := co_slc
theorem co_inp {k : IntKind} {z : Int} : CellsOf (inp k z) [inp k z] := co_isv
def som {α : Type} (sv : Value) (mk : α → SP) (xs : List α) (T : TypeId) : Res := osl sv xs.length 1 (xs.map mk) T
theorem slm_nil {α : Type} {mk : α → SP} {c : EW} : (slm mk []).H (.slice none 0 0) c := ⟨rfl, .inl ⟨rfl, rfl⟩⟩
theorem frz_som {α : Type} {sv : Value} {mk : α → SP} {xs : List α} {T : TypeId} : Freezes (som sv mk xs T) sv (slm mk xs) := by
 have := @frz_osl sv xs.length 1 (xs.map mk) T
 simpa [slm, slp, som] using this
theorem mem_som {α : Type} {sv : Value} {mk : α → SP} {xs : List α} {T : TypeId} (h0 : 0 < xs.length) : Mem (som sv mk xs T) sv (xs.map mk) := mem_osl h0
theorem som_nil {α : Type} {mk : α → SP} {T : TypeId} : ∀ c ob, emp.H c ob → (som (.slice none 0 0) mk [] T).H c ob := fun c ob h => ⟨rfl, .inl ⟨rfl, rfl, h⟩⟩
section ops
variable {P : Program} {n : Nat} {ops : Array Oper} {Γ : Facts} {ρ : Env} {δ : VEnv} {τ : List VR}
variable {d : Nat} {ty : TypeId} {pos : String} {af : Array Edge}
theorem op_len_m {α : Type} {mk : α → SP} {xs : List α} {x : Operand} {t : TypeId} {E es eb : Nat} (ht : slT P t = some (E, es, eb)) (hx : Lk Γ δ ρ x (slm mk xs)) :
  OpOK P n ops Γ ρ δ τ ⟨some d, .call ⟨.builtin .len, #[x], #[t]⟩, ty, pos, af, none⟩ .no (.c (isv (.int .i64 (xs.length : Int)))) dum := by
 have := op_len (n := n) (ops := ops) (τ := τ) (d := d) (ty := ty) (pos := pos) (af := af) ht hx
 rw [List.length_map] at this
 exact this
theorem op_index_m {α : Type} {mk : α → SP} {xs : List α} (dv : α) {x y : Operand} {T : TypeId} {E eb : Nat} {k : IntKind} {z : Int} (ht : slT P T = some (E, 1, eb)) (hx : Lk Γ δ ρ x (slm mk xs)) (hy : Lk Γ δ ρ y (isv (.int k z))) (h0 : 0 ≤ z) (h1 : z < xs.length) :
  OpOK P n ops Γ ρ δ τ ⟨some d, .indexAddr T x y, ty, pos, af, none⟩ .no (.c (ptp [mk (xs.getD z.toNat dv)])) dum :=
 op_index ht hx hy h0 (by rw [nth_map, nth_getD dv (by omega)]; rfl)
theorem op_append_m {α : Type} {mk : α → SP} {xs : List α} {v : α} {x y : Operand} {T E eb : Nat} (k : Nat) {sv : Value} {zs : List Value} (ht : slT P T = some (E, 1, eb)) (hz : zrT P E = some zs) (hzl : Nat.beq zs.length 1 = true) (hx : Lk Γ δ ρ x (isv sv)) (hy : Lk Γ δ ρ y (slc 1 1 [mk v]))
  (hk : nth τ k = some (.c (som sv mk xs E))) (h63 : xs.length + 1 ≤ 9223372036854775807) (hb : (xs.length + 1) * eb ≤ 140737488355328) :
  OpOK P n ops Γ ρ δ τ ⟨some d, .call ⟨.builtin .append, #[x, y], #[T, T]⟩, ty, pos, af, none⟩ (.wr k) (slAt d) (.d [d] (fun f => som (f d) mk (xs ++ [v]) E) (fun f g h => by rw [h d (List.mem_singleton.2 rfl)])) := by
 have h := op_append (n := n) (ops := ops) (d := d) (ty := ty) (pos := pos) (af := af) k ht hz hzl rfl hx hy hk rfl h63 hb (all := (xs ++ [v]).map mk) (by simp)
 intro a c ob g1 g2 g3 g4 g5 g6 g7
 have := h a c ob g1 g2 g3 g4 g5 g6 g7
 have e : xs.length + 1 = (xs ++ [v]).length := by simp
 simp only [oslAt, VR.at] at this
 simp only [VR.at, som]
 rw [← e]
 exact this
theorem op_append_ms {α : Type} {mk : α → SP} {xs ys : List α} {x y : Operand} {T E eb : Nat} (k : Nat) {sv : Value} {zs : List Value} (ht : slT P T = some (E, 1, eb)) (hz : zrT P E = some zs) (hzl : Nat.beq zs.length 1 = true) (hx : Lk Γ δ ρ x (isv sv)) (hy : Lk Γ δ ρ y (slm mk ys))
  (hk : nth τ k = some (.c (som sv mk xs E))) (h63 : xs.length + ys.length ≤ 9223372036854775807) (hb : (xs.length + ys.length) * eb ≤ 140737488355328) :
  OpOK P n ops Γ ρ δ τ ⟨some d, .call ⟨.builtin .append, #[x, y], #[T, T]⟩, ty, pos, af, none⟩ (.wr k) (slAt d) (.d [d] (fun f => som (f d) mk (xs ++ ys) E) (fun f g h => by rw [h d (List.mem_singleton.2 rfl)])) := by
 have h := op_append (n := n) (ops := ops) (d := d) (ty := ty) (pos := pos) (af := af) (ms := xs.length + ys.length) k ht hz hzl rfl hx hy hk (by simp) h63 hb (all := (xs ++ ys).map mk) (by simp)
 intro a c ob g1 g2 g3 g4 g5 g6 g7
 have := h a c ob g1 g2 g3 g4 g5 g6 g7
 have e : xs.length + ys.length = (xs ++ ys).length := by simp
 simp only [oslAt, VR.at] at this
 simp only [VR.at, som]
 rw [← e]
 exact this
theorem op_make_m {α : Type} {mk : α → SP} (v0 : α) {x y : Operand} {T E eb : Nat} (k : Nat) {k1 k2 : IntKind} {l h : Int} {zv : Value} (ht : slT P T = some (E, 1, eb)) (hz : zrT P E = some [zv]) (hz1 : zv.oneCell' = true) (hmk : ∀ c, (mk v0).H zv c) (hx : Lk Γ δ ρ x (isv (.int k1 l))) (hy : Lk Γ δ ρ y (isv (.int k2 h)))
  (h0 : 0 ≤ l) (h1 : l ≤ h) (hb : eb * h ≤ 281474976710656) (h63 : h ≤ 9223372036854775807) (hk : nth τ k = some (.c emp)) :
  OpOK P n ops Γ ρ δ τ ⟨some d, .makeSlice T x y, ty, pos, af, none⟩ (.wr k) (slAt d) (.d [d] (fun f => som (f d) mk (List.replicate l.toNat v0) E) (fun f g h => by rw [h d (List.mem_singleton.2 rfl)])) := by
 have hh := op_make (P := P) (n := n) (ops := ops) (Γ := Γ) (ρ := ρ) (δ := δ) (τ := τ) (d := d) (ty := ty) (pos := pos) (af := af) (m := l.toNat) (cells := List.replicate l.toNat (isv zv)) k ht hz (by simp [hz1]) rfl hx hy h0 h1 hb h63 rfl (by simp) (fun i p hi => ⟨zv, by rw [Nat.mod_one]; rfl, by
  rw [nth_eq] at hi
  have := List.mem_of_getElem? hi
  exact (List.eq_of_mem_replicate this).symm⟩) hk
 intro a c ob g1 g2 g3 g4 g5 g6 g7
 have hm := hh a c ob g1 g2 g3 g4 g5 g6 g7
 simp only [Region.wanted, if_true] at hm ⊢
 refine hm.mono ?_
 rintro v w' ⟨c', ob', q1, q2, q3, q4⟩
 refine ⟨c', ob', q1, q2, q3, fun hw => ?_⟩
 have q5 := q4 hw
 simp only [oslAt, VR.at, upd_eq] at q5
 simp only [VR.at, upd_eq, som, List.length_replicate, List.map_replicate]
 obtain ⟨q6, q7⟩ := q5
 refine ⟨by simp, ?_⟩
 rcases q7 with q7 | ⟨b, cap, cur, r1, r2, r3, r4, r5, r6, r7⟩
 ·exact .inl q7
 ·refine .inr ⟨b, cap, cur, r1, r2, r3, r4, r5, r6, fun i p hi => ?_⟩
  have hil : i < l.toNat := by have := nth_lt hi; simpa using this
  obtain ⟨u, s1, s2, s3⟩ := r7 i (isv zv) (by rw [nth_eq]; simp [hil])
  have hp : p = mk v0 := by
   rw [nth_eq] at hi
   have := List.mem_of_getElem? hi
   exact List.eq_of_mem_replicate this
  rw [hp]
  exact ⟨u, s1, s2, by rw [s3.1]; exact hmk c'⟩
theorem op_index_som {α : Type} {mk : α → SP} {xs : List α} {x y : Operand} {T : TypeId} {E eb : Nat} {ki : IntKind} {z : Int} {sv : Value} {T' : Nat} (k : Nat) (ht : slT P T = some (E, 1, eb)) (hx : Lk Γ δ ρ x (isv sv)) (hy : Lk Γ δ ρ y (isv (.int ki z))) (hk : nth τ k = some (.c (som sv mk xs T'))) (h0 : 0 ≤ z) (h1 : z < xs.length) :
  OpOK P n ops Γ ρ δ τ ⟨some d, .indexAddr T x y, ty, pos, af, none⟩ (.rd k) (.c (ipo sv z.toNat)) dum := by
 have := op_index_own (n := n) (ops := ops) (d := d) (ty := ty) (pos := pos) (af := af) k ht hx hy hk h0 h1
 rw [Nat.mul_one] at this
 exact this
theorem op_len_som {α : Type} {mk : α → SP} {xs : List α} {x : Operand} {t : TypeId} {sv : Value} (k : Nat) {T E : Nat} {es eb : Nat} (ht : slT P t = some (E, es, eb)) (hx : Lk Γ δ ρ x (isv sv)) (hk : nth τ k = some (.c (som sv mk xs T))) :
  OpOK P n ops Γ ρ δ τ ⟨some d, .call ⟨.builtin .len, #[x], #[t]⟩, ty, pos, af, none⟩ (.rd k) (.c (isv (.int .i64 (xs.length : Int)))) dum := op_len_own k ht hx hk
theorem op_get_som {α : Type} {mk : α → SP} {xs : List α} (dv : α) {x : Operand} {T U : TypeId} {base : Value} {off : Nat} (k : Nat) (hT : scT P T = true) (hx : Lk Γ δ ρ x (ipo base off)) (hk : nth τ k = some (.c (som base mk xs U))) (h1 : off < xs.length) :
  OpOK P n ops Γ ρ δ τ ⟨some d, .load T x, ty, pos, af, none⟩ (.rd k) (.c (mk (xs.getD off dv))) dum :=
 zN k hT hx hk (mem_som (by omega)) (by rw [nth_map, nth_getD dv h1]; rfl)
theorem op_store_som {α : Type} {mk : α → SP} {xs : List α} {v : α} {x y : Operand} {T U : TypeId} {base : Value} {off : Nat} (k : Nat) (hx : Lk Γ δ ρ x (ipo base off)) (hy : Lk Γ δ ρ y (mk v)) (hc : CellsOf (mk v) [mk v]) (hT : szT P T = some 1) (hk : nth τ k = some (.c (som base mk xs U))) (h1 : off < xs.length) :
  OpOK P n ops Γ ρ δ τ ⟨none, .store T x y, ty, pos, af, none⟩ (.wr k) (.c anyp) (.c (som base mk (xs.set off v) U)) :=
 op_store (cells := xs.map mk) (cells' := (xs.set off v).map mk) k hx hy hc hT hk (by rw [List.map_set]; exact puts_set (by simpa using h1)) (by
  have := memw_osl (sv := base) (n := xs.length) (k := 1) (cells := xs.map mk) (cells' := (xs.set off v).map mk) (T := U) (by omega) (by simp)
  simpa [som] using this)
end ops
end Go.Bn
namespace Go.Bn
open Go
theorem sp_eq {p q : SP} {Γ : Facts} (h : p = q) : ∀ v c, FH Γ c → p.H v c → q.H v c := fun _ _ _ hv => h ▸ hv
theorem res_eq {r r' : Res} (h : r = r') : ∀ c ob, r.H c ob → r'.H c ob := fun _ _ hv => h ▸ hv
theorem ret_eq {p q : SP} {Γ : Facts} (h : p = q) : ∀ v c, FH Γ c → p.H v c → q.H v c := fun _ _ _ hv => h ▸ hv
theorem ret_i {k : IntKind} {a b : Int} {Γ : Facts} (h : a = b) : ∀ v c, FH Γ c → (isv (.int k a)).H v c → (isv (.int k b)).H v c := fun _ _ _ hv => h ▸ hv
theorem ret_b {a b : Bool} {Γ : Facts} (h : a = b) : ∀ v c, FH Γ c → (isv (.bool a)).H v c → (isv (.bool b)).H v c := fun _ _ _ hv => h ▸ hv
theorem ret_f {a b : Nat} {Γ : Facts} (h : a = b) : ∀ v c, FH Γ c → (flp a).H v c → (flp b).H v c := fun _ _ _ hv => h ▸ hv
theorem JN_end {X : Cx} {P : Program} {fn : Func} {R : Ending → World → Prop} {Γ : Facts} {ρ : Env} {σ : List Res} (h : JN X Γ ρ σ (bodyPost P fn R .ret)) : JN X Γ ρ σ (bodyPost P fn R .normal) := h
def bitp (x : Nat) : SP := ⟨fun v _ => ∃ b : Nat, v = .int .u64 (b : Int) ∧ b < 2 ^ 64 ∧ cn b = x, fun _ _ _ _ h => h⟩
theorem Ct.bit {P : Program} {f x : Nat} {ps : List SP} {R : SP} (hH : Has P f) (h : ∀ b : Nat, b < 2 ^ 64 → cn b = x → Ct P f (isv (.int .u64 (b : Int)) :: ps) R) : Ct P f (bitp x :: ps) R := by
 refine ⟨hH, fun vs c hwf ⟨hg, hv⟩ => ?_⟩
 match vs, hv with
 | v :: vs, hv =>
  obtain ⟨⟨b, h1, h2, h3⟩, h4⟩ := hv
  exact (h b h2 h3).2 (v :: vs) c hwf ⟨hg, ⟨h1, rfl⟩, h4⟩
theorem Ct.res {P : Program} {f : Nat} {ps : List SP} {R R' : SP} (h : Ct P f ps R) (hr : ∀ v c, R.H v c → R'.H v c) : Ct P f ps R' :=
 ⟨h.1, fun vs c hwf hv => (h.2 vs c hwf hv).mono fun _ _ ⟨v, he, hx, hR⟩ => ⟨v, he, hx, hr _ _ hR⟩⟩
def u64p (b : Nat) : SP := isv (.int .u64 (b : Int))
abbrev wsl (bs : List Nat) : SP := slm u64p bs
section ops
variable {P : Program} {n : Nat} {ops : Array Oper} {Γ : Facts} {ρ : Env} {δ : VEnv} {τ : List VR}
variable {d : Nat} {ty : TypeId} {pos : String} {af : Array Edge}
theorem law_bits {x : Nat} : ∀ (v : Value) (c : EW), (flp x).H v c → ∃ u m, (Go.Extern.MathFloatBits.float64bits #[v]).run P c.w = .ok u { c.w with drawn := m } ∧ ∀ c', (bitp x).H u c' := by
 rintro v c ⟨b, h1, h2, h3⟩
 subst h1
 exact ⟨.int .u64 b, c.w.drawn, rfl, fun _ => ⟨b, rfl, h2, h3⟩⟩
theorem law_from {b : Nat} (hb : b < 2 ^ 64) : ∀ (v : Value) (c : EW), (u64p b).H v c → ∃ u m, (Go.Extern.MathFloatBits.float64frombits #[v]).run P c.w = .ok u { c.w with drawn := m } ∧ ∀ c', (flp (cn b)).H u c' := by
 rintro v c ⟨h1, _⟩
 subst h1
 exact ⟨.float .f64 b, c.w.drawn, rfl, fun _ => ⟨b, rfl, hb, rfl⟩⟩
theorem law_from_bit {x : Nat} : ∀ (v : Value) (c : EW), (bitp x).H v c → ∃ u m, (Go.Extern.MathFloatBits.float64frombits #[v]).run P c.w = .ok u { c.w with drawn := m } ∧ ∀ c', (flp x).H u c' := by
 rintro v c ⟨b, h1, h2, h3⟩
 subst h1
 exact ⟨.float .f64 b, c.w.drawn, rfl, fun _ => ⟨b, rfl, h2, h3⟩⟩
theorem op_f64bits {f : Nat} {x : Operand} {v : Nat} {ats : Array TypeId} (hf : Ext P f Go.Extern.MathFloatBits.float64bits) (hx : Lk Γ δ ρ x (flp v)) :
  OpOK P n ops Γ ρ δ τ ⟨some d, .call ⟨.value (.func f), #[x], ats⟩, ty, pos, af, none⟩ .no (.c (bitp v)) dum := op_ext hf hx law_bits
theorem op_f64from {f : Nat} {x : Operand} {b : Nat} {ats : Array TypeId} (hf : Ext P f Go.Extern.MathFloatBits.float64frombits) (hb : b < 2 ^ 64) (hx : Lk Γ δ ρ x (u64p b)) :
  OpOK P n ops Γ ρ δ τ ⟨some d, .call ⟨.value (.func f), #[x], ats⟩, ty, pos, af, none⟩ .no (.c (flp (cn b))) dum := op_ext hf hx (law_from hb)
theorem op_f64fromb {f : Nat} {x : Operand} {v : Nat} {ats : Array TypeId} (hf : Ext P f Go.Extern.MathFloatBits.float64frombits) (hx : Lk Γ δ ρ x (bitp v)) :
  OpOK P n ops Γ ρ δ τ ⟨some d, .call ⟨.value (.func f), #[x], ats⟩, ty, pos, af, none⟩ .no (.c (flp v)) dum := op_ext hf hx law_from_bit
def arT (P : Program) (T : TypeId) : Option (Nat × Nat × Nat) := match P.underlying T with
 | some (.array len E) => (P.info? E).map fun i => (len, E, i.size)
 | _ => none
theorem op_indexv_ag {x y : Operand} {T len E es m : Nat} {k : IntKind} {z : Int} {cells cells' : List SP} (hT : arT P T = some (len, E, es)) (hE : agT P E = some m) (hx : Lk Γ δ ρ x (aggp cells)) (hy : Lk Γ δ ρ y (isv (.int k z))) (h0 : 0 ≤ z) (h1 : z < len) (hs : subl (z.toNat * es) m cells = some cells') :
  OpOK P n ops Γ ρ δ τ ⟨some d, .index T x y, ty, pos, af, none⟩ .no (.c (aggp cells')) dum :=
 ok_pure fun a c _ hr => by
  obtain ⟨cs, g1, g2, g3⟩ := hr x _ (by simp [Op.operands]) hx
  have hz := (hr y _ (by simp [Op.operands]) hy).1
  obtain ⟨q1, q2, q3⟩ := subl_spec hs
  have hcl := sub_CL (off := 0) hs g3 (by omega)
  rw [Nat.zero_add] at hcl
  unfold arT at hT
  cases hu : P.underlying T with
  | none => rw [hu] at hT; cases hT
  | some D =>
   rw [hu] at hT
   cases D <;> first | (cases hT; done) | skip
   rename_i len' E'
   simp only at hT
   cases hi : P.info? E' with
   | none => rw [hi] at hT; cases hT
   | some i =>
    rw [hi] at hT
    cases hT
    have hm : i.size = m := by
     have := agT_sz hE
     unfold szT at this
     rw [hi] at this
     simpa using this
    subst hm
    refine ⟨.agg (cs.extract (z.toNat * i.size) (z.toNat * i.size + i.size)), ?_, _, rfl, by simp; omega, hcl⟩
    simp [execOp, Instr.index, asIntOf, g1, hz, run_underlying hu, h0, h1, sizeOf, typeInfo, hi, part, run_isAgg_ag hE, run_sz (agT_sz hE)]
end ops
end Go.Bn
namespace Go.Bn
open Go
theorem HL.sub1 {p : SP} {ps : List SP} {c : EW} : ∀ {vs : List Value}, HL (p :: ps) vs c → HL (anyp :: ps) vs c
 | _ :: _, h => ⟨trivial, h.2⟩
section ops
variable {P : Program} {n : Nat} {ops : Array Oper} {Γ : Facts} {ρ : Env} {δ : VEnv} {τ : List VR}
variable {d : Nat} {ty : TypeId} {pos : String} {af : Array Edge}
theorem op_store_b {x y : Operand} {T : TypeId} {base : Value} {off : Nat} (k : Nat) {p : SP} {l cells cells' : List SP} {U : Nat} (hx : Lk Γ δ ρ x (ipo base off)) (hy : Lk Γ δ ρ y p) (hc : CellsOf p l) (hT : szT P T = some l.length)
  (hk : nth τ k = some (.c (blk base cells U))) (hl : Nat.ble (off + l.length) cells.length = true) (hp : putl off l cells = some cells') :
  OpOK P n ops Γ ρ δ τ ⟨none, .store T x y, ty, pos, af, none⟩ (.wr k) (.c anyp) (.c (blk base cells' U)) :=
 op_store k hx hy hc hT hk (puts_l hp (Nat.le_of_ble_eq_true hl)) (memw_blk (putl_spec hp).1)
theorem op_build_ar {T len E es : Nat} {parts : List (Nat × Operand)} {zs : List Value} {out : List SP} (hz : zrT P T = some zs) (h1 : zs.all (·.oneCell') = true) (hT : arT P T = some (len, E, es)) (hb : BuildL Γ δ ρ (fun i => some (i * es, es)) parts (zs.map isv) out) :
  OpOK P n ops Γ ρ δ τ ⟨some d, .build T parts.toArray, ty, pos, af, none⟩ .no (.c (aggp out)) dum :=
 ok_pure fun a c _ hr => by
  unfold zrT at hz
  unfold arT at hT
  cases hi : P.info? T with
  | none => rw [hi] at hz; cases hz
  | some i =>
   rw [hi] at hz
   simp only [Option.bind_some] at hz
   cases hzz : i.zero with
   | none => rw [hzz] at hz; cases hz
   | some z =>
    rw [hzz] at hz
    simp only [Option.map_some, Option.some.injEq] at hz
    cases hu : P.underlying T with
    | none => rw [hu] at hT; cases hT
    | some D =>
     rw [hu] at hT
     cases D <;> first | (cases hT; done) | skip
     rename_i len' E'
     simp only at hT
     cases hi' : P.info? E' with
     | none => rw [hi'] at hT; cases hT
     | some i' =>
      rw [hi'] at hT
      cases hT
      have hza : z.cells = zs.toArray := by rw [← hz]
      obtain ⟨cells', q1, q2, q3⟩ := hb.run (a := a) (c := c) (fun x p hx hp' => hr x p (by simpa [Op.operands] using hx) hp') z.cells (by rw [hza]; simp) (by rw [hza]; exact zCL h1)
      refine ⟨.agg cells', ?_, cells', rfl, q2, q3⟩
      simp only [execOp, Instr.build, zeroValue, typeInfo, Sem.run_bind, program, Sem.run, hi, hzz, Result.andThen_ok, Sem.run_pure, run_underlying hu, List.map_toArray, sizeOf, hi', q1]
end ops
end Go.Bn
namespace Go.Bn
open Go
theorem J_len {α : Type} {X : Cx} {Γ : Facts} {ρ : Env} {σ : List Res} {k : Code} {Q : Exit → Act → World → Prop} (t : Nat) {mk : α → SP} {xs : List α} (h : ρ.get t = some (slm mk xs)) (hk : xs.length ≤ 9223372036854775807 → J X Γ ρ σ k Q) : J X Γ ρ σ k Q := fun a c hs => by
 obtain ⟨_, hv⟩ := hs.env t _ h
 refine hk ?_ a c hs
 rw [List.length_map] at hv
 rcases hv with ⟨_, h2⟩ | ⟨ad, cap, _, h2, h3, _⟩
 ·omega
 ·simp only [maxLen] at h3; omega
end Go.Bn
namespace Go.Bn
open Go
def Sb (Γ : Facts) (p q : SP) : Prop := ∀ v c, FH Γ c → p.H v c → q.H v c
inductive SbL (Γ : Facts) : List SP → List SP → Prop where
 | nil : SbL Γ [] []
 | cons {p q : SP} {ps qs : List SP} (h : Sb Γ p q) (hr : SbL Γ ps qs) : SbL Γ (p :: ps) (q :: qs)
theorem SbL.nth {Γ : Facts} {ps qs : List SP} (h : SbL Γ ps qs) : ps.length = qs.length ∧ ∀ i q, Bn.nth qs i = some q → ∃ p, Bn.nth ps i = some p ∧ Sb Γ p q := by
 induction h with
 | nil => exact ⟨rfl, fun i q h => by simp [Bn.nth] at h⟩
 | cons h hr ih =>
  refine ⟨by simp [ih.1], fun i q hq => ?_⟩
  cases i with
  | zero => simp only [Bn.nth, Option.some.injEq] at hq; subst hq; exact ⟨_, rfl, h⟩
  | succ i => exact ih.2 i q hq
section sb
variable {Γ : Facts}
theorem zL {p : SP} : Sb Γ p p := fun _ _ _ h => h
theorem zM {p q r : SP} (h : Sb Γ p q) (k : Sb Γ q r) : Sb Γ p r := fun v c hf hv => k v c hf (h v c hf hv)
theorem sb_eq {p q : SP} (h : p = q) : Sb Γ p q := fun _ _ _ hv => h ▸ hv
theorem sb_nil {α : Type} {mk : α → SP} : Sb Γ (isv (.slice none 0 0)) (slm mk []) := fun _ _ _ h => h.1 ▸ slm_nil
theorem sb_any {p : SP} : Sb Γ p anyp := fun _ _ _ _ => trivial
theorem sb_agg {ps qs : List SP} (h : SbL Γ ps qs) : Sb Γ (aggp ps) (aggp qs) := fun v c hf ⟨cs, h1, h2, h3⟩ => by
 obtain ⟨g1, g2⟩ := h.nth
 refine ⟨cs, h1, by omega, fun i q hq => ?_⟩
 obtain ⟨p, hp, hs⟩ := g2 i q hq
 obtain ⟨u, hu, h4, h5⟩ := h3 i p hp
 exact ⟨u, hu, h4, hs u c hf h5⟩
theorem HL.sb {c : EW} (hf : FH Γ c) {ps qs : List SP} (h : SbL Γ ps qs) : ∀ {vs : List Value}, HL ps vs c → HL qs vs c := by
 induction h with
 | nil => exact fun h => h
 | cons h hr ih =>
  intro vs hv
  cases vs with
  | nil => exact hv.elim
  | cons v vs => exact ⟨h v c hf hv.1, ih hv.2⟩
theorem sb_tup {ps qs : List SP} (h : SbL Γ ps qs) : Sb Γ (tupp ps) (tupp qs) := fun v c hf ⟨vs, h1, h2⟩ => ⟨vs, h1, HL.sb hf h h2⟩
theorem sb_res1 {p q : SP} (h : Sb Γ p q) : Sb Γ (resP [p]) q := h
theorem sb_res {p p' q q' : SP} {ps qs : List SP} (h : SbL Γ (p :: p' :: ps) (q :: q' :: qs)) : Sb Γ (resP (p :: p' :: ps)) (tupp (q :: q' :: qs)) := sb_tup h
end sb
end Go.Bn
namespace Go.Bn
open Go
theorem fix_som {α : Type} {sv : Value} {mk : α → SP} {xs ys : List α} {T : TypeId} (h : xs.length = ys.length) : Fix (som sv mk xs T) (som sv mk ys T) := by
 unfold som; rw [← h]; exact fix_osl
end Go.Bn
namespace Go.Bn
open Go
section frz
variable {Γ : Facts}
theorem nth_mem {α : Type} {l : List α} {k : Nat} {x : α} (h : nth l k = some x) : x ∈ l := by rw [nth_eq] at h; exact List.mem_of_getElem? h
theorem sb_fk (k : Nat) {u : Value} {p : SP} (h : nth Γ k = some (u, p)) : Sb Γ (isv u) p := fun _ _ hf hv => by rw [hv.1]; exact hf.1 u p (nth_mem h)
theorem sb_ok (k m : Nat) {u : Value} {off : Nat} {cells cells' : List SP} (h : nth Γ k = some (u, ptp cells)) (hs : subl off m cells = some cells') : Sb Γ (ipo u off) (ptp cells') := fun v c hf hv => by
 obtain ⟨b, hb, hv⟩ := hv
 obtain ⟨b', off', cur, T, fz, h1, h2, h3, h4⟩ := hf.1 u _ (nth_mem h)
 rcases hb with hb | ⟨n, cap, hb⟩
 ·rw [hb] at h1
  cases h1
  refine ⟨b, off, cur, T, fz, hv, h2, h3, fun i q hq => ?_⟩
  obtain ⟨g1, g2, g3⟩ := subl_spec hs
  have him : i < m := by have := nth_lt hq; omega
  rw [g3 i him] at hq
  have := h4 _ _ hq
  rwa [Nat.zero_add] at this
 ·rw [hb] at h1; cases h1
end frz
end Go.Bn
namespace Go.Bn
open Go
section ops
variable {P : Program} {n : Nat} {ops : Array Oper} {Γ : Facts} {ρ : Env} {δ : VEnv} {τ : List VR}
theorem op_ve (s d : Nat) {o : Oper} {e e' : VE} {acc : Acc} {q : Vl → SP} {vr : VR} (hd : o.dst = some d) (hy : getV δ ρ s = some e) (hn : (e.D.all fun t => !Nat.beq d t) = true)
  (h : ∀ f : Vl, OpOK P n ops Γ ρ ((s, .c (e.at f)) :: δ) τ o acc (.c (q f)) vr) (hc : ∀ f g : Vl, (∀ t, t ∈ e.D → f t = g t) → q f = q g) (he : e' = .d e.D q hc) : OpOK P n ops Γ ρ δ τ o acc e' vr := by
 subst he
 intro a c ob hs hwf hf hr hres hno hown
 have h1 := h (vl a) a c ob hs hwf hf (fun u hu p hp => by
  by_cases hus : s = u
  ·subst hus
   simp only [getV, Nat.beq_refl, cond_true, Option.some.injEq] at hp
   subst hp
   exact hr s hu e hy
  ·simp only [getV, beq_ne hus, cond_false] at hp
   exact hr u hu p hp) hres hno hown
 have hq : ∀ v, q (upd (vl a) o.dst v) = q (vl a) := fun v => hc _ _ fun t ht => by
  have := List.all_eq_true.1 hn t ht
  rw [hd]
  show cond (Nat.beq d t) v (vl a t) = vl a t
  cases hb : Nat.beq d t
  ·rfl
  ·rw [hb] at this; cases this
 simp only [VE.at, hq] at h1 ⊢
 exact h1
end ops
end Go.Bn
namespace Go.Bn
open Go
theorem To.res {X : Cx} {Γ : Facts} {ρ : Env} {σ σ' : List Res} (k : Nat) {r r' : Res} (hr : nth σ k = some r) (h : ∀ c ob, r.H c ob → r'.H c ob) (hσ : setNth σ k r' = σ') : To X Γ ρ σ Γ ρ σ' := by
 subst hσ
 intro a c hs
 obtain ⟨obs, hown, hres⟩ := hs.own
 refine ⟨c, rfl, hs.size, hs.defers, hs.facts, hs.env, obs, hown, fun j q hj => ?_⟩
 rw [nth_setNth] at hj
 by_cases hjk : j = k
 ·rw [if_pos hjk] at hj
  subst hjk
  rw [hr] at hj
  cases hj
  exact h _ _ (hres j r hr)
 ·rw [if_neg hjk] at hj
  exact hres j q hj
theorem To.slot {X : Cx} {Γ : Facts} {ρ : Env} {σ : List Res} (t : Nat) {p q : SP} (hp : ρ.get t = some p) (h : Sb Γ p q) : To X Γ ρ σ Γ ((t, q) :: ρ) σ := fun a c hs =>
 ⟨c, rfl, hs.size, hs.defers, hs.facts, fun u r hr => by
  simp only [Env.get] at hr
  by_cases hu : t = u
  ·subst hu
   simp at hr
   subst hr
   exact h _ _ hs.facts (hs.env t _ hp)
  ·rw [beq_ne hu] at hr
   exact hs.env u r hr, hs.own⟩
end Go.Bn
namespace Go.Bn
open Go
section ops
variable {P : Program} {n : Nat} {ops : Array Oper} {Γ : Facts} {ρ : Env} {δ : VEnv} {τ : List VR}
theorem op_ver (s : Nat) {o : Oper} {e : VE} {acc : Acc} {q : Vl → Res} {r' : VR} (hd : o.dst = none) (hy : getV δ ρ s = some e)
  (h : ∀ f : Vl, OpOK P n ops Γ ρ ((s, .c (e.at f)) :: δ) τ o acc (.c anyp) (.c (q f))) (hc : ∀ f g : Vl, (∀ t, t ∈ e.D → f t = g t) → q f = q g) (he : r' = .d e.D q hc) : OpOK P n ops Γ ρ δ τ o acc (.c anyp) r' := by
 subst he
 intro a c ob hs hwf hf hr hres hno hown
 have h1 := h (vl a) a c ob hs hwf hf (fun u hu p hp => by
  by_cases hus : s = u
  ·subst hus
   simp only [getV, Nat.beq_refl, cond_true, Option.some.injEq] at hp
   subst hp
   exact hr s hu e hy
  ·simp only [getV, beq_ne hus, cond_false] at hp
   exact hr u hu p hp) hres hno hown
 rw [hd] at h1 ⊢
 exact h1
end ops
end Go.Bn
namespace Go.Bn
open Go
def expo (x : Nat) : Nat := x / 4503599627370496 % 2048
def frac (x : Nat) : Nat := x % 4503599627370496
def finB (x : Nat) : Bool := decide (expo x < 2047)
def clsI (x : Nat) : Int := if expo x = 2047 ∧ frac x ≠ 0 then 1 else if expo x = 2047 then 2 else if expo x = 0 ∧ frac x = 0 then 3 else if expo x = 0 then 4 else 5
theorem cls_finB {x : Nat} : (clsI x ≠ 1 ∧ clsI x ≠ 2) ↔ finB x = true := by
 unfold clsI finB
 have : expo x < 2048 := Nat.mod_lt _ (by omega)
 by_cases h1 : expo x = 2047
 ·by_cases h2 : frac x = 0 <;> simp [h1, h2]
 ·rw [if_neg (by simp [h1]), if_neg h1, decide_eq_true (by omega)]
  by_cases h3 : expo x = 0
  ·by_cases h4 : frac x = 0 <;> simp [h3, h4]
  ·simp [h3]
theorem cls_gt {x : Nat} : decide (2 < clsI x) = finB x := by
 unfold clsI finB
 have : expo x < 2048 := Nat.mod_lt _ (by omega)
 by_cases h1 : expo x = 2047
 ·by_cases h2 : frac x = 0 <;> simp [h1, h2]
 ·rw [if_neg (by simp [h1]), if_neg h1, decide_eq_true (by omega : expo x < 2047)]
  by_cases h3 : expo x = 0
  ·by_cases h4 : frac x = 0 <;> simp [h3, h4]
  ·simp [h3]
theorem ofInt_toNat (b : Nat) (h : b < 2 ^ 64) : (BitVec.ofInt 64 (b : Int)).toNat = b := by
 rw [BitVec.toNat_ofInt]
 omega
theorem wrapu (z : Nat) (h : z < 2 ^ 64) : IntKind.u64.wrap (z : Int) = z := by
 unfold IntKind.wrap
 simp [IntKind.bits, IntKind.signed]
 omega
theorem bits_and (a b : Nat) (ha : a < 2 ^ 64) (hb : b < 2 ^ 64) : bitsOf .and .u64 a b = ((a &&& b : Nat) : Int) := by
 show IntKind.u64.wrap ((BitVec.ofInt 64 (a : Int) &&& BitVec.ofInt 64 (b : Int)).toNat : Int) = _
 rw [BitVec.toNat_and, ofInt_toNat a ha, ofInt_toNat b hb]
 exact wrapu _ (Nat.lt_of_le_of_lt Nat.and_le_left ha)
theorem bits_or (a b : Nat) (ha : a < 2 ^ 64) (hb : b < 2 ^ 64) : bitsOf .or .u64 a b = ((a ||| b : Nat) : Int) := by
 show IntKind.u64.wrap ((BitVec.ofInt 64 (a : Int) ||| BitVec.ofInt 64 (b : Int)).toNat : Int) = _
 rw [BitVec.toNat_or, ofInt_toNat a ha, ofInt_toNat b hb]
 exact wrapu _ (Nat.or_lt_two_pow ha hb)
theorem bits_andNot (a b : Nat) (ha : a < 2 ^ 64) (hb : b < 2 ^ 64) : bitsOf .andNot .u64 a b = ((a &&& (2 ^ 64 - 1 - b) : Nat) : Int) := by
 show IntKind.u64.wrap ((BitVec.ofInt 64 (a : Int) &&& ~~~ BitVec.ofInt 64 (b : Int)).toNat : Int) = _
 rw [BitVec.toNat_and, BitVec.toNat_not, ofInt_toNat a ha, ofInt_toNat b hb]
 exact wrapu _ (Nat.lt_of_le_of_lt Nat.and_le_left ha)
theorem and_pow (a k : Nat) : a &&& (2 ^ k - 1) = a % 2 ^ k := Nat.and_two_pow_sub_one_eq_mod a k
theorem fdiv_nat (a b : Nat) (hb : 0 < b) : (a : Int).fdiv (b : Int) = ((a / b : Nat) : Int) := by
 rw [Int.fdiv_eq_ediv_of_nonneg _ (by omega)]
 rfl
theorem amount_bits (b : Nat) (h : b < 2 ^ 64) : bitsOf .andNot .u64 b 9223372036854775808 = ((b % 9223372036854775808 : Nat) : Int) := by
 rw [show (9223372036854775808 : Int) = ((9223372036854775808 : Nat) : Int) from rfl, bits_andNot b _ h (by decide)]
 rw [show (2 ^ 64 - 1 - 9223372036854775808 : Nat) = 2 ^ 63 - 1 by decide, and_pow]
theorem shr_bits (b k : Nat) (hk : k ≤ 64) : (b : Int).fdiv (2 ^ min ((k : Int)).toNat 64) = ((b / 2 ^ k : Nat) : Int) := by
 have e : min ((k : Int)).toNat 64 = k := by simp; omega
 rw [e, show (2 ^ k : Int) = ((2 ^ k : Nat) : Int) by simp, fdiv_nat _ _ (Nat.two_pow_pos _)]
end Go.Bn
namespace Go.Bn
open Go
theorem expo_bits {b : Nat} (hb : b < 2 ^ 64) : bitsOf .and .u64 ((cn b / 4503599627370496 : Nat) : Int) 2047 = ((expo (cn b) : Nat) : Int) := by
 have h := cn_lt hb
 rw [show (2047 : Int) = ((2047 : Nat) : Int) from rfl, bits_and _ _ (by omega) (by decide)]
 rw [show (2047 : Nat) = 2 ^ 11 - 1 by decide, and_pow]
 rfl
theorem expo_i64 (x : Nat) : IntKind.i64.wrap ((expo x : Nat) : Int) = ((expo x : Nat) : Int) := by
 have : expo x < 2048 := Nat.mod_lt _ (by omega)
 rw [IntKind.wrap_i64]; omega
theorem frac_bits {b : Nat} (hb : b < 2 ^ 64) : bitsOf .and .u64 ((cn b : Nat) : Int) 4503599627370495 = ((frac (cn b) : Nat) : Int) := by
 rw [show (4503599627370495 : Int) = ((4503599627370495 : Nat) : Int) from rfl, bits_and _ _ (cn_lt hb) (by decide)]
 rw [show (4503599627370495 : Nat) = 2 ^ 52 - 1 by decide, and_pow]
 rfl
end Go.Bn
namespace Go.Bn
open Go
theorem J_fl {X : Cx} {Γ : Facts} {ρ : Env} {σ : List Res} {k : Code} {Q : Exit → Act → World → Prop} (t : Nat) {x : Nat} (h : ρ.get t = some (flp x)) (hk : x < 2 ^ 64 → cn x = x → J X Γ ρ σ k Q) : J X Γ ρ σ k Q := fun a c hs => by
 obtain ⟨b, _, hb, rfl⟩ := hs.env t _ h
 exact hk (cn_lt hb) (cn_cn b) a c hs
theorem ford_self (x : Nat) : ford x x = if nanB x then none else some .eq := by
 unfold ford Ieee.Format.order nanB
 cases Ieee.double.read x with
 | nan n f => rfl
 | infinity n => cases n <;> rfl
 | number n m e => simp [Ieee.Datum.order, Ieee.Datum.isNaN, Std.ReflCmp.compare_self]
theorem fcmp_self (x : Nat) : fcmp .neq x x = nanB x := by
 unfold fcmp
 simp only [ford_self]
 cases nanB x <;> rfl
theorem bitp_isv {x : Nat} (h : nanB x = false) : ∀ v c, (bitp x).H v c → (isv (.int .u64 (x : Int))).H v c := by
 rintro v c ⟨b, h1, h2, h3⟩
 have : nanB b = false := by rw [← nanB_cn, h3]; exact h
 rw [cn_of_not this] at h3
 subst h3
 exact ⟨h1, rfl⟩
theorem all_no {α : Type} {f : α → Bool} {xs : List α} {k : Nat} (d : α) (hk : k < xs.length) (h : f (xs.getD k d) = false) : xs.all f = false := by
 cases hx : xs.all f
 ·rfl
 ·have := (List.all_eq_true.1 hx) (xs.getD k d) (by rw [List.getD, List.getElem?_eq_getElem hk]; exact List.getElem_mem hk)
  rw [h] at this; cases this
theorem all_take {α : Type} {f : α → Bool} {xs : List α} {k : Nat} (d : α) (hk : k < xs.length) (h1 : (xs.take k).all f = true) (h2 : f (xs.getD k d) = true) : (xs.take (k + 1)).all f = true := by
 rw [List.take_succ_eq_append_getElem hk, List.all_append, h1]
 have : xs.getD k d = xs[k] := by rw [List.getD, List.getElem?_eq_getElem hk]; rfl
 rw [this] at h2
 simp [h2]
theorem all_whole {α : Type} {f : α → Bool} {xs : List α} {k : Nat} (hk : xs.length ≤ k) (h1 : (xs.take k).all f = true) : xs.all f = true := by
 rwa [List.take_of_length_le hk] at h1
theorem take_snoc {α : Type} {xs : List α} {k : Nat} (d : α) (hk : k < xs.length) : xs.take (k + 1) = xs.take k ++ [xs.getD k d] := by
 rw [List.take_succ_eq_append_getElem hk, List.getD, List.getElem?_eq_getElem hk]; rfl
def clf (e f m : Int) : Int := if e = m ∧ f ≠ 0 then 1 else if e = m then 2 else if e = 0 ∧ f = 0 then 3 else if e = 0 then 4 else 5
theorem clf_cls (x : Nat) : clf (expo x) (frac x) 2047 = clsI x := by
 unfold clf clsI
 have e1 : ((expo x : Nat) : Int) = 2047 ↔ expo x = 2047 := by omega
 have e2 : ((frac x : Nat) : Int) = 0 ↔ frac x = 0 := by omega
 have e3 : ((expo x : Nat) : Int) = 0 ↔ expo x = 0 := by omega
 simp only [e1, e2, e3, ne_eq]
theorem mem_getD {α : Type} {xs : List α} {k : Nat} (d : α) (hk : k < xs.length) : xs.getD k d ∈ xs := by
 rw [List.getD, List.getElem?_eq_getElem hk]; exact List.getElem_mem hk
end Go.Bn
namespace Go.Bn
open Go
def fabs (x : Nat) : Nat := if nanB x then NAN else x % 9223372036854775808
theorem fabs_cn {b : Nat} : fabs (cn b) = cn (b % 9223372036854775808) := by
 unfold fabs
 rw [nanB_cn]
 cases h : nanB b
 ·rw [cn_of_not h]
  have : nanB (b % 9223372036854775808) = false := by
   rw [nanB_iff] at h ⊢
   rw [Nat.mod_mod]; exact h
  rw [cn_of_not this]
  simp
 ·have : nanB (b % 9223372036854775808) = true := by
   rw [nanB_iff] at h ⊢
   rw [Nat.mod_mod]; exact h
  rw [cn_of_nan this]
  simp
section ops
variable {P : Program} {n : Nat} {ops : Array Oper} {Γ : Facts} {ρ : Env} {δ : VEnv} {τ : List VR}
variable {d : Nat} {ty : TypeId} {pos : String} {af : Array Edge}
theorem op_absb {x : Operand} {t t' : TypeId} {a : Nat} (hx : Lk Γ δ ρ x (bitp a)) :
  OpOK P n ops Γ ρ δ τ ⟨some d, .binOp .andNot t x (.const (.int .u64 9223372036854775808)) t', ty, pos, af, none⟩ .no (.c (bitp (fabs a))) dum :=
 ok_pure fun A c _ hr => by
  obtain ⟨b, h1, h2, rfl⟩ := hr x _ (by simp [Op.operands]) hx
  have hz : bitsOf .andNot .u64 (b : Int) 9223372036854775808 = ((b % 9223372036854775808 : Nat) : Int) := by
   have h3 := bits_andNot b 9223372036854775808 h2 (by decide)
   rw [show ((9223372036854775808 : Int)) = ((9223372036854775808 : Nat) : Int) from rfl, h3, show 2 ^ 64 - 1 - 9223372036854775808 = 2 ^ 63 - 1 by decide, Nat.and_two_pow_sub_one_eq_mod]
  refine ⟨.int .u64 ((b % 9223372036854775808 : Nat) : Int), ?_, b % 9223372036854775808, rfl, by omega, fabs_cn.symm⟩
  rw [← hz]
  simp [execOp, eqGuard, binOp, Op.intBits, h1, bitsOf, show A.eval (.const (.int .u64 9223372036854775808)) = .int .u64 9223372036854775808 from rfl]
theorem op_bne {x y : Operand} {t t' : TypeId} {a b : Bool} (hT : P.underlying t = some .bool) (hx : Lk Γ δ ρ x (isv (.bool a))) (hy : Lk Γ δ ρ y (isv (.bool b))) :
  OpOK P n ops Γ ρ δ τ ⟨some d, .binOp .neq t x y t', ty, pos, af, none⟩ .no (.c (isv (.bool (a != b)))) dum :=
 ok_pure fun A c _ hr => by
  have h1 := (hr x _ (by simp [Op.operands]) hx).1
  have h2 := (hr y _ (by simp [Op.operands]) hy).1
  refine ⟨.bool (a != b), ?_, rfl, rfl⟩
  have hrun := run_neq_bool (P := P) c.w t a b hT
  have e : (!(a == b)) = (a != b) := rfl
  rw [e] at hrun
  simp [execOp, eqGuard, h1, h2, hrun]
end ops
end Go.Bn
namespace Go.Bn
open Go
section ops
variable {P : Program} {n : Nat} {ops : Array Oper} {Γ : Facts} {ρ : Env} {δ : VEnv} {τ : List VR}
variable {d : Nat} {ty : TypeId} {pos : String} {af : Array Edge}
theorem ok_newp {op : Op} {p : SP}
  (h : ∀ (a : Act) (c : EW), (∀ k, c.M k → k < c.w.heap.size) → FH Γ c → (∀ x q, x ∈ op.operands → Lk Γ δ ρ x q → q.H (a.eval x) c) → ∃ v, ((execOp a.eval ⟨some d, op, ty, pos, af, none⟩).run P c.w = .ok (.value v) c.w ∧ p.H v c) ∨
   ∃ (dr : Nat) (cur : Array Value) (T : TypeId), (execOp a.eval ⟨some d, op, ty, pos, af, none⟩).run P c.w = .ok (.value v) ({ c.w with drawn := dr }.alloc (.cells cur T)) ∧ ∀ c' : EW, Le c c' → ¬ c'.M c.w.heap.size → c'.w.heap[c.w.heap.size]? = some (.cells cur T (0, 0)) → p.H v c') :
  OpOK P n ops Γ ρ δ τ ⟨some d, op, ty, pos, af, none⟩ .no (.c p) dum := by
 intro a c ob hs hwf hf hr hres hno hown
 have hob := hno rfl
 subst hob
 obtain ⟨v, hv⟩ := h a c hwf hf (fun x q hx hq => Lk.val (o := ⟨some d, op, ty, pos, af, none⟩) hr hf hx hq)
 simp only [Region.wanted, if_true]
 unfold Does
 rcases hv with ⟨hex, hp⟩ | ⟨dr, cur, T, hex, hp⟩
 ·rw [hex]
  exact ⟨c, nob, rfl, Tr.refl hwf, hp, fun h => (by cases h)⟩
 ·rw [hex]
  have e : ({ c.w with drawn := dr }.alloc (.cells cur T)).heap.size = c.w.heap.size + 1 := by simp
  have htr : Tr c nob false ⟨{ c.w with drawn := dr }.alloc (.cells cur T), c.M⟩ nob :=
   ⟨rfl, rfl, rfl, by simp, fun j hj _ => heap_alloc_old { c.w with drawn := dr } _ j hj, fun j hj => ⟨id, .inl⟩, .inl rfl, fun j hj => by
    show j < ({ c.w with drawn := dr }.alloc (.cells cur T)).heap.size
    rw [e]
    have := hwf j hj; omega⟩
  refine ⟨_, nob, rfl, htr, hp _ (htr.le (fun _ h => by cases h)) (fun hm => ?_) (heap_alloc_new { c.w with drawn := dr } _), fun h => (by cases h)⟩
  have := hwf _ hm
  omega
theorem op_index_arr {x y : Operand} {T len E es off o' : Nat} {k : IntKind} {z : Int} {base : Value} (hT : arT P T = some (len, E, es)) (hx : Lk Γ δ ρ x (ipo base off)) (hy : Lk Γ δ ρ y (isv (.int k z))) (h0 : 0 ≤ z) (h1 : z < len) (ho : off + z.toNat * es = o') :
  OpOK P n ops Γ ρ δ τ ⟨some d, .indexAddr T x y, ty, pos, af, none⟩ .no (.c (ipo base o')) dum :=
 ok_pure fun a c _ hr => by
  subst ho
  obtain ⟨b, hb, hv⟩ := hr x _ (by simp [Op.operands]) hx
  have hz := (hr y _ (by simp [Op.operands]) hy).1
  unfold arT at hT
  cases hu : P.underlying T with
  | none => rw [hu] at hT; cases hT
  | some D =>
   rw [hu] at hT
   cases D <;> first | (cases hT; done) | skip
   rename_i len' E'
   simp only at hT
   cases hi : P.info? E' with
   | none => rw [hi] at hT; cases hT
   | some i =>
    rw [hi] at hT
    cases hT
    refine ⟨.pointer (some ⟨b, off + z.toNat * i.size, none⟩), ?_, b, hb, rfl⟩
    simp [execOp, Instr.indexAt, asIntOf, hv, hz, run_underlying hu, h0, h1, sizeOf, typeInfo, hi, Instr.sureAddr, addr_add]
theorem op_index_arr1 {x y : Operand} {T len E : Nat} {k : IntKind} {z : Int} {base : Value} (hT : arT P T = some (len, E, 1)) (hx : Lk Γ δ ρ x (ipo base 0)) (hy : Lk Γ δ ρ y (isv (.int k z))) (h0 : 0 ≤ z) (h1 : z < len) :
  OpOK P n ops Γ ρ δ τ ⟨some d, .indexAddr T x y, ty, pos, af, none⟩ .no (.c (ipo base z.toNat)) dum := op_index_arr hT hx hy h0 h1 (by omega)
end ops
end Go.Bn
