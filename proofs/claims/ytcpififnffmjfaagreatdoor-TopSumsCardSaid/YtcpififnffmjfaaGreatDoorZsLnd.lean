/-
 Memory that a call writes beside memory that it only reads; what a call has made, lasting at once.
-/
import Derived.Test.YtcpififnffmjfaaGreatDoorZsBik
import Derived.Test.YtcpififnffmjfaaGreatDoorZsSeg
set_option linter.unusedVariables false
set_option linter.unusedSimpArgs false
namespace Go.Bn
open Go
def SNI (p : SP) : Prop := ∀ v c, p.H v c → ∀ (k : IntKind) (z : Int), v ≠ Value.int k z
def NoI (r : Res) : Prop := ∀ c ob, r.H c ob → ∀ b, ob b → ∃ cur T fz, c.w.heap[b]? = some (.cells cur T fz) ∧ ∀ (i : Nat) (k : IntKind) (z : Int), cur[i]? ≠ some (Value.int k z)
theorem sni_bool (b : Bool) : SNI (isv (.bool b)) := fun v c h k z e => by rw [h.1] at e; cases e
theorem sni_ils {k : IntKind} {l : List Int} : SNI (ils k l) := fun v c h k z e => by
 rcases h.2 with ⟨h1, _⟩ | ⟨ad, cap, h1, _⟩ <;> (rw [h1] at e; cases e)
theorem noi_blk {u : Value} {cells : List SP} {T : TypeId} (h : ∀ i p, nth cells i = some p → SNI p) : NoI (blk u cells T) := fun c ob ⟨b, cur, h1, h2, h3, h4, h5⟩ b' hb => by
 rw [of1 h2 hb]
 refine ⟨cur, T, _, h3, fun i k z hi => ?_⟩
 have hl : i < cells.length := by
  have := (Array.getElem?_eq_some_iff.1 hi).1
  omega
 obtain ⟨p, hp⟩ : ∃ p, nth cells i = some p := ⟨cells[i], by rw [nth_eq]; exact List.getElem?_eq_getElem hl⟩
 obtain ⟨x, g1, _, g3⟩ := h5 i p hp
 rw [Nat.zero_add, hi] at g1
 cases g1
 exact h i p hp _ _ g3 k z rfl
theorem noi_int {u : Value} {x : Int} {T : TypeId} : NoI (blk u (intCJ x) T) := noi_blk fun i p hp => by
 match i, hp with
 | 0, hp => simp only [nth, Option.some.injEq] at hp; subst hp; exact sni_bool _
 | 1, hp => simp only [nth, Option.some.injEq] at hp; subst hp; exact sni_ils
 | _ + 2, hp => simp [nth] at hp
theorem ils_off {rp : Res} (h : NoI rp) {c : EW} {ob : Bs} {w' : World} {M : Nat → Prop} {v : Value} {xs : List Int} {k : IntKind} (hr : rp.H c ob) (hh : ∀ b, ob b → w'.heap[b]? = c.w.heap[b]?) (hv : (ils k xs).H v ⟨w', fun b => M b ∧ ¬ ob b⟩) : (ils k xs).H v ⟨w', M⟩ := by
 obtain ⟨h0, hv⟩ := hv
 refine ⟨h0, hv.imp id ?_⟩
 rintro ⟨ad, cap, h1, h2, h3, h4⟩
 refine ⟨ad, cap, h1, h2, h3, ?_⟩
 rcases h4 with h4 | ⟨b, off, e, hm, cur, T, fz, g1, g2⟩
 ·exact .inl h4
 by_cases hn : (xs.map (inp k)).length = 0
 ·exact .inl hn
 refine .inr ⟨b, off, e, fun hMb => ?_, cur, T, fz, g1, fun i p hp => ?_⟩
 ·have hob : ob b := Classical.byContradiction fun hc => hm ⟨hMb, hc⟩
  obtain ⟨cur', T', fz', q1, q2⟩ := h c ob hr b hob
  have g1' : c.w.heap[b]? = some (.cells cur T fz) := (hh b hob).symm.trans g1
  rw [q1] at g1'
  cases g1'
  cases xs with
  | nil => exact absurd rfl hn
  | cons x xs =>
   obtain ⟨u, p1, _, p3⟩ := g2 0 (inp k x) rfl
   exact q2 _ k x (by rw [p1, p3.1])
 ·obtain ⟨u, p1, p2, p3⟩ := g2 i p hp
  refine ⟨u, p1, p2, ?_⟩
  rw [nth_eq, List.getElem?_map] at hp
  cases hx : xs[i]? with
  | none => rw [hx] at hp; cases hp
  | some x => rw [hx] at hp; simp only [Option.map_some, Option.some.injEq] at hp; subst hp; exact p3
theorem int_off {rp : Res} (h : NoI rp) {u : Value} {x : Int} {T : TypeId} {c : EW} {ob : Bs} {w' : World} {M : Nat → Prop} {o1 : Bs} (hr : rp.H c ob) (hh : ∀ b, ob b → w'.heap[b]? = c.w.heap[b]?) (hv : (blk u (intCJ x) T).H ⟨w', fun b => M b ∧ ¬ ob b⟩ o1) : (blk u (intCJ x) T).H ⟨w', M⟩ o1 := by
 obtain ⟨b, cur, h1, h2, h3, h4, h5⟩ := hv
 refine ⟨b, cur, h1, h2, h3, h4, fun i p hp => ?_⟩
 obtain ⟨x, g1, g2, g3⟩ := h5 i p hp
 refine ⟨x, g1, g2, ?_⟩
 match i, hp with
 | 0, hp => simp only [nth, Option.some.injEq] at hp; subst hp; exact g3
 | 1, hp => simp only [nth, Option.some.injEq] at hp; subst hp; exact ils_off h hr hh g3
 | _ + 2, hp => simp [nth] at hp
def LendL (rp : Res) : List SP → List SP → Prop
 | [], [] => True
 | q :: qs, p :: ps => (q = p ∨ Lent rp q p) ∧ LendL rp qs ps
 | _, _ => False
theorem LendL.val {rp : Res} {c c1 : EW} {ob : Bs} (hr : rp.H c ob) (hle : Le c c1) (hob : ∀ b, ob b → c1.w.heap[b]? = c.w.heap[b]? ∧ ¬ c1.M b) : ∀ {qs ps : List SP} {vs : List Value}, LendL rp qs ps → HL qs vs c → HL ps vs c1
 | [], [], [], _, _ => trivial
 | q :: qs, p :: ps, v :: vs, ⟨h1, h2⟩, ⟨h3, h4⟩ => by
  refine ⟨?_, LendL.val hr hle hob h2 h4⟩
  rcases h1 with h1 | h1
  ·rw [← h1]; exact q.st _ _ _ hle h3
  ·exact h1 c c1 ob v hr h3 hle hob
 | [], _ :: _, _, h, _ => h.elim
 | _ :: _, [], _, h, _ => h.elim
 | [], [], _ :: _, _, h => h.elim
 | _ :: _, _ :: _, [], _, h => h.elim
theorem CtM.lend {P : Program} {f : Nat} {ps qs : List SP} {r r' rp : Res} {R : SP} (h : CtM P f ps r R r') (hl : LendL rp qs ps) (hR : R.Pure)
  (ho : ∀ c ob w' M o1, rp.H c ob → (∀ b, ob b → w'.heap[b]? = c.w.heap[b]?) → r'.H ⟨w', fun b => M b ∧ ¬ ob b⟩ o1 → r'.H ⟨w', M⟩ o1) : CtM P f qs (r.sep rp) R (r'.sep rp) := by
 refine ⟨h.1, fun vs c ob hwf ⟨hg, hv⟩ ⟨o1, o2, e, d, h1, h2⟩ hM => ?_⟩
 let c1 : EW := ⟨c.w, fun b => c.M b ∧ ¬ o2 b⟩
 have hle : Le c c1 := ⟨rfl, rfl, rfl, Nat.le_refl _, fun j _ hm => ⟨rfl, fun h => hm h.1⟩⟩
 have hv1 := hl.val h2 hle (fun b hb => ⟨rfl, fun h => h.2 hb⟩) hv
 refine (h.2 vs c1 o1 (fun j hj => hwf j hj.1) ⟨hg.le hle, hv1⟩ (r.fr c c1 o1 hle (fun _ _ => rfl) h1) fun b hb => ⟨hM b ((e b).2 (.inl hb)), fun hb2 => d b hb hb2⟩).mono fun en w' ⟨v, he, hxm, hR', hr'⟩ => ?_
 have heq : ∀ b, o2 b → w'.heap[b]? = c.w.heap[b]? := fun b hb => hxm.heap b (hwf b (hM b ((e b).2 (.inr hb)))) fun hb1 => d b hb1 hb
 have hle2 : Le c ⟨w', c.M⟩ := ⟨hxm.os, hxm.tape, hxm.out, hxm.size, fun k hk hm => ⟨hxm.heap k hk fun hb => hm (hM k ((e k).2 (.inl hb))), hm⟩⟩
 exact ⟨v, he, ⟨hxm.os, hxm.tape, hxm.out, hxm.size, fun k hk hn => hxm.heap k hk fun hb => hn ((e k).2 (.inl hb))⟩, hR _ _ _ hR', o1, o2, e, d, ho c o2 w' c.M o1 h2 heq hr', rp.fr c _ o2 hle2 heq h2⟩
theorem pure_ipo (u : Value) (o : Nat) : (ipo u o).Pure := fun _ _ _ h => h
def blkSep (s : Nat) (cells : List SP) (T : TypeId) (r : Res) : VR := .d [s] (fun f => (blk (f s) cells T).sep r) (fun f g h => by rw [h s (List.mem_singleton.2 rfl)])
section ops
variable {P : Program} {n : Nat} {ops : Array Oper} {Γ : Facts} {ρ : Env} {δ : VEnv} {τ : List VR}
variable {d : Nat} {ty : TypeId} {pos : String} {af : Array Edge}
theorem op_alloc_sep {T : TypeId} (k : Nat) {zs : List Value} {r : Res} (hz : zrT P T = some zs) (h1 : zs.all (·.oneCell') = true) (hk : nth τ k = some (.c r)) :
  OpOK P n ops Γ ρ δ τ ⟨some d, .alloc T, ty, pos, af, none⟩ (.wr k) (ptrAt d) (blkSep d (zs.map isv) T r) := by
 intro a c ob hs hwf hf hr hres hno hown
 obtain ⟨r0, hr0, hh⟩ := hres k rfl
 rw [hk] at hr0
 cases hr0
 have hh' : r.H c ob := hh
 simp only [Region.wanted, if_true]
 unfold Does
 unfold zrT at hz
 cases hi : P.info? T with
 | none => rw [hi] at hz; cases hz
 | some i =>
  rw [hi] at hz
  simp only [Option.bind_some] at hz
  cases hzz : i.zero with
  | none => rw [hzz] at hz; cases hz
  | some z =>
   rw [hzz] at hz
   simp only [Option.map_some, Option.some.injEq] at hz
   have hex : (execOp a.eval ⟨some d, .alloc T, ty, pos, af, none⟩).run P c.w = .ok (.value (.pointer (some ⟨c.w.heap.size, 0, none⟩))) (c.w.alloc (.cells z.cells T)) := by
    simp [execOp, Instr.alloc, zeroValue, typeInfo, hi, hzz, newVar, newRow]
   rw [hex]
   have hsz : z.cells.size = (zs.map isv).length := by rw [← hz]; simp
   have hcl : CL (zs.map isv) z.cells 0 ⟨c.w, c.M⟩ := fun i p hp => by
    rw [nth_eq, List.getElem?_map] at hp
    cases hu : zs[i]? with
    | none => rw [hu] at hp; cases hp
    | some u =>
     rw [hu] at hp
     cases hp
     have h1u : u.oneCell' = true := (List.all_eq_true.1 h1) u (List.mem_of_getElem? hu)
     refine ⟨u, ?_, h1u, rfl, h1u⟩
     rw [← hz, Array.getElem?_toList] at hu
     simpa using hu
   obtain ⟨h1, h2⟩ := new_blk (w := c.w) (M := c.M) hwf (T := T) hsz hcl
   have hle := h1.le (fun b hb => by cases hb)
   refine ⟨⟨c.w.alloc (.cells z.cells T), fun k => c.M k ∨ k = c.w.heap.size⟩, fun b => b = c.w.heap.size ∨ ob b, rfl, ⟨h1.os, h1.tape, h1.out, h1.size, fun j hj _ => h1.heap j hj (fun _ hb => by cases hb), fun j hj => ⟨(h1.mem j hj).1, fun e => .inl (.inl e)⟩, .inr ⟨rfl, fun b hb => ?_⟩, h1.lt⟩, ?_, fun _ => ?_⟩
   ·rcases hb with hb | hb
    ·subst hb; exact .inr ⟨Nat.le_refl _, .inr rfl⟩
    ·exact .inl hb
   ·simp only [ptrAt, VE.at, upd_eq]
    exact ⟨c.w.heap.size, .inl rfl, rfl⟩
   ·simp only [blkSep, VR.at, upd_eq]
    refine ⟨only c.w.heap.size, ob, fun b => Iff.rfl, fun b hb hb2 => ?_, h2, r.fr _ _ _ hle (fun b hb => h1.heap b (hown b hb).2 (fun _ hb => by cases hb)) hh'⟩
    have h9 : b = c.w.heap.size := hb
    have := (hown b hb2).2
    omega
theorem op_alloc_fz {T : TypeId} {zs : List Value} {cells : List SP} (hz : zrT P T = some zs) (hlen : cells.length = zs.length) (hc : ∀ i p, nth cells i = some p → ∃ u, zs[i]? = some u ∧ u.oneCell' = true ∧ ∀ c, p.H u c) :
  OpOK P n ops Γ ρ δ τ ⟨some d, .alloc T, ty, pos, af, none⟩ .no (.c (ptp cells)) dum := by
 intro a c ob hs hwf hf hr hres hno hown
 simp only [Region.wanted]
 unfold Does
 unfold zrT at hz
 cases hi : P.info? T with
 | none => rw [hi] at hz; cases hz
 | some i =>
  rw [hi] at hz
  simp only [Option.bind_some] at hz
  cases hzz : i.zero with
  | none => rw [hzz] at hz; cases hz
  | some z =>
   rw [hzz] at hz
   simp only [Option.map_some, Option.some.injEq] at hz
   have hex : (execOp a.eval ⟨some d, .alloc T, ty, pos, af, none⟩).run P c.w = .ok (.value (.pointer (some ⟨c.w.heap.size, 0, none⟩))) (c.w.alloc (.cells z.cells T)) := by
    simp [execOp, Instr.alloc, zeroValue, typeInfo, hi, hzz, newVar, newRow]
   rw [hex]
   have hsz : z.cells.size = cells.length := by rw [hlen, ← hz]; simp
   have hcl : CL cells z.cells 0 ⟨c.w, c.M⟩ := fun i p hp => by
    obtain ⟨u, hu, h1u, hH⟩ := hc i p hp
    refine ⟨u, ?_, h1u, hH _⟩
    rw [← hz, Array.getElem?_toList] at hu
    simpa using hu
   obtain ⟨h1, h2⟩ := new_blk (w := c.w) (M := c.M) hwf (T := T) hsz hcl
   let c' : EW := ⟨c.w.alloc (.cells z.cells T), c.M⟩
   have hle : Le ⟨c.w.alloc (.cells z.cells T), fun k => c.M k ∨ k = c.w.heap.size⟩ c' := ⟨rfl, rfl, rfl, Nat.le_refl _, fun j _ hm => ⟨rfl, fun h => hm (.inl h)⟩⟩
   refine ⟨c', ob, rfl, ⟨h1.os, h1.tape, h1.out, h1.size, fun j hj _ => h1.heap j hj (fun _ hb => by cases hb), fun j hj => ⟨id, .inl⟩, .inl rfl, fun j hj => Nat.lt_of_lt_of_le (hwf j hj) h1.size⟩, ?_, ?_⟩
   ·show (ptp cells).H _ c'
    exact frz_blk _ c' _ h2 hle fun b hb => ⟨rfl, fun hM => by
     have hb' : b = c.w.heap.size := hb
     have h9 : c.M b := hM
     have := hwf b h9
     omega⟩
   ·intro h; cases h
theorem op_alloc_int0 {T : TypeId} (hz : zrT P T = some [.bool false, .slice none 0 0]) : OpOK P n ops Γ ρ δ τ ⟨some d, .alloc T, ty, pos, af, none⟩ .no (.c (intPJ 0)) dum :=
 op_alloc_fz hz rfl fun i p hp => by
  match i, hp with
  | 0, hp => simp only [nth, Option.some.injEq] at hp; subst hp; exact ⟨_, rfl, rfl, fun c => ⟨rfl, rfl⟩⟩
  | 1, hp =>
   simp only [nth, Option.some.injEq] at hp
   subst hp
   refine ⟨_, rfl, rfl, fun c => ?_⟩
   have e : limbsJ (Int.natAbs 0) = [] := limbs_zeroJ
   show (ils .u64 (limbsJ (Int.natAbs 0))).H _ c
   rw [e]
   exact slm_nil
  | _ + 2, hp => simp [nth] at hp
theorem op_callSF {f s : Nat} {xs xs' : List Operand} {ps : List SP} {cells cells' : List SP} {T' : TypeId} {r : Res} {ats : Array TypeId} (k : Nat) (hy : getV δ ρ s = some (ptrAt s)) (hk : nth τ k = some (blkSep s cells T' r)) (hf : ∀ u : Value, CtM P f (ipo u 0 :: ps) ((blk u cells T').sep r) (ipo u 0) ((blk u cells' T').sep r)) (hxs : xs = .tmp s :: xs') (hx : LkL Γ δ ρ xs' ps) :
  OpOK P n ops Γ ρ δ τ ⟨some d, .call ⟨.value (.func f), xs.toArray, ats⟩, ty, pos, af, none⟩ (.wr k) (.c (ptp cells')) (.c r) := by
 intro a c ob hs hwf hfa hr hres hno hown
 obtain ⟨r0, hr0, hh⟩ := hres k rfl
 rw [hk] at hr0
 cases hr0
 have hh' : ((blk (vl a s) cells T').sep r).H c ob := hh
 have hp : (ipo (vl a s) 0).H (a.eval (.tmp s)) c := hr s (List.mem_append_left _ (List.mem_filterMap.2 ⟨.tmp s, by simp [Op.operands, Call.operands, hxs], rfl⟩)) _ hy
 have hv0 := hx.val (a := a) (c := c) fun x q hx' hq => Lk.val (o := ⟨some d, .call ⟨.value (.func f), xs.toArray, ats⟩, ty, pos, af, none⟩) hr hfa (by simp [Op.operands, Call.operands, hxs, hx']) hq
 have hv : HL (ipo (vl a s) 0 :: ps) (xs.map a.eval) c := by rw [hxs]; exact ⟨hp, hv0⟩
 simp only [Region.wanted, if_true]
 unfold Does
 have hex : (execOp a.eval ⟨some d, .call ⟨.value (.func f), xs.toArray, ats⟩, ty, pos, af, none⟩).run P c.w = .ok (.enter f (xs.map a.eval).toArray) c.w := by
  have h1 := run_callFunc (hf (vl a s)).1 (xs.map a.eval).toArray c.w
  simp [execOp, resolve, Deferred.ofValue, Act.eval, invoke, h1]
 rw [hex]
 refine ((hf (vl a s)).2 _ c ob hwf ⟨hfa.2, hv⟩ hh' fun b hb => (hown b hb).1).mono fun e w' ⟨v, he, hxm, hR, o1, o2, e1, d1, hb1, hr2⟩ => ?_
 let c' : EW := ⟨w', fun b => c.M b ∧ ¬ o1 b⟩
 have hle : Le ⟨w', c.M⟩ c' := ⟨rfl, rfl, rfl, Nat.le_refl _, fun j _ hm => ⟨rfl, fun h => hm h.1⟩⟩
 refine ⟨v, he, c', o2, rfl, ⟨hxm.os, hxm.tape, hxm.out, hxm.size, fun j hj hne => hxm.heap j hj (hne rfl), fun j hj => ⟨fun h => h.1, fun h => ?_⟩, .inr ⟨rfl, fun b hb => .inl ((e1 b).2 (.inr hb))⟩, fun j hj => Nat.lt_of_lt_of_le (hwf j hj.1) hxm.size⟩, ?_, fun _ => ?_⟩
 ·by_cases ho : o1 j
  ·exact .inr ⟨rfl, (e1 j).2 (.inl ho), fun h2 => d1 j ho h2⟩
  ·exact .inl ⟨h, ho⟩
 ·have hfz := frz_blk _ c' o1 hb1 hle fun b hb => ⟨rfl, fun h => h.2 hb⟩
  obtain ⟨b, cur, g1, g2, _⟩ := hb1
  obtain ⟨b', g3, g4⟩ := hR
  rw [g1] at g3
  have hvb : v = vl a s := by
   rw [g1]
   rcases g3 with g3 | ⟨_, _, g3⟩
   ·cases g3; exact g4
   ·cases g3
  show (ptp cells').H v c'
  rw [hvb]; exact hfz
 ·exact r.fr _ _ _ hle (fun _ _ => rfl) hr2
end ops
end Go.Bn
namespace Go.Bn
open Go
theorem CtM.oneI {P : Program} {f : Nat} {u w : Value} {p q p' q' : SP} {cs : List SP} {z x : Int} {T T2 : TypeId} (h : CtM P f [ipo u 0, p', q'] (blk u cs T) (ipo u 0) (blk u (intCJ z) T)) (hp : p = p' ∨ Lent (blk w (intCJ x) T2) p p') (hq : q = q' ∨ Lent (blk w (intCJ x) T2) q q') : CtM P f [ipo u 0, p, q] ((blk u cs T).sep (blk w (intCJ x) T2)) (ipo u 0) ((blk u (intCJ z) T).sep (blk w (intCJ x) T2)) :=
 h.lend ⟨.inl rfl, hp, hq, trivial⟩ (pure_ipo _ _) fun c ob w' M o1 hr hh hv => int_off noi_int hr hh hv
end Go.Bn
