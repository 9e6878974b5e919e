/-
  The logic of walks, fifth part: fields, indexes, slices, structs, floats; guards.
-/
import Derived.Test.YtcnffgbncbadbaaMem
import Derived.Laws.OwnMore
set_option linter.unusedVariables false
set_option linter.unusedSimpArgs false
namespace Go.Bn
open Go

theorem nth_map {α β : Type} (f : α → β) (l : List α) (i : Nat) : nth (l.map f) i = (nth l i).map f := by simp [nth_eq]
theorem nth_getD {α : Type} {l : List α} {i : Nat} (d : α) (h : i < l.length) : nth l i = some (l.getD i d) := by
  rw [nth_eq, List.getElem?_eq_getElem h]; simp [List.getD, List.getElem?_eq_getElem h]
theorem nth_lt {α : Type} {l : List α} {i : Nat} {x : α} (h : nth l i = some x) : i < l.length := by
  rw [nth_eq] at h; exact (List.getElem?_eq_some_iff.1 h).1

section ops
variable {P : Program} {n : Nat} {ops : Array Oper} {Γ : Facts} {ρ : Env} {δ : VEnv} {τ : List VR}
variable {d : Nat} {ty : TypeId} {pos : String} {af : Array Edge}

/-! ### Fields -/
theorem run_fieldAt {S i o m : Nat} (h : fdT P S i = some (o, m)) (w : World) (b off : Nat) :
    (Instr.fieldAt S (.pointer (some ⟨b, off, none⟩)) i).run P w = .ok (.pointer (some ⟨b, off + o, none⟩)) w := by
  unfold fdT at h
  cases hu : P.underlying S with
  | none => rw [hu] at h; cases h
  | some D =>
    rw [hu] at h
    cases D <;> first | (cases h; done) | skip
    rename_i fs
    simp only at h
    cases hf : fs[i]? with
    | none => rw [hf] at h; cases h
    | some f =>
      rw [hf] at h
      simp only at h
      cases hi : P.info? f.type with
      | none => rw [hi] at h; cases h
      | some inf =>
        rw [hi] at h
        simp only at h
        by_cases h0 : inf.size = 0
        · rw [if_pos h0] at h; cases h
        · rw [if_neg h0] at h
          cases h
          simp [Instr.fieldAt, run_underlying hu, hf, Instr.sureAddr, fieldPlace, sizeOf, typeInfo, hi, h0, addr_add]
theorem op_field_ptr {x : Operand} {S i o m : Nat} {cells cells' : List SP} (hF : fdT P S i = some (o, m)) (hx : Lk Γ δ ρ x (ptp cells)) (hs : subl o m cells = some cells') :
    OpOK P n ops Γ ρ δ τ ⟨some d, .fieldAddr S x i, ty, pos, af, none⟩ .no (.c (ptp cells')) dum :=
  ok_pure fun a c _ hr => by
    obtain ⟨b, off, cur, U, fz, h1, h2, h3, h4⟩ := hr x _ (by simp [Op.operands]) hx
    obtain ⟨g1, g2, g3⟩ := subl_spec hs
    refine ⟨.pointer (some ⟨b, off + o, none⟩), by simp only [execOp, h1, Sem.run_bind, run_fieldAt hF, Result.andThen_ok, Sem.run_pure], b, off + o, cur, U, fz, rfl, h2, h3, fun j p hp => ?_⟩
    have hj := nth_lt hp
    rw [g3 j (by omega)] at hp
    obtain ⟨u, hu, h5, h6⟩ := h4 (o + j) p hp
    exact ⟨u, by rw [← hu]; congr 1; omega, h5, h6⟩
theorem op_field_own {x : Operand} {S i o m o' off : Nat} {base : Value} (hF : fdT P S i = some (o, m)) (hx : Lk Γ δ ρ x (ipo base off)) (ho : off + o = o') :
    OpOK P n ops Γ ρ δ τ ⟨some d, .fieldAddr S x i, ty, pos, af, none⟩ .no (.c (ipo base o')) dum :=
  ok_pure fun a c _ hr => by
    subst ho
    obtain ⟨b, hb, hv⟩ := hr x _ (by simp [Op.operands]) hx
    exact ⟨.pointer (some ⟨b, off + o, none⟩), by simp only [execOp, hv, Sem.run_bind, run_fieldAt hF, Result.andThen_ok, Sem.run_pure], b, hb, rfl⟩
/-- A field of a struct value. -/
theorem op_fieldv_sc {x : Operand} {S i o m T : Nat} {cells : List SP} {p : SP} (hF : fdT P S i = some (o, m)) (hT : fieldT P S i = some T) (hsc : scT P T = true) (hx : Lk Γ δ ρ x (aggp cells)) (hp : nth cells o = some p) :
    OpOK P n ops Γ ρ δ τ ⟨some d, .field S x i, ty, pos, af, none⟩ .no (.c p) dum :=
  ok_pure fun a c _ hr => by
    obtain ⟨cs, h1, h2, h3⟩ := hr x _ (by simp [Op.operands]) hx
    obtain ⟨u, hu, h4, h5⟩ := h3 o p hp
    rw [Nat.zero_add] at hu
    refine ⟨u, ?_, h5⟩
    unfold fdT at hF
    unfold fieldT at hT
    cases hU : P.underlying S with
    | none => rw [hU] at hF; cases hF
    | some D =>
      rw [hU] at hF hT
      cases D <;> first | (cases hF; done) | skip
      rename_i fs
      simp only at hF hT
      cases hf : fs[i]? with
      | none => rw [hf] at hF; cases hF
      | some f =>
        rw [hf] at hF hT
        simp only [Option.map_some, Option.some.injEq] at hT
        subst hT
        have ho : f.offset = o := by
          simp only at hF
          split at hF
          · split at hF
            · cases hF
            · cases hF; rfl
          · cases hF
        subst ho
        simp [execOp, Instr.field, run_underlying hU, hf, h1, asAgg, part, run_isAgg_sc hsc, hu]
theorem op_fieldv_ag {x : Operand} {S i o m m' T : Nat} {cells cells' : List SP} (hF : fdT P S i = some (o, m)) (hT : fieldT P S i = some T) (hag : agT P T = some m') (hx : Lk Γ δ ρ x (aggp cells)) (hs : subl o m' cells = some cells') :
    OpOK P n ops Γ ρ δ τ ⟨some d, .field S x i, ty, pos, af, none⟩ .no (.c (aggp cells')) dum :=
  ok_pure fun a c _ hr => by
    obtain ⟨cs, h1, h2, h3⟩ := hr x _ (by simp [Op.operands]) hx
    obtain ⟨g1, g2, g3⟩ := subl_spec hs
    have hcl := sub_CL (off := 0) hs h3 (by omega)
    rw [Nat.zero_add] at hcl
    refine ⟨.agg (cs.extract o (o + m')), ?_, _, rfl, by simp; omega, hcl⟩
    unfold fdT at hF
    unfold fieldT at hT
    cases hU : P.underlying S with
    | none => rw [hU] at hF; cases hF
    | some D =>
      rw [hU] at hF hT
      cases D <;> first | (cases hF; done) | skip
      rename_i fs
      simp only at hF hT
      cases hf : fs[i]? with
      | none => rw [hf] at hF; cases hF
      | some f =>
        rw [hf] at hF hT
        simp only [Option.map_some, Option.some.injEq] at hT
        subst hT
        have ho : f.offset = o := by
          simp only at hF
          split at hF
          · split at hF
            · cases hF
            · cases hF; rfl
          · cases hF
        subst ho
        simp [execOp, Instr.field, run_underlying hU, hf, h1, asAgg, part, run_isAgg_ag hag, run_sz (agT_sz hag)]

/-! ### Slices: length, index, part -/
theorem slT_u {T E es eb : Nat} (h : slT P T = some (E, es, eb)) : P.underlying T = some (.slice E) ∧ ∃ i, P.info? E = some i ∧ i.size = es ∧ i.bytes = eb := by
  unfold slT at h
  split at h
  · rename_i e he
    cases hi : P.info? e with
    | none => rw [hi] at h; cases h
    | some i => rw [hi] at h; cases h; exact ⟨he, i, hi, rfl, rfl⟩
  · cases h
theorem op_len {x : Operand} {t : TypeId} {m kk : Nat} {cells : List SP} {E es eb : Nat} (ht : slT P t = some (E, es, eb)) (hx : Lk Γ δ ρ x (slc m kk cells)) :
    OpOK P n ops Γ ρ δ τ ⟨some d, .call ⟨.builtin .len, #[x], #[t]⟩, ty, pos, af, none⟩ .no (.c (isv (.int .i64 (m : Int)))) dum :=
  ok_pure fun a c _ hr => by
    obtain ⟨_, hv⟩ := hr x _ (by simp [Op.operands, Call.operands]) hx
    have hsv : ∃ ad cap, a.eval x = .slice ad m cap := by
      rcases hv with ⟨h1, h2⟩ | ⟨ad, cap, h1, _⟩
      · exact ⟨none, 0, by rw [h1, h2]⟩
      · exact ⟨_, cap, h1⟩
    obtain ⟨ad, cap, hsv⟩ := hsv
    refine ⟨.int .i64 m, ?_, rfl, rfl⟩
    simp [execOp, resolve, invoke, builtin, Builtin.len_, hsv, run_underlying (slT_u ht).1, goInt]
theorem run_indexAt {T E es eb : Nat} (ht : slT P T = some (E, es, eb)) (w : World) {b off len cap : Nat} {k : IntKind} {z : Int} (h0 : 0 ≤ z) (h1 : z < (len : Int)) :
    (Instr.indexAt T (.slice (some ⟨b, off, none⟩) len cap) (.int k z)).run P w = .ok (.pointer (some ⟨b, off + z.toNat * es, none⟩)) w := by
  obtain ⟨hu, i, hi, hs, _⟩ := slT_u ht
  simp [Instr.indexAt, asIntOf, run_underlying hu, h0, h1, sizeOf, typeInfo, hi, hs, addr_add]
/-- Index into a slice of one-cell elements. -/
theorem op_index {x y : Operand} {T : TypeId} {E eb : Nat} {k : IntKind} {z : Int} {m : Nat} {cells : List SP} {p : SP} (ht : slT P T = some (E, 1, eb)) (hx : Lk Γ δ ρ x (slc m 1 cells)) (hy : Lk Γ δ ρ y (isv (.int k z))) (h0 : 0 ≤ z) (hp : nth cells z.toNat = some p) :
    OpOK P n ops Γ ρ δ τ ⟨some d, .indexAddr T x y, ty, pos, af, none⟩ .no (.c (ptp [p])) dum :=
  ok_pure fun a c _ hr => by
    obtain ⟨hl, hv⟩ := hr x _ (by simp [Op.operands]) hx
    have hz := (hr y _ (by simp [Op.operands]) hy).1
    have hzl := nth_lt hp
    rcases hv with ⟨h1, h2⟩ | ⟨ad, cap, h1, h2, h3, h4⟩
    · subst h2; omega
    · have hm : m = cells.length := by omega
      rcases h4 with h4 | ⟨b, off, ha, h4, cur, U, fz, h5, h6⟩
      · omega
      · subst ha
        have hrun := run_indexAt (P := P) ht c.w (b := b) (off := off) (len := m) (cap := cap) (k := k) (z := z) h0 (by omega)
        refine ⟨.pointer (some ⟨b, off + z.toNat * 1, none⟩), by simp only [execOp, h1, hz, Sem.run_bind, hrun, Result.andThen_ok, Sem.run_pure], b, off + z.toNat * 1, cur, U, fz, rfl, h4, h5, fun j q hq => ?_⟩
        have hj : j = 0 := by have := nth_lt hq; simp at this; omega
        subst hj
        simp only [nth, Option.some.injEq] at hq
        subst hq
        obtain ⟨u, hu, g⟩ := h6 z.toNat p hp
        exact ⟨u, by simpa using hu, g⟩
/-- Index into a slice of elements of es cells each. -/
theorem op_index_k {x y : Operand} {T : TypeId} {E es eb : Nat} {k : IntKind} {z : Int} {m : Nat} {cells cells' : List SP} (ht : slT P T = some (E, es, eb)) (hx : Lk Γ δ ρ x (slc m es cells)) (hy : Lk Γ δ ρ y (isv (.int k z))) (h0 : 0 ≤ z) (h1 : z < m) (hp : ∀ j p, nth cells' j = some p → nth cells (z.toNat * es + j) = some p) :
    OpOK P n ops Γ ρ δ τ ⟨some d, .indexAddr T x y, ty, pos, af, none⟩ .no (.c (ptp cells')) dum :=
  ok_pure fun a c _ hr => by
    obtain ⟨hl, hv⟩ := hr x _ (by simp [Op.operands]) hx
    have hz := (hr y _ (by simp [Op.operands]) hy).1
    rcases hv with ⟨h1', h2⟩ | ⟨ad, cap, h1', h2, h3, h4⟩
    · subst h2; omega
    · rcases h4 with h4 | ⟨b, off, ha, h4, cur, U, fz, h5, h6⟩
      · omega
      · subst ha
        have hrun := run_indexAt (P := P) ht c.w (b := b) (off := off) (len := m) (cap := cap) (k := k) (z := z) h0 h1
        refine ⟨.pointer (some ⟨b, off + z.toNat * es, none⟩), by simp only [execOp, h1', hz, Sem.run_bind, hrun, Result.andThen_ok, Sem.run_pure], b, off + z.toNat * es, cur, U, fz, rfl, h4, h5, fun j q hq => ?_⟩
        obtain ⟨u, hu, g⟩ := h6 _ q (hp j q hq)
        exact ⟨u, by rw [← hu]; congr 1; omega, g⟩
/-- Index into a slice that is owned. -/
theorem op_index_own {x y : Operand} {T : TypeId} {E es eb : Nat} {ki : IntKind} {z : Int} {m : Nat} {cells : List SP} {sv : Value} {T' : Nat} (k : Nat) (ht : slT P T = some (E, es, eb)) (hx : Lk Γ δ ρ x (isv sv)) (hy : Lk Γ δ ρ y (isv (.int ki z))) (hk : nth τ k = some (.c (osl sv m es cells T'))) (h0 : 0 ≤ z) (h1 : z < m) :
    OpOK P n ops Γ ρ δ τ ⟨some d, .indexAddr T x y, ty, pos, af, none⟩ (.rd k) (.c (ipo sv (z.toNat * es))) dum :=
  ok_read hk fun a c ob _ hr hh => by
    have hv := (hr x _ (by simp [Op.operands]) hx).1
    have hz := (hr y _ (by simp [Op.operands]) hy).1
    rcases hh.2 with ⟨_, h2, _⟩ | ⟨b, cap, cur, h2, h3, h4, h5, h6, h7⟩
    · omega
    · have hrun := run_indexAt (P := P) ht c.w (b := b) (off := 0) (len := m) (cap := cap) (k := ki) (z := z) h0 h1
      rw [Nat.zero_add] at hrun
      exact ⟨.pointer (some ⟨b, z.toNat * es, none⟩), by simp only [execOp, hv, h2, hz, Sem.run_bind, hrun, Result.andThen_ok, Sem.run_pure], b, .inr ⟨m, cap, h2⟩, rfl⟩
/-- A part of a slice. -/
theorem op_slice {x lo hi : Operand} {T : TypeId} {E es eb : Nat} {k1 k2 : IntKind} {l h : Int} {m m' : Nat} {cells cells' : List SP} (ht : slT P T = some (E, es, eb)) (hx : Lk Γ δ ρ x (slc m es cells)) (hlo : Lk Γ δ ρ lo (isv (.int k1 l))) (hhi : Lk Γ δ ρ hi (isv (.int k2 h)))
    (h0 : 0 ≤ l) (h1 : l ≤ h) (h2 : h ≤ m) (hm : h - l = m') (hlen : cells'.length = m' * es) (hp : ∀ j p, nth cells' j = some p → nth cells (l.toNat * es + j) = some p) :
    OpOK P n ops Γ ρ δ τ ⟨some d, .slice T x (some lo) (some hi) none, ty, pos, af, none⟩ .no (.c (slc m' es cells')) dum :=
  ok_pure fun a c _ hr => by
    obtain ⟨hl, hv⟩ := hr x _ (by simp [Op.operands]) hx
    have hz1 := (hr lo _ (by simp [Op.operands]) hlo).1
    have hz2 := (hr hi _ (by simp [Op.operands]) hhi).1
    obtain ⟨hu, i, hi', hs, _⟩ := slT_u ht
    have hm' : h.toNat - l.toNat = m' := by omega
    rcases hv with ⟨h3, h4⟩ | ⟨ad, cap, h3, h4, h5, h6⟩
    · subst h4
      have hl0 : l = 0 := by omega
      have hh0 : h = 0 := by omega
      subst hl0; subst hh0
      have hm0 : m' = 0 := by omega
      subst hm0
      refine ⟨.slice none 0 0, ?_, hlen, .inl ⟨rfl, rfl⟩⟩
      simp [execOp, Instr.sliceAt, Instr.slice, run_underlying hu, h3, hz1, hz2, Instr.sliceBounds, Instr.sliceBound, asIntOf, sizeOf, typeInfo, hi']
    · have c1 : h ≤ (cap : Int) := by omega
      have c2 : 0 ≤ h := by omega
      have c3 : l ≤ (h.toNat : Int) := by omega
      by_cases hc : cap = l.toNat
      · have hm0 : m' = 0 := by omega
        have c4 : l ≤ max h 0 := by omega
        have c6 : h ≤ max l 0 := by omega
        have c7 : h.toNat - l.toNat = 0 := by omega
        refine ⟨.slice (some ad) 0 (cap - l.toNat), ?_, by subst hm0; exact hlen, .inr ⟨ad, cap - l.toNat, by rw [hm0], by omega, Nat.le_trans (Nat.sub_le _ _) h5, .inl hm0⟩⟩
        simp [execOp, Instr.sliceAt, Instr.slice, run_underlying hu, h3, hz1, hz2, Instr.sliceBounds, Instr.sliceBound, asIntOf, sizeOf, typeInfo, hi', c1, c2, c3, h0, hc, c4, c6, c7]
      · refine ⟨.slice (some (ad.add (l.toNat * es))) m' (cap - l.toNat), ?_, hlen, .inr ⟨ad.add (l.toNat * es), cap - l.toNat, rfl, by omega, Nat.le_trans (Nat.sub_le _ _) h5, ?_⟩⟩
        · have c4 : l ≤ max h 0 := by omega
          have c5 : ¬ max h 0 < l := by omega
          simp [execOp, Instr.sliceAt, Instr.slice, run_underlying hu, h3, hz1, hz2, Instr.sliceBounds, Instr.sliceBound, asIntOf, sizeOf, typeInfo, hi', hs, c1, c2, c4, c5, h0, hc, hm']
        · rcases h6 with h6 | ⟨b, off, ha, h6, cur, U, fz, h7, h8⟩
          · exact .inl (by omega)
          · subst ha
            refine .inr ⟨b, off + l.toNat * es, addr_add _ _ _, h6, cur, U, fz, h7, fun j p hj => ?_⟩
            obtain ⟨u, hu', g⟩ := h8 _ p (hp j p hj)
            exact ⟨u, by rw [← hu']; congr 1; omega, g⟩

/-! ### New slices -/
def slAt (d : Nat) : VE := .d [d] (fun f => isv (f d)) (fun f g h => by rw [h d (List.mem_singleton.2 rfl)])
def oslAt (d m k : Nat) (cells : List SP) (T : TypeId) : VR := .d [d] (fun f => osl (f d) m k cells T) (fun f g h => by rw [h d (List.mem_singleton.2 rfl)])
theorem ok_new {op : Op} (k : Nat) {T m kk : Nat} {cells : List SP} (hk : nth τ k = some (.c emp)) (hlen : cells.length = m * kk)
    (h : ∀ (a : Act) (c : EW), FH Γ c → (∀ x q, x ∈ op.operands → Lk Γ δ ρ x q → q.H (a.eval x) c) → ∃ cap cur, (execOp a.eval ⟨some d, op, ty, pos, af, none⟩).run P c.w = .ok (.value (.slice (some ⟨c.w.heap.size, 0, none⟩) m cap)) (c.w.alloc (.cells cur T)) ∧ m ≤ cap ∧ cap ≤ maxLen ∧ cur.size = cap * kk ∧ CL cells cur 0 c) :
    OpOK P n ops Γ ρ δ τ ⟨some d, op, ty, pos, af, none⟩ (.wr k) (slAt d) (oslAt d m kk cells T) := by
  intro a c ob hs hwf hf hr hres hno hown
  obtain ⟨r0, hr0, hh⟩ := hres k rfl
  rw [hk] at hr0
  cases hr0
  have hob : ob = none := hh
  subst hob
  obtain ⟨cap, cur, hex, h1, h2, h3, h4⟩ := h a c hf (fun x q hx hq => Lk.val (o := ⟨some d, op, ty, pos, af, none⟩) hr hf hx hq)
  simp only [Region.wanted, if_true]
  unfold Does
  rw [hex]
  have htr : Tr c none true ⟨c.w.alloc (.cells cur T), fun k => c.M k ∨ k = c.w.heap.size⟩ (some c.w.heap.size) := by
    refine ⟨rfl, rfl, rfl, by simp, fun j hj _ => heap_alloc_old c.w _ j hj, fun j hj => ⟨fun h => h.resolve_right (by omega), .inl⟩, .inr ⟨rfl, c.w.heap.size, rfl, Nat.le_refl _, .inr rfl⟩, fun j hj => ?_⟩
    have e : (c.w.alloc (.cells cur T)).heap.size = c.w.heap.size + 1 := by simp
    show j < (c.w.alloc (.cells cur T)).heap.size
    rw [e]
    rcases hj with h | h
    · have := hwf j h; omega
    · omega
  refine ⟨_, _, rfl, htr, ?_, fun _ => ?_⟩
  · simp only [slAt, VE.at, upd_eq]
    exact ⟨rfl, rfl⟩
  · simp only [oslAt, VR.at, upd_eq]
    exact ⟨hlen, .inr ⟨c.w.heap.size, cap, cur, rfl, rfl, h1, h2, heap_alloc_new c.w _, h3, h4.st (htr.le (fun _ h => by cases h))⟩⟩
theorem op_make {x y : Operand} {T E es eb : Nat} (k : Nat) {k1 k2 : IntKind} {l h : Int} {m : Nat} {zs : List Value} {cells : List SP} (ht : slT P T = some (E, es, eb)) (hz : zrT P E = some zs) (hz1 : zs.all (·.oneCell') = true) (hzl : Nat.beq zs.length es = true) (hx : Lk Γ δ ρ x (isv (.int k1 l))) (hy : Lk Γ δ ρ y (isv (.int k2 h)))
    (h0 : 0 ≤ l) (h1 : l ≤ h) (hb : eb * h ≤ 281474976710656) (h63 : h ≤ 9223372036854775807) (hm : l.toNat = m) (hc : cells.length = m * es) (hcs : ∀ i p, nth cells i = some p → ∃ z, nth zs (i % es) = some z ∧ isv z = p) (hk : nth τ k = some (.c emp)) :
    OpOK P n ops Γ ρ δ τ ⟨some d, .makeSlice T x y, ty, pos, af, none⟩ (.wr k) (slAt d) (oslAt d m es cells E) :=
  ok_new k hk hc fun a c _ hr => by
    have v1 := (hr x _ (by simp [Op.operands]) hx).1
    have v2 := (hr y _ (by simp [Op.operands]) hy).1
    obtain ⟨hu, i, hi, hs, hbb⟩ := slT_u ht
    unfold zrT at hz
    rw [hi] at hz
    simp only [Option.bind_some] at hz
    cases hzz : i.zero with
    | none => rw [hzz] at hz; cases hz
    | some z =>
      rw [hzz] at hz
      simp only [Option.map_some, Option.some.injEq] at hz
      have hrun := run_make (P := P) c.w T E i z hu hi hzz k1 k2 l h h0 h1 (by rw [hbb]; exact hb) h63
      rw [hm, hs] at hrun
      refine ⟨h.toNat, madeCells z.cells (h.toNat * es), by simp only [execOp, v1, v2, Sem.run_bind, hrun, Result.andThen_ok, Sem.run_pure], by omega, by simp only [maxLen]; omega, size_madeCells _ _, fun j p hj => ?_⟩
      obtain ⟨zv, hzv, hp⟩ := hcs j p hj
      have hjl := nth_lt hj
      have hle : m * es ≤ h.toNat * es := Nat.mul_le_mul_right _ (by omega)
      have hzs : z.cells.size = es := by
        have : zs.length = es := Nat.eq_of_beq_eq_true hzl
        rw [← hz] at this
        simpa using this
      have hone : zv.oneCell' = true := (List.all_eq_true.1 hz1) zv (by rw [nth_eq] at hzv; exact List.mem_of_getElem? hzv)
      refine ⟨zv, ?_, hone, hp ▸ ⟨rfl, hone⟩⟩
      have hjc : j < h.toNat * es := by omega
      rw [Nat.zero_add]
      simp only [madeCells, Array.getElem?_map, hzs]
      rw [Array.getElem?_eq_getElem (by simpa using hjc)]
      simp only [Array.getElem_range, Option.map_some, Option.some.injEq]
      rw [← hz, nth_eq, Array.getElem?_toList] at hzv
      rw [getElem!_def, hzv]
/-- The three outcomes of an append onto a row that is owned. -/
theorem run_app {T E es eb ty : Nat} {i : TypeInfo} {z : Value} (w : World) (hu : P.underlying T = some (.slice E)) (hi : P.info? E = some i) (hzz : i.zero = some z) (hsz : i.size = es) (hbb : i.bytes = eb) (hzs : z.cells.size = es) (hes : 0 < es)
    {sv : Value} {m : Nat} (cur : Array Value) (b cap : Nat) (hsv : (sv = .slice none 0 0 ∧ m = 0 ∧ cur = #[]) ∨ (sv = .slice (some ⟨b, 0, none⟩) m cap ∧ m ≤ cap ∧ cap ≤ maxLen ∧ w.heap[b]? = some (.cells cur E (0, 0)) ∧ cur.size = cap * es))
    {yv : Value} {m' : Nat} (nsv : List Value) (ad : Addr) (cc : Nat) (hy : (yv = .slice (some ad) m' cc) ∨ (yv = .slice none 0 0 ∧ m' = 0)) (hnl : nsv.length = m' * es) (hnc : ∀ j u, nsv[j]? = some u → w.cell? (ad.add j) = some u) (hn1 : ∀ u ∈ nsv, u.oneCell' = true)
    (h63 : m + m' ≤ 9223372036854775807) (hb : (m + m') * eb ≤ 140737488355328) :
    ∃ v' w', (Builtin.append_ #[T, T] ty #[sv, yv]).run P w = .ok v' w' ∧
      ((m' = 0 ∧ v' = sv ∧ w' = w) ∨
       (sv = .slice (some ⟨b, 0, none⟩) m cap ∧ m + m' ≤ cap ∧ v' = .slice (some ⟨b, 0, none⟩) (m + m') cap ∧ w' = w.setRow b (cur.toList.take (m * es) ++ nsv ++ cur.toList.drop (m * es + nsv.length)).toArray) ∨
       ∃ cap' rest, v' = .slice (some ⟨w.heap.size, 0, none⟩) (m + m') cap' ∧ m + m' ≤ cap' ∧ cap' ≤ maxLen ∧ w' = w.drew.alloc (.cells ((cur.toList.take (m * es)).toArray ++ nsv.toArray ++ rest) E) ∧ rest.size = (cap' - (m + m')) * es) := by
  subst hsz
  subst hbb
  have hmax : ∀ need old, need ≤ 9223372036854775807 → grownCap w need old E ≤ maxLen := fun need old h => grownCap_le_maxLen w need old E (by simp only [maxLen]; omega)
  by_cases hm0 : m' = 0
  · subst hm0
    have hn0 : nsv = [] := List.eq_nil_of_length_eq_zero (by simpa using hnl)
    subst hn0
    refine ⟨sv, w, ?_, .inl ⟨rfl, rfl, rfl⟩⟩
    rcases hsv with ⟨h1, h2, _⟩ | ⟨h1, h2, h3, h4, h5⟩
    · subst h1; subst h2
      rcases hy with hy | ⟨hy, _⟩ <;> rw [hy] <;> simp [Builtin.append_, run_underlying hu, sizeOf, typeInfo, hi, Builtin.lenOf, Builtin.firstCells, loadCells, loadCellsFrom]
    · subst h1
      rcases hy with hy | ⟨hy, _⟩ <;> rw [hy] <;> simp [Builtin.append_, run_underlying hu, sizeOf, typeInfo, hi, Builtin.lenOf, h2, Builtin.firstCells, loadCells, loadCellsFrom, storeCells]
  · have hy' : yv = .slice (some ad) m' cc := hy.resolve_right (fun h => hm0 h.2)
    subst hy'
    rcases hsv with ⟨h1, h2, h3⟩ | ⟨h1, h2, h3, h4, h5⟩
    · subst h1; subst h2; subst h3
      simp only [Nat.zero_add] at h63 hb
      have hr := run_append_nil (P := P) w T ty E i z hu hi hzz ad m' cc nsv hnl hnc (by omega) (by omega) (by omega)
      refine ⟨_, _, hr, .inr (.inr ⟨grownCap w m' 0 E, Builtin.zeroCells z.cells (grownCap w m' 0 E - m'), by simp, by simpa using grownCap_ge w m' 0 E, hmax m' 0 h63, by simp, by simp [Builtin.zeroCells, hzs]⟩)⟩
    · subst h1
      by_cases hroom : m + m' ≤ cap
      · have hfit : m * i.size + nsv.length ≤ cur.size := by rw [hnl, h5, ← Nat.add_mul]; exact Nat.mul_le_mul_right _ hroom
        have hr := run_append_room (P := P) w T ty E i hu hi b m cap cur h4 ad m' cc nsv hnl hnc hn1 hroom hfit
        exact ⟨_, _, hr, .inr (.inl ⟨rfl, hroom, rfl, rfl⟩)⟩
      · have hxl : (cur.toList.take (m * i.size)).length = m * i.size := by
          have := Nat.mul_le_mul_right i.size h2
          rw [List.length_take, Array.length_toList, h5]; exact Nat.min_eq_left this
        have holds : ∀ j v, (cur.toList.take (m * i.size))[j]? = some v → w.cell? ((⟨b, 0, none⟩ : Addr).add j) = some v := fun j v hv => by
          rw [addr_add, Nat.zero_add, cell_of_row w b j cur E (0, 0) h4]
          rw [List.getElem?_take] at hv
          split at hv
          · simpa using hv
          · cases hv
        have hr := run_append_grow (P := P) w T ty E i z hu hi hzz ⟨b, 0, none⟩ m cap (cur.toList.take (m * i.size)) hxl holds ad m' cc nsv hnl hnc (by omega) (by omega) (growslice_fits (by omega) hb)
        exact ⟨_, _, hr, .inr (.inr ⟨grownCap w (m + m') cap E, Builtin.zeroCells z.cells (grownCap w (m + m') cap E - (m + m')), rfl, grownCap_ge w (m + m') cap E, hmax _ _ h63, rfl, by simp [Builtin.zeroCells, hzs]⟩)⟩

/-- The cells of a slice that is read. -/
theorem slc_cells {m es : Nat} {cells : List SP} {v : Value} {c : EW} (h : (slc m es cells).H v c) : ∃ (nsv : List Value) (ad : Addr) (cc : Nat), (v = .slice (some ad) m cc ∨ (v = .slice none 0 0 ∧ m = 0)) ∧ nsv.length = m * es ∧ (∀ j u, nsv[j]? = some u → c.w.cell? (ad.add j) = some u) ∧ (∀ u ∈ nsv, u.oneCell' = true) ∧ CL cells nsv.toArray 0 c := by
  obtain ⟨hlen', hcase'⟩ := h
  rcases hcase' with ⟨h1, h2⟩ | ⟨ad, cap, h1, h2, h3, h4⟩
  · subst h2
    refine ⟨[], ⟨0, 0, none⟩, 0, .inr ⟨h1, rfl⟩, by simp, fun j u h => by simp at h, fun u h => by simp at h, fun j p hj => ?_⟩
    have := nth_lt hj
    omega
  · rcases h4 with h4 | ⟨b, off, ha, h4, cur, U, fz, h5, h6⟩
    · subst h4
      refine ⟨[], ad, cap, .inl h1, by simp, fun j u h => by simp at h, fun u h => by simp at h, fun j p hj => ?_⟩
      have := nth_lt hj
      omega
    · subst ha
      refine ⟨(cur.toList.drop off).take (m * es), ⟨b, off, none⟩, cap, .inl h1, ?_, fun j u h => ?_, fun u hu' => ?_, fun j p hj => ?_⟩
      · by_cases h0 : cells = []
        · rw [h0] at hlen'; simp at hlen'; simp [← hlen']
        · have := h6.le h0
          simp
          omega
      · rw [addr_add]
        rw [List.getElem?_take] at h
        split at h
        · rw [List.getElem?_drop] at h
          simp [World.cell?, h5]
          simpa using h
        · cases h
      · obtain ⟨j, hj, hju⟩ := List.mem_iff_getElem.1 hu'
        have hjm : j < cells.length := by simp at hj; omega
        obtain ⟨u', h7, h8, _⟩ := h6 j cells[j] (by rw [nth_eq]; exact List.getElem?_eq_getElem hjm)
        have : cur[off + j]? = some u := by
          simp only [List.getElem_take, List.getElem_drop] at hju
          rw [← Array.getElem?_toList, List.getElem?_eq_getElem (by simp at hj ⊢; omega), hju]
        rw [this] at h7
        cases h7
        exact h8
      · obtain ⟨u, h7, g⟩ := h6 j p hj
        refine ⟨u, ?_, g⟩
        have := nth_lt hj
        rw [Nat.zero_add, List.getElem?_toArray, List.getElem?_take, if_pos (by omega), List.getElem?_drop]
        simpa using h7

theorem CL_append {cells news : List SP} {xs ys : List Value} {rest : List Value} {c : EW} (hx : CL cells xs.toArray 0 c) (hy : CL news ys.toArray 0 c) (hl : xs.length = cells.length) (hl' : ys.length = news.length) : CL (cells ++ news) (xs ++ ys ++ rest).toArray 0 c := fun j p hj => by
  rw [nth_eq] at hj
  rw [Nat.zero_add, List.getElem?_toArray]
  have hjl : j < cells.length + news.length := by
    have := (List.getElem?_eq_some_iff.1 hj).1
    simpa using this
  rw [List.getElem?_append_left (by simp; omega)]
  by_cases h : j < cells.length
  · rw [List.getElem?_append_left h] at hj
    rw [List.getElem?_append_left (by omega)]
    have := hx j p (by rw [nth_eq]; exact hj)
    simpa using this
  · rw [List.getElem?_append_right (by omega)] at hj
    rw [List.getElem?_append_right (by omega), hl]
    have := hy (j - cells.length) p (by rw [nth_eq]; exact hj)
    simpa using this

/-- append: onto a slice that is owned. -/
theorem op_append {x y : Operand} {T E es eb : Nat} (k : Nat) {sv : Value} {m m' : Nat} {cells news all : List SP} {zs : List Value} {ms : Nat} (ht : slT P T = some (E, es, eb)) (hz : zrT P E = some zs) (hzl : Nat.beq zs.length es = true) (hes : Nat.blt 0 es = true) (hx : Lk Γ δ ρ x (isv sv)) (hy : Lk Γ δ ρ y (slc m' es news))
    (hk : nth τ k = some (.c (osl sv m es cells E))) (hsum : m + m' = ms) (h63 : ms ≤ 9223372036854775807) (hb : ms * eb ≤ 140737488355328) (hall : cells ++ news = all) :
    OpOK P n ops Γ ρ δ τ ⟨some d, .call ⟨.builtin .append, #[x, y], #[T, T]⟩, ty, pos, af, none⟩ (.wr k) (slAt d) (oslAt d ms es all E) := by
  intro a c ob hs hwf hf hr hres hno hown
  subst hsum
  subst hall
  obtain ⟨r0, hr0, hh⟩ := hres k rfl
  rw [hk] at hr0
  cases hr0
  have hrd := Lk.val (o := ⟨some d, .call ⟨.builtin .append, #[x, y], #[T, T]⟩, ty, pos, af, none⟩) hr hf (x := x) (by simp [Op.operands, Call.operands]) hx
  have hyv := Lk.val (o := ⟨some d, .call ⟨.builtin .append, #[x, y], #[T, T]⟩, ty, pos, af, none⟩) hr hf (x := y) (by simp [Op.operands, Call.operands]) hy
  obtain ⟨hu, i, hi, hsz, hbb⟩ := slT_u ht
  have hes' := blt_lt hes
  unfold zrT at hz
  rw [hi] at hz
  simp only [Option.bind_some] at hz
  cases hzz : i.zero with
  | none => rw [hzz] at hz; cases hz
  | some z =>
    rw [hzz] at hz
    simp only [Option.map_some, Option.some.injEq] at hz
    have hzs : z.cells.size = es := by
      have : zs.length = es := Nat.eq_of_beq_eq_true hzl
      rw [← hz] at this
      simpa using this
    obtain ⟨hlen, hcase⟩ := hh
    have hlen' := hyv.1
    obtain ⟨nsv, ad, cc, hyx, hnl, hncell, hnone, hnCL⟩ := slc_cells hyv
    obtain ⟨cur, b, cap, hsv, hcl, hobb⟩ : ∃ (cur : Array Value) (b cap : Nat), ((sv = .slice none 0 0 ∧ m = 0 ∧ cur = #[]) ∨ (sv = .slice (some ⟨b, 0, none⟩) m cap ∧ m ≤ cap ∧ cap ≤ maxLen ∧ c.w.heap[b]? = some (.cells cur E (0, 0)) ∧ cur.size = cap * es)) ∧ CL cells (cur.toList.take (m * es)).toArray 0 c ∧ ((sv = .slice none 0 0 ∧ ob = none) ∨ (sv = .slice (some ⟨b, 0, none⟩) m cap ∧ ob = some b)) := by
      rcases hcase with ⟨h1, h2, h3⟩ | ⟨b, cap, cur, h1, h2, h3, h4, h5, h6, h7⟩
      · refine ⟨#[], 0, 0, .inl ⟨h1, h2, rfl⟩, fun j p hj => ?_, .inl ⟨h1, h3⟩⟩
        have := nth_lt hj
        subst h2
        omega
      · refine ⟨cur, b, cap, .inr ⟨h1, h3, h4, h5, h6⟩, fun j p hj => ?_, .inr ⟨h1, h2⟩⟩
        obtain ⟨u, hu', g⟩ := h7 j p hj
        refine ⟨u, ?_, g⟩
        have := nth_lt hj
        rw [Nat.zero_add] at hu' ⊢
        rw [List.getElem?_toArray, List.getElem?_take, if_pos (by omega)]
        simpa using hu'
    have htl : (cur.toList.take (m * es)).length = cells.length := by
      rcases hsv with ⟨_, h2, h3⟩ | ⟨_, h2, _, _, h5⟩
      · subst h2; subst h3; simp [hlen]
      · have := Nat.mul_le_mul_right es h2
        rw [List.length_take, Array.length_toList, h5, hlen]; exact Nat.min_eq_left this
    obtain ⟨v', w', g1, g2⟩ := run_app (P := P) (ty := ty) c.w hu hi hzz hsz hbb hzs hes' cur b cap hsv nsv ad cc hyx hnl hncell hnone h63 hb
    simp only [Region.wanted, if_true]
    unfold Does
    have hex : (execOp a.eval ⟨some d, .call ⟨.builtin .append, #[x, y], #[T, T]⟩, ty, pos, af, none⟩).run P c.w = .ok (.value v') w' := by
      simp only [execOp, resolve, invoke, builtin, Sem.run_bind, Sem.run_pure, Result.andThen_ok, List.map_toArray, List.map_cons, List.map_nil, hrd.1, g1]
    rw [hex]
    have hll : (cells ++ news).length = (m + m') * es := by rw [List.length_append, hlen, hlen', Nat.add_mul]
    rcases g2 with ⟨h1, h2, h3⟩ | ⟨h1, h2, h3, h4⟩ | ⟨cap', rest, h1, h2, h3, h4, h5⟩
    · subst h1; subst h2; subst h3
      have hn0 : news = [] := List.eq_nil_of_length_eq_zero (by simpa using hlen')
      subst hn0
      refine ⟨c, ob, rfl, ⟨rfl, rfl, rfl, Nat.le_refl _, fun _ _ _ => rfl, fun _ _ => Iff.rfl, .inl rfl, hwf⟩, ?_, fun _ => ?_⟩
      · simp only [slAt, VE.at, upd_eq]
        exact ⟨rfl, hrd.2⟩
      · simp only [oslAt, VR.at, upd_eq]
        refine ⟨hll, ?_⟩
        simpa using hcase
    · subst h4
      have hob : ob = some b := by
        rcases hobb with ⟨q, _⟩ | ⟨_, q⟩
        · rw [q] at h1; cases h1
        · exact q
      have hrow : cap ≤ maxLen ∧ c.w.heap[b]? = some (.cells cur E (0, 0)) ∧ cur.size = cap * es := by
        rcases hsv with ⟨q, _⟩ | ⟨_, _, q3, q4, q5⟩
        · rw [q] at h1; cases h1
        · exact ⟨q3, q4, q5⟩
      let c' : EW := ⟨c.w.setRow b (cur.toList.take (m * es) ++ nsv ++ cur.toList.drop (m * es + nsv.length)).toArray, c.M⟩
      have htr : Tr c ob true c' ob := by
        refine ⟨rfl, rfl, rfl, by simp [c', World.setRow], fun j hj hne => ?_, fun _ _ => Iff.rfl, .inl rfl, fun j hj => by simp [c', World.setRow]; exact hwf j hj⟩
        exact setRow_other c.w b j _ (fun e => hne rfl (by rw [hob, e]))
      have hle : Le c c' := htr.le fun b hb => (hown b hb).1
      refine ⟨c', ob, rfl, htr, ?_, fun _ => ?_⟩
      · simp only [slAt, VE.at, upd_eq]
        exact ⟨rfl, by rw [h3]; rfl⟩
      · simp only [oslAt, VR.at, upd_eq]
        refine ⟨hll, .inr ⟨b, cap, _, h3, hob, h2, hrow.1, setRow_heap c.w b cur _ E (0, 0) hrow.2.1, ?_, ?_⟩⟩
        · have := Nat.mul_le_mul_right es h2
          rw [Nat.add_mul] at this
          have e : cur.toList.length = cap * es := by simpa using hrow.2.2
          rw [List.size_toArray, List.length_append, List.length_append, htl, List.length_drop, e, hnl, hlen]
          omega
        · exact (CL_append hcl hnCL htl (by rw [hnl, hlen'])).st hle
    · subst h4
      let c' : EW := ⟨c.w.drew.alloc (.cells ((cur.toList.take (m * es)).toArray ++ nsv.toArray ++ rest) E), fun k => c.M k ∨ k = c.w.heap.size⟩
      have hsize : (c.w.drew.alloc (.cells ((cur.toList.take (m * es)).toArray ++ nsv.toArray ++ rest) E)).heap.size = c.w.heap.size + 1 := by simp
      have htr : Tr c ob true c' (some c.w.heap.size) := by
        refine ⟨rfl, rfl, rfl, by simp [c'], fun j hj _ => heap_alloc_old c.w.drew _ j hj, fun j hj => ⟨fun h => h.resolve_right (by omega), .inl⟩, .inr ⟨rfl, c.w.heap.size, rfl, Nat.le_refl _, .inr rfl⟩, fun j hj => ?_⟩
        show j < (c.w.drew.alloc _).heap.size
        rw [hsize]
        rcases hj with h | h
        · have := hwf j h; omega
        · omega
      have hle : Le c c' := htr.le fun b hb => (hown b hb).1
      refine ⟨c', some c.w.heap.size, rfl, htr, ?_, fun _ => ?_⟩
      · simp only [slAt, VE.at, upd_eq]
        exact ⟨rfl, by rw [h1]; rfl⟩
      · simp only [oslAt, VR.at, upd_eq]
        refine ⟨hll, .inr ⟨c.w.heap.size, cap', _, h1, rfl, h2, h3, heap_alloc_new c.w.drew _, ?_, ?_⟩⟩
        · have := Nat.mul_le_mul_right es h2
          rw [Nat.sub_mul] at h5
          rw [Nat.add_mul] at this h5
          simp only [Array.size_append, List.size_toArray, htl, hlen, hnl, h5]
          omega
        · have e : (cur.toList.take (m * es)).toArray ++ nsv.toArray ++ rest = (cur.toList.take (m * es) ++ nsv ++ rest.toList).toArray := by
            apply Array.ext'; simp
          rw [e]
          exact (CL_append hcl hnCL htl (by rw [hnl, hlen'])).st hle

end ops
end Go.Bn
