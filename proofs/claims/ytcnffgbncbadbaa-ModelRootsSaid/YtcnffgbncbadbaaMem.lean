/-
  The logic of walks, fourth part: operations on memory, on floats, and calls.
-/
import Derived.Test.YtcnffgbncbadbaaPred
set_option linter.unusedVariables false
set_option linter.unusedSimpArgs false
namespace Go.Bn
open Go

/-! ## What is asked of a type -/
def scT (P : Program) (T : TypeId) : Bool := match P.underlying T, P.info? T with
  | some (.struct _), _ => false
  | some (.array _ _), _ => false
  | some _, some i => Nat.beq i.size 1
  | _, _ => false
def agT (P : Program) (T : TypeId) : Option Nat := match P.underlying T, P.info? T with
  | some (.struct _), some i => some i.size
  | some (.array _ _), some i => some i.size
  | _, _ => none
def slT (P : Program) (T : TypeId) : Option (Nat × Nat × Nat) := match P.underlying T with
  | some (.slice E) => (P.info? E).map fun i => (E, i.size, i.bytes)
  | _ => none
/-- Offset and size of a field. -/
def fdT (P : Program) (S i : Nat) : Option (Nat × Nat) := match P.underlying S with
  | some (.struct fs) => match fs[i]? with
    | some f => match P.info? f.type with
      | some inf => if inf.size = 0 then none else some (f.offset, inf.size)
      | none => none
    | none => none
  | _ => none
def fieldT (P : Program) (S i : Nat) : Option TypeId := match P.underlying S with
  | some (.struct fs) => (fs[i]?).map (·.type)
  | _ => none
def szT (P : Program) (T : TypeId) : Option Nat := (P.info? T).map (·.size)
def zrT (P : Program) (T : TypeId) : Option (List Value) := ((P.info? T).bind (·.zero)).map (·.cells.toList)

section runs
variable {P : Program}
theorem run_isAgg_sc {T : TypeId} (h : scT P T = true) (w : World) : (isAgg T).run P w = .ok false w := by
  unfold scT at h
  unfold isAgg
  cases hu : P.underlying T with
  | none => rw [hu] at h; cases h
  | some d =>
    rw [hu] at h
    simp only [Sem.run_bind, run_underlying hu, Result.andThen_ok]
    cases d <;> first | rfl | cases h
theorem run_isAgg_ag {T : TypeId} {m : Nat} (h : agT P T = some m) (w : World) : (isAgg T).run P w = .ok true w := by
  unfold agT at h
  unfold isAgg
  cases hu : P.underlying T with
  | none => rw [hu] at h; cases h
  | some d =>
    rw [hu] at h
    simp only [Sem.run_bind, run_underlying hu, Result.andThen_ok]
    cases d <;> first | rfl | (cases hi : P.info? T <;> rw [hi] at h <;> cases h)
theorem szT_info {T : TypeId} {m : Nat} (h : szT P T = some m) : ∃ i, P.info? T = some i ∧ i.size = m := by
  unfold szT at h
  cases hi : P.info? T with
  | none => rw [hi] at h; cases h
  | some i => rw [hi] at h; cases h; exact ⟨i, rfl, rfl⟩
theorem scT_sz {T : TypeId} (h : scT P T = true) : szT P T = some 1 := by
  unfold scT at h
  unfold szT
  cases hi : P.info? T with
  | none => rw [hi] at h; split at h <;> simp_all
  | some i =>
    rw [hi] at h
    split at h <;> first | cases h | skip
    rename_i heq
    cases heq
    simp [Nat.eq_of_beq_eq_true h]
theorem agT_sz {T : TypeId} {m : Nat} (h : agT P T = some m) : szT P T = some m := by
  unfold agT at h
  unfold szT
  split at h <;> first | (cases h; done) | skip
  all_goals (rename_i hi; cases h; simp [hi])
theorem run_sz {T : TypeId} {m : Nat} (h : szT P T = some m) (w : World) : (sizeOf T).run P w = .ok m w := by
  obtain ⟨i, hi, hs⟩ := szT_info h
  simp [sizeOf, typeInfo, hi, hs]
theorem run_info {T : TypeId} {i : TypeInfo} (h : P.info? T = some i) (w : World) : (typeInfo T).run P w = .ok i w := by
  simp [typeInfo, h]

theorem addr_add (b o k : Nat) : (⟨b, o, none⟩ : Addr).add k = ⟨b, o + k, none⟩ := by
  unfold Addr.add
  split
  · simp_all
  · rfl
theorem run_load_sc {T : TypeId} (h : scT P T = true) {w : World} {b off : Nat} {cur : Array Value} {U : TypeId} {fz : Nat × Nat} {u : Value} (hw : w.heap[b]? = some (.cells cur U fz)) (hu : cur[off]? = some u) :
    (Instr.loadAt T (.pointer (some ⟨b, off, none⟩))).run P w = .ok u w := by
  have hc : w.cell? ⟨b, off, none⟩ = some u := by simp [World.cell?, hw, hu]
  simp only [Instr.loadAt, Instr.sureAddr, loadVar, Sem.run_bind, Sem.run_pure, Result.andThen_ok, run_isAgg_sc h, Bool.false_eq_true, if_false, run_load, hc]
theorem run_load_ag {T : TypeId} {m : Nat} (h : agT P T = some m) {w : World} {b off : Nat} {cur : Array Value} {U : TypeId} {fz : Nat × Nat} (hw : w.heap[b]? = some (.cells cur U fz)) (hm : off + m ≤ cur.size) :
    (Instr.loadAt T (.pointer (some ⟨b, off, none⟩))).run P w = .ok (.agg (cur.extract off (off + m))) w := by
  have hl := run_loadCells (P := P) w ⟨b, off, none⟩ m (fun j => cur.getD (off + j) undef) (fun j hj => by
    rw [addr_add]
    have : off + j < cur.size := by omega
    simp [World.cell?, hw, this])
  have he : ((List.range m).map fun j => cur.getD (off + j) undef).toArray = cur.extract off (off + m) := by
    apply Array.ext
    · simp; omega
    · intro i h1 h2
      simp at h1
      have : off + i < cur.size := by omega
      simp [this]
  rw [he] at hl
  simp only [Instr.loadAt, Instr.sureAddr, loadVar, Sem.run_bind, Sem.run_pure, Result.andThen_ok, run_isAgg_ag h, if_true, run_sz (agT_sz h), hl]
/-- A store into a block. -/
theorem run_store_at {T : TypeId} {w : World} {b off : Nat} {cur : Array Value} {U : TypeId} {v : Value} {m : Nat} (hs : szT P T = some m) (hw : w.heap[b]? = some (.cells cur U (0, 0))) (hv : v.cells.size = m) (hm : off + m ≤ cur.size) (h1 : ∀ u, u ∈ v.cells.toList → u.oneCell' = true) :
    (Instr.storeAt T (.pointer (some ⟨b, off, none⟩)) v).run P w = .ok () (w.setRow b (cur.toList.take off ++ v.cells.toList ++ cur.toList.drop (off + m)).toArray) := by
  have hst := run_storeCells_at P b off U v.cells.toList 0 cur w hw (by simp [hv]; omega) h1
  simp only [Nat.add_zero, Array.length_toList, hv] at hst
  simp only [Instr.storeAt, Instr.sureAddr, storeVar, Sem.run_bind, Sem.run_pure, Result.andThen_ok, run_sz hs, hv, ne_eq, not_true_eq_false, if_false, hst]
end runs

/-! ## Memory that is owned, seen as cells -/
/-- base points at the head of the block. -/
def Hd (base : Value) (b : Nat) : Prop := base = .pointer (some ⟨b, 0, none⟩) ∨ ∃ n cap, base = .slice (some ⟨b, 0, none⟩) n cap
theorem Hd.inj {base : Value} {b b' : Nat} (h : Hd base b) (h' : Hd base b') : b = b' := by
  rcases h with h | ⟨n, cap, h⟩ <;> rcases h' with h' | ⟨n', cap', h'⟩ <;> rw [h] at h' <;> cases h' <;> rfl
def Mem (r : Res) (base : Value) (cells : List SP) : Prop := ∀ c ob, r.H c ob → ∃ b cur U, Hd base b ∧ ob = some b ∧ c.w.heap[b]? = some (.cells cur U (0, 0)) ∧ CL cells cur 0 c
theorem mem_blk {base : Value} {cells : List SP} {T : TypeId} : Mem (blk base cells T) base cells := fun c ob ⟨b, cur, h1, h2, h3, _, h5⟩ => ⟨b, cur, T, .inl h1, h2, h3, h5⟩
theorem mem_osl {sv : Value} {n k : Nat} {cells : List SP} {T : TypeId} (h0 : 0 < n) : Mem (osl sv n k cells T) sv cells := fun c ob ⟨_, h⟩ => by
  rcases h with ⟨_, h, _⟩ | ⟨b, cap, cur, h1, h2, h3, h4, h5, h6, h7⟩
  · omega
  · exact ⟨b, cur, T, .inr ⟨n, cap, h1⟩, h2, h5, h7⟩
def MemW (r : Res) (base : Value) (cells : List SP) (r' : Res) (cells' : List SP) : Prop := ∀ c ob, r.H c ob → ∃ b cur U, Hd base b ∧ ob = some b ∧ c.w.heap[b]? = some (.cells cur U (0, 0)) ∧ CL cells cur 0 c ∧ cells.length ≤ cur.size ∧
  ∀ c' cur', cur'.size = cur.size → c'.w.heap[b]? = some (.cells cur' U (0, 0)) → CL cells' cur' 0 c' → r'.H c' ob
theorem memw_blk {base : Value} {cells cells' : List SP} {T : TypeId} (hl : cells'.length = cells.length) : MemW (blk base cells T) base cells (blk base cells' T) cells' :=
  fun c ob ⟨b, cur, h1, h2, h3, h4, h5⟩ => ⟨b, cur, T, .inl h1, h2, h3, h5, by omega, fun c' cur' hs hh hc => ⟨b, cur', h1, h2, hh, by omega, hc⟩⟩
theorem memw_osl {sv : Value} {n k : Nat} {cells cells' : List SP} {T : TypeId} (h0 : 0 < n) (hl : cells'.length = cells.length) : MemW (osl sv n k cells T) sv cells (osl sv n k cells' T) cells' := fun c ob ⟨hlen, h⟩ => by
  rcases h with ⟨_, h, _⟩ | ⟨b, cap, cur, h1, h2, h3, h4, h5, h6, h7⟩
  · omega
  · refine ⟨b, cur, T, .inr ⟨n, cap, h1⟩, h2, h5, h7, ?_, fun c' cur' hs hh hc => ⟨by omega, .inr ⟨b, cap, cur', h1, h2, h3, h4, hh, by omega, hc⟩⟩⟩
    rw [hlen, h6]
    exact Nat.mul_le_mul_right k h3
/-- Cells put at a place, said of places. -/
def Puts (off : Nat) (l cells cells' : List SP) : Prop := cells'.length = cells.length ∧ off + l.length ≤ cells.length ∧ ∀ i, nth cells' i = if off ≤ i ∧ i < off + l.length then nth l (i - off) else nth cells i
theorem puts_l {off : Nat} {l cells cells' : List SP} (h : putl off l cells = some cells') (hl : off + l.length ≤ cells.length) : Puts off l cells cells' := by
  obtain ⟨g1, g2, g3⟩ := putl_spec h
  exact ⟨g1, hl, g3⟩
theorem puts_set {off : Nat} {p : SP} {cells : List SP} (hl : off < cells.length) : Puts off [p] cells (cells.set off p) := by
  refine ⟨by simp, by simp; omega, fun i => ?_⟩
  rw [nth_eq, List.getElem?_set]
  by_cases h : off = i
  · subst h
    simp [hl, nth]
  · rw [if_neg h, if_neg (by simp; omega), nth_eq]
theorem puts_CL {off : Nat} {l cells cells' : List SP} {cur : Array Value} {v : Value} {c c' : EW} (hp : Puts off l cells cells') (hle : Le c c') (h : CL cells cur 0 c) (hl : cells.length ≤ cur.size) (hv : v.cells.size = l.length) (hc : CL l v.cells 0 c') :
    CL cells' (cur.toList.take off ++ v.cells.toList ++ cur.toList.drop (off + l.length)).toArray 0 c' ∧ (cur.toList.take off ++ v.cells.toList ++ cur.toList.drop (off + l.length)).toArray.size = cur.size := by
  have hoff : off + l.length ≤ cur.size := Nat.le_trans hp.2.1 hl
  refine ⟨fun i p hi => ?_, by simp [hv]; omega⟩
  rw [hp.2.2 i] at hi
  simp only [Nat.zero_add, List.getElem?_toArray]
  have hlt : (cur.toList.take off).length = off := by simp; omega
  have hlv : v.cells.toList.length = l.length := by simp [hv]
  by_cases h1 : off ≤ i ∧ i < off + l.length
  · rw [if_pos h1] at hi
    obtain ⟨u, hu, h2, h3⟩ := hc (i - off) p hi
    refine ⟨u, ?_, h2, h3⟩
    rw [List.getElem?_append_left (by rw [List.length_append, hlt, hlv]; omega), List.getElem?_append_right (by rw [hlt]; omega), hlt]
    simpa using hu
  · rw [if_neg h1] at hi
    obtain ⟨u, hu, h2, h3⟩ := h i p hi
    refine ⟨u, ?_, h2, p.st _ _ _ hle h3⟩
    rw [Nat.zero_add] at hu
    by_cases h4 : i < off
    · rw [List.getElem?_append_left (by rw [List.length_append, hlt, hlv]; omega), List.getElem?_append_left (by rw [hlt]; omega), List.getElem?_take, if_pos h4]
      simpa using hu
    · rw [List.getElem?_append_right (by rw [List.length_append, hlt, hlv]; omega), List.length_append, hlt, hlv, List.getElem?_drop]
      have e : off + l.length + (i - (off + l.length)) = i := by omega
      rw [e]
      simpa using hu

section ops
variable {P : Program} {n : Nat} {ops : Array Oper} {Γ : Facts} {ρ : Env} {δ : VEnv} {τ : List VR}
variable {d : Nat} {ty : TypeId} {pos : String} {af : Array Edge}

/-! ### Reads of what nobody writes any more -/
theorem op_load_sc {x : Operand} {T : TypeId} {cells : List SP} {p : SP} (hT : scT P T = true) (hx : Lk Γ δ ρ x (ptp cells)) (hp : nth cells 0 = some p) :
    OpOK P n ops Γ ρ δ τ ⟨some d, .load T x, ty, pos, af, none⟩ .no (.c p) dum :=
  ok_pure fun a c _ hr => by
    obtain ⟨b, off, cur, U, fz, h1, h2, h3, h4⟩ := hr x _ (by simp [Op.operands]) hx
    obtain ⟨u, hu, _, hpu⟩ := h4 0 p hp
    rw [Nat.add_zero] at hu
    exact ⟨u, by simp only [execOp, h1, Sem.run_bind, run_load_sc hT h3 hu, Result.andThen_ok, Sem.run_pure], hpu⟩
theorem sub_CL {cells cells' : List SP} {o m off : Nat} {cur : Array Value} {c : EW} (hs : subl o m cells = some cells') (h : CL cells cur off c) (hsz : off + o + m ≤ cur.size) : CL cells' (cur.extract (off + o) (off + o + m)) 0 c := by
  obtain ⟨g1, g2, g3⟩ := subl_spec hs
  intro i p hi
  have him : i < m := by
    rw [nth_eq] at hi
    have := (List.getElem?_eq_some_iff.1 hi).1
    omega
  rw [g3 i him] at hi
  obtain ⟨u, hu, h2, h3⟩ := h (o + i) p hi
  refine ⟨u, ?_, h2, h3⟩
  rw [Nat.zero_add, Array.getElem?_extract, if_pos (by omega), ← hu]
  congr 1
  omega
theorem CL.room {l : List SP} {cur : Array Value} {off : Nat} {c : EW} (h : CL l cur off c) {o m : Nat} (hm : 0 < m) (hl : o + m ≤ l.length) : off + o + m ≤ cur.size := by
  have hlt : o + m - 1 < l.length := by omega
  obtain ⟨u, hu, _⟩ := h (o + m - 1) l[o + m - 1] (by rw [nth_eq]; exact List.getElem?_eq_getElem hlt)
  have := (Array.getElem?_eq_some_iff.1 hu).1
  omega
theorem op_load_ag {x : Operand} {T m : Nat} {cells cells' : List SP} (hT : agT P T = some m) (hx : Lk Γ δ ρ x (ptp cells)) (hs : subl 0 m cells = some cells') (hm : Nat.blt 0 m = true) :
    OpOK P n ops Γ ρ δ τ ⟨some d, .load T x, ty, pos, af, none⟩ .no (.c (aggp cells')) dum :=
  ok_pure fun a c _ hr => by
    obtain ⟨b, off, cur, U, fz, h1, h2, h3, h4⟩ := hr x _ (by simp [Op.operands]) hx
    obtain ⟨g1, g2, _⟩ := subl_spec hs
    have hroom := h4.room (o := 0) (m := m) (blt_lt hm) g2
    have hrun := run_load_ag (off := off) hT h3 (by omega)
    refine ⟨.agg (cur.extract off (off + m)), by simp only [execOp, h1, Sem.run_bind, hrun, Result.andThen_ok, Sem.run_pure], _, rfl, ?_, ?_⟩
    · simp; omega
    · exact sub_CL hs h4 hroom

/-! ### Reads of what is owned -/
theorem ok_read {op : Op} {k : Nat} {r : Res} {p : SP} (hk : nth τ k = some (.c r))
    (h : ∀ (a : Act) (c : EW) (ob : Option Nat), FH Γ c → (∀ x q, x ∈ op.operands → Lk Γ δ ρ x q → q.H (a.eval x) c) → r.H c ob → ∃ v, (execOp a.eval ⟨some d, op, ty, pos, af, none⟩).run P c.w = .ok (.value v) c.w ∧ p.H v c) :
    OpOK P n ops Γ ρ δ τ ⟨some d, op, ty, pos, af, none⟩ (.rd k) (.c p) dum := by
  intro a c ob hs hwf hf hr hres hno _
  obtain ⟨r', hr', hh⟩ := hres k rfl
  rw [hk] at hr'
  cases hr'
  obtain ⟨v, hv, hp⟩ := h a c ob hf (fun x q hx hq => Lk.val (o := ⟨some d, op, ty, pos, af, none⟩) hr hf hx hq) hh
  simp only [Region.wanted, if_true]
  unfold Does
  rw [hv]
  exact ⟨c, ob, rfl, Tr.refl hwf, hp, fun h => (by cases h)⟩
theorem op_get_sc {x : Operand} {T : TypeId} {base : Value} {off : Nat} (k : Nat) {r : Res} {cells : List SP} {p : SP} (hT : scT P T = true) (hx : Lk Γ δ ρ x (ipo base off)) (hk : nth τ k = some (.c r)) (hm : Mem r base cells) (hp : nth cells off = some p) :
    OpOK P n ops Γ ρ δ τ ⟨some d, .load T x, ty, pos, af, none⟩ (.rd k) (.c p) dum :=
  ok_read hk fun a c ob _ hr hh => by
    obtain ⟨b, hb, hv⟩ := hr x _ (by simp [Op.operands]) hx
    obtain ⟨b', cur, U, h1, h2, h3, h4⟩ := hm c ob hh
    have := Hd.inj hb h1
    subst this
    obtain ⟨u, hu, _, hpu⟩ := h4 off p hp
    rw [Nat.zero_add] at hu
    exact ⟨u, by simp only [execOp, hv, Sem.run_bind, run_load_sc hT h3 hu, Result.andThen_ok, Sem.run_pure], hpu⟩
theorem op_get_ag {x : Operand} {T m : Nat} {base : Value} {off : Nat} (k : Nat) {r : Res} {cells cells' : List SP} (hT : agT P T = some m) (hx : Lk Γ δ ρ x (ipo base off)) (hk : nth τ k = some (.c r)) (hme : Mem r base cells) (hs : subl off m cells = some cells') (hm : Nat.blt 0 m = true) :
    OpOK P n ops Γ ρ δ τ ⟨some d, .load T x, ty, pos, af, none⟩ (.rd k) (.c (aggp cells')) dum :=
  ok_read hk fun a c ob _ hr hh => by
    obtain ⟨b, hb, hv⟩ := hr x _ (by simp [Op.operands]) hx
    obtain ⟨b', cur, U, h1, h2, h3, h4⟩ := hme c ob hh
    have := Hd.inj hb h1
    subst this
    obtain ⟨g1, g2, _⟩ := subl_spec hs
    have hroom := h4.room (blt_lt hm) g2
    have hrun := run_load_ag (off := off) hT h3 (by omega)
    refine ⟨.agg (cur.extract off (off + m)), by simp only [execOp, hv, Sem.run_bind, hrun, Result.andThen_ok, Sem.run_pure], _, rfl, ?_, ?_⟩
    · simp; omega
    · have := sub_CL hs h4 hroom
      simpa using this
theorem op_len_own {x : Operand} {t : TypeId} {sv : Value} {m kk : Nat} (k : Nat) {cells : List SP} {T E : Nat} {es eb : Nat} (ht : slT P t = some (E, es, eb)) (hx : Lk Γ δ ρ x (isv sv)) (hk : nth τ k = some (.c (osl sv m kk cells T))) :
    OpOK P n ops Γ ρ δ τ ⟨some d, .call ⟨.builtin .len, #[x], #[t]⟩, ty, pos, af, none⟩ (.rd k) (.c (isv (.int .i64 (m : Int)))) dum :=
  ok_read hk fun a c ob _ hr hh => by
    have hv := (hr x _ (by simp [Op.operands, Call.operands]) hx).1
    have hu : ∃ e, P.underlying t = some (.slice e) := by
      unfold slT at ht
      split at ht
      · rename_i e he; exact ⟨e, he⟩
      · cases ht
    obtain ⟨e, he⟩ := hu
    have hsv : ∃ ad cap, sv = .slice ad m cap := by
      rcases hh.2 with ⟨h1, h2, _⟩ | ⟨b, cap, cur, h1, _⟩
      · exact ⟨none, 0, by rw [h1, h2]⟩
      · exact ⟨_, cap, h1⟩
    obtain ⟨ad, cap, hsv⟩ := hsv
    refine ⟨.int .i64 m, ?_, rfl, rfl⟩
    simp [execOp, resolve, invoke, builtin, Builtin.len_, hv, hsv, run_underlying he, goInt]

/-! ### Writes -/
theorem undef_any {c : EW} : anyp.H undef c := trivial
theorem op_store {x y : Operand} {T : TypeId} {base : Value} {off : Nat} (k : Nat) {r r' : Res} {p : SP} {l cells cells' : List SP} (hx : Lk Γ δ ρ x (ipo base off)) (hy : Lk Γ δ ρ y p) (hc : CellsOf p l) (hT : szT P T = some l.length)
    (hk : nth τ k = some (.c r)) (hp : Puts off l cells cells') (hm : MemW r base cells r' cells') :
    OpOK P n ops Γ ρ δ τ ⟨none, .store T x y, ty, pos, af, none⟩ (.wr k) (.c anyp) (.c r') := by
  intro a c ob hs hwf hf hr hres hno hown
  obtain ⟨r0, hr0, hh⟩ := hres k rfl
  rw [hk] at hr0
  cases hr0
  obtain ⟨b, hb, hv⟩ := Lk.val (o := ⟨none, .store T x y, ty, pos, af, none⟩) hr hf (x := x) (by simp [Op.operands]) hx
  have hpv := Lk.val (o := ⟨none, .store T x y, ty, pos, af, none⟩) hr hf (x := y) (by simp [Op.operands]) hy
  obtain ⟨b', cur, U, h1, h2, h3, h4, h5, h6⟩ := hm c ob hh
  have := Hd.inj hb h1
  subst this
  obtain ⟨g1, g2⟩ := hc _ c hpv
  have hone : ∀ u, u ∈ (a.eval y).cells.toList → u.oneCell' = true := fun u hu => by
    obtain ⟨i, hi, hiu⟩ := List.mem_iff_getElem.1 hu
    have hil : i < l.length := by
      have : i < (a.eval y).cells.size := by simpa using hi
      omega
    obtain ⟨u', hu', h7, _⟩ := g2 i l[i] (by rw [nth_eq]; exact List.getElem?_eq_getElem hil)
    rw [Nat.zero_add] at hu'
    have : (a.eval y).cells[i]? = some u := by
      rw [← Array.getElem?_toList, List.getElem?_eq_getElem hi, hiu]
    rw [this] at hu'
    cases hu'
    exact h7
  have hrun := run_store_at (P := P) hT h3 g1 (Nat.le_trans hp.2.1 h5) hone
  simp only [Region.wanted, if_true]
  unfold Does
  have hex : (execOp a.eval ⟨none, .store T x y, ty, pos, af, none⟩).run P c.w = .ok .skip (c.w.setRow b (cur.toList.take off ++ (a.eval y).cells.toList ++ cur.toList.drop (off + l.length)).toArray) := by
    simp only [execOp, hv, Sem.run_bind, hrun, Result.andThen_ok, Sem.run_pure]
  rw [hex]
  have hbM := hown b h2
  let c' : EW := ⟨c.w.setRow b (cur.toList.take off ++ (a.eval y).cells.toList ++ cur.toList.drop (off + l.length)).toArray, c.M⟩
  have htr : Tr c ob true c' ob := by
    refine ⟨rfl, rfl, rfl, by simp [c', World.setRow], fun j hj hne => ?_, fun _ _ => Iff.rfl, .inl rfl, fun j hj => by simp [c', World.setRow]; exact hwf j hj⟩
    exact setRow_other c.w b j _ (fun e => hne rfl (by rw [h2, e]))
  have hle : Le c c' := htr.le fun b hb => (hown b hb).1
  obtain ⟨q1, q2⟩ := puts_CL hp hle h4 h5 g1 (g2.st hle)
  exact ⟨c', ob, rfl, htr, trivial, fun _ => h6 c' _ q2 (setRow_heap c.w b cur _ U (0, 0) h3) q1⟩

/-! ### New blocks -/
/-- A new block of which this cell list holds. -/
theorem new_blk {w : World} {M : Nat → Prop} (hwf : ∀ k, M k → k < w.heap.size) {cells : List SP} {cur : Array Value} {T : TypeId} (hsz : cur.size = cells.length) (hcl : CL cells cur 0 ⟨w, M⟩) :
    let c' : EW := ⟨w.alloc (.cells cur T), fun k => M k ∨ k = w.heap.size⟩
    Tr ⟨w, M⟩ none true c' (some w.heap.size) ∧ (blk (.pointer (some ⟨w.heap.size, 0, none⟩)) cells T).H c' (some w.heap.size) := by
  have htr : Tr ⟨w, M⟩ none true ⟨w.alloc (.cells cur T), fun k => M k ∨ k = w.heap.size⟩ (some w.heap.size) := by
    refine ⟨rfl, rfl, rfl, by simp, fun j hj _ => heap_alloc_old w _ j hj, fun j hj => ⟨fun h => h.resolve_right (by simp at hj; omega), .inl⟩, .inr ⟨rfl, w.heap.size, rfl, Nat.le_refl _, .inr rfl⟩, fun j hj => ?_⟩
    have e : (w.alloc (.cells cur T)).heap.size = w.heap.size + 1 := by simp
    rw [e]
    rcases hj with h | h
    · have := hwf j h; omega
    · omega
  exact ⟨htr, w.heap.size, cur, rfl, rfl, heap_alloc_new w _, hsz, hcl.st (htr.le (fun _ h => by cases h))⟩
def ptrAt (d : Nat) : VE := .d [d] (fun f => ipo (f d) 0) (fun f g h => by rw [h d (List.mem_singleton.2 rfl)])
def blkAt (d : Nat) (cells : List SP) (T : TypeId) : VR := .d [d] (fun f => blk (f d) cells T) (fun f g h => by rw [h d (List.mem_singleton.2 rfl)])
theorem op_box {x : Operand} {T : TypeId} (k : Nat) {p : SP} {l : List SP} (hx : Lk Γ δ ρ x p) (hc : CellsOf p l) (hk : nth τ k = some (.c emp)) :
    OpOK P n ops Γ ρ δ τ ⟨some d, .box T x, ty, pos, af, none⟩ (.wr k) (ptrAt d) (blkAt d l T) := by
  intro a c ob hs hwf hf hr hres hno hown
  obtain ⟨r0, hr0, hh⟩ := hres k rfl
  rw [hk] at hr0
  cases hr0
  have hob : ob = none := hh
  subst hob
  have hpv := Lk.val (o := ⟨some d, .box T x, ty, pos, af, none⟩) hr hf (x := x) (by simp [Op.operands]) hx
  obtain ⟨g1, g2⟩ := hc _ c hpv
  simp only [Region.wanted, if_true]
  unfold Does
  have hex : (execOp a.eval ⟨some d, .box T x, ty, pos, af, none⟩).run P c.w = .ok (.value (.pointer (some ⟨c.w.heap.size, 0, none⟩))) (c.w.alloc (.cells (a.eval x).cells T)) := rfl
  rw [hex]
  obtain ⟨h1, h2⟩ := new_blk (w := c.w) (M := c.M) hwf (T := T) g1 g2
  refine ⟨_, _, rfl, h1, ?_, fun _ => ?_⟩
  · simp only [ptrAt, VE.at, upd_eq]
    exact ⟨c.w.heap.size, .inl rfl, rfl⟩
  · simp only [blkAt, VR.at, upd_eq]
    exact h2
theorem op_alloc {T : TypeId} (k : Nat) {zs : List Value} (hz : zrT P T = some zs) (h1 : zs.all (·.oneCell') = true) (hk : nth τ k = some (.c emp)) :
    OpOK P n ops Γ ρ δ τ ⟨some d, .alloc T, ty, pos, af, none⟩ (.wr k) (ptrAt d) (blkAt d (zs.map isv) T) := by
  intro a c ob hs hwf hf hr hres hno hown
  obtain ⟨r0, hr0, hh⟩ := hres k rfl
  rw [hk] at hr0
  cases hr0
  have hob : ob = none := hh
  subst hob
  simp only [Region.wanted, if_true]
  unfold Does
  unfold zrT at hz
  cases hi : P.info? T with
  | none => rw [hi] at hz; cases hz
  | some i =>
    rw [hi] at hz
    simp only [Option.bind_some] at hz
    cases hzz : i.zero with
    | none => rw [hzz] at hz; cases hz
    | some z =>
      rw [hzz] at hz
      simp only [Option.map_some, Option.some.injEq] at hz
      have hex : (execOp a.eval ⟨some d, .alloc T, ty, pos, af, none⟩).run P c.w = .ok (.value (.pointer (some ⟨c.w.heap.size, 0, none⟩))) (c.w.alloc (.cells z.cells T)) := by
        simp [execOp, Instr.alloc, zeroValue, typeInfo, hi, hzz, newVar, newRow]
      rw [hex]
      have hsz : z.cells.size = (zs.map isv).length := by rw [← hz]; simp
      have hcl : CL (zs.map isv) z.cells 0 ⟨c.w, c.M⟩ := fun i p hp => by
        rw [nth_eq, List.getElem?_map] at hp
        cases hu : zs[i]? with
        | none => rw [hu] at hp; cases hp
        | some u =>
          rw [hu] at hp
          cases hp
          have h1u : u.oneCell' = true := (List.all_eq_true.1 h1) u (List.mem_of_getElem? hu)
          refine ⟨u, ?_, h1u, rfl, h1u⟩
          rw [← hz, Array.getElem?_toList] at hu
          simpa using hu
      obtain ⟨h1, h2⟩ := new_blk (w := c.w) (M := c.M) hwf (T := T) hsz hcl
      refine ⟨_, _, rfl, h1, ?_, fun _ => ?_⟩
      · simp only [ptrAt, VE.at, upd_eq]
        exact ⟨c.w.heap.size, .inl rfl, rfl⟩
      · simp only [blkAt, VR.at, upd_eq]
        exact h2
/-- A whole value stored into a block that the same region has laid. -/
theorem op_store_new {t : Nat} {y : Operand} {T : TypeId} (k : Nat) {T' : TypeId} {p : SP} {l cells : List SP} (hx : getV δ ρ t = some (ptrAt t)) (hy : Lk Γ δ ρ y p) (hc : CellsOf p l) (hT : szT P T = some l.length)
    (hk : nth τ k = some (blkAt t cells T')) (hl : Nat.beq cells.length l.length = true) :
    OpOK P n ops Γ ρ δ τ ⟨none, .store T (.tmp t) y, ty, pos, af, none⟩ (.wr k) (.c anyp) (blkAt t l T') := by
  have hl' := Nat.eq_of_beq_eq_true hl
  intro a c ob hs hwf hf hr hres hno hown
  obtain ⟨r0, hr0, hh⟩ := hres k rfl
  rw [hk] at hr0
  cases hr0
  have hpt := hr t (List.mem_append_left _ (List.mem_filterMap.2 ⟨.tmp t, by simp [Op.operands], rfl⟩)) _ hx
  obtain ⟨b, hb, hv⟩ := hpt
  have hpv := Lk.val (o := ⟨none, .store T (.tmp t) y, ty, pos, af, none⟩) hr hf (x := y) (by simp [Op.operands]) hy
  obtain ⟨b', cur, h1, h2, h3, h4, h5⟩ := hh
  have : b = b' := Hd.inj hb (.inl h1)
  subst this
  obtain ⟨g1, g2⟩ := hc _ c hpv
  have hone : ∀ u, u ∈ (a.eval y).cells.toList → u.oneCell' = true := fun u hu => by
    obtain ⟨i, hi, hiu⟩ := List.mem_iff_getElem.1 hu
    have hil : i < l.length := by
      have : i < (a.eval y).cells.size := by simpa using hi
      omega
    obtain ⟨u', hu', h7, _⟩ := g2 i l[i] (by rw [nth_eq]; exact List.getElem?_eq_getElem hil)
    rw [Nat.zero_add] at hu'
    have : (a.eval y).cells[i]? = some u := by
      rw [← Array.getElem?_toList, List.getElem?_eq_getElem hi, hiu]
    rw [this] at hu'
    cases hu'
    exact h7
  have hrun := run_store_at (P := P) (off := 0) hT h3 g1 (by omega) hone
  simp only [Region.wanted, if_true]
  unfold Does
  have hv' : a.eval (.tmp t) = .pointer (some ⟨b, 0, none⟩) := hv
  have hex : (execOp a.eval ⟨none, .store T (.tmp t) y, ty, pos, af, none⟩).run P c.w = .ok .skip (c.w.setRow b (cur.toList.take 0 ++ (a.eval y).cells.toList ++ cur.toList.drop (0 + l.length)).toArray) := by
    simp only [execOp, hv', Sem.run_bind, hrun, Result.andThen_ok, Sem.run_pure]
  rw [hex]
  let c' : EW := ⟨c.w.setRow b (cur.toList.take 0 ++ (a.eval y).cells.toList ++ cur.toList.drop (0 + l.length)).toArray, c.M⟩
  have htr : Tr c ob true c' ob := by
    refine ⟨rfl, rfl, rfl, by simp [c', World.setRow], fun j hj hne => ?_, fun _ _ => Iff.rfl, .inl rfl, fun j hj => by simp [c', World.setRow]; exact hwf j hj⟩
    exact setRow_other c.w b j _ (fun e => hne rfl (by rw [h2, e]))
  have hle : Le c c' := htr.le fun b hb => (hown b hb).1
  have hput : Puts 0 l cells l := ⟨by omega, by omega, fun i => by
    by_cases hi : i < l.length
    · rw [if_pos (by omega), Nat.sub_zero]
    · rw [if_neg (by omega), nth_eq, nth_eq, List.getElem?_eq_none (by omega), List.getElem?_eq_none (by omega)]⟩
  obtain ⟨q1, q2⟩ := puts_CL hput hle h5 (by omega) g1 (g2.st hle)
  exact ⟨c', ob, rfl, htr, trivial, fun _ => ⟨b, _, h1, h2, setRow_heap c.w b cur _ T' (0, 0) h3, by omega, q1⟩⟩

end ops
end Go.Bn
