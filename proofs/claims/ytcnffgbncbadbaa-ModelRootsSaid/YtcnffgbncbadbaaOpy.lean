/-
  The logic of walks: slices without room, slices made by appending, arrays that the function owns.
-/
import Derived.Test.YtcnffgbncbadbaaOpx
import Derived.Laws.AppendOwn
import Derived.Lib.AppendZeros
set_option linter.unusedVariables false
set_option linter.unusedSimpArgs false
namespace Go.Bn
open Go
/-- An empty slice without room. -/
def e0p (E : TypeId) : SP := ⟨fun v c => ∃ b, v = .slice (some ⟨b, 0, none⟩) 0 0 ∧ ¬ c.M b ∧ c.w.heap[b]? = some (.cells #[] E (0, 0)), by
  rintro v c c' hle ⟨b, h1, h2, h3⟩
  have hb : b < c.w.heap.size := (Array.getElem?_eq_some_iff.1 h3).1
  have hk := hle.keep b hb h2
  exact ⟨b, h1, hk.2, hk.1.trans h3⟩⟩
section ops
variable {P : Program} {n : Nat} {ops : Array Oper} {Γ : Facts} {ρ : Env} {δ : VEnv} {τ : List VR}
variable {d : Nat} {ty : TypeId} {pos : String} {af : Array Edge}
/-- What is laid anew and never written: it may draw. -/
theorem ok_newp {op : Op} {p : SP}
    (h : ∀ (a : Act) (c : EW), (∀ k, c.M k → k < c.w.heap.size) → FH Γ c → (∀ x q, x ∈ op.operands → Lk Γ δ ρ x q → q.H (a.eval x) c) → ∃ v, ((execOp a.eval ⟨some d, op, ty, pos, af, none⟩).run P c.w = .ok (.value v) c.w ∧ p.H v c) ∨
      ∃ (dr : Nat) (cur : Array Value) (T : TypeId), (execOp a.eval ⟨some d, op, ty, pos, af, none⟩).run P c.w = .ok (.value v) ({ c.w with drawn := dr }.alloc (.cells cur T)) ∧ ∀ c' : EW, Le c c' → ¬ c'.M c.w.heap.size → c'.w.heap[c.w.heap.size]? = some (.cells cur T (0, 0)) → p.H v c') :
    OpOK P n ops Γ ρ δ τ ⟨some d, op, ty, pos, af, none⟩ .no (.c p) dum := by
  intro a c ob hs hwf hf hr hres hno hown
  have hob := hno rfl
  subst hob
  obtain ⟨v, hv⟩ := h a c hwf hf (fun x q hx hq => Lk.val (o := ⟨some d, op, ty, pos, af, none⟩) hr hf hx hq)
  simp only [Region.wanted, if_true]
  unfold Does
  rcases hv with ⟨hex, hp⟩ | ⟨dr, cur, T, hex, hp⟩
  · rw [hex]
    exact ⟨c, none, rfl, Tr.refl hwf, hp, fun h => (by cases h)⟩
  · rw [hex]
    have e : ({ c.w with drawn := dr }.alloc (.cells cur T)).heap.size = c.w.heap.size + 1 := by simp
    have htr : Tr c none false ⟨{ c.w with drawn := dr }.alloc (.cells cur T), c.M⟩ none :=
      ⟨rfl, rfl, rfl, by simp, fun j hj _ => heap_alloc_old { c.w with drawn := dr } _ j hj, fun j hj => Iff.rfl, .inl rfl, fun j hj => by
        show j < ({ c.w with drawn := dr }.alloc (.cells cur T)).heap.size
        rw [e]
        have := hwf j hj; omega⟩
    refine ⟨_, none, rfl, htr, hp _ (htr.le (fun _ h => by cases h)) (fun hm => ?_) (heap_alloc_new { c.w with drawn := dr } _), fun h => (by cases h)⟩
    have := hwf _ hm
    omega
theorem op_build0L {T E es eb : Nat} (ht : slT P T = some (E, es, eb)) :
    OpOK P n ops Γ ρ δ τ ⟨some d, .buildSlice T 0 #[], ty, pos, af, none⟩ .no (.c (e0p E)) dum := by
  obtain ⟨hu, i, hi, hsz, _⟩ := slT_u ht
  refine ok_newp fun a c hwf _ _ => ⟨.slice (some ⟨c.w.heap.size, 0, none⟩) 0 0, .inr ⟨c.w.drawn, #[], E, ?_, fun c' hle hm hh => ⟨_, rfl, hm, hh⟩⟩⟩
  simp [execOp, Instr.buildSlice, run_underlying hu, sizeOf, typeInfo, hi, hsz, newRow, Array.range_zero', Instr.fill]
theorem op_append_e0 {α : Type} {mk : α → SP} {ys : List α} {x y : Operand} {T E eb : Nat} {zs : List Value} (ht : slT P T = some (E, 1, eb)) (hz : zrT P E = some zs) (hzl : Nat.beq zs.length 1 = true) (hx : Lk Γ δ ρ x (e0p E)) (hy : Lk Γ δ ρ y (slm mk ys)) (h63 : ys.length ≤ 9223372036854775807) (hb : ys.length * eb ≤ 140737488355328) :
    OpOK P n ops Γ ρ δ τ ⟨some d, .call ⟨.builtin .append, #[x, y], #[T, T]⟩, ty, pos, af, none⟩ .no (.c (slm mk ys)) dum := by
  refine ok_newp fun a c hwf hf hr => ?_
  obtain ⟨b, hv, hm, hh⟩ := hr x _ (by simp [Op.operands, Call.operands]) hx
  have hyv := hr y _ (by simp [Op.operands, Call.operands]) hy
  obtain ⟨hu, i, hi, hsz, hbb⟩ := slT_u ht
  unfold zrT at hz
  rw [hi] at hz
  simp only [Option.bind_some] at hz
  cases hzz : i.zero with
  | none => rw [hzz] at hz; cases hz
  | some z =>
    rw [hzz] at hz
    simp only [Option.map_some, Option.some.injEq] at hz
    have hzs : z.cells.size = 1 := by
      have : zs.length = 1 := Nat.eq_of_beq_eq_true hzl
      rw [← hz] at this
      simpa using this
    have hyv' : (slc ys.length 1 (ys.map mk)).H (a.eval y) c := by
      have := hyv
      unfold slm slp at this
      rw [List.length_map] at this
      exact this
    obtain ⟨nsv, ad, cc, hyx, hnl, hncell, hnone, hnCL⟩ := slc_cells hyv'
    have hex : ∀ v' w', (Builtin.append_ #[T, T] ty #[a.eval x, a.eval y]).run P c.w = .ok v' w' → (execOp a.eval ⟨some d, .call ⟨.builtin .append, #[x, y], #[T, T]⟩, ty, pos, af, none⟩).run P c.w = .ok (.value v') w' := fun v' w' g1 => by
      simp only [execOp, resolve, invoke, builtin, Sem.run_bind, Sem.run_pure, Result.andThen_ok, List.map_toArray, List.map_cons, List.map_nil, g1]
    by_cases hm0 : ys.length = 0
    · refine ⟨a.eval x, .inl ⟨hex _ _ ?_, ?_⟩⟩
      · rw [hv]
        rcases hyx with hyx | ⟨hyx, _⟩ <;> rw [hyx] <;> simp [Builtin.append_, run_underlying hu, sizeOf, typeInfo, hi, Builtin.lenOf, Builtin.firstCells, loadCells, loadCellsFrom, storeCells, hm0]
      · have : ys = [] := List.eq_nil_of_length_eq_zero hm0
        subst this
        exact ⟨rfl, .inr ⟨_, 0, by rw [hv]; rfl, Nat.le_refl _, Nat.zero_le _, .inl rfl⟩⟩
    · obtain ⟨v', w', g1, g2⟩ := run_app (P := P) (ty := ty) (E := E) (T := T) (m := 0) c.w hu hi hzz hsz hbb hzs (by omega) #[] b 0 (.inr ⟨hv, Nat.le_refl _, Nat.zero_le _, hh, rfl⟩) nsv ad cc hyx hnl hncell hnone (by omega) (by rw [Nat.zero_add]; exact hb)
      rcases g2 with ⟨h1, _⟩ | ⟨_, h1, _⟩ | ⟨cap', rest, h1, h2, h3, h4, h5⟩
      · exact (hm0 h1).elim
      · omega
      · subst h4
        refine ⟨v', .inr ⟨c.w.drawn + 1, _, E, hex _ _ g1, fun c' hle hm' hh' => ?_⟩⟩
        rw [Nat.zero_add] at h1 h2
        refine ⟨by simp, .inr ⟨_, cap', by rw [h1, List.length_map], by rw [List.length_map]; exact h2, h3, .inr ⟨_, 0, rfl, hm', _, E, (0, 0), hh', ?_⟩⟩⟩
        have e : ((#[] : Array Value).toList.take (0 * 1)).toArray ++ nsv.toArray ++ rest = ([] ++ nsv ++ rest.toList).toArray := by
          apply Array.ext'; simp
        rw [e]
        have h0 : CL [] (([] : List Value)).toArray 0 c := fun j p hj => by simp [nth] at hj
        exact (CL_append h0 hnCL rfl (by rw [hnl, List.length_map, Nat.mul_one])).st hle

/-! ## Arrays that the function owns -/
theorem op_index_arr {x y : Operand} {T len E es off o' : Nat} {k : IntKind} {z : Int} {base : Value} (hT : arT P T = some (len, E, es)) (hx : Lk Γ δ ρ x (ipo base off)) (hy : Lk Γ δ ρ y (isv (.int k z))) (h0 : 0 ≤ z) (h1 : z < len) (ho : off + z.toNat * es = o') :
    OpOK P n ops Γ ρ δ τ ⟨some d, .indexAddr T x y, ty, pos, af, none⟩ .no (.c (ipo base o')) dum :=
  ok_pure fun a c _ hr => by
    subst ho
    obtain ⟨b, hb, hv⟩ := hr x _ (by simp [Op.operands]) hx
    have hz := (hr y _ (by simp [Op.operands]) hy).1
    unfold arT at hT
    cases hu : P.underlying T with
    | none => rw [hu] at hT; cases hT
    | some D =>
      rw [hu] at hT
      cases D <;> first | (cases hT; done) | skip
      rename_i len' E'
      simp only at hT
      cases hi : P.info? E' with
      | none => rw [hi] at hT; cases hT
      | some i =>
        rw [hi] at hT
        cases hT
        refine ⟨.pointer (some ⟨b, off + z.toNat * i.size, none⟩), ?_, b, hb, rfl⟩
        simp [execOp, Instr.indexAt, asIntOf, hv, hz, run_underlying hu, h0, h1, sizeOf, typeInfo, hi, Instr.sureAddr, addr_add]
theorem op_index_arr1 {x y : Operand} {T len E : Nat} {k : IntKind} {z : Int} {base : Value} (hT : arT P T = some (len, E, 1)) (hx : Lk Γ δ ρ x (ipo base 0)) (hy : Lk Γ δ ρ y (isv (.int k z))) (h0 : 0 ≤ z) (h1 : z < len) :
    OpOK P n ops Γ ρ δ τ ⟨some d, .indexAddr T x y, ty, pos, af, none⟩ .no (.c (ipo base z.toNat)) dum := op_index_arr hT hx hy h0 h1 (by omega)
theorem op_get_arr {α : Type} {mk : α → SP} {xs : List α} (dv : α) {x : Operand} {T U : TypeId} {base : Value} {off : Nat} (k : Nat) (hT : scT P T = true) (hx : Lk Γ δ ρ x (ipo base off)) (hk : nth τ k = some (.c (blk base (xs.map mk) U))) (h1 : off < xs.length) :
    OpOK P n ops Γ ρ δ τ ⟨some d, .load T x, ty, pos, af, none⟩ (.rd k) (.c (mk (xs.getD off dv))) dum :=
  op_get_sc k hT hx hk mem_blk (by rw [nth_map, nth_getD dv h1]; rfl)
theorem op_store_arr {α : Type} {mk : α → SP} {xs : List α} {v : α} {x y : Operand} {T U : TypeId} {base : Value} {off : Nat} (k : Nat) (hx : Lk Γ δ ρ x (ipo base off)) (hy : Lk Γ δ ρ y (mk v)) (hc : CellsOf (mk v) [mk v]) (hT : szT P T = some 1) (hk : nth τ k = some (.c (blk base (xs.map mk) U))) (h1 : off < xs.length) :
    OpOK P n ops Γ ρ δ τ ⟨none, .store T x y, ty, pos, af, none⟩ (.wr k) (.c anyp) (.c (blk base ((xs.set off v).map mk) U)) :=
  op_store (cells := xs.map mk) (cells' := (xs.set off v).map mk) k hx hy hc hT hk (by rw [List.map_set]; exact puts_set (by simpa using h1)) (memw_blk (by simp))
/-! ## Growing from nothing -/
theorem op_len_nil {x : Operand} {T E es eb : Nat} (ht : slT P T = some (E, es, eb)) (hx : Lk Γ δ ρ x (isv (.slice none 0 0))) :
    OpOK P n ops Γ ρ δ τ ⟨some d, .call ⟨.builtin .len, #[x], #[T]⟩, ty, pos, af, none⟩ .no (.c (isv (.int .i64 0))) dum := op_len_m (mk := flp) (xs := []) ht (Lk.sub (sb_nil (mk := flp)) hx)
theorem op_cap_nil {x : Operand} {T E es eb : Nat} (ht : slT P T = some (E, es, eb)) (hx : Lk Γ δ ρ x (isv (.slice none 0 0))) :
    OpOK P n ops Γ ρ δ τ ⟨some d, .call ⟨.builtin .cap, #[x], #[T]⟩, ty, pos, af, none⟩ .no (.c (isv (.int .i64 0))) dum :=
  ok_pure fun a c _ hr => by
    have hv := (hr x _ (by simp [Op.operands, Call.operands]) hx).1
    refine ⟨.int .i64 0, ?_, rfl, rfl⟩
    simp [execOp, resolve, invoke, builtin, Builtin.cap_, hv, run_underlying (slT_u ht).1, goInt]
theorem op_slice_nil {x hi : Operand} {T E es eb : Nat} {k : IntKind} (ht : slT P T = some (E, es, eb)) (hx : Lk Γ δ ρ x (isv (.slice none 0 0))) (hh : Lk Γ δ ρ hi (isv (.int k 0))) :
    OpOK P n ops Γ ρ δ τ ⟨some d, .slice T x none (some hi) none, ty, pos, af, none⟩ .no (.c (isv (.slice none 0 0))) dum :=
  ok_pure fun a c _ hr => by
    have hv := (hr x _ (by simp [Op.operands]) hx).1
    have hz := (hr hi _ (by simp [Op.operands]) hh).1
    obtain ⟨hu, i, hi', hs, _⟩ := slT_u ht
    refine ⟨.slice none 0 0, ?_, rfl, rfl⟩
    simp [execOp, Instr.sliceAt, Instr.slice, Instr.sliceBounds, Instr.sliceBound, hv, hz, run_underlying hu, sizeOf, typeInfo, hi', asIntOf]
theorem op_slice0_som {α : Type} {mk : α → SP} {xs : List α} {x hi : Operand} {T E es eb U : Nat} {k0 : IntKind} {sv : Value} (k : Nat) (ht : slT P T = some (E, es, eb)) (hx : Lk Γ δ ρ x (isv sv)) (hh : Lk Γ δ ρ hi (isv (.int k0 0))) (hk : nth τ k = some (.c (som sv mk xs U))) :
    OpOK P n ops Γ ρ δ τ ⟨some d, .slice T x none (some hi) none, ty, pos, af, none⟩ (.wr k) (slAt d) (.d [d] (fun f => som (f d) mk [] U) (fun f g h => by rw [h d (List.mem_singleton.2 rfl)])) := by
  intro a c ob hs hwf hf hr hres hno hown
  obtain ⟨r0, hr0, hl⟩ := hres k rfl
  rw [hk] at hr0
  cases hr0
  have hv := (Lk.val (o := ⟨some d, .slice T x none (some hi) none, ty, pos, af, none⟩) hr hf (x := x) (by simp [Op.operands]) hx).1
  have hz := (Lk.val (o := ⟨some d, .slice T x none (some hi) none, ty, pos, af, none⟩) hr hf (x := hi) (by simp [Op.operands]) hh).1
  obtain ⟨hu, i, hi', hsz, _⟩ := slT_u ht
  obtain ⟨_, hc⟩ := hl
  simp only [Region.wanted, if_true]
  unfold Does
  rcases hc with ⟨h1, h2, h3⟩ | ⟨b, cap, cur, h1, h2, h3, h4, h5, h6, h7⟩
  · have hex : (execOp a.eval ⟨some d, .slice T x none (some hi) none, ty, pos, af, none⟩).run P c.w = .ok (.value (.slice none 0 0)) c.w := by
      simp [execOp, Instr.sliceAt, Instr.slice, Instr.sliceBounds, Instr.sliceBound, hv, h1, hz, run_underlying hu, sizeOf, typeInfo, hi', asIntOf]
    rw [hex]
    refine ⟨c, ob, rfl, ⟨rfl, rfl, rfl, Nat.le_refl _, fun _ _ _ => rfl, fun _ _ => Iff.rfl, .inl rfl, hwf⟩, ?_, fun _ => ?_⟩
    · simp only [slAt, VE.at, upd_eq]; exact ⟨rfl, rfl⟩
    · simp only [VR.at, upd_eq]; exact ⟨rfl, .inl ⟨rfl, rfl, h3⟩⟩
  · have hex : (execOp a.eval ⟨some d, .slice T x none (some hi) none, ty, pos, af, none⟩).run P c.w = .ok (.value (.slice (some ⟨b, 0, none⟩) 0 cap)) c.w := by
      simp [execOp, Instr.sliceAt, Instr.slice, Instr.sliceBounds, Instr.sliceBound, hv, h1, hz, run_underlying hu, sizeOf, typeInfo, hi', asIntOf, Addr.add]
    rw [hex]
    refine ⟨c, ob, rfl, ⟨rfl, rfl, rfl, Nat.le_refl _, fun _ _ _ => rfl, fun _ _ => Iff.rfl, .inl rfl, hwf⟩, ?_, fun _ => ?_⟩
    · simp only [slAt, VE.at, upd_eq]; exact ⟨rfl, rfl⟩
    · simp only [VR.at, upd_eq]
      exact ⟨rfl, .inr ⟨b, cap, cur, rfl, h2, Nat.zero_le _, h4, h5, h6, fun j p hj => by simp [nth] at hj⟩⟩
theorem op_appendz {α : Type} {mk : α → SP} (v0 : α) {x y : Operand} {T E eb U : Nat} {zv : Value} (k : Nat) {k0 ku : IntKind} {l : Int} (ht : slT P T = some (E, 1, eb)) (htn : P.underlying U = some (.int ku)) (hz : zrT P E = some [zv]) (hz1 : zv.oneCell' = true) (hmk : ∀ c, (mk v0).H zv c) (hx : Lk Γ δ ρ x (isv (.slice none 0 0))) (hy : Lk Γ δ ρ y (isv (.int k0 l)))
    (h0 : 0 < l) (h63 : l ≤ 9223372036854775807) (h48 : l.toNat * eb ≤ 140737488355328) (hk : nth τ k = some (.c emp)) :
    OpOK P n ops Γ ρ δ τ ⟨some d, .call ⟨.builtin .append, #[x, y], #[T, U]⟩, ty, pos, af, none⟩ (.wr k) (slAt d) (.d [d] (fun f => som (f d) mk (List.replicate l.toNat v0) E) (fun f g h => by rw [h d (List.mem_singleton.2 rfl)])) := by
  intro a c ob hs hwf hf hr hres hno hown
  obtain ⟨r0, hr0, hh⟩ := hres k rfl
  rw [hk] at hr0
  cases hr0
  have hob : ob = none := hh
  subst hob
  have hv := (Lk.val (o := ⟨some d, .call ⟨.builtin .append, #[x, y], #[T, U]⟩, ty, pos, af, none⟩) hr hf (x := x) (by simp [Op.operands, Call.operands]) hx).1
  have hyv := (Lk.val (o := ⟨some d, .call ⟨.builtin .append, #[x, y], #[T, U]⟩, ty, pos, af, none⟩) hr hf (x := y) (by simp [Op.operands, Call.operands]) hy).1
  obtain ⟨hu, i, hi, hsz, hbb⟩ := slT_u ht
  unfold zrT at hz
  rw [hi] at hz
  simp only [Option.bind_some] at hz
  cases hzz : i.zero with
  | none => rw [hzz] at hz; cases hz
  | some z =>
    rw [hzz] at hz
    simp only [Option.map_some, Option.some.injEq] at hz
    have hzc : z.cells = #[zv] := by apply Array.ext'; rw [hz]
    have hl : l = ((l.toNat : Nat) : Int) := by omega
    generalize hn : l.toNat = m at *
    subst hl
    have hrun := Lib.run_append_nil_zeros (P := P) c.w T U ty E i z k0 ku hu htn hi hzz m (by omega) (by omega) h63 (by rw [hbb]; omega)
    have hex : (execOp a.eval ⟨some d, .call ⟨.builtin .append, #[x, y], #[T, U]⟩, ty, pos, af, none⟩).run P c.w = .ok (.value (.slice (some ⟨c.w.heap.size, 0, none⟩) m (grownCap c.w m 0 E))) (c.w.drew.alloc (.cells (Builtin.zeroCells z.cells m ++ Builtin.zeroCells z.cells (grownCap c.w m 0 E - m)) E)) := by
      simp only [execOp, resolve, invoke, builtin, Sem.run_bind, Sem.run_pure, Result.andThen_ok, List.map_toArray, List.map_cons, List.map_nil, hv, hyv, hrun]
    simp only [Region.wanted, if_true]
    unfold Does
    rw [hex]
    have hge : m ≤ grownCap c.w m 0 E := grownCap_ge c.w m 0 E
    have hle0 : grownCap c.w m 0 E ≤ maxLen := grownCap_le_maxLen c.w m 0 E (by simp only [maxLen]; omega)
    generalize grownCap c.w m 0 E = cap at hge hle0 ⊢
    let c' : EW := ⟨c.w.drew.alloc (.cells (Builtin.zeroCells z.cells m ++ Builtin.zeroCells z.cells (cap - m)) E), fun k => c.M k ∨ k = c.w.heap.size⟩
    have hsize : (c.w.drew.alloc (.cells (Builtin.zeroCells z.cells m ++ Builtin.zeroCells z.cells (cap - m)) E)).heap.size = c.w.heap.size + 1 := by simp
    have htr : Tr c none true c' (some c.w.heap.size) := by
      refine ⟨rfl, rfl, rfl, by simp [c'], fun j hj _ => heap_alloc_old c.w.drew _ j hj, fun j hj => ⟨fun h => h.resolve_right (by omega), .inl⟩, .inr ⟨rfl, c.w.heap.size, rfl, Nat.le_refl _, .inr rfl⟩, fun j hj => ?_⟩
      show j < (c.w.drew.alloc _).heap.size
      rw [hsize]
      rcases hj with h | h
      · have := hwf j h; omega
      · omega
    refine ⟨c', some c.w.heap.size, rfl, htr, ?_, fun _ => ?_⟩
    · simp only [slAt, VE.at, upd_eq]
      exact ⟨rfl, rfl⟩
    · simp only [VR.at, upd_eq]
      refine ⟨by simp, .inr ⟨c.w.heap.size, cap, _, by rw [List.length_replicate], rfl, by rw [List.length_replicate]; exact hge, hle0, heap_alloc_new c.w.drew _, ?_, fun j p hj => ?_⟩⟩
      · simp [Builtin.zeroCells, hzc]; omega
      · rw [nth_map] at hj
        cases hx0 : nth (List.replicate m v0) j with
        | none => rw [hx0] at hj; cases hj
        | some q =>
          rw [hx0] at hj
          simp only [Option.map_some, Option.some.injEq] at hj
          subst hj
          rw [nth_eq] at hx0
          have hjm : j < m := by have := (List.getElem?_eq_some_iff.1 hx0).1; simpa using this
          have hq : q = v0 := List.eq_of_mem_replicate (List.mem_of_getElem? hx0)
          subst hq
          refine ⟨zv, ?_, hz1, hmk _⟩
          rw [Nat.zero_add, Array.getElem?_append_left (by simp [Builtin.zeroCells, hzc]; exact hjm)]
          simp [Builtin.zeroCells, hzc, hjm, Nat.mod_one]
end ops
end Go.Bn
