/-
  The logic of walks, seventh part: structs and slices written out, calls, function values, a function's entry and return.
-/
import Derived.Test.YtcnffgbncbadbaaFlt
set_option linter.unusedVariables false
set_option linter.unusedSimpArgs false
namespace Go.Bn
open Go

/-! ## Structs and slices written out -/
def plT (P : Program) (T : TypeId) : Option (List (Nat × Nat)) := match P.underlying T with
  | some (.struct fs) => go fs.toList
  | _ => none
where go : List Field → Option (List (Nat × Nat))
  | [] => some []
  | f :: l => match P.info? f.type, go l with
    | some i, some r => some ((f.offset, i.size) :: r)
    | _, _ => none

theorem fill_foldl : ∀ (vs : List Value) (off k : Nat) (cs : Array Value), off + k + vs.length ≤ cs.size →
    ∀ i, ((vs.zipIdx k).foldl (fun cs (x : Value × Nat) => cs.setIfInBounds (off + x.2) x.1) cs)[i]? = if off + k ≤ i ∧ i < off + k + vs.length then vs[i - (off + k)]? else cs[i]?
  | [], off, k, cs, _, i => by simp; intro h1 h2; omega
  | v :: vs, off, k, cs, hl, i => by
    simp only [List.zipIdx_cons, List.foldl_cons]
    simp only [List.length_cons] at hl
    rw [fill_foldl vs off (k + 1) (cs.setIfInBounds (off + k) v) (by simp; omega) i]
    simp only [List.length_cons]
    by_cases h1 : off + (k + 1) ≤ i ∧ i < off + (k + 1) + vs.length
    · rw [if_pos h1, if_pos (by omega)]
      have e : i - (off + k) = (i - (off + (k + 1))) + 1 := by omega
      rw [e, List.getElem?_cons_succ]
    · rw [if_neg h1]
      by_cases h2 : i = off + k
      · subst h2
        have hlt : off + k < cs.size := by omega
        rw [if_pos (by omega)]
        simp [hlt]
      · rw [if_neg (by omega)]
        simp [Array.getElem?_setIfInBounds, Ne.symm h2]
theorem fill_foldl_size : ∀ (vs : List (Value × Nat)) (off : Nat) (cs : Array Value), (vs.foldl (fun cs (x : Value × Nat) => cs.setIfInBounds (off + x.2) x.1) cs).size = cs.size
  | [], _, _ => rfl
  | v :: vs, off, cs => by simp only [List.foldl_cons]; rw [fill_foldl_size vs off]; simp

section ops
variable {P : Program} {n : Nat} {ops : Array Oper} {Γ : Facts} {ρ : Env} {δ : VEnv} {τ : List VR}
variable {d : Nat} {ty : TypeId} {pos : String} {af : Array Edge}

inductive BuildL (Γ : Facts) (δ : VEnv) (ρ : Env) (place : Nat → Option (Nat × Nat)) : List (Nat × Operand) → List SP → List SP → Prop where
  | nil {cs : List SP} : BuildL Γ δ ρ place [] cs cs
  | cons {i : Nat} {x : Operand} {rest : List (Nat × Operand)} {off size : Nat} {p : SP} {l cs cs1 out : List SP} (h1 : place i = some (off, size)) (h2 : Lk Γ δ ρ x p) (h3 : CellsOf p l) (h4 : Nat.beq l.length size = true) (h5 : Puts off l cs cs1)
      (hr : BuildL Γ δ ρ place rest cs1 out) : BuildL Γ δ ρ place ((i, x) :: rest) cs out

theorem BuildL.run {place : Nat → Option (Nat × Nat)} {parts : List (Nat × Operand)} {cs out : List SP} (h : BuildL Γ δ ρ place parts cs out) {a : Act} {c : EW}
    (hr : ∀ x p, x ∈ parts.map (·.2) → Lk Γ δ ρ x p → p.H (a.eval x) c) : ∀ cells : Array Value, cells.size = cs.length → CL cs cells 0 c →
    ∃ cells', Instr.fill place cells (parts.map fun x => (x.1, a.eval x.2)) = some cells' ∧ cells'.size = out.length ∧ CL out cells' 0 c := by
  induction h with
  | nil => exact fun cells h1 h2 => ⟨cells, rfl, h1, h2⟩
  | @cons i x rest off size p l cs cs1 out h1 h2 h3 h4 h5 hrest ih =>
    intro cells hsz hcl
    have hv := hr x p (by simp) h2
    obtain ⟨g1, g2⟩ := h3 _ c hv
    have h4' := Nat.eq_of_beq_eq_true h4
    obtain ⟨q1, q2, q3⟩ := h5
    let cells1 := (a.eval x).cells.zipIdx.foldl (fun cs (x : Value × Nat) => cs.setIfInBounds (off + x.2) x.1) cells
    have e1 : cells1 = ((a.eval x).cells.toList.zipIdx 0).foldl (fun cs (x : Value × Nat) => cs.setIfInBounds (off + x.2) x.1) cells := by
      show (a.eval x).cells.zipIdx.foldl _ cells = _
      rw [← Array.foldl_toList]
      simp
    have hs1 : cells1.size = cs1.length := by rw [e1, fill_foldl_size, hsz, q1]
    have hc1 : CL cs1 cells1 0 c := fun j q hj => by
      rw [q3 j] at hj
      rw [Nat.zero_add, e1, fill_foldl _ off 0 cells (by simp [g1]; omega) j]
      simp only [Nat.add_zero, Array.length_toList, g1]
      by_cases hj1 : off ≤ j ∧ j < off + l.length
      · rw [if_pos hj1] at hj ⊢
        have := g2 (j - off) q hj
        simpa using this
      · rw [if_neg hj1] at hj ⊢
        have := hcl j q hj
        simpa using this
    obtain ⟨cells', r1, r2, r3⟩ := ih (fun x' p' hx' => hr x' p' (by simp only [List.map_cons, List.mem_cons]; exact .inr hx')) cells1 hs1 hc1
    refine ⟨cells', ?_, r2, r3⟩
    simp only [List.map_cons, Instr.fill, h1]
    rw [if_neg (by simp [g1, h4', hsz]; omega)]
    exact r1

theorem run_places : ∀ (fs : List Field) (pl : List (Nat × Nat)) (w : World), plT.go P fs = some pl → (fs.mapM (fun f : Field => (do pure (f.offset, ← sizeOf f.type) : Sem (Nat × Nat)))).run P w = .ok pl w
  | [], pl, w, h => by simp only [plT.go, Option.some.injEq] at h; subst h; rfl
  | f :: fs, pl, w, h => by
    simp only [plT.go] at h
    split at h
    · rename_i i r hi hr
      cases h
      have ih := run_places fs r w hr
      rw [List.mapM_cons]
      have hs : (sizeOf f.type).run P w = .ok i.size w := by simp [sizeOf, typeInfo, hi]
      simp only [Sem.run_bind, hs, Result.andThen_ok, Sem.run_pure, ih]
    · cases h
theorem zCL {zs : List Value} (h1 : zs.all (·.oneCell') = true) {c : EW} : CL (zs.map isv) zs.toArray 0 c := fun i p hp => by
  rw [nth_eq, List.getElem?_map] at hp
  cases hu : zs[i]? with
  | none => rw [hu] at hp; cases hp
  | some u =>
    rw [hu] at hp
    cases hp
    have h1u : u.oneCell' = true := (List.all_eq_true.1 h1) u (List.mem_of_getElem? hu)
    exact ⟨u, by simpa using hu, h1u, rfl, h1u⟩
theorem op_build {T : TypeId} {parts : List (Nat × Operand)} {zs : List Value} {pl : List (Nat × Nat)} {out : List SP} (hz : zrT P T = some zs) (h1 : zs.all (·.oneCell') = true) (hp : plT P T = some pl) (hb : BuildL Γ δ ρ (nth pl) parts (zs.map isv) out) :
    OpOK P n ops Γ ρ δ τ ⟨some d, .build T parts.toArray, ty, pos, af, none⟩ .no (.c (aggp out)) dum :=
  ok_pure fun a c _ hr => by
    unfold zrT at hz
    unfold plT at hp
    cases hi : P.info? T with
    | none => rw [hi] at hz; cases hz
    | some i =>
      rw [hi] at hz
      simp only [Option.bind_some] at hz
      cases hzz : i.zero with
      | none => rw [hzz] at hz; cases hz
      | some z =>
        rw [hzz] at hz
        simp only [Option.map_some, Option.some.injEq] at hz
        cases hu : P.underlying T with
        | none => rw [hu] at hp; cases hp
        | some D =>
          rw [hu] at hp
          cases D <;> first | (cases hp; done) | skip
          rename_i fs
          simp only at hp
          have hza : z.cells = zs.toArray := by rw [← hz]
          obtain ⟨cells', q1, q2, q3⟩ := hb.run (a := a) (c := c) (fun x p hx hp' => hr x p (by simpa [Op.operands] using hx) hp') z.cells (by rw [hza]; simp) (by rw [hza]; exact zCL h1)
          refine ⟨.agg cells', ?_, cells', rfl, q2, q3⟩
          have hm : (fs.mapM (fun f : Field => (do pure (f.offset, ← sizeOf f.type) : Sem (Nat × Nat)))).run P c.w = .ok pl.toArray c.w := by
            rw [Array.mapM_eq_mapM_toList]
            simp only [Sem.run_map, run_places fs.toList pl c.w hp, Result.andThen_ok]
          have hf : Instr.fill (pl.toArray[·]?) z.cells (parts.map fun x => (x.1, a.eval x.2)) = some cells' := by
            rw [← q1]
            congr 1
            funext j
            simp [nth_eq]
          simp only [execOp, Instr.build, zeroValue, typeInfo, Sem.run_bind, program, Sem.run, hi, hzz, Result.andThen_ok, Sem.run_pure, run_underlying hu, hm, List.map_toArray, hf]

/-- A slice written out: nobody writes it any more. -/
theorem ok_newslice {op : Op} {T m kk : Nat} {cells : List SP} (hlen : cells.length = m * kk)
    (h : ∀ (a : Act) (c : EW), FH Γ c → (∀ x q, x ∈ op.operands → Lk Γ δ ρ x q → q.H (a.eval x) c) → ∃ cap cur, (execOp a.eval ⟨some d, op, ty, pos, af, none⟩).run P c.w = .ok (.value (.slice (some ⟨c.w.heap.size, 0, none⟩) m cap)) (c.w.alloc (.cells cur T)) ∧ m ≤ cap ∧ cap ≤ maxLen ∧ CL cells cur 0 c) :
    OpOK P n ops Γ ρ δ τ ⟨some d, op, ty, pos, af, none⟩ .no (.c (slc m kk cells)) dum := by
  intro a c ob hs hwf hf hr hres hno hown
  have hob := hno rfl
  subst hob
  obtain ⟨cap, cur, hex, h1, h2, h4⟩ := h a c hf (fun x q hx hq => Lk.val (o := ⟨some d, op, ty, pos, af, none⟩) hr hf hx hq)
  simp only [Region.wanted, if_true]
  unfold Does
  rw [hex]
  have e : (c.w.alloc (.cells cur T)).heap.size = c.w.heap.size + 1 := by simp
  have htr : Tr c none false ⟨c.w.alloc (.cells cur T), c.M⟩ none :=
    ⟨rfl, rfl, rfl, by simp, fun j hj _ => heap_alloc_old c.w _ j hj, fun j hj => Iff.rfl, .inl rfl, fun j hj => by
      show j < (c.w.alloc (.cells cur T)).heap.size
      rw [e]
      have := hwf j hj; omega⟩
  refine ⟨_, none, rfl, htr, ⟨hlen, .inr ⟨⟨c.w.heap.size, 0, none⟩, cap, rfl, h1, h2, .inr ⟨c.w.heap.size, 0, rfl, fun hm => ?_, cur, T, (0, 0), heap_alloc_new c.w _, h4.st (htr.le (fun _ h => by cases h))⟩⟩⟩, fun h => (by cases h)⟩
  have := hwf _ hm
  omega
theorem op_buildSlice {T E es eb len : Nat} {parts : List (Nat × Operand)} {zs : List Value} {out : List SP} (ht : slT P T = some (E, es, eb)) (hz : zrT P E = some zs) (hz1 : zs.all (·.oneCell') = true) (hzl : Nat.beq zs.length es = true) (hes : Nat.blt 0 es = true) (hlim : Nat.ble (len * es) 16777216 = true)
    (hb : BuildL Γ δ ρ (fun i => some (i * es, es)) parts (List.replicate len (zs.map isv)).flatten out) :
    OpOK P n ops Γ ρ δ τ ⟨some d, .buildSlice T len parts.toArray, ty, pos, af, none⟩ .no (.c (slc len es out)) dum := by
  have hzl' : zs.length = es := Nat.eq_of_beq_eq_true hzl
  have hes' := blt_lt hes
  have hlim' : len * es ≤ 16777216 := Nat.le_of_ble_eq_true hlim
  have hlen0 : ((List.replicate len (zs.map isv)).flatten).length = len * es := by simp [hzl']
  have hlo : out.length = len * es := by
    have : ∀ {parts : List (Nat × Operand)} {cs out : List SP}, BuildL Γ δ ρ (fun i => some (i * es, es)) parts cs out → out.length = cs.length := by
      intro parts cs out h
      induction h with
      | nil => rfl
      | cons h1 h2 h3 h4 h5 hr ih => rw [ih, h5.1]
    rw [this hb, hlen0]
  refine ok_newslice (T := E) hlo fun a c _ hr => ?_
  obtain ⟨hu, i, hi, hsz, _⟩ := slT_u ht
  unfold zrT at hz
  rw [hi] at hz
  simp only [Option.bind_some] at hz
  cases hzz : i.zero with
  | none => rw [hzz] at hz; cases hz
  | some z =>
    rw [hzz] at hz
    simp only [Option.map_some, Option.some.injEq] at hz
    have hza : z.cells = zs.toArray := by rw [← hz]
    have hzsz : z.cells.size = es := by rw [hza]; simpa using hzl'
    have hcl : CL (List.replicate len (zs.map isv)).flatten (madeCells z.cells (len * es)) 0 c := fun j p hj => by
      have hjl := nth_lt hj
      rw [hlen0] at hjl
      have hmod : j % es < es := Nat.mod_lt _ hes'
      have hp : nth (List.replicate len (zs.map isv)).flatten j = (nth zs (j % es)).map isv := by
        rw [nth_eq, nth_eq]
        have key : ∀ (m : Nat) (j : Nat), j < m * es → ((List.replicate m (zs.map isv)).flatten)[j]? = (zs[j % es]?).map isv := by
          intro m
          induction m with
          | zero => intro j hj; omega
          | succ m ih =>
            intro j hj
            rw [List.replicate_succ, List.flatten_cons]
            by_cases hjs : j < es
            · rw [List.getElem?_append_left (by simp [hzl']; exact hjs), List.getElem?_map, Nat.mod_eq_of_lt hjs]
            · rw [List.getElem?_append_right (by simp [hzl']; omega)]
              simp only [List.length_map, hzl']
              rw [ih (j - es) (by rw [Nat.succ_mul] at hj; omega), ← Nat.mod_eq_sub_mod (by omega)]
        exact key len j hjl
      rw [hp] at hj
      cases hzv : nth zs (j % es) with
      | none => rw [hzv] at hj; cases hj
      | some zv =>
        rw [hzv] at hj
        cases hj
        have hone : zv.oneCell' = true := (List.all_eq_true.1 hz1) zv (by rw [nth_eq] at hzv; exact List.mem_of_getElem? hzv)
        refine ⟨zv, ?_, hone, rfl, hone⟩
        rw [Nat.zero_add]
        simp only [madeCells, Array.getElem?_map, hzsz]
        rw [Array.getElem?_eq_getElem (by simpa using hjl)]
        simp only [Array.getElem_range, Option.map_some, Option.some.injEq]
        rw [nth_eq] at hzv
        rw [getElem!_def, hza]
        simp [hzv]
    obtain ⟨cells', q1, q2, q3⟩ := hb.run (a := a) (c := c) (fun x p hx hp' => hr x p (by simpa [Op.operands] using hx) hp') (madeCells z.cells (len * es)) (by rw [size_madeCells, hlen0]) hcl
    refine ⟨len, cells', ?_, Nat.le_refl _, ?_, q3⟩
    · have h24 : ¬ (16777216 < len * es) := by omega
      by_cases hl0 : len * es = 0
      · have hempty : madeCells z.cells (len * es) = #[] := by rw [hl0]; simp [madeCells]
        rw [hempty] at q1
        simp [execOp, Instr.buildSlice, run_underlying hu, sizeOf, typeInfo, hi, hsz, hl0, newRow, Array.range_zero', q1]
      · unfold madeCells at q1
        simp [execOp, Instr.buildSlice, run_underlying hu, sizeOf, typeInfo, hi, hsz, hl0, h24, zeroValue, hzz, newRow, q1]
    · have h1 : len ≤ len * es := Nat.le_mul_of_pos_right _ hes'
      simp only [maxLen]; omega

/-! ## Calls -/
/-- What a call leaves alone. -/
structure Xt (c : EW) (w' : World) : Prop where
  os : w'.os = c.w.os
  tape : w'.tape = c.w.tape
  out : w'.output = c.w.output
  size : c.w.heap.size ≤ w'.heap.size
  heap : ∀ k, k < c.w.heap.size → w'.heap[k]? = c.w.heap[k]?
theorem Xt.tr {c : EW} {w' : World} (h : Xt c w') (hwf : ∀ k, c.M k → k < c.w.heap.size) (ob : Option Nat) : Tr c ob false ⟨w', c.M⟩ ob :=
  ⟨h.os, h.tape, h.out, h.size, fun k hk _ => h.heap k hk, fun _ _ => Iff.rfl, .inl rfl, fun k hk => Nat.lt_of_lt_of_le (hwf k hk) h.size⟩
theorem Xt.le {c : EW} {w' : World} (h : Xt c w') : Le c ⟨w', c.M⟩ := ⟨h.os, h.tape, h.out, h.size, fun k hk hm => ⟨h.heap k hk, hm⟩⟩
/-- A function that can be called: it has a body of its own. -/
def Has (P : Program) (f : Nat) : Prop := ∃ fn, P.funcs[f]? = some fn ∧ (fn.name == "runtime.NumGoroutine") = false ∧ fn.body.isNone = false
/-- The contract of a function that writes nothing that was there: from such arguments it comes to such a result. -/
def Ct (P : Program) (f : Nat) (ps : List SP) (R : SP) : Prop :=
  Has P f ∧ ∀ (vs : List Value) (c : EW), (∀ k, c.M k → k < c.w.heap.size) → HL ps vs c → Calls P f vs.toArray c.w (fun e w' => ∃ v, e = .returned v ∧ Xt c w' ∧ R.H v ⟨w', c.M⟩)
theorem run_callFunc {f : Nat} (h : Has P f) (args : Array Value) (w : World) : (callFunc f args).run P w = .ok (.enter f args) w := by
  obtain ⟨fn, h1, h2, h3⟩ := h
  have h2' : ¬ fn.name = "runtime.NumGoroutine" := by simpa using h2
  have h3' : ¬ fn.body = none := fun e => by rw [e] at h3; cases h3
  simp [callFunc, program, Sem.run, h1, h2', h3']
def LkL (Γ : Facts) (δ : VEnv) (ρ : Env) : List Operand → List SP → Prop
  | [], [] => True
  | x :: xs, p :: ps => Lk Γ δ ρ x p ∧ LkL Γ δ ρ xs ps
  | _, _ => False
theorem LkL.val {a : Act} {c : EW} : ∀ {xs : List Operand} {ps : List SP}, LkL Γ δ ρ xs ps → (∀ x q, x ∈ xs → Lk Γ δ ρ x q → q.H (a.eval x) c) → HL ps (xs.map a.eval) c
  | [], [], _, _ => trivial
  | x :: xs, p :: ps, h, hr => ⟨hr x p (by simp) h.1, LkL.val h.2 fun x' q hx' => hr x' q (by simp [hx'])⟩
  | [], _ :: _, h, _ => h.elim
  | _ :: _, [], h, _ => h.elim
theorem op_call {f : Nat} {xs : List Operand} {ps : List SP} {R : SP} {ats : Array TypeId} (hf : Ct P f ps R) (hx : LkL Γ δ ρ xs ps) :
    OpOK P n ops Γ ρ δ τ ⟨some d, .call ⟨.value (.func f), xs.toArray, ats⟩, ty, pos, af, none⟩ .no (.c R) dum := by
  intro a c ob hs hwf hfa hr hres hno hown
  have hob := hno rfl
  subst hob
  have hv := hx.val (a := a) (c := c) fun x q hx' hq => Lk.val (o := ⟨some d, .call ⟨.value (.func f), xs.toArray, ats⟩, ty, pos, af, none⟩) hr hfa (by simp [Op.operands, Call.operands, hx']) hq
  simp only [Region.wanted, if_true]
  unfold Does
  have hex : (execOp a.eval ⟨some d, .call ⟨.value (.func f), xs.toArray, ats⟩, ty, pos, af, none⟩).run P c.w = .ok (.enter f (xs.map a.eval).toArray) c.w := by
    have h1 := run_callFunc hf.1 (xs.map a.eval).toArray c.w
    simp [execOp, resolve, Deferred.ofValue, Act.eval, invoke, h1]
  rw [hex]
  refine (hf.2 _ c hwf hv).mono fun e w' ⟨v, he, hxt, hR⟩ => ⟨v, he, ⟨w', c.M⟩, none, rfl, hxt.tr hwf none, hR, fun h => (by cases h)⟩

/-- A function value of two ints that comes to a number (or whatever is said of the places of C). -/
def fnp (C : Int → Int → Prop) (g : Int → Int → SP) : SP := ⟨fun v c => ∃ fid capt, v = .func (.func fid) #[] capt ∧ Has P fid ∧ ∀ c', Le c c' → (∀ k, c'.M k → k < c'.w.heap.size) → ∀ i j, C i j → Calls P fid (#[.int .i64 i, .int .i64 j] ++ capt) c'.w (fun e w' => ∃ v, e = .returned v ∧ Xt c' w' ∧ (g i j).H v ⟨w', c'.M⟩), by
  rintro v c c' hle ⟨fid, capt, h1, h2, h3⟩
  exact ⟨fid, capt, h1, h2, fun c'' h => h3 c'' (hle.trans h)⟩⟩
theorem co_fnp {C : Int → Int → Prop} {g : Int → Int → SP} : CellsOf (fnp (P := P) C g) [fnp (P := P) C g] := .one fun _ _ ⟨_, _, h, _⟩ => h ▸ rfl
theorem op_callv {x y z : Operand} {C : Int → Int → Prop} {g : Int → Int → SP} {i j : Int} {ats : Array TypeId} (hx : Lk Γ δ ρ x (fnp (P := P) C g)) (hy : Lk Γ δ ρ y (isv (.int .i64 i))) (hz : Lk Γ δ ρ z (isv (.int .i64 j))) (hC : C i j) :
    OpOK P n ops Γ ρ δ τ ⟨some d, .call ⟨.value x, #[y, z], ats⟩, ty, pos, af, none⟩ .no (.c (g i j)) dum := by
  intro a c ob hs hwf hfa hr hres hno hown
  have hob := hno rfl
  subst hob
  have hrd := fun x' q hx' hq => Lk.val (p := q) (o := ⟨some d, .call ⟨.value x, #[y, z], ats⟩, ty, pos, af, none⟩) hr hfa (x := x') hx' hq
  obtain ⟨fid, capt, h1, h2, h3⟩ := hrd x _ (by simp [Op.operands, Call.operands]) hx
  have h4 := (hrd y _ (by simp [Op.operands, Call.operands]) hy).1
  have h5 := (hrd z _ (by simp [Op.operands, Call.operands]) hz).1
  simp only [Region.wanted, if_true]
  unfold Does
  have hex : (execOp a.eval ⟨some d, .call ⟨.value x, #[y, z], ats⟩, ty, pos, af, none⟩).run P c.w = .ok (.enter fid (#[.int .i64 i, .int .i64 j] ++ capt)) c.w := by
    have h6 := run_callFunc h2 (#[.int .i64 i, .int .i64 j] ++ capt) c.w
    simp [execOp, resolve, Deferred.ofValue, h1, h4, h5, invoke, h6]
  rw [hex]
  refine (h3 c (Le.refl c) hwf i j hC).mono fun e w' ⟨v, he, hxt, hR⟩ => ⟨v, he, ⟨w', c.M⟩, none, rfl, hxt.tr hwf none, hR, fun h => (by cases h)⟩
/-- A closure: what it captured lasts. -/
theorem op_makeFunc {fid : Nat} {xs : List Operand} {ps : List SP} {C : Int → Int → Prop} {g : Int → Int → SP} (hf : ∀ i j, C i j → Ct P fid (isv (.int .i64 i) :: isv (.int .i64 j) :: ps) (g i j)) (hx : LkL Γ δ ρ xs ps) (hH : Has P fid) :
    OpOK P n ops Γ ρ δ τ ⟨some d, .makeFunc (.func fid) #[] xs.toArray, ty, pos, af, none⟩ .no (.c (fnp (P := P) C g)) dum :=
  ok_pure fun a c _ hr => by
    have hv := hx.val (a := a) (c := c) fun x q hx' hq => hr x q (by simpa [Op.operands] using hx') hq
    refine ⟨.func (.func fid) #[] (xs.map a.eval).toArray, by simp [execOp, Instr.makeFunc], fid, _, rfl, hH, fun c' hle hwf i j hC => ?_⟩
    have := (hf i j hC).2 (.int .i64 i :: .int .i64 j :: xs.map a.eval) c' hwf ⟨⟨rfl, rfl⟩, ⟨rfl, rfl⟩, hv.st hle⟩
    simpa using this

/-- A library function without a body. -/
def Ext (P : Program) (f : Nat) (g : Array Value → Sem Value) : Prop := ∃ fn, P.funcs[f]? = some fn ∧ (fn.name == "runtime.NumGoroutine") = false ∧ fn.body.isNone = true ∧ (Extern.findNext fn).isNone = true ∧ Extern.find fn = some g
theorem run_ext {f : Nat} {g : Array Value → Sem Value} (h : Ext P f g) (args : Array Value) (w : World) {v : Value} {w' : World} (hg : (g args).run P w = .ok v w') : (callFunc f args).run P w = .ok (.value v) w' := by
  obtain ⟨fn, h1, h2, h3, h4, h5⟩ := h
  have h4' : Extern.findNext fn = none := by simpa using h4
  have h2' : ¬ fn.name = "runtime.NumGoroutine" := by simpa using h2
  have h3' : fn.body = none := by simpa using h3
  simp [callFunc, program, mark, Sem.run, h1, h2', h3', h4', h5, hg]
theorem op_ext {f : Nat} {g : Array Value → Sem Value} {x : Operand} {p q : SP} {ats : Array TypeId} (hf : Ext P f g) (hx : Lk Γ δ ρ x p) (h : ∀ (v : Value) (c : EW), p.H v c → ∃ u m, (g #[v]).run P c.w = .ok u { c.w with drawn := m } ∧ ∀ c', q.H u c') :
    OpOK P n ops Γ ρ δ τ ⟨some d, .call ⟨.value (.func f), #[x], ats⟩, ty, pos, af, none⟩ .no (.c q) dum :=
  ok_draw fun a c _ hr => by
    obtain ⟨u, m, h1, h2⟩ := h _ c (hr x _ (by simp [Op.operands, Call.operands]) hx)
    refine ⟨u, m, ?_, h2⟩
    have h3 := run_ext hf #[a.eval x] c.w h1
    have h4 : a.eval (.func f) = .func (.func f) #[] #[] := rfl
    simp [execOp, resolve, Deferred.ofValue, h4, invoke, h3]

/-- The slice that append gave, stored into a field of a block that is owned. -/
theorem op_store_sl {x : Operand} {s T : Nat} {base : Value} {off : Nat} (k : Nat) {cells : List SP} {U : Nat} (hx : Lk Γ δ ρ x (ipo base off)) (hy : getV δ ρ s = some (slAt s)) (hT : szT P T = some 1) (hk : nth τ k = some (.c (blk base cells U))) (hl : Nat.blt off cells.length = true) :
    OpOK P n ops Γ ρ δ τ ⟨none, .store T x (.tmp s), ty, pos, af, none⟩ (.wr k) (.c anyp) (.d [s] (fun f => blk base (cells.set off (isv (f s))) U) (fun f g h => by rw [h s (List.mem_singleton.2 rfl)])) := by
  intro a c ob hs hwf hf hr hres hno hown
  have hvs := hr s (List.mem_append_left _ (List.mem_filterMap.2 ⟨.tmp s, by simp [Op.operands], rfl⟩)) _ hy
  -- the value under its own name
  have hL : Lk Γ ((s, .c (isv (vl a s))) :: δ) ρ (.tmp s) (isv (vl a s)) := ⟨.c (isv (vl a s)), by simp [getV], fun _ _ _ _ h => h⟩
  have hxL : Lk Γ ((s, .c (isv (vl a s))) :: δ) ρ x (ipo base off) := by
    cases x with
    | tmp t =>
      by_cases ht : s = t
      · subst ht
        obtain ⟨e, he, hh⟩ := hx
        exact ⟨.c (isv (vl a s)), by simp [getV], fun f v c' hf' hv => by
          rw [hy] at he
          cases he
          exact hh (fun _ => v) v c' hf' ⟨rfl, hv.1 ▸ hv.2⟩⟩
      · obtain ⟨e, he, hh⟩ := hx
        exact ⟨e, by simp [getV, beq_ne ht, he], hh⟩
    | const u => exact hx
    | global g => exact hx
    | func f => exact hx
  have hstore := op_store (P := P) (n := n) (ops := ops) (Γ := Γ) (ρ := ρ) (δ := (s, .c (isv (vl a s))) :: δ) (τ := τ) (ty := ty) (pos := pos) (af := af) (x := x) (y := .tmp s) (T := T) k hxL hL co_isv hT hk (puts_set (blt_lt hl)) (memw_blk (by simp))
  have := hstore a c ob hs hwf hf (fun t ht q hq => by
    by_cases hts : s = t
    · subst hts
      simp only [getV, Nat.beq_refl, cond_true, Option.some.injEq] at hq
      subst hq
      exact ⟨rfl, hvs.2⟩
    · simp only [getV, beq_ne hts, cond_false] at hq
      exact hr t ht q hq) hres hno hown
  simp only [Region.wanted, if_true] at this ⊢
  exact this

end ops

/-! ## Entry and return -/
def argEnv : Nat → List SP → Env
  | _, [] => []
  | i, p :: ps => (i, p) :: argEnv (i + 1) ps
theorem argEnv_get : ∀ {ps : List SP} {k t : Nat} {p : SP}, (argEnv k ps).get t = some p → k ≤ t ∧ nth ps (t - k) = some p
  | [], k, t, p, h => by simp [argEnv, Env.get] at h
  | q :: ps, k, t, p, h => by
    simp only [argEnv, Env.get] at h
    by_cases hk : k = t
    · subst hk
      simp at h
      subst h
      exact ⟨Nat.le_refl _, by simp [nth]⟩
    · rw [beq_ne hk] at h
      obtain ⟨h1, h2⟩ := argEnv_get (k := k + 1) h
      refine ⟨by omega, ?_⟩
      have e : t - k = (t - (k + 1)) + 1 := by omega
      rw [e]
      exact h2
/-- What a function is to come to. -/
def RetP (c0 : EW) (R : SP) (e : Ending) (w' : World) : Prop := ∃ v, e = .returned v ∧ Xt c0 w' ∧ R.H v ⟨w', c0.M⟩
theorem Ct.of {P : Program} {f : Nat} {fn : Func} {k : Code} {ps : List SP} {R : SP} (hf : P.funcs[f]? = some fn) (hb : fn.body = some k) (hn : (fn.name == "runtime.NumGoroutine") = false) (hl : Nat.ble ps.length fn.ntmps = true)
    (h : ∀ c0 : EW, J ⟨P, fn.ntmps, c0, fun _ => False⟩ [] (argEnv 0 ps) [] k (bodyPost P fn (RetP c0 R))) : Ct P f ps R := by
  refine ⟨⟨fn, hf, hn, by rw [hb]; rfl⟩, fun vs c hwf hv => ?_⟩
  have hl' : ps.length ≤ fn.ntmps := Nat.le_of_ble_eq_true hl
  have hlen := hv.len
  refine calls_of_wp hf hb (h c _ c ⟨?_, rfl, fun v p hm => (by cases hm), fun t p hp => ?_, fun _ => none, ?_, fun k r hr => (by simp [nth] at hr)⟩)
  · simp; omega
  · obtain ⟨_, hp'⟩ := argEnv_get hp
    rw [Nat.sub_zero] at hp'
    obtain ⟨v, h1, h2⟩ := hv.nth t p hp'
    have ht := (List.getElem?_eq_some_iff.1 h1).1
    have : vl { tmps := vs.toArray ++ Array.replicate (fn.ntmps - vs.toArray.size) undef, defers := [] } t = v := by
      unfold vl
      simp only [Array.getD_eq_getD_getElem?]
      rw [Array.getElem?_append_left (by simpa using ht)]
      simp [h1]
    rw [this]
    exact h2
  · exact ⟨rfl, rfl, rfl, Nat.le_refl _, fun _ _ _ => rfl, fun _ _ => Iff.rfl, hwf, fun k b hb => (by cases hb), fun _ _ _ h => (by cases h), hwf⟩

section ret
variable {X : Cx} {Γ : Facts} {ρ : Env} {σ : List Res}

/-- A result: a slot, or a variable in memory. -/
inductive RV (P : Program) (Γ : Facts) (ρ : Env) (σ : List Res) : ResultVar → SP → Prop where
  | tmp {t : Nat} {p : SP} (h : Lk Γ [] ρ (.tmp t) p) : RV P Γ ρ σ (.tmp t) p
  | sc {t T : Nat} {base : Value} {off : Nat} (k : Nat) {cells : List SP} {U : Nat} {p : SP} (h : Lk Γ [] ρ (.tmp t) (ipo base off)) (hT : scT P T = true) (hk : nth σ k = some (blk base cells U)) (hp : nth cells off = some p) : RV P Γ ρ σ (.cell t T) p
  | ag {t T m : Nat} {base : Value} {off : Nat} (k : Nat) {cells cells' : List SP} {U : Nat} (h : Lk Γ [] ρ (.tmp t) (ipo base off)) (hT : agT P T = some m) (hk : nth σ k = some (blk base cells U)) (hs : subl off m cells = some cells') (hm : Nat.blt 0 m = true) : RV P Γ ρ σ (.cell t T) (aggp cells')
def runRV (P : Program) (tmps : Array Value) : ResultVar → Sem Value
  | .tmp t => pure (tmps.getD t undef)
  | .cell a t => do loadVar t (← asAddr (tmps.getD a undef))
theorem RV.run {P : Program} {n : Nat} {c0 : EW} {E : Nat → Prop} {rv : ResultVar} {p : SP} (h : RV P Γ ρ σ rv p) {a : Act} {c : EW} (hs : St ⟨P, n, c0, E⟩ Γ ρ σ a c) : ∃ v, (runRV P a.tmps rv).run P c.w = .ok v c.w ∧ p.H v c := by
  obtain ⟨obs, hown, hres⟩ := hs.own
  cases h with
  | tmp h => exact ⟨_, rfl, h.holds hs.facts hs.env⟩
  | sc k h hT hk hp =>
    obtain ⟨b, hb, hv⟩ := h.holds hs.facts hs.env
    obtain ⟨b', cur, h1, h2, h3, h4, h5⟩ := hres k _ hk
    have : b = b' := Hd.inj hb (.inl h1)
    subst this
    obtain ⟨u, hu, _, hpu⟩ := h5 _ _ hp
    rw [Nat.zero_add] at hu
    have hl := run_load_sc (P := P) hT h3 hu
    have hv' : a.tmps.getD _ undef = _ := hv
    refine ⟨u, ?_, hpu⟩
    simp only [runRV, hv', Sem.run_bind]
    simpa [Instr.loadAt, Instr.sureAddr, asAddr] using hl
  | ag k h hT hk hs' hm =>
    obtain ⟨b, hb, hv⟩ := h.holds hs.facts hs.env
    obtain ⟨b', cur, h1, h2, h3, h4, h5⟩ := hres k _ hk
    have : b = b' := Hd.inj hb (.inl h1)
    subst this
    obtain ⟨g1, g2, _⟩ := subl_spec hs'
    have hroom := h5.room (blt_lt hm) g2
    rw [Nat.zero_add] at hroom
    have hl := run_load_ag (P := P) hT h3 hroom
    have hv' : a.tmps.getD _ undef = _ := hv
    refine ⟨_, ?_, _, rfl, ?_, sub_CL (off := 0) hs' h5 (by omega)⟩
    · simp only [runRV, hv', Sem.run_bind]
      simpa [Instr.loadAt, Instr.sureAddr, asAddr] using hl
    · simp; omega

theorem run_results {P : Program} {fn : Func} {tmps : Array Value} {w : World} {vs : List Value} (h : (fn.results.toList.mapM (runRV P tmps)).run P w = .ok vs w) :
    (results fn tmps).run P w = .ok (if h : vs.toArray.size = 1 then vs.toArray[0] else .tuple vs.toArray) w := by
  have e : results fn tmps = (fn.results.mapM (runRV P tmps)) >>= fun vs => pure (if h : vs.size = 1 then vs[0] else .tuple vs) := by
    unfold results
    congr 1
  rw [e, Array.mapM_eq_mapM_toList]
  simp only [Sem.run_bind, Sem.run_map, h, Result.andThen_ok, Sem.run_pure]

inductive RVL (P : Program) (Γ : Facts) (ρ : Env) (σ : List Res) : List ResultVar → List SP → Prop where
  | nil : RVL P Γ ρ σ [] []
  | cons {rv : ResultVar} {p : SP} {rvs : List ResultVar} {ps : List SP} (h : RV P Γ ρ σ rv p) (hr : RVL P Γ ρ σ rvs ps) : RVL P Γ ρ σ (rv :: rvs) (p :: ps)
theorem RVL.run {P : Program} {n : Nat} {c0 : EW} {E : Nat → Prop} {rvs : List ResultVar} {ps : List SP} (h : RVL P Γ ρ σ rvs ps) {a : Act} {c : EW} (hs : St ⟨P, n, c0, E⟩ Γ ρ σ a c) : ∃ vs, (rvs.mapM (runRV P a.tmps)).run P c.w = .ok vs c.w ∧ HL ps vs c := by
  induction h with
  | nil => exact ⟨[], rfl, trivial⟩
  | cons h hr ih =>
    obtain ⟨v, h1, h2⟩ := h.run hs
    obtain ⟨vs, h3, h4⟩ := ih
    exact ⟨v :: vs, by rw [List.mapM_cons]; simp only [Sem.run_bind, h1, Result.andThen_ok, h3, Sem.run_pure], h2, h4⟩

/-- What all the results of a call are together. -/
def resP : List SP → SP
  | [p] => p
  | ps => tupp ps

theorem St.xt {n : Nat} {P : Program} {c0 : EW} {a : Act} {c : EW} (hs : St ⟨P, n, c0, fun _ => False⟩ Γ ρ σ a c) : Xt c0 c.w ∧ Le c ⟨c.w, c0.M⟩ := by
  obtain ⟨obs, hown, _⟩ := hs.own
  exact ⟨⟨hown.os, hown.tape, hown.out, hown.size, fun k hk => hown.heap k hk (fun h => h)⟩, rfl, rfl, rfl, Nat.le_refl _, fun k hk hm => ⟨rfl, fun h0 => hm ((hown.mem k (hown.wf0 k h0)).2 h0)⟩⟩

/-- Is a value of this predicate, once all is closed, what the function is to give? -/
theorem JN_ret {P : Program} {fn : Func} {n : Nat} {c0 : EW} {R : SP} {ps : List SP} (hr : RVL P Γ ρ σ fn.results.toList ps) (hR : ∀ v c, FH Γ c → (resP ps).H v c → R.H v c) :
    JN ⟨P, n, c0, fun _ => False⟩ Γ ρ σ (bodyPost P fn (RetP c0 R) .ret) := fun a c hs => by
  obtain ⟨vs, h1, h2⟩ := hr.run hs
  obtain ⟨hx, hle⟩ := hs.xt
  refine ⟨hs.defers, _, run_results h1, _, rfl, hx, hR _ _ (hs.facts.le hle) ?_⟩
  have h3 := h2.st hle
  match ps, vs, h3 with
  | [], [], h3 => exact ⟨[], rfl, trivial⟩
  | [p], [v], h3 => exact h3.1
  | p :: q :: ps, v :: u :: vs, h3 =>
    refine ⟨v :: u :: vs, ?_, h3⟩
    rw [dif_neg (by simp)]
  | [], _ :: _, h3 => exact h3.elim
  | _ :: _, [], h3 => exact h3.elim
  | [_], _ :: _ :: _, h3 => exact h3.2.elim
  | _ :: _ :: _, [_], h3 => exact h3.2.elim

end ret
end Go.Bn
namespace Go.Bn
open Go
section calls2
variable {P : Program} {n : Nat} {ops : Array Oper} {Γ : Facts} {ρ : Env} {δ : VEnv} {τ : List VR}
variable {d : Nat} {ty : TypeId} {pos : String} {af : Array Edge}
/-- What a call leaves alone but for one block. -/
structure Xm (c : EW) (ob : Option Nat) (w' : World) : Prop where
  os : w'.os = c.w.os
  tape : w'.tape = c.w.tape
  out : w'.output = c.w.output
  size : c.w.heap.size ≤ w'.heap.size
  heap : ∀ k, k < c.w.heap.size → ob ≠ some k → w'.heap[k]? = c.w.heap[k]?
/-- The block of the one is the block of the other. -/
def Fix (r r' : Res) : Prop := ∀ c c' ob ob', r.H c ob → r'.H c' ob' → ob = ob'
/-- The contract of a function that writes one resource of its caller's. -/
def CtM (P : Program) (f : Nat) (ps : List SP) (r : Res) (R : SP) (r' : Res) : Prop :=
  Has P f ∧ ∀ (vs : List Value) (c : EW) (ob : Option Nat), (∀ k, c.M k → k < c.w.heap.size) → HL ps vs c → r.H c ob → (∀ b, ob = some b → c.M b) → Calls P f vs.toArray c.w (fun e w' => ∃ v, e = .returned v ∧ Xm c ob w' ∧ R.H v ⟨w', c.M⟩ ∧ r'.H ⟨w', c.M⟩ ob)
theorem op_callM {f : Nat} {xs : List Operand} {ps : List SP} {R : SP} {r r' : Res} {ats : Array TypeId} (k : Nat) (hf : CtM P f ps r R r') (hx : LkL Γ δ ρ xs ps) (hk : nth τ k = some (.c r)) :
    OpOK P n ops Γ ρ δ τ ⟨some d, .call ⟨.value (.func f), xs.toArray, ats⟩, ty, pos, af, none⟩ (.wr k) (.c R) (.c r') := by
  intro a c ob hs hwf hfa hr hres hno hown
  obtain ⟨r0, hr0, hh⟩ := hres k rfl
  rw [hk] at hr0
  cases hr0
  have hv := hx.val (a := a) (c := c) fun x q hx' hq => Lk.val (o := ⟨some d, .call ⟨.value (.func f), xs.toArray, ats⟩, ty, pos, af, none⟩) hr hfa (by simp [Op.operands, Call.operands, hx']) hq
  simp only [Region.wanted, if_true]
  unfold Does
  have hex : (execOp a.eval ⟨some d, .call ⟨.value (.func f), xs.toArray, ats⟩, ty, pos, af, none⟩).run P c.w = .ok (.enter f (xs.map a.eval).toArray) c.w := by
    have h1 := run_callFunc hf.1 (xs.map a.eval).toArray c.w
    simp [execOp, resolve, Deferred.ofValue, Act.eval, invoke, h1]
  rw [hex]
  refine (hf.2 _ c ob hwf hv hh fun b hb => (hown b hb).1).mono fun e w' ⟨v, he, hxm, hR, hr'⟩ => ⟨v, he, ⟨w', c.M⟩, ob, rfl, ?_, hR, fun _ => hr'⟩
  exact ⟨hxm.os, hxm.tape, hxm.out, hxm.size, fun j hj hne => hxm.heap j hj (hne rfl), fun _ _ => Iff.rfl, .inl rfl, fun j hj => Nat.lt_of_lt_of_le (hwf j hj) hxm.size⟩
/-- The same for a call whose result is not kept. -/
theorem op_callM0 {f : Nat} {xs : List Operand} {ps : List SP} {R : SP} {r r' : Res} {ats : Array TypeId} (k : Nat) (hf : CtM P f ps r R r') (hx : LkL Γ δ ρ xs ps) (hk : nth τ k = some (.c r)) :
    OpOK P n ops Γ ρ δ τ ⟨none, .call ⟨.value (.func f), xs.toArray, ats⟩, ty, pos, af, none⟩ (.wr k) (.c anyp) (.c r') := by
  intro a c ob hs hwf hfa hr hres hno hown
  obtain ⟨r0, hr0, hh⟩ := hres k rfl
  rw [hk] at hr0
  cases hr0
  have hv := hx.val (a := a) (c := c) fun x q hx' hq => Lk.val (o := ⟨none, .call ⟨.value (.func f), xs.toArray, ats⟩, ty, pos, af, none⟩) hr hfa (by simp [Op.operands, Call.operands, hx']) hq
  simp only [Region.wanted, if_true]
  unfold Does
  have hex : (execOp a.eval ⟨none, .call ⟨.value (.func f), xs.toArray, ats⟩, ty, pos, af, none⟩).run P c.w = .ok (.enter f (xs.map a.eval).toArray) c.w := by
    have h1 := run_callFunc hf.1 (xs.map a.eval).toArray c.w
    simp [execOp, resolve, Deferred.ofValue, Act.eval, invoke, h1]
  rw [hex]
  refine (hf.2 _ c ob hwf hv hh fun b hb => (hown b hb).1).mono fun e w' ⟨v, he, hxm, hR, hr'⟩ => ⟨v, he, ⟨w', c.M⟩, ob, rfl, ?_, trivial, fun _ => hr'⟩
  exact ⟨hxm.os, hxm.tape, hxm.out, hxm.size, fun j hj hne => hxm.heap j hj (hne rfl), fun _ _ => Iff.rfl, .inl rfl, fun j hj => Nat.lt_of_lt_of_le (hwf j hj) hxm.size⟩
def RetM (c0 : EW) (ob : Option Nat) (R : SP) (r' : Res) (e : Ending) (w' : World) : Prop := ∃ v, e = .returned v ∧ Xm c0 ob w' ∧ R.H v ⟨w', c0.M⟩ ∧ r'.H ⟨w', c0.M⟩ ob
theorem CtM.of {f : Nat} {fn : Func} {k : Code} {ps : List SP} {R : SP} {r r' : Res} (hf : P.funcs[f]? = some fn) (hb : fn.body = some k) (hn : (fn.name == "runtime.NumGoroutine") = false) (hl : Nat.ble ps.length fn.ntmps = true) (hfix : Fix r r')
    (h : ∀ (c0 : EW) (ob : Option Nat), r.H c0 ob → J ⟨P, fn.ntmps, c0, fun b => ob = some b⟩ [] (argEnv 0 ps) [r] k (bodyPost P fn (RetM c0 ob R r'))) : CtM P f ps r R r' := by
  refine ⟨⟨fn, hf, hn, by rw [hb]; rfl⟩, fun vs c ob hwf hv hr hM => ?_⟩
  have hl' : ps.length ≤ fn.ntmps := Nat.le_of_ble_eq_true hl
  have hlen := hv.len
  refine calls_of_wp hf hb (h c ob hr _ c ⟨?_, rfl, fun v p hm => (by cases hm), fun t p hp => ?_, fun k => if k = 0 then ob else none, ?_, fun k r0 hr0 => ?_⟩)
  · simp; omega
  · obtain ⟨_, hp'⟩ := argEnv_get hp
    rw [Nat.sub_zero] at hp'
    obtain ⟨v, h1, h2⟩ := hv.nth t p hp'
    have ht := (List.getElem?_eq_some_iff.1 h1).1
    have : vl { tmps := vs.toArray ++ Array.replicate (fn.ntmps - vs.toArray.size) undef, defers := [] } t = v := by
      unfold vl
      simp only [Array.getD_eq_getD_getElem?]
      rw [Array.getElem?_append_left (by simpa using ht)]
      simp [h1]
    rw [this]
    exact h2
  · refine ⟨rfl, rfl, rfl, Nat.le_refl _, fun _ _ _ => rfl, fun _ _ => Iff.rfl, hwf, fun k b hb => ?_, fun i j b hi hj => ?_, hwf⟩
    · by_cases hk : k = 0
      · rw [if_pos hk] at hb; exact ⟨hM b hb, .inr hb⟩
      · rw [if_neg hk] at hb; cases hb
    · by_cases hi0 : i = 0
      · by_cases hj0 : j = 0
        · rw [hi0, hj0]
        · rw [if_neg hj0] at hj; cases hj
      · rw [if_neg hi0] at hi; cases hi
  · cases k with
    | zero => simp only [nth, Option.some.injEq] at hr0; subst hr0; simpa using hr
    | succ k => simp [nth] at hr0
theorem JN_retM {σ : List Res} {fn : Func} {n : Nat} {c0 : EW} {ob : Option Nat} {R : SP} {r r' : Res} {ps : List SP} (j : Nat) (hr0 : r.H c0 ob) (hfix : Fix r r') (hj : nth σ j = some r') (hr : RVL P Γ ρ σ fn.results.toList ps) (hR : ∀ v c, FH Γ c → (resP ps).H v c → R.H v c) :
    JN ⟨P, n, c0, fun b => ob = some b⟩ Γ ρ σ (bodyPost P fn (RetM c0 ob R r') .ret) := fun a c hs => by
  obtain ⟨vs, h1, h2⟩ := hr.run hs
  obtain ⟨obs, hown, hres⟩ := hs.own
  have hx : Xm c0 ob c.w := ⟨hown.os, hown.tape, hown.out, hown.size, fun k hk hne => hown.heap k hk hne⟩
  have hle : Le c ⟨c.w, c0.M⟩ := ⟨rfl, rfl, rfl, Nat.le_refl _, fun k hk hm => ⟨rfl, fun h0 => hm ((hown.mem k (hown.wf0 k h0)).2 h0)⟩⟩
  have hrj := hres j r' hj
  have hob : obs j = ob := (hfix _ _ _ _ hr0 hrj).symm
  rw [hob] at hrj
  have hrj' : r'.H ⟨c.w, c0.M⟩ ob := r'.fr _ _ _ hle (fun _ _ => rfl) hrj
  refine ⟨hs.defers, _, run_results h1, _, rfl, hx, hR _ _ (hs.facts.le hle) ?_, hrj'⟩
  have h3 := h2.st hle
  match ps, vs, h3 with
  | [], [], h3 => exact ⟨[], rfl, trivial⟩
  | [p], [v], h3 => exact h3.1
  | p :: q :: ps, v :: u :: vs, h3 =>
    refine ⟨v :: u :: vs, ?_, h3⟩
    rw [dif_neg (by simp)]
  | [], _ :: _, h3 => exact h3.elim
  | _ :: _, [], h3 => exact h3.elim
  | [_], _ :: _ :: _, h3 => exact h3.2.elim
  | _ :: _ :: _, [_], h3 => exact h3.2.elim
theorem fix_osl {sv : Value} {n k : Nat} {cells cells' : List SP} {T T' : TypeId} : Fix (osl sv n k cells T) (osl sv n k cells' T') := by
  rintro c c' ob ob' ⟨_, h⟩ ⟨_, h'⟩
  rcases h with ⟨h1, h2, h3⟩ | ⟨b, cap, cur, h1, h2, _⟩ <;> rcases h' with ⟨g1, g2, g3⟩ | ⟨b', cap', cur', g1, g2, _⟩
  · rw [h3, g3]
  · rw [h1] at g1; cases g1
  · rw [h1] at g1; cases g1
  · rw [h1] at g1; cases g1; rw [h2, g2]
theorem fix_blk {base : Value} {cells cells' : List SP} {T T' : TypeId} : Fix (blk base cells T) (blk base cells' T') := by
  rintro c c' ob ob' ⟨b, cur, h1, h2, _⟩ ⟨b', cur', g1, g2, _⟩
  rw [h1] at g1; cases g1; rw [h2, g2]

/-- The contract of a function that hands back memory of its own making, which the caller may write: pr finds the slice (or the pointer) in the result. -/
def CtF (P : Program) (f : Nat) (ps : List SP) (pr : Value → Value) (R : Value → SP) (r : Value → Res) : Prop :=
  Has P f ∧ ∀ (vs : List Value) (c : EW), (∀ k, c.M k → k < c.w.heap.size) → HL ps vs c → Calls P f vs.toArray c.w (fun e w' => ∃ v ob, e = .returned v ∧ Xt c w' ∧ (∀ b, ob = some b → c.w.heap.size ≤ b ∧ b < w'.heap.size) ∧ (R (pr v)).H v ⟨w', fun k => c.M k ∨ ob = some k⟩ ∧ (r (pr v)).H ⟨w', fun k => c.M k ∨ ob = some k⟩ ob)
theorem op_callF {f : Nat} {xs : List Operand} {ps : List SP} {pr : Value → Value} {R : Value → SP} {r : Value → Res} {ats : Array TypeId} (k : Nat) (hf : CtF P f ps pr R r) (hx : LkL Γ δ ρ xs ps) (hk : nth τ k = some (.c emp)) :
    OpOK P n ops Γ ρ δ τ ⟨some d, .call ⟨.value (.func f), xs.toArray, ats⟩, ty, pos, af, none⟩ (.wr k) (.d [d] (fun g => R (pr (g d))) (fun g g' h => by rw [h d (List.mem_singleton.2 rfl)])) (.d [d] (fun g => r (pr (g d))) (fun g g' h => by rw [h d (List.mem_singleton.2 rfl)])) := by
  intro a c ob hs hwf hfa hr hres hno hown
  obtain ⟨r0, hr0, hh⟩ := hres k rfl
  rw [hk] at hr0
  cases hr0
  have hob : ob = none := hh
  subst hob
  have hv := hx.val (a := a) (c := c) fun x q hx' hq => Lk.val (o := ⟨some d, .call ⟨.value (.func f), xs.toArray, ats⟩, ty, pos, af, none⟩) hr hfa (by simp [Op.operands, Call.operands, hx']) hq
  simp only [Region.wanted, if_true]
  unfold Does
  have hex : (execOp a.eval ⟨some d, .call ⟨.value (.func f), xs.toArray, ats⟩, ty, pos, af, none⟩).run P c.w = .ok (.enter f (xs.map a.eval).toArray) c.w := by
    have h1 := run_callFunc hf.1 (xs.map a.eval).toArray c.w
    simp [execOp, resolve, Deferred.ofValue, Act.eval, invoke, h1]
  rw [hex]
  refine (hf.2 _ c hwf hv).mono fun e w' ⟨v, ob, he, hxt, hlt, hR, hr'⟩ => ⟨v, he, ⟨w', fun k => c.M k ∨ ob = some k⟩, ob, rfl, ?_, ?_, fun _ => ?_⟩
  · refine ⟨hxt.os, hxt.tape, hxt.out, hxt.size, fun j hj _ => hxt.heap j hj, fun j hj => ⟨fun h => h.resolve_right (fun e => by have := (hlt j e).1; omega), .inl⟩, ?_, fun j hj => ?_⟩
    · cases hob : ob with
      | none => exact .inl rfl
      | some b => exact .inr ⟨rfl, b, rfl, (hlt b hob).1, .inr rfl⟩
    · rcases hj with hj | hj
      · exact Nat.lt_of_lt_of_le (hwf j hj) hxt.size
      · exact (hlt j hj).2
  · simp only [VE.at, upd_eq]; exact hR
  · simp only [VR.at, upd_eq]; exact hr'
def RetF (c0 : EW) (pr : Value → Value) (R : Value → SP) (r : Value → Res) (e : Ending) (w' : World) : Prop := ∃ v ob, e = .returned v ∧ Xt c0 w' ∧ (∀ b, ob = some b → c0.w.heap.size ≤ b ∧ b < w'.heap.size) ∧ (R (pr v)).H v ⟨w', fun k => c0.M k ∨ ob = some k⟩ ∧ (r (pr v)).H ⟨w', fun k => c0.M k ∨ ob = some k⟩ ob
theorem CtF.of {f : Nat} {fn : Func} {k : Code} {ps : List SP} {pr : Value → Value} {R : Value → SP} {r : Value → Res} (hf : P.funcs[f]? = some fn) (hb : fn.body = some k) (hn : (fn.name == "runtime.NumGoroutine") = false) (hl : Nat.ble ps.length fn.ntmps = true)
    (h : ∀ c0 : EW, J ⟨P, fn.ntmps, c0, fun _ => False⟩ [] (argEnv 0 ps) [] k (bodyPost P fn (RetF c0 pr R r))) : CtF P f ps pr R r := by
  refine ⟨⟨fn, hf, hn, by rw [hb]; rfl⟩, fun vs c hwf hv => ?_⟩
  have hl' : ps.length ≤ fn.ntmps := Nat.le_of_ble_eq_true hl
  have hlen := hv.len
  refine calls_of_wp hf hb (h c _ c ⟨?_, rfl, fun v p hm => (by cases hm), fun t p hp => ?_, fun _ => none, ?_, fun k r hr => (by simp [nth] at hr)⟩)
  · simp; omega
  · obtain ⟨_, hp'⟩ := argEnv_get hp
    rw [Nat.sub_zero] at hp'
    obtain ⟨v, h1, h2⟩ := hv.nth t p hp'
    have ht := (List.getElem?_eq_some_iff.1 h1).1
    have : vl { tmps := vs.toArray ++ Array.replicate (fn.ntmps - vs.toArray.size) undef, defers := [] } t = v := by
      unfold vl
      simp only [Array.getD_eq_getD_getElem?]
      rw [Array.getElem?_append_left (by simpa using ht)]
      simp [h1]
    rw [this]
    exact h2
  · exact ⟨rfl, rfl, rfl, Nat.le_refl _, fun _ _ _ => rfl, fun _ _ => Iff.rfl, hwf, fun k b hb => (by cases hb), fun _ _ _ h => (by cases h), hwf⟩
/-- A fresh result: the resource number j is handed to the caller; all else is closed. -/
theorem JN_retF {σ : List Res} {fn : Func} {n : Nat} {c0 : EW} {pr : Value → Value} {R : Value → SP} {r : Value → Res} {p : SP} {rv : ResultVar} {u : Value} (j : Nat) (hj : nth σ j = some (r u)) (hrv : fn.results.toList = [rv]) (hr : RV P Γ ρ σ rv p) (hpr : ∀ v c, p.H v c → pr v = u) (hR : ∀ v c, FH Γ c → p.H v c → (R u).H v c) :
    JN ⟨P, n, c0, fun _ => False⟩ Γ ρ σ (bodyPost P fn (RetF c0 pr R r) .ret) := fun a c hs => by
  obtain ⟨v, h1, h2⟩ := hr.run hs
  obtain ⟨obs, hown, hres⟩ := hs.own
  obtain ⟨hx, _⟩ := hs.xt
  have hrj := hres j _ hj
  have hlow : ∀ b, obs j = some b → c0.w.heap.size ≤ b ∧ b < c.w.heap.size := fun b hb => ⟨(hown.has j b hb).2.resolve_right (fun h => h), hown.lt hb⟩
  have hle : Le c ⟨c.w, fun k => c0.M k ∨ obs j = some k⟩ := ⟨rfl, rfl, rfl, Nat.le_refl _, fun k hk hm => ⟨rfl, fun h0 => hm (by
    rcases h0 with h0 | h0
    · exact (hown.mem k (hown.wf0 k h0)).2 h0
    · exact (hown.has j k h0).1)⟩⟩
  have hres1 : (results fn a.tmps).run P c.w = .ok v c.w := by
    have := run_results (P := P) (fn := fn) (tmps := a.tmps) (w := c.w) (vs := [v]) (by rw [hrv]; simp only [List.mapM_cons, List.mapM_nil, Sem.run_bind, h1, Result.andThen_ok, Sem.run_pure])
    simpa using this
  have hu : pr v = u := hpr v c h2
  refine ⟨hs.defers, _, hres1, v, obs j, rfl, hx, hlow, ?_, ?_⟩
  · rw [hu]; exact hR v _ (hs.facts.le hle) (p.st _ _ _ hle h2)
  · rw [hu]; exact (r u).fr _ _ _ hle (fun _ _ => rfl) hrj
end calls2
/-- Cell i of a struct value. -/
def agN (i : Nat) (v : Value) : Value := match v with | .agg cs => cs.getD i undef | v => v
theorem agN_of {i : Nat} {l : List SP} {u : Value} (hi : nth l i = some (isv u)) : ∀ v c, (aggp l).H v c → agN i v = u := by
  rintro v c ⟨cs, h1, h2, h3⟩
  subst h1
  obtain ⟨u', hu, _, h4⟩ := h3 i _ hi
  rw [Nat.zero_add] at hu
  simp only [agN, Array.getD_eq_getD_getElem?, hu, Option.getD_some]
  exact h4.1
end Go.Bn
