/-
  The logic of walks, eighth part: typed slices and small helpers that the printed walks use.
-/
import Derived.Test.YtcnffgbncbadbaaCall
set_option linter.unusedVariables false
set_option linter.unusedSimpArgs false
namespace Go.Bn
open Go

theorem cond_of {Γ : Facts} {ρ : Env} {x : Operand} {b : Bool} (h : Lk Γ [] ρ x (isv (.bool b))) : ∀ (a : Act) (c : EW), FH Γ c → EH ρ (vl a) c → a.eval x = .bool b := fun _ _ hf he => (h.holds hf he).1

theorem wrap_id {z : Int} (h1 : -9223372036854775808 ≤ z) (h2 : z ≤ 9223372036854775807) : IntKind.i64.wrap z = z := by rw [IntKind.wrap_i64]; omega

/-- Slices of elements of one kind, one cell each. -/
def slm {α : Type} (mk : α → SP) (xs : List α) : SP := slp (xs.map mk)
def inp (k : IntKind) (z : Int) : SP := isv (.int k z)
abbrev fls (xs : List Nat) : SP := slm flp xs
abbrev ils (k : IntKind) (xs : List Int) : SP := slm (inp k) xs
theorem co_slm {α : Type} {mk : α → SP} {xs : List α} : CellsOf (slm mk xs) [slm mk xs] := co_slc
theorem co_inp {k : IntKind} {z : Int} : CellsOf (inp k z) [inp k z] := co_isv
/-- A slice of one kind that the function owns. -/
def som {α : Type} (sv : Value) (mk : α → SP) (xs : List α) (T : TypeId) : Res := osl sv xs.length 1 (xs.map mk) T
def MatP (r c : Int) (xs : List Nat) : SP := aggp [isv (.int .i64 r), isv (.int .i64 c), fls xs]

theorem slm_nil {α : Type} {mk : α → SP} {c : EW} : (slm mk []).H (.slice none 0 0) c := ⟨rfl, .inl ⟨rfl, rfl⟩⟩
theorem frz_som {α : Type} {sv : Value} {mk : α → SP} {xs : List α} {T : TypeId} : Freezes (som sv mk xs T) sv (slm mk xs) := by
  have := @frz_osl sv xs.length 1 (xs.map mk) T
  simpa [slm, slp, som] using this
theorem mem_som {α : Type} {sv : Value} {mk : α → SP} {xs : List α} {T : TypeId} (h0 : 0 < xs.length) : Mem (som sv mk xs T) sv (xs.map mk) := mem_osl h0
/-- Nothing yet: the nil slice is owned. -/
theorem som_nil {α : Type} {mk : α → SP} {T : TypeId} : ∀ c ob, emp.H c ob → (som (.slice none 0 0) mk [] T).H c ob := fun c ob h => ⟨rfl, .inl ⟨rfl, rfl, h⟩⟩

section ops
variable {P : Program} {n : Nat} {ops : Array Oper} {Γ : Facts} {ρ : Env} {δ : VEnv} {τ : List VR}
variable {d : Nat} {ty : TypeId} {pos : String} {af : Array Edge}

theorem op_len_m {α : Type} {mk : α → SP} {xs : List α} {x : Operand} {t : TypeId} {E es eb : Nat} (ht : slT P t = some (E, es, eb)) (hx : Lk Γ δ ρ x (slm mk xs)) :
    OpOK P n ops Γ ρ δ τ ⟨some d, .call ⟨.builtin .len, #[x], #[t]⟩, ty, pos, af, none⟩ .no (.c (isv (.int .i64 (xs.length : Int)))) dum := by
  have := op_len (n := n) (ops := ops) (τ := τ) (d := d) (ty := ty) (pos := pos) (af := af) ht hx
  rw [List.length_map] at this
  exact this
theorem op_index_m {α : Type} {mk : α → SP} {xs : List α} (dv : α) {x y : Operand} {T : TypeId} {E eb : Nat} {k : IntKind} {z : Int} (ht : slT P T = some (E, 1, eb)) (hx : Lk Γ δ ρ x (slm mk xs)) (hy : Lk Γ δ ρ y (isv (.int k z))) (h0 : 0 ≤ z) (h1 : z < xs.length) :
    OpOK P n ops Γ ρ δ τ ⟨some d, .indexAddr T x y, ty, pos, af, none⟩ .no (.c (ptp [mk (xs.getD z.toNat dv)])) dum :=
  op_index ht hx hy h0 (by rw [nth_map, nth_getD dv (by omega)]; rfl)
theorem op_slice_m {α : Type} {mk : α → SP} {xs : List α} {x lo hi : Operand} {T : TypeId} {E eb : Nat} {k1 k2 : IntKind} {l h : Int} (ht : slT P T = some (E, 1, eb)) (hx : Lk Γ δ ρ x (slm mk xs)) (hlo : Lk Γ δ ρ lo (isv (.int k1 l))) (hhi : Lk Γ δ ρ hi (isv (.int k2 h)))
    (h0 : 0 ≤ l) (h1 : l ≤ h) (h2 : h ≤ xs.length) :
    OpOK P n ops Γ ρ δ τ ⟨some d, .slice T x (some lo) (some hi) none, ty, pos, af, none⟩ .no (.c (slm mk ((xs.drop l.toNat).take (h.toNat - l.toNat)))) dum := by
  have hl : ((xs.drop l.toNat).take (h.toNat - l.toNat)).length = h.toNat - l.toNat := by simp; omega
  have := op_slice (n := n) (ops := ops) (τ := τ) (d := d) (ty := ty) (pos := pos) (af := af) (m' := h.toNat - l.toNat) (cells' := ((xs.drop l.toNat).take (h.toNat - l.toNat)).map mk) ht hx hlo hhi h0 h1 (by simpa using h2) (by omega) (by rw [List.length_map, hl, Nat.mul_one]) (fun j p hj => by
    rw [nth_map] at hj ⊢
    rw [Nat.mul_one]
    cases hv : nth ((xs.drop l.toNat).take (h.toNat - l.toNat)) j with
    | none => rw [hv] at hj; cases hj
    | some u =>
      rw [hv] at hj
      rw [nth_eq, List.getElem?_take] at hv
      split at hv
      · rw [List.getElem?_drop] at hv
        rw [nth_eq, hv]; exact hj
      · cases hv)
  unfold slm slp
  rw [List.length_map, hl]
  exact this
theorem op_append_m {α : Type} {mk : α → SP} {xs : List α} {v : α} {x y : Operand} {T E eb : Nat} (k : Nat) {sv : Value} {zs : List Value} (ht : slT P T = some (E, 1, eb)) (hz : zrT P E = some zs) (hzl : Nat.beq zs.length 1 = true) (hx : Lk Γ δ ρ x (isv sv)) (hy : Lk Γ δ ρ y (slc 1 1 [mk v]))
    (hk : nth τ k = some (.c (som sv mk xs E))) (h63 : xs.length + 1 ≤ 9223372036854775807) (hb : (xs.length + 1) * eb ≤ 140737488355328) :
    OpOK P n ops Γ ρ δ τ ⟨some d, .call ⟨.builtin .append, #[x, y], #[T, T]⟩, ty, pos, af, none⟩ (.wr k) (slAt d) (.d [d] (fun f => som (f d) mk (xs ++ [v]) E) (fun f g h => by rw [h d (List.mem_singleton.2 rfl)])) := by
  have h := op_append (n := n) (ops := ops) (d := d) (ty := ty) (pos := pos) (af := af) k ht hz hzl rfl hx hy hk rfl h63 hb (all := (xs ++ [v]).map mk) (by simp)
  intro a c ob g1 g2 g3 g4 g5 g6 g7
  have := h a c ob g1 g2 g3 g4 g5 g6 g7
  have e : xs.length + 1 = (xs ++ [v]).length := by simp
  simp only [oslAt, VR.at] at this
  simp only [VR.at, som]
  rw [← e]
  exact this
theorem op_append_ms {α : Type} {mk : α → SP} {xs ys : List α} {x y : Operand} {T E eb : Nat} (k : Nat) {sv : Value} {zs : List Value} (ht : slT P T = some (E, 1, eb)) (hz : zrT P E = some zs) (hzl : Nat.beq zs.length 1 = true) (hx : Lk Γ δ ρ x (isv sv)) (hy : Lk Γ δ ρ y (slm mk ys))
    (hk : nth τ k = some (.c (som sv mk xs E))) (h63 : xs.length + ys.length ≤ 9223372036854775807) (hb : (xs.length + ys.length) * eb ≤ 140737488355328) :
    OpOK P n ops Γ ρ δ τ ⟨some d, .call ⟨.builtin .append, #[x, y], #[T, T]⟩, ty, pos, af, none⟩ (.wr k) (slAt d) (.d [d] (fun f => som (f d) mk (xs ++ ys) E) (fun f g h => by rw [h d (List.mem_singleton.2 rfl)])) := by
  have h := op_append (n := n) (ops := ops) (d := d) (ty := ty) (pos := pos) (af := af) (ms := xs.length + ys.length) k ht hz hzl rfl hx hy hk (by simp) h63 hb (all := (xs ++ ys).map mk) (by simp)
  intro a c ob g1 g2 g3 g4 g5 g6 g7
  have := h a c ob g1 g2 g3 g4 g5 g6 g7
  have e : xs.length + ys.length = (xs ++ ys).length := by simp
  simp only [oslAt, VR.at] at this
  simp only [VR.at, som]
  rw [← e]
  exact this
theorem op_make_m {α : Type} {mk : α → SP} (v0 : α) {x y : Operand} {T E eb : Nat} (k : Nat) {k1 k2 : IntKind} {l h : Int} {zv : Value} (ht : slT P T = some (E, 1, eb)) (hz : zrT P E = some [zv]) (hz1 : zv.oneCell' = true) (hmk : ∀ c, (mk v0).H zv c) (hx : Lk Γ δ ρ x (isv (.int k1 l))) (hy : Lk Γ δ ρ y (isv (.int k2 h)))
    (h0 : 0 ≤ l) (h1 : l ≤ h) (hb : eb * h ≤ 281474976710656) (h63 : h ≤ 9223372036854775807) (hk : nth τ k = some (.c emp)) :
    OpOK P n ops Γ ρ δ τ ⟨some d, .makeSlice T x y, ty, pos, af, none⟩ (.wr k) (slAt d) (.d [d] (fun f => som (f d) mk (List.replicate l.toNat v0) E) (fun f g h => by rw [h d (List.mem_singleton.2 rfl)])) := by
  have hh := op_make (P := P) (n := n) (ops := ops) (Γ := Γ) (ρ := ρ) (δ := δ) (τ := τ) (d := d) (ty := ty) (pos := pos) (af := af) (m := l.toNat) (cells := List.replicate l.toNat (isv zv)) k ht hz (by simp [hz1]) rfl hx hy h0 h1 hb h63 rfl (by simp) (fun i p hi => ⟨zv, by rw [Nat.mod_one]; rfl, by
    rw [nth_eq] at hi
    have := List.mem_of_getElem? hi
    exact (List.eq_of_mem_replicate this).symm⟩) hk
  intro a c ob g1 g2 g3 g4 g5 g6 g7
  have hm := hh a c ob g1 g2 g3 g4 g5 g6 g7
  simp only [Region.wanted, if_true] at hm ⊢
  refine hm.mono ?_
  rintro v w' ⟨c', ob', q1, q2, q3, q4⟩
  refine ⟨c', ob', q1, q2, q3, fun hw => ?_⟩
  have q5 := q4 hw
  simp only [oslAt, VR.at, upd_eq] at q5
  simp only [VR.at, upd_eq, som, List.length_replicate, List.map_replicate]
  obtain ⟨q6, q7⟩ := q5
  refine ⟨by simp, ?_⟩
  rcases q7 with q7 | ⟨b, cap, cur, r1, r2, r3, r4, r5, r6, r7⟩
  · exact .inl q7
  · refine .inr ⟨b, cap, cur, r1, r2, r3, r4, r5, r6, fun i p hi => ?_⟩
    have hil : i < l.toNat := by have := nth_lt hi; simpa using this
    obtain ⟨u, s1, s2, s3⟩ := r7 i (isv zv) (by rw [nth_eq]; simp [hil])
    have hp : p = mk v0 := by
      rw [nth_eq] at hi
      have := List.mem_of_getElem? hi
      exact List.eq_of_mem_replicate this
    rw [hp]
    exact ⟨u, s1, s2, by rw [s3.1]; exact hmk c'⟩
theorem op_index_som {α : Type} {mk : α → SP} {xs : List α} {x y : Operand} {T : TypeId} {E eb : Nat} {ki : IntKind} {z : Int} {sv : Value} {T' : Nat} (k : Nat) (ht : slT P T = some (E, 1, eb)) (hx : Lk Γ δ ρ x (isv sv)) (hy : Lk Γ δ ρ y (isv (.int ki z))) (hk : nth τ k = some (.c (som sv mk xs T'))) (h0 : 0 ≤ z) (h1 : z < xs.length) :
    OpOK P n ops Γ ρ δ τ ⟨some d, .indexAddr T x y, ty, pos, af, none⟩ (.rd k) (.c (ipo sv z.toNat)) dum := by
  have := op_index_own (n := n) (ops := ops) (d := d) (ty := ty) (pos := pos) (af := af) k ht hx hy hk h0 h1
  rw [Nat.mul_one] at this
  exact this
theorem op_len_som {α : Type} {mk : α → SP} {xs : List α} {x : Operand} {t : TypeId} {sv : Value} (k : Nat) {T E : Nat} {es eb : Nat} (ht : slT P t = some (E, es, eb)) (hx : Lk Γ δ ρ x (isv sv)) (hk : nth τ k = some (.c (som sv mk xs T))) :
    OpOK P n ops Γ ρ δ τ ⟨some d, .call ⟨.builtin .len, #[x], #[t]⟩, ty, pos, af, none⟩ (.rd k) (.c (isv (.int .i64 (xs.length : Int)))) dum := op_len_own k ht hx hk
theorem op_get_som {α : Type} {mk : α → SP} {xs : List α} (dv : α) {x : Operand} {T U : TypeId} {base : Value} {off : Nat} (k : Nat) (hT : scT P T = true) (hx : Lk Γ δ ρ x (ipo base off)) (hk : nth τ k = some (.c (som base mk xs U))) (h1 : off < xs.length) :
    OpOK P n ops Γ ρ δ τ ⟨some d, .load T x, ty, pos, af, none⟩ (.rd k) (.c (mk (xs.getD off dv))) dum :=
  op_get_sc k hT hx hk (mem_som (by omega)) (by rw [nth_map, nth_getD dv h1]; rfl)
theorem op_store_som {α : Type} {mk : α → SP} {xs : List α} {v : α} {x y : Operand} {T U : TypeId} {base : Value} {off : Nat} (k : Nat) (hx : Lk Γ δ ρ x (ipo base off)) (hy : Lk Γ δ ρ y (mk v)) (hc : CellsOf (mk v) [mk v]) (hT : szT P T = some 1) (hk : nth τ k = some (.c (som base mk xs U))) (h1 : off < xs.length) :
    OpOK P n ops Γ ρ δ τ ⟨none, .store T x y, ty, pos, af, none⟩ (.wr k) (.c anyp) (.c (som base mk (xs.set off v) U)) :=
  op_store (cells := xs.map mk) (cells' := (xs.set off v).map mk) k hx hy hc hT hk (by rw [List.map_set]; exact puts_set (by simpa using h1)) (by
    have := memw_osl (sv := base) (n := xs.length) (k := 1) (cells := xs.map mk) (cells' := (xs.set off v).map mk) (T := U) (by omega) (by simp)
    simpa [som] using this)

end ops
end Go.Bn
namespace Go.Bn
open Go
/-! ## Small words for the printed walks -/
theorem sp_eq {p q : SP} {Γ : Facts} (h : p = q) : ∀ v c, FH Γ c → p.H v c → q.H v c := fun _ _ _ hv => h ▸ hv
theorem res_eq {r r' : Res} (h : r = r') : ∀ c ob, r.H c ob → r'.H c ob := fun _ _ hv => h ▸ hv
theorem ret_eq {p q : SP} {Γ : Facts} (h : p = q) : ∀ v c, FH Γ c → p.H v c → q.H v c := fun _ _ _ hv => h ▸ hv
theorem ret_i {k : IntKind} {a b : Int} {Γ : Facts} (h : a = b) : ∀ v c, FH Γ c → (isv (.int k a)).H v c → (isv (.int k b)).H v c := fun _ _ _ hv => h ▸ hv
theorem ret_b {a b : Bool} {Γ : Facts} (h : a = b) : ∀ v c, FH Γ c → (isv (.bool a)).H v c → (isv (.bool b)).H v c := fun _ _ _ hv => h ▸ hv
theorem ret_f {a b : Nat} {Γ : Facts} (h : a = b) : ∀ v c, FH Γ c → (flp a).H v c → (flp b).H v c := fun _ _ _ hv => h ▸ hv
theorem sub_nil {α : Type} {mk : α → SP} {Γ : Facts} : ∀ v c, FH Γ c → (isv (.slice none 0 0)).H v c → (slm mk []).H v c := fun _ _ _ h => h.1 ▸ slm_nil
theorem flp_zero {c : EW} : (flp 0).H (.float .f64 0) c := ⟨0, rfl, by decide, by decide +kernel⟩
theorem JN_end {X : Cx} {P : Program} {fn : Func} {R : Ending → World → Prop} {Γ : Facts} {ρ : Env} {σ : List Res} (h : JN X Γ ρ σ (bodyPost P fn R .ret)) : JN X Γ ρ σ (bodyPost P fn R .normal) := h

/-- The bits of a number, of which NaN they are is not said. -/
def bitp (x : Nat) : SP := ⟨fun v _ => ∃ b : Nat, v = .int .u64 (b : Int) ∧ b < 2 ^ 64 ∧ cn b = x, fun _ _ _ _ h => h⟩
theorem Ct.bit {P : Program} {f x : Nat} {ps : List SP} {R : SP} (hH : Has P f) (h : ∀ b : Nat, b < 2 ^ 64 → cn b = x → Ct P f (isv (.int .u64 (b : Int)) :: ps) R) : Ct P f (bitp x :: ps) R := by
  refine ⟨hH, fun vs c hwf hv => ?_⟩
  match vs, hv with
  | v :: vs, hv =>
    obtain ⟨⟨b, h1, h2, h3⟩, h4⟩ := hv
    exact (h b h2 h3).2 (v :: vs) c hwf ⟨⟨h1, rfl⟩, h4⟩
theorem Ct.res {P : Program} {f : Nat} {ps : List SP} {R R' : SP} (h : Ct P f ps R) (hr : ∀ v c, R.H v c → R'.H v c) : Ct P f ps R' :=
  ⟨h.1, fun vs c hwf hv => (h.2 vs c hwf hv).mono fun _ _ ⟨v, he, hx, hR⟩ => ⟨v, he, hx, hr _ _ hR⟩⟩
def u64p (b : Nat) : SP := isv (.int .u64 (b : Int))
abbrev wsl (bs : List Nat) : SP := slm u64p bs
section ops
variable {P : Program} {n : Nat} {ops : Array Oper} {Γ : Facts} {ρ : Env} {δ : VEnv} {τ : List VR}
variable {d : Nat} {ty : TypeId} {pos : String} {af : Array Edge}
theorem law_bits {x : Nat} : ∀ (v : Value) (c : EW), (flp x).H v c → ∃ u m, (Go.Extern.MathFloatBits.float64bits #[v]).run P c.w = .ok u { c.w with drawn := m } ∧ ∀ c', (bitp x).H u c' := by
  rintro v c ⟨b, h1, h2, h3⟩
  subst h1
  exact ⟨.int .u64 b, c.w.drawn, rfl, fun _ => ⟨b, rfl, h2, h3⟩⟩
theorem law_from {b : Nat} (hb : b < 2 ^ 64) : ∀ (v : Value) (c : EW), (u64p b).H v c → ∃ u m, (Go.Extern.MathFloatBits.float64frombits #[v]).run P c.w = .ok u { c.w with drawn := m } ∧ ∀ c', (flp (cn b)).H u c' := by
  rintro v c ⟨h1, _⟩
  subst h1
  exact ⟨.float .f64 b, c.w.drawn, rfl, fun _ => ⟨b, rfl, hb, rfl⟩⟩
theorem law_from_bit {x : Nat} : ∀ (v : Value) (c : EW), (bitp x).H v c → ∃ u m, (Go.Extern.MathFloatBits.float64frombits #[v]).run P c.w = .ok u { c.w with drawn := m } ∧ ∀ c', (flp x).H u c' := by
  rintro v c ⟨b, h1, h2, h3⟩
  subst h1
  exact ⟨.float .f64 b, c.w.drawn, rfl, fun _ => ⟨b, rfl, h2, h3⟩⟩

theorem op_f64bits {f : Nat} {x : Operand} {v : Nat} {ats : Array TypeId} (hf : Ext P f Go.Extern.MathFloatBits.float64bits) (hx : Lk Γ δ ρ x (flp v)) :
    OpOK P n ops Γ ρ δ τ ⟨some d, .call ⟨.value (.func f), #[x], ats⟩, ty, pos, af, none⟩ .no (.c (bitp v)) dum := op_ext hf hx law_bits
theorem op_f64from {f : Nat} {x : Operand} {b : Nat} {ats : Array TypeId} (hf : Ext P f Go.Extern.MathFloatBits.float64frombits) (hb : b < 2 ^ 64) (hx : Lk Γ δ ρ x (u64p b)) :
    OpOK P n ops Γ ρ δ τ ⟨some d, .call ⟨.value (.func f), #[x], ats⟩, ty, pos, af, none⟩ .no (.c (flp (cn b))) dum := op_ext hf hx (law_from hb)
theorem op_f64fromb {f : Nat} {x : Operand} {v : Nat} {ats : Array TypeId} (hf : Ext P f Go.Extern.MathFloatBits.float64frombits) (hx : Lk Γ δ ρ x (bitp v)) :
    OpOK P n ops Γ ρ δ τ ⟨some d, .call ⟨.value (.func f), #[x], ats⟩, ty, pos, af, none⟩ .no (.c (flp v)) dum := op_ext hf hx law_from_bit

/-- An element of an array value. -/
def arT (P : Program) (T : TypeId) : Option (Nat × Nat × Nat) := match P.underlying T with
  | some (.array len E) => (P.info? E).map fun i => (len, E, i.size)
  | _ => none
theorem op_indexv_ag {x y : Operand} {T len E es m : Nat} {k : IntKind} {z : Int} {cells cells' : List SP} (hT : arT P T = some (len, E, es)) (hE : agT P E = some m) (hx : Lk Γ δ ρ x (aggp cells)) (hy : Lk Γ δ ρ y (isv (.int k z))) (h0 : 0 ≤ z) (h1 : z < len) (hs : subl (z.toNat * es) m cells = some cells') :
    OpOK P n ops Γ ρ δ τ ⟨some d, .index T x y, ty, pos, af, none⟩ .no (.c (aggp cells')) dum :=
  ok_pure fun a c _ hr => by
    obtain ⟨cs, g1, g2, g3⟩ := hr x _ (by simp [Op.operands]) hx
    have hz := (hr y _ (by simp [Op.operands]) hy).1
    obtain ⟨q1, q2, q3⟩ := subl_spec hs
    have hcl := sub_CL (off := 0) hs g3 (by omega)
    rw [Nat.zero_add] at hcl
    unfold arT at hT
    cases hu : P.underlying T with
    | none => rw [hu] at hT; cases hT
    | some D =>
      rw [hu] at hT
      cases D <;> first | (cases hT; done) | skip
      rename_i len' E'
      simp only at hT
      cases hi : P.info? E' with
      | none => rw [hi] at hT; cases hT
      | some i =>
        rw [hi] at hT
        cases hT
        have hm : i.size = m := by
          have := agT_sz hE
          unfold szT at this
          rw [hi] at this
          simpa using this
        subst hm
        refine ⟨.agg (cs.extract (z.toNat * i.size) (z.toNat * i.size + i.size)), ?_, _, rfl, by simp; omega, hcl⟩
        simp [execOp, Instr.index, asIntOf, g1, hz, run_underlying hu, h0, h1, sizeOf, typeInfo, hi, part, run_isAgg_ag hE, run_sz (agT_sz hE)]
end ops
end Go.Bn
namespace Go.Bn
open Go
theorem HL.sub1 {p : SP} {ps : List SP} {c : EW} : ∀ {vs : List Value}, HL (p :: ps) vs c → HL (anyp :: ps) vs c
  | _ :: _, h => ⟨trivial, h.2⟩
section ops
variable {P : Program} {n : Nat} {ops : Array Oper} {Γ : Facts} {ρ : Env} {δ : VEnv} {τ : List VR}
variable {d : Nat} {ty : TypeId} {pos : String} {af : Array Edge}
theorem op_store_b {x y : Operand} {T : TypeId} {base : Value} {off : Nat} (k : Nat) {p : SP} {l cells cells' : List SP} {U : Nat} (hx : Lk Γ δ ρ x (ipo base off)) (hy : Lk Γ δ ρ y p) (hc : CellsOf p l) (hT : szT P T = some l.length)
    (hk : nth τ k = some (.c (blk base cells U))) (hl : Nat.ble (off + l.length) cells.length = true) (hp : putl off l cells = some cells') :
    OpOK P n ops Γ ρ δ τ ⟨none, .store T x y, ty, pos, af, none⟩ (.wr k) (.c anyp) (.c (blk base cells' U)) :=
  op_store k hx hy hc hT hk (puts_l hp (Nat.le_of_ble_eq_true hl)) (memw_blk (putl_spec hp).1)
theorem op_build_ar {T len E es : Nat} {parts : List (Nat × Operand)} {zs : List Value} {out : List SP} (hz : zrT P T = some zs) (h1 : zs.all (·.oneCell') = true) (hT : arT P T = some (len, E, es)) (hb : BuildL Γ δ ρ (fun i => some (i * es, es)) parts (zs.map isv) out) :
    OpOK P n ops Γ ρ δ τ ⟨some d, .build T parts.toArray, ty, pos, af, none⟩ .no (.c (aggp out)) dum :=
  ok_pure fun a c _ hr => by
    unfold zrT at hz
    unfold arT at hT
    cases hi : P.info? T with
    | none => rw [hi] at hz; cases hz
    | some i =>
      rw [hi] at hz
      simp only [Option.bind_some] at hz
      cases hzz : i.zero with
      | none => rw [hzz] at hz; cases hz
      | some z =>
        rw [hzz] at hz
        simp only [Option.map_some, Option.some.injEq] at hz
        cases hu : P.underlying T with
        | none => rw [hu] at hT; cases hT
        | some D =>
          rw [hu] at hT
          cases D <;> first | (cases hT; done) | skip
          rename_i len' E'
          simp only at hT
          cases hi' : P.info? E' with
          | none => rw [hi'] at hT; cases hT
          | some i' =>
            rw [hi'] at hT
            cases hT
            have hza : z.cells = zs.toArray := by rw [← hz]
            obtain ⟨cells', q1, q2, q3⟩ := hb.run (a := a) (c := c) (fun x p hx hp' => hr x p (by simpa [Op.operands] using hx) hp') z.cells (by rw [hza]; simp) (by rw [hza]; exact zCL h1)
            refine ⟨.agg cells', ?_, cells', rfl, q2, q3⟩
            simp only [execOp, Instr.build, zeroValue, typeInfo, Sem.run_bind, program, Sem.run, hi, hzz, Result.andThen_ok, Sem.run_pure, run_underlying hu, List.map_toArray, sizeOf, hi', q1]
end ops
end Go.Bn
namespace Go.Bn
open Go
theorem J_len {α : Type} {X : Cx} {Γ : Facts} {ρ : Env} {σ : List Res} {k : Code} {Q : Exit → Act → World → Prop} (t : Nat) {mk : α → SP} {xs : List α} (h : ρ.get t = some (slm mk xs)) (hk : xs.length ≤ 9223372036854775807 → J X Γ ρ σ k Q) : J X Γ ρ σ k Q := fun a c hs => by
  obtain ⟨_, hv⟩ := hs.env t _ h
  refine hk ?_ a c hs
  rw [List.length_map] at hv
  rcases hv with ⟨_, h2⟩ | ⟨ad, cap, _, h2, h3, _⟩
  · omega
  · simp only [maxLen] at h3; omega
end Go.Bn
namespace Go.Bn
open Go
/-- p says all that q says, where the facts hold. -/
def Sb (Γ : Facts) (p q : SP) : Prop := ∀ v c, FH Γ c → p.H v c → q.H v c
inductive SbL (Γ : Facts) : List SP → List SP → Prop where
  | nil : SbL Γ [] []
  | cons {p q : SP} {ps qs : List SP} (h : Sb Γ p q) (hr : SbL Γ ps qs) : SbL Γ (p :: ps) (q :: qs)
theorem SbL.nth {Γ : Facts} {ps qs : List SP} (h : SbL Γ ps qs) : ps.length = qs.length ∧ ∀ i q, Bn.nth qs i = some q → ∃ p, Bn.nth ps i = some p ∧ Sb Γ p q := by
  induction h with
  | nil => exact ⟨rfl, fun i q h => by simp [Bn.nth] at h⟩
  | cons h hr ih =>
    refine ⟨by simp [ih.1], fun i q hq => ?_⟩
    cases i with
    | zero => simp only [Bn.nth, Option.some.injEq] at hq; subst hq; exact ⟨_, rfl, h⟩
    | succ i => exact ih.2 i q hq
section sb
variable {Γ : Facts}
theorem sb_refl {p : SP} : Sb Γ p p := fun _ _ _ h => h
theorem sb_trans {p q r : SP} (h : Sb Γ p q) (k : Sb Γ q r) : Sb Γ p r := fun v c hf hv => k v c hf (h v c hf hv)
theorem sb_eq {p q : SP} (h : p = q) : Sb Γ p q := fun _ _ _ hv => h ▸ hv
theorem sb_f0 {u : Value} {p : SP} : Sb ((u, p) :: Γ) (isv u) p := fun _ _ hf hv => by rw [hv.1]; exact hf u p (by simp)
theorem sb_f1 {u : Value} {p : SP} {x : Value × SP} : Sb (x :: (u, p) :: Γ) (isv u) p := fun _ _ hf hv => by rw [hv.1]; exact hf u p (by simp)
theorem sb_f2 {u : Value} {p : SP} {x y : Value × SP} : Sb (x :: y :: (u, p) :: Γ) (isv u) p := fun _ _ hf hv => by rw [hv.1]; exact hf u p (by simp)
theorem sb_nil {α : Type} {mk : α → SP} : Sb Γ (isv (.slice none 0 0)) (slm mk []) := fun _ _ _ h => h.1 ▸ slm_nil
theorem sb_any {p : SP} : Sb Γ p anyp := fun _ _ _ _ => trivial
theorem sb_fz : Sb Γ (isv (.float .f64 0)) (flp 0) := fun _ _ _ h => h.1 ▸ flp_zero (c := ⟨default, fun _ => False⟩)
theorem sb_agg {ps qs : List SP} (h : SbL Γ ps qs) : Sb Γ (aggp ps) (aggp qs) := fun v c hf ⟨cs, h1, h2, h3⟩ => by
  obtain ⟨g1, g2⟩ := h.nth
  refine ⟨cs, h1, by omega, fun i q hq => ?_⟩
  obtain ⟨p, hp, hs⟩ := g2 i q hq
  obtain ⟨u, hu, h4, h5⟩ := h3 i p hp
  exact ⟨u, hu, h4, hs u c hf h5⟩
theorem HL.sb {c : EW} (hf : FH Γ c) {ps qs : List SP} (h : SbL Γ ps qs) : ∀ {vs : List Value}, HL ps vs c → HL qs vs c := by
  induction h with
  | nil => exact fun h => h
  | cons h hr ih =>
    intro vs hv
    cases vs with
    | nil => exact hv.elim
    | cons v vs => exact ⟨h v c hf hv.1, ih hv.2⟩
theorem sb_tup {ps qs : List SP} (h : SbL Γ ps qs) : Sb Γ (tupp ps) (tupp qs) := fun v c hf ⟨vs, h1, h2⟩ => ⟨vs, h1, HL.sb hf h h2⟩
theorem sb_res1 {p q : SP} (h : Sb Γ p q) : Sb Γ (resP [p]) q := h
theorem sb_res {p p' q q' : SP} {ps qs : List SP} (h : SbL Γ (p :: p' :: ps) (q :: q' :: qs)) : Sb Γ (resP (p :: p' :: ps)) (tupp (q :: q' :: qs)) := sb_tup h
end sb
end Go.Bn
namespace Go.Bn
open Go
theorem fix_som {α : Type} {sv : Value} {mk : α → SP} {xs ys : List α} {T : TypeId} (h : xs.length = ys.length) : Fix (som sv mk xs T) (som sv mk ys T) := by
  unfold som; rw [← h]; exact fix_osl
end Go.Bn
namespace Go.Bn
open Go
theorem To.fdrop {X : Cx} {Γ : Facts} {ρ : Env} {σ : List Res} {x : Value × SP} : To X (x :: Γ) ρ σ Γ ρ σ := fun a c hs =>
  ⟨c, rfl, hs.size, hs.defers, fun v p hm => hs.facts v p (List.mem_cons_of_mem _ hm), hs.env, hs.own⟩
section ops
variable {P : Program} {n : Nat} {ops : Array Oper} {Γ : Facts} {ρ : Env} {δ : VEnv} {τ : List VR}
variable {d : Nat} {ty : TypeId} {pos : String} {af : Array Edge}
/-- A whole value that names slots, stored into a block that the same region has laid. -/
theorem op_store_new_ve {t s : Nat} {T : TypeId} (k : Nat) {T' : TypeId} {e : VE} {l : Vl → List SP} {cells : List SP} {r' : VR} (hst : Nat.beq s t = false) (hx : getV δ ρ t = some (ptrAt t)) (hy : getV δ ρ s = some e) (hc : ∀ f, CellsOf (e.at f) (l f)) (hcg : ∀ f g : Vl, (∀ u, u ∈ e.D → f u = g u) → l f = l g) (hT : ∀ f, szT P T = some (l f).length)
    (hk : nth τ k = some (blkAt t cells T')) (hl : ∀ f, Nat.beq cells.length (l f).length = true)
    (he : r' = .d (t :: e.D) (fun f => blk (f t) (l f) T') (fun f g h => by rw [h t (by simp), hcg f g (fun u hu => h u (List.mem_cons_of_mem _ hu))])) :
    OpOK P n ops Γ ρ δ τ ⟨none, .store T (.tmp t) (.tmp s), ty, pos, af, none⟩ (.wr k) (.c anyp) r' := by
  subst he
  intro a c ob hs hwf hf hr hres hno hown
  have hvs := hr s (List.mem_append_left _ (List.mem_filterMap.2 ⟨.tmp s, by simp [Op.operands], rfl⟩)) _ hy
  have h := op_store_new (P := P) (n := n) (ops := ops) (Γ := Γ) (ρ := ρ) (δ := (s, .c (e.at (vl a))) :: δ) (τ := τ) (ty := ty) (pos := pos) (af := af) (t := t) (y := .tmp s) (T := T) (p := e.at (vl a)) (l := l (vl a)) (cells := cells) k (by simp only [getV, hst, cond_false]; exact hx) (Lk.t (by simp [getV])) (hc (vl a)) (hT (vl a)) hk (hl (vl a))
  have := h a c ob hs hwf hf (fun u hu q hq => by
    by_cases hus : s = u
    · subst hus
      simp only [getV, Nat.beq_refl, cond_true, Option.some.injEq] at hq
      subst hq
      exact hvs
    · simp only [getV, beq_ne hus, cond_false] at hq
      exact hr u hu q hq) hres hno hown
  simp only [Region.wanted, if_true] at this ⊢
  exact this
end ops
end Go.Bn
namespace Go.Bn
open Go
/-! ## Frozen blocks -/
section frz
variable {Γ : Facts}
theorem nth_mem {α : Type} {l : List α} {k : Nat} {x : α} (h : nth l k = some x) : x ∈ l := by rw [nth_eq] at h; exact List.mem_of_getElem? h
theorem sb_fk (k : Nat) {u : Value} {p : SP} (h : nth Γ k = some (u, p)) : Sb Γ (isv u) p := fun _ _ hf hv => by rw [hv.1]; exact hf u p (nth_mem h)
/-- A pointer into what is frozen. -/
theorem sb_ok (k m : Nat) {u : Value} {off : Nat} {cells cells' : List SP} (h : nth Γ k = some (u, ptp cells)) (hs : subl off m cells = some cells') : Sb Γ (ipo u off) (ptp cells') := fun v c hf hv => by
  obtain ⟨b, hb, hv⟩ := hv
  obtain ⟨b', off', cur, T, fz, h1, h2, h3, h4⟩ := hf u _ (nth_mem h)
  rcases hb with hb | ⟨n, cap, hb⟩
  · rw [hb] at h1
    cases h1
    refine ⟨b, off, cur, T, fz, hv, h2, h3, fun i q hq => ?_⟩
    obtain ⟨g1, g2, g3⟩ := subl_spec hs
    have him : i < m := by have := nth_lt hq; omega
    rw [g3 i him] at hq
    have := h4 _ _ hq
    rwa [Nat.zero_add] at this
  · rw [hb] at h1; cases h1
theorem sb_ptp {ps qs : List SP} (h : SbL Γ ps qs) : Sb Γ (ptp ps) (ptp qs) := fun v c hf ⟨b, off, cur, T, fz, h1, h2, h3, h4⟩ => by
  obtain ⟨g1, g2⟩ := h.nth
  refine ⟨b, off, cur, T, fz, h1, h2, h3, fun i q hq => ?_⟩
  obtain ⟨p, hp, hs⟩ := g2 i q hq
  obtain ⟨u, hu, k1, k2⟩ := h4 i p hp
  exact ⟨u, hu, k1, hs u c hf k2⟩
end frz
/-- Who asks for nothing to write takes a fresh result as one that lasts. -/
theorem CtF.ct {P : Program} {f : Nat} {ps : List SP} {pr : Value → Value} {R : Value → SP} {r : Value → Res} {p : Value → SP} {R' : SP} (h : CtF P f ps pr R r) (hfz : ∀ u, Freezes (r u) u (p u)) (hR : ∀ u, Sb [(u, p u)] (R u) R') : Ct P f ps R' :=
  ⟨h.1, fun vs c hwf hv => (h.2 vs c hwf hv).mono fun e w' ⟨v, ob, he, hx, hlt, h1, h2⟩ => by
    have hle : Le ⟨w', fun k => c.M k ∨ ob = some k⟩ ⟨w', c.M⟩ := ⟨rfl, rfl, rfl, Nat.le_refl _, fun k hk hm => ⟨rfl, fun h0 => hm (.inl h0)⟩⟩
    have hf := hfz _ _ _ _ h2 hle fun b hb => ⟨rfl, fun hm => by have := hwf b hm; have := (hlt b hb).1; omega⟩
    refine ⟨v, he, hx, hR (pr v) v _ (fun u q hm => ?_) ((R (pr v)).st _ _ _ hle h1)⟩
    simp only [List.mem_singleton, Prod.mk.injEq] at hm
    rw [hm.1, hm.2]; exact hf⟩
theorem Lk.fn {P : Program} {Γ : Facts} {δ : VEnv} {ρ : Env} {f : Nat} {C : Int → Int → Prop} {g : Int → Int → SP} (h : ∀ i j, C i j → Ct P f [isv (.int .i64 i), isv (.int .i64 j)] (g i j)) (hH : Has P f) : Lk Γ δ ρ (.func f) (fnp (P := P) C g) := fun c hf =>
  ⟨f, #[], rfl, hH, fun c' _ hwf i j hC => by
    have := (h i j hC).2 [.int .i64 i, .int .i64 j] c' hwf ⟨⟨rfl, rfl⟩, ⟨rfl, rfl⟩, trivial⟩
    simpa using this⟩
end Go.Bn
namespace Go.Bn
open Go
/-- The nought that a variable begins with, said as a number. -/
theorem To.zero {X : Cx} {Γ : Facts} {ρ : Env} {σ : List Res} (t : Nat) (h : ρ.get t = some (isv (.float .f64 0))) : To X Γ ρ σ Γ ((t, flp 0) :: ρ) σ := fun a c hs =>
  ⟨c, rfl, hs.size, hs.defers, hs.facts, fun u p hp => by
    simp only [Env.get] at hp
    by_cases hu : t = u
    · subst hu
      simp at hp
      subst hp
      have := (hs.env t _ h).1
      rw [this]; exact flp_zero
    · rw [beq_ne hu] at hp
      exact hs.env u p hp, hs.own⟩
end Go.Bn
namespace Go.Bn
open Go
section ops
variable {P : Program} {n : Nat} {ops : Array Oper} {Γ : Facts} {ρ : Env} {δ : VEnv} {τ : List VR}
/-- An operand that names slots: the operation is shown for each value of theirs. -/
theorem op_ve (s d : Nat) {o : Oper} {e e' : VE} {acc : Acc} {q : Vl → SP} {vr : VR} (hd : o.dst = some d) (hy : getV δ ρ s = some e) (hn : (e.D.all fun t => !Nat.beq d t) = true)
    (h : ∀ f : Vl, OpOK P n ops Γ ρ ((s, .c (e.at f)) :: δ) τ o acc (.c (q f)) vr) (hc : ∀ f g : Vl, (∀ t, t ∈ e.D → f t = g t) → q f = q g) (he : e' = .d e.D q hc) : OpOK P n ops Γ ρ δ τ o acc e' vr := by
  subst he
  intro a c ob hs hwf hf hr hres hno hown
  have h1 := h (vl a) a c ob hs hwf hf (fun u hu p hp => by
    by_cases hus : s = u
    · subst hus
      simp only [getV, Nat.beq_refl, cond_true, Option.some.injEq] at hp
      subst hp
      exact hr s hu e hy
    · simp only [getV, beq_ne hus, cond_false] at hp
      exact hr u hu p hp) hres hno hown
  have hq : ∀ v, q (upd (vl a) o.dst v) = q (vl a) := fun v => hc _ _ fun t ht => by
    have := List.all_eq_true.1 hn t ht
    rw [hd]
    show cond (Nat.beq d t) v (vl a t) = vl a t
    cases hb : Nat.beq d t
    · rfl
    · rw [hb] at this; cases this
  simp only [VE.at, hq] at h1 ⊢
  exact h1
end ops
end Go.Bn
namespace Go.Bn
open Go
/-- A resource said otherwise. -/
theorem To.res {X : Cx} {Γ : Facts} {ρ : Env} {σ σ' : List Res} (k : Nat) {r r' : Res} (hr : nth σ k = some r) (h : ∀ c ob, r.H c ob → r'.H c ob) (hσ : setNth σ k r' = σ') : To X Γ ρ σ Γ ρ σ' := by
  subst hσ
  intro a c hs
  obtain ⟨obs, hown, hres⟩ := hs.own
  refine ⟨c, rfl, hs.size, hs.defers, hs.facts, hs.env, obs, hown, fun j q hj => ?_⟩
  rw [nth_setNth] at hj
  by_cases hjk : j = k
  · rw [if_pos hjk] at hj
    subst hjk
    rw [hr] at hj
    cases hj
    exact h _ _ (hres j r hr)
  · rw [if_neg hjk] at hj
    exact hres j q hj
/-- A slot said otherwise. -/
theorem To.slot {X : Cx} {Γ : Facts} {ρ : Env} {σ : List Res} (t : Nat) {p q : SP} (hp : ρ.get t = some p) (h : Sb Γ p q) : To X Γ ρ σ Γ ((t, q) :: ρ) σ := fun a c hs =>
  ⟨c, rfl, hs.size, hs.defers, hs.facts, fun u r hr => by
    simp only [Env.get] at hr
    by_cases hu : t = u
    · subst hu
      simp at hr
      subst hr
      exact h _ _ hs.facts (hs.env t _ hp)
    · rw [beq_ne hu] at hr
      exact hs.env u r hr, hs.own⟩
end Go.Bn
namespace Go.Bn
open Go
section ops
variable {P : Program} {n : Nat} {ops : Array Oper} {Γ : Facts} {ρ : Env} {δ : VEnv} {τ : List VR}
/-- The same for what is stored. -/
theorem op_ver (s : Nat) {o : Oper} {e : VE} {acc : Acc} {q : Vl → Res} {r' : VR} (hd : o.dst = none) (hy : getV δ ρ s = some e)
    (h : ∀ f : Vl, OpOK P n ops Γ ρ ((s, .c (e.at f)) :: δ) τ o acc (.c anyp) (.c (q f))) (hc : ∀ f g : Vl, (∀ t, t ∈ e.D → f t = g t) → q f = q g) (he : r' = .d e.D q hc) : OpOK P n ops Γ ρ δ τ o acc (.c anyp) r' := by
  subst he
  intro a c ob hs hwf hf hr hres hno hown
  have h1 := h (vl a) a c ob hs hwf hf (fun u hu p hp => by
    by_cases hus : s = u
    · subst hus
      simp only [getV, Nat.beq_refl, cond_true, Option.some.injEq] at hp
      subst hp
      exact hr s hu e hy
    · simp only [getV, beq_ne hus, cond_false] at hp
      exact hr u hu p hp) hres hno hown
  rw [hd] at h1 ⊢
  exact h1
end ops
end Go.Bn
