/-
  Lists of matrices whose numbers are owned (ModelFresh); structs with owned lists are lent; lists of structs are written.
-/
import Derived.Test.YtjfkpnacfnnkhaaDoorFre
import Derived.Test.YtjfkpnacfnnkhaaDoorFos
import Derived.Test.YtjfkpnacfnnkhaaDoorSee
set_option linter.unusedVariables false
set_option linter.unusedSimpArgs false
namespace Go.Bn
open Go
/-! ## Pure resources -/
theorem pure_sep {a b : Res} (ha : a.Pure) (hb : b.Pure) : (a.sep b).Pure := fun c c' ob h ⟨o1, o2, h1, h2, h3, h4⟩ => ⟨o1, o2, h1, h2, ha _ _ _ h h3, hb _ _ _ h h4⟩
theorem pure_pool {n : Nat} {f : Nat → Res} (h : ∀ i, (f i).Pure) : (pool n f).Pure := fun c c' ob e ⟨os, h1, h2, h3⟩ => ⟨os, h1, h2, fun i hi => h i _ _ _ e (h3 i hi)⟩
theorem pure_exR {α : Type} {f : α → Res} (h : ∀ x, (f x).Pure) : (exR f).Pure := fun c c' ob e ⟨x, hx⟩ => ⟨x, h x _ _ _ e hx⟩
theorem pure_osl {sv : Value} {m k : Nat} {cells : List SP} {T : TypeId} (hc : ∀ i p, nth cells i = some p → p.Pure) : (osl sv m k cells T).Pure := by
  rintro c c' ob hw ⟨h0, h⟩
  refine ⟨h0, ?_⟩
  rcases h with h | ⟨b, cap, cur, h1, h2, h3, h4, h5, h6, h7⟩
  · exact .inl h
  · refine .inr ⟨b, cap, cur, h1, h2, h3, h4, by rw [hw]; exact h5, h6, fun j p hj => ?_⟩
    obtain ⟨w, q1, q2, q3⟩ := h7 j p hj
    exact ⟨w, q1, q2, hc j p hj _ _ _ q3⟩
theorem pure_somk {α : Type} {mk : α → List SP} (hmk : ∀ a, ∀ p, p ∈ mk a → p.Pure) {u : Value} {k : Nat} {xs : List α} {T : TypeId} : (somk u k mk xs T).Pure := pure_osl fun i p hi => by
  rw [nth_eq] at hi
  obtain ⟨a, _, ha⟩ := List.mem_flatMap.1 (List.mem_of_getElem? hi)
  exact hmk a p ha
/-! ## What is lent -/
theorem lent_st {r : Res} {p : SP} : Lent r p p := fun c c1 ob v h hq hle hob => p.st _ _ _ hle hq
theorem lent_somk {α : Type} {k : Nat} {mk : α → List SP} {u : Value} {xs : List α} {T : TypeId} : Lent (somk u k mk xs T) (isv u) (slk k mk xs) := fun c c1 ob v h hq hle hob => by rw [hq.1]; exact frz_somk c c1 ob h hle hob
inductive LentL (r : Res) : List SP → List SP → Prop
  | nil : LentL r [] []
  | cons {q p : SP} {qs ps : List SP} : Lent r q p → LentL r qs ps → LentL r (q :: qs) (p :: ps)
theorem LentL.len {r : Res} {qs ps : List SP} (h : LentL r qs ps) : qs.length = ps.length := by
  induction h with
  | nil => rfl
  | cons _ _ ih => rw [List.length_cons, List.length_cons, ih]
theorem LentL.nth {r : Res} {qs ps : List SP} (h : LentL r qs ps) : ∀ {i : Nat} {p : SP}, nth ps i = some p → ∃ q, nth qs i = some q ∧ Lent r q p := by
  induction h with
  | nil => intro i p hi; cases hi
  | cons h t ih =>
    intro i p hi
    cases i with
    | zero => cases hi; exact ⟨_, rfl, h⟩
    | succ i => exact ih hi
theorem lent_agg {r : Res} {qs ps : List SP} (h : LentL r qs ps) : Lent r (aggp qs) (aggp ps) := fun c c1 ob v hr hq hle hob => by
  obtain ⟨cs, h1, h2, h3⟩ := hq
  refine ⟨cs, h1, h2.trans h.len, fun i p hp => ?_⟩
  obtain ⟨q, g1, g2⟩ := h.nth hp
  obtain ⟨w, w1, w2, w3⟩ := h3 i q g1
  exact ⟨w, w1, w2, g2 c c1 ob w hr w3 hle hob⟩
theorem lent_mot {r : Res} {u : Value} {ps : List Prt} (h : Lent r (isv u) (slk 4 prtC ps)) : Lent r (aggp [isv u]) (MotP ps) := lent_agg (.cons h .nil)
theorem lent_sen {rs : Res} {u v : Value} {i r c : Int} {hs vs : List Nat} {q : Nat} (hu : Lent rs (isv u) (fls hs)) (hv : Lent rs (isv v) (fls vs)) : Lent rs (aggp [isv (.int .i64 i), isv (.int .i64 r), isv (.int .i64 c), isv u, isv v, isv (.int .i64 0), isv (.int .i64 0), isv (.int .i64 0), flp q]) (SenP i r c hs vs q) :=
  lent_agg (.cons lent_st <| .cons lent_st <| .cons lent_st <| .cons hu <| .cons hv <| .cons lent_st <| .cons lent_st <| .cons lent_st <| .cons lent_st .nil)
/-! ## A struct is written into a list -/
theorem len_flatk {α : Type} {es : Nat} {mk : α → List SP} (hl : ∀ a, (mk a).length = es) (xs : List α) : (xs.flatMap mk).length = xs.length * es := by
  induction xs with
  | nil => rw [List.flatMap_nil, List.length_nil, List.length_nil, Nat.zero_mul]
  | cons a l ih => rw [List.flatMap_cons, List.length_append, hl, ih, List.length_cons, Nat.succ_mul, Nat.add_comm]
theorem puts_flat {α : Type} {es : Nat} {mk : α → List SP} (hl : ∀ a, (mk a).length = es) {xs : List α} {k : Nat} {v : α} (h : k < xs.length) : Puts (k * es) (mk v) (xs.flatMap mk) ((xs.set k v).flatMap mk) := by
  have hk : k * es + es ≤ xs.length * es := by
    have := Nat.mul_le_mul_right es (show k + 1 ≤ xs.length from h)
    rw [Nat.succ_mul] at this
    exact this
  refine ⟨by rw [len_flatk hl, len_flatk hl, List.length_set], by rw [hl, len_flatk hl]; exact hk, fun i => ?_⟩
  rw [hl]
  by_cases hi : i < xs.length * es
  · have he : 0 < es := by
      rcases Nat.eq_zero_or_pos es with h0 | h0
      · rw [h0, Nat.mul_zero] at hi; exact absurd hi (Nat.not_lt_zero i)
      · exact h0
    have hm : i % es < es := Nat.mod_lt _ he
    have hie : i = i / es * es + i % es := by rw [Nat.mul_comm]; exact (Nat.div_add_mod i es).symm
    have hq : i / es < xs.length := (Nat.div_lt_iff_lt_mul he).2 hi
    generalize i / es = q at *
    generalize i % es = m at *
    subst hie
    rw [nth_flatk hl v (by rw [List.length_set]; exact hq) hm, nth_flatk hl v hq hm]
    by_cases hqk : q = k
    · subst hqk
      rw [if_pos ⟨Nat.le_add_right _ _, by omega⟩, Nat.add_sub_cancel_left]
      rw [List.getD, List.getElem?_set_self hq]; rfl
    · have : ¬ (k * es ≤ q * es + m ∧ q * es + m < k * es + es) := by
        rcases Nat.lt_or_gt_of_ne hqk with h1 | h1
        · have := Nat.mul_le_mul_right es (show q + 1 ≤ k from h1)
          rw [Nat.succ_mul] at this; omega
        · have := Nat.mul_le_mul_right es (show k + 1 ≤ q from h1)
          rw [Nat.succ_mul] at this; omega
      rw [if_neg this, List.getD, List.getD, List.getElem?_set_ne (Ne.symm hqk)]
  · rw [nth_eq, List.getElem?_eq_none (by rw [len_flatk hl, List.length_set]; omega), if_neg (by omega), nth_eq, List.getElem?_eq_none (by rw [len_flatk hl]; omega)]
section ops
variable {P : Program} {n : Nat} {ops : Array Oper} {Γ : Facts} {ρ : Env} {δ : VEnv} {τ : List VR}
variable {d : Nat} {ty : TypeId} {pos : String} {af : Array Edge}
theorem ok_newpL {op : Op} {p : SP} (k : Nat) {r : Res} (hk : nth τ k = some (.c r))
    (h : ∀ (a : Act) (c : EW) (ob : Bs), (∀ k, c.M k → k < c.w.heap.size) → FH Γ c → r.H c ob → (∀ x q, x ∈ op.operands → Lk Γ δ ρ x q → q.H (a.eval x) c) → ∃ v, ((execOp a.eval ⟨some d, op, ty, pos, af, none⟩).run P c.w = .ok (.value v) c.w ∧ p.H v c) ∨
      ∃ (dr : Nat) (cur : Array Value) (T : TypeId), (execOp a.eval ⟨some d, op, ty, pos, af, none⟩).run P c.w = .ok (.value v) ({ c.w with drawn := dr }.alloc (.cells cur T)) ∧ ∀ c' : EW, Le c c' → ¬ c'.M c.w.heap.size → c'.w.heap[c.w.heap.size]? = some (.cells cur T (0, 0)) → p.H v c') :
    OpOK P n ops Γ ρ δ τ ⟨some d, op, ty, pos, af, none⟩ (.rd k) (.c p) dum := by
  intro a c ob hs hwf hf hr hres hno hown
  obtain ⟨r0, hr0, hh⟩ := hres k rfl
  rw [hk] at hr0
  cases hr0
  have hh' : r.H c ob := hh
  obtain ⟨v, hv⟩ := h a c ob hwf hf hh' (fun x q hx hq => Lk.val (o := ⟨some d, op, ty, pos, af, none⟩) hr hf hx hq)
  simp only [Region.wanted, if_true]
  unfold Does
  rcases hv with ⟨hex, hp⟩ | ⟨dr, cur, T, hex, hp⟩
  · rw [hex]
    exact ⟨c, ob, rfl, Tr.refl hwf, hp, fun h => (by cases h)⟩
  · rw [hex]
    have e : ({ c.w with drawn := dr }.alloc (.cells cur T)).heap.size = c.w.heap.size + 1 := by simp
    have htr : Tr c nob false ⟨{ c.w with drawn := dr }.alloc (.cells cur T), c.M⟩ nob :=
      ⟨rfl, rfl, rfl, by simp, fun j hj _ => heap_alloc_old { c.w with drawn := dr } _ j hj, fun j hj => Iff.rfl, .inl rfl, fun j hj => by
        show j < ({ c.w with drawn := dr }.alloc (.cells cur T)).heap.size
        rw [e]
        have := hwf j hj; omega⟩
    refine ⟨_, ob, rfl, ⟨htr.os, htr.tape, htr.out, htr.size, fun j hj _ => htr.heap j hj (fun h => by cases h), fun _ _ => Iff.rfl, .inl rfl, htr.lt⟩, hp _ (htr.le (fun _ h => by cases h)) (fun hm => ?_) (heap_alloc_new { c.w with drawn := dr } _), fun h => (by cases h)⟩
    have := hwf _ hm
    omega
/-- A list that the function owns, copied. -/
theorem op_append_e0L {α : Type} {mk : α → SP} (hmk : ∀ a, (mk a).Pure) {ys : List α} {x y : Operand} {T E eb : Nat} {zs : List Value} {sv : Value} {U : TypeId} (k : Nat) (ht : slT P T = some (E, 1, eb)) (hz : zrT P E = some zs) (hzl : Nat.beq zs.length 1 = true) (hx : Lk Γ δ ρ x (e0p E)) (hy : Lk Γ δ ρ y (isv sv)) (hk : nth τ k = some (.c (som sv mk ys U))) (h63 : ys.length ≤ 9223372036854775807) (hb : ys.length * eb ≤ 140737488355328) :
    OpOK P n ops Γ ρ δ τ ⟨some d, .call ⟨.builtin .append, #[x, y], #[T, T]⟩, ty, pos, af, none⟩ (.rd k) (.c (slm mk ys)) dum := by
  refine ok_newpL k hk fun a c ob hwf hf hrs hr => ?_
  obtain ⟨b, hv, hm, hh⟩ := hr x _ (by simp [Op.operands, Call.operands]) hx
  have hye := hr y _ (by simp [Op.operands, Call.operands]) hy
  have hyv : (slm mk ys).H (a.eval y) ⟨c.w, fun b => c.M b ∧ ¬ ob b⟩ := by rw [hye.1]; exact frz_som c _ ob hrs ⟨rfl, rfl, rfl, Nat.le_refl _, fun j _ hm => ⟨rfl, fun h => hm h.1⟩⟩ fun b hb => ⟨rfl, fun h => h.2 hb⟩
  obtain ⟨hu, i, hi, hsz, hbb⟩ := slT_u ht
  unfold zrT at hz
  rw [hi] at hz
  simp only [Option.bind_some] at hz
  cases hzz : i.zero with
  | none => rw [hzz] at hz; cases hz
  | some z =>
    rw [hzz] at hz
    simp only [Option.map_some, Option.some.injEq] at hz
    have hzs : z.cells.size = 1 := by
      have : zs.length = 1 := Nat.eq_of_beq_eq_true hzl
      rw [← hz] at this
      simpa using this
    have hyv' : (slc ys.length 1 (ys.map mk)).H (a.eval y) ⟨c.w, fun b => c.M b ∧ ¬ ob b⟩ := by
      have := hyv
      unfold slm slp at this
      rw [List.length_map] at this
      exact this
    obtain ⟨nsv, ad, cc, hyx, hnl, hncell, hnone, hnCL1⟩ := slc_cells hyv'
    have hnCL : CL (ys.map mk) nsv.toArray 0 c := fun i p hi => by
      obtain ⟨w, q1, q2, q3⟩ := hnCL1 i p hi
      rw [nth_eq, List.getElem?_map] at hi
      cases hx2 : ys[i]? with
      | none => rw [hx2] at hi; cases hi
      | some b => rw [hx2] at hi; cases hi; exact ⟨w, q1, q2, hmk b _ _ _ q3⟩
    have hex : ∀ v' w', (Builtin.append_ #[T, T] ty #[a.eval x, a.eval y]).run P c.w = .ok v' w' → (execOp a.eval ⟨some d, .call ⟨.builtin .append, #[x, y], #[T, T]⟩, ty, pos, af, none⟩).run P c.w = .ok (.value v') w' := fun v' w' g1 => by
      simp only [execOp, resolve, invoke, builtin, Sem.run_bind, Sem.run_pure, Result.andThen_ok, List.map_toArray, List.map_cons, List.map_nil, g1]
    by_cases hm0 : ys.length = 0
    · refine ⟨a.eval x, .inl ⟨hex _ _ ?_, ?_⟩⟩
      · rw [hv]
        rcases hyx with hyx | ⟨hyx, _⟩ <;> rw [hyx] <;> simp [Builtin.append_, run_underlying hu, sizeOf, typeInfo, hi, Builtin.lenOf, Builtin.firstCells, loadCells, loadCellsFrom, storeCells, hm0]
      · have : ys = [] := List.eq_nil_of_length_eq_zero hm0
        subst this
        exact ⟨rfl, .inr ⟨_, 0, by rw [hv]; rfl, Nat.le_refl _, Nat.zero_le _, .inl rfl⟩⟩
    · obtain ⟨v', w', g1, g2⟩ := run_app (P := P) (ty := ty) (E := E) (T := T) (m := 0) c.w hu hi hzz hsz hbb hzs (by omega) #[] b 0 (.inr ⟨hv, Nat.le_refl _, Nat.zero_le _, hh, rfl⟩) nsv ad cc hyx hnl hncell hnone (by omega) (by rw [Nat.zero_add]; exact hb)
      rcases g2 with ⟨h1, _⟩ | ⟨_, h1, _⟩ | ⟨cap', rest, h1, h2, h3, h4, h5⟩
      · exact (hm0 h1).elim
      · omega
      · subst h4
        refine ⟨v', .inr ⟨c.w.drawn + 1, _, E, hex _ _ g1, fun c' hle hm' hh' => ?_⟩⟩
        rw [Nat.zero_add] at h1 h2
        refine ⟨by simp, .inr ⟨_, cap', by rw [h1, List.length_map], by rw [List.length_map]; exact h2, h3, .inr ⟨_, 0, rfl, hm', _, E, (0, 0), hh', ?_⟩⟩⟩
        have e : ((#[] : Array Value).toList.take (0 * 1)).toArray ++ nsv.toArray ++ rest = ([] ++ nsv ++ rest.toList).toArray := by
          apply Array.ext'; simp
        rw [e]
        have h0 : CL [] (([] : List Value)).toArray 0 c := fun j p hj => by simp [nth] at hj
        exact (CL_append h0 hnCL rfl (by rw [hnl, List.length_map, Nat.mul_one])).st hle
/-- Two operands that name slots. -/
theorem op_ve2 (s t d : Nat) {o : Oper} {e1 e2 e' : VE} {acc : Acc} {q : Vl → SP} {vr : VR} (hd : o.dst = some d) (hy : getV δ ρ s = some e1) (hz : getV δ ρ t = some e2) (hn : ((e1.D ++ e2.D).all fun t => !Nat.beq d t) = true)
    (h : ∀ f : Vl, OpOK P n ops Γ ρ ((s, .c (e1.at f)) :: (t, .c (e2.at f)) :: δ) τ o acc (.c (q f)) vr) (hc : ∀ f g : Vl, (∀ t, t ∈ e1.D ++ e2.D → f t = g t) → q f = q g) (he : e' = .d (e1.D ++ e2.D) q hc) : OpOK P n ops Γ ρ δ τ o acc e' vr := by
  subst he
  intro a c ob hs hwf hf hr hres hno hown
  have h1 := h (vl a) a c ob hs hwf hf (fun u hu p hp => by
    by_cases hus : s = u
    · subst hus
      simp only [getV, Nat.beq_refl, cond_true, Option.some.injEq] at hp
      subst hp
      exact hr s hu e1 hy
    · simp only [getV, beq_ne hus, cond_false] at hp
      by_cases hut : t = u
      · subst hut
        simp only [Nat.beq_refl, cond_true, Option.some.injEq] at hp
        subst hp
        exact hr t hu e2 hz
      · simp only [beq_ne hut, cond_false] at hp
        exact hr u hu p hp) hres hno hown
  have hq : ∀ v, q (upd (vl a) o.dst v) = q (vl a) := fun v => hc _ _ fun t ht => by
    have := List.all_eq_true.1 hn t ht
    rw [hd]
    show cond (Nat.beq d t) v (vl a t) = vl a t
    cases hb : Nat.beq d t
    · rfl
    · rw [hb] at this; cases this
  simp only [VE.at, hq] at h1 ⊢
  exact h1
theorem op_store_somk {α : Type} {es : Nat} {mk : α → List SP} {xs : List α} {v : α} {x y : Operand} {T U : TypeId} {base : Value} {off j : Nat} (k : Nat) (hl : ∀ a, (mk a).length = es) (hx : Lk Γ δ ρ x (ipo base off)) (ho : off = j * es) (hy : Lk Γ δ ρ y (aggp (mk v))) (hT : szT P T = some es) (hk : nth τ k = some (.c (somk base es mk xs U))) (h1 : j < xs.length) :
    OpOK P n ops Γ ρ δ τ ⟨none, .store T x y, ty, pos, af, none⟩ (.wr k) (.c anyp) (.c (somk base es mk (xs.set j v) U)) := by
  subst ho
  refine op_store (cells := xs.flatMap mk) (cells' := (xs.set j v).flatMap mk) k hx hy co_agg (by rw [hl]; exact hT) hk (puts_flat hl h1) ?_
  have := memw_osl (sv := base) (n := xs.length) (k := es) (cells := xs.flatMap mk) (cells' := (xs.set j v).flatMap mk) (T := U) (by omega) (by rw [len_flatk hl, len_flatk hl, List.length_set])
  simpa [somk] using this
theorem op_index_sm {α : Type} {mk : α → List SP} {xs : List α} {x y : Operand} {T : TypeId} {E es eb : Nat} {ki : IntKind} {z : Int} {sv : Value} {T' : Nat} (k : Nat) (ht : slT P T = some (E, es, eb)) (hx : Lk Γ δ ρ x (isv sv)) (hy : Lk Γ δ ρ y (isv (.int ki z))) (hk : nth τ k = some (.c (somk sv es mk xs T'))) (h0 : 0 ≤ z) (h1 : z < xs.length) :
    OpOK P n ops Γ ρ δ τ ⟨some d, .indexAddr T x y, ty, pos, af, none⟩ (.rd k) (.c (ipo sv (z.toNat * es))) dum := op_index_own k ht hx hy hk h0 h1
theorem op_len_sm {α : Type} {mk : α → List SP} {xs : List α} {x : Operand} {t : TypeId} {sv : Value} (k : Nat) {T E : Nat} {es es' eb : Nat} (ht : slT P t = some (E, es, eb)) (hx : Lk Γ δ ρ x (isv sv)) (hk : nth τ k = some (.c (somk sv es' mk xs T))) :
    OpOK P n ops Γ ρ δ τ ⟨some d, .call ⟨.builtin .len, #[x], #[t]⟩, ty, pos, af, none⟩ (.rd k) (.c (isv (.int .i64 (xs.length : Int)))) dum := op_len_own k ht hx hk
end ops
/-! ## Matrices whose numbers are owned -/
structure Me where
  r : Int
  c : Int
  u : Value
def meU (e : Me) : List SP := [isv (.int .i64 e.r), isv (.int .i64 e.c), isv e.u]
def meD : Me := ⟨0, 0, .slice none 0 0⟩
theorem meU_len : ∀ m, (meU m).length = 3 := fun _ => rfl
def plE (es : List Me) (X : Nat → List Nat) (T : TypeId) : Nat → Res := fun j => som (es.getD j meD).u flp (X j) T
def eOf (ms : List Mx) : Nat → List Nat := fun j => (ms.getD j mxD).a
structure RE (es : List Me) (ms : List Mx) : Prop where
  l : es.length = ms.length
  h : ∀ j, j < ms.length → (es.getD j meD).r = (ms.getD j mxD).r ∧ (es.getD j meD).c = (ms.getD j mxD).c
def matsE (U : Value) (ms : List Mx) (T TF : TypeId) : Res := exR fun es : {es : List Me // RE es ms} => (somk U 3 meU es.1 T).sep (pool ms.length (plE es.1 (eOf ms) TF))
theorem pure_matsE {U : Value} {ms : List Mx} {T TF : TypeId} : (matsE U ms T TF).Pure := pure_exR fun x => pure_sep (pure_somk fun a p hp => by
  simp only [meU, List.mem_cons, List.not_mem_nil, or_false] at hp
  rcases hp with rfl | rfl | rfl <;> exact pure_isv _) (pure_pool fun i => pure_som pure_flp)
theorem plE_at {es : List Me} {v : Nat} {X : Nat → List Nat} {T : TypeId} {i : Nat} : plE es (wrL v X i) T i = som (es.getD i meD).u flp (X i) T := by
  unfold plE wrL
  rw [if_neg (Nat.lt_irrefl i)]
theorem plE_0 {es : List Me} {v : Nat} {X : Nat → List Nat} {T : TypeId} : plE es (wrL v X 0) T = plE es X T := by
  funext j; unfold plE wrL; rw [if_neg (Nat.not_lt_zero j)]
theorem plE_fill {es : List Me} {v : Nat} {X : Nat → List Nat} {T : TypeId} {i n : Nat} : ∀ c ob, (pool n (fillR (plE es (wrL v X i) T) i (som (es.getD i meD).u flp (List.replicate (X i).length v) T))).H c ob → (pool n (plE es (wrL v X (i + 1)) T)).H c ob := pool_congr fun j hj => by
  unfold fillR plE wrL
  by_cases h : j = i
  · subst h; rw [if_pos rfl, if_pos (Nat.lt_succ_self j)]
  · rw [if_neg h]
    by_cases h2 : j < i
    · rw [if_pos h2, if_pos (by omega)]
    · rw [if_neg h2, if_neg (by omega)]
theorem slc_eat {ps qs : List SP} {n k : Nat} {c : EW} {v : Value} (hl : ps.length = qs.length) (h : ∀ i q, nth qs i = some q → ∃ p, nth ps i = some p ∧ ∀ w, p.H w c → q.H w c) (hv : (slc n k ps).H v c) : (slc n k qs).H v c := by
  obtain ⟨h0, h1⟩ := hv
  refine ⟨hl ▸ h0, ?_⟩
  rcases h1 with h1 | ⟨ad, cap, a1, a2, a3, a4⟩
  · exact .inl h1
  · refine .inr ⟨ad, cap, a1, a2, a3, ?_⟩
    rcases a4 with a4 | ⟨b, off, b1, b2, cur, T, fz, b3, b4⟩
    · exact .inl a4
    · refine .inr ⟨b, off, b1, b2, cur, T, fz, b3, fun i q hq => ?_⟩
      obtain ⟨p, hp, hs⟩ := h i q hq
      obtain ⟨u, u1, u2, u3⟩ := b4 i p hp
      exact ⟨u, u1, u2, hs _ u3⟩
theorem frz_matsE {U : Value} {ms : List Mx} {T TF : TypeId} : Freezes (matsE U ms T TF) U (slk 3 mtM ms) := fun c c1 ob h hle hob => by
  obtain ⟨⟨es, hes⟩, o1, o2, h1, h2, h3, h4⟩ := h
  have hs := frz_somk c c1 o1 h3 hle fun b hb => hob b ((h1 b).2 (.inl hb))
  obtain ⟨os, p1, p2, p3⟩ := h4
  unfold slk at hs ⊢
  rw [hes.l] at hs
  refine slc_eat (by rw [len_flatk meU_len, len_flatk mtM_len, hes.l]) (fun i q hi => ?_) hs
  have hil := nth_lt hi
  rw [len_flatk mtM_len] at hil
  have hmod : i % 3 < 3 := Nat.mod_lt _ (by omega)
  have hdiv : i / 3 < ms.length := by omega
  have hie : i = i / 3 * 3 + i % 3 := by omega
  generalize i / 3 = j at *
  generalize i % 3 = m at *
  subst hie
  rw [nth_flatk mtM_len mxD hdiv hmod] at hi
  refine ⟨_, (nth_flatk meU_len meD (by rw [hes.l]; exact hdiv) hmod).trans (show nth (meU (es.getD j meD)) m = some (((meU (es.getD j meD))[m]?).getD (isv undef)) from ?_), ?_⟩
  · rw [nth_eq]
    match m, hmod with
    | 0, _ => rfl
    | 1, _ => rfl
    | 2, _ => rfl
  · intro w hw
    have hrc := hes.h j hdiv
    match m, hmod with
    | 0, _ => cases hi; rw [← hrc.1]; exact hw
    | 1, _ => cases hi; rw [← hrc.2]; exact hw
    | 2, _ =>
      cases hi
      have hw' : (isv (es.getD j meD).u).H w c1 := hw
      rw [hw'.1]
      exact frz_som c c1 (os j) (p3 j hdiv) hle fun b hb => hob b ((h1 b).2 (.inr ((p1 b).2 ⟨j, hdiv, hb⟩)))
/-- Five resources as one. -/
theorem pl_5 {e0 e1 e2 e3 e4 : Me} {x0 x1 x2 x3 x4 : Mx} {T : TypeId} {f : Nat → Res} : ∀ c ob, (pool 5 (fillR (fillR (fillR (fillR (fillR f 0 (som e0.u flp x0.a T)) 1 (som e1.u flp x1.a T)) 2 (som e2.u flp x2.a T)) 3 (som e3.u flp x3.a T)) 4 (som e4.u flp x4.a T))).H c ob → (pool 5 (plE [e0, e1, e2, e3, e4] (eOf [x0, x1, x2, x3, x4]) T)).H c ob := pool_congr fun j hj => by
  match j, hj with
  | 0, _ => rfl
  | 1, _ => rfl
  | 2, _ => rfl
  | 3, _ => rfl
  | 4, _ => rfl
  | k + 5, h => exact absurd h (by omega)
theorem re_5 {x0 x1 x2 x3 x4 : Mx} {u0 u1 u2 u3 u4 : Value} : RE [⟨x0.r, x0.c, u0⟩, ⟨x1.r, x1.c, u1⟩, ⟨x2.r, x2.c, u2⟩, ⟨x3.r, x3.c, u3⟩, ⟨x4.r, x4.c, u4⟩] [x0, x1, x2, x3, x4] := ⟨rfl, fun j hj => by
  match j, hj with
  | 0, _ => exact ⟨rfl, rfl⟩
  | 1, _ => exact ⟨rfl, rfl⟩
  | 2, _ => exact ⟨rfl, rfl⟩
  | 3, _ => exact ⟨rfl, rfl⟩
  | 4, _ => exact ⟨rfl, rfl⟩
  | k + 5, h => exact absurd (show k + 5 < 5 from h) (by omega)⟩
/-! ## Two lists of one struct -/
def prS (v : Value) : Value := .tuple #[agN 3 v, agN 4 v]
def t0S (v : Value) : Value := match v with | .tuple vs => (match vs.toList with | a :: _ => a | [] => undef) | v => v
def t1S (v : Value) : Value := match v with | .tuple vs => (match vs.toList with | _ :: b :: _ => b | _ => undef) | v => v
theorem prS_of {l : List SP} {u w : Value} (h3 : nth l 3 = some (isv u)) (h4 : nth l 4 = some (isv w)) : ∀ v c, (aggp l).H v c → prS v = .tuple #[u, w] := fun v c h => by
  unfold prS
  rw [agN_of h3 v c h, agN_of h4 v c h]
theorem pl_3 {u0 u1 u2 : Value} {x0 x1 x2 : List Nat} {T : TypeId} {v : Nat} {f : Nat → Res} : ∀ c ob, (pool 3 (fillR (fillR (fillR f 0 (som u0 flp x0 T)) 1 (som u1 flp x1 T)) 2 (som u2 flp x2 T))).H c ob → (pool 3 (plW [u0, u1, u2] (wrL v (fun j => [x0, x1, x2].getD j []) 0) T)).H c ob := pool_congr fun j hj => by
  match j, hj with
  | 0, _ => rfl
  | 1, _ => rfl
  | 2, _ => rfl
  | k + 3, h => exact absurd h (by omega)
theorem sb_3 {Γ : Facts} {a b c : Value} : Sb Γ (slc 3 1 [isv a, isv b, isv c]) (slm isv [a, b, c]) := fun _ _ _ h => h
end Go.Bn
