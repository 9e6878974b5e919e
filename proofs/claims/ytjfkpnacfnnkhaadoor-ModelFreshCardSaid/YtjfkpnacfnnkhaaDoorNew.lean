/-
  What is new: values whose memory was not there at a time; contracts of functions that answer new memory; calls of them.
-/
import Derived.Test.YtjfkpnacfnnkhaaDoorSeg
set_option linter.unusedVariables false
set_option linter.unusedSimpArgs false
namespace Go.Bn
open Go
/-- As if all blocks below n could be written. -/
def nuw (n : Nat) (c : EW) : EW := ⟨c.w, fun b => c.M b ∨ b < n⟩
theorem nuw_le {n : Nat} {c c' : EW} (h : Le c c') : Le (nuw n c) (nuw n c') := ⟨h.os, h.tape, h.out, h.size, fun k hk hm => by
  have h1 := h.keep k hk fun e => hm (.inl e)
  exact ⟨h1.1, fun e => e.elim h1.2 fun e => hm (.inr e)⟩⟩
theorem nuw_old {n : Nat} {c : EW} : Le (nuw n c) c := ⟨rfl, rfl, rfl, Nat.le_refl _, fun k hk hm => ⟨rfl, fun e => hm (.inl e)⟩⟩
theorem nuw_two {n m : Nat} {c : EW} (h : n ≤ m) : Le (nuw m c) (nuw n c) := ⟨rfl, rfl, rfl, Nat.le_refl _, fun k hk hm => ⟨rfl, fun e => e.elim (fun e => hm (.inl e)) fun e => hm (.inr (Nat.lt_of_lt_of_le e h))⟩⟩
/-- p, all its memory from n on. -/
def newp (n : Nat) (p : SP) : SP := ⟨fun v c => p.H v (nuw n c), fun v c c' hle h => p.st _ _ _ (nuw_le hle) h⟩
theorem newp_old {n : Nat} {p : SP} {v : Value} {c : EW} (h : (newp n p).H v c) : p.H v c := p.st _ _ _ nuw_old h
theorem newp_two {n m : Nat} {p : SP} {v : Value} {c : EW} (hn : n ≤ m) (h : (newp m p).H v c) : (newp n p).H v c := p.st _ _ _ (nuw_two hn) h
theorem sb_new {Γ : Facts} {n : Nat} {p : SP} : Sb Γ (newp n p) p := fun _ _ _ h => newp_old h
theorem sb_newp {Γ : Facts} {n : Nat} {p q : SP} (h : Sb [] p q) : Sb Γ (newp n p) (newp n q) := fun v c _ hp => h v (nuw n c) (fun _ _ hm => by cases hm) hp
theorem sb_pure {Γ : Facts} {n : Nat} {p : SP} (h : p.Pure) : Sb Γ p (newp n p) := fun v c _ hp => h v c (nuw n c) hp
theorem hl_new {n : Nat} {c : EW} : ∀ {ps : List SP} {vs : List Value}, HL (ps.map (newp n)) vs c ↔ HL ps vs (nuw n c)
  | [], [] => Iff.rfl
  | p :: ps, v :: vs => ⟨fun h => ⟨h.1, hl_new.1 h.2⟩, fun h => ⟨h.1, hl_new.2 h.2⟩⟩
  | [], _ :: _ => Iff.rfl
  | _ :: _, [] => Iff.rfl
theorem sb_tupN {Γ : Facts} {n : Nat} {ps : List SP} : Sb Γ (tupp (ps.map (newp n))) (newp n (tupp ps)) := fun v c _ ⟨vs, h1, h2⟩ => ⟨vs, h1, hl_new.1 h2⟩
theorem sb_Ntup {Γ : Facts} {n : Nat} {ps : List SP} : Sb Γ (newp n (tupp ps)) (tupp (ps.map (newp n))) := fun v c _ ⟨vs, h1, h2⟩ => ⟨vs, h1, hl_new.2 h2⟩
theorem nth_mapN {α β : Type} {f : α → β} {l : List α} {i : Nat} : nth (l.map f) i = (nth l i).map f := by simp [nth_eq]
theorem sb_aggN {Γ : Facts} {n : Nat} {ps : List SP} : Sb Γ (aggp (ps.map (newp n))) (newp n (aggp ps)) := fun v c _ ⟨cs, h1, h2, h3⟩ => ⟨cs, h1, by rw [h2, List.length_map], fun i p hi => by
  obtain ⟨u, q1, q2, q3⟩ := h3 i (newp n p) (by rw [nth_mapN, hi]; rfl)
  exact ⟨u, q1, q2, q3⟩⟩
theorem sb_Nagg {Γ : Facts} {n : Nat} {ps : List SP} : Sb Γ (newp n (aggp ps)) (aggp (ps.map (newp n))) := fun v c _ ⟨cs, h1, h2, h3⟩ => ⟨cs, h1, by rw [h2, List.length_map], fun i p hi => by
  rw [nth_mapN] at hi
  cases hp : nth ps i with
  | none => rw [hp] at hi; cases hi
  | some q =>
    rw [hp] at hi
    cases hi
    obtain ⟨u, q1, q2, q3⟩ := h3 i q hp
    exact ⟨u, q1, q2, q3⟩⟩
theorem sb_Npure {Γ : Facts} {n : Nat} {p : SP} : Sb Γ (newp n p) p := sb_new
theorem sb_nilN {α : Type} {mk : α → SP} {Γ : Facts} {n : Nat} : Sb Γ (isv (.slice none 0 0)) (newp n (slm mk [])) := fun v c _ h => by
  rw [show v = .slice none 0 0 from h.1]; exact slm_nil
theorem co_newp {n : Nat} {p : SP} (h : CellsOf p [p]) : CellsOf (newp n p) [newp n p] := fun v c hv => by
  obtain ⟨h1, h2⟩ := h v (nuw n c) hv
  refine ⟨h1, fun i q hq => ?_⟩
  cases i with
  | zero => cases hq; exact h2 0 p rfl
  | succ i => simp [nth] at hq
theorem co_Nsl {α : Type} {mk : α → SP} {xs : List α} {n : Nat} : CellsOf (newp n (slm mk xs)) [newp n (slm mk xs)] := co_newp co_slm
/-! ## Shapes -/
/-- A matrix in new memory. -/
abbrev matN (n : Nat) (r c : Int) (xs : List Nat) : SP := aggp [isv (.int .i64 r), isv (.int .i64 c), newp n (fls xs)]
abbrev resMN (n : Nat) (x : MR) : SP := tupp [matN n x.r x.c x.a, isv (.int .i64 x.e)]
theorem push_mat {Γ : Facts} {n : Nat} {r c : Int} {xs : List Nat} : Sb Γ (matN n r c xs) (newp n (MatP r c xs)) := sb_trans (sb_agg (.cons (sb_pure (pure_isv _)) <| .cons (sb_pure (pure_isv _)) <| .cons sb_refl <| .nil)) (sb_aggN (ps := [_, _, _]))
theorem pull_mat {Γ : Facts} {n : Nat} {r c : Int} {xs : List Nat} : Sb Γ (newp n (MatP r c xs)) (matN n r c xs) := sb_trans (sb_Nagg (ps := [_, _, _])) (sb_agg (.cons sb_new <| .cons sb_new <| .cons sb_refl <| .nil))
theorem push_M {Γ : Facts} {n : Nat} {r c e : Int} {xs : List Nat} : Sb Γ (tupp [matN n r c xs, isv (.int .i64 e)]) (newp n (tupp [MatP r c xs, isv (.int .i64 e)])) := sb_trans (sb_tup (.cons push_mat <| .cons (sb_pure (pure_isv _)) <| .nil)) (sb_tupN (ps := [_, _]))
theorem pull_M {Γ : Facts} {n : Nat} {x : MR} : Sb Γ (newp n (resM x)) (resMN n x) := sb_trans (sb_Ntup (ps := [_, _])) (sb_tup (.cons pull_mat <| .cons sb_new <| .nil))
theorem push_V {Γ : Facts} {n : Nat} {e : Int} {xs : List Nat} : Sb Γ (tupp [newp n (fls xs), isv (.int .i64 e)]) (newp n (tupp [fls xs, isv (.int .i64 e)])) := sb_trans (sb_tup (.cons sb_refl <| .cons (sb_pure (pure_isv _)) <| .nil)) (sb_tupN (ps := [_, _]))
theorem pull_V {Γ : Facts} {n : Nat} {e : Int} {xs : List Nat} : Sb Γ (newp n (tupp [fls xs, isv (.int .i64 e)])) (tupp [newp n (fls xs), isv (.int .i64 e)]) := sb_trans (sb_Ntup (ps := [_, _])) (sb_tup (.cons sb_refl <| .cons sb_new <| .nil))
theorem push_H {Γ : Facts} {n x y : Nat} {e : Int} {xs : List Nat} : Sb Γ (tupp [newp n (fls xs), flp x, flp y, isv (.int .i64 e)]) (newp n (tupp [fls xs, flp x, flp y, isv (.int .i64 e)])) := sb_trans (sb_tup (.cons sb_refl <| .cons (sb_pure (pure_flp _)) <| .cons (sb_pure (pure_flp _)) <| .cons (sb_pure (pure_isv _)) <| .nil)) (sb_tupN (ps := [_, _, _, _]))
theorem pull_H {Γ : Facts} {n x y : Nat} {e : Int} {xs : List Nat} : Sb Γ (newp n (tupp [fls xs, flp x, flp y, isv (.int .i64 e)])) (tupp [newp n (fls xs), flp x, flp y, isv (.int .i64 e)]) := sb_trans (sb_Ntup (ps := [_, _, _, _])) (sb_tup (.cons sb_refl <| .cons sb_new <| .cons sb_new <| .cons sb_new <| .nil))
theorem push_Q {Γ : Facts} {n : Nat} {r c r' c' e : Int} {xs ys : List Nat} : Sb Γ (tupp [matN n r c xs, matN n r' c' ys, isv (.int .i64 e)]) (newp n (tupp [MatP r c xs, MatP r' c' ys, isv (.int .i64 e)])) := sb_trans (sb_tup (.cons push_mat <| .cons push_mat <| .cons (sb_pure (pure_isv _)) <| .nil)) (sb_tupN (ps := [_, _, _]))
theorem pull_Q {Γ : Facts} {n : Nat} {r c r' c' e : Int} {xs ys : List Nat} : Sb Γ (newp n (tupp [MatP r c xs, MatP r' c' ys, isv (.int .i64 e)])) (tupp [matN n r c xs, matN n r' c' ys, isv (.int .i64 e)]) := sb_trans (sb_Ntup (ps := [_, _, _])) (sb_tup (.cons pull_mat <| .cons pull_mat <| .cons sb_new <| .nil))
/-! ## Resources all of whose cells are new -/
def NPure (n : Nat) (r : Res) : Prop := ∀ c ob, r.H c ob → r.H (nuw n c) ob
theorem Res.Pure.n {r : Res} (h : r.Pure) {n : Nat} : NPure n r := fun c ob hr => h c (nuw n c) ob rfl hr
def NP (n : Nat) (p : SP) : Prop := ∀ v c, p.H v c → p.H v (nuw n c)
theorem np_pure {n : Nat} {p : SP} (h : p.Pure) : NP n p := fun v c hp => h v c _ hp
theorem np_new {n : Nat} {p : SP} : NP n (newp n p) := fun v c hp => p.st _ _ _ (show Le (nuw n c) (nuw n (nuw n c)) from ⟨rfl, rfl, rfl, Nat.le_refl _, fun k hk hm => ⟨rfl, fun e => e.elim hm fun e => hm (.inr e)⟩⟩) hp
theorem npure_osl {n : Nat} {sv : Value} {m k : Nat} {cells : List SP} {T : TypeId} (hc : ∀ i p, nth cells i = some p → NP n p) : NPure n (osl sv m k cells T) := by
  rintro c ob ⟨h0, h⟩
  refine ⟨h0, ?_⟩
  rcases h with h | ⟨b, cap, cur, h1, h2, h3, h4, h5, h6, h7⟩
  · exact .inl h
  · refine .inr ⟨b, cap, cur, h1, h2, h3, h4, h5, h6, fun j p hj => ?_⟩
    obtain ⟨w, q1, q2, q3⟩ := h7 j p hj
    exact ⟨w, q1, q2, hc j p hj _ _ q3⟩
/-- A matrix. -/
structure Mx where
  r : Int
  c : Int
  a : List Nat
/-- Three cells a matrix, its numbers in new memory. -/
def mtN (n : Nat) (m : Mx) : List SP := [isv (.int .i64 m.r), isv (.int .i64 m.c), newp n (fls m.a)]
theorem mtN_len {n : Nat} : ∀ m, (mtN n m).length = 3 := fun _ => rfl
theorem np_mtN {n : Nat} {m : Mx} : ∀ p, p ∈ mtN n m → NP n p := fun p hp => by
  rcases List.mem_cons.1 hp with h | hp
  · rw [h]; exact np_pure (pure_isv _)
  · rcases List.mem_cons.1 hp with h | hp
    · rw [h]; exact np_pure (pure_isv _)
    · rcases List.mem_cons.1 hp with h | hp
      · rw [h]; exact np_new
      · cases hp
theorem npure_mts {n : Nat} {sv : Value} {ms : List Mx} {T : TypeId} : NPure n (somk sv 3 (mtN n) ms T) := npure_osl fun i p hi => by
  rw [nth_eq] at hi
  obtain ⟨m, _, hm⟩ := List.mem_flatMap.1 (List.mem_of_getElem? hi)
  exact np_mtN p hm
def mtM (m : Mx) : List SP := [isv (.int .i64 m.r), isv (.int .i64 m.c), fls m.a]
theorem mtM_len : ∀ m, (mtM m).length = 3 := fun _ => rfl
def mxD : Mx := ⟨0, 0, []⟩
theorem SbL.app {Γ : Facts} {ps qs ps' qs' : List SP} (h : SbL Γ ps qs) (h' : SbL Γ ps' qs') : SbL Γ (ps ++ ps') (qs ++ qs') := by
  induction h with
  | nil => exact h'
  | cons a t ih => exact .cons a ih
theorem SbL.len {Γ : Facts} {ps qs : List SP} (h : SbL Γ ps qs) : ps.length = qs.length := by
  induction h with
  | nil => rfl
  | cons a t ih => rw [List.length_cons, List.length_cons, ih]
theorem SbL.at {Γ : Facts} {ps qs : List SP} (h : SbL Γ ps qs) : ∀ {i q}, Go.Bn.nth qs i = some q → ∃ p, Go.Bn.nth ps i = some p ∧ Sb Γ p q := by
  induction h with
  | nil => intro i q hi; simp [Go.Bn.nth] at hi
  | @cons p q ps qs a t ih =>
    intro i q' hi
    cases i with
    | zero => cases hi; exact ⟨p, rfl, a⟩
    | succ i => exact ih hi
theorem sb_slcL {ps qs : List SP} (h : SbL [] ps qs) {n k : Nat} {Γ : Facts} : Sb Γ (slc n k ps) (slc n k qs) := fun v c _ ⟨h0, h1⟩ => by
  refine ⟨h.len ▸ h0, ?_⟩
  rcases h1 with h1 | ⟨ad, cap, a1, a2, a3, a4⟩
  · exact .inl h1
  · refine .inr ⟨ad, cap, a1, a2, a3, ?_⟩
    rcases a4 with a4 | ⟨b, off, b1, b2, cur, T, fz, b3, b4⟩
    · exact .inl a4
    · refine .inr ⟨b, off, b1, b2, cur, T, fz, b3, fun i q hq => ?_⟩
      obtain ⟨p, hp, hs⟩ := h.at hq
      obtain ⟨u, u1, u2, u3⟩ := b4 i p hp
      exact ⟨u, u1, u2, hs _ _ (fun _ _ hm => by cases hm) u3⟩
theorem mts_l {n : Nat} : ∀ ms : List Mx, SbL [] (ms.flatMap (mtN n)) (ms.flatMap mtM)
  | [] => .nil
  | m :: ms => by
    rw [List.flatMap_cons, List.flatMap_cons]
    exact SbL.app (.cons sb_refl <| .cons sb_refl <| .cons sb_new .nil) (mts_l ms)
theorem sb_mts {n : Nat} {ms : List Mx} {Γ : Facts} : Sb Γ (slk 3 (mtN n) ms) (slk 3 mtM ms) := sb_slcL (mts_l ms)
/-! ## Time -/
def szV : Value := .bool false
def szp (n : Nat) : SP := ⟨fun _ c => n ≤ c.w.heap.size, fun _ _ _ hle h => Nat.le_trans h hle.size⟩
section to
variable {X : Cx} {Γ : Facts} {ρ : Env} {σ : List Res}
theorem To.size : To X Γ ρ σ ((szV, szp X.c0.w.heap.size) :: Γ) ρ σ := fun a c hs => by
  refine ⟨c, rfl, hs.size, hs.defers, fun v p hm => ?_, hs.env, hs.own⟩
  rcases List.mem_cons.1 hm with he | hm
  · cases he
    obtain ⟨obs, hown, _⟩ := hs.own
    exact hown.size
  · exact hs.facts v p hm
theorem To.freezeN (k : Nat) {r : Res} {v : Value} {p : SP} (hE : ∀ b, ¬ X.E b) (hr : nth σ k = some r) (hf : Freezes r v p) (hp : NPure X.c0.w.heap.size r) {σ' : List Res} (hσ' : setNth σ k Go.Bn.emp = σ') : To X Γ ρ σ ((v, newp X.c0.w.heap.size p) :: Γ) ρ σ' := by
  subst hσ'
  intro a c hs
  obtain ⟨obs, hown, hres⟩ := hs.own
  let c' : EW := ⟨c.w, fun b => c.M b ∧ ¬ obs k b⟩
  have hle : Le c c' := ⟨rfl, rfl, rfl, Nat.le_refl _, fun j _ hm => ⟨rfl, fun h => hm h.1⟩⟩
  refine ⟨c', rfl, hs.size, hs.defers, ?_, fun t q hq => q.st _ _ _ hle (hs.env t q hq), fun j => if j = k then nob else obs j, ?_, ?_⟩
  · intro v' p' hm
    rcases List.mem_cons.1 hm with he | hm
    · cases he
      exact hf (nuw _ c) (nuw _ c') (obs k) (hp c _ (hres k r hr)) (nuw_le hle) fun b hb => ⟨rfl, fun h => h.elim (fun h => h.2 hb) fun h => Nat.not_lt.2 ((hown.has k b hb).2.resolve_right (hE b)) h⟩
    · exact p'.st _ _ _ hle (hs.facts v' p' hm)
  · refine ⟨hown.os, hown.tape, hown.out, hown.size, hown.heap, fun j hj => ?_, fun j hj => hown.wf j hj.1, fun j b hb => ?_, fun i j b hi hj => ?_, hown.wf0⟩
    · refine ⟨fun h => (hown.mem j hj).1 h.1, fun h => ⟨(hown.mem j hj).2 h, fun e => ?_⟩⟩
      rcases (hown.has k j e).2 with h' | h'
      · omega
      · exact hE j h'
    · by_cases hjk : j = k
      · simp only [if_pos hjk] at hb; cases hb
      · simp only [if_neg hjk] at hb
        exact ⟨⟨(hown.has j b hb).1, fun e => hjk (hown.one j k b hb e)⟩, (hown.has j b hb).2⟩
    · by_cases hik : i = k
      · simp only [if_pos hik] at hi; cases hi
      · by_cases hjk : j = k
        · simp only [if_pos hjk] at hj; cases hj
        · simp only [if_neg hik] at hi
          simp only [if_neg hjk] at hj
          exact hown.one i j b hi hj
  · intro j r' hj
    rw [nth_setNth] at hj
    by_cases hjk : j = k
    · rw [if_pos hjk] at hj
      simp only [if_pos hjk]
      cases hn : nth σ j with
      | none => rw [hn] at hj; cases hj
      | some x => rw [hn] at hj; cases hj; rfl
    · rw [if_neg hjk] at hj
      simp only [if_neg hjk]
      exact r'.fr _ _ _ hle (fun _ _ => rfl) (hres j r' hj)
end to
/-! ## Contracts of functions that answer new memory -/
def CtN (P : Program) (f : Nat) (ps : List SP) (R : SP) : Prop :=
  Has P f ∧ ∀ (vs : List Value) (c : EW), (∀ k, c.M k → k < c.w.heap.size) → HL ps vs c → Calls P f vs.toArray c.w (fun e w' => ∃ v, e = .returned v ∧ Xt c w' ∧ (newp c.w.heap.size R).H v ⟨w', c.M⟩)
theorem CtN.of {P : Program} {f : Nat} {fn : Func} {k : Code} {ps : List SP} {R : SP} (hf : P.funcs[f]? = some fn) (hb : fn.body = some k) (hn : (fn.name == "runtime.NumGoroutine") = false) (hl : Nat.ble ps.length fn.ntmps = true)
    (h : ∀ c0 : EW, J ⟨P, fn.ntmps, c0, fun _ => False⟩ [] (argEnv 0 ps) [] k (bodyPost P fn (RetP c0 (newp c0.w.heap.size R)))) : CtN P f ps R := by
  refine ⟨⟨fn, hf, hn, by rw [hb]; rfl⟩, fun vs c hwf hv => ?_⟩
  have hl' : ps.length ≤ fn.ntmps := Nat.le_of_ble_eq_true hl
  have hlen := hv.len
  refine calls_of_wp hf hb (h c _ c ⟨?_, rfl, fun v p hm => (by cases hm), fun t p hp => ?_, fun _ => nob, ?_, fun k r hr => (by simp [nth] at hr)⟩)
  · simp; omega
  · obtain ⟨_, hp'⟩ := argEnv_get hp
    rw [Nat.sub_zero] at hp'
    obtain ⟨v, h1, h2⟩ := hv.nth t p hp'
    have ht := (List.getElem?_eq_some_iff.1 h1).1
    have : vl { tmps := vs.toArray ++ Array.replicate (fn.ntmps - vs.toArray.size) undef, defers := [] } t = v := by
      unfold vl
      simp only [Array.getD_eq_getD_getElem?]
      rw [Array.getElem?_append_left (by simpa using ht)]
      simp [h1]
    rw [this]
    exact h2
  · exact ⟨rfl, rfl, rfl, Nat.le_refl _, fun _ _ _ => rfl, fun _ _ => Iff.rfl, hwf, fun k b hb => (by cases hb), fun _ _ _ h => (by cases h), hwf⟩
theorem CtN.ct {P : Program} {f : Nat} {ps : List SP} {R : SP} (h : CtN P f ps R) : Ct P f ps R := ⟨h.1, fun vs c hwf hv => (h.2 vs c hwf hv).mono fun e w' ⟨v, he, hx, hR⟩ => ⟨v, he, hx, newp_old hR⟩⟩
theorem CtN.res {P : Program} {f : Nat} {ps : List SP} {R R' : SP} (h : CtN P f ps R) (hr : Sb [] R R') : CtN P f ps R' := ⟨h.1, fun vs c hwf hv => (h.2 vs c hwf hv).mono fun e w' ⟨v, he, hx, hR⟩ => ⟨v, he, hx, sb_newp (Γ := []) hr _ _ (fun _ _ hm => by cases hm) hR⟩⟩
/-- Memory that is answered for writing is new. -/
theorem CtF.ctN {P : Program} {f : Nat} {ps : List SP} {pr : Value → Value} {R : Value → SP} {r : Value → Res} {p : Value → SP} {R' : SP} (h : CtF P f ps pr R r) (hfz : ∀ u, Freezes (r u) u (p u)) (hp : ∀ n u, NPure n (r u)) (hq : ∀ n u, NP n (R u)) (hR : ∀ u, Sb [(u, p u)] (R u) R') : CtN P f ps R' :=
  ⟨h.1, fun vs c hwf hv => (h.2 vs c hwf hv).mono fun e w' ⟨v, ob, he, hx, hlt, h1, h2⟩ => by
    have hle : Le (nuw c.w.heap.size ⟨w', fun k => c.M k ∨ ob k⟩) (nuw c.w.heap.size ⟨w', c.M⟩) := nuw_le ⟨rfl, rfl, rfl, Nat.le_refl _, fun k hk hm => ⟨rfl, fun h0 => hm (.inl h0)⟩⟩
    have hf := hfz _ _ _ _ (hp c.w.heap.size _ _ _ h2) hle fun b hb => ⟨rfl, fun hm => hm.elim (fun hm => by have := hwf b hm; have := (hlt b hb).1; omega) fun hm => by have := (hlt b hb).1; exact Nat.not_lt.2 this hm⟩
    refine ⟨v, he, hx, hR (pr v) v _ (fun u q hm => ?_) ((R (pr v)).st _ _ _ hle (hq _ _ _ _ h1))⟩
    simp only [List.mem_singleton, Prod.mk.injEq] at hm
    rw [hm.1, hm.2]; exact hf⟩
section ops
variable {P : Program} {n : Nat} {ops : Array Oper} {Γ : Facts} {ρ : Env} {δ : VEnv} {τ : List VR}
variable {d : Nat} {ty : TypeId} {pos : String} {af : Array Edge}
/-- A literal slice, owned. -/
theorem op_buildSliceO (k : Nat) {T E es eb len : Nat} {parts : List (Nat × Operand)} {zs : List Value} {out : List SP} (ht : slT P T = some (E, es, eb)) (hz : zrT P E = some zs) (hz1 : zs.all (·.oneCell') = true) (hzl : Nat.beq zs.length es = true) (hes : Nat.blt 0 es = true) (hlim : Nat.ble (len * es) 16777216 = true)
    (hk : nth τ k = some (.c emp)) (hb : BuildL Γ δ ρ (fun i => some (i * es, es)) parts (List.replicate len (zs.map isv)).flatten out) :
    OpOK P n ops Γ ρ δ τ ⟨some d, .buildSlice T len parts.toArray, ty, pos, af, none⟩ (.wr k) (slAt d) (oslAt d len es out E) := by
  have hzl' : zs.length = es := Nat.eq_of_beq_eq_true hzl
  have hes' := blt_lt hes
  have hlim' : len * es ≤ 16777216 := Nat.le_of_ble_eq_true hlim
  have hlen0 : ((List.replicate len (zs.map isv)).flatten).length = len * es := by simp [hzl']
  have hlo : out.length = len * es := by
    have : ∀ {parts : List (Nat × Operand)} {cs out : List SP}, BuildL Γ δ ρ (fun i => some (i * es, es)) parts cs out → out.length = cs.length := by
      intro parts cs out h
      induction h with
      | nil => rfl
      | cons h1 h2 h3 h4 h5 hr ih => rw [ih, h5.1]
    rw [this hb, hlen0]
  refine ok_new (T := E) k hk hlo fun a c _ hr => ?_
  obtain ⟨hu, i, hi, hsz, _⟩ := slT_u ht
  unfold zrT at hz
  rw [hi] at hz
  simp only [Option.bind_some] at hz
  cases hzz : i.zero with
  | none => rw [hzz] at hz; cases hz
  | some z =>
    rw [hzz] at hz
    simp only [Option.map_some, Option.some.injEq] at hz
    have hza : z.cells = zs.toArray := by rw [← hz]
    have hzsz : z.cells.size = es := by rw [hza]; simpa using hzl'
    have hcl : CL (List.replicate len (zs.map isv)).flatten (madeCells z.cells (len * es)) 0 c := fun j p hj => by
      have hjl := nth_lt hj
      rw [hlen0] at hjl
      have hmod : j % es < es := Nat.mod_lt _ hes'
      have hp : nth (List.replicate len (zs.map isv)).flatten j = (nth zs (j % es)).map isv := by
        rw [nth_eq, nth_eq]
        have key : ∀ (m : Nat) (j : Nat), j < m * es → ((List.replicate m (zs.map isv)).flatten)[j]? = (zs[j % es]?).map isv := by
          intro m
          induction m with
          | zero => intro j hj; omega
          | succ m ih =>
            intro j hj
            rw [List.replicate_succ, List.flatten_cons]
            by_cases hjs : j < es
            · rw [List.getElem?_append_left (by simp [hzl']; exact hjs), List.getElem?_map, Nat.mod_eq_of_lt hjs]
            · rw [List.getElem?_append_right (by simp [hzl']; omega)]
              simp only [List.length_map, hzl']
              rw [ih (j - es) (by rw [Nat.succ_mul] at hj; omega), ← Nat.mod_eq_sub_mod (by omega)]
        exact key len j hjl
      rw [hp] at hj
      cases hzv : nth zs (j % es) with
      | none => rw [hzv] at hj; cases hj
      | some zv =>
        rw [hzv] at hj
        cases hj
        have hone : zv.oneCell' = true := (List.all_eq_true.1 hz1) zv (by rw [nth_eq] at hzv; exact List.mem_of_getElem? hzv)
        refine ⟨zv, ?_, hone, rfl, hone⟩
        rw [Nat.zero_add]
        simp only [madeCells, Array.getElem?_map, hzsz]
        rw [Array.getElem?_eq_getElem (by simpa using hjl)]
        simp only [Array.getElem_range, Option.map_some, Option.some.injEq]
        rw [nth_eq] at hzv
        rw [getElem!_def, hza]
        simp [hzv]
    obtain ⟨cells', q1, q2, q3⟩ := hb.run (a := a) (c := c) (fun x p hx hp' => hr x p (by simpa [Op.operands] using hx) hp') (madeCells z.cells (len * es)) (by rw [size_madeCells, hlen0]) hcl
    refine ⟨len, cells', ?_, Nat.le_refl _, ?_, q2.trans hlo, q3⟩
    · have h24 : ¬ (16777216 < len * es) := by omega
      by_cases hl0 : len * es = 0
      · have hempty : madeCells z.cells (len * es) = #[] := by rw [hl0]; simp [madeCells]
        rw [hempty] at q1
        simp [execOp, Instr.buildSlice, run_underlying hu, sizeOf, typeInfo, hi, hsz, hl0, newRow, Array.range_zero', q1]
      · unfold madeCells at q1
        simp [execOp, Instr.buildSlice, run_underlying hu, sizeOf, typeInfo, hi, hsz, hl0, h24, zeroValue, hzz, newRow, q1]
    · have h1 : len ≤ len * es := Nat.le_mul_of_pos_right _ hes'
      simp only [maxLen]; omega
/-- Several of k cells each are appended. -/
theorem op_append_kn {α : Type} {mk : α → List SP} {xs : List α} (vs : List α) {x y : Operand} {T E es eb : Nat} (k : Nat) {sv : Value} {zs : List Value} (ht : slT P T = some (E, es, eb)) (hz : zrT P E = some zs) (hzl : Nat.beq zs.length es = true) (hes : Nat.blt 0 es = true) (hx : Lk Γ δ ρ x (isv sv)) (hy : Lk Γ δ ρ y (slc vs.length es (vs.flatMap mk)))
    (hk : nth τ k = some (.c (somk sv es mk xs E))) (h63 : xs.length + vs.length ≤ 9223372036854775807) (hb : (xs.length + vs.length) * eb ≤ 140737488355328) :
    OpOK P n ops Γ ρ δ τ ⟨some d, .call ⟨.builtin .append, #[x, y], #[T, T]⟩, ty, pos, af, none⟩ (.wr k) (slAt d) (.d [d] (fun f => somk (f d) es mk (xs ++ vs) E) (fun f g h => by rw [h d (List.mem_singleton.2 rfl)])) := by
  have h := op_append (n := n) (ops := ops) (d := d) (ty := ty) (pos := pos) (af := af) k ht hz hzl hes hx hy hk rfl h63 hb (all := (xs ++ vs).flatMap mk) (by simp)
  intro a c ob g1 g2 g3 g4 g5 g6 g7
  have := h a c ob g1 g2 g3 g4 g5 g6 g7
  have e : xs.length + vs.length = (xs ++ vs).length := by simp
  simp only [oslAt, VR.at] at this
  simp only [VR.at, somk]
  rw [← e]
  exact this
/-- A call that answers new memory: new since the beginning, too. -/
theorem op_callN {f : Nat} {xs : List Operand} {ps : List SP} {R R' : SP} {m : Nat} {ats : Array TypeId} (z : Nat) (hz : nth Γ z = some (szV, szp m)) (hf : CtN P f ps R) (hR : Sb [] (newp m R) R') (hx : LkL Γ δ ρ xs ps) :
    OpOK P n ops Γ ρ δ τ ⟨some d, .call ⟨.value (.func f), xs.toArray, ats⟩, ty, pos, af, none⟩ .no (.c R') dum := by
  intro a c ob hs hwf hfa hr hres hno hown
  have hob := hno rfl
  subst hob
  have hsz : m ≤ c.w.heap.size := hfa _ _ (nth_mem hz)
  have hv := hx.val (a := a) (c := c) fun x q hx' hq => Lk.val (o := ⟨some d, .call ⟨.value (.func f), xs.toArray, ats⟩, ty, pos, af, none⟩) hr hfa (by simp [Op.operands, Call.operands, hx']) hq
  simp only [Region.wanted, if_true]
  unfold Does
  have hex : (execOp a.eval ⟨some d, .call ⟨.value (.func f), xs.toArray, ats⟩, ty, pos, af, none⟩).run P c.w = .ok (.enter f (xs.map a.eval).toArray) c.w := by
    have h1 := run_callFunc hf.1 (xs.map a.eval).toArray c.w
    simp [execOp, resolve, Deferred.ofValue, Act.eval, invoke, h1]
  rw [hex]
  refine (hf.2 _ c hwf hv).mono fun e w' ⟨v, he, hxt, hR'⟩ => ⟨v, he, ⟨w', c.M⟩, nob, rfl, hxt.tr hwf nob, hR _ _ (fun _ _ hm => by cases hm) (newp_two hsz hR'), fun h => (by cases h)⟩
/-- A call of what is new: what is answered is new, too. -/
theorem op_callT {f : Nat} {xs : List Operand} {ps : List SP} {R R' : SP} {m : Nat} {ats : Array TypeId} (z : Nat) (hz : nth Γ z = some (szV, szp m)) (hf : Ct P f ps R) (hR : Sb [] (newp m R) R') (hx : LkL Γ δ ρ xs (ps.map (newp m))) :
    OpOK P n ops Γ ρ δ τ ⟨some d, .call ⟨.value (.func f), xs.toArray, ats⟩, ty, pos, af, none⟩ .no (.c R') dum := by
  intro a c ob hs hwf hfa hr hres hno hown
  have hob := hno rfl
  subst hob
  have hsz : m ≤ c.w.heap.size := hfa _ _ (nth_mem hz)
  have hv := hx.val (a := a) (c := c) fun x q hx' hq => Lk.val (o := ⟨some d, .call ⟨.value (.func f), xs.toArray, ats⟩, ty, pos, af, none⟩) hr hfa (by simp [Op.operands, Call.operands, hx']) hq
  simp only [Region.wanted, if_true]
  unfold Does
  have hex : (execOp a.eval ⟨some d, .call ⟨.value (.func f), xs.toArray, ats⟩, ty, pos, af, none⟩).run P c.w = .ok (.enter f (xs.map a.eval).toArray) c.w := by
    have h1 := run_callFunc hf.1 (xs.map a.eval).toArray c.w
    simp [execOp, resolve, Deferred.ofValue, Act.eval, invoke, h1]
  rw [hex]
  have hwf' : ∀ k, (nuw m c).M k → k < (nuw m c).w.heap.size := fun k hk => hk.elim (hwf k) fun h => Nat.lt_of_lt_of_le h hsz
  refine (hf.2 _ (nuw m c) hwf' (hl_new.1 hv)).mono fun e w' ⟨v, he, hxt, hR'⟩ => ⟨v, he, ⟨w', c.M⟩, nob, rfl, ?_, hR _ _ (fun _ _ hm => by cases hm) hR', fun h => (by cases h)⟩
  exact (show Xt c w' from ⟨hxt.os, hxt.tape, hxt.out, hxt.size, hxt.heap⟩).tr hwf nob
/-- A call that reads what its caller owns, and answers new memory. -/
theorem op_callLN {f : Nat} {xs : List Operand} {ps : List SP} {R : SP} {r : Res} {ats : Array TypeId} (k : Nat) (hf : CtN P f ps R) (hx : LkN Γ δ ρ r xs ps) (hk : nth τ k = some (.c r)) :
    OpOK P n ops Γ ρ δ τ ⟨some d, .call ⟨.value (.func f), xs.toArray, ats⟩, ty, pos, af, none⟩ (.rd k) (.c R) dum := by
  intro a c ob hs hwf hfa hrr hres hno hown
  obtain ⟨r0, hr0, hh⟩ := hres k rfl
  rw [hk] at hr0
  cases hr0
  have hh' : r.H c ob := hh
  let c1 : EW := ⟨c.w, fun b => c.M b ∧ ¬ ob b⟩
  have hle : Le c c1 := ⟨rfl, rfl, rfl, Nat.le_refl _, fun j _ hm => ⟨rfl, fun h => hm h.1⟩⟩
  have harg := hx.val (a := a) (c := c) (c1 := c1) hh' hle (fun b hb => ⟨rfl, fun h => h.2 hb⟩) fun x q hx' hq => Lk.val (o := ⟨some d, .call ⟨.value (.func f), xs.toArray, ats⟩, ty, pos, af, none⟩) hrr hfa (by simp [Op.operands, Call.operands, hx']) hq
  simp only [Region.wanted, if_true]
  unfold Does
  have hex : (execOp a.eval ⟨some d, .call ⟨.value (.func f), xs.toArray, ats⟩, ty, pos, af, none⟩).run P c.w = .ok (.enter f (xs.map a.eval).toArray) c.w := by
    have h1 := run_callFunc hf.1 (xs.map a.eval).toArray c.w
    simp [execOp, resolve, Deferred.ofValue, Act.eval, invoke, h1]
  rw [hex]
  refine (hf.2 _ c1 (fun j hj => hwf j hj.1) harg).mono fun e w' ⟨v, he, hxt, hR'⟩ => ⟨v, he, ⟨w', c.M⟩, ob, rfl, ?_, R.st _ _ _ ?_ hR', fun h => (by cases h)⟩
  · exact ⟨hxt.os, hxt.tape, hxt.out, hxt.size, fun j hj _ => hxt.heap j hj, fun _ _ => Iff.rfl, .inl rfl, fun j hj => Nat.lt_of_lt_of_le (hwf j hj) hxt.size⟩
  · exact ⟨rfl, rfl, rfl, Nat.le_refl _, fun j hj hm => ⟨rfl, fun h => hm (.inr (hwf j h))⟩⟩
end ops
end Go.Bn
