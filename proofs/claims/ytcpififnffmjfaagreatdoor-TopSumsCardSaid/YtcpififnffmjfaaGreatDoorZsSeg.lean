/-
 Regions of one order cut in two; calls that only read what their caller owns.
-/
import Derived.Test.YtcpififnffmjfaaGreatDoorZsPool
set_option linter.unusedVariables false
set_option linter.unusedSimpArgs false
namespace Go.Bn
open Go
theorem upon_then {P : Program} {o : Oper} {a : Act} {next K : Act → World → Prop} {Q : Exit → Act → World → Prop} {r : Result Go.Next} (h : o.upon P a next (Exit.then K Q) r) : o.upon P a next Q r := by
 cases r with
 | ok n w =>
  cases n <;> first
   | exact h
   | exact Calls.mono h fun e w'' he => by cases e <;> exact he
 | halt x w => cases x <;> exact h
theorem wanted_none {o : Oper} (h : o.guard = none) (y : Nat → Option Bool) : Region.wanted o y = true := by
 unfold Region.wanted; rw [h]
theorem wanted_congr {o : Oper} {y z : Nat → Option Bool} (h : ∀ j b, o.guard = some (j, b) → y j = z j) : Region.wanted o y = Region.wanted o z := by
 unfold Region.wanted
 cases hg : o.guard with
 | none => rfl
 | some g => obtain ⟨j, b⟩ := g; simp only; rw [h j b hg]
theorem wpOps_shift {P : Program} {l1 l2 : List Oper} {Q : Exit → Act → World → Prop} (hg2 : ∀ o, o ∈ l2 → o.guard = none) :
  ∀ (m i : Nat), i + m = l2.length → ∀ a w, wpOps P l2.toArray Q (List.range' i m) a w → wpOps P (l1 ++ l2).toArray Q (List.range' (l1.length + i) m) a w
 | 0, i, him, a, w, h => h
 | m + 1, i, him, a, w, h => by
  rw [List.range'_succ] at h ⊢
  have hi : i < l2.length := by omega
  have e1 : l2.toArray[i]? = some l2[i] := by simp [hi]
  have e2 : (l1 ++ l2).toArray[l1.length + i]? = some l2[i] := by simp [hi]
  have hgn := hg2 l2[i] (List.getElem_mem hi)
  simp only [wpOps, e1, e2, wanted_none hgn, if_true] at h ⊢
  refine h.imp (fun h => Oper.wp_mono (fun a' w' h' => ?_) h) id
  exact wpOps_shift hg2 m (i + 1) (by omega) a' w' h'
theorem wpOps_app {P : Program} {l1 l2 : List Oper} {Q : Exit → Act → World → Prop} (hg1 : ∀ o, o ∈ l1 → ∀ j b, o.guard = some (j, b) → j < l1.length) (hg2 : ∀ o, o ∈ l2 → o.guard = none) :
  ∀ (m i : Nat), i + m = l1.length → ∀ a w, wpOps P l1.toArray (Exit.then (fun a w => wpOps P l2.toArray Q (List.range l2.length) a w) Q) (List.range' i m) a w → wpOps P (l1 ++ l2).toArray Q (List.range' i (m + l2.length)) a w
 | 0, i, him, a, w, h => by
  have h' : wpOps P l2.toArray Q (List.range l2.length) a w := h
  rw [List.range_eq_range'] at h'
  have := wpOps_shift (l1 := l1) hg2 l2.length 0 (by omega) a w h'
  rw [Nat.zero_add, show i = l1.length by omega]
  exact this
 | m + 1, i, him, a, w, h => by
  rw [show m + 1 + l2.length = (m + l2.length) + 1 by omega]
  rw [List.range'_succ] at h ⊢
  have hi : i < l1.length := by omega
  have e1 : l1.toArray[i]? = some l1[i] := by simp [hi]
  have e2 : (l1 ++ l2).toArray[i]? = some l1[i] := by simp [hi, List.getElem?_append_left]
  have hw : Region.wanted l1[i] (yielded (l1 ++ l2).toArray a.tmps) = Region.wanted l1[i] (yielded l1.toArray a.tmps) := wanted_congr fun j b hj => by
   have hjl := hg1 _ (List.getElem_mem hi) j b hj
   unfold yielded
   have : (l1 ++ l2).toArray[j]? = l1.toArray[j]? := by simp [List.getElem?_append_left hjl]
   rw [this]
  simp only [wpOps, e1, e2, hw] at h ⊢
  split at h
  ·rename_i hw'
   rw [if_pos hw']
   refine h.imp (fun h => ?_) (fun h => ?_)
   ·exact Oper.wp_mono (fun a' w' h' => wpOps_app hg1 hg2 m (i + 1) (by omega) a' w' h') (upon_then h)
   ·exact ⟨h.1, h.2⟩
  ·rename_i hw'
   rw [if_neg hw']
   exact wpOps_app hg1 hg2 m (i + 1) (by omega) _ w h
def JO (X : Cx) (Γ : Facts) (ρ : Env) (σ : List Res) (l : List Oper) (Q : Exit → Act → World → Prop) : Prop := ∀ a c, St X Γ ρ σ a c → wpOps X.P l.toArray Q (List.range l.length) a c.w
section seg
variable {X : Cx} {Γ : Facts} {ρ : Env} {σ : List Res} {Q : Exit → Act → World → Prop}
theorem J_JO {id : Nat} {l : List Oper} (h : JO X Γ ρ σ l Q) : J X Γ ρ σ (.region id l.toArray false) Q := fun a c hs => wp_region (by have := h a c hs; simpa using this)
def splitOK (k : Nat) (l : List Oper) : Bool := Nat.ble k l.length && (l.take k).all (fun o => match o.guard with | none => true | some (j, _) => Nat.blt j k) && (l.drop k).all (fun o => o.guard.isNone)
theorem JO_split {l : List Oper} (k : Nat) (hk : splitOK k l = true) (h : JO X Γ ρ σ (l.take k) (Exit.then (fun a w => wpOps X.P (l.drop k).toArray Q (List.range (l.drop k).length) a w) Q)) : JO X Γ ρ σ l Q := fun a c hs => by
 unfold splitOK at hk
 simp only [Bool.and_eq_true] at hk
 obtain ⟨⟨h0, h1⟩, h2⟩ := hk
 have h0 := Nat.le_of_ble_eq_true h0
 have hlen : (l.take k).length = k := by rw [List.length_take]; omega
 have g1 : ∀ o, o ∈ l.take k → ∀ j b, o.guard = some (j, b) → j < (l.take k).length := fun o ho j b hg => by
  have := List.all_eq_true.1 h1 o ho
  rw [hg] at this
  rw [hlen]
  exact blt_lt this
 have g2 : ∀ o, o ∈ l.drop k → o.guard = none := fun o ho => by simpa using List.all_eq_true.1 h2 o ho
 have h3 := h a c hs
 rw [List.range_eq_range' (n := (l.take k).length)] at h3
 have h4 := wpOps_app g1 g2 (l.take k).length 0 (by omega) a c.w h3
 rw [List.take_append_drop] at h4
 rw [List.range_eq_range']
 have e : (l.take k).length + (l.drop k).length = l.length := by rw [List.length_take, List.length_drop]; omega
 rw [e] at h4
 exact h4
theorem JO_reg {l : List Oper} {is : List Info} {δ : VEnv} {τ : List VR}
  (hs : Steps X.P X.n l.toArray Γ ρ [] (liftR σ) l is δ τ) (hc : regOK false X.n l is σ.length [] = true)
  (h : ∀ g, Next X Γ ρ δ τ g (Q .normal)) : JO X Γ ρ σ l Q := by
 intro a c hst
 obtain ⟨obs, hown, hres⟩ := hst.own
 simp only [regOK, Bool.and_eq_true] at hc
 obtain ⟨⟨hc1, hc2⟩, hc3⟩ := hc
 obtain ⟨g1, g2, g3, g4⟩ := hs.spec (k := 0) [] (fun j => by simp) rfl (liftR σ) rfl rfl
 simp only [List.nil_append, Nat.zero_add] at g2 g3 g4
 have hτ : ∀ k r, nth (liftR σ) k = some r → r.D = [] := fun k r hr => by
  rw [nth_liftR] at hr
  cases hn : nth σ k with
  | none => rw [hn] at hr; cases hr
  | some r' => rw [hn] at hr; cases hr; rfl
 have hτ0 : ∀ k r, nth (liftR σ) k = some r → ∃ r', nth σ k = some r' ∧ r = .c r' := fun k r hr => by
  rw [nth_liftR] at hr
  cases hn : nth σ k with
  | none => rw [hn] at hr; cases hr
  | some r' => rw [hn] at hr; cases hr; exact ⟨r', rfl, rfl⟩
 have hsz : l.toArray.size = l.length := by simp
 have hops : ∀ i o ii, l.toArray[i]? = some o → is[i]? = some ii → OpOK X.P X.n l.toArray Γ ρ (envL l.toArray is (fun _ => true) i) (resL l.toArray is (liftR σ) (fun _ => true) i) o ii.acc ii.e ii.r := g4
 have hacc : accsOK (liftR σ).length is = true := by simpa [liftR] using hc2
 simp only [cond_false] at hc3
 rw [List.range_eq_range', ← hsz]
 refine seq_wp (c0 := X.c0) (E := X.E) (df := []) (τ := liftR σ) (n := X.n) (Γ := Γ) (ρ := ρ) (is := is) (by simpa using hc1) hacc hτ (by simpa using hc3) (by simpa using g1) hops ?_ l.toArray.size 0 (by omega) a c obs ?_
 ·intro a' c' obs' hI
  exact (hI.fin (δ := δ) (τ' := τ) (by rw [hsz]; exact g2) (by rw [hsz]; exact g3) (fun j hj => by simpa using hj)).next h
 ·have hf : (fun j => decide (j < 0)) = fun _ : Nat => false := by funext j; simp
  rw [hf]
  refine Inv.start hst.size hst.defers hst.facts hst.env hown fun k r hr => ?_
  obtain ⟨r', hr', rfl⟩ := hτ0 k r hr
  exact hres k r' hr'
theorem JN_seg {l : List Oper} (h : JO X Γ ρ σ l Q) : JN X Γ ρ σ (Exit.then (fun a w => wpOps X.P l.toArray Q (List.range l.length) a w) Q .normal) := h
end seg
def Lent (r : Res) (q p : SP) : Prop := ∀ c c1 ob v, r.H c ob → q.H v c → Le c c1 → (∀ b, ob b → c1.w.heap[b]? = c.w.heap[b]? ∧ ¬ c1.M b) → p.H v c1
theorem lent_blk {u : Value} {cells : List SP} {T : TypeId} : Lent (blk u cells T) (ipo u 0) (ptp cells) := fun c c1 ob v h hq hle hob => by
 have h1 := frz_blk c c1 ob h hle hob
 obtain ⟨b, cur, g1, _⟩ := h
 obtain ⟨b', g2, g3⟩ := hq
 have : v = u := by
  rcases g2 with g2 | ⟨_, _, g2⟩
  ·rw [g2] at g1; cases g1; rw [g3, g2]
  ·rw [g2] at g1; cases g1
 rw [this]
 exact h1
def LkN (Γ : Facts) (δ : VEnv) (ρ : Env) (r : Res) : List Operand → List SP → Prop
 | [], [] => True
 | x :: xs, p :: ps => (Lk Γ δ ρ x p ∨ ∃ q, Lk Γ δ ρ x q ∧ Lent r q p) ∧ LkN Γ δ ρ r xs ps
 | _, _ => False
theorem LkN.val {Γ : Facts} {δ : VEnv} {ρ : Env} {r : Res} {a : Act} {c c1 : EW} {ob : Bs} (hr : r.H c ob) (hle : Le c c1) (hob : ∀ b, ob b → c1.w.heap[b]? = c.w.heap[b]? ∧ ¬ c1.M b) : ∀ {xs : List Operand} {ps : List SP}, LkN Γ δ ρ r xs ps → (∀ x q, x ∈ xs → Lk Γ δ ρ x q → q.H (a.eval x) c) → HL ps (xs.map a.eval) c1
 | [], [], _, _ => trivial
 | x :: xs, p :: ps, ⟨h1, h2⟩, h => by
  refine ⟨?_, LkN.val hr hle hob h2 fun y q hy => h y q (List.mem_cons_of_mem _ hy)⟩
  rcases h1 with h1 | ⟨q, h1, h3⟩
  ·exact p.st _ _ _ hle (h x p (List.mem_cons_self ..) h1)
  ·exact h3 c c1 ob _ hr (h x q (List.mem_cons_self ..) h1) hle hob
 | [], _ :: _, h, _ => h.elim
 | _ :: _, [], h, _ => h.elim
section ops
variable {P : Program} {n : Nat} {ops : Array Oper} {Γ : Facts} {ρ : Env} {δ : VEnv} {τ : List VR}
variable {d : Nat} {ty : TypeId} {pos : String} {af : Array Edge}
theorem op_callL {f : Nat} {xs : List Operand} {ps : List SP} {R : SP} {r : Res} {ats : Array TypeId} (k : Nat) (hf : Ct P f ps R) (hR : R.Pure) (hx : LkN Γ δ ρ r xs ps) (hk : nth τ k = some (.c r)) :
  OpOK P n ops Γ ρ δ τ ⟨some d, .call ⟨.value (.func f), xs.toArray, ats⟩, ty, pos, af, none⟩ (.rd k) (.c R) dum := by
 intro a c ob hs hwf hfa hrr hres hno hown
 obtain ⟨r0, hr0, hh⟩ := hres k rfl
 rw [hk] at hr0
 cases hr0
 have hh' : r.H c ob := hh
 let c1 : EW := ⟨c.w, fun b => c.M b ∧ ¬ ob b⟩
 have hle : Le c c1 := ⟨rfl, rfl, rfl, Nat.le_refl _, fun j _ hm => ⟨rfl, fun h => hm h.1⟩⟩
 have harg := hx.val (a := a) (c := c) (c1 := c1) hh' hle (fun b hb => ⟨rfl, fun h => h.2 hb⟩) fun x q hx' hq => Lk.val (o := ⟨some d, .call ⟨.value (.func f), xs.toArray, ats⟩, ty, pos, af, none⟩) hrr hfa (by simp [Op.operands, Call.operands, hx']) hq
 simp only [Region.wanted, if_true]
 unfold Does
 have hex : (execOp a.eval ⟨some d, .call ⟨.value (.func f), xs.toArray, ats⟩, ty, pos, af, none⟩).run P c.w = .ok (.enter f (xs.map a.eval).toArray) c.w := by
  have h1 := run_callFunc hf.1 (xs.map a.eval).toArray c.w
  simp [execOp, resolve, Deferred.ofValue, Act.eval, invoke, h1]
 rw [hex]
 refine (hf.2 _ c1 (fun j hj => hwf j hj.1) ⟨hfa.2.le hle, harg⟩).mono fun e w' ⟨v, he, hxt, hR'⟩ => ⟨v, he, ⟨w', c.M⟩, ob, rfl, ?_, hR _ _ _ hR', fun h => (by cases h)⟩
 exact ⟨hxt.os, hxt.tape, hxt.out, hxt.size, fun j hj _ => hxt.heap j hj, fun _ _ => ⟨id, .inl⟩, .inl rfl, fun j hj => Nat.lt_of_lt_of_le (hwf j hj) hxt.size⟩
end ops
theorem fix_sep {r1 r2 r1' r2' : Res} (h1 : Fix r1 r1') (h2 : Fix r2 r2') : Fix (r1.sep r2) (r1'.sep r2') := by
 rintro c c' ob ob' ⟨o1, o2, a1, a2, a3, a4⟩ ⟨p1, p2, b1, b2, b3, b4⟩
 have e1 := h1 c c' o1 p1 a3 b3
 have e2 := h2 c c' o2 p2 a4 b4
 funext b
 apply propext
 rw [a1, b1, e1, e2]
end Go.Bn
