/-
 From a row's readings of its arguments to the predicates of the walks; and a law's row out of a walk.
-/
import Derived.Test.YtcpififnffmjfaaGreatDoorZsKc
import Derived.WalkKit
import Derived.ProofKit
import Derived.OpenShut
import Derived.ChangeOld
import Derived.Below
import Derived.SizedLaws
import Derived.Carry
set_option linter.unusedVariables false
set_option linter.unusedSimpArgs false
namespace Go.Bn
open Go Go.RowKit
def CLl (l : List SP) (cs : List Value) (w : World) : Prop := ∀ i p, nth l i = some p → ∃ u, cs[i]? = some u ∧ u.oneCell' = true ∧ p.H u ⟨w, fun _ => False⟩
def Rdr (P : Program) (T : TypeId) (α : Type) (mk : α → List SP) (ok : α → Prop) : Prop :=
 ∀ (H : Type) (enc : TypeId × Value → H) (w : World) (n : Nat) (cs : List Value) (d : DataW H) (ps : List MemPlace), DataW.trod enc P w 0 (fun _ => true) true n T cs = some (d, ps) → (∀ x, x ∈ DataW.weights P T d → x ≤ reachBytes) →
  ∃ a, ok a ∧ cs.length = P.cellsOf T ∧ (mk a).length = P.cellsOf T ∧ CLl (mk a) cs w
section
variable {P : Program}
theorem CLl.one {p : SP} {u : Value} {w : World} (h1 : u.oneCell' = true) (h : p.H u ⟨w, fun _ => False⟩) : CLl [p] [u] w := fun i q hi => by
 cases i with
 | zero => simp only [nth, Option.some.injEq] at hi; subst hi; exact ⟨u, rfl, h1, h⟩
 | succ i => simp [nth] at hi
theorem rd_int {T : TypeId} {k : IntKind} (hu : P.underlying T = some (.int k)) (hc : P.cellsOf T = 1) : Rdr P T Int (fun z => [isv (.int k z)]) (fun z => (Lit.int k z).wf = true) := fun H enc w n cs d ps h _ => by
 obtain ⟨z, h1, h2, h3⟩ := DataW.trod_int hu h
 subst h1
 exact ⟨z, h3, hc.symm, hc.symm, CLl.one rfl ⟨rfl, rfl⟩⟩
theorem rd_u64 {T : TypeId} (hu : P.underlying T = some (.int .u64)) (hc : P.cellsOf T = 1) : Rdr P T Nat (fun b => [u64p b]) (fun b => b < 2 ^ 64) := fun H enc w n cs d ps h _ => by
 obtain ⟨z, h1, h2, h3⟩ := DataW.trod_int hu h
 subst h1
 simp [Lit.wf] at h3
 have hz : ((z.toNat : Nat) : Int) = z ∧ z.toNat < 2 ^ 64 := by
  simp only [IntKind.min, IntKind.max, IntKind.signed, IntKind.bits] at h3
  simp at h3
  omega
 exact ⟨z.toNat, hz.2, hc.symm, hc.symm, CLl.one rfl ⟨by rw [hz.1], rfl⟩⟩
theorem exists_list {β : Type} {Q : Nat → β → Prop} : ∀ {n : Nat}, (∀ i, i < n → ∃ b, Q i b) → ∃ xs : List β, xs.length = n ∧ ∀ i b, xs[i]? = some b → Q i b
 | 0, _ => ⟨[], rfl, fun i b h => by simp at h⟩
 | n + 1, h => by
  obtain ⟨xs, h1, h2⟩ := exists_list (n := n) fun i hi => h i (by omega)
  obtain ⟨b, hb⟩ := h n (by omega)
  refine ⟨xs ++ [b], by simp [h1], fun i b' hi => ?_⟩
  by_cases hin : i < n
  ·rw [List.getElem?_append_left (by omega)] at hi
   exact h2 i b' hi
  ·rw [List.getElem?_append_right (by omega), h1] at hi
   have : i = n := by
    have := (List.getElem?_eq_some_iff.1 hi).1
    simp at this
    omega
   subst this
   simp at hi
   subst hi
   exact hb
theorem nth_flat {β : Type} {mk : β → List SP} {es : Nat} (he : 0 < es) : ∀ {xs : List β}, (∀ b, b ∈ xs → (mk b).length = es) → ∀ k p, nth (xs.flatMap mk) k = some p → ∃ b, xs[k / es]? = some b ∧ nth (mk b) (k % es) = some p
 | [], _, k, p, h => by simp [nth] at h
 | b :: xs, hl, k, p, h => by
  have hb := hl b (by simp)
  rw [nth_eq, List.flatMap_cons] at h
  by_cases hk : k < es
  ·rw [List.getElem?_append_left (by omega)] at h
   rw [Nat.div_eq_of_lt hk, Nat.mod_eq_of_lt hk]
   exact ⟨b, rfl, by rw [nth_eq]; exact h⟩
  ·rw [List.getElem?_append_right (by omega), hb] at h
   obtain ⟨b', h1, h2⟩ := nth_flat he (xs := xs) (fun x hx => hl x (by simp [hx])) (k - es) p (by rw [nth_eq]; exact h)
   have e1 : k / es = (k - es) / es + 1 := by rw [Nat.div_eq k es, if_pos ⟨he, by omega⟩]
   have e2 : k % es = (k - es) % es := by rw [Nat.mod_eq_sub_mod (by omega)]
   rw [e1, e2]
   exact ⟨b', by simpa using h1, h2⟩
theorem weightsAll_mem {H : Type} {e : TypeId} {x : Nat} : ∀ {ds : List (DataW H)} {d : DataW H}, d ∈ ds → x ∈ DataW.weights P e d → x ∈ DataW.weightsAll P e ds
 | d' :: ds, d, hd, hx => by
  rw [DataW.weightsAll]
  rcases List.mem_cons.1 hd with rfl | hd
  ·exact List.mem_append_left _ hx
  ·exact List.mem_append_right _ (weightsAll_mem hd hx)
theorem flat_len {β : Type} {mk : β → List SP} {es : Nat} : ∀ {xs : List β}, (∀ b, b ∈ xs → (mk b).length = es) → (xs.flatMap mk).length = xs.length * es
 | [], _ => by simp
 | b :: xs, h => by
  rw [List.flatMap_cons, List.length_append, h b (by simp), flat_len (xs := xs) fun x hx => h x (by simp [hx])]
  rw [List.length_cons, Nat.add_mul, Nat.one_mul, Nat.add_comm]
theorem rd_slice {T e : TypeId} {β : Type} {mk : β → List SP} {ok : β → Prop} (hu : P.underlying T = some (.slice e)) (hc : P.cellsOf T = 1) (h0 : 0 < P.cellsOf e) (hr : Rdr P e β mk ok) :
  Rdr P T (List β) (fun xs => [slc xs.length (P.cellsOf e) (xs.flatMap mk)]) (fun xs => (∀ b, b ∈ xs → ok b) ∧ xs.length * P.bytesOf e ≤ reachBytes) := fun H enc w n cs d ps h hw => by
 rcases DataW.trod_slice hu h with ⟨h1, h2⟩ | ⟨a, len, cap, elems, rest, m, hm, h1, h2, _, hlc, hcm, hel, he, hsp, _⟩
 ·subst h1
  exact ⟨[], ⟨by simp, by simp⟩, hc.symm, hc.symm, CLl.one rfl ⟨by simp, .inl ⟨rfl, rfl⟩⟩⟩
 ·subst h1
  simp only [Prod.mk.injEq] at h2
  obtain ⟨h2, _⟩ := h2
  subst h2
  have hws : ∀ x, x ∈ ((elems.map (·.1)).length + (rest.map (·.1)).length) * P.bytesOf e :: (DataW.weightsAll P e (elems.map (·.1)) ++ DataW.weightsAll P e (rest.map (·.1))) → x ≤ reachBytes := by
   intro x hx
   exact hw x (by rw [DataW.weights, hu]; exact hx)
  have hlen : len * P.bytesOf e ≤ reachBytes := by
   have := hws _ (List.mem_cons_self)
   simp only [List.length_map, hel] at this
   exact Nat.le_trans (Nat.mul_le_mul_right _ (Nat.le_add_right _ _)) this
  -- each element
  have each : ∀ i, i < len → ∃ b, ok b ∧ (mk b).length = P.cellsOf e ∧ ∃ ci : List Value, w.cells? 0 (a.add (i * P.cellsOf e)) (P.cellsOf e) = some ci ∧ ci.length = P.cellsOf e ∧ CLl (mk b) ci w := by
   intro i hi
   have h3 := he i hi
   obtain ⟨y, hy⟩ : ∃ y, elems[i]? = some y := ⟨elems[i], List.getElem?_eq_getElem (by omega)⟩
   rw [hy, Option.bind_eq_some_iff] at h3
   obtain ⟨ci, h4, h5⟩ := h3
   obtain ⟨b, g1, g2, g3, g4⟩ := hr H enc w m ci y.1 y.2 h5 fun x hx => hws x (List.mem_cons_of_mem _ (List.mem_append_left _ (weightsAll_mem (List.mem_map.2 ⟨y, List.mem_of_getElem? hy, rfl⟩) hx)))
   exact ⟨b, g1, g3, ci, h4, g2, g4⟩
  obtain ⟨xs, hxl, hxs⟩ := exists_list each
  have hmem : ∀ b, b ∈ xs → ok b ∧ (mk b).length = P.cellsOf e := fun b hb => by
   obtain ⟨i, hi, e1⟩ := List.mem_iff_getElem.1 hb
   have := hxs i b (by rw [List.getElem?_eq_getElem hi, e1])
   exact ⟨this.1, this.2.1⟩
  refine ⟨xs, ⟨fun b hb => (hmem b hb).1, by rw [hxl]; exact hlen⟩, hc.symm, hc.symm, CLl.one rfl ⟨flat_len fun b hb => (hmem b hb).2, .inr ⟨a, cap, by rw [hxl], by omega, hcm, ?_⟩⟩⟩
  rcases Nat.eq_zero_or_pos len with hz | hz
  ·exact .inl (by omega)
  ·right
   -- the block
   have cell : ∀ i j, i < len → j < P.cellsOf e → ∃ u, w.cell? ((a.add (i * P.cellsOf e)).add j) = some u := by
    intro i j hi hj
    obtain ⟨b, _, _, ci, h4, h5, _⟩ := each i hi
    obtain ⟨_, h6, h7⟩ := World.cells?_some h4
    exact ⟨ci[j], by rw [h7 j hj, List.getElem?_eq_getElem (by omega)]⟩
   obtain ⟨b0, off, spot⟩ := a
   have hspot : spot = none ∧ ∃ cur T' fz, w.heap[b0]? = some (.cells cur T' fz) := by
    obtain ⟨u, hu0⟩ := cell 0 0 hz h0
    simp [Addr.add, World.cell?] at hu0
    split at hu0
    ·rename_i c1 c2 c3 hh
     split at hu0
     ·cases hu0
     ·rename_i hs
      exact ⟨by simpa using hs, _, _, _, hh⟩
    ·cases hu0
   obtain ⟨hs, cur, T', fz, hheap⟩ := hspot
   subst hs
   refine ⟨b0, off, rfl, fun hm => hm.elim, cur, T', fz, hheap, fun k p hk => ?_⟩
   obtain ⟨b, g1, g2⟩ := nth_flat h0 (fun b hb => (hmem b hb).2) k p hk
   have hi : k / P.cellsOf e < len := by
    have := (List.getElem?_eq_some_iff.1 g1).1
    omega
   have hj : k % P.cellsOf e < P.cellsOf e := Nat.mod_lt _ h0
   obtain ⟨_, _, ci, h4, h5, h6⟩ := hxs _ b g1
   obtain ⟨u, h7, h8, h9⟩ := h6 _ p g2
   obtain ⟨_, _, h10⟩ := World.cells?_some h4
   have h11 := h10 _ hj
   rw [h7, addr_add, addr_add] at h11
   refine ⟨u, ?_, h8, h9⟩
   simp only [World.cell?, hheap] at h11
   have e1 : off + k / P.cellsOf e * P.cellsOf e + k % P.cellsOf e = off + k := by rw [Nat.add_assoc, Nat.div_add_mod']
   rw [e1] at h11
   simpa using h11
def Opens (P : Program) (T : TypeId) (α : Type) (mk : α → SP) (ok : α → Prop) : Prop :=
 ∀ (H : Type) (enc : TypeId × Value → H) (w : World) (b0 : Nat) (v : Value) (d : DataW H) (ps : List MemPlace), Value.okWide P w .any b0 T v → DataW.Trod enc P w 0 (fun _ => true) true T v d ps → (∀ x, x ∈ DataW.weights P T d → x ≤ reachBytes) →
  ∃ a, ok a ∧ (mk a).H v ⟨w, fun _ => False⟩
theorem op_scalar {T : TypeId} {α : Type} {mk : α → SP} {ok : α → Prop} (hu : (∃ k, P.underlying T = some (.int k)) ∨ P.underlying T = some .bool ∨ ∃ e, P.underlying T = some (.slice e)) (hr : Rdr P T α (fun a => [mk a]) ok) : Opens P T α mk ok := fun H enc w b0 v d ps hv h hw => by
 obtain ⟨n, hn⟩ := h
 obtain ⟨a, g1, _, _, g4⟩ := hr H enc w n _ d ps hn hw
 have hcells : v.cells.toList = [v] := by
  have : ∀ cs, v ≠ .agg cs := fun cs hc => by
   subst hc
   unfold Value.okWide at hv
   rcases hu with ⟨k, hu⟩ | hu | ⟨e, hu⟩ <;> rw [hu] at hv <;> simp [Cell.okWide, Cell.ok, hu] at hv
  cases v <;> first | rfl | exact (this _ rfl).elim
 obtain ⟨u, q1, q2, q3⟩ := g4 0 (mk a) rfl
 rw [hcells] at q1
 simp at q1
 subst q1
 exact ⟨a, g1, q3⟩
theorem Rdr.re {T : TypeId} {α β : Type} {mk : α → List SP} {ok : α → Prop} {mk' : β → List SP} {ok' : β → Prop} (h : Rdr P T α mk ok) (f : α → β) (h1 : ∀ a, ok a → ok' (f a)) (h2 : ∀ a, mk a = mk' (f a)) : Rdr P T β mk' ok' := fun H enc w n cs d ps ht hw => by
 obtain ⟨a, g1, g2, g3, g4⟩ := h H enc w n cs d ps ht hw
 exact ⟨f a, h1 a g1, g2, by rw [← h2]; exact g3, by rw [← h2]; exact g4⟩
theorem Xt.below {c : EW} {w' : World} (h : Xt c w') : Below c.w.heap.size c.w w' := ⟨h.os, h.tape, h.out, h.size, h.heap⟩
theorem Ct.at {f : Nat} {ps : List SP} {b : Bool} (h : Ct P f ps (isv (.bool b))) {vs : List Value} {w : World} (hv : HL ps vs ⟨w, fun _ => False⟩) (hg : FG ⟨w, fun _ => False⟩ := by intro v p hm; cases hm) : Calls P f vs.toArray w fun e w' => e = .returned (.bool b) ∧ Below w.heap.size w w' :=
 (h.2 vs ⟨w, fun _ => False⟩ (fun _ hk => hk.elim) ⟨hg, hv⟩).mono fun e w' ⟨v, he, hx, hR⟩ => ⟨by rw [he, hR.1], hx.below⟩
theorem flat_one {β : Type} {mk : β → SP} {xs : List β} : slc xs.length 1 (xs.flatMap fun b => [mk b]) = slm mk xs := by
 unfold slm slp
 rw [List.length_map]
 congr 1
 induction xs with
 | nil => rfl
 | cons x xs ih => rw [List.flatMap_cons, ih]; rfl
end
end Go.Bn
