/-
 Several resources as one; rows in memory of their own; slices of what is owned; calls that only read what their caller owns.
-/
import Derived.Test.YtcpififnffmjfaaGreatDoorZsQra
set_option linter.unusedVariables false
set_option linter.unusedSimpArgs false
namespace Go.Bn
open Go
theorem To.two {X : Cx} {Γ : Facts} {ρ : Env} {σ σ' : List Res} (k j : Nat) {a b a' b' : Res} (hk : nth σ k = some a) (hj : nth σ j = some b) (hne : Nat.beq k j = false)
  (h : ∀ c o1 o2, a.H c o1 → b.H c o2 → (∀ x, o1 x → o2 x → False) → ∃ p1 p2 : Bs, a'.H c p1 ∧ b'.H c p2 ∧ (∀ x, p1 x → o1 x ∨ o2 x) ∧ (∀ x, p2 x → o1 x ∨ o2 x) ∧ (∀ x, p1 x → p2 x → False))
  (hσ : setNth (setNth σ k a') j b' = σ') : To X Γ ρ σ Γ ρ σ' := by
 subst hσ
 have hne' : k ≠ j := Nat.ne_of_beq_eq_false hne
 intro A c hs
 obtain ⟨obs, hown, hres⟩ := hs.own
 obtain ⟨p1, p2, h1, h2, h3, h4, h5⟩ := h c (obs k) (obs j) (hres k a hk) (hres j b hj) fun x hx hy => hne' (hown.one k j x hx hy)
 refine ⟨c, rfl, hs.size, hs.defers, hs.facts, hs.env, fun i => if i = k then p1 else if i = j then p2 else obs i, ?_, fun i r hr => ?_⟩
 ·have sub : ∀ i x, (if i = k then p1 else if i = j then p2 else obs i) x → (i = k ∧ p1 x) ∨ (i ≠ k ∧ i = j ∧ p2 x) ∨ (i ≠ k ∧ i ≠ j ∧ obs i x) := fun i x hx => by
   by_cases e : i = k
   ·rw [if_pos e] at hx; exact .inl ⟨e, hx⟩
   ·rw [if_neg e] at hx
    by_cases e2 : i = j
    ·rw [if_pos e2] at hx; exact .inr (.inl ⟨e, e2, hx⟩)
    ·rw [if_neg e2] at hx; exact .inr (.inr ⟨e, e2, hx⟩)
  have old : ∀ x, p1 x ∨ p2 x → obs k x ∨ obs j x := fun x hx => hx.elim (h3 x) (h4 x)
  exact { hown with
   has := fun i x hx => by
    rcases sub i x hx with ⟨_, q⟩ | ⟨_, _, q⟩ | ⟨_, _, q⟩
    ·exact (h3 x q).elim (hown.has k x) (hown.has j x)
    ·exact (h4 x q).elim (hown.has k x) (hown.has j x)
    ·exact hown.has i x q
   one := fun i i' x hx hy => by
    rcases sub i x hx with ⟨e, q⟩ | ⟨e0, e, q⟩ | ⟨e0, e, q⟩ <;> rcases sub i' x hy with ⟨f, s⟩ | ⟨f0, f, s⟩ | ⟨f0, f, s⟩
    ·rw [e, f]
    ·exact (h5 x q s).elim
    ·rcases old x (.inl q) with o | o
     ·exact (f0 (hown.one i' k x s o)).elim
     ·exact (f (hown.one i' j x s o)).elim
    ·exact (h5 x s q).elim
    ·rw [e, f]
    ·rcases old x (.inr q) with o | o
     ·exact (f0 (hown.one i' k x s o)).elim
     ·exact (f (hown.one i' j x s o)).elim
    ·rcases old x (.inl s) with o | o
     ·exact (e0 (hown.one i k x q o)).elim
     ·exact (e (hown.one i j x q o)).elim
    ·rcases old x (.inr s) with o | o
     ·exact (e0 (hown.one i k x q o)).elim
     ·exact (e (hown.one i j x q o)).elim
    ·exact hown.one i i' x q s }
 ·rw [nth_setNth, nth_setNth] at hr
  by_cases e : i = k
  ·simp only [if_pos e]
   rw [if_neg (by rw [e]; exact hne'), if_pos e, e, hk] at hr
   cases hr
   exact h1
  ·simp only [if_neg e]
   by_cases e2 : i = j
   ·simp only [if_pos e2]
    rw [if_pos e2, e2, if_neg (Ne.symm hne'), hj] at hr
    cases hr
    exact h2
   ·simp only [if_neg e2]
    rw [if_neg e2, if_neg e] at hr
    exact hres i r hr
def Res.sep (r1 r2 : Res) : Res := ⟨fun c ob => ∃ o1 o2 : Bs, (∀ b, ob b ↔ o1 b ∨ o2 b) ∧ (∀ b, o1 b → o2 b → False) ∧ r1.H c o1 ∧ r2.H c o2, by
 rintro c c' ob hle hk ⟨o1, o2, h1, h2, h3, h4⟩
 exact ⟨o1, o2, h1, h2, r1.fr _ _ _ hle (fun b hb => hk b ((h1 b).2 (.inl hb))) h3, r2.fr _ _ _ hle (fun b hb => hk b ((h1 b).2 (.inr hb))) h4⟩⟩
theorem To.split {X : Cx} {Γ : Facts} {ρ : Env} {σ σ' : List Res} (k j : Nat) {r1 r2 : Res} (hk : nth σ k = some (r1.sep r2)) (hj : nth σ j = some Go.Bn.emp) (hne : Nat.beq k j = false) (hσ : setNth (setNth σ k r1) j r2 = σ') : To X Γ ρ σ Γ ρ σ' :=
 To.two k j hk hj hne (fun c p q hp hq _ => by
  obtain ⟨o1, o2, h1, h2, h3, h4⟩ := hp
  exact ⟨o1, o2, h3, h4, fun x hx => .inl ((h1 x).2 (.inl hx)), fun x hx => .inl ((h1 x).2 (.inr hx)), h2⟩) hσ
theorem To.join {X : Cx} {Γ : Facts} {ρ : Env} {σ σ' : List Res} (k j : Nat) {r1 r2 : Res} (hk : nth σ k = some r1) (hj : nth σ j = some r2) (hne : Nat.beq k j = false) (hσ : setNth (setNth σ k (r1.sep r2)) j Go.Bn.emp = σ') : To X Γ ρ σ Γ ρ σ' :=
 To.two (a' := r1.sep r2) (b' := Go.Bn.emp) k j hk hj hne (fun c p q hp hq hd => ⟨fun b => p b ∨ q b, nob, ⟨p, q, fun _ => Iff.rfl, hd, hp, hq⟩, rfl, fun x hx => hx, fun x hx => (by cases hx), fun x _ hx => (by cases hx)⟩) hσ
def exR {α : Type} (f : α → Res) : Res := ⟨fun c ob => ∃ x, (f x).H c ob, fun c c' ob hle hk ⟨x, hx⟩ => ⟨x, (f x).fr _ _ _ hle hk hx⟩⟩
theorem J_ex {X : Cx} {Γ : Facts} {ρ : Env} {σ : List Res} {code : Code} {Q : Exit → Act → World → Prop} {α : Type} {f : α → Res} (k : Nat) (hk : nth σ k = some (exR f)) (h : ∀ x, J X Γ ρ (setNth σ k (f x)) code Q) : J X Γ ρ σ code Q := fun a c hs => by
 obtain ⟨obs, hown, hres⟩ := hs.own
 obtain ⟨x, hx⟩ := hres k _ hk
 refine h x a c ⟨hs.size, hs.defers, hs.facts, hs.env, obs, hown, fun j r hj => ?_⟩
 rw [nth_setNth] at hj
 by_cases hjk : j = k
 ·rw [if_pos hjk] at hj
  subst hjk
  rw [hk] at hj
  cases hj
  exact hx
 ·rw [if_neg hjk] at hj
  exact hres j r hj
def vsl (u : Value) (i n : Nat) : SP := ⟨fun v _ => (u = .slice none 0 0 ∧ n = 0 ∧ i = 0 ∧ v = .slice none 0 0) ∨ ∃ b cap, u = .slice (some ⟨b, 0, none⟩) n cap ∧ i ≤ n ∧ n ≤ cap ∧ cap ≤ maxLen ∧ v = .slice (some ⟨b, if cap = i then 0 else i, none⟩) (n - i) (cap - i), fun _ _ _ _ h => h⟩
def SP.Pure (p : SP) : Prop := ∀ v c c', p.H v c → p.H v c'
theorem pure_isv (u : Value) : (isv u).Pure := fun _ _ _ h => h
def Res.Pure (r : Res) : Prop := ∀ c c' ob, c'.w = c.w → r.H c ob → r.H c' ob
section ops
variable {P : Program} {n : Nat} {ops : Array Oper} {Γ : Facts} {ρ : Env} {δ : VEnv} {τ : List VR}
variable {d : Nat} {ty : TypeId} {pos : String} {af : Array Edge}
theorem op_slice_vsl {α : Type} {mk : α → SP} {xs : List α} {x lo : Operand} {T E eb : Nat} {k1 : IntKind} {l : Int} {sv : Value} {T' : TypeId} (k : Nat) (ht : slT P T = some (E, 1, eb)) (hx : Lk Γ δ ρ x (isv sv)) (hlo : Lk Γ δ ρ lo (isv (.int k1 l))) (hk : nth τ k = some (.c (som sv mk xs T'))) (h0 : 0 ≤ l) (h1 : l ≤ xs.length) :
  OpOK P n ops Γ ρ δ τ ⟨some d, .slice T x (some lo) none none, ty, pos, af, none⟩ (.rd k) (.c (vsl sv l.toNat xs.length)) dum :=
 ok_read hk fun a c ob _ hr hh => by
  have hv := (hr x _ (by simp [Op.operands]) hx).1
  have hz := (hr lo _ (by simp [Op.operands]) hlo).1
  obtain ⟨hu, i, hi', hs, _⟩ := slT_u ht
  rcases hh.2 with ⟨h2, h3, _⟩ | ⟨b, cap, cur, h2, h3, h4, h5, h6, h7⟩
  ·have hl0 : l = 0 := by omega
   subst hl0
   refine ⟨.slice none 0 0, ?_, .inl ⟨h2, h3, rfl, rfl⟩⟩
   simp [execOp, Instr.sliceAt, Instr.slice, run_underlying hu, h2, hv, hz, Instr.sliceBounds, Instr.sliceBound, asIntOf, sizeOf, typeInfo, hi']
  ·refine ⟨.slice (some ⟨b, if cap = l.toNat then 0 else l.toNat, none⟩) (xs.length - l.toNat) (cap - l.toNat), ?_, .inr ⟨b, cap, h2, by omega, h4, h5, rfl⟩⟩
   have hl : l ≤ (xs.length : Int) := h1
   by_cases hc : cap = l.toNat
   ·simp [execOp, Instr.sliceAt, Instr.slice, run_underlying hu, h2, hv, hz, Instr.sliceBounds, Instr.sliceBound, asIntOf, sizeOf, typeInfo, hi', hs, hl, h0, hc]
   ·simp [execOp, Instr.sliceAt, Instr.slice, run_underlying hu, h2, hv, hz, Instr.sliceBounds, Instr.sliceBound, asIntOf, sizeOf, typeInfo, hi', hs, hl, h0, hc, addr_add]
end ops
end Go.Bn
