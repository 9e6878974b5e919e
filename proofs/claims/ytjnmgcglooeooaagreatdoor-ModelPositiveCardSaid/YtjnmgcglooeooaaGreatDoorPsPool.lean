/-
 Several resources as one; rows in memory of their own; slices of what is owned; calls that only read what their caller owns.
-/
import Derived.Test.YtjnmgcglooeooaaGreatDoorPsQra
set_option linter.unusedVariables false
set_option linter.unusedSimpArgs false
namespace Go.Bn
open Go
theorem To.two {X : Cx} {Γ : Facts} {ρ : Env} {σ σ' : List Res} (k j : Nat) {a b a' b' : Res} (hk : nth σ k = some a) (hj : nth σ j = some b) (hne : Nat.beq k j = false)
  (h : ∀ c o1 o2, a.H c o1 → b.H c o2 → (∀ x, o1 x → o2 x → False) → ∃ p1 p2 : Bs, a'.H c p1 ∧ b'.H c p2 ∧ (∀ x, p1 x → o1 x ∨ o2 x) ∧ (∀ x, p2 x → o1 x ∨ o2 x) ∧ (∀ x, p1 x → p2 x → False))
  (hσ : setNth (setNth σ k a') j b' = σ') : To X Γ ρ σ Γ ρ σ' := by
 subst hσ
 have hne' : k ≠ j := Nat.ne_of_beq_eq_false hne
 intro A c hs
 obtain ⟨obs, hown, hres⟩ := hs.own
 obtain ⟨p1, p2, h1, h2, h3, h4, h5⟩ := h c (obs k) (obs j) (hres k a hk) (hres j b hj) fun x hx hy => hne' (hown.one k j x hx hy)
 refine ⟨c, rfl, hs.size, hs.defers, hs.facts, hs.env, fun i => if i = k then p1 else if i = j then p2 else obs i, ?_, fun i r hr => ?_⟩
 ·have sub : ∀ i x, (if i = k then p1 else if i = j then p2 else obs i) x → (i = k ∧ p1 x) ∨ (i ≠ k ∧ i = j ∧ p2 x) ∨ (i ≠ k ∧ i ≠ j ∧ obs i x) := fun i x hx => by
   by_cases e : i = k
   ·rw [if_pos e] at hx; exact .inl ⟨e, hx⟩
   ·rw [if_neg e] at hx
    by_cases e2 : i = j
    ·rw [if_pos e2] at hx; exact .inr (.inl ⟨e, e2, hx⟩)
    ·rw [if_neg e2] at hx; exact .inr (.inr ⟨e, e2, hx⟩)
  have old : ∀ x, p1 x ∨ p2 x → obs k x ∨ obs j x := fun x hx => hx.elim (h3 x) (h4 x)
  exact { hown with
   has := fun i x hx => by
    rcases sub i x hx with ⟨_, q⟩ | ⟨_, _, q⟩ | ⟨_, _, q⟩
    ·exact (h3 x q).elim (hown.has k x) (hown.has j x)
    ·exact (h4 x q).elim (hown.has k x) (hown.has j x)
    ·exact hown.has i x q
   one := fun i i' x hx hy => by
    rcases sub i x hx with ⟨e, q⟩ | ⟨e0, e, q⟩ | ⟨e0, e, q⟩ <;> rcases sub i' x hy with ⟨f, s⟩ | ⟨f0, f, s⟩ | ⟨f0, f, s⟩
    ·rw [e, f]
    ·exact (h5 x q s).elim
    ·rcases old x (.inl q) with o | o
     ·exact (f0 (hown.one i' k x s o)).elim
     ·exact (f (hown.one i' j x s o)).elim
    ·exact (h5 x s q).elim
    ·rw [e, f]
    ·rcases old x (.inr q) with o | o
     ·exact (f0 (hown.one i' k x s o)).elim
     ·exact (f (hown.one i' j x s o)).elim
    ·rcases old x (.inl s) with o | o
     ·exact (e0 (hown.one i k x q o)).elim
     ·exact (e (hown.one i j x q o)).elim
    ·rcases old x (.inr s) with o | o
     ·exact (e0 (hown.one i k x q o)).elim
     ·exact (e (hown.one i j x q o)).elim
    ·exact hown.one i i' x q s }
 ·rw [nth_setNth, nth_setNth] at hr
  by_cases e : i = k
  ·simp only [if_pos e]
   rw [if_neg (by rw [e]; exact hne'), if_pos e, e, hk] at hr
   cases hr
   exact h1
  ·simp only [if_neg e]
   by_cases e2 : i = j
   ·simp only [if_pos e2]
    rw [if_pos e2, e2, if_neg (Ne.symm hne'), hj] at hr
    cases hr
    exact h2
   ·simp only [if_neg e2]
    rw [if_neg e2, if_neg e] at hr
    exact hres i r hr
def Res.sep (r1 r2 : Res) : Res := ⟨fun c ob => ∃ o1 o2 : Bs, (∀ b, ob b ↔ o1 b ∨ o2 b) ∧ (∀ b, o1 b → o2 b → False) ∧ r1.H c o1 ∧ r2.H c o2, by
 rintro c c' ob hle hk ⟨o1, o2, h1, h2, h3, h4⟩
 exact ⟨o1, o2, h1, h2, r1.fr _ _ _ hle (fun b hb => hk b ((h1 b).2 (.inl hb))) h3, r2.fr _ _ _ hle (fun b hb => hk b ((h1 b).2 (.inr hb))) h4⟩⟩
theorem To.split {X : Cx} {Γ : Facts} {ρ : Env} {σ σ' : List Res} (k j : Nat) {r1 r2 : Res} (hk : nth σ k = some (r1.sep r2)) (hj : nth σ j = some Go.Bn.emp) (hne : Nat.beq k j = false) (hσ : setNth (setNth σ k r1) j r2 = σ') : To X Γ ρ σ Γ ρ σ' :=
 To.two k j hk hj hne (fun c p q hp hq _ => by
  obtain ⟨o1, o2, h1, h2, h3, h4⟩ := hp
  exact ⟨o1, o2, h3, h4, fun x hx => .inl ((h1 x).2 (.inl hx)), fun x hx => .inl ((h1 x).2 (.inr hx)), h2⟩) hσ
theorem To.join {X : Cx} {Γ : Facts} {ρ : Env} {σ σ' : List Res} (k j : Nat) {r1 r2 : Res} (hk : nth σ k = some r1) (hj : nth σ j = some r2) (hne : Nat.beq k j = false) (hσ : setNth (setNth σ k (r1.sep r2)) j Go.Bn.emp = σ') : To X Γ ρ σ Γ ρ σ' :=
 To.two (a' := r1.sep r2) (b' := Go.Bn.emp) k j hk hj hne (fun c p q hp hq hd => ⟨fun b => p b ∨ q b, nob, ⟨p, q, fun _ => Iff.rfl, hd, hp, hq⟩, rfl, fun x hx => hx, fun x hx => (by cases hx), fun x _ hx => (by cases hx)⟩) hσ
def exR {α : Type} (f : α → Res) : Res := ⟨fun c ob => ∃ x, (f x).H c ob, fun c c' ob hle hk ⟨x, hx⟩ => ⟨x, (f x).fr _ _ _ hle hk hx⟩⟩
theorem J_ex {X : Cx} {Γ : Facts} {ρ : Env} {σ : List Res} {code : Code} {Q : Exit → Act → World → Prop} {α : Type} {f : α → Res} (k : Nat) (hk : nth σ k = some (exR f)) (h : ∀ x, J X Γ ρ (setNth σ k (f x)) code Q) : J X Γ ρ σ code Q := fun a c hs => by
 obtain ⟨obs, hown, hres⟩ := hs.own
 obtain ⟨x, hx⟩ := hres k _ hk
 refine h x a c ⟨hs.size, hs.defers, hs.facts, hs.env, obs, hown, fun j r hj => ?_⟩
 rw [nth_setNth] at hj
 by_cases hjk : j = k
 ·rw [if_pos hjk] at hj
  subst hjk
  rw [hk] at hj
  cases hj
  exact hx
 ·rw [if_neg hjk] at hj
  exact hres j r hj
theorem J_know {X : Cx} {Γ : Facts} {ρ : Env} {σ : List Res} {code : Code} {Q : Exit → Act → World → Prop} {r : Res} {R : Prop} (k : Nat) (hk : nth σ k = some r) (hr : ∀ c ob, r.H c ob → R) (h : R → J X Γ ρ σ code Q) : J X Γ ρ σ code Q := fun a c hs => by
 obtain ⟨obs, hown, hres⟩ := hs.own
 exact h (hr _ _ (hres k _ hk)) a c hs
def pool (n : Nat) (f : Nat → Res) : Res := ⟨fun c ob => ∃ os : Nat → Bs, (∀ b, ob b ↔ ∃ i, i < n ∧ os i b) ∧ (∀ i j b, i < n → j < n → os i b → os j b → i = j) ∧ ∀ i, i < n → (f i).H c (os i), by
 rintro c c' ob hle hk ⟨os, h1, h2, h3⟩
 exact ⟨os, h1, h2, fun i hi => (f i).fr _ _ _ hle (fun b hb => hk b ((h1 b).2 ⟨i, hi, hb⟩)) (h3 i hi)⟩⟩
theorem pool_nil {f : Nat → Res} : ∀ c ob, Go.Bn.emp.H c ob → (pool 0 f).H c ob := fun c ob h => by
 have h : ob = nob := h
 subst h
 exact ⟨fun _ => nob, fun b => ⟨fun hb => (by cases hb), fun ⟨i, hi, _⟩ => absurd hi (Nat.not_lt_zero i)⟩, fun i j b hi => absurd hi (Nat.not_lt_zero i), fun i hi => absurd hi (Nat.not_lt_zero i)⟩
theorem pool_congr {n : Nat} {f g : Nat → Res} (h : ∀ i, i < n → f i = g i) : ∀ c ob, (pool n f).H c ob → (pool n g).H c ob := fun c ob ⟨os, h1, h2, h3⟩ => ⟨os, h1, h2, fun i hi => h i hi ▸ h3 i hi⟩
def holeR (f : Nat → Res) (i : Nat) : Nat → Res := fun q => if q = i then Go.Bn.emp else f q
def fillR (f : Nat → Res) (i : Nat) (r : Res) : Nat → Res := fun q => if q = i then r else f q
theorem To.focus {X : Cx} {Γ : Facts} {ρ : Env} {σ σ' : List Res} (k j i : Nat) {n : Nat} {f : Nat → Res} (hi : i < n) (hk : nth σ k = some (pool n f)) (hj : nth σ j = some Go.Bn.emp) (hne : Nat.beq k j = false) (hσ : setNth (setNth σ k (pool n (holeR f i))) j (f i) = σ') : To X Γ ρ σ Γ ρ σ' :=
 To.two k j hk hj hne (fun c p q hp hq _ => by
  obtain ⟨os, h1, h2, h3⟩ := hp
  refine ⟨fun b => ∃ m, m < n ∧ m ≠ i ∧ os m b, os i, ⟨fun m => if m = i then nob else os m, fun b => ⟨fun ⟨m, g1, g2, g3⟩ => ⟨m, g1, by simp only [if_neg g2]; exact g3⟩, fun ⟨m, g1, g2⟩ => ?_⟩, fun a b x ha hb hx hy => ?_, fun m hm => ?_⟩, h3 i hi, fun x ⟨m, g1, _, g3⟩ => .inl ((h1 x).2 ⟨m, g1, g3⟩), fun x hx => .inl ((h1 x).2 ⟨i, hi, hx⟩), fun x ⟨m, g1, g2, g3⟩ hx => g2 (h2 m i x g1 hi g3 hx)⟩
  ·by_cases e : m = i
   ·simp only [if_pos e] at g2; cases g2
   ·simp only [if_neg e] at g2; exact ⟨m, g1, e, g2⟩
  ·by_cases e : a = i
   ·simp only [if_pos e] at hx; cases hx
   ·by_cases e2 : b = i
    ·simp only [if_pos e2] at hy; cases hy
    ·simp only [if_neg e] at hx; simp only [if_neg e2] at hy
     exact h2 a b x ha hb hx hy
  ·unfold holeR
   by_cases e : m = i
   ·simp only [if_pos e]; rfl
   ·simp only [if_neg e]; exact h3 m hm) hσ
theorem To.unfocus {X : Cx} {Γ : Facts} {ρ : Env} {σ σ' : List Res} (k j i : Nat) {n : Nat} {f : Nat → Res} {r : Res} (hi : i < n) (hk : nth σ k = some (pool n (holeR f i))) (hj : nth σ j = some r) (hne : Nat.beq k j = false) (hσ : setNth (setNth σ k (pool n (fillR f i r))) j Go.Bn.emp = σ') : To X Γ ρ σ Γ ρ σ' :=
 To.two k j hk hj hne (fun c p q hp hq hd => by
  obtain ⟨os, h1, h2, h3⟩ := hp
  have hoi : ∀ b, ¬ os i b := fun b hb => by
   have := h3 i hi
   unfold holeR at this
   rw [if_pos rfl] at this
   have this : os i = nob := this
   rw [this] at hb; cases hb
  refine ⟨fun b => p b ∨ q b, nob, ⟨fun m => if m = i then q else os m, fun b => ⟨fun hb => ?_, fun ⟨m, g1, g2⟩ => ?_⟩, fun a b x ha hb hx hy => ?_, fun m hm => ?_⟩, rfl, fun x hx => hx, fun x hx => (by cases hx), fun x _ hx => (by cases hx)⟩
  ·rcases hb with hb | hb
   ·obtain ⟨m, g1, g2⟩ := (h1 b).1 hb
    refine ⟨m, g1, ?_⟩
    by_cases e : m = i
    ·rw [e] at g2; exact (hoi b g2).elim
    ·simp only [if_neg e]; exact g2
   ·exact ⟨i, hi, by simp only [if_true]; exact hb⟩
  ·by_cases e : m = i
   ·simp only [if_pos e] at g2; exact .inr g2
   ·simp only [if_neg e] at g2; exact .inl ((h1 b).2 ⟨m, g1, g2⟩)
  ·by_cases e : a = i
   ·by_cases e2 : b = i
    ·rw [e, e2]
    ·simp only [if_pos e] at hx; simp only [if_neg e2] at hy
     exact (hd x ((h1 x).2 ⟨b, hb, hy⟩) hx).elim
   ·by_cases e2 : b = i
    ·simp only [if_neg e] at hx; simp only [if_pos e2] at hy
     exact (hd x ((h1 x).2 ⟨a, ha, hx⟩) hy).elim
    ·simp only [if_neg e] at hx; simp only [if_neg e2] at hy
     exact h2 a b x ha hb hx hy
  ·unfold fillR
   by_cases e : m = i
   ·simp only [if_pos e]; exact hq
   ·have := h3 m hm
    unfold holeR at this
    rw [if_neg e] at this
    simp only [if_neg e]; exact this) hσ
theorem To.push {X : Cx} {Γ : Facts} {ρ : Env} {σ σ' : List Res} (k j : Nat) {n : Nat} {f : Nat → Res} {r : Res} (hk : nth σ k = some (pool n f)) (hj : nth σ j = some r) (hne : Nat.beq k j = false) (hσ : setNth (setNth σ k (pool (n + 1) (fillR f n r))) j Go.Bn.emp = σ') : To X Γ ρ σ Γ ρ σ' :=
 To.two k j hk hj hne (fun c p q hp hq hd => by
  obtain ⟨os, h1, h2, h3⟩ := hp
  refine ⟨fun b => p b ∨ q b, nob, ⟨fun m => if m = n then q else os m, fun b => ⟨fun hb => ?_, fun ⟨m, g1, g2⟩ => ?_⟩, fun a b x ha hb hx hy => ?_, fun m hm => ?_⟩, rfl, fun x hx => hx, fun x hx => (by cases hx), fun x _ hx => (by cases hx)⟩
  ·rcases hb with hb | hb
   ·obtain ⟨m, g1, g2⟩ := (h1 b).1 hb
    exact ⟨m, by omega, by simp only [if_neg (show m ≠ n by omega)]; exact g2⟩
   ·exact ⟨n, by omega, by simp only [if_true]; exact hb⟩
  ·by_cases e : m = n
   ·simp only [if_pos e] at g2; exact .inr g2
   ·simp only [if_neg e] at g2; exact .inl ((h1 b).2 ⟨m, by omega, g2⟩)
  ·by_cases e : a = n
   ·by_cases e2 : b = n
    ·rw [e, e2]
    ·simp only [if_pos e] at hx; simp only [if_neg e2] at hy
     exact (hd x ((h1 x).2 ⟨b, by omega, hy⟩) hx).elim
   ·by_cases e2 : b = n
    ·simp only [if_neg e] at hx; simp only [if_pos e2] at hy
     exact (hd x ((h1 x).2 ⟨a, by omega, hx⟩) hy).elim
    ·simp only [if_neg e] at hx; simp only [if_neg e2] at hy
     exact h2 a b x (by omega) (by omega) hx hy
  ·unfold fillR
   by_cases e : m = n
   ·simp only [if_pos e]; exact hq
   ·simp only [if_neg e]; exact h3 m (by omega)) hσ
def SP.Pure (p : SP) : Prop := ∀ v c c', p.H v c → p.H v c'
theorem pure_isv (u : Value) : (isv u).Pure := fun _ _ _ h => h
def Res.Pure (r : Res) : Prop := ∀ c c' ob, c'.w = c.w → r.H c ob → r.H c' ob
end Go.Bn
