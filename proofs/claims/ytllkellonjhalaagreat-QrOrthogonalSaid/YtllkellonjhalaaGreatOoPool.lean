/-
 Several resources as one; rows in memory of their own; slices of what is owned; calls that only read what their caller owns.
-/
import Derived.Test.YtllkellonjhalaaGreatOoQra
set_option linter.unusedVariables false
set_option linter.unusedSimpArgs false
namespace Go.Bn
open Go
theorem To.two {X : Cx} {Γ : Facts} {ρ : Env} {σ σ' : List Res} (k j : Nat) {a b a' b' : Res} (hk : nth σ k = some a) (hj : nth σ j = some b) (hne : Nat.beq k j = false)
  (h : ∀ c o1 o2, a.H c o1 → b.H c o2 → (∀ x, o1 x → o2 x → False) → ∃ p1 p2 : Bs, a'.H c p1 ∧ b'.H c p2 ∧ (∀ x, p1 x → o1 x ∨ o2 x) ∧ (∀ x, p2 x → o1 x ∨ o2 x) ∧ (∀ x, p1 x → p2 x → False))
  (hσ : setNth (setNth σ k a') j b' = σ') : To X Γ ρ σ Γ ρ σ' := by
 subst hσ
 have hne' : k ≠ j := Nat.ne_of_beq_eq_false hne
 intro A c hs
 obtain ⟨obs, hown, hres⟩ := hs.own
 obtain ⟨p1, p2, h1, h2, h3, h4, h5⟩ := h c (obs k) (obs j) (hres k a hk) (hres j b hj) fun x hx hy => hne' (hown.one k j x hx hy)
 refine ⟨c, rfl, hs.size, hs.defers, hs.facts, hs.env, fun i => if i = k then p1 else if i = j then p2 else obs i, ?_, fun i r hr => ?_⟩
 ·have sub : ∀ i x, (if i = k then p1 else if i = j then p2 else obs i) x → (i = k ∧ p1 x) ∨ (i ≠ k ∧ i = j ∧ p2 x) ∨ (i ≠ k ∧ i ≠ j ∧ obs i x) := fun i x hx => by
   by_cases e : i = k
   ·rw [if_pos e] at hx; exact .inl ⟨e, hx⟩
   ·rw [if_neg e] at hx
    by_cases e2 : i = j
    ·rw [if_pos e2] at hx; exact .inr (.inl ⟨e, e2, hx⟩)
    ·rw [if_neg e2] at hx; exact .inr (.inr ⟨e, e2, hx⟩)
  have old : ∀ x, p1 x ∨ p2 x → obs k x ∨ obs j x := fun x hx => hx.elim (h3 x) (h4 x)
  exact { hown with
   has := fun i x hx => by
    rcases sub i x hx with ⟨_, q⟩ | ⟨_, _, q⟩ | ⟨_, _, q⟩
    ·exact (h3 x q).elim (hown.has k x) (hown.has j x)
    ·exact (h4 x q).elim (hown.has k x) (hown.has j x)
    ·exact hown.has i x q
   one := fun i i' x hx hy => by
    rcases sub i x hx with ⟨e, q⟩ | ⟨e0, e, q⟩ | ⟨e0, e, q⟩ <;> rcases sub i' x hy with ⟨f, s⟩ | ⟨f0, f, s⟩ | ⟨f0, f, s⟩
    ·rw [e, f]
    ·exact (h5 x q s).elim
    ·rcases old x (.inl q) with o | o
     ·exact (f0 (hown.one i' k x s o)).elim
     ·exact (f (hown.one i' j x s o)).elim
    ·exact (h5 x s q).elim
    ·rw [e, f]
    ·rcases old x (.inr q) with o | o
     ·exact (f0 (hown.one i' k x s o)).elim
     ·exact (f (hown.one i' j x s o)).elim
    ·rcases old x (.inl s) with o | o
     ·exact (e0 (hown.one i k x q o)).elim
     ·exact (e (hown.one i j x q o)).elim
    ·rcases old x (.inr s) with o | o
     ·exact (e0 (hown.one i k x q o)).elim
     ·exact (e (hown.one i j x q o)).elim
    ·exact hown.one i i' x q s }
 ·rw [nth_setNth, nth_setNth] at hr
  by_cases e : i = k
  ·simp only [if_pos e]
   rw [if_neg (by rw [e]; exact hne'), if_pos e, e, hk] at hr
   cases hr
   exact h1
  ·simp only [if_neg e]
   by_cases e2 : i = j
   ·simp only [if_pos e2]
    rw [if_pos e2, e2, if_neg (Ne.symm hne'), hj] at hr
    cases hr
    exact h2
   ·simp only [if_neg e2]
    rw [if_neg e2, if_neg e] at hr
    exact hres i r hr
def Res.sep (r1 r2 : Res) : Res := ⟨fun c ob => ∃ o1 o2 : Bs, (∀ b, ob b ↔ o1 b ∨ o2 b) ∧ (∀ b, o1 b → o2 b → False) ∧ r1.H c o1 ∧ r2.H c o2, by
 rintro c c' ob hle hk ⟨o1, o2, h1, h2, h3, h4⟩
 exact ⟨o1, o2, h1, h2, r1.fr _ _ _ hle (fun b hb => hk b ((h1 b).2 (.inl hb))) h3, r2.fr _ _ _ hle (fun b hb => hk b ((h1 b).2 (.inr hb))) h4⟩⟩
theorem To.split {X : Cx} {Γ : Facts} {ρ : Env} {σ σ' : List Res} (k j : Nat) {r1 r2 : Res} (hk : nth σ k = some (r1.sep r2)) (hj : nth σ j = some Go.Bn.emp) (hne : Nat.beq k j = false) (hσ : setNth (setNth σ k r1) j r2 = σ') : To X Γ ρ σ Γ ρ σ' :=
 To.two k j hk hj hne (fun c p q hp hq _ => by
  obtain ⟨o1, o2, h1, h2, h3, h4⟩ := hp
  exact ⟨o1, o2, h3, h4, fun x hx => .inl ((h1 x).2 (.inl hx)), fun x hx => .inl ((h1 x).2 (.inr hx)), h2⟩) hσ
theorem To.join {X : Cx} {Γ : Facts} {ρ : Env} {σ σ' : List Res} (k j : Nat) {r1 r2 : Res} (hk : nth σ k = some r1) (hj : nth σ j = some r2) (hne : Nat.beq k j = false) (hσ : setNth (setNth σ k (r1.sep r2)) j Go.Bn.emp = σ') : To X Γ ρ σ Γ ρ σ' :=
 To.two (a' := r1.sep r2) (b' := Go.Bn.emp) k j hk hj hne (fun c p q hp hq hd => ⟨fun b => p b ∨ q b, nob, ⟨p, q, fun _ => Iff.rfl, hd, hp, hq⟩, rfl, fun x hx => hx, fun x hx => (by cases hx), fun x _ hx => (by cases hx)⟩) hσ
def exR {α : Type} (f : α → Res) : Res := ⟨fun c ob => ∃ x, (f x).H c ob, fun c c' ob hle hk ⟨x, hx⟩ => ⟨x, (f x).fr _ _ _ hle hk hx⟩⟩
theorem J_ex {X : Cx} {Γ : Facts} {ρ : Env} {σ : List Res} {code : Code} {Q : Exit → Act → World → Prop} {α : Type} {f : α → Res} (k : Nat) (hk : nth σ k = some (exR f)) (h : ∀ x, J X Γ ρ (setNth σ k (f x)) code Q) : J X Γ ρ σ code Q := fun a c hs => by
 obtain ⟨obs, hown, hres⟩ := hs.own
 obtain ⟨x, hx⟩ := hres k _ hk
 refine h x a c ⟨hs.size, hs.defers, hs.facts, hs.env, obs, hown, fun j r hj => ?_⟩
 rw [nth_setNth] at hj
 by_cases hjk : j = k
 ·rw [if_pos hjk] at hj
  subst hjk
  rw [hk] at hj
  cases hj
  exact hx
 ·rw [if_neg hjk] at hj
  exact hres j r hj
def pool (n : Nat) (f : Nat → Res) : Res := ⟨fun c ob => ∃ os : Nat → Bs, (∀ b, ob b ↔ ∃ i, i < n ∧ os i b) ∧ (∀ i j b, i < n → j < n → os i b → os j b → i = j) ∧ ∀ i, i < n → (f i).H c (os i), by
 rintro c c' ob hle hk ⟨os, h1, h2, h3⟩
 exact ⟨os, h1, h2, fun i hi => (f i).fr _ _ _ hle (fun b hb => hk b ((h1 b).2 ⟨i, hi, hb⟩)) (h3 i hi)⟩⟩
theorem pool_nil {f : Nat → Res} : ∀ c ob, Go.Bn.emp.H c ob → (pool 0 f).H c ob := fun c ob h => by
 have h : ob = nob := h
 subst h
 exact ⟨fun _ => nob, fun b => ⟨fun hb => (by cases hb), fun ⟨i, hi, _⟩ => absurd hi (Nat.not_lt_zero i)⟩, fun i j b hi => absurd hi (Nat.not_lt_zero i), fun i hi => absurd hi (Nat.not_lt_zero i)⟩
theorem pool_congr {n : Nat} {f g : Nat → Res} (h : ∀ i, i < n → f i = g i) : ∀ c ob, (pool n f).H c ob → (pool n g).H c ob := fun c ob ⟨os, h1, h2, h3⟩ => ⟨os, h1, h2, fun i hi => h i hi ▸ h3 i hi⟩
def holeR (f : Nat → Res) (i : Nat) : Nat → Res := fun q => if q = i then Go.Bn.emp else f q
def fillR (f : Nat → Res) (i : Nat) (r : Res) : Nat → Res := fun q => if q = i then r else f q
theorem To.focus {X : Cx} {Γ : Facts} {ρ : Env} {σ σ' : List Res} (k j i : Nat) {n : Nat} {f : Nat → Res} (hi : i < n) (hk : nth σ k = some (pool n f)) (hj : nth σ j = some Go.Bn.emp) (hne : Nat.beq k j = false) (hσ : setNth (setNth σ k (pool n (holeR f i))) j (f i) = σ') : To X Γ ρ σ Γ ρ σ' :=
 To.two k j hk hj hne (fun c p q hp hq _ => by
  obtain ⟨os, h1, h2, h3⟩ := hp
  refine ⟨fun b => ∃ m, m < n ∧ m ≠ i ∧ os m b, os i, ⟨fun m => if m = i then nob else os m, fun b => ⟨fun ⟨m, g1, g2, g3⟩ => ⟨m, g1, by simp only [if_neg g2]; exact g3⟩, fun ⟨m, g1, g2⟩ => ?_⟩, fun a b x ha hb hx hy => ?_, fun m hm => ?_⟩, h3 i hi, fun x ⟨m, g1, _, g3⟩ => .inl ((h1 x).2 ⟨m, g1, g3⟩), fun x hx => .inl ((h1 x).2 ⟨i, hi, hx⟩), fun x ⟨m, g1, g2, g3⟩ hx => g2 (h2 m i x g1 hi g3 hx)⟩
  ·by_cases e : m = i
   ·simp only [if_pos e] at g2; cases g2
   ·simp only [if_neg e] at g2; exact ⟨m, g1, e, g2⟩
  ·by_cases e : a = i
   ·simp only [if_pos e] at hx; cases hx
   ·by_cases e2 : b = i
    ·simp only [if_pos e2] at hy; cases hy
    ·simp only [if_neg e] at hx; simp only [if_neg e2] at hy
     exact h2 a b x ha hb hx hy
  ·unfold holeR
   by_cases e : m = i
   ·simp only [if_pos e]; rfl
   ·simp only [if_neg e]; exact h3 m hm) hσ
theorem To.unfocus {X : Cx} {Γ : Facts} {ρ : Env} {σ σ' : List Res} (k j i : Nat) {n : Nat} {f : Nat → Res} {r : Res} (hi : i < n) (hk : nth σ k = some (pool n (holeR f i))) (hj : nth σ j = some r) (hne : Nat.beq k j = false) (hσ : setNth (setNth σ k (pool n (fillR f i r))) j Go.Bn.emp = σ') : To X Γ ρ σ Γ ρ σ' :=
 To.two k j hk hj hne (fun c p q hp hq hd => by
  obtain ⟨os, h1, h2, h3⟩ := hp
  have hoi : ∀ b, ¬ os i b := fun b hb => by
   have := h3 i hi
   unfold holeR at this
   rw [if_pos rfl] at this
   have this : os i = nob := this
   rw [this] at hb; cases hb
  refine ⟨fun b => p b ∨ q b, nob, ⟨fun m => if m = i then q else os m, fun b => ⟨fun hb => ?_, fun ⟨m, g1, g2⟩ => ?_⟩, fun a b x ha hb hx hy => ?_, fun m hm => ?_⟩, rfl, fun x hx => hx, fun x hx => (by cases hx), fun x _ hx => (by cases hx)⟩
  ·rcases hb with hb | hb
   ·obtain ⟨m, g1, g2⟩ := (h1 b).1 hb
    refine ⟨m, g1, ?_⟩
    by_cases e : m = i
    ·rw [e] at g2; exact (hoi b g2).elim
    ·simp only [if_neg e]; exact g2
   ·exact ⟨i, hi, by simp only [if_true]; exact hb⟩
  ·by_cases e : m = i
   ·simp only [if_pos e] at g2; exact .inr g2
   ·simp only [if_neg e] at g2; exact .inl ((h1 b).2 ⟨m, g1, g2⟩)
  ·by_cases e : a = i
   ·by_cases e2 : b = i
    ·rw [e, e2]
    ·simp only [if_pos e] at hx; simp only [if_neg e2] at hy
     exact (hd x ((h1 x).2 ⟨b, hb, hy⟩) hx).elim
   ·by_cases e2 : b = i
    ·simp only [if_neg e] at hx; simp only [if_pos e2] at hy
     exact (hd x ((h1 x).2 ⟨a, ha, hx⟩) hy).elim
    ·simp only [if_neg e] at hx; simp only [if_neg e2] at hy
     exact h2 a b x ha hb hx hy
  ·unfold fillR
   by_cases e : m = i
   ·simp only [if_pos e]; exact hq
   ·have := h3 m hm
    unfold holeR at this
    rw [if_neg e] at this
    simp only [if_neg e]; exact this) hσ
theorem To.push {X : Cx} {Γ : Facts} {ρ : Env} {σ σ' : List Res} (k j : Nat) {n : Nat} {f : Nat → Res} {r : Res} (hk : nth σ k = some (pool n f)) (hj : nth σ j = some r) (hne : Nat.beq k j = false) (hσ : setNth (setNth σ k (pool (n + 1) (fillR f n r))) j Go.Bn.emp = σ') : To X Γ ρ σ Γ ρ σ' :=
 To.two k j hk hj hne (fun c p q hp hq hd => by
  obtain ⟨os, h1, h2, h3⟩ := hp
  refine ⟨fun b => p b ∨ q b, nob, ⟨fun m => if m = n then q else os m, fun b => ⟨fun hb => ?_, fun ⟨m, g1, g2⟩ => ?_⟩, fun a b x ha hb hx hy => ?_, fun m hm => ?_⟩, rfl, fun x hx => hx, fun x hx => (by cases hx), fun x _ hx => (by cases hx)⟩
  ·rcases hb with hb | hb
   ·obtain ⟨m, g1, g2⟩ := (h1 b).1 hb
    exact ⟨m, by omega, by simp only [if_neg (show m ≠ n by omega)]; exact g2⟩
   ·exact ⟨n, by omega, by simp only [if_true]; exact hb⟩
  ·by_cases e : m = n
   ·simp only [if_pos e] at g2; exact .inr g2
   ·simp only [if_neg e] at g2; exact .inl ((h1 b).2 ⟨m, by omega, g2⟩)
  ·by_cases e : a = n
   ·by_cases e2 : b = n
    ·rw [e, e2]
    ·simp only [if_pos e] at hx; simp only [if_neg e2] at hy
     exact (hd x ((h1 x).2 ⟨b, by omega, hy⟩) hx).elim
   ·by_cases e2 : b = n
    ·simp only [if_neg e] at hx; simp only [if_pos e2] at hy
     exact (hd x ((h1 x).2 ⟨a, by omega, hx⟩) hy).elim
    ·simp only [if_neg e] at hx; simp only [if_neg e2] at hy
     exact h2 a b x (by omega) (by omega) hx hy
  ·unfold fillR
   by_cases e : m = n
   ·simp only [if_pos e]; exact hq
   ·simp only [if_neg e]; exact h3 m (by omega)) hσ
def vsl (u : Value) (i n : Nat) : SP := ⟨fun v _ => (u = .slice none 0 0 ∧ n = 0 ∧ i = 0 ∧ v = .slice none 0 0) ∨ ∃ b cap, u = .slice (some ⟨b, 0, none⟩) n cap ∧ i ≤ n ∧ n ≤ cap ∧ cap ≤ maxLen ∧ v = .slice (some ⟨b, if cap = i then 0 else i, none⟩) (n - i) (cap - i), fun _ _ _ _ h => h⟩
theorem vsl_frz {α : Type} {mk : α → SP} {u v : Value} {xs : List α} {T : TypeId} {i : Nat} {c c1 : EW} {ob : Bs} (h : (som u mk xs T).H c ob) (hv : (vsl u i xs.length).H v c) (hle : Le c c1) (hob : ∀ b, ob b → c1.w.heap[b]? = c.w.heap[b]? ∧ ¬ c1.M b) : (slm mk (xs.drop i)).H v c1 := by
 show (slc ((xs.drop i).map mk).length 1 ((xs.drop i).map mk)).H v c1
 have hl : ((xs.drop i).map mk).length = xs.length - i := by simp
 rw [hl]
 refine ⟨by rw [hl, Nat.mul_one], ?_⟩
 rcases hv with ⟨g1, g2, g3, g4⟩ | ⟨b, cap, g1, g2, g3, g4, g5⟩
 ·exact .inl ⟨g4, by omega⟩
 ·refine .inr ⟨_, cap - i, g5, by omega, by omega, ?_⟩
  by_cases hn : xs.length - i = 0
  ·exact .inl hn
  ·rcases h.2 with ⟨h2, h3, _⟩ | ⟨b', cap', cur, h2, h3, h4, h5, h6, h7, h8⟩
   ·omega
   ·rw [g1] at h2
    simp only [Value.slice.injEq, Option.some.injEq, Addr.mk.injEq, and_true, true_and] at h2
    obtain ⟨e1, e2⟩ := h2
    subst e1; subst e2
    have hb := hob b (mem1 h3)
    refine .inr ⟨b, _, rfl, hb.2, cur, T, (0, 0), hb.1.trans h6, fun j p hj => ?_⟩
    rw [if_neg (by omega)]
    rw [nth_eq, List.getElem?_map, List.getElem?_drop] at hj
    obtain ⟨w, q1, q2, q3⟩ := h8 (i + j) p (by rw [nth_eq, List.getElem?_map]; exact hj)
    rw [Nat.zero_add] at q1
    exact ⟨w, q1, q2, p.st _ _ _ hle q3⟩
def SP.Pure (p : SP) : Prop := ∀ v c c', p.H v c → p.H v c'
theorem pure_isv (u : Value) : (isv u).Pure := fun _ _ _ h => h
theorem pure_flp (x : Nat) : (flp x).Pure := fun _ _ _ h => h
inductive PureL : List SP → Prop
 | nil : PureL []
 | cons {p : SP} {ps : List SP} (h : p.Pure) (t : PureL ps) : PureL (p :: ps)
theorem PureL.nth {ps : List SP} (h : PureL ps) : ∀ {i p}, nth ps i = some p → p.Pure := by
 induction h with
 | nil => intro i p hi; simp [Go.Bn.nth] at hi
 | cons h t ih =>
  intro i p hi
  cases i with
  | zero => simp [Go.Bn.nth] at hi; rw [← hi]; exact h
  | succ i => exact ih (by simpa [Go.Bn.nth] using hi)
theorem pure_agg {ps : List SP} (h : PureL ps) : (aggp ps).Pure := fun v c c' ⟨cs, h1, h2, h3⟩ => ⟨cs, h1, h2, fun i p hi => by
 obtain ⟨u, q1, q2, q3⟩ := h3 i p hi
 exact ⟨u, q1, q2, h.nth hi _ _ _ q3⟩⟩
def Res.Pure (r : Res) : Prop := ∀ c c' ob, c'.w = c.w → r.H c ob → r.H c' ob
theorem pure_som {α : Type} {mk : α → SP} (hmk : ∀ a, (mk a).Pure) {u : Value} {xs : List α} {T : TypeId} : (som u mk xs T).Pure := by
 rintro c c' ob hw ⟨h0, h⟩
 refine ⟨h0, ?_⟩
 rcases h with h | ⟨b, cap, cur, h1, h2, h3, h4, h5, h6, h7⟩
 ·exact .inl h
 ·refine .inr ⟨b, cap, cur, h1, h2, h3, h4, by rw [hw]; exact h5, h6, fun j p hj => ?_⟩
  obtain ⟨w, q1, q2, q3⟩ := h7 j p hj
  refine ⟨w, q1, q2, ?_⟩
  rw [nth_eq, List.getElem?_map] at hj
  cases hx : xs[j]? with
  | none => rw [hx] at hj; cases hj
  | some a =>
   rw [hx] at hj
   cases hj
   exact hmk a _ _ _ q3
section ops
variable {P : Program} {n : Nat} {ops : Array Oper} {Γ : Facts} {ρ : Env} {δ : VEnv} {τ : List VR}
variable {d : Nat} {ty : TypeId} {pos : String} {af : Array Edge}
theorem op_slice_vsl {α : Type} {mk : α → SP} {xs : List α} {x lo : Operand} {T E eb : Nat} {k1 : IntKind} {l : Int} {sv : Value} {T' : TypeId} (k : Nat) (ht : slT P T = some (E, 1, eb)) (hx : Lk Γ δ ρ x (isv sv)) (hlo : Lk Γ δ ρ lo (isv (.int k1 l))) (hk : nth τ k = some (.c (som sv mk xs T'))) (h0 : 0 ≤ l) (h1 : l ≤ xs.length) :
  OpOK P n ops Γ ρ δ τ ⟨some d, .slice T x (some lo) none none, ty, pos, af, none⟩ (.rd k) (.c (vsl sv l.toNat xs.length)) dum :=
 ok_read hk fun a c ob _ hr hh => by
  have hv := (hr x _ (by simp [Op.operands]) hx).1
  have hz := (hr lo _ (by simp [Op.operands]) hlo).1
  obtain ⟨hu, i, hi', hs, _⟩ := slT_u ht
  rcases hh.2 with ⟨h2, h3, _⟩ | ⟨b, cap, cur, h2, h3, h4, h5, h6, h7⟩
  ·have hl0 : l = 0 := by omega
   subst hl0
   refine ⟨.slice none 0 0, ?_, .inl ⟨h2, h3, rfl, rfl⟩⟩
   simp [execOp, Instr.sliceAt, Instr.slice, run_underlying hu, h2, hv, hz, Instr.sliceBounds, Instr.sliceBound, asIntOf, sizeOf, typeInfo, hi']
  ·refine ⟨.slice (some ⟨b, if cap = l.toNat then 0 else l.toNat, none⟩) (xs.length - l.toNat) (cap - l.toNat), ?_, .inr ⟨b, cap, h2, by omega, h4, h5, rfl⟩⟩
   have hl : l ≤ (xs.length : Int) := h1
   by_cases hc : cap = l.toNat
   ·simp [execOp, Instr.sliceAt, Instr.slice, run_underlying hu, h2, hv, hz, Instr.sliceBounds, Instr.sliceBound, asIntOf, sizeOf, typeInfo, hi', hs, hl, h0, hc]
   ·simp [execOp, Instr.sliceAt, Instr.slice, run_underlying hu, h2, hv, hz, Instr.sliceBounds, Instr.sliceBound, asIntOf, sizeOf, typeInfo, hi', hs, hl, h0, hc, addr_add]
theorem vsl_slice {u v : Value} {i n : Nat} {c : EW} (h : (vsl u i n).H v c) : ∃ ad cap, v = .slice ad (n - i) cap := by
 rcases h with ⟨_, h2, h3, h4⟩ | ⟨b, cap, _, _, _, _, h5⟩
 ·have e : n - i = 0 := by rw [h2]; exact Nat.zero_sub i
  exact ⟨none, 0, by rw [h4, e]⟩
 ·exact ⟨_, _, h5⟩
theorem op_len_vsl {x : Operand} {t : TypeId} {E es eb : Nat} {u : Value} {i m : Nat} (ht : slT P t = some (E, es, eb)) (hx : Lk Γ δ ρ x (vsl u i m)) :
  OpOK P n ops Γ ρ δ τ ⟨some d, .call ⟨.builtin .len, #[x], #[t]⟩, ty, pos, af, none⟩ .no (.c (isv (.int .i64 ((m - i : Nat) : Int)))) dum :=
 ok_pure fun a c _ hr => by
  obtain ⟨ad, cap, hsv⟩ := vsl_slice (hr x _ (by simp [Op.operands, Call.operands]) hx)
  refine ⟨.int .i64 ((m - i : Nat) : Int), ?_, rfl, rfl⟩
  simp [execOp, resolve, invoke, builtin, Builtin.len_, hsv, run_underlying (slT_u ht).1, goInt]
theorem op_index_vsl {x y : Operand} {T : TypeId} {E eb : Nat} {ki : IntKind} {z : Int} {u : Value} {i m : Nat} (ht : slT P T = some (E, 1, eb)) (hx : Lk Γ δ ρ x (vsl u i m)) (hy : Lk Γ δ ρ y (isv (.int ki z))) (h0 : 0 ≤ z) (h1 : z < ((m - i : Nat) : Int)) :
  OpOK P n ops Γ ρ δ τ ⟨some d, .indexAddr T x y, ty, pos, af, none⟩ .no (.c (ipo u (i + z.toNat))) dum :=
 ok_pure fun a c _ hr => by
  have hv := hr x _ (by simp [Op.operands]) hx
  have hz := (hr y _ (by simp [Op.operands]) hy).1
  rcases hv with ⟨_, h2, h3, h4⟩ | ⟨b, cap, g1, g2, g3, g4, g5⟩
  ·omega
  ·have hrun := run_indexAt (P := P) ht c.w (b := b) (off := if cap = i then 0 else i) (len := m - i) (cap := cap - i) (k := ki) (z := z) h0 h1
   have hne : ¬ cap = i := by omega
   rw [if_neg hne, Nat.mul_one] at hrun
   rw [if_neg hne] at g5
   exact ⟨.pointer (some ⟨b, i + z.toNat, none⟩), by simp only [execOp, g5, hz, Sem.run_bind, hrun, Result.andThen_ok, Sem.run_pure], b, .inr ⟨m, cap, g1⟩, rfl⟩
theorem op_callBF {α : Type} {mk : α → SP} {f : Nat} {x : Operand} {pr : Value → Value} {R : Value → SP} {r : Value → Res} {u : Value} {i : Nat} {xs : List α} {T : TypeId} {ats : Array TypeId} (k : Nat) (hf : CtF P f [slm mk (xs.drop i)] pr R r) (hR : ∀ v, (R v).Pure) (hr : ∀ v, (r v).Pure) (hx : Lk Γ δ ρ x (vsl u i xs.length)) (hk : nth τ k = some (.c (som u mk xs T))) :
  OpOK P n ops Γ ρ δ τ ⟨some d, .call ⟨.value (.func f), #[x], ats⟩, ty, pos, af, none⟩ (.wr k) (.d [d] (fun g => R (pr (g d))) (fun g g' h => by rw [h d (List.mem_singleton.2 rfl)])) (.d [d] (fun g => (som u mk xs T).sep (r (pr (g d)))) (fun g g' h => by rw [h d (List.mem_singleton.2 rfl)])) := by
 intro a c ob hs hwf hfa hrd hres hno hown
 obtain ⟨r0, hr0, hh⟩ := hres k rfl
 rw [hk] at hr0
 cases hr0
 have hh' : (som u mk xs T).H c ob := hh
 have hv := Lk.val (o := ⟨some d, .call ⟨.value (.func f), #[x], ats⟩, ty, pos, af, none⟩) hrd hfa (x := x) (by simp [Op.operands, Call.operands]) hx
 let c1 : EW := ⟨c.w, fun b => c.M b ∧ ¬ ob b⟩
 have hle : Le c c1 := ⟨rfl, rfl, rfl, Nat.le_refl _, fun j _ hm => ⟨rfl, fun h => hm h.1⟩⟩
 have harg := vsl_frz hh' hv hle fun b hb => ⟨rfl, fun h => h.2 hb⟩
 simp only [Region.wanted, if_true]
 unfold Does
 have hex : (execOp a.eval ⟨some d, .call ⟨.value (.func f), #[x], ats⟩, ty, pos, af, none⟩).run P c.w = .ok (.enter f #[a.eval x]) c.w := by
  have h1 := run_callFunc hf.1 #[a.eval x] c.w
  simp [execOp, resolve, Deferred.ofValue, Act.eval, invoke] at h1 ⊢
  simp [h1]
 rw [hex]
 refine (hf.2 [a.eval x] c1 (fun j hj => hwf j hj.1) ⟨harg, trivial⟩).mono fun e w' ⟨v, ob2, he, hxt, hlt, hR', hr'⟩ => ?_
 have htr : Tr c ob true ⟨w', fun j => c.M j ∨ ob2 j⟩ (fun j => ob j ∨ ob2 j) := by
  refine ⟨hxt.os, hxt.tape, hxt.out, hxt.size, fun j hj _ => hxt.heap j hj, fun j hj => ⟨fun h => h.resolve_right (fun h2 => by have := (hlt j h2).1; exact absurd hj (Nat.not_lt.2 this)), .inl⟩, .inr ⟨rfl, fun b hb => hb.elim .inl fun h2 => .inr ⟨(hlt b h2).1, .inr h2⟩⟩, fun j hj => ?_⟩
  rcases hj with hj | hj
  ·exact Nat.lt_of_lt_of_le (hwf j hj) hxt.size
  ·exact (hlt j hj).2
 have hle2 := htr.le fun b hb => (hown b hb).1
 refine ⟨v, he, ⟨w', fun j => c.M j ∨ ob2 j⟩, fun j => ob j ∨ ob2 j, rfl, htr, ?_, fun _ => ?_⟩
 ·simp only [VE.at, upd_eq]
  exact hR _ _ _ _ hR'
 ·simp only [VR.at, upd_eq]
  refine ⟨ob, ob2, fun _ => Iff.rfl, fun b h1 h2 => by have := (hown b h1).2; have := (hlt b h2).1; exact absurd ‹b < c.w.heap.size› (Nat.not_lt.2 this), ?_, ?_⟩
  ·exact (som u mk xs T).fr _ _ _ hle2 (fun b hb => hxt.heap b (hown b hb).2) hh'
  ·exact hr _ ⟨w', fun j => c1.M j ∨ ob2 j⟩ _ _ rfl hr'
theorem op_callB0 {α : Type} {mk : α → SP} {f : Nat} {x : Operand} {R : SP} {u : Value} {xs : List α} {T : TypeId} {ats : Array TypeId} (k : Nat) (hf : Ct P f [slm mk xs] R) (hR : R.Pure) (hx : Lk Γ δ ρ x (isv u)) (hk : nth τ k = some (.c (som u mk xs T))) :
  OpOK P n ops Γ ρ δ τ ⟨some d, .call ⟨.value (.func f), #[x], ats⟩, ty, pos, af, none⟩ (.rd k) (.c R) dum := by
 intro a c ob hs hwf hfa hr hres hno hown
 obtain ⟨r0, hr0, hh⟩ := hres k rfl
 rw [hk] at hr0
 cases hr0
 have hh' : (som u mk xs T).H c ob := hh
 have hv := (Lk.val (o := ⟨some d, .call ⟨.value (.func f), #[x], ats⟩, ty, pos, af, none⟩) hr hfa (x := x) (by simp [Op.operands, Call.operands]) hx).1
 let c1 : EW := ⟨c.w, fun b => c.M b ∧ ¬ ob b⟩
 have hle : Le c c1 := ⟨rfl, rfl, rfl, Nat.le_refl _, fun j _ hm => ⟨rfl, fun h => hm h.1⟩⟩
 have harg : (slm mk xs).H (a.eval x) c1 := by rw [hv]; exact frz_som c c1 ob hh' hle fun b hb => ⟨rfl, fun h => h.2 hb⟩
 simp only [Region.wanted, if_true]
 unfold Does
 have hex : (execOp a.eval ⟨some d, .call ⟨.value (.func f), #[x], ats⟩, ty, pos, af, none⟩).run P c.w = .ok (.enter f #[a.eval x]) c.w := by
  have h1 := run_callFunc hf.1 #[a.eval x] c.w
  simp [execOp, resolve, Deferred.ofValue, Act.eval, invoke] at h1 ⊢
  simp [h1]
 rw [hex]
 refine (hf.2 [a.eval x] c1 (fun j hj => hwf j hj.1) ⟨harg, trivial⟩).mono fun e w' ⟨v, he, hxt, hR'⟩ => ⟨v, he, ⟨w', c.M⟩, ob, rfl, ?_, hR _ _ _ hR', fun h => (by cases h)⟩
 exact ⟨hxt.os, hxt.tape, hxt.out, hxt.size, fun j hj _ => hxt.heap j hj, fun _ _ => Iff.rfl, .inl rfl, fun j hj => Nat.lt_of_lt_of_le (hwf j hj) hxt.size⟩
theorem op_clear_vsl {α : Type} {mk : α → SP} (v0 : α) {xs : List α} {x : Operand} {T E eb : Nat} {u : Value} {i : Nat} {T' : TypeId} (k : Nat) {zv : Value} (ht : slT P T = some (E, 1, eb)) (hz : zrT P E = some [zv]) (hz1 : zv.oneCell' = true) (hmk : ∀ c, (mk v0).H zv c) (hx : Lk Γ δ ρ x (vsl u i xs.length)) (hk : nth τ k = some (.c (som u mk xs T'))) (hi : i < xs.length) :
  OpOK P n ops Γ ρ δ τ ⟨none, .call ⟨.builtin .clear, #[x], #[T]⟩, ty, pos, af, none⟩ (.wr k) (.c anyp) (.c (som u mk (xs.take i ++ List.replicate (xs.length - i) v0) T')) := by
 intro a c ob hs hwf hf hr hres hno hown
 obtain ⟨r0, hr0, hh⟩ := hres k rfl
 rw [hk] at hr0
 cases hr0
 have hh' : (som u mk xs T').H c ob := hh
 have hv := Lk.val (o := ⟨none, .call ⟨.builtin .clear, #[x], #[T]⟩, ty, pos, af, none⟩) hr hf (x := x) (by simp [Op.operands, Call.operands]) hx
 obtain ⟨hu, inf, hinf, hsz, _⟩ := slT_u ht
 unfold zrT at hz
 rw [hinf] at hz
 simp only [Option.bind_some] at hz
 cases hzz : inf.zero with
 | none => rw [hzz] at hz; cases hz
 | some z =>
  rw [hzz] at hz
  simp only [Option.map_some, Option.some.injEq] at hz
  have hzc : z.cells = #[zv] := by
   apply Array.toList_inj.1
   rw [hz]
  obtain ⟨h0, hcase⟩ := hh'
  rcases hcase with ⟨h2, h3, _⟩ | ⟨b, cap, cur, h1, h2, h3, h4, h5, h6, h7⟩
  ·omega
  ·rcases hv with ⟨g1, g2, _⟩ | ⟨b', cap', g1, g2, g3, g4, g5⟩
   ·omega
   ·rw [h1] at g1
    simp only [Value.slice.injEq, Option.some.injEq, Addr.mk.injEq, and_true, true_and] at g1
    obtain ⟨e1, e2⟩ := g1
    subst e1; subst e2
    have hne : ¬ cap = i := by omega
    rw [if_neg hne] at g5
    obtain ⟨q, hq⟩ : ∃ q, xs.length - i = q + 1 := ⟨xs.length - i - 1, by omega⟩
    have hcells : (Builtin.zeroCells z.cells (xs.length - i)).toList = List.replicate (xs.length - i) zv := by
     unfold Builtin.zeroCells
     rw [hzc]
     apply List.ext_getElem
     ·simp
     ·intro j h8 h9
      simp [Nat.mod_one]
    have h6' : cur.size = cap := by rw [h6, Nat.mul_one]
    have hst := run_storeCells_at P b i T' (List.replicate (xs.length - i) zv) 0 cur c.w h5 (by rw [List.length_replicate, h6']; omega) (fun v hv => by rw [List.eq_of_mem_replicate hv]; exact hz1)
    rw [Nat.add_zero, List.length_replicate] at hst
    have hex : (execOp a.eval ⟨none, .call ⟨.builtin .clear, #[x], #[T]⟩, ty, pos, af, none⟩).run P c.w = .ok (.value (.tuple #[])) (c.w.setRow b (cur.toList.take i ++ List.replicate (xs.length - i) zv ++ cur.toList.drop (i + (xs.length - i))).toArray) := by
     have hcl : (Builtin.clear_ #[T] ty #[a.eval x]).run P c.w = .ok (.tuple #[]) (c.w.setRow b (cur.toList.take i ++ List.replicate (xs.length - i) zv ++ cur.toList.drop (i + (xs.length - i))).toArray) := by
      rw [g5]
      simp only [Builtin.clear_, List.getElem?_toArray, List.getElem?_cons_zero, Sem.run_bind, run_underlying hu, Result.andThen_ok]
      rw [hq] at hst hcells ⊢
      simp only [Sem.run_bind, zeroValue, typeInfo, program, Sem.run, hinf, hzz, Result.andThen_ok, Sem.run_pure, hcells, hst]
     simp only [execOp, resolve, invoke, builtin, Sem.run_bind, Sem.run_pure, Result.andThen_ok, List.map_toArray, List.map_cons, List.map_nil, hcl]
    simp only [Region.wanted, if_true]
    unfold Does
    rw [hex]
    have hbM := hown b (mem1 h2)
    let c' : EW := ⟨c.w.setRow b (cur.toList.take i ++ List.replicate (xs.length - i) zv ++ cur.toList.drop (i + (xs.length - i))).toArray, c.M⟩
    have htr : Tr c ob true c' ob := by
     refine ⟨rfl, rfl, rfl, by simp [c', World.setRow], fun j hj hne => ?_, fun _ _ => Iff.rfl, .inl rfl, fun j hj => by simp [c', World.setRow]; exact hwf j hj⟩
     exact setRow_other c.w b j _ (fun e => hne rfl (by rw [h2, e]; rfl))
    have hle : Le c c' := htr.le fun b hb => (hown b hb).1
    have hput : Puts i (List.replicate (xs.length - i) (mk v0)) (xs.map mk) ((xs.take i ++ List.replicate (xs.length - i) v0).map mk) := by
     refine ⟨by simp; omega, by simp; omega, fun j => ?_⟩
     rw [nth_eq, nth_eq, nth_eq, List.map_append, List.map_replicate, List.length_replicate]
     have e1 : ((xs.take i).map mk).length = i := by rw [List.length_map, List.length_take]; omega
     by_cases hj : j < i
     ·rw [if_neg (by omega), List.getElem?_append_left (by omega), List.getElem?_map, List.getElem?_map, List.getElem?_take, if_pos hj]
     ·rw [List.getElem?_append_right (by omega), e1]
      by_cases hj2 : j < i + (xs.length - i)
      ·rw [if_pos (by omega)]
      ·rw [if_neg (by omega), List.getElem?_eq_none (by simp; omega), List.getElem?_eq_none (by simp; omega)]
    obtain ⟨q1, q2⟩ := puts_CL (v := .agg (List.replicate (xs.length - i) zv).toArray) (c' := c') hput hle h7 (by rw [List.length_map, h6']; exact h3) (by simp [Value.cells]) (fun j p hj => by
     have hjl := nth_lt hj
     rw [List.length_replicate] at hjl
     refine ⟨zv, ?_, hz1, ?_⟩
     ·simp [Value.cells, hjl]
     ·rw [nth_eq, List.getElem?_replicate, if_pos hjl] at hj
      cases hj
      exact hmk c')
    have q1' : CL ((xs.take i ++ List.replicate (xs.length - i) v0).map mk) (cur.toList.take i ++ List.replicate (xs.length - i) zv ++ cur.toList.drop (i + (xs.length - i))).toArray 0 c' := by
     simpa [Value.cells] using q1
    have q2' : (cur.toList.take i ++ List.replicate (xs.length - i) zv ++ cur.toList.drop (i + (xs.length - i))).toArray.size = cur.size := by
     simpa [Value.cells] using q2
    have hlen : (xs.take i ++ List.replicate (xs.length - i) v0).length = xs.length := by simp; omega
    refine ⟨c', ob, rfl, htr, trivial, fun _ => ⟨by simp, .inr ⟨b, cap, _, ?_, h2, by rw [hlen]; exact h3, h4, setRow_heap c.w b cur _ T' (0, 0) h5, by rw [q2', h6], q1'⟩⟩⟩
    rw [hlen]; exact h1
end ops
def mirG (v : List Nat) (t : Nat) (a : List Nat) : List Nat := (List.range a.length).map fun j => fsub (a.getD j 0) (fmul t (v.getD j 0))
def mirC (xs : List Nat) (i : Nat) (v : List Nat) (t : Nat) (k : Nat) : List Nat := xs.take i ++ ((mirG v t (xs.drop i)).take k ++ xs.drop (i + k))
def mirT (v : List Nat) (w : Nat) (a : List Nat) : Nat := fdiv (dotTo a v a.length) w
def mirL (v : List Nat) (w : Nat) (a : List Nat) : List Nat := if fcmp .eql w 0 = true then a else mirG v (mirT v w a) a
theorem length_mirG (v : List Nat) (t : Nat) (a : List Nat) : (mirG v t a).length = a.length := by unfold mirG; simp
theorem length_mirL (v : List Nat) (w : Nat) (a : List Nat) : (mirL v w a).length = a.length := by
 unfold mirL
 split
 ·rfl
 ·exact length_mirG ..
theorem mirC_zero (xs : List Nat) (i : Nat) (v : List Nat) (t : Nat) : mirC xs i v t 0 = xs := by
 unfold mirC
 rw [List.take_zero, List.nil_append, Nat.add_zero, List.take_append_drop]
theorem length_mirC {xs : List Nat} {i : Nat} {v : List Nat} {t k : Nat} (hi : i + k ≤ xs.length) : (mirC xs i v t k).length = xs.length := by
 unfold mirC
 rw [List.length_append, List.length_append, List.length_take, List.length_take, length_mirG, List.length_drop, List.length_drop]
 omega
theorem getD_drop (xs : List Nat) (i j : Nat) : (xs.drop i).getD j 0 = xs.getD (i + j) 0 := by rw [List.getD, List.getD, List.getElem?_drop]
theorem mirC_at {xs : List Nat} {i : Nat} {v : List Nat} {t k : Nat} (hi : i + k < xs.length) : (mirC xs i v t k).getD (i + k) 0 = (xs.drop i).getD k 0 := by
 unfold mirC
 have e1 : (xs.take i).length = i := by rw [List.length_take]; omega
 have e2 : ((mirG v t (xs.drop i)).take k).length = k := by rw [List.length_take, length_mirG, List.length_drop]; omega
 rw [getD_drop, List.getD, List.getElem?_append_right (by omega), e1, List.getElem?_append_right (by omega), e2, List.getElem?_drop]
 rw [show i + k + (i + k - i - k) = i + k by omega]
 rfl
theorem mirC_set {xs : List Nat} {i : Nat} {v : List Nat} {t k : Nat} (hi : i + k < xs.length) : (mirC xs i v t k).set (i + k) (fsub ((xs.drop i).getD k 0) (fmul t (v.getD k 0))) = mirC xs i v t (k + 1) := by
 unfold mirC
 have e1 : (xs.take i).length = i := by rw [List.length_take]; omega
 have e2 : ((mirG v t (xs.drop i)).take k).length = k := by rw [List.length_take, length_mirG, List.length_drop]; omega
 have e3 : xs.drop (i + k) = xs[i + k] :: xs.drop (i + k + 1) := List.drop_eq_getElem_cons hi
 have e4 : (mirG v t (xs.drop i)).take (k + 1) = (mirG v t (xs.drop i)).take k ++ [fsub ((xs.drop i).getD k 0) (fmul t (v.getD k 0))] := by
  rw [take_snoc 0 (by rw [length_mirG, List.length_drop]; omega)]
  congr 2
  unfold mirG
  rw [List.getD, List.getElem?_eq_getElem (by simp; omega)]
  simp
 rw [List.set_append_right _ _ (by omega), e1, show i + k - i = k by omega, List.set_append_right _ _ (by omega), e2, Nat.sub_self, e3, e4, List.append_assoc]
 rfl
theorem mirC_all {xs : List Nat} {i : Nat} {v : List Nat} {t k : Nat} (hk : k = xs.length - i) (hi : i ≤ xs.length) : mirC xs i v t k = xs.take i ++ mirG v t (xs.drop i) := by
 unfold mirC
 have e1 : (mirG v t (xs.drop i)).take k = mirG v t (xs.drop i) := List.take_of_length_le (by rw [length_mirG, List.length_drop]; omega)
 have e2 : xs.drop (i + k) = [] := List.drop_of_length_le (by omega)
 rw [e1, e2, List.append_nil]
theorem mir_no {xs : List Nat} {i : Nat} {v : List Nat} {w : Nat} (h : fcmp .eql w 0 = true) : xs = xs.take i ++ mirL v w (xs.drop i) := by
 unfold mirL
 rw [if_pos h, List.take_append_drop]
theorem mir_yes {xs : List Nat} {i : Nat} {v : List Nat} {w k : Nat} (h : fcmp .eql w 0 = false) (hk : k = xs.length - i) (hi : i ≤ xs.length) : mirC xs i v (mirT v w (xs.drop i)) k = xs.take i ++ mirL v w (xs.drop i) := by
 unfold mirL
 rw [if_neg (by rw [h]; decide), mirC_all hk hi]
theorem mir_dot {xs v : List Nat} {i j : Nat} : fop (fbits .add (dotTo (xs.drop i) v j) (fop (fbits .mul (xs.getD (i + ((j : Int)).toNat) 0) (v.getD ((j : Int)).toNat 0)))) = dotTo (xs.drop i) v (j + 1) := by
 rw [Int.toNat_natCast, ← getD_drop]
 rfl
theorem mirr_step {xs v : List Nat} {i j t : Nat} (hi : i + j < xs.length) : (mirC xs i v t j).set (i + ((j : Int)).toNat) (fop (fbits .sub ((mirC xs i v t j).getD (i + ((j : Int)).toNat) 0) (fop (fbits .mul t (v.getD ((j : Int)).toNat 0))))) = mirC xs i v t (j + 1) := by
 rw [Int.toNat_natCast, mirC_at hi, ← mirC_set hi]
 rfl
end Go.Bn
