/-
 Lists of matrices whose numbers are owned.
-/
import Derived.Test.YtllkellonjhalaaFqFre
import Derived.Test.YtllkellonjhalaaFqLst
set_option linter.unusedVariables false
set_option linter.unusedSimpArgs false
namespace Go.Bn
open Go
structure Mv where
 r : Int
 c : Int
 u : Value
def mvU (e : Mv) : List SP := [isv (.int .i64 e.r), isv (.int .i64 e.c), isv e.u]
def mvD : Mv := ⟨0, 0, .slice none 0 0⟩
theorem mvU_len : ∀ m, (mvU m).length = 3 := fun _ => rfl
def plM (es : List Mv) (X : Nat → List Nat) (T : TypeId) : Nat → Res := fun j => som (es.getD j mvD).u flp (X j) T
def aOf (ms : List Mt) : Nat → List Nat := fun j => (ms.getD j mtD).a
structure RC (es : List Mv) (ms : List Mt) : Prop where
 l : es.length = ms.length
 h : ∀ j, j < ms.length → (es.getD j mvD).r = (ms.getD j mtD).r ∧ (es.getD j mvD).c = (ms.getD j mtD).c
def matsB (U : Value) (ms : List Mt) (T TF : TypeId) (es : List Mv) : Res := (somk U 3 mvU es T).sep (pool ms.length (plM es (aOf ms) TF))
def matsR (U : Value) (ms : List Mt) (T TF : TypeId) : Res := exR fun es : {es : List Mv // RC es ms} => matsB U ms T TF es.1
theorem getD_snoc {α : Type} {xs : List α} {x d : α} {j : Nat} : (xs ++ [x]).getD j d = if j < xs.length then xs.getD j d else if j = xs.length then x else d := by
 by_cases h : j < xs.length
 ·rw [if_pos h, List.getD, List.getD, List.getElem?_append_left h]
 ·rw [if_neg h, List.getD, List.getElem?_append_right (by omega)]
  by_cases h2 : j = xs.length
  ·rw [if_pos h2, h2, Nat.sub_self]; rfl
  ·rw [if_neg h2, List.getElem?_eq_none (by simp; omega)]; rfl
theorem rc_nil : RC [] [] := ⟨rfl, fun j h => absurd h (Nat.not_lt_zero j)⟩
theorem rc_snoc {es : List Mv} {ms : List Mt} {k : Nat} {e : Mv} (hk : k < ms.length) (h : RC es (ms.take k)) (h1 : e.r = (ms.getD k mtD).r) (h2 : e.c = (ms.getD k mtD).c) : RC (es ++ [e]) (ms.take (k + 1)) := by
 have hl := h.l
 rw [List.length_take, Nat.min_eq_left (by omega)] at hl
 rw [take_snoc mtD hk]
 refine ⟨by rw [List.length_append, List.length_append, h.l]; rfl, fun j hj => ?_⟩
 have htl : (ms.take k).length = k := by rw [List.length_take]; omega
 rw [List.length_append, htl] at hj
 have hj : j < k + 1 := hj
 rw [getD_snoc, getD_snoc, hl, htl]
 by_cases hjk : j < k
 ·rw [if_pos hjk, if_pos hjk]
  exact h.h j (by rw [htl]; exact hjk)
 ·rw [if_neg hjk, if_neg hjk, if_pos (by omega), if_pos (by omega)]
  exact ⟨h1, h2⟩
theorem plM_push {es : List Mv} {X : Nat → List Nat} {T : TypeId} {n : Nat} {e : Mv} (hl : es.length = n) : ∀ c ob, (pool (n + 1) (fillR (plM es X T) n (som e.u flp (X n) T))).H c ob → (pool (n + 1) (plM (es ++ [e]) X T)).H c ob := pool_congr fun j hj => by
 unfold fillR plM
 rw [getD_snoc, hl]
 by_cases h : j = n
 ·rw [if_pos h, if_neg (by omega), if_pos h, h]
 ·rw [if_neg h, if_pos (by omega)]
theorem plM_back {es : List Mv} {X : Nat → List Nat} {T : TypeId} {n i : Nat} : ∀ c ob, (pool n (fillR (plM es X T) i (som (es.getD i mvD).u flp (X i) T))).H c ob → (pool n (plM es X T)).H c ob := pool_congr fun j hj => by
 unfold fillR plM
 by_cases h : j = i
 ·subst h; rw [if_pos rfl]
 ·rw [if_neg h]
theorem plM_congr {es : List Mv} {X Y : Nat → List Nat} {T : TypeId} {n : Nat} (h : ∀ j, j < n → X j = Y j) : ∀ c ob, (pool n (plM es X T)).H c ob → (pool n (plM es Y T)).H c ob := pool_congr fun j hj => by
 unfold plM; rw [h j hj]
theorem plM_0 {es : List Mv} {v : Nat} {X : Nat → List Nat} {T : TypeId} {n : Nat} : ∀ c ob, (pool n (plM es X T)).H c ob → (pool n (plM es (wrL v X 0) T)).H c ob := plM_congr fun j _ => by unfold wrL; rw [if_neg (Nat.not_lt_zero j)]
theorem plM_at {es : List Mv} {v : Nat} {X : Nat → List Nat} {T : TypeId} {i : Nat} : plM es (wrL v X i) T i = som (es.getD i mvD).u flp (X i) T := by
 unfold plM wrL
 rw [if_neg (Nat.lt_irrefl i)]
theorem plM_fill {es : List Mv} {v : Nat} {X : Nat → List Nat} {T : TypeId} {i n : Nat} : ∀ c ob, (pool n (fillR (plM es (wrL v X i) T) i (som (es.getD i mvD).u flp (List.replicate (X i).length v) T))).H c ob → (pool n (plM es (wrL v X (i + 1)) T)).H c ob := pool_congr fun j hj => by
 unfold fillR plM wrL
 by_cases h : j = i
 ·subst h; rw [if_pos rfl, if_pos (Nat.lt_succ_self j)]
 ·rw [if_neg h]
  by_cases h2 : j < i
  ·rw [if_pos h2, if_pos (by omega)]
  ·rw [if_neg h2, if_neg (by omega)]
def xTwo (ms : List Mt) (a b : List Nat) : Nat → List Nat := fun j => if j < ms.length then aOf ms j else if j = ms.length then a else b
theorem plM_two {es : List Mv} {ms : List Mt} {a b : List Nat} {e f : Mv} {T : TypeId} (hl : es.length = ms.length) : ∀ c ob, (pool (ms.length + 1 + 1) (fillR (fillR (plM es (aOf ms) T) ms.length (som e.u flp a T)) (ms.length + 1) (som f.u flp b T))).H c ob → (pool (ms.length + 2) (plM (es ++ [e, f]) (xTwo ms a b) T)).H c ob := pool_congr fun j hj => by
 unfold fillR plM xTwo
 rw [show es ++ [e, f] = (es ++ [e]) ++ [f] by simp, getD_snoc, getD_snoc, List.length_append, hl]
 show (if j = ms.length + 1 then _ else _) = som (if j < ms.length + 1 then if j < ms.length then es.getD j mvD else if j = ms.length then e else mvD else if j = ms.length + 1 then f else mvD).u flp _ T
 by_cases h1 : j = ms.length + 1
 ·rw [if_pos h1, if_neg (by omega), if_pos h1, if_neg (by omega), if_neg (by omega)]
 ·by_cases h2 : j = ms.length
  ·rw [if_neg h1, if_pos h2, if_pos (by omega), if_neg (by omega), if_pos h2, if_neg (by omega), if_pos h2]
  ·rw [if_neg h1, if_neg h2, if_pos (by omega), if_pos (by omega), if_pos (by omega)]
theorem slc_at {ps qs : List SP} {n k : Nat} {c : EW} {v : Value} (hl : ps.length = qs.length) (h : ∀ i q, nth qs i = some q → ∃ p, nth ps i = some p ∧ ∀ w, p.H w c → q.H w c) (hv : (slc n k ps).H v c) : (slc n k qs).H v c := by
 obtain ⟨h0, h1⟩ := hv
 refine ⟨hl ▸ h0, ?_⟩
 rcases h1 with h1 | ⟨ad, cap, a1, a2, a3, a4⟩
 ·exact .inl h1
 ·refine .inr ⟨ad, cap, a1, a2, a3, ?_⟩
  rcases a4 with a4 | ⟨b, off, b1, b2, cur, T, fz, b3, b4⟩
  ·exact .inl a4
  ·refine .inr ⟨b, off, b1, b2, cur, T, fz, b3, fun i q hq => ?_⟩
   obtain ⟨p, hp, hs⟩ := h i q hq
   obtain ⟨u, u1, u2, u3⟩ := b4 i p hp
   exact ⟨u, u1, u2, hs _ u3⟩
theorem lent_mats {U : Value} {ms : List Mt} {T TF : TypeId} : Lent (matsR U ms T TF) (isv U) (slk 3 mtU ms) := fun c c1 ob v h hq hle hob => by
 obtain ⟨⟨es, hes⟩, o1, o2, h1, h2, h3, h4⟩ := h
 rw [hq.1]
 have hs := frz_somk c c1 o1 h3 hle fun b hb => hob b ((h1 b).2 (.inl hb))
 obtain ⟨os, p1, p2, p3⟩ := h4
 unfold slk at hs ⊢
 have hl3 : ∀ {α : Type} (mk : α → List SP) (hm : ∀ a, (mk a).length = 3) (xs : List α), (xs.flatMap mk).length = xs.length * 3 := fun mk hm xs => by
  induction xs with
  | nil => rfl
  | cons a l ih => rw [List.flatMap_cons, List.length_append, hm, ih, List.length_cons, Nat.succ_mul, Nat.add_comm]
 rw [hes.l] at hs
 refine slc_at (by rw [hl3 _ mvU_len, hl3 _ mtU_len, hes.l]) (fun i q hi => ?_) hs
 have hil := nth_lt hi
 rw [hl3 _ mtU_len] at hil
 have hmod : i % 3 < 3 := Nat.mod_lt _ (by omega)
 have hdiv : i / 3 < ms.length := by omega
 have hie : i = i / 3 * 3 + i % 3 := by omega
 generalize i / 3 = j at *
 generalize i % 3 = m at *
 subst hie
 rw [nth_flatk mtU_len mtD hdiv hmod] at hi
 refine ⟨_, (nth_flatk mvU_len mvD (by rw [hes.l]; exact hdiv) hmod).trans (show nth (mvU (es.getD j mvD)) m = some (((mvU (es.getD j mvD))[m]?).getD (isv undef)) from ?_), ?_⟩
 ·rw [nth_eq]
  match m, hmod with
  | 0, _ => rfl
  | 1, _ => rfl
  | 2, _ => rfl
 ·intro w hw
  have hrc := hes.h j hdiv
  match m, hmod with
  | 0, _ => cases hi; rw [← hrc.1]; exact hw
  | 1, _ => cases hi; rw [← hrc.2]; exact hw
  | 2, _ =>
   cases hi
   have hw' : (isv (es.getD j mvD).u).H w c1 := hw
   rw [hw'.1]
   exact frz_som c c1 (os j) (p3 j hdiv) hle fun b hb => hob b ((h1 b).2 (.inr ((p1 b).2 ⟨j, hdiv, hb⟩)))
section ops
variable {P : Program} {n : Nat} {ops : Array Oper} {Γ : Facts} {ρ : Env} {δ : VEnv} {τ : List VR}
variable {d : Nat} {ty : TypeId} {pos : String} {af : Array Edge}
theorem op_index_somk {α : Type} {mk : α → List SP} {xs : List α} {x y : Operand} {T : TypeId} {E es eb : Nat} {ki : IntKind} {z : Int} {sv : Value} {T' : Nat} (k : Nat) (ht : slT P T = some (E, es, eb)) (hx : Lk Γ δ ρ x (isv sv)) (hy : Lk Γ δ ρ y (isv (.int ki z))) (hk : nth τ k = some (.c (somk sv es mk xs T'))) (h0 : 0 ≤ z) (h1 : z < xs.length) :
  OpOK P n ops Γ ρ δ τ ⟨some d, .indexAddr T x y, ty, pos, af, none⟩ (.rd k) (.c (ipo sv (z.toNat * es))) dum := op_index_own k ht hx hy hk h0 h1
theorem op_len_somk {α : Type} {mk : α → List SP} {xs : List α} {x : Operand} {t : TypeId} {sv : Value} (k : Nat) {T E : Nat} {es es' eb : Nat} (ht : slT P t = some (E, es, eb)) (hx : Lk Γ δ ρ x (isv sv)) (hk : nth τ k = some (.c (somk sv es' mk xs T))) :
  OpOK P n ops Γ ρ δ τ ⟨some d, .call ⟨.builtin .len, #[x], #[t]⟩, ty, pos, af, none⟩ (.rd k) (.c (isv (.int .i64 (xs.length : Int)))) dum := op_len_own k ht hx hk
theorem op_get_mv {xs : List Mv} {x : Operand} {T U : TypeId} {base : Value} {j : Nat} (k : Nat) (hT : scT P T = true) (hx : Lk Γ δ ρ x (ipo base (j * 3 + 2))) (hk : nth τ k = some (.c (somk base 3 mvU xs U))) (h1 : j < xs.length) :
  OpOK P n ops Γ ρ δ τ ⟨some d, .load T x, ty, pos, af, none⟩ (.rd k) (.c (isv (xs.getD j mvD).u)) dum :=
 op_get_sc k hT hx hk (mem_osl (by omega)) (nth_flatk mvU_len mvD h1 (by omega))
end ops
def slv (u : Value) (xs : List Nat) : SP := ⟨fun v c => v = u ∧ (fls xs).H v c, fun v c c' hle h => ⟨h.1, (fls xs).st _ _ _ hle h.2⟩⟩
theorem sb_slv {Γ : Facts} {u : Value} {xs : List Nat} : Sb Γ (slv u xs) (fls xs) := fun _ _ _ h => h.2
theorem one_slc {n k : Nat} {cells : List SP} {v : Value} {c : EW} (h : (slc n k cells).H v c) : v.oneCell' = true := by
 rcases h.2 with h | ⟨ad, cap, h, _⟩
 ·rw [h.1]; rfl
 ·rw [h]; rfl
theorem sb_slvu {Γ : Facts} {u : Value} {xs : List Nat} : Sb Γ (slv u xs) (isv u) := fun v c _ h => ⟨h.1, h.1 ▸ one_slc h.2⟩
theorem lent_slv {u : Value} {xs : List Nat} {T : TypeId} : Lent (som u flp xs T) (isv u) (slv u xs) := fun c c1 ob v h hq hle hob => ⟨hq.1, lent_som c c1 ob v h hq hle hob⟩
theorem aOf_mcn {ms : List Mt} {j : Nat} (h : j < ms.length) : aOf (ms.map mcn) j = ((ms.getD j mtD).a).map cn := by
 unfold aOf
 rw [mcn_at h]
 rfl
theorem mats_len {U : Value} {ms : List Mt} {T TF : TypeId} {es : List Mv} {c : EW} {ob : Bs} (h : ((somk U 3 mvU es T).sep (pool ms.length (plM es (aOf (ms.map mcn)) TF))).H c ob) : (matsB U (ms.map mcn) T TF es).H c ob := by
 unfold matsB
 rw [List.length_map]
 exact h
theorem lt_allQ {xs : List Nat} (h : LtL xs) : xs.all (fun x => decide (x < 2 ^ 64)) = true := List.all_eq_true.2 fun x hx => by
 obtain ⟨i, hi, rfl⟩ := List.mem_iff_getElem.1 hx
 have := h i
 rw [List.getD, List.getElem?_eq_getElem hi] at this
 exact decide_eq_true this
end Go.Bn
