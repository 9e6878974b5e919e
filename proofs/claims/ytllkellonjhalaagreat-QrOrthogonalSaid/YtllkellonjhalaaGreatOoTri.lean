/-
 Matrices beside one another, row by row; the triangle that their rows come to.
-/
import Derived.Test.YtllkellonjhalaaGreatOoPool
set_option linter.unusedVariables false
set_option linter.unusedSimpArgs false
namespace Go.Bn
open Go
structure Mt where
 r : Int
 c : Int
 a : List Nat
def mtU (m : Mt) : List SP := [isv (.int .i64 m.r), isv (.int .i64 m.c), fls m.a]
def mtD : Mt := ⟨0, 0, []⟩
theorem mtU_len : ∀ m, (mtU m).length = 3 := fun _ => rfl
abbrev NILV : Value := .slice none 0 0
theorem isv_eq {a b : Value} (h : a = b) : ∀ v c, (isv a).H v c → (isv b).H v c := fun _ _ hv => h ▸ hv
theorem vset_at {vs : List Value} {i : Nat} {w : Value} (h : i < vs.length) : (vs.set i w).getD i NILV = w := by
 rw [List.getD, List.getElem?_set_self h]; rfl
theorem vset_ne {vs : List Value} {i j : Nat} {w : Value} (h : i ≠ j) : (vs.set i w).getD j NILV = vs.getD j NILV := by
 rw [List.getD, List.getD, List.getElem?_set_ne h]
theorem vset_same {vs : List Value} {i : Nat} (h : vs.getD i NILV = NILV) (hi : i < vs.length) : vs.set i NILV = vs := by
 apply List.ext_getElem?
 intro j
 by_cases e : i = j
 ·subst e
  rw [List.getElem?_set_self hi]
  rw [List.getD, List.getElem?_eq_getElem hi, Option.getD_some] at h
  rw [List.getElem?_eq_getElem hi, h]
 ·rw [List.getElem?_set_ne e]
def besTo (ms : List Mt) (i : Nat) : Nat → List Nat
 | 0 => []
 | k + 1 => besTo ms i k ++ rowL (ms.getD k mtD).c (ms.getD k mtD).a i
def besRow (ms : List Mt) (n : Nat) (i : Nat) : List Nat := besTo ms i ms.length ++ List.replicate (n - (besTo ms i ms.length).length) 0
def besL (ms : List Mt) (n : Nat) : List (List Nat) := (List.range n).map (besRow ms n)
def colsTo (ms : List Mt) : Nat → Nat
 | 0 => 0
 | k + 1 => colsTo ms k + (ms.getD k mtD).c.toNat
theorem length_besTo (ms : List Mt) (i : Nat) : ∀ k, (besTo ms i k).length = colsTo ms k
 | 0 => rfl
 | k + 1 => by rw [besTo, colsTo, List.length_append, length_besTo ms i k, length_rowL]
theorem colsTo_le (ms : List Mt) : ∀ {k l : Nat}, k ≤ l → colsTo ms k ≤ colsTo ms l
 | k, 0, h => by rw [Nat.le_zero.1 h]; exact Nat.le_refl _
 | k, l + 1, h => by
  by_cases e : k = l + 1
  ·rw [e]; exact Nat.le_refl _
  ·have := colsTo_le ms (show k ≤ l by omega)
   rw [show colsTo ms (l + 1) = colsTo ms l + _ from rfl]
   omega
structure BesOk (ms : List Mt) (n : Int) : Prop where
 h0 : 0 < ms.length
 hr : (ms.getD 0 mtD).r = n
 hg : ∀ k, k < ms.length → Good n (ms.getD k mtD).c (ms.getD k mtD).a
 hc : colsTo ms ms.length ≤ 48
theorem bes_step {ms : List Mt} {n : Int} (h : BesOk ms n) {i k : Nat} (hi : (i : Int) < n) (hk : k < ms.length) : besTo ms i k ++ ((ms.getD k mtD).a.drop (((i : Int)) * (ms.getD k mtD).c).toNat).take ((((i : Int) + 1) * (ms.getD k mtD).c).toNat - (((i : Int)) * (ms.getD k mtD).c).toNat) = besTo ms i (k + 1) := by
 obtain ⟨hs, hl⟩ := h.hg k hk
 rw [besTo, rowL_slice hs.2.2.1 hl (by omega) hi]
def rowsV (u : Value) (xss : List (List Nat)) (T1 T2 : TypeId) (vs : List Value) : Res := (som u isv vs T1).sep (pool xss.length (fun j => som (vs.getD j NILV) flp (xss.getD j []) T2))
def rowsR (u : Value) (xss : List (List Nat)) (T1 T2 : TypeId) : Res := exR (α := {vs : List Value // vs.length = xss.length}) fun vs => rowsV u xss T1 T2 vs.1
theorem length_besL (ms : List Mt) (n : Nat) : (besL ms n).length = n := by unfold besL; simp
theorem besL_at {ms : List Mt} {n j : Nat} (h : j < n) : (besL ms n).getD j [] = besRow ms n j := by
 unfold besL
 rw [List.getD, List.getElem?_eq_getElem (by simpa using h)]
 simp
theorem bes_push {ms : List Mt} {n i : Nat} {vs : List Value} {w : Value} {T : TypeId} (hi : i < vs.length) : ∀ c ob, (pool (i + 1) (fillR (fun j => som (vs.getD j NILV) flp (besRow ms n j) T) i (som w flp (besRow ms n i) T))).H c ob → (pool (i + 1) (fun j => som ((vs.set i w).getD j NILV) flp (besRow ms n j) T)).H c ob :=
 pool_congr fun j hj => by
  unfold fillR
  by_cases e : j = i
  ·rw [if_pos e, e, vset_at hi]
  ·rw [if_neg e, vset_ne (Ne.symm e)]
theorem bes_done {ms : List Mt} {n i : Nat} {u : Value} {vs : List Value} {T1 T2 : TypeId} (hi : i = n) (hv : vs.length = n) : ∀ c ob, ((som u isv vs T1).sep (pool i (fun j => som (vs.getD j NILV) flp (besRow ms n j) T2))).H c ob → (rowsR u (besL ms n) T1 T2).H c ob := fun c ob h => by
 subst hi
 refine ⟨⟨vs, by rw [length_besL, hv]⟩, ?_⟩
 obtain ⟨o1, o2, h1, h2, h3, h4⟩ := h
 refine ⟨o1, o2, h1, h2, h3, ?_⟩
 show (pool (besL ms i).length (fun j => som (vs.getD j NILV) flp ((besL ms i).getD j []) T2)).H c o2
 rw [length_besL]
 exact pool_congr (fun j hj => by rw [besL_at hj]) c o2 h4
theorem bes_fill {ms : List Mt} {n i q : Nat} (h : ¬ (((besTo ms i ms.length ++ List.replicate q 0).length : Int)) < (n : Int)) (hq : q ≤ n - (besTo ms i ms.length).length) : besTo ms i ms.length ++ List.replicate q 0 = besRow ms n i := by
 unfold besRow
 rw [List.length_append, List.length_replicate] at h
 congr 2
 omega
end Go.Bn
namespace Go.Bn
open Go
def mirW (h : Gls) (i : Nat) (x : List Nat) : List Nat := x.take i ++ mirL h.v h.w (x.drop i)
def gls (X : Nat → List Nat) (i : Nat) : Gls := houseL ((X i).drop i)
def midF (X : Nat → List Nat) (i k j : Nat) : List Nat := if i < j ∧ j < k then mirW (gls X i) i (X j) else X j
def clrR (x : List Nat) (i : Nat) : List Nat := x.take i ++ List.replicate (x.length - i) 0
def endF (X : Nat → List Nat) (i j : Nat) : List Nat := if j = i then (clrR (X i) i).set i (gls X i).alpha else if i < j then mirW (gls X i) i (X j) else X j
def triTo (X : Nat → List Nat) : Nat → Nat → List Nat
 | 0 => X
 | i + 1 => endF (triTo X i) i
def overB (X : Nat → List Nat) (n i : Nat) : Bool := (List.range n).any (fun k => decide (i < k) && !(mirW (gls X i) i (X k)).all finB) || !finQ (gls X i).alpha
def triB (X : Nat → List Nat) (n : Nat) : Bool := (List.range n).any fun i => overB (triTo X i) n i
def triN (X : Nat → List Nat) (i j : Nat) : Nat := fadd (if fcmp .lss ((X j).getD j 0) 0 = true then fneg ((X i).getD j 0) else (X i).getD j 0) 0
def triG (X : Nat → List Nat) (n : Nat) : List Nat := grid n n fun i j => triN (triTo X n) i.toNat j.toNat
def triR (X : Nat → List Nat) (n : Nat) : MR := if triB X n = true then badM 5 else ⟨n, n, triG X n, 0⟩
def mtChk (ms : List Mt) : List Int := ms.map fun m => chk m.r m.c m.a
def shpB (ms : List Mt) : Bool := ms.all fun m => decide (m.r = (ms.getD 0 mtD).r)
def triM (ms : List Mt) : MR :=
 if ms.length = 0 then badM 1
 else if fstE (mtChk ms) ≠ 0 then badM (fstE (mtChk ms))
 else if shpB ms = false then badM 3
 else if 48 < colsTo ms ms.length then badM 2
 else triR (besRow ms (ms.getD 0 mtD).r.toNat) (ms.getD 0 mtD).r.toNat
theorem length_houseL (xs : List Nat) : (houseL xs).v.length = xs.length := by
 unfold houseL
 split
 ·unfold glsOf
  show (List.set _ _ _).length = _
  rw [List.length_set, length_sclL]
 ·exact List.length_replicate
theorem length_mirW (h : Gls) {i : Nat} {x : List Nat} : (mirW h i x).length = x.length := by
 unfold mirW
 rw [List.length_append, length_mirL, List.length_take, List.length_drop]
 omega
theorem length_clrR {x : List Nat} {i : Nat} : (clrR x i).length = x.length := by
 unfold clrR
 rw [List.length_append, List.length_take, List.length_replicate]
 omega
theorem finL_drop {xs : List Nat} (h : FinL xs) (i : Nat) : FinL (xs.drop i) := fun k => by rw [getD_drop]; exact h _
theorem ldx_lt {x : Nat} {k : Int} (hx : x < 2 ^ 64) : ldx x k < 2 ^ 64 := by
 unfold ldx
 split
 ·exact hx
 ·split
  ·exact hx
  ·split
   ·split <;> decide
   ·split
    ·split <;> decide
    ·split <;> exact fop_lt (op := .mul)
theorem sqrt_lt {x : Nat} : fsqrt x < 2 ^ 64 := by
 unfold fsqrt fop
 cases h : Ieee.double.sqrt x with
 | none => exact NAN_lt
 | some r => exact (sqrt_some h).2.1
def LtL (xs : List Nat) : Prop := ∀ k, xs.getD k 0 < 2 ^ 64
theorem finL_lt {xs : List Nat} (h : FinL xs) : LtL xs := fun k => (h k).2
theorem finL_mk {xs : List Nat} (h : xs.all finB = true) (h2 : LtL xs) : FinL xs := fun k => ⟨finB_getD h k, h2 k⟩
theorem ltL_app {xs ys : List Nat} (h : LtL xs) (h2 : LtL ys) : LtL (xs ++ ys) := fun k => by
 by_cases hk : k < xs.length
 ·rw [List.getD, List.getElem?_append_left hk]; exact h k
 ·rw [List.getD, List.getElem?_append_right (by omega)]; exact h2 _
theorem finL_app {xs ys : List Nat} (h : FinL xs) (h2 : FinL ys) : FinL (xs ++ ys) := fun k => by
 by_cases hk : k < xs.length
 ·rw [List.getD, List.getElem?_append_left hk]; exact h k
 ·rw [List.getD, List.getElem?_append_right (by omega)]; exact h2 _
theorem finL_take {xs : List Nat} (h : FinL xs) (i : Nat) : FinL (xs.take i) := fun k => by
 by_cases hk : k < i
 ·rw [List.getD, List.getElem?_take, if_pos hk]; exact h k
 ·rw [List.getD, List.getElem?_take, if_neg hk]; exact ⟨by decide, by decide⟩
theorem finL_rep (n : Nat) : FinL (List.replicate n 0) := fun k => by
 rw [List.getD, List.getElem?_replicate]
 split <;> exact ⟨by decide, by decide⟩
theorem finL_set {xs : List Nat} (h : FinL xs) {i v : Nat} (hv : finB v = true ∧ v < 2 ^ 64) : FinL (xs.set i v) := fun k => by
 by_cases e : i = k
 ·subst e
  by_cases hi : i < xs.length
  ·rw [List.getD, List.getElem?_set_self hi]; exact hv
  ·rw [List.getD, List.getElem?_eq_none (by rw [List.length_set]; omega)]; exact ⟨by decide, by decide⟩
 ·rw [List.getD, List.getElem?_set_ne e]; exact h k
theorem ltL_mirL {a : List Nat} (v : List Nat) (w : Nat) (h : LtL a) : LtL (mirL v w a) := by
 unfold mirL
 split
 ·exact h
 ·intro k
  unfold mirG
  by_cases hk : k < a.length
  ·rw [List.getD, List.getElem?_eq_getElem (by simpa using hk)]
   simp only [List.getElem_map, List.getElem_range, Option.getD_some]
   exact fop_lt (op := .sub)
  ·rw [List.getD, List.getElem?_eq_none (by simpa using hk)]
   decide
theorem ltL_mirW {h : Gls} {i : Nat} {x : List Nat} (hx : FinL x) : LtL (mirW h i x) := ltL_app (finL_lt (finL_take hx i)) (ltL_mirL _ _ (finL_lt (finL_drop hx i)))
theorem alpha_lt (xs : List Nat) : (houseL xs).alpha < 2 ^ 64 := by
 unfold houseL
 split
 ·unfold glsOf sclN
  show ldx _ _ < _
  split
  ·exact ldx_lt sqrt_lt
  ·exact ldx_lt (fneg_lt sqrt_lt)
 ·show 0 < 2 ^ 64; decide
theorem finQ_fin {x : Nat} (hx : x < 2 ^ 64) : finQ x = finB x := sub_zero_eq hx
structure TriI (X : Nat → List Nat) (n m i : Nat) : Prop where
 hl : ∀ j, j < n → (triTo X i j).length = m
 hf : ∀ j, j < n → FinL (triTo X i j)
 ho : ∀ p, p < i → overB (triTo X p) n p = false
theorem over_no {X : Nat → List Nat} {n i : Nat} (h1 : ∀ j, i < j → j < n → (mirW (gls X i) i (X j)).all finB = true) (h2 : finQ (gls X i).alpha = true) : overB X n i = false := by
 unfold overB
 rw [Bool.or_eq_false_iff, h2]
 refine ⟨?_, rfl⟩
 rw [List.any_eq_false]
 intro k hk
 rw [List.mem_range] at hk
 by_cases hik : i < k
 ·rw [h1 k hik hk]; simp
 ·simp [hik]
theorem triI_step {X : Nat → List Nat} {n m i : Nat} (h : TriI X n m i) (hmid : ∀ j, i < j → j < n → (mirW (gls (triTo X i) i) i (triTo X i j)).all finB = true) (ha : finQ (gls (triTo X i) i).alpha = true) : TriI X n m (i + 1) where
 hl := fun j hj => by
  show (endF (triTo X i) i j).length = m
  unfold endF
  split
  ·rename_i e
   rw [List.length_set, length_clrR]; exact h.hl i (e ▸ hj)
  ·split
   ·rw [length_mirW]; exact h.hl j hj
   ·exact h.hl j hj
 hf := fun j hj => by
  show FinL (endF (triTo X i) i j)
  unfold endF
  split
  ·rename_i e
   have hal := alpha_lt ((triTo X i i).drop i)
   refine finL_set (finL_app (finL_take (h.hf i (e ▸ hj)) i) (finL_rep _)) ⟨(finQ_fin hal).symm.trans ha, hal⟩
  ·split
   ·rename_i hij
    exact finL_mk (hmid j hij hj) (ltL_mirW (h.hf j hj))
   ·exact h.hf j hj
 ho := fun p hp => by
  by_cases e : p = i
  ·rw [e]; exact over_no hmid ha
  ·exact h.ho p (by omega)
theorem tri_bad {X : Nat → List Nat} {n i : Nat} (hi : i < n) (h : overB (triTo X i) n i = true) : (⟨0, 0, [], 5⟩ : MR) = triR X n := by
 have : triB X n = true := by
  unfold triB
  rw [List.any_eq_true]
  exact ⟨i, List.mem_range.2 hi, h⟩
 unfold triR
 rw [if_pos this]
 rfl
theorem tri_over1 {X : Nat → List Nat} {n i k : Nat} (hi : i < n) (hik : i < k) (hk : k < n) (h : (mirW (gls (triTo X i) i) i (triTo X i k)).all finB = false) : (⟨0, 0, [], 5⟩ : MR) = triR X n := tri_bad hi (by
 unfold overB
 rw [Bool.or_eq_true]
 left
 rw [List.any_eq_true]
 exact ⟨k, List.mem_range.2 hk, by rw [h]; simp [hik]⟩)
theorem tri_over2 {X : Nat → List Nat} {n i : Nat} (hi : i < n) (h : finQ (gls (triTo X i) i).alpha = false) : (⟨0, 0, [], 5⟩ : MR) = triR X n := tri_bad hi (by
 unfold overB
 rw [Bool.or_eq_true]
 right
 rw [h]; rfl)
theorem tri_done {X : Nat → List Nat} {n m : Nat} (h : TriI X n m n) : triR X n = ⟨n, n, triG X n, 0⟩ := by
 unfold triR
 have : ¬ triB X n = true := by
  unfold triB
  rw [List.any_eq_true]
  rintro ⟨p, hp, hb⟩
  rw [h.ho p (List.mem_range.1 hp)] at hb
  cases hb
 rw [if_neg this]
theorem length_besRow {ms : List Mt} {n j : Nat} : (besRow ms n j).length = colsTo ms ms.length + (n - colsTo ms ms.length) := by
 unfold besRow
 rw [List.length_append, length_besTo, List.length_replicate]
theorem finL_besTo {ms : List Mt} (h : ∀ k, FinL (ms.getD k mtD).a) (i : Nat) : ∀ k, FinL (besTo ms i k)
 | 0 => finL_rep 0
 | k + 1 => finL_app (finL_besTo h i k) (finL_row (h k))
theorem tri_start {ms : List Mt} {n : Nat} (h : ∀ k, FinL (ms.getD k mtD).a) : TriI (besRow ms n) n (colsTo ms ms.length + (n - colsTo ms ms.length)) 0 :=
 ⟨fun _ _ => length_besRow, fun j _ => finL_app (finL_besTo h j _) (finL_rep _), fun p hp => absurd hp (Nat.not_lt_zero p)⟩
def poolX (vs : List Value) (T : TypeId) (F : Nat → List Nat) (j : Nat) : Res := som (vs.getD j NILV) flp (F j) T
theorem mid_at {X : Nat → List Nat} {i k j : Nat} (h : ¬ (i < j ∧ j < k)) : midF X i k j = X j := if_neg h
theorem pool_mid0 {n : Nat} {vs : List Value} {T : TypeId} {X : Nat → List Nat} {i : Nat} : ∀ c ob, (pool n (poolX vs T X)).H c ob → (pool n (poolX vs T (midF X i (i + 1)))).H c ob := pool_congr fun j hj => by
 unfold poolX
 rw [mid_at (by omega)]
theorem pool_back {n : Nat} {vs : List Value} {T : TypeId} {X : Nat → List Nat} {i : Nat} {x : List Nat} (hx : x = X i) : ∀ c ob, (pool n (fillR (poolX vs T X) i (som (vs.getD i NILV) flp x T))).H c ob → (pool n (poolX vs T X)).H c ob := pool_congr fun j hj => by
 unfold fillR
 split
 ·rename_i e; rw [e, hx]; rfl
 ·rfl
theorem pool_mid {n : Nat} {vs : List Value} {T : TypeId} {X : Nat → List Nat} {i k : Nat} {x : List Nat} (hik : i < k) (hx : x = mirW (gls X i) i (X k)) : ∀ c ob, (pool n (fillR (poolX vs T (midF X i k)) k (som (vs.getD k NILV) flp x T))).H c ob → (pool n (poolX vs T (midF X i (k + 1)))).H c ob := pool_congr fun j hj => by
 unfold fillR poolX
 split
 ·rename_i e
  rw [e, hx]
  unfold midF
  rw [if_pos (by omega)]
 ·rename_i e
  unfold midF
  by_cases h : i < j ∧ j < k
  ·rw [if_pos h, if_pos (by omega)]
  ·rw [if_neg h, if_neg (by omega)]
theorem pool_end {n : Nat} {vs : List Value} {T : TypeId} {X : Nat → List Nat} {i k : Nat} {x : List Nat} (hk : k = n) (hx : x = (clrR (X i) i).set i (gls X i).alpha) : ∀ c ob, (pool n (fillR (poolX vs T (midF X i k)) i (som (vs.getD i NILV) flp x T))).H c ob → (pool n (poolX vs T (endF X i))).H c ob := pool_congr fun j hj => by
 unfold fillR poolX endF
 split
 ·rename_i e
  rw [e, hx]
 ·rename_i e
  unfold midF
  by_cases h : i < j ∧ j < k
  ·rw [if_pos h, if_pos h.1]
  ·rw [if_neg h, if_neg (by omega)]
theorem rows_open {u : Value} {ms : List Mt} {n : Nat} {T1 T2 : TypeId} {vs : List Value} : ∀ c ob, (rowsV u (besL ms n) T1 T2 vs).H c ob → ((som u isv vs T1).sep (pool n (poolX vs T2 (besRow ms n)))).H c ob := fun c ob ⟨o1, o2, h1, h2, h3, h4⟩ => by
 refine ⟨o1, o2, h1, h2, h3, ?_⟩
 rw [length_besL] at h4
 exact pool_congr (fun j hj => by rw [besL_at hj]; rfl) c o2 h4
theorem length_mtChk (ms : List Mt) : (mtChk ms).length = ms.length := by unfold mtChk; simp
theorem mtChk_at {ms : List Mt} {k : Nat} (h : k < ms.length) : (mtChk ms).getD k 0 = chk (ms.getD k mtD).r (ms.getD k mtD).c (ms.getD k mtD).a := by
 simp [mtChk, List.getD, List.getElem?_map, List.getElem?_eq_getElem h]
theorem chk_step {ms : List Mt} {k : Nat} (hk : k < ms.length) (h : fstE (mtChk ms) = fstE ((mtChk ms).drop k)) (hc : chk (ms.getD k mtD).r (ms.getD k mtD).c (ms.getD k mtD).a = 0) : fstE (mtChk ms) = fstE ((mtChk ms).drop (k + 1)) := by
 rw [h, fstE_drop (by rw [length_mtChk]; exact hk), mtChk_at hk, if_pos hc]
theorem chk_bad {ms : List Mt} {k : Nat} (hk : k < ms.length) (h : fstE (mtChk ms) = fstE ((mtChk ms).drop k)) (hc : chk (ms.getD k mtD).r (ms.getD k mtD).c (ms.getD k mtD).a ≠ 0) : fstE (mtChk ms) = chk (ms.getD k mtD).r (ms.getD k mtD).c (ms.getD k mtD).a := by
 rw [h, fstE_drop (by rw [length_mtChk]; exact hk), mtChk_at hk, if_neg hc]
theorem chk_end {ms : List Mt} {k : Nat} (hk : k = ms.length) (h : fstE (mtChk ms) = fstE ((mtChk ms).drop k)) : fstE (mtChk ms) = 0 := by
 rw [h, List.drop_of_length_le (by rw [length_mtChk]; omega)]
 rfl
theorem fstE_all : ∀ {es : List Int}, fstE es = 0 → ∀ e, e ∈ es → e = 0
 | [], _, e, he => by cases he
 | x :: es, h, e, he => by
  unfold fstE at h
  by_cases hx : x = 0
  ·rw [if_pos hx] at h
   rcases List.mem_cons.1 he with rfl | he
   ·exact hx
   ·exact fstE_all h e he
  ·rw [if_neg hx] at h; exact (hx h).elim
theorem chk_all {ms : List Mt} (h : fstE (mtChk ms) = 0) {k : Nat} (hk : k < ms.length) : chk (ms.getD k mtD).r (ms.getD k mtD).c (ms.getD k mtD).a = 0 := by
 rw [← mtChk_at hk]
 exact fstE_all h _ (mem_getD 0 (by rw [length_mtChk]; exact hk))
theorem triM_1 {ms : List Mt} (h : ms.length = 0) : triM ms = ⟨0, 0, [], 1⟩ := by unfold triM; rw [if_pos h]; rfl
theorem triM_2 {ms : List Mt} {e : Int} (h : ¬ ms.length = 0) (he : fstE (mtChk ms) = e) (h0 : e ≠ 0) : triM ms = ⟨0, 0, [], e⟩ := by unfold triM; rw [if_neg h, if_pos (by rw [he]; exact h0), he]; rfl
theorem triM_3 {ms : List Mt} (h : ¬ ms.length = 0) (he : fstE (mtChk ms) = 0) (hs : shpB ms = false) : triM ms = ⟨0, 0, [], 3⟩ := by unfold triM; rw [if_neg h, if_neg (by rw [he]; simp), if_pos hs]; rfl
theorem triM_4 {ms : List Mt} (h : ¬ ms.length = 0) (he : fstE (mtChk ms) = 0) (hs : shpB ms = true) (hc : 48 < colsTo ms ms.length) : triM ms = ⟨0, 0, [], 2⟩ := by unfold triM; rw [if_neg h, if_neg (by rw [he]; simp), if_neg (by rw [hs]; decide), if_pos hc]; rfl
theorem triM_5 {ms : List Mt} {n : Nat} (h : ¬ ms.length = 0) (he : fstE (mtChk ms) = 0) (hs : shpB ms = true) (hc : ¬ 48 < colsTo ms ms.length) (hn : (ms.getD 0 mtD).r = n) : triM ms = triR (besRow ms n) n := by unfold triM; rw [if_neg h, if_neg (by rw [he]; simp), if_neg (by rw [hs]; decide), if_neg hc, hn]; rfl
theorem besOk_of {ms : List Mt} {n : Nat} (h : ¬ ms.length = 0) (he : fstE (mtChk ms) = 0) (hs : shpB ms = true) (hc : ¬ 48 < colsTo ms ms.length) (hn : (ms.getD 0 mtD).r = n) : BesOk ms n where
 h0 := by omega
 hr := hn
 hg := fun k hk => by
  have h1 := chk_good (chk_all he hk)
  have h2 : (ms.getD k mtD).r = (ms.getD 0 mtD).r := of_decide_eq_true (List.all_eq_true.1 hs _ (mem_getD mtD hk))
  rw [h2, hn] at h1
  exact h1
 hc := by omega
theorem tri_put1 {X : Nat → List Nat} {i j : Nat} (h : fcmp .lss ((X j).getD j 0) 0 = true) : triN X i j = fadd (fneg ((X i).getD j 0)) 0 := by unfold triN; rw [if_pos h]
theorem tri_put0 {X : Nat → List Nat} {i j : Nat} (h : fcmp .lss ((X j).getD j 0) 0 = false) : triN X i j = fadd ((X i).getD j 0) 0 := by unfold triN; rw [if_neg (by rw [h]; decide)]
theorem tri_take {F : Nat → Nat → Nat} {n p q : Nat} (hp : p < n) (hq : q < n) : (grid (n : Int) (n : Int) fun a b => F a.toNat b.toNat).take (p * n + (q + 1)) = (grid (n : Int) (n : Int) fun a b => F a.toNat b.toNat).take (p * n + q) ++ [F p q] :=
 take_grid (r := (n : Int)) (c := (n : Int)) (f := fun a b => F a.toNat b.toNat) (i := p) (j := q) hp hq
theorem tri_take_le {F : Nat → Nat → Nat} {n k : Nat} (hn : n ≤ 12) : ((grid (n : Int) (n : Int) fun a b => F a.toNat b.toNat).take k).length ≤ 144 := by
 rw [List.length_take, length_grid]
 have h : ((n : Int)).toNat * ((n : Int)).toNat ≤ 12 * 12 := Nat.mul_le_mul hn hn
 omega
end Go.Bn
