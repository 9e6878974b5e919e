/-
 The law of the triangle's root: what its walk needs.
-/
import Derived.Test.YtllkellonjhalaaGreatRrGrb
import Derived.Test.YtllkellonjhalaaGreatRrRtr
set_option linter.unusedVariables false
set_option linter.unusedSimpArgs false
namespace Go.Bn
open Go
theorem tame_v {x : Nat} (hx : x < 2 ^ 64) (hr : rung x < 9218868437227405312) (h : tameB x 400 = true) : sval x = 0 ∨ 10000 * UU ≤ vlu x := by
 unfold tameB at h
 cases h0 : fcmp .eql x 0
 ·right
  rw [h0, Bool.false_or, Bool.and_eq_true] at h
  obtain ⟨a1, a2, _, _⟩ := fabs_parts hx hr
  have hv := vlu_fabs hx hr
  obtain ⟨l1, l2, l3⟩ := two_k (k := -400) (by omega) (by omega)
  have g1 := geq_val h.1 (by rw [a1]; exact hr) l1
  rw [sval_pos' a2, sval_pos' l2, hv, l3] at g1
  have g1' := Int.ofNat_le.1 g1
  clear g1 l3
  refine Nat.le_trans ?_ g1'
  exact Nat.le_trans (show 10000 * UU ≤ 2 ^ 100 by decide) (Nat.pow_le_pow_right (by omega) (by omega))
 ·left
  rw [eql_zero hx hr] at h0
  have := sval_abs x
  have := of_decide_eq_true h0
  omega
def allTB (xs : List Nat) (k : Int) : Bool := xs.all fun x => tameB x k
theorem tameL_of {xs : List Nat} (hF : FinL xs) (h : allTB xs 400 = true) : TameL xs := fun k => by
 by_cases hk : k < xs.length
 ·exact tame_v (hF k).2 (finL_r hF k) (List.all_eq_true.1 h _ (mem_getD 0 hk))
 ·left
  rw [List.getD, List.getElem?_eq_none (by omega)]
  decide +kernel
theorem tameL_app {xs ys : List Nat} (h : TameL xs) (g : TameL ys) : TameL (xs ++ ys) := fun k => by
 rw [getD_app]
 split
 ·exact h k
 ·exact g _
theorem tameL_rep (n : Nat) : TameL (List.replicate n 0) := fun k => by
 left
 rw [getD_rep]
 decide +kernel
theorem tameL_row {c : Int} {xs : List Nat} {i : Int} (h : TameL xs) : TameL (rowL c xs i) := fun k => by
 by_cases hk : k < c.toNat
 ·rw [getD_rowL hk]; exact h _
 ·left
  rw [List.getD, List.getElem?_eq_none (by rw [length_rowL]; omega)]
  decide +kernel
theorem tameL_besTo {ms : List Mt} (h : ∀ k, k < ms.length → TameL (ms.getD k mtD).a) (i : Nat) : ∀ k, k ≤ ms.length → TameL (besTo ms i k)
 | 0, _ => tameL_rep 0
 | k + 1, hk => tameL_app (tameL_besTo h i k (by omega)) (tameL_row (h k (by omega)))
theorem sumV_pad {a b : List Nat} (hl : a.length = b.length) (p q : Nat) : ∀ r, sumV (a ++ List.replicate p 0) (b ++ List.replicate q 0) (a.length + r) = sumV a b a.length
 | 0 => by
  have gen : ∀ m, m ≤ a.length → sumV (a ++ List.replicate p 0) (b ++ List.replicate q 0) m = sumV a b m := by
   intro m
   induction m with
   | zero => intro _; rfl
   | succ m ih =>
    intro hm
    rw [sumV, sumV, ih (by omega), getD_app, getD_app, if_pos (by omega), if_pos (by omega)]
  exact gen _ (Nat.le_refl _)
 | r + 1 => by
  rw [show a.length + (r + 1) = (a.length + r) + 1 by omega, sumV, sumV_pad hl p q r, getD_app, if_neg (by omega), getD_rep]
  have : sval 0 = 0 := by decide +kernel
  rw [this]
  omega
structure RootB (ms : List Mt) (T : MR) (n : Nat) : Prop where
 b : BesOk ms n
 nd : (ms.getD 0 mtD).r = n
 n12 : n ≤ 12
 Tr : T.r = n
 Tc : T.c = n
 Ta : T.a = triG (besRow ms n) n
 Tl : (T.a.length : Int) = (n : Int) * (n : Int)
 f : ∀ k, FinL (ms.getD k mtD).a
 tb : triB (besRow ms n) n = false
theorem rootB_of {ms : List Mt} (hlt : ∀ k, LtL (ms.getD k mtD).a) (h : (triM ms).e = 0) : ∃ n, RootB ms (triM ms) n := by
 by_cases h1 : ms.length = 0
 ·rw [triM_1 h1] at h; exact absurd h (by decide)
 by_cases h2 : fstE (mtChk ms) = 0
 ·cases h3 : shpB ms
  ·rw [triM_3 h1 h2 h3] at h; exact absurd h (by decide)
  ·by_cases h4 : 48 < colsTo ms ms.length
   ·rw [triM_4 h1 h2 h3 h4] at h; exact absurd h (by decide)
   ·have hc0 := chk_all h2 (show 0 < ms.length by omega)
    obtain ⟨n, hn⟩ : ∃ n : Nat, (ms.getD 0 mtD).r = (n : Int) := ⟨(ms.getD 0 mtD).r.toNat, by have := (chk_good hc0).1.1; omega⟩
    have e := triM_5 h1 h2 h3 h4 hn
    have hB := besOk_of h1 h2 h3 h4 hn
    have htb : triB (besRow ms n) n = false := by
     cases hb : triB (besRow ms n) n
     ·rfl
     ·rw [e] at h
      unfold triR at h
      rw [if_pos hb] at h
      exact absurd h (by decide)
    have eT : triM ms = ⟨n, n, triG (besRow ms n) n, 0⟩ := by
     rw [e]
     unfold triR
     rw [if_neg (by rw [htb]; decide)]
    have g0 := (chk_good hc0).1
    rw [hn] at g0
    have g12 := g0.2.1
    refine ⟨n, hB, hn, by omega, by rw [eT], by rw [eT], by rw [eT], ?_, fun k => ?_, htb⟩
    ·rw [eT]
     show ((triG (besRow ms n) n).length : Int) = _
     unfold triG
     rw [length_grid, Int.toNat_natCast, Int.natCast_mul]
    ·by_cases hk : k < ms.length
     ·exact finL_mk (chk_zero.1 (chk_all h2 hk)).2 (hlt k)
     ·rw [List.getD, List.getElem?_eq_none (by omega)]
      exact finL_rep 0
 ·rw [triM_2 h1 rfl h2] at h; exact absurd h h2
section
variable {ms : List Mt} {T : MR} {n : Nat} (h : RootB ms T n)
include h
theorem root_len (i : Nat) : (besRow ms n i).length = colsTo ms ms.length + (n - colsTo ms ms.length) ∧ colsTo ms ms.length ≤ 48 ∧ colsTo ms ms.length + (n - colsTo ms ms.length) ≤ 48 ∧ n ≤ colsTo ms ms.length + (n - colsTo ms ms.length) := by
 have h1 := h.b.hc
 have h2 := h.n12
 exact ⟨length_besRow, h1, by omega, by omega⟩
theorem root_T : ∀ i, i ≤ n → TriI (besRow ms n) n (colsTo ms ms.length + (n - colsTo ms ms.length)) i := triI_all (fun j _ => (root_len h j).1) (fun j _ => finL_app (finL_besTo h.f j _) (finL_rep _)) h.tb
theorem root_at {i j : Nat} (hi : i < n) (hj : j < n) : T.a.getD ((i : Int) * (n : Int) + (j : Int)).toNat 0 = triN (triTo (besRow ms n) n) i j := by
 rw [h.Ta]
 have := mat_grid (r := (n : Int)) (c := (n : Int)) (f := fun a b => triN (triTo (besRow ms n) n) a.toNat b.toNat) (i := (i : Int)) (j := (j : Int)) (by omega) (by omega) (by omega) (by omega)
 unfold mat at this
 unfold triG
 exact this
theorem root_up {i j : Nat} (hij : i < j) (hj : j < n) : T.a.getD ((i : Int) * (n : Int) + (j : Int)).toNat 0 = 0 := by
 rw [root_at h (by omega) hj]
 exact triN_up (tri_low0 (root_len h 0).2.2.2 (root_T h) n (Nat.le_refl _) i (by omega) j hij)
theorem root_dia {i : Nat} (hi : i < n) : fcmp .geq (T.a.getD ((i : Int) * (n : Int) + (i : Int)).toNat 0) 0 = true := by
 rw [root_at h hi hi]
 exact triN_dia ((root_T h n (Nat.le_refl _)).hf i hi)
theorem root_fin : FinL T.a := fun k => by
 rw [h.Ta]
 unfold triG grid
 by_cases hk : k < ((n : Int)).toNat * ((n : Int)).toNat
 ·rw [List.getD, List.getElem?_map, List.getElem?_range hk]
  simp only [Option.map_some, Option.getD_some]
  have hn : 0 < n := by
   rcases Nat.eq_zero_or_pos n with e | e
   ·subst e; simp at hk
   ·exact e
  have hq : k / ((n : Int)).toNat < n := by
   rw [Int.toNat_natCast] at hk ⊢
   exact Nat.div_lt_of_lt_mul hk
  have := triN_rv (X := triTo (besRow ms n) n) (i := ((k / ((n : Int)).toNat : Nat) : Int).toNat) (j := ((k % ((n : Int)).toNat : Nat) : Int).toNat) ((root_T h n (Nat.le_refl _)).hf _ (by rw [Int.toNat_natCast]; exact hq))
  exact ⟨(finB_iff this.1).2 this.2.1, this.1⟩
 ·rw [List.getD, List.getElem?_eq_none (by rw [List.length_map, List.length_range]; omega)]
  exact ⟨by decide, by decide⟩
theorem root_win (ht : ∀ k, k < ms.length → allTB (ms.getD k mtD).a 400 = true) {i j : Nat} (hi : i < n) (hj : j < n) :
  (∀ e, e = min (dotX (rowL n T.a i) (rowL n T.a j) (rowL n T.a i).length).e (dotX (besTo ms i ms.length) (besTo ms j ms.length) (besTo ms i ms.length).length).neg.e → Sml ((dotX (rowL n T.a i) (rowL n T.a j) (rowL n T.a i).length).low e).m ∧ Sml ((dotX (besTo ms i ms.length) (besTo ms j ms.length) (besTo ms i ms.length).length).neg.low e).m) ∧
  WinB ((dotX (rowL n T.a i) (rowL n T.a j) (rowL n T.a i).length).add (dotX (besTo ms i ms.length) (besTo ms j ms.length) (besTo ms i ms.length).length).neg) ((dotX (besTo ms i ms.length) (besTo ms i ms.length) (besTo ms i ms.length).length).mul (dotX (besTo ms j ms.length) (besTo ms j ms.length) (besTo ms j ms.length).length)) := by
 obtain ⟨_, l1, l2, l3⟩ := root_len h 0
 have n12 := h.n12
 have rT : ∀ i : Nat, (rowL n T.a i).length = n := fun i => by rw [length_rowL, Int.toNat_natCast]
 have rB : ∀ i : Nat, (besTo ms i ms.length).length = colsTo ms ms.length := fun i => length_besTo ms i ms.length
 have hFX : ∀ i : Nat, FinL (besRow ms n i) := fun i => finL_app (finL_besTo h.f i _) (finL_rep _)
 have tX : ∀ i : Nat, TameL (besRow ms n i) := fun i => tameL_app (tameL_besTo (fun k hk => tameL_of (h.f k) (ht k hk)) i _ (Nat.le_refl _)) (tameL_rep _)
 have row : ∀ i : Nat, i < n → ∀ k, k < n → (rowL n T.a i).getD k 0 = triN (triTo (besRow ms n) n) i k := fun i hi k hk => by
  rw [getD_rowL (by rw [Int.toNat_natCast]; exact hk)]
  exact root_at h hi hk
 have g := tri_gram (X := besRow ms n) (L := colsTo ms ms.length + (n - colsTo ms ms.length)) n12 l2 l3 (fun j _ => (root_len h j).1) (fun j _ => hFX j) (fun j _ => tX j) h.tb hi hj (a := rowL n T.a i) (b := rowL n T.a j) (row i hi) (row j hj)
 have pad : ∀ i j : Nat, sumV (besRow ms n i) (besRow ms n j) (colsTo ms ms.length + (n - colsTo ms ms.length)) = sumV (besTo ms i ms.length) (besTo ms j ms.length) (colsTo ms ms.length) := fun i j => by
  have := sumV_pad (a := besTo ms i ms.length) (b := besTo ms j ms.length) (by rw [rB, rB]) (n - (besTo ms i ms.length).length) (n - (besTo ms j ms.length).length) (n - colsTo ms ms.length)
  rw [rB i, rB j] at this
  unfold besRow
  rw [rB i, rB j]
  exact this
 rw [pad, pad, pad] at g
 rw [rT, rB, rB]
 exact win_prod (n := n) (m := colsTo ms ms.length) (by omega) l1 (finL_row (root_fin h)) (finL_row (root_fin h)) (finL_besTo h.f i _) (finL_besTo h.f j _) g
structure RootW (a b c d : List Nat) : Prop where
 d1 : DotB a b
 d2 : DotB c d
 d3 : DotB c c
 d4 : DotB d d
 e1 : Exb (dotX a b a.length)
 e2 : Exb (dotX c d c.length)
 e2n : Exb (dotX c d c.length).neg
 sm : ∀ e, e = min (dotX a b a.length).e (dotX c d c.length).neg.e → Sml ((dotX a b a.length).low e).m ∧ Sml ((dotX c d c.length).neg.low e).m
 e3 : Exb (dotX c c c.length)
 e4 : Exb (dotX d d d.length)
 w : WinB ((dotX a b a.length).add (dotX c d c.length).neg) ((dotX c c c.length).mul (dotX d d d.length))
theorem root_w (ht : ∀ k, k < ms.length → allTB (ms.getD k mtD).a 400 = true) {i j : Nat} (hi : i < n) (hj : j < n) : RootW (rowL n T.a i) (rowL n T.a j) (besTo ms i ms.length) (besTo ms j ms.length) := by
 obtain ⟨w1, w2⟩ := root_win h ht hi hj
 obtain ⟨_, l1, l2, l3⟩ := root_len h 0
 have n12 := h.n12
 have rT : ∀ i : Nat, (rowL n T.a i).length = n := fun i => by rw [length_rowL, Int.toNat_natCast]
 have rB : ∀ i : Nat, (besTo ms i ms.length).length = colsTo ms ms.length := fun i => length_besTo ms i ms.length
 have fT : ∀ i : Nat, FinL (rowL n T.a i) := fun i => finL_row (root_fin h)
 have fB : ∀ i : Nat, FinL (besTo ms i ms.length) := fun i => finL_besTo h.f i _
 have db : ∀ {a b : List Nat}, a.length ≤ b.length → a.length ≤ 48 → FinL a → FinL b → DotB a b := fun h1 h2 h3 h4 => dotB_of h1 (by omega) (fun k _ => h3 k) (fun k _ => h4 k)
 have eb : ∀ {a b : List Nat}, a.length ≤ 48 → FinL a → FinL b → Exl (dotX a b a.length) 2148 10000 := fun h1 h3 h4 => exl_dot2 h3 h4 _ h1
 have tn : ∀ i : Nat, (rowL n T.a i).length ≤ 48 := fun i => by rw [rT]; omega
 have bn : ∀ i : Nat, (besTo ms i ms.length).length ≤ 48 := fun i => by rw [rB]; omega
 exact ⟨db (by rw [rT, rT]; omega) (tn i) (fT i) (fT j), db (by rw [rB, rB]; omega) (bn i) (fB i) (fB j), db (Nat.le_refl _) (bn i) (fB i) (fB i), db (Nat.le_refl _) (bn j) (fB j) (fB j), exl_exb (eb (tn i) (fT i) (fT j)) (by omega) (by omega), exl_exb (eb (bn i) (fB i) (fB j)) (by omega) (by omega), exl_exb (exl_neg (eb (bn i) (fB i) (fB j))) (by omega) (by omega), w1, exl_exb (eb (bn i) (fB i) (fB i)) (by omega) (by omega), exl_exb (eb (bn j) (fB j) (fB j)) (by omega) (by omega), w2⟩
theorem root_good : Good n n T.a := ⟨⟨by omega, by have := h.n12; omega, by omega, by have := h.n12; omega⟩, h.Tl⟩
theorem root_no (g : ((cmpB .neq T.r (n : Int) || cmpB .neq T.c (n : Int)) || cmpB .neq (T.a.length : Int) ((n : Int) * (n : Int))) = true) : False := by
 rw [h.Tr, h.Tc, h.Tl] at g
 simp [cmpB] at g
end
theorem tri_nil {ms : List Mt} (h : cmpB .neq (triM ms).e 0 = true) : (triM ms).a = [] := by
 have he : (triM ms).e ≠ 0 := by simpa [cmpB] using h
 by_cases h1 : ms.length = 0
 ·rw [triM_1 h1]
 by_cases h2 : fstE (mtChk ms) = 0
 ·cases h3 : shpB ms
  ·rw [triM_3 h1 h2 h3]
  ·by_cases h4 : 48 < colsTo ms ms.length
   ·rw [triM_4 h1 h2 h3 h4]
   ·have hc0 := chk_all h2 (show 0 < ms.length by omega)
    obtain ⟨n, hn⟩ : ∃ n : Nat, (ms.getD 0 mtD).r = (n : Int) := ⟨(ms.getD 0 mtD).r.toNat, by have := (chk_good hc0).1.1; omega⟩
    have e := triM_5 h1 h2 h3 h4 hn
    rw [e] at he ⊢
    unfold triR at he ⊢
    split
    ·rfl
    ·rename_i hb
     rw [if_neg hb] at he
     exact absurd rfl he
 ·rw [triM_2 h1 rfl h2]
theorem rootB_all {ms : List Mt} (hlt : ∀ k, LtL (ms.getD k mtD).a) (h : cmpB .neq (triM ms).e 0 = false) : ∃ n, RootB ms (triM ms) n := rootB_of hlt (by simpa [cmpB] using h)
theorem tam_step {ms : List Mt} {k : Nat} (h : ∀ q, q < k → allTB (ms.getD q mtD).a 400 = true) (hk : allTB (ms.getD k mtD).a 400 = true) : ∀ q, q < k + 1 → allTB (ms.getD q mtD).a 400 = true := fun q hq => by
 by_cases e : q = k
 ·rw [e]; exact hk
 ·exact h q (by omega)
theorem not_b {b : Bool} (h : (!b) = false) : b = true := by simpa using h
theorem row_rng {c : Int} {p : Nat} (h0 : 0 ≤ c) (hp : (p : Int) < c) : 0 ≤ (p : Int) * c ∧ (p : Int) * c ≤ ((p : Int) + 1) * c ∧ ((p : Int) + 1) * c ≤ c * c :=
 ⟨Int.mul_nonneg (by omega) h0, Int.mul_le_mul_of_nonneg_right (by omega) h0, Int.mul_le_mul_of_nonneg_right (by omega) h0⟩
end Go.Bn
