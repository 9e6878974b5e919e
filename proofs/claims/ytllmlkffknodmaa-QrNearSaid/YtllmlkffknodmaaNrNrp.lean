/-
  The length of a list scaled by a power of two.
-/
import Derived.Test.YtllmlkffknodmaaNrNrt
set_option linter.unusedVariables false
set_option linter.unusedSimpArgs false
namespace Go.Bn
open Go
/-! ## Sums of squares of two lists, one of which lacks what is small -/
/-- One square each: either the second is nought and the first at most M, or they are the same and far above M. -/
structure Abs2 (M q q' : Nat) : Prop where
  l : q < 2 ^ 64
  f : rung q < 9218868437227405312
  s : sgn q = false
  c : (q' = 0 ∧ vlu q ≤ M) ∨ (q' = q ∧ M * 2 ^ 200 ≤ vlu q)
theorem fadd_0 {p : Nat} (hp : p < 2 ^ 64) (fp : rung p < 9218868437227405312) (sp : sgn p = false) (hf : rung (fadd 0 p) < 9218868437227405312) : fadd 0 p = p := absorb hp (by decide) fp (by decide) sp hf (by rw [vlu_z, Nat.zero_mul]; exact Nat.zero_le _)
theorem fadd_0r {p : Nat} (hp : p < 2 ^ 64) (fp : rung p < 9218868437227405312) (sp : sgn p = false) : fadd p 0 = p := by
  rw [fadd_comm]
  exact fadd_0 hp fp sp (fadd_zero hp fp).1
theorem four_48 {k : Nat} (h : k ≤ 48) : (4 : Nat) ^ k ≤ 2 ^ 96 := by
  rw [show (4 : Nat) = 2 ^ 2 by decide, ← Nat.pow_mul]
  exact Nat.pow_le_pow_right (by omega) (by omega)
/-- What is summed up to k. -/
structure AbsS (M k p p' : Nat) : Prop where
  l : p < 2 ^ 64
  f : rung p < 9218868437227405312
  s : sgn p = false
  c : (p' = 0 ∧ vlu p ≤ 4 ^ k * M) ∨ (p' = p ∧ M * 2 ^ 150 ≤ vlu p)
theorem abs_step {M k p p' q q' : Nat} (hk : k < 48) (h : AbsS M k p p') (g : Abs2 M q q') (hf : rung (fadd p q) < 9218868437227405312) : AbsS M (k + 1) (fadd p q) (fadd p' q') := by
  have hs := fadd_sgn h.f g.f h.s g.s
  have e1 := sval_pos' h.s
  have e2 := sval_pos' g.s
  have hge := fadd_ge h.f g.f hf (by omega) (by omega)
  have h4 := four_48 (show k ≤ 48 by omega)
  refine ⟨fop_lt (op := .add), hf, hs, ?_⟩
  rcases h.c with ⟨a1, a2⟩ | ⟨a1, a2⟩
  · rcases g.c with ⟨b1, b2⟩ | ⟨b1, b2⟩
    · left
      subst a1; subst b1
      refine ⟨by decide +kernel, ?_⟩
      have he := fadd_err h.f g.f hf
      have e3 := sval_abs (fadd p q)
      have h3 : (sval (fadd p q) - (sval p + sval q)).natAbs ≤ (sval p + sval q).natAbs := Nat.le_trans (Nat.le_mul_of_pos_right _ uu_pos) he
      rw [Nat.pow_succ, ← e3]
      have h5 : M ≤ 4 ^ k * M := Nat.le_mul_of_pos_left _ (Nat.pow_pos (by omega))
      have e5 : 4 ^ k * 4 * M = 4 * (4 ^ k * M) := by rw [Nat.mul_comm (4 ^ k), Nat.mul_assoc]
      omega
    · right
      subst a1; subst b1
      have hp : vlu p ≤ 2 ^ 96 * M := Nat.le_trans a2 (Nat.mul_le_mul_right _ h4)
      have e60 : (2 : Nat) ^ 60 = 1152921504606846976 := by decide
      have hab : fadd p q' = q' := absorb g.l h.f g.f h.s g.s hf (by
        refine Nat.le_trans (Nat.mul_le_mul_right _ hp) (Nat.le_trans ?_ b2)
        rw [Nat.mul_comm (2 ^ 96), Nat.mul_assoc, ← Nat.pow_add]
        exact Nat.mul_le_mul_left _ (Nat.pow_le_pow_right (by omega) (by omega)))
      have h0 : fadd 0 q' = q' := fadd_0 g.l g.f g.s (fadd_zero g.l g.f).1
      rw [hab, h0]
      exact ⟨rfl, Nat.le_trans (Nat.mul_le_mul_left _ (Nat.pow_le_pow_right (by omega) (by omega))) b2⟩
  · right
    subst a1
    rcases g.c with ⟨b1, b2⟩ | ⟨b1, b2⟩
    · subst b1
      have hab : fadd p' q = p' := by
        have hf' := hf
        rw [fadd_comm] at hf' ⊢
        exact absorb h.l g.f h.f g.s h.s hf' (by
          refine Nat.le_trans (Nat.mul_le_mul_right _ b2) (Nat.le_trans (Nat.mul_le_mul_left _ (Nat.pow_le_pow_right (by omega) (by omega))) a2))
      rw [hab, fadd_0r h.l h.f h.s]
      exact ⟨rfl, a2⟩
    · subst b1
      exact ⟨rfl, Nat.le_trans a2 hge.1⟩
theorem abs_dot {M : Nat} {ys zs : List Nat} (hA : ∀ i, Abs2 M (fmul (ys.getD i 0) (ys.getD i 0)) (fmul (zs.getD i 0) (zs.getD i 0))) (hf : ∀ n, n ≤ 48 → rung (dotTo ys ys n) < 9218868437227405312) : ∀ n, n ≤ 48 → AbsS M n (dotTo ys ys n) (dotTo zs zs n)
  | 0, _ => ⟨by show 0 < 2 ^ 64; decide, by show rung 0 < _; decide, by show sgn 0 = false; decide, .inl ⟨rfl, by show vlu 0 ≤ _; rw [vlu_z]; exact Nat.zero_le _⟩⟩
  | n + 1, hn => by
    have h := hf (n + 1) hn
    rw [dot_suc] at h ⊢
    rw [dot_suc]
    exact abs_step (by omega) (abs_dot hA hf n (by omega)) (hA n) h
/-- A square that is not nought, against the exact one. -/
theorem sq_val {y : Nat} (fy : rung y < 9218868437227405312) (fp : rung (fmul y y) < 9218868437227405312) :
    vlu (fmul y y) * PZ ≤ 2 * (vlu y * vlu y) ∧ (PZ ≤ vlu y * vlu y → vlu y * vlu y ≤ 2 * (vlu (fmul y y) * PZ)) := by
  obtain ⟨E, h1, h2⟩ := fmul_err fy fy fp
  rw [sval_pos' (sq_sgn fy)] at h1
  have hs : sval y * sval y = ((vlu y * vlu y : Nat) : Int) := by
    rw [sval_sgz, sgz_mul, Bool.xor_self]; simp [sgz]
  rw [hs] at h1 h2
  rw [Int.natAbs_natCast] at h2
  have hP := pz_pos
  generalize vlu y * vlu y = Y at *
  have h3 : ((vlu (fmul y y) : Nat) : Int) * (PZ : Nat) = ((vlu (fmul y y) * PZ : Nat) : Int) := by rw [Int.natCast_mul]
  rw [h3] at h1
  generalize hq : vlu (fmul y y) = q at *
  have hU : 2 ≤ UU := by decide
  constructor
  · rcases h2 with h2 | h2
    · have : E * 2 ≤ E * UU := Nat.mul_le_mul_left _ hU
      omega
    · rcases Nat.eq_zero_or_pos q with h0 | h0
      · rw [h0, Nat.zero_mul]; exact Nat.zero_le _
      · have : 1 * PZ ≤ q * PZ := Nat.mul_le_mul_right _ h0
        omega
  · intro hb
    rcases h2 with h2 | h2
    · have : E * 2 ≤ E * UU := Nat.mul_le_mul_left _ hU
      omega
    · omega
/-- Two squares, one number far above the other. -/
theorem sq_far {y z : Nat} (fy : rung y < 9218868437227405312) (fz : rung z < 9218868437227405312) (fp : rung (fmul y y) < 9218868437227405312) (fq : rung (fmul z z) < 9218868437227405312) (h : vlu y * 2 ^ 110 ≤ vlu z) : vlu (fmul y y) * 2 ^ 200 ≤ vlu (fmul z z) := by
  have hP := pz_pos
  rcases Nat.eq_zero_or_pos (vlu (fmul y y)) with h0 | h0
  · rw [h0, Nat.zero_mul]; exact Nat.zero_le _
  · have h1 := (sq_val fy fp).1
    have h2 := Nat.mul_le_mul h h
    rw [mul4, ← Nat.pow_add, show 110 + 110 = 220 by decide] at h2
    have h3 : 1 * PZ ≤ vlu (fmul y y) * PZ := Nat.mul_le_mul_right _ h0
    have h4 : PZ ≤ vlu z * vlu z := by
      have : vlu y * vlu y * 2 ≤ vlu y * vlu y * 2 ^ 220 := Nat.mul_le_mul_left _ (by decide)
      omega
    have h5 := (sq_val fz fq).2 h4
    refine Nat.le_of_mul_le_mul_right (c := PZ) ?_ hP
    have h6 := Nat.mul_le_mul_right (2 ^ 200) h1
    have e1 : vlu (fmul y y) * PZ * 2 ^ 200 = vlu (fmul y y) * 2 ^ 200 * PZ := Nat.mul_right_comm ..
    have e2 : 2 * (vlu y * vlu y) * 2 ^ 200 ≤ vlu y * vlu y * 2 ^ 218 := by
      rw [Nat.mul_comm 2, Nat.mul_assoc]
      exact Nat.mul_le_mul_left _ (by decide)
    have e3 : vlu y * vlu y * 2 ^ 220 = 4 * (vlu y * vlu y * 2 ^ 218) := by
      rw [show 220 = 218 + 2 by decide, Nat.pow_add, ← Nat.mul_assoc, Nat.mul_comm _ (2 ^ 2)]
    omega
/-! ## A list scaled by a power of two -/
def pwL (xs : List Nat) (j : Int) : List Nat := xs.map fun x => ldx x j
theorem length_pwL (xs : List Nat) (j : Int) : (pwL xs j).length = xs.length := by unfold pwL; rw [List.length_map]
theorem pw_at {xs : List Nat} {j : Int} {i : Nat} (h : i < xs.length) : (pwL xs j).getD i 0 = ldx (xs.getD i 0) j := by
  unfold pwL
  simp [List.getD, List.getElem?_map, List.getElem?_eq_getElem h]
/-- How a tame number scaled lies to what it was. -/
inductive Pw (x y : Nat) (j : Int) : Prop
  | zero (h : vlu x = 0) (e : y = x)
  | lost (h : vlu y = 0) (f : rung y < 9218868437227405312) (l : y < 2 ^ 64) (e : 2 * (vlu x * 2 ^ j.toNat) ≤ 2 ^ (-j).toNat)
  | sc (h : Sc x y j) (e : 2 ^ 174 ≤ vlu y)
theorem mgn_vlu0 {x : Nat} (h : vlu x = 0) : mgn x = 0 := by
  unfold vlu at h
  rcases Nat.mul_eq_zero.1 h with h | h
  · exact h
  · exact absurd h (Nat.ne_of_gt (Nat.two_pow_pos _))
/-- What is scaled to a number that is far from the least is scaled exactly. -/
theorem sc_norm {x : Nat} {j : Int} (hx : x < 2 ^ 64) (fx : rung x < 9218868437227405312) (h1 : 1 ≤ expo x) (j0 : -9000 ≤ j) (j1 : j ≤ 9000) (hf : rung (ldx x j) < 9218868437227405312) (u1 : 123 ≤ expo (ldx x j)) : Sc x (ldx x j) j := by
  by_cases c1 : (expo x : Int) - 1023 + j < -1022
  · exfalso
    have h1 := (ldx_tiny (k := j) hx fx (by omega) c1).2.2
    have h2 := vlu_ge_expo (x := ldx x j) (by omega)
    have h3 : 2 ^ 61 ≤ 2 ^ (expo (ldx x j) + 51) := Nat.pow_le_pow_right (by omega) (by omega)
    have h4 : (2 : Nat) ^ 60 < 2 ^ 61 := by decide
    omega
  · by_cases c2 : (expo x : Int) - 1023 + j ≤ 1023
    · exact ldx_exact hx fx (by omega) (by omega) c2
    · exfalso
      -- above all that is finite
      have hn := ldx_half (k := j) hx fx (by omega) (by omega) hf
      have h1 := vlu_ge_expo (x := x) (by omega)
      have hex : expo x ≤ 2046 := by rw [expo_rung']; omega
      have hel : expo (ldx x j) ≤ 2046 := by rw [expo_rung']; omega
      have hj : (-j).toNat = 0 := by omega
      rw [hj, Nat.pow_zero, Nat.mul_one] at hn
      have h2 := Nat.mul_le_mul_right (2 ^ j.toNat) h1
      rw [← Nat.pow_add] at h2
      have h3 : vlu (ldx x j) < 2 ^ (expo (ldx x j) + 52) := by
        rcases @vlu_lt_expo (ldx x j) with h | ⟨h, _⟩
        · exact h
        · omega
      have h4 : 2 ^ (expo (ldx x j) + 52) ≤ 2 ^ (expo x + 51 + j.toNat) := Nat.pow_le_pow_right (by omega) (by omega)
      omega
theorem pw_of {x : Nat} {j : Int} (hx : x < 2 ^ 64) (fx : rung x < 9218868437227405312) (j0 : -900 ≤ j) (j1 : j ≤ 900) (tx : tameB x 900 = true) (ty : tameB (ldx x j) 900 = true) : Pw x (ldx x j) j := by
  by_cases h0 : vlu x = 0
  · exact .zero h0 (ldx_zero (mgn_zero (mgn_vlu0 h0)))
  · have z0 : fcmp .eql x 0 = false := by rw [eql_zero hx fx]; exact decide_eq_false h0
    obtain ⟨t1, t2⟩ := tame_rng hx z0 tx fx
    have hl := ldx_lt (k := j) hx
    cases hz : fcmp .eql (ldx x j) 0
    · have hf := tame_fin hl hz ty
      obtain ⟨u1, u2⟩ := tame_rng hl hz ty hf
      refine .sc ?_ (Nat.le_trans (Nat.pow_le_pow_right (by omega) (by omega)) (vlu_ge_expo (x := ldx x j) (by omega)))
      exact sc_norm hx fx (by omega) (by omega) (by omega) hf u1
    · have hf : rung (ldx x j) < 9218868437227405312 := by
        by_cases h : rung (ldx x j) < 9218868437227405312
        · exact h
        · exfalso
          have h2 : ford (ldx x j) 0 = some .eq := by simpa [fcmp] using hz
          unfold ford Ieee.Format.order at h2
          rcases read_not h with ⟨s, h3⟩ | h3
          · rw [h3, show Ieee.double.read 0 = .number false 0 (-1074) by decide +kernel] at h2
            cases s <;> simp [Ieee.Datum.order] at h2
          · have : Ieee.double.read (ldx x j) = .nan (Ieee.double.read (ldx x j)).neg 0 ∨ True := .inr trivial
            generalize hd : Ieee.double.read (ldx x j) = d at h2 h3
            cases d with
            | nan s f => simp [Ieee.Datum.order] at h2
            | infinity s => cases h3
            | number s m e => cases h3
      have hv : vlu (ldx x j) = 0 := by rw [eql_zero hl hf] at hz; simpa using hz
      refine .lost hv hf hl ?_
      have := (ldx_half (k := j) hx fx (by omega) (by omega) hf).2
      rw [hv, Nat.zero_mul] at this
      omega
theorem fin_pw {xs : List Nat} {j : Int} (hF : FinL xs) (hP : ∀ i, i < xs.length → Pw (xs.getD i 0) ((pwL xs j).getD i 0) j) : FinL (pwL xs j) := fun i => by
  by_cases hi : i < xs.length
  · cases hP i hi with
    | zero h e => rw [e]; exact hF i
    | lost h f l e => exact ⟨(finB_iff l).2 f, l⟩
    | sc h e => exact ⟨(finB_iff h.l).2 h.f, h.l⟩
  · rw [getD_out (by rw [length_pwL]; exact hi)]
    decide
/-- The power of a list is told by its greatest one. -/
theorem powK_uniq {xs : List Nat} {K : Int} (hF : FinL xs) (hb : powB xs = true) (k0 : -1074 ≤ K) (h1 : 2 ^ (K + 1074).toNat ≤ vlu (maxL xs)) (h2 : vlu (maxL xs) < 2 ^ (K + 1075).toNat) : powK xs = K := by
  obtain ⟨_, p1, p2, p3, p4, _⟩ := powK_spec hF hb
  have a1 : 2 ^ (K + 1074).toNat < 2 ^ (powK xs + 1075).toNat := Nat.lt_of_le_of_lt h1 p4
  have a2 : 2 ^ (powK xs + 1074).toNat < 2 ^ (K + 1075).toNat := Nat.lt_of_le_of_lt p3 h2
  have b1 := (Nat.pow_lt_pow_iff_right (show 1 < 2 by omega)).1 a1
  have b2 := (Nat.pow_lt_pow_iff_right (show 1 < 2 by omega)).1 a2
  omega
/-- Two finite ones of a list scaled: their squares. -/
theorem lost_far {x z : Nat} {j K : Int} {A B Y Z : Nat} (hz : 2 ^ 174 ≤ Z) (h1 : 2 * (x * 2 ^ j.toNat) ≤ 2 ^ (-j).toNat) (h2 : Z * 2 ^ (-j).toNat = z * 2 ^ j.toNat) : x * 2 ^ 174 ≤ z := by
  refine Nat.le_of_mul_le_mul_right (c := 2 ^ j.toNat) ?_ (Nat.two_pow_pos _)
  have g := Nat.mul_le_mul_right (2 ^ (-j).toNat) hz
  have g2 := Nat.mul_le_mul_right (2 ^ 174) h1
  have e1 : x * 2 ^ 174 * 2 ^ j.toNat = x * 2 ^ j.toNat * 2 ^ 174 := Nat.mul_right_comm ..
  have e2 : 2 * (x * 2 ^ j.toNat) * 2 ^ 174 = 2 * (x * 2 ^ j.toNat * 2 ^ 174) := Nat.mul_assoc ..
  have e3 : 2 ^ (-j).toNat * 2 ^ 174 = 2 ^ 174 * 2 ^ (-j).toNat := Nat.mul_comm ..
  omega
theorem scaled_far {x z A B Y Z : Nat} (hA : 0 < A) (h : x * 2 ^ 174 ≤ z) (y2 : 2 * (Y * A) ≤ 2 * (x * B) + A) (z1 : 2 * (z * B) ≤ 2 * (Z * A) + A) : Y * 2 ^ 110 ≤ Z := by
  rcases Nat.eq_zero_or_pos Y with h0 | h0
  · rw [h0, Nat.zero_mul]; exact Nat.zero_le _
  · have g1 : 1 * A ≤ Y * A := Nat.mul_le_mul_right _ h0
    have g2 := Nat.mul_le_mul_right B h
    have e1 : x * 2 ^ 174 * B = x * B * 2 ^ 174 := Nat.mul_right_comm ..
    refine Nat.le_of_mul_le_mul_right (c := A) ?_ hA
    have e2 : Y * 2 ^ 110 * A = Y * A * 2 ^ 110 := Nat.mul_right_comm ..
    have e3 : (2 : Nat) ^ 174 = 2 ^ 110 * 2 ^ 64 := by rw [← Nat.pow_add]
    rw [e1, e3] at g2
    rw [e2]
    generalize Y * A = y at *
    generalize x * B = w at *
    generalize z * B = v at *
    generalize Z * A = u at *
    have g3 : w * (2 ^ 110 * 2 ^ 64) = w * 2 ^ 110 * 2 ^ 64 := by rw [Nat.mul_assoc]
    have g4 : y * 2 ^ 110 ≤ 2 * w * 2 ^ 110 := Nat.mul_le_mul_right _ (by omega)
    have g5 : 2 * w * 2 ^ 110 = 2 * (w * 2 ^ 110) := Nat.mul_assoc ..
    have g6 : w * 1 ≤ w * 2 ^ 110 := Nat.mul_le_mul_left _ (Nat.two_pow_pos _)
    have e64 : (2 : Nat) ^ 64 = 18446744073709551616 := by decide
    rw [g3, e64] at g2
    generalize (2 : Nat) ^ 110 = C at *
    clear e3 g3 e64
    generalize w * C = wc at *
    generalize y * C = yc at *
    omega
/-- There is a bound for what is lost. -/
theorem lost_bound {L : Nat → Prop} {q : Nat → Nat} (hd : ∀ i, L i ∨ ¬ L i) : ∀ n : Nat, ∃ M, (∀ i, i < n → L i → q i ≤ M) ∧ (M = 0 ∨ ∃ i, i < n ∧ L i ∧ M = q i)
  | 0 => ⟨0, fun i h => absurd h (Nat.not_lt_zero i), .inl rfl⟩
  | n + 1 => by
    obtain ⟨M, h1, h2⟩ := lost_bound hd n
    by_cases h : L n ∧ M ≤ q n
    · refine ⟨q n, fun i hi hL => ?_, .inr ⟨n, by omega, h.1, rfl⟩⟩
      by_cases e : i = n
      · rw [e]; exact Nat.le_refl _
      · exact Nat.le_trans (h1 i (by omega) hL) h.2
    · refine ⟨M, fun i hi hL => ?_, ?_⟩
      · by_cases e : i = n
        · subst e
          rcases Nat.lt_or_ge (q i) M with c | c
          · omega
          · exact absurd ⟨hL, c⟩ h
        · exact h1 i (by omega) hL
      · rcases h2 with h2 | ⟨i, g1, g2, g3⟩
        · exact .inl h2
        · exact .inr ⟨i, by omega, g2, g3⟩
end Go.Bn
