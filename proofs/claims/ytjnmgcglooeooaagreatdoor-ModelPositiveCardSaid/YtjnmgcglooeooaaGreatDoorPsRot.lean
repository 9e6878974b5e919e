/-
 The roots of what time adds, times themselves: nearly what time adds. Block by block.
-/
import Derived.Test.YtjnmgcglooeooaaGreatDoorPsKd
import Derived.Test.YtjnmgcglooeooaaGreatDoorPsKe
import Derived.Test.YtjnmgcglooeooaaGreatDoorPsGo
set_option linter.unusedVariables false
set_option linter.unusedSimpArgs false
namespace Go.Bn
open Go
structure Cst (c n k : Nat) : Prop where
 r : Rng c k
 v : vlu c = n * PZ
theorem cst_of {c n k : Nat} (hr : rung c < 9218868437227405312) (hs : sgn c = false) (hm : mgn c = n * 2 ^ (52 - n.log2)) (hp : (plc c + 1074).toNat + (52 - n.log2) = NZ) (h1 : 1 ≤ n) (h2 : n ≤ 2 ^ k) : Cst c n k := by
 have hv : vlu c = n * PZ := by
  unfold vlu
  rw [hm, Nat.mul_assoc, ← Nat.pow_add, Nat.add_comm, hp, ← pz_def]
 have hP := pz_pos
 refine ⟨⟨hr, hs, ?_, ?_⟩, hv⟩
 ·rw [hv]
  have h3 := Nat.two_pow_pos k
  have h4 : 1 * PZ * 1 ≤ n * PZ * 2 ^ k := Nat.mul_le_mul (Nat.mul_le_mul_right _ h1) h3
  rw [Nat.one_mul, Nat.mul_one] at h4
  exact h4
 ·rw [hv, Nat.mul_comm]
  exact Nat.mul_le_mul_left _ h2
theorem c2 : Cst 0x4000000000000000 2 1 := cst_of (by decide) (by decide) (by decide) (by decide) (by decide) (by decide)
theorem c3 : Cst 0x4008000000000000 3 2 := cst_of (by decide) (by decide) (by decide) (by decide) (by decide) (by decide)
theorem c6 : Cst 0x4018000000000000 6 3 := cst_of (by decide) (by decide) (by decide) (by decide) (by decide) (by decide)
theorem c8 : Cst 0x4020000000000000 8 3 := cst_of (by decide) (by decide) (by decide) (by decide) (by decide) (by decide)
theorem c20 : Cst 0x4034000000000000 20 5 := cst_of (by decide) (by decide) (by decide) (by decide) (by decide) (by decide)
theorem over_apx {x c n k l : Nat} (hx : Rng x k) (hc : Cst c n l) (hk : k + l ≤ 900) : Apx 2 (vlu (fdiv x c) * n) (vlu x) ∧ Rng (fdiv x c) (k + l + 2) := by
 obtain ⟨h1, h2⟩ := div_apx hx hc.r hk
 rw [hc.v, ← Nat.mul_assoc] at h1
 exact ⟨h1.cancel pz_pos, h2⟩
section
variable {a d : Nat} (ha : Rng a 200) (hd : Rng d 75)
include ha hd
theorem spd_q : Apx 4 (vlu (fdiv (fmul (fmul a d) d) 0x4008000000000000) * (3 * (PZ * PZ))) (vlu a * vlu d * vlu d) ∧ Apx 3 (vlu (fdiv (fmul a d) 0x4000000000000000) * (2 * PZ)) (vlu a * vlu d) := by
 obtain ⟨m1, n1⟩ := mul_apx ha hd (by omega)
 obtain ⟨m2, n2⟩ := mul_apx n1 hd (by omega)
 obtain ⟨m3, _⟩ := over_apx n2 c3 (by omega)
 obtain ⟨m4, _⟩ := over_apx n1 c2 (by omega)
 constructor
 ·have h1 := m3.scale (PZ * PZ)
  have h2 := (m2.scale PZ).trans ((m1.scale (vlu d)).mono (Nat.le_refl 1) |> fun h => by
   have e : vlu (fmul a d) * vlu d * PZ = vlu (fmul a d) * PZ * vlu d := Nat.mul_right_comm ..
   rw [e]; exact h)
  rw [Nat.mul_assoc] at h2
  have h3 := h1.trans h2
  rw [Nat.mul_assoc] at h3
  exact h3
 ·have h1 := (m4.scale PZ).trans m1
  rw [Nat.mul_assoc] at h1
  exact h1
end
end Go.Bn
namespace Go.Bn
open Go
theorem nm1 (a b c : Nat) : a * b * c = a * c * b := Nat.mul_right_comm a b c
section
variable {a d : Nat} (ha : Rng a 200) (hd : Rng d 75)
include ha hd
theorem pul_q : let v2 := fmul (fmul a d) d; let v3 := fmul v2 d; let v4 := fmul v3 d
  Apx 6 (vlu (fdiv v4 0x4034000000000000) * (20 * (PZ * PZ * PZ * PZ))) (vlu a * vlu d * vlu d * vlu d * vlu d) ∧ Apx 5 (vlu (fdiv v3 0x4020000000000000) * (8 * (PZ * PZ * PZ))) (vlu a * vlu d * vlu d * vlu d) ∧
  Apx 4 (vlu (fdiv v2 0x4018000000000000) * (6 * (PZ * PZ))) (vlu a * vlu d * vlu d) ∧ Apx 4 (vlu (fdiv v2 0x4008000000000000) * (3 * (PZ * PZ))) (vlu a * vlu d * vlu d) ∧ Apx 3 (vlu (fdiv (fmul a d) 0x4000000000000000) * (2 * PZ)) (vlu a * vlu d) := by
 intro v2 v3 v4
 obtain ⟨m1, n1⟩ := mul_apx ha hd (by omega)
 obtain ⟨m2, n2⟩ := mul_apx n1 hd (by omega)
 obtain ⟨m3, n3⟩ := mul_apx n2 hd (by omega)
 obtain ⟨m4, n4⟩ := mul_apx n3 hd (by omega)
 obtain ⟨q1, _⟩ := over_apx n4 c20 (by omega)
 obtain ⟨q2, _⟩ := over_apx n3 c8 (by omega)
 obtain ⟨q3, _⟩ := over_apx n2 c6 (by omega)
 obtain ⟨q4, _⟩ := over_apx n2 c3 (by omega)
 obtain ⟨q5, _⟩ := over_apx n1 c2 (by omega)
 change Apx 2 (vlu (fdiv v4 0x4034000000000000) * 20) (vlu v4) at q1
 change Apx 2 (vlu (fdiv v3 0x4020000000000000) * 8) (vlu v3) at q2
 change Apx 2 (vlu (fdiv v2 0x4018000000000000) * 6) (vlu v2) at q3
 change Apx 2 (vlu (fdiv v2 0x4008000000000000) * 3) (vlu v2) at q4
 change Apx 1 (vlu v2 * PZ) (vlu (fmul a d) * vlu d) at m2
 change Apx 1 (vlu v3 * PZ) (vlu v2 * vlu d) at m3
 change Apx 1 (vlu v4 * PZ) (vlu v3 * vlu d) at m4
 generalize vlu (fdiv v4 0x4034000000000000) = g at *
 generalize vlu (fdiv v3 0x4020000000000000) = f at *
 generalize vlu (fdiv v2 0x4018000000000000) = c at *
 generalize vlu (fdiv v2 0x4008000000000000) = e at *
 generalize vlu (fdiv (fmul a d) 0x4000000000000000) = b at *
 generalize vlu (fmul a d) = u1 at *
 generalize vlu v2 = u2 at *
 generalize vlu v3 = u3 at *
 generalize vlu v4 = u4 at *
 generalize vlu a = A at *
 generalize vlu d = D at *
 generalize PZ = P at *
 have h2 : Apx 2 (u2 * (P * P)) (A * D * D) := by
  have h := (m2.scale P).trans (by rw [nm1 u1 D P]; exact m1.scale D)
  rw [Nat.mul_assoc] at h
  exact h
 have h3 : Apx 3 (u3 * (P * P * P)) (A * D * D * D) := by
  have h := (m3.scale (P * P)).trans (by rw [nm1 u2 D (P * P)]; exact h2.scale D)
  have e0 : u3 * P * (P * P) = u3 * (P * P * P) := by simp only [Nat.mul_assoc]
  rw [e0] at h
  exact h
 have h4 : Apx 4 (u4 * (P * P * P * P)) (A * D * D * D * D) := by
  have h := (m4.scale (P * P * P)).trans (by rw [nm1 u3 D (P * P * P)]; exact h3.scale D)
  have e0 : u4 * P * (P * P * P) = u4 * (P * P * P * P) := by simp only [Nat.mul_assoc, Nat.mul_comm, Nat.mul_left_comm]
  rw [e0] at h
  exact h
 refine ⟨?_, ?_, ?_, ?_, ?_⟩
 ·rw [← Nat.mul_assoc]; exact (q1.scale _).trans h4
 ·rw [← Nat.mul_assoc]; exact (q2.scale _).trans h3
 ·rw [← Nat.mul_assoc]; exact (q3.scale _).trans h2
 ·rw [← Nat.mul_assoc]; exact (q4.scale _).trans h2
 ·rw [← Nat.mul_assoc]; exact (q5.scale _).trans m1
end
end Go.Bn
namespace Go.Bn
open Go
def TT : Nat := 140737488355328
theorem tt_up : UU ^ 40 * TT ≤ UV ^ 40 * (TT + 1) := by decide
theorem tt_dn : UU ^ 40 * (TT - 1) ≤ UV ^ 40 * TT := by decide
theorem apx_close {K X Y : Nat} (h : Apx K X Y) (hK : K ≤ 40) : X * TT ≤ Y * (TT + 1) ∧ Y * (TT - 1) ≤ X * TT := by
 have g := h.mono hK
 have hv : 0 < UV ^ 40 := Nat.pow_pos uv_pos
 have hu : 0 < UU ^ 40 := Nat.pow_pos uu_pos
 constructor
 ·refine Nat.le_of_mul_le_mul_right ?_ hv
  have h1 := Nat.mul_le_mul_right TT g.l
  have h2 := Nat.mul_le_mul_left Y tt_up
  refine Nat.le_trans (Nat.le_of_eq (nm1 _ _ _)) (Nat.le_trans h1 (Nat.le_trans (Nat.le_of_eq (Nat.mul_assoc _ _ _)) (Nat.le_trans h2 (Nat.le_of_eq ?_))))
  rw [Nat.mul_comm (UV ^ 40), Nat.mul_assoc]
 ·refine Nat.le_of_mul_le_mul_right ?_ hu
  have h1 := Nat.mul_le_mul_right TT g.r
  have h2 := Nat.mul_le_mul_left Y tt_dn
  refine Nat.le_trans (Nat.le_of_eq ?_) (Nat.le_trans h2 (Nat.le_trans (Nat.le_of_eq ?_) (Nat.le_trans h1 (Nat.le_of_eq (nm1 _ _ _)))))
  ·rw [Nat.mul_comm (UU ^ 40), Nat.mul_assoc]
  ·rw [Nat.mul_assoc]
end Go.Bn
namespace Go.Bn
open Go
theorem cmp_scale {a b p : Int} (hp : 1 ≤ p) : compare (a * p) (b * p) = compare a b := by
 rcases Int.lt_trichotomy a b with h | h | h
 ·rw [Int.compare_eq_lt.2 h, Int.compare_eq_lt.2 (Int.mul_lt_mul_of_pos_right h (by omega))]
 ·rw [h, Int.compare_eq_eq.2 rfl, Int.compare_eq_eq.2 rfl]
 ·rw [Int.compare_eq_gt.2 h, Int.compare_eq_gt.2 (Int.mul_lt_mul_of_pos_right h (by omega))]
theorem ford_val {x y : Nat} (hx : rung x < 9218868437227405312) (hy : rung y < 9218868437227405312) : ford x y = some (compare (sval x) (sval y)) := by
 have px := plc_ge x
 have py := plc_ge y
 unfold ford Ieee.Format.order
 rw [read_fin hx, read_fin hy]
 simp only [Ieee.Datum.order]
 obtain ⟨b, hb⟩ : ∃ b, b = min (plc x) (plc y) := ⟨_, rfl⟩
 rw [← hb]
 have key : ∀ z, b ≤ plc z → Ieee.signed (sgn z) (mgn z) (plc z - b).toNat * 2 ^ (b + 1074).toNat = sval z := by
  intro z hz
  unfold Ieee.signed sval vlu
  have e : ((mgn z <<< (plc z - b).toNat : Nat) : Int) * 2 ^ (b + 1074).toNat = ((mgn z * 2 ^ (plc z + 1074).toNat : Nat) : Int) := by
   rw [Nat.shiftLeft_eq, show (plc z + 1074).toNat = (plc z - b).toNat + (b + 1074).toNat by omega, Nat.pow_add]
   simp [Int.mul_assoc]
  split
  ·rw [Int.neg_mul, e]
  ·exact e
 rw [← key x (by omega), ← key y (by omega), cmp_scale (pow_one_le _)]
theorem p100_val : rung P100 < 9218868437227405312 ∧ sval P100 = ((PZ * 2 ^ 100 : Nat) : Int) := by
 constructor
 ·decide
 ·show ((mgn P100 * 2 ^ (plc P100 + 1074).toNat : Nat) : Int) = _
  rw [show mgn P100 = 2 ^ 52 by decide, show (plc P100 + 1074).toNat = NZ + 48 by decide, ← Nat.pow_add, pz_pow, show 52 + (NZ + 48) = NZ + 100 by omega]
def M100 : Nat := 0x39b0000000000000
theorem m100_val : rung M100 < 9218868437227405312 ∧ ∃ v : Nat, sval M100 = (v : Int) ∧ v * 2 ^ 100 = PZ := by
 refine ⟨by decide, mgn M100 * 2 ^ (plc M100 + 1074).toNat, rfl, ?_⟩
 rw [show mgn M100 = 2 ^ 52 by decide, show (plc M100 + 1074).toNat = NZ - 152 by decide, ← Nat.pow_add, ← Nat.pow_add, pz_def, show 52 + (NZ - 152) + 100 = NZ by rw [nz]]
theorem sval_zero : sval 0 = 0 := by decide
theorem noise_rng {x : Nat} (hw : x < 2 ^ 64) (hf : finB x = true) (hl : loudB x = false) (h : fcmp .neq x 0 = false ∨ fcmp .lss x M100 = false) : Nil0 x ∨ Rng x 100 := by
 have hr := (finB_iff hw).1 hf
 obtain ⟨p1, p2⟩ := p100_val
 obtain ⟨m1, v, m2, m3⟩ := m100_val
 have h0 : rung 0 < 9218868437227405312 := by decide
 unfold loudB at hl
 rw [Bool.or_eq_false_iff] at hl
 obtain ⟨l1, l2⟩ := hl
 simp only [fcmp, ford_val hr h0, ford_val hr p1, ford_val hr m1, sval_zero, p2, m2] at l1 l2 h
 by_cases hz : vlu x = 0
 ·left
  have hm : mgn x = 0 := by
   unfold vlu at hz
   rcases Nat.mul_eq_zero.1 hz with g | g
   ·exact g
   ·have := Nat.two_pow_pos (plc x + 1074).toNat; omega
  have hrg : rung x = 0 := by
   unfold mgn at hm
   split at hm
   ·exact hm
   ·omega
  unfold rung at hrg
  unfold Nil0
  have : NEG0 = 9223372036854775808 := rfl
  omega
 ·right
  have hs : sgn x = false := by
   cases hs : sgn x with
   | false => rfl
   | true =>
    exfalso
    unfold sval at l1
    rw [if_pos hs, Int.compare_eq_lt.2 (by omega)] at l1
    exact absurd l1 (by decide)
  have hv : sval x = (vlu x : Int) := by unfold sval; rw [if_neg (by simp [hs])]
  rw [hv] at l1 l2 h
  refine ⟨hr, hs, ?_, ?_⟩
  ·rcases h with h | h
   ·exfalso
    rw [Int.compare_eq_gt.2 (by omega)] at h
    exact absurd h (by decide)
   ·have : v ≤ vlu x := by
     by_cases c : v ≤ vlu x
     ·exact c
     ·rw [Int.compare_eq_lt.2 (by omega)] at h
      exact absurd h (by decide)
    rw [← m3]
    exact Nat.mul_le_mul_right _ this
  ·by_cases c : vlu x ≤ PZ * 2 ^ 100
   ·exact c
   ·rw [Int.compare_eq_gt.2 (by omega)] at l2
    exact absurd l2 (by decide)
end Go.Bn
namespace Go.Bn
open Go
structure Nng (x : Nat) : Prop where
 w : x < 2 ^ 64
 f : rung x < 9218868437227405312
 s : sgn x = false ∨ vlu x = 0
theorem Nng.val {x : Nat} (h : Nng x) : sval x = (vlu x : Int) := by
 unfold sval
 rcases h.s with e | e
 ·rw [if_neg (by simp [e])]
 ·rw [e]; split <;> rfl
theorem Nng.fin {x : Nat} (h : Nng x) : finB x = true := (finB_iff h.w).2 h.f
theorem nng_rng {x k : Nat} (h : Rng x k) (hw : x < 2 ^ 64) : Nng x := ⟨hw, h.f, .inl h.s⟩
theorem vlu_zero : vlu 0 = 0 := by decide
theorem vlu_nil {x : Nat} (h : Nil0 x) : vlu x = 0 := by rcases h with rfl | rfl <;> decide
theorem nng_nil {x : Nat} (h : Nil0 x) : Nng x := ⟨by rcases h with rfl | rfl <;> decide, by rcases h with rfl | rfl <;> decide, .inr (vlu_nil h)⟩
theorem fmul_lt {x y : Nat} : fmul x y < 2 ^ 64 := fop_lt (op := .mul)
theorem fdiv_lt {x y : Nat} : fdiv x y < 2 ^ 64 := fop_lt (op := .quo)
def ent (B : List (List Nat)) (u w : Nat) : Nat := (B.getD u []).getD w 0
theorem ent_all {P : Nat → Prop} {B : List (List Nat)} (h : ∀ r, r ∈ B → ∀ v, v ∈ r → P v) (h0 : P 0) (u w : Nat) : P (ent B u w) := all_getD2 h h0 u w
instance (x : Nat) : Decidable (Nil0 x) := inferInstanceAs (Decidable (x = 0 ∨ x = NEG0))
theorem lt2 {u : Nat} (h : u < 2) : u = 0 ∨ u = 1 := by omega
theorem lt3 {u : Nat} (h : u < 3) : u = 0 ∨ u = 1 ∨ u = 2 := by omega
end Go.Bn
namespace Go.Bn
open Go
theorem c1m : Cst 0x412e848000000000 1000000 20 := cst_of (by decide) (by decide) (by decide) (by decide) (by decide) (by decide)
theorem time_rng {t : Int} (h1 : 1 ≤ t) (h2 : t ≤ 1125899906842624) : Rng (secR t).a 75 ∧ (secR t).a < 2 ^ 64 := by
 have e : (secR t).a = fdiv (FloatKind.f64.nearest t) 0x412e848000000000 := by unfold secR; rw [if_neg (by omega)]
 obtain ⟨n, rfl⟩ : ∃ n : Nat, t = n := ⟨t.toNat, by omega⟩
 have e2 : FloatKind.f64.nearest (n : Int) = Ieee.double.nearest false n 0 := by
  have h : decide ((n : Int) < 0) = false := by simp
  show Ieee.double.nearest (decide ((n : Int) < 0)) (n : Int).natAbs 0 = _
  rw [h]; rfl
 have hP := pz_pos
 obtain ⟨N, hN⟩ : ∃ N, N = 2 * NZ := ⟨_, rfl⟩
 have hN2 : N = 2148 := by rw [hN, nz]
 have eN : 2 ^ ((0 : Int) + (N : Int)).toNat = PZ * PZ := by
  rw [show ((0 : Int) + (N : Int)).toNat = NZ + NZ by omega, Nat.pow_add, ← pz_def]
 have hf : rung (Ieee.double.nearest false n 0) < 9218868437227405312 := by
  refine nearest_fin (N := N) (by omega) ?_
  obtain ⟨e9, he9⟩ : ∃ e : Nat, e = 1023 := ⟨_, rfl⟩
  rw [eN, show N + 1023 = NZ + (NZ + e9) by omega, Nat.pow_add, Nat.pow_add 2 NZ, ← pz_def, Nat.mul_comm n, Nat.mul_assoc]
  refine Nat.mul_lt_mul_of_pos_left (Nat.mul_lt_mul_of_pos_left ?_ hP) hP
  refine Nat.lt_of_lt_of_le (show n < 2 ^ 51 by omega) (Nat.pow_le_pow_right (by omega) (by omega))
 have hb : 4503599627370496 * 2 ^ (N - 1074) ≤ n * 2 ^ ((0 : Int) + (N : Int)).toNat := by
  rw [eN, pz_at hN, ← Nat.mul_assoc]
  refine Nat.mul_le_mul_right _ ?_
  have g1 : 2 ^ 52 ≤ PZ := pz_ge (by rw [nz]; omega)
  rw [pow52] at g1
  exact Nat.le_trans g1 (Nat.le_mul_of_pos_left _ (by omega))
 have ha := nearest_apx (s := false) (n := n) (N := N) (p := 0) (by omega) (by omega) hf hb
 rw [eN, pz_at hN, ← Nat.mul_assoc] at ha
 obtain ⟨a1, a2⟩ := (ha.cancel hP).two
 have hr : Rng (Ieee.double.nearest false n 0) 51 := by
  refine ⟨hf, nearest_pos, ?_, ?_⟩
  ·refine Nat.le_trans (Nat.le_mul_of_pos_left PZ (show 0 < n by omega)) (Nat.le_trans a2 ?_)
   rw [Nat.mul_comm]
   exact Nat.mul_le_mul_left _ (by decide)
  ·refine Nat.le_trans a1 ?_
   rw [← Nat.mul_assoc, Nat.mul_comm]
   exact Nat.mul_le_mul_left _ (by omega)
 have h3 := (div_apx hr c1m.r (by omega)).2
 rw [e, e2]
 refine ⟨⟨h3.f, h3.s, ?_, ?_⟩, fdiv_lt⟩
 ·exact Nat.le_trans h3.lo (Nat.mul_le_mul_left _ (Nat.pow_le_pow_right (by omega) (by omega)))
 ·exact Nat.le_trans h3.hi (Nat.mul_le_mul_left _ (Nat.pow_le_pow_right (by omega) (by omega)))
theorem blk_le {ps : List Prt} {k q : Nat} (hg : PrtTo ps ps.length) (h1 : k < ps.length) (h2 : (q : Int) < (ps.getD k prtD).a) : tot ps k ≤ tot ps k + (q : Int) * ordN (ps.getD k prtD).k ∧ tot ps k + (q : Int) * ordN (ps.getD k prtD).k + ordN (ps.getD k prtD).k ≤ tot ps (k + 1) := by
 have h3 := Int.mul_nonneg (show (0 : Int) ≤ q by omega) (ordN_rng (ps.getD k prtD).k).1
 have h7 : ((q : Int) + 1) * ordN (ps.getD k prtD).k ≤ (ps.getD k prtD).a * ordN (ps.getD k prtD).k := Int.mul_le_mul_of_nonneg_right (by omega) (ordN_rng _).1
 rw [Int.add_mul, Int.one_mul] at h7
 rw [tot]
 omega
theorem blk_one {ps : List Prt} {k k' q q' : Nat} (hg : PrtTo ps ps.length) (h1 : k < ps.length) (g1 : k' < ps.length) (h2 : (q : Int) < (ps.getD k prtD).a) (g2 : (q' : Int) < (ps.getD k' prtD).a) {x : Int} (a1 : tot ps k + (q : Int) * ordN (ps.getD k prtD).k ≤ x) (a2 : x < tot ps k + (q : Int) * ordN (ps.getD k prtD).k + ordN (ps.getD k prtD).k)
  (b1 : tot ps k' + (q' : Int) * ordN (ps.getD k' prtD).k ≤ x) (b2 : x < tot ps k' + (q' : Int) * ordN (ps.getD k' prtD).k + ordN (ps.getD k' prtD).k) : k = k' ∧ q = q' := by
 obtain ⟨c1, c2⟩ := blk_le hg h1 h2
 obtain ⟨d1, d2⟩ := blk_le hg g1 g2
 have hk : k = k' := by
  rcases Nat.lt_trichotomy k k' with h | h | h
  ·have := tot_mono (ps := ps) (k := k + 1) (m := k') (by omega) fun q hq => hg q (by omega)
   omega
  ·exact h
  ·have := tot_mono (ps := ps) (k := k' + 1) (m := k) (by omega) fun q hq => hg q (by omega)
   omega
 subst hk
 refine ⟨rfl, ?_⟩
 have h0 := (ordN_rng (ps.getD k prtD).k).1
 generalize ordN (ps.getD k prtD).k = L at *
 rcases Nat.lt_trichotomy q q' with h | h | h
 ·have : ((q : Int) + 1) * L ≤ (q' : Int) * L := Int.mul_le_mul_of_nonneg_right (by omega) h0
  rw [Int.add_mul, Int.one_mul] at this
  omega
 ·exact h
 ·have : ((q' : Int) + 1) * L ≤ (q : Int) * L := Int.mul_le_mul_of_nonneg_right (by omega) h0
  rw [Int.add_mul, Int.one_mul] at this
  omega
end Go.Bn
namespace Go.Bn
open Go
theorem blkM_fin {g : BF} {ps : List Prt} {t : Int} (h : (blkM g ps t).e = 0) : motE ps = 0 ∧ 0 ≤ t ∧ t ≤ 1125899906842624 ∧ blkM g ps t = ⟨tot ps ps.length, tot ps ps.length, layP g (secR t).a ps (tot ps ps.length) ps.length, 0⟩ := by
 unfold blkM at h ⊢
 by_cases h1 : motE ps = 0
 ·rw [if_neg (by simp [h1])] at h ⊢
  by_cases h2 : t < 0 ∨ 1125899906842624 < t
  ·rw [if_pos h2] at h; exact absurd h (by decide)
  ·rw [if_neg h2] at h ⊢
   exact ⟨h1, by omega, by omega, (toldR_e h).2⟩
 ·rw [if_pos h1] at h
  exact absurd h h1
theorem blkM_nil {g : BF} {ps : List Prt} {t : Int} (h : ¬ (blkM g ps t).e = 0) : (blkM g ps t).a = [] := by
 unfold blkM at h ⊢
 split
 ·rfl
 ·rename_i h1
  rw [if_neg h1] at h
  split
  ·rfl
  ·rename_i h2
   rw [if_neg h2] at h
   unfold toldR at h ⊢
   split
   ·rfl
   ·rename_i h3
    rw [if_neg h3] at h
    exact (h rfl).elim
theorem partE_loud {p : Prt} (h : partE p = 0) : loudB p.n = false := by
 unfold partE at h
 split at h
 ·omega
 ·split at h
  ·omega
  ·split at h
   ·omega
   ·split at h
    ·omega
    ·rename_i h4
     rw [Bool.or_eq_true] at h4
     cases e : loudB p.n
     ·rfl
     ·exact (h4 (.inl e)).elim
end Go.Bn
