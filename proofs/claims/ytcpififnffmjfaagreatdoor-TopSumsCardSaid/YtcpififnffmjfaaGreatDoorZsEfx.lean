/-
 Sums without loss, over whole numbers: what rounding to 53 digits leaves; two ways to catch what is lost.
-/
import Derived.Test.YtcpififnffmjfaaGreatDoorZsKf
set_option linter.unusedVariables false
set_option linter.unusedSimpArgs false
namespace Go.Bn
def B53 : Int := 9007199254740992
def B52 : Int := 4503599627370496
abbrev q2 (k : Nat) : Int := 2 ^ k
theorem q2_pos (k : Nat) : 0 < q2 k := Int.pow_pos (by decide)
theorem q2_succ (k : Nat) : q2 (k + 1) = 2 * q2 k := by unfold q2; rw [Int.pow_succ, Int.mul_comm]
theorem q2_add (a b : Nat) : q2 (a + b) = q2 a * q2 b := Int.pow_add ..
theorem q2_mono {a b : Nat} (h : a ≤ b) : q2 a ≤ q2 b := by
 obtain ⟨d, rfl⟩ : ∃ d, b = a + d := ⟨b - a, by omega⟩
 rw [q2_add]
 have h1 := q2_pos a
 have h2 := q2_pos d
 have : q2 a * 1 ≤ q2 a * q2 d := Int.mul_le_mul_of_nonneg_left (by omega) (by omega)
 omega
theorem q2_lt {a b : Nat} (h : a < b) : 2 * q2 a ≤ q2 b := by
 have := q2_mono (show a + 1 ≤ b from h)
 rw [q2_succ] at this
 exact this
theorem q2_dvd {a b : Nat} (h : a ≤ b) : q2 a ∣ q2 b := by
 obtain ⟨d, rfl⟩ : ∃ d, b = a + d := ⟨b - a, by omega⟩
 exact ⟨q2 d, q2_add a d⟩
theorem dvd_down {a b : Nat} {v : Int} (h : a ≤ b) (hv : q2 b ∣ v) : q2 a ∣ v := Int.dvd_trans (q2_dvd h) hv
theorem mul_le_of_lt {P v : Int} {n : Int} (hP : 0 < P) (hd : P ∣ v) (h : v < n * P + P) : v ≤ n * P := by
 obtain ⟨c, rfl⟩ := hd
 have e : n * P + P = P * (n + 1) := by rw [Int.mul_add, Int.mul_one, Int.mul_comm n P]
 rw [e] at h
 have h1 : c < n + 1 := Int.lt_of_mul_lt_mul_left h (by omega)
 have : P * c ≤ P * n := Int.mul_le_mul_of_nonneg_left (by omega) (by omega)
 rw [Int.mul_comm n P]
 exact this
theorem abs_le_of_lt {P v : Int} {n : Int} (hP : 0 < P) (hd : P ∣ v) (h : (v.natAbs : Int) < n * P + P) : (v.natAbs : Int) ≤ n * P :=
 mul_le_of_lt hP (Int.dvd_natAbs.2 hd) h
def Rep (v : Int) : Prop := ∃ k : Nat, q2 k ∣ v ∧ (v.natAbs : Int) ≤ B53 * q2 k
theorem rep_neg {v : Int} (h : Rep v) : Rep (-v) := by
 obtain ⟨k, h1, h2⟩ := h
 exact ⟨k, Int.dvd_neg.2 h1, by rw [Int.natAbs_neg]; exact h2⟩
theorem rep_zero : Rep 0 := ⟨0, Int.dvd_zero _, by decide⟩
theorem Rep.canon {v : Int} (h : Rep v) : ∃ k : Nat, q2 k ∣ v ∧ (v.natAbs : Int) < B53 * q2 k ∧ (k = 0 ∨ B52 * q2 k ≤ (v.natAbs : Int)) := by
 obtain ⟨k, h1, h2⟩ := h
 have key : ∀ k : Nat, q2 k ∣ v → (v.natAbs : Int) < B53 * q2 k → ∃ k : Nat, q2 k ∣ v ∧ (v.natAbs : Int) < B53 * q2 k ∧ (k = 0 ∨ B52 * q2 k ≤ (v.natAbs : Int)) := by
  intro k
  induction k with
  | zero => exact fun h1 h2 => ⟨0, h1, h2, .inl rfl⟩
  | succ k ih =>
   intro h1 h2
   by_cases h : B52 * q2 (k + 1) ≤ (v.natAbs : Int)
   ·exact ⟨k + 1, h1, h2, .inr h⟩
   ·refine ih (dvd_down (by omega) h1) ?_
    rw [q2_succ] at h
    unfold B52 at h
    unfold B53
    omega
 by_cases h3 : (v.natAbs : Int) < B53 * q2 k
 ·exact key k h1 h3
 ·have h4 : (v.natAbs : Int) = B53 * q2 k := by omega
  refine ⟨k + 1, ?_, ?_, .inr ?_⟩
  ·have h5 : q2 (k + 1) ∣ (v.natAbs : Int) := by
    rw [h4, q2_succ]
    exact ⟨B52, by unfold B53 B52; omega⟩
   exact Int.dvd_natAbs.1 h5
  ·have := q2_pos k
   rw [h4, q2_succ]; unfold B53; omega
  ·rw [h4, q2_succ]; unfold B53 B52; omega
structure RN (v s : Int) : Prop where
 x : ∃ k : Nat, q2 k ∣ s ∧ 2 * ((s - v).natAbs : Int) ≤ q2 k ∧ (k = 0 → s = v) ∧ (k = 0 ∨ B52 * q2 k ≤ (v.natAbs : Int)) ∧ (v.natAbs : Int) < B53 * q2 k
theorem RN.near {v s w : Int} (h : RN v s) (hw : Rep w) : ((s - v).natAbs : Int) ≤ ((w - v).natAbs : Int) := by
 obtain ⟨k, h1, h2, h3, h4, h5⟩ := h.x
 obtain ⟨j, g1, g2⟩ := hw
 rcases h4 with h4 | h4
 ·rw [h3 h4]; simp
 ·by_cases hjk : k ≤ j
  ·-- both are multiples of 2^k
   have g3 := dvd_down hjk g1
   obtain ⟨c, hc⟩ := h1
   obtain ⟨d, hd⟩ := g3
   by_cases e : c = d
   ·rw [hc, hd, e]; exact Int.le_refl _
   ·have hP := q2_pos k
    have h6 : q2 k ≤ ((s - w).natAbs : Int) := by
     rw [hc, hd, ← Int.mul_sub, Int.natAbs_mul]
     have h7 : 1 ≤ (c - d).natAbs := by omega
     have h8 : ((q2 k).natAbs : Int) = q2 k := by omega
     rw [Int.natCast_mul, h8]
     have := Int.mul_le_mul_of_nonneg_left (show (1 : Int) ≤ ((c - d).natAbs : Int) by omega) (show 0 ≤ q2 k by omega)
     omega
    omega
  ·-- it lies below the last digits' range
   have g3 := q2_lt (show j < k by omega)
   have g4 : (w.natAbs : Int) ≤ B52 * q2 k := by unfold B53 at g2; unfold B52; omega
   -- the range's lower end is a multiple of 2^k
   obtain ⟨c, hc⟩ := h1
   have hP := q2_pos k
   have key : ∀ z : Int, q2 k ∣ z → ((s - v).natAbs : Int) ≤ ((z - v).natAbs : Int) := fun z hz => by
    obtain ⟨d, hd⟩ := hz
    by_cases e : c = d
    ·rw [hc, hd, e]; exact Int.le_refl _
    ·have h6 : q2 k ≤ ((s - z).natAbs : Int) := by
      rw [hc, hd, ← Int.mul_sub, Int.natAbs_mul]
      have h7 : 1 ≤ (c - d).natAbs := by omega
      have h8 : ((q2 k).natAbs : Int) = q2 k := by omega
      rw [Int.natCast_mul, h8]
      have := Int.mul_le_mul_of_nonneg_left (show (1 : Int) ≤ ((c - d).natAbs : Int) by omega) (show 0 ≤ q2 k by omega)
      omega
     omega
   by_cases hv : 0 ≤ v
   ·have := key (B52 * q2 k) ⟨B52, Int.mul_comm ..⟩
    omega
   ·have := key (-(B52 * q2 k)) ⟨-B52, by rw [Int.mul_neg, Int.mul_comm]⟩
    omega
theorem RN.eq {v s : Int} (h : RN v s) (hv : Rep v) : s = v := by
 have := h.near hv
 simp at this
 omega
theorem RN.rep {v s : Int} (h : RN v s) : Rep s := by
 obtain ⟨k, h1, h2, h3, h4, h5⟩ := h.x
 refine ⟨k, h1, abs_le_of_lt (q2_pos k) h1 ?_⟩
 have := q2_pos k
 omega
theorem RN.mult {v s : Int} {g : Nat} (h : RN v s) (hg : q2 g ∣ v) : q2 g ∣ s := by
 obtain ⟨k, h1, h2, h3, h4, h5⟩ := h.x
 by_cases hk : g ≤ k
 ·exact dvd_down hk h1
 ·have : Rep v := ⟨g, hg, by have := q2_mono (show k ≤ g by omega); have : B53 * q2 k ≤ B53 * q2 g := Int.mul_le_mul_of_nonneg_left this (by decide); omega⟩
  rw [h.eq this]; exact hg
theorem RN.ge {v s w : Int} (h : RN v s) (hw : Rep w) (hle : (w.natAbs : Int) ≤ (v.natAbs : Int)) : (w.natAbs : Int) ≤ (s.natAbs : Int) := by
 have h1 := h.near hw
 have h2 := h.near (rep_neg hw)
 omega
theorem RN.le {v s w : Int} (h : RN v s) (hw : Rep w) (hle : (v.natAbs : Int) ≤ (w.natAbs : Int)) : (s.natAbs : Int) ≤ (w.natAbs : Int) := by
 have h1 := h.near hw
 have h2 := h.near (rep_neg hw)
 omega
theorem RN.zero {s : Int} (h : RN 0 s) : s = 0 := h.eq rep_zero
theorem RN.two {v s : Int} (h : RN v s) : (s.natAbs : Int) ≤ 2 * (v.natAbs : Int) := by
 have := h.near rep_zero
 omega
theorem rep_of {P v : Int} {k : Nat} (hP : P = q2 k) (hd : q2 k ∣ v) (h : (v.natAbs : Int) < B53 * P + P) : Rep v := by
 subst hP
 exact ⟨k, hd, abs_le_of_lt (q2_pos k) hd h⟩
theorem dvd_sub' {a b c : Int} (h1 : c ∣ a) (h2 : c ∣ b) : c ∣ a - b := by
 obtain ⟨x, rfl⟩ := h1
 obtain ⟨y, rfl⟩ := h2
 exact ⟨x - y, by rw [Int.mul_sub]⟩
theorem dvd_add' {a b c : Int} (h1 : c ∣ a) (h2 : c ∣ b) : c ∣ a + b := by
 obtain ⟨x, rfl⟩ := h1
 obtain ⟨y, rfl⟩ := h2
 exact ⟨x + y, by rw [Int.mul_add]⟩
theorem rn_err {a b s : Int} (ha : Rep a) (hb : Rep b) (h : RN (a + b) s) : Rep (a + b - s) := by
 obtain ⟨i, a1, a2⟩ := id ha
 obtain ⟨j, b1, b2⟩ := id hb
 have n1 := h.near ha
 have n2 := h.near hb
 by_cases hij : i ≤ j
 ·have hd : q2 i ∣ a + b := dvd_add' a1 (dvd_down hij b1)
  exact ⟨i, dvd_sub' hd (h.mult hd), by omega⟩
 ·have hd : q2 j ∣ a + b := dvd_add' (dvd_down (by omega) a1) b1
  exact ⟨j, dvd_sub' hd (h.mult hd), by omega⟩
theorem rep_close {a b : Int} (ha : Rep a) (hb : Rep b) (h1 : (b.natAbs : Int) ≤ (a.natAbs : Int)) (h2 : (a.natAbs : Int) < 2 * (b.natAbs : Int)) (h3 : ((a + b).natAbs : Int) ≤ (a.natAbs : Int)) (h0 : 0 < (b.natAbs : Int)) : Rep (a + b) := by
 obtain ⟨i, a1, a2, a3⟩ := ha.canon
 obtain ⟨j, b1, b2, b3⟩ := hb.canon
 have e : ((a + b).natAbs : Int) = (a.natAbs : Int) - (b.natAbs : Int) := by omega
 rcases a3 with a3 | a3
 ·subst a3
  refine ⟨0, ⟨a + b, by simp [q2]⟩, ?_⟩
  have : q2 0 = 1 := rfl
  rw [this] at a2 ⊢
  omega
 ·cases i with
  | zero =>
   refine ⟨0, ⟨a + b, by simp [q2]⟩, ?_⟩
   have : q2 0 = 1 := rfl
   rw [this] at a2 ⊢
   omega
  | succ i =>
   have hj : i ≤ j := by
    refine Classical.byContradiction fun hc => ?_
    have := q2_lt (show j < i by omega)
    rw [q2_succ] at a3
    unfold B52 at a3
    unfold B53 at b2
    omega
   refine ⟨i, dvd_add' (dvd_down (by omega) a1) (dvd_down hj b1), ?_⟩
   rw [q2_succ] at a2
   unfold B53 at a2 ⊢
   omega
theorem rn_off {a b s : Int} (ha : Rep a) (hb : Rep b) (hab : (b.natAbs : Int) ≤ (a.natAbs : Int)) (h : RN (a + b) s) : Rep (s - a) := by
 obtain ⟨k, h1, h2, h3, h4, h5⟩ := id h.x
 by_cases hk0 : k = 0
 ·rw [h3 hk0, show a + b - a = b by omega]; exact hb
 have h4 : B52 * q2 k ≤ ((a + b).natAbs : Int) := h4.resolve_left hk0
 obtain ⟨i, a1, a2, a3⟩ := ha.canon
 have hPk := q2_pos k
 have hPi := q2_pos i
 by_cases hki : k ≤ i
 ·have hd : q2 k ∣ s - a := dvd_sub' h1 (dvd_down hki a1)
  by_cases hki2 : k = i
  ·subst hki2
   exact rep_of rfl hd (by omega)
  ·have hlt := q2_lt (show k < i by omega)
   have a3 : B52 * q2 i ≤ (a.natAbs : Int) := a3.resolve_left (by omega)
   by_cases hb2 : 2 * (b.natAbs : Int) ≤ (a.natAbs : Int)
   ·have hik : q2 i = 2 * q2 k := by
     obtain ⟨d, hd⟩ : ∃ d, i = k + 1 + d := ⟨i - (k + 1), by omega⟩
     cases d with
     | zero => rw [hd]; exact q2_succ k
     | succ d =>
      exfalso
      have := q2_mono (show k + 1 + 1 ≤ i by omega)
      rw [q2_succ, q2_succ] at this
      unfold B52 at a3
      unfold B53 at h5
      omega
    refine rep_of rfl hd ?_
    unfold B53 at a2 ⊢
    omega
   ·have hr := rep_close ha hb hab (by omega) (by unfold B53 at h5; unfold B52 at a3; omega) (by omega)
    rw [h.eq hr, show a + b - a = b by omega]; exact hb
 ·have hk1 : q2 k = 2 * q2 i := by
   obtain ⟨d, hd⟩ : ∃ d, k = i + 1 + d := ⟨k - (i + 1), by omega⟩
   cases d with
   | zero => rw [hd]; exact q2_succ i
   | succ d =>
    exfalso
    have := q2_mono (show i + 1 + 1 ≤ k by omega)
    rw [q2_succ, q2_succ] at this
    unfold B52 at h4
    unfold B53 at a2
    omega
  have hd : q2 i ∣ s - a := dvd_sub' (dvd_down (by omega) h1) a1
  have ha9 : (a.natAbs : Int) ≤ (B53 - 1) * q2 i := by
   refine abs_le_of_lt hPi a1 ?_
   rw [show (B53 - 1) * q2 i + q2 i = B53 * q2 i by rw [Int.sub_mul]; omega]
   exact a2
  refine ⟨i, hd, ?_⟩
  rw [Int.sub_mul] at ha9
  omega
theorem quick_law {a b s t e : Int} (ha : Rep a) (hb : Rep b) (hab : (b.natAbs : Int) ≤ (a.natAbs : Int)) (h1 : RN (a + b) s) (h2 : RN (s - a) t) (h3 : RN (b - t) e) : e = a + b - s := by
 have e1 : t = s - a := h2.eq (rn_off ha hb hab h1)
 subst e1
 have e2 : b - (s - a) = a + b - s := by omega
 rw [e2] at h3
 exact h3.eq (rn_err ha hb h1)
theorem two_law {a b s t u v w e : Int} (ha : Rep a) (hb : Rep b) (h1 : RN (a + b) s) (h2 : RN (s - a) t) (h3 : RN (s - t) u) (h4 : RN (a - u) v) (h5 : RN (b - t) w) (h6 : RN (v + w) e) : e = a + b - s := by
 have hE := rn_err ha hb h1
 by_cases hab : (b.natAbs : Int) ≤ (a.natAbs : Int)
 ·have e1 : t = s - a := h2.eq (rn_off ha hb hab h1)
  subst e1
  rw [show s - (s - a) = a by omega] at h3
  have e2 := h3.eq ha
  subst e2
  rw [show u - u = 0 by omega] at h4
  have e3 := h4.zero
  subst e3
  rw [show b - (s - u) = u + b - s by omega] at h5
  have e4 := h5.eq hE
  subst e4
  rw [Int.zero_add] at h6
  exact h6.eq hE
 ·by_cases hx : s = a + b
  ·subst hx
   rw [show a + b - a = b by omega] at h2
   have e1 := h2.eq hb
   subst e1
   rw [show a + t - t = a by omega] at h3
   have e2 := h3.eq ha
   subst e2
   rw [show u - u = 0 by omega] at h4
   rw [show t - t = 0 by omega] at h5
   have e3 := h4.zero
   have e4 := h5.zero
   subst e3 e4
   rw [show (0 : Int) + 0 = 0 by rfl] at h6
   rw [h6.zero]; omega
  ·obtain ⟨k, k1, k2, k3, k4, k5⟩ := id h1.x
   have hk0 : k ≠ 0 := fun e => hx (k3 e)
   have k4 : B52 * q2 k ≤ ((a + b).natAbs : Int) := k4.resolve_left hk0
   -- the sum is not less than the less of the two
   have hsa : (a.natAbs : Int) ≤ (s.natAbs : Int) := by
    by_cases h9 : (a.natAbs : Int) ≤ ((a + b).natAbs : Int)
    ·exact h1.ge ha h9
    ·exfalso
     have h10 := rep_close hb ha (by omega) (by omega) (by omega) (by omega)
     rw [Int.add_comm b a] at h10
     exact hx (h1.eq h10)
   have h2' : RN (s + -a) t := by rw [← Int.sub_eq_add_neg]; exact h2
   have hoff := rn_off h1.rep (rep_neg ha) (by rw [Int.natAbs_neg]; exact hsa) h2'
   have e1 : u = s - t := h3.eq (by have := rep_neg hoff; rw [show -(t - s) = s - t by omega] at this; exact this)
   subst e1
   have hE2 := rn_err h1.rep (rep_neg ha) h2'
   have e2 : v = a - (s - t) := h4.eq (by have := rep_neg hE2; rw [show -(s + -a - t) = a - (s - t) by omega] at this; exact this)
   subst e2
   -- what is taken off the other
   have hbt : Rep (b - t) := by
    obtain ⟨l, l1, l2, l3, l4, l5⟩ := id h2.x
    by_cases hl0 : l = 0
    ·rw [l3 hl0, show b - (s - a) = a + b - s by omega]; exact hE
    have l4 : B52 * q2 l ≤ ((s - a).natAbs : Int) := l4.resolve_left hl0
    obtain ⟨j, b1, b2, b3⟩ := hb.canon
    have hPk := q2_pos k
    have hPl := q2_pos l
    have hPj := q2_pos j
    have hkj : q2 k ≤ 2 * q2 j := by
     rw [← q2_succ]
     refine q2_mono (Classical.byContradiction fun hc => ?_)
     have := q2_mono (show j + 1 + 1 ≤ k by omega)
     rw [q2_succ, q2_succ] at this
     unfold B52 at k4
     unfold B53 at b2
     omega
    have hlj : q2 l ≤ 2 * q2 j := by
     rw [← q2_succ]
     refine q2_mono (Classical.byContradiction fun hc => ?_)
     have := q2_mono (show j + 1 + 1 ≤ l by omega)
     rw [q2_succ, q2_succ] at this
     unfold B52 at l4
     unfold B53 at b2
     omega
    have hbt2 : ((b - t).natAbs : Int) ≤ 2 * q2 j := by omega
    by_cases hjl : j ≤ l
    ·exact ⟨j, dvd_sub' b1 (dvd_down hjl l1), by unfold B53; omega⟩
    ·have hj0 : B52 * q2 j ≤ (b.natAbs : Int) := b3.resolve_left (by omega)
     have hlj2 : q2 j = 2 * q2 l := by
      obtain ⟨d, hd⟩ : ∃ d, j = l + 1 + d := ⟨j - (l + 1), by omega⟩
      cases d with
      | zero => rw [hd]; exact q2_succ l
      | succ d =>
       exfalso
       have := q2_mono (show l + 1 + 1 ≤ j by omega)
       rw [q2_succ, q2_succ] at this
       unfold B52 at hj0
       unfold B53 at l5
       omega
     exact ⟨l, dvd_sub' (dvd_down (by omega) b1) l1, by unfold B53; omega⟩
   have e3 := h5.eq hbt
   subst e3
   rw [show a - (s - t) + (b - t) = a + b - s by omega] at h6
   exact h6.eq hE
end Go.Bn
namespace Go.Bn
open Go
def Fin64 (x : Nat) : Prop := x < 2 ^ 64 ∧ rung x < 9218868437227405312
theorem fin64_iff {x : Nat} (hx : x < 2 ^ 64) : Fin64 x ↔ finB x = true := ⟨fun h => (finB_iff hx).2 h.2, fun h => ⟨hx, (finB_iff hx).1 h⟩⟩
theorem fin_rep {x : Nat} (hx : Fin64 x) : Rep (sval x) := by
 refine ⟨(plc x + 1074).toNat, ?_, ?_⟩
 ·have h : q2 (plc x + 1074).toNat ∣ ((vlu x : Nat) : Int) := ⟨(mgn x : Int), by unfold vlu q2; rw [Int.natCast_mul, Int.mul_comm, Int.natCast_pow]; rfl⟩
  unfold sval
  split
  ·exact Int.dvd_neg.2 h
  ·exact h
 ·rw [sval_abs]
  have h1 := mgn_lt x
  unfold vlu B53
  rw [Int.natCast_mul, show ((2 ^ (plc x + 1074).toNat : Nat) : Int) = q2 (plc x + 1074).toNat from Int.natCast_pow 2 _]
  exact Int.mul_le_mul_of_nonneg_right (by omega) (Int.le_of_lt (q2_pos _))
theorem nearest_rn {s : Bool} {n : Nat} (hf : rung (Ieee.double.nearest s n (-1074)) < 9218868437227405312) : RN (sgz s n) (sval (Ieee.double.nearest s n (-1074))) := by
 by_cases hn : n = 0
 ·subst hn
  rw [nearest_nought]
  have hv : sval (if s = true then NEG0 else 0) = 0 := by cases s <;> decide +kernel
  rw [hv]
  refine ⟨0, Int.dvd_zero _, ?_, ?_, .inl rfl, ?_⟩
  ·cases s <;> decide
  ·intro _; cases s <;> rfl
  ·cases s <;> decide
 ·obtain ⟨last, hlast⟩ : ∃ last, last = max (-1074 + (n.log2 : Int) - 52) (-1074) := ⟨_, rfl⟩
  obtain ⟨t, ht⟩ : ∃ t : Nat, (t : Int) = last + 1074 := ⟨(last + 1074).toNat, by omega⟩
  have hw : Ieee.double.nearest s n (-1074) = Ieee.double.word s (min (t * 4503599627370496 + Ieee.Toward.even.cut s n t) 9218868437227405312) := by
   unfold Ieee.Format.nearest
   simp only [lpE, fbE, binA, infR]
   rw [if_neg hn, show (-1074 : Int) + (n.log2 : Int) - ((52 : Nat) : Int) = -1074 + (n.log2 : Int) - 52 by omega, ← hlast, show (last - -1074).toNat = t by omega, show (-1074 - last).toNat = 0 by omega, Nat.shiftLeft_zero]
  obtain ⟨c1, c2⟩ := @cut_err s n t hn
  have hlo := Nat.log2_self_le hn
  have hhi := Nat.lt_log2_self (n := n)
  generalize hK : Ieee.Toward.even.cut s n t = K at *
  have hup : n < 9007199254740992 * 2 ^ t := by
   rw [← pow53, ← Nat.pow_add]
   refine Nat.lt_of_lt_of_le hhi ?_
   exact Nat.pow_le_pow_right (by omega) (by omega)
  have hdn : t = 0 ∨ 4503599627370496 * 2 ^ t ≤ n := by
   by_cases h0 : t = 0
   ·exact .inl h0
   ·right
    rw [← pow52, ← Nat.pow_add]
    exact Nat.le_trans (Nat.pow_le_pow_right (by omega) (by omega)) hlo
  have hdp := Nat.two_pow_pos t
  have hKm : K ≤ 9007199254740992 := by
   generalize 2 ^ t = D at *
   by_cases hc : K ≤ 9007199254740992
   ·exact hc
   ·have := Nat.mul_le_mul_right D (show 9007199254740992 + 1 ≤ K by omega)
    rw [Nat.add_mul, Nat.one_mul] at this
    omega
  have hKl : t = 0 ∨ 4503599627370496 ≤ K := by
   rcases hdn with h | h
   ·exact .inl h
   ·right
    generalize 2 ^ t = D at *
    by_cases hc : 4503599627370496 ≤ K
    ·exact hc
    ·have := Nat.mul_le_mul_right D (show K + 1 ≤ 4503599627370496 by omega)
     rw [Nat.add_mul, Nat.one_mul] at this
     omega
  have hv := vlu_word hKm hKl _ hw hf
  rw [sval_sgz, nearest_sgn, hv]
  have hD : ((2 ^ t : Nat) : Int) = q2 t := Int.natCast_pow 2 t
  have hab : ∀ a b : Nat, ((sgz s a - sgz s b).natAbs : Int) = ((a : Int) - (b : Int)).natAbs := fun a b => by unfold sgz; split <;> omega
  refine ⟨t, ?_, ?_, fun h0 => ?_, ?_, ?_⟩
  ·have h : q2 t ∣ ((K * 2 ^ t : Nat) : Int) := ⟨(K : Int), by rw [Int.natCast_mul, hD, Int.mul_comm]⟩
   unfold sgz
   split
   ·exact Int.dvd_neg.2 h
   ·exact h
  ·rw [hab, ← hD]; omega
  ·subst h0
   rw [Nat.pow_zero, Nat.mul_one] at c1 c2
   rw [Nat.pow_zero, Nat.mul_one, show K = n by omega]
  ·rw [sgz_abs, ← hD]; unfold B52; generalize 2 ^ t = D at *; omega
  ·rw [sgz_abs, ← hD]; unfold B53; generalize 2 ^ t = D at *; omega
def BIG : Nat := 1020
theorem big_def : BIG = 1020 := rfl
def Sm (v : Int) : Prop := v.natAbs ≤ PZ * 2 ^ BIG
theorem nearest_sm {s : Bool} {n : Nat} (h : n ≤ PZ * 2 ^ BIG) : rung (Ieee.double.nearest s n (-1074)) < 9218868437227405312 := by
 refine nearest_fin (N := 1074) (by decide) ?_
 have h0 : (-1074 + ((1074 : Nat) : Int)).toNat = 0 := by decide
 rw [h0, Nat.pow_zero, Nat.mul_one]
 refine Nat.lt_of_le_of_lt h ?_
 have hB := big_def
 obtain ⟨M, hM⟩ : ∃ M, M = NZ + 1023 := ⟨_, rfl⟩
 rw [show 1074 + 1023 = M by rw [hM, nz], pz_pow]
 exact Nat.pow_lt_pow_right (by omega) (by omega)
theorem sgz_if {x : Int} {b : Bool} : sgz (if x = 0 then b else decide (x < 0)) x.natAbs = x := by
 by_cases hz : x = 0
 ·rw [if_pos hz, hz]
  cases b <;> simp [sgz]
 ·rw [if_neg hz]; exact sgz_dec _
theorem fadd_rn {x y : Nat} (hx : Fin64 x) (hy : Fin64 y) (h : Sm (sval x + sval y)) : Fin64 (fadd x y) ∧ RN (sval x + sval y) (sval (fadd x y)) := by
 have e := fadd_int hx.2 hy.2
 have hf : rung (fadd x y) < 9218868437227405312 := by rw [e]; exact nearest_sm h
 refine ⟨⟨fop_lt (op := .add), hf⟩, ?_⟩
 rw [e] at hf ⊢
 have := nearest_rn hf
 rw [sgz_if] at this
 exact this
theorem fsub_int {x y : Nat} (hx : rung x < 9218868437227405312) (hy : rung y < 9218868437227405312) :
  fsub x y = Ieee.double.nearest (if sval x - sval y = 0 then sgn x && !sgn y else decide (sval x - sval y < 0)) (sval x - sval y).natAbs (-1074) := by
 have px := plc_ge x
 have py := plc_ge y
 obtain ⟨b, hb⟩ : ∃ b, b = min (plc x) (plc y) := ⟨_, rfl⟩
 have ex := sval_signed (x := x) (b := b) (by omega) (by omega)
 have ey := sval_signed (x := y) (b := b) (by omega) (by omega)
 have hp := pow_one_le (b + 1074).toNat
 have en : Ieee.signed (!sgn y) (mgn y) (plc y - b).toNat = -Ieee.signed (sgn y) (mgn y) (plc y - b).toNat := by
  unfold Ieee.signed
  cases sgn y <;> simp
 have e : sval x - sval y = (Ieee.signed (sgn x) (mgn x) (plc x - b).toNat + Ieee.signed (!sgn y) (mgn y) (plc y - b).toNat) * 2 ^ (b + 1074).toNat := by
  rw [ex, ey, en, Int.add_mul, Int.neg_mul]; omega
 unfold fsub Ieee.Format.sub
 rw [read_fin hx, read_fin hy]
 simp only [Ieee.Datum.opposite, Ieee.Datum.sum, ← hb]
 generalize Ieee.signed (sgn x) (mgn x) (plc x - b).toNat + Ieee.signed (!sgn y) (mgn y) (plc y - b).toNat = T at *
 show Ieee.double.nearest _ _ _ = _
 rw [e]
 have hs : (T * 2 ^ (b + 1074).toNat = 0 ↔ T = 0) ∧ (T * 2 ^ (b + 1074).toNat < 0 ↔ T < 0) := by
  generalize (2 : Int) ^ (b + 1074).toNat = W at *
  refine ⟨⟨fun h => ?_, fun h => by rw [h, Int.zero_mul]⟩, ⟨fun h => ?_, fun h => ?_⟩⟩
  ·rcases Int.mul_eq_zero.1 h with h | h
   ·exact h
   ·omega
  ·by_cases hc : T < 0
   ·exact hc
   ·have := Int.mul_nonneg (show 0 ≤ T by omega) (show 0 ≤ W by omega)
    omega
  ·exact Int.mul_neg_of_neg_of_pos h (by omega)
 have es : (if T = 0 then sgn x && !sgn y else decide (T < 0)) = (if T * 2 ^ (b + 1074).toNat = 0 then sgn x && !sgn y else decide (T * 2 ^ (b + 1074).toNat < 0)) := by
  by_cases h0 : T = 0
  ·rw [if_pos h0, if_pos (hs.1.2 h0)]
  ·rw [if_neg h0, if_neg (fun h => h0 (hs.1.1 h))]
   by_cases h1 : T < 0
   ·rw [decide_eq_true h1, decide_eq_true (hs.2.2 h1)]
   ·rw [decide_eq_false h1, decide_eq_false (fun h => h1 (hs.2.1 h))]
 rw [← es]
 apply nearest_eq
 rw [show min b (-1074 : Int) = -1074 by omega, Int.natAbs_mul, Int.natAbs_pow, show (b - -1074).toNat = (b + 1074).toNat by omega]
 simp
theorem fsub_rn {x y : Nat} (hx : Fin64 x) (hy : Fin64 y) (h : Sm (sval x - sval y)) : Fin64 (fsub x y) ∧ RN (sval x - sval y) (sval (fsub x y)) := by
 have e := fsub_int hx.2 hy.2
 have hf : rung (fsub x y) < 9218868437227405312 := by rw [e]; exact nearest_sm h
 refine ⟨⟨fop_lt (op := .sub), hf⟩, ?_⟩
 rw [e] at hf ⊢
 have := nearest_rn hf
 rw [sgz_if] at this
 exact this
def twoS (a b : Nat) : Nat := fadd a b
def twoE (a b : Nat) : Nat := fadd (fsub a (fsub (fadd a b) (fsub (fadd a b) a))) (fsub b (fsub (fadd a b) a))
def quiE (a b : Nat) : Nat := fsub b (fsub (fadd a b) a)
def Sn (k : Nat) (v : Int) : Prop := v.natAbs * 2 ^ k ≤ PZ * 2 ^ BIG
theorem Sn.sm {v : Int} (h : Sn 0 v) : Sm v := by unfold Sn at h; rw [Nat.pow_zero, Nat.mul_one] at h; exact h
theorem Sn.mono {k l : Nat} {v : Int} (h : Sn k v) (hl : l ≤ k) : Sn l v := Nat.le_trans (Nat.mul_le_mul_left _ (Nat.pow_le_pow_right (by omega) hl)) h
theorem Sn.add {k : Nat} {v w : Int} (hv : Sn (k + 1) v) (hw : Sn (k + 1) w) : Sn k (v + w) := by
 unfold Sn at *
 rw [Nat.pow_succ] at hv hw
 have h1 : (v + w).natAbs ≤ v.natAbs + w.natAbs := Int.natAbs_add_le v w
 have h2 := Nat.mul_le_mul_right (2 ^ k) h1
 rw [Nat.add_mul] at h2
 rw [← Nat.mul_assoc] at hv hw
 omega
theorem Sn.neg {k : Nat} {v : Int} (h : Sn k v) : Sn k (-v) := by unfold Sn at *; rw [Int.natAbs_neg]; exact h
theorem Sn.sub {k : Nat} {v w : Int} (hv : Sn (k + 1) v) (hw : Sn (k + 1) w) : Sn k (v - w) := by rw [Int.sub_eq_add_neg]; exact hv.add hw.neg
theorem Sn.rn {k : Nat} {v s : Int} (hv : Sn (k + 1) v) (h : RN v s) : Sn k s := by
 unfold Sn at *
 have h1 := h.two
 have h2 : s.natAbs ≤ 2 * v.natAbs := by omega
 have h3 := Nat.mul_le_mul_right (2 ^ k) h2
 rw [Nat.pow_succ, Nat.mul_comm (2 ^ k) 2, ← Nat.mul_assoc, Nat.mul_comm v.natAbs 2] at hv
 omega
theorem two_fl {a b : Nat} (ha : Fin64 a) (hb : Fin64 b) (sa : Sn 9 (sval a)) (sb : Sn 9 (sval b)) : Fin64 (twoS a b) ∧ Fin64 (twoE a b) ∧ RN (sval a + sval b) (sval (twoS a b)) ∧ sval (twoE a b) = sval a + sval b - sval (twoS a b) := by
 have s1 := sa.add sb
 obtain ⟨f1, r1⟩ := fadd_rn ha hb (s1.mono (by omega)).sm
 have s1' := s1.rn r1
 have s2 := s1'.sub (sa.mono (by omega))
 obtain ⟨f2, r2⟩ := fsub_rn f1 ha (s2.mono (by omega)).sm
 have s2' := s2.rn r2
 have s3 := (s1'.mono (by omega)).sub s2'
 obtain ⟨f3, r3⟩ := fsub_rn f1 f2 (s3.mono (by omega)).sm
 have s3' := s3.rn r3
 have s4 := (sa.mono (by omega)).sub s3'
 obtain ⟨f4, r4⟩ := fsub_rn ha f3 (s4.mono (by omega)).sm
 have s4' := s4.rn r4
 have s5 := (sb.mono (by omega)).sub s2'
 obtain ⟨f5, r5⟩ := fsub_rn hb f2 (s5.mono (by omega)).sm
 have s5' := s5.rn r5
 have s6 := s4'.add (s5'.mono (by omega))
 obtain ⟨f6, r6⟩ := fadd_rn f4 f5 (s6.mono (by omega)).sm
 exact ⟨f1, f6, r1, two_law (fin_rep ha) (fin_rep hb) r1 r2 r3 r4 r5 r6⟩
theorem qui_fl {a b : Nat} (ha : Fin64 a) (hb : Fin64 b) (sa : Sn 9 (sval a)) (sb : Sn 9 (sval b)) (hab : (sval b).natAbs ≤ (sval a).natAbs) : Fin64 (twoS a b) ∧ Fin64 (quiE a b) ∧ RN (sval a + sval b) (sval (twoS a b)) ∧ sval (quiE a b) = sval a + sval b - sval (twoS a b) := by
 have s1 := sa.add sb
 obtain ⟨f1, r1⟩ := fadd_rn ha hb (s1.mono (by omega)).sm
 have s1' := s1.rn r1
 have s2 := s1'.sub (sa.mono (by omega))
 obtain ⟨f2, r2⟩ := fsub_rn f1 ha (s2.mono (by omega)).sm
 have s2' := s2.rn r2
 have s5 := (sb.mono (by omega)).sub s2'
 obtain ⟨f5, r5⟩ := fsub_rn hb f2 (s5.mono (by omega)).sm
 exact ⟨f1, f5, r1, quick_law (fin_rep ha) (fin_rep hb) (by omega) r1 r2 r5⟩
end Go.Bn
namespace Go.Bn
def Below (h v : Int) : Prop := ∃ g : Nat, (h.natAbs : Int) < q2 g ∧ q2 g ∣ v
theorem abs_ge_of_dvd {g : Nat} {v : Int} (hd : q2 g ∣ v) (h0 : v ≠ 0) : q2 g ≤ (v.natAbs : Int) := by
 have h1 : q2 g ∣ (v.natAbs : Int) := Int.dvd_natAbs.2 hd
 exact Int.le_of_dvd (by omega) h1
theorem g_le {g l : Nat} (h : q2 g < q2 l) : g ≤ l := Classical.byContradiction fun hc => by
 have := q2_mono (show l ≤ g by omega)
 omega
def Nov : List Int → Prop
 | [] => True
 | [a] => a ≠ 0
 | a :: b :: l => a ≠ 0 ∧ Below a b ∧ Nov (b :: l)
theorem Nov.ne {a : Int} {l : List Int} (h : Nov (a :: l)) : a ≠ 0 := by
 cases l with
 | nil => exact h
 | cons b l => exact h.1
theorem Nov.tail {a : Int} {l : List Int} (h : Nov (a :: l)) : Nov l := by
 cases l with
 | nil => trivial
 | cons b l => exact h.2.2
theorem Nov.all : ∀ {l : List Int} {a : Int}, Nov (a :: l) → ∃ g : Nat, (a.natAbs : Int) < q2 g ∧ ∀ x, x ∈ l → q2 g ∣ x
 | [], a, h => ⟨a.natAbs, by
   have : (a.natAbs : Int) < 2 ^ a.natAbs := by
    have := @Nat.lt_two_pow_self a.natAbs
    have e : ((2 ^ a.natAbs : Nat) : Int) = 2 ^ a.natAbs := Int.natCast_pow 2 _
    omega
   exact this, fun x hx => by cases hx⟩
 | b :: l, a, h => by
  obtain ⟨g, h1, h2⟩ := h.2.1
  obtain ⟨g', h3, h4⟩ := Nov.all h.2.2
  have h5 := abs_ge_of_dvd h2 h.2.2.ne
  have h6 : g ≤ g' := g_le (by omega)
  refine ⟨g, h1, fun x hx => ?_⟩
  rcases List.mem_cons.1 hx with rfl | hx
  ·exact h2
  ·exact dvd_down h6 (h4 x hx)
def sumI (l : List Int) : Int := l.foldr (· + ·) 0
theorem sumI_nil : sumI [] = 0 := rfl
theorem sumI_cons (a : Int) (l : List Int) : sumI (a :: l) = a + sumI l := rfl
theorem sumI_append (l m : List Int) : sumI (l ++ m) = sumI l + sumI m := by
 induction l with
 | nil => simp [sumI_nil]
 | cons a l ih => rw [List.cons_append, sumI_cons, sumI_cons, ih]; omega
theorem sumI_snoc (l : List Int) (x : Int) : sumI (l ++ [x]) = sumI l + x := by rw [sumI_append]; simp [sumI]
def LastB (l : List Int) (G : Nat) : Prop := ∀ x, l.getLast? = some x → (x.natAbs : Int) < q2 G
theorem nov_snoc {l : List Int} {h : Int} {G : Nat} (hn : Nov l) (hl : LastB l G) (hh : h ≠ 0) (hd : q2 G ∣ h) : Nov (l ++ [h]) := by
 induction l with
 | nil => exact hh
 | cons a l ih =>
  cases l with
  | nil => exact ⟨hn, ⟨G, hl a rfl, hd⟩, hh⟩
  | cons b l => exact ⟨hn.1, hn.2.1, ih hn.2.2 fun x hx => hl x (by rw [List.getLast?_cons_cons]; exact hx)⟩
def lay (L : List Int) (h : Int) : List Int := if h = 0 then L else L ++ [h]
theorem lay_sum (L : List Int) (h : Int) : sumI (lay L h) = sumI L + h := by
 unfold lay
 split
 ·rename_i e; rw [e]; omega
 ·exact sumI_snoc L h
structure LI (L : List Int) (q : Int) (r : List Int) : Prop where
 n : Nov L
 g : ∃ G : Nat, LastB L G ∧ q2 G ∣ q ∧ ∀ x, x ∈ r → q2 G ∣ x
theorem li_zero {q : Int} {r : List Int} : LI [] q r := ⟨trivial, 0, fun x hx => (by cases hx), ⟨q, by simp [q2]⟩, fun x _ => ⟨x, by simp [q2]⟩⟩
theorem li_step {L r : List Int} {q e s : Int} (h : LI L q (e :: r)) (hs : RN (q + e) s) (hg : q + e - s ≠ 0 → ∃ g : Nat, ((q + e - s).natAbs : Int) < q2 g ∧ ∀ x, x ∈ r → q2 g ∣ x) : LI (lay L (q + e - s)) s r := by
 obtain ⟨G, h1, h2, h3⟩ := h.g
 have hd : q2 G ∣ q + e := dvd_add' h2 (h3 e (List.mem_cons_self ..))
 have hd2 := hs.mult hd
 unfold lay
 split
 ·exact ⟨h.n, G, h1, hd2, fun x hx => h3 x (List.mem_cons_of_mem _ hx)⟩
 ·rename_i h0
  obtain ⟨g, g1, g2⟩ := hg h0
  obtain ⟨k, k1, k2, k3, k4, k5⟩ := hs.x
  have hk : ((q + e - s).natAbs : Int) < q2 k := by
   have := q2_pos k
   omega
  refine ⟨nov_snoc h.n h1 h0 (dvd_sub' hd hd2), min k g, fun x hx => ?_, ?_, fun x hx => ?_⟩
  ·rw [List.getLast?_concat] at hx
   cases hx
   by_cases hkg : k ≤ g
   ·rw [Nat.min_eq_left hkg]; exact hk
   ·rw [Nat.min_eq_right (by omega)]; exact g1
  ·exact dvd_down (Nat.min_le_left ..) k1
  ·exact dvd_down (Nat.min_le_right ..) (g2 x hx)
theorem li_end {L : List Int} {q : Int} (h : LI L q []) : Nov (lay L q) := by
 obtain ⟨G, h1, h2, _⟩ := h.g
 unfold lay
 split
 ·exact h.n
 ·rename_i h0; exact nov_snoc h.n h1 h0 h2
def PB (l : List Int) (C : Int) : Prop := ∀ k, ((sumI (l.take k)).natAbs : Int) ≤ C
theorem PB.nn {l : List Int} {C : Int} (h : PB l C) : 0 ≤ C := by have := h 0; omega
theorem pb_nil {C : Int} (h : 0 ≤ C) : PB [] C := fun k => by simp [sumI_nil]; exact h
theorem PB.mono {l : List Int} {C D : Int} (h : PB l C) (hd : C ≤ D) : PB l D := fun k => by have := h k; omega
theorem pb_snoc {l : List Int} {x C : Int} (h : PB l C) (hx : ((sumI l + x).natAbs : Int) ≤ C) : PB (l ++ [x]) C := fun k => by
 by_cases hk : k ≤ l.length
 ·rw [List.take_append_of_le_length hk]; exact h k
 ·rw [List.take_of_length_le (by simp; omega), sumI_snoc]; exact hx
theorem PB.at {l : List Int} {C x : Int} {k : Nat} (h : PB l C) (hx : l[k]? = some x) : (x.natAbs : Int) ≤ 2 * C := by
 have h1 := h k
 have h2 := h (k + 1)
 rw [List.take_add_one, hx] at h2
 simp only [Option.toList_some] at h2
 rw [sumI_snoc] at h2
 omega
theorem PB.lay {l : List Int} {x C : Int} (h : PB l C) (hx : ((sumI l + x).natAbs : Int) ≤ C) : PB (lay l x) C := by
 unfold Go.Bn.lay
 split
 ·exact h
 ·exact pb_snoc h hx
structure GI (e : List Int) (b C : Int) (i : Nat) (L : List Int) (q : Int) : Prop where
 hi : i ≤ e.length
 hl : LI L q (e.drop i)
 hs : sumI L + q = b + sumI (e.take i)
 ht : B52 * ((sumI L).natAbs : Int) ≤ (i : Int) * C
 hp : PB L C
 hn : L.length ≤ i
theorem gi_zero {e : List Int} {b C : Int} (hC : 0 ≤ C) : GI e b C 0 [] b := ⟨Nat.zero_le _, li_zero, by simp [sumI], by simp [sumI], pb_nil hC, Nat.le_refl _⟩
theorem GI.q_le {e L : List Int} {b B C q : Int} {i : Nat} (h : GI e b C i L q) (hB : PB e B) (hC : C = (b.natAbs : Int) + B) (hi : i ≤ 1000) : (q.natAbs : Int) ≤ 2 * C := by
 have h1 := h.hs
 have h2 := h.ht
 have h3 := hB i
 have h4 := hB.nn
 have h5 : (i : Int) * C ≤ 1000 * C := Int.mul_le_mul_of_nonneg_right (by omega) (by omega)
 unfold B52 at h2
 omega
theorem gi_step {e L : List Int} {b B C q s x : Int} {i : Nat} (he : Nov e) (h : GI e b C i L q) (hB : PB e B) (hC : C = (b.natAbs : Int) + B) (hi : i < e.length) (hn : e.length ≤ 1000) (hx : e[i]? = some x) (hq : Rep q) (hs : RN (q + x) s) : GI e b C (i + 1) (lay L (q + x - s)) s := by
 have hd : e.drop i = x :: e.drop (i + 1) := by
  rw [List.drop_eq_getElem_cons hi]
  rw [List.getElem?_eq_getElem hi] at hx
  cases hx; rfl
 have hl := h.hl
 rw [hd] at hl
 have hnov : ∀ k, Nov (e.drop k) := fun k => by
  induction k with
  | zero => exact he
  | succ k ih =>
   rw [show e.drop (k + 1) = (e.drop k).drop 1 by rw [List.drop_drop]]
   cases hh : e.drop k with
   | nil => trivial
   | cons a l => rw [hh] at ih; exact ih.tail
 have hsum : sumI (e.take (i + 1)) = sumI (e.take i) + x := by rw [List.take_add_one, hx]; simp only [Option.toList_some]; exact sumI_snoc _ _
 have h2 := h.ht
 have h3 := hB (i + 1)
 have h4 := hB.nn
 have h1 := h.hs
 have h5 : (i : Int) * C ≤ 1000 * C := Int.mul_le_mul_of_nonneg_right (by omega) (by omega)
 have hv : ((q + x).natAbs : Int) ≤ 2 * C := by
  unfold B52 at h2
  omega
 have hh : B52 * ((q + x - s).natAbs : Int) ≤ C := by
  obtain ⟨k, k1, k2, k3, k4, k5⟩ := hs.x
  by_cases hk : k = 0
  ·rw [k3 hk, show q + x - (q + x) = 0 by omega]; unfold B52; simp; omega
  ·have k4 := k4.resolve_left hk
   unfold B52 at k4 ⊢
   omega
 have ht : B52 * ((sumI (lay L (q + x - s))).natAbs : Int) ≤ ((i + 1 : Nat) : Int) * C := by
  rw [lay_sum]
  have e1 : ((i + 1 : Nat) : Int) * C = (i : Int) * C + C := by rw [Int.natCast_add, Int.add_mul]; simp
  rw [e1]
  unfold B52 at h2 hh ⊢
  omega
 refine ⟨by omega, li_step hl hs fun h0 => ?_, by rw [lay_sum, hsum]; omega, ht, h.hp.lay ?_, ?_⟩
 ·obtain ⟨g, g1, g2⟩ := Nov.all (show Nov (x :: e.drop (i + 1)) by rw [← hd]; exact hnov i)
  refine ⟨g, ?_, g2⟩
  have := hs.near hq
  omega
 ·unfold B52 at h2 hh
  omega
 ·unfold lay
  have := h.hn
  split
  ·omega
  ·simp; omega
theorem gi_done {e L : List Int} {b B C q : Int} (h : GI e b C e.length L q) (hB : PB e B) (hC : C = (b.natAbs : Int) + B) : Nov (lay L q) ∧ sumI (lay L q) = sumI e + b ∧ PB (lay L q) C ∧ (lay L q).length ≤ e.length + 1 := by
 have hl := h.hl
 rw [List.drop_length] at hl
 have hs := h.hs
 rw [List.take_length] at hs
 have h3 := hB e.length
 rw [List.take_length] at h3
 refine ⟨li_end hl, by rw [lay_sum]; omega, h.hp.lay (by omega), ?_⟩
 unfold lay
 have := h.hn
 split
 ·omega
 ·simp; omega
def absI (l : List Int) : Int := sumI (l.map fun x => (x.natAbs : Int))
theorem absI_snoc (l : List Int) (x : Int) : absI (l ++ [x]) = absI l + (x.natAbs : Int) := by unfold absI; rw [List.map_append]; exact sumI_snoc _ _
theorem absI_nn (l : List Int) : 0 ≤ absI l := by
 induction l with
 | nil => exact Int.le_refl _
 | cons a l ih => unfold absI at *; rw [List.map_cons, sumI_cons]; omega
theorem absI_nil : absI [] = 0 := rfl
theorem snoc_ind {P : List Int → Prop} (h0 : P []) (h1 : ∀ l a, P l → P (l ++ [a])) (l : List Int) : P l := by
 have key : ∀ r : List Int, P r.reverse := by
  intro r
  induction r with
  | nil => exact h0
  | cons a r ih => rw [List.reverse_cons]; exact h1 _ _ ih
 have := key l.reverse
 rwa [List.reverse_reverse] at this
theorem nov_below : ∀ {l : List Int} {x : Int}, Nov (l ++ [x]) → x ≠ 0 ∧ ∃ g : Nat, absI l < q2 g ∧ q2 g ∣ x := by
 intro l
 refine snoc_ind (P := fun l => ∀ {x : Int}, Nov (l ++ [x]) → x ≠ 0 ∧ ∃ g : Nat, absI l < q2 g ∧ q2 g ∣ x) (fun {x} h => ⟨h, 0, by decide, ⟨x, by simp [q2]⟩⟩) (fun l a ih => ?_) l
 ·intro x h
  have key : ∀ l : List Int, Nov (l ++ [a, x]) → Nov (l ++ [a]) ∧ a ≠ 0 ∧ Below a x ∧ x ≠ 0 := by
   intro l
   induction l with
   | nil => exact fun h => ⟨h.1, h.1, h.2.1, h.2.2⟩
   | cons b l ih =>
    intro h
    cases l with
    | nil => exact ⟨⟨h.1, h.2.1, (ih h.2.2).1⟩, (ih h.2.2).2⟩
    | cons c l => exact ⟨⟨h.1, h.2.1, (ih h.2.2).1⟩, (ih h.2.2).2⟩
  rw [List.append_assoc] at h
  obtain ⟨k1, k2, ⟨g, k3, k4⟩, k5⟩ := key l h
  obtain ⟨_, g', g1, g2⟩ := ih k1
  refine ⟨k5, g, ?_, k4⟩
  rw [absI_snoc]
  -- a is a multiple of 2^g', less than 2^g: so it is at most 2^g - 2^g'
  have h1 := abs_ge_of_dvd g2 k2
  have hg : g' ≤ g := g_le (by omega)
  obtain ⟨c, hc⟩ := Int.dvd_natAbs.2 g2
  obtain ⟨d, hd⟩ := q2_dvd hg
  have hP := q2_pos g'
  rw [hc, hd] at k3
  have h5 : c < d := Int.lt_of_mul_lt_mul_left k3 (by omega)
  have h6 : q2 g' * (c + 1) ≤ q2 g' * d := Int.mul_le_mul_of_nonneg_left (by omega) (by omega)
  rw [Int.mul_add, Int.mul_one, ← hc, ← hd] at h6
  omega
theorem nov_init {l : List Int} {x : Int} : Nov (l ++ [x]) → Nov l := by
 induction l with
 | nil => exact fun _ => trivial
 | cons b l ih =>
  intro h
  cases l with
  | nil => exact h.1
  | cons c l => exact ⟨h.1, h.2.1, ih h.2.2⟩
def AC : List Int → Int → Prop
 | [], _ => True
 | [a], q => ∃ k : Nat, q2 k ∣ a ∧ B52 * q2 k ≤ (a.natAbs : Int) ∧ (q.natAbs : Int) ≤ q2 k
 | a :: b :: l, q => (∃ k : Nat, q2 k ∣ a ∧ B52 * q2 k ≤ (a.natAbs : Int) ∧ (b.natAbs : Int) ≤ q2 k) ∧ AC (b :: l) q
theorem ac_snoc {A : List Int} {s q' : Int} (h : AC A s) (hs : ∃ k : Nat, q2 k ∣ s ∧ B52 * q2 k ≤ (s.natAbs : Int) ∧ (q'.natAbs : Int) ≤ q2 k) : AC (A ++ [s]) q' := by
 induction A with
 | nil => exact hs
 | cons a A ih =>
  cases A with
  | nil => exact ⟨h, hs⟩
  | cons b A => exact ⟨h.1, ih h.2⟩
def Cap (A : List Int) (m : Int) : Prop := AC A 0 ∧ ∀ a, A.getLast? = some a → ∃ k : Nat, q2 k ∣ a ∧ B52 * q2 k ≤ (a.natAbs : Int) ∧ m ≤ q2 k
theorem ac_last {A : List Int} {q q' : Int} (h : AC A q) (hq : ∀ a, A.getLast? = some a → ∃ k : Nat, q2 k ∣ a ∧ B52 * q2 k ≤ (a.natAbs : Int) ∧ (q'.natAbs : Int) ≤ q2 k) : AC A q' := by
 induction A with
 | nil => trivial
 | cons a A ih =>
  cases A with
  | nil => exact hq a rfl
  | cons b A => exact ⟨h.1, ih h.2 fun x hx => hq x (by rw [List.getLast?_cons_cons]; exact hx)⟩
structure CI (o : List Int) (A : List Int) (q : Int) (rem : List Int) : Prop where
 hq : q ≠ 0
 hn : Nov rem
 hb : ∀ x, rem.getLast? = some x → Below x q
 hc : Cap A ((q.natAbs : Int) + absI rem)
 hs : sumI A + q + sumI rem = sumI o
 ht : (q.natAbs : Int) + absI rem ≤ absI o
 ha : ∀ x, x ∈ A → (x.natAbs : Int) ≤ 2 * absI o
 hl : A.length + rem.length < o.length
theorem ci_zero {l : List Int} {x : Int} (h : Nov (l ++ [x])) : CI (l ++ [x]) [] x l := by
 obtain ⟨h0, g, h1, h2⟩ := nov_below h
 refine ⟨h0, nov_init h, fun y hy => ⟨g, ?_, h2⟩, ⟨trivial, fun a ha => (by cases ha)⟩, (by rw [sumI_snoc, sumI_nil]; omega), (by rw [absI_snoc]; omega), fun x hx => (by cases hx), (by simp)⟩
 obtain ⟨ys, rfl⟩ := List.getLast?_eq_some_iff.1 hy
 rw [absI_snoc] at h1
 have := absI_nn ys
 omega
theorem ci_step {o A r : List Int} {q x s : Int} (h : CI o A q (r ++ [x])) (hq : Rep q) (hx : Rep x) (hs : RN (q + x) s) :
  (x.natAbs : Int) ≤ (q.natAbs : Int) ∧ (q + x - s = 0 → CI o A s r) ∧ (q + x - s ≠ 0 → CI o (A ++ [s]) (q + x - s) r) := by
 obtain ⟨g, g1, g2⟩ := h.hb x (by simp)
 have hq2 := abs_ge_of_dvd g2 h.hq
 obtain ⟨x0, l, l1, l2⟩ := nov_below h.hn
 have hx2 := abs_ge_of_dvd l2 x0
 have hlg : l ≤ g := g_le (by omega)
 have hdv : q2 l ∣ q + x := dvd_add' (dvd_down hlg g2) l2
 have hds := hs.mult hdv
 have hrn := absI_nn r
 have hbel : ∀ z, q2 l ∣ z → ∀ y, r.getLast? = some y → Below y z := fun z hz y hy => by
  refine ⟨l, ?_, hz⟩
  obtain ⟨ys, rfl⟩ := List.getLast?_eq_some_iff.1 hy
  rw [absI_snoc] at l1
  have := absI_nn ys
  omega
 have hc := h.hc
 have ht := h.ht
 have hss := h.hs
 have hll := h.hl
 rw [absI_snoc] at hc ht
 rw [sumI_snoc] at hss
 rw [List.length_append, List.length_singleton] at hll
 refine ⟨by omega, fun h0 => ?_, fun h0 => ?_⟩
 ·have e : s = q + x := by omega
  subst e
  refine ⟨by omega, nov_init h.hn, hbel _ hdv, ⟨hc.1, fun a ha => ?_⟩, by omega, by omega, h.ha, by omega⟩
  obtain ⟨k, k1, k2, k3⟩ := hc.2 a ha
  exact ⟨k, k1, k2, by omega⟩
 ·obtain ⟨k, k1, k2, k3, k4, k5⟩ := id hs.x
  have hk0 : k ≠ 0 := fun e => h0 (by rw [k3 e]; omega)
  have k4 := k4.resolve_left hk0
  have hdh : q2 l ∣ q + x - s := dvd_sub' hdv hds
  have hh := abs_ge_of_dvd hdh h0
  have hsk : B52 * q2 k ≤ (s.natAbs : Int) := by
   have hP := q2_pos k
   have h1 : Rep (B52 * q2 k) := ⟨k, ⟨B52, Int.mul_comm ..⟩, by unfold B52 B53; omega⟩
   have := hs.ge h1 (by unfold B52 at k4 ⊢; omega)
   unfold B52 at this ⊢
   omega
  have hnear := hs.near hq
  refine ⟨h0, nov_init h.hn, hbel _ hdh, ⟨?_, fun a ha => ?_⟩, by rw [sumI_snoc]; omega, by omega, fun y hy => ?_, by simp; omega⟩
  ·refine ac_snoc (ac_last hc.1 fun a ha => ?_) ⟨k, k1, hsk, by have := q2_pos k; simp; omega⟩
   obtain ⟨j, j1, j2, j3⟩ := hc.2 a ha
   refine ⟨j, j1, j2, ?_⟩
   have hP := q2_pos j
   have h1 : Rep (q2 j) := ⟨j, Int.dvd_refl _, by unfold B53; omega⟩
   have := hs.le h1 (by omega)
   omega
  ·rw [List.getLast?_concat] at ha
   cases ha
   exact ⟨k, k1, hsk, by omega⟩
  ·rcases List.mem_append.1 hy with hy | hy
   ·exact h.ha y hy
   ·rw [List.mem_singleton.1 hy]
    have := hs.two
    omega
def UC : Int → List Int → Prop
 | _, [] => True
 | q, [a] => ∃ k : Nat, q2 k ∣ a ∧ B52 * q2 k ≤ (a.natAbs : Int) ∧ (q.natAbs : Int) ≤ 2 * q2 k
 | q, a :: b :: l => (∃ k : Nat, q2 k ∣ a ∧ B52 * q2 k ≤ (a.natAbs : Int) ∧ (q.natAbs : Int) ≤ 2 * q2 k) ∧ (∃ k : Nat, q2 k ∣ b ∧ B52 * q2 k ≤ (b.natAbs : Int) ∧ (a.natAbs : Int) ≤ q2 k) ∧ UC a (b :: l)
theorem uc_head {q a : Int} {l : List Int} (h : UC q (a :: l)) : ∃ k : Nat, q2 k ∣ a ∧ B52 * q2 k ≤ (a.natAbs : Int) ∧ (q.natAbs : Int) ≤ 2 * q2 k := by
 cases l with
 | nil => exact h
 | cons b l => exact h.1
theorem uc_all : ∀ {l : List Int} {q a : Int}, UC q (a :: l) → l ≠ [] → ∃ g : Nat, (a.natAbs : Int) ≤ q2 g ∧ ∀ x, x ∈ l → q2 g ∣ x
 | [], _, _, _, h => (h rfl).elim
 | [b], q, a, h, _ => by
  obtain ⟨k, k1, k2, k3⟩ := h.2.1
  exact ⟨k, k3, fun x hx => by rw [List.mem_singleton.1 hx]; exact k1⟩
 | b :: c :: l, q, a, h, _ => by
  obtain ⟨k, k1, k2, k3⟩ := h.2.1
  obtain ⟨g, g1, g2⟩ := uc_all h.2.2 (by simp)
  refine ⟨k, k3, fun x hx => ?_⟩
  rcases List.mem_cons.1 hx with rfl | hx
  ·exact k1
  ·have hP := q2_pos k
   exact dvd_down (g_le (show q2 k < q2 g by unfold B52 at k2; omega)) (g2 x hx)
theorem ac_rev : ∀ {A : List Int} {q : Int}, AC A q → UC q A.reverse := by
 -- built from the end
 intro A
 have app : ∀ (l : List Int) (q a b : Int), UC q (l ++ [b]) → (∃ k : Nat, q2 k ∣ a ∧ B52 * q2 k ≤ (a.natAbs : Int) ∧ (b.natAbs : Int) ≤ q2 k) → UC q (l ++ [b, a]) := by
  intro l
  induction l with
  | nil => intro q a b h ha; exact ⟨h, ha, by obtain ⟨k, k1, k2, k3⟩ := ha; exact ⟨k, k1, k2, by have := q2_pos k; omega⟩⟩
  | cons c l ih =>
   intro q a b h ha
   cases l with
   | nil => exact ⟨h.1, h.2.1, ih c a b h.2.2 ha⟩
   | cons d l => exact ⟨h.1, h.2.1, ih c a b h.2.2 ha⟩
 induction A with
 | nil => intro q _; trivial
 | cons a A ih =>
  intro q h
  cases A with
  | nil =>
   obtain ⟨k, k1, k2, k3⟩ := h
   exact ⟨k, k1, k2, by have := q2_pos k; omega⟩
  | cons b A =>
   have h1 := ih h.2
   rw [List.reverse_cons] at h1
   rw [List.reverse_cons, List.reverse_cons, List.append_assoc]
   exact app _ _ _ _ h1 h.1
structure DI (o : List Int) (L : List Int) (q : Int) (r : List Int) : Prop where
 hl : LI L q r
 hu : UC q r
 hs : sumI L + q + sumI r = sumI o
 hq : (q.natAbs : Int) ≤ 4 * absI o
 ha : ∀ x, x ∈ r → (x.natAbs : Int) ≤ 2 * absI o
 hn : L.length + r.length < o.length
theorem sumI_rev (l : List Int) : sumI l.reverse = sumI l := by
 induction l with
 | nil => rfl
 | cons a l ih => rw [List.reverse_cons, sumI_snoc, ih, sumI_cons]; omega
theorem di_zero {o A : List Int} {q : Int} (h : CI o A q []) : DI o [] q A.reverse := by
 have hs := h.hs
 have ht := h.ht
 have hl := h.hl
 rw [sumI_nil] at hs
 rw [absI_nil] at ht
 have hc := h.hc
 rw [absI_nil] at hc
 refine ⟨li_zero, ac_rev (ac_last hc.1 fun a ha => ?_), by rw [sumI_nil, sumI_rev]; omega, by omega, fun x hx => h.ha x (List.mem_reverse.1 hx), by simpa using hl⟩
 obtain ⟨k, k1, k2, k3⟩ := hc.2 a ha
 exact ⟨k, k1, k2, by omega⟩
theorem di_step {o L r : List Int} {q a s : Int} (h : DI o L q (a :: r)) (ha : Rep a) (hs : RN (a + q) s) : (q.natAbs : Int) ≤ (a.natAbs : Int) ∧ DI o (lay L (a + q - s)) s r := by
 obtain ⟨k, k1, k2, k3⟩ := uc_head h.hu
 have hP := q2_pos k
 have hqa : (q.natAbs : Int) ≤ (a.natAbs : Int) := by unfold B52 at k2; omega
 refine ⟨hqa, ?_⟩
 have hnear := hs.near ha
 have hss := h.hs
 rw [sumI_cons] at hss
 have haa := h.ha a (List.mem_cons_self ..)
 have htwo := hs.two
 have hs' : RN (q + a) s := by rw [Int.add_comm]; exact hs
 have e0 : a + q - s = q + a - s := by omega
 rw [e0]
 refine ⟨li_step h.hl hs' fun h0 => ?_, ?_, by rw [lay_sum]; omega, ?_, fun x hx => h.ha x (List.mem_cons_of_mem _ hx), ?_⟩
 ·by_cases hr : r = []
  ·subst hr
   obtain ⟨g, g1, _⟩ := Nov.all (l := []) (a := q + a - s) h0
   exact ⟨g, g1, fun x hx => by cases hx⟩
  ·obtain ⟨g, g1, g2⟩ := uc_all h.hu hr
   exact ⟨g, by unfold B52 at k2; omega, g2⟩
 ·cases r with
  | nil => trivial
  | cons b r =>
   obtain ⟨j, j1, j2, j3⟩ := h.hu.2.1
   have hPj := q2_pos j
   have hsj : (s.natAbs : Int) ≤ 2 * q2 j := by
    have h1 : Rep (q2 (j + 1)) := ⟨j + 1, Int.dvd_refl _, by have := q2_pos (j + 1); unfold B53; omega⟩
    have := hs.le h1 (by rw [q2_succ]; unfold B52 at k2; omega)
    rw [q2_succ] at this
    omega
   have hu := h.hu.2.2
   cases r with
   | nil => exact ⟨j, j1, j2, hsj⟩
   | cons c r => exact ⟨⟨j, j1, j2, hsj⟩, hu.2.1, hu.2.2⟩
 ·-- the sum of two, one of them much less
  have h1 := absI_nn o
  by_cases hz : absI o = 0
  ·omega
  ·have : (s.natAbs : Int) ≤ (a.natAbs : Int) + 2 * (q.natAbs : Int) := by omega
   unfold B52 at k2
   omega
 ·have hn := h.hn
  rw [List.length_cons] at hn
  unfold lay
  split
  ·omega
  ·simp; omega
theorem di_done {o L : List Int} {q : Int} (h : DI o L q []) : Nov (lay L q) ∧ sumI (lay L q) = sumI o ∧ (lay L q).length ≤ o.length := by
 have hs := h.hs
 have hn := h.hn
 rw [sumI_nil] at hs
 rw [List.length_nil] at hn
 refine ⟨li_end h.hl, by rw [lay_sum]; omega, ?_⟩
 unfold lay
 split
 ·omega
 ·simp; omega
theorem nov_sign {l : List Int} {x : Int} (h : Nov (l ++ [x])) : (0 < sumI (l ++ [x]) ↔ 0 < x) ∧ (sumI (l ++ [x]) < 0 ↔ x < 0) ∧ x ≠ 0 := by
 obtain ⟨h0, g, h1, h2⟩ := nov_below h
 have h3 := abs_ge_of_dvd h2 h0
 have h4 : ∀ l : List Int, ((sumI l).natAbs : Int) ≤ absI l := by
  intro l
  induction l with
  | nil => exact Int.le_refl _
  | cons a l ih => unfold absI at *; rw [List.map_cons, sumI_cons, sumI_cons]; omega
 have h5 := h4 l
 rw [sumI_snoc]
 omega
end Go.Bn
