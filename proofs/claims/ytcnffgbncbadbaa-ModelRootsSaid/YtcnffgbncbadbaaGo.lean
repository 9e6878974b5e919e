/-
  Plain facts on time that goes on.
-/
import Derived.Test.YtcnffgbncbadbaaRoot
import Derived.Test.YtcnffgbncbadbaaOpz
import Derived.Test.YtcnffgbncbadbaaBlo
set_option linter.unusedVariables false
set_option linter.unusedSimpArgs false
namespace Go.Bn
open Go
/-! ## Where blocks lie -/
section
variable {B : List (List Nat)} {n fr : Int} {xs : List Nat}
theorem layJ_at {i : Nat} (hn : Siz n n) (hl : (xs.length : Int) = n * n) (hf : 0 ≤ fr) (hi : fr + (i : Int) < n) :
    ∀ {j : Nat}, fr + (j : Int) ≤ n → ∀ {x y : Int}, Pl n n x y → mat n (layJ B n fr i xs j) x y = if x = fr + (i : Int) ∧ fr ≤ y ∧ y < fr + (j : Int) then (B.getD i []).getD (y - fr).toNat 0 else mat n xs x y
  | 0, _, x, y, hp => by rw [layJ, if_neg (by omega)]
  | j + 1, hj, x, y, hp => by
    have hp1 : Pl n n (fr + (i : Int)) (fr + (j : Int)) := ⟨by omega, hi, by omega, by omega⟩
    rw [layJ, Int.add_assoc ((fr + (i : Int)) * n), mat_set hn (by rw [layJ_len]; exact hl) hp1 hp, layJ_at hn hl hf hi (by omega) hp]
    by_cases h : x = fr + (i : Int) ∧ y = fr + (j : Int)
    · rw [if_pos h, if_pos ⟨h.1, by omega, by omega⟩, show (y - fr).toNat = j by omega]
    · rw [if_neg h]
      by_cases h2 : x = fr + (i : Int) ∧ fr ≤ y ∧ y < fr + (j : Int)
      · rw [if_pos h2, if_pos ⟨h2.1, h2.2.1, by omega⟩]
      · rw [if_neg h2, if_neg (by omega)]
theorem layI_at (hn : Siz n n) (hl : (xs.length : Int) = n * n) (hf : 0 ≤ fr) (hL : fr + (B.length : Int) ≤ n) (hR : ∀ i, i < B.length → (B.getD i []).length = B.length) :
    ∀ {i : Nat}, i ≤ B.length → ∀ {x y : Int}, Pl n n x y → mat n (layI B n fr xs i) x y = if fr ≤ x ∧ x < fr + (i : Int) ∧ fr ≤ y ∧ y < fr + (B.length : Int) then (B.getD (x - fr).toNat []).getD (y - fr).toNat 0 else mat n xs x y
  | 0, _, x, y, hp => by rw [layI, if_neg (by omega)]
  | i + 1, hi, x, y, hp => by
    rw [layI, layJ_at hn (by rw [layI_len]; exact hl) hf (by omega) (by rw [hR i (by omega)]; omega) hp, layI_at hn hl hf hL hR (by omega) hp, hR i (by omega)]
    by_cases h : x = fr + (i : Int) ∧ fr ≤ y ∧ y < fr + (B.length : Int)
    · rw [if_pos h, if_pos ⟨by omega, by omega, h.2⟩, show (x - fr).toNat = i by omega]
    · rw [if_neg h]
      by_cases h2 : fr ≤ x ∧ x < fr + (i : Int) ∧ fr ≤ y ∧ y < fr + (B.length : Int)
      · rw [if_pos h2, if_pos ⟨h2.1, by omega, h2.2.2⟩]
      · rw [if_neg h2, if_neg (by omega)]
theorem layA_out (hn : Siz n n) (hl : (xs.length : Int) = n * n) (hf : 0 ≤ fr) (hR : ∀ i, i < B.length → (B.getD i []).length = B.length) :
    ∀ {a : Nat}, fr + (a : Int) * (B.length : Int) ≤ n → ∀ {x y : Int}, Pl n n x y → (x < fr ∨ fr + (a : Int) * (B.length : Int) ≤ x) → mat n (layA B n fr xs a) x y = mat n xs x y
  | 0, _, _, _, _, _ => rfl
  | a + 1, ha, x, y, hp, hx => by
    rw [← ax_next] at ha hx
    have h0 : 0 ≤ (a : Int) * (B.length : Int) := Int.mul_nonneg (by omega) (by omega)
    rw [layA, layI_at hn (by rw [layA_len]; exact hl) (by omega) (by omega) hR (Nat.le_refl _) hp, if_neg (by omega)]
    exact layA_out hn hl hf hR (by omega) hp (by omega)
theorem layA_at (hn : Siz n n) (hl : (xs.length : Int) = n * n) (hf : 0 ≤ fr) (hR : ∀ i, i < B.length → (B.getD i []).length = B.length) {q : Nat} :
    ∀ {a : Nat}, q < a → fr + (a : Int) * (B.length : Int) ≤ n → ∀ {x y : Int}, Pl n n x y → fr + (q : Int) * (B.length : Int) ≤ x → x < fr + (q : Int) * (B.length : Int) + (B.length : Int) →
      mat n (layA B n fr xs a) x y = if fr + (q : Int) * (B.length : Int) ≤ y ∧ y < fr + (q : Int) * (B.length : Int) + (B.length : Int) then (B.getD (x - (fr + (q : Int) * (B.length : Int))).toNat []).getD (y - (fr + (q : Int) * (B.length : Int))).toNat 0 else mat n xs x y
  | 0, hq, _, _, _, _, _, _ => by omega
  | a + 1, hq, ha, x, y, hp, h1, h2 => by
    rw [← ax_next] at ha
    have h0 : 0 ≤ (a : Int) * (B.length : Int) := Int.mul_nonneg (by omega) (by omega)
    rw [layA, layI_at hn (by rw [layA_len]; exact hl) (by omega) (by omega) hR (Nat.le_refl _) hp]
    by_cases h : a = q
    · subst h
      by_cases h3 : fr + (a : Int) * (B.length : Int) ≤ y ∧ y < fr + (a : Int) * (B.length : Int) + (B.length : Int)
      · rw [if_pos ⟨h1, h2, h3.1, h3.2⟩, if_pos h3]
      · rw [if_neg (by omega), if_neg h3]
        exact layA_out hn hl hf hR (by omega) hp (.inr h1)
    · have h4 : ((q : Int) + 1) * (B.length : Int) ≤ (a : Int) * (B.length : Int) := Int.mul_le_mul_of_nonneg_right (by omega) (by omega)
      rw [Int.add_mul, Int.one_mul] at h4
      rw [if_neg (by omega)]
      exact layA_at hn hl hf hR (by omega) (by omega) hp h1 h2
end
section
variable {g : BF} {d : Nat} {ps : List Prt} {n : Int}
theorem toNat_a {ps : List Prt} {k : Nat} (hg : PrtTo ps ps.length) (hk : k < ps.length) : (((ps.getD k prtD).a.toNat : Nat) : Int) = (ps.getD k prtD).a := by
  obtain ⟨_, h, _⟩ := partE_good (hg k hk)
  omega
theorem layP_high (hb : BOk g) (hg : PrtTo ps ps.length) (hn : Siz n n) (ht : tot ps ps.length = n) : ∀ {k : Nat}, k ≤ ps.length → ∀ {x y : Int}, Pl n n x y → tot ps k ≤ x → mat n (layP g d ps n k) x y = 0
  | 0, _, _, _, _, _ => mat_replicate
  | k + 1, hk, x, y, hp, hx => by
    have h1 := tot_mono (ps := ps) (k := k + 1) (m := ps.length) hk hg
    have h0 := (tot_rng (ps := ps) (k := k) fun q hq => hg q (by omega)).1
    obtain ⟨h2, h3⟩ := hb (ps.getD k prtD) d (partE_good (hg k (by omega))).1
    have h4 := ax_rng (hg k (by omega))
    have ha := toNat_a hg (show k < ps.length by omega)
    rw [tot] at hx h1
    have h5 : (((ps.getD k prtD).a.toNat : Nat) : Int) * ((g (ps.getD k prtD) d).length : Int) = (ps.getD k prtD).a * ordN (ps.getD k prtD).k := by rw [ha, h2]
    have hl : ((layP g d ps n k).length : Int) = n * n := by rw [layP_len]; have := hn.mul; omega
    rw [layP, layA_out hn hl (by omega) h3 (by rw [h5]; omega) hp (.inr (by rw [h5]; omega))]
    exact layP_high hb hg hn ht (by omega) hp (by omega)
theorem layP_at (hb : BOk g) (hg : PrtTo ps ps.length) (hn : Siz n n) (ht : tot ps ps.length = n) {k q : Nat} (hq : (q : Int) < (ps.getD k prtD).a) :
    ∀ {m : Nat}, k < m → m ≤ ps.length → ∀ {x y : Int}, Pl n n x y → tot ps k + (q : Int) * ordN (ps.getD k prtD).k ≤ x → x < tot ps k + (q : Int) * ordN (ps.getD k prtD).k + ordN (ps.getD k prtD).k →
      mat n (layP g d ps n m) x y = if tot ps k + (q : Int) * ordN (ps.getD k prtD).k ≤ y ∧ y < tot ps k + (q : Int) * ordN (ps.getD k prtD).k + ordN (ps.getD k prtD).k then ((g (ps.getD k prtD) d).getD (x - (tot ps k + (q : Int) * ordN (ps.getD k prtD).k)).toNat []).getD (y - (tot ps k + (q : Int) * ordN (ps.getD k prtD).k)).toNat 0 else 0
  | 0, hk, _, _, _, _, _, _ => by omega
  | m + 1, hk, hm, x, y, hp, hx1, hx2 => by
    have h1 := tot_mono (ps := ps) (k := m + 1) (m := ps.length) hm hg
    have h0 := (tot_rng (ps := ps) (k := m) fun q hq => hg q (by omega)).1
    obtain ⟨h2, h3⟩ := hb (ps.getD m prtD) d (partE_good (hg m (by omega))).1
    have h4 := ax_rng (hg m (by omega))
    have ha := toNat_a hg (show m < ps.length by omega)
    rw [tot] at h1
    have h5 : (((ps.getD m prtD).a.toNat : Nat) : Int) * ((g (ps.getD m prtD) d).length : Int) = (ps.getD m prtD).a * ordN (ps.getD m prtD).k := by rw [ha, h2]
    have hl : ((layP g d ps n m).length : Int) = n * n := by rw [layP_len]; have := hn.mul; omega
    by_cases e : m = k
    · subst e
      rw [layP, layA_at hn hl (by omega) h3 (q := q) (by omega) (by rw [h5]; omega) hp (by rw [h2]; exact hx1) (by rw [h2]; exact hx2), h2]
      rw [layP_high hb hg hn ht (by omega) hp (by have := Int.mul_nonneg (show (0 : Int) ≤ q by omega) (ordN_rng (ps.getD m prtD).k).1; omega)]
    · have h6 := tot_mono (ps := ps) (k := k + 1) (m := m) (by omega) fun q hq => hg q (by omega)
      have h7 : ((q : Int) + 1) * ordN (ps.getD k prtD).k ≤ (ps.getD k prtD).a * ordN (ps.getD k prtD).k := Int.mul_le_mul_of_nonneg_right (by omega) (ordN_rng _).1
      rw [Int.add_mul, Int.one_mul] at h7
      rw [tot] at h6
      rw [layP, layA_out hn hl (by omega) h3 (by rw [h5]; omega) hp (.inl (by omega))]
      exact layP_at hb hg hn ht hq (by omega) (by omega) hp hx1 hx2
/-- Each row lies in a block. -/
theorem blk_of {x : Int} (h0 : 0 ≤ x) : ∀ {m : Nat}, x < tot ps m → PrtTo ps m → ∃ k q : Nat, k < m ∧ (q : Int) < (ps.getD k prtD).a ∧ tot ps k + (q : Int) * ordN (ps.getD k prtD).k ≤ x ∧ x < tot ps k + (q : Int) * ordN (ps.getD k prtD).k + ordN (ps.getD k prtD).k
  | 0, hx, _ => by rw [tot] at hx; omega
  | m + 1, hx, hg => by
    by_cases h : x < tot ps m
    · obtain ⟨k, q, h1, h2⟩ := blk_of h0 h fun q hq => hg q (by omega)
      exact ⟨k, q, by omega, h2⟩
    · rw [tot] at hx
      obtain ⟨h1, h2, h3, _⟩ := partE_good (hg m (by omega))
      have h4 := (ordN_rng (ps.getD m prtD).k).2
      refine ⟨m, ((x - tot ps m) / ordN (ps.getD m prtD).k).toNat, by omega, ?_⟩
      generalize ordN (ps.getD m prtD).k = L at *
      generalize (ps.getD m prtD).a = A at *
      have : L = 1 ∨ L = 2 ∨ L = 3 := by omega
      rcases this with rfl | rfl | rfl <;> omega
end
end Go.Bn
namespace Go.Bn
open Go
/-! ## Halves of whole numbers -/
theorem fadd_pos {x y : Nat} (hx : rung x < 9218868437227405312) (hy : rung y < 9218868437227405312) (sx : sgn x = false) (sy : sgn y = false) : fadd x y = Ieee.double.nearest false (vlu x + vlu y) (-1074) := by
  have px := plc_ge x
  have py := plc_ge y
  obtain ⟨b, hb⟩ : ∃ b, b = min (plc x) (plc y) := ⟨_, rfl⟩
  have e : (Ieee.Datum.number false (mgn x) (plc x)).sum (.number false (mgn y) (plc y)) = some (.number false (mgn x * 2 ^ (plc x - b).toNat + mgn y * 2 ^ (plc y - b).toNat) b) := by
    have e1 : ∀ m u, Ieee.signed false m u = ((m * 2 ^ u : Nat) : Int) := fun m u => by unfold Ieee.signed; rw [if_neg (by decide), Nat.shiftLeft_eq]
    simp only [Ieee.Datum.sum, ← hb, e1]
    generalize mgn x * 2 ^ (plc x - b).toNat = A
    generalize mgn y * 2 ^ (plc y - b).toNat = C
    congr 2
    · split
      · rfl
      · simp; omega
  unfold fadd Ieee.Format.add
  rw [read_fin hx, read_fin hy, sx, sy, e]
  show Ieee.double.nearest _ _ _ = _
  apply nearest_eq
  rw [show min b (-1074 : Int) = -1074 by omega, Nat.add_mul]
  unfold vlu
  rw [Nat.mul_assoc, Nat.mul_assoc, ← Nat.pow_add, ← Nat.pow_add, show (plc x - b).toNat + (b - -1074).toNat = (plc x + 1074).toNat by omega, show (plc y - b).toNat + (b - -1074).toNat = (plc y + 1074).toNat by omega]
  simp
theorem fmul_vlu {x y : Nat} (hx : rung x < 9218868437227405312) (hy : rung y < 9218868437227405312) : fmul x y = Ieee.double.nearest (sgn x ^^ sgn y) (vlu x * vlu y) (-2148) := by
  have px := plc_ge x
  have py := plc_ge y
  rw [fmul_fin hx hy]
  apply nearest_eq
  rw [show min (plc x + plc y) (-2148 : Int) = -2148 by omega]
  unfold vlu
  rw [show (plc x + plc y - -2148).toNat = (plc x + 1074).toNat + (plc y + 1074).toNat by omega, Nat.pow_add]
  simp [Nat.mul_assoc, Nat.mul_left_comm]
def HV (m : Nat) : Nat := Ieee.double.nearest false m (-1)
theorem hv_vlu (m : Nat) : HV m = Ieee.double.nearest false (m * 2 ^ 1073) (-1074) := by
  apply nearest_eq
  rw [show min (-1 : Int) (-1074) = -1074 by omega, show (-1 - -1074 : Int).toNat = 1073 by omega, show (-1074 - -1074 : Int).toNat = 0 by omega, Nat.pow_zero, Nat.mul_one]
theorem hv_parts {m : Nat} (hm : m < 9007199254740992) : HV m < 2 ^ 64 ∧ sgn (HV m) = false ∧ rung (HV m) < 9218868437227405312 ∧ vlu (HV m) = m * 2 ^ 1073 := by
  obtain ⟨h1, h2, h3⟩ := nearest_few (s := false) (j := 1073) hm (HV m) (hv_vlu m).symm
  refine ⟨h1, h2, ?_⟩
  rcases h3 with h3 | h3
  · exfalso
    by_cases h0 : m = 0
    · subst h0
      have : HV 0 = 0 := by decide +kernel
      rw [this] at h3
      exact absurd h3 (by decide)
    · obtain ⟨t, K, h4, h5, h6, h7⟩ := @nearest_few0 false m 1073 hm h0
      rw [← hv_vlu] at h4
      have h8 := (@word_parts false (min (t * 4503599627370496 + K) 9218868437227405312) (Nat.min_le_right ..)).2.1
      rw [← h4, h3] at h8
      have ht : 1075 ≤ t := by omega
      have hK : 4503599627370496 ≤ K := by omega
      obtain ⟨w, hw⟩ : ∃ w, w = 1073 := ⟨_, rfl⟩
      rw [← hw] at h7
      have g1 := Nat.pow_le_pow_right (n := 2) (by omega) (show w + 2 ≤ t by omega)
      rw [Nat.pow_add] at g1
      have g2 := Nat.mul_le_mul hK g1
      have g3 : m * 2 ^ w ≤ 9007199254740991 * 2 ^ w := Nat.mul_le_mul_right _ (by omega)
      have g4 := Nat.two_pow_pos w
      rw [h7] at g2
      generalize 2 ^ w = P at *
      omega
  · exact h3
theorem hv_add {a b : Nat} (h : a + b < 9007199254740992) : fadd (HV a) (HV b) = HV (a + b) := by
  obtain ⟨_, sa, ra, va⟩ := hv_parts (m := a) (by omega)
  obtain ⟨_, sb, rb, vb⟩ := hv_parts (m := b) (by omega)
  rw [fadd_pos ra rb sa sb, va, vb, ← Nat.add_mul, ← hv_vlu]
theorem hv_mul {a b c : Nat} (ha : a < 9007199254740992) (hb : b < 9007199254740992) (h : a * b = 2 * c) : fmul (HV a) (HV b) = HV c := by
  obtain ⟨_, sa, ra, va⟩ := hv_parts ha
  obtain ⟨_, sb, rb, vb⟩ := hv_parts hb
  rw [fmul_vlu ra rb, sa, sb, va, vb]
  show Ieee.double.nearest false _ _ = Ieee.double.nearest false _ _
  apply nearest_eq
  obtain ⟨w, hw⟩ : ∃ w, w = 1073 := ⟨_, rfl⟩
  rw [show min (-2148 : Int) (-1) = -2148 by omega, show (-2148 - -2148 : Int).toNat = 0 by omega, show (-1 - -2148 : Int).toNat = 1 + w + w by omega, ← hw, Nat.pow_add, Nat.pow_add, Nat.pow_zero, Nat.mul_one]
  generalize 2 ^ w = P
  rw [show a * P * (b * P) = a * b * P * P by simp [Nat.mul_assoc, Nat.mul_left_comm], h]
  simp [Nat.mul_assoc, Nat.mul_left_comm]
theorem hv_half {c : Nat} (hc : 2 * c < 9007199254740992) : fdiv (HV (2 * c)) TWO = HV c := by
  obtain ⟨_, sa, ra, va⟩ := hv_parts hc
  have hp := plc_ge (HV (2 * c))
  rw [fdiv_two ra, sa]
  have : Ieee.double.nearest false (mgn (HV (2 * c))) (plc (HV (2 * c)) - 1) = Ieee.double.nearest false (vlu (HV (2 * c))) (-1075) := by
    apply nearest_eq
    rw [show min (plc (HV (2 * c)) - 1) (-1075 : Int) = -1075 by omega]
    unfold vlu
    rw [show (plc (HV (2 * c)) - 1 - -1075).toNat = (plc (HV (2 * c)) + 1074).toNat by omega]
    simp
  rw [this, va, hv_vlu]
  apply nearest_eq
  rw [show min (-1075 : Int) (-1074) = -1075 by omega, show (-1075 - -1075 : Int).toNat = 0 by omega, show (-1074 - -1075 : Int).toNat = 1 by omega]
  generalize 2 ^ 1073 = P
  rw [Nat.pow_zero, Nat.mul_one, Nat.pow_one, Nat.mul_comm 2 c, Nat.mul_assoc, Nat.mul_comm 2 P, ← Nat.mul_assoc]
theorem hv_ones : HV 2 = ONE ∧ HV 0 = 0 := by constructor <;> decide +kernel
theorem hv_fin {m : Nat} (hm : m < 9007199254740992) : finB (HV m) = true := (finB_iff (hv_parts hm).1).2 (hv_parts hm).2.2.1
theorem hv_same {m : Nat} (hm : m < 9007199254740992) : fcmp .neq (HV m) (HV m) = false := by
  rw [fcmp_self]
  exact fin_not_nan (hv_fin hm)
theorem sec_whole : ∀ s : Nat, s < 1024 → (secR ((s : Int) * 1000000)).a = HV (2 * s) := by decide +kernel
end Go.Bn
namespace Go.Bn
open Go
/-! ## No time -/
theorem all_getD2 {P : Nat → Prop} {B : List (List Nat)} (h : ∀ r, r ∈ B → ∀ v, v ∈ r → P v) (h0 : P 0) (u w : Nat) : P ((B.getD u []).getD w 0) := by
  by_cases hu : u < B.length
  · have h1 := h _ (mem_getD [] hu)
    by_cases hw : w < (B.getD u []).length
    · exact h1 _ (mem_getD 0 hw)
    · have : (B.getD u []).getD w 0 = 0 := by rw [List.getD, List.getElem?_eq_none (by omega)]; rfl
      rw [this]; exact h0
  · have : B.getD u [] = [] := by rw [List.getD, List.getElem?_eq_none (by omega)]; rfl
    rw [this]; exact h0
def Nil0 (x : Nat) : Prop := x = 0 ∨ x = NEG0
theorem nil0_fin {x : Nat} (h : Nil0 x) : finB x = true ∧ fcmp .neq x 0 = false := by
  rcases h with rfl | rfl <;> decide +kernel
def nilB (x : Nat) : Bool := decide (x = 0) || decide (x = NEG0)
theorem nil_of {B : List (List Nat)} (h : B.all (fun r => r.all nilB) = true) (u w : Nat) : Nil0 ((B.getD u []).getD w 0) := by
  refine all_getD2 (P := Nil0) (fun r hr v hv => ?_) (.inl rfl) u w
  have := List.all_eq_true.1 (List.all_eq_true.1 h r hr) v hv
  unfold nilB at this
  simpa [Nil0] using this
theorem noise0 {p : Prt} (h : partE p = 0) (hw : p.n < 2 ^ 64) (u w : Nat) : Nil0 (((noiseB p 0).getD u []).getD w 0) := by
  obtain ⟨h1, _, _, h2, _⟩ := partE_good h
  apply nil_of
  unfold noiseB
  have hz := fmul_zero hw h2
  rw [fmul_comm] at hz
  rcases hz with hz | hz <;> rw [hz] <;> rcases ordN_some h1 with e | e | e | e | e <;> rw [e] <;> decide +kernel
theorem root0 {p : Prt} (h : partE p = 0) (hw : p.n < 2 ^ 64) (u w : Nat) : Nil0 (((rootB p 0).getD u []).getD w 0) := by
  obtain ⟨h1, _, _, h2, _⟩ := partE_good h
  apply nil_of
  unfold rootB
  have hz := fmul_zero hw h2
  rw [fmul_comm] at hz
  rcases hz with hz | hz <;> rw [hz] <;> rcases ordN_some h1 with e | e | e | e | e <;> rw [e] <;> decide +kernel
def unitB (s : Nat) : List (List Nat) := (List.range s).map fun u => (List.range s).map fun w => if u = w then ONE else 0
theorem move0 {p : Prt} (h : partE p = 0) (hw : p.f < 2 ^ 64) : moveB p 0 = unitB (ordN p.k).toNat := by
  obtain ⟨h1, _, _, _, h2⟩ := partE_good h
  have hz := fmul_zero hw h2
  rw [fmul_comm] at hz
  unfold moveB
  rcases hz with hz | hz <;> rw [hz] <;> rcases ordN_some h1 with e | e | e | e | e <;> rw [e] <;> decide +kernel
theorem getD_unit {s u w : Nat} (hu : u < s) (hw : w < s) : ((unitB s).getD u []).getD w 0 = if u = w then ONE else 0 := by
  simp [unitB, List.getD, hu, hw]
section
variable {ps : List Prt} {n : Int}
def WordP (ps : List Prt) : Prop := ∀ k, k < ps.length → (ps.getD k prtD).n < 2 ^ 64 ∧ (ps.getD k prtD).f < 2 ^ 64
theorem word_pcn {ls : List Prt} (h : GoodL ls) : WordP (ls.map pcn) := by
  intro k hk
  rw [List.length_map] at hk
  have e : (ls.map pcn).getD k prtD = pcn (ls.getD k prtD) := by simp [List.getD, List.getElem?_map, List.getElem?_eq_getElem hk]
  rw [e]
  have := goodL_at h hk
  exact ⟨cn_lt this.1, cn_lt this.2⟩
/-- What holds of all in a block and of nought holds everywhere. -/
theorem lay_all {g : BF} {d : Nat} {P : Nat → Prop} (hb : BOk g) (hg : PrtTo ps ps.length) (hn : Siz n n) (ht : tot ps ps.length = n) (h0 : P 0) (h : ∀ k, k < ps.length → ∀ u w, P (((g (ps.getD k prtD) d).getD u []).getD w 0)) {x y : Int} (hp : Pl n n x y) : P (mat n (layP g d ps n ps.length) x y) := by
  obtain ⟨k, q, h1, h2, h3, h4⟩ := blk_of hp.1 (show x < tot ps ps.length by rw [ht]; exact hp.2.1) hg
  rw [layP_at hb hg hn ht h2 h1 (Nat.le_refl _) hp h3 h4]
  split
  · exact h k h1 _ _
  · exact h0
theorem lay_good {g : BF} {d : Nat} (hn : Siz n n) : Good n n (layP g d ps n ps.length) := ⟨hn, by rw [layP_len]; have := hn.mul; omega⟩
theorem noise0_all (hw : WordP ps) (hg : PrtTo ps ps.length) (hn : Siz n n) (ht : tot ps ps.length = n) {x y : Int} (hp : Pl n n x y) : Nil0 (mat n (layP noiseB 0 ps n ps.length) x y) :=
  lay_all noiseB_ok hg hn ht (.inl rfl) (fun k hk u w => noise0 (hg k hk) (hw k hk).1 u w) hp
theorem root0_all (hw : WordP ps) (hg : PrtTo ps ps.length) (hn : Siz n n) (ht : tot ps ps.length = n) {x y : Int} (hp : Pl n n x y) : Nil0 (mat n (layP rootB 0 ps n ps.length) x y) :=
  lay_all rootB_ok hg hn ht (.inl rfl) (fun k hk u w => root0 (hg k hk) (hw k hk).1 u w) hp
theorem move0_all (hw : WordP ps) (hg : PrtTo ps ps.length) (hn : Siz n n) (ht : tot ps ps.length = n) {x y : Int} (hp : Pl n n x y) : mat n (layP moveB 0 ps n ps.length) x y = if x = y then ONE else 0 := by
  obtain ⟨k, q, h1, h2, h3, h4⟩ := blk_of hp.1 (show x < tot ps ps.length by rw [ht]; exact hp.2.1) hg
  rw [layP_at moveB_ok hg hn ht h2 h1 (Nat.le_refl _) hp h3 h4]
  split
  · rename_i h5
    rw [move0 (hg k h1) (hw k h1).2, getD_unit (by omega) (by omega)]
    by_cases e : x = y
    · rw [if_pos e, if_pos (by omega)]
    · rw [if_neg e, if_neg (by omega)]
  · rw [if_neg (by omega)]
theorem diag : ∀ n : Nat, n ≤ 12 → ∀ i : Nat, i < n * n → (i % (n + 1) = 0 ↔ i / n = i % n) ∧ i / n < n ∧ i = i / n * n + i % n ∧ i % n < n := by decide +kernel
/-- The places one after the other. -/
theorem place_of (hn : Siz n n) {i : Nat} (hi : (i : Int) < n * n) : ∃ x y : Int, Pl n n x y ∧ (∀ xs, xs.getD i 0 = mat n xs x y) ∧ ((i : Int) % (n + 1) = 0 ↔ x = y) := by
  obtain ⟨m, rfl⟩ : ∃ m : Nat, n = m := ⟨n.toNat, by have := hn.1; omega⟩
  have hm : m ≤ 12 := by have := hn.2.1; omega
  have hi' : i < m * m := by omega
  obtain ⟨h1, h2, h3, h4⟩ := diag m hm i hi'
  have e : (i : Int) % ((m : Int) + 1) = ((i % (m + 1) : Nat) : Int) := by simp
  rw [e]
  generalize i % (m + 1) = c at *
  generalize i / m = a at *
  generalize i % m = b at *
  refine ⟨(a : Int), (b : Int), ⟨by omega, by omega, by omega, by omega⟩, fun xs => ?_, ?_⟩
  · unfold mat
    rw [← Int.natCast_mul, ← Int.natCast_add, Int.toNat_natCast, ← h3]
  · constructor
    · intro h; have := h1.1 (by omega); omega
    · intro h; have := h1.2 (by omega); omega
def oneAt (n : Int) (i : Nat) : Nat := if (i : Int) % (n + 1) = 0 then ONE else 0
theorem goF (hw : WordP ps) (hg : PrtTo ps ps.length) (hn : Siz n n) (ht : tot ps ps.length = n) {i : Nat} (hi : (i : Int) < n * n) : (layP moveB 0 ps n ps.length).getD i 0 = oneAt n i := by
  obtain ⟨x, y, h1, h2, h3⟩ := place_of hn hi
  rw [h2, move0_all hw hg hn ht h1]
  unfold oneAt
  by_cases e : x = y
  · rw [if_pos e, if_pos (h3.2 e)]
  · rw [if_neg e, if_neg (fun h => e (h3.1 h))]
theorem goF_ne (hw : WordP ps) (hg : PrtTo ps ps.length) (hn : Siz n n) (ht : tot ps ps.length = n) {i : Nat} (hi : (i : Int) < n * n) : fcmp .neq ((layP moveB 0 ps n ps.length).getD i 0) (oneAt n i) = false := by
  rw [goF hw hg hn ht hi]
  unfold oneAt
  split <;> decide +kernel
theorem goQ (hw : WordP ps) (hg : PrtTo ps ps.length) (hn : Siz n n) (ht : tot ps ps.length = n) {i : Nat} (hi : (i : Int) < n * n) : fcmp .neq ((layP noiseB 0 ps n ps.length).getD i 0) 0 = false := by
  obtain ⟨x, y, h1, h2, h3⟩ := place_of hn hi
  rw [h2]
  exact (nil0_fin (noise0_all hw hg hn ht h1)).2
theorem goG (hw : WordP ps) (hg : PrtTo ps ps.length) (hn : Siz n n) (ht : tot ps ps.length = n) {i : Nat} (hi : (i : Int) < n * n) : fcmp .neq ((layP rootB 0 ps n ps.length).getD i 0) 0 = false := by
  obtain ⟨x, y, h1, h2, h3⟩ := place_of hn hi
  rw [h2]
  exact (nil0_fin (root0_all hw hg hn ht h1)).2
theorem blk_fin {g : BF} {t : Int} (hm : motE ps = 0) (ht : tot ps ps.length = n) (h2 : ¬ (t < 0 ∨ 1125899906842624 < t)) (h : ∀ x y, Pl n n x y → finB (mat n (layP g (secR t).a ps n ps.length) x y) = true) : blkM g ps t = ⟨n, n, layP g (secR t).a ps n ps.length, 0⟩ := by
  obtain ⟨h0, hg, hl⟩ := mot_good hm
  have h3 := (tot_rng hg).1
  have hn : Siz n n := ⟨by omega, by omega, by omega, by omega⟩
  subst ht
  unfold blkM
  rw [if_neg (by simp [hm]), if_neg h2, toldR_ok ((all_good (lay_good hn)).2 h)]
theorem siz_n (hm : motE ps = 0) (ht : tot ps ps.length = n) : Siz n n ∧ 1 ≤ n ∧ PrtTo ps ps.length := by
  obtain ⟨h0, hg, hl⟩ := mot_good hm
  have h3 := (tot_rng hg).1
  exact ⟨⟨by omega, by omega, by omega, by omega⟩, by omega, hg⟩
theorem sec_zero : (secR 0).a = 0 := by decide +kernel
theorem blkF0 (hm : motE ps = 0) (hw : WordP ps) (ht : tot ps ps.length = n) : blkM moveB ps 0 = ⟨n, n, layP moveB 0 ps n ps.length, 0⟩ := by
  obtain ⟨h1, _, h2⟩ := siz_n hm ht
  have := blk_fin (g := moveB) hm ht (t := 0) (by decide) (fun x y hp => by rw [sec_zero, move0_all hw h2 h1 ht hp]; split <;> decide +kernel)
  rw [sec_zero] at this
  exact this
theorem blkQ0 (hm : motE ps = 0) (hw : WordP ps) (ht : tot ps ps.length = n) : blkM noiseB ps 0 = ⟨n, n, layP noiseB 0 ps n ps.length, 0⟩ := by
  obtain ⟨h1, _, h2⟩ := siz_n hm ht
  have := blk_fin (g := noiseB) hm ht (t := 0) (by decide) (fun x y hp => by rw [sec_zero]; exact (nil0_fin (noise0_all hw h2 h1 ht hp)).1)
  rw [sec_zero] at this
  exact this
theorem blkG0 (hm : motE ps = 0) (hw : WordP ps) (ht : tot ps ps.length = n) : blkM rootB ps 0 = ⟨n, n, layP rootB 0 ps n ps.length, 0⟩ := by
  obtain ⟨h1, _, h2⟩ := siz_n hm ht
  have := blk_fin (g := rootB) hm ht (t := 0) (by decide) (fun x y hp => by rw [sec_zero]; exact (nil0_fin (root0_all hw h2 h1 ht hp)).1)
  rw [sec_zero] at this
  exact this
end
end Go.Bn
namespace Go.Bn
open Go
/-! ## Moved twice -/
def hmv (k : Int) (s : Nat) : List (List Nat) := if k = 2 then [[2, 2 * s], [0, 2]] else if k = 3 then [[2, 2 * s, s * s], [0, 2, 2 * s], [0, 0, 2]] else [[2]]
theorem sq_le {s : Nat} (hs : s < 1024) : s * s ≤ 1046529 := Nat.mul_le_mul (show s ≤ 1023 by omega) (show s ≤ 1023 by omega)
theorem move_hv {p : Prt} {s : Nat} (hs : s < 1024) (h4 : p.k ≠ 4) : moveB p (HV (2 * s)) = (hmv p.k s).map (List.map HV) := by
  obtain ⟨h1, h0⟩ := hv_ones
  have h2 := sq_le hs
  unfold moveB hmv
  split
  · simp [h1, h0]
  · split
    · have e1 : fmul (HV (2 * s)) (HV (2 * s)) = HV (2 * (s * s)) := hv_mul (by omega) (by omega) (by simp [Nat.mul_assoc, Nat.mul_left_comm])
      have e2 : fdiv (HV (2 * (s * s))) 0x4000000000000000 = HV (s * s) := hv_half (by omega)
      rw [e1, e2]
      simp [h1, h0]
    · first | rw [if_neg h4] | skip
      simp [h1]
theorem getD_map2 {B : List (List Nat)} {u w : Nat} : ((B.map (List.map HV)).getD u []).getD w 0 = HV ((B.getD u []).getD w 0) := by
  have h0 := hv_ones.2
  simp only [List.getD, List.getElem?_map]
  cases B[u]? with
  | none => simp [h0]
  | some r =>
    simp only [Option.map_some, Option.getD_some, List.getElem?_map]
    cases r[w]? with
    | none => simp [h0]
    | some v => simp
theorem hmv_le {k : Int} {s : Nat} (hs : s < 1024) (u w : Nat) : ((hmv k s).getD u []).getD w 0 ≤ 1046529 := by
  have h2 := sq_le hs
  refine all_getD2 (P := fun v => v ≤ 1046529) (fun r hr v hv => ?_) (by decide) u w
  unfold hmv at hr
  split at hr
  · simp at hr
    rcases hr with rfl | rfl <;> simp at hv <;> omega
  · split at hr
    · simp at hr
      rcases hr with rfl | rfl | rfl <;> simp at hv <;> omega
    · simp at hr
      subst hr
      simp at hv
      omega
def hsum (a b : Nat → Nat) : Nat → Nat
  | 0 => 0
  | l + 1 => hsum a b l + a l * b l / 2
theorem twice_2 {s t : Nat} : ∀ u, u < 2 → ∀ w, w < 2 → (∀ l, l < 2 → ∃ c, ((hmv 2 s).getD u []).getD l 0 * ((hmv 2 t).getD l []).getD w 0 = 2 * c) ∧
    hsum (fun l => ((hmv 2 s).getD u []).getD l 0) (fun l => ((hmv 2 t).getD l []).getD w 0) 2 = ((hmv 2 (s + t)).getD u []).getD w 0 := by
  intro u hu w hw
  have hu' : u = 0 ∨ u = 1 := by omega
  have hw' : w = 0 ∨ w = 1 := by omega
  constructor
  · intro l hl
    have hl' : l = 0 ∨ l = 1 := by omega
    rcases hu' with rfl | rfl <;> rcases hw' with rfl | rfl <;> rcases hl' with rfl | rfl <;> simp [hmv] <;> first | exact ⟨_, rfl⟩ | exact ⟨2 * s, by omega⟩ | exact ⟨2, rfl⟩ | exact ⟨0, by omega⟩ | skip
  · rcases hu' with rfl | rfl <;> rcases hw' with rfl | rfl <;> simp [hmv, hsum] <;> omega
theorem twice_3 {s t : Nat} : ∀ u, u < 3 → ∀ w, w < 3 → (∀ l, l < 3 → ∃ c, ((hmv 3 s).getD u []).getD l 0 * ((hmv 3 t).getD l []).getD w 0 = 2 * c) ∧
    hsum (fun l => ((hmv 3 s).getD u []).getD l 0) (fun l => ((hmv 3 t).getD l []).getD w 0) 3 = ((hmv 3 (s + t)).getD u []).getD w 0 := by
  intro u hu w hw
  have hu' : u = 0 ∨ u = 1 ∨ u = 2 := by omega
  have hw' : w = 0 ∨ w = 1 ∨ w = 2 := by omega
  have e1 : 2 * s * (2 * t) = 2 * (2 * (s * t)) := by simp [Nat.mul_assoc, Nat.mul_left_comm]
  have e2 : (s + t) * (s + t) = s * s + 2 * (s * t) + t * t := by
    rw [Nat.add_mul, Nat.mul_add, Nat.mul_add, Nat.mul_comm t s]; omega
  constructor
  · intro l hl
    have hl' : l = 0 ∨ l = 1 ∨ l = 2 := by omega
    rcases hu' with rfl | rfl | rfl <;> rcases hw' with rfl | rfl | rfl <;> rcases hl' with rfl | rfl | rfl <;> simp [hmv] <;> first | exact ⟨_, rfl⟩ | exact ⟨_, e1⟩ | exact ⟨2 * s, by omega⟩ | exact ⟨s * s, by omega⟩ | exact ⟨2, rfl⟩ | exact ⟨0, by omega⟩ | skip
  · rcases hu' with rfl | rfl | rfl <;> rcases hw' with rfl | rfl | rfl <;> simp [hmv, hsum, e1, e2] <;> omega
theorem twice_1 {k : Int} {s t : Nat} (h2 : k ≠ 2) (h3 : k ≠ 3) : ∀ u, u < 1 → ∀ w, w < 1 → (∀ l, l < 1 → ∃ c, ((hmv k s).getD u []).getD l 0 * ((hmv k t).getD l []).getD w 0 = 2 * c) ∧
    hsum (fun l => ((hmv k s).getD u []).getD l 0) (fun l => ((hmv k t).getD l []).getD w 0) 1 = ((hmv k (s + t)).getD u []).getD w 0 := by
  intro u hu w hw
  have hu' : u = 0 := by omega
  have hw' : w = 0 := by omega
  subst hu' hw'
  constructor
  · intro l hl
    have hl' : l = 0 := by omega
    subst hl'
    simp [hmv, h2, h3]
    exact ⟨2, rfl⟩
  · simp [hmv, hsum, h2, h3]
theorem twice {k : Int} {s t : Nat} (hk : 1 ≤ ordN k) {L : Nat} (hL : (L : Int) = ordN k) : ∀ u, u < L → ∀ w, w < L → (∀ l, l < L → ∃ c, ((hmv k s).getD u []).getD l 0 * ((hmv k t).getD l []).getD w 0 = 2 * c) ∧
    hsum (fun l => ((hmv k s).getD u []).getD l 0) (fun l => ((hmv k t).getD l []).getD w 0) L = ((hmv k (s + t)).getD u []).getD w 0 := by
  rcases ordN_some hk with rfl | rfl | rfl | rfl | rfl
  · obtain rfl : L = 1 := by have : ordN 0 = 1 := rfl; omega
    exact twice_1 (by decide) (by decide)
  · obtain rfl : L = 1 := by have : ordN 1 = 1 := rfl; omega
    exact twice_1 (by decide) (by decide)
  · obtain rfl : L = 2 := by have : ordN 2 = 2 := rfl; omega
    exact twice_2
  · obtain rfl : L = 3 := by have : ordN 3 = 3 := rfl; omega
    exact twice_3
  · obtain rfl : L = 1 := by have : ordN 4 = 1 := rfl; omega
    exact twice_1 (by decide) (by decide)
/-- A sum in order, of products that are halves of whole numbers, and not nought only from f on, L long. -/
theorem fold_hv {a b : Nat → Nat} {x y : Nat → Nat} {f L n : Nat} (hL : f + L ≤ n) (h3 : L ≤ 3) (ha : ∀ l, a l ≤ 1046529) (hb : ∀ l, b l ≤ 1046529) (hc : ∀ l, l < L → ∃ c, a l * b l = 2 * c)
    (hi : ∀ l, l < L → x (f + l) = HV (a l) ∧ y (f + l) = HV (b l)) (ho : ∀ r, r < n → (r < f ∨ f + L ≤ r) → x r = 0 ∧ ∃ c, c ≤ 1046529 ∧ y r = HV c) (g : Nat → Nat) (g0 : g 0 = 0) (gs : ∀ r, g (r + 1) = fadd (g r) (fmul (x r) (y r))) : g n = HV (hsum a b L) := by
  have hs : ∀ l, l ≤ L → hsum a b l ≤ 547611473921 * l := by
    intro l
    induction l with
    | zero => intro _; simp [hsum]
    | succ l ih =>
      intro hl
      have h1 := ih (by omega)
      have h2 : a l * b l ≤ 1046529 * 1046529 := Nat.mul_le_mul (ha l) (hb l)
      rw [hsum]
      omega
  have key : ∀ r, r ≤ n → g r = HV (hsum a b (min (r - f) L)) := by
    intro r
    induction r with
    | zero => intro _; rw [g0, show min (0 - f) L = 0 by omega]; exact hv_ones.2.symm
    | succ r ih =>
      intro hr
      rw [gs, ih (by omega)]
      by_cases hin : r < f ∨ f + L ≤ r
      · obtain ⟨h1, c, h2, h4⟩ := ho r (by omega) hin
        have e : fmul (x r) (y r) = HV 0 := by
          have q := hv_mul (a := 0) (b := c) (c := 0) (by decide) (by omega) (by simp)
          rw [hv_ones.2] at q
          rw [h1, h4, hv_ones.2]
          exact q
        have h5 := hs (min (r - f) L) (by omega)
        rw [e, hv_add (by omega), show min (r + 1 - f) L = min (r - f) L by omega, Nat.add_zero]
      · obtain ⟨h1, h2⟩ := hi (r - f) (by omega)
        rw [show f + (r - f) = r by omega] at h1 h2
        obtain ⟨c, h4⟩ := hc (r - f) (by omega)
        have h5 := hs (r - f) (by omega)
        have h6 : a (r - f) * b (r - f) ≤ 1046529 * 1046529 := Nat.mul_le_mul (ha _) (hb _)
        have ga := ha (r - f)
        have gb := hb (r - f)
        rw [h1, h2, hv_mul (by omega) (by omega) h4, show min (r - f) L = r - f by omega, hv_add (by omega), show min (r + 1 - f) L = (r - f) + 1 by omega, hsum, h4, show 2 * c / 2 = c by omega]
  rw [key n (Nat.le_refl _), show min (n - f) L = L by omega]
def gsum (n : Int) (xs ys : List Nat) (i j : Int) : Nat → Nat
  | 0 => 0
  | k + 1 => fadd (gsum n xs ys i j k) (fmul (mat n xs i k) (mat n ys k j))
def NoFade (ls : List Prt) (k : Nat) : Prop := ∀ q, q < k → (ls.getD q prtD).k ≠ 4
theorem noFade_zero {ls : List Prt} : NoFade ls 0 := fun q h => by omega
theorem noFade_step {ls : List Prt} {k : Nat} (h : NoFade ls k) (hk : ¬ (ls.getD k prtD).k = 4) : NoFade ls (k + 1) := fun q hq => by
  by_cases e : q = k
  · rw [e]; exact hk
  · exact h q (by omega)
theorem noFade_pcn {ls : List Prt} {k : Nat} (hk : k = ls.length) (h : NoFade ls k) : NoFade (ls.map pcn) (ls.map pcn).length := by
  subst hk
  intro q hq
  rw [List.length_map] at hq
  have e : (ls.map pcn).getD q prtD = pcn (ls.getD q prtD) := by simp [List.getD, List.getElem?_map, List.getElem?_eq_getElem hq]
  rw [e]
  exact h q hq
section
variable {ps : List Prt} {n : Int}
def layF (ps : List Prt) (n : Int) (s : Nat) : List Nat := layP moveB (HV (2 * s)) ps n ps.length
theorem layF_at (hf : NoFade ps ps.length) (hg : PrtTo ps ps.length) (hn : Siz n n) (ht : tot ps ps.length = n) {k q s : Nat} (hs : s < 1024) (hk : k < ps.length) (hq : (q : Int) < (ps.getD k prtD).a) {x y : Int} (hp : Pl n n x y)
    (h1 : tot ps k + (q : Int) * ordN (ps.getD k prtD).k ≤ x) (h2 : x < tot ps k + (q : Int) * ordN (ps.getD k prtD).k + ordN (ps.getD k prtD).k) :
    mat n (layF ps n s) x y = HV (if tot ps k + (q : Int) * ordN (ps.getD k prtD).k ≤ y ∧ y < tot ps k + (q : Int) * ordN (ps.getD k prtD).k + ordN (ps.getD k prtD).k then ((hmv (ps.getD k prtD).k s).getD (x - (tot ps k + (q : Int) * ordN (ps.getD k prtD).k)).toNat []).getD (y - (tot ps k + (q : Int) * ordN (ps.getD k prtD).k)).toNat 0 else 0) := by
  unfold layF
  rw [layP_at moveB_ok hg hn ht hq hk (Nat.le_refl _) hp h1 h2, move_hv hs (hf k hk)]
  split
  · rw [getD_map2]
  · exact hv_ones.2.symm
theorem layF_hv (hf : NoFade ps ps.length) (hg : PrtTo ps ps.length) (hn : Siz n n) (ht : tot ps ps.length = n) {s : Nat} (hs : s < 1024) {x y : Int} (hp : Pl n n x y) : ∃ c, c ≤ 1046529 ∧ mat n (layF ps n s) x y = HV c := by
  obtain ⟨k, q, h1, h2, h3, h4⟩ := blk_of hp.1 (show x < tot ps ps.length by rw [ht]; exact hp.2.1) hg
  refine ⟨_, ?_, layF_at hf hg hn ht hs h1 h2 hp h3 h4⟩
  split
  · exact hmv_le hs _ _
  · omega
theorem goMove (hf : NoFade ps ps.length) (hg : PrtTo ps ps.length) (hn : Siz n n) (ht : tot ps ps.length = n) {s t : Nat} (hst : s + t < 1024) {i j : Int} (hp : Pl n n i j) : gsum n (layF ps n s) (layF ps n t) i j n.toNat = mat n (layF ps n (s + t)) i j := by
  obtain ⟨k, q, h1, h2, h3, h4⟩ := blk_of hp.1 (show i < tot ps ps.length by rw [ht]; exact hp.2.1) hg
  have hin := ax_in hg (by rw [ht]; exact hn.2.1) h1 h2
  have A := fun (y : Int) (hy : Pl n n i y) => layF_at hf hg hn ht (s := s) (by omega) h1 h2 hy h3 h4
  have C := layF_at hf hg hn ht hst h1 h2 hp h3 h4
  have Bf := fun (r : Int) (g1 : tot ps k + (q : Int) * ordN (ps.getD k prtD).k ≤ r) (g2 : r < tot ps k + (q : Int) * ordN (ps.getD k prtD).k + ordN (ps.getD k prtD).k) (hr : Pl n n r j) => layF_at hf hg hn ht (s := t) (by omega) h1 h2 hr g1 g2
  have h5 := (ordN_rng (ps.getD k prtD).k).2
  rw [ht] at hin
  obtain ⟨L, hL⟩ : ∃ L : Nat, (L : Int) = ordN (ps.getD k prtD).k := ⟨(ordN (ps.getD k prtD).k).toNat, by omega⟩
  have hk1 : 1 ≤ ordN (ps.getD k prtD).k := by omega
  have tw := @twice (ps.getD k prtD).k s t hk1 L hL
  rw [← hL] at A C Bf hin h3 h4 h5
  obtain ⟨f, hfr⟩ : ∃ f : Nat, (f : Int) = tot ps k + (q : Int) * (L : Int) := ⟨(tot ps k + (q : Int) * (L : Int)).toNat, by omega⟩
  rw [← hfr] at A C Bf hin h3 h4
  generalize (ps.getD k prtD).k = κ at A C Bf tw
  obtain ⟨p1, p2, p3, p4⟩ := hp
  have hu : (i - (f : Int)).toNat < L := by omega
  rw [C]
  by_cases hj : (f : Int) ≤ j ∧ j < (f : Int) + (L : Int)
  · rw [if_pos hj]
    obtain ⟨t1, t2⟩ := tw _ hu (j - (f : Int)).toNat (by omega)
    rw [← t2]
    refine fold_hv (f := f) (L := L) (x := fun r => mat n (layF ps n s) i r) (y := fun r => mat n (layF ps n t) r j) (by omega) (by omega) (fun l => hmv_le (by omega) _ _) (fun l => hmv_le (by omega) _ _) t1 (fun l hl => ?_) (fun r hr ho => ?_) (gsum n (layF ps n s) (layF ps n t) i j) rfl (fun r => rfl)
    · constructor
      · show mat n _ i ((f + l : Nat) : Int) = _
        rw [A _ ⟨p1, p2, by omega, by omega⟩, if_pos (by omega), show (((f + l : Nat) : Int) - (f : Int)).toNat = l by omega]
      · show mat n _ ((f + l : Nat) : Int) j = _
        rw [Bf _ (by omega) (by omega) ⟨by omega, by omega, p3, p4⟩, if_pos hj, show (((f + l : Nat) : Int) - (f : Int)).toNat = l by omega]
    · constructor
      · show mat n _ i ((r : Nat) : Int) = _
        rw [A _ ⟨p1, p2, by omega, by omega⟩, if_neg (by omega)]
        exact hv_ones.2
      · exact layF_hv hf hg hn ht (by omega) ⟨by omega, by omega, p3, p4⟩
  · rw [if_neg hj]
    have e0 : hsum (fun l => ((hmv κ s).getD (i - (f : Int)).toNat []).getD l 0) (fun _ => 0) L = 0 := by
      have : ∀ m, hsum (fun l => ((hmv κ s).getD (i - (f : Int)).toNat []).getD l 0) (fun _ => 0) m = 0 := by
        intro m
        induction m with
        | zero => rfl
        | succ m ih => rw [hsum, ih, Nat.mul_zero]
      exact this L
    rw [← e0]
    refine fold_hv (f := f) (L := L) (x := fun r => mat n (layF ps n s) i r) (y := fun r => mat n (layF ps n t) r j) (by omega) (by omega) (fun l => hmv_le (by omega) _ _) (fun l => by omega) (fun l _ => ⟨0, by simp⟩) (fun l hl => ?_) (fun r hr ho => ?_) (gsum n (layF ps n s) (layF ps n t) i j) rfl (fun r => rfl)
    · constructor
      · show mat n _ i ((f + l : Nat) : Int) = _
        rw [A _ ⟨p1, p2, by omega, by omega⟩, if_pos (by omega), show (((f + l : Nat) : Int) - (f : Int)).toNat = l by omega]
      · show mat n _ ((f + l : Nat) : Int) j = _
        rw [Bf _ (by omega) (by omega) ⟨by omega, by omega, p3, p4⟩, if_neg hj]
    · constructor
      · show mat n _ i ((r : Nat) : Int) = _
        rw [A _ ⟨p1, p2, by omega, by omega⟩, if_neg (by omega)]
        exact hv_ones.2
      · exact layF_hv hf hg hn ht (by omega) ⟨by omega, by omega, p3, p4⟩
theorem blkFs (hm : motE ps = 0) (hf : NoFade ps ps.length) (ht : tot ps ps.length = n) {s : Nat} (hs : s < 1024) : blkM moveB ps ((s : Int) * 1000000) = ⟨n, n, layF ps n s, 0⟩ := by
  obtain ⟨h1, _, h2⟩ := siz_n hm ht
  have := blk_fin (g := moveB) hm ht (t := (s : Int) * 1000000) (by omega) (fun x y hp => by
    rw [sec_whole s hs]
    obtain ⟨c, h3, h4⟩ := layF_hv hf h2 h1 ht hs hp
    unfold layF at h4
    rw [h4]
    exact hv_fin (by omega))
  rw [sec_whole s hs] at this
  exact this
theorem go_ne (hm : motE ps = 0) (hf : NoFade ps ps.length) (ht : tot ps ps.length = n) {s t : Nat} (hst : s + t < 1024) {i j : Int} (hp : Pl n n i j) {k : Nat} (hk : k = n.toNat) : fcmp .neq (gsum n (layF ps n s) (layF ps n t) i j k) (mat n (layF ps n (s + t)) i j) = false := by
  obtain ⟨h1, _, h2⟩ := siz_n hm ht
  subst hk
  rw [goMove hf h2 h1 ht hst hp]
  obtain ⟨c, h3, h4⟩ := layF_hv hf h2 h1 ht hst hp
  rw [h4]
  exact hv_same (by omega)
end
end Go.Bn
namespace Go.Bn
open Go
theorem oneAt_1 {n : Int} {i : Nat} (hn : 0 ≤ n) (h : ((i : Nat) : Int).tmod (n + 1) = 0) : oneAt n i = 0x3ff0000000000000 := by
  rw [Int.tmod_eq_emod_of_nonneg (by omega)] at h
  exact if_pos h
theorem oneAt_0 {n : Int} {i : Nat} (hn : 0 ≤ n) (h : ¬ ((i : Nat) : Int).tmod (n + 1) = 0) : oneAt n i = 0 := by
  rw [Int.tmod_eq_emod_of_nonneg (by omega)] at h
  exact if_neg h
def goodB (r c : Int) (xs : List Nat) (n : Int) : Bool := (decide (r = n) && decide (c = n)) && decide ((xs.length : Int) = n * n)
theorem goodB_ok {n : Int} {xs : List Nat} (h : (xs.length : Int) = n * n) : goodB n n xs n = true := by simp [goodB, h]
theorem blkFs2 {ps : List Prt} {n : Int} (hm : motE ps = 0) (hf : NoFade ps ps.length) (ht : tot ps ps.length = n) {s t : Nat} (hs : s + t < 1024) : blkM moveB ps (((s : Int) + (t : Int)) * 1000000) = ⟨n, n, layF ps n (s + t), 0⟩ := by
  have := blkFs hm hf ht hs
  rw [Int.natCast_add] at this
  exact this
theorem layF_good {ps : List Prt} {n : Int} {s : Nat} (hn : Siz n n) : Good n n (layF ps n s) := lay_good hn
theorem mod_nat (s : Int) : ∃ m : Nat, (m : Int) = (s.tmod 1024 + 1024).tmod 1024 ∧ m < 1024 := by
  have h1 := tmod_rng s (show (0 : Int) < 1024 by omega)
  have h2 := tmod_rng0 (show 0 ≤ s.tmod 1024 + 1024 by omega) (show (0 : Int) < 1024 by omega)
  exact ⟨((s.tmod 1024 + 1024).tmod 1024).toNat, by omega, by omega⟩
end Go.Bn
