/-
 Sums of lists, exact, rounded once.
-/
import Derived.Test.YtcpififnffmjfaaGreatDoorZsDyc
import Derived.Test.YtcpififnffmjfaaGreatDoorZsEtx
set_option linter.unusedVariables false
set_option linter.unusedSimpArgs false
namespace Go.Bn
open Go
def nouB (x : Nat) : Bool := fcmp .neq x 0 || !sgn x
def nouL (l : List Nat) : Bool := l.all (fun x => !nouB x) && cmpB .gtr (l.length : Int) 0
def NouI (l : List Nat) (k : Nat) : Prop := k ≤ l.length ∧ ∀ j, j < k → nouB (l.getD j 0) = false
theorem nou_zero {l : List Nat} : NouI l 0 := ⟨Nat.zero_le _, fun j h => by omega⟩
theorem nou_step {l : List Nat} {k : Nat} (h : NouI l k) (hk : k < l.length) (hn : nouB (l.getD k 0) = false) : NouI l (k + 1) := ⟨hk, fun j hj => by
 by_cases e : j = k
 ·rw [e]; exact hn
 ·exact h.2 j (by omega)⟩
theorem nou_no {l : List Nat} {k : Nat} (hk : k < l.length) (hn : nouB (l.getD k 0) = true) : nouL l = false := by
 unfold nouL
 have : l.all (fun x => !nouB x) = false := by
  rw [List.all_eq_false]
  refine ⟨l.getD k 0, mem_getD 0 hk, ?_⟩
  rw [hn]; decide
 rw [this]; rfl
theorem nou_yes {l : List Nat} {k : Nat} (h : NouI l k) (hk : k = l.length) : nouL l = cmpB .gtr (l.length : Int) 0 := by
 unfold nouL
 have : l.all (fun x => !nouB x) = true := by
  rw [List.all_eq_true]
  intro x hx
  obtain ⟨j, hj, he⟩ := List.getElem_of_mem hx
  have := h.2 j (by omega)
  rw [List.getD_eq_getElem?_getD, List.getElem?_eq_getElem hj] at this
  simp only [Option.getD_some] at this
  rw [he] at this
  rw [this]; rfl
 rw [this, Bool.true_and]
theorem spec_no {x : Nat} (hx : x < 2 ^ 64) (hf : finB x = true) : (fcmp .neq x x || fcmp .gtr (fabs x) MAXF) = false := by
 rw [fcmp_self, fin_not_nan hf, fin_gtr hx ((finB_iff hx).1 hf)]
 rfl
def exaD (l : List Nat) : Nat := if nouL l = true then NEG0 else rndD (decide ((dyHalf (dySum l l.length)).m < 0)) (dyHalf (dySum l l.length)).m.natAbs (dyE (dySum l l.length))
theorem exa_1 {l : List Nat} (h : nouL l = true) : exaD l = NEG0 := if_pos h
theorem exa_2 {l : List Nat} (h : nouL l = false) : exaD l = rndD (decide ((dyHalf (dySum l l.length)).m < 0)) (dyHalf (dySum l l.length)).m.natAbs (dyE (dySum l l.length)) := if_neg (by rw [h]; decide)
theorem put_dyE {x : Exa} (h : PutH x) : -100000 ≤ dyE x ∧ dyE x ≤ 100000 := by
 have h1 := h.h0
 have h2 := h.h1
 unfold dyE
 split <;> omega
end Go.Bn
namespace Go.Bn
open Go
def xvJ (x : Exa) : Int := x.m * 2 ^ (x.e + 1074).toNat
structure DyW (x : Exa) : Prop where
 e0 : -1074 ≤ x.e
 e1 : x.e ≤ 1100
theorem xvJ_of (x : Nat) : xvJ (ofX x) = sval x := xv_of x
theorem ofX_w {x : Nat} (hx : x < 2 ^ 64) (hf : finB x = true) : DyW (ofX x) := by
 have h := md_one hf hx
 have e : (ofX x).e = oddE (mgn x) (plc x) := by unfold ofX; split <;> rfl
 have h1 := h.e0
 have h2 := h.e2 (by decide)
 have ho : oddM 1 = 1 := by decide +kernel
 have ht : tz 1 = 0 := by decide +kernel
 rw [oddE_ge (by decide), ht] at h2
 exact ⟨by rw [e]; exact h1, by rw [e]; omega⟩
theorem xvJ_low {x : Exa} {e : Int} (h0 : -1074 ≤ e) (h1 : e ≤ x.e) : x.m * 2 ^ (x.e - e).toNat * 2 ^ (e + 1074).toNat = xvJ x := by
 unfold xvJ
 rw [Int.mul_assoc, ← Int.pow_add, show (x.e - e).toNat + (e + 1074).toNat = (x.e + 1074).toNat by omega]
theorem dyAdd_w {x y : Exa} (hx : DyW x) (hy : DyW y) : DyW (dyAdd x y) ∧ xvJ (dyAdd x y) = xvJ x + xvJ y := by
 have h1 := hx.e0
 have h2 := hx.e1
 have h3 := hy.e0
 have h4 := hy.e1
 by_cases hm : x.m = 0
 ·rw [dyAdd_1 hm]
  refine ⟨hy, ?_⟩
  have : xvJ x = 0 := by unfold xvJ; rw [hm, Int.zero_mul]
  omega
 by_cases hn : y.m = 0
 ·rw [dyAdd_2 hm hn]
  refine ⟨hx, ?_⟩
  have : xvJ y = 0 := by unfold xvJ; rw [hn, Int.zero_mul]
  omega
 rw [dyAdd_3 hm hn]
 refine ⟨⟨by show -1074 ≤ min x.e y.e; omega, by show min x.e y.e ≤ 1100; omega⟩, ?_⟩
 rw [← xvJ_low (x := x) (e := min x.e y.e) (by omega) (by omega), ← xvJ_low (x := y) (e := min x.e y.e) (by omega) (by omega), ← Int.add_mul]
 rfl
theorem low_le {x : Exa} {e : Int} (h0 : -1074 ≤ e) (h1 : e ≤ x.e) : (x.m * 2 ^ (x.e - e).toNat).natAbs ≤ (xvJ x).natAbs := by
 rw [← xvJ_low h0 h1]
 generalize x.m * 2 ^ (x.e - e).toNat = a
 have : ((2 : Int) ^ (e + 1074).toNat).natAbs = 2 ^ (e + 1074).toNat := by
  have : (2 : Int) ^ (e + 1074).toNat = ((2 ^ (e + 1074).toNat : Nat) : Int) := by simp
  rw [this, Int.natAbs_natCast]
 rw [Int.natAbs_mul, this]
 exact Nat.le_mul_of_pos_right _ (Nat.two_pow_pos _)
theorem m_le {x : Exa} (h : DyW x) : x.m.natAbs ≤ (xvJ x).natAbs := by
 have := low_le (x := x) (e := x.e) h.e0 (Int.le_refl _)
 rw [Int.sub_self] at this
 simpa using this
theorem sval_lt {x : Nat} (hx : x < 2 ^ 64) (hf : finB x = true) : (sval x).natAbs ≤ 2 ^ 2098 := by
 rw [sval_abs]
 unfold vlu
 have h1 := mgn_lt x
 have h2 := plc_le ((finB_iff hx).1 hf)
 obtain ⟨K, hK⟩ : ∃ K : Nat, K = 2045 := ⟨_, rfl⟩
 have h3 : (2 : Nat) ^ (plc x + 1074).toNat ≤ 2 ^ K := Nat.pow_le_pow_right (by decide) (by omega)
 have h4 : mgn x ≤ 2 ^ 53 := by
  have e53 : (2 : Nat) ^ 53 = 9007199254740992 := by decide
  omega
 have h5 := Nat.mul_le_mul h4 h3
 rw [← Nat.pow_add] at h5
 have e : 53 + K = 2098 := by omega
 rw [e] at h5
 generalize (2 : Nat) ^ 2098 = B at *
 exact h5
theorem dySum_w {l : List Nat} (hw : ∀ k, k < l.length → l.getD k 0 < 2 ^ 64 ∧ finB (l.getD k 0) = true) : ∀ k, k ≤ l.length → DyW (dySum l k) ∧ xvJ (dySum l k) = sumI ((l.map sval).take k)
 | 0, _ => ⟨⟨by show (-1074 : Int) ≤ 0; omega, by show (0 : Int) ≤ 1100; omega⟩, by show (0 : Int) * _ = _; rw [Int.zero_mul]; rfl⟩
 | k + 1, hk => by
  obtain ⟨h1, h2⟩ := dySum_w hw k (by omega)
  obtain ⟨g1, g2⟩ := hw k (by omega)
  obtain ⟨h3, h4⟩ := dyAdd_w h1 (ofX_w g1 g2)
  refine ⟨h3, ?_⟩
  have hl : k < (l.map sval).length := by rw [List.length_map]; omega
  show xvJ (dyAdd (dySum l k) (ofX (l.getD k 0))) = _
  rw [h4, h2, xvJ_of, List.take_add_one, List.getElem?_eq_getElem hl, Option.toList_some, sumI_snoc, List.getElem_map]
  congr 2
  rw [List.getD_eq_getElem?_getD, List.getElem?_eq_getElem (show k < l.length by omega)]
  rfl
theorem sum_le {l : List Nat} (hw : ∀ k, k < l.length → l.getD k 0 < 2 ^ 64 ∧ finB (l.getD k 0) = true) : ∀ k, k ≤ l.length → (xvJ (dySum l k)).natAbs ≤ k * 2 ^ 2098
 | 0, _ => by show ((0 : Int) * _).natAbs ≤ _; rw [Int.zero_mul]; exact Nat.zero_le _
 | k + 1, hk => by
  obtain ⟨h1, _⟩ := dySum_w hw k (by omega)
  obtain ⟨g1, g2⟩ := hw k (by omega)
  obtain ⟨_, h4⟩ := dyAdd_w h1 (ofX_w g1 g2)
  show (xvJ (dyAdd (dySum l k) (ofX (l.getD k 0)))).natAbs ≤ _
  rw [h4, xvJ_of]
  have h5 := sum_le hw k (by omega)
  have h6 := sval_lt g1 g2
  have h7 := Int.natAbs_add_le (xvJ (dySum l k)) (sval (l.getD k 0))
  generalize 2 ^ 2098 = B at *
  rw [Nat.add_mul, Nat.one_mul]
  omega
theorem sml_le1 {x : Int} {n : Nat} (h : x.natAbs ≤ n) (hn : n ≤ 4097 * 2 ^ 2098) : SmlJ x := by
 refine sml_powJ (k := 2111) ?_ (by decide)
 have : 4097 * 2 ^ 2098 < 2 ^ 2111 := by decide +kernel
 omega
theorem fin_sumH {l : List Nat} (hl : l.length ≤ 4096) (hw : ∀ k, k < l.length → l.getD k 0 < 2 ^ 64 ∧ finB (l.getD k 0) = true) : SumH l ∧ PutH (dySum l l.length) := by
 have hb : ∀ k, k ≤ l.length → (xvJ (dySum l k)).natAbs ≤ 4097 * 2 ^ 2098 := fun k hk => (by
  have h1 := sum_le hw k hk
  have h2 : k ≤ 4097 := by omega
  generalize 2 ^ 2098 = B at *
  exact Nat.le_trans h1 (Nat.mul_le_mul_right _ h2))
 have hv : ∀ k, k < l.length → (xvJ (ofX (l.getD k 0))).natAbs ≤ 4097 * 2 ^ 2098 := fun k hk => by
  rw [xvJ_of]
  have h1 := sval_lt (hw k hk).1 (hw k hk).2
  generalize 2 ^ 2098 = B at *
  omega
 have hB : ∀ {x : Exa}, DyW x → (xvJ x).natAbs ≤ 4097 * 2 ^ 2098 → DyB x := fun {x} h h2 => ⟨sml_le1 (Nat.le_trans (m_le h) h2) (Nat.le_refl _), by have := h.e0; omega, by have := h.e1; omega⟩
 have hL : ∀ {x y : Exa}, DyW x → DyW y → (xvJ x).natAbs ≤ 4097 * 2 ^ 2098 → (xvJ y).natAbs ≤ 4097 * 2 ^ 2098 → DyL x y := fun {x y} hx hy h1 h2 => by
  have a1 := hx.e0
  have a2 := hy.e0
  exact ⟨sml_le1 (Nat.le_trans (low_le (by omega) (by omega)) h1) (Nat.le_refl _), sml_le1 (Nat.le_trans (low_le (by omega) (by omega)) h2) (Nat.le_refl _)⟩
 refine ⟨⟨fun k hk => (hw k hk).2, fun k hk => hB (ofX_w (hw k hk).1 (hw k hk).2) (hv k hk), fun k hk => hB (dySum_w hw k hk).1 (hb k hk), fun k hk => hL (dySum_w hw k (by omega)).1 (ofX_w (hw k hk).1 (hw k hk).2) (hb k (by omega)) (hv k hk)⟩, ?_⟩
 have hw1 := (dySum_w hw l.length (Nat.le_refl _)).1
 have hb1 := hb l.length (Nat.le_refl _)
 generalize dySum l l.length = x at hw1 hb1 ⊢
 have hm : x.m.natAbs < 2 ^ 2111 := by
  have h1 := m_le hw1
  have : 4097 * 2 ^ 2098 < 2 ^ 2111 := by decide +kernel
  omega
 have hbl := bl_lt hm
 have he0 := hw1.e0
 have he1 := hw1.e1
 have htz : x.m ≠ 0 → tzNJ x.m.natAbs ≤ 2111 := fun h0 => by
  have h1 := bl_odd (m := x.m.natAbs) (by omega)
  rw [tzJ_eq]
  omega
 have hE : (dyHalf x).e = if x.m = 0 then x.e else x.e + tzNJ x.m.natAbs := by unfold dyHalf; split <;> rfl
 refine ⟨hB hw1 hb1, ?_, ?_, ?_⟩
 ·rw [half_abs]
  have h1 : x.m.natAbs / 2 ^ tzNJ x.m.natAbs ≤ x.m.natAbs := Nat.div_le_self _ _
  have h2 := bl_lt (show x.m.natAbs / 2 ^ tzNJ x.m.natAbs < 2 ^ 2111 by omega)
  omega
 ·rw [hE]; split <;> omega
 ·rw [hE]
  split
  ·omega
  ·rename_i h0
   have := htz h0
   omega
end Go.Bn
namespace Go.Bn
open Go
theorem odd_uniq {p q : Int} {a b : Nat} (hp : p.natAbs % 2 = 1) (hq : q.natAbs % 2 = 1) (h : p * 2 ^ a = q * 2 ^ b) : p = q ∧ a = b := by
 have key : ∀ {p q : Int} {a b : Nat}, p.natAbs % 2 = 1 → p * 2 ^ a = q * 2 ^ b → b ≤ a ∨ False := fun {p q a b} hp h => by
  by_cases hab : b ≤ a
  ·exact .inl hab
  ·have e : q * 2 ^ b = q * 2 ^ (b - a) * 2 ^ a := by rw [Int.mul_assoc, ← Int.pow_add, show b - a + a = b by omega]
   rw [e] at h
   have h2 : p = q * 2 ^ (b - a) := Int.eq_of_mul_eq_mul_right (show (2 : Int) ^ a ≠ 0 from by have : (0 : Int) < 2 ^ a := Int.pow_pos (by decide); omega) h
   obtain ⟨c, hc⟩ : ∃ c, b - a = c + 1 := ⟨b - a - 1, by omega⟩
   rw [hc, Int.pow_succ, ← Int.mul_assoc] at h2
   omega
 have h1 : b ≤ a := (key hp h).resolve_right id
 have h2 : a ≤ b := (key hq h.symm).resolve_right id
 have e : a = b := by omega
 subst e
 exact ⟨Int.eq_of_mul_eq_mul_right (show (2 : Int) ^ a ≠ 0 from by have : (0 : Int) < 2 ^ a := Int.pow_pos (by decide); omega) h, rfl⟩
theorem shl_sgn {b : Bool} {M n : Nat} : sgnI b (M * 2 ^ n) = sgnI b M * 2 ^ n := by
 have e : ((M * 2 ^ n : Nat) : Int) = (M : Int) * 2 ^ n := by rw [Int.natCast_mul]; simp
 unfold sgnI
 cases b
 ·exact e
 ·show -((M * 2 ^ n : Nat) : Int) = -(M : Int) * 2 ^ n
  rw [e, Int.neg_mul]
theorem xvJ_half {x : Exa} (h : DyW x) : xvJ (dyHalf x) = xvJ x := by
 have h0 := h.e0
 unfold dyHalf
 split
 ·rfl
 ·rename_i hm
  unfold xvJ
  show sgnI _ _ * 2 ^ (x.e + (tzNJ x.m.natAbs : Nat) + 1074).toNat = _
  rw [show (x.e + ((tzNJ x.m.natAbs : Nat) : Int) + 1074).toNat = tzNJ x.m.natAbs + (x.e + 1074).toNat by omega, Int.pow_add, ← Int.mul_assoc, ← shl_sgn, Nat.div_mul_cancel (Nat.dvd_of_mod_eq_zero (half_mod hm)), set_1]
theorem canon_eq {x y : Exa} (hx : DyW x) (hy : DyW y) (h : xvJ x = xvJ y) : (dyHalf x).m = (dyHalf y).m ∧ dyE x = dyE y := by
 have zero : ∀ {x y : Exa}, DyW x → DyW y → xvJ x = xvJ y → x.m = 0 → y.m = 0 := fun {x y} hx hy h hm => by
  have h1 : xvJ x = 0 := by unfold xvJ; rw [hm, Int.zero_mul]
  have h2 := m_le hy
  rw [← h, h1] at h2
  simp at h2
  exact h2
 by_cases hm : x.m = 0
 ·have hn := zero hx hy h hm
  have e1 : (dyHalf x).m = 0 := by unfold dyHalf; rw [if_pos hm]; exact hm
  have e2 : (dyHalf y).m = 0 := by unfold dyHalf; rw [if_pos hn]; exact hn
  rw [e1, e2, dyE_0 e1, dyE_0 e2]
  exact ⟨rfl, rfl⟩
 ·have hn : ¬ y.m = 0 := fun e => hm (zero hy hx h.symm e)
  have o1 := half_odd hm
  have o2 := half_odd hn
  have k1 := xvJ_half hx
  have k2 := xvJ_half hy
  have k : xvJ (dyHalf x) = xvJ (dyHalf y) := by rw [k1, k2, h]
  unfold xvJ at k
  obtain ⟨q1, q2⟩ := odd_uniq o1 o2 k
  have f1 : -1074 ≤ (dyHalf x).e := by have := hx.e0; unfold dyHalf; rw [if_neg hm]; show -1074 ≤ x.e + _; omega
  have f2 : -1074 ≤ (dyHalf y).e := by have := hy.e0; unfold dyHalf; rw [if_neg hn]; show -1074 ≤ y.e + _; omega
  rw [dyE_1 (by omega), dyE_1 (by omega)]
  exact ⟨q1, by omega⟩
theorem half_sign {x : Exa} (h : DyW x) : ((dyHalf x).m < 0 ↔ xvJ x < 0) ∧ ((dyHalf x).m = 0 ↔ xvJ x = 0) := by
 rw [← xvJ_half h]
 unfold xvJ
 have hp : (0 : Int) < 2 ^ ((dyHalf x).e + 1074).toNat := Int.pow_pos (by decide)
 generalize (2 : Int) ^ ((dyHalf x).e + 1074).toNat = P at hp
 generalize (dyHalf x).m = m
 refine ⟨⟨fun h => Int.mul_neg_of_neg_of_pos h hp, fun h => ?_⟩, ⟨fun h => by rw [h, Int.zero_mul], fun h => ?_⟩⟩
 ·apply Classical.byContradiction
  intro hc
  have := Int.mul_nonneg (show 0 ≤ m by omega) (show 0 ≤ P by omega)
  omega
 ·rcases Int.mul_eq_zero.1 h with h9 | h9
  ·exact h9
  ·omega
end Go.Bn
