/-
 Expansions over whole numbers, as the program sees them.
-/
import Derived.Test.YtcpififnffmjfaaGreatDoorZsSmz
set_option linter.unusedVariables false
set_option linter.unusedSimpArgs false
namespace Go.Bn
open Go
theorem cmp_scaleE {a b p : Int} (hp : 1 ≤ p) : compare (a * p) (b * p) = compare a b := by
 rcases Int.lt_trichotomy a b with h | h | h
 ·rw [Int.compare_eq_lt.2 h, Int.compare_eq_lt.2 (Int.mul_lt_mul_of_pos_right h (by omega))]
 ·rw [h, Int.compare_eq_eq.2 rfl, Int.compare_eq_eq.2 rfl]
 ·rw [Int.compare_eq_gt.2 h, Int.compare_eq_gt.2 (Int.mul_lt_mul_of_pos_right h (by omega))]
theorem ford_valE {x y : Nat} (hx : Fin64 x) (hy : Fin64 y) : ford x y = some (compare (sval x) (sval y)) := by
 have px := plc_ge x
 have py := plc_ge y
 unfold ford Ieee.Format.order
 rw [read_fin hx.2, read_fin hy.2]
 simp only [Ieee.Datum.order]
 obtain ⟨b, hb⟩ : ∃ b, b = min (plc x) (plc y) := ⟨_, rfl⟩
 rw [← hb]
 have key : ∀ z, b ≤ plc z → Ieee.signed (sgn z) (mgn z) (plc z - b).toNat * 2 ^ (b + 1074).toNat = sval z := fun z hz => (sval_signed (by omega) hz).symm
 have hp : (1 : Int) ≤ 2 ^ (b + 1074).toNat := by have : (0 : Int) < 2 ^ (b + 1074).toNat := Int.pow_pos (by decide); omega
 rw [← key x (by omega), ← key y (by omega), cmp_scaleE hp]
theorem fin0 : Fin64 0 ∧ sval 0 = 0 := ⟨⟨by decide, by decide⟩, by decide +kernel⟩
theorem f_neq {x y : Nat} (hx : Fin64 x) (hy : Fin64 y) : fcmp .neq x y = decide (sval x ≠ sval y) := by
 show (ford x y != some .eq) = _
 rw [ford_valE hx hy]
 rcases Int.lt_trichotomy (sval x) (sval y) with h | h | h
 ·rw [Int.compare_eq_lt.2 h, decide_eq_true (by omega)]; rfl
 ·rw [Int.compare_eq_eq.2 h]; simp [h]
 ·rw [Int.compare_eq_gt.2 h, decide_eq_true (by omega)]; rfl
theorem f_eql {x y : Nat} (hx : Fin64 x) (hy : Fin64 y) : fcmp .eql x y = decide (sval x = sval y) := by
 show (ford x y == some .eq) = _
 rw [ford_valE hx hy]
 rcases Int.lt_trichotomy (sval x) (sval y) with h | h | h
 ·rw [Int.compare_eq_lt.2 h, decide_eq_false (by omega)]; rfl
 ·rw [Int.compare_eq_eq.2 h]; simp [h]
 ·rw [Int.compare_eq_gt.2 h, decide_eq_false (by omega)]; rfl
theorem f_lss {x y : Nat} (hx : Fin64 x) (hy : Fin64 y) : fcmp .lss x y = decide (sval x < sval y) := by
 show (ford x y == some .lt) = _
 rw [ford_valE hx hy]
 rcases Int.lt_trichotomy (sval x) (sval y) with h | h | h
 ·rw [Int.compare_eq_lt.2 h]; simp [h]
 ·rw [Int.compare_eq_eq.2 h]; simp; omega
 ·rw [Int.compare_eq_gt.2 h]; simp; omega
theorem f_gtr {x y : Nat} (hx : Fin64 x) (hy : Fin64 y) : fcmp .gtr x y = decide (sval y < sval x) := by
 show (ford x y == some .gt) = _
 rw [ford_valE hx hy]
 rcases Int.lt_trichotomy (sval x) (sval y) with h | h | h
 ·rw [Int.compare_eq_lt.2 h]; simp; omega
 ·rw [Int.compare_eq_eq.2 h]; simp; omega
 ·rw [Int.compare_eq_gt.2 h]; simp [h]
theorem f_geq {x y : Nat} (hx : Fin64 x) (hy : Fin64 y) : fcmp .geq x y = decide (sval y ≤ sval x) := by
 show (ford x y == some .gt || ford x y == some .eq) = _
 rw [ford_valE hx hy]
 rcases Int.lt_trichotomy (sval x) (sval y) with h | h | h
 ·rw [Int.compare_eq_lt.2 h]; simp; omega
 ·rw [Int.compare_eq_eq.2 h]; simp; omega
 ·rw [Int.compare_eq_gt.2 h]; simp; omega
theorem fneg_E {x : Nat} (hx : Fin64 x) : Fin64 (fneg x) ∧ sval (fneg x) = -sval x := by
 obtain ⟨h1, h2⟩ := hx
 have hn : nanB x = false := fin_not_nan ((finB_iff h1).2 h2)
 have e64 : (2 : Nat) ^ 64 = 18446744073709551616 := by decide
 have hr : rung (fneg x) = rung x ∧ sgn (fneg x) = !sgn x ∧ fneg x < 2 ^ 64 := by
  unfold fneg
  rw [hn]
  simp only [Bool.false_eq_true, if_false]
  cases h : sgn x
  ·simp only [Bool.false_eq_true, if_false]
   unfold sgn at h ⊢
   have h3 := beq_eq_false_iff_ne.1 h
   unfold rung
   refine ⟨by omega, ?_, by omega⟩
   rw [show (x + 9223372036854775808) / 9223372036854775808 % 2 = 1 by omega]; rfl
  ·simp only [if_true]
   unfold sgn at h ⊢
   have h3 := eq_of_beq h
   unfold rung
   refine ⟨by omega, ?_, by omega⟩
   rw [show (x - 9223372036854775808) / 9223372036854775808 % 2 = 0 by omega]; rfl
 obtain ⟨r1, r2, r3⟩ := hr
 refine ⟨⟨r3, by rw [r1]; exact h2⟩, ?_⟩
 have hv : vlu (fneg x) = vlu x := by unfold vlu mgn plc; rw [r1]
 rw [sval_sgz, sval_sgz, r2, hv]
 unfold sgz
 cases sgn x <;> simp
theorem absE_val {x : Nat} (hx : Fin64 x) : Fin64 (absE x) ∧ sval (absE x) = ((sval x).natAbs : Int) := by
 obtain ⟨h1, h2⟩ := fneg_E hx
 unfold absE
 rw [f_lss hx fin0.1, fin0.2]
 by_cases h : sval x < 0
 ·rw [decide_eq_true h, if_pos rfl]
  exact ⟨h1, by rw [h2]; omega⟩
 ·rw [decide_eq_false h, if_neg (by decide)]
  exact ⟨hx, by omega⟩
theorem last_val {x : Nat} (hx : Fin64 x) (h0 : sval x ≠ 0) : Fin64 (lastE x) ∧ ∀ g : Nat, q2 g ∣ sval x → q2 g ≤ sval (lastE x) := by
 have hf := (fin64_iff hx.1).1 hx
 have hM := md_one hf hx.1
 refine ⟨mdW_fin hM, fun g hg => ?_⟩
 unfold lastE
 rw [mdW_val hM]
 show _ ≤ ((1 * 2 ^ (oddE (mgn x) (plc x) + 1074).toNat : Nat) : Int)
 rw [Nat.one_mul]
 have hm : mgn x ≠ 0 := fun e => h0 (by have := sval_abs x; unfold vlu at this; rw [e, Nat.zero_mul] at this; omega)
 have hp := plc_ge x
 have hv : (sval x).natAbs = oddM (mgn x) * 2 ^ (oddE (mgn x) (plc x) + 1074).toNat := by
  rw [sval_abs, oddE_ge hm]
  unfold vlu
  rw [show (plc x + (tz (mgn x) : Int) + 1074).toNat = tz (mgn x) + (plc x + 1074).toNat by omega, Nat.pow_add, ← Nat.mul_assoc, oddM_mul hm]
 have ho : oddM (mgn x) % 2 = 1 := by
  have h1 := half_odd (x := ⟨(mgn x : Int), 0⟩) (by show (mgn x : Int) ≠ 0; omega)
  rw [half_abs, tzJ_eq] at h1
  rw [oddM, if_neg hm]
  exact h1
 generalize (oddE (mgn x) (plc x) + 1074).toNat = t at hv ⊢
 unfold q2 at hg ⊢
 apply Classical.byContradiction
 intro hc
 have hgt : t < g := by
  apply Classical.byContradiction
  intro h9
  have : (2 : Nat) ^ g ≤ 2 ^ t := Nat.pow_le_pow_right (by decide) (by omega)
  have h10 : ((2 ^ g : Nat) : Int) ≤ ((2 ^ t : Nat) : Int) := Int.ofNat_le.2 this
  simp at h10 hc
  omega
 have h3 : (2 ^ g : Nat) ∣ (sval x).natAbs := by
  have := Int.natAbs_dvd_natAbs.2 hg
  simpa [Int.natAbs_pow] using this
 rw [hv] at h3
 have h4 : (2 ^ (t + 1) : Nat) ∣ oddM (mgn x) * 2 ^ t := Nat.dvd_trans (Nat.pow_dvd_pow 2 (by omega)) h3
 rw [Nat.pow_succ, Nat.mul_comm (2 ^ t) 2] at h4
 have h5 := Nat.dvd_of_mul_dvd_mul_right (Nat.two_pow_pos t) h4
 omega
theorem nov_pair : ∀ {L : List Int} {i : Nat} {h v : Int}, Nov L → L[i]? = some h → L[i + 1]? = some v → Below h v
 | [], i, h, v, _, h1, _ => by simp at h1
 | [a], i, h, v, _, h1, h2 => by simp at h2
 | a :: b :: l, 0, h, v, hn, h1, h2 => by
  simp at h1 h2
  rw [← h1, ← h2]
  exact hn.2.1
 | a :: b :: l, i + 1, h, v, hn, h1, h2 => nov_pair (L := b :: l) hn.2.2 (by simpa using h1) (by simpa using h2)
theorem nov_ne : ∀ {L : List Int} {i : Nat} {v : Int}, Nov L → L[i]? = some v → v ≠ 0
 | [], i, v, _, h1 => by simp at h1
 | a :: l, 0, v, hn, h1 => by simp at h1; rw [← h1]; exact hn.ne
 | a :: l, i + 1, v, hn, h1 => nov_ne (L := l) hn.tail (by simpa using h1)
theorem map_at {l : List Nat} {i : Nat} (h : i < l.length) : (l.map sval)[i]? = some (sval (l.getD i 0)) := by
 rw [List.getElem?_map, List.getElem?_eq_getElem h, List.getD_eq_getElem?_getD, List.getElem?_eq_getElem h]
 rfl
theorem is_of_nov {l : List Nat} (hl : l.length ≤ 64) (hF : ∀ k, k < l.length → Fin64 (l.getD k 0)) (hn : Nov (l.map sval)) : IsH l := by
 refine ⟨hl, fun k hk => (fin64_iff (hF k hk).1).1 (hF k hk), fun i hi => ?_⟩
 have hv := nov_ne hn (map_at hi)
 show (fcmp .eql (l.getD i 0) 0 || (cmpB .gtr (i : Int) 0 && fcmp .geq (absE (l.getD ((i : Int) - 1).toNat 0)) (lastE (l.getD i 0)))) = false
 rw [f_eql (hF i hi) fin0.1, fin0.2, decide_eq_false hv, Bool.false_or]
 cases i with
 | zero => rfl
 | succ j =>
  have hj : j < l.length := by omega
  obtain ⟨g, hg1, hg2⟩ := nov_pair hn (map_at hj) (map_at hi)
  obtain ⟨a1, a2⟩ := absE_val (hF j hj)
  obtain ⟨b1, b2⟩ := last_val (hF (j + 1) hi) hv
  have := b2 g hg2
  rw [show (((j + 1 : Nat) : Int) - 1).toNat = j by omega, f_geq a1 b1, a2, decide_eq_false (by omega), Bool.and_false]
end Go.Bn
namespace Go.Bn
open Go
def FinA (l : List Nat) : Prop := ∀ x, x ∈ l → Fin64 x
theorem FinA.at {l : List Nat} (h : FinA l) {k : Nat} (hk : k < l.length) : Fin64 (l.getD k 0) := h _ (mem_getD 0 hk)
theorem layF_map {L : List Nat} {h : Nat} (hh : Fin64 h) : (layF L h).map sval = lay (L.map sval) (sval h) := by
 unfold layF lay
 rw [f_neq hh fin0.1, fin0.2]
 by_cases e : sval h = 0
 ·rw [if_pos e, decide_eq_false (by omega), if_neg (by decide)]
 ·rw [if_neg e, decide_eq_true e, if_pos rfl, List.map_append]; rfl
theorem layF_fin {L : List Nat} {h : Nat} (hL : FinA L) (hh : Fin64 h) : FinA (layF L h) := by
 unfold layF
 split
 ·intro x hx
  rcases List.mem_append.1 hx with h1 | h1
  ·exact hL x h1
  ·rw [List.mem_singleton.1 h1]; exact hh
 ·exact hL
structure GwI (e : List Nat) (b : Nat) (C : Int) (i : Nat) : Prop where
 g : GI (e.map sval) (sval b) C i ((growS e b i).1.map sval) (sval (growS e b i).2)
 q : Fin64 (growS e b i).2
 l : FinA (growS e b i).1
section grow
variable {e : List Nat} {b : Nat} {B C : Int} (hl : e.length ≤ 60) (hF : FinA e) (hb : Fin64 b) (hn : Nov (e.map sval)) (hB : PB (e.map sval) B) (hC : C = ((sval b).natAbs : Int) + B) (hS : ∀ v : Int, (v.natAbs : Int) ≤ 2 * C → Sn 9 v)
include hl hF hb hn hB hC hS
omit hb hn in
theorem grow_two {i : Nat} (h : GwI e b C i) (hi : i < e.length) : Fin64 (twoS (growS e b i).2 (e.getD i 0)) ∧ Fin64 (twoE (growS e b i).2 (e.getD i 0)) ∧ RN (sval (growS e b i).2 + sval (e.getD i 0)) (sval (twoS (growS e b i).2 (e.getD i 0))) ∧ sval (twoE (growS e b i).2 (e.getD i 0)) = sval (growS e b i).2 + sval (e.getD i 0) - sval (twoS (growS e b i).2 (e.getD i 0)) := by
 have h1 := h.g.q_le hB hC (by omega)
 have h2 := hB.at (map_at hi)
 exact two_fl h.q (hF.at hi) (hS _ h1) (hS _ (by omega))
theorem grow_inv : ∀ i, i ≤ e.length → GwI e b C i
 | 0, _ => ⟨gi_zero (by have := hB.nn; omega), hb, fun x hx => by cases hx⟩
 | i + 1, hi => by
  have h := grow_inv i (by omega)
  obtain ⟨t1, t2, t3, t4⟩ := grow_two hl hF hB hC hS h (by omega)
  have hs := gi_step hn h.g hB hC (by rw [List.length_map]; omega) (by rw [List.length_map]; omega) (map_at (by omega)) (fin_rep h.q) t3
  rw [← t4, ← layF_map t2] at hs
  exact ⟨hs, t1, layF_fin h.l t2⟩
theorem grow_law : GrH e b ∧ FinA (growR e b) ∧ Nov ((growR e b).map sval) ∧ sumI ((growR e b).map sval) = sumI (e.map sval) + sval b ∧ PB ((growR e b).map sval) C ∧ (growR e b).length ≤ e.length + 1 := by
 have h := grow_inv hl hF hb hn hB hC hS e.length (Nat.le_refl _)
 have hg := h.g
 rw [show e.length = (e.map sval).length by rw [List.length_map]] at hg
 have hd := gi_done (L := (growS e b e.length).1.map sval) (q := sval (growS e b e.length).2) (by rw [List.length_map] at hg ⊢; exact hg) hB hC
 rw [← layF_map h.q] at hd
 refine ⟨⟨is_of_nov (by omega) (fun k hk => hF.at hk) hn, (fin64_iff hb.1).1 hb, hl, fun i hi => ?_⟩, layF_fin h.l h.q, hd.1, hd.2.1, hd.2.2.1, ?_⟩
 ·obtain ⟨t1, t2, _, _⟩ := grow_two hl hF hB hC hS (grow_inv hl hF hb hn hB hC hS i (by omega)) hi
  exact ⟨(fin64_iff t1.1).1 t1, (fin64_iff t2.1).1 t2⟩
 ·have := hd.2.2.2
  rw [List.length_map, List.length_map] at this
  exact this
end grow
end Go.Bn
namespace Go.Bn
open Go
theorem elA_eq {l : List Nat} {k : Nat} (h : k + 1 < l.length) : elA l k = l.getD (l.length - 2 - k) 0 := by
 unfold elA
 rw [show ((l.length : Int) - 2 - (k : Int)).toNat = l.length - 2 - k by omega]
theorem elL_eq {A : List Nat} {k : Nat} (h : k < A.length) : elL A k = A.getD (A.length - 1 - k) 0 := by
 unfold elL
 rw [show ((A.length : Int) - 1 - (k : Int)).toNat = A.length - 1 - k by omega]
theorem take_s {L : List Int} {j : Nat} {x : Int} (h : L[j]? = some x) : L.take (j + 1) = L.take j ++ [x] := by
 rw [List.take_add_one, h]; rfl
structure CwI (l : List Nat) (k : Nat) : Prop where
 c : CI (l.map sval) ((cmpA l k).1.map sval) (sval (cmpA l k).2) ((l.map sval).take (l.length - 1 - k))
 q : Fin64 (cmpA l k).2
 a : FinA (cmpA l k).1
section comp
variable {l : List Nat} (h0 : 0 < l.length) (hF : FinA l) (hn : Nov (l.map sval)) (hS : ∀ v : Int, (v.natAbs : Int) ≤ 4 * absI (l.map sval) → Sn 9 v)
include h0 hF hn hS
omit h0 hn in
theorem comp_qui {k : Nat} (h : CwI l k) (hk : k + 1 < l.length) : Fin64 (twoS (cmpA l k).2 (elA l k)) ∧ Fin64 (quiE (cmpA l k).2 (elA l k)) ∧ RN (sval (cmpA l k).2 + sval (elA l k)) (sval (twoS (cmpA l k).2 (elA l k))) ∧ sval (quiE (cmpA l k).2 (elA l k)) = sval (cmpA l k).2 + sval (elA l k) - sval (twoS (cmpA l k).2 (elA l k)) := by
 have hj : l.length - 2 - k < l.length := by omega
 have hx : Fin64 (elA l k) := by rw [elA_eq hk]; exact hF.at hj
 have ht : (l.map sval).take (l.length - 1 - k) = (l.map sval).take (l.length - 2 - k) ++ [sval (elA l k)] := by
  rw [elA_eq hk, show l.length - 1 - k = l.length - 2 - k + 1 by omega]
  exact take_s (map_at hj)
 have hc := h.c
 rw [ht] at hc
 have h1 := hc.ht
 rw [absI_snoc] at h1
 have h2 := absI_nn ((l.map sval).take (l.length - 2 - k))
 have h3 := absI_nn (l.map sval)
 have sq := hS (sval (cmpA l k).2) (by omega)
 have sx := hS (sval (elA l k)) (by omega)
 have hr := (two_fl h.q hx sq sx).2.2.1
 have hab := (ci_step hc (fin_rep h.q) (fin_rep hx) hr).1
 exact qui_fl h.q hx sq sx (by omega)
theorem comp_inv : ∀ k, k < l.length → CwI l k
 | 0, _ => by
  have hj : l.length - 1 < l.length := by omega
  have e : (l.map sval) = (l.map sval).take (l.length - 1) ++ [sval (l.getD (l.length - 1) 0)] := by
   have h1 := take_s (map_at hj)
   rw [show l.length - 1 + 1 = (l.map sval).length by rw [List.length_map]; omega, List.take_length] at h1
   exact h1
  have hz : (cmpA l 0).2 = l.getD (l.length - 1) 0 := by
   show l.getD ((l.length : Int) - 1).toNat 0 = _
   rw [show ((l.length : Int) - 1).toNat = l.length - 1 by omega]
  refine ⟨?_, by rw [hz]; exact hF.at hj, fun x hx => by cases hx⟩
  rw [hz, Nat.sub_zero]
  have h2 := ci_zero (l := (l.map sval).take (l.length - 1)) (x := sval (l.getD (l.length - 1) 0)) (by rw [← e]; exact hn)
  rw [← e] at h2
  exact h2
 | k + 1, hk => by
  have h := comp_inv k (by omega)
  obtain ⟨t1, t2, t3, t4⟩ := comp_qui hF hS h hk
  have hj : l.length - 2 - k < l.length := by omega
  have hx : Fin64 (elA l k) := by rw [elA_eq hk]; exact hF.at hj
  have ht : (l.map sval).take (l.length - 1 - k) = (l.map sval).take (l.length - 2 - k) ++ [sval (elA l k)] := by
   rw [elA_eq hk, show l.length - 1 - k = l.length - 2 - k + 1 by omega]
   exact take_s (map_at hj)
  have hc := h.c
  rw [ht] at hc
  obtain ⟨_, s1, s2⟩ := ci_step hc (fin_rep h.q) (fin_rep hx) t3
  rw [← t4] at s1 s2
  have hz := f_neq t2 fin0.1
  rw [fin0.2] at hz
  by_cases e : sval (quiE (cmpA l k).2 (elA l k)) = 0
  ·rw [decide_eq_false (by omega)] at hz
   refine ⟨?_, ?_, ?_⟩
   ·rw [cmpA_0 hz, show l.length - 1 - (k + 1) = l.length - 2 - k by omega]; exact s1 e
   ·rw [cmpA_0 hz]; exact t1
   ·rw [cmpA_0 hz]; exact h.a
  ·rw [decide_eq_true e] at hz
   refine ⟨?_, ?_, ?_⟩
   ·rw [cmpA_1 hz, show l.length - 1 - (k + 1) = l.length - 2 - k by omega]
    show CI _ (((cmpA l k).1 ++ [_]).map sval) _ _
    rw [List.map_append]; exact s2 e
   ·rw [cmpA_1 hz]; exact t2
   ·rw [cmpA_1 hz]
    intro x hx
    rcases List.mem_append.1 hx with h1 | h1
    ·exact h.a x h1
    ·rw [List.mem_singleton.1 h1]; exact t1
structure DwI (l : List Nat) (m : Nat) : Prop where
 d : DI (l.map sval) ((cmpL (cmpA l (l.length - 1)).1 (cmpA l (l.length - 1)).2 m).1.map sval) (sval (cmpL (cmpA l (l.length - 1)).1 (cmpA l (l.length - 1)).2 m).2) (((cmpA l (l.length - 1)).1.map sval).reverse.drop m)
 q : Fin64 (cmpL (cmpA l (l.length - 1)).1 (cmpA l (l.length - 1)).2 m).2
 a : FinA (cmpL (cmpA l (l.length - 1)).1 (cmpA l (l.length - 1)).2 m).1
omit h0 hF hn hS in
theorem rev_drop {A : List Nat} {m : Nat} (hm : m < A.length) : (A.map sval).reverse.drop m = sval (elL A m) :: (A.map sval).reverse.drop (m + 1) := by
 have hl : m < (A.map sval).reverse.length := by rw [List.length_reverse, List.length_map]; exact hm
 rw [List.drop_eq_getElem_cons hl]
 congr 1
 rw [List.getElem_reverse, List.getElem_map, elL_eq hm, List.getD_eq_getElem?_getD, List.getElem?_eq_getElem (by omega)]
 simp only [List.length_map]
 rfl
theorem comp_qui2 {m : Nat} (h : DwI l m) (hm : m < (cmpA l (l.length - 1)).1.length) :
  Fin64 (twoS (elL (cmpA l (l.length - 1)).1 m) (cmpL (cmpA l (l.length - 1)).1 (cmpA l (l.length - 1)).2 m).2) ∧ Fin64 (quiE (elL (cmpA l (l.length - 1)).1 m) (cmpL (cmpA l (l.length - 1)).1 (cmpA l (l.length - 1)).2 m).2) ∧ DwI l (m + 1) := by
 have hA := (comp_inv h0 hF hn hS (l.length - 1) (by omega)).a
 have hx : Fin64 (elL (cmpA l (l.length - 1)).1 m) := by rw [elL_eq hm]; exact hA.at (by omega)
 have hd := h.d
 rw [rev_drop hm] at hd
 have h3 := absI_nn (l.map sval)
 have sq := hS _ hd.hq
 have sx := hS (sval (elL (cmpA l (l.length - 1)).1 m)) (by have := hd.ha _ (List.mem_cons_self ..); omega)
 have hr := (two_fl hx h.q sx sq).2.2.1
 obtain ⟨hab, hstep⟩ := di_step hd (fin_rep hx) hr
 obtain ⟨t1, t2, t3, t4⟩ := qui_fl hx h.q sx sq (by omega)
 rw [← t4, ← layF_map t2] at hstep
 exact ⟨t1, t2, hstep, t1, layF_fin h.a t2⟩
theorem comp_inv2 : ∀ m, m ≤ (cmpA l (l.length - 1)).1.length → DwI l m
 | 0, _ => by
  have h := comp_inv h0 hF hn hS (l.length - 1) (by omega)
  have hc := h.c
  rw [Nat.sub_self, List.take_zero] at hc
  exact ⟨di_zero hc, h.q, fun x hx => by cases hx⟩
 | m + 1, hm => (comp_qui2 h0 hF hn hS (comp_inv2 m (by omega)) (by omega)).2.2
end comp
theorem comp_law {l : List Nat} (hl : l.length ≤ 64) (hF : FinA l) (hn : Nov (l.map sval)) (hS : ∀ v : Int, (v.natAbs : Int) ≤ 4 * absI (l.map sval) → Sn 9 v) : CpH l ∧ FinA (cmpR l) ∧ Nov ((cmpR l).map sval) ∧ sumI ((cmpR l).map sval) = sumI (l.map sval) ∧ (cmpR l).length ≤ l.length := by
 have his := is_of_nov hl (fun k hk => hF.at hk) hn
 by_cases h0 : l.length = 0
 ·have e : l = [] := List.length_eq_zero_iff.1 h0
  subst e
  refine ⟨⟨his, fun k hk => absurd hk (Nat.not_lt_zero k), fun k hk => absurd hk (Nat.not_lt_zero k)⟩, fun x hx => (by cases hx), trivial, rfl, Nat.le_refl _⟩
 ·have h1 : 0 < l.length := by omega
  have hD := comp_inv2 h1 hF hn hS _ (Nat.le_refl _)
  have hd := hD.d
  rw [List.drop_eq_nil_of_le (by rw [List.length_reverse, List.length_map]; omega)] at hd
  have hg := di_done hd
  rw [← layF_map hD.q] at hg
  rw [cmpR_1 h0 rfl]
  refine ⟨⟨his, fun k hk => ?_, fun k hk => ?_⟩, layF_fin hD.a hD.q, hg.1, hg.2.1, ?_⟩
  ·obtain ⟨t1, t2, _, _⟩ := comp_qui hF hS (comp_inv h1 hF hn hS k (by omega)) (by omega)
   exact ⟨(fin64_iff t1.1).1 t1, (fin64_iff t2.1).1 t2⟩
  ·obtain ⟨t1, t2, _⟩ := comp_qui2 h1 hF hn hS (comp_inv2 h1 hF hn hS k (by omega)) hk
   exact ⟨(fin64_iff t1.1).1 t1, (fin64_iff t2.1).1 t2⟩
  ·have := hg.2.2
   rw [List.length_map, List.length_map] at this
   exact this
end Go.Bn
namespace Go.Bn
open Go
abbrev AW1 : List Nat := [ONE, P2 100, fneg (P2 100)]
theorem aw1_exa : exaD AW1 = ONE := by decide +kernel
theorem aw2_grow : growR [ONE] (P2 60) = [ONE, P2 60] := by decide +kernel
theorem aw1_sum : SumH AW1 ∧ PutH (dySum AW1 AW1.length) := fin_sumH (by decide) fun k hk => by
 match k, hk with
 | 0, _ => exact ⟨by decide +kernel, by decide +kernel⟩
 | 1, _ => exact ⟨by decide +kernel, by decide +kernel⟩
 | 2, _ => exact ⟨by decide +kernel, by decide +kernel⟩
 | k + 3, hk => exact absurd hk (by show ¬ k + 3 < 3; omega)
theorem aw2_is : IsH [ONE] := ⟨by decide, fun k hk => by
 match k, hk with
 | 0, _ => decide +kernel
 | k + 1, hk => exact absurd hk (by show ¬ k + 1 < 1; omega), fun k hk => by
 match k, hk with
 | 0, _ => decide +kernel
 | k + 1, hk => exact absurd hk (by show ¬ k + 1 < 1; omega)⟩
theorem aw2_h : GrH [ONE] (P2 60) := ⟨aw2_is, by decide +kernel, by decide, fun i hi => by
 match i, hi with
 | 0, _ => exact ⟨by decide +kernel, by decide +kernel⟩
 | i + 1, hi => exact absurd hi (by show ¬ i + 1 < 1; omega)⟩
theorem aw2_nan : ∀ x, x ∈ [ONE, P2 60] → nanB x = false := by decide +kernel
end Go.Bn
namespace Go.Bn
open Go
def pickI (z : Int) (n : Nat) : Int := (z.tmod n + n).tmod n
theorem pickI_rng {z : Int} {n : Nat} (h : 0 < n) : 0 ≤ pickI z n ∧ pickI z n < n := by
 unfold pickI
 have h1 : (0 : Int) < n := by omega
 have h2 : -(n : Int) < z.tmod n := by
  have := Int.lt_tmod_of_pos z h1
  omega
 have h3 := Int.tmod_lt_of_pos z h1
 rw [Int.tmod_eq_emod_of_nonneg (by omega)]
 exact ⟨Int.emod_nonneg _ (by omega), Int.emod_lt_of_pos _ h1⟩
theorem split_at {l : List Nat} {i : Nat} (h : i < l.length) : l = l.take i ++ l.getD i 0 :: l.drop (i + 1) := by
 have e : l.getD i 0 = l[i] := by rw [List.getD_eq_getElem?_getD, List.getElem?_eq_getElem h]; rfl
 rw [e, ← List.drop_eq_getElem_cons h, List.take_append_drop]
theorem pick_perm {p l a : List Nat} {i : Nat} (h : (p ++ l).Perm a) (hi : i < l.length) : ((p ++ [l.getD i 0]) ++ (l.take i ++ l.drop (i + 1))).Perm a := by
 refine List.Perm.trans ?_ h
 rw [List.append_assoc]
 refine List.Perm.append_left p ?_
 have e := split_at hi
 conv => rhs; rw [e]
 exact (List.perm_middle (a := l.getD i 0) (l₁ := l.take i) (l₂ := l.drop (i + 1))).symm
theorem sumI_perm {l m : List Int} (h : l.Perm m) : sumI l = sumI m := by
 induction h with
 | nil => rfl
 | cons x _ ih => rw [sumI_cons, sumI_cons, ih]
 | swap x y l => rw [sumI_cons, sumI_cons, sumI_cons, sumI_cons]; omega
 | trans _ _ ih1 ih2 => exact ih1.trans ih2
def eK (p : List Nat) : Nat → List Nat
 | 0 => []
 | k + 1 => growR (eK p k) (p.getD k 0)
structure EI (p : List Nat) (k : Nat) : Prop where
 f : FinA (eK p k)
 n : Nov ((eK p k).map sval)
 s : sumI ((eK p k).map sval) = sumI ((p.map sval).take k)
 b : PB ((eK p k).map sval) ((k : Int) * ((PZ * 2 ^ 1000 : Nat) : Int))
 l : (eK p k).length ≤ k
theorem ei_zero {p : List Nat} : EI p 0 := ⟨fun x hx => (by cases hx), trivial, rfl, (by rw [show ((0 : Nat) : Int) * ((PZ * 2 ^ 1000 : Nat) : Int) = 0 from Int.zero_mul _]; exact pb_nil (Int.le_refl _)), Nat.le_refl _⟩
theorem sn_of {v : Int} {c : Nat} (h : (v.natAbs : Int) ≤ (c : Int) * ((PZ * 2 ^ 1000 : Nat) : Int)) (hc : c ≤ 1024) : Sn 9 v := by
 unfold Sn
 rw [big_def]
 have h1 : v.natAbs ≤ c * (PZ * 2 ^ 1000) := by
  rw [← Int.natCast_mul] at h
  exact Int.ofNat_le.1 h
 have h2 : c * (PZ * 2 ^ 1000) ≤ 1024 * (PZ * 2 ^ 1000) := Nat.mul_le_mul_right _ hc
 have h3 : v.natAbs * 2 ^ 9 ≤ 1024 * (PZ * 2 ^ 1000) * 2 ^ 9 := Nat.mul_le_mul_right _ (Nat.le_trans h1 h2)
 have h4 : 1024 * (PZ * 2 ^ 1000) * 2 ^ 9 = PZ * (2 ^ 10 * 2 ^ 1000 * 2 ^ 9) := by
  rw [show (1024 : Nat) = 2 ^ 10 by decide]
  simp only [Nat.mul_comm, Nat.mul_left_comm]
 have h5 : (2 : Nat) ^ 10 * 2 ^ 1000 * 2 ^ 9 ≤ 2 ^ 1020 := by decide +kernel
 rw [h4] at h3
 exact Nat.le_trans h3 (Nat.mul_le_mul_left _ h5)
theorem ei_step {p : List Nat} {k : Nat} (h : EI p k) (hk : k < p.length) (hp : p.length ≤ 30) (hx : Fin64 (p.getD k 0)) (hb : (sval (p.getD k 0)).natAbs ≤ PZ * 2 ^ 1000) : GrH (eK p k) (p.getD k 0) ∧ EI p (k + 1) := by
 obtain ⟨U, hU⟩ : ∃ U : Nat, U = PZ * 2 ^ 1000 := ⟨_, rfl⟩
 have hB := h.b
 have hC : ((sval (p.getD k 0)).natAbs : Int) + (k : Int) * (U : Int) ≤ ((k + 1 : Nat) : Int) * (U : Int) := by
  rw [← hU] at hb
  rw [Int.natCast_add, Int.add_mul]
  omega
 have hS : ∀ v : Int, (v.natAbs : Int) ≤ 2 * (((sval (p.getD k 0)).natAbs : Int) + (k : Int) * ((PZ * 2 ^ 1000 : Nat) : Int)) → Sn 9 v := fun v hv => by
  refine sn_of (c := 2 * (k + 1)) ?_ (by omega)
  rw [← hU] at hv ⊢
  rw [Int.natCast_mul, Int.mul_assoc]
  omega
 obtain ⟨g1, g2, g3, g4, g5, g6⟩ := grow_law (by have := h.l; omega) h.f hx h.n hB rfl hS
 refine ⟨g1, ⟨g2, g3, ?_, ?_, ?_⟩⟩
 ·show sumI ((growR (eK p k) (p.getD k 0)).map sval) = _
  rw [g4, h.s, take_s (map_at hk), sumI_snoc]
 ·rw [← hU] at g5 ⊢
  exact g5.mono hC
 ·have := h.l
  show (growR _ _).length ≤ _
  omega
theorem fabs_E {x : Nat} (hx : Fin64 x) : Fin64 (fabs x) ∧ sval (fabs x) = ((sval x).natAbs : Int) := by
 obtain ⟨h1, h2⟩ := hx
 have hn : nanB x = false := fin_not_nan ((finB_iff h1).2 h2)
 have e : fabs x = rung x := by unfold fabs rung; rw [if_neg (by rw [hn]; decide)]
 have hr : rung x < 9223372036854775808 := Nat.mod_lt _ (by decide)
 have e2 : rung (rung x) = rung x := Nat.mod_eq_of_lt hr
 have e3 : sgn (rung x) = false := by
  unfold sgn
  rw [Nat.div_eq_of_lt hr]; rfl
 have hv : vlu (rung x) = vlu x := by unfold vlu mgn plc; rw [e2]
 rw [e]
 have e64 : (2 : Nat) ^ 64 = 18446744073709551616 := by decide
 refine ⟨⟨by omega, by rw [e2]; exact h2⟩, ?_⟩
 rw [sval_abs, sval_sgz, e3, hv]
 rfl
theorem p1000 : Fin64 (P2 1000) ∧ sval (P2 1000) = ((PZ * 2 ^ 1000 : Nat) : Int) := by
 refine ⟨⟨by decide, by decide⟩, ?_⟩
 show ((mgn (P2 1000) * 2 ^ (plc (P2 1000) + 1074).toNat : Nat) : Int) = _
 rw [show mgn (P2 1000) = 2 ^ 52 by decide, show (plc (P2 1000) + 1074).toNat = NZ + 948 by decide, ← Nat.pow_add 2 52 (NZ + 948), pz_pow 1000, show 52 + (NZ + 948) = NZ + 1000 by omega]
theorem big_no {x : Nat} (hx : Fin64 x) (h : fcmp .gtr (fabs x) (P2 1000) = false) : (sval x).natAbs ≤ PZ * 2 ^ 1000 := by
 obtain ⟨f1, f2⟩ := fabs_E hx
 rw [f_gtr f1 p1000.1, f2, p1000.2, decide_eq_false_iff_not] at h
 omega
theorem FinA.w {l : List Nat} (h : FinA l) : ∀ k, k < l.length → l.getD k 0 < 2 ^ 64 ∧ finB (l.getD k 0) = true := fun k hk => ⟨(h.at hk).1, (fin64_iff (h.at hk).1).1 (h.at hk)⟩
theorem dy_worth {l : List Nat} (h : FinA l) : DyW (dySum l l.length) ∧ xvJ (dySum l l.length) = sumI (l.map sval) := by
 obtain ⟨h1, h2⟩ := dySum_w h.w l.length (Nat.le_refl _)
 refine ⟨h1, ?_⟩
 rw [h2, show l.length = (l.map sval).length by rw [List.length_map], List.take_length]
theorem dy_same {l m : List Nat} (hl : FinA l) (hm : FinA m) (h : sumI (l.map sval) = sumI (m.map sval)) : (dyHalf (dySum l l.length)).m = (dyHalf (dySum m m.length)).m ∧ dyE (dySum l l.length) = dyE (dySum m m.length) := by
 obtain ⟨a1, a2⟩ := dy_worth hl
 obtain ⟨b1, b2⟩ := dy_worth hm
 exact canon_eq a1 b1 (by rw [a2, b2, h])
theorem dyP_same {l m : List Nat} (hl : FinA l) (hm : FinA m) (h : sumI (l.map sval) = sumI (m.map sval)) : dyP (dySum l l.length) = dyP (dySum m m.length) := by
 obtain ⟨h1, h2⟩ := dy_same hl hm h
 show aggp [isv (.bool (decide ((dyHalf (dySum l l.length)).m < 0))), ils .u32 (limbs (dyHalf (dySum l l.length)).m.natAbs), isv (.int .i64 (dyE (dySum l l.length)))] = _
 rw [h1, h2]
theorem perm_sum {p a : List Nat} (h : p.Perm a) : sumI (p.map sval) = sumI (a.map sval) := sumI_perm (h.map sval)
theorem perm_fin {p a : List Nat} (h : p.Perm a) (ha : FinA a) : FinA p := fun x hx => ha x (h.mem_iff.1 hx)
def rndA (a : List Nat) : Nat := rndD (decide ((dyHalf (dySum a a.length)).m < 0)) (dyHalf (dySum a a.length)).m.natAbs (dyE (dySum a a.length))
theorem rndA_same {p a : List Nat} (h : p.Perm a) (ha : FinA a) : rndA p = rndA a := by
 obtain ⟨h1, h2⟩ := dy_same (perm_fin h ha) ha (perm_sum h)
 unfold rndA
 rw [h1, h2]
theorem rndA_nan {a : List Nat} (ha : FinA a) (hl : a.length ≤ 4096) : nanB (rndA a) = false := rnd_nan (put_dyE (fin_sumH hl ha.w).2).2
theorem sumI_zero : ∀ {l : List Nat}, (∀ x, x ∈ l → sval x = 0) → sumI (l.map sval) = 0
 | [], _ => rfl
 | a :: l, h => by
  rw [List.map_cons, sumI_cons, h a (List.mem_cons_self ..), sumI_zero fun x hx => h x (List.mem_cons_of_mem _ hx)]
  rfl
theorem nou_all {l : List Nat} (hF : FinA l) (h : nouL l = true) : sumI (l.map sval) = 0 := by
 unfold nouL at h
 rw [Bool.and_eq_true, List.all_eq_true] at h
 refine sumI_zero fun x hx => ?_
 have h1 := h.1 x hx
 unfold nouB at h1
 rw [f_neq (hF x hx) fin0.1, fin0.2] at h1
 simp at h1
 exact h1.1
theorem rndA_zero {a : List Nat} (hF : FinA a) (h : sumI (a.map sval) = 0) : rndA a = 0 := by
 obtain ⟨h1, h2⟩ := dy_worth hF
 have h3 := (half_sign h1).2.2 (by rw [h2, h])
 unfold rndA
 rw [dyE_0 h3, h3]
 decide +kernel
theorem ans_same {p a : List Nat} (h : p.Perm a) (ha : FinA a) : exaD p = rndA a ∨ (exaD p = NEG0 ∧ rndA a = 0) := by
 cases hn : nouL p
 ·left
  rw [exa_2 hn]
  exact rndA_same h ha
 ·right
  refine ⟨exa_1 hn, rndA_zero ha ?_⟩
  rw [← perm_sum h]
  exact nou_all (perm_fin h ha) hn
theorem neg0_eq : fcmp .neq NEG0 0 = false := by decide +kernel
theorem ans_no {p a : List Nat} (h : p.Perm a) (ha : FinA a) (hl : a.length ≤ 4096) : fcmp .neq (exaD p) (rndA a) = false ∧ (fcmp .neq (exaD p) 0 = true → exaD p = rndA a) ∧ nanB (exaD p) = false := by
 have hn := rndA_nan ha hl
 rcases ans_same h ha with e | ⟨e1, e2⟩
 ·rw [e, fcmp_self]
  exact ⟨hn, fun _ => rfl, hn⟩
 ·rw [e1, e2]
  exact ⟨neg0_eq, fun h9 => (by rw [neg0_eq] at h9; cases h9), by decide +kernel⟩
theorem sgnE_val {x : Nat} (hx : Fin64 x) : sgnE x = signI (sval x) := by
 unfold sgnE signI
 rw [f_lss hx fin0.1, f_gtr hx fin0.1, fin0.2]
 by_cases h1 : sval x < 0
 ·rw [decide_eq_true h1, if_pos rfl, if_pos h1]
 ·rw [decide_eq_false h1, if_neg (by decide), if_neg h1]
  by_cases h2 : sval x = 0
  ·rw [decide_eq_false (by omega), if_neg (by decide), if_pos h2]
  ·rw [decide_eq_true (by omega), if_pos rfl, if_neg h2]
theorem signI_iff {v w : Int} (h1 : 0 < v ↔ 0 < w) (h2 : v < 0 ↔ w < 0) : signI v = signI w := by
 unfold signI
 by_cases a : w < 0
 ·rw [if_pos a, if_pos (h2.2 a)]
 ·rw [if_neg a, if_neg (fun h => a (h2.1 h))]
  by_cases b : w = 0
  ·have : v = 0 := by
    have q1 : ¬ 0 < v := fun h => by have := h1.1 h; omega
    have q2 : ¬ v < 0 := fun h => a (h2.1 h)
    omega
   rw [if_pos b, if_pos this]
  ·have : 0 < v := h1.2 (by omega)
   rw [if_neg b, if_neg (by omega)]
theorem sign_law {c : List Nat} (hF : FinA c) (hn : Nov (c.map sval)) : signE c = signI (sumI (c.map sval)) ∧ (c.length = 0 ↔ sumI (c.map sval) = 0) := by
 by_cases h0 : c.length = 0
 ·have e : c = [] := List.length_eq_zero_iff.1 h0
  subst e
  exact ⟨rfl, fun _ => rfl, fun _ => rfl⟩
 ·have hj : c.length - 1 < c.length := by omega
  have e : c.map sval = (c.map sval).take (c.length - 1) ++ [sval (c.getD (c.length - 1) 0)] := by
   have h1 := take_s (map_at hj)
   rw [show c.length - 1 + 1 = (c.map sval).length by rw [List.length_map]; omega, List.take_length] at h1
   exact h1
  rw [e] at hn
  obtain ⟨s1, s2, s3⟩ := nov_sign hn
  rw [← e] at s1 s2
  refine ⟨?_, ⟨fun h => absurd h h0, fun h => ?_⟩⟩
  ·rw [signE_1 h0, show ((c.length : Int) - 1).toNat = c.length - 1 by omega, sgnE_val (hF.at hj)]
   exact (signI_iff s1 s2).symm
  ·exfalso
   rw [h] at s1 s2
   have q1 : ¬ 0 < sval (c.getD (c.length - 1) 0) := fun h9 => by have := s1.2 h9; omega
   have q2 : ¬ sval (c.getD (c.length - 1) 0) < 0 := fun h9 => by have := s2.2 h9; omega
   omega
theorem dy_zero {a : List Nat} (hF : FinA a) : ((limbs (dyHalf (dySum a a.length)).m.natAbs).length = 0 ↔ sumI (a.map sval) = 0) ∧ ((dyHalf (dySum a a.length)).m < 0 ↔ sumI (a.map sval) < 0) := by
 obtain ⟨h1, h2⟩ := dy_worth hF
 obtain ⟨h3, h4⟩ := half_sign h1
 rw [h2] at h3 h4
 refine ⟨⟨fun h => h4.1 (by have := limbs_len0.1 h; omega), fun h => limbs_len0.2 (by have := h4.2 h; omega)⟩, h3⟩
theorem abs_small {l : List Int} {B : Int} (hn : Nov l) (hB : PB l B) : absI l ≤ 4 * B := by
 have h0 := hB.nn
 by_cases e : l = []
 ·subst e
  rw [absI_nil]; omega
 ·obtain ⟨r, x, hx⟩ : ∃ r x, l = r ++ [x] := ⟨l.dropLast, l.getLast e, (List.dropLast_concat_getLast e).symm⟩
  subst hx
  obtain ⟨x0, g, g1, g2⟩ := nov_below hn
  have h1 := abs_ge_of_dvd g2 x0
  have h2 := hB.at (k := r.length) (x := x) (by simp)
  rw [absI_snoc]
  omega
theorem ei_comp {p : List Nat} {k : Nat} (h : EI p k) (hk : k ≤ 30) : CpH (eK p k) ∧ FinA (cmpR (eK p k)) ∧ Nov ((cmpR (eK p k)).map sval) ∧ sumI ((cmpR (eK p k)).map sval) = sumI ((p.map sval).take k) ∧ (cmpR (eK p k)).length ≤ 30 := by
 have h1 := abs_small h.n h.b
 have hl := h.l
 obtain ⟨c1, c2, c3, c4, c5⟩ := comp_law (l := eK p k) (by omega) h.f h.n fun v hv => by
  refine sn_of (c := 16 * k) ?_ (by omega)
  rw [Int.natCast_mul, Int.mul_assoc]
  generalize (k : Int) * ((PZ * 2 ^ 1000 : Nat) : Int) = W at *
  omega
 exact ⟨c1, c2, c3, by rw [c4, h.s], by omega⟩
theorem top_fin {bs : List Nat} (hb : ∀ b, b ∈ bs → b < 2 ^ 64) (h : (bs.map cn).all finB = true) : FinA (bs.map cn) := fun x hx => by
 rw [List.all_eq_true] at h
 obtain ⟨b, hb1, hb2⟩ := List.mem_map.1 hx
 exact (fin64_iff (hb2 ▸ cn_lt (hb b hb1))).2 (h x hx)
theorem end_true {sg S m : Int} {n : Nat} (h : sg = signI S) (hz : n = 0 ↔ S = 0) (hm : m < 0 ↔ S < 0) : ((cmpB .eql 0 0 && (cmpB .gtr sg 0 == (cmpB .gtr (n : Int) 0 && !decide (m < 0)))) && (cmpB .lss sg 0 == (cmpB .gtr (n : Int) 0 && decide (m < 0)))) = true := by
 have e : cmpB .eql 0 0 = true := by decide
 have a : cmpB .gtr sg 0 = decide (0 < sg) := rfl
 have b : cmpB .lss sg 0 = decide (sg < 0) := rfl
 have c : cmpB .gtr (n : Int) 0 = decide (0 < (n : Int)) := rfl
 rw [e, a, b, c]
 unfold signI at h
 by_cases h1 : S < 0
 ·rw [if_pos h1] at h
  have q1 : m < 0 := hm.2 h1
  have q2 : 0 < (n : Int) := by
   have : ¬ n = 0 := fun h9 => by have := hz.1 h9; omega
   omega
  rw [h, decide_eq_true q1, decide_eq_true q2]
  decide
 ·rw [if_neg h1] at h
  have q1 : ¬ m < 0 := fun h9 => h1 (hm.1 h9)
  by_cases h2 : S = 0
  ·rw [if_pos h2] at h
   have q2 : n = 0 := hz.2 h2
   rw [h, q2, decide_eq_false q1]
   decide
  ·rw [if_neg h2] at h
   have q2 : 0 < (n : Int) := by
    have : ¬ n = 0 := fun h9 => h2 (hz.1 h9)
    omega
   rw [h, decide_eq_true q2, decide_eq_false q1]
   decide
theorem dy_len {x : Exa} (h : PutH x) : (limbs (dyHalf x).m.natAbs).length ≤ 100000 := Nat.le_trans (words_len (k := 2048) h.hb) (by decide)
theorem len_both {n c : Nat} {S : Int} (hc : c = 0 ↔ S = 0) (hn : n = 0 ↔ S = 0) : (cmpB .eql (c : Int) 0 != cmpB .eql (n : Int) 0) = false := by
 have a : cmpB .eql (c : Int) 0 = decide ((c : Int) = 0) := rfl
 have b : cmpB .eql (n : Int) 0 = decide ((n : Int) = 0) := rfl
 rw [a, b]
 by_cases h : S = 0
 ·rw [hc.2 h, hn.2 h]; decide
 ·have q1 : ¬ (c : Int) = 0 := fun h9 => h (hc.1 (by omega))
  have q2 : ¬ (n : Int) = 0 := fun h9 => h (hn.1 (by omega))
  rw [decide_eq_false q1, decide_eq_false q2]; decide
end Go.Bn
