/-
 Long division of words: all steps.
-/
import Derived.Test.YtjnmgcglooeooaaGreatDoorPsDiv
set_option linter.unusedVariables false
set_option linter.unusedSimpArgs false
namespace Go.Bn
open Go
structure OveI (U0 : Int) (d u q : List Int) (m k : Nat) : Prop where
 hul : u.length = m + d.length
 hql : q.length = m
 hud : Dig u
 hqd : Dig q
 hk : k ≤ m
 hv : U0 = magI (q.drop k) * wpw k * magI d + magI u
 hb : magI u < magI d * wpw k
theorem ove_zero {u d : List Int} {m : Nat} (hu : Dig u) (hl : u.length = m + d.length) (hb : magI u < magI d * wpw m) : OveI (magI u) d u (List.replicate m 0) m m where
 hul := hl
 hql := List.length_replicate
 hud := hu
 hqd := dig_rep m
 hk := Nat.le_refl _
 hv := by rw [magI_out (by rw [List.length_replicate]; exact Nat.le_refl _)]; omega
 hb := hb
theorem segI_all {u : List Int} {j n : Nat} (hu : Dig u) (hn : j + n ≤ u.length) (hb : magI u < wpw (j + n)) : magI u = magI (u.take j) + wpw j * segI u j n ∧ magI (u.drop (j + n)) = 0 := by
 have e1 := magI_cut u j (by omega)
 have e2 := magI_cut (u.drop j) n (by rw [List.length_drop]; omega)
 rw [List.drop_drop] at e2
 have h0 := magI_nonneg (hu.drop (j + n))
 have h1 := magI_nonneg (hu.take j)
 have h2 := magI_nonneg ((hu.drop j).take n)
 have hj := wpw_pos j
 have hz : magI (u.drop (j + n)) = 0 := by
  refine Classical.byContradiction fun hc => ?_
  have h3 : wpw n * 1 ≤ wpw n * magI (u.drop (j + n)) := Int.mul_le_mul_of_nonneg_left (by omega) (by have := wpw_pos n; omega)
  have h4 : wpw j * (wpw n * 1) ≤ wpw j * magI (u.drop j) := Int.mul_le_mul_of_nonneg_left (by omega) (by omega)
  rw [wpw_add] at hb
  rw [Int.mul_one] at h4
  omega
 refine ⟨?_, hz⟩
 rw [e1, e2, hz, Int.mul_zero, Int.add_zero]
 rfl
section step
variable {U0 : Int} {d u q : List Int} {m j : Nat} (hd : Dig d) (h : OveI U0 d u q m (j + 1)) (hn : 2 ≤ d.length) (hD : 0 < magI d)
include hd h hn hD
omit hD in
theorem ove_W : magI u = magI (u.take j) + wpw j * segI u j (d.length + 1) ∧ 0 ≤ segI u j (d.length + 1) ∧ segI u j (d.length + 1) < magI d * 4294967296 ∧ 0 ≤ magI (u.take j) ∧ magI (u.take j) < wpw j := by
 have hl := h.hul
 have hk := h.hk
 have hb := h.hb
 have hdl := magI_lt hd
 have hj := wpw_pos j
 have hB : magI u < wpw (j + (d.length + 1)) := by
  have h1 : magI d * wpw (j + 1) ≤ wpw d.length * wpw (j + 1) := Int.mul_le_mul_of_nonneg_right (by omega) (by have := wpw_pos (j + 1); omega)
  rw [← wpw_add, show d.length + (j + 1) = j + (d.length + 1) by omega] at h1
  omega
 obtain ⟨e, _⟩ := segI_all h.hud (by omega) hB
 have h0 := magI_nonneg (h.hud.take j)
 have h1 := magI_lt (h.hud.take j)
 rw [List.length_take, Nat.min_eq_left (by omega)] at h1
 have hs := segI_rng h.hud j (d.length + 1) (by omega)
 refine ⟨e, hs.1, ?_, h0, h1⟩
 refine Classical.byContradiction fun hc => ?_
 have h2 : wpw j * (magI d * 4294967296) ≤ wpw j * segI u j (d.length + 1) := Int.mul_le_mul_of_nonneg_left (by omega) (by omega)
 rw [wpw_succ] at hb
 have e3 : magI d * (4294967296 * wpw j) = wpw j * (magI d * 4294967296) := by grind
 omega
omit hD in
theorem ove_div {N : Nat} (hN : d.length = N + 2) (ht : 2147483648 ≤ d.getD (N + 1) 0) : DivW (segI u j (d.length + 1)) (magI d) (wpw N) (u.getD (j + (N + 2)) 0 * 4294967296 + u.getD (j + (N + 1)) 0) (d.getD (N + 1) 0) (d.getD N 0) (u.getD (j + N) 0) := by
 have hl := h.hul
 have hk := h.hk
 obtain ⟨e, w0, w1, _, _⟩ := ove_W hd h hn
 have x0 := h.hud.at (k := j + N) (by omega)
 have y0 := hd.at (k := N) (by omega)
 have y1 := hd.at (k := N + 1) (by omega)
 have hs := segI_rng h.hud j N (by omega)
 have hB := wpw_pos N
 have e1 : segI u j (d.length + 1) = segI u j N + wpw N * (u.getD (j + N) 0 + 4294967296 * (u.getD (j + (N + 1)) 0 + 4294967296 * u.getD (j + (N + 2)) 0)) := by
  rw [hN, segI_succ (by omega), segI_succ (by omega), segI_succ (by omega), wpw_succ (N + 1), wpw_succ N]
  generalize segI u j N = s
  generalize wpw N = B
  grind
 have e2 : magI d = magI (d.take N) + wpw N * (d.getD N 0 + 4294967296 * d.getD (N + 1) 0) := by
  have h1 := magI_take (l := d) (k := N) (by omega)
  have h2 := magI_take (l := d) (k := N + 1) (by omega)
  rw [show N + 1 + 1 = d.length by omega, List.take_length, wpw_succ, h1] at h2
  rw [h2]
  generalize magI (d.take N) = s
  generalize wpw N = B
  grind
 have t0 := magI_nonneg (hd.take N)
 have t1 := magI_lt (hd.take N)
 rw [List.length_take, Nat.min_eq_left (by omega)] at t1
 refine ⟨hB, ?_, ?_, ?_, ?_, ⟨ht, y1.2⟩, y0, x0, w0, w1⟩
 ·rw [e1]
  generalize segI u j N = s at *
  generalize wpw N = B at *
  grind
 ·rw [e1]
  generalize segI u j N = s at *
  generalize wpw N = B at *
  grind
 ·rw [e2]
  generalize magI (d.take N) = s at *
  generalize wpw N = B at *
  grind
 ·rw [e2]
  generalize magI (d.take N) = s at *
  generalize wpw N = B at *
  grind
theorem ove_step : OveI U0 d (putI u j (d.length + 1) (segI u j (d.length + 1) % magI d)) (q.set j (segI u j (d.length + 1) / magI d)) m j ∧ 0 ≤ segI u j (d.length + 1) / magI d ∧ segI u j (d.length + 1) / magI d < 4294967296 := by
 have hl := h.hul
 have hql := h.hql
 have hk := h.hk
 obtain ⟨e, w0, w1, l0, l1⟩ := ove_W hd h hn
 have hdl := magI_lt hd
 have hj := wpw_pos j
 have q0 : 0 ≤ segI u j (d.length + 1) / magI d := Int.ediv_nonneg w0 (by omega)
 have q1 : segI u j (d.length + 1) / magI d < 4294967296 := Int.ediv_lt_of_lt_mul hD (by rw [Int.mul_comm]; exact w1)
 have m0 := Int.emod_nonneg (segI u j (d.length + 1)) (show magI d ≠ 0 by omega)
 have m1 := Int.emod_lt_of_pos (segI u j (d.length + 1)) hD
 have ew := Int.mul_ediv_add_emod (segI u j (d.length + 1)) (magI d)
 have hwn : wpw d.length ≤ wpw (d.length + 1) := wpw_mono (by omega)
 have pm := putI_mag (u := u) (j := j) (n := d.length + 1) (v := segI u j (d.length + 1) % magI d) (by omega) m0 (by omega)
 have hv := h.hv
 refine ⟨⟨by rw [putI_len (by omega)]; exact hl, by rw [List.length_set]; exact hql, putI_dig h.hud _ _ _, h.hqd.set ⟨q0, q1⟩, by omega, ?_, ?_⟩, q0, q1⟩
 ·rw [pm, magI_drop (l := q.set j _) (by rw [List.length_set]; omega), drop_set_lt (by omega), getD_set_eq (by omega), hv, wpw_succ]
  generalize segI u j (d.length + 1) / magI d = Q at *
  generalize segI u j (d.length + 1) % magI d = R at *
  generalize segI u j (d.length + 1) = W at *
  generalize magI (q.drop (j + 1)) = P at *
  generalize magI d = D at *
  generalize wpw j = B at *
  generalize magI u = M at *
  grind
 ·rw [pm, e]
  have : wpw j * (segI u j (d.length + 1) % magI d) ≤ wpw j * (magI d - 1) := Int.mul_le_mul_of_nonneg_left (by omega) (by omega)
  generalize segI u j (d.length + 1) % magI d = R at *
  generalize segI u j (d.length + 1) = W at *
  generalize magI d = D at *
  generalize wpw j = B at *
  grind
omit hd h hn in
theorem lesV_q {g : Int} (hw : segI u j (d.length + 1) < magI d * 4294967296) (hs0 : 0 ≤ segI u j (d.length + 1)) (hq : segI u j (d.length + 1) / magI d ≤ g) (hg : g ≤ segI u j (d.length + 1) / magI d + 1) : (lesV u d j g < 0 ↔ g = segI u j (d.length + 1) / magI d + 1) ∧ (¬ lesV u d j g < 0 → g = segI u j (d.length + 1) / magI d ∧ lesV u d j g = segI u j (d.length + 1) % magI d) ∧ (lesV u d j g < 0 → lesV u d j g = segI u j (d.length + 1) % magI d - magI d) := by
 have ew := Int.mul_ediv_add_emod (segI u j (d.length + 1)) (magI d)
 have m0 := Int.emod_nonneg (segI u j (d.length + 1)) (show magI d ≠ 0 by omega)
 have m1 := Int.emod_lt_of_pos (segI u j (d.length + 1)) hD
 unfold lesV
 generalize segI u j (d.length + 1) / magI d = Q at *
 generalize segI u j (d.length + 1) % magI d = R at *
 generalize segI u j (d.length + 1) = W at *
 have hcase : g = Q ∨ g = Q + 1 := by omega
 rcases hcase with hc | hc
 ·subst hc
  have e : W - g * magI d = R := by rw [← ew, Int.mul_comm]; omega
  rw [e]
  exact ⟨by omega, fun _ => ⟨rfl, rfl⟩, fun h => by omega⟩
 ·subst hc
  have e : W - (Q + 1) * magI d = R - magI d := by rw [← ew, Int.add_mul, Int.mul_comm]; omega
  rw [e]
  exact ⟨by omega, fun h => by omega, fun _ => rfl⟩
omit hd h hn hD in
theorem ove_les {g : Int} (hul : j + d.length < u.length) (hV : ¬ lesV u d j g < 0) (e : lesV u d j g = segI u j (d.length + 1) % magI d) : lesL u d j g = putI u j (d.length + 1) (segI u j (d.length + 1) % magI d) := by
 unfold lesL
 rw [if_neg hV, e, Int.add_zero]
omit h hn in
theorem ove_more {g : Int} (hud : Dig u) (hul : j + d.length < u.length) (hV : lesV u d j g < 0) (e : lesV u d j g = segI u j (d.length + 1) % magI d - magI d) : morL (lesL u d j g) d j = putI u j (d.length + 1) (segI u j (d.length + 1) % magI d) := by
 have m0 := Int.emod_nonneg (segI u j (d.length + 1)) (show magI d ≠ 0 by omega)
 have m1 := Int.emod_lt_of_pos (segI u j (d.length + 1)) hD
 have hdl := magI_lt hd
 have hwn : wpw d.length ≤ wpw (d.length + 1) := wpw_mono (by omega)
 unfold morL lesL
 rw [if_pos hV, e]
 generalize hR : segI u j (d.length + 1) % magI d = R at *
 have hlen := putI_len (u := u) (j := j) (n := d.length + 1) (v := R - magI d + wpw (d.length + 1)) (by omega)
 have hs : segI (putI u j (d.length + 1) (R - magI d + wpw (d.length + 1))) j (d.length + 1) = R - magI d + wpw (d.length + 1) := by
  unfold segI putI
  rw [List.drop_append_of_le_length (by rw [List.length_take]; omega), List.drop_of_length_le (by rw [List.length_take]; omega), List.nil_append, List.take_append_of_le_length (by rw [digs_len]; omega), List.take_of_length_le (by rw [digs_len]; omega), digs_mag (by omega) (by omega)]
 rw [hs, show R - magI d + wpw (d.length + 1) + magI d = R + wpw (d.length + 1) by omega, Int.add_emod_right, Int.emod_eq_of_lt m0 (by omega)]
 unfold putI
 rw [List.take_append_of_le_length (by rw [List.length_take]; omega), List.take_take, Nat.min_self]
 congr 2
 rw [← List.append_assoc, List.drop_append_of_le_length (by rw [List.length_append, List.length_take, digs_len]; omega), List.drop_of_length_le (by rw [List.length_append, List.length_take, digs_len]; omega), List.nil_append]
end step
theorem ove_done {U0 : Int} {d u q : List Int} {m : Nat} (hd : Dig d) (h : OveI U0 d u q m 0) (hD : 0 < magI d) : magI q = U0 / magI d ∧ magI (u.take d.length) = U0 % magI d ∧ Dig (u.take d.length) := by
 have hv := h.hv
 have hb := h.hb
 have hl := h.hul
 rw [List.drop_zero, wpw_zero, Int.mul_one] at hv
 rw [wpw_zero, Int.mul_one] at hb
 have h0 := magI_nonneg h.hud
 have hdl := magI_lt hd
 obtain ⟨e, hz⟩ := segI_all (j := 0) (n := d.length) h.hud (by omega) (by rw [Nat.zero_add]; omega)
 rw [List.take_zero, wpw_zero, Int.one_mul] at e
 have e2 : magI (u.take d.length) = magI u := by
  rw [e]
  show _ = 0 + segI u 0 d.length
  unfold segI
  rw [List.drop_zero]; omega
 rw [e2, hv, Int.add_comm]
 refine ⟨?_, ?_, h.hud.take _⟩
 ·rw [Int.add_mul_ediv_right _ _ (by omega), Int.ediv_eq_zero_of_lt h0 hb]; omega
 ·rw [Int.add_mul_emod_self_right, Int.emod_eq_of_lt h0 hb]
end Go.Bn
