/-
 An owned slice, cut at its end.
-/
import Derived.Test.YtjnmgcglooeooaaGreatDoorPsPool
import Derived.Test.YtjnmgcglooeooaaGreatDoorPsGcd
set_option linter.unusedVariables false
set_option linter.unusedSimpArgs false
namespace Go.Bn
open Go
def cutV : Value → Nat → Value
 | .slice b _ c, k => .slice b k c
 | v, _ => v
theorem cutV_cut (u : Value) (i k : Nat) : cutV (cutV u i) k = cutV u k := by
 unfold cutV
 cases u <;> rfl
theorem cutV_self {α : Type} {mk : α → SP} {u : Value} {xs : List α} {T : TypeId} : ∀ c ob, (som u mk xs T).H c ob → cutV u xs.length = u := fun c ob h => by
 rcases h.2 with ⟨h2, h3, _⟩ | ⟨b, cap, cur, h2, h3, _⟩
 ·rw [h2, h3]; rfl
 ·rw [h2]; rfl
theorem som_top {α : Type} {mk : α → SP} {u : Value} {xs : List α} {T : TypeId} {k : Nat} (hk : k ≤ xs.length) : ∀ c ob, (som u mk xs T).H c ob → (som (cutV u k) mk (xs.take k) T).H c ob := fun c ob h => by
 have hl : (xs.take k).length = k := by rw [List.length_take]; omega
 refine ⟨by simp, ?_⟩
 rcases h.2 with ⟨h2, h3, h4⟩ | ⟨b, cap, cur, h2, h3, h4, h5, h6, h7, h8⟩
 ·left
  refine ⟨?_, by rw [hl]; omega, h4⟩
  rw [h2, show k = 0 by omega]
  rfl
 ·right
  refine ⟨b, cap, cur, ?_, h3, by rw [hl]; omega, h5, h6, h7, fun i p hp => ?_⟩
  ·rw [h2, hl]; rfl
  ·refine h8 i p ?_
   rw [nth_eq] at hp ⊢
   rw [List.getElem?_map, List.getElem?_take] at hp
   rw [List.getElem?_map]
   split at hp
   ·exact hp
   ·cases hp
theorem som_down {α : Type} {mk : α → SP} {u : Value} {l : List α} {T : TypeId} {k : Nat} (hk : k ≤ l.length) : ∀ c ob, (som (cutV u k) mk (l.take k) T).H c ob → (som (cutV u (k - 1)) mk (l.take (k - 1)) T).H c ob := fun c ob h => by
 have := som_top (k := k - 1) (by rw [List.length_take]; omega) c ob h
 rw [cutV_cut, List.take_take, Nat.min_eq_left (by omega)] at this
 exact this
theorem fix_cut {α β : Type} {mk : α → SP} {mk2 : β → SP} {u : Value} {xs : List α} {ys : List β} {T T' : TypeId} {k : Nat} : Fix (som u mk xs T) (som (cutV u k) mk2 ys T') := by
 rintro c c' ob ob' ⟨_, h⟩ ⟨_, g⟩
 rcases h with ⟨h1, _, h3⟩ | ⟨b, cap, cur, h1, h2, _⟩
 ·rcases g with ⟨_, _, g3⟩ | ⟨b', cap', cur', g1, _⟩
  ·rw [h3, g3]
  ·rw [h1] at g1; cases g1
 ·rcases g with ⟨g1, _, _⟩ | ⟨b', cap', cur', g1, g2, _⟩
  ·rw [h1] at g1; cases g1
  ·rw [h1] at g1
   cases g1
   rw [h2, g2]
section ops
variable {P : Program} {n : Nat} {ops : Array Oper} {Γ : Facts} {ρ : Env} {δ : VEnv} {τ : List VR}
variable {d : Nat} {ty : TypeId} {pos : String} {af : Array Edge}
theorem op_slice_topV {α : Type} {mk : α → SP} {xs : List α} {x hi : Operand} {T E eb : Nat} {k1 : IntKind} {h : Int} {sv : Value} {T' : TypeId} (k : Nat) (ht : slT P T = some (E, 1, eb)) (hx : Lk Γ δ ρ x (isv sv)) (hhi : Lk Γ δ ρ hi (isv (.int k1 h))) (hk : nth τ k = some (.c (som sv mk xs T'))) (h0 : 0 ≤ h) (h1 : h ≤ xs.length) :
  OpOK P n ops Γ ρ δ τ ⟨some d, .slice T x none (some hi) none, ty, pos, af, none⟩ (.rd k) (.c (isv (cutV sv h.toNat))) dum :=
 ok_read hk fun a c ob _ hr hh => by
  have hv := (hr x _ (by simp [Op.operands]) hx).1
  have hz := (hr hi _ (by simp [Op.operands]) hhi).1
  obtain ⟨hu, i, hi', hs, _⟩ := slT_u ht
  rcases hh.2 with ⟨h2, h3, _⟩ | ⟨b, cap, cur, h2, h3, h4, h5, h6, h7⟩
  ·have hl0 : h = 0 := by omega
   subst hl0
   refine ⟨.slice none 0 0, ?_, ?_⟩
   ·simp [execOp, Instr.sliceAt, Instr.slice, run_underlying hu, h2, hv, hz, Instr.sliceBounds, Instr.sliceBound, asIntOf, sizeOf, typeInfo, hi']
   ·rw [h2]; exact ⟨rfl, rfl⟩
  ·have hl : h ≤ (cap : Int) := by omega
   refine ⟨.slice (some ⟨b, 0, none⟩) h.toNat cap, ?_, by rw [h2]; exact ⟨rfl, rfl⟩⟩
   simp [execOp, Instr.sliceAt, Instr.slice, run_underlying hu, h2, hv, hz, Instr.sliceBounds, Instr.sliceBound, asIntOf, sizeOf, typeInfo, hi', hs, hl, h0, addr_add]
end ops
theorem limbs_one {Y : Nat} (h : (limbs Y).length = 1) : (limbs Y).getD ((0 : Int)).toNat 0 = Y := by
 have h1 := limbs_mag Y
 show (limbs Y).getD 0 0 = Y
 match hl : limbs Y with
 | [] => rw [hl] at h; simp at h
 | [x] => rw [hl, magI_one] at h1; exact h1
 | x :: y :: l => rw [hl] at h; simp at h
theorem limbs_top {D N : Nat} (hl : (limbs D).length = N + 1) : (D : Int) = magI ((limbs D).take N) + wpw N * (limbs D).getD N 0 ∧ 0 ≤ magI ((limbs D).take N) ∧ magI ((limbs D).take N) < wpw N ∧ 0 ≤ (limbs D).getD N 0 ∧ (limbs D).getD N 0 < 4294967296 := by
 have h1 := magI_take (l := limbs D) (k := N) (by omega)
 rw [show N + 1 = (limbs D).length by omega, List.take_length, limbs_mag] at h1
 have h2 := magI_nonneg ((limbs_dig D).take N)
 have h3 := magI_lt ((limbs_dig D).take N)
 rw [List.length_take, Nat.min_eq_left (by omega)] at h3
 have h4 := (limbs_dig D).at (k := N) (by omega)
 exact ⟨h1, h2, h3, h4.1, h4.2⟩
theorem limbs_top0 {D N : Nat} (hl : (limbs D).length = N + 1) : 1 ≤ (limbs D).getD N 0 := by
 have h := limbs_tight D
 have h4 := (limbs_dig D).at (k := N) (by omega)
 rcases h with h | h
 ·rw [h] at hl; simp at hl
 ·rw [hl, Nat.add_sub_cancel] at h
  omega
theorem over_norm {Y N : Nat} (hl : (limbs Y).length = N + 1) : ∃ S : Nat, S < 32 ∧ (S : Int) = 32 - (bl ((limbs Y).getD N 0).toNat : Int) ∧ (limbs (Y * 2 ^ S)).length = N + 1 ∧ 2147483648 ≤ (limbs (Y * 2 ^ S)).getD N 0 := by
 obtain ⟨e, l0, l1, t0, t1⟩ := limbs_top hl
 have tp := limbs_top0 hl
 obtain ⟨w, hw⟩ : ∃ w : Nat, (limbs Y).getD N 0 = (w : Int) := ⟨((limbs Y).getD N 0).toNat, by omega⟩
 rw [hw] at e t0 t1 tp ⊢
 rw [Int.toNat_natCast]
 have w0 : w ≠ 0 := by omega
 have hlog : w.log2 < 32 := (Nat.log2_lt w0).2 (by omega)
 have hbl : bl w = w.log2 + 1 := bl_pos w0
 refine ⟨31 - w.log2, by omega, by omega, ?_⟩
 obtain ⟨S, hS⟩ : ∃ S, S = 31 - w.log2 := ⟨_, rfl⟩
 rw [← hS]
 have g1 : 2 ^ w.log2 ≤ w := Nat.log2_self_le w0
 have g2 : w < 2 ^ (w.log2 + 1) := Nat.lt_log2_self
 have k1 : 2147483648 ≤ w * 2 ^ S := by
  have := Nat.mul_le_mul_right (2 ^ S) g1
  rw [← Nat.pow_add, show w.log2 + S = 31 by omega] at this
  exact this
 have k2 : (w + 1) * 2 ^ S ≤ 4294967296 := by
  have := Nat.mul_le_mul_right (2 ^ S) (show w + 1 ≤ 2 ^ (w.log2 + 1) from g2)
  rw [← Nat.pow_add, show w.log2 + 1 + S = 32 by omega] at this
  exact this
 have hp : 1 ≤ 2 ^ S := Nat.one_le_two_pow
 have c1 : (2147483648 : Int) ≤ (w : Int) * ((2 ^ S : Nat) : Int) := by
  have h := Int.ofNat_le.2 k1
  rw [Int.natCast_mul] at h
  exact h
 have c2 : ((w : Int) + 1) * ((2 ^ S : Nat) : Int) ≤ 4294967296 := by
  have h := Int.ofNat_le.2 k2
  rw [Int.natCast_mul] at h
  exact h
 have c3 : (1 : Int) ≤ ((2 ^ S : Nat) : Int) := by exact_mod_cast hp
 have hB := wpw_pos N
 have eD : ((Y * 2 ^ S : Nat) : Int) = (Y : Int) * ((2 ^ S : Nat) : Int) := Int.natCast_mul ..
 have d0 : wpw N * 2147483648 ≤ ((Y * 2 ^ S : Nat) : Int) := by
  rw [eD, e, Int.add_mul]
  have h1 := Int.mul_nonneg l0 (show (0 : Int) ≤ ((2 ^ S : Nat) : Int) by omega)
  have h2 := Int.mul_le_mul_of_nonneg_left c1 (show 0 ≤ wpw N by omega)
  rw [Int.mul_assoc]
  omega
 have d1 : ((Y * 2 ^ S : Nat) : Int) < wpw N * 4294967296 := by
  rw [eD, e]
  have h1 : (magI ((limbs Y).take N) + wpw N * (w : Int)) * ((2 ^ S : Nat) : Int) < (wpw N * ((w : Int) + 1)) * ((2 ^ S : Nat) : Int) := Int.mul_lt_mul_of_pos_right (by rw [Int.mul_add]; omega) (by omega)
  have h2 := Int.mul_le_mul_of_nonneg_left c2 (show 0 ≤ wpw N by omega)
  rw [← Int.mul_assoc] at h2
  omega
 have len1 : (limbs (Y * 2 ^ S)).length ≤ N + 1 := limbs_len (by rw [wpw_succ, Int.mul_comm]; exact d1)
 have len2 : N + 1 ≤ (limbs (Y * 2 ^ S)).length := by
  refine Classical.byContradiction fun hc => ?_
  have h1 := magI_lt (limbs_dig (Y * 2 ^ S))
  rw [limbs_mag] at h1
  have h2 := wpw_mono (show (limbs (Y * 2 ^ S)).length ≤ N by omega)
  omega
 have hlen : (limbs (Y * 2 ^ S)).length = N + 1 := by omega
 refine ⟨hlen, ?_⟩
 obtain ⟨e2, m0, m1, u0, u1⟩ := limbs_top hlen
 refine Classical.byContradiction fun hc => ?_
 have h1 : wpw N * (limbs (Y * 2 ^ S)).getD N 0 ≤ wpw N * 2147483647 := Int.mul_le_mul_of_nonneg_left (by omega) (by omega)
 omega
theorem magI_pad (l : List Int) (c : Nat) : magI (l ++ List.replicate c 0) = magI l := by
 rw [magI_append, magI_rep, Int.mul_zero, Int.add_zero]
theorem dig_pad {l : List Int} (h : Dig l) (c : Nat) : Dig (l ++ List.replicate c 0) := fun z hz => by
 rcases List.mem_append.1 hz with e | e
 ·exact h z e
 ·exact dig_rep c z e
theorem pad_suc (l : List Int) (c : Nat) : l ++ List.replicate c 0 ++ [0] = l ++ List.replicate (c + 1) 0 := by
 rw [List.append_assoc, ← List.replicate_succ']
theorem over_len {X Y : Nat} (h : ¬ X < Y) : (limbs Y).length ≤ (limbs X).length := limbs_mono (by omega)
theorem over_len2 {X S : Nat} (hS : S < 32) : (limbs (X * 2 ^ S)).length ≤ (limbs X).length + 1 := by
 have h1 := @limbs_mul X (2 ^ S)
 have h2 : (limbs (2 ^ S)).length ≤ 1 := by
  refine limbs_len (k := 1) ?_
  have : (2 : Nat) ^ S < 2 ^ 32 := Nat.pow_lt_pow_right (by omega) hS
  show ((2 ^ S : Nat) : Int) < 4294967296 ^ 1
  have h3 : (2 : Nat) ^ 32 = 4294967296 := by decide
  omega
 omega
theorem over_b {X Y S N m : Nat} (hl : (limbs Y).length = N + 1) (hm : (limbs X).length + 1 = m + (N + 1)) (hp : (limbs (Y * 2 ^ S)).length = N + 1) : ((X * 2 ^ S : Nat) : Int) < ((Y * 2 ^ S : Nat) : Int) * wpw m := by
 obtain ⟨e, l0, l1, t0, t1⟩ := limbs_top hl
 have tp := limbs_top0 hl
 have hX := magI_lt (limbs_dig X)
 rw [limbs_mag, show (limbs X).length = N + m by omega, wpw_add] at hX
 have hB := wpw_pos N
 have hM := wpw_pos m
 have c3 : (1 : Int) ≤ ((2 ^ S : Nat) : Int) := by exact_mod_cast (Nat.one_le_two_pow (n := S))
 have k1 : wpw N * 1 ≤ wpw N * (limbs Y).getD N 0 := Int.mul_le_mul_of_nonneg_left tp (by omega)
 have k2 : wpw N ≤ (Y : Int) := by omega
 have k3 : wpw N * wpw m ≤ (Y : Int) * wpw m := Int.mul_le_mul_of_nonneg_right k2 (by omega)
 have k4 : (X : Int) * ((2 ^ S : Nat) : Int) < (Y : Int) * wpw m * ((2 ^ S : Nat) : Int) := Int.mul_lt_mul_of_pos_right (by omega) (by omega)
 rw [Int.natCast_mul, Int.natCast_mul]
 have e2 : (Y : Int) * ((2 ^ S : Nat) : Int) * wpw m = (Y : Int) * wpw m * ((2 ^ S : Nat) : Int) := by grind
 rw [e2]
 exact k4
theorem over_q {X Y S : Nat} (hY : 0 < Y) : (((X * 2 ^ S : Nat) : Int) / ((Y * 2 ^ S : Nat) : Int)).toNat = X / Y := by
 rw [← Int.natCast_ediv, Int.toNat_natCast, Nat.mul_div_mul_right _ _ (Nat.two_pow_pos S)]
theorem over_r {X Y S : Nat} (hY : 0 < Y) : (((X * 2 ^ S : Nat) : Int) % ((Y * 2 ^ S : Nat) : Int)) = ((X % Y * 2 ^ S : Nat) : Int) := by
 rw [← Int.natCast_emod, Nat.mul_mod_mul_right]
theorem over_s {R S : Nat} : (magI (limbs ((R * 2 ^ S : Nat) : Int).toNat) / 2 ^ S).toNat = R := by
 rw [Int.toNat_natCast, lea_x, Nat.mul_div_cancel _ (Nat.two_pow_pos S)]
theorem gd_mul {g d : Int} (hC : (cmpB .geq g 4294967296) = false) (h0 : 0 ≤ g) (hd : 0 ≤ d ∧ d < 4294967296) : IntKind.u64.wrap (g * d) = g * d := by
 have hg : g < 4294967296 := by simp [cmpB] at hC; omega
 have h1 : g * d ≤ 4294967295 * 4294967295 := Int.mul_le_mul (by omega) (by omega) hd.1 (by omega)
 exact wr64 (Int.mul_nonneg h0 hd.1) (by omega)
theorem over_lt {X Y : Nat} (h : cmpB .lss (cmpN X Y) 0 = true) : X < Y := by
 have h1 : cmpN X Y < 0 := by simpa [cmpB] using h
 unfold cmpN at h1
 split at h1
 ·assumption
 ·split at h1 <;> omega
theorem over_ge {X Y : Nat} (h : cmpB .lss (cmpN X Y) 0 = false) : ¬ X < Y := fun hl => by
 have h1 : ¬ cmpN X Y < 0 := by simpa [cmpB] using h
 unfold cmpN at h1
 rw [if_pos hl] at h1
 omega
theorem sh_mag (X S : Nat) : (magI (limbs X) * 2 ^ S).toNat = X * 2 ^ S := by
 rw [limbs_mag]
 have : (2 : Int) ^ S = ((2 ^ S : Nat) : Int) := by simp
 rw [this, ← Int.natCast_mul, Int.toNat_natCast]
theorem dig_one {a : Int} (h0 : 0 ≤ a) (h1 : a < 4294967296) : Dig [a] := fun z hz => by
 rw [List.mem_singleton.1 hz]
 exact ⟨h0, h1⟩
end Go.Bn
