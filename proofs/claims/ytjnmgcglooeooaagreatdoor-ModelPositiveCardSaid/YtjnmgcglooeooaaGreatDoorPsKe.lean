/-
 Strings. Names of numbers; places. Plain facts on whole numbers as lists of words. Calls that lay a number into new memory; appending to nothing. All that an exact dot product comes by is small.
-/
import Derived.Test.YtjnmgcglooeooaaGreatDoorPsKd
import Derived.Test.YtjnmgcglooeooaaGreatDoorPsKc
import Derived.Test.YtjnmgcglooeooaaGreatDoorPsKb
set_option linter.unusedVariables false
set_option linter.unusedSimpArgs false
namespace Go.Bn
open Go
abbrev strp (b : ByteArray) : SP := isv (.string b)
section ops
variable {P : Program} {n : Nat} {ops : Array Oper} {Γ : Facts} {ρ : Env} {δ : VEnv} {τ : List VR}
variable {d : Nat} {ty : TypeId} {pos : String} {af : Array Edge}
theorem op_sindex {x y : Operand} {T : TypeId} {k : IntKind} {z : Int} {s : ByteArray} {v : UInt8} (hT : P.underlying T = some .string) (hx : Lk Γ δ ρ x (strp s)) (hy : Lk Γ δ ρ y (isv (.int k z))) (h0 : 0 ≤ z) (hv : s[z.toNat]? = some v) :
  OpOK P n ops Γ ρ δ τ ⟨some d, .index T x y, ty, pos, af, none⟩ .no (.c (isv (.int .u8 (v.toNat : Int)))) dum :=
 ok_pure fun A c _ hr => by
  have h1 := (hr x _ (by simp [Op.operands]) hx).1
  have h2 := (hr y _ (by simp [Op.operands]) hy).1
  exact ⟨.int .u8 v.toNat, by simp [execOp, Instr.index, h1, h2, asIntOf, run_underlying hT, h0, hv], rfl, rfl⟩
end ops
end Go.Bn
namespace Go.Bn
open Go
section ops
variable {P : Program} {n : Nat} {ops : Array Oper} {Γ : Facts} {ρ : Env} {δ : VEnv} {τ : List VR}
variable {d : Nat} {ty : TypeId} {pos : String} {af : Array Edge}
theorem op_slice_n {x hi : Operand} {T E es eb : Nat} {k2 : IntKind} {h : Int} {m m' : Nat} {cells cells' : List SP} (ht : slT P T = some (E, es, eb)) (hx : Lk Γ δ ρ x (slc m es cells)) (hhi : Lk Γ δ ρ hi (isv (.int k2 h)))
  (h1 : 0 ≤ h) (h2 : h ≤ m) (hm : h = m') (hlen : cells'.length = m' * es) (hp : ∀ j p, nth cells' j = some p → nth cells j = some p) :
  OpOK P n ops Γ ρ δ τ ⟨some d, .slice T x none (some hi) none, ty, pos, af, none⟩ .no (.c (slc m' es cells')) dum :=
 ok_pure fun a c _ hr => by
  obtain ⟨hl, hv⟩ := hr x _ (by simp [Op.operands]) hx
  have hz2 := (hr hi _ (by simp [Op.operands]) hhi).1
  obtain ⟨hu, i, hi', hs, _⟩ := slT_u ht
  have hm' : h.toNat = m' := by omega
  rcases hv with ⟨h3, h4⟩ | ⟨ad, cap, h3, h4, h5, h6⟩
  ·subst h4
   have hh0 : h = 0 := by omega
   subst hh0
   have hm0 : m' = 0 := by omega
   subst hm0
   refine ⟨.slice none 0 0, ?_, hlen, .inl ⟨rfl, rfl⟩⟩
   simp [execOp, Instr.sliceAt, Instr.slice, run_underlying hu, h3, hz2, Instr.sliceBounds, Instr.sliceBound, asIntOf, sizeOf, typeInfo, hi']
  ·have c1 : h ≤ (cap : Int) := by omega
   refine ⟨.slice (some ad) m' cap, ?_, hlen, .inr ⟨ad, cap, rfl, by omega, h5, ?_⟩⟩
   ·by_cases hc : cap = 0
    ·simp [execOp, Instr.sliceAt, Instr.slice, run_underlying hu, h3, hz2, Instr.sliceBounds, Instr.sliceBound, asIntOf, sizeOf, typeInfo, hi', hs, c1, h1, hc, hm']
     omega
    ·simp [execOp, Instr.sliceAt, Instr.slice, run_underlying hu, h3, hz2, Instr.sliceBounds, Instr.sliceBound, asIntOf, sizeOf, typeInfo, hi', hs, c1, h1, hc, hm']
     rcases ad with ⟨b, off, x⟩
     rfl
   ·rcases h6 with h6 | ⟨b, off, ha, h6, cur, U, fz, h7, h8⟩
    ·exact .inl (by omega)
    ·exact .inr ⟨b, off, ha, h6, cur, U, fz, h7, fun j p hj => h8 _ p (hp j p hj)⟩
end ops
end Go.Bn
namespace Go.Bn
open Go
def magI : List Int → Int
 | [] => 0
 | x :: l => x + 4294967296 * magI l
def Dig (l : List Int) : Prop := ∀ z, z ∈ l → 0 ≤ z ∧ z < 4294967296
def wpw (k : Nat) : Int := 4294967296 ^ k
theorem wpw_zero : wpw 0 = 1 := rfl
theorem wpw_succ (k : Nat) : wpw (k + 1) = 4294967296 * wpw k := by unfold wpw; rw [Int.pow_succ, Int.mul_comm]
theorem wpw_pos : ∀ k : Nat, 1 ≤ wpw k
 | 0 => by rw [wpw_zero]; omega
 | k + 1 => by have := wpw_pos k; rw [wpw_succ]; omega
theorem wpw_add (a b : Nat) : wpw (a + b) = wpw a * wpw b := by unfold wpw; exact Int.pow_add ..
theorem magI_append : ∀ l m : List Int, magI (l ++ m) = magI l + wpw l.length * magI m
 | [], m => by simp [magI, wpw_zero]
 | x :: l, m => by
  rw [List.cons_append, magI, magI_append l m, magI, List.length_cons, wpw_succ, Int.mul_add, Int.mul_assoc]
  omega
theorem magI_one (z : Int) : magI [z] = z := by simp [magI]
theorem magI_snoc (l : List Int) (z : Int) : magI (l ++ [z]) = magI l + wpw l.length * z := by rw [magI_append, magI_one]
theorem Dig.tail {x : Int} {l : List Int} (h : Dig (x :: l)) : Dig l := fun z hz => h z (List.mem_cons_of_mem _ hz)
theorem Dig.head {x : Int} {l : List Int} (h : Dig (x :: l)) : 0 ≤ x ∧ x < 4294967296 := h x (List.mem_cons_self ..)
theorem Dig.at {l : List Int} (h : Dig l) {k : Nat} (hk : k < l.length) : 0 ≤ l.getD k 0 ∧ l.getD k 0 < 4294967296 := h _ (mem_getD 0 hk)
theorem Dig.take {l : List Int} (h : Dig l) (k : Nat) : Dig (l.take k) := fun z hz => h z (List.mem_of_mem_take hz)
theorem Dig.drop {l : List Int} (h : Dig l) (k : Nat) : Dig (l.drop k) := fun z hz => h z (List.mem_of_mem_drop hz)
theorem Dig.set {l : List Int} (h : Dig l) {k : Nat} {v : Int} (hv : 0 ≤ v ∧ v < 4294967296) : Dig (l.set k v) := fun z hz => by
 rcases List.mem_or_eq_of_mem_set hz with h1 | h1
 ·exact h z h1
 ·rw [h1]; exact hv
theorem dig_nil : Dig [] := fun z hz => by cases hz
theorem dig_rep (n : Nat) : Dig (List.replicate n 0) := fun z hz => by rw [(List.mem_replicate.1 hz).2]; omega
theorem magI_rep : ∀ n : Nat, magI (List.replicate n 0) = 0
 | 0 => rfl
 | n + 1 => by rw [List.replicate_succ, magI, magI_rep n]; omega
theorem magI_nonneg : ∀ {l : List Int}, Dig l → 0 ≤ magI l
 | [], _ => by simp [magI]
 | x :: l, h => by have := magI_nonneg h.tail; have := h.head; rw [magI]; omega
theorem magI_lt : ∀ {l : List Int}, Dig l → magI l < wpw l.length
 | [], _ => by simp [magI, wpw_zero]
 | x :: l, h => by have := magI_lt h.tail; have := h.head; rw [magI, List.length_cons, wpw_succ]; omega
def limbs (n : Nat) : List Int := if h : n = 0 then [] else ((n % 4294967296 : Nat) : Int) :: limbs (n / 4294967296)
termination_by n
decreasing_by exact Nat.div_lt_self (by omega) (by omega)
theorem limbs_zero : limbs 0 = [] := by rw [limbs]; simp
theorem limbs_pos {n : Nat} (h : n ≠ 0) : limbs n = ((n % 4294967296 : Nat) : Int) :: limbs (n / 4294967296) := by rw [limbs]; simp [h]
theorem limbs_dig : ∀ n : Nat, Dig (limbs n) := by
 intro n
 induction n using Nat.strongRecOn with
 | _ n ih =>
  by_cases h : n = 0
  ·rw [h, limbs_zero]; exact dig_nil
  ·rw [limbs_pos h]
   intro z hz
   rcases List.mem_cons.1 hz with rfl | hz
   ·omega
   ·exact ih _ (Nat.div_lt_self (by omega) (by omega)) z hz
theorem limbs_mag : ∀ n : Nat, magI (limbs n) = n := by
 intro n
 induction n using Nat.strongRecOn with
 | _ n ih =>
  by_cases h : n = 0
  ·rw [h, limbs_zero]; rfl
  ·rw [limbs_pos h, magI, ih _ (Nat.div_lt_self (by omega) (by omega))]
   omega
theorem limbs_len0 {n : Nat} : (limbs n).length = 0 ↔ n = 0 := by
 constructor
 ·intro h
  have := limbs_mag n
  rw [List.length_eq_zero_iff.1 h, magI] at this
  omega
 ·rintro rfl; rw [limbs_zero]; rfl
def Tight (l : List Int) : Prop := l = [] ∨ l.getD (l.length - 1) 0 ≠ 0
theorem tight_tail {x y : Int} {l : List Int} (h : Tight (x :: y :: l)) : Tight (y :: l) := by
 rcases h with h | h
 ·cases h
 ·right
  simpa [List.getD] using h
theorem limbs_of : ∀ {l : List Int}, Dig l → Tight l → limbs (magI l).toNat = l
  | [], _, _ => by simp [magI, limbs_zero]
  | [x], hd, ht => by
    have h1 := hd.head
    have h2 : x ≠ 0 := by rcases ht with h | h; · cases h
                          · simpa using h
    rw [magI_one, limbs_pos (by omega), show x.toNat / 4294967296 = 0 by omega, limbs_zero]
    congr 1; omega
  | x :: y :: l, hd, ht => by
    have ih := limbs_of hd.tail (tight_tail ht)
    have h1 := hd.head
    have h3 := magI_nonneg hd.tail
    have h4 : (magI (y :: l)).toNat ≠ 0 := by
      intro e
      rw [e, limbs_zero] at ih
      cases ih
    rw [magI]
    generalize magI (y :: l) = m at *
    rw [limbs_pos (by omega), show (x + 4294967296 * m).toNat / 4294967296 = m.toNat by omega, ih]
    congr 1; omega
theorem limbs_tight (n : Nat) : Tight (limbs n) := by
 induction n using Nat.strongRecOn with
 | _ n ih =>
  by_cases h : n = 0
  ·left; rw [h, limbs_zero]
  ·right
   have ih2 := ih _ (Nat.div_lt_self (show 0 < n by omega) (show 1 < 4294967296 by omega))
   rw [limbs_pos h]
   by_cases h2 : n / 4294967296 = 0
   ·rw [h2, limbs_zero]
    simp [List.getD]
    omega
   ·rcases ih2 with h3 | h3
    ·have := limbs_len0 (n := n / 4294967296)
     rw [h3] at this
     simp at this
     omega
    ·have hl : 0 < (limbs (n / 4294967296)).length := by
      rcases Nat.eq_zero_or_pos (limbs (n / 4294967296)).length with h4 | h4
      ·exact absurd (limbs_len0.1 h4) h2
      ·exact h4
     rw [List.length_cons, show (limbs (n / 4294967296)).length + 1 - 1 = ((limbs (n / 4294967296)).length - 1) + 1 by omega]
     simpa [List.getD] using h3
theorem take_last {l : List Int} {k : Nat} (hk : k < l.length) : l.take (k + 1) = l.take k ++ [l.getD k 0] := take_snoc 0 hk
theorem cut_step {l : List Int} {k : Nat} (hk : k < l.length) (hz : l.getD k 0 = 0) : magI (l.take k) = magI (l.take (k + 1)) := by
 rw [take_last hk, magI_snoc, hz]; omega
theorem getD_take_last {l : List Int} {k : Nat} (hk : k < l.length) : (l.take (k + 1)).getD k 0 = l.getD k 0 := by
 simp [List.getD, List.getElem?_take, hk]
theorem cut_done {l : List Int} {k : Nat} (hd : Dig l) (hk : k ≤ l.length) (hm : magI (l.take k) = magI l) (h : k = 0 ∨ l.getD (k - 1) 0 ≠ 0) : l.take k = limbs (magI l).toNat := by
 rw [← hm]
 refine (limbs_of (hd.take k) ?_).symm
 by_cases h0 : k = 0
 ·left; rw [h0]; rfl
 ·right
  rcases h with h | h
  ·exact absurd h h0
  ·have e : (l.take k).length = k := by rw [List.length_take]; omega
   rw [e]
   obtain ⟨j, rfl⟩ : ∃ j, k = j + 1 := ⟨k - 1, by omega⟩
   rw [show j + 1 - 1 = j by omega] at h ⊢
   rw [getD_take_last (by omega)]
   exact h
structure PluI (a b l : List Int) (k : Nat) (c : Int) : Prop where
 hk : k ≤ a.length
 hl : l.length = a.length + 1
 hd : Dig l
 hc : 0 ≤ c ∧ c ≤ 1
 hm : magI (l.take k) + wpw k * c = magI (a.take k) + magI (b.take k)
theorem plu_zero {a b : List Int} {m : Nat} (hm : m = a.length + 1) : PluI a b (List.replicate m 0) 0 0 := by
 subst hm
 exact ⟨Nat.zero_le _, by rw [List.length_replicate], dig_rep _, by omega, by simp [magI]⟩
theorem set_take {l : List Int} {k : Nat} {v : Int} (hk : k < l.length) : (l.set k v).take (k + 1) = l.take k ++ [v] := by
 rw [take_snoc 0 (by rw [List.length_set]; exact hk)]
 congr 1
 ·rw [List.take_set_of_le (Nat.le_refl k)]
 ·simp [List.getD, hk]
theorem magI_set {l : List Int} {k : Nat} {v : Int} (hk : k < l.length) : magI ((l.set k v).take (k + 1)) = magI (l.take k) + wpw k * v := by
 rw [set_take hk, magI_snoc, List.length_take, Nat.min_eq_left (by omega)]
theorem magI_take {l : List Int} {k : Nat} (hk : k < l.length) : magI (l.take (k + 1)) = magI (l.take k) + wpw k * l.getD k 0 := by
 rw [take_last hk, magI_snoc, List.length_take, Nat.min_eq_left (by omega)]
theorem magI_take_all {l : List Int} {k : Nat} (hk : l.length ≤ k) : l.take k = l := List.take_of_length_le hk
theorem plu_step {a b l : List Int} {k : Nat} {c s : Int} (ha : Dig a) (hb : Dig b) (h : PluI a b l k c) (hk : k < a.length) (hs : s = a.getD k 0 + c + (if k < b.length then b.getD k 0 else 0)) : PluI a b (l.set k (s % 4294967296)) (k + 1) (s / 4294967296) := by
 obtain ⟨h1, h2, h3, h4, h5⟩ := h
 have g1 := ha.at hk
 have g2 : 0 ≤ (if k < b.length then b.getD k 0 else 0) ∧ (if k < b.length then b.getD k 0 else 0) < 4294967296 := by
  split
  ·rename_i g; exact hb.at g
  ·omega
 refine ⟨by omega, by rw [List.length_set]; exact h2, h3.set (by omega), by omega, ?_⟩
 have e1 : magI (b.take (k + 1)) = magI (b.take k) + wpw k * (if k < b.length then b.getD k 0 else 0) := by
  split
  ·rename_i g; exact magI_take g
  ·rename_i g
   rw [magI_take_all (show b.length ≤ k + 1 by omega), magI_take_all (show b.length ≤ k by omega)]
   omega
 rw [magI_set (by omega), magI_take hk, e1, wpw_succ]
 generalize (if k < b.length then b.getD k 0 else 0) = y at *
 have e2 : wpw k * (s % 4294967296) + 4294967296 * wpw k * (s / 4294967296) = wpw k * s := by
  have := Int.emod_add_mul_ediv s 4294967296
  rw [Int.mul_comm 4294967296 (wpw k), Int.mul_assoc, ← Int.mul_add, this]
 have e3 : wpw k * s = wpw k * a.getD k 0 + wpw k * c + wpw k * y := by rw [hs, Int.mul_add, Int.mul_add]
 omega
theorem plu_done {a b l : List Int} {k : Nat} {c : Int} (hab : b.length ≤ a.length) (h : PluI a b l k c) (hk : k = a.length) : Dig (l.set a.length c) ∧ magI (l.set a.length c) = magI a + magI b := by
 obtain ⟨h1, h2, h3, h4, h5⟩ := h
 subst hk
 refine ⟨h3.set (by omega), ?_⟩
 have e := magI_set (l := l) (v := c) (show a.length < l.length by omega)
 rw [magI_take_all (by rw [List.length_set]; omega)] at e
 rw [e, h5, magI_take_all (Nat.le_refl _), magI_take_all hab]
end Go.Bn
namespace Go.Bn
open Go
structure MinI (a b l : List Int) (k : Nat) (c : Int) : Prop where
 hk : k ≤ a.length
 hl : l.length = a.length
 hd : Dig l
 hc : 0 ≤ c ∧ c ≤ 1
 hm : magI (l.take k) = magI (a.take k) - magI (b.take k) + wpw k * c
theorem min_zero {a b : List Int} {m : Nat} (hm : m = a.length) : MinI a b (List.replicate m 0) 0 0 := by
 subst hm
 exact ⟨Nat.zero_le _, by rw [List.length_replicate], dig_rep _, by omega, by simp [magI]⟩
def digB (b : List Int) (k : Nat) : Int := if k < b.length then b.getD k 0 else 0
theorem digB_rng {b : List Int} (hb : Dig b) (k : Nat) : 0 ≤ digB b k ∧ digB b k < 4294967296 := by
 unfold digB
 split
 ·rename_i g; exact hb.at g
 ·omega
theorem digB_take (b : List Int) (k : Nat) : magI (b.take (k + 1)) = magI (b.take k) + wpw k * digB b k := by
 unfold digB
 split
 ·rename_i g; exact magI_take g
 ·rename_i g
  rw [magI_take_all (show b.length ≤ k + 1 by omega), magI_take_all (show b.length ≤ k by omega)]
  omega
theorem min_step {a b l : List Int} {k : Nat} {c v c' : Int} (ha : Dig a) (hb : Dig b) (h : MinI a b l k c) (hk : k < a.length) (hc : c' = 0 ∨ c' = 1) (hv : 0 ≤ v ∧ v < 4294967296) (he : v = a.getD k 0 - (c + digB b k) + 4294967296 * c') : MinI a b (l.set k v) (k + 1) c' := by
 obtain ⟨h1, h2, h3, h4, h5⟩ := h
 refine ⟨by omega, by rw [List.length_set]; exact h2, h3.set hv, by omega, ?_⟩
 rw [magI_set (by omega), magI_take hk, digB_take, wpw_succ, h5]
 have e : wpw k * v = wpw k * a.getD k 0 - (wpw k * c + wpw k * digB b k) + 4294967296 * wpw k * c' := by
  rw [he, Int.mul_add, Int.mul_sub, Int.mul_add, Int.mul_comm 4294967296 (wpw k), Int.mul_assoc]
 omega
theorem min_done {a b l : List Int} {k : Nat} {c : Int} (ha : Dig a) (hb : Dig b) (hab : b.length ≤ a.length) (hle : magI b ≤ magI a) (h : MinI a b l k c) (hk : k = a.length) : Dig l ∧ magI l = magI a - magI b := by
 obtain ⟨h1, h2, h3, h4, h5⟩ := h
 subst hk
 rw [magI_take_all (by omega), magI_take_all (Nat.le_refl _), magI_take_all hab] at h5
 have h6 := magI_lt h3
 rw [h2] at h6
 have h7 : c = 0 := by
  rcases (show c = 0 ∨ c = 1 by omega) with h | h
  ·exact h
  ·subst h; omega
 subst h7
 exact ⟨h3, by omega⟩
theorem magI_split {l : List Int} {j : Nat} (hj : j < l.length) : magI l = magI (l.take j) + wpw j * (l.getD j 0 + 4294967296 * magI (l.drop (j + 1))) := by
 have e : l = l.take j ++ (l.getD j 0 :: l.drop (j + 1)) := by
  rw [List.getD, List.getElem?_eq_getElem hj, Option.getD_some, ← List.drop_eq_getElem_cons hj, List.take_append_drop]
 conv => lhs; rw [e]
 rw [magI_append, magI, List.length_take, Nat.min_eq_left (by omega)]
theorem mag_less {a b : List Int} {j : Nat} (ha : Dig a) (hb : Dig b) (hja : j < a.length) (hjb : j < b.length) (hd : a.drop (j + 1) = b.drop (j + 1)) (hlt : a.getD j 0 < b.getD j 0) : magI a < magI b := by
 have h1 := magI_lt (ha.take j)
 rw [List.length_take, Nat.min_eq_left (by omega)] at h1
 have h2 := magI_nonneg (hb.take j)
 rw [magI_split hja, magI_split hjb, hd]
 have h3 : wpw j * (a.getD j 0 + 1 + 4294967296 * magI (b.drop (j + 1))) ≤ wpw j * (b.getD j 0 + 4294967296 * magI (b.drop (j + 1))) := Int.mul_le_mul_of_nonneg_left (by omega) (by have := wpw_pos j; omega)
 rw [show a.getD j 0 + 1 + 4294967296 * magI (b.drop (j + 1)) = (a.getD j 0 + 4294967296 * magI (b.drop (j + 1))) + 1 by omega, Int.mul_add, Int.mul_one] at h3
 omega
theorem wpw_mono {a b : Nat} (h : a ≤ b) : wpw a ≤ wpw b := by
 obtain ⟨d, rfl⟩ : ∃ d, b = a + d := ⟨b - a, by omega⟩
 rw [wpw_add]
 have h1 := wpw_pos a
 have h2 := wpw_pos d
 have := Int.mul_le_mul_of_nonneg_left (show (1 : Int) ≤ wpw d by omega) (show (0 : Int) ≤ wpw a by omega)
 omega
theorem tight_ge {l : List Int} (hd : Dig l) (ht : Tight l) (h0 : 0 < l.length) : wpw (l.length - 1) ≤ magI l := by
 rcases ht with ht | ht
 ·rw [ht] at h0; simp at h0
 ·have h1 := hd.at (k := l.length - 1) (by omega)
  have h2 := magI_nonneg (hd.take (l.length - 1))
  have h3 := magI_nonneg (hd.drop (l.length - 1 + 1))
  rw [magI_split (l := l) (j := l.length - 1) (by omega)]
  have h4 := wpw_pos (l.length - 1)
  have h5 := Int.mul_le_mul_of_nonneg_left (show (1 : Int) ≤ l.getD (l.length - 1) 0 + 4294967296 * magI (l.drop (l.length - 1 + 1)) by omega) (show (0 : Int) ≤ wpw (l.length - 1) by omega)
  omega
theorem len_less {x y : Nat} (h : (limbs x).length < (limbs y).length) : x < y := by
 have h1 := magI_lt (limbs_dig x)
 have h2 := tight_ge (limbs_dig y) (limbs_tight y) (by omega)
 rw [limbs_mag] at h1 h2
 have h3 := wpw_mono (show (limbs x).length ≤ (limbs y).length - 1 by omega)
 omega
def cmpN (x y : Nat) : Int := if x < y then -1 else if y < x then 1 else 0
theorem cmpN_1 {x y : Nat} (h : (limbs x).length < (limbs y).length) : -1 = cmpN x y := by
 have := len_less h
 unfold cmpN; rw [if_pos this]
theorem cmpN_2 {x y : Nat} (h : (limbs y).length < (limbs x).length) : 1 = cmpN x y := by
 have := len_less h
 unfold cmpN; rw [if_neg (by omega), if_pos this]
def TopI (a b : List Int) (k : Nat) : Prop := k ≤ a.length ∧ a.drop k = b.drop k
theorem top_zero {a b : List Int} {k : Nat} (hl : a.length = b.length) (hk : k = a.length) : TopI a b k := ⟨by omega, by rw [List.drop_of_length_le (by omega), List.drop_of_length_le (by omega)]⟩
theorem top_step {a b : List Int} {k : Nat} (hl : a.length = b.length) (h : TopI a b (k + 1)) (h1 : ¬ a.getD k 0 < b.getD k 0) (h2 : ¬ b.getD k 0 < a.getD k 0) : TopI a b k := by
 obtain ⟨g1, g2⟩ := h
 refine ⟨by omega, ?_⟩
 have e : ∀ l : List Int, k < l.length → l.drop k = l.getD k 0 :: l.drop (k + 1) := fun l hl => by
  rw [List.getD, List.getElem?_eq_getElem hl, Option.getD_some, List.drop_eq_getElem_cons hl]
 rw [e a (by omega), e b (by omega), g2, show a.getD k 0 = b.getD k 0 by omega]
theorem cmpN_3 {x y k : Nat} (hl : (limbs x).length = (limbs y).length) (h : TopI (limbs x) (limbs y) (k + 1)) (h1 : (limbs x).getD k 0 < (limbs y).getD k 0) : -1 = cmpN x y := by
 obtain ⟨g1, g2⟩ := h
 have := mag_less (limbs_dig x) (limbs_dig y) (by omega) (by omega) g2 h1
 rw [limbs_mag, limbs_mag] at this
 unfold cmpN; rw [if_pos (by omega)]
theorem cmpN_4 {x y k : Nat} (hl : (limbs x).length = (limbs y).length) (h : TopI (limbs x) (limbs y) (k + 1)) (h1 : (limbs y).getD k 0 < (limbs x).getD k 0) : 1 = cmpN x y := by
 obtain ⟨g1, g2⟩ := h
 have := mag_less (limbs_dig y) (limbs_dig x) (by omega) (by omega) g2.symm h1
 rw [limbs_mag, limbs_mag] at this
 unfold cmpN; rw [if_neg (by omega), if_pos (by omega)]
theorem cmpN_5 {x y k : Nat} (h : TopI (limbs x) (limbs y) k) (hk : k = 0) : 0 = cmpN x y := by
 subst hk
 obtain ⟨_, g2⟩ := h
 rw [List.drop_zero, List.drop_zero] at g2
 have e := congrArg magI g2
 rw [limbs_mag, limbs_mag] at e
 unfold cmpN; rw [if_neg (by omega), if_neg (by omega)]
structure MulO (a b l : List Int) (i : Nat) : Prop where
 hi : i ≤ a.length
 hl : l.length = a.length + b.length
 hd : Dig l
 hm : magI (l.take (i + b.length)) = magI (a.take i) * magI b
structure MulJ (a b l0 l : List Int) (i k : Nat) (c : Int) : Prop where
 hk : k ≤ b.length
 hl : l.length = a.length + b.length
 hd : Dig l
 hc : 0 ≤ c ∧ c < 4294967296
 hs : ∀ j, i + k ≤ j → l.getD j 0 = l0.getD j 0
 hm : magI (l.take (i + k)) + wpw (i + k) * c = magI (l0.take (i + k)) + wpw i * (a.getD i 0 * magI (b.take k))
theorem mulO_zero {a b : List Int} {m : Nat} (hm : m = a.length + b.length) : MulO a b (List.replicate m 0) 0 := by
 subst hm
 refine ⟨Nat.zero_le _, by rw [List.length_replicate], dig_rep _, ?_⟩
 rw [List.take_replicate, magI_rep]
 simp [magI]
theorem mulJ_zero {a b l : List Int} {i : Nat} (h : MulO a b l i) : MulJ a b l l i 0 0 :=
 ⟨Nat.zero_le _, h.hl, h.hd, by omega, fun _ _ => rfl, by simp [magI]⟩
theorem mul_le {x y : Int} (hx : 0 ≤ x ∧ x < 4294967296) (hy : 0 ≤ y ∧ y < 4294967296) : 0 ≤ x * y ∧ x * y ≤ 18446744065119617025 := by
 have h1 := Int.mul_nonneg hx.1 hy.1
 have h2 : x * y ≤ 4294967295 * 4294967295 := Int.mul_le_mul (by omega) (by omega) hy.1 (by omega)
 omega
theorem mulJ_step {a b l0 l : List Int} {i k : Nat} {c t : Int} (ha : Dig a) (hb : Dig b) (h : MulJ a b l0 l i k c) (hi : i < a.length) (hk : k < b.length) (hl0 : l0.length = a.length + b.length) (ht : t = a.getD i 0 * b.getD k 0 + l.getD (i + k) 0 + c) : MulJ a b l0 (l.set (i + k) (t % 4294967296)) i (k + 1) (t / 4294967296) := by
 obtain ⟨h1, h2, h3, h4, h5, h6⟩ := h
 have g1 := ha.at hi
 have g2 := hb.at hk
 have g3 := h3.at (k := i + k) (by omega)
 have g4 := mul_le g1 g2
 refine ⟨by omega, by rw [List.length_set]; exact h2, h3.set (by omega), by omega, fun j hj => ?_, ?_⟩
 ·rw [← h5 j (by omega)]
  have : i + k ≠ j := by omega
  simp [List.getD, List.getElem?_set, this]
 ·rw [show i + (k + 1) = i + k + 1 by omega, magI_set (by omega), magI_take (l := l0) (by omega), magI_take hk, wpw_succ, ← h5 (i + k) (Nat.le_refl _)]
  have e2 : wpw (i + k) * (t % 4294967296) + 4294967296 * wpw (i + k) * (t / 4294967296) = wpw (i + k) * t := by
   have := Int.emod_add_mul_ediv t 4294967296
   rw [Int.mul_comm 4294967296 (wpw (i + k)), Int.mul_assoc, ← Int.mul_add, this]
  have e3 : wpw (i + k) * t = wpw (i + k) * (a.getD i 0 * b.getD k 0) + wpw (i + k) * l.getD (i + k) 0 + wpw (i + k) * c := by rw [ht, Int.mul_add, Int.mul_add]
  have e4 : wpw i * (a.getD i 0 * (magI (b.take k) + wpw k * b.getD k 0)) = wpw i * (a.getD i 0 * magI (b.take k)) + wpw (i + k) * (a.getD i 0 * b.getD k 0) := by
   rw [Int.mul_add, Int.mul_add, wpw_add, Int.mul_left_comm (a.getD i 0) (wpw k), Int.mul_assoc (wpw i) (wpw k)]
  rw [e4]
  omega
theorem mulO_step {a b l0 l : List Int} {i k : Nat} {c : Int} (h0 : MulO a b l0 i) (h : MulJ a b l0 l i k c) (hi : i < a.length) (hk : k = b.length) : MulO a b (l.set (i + b.length) c) (i + 1) := by
 obtain ⟨h1, h2, h3, h4, h5, h6⟩ := h
 subst hk
 refine ⟨by omega, by rw [List.length_set]; exact h2, h3.set h4, ?_⟩
 rw [show i + 1 + b.length = i + b.length + 1 by omega, magI_set (by omega), h6, h0.hm, magI_take hi, magI_take_all (Nat.le_refl b.length), Int.add_mul, Int.mul_assoc]
theorem mulO_done {a b l : List Int} {i : Nat} (h : MulO a b l i) (hi : i = a.length) : Dig l ∧ magI l = magI a * magI b := by
 subst hi
 have := h.hm
 rw [magI_take_all (by rw [h.hl]; exact Nat.le_refl _), magI_take_all (Nat.le_refl _)] at this
 exact ⟨h.hd, this⟩
end Go.Bn
namespace Go.Bn
open Go
section ops
variable {P : Program} {n : Nat} {ops : Array Oper} {Γ : Facts} {ρ : Env} {δ : VEnv} {τ : List VR}
variable {d : Nat} {ty : TypeId} {pos : String} {af : Array Edge}
theorem op_slice_mn {α : Type} {mk : α → SP} {xs : List α} {x hi : Operand} {T E eb : Nat} {k2 : IntKind} {h : Int} (ht : slT P T = some (E, 1, eb)) (hx : Lk Γ δ ρ x (slm mk xs)) (hhi : Lk Γ δ ρ hi (isv (.int k2 h))) (h1 : 0 ≤ h) (h2 : h ≤ xs.length) :
  OpOK P n ops Γ ρ δ τ ⟨some d, .slice T x none (some hi) none, ty, pos, af, none⟩ .no (.c (slm mk (xs.take h.toNat))) dum := by
 have e1 : (xs.take h.toNat).length = h.toNat := by rw [List.length_take]; omega
 refine op_slice_n (m := (xs.map mk).length) (m' := ((xs.take h.toNat).map mk).length) (cells := xs.map mk) (cells' := (xs.take h.toNat).map mk) ht hx hhi h1 (by rw [List.length_map]; exact h2) (by rw [List.length_map]; omega) (by rw [Nat.mul_one]) fun j p hj => ?_
 rw [nth_eq] at hj ⊢
 rw [List.getElem?_map, List.getElem?_take] at hj
 rw [List.getElem?_map]
 split at hj
 ·exact hj
 ·cases hj
end ops
theorem wr64 {z : Int} (h0 : 0 ≤ z) (h1 : z < 18446744073709551616) : IntKind.u64.wrap z = z := by rw [wu64]; omega
theorem wr32 (z : Int) : IntKind.u32.wrap z = z % 4294967296 := by simp [IntKind.wrap, IntKind.bits, IntKind.signed]
theorem wr32s {z : Int} (h0 : 0 ≤ z) (h1 : z < 4294967296) : IntKind.u32.wrap z = z := by rw [wr32]; omega
theorem shr32 (z : Int) : z.fdiv (2 ^ min (32 : Int).toNat IntKind.u64.bits) = z / 4294967296 := by
 show z.fdiv 4294967296 = z / 4294967296
 exact Int.fdiv_eq_ediv_of_nonneg z (by omega)
theorem cut_take {l : List Int} {k : Nat} {h : Int} (hk : k ≤ l.length) (h0 : 0 < k) (hh : h = ((l.take k).length : Int) - 1) : (l.take k).take h.toNat = l.take (k - 1) := by
 have e : (l.take k).length = k := by rw [List.length_take]; omega
 rw [e] at hh
 rw [List.take_take, show min h.toNat k = k - 1 by omega]
theorem cut_at {l : List Int} {k : Nat} (hk : k ≤ l.length) (h0 : 0 < k) : (l.take k).getD (((l.take k).length : Int) - 1).toNat 0 = l.getD (k - 1) 0 := by
 have e : (l.take k).length = k := by rw [List.length_take]; omega
 rw [e]
 obtain ⟨j, rfl⟩ : ∃ j, k = j + 1 := ⟨k - 1, by omega⟩
 rw [show (((j + 1 : Nat) : Int) - 1).toNat = j by omega, getD_take_last (by omega)]
 rfl
theorem cut_exit {l : List Int} {k : Nat} (hk : k ≤ l.length) (h : (cmpB .gtr ((l.take k).length : Int) 0 && cmpB .eql ((l.take k).getD (((l.take k).length : Int) - 1).toNat 0) 0) = false) : k = 0 ∨ l.getD (k - 1) 0 ≠ 0 := by
 by_cases h0 : k = 0
 ·exact .inl h0
 ·right
  rw [cut_at hk (by omega)] at h
  have e : (l.take k).length = k := by rw [List.length_take]; omega
  rw [e] at h
  intro hz
  rw [hz] at h
  simp [cmpB] at h
  omega
theorem cut_again {l : List Int} {k : Nat} (hk : k ≤ l.length) (h : (cmpB .gtr ((l.take k).length : Int) 0 && cmpB .eql ((l.take k).getD (((l.take k).length : Int) - 1).toNat 0) 0) = true) : 0 < k ∧ l.getD (k - 1) 0 = 0 := by
 have e : (l.take k).length = k := by rw [List.length_take]; omega
 rw [Bool.and_eq_true] at h
 have h0 : 0 < k := by
  have := h.1
  rw [e] at this
  simp [cmpB] at this
  omega
 refine ⟨h0, ?_⟩
 have := h.2
 rw [cut_at hk h0] at this
 simpa [cmpB] using this
theorem cut_mag {l : List Int} {k : Nat} (hk : k ≤ l.length) (h0 : 0 < k) (hz : l.getD (k - 1) 0 = 0) (hm : magI (l.take k) = magI l) : magI (l.take (k - 1)) = magI l := by
 obtain ⟨j, rfl⟩ : ∃ j, k = j + 1 := ⟨k - 1, by omega⟩
 rw [show j + 1 - 1 = j by omega] at hz ⊢
 rw [cut_step (by omega) hz]
 exact hm
theorem dig_two {a b : Int} (ha : 0 ≤ a ∧ a < 4294967296) (hb : 0 ≤ b ∧ b < 4294967296) : Dig [a, b] := fun z hz => by
 rcases List.mem_cons.1 hz with rfl | hz
 ·exact ha
 ·rw [List.mem_singleton.1 hz]; exact hb
theorem words_mag {n : Nat} (hn : n < 18446744073709551616) : limbs (magI [(n : Int) % 4294967296, (n : Int) / 4294967296]).toNat = limbs n := by
 congr 1
 simp only [magI]
 omega
end Go.Bn
namespace Go.Bn
open Go
theorem plu_rng {a b : List Int} {k : Nat} {c s : Int} (ha : Dig a) (hb : Dig b) (hk : k < a.length) (hc : 0 ≤ c ∧ c ≤ 1) (hs : s = a.getD k 0 + c + (if k < b.length then b.getD k 0 else 0)) : 0 ≤ s ∧ s < 8589934592 := by
 have g1 := ha.at hk
 have g2 : 0 ≤ (if k < b.length then b.getD k 0 else 0) ∧ (if k < b.length then b.getD k 0 else 0) < 4294967296 := by
  split
  ·rename_i g; exact hb.at g
  ·omega
 omega
end Go.Bn
namespace Go.Bn
open Go
structure LefI (m l : List Int) (w : Nat) (p : Int) (i : Nat) : Prop where
 hi : i ≤ m.length
 hl : l.length = w + m.length + 1
 hd : Dig l
 hz : ∀ j, w + i < j → l.getD j 0 = 0
 hp : l.getD (w + i) 0 < p
 hm : magI (l.take (w + i + 1)) = wpw w * (p * magI (m.take i))
theorem lef_zero {m : List Int} {w n : Nat} {p : Int} (hn : n = w + m.length + 1) (hp : 1 ≤ p) : LefI m (List.replicate n 0) w p 0 := by
 subst hn
 have e : ∀ j, (List.replicate (w + m.length + 1) (0 : Int)).getD j 0 = 0 := fun j => by
  rw [List.getD, List.getElem?_replicate]; split <;> rfl
 refine ⟨Nat.zero_le _, by rw [List.length_replicate], dig_rep _, fun j _ => e j, by rw [e]; omega, ?_⟩
 rw [List.take_replicate, magI_rep]
 simp [magI]
theorem getD_set_ne {l : List Int} {i j : Nat} {v : Int} (h : i ≠ j) : (l.set i v).getD j 0 = l.getD j 0 := by
 simp [List.getD, List.getElem?_set, h]
theorem getD_set_eq {l : List Int} {i : Nat} {v : Int} (h : i < l.length) : (l.set i v).getD i 0 = v := by
 simp [List.getD, List.getElem?_set, h]
theorem lef_parts {x p q : Int} (hx : 0 ≤ x ∧ x < 4294967296) (hp : 1 ≤ p) (hq : 1 ≤ q) (hpq : p * q = 4294967296) : 0 ≤ (x * p) % 4294967296 ∧ (x * p) % 4294967296 ≤ 4294967296 - p ∧ 0 ≤ (x * p) / 4294967296 ∧ (x * p) / 4294967296 < p ∧ (x * p) % 4294967296 = p * (x % q) := by
 have e1 : (x * p) % 4294967296 = p * (x % q) := by rw [← hpq, Int.mul_comm x p, Int.mul_emod_mul_of_pos _ _ (by omega)]
 have e2 : (x * p) / 4294967296 = x / q := by rw [← hpq, Int.mul_comm x p, Int.mul_ediv_mul_of_pos _ _ (by omega)]
 have h1 := Int.emod_nonneg x (show q ≠ 0 by omega)
 have h2 := Int.emod_lt_of_pos x (show 0 < q by omega)
 have h3 : 0 ≤ p * (x % q) := Int.mul_nonneg (by omega) h1
 have h4 : p * (x % q + 1) ≤ p * q := Int.mul_le_mul_of_nonneg_left (by omega) (by omega)
 rw [Int.mul_add, Int.mul_one] at h4
 have h5 : 0 ≤ x / q := Int.ediv_nonneg hx.1 (by omega)
 have h6 : x / q < p := Int.ediv_lt_of_lt_mul (by omega) (by rw [hpq]; exact hx.2)
 rw [e1, e2]
 omega
theorem lef_step {m l : List Int} {w i : Nat} {p q x t : Int} (hm : Dig m) (h : LefI m l w p i) (hi : i < m.length) (hp : 1 ≤ p) (hq : 1 ≤ q) (hpq : p * q = 4294967296) (hx : x = m.getD i 0) (ht : t = x * p) :
  LefI m ((l.set (w + i) (l.getD (w + i) 0 + t % 4294967296)).set (w + i + 1) (t / 4294967296)) w p (i + 1) := by
 obtain ⟨h1, h2, h3, h4, h5, h6⟩ := h
 have g1 := hm.at hi
 rw [← hx] at g1
 obtain ⟨b1, b2, b3, b4, _⟩ := lef_parts g1 hp hq hpq
 rw [← ht] at b1 b2 b3 b4
 have g2 := h3.at (k := w + i) (by omega)
 have d1 : Dig (l.set (w + i) (l.getD (w + i) 0 + t % 4294967296)) := h3.set (by omega)
 refine ⟨by omega, by rw [List.length_set, List.length_set]; exact h2, d1.set (by omega), fun j hj => ?_, ?_, ?_⟩
 ·rw [getD_set_ne (by omega), getD_set_ne (by omega)]
  exact h4 j (by omega)
 ·rw [show w + (i + 1) = w + i + 1 by omega, getD_set_eq (by rw [List.length_set]; omega)]
  exact b4
 ·rw [show w + (i + 1) + 1 = w + i + 1 + 1 by omega, magI_set (by rw [List.length_set]; omega), magI_set (by omega)]
  rw [magI_take (show w + i < l.length by omega)] at h6
  have e2 : wpw (w + i) * (t % 4294967296) + wpw (w + i + 1) * (t / 4294967296) = wpw (w + i) * t := by
   have := Int.emod_add_mul_ediv t 4294967296
   rw [wpw_succ, Int.mul_comm 4294967296 (wpw (w + i)), Int.mul_assoc, ← Int.mul_add, this]
  have e3 : wpw w * (p * magI (m.take (i + 1))) = wpw w * (p * magI (m.take i)) + wpw (w + i) * t := by
   rw [magI_take hi, ← hx, ht, Int.mul_add, Int.mul_add, wpw_add, Int.mul_assoc (wpw w) (wpw i), Int.mul_comm x p, Int.mul_left_comm p (wpw i)]
  rw [e3, ← h6, Int.mul_add]
  omega
theorem lef_done {m l : List Int} {w i : Nat} {p : Int} (h : LefI m l w p i) (hi : i = m.length) : Dig l ∧ magI l = wpw w * (p * magI m) := by
 subst hi
 have := h.hm
 rw [magI_take_all (by rw [h.hl]; exact Nat.le_refl _), magI_take_all (Nat.le_refl _)] at this
 exact ⟨h.hd, this⟩
theorem bits_or32 (a b : Nat) (ha : a < 2 ^ 32) (hb : b < 2 ^ 32) : bitsOf .or .u32 a b = ((a ||| b : Nat) : Int) := by
 have hab : a ||| b < 2 ^ 32 := Nat.or_lt_two_pow ha hb
 have e1 : (BitVec.ofInt 32 (a : Int)).toNat = a := by simp [BitVec.toNat_ofInt]; omega
 have e2 : (BitVec.ofInt 32 (b : Int)).toNat = b := by simp [BitVec.toNat_ofInt]; omega
 have e3 : bitsOf .or .u32 a b = IntKind.u32.wrap (((BitVec.ofInt 32 (a : Int)) ||| (BitVec.ofInt 32 (b : Int))).toNat : Int) := rfl
 rw [e3, BitVec.toNat_or, e1, e2, wr32]
 omega
theorem or_low {L lo p y : Int} {s : Nat} (hs : p = 2 ^ s) (h0 : 0 ≤ L) (h1 : L < p) (hlo : lo = p * y) (hy : 0 ≤ y) (hb : L + lo < 4294967296) : bitsOf .or .u32 L lo = L + lo := by
 obtain ⟨L', rfl⟩ : ∃ n : Nat, L = n := ⟨L.toNat, by omega⟩
 obtain ⟨y', rfl⟩ : ∃ n : Nat, y = n := ⟨y.toNat, by omega⟩
 have hp : p = ((2 ^ s : Nat) : Int) := by rw [hs]; simp
 have e : lo = ((2 ^ s * y' : Nat) : Int) := by rw [hlo, hp, Int.natCast_mul]
 rw [e] at hb ⊢
 rw [hp] at h1
 rw [bits_or32 _ _ (by omega) (by omega), Nat.or_comm, ← Nat.two_pow_add_eq_or_of_lt (by omega)]
 omega
theorem pow_32 {s : Nat} (hs : s < 32) : (1 : Int) ≤ 2 ^ s ∧ (1 : Int) ≤ 2 ^ (32 - s) ∧ (2 : Int) ^ s * 2 ^ (32 - s) = 4294967296 ∧ (2 : Int) ^ s ≤ 2147483648 := by
 have : ∀ s : Nat, s < 32 → (1 : Int) ≤ 2 ^ s ∧ (1 : Int) ≤ 2 ^ (32 - s) ∧ (2 : Int) ^ s * 2 ^ (32 - s) = 4294967296 ∧ (2 : Int) ^ s ≤ 2147483648 := by decide +kernel
 exact this s hs
theorem wpw_two (w s : Nat) : wpw w * 2 ^ s = 2 ^ (32 * w + s) := by
 unfold wpw
 rw [Int.pow_add, Int.pow_mul]
 rfl
theorem limbs_len {x k : Nat} (h : (x : Int) < wpw k) : (limbs x).length ≤ k := by
 rcases Nat.eq_zero_or_pos (limbs x).length with h0 | h0
 ·omega
 ·have h1 := tight_ge (limbs_dig x) (limbs_tight x) h0
  rw [limbs_mag] at h1
  by_cases hc : (limbs x).length ≤ k
  ·exact hc
  ·have := wpw_mono (show k ≤ (limbs x).length - 1 by omega)
   omega
end Go.Bn
namespace Go.Bn
open Go
theorem quo32 (n : Nat) (h : n < 18446744073709551616) : IntKind.u64.wrap ((n : Int).tdiv 32) = ((n / 32 : Nat) : Int) := by
 rw [Int.tdiv_eq_ediv_of_nonneg (by omega), wr64 (by omega) (by omega)]
 omega
theorem rem32 (n : Nat) : (n : Int).tmod 32 = ((n % 32 : Nat) : Int) := by
 rw [Int.tmod_eq_emod_of_nonneg (by omega)]
 omega
theorem shl64 {x : Int} {s : Nat} (hx : 0 ≤ x ∧ x < 4294967296) (hs : s < 32) : IntKind.u64.wrap (x * 2 ^ min ((s : Nat) : Int).toNat IntKind.u64.bits) = x * 2 ^ s := by
 obtain ⟨h1, h2, h3, h4⟩ := pow_32 hs
 have e : min ((s : Nat) : Int).toNat IntKind.u64.bits = s := by
  show min s 64 = s
  omega
 rw [e]
 have h5 := Int.mul_nonneg hx.1 (show (0 : Int) ≤ 2 ^ s by omega)
 have h6 : x * 2 ^ s ≤ 4294967295 * 2147483648 := Int.mul_le_mul (by omega) h4 (by omega) (by omega)
 exact wr64 h5 (by omega)
theorem lef_val (n : Nat) (M : Int) : wpw (n / 32) * (2 ^ (n % 32) * M) = M * 2 ^ n := by
 rw [← Int.mul_assoc, wpw_two, show 32 * (n / 32) + n % 32 = n by omega, Int.mul_comm]
theorem lef_or {m l : List Int} {w i s : Nat} {x t : Int} (hs : s < 32) (hm : Dig m) (h : LefI m l w (2 ^ s) i) (hi : i < m.length) (hx : x = m.getD i 0) (ht : t = x * 2 ^ s) : bitsOf .or .u32 (l.getD (w + i) 0) (t % 4294967296) = l.getD (w + i) 0 + t % 4294967296 := by
 obtain ⟨h1, h2, h3, h4⟩ := pow_32 hs
 have g1 := hm.at hi
 rw [← hx] at g1
 obtain ⟨b1, b2, b3, b4, b5⟩ := lef_parts g1 h1 h2 h3
 rw [← ht] at b1 b2 b3 b4 b5
 have g2 := h.hd.at (k := w + i) (by have := h.hl; omega)
 have g3 := h.hp
 exact or_low rfl g2.1 g3 b5 (Int.emod_nonneg x (by omega)) (by omega)
end Go.Bn
namespace Go.Bn
open Go
section ops
variable {P : Program} {n : Nat} {ops : Array Oper} {Γ : Facts} {ρ : Env} {δ : VEnv} {τ : List VR}
variable {d : Nat} {ty : TypeId} {pos : String} {af : Array Edge}
theorem op_append_nil {α : Type} {mk : α → SP} {ys : List α} {x y : Operand} {T E eb : Nat} {zs : List Value} (ht : slT P T = some (E, 1, eb)) (hz : zrT P E = some zs) (hzl : Nat.beq zs.length 1 = true) (hx : Lk Γ δ ρ x (isv (.slice none 0 0))) (hy : Lk Γ δ ρ y (slm mk ys)) (h63 : ys.length ≤ 9223372036854775807) (hb : ys.length * eb ≤ 140737488355328) :
  OpOK P n ops Γ ρ δ τ ⟨some d, .call ⟨.builtin .append, #[x, y], #[T, T]⟩, ty, pos, af, none⟩ .no (.c (slm mk ys)) dum := by
 refine ok_newp fun a c hwf hf hr => ?_
 have hv := (hr x _ (by simp [Op.operands, Call.operands]) hx).1
 have hyv := hr y _ (by simp [Op.operands, Call.operands]) hy
 obtain ⟨hu, i, hi, hsz, hbb⟩ := slT_u ht
 unfold zrT at hz
 rw [hi] at hz
 simp only [Option.bind_some] at hz
 cases hzz : i.zero with
 | none => rw [hzz] at hz; cases hz
 | some z =>
  rw [hzz] at hz
  simp only [Option.map_some, Option.some.injEq] at hz
  have hzs : z.cells.size = 1 := by
   have : zs.length = 1 := Nat.eq_of_beq_eq_true hzl
   rw [← hz] at this
   simpa using this
  have hyv' : (slc ys.length 1 (ys.map mk)).H (a.eval y) c := by
   have := hyv
   unfold slm slp at this
   rw [List.length_map] at this
   exact this
  obtain ⟨nsv, ad, cc, hyx, hnl, hncell, hnone, hnCL⟩ := slc_cells hyv'
  have hex : ∀ v' w', (Builtin.append_ #[T, T] ty #[a.eval x, a.eval y]).run P c.w = .ok v' w' → (execOp a.eval ⟨some d, .call ⟨.builtin .append, #[x, y], #[T, T]⟩, ty, pos, af, none⟩).run P c.w = .ok (.value v') w' := fun v' w' g1 => by
   simp only [execOp, resolve, invoke, builtin, Sem.run_bind, Sem.run_pure, Result.andThen_ok, List.map_toArray, List.map_cons, List.map_nil, g1]
  by_cases hm0 : ys.length = 0
  ·refine ⟨a.eval x, .inl ⟨hex _ _ ?_, ?_⟩⟩
   ·rw [hv]
    rcases hyx with hyx | ⟨hyx, _⟩ <;> rw [hyx] <;> simp [Builtin.append_, run_underlying hu, sizeOf, typeInfo, hi, Builtin.lenOf, Builtin.firstCells, loadCells, loadCellsFrom, storeCells, hm0]
   ·have : ys = [] := List.eq_nil_of_length_eq_zero hm0
    subst this
    exact ⟨rfl, .inl ⟨hv, rfl⟩⟩
  ·obtain ⟨v', w', g1, g2⟩ := run_app (P := P) (ty := ty) (E := E) (T := T) (m := 0) c.w hu hi hzz hsz hbb hzs (by omega) #[] 0 0 (.inl ⟨hv, rfl, rfl⟩) nsv ad cc hyx hnl hncell hnone (by omega) (by rw [Nat.zero_add]; exact hb)
   rcases g2 with ⟨h1, _⟩ | ⟨_, h1, _⟩ | ⟨cap', rest, h1, h2, h3, h4, h5⟩
   ·exact (hm0 h1).elim
   ·omega
   ·subst h4
    refine ⟨v', .inr ⟨c.w.drawn + 1, _, E, hex _ _ g1, fun c' hle hm' hh' => ?_⟩⟩
    rw [Nat.zero_add] at h1 h2
    refine ⟨by simp, .inr ⟨_, cap', by rw [h1, List.length_map], by rw [List.length_map]; exact h2, h3, .inr ⟨_, 0, rfl, hm', _, E, (0, 0), hh', ?_⟩⟩⟩
    have e : ((#[] : Array Value).toList.take (0 * 1)).toArray ++ nsv.toArray ++ rest = ([] ++ nsv ++ rest.toList).toArray := by
     apply Array.ext'; simp
    rw [e]
    have h0 : CL [] (([] : List Value)).toArray 0 c := fun j p hj => by simp [nth] at hj
    exact (CL_append h0 hnCL rfl (by rw [hnl, List.length_map, Nat.mul_one])).st hle
theorem op_callMp {f s : Nat} {xs xs' : List Operand} {ps : List SP} {cells cells' : List SP} {T' : TypeId} {ats : Array TypeId} (k : Nat) (hy : getV δ ρ s = some (ptrAt s)) (hk : nth τ k = some (blkAt s cells T')) (hf : ∀ u : Value, CtM P f (ipo u 0 :: ps) (blk u cells T') (ipo u 0) (blk u cells' T')) (hxs : xs = .tmp s :: xs') (hx : LkL Γ δ ρ xs' ps) :
  OpOK P n ops Γ ρ δ τ ⟨some d, .call ⟨.value (.func f), xs.toArray, ats⟩, ty, pos, af, none⟩ (.wr k) (ptrAt d) (blkAt d cells' T') := by
 intro a c ob hs hwf hfa hr hres hno hown
 obtain ⟨r0, hr0, hh⟩ := hres k rfl
 rw [hk] at hr0
 cases hr0
 have hh' : (blk (vl a s) cells T').H c ob := hh
 have hp : (ipo (vl a s) 0).H (a.eval (.tmp s)) c := hr s (List.mem_append_left _ (List.mem_filterMap.2 ⟨.tmp s, by simp [Op.operands, Call.operands, hxs], rfl⟩)) _ hy
 have hv0 := hx.val (a := a) (c := c) fun x q hx' hq => Lk.val (o := ⟨some d, .call ⟨.value (.func f), xs.toArray, ats⟩, ty, pos, af, none⟩) hr hfa (by simp [Op.operands, Call.operands, hxs, hx']) hq
 have hv : HL (ipo (vl a s) 0 :: ps) (xs.map a.eval) c := by rw [hxs]; exact ⟨hp, hv0⟩
 simp only [Region.wanted, if_true]
 unfold Does
 have hex : (execOp a.eval ⟨some d, .call ⟨.value (.func f), xs.toArray, ats⟩, ty, pos, af, none⟩).run P c.w = .ok (.enter f (xs.map a.eval).toArray) c.w := by
  have h1 := run_callFunc (hf (vl a s)).1 (xs.map a.eval).toArray c.w
  simp [execOp, resolve, Deferred.ofValue, Act.eval, invoke, h1]
 rw [hex]
 refine ((hf (vl a s)).2 _ c ob hwf ⟨hfa.2, hv⟩ hh' fun b hb => (hown b hb).1).mono fun e w' ⟨v, he, hxm, hR, hr'⟩ => ⟨v, he, ⟨w', c.M⟩, ob, rfl, ?_, ?_, fun _ => ?_⟩
 ·exact ⟨hxm.os, hxm.tape, hxm.out, hxm.size, fun j hj hne => hxm.heap j hj (hne rfl), fun _ _ => ⟨id, .inl⟩, .inl rfl, fun j hj => Nat.lt_of_lt_of_le (hwf j hj) hxm.size⟩
 ·obtain ⟨b, cur, g1, g2, _⟩ := hr'
  obtain ⟨b', g3, g4⟩ := hR
  rw [g1] at g3
  have hvb : v = .pointer (some ⟨b, 0, none⟩) := by
   rcases g3 with g3 | ⟨_, _, g3⟩
   ·cases g3; exact g4
   ·cases g3
  simp only [ptrAt, VE.at, upd_eq]
  exact ⟨b, .inl hvb, hvb⟩
 ·have hr2 := hr'
  obtain ⟨b, cur, g1, g2, _⟩ := hr'
  obtain ⟨b', g3, g4⟩ := hR
  rw [g1] at g3
  have hvb : v = vl a s := by
   rw [g1]
   rcases g3 with g3 | ⟨_, _, g3⟩
   ·cases g3; exact g4
   ·cases g3
  simp only [blkAt, VR.at, upd_eq]
  rw [hvb]
  exact hr2
theorem op_beql {x y : Operand} {t t' : TypeId} {a b : Bool} (hT : P.underlying t = some .bool) (hx : Lk Γ δ ρ x (isv (.bool a))) (hy : Lk Γ δ ρ y (isv (.bool b))) :
  OpOK P n ops Γ ρ δ τ ⟨some d, .binOp .eql t x y t', ty, pos, af, none⟩ .no (.c (isv (.bool (a == b)))) dum :=
 ok_pure fun A c _ hr => by
  have h1 := (hr x _ (by simp [Op.operands]) hx).1
  have h2 := (hr y _ (by simp [Op.operands]) hy).1
  refine ⟨.bool (a == b), ?_, rfl, rfl⟩
  have hrun := run_eql_bool (P := P) c.w t a b hT
  simp [execOp, eqGuard, h1, h2, hrun]
theorem op_nilo {x : Operand} {base : Value} {off : Nat} (hx : Lk Γ δ ρ x (ipo base off)) : OpOK P n ops Γ ρ δ τ ⟨some d, .nilCheck x, ty, pos, af, none⟩ .no (.c (ipo base off)) dum :=
 ok_pure fun a c _ hr => by
  have hv := hr x _ (by simp [Op.operands]) hx
  obtain ⟨b, _, h2⟩ := hv
  exact ⟨a.eval x, by simp [execOp, h2], hr x _ (by simp [Op.operands]) hx⟩
theorem op_nilp {x : Operand} {cells : List SP} (hx : Lk Γ δ ρ x (ptp cells)) : OpOK P n ops Γ ρ δ τ ⟨some d, .nilCheck x, ty, pos, af, none⟩ .no (.c (ptp cells)) dum :=
 ok_pure fun a c _ hr => by
  have hv := hr x _ (by simp [Op.operands]) hx
  obtain ⟨b, off, cur, T, fz, h2, _⟩ := hv
  exact ⟨a.eval x, by simp [execOp, h2], hr x _ (by simp [Op.operands]) hx⟩
end ops
end Go.Bn
namespace Go.Bn
open Go
abbrev intC (z : Int) : List SP := [isv (.bool (decide (z < 0))), ils .u32 (limbs z.natAbs)]
abbrev intP (z : Int) : SP := ptp (intC z)
def sgnI (b : Bool) (M : Nat) : Int := if b then -(M : Int) else (M : Int)
theorem sgnI_abs (b : Bool) (M : Nat) : (sgnI b M).natAbs = M := by unfold sgnI; split <;> omega
theorem mag_nat (n : Nat) : (magI (limbs n)).toNat = n := by rw [limbs_mag]; omega
theorem put_cells (b : Bool) (M : Nat) : [isv (.bool (b && cmpB .gtr (((limbs M).length : Nat) : Int) 0)), ils .u32 (limbs M)] = intC (sgnI b M) := by
 have e : (b && cmpB .gtr (((limbs M).length : Nat) : Int) 0) = decide (sgnI b M < 0) := by
  have h := limbs_len0 (n := M)
  unfold sgnI
  by_cases h0 : M = 0
  ·subst h0
   rw [h.2 rfl]
   cases b <;> decide
  ·have h1 : (limbs M).length ≠ 0 := fun e => h0 (h.1 e)
   cases b
   ·simp
   ·simp [cmpB]; omega
 rw [e]
 show _ = [_, ils .u32 (limbs (sgnI b M).natAbs)]
 rw [sgnI_abs]
structure Sml (x : Int) : Prop where
 h : ((x.natAbs : Nat) : Int) < wpw 4000
theorem sml_len {x : Int} (h : Sml x) : (limbs x.natAbs).length ≤ 1000000 := Nat.le_trans (limbs_len h.h) (by omega)
theorem sum_1 {x y : Int} {t : Bool} (h : (decide (x < 0) == (decide (y < 0) != t)) = true) : sgnI (decide (y < 0) != t) (x.natAbs + y.natAbs) = x + sgnI t 1 * y := by
 unfold sgnI
 by_cases hx : x < 0 <;> by_cases hy : y < 0 <;> cases t <;> simp [hx, hy] at h ⊢ <;> omega
theorem sum_2 {x y : Int} {t : Bool} (h : (decide (x < 0) == (decide (y < 0) != t)) = false) (hle : y.natAbs ≤ x.natAbs) : sgnI (decide (x < 0)) (x.natAbs - y.natAbs) = x + sgnI t 1 * y := by
 unfold sgnI
 by_cases hx : x < 0 <;> by_cases hy : y < 0 <;> cases t <;> simp [hx, hy] at h ⊢ <;> omega
theorem sum_3 {x y : Int} {t : Bool} (h : (decide (x < 0) == (decide (y < 0) != t)) = false) (hle : x.natAbs ≤ y.natAbs) : sgnI (decide (y < 0) != t) (y.natAbs - x.natAbs) = x + sgnI t 1 * y := by
 unfold sgnI
 by_cases hx : x < 0 <;> by_cases hy : y < 0 <;> cases t <;> simp [hx, hy] at h ⊢ <;> omega
theorem neg_1 {x : Int} : sgnI (!decide (x < 0)) x.natAbs = -x := by
 unfold sgnI
 by_cases hx : x < 0 <;> simp [hx] <;> omega
theorem mul_1 {x y : Int} : sgnI (decide (x < 0) != decide (y < 0)) (x.natAbs * y.natAbs) = x * y := by
 have e : ((x.natAbs * y.natAbs : Nat) : Int) = (x.natAbs : Int) * (y.natAbs : Int) := Int.natCast_mul ..
 unfold sgnI
 by_cases hx : x < 0 <;> by_cases hy : y < 0 <;> simp [hx, hy]
 ·rw [show (x.natAbs : Int) = -x by omega, show (y.natAbs : Int) = -y by omega, Int.neg_mul_neg]
 ·rw [show (x.natAbs : Int) = -x by omega, show (y.natAbs : Int) = y by omega, Int.neg_mul, Int.neg_neg]
 ·rw [show (x.natAbs : Int) = x by omega, show (y.natAbs : Int) = -y by omega, Int.mul_neg, Int.neg_neg]
 ·rw [show (x.natAbs : Int) = x by omega, show (y.natAbs : Int) = y by omega]
theorem shl_1 {x : Int} {n : Nat} : sgnI (decide (x < 0)) (x.natAbs * 2 ^ n) = x * 2 ^ n := by
 have e : ((x.natAbs * 2 ^ n : Nat) : Int) = (x.natAbs : Int) * 2 ^ n := by rw [Int.natCast_mul]; simp
 unfold sgnI
 by_cases hx : x < 0 <;> simp [hx]
 ·rw [show (x.natAbs : Int) = -x by omega, Int.neg_mul, Int.neg_neg]
 ·rw [show (x.natAbs : Int) = x by omega]
def signI (z : Int) : Int := if z < 0 then -1 else if z = 0 then 0 else 1
theorem mag_add (x y : Nat) : (magI (limbs x) + magI (limbs y)).toNat = x + y := by rw [limbs_mag, limbs_mag]; omega
theorem mag_sub {x y : Nat} (h : y ≤ x) : (magI (limbs x) - magI (limbs y)).toNat = x - y := by rw [limbs_mag, limbs_mag]; omega
theorem mag_mul (x y : Nat) : (magI (limbs x) * magI (limbs y)).toNat = x * y := by rw [limbs_mag, limbs_mag, ← Int.natCast_mul]; omega
theorem mag_shl (x n : Nat) : (magI (limbs x) * 2 ^ n).toNat = x * 2 ^ n := by
 rw [limbs_mag]
 have e : (x : Int) * 2 ^ n = ((x * 2 ^ n : Nat) : Int) := by rw [Int.natCast_mul]; simp
 rw [e]; omega
theorem cmpN_le {x y : Nat} (h : 0 ≤ cmpN x y) : y ≤ x := by
 unfold cmpN at h
 split at h
 ·omega
 ·split at h <;> omega
theorem cmpN_gt {x y : Nat} (h : ¬ 0 ≤ cmpN x y) : x ≤ y := by
 unfold cmpN at h
 split at h
 ·omega
 ·split at h <;> omega
theorem len_le {x y : Nat} (h : y ≤ x) : (limbs y).length ≤ (limbs x).length := by
 by_cases hc : (limbs y).length ≤ (limbs x).length
 ·exact hc
 ·have := len_less (x := x) (y := y) (by omega); omega
theorem mag_le {x y : Nat} (h : y ≤ x) : magI (limbs y) ≤ magI (limbs x) := by rw [limbs_mag, limbs_mag]; omega
end Go.Bn
namespace Go.Bn
open Go
structure Exa where
 m : Int
 e : Int
abbrev exaP (x : Exa) : SP := aggp [intP x.m, isv (.int .i64 x.e)]
def Exa.neg (x : Exa) : Exa := ⟨-x.m, x.e⟩
def Exa.mul (x y : Exa) : Exa := ⟨x.m * y.m, x.e + y.e⟩
def Exa.low (x : Exa) (e : Int) : Exa := if x.e ≤ e then x else ⟨x.m * 2 ^ (x.e - e).toNat, e⟩
def Exa.add (x y : Exa) : Exa := if x.m = 0 then y else if y.m = 0 then x else ⟨(x.low (min x.e y.e)).m + (y.low (min x.e y.e)).m, min x.e y.e⟩
def Exa.zero : Exa := ⟨0, 0⟩
structure Exb (x : Exa) : Prop where
 h : Sml x.m
 e0 : -1000000 ≤ x.e
 e1 : x.e ≤ 1000000
def tz (m : Nat) : Nat := if h : m = 0 then 0 else if m % 2 = 0 then tz (m / 2) + 1 else 0
termination_by m
decreasing_by exact Nat.div_lt_self (by omega) (by omega)
theorem tz_odd {m : Nat} (h : ¬ m % 2 = 0) : tz m = 0 := by rw [tz]; simp [h]
theorem tz_even {m : Nat} (h0 : m ≠ 0) (h : m % 2 = 0) : tz m = tz (m / 2) + 1 := by rw [tz]; simp [h0, h]
structure OddI (m k : Nat) : Prop where
 h0 : m ≠ 0
 ht : tz m = k + tz (m / 2 ^ k)
 hm : m / 2 ^ k * 2 ^ k = m
theorem odd_zero {m : Nat} (h : m ≠ 0) : OddI m 0 := ⟨h, by simp, by simp⟩
theorem odd_step {m k : Nat} (h : OddI m k) (he : (m / 2 ^ k) % 2 = 0) : OddI m (k + 1) := by
 obtain ⟨h0, ht, hm⟩ := h
 have hn : m / 2 ^ k ≠ 0 := by
  intro e
  rw [e] at hm
  omega
 have e1 : m / 2 ^ (k + 1) = m / 2 ^ k / 2 := by rw [Nat.pow_succ, Nat.div_div_eq_div_mul]
 refine ⟨h0, ?_, ?_⟩
 ·rw [e1, ht, tz_even hn he]; omega
 ·rw [e1, Nat.pow_succ, Nat.mul_comm (2 ^ k) 2, ← Nat.mul_assoc, show m / 2 ^ k / 2 * 2 = m / 2 ^ k by omega, hm]
theorem odd_lt {m k : Nat} (h : OddI m k) (hm : m < 18446744073709551616) : k < 64 := by
 have h1 : m / 2 ^ k ≠ 0 := by
  intro e
  have := h.hm
  rw [e] at this
  have := h.h0
  omega
 have h2 : 2 ^ k ≤ m := by
  have h3 := Nat.mul_le_mul_right (2 ^ k) (Nat.pos_of_ne_zero h1)
  rw [h.hm] at h3
  omega
 by_cases hk : k < 64
 ·exact hk
 ·have : 2 ^ 64 ≤ 2 ^ k := Nat.pow_le_pow_right (by omega) (by omega)
  omega
theorem odd_done {m k : Nat} (h : OddI m k) (ho : ¬ (m / 2 ^ k) % 2 = 0) : k = tz m := by rw [h.ht, tz_odd ho]; rfl
def oddM (m : Nat) : Nat := if m = 0 then 0 else m / 2 ^ tz m
def oddE (m : Nat) (e : Int) : Int := if m = 0 then 0 else e + tz m
end Go.Bn
namespace Go.Bn
open Go
theorem sgnI_nat (n : Nat) : sgnI (cmpB .lss (n : Int) 0) n = n := by
 unfold sgnI
 rw [if_neg (by simp [cmpB])]
theorem tmod2 (d : Nat) : ((d : Nat) : Int).tmod 2 = 0 ↔ d % 2 = 0 := by
 rw [Int.tmod_eq_emod_of_nonneg (by omega)]
 omega
theorem quo2 {d : Nat} (h : d < 18446744073709551616) : IntKind.u64.wrap (((d : Nat) : Int).tdiv 2) = ((d / 2 : Nat) : Int) := by
 rw [Int.tdiv_eq_ediv_of_nonneg (by omega), wr64 (by omega) (by omega)]
 omega
theorem div_lt {m k : Nat} (h : m < 18446744073709551616) : m / 2 ^ k < 18446744073709551616 := Nat.lt_of_le_of_lt (Nat.div_le_self _ _) h
end Go.Bn
namespace Go.Bn
open Go
theorem mgn_0 {x : Nat} (h : expo x = 0) : mgn x = frac x ∧ plc x = -1074 := by
 have hr : rung x / 4503599627370496 = 0 := by rw [← expo_rung]; exact h
 unfold mgn plc frac
 rw [if_pos (by omega), if_pos (by omega)]
 unfold rung at *
 omega
theorem mgn_1 {x : Nat} (h : 0 < expo x) : mgn x = frac x + 4503599627370496 ∧ plc x = (expo x : Int) - 1 - 1074 := by
 have hr : rung x / 4503599627370496 = expo x := (expo_rung x).symm
 unfold mgn plc frac
 rw [if_neg (by omega), if_neg (by omega), hr]
 have e : rung x % 4503599627370496 = x % 4503599627370496 := by unfold rung; omega
 rw [e]
 omega
theorem mgn_big {x : Nat} (h : 0 < expo x) : IntKind.u64.wrap (((frac x : Nat) : Int) + 4503599627370496) = ((mgn x : Nat) : Int) := by
 have h1 := (mgn_1 h).1
 have h2 := mgn_lt x
 rw [wr64 (by omega) (by omega)]
 omega
theorem sgn_top {x : Nat} (hx : x < 2 ^ 64) : cmpB .eql (((x / 2 ^ 63 : Nat)) : Int) 1 = sgn x := by
 unfold sgn cmpB
 have h1 : x / 9223372036854775808 < 2 := by omega
 rw [show (2 : Nat) ^ 63 = 9223372036854775808 by decide]
 generalize x / 9223372036854775808 = d at *
 have : d = 0 ∨ d = 1 := by omega
 rcases this with rfl | rfl <;> rfl
theorem oddM_le (m : Nat) : oddM m ≤ m := by
 unfold oddM
 split
 ·omega
 ·exact Nat.div_le_self _ _
def ofX (x : Nat) : Exa := ⟨if sgn x = true then -((oddM (mgn x) : Nat) : Int) else ((oddM (mgn x) : Nat) : Int), oddE (mgn x) (plc x)⟩
theorem sml_of {z : Int} (h : z.natAbs < 18446744073709551616) : Sml z := ⟨by
 have h1 : wpw 2 = 18446744073709551616 := by decide +kernel
 have h2 := wpw_mono (show 2 ≤ 4000 by omega)
 omega⟩
theorem ofX_small (x : Nat) : (ofX x).m.natAbs < 9007199254740992 := by
 have h1 := oddM_le (mgn x)
 have h2 := mgn_lt x
 unfold ofX
 show (if sgn x = true then -((oddM (mgn x) : Nat) : Int) else ((oddM (mgn x) : Nat) : Int)).natAbs < 9007199254740992
 split <;> omega
end Go.Bn
namespace Go.Bn
open Go
theorem pow_one_le (a : Nat) : (1 : Int) ≤ 2 ^ a := by
 induction a with
 | zero => decide
 | succ a ih => rw [Int.pow_succ]; omega
theorem tz_pow : ∀ m : Nat, m ≠ 0 → 2 ^ tz m ≤ m := by
 intro m
 induction m using Nat.strongRecOn with
 | _ m ih =>
  intro h0
  by_cases h : m % 2 = 0
  ·rw [tz_even h0 h, Nat.pow_succ]
   have := ih (m / 2) (Nat.div_lt_self (by omega) (by omega)) (by omega)
   omega
  ·rw [tz_odd h]
   simp
   omega
theorem tz_lt {m : Nat} (h0 : m ≠ 0) (h : m < 18446744073709551616) : tz m < 64 := by
 have h1 := tz_pow m h0
 by_cases hk : tz m < 64
 ·exact hk
 ·have : 2 ^ 64 ≤ 2 ^ tz m := Nat.pow_le_pow_right (by omega) (by omega)
  omega
theorem ofX_e {x : Nat} (hf : finB x = true) (hx : x < 2 ^ 64) : -1074 ≤ (ofX x).e ∧ (ofX x).e ≤ 1034 := by
 have hr := (finB_iff hx).1 hf
 have h1 := plc_ge x
 have h2 := plc_le hr
 have h3 := mgn_lt x
 show -1074 ≤ oddE (mgn x) (plc x) ∧ oddE (mgn x) (plc x) ≤ 1034
 unfold oddE
 split
 ·omega
 ·rename_i h0
  have := tz_lt h0 (by omega)
  omega
theorem ofX_exb {x : Nat} (hf : finB x = true) (hx : x < 2 ^ 64) : Exb (ofX x) := by
 obtain ⟨a1, a2⟩ := ofX_e hf hx
 have c1 := ofX_small x
 exact ⟨sml_of (by omega), by omega, by omega⟩
end Go.Bn
namespace Go.Bn
open Go
def xv (E : Nat) (x : Exa) : Int := x.m * 2 ^ (x.e + E).toNat
theorem tz_mul : ∀ m : Nat, m ≠ 0 → m / 2 ^ tz m * 2 ^ tz m = m := by
 intro m
 induction m using Nat.strongRecOn with
 | _ m ih =>
  intro h0
  by_cases h : m % 2 = 0
  ·have := ih (m / 2) (Nat.div_lt_self (by omega) (by omega)) (by omega)
   rw [tz_even h0 h, Nat.pow_succ, Nat.mul_comm (2 ^ tz (m / 2)) 2, ← Nat.div_div_eq_div_mul, Nat.mul_comm 2, ← Nat.mul_assoc, this]
   omega
  ·rw [tz_odd h]
   simp
def sval (x : Nat) : Int := if sgn x = true then -((vlu x : Nat) : Int) else ((vlu x : Nat) : Int)
theorem xv_of (x : Nat) : xv 1074 (ofX x) = sval x := by
 have hp := plc_ge x
 have key : ((oddM (mgn x) : Nat) : Int) * 2 ^ (oddE (mgn x) (plc x) + ((1074 : Nat) : Int)).toNat = ((vlu x : Nat) : Int) := by
  unfold oddM oddE vlu
  by_cases h0 : mgn x = 0
  ·rw [if_pos h0, h0, Nat.zero_mul]
   exact Int.zero_mul _
  ·rw [if_neg h0, if_neg h0, Int.natCast_mul]
   have h1 := tz_mul (mgn x) h0
   rw [show (plc x + (tz (mgn x) : Int) + ((1074 : Nat) : Int)).toNat = tz (mgn x) + (plc x + 1074).toNat by omega, Int.pow_add]
   conv => rhs; rw [← h1]
   rw [Int.natCast_mul]
   simp [Int.mul_assoc]
 show (if sgn x = true then -((oddM (mgn x) : Nat) : Int) else ((oddM (mgn x) : Nat) : Int)) * 2 ^ (oddE (mgn x) (plc x) + ((1074 : Nat) : Int)).toNat = sval x
 unfold sval
 split
 ·rw [Int.neg_mul, key]
 ·exact key
end Go.Bn
