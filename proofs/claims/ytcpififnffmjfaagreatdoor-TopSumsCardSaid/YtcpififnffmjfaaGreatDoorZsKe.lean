/-
 Strings. Names of numbers; places. Plain facts on whole numbers as lists of words. Calls that lay a number into new memory; appending to nothing. All that an exact dot product comes by is small.
-/
import Derived.Test.YtcpififnffmjfaaGreatDoorZsKd
import Derived.Test.YtcpififnffmjfaaGreatDoorZsKc
import Derived.Test.YtcpififnffmjfaaGreatDoorZsKb
set_option linter.unusedVariables false
set_option linter.unusedSimpArgs false
namespace Go.Bn
open Go
abbrev strp (b : ByteArray) : SP := isv (.string b)
section ops
variable {P : Program} {n : Nat} {ops : Array Oper} {Γ : Facts} {ρ : Env} {δ : VEnv} {τ : List VR}
variable {d : Nat} {ty : TypeId} {pos : String} {af : Array Edge}
theorem op_sindex {x y : Operand} {T : TypeId} {k : IntKind} {z : Int} {s : ByteArray} {v : UInt8} (hT : P.underlying T = some .string) (hx : Lk Γ δ ρ x (strp s)) (hy : Lk Γ δ ρ y (isv (.int k z))) (h0 : 0 ≤ z) (hv : s[z.toNat]? = some v) :
  OpOK P n ops Γ ρ δ τ ⟨some d, .index T x y, ty, pos, af, none⟩ .no (.c (isv (.int .u8 (v.toNat : Int)))) dum :=
 ok_pure fun A c _ hr => by
  have h1 := (hr x _ (by simp [Op.operands]) hx).1
  have h2 := (hr y _ (by simp [Op.operands]) hy).1
  exact ⟨.int .u8 v.toNat, by simp [execOp, Instr.index, h1, h2, asIntOf, run_underlying hT, h0, hv], rfl, rfl⟩
end ops
end Go.Bn
namespace Go.Bn
open Go
section ops
variable {P : Program} {n : Nat} {ops : Array Oper} {Γ : Facts} {ρ : Env} {δ : VEnv} {τ : List VR}
variable {d : Nat} {ty : TypeId} {pos : String} {af : Array Edge}
theorem op_slice_n {x hi : Operand} {T E es eb : Nat} {k2 : IntKind} {h : Int} {m m' : Nat} {cells cells' : List SP} (ht : slT P T = some (E, es, eb)) (hx : Lk Γ δ ρ x (slc m es cells)) (hhi : Lk Γ δ ρ hi (isv (.int k2 h)))
  (h1 : 0 ≤ h) (h2 : h ≤ m) (hm : h = m') (hlen : cells'.length = m' * es) (hp : ∀ j p, nth cells' j = some p → nth cells j = some p) :
  OpOK P n ops Γ ρ δ τ ⟨some d, .slice T x none (some hi) none, ty, pos, af, none⟩ .no (.c (slc m' es cells')) dum :=
 ok_pure fun a c _ hr => by
  obtain ⟨hl, hv⟩ := hr x _ (by simp [Op.operands]) hx
  have hz2 := (hr hi _ (by simp [Op.operands]) hhi).1
  obtain ⟨hu, i, hi', hs, _⟩ := slT_u ht
  have hm' : h.toNat = m' := by omega
  rcases hv with ⟨h3, h4⟩ | ⟨ad, cap, h3, h4, h5, h6⟩
  ·subst h4
   have hh0 : h = 0 := by omega
   subst hh0
   have hm0 : m' = 0 := by omega
   subst hm0
   refine ⟨.slice none 0 0, ?_, hlen, .inl ⟨rfl, rfl⟩⟩
   simp [execOp, Instr.sliceAt, Instr.slice, run_underlying hu, h3, hz2, Instr.sliceBounds, Instr.sliceBound, asIntOf, sizeOf, typeInfo, hi']
  ·have c1 : h ≤ (cap : Int) := by omega
   refine ⟨.slice (some ad) m' cap, ?_, hlen, .inr ⟨ad, cap, rfl, by omega, h5, ?_⟩⟩
   ·by_cases hc : cap = 0
    ·simp [execOp, Instr.sliceAt, Instr.slice, run_underlying hu, h3, hz2, Instr.sliceBounds, Instr.sliceBound, asIntOf, sizeOf, typeInfo, hi', hs, c1, h1, hc, hm']
     omega
    ·simp [execOp, Instr.sliceAt, Instr.slice, run_underlying hu, h3, hz2, Instr.sliceBounds, Instr.sliceBound, asIntOf, sizeOf, typeInfo, hi', hs, c1, h1, hc, hm']
     rcases ad with ⟨b, off, x⟩
     rfl
   ·rcases h6 with h6 | ⟨b, off, ha, h6, cur, U, fz, h7, h8⟩
    ·exact .inl (by omega)
    ·exact .inr ⟨b, off, ha, h6, cur, U, fz, h7, fun j p hj => h8 _ p (hp j p hj)⟩
end ops
end Go.Bn
namespace Go.Bn
open Go
def magI : List Int → Int
 | [] => 0
 | x :: l => x + 4294967296 * magI l
def Dig (l : List Int) : Prop := ∀ z, z ∈ l → 0 ≤ z ∧ z < 4294967296
def wpw (k : Nat) : Int := 4294967296 ^ k
theorem wpw_zero : wpw 0 = 1 := rfl
theorem wpw_succ (k : Nat) : wpw (k + 1) = 4294967296 * wpw k := by unfold wpw; rw [Int.pow_succ, Int.mul_comm]
theorem wpw_pos : ∀ k : Nat, 1 ≤ wpw k
 | 0 => by rw [wpw_zero]; omega
 | k + 1 => by have := wpw_pos k; rw [wpw_succ]; omega
theorem wpw_add (a b : Nat) : wpw (a + b) = wpw a * wpw b := by unfold wpw; exact Int.pow_add ..
theorem magI_append : ∀ l m : List Int, magI (l ++ m) = magI l + wpw l.length * magI m
 | [], m => by simp [magI, wpw_zero]
 | x :: l, m => by
  rw [List.cons_append, magI, magI_append l m, magI, List.length_cons, wpw_succ, Int.mul_add, Int.mul_assoc]
  omega
theorem Dig.tail {x : Int} {l : List Int} (h : Dig (x :: l)) : Dig l := fun z hz => h z (List.mem_cons_of_mem _ hz)
theorem Dig.head {x : Int} {l : List Int} (h : Dig (x :: l)) : 0 ≤ x ∧ x < 4294967296 := h x (List.mem_cons_self ..)
theorem Dig.at {l : List Int} (h : Dig l) {k : Nat} (hk : k < l.length) : 0 ≤ l.getD k 0 ∧ l.getD k 0 < 4294967296 := h _ (mem_getD 0 hk)
theorem Dig.take {l : List Int} (h : Dig l) (k : Nat) : Dig (l.take k) := fun z hz => h z (List.mem_of_mem_take hz)
theorem Dig.drop {l : List Int} (h : Dig l) (k : Nat) : Dig (l.drop k) := fun z hz => h z (List.mem_of_mem_drop hz)
theorem dig_nil : Dig [] := fun z hz => by cases hz
theorem magI_nonneg : ∀ {l : List Int}, Dig l → 0 ≤ magI l
 | [], _ => by simp [magI]
 | x :: l, h => by have := magI_nonneg h.tail; have := h.head; rw [magI]; omega
theorem magI_lt : ∀ {l : List Int}, Dig l → magI l < wpw l.length
 | [], _ => by simp [magI, wpw_zero]
 | x :: l, h => by have := magI_lt h.tail; have := h.head; rw [magI, List.length_cons, wpw_succ]; omega
def limbs (n : Nat) : List Int := if h : n = 0 then [] else ((n % 4294967296 : Nat) : Int) :: limbs (n / 4294967296)
termination_by n
decreasing_by exact Nat.div_lt_self (by omega) (by omega)
theorem limbs_zero : limbs 0 = [] := by rw [limbs]; simp
theorem limbs_pos {n : Nat} (h : n ≠ 0) : limbs n = ((n % 4294967296 : Nat) : Int) :: limbs (n / 4294967296) := by rw [limbs]; simp [h]
theorem limbs_dig : ∀ n : Nat, Dig (limbs n) := by
 intro n
 induction n using Nat.strongRecOn with
 | _ n ih =>
  by_cases h : n = 0
  ·rw [h, limbs_zero]; exact dig_nil
  ·rw [limbs_pos h]
   intro z hz
   rcases List.mem_cons.1 hz with rfl | hz
   ·omega
   ·exact ih _ (Nat.div_lt_self (by omega) (by omega)) z hz
theorem limbs_mag : ∀ n : Nat, magI (limbs n) = n := by
 intro n
 induction n using Nat.strongRecOn with
 | _ n ih =>
  by_cases h : n = 0
  ·rw [h, limbs_zero]; rfl
  ·rw [limbs_pos h, magI, ih _ (Nat.div_lt_self (by omega) (by omega))]
   omega
theorem limbs_len0 {n : Nat} : (limbs n).length = 0 ↔ n = 0 := by
 constructor
 ·intro h
  have := limbs_mag n
  rw [List.length_eq_zero_iff.1 h, magI] at this
  omega
 ·rintro rfl; rw [limbs_zero]; rfl
def Tight (l : List Int) : Prop := l = [] ∨ l.getD (l.length - 1) 0 ≠ 0
theorem limbs_tight (n : Nat) : Tight (limbs n) := by
 induction n using Nat.strongRecOn with
 | _ n ih =>
  by_cases h : n = 0
  ·left; rw [h, limbs_zero]
  ·right
   have ih2 := ih _ (Nat.div_lt_self (show 0 < n by omega) (show 1 < 4294967296 by omega))
   rw [limbs_pos h]
   by_cases h2 : n / 4294967296 = 0
   ·rw [h2, limbs_zero]
    simp [List.getD]
    omega
   ·rcases ih2 with h3 | h3
    ·have := limbs_len0 (n := n / 4294967296)
     rw [h3] at this
     simp at this
     omega
    ·have hl : 0 < (limbs (n / 4294967296)).length := by
      rcases Nat.eq_zero_or_pos (limbs (n / 4294967296)).length with h4 | h4
      ·exact absurd (limbs_len0.1 h4) h2
      ·exact h4
     rw [List.length_cons, show (limbs (n / 4294967296)).length + 1 - 1 = ((limbs (n / 4294967296)).length - 1) + 1 by omega]
     simpa [List.getD] using h3
theorem take_last {l : List Int} {k : Nat} (hk : k < l.length) : l.take (k + 1) = l.take k ++ [l.getD k 0] := take_snoc 0 hk
theorem getD_take_last {l : List Int} {k : Nat} (hk : k < l.length) : (l.take (k + 1)).getD k 0 = l.getD k 0 := by
 simp [List.getD, List.getElem?_take, hk]
theorem set_take {l : List Int} {k : Nat} {v : Int} (hk : k < l.length) : (l.set k v).take (k + 1) = l.take k ++ [v] := by
 rw [take_snoc 0 (by rw [List.length_set]; exact hk)]
 congr 1
 ·rw [List.take_set_of_le (Nat.le_refl k)]
 ·simp [List.getD, hk]
theorem magI_take_all {l : List Int} {k : Nat} (hk : l.length ≤ k) : l.take k = l := List.take_of_length_le hk
end Go.Bn
namespace Go.Bn
open Go
theorem magI_split {l : List Int} {j : Nat} (hj : j < l.length) : magI l = magI (l.take j) + wpw j * (l.getD j 0 + 4294967296 * magI (l.drop (j + 1))) := by
 have e : l = l.take j ++ (l.getD j 0 :: l.drop (j + 1)) := by
  rw [List.getD, List.getElem?_eq_getElem hj, Option.getD_some, ← List.drop_eq_getElem_cons hj, List.take_append_drop]
 conv => lhs; rw [e]
 rw [magI_append, magI, List.length_take, Nat.min_eq_left (by omega)]
theorem wpw_mono {a b : Nat} (h : a ≤ b) : wpw a ≤ wpw b := by
 obtain ⟨d, rfl⟩ : ∃ d, b = a + d := ⟨b - a, by omega⟩
 rw [wpw_add]
 have h1 := wpw_pos a
 have h2 := wpw_pos d
 have := Int.mul_le_mul_of_nonneg_left (show (1 : Int) ≤ wpw d by omega) (show (0 : Int) ≤ wpw a by omega)
 omega
theorem tight_ge {l : List Int} (hd : Dig l) (ht : Tight l) (h0 : 0 < l.length) : wpw (l.length - 1) ≤ magI l := by
 rcases ht with ht | ht
 ·rw [ht] at h0; simp at h0
 ·have h1 := hd.at (k := l.length - 1) (by omega)
  have h2 := magI_nonneg (hd.take (l.length - 1))
  have h3 := magI_nonneg (hd.drop (l.length - 1 + 1))
  rw [magI_split (l := l) (j := l.length - 1) (by omega)]
  have h4 := wpw_pos (l.length - 1)
  have h5 := Int.mul_le_mul_of_nonneg_left (show (1 : Int) ≤ l.getD (l.length - 1) 0 + 4294967296 * magI (l.drop (l.length - 1 + 1)) by omega) (show (0 : Int) ≤ wpw (l.length - 1) by omega)
  omega
def cmpN (x y : Nat) : Int := if x < y then -1 else if y < x then 1 else 0
def TopI (a b : List Int) (k : Nat) : Prop := k ≤ a.length ∧ a.drop k = b.drop k
theorem top_zero {a b : List Int} {k : Nat} (hl : a.length = b.length) (hk : k = a.length) : TopI a b k := ⟨by omega, by rw [List.drop_of_length_le (by omega), List.drop_of_length_le (by omega)]⟩
theorem top_step {a b : List Int} {k : Nat} (hl : a.length = b.length) (h : TopI a b (k + 1)) (h1 : ¬ a.getD k 0 < b.getD k 0) (h2 : ¬ b.getD k 0 < a.getD k 0) : TopI a b k := by
 obtain ⟨g1, g2⟩ := h
 refine ⟨by omega, ?_⟩
 have e : ∀ l : List Int, k < l.length → l.drop k = l.getD k 0 :: l.drop (k + 1) := fun l hl => by
  rw [List.getD, List.getElem?_eq_getElem hl, Option.getD_some, List.drop_eq_getElem_cons hl]
 rw [e a (by omega), e b (by omega), g2, show a.getD k 0 = b.getD k 0 by omega]
end Go.Bn
namespace Go.Bn
open Go
section ops
variable {P : Program} {n : Nat} {ops : Array Oper} {Γ : Facts} {ρ : Env} {δ : VEnv} {τ : List VR}
variable {d : Nat} {ty : TypeId} {pos : String} {af : Array Edge}
theorem op_slice_mn {α : Type} {mk : α → SP} {xs : List α} {x hi : Operand} {T E eb : Nat} {k2 : IntKind} {h : Int} (ht : slT P T = some (E, 1, eb)) (hx : Lk Γ δ ρ x (slm mk xs)) (hhi : Lk Γ δ ρ hi (isv (.int k2 h))) (h1 : 0 ≤ h) (h2 : h ≤ xs.length) :
  OpOK P n ops Γ ρ δ τ ⟨some d, .slice T x none (some hi) none, ty, pos, af, none⟩ .no (.c (slm mk (xs.take h.toNat))) dum := by
 have e1 : (xs.take h.toNat).length = h.toNat := by rw [List.length_take]; omega
 refine op_slice_n (m := (xs.map mk).length) (m' := ((xs.take h.toNat).map mk).length) (cells := xs.map mk) (cells' := (xs.take h.toNat).map mk) ht hx hhi h1 (by rw [List.length_map]; exact h2) (by rw [List.length_map]; omega) (by rw [Nat.mul_one]) fun j p hj => ?_
 rw [nth_eq] at hj ⊢
 rw [List.getElem?_map, List.getElem?_take] at hj
 rw [List.getElem?_map]
 split at hj
 ·exact hj
 ·cases hj
end ops
theorem wr64 {z : Int} (h0 : 0 ≤ z) (h1 : z < 18446744073709551616) : IntKind.u64.wrap z = z := by rw [wu64]; omega
end Go.Bn
namespace Go.Bn
open Go
theorem getD_set_ne {l : List Int} {i j : Nat} {v : Int} (h : i ≠ j) : (l.set i v).getD j 0 = l.getD j 0 := by
 simp [List.getD, List.getElem?_set, h]
theorem getD_set_eq {l : List Int} {i : Nat} {v : Int} (h : i < l.length) : (l.set i v).getD i 0 = v := by
 simp [List.getD, List.getElem?_set, h]
theorem wpw_two (w s : Nat) : wpw w * 2 ^ s = 2 ^ (32 * w + s) := by
 unfold wpw
 rw [Int.pow_add, Int.pow_mul]
 rfl
theorem limbs_len {x k : Nat} (h : (x : Int) < wpw k) : (limbs x).length ≤ k := by
 rcases Nat.eq_zero_or_pos (limbs x).length with h0 | h0
 ·omega
 ·have h1 := tight_ge (limbs_dig x) (limbs_tight x) h0
  rw [limbs_mag] at h1
  by_cases hc : (limbs x).length ≤ k
  ·exact hc
  ·have := wpw_mono (show k ≤ (limbs x).length - 1 by omega)
   omega
end Go.Bn
namespace Go.Bn
open Go
section ops
variable {P : Program} {n : Nat} {ops : Array Oper} {Γ : Facts} {ρ : Env} {δ : VEnv} {τ : List VR}
variable {d : Nat} {ty : TypeId} {pos : String} {af : Array Edge}
theorem op_append_nil {α : Type} {mk : α → SP} {ys : List α} {x y : Operand} {T E eb : Nat} {zs : List Value} (ht : slT P T = some (E, 1, eb)) (hz : zrT P E = some zs) (hzl : Nat.beq zs.length 1 = true) (hx : Lk Γ δ ρ x (isv (.slice none 0 0))) (hy : Lk Γ δ ρ y (slm mk ys)) (h63 : ys.length ≤ 9223372036854775807) (hb : ys.length * eb ≤ 140737488355328) :
  OpOK P n ops Γ ρ δ τ ⟨some d, .call ⟨.builtin .append, #[x, y], #[T, T]⟩, ty, pos, af, none⟩ .no (.c (slm mk ys)) dum := by
 refine ok_newp fun a c hwf hf hr => ?_
 have hv := (hr x _ (by simp [Op.operands, Call.operands]) hx).1
 have hyv := hr y _ (by simp [Op.operands, Call.operands]) hy
 obtain ⟨hu, i, hi, hsz, hbb⟩ := slT_u ht
 unfold zrT at hz
 rw [hi] at hz
 simp only [Option.bind_some] at hz
 cases hzz : i.zero with
 | none => rw [hzz] at hz; cases hz
 | some z =>
  rw [hzz] at hz
  simp only [Option.map_some, Option.some.injEq] at hz
  have hzs : z.cells.size = 1 := by
   have : zs.length = 1 := Nat.eq_of_beq_eq_true hzl
   rw [← hz] at this
   simpa using this
  have hyv' : (slc ys.length 1 (ys.map mk)).H (a.eval y) c := by
   have := hyv
   unfold slm slp at this
   rw [List.length_map] at this
   exact this
  obtain ⟨nsv, ad, cc, hyx, hnl, hncell, hnone, hnCL⟩ := slc_cells hyv'
  have hex : ∀ v' w', (Builtin.append_ #[T, T] ty #[a.eval x, a.eval y]).run P c.w = .ok v' w' → (execOp a.eval ⟨some d, .call ⟨.builtin .append, #[x, y], #[T, T]⟩, ty, pos, af, none⟩).run P c.w = .ok (.value v') w' := fun v' w' g1 => by
   simp only [execOp, resolve, invoke, builtin, Sem.run_bind, Sem.run_pure, Result.andThen_ok, List.map_toArray, List.map_cons, List.map_nil, g1]
  by_cases hm0 : ys.length = 0
  ·refine ⟨a.eval x, .inl ⟨hex _ _ ?_, ?_⟩⟩
   ·rw [hv]
    rcases hyx with hyx | ⟨hyx, _⟩ <;> rw [hyx] <;> simp [Builtin.append_, run_underlying hu, sizeOf, typeInfo, hi, Builtin.lenOf, Builtin.firstCells, loadCells, loadCellsFrom, storeCells, hm0]
   ·have : ys = [] := List.eq_nil_of_length_eq_zero hm0
    subst this
    exact ⟨rfl, .inl ⟨hv, rfl⟩⟩
  ·obtain ⟨v', w', g1, g2⟩ := run_app (P := P) (ty := ty) (E := E) (T := T) (m := 0) c.w hu hi hzz hsz hbb hzs (by omega) #[] 0 0 (.inl ⟨hv, rfl, rfl⟩) nsv ad cc hyx hnl hncell hnone (by omega) (by rw [Nat.zero_add]; exact hb)
   rcases g2 with ⟨h1, _⟩ | ⟨_, h1, _⟩ | ⟨cap', rest, h1, h2, h3, h4, h5⟩
   ·exact (hm0 h1).elim
   ·omega
   ·subst h4
    refine ⟨v', .inr ⟨c.w.drawn + 1, _, E, hex _ _ g1, fun c' hle hm' hh' => ?_⟩⟩
    rw [Nat.zero_add] at h1 h2
    refine ⟨by simp, .inr ⟨_, cap', by rw [h1, List.length_map], by rw [List.length_map]; exact h2, h3, .inr ⟨_, 0, rfl, hm', _, E, (0, 0), hh', ?_⟩⟩⟩
    have e : ((#[] : Array Value).toList.take (0 * 1)).toArray ++ nsv.toArray ++ rest = ([] ++ nsv ++ rest.toList).toArray := by
     apply Array.ext'; simp
    rw [e]
    have h0 : CL [] (([] : List Value)).toArray 0 c := fun j p hj => by simp [nth] at hj
    exact (CL_append h0 hnCL rfl (by rw [hnl, List.length_map, Nat.mul_one])).st hle
theorem op_callMp {f s : Nat} {xs xs' : List Operand} {ps : List SP} {cells cells' : List SP} {T' : TypeId} {ats : Array TypeId} (k : Nat) (hy : getV δ ρ s = some (ptrAt s)) (hk : nth τ k = some (blkAt s cells T')) (hf : ∀ u : Value, CtM P f (ipo u 0 :: ps) (blk u cells T') (ipo u 0) (blk u cells' T')) (hxs : xs = .tmp s :: xs') (hx : LkL Γ δ ρ xs' ps) :
  OpOK P n ops Γ ρ δ τ ⟨some d, .call ⟨.value (.func f), xs.toArray, ats⟩, ty, pos, af, none⟩ (.wr k) (ptrAt d) (blkAt d cells' T') := by
 intro a c ob hs hwf hfa hr hres hno hown
 obtain ⟨r0, hr0, hh⟩ := hres k rfl
 rw [hk] at hr0
 cases hr0
 have hh' : (blk (vl a s) cells T').H c ob := hh
 have hp : (ipo (vl a s) 0).H (a.eval (.tmp s)) c := hr s (List.mem_append_left _ (List.mem_filterMap.2 ⟨.tmp s, by simp [Op.operands, Call.operands, hxs], rfl⟩)) _ hy
 have hv0 := hx.val (a := a) (c := c) fun x q hx' hq => Lk.val (o := ⟨some d, .call ⟨.value (.func f), xs.toArray, ats⟩, ty, pos, af, none⟩) hr hfa (by simp [Op.operands, Call.operands, hxs, hx']) hq
 have hv : HL (ipo (vl a s) 0 :: ps) (xs.map a.eval) c := by rw [hxs]; exact ⟨hp, hv0⟩
 simp only [Region.wanted, if_true]
 unfold Does
 have hex : (execOp a.eval ⟨some d, .call ⟨.value (.func f), xs.toArray, ats⟩, ty, pos, af, none⟩).run P c.w = .ok (.enter f (xs.map a.eval).toArray) c.w := by
  have h1 := run_callFunc (hf (vl a s)).1 (xs.map a.eval).toArray c.w
  simp [execOp, resolve, Deferred.ofValue, Act.eval, invoke, h1]
 rw [hex]
 refine ((hf (vl a s)).2 _ c ob hwf ⟨hfa.2, hv⟩ hh' fun b hb => (hown b hb).1).mono fun e w' ⟨v, he, hxm, hR, hr'⟩ => ⟨v, he, ⟨w', c.M⟩, ob, rfl, ?_, ?_, fun _ => ?_⟩
 ·exact ⟨hxm.os, hxm.tape, hxm.out, hxm.size, fun j hj hne => hxm.heap j hj (hne rfl), fun _ _ => ⟨id, .inl⟩, .inl rfl, fun j hj => Nat.lt_of_lt_of_le (hwf j hj) hxm.size⟩
 ·obtain ⟨b, cur, g1, g2, _⟩ := hr'
  obtain ⟨b', g3, g4⟩ := hR
  rw [g1] at g3
  have hvb : v = .pointer (some ⟨b, 0, none⟩) := by
   rcases g3 with g3 | ⟨_, _, g3⟩
   ·cases g3; exact g4
   ·cases g3
  simp only [ptrAt, VE.at, upd_eq]
  exact ⟨b, .inl hvb, hvb⟩
 ·have hr2 := hr'
  obtain ⟨b, cur, g1, g2, _⟩ := hr'
  obtain ⟨b', g3, g4⟩ := hR
  rw [g1] at g3
  have hvb : v = vl a s := by
   rw [g1]
   rcases g3 with g3 | ⟨_, _, g3⟩
   ·cases g3; exact g4
   ·cases g3
  simp only [blkAt, VR.at, upd_eq]
  rw [hvb]
  exact hr2
theorem op_beql {x y : Operand} {t t' : TypeId} {a b : Bool} (hT : P.underlying t = some .bool) (hx : Lk Γ δ ρ x (isv (.bool a))) (hy : Lk Γ δ ρ y (isv (.bool b))) :
  OpOK P n ops Γ ρ δ τ ⟨some d, .binOp .eql t x y t', ty, pos, af, none⟩ .no (.c (isv (.bool (a == b)))) dum :=
 ok_pure fun A c _ hr => by
  have h1 := (hr x _ (by simp [Op.operands]) hx).1
  have h2 := (hr y _ (by simp [Op.operands]) hy).1
  refine ⟨.bool (a == b), ?_, rfl, rfl⟩
  have hrun := run_eql_bool (P := P) c.w t a b hT
  simp [execOp, eqGuard, h1, h2, hrun]
theorem op_nilo {x : Operand} {base : Value} {off : Nat} (hx : Lk Γ δ ρ x (ipo base off)) : OpOK P n ops Γ ρ δ τ ⟨some d, .nilCheck x, ty, pos, af, none⟩ .no (.c (ipo base off)) dum :=
 ok_pure fun a c _ hr => by
  have hv := hr x _ (by simp [Op.operands]) hx
  obtain ⟨b, _, h2⟩ := hv
  exact ⟨a.eval x, by simp [execOp, h2], hr x _ (by simp [Op.operands]) hx⟩
theorem op_nilp {x : Operand} {cells : List SP} (hx : Lk Γ δ ρ x (ptp cells)) : OpOK P n ops Γ ρ δ τ ⟨some d, .nilCheck x, ty, pos, af, none⟩ .no (.c (ptp cells)) dum :=
 ok_pure fun a c _ hr => by
  have hv := hr x _ (by simp [Op.operands]) hx
  obtain ⟨b, off, cur, T, fz, h2, _⟩ := hv
  exact ⟨a.eval x, by simp [execOp, h2], hr x _ (by simp [Op.operands]) hx⟩
end ops
end Go.Bn
namespace Go.Bn
open Go
def sgnI (b : Bool) (M : Nat) : Int := if b then -(M : Int) else (M : Int)
theorem sgnI_abs (b : Bool) (M : Nat) : (sgnI b M).natAbs = M := by unfold sgnI; split <;> omega
theorem neg_1 {x : Int} : sgnI (!decide (x < 0)) x.natAbs = -x := by
 unfold sgnI
 by_cases hx : x < 0 <;> simp [hx] <;> omega
theorem shl_1 {x : Int} {n : Nat} : sgnI (decide (x < 0)) (x.natAbs * 2 ^ n) = x * 2 ^ n := by
 have e : ((x.natAbs * 2 ^ n : Nat) : Int) = (x.natAbs : Int) * 2 ^ n := by rw [Int.natCast_mul]; simp
 unfold sgnI
 by_cases hx : x < 0 <;> simp [hx]
 ·rw [show (x.natAbs : Int) = -x by omega, Int.neg_mul, Int.neg_neg]
 ·rw [show (x.natAbs : Int) = x by omega]
def signI (z : Int) : Int := if z < 0 then -1 else if z = 0 then 0 else 1
theorem cmpN_le {x y : Nat} (h : 0 ≤ cmpN x y) : y ≤ x := by
 unfold cmpN at h
 split at h
 ·omega
 ·split at h <;> omega
theorem cmpN_gt {x y : Nat} (h : ¬ 0 ≤ cmpN x y) : x ≤ y := by
 unfold cmpN at h
 split at h
 ·omega
 ·split at h <;> omega
end Go.Bn
namespace Go.Bn
open Go
structure Exa where
 m : Int
 e : Int
def Exa.neg (x : Exa) : Exa := ⟨-x.m, x.e⟩
def Exa.mul (x y : Exa) : Exa := ⟨x.m * y.m, x.e + y.e⟩
def Exa.low (x : Exa) (e : Int) : Exa := if x.e ≤ e then x else ⟨x.m * 2 ^ (x.e - e).toNat, e⟩
def Exa.add (x y : Exa) : Exa := if x.m = 0 then y else if y.m = 0 then x else ⟨(x.low (min x.e y.e)).m + (y.low (min x.e y.e)).m, min x.e y.e⟩
def Exa.zero : Exa := ⟨0, 0⟩
theorem signI_zero {z : Int} : signI z = 0 ↔ z = 0 := by
 unfold signI
 constructor
 ·intro h
  split at h
  ·omega
  ·split at h <;> omega
 ·rintro rfl; rfl
def tz (m : Nat) : Nat := if h : m = 0 then 0 else if m % 2 = 0 then tz (m / 2) + 1 else 0
termination_by m
decreasing_by exact Nat.div_lt_self (by omega) (by omega)
theorem tz_odd {m : Nat} (h : ¬ m % 2 = 0) : tz m = 0 := by rw [tz]; simp [h]
theorem tz_even {m : Nat} (h0 : m ≠ 0) (h : m % 2 = 0) : tz m = tz (m / 2) + 1 := by rw [tz]; simp [h0, h]
def oddM (m : Nat) : Nat := if m = 0 then 0 else m / 2 ^ tz m
def oddE (m : Nat) (e : Int) : Int := if m = 0 then 0 else e + tz m
end Go.Bn
namespace Go.Bn
open Go
theorem mgn_0 {x : Nat} (h : expo x = 0) : mgn x = frac x ∧ plc x = -1074 := by
 have hr : rung x / 4503599627370496 = 0 := by rw [← expo_rung]; exact h
 unfold mgn plc frac
 rw [if_pos (by omega), if_pos (by omega)]
 unfold rung at *
 omega
theorem mgn_1 {x : Nat} (h : 0 < expo x) : mgn x = frac x + 4503599627370496 ∧ plc x = (expo x : Int) - 1 - 1074 := by
 have hr : rung x / 4503599627370496 = expo x := (expo_rung x).symm
 unfold mgn plc frac
 rw [if_neg (by omega), if_neg (by omega), hr]
 have e : rung x % 4503599627370496 = x % 4503599627370496 := by unfold rung; omega
 rw [e]
 omega
theorem oddM_le (m : Nat) : oddM m ≤ m := by
 unfold oddM
 split
 ·omega
 ·exact Nat.div_le_self _ _
def ofX (x : Nat) : Exa := ⟨if sgn x = true then -((oddM (mgn x) : Nat) : Int) else ((oddM (mgn x) : Nat) : Int), oddE (mgn x) (plc x)⟩
end Go.Bn
namespace Go.Bn
open Go
theorem pow_one_le (a : Nat) : (1 : Int) ≤ 2 ^ a := by
 induction a with
 | zero => decide
 | succ a ih => rw [Int.pow_succ]; omega
theorem tz_pow : ∀ m : Nat, m ≠ 0 → 2 ^ tz m ≤ m := by
 intro m
 induction m using Nat.strongRecOn with
 | _ m ih =>
  intro h0
  by_cases h : m % 2 = 0
  ·rw [tz_even h0 h, Nat.pow_succ]
   have := ih (m / 2) (Nat.div_lt_self (by omega) (by omega)) (by omega)
   omega
  ·rw [tz_odd h]
   simp
   omega
theorem tz_lt {m : Nat} (h0 : m ≠ 0) (h : m < 18446744073709551616) : tz m < 64 := by
 have h1 := tz_pow m h0
 by_cases hk : tz m < 64
 ·exact hk
 ·have : 2 ^ 64 ≤ 2 ^ tz m := Nat.pow_le_pow_right (by omega) (by omega)
  omega
end Go.Bn
namespace Go.Bn
open Go
def xv (E : Nat) (x : Exa) : Int := x.m * 2 ^ (x.e + E).toNat
theorem tz_mul : ∀ m : Nat, m ≠ 0 → m / 2 ^ tz m * 2 ^ tz m = m := by
 intro m
 induction m using Nat.strongRecOn with
 | _ m ih =>
  intro h0
  by_cases h : m % 2 = 0
  ·have := ih (m / 2) (Nat.div_lt_self (by omega) (by omega)) (by omega)
   rw [tz_even h0 h, Nat.pow_succ, Nat.mul_comm (2 ^ tz (m / 2)) 2, ← Nat.div_div_eq_div_mul, Nat.mul_comm 2, ← Nat.mul_assoc, this]
   omega
  ·rw [tz_odd h]
   simp
def sval (x : Nat) : Int := if sgn x = true then -((vlu x : Nat) : Int) else ((vlu x : Nat) : Int)
theorem xv_of (x : Nat) : xv 1074 (ofX x) = sval x := by
 have hp := plc_ge x
 have key : ((oddM (mgn x) : Nat) : Int) * 2 ^ (oddE (mgn x) (plc x) + ((1074 : Nat) : Int)).toNat = ((vlu x : Nat) : Int) := by
  unfold oddM oddE vlu
  by_cases h0 : mgn x = 0
  ·rw [if_pos h0, h0, Nat.zero_mul]
   exact Int.zero_mul _
  ·rw [if_neg h0, if_neg h0, Int.natCast_mul]
   have h1 := tz_mul (mgn x) h0
   rw [show (plc x + (tz (mgn x) : Int) + ((1074 : Nat) : Int)).toNat = tz (mgn x) + (plc x + 1074).toNat by omega, Int.pow_add]
   conv => rhs; rw [← h1]
   rw [Int.natCast_mul]
   simp [Int.mul_assoc]
 show (if sgn x = true then -((oddM (mgn x) : Nat) : Int) else ((oddM (mgn x) : Nat) : Int)) * 2 ^ (oddE (mgn x) (plc x) + ((1074 : Nat) : Int)).toNat = sval x
 unfold sval
 split
 ·rw [Int.neg_mul, key]
 ·exact key
end Go.Bn
