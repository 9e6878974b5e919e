/-
  Names of numbers; places.
-/
import Derived.Test.YtcnffgbncbadbaaDoorStr
set_option linter.unusedVariables false
set_option linter.unusedSimpArgs false
namespace Go.Bn
open Go
section ops
variable {P : Program} {n : Nat} {ops : Array Oper} {Γ : Facts} {ρ : Env} {δ : VEnv} {τ : List VR}
variable {d : Nat} {ty : TypeId} {pos : String} {af : Array Edge}
/-- The first part of a slice. -/
theorem op_slice_n {x hi : Operand} {T E es eb : Nat} {k2 : IntKind} {h : Int} {m m' : Nat} {cells cells' : List SP} (ht : slT P T = some (E, es, eb)) (hx : Lk Γ δ ρ x (slc m es cells)) (hhi : Lk Γ δ ρ hi (isv (.int k2 h)))
    (h1 : 0 ≤ h) (h2 : h ≤ m) (hm : h = m') (hlen : cells'.length = m' * es) (hp : ∀ j p, nth cells' j = some p → nth cells j = some p) :
    OpOK P n ops Γ ρ δ τ ⟨some d, .slice T x none (some hi) none, ty, pos, af, none⟩ .no (.c (slc m' es cells')) dum :=
  ok_pure fun a c _ hr => by
    obtain ⟨hl, hv⟩ := hr x _ (by simp [Op.operands]) hx
    have hz2 := (hr hi _ (by simp [Op.operands]) hhi).1
    obtain ⟨hu, i, hi', hs, _⟩ := slT_u ht
    have hm' : h.toNat = m' := by omega
    rcases hv with ⟨h3, h4⟩ | ⟨ad, cap, h3, h4, h5, h6⟩
    · subst h4
      have hh0 : h = 0 := by omega
      subst hh0
      have hm0 : m' = 0 := by omega
      subst hm0
      refine ⟨.slice none 0 0, ?_, hlen, .inl ⟨rfl, rfl⟩⟩
      simp [execOp, Instr.sliceAt, Instr.slice, run_underlying hu, h3, hz2, Instr.sliceBounds, Instr.sliceBound, asIntOf, sizeOf, typeInfo, hi']
    · have c1 : h ≤ (cap : Int) := by omega
      refine ⟨.slice (some ad) m' cap, ?_, hlen, .inr ⟨ad, cap, rfl, by omega, h5, ?_⟩⟩
      · by_cases hc : cap = 0
        · simp [execOp, Instr.sliceAt, Instr.slice, run_underlying hu, h3, hz2, Instr.sliceBounds, Instr.sliceBound, asIntOf, sizeOf, typeInfo, hi', hs, c1, h1, hc, hm']
          omega
        · simp [execOp, Instr.sliceAt, Instr.slice, run_underlying hu, h3, hz2, Instr.sliceBounds, Instr.sliceBound, asIntOf, sizeOf, typeInfo, hi', hs, c1, h1, hc, hm']
          rcases ad with ⟨b, off, x⟩
          rfl
      · rcases h6 with h6 | ⟨b, off, ha, h6, cur, U, fz, h7, h8⟩
        · exact .inl (by omega)
        · exact .inr ⟨b, off, ha, h6, cur, U, fz, h7, fun j p hj => h8 _ p (hp j p hj)⟩
theorem op_slice_sk {α : Type} {mk : α → List SP} {xs : List α} {x hi : Operand} {T E es eb : Nat} {k2 : IntKind} {h : Int} (ht : slT P T = some (E, es, eb)) (hl : ∀ a, (mk a).length = es) (hx : Lk Γ δ ρ x (slk es mk xs)) (hhi : Lk Γ δ ρ hi (isv (.int k2 h)))
    (h1 : 0 ≤ h) (h2 : h ≤ xs.length) : OpOK P n ops Γ ρ δ τ ⟨some d, .slice T x none (some hi) none, ty, pos, af, none⟩ .no (.c (slk es mk (xs.take h.toNat))) dum := by
  have e1 : (xs.take h.toNat).length = h.toNat := by rw [List.length_take]; omega
  have e2 : ∀ ys : List α, (ys.flatMap mk).length = ys.length * es := by
    intro ys
    induction ys with
    | nil => simp
    | cons y ys ih => rw [List.flatMap_cons, List.length_append, ih, hl, List.length_cons, Nat.add_mul]; omega
  refine op_slice_n (m := xs.length) (m' := (xs.take h.toNat).length) (cells := xs.flatMap mk) (cells' := (xs.take h.toNat).flatMap mk) ht hx hhi h1 h2 (by omega) (e2 _) fun j p hj => ?_
  rw [nth_eq] at hj ⊢
  have e3 : xs.flatMap mk = (xs.take h.toNat).flatMap mk ++ (xs.drop h.toNat).flatMap mk := by rw [← List.flatMap_append, List.take_append_drop]
  rw [e3, List.getElem?_append_left ?_]
  · exact hj
  · have := List.getElem?_eq_some_iff.1 hj
    exact this.1
end ops
/-! ## Whole numbers as texts -/
def pvaS : ByteArray := ⟨#[112, 118, 97]⟩
def dotS : ByteArray := ⟨#[46]⟩
def digS : ByteArray := ⟨#[48, 49, 50, 51, 52, 53, 54, 55, 56, 57, 97, 98, 99, 100, 101, 102, 103, 104, 105, 106, 107, 108, 109, 110, 111, 112, 113, 114, 115, 116, 117, 118, 119, 120, 121, 122]⟩
def smlS : ByteArray := ⟨#[48, 48, 48, 49, 48, 50, 48, 51, 48, 52, 48, 53, 48, 54, 48, 55, 48, 56, 48, 57, 49, 48, 49, 49, 49, 50, 49, 51, 49, 52, 49, 53, 49, 54, 49, 55, 49, 56, 49, 57, 50, 48, 50, 49, 50, 50, 50, 51, 50, 52, 50, 53, 50, 54, 50, 55, 50, 56, 50, 57, 51, 48, 51, 49, 51, 50, 51, 51, 51, 52, 51, 53, 51, 54, 51, 55, 51, 56, 51, 57, 52, 48, 52, 49, 52, 50, 52, 51, 52, 52, 52, 53, 52, 54, 52, 55, 52, 56, 52, 57, 53, 48, 53, 49, 53, 50, 53, 51, 53, 52, 53, 53, 53, 54, 53, 55, 53, 56, 53, 57, 54, 48, 54, 49, 54, 50, 54, 51, 54, 52, 54, 53, 54, 54, 54, 55, 54, 56, 54, 57, 55, 48, 55, 49, 55, 50, 55, 51, 55, 52, 55, 53, 55, 54, 55, 55, 55, 56, 55, 57, 56, 48, 56, 49, 56, 50, 56, 51, 56, 52, 56, 53, 56, 54, 56, 55, 56, 56, 56, 57, 57, 48, 57, 49, 57, 50, 57, 51, 57, 52, 57, 53, 57, 54, 57, 55, 57, 56, 57, 57]⟩
def itoaS (i : Int) : ByteArray := if i < 10 then digS.extract i.toNat (i + 1).toNat else smlS.extract (i * 2).toNat (i * 2 + 2).toNat
theorem digS_size : digS.size = 36 := by decide +kernel
theorem smlS_size : smlS.size = 200 := by decide +kernel
theorem itoaS_size (i : Int) : (itoaS i).size ≤ 200 := by
  unfold itoaS
  split <;> rw [ByteArray.size_extract]
  · rw [digS_size]; omega
  · rw [smlS_size]; omega
def nameB (o p a : Int) : ByteArray := ((pvaS.extract o.toNat (o + 1).toNat ++ itoaS p) ++ dotS) ++ itoaS a
theorem pva_size (i j : Nat) : (pvaS.extract i j).size ≤ 3 := by
  rw [ByteArray.size_extract]
  have : pvaS.size = 3 := by decide +kernel
  omega
theorem dot_size : dotS.size = 1 := by decide +kernel
theorem nm_1 {i j : Nat} {p : Int} : (pvaS.extract i j).size + (itoaS p).size ≤ 9223372036854775807 := by
  have := pva_size i j
  have := itoaS_size p
  omega
theorem nm_2 {i j : Nat} {p : Int} : (pvaS.extract i j ++ itoaS p).size + dotS.size ≤ 9223372036854775807 := by
  have := pva_size i j
  have := itoaS_size p
  rw [ByteArray.size_append, dot_size]
  omega
theorem nm_3 {i j : Nat} {p a : Int} : ((pvaS.extract i j ++ itoaS p) ++ dotS).size + (itoaS a).size ≤ 9223372036854775807 := by
  have := pva_size i j
  have := itoaS_size p
  have := itoaS_size a
  rw [ByteArray.size_append, ByteArray.size_append, dot_size]
  omega
/-! ## Names one after the other -/
def nmO (p a : Nat) (xs : List ByteArray) : Nat → List ByteArray
  | 0 => xs
  | o + 1 => nmO p a xs o ++ [nameB o p a]
def nmA (p L : Nat) (xs : List ByteArray) : Nat → List ByteArray
  | 0 => xs
  | a + 1 => nmO p a (nmA p L xs a) L
def nmP (ps : List Prt) : Nat → List ByteArray
  | 0 => []
  | k + 1 => nmA k (ordN (ps.getD k prtD).k).toNat (nmP ps k) (ps.getD k prtD).a.toNat
theorem nmO_len {p a : Nat} {xs : List ByteArray} : ∀ {o : Nat}, (nmO p a xs o).length = xs.length + o
  | 0 => rfl
  | o + 1 => by rw [nmO, List.length_append, nmO_len]; rfl
theorem nmA_len {p L : Nat} {xs : List ByteArray} : ∀ {a : Nat}, (nmA p L xs a).length = xs.length + a * L
  | 0 => by simp [nmA]
  | a + 1 => by rw [nmA, nmO_len, nmA_len, Nat.add_mul]; omega
theorem nmP_len {ps : List Prt} (hg : PrtTo ps ps.length) : ∀ {k : Nat}, k ≤ ps.length → ((nmP ps k).length : Int) = tot ps k
  | 0, _ => rfl
  | k + 1, hk => by
    have ih := nmP_len hg (k := k) (by omega)
    obtain ⟨h1, h2, h3, _⟩ := partE_good (hg k (by omega))
    rw [nmP, nmA_len, tot]
    have e : (((ps.getD k prtD).a.toNat * (ordN (ps.getD k prtD).k).toNat : Nat) : Int) = (ps.getD k prtD).a * ordN (ps.getD k prtD).k := by
      rw [Int.natCast_mul, Int.toNat_of_nonneg (by omega), Int.toNat_of_nonneg (by omega)]
    omega
structure SR where
  a : List ByteArray
  e : Int
def resS (x : SR) : SP := tupp [slm strp x.a, isv (.int .i64 x.e)]
theorem ret_S {Γ : Facts} {a : List ByteArray} {e : Int} {x : SR} (h : (⟨a, e⟩ : SR) = x) : Sb Γ (tupp [slm strp a, isv (.int .i64 e)]) (resS x) := by subst h; exact sb_refl
def namesR (ps : List Prt) : SR := if motE ps = 0 then ⟨nmP ps ps.length, 0⟩ else ⟨[], motE ps⟩
theorem names_1 {ps : List Prt} (h : ¬ motE ps = 0) : (⟨[], motE ps⟩ : SR) = namesR ps := (if_neg h).symm
theorem names_2 {ps : List Prt} {k : Nat} (h : motE ps = 0) (hk : k = ps.length) : (⟨nmP ps k, 0⟩ : SR) = namesR ps := by subst hk; exact (if_pos h).symm
theorem seqB_self (a : ByteArray) : seqB a a = true := by simp [seqB]
/-- How many names there are, so far. -/
theorem nm_rng {ps : List Prt} {k a o : Nat} (hg : PrtTo ps ps.length) (ht : tot ps ps.length ≤ 12) (hk : k < ps.length) (ha : (a : Int) < (ps.getD k prtD).a) (ho : (o : Int) < ordN (ps.getD k prtD).k) :
    (nmO k a (nmA k (ordN (ps.getD k prtD).k).toNat (nmP ps k) a) o).length < 12 := by
  obtain ⟨h1, h2, h3, h4⟩ := ax_in hg ht hk ha
  have h5 := nmP_len hg (Nat.le_of_lt hk)
  rw [nmO_len, nmA_len]
  have e : ((a * (ordN (ps.getD k prtD).k).toNat : Nat) : Int) = (a : Int) * ordN (ps.getD k prtD).k := by
    rw [Int.natCast_mul, Int.toNat_of_nonneg (by omega)]
  omega
theorem len_12 {ps : List Prt} (hg : PrtTo ps ps.length) (ht : tot ps ps.length ≤ 12) : ps.length ≤ 12 := by
  have := (tot_rng hg).1
  omega
/-! ## Places -/
def placE (ps : List Prt) (p a o : Int) : Bool := decide (p < 0 ∨ (ps.length : Int) ≤ p ∨ a < 0 ∨ (ps.getD p.toNat prtD).a ≤ a ∨ o < 0 ∨ ordN (ps.getD p.toNat prtD).k ≤ o)
def placR (ps : List Prt) (p a o : Int) : IR := if motE ps ≠ 0 then ⟨0, motE ps⟩ else if placE ps p a o = true then ⟨0, 1⟩ else ⟨tot ps p.toNat + (a * ordN (ps.getD p.toNat prtD).k + o), 0⟩
theorem plac_1 {ps : List Prt} {p a o : Int} (h : ¬ motE ps = 0) : (⟨0, motE ps⟩ : IR) = placR ps p a o := (if_pos h).symm
theorem plac_2 {ps : List Prt} {p a o : Int} (h : motE ps = 0) (h2 : p < 0 ∨ (ps.length : Int) ≤ p ∨ a < 0 ∨ (ps.getD p.toNat prtD).a ≤ a ∨ o < 0 ∨ ordN (ps.getD p.toNat prtD).k ≤ o) : (⟨0, 1⟩ : IR) = placR ps p a o := by
  unfold placR
  rw [if_neg (by simp [h]), if_pos (by unfold placE; exact decide_eq_true h2)]
theorem plac_3 {ps : List Prt} {p a o x : Int} (h : motE ps = 0) (h2 : ¬ (p < 0 ∨ (ps.length : Int) ≤ p ∨ a < 0 ∨ (ps.getD p.toNat prtD).a ≤ a ∨ o < 0 ∨ ordN (ps.getD p.toNat prtD).k ≤ o)) (hx : x = tot ps p.toNat + (a * ordN (ps.getD p.toNat prtD).k + o)) : (⟨x, 0⟩ : IR) = placR ps p a o := by
  subst hx
  unfold placR
  rw [if_neg (by simp [h]), if_neg (by unfold placE; exact fun e => h2 (of_decide_eq_true e))]
theorem plac_rng {ps : List Prt} {p a o : Int} (hg : PrtTo ps ps.length) (ht : tot ps ps.length ≤ 12) (h2 : ¬ (p < 0 ∨ (ps.length : Int) ≤ p ∨ a < 0 ∨ (ps.getD p.toNat prtD).a ≤ a ∨ o < 0 ∨ ordN (ps.getD p.toNat prtD).k ≤ o)) :
    0 ≤ a * ordN (ps.getD p.toNat prtD).k ∧ tot ps p.toNat + (a * ordN (ps.getD p.toNat prtD).k + o) < tot ps ps.length ∧ 0 ≤ tot ps p.toNat := by
  have := ax_in (k := p.toNat) (a := a.toNat) hg ht (by omega) (by omega)
  rw [show ((a.toNat : Nat) : Int) = a by omega] at this
  omega
theorem getD_take {α : Type} {xs : List α} {n k : Nat} {dv : α} (h : k < n) : (xs.take n).getD k dv = xs.getD k dv := by
  simp [List.getD, List.getElem?_take, h]
end Go.Bn
namespace Go.Bn
open Go
theorem names_len {ps : List Prt} : (namesR ps).a.length ≤ 12 := by
  unfold namesR
  split
  · rename_i h
    obtain ⟨_, hg, ht⟩ := mot_good h
    have := nmP_len hg (Nat.le_refl _)
    show (nmP ps ps.length).length ≤ 12
    omega
  · simp
theorem scmp_self {a : ByteArray} : ¬ scmpB .neq a a = true := by
  unfold scmpB
  simp [seqB]
end Go.Bn
