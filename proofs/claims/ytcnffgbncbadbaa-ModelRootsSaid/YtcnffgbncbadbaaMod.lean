/-
  Plain facts on motions.
-/
import Derived.Test.YtcnffgbncbadbaaMake
import Derived.Test.YtcnffgbncbadbaaOpz
import Derived.Test.YtcnffgbncbadbaaMany
set_option linter.unusedVariables false
set_option linter.unusedSimpArgs false
namespace Go.Bn
open Go
section ops
variable {P : Program} {n : Nat} {ops : Array Oper} {Γ : Facts} {ρ : Env} {δ : VEnv} {τ : List VR}
variable {d : Nat} {ty : TypeId} {pos : String} {af : Array Edge}
theorem op_imin {x y : Operand} {ats : Array TypeId} {k : IntKind} {a b : Int} (hx : Lk Γ δ ρ x (isv (.int k a))) (hy : Lk Γ δ ρ y (isv (.int k b))) :
    OpOK P n ops Γ ρ δ τ ⟨some d, .call ⟨.builtin .min, #[x, y], ats⟩, ty, pos, af, none⟩ .no (.c (isv (.int k (min a b)))) dum :=
  ok_pure fun A c _ hr => by
    have h1 := (hr x _ (by simp [Op.operands, Call.operands]) hx).1
    have h2 := (hr y _ (by simp [Op.operands, Call.operands]) hy).1
    refine ⟨.int k (min a b), ?_, rfl, rfl⟩
    by_cases h : b < a
    · simp [execOp, resolve, invoke, builtin, Builtin.min_, Builtin.min2, h1, h2, h, show min a b = b by omega]
    · simp [execOp, resolve, invoke, builtin, Builtin.min_, Builtin.min2, h1, h2, h, show min a b = a by omega]
end ops
/-- A part of a motion: its kind, its axes, its noise, its fading. -/
structure Prt where
  k : Int
  a : Int
  n : Nat
  f : Nat
def prtC (p : Prt) : List SP := [isv (.int .i64 p.k), isv (.int .i64 p.a), flp p.n, flp p.f]
def prtU (p : Prt) : List SP := [isv (.int .i64 p.k), isv (.int .i64 p.a), u64p p.n, u64p p.f]
def prtD : Prt := ⟨0, 0, 0, 0⟩
theorem prtC_len (p : Prt) : (prtC p).length = 4 := rfl
theorem prtU_len (p : Prt) : (prtU p).length = 4 := rfl
def pcn (p : Prt) : Prt := ⟨p.k, p.a, cn p.n, cn p.f⟩
def MotP (ps : List Prt) : SP := aggp [slk 4 prtC ps]
def ordN (k : Int) : Int := if k = 0 ∨ k = 1 ∨ k = 4 then 1 else if k = 2 then 2 else if k = 3 then 3 else 0
theorem ordN_rng (k : Int) : 0 ≤ ordN k ∧ ordN k ≤ 3 := by unfold ordN; (repeat' split) <;> omega
def P100 : Nat := 0x4630000000000000
/-- May a noise or a fading not be so? -/
def loudB (x : Nat) : Bool := fcmp .lss x 0 || fcmp .gtr x P100
def partE (p : Prt) : Int := if ordN p.k = 0 then 140 else if p.a < 1 ∨ 12 < p.a then 1 else if finB p.n = false ∨ finB p.f = false then 4 else if (loudB p.n || loudB p.f) = true then 141 else 0
theorem partE_good {p : Prt} (h : partE p = 0) : 1 ≤ ordN p.k ∧ 1 ≤ p.a ∧ p.a ≤ 12 ∧ finB p.n = true ∧ finB p.f = true := by
  have := ordN_rng p.k
  unfold partE at h
  split at h
  · omega
  · split at h
    · omega
    · split at h
      · omega
      · rename_i h1 h2 h3
        refine ⟨by omega, by omega, by omega, ?_, ?_⟩
        · cases hf : finB p.n
          · exact (h3 (.inl hf)).elim
          · rfl
        · cases hf : finB p.f
          · exact (h3 (.inr hf)).elim
          · rfl
/-- How many numbers the first parts have. -/
def tot (ps : List Prt) : Nat → Int
  | 0 => 0
  | k + 1 => tot ps k + (ps.getD k prtD).a * ordN (ps.getD k prtD).k
/-- All parts up to k are good. -/
def PrtTo (ps : List Prt) (k : Nat) : Prop := ∀ q, q < k → partE (ps.getD q prtD) = 0
theorem prtTo_zero {ps : List Prt} : PrtTo ps 0 := fun q h => by omega
theorem prtTo_step {ps : List Prt} {k : Nat} (h : PrtTo ps k) (hk : partE (ps.getD k prtD) = 0) : PrtTo ps (k + 1) := fun q hq => by
  by_cases e : q = k
  · rw [e]; exact hk
  · exact h q (by omega)
theorem ax_rng {p : Prt} (h : partE p = 0) : 1 ≤ p.a * ordN p.k ∧ p.a * ordN p.k ≤ 36 := by
  obtain ⟨h1, h2, h3, _⟩ := partE_good h
  have h4 := (ordN_rng p.k).2
  have h5 : 1 * 1 ≤ p.a * ordN p.k := Int.mul_le_mul h2 h1 (by omega) (by omega)
  have h6 : p.a * ordN p.k ≤ 12 * 3 := Int.mul_le_mul h3 h4 (by omega) (by omega)
  omega
theorem tot_rng {ps : List Prt} : ∀ {k : Nat}, PrtTo ps k → (k : Int) ≤ tot ps k ∧ tot ps k ≤ 36 * k
  | 0, _ => by simp [tot]
  | k + 1, h => by
    have ih := tot_rng (ps := ps) (k := k) fun q hq => h q (by omega)
    have := ax_rng (h k (by omega))
    rw [tot]
    omega
theorem tot_mono {ps : List Prt} {k : Nat} : ∀ {m : Nat}, k ≤ m → PrtTo ps m → tot ps k ≤ tot ps m
  | 0, hk, _ => by rw [show k = 0 by omega]; exact Int.le_refl _
  | m + 1, hk, h => by
    by_cases e : k = m + 1
    · rw [e]; exact Int.le_refl _
    · have ih := tot_mono (ps := ps) (k := k) (m := m) (by omega) fun q hq => h q (by omega)
      have := ax_rng (h m (by omega))
      rw [tot]
      omega
def motE (ps : List Prt) : Int := if ps.length = 0 then 1 else if fstE (ps.map partE) ≠ 0 then fstE (ps.map partE) else if 12 < tot ps ps.length then 2 else 0
theorem fstE_prt {ps : List Prt} : ∀ {k : Nat}, k ≤ ps.length → PrtTo ps k → fstE (ps.map partE) = fstE ((ps.drop k).map partE)
  | 0, _, _ => by simp
  | k + 1, hk, h => by
    rw [fstE_prt (k := k) (by omega) fun q hq => h q (by omega), List.drop_eq_getElem_cons (by omega : k < ps.length), List.map_cons, fstE]
    have h2 : partE ps[k] = 0 := by
      have := h k (by omega)
      rw [List.getD, List.getElem?_eq_getElem (by omega : k < ps.length)] at this
      exact this
    rw [if_pos h2]
theorem mot_1 {ps : List Prt} (h : ps.length = 0) : (1 : Int) = motE ps := by unfold motE; rw [if_pos h]
theorem mot_e {ps : List Prt} {k : Nat} (h0 : ¬ ps.length = 0) (hk : k < ps.length) (h : PrtTo ps k) (he : ¬ partE (ps.getD k prtD) = 0) : partE (ps.getD k prtD) = motE ps := by
  have e : fstE (ps.map partE) = partE (ps.getD k prtD) := by
    rw [fstE_prt (Nat.le_of_lt hk) h, List.drop_eq_getElem_cons hk, List.map_cons, fstE, List.getD, List.getElem?_eq_getElem hk]
    rw [List.getD, List.getElem?_eq_getElem hk] at he
    exact if_neg he
  unfold motE
  rw [if_neg h0, e, if_pos he]
theorem mot_n {ps : List Prt} (h0 : ¬ ps.length = 0) (h : PrtTo ps ps.length) : motE ps = if 12 < tot ps ps.length then 2 else 0 := by
  have e : fstE (ps.map partE) = 0 := by
    rw [fstE_prt (Nat.le_refl _) h, List.drop_length]; rfl
  unfold motE
  rw [if_neg h0, e, if_neg (by simp)]
theorem mot_good {ps : List Prt} (h : motE ps = 0) : ps.length ≠ 0 ∧ PrtTo ps ps.length ∧ tot ps ps.length ≤ 12 := by
  unfold motE at h
  split at h
  · omega
  · rename_i h0
    split at h
    · rename_i h1; exact (h1 h).elim
    · rename_i h1
      have hp : PrtTo ps ps.length := by
        have h1 : fstE (ps.map partE) = 0 := by omega
        have key : ∀ (l : List Int), fstE l = 0 → ∀ x, x ∈ l → x = 0 := by
          intro l
          induction l with
          | nil => intro _ x hx; cases hx
          | cons a l ih =>
            intro hl x hx
            rw [fstE_zero] at hl
            rcases List.mem_cons.1 hx with rfl | hx
            · exact hl.1
            · exact ih hl.2 x hx
        intro q hq
        exact key _ h1 _ (List.mem_map.2 ⟨_, mem_getD prtD hq, rfl⟩)
      split at h
      · omega
      · exact ⟨h0, hp, by omega⟩
structure IR where
  a : Int
  e : Int
def resI (x : IR) : SP := tupp [isv (.int .i64 x.a), isv (.int .i64 x.e)]
theorem ret_I {Γ : Facts} {a e : Int} {x : IR} (h : (⟨a, e⟩ : IR) = x) : Sb Γ (tupp [isv (.int .i64 a), isv (.int .i64 e)]) (resI x) := by subst h; exact sb_refl
def dimR (ps : List Prt) : IR := if motE ps = 0 then ⟨tot ps ps.length, 0⟩ else ⟨0, motE ps⟩
theorem dimR_e {ps : List Prt} : (dimR ps).e = motE ps := by
  unfold dimR
  split
  · rename_i h; exact h.symm
  · rfl
theorem dimR_ok {ps : List Prt} (h : motE ps = 0) : dimR ps = ⟨tot ps ps.length, 0⟩ := if_pos h
/-! ## Times -/
def secR (t : Int) : NR := if t < -1125899906842624 ∨ 1125899906842624 < t then badN 1 else ⟨fdiv (FloatKind.f64.nearest t) 0x412e848000000000, 0⟩
/-! ## Noises -/
theorem sub_zero_eq {x : Nat} (hx : x < 2 ^ 64) : fcmp .eql (fsub x x) 0 = finB x := by
  rw [fsub_self hx]
  cases finB x <;> decide +kernel
theorem ford_some {x y : Nat} (hx : nanB x = false) (hy : nanB y = false) : ∃ o, ford x y = some o := by
  cases h : ford x y with
  | none => rcases ford_none h with h | h <;> simp [h] at hx hy
  | some o => exact ⟨o, rfl⟩
/-- The reference's way to ask. -/
theorem loud_ref {x : Nat} (hx : nanB x = false) : (fcmp .geq x 0 && fcmp .leq x P100) = !loudB x := by
  obtain ⟨o, ho⟩ := ford_some hx (show nanB 0 = false by decide +kernel)
  obtain ⟨u, hu⟩ := ford_some hx (show nanB P100 = false by decide +kernel)
  unfold loudB fcmp
  simp only [ho, hu]
  cases o <;> cases u <;> rfl
end Go.Bn
