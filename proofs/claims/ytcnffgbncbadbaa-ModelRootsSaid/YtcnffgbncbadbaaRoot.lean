/-
  Square roots; the blocks of roots.
-/
import Derived.Test.YtcnffgbncbadbaaLay
set_option linter.unusedVariables false
set_option linter.unusedSimpArgs false
namespace Go.Bn
open Go
def fsqrt (x : Nat) : Nat := fop (Ieee.double.sqrt x)
theorem root_ok {x d : Ieee.Datum} {n : Nat} (h : x.root n = some d) : d.isNaN = false ∧ x.isNaN = false := by
  cases x with
  | nan s f => simp only [Ieee.Datum.root] at h; cases h
  | infinity s =>
    simp only [Ieee.Datum.root] at h
    split at h
    · cases h
    · cases h; exact ⟨rfl, rfl⟩
  | number s m i =>
    simp only [Ieee.Datum.root] at h
    split at h
    · cases h; exact ⟨rfl, rfl⟩
    · split at h
      · cases h
      · cases h; exact ⟨rfl, rfl⟩
theorem sqrt_some {x r : Nat} (h : Ieee.double.sqrt x = some r) : nanB r = false ∧ r < 2 ^ 64 ∧ nanB x = false := by
  unfold Ieee.Format.sqrt at h
  rw [Option.map_eq_some_iff] at h
  obtain ⟨d, h1, rfl⟩ := h
  obtain ⟨h2, h3⟩ := root_ok h1
  exact ⟨(write_ok h2).1, (write_ok h2).2, h3⟩
theorem fsqrt_cn {x : Nat} : fsqrt (cn x) = match Ieee.double.sqrt x with | some r => r | none => NAN := by
  unfold fsqrt
  cases h : Ieee.double.sqrt x with
  | some r =>
    obtain ⟨_, _, h1⟩ := sqrt_some h
    rw [cn_of_not h1, h]; rfl
  | none =>
    cases h' : Ieee.double.sqrt (cn x) with
    | none => rfl
    | some r =>
      obtain ⟨_, _, h1⟩ := sqrt_some h'
      rw [nanB_cn] at h1
      rw [cn_of_not h1, h] at h'
      cases h'
section ops
variable {P : Program} {n : Nat} {ops : Array Oper} {Γ : Facts} {ρ : Env} {δ : VEnv} {τ : List VR}
variable {d : Nat} {ty : TypeId} {pos : String} {af : Array Edge}
theorem law_sqrt {x : Nat} : ∀ (v : Value) (c : EW), (flp x).H v c → ∃ u m, (Go.Extern.MathSqrt.sqrt #[v]).run P c.w = .ok u { c.w with drawn := m } ∧ ∀ c', (flp (fsqrt x)).H u c' := by
  rintro v c ⟨b, h1, h2, h3⟩
  subst h1 h3
  rw [fsqrt_cn]
  have hF : Go.Extern.MathSqrt.sqrt #[.float .f64 b] = (match Ieee.double.sqrt b with | some r => pure (.float .f64 r) | none => do pure (.float .f64 (← choose (.nanBits .f64 b b)))) := rfl
  cases hs : Ieee.double.sqrt b with
  | some r =>
    obtain ⟨g1, g2, _⟩ := sqrt_some hs
    exact ⟨.float .f64 r, c.w.drawn, by rw [hF, hs]; simp [Sem.run], fun _ => ⟨r, rfl, g2, cn_of_not g1⟩⟩
  | none =>
    refine ⟨.float .f64 ((Question.nanBits .f64 b b).cut (c.w.tape c.w.drawn (.nanBits .f64 b b))), c.w.drawn + 1, ?_, fun _ => ⟨_, rfl, (nan_drawn .nanBits (.inl rfl) b b _).2, cn_of_nan (nan_drawn .nanBits (.inl rfl) b b _).1⟩⟩
    rw [hF, hs]
    simp [choose, Sem.run, Question.forced]
theorem op_f64sqrt {f : Nat} {x : Operand} {v : Nat} {ats : Array TypeId} (hf : Ext P f Go.Extern.MathSqrt.sqrt) (hx : Lk Γ δ ρ x (flp v)) :
    OpOK P n ops Γ ρ δ τ ⟨some d, .call ⟨.value (.func f), #[x], ats⟩, ty, pos, af, none⟩ .no (.c (flp (fsqrt v))) dum := op_ext hf hx law_sqrt
end ops
/-! ## The blocks of roots -/
def rtB (k : Int) (a d : Nat) : List (List Nat) := if k = 1 ∨ k = 4 then [[a]] else if k = 2 then [[fdiv (fmul a d) (fsqrt 0x4008000000000000), 0], [fdiv (fmul a (fsqrt 0x4008000000000000)) 0x4000000000000000, fdiv a 0x4000000000000000]]
  else if k = 3 then [[fdiv (fmul (fmul a d) d) (fsqrt 0x4034000000000000), 0, 0], [fdiv (fmul (fmul a d) (fsqrt 0x4034000000000000)) 0x4020000000000000, fdiv (fmul a d) (fsqrt 0x4048000000000000), 0], [fdiv (fmul a (fsqrt 0x4034000000000000)) 0x4018000000000000, fdiv (fmul a (fsqrt 0x4048000000000000)) 0x4028000000000000, fdiv a 0x4008000000000000]] else [[0]]
def rootB : BF := fun p d => rtB p.k (fsqrt (fmul p.n d)) d
theorem rootB_ok : BOk rootB := bok_of
  (fun p d h => by
    unfold rootB rtB
    split
    · exact ⟨_, rfl⟩
    · rw [if_neg (by omega), if_neg (by omega)]; exact ⟨_, rfl⟩)
  (fun p d h => by unfold rootB rtB; rw [if_neg (by omega), if_pos h]; exact ⟨_, _, _, _, rfl⟩)
  (fun p d h => by unfold rootB rtB; rw [if_neg (by omega), if_neg (by omega), if_pos h]; exact ⟨_, _, _, _, _, _, _, _, _, rfl⟩)
/-! ## The reference's blocks: one list -/
theorem flat_at {B : List (List Nat)} {s i j : Nat} (hs : ∀ i, i < B.length → (B.getD i []).length = s) (hi : i < B.length) (hj : j < s) : B.flatten.getD (i * s + j) 0 = (B.getD i []).getD j 0 := by
  induction B generalizing i with
  | nil => simp at hi
  | cons x B ih =>
    have h0 : x.length = s := hs 0 (by simp)
    have hB : ∀ i, i < B.length → (B.getD i []).length = s := fun i h => by
      have := hs (i + 1) (by simpa using h)
      simpa using this
    cases i with
    | zero =>
      rw [List.flatten_cons, Nat.zero_mul, Nat.zero_add, List.getD, List.getElem?_append_left (by omega)]
      rfl
    | succ i =>
      have e := ih hB (i := i) (by simpa using hi)
      rw [List.flatten_cons, List.getD, List.getElem?_append_right (by rw [h0, Nat.add_mul]; omega), h0]
      rw [List.getD] at e
      rw [show (i + 1) * s + j - s = i * s + j by rw [Nat.add_mul]; omega, e]
      rfl
theorem flat_len' {B : List (List Nat)} {s : Nat} (hs : ∀ i, i < B.length → (B.getD i []).length = s) : B.flatten.length = B.length * s := by
  induction B with
  | nil => simp
  | cons x B ih =>
    have h0 : x.length = s := hs 0 (by simp)
    have hB : ∀ i, i < B.length → (B.getD i []).length = s := fun i h => by
      have := hs (i + 1) (by simpa using h)
      simpa using this
    rw [List.flatten_cons, List.length_append, ih hB, h0, List.length_cons, Nat.add_mul]
    omega
def blkB (p : Prt) (d : Nat) (w : Int) : List (List Nat) := if w = 0 then moveB p d else if w = 1 then noiseB p d else rootB p d
theorem blkB_ok {w : Int} : BOk fun p d => blkB p d w := by
  intro p d
  show 1 ≤ ordN p.k → ((blkB p d w).length : Int) = ordN p.k ∧ ∀ i, i < (blkB p d w).length → ((blkB p d w).getD i []).length = (blkB p d w).length
  unfold blkB
  split
  · exact moveB_ok p d
  · split
    · exact noiseB_ok p d
    · exact rootB_ok p d
end Go.Bn
namespace Go.Bn
open Go
/-! ## Times are numbers -/
theorem int_nan (z : Int) : nanB (FloatKind.f64.nearest z) = false := (write_ok (d := .number (z < 0) z.natAbs 0) rfl).1
theorem div_nan {x y : Nat} {s : Bool} {m : Nat} {i : Int} (hx : nanB x = false) (hy : Ieee.double.read y = .number s m i) (hm : m ≠ 0) : nanB (fdiv x y) = false := by
  unfold fdiv Ieee.Format.div
  rw [hy]
  unfold nanB at hx
  cases h : Ieee.double.read x with
  | nan a b => rw [h] at hx; cases hx
  | infinity a => exact (write_ok (d := .infinity (a ^^ s)) rfl).1
  | number a b c =>
    simp only [Ieee.Datum.quotient]
    rw [if_neg hm]
    exact (write_ok (d := .number (a ^^ s) _ _) rfl).1
theorem million : ∃ s m i, Ieee.double.read 0x412e848000000000 = .number s m i ∧ m ≠ 0 := ⟨false, 4294967296000000 * 2, -33, by decide +kernel, by decide⟩
theorem sec_nan {t : Int} : nanB (secR t).a = false := by
  unfold secR
  split
  · decide +kernel
  · obtain ⟨s, m, i, h1, h2⟩ := million
    exact div_nan (int_nan t) h1 h2
theorem ordN_some {k : Int} (h : 1 ≤ ordN k) : k = 0 ∨ k = 1 ∨ k = 2 ∨ k = 3 ∨ k = 4 := by
  unfold ordN at h
  split at h
  · omega
  · split at h
    · omega
    · split at h <;> omega
theorem ij_rng {i j : Nat} {s : Int} (hs : s ≤ 3) (hi : (i : Int) < s) (hj : (j : Int) < s) : 0 ≤ (i : Int) * s ∧ (i : Int) * s + s ≤ s * s ∧ s * s ≤ 9 := by
  have h1 : 0 ≤ (i : Int) * s := Int.mul_nonneg (by omega) (by omega)
  have h2 : ((i : Int) + 1) * s ≤ s * s := Int.mul_le_mul_of_nonneg_right (by omega) (by omega)
  have h3 : s * s ≤ 3 * 3 := Int.mul_le_mul hs hs (by omega) (by omega)
  rw [Int.add_mul, Int.one_mul] at h2
  omega
theorem flat_int {B : List (List Nat)} {s : Int} {i j : Nat} (hL : (B.length : Int) = s) (hR : ∀ i, i < B.length → (B.getD i []).length = B.length) (hi : (i : Int) < s) (hj : (j : Int) < s) :
    B.flatten.getD ((i : Int) * s + (j : Int)).toNat 0 = (B.getD i []).getD j 0 ∧ (B.flatten.length : Int) = s * s := by
  subst hL
  refine ⟨?_, by rw [flat_len' hR]; simp⟩
  rw [← flat_at hR (by omega) (show j < B.length by omega), show ((i : Int) * (B.length : Int) + (j : Int)).toNat = i * B.length + j by omega]
end Go.Bn
