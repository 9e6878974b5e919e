/-
  Plain facts on motions. Plain facts on blocks laid on a diagonal. Square roots; the blocks of roots. Plain facts on time that goes on. How far a rounded number lies from the exact one. Nearly the same: a relation on whole numbers that goes through products, sums and quotients; products of numbers, rounded.
-/
import Derived.Test.YtllmlkffknodmaaKc
import Derived.Test.YtllmlkffknodmaaKb
set_option linter.unusedVariables false
set_option linter.unusedSimpArgs false
namespace Go.Bn
open Go
section ops
variable {P : Program} {n : Nat} {ops : Array Oper} {Γ : Facts} {ρ : Env} {δ : VEnv} {τ : List VR}
variable {d : Nat} {ty : TypeId} {pos : String} {af : Array Edge}
theorem op_imin {x y : Operand} {ats : Array TypeId} {k : IntKind} {a b : Int} (hx : Lk Γ δ ρ x (isv (.int k a))) (hy : Lk Γ δ ρ y (isv (.int k b))) :
    OpOK P n ops Γ ρ δ τ ⟨some d, .call ⟨.builtin .min, #[x, y], ats⟩, ty, pos, af, none⟩ .no (.c (isv (.int k (min a b)))) dum :=
  ok_pure fun A c _ hr => by
    have h1 := (hr x _ (by simp [Op.operands, Call.operands]) hx).1
    have h2 := (hr y _ (by simp [Op.operands, Call.operands]) hy).1
    refine ⟨.int k (min a b), ?_, rfl, rfl⟩
    by_cases h : b < a
    · simp [execOp, resolve, invoke, builtin, Builtin.min_, Builtin.min2, h1, h2, h, show min a b = b by omega]
    · simp [execOp, resolve, invoke, builtin, Builtin.min_, Builtin.min2, h1, h2, h, show min a b = a by omega]
end ops
/-- A part of a motion: its kind, its axes, its noise, its fading. -/
structure Prt where
  k : Int
  a : Int
  n : Nat
  f : Nat
def prtC (p : Prt) : List SP := [isv (.int .i64 p.k), isv (.int .i64 p.a), flp p.n, flp p.f]
def prtU (p : Prt) : List SP := [isv (.int .i64 p.k), isv (.int .i64 p.a), u64p p.n, u64p p.f]
def prtD : Prt := ⟨0, 0, 0, 0⟩
theorem prtC_len (p : Prt) : (prtC p).length = 4 := rfl
theorem prtU_len (p : Prt) : (prtU p).length = 4 := rfl
def pcn (p : Prt) : Prt := ⟨p.k, p.a, cn p.n, cn p.f⟩
def MotP (ps : List Prt) : SP := aggp [slk 4 prtC ps]
def ordN (k : Int) : Int := if k = 0 ∨ k = 1 ∨ k = 4 then 1 else if k = 2 then 2 else if k = 3 then 3 else 0
theorem ordN_rng (k : Int) : 0 ≤ ordN k ∧ ordN k ≤ 3 := by unfold ordN; (repeat' split) <;> omega
def P100 : Nat := 0x4630000000000000
/-- May a noise or a fading not be so? -/
def loudB (x : Nat) : Bool := fcmp .lss x 0 || fcmp .gtr x P100
def partE (p : Prt) : Int := if ordN p.k = 0 then 140 else if p.a < 1 ∨ 12 < p.a then 1 else if finB p.n = false ∨ finB p.f = false then 4 else if (loudB p.n || loudB p.f) = true then 141 else 0
theorem partE_good {p : Prt} (h : partE p = 0) : 1 ≤ ordN p.k ∧ 1 ≤ p.a ∧ p.a ≤ 12 ∧ finB p.n = true ∧ finB p.f = true := by
  have := ordN_rng p.k
  unfold partE at h
  split at h
  · omega
  · split at h
    · omega
    · split at h
      · omega
      · rename_i h1 h2 h3
        refine ⟨by omega, by omega, by omega, ?_, ?_⟩
        · cases hf : finB p.n
          · exact (h3 (.inl hf)).elim
          · rfl
        · cases hf : finB p.f
          · exact (h3 (.inr hf)).elim
          · rfl
/-- How many numbers the first parts have. -/
def tot (ps : List Prt) : Nat → Int
  | 0 => 0
  | k + 1 => tot ps k + (ps.getD k prtD).a * ordN (ps.getD k prtD).k
/-- All parts up to k are good. -/
def PrtTo (ps : List Prt) (k : Nat) : Prop := ∀ q, q < k → partE (ps.getD q prtD) = 0
theorem prtTo_zero {ps : List Prt} : PrtTo ps 0 := fun q h => by omega
theorem prtTo_step {ps : List Prt} {k : Nat} (h : PrtTo ps k) (hk : partE (ps.getD k prtD) = 0) : PrtTo ps (k + 1) := fun q hq => by
  by_cases e : q = k
  · rw [e]; exact hk
  · exact h q (by omega)
theorem ax_rng {p : Prt} (h : partE p = 0) : 1 ≤ p.a * ordN p.k ∧ p.a * ordN p.k ≤ 36 := by
  obtain ⟨h1, h2, h3, _⟩ := partE_good h
  have h4 := (ordN_rng p.k).2
  have h5 : 1 * 1 ≤ p.a * ordN p.k := Int.mul_le_mul h2 h1 (by omega) (by omega)
  have h6 : p.a * ordN p.k ≤ 12 * 3 := Int.mul_le_mul h3 h4 (by omega) (by omega)
  omega
theorem tot_rng {ps : List Prt} : ∀ {k : Nat}, PrtTo ps k → (k : Int) ≤ tot ps k ∧ tot ps k ≤ 36 * k
  | 0, _ => by simp [tot]
  | k + 1, h => by
    have ih := tot_rng (ps := ps) (k := k) fun q hq => h q (by omega)
    have := ax_rng (h k (by omega))
    rw [tot]
    omega
theorem tot_mono {ps : List Prt} {k : Nat} : ∀ {m : Nat}, k ≤ m → PrtTo ps m → tot ps k ≤ tot ps m
  | 0, hk, _ => by rw [show k = 0 by omega]; exact Int.le_refl _
  | m + 1, hk, h => by
    by_cases e : k = m + 1
    · rw [e]; exact Int.le_refl _
    · have ih := tot_mono (ps := ps) (k := k) (m := m) (by omega) fun q hq => h q (by omega)
      have := ax_rng (h m (by omega))
      rw [tot]
      omega
def motE (ps : List Prt) : Int := if ps.length = 0 then 1 else if fstE (ps.map partE) ≠ 0 then fstE (ps.map partE) else if 12 < tot ps ps.length then 2 else 0
theorem fstE_prt {ps : List Prt} : ∀ {k : Nat}, k ≤ ps.length → PrtTo ps k → fstE (ps.map partE) = fstE ((ps.drop k).map partE)
  | 0, _, _ => by simp
  | k + 1, hk, h => by
    rw [fstE_prt (k := k) (by omega) fun q hq => h q (by omega), List.drop_eq_getElem_cons (by omega : k < ps.length), List.map_cons, fstE]
    have h2 : partE ps[k] = 0 := by
      have := h k (by omega)
      rw [List.getD, List.getElem?_eq_getElem (by omega : k < ps.length)] at this
      exact this
    rw [if_pos h2]
theorem mot_1 {ps : List Prt} (h : ps.length = 0) : (1 : Int) = motE ps := by unfold motE; rw [if_pos h]
theorem mot_e {ps : List Prt} {k : Nat} (h0 : ¬ ps.length = 0) (hk : k < ps.length) (h : PrtTo ps k) (he : ¬ partE (ps.getD k prtD) = 0) : partE (ps.getD k prtD) = motE ps := by
  have e : fstE (ps.map partE) = partE (ps.getD k prtD) := by
    rw [fstE_prt (Nat.le_of_lt hk) h, List.drop_eq_getElem_cons hk, List.map_cons, fstE, List.getD, List.getElem?_eq_getElem hk]
    rw [List.getD, List.getElem?_eq_getElem hk] at he
    exact if_neg he
  unfold motE
  rw [if_neg h0, e, if_pos he]
theorem mot_n {ps : List Prt} (h0 : ¬ ps.length = 0) (h : PrtTo ps ps.length) : motE ps = if 12 < tot ps ps.length then 2 else 0 := by
  have e : fstE (ps.map partE) = 0 := by
    rw [fstE_prt (Nat.le_refl _) h, List.drop_length]; rfl
  unfold motE
  rw [if_neg h0, e, if_neg (by simp)]
theorem mot_good {ps : List Prt} (h : motE ps = 0) : ps.length ≠ 0 ∧ PrtTo ps ps.length ∧ tot ps ps.length ≤ 12 := by
  unfold motE at h
  split at h
  · omega
  · rename_i h0
    split at h
    · rename_i h1; exact (h1 h).elim
    · rename_i h1
      have hp : PrtTo ps ps.length := by
        have h1 : fstE (ps.map partE) = 0 := by omega
        have key : ∀ (l : List Int), fstE l = 0 → ∀ x, x ∈ l → x = 0 := by
          intro l
          induction l with
          | nil => intro _ x hx; cases hx
          | cons a l ih =>
            intro hl x hx
            rw [fstE_zero] at hl
            rcases List.mem_cons.1 hx with rfl | hx
            · exact hl.1
            · exact ih hl.2 x hx
        intro q hq
        exact key _ h1 _ (List.mem_map.2 ⟨_, mem_getD prtD hq, rfl⟩)
      split at h
      · omega
      · exact ⟨h0, hp, by omega⟩
structure IR where
  a : Int
  e : Int
def resI (x : IR) : SP := tupp [isv (.int .i64 x.a), isv (.int .i64 x.e)]
theorem ret_I {Γ : Facts} {a e : Int} {x : IR} (h : (⟨a, e⟩ : IR) = x) : Sb Γ (tupp [isv (.int .i64 a), isv (.int .i64 e)]) (resI x) := by subst h; exact sb_refl
def dimR (ps : List Prt) : IR := if motE ps = 0 then ⟨tot ps ps.length, 0⟩ else ⟨0, motE ps⟩
theorem dimR_e {ps : List Prt} : (dimR ps).e = motE ps := by
  unfold dimR
  split
  · rename_i h; exact h.symm
  · rfl
theorem dimR_ok {ps : List Prt} (h : motE ps = 0) : dimR ps = ⟨tot ps ps.length, 0⟩ := if_pos h
/-! ## Times -/
def secR (t : Int) : NR := if t < -1125899906842624 ∨ 1125899906842624 < t then badN 1 else ⟨fdiv (FloatKind.f64.nearest t) 0x412e848000000000, 0⟩
/-! ## Noises -/
theorem sub_zero_eq {x : Nat} (hx : x < 2 ^ 64) : fcmp .eql (fsub x x) 0 = finB x := by
  rw [fsub_self hx]
  cases finB x <;> decide +kernel
theorem ford_some {x y : Nat} (hx : nanB x = false) (hy : nanB y = false) : ∃ o, ford x y = some o := by
  cases h : ford x y with
  | none => rcases ford_none h with h | h <;> simp [h] at hx hy
  | some o => exact ⟨o, rfl⟩
/-- The reference's way to ask. -/
theorem loud_ref {x : Nat} (hx : nanB x = false) : (fcmp .geq x 0 && fcmp .leq x P100) = !loudB x := by
  obtain ⟨o, ho⟩ := ford_some hx (show nanB 0 = false by decide +kernel)
  obtain ⟨u, hu⟩ := ford_some hx (show nanB P100 = false by decide +kernel)
  unfold loudB fcmp
  simp only [ho, hu]
  cases o <;> cases u <;> rfl
end Go.Bn
namespace Go.Bn
open Go
theorem slk_len {α : Type} {m : Nat} {mk : α → List SP} {xs : List α} {v : Value} {c : EW} (h : (slk m mk xs).H v c) : xs.length ≤ 9223372036854775807 := by
  obtain ⟨_, hv⟩ := h
  rcases hv with ⟨_, h2⟩ | ⟨ad, cap, _, h2, h3, _⟩
  · omega
  · simp only [maxLen] at h3; omega
theorem J_lenk {α : Type} {X : Cx} {Γ : Facts} {ρ : Env} {σ : List Res} {k : Code} {Q : Exit → Act → World → Prop} (t : Nat) {m : Nat} {mk : α → List SP} {xs : List α} (h : ρ.get t = some (slk m mk xs)) (hk : xs.length ≤ 9223372036854775807 → J X Γ ρ σ k Q) : J X Γ ρ σ k Q := fun a c hs =>
  hk (slk_len (hs.env t _ h)) a c hs
theorem J_lenP {X : Cx} {Γ : Facts} {ρ : Env} {σ : List Res} {k : Code} {Q : Exit → Act → World → Prop} (t : Nat) {ps : List Prt} (h : ρ.get t = some (MotP ps)) (hk : ps.length ≤ 9223372036854775807 → J X Γ ρ σ k Q) : J X Γ ρ σ k Q := fun a w hs => by
  obtain ⟨cs, _, _, h3⟩ := hs.env t _ h
  obtain ⟨u, _, _, hu⟩ := h3 0 _ rfl
  exact hk (slk_len hu) a w hs
theorem ordN_0 {k : Int} (h : k = 0 ∨ k = 1 ∨ k = 4) : ordN k = 1 := if_pos h
theorem ordN_2 {k : Int} (h : k = 2) : ordN k = 2 := by subst h; rfl
theorem ordN_3 {k : Int} (h : k = 3) : ordN k = 3 := by subst h; rfl
theorem ordN_n {k : Int} (h1 : ¬ (k = 0 ∨ k = 1 ∨ k = 4)) (h2 : ¬ k = 2) (h3 : ¬ k = 3) : ordN k = 0 := by unfold ordN; rw [if_neg h1, if_neg h2, if_neg h3]
def GoodL (ls : List Prt) : Prop := (∀ p, p ∈ ls → p.n < 2 ^ 64 ∧ p.f < 2 ^ 64) ∧ ls.length * 32 ≤ 140737488355328
theorem goodL_at {ls : List Prt} (h : GoodL ls) {k : Nat} (hk : k < ls.length) : (ls.getD k prtD).n < 2 ^ 64 ∧ (ls.getD k prtD).f < 2 ^ 64 := h.1 _ (mem_getD prtD hk)
theorem take_pcn {ls : List Prt} {k : Nat} (hk : k < ls.length) : (ls.map pcn).take (k + 1) = (ls.map pcn).take k ++ [pcn (ls.getD k prtD)] := by
  have e := take_snoc (xs := ls.map pcn) prtD (k := k) (by rw [List.length_map]; exact hk)
  rw [e]
  congr 2
  simp [List.getD, List.getElem?_map, List.getElem?_eq_getElem hk]
theorem tot_min {ps : List Prt} {k : Nat} (hp : PrtTo ps k) (h : partE (ps.getD k prtD) = 0) : min (min (tot ps k) 13 + (ps.getD k prtD).a * ordN (ps.getD k prtD).k) 13 = min (tot ps (k + 1)) 13 := by
  have := ax_rng h
  rw [tot]
  omega
theorem loud_nor {x y : Nat} (h : ((fcmp .lss x 0 = false ∧ fcmp .lss y 0 = false) ∧ fcmp .gtr x P100 = false) ∧ fcmp .gtr y P100 = false) : ¬ (loudB x || loudB y) = true := by
  unfold loudB
  obtain ⟨⟨⟨h1, h2⟩, h3⟩, h4⟩ := h
  rw [h1, h2, h3, h4]
  decide
theorem loud_or {x y : Nat} : (loudB x || loudB y) = true ↔ ((fcmp .lss x 0 = true ∨ fcmp .lss y 0 = true) ∨ fcmp .gtr x P100 = true) ∨ fcmp .gtr y P100 = true := by
  unfold loudB
  cases fcmp .lss x 0 <;> cases fcmp .lss y 0 <;> cases fcmp .gtr x P100 <;> cases fcmp .gtr y P100 <;> simp
/-! ## Blocks -/
abbrev BF := Prt → Nat → List (List Nat)
def moveB : BF := fun p d => if p.k = 2 then [[ONE, d], [0, ONE]] else if p.k = 3 then [[ONE, d, fdiv (fmul d d) 0x4000000000000000], [0, ONE, d], [0, 0, ONE]] else if p.k = 4 then [[fdiv ONE (fadd ONE (fmul p.f d))]] else [[ONE]]
def spB (k : Int) (a b d : Nat) : List (List Nat) := if k = 1 ∨ k = 4 then [[a]] else if k = 2 then [[fdiv (fmul (fmul a d) d) 0x4008000000000000, b], [b, a]]
  else if k = 3 then [[fdiv (fmul (fmul (fmul (fmul a d) d) d) d) 0x4034000000000000, fdiv (fmul (fmul (fmul a d) d) d) 0x4020000000000000, fdiv (fmul (fmul a d) d) 0x4018000000000000], [fdiv (fmul (fmul (fmul a d) d) d) 0x4020000000000000, fdiv (fmul (fmul a d) d) 0x4008000000000000, b], [fdiv (fmul (fmul a d) d) 0x4018000000000000, b, a]] else [[0]]
def noiseB : BF := fun p d => spB p.k (fmul p.n d) (fdiv (fmul (fmul p.n d) d) 0x4000000000000000) d
def BOk (g : BF) : Prop := ∀ p d, 1 ≤ ordN p.k → ((g p d).length : Int) = ordN p.k ∧ ∀ i, i < (g p d).length → ((g p d).getD i []).length = (g p d).length
theorem bok_of {g : BF} (h1 : ∀ p d, p.k = 0 ∨ p.k = 1 ∨ p.k = 4 → ∃ a, g p d = [[a]]) (h2 : ∀ p d, p.k = 2 → ∃ a b c e, g p d = [[a, b], [c, e]]) (h3 : ∀ p d, p.k = 3 → ∃ a b c e f i j k l, g p d = [[a, b, c], [e, f, i], [j, k, l]]) : BOk g := by
  intro p d ho
  by_cases e1 : p.k = 0 ∨ p.k = 1 ∨ p.k = 4
  · obtain ⟨a, ha⟩ := h1 p d e1
    rw [ha, ordN_0 e1]
    refine ⟨rfl, fun i hi => ?_⟩
    simp at hi
    subst hi
    rfl
  · by_cases e2 : p.k = 2
    · obtain ⟨a, b, c, e, ha⟩ := h2 p d e2
      rw [ha, ordN_2 e2]
      refine ⟨rfl, fun i hi => ?_⟩
      have : i = 0 ∨ i = 1 := by simp at hi; omega
      rcases this with rfl | rfl <;> rfl
    · by_cases e3 : p.k = 3
      · obtain ⟨a, b, c, e, f, i', j, k, l, ha⟩ := h3 p d e3
        rw [ha, ordN_3 e3]
        refine ⟨rfl, fun i hi => ?_⟩
        have : i = 0 ∨ i = 1 ∨ i = 2 := by simp at hi; omega
        rcases this with rfl | rfl | rfl <;> rfl
      · rw [ordN_n e1 e2 e3] at ho
        omega
theorem moveB_ok : BOk moveB := bok_of
  (fun p d h => by
    unfold moveB
    rw [if_neg (by omega), if_neg (by omega)]
    split <;> exact ⟨_, rfl⟩)
  (fun p d h => by unfold moveB; rw [if_pos h]; exact ⟨_, _, _, _, rfl⟩)
  (fun p d h => by unfold moveB; rw [if_neg (by omega), if_pos h]; exact ⟨_, _, _, _, _, _, _, _, _, rfl⟩)
theorem noiseB_ok : BOk noiseB := bok_of
  (fun p d h => by
    unfold noiseB spB
    split
    · exact ⟨_, rfl⟩
    · rw [if_neg (by omega), if_neg (by omega)]; exact ⟨_, rfl⟩)
  (fun p d h => by unfold noiseB spB; rw [if_neg (by omega), if_pos h]; exact ⟨_, _, _, _, rfl⟩)
  (fun p d h => by unfold noiseB spB; rw [if_neg (by omega), if_neg (by omega), if_pos h]; exact ⟨_, _, _, _, _, _, _, _, _, rfl⟩)
/-! ## Where they lie -/
def layJ (B : List (List Nat)) (n fr : Int) (i : Nat) (xs : List Nat) : Nat → List Nat
  | 0 => xs
  | j + 1 => (layJ B n fr i xs j).set ((fr + i) * n + fr + j).toNat ((B.getD i []).getD j 0)
def layI (B : List (List Nat)) (n fr : Int) (xs : List Nat) : Nat → List Nat
  | 0 => xs
  | i + 1 => layJ B n fr i (layI B n fr xs i) (B.getD i []).length
def layA (B : List (List Nat)) (n fr : Int) (xs : List Nat) : Nat → List Nat
  | 0 => xs
  | a + 1 => layI B n (fr + a * B.length) (layA B n fr xs a) B.length
def layP (g : BF) (d : Nat) (ps : List Prt) (n : Int) : Nat → List Nat
  | 0 => List.replicate (n * n).toNat 0
  | k + 1 => layA (g (ps.getD k prtD) d) n (tot ps k) (layP g d ps n k) (ps.getD k prtD).a.toNat
theorem layJ_len {B : List (List Nat)} {n fr : Int} {i : Nat} {xs : List Nat} : ∀ {j : Nat}, (layJ B n fr i xs j).length = xs.length
  | 0 => rfl
  | j + 1 => by rw [layJ, List.length_set, layJ_len]
theorem layI_len {B : List (List Nat)} {n fr : Int} {xs : List Nat} : ∀ {i : Nat}, (layI B n fr xs i).length = xs.length
  | 0 => rfl
  | i + 1 => by rw [layI, layJ_len, layI_len]
theorem layA_len {B : List (List Nat)} {n fr : Int} {xs : List Nat} : ∀ {a : Nat}, (layA B n fr xs a).length = xs.length
  | 0 => rfl
  | a + 1 => by rw [layA, layI_len, layA_len]
theorem layP_len {g : BF} {d : Nat} {ps : List Prt} {n : Int} : ∀ {k : Nat}, (layP g d ps n k).length = (n * n).toNat
  | 0 => by rw [layP, List.length_replicate]
  | k + 1 => by rw [layP, layA_len, layP_len]
theorem place_rng {n x y : Int} (hx0 : 0 ≤ x) (hx : x < n) (hy0 : 0 ≤ y) (hy : y < n) : 0 ≤ x * n ∧ x * n ≤ n * n - n := by
  have h1 : 0 ≤ x * n := Int.mul_nonneg hx0 (by omega)
  have h2 : x * n ≤ (n - 1) * n := Int.mul_le_mul_of_nonneg_right (by omega) (by omega)
  rw [Int.sub_mul] at h2
  omega
theorem sq_rng {n : Int} (h0 : 0 ≤ n) (h1 : n ≤ 12) : 0 ≤ n * n ∧ n * n ≤ 144 := by
  have := Int.mul_nonneg h0 h0
  have h2 : n * n ≤ 12 * 12 := Int.mul_le_mul h1 h1 h0 (by omega)
  omega
/-- The axes of a part lie inside. -/
theorem ax_in {ps : List Prt} {k : Nat} {a : Nat} (hg : PrtTo ps ps.length) (ht : tot ps ps.length ≤ 12) (hk : k < ps.length) (ha : (a : Int) < (ps.getD k prtD).a) :
    0 ≤ tot ps k ∧ 0 ≤ (a : Int) * ordN (ps.getD k prtD).k ∧ tot ps k + (a : Int) * ordN (ps.getD k prtD).k + ordN (ps.getD k prtD).k ≤ tot ps ps.length ∧ 1 ≤ ordN (ps.getD k prtD).k := by
  have h1 := tot_rng (ps := ps) (k := k) fun q hq => hg q (by omega)
  have h2 := tot_mono (ps := ps) (k := k + 1) (m := ps.length) (by omega) hg
  obtain ⟨h3, h4, h5, _⟩ := partE_good (hg k hk)
  have h6 : ((a : Int) + 1) * ordN (ps.getD k prtD).k ≤ (ps.getD k prtD).a * ordN (ps.getD k prtD).k := Int.mul_le_mul_of_nonneg_right (by omega) (by omega)
  have h7 : 0 ≤ (a : Int) * ordN (ps.getD k prtD).k := Int.mul_nonneg (by omega) (by omega)
  rw [Int.add_mul, Int.one_mul] at h6
  rw [tot] at h2
  omega
def blkM (g : BF) (ps : List Prt) (t : Int) : MR := if motE ps ≠ 0 then badM (motE ps) else if t < 0 ∨ 1125899906842624 < t then badM 1 else toldR (tot ps ps.length) (tot ps ps.length) (layP g (secR t).a ps (tot ps ps.length) ps.length)
theorem sec_ok {t : Int} (h : ¬ (t < 0 ∨ 1125899906842624 < t)) : secR t = ⟨(secR t).a, 0⟩ := by
  have e : secR t = ⟨fdiv (FloatKind.f64.nearest t) 0x412e848000000000, 0⟩ := if_neg (by omega)
  rw [e]
end Go.Bn
namespace Go.Bn
open Go
theorem siz_B {r c : Int} (hs : Siz r c) : (sizB r = false ∨ sizB c = false) = False := by
  obtain ⟨h1, h2, h3, h4⟩ := hs
  have e1 : sizB r = true := sizB_iff.2 ⟨h1, h2⟩
  have e2 : sizB c = true := sizB_iff.2 ⟨h3, h4⟩
  rw [e1, e2]
  simp
theorem siz_repl {r c : Int} (hs : Siz r c) : List.replicate (r.toNat * c.toNat) (0 : Nat) = List.replicate (r * c).toNat 0 := by
  obtain ⟨h1, h2, h3, h4⟩ := hs
  rw [Int.toNat_mul h1 h3]
end Go.Bn
namespace Go.Bn
open Go
theorem blkM_1 {g : BF} {ps : List Prt} {t : Int} (h : ¬ motE ps = 0) : badM (motE ps) = blkM g ps t := by unfold blkM; rw [if_pos h]
theorem blkM_2 {g : BF} {ps : List Prt} {t : Int} (h : motE ps = 0) (h2 : t < 0 ∨ 1125899906842624 < t) : badM 1 = blkM g ps t := by unfold blkM; rw [if_neg (by simp [h]), if_pos h2]
theorem blkM_3 {g : BF} {ps : List Prt} {t n : Int} {k : Nat} (h : motE ps = 0) (h2 : ¬ (t < 0 ∨ 1125899906842624 < t)) (hn : n = tot ps ps.length) (hk : k = ps.length) : toldR n n (layP g (secR t).a ps n k) = blkM g ps t := by
  subst hk hn
  unfold blkM
  rw [if_neg (by simp [h]), if_neg h2]
theorem ax_next {x L : Int} {a : Nat} : x + (a : Int) * L + L = x + ((a + 1 : Nat) : Int) * L := by
  rw [Int.natCast_add, Int.add_mul]
  omega
end Go.Bn
namespace Go.Bn
open Go
theorem prt_1 {p : Prt} (h : ordN p.k = 0) : partE p = 140 := by unfold partE; rw [if_pos h]
theorem prt_2 {p : Prt} (h1 : ¬ ordN p.k = 0) (h : p.a < 1 ∨ 12 < p.a) : partE p = 1 := by unfold partE; rw [if_neg h1, if_pos h]
theorem prt_3 {p : Prt} (h1 : ¬ ordN p.k = 0) (h2 : ¬ (p.a < 1 ∨ 12 < p.a)) (h : [p.n, p.f].all finB = false) : partE p = 4 := by
  unfold partE
  rw [if_neg h1, if_neg h2, if_pos]
  simp only [List.all_cons, List.all_nil, Bool.and_true, Bool.and_eq_false_iff] at h
  exact h
theorem all2_of {a b : Nat} (h : [a, b].all finB = true) : finB a = true ∧ finB b = true := by
  simp only [List.all_cons, List.all_nil, Bool.and_true, Bool.and_eq_true] at h
  exact h
def calmB (x : Nat) : Bool := fcmp .geq x 0 && fcmp .leq x P100
theorem calm_loud {x : Nat} (h : finB x = true) : calmB x = !loudB x := loud_ref (fin_not_nan h)
theorem prt_4 {p : Prt} (h1 : ¬ ordN p.k = 0) (h2 : ¬ (p.a < 1 ∨ 12 < p.a)) (h3 : [p.n, p.f].all finB = true) (h : (!calmB p.n || !calmB p.f) = true) : partE p = 141 := by
  obtain ⟨h5, h6⟩ := all2_of h3
  rw [calm_loud h5, calm_loud h6, Bool.not_not, Bool.not_not] at h
  unfold partE
  rw [if_neg h1, if_neg h2, if_neg (by simp [h5, h6]), if_pos h]
theorem prt_5 {p : Prt} (h1 : ¬ ordN p.k = 0) (h2 : ¬ (p.a < 1 ∨ 12 < p.a)) (h3 : [p.n, p.f].all finB = true) (h : (!calmB p.n || !calmB p.f) = false) : partE p = 0 := by
  obtain ⟨h5, h6⟩ := all2_of h3
  rw [calm_loud h5, calm_loud h6, Bool.not_not, Bool.not_not] at h
  unfold partE
  rw [if_neg h1, if_neg h2, if_neg (by simp [h5, h6]), if_neg (by simp [h])]
theorem mot_c {ps : List Prt} {k : Nat} {c : Int} (h0 : ¬ ps.length = 0) (hk : k < ps.length) (h : PrtTo ps k) (hc : partE (ps.getD k prtD) = c) (hn : c ≠ 0) : c = motE ps := by
  subst hc
  exact mot_e h0 hk h hn
theorem when_tot {x : Int} : whenE (cmpB .gtr (min x 13) 12) 2 = if 12 < x then 2 else 0 := by
  unfold whenE cmpB
  by_cases h : 12 < x
  · rw [if_pos h, if_pos (by simp; omega)]
  · rw [if_neg h, if_neg (by simp; omega)]
/-! ## Places picked -/
def pickT (n : Int) (es : List Int) : Nat → List Nat
  | 0 => List.replicate ((es.length : Int) * n).toNat 0
  | k + 1 => (pickT n es k).set ((k : Int) * n + es.getD k 0).toNat ONE
theorem pickT_len {n : Int} {es : List Int} : ∀ {k : Nat}, (pickT n es k).length = ((es.length : Int) * n).toNat
  | 0 => by rw [pickT, List.length_replicate]
  | k + 1 => by rw [pickT, List.length_set, pickT_len]
def insE (n : Int) (es : List Int) : Bool := es.all fun e => decide (0 ≤ e ∧ e < n)
def pickM (ps : List Prt) (es : List Int) : MR := if motE ps ≠ 0 then badM (motE ps) else if es.length < 1 ∨ 6 < es.length then badM 1 else if insE (tot ps ps.length) es = false then badM 1 else ⟨es.length, tot ps ps.length, pickT (tot ps ps.length) es es.length, 0⟩
theorem pickM_1 {ps : List Prt} {es : List Int} (h : ¬ motE ps = 0) : badM (motE ps) = pickM ps es := by unfold pickM; rw [if_pos h]
theorem pickM_2 {ps : List Prt} {es : List Int} (h : motE ps = 0) (h2 : es.length < 1 ∨ 6 < es.length) : badM 1 = pickM ps es := by unfold pickM; rw [if_neg (by simp [h]), if_pos h2]
theorem pickM_3 {ps : List Prt} {es : List Int} {n : Int} {k : Nat} (h : motE ps = 0) (hn : n = tot ps ps.length) (hk : k < es.length) (hb : es.getD k 0 < 0 ∨ n ≤ es.getD k 0) : badM 1 = pickM ps es := by
  subst hn
  unfold pickM
  rw [if_neg (by simp [h])]
  by_cases h2 : es.length < 1 ∨ 6 < es.length
  · rw [if_pos h2]
  · rw [if_neg h2, if_pos]
    unfold insE
    rw [List.all_eq_false]
    exact ⟨_, mem_getD 0 hk, by rw [Bool.not_eq_true, decide_eq_false_iff_not]; omega⟩
def PlTo (n : Int) (es : List Int) (k : Nat) : Prop := ∀ q, q < k → 0 ≤ es.getD q 0 ∧ es.getD q 0 < n
theorem plTo_zero {n : Int} {es : List Int} : PlTo n es 0 := fun q h => by omega
theorem plTo_step {n : Int} {es : List Int} {k : Nat} (h : PlTo n es k) (hk : 0 ≤ es.getD k 0 ∧ es.getD k 0 < n) : PlTo n es (k + 1) := fun q hq => by
  by_cases e : q = k
  · rw [e]; exact hk
  · exact h q (by omega)
theorem pickM_4 {ps : List Prt} {es : List Int} {n : Int} {k : Nat} (h : motE ps = 0) (h2 : ¬ (es.length < 1 ∨ 6 < es.length)) (hn : n = tot ps ps.length) (hk : k = es.length) (hp : PlTo n es k) : (⟨(es.length : Int), n, pickT n es k, 0⟩ : MR) = pickM ps es := by
  subst hn hk
  unfold pickM
  rw [if_neg (by simp [h]), if_neg h2, if_neg]
  unfold insE
  rw [Bool.not_eq_false, List.all_eq_true]
  intro x hx
  obtain ⟨q, hq, rfl⟩ := List.getElem_of_mem hx
  have := hp q hq
  rw [List.getD, List.getElem?_eq_getElem hq] at this
  exact decide_eq_true this
theorem pick_rng {n e : Int} {k L : Nat} (hk : k < L) (he : 0 ≤ e) (he2 : e < n) : 0 ≤ (k : Int) * n ∧ (k : Int) * n + n ≤ (L : Int) * n := by
  have h1 : 0 ≤ (k : Int) * n := Int.mul_nonneg (by omega) (by omega)
  have h2 : ((k : Int) + 1) * n ≤ (L : Int) * n := Int.mul_le_mul_of_nonneg_right (by omega) (by omega)
  rw [Int.add_mul, Int.one_mul] at h2
  exact ⟨h1, h2⟩
theorem pick_sq {n : Int} {L : Nat} (hL : L ≤ 6) (h0 : 0 ≤ n) (h1 : n ≤ 12) : 0 ≤ (L : Int) * n ∧ (L : Int) * n ≤ 72 := by
  have := Int.mul_nonneg (show (0 : Int) ≤ (L : Int) by omega) h0
  have h2 : (L : Int) * n ≤ 6 * 12 := Int.mul_le_mul (by omega) h1 h0 (by omega)
  exact ⟨this, by omega⟩
def tolB (r c : Int) (xs : List Nat) (e : Int) (r' c' : Int) (ys : List Nat) (n : Int) : Bool := decide (e = n) && decide (r = r') && decide (c = c') && decide (xs = ys)
theorem tolB_self {x : MR} : tolB x.r x.c x.a x.e x.r x.c x.a x.e = true := by unfold tolB; simp
end Go.Bn
namespace Go.Bn
open Go
def fsqrt (x : Nat) : Nat := fop (Ieee.double.sqrt x)
theorem root_ok {x d : Ieee.Datum} {n : Nat} (h : x.root n = some d) : d.isNaN = false ∧ x.isNaN = false := by
  cases x with
  | nan s f => simp only [Ieee.Datum.root] at h; cases h
  | infinity s =>
    simp only [Ieee.Datum.root] at h
    split at h
    · cases h
    · cases h; exact ⟨rfl, rfl⟩
  | number s m i =>
    simp only [Ieee.Datum.root] at h
    split at h
    · cases h; exact ⟨rfl, rfl⟩
    · split at h
      · cases h
      · cases h; exact ⟨rfl, rfl⟩
theorem sqrt_some {x r : Nat} (h : Ieee.double.sqrt x = some r) : nanB r = false ∧ r < 2 ^ 64 ∧ nanB x = false := by
  unfold Ieee.Format.sqrt at h
  rw [Option.map_eq_some_iff] at h
  obtain ⟨d, h1, rfl⟩ := h
  obtain ⟨h2, h3⟩ := root_ok h1
  exact ⟨(write_ok h2).1, (write_ok h2).2, h3⟩
theorem fsqrt_cn {x : Nat} : fsqrt (cn x) = match Ieee.double.sqrt x with | some r => r | none => NAN := by
  unfold fsqrt
  cases h : Ieee.double.sqrt x with
  | some r =>
    obtain ⟨_, _, h1⟩ := sqrt_some h
    rw [cn_of_not h1, h]; rfl
  | none =>
    cases h' : Ieee.double.sqrt (cn x) with
    | none => rfl
    | some r =>
      obtain ⟨_, _, h1⟩ := sqrt_some h'
      rw [nanB_cn] at h1
      rw [cn_of_not h1, h] at h'
      cases h'
section ops
variable {P : Program} {n : Nat} {ops : Array Oper} {Γ : Facts} {ρ : Env} {δ : VEnv} {τ : List VR}
variable {d : Nat} {ty : TypeId} {pos : String} {af : Array Edge}
theorem law_sqrt {x : Nat} : ∀ (v : Value) (c : EW), (flp x).H v c → ∃ u m, (Go.Extern.MathSqrt.sqrt #[v]).run P c.w = .ok u { c.w with drawn := m } ∧ ∀ c', (flp (fsqrt x)).H u c' := by
  rintro v c ⟨b, h1, h2, h3⟩
  subst h1 h3
  rw [fsqrt_cn]
  have hF : Go.Extern.MathSqrt.sqrt #[.float .f64 b] = (match Ieee.double.sqrt b with | some r => pure (.float .f64 r) | none => do pure (.float .f64 (← choose (.nanBits .f64 b b)))) := rfl
  cases hs : Ieee.double.sqrt b with
  | some r =>
    obtain ⟨g1, g2, _⟩ := sqrt_some hs
    exact ⟨.float .f64 r, c.w.drawn, by rw [hF, hs]; simp [Sem.run], fun _ => ⟨r, rfl, g2, cn_of_not g1⟩⟩
  | none =>
    refine ⟨.float .f64 ((Question.nanBits .f64 b b).cut (c.w.tape c.w.drawn (.nanBits .f64 b b))), c.w.drawn + 1, ?_, fun _ => ⟨_, rfl, (nan_drawn .nanBits (.inl rfl) b b _).2, cn_of_nan (nan_drawn .nanBits (.inl rfl) b b _).1⟩⟩
    rw [hF, hs]
    simp [choose, Sem.run, Question.forced]
theorem op_f64sqrt {f : Nat} {x : Operand} {v : Nat} {ats : Array TypeId} (hf : Ext P f Go.Extern.MathSqrt.sqrt) (hx : Lk Γ δ ρ x (flp v)) :
    OpOK P n ops Γ ρ δ τ ⟨some d, .call ⟨.value (.func f), #[x], ats⟩, ty, pos, af, none⟩ .no (.c (flp (fsqrt v))) dum := op_ext hf hx law_sqrt
end ops
/-! ## The blocks of roots -/
def rtB (k : Int) (a d : Nat) : List (List Nat) := if k = 1 ∨ k = 4 then [[a]] else if k = 2 then [[fdiv (fmul a d) (fsqrt 0x4008000000000000), 0], [fdiv (fmul a (fsqrt 0x4008000000000000)) 0x4000000000000000, fdiv a 0x4000000000000000]]
  else if k = 3 then [[fdiv (fmul (fmul a d) d) (fsqrt 0x4034000000000000), 0, 0], [fdiv (fmul (fmul a d) (fsqrt 0x4034000000000000)) 0x4020000000000000, fdiv (fmul a d) (fsqrt 0x4048000000000000), 0], [fdiv (fmul a (fsqrt 0x4034000000000000)) 0x4018000000000000, fdiv (fmul a (fsqrt 0x4048000000000000)) 0x4028000000000000, fdiv a 0x4008000000000000]] else [[0]]
def rootB : BF := fun p d => rtB p.k (fsqrt (fmul p.n d)) d
theorem rootB_ok : BOk rootB := bok_of
  (fun p d h => by
    unfold rootB rtB
    split
    · exact ⟨_, rfl⟩
    · rw [if_neg (by omega), if_neg (by omega)]; exact ⟨_, rfl⟩)
  (fun p d h => by unfold rootB rtB; rw [if_neg (by omega), if_pos h]; exact ⟨_, _, _, _, rfl⟩)
  (fun p d h => by unfold rootB rtB; rw [if_neg (by omega), if_neg (by omega), if_pos h]; exact ⟨_, _, _, _, _, _, _, _, _, rfl⟩)
/-! ## The reference's blocks: one list -/
theorem flat_at {B : List (List Nat)} {s i j : Nat} (hs : ∀ i, i < B.length → (B.getD i []).length = s) (hi : i < B.length) (hj : j < s) : B.flatten.getD (i * s + j) 0 = (B.getD i []).getD j 0 := by
  induction B generalizing i with
  | nil => simp at hi
  | cons x B ih =>
    have h0 : x.length = s := hs 0 (by simp)
    have hB : ∀ i, i < B.length → (B.getD i []).length = s := fun i h => by
      have := hs (i + 1) (by simpa using h)
      simpa using this
    cases i with
    | zero =>
      rw [List.flatten_cons, Nat.zero_mul, Nat.zero_add, List.getD, List.getElem?_append_left (by omega)]
      rfl
    | succ i =>
      have e := ih hB (i := i) (by simpa using hi)
      rw [List.flatten_cons, List.getD, List.getElem?_append_right (by rw [h0, Nat.add_mul]; omega), h0]
      rw [List.getD] at e
      rw [show (i + 1) * s + j - s = i * s + j by rw [Nat.add_mul]; omega, e]
      rfl
theorem flat_len' {B : List (List Nat)} {s : Nat} (hs : ∀ i, i < B.length → (B.getD i []).length = s) : B.flatten.length = B.length * s := by
  induction B with
  | nil => simp
  | cons x B ih =>
    have h0 : x.length = s := hs 0 (by simp)
    have hB : ∀ i, i < B.length → (B.getD i []).length = s := fun i h => by
      have := hs (i + 1) (by simpa using h)
      simpa using this
    rw [List.flatten_cons, List.length_append, ih hB, h0, List.length_cons, Nat.add_mul]
    omega
def blkB (p : Prt) (d : Nat) (w : Int) : List (List Nat) := if w = 0 then moveB p d else if w = 1 then noiseB p d else rootB p d
theorem blkB_ok {w : Int} : BOk fun p d => blkB p d w := by
  intro p d
  show 1 ≤ ordN p.k → ((blkB p d w).length : Int) = ordN p.k ∧ ∀ i, i < (blkB p d w).length → ((blkB p d w).getD i []).length = (blkB p d w).length
  unfold blkB
  split
  · exact moveB_ok p d
  · split
    · exact noiseB_ok p d
    · exact rootB_ok p d
end Go.Bn
namespace Go.Bn
open Go
/-! ## Times are numbers -/
theorem int_nan (z : Int) : nanB (FloatKind.f64.nearest z) = false := (write_ok (d := .number (z < 0) z.natAbs 0) rfl).1
theorem div_nan {x y : Nat} {s : Bool} {m : Nat} {i : Int} (hx : nanB x = false) (hy : Ieee.double.read y = .number s m i) (hm : m ≠ 0) : nanB (fdiv x y) = false := by
  unfold fdiv Ieee.Format.div
  rw [hy]
  unfold nanB at hx
  cases h : Ieee.double.read x with
  | nan a b => rw [h] at hx; cases hx
  | infinity a => exact (write_ok (d := .infinity (a ^^ s)) rfl).1
  | number a b c =>
    simp only [Ieee.Datum.quotient]
    rw [if_neg hm]
    exact (write_ok (d := .number (a ^^ s) _ _) rfl).1
theorem million : ∃ s m i, Ieee.double.read 0x412e848000000000 = .number s m i ∧ m ≠ 0 := ⟨false, 4294967296000000 * 2, -33, by decide +kernel, by decide⟩
theorem sec_nan {t : Int} : nanB (secR t).a = false := by
  unfold secR
  split
  · decide +kernel
  · obtain ⟨s, m, i, h1, h2⟩ := million
    exact div_nan (int_nan t) h1 h2
theorem ordN_some {k : Int} (h : 1 ≤ ordN k) : k = 0 ∨ k = 1 ∨ k = 2 ∨ k = 3 ∨ k = 4 := by
  unfold ordN at h
  split at h
  · omega
  · split at h
    · omega
    · split at h <;> omega
theorem ij_rng {i j : Nat} {s : Int} (hs : s ≤ 3) (hi : (i : Int) < s) (hj : (j : Int) < s) : 0 ≤ (i : Int) * s ∧ (i : Int) * s + s ≤ s * s ∧ s * s ≤ 9 := by
  have h1 : 0 ≤ (i : Int) * s := Int.mul_nonneg (by omega) (by omega)
  have h2 : ((i : Int) + 1) * s ≤ s * s := Int.mul_le_mul_of_nonneg_right (by omega) (by omega)
  have h3 : s * s ≤ 3 * 3 := Int.mul_le_mul hs hs (by omega) (by omega)
  rw [Int.add_mul, Int.one_mul] at h2
  omega
theorem flat_int {B : List (List Nat)} {s : Int} {i j : Nat} (hL : (B.length : Int) = s) (hR : ∀ i, i < B.length → (B.getD i []).length = B.length) (hi : (i : Int) < s) (hj : (j : Int) < s) :
    B.flatten.getD ((i : Int) * s + (j : Int)).toNat 0 = (B.getD i []).getD j 0 ∧ (B.flatten.length : Int) = s * s := by
  subst hL
  refine ⟨?_, by rw [flat_len' hR]; simp⟩
  rw [← flat_at hR (by omega) (show j < B.length by omega), show ((i : Int) * (B.length : Int) + (j : Int)).toNat = i * B.length + j by omega]
end Go.Bn
namespace Go.Bn
open Go
/-! ## Where blocks lie -/
section
variable {B : List (List Nat)} {n fr : Int} {xs : List Nat}
theorem layJ_at {i : Nat} (hn : Siz n n) (hl : (xs.length : Int) = n * n) (hf : 0 ≤ fr) (hi : fr + (i : Int) < n) :
    ∀ {j : Nat}, fr + (j : Int) ≤ n → ∀ {x y : Int}, Pl n n x y → mat n (layJ B n fr i xs j) x y = if x = fr + (i : Int) ∧ fr ≤ y ∧ y < fr + (j : Int) then (B.getD i []).getD (y - fr).toNat 0 else mat n xs x y
  | 0, _, x, y, hp => by rw [layJ, if_neg (by omega)]
  | j + 1, hj, x, y, hp => by
    have hp1 : Pl n n (fr + (i : Int)) (fr + (j : Int)) := ⟨by omega, hi, by omega, by omega⟩
    rw [layJ, Int.add_assoc ((fr + (i : Int)) * n), mat_set hn (by rw [layJ_len]; exact hl) hp1 hp, layJ_at hn hl hf hi (by omega) hp]
    by_cases h : x = fr + (i : Int) ∧ y = fr + (j : Int)
    · rw [if_pos h, if_pos ⟨h.1, by omega, by omega⟩, show (y - fr).toNat = j by omega]
    · rw [if_neg h]
      by_cases h2 : x = fr + (i : Int) ∧ fr ≤ y ∧ y < fr + (j : Int)
      · rw [if_pos h2, if_pos ⟨h2.1, h2.2.1, by omega⟩]
      · rw [if_neg h2, if_neg (by omega)]
theorem layI_at (hn : Siz n n) (hl : (xs.length : Int) = n * n) (hf : 0 ≤ fr) (hL : fr + (B.length : Int) ≤ n) (hR : ∀ i, i < B.length → (B.getD i []).length = B.length) :
    ∀ {i : Nat}, i ≤ B.length → ∀ {x y : Int}, Pl n n x y → mat n (layI B n fr xs i) x y = if fr ≤ x ∧ x < fr + (i : Int) ∧ fr ≤ y ∧ y < fr + (B.length : Int) then (B.getD (x - fr).toNat []).getD (y - fr).toNat 0 else mat n xs x y
  | 0, _, x, y, hp => by rw [layI, if_neg (by omega)]
  | i + 1, hi, x, y, hp => by
    rw [layI, layJ_at hn (by rw [layI_len]; exact hl) hf (by omega) (by rw [hR i (by omega)]; omega) hp, layI_at hn hl hf hL hR (by omega) hp, hR i (by omega)]
    by_cases h : x = fr + (i : Int) ∧ fr ≤ y ∧ y < fr + (B.length : Int)
    · rw [if_pos h, if_pos ⟨by omega, by omega, h.2⟩, show (x - fr).toNat = i by omega]
    · rw [if_neg h]
      by_cases h2 : fr ≤ x ∧ x < fr + (i : Int) ∧ fr ≤ y ∧ y < fr + (B.length : Int)
      · rw [if_pos h2, if_pos ⟨h2.1, by omega, h2.2.2⟩]
      · rw [if_neg h2, if_neg (by omega)]
theorem layA_out (hn : Siz n n) (hl : (xs.length : Int) = n * n) (hf : 0 ≤ fr) (hR : ∀ i, i < B.length → (B.getD i []).length = B.length) :
    ∀ {a : Nat}, fr + (a : Int) * (B.length : Int) ≤ n → ∀ {x y : Int}, Pl n n x y → (x < fr ∨ fr + (a : Int) * (B.length : Int) ≤ x) → mat n (layA B n fr xs a) x y = mat n xs x y
  | 0, _, _, _, _, _ => rfl
  | a + 1, ha, x, y, hp, hx => by
    rw [← ax_next] at ha hx
    have h0 : 0 ≤ (a : Int) * (B.length : Int) := Int.mul_nonneg (by omega) (by omega)
    rw [layA, layI_at hn (by rw [layA_len]; exact hl) (by omega) (by omega) hR (Nat.le_refl _) hp, if_neg (by omega)]
    exact layA_out hn hl hf hR (by omega) hp (by omega)
theorem layA_at (hn : Siz n n) (hl : (xs.length : Int) = n * n) (hf : 0 ≤ fr) (hR : ∀ i, i < B.length → (B.getD i []).length = B.length) {q : Nat} :
    ∀ {a : Nat}, q < a → fr + (a : Int) * (B.length : Int) ≤ n → ∀ {x y : Int}, Pl n n x y → fr + (q : Int) * (B.length : Int) ≤ x → x < fr + (q : Int) * (B.length : Int) + (B.length : Int) →
      mat n (layA B n fr xs a) x y = if fr + (q : Int) * (B.length : Int) ≤ y ∧ y < fr + (q : Int) * (B.length : Int) + (B.length : Int) then (B.getD (x - (fr + (q : Int) * (B.length : Int))).toNat []).getD (y - (fr + (q : Int) * (B.length : Int))).toNat 0 else mat n xs x y
  | 0, hq, _, _, _, _, _, _ => by omega
  | a + 1, hq, ha, x, y, hp, h1, h2 => by
    rw [← ax_next] at ha
    have h0 : 0 ≤ (a : Int) * (B.length : Int) := Int.mul_nonneg (by omega) (by omega)
    rw [layA, layI_at hn (by rw [layA_len]; exact hl) (by omega) (by omega) hR (Nat.le_refl _) hp]
    by_cases h : a = q
    · subst h
      by_cases h3 : fr + (a : Int) * (B.length : Int) ≤ y ∧ y < fr + (a : Int) * (B.length : Int) + (B.length : Int)
      · rw [if_pos ⟨h1, h2, h3.1, h3.2⟩, if_pos h3]
      · rw [if_neg (by omega), if_neg h3]
        exact layA_out hn hl hf hR (by omega) hp (.inr h1)
    · have h4 : ((q : Int) + 1) * (B.length : Int) ≤ (a : Int) * (B.length : Int) := Int.mul_le_mul_of_nonneg_right (by omega) (by omega)
      rw [Int.add_mul, Int.one_mul] at h4
      rw [if_neg (by omega)]
      exact layA_at hn hl hf hR (by omega) (by omega) hp h1 h2
end
section
variable {g : BF} {d : Nat} {ps : List Prt} {n : Int}
theorem toNat_a {ps : List Prt} {k : Nat} (hg : PrtTo ps ps.length) (hk : k < ps.length) : (((ps.getD k prtD).a.toNat : Nat) : Int) = (ps.getD k prtD).a := by
  obtain ⟨_, h, _⟩ := partE_good (hg k hk)
  omega
theorem layP_high (hb : BOk g) (hg : PrtTo ps ps.length) (hn : Siz n n) (ht : tot ps ps.length = n) : ∀ {k : Nat}, k ≤ ps.length → ∀ {x y : Int}, Pl n n x y → tot ps k ≤ x → mat n (layP g d ps n k) x y = 0
  | 0, _, _, _, _, _ => mat_replicate
  | k + 1, hk, x, y, hp, hx => by
    have h1 := tot_mono (ps := ps) (k := k + 1) (m := ps.length) hk hg
    have h0 := (tot_rng (ps := ps) (k := k) fun q hq => hg q (by omega)).1
    obtain ⟨h2, h3⟩ := hb (ps.getD k prtD) d (partE_good (hg k (by omega))).1
    have h4 := ax_rng (hg k (by omega))
    have ha := toNat_a hg (show k < ps.length by omega)
    rw [tot] at hx h1
    have h5 : (((ps.getD k prtD).a.toNat : Nat) : Int) * ((g (ps.getD k prtD) d).length : Int) = (ps.getD k prtD).a * ordN (ps.getD k prtD).k := by rw [ha, h2]
    have hl : ((layP g d ps n k).length : Int) = n * n := by rw [layP_len]; have := hn.mul; omega
    rw [layP, layA_out hn hl (by omega) h3 (by rw [h5]; omega) hp (.inr (by rw [h5]; omega))]
    exact layP_high hb hg hn ht (by omega) hp (by omega)
theorem layP_at (hb : BOk g) (hg : PrtTo ps ps.length) (hn : Siz n n) (ht : tot ps ps.length = n) {k q : Nat} (hq : (q : Int) < (ps.getD k prtD).a) :
    ∀ {m : Nat}, k < m → m ≤ ps.length → ∀ {x y : Int}, Pl n n x y → tot ps k + (q : Int) * ordN (ps.getD k prtD).k ≤ x → x < tot ps k + (q : Int) * ordN (ps.getD k prtD).k + ordN (ps.getD k prtD).k →
      mat n (layP g d ps n m) x y = if tot ps k + (q : Int) * ordN (ps.getD k prtD).k ≤ y ∧ y < tot ps k + (q : Int) * ordN (ps.getD k prtD).k + ordN (ps.getD k prtD).k then ((g (ps.getD k prtD) d).getD (x - (tot ps k + (q : Int) * ordN (ps.getD k prtD).k)).toNat []).getD (y - (tot ps k + (q : Int) * ordN (ps.getD k prtD).k)).toNat 0 else 0
  | 0, hk, _, _, _, _, _, _ => by omega
  | m + 1, hk, hm, x, y, hp, hx1, hx2 => by
    have h1 := tot_mono (ps := ps) (k := m + 1) (m := ps.length) hm hg
    have h0 := (tot_rng (ps := ps) (k := m) fun q hq => hg q (by omega)).1
    obtain ⟨h2, h3⟩ := hb (ps.getD m prtD) d (partE_good (hg m (by omega))).1
    have h4 := ax_rng (hg m (by omega))
    have ha := toNat_a hg (show m < ps.length by omega)
    rw [tot] at h1
    have h5 : (((ps.getD m prtD).a.toNat : Nat) : Int) * ((g (ps.getD m prtD) d).length : Int) = (ps.getD m prtD).a * ordN (ps.getD m prtD).k := by rw [ha, h2]
    have hl : ((layP g d ps n m).length : Int) = n * n := by rw [layP_len]; have := hn.mul; omega
    by_cases e : m = k
    · subst e
      rw [layP, layA_at hn hl (by omega) h3 (q := q) (by omega) (by rw [h5]; omega) hp (by rw [h2]; exact hx1) (by rw [h2]; exact hx2), h2]
      rw [layP_high hb hg hn ht (by omega) hp (by have := Int.mul_nonneg (show (0 : Int) ≤ q by omega) (ordN_rng (ps.getD m prtD).k).1; omega)]
    · have h6 := tot_mono (ps := ps) (k := k + 1) (m := m) (by omega) fun q hq => hg q (by omega)
      have h7 : ((q : Int) + 1) * ordN (ps.getD k prtD).k ≤ (ps.getD k prtD).a * ordN (ps.getD k prtD).k := Int.mul_le_mul_of_nonneg_right (by omega) (ordN_rng _).1
      rw [Int.add_mul, Int.one_mul] at h7
      rw [tot] at h6
      rw [layP, layA_out hn hl (by omega) h3 (by rw [h5]; omega) hp (.inl (by omega))]
      exact layP_at hb hg hn ht hq (by omega) (by omega) hp hx1 hx2
/-- Each row lies in a block. -/
theorem blk_of {x : Int} (h0 : 0 ≤ x) : ∀ {m : Nat}, x < tot ps m → PrtTo ps m → ∃ k q : Nat, k < m ∧ (q : Int) < (ps.getD k prtD).a ∧ tot ps k + (q : Int) * ordN (ps.getD k prtD).k ≤ x ∧ x < tot ps k + (q : Int) * ordN (ps.getD k prtD).k + ordN (ps.getD k prtD).k
  | 0, hx, _ => by rw [tot] at hx; omega
  | m + 1, hx, hg => by
    by_cases h : x < tot ps m
    · obtain ⟨k, q, h1, h2⟩ := blk_of h0 h fun q hq => hg q (by omega)
      exact ⟨k, q, by omega, h2⟩
    · rw [tot] at hx
      obtain ⟨h1, h2, h3, _⟩ := partE_good (hg m (by omega))
      have h4 := (ordN_rng (ps.getD m prtD).k).2
      refine ⟨m, ((x - tot ps m) / ordN (ps.getD m prtD).k).toNat, by omega, ?_⟩
      generalize ordN (ps.getD m prtD).k = L at *
      generalize (ps.getD m prtD).a = A at *
      have : L = 1 ∨ L = 2 ∨ L = 3 := by omega
      rcases this with rfl | rfl | rfl <;> omega
end
end Go.Bn
namespace Go.Bn
open Go
/-! ## Halves of whole numbers -/
theorem fadd_pos {x y : Nat} (hx : rung x < 9218868437227405312) (hy : rung y < 9218868437227405312) (sx : sgn x = false) (sy : sgn y = false) : fadd x y = Ieee.double.nearest false (vlu x + vlu y) (-1074) := by
  have px := plc_ge x
  have py := plc_ge y
  obtain ⟨b, hb⟩ : ∃ b, b = min (plc x) (plc y) := ⟨_, rfl⟩
  have e : (Ieee.Datum.number false (mgn x) (plc x)).sum (.number false (mgn y) (plc y)) = some (.number false (mgn x * 2 ^ (plc x - b).toNat + mgn y * 2 ^ (plc y - b).toNat) b) := by
    have e1 : ∀ m u, Ieee.signed false m u = ((m * 2 ^ u : Nat) : Int) := fun m u => by unfold Ieee.signed; rw [if_neg (by decide), Nat.shiftLeft_eq]
    simp only [Ieee.Datum.sum, ← hb, e1]
    generalize mgn x * 2 ^ (plc x - b).toNat = A
    generalize mgn y * 2 ^ (plc y - b).toNat = C
    congr 2
    · split
      · rfl
      · simp; omega
  unfold fadd Ieee.Format.add
  rw [read_fin hx, read_fin hy, sx, sy, e]
  show Ieee.double.nearest _ _ _ = _
  apply nearest_eq
  rw [show min b (-1074 : Int) = -1074 by omega, Nat.add_mul]
  unfold vlu
  rw [Nat.mul_assoc, Nat.mul_assoc, ← Nat.pow_add, ← Nat.pow_add, show (plc x - b).toNat + (b - -1074).toNat = (plc x + 1074).toNat by omega, show (plc y - b).toNat + (b - -1074).toNat = (plc y + 1074).toNat by omega]
  simp
theorem fmul_vlu {x y : Nat} (hx : rung x < 9218868437227405312) (hy : rung y < 9218868437227405312) : fmul x y = Ieee.double.nearest (sgn x ^^ sgn y) (vlu x * vlu y) (-2148) := by
  have px := plc_ge x
  have py := plc_ge y
  rw [fmul_fin hx hy]
  apply nearest_eq
  rw [show min (plc x + plc y) (-2148 : Int) = -2148 by omega]
  unfold vlu
  rw [show (plc x + plc y - -2148).toNat = (plc x + 1074).toNat + (plc y + 1074).toNat by omega, Nat.pow_add]
  simp [Nat.mul_assoc, Nat.mul_left_comm]
def HV (m : Nat) : Nat := Ieee.double.nearest false m (-1)
theorem hv_vlu (m : Nat) : HV m = Ieee.double.nearest false (m * 2 ^ 1073) (-1074) := by
  apply nearest_eq
  rw [show min (-1 : Int) (-1074) = -1074 by omega, show (-1 - -1074 : Int).toNat = 1073 by omega, show (-1074 - -1074 : Int).toNat = 0 by omega, Nat.pow_zero, Nat.mul_one]
theorem hv_parts {m : Nat} (hm : m < 9007199254740992) : HV m < 2 ^ 64 ∧ sgn (HV m) = false ∧ rung (HV m) < 9218868437227405312 ∧ vlu (HV m) = m * 2 ^ 1073 := by
  obtain ⟨h1, h2, h3⟩ := nearest_few (s := false) (j := 1073) hm (HV m) (hv_vlu m).symm
  refine ⟨h1, h2, ?_⟩
  rcases h3 with h3 | h3
  · exfalso
    by_cases h0 : m = 0
    · subst h0
      have : HV 0 = 0 := by decide +kernel
      rw [this] at h3
      exact absurd h3 (by decide)
    · obtain ⟨t, K, h4, h5, h6, h7⟩ := @nearest_few0 false m 1073 hm h0
      rw [← hv_vlu] at h4
      have h8 := (@word_parts false (min (t * 4503599627370496 + K) 9218868437227405312) (Nat.min_le_right ..)).2.1
      rw [← h4, h3] at h8
      have ht : 1075 ≤ t := by omega
      have hK : 4503599627370496 ≤ K := by omega
      obtain ⟨w, hw⟩ : ∃ w, w = 1073 := ⟨_, rfl⟩
      rw [← hw] at h7
      have g1 := Nat.pow_le_pow_right (n := 2) (by omega) (show w + 2 ≤ t by omega)
      rw [Nat.pow_add] at g1
      have g2 := Nat.mul_le_mul hK g1
      have g3 : m * 2 ^ w ≤ 9007199254740991 * 2 ^ w := Nat.mul_le_mul_right _ (by omega)
      have g4 := Nat.two_pow_pos w
      rw [h7] at g2
      generalize 2 ^ w = P at *
      omega
  · exact h3
theorem hv_add {a b : Nat} (h : a + b < 9007199254740992) : fadd (HV a) (HV b) = HV (a + b) := by
  obtain ⟨_, sa, ra, va⟩ := hv_parts (m := a) (by omega)
  obtain ⟨_, sb, rb, vb⟩ := hv_parts (m := b) (by omega)
  rw [fadd_pos ra rb sa sb, va, vb, ← Nat.add_mul, ← hv_vlu]
theorem hv_mul {a b c : Nat} (ha : a < 9007199254740992) (hb : b < 9007199254740992) (h : a * b = 2 * c) : fmul (HV a) (HV b) = HV c := by
  obtain ⟨_, sa, ra, va⟩ := hv_parts ha
  obtain ⟨_, sb, rb, vb⟩ := hv_parts hb
  rw [fmul_vlu ra rb, sa, sb, va, vb]
  show Ieee.double.nearest false _ _ = Ieee.double.nearest false _ _
  apply nearest_eq
  obtain ⟨w, hw⟩ : ∃ w, w = 1073 := ⟨_, rfl⟩
  rw [show min (-2148 : Int) (-1) = -2148 by omega, show (-2148 - -2148 : Int).toNat = 0 by omega, show (-1 - -2148 : Int).toNat = 1 + w + w by omega, ← hw, Nat.pow_add, Nat.pow_add, Nat.pow_zero, Nat.mul_one]
  generalize 2 ^ w = P
  rw [show a * P * (b * P) = a * b * P * P by simp [Nat.mul_assoc, Nat.mul_left_comm], h]
  simp [Nat.mul_assoc, Nat.mul_left_comm]
theorem hv_half {c : Nat} (hc : 2 * c < 9007199254740992) : fdiv (HV (2 * c)) TWO = HV c := by
  obtain ⟨_, sa, ra, va⟩ := hv_parts hc
  have hp := plc_ge (HV (2 * c))
  rw [fdiv_two ra, sa]
  have : Ieee.double.nearest false (mgn (HV (2 * c))) (plc (HV (2 * c)) - 1) = Ieee.double.nearest false (vlu (HV (2 * c))) (-1075) := by
    apply nearest_eq
    rw [show min (plc (HV (2 * c)) - 1) (-1075 : Int) = -1075 by omega]
    unfold vlu
    rw [show (plc (HV (2 * c)) - 1 - -1075).toNat = (plc (HV (2 * c)) + 1074).toNat by omega]
    simp
  rw [this, va, hv_vlu]
  apply nearest_eq
  rw [show min (-1075 : Int) (-1074) = -1075 by omega, show (-1075 - -1075 : Int).toNat = 0 by omega, show (-1074 - -1075 : Int).toNat = 1 by omega]
  generalize 2 ^ 1073 = P
  rw [Nat.pow_zero, Nat.mul_one, Nat.pow_one, Nat.mul_comm 2 c, Nat.mul_assoc, Nat.mul_comm 2 P, ← Nat.mul_assoc]
theorem hv_ones : HV 2 = ONE ∧ HV 0 = 0 := by constructor <;> decide +kernel
theorem hv_fin {m : Nat} (hm : m < 9007199254740992) : finB (HV m) = true := (finB_iff (hv_parts hm).1).2 (hv_parts hm).2.2.1
theorem hv_same {m : Nat} (hm : m < 9007199254740992) : fcmp .neq (HV m) (HV m) = false := by
  rw [fcmp_self]
  exact fin_not_nan (hv_fin hm)
theorem sec_whole : ∀ s : Nat, s < 1024 → (secR ((s : Int) * 1000000)).a = HV (2 * s) := by decide +kernel
end Go.Bn
namespace Go.Bn
open Go
/-! ## No time -/
theorem all_getD2 {P : Nat → Prop} {B : List (List Nat)} (h : ∀ r, r ∈ B → ∀ v, v ∈ r → P v) (h0 : P 0) (u w : Nat) : P ((B.getD u []).getD w 0) := by
  by_cases hu : u < B.length
  · have h1 := h _ (mem_getD [] hu)
    by_cases hw : w < (B.getD u []).length
    · exact h1 _ (mem_getD 0 hw)
    · have : (B.getD u []).getD w 0 = 0 := by rw [List.getD, List.getElem?_eq_none (by omega)]; rfl
      rw [this]; exact h0
  · have : B.getD u [] = [] := by rw [List.getD, List.getElem?_eq_none (by omega)]; rfl
    rw [this]; exact h0
def Nil0 (x : Nat) : Prop := x = 0 ∨ x = NEG0
theorem nil0_fin {x : Nat} (h : Nil0 x) : finB x = true ∧ fcmp .neq x 0 = false := by
  rcases h with rfl | rfl <;> decide +kernel
def nilB (x : Nat) : Bool := decide (x = 0) || decide (x = NEG0)
theorem nil_of {B : List (List Nat)} (h : B.all (fun r => r.all nilB) = true) (u w : Nat) : Nil0 ((B.getD u []).getD w 0) := by
  refine all_getD2 (P := Nil0) (fun r hr v hv => ?_) (.inl rfl) u w
  have := List.all_eq_true.1 (List.all_eq_true.1 h r hr) v hv
  unfold nilB at this
  simpa [Nil0] using this
theorem noise0 {p : Prt} (h : partE p = 0) (hw : p.n < 2 ^ 64) (u w : Nat) : Nil0 (((noiseB p 0).getD u []).getD w 0) := by
  obtain ⟨h1, _, _, h2, _⟩ := partE_good h
  apply nil_of
  unfold noiseB
  have hz := fmul_zero hw h2
  rw [fmul_comm] at hz
  rcases hz with hz | hz <;> rw [hz] <;> rcases ordN_some h1 with e | e | e | e | e <;> rw [e] <;> decide +kernel
theorem root0 {p : Prt} (h : partE p = 0) (hw : p.n < 2 ^ 64) (u w : Nat) : Nil0 (((rootB p 0).getD u []).getD w 0) := by
  obtain ⟨h1, _, _, h2, _⟩ := partE_good h
  apply nil_of
  unfold rootB
  have hz := fmul_zero hw h2
  rw [fmul_comm] at hz
  rcases hz with hz | hz <;> rw [hz] <;> rcases ordN_some h1 with e | e | e | e | e <;> rw [e] <;> decide +kernel
def unitB (s : Nat) : List (List Nat) := (List.range s).map fun u => (List.range s).map fun w => if u = w then ONE else 0
theorem move0 {p : Prt} (h : partE p = 0) (hw : p.f < 2 ^ 64) : moveB p 0 = unitB (ordN p.k).toNat := by
  obtain ⟨h1, _, _, _, h2⟩ := partE_good h
  have hz := fmul_zero hw h2
  rw [fmul_comm] at hz
  unfold moveB
  rcases hz with hz | hz <;> rw [hz] <;> rcases ordN_some h1 with e | e | e | e | e <;> rw [e] <;> decide +kernel
theorem getD_unit {s u w : Nat} (hu : u < s) (hw : w < s) : ((unitB s).getD u []).getD w 0 = if u = w then ONE else 0 := by
  simp [unitB, List.getD, hu, hw]
section
variable {ps : List Prt} {n : Int}
def WordP (ps : List Prt) : Prop := ∀ k, k < ps.length → (ps.getD k prtD).n < 2 ^ 64 ∧ (ps.getD k prtD).f < 2 ^ 64
theorem word_pcn {ls : List Prt} (h : GoodL ls) : WordP (ls.map pcn) := by
  intro k hk
  rw [List.length_map] at hk
  have e : (ls.map pcn).getD k prtD = pcn (ls.getD k prtD) := by simp [List.getD, List.getElem?_map, List.getElem?_eq_getElem hk]
  rw [e]
  have := goodL_at h hk
  exact ⟨cn_lt this.1, cn_lt this.2⟩
/-- What holds of all in a block and of nought holds everywhere. -/
theorem lay_all {g : BF} {d : Nat} {P : Nat → Prop} (hb : BOk g) (hg : PrtTo ps ps.length) (hn : Siz n n) (ht : tot ps ps.length = n) (h0 : P 0) (h : ∀ k, k < ps.length → ∀ u w, P (((g (ps.getD k prtD) d).getD u []).getD w 0)) {x y : Int} (hp : Pl n n x y) : P (mat n (layP g d ps n ps.length) x y) := by
  obtain ⟨k, q, h1, h2, h3, h4⟩ := blk_of hp.1 (show x < tot ps ps.length by rw [ht]; exact hp.2.1) hg
  rw [layP_at hb hg hn ht h2 h1 (Nat.le_refl _) hp h3 h4]
  split
  · exact h k h1 _ _
  · exact h0
theorem lay_good {g : BF} {d : Nat} (hn : Siz n n) : Good n n (layP g d ps n ps.length) := ⟨hn, by rw [layP_len]; have := hn.mul; omega⟩
theorem noise0_all (hw : WordP ps) (hg : PrtTo ps ps.length) (hn : Siz n n) (ht : tot ps ps.length = n) {x y : Int} (hp : Pl n n x y) : Nil0 (mat n (layP noiseB 0 ps n ps.length) x y) :=
  lay_all noiseB_ok hg hn ht (.inl rfl) (fun k hk u w => noise0 (hg k hk) (hw k hk).1 u w) hp
theorem root0_all (hw : WordP ps) (hg : PrtTo ps ps.length) (hn : Siz n n) (ht : tot ps ps.length = n) {x y : Int} (hp : Pl n n x y) : Nil0 (mat n (layP rootB 0 ps n ps.length) x y) :=
  lay_all rootB_ok hg hn ht (.inl rfl) (fun k hk u w => root0 (hg k hk) (hw k hk).1 u w) hp
theorem move0_all (hw : WordP ps) (hg : PrtTo ps ps.length) (hn : Siz n n) (ht : tot ps ps.length = n) {x y : Int} (hp : Pl n n x y) : mat n (layP moveB 0 ps n ps.length) x y = if x = y then ONE else 0 := by
  obtain ⟨k, q, h1, h2, h3, h4⟩ := blk_of hp.1 (show x < tot ps ps.length by rw [ht]; exact hp.2.1) hg
  rw [layP_at moveB_ok hg hn ht h2 h1 (Nat.le_refl _) hp h3 h4]
  split
  · rename_i h5
    rw [move0 (hg k h1) (hw k h1).2, getD_unit (by omega) (by omega)]
    by_cases e : x = y
    · rw [if_pos e, if_pos (by omega)]
    · rw [if_neg e, if_neg (by omega)]
  · rw [if_neg (by omega)]
theorem diag : ∀ n : Nat, n ≤ 12 → ∀ i : Nat, i < n * n → (i % (n + 1) = 0 ↔ i / n = i % n) ∧ i / n < n ∧ i = i / n * n + i % n ∧ i % n < n := by decide +kernel
/-- The places one after the other. -/
theorem place_of (hn : Siz n n) {i : Nat} (hi : (i : Int) < n * n) : ∃ x y : Int, Pl n n x y ∧ (∀ xs, xs.getD i 0 = mat n xs x y) ∧ ((i : Int) % (n + 1) = 0 ↔ x = y) := by
  obtain ⟨m, rfl⟩ : ∃ m : Nat, n = m := ⟨n.toNat, by have := hn.1; omega⟩
  have hm : m ≤ 12 := by have := hn.2.1; omega
  have hi' : i < m * m := by omega
  obtain ⟨h1, h2, h3, h4⟩ := diag m hm i hi'
  have e : (i : Int) % ((m : Int) + 1) = ((i % (m + 1) : Nat) : Int) := by simp
  rw [e]
  generalize i % (m + 1) = c at *
  generalize i / m = a at *
  generalize i % m = b at *
  refine ⟨(a : Int), (b : Int), ⟨by omega, by omega, by omega, by omega⟩, fun xs => ?_, ?_⟩
  · unfold mat
    rw [← Int.natCast_mul, ← Int.natCast_add, Int.toNat_natCast, ← h3]
  · constructor
    · intro h; have := h1.1 (by omega); omega
    · intro h; have := h1.2 (by omega); omega
def oneAt (n : Int) (i : Nat) : Nat := if (i : Int) % (n + 1) = 0 then ONE else 0
theorem goF (hw : WordP ps) (hg : PrtTo ps ps.length) (hn : Siz n n) (ht : tot ps ps.length = n) {i : Nat} (hi : (i : Int) < n * n) : (layP moveB 0 ps n ps.length).getD i 0 = oneAt n i := by
  obtain ⟨x, y, h1, h2, h3⟩ := place_of hn hi
  rw [h2, move0_all hw hg hn ht h1]
  unfold oneAt
  by_cases e : x = y
  · rw [if_pos e, if_pos (h3.2 e)]
  · rw [if_neg e, if_neg (fun h => e (h3.1 h))]
theorem goF_ne (hw : WordP ps) (hg : PrtTo ps ps.length) (hn : Siz n n) (ht : tot ps ps.length = n) {i : Nat} (hi : (i : Int) < n * n) : fcmp .neq ((layP moveB 0 ps n ps.length).getD i 0) (oneAt n i) = false := by
  rw [goF hw hg hn ht hi]
  unfold oneAt
  split <;> decide +kernel
theorem goQ (hw : WordP ps) (hg : PrtTo ps ps.length) (hn : Siz n n) (ht : tot ps ps.length = n) {i : Nat} (hi : (i : Int) < n * n) : fcmp .neq ((layP noiseB 0 ps n ps.length).getD i 0) 0 = false := by
  obtain ⟨x, y, h1, h2, h3⟩ := place_of hn hi
  rw [h2]
  exact (nil0_fin (noise0_all hw hg hn ht h1)).2
theorem goG (hw : WordP ps) (hg : PrtTo ps ps.length) (hn : Siz n n) (ht : tot ps ps.length = n) {i : Nat} (hi : (i : Int) < n * n) : fcmp .neq ((layP rootB 0 ps n ps.length).getD i 0) 0 = false := by
  obtain ⟨x, y, h1, h2, h3⟩ := place_of hn hi
  rw [h2]
  exact (nil0_fin (root0_all hw hg hn ht h1)).2
theorem blk_fin {g : BF} {t : Int} (hm : motE ps = 0) (ht : tot ps ps.length = n) (h2 : ¬ (t < 0 ∨ 1125899906842624 < t)) (h : ∀ x y, Pl n n x y → finB (mat n (layP g (secR t).a ps n ps.length) x y) = true) : blkM g ps t = ⟨n, n, layP g (secR t).a ps n ps.length, 0⟩ := by
  obtain ⟨h0, hg, hl⟩ := mot_good hm
  have h3 := (tot_rng hg).1
  have hn : Siz n n := ⟨by omega, by omega, by omega, by omega⟩
  subst ht
  unfold blkM
  rw [if_neg (by simp [hm]), if_neg h2, toldR_ok ((all_good (lay_good hn)).2 h)]
theorem siz_n (hm : motE ps = 0) (ht : tot ps ps.length = n) : Siz n n ∧ 1 ≤ n ∧ PrtTo ps ps.length := by
  obtain ⟨h0, hg, hl⟩ := mot_good hm
  have h3 := (tot_rng hg).1
  exact ⟨⟨by omega, by omega, by omega, by omega⟩, by omega, hg⟩
theorem sec_zero : (secR 0).a = 0 := by decide +kernel
theorem blkF0 (hm : motE ps = 0) (hw : WordP ps) (ht : tot ps ps.length = n) : blkM moveB ps 0 = ⟨n, n, layP moveB 0 ps n ps.length, 0⟩ := by
  obtain ⟨h1, _, h2⟩ := siz_n hm ht
  have := blk_fin (g := moveB) hm ht (t := 0) (by decide) (fun x y hp => by rw [sec_zero, move0_all hw h2 h1 ht hp]; split <;> decide +kernel)
  rw [sec_zero] at this
  exact this
theorem blkQ0 (hm : motE ps = 0) (hw : WordP ps) (ht : tot ps ps.length = n) : blkM noiseB ps 0 = ⟨n, n, layP noiseB 0 ps n ps.length, 0⟩ := by
  obtain ⟨h1, _, h2⟩ := siz_n hm ht
  have := blk_fin (g := noiseB) hm ht (t := 0) (by decide) (fun x y hp => by rw [sec_zero]; exact (nil0_fin (noise0_all hw h2 h1 ht hp)).1)
  rw [sec_zero] at this
  exact this
theorem blkG0 (hm : motE ps = 0) (hw : WordP ps) (ht : tot ps ps.length = n) : blkM rootB ps 0 = ⟨n, n, layP rootB 0 ps n ps.length, 0⟩ := by
  obtain ⟨h1, _, h2⟩ := siz_n hm ht
  have := blk_fin (g := rootB) hm ht (t := 0) (by decide) (fun x y hp => by rw [sec_zero]; exact (nil0_fin (root0_all hw h2 h1 ht hp)).1)
  rw [sec_zero] at this
  exact this
end
end Go.Bn
namespace Go.Bn
open Go
/-! ## Moved twice -/
def hmv (k : Int) (s : Nat) : List (List Nat) := if k = 2 then [[2, 2 * s], [0, 2]] else if k = 3 then [[2, 2 * s, s * s], [0, 2, 2 * s], [0, 0, 2]] else [[2]]
theorem sq_le {s : Nat} (hs : s < 1024) : s * s ≤ 1046529 := Nat.mul_le_mul (show s ≤ 1023 by omega) (show s ≤ 1023 by omega)
theorem move_hv {p : Prt} {s : Nat} (hs : s < 1024) (h4 : p.k ≠ 4) : moveB p (HV (2 * s)) = (hmv p.k s).map (List.map HV) := by
  obtain ⟨h1, h0⟩ := hv_ones
  have h2 := sq_le hs
  unfold moveB hmv
  split
  · simp [h1, h0]
  · split
    · have e1 : fmul (HV (2 * s)) (HV (2 * s)) = HV (2 * (s * s)) := hv_mul (by omega) (by omega) (by simp [Nat.mul_assoc, Nat.mul_left_comm])
      have e2 : fdiv (HV (2 * (s * s))) 0x4000000000000000 = HV (s * s) := hv_half (by omega)
      rw [e1, e2]
      simp [h1, h0]
    · first | rw [if_neg h4] | skip
      simp [h1]
theorem getD_map2 {B : List (List Nat)} {u w : Nat} : ((B.map (List.map HV)).getD u []).getD w 0 = HV ((B.getD u []).getD w 0) := by
  have h0 := hv_ones.2
  simp only [List.getD, List.getElem?_map]
  cases B[u]? with
  | none => simp [h0]
  | some r =>
    simp only [Option.map_some, Option.getD_some, List.getElem?_map]
    cases r[w]? with
    | none => simp [h0]
    | some v => simp
theorem hmv_le {k : Int} {s : Nat} (hs : s < 1024) (u w : Nat) : ((hmv k s).getD u []).getD w 0 ≤ 1046529 := by
  have h2 := sq_le hs
  refine all_getD2 (P := fun v => v ≤ 1046529) (fun r hr v hv => ?_) (by decide) u w
  unfold hmv at hr
  split at hr
  · simp at hr
    rcases hr with rfl | rfl <;> simp at hv <;> omega
  · split at hr
    · simp at hr
      rcases hr with rfl | rfl | rfl <;> simp at hv <;> omega
    · simp at hr
      subst hr
      simp at hv
      omega
def hsum (a b : Nat → Nat) : Nat → Nat
  | 0 => 0
  | l + 1 => hsum a b l + a l * b l / 2
theorem twice_2 {s t : Nat} : ∀ u, u < 2 → ∀ w, w < 2 → (∀ l, l < 2 → ∃ c, ((hmv 2 s).getD u []).getD l 0 * ((hmv 2 t).getD l []).getD w 0 = 2 * c) ∧
    hsum (fun l => ((hmv 2 s).getD u []).getD l 0) (fun l => ((hmv 2 t).getD l []).getD w 0) 2 = ((hmv 2 (s + t)).getD u []).getD w 0 := by
  intro u hu w hw
  have hu' : u = 0 ∨ u = 1 := by omega
  have hw' : w = 0 ∨ w = 1 := by omega
  constructor
  · intro l hl
    have hl' : l = 0 ∨ l = 1 := by omega
    rcases hu' with rfl | rfl <;> rcases hw' with rfl | rfl <;> rcases hl' with rfl | rfl <;> simp [hmv] <;> first | exact ⟨_, rfl⟩ | exact ⟨2 * s, by omega⟩ | exact ⟨2, rfl⟩ | exact ⟨0, by omega⟩ | skip
  · rcases hu' with rfl | rfl <;> rcases hw' with rfl | rfl <;> simp [hmv, hsum] <;> omega
theorem twice_3 {s t : Nat} : ∀ u, u < 3 → ∀ w, w < 3 → (∀ l, l < 3 → ∃ c, ((hmv 3 s).getD u []).getD l 0 * ((hmv 3 t).getD l []).getD w 0 = 2 * c) ∧
    hsum (fun l => ((hmv 3 s).getD u []).getD l 0) (fun l => ((hmv 3 t).getD l []).getD w 0) 3 = ((hmv 3 (s + t)).getD u []).getD w 0 := by
  intro u hu w hw
  have hu' : u = 0 ∨ u = 1 ∨ u = 2 := by omega
  have hw' : w = 0 ∨ w = 1 ∨ w = 2 := by omega
  have e1 : 2 * s * (2 * t) = 2 * (2 * (s * t)) := by simp [Nat.mul_assoc, Nat.mul_left_comm]
  have e2 : (s + t) * (s + t) = s * s + 2 * (s * t) + t * t := by
    rw [Nat.add_mul, Nat.mul_add, Nat.mul_add, Nat.mul_comm t s]; omega
  constructor
  · intro l hl
    have hl' : l = 0 ∨ l = 1 ∨ l = 2 := by omega
    rcases hu' with rfl | rfl | rfl <;> rcases hw' with rfl | rfl | rfl <;> rcases hl' with rfl | rfl | rfl <;> simp [hmv] <;> first | exact ⟨_, rfl⟩ | exact ⟨_, e1⟩ | exact ⟨2 * s, by omega⟩ | exact ⟨s * s, by omega⟩ | exact ⟨2, rfl⟩ | exact ⟨0, by omega⟩ | skip
  · rcases hu' with rfl | rfl | rfl <;> rcases hw' with rfl | rfl | rfl <;> simp [hmv, hsum, e1, e2] <;> omega
theorem twice_1 {k : Int} {s t : Nat} (h2 : k ≠ 2) (h3 : k ≠ 3) : ∀ u, u < 1 → ∀ w, w < 1 → (∀ l, l < 1 → ∃ c, ((hmv k s).getD u []).getD l 0 * ((hmv k t).getD l []).getD w 0 = 2 * c) ∧
    hsum (fun l => ((hmv k s).getD u []).getD l 0) (fun l => ((hmv k t).getD l []).getD w 0) 1 = ((hmv k (s + t)).getD u []).getD w 0 := by
  intro u hu w hw
  have hu' : u = 0 := by omega
  have hw' : w = 0 := by omega
  subst hu' hw'
  constructor
  · intro l hl
    have hl' : l = 0 := by omega
    subst hl'
    simp [hmv, h2, h3]
    exact ⟨2, rfl⟩
  · simp [hmv, hsum, h2, h3]
theorem twice {k : Int} {s t : Nat} (hk : 1 ≤ ordN k) {L : Nat} (hL : (L : Int) = ordN k) : ∀ u, u < L → ∀ w, w < L → (∀ l, l < L → ∃ c, ((hmv k s).getD u []).getD l 0 * ((hmv k t).getD l []).getD w 0 = 2 * c) ∧
    hsum (fun l => ((hmv k s).getD u []).getD l 0) (fun l => ((hmv k t).getD l []).getD w 0) L = ((hmv k (s + t)).getD u []).getD w 0 := by
  rcases ordN_some hk with rfl | rfl | rfl | rfl | rfl
  · obtain rfl : L = 1 := by have : ordN 0 = 1 := rfl; omega
    exact twice_1 (by decide) (by decide)
  · obtain rfl : L = 1 := by have : ordN 1 = 1 := rfl; omega
    exact twice_1 (by decide) (by decide)
  · obtain rfl : L = 2 := by have : ordN 2 = 2 := rfl; omega
    exact twice_2
  · obtain rfl : L = 3 := by have : ordN 3 = 3 := rfl; omega
    exact twice_3
  · obtain rfl : L = 1 := by have : ordN 4 = 1 := rfl; omega
    exact twice_1 (by decide) (by decide)
/-- A sum in order, of products that are halves of whole numbers, and not nought only from f on, L long. -/
theorem fold_hv {a b : Nat → Nat} {x y : Nat → Nat} {f L n : Nat} (hL : f + L ≤ n) (h3 : L ≤ 3) (ha : ∀ l, a l ≤ 1046529) (hb : ∀ l, b l ≤ 1046529) (hc : ∀ l, l < L → ∃ c, a l * b l = 2 * c)
    (hi : ∀ l, l < L → x (f + l) = HV (a l) ∧ y (f + l) = HV (b l)) (ho : ∀ r, r < n → (r < f ∨ f + L ≤ r) → x r = 0 ∧ ∃ c, c ≤ 1046529 ∧ y r = HV c) (g : Nat → Nat) (g0 : g 0 = 0) (gs : ∀ r, g (r + 1) = fadd (g r) (fmul (x r) (y r))) : g n = HV (hsum a b L) := by
  have hs : ∀ l, l ≤ L → hsum a b l ≤ 547611473921 * l := by
    intro l
    induction l with
    | zero => intro _; simp [hsum]
    | succ l ih =>
      intro hl
      have h1 := ih (by omega)
      have h2 : a l * b l ≤ 1046529 * 1046529 := Nat.mul_le_mul (ha l) (hb l)
      rw [hsum]
      omega
  have key : ∀ r, r ≤ n → g r = HV (hsum a b (min (r - f) L)) := by
    intro r
    induction r with
    | zero => intro _; rw [g0, show min (0 - f) L = 0 by omega]; exact hv_ones.2.symm
    | succ r ih =>
      intro hr
      rw [gs, ih (by omega)]
      by_cases hin : r < f ∨ f + L ≤ r
      · obtain ⟨h1, c, h2, h4⟩ := ho r (by omega) hin
        have e : fmul (x r) (y r) = HV 0 := by
          have q := hv_mul (a := 0) (b := c) (c := 0) (by decide) (by omega) (by simp)
          rw [hv_ones.2] at q
          rw [h1, h4, hv_ones.2]
          exact q
        have h5 := hs (min (r - f) L) (by omega)
        rw [e, hv_add (by omega), show min (r + 1 - f) L = min (r - f) L by omega, Nat.add_zero]
      · obtain ⟨h1, h2⟩ := hi (r - f) (by omega)
        rw [show f + (r - f) = r by omega] at h1 h2
        obtain ⟨c, h4⟩ := hc (r - f) (by omega)
        have h5 := hs (r - f) (by omega)
        have h6 : a (r - f) * b (r - f) ≤ 1046529 * 1046529 := Nat.mul_le_mul (ha _) (hb _)
        have ga := ha (r - f)
        have gb := hb (r - f)
        rw [h1, h2, hv_mul (by omega) (by omega) h4, show min (r - f) L = r - f by omega, hv_add (by omega), show min (r + 1 - f) L = (r - f) + 1 by omega, hsum, h4, show 2 * c / 2 = c by omega]
  rw [key n (Nat.le_refl _), show min (n - f) L = L by omega]
def gsum (n : Int) (xs ys : List Nat) (i j : Int) : Nat → Nat
  | 0 => 0
  | k + 1 => fadd (gsum n xs ys i j k) (fmul (mat n xs i k) (mat n ys k j))
def NoFade (ls : List Prt) (k : Nat) : Prop := ∀ q, q < k → (ls.getD q prtD).k ≠ 4
theorem noFade_zero {ls : List Prt} : NoFade ls 0 := fun q h => by omega
theorem noFade_step {ls : List Prt} {k : Nat} (h : NoFade ls k) (hk : ¬ (ls.getD k prtD).k = 4) : NoFade ls (k + 1) := fun q hq => by
  by_cases e : q = k
  · rw [e]; exact hk
  · exact h q (by omega)
theorem noFade_pcn {ls : List Prt} {k : Nat} (hk : k = ls.length) (h : NoFade ls k) : NoFade (ls.map pcn) (ls.map pcn).length := by
  subst hk
  intro q hq
  rw [List.length_map] at hq
  have e : (ls.map pcn).getD q prtD = pcn (ls.getD q prtD) := by simp [List.getD, List.getElem?_map, List.getElem?_eq_getElem hq]
  rw [e]
  exact h q hq
section
variable {ps : List Prt} {n : Int}
def layF (ps : List Prt) (n : Int) (s : Nat) : List Nat := layP moveB (HV (2 * s)) ps n ps.length
theorem layF_at (hf : NoFade ps ps.length) (hg : PrtTo ps ps.length) (hn : Siz n n) (ht : tot ps ps.length = n) {k q s : Nat} (hs : s < 1024) (hk : k < ps.length) (hq : (q : Int) < (ps.getD k prtD).a) {x y : Int} (hp : Pl n n x y)
    (h1 : tot ps k + (q : Int) * ordN (ps.getD k prtD).k ≤ x) (h2 : x < tot ps k + (q : Int) * ordN (ps.getD k prtD).k + ordN (ps.getD k prtD).k) :
    mat n (layF ps n s) x y = HV (if tot ps k + (q : Int) * ordN (ps.getD k prtD).k ≤ y ∧ y < tot ps k + (q : Int) * ordN (ps.getD k prtD).k + ordN (ps.getD k prtD).k then ((hmv (ps.getD k prtD).k s).getD (x - (tot ps k + (q : Int) * ordN (ps.getD k prtD).k)).toNat []).getD (y - (tot ps k + (q : Int) * ordN (ps.getD k prtD).k)).toNat 0 else 0) := by
  unfold layF
  rw [layP_at moveB_ok hg hn ht hq hk (Nat.le_refl _) hp h1 h2, move_hv hs (hf k hk)]
  split
  · rw [getD_map2]
  · exact hv_ones.2.symm
theorem layF_hv (hf : NoFade ps ps.length) (hg : PrtTo ps ps.length) (hn : Siz n n) (ht : tot ps ps.length = n) {s : Nat} (hs : s < 1024) {x y : Int} (hp : Pl n n x y) : ∃ c, c ≤ 1046529 ∧ mat n (layF ps n s) x y = HV c := by
  obtain ⟨k, q, h1, h2, h3, h4⟩ := blk_of hp.1 (show x < tot ps ps.length by rw [ht]; exact hp.2.1) hg
  refine ⟨_, ?_, layF_at hf hg hn ht hs h1 h2 hp h3 h4⟩
  split
  · exact hmv_le hs _ _
  · omega
theorem goMove (hf : NoFade ps ps.length) (hg : PrtTo ps ps.length) (hn : Siz n n) (ht : tot ps ps.length = n) {s t : Nat} (hst : s + t < 1024) {i j : Int} (hp : Pl n n i j) : gsum n (layF ps n s) (layF ps n t) i j n.toNat = mat n (layF ps n (s + t)) i j := by
  obtain ⟨k, q, h1, h2, h3, h4⟩ := blk_of hp.1 (show i < tot ps ps.length by rw [ht]; exact hp.2.1) hg
  have hin := ax_in hg (by rw [ht]; exact hn.2.1) h1 h2
  have A := fun (y : Int) (hy : Pl n n i y) => layF_at hf hg hn ht (s := s) (by omega) h1 h2 hy h3 h4
  have C := layF_at hf hg hn ht hst h1 h2 hp h3 h4
  have Bf := fun (r : Int) (g1 : tot ps k + (q : Int) * ordN (ps.getD k prtD).k ≤ r) (g2 : r < tot ps k + (q : Int) * ordN (ps.getD k prtD).k + ordN (ps.getD k prtD).k) (hr : Pl n n r j) => layF_at hf hg hn ht (s := t) (by omega) h1 h2 hr g1 g2
  have h5 := (ordN_rng (ps.getD k prtD).k).2
  rw [ht] at hin
  obtain ⟨L, hL⟩ : ∃ L : Nat, (L : Int) = ordN (ps.getD k prtD).k := ⟨(ordN (ps.getD k prtD).k).toNat, by omega⟩
  have hk1 : 1 ≤ ordN (ps.getD k prtD).k := by omega
  have tw := @twice (ps.getD k prtD).k s t hk1 L hL
  rw [← hL] at A C Bf hin h3 h4 h5
  obtain ⟨f, hfr⟩ : ∃ f : Nat, (f : Int) = tot ps k + (q : Int) * (L : Int) := ⟨(tot ps k + (q : Int) * (L : Int)).toNat, by omega⟩
  rw [← hfr] at A C Bf hin h3 h4
  generalize (ps.getD k prtD).k = κ at A C Bf tw
  obtain ⟨p1, p2, p3, p4⟩ := hp
  have hu : (i - (f : Int)).toNat < L := by omega
  rw [C]
  by_cases hj : (f : Int) ≤ j ∧ j < (f : Int) + (L : Int)
  · rw [if_pos hj]
    obtain ⟨t1, t2⟩ := tw _ hu (j - (f : Int)).toNat (by omega)
    rw [← t2]
    refine fold_hv (f := f) (L := L) (x := fun r => mat n (layF ps n s) i r) (y := fun r => mat n (layF ps n t) r j) (by omega) (by omega) (fun l => hmv_le (by omega) _ _) (fun l => hmv_le (by omega) _ _) t1 (fun l hl => ?_) (fun r hr ho => ?_) (gsum n (layF ps n s) (layF ps n t) i j) rfl (fun r => rfl)
    · constructor
      · show mat n _ i ((f + l : Nat) : Int) = _
        rw [A _ ⟨p1, p2, by omega, by omega⟩, if_pos (by omega), show (((f + l : Nat) : Int) - (f : Int)).toNat = l by omega]
      · show mat n _ ((f + l : Nat) : Int) j = _
        rw [Bf _ (by omega) (by omega) ⟨by omega, by omega, p3, p4⟩, if_pos hj, show (((f + l : Nat) : Int) - (f : Int)).toNat = l by omega]
    · constructor
      · show mat n _ i ((r : Nat) : Int) = _
        rw [A _ ⟨p1, p2, by omega, by omega⟩, if_neg (by omega)]
        exact hv_ones.2
      · exact layF_hv hf hg hn ht (by omega) ⟨by omega, by omega, p3, p4⟩
  · rw [if_neg hj]
    have e0 : hsum (fun l => ((hmv κ s).getD (i - (f : Int)).toNat []).getD l 0) (fun _ => 0) L = 0 := by
      have : ∀ m, hsum (fun l => ((hmv κ s).getD (i - (f : Int)).toNat []).getD l 0) (fun _ => 0) m = 0 := by
        intro m
        induction m with
        | zero => rfl
        | succ m ih => rw [hsum, ih, Nat.mul_zero]
      exact this L
    rw [← e0]
    refine fold_hv (f := f) (L := L) (x := fun r => mat n (layF ps n s) i r) (y := fun r => mat n (layF ps n t) r j) (by omega) (by omega) (fun l => hmv_le (by omega) _ _) (fun l => by omega) (fun l _ => ⟨0, by simp⟩) (fun l hl => ?_) (fun r hr ho => ?_) (gsum n (layF ps n s) (layF ps n t) i j) rfl (fun r => rfl)
    · constructor
      · show mat n _ i ((f + l : Nat) : Int) = _
        rw [A _ ⟨p1, p2, by omega, by omega⟩, if_pos (by omega), show (((f + l : Nat) : Int) - (f : Int)).toNat = l by omega]
      · show mat n _ ((f + l : Nat) : Int) j = _
        rw [Bf _ (by omega) (by omega) ⟨by omega, by omega, p3, p4⟩, if_neg hj]
    · constructor
      · show mat n _ i ((r : Nat) : Int) = _
        rw [A _ ⟨p1, p2, by omega, by omega⟩, if_neg (by omega)]
        exact hv_ones.2
      · exact layF_hv hf hg hn ht (by omega) ⟨by omega, by omega, p3, p4⟩
theorem blkFs (hm : motE ps = 0) (hf : NoFade ps ps.length) (ht : tot ps ps.length = n) {s : Nat} (hs : s < 1024) : blkM moveB ps ((s : Int) * 1000000) = ⟨n, n, layF ps n s, 0⟩ := by
  obtain ⟨h1, _, h2⟩ := siz_n hm ht
  have := blk_fin (g := moveB) hm ht (t := (s : Int) * 1000000) (by omega) (fun x y hp => by
    rw [sec_whole s hs]
    obtain ⟨c, h3, h4⟩ := layF_hv hf h2 h1 ht hs hp
    unfold layF at h4
    rw [h4]
    exact hv_fin (by omega))
  rw [sec_whole s hs] at this
  exact this
theorem go_ne (hm : motE ps = 0) (hf : NoFade ps ps.length) (ht : tot ps ps.length = n) {s t : Nat} (hst : s + t < 1024) {i j : Int} (hp : Pl n n i j) {k : Nat} (hk : k = n.toNat) : fcmp .neq (gsum n (layF ps n s) (layF ps n t) i j k) (mat n (layF ps n (s + t)) i j) = false := by
  obtain ⟨h1, _, h2⟩ := siz_n hm ht
  subst hk
  rw [goMove hf h2 h1 ht hst hp]
  obtain ⟨c, h3, h4⟩ := layF_hv hf h2 h1 ht hst hp
  rw [h4]
  exact hv_same (by omega)
end
end Go.Bn
namespace Go.Bn
open Go
theorem oneAt_1 {n : Int} {i : Nat} (hn : 0 ≤ n) (h : ((i : Nat) : Int).tmod (n + 1) = 0) : oneAt n i = 0x3ff0000000000000 := by
  rw [Int.tmod_eq_emod_of_nonneg (by omega)] at h
  exact if_pos h
theorem oneAt_0 {n : Int} {i : Nat} (hn : 0 ≤ n) (h : ¬ ((i : Nat) : Int).tmod (n + 1) = 0) : oneAt n i = 0 := by
  rw [Int.tmod_eq_emod_of_nonneg (by omega)] at h
  exact if_neg h
def goodB (r c : Int) (xs : List Nat) (n : Int) : Bool := (decide (r = n) && decide (c = n)) && decide ((xs.length : Int) = n * n)
theorem goodB_ok {n : Int} {xs : List Nat} (h : (xs.length : Int) = n * n) : goodB n n xs n = true := by simp [goodB, h]
theorem blkFs2 {ps : List Prt} {n : Int} (hm : motE ps = 0) (hf : NoFade ps ps.length) (ht : tot ps ps.length = n) {s t : Nat} (hs : s + t < 1024) : blkM moveB ps (((s : Int) + (t : Int)) * 1000000) = ⟨n, n, layF ps n (s + t), 0⟩ := by
  have := blkFs hm hf ht hs
  rw [Int.natCast_add] at this
  exact this
theorem layF_good {ps : List Prt} {n : Int} {s : Nat} (hn : Siz n n) : Good n n (layF ps n s) := lay_good hn
theorem mod_nat (s : Int) : ∃ m : Nat, (m : Int) = (s.tmod 1024 + 1024).tmod 1024 ∧ m < 1024 := by
  have h1 := tmod_rng s (show (0 : Int) < 1024 by omega)
  have h2 := tmod_rng0 (show 0 ≤ s.tmod 1024 + 1024 by omega) (show (0 : Int) < 1024 by omega)
  exact ⟨((s.tmod 1024 + 1024).tmod 1024).toNat, by omega, by omega⟩
end Go.Bn
namespace Go.Bn
open Go
/-- Cut to the nearest: at most half a step away. -/
theorem cut_err {neg : Bool} {n d : Nat} (h : n ≠ 0) : 2 * (Ieee.Toward.even.cut neg n d * 2 ^ d) ≤ 2 * n + 2 ^ d ∧ 2 * n ≤ 2 * (Ieee.Toward.even.cut neg n d * 2 ^ d) + 2 ^ d := by
  unfold Ieee.Toward.cut
  simp only [Nat.shiftLeft_eq, Nat.one_mul]
  by_cases hd : d ≤ n.log2 + 2
  · rw [Nat.min_eq_left hd]
    have hg := Nat.two_pow_pos d
    generalize 2 ^ d = G at *
    have e := Nat.div_add_mod n G
    have hr := Nat.mod_lt n hg
    generalize n / G = low at *
    generalize n % G = rest at *
    rw [Nat.mul_comm G low] at e
    cases hm : (decide (G < 2 * rest) || (G == 2 * rest && low % 2 == 1))
    · simp only [Bool.or_eq_false_iff, decide_eq_false_iff_not] at hm
      simp only [Bool.toNat_false, Nat.add_zero]
      omega
    · simp only [Bool.or_eq_true, decide_eq_true_eq, Bool.and_eq_true, beq_iff_eq] at hm
      simp only [Bool.toNat_true, Nat.add_mul, Nat.one_mul]
      omega
  · rw [Nat.min_eq_right (by omega)]
    have h1 := Nat.lt_log2_self (n := n)
    have h2 : 2 ^ (n.log2 + 2) = 2 * 2 ^ (n.log2 + 1) := by rw [Nat.pow_succ 2 (n.log2 + 1)]; omega
    have h3 : 2 ^ (n.log2 + 2) ≤ 2 ^ d := Nat.pow_le_pow_right (by omega) (by omega)
    rw [Nat.div_eq_of_lt (by omega), Nat.mod_eq_of_lt (by omega)]
    have hm : (decide (2 ^ (n.log2 + 2) < 2 * n) || (2 ^ (n.log2 + 2) == 2 * n && 0 % 2 == 1)) = false := by
      simp
      omega
    rw [hm]
    simp
    omega
/-- The value of a word that is put together. -/
theorem vlu_word {s : Bool} {t K : Nat} (hK : K ≤ 9007199254740992) (ht : t = 0 ∨ 4503599627370496 ≤ K) (w : Nat) (hw : w = Ieee.double.word s (min (t * 4503599627370496 + K) 9218868437227405312)) (hf : rung w < 9218868437227405312) : vlu w = K * 2 ^ t := by
  have h2 := (@word_parts s (min (t * 4503599627370496 + K) 9218868437227405312) (Nat.min_le_right ..)).2.1
  rw [← hw] at h2
  have hr : rung w = t * 4503599627370496 + K := by omega
  unfold vlu mgn plc
  rw [hr]
  by_cases hs : t * 4503599627370496 + K < 4503599627370496
  · rw [if_pos hs, if_pos hs]
    have : t = 0 := by omega
    subst this
    simp
  · rw [if_neg hs, if_neg hs]
    by_cases hb : K = 9007199254740992
    · subst hb
      have e1 : (t * 4503599627370496 + 9007199254740992) % 4503599627370496 = 0 := by omega
      have e2 : (t * 4503599627370496 + 9007199254740992) / 4503599627370496 - 1 = t + 1 := by omega
      rw [e1, e2, show (-1074 + ((t + 1 : Nat) : Int) + 1074).toNat = t + 1 by omega, Nat.pow_succ]
      omega
    · have hKlow : 4503599627370496 ≤ K := by omega
      have e1 : (t * 4503599627370496 + K) % 4503599627370496 = K - 4503599627370496 := by omega
      have e2 : (t * 4503599627370496 + K) / 4503599627370496 - 1 = t := by omega
      rw [e1, e2, show 4503599627370496 + (K - 4503599627370496) = K by omega, show (-1074 + (t : Int) + 1074).toNat = t by omega]
theorem pow52 : (2 : Nat) ^ 52 = 4503599627370496 := by decide
theorem pow53 : (2 : Nat) ^ 53 = 9007199254740992 := by decide
/-- Rounded to the nearest: the step is 2^last, a 2^-52 of the number or the least one. -/
theorem nearest_step {s : Bool} {n : Nat} {p : Int} (hn : n ≠ 0) (hf : rung (Ieee.double.nearest s n p) < 9218868437227405312) :
    ∃ (K t d u : Nat), vlu (Ieee.double.nearest s n p) = K * 2 ^ t ∧ (d = 0 ∨ u = 0) ∧ (p + (u : Int) + 1074 = (t : Int) + (u : Int) + (u : Int) - (d : Int) + 0 ∨ True) ∧ p + (d : Int) = -1074 + (t : Int) + (u : Int) ∧
      2 * (K * 2 ^ d) ≤ 2 * (n * 2 ^ u) + 2 ^ d ∧ 2 * (n * 2 ^ u) ≤ 2 * (K * 2 ^ d) + 2 ^ d ∧ (u ≠ 0 → K = n * 2 ^ u) ∧ (t = 0 ∨ 4503599627370496 * 2 ^ d ≤ n * 2 ^ u) := by
  obtain ⟨last, hlast⟩ : ∃ last, last = max (p + (n.log2 : Int) - 52) (-1074) := ⟨_, rfl⟩
  have hw : Ieee.double.nearest s n p = Ieee.double.word s (min ((last + 1074).toNat * 4503599627370496 + Ieee.Toward.even.cut s (n <<< (p - last).toNat) (last - p).toNat) 9218868437227405312) := by
    unfold Ieee.Format.nearest
    simp only [lpE, fbE, binA, infR]
    rw [if_neg hn, show p + (n.log2 : Int) - ((52 : Nat) : Int) = p + (n.log2 : Int) - 52 by omega, ← hlast, show (last - -1074).toNat = (last + 1074).toNat by omega]
  have hnu : n <<< (p - last).toNat ≠ 0 := shift_ne hn
  obtain ⟨c1, c2⟩ := @cut_err s (n <<< (p - last).toNat) (last - p).toNat hnu
  have hlo := Nat.log2_self_le hn
  have hhi := Nat.lt_log2_self (n := n)
  generalize hK : Ieee.Toward.even.cut s (n <<< (p - last).toNat) (last - p).toNat = K at *
  rw [Nat.shiftLeft_eq] at c1 c2
  have hex : (p - last).toNat ≠ 0 → K = n * 2 ^ (p - last).toNat := fun hu => by
    rw [← hK, show (last - p).toNat = 0 by omega, cut_zero, Nat.shiftLeft_eq]
  have hup : n * 2 ^ (p - last).toNat < 9007199254740992 * 2 ^ (last - p).toNat := by
    rw [← pow53, ← Nat.pow_add]
    refine Nat.lt_of_lt_of_le (Nat.mul_lt_mul_of_pos_right hhi (Nat.two_pow_pos _)) ?_
    rw [← Nat.pow_add]
    exact Nat.pow_le_pow_right (by omega) (by omega)
  have hdn : (last + 1074).toNat = 0 ∨ 4503599627370496 * 2 ^ (last - p).toNat ≤ n * 2 ^ (p - last).toNat := by
    by_cases h0 : (last + 1074).toNat = 0
    · exact .inl h0
    · right
      rw [← pow52, ← Nat.pow_add]
      refine Nat.le_trans (Nat.pow_le_pow_right (by omega) (show 52 + (last - p).toNat ≤ n.log2 + (p - last).toNat by omega)) ?_
      rw [Nat.pow_add]
      exact Nat.mul_le_mul_right _ hlo
  have hdp := Nat.two_pow_pos (last - p).toNat
  have hKm : K ≤ 9007199254740992 := by
    generalize 2 ^ (last - p).toNat = D at *
    generalize n * 2 ^ (p - last).toNat = A at *
    by_cases hc : K ≤ 9007199254740992
    · exact hc
    · have := Nat.mul_le_mul_right D (show 9007199254740992 + 1 ≤ K by omega)
      rw [Nat.add_mul, Nat.one_mul] at this
      omega
  have hKl : (last + 1074).toNat = 0 ∨ 4503599627370496 ≤ K := by
    rcases hdn with h | h
    · exact .inl h
    · right
      generalize 2 ^ (last - p).toNat = D at *
      generalize n * 2 ^ (p - last).toNat = A at *
      by_cases hc : 4503599627370496 ≤ K
      · exact hc
      · have := Nat.mul_le_mul_right D (show K + 1 ≤ 4503599627370496 by omega)
        rw [Nat.add_mul, Nat.one_mul] at this
        omega
  refine ⟨K, (last + 1074).toNat, (last - p).toNat, (p - last).toNat, vlu_word hKm hKl _ hw hf, by omega, .inr trivial, by omega, c1, c2, hex, hdn⟩
/-- Rounded: in steps of 2^-N, at most a 2^-53 of the number away, or half of the least step. -/
theorem nearest_err {s : Bool} {n N : Nat} {p : Int} (hn : n ≠ 0) (hN : 1074 ≤ N) (hp : -(N : Int) ≤ p) (hf : rung (Ieee.double.nearest s n p) < 9218868437227405312) :
    ∃ E : Nat, vlu (Ieee.double.nearest s n p) * 2 ^ (N - 1074) ≤ n * 2 ^ (p + N).toNat + E ∧ n * 2 ^ (p + N).toNat ≤ vlu (Ieee.double.nearest s n p) * 2 ^ (N - 1074) + E ∧ (E * 9007199254740992 ≤ n * 2 ^ (p + N).toNat ∨ 2 * E ≤ 2 ^ (N - 1074)) := by
  obtain ⟨K, t, d, u, h1, h2, _, h3, h4, h5, h6, h7⟩ := nearest_step hn hf
  rw [h1]
  by_cases hu : u = 0
  · subst hu
    rw [Nat.pow_zero, Nat.mul_one] at h4 h5 h7
    have e1 : K * 2 ^ t * 2 ^ (N - 1074) = K * 2 ^ d * 2 ^ (p + N).toNat := by
      rw [Nat.mul_assoc, ← Nat.pow_add, Nat.mul_assoc, ← Nat.pow_add, show t + (N - 1074) = d + (p + N).toNat by omega]
    rw [e1]
    have e2 : 2 ^ d * 2 ^ (p + N).toNat = 2 ^ t * 2 ^ (N - 1074) := by
      rw [← Nat.pow_add, ← Nat.pow_add, show d + (p + N).toNat = t + (N - 1074) by omega]
    have hQ := Nat.two_pow_pos (p + N).toNat
    generalize hq : 2 ^ (p + N).toNat = Q at *
    by_cases hd : d = 0
    · subst hd
      rw [Nat.pow_zero] at h4 h5
      have : K = n := by omega
      subst this
      exact ⟨0, by rw [Nat.pow_zero, Nat.mul_one]; exact Nat.le_refl _, by rw [Nat.pow_zero, Nat.mul_one]; exact Nat.le_refl _, .inl (by rw [Nat.zero_mul]; exact Nat.zero_le _)⟩
    · obtain ⟨d', rfl⟩ : ∃ d', d = d' + 1 := ⟨d - 1, by omega⟩
      rw [Nat.pow_succ] at h4 h5 h7 e2 ⊢
      generalize 2 ^ d' = D at *
      refine ⟨D * Q, ?_, ?_, ?_⟩
      · rw [← Nat.add_mul]
        exact Nat.mul_le_mul_right _ (by omega)
      · rw [← Nat.add_mul]
        exact Nat.mul_le_mul_right _ (by omega)
      · rcases h7 with h7 | h7
        · right
          subst h7
          rw [Nat.pow_zero, Nat.one_mul] at e2
          rw [← e2, Nat.mul_comm D 2, Nat.mul_assoc]
          exact Nat.le_refl _
        · left
          have h8 := Nat.mul_le_mul_right Q h7
          rw [show D * Q * 9007199254740992 = 4503599627370496 * (D * 2) * Q by rw [Nat.mul_comm (D * Q), ← Nat.mul_assoc, Nat.mul_comm D 2, ← Nat.mul_assoc]]
          exact h8
  · have hd : d = 0 := by omega
    subst hd
    have hK := h6 hu
    have e1 : K * 2 ^ t * 2 ^ (N - 1074) = n * 2 ^ (p + N).toNat := by
      rw [hK, Nat.mul_assoc, Nat.mul_assoc, ← Nat.pow_add, ← Nat.pow_add, show u + (t + (N - 1074)) = (p + N).toNat by omega]
    rw [e1]
    exact ⟨0, Nat.le_refl _, Nat.le_refl _, .inl (by rw [Nat.zero_mul]; exact Nat.zero_le _)⟩
end Go.Bn
namespace Go.Bn
open Go
def UU : Nat := 9007199254740992
def UV : Nat := 9007199254740991
theorem uv_lt : UV ≤ UU := by decide
theorem uu_pos : 0 < UU := by decide
theorem uv_pos : 0 < UV := by decide
/-- a and b are the same but for k factors of 1 - 2^-53, either way. -/
structure Apx (k : Nat) (a b : Nat) : Prop where
  l : a * UV ^ k ≤ b * UU ^ k
  r : b * UV ^ k ≤ a * UU ^ k
theorem apx_refl (a : Nat) : Apx 0 a a := ⟨Nat.le_refl _, Nat.le_refl _⟩
theorem Apx.symm {k a b : Nat} (h : Apx k a b) : Apx k b a := ⟨h.r, h.l⟩
theorem uv_pow (k : Nat) : UV ^ k ≤ UU ^ k := Nat.pow_le_pow_left uv_lt k
theorem Apx.trans {k l a b c : Nat} (h : Apx k a b) (g : Apx l b c) : Apx (k + l) a c := by
  constructor
  · rw [Nat.pow_add, Nat.pow_add, ← Nat.mul_assoc]
    refine Nat.le_trans (Nat.mul_le_mul_right _ h.l) ?_
    rw [Nat.mul_right_comm]
    refine Nat.le_trans (Nat.mul_le_mul_right _ g.l) ?_
    rw [Nat.mul_assoc, Nat.mul_comm (UU ^ l)]
    exact Nat.le_refl _
  · rw [Nat.pow_add, Nat.pow_add, Nat.mul_comm (UV ^ k), ← Nat.mul_assoc]
    refine Nat.le_trans (Nat.mul_le_mul_right _ g.r) ?_
    rw [Nat.mul_right_comm]
    refine Nat.le_trans (Nat.mul_le_mul_right _ h.r) ?_
    rw [Nat.mul_assoc]
    exact Nat.le_refl _
theorem mul4 (a b c d : Nat) : a * b * (c * d) = (a * c) * (b * d) := by
  rw [Nat.mul_assoc, Nat.mul_left_comm b c d, ← Nat.mul_assoc]
theorem Apx.mul {k l a b c d : Nat} (h : Apx k a b) (g : Apx l c d) : Apx (k + l) (a * c) (b * d) := by
  constructor
  · rw [Nat.pow_add, Nat.pow_add, mul4, mul4 b]
    exact Nat.mul_le_mul h.l g.l
  · rw [Nat.pow_add, Nat.pow_add, mul4, mul4 a]
    exact Nat.mul_le_mul h.r g.r
theorem Apx.mono {k l a b : Nat} (h : Apx k a b) (hk : k ≤ l) : Apx l a b := by
  obtain ⟨d, rfl⟩ : ∃ d, l = k + d := ⟨l - k, by omega⟩
  constructor
  · rw [Nat.pow_add, Nat.pow_add, ← Nat.mul_assoc, ← Nat.mul_assoc]
    exact Nat.mul_le_mul h.l (uv_pow d)
  · rw [Nat.pow_add, Nat.pow_add, ← Nat.mul_assoc, ← Nat.mul_assoc]
    exact Nat.mul_le_mul h.r (uv_pow d)
theorem Apx.cancel {k a b c : Nat} (hc : 0 < c) (h : Apx k (a * c) (b * c)) : Apx k a b := by
  constructor
  · have := h.l
    rw [Nat.mul_right_comm, Nat.mul_right_comm b] at this
    exact Nat.le_of_mul_le_mul_right this hc
  · have := h.r
    rw [Nat.mul_right_comm, Nat.mul_right_comm a] at this
    exact Nat.le_of_mul_le_mul_right this hc
theorem Apx.add {k a b c d : Nat} (h : Apx k a b) (g : Apx k c d) : Apx k (a + c) (b + d) := by
  constructor
  · rw [Nat.add_mul, Nat.add_mul]; exact Nat.add_le_add h.l g.l
  · rw [Nat.add_mul, Nat.add_mul]; exact Nat.add_le_add h.r g.r
theorem Apx.scale {k a b : Nat} (c : Nat) (h : Apx k a b) : Apx k (a * c) (b * c) := by
  have := h.mul (apx_refl c)
  rw [Nat.add_zero] at this
  exact this
theorem apx_gen {X W E U V : Nat} (hU : U = V + 1) (h1 : W ≤ X + E) (h2 : X ≤ W + E) (hE : E * U ≤ X) : W * V ≤ X * U ∧ X * V ≤ W * U := by
  subst hU
  have g1 := Nat.mul_le_mul_right V h1
  have g2 := Nat.mul_le_mul_right V h2
  have g3 := Nat.mul_le_mul_right 1 h2
  rw [Nat.add_mul] at g1 g2
  rw [Nat.mul_add, Nat.mul_one] at hE
  rw [Nat.mul_add, Nat.mul_add, Nat.mul_one, Nat.mul_one]
  generalize W * V = a at *
  generalize X * V = b at *
  generalize E * V = c at *
  constructor
  · omega
  · by_cases hw : c ≤ W
    · omega
    · omega
theorem uu_uv : UU = UV + 1 := by decide
/-- A 2^-53 of the one away. -/
theorem apx_err {X W E : Nat} (h1 : W ≤ X + E) (h2 : X ≤ W + E) (hE : E * UU ≤ X) : Apx 1 W X := by
  obtain ⟨a, b⟩ := apx_gen uu_uv h1 h2 hE
  exact ⟨by rw [Nat.pow_one, Nat.pow_one]; exact a, by rw [Nat.pow_one, Nat.pow_one]; exact b⟩
/-- Rounded, where the number is not too small. -/
theorem nearest_apx {s : Bool} {n N : Nat} {p : Int} (hN : 1074 ≤ N) (hp : -(N : Int) ≤ p) (hf : rung (Ieee.double.nearest s n p) < 9218868437227405312) (hb : 4503599627370496 * 2 ^ (N - 1074) ≤ n * 2 ^ (p + N).toNat) :
    Apx 1 (vlu (Ieee.double.nearest s n p) * 2 ^ (N - 1074)) (n * 2 ^ (p + N).toNat) := by
  have hq := Nat.two_pow_pos (N - 1074)
  have hn : n ≠ 0 := by
    rintro rfl
    rw [Nat.zero_mul] at hb
    omega
  obtain ⟨E, h1, h2, h3⟩ := nearest_err hn hN hp hf
  refine apx_err h1 h2 ?_
  rcases h3 with h3 | h3
  · exact h3
  · have hu : UU = 2 * 4503599627370496 := by decide
    generalize 2 ^ (N - 1074) = Q at *
    generalize n * 2 ^ (p + N).toNat = X at *
    have g := Nat.mul_le_mul_right 4503599627370496 (show E * 2 ≤ Q by omega)
    rw [hu, ← Nat.mul_assoc]
    omega
theorem nf1 {s : Bool} {p : Int} : rung (Ieee.double.nearest s 0 p) < 9218868437227405312 := by
  rw [nearest_nought]
  cases s
  · show 0 % 9223372036854775808 < _
    decide
  · show 9223372036854775808 % 9223372036854775808 < _
    decide
theorem word_fin {s : Bool} {t K : Nat} (ht : t ≤ 2044) (hK : K ≤ 9007199254740992) : rung (Ieee.double.word s (min (t * 4503599627370496 + K) 9218868437227405312)) < 9218868437227405312 := by
  rw [(@word_parts s (min (t * 4503599627370496 + K) 9218868437227405312) (Nat.min_le_right ..)).2.1]
  omega
theorem nearest_fin {s : Bool} {n N : Nat} {p : Int} (hp : -(N : Int) ≤ p) (hb : n * 2 ^ (p + N).toNat < 2 ^ (N + 1023)) : rung (Ieee.double.nearest s n p) < 9218868437227405312 := by
  by_cases hn : n = 0
  · subst hn
    exact nf1
  · obtain ⟨last, hlast⟩ : ∃ last, last = max (p + (n.log2 : Int) - 52) (-1074) := ⟨_, rfl⟩
    have hw : Ieee.double.nearest s n p = Ieee.double.word s (min ((last + 1074).toNat * 4503599627370496 + Ieee.Toward.even.cut s (n <<< (p - last).toNat) (last - p).toNat) 9218868437227405312) := by
      unfold Ieee.Format.nearest
      simp only [lpE, fbE, binA, infR]
      rw [if_neg hn, show p + (n.log2 : Int) - ((52 : Nat) : Int) = p + (n.log2 : Int) - 52 by omega, ← hlast, show (last - -1074).toNat = (last + 1074).toNat by omega]
    obtain ⟨c1, c2⟩ := @cut_err s (n <<< (p - last).toNat) (last - p).toNat (shift_ne hn)
    have hlo := Nat.log2_self_le hn
    have hhi := Nat.lt_log2_self (n := n)
    generalize hK : Ieee.Toward.even.cut s (n <<< (p - last).toNat) (last - p).toNat = K at *
    rw [Nat.shiftLeft_eq] at c1 c2
    have hup : n * 2 ^ (p - last).toNat < 9007199254740992 * 2 ^ (last - p).toNat := by
      rw [← pow53, ← Nat.pow_add]
      refine Nat.lt_of_lt_of_le (Nat.mul_lt_mul_of_pos_right hhi (Nat.two_pow_pos _)) ?_
      rw [← Nat.pow_add]
      exact Nat.pow_le_pow_right (by omega) (by omega)
    have hKm : K ≤ 9007199254740992 := by
      have hdp := Nat.two_pow_pos (last - p).toNat
      generalize 2 ^ (last - p).toNat = D at *
      generalize n * 2 ^ (p - last).toNat = A at *
      by_cases hc : K ≤ 9007199254740992
      · exact hc
      · have := Nat.mul_le_mul_right D (show 9007199254740992 + 1 ≤ K by omega)
        rw [Nat.add_mul, Nat.one_mul] at this
        omega
    have hl : p + (n.log2 : Int) ≤ 1022 := by
      have h1 : 2 ^ (n.log2 + (p + N).toNat) < 2 ^ (N + 1023) := by
        rw [Nat.pow_add]
        exact Nat.lt_of_le_of_lt (Nat.mul_le_mul_right _ hlo) hb
      have h2 : n.log2 + (p + N).toNat < N + 1023 := (Nat.pow_lt_pow_iff_right (by omega)).1 h1
      omega
    have ht : (last + 1074).toNat ≤ 2044 := by omega
    rw [hw]
    exact word_fin ht hKm
/-- 2^1074: so many of the least steps are 1. -/
def NZ : Nat := 1074
theorem nz : NZ = 1074 := rfl
def PZ : Nat := 2 ^ NZ
theorem pz_def : PZ = 2 ^ NZ := rfl
theorem pz_pow (a : Nat) : PZ * 2 ^ a = 2 ^ (NZ + a) := (Nat.pow_add 2 NZ a).symm
theorem pz_pos : 0 < PZ := Nat.two_pow_pos NZ
theorem pz_ge {a : Nat} (h : a ≤ NZ) : 2 ^ a ≤ PZ := Nat.pow_le_pow_right (by omega) h
theorem pz_at {N : Nat} (h : N = 2 * NZ) : 2 ^ (N - 1074) = PZ := by
  rw [show N - 1074 = NZ by rw [h, nz]]
  rfl
/-- A number above nought, from 2^-k to 2^k. -/
structure Rng (x : Nat) (k : Nat) : Prop where
  f : rung x < 9218868437227405312
  s : sgn x = false
  lo : PZ ≤ vlu x * 2 ^ k
  hi : vlu x ≤ PZ * 2 ^ k
theorem Rng.pos {x k : Nat} (h : Rng x k) : 0 < vlu x := by
  have h1 := h.lo
  rcases Nat.eq_zero_or_pos (vlu x) with h0 | h0
  · rw [h0, Nat.zero_mul] at h1
    have := pz_pos
    omega
  · exact h0
theorem uu_two : UU ≤ 2 * UV := by decide
/-- Nearly the same: not more than twice. -/
theorem Apx.two {a b : Nat} (h : Apx 1 a b) : a ≤ 2 * b ∧ b ≤ 2 * a := by
  have h1 := h.l
  have h2 := h.r
  rw [Nat.pow_one, Nat.pow_one] at h1 h2
  have hv := uv_pos
  have h3 := uu_two
  constructor
  · have h4 := Nat.mul_le_mul_left b h3
    have h5 : a * UV ≤ 2 * b * UV := by
      refine Nat.le_trans h1 (Nat.le_trans h4 (Nat.le_of_eq ?_))
      rw [← Nat.mul_assoc, Nat.mul_comm b 2]
    exact Nat.le_of_mul_le_mul_right h5 hv
  · have h4 := Nat.mul_le_mul_left a h3
    have h5 : b * UV ≤ 2 * a * UV := by
      refine Nat.le_trans h2 (Nat.le_trans h4 (Nat.le_of_eq ?_))
      rw [← Nat.mul_assoc, Nat.mul_comm a 2]
    exact Nat.le_of_mul_le_mul_right h5 hv
theorem nearest_pos {n : Nat} {p : Int} : sgn (Ieee.double.nearest false n p) = false := by
  unfold Ieee.Format.nearest
  split
  · exact (@word_parts false 0 (by omega)).1
  · simp only [infR]
    exact (word_parts (Nat.min_le_right ..)).1
/-- A product, rounded. -/
theorem mul_apx {x y k l : Nat} (hx : Rng x k) (hy : Rng y l) (hk : k + l ≤ 900) : Apx 1 (vlu (fmul x y) * PZ) (vlu x * vlu y) ∧ Rng (fmul x y) (k + l + 1) := by
  have e := fmul_vlu hx.f hy.f
  rw [hx.s, hy.s, Bool.xor_false] at e
  have hP := pz_pos
  have hlo : PZ * PZ ≤ vlu x * vlu y * 2 ^ (k + l) := by
    rw [Nat.pow_add, ← mul4]
    rw [mul4 (vlu x) (2 ^ k)]
    rw [mul4]
    exact Nat.mul_le_mul hx.lo hy.lo
  have hhi : vlu x * vlu y ≤ PZ * PZ * 2 ^ (k + l) := by
    rw [Nat.pow_add, ← mul4 PZ (2 ^ k)]
    exact Nat.mul_le_mul hx.hi hy.hi
  have hkl := Nat.two_pow_pos (k + l)
  have hb : 4503599627370496 * PZ ≤ vlu x * vlu y := by
    have h1 : 2 ^ 52 * 2 ^ (k + l) ≤ PZ := by
      rw [← Nat.pow_add]
      exact pz_ge (by rw [nz]; omega)
    rw [pow52] at h1
    have h2 := Nat.mul_le_mul_left PZ h1
    refine Nat.le_of_mul_le_mul_right ?_ hkl
    refine Nat.le_trans (Nat.le_of_eq ?_) (Nat.le_trans h2 hlo)
    rw [Nat.mul_comm 4503599627370496 PZ, Nat.mul_assoc]
  obtain ⟨N, hN⟩ : ∃ N, N = 2 * NZ := ⟨_, rfl⟩
  have hN2 : N = 2148 := by rw [hN, nz]
  have eX : ∀ X : Nat, X * 2 ^ ((-2148 : Int) + (N : Int)).toNat = X := fun X => by
    rw [show ((-2148 : Int) + (N : Int)).toNat = 0 by omega, Nat.pow_zero, Nat.mul_one]
  have hf : rung (fmul x y) < 9218868437227405312 := by
    rw [e]
    refine nearest_fin (N := N) (by omega) ?_
    rw [eX]
    refine Nat.lt_of_le_of_lt hhi ?_
    rw [show PZ * PZ * 2 ^ (k + l) = 2 ^ (NZ + (NZ + (k + l))) by rw [Nat.mul_assoc, pz_pow (k + l)]; exact pz_pow _]
    exact Nat.pow_lt_pow_of_lt (by omega) (by rw [hN]; omega)
  have ha : Apx 1 (vlu (fmul x y) * PZ) (vlu x * vlu y) := by
    have h1 := nearest_apx (s := false) (n := vlu x * vlu y) (N := N) (p := -2148) (by omega) (by omega) (by rw [← e]; exact hf) (by rw [eX, pz_at hN]; exact hb)
    rw [eX, ← e, pz_at hN] at h1
    exact h1
  obtain ⟨t1, t2⟩ := ha.two
  refine ⟨ha, hf, by rw [e]; exact nearest_pos, ?_, ?_⟩
  · refine Nat.le_of_mul_le_mul_right ?_ hP
    refine Nat.le_trans hlo (Nat.le_trans (Nat.mul_le_mul_right _ t2) (Nat.le_of_eq ?_))
    rw [Nat.pow_succ]
    generalize vlu (fmul x y) = W
    generalize 2 ^ (k + l) = D
    rw [Nat.mul_comm 2 (W * PZ), Nat.mul_assoc, Nat.mul_comm 2 D, Nat.mul_assoc, Nat.mul_comm PZ, ← Nat.mul_assoc]
  · refine Nat.le_of_mul_le_mul_right ?_ hP
    refine Nat.le_trans t1 (Nat.le_trans (Nat.mul_le_mul_left 2 hhi) (Nat.le_of_eq ?_))
    rw [Nat.pow_succ]
    generalize 2 ^ (k + l) = D
    rw [Nat.mul_comm 2, Nat.mul_assoc (PZ * PZ), Nat.mul_assoc PZ PZ, Nat.mul_assoc PZ (D * 2), Nat.mul_comm PZ (D * 2)]
end Go.Bn
namespace Go.Bn
open Go
/-! ## Quotients, rounded -/
theorem quo_err {D n : Nat} (hn : n ≠ 0) (hq : UU * n ≤ D) : Apx 1 ((2 * (D / n) + (D % n != 0).toNat) * n) (2 * D) := by
  have e := Nat.div_add_mod D n
  have hr := Nat.mod_lt D (show 0 < n by omega)
  have hE : n * UU ≤ 2 * D := by rw [Nat.mul_comm]; omega
  generalize D / n = q at *
  generalize hrr : D % n = r at *
  rw [Nat.mul_comm n q] at e
  refine apx_err (E := n) ?_ ?_ hE
  · rw [Nat.add_mul, Nat.mul_assoc]
    cases (r != 0) <;> simp only [Bool.toNat_false, Bool.toNat_true, Nat.zero_mul, Nat.one_mul] <;> omega
  · rw [Nat.add_mul, Nat.mul_assoc]
    by_cases h0 : r = 0
    · subst h0
      simp
      omega
    · rw [show (r != 0) = true by simp [h0]]
      simp only [Bool.toNat_true, Nat.one_mul]
      omega
theorem uu53 : UU = 2 ^ 53 := by decide
theorem quo_big {m n : Nat} (hm : m ≠ 0) (hn : n ≠ 0) (hl : m.log2 ≤ 54 + n.log2) : UU * n ≤ m <<< (54 + n.log2 - m.log2) := by
  rw [Nat.shiftLeft_eq, uu53]
  have h1 := Nat.log2_self_le hm
  have h2 := Nat.lt_log2_self (n := n)
  refine Nat.le_trans (Nat.mul_le_mul_left _ (Nat.le_of_lt h2)) ?_
  rw [← Nat.pow_add]
  refine Nat.le_trans ?_ (Nat.mul_le_mul_right _ h1)
  rw [← Nat.pow_add]
  exact Nat.pow_le_pow_right (by omega) (by omega)
theorem mgn_pos {x : Nat} (h : 0 < vlu x) : mgn x ≠ 0 := by
  intro e
  unfold vlu at h
  rw [e, Nat.zero_mul] at h
  omega
theorem mgn_log {x : Nat} : (mgn x).log2 ≤ 52 := by
  by_cases h0 : mgn x = 0
  · rw [h0]; decide
  · have := (Nat.log2_lt h0 (k := 53)).2 (mgn_lt x); omega
theorem fdiv_read {x y : Nat} (hx : rung x < 9218868437227405312) (hy : rung y < 9218868437227405312) (hn : mgn y ≠ 0) :
    fdiv x y = Ieee.double.nearest (sgn x ^^ sgn y) (2 * ((mgn x <<< (54 + (mgn y).log2 - (mgn x).log2)) / mgn y) + ((mgn x <<< (54 + (mgn y).log2 - (mgn x).log2)) % mgn y != 0).toNat) (plc x - plc y - ((54 + (mgn y).log2 - (mgn x).log2 : Nat) : Int) - 1) := by
  unfold fdiv Ieee.Format.div
  rw [read_fin hx, read_fin hy]
  simp only [Ieee.Datum.quotient]
  rw [if_neg hn, fbE]
  rfl
theorem Apx.two2 {a b : Nat} (h : Apx 2 a b) : a ≤ 2 * b ∧ b ≤ 2 * a := by
  have h1 := h.l
  have h2 := h.r
  have hv : 0 < UV ^ 2 := Nat.pow_pos uv_pos
  have h3 : UU ^ 2 ≤ 2 * UV ^ 2 := by decide
  constructor
  · have h4 := Nat.mul_le_mul_left b h3
    have h5 : a * UV ^ 2 ≤ 2 * b * UV ^ 2 := by
      refine Nat.le_trans h1 (Nat.le_trans h4 (Nat.le_of_eq ?_))
      rw [← Nat.mul_assoc, Nat.mul_comm b 2]
    exact Nat.le_of_mul_le_mul_right h5 hv
  · have h4 := Nat.mul_le_mul_left a h3
    have h5 : b * UV ^ 2 ≤ 2 * a * UV ^ 2 := by
      refine Nat.le_trans h2 (Nat.le_trans h4 (Nat.le_of_eq ?_))
      rw [← Nat.mul_assoc, Nat.mul_comm a 2]
    exact Nat.le_of_mul_le_mul_right h5 hv
theorem pow_shift (m more s : Nat) : 2 * (m * 2 ^ more) * 2 ^ s = m * 2 ^ (more + 1 + s) := by
  rw [Nat.pow_add, Nat.pow_succ]
  generalize 2 ^ more = a
  generalize 2 ^ s = b
  simp only [Nat.mul_assoc, Nat.mul_comm, Nat.mul_left_comm]
/-- A quotient, rounded. -/
theorem div_apx {x y k l : Nat} (hx : Rng x k) (hy : Rng y l) (hk : k + l ≤ 900) : Apx 2 (vlu (fdiv x y) * vlu y) (vlu x * PZ) ∧ Rng (fdiv x y) (k + l + 2) := by
  have hm := mgn_pos hx.pos
  have hn := mgn_pos hy.pos
  have e := fdiv_read hx.f hy.f hn
  rw [hx.s, hy.s, show (false ^^ false) = false from rfl] at e
  have hlm := @mgn_log x
  have hln := @mgn_log y
  have hP := pz_pos
  have px := plc_ge x
  have py := plc_ge y
  have px2 := plc_le hx.f
  have py2 := plc_le hy.f
  obtain ⟨more, hmore⟩ : ∃ more, more = 54 + (mgn y).log2 - (mgn x).log2 := ⟨_, rfl⟩
  have hq := quo_err hn (quo_big hm hn (by omega))
  rw [← hmore] at e hq
  obtain ⟨Q, hQ⟩ : ∃ Q, Q = 2 * ((mgn x <<< more) / mgn y) + ((mgn x <<< more) % mgn y != 0).toNat := ⟨_, rfl⟩
  obtain ⟨p, hp⟩ : ∃ p, p = plc x - plc y - (more : Int) - 1 := ⟨_, rfl⟩
  rw [← hQ] at hq
  rw [← hQ, ← hp] at e
  obtain ⟨N, hN⟩ : ∃ N, N = 3 * NZ := ⟨_, rfl⟩
  have hN2 : N = 3222 := by rw [hN, nz]
  have hpN : -(N : Int) ≤ p := by omega
  -- X vlu y is nearly vlu x 2^N
  have hX : Apx 1 (Q * 2 ^ (p + N).toNat * vlu y) (vlu x * 2 ^ N) := by
    have h1 := hq.scale (2 ^ ((p + N).toNat + (plc y + 1074).toNat))
    rw [Nat.shiftLeft_eq] at h1
    have e1 : Q * mgn y * 2 ^ ((p + N).toNat + (plc y + 1074).toNat) = Q * 2 ^ (p + N).toNat * vlu y := by
      unfold vlu
      rw [Nat.pow_add]
      exact mul4 _ _ _ _
    have e2 : 2 * (mgn x * 2 ^ more) * 2 ^ ((p + N).toNat + (plc y + 1074).toNat) = vlu x * 2 ^ N := by
      unfold vlu
      rw [pow_shift, Nat.mul_assoc (mgn x), ← Nat.pow_add, show more + 1 + ((p + N).toNat + (plc y + 1074).toNat) = (plc x + 1074).toNat + N by omega]
    rw [e1, e2] at h1
    exact h1
  obtain ⟨x1, x2⟩ := hX.two
  have eP : 2 ^ N = PZ * PZ * PZ := by
    rw [hN, show 3 * NZ = NZ + NZ + NZ by omega, Nat.pow_add, Nat.pow_add, ← pz_def]
  have eP2 : 2 ^ (N - 1074) = PZ * PZ := by
    rw [show N - 1074 = NZ + NZ by rw [hN, nz], Nat.pow_add, ← pz_def]
  generalize hXX : Q * 2 ^ (p + N).toNat = X at *
  have hkl := Nat.two_pow_pos (k + l)
  -- X is from 2^(N - k - l - 1) to 2^(N + k + l + 1)
  have hXlo : PZ * PZ * PZ ≤ X * 2 ^ (k + l + 1) := by
    refine Nat.le_of_mul_le_mul_right ?_ hP
    have g1 := Nat.mul_le_mul_right (PZ * PZ * PZ) hx.lo
    have g2 := Nat.mul_le_mul_right (2 ^ k) x2
    have g3 := Nat.mul_le_mul_left (2 * X * 2 ^ k) hy.hi
    rw [eP] at g2
    refine Nat.le_trans (Nat.le_of_eq (Nat.mul_comm _ PZ)) (Nat.le_trans g1 ?_)
    refine Nat.le_trans (Nat.le_of_eq (Nat.mul_right_comm _ _ _)) (Nat.le_trans g2 ?_)
    refine Nat.le_trans (Nat.le_of_eq ?_) (Nat.le_trans g3 (Nat.le_of_eq ?_))
    · rw [← Nat.mul_assoc, Nat.mul_right_comm]
    · rw [Nat.pow_succ, Nat.pow_add]
      generalize 2 ^ k = a
      generalize 2 ^ l = b
      simp only [Nat.mul_assoc, Nat.mul_comm, Nat.mul_left_comm]
  have hXhi : X ≤ PZ * PZ * PZ * 2 ^ (k + l + 1) := by
    refine Nat.le_of_mul_le_mul_right ?_ hP
    have g1 := Nat.mul_le_mul_left X hy.lo
    have g2 := Nat.mul_le_mul_right (2 ^ l) x1
    have g3 := Nat.mul_le_mul_right (PZ * PZ * PZ * (2 * 2 ^ l)) hx.hi
    rw [eP] at g2
    refine Nat.le_trans g1 (Nat.le_trans (Nat.le_of_eq ?_) (Nat.le_trans g2 (Nat.le_trans (Nat.le_of_eq ?_) (Nat.le_trans g3 (Nat.le_of_eq ?_)))))
    · rw [Nat.mul_assoc]
    · simp only [Nat.mul_assoc, Nat.mul_comm, Nat.mul_left_comm]
    · rw [Nat.pow_succ, Nat.pow_add]
      generalize 2 ^ k = a
      generalize 2 ^ l = b
      simp only [Nat.mul_assoc, Nat.mul_comm, Nat.mul_left_comm]
  have hb : 4503599627370496 * 2 ^ (N - 1074) ≤ X := by
    rw [eP2]
    have h1 : 2 ^ 52 * 2 ^ (k + l + 1) ≤ PZ := by
      rw [← Nat.pow_add]
      exact pz_ge (by rw [nz]; omega)
    rw [pow52] at h1
    refine Nat.le_of_mul_le_mul_right ?_ (Nat.two_pow_pos (k + l + 1))
    refine Nat.le_trans (Nat.le_of_eq ?_) (Nat.le_trans (Nat.mul_le_mul_left (PZ * PZ) h1) hXlo)
    rw [Nat.mul_comm 4503599627370496, Nat.mul_assoc]
  have hf : rung (fdiv x y) < 9218868437227405312 := by
    rw [e]
    refine nearest_fin (N := N) hpN ?_
    rw [hXX]
    refine Nat.lt_of_le_of_lt hXhi ?_
    rw [← eP, ← Nat.pow_add]
    exact Nat.pow_lt_pow_of_lt (by omega) (by omega)
  have hW : Apx 1 (vlu (fdiv x y) * (PZ * PZ)) X := by
    have h1 := nearest_apx (s := false) (n := Q) (N := N) (p := p) (by omega) hpN (by rw [← e]; exact hf) (by rw [hXX]; exact hb)
    rw [hXX, ← e, eP2] at h1
    exact h1
  have ha : Apx 2 (vlu (fdiv x y) * vlu y) (vlu x * PZ) := by
    have h1 := (hW.scale (vlu y)).trans hX
    rw [eP] at h1
    refine Apx.cancel (c := PZ * PZ) (Nat.mul_pos hP hP) ?_
    rw [Nat.mul_right_comm, Nat.mul_assoc (vlu x) PZ, ← Nat.mul_assoc PZ PZ PZ]
    exact h1
  obtain ⟨t1, t2⟩ := hW.two
  refine ⟨ha, hf, by rw [e]; exact nearest_pos, ?_, ?_⟩
  · refine Nat.le_of_mul_le_mul_right ?_ (Nat.mul_pos hP hP)
    refine Nat.le_trans (Nat.le_of_eq (Nat.mul_assoc _ _ _).symm) (Nat.le_trans hXlo (Nat.le_trans (Nat.mul_le_mul_right _ t2) (Nat.le_of_eq ?_)))
    rw [Nat.pow_succ 2 (k + l + 1)]
    generalize vlu (fdiv x y) = W
    generalize 2 ^ (k + l + 1) = D
    simp only [Nat.mul_assoc, Nat.mul_comm, Nat.mul_left_comm]
  · refine Nat.le_of_mul_le_mul_right ?_ (Nat.mul_pos hP hP)
    refine Nat.le_trans t1 (Nat.le_trans (Nat.mul_le_mul_left 2 hXhi) (Nat.le_of_eq ?_))
    rw [Nat.pow_succ 2 (k + l + 1)]
    generalize 2 ^ (k + l + 1) = D
    simp only [Nat.mul_assoc, Nat.mul_comm, Nat.mul_left_comm]
end Go.Bn
namespace Go.Bn
open Go
/-! ## Roots, rounded -/
theorem rootFrom_ok {n : Nat} : ∀ {todo root : Nat}, root * root ≤ n → n < (root + 2 ^ todo) * (root + 2 ^ todo) → Ieee.Datum.rootFrom n todo root * Ieee.Datum.rootFrom n todo root ≤ n ∧ n < (Ieee.Datum.rootFrom n todo root + 1) * (Ieee.Datum.rootFrom n todo root + 1)
  | 0, root, h1, h2 => by
    rw [Ieee.Datum.rootFrom]
    exact ⟨h1, h2⟩
  | todo + 1, root, h1, h2 => by
    rw [Ieee.Datum.rootFrom]
    simp only [Nat.shiftLeft_eq, Nat.one_mul]
    split
    · rename_i h
      refine rootFrom_ok h ?_
      rw [Nat.add_assoc, show 2 ^ todo + 2 ^ todo = 2 ^ (todo + 1) by rw [Nat.pow_succ]; omega]
      exact h2
    · rename_i h
      exact rootFrom_ok h1 (by omega)
theorem root_start (n : Nat) (hn : n ≠ 0) : n < (0 + 2 ^ (n.log2 / 2 + 1)) * (0 + 2 ^ (n.log2 / 2 + 1)) := by
  rw [Nat.zero_add, ← Nat.pow_add]
  exact Nat.lt_of_lt_of_le (Nat.lt_log2_self (n := n)) (Nat.pow_le_pow_right (by omega) (by omega))
theorem sq_lt {a b : Nat} (h : a * a < (b + 1) * (b + 1)) : a ≤ b := by
  by_cases hc : a ≤ b
  · exact hc
  · have := Nat.mul_le_mul (show b + 1 ≤ a by omega) (show b + 1 ≤ a by omega)
    omega
theorem sq_le' {a b : Nat} (h : a * a ≤ b * b) : a ≤ b := by
  by_cases hc : a ≤ b
  · exact hc
  · have := Nat.mul_le_mul (show b + 1 ≤ a by omega) (show b + 1 ≤ a by omega)
    have e : (b + 1) * (b + 1) = b * b + b + b + 1 := by rw [Nat.add_mul, Nat.mul_add]; omega
    omega
/-- A root with one digit more, squared. -/
theorem root_err {n w : Nat} (h1 : w * w ≤ n) (h2 : n < (w + 1) * (w + 1)) (hw : UU ≤ w) : Apx 1 ((2 * w + (w * w != n).toNat) * (2 * w + (w * w != n).toNat)) (4 * n) := by
  have e : (w + 1) * (w + 1) = w * w + w + w + 1 := by rw [Nat.add_mul, Nat.mul_add]; omega
  have e2 : (2 * w + 1) * (2 * w + 1) = 4 * (w * w) + 2 * w + 2 * w + 1 := by
    rw [Nat.add_mul, Nat.mul_add, mul4]; omega
  have hE : 4 * w * UU ≤ 4 * n := by
    rw [Nat.mul_assoc]
    exact Nat.mul_le_mul_left 4 (Nat.le_trans (Nat.mul_le_mul_left w hw) h1)
  by_cases h0 : w * w = n
  · rw [show (w * w != n) = false by simp [h0]]
    simp only [Bool.toNat_false, Nat.add_zero]
    rw [mul4, h0]
    exact (apx_refl _).mono (by omega)
  · rw [show (w * w != n) = true by simp [h0]]
    simp only [Bool.toNat_true]
    rw [e2]
    rw [e] at h2
    generalize w * w = s at *
    exact apx_err (E := 4 * w) (by omega) (by omega) hE
theorem fsqrt_read {x : Nat} (hx : rung x < 9218868437227405312) (hs : sgn x = false) (hm : mgn x ≠ 0) : ∃ more w : Nat, 108 ≤ (mgn x).log2 + more ∧ more ≤ 109 ∧ (plc x - (more : Int)) % 2 = 0 ∧ w * w ≤ mgn x * 2 ^ more ∧ mgn x * 2 ^ more < (w + 1) * (w + 1) ∧
    fsqrt x = Ieee.double.nearest false (2 * w + (w * w != mgn x * 2 ^ more).toNat) ((plc x - (more : Int)) / 2 - 1) := by
  have hl := @mgn_log x
  obtain ⟨m0, h0⟩ : ∃ m0, m0 = 2 * 54 - (mgn x).log2 := ⟨_, rfl⟩
  obtain ⟨more, hmore⟩ : ∃ more, more = m0 + ((plc x - (m0 : Int)) % 2).toNat := ⟨_, rfl⟩
  have hn : mgn x <<< more ≠ 0 := shift_ne hm
  obtain ⟨r1, r2⟩ := rootFrom_ok (n := mgn x <<< more) (todo := (mgn x <<< more).log2 / 2 + 1) (root := 0) (by rw [Nat.zero_mul]; exact Nat.zero_le _) (root_start _ hn)
  refine ⟨more, Ieee.Datum.rootFrom (mgn x <<< more) ((mgn x <<< more).log2 / 2 + 1) 0, by omega, by omega, by omega, ?_, ?_, ?_⟩
  · rw [Nat.shiftLeft_eq] at r1 ⊢; exact r1
  · rw [Nat.shiftLeft_eq] at r2 ⊢; exact r2
  · unfold fsqrt Ieee.Format.sqrt
    rw [read_fin hx, hs]
    simp only [Ieee.Datum.root]
    rw [if_neg hm, if_neg (by decide), fbE]
    simp only [show (52 : Nat) + 2 = 54 from rfl, ← h0, ← hmore]
    rw [← Nat.shiftLeft_eq]
    rfl
end Go.Bn
namespace Go.Bn
open Go
theorem Apx.two3 {a b : Nat} (h : Apx 3 a b) : a ≤ 2 * b ∧ b ≤ 2 * a := by
  have h1 := h.l
  have h2 := h.r
  have hv : 0 < UV ^ 3 := Nat.pow_pos uv_pos
  have h3 : UU ^ 3 ≤ 2 * UV ^ 3 := by decide
  constructor
  · have h4 := Nat.mul_le_mul_left b h3
    have h5 : a * UV ^ 3 ≤ 2 * b * UV ^ 3 := by
      refine Nat.le_trans h1 (Nat.le_trans h4 (Nat.le_of_eq ?_))
      rw [← Nat.mul_assoc, Nat.mul_comm b 2]
    exact Nat.le_of_mul_le_mul_right h5 hv
  · have h4 := Nat.mul_le_mul_left a h3
    have h5 : b * UV ^ 3 ≤ 2 * a * UV ^ 3 := by
      refine Nat.le_trans h2 (Nat.le_trans h4 (Nat.le_of_eq ?_))
      rw [← Nat.mul_assoc, Nat.mul_comm a 2]
    exact Nat.le_of_mul_le_mul_right h5 hv
theorem pow_shift' (m more s : Nat) : 2 * (2 * (m * 2 ^ more) * 2 ^ s) = m * 2 ^ (more + 2 + s) := by
  rw [pow_shift, show more + 2 + s = more + 1 + s + 1 by omega, Nat.pow_succ 2 (more + 1 + s)]
  generalize 2 ^ (more + 1 + s) = a
  simp only [Nat.mul_assoc, Nat.mul_comm, Nat.mul_left_comm]
/-- A root, rounded. -/
theorem sqrt_apx {x k : Nat} (hx : Rng x k) (hk : k ≤ 900) : Apx 3 (vlu (fsqrt x) * vlu (fsqrt x)) (vlu x * PZ) ∧ Rng (fsqrt x) (k + 2) := by
  have hm := mgn_pos hx.pos
  have hP := pz_pos
  have px := plc_ge x
  have px2 := plc_le hx.f
  obtain ⟨more, w, m1, m2, m3, r1, r2, e⟩ := fsqrt_read hx.f hx.s hm
  have hlo := Nat.log2_self_le hm
  have hw : UU ≤ w := by
    have h1 : UU * UU ≤ mgn x * 2 ^ more := by
      rw [uu53, ← Nat.pow_add]
      refine Nat.le_trans ?_ (Nat.mul_le_mul_right _ hlo)
      rw [← Nat.pow_add]
      exact Nat.pow_le_pow_right (by omega) (by omega)
    exact sq_lt (Nat.lt_of_le_of_lt h1 r2)
  have hq := root_err r1 r2 hw
  obtain ⟨Q, hQ⟩ : ∃ Q, Q = 2 * w + (w * w != mgn x * 2 ^ more).toNat := ⟨_, rfl⟩
  obtain ⟨p, hp⟩ : ∃ p, p = (plc x - (more : Int)) / 2 - 1 := ⟨_, rfl⟩
  rw [← hQ] at hq
  rw [← hQ, ← hp] at e
  have hp2 : 2 * p = plc x - (more : Int) - 2 := by omega
  obtain ⟨N, hN⟩ : ∃ N, N = 3 * NZ := ⟨_, rfl⟩
  have hN2 : N = 3222 := by rw [hN, nz]
  have hpN : -(N : Int) ≤ p := by omega
  have eP2 : 2 ^ (N - 1074) = PZ * PZ := by
    rw [show N - 1074 = NZ + NZ by rw [hN, nz], Nat.pow_add, ← pz_def]
  -- the square of what is rounded
  have hX : Apx 1 (Q * 2 ^ (p + N).toNat * (Q * 2 ^ (p + N).toNat)) (vlu x * (PZ * PZ * PZ * PZ * PZ)) := by
    have h1 := hq.scale (2 ^ ((p + N).toNat + (p + N).toNat))
    have e1 : Q * Q * 2 ^ ((p + N).toNat + (p + N).toNat) = Q * 2 ^ (p + N).toNat * (Q * 2 ^ (p + N).toNat) := by
      rw [Nat.pow_add]
      exact mul4 _ _ _ _
    have e3 : PZ * PZ * PZ * PZ * PZ = 2 ^ (5 * NZ) := by
      rw [show 5 * NZ = NZ + NZ + NZ + NZ + NZ by omega, Nat.pow_add, Nat.pow_add, Nat.pow_add, Nat.pow_add, ← pz_def]
    have e2 : 4 * (mgn x * 2 ^ more) * 2 ^ ((p + N).toNat + (p + N).toNat) = vlu x * (PZ * PZ * PZ * PZ * PZ) := by
      rw [e3]
      unfold vlu
      rw [show (4 : Nat) = 2 * 2 by omega, Nat.mul_assoc 2 2, Nat.mul_assoc 2, pow_shift', Nat.mul_assoc (mgn x), ← Nat.pow_add]
      rw [show more + 2 + ((p + N).toNat + (p + N).toNat) = (plc x + 1074).toNat + 5 * NZ by rw [nz]; omega]
    rw [e1, e2] at h1
    exact h1
  generalize hXX : Q * 2 ^ (p + N).toNat = X at *
  obtain ⟨x1, x2⟩ := hX.two
  have hXlo : PZ * PZ * PZ ≤ X * 2 ^ (k + 1) := by
    apply sq_le'
    have g1 := Nat.mul_le_mul_right (PZ * PZ * PZ * PZ * PZ) hx.lo
    have g2 := Nat.mul_le_mul_right (2 ^ k) x2
    refine Nat.le_trans (Nat.le_of_eq ?_) (Nat.le_trans g1 (Nat.le_trans (Nat.le_of_eq ?_) (Nat.le_trans g2 ?_)))
    · simp only [Nat.mul_assoc, Nat.mul_comm, Nat.mul_left_comm]
    · simp only [Nat.mul_assoc, Nat.mul_comm, Nat.mul_left_comm]
    · rw [Nat.pow_succ]
      have h1 := Nat.two_pow_pos k
      generalize 2 ^ k = a at *
      have e5 : X * (a * 2) * (X * (a * 2)) = X * X * (a * (4 * a)) := by simp only [show (4 : Nat) = 2 * 2 by omega, Nat.mul_assoc, Nat.mul_comm, Nat.mul_left_comm]
      rw [e5, Nat.mul_comm 2 (X * X), Nat.mul_assoc]
      refine Nat.mul_le_mul_left _ ?_
      have := Nat.mul_le_mul_left a (show 1 ≤ a by omega)
      have e6 : a * (4 * a) = 4 * (a * a) := Nat.mul_left_comm ..
      omega
  have hXhi : X ≤ PZ * PZ * PZ * 2 ^ (k + 1) := by
    apply sq_le'
    have g3 := Nat.mul_le_mul_right (PZ * PZ * PZ * PZ * PZ * 2) hx.hi
    refine Nat.le_trans x1 (Nat.le_trans (Nat.le_of_eq ?_) (Nat.le_trans g3 ?_))
    · simp only [Nat.mul_assoc, Nat.mul_comm, Nat.mul_left_comm]
    · rw [Nat.pow_succ]
      have h1 := Nat.two_pow_pos k
      generalize 2 ^ k = a at *
      have e5 : PZ * PZ * PZ * (a * 2) * (PZ * PZ * PZ * (a * 2)) = PZ * PZ * PZ * PZ * PZ * PZ * (4 * (a * a)) := by simp only [show (4 : Nat) = 2 * 2 by omega, Nat.mul_assoc, Nat.mul_comm, Nat.mul_left_comm]
      have e6 : PZ * a * (PZ * PZ * PZ * PZ * PZ * 2) = PZ * PZ * PZ * PZ * PZ * PZ * (2 * a) := by simp only [Nat.mul_assoc, Nat.mul_comm, Nat.mul_left_comm]
      rw [e5, e6]
      refine Nat.mul_le_mul_left _ ?_
      have := Nat.mul_le_mul_left a (show 1 ≤ a by omega)
      omega
  have hb : 4503599627370496 * 2 ^ (N - 1074) ≤ X := by
    rw [eP2]
    have h1 : 2 ^ 52 * 2 ^ (k + 1) ≤ PZ := by
      rw [← Nat.pow_add]
      exact pz_ge (by rw [nz]; omega)
    rw [pow52] at h1
    refine Nat.le_of_mul_le_mul_right ?_ (Nat.two_pow_pos (k + 1))
    refine Nat.le_trans (Nat.le_of_eq ?_) (Nat.le_trans (Nat.mul_le_mul_left (PZ * PZ) h1) hXlo)
    rw [Nat.mul_comm 4503599627370496, Nat.mul_assoc]
  have eP : PZ * PZ * PZ = 2 ^ N := by
    rw [hN, show 3 * NZ = NZ + NZ + NZ by omega, Nat.pow_add, Nat.pow_add, ← pz_def]
  have hf : rung (fsqrt x) < 9218868437227405312 := by
    rw [e]
    refine nearest_fin (N := N) hpN ?_
    rw [hXX]
    refine Nat.lt_of_le_of_lt hXhi ?_
    rw [eP, ← Nat.pow_add]
    exact Nat.pow_lt_pow_of_lt (by omega) (by omega)
  have hW : Apx 1 (vlu (fsqrt x) * (PZ * PZ)) X := by
    have h1 := nearest_apx (s := false) (n := Q) (N := N) (p := p) (by omega) hpN (by rw [← e]; exact hf) (by rw [hXX]; exact hb)
    rw [hXX, ← e, eP2] at h1
    exact h1
  have ha : Apx 3 (vlu (fsqrt x) * vlu (fsqrt x)) (vlu x * PZ) := by
    have h1 := (hW.mul hW).trans hX
    refine Apx.cancel (c := PZ * PZ * (PZ * PZ)) (Nat.mul_pos (Nat.mul_pos hP hP) (Nat.mul_pos hP hP)) ?_
    have e7 : vlu x * PZ * (PZ * PZ * (PZ * PZ)) = vlu x * (PZ * PZ * PZ * PZ * PZ) := by simp only [Nat.mul_assoc]
    rw [e7, ← mul4]
    exact h1
  obtain ⟨t1, t2⟩ := hW.two
  refine ⟨ha, hf, by rw [e]; exact nearest_pos, ?_, ?_⟩
  · refine Nat.le_of_mul_le_mul_right ?_ (Nat.mul_pos hP hP)
    refine Nat.le_trans (Nat.le_of_eq (Nat.mul_assoc _ _ _).symm) (Nat.le_trans hXlo (Nat.le_trans (Nat.mul_le_mul_right _ t2) (Nat.le_of_eq ?_)))
    rw [Nat.pow_succ 2 (k + 1)]
    generalize vlu (fsqrt x) = W
    generalize 2 ^ (k + 1) = D
    simp only [Nat.mul_assoc, Nat.mul_comm, Nat.mul_left_comm]
  · refine Nat.le_of_mul_le_mul_right ?_ (Nat.mul_pos hP hP)
    refine Nat.le_trans t1 (Nat.le_trans (Nat.mul_le_mul_left 2 hXhi) (Nat.le_of_eq ?_))
    rw [Nat.pow_succ 2 (k + 1)]
    generalize 2 ^ (k + 1) = D
    simp only [Nat.mul_assoc, Nat.mul_comm, Nat.mul_left_comm]
end Go.Bn
