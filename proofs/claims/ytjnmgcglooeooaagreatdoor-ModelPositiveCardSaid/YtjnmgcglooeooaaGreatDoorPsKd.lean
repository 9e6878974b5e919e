/-
 Plain facts on motions. Plain facts on blocks laid on a diagonal. Square roots; the blocks of roots. How far a rounded number lies from the exact one. Nearly the same: a relation on whole numbers that goes through products, sums and quotients; products of numbers, rounded.
-/
import Derived.Test.YtjnmgcglooeooaaGreatDoorPsKc
import Derived.Test.YtjnmgcglooeooaaGreatDoorPsKb
set_option linter.unusedVariables false
set_option linter.unusedSimpArgs false
namespace Go.Bn
open Go
section ops
variable {P : Program} {n : Nat} {ops : Array Oper} {Γ : Facts} {ρ : Env} {δ : VEnv} {τ : List VR}
variable {d : Nat} {ty : TypeId} {pos : String} {af : Array Edge}
theorem op_imin {x y : Operand} {ats : Array TypeId} {k : IntKind} {a b : Int} (hx : Lk Γ δ ρ x (isv (.int k a))) (hy : Lk Γ δ ρ y (isv (.int k b))) :
  OpOK P n ops Γ ρ δ τ ⟨some d, .call ⟨.builtin .min, #[x, y], ats⟩, ty, pos, af, none⟩ .no (.c (isv (.int k (min a b)))) dum :=
 ok_pure fun A c _ hr => by
  have h1 := (hr x _ (by simp [Op.operands, Call.operands]) hx).1
  have h2 := (hr y _ (by simp [Op.operands, Call.operands]) hy).1
  refine ⟨.int k (min a b), ?_, rfl, rfl⟩
  by_cases h : b < a
  ·simp [execOp, resolve, invoke, builtin, Builtin.min_, Builtin.min2, h1, h2, h, show min a b = b by omega]
  ·simp [execOp, resolve, invoke, builtin, Builtin.min_, Builtin.min2, h1, h2, h, show min a b = a by omega]
end ops
structure Prt where
 k : Int
 a : Int
 n : Nat
 f : Nat
def prtC (p : Prt) : List SP := [isv (.int .i64 p.k), isv (.int .i64 p.a), flp p.n, flp p.f]
def prtU (p : Prt) : List SP := [isv (.int .i64 p.k), isv (.int .i64 p.a), u64p p.n, u64p p.f]
def prtD : Prt := ⟨0, 0, 0, 0⟩
theorem prtC_len (p : Prt) : (prtC p).length = 4 := rfl
theorem prtU_len (p : Prt) : (prtU p).length = 4 := rfl
def pcn (p : Prt) : Prt := ⟨p.k, p.a, cn p.n, cn p.f⟩
def MotP (ps : List Prt) : SP := aggp [slk 4 prtC ps]
def ordN (k : Int) : Int := if k = 0 ∨ k = 1 ∨ k = 4 then 1 else if k = 2 then 2 else if k = 3 then 3 else 0
theorem ordN_rng (k : Int) : 0 ≤ ordN k ∧ ordN k ≤ 3 := by unfold ordN; (repeat' split) <;> omega
def P100 : Nat := 0x4630000000000000
def loudB (x : Nat) : Bool := fcmp .lss x 0 || fcmp .gtr x P100
def partE (p : Prt) : Int := if ordN p.k = 0 then 140 else if p.a < 1 ∨ 12 < p.a then 1 else if finB p.n = false ∨ finB p.f = false then 4 else if (loudB p.n || loudB p.f) = true then 141 else 0
theorem partE_good {p : Prt} (h : partE p = 0) : 1 ≤ ordN p.k ∧ 1 ≤ p.a ∧ p.a ≤ 12 ∧ finB p.n = true ∧ finB p.f = true := by
 have := ordN_rng p.k
 unfold partE at h
 split at h
 ·omega
 ·split at h
  ·omega
  ·split at h
   ·omega
   ·rename_i h1 h2 h3
    refine ⟨by omega, by omega, by omega, ?_, ?_⟩
    ·cases hf : finB p.n
     ·exact (h3 (.inl hf)).elim
     ·rfl
    ·cases hf : finB p.f
     ·exact (h3 (.inr hf)).elim
     ·rfl
def tot (ps : List Prt) : Nat → Int
 | 0 => 0
 | k + 1 => tot ps k + (ps.getD k prtD).a * ordN (ps.getD k prtD).k
def PrtTo (ps : List Prt) (k : Nat) : Prop := ∀ q, q < k → partE (ps.getD q prtD) = 0
theorem prtTo_zero {ps : List Prt} : PrtTo ps 0 := fun q h => by omega
theorem prtTo_step {ps : List Prt} {k : Nat} (h : PrtTo ps k) (hk : partE (ps.getD k prtD) = 0) : PrtTo ps (k + 1) := fun q hq => by
 by_cases e : q = k
 ·rw [e]; exact hk
 ·exact h q (by omega)
theorem ax_rng {p : Prt} (h : partE p = 0) : 1 ≤ p.a * ordN p.k ∧ p.a * ordN p.k ≤ 36 := by
 obtain ⟨h1, h2, h3, _⟩ := partE_good h
 have h4 := (ordN_rng p.k).2
 have h5 : 1 * 1 ≤ p.a * ordN p.k := Int.mul_le_mul h2 h1 (by omega) (by omega)
 have h6 : p.a * ordN p.k ≤ 12 * 3 := Int.mul_le_mul h3 h4 (by omega) (by omega)
 omega
theorem tot_rng {ps : List Prt} : ∀ {k : Nat}, PrtTo ps k → (k : Int) ≤ tot ps k ∧ tot ps k ≤ 36 * k
 | 0, _ => by simp [tot]
 | k + 1, h => by
  have ih := tot_rng (ps := ps) (k := k) fun q hq => h q (by omega)
  have := ax_rng (h k (by omega))
  rw [tot]
  omega
theorem tot_mono {ps : List Prt} {k : Nat} : ∀ {m : Nat}, k ≤ m → PrtTo ps m → tot ps k ≤ tot ps m
 | 0, hk, _ => by rw [show k = 0 by omega]; exact Int.le_refl _
 | m + 1, hk, h => by
  by_cases e : k = m + 1
  ·rw [e]; exact Int.le_refl _
  ·have ih := tot_mono (ps := ps) (k := k) (m := m) (by omega) fun q hq => h q (by omega)
   have := ax_rng (h m (by omega))
   rw [tot]
   omega
def motE (ps : List Prt) : Int := if ps.length = 0 then 1 else if fstE (ps.map partE) ≠ 0 then fstE (ps.map partE) else if 12 < tot ps ps.length then 2 else 0
theorem fstE_prt {ps : List Prt} : ∀ {k : Nat}, k ≤ ps.length → PrtTo ps k → fstE (ps.map partE) = fstE ((ps.drop k).map partE)
 | 0, _, _ => by simp
 | k + 1, hk, h => by
  rw [fstE_prt (k := k) (by omega) fun q hq => h q (by omega), List.drop_eq_getElem_cons (by omega : k < ps.length), List.map_cons, fstE]
  have h2 : partE ps[k] = 0 := by
   have := h k (by omega)
   rw [List.getD, List.getElem?_eq_getElem (by omega : k < ps.length)] at this
   exact this
  rw [if_pos h2]
theorem mot_1 {ps : List Prt} (h : ps.length = 0) : (1 : Int) = motE ps := by unfold motE; rw [if_pos h]
theorem mot_e {ps : List Prt} {k : Nat} (h0 : ¬ ps.length = 0) (hk : k < ps.length) (h : PrtTo ps k) (he : ¬ partE (ps.getD k prtD) = 0) : partE (ps.getD k prtD) = motE ps := by
 have e : fstE (ps.map partE) = partE (ps.getD k prtD) := by
  rw [fstE_prt (Nat.le_of_lt hk) h, List.drop_eq_getElem_cons hk, List.map_cons, fstE, List.getD, List.getElem?_eq_getElem hk]
  rw [List.getD, List.getElem?_eq_getElem hk] at he
  exact if_neg he
 unfold motE
 rw [if_neg h0, e, if_pos he]
theorem mot_n {ps : List Prt} (h0 : ¬ ps.length = 0) (h : PrtTo ps ps.length) : motE ps = if 12 < tot ps ps.length then 2 else 0 := by
 have e : fstE (ps.map partE) = 0 := by
  rw [fstE_prt (Nat.le_refl _) h, List.drop_length]; rfl
 unfold motE
 rw [if_neg h0, e, if_neg (by simp)]
theorem mot_good {ps : List Prt} (h : motE ps = 0) : ps.length ≠ 0 ∧ PrtTo ps ps.length ∧ tot ps ps.length ≤ 12 := by
 unfold motE at h
 split at h
 ·omega
 ·rename_i h0
  split at h
  ·rename_i h1; exact (h1 h).elim
  ·rename_i h1
   have hp : PrtTo ps ps.length := by
    have h1 : fstE (ps.map partE) = 0 := by omega
    have key : ∀ (l : List Int), fstE l = 0 → ∀ x, x ∈ l → x = 0 := by
     intro l
     induction l with
     | nil => intro _ x hx; cases hx
     | cons a l ih =>
      intro hl x hx
      rw [fstE_zero] at hl
      rcases List.mem_cons.1 hx with rfl | hx
      ·exact hl.1
      ·exact ih hl.2 x hx
    intro q hq
    exact key _ h1 _ (List.mem_map.2 ⟨_, mem_getD prtD hq, rfl⟩)
   split at h
   ·omega
   ·exact ⟨h0, hp, by omega⟩
structure IR where
 a : Int
 e : Int
def resI (x : IR) : SP := tupp [isv (.int .i64 x.a), isv (.int .i64 x.e)]
theorem ret_I {Γ : Facts} {a e : Int} {x : IR} (h : (⟨a, e⟩ : IR) = x) : Sb Γ (tupp [isv (.int .i64 a), isv (.int .i64 e)]) (resI x) := by subst h; exact zL
def dimR (ps : List Prt) : IR := if motE ps = 0 then ⟨tot ps ps.length, 0⟩ else ⟨0, motE ps⟩
theorem dimR_e {ps : List Prt} : (dimR ps).e = motE ps := by
 unfold dimR
 split
 ·rename_i h; exact h.symm
 ·rfl
theorem dimR_ok {ps : List Prt} (h : motE ps = 0) : dimR ps = ⟨tot ps ps.length, 0⟩ := if_pos h
def secR (t : Int) : NR := if t < -1125899906842624 ∨ 1125899906842624 < t then badN 1 else ⟨fdiv (FloatKind.f64.nearest t) 0x412e848000000000, 0⟩
theorem sub_zero_eq {x : Nat} (hx : x < 2 ^ 64) : fcmp .eql (fsub x x) 0 = finB x := by
 rw [fsub_self hx]
 cases finB x <;> decide +kernel
end Go.Bn
namespace Go.Bn
open Go
theorem slk_len {α : Type} {m : Nat} {mk : α → List SP} {xs : List α} {v : Value} {c : EW} (h : (slk m mk xs).H v c) : xs.length ≤ 9223372036854775807 := by
 obtain ⟨_, hv⟩ := h
 rcases hv with ⟨_, h2⟩ | ⟨ad, cap, _, h2, h3, _⟩
 ·omega
 ·simp only [maxLen] at h3; omega
theorem J_lenk {α : Type} {X : Cx} {Γ : Facts} {ρ : Env} {σ : List Res} {k : Code} {Q : Exit → Act → World → Prop} (t : Nat) {m : Nat} {mk : α → List SP} {xs : List α} (h : ρ.get t = some (slk m mk xs)) (hk : xs.length ≤ 9223372036854775807 → J X Γ ρ σ k Q) : J X Γ ρ σ k Q := fun a c hs =>
 hk (slk_len (hs.env t _ h)) a c hs
theorem J_lenP {X : Cx} {Γ : Facts} {ρ : Env} {σ : List Res} {k : Code} {Q : Exit → Act → World → Prop} (t : Nat) {ps : List Prt} (h : ρ.get t = some (MotP ps)) (hk : ps.length ≤ 9223372036854775807 → J X Γ ρ σ k Q) : J X Γ ρ σ k Q := fun a w hs => by
 obtain ⟨cs, _, _, h3⟩ := hs.env t _ h
 obtain ⟨u, _, _, hu⟩ := h3 0 _ rfl
 exact hk (slk_len hu) a w hs
theorem ordN_0 {k : Int} (h : k = 0 ∨ k = 1 ∨ k = 4) : ordN k = 1 := if_pos h
theorem ordN_2 {k : Int} (h : k = 2) : ordN k = 2 := by subst h; rfl
theorem ordN_3 {k : Int} (h : k = 3) : ordN k = 3 := by subst h; rfl
theorem ordN_n {k : Int} (h1 : ¬ (k = 0 ∨ k = 1 ∨ k = 4)) (h2 : ¬ k = 2) (h3 : ¬ k = 3) : ordN k = 0 := by unfold ordN; rw [if_neg h1, if_neg h2, if_neg h3]
def GoodL (ls : List Prt) : Prop := (∀ p, p ∈ ls → p.n < 2 ^ 64 ∧ p.f < 2 ^ 64) ∧ ls.length * 32 ≤ 140737488355328
theorem goodL_at {ls : List Prt} (h : GoodL ls) {k : Nat} (hk : k < ls.length) : (ls.getD k prtD).n < 2 ^ 64 ∧ (ls.getD k prtD).f < 2 ^ 64 := h.1 _ (mem_getD prtD hk)
theorem take_pcn {ls : List Prt} {k : Nat} (hk : k < ls.length) : (ls.map pcn).take (k + 1) = (ls.map pcn).take k ++ [pcn (ls.getD k prtD)] := by
 have e := take_snoc (xs := ls.map pcn) prtD (k := k) (by rw [List.length_map]; exact hk)
 rw [e]
 congr 2
 simp [List.getD, List.getElem?_map, List.getElem?_eq_getElem hk]
theorem tot_min {ps : List Prt} {k : Nat} (hp : PrtTo ps k) (h : partE (ps.getD k prtD) = 0) : min (min (tot ps k) 13 + (ps.getD k prtD).a * ordN (ps.getD k prtD).k) 13 = min (tot ps (k + 1)) 13 := by
 have := ax_rng h
 rw [tot]
 omega
theorem loud_nor {x y : Nat} (h : ((fcmp .lss x 0 = false ∧ fcmp .lss y 0 = false) ∧ fcmp .gtr x P100 = false) ∧ fcmp .gtr y P100 = false) : ¬ (loudB x || loudB y) = true := by
 unfold loudB
 obtain ⟨⟨⟨h1, h2⟩, h3⟩, h4⟩ := h
 rw [h1, h2, h3, h4]
 decide
theorem loud_or {x y : Nat} : (loudB x || loudB y) = true ↔ ((fcmp .lss x 0 = true ∨ fcmp .lss y 0 = true) ∨ fcmp .gtr x P100 = true) ∨ fcmp .gtr y P100 = true := by
 unfold loudB
 cases fcmp .lss x 0 <;> cases fcmp .lss y 0 <;> cases fcmp .gtr x P100 <;> cases fcmp .gtr y P100 <;> simp
abbrev BF := Prt → Nat → List (List Nat)
def moveB : BF := fun p d => if p.k = 2 then [[ONE, d], [0, ONE]] else if p.k = 3 then [[ONE, d, fdiv (fmul d d) 0x4000000000000000], [0, ONE, d], [0, 0, ONE]] else if p.k = 4 then [[fdiv ONE (fadd ONE (fmul p.f d))]] else [[ONE]]
def spB (k : Int) (a b d : Nat) : List (List Nat) := if k = 1 ∨ k = 4 then [[a]] else if k = 2 then [[fdiv (fmul (fmul a d) d) 0x4008000000000000, b], [b, a]]
 else if k = 3 then [[fdiv (fmul (fmul (fmul (fmul a d) d) d) d) 0x4034000000000000, fdiv (fmul (fmul (fmul a d) d) d) 0x4020000000000000, fdiv (fmul (fmul a d) d) 0x4018000000000000], [fdiv (fmul (fmul (fmul a d) d) d) 0x4020000000000000, fdiv (fmul (fmul a d) d) 0x4008000000000000, b], [fdiv (fmul (fmul a d) d) 0x4018000000000000, b, a]] else [[0]]
def noiseB : BF := fun p d => spB p.k (fmul p.n d) (fdiv (fmul (fmul p.n d) d) 0x4000000000000000) d
def BOk (g : BF) : Prop := ∀ p d, 1 ≤ ordN p.k → ((g p d).length : Int) = ordN p.k ∧ ∀ i, i < (g p d).length → ((g p d).getD i []).length = (g p d).length
theorem bok_of {g : BF} (h1 : ∀ p d, p.k = 0 ∨ p.k = 1 ∨ p.k = 4 → ∃ a, g p d = [[a]]) (h2 : ∀ p d, p.k = 2 → ∃ a b c e, g p d = [[a, b], [c, e]]) (h3 : ∀ p d, p.k = 3 → ∃ a b c e f i j k l, g p d = [[a, b, c], [e, f, i], [j, k, l]]) : BOk g := by
 intro p d ho
 by_cases e1 : p.k = 0 ∨ p.k = 1 ∨ p.k = 4
 ·obtain ⟨a, ha⟩ := h1 p d e1
  rw [ha, ordN_0 e1]
  refine ⟨rfl, fun i hi => ?_⟩
  simp at hi
  subst hi
  rfl
 ·by_cases e2 : p.k = 2
  ·obtain ⟨a, b, c, e, ha⟩ := h2 p d e2
   rw [ha, ordN_2 e2]
   refine ⟨rfl, fun i hi => ?_⟩
   have : i = 0 ∨ i = 1 := by simp at hi; omega
   rcases this with rfl | rfl <;> rfl
  ·by_cases e3 : p.k = 3
   ·obtain ⟨a, b, c, e, f, i', j, k, l, ha⟩ := h3 p d e3
    rw [ha, ordN_3 e3]
    refine ⟨rfl, fun i hi => ?_⟩
    have : i = 0 ∨ i = 1 ∨ i = 2 := by simp at hi; omega
    rcases this with rfl | rfl | rfl <;> rfl
   ·rw [ordN_n e1 e2 e3] at ho
    omega
theorem moveB_ok : BOk moveB := bok_of
 (fun p d h => by
  unfold moveB
  rw [if_neg (by omega), if_neg (by omega)]
  split <;> exact ⟨_, rfl⟩)
 (fun p d h => by unfold moveB; rw [if_pos h]; exact ⟨_, _, _, _, rfl⟩)
 (fun p d h => by unfold moveB; rw [if_neg (by omega), if_pos h]; exact ⟨_, _, _, _, _, _, _, _, _, rfl⟩)
theorem noiseB_ok : BOk noiseB := bok_of
 (fun p d h => by
  unfold noiseB spB
  split
  ·exact ⟨_, rfl⟩
  ·rw [if_neg (by omega), if_neg (by omega)]; exact ⟨_, rfl⟩)
 (fun p d h => by unfold noiseB spB; rw [if_neg (by omega), if_pos h]; exact ⟨_, _, _, _, rfl⟩)
 (fun p d h => by unfold noiseB spB; rw [if_neg (by omega), if_neg (by omega), if_pos h]; exact ⟨_, _, _, _, _, _, _, _, _, rfl⟩)
def layJ (B : List (List Nat)) (n fr : Int) (i : Nat) (xs : List Nat) : Nat → List Nat
 | 0 => xs
 | j + 1 => (layJ B n fr i xs j).set ((fr + i) * n + fr + j).toNat ((B.getD i []).getD j 0)
def layI (B : List (List Nat)) (n fr : Int) (xs : List Nat) : Nat → List Nat
 | 0 => xs
 | i + 1 => layJ B n fr i (layI B n fr xs i) (B.getD i []).length
def layA (B : List (List Nat)) (n fr : Int) (xs : List Nat) : Nat → List Nat
 | 0 => xs
 | a + 1 => layI B n (fr + a * B.length) (layA B n fr xs a) B.length
def layP (g : BF) (d : Nat) (ps : List Prt) (n : Int) : Nat → List Nat
 | 0 => List.replicate (n * n).toNat 0
 | k + 1 => layA (g (ps.getD k prtD) d) n (tot ps k) (layP g d ps n k) (ps.getD k prtD).a.toNat
theorem layJ_len {B : List (List Nat)} {n fr : Int} {i : Nat} {xs : List Nat} : ∀ {j : Nat}, (layJ B n fr i xs j).length = xs.length
 | 0 => rfl
 | j + 1 => by rw [layJ, List.length_set, layJ_len]
theorem layI_len {B : List (List Nat)} {n fr : Int} {xs : List Nat} : ∀ {i : Nat}, (layI B n fr xs i).length = xs.length
 | 0 => rfl
 | i + 1 => by rw [layI, layJ_len, layI_len]
theorem layA_len {B : List (List Nat)} {n fr : Int} {xs : List Nat} : ∀ {a : Nat}, (layA B n fr xs a).length = xs.length
 | 0 => rfl
 | a + 1 => by rw [layA, layI_len, layA_len]
theorem layP_len {g : BF} {d : Nat} {ps : List Prt} {n : Int} : ∀ {k : Nat}, (layP g d ps n k).length = (n * n).toNat
 | 0 => by rw [layP, List.length_replicate]
 | k + 1 => by rw [layP, layA_len, layP_len]
theorem place_rng {n x y : Int} (hx0 : 0 ≤ x) (hx : x < n) (hy0 : 0 ≤ y) (hy : y < n) : 0 ≤ x * n ∧ x * n ≤ n * n - n := by
 have h1 : 0 ≤ x * n := Int.mul_nonneg hx0 (by omega)
 have h2 : x * n ≤ (n - 1) * n := Int.mul_le_mul_of_nonneg_right (by omega) (by omega)
 rw [Int.sub_mul] at h2
 omega
theorem sq_rng {n : Int} (h0 : 0 ≤ n) (h1 : n ≤ 12) : 0 ≤ n * n ∧ n * n ≤ 144 := by
 have := Int.mul_nonneg h0 h0
 have h2 : n * n ≤ 12 * 12 := Int.mul_le_mul h1 h1 h0 (by omega)
 omega
theorem ax_in {ps : List Prt} {k : Nat} {a : Nat} (hg : PrtTo ps ps.length) (ht : tot ps ps.length ≤ 12) (hk : k < ps.length) (ha : (a : Int) < (ps.getD k prtD).a) :
  0 ≤ tot ps k ∧ 0 ≤ (a : Int) * ordN (ps.getD k prtD).k ∧ tot ps k + (a : Int) * ordN (ps.getD k prtD).k + ordN (ps.getD k prtD).k ≤ tot ps ps.length ∧ 1 ≤ ordN (ps.getD k prtD).k := by
 have h1 := tot_rng (ps := ps) (k := k) fun q hq => hg q (by omega)
 have h2 := tot_mono (ps := ps) (k := k + 1) (m := ps.length) (by omega) hg
 obtain ⟨h3, h4, h5, _⟩ := partE_good (hg k hk)
 have h6 : ((a : Int) + 1) * ordN (ps.getD k prtD).k ≤ (ps.getD k prtD).a * ordN (ps.getD k prtD).k := Int.mul_le_mul_of_nonneg_right (by omega) (by omega)
 have h7 : 0 ≤ (a : Int) * ordN (ps.getD k prtD).k := Int.mul_nonneg (by omega) (by omega)
 rw [Int.add_mul, Int.one_mul] at h6
 rw [tot] at h2
 omega
def blkM (g : BF) (ps : List Prt) (t : Int) : MR := if motE ps ≠ 0 then badM (motE ps) else if t < 0 ∨ 1125899906842624 < t then badM 1 else toldR (tot ps ps.length) (tot ps ps.length) (layP g (secR t).a ps (tot ps ps.length) ps.length)
end Go.Bn
namespace Go.Bn
open Go
theorem siz_B {r c : Int} (hs : Siz r c) : (sizB r = false ∨ sizB c = false) = False := by
 obtain ⟨h1, h2, h3, h4⟩ := hs
 have e1 : sizB r = true := sizB_iff.2 ⟨h1, h2⟩
 have e2 : sizB c = true := sizB_iff.2 ⟨h3, h4⟩
 rw [e1, e2]
 simp
theorem siz_repl {r c : Int} (hs : Siz r c) : List.replicate (r.toNat * c.toNat) (0 : Nat) = List.replicate (r * c).toNat 0 := by
 obtain ⟨h1, h2, h3, h4⟩ := hs
 rw [Int.toNat_mul h1 h3]
end Go.Bn
namespace Go.Bn
open Go
theorem blkM_1 {g : BF} {ps : List Prt} {t : Int} (h : ¬ motE ps = 0) : badM (motE ps) = blkM g ps t := by unfold blkM; rw [if_pos h]
theorem blkM_2 {g : BF} {ps : List Prt} {t : Int} (h : motE ps = 0) (h2 : t < 0 ∨ 1125899906842624 < t) : badM 1 = blkM g ps t := by unfold blkM; rw [if_neg (by simp [h]), if_pos h2]
theorem blkM_3 {g : BF} {ps : List Prt} {t n : Int} {k : Nat} (h : motE ps = 0) (h2 : ¬ (t < 0 ∨ 1125899906842624 < t)) (hn : n = tot ps ps.length) (hk : k = ps.length) : toldR n n (layP g (secR t).a ps n k) = blkM g ps t := by
 subst hk hn
 unfold blkM
 rw [if_neg (by simp [h]), if_neg h2]
theorem ax_next {x L : Int} {a : Nat} : x + (a : Int) * L + L = x + ((a + 1 : Nat) : Int) * L := by
 rw [Int.natCast_add, Int.add_mul]
 omega
end Go.Bn
namespace Go.Bn
open Go
theorem ordN_some {k : Int} (h : 1 ≤ ordN k) : k = 0 ∨ k = 1 ∨ k = 2 ∨ k = 3 ∨ k = 4 := by
 unfold ordN at h
 split at h
 ·omega
 ·split at h
  ·omega
  ·split at h <;> omega
end Go.Bn
namespace Go.Bn
open Go
theorem cut_err {neg : Bool} {n d : Nat} (h : n ≠ 0) : 2 * (Ieee.Toward.even.cut neg n d * 2 ^ d) ≤ 2 * n + 2 ^ d ∧ 2 * n ≤ 2 * (Ieee.Toward.even.cut neg n d * 2 ^ d) + 2 ^ d := by
 unfold Ieee.Toward.cut
 simp only [Nat.shiftLeft_eq, Nat.one_mul]
 by_cases hd : d ≤ n.log2 + 2
 ·rw [Nat.min_eq_left hd]
  have hg := Nat.two_pow_pos d
  generalize 2 ^ d = G at *
  have e := Nat.div_add_mod n G
  have hr := Nat.mod_lt n hg
  generalize n / G = low at *
  generalize n % G = rest at *
  rw [Nat.mul_comm G low] at e
  cases hm : (decide (G < 2 * rest) || (G == 2 * rest && low % 2 == 1))
  ·simp only [Bool.or_eq_false_iff, decide_eq_false_iff_not] at hm
   simp only [Bool.toNat_false, Nat.add_zero]
   omega
  ·simp only [Bool.or_eq_true, decide_eq_true_eq, Bool.and_eq_true, beq_iff_eq] at hm
   simp only [Bool.toNat_true, Nat.add_mul, Nat.one_mul]
   omega
 ·rw [Nat.min_eq_right (by omega)]
  have h1 := Nat.lt_log2_self (n := n)
  have h2 : 2 ^ (n.log2 + 2) = 2 * 2 ^ (n.log2 + 1) := by rw [Nat.pow_succ 2 (n.log2 + 1)]; omega
  have h3 : 2 ^ (n.log2 + 2) ≤ 2 ^ d := Nat.pow_le_pow_right (by omega) (by omega)
  rw [Nat.div_eq_of_lt (by omega), Nat.mod_eq_of_lt (by omega)]
  have hm : (decide (2 ^ (n.log2 + 2) < 2 * n) || (2 ^ (n.log2 + 2) == 2 * n && 0 % 2 == 1)) = false := by
   simp
   omega
  rw [hm]
  simp
  omega
theorem vlu_word {s : Bool} {t K : Nat} (hK : K ≤ 9007199254740992) (ht : t = 0 ∨ 4503599627370496 ≤ K) (w : Nat) (hw : w = Ieee.double.word s (min (t * 4503599627370496 + K) 9218868437227405312)) (hf : rung w < 9218868437227405312) : vlu w = K * 2 ^ t := by
 have h2 := (@word_parts s (min (t * 4503599627370496 + K) 9218868437227405312) (Nat.min_le_right ..)).2.1
 rw [← hw] at h2
 have hr : rung w = t * 4503599627370496 + K := by omega
 unfold vlu mgn plc
 rw [hr]
 by_cases hs : t * 4503599627370496 + K < 4503599627370496
 ·rw [if_pos hs, if_pos hs]
  have : t = 0 := by omega
  subst this
  simp
 ·rw [if_neg hs, if_neg hs]
  by_cases hb : K = 9007199254740992
  ·subst hb
   have e1 : (t * 4503599627370496 + 9007199254740992) % 4503599627370496 = 0 := by omega
   have e2 : (t * 4503599627370496 + 9007199254740992) / 4503599627370496 - 1 = t + 1 := by omega
   rw [e1, e2, show (-1074 + ((t + 1 : Nat) : Int) + 1074).toNat = t + 1 by omega, Nat.pow_succ]
   omega
  ·have hKlow : 4503599627370496 ≤ K := by omega
   have e1 : (t * 4503599627370496 + K) % 4503599627370496 = K - 4503599627370496 := by omega
   have e2 : (t * 4503599627370496 + K) / 4503599627370496 - 1 = t := by omega
   rw [e1, e2, show 4503599627370496 + (K - 4503599627370496) = K by omega, show (-1074 + (t : Int) + 1074).toNat = t by omega]
theorem pow52 : (2 : Nat) ^ 52 = 4503599627370496 := by decide
theorem pow53 : (2 : Nat) ^ 53 = 9007199254740992 := by decide
theorem nearest_step {s : Bool} {n : Nat} {p : Int} (hn : n ≠ 0) (hf : rung (Ieee.double.nearest s n p) < 9218868437227405312) :
  ∃ (K t d u : Nat), vlu (Ieee.double.nearest s n p) = K * 2 ^ t ∧ (d = 0 ∨ u = 0) ∧ (p + (u : Int) + 1074 = (t : Int) + (u : Int) + (u : Int) - (d : Int) + 0 ∨ True) ∧ p + (d : Int) = -1074 + (t : Int) + (u : Int) ∧
   2 * (K * 2 ^ d) ≤ 2 * (n * 2 ^ u) + 2 ^ d ∧ 2 * (n * 2 ^ u) ≤ 2 * (K * 2 ^ d) + 2 ^ d ∧ (u ≠ 0 → K = n * 2 ^ u) ∧ (t = 0 ∨ 4503599627370496 * 2 ^ d ≤ n * 2 ^ u) := by
 obtain ⟨last, hlast⟩ : ∃ last, last = max (p + (n.log2 : Int) - 52) (-1074) := ⟨_, rfl⟩
 have hw : Ieee.double.nearest s n p = Ieee.double.word s (min ((last + 1074).toNat * 4503599627370496 + Ieee.Toward.even.cut s (n <<< (p - last).toNat) (last - p).toNat) 9218868437227405312) := by
  unfold Ieee.Format.nearest
  simp only [lpE, fbE, binA, infR]
  rw [if_neg hn, show p + (n.log2 : Int) - ((52 : Nat) : Int) = p + (n.log2 : Int) - 52 by omega, ← hlast, show (last - -1074).toNat = (last + 1074).toNat by omega]
 have hnu : n <<< (p - last).toNat ≠ 0 := shift_ne hn
 obtain ⟨c1, c2⟩ := @cut_err s (n <<< (p - last).toNat) (last - p).toNat hnu
 have hlo := Nat.log2_self_le hn
 have hhi := Nat.lt_log2_self (n := n)
 generalize hK : Ieee.Toward.even.cut s (n <<< (p - last).toNat) (last - p).toNat = K at *
 rw [Nat.shiftLeft_eq] at c1 c2
 have hex : (p - last).toNat ≠ 0 → K = n * 2 ^ (p - last).toNat := fun hu => by
  rw [← hK, show (last - p).toNat = 0 by omega, cut_zero, Nat.shiftLeft_eq]
 have hup : n * 2 ^ (p - last).toNat < 9007199254740992 * 2 ^ (last - p).toNat := by
  rw [← pow53, ← Nat.pow_add]
  refine Nat.lt_of_lt_of_le (Nat.mul_lt_mul_of_pos_right hhi (Nat.two_pow_pos _)) ?_
  rw [← Nat.pow_add]
  exact Nat.pow_le_pow_right (by omega) (by omega)
 have hdn : (last + 1074).toNat = 0 ∨ 4503599627370496 * 2 ^ (last - p).toNat ≤ n * 2 ^ (p - last).toNat := by
  by_cases h0 : (last + 1074).toNat = 0
  ·exact .inl h0
  ·right
   rw [← pow52, ← Nat.pow_add]
   refine Nat.le_trans (Nat.pow_le_pow_right (by omega) (show 52 + (last - p).toNat ≤ n.log2 + (p - last).toNat by omega)) ?_
   rw [Nat.pow_add]
   exact Nat.mul_le_mul_right _ hlo
 have hdp := Nat.two_pow_pos (last - p).toNat
 have hKm : K ≤ 9007199254740992 := by
  generalize 2 ^ (last - p).toNat = D at *
  generalize n * 2 ^ (p - last).toNat = A at *
  by_cases hc : K ≤ 9007199254740992
  ·exact hc
  ·have := Nat.mul_le_mul_right D (show 9007199254740992 + 1 ≤ K by omega)
   rw [Nat.add_mul, Nat.one_mul] at this
   omega
 have hKl : (last + 1074).toNat = 0 ∨ 4503599627370496 ≤ K := by
  rcases hdn with h | h
  ·exact .inl h
  ·right
   generalize 2 ^ (last - p).toNat = D at *
   generalize n * 2 ^ (p - last).toNat = A at *
   by_cases hc : 4503599627370496 ≤ K
   ·exact hc
   ·have := Nat.mul_le_mul_right D (show K + 1 ≤ 4503599627370496 by omega)
    rw [Nat.add_mul, Nat.one_mul] at this
    omega
 refine ⟨K, (last + 1074).toNat, (last - p).toNat, (p - last).toNat, vlu_word hKm hKl _ hw hf, by omega, .inr trivial, by omega, c1, c2, hex, hdn⟩
theorem nearest_err {s : Bool} {n N : Nat} {p : Int} (hn : n ≠ 0) (hN : 1074 ≤ N) (hp : -(N : Int) ≤ p) (hf : rung (Ieee.double.nearest s n p) < 9218868437227405312) :
  ∃ E : Nat, vlu (Ieee.double.nearest s n p) * 2 ^ (N - 1074) ≤ n * 2 ^ (p + N).toNat + E ∧ n * 2 ^ (p + N).toNat ≤ vlu (Ieee.double.nearest s n p) * 2 ^ (N - 1074) + E ∧ (E * 9007199254740992 ≤ n * 2 ^ (p + N).toNat ∨ 2 * E ≤ 2 ^ (N - 1074)) := by
 obtain ⟨K, t, d, u, h1, h2, _, h3, h4, h5, h6, h7⟩ := nearest_step hn hf
 rw [h1]
 by_cases hu : u = 0
 ·subst hu
  rw [Nat.pow_zero, Nat.mul_one] at h4 h5 h7
  have e1 : K * 2 ^ t * 2 ^ (N - 1074) = K * 2 ^ d * 2 ^ (p + N).toNat := by
   rw [Nat.mul_assoc, ← Nat.pow_add, Nat.mul_assoc, ← Nat.pow_add, show t + (N - 1074) = d + (p + N).toNat by omega]
  rw [e1]
  have e2 : 2 ^ d * 2 ^ (p + N).toNat = 2 ^ t * 2 ^ (N - 1074) := by
   rw [← Nat.pow_add, ← Nat.pow_add, show d + (p + N).toNat = t + (N - 1074) by omega]
  have hQ := Nat.two_pow_pos (p + N).toNat
  generalize hq : 2 ^ (p + N).toNat = Q at *
  by_cases hd : d = 0
  ·subst hd
   rw [Nat.pow_zero] at h4 h5
   have : K = n := by omega
   subst this
   exact ⟨0, by rw [Nat.pow_zero, Nat.mul_one]; exact Nat.le_refl _, by rw [Nat.pow_zero, Nat.mul_one]; exact Nat.le_refl _, .inl (by rw [Nat.zero_mul]; exact Nat.zero_le _)⟩
  ·obtain ⟨d', rfl⟩ : ∃ d', d = d' + 1 := ⟨d - 1, by omega⟩
   rw [Nat.pow_succ] at h4 h5 h7 e2 ⊢
   generalize 2 ^ d' = D at *
   refine ⟨D * Q, ?_, ?_, ?_⟩
   ·rw [← Nat.add_mul]
    exact Nat.mul_le_mul_right _ (by omega)
   ·rw [← Nat.add_mul]
    exact Nat.mul_le_mul_right _ (by omega)
   ·rcases h7 with h7 | h7
    ·right
     subst h7
     rw [Nat.pow_zero, Nat.one_mul] at e2
     rw [← e2, Nat.mul_comm D 2, Nat.mul_assoc]
     exact Nat.le_refl _
    ·left
     have h8 := Nat.mul_le_mul_right Q h7
     rw [show D * Q * 9007199254740992 = 4503599627370496 * (D * 2) * Q by rw [Nat.mul_comm (D * Q), ← Nat.mul_assoc, Nat.mul_comm D 2, ← Nat.mul_assoc]]
     exact h8
 ·have hd : d = 0 := by omega
  subst hd
  have hK := h6 hu
  have e1 : K * 2 ^ t * 2 ^ (N - 1074) = n * 2 ^ (p + N).toNat := by
   rw [hK, Nat.mul_assoc, Nat.mul_assoc, ← Nat.pow_add, ← Nat.pow_add, show u + (t + (N - 1074)) = (p + N).toNat by omega]
  rw [e1]
  exact ⟨0, Nat.le_refl _, Nat.le_refl _, .inl (by rw [Nat.zero_mul]; exact Nat.zero_le _)⟩
end Go.Bn
namespace Go.Bn
open Go
theorem fmul_vlx {x y : Nat} (hx : rung x < 9218868437227405312) (hy : rung y < 9218868437227405312) : fmul x y = Ieee.double.nearest (sgn x ^^ sgn y) (vlu x * vlu y) (-2148) := by
 have px := plc_ge x
 have py := plc_ge y
 rw [fmul_fin hx hy]
 apply nearest_eq
 rw [show min (plc x + plc y) (-2148 : Int) = -2148 by omega]
 unfold vlu
 rw [show (plc x + plc y - -2148).toNat = (plc x + 1074).toNat + (plc y + 1074).toNat by omega, Nat.pow_add]
 simp [Nat.mul_assoc, Nat.mul_left_comm]
def UU : Nat := 9007199254740992
def UV : Nat := 9007199254740991
theorem uv_lt : UV ≤ UU := by decide
theorem uu_pos : 0 < UU := by decide
theorem uv_pos : 0 < UV := by decide
structure Apx (k : Nat) (a b : Nat) : Prop where
 l : a * UV ^ k ≤ b * UU ^ k
 r : b * UV ^ k ≤ a * UU ^ k
theorem apx_refl (a : Nat) : Apx 0 a a := ⟨Nat.le_refl _, Nat.le_refl _⟩
theorem uv_pow (k : Nat) : UV ^ k ≤ UU ^ k := Nat.pow_le_pow_left uv_lt k
theorem Apx.trans {k l a b c : Nat} (h : Apx k a b) (g : Apx l b c) : Apx (k + l) a c := by
 constructor
 ·rw [Nat.pow_add, Nat.pow_add, ← Nat.mul_assoc]
  refine Nat.le_trans (Nat.mul_le_mul_right _ h.l) ?_
  rw [Nat.mul_right_comm]
  refine Nat.le_trans (Nat.mul_le_mul_right _ g.l) ?_
  rw [Nat.mul_assoc, Nat.mul_comm (UU ^ l)]
  exact Nat.le_refl _
 ·rw [Nat.pow_add, Nat.pow_add, Nat.mul_comm (UV ^ k), ← Nat.mul_assoc]
  refine Nat.le_trans (Nat.mul_le_mul_right _ g.r) ?_
  rw [Nat.mul_right_comm]
  refine Nat.le_trans (Nat.mul_le_mul_right _ h.r) ?_
  rw [Nat.mul_assoc]
  exact Nat.le_refl _
theorem mul4 (a b c d : Nat) : a * b * (c * d) = (a * c) * (b * d) := by
 rw [Nat.mul_assoc, Nat.mul_left_comm b c d, ← Nat.mul_assoc]
theorem Apx.mul {k l a b c d : Nat} (h : Apx k a b) (g : Apx l c d) : Apx (k + l) (a * c) (b * d) := by
 constructor
 ·rw [Nat.pow_add, Nat.pow_add, mul4, mul4 b]
  exact Nat.mul_le_mul h.l g.l
 ·rw [Nat.pow_add, Nat.pow_add, mul4, mul4 a]
  exact Nat.mul_le_mul h.r g.r
theorem Apx.mono {k l a b : Nat} (h : Apx k a b) (hk : k ≤ l) : Apx l a b := by
 obtain ⟨d, rfl⟩ : ∃ d, l = k + d := ⟨l - k, by omega⟩
 constructor
 ·rw [Nat.pow_add, Nat.pow_add, ← Nat.mul_assoc, ← Nat.mul_assoc]
  exact Nat.mul_le_mul h.l (uv_pow d)
 ·rw [Nat.pow_add, Nat.pow_add, ← Nat.mul_assoc, ← Nat.mul_assoc]
  exact Nat.mul_le_mul h.r (uv_pow d)
theorem Apx.cancel {k a b c : Nat} (hc : 0 < c) (h : Apx k (a * c) (b * c)) : Apx k a b := by
 constructor
 ·have := h.l
  rw [Nat.mul_right_comm, Nat.mul_right_comm b] at this
  exact Nat.le_of_mul_le_mul_right this hc
 ·have := h.r
  rw [Nat.mul_right_comm, Nat.mul_right_comm a] at this
  exact Nat.le_of_mul_le_mul_right this hc
theorem Apx.scale {k a b : Nat} (c : Nat) (h : Apx k a b) : Apx k (a * c) (b * c) := by
 have := h.mul (apx_refl c)
 rw [Nat.add_zero] at this
 exact this
theorem apx_gen {X W E U V : Nat} (hU : U = V + 1) (h1 : W ≤ X + E) (h2 : X ≤ W + E) (hE : E * U ≤ X) : W * V ≤ X * U ∧ X * V ≤ W * U := by
 subst hU
 have g1 := Nat.mul_le_mul_right V h1
 have g2 := Nat.mul_le_mul_right V h2
 have g3 := Nat.mul_le_mul_right 1 h2
 rw [Nat.add_mul] at g1 g2
 rw [Nat.mul_add, Nat.mul_one] at hE
 rw [Nat.mul_add, Nat.mul_add, Nat.mul_one, Nat.mul_one]
 generalize W * V = a at *
 generalize X * V = b at *
 generalize E * V = c at *
 constructor
 ·omega
 ·by_cases hw : c ≤ W
  ·omega
  ·omega
theorem uu_uv : UU = UV + 1 := by decide
theorem apx_err {X W E : Nat} (h1 : W ≤ X + E) (h2 : X ≤ W + E) (hE : E * UU ≤ X) : Apx 1 W X := by
 obtain ⟨a, b⟩ := apx_gen uu_uv h1 h2 hE
 exact ⟨by rw [Nat.pow_one, Nat.pow_one]; exact a, by rw [Nat.pow_one, Nat.pow_one]; exact b⟩
theorem nearest_apx {s : Bool} {n N : Nat} {p : Int} (hN : 1074 ≤ N) (hp : -(N : Int) ≤ p) (hf : rung (Ieee.double.nearest s n p) < 9218868437227405312) (hb : 4503599627370496 * 2 ^ (N - 1074) ≤ n * 2 ^ (p + N).toNat) :
  Apx 1 (vlu (Ieee.double.nearest s n p) * 2 ^ (N - 1074)) (n * 2 ^ (p + N).toNat) := by
 have hq := Nat.two_pow_pos (N - 1074)
 have hn : n ≠ 0 := by
  rintro rfl
  rw [Nat.zero_mul] at hb
  omega
 obtain ⟨E, h1, h2, h3⟩ := nearest_err hn hN hp hf
 refine apx_err h1 h2 ?_
 rcases h3 with h3 | h3
 ·exact h3
 ·have hu : UU = 2 * 4503599627370496 := by decide
  generalize 2 ^ (N - 1074) = Q at *
  generalize n * 2 ^ (p + N).toNat = X at *
  have g := Nat.mul_le_mul_right 4503599627370496 (show E * 2 ≤ Q by omega)
  rw [hu, ← Nat.mul_assoc]
  omega
theorem nf1 {s : Bool} {p : Int} : rung (Ieee.double.nearest s 0 p) < 9218868437227405312 := by
 rw [nearest_nought]
 cases s
 ·show 0 % 9223372036854775808 < _
  decide
 ·show 9223372036854775808 % 9223372036854775808 < _
  decide
theorem word_fin {s : Bool} {t K : Nat} (ht : t ≤ 2044) (hK : K ≤ 9007199254740992) : rung (Ieee.double.word s (min (t * 4503599627370496 + K) 9218868437227405312)) < 9218868437227405312 := by
 rw [(@word_parts s (min (t * 4503599627370496 + K) 9218868437227405312) (Nat.min_le_right ..)).2.1]
 omega
theorem nearest_fin {s : Bool} {n N : Nat} {p : Int} (hp : -(N : Int) ≤ p) (hb : n * 2 ^ (p + N).toNat < 2 ^ (N + 1023)) : rung (Ieee.double.nearest s n p) < 9218868437227405312 := by
 by_cases hn : n = 0
 ·subst hn
  exact nf1
 ·obtain ⟨last, hlast⟩ : ∃ last, last = max (p + (n.log2 : Int) - 52) (-1074) := ⟨_, rfl⟩
  have hw : Ieee.double.nearest s n p = Ieee.double.word s (min ((last + 1074).toNat * 4503599627370496 + Ieee.Toward.even.cut s (n <<< (p - last).toNat) (last - p).toNat) 9218868437227405312) := by
   unfold Ieee.Format.nearest
   simp only [lpE, fbE, binA, infR]
   rw [if_neg hn, show p + (n.log2 : Int) - ((52 : Nat) : Int) = p + (n.log2 : Int) - 52 by omega, ← hlast, show (last - -1074).toNat = (last + 1074).toNat by omega]
  obtain ⟨c1, c2⟩ := @cut_err s (n <<< (p - last).toNat) (last - p).toNat (shift_ne hn)
  have hlo := Nat.log2_self_le hn
  have hhi := Nat.lt_log2_self (n := n)
  generalize hK : Ieee.Toward.even.cut s (n <<< (p - last).toNat) (last - p).toNat = K at *
  rw [Nat.shiftLeft_eq] at c1 c2
  have hup : n * 2 ^ (p - last).toNat < 9007199254740992 * 2 ^ (last - p).toNat := by
   rw [← pow53, ← Nat.pow_add]
   refine Nat.lt_of_lt_of_le (Nat.mul_lt_mul_of_pos_right hhi (Nat.two_pow_pos _)) ?_
   rw [← Nat.pow_add]
   exact Nat.pow_le_pow_right (by omega) (by omega)
  have hKm : K ≤ 9007199254740992 := by
   have hdp := Nat.two_pow_pos (last - p).toNat
   generalize 2 ^ (last - p).toNat = D at *
   generalize n * 2 ^ (p - last).toNat = A at *
   by_cases hc : K ≤ 9007199254740992
   ·exact hc
   ·have := Nat.mul_le_mul_right D (show 9007199254740992 + 1 ≤ K by omega)
    rw [Nat.add_mul, Nat.one_mul] at this
    omega
  have hl : p + (n.log2 : Int) ≤ 1022 := by
   have h1 : 2 ^ (n.log2 + (p + N).toNat) < 2 ^ (N + 1023) := by
    rw [Nat.pow_add]
    exact Nat.lt_of_le_of_lt (Nat.mul_le_mul_right _ hlo) hb
   have h2 : n.log2 + (p + N).toNat < N + 1023 := (Nat.pow_lt_pow_iff_right (by omega)).1 h1
   omega
  have ht : (last + 1074).toNat ≤ 2044 := by omega
  rw [hw]
  exact word_fin ht hKm
def NZ : Nat := 1074
theorem nz : NZ = 1074 := rfl
def PZ : Nat := 2 ^ NZ
theorem pz_def : PZ = 2 ^ NZ := rfl
theorem pz_pow (a : Nat) : PZ * 2 ^ a = 2 ^ (NZ + a) := (Nat.pow_add 2 NZ a).symm
theorem pz_pos : 0 < PZ := Nat.two_pow_pos NZ
theorem pz_ge {a : Nat} (h : a ≤ NZ) : 2 ^ a ≤ PZ := Nat.pow_le_pow_right (by omega) h
theorem pz_at {N : Nat} (h : N = 2 * NZ) : 2 ^ (N - 1074) = PZ := by
 rw [show N - 1074 = NZ by rw [h, nz]]
 rfl
structure Rng (x : Nat) (k : Nat) : Prop where
 f : rung x < 9218868437227405312
 s : sgn x = false
 lo : PZ ≤ vlu x * 2 ^ k
 hi : vlu x ≤ PZ * 2 ^ k
theorem Rng.pos {x k : Nat} (h : Rng x k) : 0 < vlu x := by
 have h1 := h.lo
 rcases Nat.eq_zero_or_pos (vlu x) with h0 | h0
 ·rw [h0, Nat.zero_mul] at h1
  have := pz_pos
  omega
 ·exact h0
theorem uu_two : UU ≤ 2 * UV := by decide
theorem Apx.two {a b : Nat} (h : Apx 1 a b) : a ≤ 2 * b ∧ b ≤ 2 * a := by
 have h1 := h.l
 have h2 := h.r
 rw [Nat.pow_one, Nat.pow_one] at h1 h2
 have hv := uv_pos
 have h3 := uu_two
 constructor
 ·have h4 := Nat.mul_le_mul_left b h3
  have h5 : a * UV ≤ 2 * b * UV := by
   refine Nat.le_trans h1 (Nat.le_trans h4 (Nat.le_of_eq ?_))
   rw [← Nat.mul_assoc, Nat.mul_comm b 2]
  exact Nat.le_of_mul_le_mul_right h5 hv
 ·have h4 := Nat.mul_le_mul_left a h3
  have h5 : b * UV ≤ 2 * a * UV := by
   refine Nat.le_trans h2 (Nat.le_trans h4 (Nat.le_of_eq ?_))
   rw [← Nat.mul_assoc, Nat.mul_comm a 2]
  exact Nat.le_of_mul_le_mul_right h5 hv
theorem nearest_pos {n : Nat} {p : Int} : sgn (Ieee.double.nearest false n p) = false := by
 unfold Ieee.Format.nearest
 split
 ·exact (@word_parts false 0 (by omega)).1
 ·simp only [infR]
  exact (word_parts (Nat.min_le_right ..)).1
theorem mul_apx {x y k l : Nat} (hx : Rng x k) (hy : Rng y l) (hk : k + l ≤ 900) : Apx 1 (vlu (fmul x y) * PZ) (vlu x * vlu y) ∧ Rng (fmul x y) (k + l + 1) := by
 have e := fmul_vlx hx.f hy.f
 rw [hx.s, hy.s, Bool.xor_false] at e
 have hP := pz_pos
 have hlo : PZ * PZ ≤ vlu x * vlu y * 2 ^ (k + l) := by
  rw [Nat.pow_add, ← mul4]
  rw [mul4 (vlu x) (2 ^ k)]
  rw [mul4]
  exact Nat.mul_le_mul hx.lo hy.lo
 have hhi : vlu x * vlu y ≤ PZ * PZ * 2 ^ (k + l) := by
  rw [Nat.pow_add, ← mul4 PZ (2 ^ k)]
  exact Nat.mul_le_mul hx.hi hy.hi
 have hkl := Nat.two_pow_pos (k + l)
 have hb : 4503599627370496 * PZ ≤ vlu x * vlu y := by
  have h1 : 2 ^ 52 * 2 ^ (k + l) ≤ PZ := by
   rw [← Nat.pow_add]
   exact pz_ge (by rw [nz]; omega)
  rw [pow52] at h1
  have h2 := Nat.mul_le_mul_left PZ h1
  refine Nat.le_of_mul_le_mul_right ?_ hkl
  refine Nat.le_trans (Nat.le_of_eq ?_) (Nat.le_trans h2 hlo)
  rw [Nat.mul_comm 4503599627370496 PZ, Nat.mul_assoc]
 obtain ⟨N, hN⟩ : ∃ N, N = 2 * NZ := ⟨_, rfl⟩
 have hN2 : N = 2148 := by rw [hN, nz]
 have eX : ∀ X : Nat, X * 2 ^ ((-2148 : Int) + (N : Int)).toNat = X := fun X => by
  rw [show ((-2148 : Int) + (N : Int)).toNat = 0 by omega, Nat.pow_zero, Nat.mul_one]
 have hf : rung (fmul x y) < 9218868437227405312 := by
  rw [e]
  refine nearest_fin (N := N) (by omega) ?_
  rw [eX]
  refine Nat.lt_of_le_of_lt hhi ?_
  rw [show PZ * PZ * 2 ^ (k + l) = 2 ^ (NZ + (NZ + (k + l))) by rw [Nat.mul_assoc, pz_pow (k + l)]; exact pz_pow _]
  exact Nat.pow_lt_pow_of_lt (by omega) (by rw [hN]; omega)
 have ha : Apx 1 (vlu (fmul x y) * PZ) (vlu x * vlu y) := by
  have h1 := nearest_apx (s := false) (n := vlu x * vlu y) (N := N) (p := -2148) (by omega) (by omega) (by rw [← e]; exact hf) (by rw [eX, pz_at hN]; exact hb)
  rw [eX, ← e, pz_at hN] at h1
  exact h1
 obtain ⟨t1, t2⟩ := ha.two
 refine ⟨ha, hf, by rw [e]; exact nearest_pos, ?_, ?_⟩
 ·refine Nat.le_of_mul_le_mul_right ?_ hP
  refine Nat.le_trans hlo (Nat.le_trans (Nat.mul_le_mul_right _ t2) (Nat.le_of_eq ?_))
  rw [Nat.pow_succ]
  generalize vlu (fmul x y) = W
  generalize 2 ^ (k + l) = D
  rw [Nat.mul_comm 2 (W * PZ), Nat.mul_assoc, Nat.mul_comm 2 D, Nat.mul_assoc, Nat.mul_comm PZ, ← Nat.mul_assoc]
 ·refine Nat.le_of_mul_le_mul_right ?_ hP
  refine Nat.le_trans t1 (Nat.le_trans (Nat.mul_le_mul_left 2 hhi) (Nat.le_of_eq ?_))
  rw [Nat.pow_succ]
  generalize 2 ^ (k + l) = D
  rw [Nat.mul_comm 2, Nat.mul_assoc (PZ * PZ), Nat.mul_assoc PZ PZ, Nat.mul_assoc PZ (D * 2), Nat.mul_comm PZ (D * 2)]
end Go.Bn
namespace Go.Bn
open Go
theorem quo_err {D n : Nat} (hn : n ≠ 0) (hq : UU * n ≤ D) : Apx 1 ((2 * (D / n) + (D % n != 0).toNat) * n) (2 * D) := by
 have e := Nat.div_add_mod D n
 have hr := Nat.mod_lt D (show 0 < n by omega)
 have hE : n * UU ≤ 2 * D := by rw [Nat.mul_comm]; omega
 generalize D / n = q at *
 generalize hrr : D % n = r at *
 rw [Nat.mul_comm n q] at e
 refine apx_err (E := n) ?_ ?_ hE
 ·rw [Nat.add_mul, Nat.mul_assoc]
  cases (r != 0) <;> simp only [Bool.toNat_false, Bool.toNat_true, Nat.zero_mul, Nat.one_mul] <;> omega
 ·rw [Nat.add_mul, Nat.mul_assoc]
  by_cases h0 : r = 0
  ·subst h0
   simp
   omega
  ·rw [show (r != 0) = true by simp [h0]]
   simp only [Bool.toNat_true, Nat.one_mul]
   omega
theorem uu53 : UU = 2 ^ 53 := by decide
theorem quo_big {m n : Nat} (hm : m ≠ 0) (hn : n ≠ 0) (hl : m.log2 ≤ 54 + n.log2) : UU * n ≤ m <<< (54 + n.log2 - m.log2) := by
 rw [Nat.shiftLeft_eq, uu53]
 have h1 := Nat.log2_self_le hm
 have h2 := Nat.lt_log2_self (n := n)
 refine Nat.le_trans (Nat.mul_le_mul_left _ (Nat.le_of_lt h2)) ?_
 rw [← Nat.pow_add]
 refine Nat.le_trans ?_ (Nat.mul_le_mul_right _ h1)
 rw [← Nat.pow_add]
 exact Nat.pow_le_pow_right (by omega) (by omega)
theorem mgn_pos {x : Nat} (h : 0 < vlu x) : mgn x ≠ 0 := by
 intro e
 unfold vlu at h
 rw [e, Nat.zero_mul] at h
 omega
theorem mgn_log {x : Nat} : (mgn x).log2 ≤ 52 := by
 by_cases h0 : mgn x = 0
 ·rw [h0]; decide
 ·have := (Nat.log2_lt h0 (k := 53)).2 (mgn_lt x); omega
theorem fdiv_read {x y : Nat} (hx : rung x < 9218868437227405312) (hy : rung y < 9218868437227405312) (hn : mgn y ≠ 0) :
  fdiv x y = Ieee.double.nearest (sgn x ^^ sgn y) (2 * ((mgn x <<< (54 + (mgn y).log2 - (mgn x).log2)) / mgn y) + ((mgn x <<< (54 + (mgn y).log2 - (mgn x).log2)) % mgn y != 0).toNat) (plc x - plc y - ((54 + (mgn y).log2 - (mgn x).log2 : Nat) : Int) - 1) := by
 unfold fdiv Ieee.Format.div
 rw [read_fin hx, read_fin hy]
 simp only [Ieee.Datum.quotient]
 rw [if_neg hn, fbE]
 rfl
theorem pow_shift (m more s : Nat) : 2 * (m * 2 ^ more) * 2 ^ s = m * 2 ^ (more + 1 + s) := by
 rw [Nat.pow_add, Nat.pow_succ]
 generalize 2 ^ more = a
 generalize 2 ^ s = b
 simp only [Nat.mul_assoc, Nat.mul_comm, Nat.mul_left_comm]
theorem div_apx {x y k l : Nat} (hx : Rng x k) (hy : Rng y l) (hk : k + l ≤ 900) : Apx 2 (vlu (fdiv x y) * vlu y) (vlu x * PZ) ∧ Rng (fdiv x y) (k + l + 2) := by
 have hm := mgn_pos hx.pos
 have hn := mgn_pos hy.pos
 have e := fdiv_read hx.f hy.f hn
 rw [hx.s, hy.s, show (false ^^ false) = false from rfl] at e
 have hlm := @mgn_log x
 have hln := @mgn_log y
 have hP := pz_pos
 have px := plc_ge x
 have py := plc_ge y
 have px2 := plc_le hx.f
 have py2 := plc_le hy.f
 obtain ⟨more, hmore⟩ : ∃ more, more = 54 + (mgn y).log2 - (mgn x).log2 := ⟨_, rfl⟩
 have hq := quo_err hn (quo_big hm hn (by omega))
 rw [← hmore] at e hq
 obtain ⟨Q, hQ⟩ : ∃ Q, Q = 2 * ((mgn x <<< more) / mgn y) + ((mgn x <<< more) % mgn y != 0).toNat := ⟨_, rfl⟩
 obtain ⟨p, hp⟩ : ∃ p, p = plc x - plc y - (more : Int) - 1 := ⟨_, rfl⟩
 rw [← hQ] at hq
 rw [← hQ, ← hp] at e
 obtain ⟨N, hN⟩ : ∃ N, N = 3 * NZ := ⟨_, rfl⟩
 have hN2 : N = 3222 := by rw [hN, nz]
 have hpN : -(N : Int) ≤ p := by omega
 -- X vlu y is nearly vlu x 2^N
 have hX : Apx 1 (Q * 2 ^ (p + N).toNat * vlu y) (vlu x * 2 ^ N) := by
  have h1 := hq.scale (2 ^ ((p + N).toNat + (plc y + 1074).toNat))
  rw [Nat.shiftLeft_eq] at h1
  have e1 : Q * mgn y * 2 ^ ((p + N).toNat + (plc y + 1074).toNat) = Q * 2 ^ (p + N).toNat * vlu y := by
   unfold vlu
   rw [Nat.pow_add]
   exact mul4 _ _ _ _
  have e2 : 2 * (mgn x * 2 ^ more) * 2 ^ ((p + N).toNat + (plc y + 1074).toNat) = vlu x * 2 ^ N := by
   unfold vlu
   rw [pow_shift, Nat.mul_assoc (mgn x), ← Nat.pow_add, show more + 1 + ((p + N).toNat + (plc y + 1074).toNat) = (plc x + 1074).toNat + N by omega]
  rw [e1, e2] at h1
  exact h1
 obtain ⟨x1, x2⟩ := hX.two
 have eP : 2 ^ N = PZ * PZ * PZ := by
  rw [hN, show 3 * NZ = NZ + NZ + NZ by omega, Nat.pow_add, Nat.pow_add, ← pz_def]
 have eP2 : 2 ^ (N - 1074) = PZ * PZ := by
  rw [show N - 1074 = NZ + NZ by rw [hN, nz], Nat.pow_add, ← pz_def]
 generalize hXX : Q * 2 ^ (p + N).toNat = X at *
 have hkl := Nat.two_pow_pos (k + l)
 -- X is from 2^(N - k - l - 1) to 2^(N + k + l + 1)
 have hXlo : PZ * PZ * PZ ≤ X * 2 ^ (k + l + 1) := by
  refine Nat.le_of_mul_le_mul_right ?_ hP
  have g1 := Nat.mul_le_mul_right (PZ * PZ * PZ) hx.lo
  have g2 := Nat.mul_le_mul_right (2 ^ k) x2
  have g3 := Nat.mul_le_mul_left (2 * X * 2 ^ k) hy.hi
  rw [eP] at g2
  refine Nat.le_trans (Nat.le_of_eq (Nat.mul_comm _ PZ)) (Nat.le_trans g1 ?_)
  refine Nat.le_trans (Nat.le_of_eq (Nat.mul_right_comm _ _ _)) (Nat.le_trans g2 ?_)
  refine Nat.le_trans (Nat.le_of_eq ?_) (Nat.le_trans g3 (Nat.le_of_eq ?_))
  ·rw [← Nat.mul_assoc, Nat.mul_right_comm]
  ·rw [Nat.pow_succ, Nat.pow_add]
   generalize 2 ^ k = a
   generalize 2 ^ l = b
   simp only [Nat.mul_assoc, Nat.mul_comm, Nat.mul_left_comm]
 have hXhi : X ≤ PZ * PZ * PZ * 2 ^ (k + l + 1) := by
  refine Nat.le_of_mul_le_mul_right ?_ hP
  have g1 := Nat.mul_le_mul_left X hy.lo
  have g2 := Nat.mul_le_mul_right (2 ^ l) x1
  have g3 := Nat.mul_le_mul_right (PZ * PZ * PZ * (2 * 2 ^ l)) hx.hi
  rw [eP] at g2
  refine Nat.le_trans g1 (Nat.le_trans (Nat.le_of_eq ?_) (Nat.le_trans g2 (Nat.le_trans (Nat.le_of_eq ?_) (Nat.le_trans g3 (Nat.le_of_eq ?_)))))
  ·rw [Nat.mul_assoc]
  ·simp only [Nat.mul_assoc, Nat.mul_comm, Nat.mul_left_comm]
  ·rw [Nat.pow_succ, Nat.pow_add]
   generalize 2 ^ k = a
   generalize 2 ^ l = b
   simp only [Nat.mul_assoc, Nat.mul_comm, Nat.mul_left_comm]
 have hb : 4503599627370496 * 2 ^ (N - 1074) ≤ X := by
  rw [eP2]
  have h1 : 2 ^ 52 * 2 ^ (k + l + 1) ≤ PZ := by
   rw [← Nat.pow_add]
   exact pz_ge (by rw [nz]; omega)
  rw [pow52] at h1
  refine Nat.le_of_mul_le_mul_right ?_ (Nat.two_pow_pos (k + l + 1))
  refine Nat.le_trans (Nat.le_of_eq ?_) (Nat.le_trans (Nat.mul_le_mul_left (PZ * PZ) h1) hXlo)
  rw [Nat.mul_comm 4503599627370496, Nat.mul_assoc]
 have hf : rung (fdiv x y) < 9218868437227405312 := by
  rw [e]
  refine nearest_fin (N := N) hpN ?_
  rw [hXX]
  refine Nat.lt_of_le_of_lt hXhi ?_
  rw [← eP, ← Nat.pow_add]
  exact Nat.pow_lt_pow_of_lt (by omega) (by omega)
 have hW : Apx 1 (vlu (fdiv x y) * (PZ * PZ)) X := by
  have h1 := nearest_apx (s := false) (n := Q) (N := N) (p := p) (by omega) hpN (by rw [← e]; exact hf) (by rw [hXX]; exact hb)
  rw [hXX, ← e, eP2] at h1
  exact h1
 have ha : Apx 2 (vlu (fdiv x y) * vlu y) (vlu x * PZ) := by
  have h1 := (hW.scale (vlu y)).trans hX
  rw [eP] at h1
  refine Apx.cancel (c := PZ * PZ) (Nat.mul_pos hP hP) ?_
  rw [Nat.mul_right_comm, Nat.mul_assoc (vlu x) PZ, ← Nat.mul_assoc PZ PZ PZ]
  exact h1
 obtain ⟨t1, t2⟩ := hW.two
 refine ⟨ha, hf, by rw [e]; exact nearest_pos, ?_, ?_⟩
 ·refine Nat.le_of_mul_le_mul_right ?_ (Nat.mul_pos hP hP)
  refine Nat.le_trans (Nat.le_of_eq (Nat.mul_assoc _ _ _).symm) (Nat.le_trans hXlo (Nat.le_trans (Nat.mul_le_mul_right _ t2) (Nat.le_of_eq ?_)))
  rw [Nat.pow_succ 2 (k + l + 1)]
  generalize vlu (fdiv x y) = W
  generalize 2 ^ (k + l + 1) = D
  simp only [Nat.mul_assoc, Nat.mul_comm, Nat.mul_left_comm]
 ·refine Nat.le_of_mul_le_mul_right ?_ (Nat.mul_pos hP hP)
  refine Nat.le_trans t1 (Nat.le_trans (Nat.mul_le_mul_left 2 hXhi) (Nat.le_of_eq ?_))
  rw [Nat.pow_succ 2 (k + l + 1)]
  generalize 2 ^ (k + l + 1) = D
  simp only [Nat.mul_assoc, Nat.mul_comm, Nat.mul_left_comm]
end Go.Bn
