/-
  Plain facts on blocks laid on a diagonal.
-/
import Derived.Test.YtcnffgbncbadbaaMod
import Derived.Test.YtcnffgbncbadbaaMatR
set_option linter.unusedVariables false
set_option linter.unusedSimpArgs false
namespace Go.Bn
open Go
theorem slk_len {α : Type} {m : Nat} {mk : α → List SP} {xs : List α} {v : Value} {c : EW} (h : (slk m mk xs).H v c) : xs.length ≤ 9223372036854775807 := by
  obtain ⟨_, hv⟩ := h
  rcases hv with ⟨_, h2⟩ | ⟨ad, cap, _, h2, h3, _⟩
  · omega
  · simp only [maxLen] at h3; omega
theorem J_lenk {α : Type} {X : Cx} {Γ : Facts} {ρ : Env} {σ : List Res} {k : Code} {Q : Exit → Act → World → Prop} (t : Nat) {m : Nat} {mk : α → List SP} {xs : List α} (h : ρ.get t = some (slk m mk xs)) (hk : xs.length ≤ 9223372036854775807 → J X Γ ρ σ k Q) : J X Γ ρ σ k Q := fun a c hs =>
  hk (slk_len (hs.env t _ h)) a c hs
theorem J_lenP {X : Cx} {Γ : Facts} {ρ : Env} {σ : List Res} {k : Code} {Q : Exit → Act → World → Prop} (t : Nat) {ps : List Prt} (h : ρ.get t = some (MotP ps)) (hk : ps.length ≤ 9223372036854775807 → J X Γ ρ σ k Q) : J X Γ ρ σ k Q := fun a w hs => by
  obtain ⟨cs, _, _, h3⟩ := hs.env t _ h
  obtain ⟨u, _, _, hu⟩ := h3 0 _ rfl
  exact hk (slk_len hu) a w hs
theorem ordN_0 {k : Int} (h : k = 0 ∨ k = 1 ∨ k = 4) : ordN k = 1 := if_pos h
theorem ordN_2 {k : Int} (h : k = 2) : ordN k = 2 := by subst h; rfl
theorem ordN_3 {k : Int} (h : k = 3) : ordN k = 3 := by subst h; rfl
theorem ordN_n {k : Int} (h1 : ¬ (k = 0 ∨ k = 1 ∨ k = 4)) (h2 : ¬ k = 2) (h3 : ¬ k = 3) : ordN k = 0 := by unfold ordN; rw [if_neg h1, if_neg h2, if_neg h3]
def GoodL (ls : List Prt) : Prop := (∀ p, p ∈ ls → p.n < 2 ^ 64 ∧ p.f < 2 ^ 64) ∧ ls.length * 32 ≤ 140737488355328
theorem goodL_at {ls : List Prt} (h : GoodL ls) {k : Nat} (hk : k < ls.length) : (ls.getD k prtD).n < 2 ^ 64 ∧ (ls.getD k prtD).f < 2 ^ 64 := h.1 _ (mem_getD prtD hk)
theorem take_pcn {ls : List Prt} {k : Nat} (hk : k < ls.length) : (ls.map pcn).take (k + 1) = (ls.map pcn).take k ++ [pcn (ls.getD k prtD)] := by
  have e := take_snoc (xs := ls.map pcn) prtD (k := k) (by rw [List.length_map]; exact hk)
  rw [e]
  congr 2
  simp [List.getD, List.getElem?_map, List.getElem?_eq_getElem hk]
theorem tot_min {ps : List Prt} {k : Nat} (hp : PrtTo ps k) (h : partE (ps.getD k prtD) = 0) : min (min (tot ps k) 13 + (ps.getD k prtD).a * ordN (ps.getD k prtD).k) 13 = min (tot ps (k + 1)) 13 := by
  have := ax_rng h
  rw [tot]
  omega
theorem loud_nor {x y : Nat} (h : ((fcmp .lss x 0 = false ∧ fcmp .lss y 0 = false) ∧ fcmp .gtr x P100 = false) ∧ fcmp .gtr y P100 = false) : ¬ (loudB x || loudB y) = true := by
  unfold loudB
  obtain ⟨⟨⟨h1, h2⟩, h3⟩, h4⟩ := h
  rw [h1, h2, h3, h4]
  decide
theorem loud_or {x y : Nat} : (loudB x || loudB y) = true ↔ ((fcmp .lss x 0 = true ∨ fcmp .lss y 0 = true) ∨ fcmp .gtr x P100 = true) ∨ fcmp .gtr y P100 = true := by
  unfold loudB
  cases fcmp .lss x 0 <;> cases fcmp .lss y 0 <;> cases fcmp .gtr x P100 <;> cases fcmp .gtr y P100 <;> simp
/-! ## Blocks -/
abbrev BF := Prt → Nat → List (List Nat)
def moveB : BF := fun p d => if p.k = 2 then [[ONE, d], [0, ONE]] else if p.k = 3 then [[ONE, d, fdiv (fmul d d) 0x4000000000000000], [0, ONE, d], [0, 0, ONE]] else if p.k = 4 then [[fdiv ONE (fadd ONE (fmul p.f d))]] else [[ONE]]
def spB (k : Int) (a b d : Nat) : List (List Nat) := if k = 1 ∨ k = 4 then [[a]] else if k = 2 then [[fdiv (fmul (fmul a d) d) 0x4008000000000000, b], [b, a]]
  else if k = 3 then [[fdiv (fmul (fmul (fmul (fmul a d) d) d) d) 0x4034000000000000, fdiv (fmul (fmul (fmul a d) d) d) 0x4020000000000000, fdiv (fmul (fmul a d) d) 0x4018000000000000], [fdiv (fmul (fmul (fmul a d) d) d) 0x4020000000000000, fdiv (fmul (fmul a d) d) 0x4008000000000000, b], [fdiv (fmul (fmul a d) d) 0x4018000000000000, b, a]] else [[0]]
def noiseB : BF := fun p d => spB p.k (fmul p.n d) (fdiv (fmul (fmul p.n d) d) 0x4000000000000000) d
def BOk (g : BF) : Prop := ∀ p d, 1 ≤ ordN p.k → ((g p d).length : Int) = ordN p.k ∧ ∀ i, i < (g p d).length → ((g p d).getD i []).length = (g p d).length
theorem bok_of {g : BF} (h1 : ∀ p d, p.k = 0 ∨ p.k = 1 ∨ p.k = 4 → ∃ a, g p d = [[a]]) (h2 : ∀ p d, p.k = 2 → ∃ a b c e, g p d = [[a, b], [c, e]]) (h3 : ∀ p d, p.k = 3 → ∃ a b c e f i j k l, g p d = [[a, b, c], [e, f, i], [j, k, l]]) : BOk g := by
  intro p d ho
  by_cases e1 : p.k = 0 ∨ p.k = 1 ∨ p.k = 4
  · obtain ⟨a, ha⟩ := h1 p d e1
    rw [ha, ordN_0 e1]
    refine ⟨rfl, fun i hi => ?_⟩
    simp at hi
    subst hi
    rfl
  · by_cases e2 : p.k = 2
    · obtain ⟨a, b, c, e, ha⟩ := h2 p d e2
      rw [ha, ordN_2 e2]
      refine ⟨rfl, fun i hi => ?_⟩
      have : i = 0 ∨ i = 1 := by simp at hi; omega
      rcases this with rfl | rfl <;> rfl
    · by_cases e3 : p.k = 3
      · obtain ⟨a, b, c, e, f, i', j, k, l, ha⟩ := h3 p d e3
        rw [ha, ordN_3 e3]
        refine ⟨rfl, fun i hi => ?_⟩
        have : i = 0 ∨ i = 1 ∨ i = 2 := by simp at hi; omega
        rcases this with rfl | rfl | rfl <;> rfl
      · rw [ordN_n e1 e2 e3] at ho
        omega
theorem moveB_ok : BOk moveB := bok_of
  (fun p d h => by
    unfold moveB
    rw [if_neg (by omega), if_neg (by omega)]
    split <;> exact ⟨_, rfl⟩)
  (fun p d h => by unfold moveB; rw [if_pos h]; exact ⟨_, _, _, _, rfl⟩)
  (fun p d h => by unfold moveB; rw [if_neg (by omega), if_pos h]; exact ⟨_, _, _, _, _, _, _, _, _, rfl⟩)
theorem noiseB_ok : BOk noiseB := bok_of
  (fun p d h => by
    unfold noiseB spB
    split
    · exact ⟨_, rfl⟩
    · rw [if_neg (by omega), if_neg (by omega)]; exact ⟨_, rfl⟩)
  (fun p d h => by unfold noiseB spB; rw [if_neg (by omega), if_pos h]; exact ⟨_, _, _, _, rfl⟩)
  (fun p d h => by unfold noiseB spB; rw [if_neg (by omega), if_neg (by omega), if_pos h]; exact ⟨_, _, _, _, _, _, _, _, _, rfl⟩)
/-! ## Where they lie -/
def layJ (B : List (List Nat)) (n fr : Int) (i : Nat) (xs : List Nat) : Nat → List Nat
  | 0 => xs
  | j + 1 => (layJ B n fr i xs j).set ((fr + i) * n + fr + j).toNat ((B.getD i []).getD j 0)
def layI (B : List (List Nat)) (n fr : Int) (xs : List Nat) : Nat → List Nat
  | 0 => xs
  | i + 1 => layJ B n fr i (layI B n fr xs i) (B.getD i []).length
def layA (B : List (List Nat)) (n fr : Int) (xs : List Nat) : Nat → List Nat
  | 0 => xs
  | a + 1 => layI B n (fr + a * B.length) (layA B n fr xs a) B.length
def layP (g : BF) (d : Nat) (ps : List Prt) (n : Int) : Nat → List Nat
  | 0 => List.replicate (n * n).toNat 0
  | k + 1 => layA (g (ps.getD k prtD) d) n (tot ps k) (layP g d ps n k) (ps.getD k prtD).a.toNat
theorem layJ_len {B : List (List Nat)} {n fr : Int} {i : Nat} {xs : List Nat} : ∀ {j : Nat}, (layJ B n fr i xs j).length = xs.length
  | 0 => rfl
  | j + 1 => by rw [layJ, List.length_set, layJ_len]
theorem layI_len {B : List (List Nat)} {n fr : Int} {xs : List Nat} : ∀ {i : Nat}, (layI B n fr xs i).length = xs.length
  | 0 => rfl
  | i + 1 => by rw [layI, layJ_len, layI_len]
theorem layA_len {B : List (List Nat)} {n fr : Int} {xs : List Nat} : ∀ {a : Nat}, (layA B n fr xs a).length = xs.length
  | 0 => rfl
  | a + 1 => by rw [layA, layI_len, layA_len]
theorem layP_len {g : BF} {d : Nat} {ps : List Prt} {n : Int} : ∀ {k : Nat}, (layP g d ps n k).length = (n * n).toNat
  | 0 => by rw [layP, List.length_replicate]
  | k + 1 => by rw [layP, layA_len, layP_len]
theorem place_rng {n x y : Int} (hx0 : 0 ≤ x) (hx : x < n) (hy0 : 0 ≤ y) (hy : y < n) : 0 ≤ x * n ∧ x * n ≤ n * n - n := by
  have h1 : 0 ≤ x * n := Int.mul_nonneg hx0 (by omega)
  have h2 : x * n ≤ (n - 1) * n := Int.mul_le_mul_of_nonneg_right (by omega) (by omega)
  rw [Int.sub_mul] at h2
  omega
theorem sq_rng {n : Int} (h0 : 0 ≤ n) (h1 : n ≤ 12) : 0 ≤ n * n ∧ n * n ≤ 144 := by
  have := Int.mul_nonneg h0 h0
  have h2 : n * n ≤ 12 * 12 := Int.mul_le_mul h1 h1 h0 (by omega)
  omega
/-- The axes of a part lie inside. -/
theorem ax_in {ps : List Prt} {k : Nat} {a : Nat} (hg : PrtTo ps ps.length) (ht : tot ps ps.length ≤ 12) (hk : k < ps.length) (ha : (a : Int) < (ps.getD k prtD).a) :
    0 ≤ tot ps k ∧ 0 ≤ (a : Int) * ordN (ps.getD k prtD).k ∧ tot ps k + (a : Int) * ordN (ps.getD k prtD).k + ordN (ps.getD k prtD).k ≤ tot ps ps.length ∧ 1 ≤ ordN (ps.getD k prtD).k := by
  have h1 := tot_rng (ps := ps) (k := k) fun q hq => hg q (by omega)
  have h2 := tot_mono (ps := ps) (k := k + 1) (m := ps.length) (by omega) hg
  obtain ⟨h3, h4, h5, _⟩ := partE_good (hg k hk)
  have h6 : ((a : Int) + 1) * ordN (ps.getD k prtD).k ≤ (ps.getD k prtD).a * ordN (ps.getD k prtD).k := Int.mul_le_mul_of_nonneg_right (by omega) (by omega)
  have h7 : 0 ≤ (a : Int) * ordN (ps.getD k prtD).k := Int.mul_nonneg (by omega) (by omega)
  rw [Int.add_mul, Int.one_mul] at h6
  rw [tot] at h2
  omega
def blkM (g : BF) (ps : List Prt) (t : Int) : MR := if motE ps ≠ 0 then badM (motE ps) else if t < 0 ∨ 1125899906842624 < t then badM 1 else toldR (tot ps ps.length) (tot ps ps.length) (layP g (secR t).a ps (tot ps ps.length) ps.length)
theorem sec_ok {t : Int} (h : ¬ (t < 0 ∨ 1125899906842624 < t)) : secR t = ⟨(secR t).a, 0⟩ := by
  have e : secR t = ⟨fdiv (FloatKind.f64.nearest t) 0x412e848000000000, 0⟩ := if_neg (by omega)
  rw [e]
end Go.Bn
namespace Go.Bn
open Go
theorem siz_B {r c : Int} (hs : Siz r c) : (sizB r = false ∨ sizB c = false) = False := by
  obtain ⟨h1, h2, h3, h4⟩ := hs
  have e1 : sizB r = true := sizB_iff.2 ⟨h1, h2⟩
  have e2 : sizB c = true := sizB_iff.2 ⟨h3, h4⟩
  rw [e1, e2]
  simp
theorem siz_repl {r c : Int} (hs : Siz r c) : List.replicate (r.toNat * c.toNat) (0 : Nat) = List.replicate (r * c).toNat 0 := by
  obtain ⟨h1, h2, h3, h4⟩ := hs
  rw [Int.toNat_mul h1 h3]
end Go.Bn
namespace Go.Bn
open Go
theorem blkM_1 {g : BF} {ps : List Prt} {t : Int} (h : ¬ motE ps = 0) : badM (motE ps) = blkM g ps t := by unfold blkM; rw [if_pos h]
theorem blkM_2 {g : BF} {ps : List Prt} {t : Int} (h : motE ps = 0) (h2 : t < 0 ∨ 1125899906842624 < t) : badM 1 = blkM g ps t := by unfold blkM; rw [if_neg (by simp [h]), if_pos h2]
theorem blkM_3 {g : BF} {ps : List Prt} {t n : Int} {k : Nat} (h : motE ps = 0) (h2 : ¬ (t < 0 ∨ 1125899906842624 < t)) (hn : n = tot ps ps.length) (hk : k = ps.length) : toldR n n (layP g (secR t).a ps n k) = blkM g ps t := by
  subst hk hn
  unfold blkM
  rw [if_neg (by simp [h]), if_neg h2]
theorem ax_next {x L : Int} {a : Nat} : x + (a : Int) * L + L = x + ((a + 1 : Nat) : Int) * L := by
  rw [Int.natCast_add, Int.add_mul]
  omega
end Go.Bn
namespace Go.Bn
open Go
theorem prt_1 {p : Prt} (h : ordN p.k = 0) : partE p = 140 := by unfold partE; rw [if_pos h]
theorem prt_2 {p : Prt} (h1 : ¬ ordN p.k = 0) (h : p.a < 1 ∨ 12 < p.a) : partE p = 1 := by unfold partE; rw [if_neg h1, if_pos h]
theorem prt_3 {p : Prt} (h1 : ¬ ordN p.k = 0) (h2 : ¬ (p.a < 1 ∨ 12 < p.a)) (h : [p.n, p.f].all finB = false) : partE p = 4 := by
  unfold partE
  rw [if_neg h1, if_neg h2, if_pos]
  simp only [List.all_cons, List.all_nil, Bool.and_true, Bool.and_eq_false_iff] at h
  exact h
theorem all2_of {a b : Nat} (h : [a, b].all finB = true) : finB a = true ∧ finB b = true := by
  simp only [List.all_cons, List.all_nil, Bool.and_true, Bool.and_eq_true] at h
  exact h
def calmB (x : Nat) : Bool := fcmp .geq x 0 && fcmp .leq x P100
theorem calm_loud {x : Nat} (h : finB x = true) : calmB x = !loudB x := loud_ref (fin_not_nan h)
theorem prt_4 {p : Prt} (h1 : ¬ ordN p.k = 0) (h2 : ¬ (p.a < 1 ∨ 12 < p.a)) (h3 : [p.n, p.f].all finB = true) (h : (!calmB p.n || !calmB p.f) = true) : partE p = 141 := by
  obtain ⟨h5, h6⟩ := all2_of h3
  rw [calm_loud h5, calm_loud h6, Bool.not_not, Bool.not_not] at h
  unfold partE
  rw [if_neg h1, if_neg h2, if_neg (by simp [h5, h6]), if_pos h]
theorem prt_5 {p : Prt} (h1 : ¬ ordN p.k = 0) (h2 : ¬ (p.a < 1 ∨ 12 < p.a)) (h3 : [p.n, p.f].all finB = true) (h : (!calmB p.n || !calmB p.f) = false) : partE p = 0 := by
  obtain ⟨h5, h6⟩ := all2_of h3
  rw [calm_loud h5, calm_loud h6, Bool.not_not, Bool.not_not] at h
  unfold partE
  rw [if_neg h1, if_neg h2, if_neg (by simp [h5, h6]), if_neg (by simp [h])]
theorem mot_c {ps : List Prt} {k : Nat} {c : Int} (h0 : ¬ ps.length = 0) (hk : k < ps.length) (h : PrtTo ps k) (hc : partE (ps.getD k prtD) = c) (hn : c ≠ 0) : c = motE ps := by
  subst hc
  exact mot_e h0 hk h hn
theorem when_tot {x : Int} : whenE (cmpB .gtr (min x 13) 12) 2 = if 12 < x then 2 else 0 := by
  unfold whenE cmpB
  by_cases h : 12 < x
  · rw [if_pos h, if_pos (by simp; omega)]
  · rw [if_neg h, if_neg (by simp; omega)]
/-! ## Places picked -/
def pickT (n : Int) (es : List Int) : Nat → List Nat
  | 0 => List.replicate ((es.length : Int) * n).toNat 0
  | k + 1 => (pickT n es k).set ((k : Int) * n + es.getD k 0).toNat ONE
theorem pickT_len {n : Int} {es : List Int} : ∀ {k : Nat}, (pickT n es k).length = ((es.length : Int) * n).toNat
  | 0 => by rw [pickT, List.length_replicate]
  | k + 1 => by rw [pickT, List.length_set, pickT_len]
def insE (n : Int) (es : List Int) : Bool := es.all fun e => decide (0 ≤ e ∧ e < n)
def pickM (ps : List Prt) (es : List Int) : MR := if motE ps ≠ 0 then badM (motE ps) else if es.length < 1 ∨ 6 < es.length then badM 1 else if insE (tot ps ps.length) es = false then badM 1 else ⟨es.length, tot ps ps.length, pickT (tot ps ps.length) es es.length, 0⟩
theorem pickM_1 {ps : List Prt} {es : List Int} (h : ¬ motE ps = 0) : badM (motE ps) = pickM ps es := by unfold pickM; rw [if_pos h]
theorem pickM_2 {ps : List Prt} {es : List Int} (h : motE ps = 0) (h2 : es.length < 1 ∨ 6 < es.length) : badM 1 = pickM ps es := by unfold pickM; rw [if_neg (by simp [h]), if_pos h2]
theorem pickM_3 {ps : List Prt} {es : List Int} {n : Int} {k : Nat} (h : motE ps = 0) (hn : n = tot ps ps.length) (hk : k < es.length) (hb : es.getD k 0 < 0 ∨ n ≤ es.getD k 0) : badM 1 = pickM ps es := by
  subst hn
  unfold pickM
  rw [if_neg (by simp [h])]
  by_cases h2 : es.length < 1 ∨ 6 < es.length
  · rw [if_pos h2]
  · rw [if_neg h2, if_pos]
    unfold insE
    rw [List.all_eq_false]
    exact ⟨_, mem_getD 0 hk, by rw [Bool.not_eq_true, decide_eq_false_iff_not]; omega⟩
def PlTo (n : Int) (es : List Int) (k : Nat) : Prop := ∀ q, q < k → 0 ≤ es.getD q 0 ∧ es.getD q 0 < n
theorem plTo_zero {n : Int} {es : List Int} : PlTo n es 0 := fun q h => by omega
theorem plTo_step {n : Int} {es : List Int} {k : Nat} (h : PlTo n es k) (hk : 0 ≤ es.getD k 0 ∧ es.getD k 0 < n) : PlTo n es (k + 1) := fun q hq => by
  by_cases e : q = k
  · rw [e]; exact hk
  · exact h q (by omega)
theorem pickM_4 {ps : List Prt} {es : List Int} {n : Int} {k : Nat} (h : motE ps = 0) (h2 : ¬ (es.length < 1 ∨ 6 < es.length)) (hn : n = tot ps ps.length) (hk : k = es.length) (hp : PlTo n es k) : (⟨(es.length : Int), n, pickT n es k, 0⟩ : MR) = pickM ps es := by
  subst hn hk
  unfold pickM
  rw [if_neg (by simp [h]), if_neg h2, if_neg]
  unfold insE
  rw [Bool.not_eq_false, List.all_eq_true]
  intro x hx
  obtain ⟨q, hq, rfl⟩ := List.getElem_of_mem hx
  have := hp q hq
  rw [List.getD, List.getElem?_eq_getElem hq] at this
  exact decide_eq_true this
theorem pick_rng {n e : Int} {k L : Nat} (hk : k < L) (he : 0 ≤ e) (he2 : e < n) : 0 ≤ (k : Int) * n ∧ (k : Int) * n + n ≤ (L : Int) * n := by
  have h1 : 0 ≤ (k : Int) * n := Int.mul_nonneg (by omega) (by omega)
  have h2 : ((k : Int) + 1) * n ≤ (L : Int) * n := Int.mul_le_mul_of_nonneg_right (by omega) (by omega)
  rw [Int.add_mul, Int.one_mul] at h2
  exact ⟨h1, h2⟩
theorem pick_sq {n : Int} {L : Nat} (hL : L ≤ 6) (h0 : 0 ≤ n) (h1 : n ≤ 12) : 0 ≤ (L : Int) * n ∧ (L : Int) * n ≤ 72 := by
  have := Int.mul_nonneg (show (0 : Int) ≤ (L : Int) by omega) h0
  have h2 : (L : Int) * n ≤ 6 * 12 := Int.mul_le_mul (by omega) h1 h0 (by omega)
  exact ⟨this, by omega⟩
def tolB (r c : Int) (xs : List Nat) (e : Int) (r' c' : Int) (ys : List Nat) (n : Int) : Bool := decide (e = n) && decide (r = r') && decide (c = c') && decide (xs = ys)
theorem tolB_self {x : MR} : tolB x.r x.c x.a x.e x.r x.c x.a x.e = true := by unfold tolB; simp
end Go.Bn
