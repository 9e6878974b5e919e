/-
  Plain facts on sensors.
-/
import Derived.Test.YtjfkpnacfnnkhaaDoorKd
set_option linter.unusedVariables false
set_option linter.unusedSimpArgs false
namespace Go.Bn
open Go
def SenP (i r c : Int) (hs rs : List Nat) (q : Nat) : SP := aggp [isv (.int .i64 i), isv (.int .i64 r), isv (.int .i64 c), fls hs, fls rs, isv (.int .i64 0), isv (.int .i64 0), isv (.int .i64 0), flp q]
def SenU (i r c : Int) (hs rs : List Nat) (q : Nat) : SP := aggp [isv (.int .i64 i), isv (.int .i64 r), isv (.int .i64 c), wsl hs, wsl rs, u64p q]
def PM : Nat := 0x3370000000000000
def PP : Nat := 0x4c70000000000000
/-- May a row's variance not be so? -/
def oddV (x : Nat) : Bool := fcmp .lss x PM || fcmp .gtr x PP
def calV (x : Nat) : Bool := fcmp .gtr x 0 && fcmp .geq x PM && fcmp .leq x PP
theorem shl_pos {m k : Nat} (h : m ≠ 0) : 0 < m <<< k := by
  rw [Nat.shiftLeft_eq]
  exact Nat.mul_pos (by omega) (Nat.two_pow_pos k)
theorem ford_pos {x p : Nat} {m0 : Nat} {i0 : Int} (hx : nanB x = false) (hp : Ieee.double.read p = .number false m0 i0) (hm : m0 ≠ 0) (h : ford x p ≠ some .lt) : ford x 0 = some .gt := by
  unfold ford Ieee.Format.order at h ⊢
  rw [hp] at h
  have h0 : Ieee.double.read 0 = .number false 0 (-1074) := by decide +kernel
  rw [h0]
  unfold nanB at hx
  cases hr : Ieee.double.read x with
  | nan a b => rw [hr] at hx; cases hx
  | infinity s =>
    rw [hr] at h
    cases s with
    | true => exact (h rfl).elim
    | false => rfl
  | number s m i =>
    rw [hr] at h
    simp only [Ieee.Datum.order, Ieee.signed] at h ⊢
    have h2 := shl_pos (k := (i0 - min i i0).toNat) hm
    cases s with
    | true =>
      exfalso
      apply h
      rw [if_pos rfl, if_neg (by decide)]
      congr 1
      rw [Int.compare_eq_lt]
      generalize m <<< (i - min i i0).toNat = A
      generalize m0 <<< (i0 - min i i0).toNat = B at h2
      omega
    | false =>
      rw [if_neg (by decide), if_neg (by decide)] at h
      rw [if_neg (by decide), if_neg (by decide)]
      congr 1
      rw [Int.compare_eq_gt]
      have hm' : m ≠ 0 := by
        rintro rfl
        apply h
        congr 1
        rw [Int.compare_eq_lt, Nat.zero_shiftLeft]
        omega
      have h3 := shl_pos (k := (i - min i (-1074)).toNat) hm'
      rw [Nat.zero_shiftLeft]
      omega
theorem pm_read : ∃ m i, Ieee.double.read PM = .number false m i ∧ m ≠ 0 := ⟨4503599627370496, -252, by decide +kernel, by decide⟩
theorem calV_odd {x : Nat} (hx : nanB x = false) : calV x = !oddV x := by
  obtain ⟨o, ho⟩ := ford_some hx (show nanB PM = false by decide +kernel)
  obtain ⟨u, hu⟩ := ford_some hx (show nanB PP = false by decide +kernel)
  obtain ⟨m, i, h1, h2⟩ := pm_read
  unfold calV oddV fcmp
  simp only [ho, hu]
  cases o with
  | lt => simp
  | eq => simp only [ford_pos hx h1 h2 (by rw [ho]; decide)]; cases u <;> rfl
  | gt => simp only [ford_pos hx h1 h2 (by rw [ho]; decide)]; cases u <;> rfl
def senE (i r c : Int) (hs rs : List Nat) (q : Nat) (dim : Int) : Int :=
  if i < 0 ∨ 64 ≤ i then 1 else if chk r c hs ≠ 0 then chk r c hs else if r < 1 ∨ 6 < r then 1 else if c ≠ dim ∨ (rs.length : Int) ≠ r then 3
  else if rs.all finB = false ∨ finB q = false then 4 else if rs.any oddV = true then 141 else if fcmp .lss q 0 = true then 141 else 0
structure SenA (i r c : Int) (hs rs : List Nat) (q : Nat) (dim : Int) : Prop where
  h1 : ¬ (i < 0 ∨ 64 ≤ i)
  h2 : chk r c hs = 0
  h3 : ¬ (r < 1 ∨ 6 < r)
  h4 : ¬ (c ≠ dim ∨ (rs.length : Int) ≠ r)
  h5 : ¬ (rs.all finB = false ∨ finB q = false)
section
variable {i r c dim : Int} {hs rs : List Nat} {q : Nat}
theorem sen_1 (h : i < 0 ∨ 64 ≤ i) : 1 = senE i r c hs rs q dim := by unfold senE; rw [if_pos h]
theorem sen_2 (h1 : ¬ (i < 0 ∨ 64 ≤ i)) (h : ¬ chk r c hs = 0) : chk r c hs = senE i r c hs rs q dim := by unfold senE; rw [if_neg h1, if_pos h]
theorem sen_3 (h1 : ¬ (i < 0 ∨ 64 ≤ i)) (h2 : chk r c hs = 0) (h : r < 1 ∨ 6 < r) : 1 = senE i r c hs rs q dim := by unfold senE; rw [if_neg h1, if_neg (by simp [h2]), if_pos h]
theorem sen_4 (h1 : ¬ (i < 0 ∨ 64 ≤ i)) (h2 : chk r c hs = 0) (h3 : ¬ (r < 1 ∨ 6 < r)) (h : c ≠ dim ∨ (rs.length : Int) ≠ r) : 3 = senE i r c hs rs q dim := by unfold senE; rw [if_neg h1, if_neg (by simp [h2]), if_neg h3, if_pos h]
theorem sen_5 (h1 : ¬ (i < 0 ∨ 64 ≤ i)) (h2 : chk r c hs = 0) (h3 : ¬ (r < 1 ∨ 6 < r)) (h4 : ¬ (c ≠ dim ∨ (rs.length : Int) ≠ r)) (h : rs.all finB = false ∨ finB q = false) : 4 = senE i r c hs rs q dim := by unfold senE; rw [if_neg h1, if_neg (by simp [h2]), if_neg h3, if_neg h4, if_pos h]
theorem sen_6 (H : SenA i r c hs rs q dim) {k : Nat} (hk : k < rs.length) (h : oddV (rs.getD k 0) = true) : 141 = senE i r c hs rs q dim := by
  obtain ⟨h1, h2, h3, h4, h5⟩ := H
  unfold senE
  rw [if_neg h1, if_neg (by simp [h2]), if_neg h3, if_neg h4, if_neg h5, if_pos (List.any_eq_true.2 ⟨_, mem_getD 0 hk, h⟩)]
def CalmTo (rs : List Nat) (k : Nat) : Prop := ∀ q, q < k → oddV (rs.getD q 0) = false
theorem calmTo_zero : CalmTo rs 0 := fun q h => by omega
theorem calmTo_step {k : Nat} (h : CalmTo rs k) (hk : oddV (rs.getD k 0) = false) : CalmTo rs (k + 1) := fun q hq => by
  by_cases e : q = k
  · rw [e]; exact hk
  · exact h q (by omega)
theorem calm_all {k : Nat} (h : CalmTo rs k) (hk : k = rs.length) : ¬ rs.any oddV = true := by
  intro ha
  obtain ⟨x, hx, h2⟩ := List.any_eq_true.1 ha
  obtain ⟨q, hq, rfl⟩ := List.getElem_of_mem hx
  have := h q (by omega)
  rw [List.getD, List.getElem?_eq_getElem hq] at this
  rw [Option.getD_some, h2] at this
  cases this
theorem sen_7 (H : SenA i r c hs rs q dim) {k : Nat} (h : CalmTo rs k) (hk : k = rs.length) (hq : fcmp .lss q 0 = true) : 141 = senE i r c hs rs q dim := by
  obtain ⟨h1, h2, h3, h4, h5⟩ := H
  unfold senE
  rw [if_neg h1, if_neg (by simp [h2]), if_neg h3, if_neg h4, if_neg h5, if_neg (calm_all h hk), if_pos hq]
theorem sen_8 (H : SenA i r c hs rs q dim) {k : Nat} (h : CalmTo rs k) (hk : k = rs.length) (hq : fcmp .lss q 0 = false) : 0 = senE i r c hs rs q dim := by
  obtain ⟨h1, h2, h3, h4, h5⟩ := H
  unfold senE
  rw [if_neg h1, if_neg (by simp [h2]), if_neg h3, if_neg h4, if_neg h5, if_neg (calm_all h hk), if_neg (by simp [hq])]
theorem sen_when (H : SenA i r c hs rs q dim) {k : Nat} (h : CalmTo rs k) (hk : k = rs.length) : whenE (fcmp .lss q 0) 141 = senE i r c hs rs q dim := by
  cases hq : fcmp .lss q 0 with
  | true => exact sen_7 H h hk hq
  | false => exact sen_8 H h hk hq
theorem sen_good (h : senE i r c hs rs q dim = 0) : Good r c hs ∧ chk r c hs = 0 ∧ c = dim := by
  unfold senE at h
  split at h
  · omega
  · split at h
    · rename_i h2; exact (h2 h).elim
    · rename_i h2
      have h2' : chk r c hs = 0 := by simpa using h2
      split at h
      · omega
      · split at h
        · omega
        · rename_i h4
          exact ⟨(chk_zero.1 h2').1, h2', by omega⟩
/-! ## What a sensor sees -/
def seesR (i r c : Int) (hs rs : List Nat) (q : Nat) (xs : List Nat) : LR := orL (senE i r c hs rs q xs.length) (mvR r c hs xs)
theorem sees_2 {xs : List Nat} (h : senE i r c hs rs q xs.length = 0) (hx : xs.all finB = false) : (⟨[], 4⟩ : LR) = seesR i r c hs rs q xs := by
  obtain ⟨hg, h2, h3⟩ := sen_good h
  have hl : lchk xs = 4 := by
    have := hg.1
    unfold lchk
    rw [if_neg (by unfold Siz at this; omega), if_pos hx]
  unfold seesR orL
  rw [if_pos h]
  unfold mvR orL mvE
  rw [h2, hl]
  rfl
theorem sees_3 {xs : List Nat} (h : senE i r c hs rs q xs.length = 0) (hx : xs.all finB = true) : toldL (mvG r c hs xs) = seesR i r c hs rs q xs := by
  obtain ⟨hg, h2, h3⟩ := sen_good h
  have hl : lchk xs = 0 := by
    have := hg.1
    unfold lchk
    rw [if_neg (by unfold Siz at this; omega), if_neg (by simp [hx])]
  unfold seesR orL
  rw [if_pos h]
  unfold mvR orL mvE
  rw [h2, hl, h3]
  simp [fstE, whenE]
end
end Go.Bn
namespace Go.Bn
open Go
theorem all_nan {rs : List Nat} (h : rs.all finB = true) {k : Nat} (hk : k < rs.length) : nanB (rs.getD k 0) = false := fin_not_nan ((List.all_eq_true.1 h) _ (mem_getD 0 hk))
theorem J_lenS {X : Cx} {Γ : Facts} {ρ : Env} {σ : List Res} {k : Code} {Q : Exit → Act → World → Prop} (t : Nat) {i r c : Int} {hs rs : List Nat} {q : Nat} (h : ρ.get t = some (SenP i r c hs rs q)) (hk : rs.length ≤ 9223372036854775807 → J X Γ ρ σ k Q) : J X Γ ρ σ k Q := fun a w hs2 => by
  obtain ⟨cs, _, _, h3⟩ := hs2.env t _ h
  obtain ⟨u, _, _, hu⟩ := h3 4 _ rfl
  exact hk (slm_len hu) a w hs2
end Go.Bn
