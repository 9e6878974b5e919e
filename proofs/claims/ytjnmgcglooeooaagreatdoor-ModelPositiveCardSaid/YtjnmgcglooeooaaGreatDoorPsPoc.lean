/-
 Fractions, steps of elimination, blocks: what makes all leading parts positive.
-/
import Derived.Test.YtjnmgcglooeooaaGreatDoorPsQle
import Derived.Test.YtjnmgcglooeooaaGreatDoorPsRot
set_option linter.unusedVariables false
set_option linter.unusedSimpArgs false
namespace Go.Bn
open Go
theorem pos2 {a b c : Rat} (hc : 0 < c) (h : b * b < a * c) : 0 < a - b / c * b := by
 have e : a - b / c * b = (a * c - b * b) / c := by grind
 rw [e, Rat.div_def]
 exact Rat.mul_pos (by grind) (Rat.inv_pos.2 hc)
theorem div3 {W V U g : Rat} (hg : g ≠ 0) (hU : U ≠ 0) : W / g - (V / g) / (U / g) * (V / g) = (W * U - V * V) / (g * U) := by
 have h1 : g * U ≠ 0 := fun h => (Rat.mul_eq_zero.1 h).elim hg hU
 have h2 : U / g ≠ 0 := by grind
 grind
theorem pos3 {g f c e b a : Rat} (hg : 0 < g) (hu : f * f < e * g) (h : (b * g - c * f) * (b * g - c * f) < (a * g - c * c) * (e * g - f * f)) :
   0 < (a - c / g * c) - (b - c / g * f) / (e - f / g * f) * (b - f / g * c) := by
  have hu' : 0 < e * g - f * f := by grind
  have e1 : e - f / g * f = (e * g - f * f) / g := by grind
  have e2 : a - c / g * c = (a * g - c * c) / g := by grind
  have e3 : b - c / g * f = (b * g - c * f) / g := by grind
  have e4 : b - f / g * c = (b * g - c * f) / g := by grind
  rw [e1, e2, e3, e4, div3 (by grind) (by grind), Rat.div_def]
  exact Rat.mul_pos (by grind) (Rat.inv_pos.2 (Rat.mul_pos hg hu'))
theorem shr {x n w p k : Rat} (hw : 0 < w) (hp : 0 < p) (h1 : 999 * (x * p * (n * k)) ≤ 1000 * (w * (p * k))) (h2 : 999 * (w * (p * k)) ≤ 1000 * (x * p * (n * k))) (hk : 0 < k) : ∃ t, x = t * w ∧ 999 * (t * n) ≤ 1000 ∧ 999 ≤ 1000 * (t * n) := by
 refine ⟨x / w, by grind, ?_, ?_⟩
 ·have h3 : 0 < w * (p * k) := Rat.mul_pos hw (Rat.mul_pos hp hk)
  have e : x * p * (n * k) = (x / w * n) * (w * (p * k)) := by grind
  rw [e] at h1
  generalize x / w * n = y at *
  generalize w * (p * k) = z at *
  exact Classical.byContradiction fun hc => by
   have h4 : 0 < (999 * y - 1000) * z := Rat.mul_pos (by grind) h3
   grind
 ·have h3 : 0 < w * (p * k) := Rat.mul_pos hw (Rat.mul_pos hp hk)
  have e : x * p * (n * k) = (x / w * n) * (w * (p * k)) := by grind
  rw [e] at h2
  generalize x / w * n = y at *
  generalize w * (p * k) = z at *
  exact Classical.byContradiction fun hc => by
   have h4 : 0 < (999 - 1000 * y) * z := Rat.mul_pos (by grind) h3
   grind
theorem two_s {c b : Rat} (c1 : 999 ≤ 1000 * (c * 3)) (b0 : 999 ≤ 1000 * (b * 2)) (b1 : 999 * (b * 2) ≤ 1000) : b * b < c := by
 have h : 0 ≤ (501/1000 - b) * (501/1000 + b) := Rat.mul_nonneg (by grind) (by grind)
 grind
theorem tri_s {g f c e b : Rat} (g0 : 999 ≤ 1000 * (g * 20)) (g1 : 999 * (g * 20) ≤ 1000) (f0 : 999 ≤ 1000 * (f * 8)) (f1 : 999 * (f * 8) ≤ 1000) (c0 : 999 ≤ 1000 * (c * 6)) (c1 : 999 * (c * 6) ≤ 1000) (e0 : 999 ≤ 1000 * (e * 3)) (b0 : 999 ≤ 1000 * (b * 2)) (b1 : 999 * (b * 2) ≤ 1000) :
  f * f < e * g ∧ (b * g - c * f) * (b * g - c * f) < (g - c * c) * (e * g - f * f) := by
 have hu : 975 / 1000000 ≤ e * g - f * f := by
  have h1 : 0 ≤ (e - 333/1000) * (g - 4995/100000) := Rat.mul_nonneg (by grind) (by grind)
  have h2 : 0 ≤ (12513/100000 - f) * (12513/100000 + f) := Rat.mul_nonneg (by grind) (by grind)
  grind
 have hw : 221 / 10000 ≤ g - c * c := by
  have h2 : 0 ≤ (16684/100000 - c) * (16684/100000 + c) := Rat.mul_nonneg (by grind) (by grind)
  grind
 have hv1 : b * g - c * f ≤ 427 / 100000 := by
  have h1 : 0 ≤ (5006/10000 - b) * g := Rat.mul_nonneg (by grind) (by grind)
  have h2 : 0 ≤ (c - 1665/10000) * f := Rat.mul_nonneg (by grind) (by grind)
  grind
 have hv0 : 0 ≤ b * g - c * f := by
  have h1 : 0 ≤ (b - 4995/10000) * g := Rat.mul_nonneg (by grind) (by grind)
  have h2 : 0 ≤ (1669/10000 - c) * f := Rat.mul_nonneg (by grind) (by grind)
  grind
 refine ⟨by grind, ?_⟩
 generalize b * g - c * f = v at *
 generalize e * g - f * f = u at *
 generalize g - c * c = w at *
 have h1 : 0 ≤ (427/100000 - v) * (427/100000 + v) := Rat.mul_nonneg (by grind) (by grind)
 have h2 : 0 ≤ (w - 221/10000) * u := Rat.mul_nonneg (by grind) (by grind)
 grind
theorem flt_vlu {x : Nat} (hf : finB x = true) (hx : x < 2 ^ 64) (hs : sval x = (vlu x : Int)) : fltQ x = (vlu x : Rat) / (PZ : Rat) := by
 obtain ⟨a1, a2⟩ := ofX_e hf hx
 have h := xv_of x
 rw [hs] at h
 unfold xv at h
 have hp := pz_pos
 have key : fltQ x = mkRat (vlu x) PZ := by
  unfold fltQ exaQ
  by_cases h0 : 0 ≤ (ofX x).e
  ·rw [if_pos h0, Rat.mkRat_eq_iff (by omega) (by omega)]
   have e1 : ((ofX x).low 0).m = (ofX x).m * 2 ^ (ofX x).e.toNat := by
    unfold Exa.low
    split
    ·have : (ofX x).e = 0 := by omega
     rw [this]; simp
    ·simp
   have hz := nz
   rw [e1, ← h, show ((ofX x).e + ((1074 : Nat) : Int)).toNat = (ofX x).e.toNat + NZ by omega, Int.pow_add, pz_def, Int.natCast_pow]
   generalize NZ = N
   simp [Int.mul_assoc]
  ·rw [if_neg h0, Rat.mkRat_eq_iff (by have := Nat.two_pow_pos (-(ofX x).e).toNat; omega) (by omega)]
   have hz := nz
   rw [← h, pz_def, Int.mul_assoc, Int.natCast_pow, Int.natCast_pow, show ((2 : Nat) : Int) = 2 from rfl, ← Int.pow_add]
   congr 2
   omega
 rw [key, Rat.mkRat_eq_div]
 rfl
def Blk (M : Nat → Nat → Rat) (s k : Nat) : Prop := ∀ i j, s ≤ i → i < s + k → (j < s ∨ s + k ≤ j) → M i j = 0 ∧ M j i = 0
theorem elQ_blk {M : Nat → Nat → Rat} {s k : Nat} (h : Blk M s k) : ∀ c, Blk (elQ M c) s k
 | 0 => h
 | c + 1 => fun i j h1 h2 h3 => by
  have e1 := elQ_blk h c i j h1 h2 h3
  by_cases hc : s ≤ c ∧ c < s + k
  ·have e2 := elQ_blk h c c j hc.1 hc.2 h3
   refine ⟨?_, ?_⟩
   ·show (if c < i then _ else _) = _
    split
    ·rw [e1.1, e2.1]; grind
    ·exact e1.1
   ·show (if c < j then _ else _) = _
    split
    ·rw [e1.2, e2.2]; grind
    ·exact e1.2
  ·have e2 := elQ_blk h c i c h1 h2 (by omega)
   refine ⟨?_, ?_⟩
   ·show (if c < i then _ else _) = _
    split
    ·rw [e1.1, e2.1]; grind
    ·exact e1.1
   ·show (if c < j then _ else _) = _
    split
    ·rw [e1.2, e2.2]; grind
    ·exact e1.2
theorem elQ_loc {M : Nat → Nat → Rat} {s k : Nat} (h : Blk M s k) : ∀ c p q, p < k → q < k → elQ M c (s + p) (s + q) = elQ (fun p q => M (s + p) (s + q)) (c - s) p q
 | 0, p, q, _, _ => by rw [Nat.zero_sub]; rfl
 | c + 1, p, q, hp, hq => by
  have ih := fun p q => elQ_loc h c p q
  by_cases hc : c < s
  ·rw [show c + 1 - s = 0 by omega]
   have e0 := ih p q hp hq
   rw [show c - s = 0 by omega] at e0
   have e2 := elQ_blk h c (s + p) c (by omega) (by omega) (.inl hc)
   show (if c < s + p then _ else _) = _
   rw [if_pos (by omega), e0, e2.1]
   grind
  ·obtain ⟨t, rfl⟩ : ∃ t, c = s + t := ⟨c - s, by omega⟩
   rw [show s + t + 1 - s = t + 1 by omega]
   simp only [show s + t - s = t by omega] at ih
   show (if s + t < s + p then _ else _) = (if t < p then _ else _)
   by_cases ht : t < p
   ·rw [if_pos (by omega), if_pos ht, ih p q hp hq, ih p t hp (by omega), ih t t (by omega) (by omega), ih t q (by omega) hq]
   ·rw [if_neg (by omega), if_neg ht, ih p q hp hq]
structure BP (k : Nat) (L : Nat → Nat → Rat) : Prop where
 b : k ≤ 3
 pos : ∀ c, c < k → 0 < elQ L c c c
 sz : ∀ p q, p < k → q < k → Rsz 40 (L p q)
theorem el_step {L : Nat → Nat → Rat} {k c m m' : Nat} (hp : c < k → 0 < elQ L c c c) (hs : ∀ p q, p < k → q < k → Rsz m (elQ L c p q)) (hm : 4 * m + 1 ≤ m') : ∀ p q, p < k → q < k → Rsz m' (elQ L (c + 1) p q) := fun p q hpk hqk => by
 show Rsz m' (if c < p then _ else _)
 split
 ·rename_i hc
  have hz : elQ L c c c ≠ 0 := by have := hp (by omega); grind
  have h1 := rsz_quo (hs p c hpk (by omega)) (hs c c (by omega) (by omega)) hz (Nat.le_refl _)
  exact rsz_sub (hs p q hpk hqk) (rsz_mul h1 (hs c q (by omega) hqk) (Nat.le_refl _)) (by omega)
 ·exact (hs p q hpk hqk).mono (by omega)
theorem BP.all {k : Nat} {L : Nat → Nat → Rat} (h : BP k L) : ∀ c p q, p < k → q < k → Rsz 700 (elQ L c p q) := by
 have h1 := el_step (c := 0) (h.pos 0) h.sz (Nat.le_refl _)
 have h2 := el_step (c := 1) (h.pos 1) h1 (show 4 * (4 * 40 + 1) + 1 ≤ 700 by omega)
 intro c p q hp hq
 have hk := h.b
 match c with
 | 0 => exact (h.sz p q hp hq).mono (by omega)
 | 1 => exact (h1 p q hp hq).mono (by omega)
 | c + 2 =>
  have e : ∀ c, elQ L (c + 2) p q = elQ L 2 p q := by
   intro c
   induction c with
   | zero => rfl
   | succ c ih => rw [elQ_low (by omega)]; exact ih
  rw [e]
  exact h2 p q hp hq
theorem elp_of {n : Nat} {M : Nat → Nat → Rat} (h : ∀ x, x < n → ∃ s k, s ≤ x ∧ x < s + k ∧ Blk M s k ∧ BP k (fun p q => M (s + p) (s + q))) : Elp n M := by
 refine ⟨fun c hc => ?_, fun c i j _ hi hj => ?_⟩
 ·obtain ⟨s, k, h1, h2, h3, h4⟩ := h c hc
  have e := elQ_loc h3 c (c - s) (c - s) (by omega) (by omega)
  rw [show s + (c - s) = c by omega] at e
  rw [e]
  exact h4.pos _ (by omega)
 ·obtain ⟨s, k, h1, h2, h3, h4⟩ := h i hi
  by_cases hj2 : j < s ∨ s + k ≤ j
  ·rw [(elQ_blk h3 c i j h1 h2 hj2).1]
   exact rsz_zero.mono (by omega)
  ·have e := elQ_loc h3 c (i - s) (j - s) (by omega) (by omega)
   rw [show s + (i - s) = i by omega, show s + (j - s) = j by omega] at e
   rw [e]
   exact h4.all _ _ _ (by omega) (by omega)
end Go.Bn
namespace Go.Bn
open Go
theorem apx_rat {K X Y : Nat} (h : Apx K X Y) (hK : K ≤ 40) : 999 * (X : Rat) ≤ 1000 * (Y : Rat) ∧ 999 * (Y : Rat) ≤ 1000 * (X : Rat) := by
 obtain ⟨h1, h2⟩ := apx_close h hK
 have ht : TT = 140737488355328 := rfl
 rw [ht] at h1 h2
 have a1 : 999 * X ≤ 1000 * Y := by omega
 have a2 : 999 * Y ≤ 1000 * X := by omega
 exact ⟨by exact_mod_cast a1, by exact_mod_cast a2⟩
def frq (x : Nat) : Rat := (vlu x : Rat) / (PZ : Rat)
theorem pzr_pos : (0 : Rat) < (PZ : Rat) := Rat.natCast_pos.2 pz_pos
theorem frq_mul (x : Nat) : (vlu x : Rat) = frq x * (PZ : Rat) := by
 have := pzr_pos
 unfold frq
 grind
theorem frq_pos {x k : Nat} (h : Rng x k) : 0 < frq x := by
 unfold frq
 rw [Rat.div_def]
 exact Rat.mul_pos (Rat.natCast_pos.2 h.pos) (Rat.inv_pos.2 pzr_pos)
theorem flt_rng {x k : Nat} (h : Rng x k) (hw : x < 2 ^ 64) : fltQ x = frq x := by
 have hn := nng_rng h hw
 exact flt_vlu hn.fin hw hn.val
theorem flt_sz {x k : Nat} (h : Rng x k) (hw : x < 2 ^ 64) : Rsz 40 (fltQ x) := exaQ_sz (ofX_exf (nng_rng h hw).fin hw)
theorem frq_zero : fltQ 0 = 0 := by
 rw [flt_vlu (by decide) (by decide) (by decide), vlu_zero]
 decide +kernel
theorem spd_f {a d : Nat} (ha : Rng a 200) (hd : Rng d 75) : frq (fdiv (fmul a d) 0x4000000000000000) * frq (fdiv (fmul a d) 0x4000000000000000) < frq a * frq (fdiv (fmul (fmul a d) d) 0x4008000000000000) := by
 obtain ⟨h1, h2⟩ := spd_q ha hd
 obtain ⟨g1, g2⟩ := apx_rat h1 (by omega)
 obtain ⟨g3, g4⟩ := apx_rat h2 (by omega)
 have hA := frq_pos ha
 have hD := frq_pos hd
 have hP := pzr_pos
 simp only [Rat.natCast_mul, frq_mul] at g1 g2 g3 g4
 simp only [show ((3 : Nat) : Rat) = 3 from rfl, show ((2 : Nat) : Rat) = 2 from rfl] at g1 g2 g3 g4
 generalize frq (fdiv (fmul (fmul a d) d) 0x4008000000000000) = c at *
 generalize frq (fdiv (fmul a d) 0x4000000000000000) = b at *
 generalize frq a = A at *
 generalize frq d = D at *
 generalize (PZ : Rat) = P at *
 have e1 : A * P * (D * P) * (D * P) = A * D * D * (P * (P * P)) := by grind
 have e2 : A * P * (D * P) = A * D * (P * P) := by grind
 rw [e1] at g1 g2
 rw [e2] at g3 g4
 have hAD := Rat.mul_pos hA hD
 obtain ⟨x, rfl, x1, x2⟩ := shr (x := c) (n := 3) (w := A * D * D) (p := P) (k := P * P) (Rat.mul_pos hAD hD) hP g1 g2 (Rat.mul_pos hP hP)
 obtain ⟨y, rfl, y1, y2⟩ := shr (x := b) (n := 2) (w := A * D) (p := P) (k := P) hAD hP g3 g4 hP
 have h := two_s x2 y2 y1
 clear g1 g2 g3 g4 e1 e2 x1 x2 y1 y2 h1 h2
 have : 0 < (x - y * y) * (A * D * (A * D)) := Rat.mul_pos (by grind) (Rat.mul_pos hAD hAD)
 grind
theorem pul_f {a d : Nat} (ha : Rng a 200) (hd : Rng d 75) : let v2 := fmul (fmul a d) d; let v3 := fmul v2 d; let v4 := fmul v3 d
  let g := frq (fdiv v4 0x4034000000000000); let f := frq (fdiv v3 0x4020000000000000); let c := frq (fdiv v2 0x4018000000000000); let e := frq (fdiv v2 0x4008000000000000); let b := frq (fdiv (fmul a d) 0x4000000000000000); let A := frq a
  f * f < e * g ∧ (b * g - c * f) * (b * g - c * f) < (A * g - c * c) * (e * g - f * f) := by
 intro v2 v3 v4 g f c e b A
 obtain ⟨h1, h2, h3, h4, h5⟩ := pul_q ha hd
 have q1 := apx_rat h1 (by omega)
 have q2 := apx_rat h2 (by omega)
 have q3 := apx_rat h3 (by omega)
 have q4 := apx_rat h4 (by omega)
 have q5 := apx_rat h5 (by omega)
 have hA : 0 < A := frq_pos ha
 have hD := frq_pos hd
 have hP := pzr_pos
 clear h1 h2 h3 h4 h5
 simp only [Rat.natCast_mul, frq_mul] at q1 q2 q3 q4 q5
 simp only [show ((20 : Nat) : Rat) = 20 from rfl, show ((8 : Nat) : Rat) = 8 from rfl, show ((6 : Nat) : Rat) = 6 from rfl, show ((3 : Nat) : Rat) = 3 from rfl, show ((2 : Nat) : Rat) = 2 from rfl] at q1 q2 q3 q4 q5
 have eg : frq (fdiv (fmul (fmul (fmul (fmul a d) d) d) d) 0x4034000000000000) = g := rfl
 have ef : frq (fdiv (fmul (fmul (fmul a d) d) d) 0x4020000000000000) = f := rfl
 have ec : frq (fdiv (fmul (fmul a d) d) 0x4018000000000000) = c := rfl
 have ee : frq (fdiv (fmul (fmul a d) d) 0x4008000000000000) = e := rfl
 have eb : frq (fdiv (fmul a d) 0x4000000000000000) = b := rfl
 have eA : frq a = A := rfl
 simp only [eg, ef, ec, ee, eb, eA] at q1 q2 q3 q4 q5
 clear eg ef ec ee eb eA
 clear_value g f c e b A
 generalize frq d = D at *
 generalize (PZ : Rat) = P at *
 have e1 : A * P * (D * P) = A * D * (P * P) := by grind
 have e2 : A * P * (D * P) * (D * P) = A * D * D * (P * (P * P)) := by grind
 have e3 : A * P * (D * P) * (D * P) * (D * P) = A * D * D * D * (P * (P * P * P)) := by grind
 have e4 : A * P * (D * P) * (D * P) * (D * P) * (D * P) = A * D * D * D * D * (P * (P * P * P * P)) := by grind
 rw [e4] at q1
 rw [e3] at q2
 rw [e2] at q3 q4
 rw [e1] at q5
 clear e1 e2 e3 e4
 have p2 := Rat.mul_pos hP hP
 have p3 := Rat.mul_pos p2 hP
 have p4 := Rat.mul_pos p3 hP
 have d1 := Rat.mul_pos hA hD
 have d2 := Rat.mul_pos d1 hD
 have d3 := Rat.mul_pos d2 hD
 have d4 := Rat.mul_pos d3 hD
 obtain ⟨g, rfl, g1, g0⟩ := shr d4 hP q1.1 q1.2 p4
 obtain ⟨f, rfl, f1, f0⟩ := shr d3 hP q2.1 q2.2 p3
 obtain ⟨c, rfl, c1, c0⟩ := shr d2 hP q3.1 q3.2 p2
 obtain ⟨e, rfl, e1, e0⟩ := shr d2 hP q4.1 q4.2 p2
 obtain ⟨b, rfl, b1, b0⟩ := shr d1 hP q5.1 q5.2 hP
 clear q1 q2 q3 q4 q5
 obtain ⟨t1, t2⟩ := tri_s g0 g1 f0 f1 c0 c1 e0 b0 b1
 clear g0 g1 f0 f1 c0 c1 e0 e1 b0 b1 hP p2 p3 p4
 have d6 := Rat.mul_pos d3 d3
 have d10 := Rat.mul_pos (Rat.mul_pos d3 d3) (Rat.mul_pos d2 d2)
 constructor
 ·have : 0 < (e * g - f * f) * (A * D * D * D * (A * D * D * D)) := Rat.mul_pos (by grind) d6
  clear t1 t2 d1 d2 d3 d4 d6 d10
  grind
 ·have : 0 < ((g - c * c) * (e * g - f * f) - (b * g - c * f) * (b * g - c * f)) * (A * D * D * D * (A * D * D * D) * (A * D * D * (A * D * D))) := Rat.mul_pos (by grind) d10
  clear t1 t2 d1 d2 d3 d4 d6 d10
  grind
theorem rng200 {n d : Nat} (h : Rng n 100) (hd : Rng d 75) : Rng (fmul n d) 200 := by
 have ha' := (mul_apx h hd (by omega)).2
 refine ⟨ha'.f, ha'.s, ?_, ?_⟩
 ·exact Nat.le_trans ha'.lo (Nat.mul_le_mul_left _ (Nat.pow_le_pow_right (by omega) (by omega)))
 ·exact Nat.le_trans ha'.hi (Nat.mul_le_mul_left _ (Nat.pow_le_pow_right (by omega) (by omega)))
theorem bp_noise {p : Prt} {d : Nat} (hk : 1 ≤ ordN p.k) (hk0 : p.k ≠ 0) (h : Rng p.n 100) (hd : Rng d 75) : BP (ordN p.k).toNat (fun u w => fltQ (ent (noiseB p d) u w)) := by
 have ha := rng200 h hd
 obtain ⟨_, m1⟩ := mul_apx ha hd (by omega)
 obtain ⟨_, m2⟩ := mul_apx m1 hd (by omega)
 obtain ⟨_, m3⟩ := mul_apx m2 hd (by omega)
 obtain ⟨_, m4⟩ := mul_apx m3 hd (by omega)
 have rb := (over_apx m1 c2 (by omega)).2
 have r3 := (over_apx m2 c3 (by omega)).2
 have rc := (over_apx m2 c6 (by omega)).2
 have rf := (over_apx m3 c8 (by omega)).2
 have rg := (over_apx m4 c20 (by omega)).2
 have one : ∀ p' : Prt, noiseB p d = [[fmul p.n d]] → BP 1 (fun u w => fltQ (ent (noiseB p d) u w)) := fun _ e => by
  rw [e]
  refine ⟨by omega, fun c hc => ?_, fun u w hu hw => ?_⟩
  ·obtain rfl : c = 0 := by omega
   show 0 < fltQ (fmul p.n d)
   rw [flt_rng ha fmul_lt]
   exact frq_pos ha
  ·obtain rfl : u = 0 := by omega
   obtain rfl : w = 0 := by omega
   exact flt_sz ha fmul_lt
 rcases ordN_some hk with e | e | e | e | e
 ·exact absurd e hk0
 ·rw [show (ordN p.k).toNat = 1 by rw [e]; rfl]
  exact one p (by unfold noiseB spB; rw [e, if_pos (by decide)])
 ·have eC : noiseB p d = [[fdiv (fmul (fmul (fmul p.n d) d) d) 0x4008000000000000, fdiv (fmul (fmul p.n d) d) 0x4000000000000000], [fdiv (fmul (fmul p.n d) d) 0x4000000000000000, fmul p.n d]] := by unfold noiseB spB; rw [e, if_neg (by decide), if_pos (by decide)]
  rw [eC, show (ordN p.k).toNat = 2 by rw [e]; rfl]
  have key := spd_f ha hd
  have vc := flt_rng r3 fdiv_lt
  have vb := flt_rng rb fdiv_lt
  have va := flt_rng ha fmul_lt
  have sc := flt_sz r3 fdiv_lt
  have sb := flt_sz rb fdiv_lt
  have sa := flt_sz ha fmul_lt
  have pc := frq_pos r3
  rw [← va, ← vb, ← vc] at key
  rw [← vc] at pc
  generalize fmul p.n d = a at *
  generalize fdiv (fmul (fmul a d) d) 0x4008000000000000 = c at *
  generalize fdiv (fmul a d) 0x4000000000000000 = b at *
  refine ⟨by omega, fun x hx => ?_, fun u w hu hw => ?_⟩
  ·rcases lt2 hx with rfl | rfl
   ·exact pc
   ·exact pos2 pc key
  ·rcases lt2 hu with rfl | rfl <;> rcases lt2 hw with rfl | rfl
   ·exact sc
   ·exact sb
   ·exact sb
   ·exact sa
 ·have eC : noiseB p d = [[fdiv (fmul (fmul (fmul (fmul (fmul p.n d) d) d) d) d) 0x4034000000000000, fdiv (fmul (fmul (fmul (fmul p.n d) d) d) d) 0x4020000000000000, fdiv (fmul (fmul (fmul p.n d) d) d) 0x4018000000000000], [fdiv (fmul (fmul (fmul (fmul p.n d) d) d) d) 0x4020000000000000, fdiv (fmul (fmul (fmul p.n d) d) d) 0x4008000000000000, fdiv (fmul (fmul p.n d) d) 0x4000000000000000], [fdiv (fmul (fmul (fmul p.n d) d) d) 0x4018000000000000, fdiv (fmul (fmul p.n d) d) 0x4000000000000000, fmul p.n d]] := by unfold noiseB spB; rw [e, if_neg (by decide), if_neg (by decide), if_pos (by decide)]
  rw [eC, show (ordN p.k).toNat = 3 by rw [e]; rfl]
  have key := pul_f ha hd
  simp only at key
  have vg := flt_rng rg fdiv_lt
  have vf := flt_rng rf fdiv_lt
  have vc := flt_rng rc fdiv_lt
  have ve := flt_rng r3 fdiv_lt
  have vb := flt_rng rb fdiv_lt
  have va := flt_rng ha fmul_lt
  have sg := flt_sz rg fdiv_lt
  have sf := flt_sz rf fdiv_lt
  have sc := flt_sz rc fdiv_lt
  have se := flt_sz r3 fdiv_lt
  have sb := flt_sz rb fdiv_lt
  have sa := flt_sz ha fmul_lt
  have pg := frq_pos rg
  rw [← va, ← vb, ← vc, ← ve, ← vf, ← vg] at key
  rw [← vg] at pg
  clear va vb vc ve vf vg rb r3 rc rf rg m1 m2 m3 m4 ha
  generalize fmul p.n d = a at *
  generalize fdiv (fmul (fmul (fmul (fmul a d) d) d) d) 0x4034000000000000 = g at *
  generalize fdiv (fmul (fmul (fmul a d) d) d) 0x4020000000000000 = f at *
  generalize fdiv (fmul (fmul a d) d) 0x4018000000000000 = c at *
  generalize fdiv (fmul (fmul a d) d) 0x4008000000000000 = e at *
  generalize fdiv (fmul a d) 0x4000000000000000 = b at *
  obtain ⟨k1, k2⟩ := key
  refine ⟨by omega, fun x hx => ?_, fun u w hu hw => ?_⟩
  ·rcases lt3 hx with rfl | rfl | rfl
   ·exact pg
   ·exact pos2 pg k1
   ·exact pos3 pg k1 k2
  ·rcases lt3 hu with rfl | rfl | rfl <;> rcases lt3 hw with rfl | rfl | rfl
   ·exact sg
   ·exact sf
   ·exact sc
   ·exact sf
   ·exact se
   ·exact sb
   ·exact sc
   ·exact sb
   ·exact sa
 ·rw [show (ordN p.k).toNat = 1 by rw [e]; rfl]
  exact one p (by unfold noiseB spB; rw [e, if_pos (by decide)])
def loudP (p : Prt) : Bool := !(decide (p.k = 0)) && fcmp .geq (cn p.n) M100
def loudL (ls : List Prt) : Bool := ls.all loudP
def LoudG (ls : List Prt) (k : Nat) : Prop := ∀ q, q < k → loudP (ls.getD q prtD) = true
theorem loudG_zero {ls : List Prt} : LoudG ls 0 := fun q h => by omega
theorem loudG_step {ls : List Prt} {k : Nat} (h : LoudG ls k) (hk : loudP (ls.getD k prtD) = true) : LoudG ls (k + 1) := fun q hq => by
 by_cases e : q = k
 ·rw [e]; exact hk
 ·exact h q (by omega)
theorem loudL_true {ls : List Prt} : loudL ls = true ↔ LoudG ls ls.length := by
 unfold loudL
 rw [List.all_eq_true]
 constructor
 ·intro h q hq
  exact h _ (mem_getD prtD hq)
 ·intro h x hx
  obtain ⟨i, hi, e⟩ := List.getElem_of_mem hx
  have := h i hi
  rw [List.getD, List.getElem?_eq_getElem hi] at this
  rw [← e]; exact this
theorem loudL_false {ls : List Prt} {k : Nat} (hk : k < ls.length) (h : loudP (ls.getD k prtD) = false) : loudL ls = false := by
 cases e : loudL ls
 ·rfl
 ·have := loudL_true.1 e k hk
  rw [h] at this; cases this
theorem geq_lss {x y : Nat} (h : fcmp .geq x y = true) : fcmp .lss x y = false := by
 unfold fcmp at h ⊢
 cases e : ford x y with
 | none => rfl
 | some o => rw [e] at h; cases o <;> simp_all [fcmp]
theorem noise_loud {x : Nat} (hw : x < 2 ^ 64) (hf : finB x = true) (hl : loudB x = false) (h : fcmp .geq x M100 = true) : Rng x 100 := by
 rcases noise_rng hw hf hl (.inr (geq_lss h)) with h1 | h1
 ·rcases h1 with rfl | rfl
  ·exact absurd h (by decide +kernel)
  ·exact absurd h (by decide +kernel)
 ·exact h1
end Go.Bn
namespace Go.Bn
open Go
structure Nb (x k : Nat) : Prop where
 n : Nng x
 h : vlu x ≤ PZ * 2 ^ k
theorem nb_rng {x k : Nat} (h : Rng x k) (hw : x < 2 ^ 64) : Nb x k := ⟨nng_rng h hw, h.hi⟩
theorem nb_mul {x y k l : Nat} (hx : Nb x k) (hy : Nb y l) (hk : k + l ≤ 900) : Nb (fmul x y) (k + l + 1) := by
 have e := fmul_vlx hx.n.f hy.n.f
 have hP := pz_pos
 have hhi : vlu x * vlu y ≤ PZ * PZ * 2 ^ (k + l) := by
  rw [Nat.pow_add, ← mul4 PZ (2 ^ k)]
  exact Nat.mul_le_mul hx.h hy.h
 obtain ⟨N, hN⟩ : ∃ N, N = 2 * NZ := ⟨_, rfl⟩
 have hN2 : N = 2148 := by rw [hN, nz]
 have eX : ∀ X : Nat, X * 2 ^ ((-2148 : Int) + (N : Int)).toNat = X := fun X => by
  rw [show ((-2148 : Int) + (N : Int)).toNat = 0 by omega, Nat.pow_zero, Nat.mul_one]
 have hf : rung (fmul x y) < 9218868437227405312 := by
  rw [e]
  refine nearest_fin (N := N) (by omega) ?_
  rw [eX]
  refine Nat.lt_of_le_of_lt hhi ?_
  rw [show PZ * PZ * 2 ^ (k + l) = 2 ^ (NZ + (NZ + (k + l))) by rw [Nat.mul_assoc, pz_pow (k + l)]; exact pz_pow _]
  exact Nat.pow_lt_pow_of_lt (by omega) (by rw [hN]; omega)
 by_cases h0 : vlu x * vlu y = 0
 ·rw [h0, nearest_nought] at e
  have hz : Nil0 (fmul x y) := by
   rw [e]; unfold Nil0
   split
   ·exact .inr rfl
   ·exact .inl rfl
  exact ⟨nng_nil hz, by rw [vlu_nil hz]; exact Nat.zero_le _⟩
 ·have hs : sgn x = false ∧ sgn y = false := by
   refine ⟨hx.n.s.elim id fun h => ?_, hy.n.s.elim id fun h => ?_⟩
   ·exact absurd (by rw [h, Nat.zero_mul]) h0
   ·exact absurd (by rw [h, Nat.mul_zero]) h0
  rw [hs.1, hs.2, show (false ^^ false) = false from rfl] at e
  refine ⟨⟨fmul_lt, hf, .inl (by rw [e]; exact nearest_pos)⟩, ?_⟩
  obtain ⟨E, h1, _, h3⟩ := nearest_err (s := false) (n := vlu x * vlu y) (N := N) (p := -2148) h0 (by omega) (by omega) (by rw [← e]; exact hf)
  rw [eX, ← e, pz_at hN] at h1
  rw [eX, pz_at hN] at h3
  refine Nat.le_of_mul_le_mul_right ?_ hP
  rw [Nat.pow_succ]
  have hD := Nat.two_pow_pos (k + l)
  generalize hDD : 2 ^ (k + l) = D at *
  have h4 : PZ * (D * 2) * PZ = PZ * PZ * D + PZ * PZ * D := by
   rw [Nat.mul_comm D 2, Nat.mul_right_comm, Nat.mul_comm 2 D, ← Nat.mul_assoc]
   omega
  rw [h4]
  have h5 : PZ ≤ PZ * PZ * D := by
   rw [Nat.mul_assoc]
   exact Nat.le_mul_of_pos_right _ (Nat.mul_pos hP hD)
  rcases h3 with h3 | h3 <;> omega
theorem nil_vlu {x : Nat} (hw : x < 2 ^ 64) (hz : vlu x = 0) : Nil0 x := by
 have hm : mgn x = 0 := by
  unfold vlu at hz
  rcases Nat.mul_eq_zero.1 hz with g | g
  ·exact g
  ·have := Nat.two_pow_pos (plc x + 1074).toNat; omega
 have hrg : rung x = 0 := by
  unfold mgn at hm
  split at hm
  ·exact hm
  ·omega
 unfold rung at hrg
 unfold Nil0
 have : NEG0 = 9223372036854775808 := rfl
 omega
theorem nng_div {x c n l : Nat} (hx : Nng x) (hc : Cst c n l) (hf : finB (fdiv x c) = true) : Nng (fdiv x c) := by
 have e := fdiv_read hx.f hc.r.f (mgn_pos hc.r.pos)
 rcases hx.s with hs | hs
 ·rw [hs, hc.r.s, show (false ^^ false) = false from rfl] at e
  exact ⟨fdiv_lt, (finB_iff fdiv_lt).1 hf, .inl (by rw [e]; exact nearest_pos)⟩
 ·have hm : mgn x = 0 := by
   unfold vlu at hs
   rcases Nat.mul_eq_zero.1 hs with g | g
   ·exact g
   ·have := Nat.two_pow_pos (plc x + 1074).toNat; omega
  rw [hm] at e
  simp only [Nat.zero_shiftLeft, Nat.zero_div, Nat.zero_mod, bne_self_eq_false, Bool.toNat_false, Nat.mul_zero, Nat.add_zero, nearest_nought] at e
  refine nng_nil ?_
  rw [e]; unfold Nil0
  split
  ·exact .inr rfl
  ·exact .inl rfl
theorem noise_nb {x : Nat} (hw : x < 2 ^ 64) (hf : finB x = true) (hl : loudB x = false) : Nb x 100 := by
 have hr := (finB_iff hw).1 hf
 obtain ⟨p1, p2⟩ := p100_val
 have h0 : rung 0 < 9218868437227405312 := by decide
 unfold loudB at hl
 rw [Bool.or_eq_false_iff] at hl
 obtain ⟨l1, l2⟩ := hl
 simp only [fcmp, ford_val hr h0, ford_val hr p1, sval_zero, p2] at l1 l2
 by_cases hz : vlu x = 0
 ·exact ⟨nng_nil (nil_vlu hw hz), by rw [hz]; exact Nat.zero_le _⟩
 ·have hs : sgn x = false := by
   cases hs : sgn x with
   | false => rfl
   | true =>
    exfalso
    unfold sval at l1
    rw [if_pos hs, Int.compare_eq_lt.2 (by omega)] at l1
    exact absurd l1 (by decide)
  have hv : sval x = (vlu x : Int) := by unfold sval; rw [if_neg (by simp [hs])]
  rw [hv] at l1 l2
  refine ⟨⟨hw, hr, .inl hs⟩, ?_⟩
  by_cases c : vlu x ≤ PZ * 2 ^ 100
  ·exact c
  ·rw [Int.compare_eq_gt.2 (by omega)] at l2
   exact absurd l2 (by decide)
theorem nng_geq {x : Nat} (h : Nng x) : fcmp .geq x 0 = true := by
 have h0 : rung 0 < 9218868437227405312 := by decide
 unfold fcmp
 rw [ford_val h.f h0, sval_zero, h.val]
 by_cases e : vlu x = 0
 ·rw [e]; decide
 ·rw [Int.compare_eq_gt.2 (by omega)]; decide
theorem ent_nng {p : Prt} {d : Nat} (hk : 1 ≤ ordN p.k) (h : Nb p.n 100) (hd : Nb d 75) (u w : Nat) : finB (ent (noiseB p d) u w) = true → Nng (ent (noiseB p d) u w) := by
 have a := nb_mul h hd (by omega)
 have m1 := nb_mul a hd (by omega)
 have m2 := nb_mul m1 hd (by omega)
 have m3 := nb_mul m2 hd (by omega)
 have m4 := nb_mul m3 hd (by omega)
 refine ent_all (P := fun x => finB x = true → Nng x) (fun r hr v hv => ?_) (fun _ => nng_nil (.inl rfl)) u w
 unfold noiseB spB at hr
 rcases ordN_some hk with e | e | e | e | e
 ·rw [e, if_neg (by decide), if_neg (by decide), if_neg (by decide)] at hr
  simp at hr; subst hr; simp at hv; subst hv; exact fun _ => nng_nil (.inl rfl)
 ·rw [e, if_pos (by decide)] at hr
  simp at hr; subst hr; simp at hv; subst hv; exact fun _ => a.n
 ·rw [e, if_neg (by decide), if_pos (by decide)] at hr
  simp at hr
  rcases hr with rfl | rfl <;> simp at hv <;> rcases hv with rfl | rfl
  ·exact nng_div m2.n c3
  ·exact nng_div m1.n c2
  ·exact nng_div m1.n c2
  ·exact fun _ => a.n
 ·rw [e, if_neg (by decide), if_neg (by decide), if_pos (by decide)] at hr
  simp at hr
  rcases hr with rfl | rfl | rfl
  ·simp at hv
   rcases hv with rfl | rfl | rfl
   ·exact nng_div m4.n c20
   ·exact nng_div m3.n c8
   ·exact nng_div m2.n c6
  ·simp at hv
   rcases hv with rfl | rfl | rfl
   ·exact nng_div m3.n c8
   ·exact nng_div m2.n c3
   ·exact nng_div m1.n c2
  ·simp at hv
   rcases hv with rfl | rfl | rfl
   ·exact nng_div m2.n c6
   ·exact nng_div m1.n c2
   ·exact fun _ => a.n
 ·rw [e, if_pos (by decide)] at hr
  simp at hr; subst hr; simp at hv; subst hv; exact fun _ => a.n
theorem ent_sym {p : Prt} {d u w : Nat} (hk : 1 ≤ ordN p.k) (hu : (u : Int) < ordN p.k) (hw : (w : Int) < ordN p.k) : ent (noiseB p d) u w = ent (noiseB p d) w u := by
 rcases ordN_some hk with e | e | e | e | e
 all_goals rw [e] at hu hw
 ·obtain rfl : u = w := by have : ordN 0 = 1 := rfl; omega
  rfl
 ·obtain rfl : u = w := by have : ordN 1 = 1 := rfl; omega
  rfl
 ·have : ordN 2 = 2 := rfl
  unfold noiseB spB
  rw [e, if_neg (by decide), if_pos (by decide)]
  rcases lt2 (show u < 2 by omega) with rfl | rfl <;> rcases lt2 (show w < 2 by omega) with rfl | rfl <;> rfl
 ·have : ordN 3 = 3 := rfl
  unfold noiseB spB
  rw [e, if_neg (by decide), if_neg (by decide), if_pos (by decide)]
  rcases lt3 (show u < 3 by omega) with rfl | rfl | rfl <;> rcases lt3 (show w < 3 by omega) with rfl | rfl | rfl <;> rfl
 ·obtain rfl : u = w := by have : ordN 4 = 1 := rfl; omega
  rfl
section
variable {ps : List Prt} {n : Int} {d : Nat}
theorem noise_at (hg : PrtTo ps ps.length) (hn : Siz n n) (ht : tot ps ps.length = n) {x : Int} (hx0 : 0 ≤ x) (hx1 : x < n) : ∃ k f L : Nat, k < ps.length ∧ (L : Int) = ordN (ps.getD k prtD).k ∧ (f : Int) ≤ x ∧ x < (f : Int) + L ∧ (f : Int) + L ≤ n ∧
  ∀ i j, Pl n n i j → (f : Int) ≤ i → i < (f : Int) + L → (mat n (layP noiseB d ps n ps.length) i j = (if (f : Int) ≤ j ∧ j < (f : Int) + L then ent (noiseB (ps.getD k prtD) d) (i - f).toNat (j - f).toNat else 0)) ∧ (mat n (layP noiseB d ps n ps.length) j i = mat n (layP noiseB d ps n ps.length) i j) := by
 obtain ⟨k, q, h1, h2, h3, h4⟩ := blk_of hx0 (show x < tot ps ps.length by rw [ht]; exact hx1) hg
 have hin := ax_in hg (by rw [ht]; exact hn.2.1) h1 h2
 have C := fun (x y : Int) (hy : Pl n n x y) => layP_at (g := noiseB) (d := d) (x := x) (y := y) noiseB_ok hg hn ht h2 h1 (Nat.le_refl _) hy
 obtain ⟨L, hL⟩ : ∃ L : Nat, (L : Int) = ordN (ps.getD k prtD).k := ⟨(ordN (ps.getD k prtD).k).toNat, by omega⟩
 have hk1 : 1 ≤ ordN (ps.getD k prtD).k := (partE_good (hg k h1)).1
 rw [← hL] at C hin h3 h4
 rw [ht] at hin
 obtain ⟨f, hfr⟩ : ∃ f : Nat, (f : Int) = tot ps k + (q : Int) * (L : Int) := ⟨(tot ps k + (q : Int) * (L : Int)).toNat, by omega⟩
 rw [← hfr] at C hin h3 h4
 refine ⟨k, f, L, h1, hL, h3, h4, by omega, fun i j hp hi1 hi2 => ?_⟩
 have e1 := C i j hp hi1 hi2
 refine ⟨e1, ?_⟩
 obtain ⟨p1, p2, p3, p4⟩ := hp
 rw [e1]
 by_cases hj : (f : Int) ≤ j ∧ j < (f : Int) + L
 ·rw [if_pos hj, C j i ⟨p3, p4, p1, p2⟩ hj.1 hj.2, if_pos ⟨hi1, hi2⟩]
  exact ent_sym hk1 (by omega) (by omega)
 ·rw [if_neg hj]
  obtain ⟨k', q', g1, g2, g3, g4⟩ := blk_of p3 (show j < tot ps ps.length by rw [ht]; exact p4) hg
  rw [layP_at (g := noiseB) (d := d) noiseB_ok hg hn ht g2 g1 (Nat.le_refl _) ⟨p3, p4, p1, p2⟩ g3 g4, if_neg]
  intro ⟨b1, b2⟩
  obtain ⟨rfl, rfl⟩ := blk_one hg h1 g1 h2 g2 (x := i) (by rw [← hL, ← hfr]; exact hi1) (by rw [← hL, ← hfr]; exact hi2) b1 b2
  rw [← hL, ← hfr] at g3 g4
  exact hj ⟨g3, g4⟩
theorem noise_sym (hg : PrtTo ps ps.length) (hn : Siz n n) (ht : tot ps ps.length = n) {i j : Int} (hp : Pl n n i j) : mat n (layP noiseB d ps n ps.length) j i = mat n (layP noiseB d ps n ps.length) i j := by
 obtain ⟨k, f, L, _, _, h3, h4, _, h5⟩ := noise_at (d := d) hg hn ht hp.1 hp.2.1
 exact (h5 i j hp h3 h4).2
theorem noise_pos (hg : PrtTo ps ps.length) (hn : Siz n n) (ht : tot ps ps.length = n) (hw : WordP ps) (hd : Nb d 75) (hf : (layP noiseB d ps n ps.length).all finB = true) {i j : Int} (hp : Pl n n i j) : Nng (mat n (layP noiseB d ps n ps.length) i j) := by
 have h1 := (all_good (lay_good hn)).1 hf i j hp
 refine lay_all (P := fun x => finB x = true → Nng x) noiseB_ok hg hn ht (fun _ => nng_nil (.inl rfl)) (fun k hk u w => ?_) hp h1
 obtain ⟨g1, _, _, g2, _⟩ := partE_good (hg k hk)
 exact ent_nng g1 (noise_nb (hw k hk).1 g2 (partE_loud (hg k hk))) hd u w
def matQ (n : Nat) (Q : List Nat) : Nat → Nat → Rat := fun i j => if i < n ∧ j < n then fltQ (Q.getD (i * n + j) 0) else 0
theorem matQ_at {N : Nat} {Q : List Nat} {i j : Nat} (hi : i < N) (hj : j < N) : matQ N Q i j = fltQ (mat (N : Int) Q i j) := by
 unfold matQ mat
 rw [if_pos ⟨hi, hj⟩, ← Int.natCast_mul, ← Int.natCast_add, Int.toNat_natCast]
theorem elQ_congr {k : Nat} {L L' : Nat → Nat → Rat} (h : ∀ p q, p < k → q < k → L p q = L' p q) : ∀ c p q, p < k → q < k → elQ L c p q = elQ L' c p q
 | 0, p, q, hp, hq => h p q hp hq
 | c + 1, p, q, hp, hq => by
  have ih := elQ_congr h c
  show (if c < p then _ else _) = (if c < p then _ else _)
  by_cases hc : c < p
  ·rw [if_pos hc, if_pos hc, ih p q hp hq, ih p c hp (by omega), ih c c (by omega) (by omega), ih c q (by omega) hq]
  ·rw [if_neg hc, if_neg hc, ih p q hp hq]
theorem BP.congr {k : Nat} {L L' : Nat → Nat → Rat} (hb : BP k L) (h : ∀ p q, p < k → q < k → L p q = L' p q) : BP k L' := ⟨hb.b, fun c hc => by rw [← elQ_congr h c c c hc hc]; exact hb.pos c hc, fun p q hp hq => by rw [← h p q hp hq]; exact hb.sz p q hp hq⟩
theorem elp_noise {N : Nat} (hN : (N : Int) = n) (hg : PrtTo ps ps.length) (hn : Siz n n) (ht : tot ps ps.length = n) (hd : Rng d 75) (hl : ∀ k, k < ps.length → (ps.getD k prtD).k ≠ 0 ∧ Rng (ps.getD k prtD).n 100) : Elp N (matQ N (layP noiseB d ps n ps.length)) := by
 refine elp_of fun x hx => ?_
 obtain ⟨k, f, L, h1, hL, h3, h4, h6, h5⟩ := noise_at (d := d) hg hn ht (x := (x : Int)) (by omega) (by omega)
 have hk1 : 1 ≤ ordN (ps.getD k prtD).k := (partE_good (hg k h1)).1
 refine ⟨f, L, by omega, by omega, fun i j hi1 hi2 hj => ?_, ?_⟩
 ·by_cases hjN : j < N
  ·rw [matQ_at (by omega) hjN, matQ_at hjN (by omega), hN]
   obtain ⟨e1, e2⟩ := h5 i j ⟨by omega, by omega, by omega, by omega⟩ (by omega) (by omega)
   rw [e2, e1, if_neg (by omega)]
   exact ⟨frq_zero, frq_zero⟩
  ·unfold matQ
   rw [if_neg (by omega), if_neg (by omega)]
   exact ⟨rfl, rfl⟩
 ·have hb := bp_noise hk1 (hl k h1).1 (hl k h1).2 hd
  rw [← hL, Int.toNat_natCast] at hb
  refine hb.congr fun p q hp hq => ?_
  show _ = matQ _ _ (f + p) (f + q)
  rw [matQ_at (by omega) (by omega), hN]
  have e1 := (h5 ((f + p : Nat) : Int) ((f + q : Nat) : Int) ⟨by omega, by omega, by omega, by omega⟩ (by omega) (by omega)).1
  rw [e1, if_pos (by omega), show (((f + p : Nat) : Int) - f).toNat = p by omega, show (((f + q : Nat) : Int) - f).toNat = q by omega]
end
theorem blkM_all {g : BF} {ps : List Prt} {t : Int} (h : (blkM g ps t).e = 0) : (layP g (secR t).a ps (tot ps ps.length) ps.length).all finB = true := by
 unfold blkM at h
 by_cases h1 : motE ps = 0
 ·rw [if_neg (by simp [h1])] at h
  by_cases h2 : t < 0 ∨ 1125899906842624 < t
  ·rw [if_pos h2] at h; exact absurd h (by decide)
  ·rw [if_neg h2] at h
   exact (toldR_e h).1
 ·rw [if_pos h1] at h
  exact absurd h h1
theorem time_nb {t : Int} (h1 : 0 ≤ t) (h2 : t ≤ 1125899906842624) : Nb (secR t).a 75 := by
 by_cases h : t = 0
 ·subst h
  rw [sec_zero]
  exact ⟨nng_nil (.inl rfl), by rw [vlu_zero]; exact Nat.zero_le _⟩
 ·obtain ⟨r1, r2⟩ := time_rng (t := t) (by omega) h2
  exact nb_rng r1 r2
structure PMat (n : Int) (Q : List Nat) (loud : Prop) : Prop where
 N : ∃ N : Nat, (N : Int) = n
 s : Siz n n
 l : (Q.length : Int) = n * n
 f : ∀ k, k < Q.length → finB (Q.getD k 0) = true
 y : ∀ i j, Pl n n i j → mat n Q j i = mat n Q i j
 g : ∀ i j, Pl n n i j → Nng (mat n Q i j)
 e : loud → ∀ N : Nat, (N : Int) = n → Elp N (matQ N Q)
theorem pmat_of {ls : List Prt} {t n : Int} (hb : GoodL ls) (he : (blkM noiseB (ls.map pcn) t).e = 0) (hn : tot (ls.map pcn) (ls.map pcn).length = n) : PMat n (layP noiseB (secR t).a (ls.map pcn) n (ls.map pcn).length) (1 ≤ t ∧ loudL ls = true) := by
 obtain ⟨hm, t0, t1, _⟩ := blkM_fin he
 have hf := blkM_all he
 rw [hn] at hf
 obtain ⟨hs, hp, hg⟩ := siz_n hm hn
 have hl := (lay_good (g := noiseB) (d := (secR t).a) (ps := ls.map pcn) hs).2
 refine ⟨⟨n.toNat, by omega⟩, hs, hl, fun k hk => ?_, fun i j hij => noise_sym hg hs hn hij, fun i j hij => noise_pos hg hs hn (word_pcn hb) (time_nb t0 t1) hf hij, fun ⟨h1, h2⟩ N hN => ?_⟩
 ·exact List.all_eq_true.1 hf _ (mem_getD 0 hk)
 ·refine elp_noise hN hg hs hn (time_rng h1 t1).1 fun k hk => ?_
  obtain ⟨_, _, _, g2, _⟩ := partE_good (hg k hk)
  have g3 := partE_loud (hg k hk)
  have hw := (word_pcn hb k hk).1
  rw [List.length_map] at hk
  have e : (ls.map pcn).getD k prtD = pcn (ls.getD k prtD) := by simp [List.getD, List.getElem?_map, List.getElem?_eq_getElem hk]
  have h3 := loudL_true.1 h2 k hk
  unfold loudP at h3
  rw [Bool.and_eq_true] at h3
  rw [e] at g2 g3 hw ⊢
  refine ⟨?_, noise_loud hw g2 g3 h3.2⟩
  have h4 := h3.1
  rw [Bool.not_eq_true', decide_eq_false_iff_not] at h4
  exact h4
theorem map_getQ {Q : List Nat} {k : Nat} (hk : k < Q.length) : (Q.map fltQ).getD k 0 = fltQ (Q.getD k 0) := by
 simp [List.getD, List.getElem?_map, List.getElem?_eq_getElem hk]
theorem loudP_1 {p : Prt} (h : ¬ p.k = 0 ∧ fcmp .geq (cn p.n) M100 = true) : loudP p = true := by unfold loudP; rw [h.2, Bool.and_true, Bool.not_eq_true', decide_eq_false_iff_not]; exact h.1
theorem loudP_0 {p : Prt} (h : p.k = 0 ∨ fcmp .geq (cn p.n) M100 = false) : loudP p = false := by
 unfold loudP
 rcases h with h | h
 ·simp [h]
 ·rw [h, Bool.and_false]
end Go.Bn
