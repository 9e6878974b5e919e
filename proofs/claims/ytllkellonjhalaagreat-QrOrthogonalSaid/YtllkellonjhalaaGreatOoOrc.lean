/-
 Unit lists turned by mirrors, nearly: they stand upright on one another, and lead back to what was.
-/
import Derived.Test.YtllkellonjhalaaGreatOoGrb
import Derived.Test.YtllkellonjhalaaGreatOoQrf
import Derived.Test.YtllkellonjhalaaGreatOoGrc
set_option linter.unusedVariables false
set_option linter.unusedSimpArgs false
namespace Go.Bn
open Go
theorem pm_sum (v : Rvc) (c : Rat) (m : Nat) (R : Rvc) (g : Nat → Rvc) (i : Nat) : ∀ n, Pm v c m (fun i => dt R (fun l => g l i) n) i = dt R (fun l => Pm v c m (g l) i) n
 | 0 => by
  show (0 : Rat) - c * dt (fun _ => 0) v m * v i = 0
  rw [dt_0 (a := fun _ => (0 : Rat)) fun _ _ => rfl]
  grind
 | n + 1 => by
  have h := pm_lin v (fun i => dt R (fun l => g l i) n) (g n) c 1 (R n) m i
  rw [dt, ← pm_sum v c m R g i n]
  have e : (fun i => dt R (fun l => g l i) (n + 1)) = fun k => 1 * dt R (fun l => g l k) n + R n * g n k := by
   funext k
   rw [dt]
   grind
  rw [e, h]
  grind
theorem nb_sum {R : Rvc} {f : Nat → Rvc} {m : Nat} {K : Rat} (hK : 0 ≤ K) : ∀ n, (∀ l, l < n → Nb (f l) m K) → Nb (fun i => dt R (fun l => f l i) n) m (dt (fun l => ra (R l)) (fun _ => 1) n * K)
 | 0, _ => by
  refine ⟨by rw [dt]; grind, ?_⟩
  have : dt (fun i => dt R (fun l => f l i) 0) (fun i => dt R (fun l => f l i) 0) m = 0 := dt_0 fun _ _ => rfl
  rw [this, dt]
  grind
 | n + 1, h => by
  have h1 := nb_sum (R := R) hK n fun l hl => h l (by omega)
  have h2 := (h n (by omega)).smul (ra_bd (R n))
  have h3 := h1.add h2
  rw [dt]
  refine nm_congr (h3.up ?_) fun k _ => ?_
  ·grind
  ·rw [dt]
theorem nb_pre {r : Rvc} {N : Rat} {n q : Nat} (h : Nb r (n + q) N) : Nb r n N := by
 refine ⟨h.h0, ?_⟩
 have := h.h
 rw [dt_app] at this
 have := dt_nn (fun k => r (n + k)) q
 grind
theorem nb_one {n : Nat} (hn : n ≤ 12) : Nb (fun _ => 1) n (7 / 2) := by
 refine ⟨by grind, ?_⟩
 rw [dt_const]
 have h1 : (n : Rat) ≤ 12 := by exact_mod_cast hn
 grind
theorem sum_abs {R : Rvc} {n m : Nat} {N : Rat} (hn : n ≤ 12) (hnm : n ≤ m) (h : Nb R m N) : dt (fun l => ra (R l)) (fun _ => 1) n ≤ N * (7 / 2) := by
 have h1 : Nb R n N := nb_pre (q := m - n) (by rw [show n + (m - n) = m by omega]; exact h)
 exact (h1.ra.dot (nb_one hn)).2
def fq : Rat := 1700 / 9007199254740992
theorem bak_step {v : Rvc} {c N : Rat} {m d n : Nat} {a b : Rvc} {R : Rvc} {u u2 : Nat → Rvc} (hM : Mir v c m) (hn : n ≤ 12) (hnm : n ≤ m) (hd : d ≤ 12) (hR : Nb R m N) (ha : Nb a m N)
  (hb : Near v c m a b N) (hu : ∀ l, l < n → Near v c m (u l) (u2 l) (11 / 10)) (hW : Nb (fun i => dt R (fun l => u l i) n - b i) m ((d : Rat) * (fq * N))) :
  Nb (fun i => dt R (fun l => u2 l i) n - a i) m (((d : Rat) + 1) * (fq * N)) := by
 have hN := hR.h0
 have o := om_nn
 have s1 := nb_sum (R := R) (f := fun l k => u2 l k - Pm v c m (u l) k) (m := m) (K := ka * (11 / 10)) (by unfold ka; grind) n hu
 have s2 := s1.up (r_mm (sum_abs hn hnm hR) (Rat.le_refl (a := ka * (11 / 10))) (by grind) (by unfold ka; grind))
 have n1 := mir_nm hM hW
 have n2 := mir_twice hM ha
 have n3 := mir_nm hM hb
 have n4 := ((n1.add n2).add n3).add s2
 refine nm_congr (n4.up ?_) fun i hi => ?_
 ·have h12 : (d : Rat) ≤ 12 := by exact_mod_cast hd
  have hd0 := nat_nn d
  have hdN := r_mm h12 (Rat.le_refl (a := N)) (by grind) hN
  have e1 : (1 + om) * ((d : Rat) * (fq * N)) = (1 + om) * fq * ((d : Rat) * N) := by grind
  have e2 : ((d : Rat) + 1) * (fq * N) = fq * ((d : Rat) * N) + fq * N := by grind
  rw [e1, e2]
  generalize (d : Rat) * N = y at *
  unfold om ka fq at *
  grind
 ·have p1 := pm_sum v c m R u i n
  have e : dt R (fun l => u2 l i) n = dt R (fun l => Pm v c m (u l) i) n + dt R (fun l => u2 l i - Pm v c m (u l) i) n := by
   have := dt_lin (fun l => Pm v c m (u l) i) (fun l => u2 l i - Pm v c m (u l) i) R 1 1 n
   rw [dt_comm R, dt_comm R (fun l => Pm v c m (u l) i), dt_comm R (fun l => u2 l i - Pm v c m (u l) i)]
   rw [dt_congr (c := fun k => 1 * Pm v c m (u k) i + 1 * (u2 k i - Pm v c m (u k) i)) (d := R) fun k _ => ⟨by grind, rfl⟩, this]
   grind
  rw [e, ← p1]
  have q1 := pm_lin v (fun i => dt R (fun l => u l i) n - b i) b c 1 1 m i
  have q2 := pm_lin v (Pm v c m a) (fun k => b k - Pm v c m a k) c 1 1 m i
  have r1 : (fun k => 1 * (dt R (fun l => u l k) n - b k) + 1 * b k) = fun k => dt R (fun l => u l k) n := by funext k; grind
  have r2 : (fun k => 1 * Pm v c m a k + 1 * (b k - Pm v c m a k)) = b := by funext k; grind
  rw [r1] at q1
  rw [r2] at q2
  rw [q1, q2]
  grind
theorem rv_ONE : rv ONE = 1 := by
 obtain ⟨o1, o2, o3, o4, o5, o6⟩ := one_v
 rw [rv_pos o4]
 have hv : vlu ONE = PZ := by
  unfold vlu
  rw [o5, o6, pz_def, show (4503599627370496 : Nat) = 2 ^ 52 by decide, ← Nat.pow_add]
  congr 1
 rw [hv]
 have := ep_pz
 grind
theorem rl_unit {m l k : Nat} (hl : l < m) : rl (unitL m l) k = if k = l then 1 else 0 := by
 show rv ((unitL m l).getD k 0) = _
 unfold unitL
 by_cases h : k = l
 ·subst h
  rw [if_pos rfl, List.getD, List.getElem?_set_self (by rw [List.length_replicate]; exact hl)]
  exact rv_ONE
 ·rw [if_neg h, List.getD, List.getElem?_set_ne (by omega)]
  show rv ((List.replicate m 0).getD k 0) = 0
  rw [getD_rep]
  exact rv_zero
theorem dt_unit {R : Rvc} {l : Nat} : ∀ n, dt R (fun k => if l = k then 1 else 0) n = if l < n then R l else 0
 | 0 => by rw [dt, if_neg (by omega)]
 | n + 1 => by
  rw [dt, dt_unit n]
  by_cases h : l = n
  ·subst h
   rw [if_neg (by omega), if_pos rfl, if_pos (by omega)]
   grind
  ·rw [if_neg h]
   by_cases h2 : l < n
   ·rw [if_pos h2, if_pos (by omega)]; grind
   ·rw [if_neg h2, if_neg (by omega)]; grind
theorem ltL_take' {x : List Nat} (h : LtL x) (p : Nat) : LtL (x.take p) := fun k => by
 by_cases hk : k < p
 ·rw [getD_tak hk]; exact h k
 ·rw [List.getD, List.getElem?_take, if_neg hk]; decide
theorem ltL_drop' {x : List Nat} (h : LtL x) (p : Nat) : LtL (x.drop p) := fun k => by rw [getD_drop]; exact h _
theorem ltL_mirW' {h : Gls} {p : Nat} {x : List Nat} (hx : LtL x) : LtL (mirW h p x) := ltL_app (ltL_take' hx p) (ltL_mirL _ _ (ltL_drop' hx p))
theorem ltL_turn (H : Nat → Gls) (m n j : Nat) : ∀ d, LtL (turnP H m n j d)
 | 0 => finL_lt (finL_unit m j)
 | d + 1 => ltL_mirW' (ltL_turn H m n j d)
theorem mirW_back {h : Gls} {p : Nat} {x : List Nat} (hx : LtL x) (hp : p ≤ x.length) (hf : FinL (mirW h p x)) : FinL x := fun k => by
 refine ⟨(finB_iff (hx k)).2 ?_, hx k⟩
 have f := finL_r hf k
 rw [getD_mirW hp] at f
 by_cases hk : k < p
 ·rw [if_pos hk] at f; exact f
 ·rw [if_neg hk] at f
  unfold mirL at f
  split at f
  ·rw [getD_drop, show p + (k - p) = k by omega] at f; exact f
  ·by_cases hkl : k - p < (x.drop p).length
   ·rw [getD_mirG hkl] at f
    have := (fsub_fin2 f).1
    rw [getD_drop, show p + (k - p) = k by omega] at this
    exact this
   ·rw [List.length_drop] at hkl
    rw [List.getD, List.getElem?_eq_none (by omega)]
    decide
theorem tur_fin {H : Nat → Gls} {m n j : Nat} (hnm : n ≤ m) (hf : FinL (turnP H m n j n)) : ∀ q, q ≤ n → FinL (turnP H m n j (n - q))
 | 0, _ => hf
 | q + 1, hq => by
  have h := tur_fin hnm hf q (by omega)
  rw [show n - q = (n - (q + 1)) + 1 by omega, turnP] at h
  exact mirW_back (ltL_turn H m n j _) (by rw [length_turnP]; omega) h
end Go.Bn
namespace Go.Bn
open Go
structure QrH (X : Nat → List Nat) (n m : Nat) : Prop where
 hnm : n ≤ m
 m12 : m ≤ 12
 hl : ∀ j, j < n → (X j).length = m
 hF : ∀ j, j < n → FinL (X j)
 hT : ∀ j, j < n → TameL (X j)
 hB : triB X n = false
 hQ : ∀ l, l < n → FinL (turnP (glsAt X) m n l n)
def uv (X : Nat → List Nat) (m n l d : Nat) : Rvc := rl (turnP (glsAt X) m n l d)
section
variable {X : Nat → List Nat} {n m : Nat} (h : QrH X n m)
include h
theorem qh_T : ∀ i, i ≤ n → TriI X n m i := triI_all h.hl h.hF h.hB
theorem qh_step {k : Nat} (hk : k < n) : ∃ v c, StepV (triTo X k) n m k v c := by
 have T := qh_T h k (by omega)
 obtain ⟨h1, h2⟩ := over_yes ((qh_T h (k + 1) (by omega)).ho k (by omega))
 exact step_all T.hl (by have := h.m12; omega) hk h.hnm T.hf h1 h2 (tri_low h.hnm (qh_T h) k (by omega))
theorem qh_fin {l : Nat} (hl : l < n) {d : Nat} (hd : d ≤ n) : FinL (turnP (glsAt X) m n l d) := by
 have := tur_fin h.hnm (h.hQ l hl) (n - d) (by omega)
 rwa [show n - (n - d) = d by omega] at this
theorem qh_near {l d : Nat} (hl : l < n) (hd : d < n) {v : Rvc} {c : Rat} (S : StepV (triTo X (n - 1 - d)) n m (n - 1 - d) v c) {N : Rat} (hN : Nb (uv X m n l d) m N) (hB : Big (uv X m n l d) N) : Near v c m (uv X m n l d) (uv X m n l (d + 1)) N := by
 have f := qh_fin h hl (d := d + 1) (by omega)
 refine S.near2 (turnP (glsAt X) m n l d) (length_turnP ..) (qh_fin h hl (by omega)) ?_ N hN hB
 show (turnP (glsAt X) m n l (d + 1)).all finB = true
 rw [List.all_eq_true]
 intro x hx
 obtain ⟨k, hk, e⟩ := List.mem_iff_getElem.1 hx
 have := (f k).1
 rw [List.getD, List.getElem?_eq_getElem hk, Option.getD_some, e] at this
 exact this
omit h in
theorem unit_dt {i j m n : Nat} (hi : i < m) (hj : j < m) : dt (uv X m n i 0) (uv X m n j 0) m = if i = j then 1 else 0 := by
 have e : dt (uv X m n i 0) (uv X m n j 0) m = dt (uv X m n i 0) (fun k => if j = k then 1 else 0) m := dt_congr fun k hk => ⟨rfl, by
  show rl (unitL m j) k = _
  rw [rl_unit hj]
  by_cases e : k = j
  ·rw [if_pos e, if_pos e.symm]
  ·rw [if_neg e, if_neg (Ne.symm e)]⟩
 rw [e, dt_unit m, if_pos hj]
 show rl (unitL m i) j = _
 rw [rl_unit hi]
 by_cases e : j = i
 ·rw [if_pos e, if_pos e.symm]
 ·rw [if_neg e, if_neg (Ne.symm e)]
theorem unit_row {l : Nat} (hl : l < n) : RowN (uv X m n l 0) m (11 / 10) := by
 have hnm := h.hnm
 refine ⟨by grind, ?_, .inl ?_⟩
 ·rw [unit_dt (by omega) (by omega), if_pos rfl]
  grind
 ·have := ep_small
  have := uu_nn
  grind
theorem gram_turn : ∀ d, d ≤ n → ∀ i j, i < n → j < n → Bd (dt (uv X m n i d) (uv X m n j d) m - dt (uv X m n i 0) (uv X m n j 0) m) ((d : Rat) * ga * (11 / 10 * (11 / 10)))
 | 0, _, i, j, hi, hj => by
  have e : dt (uv X m n i 0) (uv X m n j 0) m - dt (uv X m n i 0) (uv X m n j 0) m = 0 := by grind
  rw [e]
  refine bd_zero ?_
  have : (((0 : Nat)) : Rat) = 0 := rfl
  rw [this]
  grind
 | d + 1, hd, i, j, hi, hj => by
  have ih := gram_turn d (by omega)
  have m12 := h.m12
  have hnm := h.hnm
  obtain ⟨v, c, S⟩ := qh_step h (k := n - 1 - d) (by omega)
  have nb : ∀ a, a < n → Nb (uv X m n a d) m (11 / 10) := fun a ha => gram_nb (unit_row h ha) (by omega) (ih a a ha ha)
  have bg : ∀ a, Big (uv X m n a d) (11 / 10) := fun a => .inl (by
   have := ep_small
   have := uu_nn
   grind)
  have st := step_dt S.m (nb i hi) (nb j hj) (qh_near h hi (by omega) S (nb i hi) (bg i)) (qh_near h hj (by omega) S (nb j hj) (bg j))
  refine ((st.add (ih i j hi hj)).up ?_).eq (by grind)
  have : (((d + 1 : Nat)) : Rat) = (d : Rat) + 1 := by push_cast; rfl
  rw [this]
  grind
theorem turn_nb {l d : Nat} (hl : l < n) (hd : d ≤ n) : Nb (uv X m n l d) m (11 / 10) := gram_nb (unit_row h hl) (by have := h.m12; have := h.hnm; omega) (gram_turn h d hd l l hl hl)
theorem qh_up {i j : Nat} (hi : i < n) (hj : j < n) : Bd (dt (uv X m n i n) (uv X m n j n) m - if i = j then 1 else 0) (16 * ga) := by
 have g := gram_turn h n (Nat.le_refl _) i j hi hj
 have hnm := h.hnm
 rw [unit_dt (by omega) (by omega)] at g
 refine g.up ?_
 have h1 : (n : Rat) ≤ 12 := by exact_mod_cast (show n ≤ 12 by have := h.m12; omega)
 unfold ga
 grind
theorem qh_back {N : Nat → Rat} (hN : ∀ j, j < n → RowN (rl (X j)) m (N j)) {j : Nat} (hj : j < n) : ∀ d, d ≤ n → Nb (fun i => dt (rl (triTo X n j)) (fun l => uv X m n l d i) n - rl (triTo X (n - d) j) i) m ((d : Rat) * (fq * N j))
 | 0, _ => by
  have hnm := h.hnm
  have h0 := (hN j hj).h0
  have e0 : (((0 : Nat)) : Rat) = 0 := rfl
  rw [e0]
  refine nm_congr ((nm_zero m).up (by grind)) fun i hi => ?_
  have e : dt (rl (triTo X n j)) (fun l => uv X m n l 0 i) n = dt (rl (triTo X n j)) (fun l => if i = l then 1 else 0) n := dt_congr fun l hl => ⟨rfl, by show rl (unitL m l) i = _; rw [rl_unit (by omega)]⟩
  rw [e, dt_unit n]
  by_cases hin : i < n
  ·rw [if_pos hin]
   show rl (triTo X n j) i - rl (triTo X (n - 0) j) i = 0
   rw [Nat.sub_zero]
   grind
  ·rw [if_neg hin]
   show 0 - rl (triTo X (n - 0) j) i = 0
   rw [Nat.sub_zero, tri_low hnm (qh_T h) n (Nat.le_refl _) j hj i (by omega)]
   grind
 | d + 1, hd => by
  have ih := qh_back hN hj d (by omega)
  have m12 := h.m12
  have hnm := h.hnm
  obtain ⟨v, c, S⟩ := qh_step h (k := n - 1 - d) (by omega)
  have G := gram_all (N := N) (by omega) (by omega) hnm (qh_T h) hN
  have nbk : ∀ k, k ≤ n → Nb (rl (triTo X k j)) m (N j) := fun k hk => gram_nb (hN j hj) (by omega) (G k hk j j hj hj)
  have bg : Big (rl (triTo X (n - 1 - d) j)) (N j) := by
   rcases (hN j hj).b with b | b
   ·exact .inl b
   ·right
    have := nbk (n - 1 - d) (by omega)
    rw [b] at this
    exact nb_zero ((qh_T h (n - 1 - d) (by omega)).hl j hj) this
  have hb := S.near j hj (N j) (nbk (n - 1 - d) (by omega)) bg
  have e1 : n - d = (n - 1 - d) + 1 := by omega
  have hu : ∀ l, l < n → Near v c m (uv X m n l d) (uv X m n l (d + 1)) (11 / 10) := fun l hl => qh_near h hl (by omega) S (turn_nb h hl (by omega)) (.inl (by
   have := ep_small
   have := uu_nn
   grind))
  rw [e1] at ih
  have B := bak_step (R := rl (triTo X n j)) (u := fun l => uv X m n l d) (u2 := fun l => uv X m n l (d + 1)) S.m (by omega) hnm (by omega) (nbk n (Nat.le_refl _)) (nbk (n - 1 - d) (by omega)) hb hu ih
  have e2 : n - (d + 1) = n - 1 - d := by omega
  have e3 : (((d + 1 : Nat)) : Rat) = (d : Rat) + 1 := by push_cast; rfl
  rw [e2, e3]
  exact B
end
theorem fneg_fin1 {x : Nat} (hx : x < 2 ^ 64) (h : rung (fneg x) < 9218868437227405312) : rung x < 9218868437227405312 := by
 unfold fneg at h
 split at h
 ·exact absurd h nan_not
 ·split at h
  ·rename_i h1 h2
   unfold rung at h ⊢
   unfold sgn at h2
   have h3 : x / 9223372036854775808 % 2 = 1 := by simpa using h2
   omega
  ·rename_i h1 h2
   unfold rung at h ⊢
   omega
theorem flip_rv {x b : Nat} (hx : x < 2 ^ 64) (fx : rung x < 9218868437227405312) : flipN x b < 2 ^ 64 ∧ rung (flipN x b) < 9218868437227405312 ∧ rv (flipN x b) = sgq b * rv x := by
 have z : sval 0 = 0 := by decide +kernel
 have fz : rung 0 < 9218868437227405312 := by decide
 obtain ⟨n1, n2, n3⟩ := fneg_val hx fx
 unfold flipN sgq
 refine ⟨fop_lt (op := .add), ?_⟩
 split
 ·obtain ⟨q1, q2⟩ := fadd_nil n1 n2 fz z
  refine ⟨q1, ?_⟩
  have : rv (fadd (fneg x) 0) = rv (fneg x) := by unfold rv; rw [q2]
  rw [this, rv_neg hx fx]
  grind
 ·obtain ⟨q1, q2⟩ := fadd_nil hx fx fz z
  refine ⟨q1, ?_⟩
  have : rv (fadd x 0) = rv x := by unfold rv; rw [q2]
  rw [this]
  grind
theorem flip_fin {x b : Nat} (hx : x < 2 ^ 64) (h : rung (flipN x b) < 9218868437227405312) : rung x < 9218868437227405312 := by
 unfold flipN at h
 have h2 := (fadd_fin2 h).1
 split at h2
 ·exact fneg_fin1 hx h2
 ·exact h2
end Go.Bn
namespace Go.Bn
open Go
theorem ltL_gridF {r c : Int} {f : Int → Int → Nat} {g : Int → Int → Nat} : LtL (grid r c fun i j => flipN (f i j) (g i j)) := fun k => by
 unfold grid
 by_cases hk : k < r.toNat * c.toNat
 ·rw [List.getD, List.getElem?_map, List.getElem?_range hk]
  exact fop_lt (op := .add)
 ·rw [List.getD, List.getElem?_eq_none (by rw [List.length_map, List.length_range]; omega)]
  decide
structure OrtB (r c : Int) (xs : List Nat) (Q : QM) : Prop where
 g : Good r c xs
 f : FinL xs
 hrc : c ≤ r
 r1 : Q.r1 = r
 c1 : Q.c1 = c
 r2 : Q.r2 = c
 c2 : Q.c2 = c
 a1 : Q.a1 = qQ flipN (triTo (colX r c xs) c.toNat) (glsAt (colX r c xs)) r.toNat c.toNat
 a2 : Q.a2 = qR flipN (triTo (colX r c xs) c.toNat) c.toNat
 l1 : (Q.a1.length : Int) = r * c
 l2 : (Q.a2.length : Int) = c * c
 tb : triB (colX r c xs) c.toNat = false
 q1 : Q.a1.all finB = true
 q2 : Q.a2.all finB = true
theorem ortB_of {r c : Int} {xs : List Nat} (hx : LtL xs) (h : cmpB .neq (qrM r c xs).e 0 = false) : OrtB r c xs (qrM r c xs) := by
 have he : (qrM r c xs).e = 0 := by simpa [cmpB] using h
 by_cases h1 : chk r c xs = 0
 ·by_cases h2 : r < c
  ·rw [qrM_2 h1 h2] at he; exact absurd he (by decide)
  ·have hg := chk_good h1
   have hfin := (chk_zero.1 h1).2
   obtain ⟨⟨s1, s2, s3, s4⟩, sl⟩ := hg
   have hr : ((r.toNat : Nat) : Int) = r := by omega
   have hc : ((c.toNat : Nat) : Int) = c := by omega
   cases h3 : triB (colX r c xs) c.toNat
   ·have e : qrM r c xs = endsQ r c (qQ flipN (triTo (colX r c xs) c.toNat) (glsAt (colX r c xs)) r.toNat c.toNat) (qR flipN (triTo (colX r c xs) c.toNat) c.toNat) := by
     unfold qrM
     rw [if_neg (by simpa using h1), if_neg h2, if_neg (by rw [h3]; decide)]
    have e0 := e
    unfold endsQ at e
    split at e
    ·rw [e] at he; exact absurd he (by decide)
    ·rename_i h4
     have h5 : (qQ flipN (triTo (colX r c xs) c.toNat) (glsAt (colX r c xs)) r.toNat c.toNat).all finB = true ∧ (qR flipN (triTo (colX r c xs) c.toNat) c.toNat).all finB = true := by
      rw [Bool.not_eq_true, Bool.or_eq_false_iff] at h4
      exact ⟨by simpa using h4.1, by simpa using h4.2⟩
     rw [e]
     refine ⟨chk_good h1, finL_mk hfin hx, by omega, rfl, rfl, rfl, rfl, rfl, rfl, ?_, ?_, h3, h5.1, h5.2⟩
     ·show ((qQ flipN (triTo (colX r c xs) c.toNat) (glsAt (colX r c xs)) r.toNat c.toNat).length : Int) = _
      unfold qQ
      rw [length_grid, Int.toNat_natCast, Int.toNat_natCast, Int.natCast_mul, hr, hc]
     ·show ((qR flipN (triTo (colX r c xs) c.toNat) c.toNat).length : Int) = _
      unfold qR
      rw [length_grid, Int.toNat_natCast, Int.natCast_mul, hc]
   ·exfalso
    have e : qrM r c xs = badS 5 := by
     unfold qrM
     rw [if_neg (by simpa using h1), if_neg h2, if_pos h3]
    rw [e] at he
    exact absurd he (by decide)
 ·rw [qrM_1 h1] at he
  exact absurd he h1
section
variable {r c : Int} {xs : List Nat} {Q : QM} (h : OrtB r c xs Q)
include h
theorem ort_n : ((r.toNat : Nat) : Int) = r ∧ ((c.toNat : Nat) : Int) = c ∧ 0 ≤ r ∧ r ≤ 12 ∧ 0 ≤ c ∧ c ≤ 12 ∧ c.toNat ≤ r.toNat ∧ r.toNat ≤ 12 := by
 obtain ⟨⟨s1, s2, s3, s4⟩, sl⟩ := h.g
 have := h.hrc
 exact ⟨by omega, by omega, s1, s2, s3, s4, by omega, by omega⟩
theorem ort_colF (j : Nat) : FinL (colX r c xs j) := finL_col h.f
theorem ort_T : ∀ i, i ≤ c.toNat → TriI (colX r c xs) c.toNat r.toNat i := triI_all (fun j _ => length_colL) (fun j _ => ort_colF h j) h.tb
theorem ort_q {i j : Nat} (hi : i < r.toNat) (hj : j < c.toNat) : Q.a1.getD ((i : Int) * c + (j : Int)).toNat 0 = flipN ((turnP (glsAt (colX r c xs)) r.toNat c.toNat j c.toNat).getD i 0) ((triTo (colX r c xs) c.toNat j).getD j 0) := by
 obtain ⟨e1, e2, _⟩ := ort_n h
 rw [h.a1]
 have := mat_grid (r := (r.toNat : Int)) (c := (c.toNat : Int)) (f := fun a b => flipN ((turnP (glsAt (colX r c xs)) r.toNat c.toNat b.toNat c.toNat).getD a.toNat 0) ((triTo (colX r c xs) c.toNat b.toNat).getD b.toNat 0)) (i := (i : Int)) (j := (j : Int)) (by omega) (by omega) (by omega) (by omega)
 unfold mat at this
 unfold qQ
 rw [e2] at this ⊢
 exact this
theorem ort_r {i j : Nat} (hi : i < c.toNat) (hj : j < c.toNat) : Q.a2.getD ((i : Int) * c + (j : Int)).toNat 0 = flipN ((triTo (colX r c xs) c.toNat j).getD i 0) ((triTo (colX r c xs) c.toNat i).getD i 0) := by
 obtain ⟨e1, e2, _⟩ := ort_n h
 rw [h.a2]
 have := mat_grid (r := (c.toNat : Int)) (c := (c.toNat : Int)) (f := fun a b => flipN ((triTo (colX r c xs) c.toNat b.toNat).getD a.toNat 0) ((triTo (colX r c xs) c.toNat a.toNat).getD a.toNat 0)) (i := (i : Int)) (j := (j : Int)) (by omega) (by omega) (by omega) (by omega)
 unfold mat at this
 unfold qR
 rw [e2] at this ⊢
 exact this
theorem ort_up {i j : Nat} (hji : j < i) (hi : i < c.toNat) : Q.a2.getD ((i : Int) * c + (j : Int)).toNat 0 = 0 := by
 rw [ort_r h hi (by omega), tri_low0 (ort_n h).2.2.2.2.2.2.1 (ort_T h) c.toNat (Nat.le_refl _) j (by omega) i hji]
 unfold flipN
 split <;> decide +kernel
theorem ort_dia {i : Nat} (hi : i < c.toNat) : fcmp .geq (Q.a2.getD ((i : Int) * c + (i : Int)).toNat 0) 0 = true := by
 rw [ort_r h hi hi]
 exact triN_dia ((ort_T h c.toNat (Nat.le_refl _)).hf i hi)
theorem ort_F2 : FinL Q.a2 := finL_mk h.q2 (by
 rw [h.a2]
 exact ltL_gridF)
theorem ort_F1 : FinL Q.a1 := finL_mk h.q1 (by
 rw [h.a1]
 exact ltL_gridF)
theorem ort_H (ht : allTB xs 400 = true) : QrH (colX r c xs) c.toNat r.toNat := by
 obtain ⟨e1, e2, s1, s2, s3, s4, s5, s6⟩ := ort_n h
 have tx := tameL_of h.f ht
 refine ⟨s5, s6, fun j _ => length_colL, fun j _ => ort_colF h j, fun j _ k => ?_, h.tb, fun l hl k => ?_⟩
 ·by_cases hk : k < r.toNat
  ·have : (colX r c xs j).getD k 0 = mat c xs k j := getD_colL hk
   rw [this]
   exact tx _
  ·left
   rw [List.getD, List.getElem?_eq_none (by rw [show (colX r c xs j).length = r.toNat from length_colL]; omega)]
   decide +kernel
 ·have hlt := ltL_turn (glsAt (colX r c xs)) r.toNat c.toNat l c.toNat k
  refine ⟨?_, hlt⟩
  by_cases hk : k < r.toNat
  ·have := (ort_F1 h ((k : Int) * c + (l : Int)).toNat)
   rw [ort_q h hk hl] at this
   exact (finB_iff hlt).2 (flip_fin hlt ((finB_iff this.2).1 this.1))
  ·rw [List.getD, List.getElem?_eq_none (by rw [length_turnP]; omega)]
   decide
end
theorem two_2148 : (2 : Int) ^ 2148 = ((PZ * PZ : Nat) : Int) := by
 obtain ⟨N, hN⟩ : ∃ N : Nat, N = 2148 := ⟨_, rfl⟩
 rw [← hN]
 have := pz_n (N := N) (m := 0) (by rw [nz]; omega)
 rw [this, Nat.pow_zero, Nat.mul_one]
theorem xv_e0 (E : Nat) (m : Int) : xv E ⟨m, 0⟩ = m * 2 ^ E := by
 show m * 2 ^ ((0 : Int) + (E : Int)).toNat = _
 rw [Int.zero_add, Int.toNat_natCast]
theorem xv_pow (a b : Nat) : xv (a + b) (powX (-(b : Int))) = 2 ^ a := by
 show (1 : Int) * 2 ^ (-(b : Int) + ((a + b : Nat) : Int)).toNat = _
 rw [Int.one_mul]
 congr 1
 omega
structure UpB (z : Exa) : Prop where
 h0 : Exb z
 ha : Exb z.abs
 hp : Exb (powX (-38))
 hn : Exb (powX (-38)).neg
 sm : ∀ e, e = min z.abs.e (powX (-38)).neg.e → Sml (z.abs.low e).m ∧ Sml ((powX (-38)).neg.low e).m
 yes : ¬ 0 < z.abs.cmp (powX (-38))
theorem upB_mk {z : Exa} (hz : Exl z 2148 24000) (h : (xv 2148 z).natAbs * 2 ^ 38 ≤ PZ * PZ) : UpB z := by
 have ha := exl_abs hz
 have hp : Exl (powX (-38)) 2148 24000 := exl_up (exl_pow (k := 38)) (by clear h; omega) (by clear h; omega)
 have a0 := ha.e0
 have hp0 : -((2148 : Nat) : Int) ≤ (powX (-38)).e := hp.e0
 refine ⟨exl_exb hz (by clear h; omega) (by clear h; omega), exl_exb ha (by clear h; omega) (by clear h; omega), exl_exb hp (by clear h; omega) (by clear h; omega), exl_exb (exl_neg hp) (by clear h; omega) (by clear h; omega), exl_sml2 ha (exl_neg hp) (by clear h; omega), cmp_le (E := 2148 + 38) (by clear h; omega) (by clear h; omega) ?_⟩
 rw [xv_up (E := 2148) a0, xv_abs]
 have e : xv (2148 + 38) (powX (-38)) = 2 ^ 2148 := xv_pow 2148 38
 rw [e, two_2148, show (2 : Int) ^ 38 = ((2 ^ 38 : Nat) : Int) by decide, ← Int.natCast_mul]
 exact Int.ofNat_le.2 h
theorem pw2_pos (b : Nat) : 1 ≤ pw2 b := Nat.two_pow_pos b
theorem exl_w1 : Exl (wholeX (-1)) 2148 10000 := ⟨by show -((2148 : Nat) : Int) ≤ 0; omega, by show (0 : Int) ≤ ((10000 : Nat) : Int); omega, by
 show (1 : Nat) ≤ pw2 10000
 exact pw2_pos _⟩
theorem up_prod {a b : List Nat} {n : Nat} (hn : n ≤ 48) (ha : FinL a) (hb : FinL b) (h : (sumV a b n).natAbs * 2 ^ 38 ≤ PZ * PZ) : UpB (dotX a b n) :=
 upB_mk (exl_up (exl_dot2 ha hb n hn) (by clear h; omega) (by clear h; omega)) (by rw [xv_dotx ha hb n]; exact h)
theorem up_prod1 {a b : List Nat} {n : Nat} (hn : n ≤ 48) (ha : FinL a) (hb : FinL b) (h : (sumV a b n - ((PZ * PZ : Nat) : Int)).natAbs * 2 ^ 38 ≤ PZ * PZ) : Exb (dotX a b n) ∧ Exb (wholeX (-1)) ∧ (∀ e, e = min (dotX a b n).e (wholeX (-1)).e → Sml ((dotX a b n).low e).m ∧ Sml ((wholeX (-1)).low e).m) ∧ UpB ((dotX a b n).add (wholeX (-1))) := by
 have hd := exl_dot2 ha hb n hn
 refine ⟨exl_exb hd (by clear h; omega) (by clear h; omega), exl_exb exl_w1 (by clear h; omega) (by clear h; omega), exl_sml2 hd exl_w1 (by clear h; omega), upB_mk (exl_up (exl_add hd exl_w1) (by clear h; omega) (by clear h; omega)) ?_⟩
 have w0 : -((2148 : Nat) : Int) ≤ (wholeX (-1)).e := exl_w1.e0
 have e : xv 2148 ((dotX a b n).add (wholeX (-1))) = sumV a b n - ((PZ * PZ : Nat) : Int) := by
  rw [xv_add (E := 2148) hd.e0 w0, xv_dotx ha hb n]
  have : xv 2148 (wholeX (-1)) = -1 * 2 ^ 2148 := xv_e0 2148 (-1)
  rw [this, two_2148]
  omega
 rw [e]
 exact h
theorem nat_up {a b m : Nat} (h : (a : Rat) * (m : Rat) ≤ (b : Rat)) : a * m ≤ b := by exact_mod_cast h
theorem up_int {D : Int} (h : Bd (((D : Int) : Rat) * (ep * ep)) (16 * ga)) : D.natAbs * 2 ^ 38 ≤ PZ * PZ := by
 have ee := r_mul ep_nn ep_nn
 have h1 := abs_dn ee h
 have hp := ep_pz
 have hP : (0 : Rat) ≤ ((PZ : Nat) : Rat) := nat_nn _
 have e3 : (((PZ * PZ : Nat) : Nat) : Rat) = ((PZ : Nat) : Rat) * ((PZ : Nat) : Rat) := by push_cast; rfl
 have goal : ((D.natAbs : Nat) : Rat) * (((2 ^ 38 : Nat) : Nat) : Rat) ≤ (((PZ * PZ : Nat) : Nat) : Rat) := by
  rw [e3]
  have e38 : (((2 ^ 38 : Nat) : Nat) : Rat) = 274877906944 := rfl
  rw [e38]
  generalize ((PZ : Nat) : Rat) = P at *
  generalize ((D.natAbs : Nat) : Rat) = d at *
  have h2 := r_mml (r_mul hP hP) h1
  have e1 : P * P * (d * (ep * ep)) = d * ((ep * P) * (ep * P)) := by grind
  rw [e1, hp] at h2
  have hPP := r_mul hP hP
  unfold ga at h2
  grind
 exact nat_up goal
section
variable {r c : Int} {xs : List Nat} {Q : QM} (h : OrtB r c xs Q)
include h
omit h in
theorem ort_len : (∀ j : Nat, (colL r c Q.a1 j).length = r.toNat) ∧ (∀ i : Nat, (rowL c Q.a1 i).length = c.toNat) ∧ (∀ j : Nat, (colL c c Q.a2 j).length = c.toNat) ∧ ∀ j : Nat, (colL r c xs j).length = r.toNat := ⟨fun j => length_colL, fun i => length_rowL, fun j => length_colL, fun j => length_colL⟩
theorem ort_colq {j : Nat} (hj : j < c.toNat) : ∀ k, k < r.toNat → rl (colL r c Q.a1 j) k = sgq ((triTo (colX r c xs) c.toNat j).getD j 0) * uv (colX r c xs) r.toNat c.toNat j c.toNat k := fun k hk => by
 show rv ((colL r c Q.a1 j).getD k 0) = _
 rw [getD_colL hk]
 unfold mat
 rw [ort_q h hk hj]
 have f1 := ort_F1 h ((k : Int) * c + (j : Int)).toNat
 rw [ort_q h hk hj] at f1
 have hlt := ltL_turn (glsAt (colX r c xs)) r.toNat c.toNat j c.toNat k
 exact (flip_rv hlt (flip_fin hlt ((finB_iff f1.2).1 f1.1))).2.2
theorem ort_dotq {i j : Nat} (hi : i < c.toNat) (hj : j < c.toNat) : dt (rl (colL r c Q.a1 i)) (rl (colL r c Q.a1 j)) r.toNat = sgq ((triTo (colX r c xs) c.toNat i).getD i 0) * sgq ((triTo (colX r c xs) c.toNat j).getD j 0) * dt (uv (colX r c xs) r.toNat c.toNat i c.toNat) (uv (colX r c xs) r.toNat c.toNat j c.toNat) r.toNat := by
 generalize hsi : sgq ((triTo (colX r c xs) c.toNat i).getD i 0) = si
 generalize hsj : sgq ((triTo (colX r c xs) c.toNat j).getD j 0) = sj
 have e := dt_lin2 (uv (colX r c xs) r.toNat c.toNat i c.toNat) (fun _ => 0) (uv (colX r c xs) r.toNat c.toNat j c.toNat) (fun _ => 0) si 0 r.toNat
 have e2 : dt (rl (colL r c Q.a1 i)) (rl (colL r c Q.a1 j)) r.toNat = dt (fun k => si * uv (colX r c xs) r.toNat c.toNat i c.toNat k) (fun k => sj * uv (colX r c xs) r.toNat c.toNat j c.toNat k) r.toNat := dt_congr fun k hk => ⟨by rw [ort_colq h hi k hk, hsi], by rw [ort_colq h hj k hk, hsj]⟩
 rw [e2]
 have gen : ∀ m, dt (fun k => si * uv (colX r c xs) r.toNat c.toNat i c.toNat k) (fun k => sj * uv (colX r c xs) r.toNat c.toNat j c.toNat k) m = si * sj * dt (uv (colX r c xs) r.toNat c.toNat i c.toNat) (uv (colX r c xs) r.toNat c.toNat j c.toNat) m := by
  intro m
  induction m with
  | zero => rw [dt, dt]; grind
  | succ m ih => rw [dt, dt, ih]; grind
 exact gen _
theorem ort_upright (ht : allTB xs 400 = true) {i j : Nat} (hi : i < c.toNat) (hj : j < c.toNat) : (sumV (colL r c Q.a1 i) (colL r c Q.a1 j) r.toNat - (if i = j then ((PZ * PZ : Nat) : Int) else 0)).natAbs * 2 ^ 38 ≤ PZ * PZ := by
 have H := ort_H h ht
 have g := qh_up H hi hj
 refine up_int ?_
 have e1 := rv_sum (colL r c Q.a1 i) (colL r c Q.a1 j) r.toNat
 rw [ort_dotq h hi hj] at e1
 have hp := ep_pz
 by_cases hij : i = j
 ·subst hij
  rw [if_pos rfl] at g ⊢
  rw [sgq_sq] at e1
  refine g.eq ?_
  have e3 : (((PZ * PZ : Nat) : Int) : Rat) = ((PZ : Nat) : Rat) * ((PZ : Nat) : Rat) := by push_cast; rfl
  have e4 : (((sumV (colL r c Q.a1 i) (colL r c Q.a1 i) r.toNat - ((PZ * PZ : Nat) : Int) : Int) : Int) : Rat) = ((sumV (colL r c Q.a1 i) (colL r c Q.a1 i) r.toNat : Int) : Rat) - (((PZ * PZ : Nat) : Int) : Rat) := by push_cast; rfl
  rw [e4, e3]
  generalize ((sumV (colL r c Q.a1 i) (colL r c Q.a1 i) r.toNat : Int) : Rat) = S at *
  generalize ((PZ : Nat) : Rat) = P at *
  have e5 : (S - P * P) * (ep * ep) = S * (ep * ep) - (ep * P) * (ep * P) := by grind
  rw [e5, hp, e1]
  grind
 ·rw [if_neg hij] at g ⊢
  rw [Int.sub_zero, e1]
  have sq : ∀ x, Bd (sgq x) 1 := fun x => by unfold sgq; split <;> exact ⟨by grind, by grind⟩
  exact ((((sq ((triTo (colX r c xs) c.toNat i).getD i 0)).mul (sq ((triTo (colX r c xs) c.toNat j).getD j 0))).mul g).up (by grind)).eq (by grind)
theorem ort_prod {i j : Nat} (hi : i < r.toNat) (hj : j < c.toNat) : dt (rl (rowL c Q.a1 i)) (rl (colL c c Q.a2 j)) c.toNat = dt (rl (triTo (colX r c xs) c.toNat j)) (fun l => uv (colX r c xs) r.toNat c.toNat l c.toNat i) c.toNat := by
 have key : ∀ l, l < c.toNat → rl (rowL c Q.a1 i) l * rl (colL c c Q.a2 j) l = rl (triTo (colX r c xs) c.toNat j) l * uv (colX r c xs) r.toNat c.toNat l c.toNat i := fun l hl => by
  have e1 : rl (rowL c Q.a1 i) l = sgq ((triTo (colX r c xs) c.toNat l).getD l 0) * uv (colX r c xs) r.toNat c.toNat l c.toNat i := by
   have := ort_colq h hl i hi
   rw [← this]
   show rv ((rowL c Q.a1 i).getD l 0) = rv ((colL r c Q.a1 l).getD i 0)
   rw [getD_rowL hl, getD_colL hi]
  have e2 : rl (colL c c Q.a2 j) l = sgq ((triTo (colX r c xs) c.toNat l).getD l 0) * rl (triTo (colX r c xs) c.toNat j) l := by
   show rv ((colL c c Q.a2 j).getD l 0) = _
   rw [getD_colL hl]
   unfold mat
   rw [ort_r h hl hj]
   have hF := (ort_T h c.toNat (Nat.le_refl _)).hf j hj
   exact (flip_rv (hF l).2 (finL_r hF l)).2.2
  rw [e1, e2]
  have := sgq_sq ((triTo (colX r c xs) c.toNat l).getD l 0)
  generalize sgq ((triTo (colX r c xs) c.toNat l).getD l 0) = q at *
  generalize uv (colX r c xs) r.toNat c.toNat l c.toNat i = u at *
  generalize rl (triTo (colX r c xs) c.toNat j) l = R at *
  have e : q * u * (q * R) = (q * q) * (R * u) := by grind
  rw [e, this]
  grind
 have gen : ∀ m, m ≤ c.toNat → dt (rl (rowL c Q.a1 i)) (rl (colL c c Q.a2 j)) m = dt (rl (triTo (colX r c xs) c.toNat j)) (fun l => uv (colX r c xs) r.toNat c.toNat l c.toNat i) m := by
  intro m
  induction m with
  | zero => intro _; rfl
  | succ m ih => intro hm; rw [dt, dt, ih (by omega), key m (by omega)]
 exact gen _ (Nat.le_refl _)
theorem ort_back (ht : allTB xs 400 = true) {i j : Nat} (hi : i < r.toNat) (hj : j < c.toNat) :
  (sumV (rowL c Q.a1 i) (colL c c Q.a2 j) c.toNat - sval (xs.getD ((i : Int) * c + (j : Int)).toNat 0) * ((PZ : Nat) : Int)) * ((sumV (rowL c Q.a1 i) (colL c c Q.a2 j) c.toNat - sval (xs.getD ((i : Int) * c + (j : Int)).toNat 0) * ((PZ : Nat) : Int)) * 2 ^ 76) ≤ sumV (colL r c xs j) (colL r c xs j) r.toNat * ((PZ * PZ : Nat) : Int) := by
 have H := ort_H h ht
 obtain ⟨N, hN⟩ : ∃ N : Nat → Rat, ∀ k, k < c.toNat → RowN (rl (colX r c xs k)) r.toNat (N k) ∧ N k * N k ≤ 105 / 100 * dt (rl (colX r c xs k)) (rl (colX r c xs k)) r.toNat := by
  have : ∀ k, ∃ M : Rat, k < c.toNat → RowN (rl (colX r c xs k)) r.toNat M ∧ M * M ≤ 105 / 100 * dt (rl (colX r c xs k)) (rl (colX r c xs k)) r.toNat := fun k => by
   by_cases hk : k < c.toNat
   ·obtain ⟨M, hM⟩ := row_n (xs := colX r c xs k) r.toNat (H.hT k hk)
    exact ⟨M, fun _ => hM⟩
   ·exact ⟨0, fun h => absurd h hk⟩
  exact ⟨fun k => (this k).choose, fun k hk => (this k).choose_spec hk⟩
 have g := (qh_back H (N := N) (fun k hk => (hN k hk).1) hj c.toNat (Nat.le_refl _)).nth hi
 have n0 := (hN j hj).1.h0
 have n1 := (hN j hj).2
 have n12 : ((c.toNat : Nat) : Rat) ≤ 12 := by exact_mod_cast (show c.toNat ≤ 12 by have := ort_n h; omega)
 have nn0 := nat_nn c.toNat
 have ex : rl (triTo (colX r c xs) (c.toNat - c.toNat) j) i = rv (xs.getD ((i : Int) * c + (j : Int)).toNat 0) := by
  rw [Nat.sub_self]
  show rv ((colL r c xs j).getD i 0) = _
  rw [getD_colL hi]
  rfl
 have g1 : Bd (dt (rl (rowL c Q.a1 i)) (rl (colL c c Q.a2 j)) c.toNat - rv (xs.getD ((i : Int) * c + (j : Int)).toNat 0)) (12 * fq * N j) := by
  rw [ort_prod h hi hj, ← ex]
  refine g.up ?_
  have := r_mm n12 (Rat.le_refl (a := fq * N j)) (by grind) (r_mul (by unfold fq; grind) n0)
  grind
 refine gram_int ?_
 have hp := ep_pz
 have e1 : (((sumV (rowL c Q.a1 i) (colL c c Q.a2 j) c.toNat - sval (xs.getD ((i : Int) * c + (j : Int)).toNat 0) * ((PZ : Nat) : Int) : Int) : Int) : Rat) * (ep * ep) = dt (rl (rowL c Q.a1 i)) (rl (colL c c Q.a2 j)) c.toNat - rv (xs.getD ((i : Int) * c + (j : Int)).toNat 0) := by
  rw [← rv_sum]
  unfold rv
  push_cast
  generalize ((PZ : Nat) : Rat) = P at *
  generalize ((sumV (rowL c Q.a1 i) (colL c c Q.a2 j) c.toNat : Int) : Rat) = S at *
  generalize ((sval (xs.getD ((i : Int) * c + (j : Int)).toNat 0) : Int) : Rat) = y at *
  have e : (S - y * P) * (ep * ep) = S * (ep * ep) - y * ep * (ep * P) := by grind
  rw [e, hp]
  grind
 have e2 : (((PZ * PZ : Nat) : Int) : Rat) * (ep * ep) = 1 := by
  have e3 : (((PZ * PZ : Nat) : Int) : Rat) = ((PZ : Nat) : Rat) * ((PZ : Nat) : Rat) := by push_cast; rfl
  rw [e3]
  generalize ((PZ : Nat) : Rat) = P at *
  have e5 : P * P * (ep * ep) = (ep * P) * (ep * P) := by grind
  rw [e5, hp]
  grind
 rw [e1, e2, rv_sum]
 have h3 := (g1.mul g1).2
 have hA := dt_nn (rl (colL r c xs j)) r.toNat
 have n2 : N j * N j ≤ 105 / 100 * dt (rl (colL r c xs j)) (rl (colL r c xs j)) r.toNat := n1
 generalize dt (rl (colL r c xs j)) (rl (colL r c xs j)) r.toNat = A at *
 generalize dt (rl (rowL c Q.a1 i)) (rl (colL c c Q.a2 j)) c.toNat - rv (xs.getD ((i : Int) * c + (j : Int)).toNat 0) = D at *
 have e6 : 12 * fq * N j * (12 * fq * N j) = 144 * fq * fq * (N j * N j) := by grind
 rw [e6] at h3
 clear e1 e2 g g1 ex hp
 generalize N j * N j = y at *
 unfold fq at *
 grind
structure OrtW (a b w : List Nat) (x : Nat) : Prop where
 d1 : DotB a b
 d2 : DotB w w
 e1 : Exb (dotX a b a.length)
 ex : Exb (ofX x)
 en : Exb (ofX x).neg
 sm : ∀ e, e = min (dotX a b a.length).e (ofX x).neg.e → Sml ((dotX a b a.length).low e).m ∧ Sml ((ofX x).neg.low e).m
 w : WinB ((dotX a b a.length).add (ofX x).neg) (dotX w w w.length)
theorem ort_w (ht : allTB xs 400 = true) {i j : Nat} (hi : i < r.toNat) (hj : j < c.toNat) : OrtW (rowL c Q.a1 i) (colL c c Q.a2 j) (colL r c xs j) (xs.getD ((i : Int) * c + (j : Int)).toNat 0) := by
 obtain ⟨_, _, _, _, _, _, c12, r12⟩ := ort_n h
 obtain ⟨_, la, lb, lw⟩ := ort_len (r := r) (c := c) (xs := xs) (Q := Q)
 have fa : FinL (rowL c Q.a1 i) := finL_row (ort_F1 h)
 have fb : FinL (colL c c Q.a2 j) := finL_col (ort_F2 h)
 have fw : FinL (colL r c xs j) := finL_col h.f
 have fx := h.f ((i : Int) * c + (j : Int)).toNat
 have hla := la i
 have hlb := lb j
 have hlw := lw j
 have ed := exl_dot2 fa fb (rowL c Q.a1 i).length (by omega)
 have ew := exl_dot2 fw fw (colL r c xs j).length (by omega)
 have ex := exl_ofX fx.1 fx.2
 have exn : Exl (ofX (xs.getD ((i : Int) * c + (j : Int)).toNat 0)).neg 2148 10000 := exl_up (exl_neg ex) (by omega) (by omega)
 have x0 := ex.e0
 have xn0 := exn.e0
 have d0 := ed.e0
 have w0 := ew.e0
 have key := ort_back h ht hi hj
 rw [← hla, ← hlw] at key
 have zd := exl_add ed exn
 have z0 := zd.e0
 have two : (2 : Int) ^ 1074 = ((PZ : Nat) : Int) := by
  obtain ⟨M, hM⟩ : ∃ M : Nat, M = 1074 := ⟨_, rfl⟩
  rw [← hM]
  have := pz_m (N := M) (m := 0) (by rw [nz]; omega)
  rw [this, Nat.pow_zero, Nat.mul_one]
 have vz : xv 2148 ((dotX (rowL c Q.a1 i) (colL c c Q.a2 j) (rowL c Q.a1 i).length).add (ofX (xs.getD ((i : Int) * c + (j : Int)).toNat 0)).neg) = sumV (rowL c Q.a1 i) (colL c c Q.a2 j) (rowL c Q.a1 i).length - sval (xs.getD ((i : Int) * c + (j : Int)).toNat 0) * ((PZ : Nat) : Int) := by
  rw [xv_add (E := 2148) d0 xn0, xv_neg, xv_dotx fa fb, show (2148 : Nat) = 1074 + 1074 from rfl, xv_up (E := 1074) x0, xv_of, two]
  exact (Int.sub_eq_add_neg).symm
 refine ⟨dotB_of (by omega) (by omega) (fun k _ => fa k) (fun k _ => fb k), dotB_of (Nat.le_refl _) (by omega) (fun k _ => fw k) (fun k _ => fw k), exl_exb ed (by clear key; omega) (by clear key; omega), exl_exb ex (by clear key; omega) (by clear key; omega), exl_exb exn (by clear key; omega) (by clear key; omega), exl_sml2 ed exn (by clear key; omega), winB_mk (E := 4372) (exl_up zd (by clear key; omega) (by clear key; omega)) (exl_up ew (by clear key; omega) (by clear key; omega)) (by clear key; omega) ?_⟩
 rw [show (4372 : Nat) = 2148 + (2148 + 76) from rfl, xv_mul (E := 2148) (F := 2148 + 76) z0 (by clear key; omega), xv_up (E := 2148) z0, vz, show (2148 + (2148 + 76) : Nat) = (2148 + 2148) + 76 from rfl, xv_mul (E := 2148 + 2148) (F := 76) (by clear key; omega) (by show -((76 : Nat) : Int) ≤ -76; clear key; omega), xv_p76, Int.mul_one, xv_up (E := 2148) w0, xv_dotx fw fw, two_2148]
 exact key
theorem ort_w2 (ht : allTB xs 400 = true) {i j : Nat} (hi : (i : Int) < r) (hj : (j : Int) < c) : OrtW (rowL Q.c1 Q.a1 i) (colL Q.r2 Q.c2 Q.a2 j) (colL r c xs j) (xs.getD ((i : Int) * c + (j : Int)).toNat 0) := by
 rw [h.c1, h.r2, h.c2]
 exact ort_w h ht (by omega) (by omega)
theorem ort_sq (j : Nat) : DotB (colL r c xs j) (colL r c xs j) := by
 have hlw := (ort_len (r := r) (c := c) (xs := xs) (Q := Q)).2.2.2 j
 have := ort_n h
 exact dotB_of (Nat.le_refl _) (by omega) (fun k _ => finL_col h.f k) (fun k _ => finL_col h.f k)
structure OrtU (a b : List Nat) (p : Prop) : Prop where
 d : DotB a b
 no : ¬ p → UpB (dotX a b a.length)
 yes : p → Exb (dotX a b a.length) ∧ Exb (wholeX (-1)) ∧ (∀ e, e = min (dotX a b a.length).e (wholeX (-1)).e → Sml ((dotX a b a.length).low e).m ∧ Sml ((wholeX (-1)).low e).m) ∧ UpB ((dotX a b a.length).add (wholeX (-1)))
theorem ort_u (ht : allTB xs 400 = true) {i j : Nat} (hi : (i : Int) < c) (hj : (j : Int) < c) : OrtU (colL Q.r1 Q.c1 Q.a1 i) (colL Q.r1 Q.c1 Q.a1 j) (i = j) := by
 rw [h.r1, h.c1]
 obtain ⟨_, _, _, _, _, _, c12, r12⟩ := ort_n h
 have hl := (ort_len (r := r) (c := c) (xs := xs) (Q := Q)).1
 have hli := hl i
 have hlj := hl j
 have fi : ∀ i : Nat, FinL (colL r c Q.a1 i) := fun i => finL_col (ort_F1 h)
 have key := ort_upright h ht (i := i) (j := j) (by omega) (by omega)
 rw [← hli] at key
 refine ⟨dotB_of (by omega) (by omega) (fun k _ => fi i k) (fun k _ => fi j k), fun hn => ?_, fun hy => ?_⟩
 ·rw [if_neg hn, Int.sub_zero] at key
  exact up_prod (by clear key; omega) (fi i) (fi j) key
 ·rw [if_pos hy] at key
  exact up_prod1 (by clear key; omega) (fi i) (fi j) key
theorem ort_g1 : Good Q.r1 Q.c1 Q.a1 := by
 rw [h.r1, h.c1]
 exact ⟨h.g.1, h.l1⟩
theorem ort_g2 : Good Q.r2 Q.c2 Q.a2 := by
 obtain ⟨_, _, s1, s2, s3, s4, _, _⟩ := ort_n h
 rw [h.r2, h.c2]
 exact ⟨⟨s3, s4, s3, s4⟩, h.l2⟩
theorem ort_no (g : (((((cmpB .neq Q.r1 r || cmpB .neq Q.c1 c) || cmpB .neq Q.r2 c) || cmpB .neq Q.c2 c) || cmpB .neq (Q.a1.length : Int) (xs.length : Int)) || cmpB .neq (Q.a2.length : Int) (c * c)) = true) : False := by
 rw [h.r1, h.c1, h.r2, h.c2, h.l1, h.l2, h.g.2] at g
 simp [cmpB] at g
theorem ort_up2 {i j : Nat} (hji : j < i) (hi : (i : Int) < c) : Q.a2.getD ((i : Int) * Q.c2 + (j : Int)).toNat 0 = 0 := by
 rw [h.c2]
 exact ort_up h hji (by omega)
theorem ort_dia2 {i : Nat} (hi : (i : Int) < c) : fcmp .geq (Q.a2.getD ((i : Int) * Q.c2 + (i : Int)).toNat 0) 0 = true := by
 rw [h.c2]
 exact ort_dia h (by omega)
end
theorem qrM_nil {r c : Int} {xs : List Nat} (h : cmpB .neq (qrM r c xs).e 0 = true) : (qrM r c xs).a1 = [] ∧ (qrM r c xs).a2 = [] := by
 have he : (qrM r c xs).e ≠ 0 := by simpa [cmpB] using h
 unfold qrM at he ⊢
 split
 ·exact ⟨rfl, rfl⟩
 ·rename_i h1
  rw [if_neg h1] at he
  split
  ·exact ⟨rfl, rfl⟩
  ·rename_i h2
   rw [if_neg h2] at he
   split
   ·exact ⟨rfl, rfl⟩
   ·rename_i h3
    rw [if_neg h3] at he
    unfold endsQ at he ⊢
    split
    ·exact ⟨rfl, rfl⟩
    ·rename_i h4
     rw [if_neg h4] at he
     exact absurd rfl he
end Go.Bn
