/-
  Plain facts on kinds of matrices, traces and norms.
-/
import Derived.Test.YtcnffgbncbadbaaMake
import Derived.Test.YtcnffgbncbadbaaOpx
set_option linter.unusedVariables false
set_option linter.unusedSimpArgs false
namespace Go.Bn
open Go
def lowB (r c : Int) (xs : List Nat) : Bool := decide (chk r c xs = 0) && decide (r = c) && decide (∀ i, i < r.toNat → ∀ j, j < r.toNat → i < j → mat c xs (i : Nat) (j : Nat) = 0)
/-- All above the diagonal up to row i, and in row i below column j. -/
def LowTo (c : Int) (xs : List Nat) (n i j : Nat) : Prop := ∀ a b : Nat, a < b → b < n → (a < i ∨ (a = i ∧ b < j)) → mat c xs a b = 0
theorem low_no1 {r c : Int} {xs : List Nat} (h : ¬ chk r c xs = 0 ∨ ¬ r = c) : lowB r c xs = false := by
  unfold lowB
  rcases h with h | h <;> simp [h]
theorem low_no2 {r c : Int} {xs : List Nat} {i j : Nat} (h1 : i < j) (h2 : j < r.toNat) (h : ¬ mat c xs (i : Nat) (j : Nat) = 0) : lowB r c xs = false := by
  cases hs : lowB r c xs
  · rfl
  · unfold lowB at hs
    rw [Bool.and_eq_true, decide_eq_true_eq] at hs
    exact (h (hs.2 i (by omega) j h2 h1)).elim
theorem lowTo_zero {c : Int} {xs : List Nat} {n : Nat} : LowTo c xs n 0 0 := fun a b h1 h2 h3 => by omega
theorem lowTo_start {c : Int} {xs : List Nat} {n i : Nat} (h : LowTo c xs n i 0) : LowTo c xs n i (i + 1) := fun a b h1 h2 h3 => h a b h1 h2 (by omega)
theorem lowTo_step {c : Int} {xs : List Nat} {n i j : Nat} (h : LowTo c xs n i j) (he : mat c xs (i : Nat) (j : Nat) = 0) : LowTo c xs n i (j + 1) := fun a b h1 h2 h3 => by
  by_cases hab : a = i ∧ b = j
  · rw [hab.1, hab.2]; exact he
  · exact h a b h1 h2 (by omega)
theorem lowTo_row {c : Int} {xs : List Nat} {n i q : Nat} (hq : n ≤ q) (h : LowTo c xs n i q) : LowTo c xs n (i + 1) 0 := fun a b h1 h2 h3 => h a b h1 h2 (by omega)
theorem low_yes {r c : Int} {xs : List Nat} {k : Nat} (h1 : chk r c xs = 0) (h2 : r = c) (hk : r.toNat ≤ k) (h : LowTo c xs r.toNat k 0) : lowB r c xs = true := by
  unfold lowB
  rw [decide_eq_true h1, decide_eq_true h2]
  simp only [Bool.true_and, decide_eq_true_eq]
  exact fun i hi j hj hij => h i j hij hj (by omega)
/-! ## Traces -/
def trTo (c : Int) (xs : List Nat) : Nat → Nat
  | 0 => 0
  | k + 1 => fadd (trTo c xs k) (mat c xs k k)
theorem trTo_lt {c : Int} {xs : List Nat} : ∀ {k : Nat}, trTo c xs k < 2 ^ 64
  | 0 => by show 0 < _; decide
  | k + 1 => fop_lt (op := .add)
def traceR (r c : Int) (xs : List Nat) : NR := orN (sqE r c xs) (numR (trTo c xs r.toNat))
def rtraceR (r c : Int) (xs : List Nat) : NR := if r ≠ c then badN 3 else if finB (trTo c xs r.toNat) = false then badN 5 else ⟨trTo c xs r.toNat, 0⟩
theorem trace_nan {r c : Int} {xs : List Nat} : nanB (traceR r c xs).a = false := by
  unfold traceR orN
  split
  · exact num_nan trTo_lt
  · show nanB 0 = false; decide +kernel
theorem trace_y {r c : Int} {xs : List Nat} (h : chk r c xs = 0) : numB (traceR r c xs) (rtraceR r c xs) = true := by
  have e : traceR r c xs = rtraceR r c xs := by
    unfold traceR rtraceR sqE
    by_cases hrc : r = c
    · rw [if_neg (by simpa using hrc), h, show fstE [0, whenE (r != c) 3] = 0 by simp [fstE, whenE, hrc]]
      show numR _ = _
      rw [numR_fin trTo_lt]
      cases finB (trTo c xs r.toNat) <;> rfl
    · rw [if_pos hrc, h, show fstE [0, whenE (r != c) 3] = 3 by simp [fstE, whenE, hrc]]
      rfl
  rw [e]
  refine num_same ?_ rfl (fun _ => rfl)
  unfold rtraceR
  split
  · exact fun _ => rfl
  · split
    · exact fun _ => rfl
    · exact fun h => (h rfl).elim
theorem trace_n {r c : Int} {xs : List Nat} {z : Nat} (h : chk r c xs ≠ 0) : numB (traceR r c xs) ⟨z, chk r c xs⟩ = true := by
  have e : traceR r c xs = badN (chk r c xs) := by
    unfold traceR sqE
    have : fstE [chk r c xs, whenE (r != c) 3] = chk r c xs := by simp [fstE, h]
    rw [this]
    exact if_neg h
  rw [e]
  exact num_same (fun _ => rfl) rfl (fun h0 => (h h0).elim)
/-! ## Norms -/
def amtTo (l : List Nat) : Nat → Nat
  | 0 => 0
  | k + 1 => fadd (amtTo l k) (fabs (l.getD k 0))
def amtL (l : List Nat) : Nat := amtTo l l.length
def oneTo (r c : Int) (xs : List Nat) : Nat → Nat
  | 0 => 0
  | k + 1 => fmax (oneTo r c xs k) (amtL (colL r c xs k))
def mostTo (c : Int) (xs : List Nat) : Nat → Nat
  | 0 => 0
  | k + 1 => fmax (mostTo c xs k) (amtL (rowL c xs k))
def grtTo (xs : List Nat) : Nat → Nat
  | 0 => 0
  | k + 1 => fmax (grtTo xs k) (fabs (xs.getD k 0))
structure QR where
  a : Nat
  b : Nat
  g : Nat
  e : Int
def resQ (x : QR) : SP := tupp [flp x.a, flp x.b, flp x.g, isv (.int .i64 x.e)]
def badQ (e : Int) : QR := ⟨0, 0, 0, e⟩
theorem ret_Q {Γ : Facts} {a b g : Nat} {e : Int} {x : QR} (h : (⟨a, b, g, e⟩ : QR) = x) : Sb Γ (tupp [flp a, flp b, flp g, isv (.int .i64 e)]) (resQ x) := by subst h; exact sb_refl
def rnormR (r c : Int) (xs : List Nat) : QR := if [oneTo r c xs c.toNat, mostTo c xs r.toNat].all finB = false then badQ 5 else ⟨oneTo r c xs c.toNat, mostTo c xs r.toNat, grtTo xs xs.length, 0⟩
def normR (r c : Int) (xs : List Nat) : QR := if chk r c xs = 0 then rnormR r c xs else badQ (chk r c xs)
theorem grt_nan {xs : List Nat} (h : ∀ k, k < xs.length → nanB (xs.getD k 0) = false) : ∀ k, k ≤ xs.length → nanB (grtTo xs k) = false
  | 0, _ => by show nanB 0 = false; decide +kernel
  | k + 1, hk => fmax_nan (grt_nan h k (by omega)) (fabs_nan (h k (by omega)))
theorem norm_nan {r c : Int} {xs : List Nat} : nanB (normR r c xs).a = false ∧ nanB (normR r c xs).b = false ∧ nanB (normR r c xs).g = false := by
  have h0 : nanB 0 = false := by decide +kernel
  unfold normR
  by_cases hc : chk r c xs = 0
  · rw [if_pos hc]
    unfold rnormR
    cases hf : [oneTo r c xs c.toNat, mostTo c xs r.toNat].all finB
    · exact ⟨h0, h0, h0⟩
    · rw [if_neg (by decide)]
      simp at hf
      refine ⟨fin_not_nan hf.1, fin_not_nan hf.2, grt_nan (fun k hk => ?_) _ (Nat.le_refl _)⟩
      have := (chk_zero.1 hc).2
      rw [List.all_eq_true] at this
      exact fin_not_nan (this _ (mem_getD 0 hk))
  · rw [if_neg hc]
    exact ⟨h0, h0, h0⟩
theorem norm_fin {x y : QR} (h : x = y) : (((cmpB .eql x.e y.e && decide (x.a = y.a)) && decide (x.b = y.b)) && decide (x.g = y.g)) = true := by
  subst h; simp [cmpB]
theorem norm_y {r c : Int} {xs : List Nat} (h : chk r c xs = 0) : normR r c xs = rnormR r c xs := if_pos h
theorem norm_n {r c : Int} {xs : List Nat} (h : ¬ chk r c xs = 0) : normR r c xs = ⟨0, 0, 0, chk r c xs⟩ := if_neg h
/-! ## MatrixKinds -/
theorem kinds_1 {a b d e : Bool} (h : ((((a != a) || (b != b)) || (d != d)) || !e || !true) = true) (he : e = true) : False := by subst he; simp at h
theorem kinds_m {r c : Int} {xs : List Nat} (h : fstE [chk r c xs, whenE (cmpB .neq r c) 3] = 0) : toldB (mirrorR r c xs) ⟨r, r, mirR r (mat c xs), fstE [chk r c xs, whenE (cmpB .neq r c) 3]⟩ = true := by
  have e : mirrorR r c xs = ⟨r, r, mirR r (mat c xs), 0⟩ := if_pos h
  rw [e, h]
  exact told_same fair_ok rfl fun _ => rfl
theorem kinds_m' {r c p q : Int} {xs zs : List Nat} (h : fstE [chk r c xs, whenE (cmpB .neq r c) 3] ≠ 0) : toldB (mirrorR r c xs) ⟨p, q, zs, fstE [chk r c xs, whenE (cmpB .neq r c) 3]⟩ = true := told_bad (if_neg h) h
def rmeanR (r c : Int) (xs : List Nat) : MR := if r ≠ c then badM 3 else toldR r r (mirR r (meanF r c xs))
theorem kinds_n {r c : Int} {xs : List Nat} (h : chk r c xs = 0) : toldB (meanR r c xs) (rmeanR r c xs) = true := by
  have e : meanR r c xs = rmeanR r c xs := by
    unfold meanR rmeanR sqE
    by_cases hrc : r = c
    · rw [if_neg (by simpa using hrc), h, show fstE [0, whenE (r != c) 3] = 0 by simp [fstE, whenE, hrc]]
      rfl
    · rw [if_pos hrc, h, show fstE [0, whenE (r != c) 3] = 3 by simp [fstE, whenE, hrc]]
      rfl
  rw [← e]
  exact told_same fair_mean rfl fun _ => rfl
theorem kinds_n' {r c p q : Int} {xs zs : List Nat} (h : chk r c xs ≠ 0) : toldB (meanR r c xs) ⟨p, q, zs, chk r c xs⟩ = true := by
  refine told_bad ?_ h
  show meanR r c xs = badM (chk r c xs)
  unfold meanR sqE
  have : fstE [chk r c xs, whenE (r != c) 3] = chk r c xs := by simp [fstE, h]
  rw [this]
  exact if_neg h
/-! ## The mean, as the reference fills it: the diagonal ahead of its row -/
def MeaD (i j a b : Int) : Prop := b ≤ a ∧ (a < i ∨ (a = i ∧ (b = a ∨ b < j)))
theorem mea_start {n : Int} {f : Int → Int → Nat} {i : Nat} {xs : List Nat} {v : Nat} (hs : Siz n n) (hi : (i : Int) < n) (h : PutI n n (lowF 1 f) (LowD 1 i (0 : Nat)) xs) (hv : v = f i i) : PutI n n (lowF 1 f) (MeaD i (0 : Nat)) (xs.set ((i : Int) * n + (i : Int)).toNat v) := by
  refine putI_set hs h ⟨by omega, hi, by omega, hi⟩ (by unfold lowF; rw [if_pos (by omega)]; exact hv) fun a b hab => ?_
  obtain ⟨h1, h2, h3, h4⟩ := hab
  unfold MeaD LowD; omega
theorem mea_step {n : Int} {f : Int → Int → Nat} {i j : Nat} {xs : List Nat} {v : Nat} (hs : Siz n n) (hi : (i : Int) < n) (hj : j < i) (h : PutI n n (lowF 1 f) (MeaD i j) xs) (hv : v = f i j) : PutI n n (lowF 1 f) (MeaD i ((j + 1 : Nat) : Int)) (xs.set ((i : Int) * n + (j : Int)).toNat v) := by
  refine putI_set hs h ⟨by omega, hi, by omega, by omega⟩ (by unfold lowF; rw [if_pos (by omega)]; exact hv) fun a b hab => ?_
  unfold MeaD; omega
theorem mea_end {n : Int} {f : Int → Int → Nat} {i q : Nat} {xs : List Nat} (hq : q = i) (h : PutI n n (lowF 1 f) (MeaD i q) xs) : PutI n n (lowF 1 f) (LowD 1 ((i + 1 : Nat) : Int) ((0 : Nat) : Int)) xs := by
  refine putI_cast h fun a b hab => ?_
  obtain ⟨h1, h2, h3, h4⟩ := hab
  unfold MeaD LowD; omega
theorem meanF_d {r c : Int} {xs : List Nat} {i : Int} : mat c xs i i = meanF r c xs i i := by unfold meanF; rw [if_pos rfl]
theorem meanF_l {r c : Int} {xs : List Nat} {i j : Int} (h : i ≠ j) : fdiv (fadd (mat c xs i j) (mat c xs j i)) TWO = meanF r c xs i j := by unfold meanF; rw [if_neg h]
end Go.Bn
