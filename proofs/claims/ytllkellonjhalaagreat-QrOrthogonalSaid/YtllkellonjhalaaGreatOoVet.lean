/-
 Lists of fractions: dot products, lengths not above a bound, mirrors; how far a mirror that is rounded lies from the exact one.
-/
import Derived.Test.YtllkellonjhalaaGreatOoKa
set_option linter.unusedVariables false
set_option linter.unusedSimpArgs false
namespace Go.Bn
open Go
abbrev Rvc := Nat → Rat
def Bd (x c : Rat) : Prop := -c ≤ x ∧ x ≤ c
theorem r_mul {a b : Rat} (h : 0 ≤ a) (g : 0 ≤ b) : 0 ≤ a * b := Rat.mul_nonneg h g
theorem r_sq (a : Rat) : 0 ≤ a * a := by
 rcases Rat.le_total (a := 0) (b := a) with h | h
 ·exact r_mul h h
 ·have := r_mul (a := -a) (b := -a) (by grind) (by grind)
  grind
theorem r_mml {a b c : Rat} (hc : 0 ≤ c) (h : a ≤ b) : c * a ≤ c * b := by
 have := r_mul hc (b := b - a) (by grind)
 grind
theorem r_mm {a b c d : Rat} (h : a ≤ b) (g : c ≤ d) (hb : 0 ≤ b) (hc : 0 ≤ c) : a * c ≤ b * d := by
 have h1 := r_mul (a := b - a) (b := c) (by grind) hc
 have h2 := r_mul (a := b) (b := d - c) hb (by grind)
 grind
theorem Bd.nn {x c : Rat} (h : Bd x c) : 0 ≤ c := by obtain ⟨h1, h2⟩ := h; grind
theorem Bd.up {x c d : Rat} (h : Bd x c) (g : c ≤ d) : Bd x d := by obtain ⟨h1, h2⟩ := h; exact ⟨by grind, by grind⟩
theorem Bd.add {x y c d : Rat} (h : Bd x c) (g : Bd y d) : Bd (x + y) (c + d) := by obtain ⟨h1, h2⟩ := h; obtain ⟨g1, g2⟩ := g; exact ⟨by grind, by grind⟩
theorem Bd.sub {x y c d : Rat} (h : Bd x c) (g : Bd y d) : Bd (x - y) (c + d) := by obtain ⟨h1, h2⟩ := h; obtain ⟨g1, g2⟩ := g; exact ⟨by grind, by grind⟩
theorem Bd.neg {x c : Rat} (h : Bd x c) : Bd (-x) c := by obtain ⟨h1, h2⟩ := h; exact ⟨by grind, by grind⟩
theorem Bd.eq {x y c : Rat} (h : Bd x c) (e : y = x) : Bd y c := e ▸ h
theorem Bd.mul {x y c d : Rat} (h : Bd x c) (g : Bd y d) : Bd (x * y) (c * d) := by
 have hc := h.nn
 have hd := g.nn
 obtain ⟨h1, h2⟩ := h; obtain ⟨g1, g2⟩ := g
 have a1 := r_mul (a := c - x) (b := d - y) (by grind) (by grind)
 have a2 := r_mul (a := c + x) (b := d + y) (by grind) (by grind)
 have a3 := r_mul (a := c - x) (b := d + y) (by grind) (by grind)
 have a4 := r_mul (a := c + x) (b := d - y) (by grind) (by grind)
 exact ⟨by grind, by grind⟩
theorem bd_self {c : Rat} (h : 0 ≤ c) : Bd c c := ⟨by grind, by grind⟩
theorem bd_zero {c : Rat} (h : 0 ≤ c) : Bd 0 c := ⟨by grind, by grind⟩
theorem bd_sq {x c : Rat} (hc : 0 ≤ c) (h : x * x ≤ c * c) : Bd x c := by
 constructor
 ·rcases Rat.le_total (a := -c) (b := x) with g | g
  ·exact g
  ·have := r_mul (a := -c - x) (b := -c - x) (by grind) (by grind)
   have := r_mul (a := -c - x) (b := c) (by grind) (by grind)
   rcases Rat.le_total (a := -c - x) (b := 0) with k | k
   ·grind
   ·have h3 : (-c - x) * (-c - x) ≤ 0 := by grind
    have h4 : -c - x = 0 := by
     have : (-c - x) * (-c - x) = 0 := by grind
     rcases Rat.mul_eq_zero.1 this with q | q <;> exact q
    grind
 ·rcases Rat.le_total (a := x) (b := c) with g | g
  ·exact g
  ·have := r_mul (a := x - c) (b := x - c) (by grind) (by grind)
   have := r_mul (a := x - c) (b := c) (by grind) (by grind)
   have h3 : (x - c) * (x - c) ≤ 0 := by grind
   have h4 : x - c = 0 := by
    have : (x - c) * (x - c) = 0 := by grind
    rcases Rat.mul_eq_zero.1 this with q | q <;> exact q
   grind
def ra (x : Rat) : Rat := if x ≤ 0 then -x else x
theorem ra_nn (x : Rat) : 0 ≤ ra x := by unfold ra; split <;> grind
theorem ra_bd (x : Rat) : Bd x (ra x) := by unfold ra; split <;> exact ⟨by grind, by grind⟩
theorem ra_sq (x : Rat) : ra x * ra x = x * x := by unfold ra; split <;> grind
theorem Bd.ra {x c : Rat} (h : Bd x c) : ra x ≤ c := by obtain ⟨h1, h2⟩ := h; unfold Go.Bn.ra; split <;> grind
def dt (a b : Rvc) : Nat → Rat
 | 0 => 0
 | n + 1 => dt a b n + a n * b n
theorem dt_comm (a b : Rvc) : ∀ n, dt a b n = dt b a n
 | 0 => rfl
 | n + 1 => by rw [dt, dt, dt_comm a b n]; grind
theorem dt_congr {a b c d : Rvc} : ∀ {n}, (∀ k, k < n → a k = c k ∧ b k = d k) → dt a b n = dt c d n
 | 0, _ => rfl
 | n + 1, h => by rw [dt, dt, dt_congr (n := n) fun k hk => h k (by omega), (h n (by omega)).1, (h n (by omega)).2]
theorem dt_nn (a : Rvc) : ∀ n, 0 ≤ dt a a n
 | 0 => by rw [dt]; grind
 | n + 1 => by rw [dt]; have := dt_nn a n; have := r_sq (a n); grind
theorem dt_lin (a b c : Rvc) (s t : Rat) : ∀ n, dt (fun k => s * a k + t * b k) c n = s * dt a c n + t * dt b c n
 | 0 => by rw [dt, dt, dt]; grind
 | n + 1 => by rw [dt, dt, dt, dt_lin a b c s t n]; grind
theorem dt_lin2 (a b c d : Rvc) (s t : Rat) (n : Nat) : dt (fun k => s * a k + t * b k) (fun k => s * c k + t * d k) n = s * s * dt a c n + s * t * dt a d n + t * s * dt b c n + t * t * dt b d n := by
 rw [dt_lin, dt_comm a, dt_comm b, dt_lin, dt_lin, dt_comm c a, dt_comm d a, dt_comm c b, dt_comm d b]
 grind
theorem dt_0 {a b : Rvc} {n : Nat} (h : ∀ k, k < n → a k = 0) : dt a b n = 0 := by
 have e := dt_congr (a := a) (b := b) (c := fun _ => 0) (d := b) (n := n) fun k hk => ⟨h k hk, rfl⟩
 rw [e]
 clear e h
 induction n with
 | zero => rfl
 | succ n ih => rw [dt, ih]; grind
theorem dt_at {a : Rvc} : ∀ {n k : Nat}, k < n → a k * a k ≤ dt a a n
 | 0, k, h => absurd h (Nat.not_lt_zero k)
 | n + 1, k, h => by
  rw [dt]
  have h1 := dt_nn a n
  have h2 := r_sq (a n)
  by_cases e : k = n
  ·subst e; grind
  ·have := dt_at (a := a) (n := n) (k := k) (by omega); grind
theorem dt_nil {a : Rvc} {n : Nat} (h : dt a a n ≤ 0) : ∀ k, k < n → a k = 0 := fun k hk => by
 have h1 := dt_at (a := a) hk
 have h2 := r_sq (a k)
 have h3 : a k * a k = 0 := by grind
 rcases Rat.mul_eq_zero.1 h3 with q | q <;> exact q
theorem dt_cs (a b : Rvc) (n : Nat) : dt a b n * dt a b n ≤ dt a a n * dt b b n := by
 by_cases hB : dt b b n ≤ 0
 ·have h := dt_nil hB
  have e : dt a b n = 0 := by rw [dt_comm]; exact dt_0 h
  have e2 : dt b b n = 0 := dt_0 h
  rw [e, e2]; grind
 ·have h := dt_nn (fun k => dt b b n * a k + (-dt a b n) * b k) n
  rw [dt_lin2, dt_comm b a] at h
  have hp : 0 < dt b b n := by grind
  generalize dt a b n = D at *
  generalize dt a a n = A at *
  generalize dt b b n = B at *
  have h2 : 0 ≤ B * (A * B - D * D) := by grind
  rcases Rat.le_total (a := D * D) (b := A * B) with g | g
  ·exact g
  ·have h3 := r_mul (a := B) (b := D * D - A * B) (by grind) (by grind)
   have h4 : B * (D * D - A * B) = 0 := by grind
   rcases Rat.mul_eq_zero.1 h4 with q | q
   ·grind
   ·grind
structure Nb (a : Rvc) (n : Nat) (N : Rat) : Prop where
 h0 : 0 ≤ N
 h : dt a a n ≤ N * N
theorem Nb.dot {a b : Rvc} {n : Nat} {N M : Rat} (h : Nb a n N) (g : Nb b n M) : Bd (dt a b n) (N * M) := by
 refine bd_sq (r_mul h.h0 g.h0) ?_
 have h1 := dt_cs a b n
 have h2 := r_mm h.h g.h (r_mul h.h0 h.h0) (dt_nn b n)
 grind
theorem Nb.up {a : Rvc} {n : Nat} {N M : Rat} (h : Nb a n N) (g : N ≤ M) : Nb a n M := by
 have h0 := h.h0
 refine ⟨by grind, ?_⟩
 have := r_mm g g (by grind) h0
 have := h.h
 grind
theorem nm_congr {a b : Rvc} {n : Nat} {N : Rat} (h : Nb a n N) (e : ∀ k, k < n → b k = a k) : Nb b n N := ⟨h.h0, by rw [dt_congr (c := a) (d := a) fun k hk => ⟨e k hk, e k hk⟩]; exact h.h⟩
theorem Nb.add {a b : Rvc} {n : Nat} {N M : Rat} (h : Nb a n N) (g : Nb b n M) : Nb (fun k => a k + b k) n (N + M) := by
 have h0 := h.h0
 have g0 := g.h0
 refine ⟨by grind, ?_⟩
 have e : dt (fun k => a k + b k) (fun k => a k + b k) n = dt (fun k => 1 * a k + 1 * b k) (fun k => 1 * a k + 1 * b k) n := dt_congr fun k _ => ⟨by grind, by grind⟩
 rw [e, dt_lin2, dt_comm b a]
 have h1 := (h.dot g).2
 have := h.h
 have := g.h
 grind
theorem Nb.smul {a : Rvc} {n : Nat} {N s S : Rat} (h : Nb a n N) (hs : Bd s S) : Nb (fun k => s * a k) n (S * N) := by
 refine ⟨r_mul hs.nn h.h0, ?_⟩
 have e : dt (fun k => s * a k) (fun k => s * a k) n = dt (fun k => s * a k + 0 * a k) (fun k => s * a k + 0 * a k) n := dt_congr fun k _ => ⟨by grind, by grind⟩
 rw [e, dt_lin2]
 have h1 : s * s ≤ S * S := (hs.mul hs).2
 have h2 := r_mm h1 h.h (r_mul hs.nn hs.nn) (dt_nn a n)
 grind
theorem Nb.bound {a b : Rvc} {n : Nat} {N : Rat} (h : Nb b n N) (g : ∀ k, k < n → Bd (a k) (b k)) : Nb a n N := by
 refine ⟨h.h0, Rat.le_trans ?_ h.h⟩
 clear h
 induction n with
 | zero => rw [dt, dt]; grind
 | succ n ih =>
  rw [dt, dt]
  have h1 := ih fun k hk => g k (by omega)
  have h2 := (g n (by omega))
  have := (h2.mul h2).2
  grind
theorem Nb.ra {a : Rvc} {n : Nat} {N : Rat} (h : Nb a n N) : Nb (fun k => Go.Bn.ra (a k)) n N := by
 refine ⟨h.h0, Rat.le_trans ?_ h.h⟩
 clear h
 induction n with
 | zero => rw [dt, dt]; grind
 | succ n ih =>
  rw [dt, dt, ra_sq]
  grind
theorem Nb.nth {a : Rvc} {n k : Nat} {N : Rat} (h : Nb a n N) (hk : k < n) : Bd (a k) N := bd_sq h.h0 (Rat.le_trans (dt_at hk) h.h)
theorem dt_const (c : Rat) : ∀ n : Nat, dt (fun _ => c) (fun _ => c) n = (n : Rat) * (c * c)
 | 0 => by rw [dt]; grind
 | n + 1 => by rw [dt, dt_const c n]; grind
theorem nm_const {c : Rat} (hc : 0 ≤ c) {n : Nat} (hn : n ≤ 49) : Nb (fun _ => c) n (7 * c) := by
 refine ⟨by grind, ?_⟩
 rw [dt_const]
 have h1 : (n : Rat) ≤ 49 := by exact_mod_cast hn
 have := r_mul (a := 49 - (n : Rat)) (b := c * c) (by grind) (r_sq c)
 grind
theorem nm_zero (n : Nat) : Nb (fun _ => 0) n 0 := ⟨by grind, by rw [dt_0 fun _ _ => rfl]; grind⟩
theorem Nb.sub {a b : Rvc} {n : Nat} {N M : Rat} (h : Nb a n N) (g : Nb b n M) : Nb (fun k => a k - b k) n (N + M) := by
 have g2 := g.smul (s := -1) (S := 1) ⟨by grind, by grind⟩
 exact nm_congr ((h.add g2).up (by grind)) fun k _ => by grind
def Pm (v : Rvc) (c : Rat) (n : Nat) (r : Rvc) : Rvc := fun k => r k - c * dt r v n * v k
def om : Rat := 150 / 9007199254740992
structure Mir (v : Rvc) (c : Rat) (n : Nat) : Prop where
 b : Bd ((c * c * dt v v n - 2 * c) * dt v v n) om
theorem om_nn : 0 ≤ om := by unfold om; grind
theorem pm_dt (v : Rvc) (c : Rat) (n : Nat) (r s : Rvc) : dt (Pm v c n r) (Pm v c n s) n = dt r s n + (c * c * dt v v n - 2 * c) * (dt r v n * dt s v n) := by
 have e : dt (Pm v c n r) (Pm v c n s) n = dt (fun k => 1 * r k + (-c * dt r v n) * v k) (Pm v c n s) n := dt_congr fun k _ => ⟨by unfold Pm; grind, rfl⟩
 have e2 : ∀ z : Rvc, dt z (Pm v c n s) n = dt (fun k => 1 * s k + (-c * dt s v n) * v k) z n := fun z => by rw [dt_comm]; exact dt_congr fun k _ => ⟨by unfold Pm; grind, rfl⟩
 rw [e, dt_lin, e2, e2, dt_lin, dt_lin, dt_comm s r, dt_comm v r]
 grind
theorem two_dot {v r s : Rvc} {n : Nat} {N M : Rat} (h : Nb r n N) (g : Nb s n M) : Bd (dt r v n * dt s v n) (N * M * dt v v n) := by
 have hv := dt_nn v n
 refine bd_sq (r_mul (r_mul h.h0 g.h0) hv) ?_
 have h1 := dt_cs r v n
 have h2 := dt_cs s v n
 have h3 : dt r v n * dt r v n ≤ N * N * dt v v n := Rat.le_trans h1 (r_mm h.h (Rat.le_refl) (r_mul h.h0 h.h0) hv)
 have h4 : dt s v n * dt s v n ≤ M * M * dt v v n := Rat.le_trans h2 (r_mm g.h (Rat.le_refl) (r_mul g.h0 g.h0) hv)
 have h5 := r_mm h3 h4 (r_mul (r_mul h.h0 h.h0) hv) (r_sq _)
 grind
theorem mir_dt {v r s : Rvc} {c : Rat} {n : Nat} {N M : Rat} (m : Mir v c n) (h : Nb r n N) (g : Nb s n M) : Bd (dt (Pm v c n r) (Pm v c n s) n - dt r s n) (om * (N * M)) := by
 rw [pm_dt]
 have h1 := two_dot (v := v) h g
 have hb := m.b
 have hv := dt_nn v n
 have hNM := r_mul h.h0 g.h0
 generalize dt v v n = V at *
 generalize c * c * V - 2 * c = z at *
 have h2 : Bd (z * (dt r v n * dt s v n)) (om * (N * M)) := by
  have h3 : Bd (z * (dt r v n * dt s v n)) (ra z * (N * M * V)) := (ra_bd z).mul h1
  have h4 : Bd (z * V) om := hb
  have h5 : ra z * V ≤ om := by
   unfold ra
   obtain ⟨k1, k2⟩ := h4
   split <;> grind
  refine h3.up ?_
  have := r_mm h5 (Rat.le_refl (a := N * M)) om_nn hNM
  grind
 exact h2.eq (by grind)
theorem mir_nm {v r : Rvc} {c : Rat} {n : Nat} {N : Rat} (m : Mir v c n) (h : Nb r n N) : Nb (Pm v c n r) n ((1 + om) * N) := by
 have o := om_nn
 have hN := h.h0
 refine ⟨r_mul (by grind) hN, ?_⟩
 have h1 := (mir_dt m h h).2
 have h2 := h.h
 have h3 := r_mul o (r_mul hN hN)
 have h4 := r_mul (r_mul o o) (r_mul hN hN)
 grind
theorem pm_lin (v a b : Rvc) (c s t : Rat) (n k : Nat) : Pm v c n (fun k => s * a k + t * b k) k = s * Pm v c n a k + t * Pm v c n b k := by
 unfold Pm
 rw [dt_lin]
 grind
theorem mir_twice {v r : Rvc} {c : Rat} {n : Nat} {N : Rat} (m : Mir v c n) (h : Nb r n N) : Nb (fun k => Pm v c n (Pm v c n r) k - r k) n (om * N) := by
 have e : ∀ k, Pm v c n (Pm v c n r) k - r k = ((c * c * dt v v n - 2 * c) * dt r v n) * v k := fun k => by
  have e1 : Pm v c n r = fun k => 1 * r k + (-c * dt r v n) * v k := by funext k; unfold Pm; grind
  have e2 : dt (Pm v c n r) v n = dt r v n - c * dt r v n * dt v v n := by
   rw [e1, dt_lin]
   grind
  show Pm v c n r k - c * dt (Pm v c n r) v n * v k - r k = _
  rw [e2]
  unfold Pm
  grind
 refine ⟨r_mul om_nn h.h0, ?_⟩
 rw [dt_congr (c := fun k => ((c * c * dt v v n - 2 * c) * dt r v n) * v k + 0 * v k) (d := fun k => ((c * c * dt v v n - 2 * c) * dt r v n) * v k + 0 * v k) fun k _ => ⟨by rw [e]; grind, by rw [e]; grind⟩, dt_lin2]
 have h1 := dt_cs r v n
 have hb := m.b
 have hv := dt_nn v n
 have h3 := r_mm h1 (Rat.le_refl (a := dt v v n)) (r_mul (dt_nn r n) hv) hv
 generalize dt v v n = V at *
 generalize dt r v n = p at *
 generalize c * c * V - 2 * c = z at *
 have h4 : z * V * (z * V) ≤ om * om := (hb.mul hb).2
 have h5 := r_mm h4 h.h (r_mul om_nn om_nn) (dt_nn r n)
 have h6 := r_mul (a := z * z) (b := dt r r n * V * V - p * p * V) (r_sq z) (by grind)
 grind
def ka : Rat := 300 / 9007199254740992
def ga : Rat := 1024 / 9007199254740992
theorem ka_nn : 0 ≤ ka := by unfold ka; grind
def Near (v : Rvc) (c : Rat) (n : Nat) (r r2 : Rvc) (N : Rat) : Prop := Nb (fun k => r2 k - Pm v c n r k) n (ka * N)
theorem step_dt {v r s r2 s2 : Rvc} {c : Rat} {n : Nat} {N M : Rat} (m : Mir v c n) (h : Nb r n N) (g : Nb s n M) (h2 : Near v c n r r2 N) (g2 : Near v c n s s2 M) :
  Bd (dt r2 s2 n - dt r s n) (ga * (N * M)) := by
 have e : dt r2 s2 n = dt (Pm v c n r) (Pm v c n s) n + dt (Pm v c n r) (fun k => s2 k - Pm v c n s k) n + dt (fun k => r2 k - Pm v c n r k) (Pm v c n s) n + dt (fun k => r2 k - Pm v c n r k) (fun k => s2 k - Pm v c n s k) n := by
  have := dt_lin2 (Pm v c n r) (fun k => r2 k - Pm v c n r k) (Pm v c n s) (fun k => s2 k - Pm v c n s k) 1 1 n
  rw [dt_congr (c := r2) (d := s2) fun k _ => ⟨by grind, by grind⟩] at this
  rw [this]
  grind
 have h3 := mir_dt m h g
 have h4 := (mir_nm m h).dot g2
 have h5 := Nb.dot h2 (mir_nm m g)
 have h6 := Nb.dot h2 g2
 have hNM := r_mul h.h0 g.h0
 rw [e]
 have h7 := ((h3.add h4).add h5).add h6
 refine (h7.up ?_).eq (by grind)
 have a1 : om * (N * M) + (1 + om) * N * (ka * M) + ka * N * ((1 + om) * M) + ka * N * (ka * M) = (om + 2 * (1 + om) * ka + ka * ka) * (N * M) := by grind
 rw [a1]
 have a2 : om + 2 * (1 + om) * ka + ka * ka ≤ ga := by unfold om ka ga; grind
 exact r_mm a2 Rat.le_refl (by unfold ga; grind) hNM
end Go.Bn
namespace Go.Bn
open Go
def uu : Rat := 1 / 9007199254740992
theorem uu_nn : 0 ≤ uu := by unfold uu; grind
def Rd (z e E : Rat) : Prop := ∀ C, Bd z C → Bd e (uu * C + E)
structure MirF (r r2 v : Rvc) (c : Rat) (m : Nat) (N V E : Rat) : Prop where
 hr : Nb r m N
 hv : Nb v m V
 hm : m ≤ 48
 hE : 0 ≤ E
 hEN : 10000 * E ≤ uu * N
 c0 : 0 ≤ c
 c2 : c ≤ 2
 v50 : V ≤ 50
 cV : c * (V * V) ≤ 9 / 2
 ex : ∃ (d t : Rat) (q et : Rvc) (f : Rat), Bd (d - dt r v m) (49 * uu * (N * V) + 48 * E) ∧ (t = d * c + f ∧ ∀ C, Bd (d * c) C → Bd f (4 * uu * C + E)) ∧ (∀ k, k < m → Rd (t * v k) (q k - t * v k) E) ∧ ∀ k, k < m → r2 k = r k - q k + et k ∧ Rd (r k - q k) (et k) 0
theorem rd_bd {z e E C : Rat} (h : Rd z e E) (hz : Bd z C) : Bd e (uu * C + E) := h C hz
theorem mirF_near {r r2 v : Rvc} {c : Rat} {m : Nat} {N V E : Rat} (h : MirF r r2 v c m N V E) : Near v c m r r2 N := by
 obtain ⟨d, t, q, et, f, h1, ⟨ht, h2⟩, h3, h4⟩ := h.ex
 have hN := h.hr.h0
 have hV := h.hv.h0
 have hE := h.hE
 have hu := uu_nn
 have hc := h.c0
 have hp := h.hr.dot h.hv
 -- the bounds of d, t
 obtain ⟨T1, eT1⟩ : ∃ T1, T1 = c * (49 * uu * (N * V) + 48 * E) + (4 * uu * (c * (N * V + (49 * uu * (N * V) + 48 * E))) + E) := ⟨_, rfl⟩
 have b1 : Bd (c * (d - dt r v m)) (c * (49 * uu * (N * V) + 48 * E)) := (bd_self hc).mul h1
 have b2 : Bd (d * c) (c * (N * V + (49 * uu * (N * V) + 48 * E))) := ((bd_self hc).mul (hp.add h1)).eq (by grind)
 have b3 : Bd (t - c * dt r v m) T1 := ((b1.add (h2 _ b2)).up (by rw [eT1]; exact Rat.le_refl)).eq (by rw [ht]; grind)
 obtain ⟨T, eT⟩ : ∃ T, T = c * (N * V) + T1 := ⟨_, rfl⟩
 have b4 : Bd t T := ((((bd_self hc).mul hp).add b3).up (by rw [eT]; exact Rat.le_refl)).eq (by grind)
 have hT1 := b3.nn
 have hT := b4.nn
 -- number by number
 have key : ∀ k, k < m → Bd (r2 k - Pm v c m r k) ((T1 + 3 * (uu * T)) * ra (v k) + uu * ra (r k) + 2 * E) := fun k hk => by
  have rk := ra_bd (r k)
  have vk := ra_bd (v k)
  have av := ra_nn (v k)
  have ar := ra_nn (r k)
  obtain ⟨e1, e2⟩ := h4 k hk
  have x1 : Bd (t * v k) (T * ra (v k)) := b4.mul vk
  have x2 := rd_bd (h3 k hk) x1
  have x3 : Bd (r k - q k) (ra (r k) + (T * ra (v k) + (uu * (T * ra (v k)) + E))) := (rk.sub (x1.add x2)).eq (by grind)
  have x4 := rd_bd e2 x3
  have x5 : Bd ((t - c * dt r v m) * v k) (T1 * ra (v k)) := b3.mul vk
  have x6 := ((x4.sub x2).sub x5)
  refine (x6.up ?_).eq (by rw [e1]; unfold Pm; grind)
  have y1 := r_mul (r_mul hu hu) (r_mul hT av)
  have y2 := r_mul hu (r_mul hT av)
  have y5 : (T1 + 3 * (uu * T)) * ra (v k) = T1 * ra (v k) + 3 * (uu * (T * ra (v k))) := by grind
  rw [y5]
  clear y5
  generalize T * ra (v k) = TV at *
  have y3 : uu * (uu * TV) ≤ uu * TV := by
   have := r_mml hu (show uu * TV ≤ TV by
    have := r_mml (r_mul hT av) (show uu ≤ 1 by unfold uu; grind)
    unfold uu at *
    grind)
   exact this
  have y4 : uu * E ≤ E := by
   have := r_mml hE (show uu ≤ 1 by unfold uu; grind)
   grind
  grind
 have nv := h.hv.ra.smul (bd_self (c := T1 + 3 * (uu * T)) (by have := r_mul hu hT; grind))
 have nr := h.hr.ra.smul (bd_self hu)
 have ne := nm_const (c := 2 * E) (by grind) (n := m) (by have := h.hm; omega)
 have n1 := Nb.bound ((nv.add nr).add ne) key
 refine n1.up ?_
 -- the sum
 have A1 : c * (V * V) * N ≤ 9 / 2 * N := by
  have := r_mm h.cV (Rat.le_refl (a := N)) (by grind) hN
  exact this
 have A0 := r_mul (r_mul hc (r_mul hV hV)) hN
 have A2 : c * V * E ≤ 100 * E := by
  have := r_mm (r_mm h.c2 h.v50 (by grind) hV) (Rat.le_refl (a := E)) (by grind) hE
  grind
 have A3 : V * E ≤ 50 * E := r_mm h.v50 Rat.le_refl (by grind) hE
 have A4 := r_mul (r_mul hc hV) hE
 have hEN := h.hEN
 have e1 : T1 * V = 49 * uu * (c * (V * V) * N) + 48 * (c * V * E) + 4 * uu * (c * (V * V) * N) + 4 * uu * (49 * uu * (c * (V * V) * N)) + 4 * uu * (48 * (c * V * E)) + V * E := by
  rw [eT1]; grind
 have e2 : T * V = c * (V * V) * N + T1 * V := by rw [eT]; grind
 have e3 : (T1 + 3 * (uu * T)) * V = T1 * V + 3 * uu * (T * V) := by grind
 rw [e3, e2, e1]
 generalize c * (V * V) * N = X at *
 generalize c * V * E = Y at *
 generalize V * E = Z at *
 clear key n1 nv nr ne b1 b2 b3 b4 h1 h2 h3 h4 e1 e2 e3 hp ht eT1 eT
 unfold ka uu at *
 grind
end Go.Bn
namespace Go.Bn
open Go
theorem dt_hd {a b c d : Rvc} : ∀ {n : Nat}, (∀ k, 1 ≤ k → k < n + 1 → a k = c k ∧ b k = d k) → dt a b (n + 1) - a 0 * b 0 = dt c d (n + 1) - c 0 * d 0
 | 0, _ => by rw [dt, dt, dt, dt]; grind
 | n + 1, h => by
  have h1 := dt_hd (n := n) fun k h1 h2 => h k h1 (by omega)
  obtain ⟨h2, h3⟩ := h (n + 1) (by omega) (by omega)
  rw [dt, dt.eq_2 c d, h2, h3]
  grind
structure HouF (x y v : Rvc) (m : Nat) (a b g W c s al E N : Rat) : Prop where
 m0 : 0 < m
 hm : m ≤ 48
 a0 : 0 ≤ a
 ab : (b = -g ∧ y 0 = a) ∨ (b = g ∧ y 0 = -a)
 g0 : 9 / 10 ≤ g
 g1 : g ≤ 20
 S : Bd (dt y y m - g * g) (56 * uu * (g * g))
 w : Bd (W - g * (g + a)) (3 * uu * (g * (g + a)))
 c0 : 0 ≤ c
 cW : c * W = 1
 v0 : Bd (v 0 - (y 0 - b)) (uu * (g + a))
 vk : ∀ k, 1 ≤ k → k < m → v k = y k
 s0 : 0 ≤ s
 sx : ∀ k, k < m → Bd (x k - s * y k) (E * s)
 al : Bd (al - s * b) E
 hx : Nb x m N
 E0 : 0 ≤ E
 E1 : E ≤ uu / 1000000
 E2 : E ≤ uu * N
structure HouG (x v : Rvc) (m : Nat) (c al N V : Rat) : Prop where
 mir : Mir v c m
 c0 : 0 ≤ c
 c2 : c ≤ 2
 hv : Nb v m V
 v50 : V ≤ 50
 cV : c * (V * V) ≤ 9 / 2
 near : Near v c m x (fun k => if k = 0 then al else 0) N
section
variable {x y v : Rvc} {m : Nat} {a b g W c s al E N : Rat} (h : HouF x y v m a b g W c s al E N)
include h
theorem hou_sq : (0 ≤ g * g ∧ a ≤ 101 / 100 * g ∧ 0 ≤ g * a ∧ g * a ≤ 101 / 100 * (g * g) ∧ a * a ≤ 103 / 100 * (g * g)) ∧ (y 0 * b = -(g * a)) ∧ (y 0 * y 0 = a * a) ∧ ((y 0 - b) * (y 0 - b) = (g + a) * (g + a)) ∧ Bd (y 0 - b) (g + a) ∧ Bd (y 0) a := by
 have g0 := h.g0
 have a0 := h.a0
 have hgg := r_mul (a := g) (b := g) (by grind) (by grind)
 have e3 : y 0 * b = -(g * a) := by rcases h.ab with ⟨p, q⟩ | ⟨p, q⟩ <;> rw [p, q] <;> grind
 have e4 : y 0 * y 0 = a * a := by rcases h.ab with ⟨p, q⟩ | ⟨p, q⟩ <;> rw [q] <;> grind
 have e5 : (y 0 - b) * (y 0 - b) = (g + a) * (g + a) := by rcases h.ab with ⟨p, q⟩ | ⟨p, q⟩ <;> rw [p, q] <;> grind
 have e6 : Bd (y 0 - b) (g + a) := by rcases h.ab with ⟨p, q⟩ | ⟨p, q⟩ <;> rw [p, q] <;> exact ⟨by grind, by grind⟩
 have e7 : Bd (y 0) a := by rcases h.ab with ⟨p, q⟩ | ⟨p, q⟩ <;> rw [q] <;> exact ⟨by grind, by grind⟩
 have hS := h.S.2
 have h1 := dt_at (a := y) h.m0
 have h2 : a * a ≤ (101 / 100 * g) * (101 / 100 * g) := by
  unfold uu at hS
  grind
 have h3 := (bd_sq (by grind) h2).2
 have h4 := r_mml (c := g) (by grind) h3
 exact ⟨⟨hgg, h3, r_mul (by grind) a0, by grind, by grind⟩, e3, e4, e5, e6, e7⟩
theorem hou_v : Bd (dt v v m - 2 * (g * (g + a))) (62 * uu * (g * (g + a))) ∧ Bd (dt y v m - g * (g + a)) (59 * uu * (g * (g + a))) := by
 obtain ⟨⟨k1, k2, k3, k4, k5⟩, e3, e4, e5, e6, e7⟩ := hou_sq h
 obtain ⟨n, hn⟩ : ∃ n, m = n + 1 := ⟨m - 1, by have := h.m0; omega⟩
 have g0 := h.g0
 have a0 := h.a0
 have hh := r_mul (a := g) (b := g + a) (by grind) (by grind)
 have d1 := dt_hd (a := v) (b := v) (c := y) (d := y) (n := n) fun k p q => ⟨h.vk k p (by omega), h.vk k p (by omega)⟩
 have d2 := dt_hd (a := y) (b := v) (c := y) (d := y) (n := n) fun k p q => ⟨rfl, h.vk k p (by omega)⟩
 rw [← hn] at d1 d2
 have hS := h.S
 obtain ⟨de, ede⟩ : ∃ de, de = v 0 - (y 0 - b) := ⟨_, rfl⟩
 have hd := h.v0
 rw [← ede] at hd
 have ev : v 0 = y 0 - b + de := by grind
 have x1 := e6.mul hd
 have x2 := hd.mul hd
 have x3 := e7.mul hd
 have q1 : (g + a) * (uu * (g + a)) ≤ 3 * uu * (g * (g + a)) := by unfold uu; grind
 have q2 : (uu * (g + a)) * (uu * (g + a)) ≤ uu * (g * (g + a)) := by unfold uu; grind
 have q3 : a * (uu * (g + a)) ≤ 3 * uu * (g * (g + a)) := by unfold uu; grind
 have q4 : 56 * uu * (g * g) ≤ 56 * uu * (g * (g + a)) := by unfold uu; grind
 constructor
 ·have e : dt v v m - 2 * (g * (g + a)) = (dt y y m - g * g) + ((y 0 - b) * de + (y 0 - b) * de) + de * de := by rw [ev] at d1; grind
  rw [e]
  refine (((hS.add (x1.add x1)).add x2)).up ?_
  unfold uu at *
  grind
 ·have e : dt y v m - g * (g + a) = (dt y y m - g * g) + y 0 * de := by rw [ev] at d2; grind
  rw [e]
  refine (hS.add x3).up ?_
  unfold uu at *
  grind
theorem hou_w : Bd (W - g * (g + a)) (3 * uu * (g * (g + a))) ∧ 1 / 2 ≤ W ∧ g * (g + a) ≤ (1 + 4 * uu) * W ∧ c ≤ 2 ∧ c * (g * (g + a)) ≤ 1 + 4 * uu := by
 obtain ⟨⟨k1, k2, k3, k4, k5⟩, e3, e4, e5, e6, e7⟩ := hou_sq h
 have g0 := h.g0
 have a0 := h.a0
 have w := h.w
 have c0 := h.c0
 have cW := h.cW
 have gg : 81 / 100 ≤ g * g := by
  have := r_mm g0 g0 (by grind) (by grind)
  grind
 have w1 : 1 / 2 ≤ W := by
  have := w.1
  unfold uu at this
  grind
 have w2 : g * (g + a) ≤ (1 + 4 * uu) * W := by
  have := w.1
  unfold uu at *
  grind
 refine ⟨w, w1, w2, ?_, ?_⟩
 ·have := r_mul c0 (b := W - 1 / 2) (by grind)
  grind
 ·have := r_mml c0 w2
  have e : c * ((1 + 4 * uu) * W) = (1 + 4 * uu) * (c * W) := by grind
  rw [e, cW] at this
  grind
theorem hou_mir : Mir v c m := by
 obtain ⟨w, w1, w2, c2, c3⟩ := hou_w h
 obtain ⟨v1, -⟩ := hou_v h
 have c0 := h.c0
 have cW := h.cW
 refine ⟨?_⟩
 have x1 : Bd (dt v v m - 2 * W) (68 * uu * (g * (g + a))) := ((v1.sub (w.add w)).up (by unfold uu; grind)).eq (by grind)
 have x2 : Bd (c * dt v v m - 2) (69 * uu) := by
  refine (((bd_self c0).mul x1).up ?_).eq (by grind)
  have := r_mml (c := 68 * uu) (by unfold uu; grind) c3
  unfold uu at *
  grind
 have x3 : Bd (c * dt v v m) (2 + 69 * uu) := ((x2.add (bd_self (c := 2) (by grind))).up (by grind)).eq (by grind)
 refine ((x2.mul x3).up ?_).eq (by grind)
 unfold uu om
 grind
theorem hou_nv : Nb v m (21 / 10 * g) := by
 obtain ⟨⟨k1, k2, k3, k4, k5⟩, e3, e4, e5, e6, e7⟩ := hou_sq h
 obtain ⟨v1, -⟩ := hou_v h
 have g0 := h.g0
 refine ⟨by grind, ?_⟩
 have := v1.2
 unfold uu at this
 grind
theorem hou_len : s * g ≤ 101 / 100 * N := by
 have g0 := h.g0
 have s0 := h.s0
 have hE := h.E0
 have sg := r_mul (a := s) (b := g) s0 (by grind)
 have n1 : Nb (fun k => x k - s * y k) m (7 * (E * s)) := Nb.bound (nm_const (r_mul hE s0) (by have := h.hm; omega)) h.sx
 have n2 : Nb (fun k => s * y k) m (N + 7 * (E * s)) := nm_congr (h.hx.sub n1) fun k _ => by grind
 have e : dt (fun k => s * y k) (fun k => s * y k) m = s * s * dt y y m := by
  have e : dt (fun k => s * y k) (fun k => s * y k) m = dt (fun k => s * y k + 0 * y k) (fun k => s * y k + 0 * y k) m := dt_congr fun k _ => ⟨by grind, by grind⟩
  rw [e, dt_lin2]
  grind
 have h2 := n2.h
 rw [e] at h2
 have hS : 999 / 1000 * (g * g) ≤ dt y y m := by
  have := h.S.1
  have := r_sq g
  unfold uu at *
  grind
 have h3 := r_mml (r_mul s0 s0) hS
 have h4 : (995 / 1000 * (s * g)) * (995 / 1000 * (s * g)) ≤ (N + 7 * (E * s)) * (N + 7 * (E * s)) := by
  have := r_sq (s * g)
  grind
 have h5 := (bd_sq n2.h0 h4).2
 have h6 : E * s ≤ 1 / 1000 * s := r_mm (Rat.le_trans h.E1 (by unfold uu; grind)) Rat.le_refl (by grind) s0
 have h7 : 9 / 10 * s ≤ s * g := by
  have := r_mml s0 g0
  grind
 have h8 : E * s ≤ 1 / 1000000 * s := r_mm (Rat.le_trans h.E1 (by unfold uu; grind)) Rat.le_refl (by grind) s0
 grind
theorem hou_near : Near v c m x (fun k => if k = 0 then al else 0) N := by
 obtain ⟨⟨k1, k2, k3, k4, k5⟩, e3, e4, e5, e6, e7⟩ := hou_sq h
 obtain ⟨w, w1, w2, c2, c3⟩ := hou_w h
 obtain ⟨-, v1⟩ := hou_v h
 have hl := hou_len h
 have g0 := h.g0
 have a0 := h.a0
 have s0 := h.s0
 have hE := h.E0
 have c0 := h.c0
 have cW := h.cW
 have hN := h.hx.h0
 have sg := r_mul (a := s) (b := g) s0 (by grind)
 obtain ⟨th, eth⟩ : ∃ th, th = c * dt y v m - 1 := ⟨_, rfl⟩
 have bth : Bd th (64 * uu) := by
  have x1 : Bd (dt y v m - W) (62 * uu * (g * (g + a))) := ((v1.sub w).up (by grind)).eq (by grind)
  refine (((bd_self c0).mul x1).up ?_).eq (by grind)
  have := r_mml (c := 62 * uu) (by unfold uu; grind) c3
  unfold uu at *
  grind
 obtain ⟨xi, exi⟩ : ∃ xi : Rvc, xi = fun k => x k - s * y k := ⟨_, rfl⟩
 have nxi : Nb xi m (7 * (E * s)) := by rw [exi]; exact Nb.bound (nm_const (r_mul hE s0) (by have := h.hm; omega)) h.sx
 have npx := mir_nm (hou_mir h) nxi
 have ex : x = fun k => s * y k + 1 * xi k := by rw [exi]; funext k; grind
 have nv := (hou_nv h).smul ((bd_self s0).mul bth)
 obtain ⟨u0, eu0⟩ : ∃ u0 : Rvc, u0 = fun k => if k = 0 then al - s * (y 0 - v 0) else 0 := ⟨_, rfl⟩
 have bu0 : Bd (al - s * (y 0 - v 0)) (E + s * (uu * (g + a))) := (h.al.add ((bd_self s0).mul h.v0)).eq (by grind)
 have nu0 : Nb u0 m (E + s * (uu * (g + a))) := by
  refine ⟨bu0.nn, ?_⟩
  obtain ⟨n, hn⟩ : ∃ n, m = n + 1 := ⟨m - 1, by have := h.m0; omega⟩
  have := dt_hd (a := u0) (b := u0) (c := fun _ => 0) (d := fun _ => 0) (n := n) fun k p q => ⟨by rw [eu0]; show (if k = 0 then _ else _) = _; rw [if_neg (by omega)], by rw [eu0]; show (if k = 0 then _ else _) = _; rw [if_neg (by omega)]⟩
  rw [← hn, dt_0 (a := fun _ => (0 : Rat)) fun _ _ => rfl] at this
  have e : u0 0 = al - s * (y 0 - v 0) := by rw [eu0]; rfl
  rw [e] at this
  have := (bu0.mul bu0).2
  grind
 have nn := (nu0.add nv).sub npx
 refine nm_congr (nn.up ?_) fun k hk => ?_
 ·have hE2 := h.E2
  have q1 : s * (uu * (g + a)) ≤ 3 * uu * (s * g) := by
   have := r_mml s0 k2
   unfold uu
   grind
  have q2 : 9 / 10 * s ≤ s * g := by
   have := r_mml s0 g0
   grind
  have q3 : E * s ≤ uu * s := r_mm (Rat.le_trans h.E1 (by unfold uu; grind)) Rat.le_refl uu_nn s0
  have q4 : s * (64 * uu) * (21 / 10 * g) = 64 * uu * (21 / 10) * (s * g) := by grind
  rw [q4]
  generalize s * g = z at *
  generalize s * (uu * (g + a)) = q at *
  unfold ka om uu at *
  grind
 ·have e1 : Pm v c m x k = s * Pm v c m y k + 1 * Pm v c m xi k := by
   rw [ex]; exact pm_lin v y xi c s 1 m k
  show _ - Pm v c m x k = _
  rw [e1, eu0]
  have e2 : Pm v c m y k = y k - (1 + th) * v k := by rw [eth]; unfold Pm; grind
  rw [e2]
  by_cases hk0 : k = 0
  ·subst hk0
   show al - _ = (al - s * (y 0 - v 0)) + _ - _
   grind
  ·show (if k = 0 then al else 0) - _ = (if k = 0 then _ else 0) + _ - _
   rw [if_neg hk0, if_neg hk0, h.vk k (by omega) hk]
   grind
theorem houG_of : HouG x v m c al N (21 / 10 * g) := by
 obtain ⟨w, w1, w2, c2, c3⟩ := hou_w h
 have g0 := h.g0
 have g1 := h.g1
 have a0 := h.a0
 have c0 := h.c0
 refine ⟨hou_mir h, h.c0, c2, hou_nv h, by grind, ?_, hou_near h⟩
 have h1 : c * (g * g) ≤ c * (g * (g + a)) := r_mml c0 (by have := r_mul (a := g) (b := a) (by grind) a0; grind)
 unfold uu at *
 grind
end
def shf (v : Rvc) (p : Nat) : Rvc := fun k => if k < p then 0 else v (k - p)
theorem dt_app (a b : Rvc) (p : Nat) : ∀ m, dt a b (p + m) = dt a b p + dt (fun k => a (p + k)) (fun k => b (p + k)) m
 | 0 => by rw [Nat.add_zero, dt]; grind
 | m + 1 => by
  rw [show p + (m + 1) = (p + m) + 1 by omega, dt, dt_app a b p m, dt]
  grind
theorem shf_dt (r v : Rvc) (p m : Nat) : dt r (shf v p) (p + m) = dt (fun k => r (p + k)) v m := by
 rw [dt_app]
 have e1 : dt r (shf v p) p = 0 := by rw [dt_comm]; exact dt_0 fun k hk => by unfold shf; rw [if_pos hk]
 have e2 : dt (fun k => r (p + k)) (fun k => shf v p (p + k)) m = dt (fun k => r (p + k)) v m := dt_congr fun k _ => ⟨rfl, by unfold shf; rw [if_neg (by omega), show p + k - p = k by omega]⟩
 rw [e1, e2]
 grind
theorem shf_vv (v : Rvc) (p m : Nat) : dt (shf v p) (shf v p) (p + m) = dt v v m := by
 rw [shf_dt]
 exact dt_congr fun k _ => ⟨by unfold shf; show (if p + k < p then _ else _) = _; rw [if_neg (by omega), show p + k - p = k by omega], rfl⟩
theorem mir_lift {v : Rvc} {c : Rat} {p m : Nat} (h : Mir v c m) : Mir (shf v p) c (p + m) := ⟨by rw [shf_vv]; exact h.b⟩
theorem near_lift {v r r2 : Rvc} {c N : Rat} {p m : Nat} (h1 : ∀ k, k < p → r2 k = r k) (h : Near v c m (fun k => r (p + k)) (fun k => r2 (p + k)) N) : Near (shf v p) c (p + m) r r2 N := by
 refine ⟨h.h0, ?_⟩
 have hh := h.h
 rw [dt_app]
 have e1 : dt (fun k => r2 k - Pm (shf v p) c (p + m) r k) (fun k => r2 k - Pm (shf v p) c (p + m) r k) p = 0 := dt_0 fun k hk => by
  show r2 k - (r k - _ * shf v p k) = 0
  rw [h1 k hk]
  unfold shf
  rw [if_pos hk]
  grind
 rw [e1]
 have e2 : ∀ k, r2 (p + k) - Pm (shf v p) c (p + m) r (p + k) = r2 (p + k) - Pm v c m (fun k => r (p + k)) k := fun k => by
  show r2 (p + k) - (r (p + k) - _ * shf v p (p + k)) = _
  rw [shf_dt]
  unfold shf Pm
  rw [if_neg (by omega), show p + k - p = k by omega]
 rw [dt_congr (c := fun k => r2 (p + k) - Pm v c m (fun k => r (p + k)) k) (d := fun k => r2 (p + k) - Pm v c m (fun k => r (p + k)) k) fun k _ => ⟨e2 k, e2 k⟩]
 grind
theorem nb_suf {r : Rvc} {N : Rat} {p m : Nat} (h : Nb r (p + m) N) : Nb (fun k => r (p + k)) m N := by
 refine ⟨h.h0, ?_⟩
 have := h.h
 rw [dt_app] at this
 have := dt_nn r p
 grind
theorem near_still {v r : Rvc} {c N : Rat} {n : Nat} (hN : 0 ≤ N) (h : dt r v n = 0) : Near v c n r r N := by
 unfold Near
 refine nm_congr ((nm_zero n).up (r_mul ka_nn hN)) fun k _ => ?_
 unfold Pm
 rw [h]
 grind
end Go.Bn
