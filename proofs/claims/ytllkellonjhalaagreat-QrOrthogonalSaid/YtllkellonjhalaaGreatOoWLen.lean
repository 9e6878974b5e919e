/- Printed by a program of ours (walk.py): walks of scaling by powers of two, of lengths and mirrors. -/
import Derived.Test.YtllkellonjhalaaGreatOoKb
import Derived.Test.YtllkellonjhalaaGreatProg
import Derived.KernelRfl
import Derived.Test.YtllkellonjhalaaGreatOoTypes
import Derived.Test.YtllkellonjhalaaGreatOoWRef8
import Derived.Test.YtllkellonjhalaaGreatOoQra
set_option linter.unusedVariables false
set_option linter.unusedSimpArgs false
set_option maxRecDepth 20000
set_option maxHeartbeats 1000000
namespace Go.Proofs.YtllkellonjhalaaGreat
open Go Go.Bn
attribute [local irreducible] OpOK
theorem abs_ok {x : Nat} : Ct Tryz.prog 83 [flp x] (flp (fabs x)) := by
 refine Ct.of Tryz.func83 rfl (by kernel_rfl) rfl fun c0 => ?_
 refine zF (zG [] (.n (zB (Lk.fk rfl (by decide +kernel)))<|.nil) ff rfl fun g1 => ⟨_, _, [], rfl, (.k 0 rfl<|.nil), (.nil), ?_⟩)
 refine zC<|zF (zG [] (.n (zA (.t rfl))<|.n (op_f64bits bitsX (.t rfl))<|.n (op_absb (.t rfl))<|.n (op_f64fromb fromX (.t rfl))<|.n (zB (.t rfl))<|.nil) ff rfl fun g2 => ⟨_, _, [], rfl, (.k 2 rfl<|.nil), (.nil), ?_⟩)
 refine zC<|yF<|zQ (.cons (.tmp (.t rfl))<|.nil) (zM (yD zL) ?_)
 exact zL
theorem isinf_ok {x : Nat} : Ct Tryz.prog 117 [flp x, isv (.int .i64 0)] (isv (.bool (fcmp .gtr (fabs x) MAXF))) := by
 refine Ct.of Tryz.func117 rfl (by kernel_rfl) rfl fun c0 => ?_
 refine zF (zG [] (.n (zB (.k rfl))<|.nil) ff rfl fun g1 => ⟨_, _, [], rfl, (.k 0 rfl<|.k 1 rfl<|.nil), (.nil), ?_⟩)
 refine zC<|zF<|zF (zG [] (.n (zA (.t rfl))<|.n (yB (by simp) (.t rfl) (.k rfl) rfl)<|.nil) ff rfl fun g2 => ⟨_, _, [], rfl, (.k 0 rfl<|.k 1 rfl<|.k 6 rfl<|.nil), (.nil), ?_⟩)
 refine zC<|zH (zK (.t rfl)) (fun h1 => ?_) (fun h1 => ?_)
 ·have h1' := h1
  try simp only [cmpB, Z] at h1
  refine (zG [] (.n (zA (.t rfl))<|.n (zP (abs_ok) ⟨(.t rfl),  trivial⟩)<|.n (zB (.t rfl))<|.nil) ff rfl fun g3 => ⟨_, _, [], rfl, (.k 0 rfl<|.nil), (.nil), ?_⟩)
  refine zC<|zF (zG [] (.n (zA (.t rfl))<|.n (op_fcmp (by simp) (.t rfl) (Lk.fk rfl (by decide +kernel)) rfl)<|.n (zB (.t rfl))<|.nil) ff rfl fun g4 => ⟨_, _, [], rfl, (.k 4 rfl<|.nil), (.nil), ?_⟩)
  refine zC<|yF<|zQ (.cons (.tmp (.t rfl))<|.nil) (zM (yD zL) ?_)
  exact zL
 ·have h1' := h1
  try simp only [cmpB, Z] at h1
  exact absurd h1' (by decide)
theorem isnan_ok {x : Nat} : Ct Tryz.prog 118 [flp x] (isv (.bool (fcmp .neq x x))) := by
 refine Ct.of Tryz.func118 rfl (by kernel_rfl) rfl fun c0 => ?_
 refine zF (zG [] (.n (zB (.k rfl))<|.nil) ff rfl fun g1 => ⟨_, _, [], rfl, (.k 0 rfl<|.nil), (.nil), ?_⟩)
 refine zC<|zF (zG [] (.n (zA (.t rfl))<|.n (zA (.t rfl))<|.n (op_fcmp (by simp) (.t rfl) (.t rfl) rfl)<|.n (zB (.t rfl))<|.nil) ff rfl fun g2 => ⟨_, _, [], rfl, (.k 2 rfl<|.nil), (.nil), ?_⟩)
 refine zC<|yF<|zQ (.cons (.tmp (.t rfl))<|.nil) (zM (yD zL) ?_)
 exact zL
theorem nrm_ok {x : Nat} : Ct Tryz.prog 119 [flp x] (tupp [flp (nrmR x).1, isv (.int .i64 (nrmR x).2)]) := by
 refine Ct.of Tryz.func119 rfl (by kernel_rfl) rfl fun c0 => ?_
 refine zF (zG [] (.n (zB (Lk.fk rfl (by decide +kernel)))<|.n (zB (.k rfl))<|.nil) ff rfl fun g1 => ⟨_, _, [], rfl, (.k 0 rfl<|.nil), (.nil), ?_⟩)
 refine zC<|zF<|zF (zG [] (.n (zA (.t rfl))<|.n (zP (abs_ok) ⟨(.t rfl),  trivial⟩)<|.n (op_fcmp (by simp) (.t rfl) (Lk.fk rfl (by decide +kernel)) rfl)<|.nil) ff rfl fun g2 => ⟨_, _, [], rfl, (.k 0 rfl<|.k 6 rfl<|.nil), (.nil), ?_⟩)
 refine zC<|zH (zK (.t rfl)) (fun h1 => ?_) (fun h1 => ?_)
 ·have h1' := h1
  try simp only [cmpB, Z] at h1
  refine zF (zG [] (.n (zA (.t rfl))<|.n (op_float (by simp) (.t rfl) (Lk.fk rfl (by decide +kernel)) rfl)<|.n (zB (.t rfl))<|.n (zB (.k rfl))<|.nil) ff rfl fun g3 => ⟨_, _, [], rfl, (.k 2 rfl<|.k 3 rfl<|.nil), (.nil), ?_⟩)
  refine zC<|yF<|zD<|zQ (.cons (.tmp (.t rfl))<|.cons (.tmp (.t rfl))<|.nil) (zM (sb_res (.cons zL<|.cons zL<|.nil)) ?_)
  exact sb_eq (by unfold nrmR; rw [if_pos (show fcmp .lss (fabs x) TINY = true from h1')]; rfl)
 ·have h1' := h1
  try simp only [cmpB, Z] at h1
  refine yE<|zC<|zF (zG [] (.n (zA (.t rfl))<|.n (zB (.t rfl))<|.n (zB (.k rfl))<|.nil) ff rfl fun g4 => ⟨_, _, [], rfl, (.k 2 rfl<|.k 3 rfl<|.nil), (.nil), ?_⟩)
  refine zC<|yF<|zQ (.cons (.tmp (.t rfl))<|.cons (.tmp (.t rfl))<|.nil) (zM (sb_res (.cons zL<|.cons zL<|.nil)) ?_)
  exact sb_eq (by unfold nrmR; rw [if_neg (by rw [show fcmp .lss (fabs x) TINY = false from h1']; decide)])
theorem frexp_ok {x : Nat} (hx : x < 2 ^ 64 ∧ finB x = true) (hz : fcmp .eql x 0 = false) : Ct Tryz.prog 115 [flp x] (tupp [anyp, isv (.int .i64 (frxE x))]) := by
 refine Ct.of Tryz.func115 rfl (by kernel_rfl) rfl fun c0 => ?_
 have hr := (finB_iff hx.1).1 hx.2
 obtain ⟨hn1, hn2⟩ := nrm_nan hx.1 hx.2
 have hn3 := @nrm_snd x
 have hn4 := expo_lt (nrmR x).1
 refine zF (zG [] (.n (zB (Lk.fk rfl (by decide +kernel)))<|.n (zB (.k rfl))<|.nil) ff rfl fun g1 => ⟨_, _, [], rfl, (.k 0 rfl<|.nil), (.nil), ?_⟩)
 refine zC<|zF<|zT<|zF (zG [] (.n (zA (.t rfl))<|.n (op_fcmp (by simp) (.t rfl) (Lk.fk rfl (by decide +kernel)) rfl)<|.n (zB (.t rfl))<|.nil) ff rfl fun g2 => ⟨_, _, [], rfl, (.k 0 rfl<|.k 5 rfl<|.nil), (.nil), ?_⟩)
 refine zC<|zH (zK (.t rfl)) (fun h1 => ?_) (fun h1 => ?_)
 ·have h1' := h1
  try simp only [cmpB, Z] at h1
  exact absurd (h1'.symm.trans hz) (by decide)
 ·have h1' := h1
  try simp only [cmpB, Z] at h1
  refine zF (zG [] (.n (zA (.t rfl))<|.n (zP (isinf_ok) ⟨(.t rfl), (.k rfl),  trivial⟩)<|.n (zA (.t rfl))<|.n (yA rfl rfl (gd_b rfl) (fun hC => (zA (.t rfl))))<|.n (yA rfl rfl (gd_b rfl) (fun hC => (zP (isnan_ok) ⟨(.w rfl hC),  trivial⟩)))<|.n (op_or (.t rfl) (fun h2 => (.w rfl h2)))<|.n (zB (.t rfl))<|.nil) ff rfl fun g3 => ⟨_, _, [], rfl, (.k 0 rfl<|.k 9 rfl<|.nil), (.nil), ?_⟩)
  refine zC<|zH (zK (.t rfl)) (fun h2 => ?_) (fun h2 => ?_)
  ·have h2' := h2
   try simp only [cmpB, Z] at h2
   exact absurd h2' (by rw [fin_gtr hx.1 hr, fcmp_self, fin_not_nan hx.2]; decide)
  ·have h2' := h2
   try simp only [cmpB, Z] at h2
   refine yE<|zR<|zC<|zF (zG [] (.n (zA (.t rfl))<|.n (zP (nrm_ok) ⟨(.t rfl),  trivial⟩)<|.n (zA (.t rfl))<|.n (yJ (.t rfl) rfl)<|.n (yJ (.t rfl) rfl)<|.n (zB (.t rfl))<|.n (zB (.t rfl))<|.nil) ff rfl fun g4 => ⟨_, _, [], rfl, (.k 0 rfl<|.k 3 rfl<|.nil), (.nil), ?_⟩)
   refine zC<|zF (zG [] (.n (zA (.t rfl))<|.n (op_f64bitsn bitsX hn1 (.t rfl))<|.n (zB (.t rfl))<|.nil) ff rfl fun g5 => ⟨_, _, [], rfl, (.k 3 rfl<|.k 4 rfl<|.nil), (.nil), ?_⟩)
   refine zC<|zF (zG [] (.n (zA (.t rfl))<|.n (zA (.t rfl))<|.n (op_shr (.t rfl) (.k rfl) (by omega) (shr_bits (nrmR x).1 52 (by omega)))<|.n (op_bits (by simp) (.t rfl) (.k rfl) (expo_bitsN hn2))<|.n (yG it34 it3 (.t rfl) (expo_i64 (nrmR x).1))<|.n (op_sub (.t rfl) (.k rfl) (zO (by omega) (by omega)))<|.n (yK (.t rfl) (.k rfl) (zO (by omega) (by omega)))<|.n (yK (.t rfl) (.t rfl) (zO (by omega) (by omega)))<|.n (zB (.t rfl))<|.nil) ff rfl fun g6 => ⟨_, _, [], rfl, (.k 3 rfl<|.k 4 rfl<|.nil), (.nil), ?_⟩)
   refine zC<|zF (zG [] (.n (zA (.t rfl))<|.n (op_bits (by simp) (.t rfl) (.k rfl) rfl)<|.n (zB (.t rfl))<|.nil) ff rfl fun g7 => ⟨_, _, [], rfl, (.k 3 rfl<|.k 4 rfl<|.nil), (.nil), ?_⟩)
   refine zC<|zF (zG [] (.n (zA (.t rfl))<|.n (op_bits (by simp) (.t rfl) (.k rfl) rfl)<|.n (zB (.t rfl))<|.nil) ff rfl fun g8 => ⟨_, _, [], rfl, (.k 3 rfl<|.k 4 rfl<|.nil), (.nil), ?_⟩)
   refine zC<|zF (zG [] (.n (zA (.t rfl))<|.n (op_f64fromb fromX (Lk.sub sb_bits (.t rfl)))<|.n (zB (.t rfl))<|.nil) ff rfl fun g9 => ⟨_, _, [], rfl, (.k 2 rfl<|.k 3 rfl<|.nil), (.nil), ?_⟩)
   refine zC<|yF<|zQ (.cons (.tmp (.t rfl))<|.cons (.tmp (.t rfl))<|.nil) (zM (sb_res (.cons zL<|.cons zL<|.nil)) ?_)
   exact fun _ _ _ ⟨vs, h1, h2⟩ => ⟨vs, h1, HL.sub1 h2⟩
theorem Frexp_ok {x : Nat} (hx : x < 2 ^ 64 ∧ finB x = true) (hz : fcmp .eql x 0 = false) : Ct Tryz.prog 101 [flp x] (tupp [anyp, isv (.int .i64 (frxE x))]) := by
 refine Ct.of Tryz.func101 rfl (by kernel_rfl) rfl fun c0 => ?_
 refine zF (zG [] (.n (zB (Lk.fk rfl (by decide +kernel)))<|.n (zB (.k rfl))<|.nil) ff rfl fun g1 => ⟨_, _, [], rfl, (.k 0 rfl<|.nil), (.nil), ?_⟩)
 refine zC<|zF<|zH (zK (.k rfl)) (fun h1 => ?_) (fun h1 => ?_)
 ·have h1' := h1
  try simp only [cmpB, Z] at h1
  cases h1'
 ·have h1' := h1
  try simp only [cmpB, Z] at h1
  refine yE<|zC<|zF (zG [] (.n (zA (.t rfl))<|.n (zP (frexp_ok hx hz) ⟨(.t rfl),  trivial⟩)<|.n (yJ (.t rfl) rfl)<|.n (yJ (.t rfl) rfl)<|.n (zB (.t rfl))<|.n (zB (.t rfl))<|.nil) ff rfl fun g2 => ⟨_, _, [], rfl, (.k 2 rfl<|.k 3 rfl<|.nil), (.nil), ?_⟩)
  refine zC<|yF<|zQ (.cons (.tmp (.t rfl))<|.cons (.tmp (.t rfl))<|.nil) (zM (sb_res (.cons zL<|.cons zL<|.nil)) ?_)
  exact zL
theorem sbit_ok {x : Nat} (hn : nanB x = false) : Ct Tryz.prog 82 [flp x] (isv (.bool (sgn x))) := by
 refine Ct.of Tryz.func82 rfl (by kernel_rfl) rfl fun c0 => ?_
 refine J_fl 0 rfl fun hx1 hx2 => ?_
 refine zF (zG [] (.n (zB (.k rfl))<|.nil) ff rfl fun g1 => ⟨_, _, [], rfl, (.k 0 rfl<|.nil), (.nil), ?_⟩)
 refine zC<|zF (zG [] (.n (zA (.t rfl))<|.n (op_f64bitsn bitsX hn (.t rfl))<|.n (yG it34 it2 (.t rfl) rfl)<|.n (yB (by simp) (.t rfl) (.k rfl) rfl)<|.n (zB (.t rfl))<|.nil) ff rfl fun g2 => ⟨_, _, [], rfl, (.k 2 rfl<|.nil), (.nil), ?_⟩)
 refine zC<|yF<|zQ (.cons (.tmp (.t rfl))<|.nil) (zM (yD zL) ?_)
 exact ret_b (sgn_i64 hx1)
theorem cpsgn_ok {y : Nat} (hn : nanB y = false) (hy : y < 2 ^ 64) : Ct Tryz.prog 120 [flp 0, flp y] (flp (if sgn y = true then NEG0 else 0)) := by
 refine Ct.of Tryz.func120 rfl (by kernel_rfl) rfl fun c0 => ?_
 refine zF (zG [] (.n (zB (Lk.fk rfl (by decide +kernel)))<|.nil) ff rfl fun g1 => ⟨_, _, [], rfl, (.k 0 rfl<|.k 1 rfl<|.nil), (.nil), ?_⟩)
 refine zC<|zF (zG [] (.n (zA (.t rfl))<|.n (op_f64bitsn bitsX (show nanB 0 = false by decide +kernel) (.t rfl))<|.n (op_bits (by simp) (.t rfl) (.k rfl) rfl)<|.n (zA (.t rfl))<|.n (op_f64bitsn bitsX hn (.t rfl))<|.n (op_bits (by simp) (.t rfl) (.k rfl) rfl)<|.n (op_bits (by simp) (.t rfl) (.t rfl) (sign_bits hy))<|.n (op_f64from fromX (show (if sgn y = true then NEG0 else 0) < 2 ^ 64 by split <;> decide) (.t rfl))<|.n (zB (.t rfl))<|.nil) ff rfl fun g2 => ⟨_, _, [], rfl, (.k 4 rfl<|.nil), (.nil), ?_⟩)
 refine zC<|yF<|zQ (.cons (.tmp (.t rfl))<|.nil) (zM (yD zL) ?_)
 exact ret_f (top_cn _)
theorem minf1_ok  : Ct Tryz.prog 121 [isv (.int .i64 1)] (flp PINF) := by
 refine Ct.of Tryz.func121 rfl (by kernel_rfl) rfl fun c0 => ?_
 refine zF (zG [] (.n (zB (Lk.fk rfl (by decide +kernel)))<|.nil) ff rfl fun g1 => ⟨_, _, [], rfl, (.k 0 rfl<|.nil), (.nil), ?_⟩)
 refine zC<|zF (zG [] (.n (zB (.k rfl))<|.nil) ff rfl fun g2 => ⟨_, _, [], rfl, (.k 0 rfl<|.nil), (.nil), ?_⟩)
 refine zC<|zF<|zF (zG [] (.n (zA (.t rfl))<|.n (yB (by simp) (.t rfl) (.k rfl) rfl)<|.nil) ff rfl fun g3 => ⟨_, _, [], rfl, (.k 5 rfl<|.nil), (.nil), ?_⟩)
 refine zC<|zH (zK (.t rfl)) (fun h1 => ?_) (fun h1 => ?_)
 ·have h1' := h1
  try simp only [cmpB, Z] at h1
  refine (zG [] (.n (zB (.k rfl))<|.nil) ff rfl fun g4 => ⟨_, _, [], rfl, (.k 3 rfl<|.nil), (.nil), ?_⟩)
  refine zC<|zF (zG [] (.n (zA (.t rfl))<|.n (op_f64from (b := 9218868437227405312) fromX (by decide) (.t rfl))<|.n (zB (.t rfl))<|.nil) ff rfl fun g5 => ⟨_, _, [], rfl, (.k 2 rfl<|.nil), (.nil), ?_⟩)
  refine zC<|yF<|zQ (.cons (.tmp (.t rfl))<|.nil) (zM (yD zL) ?_)
  exact ret_f (by decide +kernel)
 ·have h1' := h1
  try simp only [cmpB, Z] at h1
  exact absurd h1' (by decide)
theorem minf0_ok  : Ct Tryz.prog 121 [isv (.int .i64 (-1))] (flp NINF) := by
 refine Ct.of Tryz.func121 rfl (by kernel_rfl) rfl fun c0 => ?_
 refine zF (zG [] (.n (zB (Lk.fk rfl (by decide +kernel)))<|.nil) ff rfl fun g1 => ⟨_, _, [], rfl, (.k 0 rfl<|.nil), (.nil), ?_⟩)
 refine zC<|zF (zG [] (.n (zB (.k rfl))<|.nil) ff rfl fun g2 => ⟨_, _, [], rfl, (.k 0 rfl<|.nil), (.nil), ?_⟩)
 refine zC<|zF<|zF (zG [] (.n (zA (.t rfl))<|.n (yB (by simp) (.t rfl) (.k rfl) rfl)<|.nil) ff rfl fun g3 => ⟨_, _, [], rfl, (.k 5 rfl<|.nil), (.nil), ?_⟩)
 refine zC<|zH (zK (.t rfl)) (fun h1 => ?_) (fun h1 => ?_)
 ·have h1' := h1
  try simp only [cmpB, Z] at h1
  exact absurd h1' (by decide)
 ·have h1' := h1
  try simp only [cmpB, Z] at h1
  refine (zG [] (.n (zB (.k rfl))<|.nil) ff rfl fun g4 => ⟨_, _, [], rfl, (.k 3 rfl<|.nil), (.nil), ?_⟩)
  refine zC<|zF (zG [] (.n (zA (.t rfl))<|.n (op_f64from (b := 18442240474082181120) fromX (by decide) (.t rfl))<|.n (zB (.t rfl))<|.nil) ff rfl fun g5 => ⟨_, _, [], rfl, (.k 2 rfl<|.nil), (.nil), ?_⟩)
  refine zC<|yF<|zQ (.cons (.tmp (.t rfl))<|.nil) (zM (yD zL) ?_)
  exact ret_f (by decide +kernel)
theorem ldexp_ok {x : Nat} {k : Int} (y0 : -6000 ≤ k) (y1 : k ≤ 6000) : Ct Tryz.prog 104 [flp x, isv (.int .i64 k)] (flp (ldx x k)) := by
 refine Ct.of Tryz.func104 rfl (by kernel_rfl) rfl fun c0 => ?_
 refine J_fl 0 rfl fun hx1 hx2 => ?_
 refine zF (zG [] (.n (zB (Lk.fk rfl (by decide +kernel)))<|.nil) ff rfl fun g1 => ⟨_, _, [], rfl, (.k 0 rfl<|.k 1 rfl<|.nil), (.nil), ?_⟩)
 refine zC<|zF<|zT<|zF (zG [] (.n (zA (.t rfl))<|.n (op_fcmp (by simp) (.t rfl) (Lk.fk rfl (by decide +kernel)) rfl)<|.n (zB (.t rfl))<|.nil) ff rfl fun g2 => ⟨_, _, [], rfl, (.k 0 rfl<|.k 1 rfl<|.k 8 rfl<|.nil), (.nil), ?_⟩)
 refine zC<|zH (zK (.t rfl)) (fun h1 => ?_) (fun h1 => ?_)
 ·have h1' := h1
  try simp only [cmpB, Z] at h1
  refine zF (zG [] (.n (zA (.t rfl))<|.n (zB (.t rfl))<|.nil) ff rfl fun g3 => ⟨_, _, [], rfl, (.k 4 rfl<|.nil), (.nil), ?_⟩)
  refine zC<|yF<|yP<|zD<|zQ (.cons (.tmp (.t rfl))<|.nil) (zM (yD zL) ?_)
  exact ret_f (ldx_0 h1')
 ·have h1' := h1
  try simp only [cmpB, Z] at h1
  refine zF (zG [] (.n (zA (.t rfl))<|.n (zP (isinf_ok) ⟨(.t rfl), (.k rfl),  trivial⟩)<|.n (zA (.t rfl))<|.n (yA rfl rfl (gd_b rfl) (fun hC => (zA (.t rfl))))<|.n (yA rfl rfl (gd_b rfl) (fun hC => (zP (isnan_ok) ⟨(.w rfl hC),  trivial⟩)))<|.n (op_or (.t rfl) (fun h2 => (.w rfl h2)))<|.n (zB (.t rfl))<|.nil) ff rfl fun g4 => ⟨_, _, [], rfl, (.k 0 rfl<|.k 1 rfl<|.k 12 rfl<|.nil), (.nil), ?_⟩)
  refine zC<|zH (zK (.t rfl)) (fun h2 => ?_) (fun h2 => ?_)
  ·have h2' := h2
   try simp only [cmpB, Z] at h2
   refine zF (zG [] (.n (zA (.t rfl))<|.n (zB (.t rfl))<|.nil) ff rfl fun g5 => ⟨_, _, [], rfl, (.k 4 rfl<|.nil), (.nil), ?_⟩)
   refine zC<|yF<|yP<|zD<|zQ (.cons (.tmp (.t rfl))<|.nil) (zM (yD zL) ?_)
   exact ret_f (ldx_not h1' h2')
  ·have h2' := h2
   try simp only [cmpB, Z] at h2
   have hf := fin_of_not hx1 h2'
   obtain ⟨hn1, hn2⟩ := nrm_nan hx1 hf
   have hn3 := @nrm_snd x
   have hn4 := expo_lt (nrmR x).1
   have hE : ldE x k = k + (nrmR x).2 + ((expo (nrmR x).1 : Int) - 1023) := rfl
   refine yE<|zR<|zC<|zF (zG [] (.n (zA (.t rfl))<|.n (zP (nrm_ok) ⟨(.t rfl),  trivial⟩)<|.n (zA (.t rfl))<|.n (yJ (.t rfl) rfl)<|.n (yJ (.t rfl) rfl)<|.n (zB (.t rfl))<|.n (zB (.t rfl))<|.nil) ff rfl fun g6 => ⟨_, _, [], rfl, (.k 0 rfl<|.k 1 rfl<|.k 5 rfl<|.nil), (.nil), ?_⟩)
   refine zC<|zF (zG [] (.n (zA (.t rfl))<|.n (zA (.t rfl))<|.n (yK (.t rfl) (.t rfl) (zO (by omega) (by omega)))<|.n (zB (.t rfl))<|.nil) ff rfl fun g7 => ⟨_, _, [], rfl, (.k 0 rfl<|.k 1 rfl<|.nil), (.nil), ?_⟩)
   refine zC<|zF (zG [] (.n (zA (.t rfl))<|.n (op_f64bitsn bitsX hn1 (.t rfl))<|.n (zB (.t rfl))<|.nil) ff rfl fun g8 => ⟨_, _, [], rfl, (.k 0 rfl<|.k 1 rfl<|.k 6 rfl<|.nil), (.nil), ?_⟩)
   refine zC<|zF (zG [] (.n (zA (.t rfl))<|.n (zA (.t rfl))<|.n (op_shr (.t rfl) (.k rfl) (by omega) (shr_bits (nrmR x).1 52 (by omega)))<|.n (yG it34 it3 (.t rfl) (zO (by omega) (by omega)))<|.n (op_bits (by simp) (.t rfl) (.k rfl) (expo_i64b hn2))<|.n (op_sub (.t rfl) (.k rfl) (zO (by omega) (by omega)))<|.n (yK (.t rfl) (.t rfl) (zO (by omega) (by omega)))<|.n (zB (.t rfl))<|.nil) ff rfl fun g9 => ⟨_, _, [], rfl, (.k 0 rfl<|.k 1 rfl<|.k 6 rfl<|.nil), (.nil), ?_⟩)
   refine zC<|zF<|zF (zG [] (.n (zA (.t rfl))<|.n (yB (by simp) (.t rfl) (.k rfl) rfl)<|.nil) ff rfl fun g10 => ⟨_, _, [], rfl, (.k 0 rfl<|.k 1 rfl<|.k 6 rfl<|.k 38 rfl<|.nil), (.nil), ?_⟩)
   refine zC<|zH (zK (.t rfl)) (fun h3 => ?_) (fun h3 => ?_)
   ·try simp only [cmpB, Z] at h3
    refine zF (zG [] (.n (zA (.t rfl))<|.n (zP (cpsgn_ok hn1 hn2) ⟨(Lk.fk rfl (by decide +kernel)), (.t rfl),  trivial⟩)<|.n (zB (.t rfl))<|.nil) ff rfl fun g11 => ⟨_, _, [], rfl, (.k 4 rfl<|.nil), (.nil), ?_⟩)
    refine zC<|yF<|zD<|zQ (.cons (.tmp (.t rfl))<|.nil) (zM (yD zL) ?_)
    exact ret_f (ldx_lo h1' h2' (by omega))
   ·try simp only [cmpB, Z] at h3
    refine yE<|zC<|zF<|zF (zG [] (.n (zA (.t rfl))<|.n (yB (by simp) (.t rfl) (.k rfl) rfl)<|.nil) ff rfl fun g12 => ⟨_, _, [], rfl, (.k 0 rfl<|.k 1 rfl<|.k 6 rfl<|.k 42 rfl<|.nil), (.nil), ?_⟩)
    refine zC<|zH (zK (.t rfl)) (fun h4 => ?_) (fun h4 => ?_)
    ·try simp only [cmpB, Z] at h4
     refine zF<|zF (zG [] (.n (zA (.t rfl))<|.n (op_fcmp (by simp) (.t rfl) (Lk.fk rfl (by decide +kernel)) rfl)<|.nil) ff rfl fun g13 => ⟨_, _, [], rfl, (.k 44 rfl<|.nil), (.nil), ?_⟩)
     refine zC<|zH (zK (.t rfl)) (fun h5 => ?_) (fun h5 => ?_)
     ·have h5' := h5
      try simp only [cmpB, Z] at h5
      refine zF (zG [] (.n (zP (minf0_ok) ⟨(.k rfl),  trivial⟩)<|.n (zB (.t rfl))<|.nil) ff rfl fun g14 => ⟨_, _, [], rfl, (.k 4 rfl<|.nil), (.nil), ?_⟩)
      refine zC<|yF<|zD<|zD<|zQ (.cons (.tmp (.t rfl))<|.nil) (zM (yD zL) ?_)
      exact ret_f (ldx_ni h1' h2' (by omega) (by omega) h5')
     ·have h5' := h5
      try simp only [cmpB, Z] at h5
      refine yE<|zC<|zF (zG [] (.n (zP (minf1_ok) ⟨(.k rfl),  trivial⟩)<|.n (zB (.t rfl))<|.nil) ff rfl fun g15 => ⟨_, _, [], rfl, (.k 4 rfl<|.nil), (.nil), ?_⟩)
      refine zC<|yF<|zD<|zQ (.cons (.tmp (.t rfl))<|.nil) (zM (yD zL) ?_)
      exact ret_f (ldx_pi h1' h2' (by omega) (by omega) h5')
    ·try simp only [cmpB, Z] at h4
     refine yE<|zC<|zF (zG [] (.n (zB (Lk.fk rfl (by decide +kernel)))<|.nil) ff rfl fun g16 => ⟨_, _, [], rfl, (.k 1 rfl<|.k 6 rfl<|.k 7 rfl<|.nil), (.nil), ?_⟩)
     refine zC<|zF<|zF (zG [] (.n (zA (.t rfl))<|.n (yB (by simp) (.t rfl) (.k rfl) rfl)<|.nil) ff rfl fun g17 => ⟨_, _, [], rfl, (.k 1 rfl<|.k 6 rfl<|.k 7 rfl<|.k 48 rfl<|.nil), (.nil), ?_⟩)
     refine zC<|zH (zK (.t rfl)) (fun h6 => ?_) (fun h6 => ?_)
     ·try simp only [cmpB, Z] at h6
      refine zF (zG [] (.n (zA (.t rfl))<|.n (yK (.t rfl) (.k rfl) (zO (by omega) (by omega)))<|.n (zB (.t rfl))<|.nil) ff rfl fun g18 => ⟨_, _, [], rfl, (.k 1 rfl<|.k 6 rfl<|.nil), (.nil), ?_⟩)
      refine zC<|(zG [] (.n (zB (Lk.fk rfl (by decide +kernel)))<|.nil) ff rfl fun g19 => ⟨_, _, [], rfl, (.k 1 rfl<|.k 6 rfl<|.k 7 rfl<|.nil), (.nil), ?_⟩)
      refine zC<|zF (zG [] (.n (zA (.t rfl))<|.n (op_bits (by simp) (.t rfl) (.k rfl) (clr_expo _ hn2))<|.n (zB (.t rfl))<|.nil) ff rfl fun g20 => ⟨_, _, [], rfl, (.k 1 rfl<|.k 6 rfl<|.k 7 rfl<|.nil), (.nil), ?_⟩)
      refine zC<|zF (zG [] (.n (zA (.t rfl))<|.n (zA (.t rfl))<|.n (yK (.t rfl) (.k rfl) (zO (by omega) (by omega)))<|.n (yG it3 it34 (.t rfl) (wr64n (by omega) (by omega)))<|.n (op_shl (.t rfl) (.k rfl) (by omega) (shl52 (by omega)))<|.n (op_bits (by simp) (.t rfl) (.t rfl) (set_expo (by omega) (frac_lt _)))<|.n (zB (.t rfl))<|.nil) ff rfl fun g21 => ⟨_, _, [], rfl, (.k 6 rfl<|.k 7 rfl<|.nil), (.nil), ?_⟩)
      refine zC<|zF (zG [] (.n (zA (.t rfl))<|.n (zA (.t rfl))<|.n (op_f64from fromX (ldW_lt (by omega)) (.t rfl))<|.n (op_float (by simp) (.t rfl) (.t rfl) rfl)<|.n (zB (.t rfl))<|.nil) ff rfl fun g22 => ⟨_, _, [], rfl, (.k 4 rfl<|.nil), (.nil), ?_⟩)
      refine zC<|yF<|zQ (.cons (.tmp (.t rfl))<|.nil) (zM (yD zL) ?_)
      exact ret_f (ldx_sub h1' h2' (by omega) (by omega) (by omega))
     ·try simp only [cmpB, Z] at h6
      refine yE<|zC<|zF (zG [] (.n (zA (.t rfl))<|.n (op_bits (by simp) (.t rfl) (.k rfl) (clr_expo _ hn2))<|.n (zB (.t rfl))<|.nil) ff rfl fun g23 => ⟨_, _, [], rfl, (.k 1 rfl<|.k 6 rfl<|.k 7 rfl<|.nil), (.nil), ?_⟩)
      refine zC<|zF (zG [] (.n (zA (.t rfl))<|.n (zA (.t rfl))<|.n (yK (.t rfl) (.k rfl) (zO (by omega) (by omega)))<|.n (yG it3 it34 (.t rfl) (wr64n (by omega) (by omega)))<|.n (op_shl (.t rfl) (.k rfl) (by omega) (shl52 (by omega)))<|.n (op_bits (by simp) (.t rfl) (.t rfl) (set_expo (by omega) (frac_lt _)))<|.n (zB (.t rfl))<|.nil) ff rfl fun g24 => ⟨_, _, [], rfl, (.k 6 rfl<|.k 7 rfl<|.nil), (.nil), ?_⟩)
      refine zC<|zF (zG [] (.n (zA (.t rfl))<|.n (zA (.t rfl))<|.n (op_f64from fromX (ldW_lt (by omega)) (.t rfl))<|.n (op_float (by simp) (.t rfl) (.t rfl) rfl)<|.n (zB (.t rfl))<|.nil) ff rfl fun g25 => ⟨_, _, [], rfl, (.k 4 rfl<|.nil), (.nil), ?_⟩)
      refine zC<|yF<|zQ (.cons (.tmp (.t rfl))<|.nil) (zM (yD zL) ?_)
      exact ret_f (ldx_nrm h1' h2' (by omega) (by omega) (by omega))
theorem Ldexp_ok {x : Nat} {k : Int} (y0 : -6000 ≤ k) (y1 : k ≤ 6000) : Ct Tryz.prog 84 [flp x, isv (.int .i64 k)] (flp (ldx x k)) := by
 refine Ct.of Tryz.func84 rfl (by kernel_rfl) rfl fun c0 => ?_
 refine zF (zG [] (.n (zB (Lk.fk rfl (by decide +kernel)))<|.nil) ff rfl fun g1 => ⟨_, _, [], rfl, (.k 0 rfl<|.k 1 rfl<|.nil), (.nil), ?_⟩)
 refine zC<|zF<|zH (zK (.k rfl)) (fun h1 => ?_) (fun h1 => ?_)
 ·have h1' := h1
  try simp only [cmpB, Z] at h1
  cases h1'
 ·have h1' := h1
  try simp only [cmpB, Z] at h1
  refine yE<|zC<|zF (zG [] (.n (zA (.t rfl))<|.n (zA (.t rfl))<|.n (zP (ldexp_ok y0 y1) ⟨(.t rfl), (.t rfl),  trivial⟩)<|.n (zB (.t rfl))<|.nil) ff rfl fun g2 => ⟨_, _, [], rfl, (.k 4 rfl<|.nil), (.nil), ?_⟩)
  refine zC<|yF<|zQ (.cons (.tmp (.t rfl))<|.nil) (zM (yD zL) ?_)
  exact zL
theorem sqrtX : Ext Tryz.prog 116 Go.Extern.MathSqrt.sqrt := ⟨_, Tryz.func116, by kernel_rfl, by kernel_rfl, by kernel_rfl, by kernel_rfl⟩
theorem sqrt_ok {x : Nat} : Ct Tryz.prog 102 [flp x] (flp (fsqrt x)) := by
 refine Ct.of Tryz.func102 rfl (by kernel_rfl) rfl fun c0 => ?_
 refine zF (zG [] (.n (zB (Lk.fk rfl (by decide +kernel)))<|.nil) ff rfl fun g1 => ⟨_, _, [], rfl, (.k 0 rfl<|.nil), (.nil), ?_⟩)
 refine zC<|zF (zG [] (.n (zA (.t rfl))<|.n (op_f64sqrt sqrtX (.t rfl))<|.n (zB (.t rfl))<|.nil) ff rfl fun g2 => ⟨_, _, [], rfl, (.k 2 rfl<|.nil), (.nil), ?_⟩)
 refine zC<|yF<|zQ (.cons (.tmp (.t rfl))<|.nil) (zM (yD zL) ?_)
 exact zL
theorem qfin_ok {x : Nat} : Ct Tryz.prog 41 [flp x] (isv (.bool (finQ x))) := by
 refine Ct.of Tryz.func41 rfl (by kernel_rfl) rfl fun c0 => ?_
 refine zF (zG [] (.n (zB (.k rfl))<|.nil) ff rfl fun g1 => ⟨_, _, [], rfl, (.k 0 rfl<|.nil), (.nil), ?_⟩)
 refine zC<|zF (zG [] (.n (zA (.t rfl))<|.n (zA (.t rfl))<|.n (op_float (by simp) (.t rfl) (.t rfl) rfl)<|.n (op_fcmp (by simp) (.t rfl) (Lk.fk rfl (by decide +kernel)) rfl)<|.n (zB (.t rfl))<|.nil) ff rfl fun g2 => ⟨_, _, [], rfl, (.k 2 rfl<|.nil), (.nil), ?_⟩)
 refine zC<|yF<|zQ (.cons (.tmp (.t rfl))<|.nil) (zM (yD zL) ?_)
 exact zL
theorem qlist_ok {xs : List Nat} : Ct Tryz.prog 68 [fls xs] (isv (.int .i64 (lchkW xs))) := by
 refine Ct.of Tryz.func68 rfl (by kernel_rfl) rfl fun c0 => ?_
 refine zF (zG [] (.n (zB (.k rfl))<|.nil) ff rfl fun g1 => ⟨_, _, [], rfl, (.k 0 rfl<|.nil), (.nil), ?_⟩)
 refine zC<|zF<|zT<|zF (zG [] (.n (zA (.t rfl))<|.n (yV sl26 (.t rfl))<|.n (yB (by simp) (.t rfl) (.k rfl) rfl)<|.n (zB (.t rfl))<|.nil) ff rfl fun g2 => ⟨_, _, [], rfl, (.k 0 rfl<|.k 3 rfl<|.nil), (.nil), ?_⟩)
 refine zC<|zH (zK (.t rfl)) (fun h1 => ?_) (fun h1 => ?_)
 ·try simp only [cmpB, Z] at h1
  refine zF (zG [] (.n (zB (.k rfl))<|.nil) ff rfl fun g3 => ⟨_, _, [], rfl, (.k 2 rfl<|.nil), (.nil), ?_⟩)
  refine zC<|yF<|yP<|zD<|zQ (.cons (.tmp (.t rfl))<|.nil) (zM (yD zL) ?_)
  exact ret_i (by unfold lchkW; rw [if_pos (by omega)])
 ·try simp only [cmpB, Z] at h1
  refine zF (zG [] (.n (zA (.t rfl))<|.n (zP (finite_ok) ⟨(.t rfl),  trivial⟩)<|.n (op_not (.t rfl))<|.n (zB (.t rfl))<|.nil) ff rfl fun g4 => ⟨_, _, [], rfl, (.k 7 rfl<|.nil), (.nil), ?_⟩)
  refine zC<|zH (zK (.t rfl)) (fun h2 => ?_) (fun h2 => ?_)
  ·try simp only [cmpB, Z] at h2
   refine zF (zG [] (.n (zB (.k rfl))<|.nil) ff rfl fun g5 => ⟨_, _, [], rfl, (.k 2 rfl<|.nil), (.nil), ?_⟩)
   refine zC<|yF<|yP<|zD<|zQ (.cons (.tmp (.t rfl))<|.nil) (zM (yD zL) ?_)
   exact ret_i (by unfold lchkW; rw [if_neg (by omega), if_pos (by simpa using h2)])
  ·try simp only [cmpB, Z] at h2
   refine yE<|zR<|zC<|zF (zG [] (.n (zB (.k rfl))<|.nil) ff rfl fun g6 => ⟨_, _, [], rfl, (.k 2 rfl<|.nil), (.nil), ?_⟩)
   refine zC<|yF<|zQ (.cons (.tmp (.t rfl))<|.nil) (zM (yD zL) ?_)
   exact ret_i (by unfold lchkW; rw [if_neg (by omega), if_neg (by simp [h2])])
theorem power_ok {xs : List Nat} (hF : FinL xs) : Ct Tryz.prog 80 [fls xs] (tupp [isv (.int .i64 (powK xs)), isv (.bool (powB xs))]) := by
 refine Ct.of Tryz.func80 rfl (by kernel_rfl) rfl fun c0 => ?_
 refine J_len 0 rfl fun hlen => ?_
 refine zF (zG [] (.n (zB (.k rfl))<|.n (zB (.k rfl))<|.nil) ff rfl fun g1 => ⟨_, _, [], rfl, (.k 0 rfl<|.nil), (.nil), ?_⟩)
 refine zC<|zF (zG [] (.n (zB (Lk.fk rfl (by decide +kernel)))<|.nil) ff rfl fun g2 => ⟨_, _, [], rfl, (.k 0 rfl<|.k 4 rfl<|.nil), (.nil), ?_⟩)
 refine zC<|zF<|zF (zG [] (.n (zA (.t rfl))<|.n (yV sl26 (.t rfl))<|.n (zA (.k rfl))<|.nil) ff rfl fun g3 => ⟨_, _, [], rfl, (.k 0 rfl<|.k 4 rfl<|.k 9 rfl<|.k 10 rfl<|.nil), (.nil), ?_⟩)
 refine zC<|zT<|J_loopc (α := Nat) (fun k => k ≤ xs.length) (fun k => xs.length - k) (fun k restR => (4, flp (maxTo xs k)) :: (10, isv (.int .i64 (k : Int))) :: restR) (fun k restS => restS) (ρc := [(0, _), (9, _)]) (σc := []) 0 (by exact Nat.zero_le _) (To.pick (fun _ => .sub (t := 4) rfl (yO (by rfl))<|.sub (t := 10) rfl (yO (by rfl))<|.k 0 rfl<|.k 9 rfl<|.nil) (fun _ => .nil) (ks := []) rfl) (fun k hI => ?_)
 refine zF (zG [] (.n (yB (by simp) (.t rfl) (.t rfl) rfl)<|.nil) ff rfl fun g4 => ⟨_, _, [], rfl, (.k 0 rfl<|.k 4 rfl<|.k 9 rfl<|.k 10 rfl<|.k 11 rfl<|.nil), (.nil), ?_⟩)
 refine zC<|zF<|zH (zK (.t rfl)) (fun h1 => ?_) (fun h1 => ?_)
 ·try simp only [cmpB, Z] at h1
  refine yE<|zC<|zF<|zT<|zF (zG [] (.n (zA (.t rfl))<|.n (zB (.t rfl))<|.nil) ff rfl fun g5 => ⟨_, _, [], rfl, (.k 0 rfl<|.k 4 rfl<|.k 5 rfl<|.k 9 rfl<|.k 10 rfl<|.nil), (.nil), ?_⟩)
  refine zC<|(zG [] (.n (zA (.t rfl))<|.n (zA (.t rfl))<|.n (zA (.t rfl))<|.n (yS 0 sl26 (.t rfl) (.t rfl) (by omega) (by omega))<|.n (yC sc36 (.t rfl) rfl)<|.n (zP (abs_ok) ⟨(.t rfl),  trivial⟩)<|.n (op_fmax (.t rfl) (.t rfl))<|.n (zB (.t rfl))<|.nil) ff rfl fun g6 => ⟨_, _, [], rfl, (.k 0 rfl<|.k 4 rfl<|.k 9 rfl<|.k 10 rfl<|.nil), (.nil), ?_⟩)
  refine zR<|zC<|(zG [] (.n (yK (.t rfl) (.k rfl) (zO (by omega) (by omega)))<|.n (zA (.t rfl))<|.nil) ff rfl fun g7 => ⟨_, _, [], rfl, (.k 0 rfl<|.k 4 rfl<|.k 9 rfl<|.k 10 rfl<|.nil), (.nil), ?_⟩)
  exact yW (k + 1) (by omega) (by omega) (To.pick (fun _ => .sub (t := 4) rfl (yO (by rfl))<|.sub (t := 10) rfl (yO (by rfl))<|.k 0 rfl<|.k 9 rfl<|.nil) (fun _ => .nil) (ks := []) rfl)
 ·try simp only [cmpB, Z] at h1
  have hk : k = xs.length := by omega
  refine J_exit ?_
  refine zE<|zE<|zS<|zC<|zF<|zF (zG [] (.n (zA (.t rfl))<|.n (op_fcmp (by simp) (.t rfl) (Lk.fk rfl (by decide +kernel)) rfl)<|.nil) ff rfl fun g8 => ⟨_, _, [], rfl, (.k 4 rfl<|.k 22 rfl<|.nil), (.nil), ?_⟩)
  refine zC<|zH (zK (.t rfl)) (fun h2 => ?_) (fun h2 => ?_)
  ·have h2' := h2
   try simp only [cmpB, Z] at h2
   refine zF (zG [] (.n (zB (.k rfl))<|.n (zB (.k rfl))<|.nil) ff rfl fun g9 => ⟨_, _, [], rfl, (.k 2 rfl<|.k 3 rfl<|.nil), (.nil), ?_⟩)
   refine zC<|yF<|zD<|zQ (.cons (.tmp (.t rfl))<|.cons (.tmp (.t rfl))<|.nil) (zM (sb_res (.cons zL<|.cons zL<|.nil)) ?_)
   exact sb_eq (by have e : powB xs = false := (by unfold powB maxL; rw [← hk, h2']; rfl); unfold powK; rw [e]; rfl)
  ·have h2' := h2
   try simp only [cmpB, Z] at h2
   have hz0 : fcmp .eql (maxTo xs k) 0 = false := h2'
   have hrg := frx_rng (maxTo xs k)
   refine yE<|zC<|zF (zG [] (.n (zA (.t rfl))<|.n (zP (Frexp_ok (maxTo_fin hF _) hz0) ⟨(.t rfl),  trivial⟩)<|.n (zA (.t rfl))<|.n (yJ (.t rfl) rfl)<|.n (yJ (.t rfl) rfl)<|.n (zB (.t rfl))<|.n (zB (.t rfl))<|.nil) ff rfl fun g10 => ⟨_, _, [], rfl, (.k 7 rfl<|.nil), (.nil), ?_⟩)
   refine zC<|zF (zG [] (.n (zA (.t rfl))<|.n (op_sub (.t rfl) (.k rfl) (zO (by omega) (by omega)))<|.n (zB (.t rfl))<|.n (zB (.k rfl))<|.nil) ff rfl fun g11 => ⟨_, _, [], rfl, (.k 2 rfl<|.k 3 rfl<|.nil), (.nil), ?_⟩)
   refine zC<|yF<|zQ (.cons (.tmp (.t rfl))<|.cons (.tmp (.t rfl))<|.nil) (zM (sb_res (.cons zL<|.cons zL<|.nil)) ?_)
   exact sb_eq (by have e : powB xs = true := (by unfold powB maxL; rw [← hk, h2']; rfl); unfold powK; rw [e, if_pos rfl]; unfold maxL; rw [← hk])
theorem scaledF_ok {xs : List Nat} {k : Int} (h0 : -3000 ≤ k) (h1 : k ≤ 3000) (h9 : xs.length ≤ 1000) : CtF Tryz.prog 81 [fls xs, isv (.int .i64 k)] (tp0) (fun u => tupp [isv u, flp (sclN xs k)]) (fun u => som u flp (sclL xs k) 36) := by
 refine CtF.of Tryz.func81 rfl (by kernel_rfl) rfl fun c0 => ?_
 refine zF (zG [] (.n (zB (.k rfl))<|.n (zB (Lk.fk rfl (by decide +kernel)))<|.nil) ff rfl fun g1 => ⟨_, _, [], rfl, (.k 0 rfl<|.k 1 rfl<|.nil), (.nil), ?_⟩)
 refine zC<|yN (To.emps 1) ?_
 refine zF (zG [] (.n (zA (.t rfl))<|.n (yV sl26 (.t rfl))<|.w 0 (op_make_m (mk := flp) 0 0 sl26 zr36 rfl (fun _ => flp_zero) (.t rfl) (.t rfl) (by omega) (by omega) (by omega) (by omega) rfl)<|.n (yX rfl rfl)<|.nil) ff rfl fun g2 => ⟨_, _, [0], rfl, (.k 0 rfl<|.k 1 rfl<|.k 6 rfl<|.nil), (.k 0 rfl<|.nil), ?_⟩)
 refine zC<|zF (zG [] (.n (zB (Lk.fk rfl (by decide +kernel)))<|.nil) ff rfl fun g3 => ⟨_, _, [0], rfl, (.k 0 rfl<|.k 1 rfl<|.k 6 rfl<|.k 7 rfl<|.nil), (.k 0 rfl<|.nil), ?_⟩)
 refine zC<|zF<|zF (zG [] (.n (zA (.t rfl))<|.n (yV sl26 (.t rfl))<|.n (zA (.k rfl))<|.nil) ff rfl fun g4 => ⟨_, _, [0], rfl, (.k 0 rfl<|.k 1 rfl<|.k 6 rfl<|.k 7 rfl<|.k 13 rfl<|.k 14 rfl<|.nil), (.k 0 rfl<|.nil), ?_⟩)
 refine zC<|zT<|J_loopc (α := Nat) (fun j => j ≤ xs.length) (fun j => xs.length - j) (fun j restR => (14, isv (.int .i64 (j : Int))) :: (7, flp (dotTo (sclL xs k) (sclL xs k) j)) :: restR) (fun j restS => som (g2 11) flp (sclP xs k j) 36 :: restS) (ρc := [(0, _), (1, _), (6, _), (13, _)]) (σc := []) 0 (by exact Nat.zero_le _) (To.pick (fun _ => .sub (t := 14) rfl (yO (by rfl))<|.sub (t := 7) rfl (yO (by rfl))<|.k 0 rfl<|.k 1 rfl<|.k 6 rfl<|.k 13 rfl<|.nil) (fun _ => .sub 0 rfl ((yQ (by rw [sclP_zero]; rfl)))<|.nil) (ks := [0]) rfl) (fun j hI => ?_)
 refine zF (zG [] (.n (yB (by simp) (.t rfl) (.t rfl) rfl)<|.nil) ff rfl fun g5 => ⟨_, _, [0], rfl, (.k 0 rfl<|.k 1 rfl<|.k 6 rfl<|.k 7 rfl<|.k 13 rfl<|.k 14 rfl<|.k 15 rfl<|.nil), (.k 0 rfl<|.nil), ?_⟩)
 refine zC<|zF<|zH (zK (.t rfl)) (fun h1 => ?_) (fun h1 => ?_)
 ·try simp only [cmpB, Z] at h1
  have hl1 := length_sclP (xs := xs) (k := k) (j := j) (by omega)
  have hl2 : ((sclP xs k j).set ((j : Int)).toNat (ldx (xs.getD ((j : Int)).toNat 0) (-k))).length = xs.length := by rw [List.length_set]; exact hl1
  refine yE<|zC<|zF<|zT<|zF (zG [] (.n (zA (.t rfl))<|.n (zB (.t rfl))<|.nil) ff rfl fun g6 => ⟨_, _, [0], rfl, (.k 0 rfl<|.k 1 rfl<|.k 6 rfl<|.k 7 rfl<|.k 8 rfl<|.k 13 rfl<|.k 14 rfl<|.nil), (.k 0 rfl<|.nil), ?_⟩)
  refine zC<|zF (zG [] (.n (zA (.t rfl))<|.n (zA (.t rfl))<|.n (zA (.t rfl))<|.n (zA (.t rfl))<|.n (yS 0 sl26 (.t rfl) (.t rfl) (by omega) (by omega))<|.n (yC sc36 (.t rfl) rfl)<|.n (zA (.t rfl))<|.n (op_neg (.t rfl) (zO (by omega) (by omega)))<|.n (zP (Ldexp_ok (by omega) (by omega)) ⟨(.t rfl), (.t rfl),  trivial⟩)<|.r 0 (yH 0 sl26 (.t rfl) (.t rfl) rfl (by omega) (by omega))<|.w 0 (op_store_som 0 (.t rfl) (.t rfl) co_flp sz36 rfl (by omega))<|.nil) ff rfl fun g7 => ⟨_, _, [0], rfl, (.k 0 rfl<|.k 1 rfl<|.k 6 rfl<|.k 7 rfl<|.k 8 rfl<|.k 13 rfl<|.k 14 rfl<|.nil), (.k 0 rfl<|.nil), ?_⟩)
  refine zC<|(zG [[], [], [], [1, 2], [1, 2, 3], [], [], [5, 6], [5, 6, 7], [1, 2, 3, 4, 5, 6, 7, 8], [0, 1, 2, 3, 4, 5, 6, 7, 8, 9], [0, 1, 2, 3, 4, 5, 6, 7, 8, 9, 10]] (.n (zA (.t rfl))<|.n (zA (.t rfl))<|.n (zA (.t rfl))<|.r 0 (yH 0 sl26 (.t rfl) (.t rfl) rfl (by omega) (by omega))<|.r 0 (op_get_som 0 0 sc36 (.t rfl) rfl (by omega))<|.n (zA (.t rfl))<|.n (zA (.t rfl))<|.r 0 (yH 0 sl26 (.t rfl) (.t rfl) rfl (by omega) (by omega))<|.r 0 (op_get_som 0 0 sc36 (.t rfl) rfl (by omega))<|.n (op_float (by simp) (.t rfl) (.t rfl) rfl)<|.n (op_float (by simp) (.t rfl) (.t rfl) rfl)<|.n (zB (.t rfl))<|.nil) (fun _ => mixed) rfl fun g8 => ⟨_, _, [0], rfl, (.k 0 rfl<|.k 1 rfl<|.k 6 rfl<|.k 7 rfl<|.k 13 rfl<|.k 14 rfl<|.nil), (.k 0 rfl<|.nil), ?_⟩)
  refine zR<|zC<|(zG [] (.n (yK (.t rfl) (.k rfl) (zO (by omega) (by omega)))<|.n (zA (.t rfl))<|.nil) ff rfl fun g9 => ⟨_, _, [0], rfl, (.k 0 rfl<|.k 1 rfl<|.k 6 rfl<|.k 7 rfl<|.k 13 rfl<|.k 14 rfl<|.nil), (.k 0 rfl<|.nil), ?_⟩)
  exact yW (j + 1) (by omega) (by omega) (To.pick (fun _ => .sub (t := 14) rfl (yO (by rfl))<|.sub (t := 7) rfl (yO (by exact congrArg flp (scl_step (by omega))))<|.k 0 rfl<|.k 1 rfl<|.k 6 rfl<|.k 13 rfl<|.nil) (fun _ => .sub 0 rfl ((yQ (by rw [← sclP_set (by omega)]; rfl)))<|.nil) (ks := [0]) rfl)
 ·try simp only [cmpB, Z] at h1
  refine J_exit ?_
  refine zE<|zE<|zS<|zC<|zF (zG [] (.n (zA (.t rfl))<|.n (zA (.t rfl))<|.n (zP (sqrt_ok) ⟨(.t rfl),  trivial⟩)<|.n (zB (.t rfl))<|.n (zB (.t rfl))<|.nil) ff rfl fun g10 => ⟨_, _, [0], rfl, (.k 4 rfl<|.k 5 rfl<|.nil), (.k 0 rfl<|.nil), ?_⟩)
  refine zC<|yF<|JN_to (To.res 0 (r' := som (g2 11) flp (sclL xs k) 36) rfl (yQ (by rw [show j = xs.length by omega, sclP_all])) rfl) ?_
  refine JN_retF2 (u := (g2 11)) 0 rfl rfl (.cons (.tmp (.t rfl))<|.cons (.tmp (.t rfl))<|.nil) (fun v1 v2 c h => h.1) ?_
  exact sb_eq (by rw [scl_end (show j = xs.length by omega)])
theorem scaled_ok {xs : List Nat} {k : Int} (h0 : -3000 ≤ k) (h1 : k ≤ 3000) (h9 : xs.length ≤ 1000) : Ct Tryz.prog 81 [fls xs, isv (.int .i64 k)] (tupp [fls (sclL xs k), flp (sclN xs k)]) := (scaledF_ok h0 h1 h9).ct (fun u => frz_som) fun u => sb_tup (.cons (sb_fk 0 rfl)<|.cons zL<|.nil)
theorem qlen_ok {xs : List Nat} (hF : FinL xs) (h9 : xs.length ≤ 48) : Ct Tryz.prog 78 [fls xs] (flp (lenL xs)) := by
 refine Ct.of Tryz.func78 rfl (by kernel_rfl) rfl fun c0 => ?_
 have hrg := powK_rng xs
 refine zF (zG [] (.n (zB (Lk.fk rfl (by decide +kernel)))<|.nil) ff rfl fun g1 => ⟨_, _, [], rfl, (.k 0 rfl<|.nil), (.nil), ?_⟩)
 refine zC<|zF (zG [] (.n (zA (.t rfl))<|.n (zP (power_ok (by assumption)) ⟨(.t rfl),  trivial⟩)<|.n (zA (.t rfl))<|.n (yJ (.t rfl) rfl)<|.n (yJ (.t rfl) rfl)<|.n (zB (.t rfl))<|.n (zB (.t rfl))<|.nil) ff rfl fun g2 => ⟨_, _, [], rfl, (.k 0 rfl<|.k 3 rfl<|.k 4 rfl<|.nil), (.nil), ?_⟩)
 refine zC<|zF<|zF (zG [] (.n (zA (.t rfl))<|.n (op_not (.t rfl))<|.nil) ff rfl fun g3 => ⟨_, _, [], rfl, (.k 0 rfl<|.k 3 rfl<|.k 13 rfl<|.nil), (.nil), ?_⟩)
 refine zC<|zH (zK (.t rfl)) (fun h1 => ?_) (fun h1 => ?_)
 ·try simp only [cmpB, Z] at h1
  refine zF (zG [] (.n (zB (Lk.fk rfl (by decide +kernel)))<|.nil) ff rfl fun g4 => ⟨_, _, [], rfl, (.k 2 rfl<|.nil), (.nil), ?_⟩)
  refine zC<|yF<|zD<|zQ (.cons (.tmp (.t rfl))<|.nil) (zM (yD zL) ?_)
  exact ret_f (by unfold lenL; rw [if_neg (by simp [h1])])
 ·try simp only [cmpB, Z] at h1
  refine yE<|zC<|zF (zG [] (.n (zA (.t rfl))<|.n (zA (.t rfl))<|.n (zP (scaled_ok (by omega) (by omega) (by omega)) ⟨(.t rfl), (.t rfl),  trivial⟩)<|.n (zA (.t rfl))<|.n (yJ (.t rfl) rfl)<|.n (yJ (.t rfl) rfl)<|.n (zB (.t rfl))<|.n (zB (.t rfl))<|.nil) ff rfl fun g5 => ⟨_, _, [], rfl, (.k 3 rfl<|.k 6 rfl<|.nil), (.nil), ?_⟩)
  refine zC<|zF (zG [] (.n (zA (.t rfl))<|.n (zA (.t rfl))<|.n (zP (Ldexp_ok (by omega) (by omega)) ⟨(.t rfl), (.t rfl),  trivial⟩)<|.n (zB (.t rfl))<|.nil) ff rfl fun g6 => ⟨_, _, [], rfl, (.k 2 rfl<|.nil), (.nil), ?_⟩)
  refine zC<|yF<|zQ (.cons (.tmp (.t rfl))<|.nil) (zM (yD zL) ?_)
  exact ret_f (by unfold lenL; rw [if_pos (by simpa using h1)])
theorem Qlen_ok {xs : List Nat} (hx : xs.all (fun x => decide (x < 2 ^ 64)) = true) : Ct Tryz.prog 33 [fls xs] (resN (lenR xs)) := by
 refine Ct.of Tryz.func33 rfl (by kernel_rfl) rfl fun c0 => ?_
 refine zF (zG [] (.n (zB (Lk.fk rfl (by decide +kernel)))<|.n (zB (.k rfl))<|.nil) ff rfl fun g1 => ⟨_, _, [], rfl, (.k 0 rfl<|.nil), (.nil), ?_⟩)
 refine zC<|zF<|zF (zG [] (.n (zA (.t rfl))<|.n (zP (qlist_ok) ⟨(.t rfl),  trivial⟩)<|.n (zB (.t rfl))<|.nil) ff rfl fun g2 => ⟨_, _, [], rfl, (.k 0 rfl<|.k 4 rfl<|.nil), (.nil), ?_⟩)
 refine zC<|zF (zG [] (.n (zA (.t rfl))<|.n (yB (by simp) (.t rfl) (.k rfl) rfl)<|.nil) ff rfl fun g3 => ⟨_, _, [], rfl, (.k 0 rfl<|.k 4 rfl<|.k 9 rfl<|.nil), (.nil), ?_⟩)
 refine zC<|zH (zK (.t rfl)) (fun h1 => ?_) (fun h1 => ?_)
 ·try simp only [cmpB, Z] at h1
  refine zF (zG [] (.n (zA (.t rfl))<|.n (zB (Lk.fk rfl (by decide +kernel)))<|.n (zB (.t rfl))<|.nil) ff rfl fun g4 => ⟨_, _, [], rfl, (.k 2 rfl<|.k 3 rfl<|.nil), (.nil), ?_⟩)
  refine zC<|yF<|zD<|zQ (.cons (.tmp (.t rfl))<|.cons (.tmp (.t rfl))<|.nil) (zM (sb_res (.cons zL<|.cons zL<|.nil)) ?_)
  exact ret_N (by unfold lenR orN; exact (if_neg h1).symm)
 ·try simp only [cmpB, Z] at h1
  obtain ⟨h9, hfa⟩ := lchkW_zero h1
  have hF := finL_all hfa hx
  refine yE<|zC<|zF (zG [] (.n (zA (.t rfl))<|.n (zP (qlen_ok (by assumption) (by omega)) ⟨(.t rfl),  trivial⟩)<|.n (zB (.t rfl))<|.nil) ff rfl fun g5 => ⟨_, _, [], rfl, (.k 5 rfl<|.nil), (.nil), ?_⟩)
  refine zC<|zF<|zF (zG [] (.n (zA (.t rfl))<|.n (zP (qfin_ok) ⟨(.t rfl),  trivial⟩)<|.n (op_not (.t rfl))<|.nil) ff rfl fun g6 => ⟨_, _, [], rfl, (.k 5 rfl<|.k 15 rfl<|.nil), (.nil), ?_⟩)
  refine zC<|zH (zK (.t rfl)) (fun h2 => ?_) (fun h2 => ?_)
  ·try simp only [cmpB, Z] at h2
   refine zF (zG [] (.n (zB (Lk.fk rfl (by decide +kernel)))<|.n (zB (.k rfl))<|.nil) ff rfl fun g7 => ⟨_, _, [], rfl, (.k 2 rfl<|.k 3 rfl<|.nil), (.nil), ?_⟩)
   refine zC<|yF<|zD<|zQ (.cons (.tmp (.t rfl))<|.cons (.tmp (.t rfl))<|.nil) (zM (sb_res (.cons zL<|.cons zL<|.nil)) ?_)
   exact ret_N (by unfold lenR orN; rw [if_pos h1, if_neg (by simp [h2])]; rfl)
  ·try simp only [cmpB, Z] at h2
   refine yE<|zC<|zF (zG [] (.n (zA (.t rfl))<|.n (zB (.t rfl))<|.n (zB (.k rfl))<|.nil) ff rfl fun g8 => ⟨_, _, [], rfl, (.k 2 rfl<|.k 3 rfl<|.nil), (.nil), ?_⟩)
   refine zC<|yF<|zQ (.cons (.tmp (.t rfl))<|.cons (.tmp (.t rfl))<|.nil) (zM (sb_res (.cons zL<|.cons zL<|.nil)) ?_)
   exact ret_N (by unfold lenR orN; rw [if_pos h1, if_pos (by simpa using h2)])
theorem Qlen_ok2 {a b : Nat} (ha : a < 2 ^ 64) (hb : b < 2 ^ 64) : Ct Tryz.prog 33 [slc 2 1 [flp a, flp b]] (resN (lenR [a, b])) := Qlen_ok (xs := [a, b]) (by simp [ha, hb])
theorem givens_ok {a b : Nat} (ha : a < 2 ^ 64) (hb : b < 2 ^ 64) : Ct Tryz.prog 34 [flp a, flp b] (tupp [flp (givR a b).c, flp (givR a b).s, flp (givR a b).r, isv (.int .i64 (givR a b).e)]) := by
 refine Ct.of Tryz.func34 rfl (by kernel_rfl) rfl fun c0 => ?_
 refine zF (zG [] (.n (zB (Lk.fk rfl (by decide +kernel)))<|.n (zB (Lk.fk rfl (by decide +kernel)))<|.n (zB (Lk.fk rfl (by decide +kernel)))<|.n (zB (.k rfl))<|.nil) ff rfl fun g1 => ⟨_, _, [], rfl, (.k 0 rfl<|.k 1 rfl<|.nil), (.nil), ?_⟩)
 refine zC<|zF<|zT<|zF (zG [] (.n (zA (.t rfl))<|.n (zP (qfin_ok) ⟨(.t rfl),  trivial⟩)<|.n (op_not (.t rfl))<|.n (zA (.t rfl))<|.n (yA rfl rfl (gd_b rfl) (fun hC => (zA (.t rfl))))<|.n (yA rfl rfl (gd_b rfl) (fun hC => (zP (qfin_ok) ⟨(.w rfl hC),  trivial⟩)))<|.n (yA rfl rfl (gd_b rfl) (fun hC => (op_not (.w rfl hC))))<|.n (op_or (.t rfl) (fun h2 => (.w rfl h2)))<|.n (zB (.t rfl))<|.nil) ff rfl fun g2 => ⟨_, _, [], rfl, (.k 0 rfl<|.k 1 rfl<|.k 8 rfl<|.nil), (.nil), ?_⟩)
 refine zC<|zH (zK (.t rfl)) (fun h1 => ?_) (fun h1 => ?_)
 ·have h1' := h1
  try simp only [cmpB, Z] at h1
  refine zF (zG [] (.n (zB (Lk.fk rfl (by decide +kernel)))<|.n (zB (Lk.fk rfl (by decide +kernel)))<|.n (zB (Lk.fk rfl (by decide +kernel)))<|.n (zB (.k rfl))<|.nil) ff rfl fun g3 => ⟨_, _, [], rfl, (.k 4 rfl<|.k 5 rfl<|.k 6 rfl<|.k 7 rfl<|.nil), (.nil), ?_⟩)
  refine zC<|yF<|yP<|zD<|zQ (.cons (.tmp (.t rfl))<|.cons (.tmp (.t rfl))<|.cons (.tmp (.t rfl))<|.cons (.tmp (.t rfl))<|.nil) (zM (sb_res (.cons zL<|.cons zL<|.cons zL<|.cons zL<|.nil)) ?_)
  exact sb_eq (by unfold givR; rw [if_pos h1'])
 ·have h1' := h1
  try simp only [cmpB, Z] at h1
  refine zF (zG [] (.n (zA (.t rfl))<|.n (op_fcmp (by simp) (.t rfl) (Lk.fk rfl (by decide +kernel)) rfl)<|.n (zB (.t rfl))<|.nil) ff rfl fun g4 => ⟨_, _, [], rfl, (.k 0 rfl<|.k 1 rfl<|.k 17 rfl<|.nil), (.nil), ?_⟩)
  refine zC<|zH (zK (.t rfl)) (fun h2 => ?_) (fun h2 => ?_)
  ·have h2' := h2
   try simp only [cmpB, Z] at h2
   refine zF (zG [] (.n (zA (.t rfl))<|.n (zB (Lk.fk rfl (by decide +kernel)))<|.n (zB (Lk.fk rfl (by decide +kernel)))<|.n (zB (.t rfl))<|.n (zB (.k rfl))<|.nil) ff rfl fun g5 => ⟨_, _, [], rfl, (.k 4 rfl<|.k 5 rfl<|.k 6 rfl<|.k 7 rfl<|.nil), (.nil), ?_⟩)
   refine zC<|yF<|yP<|zD<|zQ (.cons (.tmp (.t rfl))<|.cons (.tmp (.t rfl))<|.cons (.tmp (.t rfl))<|.cons (.tmp (.t rfl))<|.nil) (zM (sb_res (.cons zL<|.cons zL<|.cons zL<|.cons zL<|.nil)) ?_)
   exact sb_eq (by rw [giv_1 h1' h2']; rfl)
  ·have h2' := h2
   try simp only [cmpB, Z] at h2
   refine zF (zG [] (.n (zA (.t rfl))<|.n (op_fcmp (by simp) (.t rfl) (Lk.fk rfl (by decide +kernel)) rfl)<|.n (zB (.t rfl))<|.nil) ff rfl fun g6 => ⟨_, _, [], rfl, (.k 0 rfl<|.k 1 rfl<|.k 21 rfl<|.nil), (.nil), ?_⟩)
   refine zC<|zH (zK (.t rfl)) (fun h3 => ?_) (fun h3 => ?_)
   ·have h3' := h3
    try simp only [cmpB, Z] at h3
    refine zF (zG [] (.n (zA (.t rfl))<|.n (zB (Lk.fk rfl (by decide +kernel)))<|.n (zB (Lk.fk rfl (by decide +kernel)))<|.n (zB (.t rfl))<|.n (zB (.k rfl))<|.nil) ff rfl fun g7 => ⟨_, _, [], rfl, (.k 4 rfl<|.k 5 rfl<|.k 6 rfl<|.k 7 rfl<|.nil), (.nil), ?_⟩)
    refine zC<|yF<|yP<|zD<|zQ (.cons (.tmp (.t rfl))<|.cons (.tmp (.t rfl))<|.cons (.tmp (.t rfl))<|.cons (.tmp (.t rfl))<|.nil) (zM (sb_res (.cons zL<|.cons zL<|.cons zL<|.cons zL<|.nil)) ?_)
    exact sb_eq (by rw [giv_2 h1' h2' h3']; rfl)
   ·have h3' := h3
    try simp only [cmpB, Z] at h3
    refine yE<|zR<|zC<|zF (zG [] (.n (zA (.t rfl))<|.n (zA (.t rfl))<|.n (op_buildSlice sl26 zr36 rfl rfl rfl rfl (.cons rfl (.t rfl) co_flp rfl (yU rfl (Nat.le_of_ble_eq_true rfl)) (.cons rfl (.t rfl) co_flp rfl (yU rfl (Nat.le_of_ble_eq_true rfl)) .nil)))<|.n (zP (Qlen_ok2 ha hb) ⟨(.t rfl),  trivial⟩)<|.n (zA (.t rfl))<|.n (yJ (.t rfl) rfl)<|.n (yJ (.t rfl) rfl)<|.n (zB (.t rfl))<|.n (zB (.t rfl))<|.nil) ff rfl fun g8 => ⟨_, _, [], rfl, (.k 0 rfl<|.k 1 rfl<|.k 6 rfl<|.k 7 rfl<|.nil), (.nil), ?_⟩)
    refine zC<|zF<|zF (zG [] (.n (zA (.t rfl))<|.n (yB (by simp) (.t rfl) (.k rfl) rfl)<|.nil) ff rfl fun g9 => ⟨_, _, [], rfl, (.k 0 rfl<|.k 1 rfl<|.k 6 rfl<|.k 7 rfl<|.k 33 rfl<|.nil), (.nil), ?_⟩)
    refine zC<|zH (zK (.t rfl)) (fun h4 => ?_) (fun h4 => ?_)
    ·try simp only [cmpB, Z] at h4
     refine zF (zG [] (.n (zA (.t rfl))<|.n (zB (Lk.fk rfl (by decide +kernel)))<|.n (zB (Lk.fk rfl (by decide +kernel)))<|.n (zB (Lk.fk rfl (by decide +kernel)))<|.n (zB (.t rfl))<|.nil) ff rfl fun g10 => ⟨_, _, [], rfl, (.k 4 rfl<|.k 5 rfl<|.k 6 rfl<|.k 7 rfl<|.nil), (.nil), ?_⟩)
     refine zC<|yF<|zD<|zQ (.cons (.tmp (.t rfl))<|.cons (.tmp (.t rfl))<|.cons (.tmp (.t rfl))<|.cons (.tmp (.t rfl))<|.nil) (zM (sb_res (.cons zL<|.cons zL<|.cons zL<|.cons zL<|.nil)) ?_)
     exact sb_eq (by rw [giv_3 h1' h2' h3' h4])
    ·try simp only [cmpB, Z] at h4
     refine yE<|zC<|zF (zG [] (.n (zA (.t rfl))<|.n (zA (.t rfl))<|.n (op_float (by simp) (.t rfl) (.t rfl) rfl)<|.n (zA (.t rfl))<|.n (zA (.t rfl))<|.n (op_float (by simp) (.t rfl) (.t rfl) rfl)<|.n (zA (.t rfl))<|.n (zB (.t rfl))<|.n (zB (.t rfl))<|.n (zB (.t rfl))<|.n (zB (.k rfl))<|.nil) ff rfl fun g11 => ⟨_, _, [], rfl, (.k 4 rfl<|.k 5 rfl<|.k 6 rfl<|.k 7 rfl<|.nil), (.nil), ?_⟩)
     refine zC<|yF<|zQ (.cons (.tmp (.t rfl))<|.cons (.tmp (.t rfl))<|.cons (.tmp (.t rfl))<|.cons (.tmp (.t rfl))<|.nil) (zM (sb_res (.cons zL<|.cons zL<|.cons zL<|.cons zL<|.nil)) ?_)
     exact sb_eq (by rw [giv_4 h1' h2' h3' (by simpa using h4)]; rfl)
theorem houseF_ok {xs : List Nat} (hF : FinL xs) (h9 : xs.length ≤ 48) : CtF Tryz.prog 38 [fls xs] (agN 0) (fun u => aggp [isv u, flp (houseL xs).w, flp (houseL xs).alpha]) (fun u => som u flp (houseL xs).v 36) := by
 refine CtF.of Tryz.func38 rfl (by kernel_rfl) rfl fun c0 => ?_
 have hrg := powK_rng xs
 have hlen := length_sclL xs (powK xs)
 refine yN (To.emps 1) ?_
 refine zF (zG [] (.w 0 (yT 0 zr79 rfl rfl)<|.nil) ff rfl fun g1 => ⟨_, _, [0], rfl, (.k 0 rfl<|.k 2 rfl<|.nil), (.k 0 rfl<|.nil), ?_⟩)
 refine zC<|zF (zG [] (.n (zA (.t rfl))<|.n (zP (power_ok (by assumption)) ⟨(.t rfl),  trivial⟩)<|.n (zA (.t rfl))<|.n (yJ (.t rfl) rfl)<|.n (yJ (.t rfl) rfl)<|.n (zB (.t rfl))<|.n (zB (.t rfl))<|.nil) ff rfl fun g2 => ⟨_, _, [0], rfl, (.k 0 rfl<|.k 2 rfl<|.k 3 rfl<|.k 4 rfl<|.nil), (.k 0 rfl<|.nil), ?_⟩)
 refine zC<|zF<|zF (zG [] (.n (zA (.t rfl))<|.n (op_not (.t rfl))<|.nil) ff rfl fun g3 => ⟨_, _, [0], rfl, (.k 0 rfl<|.k 2 rfl<|.k 3 rfl<|.k 15 rfl<|.nil), (.k 0 rfl<|.nil), ?_⟩)
 refine zC<|zH (zK (.t rfl)) (fun h1 => ?_) (fun h1 => ?_)
 ·try simp only [cmpB, Z] at h1
  refine yN (To.emps 1) ?_
  refine zF (zG [] (.n (zA (.t rfl))<|.n (yV sl26 (.t rfl))<|.w 1 (op_make_m (mk := flp) 0 1 sl26 zr36 rfl (fun _ => flp_zero) (.t rfl) (.t rfl) (by omega) (by omega) (by omega) (by omega) rfl)<|.n (op_ve 18 19 rfl rfl rfl (fun f => (op_build zr79 rfl pl79 (.cons rfl (.t rfl) co_isv rfl (yU rfl (Nat.le_of_ble_eq_true rfl)) .nil))) (fun f g h => by rw [h 18 (show 18 ∈ [18] from by decide)]) rfl)<|.w 0 (op_ver 19 rfl rfl (fun f => yM 0 (.t rfl) (.t rfl) yL sz79 rfl rfl rfl) (fun f g h => by rw [h 18 (show 18 ∈ [18] from by decide)]) rfl)<|.nil) ff rfl fun g4 => ⟨_, _, [0, 1], rfl, (.k 2 rfl<|.nil), (.k 0 rfl<|.k 1 rfl<|.nil), ?_⟩)
  refine zC<|yF<|zD<|JN_to (To.res 1 (r' := som (g4 18) flp (houseL xs).v 36) rfl (yQ (by rw [house_0 (by simpa using h1)]; rfl)) rfl) ?_
  refine JN_retF (u := (g4 18)) 1 rfl rfl (.ag 0 (.t rfl) ag79 rfl rfl rfl) (agN_of rfl) ?_
  exact zM (sb_agg (.cons zL<|.cons sb_fz<|.cons sb_fz<|.nil)) (sb_eq (by rw [house_0 (by simpa using h1)]))
 ·try simp only [cmpB, Z] at h1
  have hb : powB xs = true := by simpa using h1
  have h8 := powB_pos hb
  refine yE<|zC<|yN (To.emps 1) ?_
  refine zF (zG [] (.n (zA (.t rfl))<|.n (zA (.t rfl))<|.w 1 (op_callF 1 (scaledF_ok (by omega) (by omega) (by omega)) ⟨(.t rfl), (.t rfl),  trivial⟩ rfl)<|.n (op_move_ve rfl rfl)<|.n (op_ve 20 24 rfl rfl rfl (fun f => yJ (.t rfl) rfl) (fun f g h => by first | rfl | rw [h 23 (show 23 ∈ [23] from by decide)]) rfl)<|.n (op_ve 20 25 rfl rfl rfl (fun f => yJ (.t rfl) rfl) (fun f g h => by first | rfl | rw [h 23 (show 23 ∈ [23] from by decide)]) rfl)<|.n (yX rfl rfl)<|.n (yX rfl rfl)<|.nil) ff rfl fun g5 => ⟨_, _, [0, 1], rfl, (.k 2 rfl<|.k 3 rfl<|.k 5 rfl<|.k 6 rfl<|.nil), (.k 0 rfl<|.k 1 rfl<|.nil), ?_⟩)
  refine zC<|zF (zG [] (.n (zA (.t rfl))<|.n (zB (.t rfl))<|.nil) ff rfl fun g6 => ⟨_, _, [0, 1], rfl, (.k 2 rfl<|.k 3 rfl<|.k 5 rfl<|.k 6 rfl<|.k 7 rfl<|.nil), (.k 0 rfl<|.k 1 rfl<|.nil), ?_⟩)
  refine zC<|zF<|zF (zG [] (.n (zA (.t rfl))<|.r 1 (yH 1 sl26 (.t rfl) (.k rfl) rfl (by omega) (by omega))<|.r 1 (op_get_som 0 1 sc36 (.t rfl) rfl (by omega))<|.n (zP (sbit_ok (scl_head hF h8)) ⟨(.t rfl),  trivial⟩)<|.n (op_not (.t rfl))<|.nil) ff rfl fun g7 => ⟨_, _, [0, 1], rfl, (.k 2 rfl<|.k 3 rfl<|.k 5 rfl<|.k 6 rfl<|.k 7 rfl<|.k 31 rfl<|.nil), (.k 0 rfl<|.k 1 rfl<|.nil), ?_⟩)
  refine zC<|zH (zK (.t rfl)) (fun h2 => ?_) (fun h2 => ?_)
  ·try simp only [cmpB, Z] at h2
   refine (zG [] (.n (zA (.t rfl))<|.n (op_negf (.t rfl))<|.n (zB (.t rfl))<|.nil) ff rfl fun g8 => ⟨_, _, [0, 1], rfl, (.k 2 rfl<|.k 3 rfl<|.k 5 rfl<|.k 6 rfl<|.k 7 rfl<|.nil), (.k 0 rfl<|.k 1 rfl<|.nil), ?_⟩)
   refine zC<|zF (zG [] (.n (zA (.t rfl))<|.n (zA (.t rfl))<|.n (zA (.t rfl))<|.r 1 (yH 1 sl26 (.t rfl) (.k rfl) rfl (by omega) (by omega))<|.r 1 (op_get_som 0 1 sc36 (.t rfl) rfl (by omega))<|.n (zP (abs_ok) ⟨(.t rfl),  trivial⟩)<|.n (op_float (by simp) (.t rfl) (.t rfl) rfl)<|.n (op_float (by simp) (.t rfl) (.t rfl) rfl)<|.n (zB (.t rfl))<|.nil) ff rfl fun g9 => ⟨_, _, [0, 1], rfl, (.k 2 rfl<|.k 3 rfl<|.k 5 rfl<|.k 7 rfl<|.k 8 rfl<|.nil), (.k 0 rfl<|.k 1 rfl<|.nil), ?_⟩)
   refine zC<|zF (zG [] (.n (zA (.t rfl))<|.r 1 (yH 1 sl26 (.t rfl) (.k rfl) rfl (by omega) (by omega))<|.r 1 (op_get_som 0 1 sc36 (.t rfl) rfl (by omega))<|.n (zA (.t rfl))<|.n (op_float (by simp) (.t rfl) (.t rfl) rfl)<|.r 1 (yH 1 sl26 (.t rfl) (.k rfl) rfl (by omega) (by omega))<|.w 1 (op_store_som 1 (.t rfl) (.t rfl) co_flp sz36 rfl (by omega))<|.nil) ff rfl fun g10 => ⟨_, _, [0, 1], rfl, (.k 2 rfl<|.k 3 rfl<|.k 5 rfl<|.k 7 rfl<|.k 8 rfl<|.nil), (.k 0 rfl<|.k 1 rfl<|.nil), ?_⟩)
   refine zC<|zF (zG [] (.n (zA (.t rfl))<|.n (zA (.t rfl))<|.n (zA (.t rfl))<|.n (zA (.t rfl))<|.n (zP (Ldexp_ok (by omega) (by omega)) ⟨(.t rfl), (.t rfl),  trivial⟩)<|.n (op_build zr79 rfl pl79 (.cons rfl (.t rfl) co_isv rfl (yU rfl (Nat.le_of_ble_eq_true rfl)) (.cons rfl (.t rfl) co_flp rfl (yU rfl (Nat.le_of_ble_eq_true rfl)) (.cons rfl (.t rfl) co_flp rfl (yU rfl (Nat.le_of_ble_eq_true rfl)) .nil))))<|.w 0 (yM 0 (.t rfl) (.t rfl) yL sz79 rfl rfl rfl)<|.nil) ff rfl fun g11 => ⟨_, _, [0, 1], rfl, (.k 2 rfl<|.nil), (.k 0 rfl<|.k 1 rfl<|.nil), ?_⟩)
   refine zC<|yF<|JN_to (To.res 1 (r' := som (tp0 (g5 23)) flp (houseL xs).v 36) rfl (yQ (by rw [house_n hb (by simpa using h2)]; rfl)) rfl) ?_
   refine JN_retF (u := (tp0 (g5 23))) 1 rfl rfl (.ag 0 (.t rfl) ag79 rfl rfl rfl) (agN_of rfl) ?_
   exact sb_eq (by rw [house_n hb (by simpa using h2)]; rfl)
  ·try simp only [cmpB, Z] at h2
   refine yE<|zC<|zF (zG [] (.n (zA (.t rfl))<|.n (zA (.t rfl))<|.n (zA (.t rfl))<|.r 1 (yH 1 sl26 (.t rfl) (.k rfl) rfl (by omega) (by omega))<|.r 1 (op_get_som 0 1 sc36 (.t rfl) rfl (by omega))<|.n (zP (abs_ok) ⟨(.t rfl),  trivial⟩)<|.n (op_float (by simp) (.t rfl) (.t rfl) rfl)<|.n (op_float (by simp) (.t rfl) (.t rfl) rfl)<|.n (zB (.t rfl))<|.nil) ff rfl fun g12 => ⟨_, _, [0, 1], rfl, (.k 2 rfl<|.k 3 rfl<|.k 5 rfl<|.k 7 rfl<|.k 8 rfl<|.nil), (.k 0 rfl<|.k 1 rfl<|.nil), ?_⟩)
   refine zC<|zF (zG [] (.n (zA (.t rfl))<|.r 1 (yH 1 sl26 (.t rfl) (.k rfl) rfl (by omega) (by omega))<|.r 1 (op_get_som 0 1 sc36 (.t rfl) rfl (by omega))<|.n (zA (.t rfl))<|.n (op_float (by simp) (.t rfl) (.t rfl) rfl)<|.r 1 (yH 1 sl26 (.t rfl) (.k rfl) rfl (by omega) (by omega))<|.w 1 (op_store_som 1 (.t rfl) (.t rfl) co_flp sz36 rfl (by omega))<|.nil) ff rfl fun g13 => ⟨_, _, [0, 1], rfl, (.k 2 rfl<|.k 3 rfl<|.k 5 rfl<|.k 7 rfl<|.k 8 rfl<|.nil), (.k 0 rfl<|.k 1 rfl<|.nil), ?_⟩)
   refine zC<|zF (zG [] (.n (zA (.t rfl))<|.n (zA (.t rfl))<|.n (zA (.t rfl))<|.n (zA (.t rfl))<|.n (zP (Ldexp_ok (by omega) (by omega)) ⟨(.t rfl), (.t rfl),  trivial⟩)<|.n (op_build zr79 rfl pl79 (.cons rfl (.t rfl) co_isv rfl (yU rfl (Nat.le_of_ble_eq_true rfl)) (.cons rfl (.t rfl) co_flp rfl (yU rfl (Nat.le_of_ble_eq_true rfl)) (.cons rfl (.t rfl) co_flp rfl (yU rfl (Nat.le_of_ble_eq_true rfl)) .nil))))<|.w 0 (yM 0 (.t rfl) (.t rfl) yL sz79 rfl rfl rfl)<|.nil) ff rfl fun g14 => ⟨_, _, [0, 1], rfl, (.k 2 rfl<|.nil), (.k 0 rfl<|.k 1 rfl<|.nil), ?_⟩)
   refine zC<|yF<|JN_to (To.res 1 (r' := som (tp0 (g5 23)) flp (houseL xs).v 36) rfl (yQ (by rw [house_s hb (by simpa using h2)]; rfl)) rfl) ?_
   refine JN_retF (u := (tp0 (g5 23))) 1 rfl rfl (.ag 0 (.t rfl) ag79 rfl rfl rfl) (agN_of rfl) ?_
   exact sb_eq (by rw [house_s hb (by simpa using h2)]; rfl)
theorem house_ok {xs : List Nat} (hF : FinL xs) (h9 : xs.length ≤ 48) : Ct Tryz.prog 38 [fls xs] (aggp [fls (houseL xs).v, flp (houseL xs).w, flp (houseL xs).alpha]) := (houseF_ok hF h9).ct (fun u => frz_som) fun u => sb_agg (.cons (sb_fk 0 rfl)<|.cons zL<|.cons zL<|.nil)
theorem House_ok {xs : List Nat} (hx : xs.all (fun x => decide (x < 2 ^ 64)) = true) : Ct Tryz.prog 35 [fls xs] (tupp [fls (houseR xs).v, flp (houseR xs).w, flp (houseR xs).alpha, isv (.int .i64 (houseR xs).e)]) := by
 refine Ct.of Tryz.func35 rfl (by kernel_rfl) rfl fun c0 => ?_
 refine zF (zG [] (.n (zB (.k rfl))<|.n (zB (Lk.fk rfl (by decide +kernel)))<|.n (zB (Lk.fk rfl (by decide +kernel)))<|.n (zB (.k rfl))<|.nil) ff rfl fun g1 => ⟨_, _, [], rfl, (.k 0 rfl<|.k 2 rfl<|.k 3 rfl<|.k 4 rfl<|.nil), (.nil), ?_⟩)
 refine zC<|zF<|zF (zG [] (.n (zA (.t rfl))<|.n (zP (qlist_ok) ⟨(.t rfl),  trivial⟩)<|.n (zB (.t rfl))<|.nil) ff rfl fun g2 => ⟨_, _, [], rfl, (.k 0 rfl<|.k 2 rfl<|.k 3 rfl<|.k 4 rfl<|.k 5 rfl<|.nil), (.nil), ?_⟩)
 refine zC<|zF (zG [] (.n (zA (.t rfl))<|.n (yB (by simp) (.t rfl) (.k rfl) rfl)<|.nil) ff rfl fun g3 => ⟨_, _, [], rfl, (.k 0 rfl<|.k 2 rfl<|.k 3 rfl<|.k 4 rfl<|.k 5 rfl<|.k 10 rfl<|.nil), (.nil), ?_⟩)
 refine zC<|zH (zK (.t rfl)) (fun h1 => ?_) (fun h1 => ?_)
 ·try simp only [cmpB, Z] at h1
  refine yF<|zD<|zQ (.cons (.tmp (.t rfl))<|.cons (.tmp (.t rfl))<|.cons (.tmp (.t rfl))<|.cons (.tmp (.t rfl))<|.nil) (zM (sb_res (.cons (sb_nil (mk := flp))<|.cons zL<|.cons zL<|.cons zL<|.nil)) ?_)
  exact sb_eq (by rw [hou_1 h1])
 ·try simp only [cmpB, Z] at h1
  obtain ⟨h9, hfa⟩ := lchkW_zero h1
  have hF := finL_all hfa hx
  refine yE<|zC<|yN (To.emps 1) ?_
  refine zF (zG [] (.n (zA (.t rfl))<|.n (zP (house_ok (by assumption) (by omega)) ⟨(.t rfl),  trivial⟩)<|.w 0 (yT 0 zr79 rfl rfl)<|.w 0 (op_store_new 0 rfl (.t rfl) yL sz79 rfl rfl)<|.nil) ff rfl fun g4 => ⟨_, _, [0], rfl, (.k 6 rfl<|.nil), (.k 0 rfl<|.nil), ?_⟩)
  refine zC<|zF<|zF (zG [] (.n (zI fd79_2 (.t rfl) rfl)<|.r 0 (zN 0 sc36 (.t rfl) rfl zJ rfl)<|.n (zP (qfin_ok) ⟨(.t rfl),  trivial⟩)<|.n (op_not (.t rfl))<|.nil) ff rfl fun g5 => ⟨_, _, [0], rfl, (.k 6 rfl<|.k 16 rfl<|.nil), (.k 0 rfl<|.nil), ?_⟩)
  refine zC<|zH (zK (.t rfl)) (fun h2 => ?_) (fun h2 => ?_)
  ·try simp only [cmpB, Z] at h2
   refine zF (zG [] (.n (zB (.k rfl))<|.n (zB (Lk.fk rfl (by decide +kernel)))<|.n (zB (Lk.fk rfl (by decide +kernel)))<|.n (zB (.k rfl))<|.nil) ff rfl fun g6 => ⟨_, _, [], rfl, (.k 2 rfl<|.k 3 rfl<|.k 4 rfl<|.k 5 rfl<|.nil), (.nil), ?_⟩)
   refine zC<|yF<|zD<|zQ (.cons (.tmp (.t rfl))<|.cons (.tmp (.t rfl))<|.cons (.tmp (.t rfl))<|.cons (.tmp (.t rfl))<|.nil) (zM (sb_res (.cons (sb_nil (mk := flp))<|.cons zL<|.cons zL<|.cons zL<|.nil)) ?_)
   exact sb_eq (by rw [hou_2 h1 (by simpa using h2)])
  ·try simp only [cmpB, Z] at h2
   refine yE<|zC<|zF (zG [[], [0], [], [2], [], [4], [0, 1], [0, 1, 2, 3, 6], [0, 1, 2, 3, 4, 5, 6, 7], [0, 1, 2, 3, 4, 5, 6, 7, 8]] (.n (zI fd79_0 (.t rfl) rfl)<|.r 0 (zN 0 sc26 (.t rfl) rfl zJ rfl)<|.n (zI fd79_1 (.t rfl) rfl)<|.r 0 (zN 0 sc36 (.t rfl) rfl zJ rfl)<|.n (zI fd79_2 (.t rfl) rfl)<|.r 0 (zN 0 sc36 (.t rfl) rfl zJ rfl)<|.n (zB (.t rfl))<|.n (zB (.t rfl))<|.n (zB (.t rfl))<|.n (zB (.k rfl))<|.nil) (fun _ => mixed) rfl fun g7 => ⟨_, _, [], rfl, (.k 2 rfl<|.k 3 rfl<|.k 4 rfl<|.k 5 rfl<|.nil), (.nil), ?_⟩)
   refine zC<|yF<|zQ (.cons (.tmp (.t rfl))<|.cons (.tmp (.t rfl))<|.cons (.tmp (.t rfl))<|.cons (.tmp (.t rfl))<|.nil) (zM (sb_res (.cons zL<|.cons zL<|.cons zL<|.cons zL<|.nil)) ?_)
   exact sb_eq (by rw [hou_3 h1 (by simpa using h2)])
end Go.Proofs.YtllkellonjhalaaGreat
