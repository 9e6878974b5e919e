/- Printed by a program of ours (walk.py): walks of the law of sums. -/
import Derived.Test.YtcpififnffmjfaaGreatDoorZsKb
import Derived.Test.YtcpififnffmjfaaGreatDoorProg
import Derived.KernelRfl
import Derived.Test.YtcpififnffmjfaaGreatDoorZsTypes
import Derived.Test.YtcpififnffmjfaaGreatDoorZsWAwk5
import Derived.Test.YtcpififnffmjfaaGreatDoorZsTps
import Derived.Test.YtcpififnffmjfaaGreatDoorZsAps
set_option linter.unusedVariables false
set_option linter.unusedSimpArgs false
set_option maxRecDepth 20000
set_option maxHeartbeats 4000000
namespace Go.Proofs.YtcpififnffmjfaaGreatDoor
open Go Go.Bn
attribute [local irreducible] OpOK
theorem ldexpK_ok {k : Int} (hk : k = 1000) : Ct Tryz.prog 38 [flp ONE, isv (.int .i64 k)] (flp (P2 1000)) := by
 refine Ct.of Tryz.func38 rfl (by kernel_rfl) rfl fun c0 => ?_
 have y0 : -1000 ≤ k := by omega
 have y1 : k ≤ 1000 := by omega
 refine zF (zG [] (.n (zB (Lk.fk rfl (by decide +kernel)))<|.nil) ff rfl fun g1 => ⟨_, _, [], rfl, (.k 0 rfl<|.k 1 rfl<|.nil), (.nil), ?_⟩)
 refine zC ?_
 refine zF ?_
 refine zT ?_
 refine zF (zG [] (.n (zA (.t rfl))<|.n (op_fcmp (by simp) (.t rfl) (Lk.fk rfl (by decide +kernel)) rfl)<|.n (zB (.t rfl))<|.nil) ff rfl fun g2 => ⟨_, _, [], rfl, (.k 0 rfl<|.k 1 rfl<|.k 8 rfl<|.nil), (.nil), ?_⟩)
 refine zC ?_
 refine zH (zK (.t rfl)) (fun h1 => ?_) (fun h1 => ?_)
 ·have h1' := h1
  try simp only [cmpB, Z] at h1
  exact absurd h1' (by decide +kernel)
 ·have h1' := h1
  try simp only [cmpB, Z] at h1
  refine zF (zG [] (.n (zA (.t rfl))<|.n (zP (isinf_ok) ⟨(.t rfl), (.k rfl),  trivial⟩)<|.n (zA (.t rfl))<|.n (op_guard rfl rfl (gd_b rfl) (fun hC => (zA (.t rfl))))<|.n (op_guard rfl rfl (gd_b rfl) (fun hC => (zP (isnan_ok) ⟨(.w rfl hC),  trivial⟩)))<|.n (op_or (.t rfl) (fun h2 => (.w rfl h2)))<|.n (zB (.t rfl))<|.nil) ff rfl fun g3 => ⟨_, _, [], rfl, (.k 0 rfl<|.k 1 rfl<|.k 12 rfl<|.nil), (.nil), ?_⟩)
  refine zC ?_
  refine zH (zK (.t rfl)) (fun h2 => ?_) (fun h2 => ?_)
  ·have h2' := h2
   try simp only [cmpB, Z] at h2
   exact absurd h2' (by decide +kernel)
  ·have h2' := h2
   try simp only [cmpB, Z] at h2
   refine J_skip ?_
   refine zR ?_
   refine zC ?_
   refine zF (zG [] (.n (zA (.t rfl))<|.n (zP (nrm1) ⟨(.t rfl),  trivial⟩)<|.n (zA (.t rfl))<|.n (op_extract (.t rfl) rfl)<|.n (op_extract (.t rfl) rfl)<|.n (zB (.t rfl))<|.n (zB (.t rfl))<|.nil) ff rfl fun g4 => ⟨_, _, [], rfl, (.k 0 rfl<|.k 1 rfl<|.k 5 rfl<|.nil), (.nil), ?_⟩)
   refine zC ?_
   refine zF (zG [] (.n (zA (.t rfl))<|.n (zA (.t rfl))<|.n (op_add (.t rfl) (.t rfl) (zO (by omega) (by omega)))<|.n (zB (.t rfl))<|.nil) ff rfl fun g5 => ⟨_, _, [], rfl, (.k 0 rfl<|.k 1 rfl<|.nil), (.nil), ?_⟩)
   refine zC ?_
   refine zF (zG [] (.n (zA (.t rfl))<|.n (op_f64bitsn bitsX (show nanB ONE = false by decide +kernel) (.t rfl))<|.n (zB (.t rfl))<|.nil) ff rfl fun g6 => ⟨_, _, [], rfl, (.k 0 rfl<|.k 1 rfl<|.k 6 rfl<|.nil), (.nil), ?_⟩)
   refine zC ?_
   refine zF (zG [] (.n (zA (.t rfl))<|.n (zA (.t rfl))<|.n (op_shr (.t rfl) (.k rfl) (by omega) (shr_bits ONE 52 (by omega)))<|.n (op_conv_int it38 it3 (.t rfl) (show _ = (1023 : Int) by decide +kernel))<|.n (op_bits (by simp) (.t rfl) (.k rfl) (show _ = (1023 : Int) by decide +kernel))<|.n (op_sub (.t rfl) (.k rfl) (zO (by omega) (by omega)))<|.n (op_add (.t rfl) (.t rfl) (zO (by omega) (by omega)))<|.n (zB (.t rfl))<|.nil) ff rfl fun g7 => ⟨_, _, [], rfl, (.k 0 rfl<|.k 1 rfl<|.k 6 rfl<|.nil), (.nil), ?_⟩)
   refine zC ?_
   refine zF ?_
   refine zF (zG [] (.n (zA (.t rfl))<|.n (op_cmp (by simp) (.t rfl) (.k rfl) rfl)<|.nil) ff rfl fun g8 => ⟨_, _, [], rfl, (.k 0 rfl<|.k 1 rfl<|.k 6 rfl<|.k 38 rfl<|.nil), (.nil), ?_⟩)
   refine zC ?_
   refine zH (zK (.t rfl)) (fun h3 => ?_) (fun h3 => ?_)
   ·try simp only [cmpB, Z] at h3
    omega
   ·try simp only [cmpB, Z] at h3
    refine J_skip ?_
    refine zC ?_
    refine zF ?_
    refine zF (zG [] (.n (zA (.t rfl))<|.n (op_cmp (by simp) (.t rfl) (.k rfl) rfl)<|.nil) ff rfl fun g9 => ⟨_, _, [], rfl, (.k 0 rfl<|.k 1 rfl<|.k 6 rfl<|.k 42 rfl<|.nil), (.nil), ?_⟩)
    refine zC ?_
    refine zH (zK (.t rfl)) (fun h4 => ?_) (fun h4 => ?_)
    ·try simp only [cmpB, Z] at h4
     omega
    ·try simp only [cmpB, Z] at h4
     refine J_skip ?_
     refine zC ?_
     refine zF (zG [] (.n (zB (Lk.fk rfl (by decide +kernel)))<|.nil) ff rfl fun g10 => ⟨_, _, [], rfl, (.k 1 rfl<|.k 6 rfl<|.k 7 rfl<|.nil), (.nil), ?_⟩)
     refine zC ?_
     refine zF ?_
     refine zF (zG [] (.n (zA (.t rfl))<|.n (op_cmp (by simp) (.t rfl) (.k rfl) rfl)<|.nil) ff rfl fun g11 => ⟨_, _, [], rfl, (.k 1 rfl<|.k 6 rfl<|.k 7 rfl<|.k 48 rfl<|.nil), (.nil), ?_⟩)
     refine zC ?_
     refine zH (zK (.t rfl)) (fun h5 => ?_) (fun h5 => ?_)
     ·try simp only [cmpB, Z] at h5
      omega
     ·try simp only [cmpB, Z] at h5
      refine J_skip ?_
      refine zC ?_
      refine zF (zG [] (.n (zA (.t rfl))<|.n (op_bits (by simp) (.t rfl) (.k rfl) (show _ = (0 : Int) by decide +kernel))<|.n (zB (.t rfl))<|.nil) ff rfl fun g12 => ⟨_, _, [], rfl, (.k 1 rfl<|.k 6 rfl<|.k 7 rfl<|.nil), (.nil), ?_⟩)
      refine zC ?_
      refine zF (zG [] (.n (zA (.t rfl))<|.n (zA (.t rfl))<|.n (op_add (.t rfl) (.k rfl) (zO (by omega) (by omega)))<|.n (op_conv_int it3 it38 (.t rfl) (show _ = (2023 : Int) by rw [hk]; decide +kernel))<|.n (op_shl (.t rfl) (.k rfl) (by omega) (show _ = ((P2 1000 : Nat) : Int) by decide +kernel))<|.n (op_bits (by simp) (.t rfl) (.t rfl) (show _ = ((P2 1000 : Nat) : Int) by decide +kernel))<|.n (zB (.t rfl))<|.nil) ff rfl fun g13 => ⟨_, _, [], rfl, (.k 6 rfl<|.k 7 rfl<|.nil), (.nil), ?_⟩)
      refine zC ?_
      refine zF (zG [] (.n (zA (.t rfl))<|.n (zA (.t rfl))<|.n (op_f64from (b := P2 1000) fromX (by decide) (.t rfl))<|.n (op_float (by simp) (.t rfl) (.t rfl) rfl)<|.n (zB (.t rfl))<|.nil) ff rfl fun g14 => ⟨_, _, [], rfl, (.k 4 rfl<|.nil), (.nil), ?_⟩)
      refine zC ?_
      refine J_ret ?_
      refine zQ (.cons (.tmp (.t rfl))<|.nil) (zM (sb_res1 zL) ?_)
      exact ret_f (by decide +kernel)
theorem Ldexp1000  : Ct Tryz.prog 12 [flp ONE, isv (.int .i64 1000)] (flp (P2 1000)) := by
 refine Ct.of Tryz.func12 rfl (by kernel_rfl) rfl fun c0 => ?_
 refine zF (zG [] (.n (zB (Lk.fk rfl (by decide +kernel)))<|.nil) ff rfl fun g1 => ⟨_, _, [], rfl, (.k 0 rfl<|.k 1 rfl<|.nil), (.nil), ?_⟩)
 refine zC ?_
 refine zF ?_
 refine zH (zK (.k rfl)) (fun h1 => ?_) (fun h1 => ?_)
 ·have h1' := h1
  try simp only [cmpB, Z] at h1
  cases h1'
 ·have h1' := h1
  try simp only [cmpB, Z] at h1
  refine J_skip ?_
  refine zC ?_
  refine zF (zG [] (.n (zA (.t rfl))<|.n (zA (.t rfl))<|.n (zP (ldexpK_ok rfl) ⟨(.t rfl), (.t rfl),  trivial⟩)<|.n (zB (.t rfl))<|.nil) ff rfl fun g2 => ⟨_, _, [], rfl, (.k 4 rfl<|.nil), (.nil), ?_⟩)
  refine zC ?_
  refine J_ret ?_
  refine zQ (.cons (.tmp (.t rfl))<|.nil) (zM (sb_res1 zL) ?_)
  exact zL
theorem rsame2 {x y : Exa} (h : dyP x = dyP y) (hp : PutH x) : Ct Tryz.prog 14 [dyP x, dyP y] (isv (.bool true)) := (by rw [← h]; exact rsameD_ok (dy_len hp))
end Go.Proofs.YtcpififnffmjfaaGreatDoor
