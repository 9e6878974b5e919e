/- Printed by a program of ours (walk.py): walks of the model: kinds, parts, motions, blocks. -/
import Derived.Test.YtjnmgcglooeooaaGreatDoorPsKb
import Derived.Test.YtjnmgcglooeooaaGreatDoorProg
import Derived.KernelRfl
import Derived.Test.YtjnmgcglooeooaaGreatDoorPsTypes
import Derived.Test.YtjnmgcglooeooaaGreatDoorPsWMat1
import Derived.Test.YtjnmgcglooeooaaGreatDoorPsKc
import Derived.Test.YtjnmgcglooeooaaGreatDoorPsKd
set_option linter.unusedVariables false
set_option linter.unusedSimpArgs false
set_option maxRecDepth 20000
set_option maxHeartbeats 1000000
namespace Go.Proofs.YtjnmgcglooeooaaGreatDoor
open Go Go.Bn
attribute [local irreducible] OpOK
theorem orders_ok {k : Int} : Ct Tryz.prog 19 [isv (.int .i64 k)] (isv (.int .i64 (ordN k))) := by
 refine Ct.of Tryz.func19 rfl (by kernel_rfl) rfl fun c0 => ?_
 refine zF (zG [] (.n (zB (.k rfl))<|.nil) ff rfl fun g1 => ⟨_, _, [], rfl, (.k 0 rfl<|.nil), (.nil), ?_⟩)
 refine zC ?_
 refine zF ?_
 refine zF (zG [] (.n (zA (.t rfl))<|.nil) ff rfl fun g2 => ⟨_, _, [], rfl, (.k 3 rfl<|.nil), (.nil), ?_⟩)
 refine zC ?_
 refine zT ?_
 refine zF ?_
 refine zF (zG [] (.n (op_cmp (by simp) (.t rfl) (.k rfl) rfl)<|.n (zB (.t rfl))<|.nil) ff rfl fun g3 => ⟨_, _, [], rfl, (.k 3 rfl<|.k 4 rfl<|.nil), (.nil), ?_⟩)
 refine zC ?_
 refine zH (zK (.t rfl)) (fun h1 => ?_) (fun h1 => ?_)
 ·try simp only [cmpB, Z] at h1
  refine J_skip ?_
  refine zC ?_
  refine zH (zK (.t rfl)) (fun h2 => ?_) (fun h2 => ?_)
  ·try simp only [cmpB, Z] at h2
   refine zF (zG [] (.n (zB (.k rfl))<|.nil) ff rfl fun g4 => ⟨_, _, [], rfl, (.k 2 rfl<|.nil), (.nil), ?_⟩)
   refine zC ?_
   refine J_ret ?_
   refine JN_block_ret ?_
   refine zD ?_
   refine zQ (.cons (.tmp (.t rfl))<|.nil) (zM (sb_res1 zL) ?_)
   first | exact ret_i (ordN_0 (by omega)).symm | exact ret_i (ordN_2 (by omega)).symm | exact ret_i (ordN_3 (by omega)).symm | exact ret_i (ordN_n (by omega) (by omega) (by omega)).symm
  ·try simp only [cmpB, Z] at h2
   refine zF (zG [] (.n (op_cmp (by simp) (.t rfl) (.k rfl) rfl)<|.n (zB (.t rfl))<|.nil) ff rfl fun g5 => ⟨_, _, [], rfl, (.k 3 rfl<|.k 8 rfl<|.nil), (.nil), ?_⟩)
   refine zC ?_
   refine zH (zK (.t rfl)) (fun h3 => ?_) (fun h3 => ?_)
   ·try simp only [cmpB, Z] at h3
    refine zF (zG [] (.n (zB (.k rfl))<|.nil) ff rfl fun g6 => ⟨_, _, [], rfl, (.k 2 rfl<|.nil), (.nil), ?_⟩)
    refine zC ?_
    refine J_ret ?_
    refine JN_block_ret ?_
    refine zD ?_
    refine zQ (.cons (.tmp (.t rfl))<|.nil) (zM (sb_res1 zL) ?_)
    first | exact ret_i (ordN_0 (by omega)).symm | exact ret_i (ordN_2 (by omega)).symm | exact ret_i (ordN_3 (by omega)).symm | exact ret_i (ordN_n (by omega) (by omega) (by omega)).symm
   ·try simp only [cmpB, Z] at h3
    refine zF (zG [] (.n (op_cmp (by simp) (.t rfl) (.k rfl) rfl)<|.n (zB (.t rfl))<|.nil) ff rfl fun g7 => ⟨_, _, [], rfl, (.k 10 rfl<|.nil), (.nil), ?_⟩)
    refine zC ?_
    refine zH (zK (.t rfl)) (fun h4 => ?_) (fun h4 => ?_)
    ·try simp only [cmpB, Z] at h4
     refine zF (zG [] (.n (zB (.k rfl))<|.nil) ff rfl fun g8 => ⟨_, _, [], rfl, (.k 2 rfl<|.nil), (.nil), ?_⟩)
     refine zC ?_
     refine J_ret ?_
     refine JN_block_ret ?_
     refine zD ?_
     refine zQ (.cons (.tmp (.t rfl))<|.nil) (zM (sb_res1 zL) ?_)
     first | exact ret_i (ordN_0 (by omega)).symm | exact ret_i (ordN_2 (by omega)).symm | exact ret_i (ordN_3 (by omega)).symm | exact ret_i (ordN_n (by omega) (by omega) (by omega)).symm
    ·try simp only [cmpB, Z] at h4
     refine J_skip ?_
     refine zR ?_
     refine zC ?_
     refine zF (zG [] (.n (zB (.k rfl))<|.nil) ff rfl fun g9 => ⟨_, _, [], rfl, (.k 2 rfl<|.nil), (.nil), ?_⟩)
     refine zC ?_
     refine J_ret ?_
     refine zQ (.cons (.tmp (.t rfl))<|.nil) (zM (sb_res1 zL) ?_)
     first | exact ret_i (ordN_0 (by omega)).symm | exact ret_i (ordN_2 (by omega)).symm | exact ret_i (ordN_3 (by omega)).symm | exact ret_i (ordN_n (by omega) (by omega) (by omega)).symm
 ·try simp only [cmpB, Z] at h1
  refine zF (zG [] (.n (op_cmp (by simp) (.t rfl) (.k rfl) rfl)<|.n (zB (.t rfl))<|.nil) ff rfl fun g10 => ⟨_, _, [], rfl, (.k 3 rfl<|.k 4 rfl<|.nil), (.nil), ?_⟩)
  refine zC ?_
  refine zH (zK (.t rfl)) (fun h5 => ?_) (fun h5 => ?_)
  ·try simp only [cmpB, Z] at h5
   refine J_skip ?_
   refine zC ?_
   refine zH (zK (.t rfl)) (fun h6 => ?_) (fun h6 => ?_)
   ·try simp only [cmpB, Z] at h6
    refine zF (zG [] (.n (zB (.k rfl))<|.nil) ff rfl fun g11 => ⟨_, _, [], rfl, (.k 2 rfl<|.nil), (.nil), ?_⟩)
    refine zC ?_
    refine J_ret ?_
    refine JN_block_ret ?_
    refine zD ?_
    refine zQ (.cons (.tmp (.t rfl))<|.nil) (zM (sb_res1 zL) ?_)
    first | exact ret_i (ordN_0 (by omega)).symm | exact ret_i (ordN_2 (by omega)).symm | exact ret_i (ordN_3 (by omega)).symm | exact ret_i (ordN_n (by omega) (by omega) (by omega)).symm
   ·try simp only [cmpB, Z] at h6
    refine zF (zG [] (.n (op_cmp (by simp) (.t rfl) (.k rfl) rfl)<|.n (zB (.t rfl))<|.nil) ff rfl fun g12 => ⟨_, _, [], rfl, (.k 3 rfl<|.k 8 rfl<|.nil), (.nil), ?_⟩)
    refine zC ?_
    refine zH (zK (.t rfl)) (fun h7 => ?_) (fun h7 => ?_)
    ·try simp only [cmpB, Z] at h7
     refine zF (zG [] (.n (zB (.k rfl))<|.nil) ff rfl fun g13 => ⟨_, _, [], rfl, (.k 2 rfl<|.nil), (.nil), ?_⟩)
     refine zC ?_
     refine J_ret ?_
     refine JN_block_ret ?_
     refine zD ?_
     refine zQ (.cons (.tmp (.t rfl))<|.nil) (zM (sb_res1 zL) ?_)
     first | exact ret_i (ordN_0 (by omega)).symm | exact ret_i (ordN_2 (by omega)).symm | exact ret_i (ordN_3 (by omega)).symm | exact ret_i (ordN_n (by omega) (by omega) (by omega)).symm
    ·try simp only [cmpB, Z] at h7
     refine zF (zG [] (.n (op_cmp (by simp) (.t rfl) (.k rfl) rfl)<|.n (zB (.t rfl))<|.nil) ff rfl fun g14 => ⟨_, _, [], rfl, (.k 10 rfl<|.nil), (.nil), ?_⟩)
     refine zC ?_
     refine zH (zK (.t rfl)) (fun h8 => ?_) (fun h8 => ?_)
     ·try simp only [cmpB, Z] at h8
      refine zF (zG [] (.n (zB (.k rfl))<|.nil) ff rfl fun g15 => ⟨_, _, [], rfl, (.k 2 rfl<|.nil), (.nil), ?_⟩)
      refine zC ?_
      refine J_ret ?_
      refine JN_block_ret ?_
      refine zD ?_
      refine zQ (.cons (.tmp (.t rfl))<|.nil) (zM (sb_res1 zL) ?_)
      first | exact ret_i (ordN_0 (by omega)).symm | exact ret_i (ordN_2 (by omega)).symm | exact ret_i (ordN_3 (by omega)).symm | exact ret_i (ordN_n (by omega) (by omega) (by omega)).symm
     ·try simp only [cmpB, Z] at h8
      refine J_skip ?_
      refine zR ?_
      refine zC ?_
      refine zF (zG [] (.n (zB (.k rfl))<|.nil) ff rfl fun g16 => ⟨_, _, [], rfl, (.k 2 rfl<|.nil), (.nil), ?_⟩)
      refine zC ?_
      refine J_ret ?_
      refine zQ (.cons (.tmp (.t rfl))<|.nil) (zM (sb_res1 zL) ?_)
      first | exact ret_i (ordN_0 (by omega)).symm | exact ret_i (ordN_2 (by omega)).symm | exact ret_i (ordN_3 (by omega)).symm | exact ret_i (ordN_n (by omega) (by omega) (by omega)).symm
  ·try simp only [cmpB, Z] at h5
   refine (zG [] (.n (op_cmp (by simp) (.t rfl) (.k rfl) rfl)<|.n (zB (.t rfl))<|.nil) ff rfl fun g17 => ⟨_, _, [], rfl, (.k 3 rfl<|.k 4 rfl<|.nil), (.nil), ?_⟩)
   refine zC ?_
   refine zH (zK (.t rfl)) (fun h9 => ?_) (fun h9 => ?_)
   ·try simp only [cmpB, Z] at h9
    refine zF (zG [] (.n (zB (.k rfl))<|.nil) ff rfl fun g18 => ⟨_, _, [], rfl, (.k 2 rfl<|.nil), (.nil), ?_⟩)
    refine zC ?_
    refine J_ret ?_
    refine JN_block_ret ?_
    refine zD ?_
    refine zQ (.cons (.tmp (.t rfl))<|.nil) (zM (sb_res1 zL) ?_)
    first | exact ret_i (ordN_0 (by omega)).symm | exact ret_i (ordN_2 (by omega)).symm | exact ret_i (ordN_3 (by omega)).symm | exact ret_i (ordN_n (by omega) (by omega) (by omega)).symm
   ·try simp only [cmpB, Z] at h9
    refine zF (zG [] (.n (op_cmp (by simp) (.t rfl) (.k rfl) rfl)<|.n (zB (.t rfl))<|.nil) ff rfl fun g19 => ⟨_, _, [], rfl, (.k 3 rfl<|.k 8 rfl<|.nil), (.nil), ?_⟩)
    refine zC ?_
    refine zH (zK (.t rfl)) (fun h10 => ?_) (fun h10 => ?_)
    ·try simp only [cmpB, Z] at h10
     refine zF (zG [] (.n (zB (.k rfl))<|.nil) ff rfl fun g20 => ⟨_, _, [], rfl, (.k 2 rfl<|.nil), (.nil), ?_⟩)
     refine zC ?_
     refine J_ret ?_
     refine JN_block_ret ?_
     refine zD ?_
     refine zQ (.cons (.tmp (.t rfl))<|.nil) (zM (sb_res1 zL) ?_)
     first | exact ret_i (ordN_0 (by omega)).symm | exact ret_i (ordN_2 (by omega)).symm | exact ret_i (ordN_3 (by omega)).symm | exact ret_i (ordN_n (by omega) (by omega) (by omega)).symm
    ·try simp only [cmpB, Z] at h10
     refine zF (zG [] (.n (op_cmp (by simp) (.t rfl) (.k rfl) rfl)<|.n (zB (.t rfl))<|.nil) ff rfl fun g21 => ⟨_, _, [], rfl, (.k 10 rfl<|.nil), (.nil), ?_⟩)
     refine zC ?_
     refine zH (zK (.t rfl)) (fun h11 => ?_) (fun h11 => ?_)
     ·try simp only [cmpB, Z] at h11
      refine zF (zG [] (.n (zB (.k rfl))<|.nil) ff rfl fun g22 => ⟨_, _, [], rfl, (.k 2 rfl<|.nil), (.nil), ?_⟩)
      refine zC ?_
      refine J_ret ?_
      refine JN_block_ret ?_
      refine zD ?_
      refine zQ (.cons (.tmp (.t rfl))<|.nil) (zM (sb_res1 zL) ?_)
      first | exact ret_i (ordN_0 (by omega)).symm | exact ret_i (ordN_2 (by omega)).symm | exact ret_i (ordN_3 (by omega)).symm | exact ret_i (ordN_n (by omega) (by omega) (by omega)).symm
     ·try simp only [cmpB, Z] at h11
      refine J_skip ?_
      refine zR ?_
      refine zC ?_
      refine zF (zG [] (.n (zB (.k rfl))<|.nil) ff rfl fun g23 => ⟨_, _, [], rfl, (.k 2 rfl<|.nil), (.nil), ?_⟩)
      refine zC ?_
      refine J_ret ?_
      refine zQ (.cons (.tmp (.t rfl))<|.nil) (zM (sb_res1 zL) ?_)
      first | exact ret_i (ordN_0 (by omega)).symm | exact ret_i (ordN_2 (by omega)).symm | exact ret_i (ordN_3 (by omega)).symm | exact ret_i (ordN_n (by omega) (by omega) (by omega)).symm
theorem mfin_ok {x : Nat} : Ct Tryz.prog 33 [flp x] (isv (.bool (finB x))) := by
 refine Ct.of Tryz.func33 rfl (by kernel_rfl) rfl fun c0 => ?_
 refine J_fl 0 rfl fun hx hc => ?_
 refine zF (zG [] (.n (zB (.k rfl))<|.nil) ff rfl fun g1 => ⟨_, _, [], rfl, (.k 0 rfl<|.nil), (.nil), ?_⟩)
 refine zC ?_
 refine zF (zG [] (.n (zA (.t rfl))<|.n (zA (.t rfl))<|.n (op_float (by simp) (.t rfl) (.t rfl) rfl)<|.n (op_fcmp (by simp) (.t rfl) (Lk.fk rfl (by decide +kernel)) rfl)<|.n (zB (.t rfl))<|.nil) ff rfl fun g2 => ⟨_, _, [], rfl, (.k 2 rfl<|.nil), (.nil), ?_⟩)
 refine zC ?_
 refine J_ret ?_
 refine zQ (.cons (.tmp (.t rfl))<|.nil) (zM (sb_res1 zL) ?_)
 exact ret_b (sub_zero_eq hx)
theorem secs_ok {t : Int} : Ct Tryz.prog 14 [isv (.int .i64 t)] (resN (secR t)) := by
 refine Ct.of Tryz.func14 rfl (by kernel_rfl) rfl fun c0 => ?_
 refine zF (zG [] (.n (zB (Lk.fk rfl (by decide +kernel)))<|.n (zB (.k rfl))<|.nil) ff rfl fun g1 => ⟨_, _, [], rfl, (.k 0 rfl<|.nil), (.nil), ?_⟩)
 refine zC ?_
 refine zF ?_
 refine zF (zG [] (.n (zA (.t rfl))<|.n (op_cmp (by simp) (.t rfl) (.k rfl) rfl)<|.n (zA (.t rfl))<|.n (op_guard rfl rfl (gd_b rfl) (fun hC => (zA (.t rfl))))<|.n (op_guard rfl rfl (gd_b rfl) (fun hC => (op_cmp (by simp) (.w rfl hC) (.k rfl) rfl)))<|.n (op_or (.t rfl) (fun h2 => (.w rfl h2)))<|.nil) ff rfl fun g2 => ⟨_, _, [], rfl, (.k 0 rfl<|.k 9 rfl<|.nil), (.nil), ?_⟩)
 refine zC ?_
 refine zH (zK (.t rfl)) (fun h1 => ?_) (fun h1 => ?_)
 ·try simp only [cmpB, Z] at h1
  refine zF (zG [] (.n (zB (Lk.fk rfl (by decide +kernel)))<|.n (zB (.k rfl))<|.nil) ff rfl fun g3 => ⟨_, _, [], rfl, (.k 2 rfl<|.k 3 rfl<|.nil), (.nil), ?_⟩)
  refine zC ?_
  refine J_ret ?_
  refine zD ?_
  refine zQ (.cons (.tmp (.t rfl))<|.cons (.tmp (.t rfl))<|.nil) (zM (sb_res (.cons zL<|.cons zL<|.nil)) ?_)
  exact ret_N (if_pos h1).symm
 ·try simp only [cmpB, Z] at h1
  refine J_skip ?_
  refine zC ?_
  refine zF (zG [] (.n (zA (.t rfl))<|.n (op_conv_i2f it2 f6439 (.t rfl) rfl)<|.n (op_float (by simp) (.t rfl) (Lk.fk rfl (by decide +kernel)) rfl)<|.n (zB (.t rfl))<|.n (zB (.k rfl))<|.nil) ff rfl fun g4 => ⟨_, _, [], rfl, (.k 2 rfl<|.k 3 rfl<|.nil), (.nil), ?_⟩)
  refine zC ?_
  refine J_ret ?_
  refine zQ (.cons (.tmp (.t rfl))<|.cons (.tmp (.t rfl))<|.nil) (zM (sb_res (.cons zL<|.cons zL<|.nil)) ?_)
  exact ret_N (if_neg (by omega)).symm
theorem cpart_ok {p : Prt} : Ct Tryz.prog 23 [aggp (prtC p)] (isv (.int .i64 (partE p))) := by
 refine Ct.of Tryz.func23 rfl (by kernel_rfl) rfl fun c0 => ?_
 have ho := ordN_rng p.k
 refine J_to (To.emps 1) ?_
 refine zF (zG [] (.w 0 (op_box 0 (.t rfl) co_agg rfl)<|.n (zB (.k rfl))<|.nil) ff rfl fun g1 => ⟨_, _, [0], rfl, (.k 1 rfl<|.nil), (.k 0 rfl<|.nil), ?_⟩)
 refine zC ?_
 refine zF ?_
 refine zT ?_
 refine zF (zG [] (.n (zI fd46_0 (.t rfl) rfl)<|.r 0 (zN 0 sc3 (.t rfl) rfl zJ rfl)<|.n (zP (orders_ok) ⟨(.t rfl),  trivial⟩)<|.n (op_cmp (by simp) (.t rfl) (.k rfl) rfl)<|.n (zB (.t rfl))<|.nil) ff rfl fun g2 => ⟨_, _, [0], rfl, (.k 1 rfl<|.k 3 rfl<|.nil), (.k 0 rfl<|.nil), ?_⟩)
 refine zC ?_
 refine zH (zK (.t rfl)) (fun h1 => ?_) (fun h1 => ?_)
 ·try simp only [cmpB, Z] at h1
  refine zF (zG [] (.n (zB (.k rfl))<|.nil) ff rfl fun g3 => ⟨_, _, [], rfl, (.k 2 rfl<|.nil), (.nil), ?_⟩)
  refine zC ?_
  refine J_ret ?_
  refine JN_block_ret ?_
  refine zD ?_
  refine zQ (.cons (.tmp (.t rfl))<|.nil) (zM (sb_res1 zL) ?_)
  exact ret_i (by unfold partE; rw [if_pos h1])
 ·try simp only [cmpB, Z] at h1
  refine zF (zG [] (.n (zI fd46_1 (.t rfl) rfl)<|.r 0 (zN 0 sc3 (.t rfl) rfl zJ rfl)<|.n (op_cmp (by simp) (.t rfl) (.k rfl) rfl)<|.n (zA (.t rfl))<|.n (op_guard rfl rfl (gd_b rfl) (fun hC => (zI fd46_1 (.t rfl) rfl)))<|.r 0 (op_guard rfl rfl (gd_b rfl) (fun hC => (zN 0 sc3 (.w rfl hC) rfl zJ rfl)))<|.n (op_guard rfl rfl (gd_b rfl) (fun hC => (op_cmp (by simp) (.w rfl hC) (.k rfl) rfl)))<|.n (op_or (.t rfl) (fun h2 => (.w rfl h2)))<|.n (zB (.t rfl))<|.nil) ff rfl fun g4 => ⟨_, _, [0], rfl, (.k 1 rfl<|.k 8 rfl<|.nil), (.k 0 rfl<|.nil), ?_⟩)
  refine zC ?_
  refine zH (zK (.t rfl)) (fun h2 => ?_) (fun h2 => ?_)
  ·try simp only [cmpB, Z] at h2
   refine zF (zG [] (.n (zB (.k rfl))<|.nil) ff rfl fun g5 => ⟨_, _, [], rfl, (.k 2 rfl<|.nil), (.nil), ?_⟩)
   refine zC ?_
   refine J_ret ?_
   refine JN_block_ret ?_
   refine zD ?_
   refine zQ (.cons (.tmp (.t rfl))<|.nil) (zM (sb_res1 zL) ?_)
   exact ret_i (by unfold partE; rw [if_neg h1, if_pos h2])
  ·try simp only [cmpB, Z] at h2
   refine zF (zG [] (.n (zI fd46_2 (.t rfl) rfl)<|.r 0 (zN 0 sc39 (.t rfl) rfl zJ rfl)<|.n (zP (mfin_ok) ⟨(.t rfl),  trivial⟩)<|.n (op_not (.t rfl))<|.n (zA (.t rfl))<|.n (op_guard rfl rfl (gd_b rfl) (fun hC => (zI fd46_3 (.t rfl) rfl)))<|.r 0 (op_guard rfl rfl (gd_b rfl) (fun hC => (zN 0 sc39 (.w rfl hC) rfl zJ rfl)))<|.n (op_guard rfl rfl (gd_b rfl) (fun hC => (zP (mfin_ok) ⟨(.w rfl hC),  trivial⟩)))<|.n (op_guard rfl rfl (gd_b rfl) (fun hC => (op_not (.w rfl hC))))<|.n (op_or (.t rfl) (fun h2 => (.w rfl h2)))<|.n (zB (.t rfl))<|.nil) ff rfl fun g6 => ⟨_, _, [0], rfl, (.k 1 rfl<|.k 17 rfl<|.nil), (.k 0 rfl<|.nil), ?_⟩)
   refine zC ?_
   refine zH (zK (.t rfl)) (fun h3 => ?_) (fun h3 => ?_)
   ·try simp only [cmpB, Z] at h3
    refine zF (zG [] (.n (zB (.k rfl))<|.nil) ff rfl fun g7 => ⟨_, _, [], rfl, (.k 2 rfl<|.nil), (.nil), ?_⟩)
    refine zC ?_
    refine J_ret ?_
    refine JN_block_ret ?_
    refine zD ?_
    refine zQ (.cons (.tmp (.t rfl))<|.nil) (zM (sb_res1 zL) ?_)
    exact ret_i (by unfold partE; rw [if_neg h1, if_neg (by omega), if_pos h3])
   ·try simp only [cmpB, Z] at h3
    refine zF (zG [] (.n (zI fd46_2 (.t rfl) rfl)<|.r 0 (zN 0 sc39 (.t rfl) rfl zJ rfl)<|.n (op_fcmp (by simp) (.t rfl) (Lk.fk rfl (by decide +kernel)) rfl)<|.n (zA (.t rfl))<|.n (op_guard rfl rfl (gd_b rfl) (fun hC => (zI fd46_3 (.t rfl) rfl)))<|.r 0 (op_guard rfl rfl (gd_b rfl) (fun hC => (zN 0 sc39 (.w rfl hC) rfl zJ rfl)))<|.n (op_guard rfl rfl (gd_b rfl) (fun hC => (op_fcmp (by simp) (.w rfl hC) (Lk.fk rfl (by decide +kernel)) rfl)))<|.n (op_or (.t rfl) (fun h2 => (.w rfl h2)))<|.n (zA (.t rfl))<|.n (op_guard rfl rfl (gd_b rfl) (fun hC => (zI fd46_2 (.t rfl) rfl)))<|.r 0 (op_guard rfl rfl (gd_b rfl) (fun hC => (zN 0 sc39 (.w rfl hC) rfl zJ rfl)))<|.n (op_guard rfl rfl (gd_b rfl) (fun hC => (op_fcmp (by simp) (.w rfl hC) (Lk.fk rfl (by decide +kernel)) rfl)))<|.n (op_or (.t rfl) (fun h2 => (.w rfl h2)))<|.n (zA (.t rfl))<|.n (op_guard rfl rfl (gd_b rfl) (fun hC => (zI fd46_3 (.t rfl) rfl)))<|.r 0 (op_guard rfl rfl (gd_b rfl) (fun hC => (zN 0 sc39 (.w rfl hC) rfl zJ rfl)))<|.n (op_guard rfl rfl (gd_b rfl) (fun hC => (op_fcmp (by simp) (.w rfl hC) (Lk.fk rfl (by decide +kernel)) rfl)))<|.n (op_or (.t rfl) (fun h2 => (.w rfl h2)))<|.n (zB (.t rfl))<|.nil) ff rfl fun g8 => ⟨_, _, [], rfl, (.k 28 rfl<|.nil), (.nil), ?_⟩)
    refine zC ?_
    refine zH (zK (.t rfl)) (fun h4 => ?_) (fun h4 => ?_)
    ·try simp only [cmpB, Z] at h4
     refine zF (zG [] (.n (zB (.k rfl))<|.nil) ff rfl fun g9 => ⟨_, _, [], rfl, (.k 2 rfl<|.nil), (.nil), ?_⟩)
     refine zC ?_
     refine J_ret ?_
     refine JN_block_ret ?_
     refine zD ?_
     refine zQ (.cons (.tmp (.t rfl))<|.nil) (zM (sb_res1 zL) ?_)
     exact ret_i (by unfold partE; rw [if_neg h1, if_neg (by omega), if_neg (by simp [h3]), if_pos (loud_or.2 h4)])
    ·try simp only [cmpB, Z] at h4
     refine J_skip ?_
     refine zR ?_
     refine zC ?_
     refine zF (zG [] (.n (zB (.k rfl))<|.nil) ff rfl fun g10 => ⟨_, _, [], rfl, (.k 2 rfl<|.nil), (.nil), ?_⟩)
     refine zC ?_
     refine J_ret ?_
     refine zQ (.cons (.tmp (.t rfl))<|.nil) (zM (sb_res1 zL) ?_)
     exact ret_i (by unfold partE; rw [if_neg h1, if_neg (by omega), if_neg (by simp [h3]), if_neg (loud_nor h4)])
theorem mchk_ok {ps : List Prt} : Ct Tryz.prog 15 [MotP ps] (isv (.int .i64 (motE ps))) := by
 refine Ct.of Tryz.func15 rfl (by kernel_rfl) rfl fun c0 => ?_
 refine J_lenP 0 rfl fun hlen => ?_
 refine J_to (To.emps 1) ?_
 refine zF (zG [] (.w 0 (op_box 0 (.t rfl) co_agg rfl)<|.n (zB (.k rfl))<|.nil) ff rfl fun g1 => ⟨_, _, [0], rfl, (.k 1 rfl<|.nil), (.k 0 rfl<|.nil), ?_⟩)
 refine zC ?_
 refine zF ?_
 refine zF (zG [] (.n (zI fd26_0 (.t rfl) rfl)<|.r 0 (zN 0 sc24 (.t rfl) rfl zJ rfl)<|.n (op_len_sk sl24 (.t rfl))<|.n (op_cmp (by simp) (.t rfl) (.k rfl) rfl)<|.nil) ff rfl fun g2 => ⟨_, _, [0], rfl, (.k 1 rfl<|.k 10 rfl<|.nil), (.k 0 rfl<|.nil), ?_⟩)
 refine zC ?_
 refine zH (zK (.t rfl)) (fun h1 => ?_) (fun h1 => ?_)
 ·try simp only [cmpB, Z] at h1
  refine zF (zG [] (.n (zB (.k rfl))<|.nil) ff rfl fun g3 => ⟨_, _, [], rfl, (.k 2 rfl<|.nil), (.nil), ?_⟩)
  refine zC ?_
  refine J_ret ?_
  refine zD ?_
  refine zQ (.cons (.tmp (.t rfl))<|.nil) (zM (sb_res1 zL) ?_)
  exact ret_i (mot_1 (by omega))
 ·try simp only [cmpB, Z] at h1
  have h0 : ¬ ps.length = 0 := by omega
  refine J_skip ?_
  refine zC ?_
  refine zF (zG [] (.n (zB (.k rfl))<|.nil) ff rfl fun g4 => ⟨_, _, [0], rfl, (.k 1 rfl<|.k 3 rfl<|.nil), (.k 0 rfl<|.nil), ?_⟩)
  refine zC ?_
  refine zF ?_
  refine zF (zG [] (.n (zI fd26_0 (.t rfl) rfl)<|.r 0 (zN 0 sc24 (.t rfl) rfl zJ rfl)<|.n (op_len_sk sl24 (.t rfl))<|.n (zA (.k rfl))<|.nil) ff rfl fun g5 => ⟨_, _, [], rfl, (.k 3 rfl<|.k 12 rfl<|.k 13 rfl<|.k 14 rfl<|.nil), (.nil), ?_⟩)
  refine zC ?_
  refine zT ?_
  refine J_loopc (α := Nat) (fun k => k ≤ ps.length ∧ PrtTo ps k) (fun k => ps.length - k) (fun k restR => (14, isv (.int .i64 (k : Int))) :: (3, isv (.int .i64 (min (tot ps k) 13))) :: restR) (fun k restS => restS) (ρc := [(12, _), (13, _)]) (σc := []) 0 (by exact ⟨Nat.zero_le _, prtTo_zero⟩) (To.pick (fun _ => .sub (t := 14) rfl (sp_eq (by rfl))<|.sub (t := 3) rfl (sp_eq (by rfl))<|.k 12 rfl<|.k 13 rfl<|.nil) (fun _ => .nil) (ks := []) rfl) (fun k hI => ?_)
  obtain ⟨hk, hp⟩ := hI
  refine zF (zG [] (.n (op_cmp (by simp) (.t rfl) (.t rfl) rfl)<|.nil) ff rfl fun g6 => ⟨_, _, [], rfl, (.k 3 rfl<|.k 12 rfl<|.k 13 rfl<|.k 14 rfl<|.k 15 rfl<|.nil), (.nil), ?_⟩)
  refine zC ?_
  refine zF ?_
  refine zH (zK (.t rfl)) (fun h2 => ?_) (fun h2 => ?_)
  ·try simp only [cmpB, Z] at h2
   refine J_skip ?_
   refine zC ?_
   refine zF ?_
   refine zT ?_
   refine J_to (To.emps 1) ?_
   refine zF (zG [] (.n (op_index_sk (mk := prtC) prtD sl24 prtC_len (.t rfl) (.t rfl) (by omega) (by omega))<|.n (op_load_ag ag46 (.t rfl) rfl rfl)<|.w 0 (op_alloc 0 zr46 rfl rfl)<|.w 0 (op_store_new 0 rfl (.t rfl) co_agg sz46 rfl rfl)<|.nil) ff rfl fun g7 => ⟨_, _, [0], rfl, (.k 3 rfl<|.k 5 rfl<|.k 12 rfl<|.k 13 rfl<|.k 14 rfl<|.nil), (.k 0 rfl<|.nil), ?_⟩)
   refine zC ?_
   refine zF ?_
   refine zF (zG [] (.r 0 (op_get_ag 0 ag46 (.t rfl) rfl zJ rfl rfl)<|.n (zP (cpart_ok) ⟨(.t rfl),  trivial⟩)<|.n (zB (.t rfl))<|.nil) ff rfl fun g8 => ⟨_, _, [0], rfl, (.k 3 rfl<|.k 5 rfl<|.k 6 rfl<|.k 12 rfl<|.k 13 rfl<|.k 14 rfl<|.nil), (.k 0 rfl<|.nil), ?_⟩)
   refine zC ?_
   refine zF (zG [] (.n (zA (.t rfl))<|.n (op_cmp (by simp) (.t rfl) (.k rfl) rfl)<|.nil) ff rfl fun g9 => ⟨_, _, [0], rfl, (.k 3 rfl<|.k 5 rfl<|.k 6 rfl<|.k 12 rfl<|.k 13 rfl<|.k 14 rfl<|.k 21 rfl<|.nil), (.k 0 rfl<|.nil), ?_⟩)
   refine zC ?_
   refine zH (zK (.t rfl)) (fun h3 => ?_) (fun h3 => ?_)
   ·try simp only [cmpB, Z] at h3
    refine zF (zG [] (.n (zA (.t rfl))<|.n (zB (.t rfl))<|.nil) ff rfl fun g10 => ⟨_, _, [], rfl, (.k 2 rfl<|.nil), (.nil), ?_⟩)
    refine zC ?_
    refine J_ret ?_
    refine zD ?_
    refine JN_block_ret ?_
    refine zD ?_
    refine zD ?_
    refine JN_block_ret ?_
    refine zD ?_
    refine zQ (.cons (.tmp (.t rfl))<|.nil) (zM (sb_res1 zL) ?_)
    exact ret_i (mot_e h0 (by omega) hp (h3))
   ·try simp only [cmpB, Z] at h3
    have hpk : partE (ps.getD k prtD) = 0 := h3
    have hax : 1 ≤ (ps.getD ((k : Nat) : Int).toNat prtD).a * ordN (ps.getD ((k : Nat) : Int).toNat prtD).k ∧ (ps.getD ((k : Nat) : Int).toNat prtD).a * ordN (ps.getD ((k : Nat) : Int).toNat prtD).k ≤ 36 := ax_rng hpk
    have htr := tot_rng hp
    refine J_skip ?_
    refine zC ?_
    refine (zG [[], [], [1], [], [3], [3, 4], [1, 2, 3, 4, 5], [0, 1, 2, 3, 4, 5, 6], [0, 1, 2, 3, 4, 5, 6, 7], [0, 1, 2, 3, 4, 5, 6, 7, 8]] (.n (zA (.t rfl))<|.n (zI fd46_1 (.t rfl) rfl)<|.r 0 (zN 0 sc3 (.t rfl) rfl zJ rfl)<|.n (zI fd46_0 (.t rfl) rfl)<|.r 0 (zN 0 sc3 (.t rfl) rfl zJ rfl)<|.n (zP (orders_ok) ⟨(.t rfl),  trivial⟩)<|.n (op_mul (.t rfl) (.t rfl) (zO (by omega) (by omega)))<|.n (op_add (.t rfl) (.t rfl) (zO (by omega) (by omega)))<|.n (op_imin (.t rfl) (.k rfl))<|.n (zB (.t rfl))<|.nil) (fun _ => mixed) rfl fun g11 => ⟨_, _, [], rfl, (.k 3 rfl<|.k 12 rfl<|.k 13 rfl<|.k 14 rfl<|.nil), (.nil), ?_⟩)
    refine zR ?_
    refine zC ?_
    refine (zG [] (.n (op_add (.t rfl) (.k rfl) (zO (by omega) (by omega)))<|.n (zA (.t rfl))<|.nil) ff rfl fun g12 => ⟨_, _, [], rfl, (.k 3 rfl<|.k 12 rfl<|.k 13 rfl<|.k 14 rfl<|.nil), (.nil), ?_⟩)
    exact JN_again (k + 1) (by exact ⟨by omega, prtTo_step hp hpk⟩) (by omega) (To.pick (fun _ => .sub (t := 14) rfl (sp_eq (by rfl))<|.sub (t := 3) rfl (sp_eq (by exact congrArg (fun z => isv (.int .i64 z)) (tot_min hp hpk)))<|.k 12 rfl<|.k 13 rfl<|.nil) (fun _ => .nil) (ks := []) rfl)
  ·try simp only [cmpB, Z] at h2
   obtain rfl : k = ps.length := by omega
   have hn := mot_n h0 hp
   refine J_exit ?_
   refine zE ?_
   refine zE ?_
   refine zS ?_
   refine zC ?_
   refine zF ?_
   refine zF (zG [] (.n (zA (.t rfl))<|.n (op_cmp (by simp) (.t rfl) (.k rfl) rfl)<|.nil) ff rfl fun g13 => ⟨_, _, [], rfl, (.k 34 rfl<|.nil), (.nil), ?_⟩)
   refine zC ?_
   refine zH (zK (.t rfl)) (fun h4 => ?_) (fun h4 => ?_)
   ·try simp only [cmpB, Z] at h4
    refine zF (zG [] (.n (zB (.k rfl))<|.nil) ff rfl fun g14 => ⟨_, _, [], rfl, (.k 2 rfl<|.nil), (.nil), ?_⟩)
    refine zC ?_
    refine J_ret ?_
    refine zD ?_
    refine zQ (.cons (.tmp (.t rfl))<|.nil) (zM (sb_res1 zL) ?_)
    exact ret_i (by rw [hn, if_pos (by omega)])
   ·try simp only [cmpB, Z] at h4
    refine J_skip ?_
    refine zC ?_
    refine zF (zG [] (.n (zB (.k rfl))<|.nil) ff rfl fun g15 => ⟨_, _, [], rfl, (.k 2 rfl<|.nil), (.nil), ?_⟩)
    refine zC ?_
    refine J_ret ?_
    refine zQ (.cons (.tmp (.t rfl))<|.nil) (zM (sb_res1 zL) ?_)
    exact ret_i (by rw [hn, if_neg (by omega)])
theorem mdim_ok {ps : List Prt} : Ct Tryz.prog 7 [MotP ps] (resI (dimR ps)) := by
 refine Ct.of Tryz.func7 rfl (by kernel_rfl) rfl fun c0 => ?_
 refine J_lenP 0 rfl fun hlen => ?_
 refine J_to (To.emps 1) ?_
 refine zF (zG [] (.w 0 (op_box 0 (.t rfl) co_agg rfl)<|.n (zB (.k rfl))<|.n (zB (.k rfl))<|.nil) ff rfl fun g1 => ⟨_, _, [0], rfl, (.k 1 rfl<|.nil), (.k 0 rfl<|.nil), ?_⟩)
 refine zC ?_
 refine zF ?_
 refine zF (zG [] (.r 0 (op_get_ag 0 ag26 (.t rfl) rfl zJ rfl rfl)<|.n (zP (mchk_ok) ⟨(.t rfl),  trivial⟩)<|.n (zB (.t rfl))<|.nil) ff rfl fun g2 => ⟨_, _, [0], rfl, (.k 1 rfl<|.k 4 rfl<|.nil), (.k 0 rfl<|.nil), ?_⟩)
 refine zC ?_
 refine zF (zG [] (.n (zA (.t rfl))<|.n (op_cmp (by simp) (.t rfl) (.k rfl) rfl)<|.nil) ff rfl fun g3 => ⟨_, _, [0], rfl, (.k 1 rfl<|.k 4 rfl<|.k 11 rfl<|.nil), (.k 0 rfl<|.nil), ?_⟩)
 refine zC ?_
 refine zH (zK (.t rfl)) (fun h1 => ?_) (fun h1 => ?_)
 ·try simp only [cmpB, Z] at h1
  refine zF (zG [] (.n (zA (.t rfl))<|.n (zB (.k rfl))<|.n (zB (.t rfl))<|.nil) ff rfl fun g4 => ⟨_, _, [], rfl, (.k 2 rfl<|.k 3 rfl<|.nil), (.nil), ?_⟩)
  refine zC ?_
  refine J_ret ?_
  refine zD ?_
  refine zQ (.cons (.tmp (.t rfl))<|.cons (.tmp (.t rfl))<|.nil) (zM (sb_res (.cons zL<|.cons zL<|.nil)) ?_)
  exact ret_I (by unfold dimR; rw [if_neg h1])
 ·try simp only [cmpB, Z] at h1
  obtain ⟨h0, hgd, htl⟩ := mot_good h1
  have htl0 := (tot_rng hgd).1
  refine J_skip ?_
  refine zC ?_
  refine zF (zG [] (.n (zB (.k rfl))<|.nil) ff rfl fun g5 => ⟨_, _, [0], rfl, (.k 1 rfl<|.k 5 rfl<|.nil), (.k 0 rfl<|.nil), ?_⟩)
  refine zC ?_
  refine zF ?_
  refine zF (zG [] (.n (zI fd26_0 (.t rfl) rfl)<|.r 0 (zN 0 sc24 (.t rfl) rfl zJ rfl)<|.n (op_len_sk sl24 (.t rfl))<|.n (zA (.k rfl))<|.nil) ff rfl fun g6 => ⟨_, _, [], rfl, (.k 5 rfl<|.k 14 rfl<|.k 15 rfl<|.k 16 rfl<|.nil), (.nil), ?_⟩)
  refine zC ?_
  refine zT ?_
  refine J_loopc (α := Nat) (fun k => k ≤ ps.length) (fun k => ps.length - k) (fun k restR => (16, isv (.int .i64 (k : Int))) :: (5, isv (.int .i64 (tot ps k))) :: restR) (fun k restS => restS) (ρc := [(14, _), (15, _)]) (σc := []) 0 (by exact Nat.zero_le _) (To.pick (fun _ => .sub (t := 16) rfl (sp_eq (by rfl))<|.sub (t := 5) rfl (sp_eq (by rfl))<|.k 14 rfl<|.k 15 rfl<|.nil) (fun _ => .nil) (ks := []) rfl) (fun k hI => ?_)
  refine zF (zG [] (.n (op_cmp (by simp) (.t rfl) (.t rfl) rfl)<|.nil) ff rfl fun g7 => ⟨_, _, [], rfl, (.k 5 rfl<|.k 14 rfl<|.k 15 rfl<|.k 16 rfl<|.k 17 rfl<|.nil), (.nil), ?_⟩)
  refine zC ?_
  refine zF ?_
  refine zH (zK (.t rfl)) (fun h2 => ?_) (fun h2 => ?_)
  ·try simp only [cmpB, Z] at h2
   have htr := tot_rng (ps := ps) (k := k) fun q hq => hgd q (by omega)
   have hax : 1 ≤ (ps.getD ((k : Nat) : Int).toNat prtD).a * ordN (ps.getD ((k : Nat) : Int).toNat prtD).k ∧ (ps.getD ((k : Nat) : Int).toNat prtD).a * ordN (ps.getD ((k : Nat) : Int).toNat prtD).k ≤ 36 := ax_rng (hgd _ (by omega))
   refine J_skip ?_
   refine zC ?_
   refine zF ?_
   refine zT ?_
   refine J_to (To.emps 1) ?_
   refine zF (zG [] (.n (op_index_sk (mk := prtC) prtD sl24 prtC_len (.t rfl) (.t rfl) (by omega) (by omega))<|.n (op_load_ag ag46 (.t rfl) rfl rfl)<|.w 0 (op_alloc 0 zr46 rfl rfl)<|.w 0 (op_store_new 0 rfl (.t rfl) co_agg sz46 rfl rfl)<|.nil) ff rfl fun g8 => ⟨_, _, [0], rfl, (.k 5 rfl<|.k 7 rfl<|.k 14 rfl<|.k 15 rfl<|.k 16 rfl<|.nil), (.k 0 rfl<|.nil), ?_⟩)
   refine zC ?_
   refine (zG [[], [], [1], [], [3], [3, 4], [1, 2, 3, 4, 5], [0, 1, 2, 3, 4, 5, 6], [0, 1, 2, 3, 4, 5, 6, 7]] (.n (zA (.t rfl))<|.n (zI fd46_1 (.t rfl) rfl)<|.r 0 (zN 0 sc3 (.t rfl) rfl zJ rfl)<|.n (zI fd46_0 (.t rfl) rfl)<|.r 0 (zN 0 sc3 (.t rfl) rfl zJ rfl)<|.n (zP (orders_ok) ⟨(.t rfl),  trivial⟩)<|.n (op_mul (.t rfl) (.t rfl) (zO (by omega) (by omega)))<|.n (op_add (.t rfl) (.t rfl) (zO (by omega) (by omega)))<|.n (zB (.t rfl))<|.nil) (fun _ => mixed) rfl fun g9 => ⟨_, _, [], rfl, (.k 5 rfl<|.k 14 rfl<|.k 15 rfl<|.k 16 rfl<|.nil), (.nil), ?_⟩)
   refine zR ?_
   refine zC ?_
   refine (zG [] (.n (op_add (.t rfl) (.k rfl) (zO (by omega) (by omega)))<|.n (zA (.t rfl))<|.nil) ff rfl fun g10 => ⟨_, _, [], rfl, (.k 5 rfl<|.k 14 rfl<|.k 15 rfl<|.k 16 rfl<|.nil), (.nil), ?_⟩)
   exact JN_again (k + 1) (by omega) (by omega) (To.pick (fun _ => .sub (t := 16) rfl (sp_eq (by rfl))<|.sub (t := 5) rfl (sp_eq (by rfl))<|.k 14 rfl<|.k 15 rfl<|.nil) (fun _ => .nil) (ks := []) rfl)
  ·try simp only [cmpB, Z] at h2
   obtain rfl : k = ps.length := by omega
   refine J_exit ?_
   refine zE ?_
   refine zE ?_
   refine zS ?_
   refine zC ?_
   refine zF (zG [] (.n (zA (.t rfl))<|.n (zB (.t rfl))<|.n (zB (.k rfl))<|.nil) ff rfl fun g11 => ⟨_, _, [], rfl, (.k 2 rfl<|.k 3 rfl<|.nil), (.nil), ?_⟩)
   refine zC ?_
   refine J_ret ?_
   refine zQ (.cons (.tmp (.t rfl))<|.cons (.tmp (.t rfl))<|.nil) (zM (sb_res (.cons zL<|.cons zL<|.nil)) ?_)
   exact ret_I (dimR_ok h1).symm
theorem zero1_ok_has : Has Tryz.prog 36 := ⟨_, Tryz.func36, rfl, by kernel_rfl⟩
theorem zero1_ok {i j : Int} : Ct Tryz.prog 36 [isv (.int .i64 i), isv (.int .i64 j)] (flp 0) := by
 refine Ct.of Tryz.func36 rfl (by kernel_rfl) rfl fun c0 => ?_
 refine zF (zG [] (.n (zB (Lk.fk rfl (by decide +kernel)))<|.nil) ff rfl fun g1 => ⟨_, _, [], rfl, (.nil), (.nil), ?_⟩)
 refine zC ?_
 refine zF (zG [] (.n (zB (Lk.fk rfl (by decide +kernel)))<|.nil) ff rfl fun g2 => ⟨_, _, [], rfl, (.k 4 rfl<|.nil), (.nil), ?_⟩)
 refine zC ?_
 refine J_ret ?_
 refine zQ (.cons (.tmp (.t rfl))<|.nil) (zM (sb_res1 zL) ?_)
 exact zL
theorem zeroF_ok {r c : Int} (hs : Siz r c) : CtF Tryz.prog 25 [isv (.int .i64 r), isv (.int .i64 c)] (agP) (fun u => tupp [aggp [isv (.int .i64 r), isv (.int .i64 c), isv u], isv (.int .i64 0)]) (fun u => som u flp (List.replicate (r * c).toNat 0) 39) := by
 refine CtF.of Tryz.func25 rfl (by kernel_rfl) rfl fun c0 => ?_
 refine J_to (To.emps 1) ?_
 refine zF (zG [] (.w 0 (op_alloc 0 zr30 rfl rfl)<|.n (zB (.k rfl))<|.nil) ff rfl fun g1 => ⟨_, _, [0], rfl, (.k 0 rfl<|.k 1 rfl<|.k 4 rfl<|.nil), (.k 0 rfl<|.nil), ?_⟩)
 refine zC ?_
 refine zF ?_
 refine zF (zG [] (.n (zA (.t rfl))<|.n (zP (size_ok) ⟨(.t rfl),  trivial⟩)<|.n (op_not (.t rfl))<|.n (zA (.t rfl))<|.n (op_guard rfl rfl (gd_b rfl) (fun hC => (zA (.t rfl))))<|.n (op_guard rfl rfl (gd_b rfl) (fun hC => (zP (size_ok) ⟨(.w rfl hC),  trivial⟩)))<|.n (op_guard rfl rfl (gd_b rfl) (fun hC => (op_not (.w rfl hC))))<|.n (op_or (.t rfl) (fun h2 => (.w rfl h2)))<|.nil) ff rfl fun g2 => ⟨_, _, [0], rfl, (.k 0 rfl<|.k 1 rfl<|.k 4 rfl<|.k 13 rfl<|.nil), (.k 0 rfl<|.nil), ?_⟩)
 refine zC ?_
 refine zH (zK (.t rfl)) (fun h1 => ?_) (fun h1 => ?_)
 ·try simp only [cmpB, Z] at h1
  exact absurd h1 (by rw [siz_B hs]; decide)
 ·try simp only [cmpB, Z] at h1
  refine J_skip ?_
  refine zC ?_
  refine J_to (To.emps 1) ?_
  refine zF (zG [] (.n (zA (.t rfl))<|.n (zA (.t rfl))<|.w 1 (op_callF 1 (fillF_ok hs) ⟨(.t rfl), (.t rfl), (Lk.fn (C := Pl r c) (g := fun i j => flp 0) (fun i j hC => zero1_ok) zero1_ok_has),  trivial⟩ rfl)<|.w 0 (op_ver 17 rfl rfl (fun f => op_store_b 0 (.t rfl) (.t rfl) co_agg sz30 rfl rfl rfl) (fun f g h => by rw [h 17 (show 17 ∈ [17] from by decide)]) rfl)<|.n (zB (.k rfl))<|.nil) ff rfl fun g3 => ⟨_, _, [0, 1], rfl, (.k 4 rfl<|.k 5 rfl<|.nil), (.k 0 rfl<|.k 1 rfl<|.nil), ?_⟩)
  refine zC ?_
  refine J_ret ?_
  refine JN_to (To.res 1 (r' := som (agN 2 (g3 17)) flp (List.replicate (r * c).toNat 0) 39) rfl (res_eq (by rw [grid_zero, siz_repl hs])) rfl) ?_
  refine JN_retF2 (u := (agN 2 (g3 17))) 1 rfl rfl (.cons (.ag 0 (.t rfl) ag30 rfl rfl rfl)<|.cons (.tmp (.t rfl))<|.nil) (fun v1 v2 c h => agN_of rfl v1 c h) ?_
  exact zL
theorem fblk_ok_has : Has Tryz.prog 22 := ⟨_, Tryz.func22, rfl, by kernel_rfl⟩
theorem fblk_ok {p : Prt} {d : Nat} : Ct Tryz.prog 22 [aggp (prtC p), flp d] (slm (slm flp) (moveB p d)) := by
 refine Ct.of Tryz.func22 rfl (by kernel_rfl) rfl fun c0 => ?_
 refine J_to (To.emps 1) ?_
 refine zF (zG [] (.w 0 (op_box 0 (.t rfl) co_agg rfl)<|.n (zB (.k rfl))<|.nil) ff rfl fun g1 => ⟨_, _, [0], rfl, (.k 1 rfl<|.k 2 rfl<|.nil), (.k 0 rfl<|.nil), ?_⟩)
 refine zC ?_
 refine zF ?_
 refine zF (zG [] (.n (zI fd46_0 (.t rfl) rfl)<|.r 0 (zN 0 sc3 (.t rfl) rfl zJ rfl)<|.nil) ff rfl fun g2 => ⟨_, _, [0], rfl, (.k 1 rfl<|.k 2 rfl<|.k 6 rfl<|.nil), (.k 0 rfl<|.nil), ?_⟩)
 refine zC ?_
 refine zT ?_
 refine zF (zG [] (.n (op_cmp (by simp) (.t rfl) (.k rfl) rfl)<|.n (zB (.t rfl))<|.nil) ff rfl fun g3 => ⟨_, _, [0], rfl, (.k 1 rfl<|.k 2 rfl<|.k 6 rfl<|.k 7 rfl<|.nil), (.k 0 rfl<|.nil), ?_⟩)
 refine zC ?_
 refine zH (zK (.t rfl)) (fun h1 => ?_) (fun h1 => ?_)
 ·try simp only [cmpB, Z] at h1
  refine zF (zG [] (.n (zA (.t rfl))<|.n (op_buildSlice sl28 zr39 rfl rfl rfl rfl (.cons rfl (Lk.fk rfl (by decide +kernel)) co_flp rfl (puts_l rfl (Nat.le_of_ble_eq_true rfl)) (.cons rfl (.t rfl) co_flp rfl (puts_l rfl (Nat.le_of_ble_eq_true rfl)) .nil)))<|.n (op_buildSlice sl28 zr39 rfl rfl rfl rfl (.cons rfl (Lk.fk rfl (by decide +kernel)) co_flp rfl (puts_l rfl (Nat.le_of_ble_eq_true rfl)) (.cons rfl (Lk.fk rfl (by decide +kernel)) co_flp rfl (puts_l rfl (Nat.le_of_ble_eq_true rfl)) .nil)))<|.n (op_buildSlice sl54 zr28 rfl rfl rfl rfl (.cons rfl (.t rfl) co_slc rfl (puts_l rfl (Nat.le_of_ble_eq_true rfl)) (.cons rfl (.t rfl) co_slc rfl (puts_l rfl (Nat.le_of_ble_eq_true rfl)) .nil)))<|.n (zB (.t rfl))<|.nil) ff rfl fun g4 => ⟨_, _, [], rfl, (.k 4 rfl<|.nil), (.nil), ?_⟩)
  refine zC ?_
  refine J_ret ?_
  refine JN_block_ret ?_
  refine zD ?_
  refine zQ (.cons (.tmp (.t rfl))<|.nil) (zM (sb_res1 zL) ?_)
  exact sb_eq (by unfold moveB; rw [if_pos h1]; rfl)
 ·try simp only [cmpB, Z] at h1
  refine zF (zG [] (.n (op_cmp (by simp) (.t rfl) (.k rfl) rfl)<|.n (zB (.t rfl))<|.nil) ff rfl fun g5 => ⟨_, _, [0], rfl, (.k 1 rfl<|.k 2 rfl<|.k 6 rfl<|.k 13 rfl<|.nil), (.k 0 rfl<|.nil), ?_⟩)
  refine zC ?_
  refine zH (zK (.t rfl)) (fun h2 => ?_) (fun h2 => ?_)
  ·try simp only [cmpB, Z] at h2
   refine zF (zG [] (.n (zA (.t rfl))<|.n (zA (.t rfl))<|.n (zA (.t rfl))<|.n (op_float (by simp) (.t rfl) (.t rfl) rfl)<|.n (op_float (by simp) (.t rfl) (Lk.fk rfl (by decide +kernel)) rfl)<|.n (op_buildSlice sl28 zr39 rfl rfl rfl rfl (.cons rfl (Lk.fk rfl (by decide +kernel)) co_flp rfl (puts_l rfl (Nat.le_of_ble_eq_true rfl)) (.cons rfl (.t rfl) co_flp rfl (puts_l rfl (Nat.le_of_ble_eq_true rfl)) (.cons rfl (.t rfl) co_flp rfl (puts_l rfl (Nat.le_of_ble_eq_true rfl)) .nil))))<|.n (zA (.t rfl))<|.n (op_buildSlice sl28 zr39 rfl rfl rfl rfl (.cons rfl (Lk.fk rfl (by decide +kernel)) co_flp rfl (puts_l rfl (Nat.le_of_ble_eq_true rfl)) (.cons rfl (Lk.fk rfl (by decide +kernel)) co_flp rfl (puts_l rfl (Nat.le_of_ble_eq_true rfl)) (.cons rfl (.t rfl) co_flp rfl (puts_l rfl (Nat.le_of_ble_eq_true rfl)) .nil))))<|.n (op_buildSlice sl28 zr39 rfl rfl rfl rfl (.cons rfl (Lk.fk rfl (by decide +kernel)) co_flp rfl (puts_l rfl (Nat.le_of_ble_eq_true rfl)) (.cons rfl (Lk.fk rfl (by decide +kernel)) co_flp rfl (puts_l rfl (Nat.le_of_ble_eq_true rfl)) (.cons rfl (Lk.fk rfl (by decide +kernel)) co_flp rfl (puts_l rfl (Nat.le_of_ble_eq_true rfl)) .nil))))<|.n (op_buildSlice sl54 zr28 rfl rfl rfl rfl (.cons rfl (.t rfl) co_slc rfl (puts_l rfl (Nat.le_of_ble_eq_true rfl)) (.cons rfl (.t rfl) co_slc rfl (puts_l rfl (Nat.le_of_ble_eq_true rfl)) (.cons rfl (.t rfl) co_slc rfl (puts_l rfl (Nat.le_of_ble_eq_true rfl)) .nil))))<|.n (zB (.t rfl))<|.nil) ff rfl fun g6 => ⟨_, _, [], rfl, (.k 4 rfl<|.nil), (.nil), ?_⟩)
   refine zC ?_
   refine J_ret ?_
   refine JN_block_ret ?_
   refine zD ?_
   refine zQ (.cons (.tmp (.t rfl))<|.nil) (zM (sb_res1 zL) ?_)
   exact sb_eq (by unfold moveB; rw [if_neg h1, if_pos h2]; rfl)
  ·try simp only [cmpB, Z] at h2
   refine zF (zG [] (.n (op_cmp (by simp) (.t rfl) (.k rfl) rfl)<|.n (zB (.t rfl))<|.nil) ff rfl fun g7 => ⟨_, _, [0], rfl, (.k 1 rfl<|.k 2 rfl<|.k 25 rfl<|.nil), (.k 0 rfl<|.nil), ?_⟩)
   refine zC ?_
   refine zH (zK (.t rfl)) (fun h3 => ?_) (fun h3 => ?_)
   ·try simp only [cmpB, Z] at h3
    refine zF (zG [] (.n (zI fd46_3 (.t rfl) rfl)<|.r 0 (zN 0 sc39 (.t rfl) rfl zJ rfl)<|.n (zA (.t rfl))<|.n (op_float (by simp) (.t rfl) (.t rfl) rfl)<|.n (op_float (by simp) (Lk.fk rfl (by decide +kernel)) (.t rfl) rfl)<|.n (op_float (by simp) (Lk.fk rfl (by decide +kernel)) (.t rfl) rfl)<|.n (op_buildSlice sl28 zr39 rfl rfl rfl rfl (.cons rfl (.t rfl) co_flp rfl (puts_l rfl (Nat.le_of_ble_eq_true rfl)) .nil))<|.n (op_buildSlice sl54 zr28 rfl rfl rfl rfl (.cons rfl (.t rfl) co_slc rfl (puts_l rfl (Nat.le_of_ble_eq_true rfl)) .nil))<|.n (zB (.t rfl))<|.nil) ff rfl fun g8 => ⟨_, _, [], rfl, (.k 4 rfl<|.nil), (.nil), ?_⟩)
    refine zC ?_
    refine J_ret ?_
    refine JN_block_ret ?_
    refine zD ?_
    refine zQ (.cons (.tmp (.t rfl))<|.nil) (zM (sb_res1 zL) ?_)
    exact sb_eq (by unfold moveB; rw [if_neg h1, if_neg h2, if_pos h3]; rfl)
   ·try simp only [cmpB, Z] at h3
    refine J_skip ?_
    refine zR ?_
    refine zC ?_
    refine zF (zG [] (.n (op_buildSlice sl28 zr39 rfl rfl rfl rfl (.cons rfl (Lk.fk rfl (by decide +kernel)) co_flp rfl (puts_l rfl (Nat.le_of_ble_eq_true rfl)) .nil))<|.n (op_buildSlice sl54 zr28 rfl rfl rfl rfl (.cons rfl (.t rfl) co_slc rfl (puts_l rfl (Nat.le_of_ble_eq_true rfl)) .nil))<|.n (zB (.t rfl))<|.nil) ff rfl fun g9 => ⟨_, _, [], rfl, (.k 4 rfl<|.nil), (.nil), ?_⟩)
    refine zC ?_
    refine J_ret ?_
    refine zQ (.cons (.tmp (.t rfl))<|.nil) (zM (sb_res1 zL) ?_)
    exact sb_eq (by unfold moveB; rw [if_neg h1, if_neg h2, if_neg h3]; rfl)
theorem qblk_ok_has : Has Tryz.prog 18 := ⟨_, Tryz.func18, rfl, by kernel_rfl⟩
theorem qblk_ok {p : Prt} {d : Nat} : Ct Tryz.prog 18 [aggp (prtC p), flp d] (slm (slm flp) (noiseB p d)) := by
 refine Ct.of Tryz.func18 rfl (by kernel_rfl) rfl fun c0 => ?_
 refine J_to (To.emps 1) ?_
 refine zF (zG [] (.w 0 (op_box 0 (.t rfl) co_agg rfl)<|.n (zB (.k rfl))<|.nil) ff rfl fun g1 => ⟨_, _, [0], rfl, (.k 1 rfl<|.k 2 rfl<|.nil), (.k 0 rfl<|.nil), ?_⟩)
 refine zC ?_
 refine zF (zG [] (.n (zI fd46_2 (.t rfl) rfl)<|.r 0 (zN 0 sc39 (.t rfl) rfl zJ rfl)<|.n (zA (.t rfl))<|.n (op_float (by simp) (.t rfl) (.t rfl) rfl)<|.n (zB (.t rfl))<|.nil) ff rfl fun g2 => ⟨_, _, [0], rfl, (.k 1 rfl<|.k 2 rfl<|.k 5 rfl<|.nil), (.k 0 rfl<|.nil), ?_⟩)
 refine zC ?_
 refine zF (zG [] (.n (zA (.t rfl))<|.n (zA (.t rfl))<|.n (op_float (by simp) (.t rfl) (.t rfl) rfl)<|.n (op_float (by simp) (.t rfl) (Lk.fk rfl (by decide +kernel)) rfl)<|.n (zB (.t rfl))<|.nil) ff rfl fun g3 => ⟨_, _, [0], rfl, (.k 1 rfl<|.k 2 rfl<|.k 5 rfl<|.k 6 rfl<|.nil), (.k 0 rfl<|.nil), ?_⟩)
 refine zC ?_
 refine zF ?_
 refine zF (zG [] (.n (zI fd46_0 (.t rfl) rfl)<|.r 0 (zN 0 sc3 (.t rfl) rfl zJ rfl)<|.nil) ff rfl fun g4 => ⟨_, _, [], rfl, (.k 1 rfl<|.k 5 rfl<|.k 6 rfl<|.k 21 rfl<|.nil), (.nil), ?_⟩)
 refine zC ?_
 refine zT ?_
 refine zF ?_
 refine zF (zG [] (.n (op_cmp (by simp) (.t rfl) (.k rfl) rfl)<|.n (zB (.t rfl))<|.nil) ff rfl fun g5 => ⟨_, _, [], rfl, (.k 1 rfl<|.k 5 rfl<|.k 6 rfl<|.k 21 rfl<|.k 22 rfl<|.nil), (.nil), ?_⟩)
 refine zC ?_
 refine zH (zK (.t rfl)) (fun h1 => ?_) (fun h1 => ?_)
 ·try simp only [cmpB, Z] at h1
  refine J_skip ?_
  refine zC ?_
  refine zH (zK (.t rfl)) (fun h2 => ?_) (fun h2 => ?_)
  ·try simp only [cmpB, Z] at h2
   refine zF (zG [] (.n (zA (.t rfl))<|.n (op_buildSlice sl28 zr39 rfl rfl rfl rfl (.cons rfl (.t rfl) co_flp rfl (puts_l rfl (Nat.le_of_ble_eq_true rfl)) .nil))<|.n (op_buildSlice sl54 zr28 rfl rfl rfl rfl (.cons rfl (.t rfl) co_slc rfl (puts_l rfl (Nat.le_of_ble_eq_true rfl)) .nil))<|.n (zB (.t rfl))<|.nil) ff rfl fun g6 => ⟨_, _, [], rfl, (.k 4 rfl<|.nil), (.nil), ?_⟩)
   refine zC ?_
   refine J_ret ?_
   refine JN_block_ret ?_
   refine zD ?_
   refine zQ (.cons (.tmp (.t rfl))<|.nil) (zM (sb_res1 zL) ?_)
   first | exact sb_eq (by unfold noiseB spB; rw [if_pos (by omega)]; rfl) | exact sb_eq (by unfold noiseB spB; rw [if_neg (by omega), if_pos (by omega)]; rfl) | exact sb_eq (by unfold noiseB spB; rw [if_neg (by omega), if_neg (by omega), if_pos (by omega)]; rfl) | exact sb_eq (by unfold noiseB spB; rw [if_neg (by omega), if_neg (by omega), if_neg (by omega)]; rfl)
  ·try simp only [cmpB, Z] at h2
   refine zF (zG [] (.n (op_cmp (by simp) (.t rfl) (.k rfl) rfl)<|.n (zB (.t rfl))<|.nil) ff rfl fun g7 => ⟨_, _, [], rfl, (.k 1 rfl<|.k 5 rfl<|.k 6 rfl<|.k 21 rfl<|.k 28 rfl<|.nil), (.nil), ?_⟩)
   refine zC ?_
   refine zH (zK (.t rfl)) (fun h3 => ?_) (fun h3 => ?_)
   ·try simp only [cmpB, Z] at h3
    refine zF (zG [] (.n (zA (.t rfl))<|.n (zA (.t rfl))<|.n (op_float (by simp) (.t rfl) (.t rfl) rfl)<|.n (zA (.t rfl))<|.n (op_float (by simp) (.t rfl) (.t rfl) rfl)<|.n (op_float (by simp) (.t rfl) (Lk.fk rfl (by decide +kernel)) rfl)<|.n (zB (.t rfl))<|.nil) ff rfl fun g8 => ⟨_, _, [], rfl, (.k 5 rfl<|.k 6 rfl<|.k 7 rfl<|.nil), (.nil), ?_⟩)
    refine zC ?_
    refine zF (zG [] (.n (zA (.t rfl))<|.n (zA (.t rfl))<|.n (op_buildSlice sl28 zr39 rfl rfl rfl rfl (.cons rfl (.t rfl) co_flp rfl (puts_l rfl (Nat.le_of_ble_eq_true rfl)) (.cons rfl (.t rfl) co_flp rfl (puts_l rfl (Nat.le_of_ble_eq_true rfl)) .nil)))<|.n (zA (.t rfl))<|.n (zA (.t rfl))<|.n (op_buildSlice sl28 zr39 rfl rfl rfl rfl (.cons rfl (.t rfl) co_flp rfl (puts_l rfl (Nat.le_of_ble_eq_true rfl)) (.cons rfl (.t rfl) co_flp rfl (puts_l rfl (Nat.le_of_ble_eq_true rfl)) .nil)))<|.n (op_buildSlice sl54 zr28 rfl rfl rfl rfl (.cons rfl (.t rfl) co_slc rfl (puts_l rfl (Nat.le_of_ble_eq_true rfl)) (.cons rfl (.t rfl) co_slc rfl (puts_l rfl (Nat.le_of_ble_eq_true rfl)) .nil)))<|.n (zB (.t rfl))<|.nil) ff rfl fun g9 => ⟨_, _, [], rfl, (.k 4 rfl<|.nil), (.nil), ?_⟩)
    refine zC ?_
    refine J_ret ?_
    refine JN_block_ret ?_
    refine zD ?_
    refine zQ (.cons (.tmp (.t rfl))<|.nil) (zM (sb_res1 zL) ?_)
    first | exact sb_eq (by unfold noiseB spB; rw [if_pos (by omega)]; rfl) | exact sb_eq (by unfold noiseB spB; rw [if_neg (by omega), if_pos (by omega)]; rfl) | exact sb_eq (by unfold noiseB spB; rw [if_neg (by omega), if_neg (by omega), if_pos (by omega)]; rfl) | exact sb_eq (by unfold noiseB spB; rw [if_neg (by omega), if_neg (by omega), if_neg (by omega)]; rfl)
   ·try simp only [cmpB, Z] at h3
    refine zF (zG [] (.n (op_cmp (by simp) (.t rfl) (.k rfl) rfl)<|.n (zB (.t rfl))<|.nil) ff rfl fun g10 => ⟨_, _, [], rfl, (.k 1 rfl<|.k 5 rfl<|.k 6 rfl<|.k 43 rfl<|.nil), (.nil), ?_⟩)
    refine zC ?_
    refine zH (zK (.t rfl)) (fun h4 => ?_) (fun h4 => ?_)
    ·try simp only [cmpB, Z] at h4
     refine zF (zG [] (.n (zA (.t rfl))<|.n (zA (.t rfl))<|.n (op_float (by simp) (.t rfl) (.t rfl) rfl)<|.n (zA (.t rfl))<|.n (op_float (by simp) (.t rfl) (.t rfl) rfl)<|.n (op_float (by simp) (.t rfl) (Lk.fk rfl (by decide +kernel)) rfl)<|.n (zA (.t rfl))<|.n (zA (.t rfl))<|.n (op_float (by simp) (.t rfl) (.t rfl) rfl)<|.n (zA (.t rfl))<|.n (op_float (by simp) (.t rfl) (.t rfl) rfl)<|.n (op_float (by simp) (.t rfl) (Lk.fk rfl (by decide +kernel)) rfl)<|.n (zB (.t rfl))<|.n (zB (.t rfl))<|.nil) ff rfl fun g11 => ⟨_, _, [], rfl, (.k 1 rfl<|.k 5 rfl<|.k 6 rfl<|.k 8 rfl<|.k 9 rfl<|.nil), (.nil), ?_⟩)
     refine zC ?_
     refine zF (zG [] (.n (zA (.t rfl))<|.n (zA (.t rfl))<|.n (op_float (by simp) (.t rfl) (.t rfl) rfl)<|.n (zA (.t rfl))<|.n (op_float (by simp) (.t rfl) (.t rfl) rfl)<|.n (zA (.t rfl))<|.n (op_float (by simp) (.t rfl) (.t rfl) rfl)<|.n (op_float (by simp) (.t rfl) (Lk.fk rfl (by decide +kernel)) rfl)<|.n (zA (.t rfl))<|.n (zA (.t rfl))<|.n (op_float (by simp) (.t rfl) (.t rfl) rfl)<|.n (zA (.t rfl))<|.n (op_float (by simp) (.t rfl) (.t rfl) rfl)<|.n (zA (.t rfl))<|.n (op_float (by simp) (.t rfl) (.t rfl) rfl)<|.n (zA (.t rfl))<|.n (op_float (by simp) (.t rfl) (.t rfl) rfl)<|.n (op_float (by simp) (.t rfl) (Lk.fk rfl (by decide +kernel)) rfl)<|.n (zB (.t rfl))<|.n (zB (.t rfl))<|.nil) ff rfl fun g12 => ⟨_, _, [], rfl, (.k 5 rfl<|.k 6 rfl<|.k 8 rfl<|.k 9 rfl<|.k 10 rfl<|.k 11 rfl<|.nil), (.nil), ?_⟩)
     refine zC ?_
     refine zF (zG [] (.n (zA (.t rfl))<|.n (zA (.t rfl))<|.n (zA (.t rfl))<|.n (op_buildSlice sl28 zr39 rfl rfl rfl rfl (.cons rfl (.t rfl) co_flp rfl (puts_l rfl (Nat.le_of_ble_eq_true rfl)) (.cons rfl (.t rfl) co_flp rfl (puts_l rfl (Nat.le_of_ble_eq_true rfl)) (.cons rfl (.t rfl) co_flp rfl (puts_l rfl (Nat.le_of_ble_eq_true rfl)) .nil))))<|.n (zA (.t rfl))<|.n (zA (.t rfl))<|.n (zA (.t rfl))<|.n (op_buildSlice sl28 zr39 rfl rfl rfl rfl (.cons rfl (.t rfl) co_flp rfl (puts_l rfl (Nat.le_of_ble_eq_true rfl)) (.cons rfl (.t rfl) co_flp rfl (puts_l rfl (Nat.le_of_ble_eq_true rfl)) (.cons rfl (.t rfl) co_flp rfl (puts_l rfl (Nat.le_of_ble_eq_true rfl)) .nil))))<|.n (zA (.t rfl))<|.n (zA (.t rfl))<|.n (zA (.t rfl))<|.n (op_buildSlice sl28 zr39 rfl rfl rfl rfl (.cons rfl (.t rfl) co_flp rfl (puts_l rfl (Nat.le_of_ble_eq_true rfl)) (.cons rfl (.t rfl) co_flp rfl (puts_l rfl (Nat.le_of_ble_eq_true rfl)) (.cons rfl (.t rfl) co_flp rfl (puts_l rfl (Nat.le_of_ble_eq_true rfl)) .nil))))<|.n (op_buildSlice sl54 zr28 rfl rfl rfl rfl (.cons rfl (.t rfl) co_slc rfl (puts_l rfl (Nat.le_of_ble_eq_true rfl)) (.cons rfl (.t rfl) co_slc rfl (puts_l rfl (Nat.le_of_ble_eq_true rfl)) (.cons rfl (.t rfl) co_slc rfl (puts_l rfl (Nat.le_of_ble_eq_true rfl)) .nil))))<|.n (zB (.t rfl))<|.nil) ff rfl fun g13 => ⟨_, _, [], rfl, (.k 4 rfl<|.nil), (.nil), ?_⟩)
     refine zC ?_
     refine J_ret ?_
     refine JN_block_ret ?_
     refine zD ?_
     refine zQ (.cons (.tmp (.t rfl))<|.nil) (zM (sb_res1 zL) ?_)
     first | exact sb_eq (by unfold noiseB spB; rw [if_pos (by omega)]; rfl) | exact sb_eq (by unfold noiseB spB; rw [if_neg (by omega), if_pos (by omega)]; rfl) | exact sb_eq (by unfold noiseB spB; rw [if_neg (by omega), if_neg (by omega), if_pos (by omega)]; rfl) | exact sb_eq (by unfold noiseB spB; rw [if_neg (by omega), if_neg (by omega), if_neg (by omega)]; rfl)
    ·try simp only [cmpB, Z] at h4
     refine J_skip ?_
     refine zR ?_
     refine zC ?_
     refine zF (zG [] (.n (op_buildSlice sl28 zr39 rfl rfl rfl rfl (.cons rfl (Lk.fk rfl (by decide +kernel)) co_flp rfl (puts_l rfl (Nat.le_of_ble_eq_true rfl)) .nil))<|.n (op_buildSlice sl54 zr28 rfl rfl rfl rfl (.cons rfl (.t rfl) co_slc rfl (puts_l rfl (Nat.le_of_ble_eq_true rfl)) .nil))<|.n (zB (.t rfl))<|.nil) ff rfl fun g14 => ⟨_, _, [], rfl, (.k 4 rfl<|.nil), (.nil), ?_⟩)
     refine zC ?_
     refine J_ret ?_
     refine zQ (.cons (.tmp (.t rfl))<|.nil) (zM (sb_res1 zL) ?_)
     first | exact sb_eq (by unfold noiseB spB; rw [if_pos (by omega)]; rfl) | exact sb_eq (by unfold noiseB spB; rw [if_neg (by omega), if_pos (by omega)]; rfl) | exact sb_eq (by unfold noiseB spB; rw [if_neg (by omega), if_neg (by omega), if_pos (by omega)]; rfl) | exact sb_eq (by unfold noiseB spB; rw [if_neg (by omega), if_neg (by omega), if_neg (by omega)]; rfl)
 ·try simp only [cmpB, Z] at h1
  refine (zG [] (.n (op_cmp (by simp) (.t rfl) (.k rfl) rfl)<|.n (zB (.t rfl))<|.nil) ff rfl fun g15 => ⟨_, _, [], rfl, (.k 1 rfl<|.k 5 rfl<|.k 6 rfl<|.k 21 rfl<|.k 22 rfl<|.nil), (.nil), ?_⟩)
  refine zC ?_
  refine zH (zK (.t rfl)) (fun h5 => ?_) (fun h5 => ?_)
  ·try simp only [cmpB, Z] at h5
   refine zF (zG [] (.n (zA (.t rfl))<|.n (op_buildSlice sl28 zr39 rfl rfl rfl rfl (.cons rfl (.t rfl) co_flp rfl (puts_l rfl (Nat.le_of_ble_eq_true rfl)) .nil))<|.n (op_buildSlice sl54 zr28 rfl rfl rfl rfl (.cons rfl (.t rfl) co_slc rfl (puts_l rfl (Nat.le_of_ble_eq_true rfl)) .nil))<|.n (zB (.t rfl))<|.nil) ff rfl fun g16 => ⟨_, _, [], rfl, (.k 4 rfl<|.nil), (.nil), ?_⟩)
   refine zC ?_
   refine J_ret ?_
   refine JN_block_ret ?_
   refine zD ?_
   refine zQ (.cons (.tmp (.t rfl))<|.nil) (zM (sb_res1 zL) ?_)
   first | exact sb_eq (by unfold noiseB spB; rw [if_pos (by omega)]; rfl) | exact sb_eq (by unfold noiseB spB; rw [if_neg (by omega), if_pos (by omega)]; rfl) | exact sb_eq (by unfold noiseB spB; rw [if_neg (by omega), if_neg (by omega), if_pos (by omega)]; rfl) | exact sb_eq (by unfold noiseB spB; rw [if_neg (by omega), if_neg (by omega), if_neg (by omega)]; rfl)
  ·try simp only [cmpB, Z] at h5
   refine zF (zG [] (.n (op_cmp (by simp) (.t rfl) (.k rfl) rfl)<|.n (zB (.t rfl))<|.nil) ff rfl fun g17 => ⟨_, _, [], rfl, (.k 1 rfl<|.k 5 rfl<|.k 6 rfl<|.k 21 rfl<|.k 28 rfl<|.nil), (.nil), ?_⟩)
   refine zC ?_
   refine zH (zK (.t rfl)) (fun h6 => ?_) (fun h6 => ?_)
   ·try simp only [cmpB, Z] at h6
    refine zF (zG [] (.n (zA (.t rfl))<|.n (zA (.t rfl))<|.n (op_float (by simp) (.t rfl) (.t rfl) rfl)<|.n (zA (.t rfl))<|.n (op_float (by simp) (.t rfl) (.t rfl) rfl)<|.n (op_float (by simp) (.t rfl) (Lk.fk rfl (by decide +kernel)) rfl)<|.n (zB (.t rfl))<|.nil) ff rfl fun g18 => ⟨_, _, [], rfl, (.k 5 rfl<|.k 6 rfl<|.k 7 rfl<|.nil), (.nil), ?_⟩)
    refine zC ?_
    refine zF (zG [] (.n (zA (.t rfl))<|.n (zA (.t rfl))<|.n (op_buildSlice sl28 zr39 rfl rfl rfl rfl (.cons rfl (.t rfl) co_flp rfl (puts_l rfl (Nat.le_of_ble_eq_true rfl)) (.cons rfl (.t rfl) co_flp rfl (puts_l rfl (Nat.le_of_ble_eq_true rfl)) .nil)))<|.n (zA (.t rfl))<|.n (zA (.t rfl))<|.n (op_buildSlice sl28 zr39 rfl rfl rfl rfl (.cons rfl (.t rfl) co_flp rfl (puts_l rfl (Nat.le_of_ble_eq_true rfl)) (.cons rfl (.t rfl) co_flp rfl (puts_l rfl (Nat.le_of_ble_eq_true rfl)) .nil)))<|.n (op_buildSlice sl54 zr28 rfl rfl rfl rfl (.cons rfl (.t rfl) co_slc rfl (puts_l rfl (Nat.le_of_ble_eq_true rfl)) (.cons rfl (.t rfl) co_slc rfl (puts_l rfl (Nat.le_of_ble_eq_true rfl)) .nil)))<|.n (zB (.t rfl))<|.nil) ff rfl fun g19 => ⟨_, _, [], rfl, (.k 4 rfl<|.nil), (.nil), ?_⟩)
    refine zC ?_
    refine J_ret ?_
    refine JN_block_ret ?_
    refine zD ?_
    refine zQ (.cons (.tmp (.t rfl))<|.nil) (zM (sb_res1 zL) ?_)
    first | exact sb_eq (by unfold noiseB spB; rw [if_pos (by omega)]; rfl) | exact sb_eq (by unfold noiseB spB; rw [if_neg (by omega), if_pos (by omega)]; rfl) | exact sb_eq (by unfold noiseB spB; rw [if_neg (by omega), if_neg (by omega), if_pos (by omega)]; rfl) | exact sb_eq (by unfold noiseB spB; rw [if_neg (by omega), if_neg (by omega), if_neg (by omega)]; rfl)
   ·try simp only [cmpB, Z] at h6
    refine zF (zG [] (.n (op_cmp (by simp) (.t rfl) (.k rfl) rfl)<|.n (zB (.t rfl))<|.nil) ff rfl fun g20 => ⟨_, _, [], rfl, (.k 1 rfl<|.k 5 rfl<|.k 6 rfl<|.k 43 rfl<|.nil), (.nil), ?_⟩)
    refine zC ?_
    refine zH (zK (.t rfl)) (fun h7 => ?_) (fun h7 => ?_)
    ·try simp only [cmpB, Z] at h7
     refine zF (zG [] (.n (zA (.t rfl))<|.n (zA (.t rfl))<|.n (op_float (by simp) (.t rfl) (.t rfl) rfl)<|.n (zA (.t rfl))<|.n (op_float (by simp) (.t rfl) (.t rfl) rfl)<|.n (op_float (by simp) (.t rfl) (Lk.fk rfl (by decide +kernel)) rfl)<|.n (zA (.t rfl))<|.n (zA (.t rfl))<|.n (op_float (by simp) (.t rfl) (.t rfl) rfl)<|.n (zA (.t rfl))<|.n (op_float (by simp) (.t rfl) (.t rfl) rfl)<|.n (op_float (by simp) (.t rfl) (Lk.fk rfl (by decide +kernel)) rfl)<|.n (zB (.t rfl))<|.n (zB (.t rfl))<|.nil) ff rfl fun g21 => ⟨_, _, [], rfl, (.k 1 rfl<|.k 5 rfl<|.k 6 rfl<|.k 8 rfl<|.k 9 rfl<|.nil), (.nil), ?_⟩)
     refine zC ?_
     refine zF (zG [] (.n (zA (.t rfl))<|.n (zA (.t rfl))<|.n (op_float (by simp) (.t rfl) (.t rfl) rfl)<|.n (zA (.t rfl))<|.n (op_float (by simp) (.t rfl) (.t rfl) rfl)<|.n (zA (.t rfl))<|.n (op_float (by simp) (.t rfl) (.t rfl) rfl)<|.n (op_float (by simp) (.t rfl) (Lk.fk rfl (by decide +kernel)) rfl)<|.n (zA (.t rfl))<|.n (zA (.t rfl))<|.n (op_float (by simp) (.t rfl) (.t rfl) rfl)<|.n (zA (.t rfl))<|.n (op_float (by simp) (.t rfl) (.t rfl) rfl)<|.n (zA (.t rfl))<|.n (op_float (by simp) (.t rfl) (.t rfl) rfl)<|.n (zA (.t rfl))<|.n (op_float (by simp) (.t rfl) (.t rfl) rfl)<|.n (op_float (by simp) (.t rfl) (Lk.fk rfl (by decide +kernel)) rfl)<|.n (zB (.t rfl))<|.n (zB (.t rfl))<|.nil) ff rfl fun g22 => ⟨_, _, [], rfl, (.k 5 rfl<|.k 6 rfl<|.k 8 rfl<|.k 9 rfl<|.k 10 rfl<|.k 11 rfl<|.nil), (.nil), ?_⟩)
     refine zC ?_
     refine zF (zG [] (.n (zA (.t rfl))<|.n (zA (.t rfl))<|.n (zA (.t rfl))<|.n (op_buildSlice sl28 zr39 rfl rfl rfl rfl (.cons rfl (.t rfl) co_flp rfl (puts_l rfl (Nat.le_of_ble_eq_true rfl)) (.cons rfl (.t rfl) co_flp rfl (puts_l rfl (Nat.le_of_ble_eq_true rfl)) (.cons rfl (.t rfl) co_flp rfl (puts_l rfl (Nat.le_of_ble_eq_true rfl)) .nil))))<|.n (zA (.t rfl))<|.n (zA (.t rfl))<|.n (zA (.t rfl))<|.n (op_buildSlice sl28 zr39 rfl rfl rfl rfl (.cons rfl (.t rfl) co_flp rfl (puts_l rfl (Nat.le_of_ble_eq_true rfl)) (.cons rfl (.t rfl) co_flp rfl (puts_l rfl (Nat.le_of_ble_eq_true rfl)) (.cons rfl (.t rfl) co_flp rfl (puts_l rfl (Nat.le_of_ble_eq_true rfl)) .nil))))<|.n (zA (.t rfl))<|.n (zA (.t rfl))<|.n (zA (.t rfl))<|.n (op_buildSlice sl28 zr39 rfl rfl rfl rfl (.cons rfl (.t rfl) co_flp rfl (puts_l rfl (Nat.le_of_ble_eq_true rfl)) (.cons rfl (.t rfl) co_flp rfl (puts_l rfl (Nat.le_of_ble_eq_true rfl)) (.cons rfl (.t rfl) co_flp rfl (puts_l rfl (Nat.le_of_ble_eq_true rfl)) .nil))))<|.n (op_buildSlice sl54 zr28 rfl rfl rfl rfl (.cons rfl (.t rfl) co_slc rfl (puts_l rfl (Nat.le_of_ble_eq_true rfl)) (.cons rfl (.t rfl) co_slc rfl (puts_l rfl (Nat.le_of_ble_eq_true rfl)) (.cons rfl (.t rfl) co_slc rfl (puts_l rfl (Nat.le_of_ble_eq_true rfl)) .nil))))<|.n (zB (.t rfl))<|.nil) ff rfl fun g23 => ⟨_, _, [], rfl, (.k 4 rfl<|.nil), (.nil), ?_⟩)
     refine zC ?_
     refine J_ret ?_
     refine JN_block_ret ?_
     refine zD ?_
     refine zQ (.cons (.tmp (.t rfl))<|.nil) (zM (sb_res1 zL) ?_)
     first | exact sb_eq (by unfold noiseB spB; rw [if_pos (by omega)]; rfl) | exact sb_eq (by unfold noiseB spB; rw [if_neg (by omega), if_pos (by omega)]; rfl) | exact sb_eq (by unfold noiseB spB; rw [if_neg (by omega), if_neg (by omega), if_pos (by omega)]; rfl) | exact sb_eq (by unfold noiseB spB; rw [if_neg (by omega), if_neg (by omega), if_neg (by omega)]; rfl)
    ·try simp only [cmpB, Z] at h7
     refine J_skip ?_
     refine zR ?_
     refine zC ?_
     refine zF (zG [] (.n (op_buildSlice sl28 zr39 rfl rfl rfl rfl (.cons rfl (Lk.fk rfl (by decide +kernel)) co_flp rfl (puts_l rfl (Nat.le_of_ble_eq_true rfl)) .nil))<|.n (op_buildSlice sl54 zr28 rfl rfl rfl rfl (.cons rfl (.t rfl) co_slc rfl (puts_l rfl (Nat.le_of_ble_eq_true rfl)) .nil))<|.n (zB (.t rfl))<|.nil) ff rfl fun g24 => ⟨_, _, [], rfl, (.k 4 rfl<|.nil), (.nil), ?_⟩)
     refine zC ?_
     refine J_ret ?_
     refine zQ (.cons (.tmp (.t rfl))<|.nil) (zM (sb_res1 zL) ?_)
     first | exact sb_eq (by unfold noiseB spB; rw [if_pos (by omega)]; rfl) | exact sb_eq (by unfold noiseB spB; rw [if_neg (by omega), if_pos (by omega)]; rfl) | exact sb_eq (by unfold noiseB spB; rw [if_neg (by omega), if_neg (by omega), if_pos (by omega)]; rfl) | exact sb_eq (by unfold noiseB spB; rw [if_neg (by omega), if_neg (by omega), if_neg (by omega)]; rfl)
end Go.Proofs.YtjnmgcglooeooaaGreatDoor
