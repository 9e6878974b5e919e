/- Printed by a program of ours (walk.py): walks of the first reference, lists of numbers. -/
import Derived.Test.YtcpififnffmjfaaGreatDoorZsKb
import Derived.Test.YtcpififnffmjfaaGreatDoorProg
import Derived.KernelRfl
import Derived.Test.YtcpififnffmjfaaGreatDoorZsTypes
import Derived.Test.YtcpififnffmjfaaGreatDoorZsWNum
set_option linter.unusedVariables false
set_option linter.unusedSimpArgs false
set_option maxRecDepth 20000
set_option maxHeartbeats 1000000
namespace Go.Proofs.YtcpififnffmjfaaGreatDoor
open Go Go.Bn
attribute [local irreducible] OpOK
theorem cls_bit {x : Nat} : Ct Tryz.prog 77 [bitp x, FmtP] (isv (.int .i64 (clsI x))) := Ct.bit (cls_ok (b := 0) (by decide)).1 fun b h1 h2 => (cls_ok h1).res fun v c h => by rw [h2] at h; exact h
theorem class_ok {x : Nat} : Ct Tryz.prog 48 [flp x] (isv (.int .i64 (clsI x))) := by
 refine Ct.of Tryz.func48 rfl (by kernel_rfl) rfl fun c0 => ?_
 refine zF (zG [] (.n (zB (.k rfl))<|.nil) ff rfl fun g1 => ⟨_, _, [], rfl, (.k 0 rfl<|.nil), (.nil), ?_⟩)
 refine zC ?_
 refine zF (zG [] (.n (zA (.t rfl))<|.n (op_f64bits bitsX (.t rfl))<|.n (zP (of_ok) ⟨(.k rfl),  trivial⟩)<|.n (zP (cls_bit) ⟨(.t rfl), (.t rfl),  trivial⟩)<|.n (zB (.t rfl))<|.nil) ff rfl fun g2 => ⟨_, _, [], rfl, (.k 2 rfl<|.nil), (.nil), ?_⟩)
 refine zC ?_
 refine J_ret ?_
 refine zQ (.cons (.tmp (.t rfl))<|.nil) (zM (sb_res1 zL) ?_)
 exact zL
theorem finite_ok {xs : List Nat} : Ct Tryz.prog 20 [fls xs] (isv (.bool (xs.all finB))) := by
 refine Ct.of Tryz.func20 rfl (by kernel_rfl) rfl fun c0 => ?_
 refine J_len 0 rfl fun hlen => ?_
 refine zF (zG [] (.n (zB (.k rfl))<|.nil) ff rfl fun g1 => ⟨_, _, [], rfl, (.k 0 rfl<|.nil), (.nil), ?_⟩)
 refine zC ?_
 refine zF ?_
 refine zF (zG [] (.n (zA (.t rfl))<|.n (op_len_m sl24 (.t rfl))<|.n (zA (.k rfl))<|.nil) ff rfl fun g2 => ⟨_, _, [], rfl, (.k 6 rfl<|.k 7 rfl<|.k 8 rfl<|.nil), (.nil), ?_⟩)
 refine zC ?_
 refine zT ?_
 refine J_loopc (α := Nat) (fun k => k ≤ xs.length ∧ (xs.take k).all finB = true) (fun k => xs.length - k) (fun k restR => (8, isv (.int .i64 (k : Int))) :: restR) (fun k restS => restS) (ρc := [(6, _), (7, _)]) (σc := []) 0 (by exact ⟨Nat.zero_le _, rfl⟩) (To.pick (fun _ => .sub (t := 8) rfl (sp_eq (by rfl))<|.k 6 rfl<|.k 7 rfl<|.nil) (fun _ => .nil) (ks := []) rfl) (fun k hI => ?_)
 obtain ⟨hk, ha⟩ := hI
 refine zF (zG [] (.n (op_cmp (by simp) (.t rfl) (.t rfl) rfl)<|.nil) ff rfl fun g3 => ⟨_, _, [], rfl, (.k 6 rfl<|.k 7 rfl<|.k 8 rfl<|.k 9 rfl<|.nil), (.nil), ?_⟩)
 refine zC ?_
 refine zF ?_
 refine zH (zK (.t rfl)) (fun h1 => ?_) (fun h1 => ?_)
 ·try simp only [cmpB, Z] at h1
  refine J_skip ?_
  refine zC ?_
  refine zF ?_
  refine zT ?_
  refine zF (zG [] (.n (op_index_m 0 sl24 (.t rfl) (.t rfl) (by omega) (by omega))<|.n (op_load_sc sc28 (.t rfl) rfl)<|.n (zB (.t rfl))<|.nil) ff rfl fun g4 => ⟨_, _, [], rfl, (.k 4 rfl<|.k 6 rfl<|.k 7 rfl<|.k 8 rfl<|.nil), (.nil), ?_⟩)
  refine zC ?_
  refine zF (zG [] (.n (zA (.t rfl))<|.n (zP (class_ok) ⟨(.t rfl),  trivial⟩)<|.n (zB (.t rfl))<|.nil) ff rfl fun g5 => ⟨_, _, [], rfl, (.k 5 rfl<|.k 6 rfl<|.k 7 rfl<|.k 8 rfl<|.nil), (.nil), ?_⟩)
  refine zC ?_
  refine zF (zG [] (.n (zA (.t rfl))<|.n (op_cmp (by simp) (.t rfl) (.k rfl) rfl)<|.n (zA (.t rfl))<|.n (op_guard rfl rfl (gd_b rfl) (fun hC => (zA (.t rfl))))<|.n (op_guard rfl rfl (gd_b rfl) (fun hC => (op_cmp (by simp) (.w rfl hC) (.k rfl) rfl)))<|.n (op_or (.t rfl) (fun h2 => (.w rfl h2)))<|.nil) ff rfl fun g6 => ⟨_, _, [], rfl, (.k 6 rfl<|.k 7 rfl<|.k 8 rfl<|.k 19 rfl<|.nil), (.nil), ?_⟩)
  refine zC ?_
  refine zH (zK (.t rfl)) (fun h2 => ?_) (fun h2 => ?_)
  ·try simp only [cmpB, Z] at h2
   refine zF (zG [] (.n (zB (.k rfl))<|.nil) ff rfl fun g7 => ⟨_, _, [], rfl, (.k 2 rfl<|.nil), (.nil), ?_⟩)
   refine zC ?_
   refine J_ret ?_
   refine JN_block_ret ?_
   refine zD ?_
   refine zD ?_
   refine JN_block_ret ?_
   refine zD ?_
   refine zQ (.cons (.tmp (.t rfl))<|.nil) (zM (sb_res1 zL) ?_)
   exact ret_b (all_no 0 (by omega : k < xs.length) (by have := @cls_finB (xs.getD k 0); cases hf : finB (xs.getD k 0) <;> simp_all)).symm
  ·try simp only [cmpB, Z] at h2
   refine J_skip ?_
   refine zR ?_
   refine zC ?_
   refine (zG [] (.n (op_add (.t rfl) (.k rfl) (zO (by omega) (by omega)))<|.n (zA (.t rfl))<|.nil) ff rfl fun g8 => ⟨_, _, [], rfl, (.k 6 rfl<|.k 7 rfl<|.k 8 rfl<|.nil), (.nil), ?_⟩)
   exact JN_again (k + 1) (by exact ⟨by omega, all_take 0 (by omega) ha (cls_finB.1 (by simpa using ⟨h2.1, h2.2⟩))⟩) (by omega) (To.pick (fun _ => .sub (t := 8) rfl (sp_eq (by rfl))<|.k 6 rfl<|.k 7 rfl<|.nil) (fun _ => .nil) (ks := []) rfl)
 ·try simp only [cmpB, Z] at h1
  refine J_exit ?_
  refine zE ?_
  refine zE ?_
  refine zS ?_
  refine zC ?_
  refine zF (zG [] (.n (zB (.k rfl))<|.nil) ff rfl fun g9 => ⟨_, _, [], rfl, (.k 2 rfl<|.nil), (.nil), ?_⟩)
  refine zC ?_
  refine J_ret ?_
  refine zQ (.cons (.tmp (.t rfl))<|.nil) (zM (sb_res1 zL) ?_)
  exact ret_b (all_whole (by omega) ha).symm
theorem bits_ok {x : Nat} : Ct Tryz.prog 101 [flp x] (isv (.int .u64 (x : Int))) := by
 refine Ct.of Tryz.func101 rfl (by kernel_rfl) rfl fun c0 => ?_
 refine J_fl 0 rfl fun hx1 hx2 => ?_
 refine zF (zG [] (.n (zB (.k rfl))<|.nil) ff rfl fun g1 => ⟨_, _, [], rfl, (.k 0 rfl<|.nil), (.nil), ?_⟩)
 refine zC ?_
 refine zF ?_
 refine zF (zG [] (.n (zA (.t rfl))<|.n (zA (.t rfl))<|.n (op_fcmp (by simp) (.t rfl) (.t rfl) rfl)<|.nil) ff rfl fun g2 => ⟨_, _, [], rfl, (.k 0 rfl<|.k 5 rfl<|.nil), (.nil), ?_⟩)
 refine zC ?_
 refine zH (zK (.t rfl)) (fun h1 => ?_) (fun h1 => ?_)
 ·have h1' := h1
  try simp only [cmpB, Z] at h1
  refine zF (zG [] (.n (zB (.k rfl))<|.nil) ff rfl fun g3 => ⟨_, _, [], rfl, (.k 2 rfl<|.nil), (.nil), ?_⟩)
  refine zC ?_
  refine J_ret ?_
  refine zD ?_
  refine zQ (.cons (.tmp (.t rfl))<|.nil) (zM (sb_res1 zL) ?_)
  exact ret_i (by rw [fcmp_self] at h1'; rw [← hx2, cn_of_nan h1']; rfl)
 ·have h1' := h1
  try simp only [cmpB, Z] at h1
  refine J_skip ?_
  refine zC ?_
  refine zF (zG [] (.n (zA (.t rfl))<|.n (op_f64bits bitsX (.t rfl))<|.n (zB (.t rfl))<|.nil) ff rfl fun g4 => ⟨_, _, [], rfl, (.k 2 rfl<|.nil), (.nil), ?_⟩)
  refine zC ?_
  refine J_ret ?_
  refine zQ (.cons (.tmp (.t rfl))<|.nil) (zM (sb_res1 zL) ?_)
  exact fun v c _ h => bitp_isv (by rw [fcmp_self] at h1'; exact h1') v c h
theorem rsplit_ok {x : Nat} : Ct Tryz.prog 75 [flp x] (tupp [anyp, isv (.int .i64 (expo x : Int)), isv (.int .u64 (frac x : Int))]) := by
 refine Ct.of Tryz.func75 rfl (by kernel_rfl) rfl fun c0 => ?_
 refine zF (zG [] (.n (zB (.k rfl))<|.n (zB (.k rfl))<|.n (zB (.k rfl))<|.nil) ff rfl fun g1 => ⟨_, _, [], rfl, (.k 0 rfl<|.nil), (.nil), ?_⟩)
 refine zC ?_
 refine zF (zG [] (.n (zA (.t rfl))<|.n (zP (bits_ok) ⟨(.t rfl),  trivial⟩)<|.n (zB (.t rfl))<|.nil) ff rfl fun g2 => ⟨_, _, [], rfl, (.k 5 rfl<|.nil), (.nil), ?_⟩)
 refine zC ?_
 refine zF (zG [] (.n (zA (.t rfl))<|.n (op_shr (.t rfl) (.k rfl) (by omega) (shr_bits x 63 (by omega)))<|.n (op_cmp (by simp) (.t rfl) (.k rfl) rfl)<|.n (zA (.t rfl))<|.n (op_shr (.t rfl) (.k rfl) (by omega) (shr_bits x 52 (by omega)))<|.n (op_rem (.t rfl) (.k rfl) (by omega) (show _ = ((expo x : Nat) : Int) from rfl))<|.n (op_conv_int it38 it3 (.t rfl) (expo_i64 x))<|.n (zA (.t rfl))<|.n (op_rem (.t rfl) (.k rfl) (by omega) (show _ = ((frac x : Nat) : Int) from rfl))<|.n (zB (.t rfl))<|.n (zB (.t rfl))<|.n (zB (.t rfl))<|.nil) ff rfl fun g3 => ⟨_, _, [], rfl, (.k 2 rfl<|.k 3 rfl<|.k 4 rfl<|.nil), (.nil), ?_⟩)
 refine zC ?_
 refine J_ret ?_
 refine zQ (.cons (.tmp (.t rfl))<|.cons (.tmp (.t rfl))<|.cons (.tmp (.t rfl))<|.nil) (zM (sb_res (.cons zL<|.cons zL<|.cons zL<|.nil)) ?_)
 exact fun _ _ _ ⟨vs, h1, h2⟩ => ⟨vs, h1, HL.sub1 h2⟩
theorem clf_ok {e f m : Int} : Ct Tryz.prog 76 [isv (.int .i64 e), isv (.int .u64 f), isv (.int .i64 m)] (isv (.int .i64 (clf e f m))) := by
 refine Ct.of Tryz.func76 rfl (by kernel_rfl) rfl fun c0 => ?_
 refine zF (zG [] (.n (zB (.k rfl))<|.nil) ff rfl fun g1 => ⟨_, _, [], rfl, (.k 0 rfl<|.k 1 rfl<|.k 2 rfl<|.nil), (.nil), ?_⟩)
 refine zC ?_
 refine zF ?_
 refine zT ?_
 refine zF (zG [] (.n (zA (.t rfl))<|.n (zA (.t rfl))<|.n (op_cmp (by simp) (.t rfl) (.t rfl) rfl)<|.n (zA (.t rfl))<|.n (op_guard rfl rfl (gd_b rfl) (fun hC => (zA (.t rfl))))<|.n (op_guard rfl rfl (gd_b rfl) (fun hC => (op_cmp (by simp) (.w rfl hC) (.k rfl) rfl)))<|.n (op_and (.t rfl) (fun h2 => (.w rfl h2)))<|.n (zB (.t rfl))<|.nil) ff rfl fun g2 => ⟨_, _, [], rfl, (.k 0 rfl<|.k 1 rfl<|.k 2 rfl<|.k 7 rfl<|.nil), (.nil), ?_⟩)
 refine zC ?_
 refine zH (zK (.t rfl)) (fun h1 => ?_) (fun h1 => ?_)
 ·try simp only [cmpB, Z] at h1
  refine zF (zG [] (.n (zB (.k rfl))<|.nil) ff rfl fun g3 => ⟨_, _, [], rfl, (.k 6 rfl<|.nil), (.nil), ?_⟩)
  refine zC ?_
  refine J_ret ?_
  refine JN_block_ret ?_
  refine zD ?_
  refine zQ (.cons (.tmp (.t rfl))<|.nil) (zM (sb_res1 zL) ?_)
  exact ret_i (by unfold clf; (repeat' split) <;> omega)
 ·try simp only [cmpB, Z] at h1
  refine zF (zG [] (.n (zA (.t rfl))<|.n (zA (.t rfl))<|.n (op_cmp (by simp) (.t rfl) (.t rfl) rfl)<|.n (zB (.t rfl))<|.nil) ff rfl fun g4 => ⟨_, _, [], rfl, (.k 0 rfl<|.k 1 rfl<|.k 15 rfl<|.nil), (.nil), ?_⟩)
  refine zC ?_
  refine zH (zK (.t rfl)) (fun h2 => ?_) (fun h2 => ?_)
  ·try simp only [cmpB, Z] at h2
   refine zF (zG [] (.n (zB (.k rfl))<|.nil) ff rfl fun g5 => ⟨_, _, [], rfl, (.k 6 rfl<|.nil), (.nil), ?_⟩)
   refine zC ?_
   refine J_ret ?_
   refine JN_block_ret ?_
   refine zD ?_
   refine zQ (.cons (.tmp (.t rfl))<|.nil) (zM (sb_res1 zL) ?_)
   exact ret_i (by unfold clf; (repeat' split) <;> omega)
  ·try simp only [cmpB, Z] at h2
   refine zF (zG [] (.n (zA (.t rfl))<|.n (op_cmp (by simp) (.t rfl) (.k rfl) rfl)<|.n (zA (.t rfl))<|.n (op_guard rfl rfl (gd_b rfl) (fun hC => (zA (.t rfl))))<|.n (op_guard rfl rfl (gd_b rfl) (fun hC => (op_cmp (by simp) (.w rfl hC) (.k rfl) rfl)))<|.n (op_and (.t rfl) (fun h2 => (.w rfl h2)))<|.n (zB (.t rfl))<|.nil) ff rfl fun g6 => ⟨_, _, [], rfl, (.k 0 rfl<|.k 19 rfl<|.nil), (.nil), ?_⟩)
   refine zC ?_
   refine zH (zK (.t rfl)) (fun h3 => ?_) (fun h3 => ?_)
   ·try simp only [cmpB, Z] at h3
    refine zF (zG [] (.n (zB (.k rfl))<|.nil) ff rfl fun g7 => ⟨_, _, [], rfl, (.k 6 rfl<|.nil), (.nil), ?_⟩)
    refine zC ?_
    refine J_ret ?_
    refine JN_block_ret ?_
    refine zD ?_
    refine zQ (.cons (.tmp (.t rfl))<|.nil) (zM (sb_res1 zL) ?_)
    exact ret_i (by unfold clf; (repeat' split) <;> omega)
   ·try simp only [cmpB, Z] at h3
    refine zF (zG [] (.n (zA (.t rfl))<|.n (op_cmp (by simp) (.t rfl) (.k rfl) rfl)<|.n (zB (.t rfl))<|.nil) ff rfl fun g8 => ⟨_, _, [], rfl, (.k 26 rfl<|.nil), (.nil), ?_⟩)
    refine zC ?_
    refine zH (zK (.t rfl)) (fun h4 => ?_) (fun h4 => ?_)
    ·try simp only [cmpB, Z] at h4
     refine zF (zG [] (.n (zB (.k rfl))<|.nil) ff rfl fun g9 => ⟨_, _, [], rfl, (.k 6 rfl<|.nil), (.nil), ?_⟩)
     refine zC ?_
     refine J_ret ?_
     refine JN_block_ret ?_
     refine zD ?_
     refine zQ (.cons (.tmp (.t rfl))<|.nil) (zM (sb_res1 zL) ?_)
     exact ret_i (by unfold clf; (repeat' split) <;> omega)
    ·try simp only [cmpB, Z] at h4
     refine J_skip ?_
     refine zR ?_
     refine zC ?_
     refine zF (zG [] (.n (zB (.k rfl))<|.nil) ff rfl fun g10 => ⟨_, _, [], rfl, (.k 6 rfl<|.nil), (.nil), ?_⟩)
     refine zC ?_
     refine J_ret ?_
     refine zQ (.cons (.tmp (.t rfl))<|.nil) (zM (sb_res1 zL) ?_)
     exact ret_i (by unfold clf; (repeat' split) <;> omega)
theorem rclass_ok {x : Nat} : Ct Tryz.prog 47 [flp x] (isv (.int .i64 (clsI x))) := by
 refine Ct.of Tryz.func47 rfl (by kernel_rfl) rfl fun c0 => ?_
 refine zF (zG [] (.n (zB (.k rfl))<|.nil) ff rfl fun g1 => ⟨_, _, [], rfl, (.k 0 rfl<|.nil), (.nil), ?_⟩)
 refine zC ?_
 refine zF (zG [] (.n (zA (.t rfl))<|.n (zP (rsplit_ok) ⟨(.t rfl),  trivial⟩)<|.n (zA (.t rfl))<|.n (op_extract (.t rfl) rfl)<|.n (op_extract (.t rfl) rfl)<|.n (op_extract (.t rfl) rfl)<|.n (zB (.t rfl))<|.n (zB (.t rfl))<|.n (zB (.t rfl))<|.nil) ff rfl fun g2 => ⟨_, _, [], rfl, (.k 4 rfl<|.k 5 rfl<|.nil), (.nil), ?_⟩)
 refine zC ?_
 refine zF (zG [] (.n (zA (.t rfl))<|.n (zA (.t rfl))<|.n (zP (clf_ok) ⟨(.t rfl), (.t rfl), (.k rfl),  trivial⟩)<|.n (zB (.t rfl))<|.nil) ff rfl fun g3 => ⟨_, _, [], rfl, (.k 2 rfl<|.nil), (.nil), ?_⟩)
 refine zC ?_
 refine J_ret ?_
 refine zQ (.cons (.tmp (.t rfl))<|.nil) (zM (sb_res1 zL) ?_)
 exact ret_i (clf_cls x)
theorem rfinite_ok {x : Nat} : Ct Tryz.prog 18 [flp x] (isv (.bool (finB x))) := by
 refine Ct.of Tryz.func18 rfl (by kernel_rfl) rfl fun c0 => ?_
 refine zF (zG [] (.n (zB (.k rfl))<|.nil) ff rfl fun g1 => ⟨_, _, [], rfl, (.k 0 rfl<|.nil), (.nil), ?_⟩)
 refine zC ?_
 refine zF (zG [] (.n (zA (.t rfl))<|.n (zP (rclass_ok) ⟨(.t rfl),  trivial⟩)<|.n (op_cmp (by simp) (.t rfl) (.k rfl) rfl)<|.n (zB (.t rfl))<|.nil) ff rfl fun g2 => ⟨_, _, [], rfl, (.k 2 rfl<|.nil), (.nil), ?_⟩)
 refine zC ?_
 refine J_ret ?_
 refine zQ (.cons (.tmp (.t rfl))<|.nil) (zM (sb_res1 zL) ?_)
 exact ret_b cls_gt
theorem rall_ok {xs : List Nat} : Ct Tryz.prog 5 [fls xs] (isv (.bool (xs.all finB))) := by
 refine Ct.of Tryz.func5 rfl (by kernel_rfl) rfl fun c0 => ?_
 refine J_len 0 rfl fun hlen => ?_
 refine zF (zG [] (.n (zB (.k rfl))<|.nil) ff rfl fun g1 => ⟨_, _, [], rfl, (.k 0 rfl<|.nil), (.nil), ?_⟩)
 refine zC ?_
 refine zF ?_
 refine zF (zG [] (.n (zA (.t rfl))<|.n (op_len_m sl24 (.t rfl))<|.n (zA (.k rfl))<|.nil) ff rfl fun g2 => ⟨_, _, [], rfl, (.k 5 rfl<|.k 6 rfl<|.k 7 rfl<|.nil), (.nil), ?_⟩)
 refine zC ?_
 refine zT ?_
 refine J_loopc (α := Nat) (fun k => k ≤ xs.length ∧ (xs.take k).all finB = true) (fun k => xs.length - k) (fun k restR => (7, isv (.int .i64 (k : Int))) :: restR) (fun k restS => restS) (ρc := [(5, _), (6, _)]) (σc := []) 0 (by exact ⟨Nat.zero_le _, rfl⟩) (To.pick (fun _ => .sub (t := 7) rfl (sp_eq (by rfl))<|.k 5 rfl<|.k 6 rfl<|.nil) (fun _ => .nil) (ks := []) rfl) (fun k hI => ?_)
 obtain ⟨hk, ha⟩ := hI
 refine zF (zG [] (.n (op_cmp (by simp) (.t rfl) (.t rfl) rfl)<|.nil) ff rfl fun g3 => ⟨_, _, [], rfl, (.k 5 rfl<|.k 6 rfl<|.k 7 rfl<|.k 8 rfl<|.nil), (.nil), ?_⟩)
 refine zC ?_
 refine zF ?_
 refine zH (zK (.t rfl)) (fun h1 => ?_) (fun h1 => ?_)
 ·try simp only [cmpB, Z] at h1
  refine J_skip ?_
  refine zC ?_
  refine zF ?_
  refine zT ?_
  refine zF (zG [] (.n (op_index_m 0 sl24 (.t rfl) (.t rfl) (by omega) (by omega))<|.n (op_load_sc sc28 (.t rfl) rfl)<|.n (zB (.t rfl))<|.nil) ff rfl fun g4 => ⟨_, _, [], rfl, (.k 4 rfl<|.k 5 rfl<|.k 6 rfl<|.k 7 rfl<|.nil), (.nil), ?_⟩)
  refine zC ?_
  refine zF (zG [] (.n (zA (.t rfl))<|.n (zP (rfinite_ok) ⟨(.t rfl),  trivial⟩)<|.n (op_not (.t rfl))<|.nil) ff rfl fun g5 => ⟨_, _, [], rfl, (.k 5 rfl<|.k 6 rfl<|.k 7 rfl<|.k 13 rfl<|.nil), (.nil), ?_⟩)
  refine zC ?_
  refine zH (zK (.t rfl)) (fun h2 => ?_) (fun h2 => ?_)
  ·have h2' := h2
   try simp only [cmpB, Z] at h2
   refine zF (zG [] (.n (zB (.k rfl))<|.nil) ff rfl fun g6 => ⟨_, _, [], rfl, (.k 2 rfl<|.nil), (.nil), ?_⟩)
   refine zC ?_
   refine J_ret ?_
   refine JN_block_ret ?_
   refine zD ?_
   refine zD ?_
   refine JN_block_ret ?_
   refine zD ?_
   refine zQ (.cons (.tmp (.t rfl))<|.nil) (zM (sb_res1 zL) ?_)
   exact ret_b (all_no 0 (by omega : k < xs.length) (by simpa using h2')).symm
  ·have h2' := h2
   try simp only [cmpB, Z] at h2
   refine J_skip ?_
   refine zR ?_
   refine zC ?_
   refine (zG [] (.n (op_add (.t rfl) (.k rfl) (zO (by omega) (by omega)))<|.n (zA (.t rfl))<|.nil) ff rfl fun g7 => ⟨_, _, [], rfl, (.k 5 rfl<|.k 6 rfl<|.k 7 rfl<|.nil), (.nil), ?_⟩)
   exact JN_again (k + 1) (by exact ⟨by omega, all_take 0 (by omega) ha (by simpa using h2')⟩) (by omega) (To.pick (fun _ => .sub (t := 7) rfl (sp_eq (by rfl))<|.k 5 rfl<|.k 6 rfl<|.nil) (fun _ => .nil) (ks := []) rfl)
 ·try simp only [cmpB, Z] at h1
  refine J_exit ?_
  refine zE ?_
  refine zE ?_
  refine zS ?_
  refine zC ?_
  refine zF (zG [] (.n (zB (.k rfl))<|.nil) ff rfl fun g8 => ⟨_, _, [], rfl, (.k 2 rfl<|.nil), (.nil), ?_⟩)
  refine zC ?_
  refine J_ret ?_
  refine zQ (.cons (.tmp (.t rfl))<|.nil) (zM (sb_res1 zL) ?_)
  exact ret_b (all_whole (by omega) ha).symm
theorem of64_ok {bs : List Nat} (hb : ∀ b, b ∈ bs → b < 2 ^ 64) (hl : bs.length * 8 ≤ 140737488355328) : Ct Tryz.prog 4 [wsl bs] (fls (bs.map cn)) := by
 refine Ct.of Tryz.func4 rfl (by kernel_rfl) rfl fun c0 => ?_
 refine zF (zG [] (.n (zB (.k rfl))<|.nil) ff rfl fun g1 => ⟨_, _, [], rfl, (.k 0 rfl<|.nil), (.nil), ?_⟩)
 refine zC ?_
 refine zF (zG [] (.n (zB (.k rfl))<|.nil) ff rfl fun g2 => ⟨_, _, [], rfl, (.k 0 rfl<|.k 3 rfl<|.nil), (.nil), ?_⟩)
 refine zC ?_
 refine zF ?_
 refine zF (zG [] (.n (zA (.t rfl))<|.n (op_len_m sl22 (.t rfl))<|.n (zA (.k rfl))<|.nil) ff rfl fun g3 => ⟨_, _, [], rfl, (.k 3 rfl<|.k 6 rfl<|.k 7 rfl<|.k 8 rfl<|.nil), (.nil), ?_⟩)
 refine zC ?_
 refine zT ?_
 refine J_to (To.emps 1) ?_
 refine J_loopc (α := Nat × Value) (fun x => x.1 ≤ bs.length) (fun x => bs.length - x.1) (fun x restR => (8, isv (.int .i64 (x.1 : Int))) :: (3, isv x.2) :: restR) (fun x restS => som x.2 flp ((bs.map cn).take x.1) 28 :: restS) (ρc := [(6, _), (7, _)]) (σc := []) (0, .slice none 0 0) (by exact Nat.zero_le _) (To.pick (fun _ => .sub (t := 8) rfl (sp_eq (by rfl))<|.sub (t := 3) rfl (sp_eq (by rfl))<|.k 6 rfl<|.k 7 rfl<|.nil) (fun _ => .sub 0 rfl (som_nil)<|.nil) (ks := [0]) rfl) (fun x hI => ?_)
 obtain ⟨k, sv⟩ := x
 try simp only at hI
 show J _ _ ((8, isv (.int .i64 (k : Int))) :: (3, isv sv) :: _) (som sv flp ((bs.map cn).take k) 28 :: _) _ _
 refine zF (zG [] (.n (op_cmp (by simp) (.t rfl) (.t rfl) rfl)<|.nil) ff rfl fun g4 => ⟨_, _, [0], rfl, (.k 3 rfl<|.k 6 rfl<|.k 7 rfl<|.k 8 rfl<|.k 9 rfl<|.nil), (.k 0 rfl<|.nil), ?_⟩)
 refine zC ?_
 refine zF ?_
 refine zH (zK (.t rfl)) (fun h1 => ?_) (fun h1 => ?_)
 ·try simp only [cmpB, Z] at h1
  refine J_skip ?_
  refine zC ?_
  refine zF ?_
  refine zT ?_
  refine zF (zG [] (.n (op_index_m 0 sl22 (.t rfl) (.t rfl) (by omega) (by omega))<|.n (op_load_sc sc38 (.t rfl) rfl)<|.n (zB (.t rfl))<|.nil) ff rfl fun g5 => ⟨_, _, [0], rfl, (.k 3 rfl<|.k 5 rfl<|.k 6 rfl<|.k 7 rfl<|.k 8 rfl<|.nil), (.k 0 rfl<|.nil), ?_⟩)
  refine zC ?_
  refine (zG [] (.n (zA (.t rfl))<|.n (zA (.t rfl))<|.n (op_f64from fromX (hb _ (mem_getD 0 (by omega))) (.t rfl))<|.n (op_buildSlice sl24 zr28 rfl rfl rfl rfl (.cons rfl (.t rfl) co_flp rfl (puts_l rfl (Nat.le_of_ble_eq_true rfl)) .nil))<|.w 0 (op_append_m 0 sl24 zr28 rfl (.t rfl) (.t rfl) rfl (by simp; omega) (by simp; omega))<|.n (op_assign_ve rfl rfl)<|.nil) ff rfl fun g6 => ⟨_, _, [0], rfl, (.k 3 rfl<|.k 6 rfl<|.k 7 rfl<|.k 8 rfl<|.nil), (.k 0 rfl<|.nil), ?_⟩)
  refine zR ?_
  refine zC ?_
  refine (zG [] (.n (op_add (.t rfl) (.k rfl) (zO (by omega) (by omega)))<|.n (zA (.t rfl))<|.nil) ff rfl fun g7 => ⟨_, _, [0], rfl, (.k 3 rfl<|.k 6 rfl<|.k 7 rfl<|.k 8 rfl<|.nil), (.k 0 rfl<|.nil), ?_⟩)
  exact JN_again (k + 1, g6 16) (by exact (show k + 1 ≤ bs.length by omega)) (by show bs.length - (_ + 1) < _; omega) (To.pick (fun _ => .sub (t := 8) rfl (sp_eq (by rfl))<|.sub (t := 3) rfl (sp_eq (by rfl))<|.k 6 rfl<|.k 7 rfl<|.nil) (fun _ => .sub 0 rfl ((res_eq (by have e := take_snoc (xs := bs.map cn) 0 (k := k) (by rw [List.length_map]; omega); show som _ flp _ _ = som _ flp ((bs.map cn).take (k + 1)) _; rw [e]; congr 2; simp [List.getD, List.getElem?_map, List.getElem?_eq_getElem (show k < bs.length by omega)])))<|.nil) (ks := [0]) rfl)
 ·try simp only [cmpB, Z] at h1
  refine J_exit ?_
  refine zE ?_
  refine zE ?_
  refine zS ?_
  refine zC ?_
  refine zF (zG [] (.n (zA (.t rfl))<|.n (zB (.t rfl))<|.nil) ff rfl fun g8 => ⟨_, _, [0], rfl, (.k 2 rfl<|.nil), (.k 0 rfl<|.nil), ?_⟩)
  refine zC ?_
  refine J_ret ?_
  refine JN_to (To.freeze 0 (fun _ h => h) rfl frz_som rfl) ?_
  refine zQ (.cons (.tmp (.t rfl))<|.nil) (zM (sb_res1 (sb_fk 0 rfl)) ?_)
  exact ret_eq (by rw [List.take_of_length_le (by simp; omega)])
end Go.Proofs.YtcpififnffmjfaaGreatDoor
