/- Printed by a program of ours (walk.py): walks of anatomy and of the first reference. -/
import Derived.Test.YtcpififnffmjfaaGreatDoorZsKb
import Derived.Test.YtcpififnffmjfaaGreatDoorProg
import Derived.KernelRfl
import Derived.Test.YtcpififnffmjfaaGreatDoorZsTypes
set_option linter.unusedVariables false
set_option linter.unusedSimpArgs false
set_option maxRecDepth 20000
set_option maxHeartbeats 1000000
namespace Go.Proofs.YtcpififnffmjfaaGreatDoor
open Go Go.Bn
attribute [local irreducible] OpOK
def FmtP : SP := aggp [isv (.int .u64 52), isv (.int .i64 2047), isv (.int .i64 1075)]
theorem bitsX : Ext Tryz.prog 10 Go.Extern.MathFloatBits.float64bits := ⟨_, Tryz.func10, by kernel_rfl, by kernel_rfl, by kernel_rfl, by kernel_rfl⟩
theorem fromX : Ext Tryz.prog 17 Go.Extern.MathFloatBits.float64frombits := ⟨_, Tryz.func17, by kernel_rfl, by kernel_rfl, by kernel_rfl, by kernel_rfl⟩
theorem sign_ok  : Ct Tryz.prog 108 [FmtP] (isv (.int .u64 9223372036854775808)) := by
 refine Ct.of Tryz.func108 rfl (by kernel_rfl) rfl fun c0 => ?_
 refine J_to (To.emps 1) ?_
 refine zF (zG [] (.w 0 (op_box 0 (.t rfl) co_agg rfl)<|.n (zB (.k rfl))<|.nil) ff rfl fun g1 => ⟨_, _, [0], rfl, (.k 1 rfl<|.nil), (.k 0 rfl<|.nil), ?_⟩)
 refine zC ?_
 refine zF (zG [] (.n (zI fd106_1 (.t rfl) rfl)<|.r 0 (zN 0 sc3 (.t rfl) rfl zJ rfl)<|.n (op_add (.t rfl) (.k rfl) (zO (by omega) (by omega)))<|.n (op_conv_int it3 it38 (.t rfl) rfl)<|.n (zI fd106_0 (.t rfl) rfl)<|.r 0 (zN 0 sc98 (.t rfl) rfl zJ rfl)<|.n (op_shl (.t rfl) (.t rfl) (by omega) rfl)<|.n (zB (.t rfl))<|.nil) ff rfl fun g2 => ⟨_, _, [], rfl, (.k 2 rfl<|.nil), (.nil), ?_⟩)
 refine zC ?_
 refine J_ret ?_
 refine zQ (.cons (.tmp (.t rfl))<|.nil) (zM (sb_res1 zL) ?_)
 exact ret_i (by decide +kernel)
theorem inf_ok  : Ct Tryz.prog 110 [FmtP] (isv (.int .u64 9218868437227405312)) := by
 refine Ct.of Tryz.func110 rfl (by kernel_rfl) rfl fun c0 => ?_
 refine J_to (To.emps 1) ?_
 refine zF (zG [] (.w 0 (op_box 0 (.t rfl) co_agg rfl)<|.n (zB (.k rfl))<|.nil) ff rfl fun g1 => ⟨_, _, [0], rfl, (.k 1 rfl<|.nil), (.k 0 rfl<|.nil), ?_⟩)
 refine zC ?_
 refine zF (zG [] (.n (zI fd106_1 (.t rfl) rfl)<|.r 0 (zN 0 sc3 (.t rfl) rfl zJ rfl)<|.n (op_conv_int it3 it38 (.t rfl) rfl)<|.n (zI fd106_0 (.t rfl) rfl)<|.r 0 (zN 0 sc98 (.t rfl) rfl zJ rfl)<|.n (op_shl (.t rfl) (.t rfl) (by omega) rfl)<|.n (zB (.t rfl))<|.nil) ff rfl fun g2 => ⟨_, _, [], rfl, (.k 2 rfl<|.nil), (.nil), ?_⟩)
 refine zC ?_
 refine J_ret ?_
 refine zQ (.cons (.tmp (.t rfl))<|.nil) (zM (sb_res1 zL) ?_)
 exact ret_i (by decide +kernel)
theorem hid_ok  : Ct Tryz.prog 98 [FmtP] (isv (.int .u64 4503599627370496)) := by
 refine Ct.of Tryz.func98 rfl (by kernel_rfl) rfl fun c0 => ?_
 refine J_to (To.emps 1) ?_
 refine zF (zG [] (.w 0 (op_box 0 (.t rfl) co_agg rfl)<|.n (zB (.k rfl))<|.nil) ff rfl fun g1 => ⟨_, _, [0], rfl, (.k 1 rfl<|.nil), (.k 0 rfl<|.nil), ?_⟩)
 refine zC ?_
 refine zF (zG [] (.n (zI fd106_0 (.t rfl) rfl)<|.r 0 (zN 0 sc98 (.t rfl) rfl zJ rfl)<|.n (op_shl (.k rfl) (.t rfl) (by omega) rfl)<|.n (zB (.t rfl))<|.nil) ff rfl fun g2 => ⟨_, _, [], rfl, (.k 2 rfl<|.nil), (.nil), ?_⟩)
 refine zC ?_
 refine J_ret ?_
 refine zQ (.cons (.tmp (.t rfl))<|.nil) (zM (sb_res1 zL) ?_)
 exact ret_i (by decide +kernel)
theorem none_ok  : Ct Tryz.prog 107 [FmtP] (isv (.int .u64 9221120237041090561)) := by
 refine Ct.of Tryz.func107 rfl (by kernel_rfl) rfl fun c0 => ?_
 refine J_to (To.emps 1) ?_
 refine zF (zG [] (.w 0 (op_box 0 (.t rfl) co_agg rfl)<|.n (zB (.k rfl))<|.nil) ff rfl fun g1 => ⟨_, _, [0], rfl, (.k 1 rfl<|.nil), (.k 0 rfl<|.nil), ?_⟩)
 refine zC ?_
 refine zF (zG [[], [0], [], [0, 1, 2], [0, 1, 2, 3], [0, 1, 2, 3, 4], [], [6], [6, 7], [0, 1, 2, 3, 4, 5, 6, 7, 8], [0, 1, 2, 3, 4, 5, 6, 7, 8, 9]] (.r 0 (op_get_ag 0 ag106 (.t rfl) rfl zJ rfl rfl)<|.n (zP (inf_ok) ⟨(.t rfl),  trivial⟩)<|.r 0 (op_get_ag 0 ag106 (.t rfl) rfl zJ rfl rfl)<|.n (zP (hid_ok) ⟨(.t rfl),  trivial⟩)<|.n (op_shr (.t rfl) (.k rfl) (by omega) rfl)<|.n (op_bits (by simp) (.t rfl) (.t rfl) rfl)<|.n (zI fd106_0 (.t rfl) rfl)<|.r 0 (zN 0 sc98 (.t rfl) rfl zJ rfl)<|.n (op_quo (.t rfl) (.k rfl) (by omega) rfl)<|.n (op_bits (by simp) (.t rfl) (.t rfl) rfl)<|.n (zB (.t rfl))<|.nil) (fun _ => mixed) rfl fun g2 => ⟨_, _, [], rfl, (.k 2 rfl<|.nil), (.nil), ?_⟩)
 refine zC ?_
 refine J_ret ?_
 refine zQ (.cons (.tmp (.t rfl))<|.nil) (zM (sb_res1 zL) ?_)
 exact ret_i (by decide +kernel)
theorem nan_ok {b : Nat} (hb : b < 2 ^ 64) : Ct Tryz.prog 106 [isv (.int .u64 (b : Int)), FmtP] (isv (.bool (nanB b))) := by
 refine Ct.of Tryz.func106 rfl (by kernel_rfl) rfl fun c0 => ?_
 refine J_to (To.emps 1) ?_
 refine zF (zG [] (.w 0 (op_box 0 (.t rfl) co_agg rfl)<|.n (zB (.k rfl))<|.nil) ff rfl fun g1 => ⟨_, _, [0], rfl, (.k 0 rfl<|.k 3 rfl<|.nil), (.k 0 rfl<|.nil), ?_⟩)
 refine zC ?_
 refine zF (zG [[], [], [1], [0, 1, 2], [], [1, 2, 4], [0, 1, 2, 3, 4, 5], [0, 1, 2, 3, 4, 5, 6]] (.n (zA (.t rfl))<|.r 0 (op_get_ag 0 ag106 (.t rfl) rfl zJ rfl rfl)<|.n (zP (sign_ok) ⟨(.t rfl),  trivial⟩)<|.n (op_bits (by simp) (.t rfl) (.t rfl) rfl)<|.r 0 (op_get_ag 0 ag106 (.t rfl) rfl zJ rfl rfl)<|.n (zP (inf_ok) ⟨(.t rfl),  trivial⟩)<|.n (op_cmp (by simp) (.t rfl) (.t rfl) rfl)<|.n (zB (.t rfl))<|.nil) (fun _ => mixed) rfl fun g2 => ⟨_, _, [], rfl, (.k 4 rfl<|.nil), (.nil), ?_⟩)
 refine zC ?_
 refine J_ret ?_
 refine zQ (.cons (.tmp (.t rfl))<|.nil) (zM (sb_res1 zL) ?_)
 exact ret_b (by rw [nanB_iff, amount_bits b hb]; unfold cmpB; rw [decide_eq_decide]; omega)
theorem canon_ok {b : Nat} (hb : b < 2 ^ 64) : Ct Tryz.prog 90 [isv (.int .u64 (b : Int)), FmtP] (isv (.int .u64 (cn b : Int))) := by
 refine Ct.of Tryz.func90 rfl (by kernel_rfl) rfl fun c0 => ?_
 refine J_to (To.emps 1) ?_
 refine zF (zG [] (.w 0 (op_box 0 (.t rfl) co_agg rfl)<|.n (zB (.k rfl))<|.nil) ff rfl fun g1 => ⟨_, _, [0], rfl, (.k 0 rfl<|.k 3 rfl<|.nil), (.k 0 rfl<|.nil), ?_⟩)
 refine zC ?_
 refine zF ?_
 refine zF (zG [] (.n (zA (.t rfl))<|.r 0 (op_get_ag 0 ag106 (.t rfl) rfl zJ rfl rfl)<|.n (zP (nan_ok hb) ⟨(.t rfl), (.t rfl),  trivial⟩)<|.nil) ff rfl fun g2 => ⟨_, _, [0], rfl, (.k 0 rfl<|.k 3 rfl<|.k 7 rfl<|.nil), (.k 0 rfl<|.nil), ?_⟩)
 refine zC ?_
 refine zH (zK (.t rfl)) (fun h1 => ?_) (fun h1 => ?_)
 ·try simp only [cmpB, Z] at h1
  refine zF (zG [] (.r 0 (op_get_ag 0 ag106 (.t rfl) rfl zJ rfl rfl)<|.n (zP (none_ok) ⟨(.t rfl),  trivial⟩)<|.n (zB (.t rfl))<|.nil) ff rfl fun g3 => ⟨_, _, [], rfl, (.k 4 rfl<|.nil), (.nil), ?_⟩)
  refine zC ?_
  refine J_ret ?_
  refine zD ?_
  refine zQ (.cons (.tmp (.t rfl))<|.nil) (zM (sb_res1 zL) ?_)
  exact ret_i (by rw [cn_of_nan h1]; rfl)
 ·try simp only [cmpB, Z] at h1
  refine J_skip ?_
  refine zC ?_
  refine zF (zG [] (.n (zA (.t rfl))<|.n (zB (.t rfl))<|.nil) ff rfl fun g4 => ⟨_, _, [], rfl, (.k 4 rfl<|.nil), (.nil), ?_⟩)
  refine zC ?_
  refine J_ret ?_
  refine zQ (.cons (.tmp (.t rfl))<|.nil) (zM (sb_res1 zL) ?_)
  exact ret_i (by rw [cn_of_not h1])
theorem split_ok {b : Nat} (hb : b < 2 ^ 64) : Ct Tryz.prog 102 [isv (.int .u64 (b : Int)), FmtP] (tupp [anyp, isv (.int .i64 (expo (cn b) : Int)), isv (.int .u64 (frac (cn b) : Int))]) := by
 refine Ct.of Tryz.func102 rfl (by kernel_rfl) rfl fun c0 => ?_
 refine J_to (To.emps 1) ?_
 refine zF (zG [] (.w 0 (op_box 0 (.t rfl) co_agg rfl)<|.n (zB (.k rfl))<|.n (zB (.k rfl))<|.n (zB (.k rfl))<|.nil) ff rfl fun g1 => ⟨_, _, [0], rfl, (.k 0 rfl<|.k 3 rfl<|.nil), (.k 0 rfl<|.nil), ?_⟩)
 refine zC ?_
 refine zF (zG [] (.n (zA (.t rfl))<|.r 0 (op_get_ag 0 ag106 (.t rfl) rfl zJ rfl rfl)<|.n (zP (canon_ok hb) ⟨(.t rfl), (.t rfl),  trivial⟩)<|.n (zB (.t rfl))<|.nil) ff rfl fun g2 => ⟨_, _, [0], rfl, (.k 3 rfl<|.k 7 rfl<|.nil), (.k 0 rfl<|.nil), ?_⟩)
 refine zC ?_
 refine zF (zG [[], [], [1], [0, 1, 2], [0, 1, 2, 3], [], [], [6], [5, 6, 7], [], [9], [9, 10], [5, 6, 7, 8, 9, 10, 11], [5, 6, 7, 8, 9, 10, 11, 12], [], [], [1, 2, 15], [1, 2, 15, 16], [1, 2, 14, 15, 16, 17], [0, 1, 2, 3, 4, 15, 16], [0, 1, 2, 3, 4, 5, 6, 7, 8, 9, 10, 11, 12, 13, 15, 16, 19], [0, 1, 2, 3, 4, 5, 6, 7, 8, 9, 10, 11, 12, 13, 14, 15, 16, 17, 18, 19, 20]] (.n (zA (.t rfl))<|.r 0 (op_get_ag 0 ag106 (.t rfl) rfl zJ rfl rfl)<|.n (zP (sign_ok) ⟨(.t rfl),  trivial⟩)<|.n (op_bits (by simp) (.t rfl) (.t rfl) rfl)<|.n (op_cmp (by simp) (.t rfl) (.k rfl) rfl)<|.n (zA (.t rfl))<|.n (zI fd106_0 (.t rfl) rfl)<|.r 0 (zN 0 sc98 (.t rfl) rfl zJ rfl)<|.n (op_shr (.t rfl) (.t rfl) (by omega) (shr_bits (cn b) 52 (by omega)))<|.n (zI fd106_1 (.t rfl) rfl)<|.r 0 (zN 0 sc3 (.t rfl) rfl zJ rfl)<|.n (op_conv_int it3 it38 (.t rfl) (by decide +kernel : _ = (2047 : Int)))<|.n (op_bits (by simp) (.t rfl) (.t rfl) (expo_bits hb))<|.n (op_conv_int it38 it3 (.t rfl) (expo_i64 _))<|.n (zA (.t rfl))<|.r 0 (op_get_ag 0 ag106 (.t rfl) rfl zJ rfl rfl)<|.n (zP (hid_ok) ⟨(.t rfl),  trivial⟩)<|.n (op_sub (.t rfl) (.k rfl) (by decide +kernel : _ = (4503599627370495 : Int)))<|.n (op_bits (by simp) (.t rfl) (.t rfl) (frac_bits hb))<|.n (zB (.t rfl))<|.n (zB (.t rfl))<|.n (zB (.t rfl))<|.nil) (fun _ => mixed) rfl fun g3 => ⟨_, _, [], rfl, (.k 4 rfl<|.k 5 rfl<|.k 6 rfl<|.nil), (.nil), ?_⟩)
 refine zC ?_
 refine J_ret ?_
 refine zQ (.cons (.tmp (.t rfl))<|.cons (.tmp (.t rfl))<|.cons (.tmp (.t rfl))<|.nil) (zM (sb_res (.cons zL<|.cons zL<|.cons zL<|.nil)) ?_)
 exact fun _ _ _ ⟨vs, h1, h2⟩ => ⟨vs, h1, HL.sub1 h2⟩
theorem of_ok  : Ct Tryz.prog 69 [isv (.int .i64 0)] (FmtP) := by
 refine Ct.of Tryz.func69 rfl (by kernel_rfl) rfl fun c0 => ?_
 refine J_to (To.emps 1) ?_
 refine zF (zG [] (.w 0 (op_alloc 0 zr106 rfl rfl)<|.nil) ff rfl fun g1 => ⟨_, _, [0], rfl, (.k 0 rfl<|.k 2 rfl<|.nil), (.k 0 rfl<|.nil), ?_⟩)
 refine zC ?_
 refine zF (zG [] (.n (op_build zr106 rfl pl106 (.cons rfl (.k rfl) co_isv rfl (puts_l rfl (Nat.le_of_ble_eq_true rfl)) (.cons rfl (.k rfl) co_isv rfl (puts_l rfl (Nat.le_of_ble_eq_true rfl)) (.cons rfl (.k rfl) co_isv rfl (puts_l rfl (Nat.le_of_ble_eq_true rfl)) .nil))))<|.n (op_build zr106 rfl pl106 (.cons rfl (.k rfl) co_isv rfl (puts_l rfl (Nat.le_of_ble_eq_true rfl)) (.cons rfl (.k rfl) co_isv rfl (puts_l rfl (Nat.le_of_ble_eq_true rfl)) (.cons rfl (.k rfl) co_isv rfl (puts_l rfl (Nat.le_of_ble_eq_true rfl)) .nil))))<|.n (op_build_ar zr131 rfl ar131 (.cons rfl (.t rfl) co_agg rfl (puts_l rfl (by decide)) (.cons rfl (.t rfl) co_agg rfl (puts_l rfl (by decide)) .nil)))<|.n (zA (.t rfl))<|.n (op_indexv_ag ar131 ag106 (.t rfl) (.t rfl) (by omega) (by omega) rfl)<|.w 0 (op_store_b 0 (.t rfl) (.t rfl) co_agg sz106 rfl rfl rfl)<|.nil) ff rfl fun g2 => ⟨_, _, [0], rfl, (.k 2 rfl<|.nil), (.k 0 rfl<|.nil), ?_⟩)
 refine zC ?_
 refine J_ret ?_
 refine zQ (.cons (.ag 0 (.t rfl) ag106 rfl rfl rfl)<|.nil) (zM (sb_res1 zL) ?_)
 exact zL
theorem cls_ok {b : Nat} (hb : b < 2 ^ 64) : Ct Tryz.prog 77 [isv (.int .u64 (b : Int)), FmtP] (isv (.int .i64 (clsI (cn b)))) := by
 refine Ct.of Tryz.func77 rfl (by kernel_rfl) rfl fun c0 => ?_
 refine J_to (To.emps 1) ?_
 refine zF (zG [] (.w 0 (op_box 0 (.t rfl) co_agg rfl)<|.n (zB (.k rfl))<|.nil) ff rfl fun g1 => ⟨_, _, [0], rfl, (.k 0 rfl<|.k 3 rfl<|.nil), (.k 0 rfl<|.nil), ?_⟩)
 refine zC ?_
 refine zF (zG [] (.n (zA (.t rfl))<|.r 0 (op_get_ag 0 ag106 (.t rfl) rfl zJ rfl rfl)<|.n (zP (split_ok hb) ⟨(.t rfl), (.t rfl),  trivial⟩)<|.n (zA (.t rfl))<|.n (op_extract (.t rfl) rfl)<|.n (op_extract (.t rfl) rfl)<|.n (op_extract (.t rfl) rfl)<|.n (zB (.t rfl))<|.n (zB (.t rfl))<|.n (zB (.t rfl))<|.nil) ff rfl fun g2 => ⟨_, _, [0], rfl, (.k 3 rfl<|.k 6 rfl<|.k 7 rfl<|.nil), (.k 0 rfl<|.nil), ?_⟩)
 refine zC ?_
 refine zF ?_
 refine zT ?_
 refine zF (zG [] (.n (zA (.t rfl))<|.n (zI fd106_1 (.t rfl) rfl)<|.r 0 (zN 0 sc3 (.t rfl) rfl zJ rfl)<|.n (op_cmp (by simp) (.t rfl) (.t rfl) rfl)<|.n (zA (.t rfl))<|.n (op_guard rfl rfl (gd_b rfl) (fun hC => (zA (.t rfl))))<|.n (op_guard rfl rfl (gd_b rfl) (fun hC => (op_cmp (by simp) (.w rfl hC) (.k rfl) rfl)))<|.n (op_and (.t rfl) (fun h2 => (.w rfl h2)))<|.n (zB (.t rfl))<|.nil) ff rfl fun g3 => ⟨_, _, [0], rfl, (.k 3 rfl<|.k 6 rfl<|.k 7 rfl<|.k 15 rfl<|.nil), (.k 0 rfl<|.nil), ?_⟩)
 refine zC ?_
 refine zH (zK (.t rfl)) (fun h1 => ?_) (fun h1 => ?_)
 ·try simp only [cmpB, Z] at h1
  refine zF (zG [] (.n (zB (.k rfl))<|.nil) ff rfl fun g4 => ⟨_, _, [], rfl, (.k 4 rfl<|.nil), (.nil), ?_⟩)
  refine zC ?_
  refine J_ret ?_
  refine JN_block_ret ?_
  refine zD ?_
  refine zQ (.cons (.tmp (.t rfl))<|.nil) (zM (sb_res1 zL) ?_)
  exact ret_i (by unfold clsI; (repeat' split) <;> omega)
 ·try simp only [cmpB, Z] at h1
  refine zF (zG [] (.n (zA (.t rfl))<|.n (zI fd106_1 (.t rfl) rfl)<|.r 0 (zN 0 sc3 (.t rfl) rfl zJ rfl)<|.n (op_cmp (by simp) (.t rfl) (.t rfl) rfl)<|.n (zB (.t rfl))<|.nil) ff rfl fun g5 => ⟨_, _, [], rfl, (.k 6 rfl<|.k 7 rfl<|.k 24 rfl<|.nil), (.nil), ?_⟩)
  refine zC ?_
  refine zH (zK (.t rfl)) (fun h2 => ?_) (fun h2 => ?_)
  ·try simp only [cmpB, Z] at h2
   refine zF (zG [] (.n (zB (.k rfl))<|.nil) ff rfl fun g6 => ⟨_, _, [], rfl, (.k 4 rfl<|.nil), (.nil), ?_⟩)
   refine zC ?_
   refine J_ret ?_
   refine JN_block_ret ?_
   refine zD ?_
   refine zQ (.cons (.tmp (.t rfl))<|.nil) (zM (sb_res1 zL) ?_)
   exact ret_i (by unfold clsI; (repeat' split) <;> omega)
  ·try simp only [cmpB, Z] at h2
   refine zF (zG [] (.n (zA (.t rfl))<|.n (op_cmp (by simp) (.t rfl) (.k rfl) rfl)<|.n (zA (.t rfl))<|.n (op_guard rfl rfl (gd_b rfl) (fun hC => (zA (.t rfl))))<|.n (op_guard rfl rfl (gd_b rfl) (fun hC => (op_cmp (by simp) (.w rfl hC) (.k rfl) rfl)))<|.n (op_and (.t rfl) (fun h2 => (.w rfl h2)))<|.n (zB (.t rfl))<|.nil) ff rfl fun g7 => ⟨_, _, [], rfl, (.k 6 rfl<|.k 29 rfl<|.nil), (.nil), ?_⟩)
   refine zC ?_
   refine zH (zK (.t rfl)) (fun h3 => ?_) (fun h3 => ?_)
   ·try simp only [cmpB, Z] at h3
    refine zF (zG [] (.n (zB (.k rfl))<|.nil) ff rfl fun g8 => ⟨_, _, [], rfl, (.k 4 rfl<|.nil), (.nil), ?_⟩)
    refine zC ?_
    refine J_ret ?_
    refine JN_block_ret ?_
    refine zD ?_
    refine zQ (.cons (.tmp (.t rfl))<|.nil) (zM (sb_res1 zL) ?_)
    exact ret_i (by unfold clsI; (repeat' split) <;> omega)
   ·try simp only [cmpB, Z] at h3
    refine zF (zG [] (.n (zA (.t rfl))<|.n (op_cmp (by simp) (.t rfl) (.k rfl) rfl)<|.n (zB (.t rfl))<|.nil) ff rfl fun g9 => ⟨_, _, [], rfl, (.k 36 rfl<|.nil), (.nil), ?_⟩)
    refine zC ?_
    refine zH (zK (.t rfl)) (fun h4 => ?_) (fun h4 => ?_)
    ·try simp only [cmpB, Z] at h4
     refine zF (zG [] (.n (zB (.k rfl))<|.nil) ff rfl fun g10 => ⟨_, _, [], rfl, (.k 4 rfl<|.nil), (.nil), ?_⟩)
     refine zC ?_
     refine J_ret ?_
     refine JN_block_ret ?_
     refine zD ?_
     refine zQ (.cons (.tmp (.t rfl))<|.nil) (zM (sb_res1 zL) ?_)
     exact ret_i (by unfold clsI; (repeat' split) <;> omega)
    ·try simp only [cmpB, Z] at h4
     refine J_skip ?_
     refine zR ?_
     refine zC ?_
     refine zF (zG [] (.n (zB (.k rfl))<|.nil) ff rfl fun g11 => ⟨_, _, [], rfl, (.k 4 rfl<|.nil), (.nil), ?_⟩)
     refine zC ?_
     refine J_ret ?_
     refine zQ (.cons (.tmp (.t rfl))<|.nil) (zM (sb_res1 zL) ?_)
     exact ret_i (by unfold clsI; (repeat' split) <;> omega)
end Go.Proofs.YtcpififnffmjfaaGreatDoor
