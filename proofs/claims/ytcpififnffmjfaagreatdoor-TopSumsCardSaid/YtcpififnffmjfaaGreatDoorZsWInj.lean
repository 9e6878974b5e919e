/- Printed by a program of ours (walk.py): walks of whole numbers in memory, words of 64 bits. -/
import Derived.Test.YtcpififnffmjfaaGreatDoorZsKb
import Derived.Test.YtcpififnffmjfaaGreatDoorProg
import Derived.KernelRfl
import Derived.Test.YtcpififnffmjfaaGreatDoorZsTypes
import Derived.Test.YtcpififnffmjfaaGreatDoorZsWBii
import Derived.Test.YtcpififnffmjfaaGreatDoorZsBik
set_option linter.unusedVariables false
set_option linter.unusedSimpArgs false
set_option maxRecDepth 20000
set_option maxHeartbeats 4000000
namespace Go.Proofs.YtcpififnffmjfaaGreatDoor
open Go Go.Bn
attribute [local irreducible] OpOK
theorem imade_ok {u : Value} {q0 q1 : SP} {b : Bool} {M : Nat} : CtM Tryz.prog 80 [ipo u 0, isv (.bool b), ils .u64 (limbsJ M)] (blk u [q0, q1] 55) (ipo u 0) (blk u (intCJ (sgnI b M)) 55) := by
 refine CtM.of Tryz.func80 rfl (by kernel_rfl) rfl (fix_blk) fun c0 ob hr0 => ?_
 refine zF (zG [] (.n (zB (.k rfl))<|.nil) ff rfl fun g1 => ⟨_, _, [0], rfl, (.k 0 rfl<|.k 1 rfl<|.k 2 rfl<|.nil), (.k 0 rfl<|.nil), ?_⟩)
 refine zC ?_
 refine zF (zG [] (.n (zA (.t rfl))<|.n (zA (.t rfl))<|.n (zA (.t rfl))<|.n (zA (.t rfl))<|.n (op_guard rfl rfl (gd_b rfl) (fun hC => (zA (.t rfl))))<|.n (op_guard rfl rfl (gd_b rfl) (fun hC => (op_len_m sl53 (.w rfl hC))))<|.n (op_guard rfl rfl (gd_b rfl) (fun hC => (op_cmp (by simp) (.w rfl hC) (.k rfl) rfl)))<|.n (op_and (.t rfl) (fun h2 => (.w rfl h2)))<|.n (zA (.t rfl))<|.n (op_nilo (.t rfl))<|.n (zI fd55_0 (.t rfl) rfl)<|.w 0 (op_store_b 0 (.t rfl) (.t rfl) co_isv sz4 rfl rfl rfl)<|.n (op_nilo (.t rfl))<|.n (zI fd55_1 (.t rfl) rfl)<|.w 0 (op_store_b 0 (.t rfl) (.t rfl) co_slm sz53 rfl rfl rfl)<|.nil) ff rfl fun g2 => ⟨_, _, [0], rfl, (.k 0 rfl<|.nil), (.k 0 rfl<|.nil), ?_⟩)
 refine zC ?_
 refine zF (zG [] (.n (zA (.t rfl))<|.n (zB (.t rfl))<|.nil) ff rfl fun g3 => ⟨_, _, [0], rfl, (.k 6 rfl<|.nil), (.k 0 rfl<|.nil), ?_⟩)
 refine zC ?_
 refine J_ret ?_
 refine JN_to (To.res 0 (r' := blk u (intCJ (sgnI b M)) 55) rfl (res_eq (congrArg (fun cs => blk u cs 55) (put_cellsJ b M))) rfl) ?_
 refine JN_retM 0 hr0 (fix_blk) rfl (.cons (.tmp (.t rfl))<|.nil) (zM (sb_res1 zL) ?_)
 exact zL
theorem isetu_ok {u : Value} {q0 q1 : SP} {n : Nat} (hn : n < 18446744073709551616) : CtM Tryz.prog 53 [ipo u 0, isv (.int .u64 (n : Int))] (blk u [q0, q1] 55) (ipo u 0) (blk u (intCJ ((n : Int))) 55) := by
 refine CtM.of Tryz.func53 rfl (by kernel_rfl) rfl (fix_blk) fun c0 ob hr0 => ?_
 refine zF (zG [] (.n (zB (.k rfl))<|.nil) ff rfl fun g1 => ⟨_, _, [0], rfl, (.k 0 rfl<|.k 1 rfl<|.nil), (.k 0 rfl<|.nil), ?_⟩)
 refine zC ?_
 refine zF (zG [] (.n (zA (.t rfl))<|.n (zA (.t rfl))<|.n (zP (word_ok hn) ⟨(.t rfl),  trivial⟩)<|.w 0 (op_callM 0 (imade_ok) ⟨(.t rfl), (.k rfl), (.t rfl),  trivial⟩ rfl)<|.n (zB (.t rfl))<|.nil) ff rfl fun g2 => ⟨_, _, [0], rfl, (.k 4 rfl<|.nil), (.k 0 rfl<|.nil), ?_⟩)
 refine zC ?_
 refine J_ret ?_
 refine JN_to (To.res 0 (r' := blk u (intCJ ((n : Int))) 55) rfl (res_eq (by rfl)) rfl) ?_
 refine JN_retM 0 hr0 (fix_blk) rfl (.cons (.tmp (.t rfl))<|.nil) (zM (sb_res1 zL) ?_)
 exact zL
theorem iseti_ok {u : Value} {q0 q1 : SP} {n : Nat} (hn : n < 9223372036854775808) : CtM Tryz.prog 86 [ipo u 0, isv (.int .i64 (n : Int))] (blk u [q0, q1] 55) (ipo u 0) (blk u (intCJ ((n : Int))) 55) := by
 refine CtM.of Tryz.func86 rfl (by kernel_rfl) rfl (fix_blk) fun c0 ob hr0 => ?_
 refine zF (zG [] (.n (zB (.k rfl))<|.nil) ff rfl fun g1 => ⟨_, _, [0], rfl, (.k 0 rfl<|.k 1 rfl<|.nil), (.k 0 rfl<|.nil), ?_⟩)
 refine zC ?_
 refine zF ?_
 refine zF (zG [] (.n (zA (.t rfl))<|.n (op_cmp (by simp) (.t rfl) (.k rfl) rfl)<|.nil) ff rfl fun g2 => ⟨_, _, [0], rfl, (.k 0 rfl<|.k 1 rfl<|.k 6 rfl<|.nil), (.k 0 rfl<|.nil), ?_⟩)
 refine zC ?_
 refine zH (zK (.t rfl)) (fun h1 => ?_) (fun h1 => ?_)
 ·try simp only [cmpB, Z] at h1
  exact absurd h1 (by omega)
 ·try simp only [cmpB, Z] at h1
  refine J_skip ?_
  refine zC ?_
  refine zF (zG [] (.n (zA (.t rfl))<|.n (zA (.t rfl))<|.n (op_conv_int it2 it38 (.t rfl) (wr64 (by omega) (by omega)))<|.n (zP (word_ok (n := n) (by omega)) ⟨(.t rfl),  trivial⟩)<|.w 0 (op_callM 0 (imade_ok) ⟨(.t rfl), (.k rfl), (.t rfl),  trivial⟩ rfl)<|.n (zB (.t rfl))<|.nil) ff rfl fun g3 => ⟨_, _, [0], rfl, (.k 4 rfl<|.nil), (.k 0 rfl<|.nil), ?_⟩)
  refine zC ?_
  refine J_ret ?_
  refine JN_to (To.res 0 (r' := blk u (intCJ ((n : Int))) 55) rfl (res_eq (by rfl)) rfl) ?_
  refine JN_retM 0 hr0 (fix_blk) rfl (.cons (.tmp (.t rfl))<|.nil) (zM (sb_res1 zL) ?_)
  exact zL
theorem newint_ok {n : Nat} (hn : n < 9223372036854775808) : Ct Tryz.prog 56 [isv (.int .i64 (n : Int))] (intPJ (n : Int)) := by
 refine Ct.of Tryz.func56 rfl (by kernel_rfl) rfl fun c0 => ?_
 refine zF (zG [] (.n (zB (.k rfl))<|.nil) ff rfl fun g1 => ⟨_, _, [], rfl, (.k 0 rfl<|.nil), (.nil), ?_⟩)
 refine zC ?_
 refine J_to (To.emps 1) ?_
 refine zF (zG [] (.w 0 (op_alloc 0 zr55 rfl rfl)<|.n (zA (.t rfl))<|.w 0 (op_callMp 0 rfl rfl (fun u => iseti_ok hn) rfl ⟨(.t rfl),  trivial⟩)<|.n (op_assign_ve rfl rfl)<|.nil) ff rfl fun g2 => ⟨_, _, [0], rfl, (.k 2 rfl<|.nil), (.k 0 rfl<|.nil), ?_⟩)
 refine zC ?_
 refine J_ret ?_
 refine JN_to (To.freeze 0 (fun _ h => h) rfl frz_blk rfl) ?_
 refine zQ (.cons (.tmp (.t rfl))<|.nil) (zM (sb_res1 (sb_ok 0 2 rfl rfl)) ?_)
 exact zL
theorem iset_ok {u : Value} {q0 q1 : SP} {x : Int} (hx : SmlJ x) : CtM Tryz.prog 83 [ipo u 0, intPJ x] (blk u [q0, q1] 55) (ipo u 0) (blk u (intCJ (x)) 55) := by
 refine CtM.of Tryz.func83 rfl (by kernel_rfl) rfl (fix_blk) fun c0 ob hr0 => ?_
 have lx := sml_lenJ hx
 refine zF (zG [] (.n (zB (.k rfl))<|.nil) ff rfl fun g1 => ⟨_, _, [0], rfl, (.k 0 rfl<|.k 1 rfl<|.nil), (.k 0 rfl<|.nil), ?_⟩)
 refine zC ?_
 refine zF (zG [[], [], [1], [1, 2], [1, 2, 3], [], [5], [5, 6], [5, 6, 7], [5, 6, 7, 8], [0, 1, 2, 3, 4, 5, 6, 7, 8, 9], [0, 1, 2, 3, 4, 5, 6, 7, 8, 9, 10]] (.n (zA (.t rfl))<|.n (zA (.t rfl))<|.n (op_nilp (.t rfl))<|.n (op_field_ptr fd55_0 (.t rfl) rfl)<|.n (op_load_sc sc4 (.t rfl) rfl)<|.n (zA (.t rfl))<|.n (op_nilp (.t rfl))<|.n (op_field_ptr fd55_1 (.t rfl) rfl)<|.n (op_load_sc sc53 (.t rfl) rfl)<|.n (zP (clone_ok lx) ⟨(.t rfl),  trivial⟩)<|.w 0 (op_callM 0 (imade_ok) ⟨(.t rfl), (.t rfl), (.t rfl),  trivial⟩ rfl)<|.n (zB (.t rfl))<|.nil) (fun _ => mixed) rfl fun g2 => ⟨_, _, [0], rfl, (.k 4 rfl<|.nil), (.k 0 rfl<|.nil), ?_⟩)
 refine zC ?_
 refine J_ret ?_
 refine JN_to (To.res 0 (r' := blk u (intCJ (x)) 55) rfl (res_eq (by rw [set_1])) rfl) ?_
 refine JN_retM 0 hr0 (fix_blk) rfl (.cons (.tmp (.t rfl))<|.nil) (zM (sb_res1 zL) ?_)
 exact zL
theorem ineg2_ok {u : Value} {x : Int} (hx : SmlJ x) : CtM Tryz.prog 54 [ipo u 0, ipo u 0] (blk u (intCJ (x)) 55) (ipo u 0) (blk u (intCJ (-x)) 55) := by
 refine CtM.of Tryz.func54 rfl (by kernel_rfl) rfl (fix_blk) fun c0 ob hr0 => ?_
 have lx := sml_lenJ hx
 refine zF (zG [] (.n (zB (.k rfl))<|.nil) ff rfl fun g1 => ⟨_, _, [0], rfl, (.k 0 rfl<|.k 1 rfl<|.nil), (.k 0 rfl<|.nil), ?_⟩)
 refine zC ?_
 refine zF (zG [[], [], [1], [1, 2], [1, 2, 3], [1, 2, 3, 4], [], [6], [6, 7], [6, 7, 8], [6, 7, 8, 9], [0, 1, 2, 3, 4, 5, 6, 7, 8, 9, 10], [0, 1, 2, 3, 4, 5, 6, 7, 8, 9, 10, 11]] (.n (zA (.t rfl))<|.n (zA (.t rfl))<|.n (op_nilo (.t rfl))<|.n (zI fd55_0 (.t rfl) rfl)<|.r 0 (zN 0 sc4 (.t rfl) rfl zJ rfl)<|.n (op_not (.t rfl))<|.n (zA (.t rfl))<|.n (op_nilo (.t rfl))<|.n (zI fd55_1 (.t rfl) rfl)<|.r 0 (zN 0 sc53 (.t rfl) rfl zJ rfl)<|.n (zP (clone_ok lx) ⟨(.t rfl),  trivial⟩)<|.w 0 (op_callM 0 (imade_ok) ⟨(.t rfl), (.t rfl), (.t rfl),  trivial⟩ rfl)<|.n (zB (.t rfl))<|.nil) (fun _ => mixed) rfl fun g2 => ⟨_, _, [0], rfl, (.k 4 rfl<|.nil), (.k 0 rfl<|.nil), ?_⟩)
 refine zC ?_
 refine J_ret ?_
 refine JN_to (To.res 0 (r' := blk u (intCJ (-x)) 55) rfl (res_eq (by rw [neg_1])) rfl) ?_
 refine JN_retM 0 hr0 (fix_blk) rfl (.cons (.tmp (.t rfl))<|.nil) (zM (sb_res1 zL) ?_)
 exact zL
theorem iabs_ok {u : Value} {q0 q1 : SP} {x : Int} (hx : SmlJ x) : CtM Tryz.prog 57 [ipo u 0, intPJ x] (blk u [q0, q1] 55) (ipo u 0) (blk u (intCJ (((x.natAbs : Nat) : Int))) 55) := by
 refine CtM.of Tryz.func57 rfl (by kernel_rfl) rfl (fix_blk) fun c0 ob hr0 => ?_
 have lx := sml_lenJ hx
 refine zF (zG [] (.n (zB (.k rfl))<|.nil) ff rfl fun g1 => ⟨_, _, [0], rfl, (.k 0 rfl<|.k 1 rfl<|.nil), (.k 0 rfl<|.nil), ?_⟩)
 refine zC ?_
 refine zF (zG [] (.n (zA (.t rfl))<|.n (zA (.t rfl))<|.n (op_nilp (.t rfl))<|.n (op_field_ptr fd55_1 (.t rfl) rfl)<|.n (op_load_sc sc53 (.t rfl) rfl)<|.n (zP (clone_ok lx) ⟨(.t rfl),  trivial⟩)<|.w 0 (op_callM 0 (imade_ok) ⟨(.t rfl), (.k rfl), (.t rfl),  trivial⟩ rfl)<|.n (zB (.t rfl))<|.nil) ff rfl fun g2 => ⟨_, _, [0], rfl, (.k 4 rfl<|.nil), (.k 0 rfl<|.nil), ?_⟩)
 refine zC ?_
 refine J_ret ?_
 refine JN_to (To.res 0 (r' := blk u (intCJ (((x.natAbs : Nat) : Int))) 55) rfl (res_eq (by rfl)) rfl) ?_
 refine JN_retM 0 hr0 (fix_blk) rfl (.cons (.tmp (.t rfl))<|.nil) (zM (sb_res1 zL) ?_)
 exact zL
theorem iplus_ok {u : Value} {q0 q1 : SP} {x : Int} {t : Bool} {Y : Nat} (hx : SmlJ x) (hY : (limbsJ Y).length ≤ 1000000) : CtM Tryz.prog 78 [ipo u 0, intPJ x, isv (.bool t), ils .u64 (limbsJ Y)] (blk u [q0, q1] 55) (ipo u 0) (blk u (intCJ (x + sgnI t Y)) 55) := by
 refine CtM.of Tryz.func78 rfl (by kernel_rfl) rfl (fix_blk) fun c0 ob hr0 => ?_
 have lx := sml_lenJ hx
 refine zF (zG [] (.n (zB (.k rfl))<|.nil) ff rfl fun g1 => ⟨_, _, [0], rfl, (.k 0 rfl<|.k 1 rfl<|.k 2 rfl<|.k 3 rfl<|.nil), (.k 0 rfl<|.nil), ?_⟩)
 refine zC ?_
 refine zF ?_
 refine zT ?_
 refine zF (zG [] (.n (zA (.t rfl))<|.n (op_nilp (.t rfl))<|.n (op_field_ptr fd55_0 (.t rfl) rfl)<|.n (op_load_sc sc4 (.t rfl) rfl)<|.n (zA (.t rfl))<|.n (op_beql Tryz.underlying4 (.t rfl) (.t rfl))<|.n (zB (.t rfl))<|.nil) ff rfl fun g2 => ⟨_, _, [0], rfl, (.k 0 rfl<|.k 1 rfl<|.k 2 rfl<|.k 3 rfl<|.k 9 rfl<|.nil), (.k 0 rfl<|.nil), ?_⟩)
 refine zC ?_
 refine zH (zK (.t rfl)) (fun h1 => ?_) (fun h1 => ?_)
 ·have h1' := h1
  try simp only [cmpB, Z] at h1
  refine zF (zG [] (.n (zA (.t rfl))<|.n (zA (.t rfl))<|.n (zA (.t rfl))<|.n (op_nilp (.t rfl))<|.n (op_field_ptr fd55_1 (.t rfl) rfl)<|.n (op_load_sc sc53 (.t rfl) rfl)<|.n (zA (.t rfl))<|.n (zP (sum_ok (limbs_digJ _) (limbs_digJ _) lx hY) ⟨(.t rfl), (.t rfl),  trivial⟩)<|.w 0 (op_callM 0 (imade_ok) ⟨(.t rfl), (.t rfl), (.t rfl),  trivial⟩ rfl)<|.n (zB (.t rfl))<|.nil) ff rfl fun g3 => ⟨_, _, [0], rfl, (.k 8 rfl<|.nil), (.k 0 rfl<|.nil), ?_⟩)
  refine zC ?_
  refine J_ret ?_
  refine JN_block_ret ?_
  refine zD ?_
  refine JN_to (To.res 0 (r' := blk u (intCJ (x + sgnI t Y)) 55) rfl (res_eq (by rw [mag_addJ, plus_1 h1'])) rfl) ?_
  refine JN_retM 0 hr0 (fix_blk) rfl (.cons (.tmp (.t rfl))<|.nil) (zM (sb_res1 zL) ?_)
  exact zL
 ·have h1' := h1
  try simp only [cmpB, Z] at h1
  refine zF (zG [] (.n (zA (.t rfl))<|.n (op_nilp (.t rfl))<|.n (op_field_ptr fd55_1 (.t rfl) rfl)<|.n (op_load_sc sc53 (.t rfl) rfl)<|.n (zA (.t rfl))<|.n (zP (cmp_ok) ⟨(.t rfl), (.t rfl),  trivial⟩)<|.n (op_cmp (by simp) (.t rfl) (.k rfl) rfl)<|.n (zB (.t rfl))<|.nil) ff rfl fun g4 => ⟨_, _, [0], rfl, (.k 0 rfl<|.k 1 rfl<|.k 2 rfl<|.k 3 rfl<|.k 25 rfl<|.nil), (.k 0 rfl<|.nil), ?_⟩)
  refine zC ?_
  refine zH (zK (.t rfl)) (fun h2 => ?_) (fun h2 => ?_)
  ·try simp only [cmpB, Z] at h2
   have hle := cmpN_le h2
   refine zF (zG [[], [], [1], [1, 2], [1, 2, 3], [], [5], [5, 6], [5, 6, 7], [], [5, 6, 7, 8, 9], [0, 1, 2, 3, 4, 5, 6, 7, 8, 9, 10], [0, 1, 2, 3, 4, 5, 6, 7, 8, 9, 10, 11]] (.n (zA (.t rfl))<|.n (zA (.t rfl))<|.n (op_nilp (.t rfl))<|.n (op_field_ptr fd55_0 (.t rfl) rfl)<|.n (op_load_sc sc4 (.t rfl) rfl)<|.n (zA (.t rfl))<|.n (op_nilp (.t rfl))<|.n (op_field_ptr fd55_1 (.t rfl) rfl)<|.n (op_load_sc sc53 (.t rfl) rfl)<|.n (zA (.t rfl))<|.n (zP (less_ok (limbs_digJ _) (limbs_digJ _) lx hY (len_leJ hle) (mag_leJ hle)) ⟨(.t rfl), (.t rfl),  trivial⟩)<|.w 0 (op_callM 0 (imade_ok) ⟨(.t rfl), (.t rfl), (.t rfl),  trivial⟩ rfl)<|.n (zB (.t rfl))<|.nil) (fun _ => mixed) rfl fun g5 => ⟨_, _, [0], rfl, (.k 8 rfl<|.nil), (.k 0 rfl<|.nil), ?_⟩)
   refine zC ?_
   refine J_ret ?_
   refine JN_block_ret ?_
   refine zD ?_
   refine JN_to (To.res 0 (r' := blk u (intCJ (x + sgnI t Y)) 55) rfl (res_eq (by rw [mag_subJ hle, plus_2 h1' hle])) rfl) ?_
   refine JN_retM 0 hr0 (fix_blk) rfl (.cons (.tmp (.t rfl))<|.nil) (zM (sb_res1 zL) ?_)
   exact zL
  ·try simp only [cmpB, Z] at h2
   have hle := cmpN_gt (x := x.natAbs) (y := Y) (by omega)
   refine J_skip ?_
   refine zR ?_
   refine zC ?_
   refine zF (zG [] (.n (zA (.t rfl))<|.n (zA (.t rfl))<|.n (zA (.t rfl))<|.n (zA (.t rfl))<|.n (op_nilp (.t rfl))<|.n (op_field_ptr fd55_1 (.t rfl) rfl)<|.n (op_load_sc sc53 (.t rfl) rfl)<|.n (zP (less_ok (limbs_digJ _) (limbs_digJ _) hY lx (len_leJ hle) (mag_leJ hle)) ⟨(.t rfl), (.t rfl),  trivial⟩)<|.w 0 (op_callM 0 (imade_ok) ⟨(.t rfl), (.t rfl), (.t rfl),  trivial⟩ rfl)<|.n (zB (.t rfl))<|.nil) ff rfl fun g6 => ⟨_, _, [0], rfl, (.k 8 rfl<|.nil), (.k 0 rfl<|.nil), ?_⟩)
   refine zC ?_
   refine J_ret ?_
   refine JN_to (To.res 0 (r' := blk u (intCJ (x + sgnI t Y)) 55) rfl (res_eq (by rw [mag_subJ hle, plus_3 h1' hle])) rfl) ?_
   refine JN_retM 0 hr0 (fix_blk) rfl (.cons (.tmp (.t rfl))<|.nil) (zM (sb_res1 zL) ?_)
   exact zL
theorem iplus2_ok {u : Value} {x : Int} {t : Bool} {Y : Nat} (hx : SmlJ x) (hY : (limbsJ Y).length ≤ 1000000) : CtM Tryz.prog 78 [ipo u 0, ipo u 0, isv (.bool t), ils .u64 (limbsJ Y)] (blk u (intCJ (x)) 55) (ipo u 0) (blk u (intCJ (x + sgnI t Y)) 55) := by
 refine CtM.of Tryz.func78 rfl (by kernel_rfl) rfl (fix_blk) fun c0 ob hr0 => ?_
 have lx := sml_lenJ hx
 refine zF (zG [] (.n (zB (.k rfl))<|.nil) ff rfl fun g1 => ⟨_, _, [0], rfl, (.k 0 rfl<|.k 1 rfl<|.k 2 rfl<|.k 3 rfl<|.nil), (.k 0 rfl<|.nil), ?_⟩)
 refine zC ?_
 refine zF ?_
 refine zT ?_
 refine zF (zG [] (.n (zA (.t rfl))<|.n (op_nilo (.t rfl))<|.n (zI fd55_0 (.t rfl) rfl)<|.r 0 (zN 0 sc4 (.t rfl) rfl zJ rfl)<|.n (zA (.t rfl))<|.n (op_beql Tryz.underlying4 (.t rfl) (.t rfl))<|.n (zB (.t rfl))<|.nil) ff rfl fun g2 => ⟨_, _, [0], rfl, (.k 0 rfl<|.k 1 rfl<|.k 2 rfl<|.k 3 rfl<|.k 9 rfl<|.nil), (.k 0 rfl<|.nil), ?_⟩)
 refine zC ?_
 refine zH (zK (.t rfl)) (fun h1 => ?_) (fun h1 => ?_)
 ·have h1' := h1
  try simp only [cmpB, Z] at h1
  refine zF (zG [] (.n (zA (.t rfl))<|.n (zA (.t rfl))<|.n (zA (.t rfl))<|.n (op_nilo (.t rfl))<|.n (zI fd55_1 (.t rfl) rfl)<|.r 0 (zN 0 sc53 (.t rfl) rfl zJ rfl)<|.n (zA (.t rfl))<|.n (zP (sum_ok (limbs_digJ _) (limbs_digJ _) lx hY) ⟨(.t rfl), (.t rfl),  trivial⟩)<|.w 0 (op_callM 0 (imade_ok) ⟨(.t rfl), (.t rfl), (.t rfl),  trivial⟩ rfl)<|.n (zB (.t rfl))<|.nil) ff rfl fun g3 => ⟨_, _, [0], rfl, (.k 8 rfl<|.nil), (.k 0 rfl<|.nil), ?_⟩)
  refine zC ?_
  refine J_ret ?_
  refine JN_block_ret ?_
  refine zD ?_
  refine JN_to (To.res 0 (r' := blk u (intCJ (x + sgnI t Y)) 55) rfl (res_eq (by rw [mag_addJ, plus_1 h1'])) rfl) ?_
  refine JN_retM 0 hr0 (fix_blk) rfl (.cons (.tmp (.t rfl))<|.nil) (zM (sb_res1 zL) ?_)
  exact zL
 ·have h1' := h1
  try simp only [cmpB, Z] at h1
  refine zF (zG [] (.n (zA (.t rfl))<|.n (op_nilo (.t rfl))<|.n (zI fd55_1 (.t rfl) rfl)<|.r 0 (zN 0 sc53 (.t rfl) rfl zJ rfl)<|.n (zA (.t rfl))<|.n (zP (cmp_ok) ⟨(.t rfl), (.t rfl),  trivial⟩)<|.n (op_cmp (by simp) (.t rfl) (.k rfl) rfl)<|.n (zB (.t rfl))<|.nil) ff rfl fun g4 => ⟨_, _, [0], rfl, (.k 0 rfl<|.k 1 rfl<|.k 2 rfl<|.k 3 rfl<|.k 25 rfl<|.nil), (.k 0 rfl<|.nil), ?_⟩)
  refine zC ?_
  refine zH (zK (.t rfl)) (fun h2 => ?_) (fun h2 => ?_)
  ·try simp only [cmpB, Z] at h2
   have hle := cmpN_le h2
   refine zF (zG [[], [], [1], [1, 2], [1, 2, 3], [], [5], [5, 6], [5, 6, 7], [], [5, 6, 7, 8, 9], [0, 1, 2, 3, 4, 5, 6, 7, 8, 9, 10], [0, 1, 2, 3, 4, 5, 6, 7, 8, 9, 10, 11]] (.n (zA (.t rfl))<|.n (zA (.t rfl))<|.n (op_nilo (.t rfl))<|.n (zI fd55_0 (.t rfl) rfl)<|.r 0 (zN 0 sc4 (.t rfl) rfl zJ rfl)<|.n (zA (.t rfl))<|.n (op_nilo (.t rfl))<|.n (zI fd55_1 (.t rfl) rfl)<|.r 0 (zN 0 sc53 (.t rfl) rfl zJ rfl)<|.n (zA (.t rfl))<|.n (zP (less_ok (limbs_digJ _) (limbs_digJ _) lx hY (len_leJ hle) (mag_leJ hle)) ⟨(.t rfl), (.t rfl),  trivial⟩)<|.w 0 (op_callM 0 (imade_ok) ⟨(.t rfl), (.t rfl), (.t rfl),  trivial⟩ rfl)<|.n (zB (.t rfl))<|.nil) (fun _ => mixed) rfl fun g5 => ⟨_, _, [0], rfl, (.k 8 rfl<|.nil), (.k 0 rfl<|.nil), ?_⟩)
   refine zC ?_
   refine J_ret ?_
   refine JN_block_ret ?_
   refine zD ?_
   refine JN_to (To.res 0 (r' := blk u (intCJ (x + sgnI t Y)) 55) rfl (res_eq (by rw [mag_subJ hle, plus_2 h1' hle])) rfl) ?_
   refine JN_retM 0 hr0 (fix_blk) rfl (.cons (.tmp (.t rfl))<|.nil) (zM (sb_res1 zL) ?_)
   exact zL
  ·try simp only [cmpB, Z] at h2
   have hle := cmpN_gt (x := x.natAbs) (y := Y) (by omega)
   refine J_skip ?_
   refine zR ?_
   refine zC ?_
   refine zF (zG [] (.n (zA (.t rfl))<|.n (zA (.t rfl))<|.n (zA (.t rfl))<|.n (zA (.t rfl))<|.n (op_nilo (.t rfl))<|.n (zI fd55_1 (.t rfl) rfl)<|.r 0 (zN 0 sc53 (.t rfl) rfl zJ rfl)<|.n (zP (less_ok (limbs_digJ _) (limbs_digJ _) hY lx (len_leJ hle) (mag_leJ hle)) ⟨(.t rfl), (.t rfl),  trivial⟩)<|.w 0 (op_callM 0 (imade_ok) ⟨(.t rfl), (.t rfl), (.t rfl),  trivial⟩ rfl)<|.n (zB (.t rfl))<|.nil) ff rfl fun g6 => ⟨_, _, [0], rfl, (.k 8 rfl<|.nil), (.k 0 rfl<|.nil), ?_⟩)
   refine zC ?_
   refine J_ret ?_
   refine JN_to (To.res 0 (r' := blk u (intCJ (x + sgnI t Y)) 55) rfl (res_eq (by rw [mag_subJ hle, plus_3 h1' hle])) rfl) ?_
   refine JN_retM 0 hr0 (fix_blk) rfl (.cons (.tmp (.t rfl))<|.nil) (zM (sb_res1 zL) ?_)
   exact zL
theorem iadd_ok {u : Value} {q0 q1 : SP} {x y : Int} (hx : SmlJ x) (hy : SmlJ y) : CtM Tryz.prog 50 [ipo u 0, intPJ x, intPJ y] (blk u [q0, q1] 55) (ipo u 0) (blk u (intCJ (x + y)) 55) := by
 refine CtM.of Tryz.func50 rfl (by kernel_rfl) rfl (fix_blk) fun c0 ob hr0 => ?_
 refine zF (zG [] (.n (zB (.k rfl))<|.nil) ff rfl fun g1 => ⟨_, _, [0], rfl, (.k 0 rfl<|.k 1 rfl<|.k 2 rfl<|.nil), (.k 0 rfl<|.nil), ?_⟩)
 refine zC ?_
 refine zF (zG [[], [], [], [2], [2, 3], [2, 3, 4], [], [6], [6, 7], [6, 7, 8], [0, 1, 2, 3, 4, 5, 6, 7, 8, 9], [0, 1, 2, 3, 4, 5, 6, 7, 8, 9, 10]] (.n (zA (.t rfl))<|.n (zA (.t rfl))<|.n (zA (.t rfl))<|.n (op_nilp (.t rfl))<|.n (op_field_ptr fd55_0 (.t rfl) rfl)<|.n (op_load_sc sc4 (.t rfl) rfl)<|.n (zA (.t rfl))<|.n (op_nilp (.t rfl))<|.n (op_field_ptr fd55_1 (.t rfl) rfl)<|.n (op_load_sc sc53 (.t rfl) rfl)<|.w 0 (op_callM 0 (iplus_ok hx (sml_lenJ hy)) ⟨(.t rfl), (.t rfl), (.t rfl), (.t rfl),  trivial⟩ rfl)<|.n (zB (.t rfl))<|.nil) (fun _ => mixed) rfl fun g2 => ⟨_, _, [0], rfl, (.k 6 rfl<|.nil), (.k 0 rfl<|.nil), ?_⟩)
 refine zC ?_
 refine J_ret ?_
 refine JN_to (To.res 0 (r' := blk u (intCJ (x + y)) 55) rfl (res_eq (by rw [add_1J])) rfl) ?_
 refine JN_retM 0 hr0 (fix_blk) rfl (.cons (.tmp (.t rfl))<|.nil) (zM (sb_res1 zL) ?_)
 exact zL
theorem iadd2_ok {u : Value} {x y : Int} (hx : SmlJ x) (hy : SmlJ y) : CtM Tryz.prog 50 [ipo u 0, ipo u 0, intPJ y] (blk u (intCJ (x)) 55) (ipo u 0) (blk u (intCJ (x + y)) 55) := by
 refine CtM.of Tryz.func50 rfl (by kernel_rfl) rfl (fix_blk) fun c0 ob hr0 => ?_
 refine zF (zG [] (.n (zB (.k rfl))<|.nil) ff rfl fun g1 => ⟨_, _, [0], rfl, (.k 0 rfl<|.k 1 rfl<|.k 2 rfl<|.nil), (.k 0 rfl<|.nil), ?_⟩)
 refine zC ?_
 refine zF (zG [[], [], [], [2], [2, 3], [2, 3, 4], [], [6], [6, 7], [6, 7, 8], [0, 1, 2, 3, 4, 5, 6, 7, 8, 9], [0, 1, 2, 3, 4, 5, 6, 7, 8, 9, 10]] (.n (zA (.t rfl))<|.n (zA (.t rfl))<|.n (zA (.t rfl))<|.n (op_nilp (.t rfl))<|.n (op_field_ptr fd55_0 (.t rfl) rfl)<|.n (op_load_sc sc4 (.t rfl) rfl)<|.n (zA (.t rfl))<|.n (op_nilp (.t rfl))<|.n (op_field_ptr fd55_1 (.t rfl) rfl)<|.n (op_load_sc sc53 (.t rfl) rfl)<|.w 0 (op_callM 0 (iplus2_ok hx (sml_lenJ hy)) ⟨(.t rfl), (.t rfl), (.t rfl), (.t rfl),  trivial⟩ rfl)<|.n (zB (.t rfl))<|.nil) (fun _ => mixed) rfl fun g2 => ⟨_, _, [0], rfl, (.k 6 rfl<|.nil), (.k 0 rfl<|.nil), ?_⟩)
 refine zC ?_
 refine J_ret ?_
 refine JN_to (To.res 0 (r' := blk u (intCJ (x + y)) 55) rfl (res_eq (by rw [add_1J])) rfl) ?_
 refine JN_retM 0 hr0 (fix_blk) rfl (.cons (.tmp (.t rfl))<|.nil) (zM (sb_res1 zL) ?_)
 exact zL
theorem isub_ok {u : Value} {q0 q1 : SP} {x y : Int} (hx : SmlJ x) (hy : SmlJ y) : CtM Tryz.prog 93 [ipo u 0, intPJ x, intPJ y] (blk u [q0, q1] 55) (ipo u 0) (blk u (intCJ (x - y)) 55) := by
 refine CtM.of Tryz.func93 rfl (by kernel_rfl) rfl (fix_blk) fun c0 ob hr0 => ?_
 refine zF (zG [] (.n (zB (.k rfl))<|.nil) ff rfl fun g1 => ⟨_, _, [0], rfl, (.k 0 rfl<|.k 1 rfl<|.k 2 rfl<|.nil), (.k 0 rfl<|.nil), ?_⟩)
 refine zC ?_
 refine zF (zG [[], [], [], [2], [2, 3], [2, 3, 4], [2, 3, 4, 5], [], [7], [7, 8], [7, 8, 9], [0, 1, 2, 3, 4, 5, 6, 7, 8, 9, 10], [0, 1, 2, 3, 4, 5, 6, 7, 8, 9, 10, 11]] (.n (zA (.t rfl))<|.n (zA (.t rfl))<|.n (zA (.t rfl))<|.n (op_nilp (.t rfl))<|.n (op_field_ptr fd55_0 (.t rfl) rfl)<|.n (op_load_sc sc4 (.t rfl) rfl)<|.n (op_not (.t rfl))<|.n (zA (.t rfl))<|.n (op_nilp (.t rfl))<|.n (op_field_ptr fd55_1 (.t rfl) rfl)<|.n (op_load_sc sc53 (.t rfl) rfl)<|.w 0 (op_callM 0 (iplus_ok hx (sml_lenJ hy)) ⟨(.t rfl), (.t rfl), (.t rfl), (.t rfl),  trivial⟩ rfl)<|.n (zB (.t rfl))<|.nil) (fun _ => mixed) rfl fun g2 => ⟨_, _, [0], rfl, (.k 6 rfl<|.nil), (.k 0 rfl<|.nil), ?_⟩)
 refine zC ?_
 refine J_ret ?_
 refine JN_to (To.res 0 (r' := blk u (intCJ (x - y)) 55) rfl (res_eq (by rw [sub_1J])) rfl) ?_
 refine JN_retM 0 hr0 (fix_blk) rfl (.cons (.tmp (.t rfl))<|.nil) (zM (sb_res1 zL) ?_)
 exact zL
theorem ilsh_ok {u : Value} {q0 q1 : SP} {x : Int} {n : Nat} (hx : SmlJ x) (hn : n ≤ 32000000) : CtM Tryz.prog 63 [ipo u 0, intPJ x, isv (.int .u64 (n : Int))] (blk u [q0, q1] 55) (ipo u 0) (blk u (intCJ (x * 2 ^ n)) 55) := by
 refine CtM.of Tryz.func63 rfl (by kernel_rfl) rfl (fix_blk) fun c0 ob hr0 => ?_
 have lx := sml_lenJ hx
 refine zF (zG [] (.n (zB (.k rfl))<|.nil) ff rfl fun g1 => ⟨_, _, [0], rfl, (.k 0 rfl<|.k 1 rfl<|.k 2 rfl<|.nil), (.k 0 rfl<|.nil), ?_⟩)
 refine zC ?_
 refine zF (zG [[], [], [1], [1, 2], [1, 2, 3], [], [5], [5, 6], [5, 6, 7], [], [5, 6, 7, 8, 9], [0, 1, 2, 3, 4, 5, 6, 7, 8, 9, 10], [0, 1, 2, 3, 4, 5, 6, 7, 8, 9, 10, 11]] (.n (zA (.t rfl))<|.n (zA (.t rfl))<|.n (op_nilp (.t rfl))<|.n (op_field_ptr fd55_0 (.t rfl) rfl)<|.n (op_load_sc sc4 (.t rfl) rfl)<|.n (zA (.t rfl))<|.n (op_nilp (.t rfl))<|.n (op_field_ptr fd55_1 (.t rfl) rfl)<|.n (op_load_sc sc53 (.t rfl) rfl)<|.n (zA (.t rfl))<|.n (zP (left_ok (limbs_digJ _) lx hn) ⟨(.t rfl), (.t rfl),  trivial⟩)<|.w 0 (op_callM 0 (imade_ok) ⟨(.t rfl), (.t rfl), (.t rfl),  trivial⟩ rfl)<|.n (zB (.t rfl))<|.nil) (fun _ => mixed) rfl fun g2 => ⟨_, _, [0], rfl, (.k 6 rfl<|.nil), (.k 0 rfl<|.nil), ?_⟩)
 refine zC ?_
 refine J_ret ?_
 refine JN_to (To.res 0 (r' := blk u (intCJ (x * 2 ^ n)) 55) rfl (res_eq (by rw [mag_shlJ, shl_1])) rfl) ?_
 refine JN_retM 0 hr0 (fix_blk) rfl (.cons (.tmp (.t rfl))<|.nil) (zM (sb_res1 zL) ?_)
 exact zL
theorem ilsh2_ok {u : Value} {x : Int} {n : Nat} (hx : SmlJ x) (hn : n ≤ 32000000) : CtM Tryz.prog 63 [ipo u 0, ipo u 0, isv (.int .u64 (n : Int))] (blk u (intCJ (x)) 55) (ipo u 0) (blk u (intCJ (x * 2 ^ n)) 55) := by
 refine CtM.of Tryz.func63 rfl (by kernel_rfl) rfl (fix_blk) fun c0 ob hr0 => ?_
 have lx := sml_lenJ hx
 refine zF (zG [] (.n (zB (.k rfl))<|.nil) ff rfl fun g1 => ⟨_, _, [0], rfl, (.k 0 rfl<|.k 1 rfl<|.k 2 rfl<|.nil), (.k 0 rfl<|.nil), ?_⟩)
 refine zC ?_
 refine zF (zG [[], [], [1], [1, 2], [1, 2, 3], [], [5], [5, 6], [5, 6, 7], [], [5, 6, 7, 8, 9], [0, 1, 2, 3, 4, 5, 6, 7, 8, 9, 10], [0, 1, 2, 3, 4, 5, 6, 7, 8, 9, 10, 11]] (.n (zA (.t rfl))<|.n (zA (.t rfl))<|.n (op_nilo (.t rfl))<|.n (zI fd55_0 (.t rfl) rfl)<|.r 0 (zN 0 sc4 (.t rfl) rfl zJ rfl)<|.n (zA (.t rfl))<|.n (op_nilo (.t rfl))<|.n (zI fd55_1 (.t rfl) rfl)<|.r 0 (zN 0 sc53 (.t rfl) rfl zJ rfl)<|.n (zA (.t rfl))<|.n (zP (left_ok (limbs_digJ _) lx hn) ⟨(.t rfl), (.t rfl),  trivial⟩)<|.w 0 (op_callM 0 (imade_ok) ⟨(.t rfl), (.t rfl), (.t rfl),  trivial⟩ rfl)<|.n (zB (.t rfl))<|.nil) (fun _ => mixed) rfl fun g2 => ⟨_, _, [0], rfl, (.k 6 rfl<|.nil), (.k 0 rfl<|.nil), ?_⟩)
 refine zC ?_
 refine J_ret ?_
 refine JN_to (To.res 0 (r' := blk u (intCJ (x * 2 ^ n)) 55) rfl (res_eq (by rw [mag_shlJ, shl_1])) rfl) ?_
 refine JN_retM 0 hr0 (fix_blk) rfl (.cons (.tmp (.t rfl))<|.nil) (zM (sb_res1 zL) ?_)
 exact zL
theorem irsh_ok {u : Value} {q0 q1 : SP} {x : Int} {n : Nat} (hx : SmlJ x) (hn : n ≤ 32000000) (hL : x < 0 → x.natAbs % 2 ^ n = 0) : CtM Tryz.prog 58 [ipo u 0, intPJ x, isv (.int .u64 (n : Int))] (blk u [q0, q1] 55) (ipo u 0) (blk u (intCJ (sgnI (decide (x < 0)) (x.natAbs / 2 ^ n))) 55) := by
 refine CtM.of Tryz.func58 rfl (by kernel_rfl) rfl (fix_blk) fun c0 ob hr0 => ?_
 have lx := sml_lenJ hx
 refine zF (zG [] (.n (zB (.k rfl))<|.nil) ff rfl fun g1 => ⟨_, _, [0], rfl, (.k 0 rfl<|.k 1 rfl<|.k 2 rfl<|.nil), (.k 0 rfl<|.nil), ?_⟩)
 refine zC ?_
 refine zF (zG [] (.n (zA (.t rfl))<|.n (op_nilp (.t rfl))<|.n (op_field_ptr fd55_0 (.t rfl) rfl)<|.n (op_load_sc sc4 (.t rfl) rfl)<|.n (zB (.t rfl))<|.nil) ff rfl fun g2 => ⟨_, _, [0], rfl, (.k 0 rfl<|.k 1 rfl<|.k 2 rfl<|.k 7 rfl<|.nil), (.k 0 rfl<|.nil), ?_⟩)
 refine zC ?_
 refine zF (zG [] (.n (zA (.t rfl))<|.n (op_nilp (.t rfl))<|.n (op_field_ptr fd55_1 (.t rfl) rfl)<|.n (op_load_sc sc53 (.t rfl) rfl)<|.n (zA (.t rfl))<|.n (zP (bright_ok lx hn) ⟨(.t rfl), (.t rfl),  trivial⟩)<|.n (zA (.t rfl))<|.n (op_extract (.t rfl) rfl)<|.n (op_extract (.t rfl) rfl)<|.n (zB (.t rfl))<|.n (zB (.t rfl))<|.nil) ff rfl fun g3 => ⟨_, _, [0], rfl, (.k 0 rfl<|.k 7 rfl<|.k 8 rfl<|.k 9 rfl<|.nil), (.k 0 rfl<|.nil), ?_⟩)
 refine zC ?_
 refine zF ?_
 refine zF (zG [] (.n (zA (.t rfl))<|.n (zA (.t rfl))<|.n (op_guard rfl rfl (gd_b rfl) (fun hC => (zA (.t rfl))))<|.n (op_and (.t rfl) (fun h2 => (.w rfl h2)))<|.nil) ff rfl fun g4 => ⟨_, _, [0], rfl, (.k 0 rfl<|.k 7 rfl<|.k 8 rfl<|.k 26 rfl<|.nil), (.k 0 rfl<|.nil), ?_⟩)
 refine zC ?_
 refine zH (zK (.t rfl)) (fun h1 => ?_) (fun h1 => ?_)
 ·have h1' := h1
  try simp only [cmpB, Z] at h1
  exact absurd h1' (by by_cases h0 : x < 0 <;> simp [h0]; exact hL h0)
 ·have h1' := h1
  try simp only [cmpB, Z] at h1
  refine J_skip ?_
  refine zC ?_
  refine zF (zG [] (.n (zA (.t rfl))<|.n (zA (.t rfl))<|.n (zA (.t rfl))<|.w 0 (op_callM 0 (imade_ok) ⟨(.t rfl), (.t rfl), (.t rfl),  trivial⟩ rfl)<|.n (zB (.t rfl))<|.nil) ff rfl fun g5 => ⟨_, _, [0], rfl, (.k 6 rfl<|.nil), (.k 0 rfl<|.nil), ?_⟩)
  refine zC ?_
  refine J_ret ?_
  refine JN_retM 0 hr0 (fix_blk) rfl (.cons (.tmp (.t rfl))<|.nil) (zM (sb_res1 zL) ?_)
  exact zL
theorem irsh2_ok {u : Value} {x : Int} {n : Nat} (hx : SmlJ x) (hn : n ≤ 32000000) (hL : x < 0 → x.natAbs % 2 ^ n = 0) : CtM Tryz.prog 58 [ipo u 0, ipo u 0, isv (.int .u64 (n : Int))] (blk u (intCJ (x)) 55) (ipo u 0) (blk u (intCJ (sgnI (decide (x < 0)) (x.natAbs / 2 ^ n))) 55) := by
 refine CtM.of Tryz.func58 rfl (by kernel_rfl) rfl (fix_blk) fun c0 ob hr0 => ?_
 have lx := sml_lenJ hx
 refine zF (zG [] (.n (zB (.k rfl))<|.nil) ff rfl fun g1 => ⟨_, _, [0], rfl, (.k 0 rfl<|.k 1 rfl<|.k 2 rfl<|.nil), (.k 0 rfl<|.nil), ?_⟩)
 refine zC ?_
 refine zF (zG [] (.n (zA (.t rfl))<|.n (op_nilo (.t rfl))<|.n (zI fd55_0 (.t rfl) rfl)<|.r 0 (zN 0 sc4 (.t rfl) rfl zJ rfl)<|.n (zB (.t rfl))<|.nil) ff rfl fun g2 => ⟨_, _, [0], rfl, (.k 0 rfl<|.k 1 rfl<|.k 2 rfl<|.k 7 rfl<|.nil), (.k 0 rfl<|.nil), ?_⟩)
 refine zC ?_
 refine zF (zG [] (.n (zA (.t rfl))<|.n (op_nilo (.t rfl))<|.n (zI fd55_1 (.t rfl) rfl)<|.r 0 (zN 0 sc53 (.t rfl) rfl zJ rfl)<|.n (zA (.t rfl))<|.n (zP (bright_ok lx hn) ⟨(.t rfl), (.t rfl),  trivial⟩)<|.n (zA (.t rfl))<|.n (op_extract (.t rfl) rfl)<|.n (op_extract (.t rfl) rfl)<|.n (zB (.t rfl))<|.n (zB (.t rfl))<|.nil) ff rfl fun g3 => ⟨_, _, [0], rfl, (.k 0 rfl<|.k 7 rfl<|.k 8 rfl<|.k 9 rfl<|.nil), (.k 0 rfl<|.nil), ?_⟩)
 refine zC ?_
 refine zF ?_
 refine zF (zG [] (.n (zA (.t rfl))<|.n (zA (.t rfl))<|.n (op_guard rfl rfl (gd_b rfl) (fun hC => (zA (.t rfl))))<|.n (op_and (.t rfl) (fun h2 => (.w rfl h2)))<|.nil) ff rfl fun g4 => ⟨_, _, [0], rfl, (.k 0 rfl<|.k 7 rfl<|.k 8 rfl<|.k 26 rfl<|.nil), (.k 0 rfl<|.nil), ?_⟩)
 refine zC ?_
 refine zH (zK (.t rfl)) (fun h1 => ?_) (fun h1 => ?_)
 ·have h1' := h1
  try simp only [cmpB, Z] at h1
  exact absurd h1' (by by_cases h0 : x < 0 <;> simp [h0]; exact hL h0)
 ·have h1' := h1
  try simp only [cmpB, Z] at h1
  refine J_skip ?_
  refine zC ?_
  refine zF (zG [] (.n (zA (.t rfl))<|.n (zA (.t rfl))<|.n (zA (.t rfl))<|.w 0 (op_callM 0 (imade_ok) ⟨(.t rfl), (.t rfl), (.t rfl),  trivial⟩ rfl)<|.n (zB (.t rfl))<|.nil) ff rfl fun g5 => ⟨_, _, [0], rfl, (.k 6 rfl<|.nil), (.k 0 rfl<|.nil), ?_⟩)
  refine zC ?_
  refine J_ret ?_
  refine JN_retM 0 hr0 (fix_blk) rfl (.cons (.tmp (.t rfl))<|.nil) (zM (sb_res1 zL) ?_)
  exact zL
theorem iand_ok {u : Value} {q0 q1 : SP} {x y : Int} (hx : SmlJ x) (hy : SmlJ y) : CtM Tryz.prog 59 [ipo u 0, intPJ x, intPJ y] (blk u [q0, q1] 55) (ipo u 0) (blk u (intCJ (((x.natAbs &&& y.natAbs : Nat) : Int))) 55) := by
 refine CtM.of Tryz.func59 rfl (by kernel_rfl) rfl (fix_blk) fun c0 ob hr0 => ?_
 have lx := sml_lenJ hx
 have ly := sml_lenJ hy
 have hdx := limbs_digJ x.natAbs
 have hdy := limbs_digJ y.natAbs
 have hTl := andLJ_len (limbsJ x.natAbs) (limbsJ y.natAbs)
 have hrl : ((List.replicate (min ((limbsJ x.natAbs).length : Int) ((limbsJ y.natAbs).length : Int)).toNat (0 : Int)).length : Int) = min ((limbsJ x.natAbs).length : Int) ((limbsJ y.natAbs).length : Int) := by rw [List.length_replicate]; omega
 refine zF (zG [] (.n (zB (.k rfl))<|.nil) ff rfl fun g1 => ⟨_, _, [0], rfl, (.k 0 rfl<|.k 1 rfl<|.k 2 rfl<|.nil), (.k 0 rfl<|.nil), ?_⟩)
 refine zC ?_
 refine J_to (To.emps 1) ?_
 refine zF (zG [[], [0], [0, 1], [0, 1, 2], [0, 1, 2, 3], [], [5], [5, 6], [5, 6, 7], [5, 6, 7, 8], [0, 1, 2, 3, 4, 5, 6, 7, 8, 9], [0, 1, 2, 3, 4, 5, 6, 7, 8, 9, 10], [0, 1, 2, 3, 4, 5, 6, 7, 8, 9, 10, 11]] (.n (zA (.t rfl))<|.n (op_nilp (.t rfl))<|.n (op_field_ptr fd55_1 (.t rfl) rfl)<|.n (op_load_sc sc53 (.t rfl) rfl)<|.n (op_len_m sl53 (.t rfl))<|.n (zA (.t rfl))<|.n (op_nilp (.t rfl))<|.n (op_field_ptr fd55_1 (.t rfl) rfl)<|.n (op_load_sc sc53 (.t rfl) rfl)<|.n (op_len_m sl53 (.t rfl))<|.n (op_imin (.t rfl) (.t rfl))<|.w 1 (op_make_m (mk := inp .u64) 0 1 sl53 zr38 rfl (fun _ => ⟨rfl, rfl⟩) (.t rfl) (.t rfl) (by omega) (by omega) (by omega) (by omega) rfl)<|.n (op_assign_ve rfl rfl)<|.nil) (fun _ => mixed) rfl fun g2 => ⟨_, _, [0, 1], rfl, (.k 0 rfl<|.k 1 rfl<|.k 2 rfl<|.k 7 rfl<|.nil), (.k 0 rfl<|.k 1 rfl<|.nil), ?_⟩)
 refine zC ?_
 refine zF ?_
 refine zF (zG [] (.n (zA (.t rfl))<|.r 1 (op_len_som 1 sl53 (.t rfl) rfl)<|.n (zA (.k rfl))<|.nil) ff rfl fun g3 => ⟨_, _, [0, 1], rfl, (.k 0 rfl<|.k 1 rfl<|.k 2 rfl<|.k 7 rfl<|.k 22 rfl<|.k 23 rfl<|.nil), (.k 0 rfl<|.k 1 rfl<|.nil), ?_⟩)
 refine zC ?_
 refine zT ?_
 refine J_loopc (α := Nat) (fun k => k ≤ (andLJ (limbsJ x.natAbs) (limbsJ y.natAbs)).length) (fun k => (andLJ (limbsJ x.natAbs) (limbsJ y.natAbs)).length - k) (fun k restR => (23, isv (.int .i64 (k : Int))) :: restR) (fun k restS => som (g2 20) (inp .u64) (fillP (andLJ (limbsJ x.natAbs) (limbsJ y.natAbs)) k) 38 :: restS) (ρc := [(0, _), (1, _), (2, _), (7, _), (22, _)]) (σc := [_]) 0 (by exact Nat.zero_le _) (To.pick (fun _ => .sub (t := 23) rfl (sp_eq (by rfl))<|.k 0 rfl<|.k 1 rfl<|.k 2 rfl<|.k 7 rfl<|.k 22 rfl<|.nil) (fun _ => .sub 1 rfl ((res_eq (by rw [fill_zero]; exact congrArg (fun n => som _ _ (List.replicate n 0) _) (by omega))))<|.k 0 rfl<|.nil) (ks := [1, 0]) rfl) (fun k hI => ?_)
 refine zF (zG [] (.n (op_cmp (by simp) (.t rfl) (.t rfl) rfl)<|.nil) ff rfl fun g4 => ⟨_, _, [0, 1], rfl, (.k 0 rfl<|.k 1 rfl<|.k 2 rfl<|.k 7 rfl<|.k 22 rfl<|.k 23 rfl<|.k 24 rfl<|.nil), (.k 0 rfl<|.k 1 rfl<|.nil), ?_⟩)
 refine zC ?_
 refine zF ?_
 refine zH (zK (.t rfl)) (fun h1 => ?_) (fun h1 => ?_)
 ·try simp only [cmpB, Z] at h1
  have hfl := fill_len (T := andLJ (limbsJ x.natAbs) (limbsJ y.natAbs)) (i := k) (by omega)
  have hTa := andLJ_at (a := limbsJ x.natAbs) (b := limbsJ y.natAbs) (i := k) (by omega)
  have hTb := hTa.symm
  refine J_skip ?_
  refine zC ?_
  refine zF ?_
  refine zT ?_
  refine zF (zG [] (.n (zA (.t rfl))<|.n (zB (.t rfl))<|.nil) ff rfl fun g5 => ⟨_, _, [0, 1], rfl, (.k 0 rfl<|.k 1 rfl<|.k 2 rfl<|.k 7 rfl<|.k 8 rfl<|.k 22 rfl<|.k 23 rfl<|.nil), (.k 0 rfl<|.k 1 rfl<|.nil), ?_⟩)
  refine zC ?_
  refine (zG [[], [], [], [2], [2, 3], [2, 3, 4], [], [2, 3, 4, 5, 6], [2, 3, 4, 5, 6, 7], [], [9], [9, 10], [9, 10, 11], [], [9, 10, 11, 12, 13], [9, 10, 11, 12, 13, 14], [2, 3, 4, 5, 6, 7, 8, 9, 10, 11, 12, 13, 14, 15], [0, 1, 2, 3, 4, 5, 6, 7, 8, 9, 10, 11, 12, 13, 14, 15, 16], [0, 1, 2, 3, 4, 5, 6, 7, 8, 9, 10, 11, 12, 13, 14, 15, 16, 17]] (.n (zA (.t rfl))<|.n (zA (.t rfl))<|.n (zA (.t rfl))<|.n (op_nilp (.t rfl))<|.n (op_field_ptr fd55_1 (.t rfl) rfl)<|.n (op_load_sc sc53 (.t rfl) rfl)<|.n (zA (.t rfl))<|.n (op_index_m 0 sl53 (.t rfl) (.t rfl) (by omega) (by omega))<|.n (op_load_sc sc38 (.t rfl) rfl)<|.n (zA (.t rfl))<|.n (op_nilp (.t rfl))<|.n (op_field_ptr fd55_1 (.t rfl) rfl)<|.n (op_load_sc sc53 (.t rfl) rfl)<|.n (zA (.t rfl))<|.n (op_index_m 0 sl53 (.t rfl) (.t rfl) (by omega) (by omega))<|.n (op_load_sc sc38 (.t rfl) rfl)<|.n (op_bits (by simp) (.t rfl) (.t rfl) rfl)<|.r 0 (op_index_som 0 sl53 (.t rfl) (.t rfl) rfl (by omega) (by omega))<|.w 0 (op_store_som (mk := inp .u64) 0 (.t rfl) (.t rfl) co_inp sz38 rfl (by omega))<|.nil) (fun _ => mixed) rfl fun g6 => ⟨_, _, [0, 1], rfl, (.k 0 rfl<|.k 1 rfl<|.k 2 rfl<|.k 7 rfl<|.k 22 rfl<|.k 23 rfl<|.nil), (.k 0 rfl<|.k 1 rfl<|.nil), ?_⟩)
  refine zR ?_
  refine zC ?_
  refine (zG [] (.n (op_add (.t rfl) (.k rfl) (zO (by omega) (by omega)))<|.n (zA (.t rfl))<|.nil) ff rfl fun g7 => ⟨_, _, [0, 1], rfl, (.k 0 rfl<|.k 1 rfl<|.k 2 rfl<|.k 7 rfl<|.k 22 rfl<|.k 23 rfl<|.nil), (.k 0 rfl<|.k 1 rfl<|.nil), ?_⟩)
  exact JN_again (k + 1) (by omega) (by omega) (To.pick (fun _ => .sub (t := 23) rfl (sp_eq (by rfl))<|.k 0 rfl<|.k 1 rfl<|.k 2 rfl<|.k 7 rfl<|.k 22 rfl<|.nil) (fun _ => .sub 0 rfl ((res_eq (congrArg (fun l => som _ _ l _) (fill_set (by omega) hTb))))<|.k 1 rfl<|.nil) (ks := [0, 1]) rfl)
 ·try simp only [cmpB, Z] at h1
  have hke : k = (andLJ (limbsJ x.natAbs) (limbsJ y.natAbs)).length := by omega
  refine J_exit ?_
  refine zE ?_
  refine zE ?_
  refine zS ?_
  refine zC ?_
  refine J_to (To.freezeM 0 1 hr0 (fix_blk) rfl rfl rfl frz_som rfl) ?_
  refine zF (zG [] (.n (zA (.t rfl))<|.n (zA (.t rfl))<|.n (zP (norm_ok (by rw [fill_all hke]; exact (andLJ_mag _ _).1)) ⟨(Lk.sub (sb_fk 0 rfl) (.t rfl)),  trivial⟩)<|.w 1 (op_callM 1 (imade_ok) ⟨(.t rfl), (.k rfl), (.t rfl),  trivial⟩ rfl)<|.n (zB (.t rfl))<|.nil) ff rfl fun g8 => ⟨_, _, [1], rfl, (.k 6 rfl<|.nil), (.k 1 rfl<|.nil), ?_⟩)
  refine zC ?_
  refine J_ret ?_
  refine JN_to (To.res 0 (r' := blk u (intCJ (((x.natAbs &&& y.natAbs : Nat) : Int))) 55) rfl (res_eq (by rw [fill_all hke, nat_mag (andLJ_mag _ _).2]; rfl)) rfl) ?_
  refine JN_retM 0 hr0 (fix_blk) rfl (.cons (.tmp (.t rfl))<|.nil) (zM (sb_res1 zL) ?_)
  exact zL
theorem isign_ok {x : Int} : Ct Tryz.prog 49 [intPJ x] (isv (.int .i64 (signI x))) := by
 refine Ct.of Tryz.func49 rfl (by kernel_rfl) rfl fun c0 => ?_
 have hl0 := limbs_len0J (n := x.natAbs)
 refine zF (zG [] (.n (zB (.k rfl))<|.nil) ff rfl fun g1 => ⟨_, _, [], rfl, (.k 0 rfl<|.nil), (.nil), ?_⟩)
 refine zC ?_
 refine zF ?_
 refine zT ?_
 refine zF (zG [] (.n (zA (.t rfl))<|.n (op_nilp (.t rfl))<|.n (op_field_ptr fd55_0 (.t rfl) rfl)<|.n (op_load_sc sc4 (.t rfl) rfl)<|.n (zB (.t rfl))<|.nil) ff rfl fun g2 => ⟨_, _, [], rfl, (.k 0 rfl<|.k 3 rfl<|.nil), (.nil), ?_⟩)
 refine zC ?_
 refine zH (zK (.t rfl)) (fun h1 => ?_) (fun h1 => ?_)
 ·try simp only [cmpB, Z] at h1
  refine zF (zG [] (.n (zB (.k rfl))<|.nil) ff rfl fun g3 => ⟨_, _, [], rfl, (.k 2 rfl<|.nil), (.nil), ?_⟩)
  refine zC ?_
  refine J_ret ?_
  refine JN_block_ret ?_
  refine zD ?_
  refine zQ (.cons (.tmp (.t rfl))<|.nil) (zM (sb_res1 zL) ?_)
  exact ret_i (by have e : x < 0 := (by simpa using h1); unfold signI; rw [if_pos e])
 ·try simp only [cmpB, Z] at h1
  refine zF (zG [] (.n (zA (.t rfl))<|.n (op_nilp (.t rfl))<|.n (op_field_ptr fd55_1 (.t rfl) rfl)<|.n (op_load_sc sc53 (.t rfl) rfl)<|.n (op_len_m sl53 (.t rfl))<|.n (op_cmp (by simp) (.t rfl) (.k rfl) rfl)<|.n (zB (.t rfl))<|.nil) ff rfl fun g4 => ⟨_, _, [], rfl, (.k 8 rfl<|.nil), (.nil), ?_⟩)
  refine zC ?_
  refine zH (zK (.t rfl)) (fun h2 => ?_) (fun h2 => ?_)
  ·try simp only [cmpB, Z] at h2
   refine zF (zG [] (.n (zB (.k rfl))<|.nil) ff rfl fun g5 => ⟨_, _, [], rfl, (.k 2 rfl<|.nil), (.nil), ?_⟩)
   refine zC ?_
   refine J_ret ?_
   refine JN_block_ret ?_
   refine zD ?_
   refine zQ (.cons (.tmp (.t rfl))<|.nil) (zM (sb_res1 zL) ?_)
   exact ret_i (by have h9 := hl0.1 (by omega); unfold signI; rw [if_neg (by omega), if_pos (by omega)])
  ·try simp only [cmpB, Z] at h2
   refine J_skip ?_
   refine zR ?_
   refine zC ?_
   refine zF (zG [] (.n (zB (.k rfl))<|.nil) ff rfl fun g6 => ⟨_, _, [], rfl, (.k 2 rfl<|.nil), (.nil), ?_⟩)
   refine zC ?_
   refine J_ret ?_
   refine zQ (.cons (.tmp (.t rfl))<|.nil) (zM (sb_res1 zL) ?_)
   exact ret_i (by have e : ¬ x < 0 := (by simpa using h1); have h9 : ¬ x = 0 := (fun e0 => by subst e0; have := hl0.2 rfl; omega); unfold signI; rw [if_neg e, if_neg h9])
theorem ibl_ok {x : Int} (hx : SmlJ x) : Ct Tryz.prog 31 [intPJ x] (isv (.int .i64 (bl x.natAbs : Int))) := by
 refine Ct.of Tryz.func31 rfl (by kernel_rfl) rfl fun c0 => ?_
 refine zF (zG [] (.n (zB (.k rfl))<|.nil) ff rfl fun g1 => ⟨_, _, [], rfl, (.k 0 rfl<|.nil), (.nil), ?_⟩)
 refine zC ?_
 refine zF (zG [] (.n (zA (.t rfl))<|.n (op_nilp (.t rfl))<|.n (op_field_ptr fd55_1 (.t rfl) rfl)<|.n (op_load_sc sc53 (.t rfl) rfl)<|.n (zP (blen_ok (sml_lenJ hx)) ⟨(.t rfl),  trivial⟩)<|.n (zB (.t rfl))<|.nil) ff rfl fun g2 => ⟨_, _, [], rfl, (.k 2 rfl<|.nil), (.nil), ?_⟩)
 refine zC ?_
 refine J_ret ?_
 refine zQ (.cons (.tmp (.t rfl))<|.nil) (zM (sb_res1 zL) ?_)
 exact zL
theorem ibit_ok {x : Int} : Ct Tryz.prog 84 [intPJ x, isv (.int .i64 0)] (isv (.int .u64 ((x.natAbs % 2 : Nat) : Int))) := by
 refine Ct.of Tryz.func84 rfl (by kernel_rfl) rfl fun c0 => ?_
 refine zF (zG [] (.n (zB (.k rfl))<|.nil) ff rfl fun g1 => ⟨_, _, [], rfl, (.k 0 rfl<|.k 1 rfl<|.nil), (.nil), ?_⟩)
 refine zC ?_
 refine zF (zG [] (.n (zA (.t rfl))<|.n (op_nilp (.t rfl))<|.n (op_field_ptr fd55_1 (.t rfl) rfl)<|.n (op_load_sc sc53 (.t rfl) rfl)<|.n (zA (.t rfl))<|.n (op_quo (.t rfl) (.k rfl) (by omega) (by decide +kernel : _ = ((0 : Nat) : Int)))<|.n (zP (digit_ok) ⟨(.t rfl), (.t rfl),  trivial⟩)<|.n (zA (.t rfl))<|.n (op_rem (.t rfl) (.k rfl) (by omega) (by decide +kernel : _ = (0 : Int)))<|.n (op_shr (.t rfl) (.t rfl) (by omega) (show Int.fdiv _ _ = digBJ (limbsJ x.natAbs) 0 from Int.fdiv_one _))<|.n (op_bits (by simp) (.t rfl) (.k rfl) (bit_0J x.natAbs))<|.n (zB (.t rfl))<|.nil) ff rfl fun g2 => ⟨_, _, [], rfl, (.k 4 rfl<|.nil), (.nil), ?_⟩)
 refine zC ?_
 refine J_ret ?_
 refine zQ (.cons (.tmp (.t rfl))<|.nil) (zM (sb_res1 zL) ?_)
 exact zL
theorem itzb_ok {x : Int} (hx : SmlJ x) : Ct Tryz.prog 85 [intPJ x] (isv (.int .u64 (tzNJ x.natAbs : Int))) := by
 refine Ct.of Tryz.func85 rfl (by kernel_rfl) rfl fun c0 => ?_
 have hdn := limbs_digJ x.natAbs
 have hl4 : (limbsJ x.natAbs).length ≤ 4000 := limbs_lenJ hx.h
 refine zF (zG [] (.n (zB (.k rfl))<|.nil) ff rfl fun g1 => ⟨_, _, [], rfl, (.k 0 rfl<|.nil), (.nil), ?_⟩)
 refine zC ?_
 refine zF ?_
 refine zF (zG [] (.n (zA (.t rfl))<|.n (op_nilp (.t rfl))<|.n (op_field_ptr fd55_1 (.t rfl) rfl)<|.n (op_load_sc sc53 (.t rfl) rfl)<|.n (op_len_m sl53 (.t rfl))<|.n (zA (.k rfl))<|.nil) ff rfl fun g2 => ⟨_, _, [], rfl, (.k 8 rfl<|.k 9 rfl<|.k 10 rfl<|.nil), (.nil), ?_⟩)
 refine zC ?_
 refine zT ?_
 refine J_loopc (α := Nat) (fun k => k ≤ (limbsJ x.natAbs).length ∧ magIJ ((limbsJ x.natAbs).take k) = 0) (fun k => (limbsJ x.natAbs).length - k) (fun k restR => (10, isv (.int .i64 (k : Int))) :: restR) (fun k restS => restS) (ρc := [(8, _), (9, _)]) (σc := []) 0 (by exact ⟨Nat.zero_le _, rfl⟩) (To.pick (fun _ => .sub (t := 10) rfl (sp_eq (by rfl))<|.k 8 rfl<|.k 9 rfl<|.nil) (fun _ => .nil) (ks := []) rfl) (fun k hI => ?_)
 refine zF (zG [] (.n (op_cmp (by simp) (.t rfl) (.t rfl) rfl)<|.nil) ff rfl fun g3 => ⟨_, _, [], rfl, (.k 8 rfl<|.k 9 rfl<|.k 10 rfl<|.k 11 rfl<|.nil), (.nil), ?_⟩)
 refine zC ?_
 refine zF ?_
 refine zH (zK (.t rfl)) (fun h1 => ?_) (fun h1 => ?_)
 ·try simp only [cmpB, Z] at h1
  have gl := hdn.at (k := ((k : Nat) : Int).toNat) (by have := h1; omega)
  refine J_skip ?_
  refine zC ?_
  refine zF ?_
  refine zT ?_
  refine zF (zG [] (.n (zA (.t rfl))<|.n (op_index_m 0 sl53 (.t rfl) (.t rfl) (by omega) (by omega))<|.n (op_load_sc sc38 (.t rfl) rfl)<|.n (zB (.t rfl))<|.n (zB (.t rfl))<|.nil) ff rfl fun g4 => ⟨_, _, [], rfl, (.k 3 rfl<|.k 4 rfl<|.k 8 rfl<|.k 9 rfl<|.k 10 rfl<|.nil), (.nil), ?_⟩)
  refine zC ?_
  refine zF (zG [] (.n (zA (.t rfl))<|.n (op_cmp (by simp) (.t rfl) (.k rfl) rfl)<|.nil) ff rfl fun g5 => ⟨_, _, [], rfl, (.k 3 rfl<|.k 4 rfl<|.k 8 rfl<|.k 9 rfl<|.k 10 rfl<|.k 16 rfl<|.nil), (.nil), ?_⟩)
  refine zC ?_
  refine zH (zK (.t rfl)) (fun h2 => ?_) (fun h2 => ?_)
  ·try simp only [cmpB, Z] at h2
   obtain ⟨ht1, ht2⟩ := tz_limbJ (n := x.natAbs) (k := k) (by have := h1; omega) hI.2 h2
   have gt : tzNJ ((limbsJ x.natAbs).getD ((k : Nat) : Int).toNat 0).toNat < 64 := ht2
   refine zF (zG [] (.n (zA (.t rfl))<|.n (op_mul (.k rfl) (.t rfl) (zO (by omega) (by omega)))<|.n (zA (.t rfl))<|.n (zP (tz64_ok (by have := gl.1; have := h2; omega) gl.2) ⟨(.t rfl),  trivial⟩)<|.n (op_add (.t rfl) (.t rfl) (zO (by omega) (by omega)))<|.n (op_conv_int it3 it98 (.t rfl) (wr64 (by omega) (by omega)))<|.n (zB (.t rfl))<|.nil) ff rfl fun g6 => ⟨_, _, [], rfl, (.k 2 rfl<|.nil), (.nil), ?_⟩)
   refine zC ?_
   refine J_ret ?_
   refine JN_block_ret ?_
   refine zD ?_
   refine zD ?_
   refine JN_block_ret ?_
   refine zD ?_
   refine zQ (.cons (.tmp (.t rfl))<|.nil) (zM (sb_res1 zL) ?_)
   exact ret_i (by rw [ht1]; show _ = ((64 * k + tzNJ ((limbsJ x.natAbs).getD ((k : Nat) : Int).toNat 0).toNat : Nat) : Int); omega)
  ·try simp only [cmpB, Z] at h2
   have hst := tz_stepJ (n := x.natAbs) (k := k) (by have := h1; omega) hI.2 h2
   refine J_skip ?_
   refine zR ?_
   refine zC ?_
   refine (zG [] (.n (op_add (.t rfl) (.k rfl) (zO (by omega) (by omega)))<|.n (zA (.t rfl))<|.nil) ff rfl fun g7 => ⟨_, _, [], rfl, (.k 8 rfl<|.k 9 rfl<|.k 10 rfl<|.nil), (.nil), ?_⟩)
   exact JN_again (k + 1) (by exact ⟨by omega, hst⟩) (by omega) (To.pick (fun _ => .sub (t := 10) rfl (sp_eq (by rfl))<|.k 8 rfl<|.k 9 rfl<|.nil) (fun _ => .nil) (ks := []) rfl)
 ·try simp only [cmpB, Z] at h1
  have hno := tz_noneJ (n := x.natAbs) (k := k) (by have := h1; have := hI.1; omega) hI.2
  refine J_exit ?_
  refine zE ?_
  refine zE ?_
  refine zS ?_
  refine zC ?_
  refine zF (zG [] (.n (zB (.k rfl))<|.nil) ff rfl fun g8 => ⟨_, _, [], rfl, (.k 2 rfl<|.nil), (.nil), ?_⟩)
  refine zC ?_
  refine J_ret ?_
  refine zQ (.cons (.tmp (.t rfl))<|.nil) (zM (sb_res1 zL) ?_)
  exact ret_i (by rw [hno]; rfl)
theorem iu64_ok {x : Int} : Ct Tryz.prog 36 [intPJ x] (isv (.int .u64 ((x.natAbs % 18446744073709551616 : Nat) : Int))) := by
 refine Ct.of Tryz.func36 rfl (by kernel_rfl) rfl fun c0 => ?_
 refine zF (zG [] (.n (zB (.k rfl))<|.nil) ff rfl fun g1 => ⟨_, _, [], rfl, (.k 0 rfl<|.nil), (.nil), ?_⟩)
 refine zC ?_
 refine zF (zG [] (.n (zA (.t rfl))<|.n (op_nilp (.t rfl))<|.n (op_field_ptr fd55_1 (.t rfl) rfl)<|.n (op_load_sc sc53 (.t rfl) rfl)<|.n (zP (low_ok) ⟨(.t rfl),  trivial⟩)<|.n (zB (.t rfl))<|.nil) ff rfl fun g2 => ⟨_, _, [], rfl, (.k 2 rfl<|.nil), (.nil), ?_⟩)
 refine zC ?_
 refine J_ret ?_
 refine zQ (.cons (.tmp (.t rfl))<|.nil) (zM (sb_res1 zL) ?_)
 exact zL
theorem icmp_ok {x y : Int} (hx0 : 0 ≤ x) (hy0 : 0 ≤ y) : Ct Tryz.prog 94 [intPJ x, intPJ y] (isv (.int .i64 (cmpN x.natAbs y.natAbs))) := by
 refine Ct.of Tryz.func94 rfl (by kernel_rfl) rfl fun c0 => ?_
 refine zF (zG [] (.n (zB (.k rfl))<|.nil) ff rfl fun g1 => ⟨_, _, [], rfl, (.k 0 rfl<|.k 1 rfl<|.nil), (.nil), ?_⟩)
 refine zC ?_
 refine zF ?_
 refine zT ?_
 refine zF (zG [[], [0], [0, 1], [0, 1, 2], [], [4], [4, 5], [4, 5, 6], [0, 1, 2, 3, 4, 5, 6, 7], [0, 1, 2, 3, 4, 5, 6, 7, 8]] (.n (zA (.t rfl))<|.n (op_nilp (.t rfl))<|.n (op_field_ptr fd55_0 (.t rfl) rfl)<|.n (op_load_sc sc4 (.t rfl) rfl)<|.n (zA (.t rfl))<|.n (op_nilp (.t rfl))<|.n (op_field_ptr fd55_0 (.t rfl) rfl)<|.n (op_load_sc sc4 (.t rfl) rfl)<|.n (op_bne Tryz.underlying4 (.t rfl) (.t rfl))<|.n (zB (.t rfl))<|.nil) (fun _ => mixed) rfl fun g2 => ⟨_, _, [], rfl, (.k 0 rfl<|.k 1 rfl<|.k 5 rfl<|.nil), (.nil), ?_⟩)
 refine zC ?_
 refine zH (zK (.t rfl)) (fun h1 => ?_) (fun h1 => ?_)
 ·have h1' := h1
  try simp only [cmpB, Z] at h1
  exact absurd h1' (by rw [show decide (x < 0) = false by simp; omega, show decide (y < 0) = false by simp; omega]; decide)
 ·have h1' := h1
  try simp only [cmpB, Z] at h1
  refine zF (zG [] (.n (zA (.t rfl))<|.n (op_nilp (.t rfl))<|.n (op_field_ptr fd55_0 (.t rfl) rfl)<|.n (op_load_sc sc4 (.t rfl) rfl)<|.n (zB (.t rfl))<|.nil) ff rfl fun g3 => ⟨_, _, [], rfl, (.k 0 rfl<|.k 1 rfl<|.k 19 rfl<|.nil), (.nil), ?_⟩)
  refine zC ?_
  refine zH (zK (.t rfl)) (fun h2 => ?_) (fun h2 => ?_)
  ·try simp only [cmpB, Z] at h2
   exact absurd h2 (by simp; omega)
  ·try simp only [cmpB, Z] at h2
   refine J_skip ?_
   refine zR ?_
   refine zC ?_
   refine zF (zG [[], [0], [0, 1], [0, 1, 2], [], [4], [4, 5], [4, 5, 6], [0, 1, 2, 3, 4, 5, 6, 7], [0, 1, 2, 3, 4, 5, 6, 7, 8]] (.n (zA (.t rfl))<|.n (op_nilp (.t rfl))<|.n (op_field_ptr fd55_1 (.t rfl) rfl)<|.n (op_load_sc sc53 (.t rfl) rfl)<|.n (zA (.t rfl))<|.n (op_nilp (.t rfl))<|.n (op_field_ptr fd55_1 (.t rfl) rfl)<|.n (op_load_sc sc53 (.t rfl) rfl)<|.n (zP (cmp_ok) ⟨(.t rfl), (.t rfl),  trivial⟩)<|.n (zB (.t rfl))<|.nil) (fun _ => mixed) rfl fun g4 => ⟨_, _, [], rfl, (.k 4 rfl<|.nil), (.nil), ?_⟩)
   refine zC ?_
   refine J_ret ?_
   refine zQ (.cons (.tmp (.t rfl))<|.nil) (zM (sb_res1 zL) ?_)
   exact zL
end Go.Proofs.YtcpififnffmjfaaGreatDoor
