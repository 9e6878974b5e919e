/- Printed by a program of ours (walk.py): walks of expansions: layers. -/
import Derived.Test.YtcpififnffmjfaaGreatDoorZsKb
import Derived.Test.YtcpififnffmjfaaGreatDoorProg
import Derived.KernelRfl
import Derived.Test.YtcpififnffmjfaaGreatDoorZsTypes
import Derived.Test.YtcpififnffmjfaaGreatDoorZsWAna
import Derived.Test.YtcpififnffmjfaaGreatDoorZsEtx
set_option linter.unusedVariables false
set_option linter.unusedSimpArgs false
set_option maxRecDepth 20000
set_option maxHeartbeats 4000000
namespace Go.Proofs.YtcpififnffmjfaaGreatDoor
open Go Go.Bn
attribute [local irreducible] OpOK
theorem efin_ok {x : Nat} : Ct Tryz.prog 40 [flp x] (isv (.bool (finB x))) := by
 refine Ct.of Tryz.func40 rfl (by kernel_rfl) rfl fun c0 => ?_
 refine J_fl 0 rfl fun hx1 hx2 => ?_
 refine zF (zG [] (.n (zB (.k rfl))<|.nil) ff rfl fun g1 => ⟨_, _, [], rfl, (.k 0 rfl<|.nil), (.nil), ?_⟩)
 refine zC ?_
 refine zF (zG [] (.n (zA (.t rfl))<|.n (zA (.t rfl))<|.n (op_float (by simp) (.t rfl) (.t rfl) rfl)<|.n (op_fcmp (by simp) (.t rfl) (Lk.fk rfl (by decide +kernel)) rfl)<|.n (zB (.t rfl))<|.nil) ff rfl fun g2 => ⟨_, _, [], rfl, (.k 2 rfl<|.nil), (.nil), ?_⟩)
 refine zC ?_
 refine J_ret ?_
 refine zQ (.cons (.tmp (.t rfl))<|.nil) (zM (sb_res1 zL) ?_)
 exact ret_b (sub_zero_eq hx1)
theorem eabs_ok {x : Nat} : Ct Tryz.prog 99 [flp x] (flp (if fcmp .lss x 0 = true then fneg x else x)) := by
 refine Ct.of Tryz.func99 rfl (by kernel_rfl) rfl fun c0 => ?_
 refine zF (zG [] (.n (zB (Lk.fk rfl (by decide +kernel)))<|.nil) ff rfl fun g1 => ⟨_, _, [], rfl, (.k 0 rfl<|.nil), (.nil), ?_⟩)
 refine zC ?_
 refine zF ?_
 refine zF (zG [] (.n (zA (.t rfl))<|.n (op_fcmp (by simp) (.t rfl) (Lk.fk rfl (by decide +kernel)) rfl)<|.nil) ff rfl fun g2 => ⟨_, _, [], rfl, (.k 0 rfl<|.k 4 rfl<|.nil), (.nil), ?_⟩)
 refine zC ?_
 refine zH (zK (.t rfl)) (fun h1 => ?_) (fun h1 => ?_)
 ·have h1' := h1
  try simp only [cmpB, Z] at h1
  refine zF (zG [] (.n (zA (.t rfl))<|.n (op_negf (.t rfl))<|.n (zB (.t rfl))<|.nil) ff rfl fun g3 => ⟨_, _, [], rfl, (.k 2 rfl<|.nil), (.nil), ?_⟩)
  refine zC ?_
  refine J_ret ?_
  refine zD ?_
  refine zQ (.cons (.tmp (.t rfl))<|.nil) (zM (sb_res1 zL) ?_)
  exact sb_eq (by rw [if_pos h1'])
 ·have h1' := h1
  try simp only [cmpB, Z] at h1
  refine J_skip ?_
  refine zC ?_
  refine zF (zG [] (.n (zA (.t rfl))<|.n (zB (.t rfl))<|.nil) ff rfl fun g4 => ⟨_, _, [], rfl, (.k 2 rfl<|.nil), (.nil), ?_⟩)
  refine zC ?_
  refine J_ret ?_
  refine zQ (.cons (.tmp (.t rfl))<|.nil) (zM (sb_res1 zL) ?_)
  exact sb_eq (by rw [if_neg (by rw [h1']; decide)])
theorem etwo_ok {a b : Nat} : Ct Tryz.prog 74 [flp a, flp b] (tupp [flp (twoS a b), flp (twoE a b)]) := by
 refine Ct.of Tryz.func74 rfl (by kernel_rfl) rfl fun c0 => ?_
 refine zF (zG [] (.n (zB (Lk.fk rfl (by decide +kernel)))<|.n (zB (Lk.fk rfl (by decide +kernel)))<|.nil) ff rfl fun g1 => ⟨_, _, [], rfl, (.k 0 rfl<|.k 1 rfl<|.nil), (.nil), ?_⟩)
 refine zC ?_
 refine zF (zG [] (.n (zA (.t rfl))<|.n (zA (.t rfl))<|.n (op_float (by simp) (.t rfl) (.t rfl) rfl)<|.n (zB (.t rfl))<|.nil) ff rfl fun g2 => ⟨_, _, [], rfl, (.k 0 rfl<|.k 1 rfl<|.k 6 rfl<|.nil), (.nil), ?_⟩)
 refine zC ?_
 refine zF (zG [] (.n (zA (.t rfl))<|.n (zA (.t rfl))<|.n (op_float (by simp) (.t rfl) (.t rfl) rfl)<|.n (zB (.t rfl))<|.nil) ff rfl fun g3 => ⟨_, _, [], rfl, (.k 0 rfl<|.k 1 rfl<|.k 6 rfl<|.k 7 rfl<|.nil), (.nil), ?_⟩)
 refine zC ?_
 refine zF (zG [] (.n (zA (.t rfl))<|.n (zA (.t rfl))<|.n (zA (.t rfl))<|.n (zA (.t rfl))<|.n (op_float (by simp) (.t rfl) (.t rfl) rfl)<|.n (op_float (by simp) (.t rfl) (.t rfl) rfl)<|.n (zA (.t rfl))<|.n (zA (.t rfl))<|.n (op_float (by simp) (.t rfl) (.t rfl) rfl)<|.n (op_float (by simp) (.t rfl) (.t rfl) rfl)<|.n (zB (.t rfl))<|.n (zB (.t rfl))<|.nil) ff rfl fun g4 => ⟨_, _, [], rfl, (.k 4 rfl<|.k 5 rfl<|.nil), (.nil), ?_⟩)
 refine zC ?_
 refine J_ret ?_
 refine zQ (.cons (.tmp (.t rfl))<|.cons (.tmp (.t rfl))<|.nil) (zM (sb_res (.cons zL<|.cons zL<|.nil)) ?_)
 exact zL
theorem equi_ok {a b : Nat} : Ct Tryz.prog 43 [flp a, flp b] (tupp [flp (twoS a b), flp (quiE a b)]) := by
 refine Ct.of Tryz.func43 rfl (by kernel_rfl) rfl fun c0 => ?_
 refine zF (zG [] (.n (zB (Lk.fk rfl (by decide +kernel)))<|.n (zB (Lk.fk rfl (by decide +kernel)))<|.nil) ff rfl fun g1 => ⟨_, _, [], rfl, (.k 0 rfl<|.k 1 rfl<|.nil), (.nil), ?_⟩)
 refine zC ?_
 refine zF (zG [] (.n (zA (.t rfl))<|.n (zA (.t rfl))<|.n (op_float (by simp) (.t rfl) (.t rfl) rfl)<|.n (zB (.t rfl))<|.nil) ff rfl fun g2 => ⟨_, _, [], rfl, (.k 0 rfl<|.k 1 rfl<|.k 6 rfl<|.nil), (.nil), ?_⟩)
 refine zC ?_
 refine zF (zG [] (.n (zA (.t rfl))<|.n (zA (.t rfl))<|.n (zA (.t rfl))<|.n (zA (.t rfl))<|.n (op_float (by simp) (.t rfl) (.t rfl) rfl)<|.n (op_float (by simp) (.t rfl) (.t rfl) rfl)<|.n (zB (.t rfl))<|.n (zB (.t rfl))<|.nil) ff rfl fun g3 => ⟨_, _, [], rfl, (.k 4 rfl<|.k 5 rfl<|.nil), (.nil), ?_⟩)
 refine zC ?_
 refine J_ret ?_
 refine zQ (.cons (.tmp (.t rfl))<|.cons (.tmp (.t rfl))<|.nil) (zM (sb_res (.cons zL<|.cons zL<|.nil)) ?_)
 exact zL
theorem see_ok {u : Value} {q0 : SP} {a b : Nat} (ha : finB a = true) (hb : finB b = true) : CtM Tryz.prog 42 [ipo u 0, flp a, flp b] (blk u [q0, isv (.bool false)] 81) (tupp [flp a, flp b]) (blk u [q0, isv (.bool false)] 81) := by
 refine CtM.of Tryz.func42 rfl (by kernel_rfl) rfl (fix_blk) fun c0 ob hr0 => ?_
 refine zF (zG [] (.n (zB (Lk.fk rfl (by decide +kernel)))<|.n (zB (Lk.fk rfl (by decide +kernel)))<|.nil) ff rfl fun g1 => ⟨_, _, [0], rfl, (.k 0 rfl<|.k 1 rfl<|.k 2 rfl<|.nil), (.k 0 rfl<|.nil), ?_⟩)
 refine zC ?_
 refine zF (zG [] (.n (zA (.t rfl))<|.n (zA (.t rfl))<|.n (op_nilo (.t rfl))<|.n (zI fd81_1 (.t rfl) rfl)<|.r 0 (zN 0 sc4 (.t rfl) rfl zJ rfl)<|.n (zA (.t rfl))<|.n (op_guard rfl rfl (gd_b rfl) (fun hC => (zA (.t rfl))))<|.n (op_guard rfl rfl (gd_b rfl) (fun hC => (zP (efin_ok) ⟨(.w rfl hC),  trivial⟩)))<|.n (op_guard rfl rfl (gd_b rfl) (fun hC => (op_not (.w rfl hC))))<|.n (op_or (.t rfl) (fun h2 => (.w rfl h2)))<|.n (zA (.t rfl))<|.n (op_guard rfl rfl (gd_b rfl) (fun hC => (zA (.t rfl))))<|.n (op_guard rfl rfl (gd_b rfl) (fun hC => (zP (efin_ok) ⟨(.w rfl hC),  trivial⟩)))<|.n (op_guard rfl rfl (gd_b rfl) (fun hC => (op_not (.w rfl hC))))<|.n (op_or (.t rfl) (fun h2 => (.w rfl h2)))<|.n (op_nilo (.t rfl))<|.n (zI fd81_1 (.t rfl) rfl)<|.w 0 (op_store_b 0 (.t rfl) (.t rfl) co_isv sz4 rfl rfl rfl)<|.nil) ff rfl fun g2 => ⟨_, _, [0], rfl, (.k 1 rfl<|.k 2 rfl<|.nil), (.k 0 rfl<|.nil), ?_⟩)
 refine zC ?_
 refine zF (zG [] (.n (zA (.t rfl))<|.n (zA (.t rfl))<|.n (zB (.t rfl))<|.n (zB (.t rfl))<|.nil) ff rfl fun g3 => ⟨_, _, [0], rfl, (.k 6 rfl<|.k 7 rfl<|.nil), (.k 0 rfl<|.nil), ?_⟩)
 refine zC ?_
 refine J_ret ?_
 refine JN_to (To.res 0 (r' := blk u [q0, isv (.bool false)] 81) rfl (res_eq (by rw [ha, hb]; rfl)) rfl) ?_
 refine JN_retM 0 hr0 (fix_blk) rfl (.cons (.tmp (.t rfl))<|.cons (.tmp (.t rfl))<|.nil) (zM (sb_res (.cons zL<|.cons zL<|.nil)) ?_)
 exact zL
theorem lay_ok {u : Value} {L : List Nat} {h : Nat} (hL : L.length ≤ 1000) : CtX Tryz.prog 44 [ipo u 0, flp h] (layR u L 81 28) (anyp) (layR u (layF L h) 81 28) := by
 refine CtX.of Tryz.func44 rfl (by kernel_rfl) rfl fun c0 ob hr0 => ?_
 refine J_ex 0 rfl fun sv => ?_
 refine J_to (To.emps 1) ?_
 refine J_to (To.split 0 1 rfl rfl rfl rfl) ?_
 refine zF (zG [] (.n (zA (.t rfl))<|.n (op_fcmp (by simp) (.t rfl) (Lk.fk rfl (by decide +kernel)) rfl)<|.nil) ff rfl fun g1 => ⟨_, _, [0, 1], rfl, (.k 0 rfl<|.k 1 rfl<|.k 5 rfl<|.nil), (.k 0 rfl<|.k 1 rfl<|.nil), ?_⟩)
 refine zC ?_
 refine zH (zK (.t rfl)) (fun h1 => ?_) (fun h1 => ?_)
 ·have h1' := h1
  try simp only [cmpB, Z] at h1
  refine (zG [] (.n (zA (.t rfl))<|.n (zA (.t rfl))<|.n (op_nilo (.t rfl))<|.n (zI fd81_0 (.t rfl) rfl)<|.r 0 (zN 0 sc24 (.t rfl) rfl zJ rfl)<|.n (zA (.t rfl))<|.n (op_buildSlice sl24 zr28 rfl rfl rfl rfl (.cons rfl (.t rfl) co_flp rfl (puts_l rfl (Nat.le_of_ble_eq_true rfl)) .nil))<|.w 1 (op_append_m 1 sl24 zr28 rfl (.t rfl) (.t rfl) rfl (by omega) (by omega))<|.n (op_nilo (.t rfl))<|.n (zI fd81_0 (.t rfl) rfl)<|.w 0 (op_store_sl 0 (.t rfl) rfl sz24 rfl rfl)<|.nil) ff rfl fun g2 => ⟨_, _, [0, 1], rfl, (.nil), (.k 0 rfl<|.k 1 rfl<|.nil), ?_⟩)
  refine JN_end ?_
  refine JN_to (To.join 0 1 rfl rfl rfl rfl) ?_
  refine JN_to (To.res 0 (r' := layR u (layF L h) 81 28) rfl (by rw [layF_1 h1']; exact lay_close) rfl) ?_
  refine JN_retX 0 rfl (.nil) (zM zL ?_)
  exact sb_any
 ·have h1' := h1
  try simp only [cmpB, Z] at h1
  refine J_skip ?_
  refine JN_end ?_
  refine JN_to (To.join 0 1 rfl rfl rfl rfl) ?_
  refine JN_to (To.res 0 (r' := layR u (layF L h) 81 28) rfl (by rw [layF_0 h1']; exact lay_close) rfl) ?_
  refine JN_retX 0 rfl (.nil) (zM zL ?_)
  exact sb_any
end Go.Proofs.YtcpififnffmjfaaGreatDoor
