/- Printed by a program of ours (walk.py): walk of QrSplits. -/
import Derived.Test.YtllkellonjhalaaGreatSpKb
import Derived.Test.YtllkellonjhalaaGreatProg
import Derived.KernelRfl
import Derived.Test.YtllkellonjhalaaGreatSpTypes
import Derived.Test.YtllkellonjhalaaGreatSpWLeast
set_option linter.unusedVariables false
set_option linter.unusedSimpArgs false
set_option maxRecDepth 20000
set_option maxHeartbeats 1000000
namespace Go.Proofs.YtllkellonjhalaaGreat
open Go Go.Bn
attribute [local irreducible] OpOK
theorem splits_ok {r c : Int} {bs ws : List Nat} (hb : GoodU bs) (hw : GoodU ws) : Ct Tryz.prog 5 [MatU r c bs, wsl ws] (isv (.bool true)) := by
 refine Ct.of Tryz.func5 rfl (by kernel_rfl) rfl fun c0 => ?_
 have hlt := ltL_cn2 hb.1
 refine J_to (To.emps 1) ?_
 refine J_seq (J_reg [] (.cons (.wr 0) _ _ (op_box 0 (Lk.t rfl) co_agg rfl) <| .cons (.no) _ _ (op_assign (Lk.k rfl)) <| .nil) ff rfl fun g1 => ⟨_, _, [0], rfl, (.cons 1 rfl <| .cons 2 rfl <| .nil), (.cons 0 rfl <| .nil), ?_⟩)
 refine JN_then ?_
 refine J_to (To.emps 2) ?_
 refine J_seq (J_reg [] (.cons (.rd 0) _ _ (op_get_ag 0 ag50 (Lk.t rfl) rfl mem_blk rfl rfl) <| .cons (.no) _ _ (op_call (qof_ok hb) ⟨(Lk.t rfl),  trivial⟩) <| .cons (.no) _ _ (op_call (qr_ok hlt) ⟨(Lk.t rfl),  trivial⟩) <| .cons (.no) _ _ (op_move (Lk.t rfl)) <| .cons (.no) _ _ (op_extract (Lk.t rfl) rfl) <| .cons (.no) _ _ (op_extract (Lk.t rfl) rfl) <| .cons (.no) _ _ (op_extract (Lk.t rfl) rfl) <| .cons (.wr 1) _ _ (op_alloc 1 zr28 rfl rfl) <| .cons (.wr 2) _ _ (op_alloc 2 zr28 rfl rfl) <| .cons (.wr 1) _ _ (op_store_new 1 rfl (Lk.t rfl) co_agg sz28 rfl rfl) <| .cons (.wr 2) _ _ (op_store_new 2 rfl (Lk.t rfl) co_agg sz28 rfl rfl) <| .cons (.no) _ _ (op_assign (Lk.t rfl)) <| .nil) ff rfl fun g2 => ⟨_, _, [0, 1, 2], rfl, (.cons 1 rfl <| .cons 2 rfl <| .cons 5 rfl <| .cons 6 rfl <| .cons 7 rfl <| .nil), (.cons 0 rfl <| .cons 1 rfl <| .cons 2 rfl <| .nil), ?_⟩)
 refine JN_then ?_
 refine J_to (To.emps 2) ?_
 refine J_seq (J_reg [] (.cons (.rd 0) _ _ (op_get_ag 0 ag50 (Lk.t rfl) rfl mem_blk rfl rfl) <| .cons (.no) _ _ (op_call (qof_ok hb) ⟨(Lk.t rfl),  trivial⟩) <| .cons (.no) _ _ (op_call (rqrq_ok hlt) ⟨(Lk.t rfl),  trivial⟩) <| .cons (.no) _ _ (op_move (Lk.t rfl)) <| .cons (.no) _ _ (op_extract (Lk.t rfl) rfl) <| .cons (.no) _ _ (op_extract (Lk.t rfl) rfl) <| .cons (.no) _ _ (op_extract (Lk.t rfl) rfl) <| .cons (.wr 3) _ _ (op_alloc 3 zr28 rfl rfl) <| .cons (.wr 4) _ _ (op_alloc 4 zr28 rfl rfl) <| .cons (.wr 3) _ _ (op_store_new 3 rfl (Lk.t rfl) co_agg sz28 rfl rfl) <| .cons (.wr 4) _ _ (op_store_new 4 rfl (Lk.t rfl) co_agg sz28 rfl rfl) <| .cons (.no) _ _ (op_assign (Lk.t rfl)) <| .nil) ff rfl fun g3 => ⟨_, _, [0, 1, 2, 3, 4], rfl, (.cons 1 rfl <| .cons 2 rfl <| .cons 5 rfl <| .cons 6 rfl <| .cons 7 rfl <| .cons 8 rfl <| .cons 9 rfl <| .cons 10 rfl <| .nil), (.cons 0 rfl <| .cons 1 rfl <| .cons 2 rfl <| .cons 3 rfl <| .cons 4 rfl <| .nil), ?_⟩)
 refine JN_then ?_
 refine J_seq ?_
 refine J_seq (J_reg [] (.cons (.rd 1) _ _ (op_get_ag 1 ag28 (Lk.t rfl) rfl mem_blk rfl rfl) <| .cons (.rd 3) _ _ (op_get_ag 3 ag28 (Lk.t rfl) rfl mem_blk rfl rfl) <| .cons (.no) _ _ (op_call (qtold_ok) ⟨(Lk.t rfl), (Lk.t rfl),  trivial⟩) <| .cons (.no) _ _ (op_not (Lk.t rfl)) <| .cons (.no) _ _ (op_move (Lk.t rfl)) <| .cons (.rd 2) _ _ (op_guard rfl rfl (gd_b rfl) (fun hC => (op_get_ag 2 ag28 (Lk.t rfl) rfl mem_blk rfl rfl))) <| .cons (.rd 4) _ _ (op_guard rfl rfl (gd_b rfl) (fun hC => (op_get_ag 4 ag28 (Lk.t rfl) rfl mem_blk rfl rfl))) <| .cons (.no) _ _ (op_guard rfl rfl (gd_b rfl) (fun hC => (op_call (qtold_ok) ⟨(Lk.w rfl hC), (Lk.w rfl hC),  trivial⟩))) <| .cons (.no) _ _ (op_guard rfl rfl (gd_b rfl) (fun hC => (op_not (Lk.w rfl hC)))) <| .cons (.no) _ _ (op_or (Lk.t rfl) (fun h2 => (Lk.w rfl h2))) <| .cons (.no) _ _ (op_move (Lk.t rfl)) <| .cons (.no) _ _ (op_guard rfl rfl (gd_b rfl) (fun hC => (op_move (Lk.t rfl)))) <| .cons (.no) _ _ (op_guard rfl rfl (gd_b rfl) (fun hC => (op_move (Lk.t rfl)))) <| .cons (.no) _ _ (op_guard rfl rfl (gd_b rfl) (fun hC => (op_cmp (by simp) (Lk.w rfl hC) (Lk.w rfl hC) rfl))) <| .cons (.no) _ _ (op_or (Lk.t rfl) (fun h2 => (Lk.w rfl h2))) <| .cons (.no) _ _ (op_move (Lk.t rfl)) <| .cons (.no) _ _ (op_guard rfl rfl (gd_b rfl) (fun hC => (op_call (awake_ok) trivial))) <| .cons (.no) _ _ (op_guard rfl rfl (gd_b rfl) (fun hC => (op_not (Lk.w rfl hC)))) <| .cons (.no) _ _ (op_or (Lk.t rfl) (fun h2 => (Lk.w rfl h2))) <| .nil) ff rfl fun g4 => ⟨_, _, [0], rfl, (.cons 1 rfl <| .cons 2 rfl <| .cons 45 rfl <| .nil), (.cons 0 rfl <| .nil), ?_⟩)
 refine JN_then ?_
 refine J_cond (cond_of (Lk.t rfl)) (fun h1 => ?_) (fun h1 => ?_)
 ·have h1' := h1
  try simp only [cmpB, Za, Zb, Zc, Zd, Ze, Zf, Zg, Zh, Zi, Zj, Zk, Zl, Zm, Zn, Zo, Zp, Zq, Zr] at h1
  exact absurd h1 (by simp [cmpB])
 ·have h1' := h1
  try simp only [cmpB, Za, Zb, Zc, Zd, Ze, Zf, Zg, Zh, Zi, Zj, Zk, Zl, Zm, Zn, Zo, Zp, Zq, Zr] at h1
  refine J_skip ?_
  refine JN_then ?_
  refine J_seq (J_reg [] (.cons (.rd 0) _ _ (op_get_ag 0 ag50 (Lk.t rfl) rfl mem_blk rfl rfl) <| .cons (.no) _ _ (op_call (qof_ok hb) ⟨(Lk.t rfl),  trivial⟩) <| .cons (.no) _ _ (op_move (Lk.t rfl)) <| .cons (.no) _ _ (op_call (ql_ok hw) ⟨(Lk.t rfl),  trivial⟩) <| .cons (.no) _ _ (op_call (least_ok hlt) ⟨(Lk.t rfl), (Lk.t rfl),  trivial⟩) <| .cons (.no) _ _ (op_move (Lk.t rfl)) <| .cons (.no) _ _ (op_extract (Lk.t rfl) rfl) <| .cons (.no) _ _ (op_extract (Lk.t rfl) rfl) <| .cons (.no) _ _ (op_assign (Lk.t rfl)) <| .cons (.no) _ _ (op_assign (Lk.t rfl)) <| .nil) ff rfl fun g5 => ⟨_, _, [0], rfl, (.cons 1 rfl <| .cons 2 rfl <| .cons 7 rfl <| .cons 11 rfl <| .nil), (.cons 0 rfl <| .nil), ?_⟩)
  refine JN_then ?_
  refine J_seq (J_reg [] (.cons (.rd 0) _ _ (op_get_ag 0 ag50 (Lk.t rfl) rfl mem_blk rfl rfl) <| .cons (.no) _ _ (op_call (qof_ok hb) ⟨(Lk.t rfl),  trivial⟩) <| .cons (.no) _ _ (op_move (Lk.t rfl)) <| .cons (.no) _ _ (op_call (ql_ok hw) ⟨(Lk.t rfl),  trivial⟩) <| .cons (.no) _ _ (op_call (rleast_ok hlt) ⟨(Lk.t rfl), (Lk.t rfl),  trivial⟩) <| .cons (.no) _ _ (op_move (Lk.t rfl)) <| .cons (.no) _ _ (op_extract (Lk.t rfl) rfl) <| .cons (.no) _ _ (op_extract (Lk.t rfl) rfl) <| .cons (.no) _ _ (op_assign (Lk.t rfl)) <| .cons (.no) _ _ (op_assign (Lk.t rfl)) <| .nil) ff rfl fun g6 => ⟨_, _, [], rfl, (.cons 7 rfl <| .cons 10 rfl <| .cons 11 rfl <| .cons 12 rfl <| .nil), (.nil), ?_⟩)
  refine JN_then ?_
  refine J_seq (J_reg [] (.cons (.no) _ _ (op_move (Lk.t rfl)) <| .cons (.no) _ _ (op_move (Lk.t rfl)) <| .cons (.no) _ _ (op_call (slist_ok) ⟨(Lk.t rfl), (Lk.t rfl),  trivial⟩) <| .cons (.no) _ _ (op_move (Lk.t rfl)) <| .cons (.no) _ _ (op_guard rfl rfl (gd_b rfl) (fun hC => (op_move (Lk.t rfl)))) <| .cons (.no) _ _ (op_guard rfl rfl (gd_b rfl) (fun hC => (op_move (Lk.t rfl)))) <| .cons (.no) _ _ (op_guard rfl rfl (gd_b rfl) (fun hC => (op_cmp (by simp) (Lk.w rfl hC) (Lk.w rfl hC) rfl))) <| .cons (.no) _ _ (op_and (Lk.t rfl) (fun h2 => (Lk.w rfl h2))) <| .cons (.no) _ _ (op_assign (Lk.t rfl)) <| .nil) ff rfl fun g7 => ⟨_, _, [], rfl, (.cons 4 rfl <| .nil), (.nil), ?_⟩)
  refine JN_then ?_
  refine J_ret ?_
  refine JN_ret (.cons (.tmp (Lk.t rfl)) <| .nil) (sb_trans (sb_res1 sb_refl) ?_)
  exact ret_b (by simp [cmpB])
end Go.Proofs.YtllkellonjhalaaGreat
