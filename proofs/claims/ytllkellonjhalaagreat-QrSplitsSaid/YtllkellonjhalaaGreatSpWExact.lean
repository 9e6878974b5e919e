/- Printed by a program of ours (walk.py): walks of exact numbers. -/
import Derived.Test.YtllkellonjhalaaGreatSpKb
import Derived.Test.YtllkellonjhalaaGreatProg
import Derived.KernelRfl
import Derived.Test.YtllkellonjhalaaGreatSpTypes
import Derived.Test.YtllkellonjhalaaGreatSpWInt
set_option linter.unusedVariables false
set_option linter.unusedSimpArgs false
set_option maxRecDepth 20000
set_option maxHeartbeats 1000000
namespace Go.Proofs.YtllkellonjhalaaGreat
open Go Go.Bn
attribute [local irreducible] OpOK
theorem iseti_ok {u : Value} {q0 q1 : SP} {n : Nat} (hn : n < 9223372036854775808) : CtM Tryz.prog 97 [ipo u 0, isv (.int .i64 (n : Int))] (blk u [q0, q1] 96) (ipo u 0) (blk u (intC ((n : Int))) 96) := by
 refine CtM.of Tryz.func97 rfl (by kernel_rfl) rfl (fix_blk) fun c0 ob hr0 => ?_
 refine J_seq (J_reg [] (.cons (.no) _ _ (op_assign (Lk.k rfl)) <| .nil) ff rfl fun g1 => ⟨_, _, [0], rfl, (.cons 0 rfl <| .cons 1 rfl <| .nil), (.cons 0 rfl <| .nil), ?_⟩)
 refine JN_then ?_
 refine J_seq (J_reg [] (.cons (.no) _ _ (op_move (Lk.t rfl)) <| .cons (.no) _ _ (op_conv_int it2 it34 (Lk.t rfl) (wr64 (by omega) (by omega))) <| .cons (.no) _ _ (op_assign (Lk.t rfl)) <| .nil) ff rfl fun g2 => ⟨_, _, [0], rfl, (.cons 0 rfl <| .cons 1 rfl <| .cons 5 rfl <| .nil), (.cons 0 rfl <| .nil), ?_⟩)
 refine JN_then ?_
 refine J_seq ?_
 refine J_seq (J_reg [] (.cons (.no) _ _ (op_move (Lk.t rfl)) <| .cons (.no) _ _ (op_cmp (by simp) (Lk.t rfl) (Lk.k rfl) rfl) <| .nil) ff rfl fun g3 => ⟨_, _, [0], rfl, (.cons 0 rfl <| .cons 1 rfl <| .cons 5 rfl <| .cons 9 rfl <| .nil), (.cons 0 rfl <| .nil), ?_⟩)
 refine JN_then ?_
 refine J_cond (cond_of (Lk.t rfl)) (fun h1 => ?_) (fun h1 => ?_)
 ·have h1' := h1
  try simp only [cmpB, Za, Zb, Zc, Zd, Ze, Zf, Zg, Zh, Zi, Zj, Zk, Zl, Zm, Zn, Zo, Zp, Zq, Zr] at h1
  exact absurd h1 (by omega)
 ·have h1' := h1
  try simp only [cmpB, Za, Zb, Zc, Zd, Ze, Zf, Zg, Zh, Zi, Zj, Zk, Zl, Zm, Zn, Zo, Zp, Zq, Zr] at h1
  refine J_skip ?_
  refine JN_then ?_
  refine J_seq (J_reg [] (.cons (.no) _ _ (op_move (Lk.t rfl)) <| .cons (.no) _ _ (op_move (Lk.t rfl)) <| .cons (.no) _ _ (op_cmp (by simp) (Lk.t rfl) (Lk.k rfl) rfl) <| .cons (.no) _ _ (op_move (Lk.t rfl)) <| .cons (.no) _ _ (op_call (words_ok (n := n) (by omega)) ⟨(Lk.t rfl),  trivial⟩) <| .cons (.wr 0) _ _ (op_callM 0 (iput_ok (limbs_dig _)) ⟨(Lk.t rfl), (Lk.t rfl), (Lk.t rfl),  trivial⟩ rfl) <| .cons (.no) _ _ (op_assign (Lk.t rfl)) <| .nil) ff rfl fun g4 => ⟨_, _, [0], rfl, (.cons 4 rfl <| .nil), (.cons 0 rfl <| .nil), ?_⟩)
  refine JN_then ?_
  refine J_ret ?_
  refine JN_to (To.res 0 (r' := blk u (intC ((n : Int))) 96) rfl (res_eq (by rw [mag_nat, sgnI_nat])) rfl) ?_
  refine JN_retM 0 hr0 (fix_blk) rfl (.cons (.tmp (Lk.t rfl)) <| .nil) (sb_trans (sb_res1 sb_refl) ?_)
  exact sb_refl
theorem newint_ok {n : Nat} (hn : n < 9223372036854775808) : Ct Tryz.prog 66 [isv (.int .i64 (n : Int))] (intP (n : Int)) := by
 refine Ct.of Tryz.func66 rfl (by kernel_rfl) rfl fun c0 => ?_
 refine J_seq (J_reg [] (.cons (.no) _ _ (op_assign (Lk.k rfl)) <| .nil) ff rfl fun g1 => ⟨_, _, [], rfl, (.cons 0 rfl <| .nil), (.nil), ?_⟩)
 refine JN_then ?_
 refine J_to (To.emps 1) ?_
 refine J_seq (J_reg [] (.cons (.no) _ _ (op_build zr96 rfl pl96 .nil) <| .cons (.wr 0) _ _ (op_box 0 (Lk.t rfl) co_agg rfl) <| .cons (.no) _ _ (op_assign_ve rfl rfl) <| .nil) ff rfl fun g2 => ⟨_, _, [0], rfl, (.cons 0 rfl <| .cons 3 rfl <| .nil), (.cons 0 rfl <| .nil), ?_⟩)
 refine JN_then ?_
 refine J_seq (J_reg [] (.cons (.no) _ _ (op_move (Lk.t rfl)) <| .cons (.no) _ _ (op_move (Lk.t rfl)) <| .cons (.wr 0) _ _ (op_callM 0 (iseti_ok hn) ⟨(Lk.t rfl), (Lk.t rfl),  trivial⟩ rfl) <| .cons (.no) _ _ (op_assign (Lk.t rfl)) <| .nil) ff rfl fun g3 => ⟨_, _, [0], rfl, (.cons 2 rfl <| .nil), (.cons 0 rfl <| .nil), ?_⟩)
 refine JN_then ?_
 refine J_ret ?_
 refine JN_to (To.freeze 0 (fun _ h => h) rfl frz_blk rfl) ?_
 refine JN_ret (.cons (.tmp (Lk.t rfl)) <| .nil) (sb_trans (sb_res1 (sb_ok 0 2 rfl rfl)) ?_)
 exact sb_refl
end Go.Proofs.YtllkellonjhalaaGreat
