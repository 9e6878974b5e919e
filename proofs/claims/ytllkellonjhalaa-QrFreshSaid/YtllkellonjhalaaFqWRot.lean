/- Printed by a program of ours (walk.py): walks of the first examples, of rotations, and of QrRotates. -/
import Derived.Test.YtllkellonjhalaaFqKb
import Derived.Test.YtllkellonjhalaaProg
import Derived.KernelRfl
import Derived.Test.YtllkellonjhalaaFqTypes
import Derived.Test.YtllkellonjhalaaFqWAwk
set_option linter.unusedVariables false
set_option linter.unusedSimpArgs false
set_option maxRecDepth 20000
set_option maxHeartbeats 1000000
namespace Go.Proofs.Ytllkellonjhalaa
open Go Go.Bn
attribute [local irreducible] OpOK
theorem qt_ok {r c : Int} {xs : List Nat} : Ct Try.prog 28 [MatP r c xs] (resM (toldR r c xs)) := by
 refine Ct.of Try.func28 rfl (by kernel_rfl) rfl fun c0 => ?_
 refine J_to (To.emps 2) ?_
 refine J_seq (J_reg [] (.cons (.wr 0) _ _ (op_box 0 (Lk.t rfl) co_agg rfl) <| .cons (.wr 1) _ _ (op_alloc 1 zr29 rfl rfl) <| .cons (.no) _ _ (op_assign (Lk.k rfl)) <| .nil) ff rfl fun g1 => ⟨_, _, [0, 1], rfl, (.cons 1 rfl <| .cons 2 rfl <| .nil), (.cons 0 rfl <| .cons 1 rfl <| .nil), ?_⟩)
 refine JN_then ?_
 refine J_seq ?_
 refine J_seq (J_reg [] (.cons (.no) _ _ (op_field_own fd29_2 (Lk.t rfl) rfl) <| .cons (.rd 0) _ _ (op_get_sc 0 sc27 (Lk.t rfl) rfl mem_blk rfl) <| .cons (.no) _ _ (op_call (finite_ok) ⟨(Lk.t rfl),  trivial⟩) <| .cons (.no) _ _ (op_not (Lk.t rfl)) <| .nil) ff rfl fun g2 => ⟨_, _, [0, 1], rfl, (.cons 1 rfl <| .cons 2 rfl <| .cons 7 rfl <| .nil), (.cons 0 rfl <| .cons 1 rfl <| .nil), ?_⟩)
 refine JN_then ?_
 refine J_cond (cond_of (Lk.t rfl)) (fun h1 => ?_) (fun h1 => ?_)
 ·have h1' := h1
  try simp only [cmpB, Za, Zb, Zc, Zd, Ze, Zf, Zg, Zh, Zi, Zj, Zk, Zl, Zm, Zn, Zo, Zp, Zq, Zr] at h1
  refine J_seq (J_reg [] (.cons (.no) _ _ (op_build zr29 rfl pl29 .nil) <| .cons (.wr 1) _ _ (op_store_b 1 (Lk.t rfl) (Lk.t rfl) co_agg sz29 rfl rfl rfl) <| .cons (.no) _ _ (op_assign (Lk.k rfl)) <| .nil) ff rfl fun g3 => ⟨_, _, [1], rfl, (.cons 2 rfl <| .cons 3 rfl <| .nil), (.cons 1 rfl <| .nil), ?_⟩)
  refine JN_then ?_
  refine J_ret ?_
  refine JN_then_ret ?_
  refine JN_ret (.cons (.ag 0 (Lk.t rfl) ag29 rfl rfl rfl) <| .cons (.tmp (Lk.t rfl)) <| .nil) (sb_trans (sb_res (.cons (sb_agg (.cons sb_refl <| .cons sb_refl <| .cons (sb_nil (mk := flp)) <| .nil)) <| .cons sb_refl <| .nil)) ?_)
  exact ret_M (by unfold toldR; rw [if_pos h1]; rfl)
 ·have h1' := h1
  try simp only [cmpB, Za, Zb, Zc, Zd, Ze, Zf, Zg, Zh, Zi, Zj, Zk, Zl, Zm, Zn, Zo, Zp, Zq, Zr] at h1
  refine J_skip ?_
  refine JN_then ?_
  refine J_seq (J_reg [] (.cons (.rd 0) _ _ (op_get_ag 0 ag29 (Lk.t rfl) rfl mem_blk rfl rfl) <| .cons (.wr 1) _ _ (op_store_b 1 (Lk.t rfl) (Lk.t rfl) co_agg sz29 rfl rfl rfl) <| .cons (.no) _ _ (op_assign (Lk.k rfl)) <| .nil) ff rfl fun g4 => ⟨_, _, [1], rfl, (.cons 2 rfl <| .cons 3 rfl <| .nil), (.cons 1 rfl <| .nil), ?_⟩)
  refine JN_then ?_
  refine J_ret ?_
  refine JN_ret (.cons (.ag 0 (Lk.t rfl) ag29 rfl rfl rfl) <| .cons (.tmp (Lk.t rfl)) <| .nil) (sb_trans (sb_res (.cons sb_refl <| .cons sb_refl <| .nil)) ?_)
  exact ret_M (by unfold toldR; rw [if_neg (by simp [h1])])
theorem copF_ok {r c : Int} {xs : List Nat} (h9 : xs.length ≤ 1000) : CtF Try.prog 27 [MatP r c xs] (agN 2) (fun u => aggp [isv (.int .i64 r), isv (.int .i64 c), isv u]) (fun u => som u flp xs 35) := by
 refine CtF.of Try.func27 rfl (by kernel_rfl) rfl fun c0 => ?_
 refine J_to (To.emps 2) ?_
 refine J_seq (J_reg [] (.cons (.wr 0) _ _ (op_box 0 (Lk.t rfl) co_agg rfl) <| .cons (.wr 1) _ _ (op_alloc 1 zr29 rfl rfl) <| .nil) ff rfl fun g1 => ⟨_, _, [0, 1], rfl, (.cons 1 rfl <| .cons 2 rfl <| .nil), (.cons 0 rfl <| .cons 1 rfl <| .nil), ?_⟩)
 refine JN_then ?_
 refine J_to (To.emps 1) ?_
 refine J_to (To.res 2 (r' := som (.slice none 0 0) flp [] 35) rfl som_nil rfl) ?_
 refine J_seq (J_reg [[], [0], [], [2], [], [4], [4, 5], [0, 1, 2, 3, 4, 5, 6], [0, 1, 2, 3, 4, 5, 6, 7]] (.cons (.no) _ _ (op_field_own fd29_0 (Lk.t rfl) rfl) <| .cons (.rd 0) _ _ (op_get_sc 0 sc3 (Lk.t rfl) rfl mem_blk rfl) <| .cons (.no) _ _ (op_field_own fd29_1 (Lk.t rfl) rfl) <| .cons (.rd 0) _ _ (op_get_sc 0 sc3 (Lk.t rfl) rfl mem_blk rfl) <| .cons (.no) _ _ (op_field_own fd29_2 (Lk.t rfl) rfl) <| .cons (.rd 0) _ _ (op_get_sc 0 sc27 (Lk.t rfl) rfl mem_blk rfl) <| .cons (.wr 2) _ _ (op_append_ms 2 sl27 zr35 rfl (Lk.k rfl) (Lk.t rfl) rfl (by rw [List.length_nil]; omega) (by rw [List.length_nil]; omega)) <| .cons (.no) _ _ (op_ve 9 10 rfl rfl rfl (fun f => (op_build zr29 rfl pl29 (.cons rfl (Lk.t rfl) co_isv rfl (puts_l rfl (Nat.le_of_ble_eq_true rfl)) (.cons rfl (Lk.t rfl) co_isv rfl (puts_l rfl (Nat.le_of_ble_eq_true rfl)) (.cons rfl (Lk.t rfl) co_isv rfl (puts_l rfl (Nat.le_of_ble_eq_true rfl)) .nil))))) (fun f g h => by rw [h 9 (show 9 ∈ [9] from by decide)]) rfl) <| .cons (.wr 1) _ _ (op_ver 10 rfl rfl (fun f => op_store_b 1 (Lk.t rfl) (Lk.t rfl) co_agg sz29 rfl rfl rfl) (fun f g h => by rw [h 9 (show 9 ∈ [9] from by decide)]) rfl) <| .nil) (fun _ => mixed) rfl fun g2 => ⟨_, _, [1, 2], rfl, (.cons 2 rfl <| .nil), (.cons 1 rfl <| .cons 2 rfl <| .nil), ?_⟩)
 refine JN_then ?_
 refine J_ret ?_
 refine JN_retF (u := (g2 9)) 1 rfl rfl (.ag 0 (Lk.t rfl) ag29 rfl rfl rfl) (agN_of rfl) ?_
 exact sb_refl
end Go.Proofs.Ytllkellonjhalaa
