/- Printed by a program of ours (walk.py): walks of layer 10: what is answered is new memory. -/
import Derived.Test.YtllkellonjhalaaFqKb
import Derived.Test.YtllkellonjhalaaProg
import Derived.KernelRfl
import Derived.Test.YtllkellonjhalaaFqTypes
import Derived.Test.YtllkellonjhalaaFqWQr2
import Derived.Test.YtllkellonjhalaaFqQrd
import Derived.Test.YtllkellonjhalaaFqLst
import Derived.Test.YtllkellonjhalaaFqWRot
import Derived.Test.YtllkellonjhalaaFqNew
set_option linter.unusedVariables false
set_option linter.unusedSimpArgs false
set_option maxRecDepth 20000
set_option maxHeartbeats 1000000
namespace Go.Proofs.Ytllkellonjhalaa
open Go Go.Bn
attribute [local irreducible] OpOK
theorem HouseN_ok {xs : List Nat} (hx : xs.all (fun x => decide (x < 2 ^ 64)) = true) : CtN Try.prog 14 [fls xs] (tupp [fls (houseR xs).v, flp (houseR xs).w, flp (houseR xs).alpha, isv (.int .i64 (houseR xs).e)]) := by
 refine CtN.of Try.func14 rfl (by kernel_rfl) rfl fun c0 => ?_
 refine J_to To.size ?_
 refine J_seq (J_reg [] (.cons (.no) _ _ (op_assign (Lk.k rfl)) <| .cons (.no) _ _ (op_assign (Lk.fk rfl (by decide +kernel))) <| .cons (.no) _ _ (op_assign (Lk.fk rfl (by decide +kernel))) <| .cons (.no) _ _ (op_assign (Lk.k rfl)) <| .nil) ff rfl fun g1 => ⟨_, _, [], rfl, (.cons 0 rfl <| .cons 2 rfl <| .cons 3 rfl <| .cons 4 rfl <| .nil), (.nil), ?_⟩)
 refine JN_then ?_
 refine J_seq ?_
 refine J_seq (J_reg [] (.cons (.no) _ _ (op_move (Lk.t rfl)) <| .cons (.no) _ _ (op_call (qlist_ok) ⟨(Lk.t rfl),  trivial⟩) <| .cons (.no) _ _ (op_assign (Lk.t rfl)) <| .nil) ff rfl fun g2 => ⟨_, _, [], rfl, (.cons 0 rfl <| .cons 2 rfl <| .cons 3 rfl <| .cons 4 rfl <| .cons 5 rfl <| .nil), (.nil), ?_⟩)
 refine JN_then ?_
 refine J_seq (J_reg [] (.cons (.no) _ _ (op_move (Lk.t rfl)) <| .cons (.no) _ _ (op_cmp (by simp) (Lk.t rfl) (Lk.k rfl) rfl) <| .nil) ff rfl fun g3 => ⟨_, _, [], rfl, (.cons 0 rfl <| .cons 2 rfl <| .cons 3 rfl <| .cons 4 rfl <| .cons 5 rfl <| .cons 10 rfl <| .nil), (.nil), ?_⟩)
 refine JN_then ?_
 refine J_cond (cond_of (Lk.t rfl)) (fun h1 => ?_) (fun h1 => ?_)
 ·have h1' := h1
  try simp only [cmpB, Za, Zb, Zc, Zd, Ze, Zf, Zg, Zh, Zi, Zj, Zk, Zl, Zm, Zn, Zo, Zp, Zq, Zr] at h1
  refine J_ret ?_
  refine JN_then_ret ?_
  refine JN_ret (.cons (.tmp (Lk.t rfl)) <| .cons (.tmp (Lk.t rfl)) <| .cons (.tmp (Lk.t rfl)) <| .cons (.tmp (Lk.t rfl)) <| .nil) (sb_trans (sb_res (.cons (sb_nilN (mk := flp)) <| .cons sb_refl <| .cons sb_refl <| .cons sb_refl <| .nil)) (sb_trans push_H (sb_newp ?_)))
  exact sb_eq (by rw [hou_1 h1])
 ·have h1' := h1
  try simp only [cmpB, Za, Zb, Zc, Zd, Ze, Zf, Zg, Zh, Zi, Zj, Zk, Zl, Zm, Zn, Zo, Zp, Zq, Zr] at h1
  obtain ⟨h9, hfa⟩ := lchkW_zero h1
  have hF := finL_all hfa hx
  refine J_skip ?_
  refine JN_then ?_
  refine J_to (To.emps 2) ?_
  refine J_seq (J_reg [] (.cons (.no) _ _ (op_move (Lk.t rfl)) <| .cons (.wr 0) _ _ (op_callF 0 (houseF_ok (by assumption) (by omega)) ⟨(Lk.t rfl),  trivial⟩ rfl) <| .cons (.wr 1) _ _ (op_alloc 1 zr59 rfl rfl) <| .cons (.wr 1) _ _ (op_store_new_ve 1 rfl rfl rfl (fun f => co_agg) (fun f g h => by rw [h 12 (show 12 ∈ [12] from by decide)]) (fun _ => sz59) rfl (fun _ => rfl) rfl) <| .nil) ff rfl fun g4 => ⟨_, _, [0, 1], rfl, (.cons 6 rfl <| .nil), (.cons 0 rfl <| .cons 1 rfl <| .nil), ?_⟩)
  refine JN_then ?_
  refine J_seq ?_
  refine J_seq (J_reg [] (.cons (.no) _ _ (op_field_own fd59_2 (Lk.t rfl) rfl) <| .cons (.rd 1) _ _ (op_get_sc 1 sc35 (Lk.t rfl) rfl mem_blk rfl) <| .cons (.no) _ _ (op_call (qfin_ok) ⟨(Lk.t rfl),  trivial⟩) <| .cons (.no) _ _ (op_not (Lk.t rfl)) <| .nil) ff rfl fun g5 => ⟨_, _, [0, 1], rfl, (.cons 6 rfl <| .cons 16 rfl <| .nil), (.cons 0 rfl <| .cons 1 rfl <| .nil), ?_⟩)
  refine JN_then ?_
  refine J_cond (cond_of (Lk.t rfl)) (fun h2 => ?_) (fun h2 => ?_)
  ·have h2' := h2
   try simp only [cmpB, Za, Zb, Zc, Zd, Ze, Zf, Zg, Zh, Zi, Zj, Zk, Zl, Zm, Zn, Zo, Zp, Zq, Zr] at h2
   refine J_seq (J_reg [] (.cons (.no) _ _ (op_assign (Lk.k rfl)) <| .cons (.no) _ _ (op_assign (Lk.fk rfl (by decide +kernel))) <| .cons (.no) _ _ (op_assign (Lk.fk rfl (by decide +kernel))) <| .cons (.no) _ _ (op_assign (Lk.k rfl)) <| .nil) ff rfl fun g6 => ⟨_, _, [], rfl, (.cons 2 rfl <| .cons 3 rfl <| .cons 4 rfl <| .cons 5 rfl <| .nil), (.nil), ?_⟩)
   refine JN_then ?_
   refine J_ret ?_
   refine JN_then_ret ?_
   refine JN_ret (.cons (.tmp (Lk.t rfl)) <| .cons (.tmp (Lk.t rfl)) <| .cons (.tmp (Lk.t rfl)) <| .cons (.tmp (Lk.t rfl)) <| .nil) (sb_trans (sb_res (.cons (sb_nilN (mk := flp)) <| .cons sb_refl <| .cons sb_refl <| .cons sb_refl <| .nil)) (sb_trans push_H (sb_newp ?_)))
   exact sb_eq (by rw [hou_2 h1 (by simpa using h2)])
  ·have h2' := h2
   try simp only [cmpB, Za, Zb, Zc, Zd, Ze, Zf, Zg, Zh, Zi, Zj, Zk, Zl, Zm, Zn, Zo, Zp, Zq, Zr] at h2
   refine J_skip ?_
   refine JN_then ?_
   refine J_seq (J_reg [[], [0], [], [2], [], [4], [0, 1], [0, 1, 2, 3, 6], [0, 1, 2, 3, 4, 5, 6, 7], [0, 1, 2, 3, 4, 5, 6, 7, 8]] (.cons (.no) _ _ (op_field_own fd59_0 (Lk.t rfl) rfl) <| .cons (.rd 1) _ _ (op_get_sc 1 sc27 (Lk.t rfl) rfl mem_blk rfl) <| .cons (.no) _ _ (op_field_own fd59_1 (Lk.t rfl) rfl) <| .cons (.rd 1) _ _ (op_get_sc 1 sc35 (Lk.t rfl) rfl mem_blk rfl) <| .cons (.no) _ _ (op_field_own fd59_2 (Lk.t rfl) rfl) <| .cons (.rd 1) _ _ (op_get_sc 1 sc35 (Lk.t rfl) rfl mem_blk rfl) <| .cons (.no) _ _ (op_assign (Lk.t rfl)) <| .cons (.no) _ _ (op_assign (Lk.t rfl)) <| .cons (.no) _ _ (op_assign (Lk.t rfl)) <| .cons (.no) _ _ (op_assign (Lk.k rfl)) <| .nil) (fun _ => mixed) rfl fun g7 => ⟨_, _, [0], rfl, (.cons 2 rfl <| .cons 3 rfl <| .cons 4 rfl <| .cons 5 rfl <| .nil), (.cons 0 rfl <| .nil), ?_⟩)
   refine JN_then ?_
   refine J_ret ?_
   refine JN_to (To.freezeN 0 (fun _ h => h) rfl frz_som (pure_som pure_flp).n rfl) ?_
   refine JN_ret (.cons (.tmp (Lk.t rfl)) <| .cons (.tmp (Lk.t rfl)) <| .cons (.tmp (Lk.t rfl)) <| .cons (.tmp (Lk.t rfl)) <| .nil) (sb_trans (sb_res (.cons (sb_fk 0 rfl) <| .cons sb_refl <| .cons sb_refl <| .cons sb_refl <| .nil)) (sb_trans push_H (sb_newp ?_)))
   exact sb_eq (by rw [hou_3 h1 (by simpa using h2)])
theorem rotateN_ok {r c i k : Int} {xs : List Nat} {cc ss : Nat} (hcc : cc < 2 ^ 64) (hss : ss < 2 ^ 64) : CtN Try.prog 15 [MatP r c xs, isv (.int .i64 i), isv (.int .i64 k), flp cc, flp ss] (resM (rotR r c xs i k cc ss)) := by
 refine CtN.of Try.func15 rfl (by kernel_rfl) rfl fun c0 => ?_
 refine J_to To.size ?_
 refine J_to (To.emps 2) ?_
 refine J_seq (J_reg [] (.cons (.wr 0) _ _ (op_box 0 (Lk.t rfl) co_agg rfl) <| .cons (.wr 1) _ _ (op_alloc 1 zr29 rfl rfl) <| .cons (.no) _ _ (op_assign (Lk.k rfl)) <| .nil) ff rfl fun g1 => ⟨_, _, [0, 1], rfl, (.cons 1 rfl <| .cons 2 rfl <| .cons 3 rfl <| .cons 4 rfl <| .cons 5 rfl <| .cons 10 rfl <| .nil), (.cons 0 rfl <| .cons 1 rfl <| .nil), ?_⟩)
 refine JN_then ?_
 refine J_seq ?_
 refine J_seq (J_reg [] (.cons (.rd 0) _ _ (op_get_ag 0 ag29 (Lk.t rfl) rfl mem_blk rfl rfl) <| .cons (.no) _ _ (op_call (chk_ok) ⟨(Lk.t rfl),  trivial⟩) <| .cons (.no) _ _ (op_assign (Lk.t rfl)) <| .nil) ff rfl fun g2 => ⟨_, _, [0, 1], rfl, (.cons 1 rfl <| .cons 2 rfl <| .cons 3 rfl <| .cons 4 rfl <| .cons 5 rfl <| .cons 10 rfl <| .cons 12 rfl <| .nil), (.cons 0 rfl <| .cons 1 rfl <| .nil), ?_⟩)
 refine JN_then ?_
 refine J_seq (J_reg [] (.cons (.no) _ _ (op_move (Lk.t rfl)) <| .cons (.no) _ _ (op_cmp (by simp) (Lk.t rfl) (Lk.k rfl) rfl) <| .nil) ff rfl fun g3 => ⟨_, _, [0, 1], rfl, (.cons 1 rfl <| .cons 2 rfl <| .cons 3 rfl <| .cons 4 rfl <| .cons 5 rfl <| .cons 10 rfl <| .cons 12 rfl <| .cons 20 rfl <| .nil), (.cons 0 rfl <| .cons 1 rfl <| .nil), ?_⟩)
 refine JN_then ?_
 refine J_cond (cond_of (Lk.t rfl)) (fun h1 => ?_) (fun h1 => ?_)
 ·have h1' := h1
  try simp only [cmpB, Za, Zb, Zc, Zd, Ze, Zf, Zg, Zh, Zi, Zj, Zk, Zl, Zm, Zn, Zo, Zp, Zq, Zr] at h1
  refine J_seq (J_reg [] (.cons (.no) _ _ (op_build zr29 rfl pl29 .nil) <| .cons (.no) _ _ (op_move (Lk.t rfl)) <| .cons (.wr 1) _ _ (op_store_b 1 (Lk.t rfl) (Lk.t rfl) co_agg sz29 rfl rfl rfl) <| .cons (.no) _ _ (op_assign (Lk.t rfl)) <| .nil) ff rfl fun g4 => ⟨_, _, [1], rfl, (.cons 10 rfl <| .cons 11 rfl <| .nil), (.cons 1 rfl <| .nil), ?_⟩)
  refine JN_then ?_
  refine J_ret ?_
  refine JN_then_ret ?_
  refine JN_ret (.cons (.ag 0 (Lk.t rfl) ag29 rfl rfl rfl) <| .cons (.tmp (Lk.t rfl)) <| .nil) (sb_trans (sb_res (.cons (sb_agg (.cons sb_refl <| .cons sb_refl <| .cons (sb_nilN (mk := flp)) <| .nil)) <| .cons sb_refl <| .nil)) (sb_trans push_M (sb_newp ?_)))
  exact ret_M (rot_1 h1)
 ·have h1' := h1
  try simp only [cmpB, Za, Zb, Zc, Zd, Ze, Zf, Zg, Zh, Zi, Zj, Zk, Zl, Zm, Zn, Zo, Zp, Zq, Zr] at h1
  have hg := chk_good h1
  have hml := hg.1.mul
  have hl := hg.2
  obtain ⟨hs1, hs2, hs3, hs4⟩ := hg.1
  refine J_skip ?_
  refine JN_then ?_
  refine J_seq ?_
  refine J_block ?_
  refine J_seq (J_reg [] (.cons (.no) _ _ (op_move (Lk.t rfl)) <| .cons (.no) _ _ (op_cmp (by simp) (Lk.t rfl) (Lk.k rfl) rfl) <| .cons (.no) _ _ (op_move (Lk.t rfl)) <| .cons (.no) _ _ (op_guard rfl rfl (gd_b rfl) (fun hC => (op_move (Lk.t rfl)))) <| .cons (.no) _ _ (op_guard rfl rfl (gd_b rfl) (fun hC => (op_field_own fd29_0 (Lk.t rfl) rfl))) <| .cons (.rd 0) _ _ (op_guard rfl rfl (gd_b rfl) (fun hC => (op_get_sc 0 sc3 (Lk.w rfl hC) rfl mem_blk rfl))) <| .cons (.no) _ _ (op_guard rfl rfl (gd_b rfl) (fun hC => (op_cmp (by simp) (Lk.w rfl hC) (Lk.w rfl hC) rfl))) <| .cons (.no) _ _ (op_or (Lk.t rfl) (fun h2 => (Lk.w rfl h2))) <| .cons (.no) _ _ (op_move (Lk.t rfl)) <| .cons (.no) _ _ (op_guard rfl rfl (gd_b rfl) (fun hC => (op_move (Lk.t rfl)))) <| .cons (.no) _ _ (op_guard rfl rfl (gd_b rfl) (fun hC => (op_cmp (by simp) (Lk.w rfl hC) (Lk.k rfl) rfl))) <| .cons (.no) _ _ (op_or (Lk.t rfl) (fun h2 => (Lk.w rfl h2))) <| .cons (.no) _ _ (op_move (Lk.t rfl)) <| .cons (.no) _ _ (op_guard rfl rfl (gd_b rfl) (fun hC => (op_move (Lk.t rfl)))) <| .cons (.no) _ _ (op_guard rfl rfl (gd_b rfl) (fun hC => (op_field_own fd29_0 (Lk.t rfl) rfl))) <| .cons (.rd 0) _ _ (op_guard rfl rfl (gd_b rfl) (fun hC => (op_get_sc 0 sc3 (Lk.w rfl hC) rfl mem_blk rfl))) <| .cons (.no) _ _ (op_guard rfl rfl (gd_b rfl) (fun hC => (op_cmp (by simp) (Lk.w rfl hC) (Lk.w rfl hC) rfl))) <| .cons (.no) _ _ (op_or (Lk.t rfl) (fun h2 => (Lk.w rfl h2))) <| .cons (.no) _ _ (op_assign (Lk.t rfl)) <| .nil) ff rfl fun g5 => ⟨_, _, [0, 1], rfl, (.cons 1 rfl <| .cons 2 rfl <| .cons 3 rfl <| .cons 4 rfl <| .cons 5 rfl <| .cons 10 rfl <| .cons 23 rfl <| .nil), (.cons 0 rfl <| .cons 1 rfl <| .nil), ?_⟩)
  refine JN_then ?_
  refine J_cond (cond_of (Lk.t rfl)) (fun h2 => ?_) (fun h2 => ?_)
  ·have h2' := h2
   try simp only [cmpB, Za, Zb, Zc, Zd, Ze, Zf, Zg, Zh, Zi, Zj, Zk, Zl, Zm, Zn, Zo, Zp, Zq, Zr] at h2
   refine J_seq (J_reg [] (.cons (.no) _ _ (op_build zr29 rfl pl29 .nil) <| .cons (.wr 1) _ _ (op_store_b 1 (Lk.t rfl) (Lk.t rfl) co_agg sz29 rfl rfl rfl) <| .cons (.no) _ _ (op_assign (Lk.k rfl)) <| .nil) ff rfl fun g6 => ⟨_, _, [1], rfl, (.cons 10 rfl <| .cons 11 rfl <| .nil), (.cons 1 rfl <| .nil), ?_⟩)
   refine JN_then ?_
   refine J_ret ?_
   refine JN_block_ret ?_
   refine JN_then_ret ?_
   refine JN_ret (.cons (.ag 0 (Lk.t rfl) ag29 rfl rfl rfl) <| .cons (.tmp (Lk.t rfl)) <| .nil) (sb_trans (sb_res (.cons (sb_agg (.cons sb_refl <| .cons sb_refl <| .cons (sb_nilN (mk := flp)) <| .nil)) <| .cons sb_refl <| .nil)) (sb_trans push_M (sb_newp ?_)))
   exact ret_M (rot_2 h1 (by omega))
  ·have h2' := h2
   try simp only [cmpB, Za, Zb, Zc, Zd, Ze, Zf, Zg, Zh, Zi, Zj, Zk, Zl, Zm, Zn, Zo, Zp, Zq, Zr] at h2
   refine J_seq (J_reg [] (.cons (.no) _ _ (op_move (Lk.t rfl)) <| .cons (.no) _ _ (op_move (Lk.t rfl)) <| .cons (.no) _ _ (op_cmp (by simp) (Lk.t rfl) (Lk.t rfl) rfl) <| .cons (.no) _ _ (op_assign (Lk.t rfl)) <| .nil) ff rfl fun g7 => ⟨_, _, [0, 1], rfl, (.cons 1 rfl <| .cons 2 rfl <| .cons 3 rfl <| .cons 4 rfl <| .cons 5 rfl <| .cons 10 rfl <| .cons 43 rfl <| .nil), (.cons 0 rfl <| .cons 1 rfl <| .nil), ?_⟩)
   refine JN_then ?_
   refine J_cond (cond_of (Lk.t rfl)) (fun h3 => ?_) (fun h3 => ?_)
   ·have h3' := h3
    try simp only [cmpB, Za, Zb, Zc, Zd, Ze, Zf, Zg, Zh, Zi, Zj, Zk, Zl, Zm, Zn, Zo, Zp, Zq, Zr] at h3
    refine J_seq (J_reg [] (.cons (.no) _ _ (op_build zr29 rfl pl29 .nil) <| .cons (.wr 1) _ _ (op_store_b 1 (Lk.t rfl) (Lk.t rfl) co_agg sz29 rfl rfl rfl) <| .cons (.no) _ _ (op_assign (Lk.k rfl)) <| .nil) ff rfl fun g8 => ⟨_, _, [1], rfl, (.cons 10 rfl <| .cons 11 rfl <| .nil), (.cons 1 rfl <| .nil), ?_⟩)
    refine JN_then ?_
    refine J_ret ?_
    refine JN_block_ret ?_
    refine JN_then_ret ?_
    refine JN_ret (.cons (.ag 0 (Lk.t rfl) ag29 rfl rfl rfl) <| .cons (.tmp (Lk.t rfl)) <| .nil) (sb_trans (sb_res (.cons (sb_agg (.cons sb_refl <| .cons sb_refl <| .cons (sb_nilN (mk := flp)) <| .nil)) <| .cons sb_refl <| .nil)) (sb_trans push_M (sb_newp ?_)))
    exact ret_M (rot_3 h1 (by omega) (by omega))
   ·have h3' := h3
    try simp only [cmpB, Za, Zb, Zc, Zd, Ze, Zf, Zg, Zh, Zi, Zj, Zk, Zl, Zm, Zn, Zo, Zp, Zq, Zr] at h3
    refine J_seq (J_reg [] (.cons (.no) _ _ (op_move (Lk.t rfl)) <| .cons (.no) _ _ (op_call (qfin_ok) ⟨(Lk.t rfl),  trivial⟩) <| .cons (.no) _ _ (op_not (Lk.t rfl)) <| .cons (.no) _ _ (op_move (Lk.t rfl)) <| .cons (.no) _ _ (op_guard rfl rfl (gd_b rfl) (fun hC => (op_move (Lk.t rfl)))) <| .cons (.no) _ _ (op_guard rfl rfl (gd_b rfl) (fun hC => (op_call (qfin_ok) ⟨(Lk.w rfl hC),  trivial⟩))) <| .cons (.no) _ _ (op_guard rfl rfl (gd_b rfl) (fun hC => (op_not (Lk.w rfl hC)))) <| .cons (.no) _ _ (op_or (Lk.t rfl) (fun h2 => (Lk.w rfl h2))) <| .cons (.no) _ _ (op_assign (Lk.t rfl)) <| .nil) ff rfl fun g9 => ⟨_, _, [0, 1], rfl, (.cons 1 rfl <| .cons 2 rfl <| .cons 3 rfl <| .cons 4 rfl <| .cons 5 rfl <| .cons 10 rfl <| .cons 48 rfl <| .nil), (.cons 0 rfl <| .cons 1 rfl <| .nil), ?_⟩)
    refine JN_then ?_
    refine J_cond (cond_of (Lk.t rfl)) (fun h4 => ?_) (fun h4 => ?_)
    ·have h4' := h4
     try simp only [cmpB, Za, Zb, Zc, Zd, Ze, Zf, Zg, Zh, Zi, Zj, Zk, Zl, Zm, Zn, Zo, Zp, Zq, Zr] at h4
     have hfc : (!finB cc || !finB ss) = true := by rw [← finQ_fin hcc, ← finQ_fin hss]; simpa using h4
     refine J_seq (J_reg [] (.cons (.no) _ _ (op_build zr29 rfl pl29 .nil) <| .cons (.wr 1) _ _ (op_store_b 1 (Lk.t rfl) (Lk.t rfl) co_agg sz29 rfl rfl rfl) <| .cons (.no) _ _ (op_assign (Lk.k rfl)) <| .nil) ff rfl fun g10 => ⟨_, _, [1], rfl, (.cons 10 rfl <| .cons 11 rfl <| .nil), (.cons 1 rfl <| .nil), ?_⟩)
     refine JN_then ?_
     refine J_ret ?_
     refine JN_block_ret ?_
     refine JN_then_ret ?_
     refine JN_ret (.cons (.ag 0 (Lk.t rfl) ag29 rfl rfl rfl) <| .cons (.tmp (Lk.t rfl)) <| .nil) (sb_trans (sb_res (.cons (sb_agg (.cons sb_refl <| .cons sb_refl <| .cons (sb_nilN (mk := flp)) <| .nil)) <| .cons sb_refl <| .nil)) (sb_trans push_M (sb_newp ?_)))
     exact ret_M (rot_4 h1 (by omega) (by omega) hfc)
    ·have h4' := h4
     try simp only [cmpB, Za, Zb, Zc, Zd, Ze, Zf, Zg, Zh, Zi, Zj, Zk, Zl, Zm, Zn, Zo, Zp, Zq, Zr] at h4
     have hfc : (!finB cc || !finB ss) = false := by rw [← finQ_fin hcc, ← finQ_fin hss]; simpa using h4
     refine J_skip ?_
     refine JN_block ?_
     refine JN_then ?_
     refine J_to (To.emps 2) ?_
     refine J_seq (J_reg [] (.cons (.rd 0) _ _ (op_get_ag 0 ag29 (Lk.t rfl) rfl mem_blk rfl rfl) <| .cons (.wr 2) _ _ (op_callF 2 (copF_ok (by omega)) ⟨(Lk.t rfl),  trivial⟩ rfl) <| .cons (.wr 3) _ _ (op_alloc 3 zr29 rfl rfl) <| .cons (.wr 3) _ _ (op_store_new_ve 3 rfl rfl rfl (fun f => co_agg) (fun f g h => by rw [h 59 (show 59 ∈ [59] from by decide)]) (fun _ => sz29) rfl (fun _ => rfl) rfl) <| .nil) ff rfl fun g11 => ⟨_, _, [0, 1, 2, 3], rfl, (.cons 1 rfl <| .cons 2 rfl <| .cons 3 rfl <| .cons 4 rfl <| .cons 5 rfl <| .cons 10 rfl <| .cons 13 rfl <| .nil), (.cons 0 rfl <| .cons 1 rfl <| .cons 2 rfl <| .cons 3 rfl <| .nil), ?_⟩)
     refine JN_then ?_
     refine J_seq ?_
     refine J_seq (J_reg [] (.cons (.no) _ _ (op_field_own fd29_1 (Lk.t rfl) rfl) <| .cons (.rd 0) _ _ (op_get_sc 0 sc3 (Lk.t rfl) rfl mem_blk rfl) <| .cons (.no) _ _ (op_move (Lk.k rfl)) <| .nil) ff rfl fun g12 => ⟨_, _, [0, 1, 2, 3], rfl, (.cons 1 rfl <| .cons 2 rfl <| .cons 3 rfl <| .cons 4 rfl <| .cons 5 rfl <| .cons 10 rfl <| .cons 13 rfl <| .cons 61 rfl <| .cons 62 rfl <| .nil), (.cons 0 rfl <| .cons 1 rfl <| .cons 2 rfl <| .cons 3 rfl <| .nil), ?_⟩)
     refine JN_then ?_
     refine J_block ?_
     refine J_loopc (α := Nat) (fun j => j ≤ c.toNat) (fun j => c.toNat - j) (fun j restR => (62, isv (.int .i64 (j : Int))) :: restR) (fun j restS => som (agN 2 (g11 59)) flp (rotTo c xs i k cc ss j) 35 :: restS) (ρc := [(1, _), (2, _), (3, _), (4, _), (5, _), (10, _), (13, _), (61, _)]) (σc := [_, _, _]) 0 (by exact Nat.zero_le _) (To.pick (fun _ => .sub (t := 62) rfl (sp_eq (by rfl)) <| .cons 1 rfl <| .cons 2 rfl <| .cons 3 rfl <| .cons 4 rfl <| .cons 5 rfl <| .cons 10 rfl <| .cons 13 rfl <| .cons 61 rfl <| .nil) (fun _ => .sub 2 rfl ((fun _ _ h => h)) <| .cons 0 rfl <| .cons 1 rfl <| .cons 3 rfl <| .nil) (ks := [2, 0, 1, 3]) rfl) (fun j hI => ?_)
     refine J_seq (J_reg [] (.cons (.no) _ _ (op_cmp (by simp) (Lk.t rfl) (Lk.t rfl) rfl) <| .nil) ff rfl fun g13 => ⟨_, _, [0, 1, 2, 3], rfl, (.cons 1 rfl <| .cons 2 rfl <| .cons 3 rfl <| .cons 4 rfl <| .cons 5 rfl <| .cons 10 rfl <| .cons 13 rfl <| .cons 61 rfl <| .cons 62 rfl <| .cons 63 rfl <| .nil), (.cons 0 rfl <| .cons 1 rfl <| .cons 2 rfl <| .cons 3 rfl <| .nil), ?_⟩)
     refine JN_then ?_
     refine J_seq ?_
     refine J_cond (cond_of (Lk.t rfl)) (fun h5 => ?_) (fun h5 => ?_)
     ·have h5' := h5
      try simp only [cmpB, Za, Zb, Zc, Zd, Ze, Zf, Zg, Zh, Zi, Zj, Zk, Zl, Zm, Zn, Zo, Zp, Zq, Zr] at h5
      have hpi := (show Pl r c i (j : Int) from ⟨by omega, by omega, by omega, by omega⟩).rng hg.1
      have hpk := (show Pl r c k (j : Int) from ⟨by omega, by omega, by omega, by omega⟩).rng hg.1
      have hrl := @length_rotTo c xs i k cc ss j
      have hrl2 : ((rotTo c xs i k cc ss j).set (i * c + (j : Int)).toNat (fop (fbits .add (fop (fbits .mul cc (xs.getD (i * c + (j : Int)).toNat 0))) (fop (fbits .mul ss (xs.getD (k * c + (j : Int)).toNat 0)))))).length = xs.length := by rw [List.length_set]; exact hrl
      refine J_skip ?_
      refine JN_then ?_
      refine J_seq ?_
      refine J_block ?_
      refine J_seq (J_reg [] (.cons (.no) _ _ (op_move (Lk.t rfl)) <| .cons (.no) _ _ (op_assign (Lk.t rfl)) <| .nil) ff rfl fun g14 => ⟨_, _, [0, 1, 2, 3], rfl, (.cons 1 rfl <| .cons 2 rfl <| .cons 3 rfl <| .cons 4 rfl <| .cons 5 rfl <| .cons 10 rfl <| .cons 13 rfl <| .cons 14 rfl <| .cons 61 rfl <| .cons 62 rfl <| .nil), (.cons 0 rfl <| .cons 1 rfl <| .cons 2 rfl <| .cons 3 rfl <| .nil), ?_⟩)
      refine JN_then ?_
      refine J_seq (J_reg [[], [0], [], [], [3], [2, 3, 4], [], [2, 3, 4, 5, 6], [0, 1, 2, 3, 4, 5, 6, 7], [0, 1, 2, 3, 4, 5, 6, 7, 8], [], [10], [], [], [13], [12, 13, 14], [], [12, 13, 14, 15, 16], [10, 11, 12, 13, 14, 15, 16, 17], [10, 11, 12, 13, 14, 15, 16, 17, 18], [0, 1, 2, 3, 4, 5, 6, 7, 8, 9], [0, 1, 2, 3, 4, 5, 6, 7, 8, 9, 10, 11, 12, 13, 14, 15, 16, 17, 18, 19, 20]] (.cons (.no) _ _ (op_field_own fd29_2 (Lk.t rfl) rfl) <| .cons (.rd 1) _ _ (op_get_sc 1 sc27 (Lk.t rfl) rfl mem_blk rfl) <| .cons (.no) _ _ (op_move (Lk.t rfl)) <| .cons (.no) _ _ (op_field_own fd29_1 (Lk.t rfl) rfl) <| .cons (.rd 1) _ _ (op_get_sc 1 sc3 (Lk.t rfl) rfl mem_blk rfl) <| .cons (.no) _ _ (op_mul (Lk.t rfl) (Lk.t rfl) (wrap_id (by omega) (by omega))) <| .cons (.no) _ _ (op_move (Lk.t rfl)) <| .cons (.no) _ _ (op_add (Lk.t rfl) (Lk.t rfl) (wrap_id (by omega) (by omega))) <| .cons (.no) _ _ (op_index_m 0 sl27 (Lk.t rfl) (Lk.t rfl) (by omega) (by omega)) <| .cons (.no) _ _ (op_load_sc sc35 (Lk.t rfl) rfl) <| .cons (.no) _ _ (op_field_own fd29_2 (Lk.t rfl) rfl) <| .cons (.rd 1) _ _ (op_get_sc 1 sc27 (Lk.t rfl) rfl mem_blk rfl) <| .cons (.no) _ _ (op_move (Lk.t rfl)) <| .cons (.no) _ _ (op_field_own fd29_1 (Lk.t rfl) rfl) <| .cons (.rd 1) _ _ (op_get_sc 1 sc3 (Lk.t rfl) rfl mem_blk rfl) <| .cons (.no) _ _ (op_mul (Lk.t rfl) (Lk.t rfl) (wrap_id (by omega) (by omega))) <| .cons (.no) _ _ (op_move (Lk.t rfl)) <| .cons (.no) _ _ (op_add (Lk.t rfl) (Lk.t rfl) (wrap_id (by omega) (by omega))) <| .cons (.no) _ _ (op_index_m 0 sl27 (Lk.t rfl) (Lk.t rfl) (by omega) (by omega)) <| .cons (.no) _ _ (op_load_sc sc35 (Lk.t rfl) rfl) <| .cons (.no) _ _ (op_assign (Lk.t rfl)) <| .cons (.no) _ _ (op_assign (Lk.t rfl)) <| .nil) (fun _ => mixed) rfl fun g15 => ⟨_, _, [0, 1, 2, 3], rfl, (.cons 1 rfl <| .cons 2 rfl <| .cons 3 rfl <| .cons 4 rfl <| .cons 5 rfl <| .cons 10 rfl <| .cons 13 rfl <| .cons 14 rfl <| .cons 15 rfl <| .cons 16 rfl <| .cons 61 rfl <| .cons 62 rfl <| .nil), (.cons 0 rfl <| .cons 1 rfl <| .cons 2 rfl <| .cons 3 rfl <| .nil), ?_⟩)
      refine JN_then ?_
      refine J_seq (J_reg [] (.cons (.no) _ _ (op_field_own fd29_2 (Lk.t rfl) rfl) <| .cons (.rd 3) _ _ (op_get_sc 3 sc27 (Lk.t rfl) rfl mem_blk rfl) <| .cons (.no) _ _ (op_move (Lk.t rfl)) <| .cons (.no) _ _ (op_field_own fd29_1 (Lk.t rfl) rfl) <| .cons (.rd 1) _ _ (op_get_sc 1 sc3 (Lk.t rfl) rfl mem_blk rfl) <| .cons (.no) _ _ (op_mul (Lk.t rfl) (Lk.t rfl) (wrap_id (by omega) (by omega))) <| .cons (.no) _ _ (op_move (Lk.t rfl)) <| .cons (.no) _ _ (op_add (Lk.t rfl) (Lk.t rfl) (wrap_id (by omega) (by omega))) <| .cons (.no) _ _ (op_move (Lk.t rfl)) <| .cons (.no) _ _ (op_move (Lk.t rfl)) <| .cons (.no) _ _ (op_float (by simp) (Lk.t rfl) (Lk.t rfl) rfl) <| .cons (.no) _ _ (op_move (Lk.t rfl)) <| .cons (.no) _ _ (op_move (Lk.t rfl)) <| .cons (.no) _ _ (op_float (by simp) (Lk.t rfl) (Lk.t rfl) rfl) <| .cons (.no) _ _ (op_float (by simp) (Lk.t rfl) (Lk.t rfl) rfl) <| .cons (.rd 0) _ _ (op_index_som 0 sl27 (Lk.t rfl) (Lk.t rfl) rfl (by omega) (by omega)) <| .cons (.wr 0) _ _ (op_store_som 0 (Lk.t rfl) (Lk.t rfl) co_flp sz35 rfl (by omega)) <| .nil) ff rfl fun g16 => ⟨_, _, [0, 1, 2, 3], rfl, (.cons 1 rfl <| .cons 2 rfl <| .cons 3 rfl <| .cons 4 rfl <| .cons 5 rfl <| .cons 10 rfl <| .cons 13 rfl <| .cons 14 rfl <| .cons 15 rfl <| .cons 16 rfl <| .cons 61 rfl <| .cons 62 rfl <| .nil), (.cons 0 rfl <| .cons 1 rfl <| .cons 2 rfl <| .cons 3 rfl <| .nil), ?_⟩)
      refine JN_then ?_
      refine (J_reg [] (.cons (.no) _ _ (op_field_own fd29_2 (Lk.t rfl) rfl) <| .cons (.rd 3) _ _ (op_get_sc 3 sc27 (Lk.t rfl) rfl mem_blk rfl) <| .cons (.no) _ _ (op_move (Lk.t rfl)) <| .cons (.no) _ _ (op_field_own fd29_1 (Lk.t rfl) rfl) <| .cons (.rd 1) _ _ (op_get_sc 1 sc3 (Lk.t rfl) rfl mem_blk rfl) <| .cons (.no) _ _ (op_mul (Lk.t rfl) (Lk.t rfl) (wrap_id (by omega) (by omega))) <| .cons (.no) _ _ (op_move (Lk.t rfl)) <| .cons (.no) _ _ (op_add (Lk.t rfl) (Lk.t rfl) (wrap_id (by omega) (by omega))) <| .cons (.no) _ _ (op_move (Lk.t rfl)) <| .cons (.no) _ _ (op_move (Lk.t rfl)) <| .cons (.no) _ _ (op_float (by simp) (Lk.t rfl) (Lk.t rfl) rfl) <| .cons (.no) _ _ (op_move (Lk.t rfl)) <| .cons (.no) _ _ (op_move (Lk.t rfl)) <| .cons (.no) _ _ (op_float (by simp) (Lk.t rfl) (Lk.t rfl) rfl) <| .cons (.no) _ _ (op_float (by simp) (Lk.t rfl) (Lk.t rfl) rfl) <| .cons (.rd 0) _ _ (op_index_som 0 sl27 (Lk.t rfl) (Lk.t rfl) rfl (by omega) (by omega)) <| .cons (.wr 0) _ _ (op_store_som 0 (Lk.t rfl) (Lk.t rfl) co_flp sz35 rfl (by omega)) <| .nil) ff rfl fun g17 => ⟨_, _, [0, 1, 2, 3], rfl, (.cons 1 rfl <| .cons 2 rfl <| .cons 3 rfl <| .cons 4 rfl <| .cons 5 rfl <| .cons 10 rfl <| .cons 13 rfl <| .cons 61 rfl <| .cons 62 rfl <| .nil), (.cons 0 rfl <| .cons 1 rfl <| .cons 2 rfl <| .cons 3 rfl <| .nil), ?_⟩)
      refine JN_block ?_
      refine JN_then ?_
      refine (J_reg [] (.cons (.no) _ _ (op_add (Lk.t rfl) (Lk.k rfl) (wrap_id (by omega) (by omega))) <| .cons (.no) _ _ (op_move (Lk.t rfl)) <| .nil) ff rfl fun g18 => ⟨_, _, [0, 1, 2, 3], rfl, (.cons 1 rfl <| .cons 2 rfl <| .cons 3 rfl <| .cons 4 rfl <| .cons 5 rfl <| .cons 10 rfl <| .cons 13 rfl <| .cons 61 rfl <| .cons 62 rfl <| .nil), (.cons 0 rfl <| .cons 1 rfl <| .cons 2 rfl <| .cons 3 rfl <| .nil), ?_⟩)
      exact JN_again (j + 1) (by omega) (by omega) (To.pick (fun _ => .sub (t := 62) rfl (sp_eq (by rfl)) <| .cons 1 rfl <| .cons 2 rfl <| .cons 3 rfl <| .cons 4 rfl <| .cons 5 rfl <| .cons 10 rfl <| .cons 13 rfl <| .cons 61 rfl <| .nil) (fun _ => .sub 0 rfl ((fun _ _ h => h)) <| .cons 1 rfl <| .cons 2 rfl <| .cons 3 rfl <| .nil) (ks := [0, 1, 2, 3]) rfl)
     ·have h5' := h5
      try simp only [cmpB, Za, Zb, Zc, Zd, Ze, Zf, Zg, Zh, Zi, Zj, Zk, Zl, Zm, Zn, Zo, Zp, Zq, Zr] at h5
      refine J_exit ?_
      refine JN_then_exit ?_
      refine JN_then_exit ?_
      refine JN_exit_here ?_
      refine JN_then ?_
      refine J_to (To.freezeN 0 (fun _ h => h) rfl frz_som (pure_som pure_flp).n rfl) ?_
      refine J_seq (J_reg [] (.cons (.rd 3) _ _ (op_get_ag 3 ag29 (Lk.t rfl) rfl mem_blk rfl rfl) <| .cons (.no) _ _ (op_callT 1 rfl (qt_ok) pull_M ⟨(Lk.sub (sb_trans (sb_agg (.cons sb_refl <| .cons sb_refl <| .cons (sb_fk 0 rfl) <| .nil)) push_mat) (Lk.t rfl)),  trivial⟩) <| .cons (.no) _ _ (op_extract (Lk.t rfl) rfl) <| .cons (.no) _ _ (op_extract (Lk.t rfl) rfl) <| .cons (.wr 2) _ _ (op_store_b 2 (Lk.t rfl) (Lk.t rfl) co_agg sz29 rfl rfl rfl) <| .cons (.no) _ _ (op_assign (Lk.t rfl)) <| .nil) ff rfl fun g19 => ⟨_, _, [2], rfl, (.cons 10 rfl <| .cons 11 rfl <| .nil), (.cons 2 rfl <| .nil), ?_⟩)
      refine JN_then ?_
      refine J_ret ?_
      refine JN_ret (.cons (.ag 0 (Lk.t rfl) ag29 rfl rfl rfl) <| .cons (.tmp (Lk.t rfl)) <| .nil) (sb_trans (sb_res (.cons sb_refl <| .cons sb_refl <| .nil)) (sb_trans push_M (sb_newp ?_)))
      exact sb_eq (by rw [rot_5 h1 (by omega) (by omega) hfc (by omega)]; rfl)
theorem triN_ok {ms : List Mt} (hlt : ∀ k, LtL (ms.getD k mtD).a) : CtN Try.prog 16 [slk 3 mtU ms] (resM (triM ms)) := by
 refine CtN.of Try.func16 rfl (by kernel_rfl) rfl fun c0 => ?_
 refine J_to To.size ?_
 refine J_lenk 0 rfl fun hlen => ?_
 refine J_to (To.emps 1) ?_
 refine J_seq (J_reg [] (.cons (.wr 0) _ _ (op_alloc 0 zr29 rfl rfl) <| .cons (.no) _ _ (op_assign (Lk.k rfl)) <| .nil) ff rfl fun g1 => ⟨_, _, [0], rfl, (.cons 0 rfl <| .cons 2 rfl <| .nil), (.cons 0 rfl <| .nil), ?_⟩)
 refine JN_then ?_
 refine J_seq ?_
 refine J_seq (J_reg [] (.cons (.no) _ _ (op_move (Lk.t rfl)) <| .cons (.no) _ _ (op_len_sk sl32 (Lk.t rfl)) <| .cons (.no) _ _ (op_cmp (by simp) (Lk.t rfl) (Lk.k rfl) rfl) <| .nil) ff rfl fun g2 => ⟨_, _, [0], rfl, (.cons 0 rfl <| .cons 2 rfl <| .cons 21 rfl <| .nil), (.cons 0 rfl <| .nil), ?_⟩)
 refine JN_then ?_
 refine J_cond (cond_of (Lk.t rfl)) (fun h1 => ?_) (fun h1 => ?_)
 ·have h1' := h1
  try simp only [cmpB, Za, Zb, Zc, Zd, Ze, Zf, Zg, Zh, Zi, Zj, Zk, Zl, Zm, Zn, Zo, Zp, Zq, Zr] at h1
  refine J_seq (J_reg [] (.cons (.no) _ _ (op_build zr29 rfl pl29 .nil) <| .cons (.wr 0) _ _ (op_store_b 0 (Lk.t rfl) (Lk.t rfl) co_agg sz29 rfl rfl rfl) <| .cons (.no) _ _ (op_assign (Lk.k rfl)) <| .nil) ff rfl fun g3 => ⟨_, _, [0], rfl, (.cons 2 rfl <| .cons 3 rfl <| .nil), (.cons 0 rfl <| .nil), ?_⟩)
  refine JN_then ?_
  refine J_ret ?_
  refine JN_then_ret ?_
  refine JN_ret (.cons (.ag 0 (Lk.t rfl) ag29 rfl rfl rfl) <| .cons (.tmp (Lk.t rfl)) <| .nil) (sb_trans (sb_res (.cons (sb_agg (.cons sb_refl <| .cons sb_refl <| .cons (sb_nilN (mk := flp)) <| .nil)) <| .cons sb_refl <| .nil)) (sb_trans push_M (sb_newp ?_)))
  exact ret_M (triM_1 (by omega)).symm
 ·have h1' := h1
  try simp only [cmpB, Za, Zb, Zc, Zd, Ze, Zf, Zg, Zh, Zi, Zj, Zk, Zl, Zm, Zn, Zo, Zp, Zq, Zr] at h1
  have hne : ¬ ms.length = 0 := by omega
  refine J_skip ?_
  refine JN_then ?_
  refine J_seq ?_
  refine J_seq (J_reg [] (.cons (.no) _ _ (op_move (Lk.t rfl)) <| .cons (.no) _ _ (op_len_sk sl32 (Lk.t rfl)) <| .cons (.no) _ _ (op_move (Lk.k rfl)) <| .nil) ff rfl fun g4 => ⟨_, _, [0], rfl, (.cons 0 rfl <| .cons 2 rfl <| .cons 23 rfl <| .cons 24 rfl <| .cons 25 rfl <| .nil), (.cons 0 rfl <| .nil), ?_⟩)
  refine JN_then ?_
  refine J_block ?_
  refine J_loopc (α := Nat) (fun k => k ≤ ms.length ∧ fstE (mtChk ms) = fstE ((mtChk ms).drop k)) (fun k => ms.length - k) (fun k restR => (25, isv (.int .i64 (k : Int))) :: restR) (fun k restS => restS) (ρc := [(0, _), (2, _), (23, _), (24, _)]) (σc := [_]) 0 (by exact ⟨Nat.zero_le _, rfl⟩) (To.pick (fun _ => .sub (t := 25) rfl (sp_eq (by rfl)) <| .cons 0 rfl <| .cons 2 rfl <| .cons 23 rfl <| .cons 24 rfl <| .nil) (fun _ => .cons 0 rfl <| .nil) (ks := [0]) rfl) (fun k hI => ?_)
  refine J_seq (J_reg [] (.cons (.no) _ _ (op_cmp (by simp) (Lk.t rfl) (Lk.t rfl) rfl) <| .nil) ff rfl fun g5 => ⟨_, _, [0], rfl, (.cons 0 rfl <| .cons 2 rfl <| .cons 23 rfl <| .cons 24 rfl <| .cons 25 rfl <| .cons 26 rfl <| .nil), (.cons 0 rfl <| .nil), ?_⟩)
  refine JN_then ?_
  refine J_seq ?_
  refine J_cond (cond_of (Lk.t rfl)) (fun h2 => ?_) (fun h2 => ?_)
  ·have h2' := h2
   try simp only [cmpB, Za, Zb, Zc, Zd, Ze, Zf, Zg, Zh, Zi, Zj, Zk, Zl, Zm, Zn, Zo, Zp, Zq, Zr] at h2
   refine J_skip ?_
   refine JN_then ?_
   refine J_seq ?_
   refine J_block ?_
   refine J_to (To.emps 1) ?_
   refine J_seq (J_reg [] (.cons (.no) _ _ (op_index_sk (mk := mtU) mtD sl32 mtU_len (Lk.t rfl) (Lk.t rfl) (by omega) (by omega)) <| .cons (.no) _ _ (op_load_ag ag29 (Lk.t rfl) rfl rfl) <| .cons (.wr 1) _ _ (op_alloc 1 zr29 rfl rfl) <| .cons (.wr 1) _ _ (op_store_new 1 rfl (Lk.t rfl) co_agg sz29 rfl rfl) <| .nil) ff rfl fun g6 => ⟨_, _, [0, 1], rfl, (.cons 0 rfl <| .cons 2 rfl <| .cons 5 rfl <| .cons 23 rfl <| .cons 24 rfl <| .cons 25 rfl <| .nil), (.cons 0 rfl <| .cons 1 rfl <| .nil), ?_⟩)
   refine JN_then ?_
   refine J_seq (J_reg [] (.cons (.rd 1) _ _ (op_get_ag 1 ag29 (Lk.t rfl) rfl mem_blk rfl rfl) <| .cons (.no) _ _ (op_call (chk_ok) ⟨(Lk.t rfl),  trivial⟩) <| .cons (.no) _ _ (op_assign (Lk.t rfl)) <| .nil) ff rfl fun g7 => ⟨_, _, [0], rfl, (.cons 0 rfl <| .cons 2 rfl <| .cons 6 rfl <| .cons 23 rfl <| .cons 24 rfl <| .cons 25 rfl <| .nil), (.cons 0 rfl <| .nil), ?_⟩)
   refine JN_then ?_
   refine J_seq (J_reg [] (.cons (.no) _ _ (op_move (Lk.t rfl)) <| .cons (.no) _ _ (op_cmp (by simp) (Lk.t rfl) (Lk.k rfl) rfl) <| .nil) ff rfl fun g8 => ⟨_, _, [0], rfl, (.cons 0 rfl <| .cons 2 rfl <| .cons 6 rfl <| .cons 23 rfl <| .cons 24 rfl <| .cons 25 rfl <| .cons 32 rfl <| .nil), (.cons 0 rfl <| .nil), ?_⟩)
   refine JN_then ?_
   refine J_cond (cond_of (Lk.t rfl)) (fun h3 => ?_) (fun h3 => ?_)
   ·have h3' := h3
    try simp only [cmpB, Za, Zb, Zc, Zd, Ze, Zf, Zg, Zh, Zi, Zj, Zk, Zl, Zm, Zn, Zo, Zp, Zq, Zr] at h3
    refine J_seq (J_reg [] (.cons (.no) _ _ (op_build zr29 rfl pl29 .nil) <| .cons (.no) _ _ (op_move (Lk.t rfl)) <| .cons (.wr 0) _ _ (op_store_b 0 (Lk.t rfl) (Lk.t rfl) co_agg sz29 rfl rfl rfl) <| .cons (.no) _ _ (op_assign (Lk.t rfl)) <| .nil) ff rfl fun g9 => ⟨_, _, [0], rfl, (.cons 2 rfl <| .cons 3 rfl <| .nil), (.cons 0 rfl <| .nil), ?_⟩)
    refine JN_then ?_
    refine J_ret ?_
    refine JN_block_ret ?_
    refine JN_then_ret ?_
    refine JN_then_ret ?_
    refine JN_block_ret ?_
    refine JN_then_ret ?_
    refine JN_ret (.cons (.ag 0 (Lk.t rfl) ag29 rfl rfl rfl) <| .cons (.tmp (Lk.t rfl)) <| .nil) (sb_trans (sb_res (.cons (sb_agg (.cons sb_refl <| .cons sb_refl <| .cons (sb_nilN (mk := flp)) <| .nil)) <| .cons sb_refl <| .nil)) (sb_trans push_M (sb_newp ?_)))
    exact ret_M (triM_2 hne (chk_bad (by omega) hI.2 h3) h3).symm
   ·have h3' := h3
    try simp only [cmpB, Za, Zb, Zc, Zd, Ze, Zf, Zg, Zh, Zi, Zj, Zk, Zl, Zm, Zn, Zo, Zp, Zq, Zr] at h3
    refine J_skip ?_
    refine JN_block ?_
    refine JN_then ?_
    refine (J_reg [] (.cons (.no) _ _ (op_add (Lk.t rfl) (Lk.k rfl) (wrap_id (by omega) (by omega))) <| .cons (.no) _ _ (op_move (Lk.t rfl)) <| .nil) ff rfl fun g10 => ⟨_, _, [0], rfl, (.cons 0 rfl <| .cons 2 rfl <| .cons 23 rfl <| .cons 24 rfl <| .cons 25 rfl <| .nil), (.cons 0 rfl <| .nil), ?_⟩)
    exact JN_again (k + 1) (by exact ⟨by omega, chk_step (by omega) hI.2 (by assumption)⟩) (by omega) (To.pick (fun _ => .sub (t := 25) rfl (sp_eq (by rfl)) <| .cons 0 rfl <| .cons 2 rfl <| .cons 23 rfl <| .cons 24 rfl <| .nil) (fun _ => .cons 0 rfl <| .nil) (ks := [0]) rfl)
  ·have h2' := h2
   try simp only [cmpB, Za, Zb, Zc, Zd, Ze, Zf, Zg, Zh, Zi, Zj, Zk, Zl, Zm, Zn, Zo, Zp, Zq, Zr] at h2
   have hz := chk_end (show k = ms.length by omega) hI.2
   refine J_exit ?_
   refine JN_then_exit ?_
   refine JN_then_exit ?_
   refine JN_exit_here ?_
   refine JN_then ?_
   refine J_seq (J_reg [] (.cons (.no) _ _ (op_assign (Lk.k rfl)) <| .nil) ff rfl fun g11 => ⟨_, _, [0], rfl, (.cons 0 rfl <| .cons 2 rfl <| .cons 7 rfl <| .nil), (.cons 0 rfl <| .nil), ?_⟩)
   refine JN_then ?_
   refine J_seq ?_
   refine J_seq (J_reg [] (.cons (.no) _ _ (op_move (Lk.t rfl)) <| .cons (.no) _ _ (op_len_sk sl32 (Lk.t rfl)) <| .cons (.no) _ _ (op_move (Lk.k rfl)) <| .nil) ff rfl fun g12 => ⟨_, _, [0], rfl, (.cons 0 rfl <| .cons 2 rfl <| .cons 7 rfl <| .cons 36 rfl <| .cons 37 rfl <| .cons 38 rfl <| .nil), (.cons 0 rfl <| .nil), ?_⟩)
   refine JN_then ?_
   refine J_block ?_
   refine J_loopc (α := Nat) (fun k => k ≤ ms.length ∧ (ms.take k).all (fun m => decide (m.r = (ms.getD 0 mtD).r)) = true) (fun k => ms.length - k) (fun k restR => (38, isv (.int .i64 (k : Int))) :: (7, isv (.int .i64 ((min (colsTo ms k) 49 : Nat) : Int))) :: restR) (fun k restS => restS) (ρc := [(0, _), (2, _), (36, _), (37, _)]) (σc := [_]) 0 (by exact ⟨Nat.zero_le _, rfl⟩) (To.pick (fun _ => .sub (t := 38) rfl (sp_eq (by rfl)) <| .sub (t := 7) rfl (sp_eq (by rfl)) <| .cons 0 rfl <| .cons 2 rfl <| .cons 36 rfl <| .cons 37 rfl <| .nil) (fun _ => .cons 0 rfl <| .nil) (ks := [0]) rfl) (fun k hI => ?_)
   refine J_seq (J_reg [] (.cons (.no) _ _ (op_cmp (by simp) (Lk.t rfl) (Lk.t rfl) rfl) <| .nil) ff rfl fun g13 => ⟨_, _, [0], rfl, (.cons 0 rfl <| .cons 2 rfl <| .cons 7 rfl <| .cons 36 rfl <| .cons 37 rfl <| .cons 38 rfl <| .cons 39 rfl <| .nil), (.cons 0 rfl <| .nil), ?_⟩)
   refine JN_then ?_
   refine J_seq ?_
   refine J_cond (cond_of (Lk.t rfl)) (fun h4 => ?_) (fun h4 => ?_)
   ·have h4' := h4
    try simp only [cmpB, Za, Zb, Zc, Zd, Ze, Zf, Zg, Zh, Zi, Zj, Zk, Zl, Zm, Zn, Zo, Zp, Zq, Zr] at h4
    have hck := chk_good (chk_all hz (show k < ms.length by omega))
    obtain ⟨_, _, hc0, hc1⟩ := hck.1
    have hce : (ms.getD ((k : Int)).toNat mtD).c = (ms.getD k mtD).c := rfl
    refine J_skip ?_
    refine JN_then ?_
    refine J_seq ?_
    refine J_block ?_
    refine J_to (To.emps 1) ?_
    refine J_seq (J_reg [] (.cons (.no) _ _ (op_index_sk (mk := mtU) mtD sl32 mtU_len (Lk.t rfl) (Lk.t rfl) (by omega) (by omega)) <| .cons (.no) _ _ (op_load_ag ag29 (Lk.t rfl) rfl rfl) <| .cons (.wr 1) _ _ (op_alloc 1 zr29 rfl rfl) <| .cons (.wr 1) _ _ (op_store_new 1 rfl (Lk.t rfl) co_agg sz29 rfl rfl) <| .nil) ff rfl fun g14 => ⟨_, _, [0, 1], rfl, (.cons 0 rfl <| .cons 2 rfl <| .cons 7 rfl <| .cons 9 rfl <| .cons 36 rfl <| .cons 37 rfl <| .cons 38 rfl <| .nil), (.cons 0 rfl <| .cons 1 rfl <| .nil), ?_⟩)
    refine JN_then ?_
    refine J_seq ?_
    refine J_seq (J_reg [[], [0], [], [2], [2, 3], [2, 3, 4], [0, 1, 2, 3, 4, 5]] (.cons (.no) _ _ (op_field_own fd29_0 (Lk.t rfl) rfl) <| .cons (.rd 1) _ _ (op_get_sc 1 sc3 (Lk.t rfl) rfl mem_blk rfl) <| .cons (.no) _ _ (op_move (Lk.t rfl)) <| .cons (.no) _ _ (op_index_sk (mk := mtU) mtD sl32 mtU_len (Lk.t rfl) (Lk.k rfl) (by omega) (by omega)) <| .cons (.no) _ _ (op_field_ptr fd29_0 (Lk.t rfl) rfl) <| .cons (.no) _ _ (op_load_sc sc3 (Lk.t rfl) rfl) <| .cons (.no) _ _ (op_cmp (by simp) (Lk.t rfl) (Lk.t rfl) rfl) <| .nil) (fun _ => mixed) rfl fun g15 => ⟨_, _, [0, 1], rfl, (.cons 0 rfl <| .cons 2 rfl <| .cons 7 rfl <| .cons 9 rfl <| .cons 36 rfl <| .cons 37 rfl <| .cons 38 rfl <| .cons 48 rfl <| .nil), (.cons 0 rfl <| .cons 1 rfl <| .nil), ?_⟩)
    refine JN_then ?_
    refine J_cond (cond_of (Lk.t rfl)) (fun h5 => ?_) (fun h5 => ?_)
    ·have h5' := h5
     try simp only [cmpB, Za, Zb, Zc, Zd, Ze, Zf, Zg, Zh, Zi, Zj, Zk, Zl, Zm, Zn, Zo, Zp, Zq, Zr] at h5
     refine J_seq (J_reg [] (.cons (.no) _ _ (op_build zr29 rfl pl29 .nil) <| .cons (.wr 0) _ _ (op_store_b 0 (Lk.t rfl) (Lk.t rfl) co_agg sz29 rfl rfl rfl) <| .cons (.no) _ _ (op_assign (Lk.k rfl)) <| .nil) ff rfl fun g16 => ⟨_, _, [0], rfl, (.cons 2 rfl <| .cons 3 rfl <| .nil), (.cons 0 rfl <| .nil), ?_⟩)
     refine JN_then ?_
     refine J_ret ?_
     refine JN_then_ret ?_
     refine JN_block_ret ?_
     refine JN_then_ret ?_
     refine JN_then_ret ?_
     refine JN_block_ret ?_
     refine JN_then_ret ?_
     refine JN_ret (.cons (.ag 0 (Lk.t rfl) ag29 rfl rfl rfl) <| .cons (.tmp (Lk.t rfl)) <| .nil) (sb_trans (sb_res (.cons (sb_agg (.cons sb_refl <| .cons sb_refl <| .cons (sb_nilN (mk := flp)) <| .nil)) <| .cons sb_refl <| .nil)) (sb_trans push_M (sb_newp ?_)))
     exact ret_M (triM_3 hne hz (all_no mtD (show k < ms.length by omega) (by simpa using h5))).symm
    ·have h5' := h5
     try simp only [cmpB, Za, Zb, Zc, Zd, Ze, Zf, Zg, Zh, Zi, Zj, Zk, Zl, Zm, Zn, Zo, Zp, Zq, Zr] at h5
     refine J_skip ?_
     refine JN_then ?_
     refine J_seq (J_reg [] (.cons (.no) _ _ (op_move (Lk.t rfl)) <| .cons (.no) _ _ (op_field_own fd29_1 (Lk.t rfl) rfl) <| .cons (.rd 1) _ _ (op_get_sc 1 sc3 (Lk.t rfl) rfl mem_blk rfl) <| .cons (.no) _ _ (op_add (Lk.t rfl) (Lk.t rfl) (wrap_id (by omega) (by omega))) <| .cons (.no) _ _ (op_assign (Lk.t rfl)) <| .nil) ff rfl fun g17 => ⟨_, _, [0], rfl, (.cons 0 rfl <| .cons 2 rfl <| .cons 7 rfl <| .cons 36 rfl <| .cons 37 rfl <| .cons 38 rfl <| .nil), (.cons 0 rfl <| .nil), ?_⟩)
     refine JN_then ?_
     refine J_seq (J_reg [] (.cons (.no) _ _ (op_move (Lk.t rfl)) <| .cons (.no) _ _ (op_cmp (by simp) (Lk.t rfl) (Lk.k rfl) rfl) <| .nil) ff rfl fun g18 => ⟨_, _, [0], rfl, (.cons 0 rfl <| .cons 2 rfl <| .cons 7 rfl <| .cons 36 rfl <| .cons 37 rfl <| .cons 38 rfl <| .cons 55 rfl <| .nil), (.cons 0 rfl <| .nil), ?_⟩)
     refine JN_then ?_
     refine J_cond (cond_of (Lk.t rfl)) (fun h6 => ?_) (fun h6 => ?_)
     ·have h6' := h6
      try simp only [cmpB, Za, Zb, Zc, Zd, Ze, Zf, Zg, Zh, Zi, Zj, Zk, Zl, Zm, Zn, Zo, Zp, Zq, Zr] at h6
      refine (J_reg [] (.cons (.no) _ _ (op_assign (Lk.k rfl)) <| .nil) ff rfl fun g19 => ⟨_, _, [0], rfl, (.cons 0 rfl <| .cons 2 rfl <| .cons 7 rfl <| .cons 36 rfl <| .cons 37 rfl <| .cons 38 rfl <| .nil), (.cons 0 rfl <| .nil), ?_⟩)
      refine JN_block ?_
      refine JN_then ?_
      refine (J_reg [] (.cons (.no) _ _ (op_add (Lk.t rfl) (Lk.k rfl) (wrap_id (by omega) (by omega))) <| .cons (.no) _ _ (op_move (Lk.t rfl)) <| .nil) ff rfl fun g20 => ⟨_, _, [0], rfl, (.cons 0 rfl <| .cons 2 rfl <| .cons 7 rfl <| .cons 36 rfl <| .cons 37 rfl <| .cons 38 rfl <| .nil), (.cons 0 rfl <| .nil), ?_⟩)
      exact JN_again (k + 1) (by exact ⟨by omega, all_take mtD (by omega) hI.2 (by simpa using h5)⟩) (by omega) (To.pick (fun _ => .sub (t := 38) rfl (sp_eq (by rfl)) <| .sub (t := 7) rfl (sp_eq (by exact congrArg (fun z => isv (.int .i64 z)) (by show _ = ((min (colsTo ms k + (ms.getD k mtD).c.toNat) 49 : Nat) : Int); omega))) <| .cons 0 rfl <| .cons 2 rfl <| .cons 36 rfl <| .cons 37 rfl <| .nil) (fun _ => .cons 0 rfl <| .nil) (ks := [0]) rfl)
     ·have h6' := h6
      try simp only [cmpB, Za, Zb, Zc, Zd, Ze, Zf, Zg, Zh, Zi, Zj, Zk, Zl, Zm, Zn, Zo, Zp, Zq, Zr] at h6
      refine J_skip ?_
      refine JN_block ?_
      refine JN_then ?_
      refine (J_reg [] (.cons (.no) _ _ (op_add (Lk.t rfl) (Lk.k rfl) (wrap_id (by omega) (by omega))) <| .cons (.no) _ _ (op_move (Lk.t rfl)) <| .nil) ff rfl fun g21 => ⟨_, _, [0], rfl, (.cons 0 rfl <| .cons 2 rfl <| .cons 7 rfl <| .cons 36 rfl <| .cons 37 rfl <| .cons 38 rfl <| .nil), (.cons 0 rfl <| .nil), ?_⟩)
      exact JN_again (k + 1) (by exact ⟨by omega, all_take mtD (by omega) hI.2 (by simpa using h5)⟩) (by omega) (To.pick (fun _ => .sub (t := 38) rfl (sp_eq (by rfl)) <| .sub (t := 7) rfl (sp_eq (by exact congrArg (fun z => isv (.int .i64 z)) (by show _ = ((min (colsTo ms k + (ms.getD k mtD).c.toNat) 49 : Nat) : Int); omega))) <| .cons 0 rfl <| .cons 2 rfl <| .cons 36 rfl <| .cons 37 rfl <| .nil) (fun _ => .cons 0 rfl <| .nil) (ks := [0]) rfl)
   ·have h4' := h4
    try simp only [cmpB, Za, Zb, Zc, Zd, Ze, Zf, Zg, Zh, Zi, Zj, Zk, Zl, Zm, Zn, Zo, Zp, Zq, Zr] at h4
    obtain rfl : k = ms.length := by omega
    refine J_exit ?_
    refine JN_then_exit ?_
    refine JN_then_exit ?_
    refine JN_exit_here ?_
    refine JN_then ?_
    refine J_seq ?_
    refine J_seq (J_reg [] (.cons (.no) _ _ (op_move (Lk.t rfl)) <| .cons (.no) _ _ (op_cmp (by simp) (Lk.t rfl) (Lk.k rfl) rfl) <| .nil) ff rfl fun g22 => ⟨_, _, [0], rfl, (.cons 0 rfl <| .cons 2 rfl <| .cons 58 rfl <| .nil), (.cons 0 rfl <| .nil), ?_⟩)
    refine JN_then ?_
    refine J_cond (cond_of (Lk.t rfl)) (fun h7 => ?_) (fun h7 => ?_)
    ·have h7' := h7
     try simp only [cmpB, Za, Zb, Zc, Zd, Ze, Zf, Zg, Zh, Zi, Zj, Zk, Zl, Zm, Zn, Zo, Zp, Zq, Zr] at h7
     refine J_seq (J_reg [] (.cons (.no) _ _ (op_build zr29 rfl pl29 .nil) <| .cons (.wr 0) _ _ (op_store_b 0 (Lk.t rfl) (Lk.t rfl) co_agg sz29 rfl rfl rfl) <| .cons (.no) _ _ (op_assign (Lk.k rfl)) <| .nil) ff rfl fun g23 => ⟨_, _, [0], rfl, (.cons 2 rfl <| .cons 3 rfl <| .nil), (.cons 0 rfl <| .nil), ?_⟩)
     refine JN_then ?_
     refine J_ret ?_
     refine JN_then_ret ?_
     refine JN_ret (.cons (.ag 0 (Lk.t rfl) ag29 rfl rfl rfl) <| .cons (.tmp (Lk.t rfl)) <| .nil) (sb_trans (sb_res (.cons (sb_agg (.cons sb_refl <| .cons sb_refl <| .cons (sb_nilN (mk := flp)) <| .nil)) <| .cons sb_refl <| .nil)) (sb_trans push_M (sb_newp ?_)))
     exact ret_M (triM_4 hne hz (all_whole (Nat.le_refl _) hI.2) (by omega)).symm
    ·have h7' := h7
     try simp only [cmpB, Za, Zb, Zc, Zd, Ze, Zf, Zg, Zh, Zi, Zj, Zk, Zl, Zm, Zn, Zo, Zp, Zq, Zr] at h7
     have hsh : shpB ms = true := all_whole (by omega) hI.2
     obtain ⟨n, hn⟩ : ∃ n : Nat, (ms.getD 0 mtD).r = (n : Int) := ⟨(ms.getD 0 mtD).r.toNat, by have := (chk_good (chk_all hz (show 0 < ms.length by omega))).1.1; omega⟩
     have hcm : ¬ 48 < colsTo ms ms.length := by omega
     have hB : BesOk ms (n : Int) := besOk_of hne hz hsh hcm hn
     have hM := triM_5 hne hz hsh hcm hn
     have hfl : ∀ k, FinL (ms.getD k mtD).a := fun k => finL_mk (if hk : k < ms.length then (chk_zero.1 (chk_all hz hk)).2 else by rw [List.getD, List.getElem?_eq_none (by omega)]; rfl) (hlt k)
     have hT0 := tri_start (n := n) hfl
     obtain ⟨_, hn12, _, _⟩ := (hB.hg 0 hB.h0).1
     refine J_skip ?_
     refine JN_then ?_
     refine J_to (To.emps 1) ?_
     refine J_seq (J_reg [] (.cons (.no) _ _ (op_move (Lk.t rfl)) <| .cons (.wr 1) _ _ (op_callF 1 (besideF_ok (n := (n : Int)) hB) ⟨(Lk.t rfl),  trivial⟩ rfl) <| .cons (.no) _ _ (op_assign_ve rfl rfl) <| .nil) ff rfl fun g24 => ⟨_, _, [0, 1], rfl, (.cons 2 rfl <| .cons 10 rfl <| .nil), (.cons 0 rfl <| .cons 1 rfl <| .nil), ?_⟩)
     refine JN_then ?_
     refine J_ex 1 rfl fun vsp => ?_
     obtain ⟨vs, hvs⟩ := vsp
     rw [length_besL] at hvs
     have hvs : vs.length = n := hvs
     refine J_to (To.emps 1) ?_
     refine J_to (To.res 1 (r' := (som (g24 61) isv vs 27).sep (pool n (poolX vs 35 (besRow ms n)))) rfl rows_open rfl) ?_
     refine J_to (To.split 1 2 rfl rfl rfl rfl) ?_
     refine J_seq (J_reg [] (.cons (.no) _ _ (op_move (Lk.t rfl)) <| .cons (.rd 1) _ _ (op_len_som 1 sl65 (Lk.t rfl) rfl) <| .cons (.no) _ _ (op_assign (Lk.t rfl)) <| .nil) ff rfl fun g25 => ⟨_, _, [0, 1, 2], rfl, (.cons 2 rfl <| .cons 10 rfl <| .cons 11 rfl <| .nil), (.cons 0 rfl <| .cons 1 rfl <| .cons 2 rfl <| .nil), ?_⟩)
     refine JN_then ?_
     refine J_seq ?_
     refine J_to (To.slot 11 rfl (q := isv (.int .i64 (n : Int))) (sb_eq (by rw [hvs]))) ?_
     refine J_seq (J_reg [] (.cons (.no) _ _ (op_move (Lk.t rfl)) <| .cons (.no) _ _ (op_move (Lk.k rfl)) <| .nil) ff rfl fun g26 => ⟨_, _, [0, 1, 2], rfl, (.cons 2 rfl <| .cons 10 rfl <| .cons 11 rfl <| .cons 64 rfl <| .cons 65 rfl <| .nil), (.cons 0 rfl <| .cons 1 rfl <| .cons 2 rfl <| .nil), ?_⟩)
     refine JN_then ?_
     refine J_block ?_
     refine J_loopc (α := Nat) (fun i => i ≤ n ∧ TriI (besRow ms n) n (colsTo ms ms.length + (n - colsTo ms ms.length)) i) (fun i => n - i) (fun i restR => (65, isv (.int .i64 (i : Int))) :: restR) (fun i restS => pool n (poolX vs 35 (triTo (besRow ms n) i)) :: restS) (ρc := [(2, _), (10, _), (11, _), (64, _)]) (σc := [_, _]) 0 (by exact ⟨Nat.zero_le _, hT0⟩) (To.pick (fun _ => .sub (t := 65) rfl (sp_eq (by rfl)) <| .cons 2 rfl <| .cons 10 rfl <| .cons 11 rfl <| .cons 64 rfl <| .nil) (fun _ => .sub 2 rfl ((fun _ _ h => h)) <| .cons 0 rfl <| .cons 1 rfl <| .nil) (ks := [2, 0, 1]) rfl) (fun i hI => ?_)
     refine J_seq (J_reg [] (.cons (.no) _ _ (op_cmp (by simp) (Lk.t rfl) (Lk.t rfl) rfl) <| .nil) ff rfl fun g27 => ⟨_, _, [0, 1, 2], rfl, (.cons 2 rfl <| .cons 10 rfl <| .cons 11 rfl <| .cons 64 rfl <| .cons 65 rfl <| .cons 66 rfl <| .nil), (.cons 0 rfl <| .cons 1 rfl <| .cons 2 rfl <| .nil), ?_⟩)
     refine JN_then ?_
     refine J_seq ?_
     refine J_cond (cond_of (Lk.t rfl)) (fun h8 => ?_) (fun h8 => ?_)
     ·have h8' := h8
      try simp only [cmpB, Za, Zb, Zc, Zd, Ze, Zf, Zg, Zh, Zi, Zj, Zk, Zl, Zm, Zn, Zo, Zp, Zq, Zr] at h8
      have hT := hI.2
      have hli := hT.hl i (by omega)
      refine J_skip ?_
      refine JN_then ?_
      refine J_seq ?_
      refine J_block ?_
      refine J_seq (J_reg [] (.cons (.no) _ _ (op_move (Lk.t rfl)) <| .cons (.no) _ _ (op_assign (Lk.t rfl)) <| .nil) ff rfl fun g28 => ⟨_, _, [0, 1, 2], rfl, (.cons 2 rfl <| .cons 10 rfl <| .cons 11 rfl <| .cons 12 rfl <| .cons 64 rfl <| .cons 65 rfl <| .nil), (.cons 0 rfl <| .cons 1 rfl <| .cons 2 rfl <| .nil), ?_⟩)
      refine JN_then ?_
      refine J_to (To.emps 1) ?_
      refine J_to (To.focus 0 3 i (by omega) rfl rfl rfl rfl) ?_
      refine J_to (To.res 3 (r' := som (vs.getD i NILV) flp (triTo (besRow ms n) i i) 35) rfl (res_eq (by show som _ flp _ _ = _; rfl)) rfl) ?_
      refine J_to (To.emps 2) ?_
      refine J_seq (J_reg [] (.cons (.no) _ _ (op_move (Lk.t rfl)) <| .cons (.no) _ _ (op_move (Lk.t rfl)) <| .cons (.rd 2) _ _ (op_index_som 2 sl65 (Lk.t rfl) (Lk.t rfl) rfl (by omega) (by omega)) <| .cons (.rd 2) _ _ ((op_get_som (mk := isv) (.slice none 0 0) 2 sc27 (Lk.t rfl) rfl (by omega)).sub rfl (isv_eq (by exact rfl))) <| .cons (.no) _ _ (op_move (Lk.t rfl)) <| .cons (.rd 3) _ _ (op_slice_vsl 3 sl27 (Lk.t rfl) (Lk.t rfl) rfl (by omega) (by omega)) <| .cons (.wr 3) _ _ (op_callBF 3 (houseF_ok (xs := (triTo (besRow ms n) i i).drop i) (finL_drop (hT.hf i (by omega)) i) (by rw [List.length_drop]; omega)) (fun _ => pure_agg (.cons (pure_isv _) <| .cons (pure_flp _) <| .cons (pure_flp _) .nil)) (fun _ => pure_som pure_flp) (Lk.t rfl) rfl) <| .cons (.wr 4) _ _ (op_alloc 4 zr59 rfl rfl) <| .cons (.wr 4) _ _ (op_store_new_ve 4 rfl rfl rfl (fun f => co_agg) (fun f g h => by rw [h 74 (show 74 ∈ [74] from by decide)]) (fun _ => sz59) rfl (fun _ => rfl) rfl) <| .nil) ff rfl fun g29 => ⟨_, _, [0, 1, 2, 3, 4], rfl, (.cons 2 rfl <| .cons 10 rfl <| .cons 11 rfl <| .cons 12 rfl <| .cons 13 rfl <| .cons 64 rfl <| .cons 65 rfl <| .nil), (.cons 0 rfl <| .cons 1 rfl <| .cons 2 rfl <| .cons 3 rfl <| .cons 4 rfl <| .nil), ?_⟩)
      refine JN_then ?_
      refine J_seq ?_
      refine J_to (To.emps 1) ?_
      refine J_to (To.split 3 5 rfl rfl rfl rfl) ?_
      refine J_to (To.unfocus 0 3 i (by omega) rfl rfl rfl rfl) ?_
      refine J_to (To.res 0 (r' := pool n (poolX vs 35 (triTo (besRow ms n) i))) rfl (pool_back rfl) rfl) ?_
      refine J_to (To.freeze 5 (fun _ h => h) rfl frz_som rfl) ?_
      refine J_seq (J_reg [] (.cons (.no) _ _ (op_move (Lk.t rfl)) <| .cons (.no) _ _ (op_add (Lk.t rfl) (Lk.k rfl) (wrap_id (by omega) (by omega))) <| .cons (.no) _ _ (op_assign (Lk.t rfl)) <| .nil) ff rfl fun g30 => ⟨_, _, [0, 1, 2, 4], rfl, (.cons 2 rfl <| .cons 10 rfl <| .cons 11 rfl <| .cons 12 rfl <| .cons 13 rfl <| .cons 14 rfl <| .cons 64 rfl <| .cons 65 rfl <| .nil), (.cons 0 rfl <| .cons 1 rfl <| .cons 2 rfl <| .cons 4 rfl <| .nil), ?_⟩)
      refine JN_then ?_
      refine J_block ?_
      refine J_loopc (α := Nat) (fun k => i + 1 ≤ k ∧ k ≤ n ∧ ∀ j, i < j → j < k → (mirW (gls (triTo (besRow ms n) i) i) i (triTo (besRow ms n) i j)).all finB = true) (fun k => n - k) (fun k restR => (14, isv (.int .i64 (k : Int))) :: restR) (fun k restS => pool n (poolX vs 35 (midF (triTo (besRow ms n) i) i k)) :: restS) (ρc := [(2, _), (10, _), (11, _), (12, _), (13, _), (64, _), (65, _)]) (σc := [_, _, _]) (i + 1) (by exact ⟨Nat.le_refl _, by omega, fun j h1 h2 => by omega⟩) (To.pick (fun _ => .sub (t := 14) rfl (sp_eq (by rfl)) <| .cons 2 rfl <| .cons 10 rfl <| .cons 11 rfl <| .cons 12 rfl <| .cons 13 rfl <| .cons 64 rfl <| .cons 65 rfl <| .nil) (fun _ => .sub 0 rfl ((pool_mid0)) <| .cons 1 rfl <| .cons 2 rfl <| .cons 3 rfl <| .nil) (ks := [0, 1, 2, 3]) rfl) (fun k hK => ?_)
      refine J_seq ?_
      refine J_seq (J_reg [] (.cons (.no) _ _ (op_move (Lk.t rfl)) <| .cons (.no) _ _ (op_move (Lk.t rfl)) <| .cons (.no) _ _ (op_cmp (by simp) (Lk.t rfl) (Lk.t rfl) rfl) <| .nil) ff rfl fun g31 => ⟨_, _, [0, 1, 2, 3], rfl, (.cons 2 rfl <| .cons 10 rfl <| .cons 11 rfl <| .cons 12 rfl <| .cons 13 rfl <| .cons 14 rfl <| .cons 64 rfl <| .cons 65 rfl <| .cons 79 rfl <| .nil), (.cons 0 rfl <| .cons 1 rfl <| .cons 2 rfl <| .cons 3 rfl <| .nil), ?_⟩)
      refine JN_then ?_
      refine J_cond (cond_of (Lk.t rfl)) (fun h9 => ?_) (fun h9 => ?_)
      ·have h9' := h9
       try simp only [cmpB, Za, Zb, Zc, Zd, Ze, Zf, Zg, Zh, Zi, Zj, Zk, Zl, Zm, Zn, Zo, Zp, Zq, Zr] at h9
       have hlk := hT.hl k (by omega)
       have hvk : (houseL ((triTo (besRow ms n) i i).drop i)).v.length = (triTo (besRow ms n) i k).length - i := by rw [length_houseL, List.length_drop, hli, hlk]
       refine J_skip ?_
       refine JN_then ?_
       refine J_seq ?_
       refine J_block ?_
       refine J_to (To.emps 1) ?_
       refine J_to (To.focus 0 4 k (by omega) rfl rfl rfl rfl) ?_
       refine J_to (To.res 4 (r' := som (vs.getD k NILV) flp (triTo (besRow ms n) i k) 35) rfl (res_eq (by show som _ flp _ _ = _; rw [mid_at (by omega)])) rfl) ?_
       refine J_seq (J_reg [[], [], [], [1, 2], [1, 2, 3], [], [1, 2, 3, 4, 5], [0, 1, 2, 3, 4, 5, 6]] (.cons (.rd 3) _ _ (op_get_ag 3 ag59 (Lk.t rfl) rfl mem_blk rfl rfl) <| .cons (.no) _ _ (op_move (Lk.t rfl)) <| .cons (.no) _ _ (op_move (Lk.t rfl)) <| .cons (.rd 2) _ _ (op_index_som 2 sl65 (Lk.t rfl) (Lk.t rfl) rfl (by omega) (by omega)) <| .cons (.rd 2) _ _ ((op_get_som (mk := isv) (.slice none 0 0) 2 sc27 (Lk.t rfl) rfl (by omega)).sub rfl (isv_eq (by exact rfl))) <| .cons (.no) _ _ (op_move (Lk.t rfl)) <| .cons (.rd 4) _ _ (op_slice_vsl 4 sl27 (Lk.t rfl) (Lk.t rfl) rfl (by omega) (by omega)) <| .cons (.wr 4) _ _ (op_callM 4 (mirror_ok (i := i) (xs := triTo (besRow ms n) i k) (v := (houseL ((triTo (besRow ms n) i i).drop i)).v) (by omega) hvk (by omega)) ⟨(Lk.sub (sb_agg (.cons (sb_fk 0 rfl) <| .cons sb_refl <| .cons sb_refl <| .nil)) (Lk.t rfl)), (Lk.t rfl),  trivial⟩ rfl) <| .nil) (fun _ => mixed) rfl fun g32 => ⟨_, _, [0, 1, 2, 3, 4], rfl, (.cons 2 rfl <| .cons 10 rfl <| .cons 11 rfl <| .cons 12 rfl <| .cons 13 rfl <| .cons 14 rfl <| .cons 64 rfl <| .cons 65 rfl <| .nil), (.cons 0 rfl <| .cons 1 rfl <| .cons 2 rfl <| .cons 3 rfl <| .cons 4 rfl <| .nil), ?_⟩)
       refine JN_then ?_
       refine J_seq (J_reg [] (.cons (.no) _ _ (op_move (Lk.t rfl)) <| .cons (.no) _ _ (op_move (Lk.t rfl)) <| .cons (.rd 2) _ _ (op_index_som 2 sl65 (Lk.t rfl) (Lk.t rfl) rfl (by omega) (by omega)) <| .cons (.rd 2) _ _ ((op_get_som (mk := isv) (.slice none 0 0) 2 sc27 (Lk.t rfl) rfl (by omega)).sub rfl (isv_eq (by exact rfl))) <| .cons (.rd 4) _ _ (op_callB0 4 (finite_ok (xs := mirW (gls (triTo (besRow ms n) i) i) i (triTo (besRow ms n) i k))) (pure_isv _) (Lk.t rfl) rfl) <| .cons (.no) _ _ (op_not (Lk.t rfl)) <| .nil) ff rfl fun g33 => ⟨_, _, [0, 1, 2, 3, 4], rfl, (.cons 2 rfl <| .cons 10 rfl <| .cons 11 rfl <| .cons 12 rfl <| .cons 13 rfl <| .cons 14 rfl <| .cons 64 rfl <| .cons 65 rfl <| .cons 95 rfl <| .nil), (.cons 0 rfl <| .cons 1 rfl <| .cons 2 rfl <| .cons 3 rfl <| .cons 4 rfl <| .nil), ?_⟩)
       refine JN_then ?_
       refine J_cond (cond_of (Lk.t rfl)) (fun h10 => ?_) (fun h10 => ?_)
       ·have h10' := h10
        try simp only [cmpB, Za, Zb, Zc, Zd, Ze, Zf, Zg, Zh, Zi, Zj, Zk, Zl, Zm, Zn, Zo, Zp, Zq, Zr] at h10
        refine J_seq (J_reg [] (.cons (.no) _ _ (op_build zr29 rfl pl29 .nil) <| .cons (.wr 1) _ _ (op_store_b 1 (Lk.t rfl) (Lk.t rfl) co_agg sz29 rfl rfl rfl) <| .cons (.no) _ _ (op_assign (Lk.k rfl)) <| .nil) ff rfl fun g34 => ⟨_, _, [0, 1, 2, 4], rfl, (.cons 2 rfl <| .cons 3 rfl <| .nil), (.cons 0 rfl <| .cons 1 rfl <| .cons 2 rfl <| .cons 4 rfl <| .nil), ?_⟩)
        refine JN_then ?_
        refine J_ret ?_
        refine JN_block_ret ?_
        refine JN_then_ret ?_
        refine JN_then_ret ?_
        refine JN_block_ret ?_
        refine JN_then_ret ?_
        refine JN_block_ret ?_
        refine JN_then_ret ?_
        refine JN_then_ret ?_
        refine JN_block_ret ?_
        refine JN_then_ret ?_
        refine JN_ret (.cons (.ag 1 (Lk.t rfl) ag29 rfl rfl rfl) <| .cons (.tmp (Lk.t rfl)) <| .nil) (sb_trans (sb_res (.cons (sb_agg (.cons sb_refl <| .cons sb_refl <| .cons (sb_nilN (mk := flp)) <| .nil)) <| .cons sb_refl <| .nil)) (sb_trans push_M (sb_newp ?_)))
        exact ret_M ((tri_over1 (n := n) (i := i) (k := k) (by omega) (by omega) (by omega) (by simpa using h10)).trans hM.symm)
       ·have h10' := h10
        try simp only [cmpB, Za, Zb, Zc, Zd, Ze, Zf, Zg, Zh, Zi, Zj, Zk, Zl, Zm, Zn, Zo, Zp, Zq, Zr] at h10
        have hfk : (mirW (gls (triTo (besRow ms n) i) i) i (triTo (besRow ms n) i k)).all finB = true := by simpa using h10
        refine J_skip ?_
        refine JN_block ?_
        refine JN_then ?_
        refine J_to (To.unfocus 0 4 k (by omega) rfl rfl rfl rfl) ?_
        refine J_to (To.res 0 (r' := pool n (poolX vs 35 (midF (triTo (besRow ms n) i) i (k + 1)))) rfl (pool_mid (by omega) rfl) rfl) ?_
        refine (J_reg [] (.cons (.no) _ _ (op_move (Lk.t rfl)) <| .cons (.no) _ _ (op_add (Lk.t rfl) (Lk.k rfl) (wrap_id (by omega) (by omega))) <| .cons (.no) _ _ (op_assign (Lk.t rfl)) <| .nil) ff rfl fun g35 => ⟨_, _, [0, 1, 2, 3], rfl, (.cons 2 rfl <| .cons 10 rfl <| .cons 11 rfl <| .cons 12 rfl <| .cons 13 rfl <| .cons 14 rfl <| .cons 64 rfl <| .cons 65 rfl <| .nil), (.cons 0 rfl <| .cons 1 rfl <| .cons 2 rfl <| .cons 3 rfl <| .nil), ?_⟩)
        exact JN_again (k + 1) (by exact ⟨by omega, by omega, fun j h1 h2 => if e : j = k then e ▸ hfk else hK.2.2 j h1 (by omega)⟩) (by omega) (To.pick (fun _ => .sub (t := 14) rfl (sp_eq (by rfl)) <| .cons 2 rfl <| .cons 10 rfl <| .cons 11 rfl <| .cons 12 rfl <| .cons 13 rfl <| .cons 64 rfl <| .cons 65 rfl <| .nil) (fun _ => .sub 0 rfl ((fun _ _ h => h)) <| .cons 1 rfl <| .cons 2 rfl <| .cons 3 rfl <| .nil) (ks := [0, 1, 2, 3]) rfl)
      ·have h9' := h9
       try simp only [cmpB, Za, Zb, Zc, Zd, Ze, Zf, Zg, Zh, Zi, Zj, Zk, Zl, Zm, Zn, Zo, Zp, Zq, Zr] at h9
       have hkn : k = n := by omega
       have hcl : (List.take ((i : Int)).toNat (triTo (besRow ms n) i i) ++ List.replicate ((triTo (besRow ms n) i i).length - ((i : Int)).toNat) 0).length = (triTo (besRow ms n) i i).length := length_clrR
       refine J_exit ?_
       refine JN_then_exit ?_
       refine JN_then_exit ?_
       refine JN_exit_here ?_
       refine JN_then ?_
       refine J_to (To.emps 1) ?_
       refine J_to (To.focus 0 4 i (by omega) rfl rfl rfl rfl) ?_
       refine J_to (To.res 4 (r' := som (vs.getD i NILV) flp (triTo (besRow ms n) i i) 35) rfl (res_eq (by show som _ flp _ _ = _; rw [mid_at (by omega)])) rfl) ?_
       refine J_seq (J_reg [] (.cons (.no) _ _ (op_move (Lk.t rfl)) <| .cons (.no) _ _ (op_move (Lk.t rfl)) <| .cons (.rd 2) _ _ (op_index_som 2 sl65 (Lk.t rfl) (Lk.t rfl) rfl (by omega) (by omega)) <| .cons (.rd 2) _ _ ((op_get_som (mk := isv) (.slice none 0 0) 2 sc27 (Lk.t rfl) rfl (by omega)).sub rfl (isv_eq (by exact rfl))) <| .cons (.no) _ _ (op_move (Lk.t rfl)) <| .cons (.rd 4) _ _ (op_slice_vsl 4 sl27 (Lk.t rfl) (Lk.t rfl) rfl (by omega) (by omega)) <| .cons (.wr 4) _ _ (op_clear_vsl 0 4 sl27 zr35 rfl (fun _ => flp_zero) (Lk.t rfl) rfl (by omega)) <| .nil) ff rfl fun g36 => ⟨_, _, [0, 1, 2, 3, 4], rfl, (.cons 2 rfl <| .cons 10 rfl <| .cons 11 rfl <| .cons 12 rfl <| .cons 13 rfl <| .cons 64 rfl <| .cons 65 rfl <| .nil), (.cons 0 rfl <| .cons 1 rfl <| .cons 2 rfl <| .cons 3 rfl <| .cons 4 rfl <| .nil), ?_⟩)
       refine JN_then ?_
       refine J_seq (J_reg [[], [], [0, 1], [0, 1, 2], [], [], [5], [0, 1, 2, 3, 4, 5, 6], [0, 1, 2, 3, 4, 5, 6, 7]] (.cons (.no) _ _ (op_move (Lk.t rfl)) <| .cons (.no) _ _ (op_move (Lk.t rfl)) <| .cons (.rd 2) _ _ (op_index_som 2 sl65 (Lk.t rfl) (Lk.t rfl) rfl (by omega) (by omega)) <| .cons (.rd 2) _ _ ((op_get_som (mk := isv) (.slice none 0 0) 2 sc27 (Lk.t rfl) rfl (by omega)).sub rfl (isv_eq (by exact rfl))) <| .cons (.no) _ _ (op_move (Lk.t rfl)) <| .cons (.no) _ _ (op_field_own fd59_2 (Lk.t rfl) rfl) <| .cons (.rd 3) _ _ (op_get_sc 3 sc35 (Lk.t rfl) rfl mem_blk rfl) <| .cons (.rd 4) _ _ (op_index_som 4 sl27 (Lk.t rfl) (Lk.t rfl) rfl (by omega) (by omega)) <| .cons (.wr 4) _ _ (op_store_som 4 (Lk.t rfl) (Lk.t rfl) co_flp sz35 rfl (by omega)) <| .nil) (fun _ => mixed) rfl fun g37 => ⟨_, _, [0, 1, 2, 3, 4], rfl, (.cons 2 rfl <| .cons 10 rfl <| .cons 11 rfl <| .cons 13 rfl <| .cons 64 rfl <| .cons 65 rfl <| .nil), (.cons 0 rfl <| .cons 1 rfl <| .cons 2 rfl <| .cons 3 rfl <| .cons 4 rfl <| .nil), ?_⟩)
       refine JN_then ?_
       refine J_seq (J_reg [] (.cons (.no) _ _ (op_field_own fd59_2 (Lk.t rfl) rfl) <| .cons (.rd 3) _ _ (op_get_sc 3 sc35 (Lk.t rfl) rfl mem_blk rfl) <| .cons (.no) _ _ (op_call (qfin_ok) ⟨(Lk.t rfl),  trivial⟩) <| .cons (.no) _ _ (op_not (Lk.t rfl)) <| .nil) ff rfl fun g38 => ⟨_, _, [0, 1, 2, 4], rfl, (.cons 2 rfl <| .cons 10 rfl <| .cons 11 rfl <| .cons 64 rfl <| .cons 65 rfl <| .cons 114 rfl <| .nil), (.cons 0 rfl <| .cons 1 rfl <| .cons 2 rfl <| .cons 4 rfl <| .nil), ?_⟩)
       refine JN_then ?_
       refine J_cond (cond_of (Lk.t rfl)) (fun h11 => ?_) (fun h11 => ?_)
       ·have h11' := h11
        try simp only [cmpB, Za, Zb, Zc, Zd, Ze, Zf, Zg, Zh, Zi, Zj, Zk, Zl, Zm, Zn, Zo, Zp, Zq, Zr] at h11
        refine J_seq (J_reg [] (.cons (.no) _ _ (op_build zr29 rfl pl29 .nil) <| .cons (.wr 1) _ _ (op_store_b 1 (Lk.t rfl) (Lk.t rfl) co_agg sz29 rfl rfl rfl) <| .cons (.no) _ _ (op_assign (Lk.k rfl)) <| .nil) ff rfl fun g39 => ⟨_, _, [0, 1, 2, 3], rfl, (.cons 2 rfl <| .cons 3 rfl <| .nil), (.cons 0 rfl <| .cons 1 rfl <| .cons 2 rfl <| .cons 3 rfl <| .nil), ?_⟩)
        refine JN_then ?_
        refine J_ret ?_
        refine JN_block_ret ?_
        refine JN_then_ret ?_
        refine JN_then_ret ?_
        refine JN_block_ret ?_
        refine JN_then_ret ?_
        refine JN_ret (.cons (.ag 1 (Lk.t rfl) ag29 rfl rfl rfl) <| .cons (.tmp (Lk.t rfl)) <| .nil) (sb_trans (sb_res (.cons (sb_agg (.cons sb_refl <| .cons sb_refl <| .cons (sb_nilN (mk := flp)) <| .nil)) <| .cons sb_refl <| .nil)) (sb_trans push_M (sb_newp ?_)))
        exact ret_M ((tri_over2 (n := n) (i := i) (by omega) (show finQ (houseL ((triTo (besRow ms n) i i).drop i)).alpha = false by simpa using h11)).trans hM.symm)
       ·have h11' := h11
        try simp only [cmpB, Za, Zb, Zc, Zd, Ze, Zf, Zg, Zh, Zi, Zj, Zk, Zl, Zm, Zn, Zo, Zp, Zq, Zr] at h11
        have ha : finQ (houseL ((triTo (besRow ms n) i i).drop i)).alpha = true := by simpa using h11
        refine J_skip ?_
        refine JN_block ?_
        refine JN_then ?_
        refine J_to (To.unfocus 0 3 i (by omega) rfl rfl rfl rfl) ?_
        refine J_to (To.res 0 (r' := pool n (poolX vs 35 (endF (triTo (besRow ms n) i) i))) rfl (pool_end (by omega) rfl) rfl) ?_
        refine (J_reg [] (.cons (.no) _ _ (op_add (Lk.t rfl) (Lk.k rfl) (wrap_id (by omega) (by omega))) <| .cons (.no) _ _ (op_move (Lk.t rfl)) <| .nil) ff rfl fun g40 => ⟨_, _, [0, 1, 2], rfl, (.cons 2 rfl <| .cons 10 rfl <| .cons 11 rfl <| .cons 64 rfl <| .cons 65 rfl <| .nil), (.cons 0 rfl <| .cons 1 rfl <| .cons 2 rfl <| .nil), ?_⟩)
        refine JN_to To.fdrop ?_
        exact JN_again (i + 1) (by exact ⟨by omega, triI_step hT (fun j h1 h2 => hK.2.2 j h1 (by omega)) ha⟩) (by omega) (To.pick (fun _ => .sub (t := 65) rfl (sp_eq (by rfl)) <| .cons 2 rfl <| .cons 10 rfl <| .cons 11 rfl <| .cons 64 rfl <| .nil) (fun _ => .sub 0 rfl ((fun _ _ h => h)) <| .cons 1 rfl <| .cons 2 rfl <| .nil) (ks := [0, 1, 2]) rfl)
     ·have h8' := h8
      try simp only [cmpB, Za, Zb, Zc, Zd, Ze, Zf, Zg, Zh, Zi, Zj, Zk, Zl, Zm, Zn, Zo, Zp, Zq, Zr] at h8
      have hin : i = n := by omega
      have hTn := hI.2
      rw [hin] at hTn
      refine J_exit ?_
      refine JN_then_exit ?_
      refine JN_then_exit ?_
      refine JN_exit_here ?_
      refine JN_then ?_
      refine J_to (To.emps 1) ?_
      refine J_seq (J_reg [] (.cons (.no) _ _ (op_move (Lk.t rfl)) <| .cons (.no) _ _ (op_move (Lk.t rfl)) <| .cons (.no) _ _ (op_build zr29 rfl pl29 (.cons rfl (Lk.t rfl) co_isv rfl (puts_l rfl (Nat.le_of_ble_eq_true rfl)) (.cons rfl (Lk.t rfl) co_isv rfl (puts_l rfl (Nat.le_of_ble_eq_true rfl)) .nil))) <| .cons (.wr 3) _ _ (op_alloc 3 zr29 rfl rfl) <| .cons (.wr 3) _ _ (op_store_new 3 rfl (Lk.t rfl) co_agg sz29 rfl rfl) <| .nil) ff rfl fun g41 => ⟨_, _, [0, 1, 2, 3], rfl, (.cons 2 rfl <| .cons 10 rfl <| .cons 11 rfl <| .cons 15 rfl <| .nil), (.cons 0 rfl <| .cons 1 rfl <| .cons 2 rfl <| .cons 3 rfl <| .nil), ?_⟩)
      refine JN_then ?_
      refine J_seq ?_
      refine J_to (To.res 0 (r' := pool n (poolX vs 35 (triTo (besRow ms n) n))) rfl (res_eq (by rw [hin])) rfl) ?_
      refine J_to (To.emps 1) ?_
      refine J_to (To.res 4 (r' := som (.slice none 0 0) flp [] 35) rfl som_nil rfl) ?_
      refine J_seq (J_reg [] (.cons (.no) _ _ (op_move (Lk.t rfl)) <| .cons (.no) _ _ (op_move (Lk.k rfl)) <| .nil) ff rfl fun g42 => ⟨_, _, [0, 1, 2, 3, 4], rfl, (.cons 2 rfl <| .cons 10 rfl <| .cons 11 rfl <| .cons 15 rfl <| .cons 120 rfl <| .cons 121 rfl <| .nil), (.cons 0 rfl <| .cons 1 rfl <| .cons 2 rfl <| .cons 3 rfl <| .cons 4 rfl <| .nil), ?_⟩)
      refine JN_then ?_
      refine J_block ?_
      refine J_loopc (α := Nat × Value) (fun x => x.1 ≤ n) (fun x => n - x.1) (fun x restR => (121, isv (.int .i64 (x.1 : Int))) :: restR) (fun x restS => som x.2 flp ((grid (n : Int) (n : Int) fun a b => triN (triTo (besRow ms n) n) a.toNat b.toNat).take (x.1 * n)) 35 :: blk (g41 15) [isv (.int .i64 (n : Int)), isv (.int .i64 (n : Int)), isv x.2] 29 :: restS) (ρc := [(2, _), (10, _), (11, _), (15, _), (120, _)]) (σc := [_, _, _]) (0, NILV) (by exact Nat.zero_le _) (To.pick (fun _ => .sub (t := 121) rfl (sp_eq (by rfl)) <| .cons 2 rfl <| .cons 10 rfl <| .cons 11 rfl <| .cons 15 rfl <| .cons 120 rfl <| .nil) (fun _ => .sub 4 rfl ((res_eq (by rw [Nat.zero_mul, List.take_zero]))) <| .sub 3 rfl ((fun _ _ h => h)) <| .cons 0 rfl <| .cons 1 rfl <| .cons 2 rfl <| .nil) (ks := [4, 3, 0, 1, 2]) rfl) (fun x hI => ?_)
      obtain ⟨p, sv⟩ := x
      try simp only at hI
      show J _ _ ((121, isv (.int .i64 (p : Int))) :: _) (som sv flp ((grid (n : Int) (n : Int) fun a b => triN (triTo (besRow ms n) n) a.toNat b.toNat).take (p * n)) 35 :: blk (g41 15) [isv (.int .i64 (n : Int)), isv (.int .i64 (n : Int)), isv sv] 29 :: _) _ _
      refine J_seq (J_reg [] (.cons (.no) _ _ (op_cmp (by simp) (Lk.t rfl) (Lk.t rfl) rfl) <| .nil) ff rfl fun g43 => ⟨_, _, [0, 1, 2, 3, 4], rfl, (.cons 2 rfl <| .cons 10 rfl <| .cons 11 rfl <| .cons 15 rfl <| .cons 120 rfl <| .cons 121 rfl <| .cons 122 rfl <| .nil), (.cons 0 rfl <| .cons 1 rfl <| .cons 2 rfl <| .cons 3 rfl <| .cons 4 rfl <| .nil), ?_⟩)
      refine JN_then ?_
      refine J_seq ?_
      refine J_cond (cond_of (Lk.t rfl)) (fun h12 => ?_) (fun h12 => ?_)
      ·have h12' := h12
       try simp only [cmpB, Za, Zb, Zc, Zd, Ze, Zf, Zg, Zh, Zi, Zj, Zk, Zl, Zm, Zn, Zo, Zp, Zq, Zr] at h12
       refine J_skip ?_
       refine JN_then ?_
       refine J_seq ?_
       refine J_block ?_
       refine J_seq (J_reg [] (.cons (.no) _ _ (op_move (Lk.t rfl)) <| .cons (.no) _ _ (op_assign (Lk.t rfl)) <| .nil) ff rfl fun g44 => ⟨_, _, [0, 1, 2, 3, 4], rfl, (.cons 2 rfl <| .cons 10 rfl <| .cons 11 rfl <| .cons 15 rfl <| .cons 16 rfl <| .cons 120 rfl <| .cons 121 rfl <| .nil), (.cons 0 rfl <| .cons 1 rfl <| .cons 2 rfl <| .cons 3 rfl <| .cons 4 rfl <| .nil), ?_⟩)
       refine JN_then ?_
       refine J_seq (J_reg [] (.cons (.no) _ _ (op_move (Lk.t rfl)) <| .cons (.no) _ _ (op_move (Lk.k rfl)) <| .nil) ff rfl fun g45 => ⟨_, _, [0, 1, 2, 3, 4], rfl, (.cons 2 rfl <| .cons 10 rfl <| .cons 11 rfl <| .cons 15 rfl <| .cons 16 rfl <| .cons 120 rfl <| .cons 121 rfl <| .cons 124 rfl <| .cons 125 rfl <| .nil), (.cons 0 rfl <| .cons 1 rfl <| .cons 2 rfl <| .cons 3 rfl <| .cons 4 rfl <| .nil), ?_⟩)
       refine JN_then ?_
       refine J_block ?_
       refine J_loopc (α := Nat × Value) (fun y => y.1 ≤ n) (fun y => n - y.1) (fun y restR => (125, isv (.int .i64 (y.1 : Int))) :: restR) (fun y restS => som y.2 flp ((grid (n : Int) (n : Int) fun a b => triN (triTo (besRow ms n) n) a.toNat b.toNat).take (p * n + y.1)) 35 :: blk (g41 15) [isv (.int .i64 (n : Int)), isv (.int .i64 (n : Int)), isv y.2] 29 :: restS) (ρc := [(2, _), (10, _), (11, _), (15, _), (16, _), (120, _), (121, _), (124, _)]) (σc := [_, _, _]) (0, sv) (by exact Nat.zero_le _) (To.pick (fun _ => .sub (t := 125) rfl (sp_eq (by rfl)) <| .cons 2 rfl <| .cons 10 rfl <| .cons 11 rfl <| .cons 15 rfl <| .cons 16 rfl <| .cons 120 rfl <| .cons 121 rfl <| .cons 124 rfl <| .nil) (fun _ => .sub 0 rfl ((fun _ _ h => h)) <| .sub 1 rfl ((fun _ _ h => h)) <| .cons 2 rfl <| .cons 3 rfl <| .cons 4 rfl <| .nil) (ks := [0, 1, 2, 3, 4]) rfl) (fun y hQ => ?_)
       obtain ⟨q, tv⟩ := y
       try simp only at hQ
       show J _ _ ((125, isv (.int .i64 (q : Int))) :: _) (som tv flp ((grid (n : Int) (n : Int) fun a b => triN (triTo (besRow ms n) n) a.toNat b.toNat).take (p * n + q)) 35 :: blk (g41 15) [isv (.int .i64 (n : Int)), isv (.int .i64 (n : Int)), isv tv] 29 :: _) _ _
       refine J_seq (J_reg [] (.cons (.no) _ _ (op_cmp (by simp) (Lk.t rfl) (Lk.t rfl) rfl) <| .nil) ff rfl fun g46 => ⟨_, _, [0, 1, 2, 3, 4], rfl, (.cons 2 rfl <| .cons 10 rfl <| .cons 11 rfl <| .cons 15 rfl <| .cons 16 rfl <| .cons 120 rfl <| .cons 121 rfl <| .cons 124 rfl <| .cons 125 rfl <| .cons 126 rfl <| .nil), (.cons 0 rfl <| .cons 1 rfl <| .cons 2 rfl <| .cons 3 rfl <| .cons 4 rfl <| .nil), ?_⟩)
       refine JN_then ?_
       refine J_seq ?_
       refine J_cond (cond_of (Lk.t rfl)) (fun h13 => ?_) (fun h13 => ?_)
       ·have h13' := h13
        try simp only [cmpB, Za, Zb, Zc, Zd, Ze, Zf, Zg, Zh, Zi, Zj, Zk, Zl, Zm, Zn, Zo, Zp, Zq, Zr] at h13
        have htl := tri_take_le (F := triN (triTo (besRow ms n) n)) (n := n) (k := p * n + q) (by omega)
        have hlp := hTn.hl p (by omega)
        have hlq := hTn.hl q (by omega)
        refine J_skip ?_
        refine JN_then ?_
        refine J_seq ?_
        refine J_block ?_
        refine J_seq (J_reg [] (.cons (.no) _ _ (op_move (Lk.t rfl)) <| .cons (.no) _ _ (op_assign (Lk.t rfl)) <| .nil) ff rfl fun g47 => ⟨_, _, [0, 1, 2, 3, 4], rfl, (.cons 2 rfl <| .cons 10 rfl <| .cons 11 rfl <| .cons 15 rfl <| .cons 16 rfl <| .cons 17 rfl <| .cons 120 rfl <| .cons 121 rfl <| .cons 124 rfl <| .cons 125 rfl <| .nil), (.cons 0 rfl <| .cons 1 rfl <| .cons 2 rfl <| .cons 3 rfl <| .cons 4 rfl <| .nil), ?_⟩)
        refine JN_then ?_
        refine J_to (To.emps 1) ?_
        refine J_to (To.focus 2 5 p (by omega) rfl rfl rfl rfl) ?_
        refine J_to (To.res 5 (r' := som (vs.getD p NILV) flp (triTo (besRow ms n) n p) 35) rfl (res_eq (by show som _ flp _ _ = _; rfl)) rfl) ?_
        refine J_seq (J_reg [] (.cons (.no) _ _ (op_move (Lk.t rfl)) <| .cons (.no) _ _ (op_move (Lk.t rfl)) <| .cons (.rd 4) _ _ (op_index_som 4 sl65 (Lk.t rfl) (Lk.t rfl) rfl (by omega) (by omega)) <| .cons (.rd 4) _ _ ((op_get_som (mk := isv) (.slice none 0 0) 4 sc27 (Lk.t rfl) rfl (by omega)).sub rfl (isv_eq (by exact rfl))) <| .cons (.no) _ _ (op_move (Lk.t rfl)) <| .cons (.rd 5) _ _ (op_index_som 5 sl27 (Lk.t rfl) (Lk.t rfl) rfl (by omega) (by omega)) <| .cons (.rd 5) _ _ (op_get_som 0 5 sc35 (Lk.t rfl) rfl (by omega)) <| .cons (.no) _ _ (op_assign (Lk.t rfl)) <| .nil) ff rfl fun g48 => ⟨_, _, [0, 1, 2, 3, 4, 5], rfl, (.cons 2 rfl <| .cons 10 rfl <| .cons 11 rfl <| .cons 15 rfl <| .cons 16 rfl <| .cons 17 rfl <| .cons 18 rfl <| .cons 120 rfl <| .cons 121 rfl <| .cons 124 rfl <| .cons 125 rfl <| .nil), (.cons 0 rfl <| .cons 1 rfl <| .cons 2 rfl <| .cons 3 rfl <| .cons 4 rfl <| .cons 5 rfl <| .nil), ?_⟩)
        refine JN_then ?_
        refine J_seq ?_
        refine J_to (To.unfocus 2 5 p (by omega) rfl rfl rfl rfl) ?_
        refine J_to (To.res 2 (r' := pool n (poolX vs 35 (triTo (besRow ms n) n))) rfl (pool_back rfl) rfl) ?_
        refine J_to (To.emps 1) ?_
        refine J_to (To.focus 2 6 q (by omega) rfl rfl rfl rfl) ?_
        refine J_to (To.res 6 (r' := som (vs.getD q NILV) flp (triTo (besRow ms n) n q) 35) rfl (res_eq (by show som _ flp _ _ = _; rfl)) rfl) ?_
        refine J_seq (J_reg [] (.cons (.no) _ _ (op_move (Lk.t rfl)) <| .cons (.no) _ _ (op_move (Lk.t rfl)) <| .cons (.rd 4) _ _ (op_index_som 4 sl65 (Lk.t rfl) (Lk.t rfl) rfl (by omega) (by omega)) <| .cons (.rd 4) _ _ ((op_get_som (mk := isv) (.slice none 0 0) 4 sc27 (Lk.t rfl) rfl (by omega)).sub rfl (isv_eq (by exact rfl))) <| .cons (.no) _ _ (op_move (Lk.t rfl)) <| .cons (.rd 6) _ _ (op_index_som 6 sl27 (Lk.t rfl) (Lk.t rfl) rfl (by omega) (by omega)) <| .cons (.rd 6) _ _ (op_get_som 0 6 sc35 (Lk.t rfl) rfl (by omega)) <| .cons (.no) _ _ (op_fcmp (by simp) (Lk.t rfl) (Lk.fk rfl (by decide +kernel)) rfl) <| .nil) ff rfl fun g49 => ⟨_, _, [0, 1, 2, 3, 4, 6], rfl, (.cons 2 rfl <| .cons 10 rfl <| .cons 11 rfl <| .cons 15 rfl <| .cons 16 rfl <| .cons 18 rfl <| .cons 120 rfl <| .cons 121 rfl <| .cons 124 rfl <| .cons 125 rfl <| .cons 142 rfl <| .nil), (.cons 0 rfl <| .cons 1 rfl <| .cons 2 rfl <| .cons 3 rfl <| .cons 4 rfl <| .cons 6 rfl <| .nil), ?_⟩)
        refine JN_then ?_
        refine J_cond (cond_of (Lk.t rfl)) (fun h14 => ?_) (fun h14 => ?_)
        ·have h14' := h14
         try simp only [cmpB, Za, Zb, Zc, Zd, Ze, Zf, Zg, Zh, Zi, Zj, Zk, Zl, Zm, Zn, Zo, Zp, Zq, Zr] at h14
         have hput := tri_put1 (X := triTo (besRow ms n) n) (i := p) (j := q) h14'
         refine (J_reg [] (.cons (.no) _ _ (op_move (Lk.t rfl)) <| .cons (.no) _ _ (op_negf (Lk.t rfl)) <| .cons (.no) _ _ (op_assign (Lk.t rfl)) <| .nil) ff rfl fun g50 => ⟨_, _, [0, 1, 2, 3, 4, 5], rfl, (.cons 2 rfl <| .cons 10 rfl <| .cons 11 rfl <| .cons 15 rfl <| .cons 16 rfl <| .cons 18 rfl <| .cons 120 rfl <| .cons 121 rfl <| .cons 124 rfl <| .cons 125 rfl <| .nil), (.cons 0 rfl <| .cons 1 rfl <| .cons 2 rfl <| .cons 3 rfl <| .cons 4 rfl <| .cons 5 rfl <| .nil), ?_⟩)
         refine JN_then ?_
         refine J_to (To.unfocus 2 5 q (by omega) rfl rfl rfl rfl) ?_
         refine J_to (To.res 2 (r' := pool n (poolX vs 35 (triTo (besRow ms n) n))) rfl (pool_back rfl) rfl) ?_
         refine (J_reg [] (.cons (.no) _ _ (op_field_own fd29_2 (Lk.t rfl) rfl) <| .cons (.rd 1) _ _ (op_get_sc 1 sc27 (Lk.t rfl) rfl mem_blk rfl) <| .cons (.no) _ _ (op_move (Lk.t rfl)) <| .cons (.no) _ _ (op_float (by simp) (Lk.t rfl) (Lk.fk rfl (by decide +kernel)) rfl) <| .cons (.no) _ _ (op_buildSlice sl27 zr35 rfl rfl rfl rfl (.cons rfl (Lk.t rfl) co_flp rfl (puts_l rfl (Nat.le_of_ble_eq_true rfl)) .nil)) <| .cons (.wr 0) _ _ (op_append_m 0 sl27 zr35 rfl (Lk.t rfl) (Lk.t rfl) rfl (by omega) (by omega)) <| .cons (.no) _ _ (op_field_own fd29_2 (Lk.t rfl) rfl) <| .cons (.wr 1) _ _ (op_store_sl 1 (Lk.t rfl) rfl sz27 rfl rfl) <| .nil) ff rfl fun g51 => ⟨_, _, [0, 1, 2, 3, 4], rfl, (.cons 2 rfl <| .cons 10 rfl <| .cons 11 rfl <| .cons 15 rfl <| .cons 16 rfl <| .cons 120 rfl <| .cons 121 rfl <| .cons 124 rfl <| .cons 125 rfl <| .nil), (.cons 0 rfl <| .cons 1 rfl <| .cons 2 rfl <| .cons 3 rfl <| .cons 4 rfl <| .nil), ?_⟩)
         refine JN_block ?_
         refine JN_then ?_
         refine (J_reg [] (.cons (.no) _ _ (op_add (Lk.t rfl) (Lk.k rfl) (wrap_id (by omega) (by omega))) <| .cons (.no) _ _ (op_move (Lk.t rfl)) <| .nil) ff rfl fun g52 => ⟨_, _, [0, 1, 2, 3, 4], rfl, (.cons 2 rfl <| .cons 10 rfl <| .cons 11 rfl <| .cons 15 rfl <| .cons 16 rfl <| .cons 120 rfl <| .cons 121 rfl <| .cons 124 rfl <| .cons 125 rfl <| .nil), (.cons 0 rfl <| .cons 1 rfl <| .cons 2 rfl <| .cons 3 rfl <| .cons 4 rfl <| .nil), ?_⟩)
         exact JN_again (q + 1, (g51 150)) (by exact (show q + 1 ≤ n by omega)) (by show n - (_ + 1) < _; omega) (To.pick (fun _ => .sub (t := 125) rfl (sp_eq (by rfl)) <| .cons 2 rfl <| .cons 10 rfl <| .cons 11 rfl <| .cons 15 rfl <| .cons 16 rfl <| .cons 120 rfl <| .cons 121 rfl <| .cons 124 rfl <| .nil) (fun _ => .sub 0 rfl ((res_eq (by rw [tri_take (F := triN (triTo (besRow ms n) n)) (by omega) (by omega), hput]; rfl))) <| .sub 1 rfl ((fun _ _ h => h)) <| .cons 2 rfl <| .cons 3 rfl <| .cons 4 rfl <| .nil) (ks := [0, 1, 2, 3, 4]) rfl)
        ·have h14' := h14
         try simp only [cmpB, Za, Zb, Zc, Zd, Ze, Zf, Zg, Zh, Zi, Zj, Zk, Zl, Zm, Zn, Zo, Zp, Zq, Zr] at h14
         have hput := tri_put0 (X := triTo (besRow ms n) n) (i := p) (j := q) h14'
         refine J_skip ?_
         refine JN_then ?_
         refine J_to (To.unfocus 2 5 q (by omega) rfl rfl rfl rfl) ?_
         refine J_to (To.res 2 (r' := pool n (poolX vs 35 (triTo (besRow ms n) n))) rfl (pool_back rfl) rfl) ?_
         refine (J_reg [] (.cons (.no) _ _ (op_field_own fd29_2 (Lk.t rfl) rfl) <| .cons (.rd 1) _ _ (op_get_sc 1 sc27 (Lk.t rfl) rfl mem_blk rfl) <| .cons (.no) _ _ (op_move (Lk.t rfl)) <| .cons (.no) _ _ (op_float (by simp) (Lk.t rfl) (Lk.fk rfl (by decide +kernel)) rfl) <| .cons (.no) _ _ (op_buildSlice sl27 zr35 rfl rfl rfl rfl (.cons rfl (Lk.t rfl) co_flp rfl (puts_l rfl (Nat.le_of_ble_eq_true rfl)) .nil)) <| .cons (.wr 0) _ _ (op_append_m 0 sl27 zr35 rfl (Lk.t rfl) (Lk.t rfl) rfl (by omega) (by omega)) <| .cons (.no) _ _ (op_field_own fd29_2 (Lk.t rfl) rfl) <| .cons (.wr 1) _ _ (op_store_sl 1 (Lk.t rfl) rfl sz27 rfl rfl) <| .nil) ff rfl fun g53 => ⟨_, _, [0, 1, 2, 3, 4], rfl, (.cons 2 rfl <| .cons 10 rfl <| .cons 11 rfl <| .cons 15 rfl <| .cons 16 rfl <| .cons 120 rfl <| .cons 121 rfl <| .cons 124 rfl <| .cons 125 rfl <| .nil), (.cons 0 rfl <| .cons 1 rfl <| .cons 2 rfl <| .cons 3 rfl <| .cons 4 rfl <| .nil), ?_⟩)
         refine JN_block ?_
         refine JN_then ?_
         refine (J_reg [] (.cons (.no) _ _ (op_add (Lk.t rfl) (Lk.k rfl) (wrap_id (by omega) (by omega))) <| .cons (.no) _ _ (op_move (Lk.t rfl)) <| .nil) ff rfl fun g54 => ⟨_, _, [0, 1, 2, 3, 4], rfl, (.cons 2 rfl <| .cons 10 rfl <| .cons 11 rfl <| .cons 15 rfl <| .cons 16 rfl <| .cons 120 rfl <| .cons 121 rfl <| .cons 124 rfl <| .cons 125 rfl <| .nil), (.cons 0 rfl <| .cons 1 rfl <| .cons 2 rfl <| .cons 3 rfl <| .cons 4 rfl <| .nil), ?_⟩)
         exact JN_again (q + 1, (g53 150)) (by exact (show q + 1 ≤ n by omega)) (by show n - (_ + 1) < _; omega) (To.pick (fun _ => .sub (t := 125) rfl (sp_eq (by rfl)) <| .cons 2 rfl <| .cons 10 rfl <| .cons 11 rfl <| .cons 15 rfl <| .cons 16 rfl <| .cons 120 rfl <| .cons 121 rfl <| .cons 124 rfl <| .nil) (fun _ => .sub 0 rfl ((res_eq (by rw [tri_take (F := triN (triTo (besRow ms n) n)) (by omega) (by omega), hput]; rfl))) <| .sub 1 rfl ((fun _ _ h => h)) <| .cons 2 rfl <| .cons 3 rfl <| .cons 4 rfl <| .nil) (ks := [0, 1, 2, 3, 4]) rfl)
       ·have h13' := h13
        try simp only [cmpB, Za, Zb, Zc, Zd, Ze, Zf, Zg, Zh, Zi, Zj, Zk, Zl, Zm, Zn, Zo, Zp, Zq, Zr] at h13
        refine J_exit ?_
        refine JN_then_exit ?_
        refine JN_then_exit ?_
        refine JN_exit_here ?_
        refine JN_block ?_
        refine JN_then ?_
        refine (J_reg [] (.cons (.no) _ _ (op_add (Lk.t rfl) (Lk.k rfl) (wrap_id (by omega) (by omega))) <| .cons (.no) _ _ (op_move (Lk.t rfl)) <| .nil) ff rfl fun g55 => ⟨_, _, [0, 1, 2, 3, 4], rfl, (.cons 2 rfl <| .cons 10 rfl <| .cons 11 rfl <| .cons 15 rfl <| .cons 120 rfl <| .cons 121 rfl <| .nil), (.cons 0 rfl <| .cons 1 rfl <| .cons 2 rfl <| .cons 3 rfl <| .cons 4 rfl <| .nil), ?_⟩)
        exact JN_again (p + 1, tv) (by exact (show p + 1 ≤ n by omega)) (by show n - (_ + 1) < _; omega) (To.pick (fun _ => .sub (t := 121) rfl (sp_eq (by rfl)) <| .cons 2 rfl <| .cons 10 rfl <| .cons 11 rfl <| .cons 15 rfl <| .cons 120 rfl <| .nil) (fun _ => .sub 0 rfl ((res_eq (by rw [show (p + 1) * n = p * n + q by rw [Nat.add_mul, Nat.one_mul]; omega]))) <| .sub 1 rfl ((fun _ _ h => h)) <| .cons 2 rfl <| .cons 3 rfl <| .cons 4 rfl <| .nil) (ks := [0, 1, 2, 3, 4]) rfl)
      ·have h12' := h12
       try simp only [cmpB, Za, Zb, Zc, Zd, Ze, Zf, Zg, Zh, Zi, Zj, Zk, Zl, Zm, Zn, Zo, Zp, Zq, Zr] at h12
       refine J_exit ?_
       refine JN_then_exit ?_
       refine JN_then_exit ?_
       refine JN_exit_here ?_
       refine JN_then ?_
       refine J_seq (J_reg [] (.cons (.rd 1) _ _ (op_get_ag 1 ag29 (Lk.t rfl) rfl mem_blk rfl rfl) <| .cons (.wr 3) _ _ (op_store_b 3 (Lk.t rfl) (Lk.t rfl) co_agg sz29 rfl rfl rfl) <| .cons (.no) _ _ (op_assign (Lk.k rfl)) <| .nil) ff rfl fun g56 => ⟨_, _, [0, 2, 3, 4], rfl, (.cons 2 rfl <| .cons 3 rfl <| .nil), (.cons 0 rfl <| .cons 2 rfl <| .cons 3 rfl <| .cons 4 rfl <| .nil), ?_⟩)
       refine JN_then ?_
       refine J_ret ?_
       refine JN_to (To.res 0 (r' := som sv flp (grid (n : Int) (n : Int) fun a b => triN (triTo (besRow ms n) n) a.toNat b.toNat) 35) rfl (res_eq (by rw [show p * n = ((n : Int)).toNat * ((n : Int)).toNat by rw [show p = n by omega]; rfl, take_grid_all])) rfl) ?_
       refine JN_to (To.freezeN 0 (fun _ h => h) rfl frz_som (pure_som pure_flp).n rfl) ?_
       refine JN_ret (.cons (.ag 2 (Lk.t rfl) ag29 rfl rfl rfl) <| .cons (.tmp (Lk.t rfl)) <| .nil) (sb_trans (sb_res (.cons (sb_agg (.cons sb_refl <| .cons sb_refl <| .cons (sb_fk 0 rfl) <| .nil)) <| .cons sb_refl <| .nil)) (sb_trans push_M (sb_newp ?_)))
       exact ret_M ((tri_done hTn).symm.trans hM.symm)
theorem qrN_ok {r c : Int} {xs : List Nat} (hlt : LtL xs) : CtN Try.prog 17 [MatP r c xs] (resQ2 (qrM r c xs)) := by
 refine CtN.of Try.func17 rfl (by kernel_rfl) rfl fun c0 => ?_
 refine J_to To.size ?_
 refine J_to (To.emps 3) ?_
 refine J_seq (J_reg [] (.cons (.wr 0) _ _ (op_box 0 (Lk.t rfl) co_agg rfl) <| .cons (.wr 1) _ _ (op_alloc 1 zr29 rfl rfl) <| .cons (.wr 2) _ _ (op_alloc 2 zr29 rfl rfl) <| .cons (.no) _ _ (op_assign (Lk.k rfl)) <| .nil) ff rfl fun g1 => ⟨_, _, [0, 1, 2], rfl, (.cons 1 rfl <| .cons 2 rfl <| .cons 3 rfl <| .nil), (.cons 0 rfl <| .cons 1 rfl <| .cons 2 rfl <| .nil), ?_⟩)
 refine JN_then ?_
 refine J_seq ?_
 refine J_seq (J_reg [] (.cons (.rd 0) _ _ (op_get_ag 0 ag29 (Lk.t rfl) rfl mem_blk rfl rfl) <| .cons (.no) _ _ (op_call (chk_ok) ⟨(Lk.t rfl),  trivial⟩) <| .cons (.no) _ _ (op_assign (Lk.t rfl)) <| .nil) ff rfl fun g2 => ⟨_, _, [0, 1, 2], rfl, (.cons 1 rfl <| .cons 2 rfl <| .cons 3 rfl <| .cons 4 rfl <| .nil), (.cons 0 rfl <| .cons 1 rfl <| .cons 2 rfl <| .nil), ?_⟩)
 refine JN_then ?_
 refine J_seq (J_reg [] (.cons (.no) _ _ (op_move (Lk.t rfl)) <| .cons (.no) _ _ (op_cmp (by simp) (Lk.t rfl) (Lk.k rfl) rfl) <| .nil) ff rfl fun g3 => ⟨_, _, [0, 1, 2], rfl, (.cons 1 rfl <| .cons 2 rfl <| .cons 3 rfl <| .cons 4 rfl <| .cons 20 rfl <| .nil), (.cons 0 rfl <| .cons 1 rfl <| .cons 2 rfl <| .nil), ?_⟩)
 refine JN_then ?_
 refine J_cond (cond_of (Lk.t rfl)) (fun h1 => ?_) (fun h1 => ?_)
 ·have h1' := h1
  try simp only [cmpB, Za, Zb, Zc, Zd, Ze, Zf, Zg, Zh, Zi, Zj, Zk, Zl, Zm, Zn, Zo, Zp, Zq, Zr] at h1
  refine J_ret ?_
  refine JN_then_ret ?_
  refine JN_ret (.cons (.ag 1 (Lk.t rfl) ag29 rfl rfl rfl) <| .cons (.ag 2 (Lk.t rfl) ag29 rfl rfl rfl) <| .cons (.tmp (Lk.t rfl)) <| .nil) (sb_trans (sb_res (.cons (sb_agg (.cons sb_refl <| .cons sb_refl <| .cons (sb_nilN (mk := flp)) <| .nil)) <| .cons (sb_agg (.cons sb_refl <| .cons sb_refl <| .cons (sb_nilN (mk := flp)) <| .nil)) <| .cons sb_refl <| .nil)) (sb_trans push_Q (sb_newp ?_)))
  exact sb_eq (by rw [qrM_1 (by simpa using h1)]; rfl)
 ·have h1' := h1
  try simp only [cmpB, Za, Zb, Zc, Zd, Ze, Zf, Zg, Zh, Zi, Zj, Zk, Zl, Zm, Zn, Zo, Zp, Zq, Zr] at h1
  have hz : chk r c xs = 0 := by simpa using h1
  have hck := chk_good hz
  obtain ⟨hs1, hs2, hs3, hs4⟩ := hck.1
  have hl := hck.2
  have hF : FinL xs := finL_mk (chk_zero.1 hz).2 hlt
  refine J_skip ?_
  refine JN_then ?_
  refine J_seq ?_
  refine J_seq (J_reg [] (.cons (.no) _ _ (op_field_own fd29_0 (Lk.t rfl) rfl) <| .cons (.rd 0) _ _ (op_get_sc 0 sc3 (Lk.t rfl) rfl mem_blk rfl) <| .cons (.no) _ _ (op_field_own fd29_1 (Lk.t rfl) rfl) <| .cons (.rd 0) _ _ (op_get_sc 0 sc3 (Lk.t rfl) rfl mem_blk rfl) <| .cons (.no) _ _ (op_cmp (by simp) (Lk.t rfl) (Lk.t rfl) rfl) <| .nil) ff rfl fun g4 => ⟨_, _, [0, 1, 2], rfl, (.cons 1 rfl <| .cons 2 rfl <| .cons 3 rfl <| .cons 25 rfl <| .nil), (.cons 0 rfl <| .cons 1 rfl <| .cons 2 rfl <| .nil), ?_⟩)
  refine JN_then ?_
  refine J_cond (cond_of (Lk.t rfl)) (fun h2 => ?_) (fun h2 => ?_)
  ·have h2' := h2
   try simp only [cmpB, Za, Zb, Zc, Zd, Ze, Zf, Zg, Zh, Zi, Zj, Zk, Zl, Zm, Zn, Zo, Zp, Zq, Zr] at h2
   refine J_seq (J_reg [[], [], [0], [0, 1, 2], [0, 1, 2, 3]] (.cons (.rd 1) _ _ (op_get_ag 1 ag29 (Lk.t rfl) rfl mem_blk rfl rfl) <| .cons (.rd 2) _ _ (op_get_ag 2 ag29 (Lk.t rfl) rfl mem_blk rfl rfl) <| .cons (.wr 1) _ _ (op_store_b 1 (Lk.t rfl) (Lk.t rfl) co_agg sz29 rfl rfl rfl) <| .cons (.wr 2) _ _ (op_store_b 2 (Lk.t rfl) (Lk.t rfl) co_agg sz29 rfl rfl rfl) <| .cons (.no) _ _ (op_assign (Lk.k rfl)) <| .nil) (fun _ => mixed) rfl fun g5 => ⟨_, _, [1, 2], rfl, (.cons 2 rfl <| .cons 3 rfl <| .cons 4 rfl <| .nil), (.cons 1 rfl <| .cons 2 rfl <| .nil), ?_⟩)
   refine JN_then ?_
   refine J_ret ?_
   refine JN_then_ret ?_
   refine JN_ret (.cons (.ag 0 (Lk.t rfl) ag29 rfl rfl rfl) <| .cons (.ag 1 (Lk.t rfl) ag29 rfl rfl rfl) <| .cons (.tmp (Lk.t rfl)) <| .nil) (sb_trans (sb_res (.cons (sb_agg (.cons sb_refl <| .cons sb_refl <| .cons (sb_nilN (mk := flp)) <| .nil)) <| .cons (sb_agg (.cons sb_refl <| .cons sb_refl <| .cons (sb_nilN (mk := flp)) <| .nil)) <| .cons sb_refl <| .nil)) (sb_trans push_Q (sb_newp ?_)))
   exact sb_eq (by rw [qrM_2 hz h2]; rfl)
  ·have h2' := h2
   try simp only [cmpB, Za, Zb, Zc, Zd, Ze, Zf, Zg, Zh, Zi, Zj, Zk, Zl, Zm, Zn, Zo, Zp, Zq, Zr] at h2
   have hrc : ¬ r < c := by omega
   obtain ⟨n, rfl⟩ : ∃ n : Nat, c = (n : Int) := ⟨c.toNat, by omega⟩
   obtain ⟨m, rfl⟩ : ∃ m : Nat, r = (m : Int) := ⟨r.toNat, by omega⟩
   have hT0 : TriI (colX (m : Int) (n : Int) xs) n m 0 := qtri_start rfl hF
   have hX0 : ∀ j, j < n → ((colX (m : Int) (n : Int) xs) j).length = m := fun j _ => colX_len j
   refine J_skip ?_
   refine JN_then ?_
   refine J_to (To.emps 1) ?_
   refine J_seq (J_reg [] (.cons (.rd 0) _ _ (op_get_ag 0 ag29 (Lk.t rfl) rfl mem_blk rfl rfl) <| .cons (.wr 3) _ _ (op_callF 3 (colsF_ok (by assumption)) ⟨(Lk.t rfl),  trivial⟩ rfl) <| .cons (.no) _ _ (op_assign_ve rfl rfl) <| .nil) ff rfl fun g6 => ⟨_, _, [0, 1, 2, 3], rfl, (.cons 1 rfl <| .cons 2 rfl <| .cons 3 rfl <| .cons 5 rfl <| .nil), (.cons 0 rfl <| .cons 1 rfl <| .cons 2 rfl <| .cons 3 rfl <| .nil), ?_⟩)
   refine JN_then ?_
   refine J_seq (J_reg [] (.cons (.no) _ _ (op_assign (Lk.k rfl)) <| .nil) ff rfl fun g7 => ⟨_, _, [0, 1, 2, 3], rfl, (.cons 1 rfl <| .cons 2 rfl <| .cons 3 rfl <| .cons 5 rfl <| .cons 6 rfl <| .nil), (.cons 0 rfl <| .cons 1 rfl <| .cons 2 rfl <| .cons 3 rfl <| .nil), ?_⟩)
   refine JN_then ?_
   refine J_seq ?_
   refine J_ex 3 rfl fun vsp => ?_
   obtain ⟨vs0, hvs0⟩ := vsp
   rw [length_colsL] at hvs0
   have hvs0 : vs0.length = n := hvs0
   refine J_to (To.emps 1) ?_
   refine J_to (To.res 3 (r' := (som (g6 29) isv vs0 27).sep (pool n (poolX vs0 35 (colX (m : Int) (n : Int) xs)))) rfl (cols_open rfl) rfl) ?_
   refine J_to (To.split 3 4 rfl rfl rfl rfl) ?_
   refine J_to (To.emps 1) ?_
   refine J_to (To.res 5 (r' := somk (.slice none 0 0) 3 glsU [] 59) rfl somk_nil rfl) ?_
   refine J_seq (J_reg [] (.cons (.no) _ _ (op_field_own fd29_1 (Lk.t rfl) rfl) <| .cons (.rd 0) _ _ (op_get_sc 0 sc3 (Lk.t rfl) rfl mem_blk rfl) <| .cons (.no) _ _ (op_move (Lk.k rfl)) <| .nil) ff rfl fun g8 => ⟨_, _, [0, 1, 2, 3, 4, 5], rfl, (.cons 1 rfl <| .cons 2 rfl <| .cons 3 rfl <| .cons 5 rfl <| .cons 6 rfl <| .cons 31 rfl <| .cons 32 rfl <| .nil), (.cons 0 rfl <| .cons 1 rfl <| .cons 2 rfl <| .cons 3 rfl <| .cons 4 rfl <| .cons 5 rfl <| .nil), ?_⟩)
   refine JN_then ?_
   refine J_block ?_
   refine J_loopc (α := Nat × Value) (fun x => x.1 ≤ n ∧ TriI (colX (m : Int) (n : Int) xs) n m x.1) (fun x => n - x.1) (fun x restR => (32, isv (.int .i64 (x.1 : Int))) :: (6, isv x.2) :: restR) (fun x restS => somk x.2 3 glsU (glsTo (colX (m : Int) (n : Int) xs) x.1) 59 :: pool n (poolX vs0 35 (triTo (colX (m : Int) (n : Int) xs) x.1)) :: restS) (ρc := [(1, _), (2, _), (3, _), (5, _), (31, _)]) (σc := [_, _, _, _]) (0, NILV) (by exact ⟨Nat.zero_le _, hT0⟩) (To.pick (fun _ => .sub (t := 32) rfl (sp_eq (by rfl)) <| .sub (t := 6) rfl (sp_eq (by rfl)) <| .cons 1 rfl <| .cons 2 rfl <| .cons 3 rfl <| .cons 5 rfl <| .cons 31 rfl <| .nil) (fun _ => .sub 5 rfl ((fun _ _ h => h)) <| .sub 4 rfl ((fun _ _ h => h)) <| .cons 0 rfl <| .cons 1 rfl <| .cons 2 rfl <| .cons 3 rfl <| .nil) (ks := [5, 4, 0, 1, 2, 3]) rfl) (fun x hI => ?_)
   obtain ⟨i, gv⟩ := x
   try simp only at hI
   show J _ _ ((32, isv (.int .i64 (i : Int))) :: (6, isv gv) :: _) (somk gv 3 glsU (glsTo (colX (m : Int) (n : Int) xs) i) 59 :: pool n (poolX vs0 35 (triTo (colX (m : Int) (n : Int) xs) i)) :: _) _ _
   have hin0 : i ≤ n := hI.1
   have hT : TriI (colX (m : Int) (n : Int) xs) n m i := hI.2
   refine J_seq (J_reg [] (.cons (.no) _ _ (op_cmp (by simp) (Lk.t rfl) (Lk.t rfl) rfl) <| .nil) ff rfl fun g9 => ⟨_, _, [0, 1, 2, 3, 4, 5], rfl, (.cons 1 rfl <| .cons 2 rfl <| .cons 3 rfl <| .cons 5 rfl <| .cons 6 rfl <| .cons 31 rfl <| .cons 32 rfl <| .cons 33 rfl <| .nil), (.cons 0 rfl <| .cons 1 rfl <| .cons 2 rfl <| .cons 3 rfl <| .cons 4 rfl <| .cons 5 rfl <| .nil), ?_⟩)
   refine JN_then ?_
   refine J_seq ?_
   refine J_cond (cond_of (Lk.t rfl)) (fun h3 => ?_) (fun h3 => ?_)
   ·have h3' := h3
    try simp only [cmpB, Za, Zb, Zc, Zd, Ze, Zf, Zg, Zh, Zi, Zj, Zk, Zl, Zm, Zn, Zo, Zp, Zq, Zr] at h3
    have hli := hT.hl i (by omega)
    have hgll := length_glsTo (colX (m : Int) (n : Int) xs) i
    refine J_skip ?_
    refine JN_then ?_
    refine J_seq ?_
    refine J_block ?_
    refine J_seq (J_reg [] (.cons (.no) _ _ (op_move (Lk.t rfl)) <| .cons (.no) _ _ (op_assign (Lk.t rfl)) <| .nil) ff rfl fun g10 => ⟨_, _, [0, 1, 2, 3, 4, 5], rfl, (.cons 1 rfl <| .cons 2 rfl <| .cons 3 rfl <| .cons 5 rfl <| .cons 6 rfl <| .cons 7 rfl <| .cons 31 rfl <| .cons 32 rfl <| .nil), (.cons 0 rfl <| .cons 1 rfl <| .cons 2 rfl <| .cons 3 rfl <| .cons 4 rfl <| .cons 5 rfl <| .nil), ?_⟩)
    refine JN_then ?_
    refine J_to (To.emps 1) ?_
    refine J_to (To.focus 1 6 i (by omega) rfl rfl rfl rfl) ?_
    refine J_to (To.res 6 (r' := som (vs0.getD i NILV) flp (triTo (colX (m : Int) (n : Int) xs) i i) 35) rfl (res_eq (by show som _ flp _ _ = _; rfl)) rfl) ?_
    refine J_to (To.emps 2) ?_
    refine J_seq (J_reg [] (.cons (.no) _ _ (op_move (Lk.t rfl)) <| .cons (.no) _ _ (op_move (Lk.t rfl)) <| .cons (.rd 5) _ _ (op_index_som 5 sl65 (Lk.t rfl) (Lk.t rfl) rfl (by omega) (by omega)) <| .cons (.rd 5) _ _ ((op_get_som (mk := isv) (.slice none 0 0) 5 sc27 (Lk.t rfl) rfl (by omega)).sub rfl (isv_eq (by exact rfl))) <| .cons (.no) _ _ (op_move (Lk.t rfl)) <| .cons (.rd 6) _ _ (op_slice_vsl 6 sl27 (Lk.t rfl) (Lk.t rfl) rfl (by omega) (by omega)) <| .cons (.wr 6) _ _ (op_callBF 6 (houseF_ok (xs := (triTo (colX (m : Int) (n : Int) xs) i i).drop i) (finL_drop (hT.hf i (by omega)) i) (by rw [List.length_drop]; omega)) (fun _ => pure_agg (.cons (pure_isv _) <| .cons (pure_flp _) <| .cons (pure_flp _) .nil)) (fun _ => pure_som pure_flp) (Lk.t rfl) rfl) <| .cons (.wr 7) _ _ (op_alloc 7 zr59 rfl rfl) <| .cons (.wr 7) _ _ (op_store_new_ve 7 rfl rfl rfl (fun f => co_agg) (fun f g h => by rw [h 41 (show 41 ∈ [41] from by decide)]) (fun _ => sz59) rfl (fun _ => rfl) rfl) <| .nil) ff rfl fun g11 => ⟨_, _, [0, 1, 2, 3, 4, 5, 6, 7], rfl, (.cons 1 rfl <| .cons 2 rfl <| .cons 3 rfl <| .cons 5 rfl <| .cons 6 rfl <| .cons 7 rfl <| .cons 8 rfl <| .cons 31 rfl <| .cons 32 rfl <| .nil), (.cons 0 rfl <| .cons 1 rfl <| .cons 2 rfl <| .cons 3 rfl <| .cons 4 rfl <| .cons 5 rfl <| .cons 6 rfl <| .cons 7 rfl <| .nil), ?_⟩)
    refine JN_then ?_
    refine J_to (To.emps 1) ?_
    refine J_to (To.split 6 8 rfl rfl rfl rfl) ?_
    refine J_to (To.unfocus 1 6 i (by omega) rfl rfl rfl rfl) ?_
    refine J_to (To.res 1 (r' := pool n (poolX vs0 35 (triTo (colX (m : Int) (n : Int) xs) i))) rfl (pool_back rfl) rfl) ?_
    refine J_to (To.freeze 8 (fun _ h => h) rfl frz_som rfl) ?_
    refine J_seq (J_JO ?_)
    refine JO_split 2 rfl ?_
    refine (JO_reg (.cons (.no) _ _ (op_move (Lk.t rfl)) <| .cons (.rd 7) _ _ (op_get_ag 7 ag59 (Lk.t rfl) rfl mem_blk rfl rfl) <| .nil) rfl fun g12 => ⟨_, _, [0, 1, 2, 3, 4, 5, 7], rfl, (.cons 1 rfl <| .cons 2 rfl <| .cons 3 rfl <| .cons 5 rfl <| .cons 7 rfl <| .cons 8 rfl <| .cons 31 rfl <| .cons 32 rfl <| .cons 42 rfl <| .cons 43 rfl <| .nil), (.cons 0 rfl <| .cons 1 rfl <| .cons 2 rfl <| .cons 3 rfl <| .cons 4 rfl <| .cons 5 rfl <| .cons 7 rfl <| .nil), ?_⟩)
    refine JN_to (To.slot 43 rfl (q := aggp (glsU (glsAt (colX (m : Int) (n : Int) xs) i))) (sb_agg (.cons (sb_fk 0 rfl) <| .cons sb_refl <| .cons sb_refl <| .nil))) ?_
    refine JN_seg ?_
    refine (JO_reg (.cons (.no) _ _ (op_buildSlice sl70 zr59 rfl rfl rfl rfl (.cons rfl (Lk.t rfl) co_agg rfl (puts_l rfl (Nat.le_of_ble_eq_true rfl)) .nil)) <| .cons (.wr 0) _ _ (op_append_k (glsAt (colX (m : Int) (n : Int) xs) i) 0 sl70 zr59 rfl rfl (Lk.t rfl) (Lk.t rfl) rfl (by rw [hgll]; omega) (by rw [hgll]; omega)) <| .cons (.no) _ _ (op_assign_ve rfl rfl) <| .nil) rfl fun g13 => ⟨_, _, [0, 1, 2, 3, 4, 5, 6], rfl, (.cons 1 rfl <| .cons 2 rfl <| .cons 3 rfl <| .cons 5 rfl <| .cons 6 rfl <| .cons 7 rfl <| .cons 8 rfl <| .cons 31 rfl <| .cons 32 rfl <| .nil), (.cons 0 rfl <| .cons 1 rfl <| .cons 2 rfl <| .cons 3 rfl <| .cons 4 rfl <| .cons 5 rfl <| .cons 6 rfl <| .nil), ?_⟩)
    refine JN_then ?_
    refine J_seq ?_
    refine J_seq (J_reg [] (.cons (.no) _ _ (op_move (Lk.t rfl)) <| .cons (.no) _ _ (op_add (Lk.t rfl) (Lk.k rfl) (wrap_id (by omega) (by omega))) <| .cons (.no) _ _ (op_assign (Lk.t rfl)) <| .nil) ff rfl fun g14 => ⟨_, _, [0, 1, 2, 3, 4, 5, 6], rfl, (.cons 1 rfl <| .cons 2 rfl <| .cons 3 rfl <| .cons 5 rfl <| .cons 6 rfl <| .cons 7 rfl <| .cons 8 rfl <| .cons 9 rfl <| .cons 31 rfl <| .cons 32 rfl <| .nil), (.cons 0 rfl <| .cons 1 rfl <| .cons 2 rfl <| .cons 3 rfl <| .cons 4 rfl <| .cons 5 rfl <| .cons 6 rfl <| .nil), ?_⟩)
    refine JN_then ?_
    refine J_block ?_
    refine J_loopc (α := Nat) (fun k => i + 1 ≤ k ∧ k ≤ n ∧ ∀ j, i < j → j < k → (mirW (gls (triTo (colX (m : Int) (n : Int) xs) i) i) i (triTo (colX (m : Int) (n : Int) xs) i j)).all finB = true) (fun k => n - k) (fun k restR => (9, isv (.int .i64 (k : Int))) :: restR) (fun k restS => pool n (poolX vs0 35 (midF (triTo (colX (m : Int) (n : Int) xs) i) i k)) :: restS) (ρc := [(1, _), (2, _), (3, _), (5, _), (6, _), (7, _), (8, _), (31, _), (32, _)]) (σc := [_, _, _, _, _, _]) (i + 1) (by exact ⟨Nat.le_refl _, by omega, fun j h1 h2 => by omega⟩) (To.pick (fun _ => .sub (t := 9) rfl (sp_eq (by rfl)) <| .cons 1 rfl <| .cons 2 rfl <| .cons 3 rfl <| .cons 5 rfl <| .cons 6 rfl <| .cons 7 rfl <| .cons 8 rfl <| .cons 31 rfl <| .cons 32 rfl <| .nil) (fun _ => .sub 1 rfl ((pool_mid0)) <| .cons 0 rfl <| .cons 2 rfl <| .cons 3 rfl <| .cons 4 rfl <| .cons 5 rfl <| .cons 6 rfl <| .nil) (ks := [1, 0, 2, 3, 4, 5, 6]) rfl) (fun k hK => ?_)
    refine J_seq ?_
    refine J_seq (J_reg [] (.cons (.no) _ _ (op_move (Lk.t rfl)) <| .cons (.no) _ _ (op_field_own fd29_1 (Lk.t rfl) rfl) <| .cons (.rd 2) _ _ (op_get_sc 2 sc3 (Lk.t rfl) rfl mem_blk rfl) <| .cons (.no) _ _ (op_cmp (by simp) (Lk.t rfl) (Lk.t rfl) rfl) <| .nil) ff rfl fun g15 => ⟨_, _, [0, 1, 2, 3, 4, 5, 6], rfl, (.cons 1 rfl <| .cons 2 rfl <| .cons 3 rfl <| .cons 5 rfl <| .cons 6 rfl <| .cons 7 rfl <| .cons 8 rfl <| .cons 9 rfl <| .cons 31 rfl <| .cons 32 rfl <| .cons 51 rfl <| .nil), (.cons 0 rfl <| .cons 1 rfl <| .cons 2 rfl <| .cons 3 rfl <| .cons 4 rfl <| .cons 5 rfl <| .cons 6 rfl <| .nil), ?_⟩)
    refine JN_then ?_
    refine J_cond (cond_of (Lk.t rfl)) (fun h4 => ?_) (fun h4 => ?_)
    ·have h4' := h4
     try simp only [cmpB, Za, Zb, Zc, Zd, Ze, Zf, Zg, Zh, Zi, Zj, Zk, Zl, Zm, Zn, Zo, Zp, Zq, Zr] at h4
     have hlk := hT.hl k (by omega)
     have hvk : (houseL ((triTo (colX (m : Int) (n : Int) xs) i i).drop i)).v.length = (triTo (colX (m : Int) (n : Int) xs) i k).length - i := by rw [length_houseL, List.length_drop, hli, hlk]
     refine J_skip ?_
     refine JN_then ?_
     refine J_seq ?_
     refine J_block ?_
     refine J_to (To.emps 1) ?_
     refine J_to (To.focus 0 7 k (by omega) rfl rfl rfl rfl) ?_
     refine J_to (To.res 7 (r' := som (vs0.getD k NILV) flp (triTo (colX (m : Int) (n : Int) xs) i k) 35) rfl (res_eq (by show som _ flp _ _ = _; rw [mid_at (by omega)])) rfl) ?_
     refine J_seq (J_reg [[], [], [], [1, 2], [1, 2, 3], [], [1, 2, 3, 4, 5], [0, 1, 2, 3, 4, 5, 6]] (.cons (.rd 6) _ _ (op_get_ag 6 ag59 (Lk.t rfl) rfl mem_blk rfl rfl) <| .cons (.no) _ _ (op_move (Lk.t rfl)) <| .cons (.no) _ _ (op_move (Lk.t rfl)) <| .cons (.rd 5) _ _ (op_index_som 5 sl65 (Lk.t rfl) (Lk.t rfl) rfl (by omega) (by omega)) <| .cons (.rd 5) _ _ ((op_get_som (mk := isv) (.slice none 0 0) 5 sc27 (Lk.t rfl) rfl (by omega)).sub rfl (isv_eq (by exact rfl))) <| .cons (.no) _ _ (op_move (Lk.t rfl)) <| .cons (.rd 7) _ _ (op_slice_vsl 7 sl27 (Lk.t rfl) (Lk.t rfl) rfl (by omega) (by omega)) <| .cons (.wr 7) _ _ (op_callM 7 (mirror_ok (i := i) (xs := triTo (colX (m : Int) (n : Int) xs) i k) (v := (houseL ((triTo (colX (m : Int) (n : Int) xs) i i).drop i)).v) (by omega) hvk (by omega)) ⟨(Lk.sub (sb_agg (.cons (sb_fk 0 rfl) <| .cons sb_refl <| .cons sb_refl <| .nil)) (Lk.t rfl)), (Lk.t rfl),  trivial⟩ rfl) <| .nil) (fun _ => mixed) rfl fun g16 => ⟨_, _, [0, 1, 2, 3, 4, 5, 6, 7], rfl, (.cons 1 rfl <| .cons 2 rfl <| .cons 3 rfl <| .cons 5 rfl <| .cons 6 rfl <| .cons 7 rfl <| .cons 8 rfl <| .cons 9 rfl <| .cons 31 rfl <| .cons 32 rfl <| .nil), (.cons 0 rfl <| .cons 1 rfl <| .cons 2 rfl <| .cons 3 rfl <| .cons 4 rfl <| .cons 5 rfl <| .cons 6 rfl <| .cons 7 rfl <| .nil), ?_⟩)
     refine JN_then ?_
     refine J_seq (J_reg [] (.cons (.no) _ _ (op_move (Lk.t rfl)) <| .cons (.no) _ _ (op_move (Lk.t rfl)) <| .cons (.rd 5) _ _ (op_index_som 5 sl65 (Lk.t rfl) (Lk.t rfl) rfl (by omega) (by omega)) <| .cons (.rd 5) _ _ ((op_get_som (mk := isv) (.slice none 0 0) 5 sc27 (Lk.t rfl) rfl (by omega)).sub rfl (isv_eq (by exact rfl))) <| .cons (.rd 7) _ _ (op_callB0 7 (finite_ok (xs := mirW (gls (triTo (colX (m : Int) (n : Int) xs) i) i) i (triTo (colX (m : Int) (n : Int) xs) i k))) (pure_isv _) (Lk.t rfl) rfl) <| .cons (.no) _ _ (op_not (Lk.t rfl)) <| .nil) ff rfl fun g17 => ⟨_, _, [0, 1, 2, 3, 4, 5, 6, 7], rfl, (.cons 1 rfl <| .cons 2 rfl <| .cons 3 rfl <| .cons 5 rfl <| .cons 6 rfl <| .cons 7 rfl <| .cons 8 rfl <| .cons 9 rfl <| .cons 31 rfl <| .cons 32 rfl <| .cons 67 rfl <| .nil), (.cons 0 rfl <| .cons 1 rfl <| .cons 2 rfl <| .cons 3 rfl <| .cons 4 rfl <| .cons 5 rfl <| .cons 6 rfl <| .cons 7 rfl <| .nil), ?_⟩)
     refine JN_then ?_
     refine J_cond (cond_of (Lk.t rfl)) (fun h5 => ?_) (fun h5 => ?_)
     ·have h5' := h5
      try simp only [cmpB, Za, Zb, Zc, Zd, Ze, Zf, Zg, Zh, Zi, Zj, Zk, Zl, Zm, Zn, Zo, Zp, Zq, Zr] at h5
      refine J_seq (J_reg [[], [], [0], [0, 1, 2], [0, 1, 2, 3]] (.cons (.rd 3) _ _ (op_get_ag 3 ag29 (Lk.t rfl) rfl mem_blk rfl rfl) <| .cons (.rd 4) _ _ (op_get_ag 4 ag29 (Lk.t rfl) rfl mem_blk rfl rfl) <| .cons (.wr 3) _ _ (op_store_b 3 (Lk.t rfl) (Lk.t rfl) co_agg sz29 rfl rfl rfl) <| .cons (.wr 4) _ _ (op_store_b 4 (Lk.t rfl) (Lk.t rfl) co_agg sz29 rfl rfl rfl) <| .cons (.no) _ _ (op_assign (Lk.k rfl)) <| .nil) (fun _ => mixed) rfl fun g18 => ⟨_, _, [0, 1, 3, 4, 5, 7], rfl, (.cons 2 rfl <| .cons 3 rfl <| .cons 4 rfl <| .nil), (.cons 0 rfl <| .cons 1 rfl <| .cons 3 rfl <| .cons 4 rfl <| .cons 5 rfl <| .cons 7 rfl <| .nil), ?_⟩)
      refine JN_then ?_
      refine J_ret ?_
      refine JN_block_ret ?_
      refine JN_then_ret ?_
      refine JN_then_ret ?_
      refine JN_block_ret ?_
      refine JN_then_ret ?_
      refine JN_block_ret ?_
      refine JN_then_ret ?_
      refine JN_then_ret ?_
      refine JN_block_ret ?_
      refine JN_then_ret ?_
      refine JN_ret (.cons (.ag 2 (Lk.t rfl) ag29 rfl rfl rfl) <| .cons (.ag 3 (Lk.t rfl) ag29 rfl rfl rfl) <| .cons (.tmp (Lk.t rfl)) <| .nil) (sb_trans (sb_res (.cons (sb_agg (.cons sb_refl <| .cons sb_refl <| .cons (sb_nilN (mk := flp)) <| .nil)) <| .cons (sb_agg (.cons sb_refl <| .cons sb_refl <| .cons (sb_nilN (mk := flp)) <| .nil)) <| .cons sb_refl <| .nil)) (sb_trans push_Q (sb_newp ?_)))
      exact sb_eq (by rw [qrM_3 hz hrc rfl (show i < n by omega) (over_1 (i := i) (k := k) (by omega) (by omega) (by simpa using h5))]; rfl)
     ·have h5' := h5
      try simp only [cmpB, Za, Zb, Zc, Zd, Ze, Zf, Zg, Zh, Zi, Zj, Zk, Zl, Zm, Zn, Zo, Zp, Zq, Zr] at h5
      have hfk : (mirW (gls (triTo (colX (m : Int) (n : Int) xs) i) i) i (triTo (colX (m : Int) (n : Int) xs) i k)).all finB = true := by simpa using h5
      refine J_skip ?_
      refine JN_block ?_
      refine JN_then ?_
      refine J_to (To.unfocus 0 7 k (by omega) rfl rfl rfl rfl) ?_
      refine J_to (To.res 0 (r' := pool n (poolX vs0 35 (midF (triTo (colX (m : Int) (n : Int) xs) i) i (k + 1)))) rfl (pool_mid (by omega) rfl) rfl) ?_
      refine (J_reg [] (.cons (.no) _ _ (op_move (Lk.t rfl)) <| .cons (.no) _ _ (op_add (Lk.t rfl) (Lk.k rfl) (wrap_id (by omega) (by omega))) <| .cons (.no) _ _ (op_assign (Lk.t rfl)) <| .nil) ff rfl fun g19 => ⟨_, _, [0, 1, 2, 3, 4, 5, 6], rfl, (.cons 1 rfl <| .cons 2 rfl <| .cons 3 rfl <| .cons 5 rfl <| .cons 6 rfl <| .cons 7 rfl <| .cons 8 rfl <| .cons 9 rfl <| .cons 31 rfl <| .cons 32 rfl <| .nil), (.cons 0 rfl <| .cons 1 rfl <| .cons 2 rfl <| .cons 3 rfl <| .cons 4 rfl <| .cons 5 rfl <| .cons 6 rfl <| .nil), ?_⟩)
      exact JN_again (k + 1) (by exact ⟨by omega, by omega, fun j h1 h2 => if e : j = k then e ▸ hfk else hK.2.2 j h1 (by omega)⟩) (by omega) (To.pick (fun _ => .sub (t := 9) rfl (sp_eq (by rfl)) <| .cons 1 rfl <| .cons 2 rfl <| .cons 3 rfl <| .cons 5 rfl <| .cons 6 rfl <| .cons 7 rfl <| .cons 8 rfl <| .cons 31 rfl <| .cons 32 rfl <| .nil) (fun _ => .sub 0 rfl ((fun _ _ h => h)) <| .cons 1 rfl <| .cons 2 rfl <| .cons 3 rfl <| .cons 4 rfl <| .cons 5 rfl <| .cons 6 rfl <| .nil) (ks := [0, 1, 2, 3, 4, 5, 6]) rfl)
    ·have h4' := h4
     try simp only [cmpB, Za, Zb, Zc, Zd, Ze, Zf, Zg, Zh, Zi, Zj, Zk, Zl, Zm, Zn, Zo, Zp, Zq, Zr] at h4
     have hkn : k = n := by omega
     have hcl : (List.take ((i : Int)).toNat (triTo (colX (m : Int) (n : Int) xs) i i) ++ List.replicate ((triTo (colX (m : Int) (n : Int) xs) i i).length - ((i : Int)).toNat) 0).length = (triTo (colX (m : Int) (n : Int) xs) i i).length := length_clrR
     refine J_exit ?_
     refine JN_then_exit ?_
     refine JN_then_exit ?_
     refine JN_exit_here ?_
     refine JN_then ?_
     refine J_to (To.emps 1) ?_
     refine J_to (To.focus 0 7 i (by omega) rfl rfl rfl rfl) ?_
     refine J_to (To.res 7 (r' := som (vs0.getD i NILV) flp (triTo (colX (m : Int) (n : Int) xs) i i) 35) rfl (res_eq (by show som _ flp _ _ = _; rw [mid_at (by omega)])) rfl) ?_
     refine J_seq (J_reg [] (.cons (.no) _ _ (op_move (Lk.t rfl)) <| .cons (.no) _ _ (op_move (Lk.t rfl)) <| .cons (.rd 5) _ _ (op_index_som 5 sl65 (Lk.t rfl) (Lk.t rfl) rfl (by omega) (by omega)) <| .cons (.rd 5) _ _ ((op_get_som (mk := isv) (.slice none 0 0) 5 sc27 (Lk.t rfl) rfl (by omega)).sub rfl (isv_eq (by exact rfl))) <| .cons (.no) _ _ (op_move (Lk.t rfl)) <| .cons (.rd 7) _ _ (op_slice_vsl 7 sl27 (Lk.t rfl) (Lk.t rfl) rfl (by omega) (by omega)) <| .cons (.wr 7) _ _ (op_clear_vsl 0 7 sl27 zr35 rfl (fun _ => flp_zero) (Lk.t rfl) rfl (by omega)) <| .nil) ff rfl fun g20 => ⟨_, _, [0, 1, 2, 3, 4, 5, 6, 7], rfl, (.cons 1 rfl <| .cons 2 rfl <| .cons 3 rfl <| .cons 5 rfl <| .cons 6 rfl <| .cons 7 rfl <| .cons 8 rfl <| .cons 31 rfl <| .cons 32 rfl <| .nil), (.cons 0 rfl <| .cons 1 rfl <| .cons 2 rfl <| .cons 3 rfl <| .cons 4 rfl <| .cons 5 rfl <| .cons 6 rfl <| .cons 7 rfl <| .nil), ?_⟩)
     refine JN_then ?_
     refine J_seq (J_reg [[], [], [0, 1], [0, 1, 2], [], [], [5], [0, 1, 2, 3, 4, 5, 6], [0, 1, 2, 3, 4, 5, 6, 7]] (.cons (.no) _ _ (op_move (Lk.t rfl)) <| .cons (.no) _ _ (op_move (Lk.t rfl)) <| .cons (.rd 5) _ _ (op_index_som 5 sl65 (Lk.t rfl) (Lk.t rfl) rfl (by omega) (by omega)) <| .cons (.rd 5) _ _ ((op_get_som (mk := isv) (.slice none 0 0) 5 sc27 (Lk.t rfl) rfl (by omega)).sub rfl (isv_eq (by exact rfl))) <| .cons (.no) _ _ (op_move (Lk.t rfl)) <| .cons (.no) _ _ (op_field_own fd59_2 (Lk.t rfl) rfl) <| .cons (.rd 6) _ _ (op_get_sc 6 sc35 (Lk.t rfl) rfl mem_blk rfl) <| .cons (.rd 7) _ _ (op_index_som 7 sl27 (Lk.t rfl) (Lk.t rfl) rfl (by omega) (by omega)) <| .cons (.wr 7) _ _ (op_store_som 7 (Lk.t rfl) (Lk.t rfl) co_flp sz35 rfl (by omega)) <| .nil) (fun _ => mixed) rfl fun g21 => ⟨_, _, [0, 1, 2, 3, 4, 5, 6, 7], rfl, (.cons 1 rfl <| .cons 2 rfl <| .cons 3 rfl <| .cons 5 rfl <| .cons 6 rfl <| .cons 8 rfl <| .cons 31 rfl <| .cons 32 rfl <| .nil), (.cons 0 rfl <| .cons 1 rfl <| .cons 2 rfl <| .cons 3 rfl <| .cons 4 rfl <| .cons 5 rfl <| .cons 6 rfl <| .cons 7 rfl <| .nil), ?_⟩)
     refine JN_then ?_
     refine J_seq (J_reg [] (.cons (.no) _ _ (op_field_own fd59_2 (Lk.t rfl) rfl) <| .cons (.rd 6) _ _ (op_get_sc 6 sc35 (Lk.t rfl) rfl mem_blk rfl) <| .cons (.no) _ _ (op_call (qfin_ok) ⟨(Lk.t rfl),  trivial⟩) <| .cons (.no) _ _ (op_not (Lk.t rfl)) <| .nil) ff rfl fun g22 => ⟨_, _, [0, 1, 2, 3, 4, 5, 7], rfl, (.cons 1 rfl <| .cons 2 rfl <| .cons 3 rfl <| .cons 5 rfl <| .cons 6 rfl <| .cons 31 rfl <| .cons 32 rfl <| .cons 87 rfl <| .nil), (.cons 0 rfl <| .cons 1 rfl <| .cons 2 rfl <| .cons 3 rfl <| .cons 4 rfl <| .cons 5 rfl <| .cons 7 rfl <| .nil), ?_⟩)
     refine JN_then ?_
     refine J_cond (cond_of (Lk.t rfl)) (fun h6 => ?_) (fun h6 => ?_)
     ·have h6' := h6
      try simp only [cmpB, Za, Zb, Zc, Zd, Ze, Zf, Zg, Zh, Zi, Zj, Zk, Zl, Zm, Zn, Zo, Zp, Zq, Zr] at h6
      refine J_seq (J_reg [[], [], [0], [0, 1, 2], [0, 1, 2, 3]] (.cons (.rd 3) _ _ (op_get_ag 3 ag29 (Lk.t rfl) rfl mem_blk rfl rfl) <| .cons (.rd 4) _ _ (op_get_ag 4 ag29 (Lk.t rfl) rfl mem_blk rfl rfl) <| .cons (.wr 3) _ _ (op_store_b 3 (Lk.t rfl) (Lk.t rfl) co_agg sz29 rfl rfl rfl) <| .cons (.wr 4) _ _ (op_store_b 4 (Lk.t rfl) (Lk.t rfl) co_agg sz29 rfl rfl rfl) <| .cons (.no) _ _ (op_assign (Lk.k rfl)) <| .nil) (fun _ => mixed) rfl fun g23 => ⟨_, _, [0, 1, 3, 4, 5, 6], rfl, (.cons 2 rfl <| .cons 3 rfl <| .cons 4 rfl <| .nil), (.cons 0 rfl <| .cons 1 rfl <| .cons 3 rfl <| .cons 4 rfl <| .cons 5 rfl <| .cons 6 rfl <| .nil), ?_⟩)
      refine JN_then ?_
      refine J_ret ?_
      refine JN_block_ret ?_
      refine JN_then_ret ?_
      refine JN_then_ret ?_
      refine JN_block_ret ?_
      refine JN_then_ret ?_
      refine JN_ret (.cons (.ag 2 (Lk.t rfl) ag29 rfl rfl rfl) <| .cons (.ag 3 (Lk.t rfl) ag29 rfl rfl rfl) <| .cons (.tmp (Lk.t rfl)) <| .nil) (sb_trans (sb_res (.cons (sb_agg (.cons sb_refl <| .cons sb_refl <| .cons (sb_nilN (mk := flp)) <| .nil)) <| .cons (sb_agg (.cons sb_refl <| .cons sb_refl <| .cons (sb_nilN (mk := flp)) <| .nil)) <| .cons sb_refl <| .nil)) (sb_trans push_Q (sb_newp ?_)))
      exact sb_eq (by rw [qrM_3 hz hrc rfl (show i < n by omega) (over_2 (i := i) (show finQ (houseL ((triTo (colX (m : Int) (n : Int) xs) i i).drop i)).alpha = false by simpa using h6))]; rfl)
     ·have h6' := h6
      try simp only [cmpB, Za, Zb, Zc, Zd, Ze, Zf, Zg, Zh, Zi, Zj, Zk, Zl, Zm, Zn, Zo, Zp, Zq, Zr] at h6
      have ha : finQ (houseL ((triTo (colX (m : Int) (n : Int) xs) i i).drop i)).alpha = true := by simpa using h6
      refine J_skip ?_
      refine JN_block ?_
      refine JN_then ?_
      refine J_to (To.unfocus 0 6 i (by omega) rfl rfl rfl rfl) ?_
      refine J_to (To.res 0 (r' := pool n (poolX vs0 35 (endF (triTo (colX (m : Int) (n : Int) xs) i) i))) rfl (pool_end (by omega) rfl) rfl) ?_
      refine (J_reg [] (.cons (.no) _ _ (op_add (Lk.t rfl) (Lk.k rfl) (wrap_id (by omega) (by omega))) <| .cons (.no) _ _ (op_move (Lk.t rfl)) <| .nil) ff rfl fun g24 => ⟨_, _, [0, 1, 2, 3, 4, 5], rfl, (.cons 1 rfl <| .cons 2 rfl <| .cons 3 rfl <| .cons 5 rfl <| .cons 6 rfl <| .cons 31 rfl <| .cons 32 rfl <| .nil), (.cons 0 rfl <| .cons 1 rfl <| .cons 2 rfl <| .cons 3 rfl <| .cons 4 rfl <| .cons 5 rfl <| .nil), ?_⟩)
      refine JN_to To.fdrop ?_
      exact JN_again (i + 1, (g13 45)) (by exact ⟨show i + 1 ≤ n by omega, triI_step hT (fun j h1 h2 => hK.2.2 j h1 (by omega)) ha⟩) (by show n - (_ + 1) < _; omega) (To.pick (fun _ => .sub (t := 32) rfl (sp_eq (by rfl)) <| .sub (t := 6) rfl (sp_eq (by rfl)) <| .cons 1 rfl <| .cons 2 rfl <| .cons 3 rfl <| .cons 5 rfl <| .cons 31 rfl <| .nil) (fun _ => .sub 1 rfl ((res_eq (by rw [glsTo_succ]))) <| .sub 0 rfl ((fun _ _ h => h)) <| .cons 2 rfl <| .cons 3 rfl <| .cons 4 rfl <| .cons 5 rfl <| .nil) (ks := [1, 0, 2, 3, 4, 5]) rfl)
   ·have h3' := h3
    try simp only [cmpB, Za, Zb, Zc, Zd, Ze, Zf, Zg, Zh, Zi, Zj, Zk, Zl, Zm, Zn, Zo, Zp, Zq, Zr] at h3
    have hin : i = n := by omega
    have hTn := hI.2
    rw [hin] at hTn
    refine J_exit ?_
    refine JN_then_exit ?_
    refine JN_then_exit ?_
    refine JN_exit_here ?_
    refine JN_then ?_
    refine J_to (To.res 1 (r' := pool n (poolX vs0 35 (triTo (colX (m : Int) (n : Int) xs) n))) rfl (res_eq (by rw [hin])) rfl) ?_
    refine J_to (To.freeze 0 (fun _ h => h) rfl frz_somk rfl) ?_
    refine J_to (To.slot 6 rfl (q := slk 3 glsU (glsTo (colX (m : Int) (n : Int) xs) n)) (sb_trans (sb_fk 0 rfl) (sb_eq (by rw [hin])))) ?_
    refine J_to (To.emps 1) ?_
    refine J_seq (J_reg [] (.cons (.no) _ _ (op_field_own fd29_1 (Lk.t rfl) rfl) <| .cons (.rd 2) _ _ (op_get_sc 2 sc3 (Lk.t rfl) rfl mem_blk rfl) <| .cons (.wr 0) _ _ (op_make_m (mk := isv) (.slice none 0 0) 0 sl65 zr27 rfl (fun _ => ⟨rfl, rfl⟩) (Lk.t rfl) (Lk.t rfl) (by omega) (by omega) (by omega) (by omega) rfl) <| .cons (.no) _ _ (op_assign_ve rfl rfl) <| .nil) ff rfl fun g25 => ⟨_, _, [0, 1, 2, 3, 4, 5], rfl, (.cons 1 rfl <| .cons 2 rfl <| .cons 3 rfl <| .cons 5 rfl <| .cons 6 rfl <| .cons 10 rfl <| .nil), (.cons 0 rfl <| .cons 1 rfl <| .cons 2 rfl <| .cons 3 rfl <| .cons 4 rfl <| .cons 5 rfl <| .nil), ?_⟩)
    refine JN_then ?_
    refine J_seq ?_
    refine J_to (To.emps 1) ?_
    refine J_to (To.res 6 (r' := pool 0 (fun _ => Go.Bn.emp)) rfl pool_nil rfl) ?_
    refine J_seq (J_reg [] (.cons (.no) _ _ (op_field_own fd29_1 (Lk.t rfl) rfl) <| .cons (.rd 2) _ _ (op_get_sc 2 sc3 (Lk.t rfl) rfl mem_blk rfl) <| .cons (.no) _ _ (op_move (Lk.k rfl)) <| .nil) ff rfl fun g26 => ⟨_, _, [0, 1, 2, 3, 4, 5, 6], rfl, (.cons 1 rfl <| .cons 2 rfl <| .cons 3 rfl <| .cons 5 rfl <| .cons 6 rfl <| .cons 10 rfl <| .cons 95 rfl <| .cons 96 rfl <| .nil), (.cons 0 rfl <| .cons 1 rfl <| .cons 2 rfl <| .cons 3 rfl <| .cons 4 rfl <| .cons 5 rfl <| .cons 6 rfl <| .nil), ?_⟩)
    refine JN_then ?_
    refine J_block ?_
    refine J_loopc (α := Nat × List Value) (fun x => x.1 ≤ n ∧ x.2.length = n) (fun x => n - x.1) (fun x restR => (96, isv (.int .i64 (x.1 : Int))) :: restR) (fun x restS => som (g25 93) isv x.2 27 :: pool x.1 (fun q => som (x.2.getD q NILV) flp (turnP (glsAt (colX (m : Int) (n : Int) xs)) m n q n) 35) :: restS) (ρc := [(1, _), (2, _), (3, _), (5, _), (6, _), (10, _), (95, _)]) (σc := [_, _, _, _, _]) (0, List.replicate n NILV) (by exact ⟨Nat.zero_le _, by simp⟩) (To.pick (fun _ => .sub (t := 96) rfl (sp_eq (by rfl)) <| .cons 1 rfl <| .cons 2 rfl <| .cons 3 rfl <| .cons 5 rfl <| .cons 6 rfl <| .cons 10 rfl <| .cons 95 rfl <| .nil) (fun _ => .sub 0 rfl ((fun _ _ h => h)) <| .sub 6 rfl ((pool_congr fun j hj => absurd hj (Nat.not_lt_zero j))) <| .cons 1 rfl <| .cons 2 rfl <| .cons 3 rfl <| .cons 4 rfl <| .cons 5 rfl <| .nil) (ks := [0, 6, 1, 2, 3, 4, 5]) rfl) (fun x hI3 => ?_)
    obtain ⟨j, us⟩ := x
    try simp only at hI3
    show J _ _ ((96, isv (.int .i64 (j : Int))) :: _) (som (g25 93) isv us 27 :: pool j (fun q => som (us.getD q NILV) flp (turnP (glsAt (colX (m : Int) (n : Int) xs)) m n q n) 35) :: _) _ _
    have hus : us.length = n := hI3.2
    refine J_seq (J_reg [] (.cons (.no) _ _ (op_cmp (by simp) (Lk.t rfl) (Lk.t rfl) rfl) <| .nil) ff rfl fun g27 => ⟨_, _, [0, 1, 2, 3, 4, 5, 6], rfl, (.cons 1 rfl <| .cons 2 rfl <| .cons 3 rfl <| .cons 5 rfl <| .cons 6 rfl <| .cons 10 rfl <| .cons 95 rfl <| .cons 96 rfl <| .cons 97 rfl <| .nil), (.cons 0 rfl <| .cons 1 rfl <| .cons 2 rfl <| .cons 3 rfl <| .cons 4 rfl <| .cons 5 rfl <| .cons 6 rfl <| .nil), ?_⟩)
    refine JN_then ?_
    refine J_seq ?_
    refine J_cond (cond_of (Lk.t rfl)) (fun h7 => ?_) (fun h7 => ?_)
    ·have h7' := h7
     try simp only [cmpB, Za, Zb, Zc, Zd, Ze, Zf, Zg, Zh, Zi, Zj, Zk, Zl, Zm, Zn, Zo, Zp, Zq, Zr] at h7
     have hjn1 : j < n := by omega
     have hul : (us.set j NILV).length = n := by rw [List.length_set]; exact hus
     refine J_skip ?_
     refine JN_then ?_
     refine J_seq ?_
     refine J_block ?_
     refine J_seq (J_reg [] (.cons (.no) _ _ (op_move (Lk.t rfl)) <| .cons (.no) _ _ (op_assign (Lk.t rfl)) <| .nil) ff rfl fun g28 => ⟨_, _, [0, 1, 2, 3, 4, 5, 6], rfl, (.cons 1 rfl <| .cons 2 rfl <| .cons 3 rfl <| .cons 5 rfl <| .cons 6 rfl <| .cons 10 rfl <| .cons 11 rfl <| .cons 95 rfl <| .cons 96 rfl <| .nil), (.cons 0 rfl <| .cons 1 rfl <| .cons 2 rfl <| .cons 3 rfl <| .cons 4 rfl <| .cons 5 rfl <| .cons 6 rfl <| .nil), ?_⟩)
     refine JN_then ?_
     refine J_to (To.emps 1) ?_
     refine J_seq (J_reg [] (.cons (.no) _ _ (op_move (Lk.t rfl)) <| .cons (.no) _ _ (op_move (Lk.t rfl)) <| .cons (.no) _ _ (op_field_own fd29_0 (Lk.t rfl) rfl) <| .cons (.rd 3) _ _ (op_get_sc 3 sc3 (Lk.t rfl) rfl mem_blk rfl) <| .cons (.wr 7) _ _ (op_make_m (mk := flp) 0 7 sl27 zr35 rfl (fun _ => flp_zero) (Lk.t rfl) (Lk.t rfl) (by omega) (by omega) (by omega) (by omega) rfl) <| .cons (.rd 0) _ _ (op_index_som 0 sl65 (Lk.t rfl) (Lk.t rfl) rfl (by omega) (by omega)) <| .cons (.wr 0) _ _ (op_ver 103 rfl rfl (fun f => op_store_som (mk := isv) 0 (Lk.t rfl) (Lk.t rfl) co_isv sz27 rfl (by omega)) (fun f g h => by rw [h 103 (show 103 ∈ [103] from by decide)]) rfl) <| .nil) ff rfl fun g29 => ⟨_, _, [0, 1, 2, 3, 4, 5, 6, 7], rfl, (.cons 1 rfl <| .cons 2 rfl <| .cons 3 rfl <| .cons 5 rfl <| .cons 6 rfl <| .cons 10 rfl <| .cons 11 rfl <| .cons 95 rfl <| .cons 96 rfl <| .nil), (.cons 0 rfl <| .cons 1 rfl <| .cons 2 rfl <| .cons 3 rfl <| .cons 4 rfl <| .cons 5 rfl <| .cons 6 rfl <| .cons 7 rfl <| .nil), ?_⟩)
     refine JN_then ?_
     have hul2 : (us.set ((j : Nat) : Int).toNat (g29 103)).length = n := by rw [List.length_set]; exact hus
     have hrp : (List.replicate ((m : Int)).toNat 0).length = m := by simp
     refine J_seq (J_reg [] (.cons (.no) _ _ (op_move (Lk.t rfl)) <| .cons (.no) _ _ (op_move (Lk.t rfl)) <| .cons (.rd 0) _ _ (op_index_som 0 sl65 (Lk.t rfl) (Lk.t rfl) rfl (by omega) (by omega)) <| .cons (.rd 0) _ _ ((op_get_som (mk := isv) (.slice none 0 0) 0 sc27 (Lk.t rfl) rfl (by rw [List.length_set]; omega)).sub rfl (isv_eq (by exact vset_at (by omega)))) <| .cons (.no) _ _ (op_move (Lk.t rfl)) <| .cons (.rd 7) _ _ (op_index_som 7 sl27 (Lk.t rfl) (Lk.t rfl) rfl (by omega) (by omega)) <| .cons (.wr 7) _ _ (op_store_som 7 (Lk.t rfl) (Lk.fk rfl (by decide +kernel)) co_flp sz35 rfl (by omega)) <| .nil) ff rfl fun g30 => ⟨_, _, [0, 1, 2, 3, 4, 5, 6, 7], rfl, (.cons 1 rfl <| .cons 2 rfl <| .cons 3 rfl <| .cons 5 rfl <| .cons 6 rfl <| .cons 10 rfl <| .cons 11 rfl <| .cons 95 rfl <| .cons 96 rfl <| .nil), (.cons 0 rfl <| .cons 1 rfl <| .cons 2 rfl <| .cons 3 rfl <| .cons 4 rfl <| .cons 5 rfl <| .cons 6 rfl <| .cons 7 rfl <| .nil), ?_⟩)
     refine JN_then ?_
     refine J_seq (J_reg [] (.cons (.no) _ _ (op_field_own fd29_1 (Lk.t rfl) rfl) <| .cons (.rd 3) _ _ (op_get_sc 3 sc3 (Lk.t rfl) rfl mem_blk rfl) <| .cons (.no) _ _ (op_sub (Lk.t rfl) (Lk.k rfl) (wrap_id (by omega) (by omega))) <| .cons (.no) _ _ (op_assign (Lk.t rfl)) <| .nil) ff rfl fun g31 => ⟨_, _, [0, 1, 2, 3, 4, 5, 6, 7], rfl, (.cons 1 rfl <| .cons 2 rfl <| .cons 3 rfl <| .cons 5 rfl <| .cons 6 rfl <| .cons 10 rfl <| .cons 11 rfl <| .cons 12 rfl <| .cons 95 rfl <| .cons 96 rfl <| .nil), (.cons 0 rfl <| .cons 1 rfl <| .cons 2 rfl <| .cons 3 rfl <| .cons 4 rfl <| .cons 5 rfl <| .cons 6 rfl <| .cons 7 rfl <| .nil), ?_⟩)
     refine JN_then ?_
     refine J_block ?_
     refine J_loopc (α := Nat) (fun d => d ≤ n) (fun d => n - d) (fun d restR => (12, isv (.int .i64 ((n : Int) - 1 - (d : Int)))) :: restR) (fun d restS => som (g29 103) flp (turnP (glsAt (colX (m : Int) (n : Int) xs)) m n j d) 35 :: restS) (ρc := [(1, _), (2, _), (3, _), (5, _), (6, _), (10, _), (11, _), (95, _), (96, _)]) (σc := [_, _, _, _, _, _, _]) 0 (by exact Nat.zero_le _) (To.pick (fun _ => .sub (t := 12) rfl (sp_eq (by exact congrArg (fun z => isv (.int .i64 z)) (by omega))) <| .cons 1 rfl <| .cons 2 rfl <| .cons 3 rfl <| .cons 5 rfl <| .cons 6 rfl <| .cons 10 rfl <| .cons 11 rfl <| .cons 95 rfl <| .cons 96 rfl <| .nil) (fun _ => .sub 7 rfl ((fun _ _ h => h)) <| .cons 0 rfl <| .cons 1 rfl <| .cons 2 rfl <| .cons 3 rfl <| .cons 4 rfl <| .cons 5 rfl <| .cons 6 rfl <| .nil) (ks := [7, 0, 1, 2, 3, 4, 5, 6]) rfl) (fun d hI4 => ?_)
     refine J_seq ?_
     refine J_seq (J_reg [] (.cons (.no) _ _ (op_move (Lk.t rfl)) <| .cons (.no) _ _ (op_cmp (by simp) (Lk.t rfl) (Lk.k rfl) rfl) <| .nil) ff rfl fun g32 => ⟨_, _, [0, 1, 2, 3, 4, 5, 6, 7], rfl, (.cons 1 rfl <| .cons 2 rfl <| .cons 3 rfl <| .cons 5 rfl <| .cons 6 rfl <| .cons 10 rfl <| .cons 11 rfl <| .cons 12 rfl <| .cons 95 rfl <| .cons 96 rfl <| .cons 115 rfl <| .nil), (.cons 0 rfl <| .cons 1 rfl <| .cons 2 rfl <| .cons 3 rfl <| .cons 4 rfl <| .cons 5 rfl <| .cons 6 rfl <| .cons 7 rfl <| .nil), ?_⟩)
     refine JN_then ?_
     refine J_cond (cond_of (Lk.t rfl)) (fun h8 => ?_) (fun h8 => ?_)
     ·have h8' := h8
      try simp only [cmpB, Za, Zb, Zc, Zd, Ze, Zf, Zg, Zh, Zi, Zj, Zk, Zl, Zm, Zn, Zo, Zp, Zq, Zr] at h8
      have hkt : ((n : Int) - 1 - (d : Int)).toNat = n - 1 - d := by omega
      have hgl : (glsTo (colX (m : Int) (n : Int) xs) n).getD ((n : Int) - 1 - (d : Int)).toNat glsD = glsAt (colX (m : Int) (n : Int) xs) (n - 1 - d) := by rw [hkt]; exact glsTo_at (by omega)
      have htl := length_turnP (glsAt (colX (m : Int) (n : Int) xs)) m n j d
      have hvk : ((glsTo (colX (m : Int) (n : Int) xs) n).getD ((n : Int) - 1 - (d : Int)).toNat glsD).v.length = (turnP (glsAt (colX (m : Int) (n : Int) xs)) m n j d).length - ((n : Int) - 1 - (d : Int)).toNat := by rw [hgl, hkt, htl]; exact glsAt_len hX0 (by omega)
      have hgll := length_glsTo (colX (m : Int) (n : Int) xs) n
      refine J_skip ?_
      refine JN_then ?_
      refine J_seq ?_
      refine J_block ?_
      refine (J_reg [[], [], [0, 1], [0, 1, 2], [], [], [4, 5], [4, 5, 6], [], [4, 5, 6, 7, 8], [0, 1, 2, 3, 4, 5, 6, 7, 8, 9]] (.cons (.no) _ _ (op_move (Lk.t rfl)) <| .cons (.no) _ _ (op_move (Lk.t rfl)) <| .cons (.no) _ _ (op_index_sk (mk := glsU) glsD sl70 glsU_len (Lk.t rfl) (Lk.t rfl) (by omega) (by omega)) <| .cons (.no) _ _ (op_load_ag ag59 (Lk.t rfl) rfl rfl) <| .cons (.no) _ _ (op_move (Lk.t rfl)) <| .cons (.no) _ _ (op_move (Lk.t rfl)) <| .cons (.rd 1) _ _ (op_index_som 1 sl65 (Lk.t rfl) (Lk.t rfl) rfl (by omega) (by omega)) <| .cons (.rd 1) _ _ ((op_get_som (mk := isv) (.slice none 0 0) 1 sc27 (Lk.t rfl) rfl (by rw [List.length_set]; omega)).sub rfl (isv_eq (by exact vset_at (by omega)))) <| .cons (.no) _ _ (op_move (Lk.t rfl)) <| .cons (.rd 0) _ _ (op_slice_vsl 0 sl27 (Lk.t rfl) (Lk.t rfl) rfl (by omega) (by omega)) <| .cons (.wr 0) _ _ (op_callM 0 (mirror_ok (i := ((n : Int) - 1 - (d : Int)).toNat) (xs := turnP (glsAt (colX (m : Int) (n : Int) xs)) m n j d) (v := ((glsTo (colX (m : Int) (n : Int) xs) n).getD ((n : Int) - 1 - (d : Int)).toNat glsD).v) (by rw [htl]; omega) hvk (by rw [htl]; omega)) ⟨(Lk.t rfl), (Lk.t rfl),  trivial⟩ rfl) <| .nil) (fun _ => mixed) rfl fun g33 => ⟨_, _, [0, 1, 2, 3, 4, 5, 6, 7], rfl, (.cons 1 rfl <| .cons 2 rfl <| .cons 3 rfl <| .cons 5 rfl <| .cons 6 rfl <| .cons 10 rfl <| .cons 11 rfl <| .cons 12 rfl <| .cons 95 rfl <| .cons 96 rfl <| .nil), (.cons 0 rfl <| .cons 1 rfl <| .cons 2 rfl <| .cons 3 rfl <| .cons 4 rfl <| .cons 5 rfl <| .cons 6 rfl <| .cons 7 rfl <| .nil), ?_⟩)
      refine JN_block ?_
      refine JN_then ?_
      refine (J_reg [] (.cons (.no) _ _ (op_move (Lk.t rfl)) <| .cons (.no) _ _ (op_sub (Lk.t rfl) (Lk.k rfl) (wrap_id (by omega) (by omega))) <| .cons (.no) _ _ (op_assign (Lk.t rfl)) <| .nil) ff rfl fun g34 => ⟨_, _, [0, 1, 2, 3, 4, 5, 6, 7], rfl, (.cons 1 rfl <| .cons 2 rfl <| .cons 3 rfl <| .cons 5 rfl <| .cons 6 rfl <| .cons 10 rfl <| .cons 11 rfl <| .cons 12 rfl <| .cons 95 rfl <| .cons 96 rfl <| .nil), (.cons 0 rfl <| .cons 1 rfl <| .cons 2 rfl <| .cons 3 rfl <| .cons 4 rfl <| .cons 5 rfl <| .cons 6 rfl <| .cons 7 rfl <| .nil), ?_⟩)
      exact JN_again (d + 1) (by omega) (by omega) (To.pick (fun _ => .sub (t := 12) rfl (sp_eq (by exact congrArg (fun z => isv (.int .i64 z)) (by omega))) <| .cons 1 rfl <| .cons 2 rfl <| .cons 3 rfl <| .cons 5 rfl <| .cons 6 rfl <| .cons 10 rfl <| .cons 11 rfl <| .cons 95 rfl <| .cons 96 rfl <| .nil) (fun _ => .sub 0 rfl ((res_eq (by rw [← turn_step (d := d) hkt hgl]))) <| .cons 1 rfl <| .cons 2 rfl <| .cons 3 rfl <| .cons 4 rfl <| .cons 5 rfl <| .cons 6 rfl <| .cons 7 rfl <| .nil) (ks := [0, 1, 2, 3, 4, 5, 6, 7]) rfl)
     ·have h8' := h8
      try simp only [cmpB, Za, Zb, Zc, Zd, Ze, Zf, Zg, Zh, Zi, Zj, Zk, Zl, Zm, Zn, Zo, Zp, Zq, Zr] at h8
      refine J_exit ?_
      refine JN_then_exit ?_
      refine JN_then_exit ?_
      refine JN_exit_here ?_
      refine JN_block ?_
      refine JN_then ?_
      refine J_to (To.res 0 (r' := som (g29 103) flp (turnP (glsAt (colX (m : Int) (n : Int) xs)) m n j n) 35) rfl (res_eq (by rw [show d = n by omega])) rfl) ?_
      refine J_to (To.push 2 0 rfl rfl rfl rfl) ?_
      refine (J_reg [] (.cons (.no) _ _ (op_add (Lk.t rfl) (Lk.k rfl) (wrap_id (by omega) (by omega))) <| .cons (.no) _ _ (op_move (Lk.t rfl)) <| .nil) ff rfl fun g35 => ⟨_, _, [1, 2, 3, 4, 5, 6, 7], rfl, (.cons 1 rfl <| .cons 2 rfl <| .cons 3 rfl <| .cons 5 rfl <| .cons 6 rfl <| .cons 10 rfl <| .cons 95 rfl <| .cons 96 rfl <| .nil), (.cons 1 rfl <| .cons 2 rfl <| .cons 3 rfl <| .cons 4 rfl <| .cons 5 rfl <| .cons 6 rfl <| .cons 7 rfl <| .nil), ?_⟩)
      exact JN_again (j + 1, us.set j (g29 103)) (by exact ⟨show j + 1 ≤ n by omega, by rw [List.length_set]; exact hI3.2⟩) (by show n - (_ + 1) < _; omega) (To.pick (fun _ => .sub (t := 96) rfl (sp_eq (by rfl)) <| .cons 1 rfl <| .cons 2 rfl <| .cons 3 rfl <| .cons 5 rfl <| .cons 6 rfl <| .cons 10 rfl <| .cons 95 rfl <| .nil) (fun _ => .sub 0 rfl ((fun _ _ h => h)) <| .sub 1 rfl ((turn_push (by omega))) <| .cons 2 rfl <| .cons 3 rfl <| .cons 4 rfl <| .cons 5 rfl <| .cons 6 rfl <| .nil) (ks := [0, 1, 2, 3, 4, 5, 6]) rfl)
    ·have h7' := h7
     try simp only [cmpB, Za, Zb, Zc, Zd, Ze, Zf, Zg, Zh, Zi, Zj, Zk, Zl, Zm, Zn, Zo, Zp, Zq, Zr] at h7
     have hjn : j = n := by omega
     have hrl1 : ((List.range n).map (triTo (colX (m : Int) (n : Int) xs) n)).length = n := by simp
     have hrl2 : ((List.range n).map (fun q => turnP (glsAt (colX (m : Int) (n : Int) xs)) m n q n)).length = n := by simp
     refine J_exit ?_
     refine JN_then_exit ?_
     refine JN_then_exit ?_
     refine JN_exit_here ?_
     refine JN_then ?_
     refine J_to (To.join 6 2 rfl rfl rfl rfl) ?_
     refine J_to (To.freeze 6 (fun _ h => h) rfl (frz_rows hvs0) rfl) ?_
     refine J_to (To.slot 5 rfl (q := slm (slm flp) ((List.range n).map (triTo (colX (m : Int) (n : Int) xs) n))) (sb_fk 0 rfl)) ?_
     refine J_to (To.res 1 (r' := pool n (poolX us 35 (fun q => turnP (glsAt (colX (m : Int) (n : Int) xs)) m n q n))) rfl (res_eq (by rw [← hjn]; rfl)) rfl) ?_
     refine J_to (To.join 0 1 rfl rfl rfl rfl) ?_
     refine J_to (To.freeze 0 (fun _ h => h) rfl (frz_rows hus) rfl) ?_
     refine J_to (To.slot 10 rfl (q := slm (slm flp) ((List.range n).map ((fun q => turnP (glsAt (colX (m : Int) (n : Int) xs)) m n q n)))) (sb_fk 0 rfl)) ?_
     refine J_seq (J_reg [] (.cons (.no) _ _ (op_field_own fd29_0 (Lk.t rfl) rfl) <| .cons (.rd 3) _ _ (op_get_sc 3 sc3 (Lk.t rfl) rfl mem_blk rfl) <| .cons (.no) _ _ (op_field_own fd29_1 (Lk.t rfl) rfl) <| .cons (.rd 3) _ _ (op_get_sc 3 sc3 (Lk.t rfl) rfl mem_blk rfl) <| .cons (.no) _ _ (op_build zr29 rfl pl29 (.cons rfl (Lk.t rfl) co_isv rfl (puts_l rfl (Nat.le_of_ble_eq_true rfl)) (.cons rfl (Lk.t rfl) co_isv rfl (puts_l rfl (Nat.le_of_ble_eq_true rfl)) .nil))) <| .cons (.wr 4) _ _ (op_store_b 4 (Lk.t rfl) (Lk.t rfl) co_agg sz29 rfl rfl rfl) <| .nil) ff rfl fun g36 => ⟨_, _, [3, 4, 5], rfl, (.cons 1 rfl <| .cons 2 rfl <| .cons 3 rfl <| .cons 5 rfl <| .cons 10 rfl <| .nil), (.cons 3 rfl <| .cons 4 rfl <| .cons 5 rfl <| .nil), ?_⟩)
     refine JN_then ?_
     refine J_seq ?_
     refine J_to (To.emps 1) ?_
     refine J_to (To.res 3 (r' := som (.slice none 0 0) flp [] 35) rfl som_nil rfl) ?_
     refine J_seq (J_reg [] (.cons (.no) _ _ (op_field_own fd29_0 (Lk.t rfl) rfl) <| .cons (.rd 0) _ _ (op_get_sc 0 sc3 (Lk.t rfl) rfl mem_blk rfl) <| .cons (.no) _ _ (op_move (Lk.k rfl)) <| .nil) ff rfl fun g37 => ⟨_, _, [0, 1, 2, 3], rfl, (.cons 1 rfl <| .cons 2 rfl <| .cons 3 rfl <| .cons 5 rfl <| .cons 10 rfl <| .cons 136 rfl <| .cons 137 rfl <| .nil), (.cons 0 rfl <| .cons 1 rfl <| .cons 2 rfl <| .cons 3 rfl <| .nil), ?_⟩)
     refine JN_then ?_
     refine J_block ?_
     refine J_loopc (α := Nat × Value) (fun x => x.1 ≤ m) (fun x => m - x.1) (fun x restR => (137, isv (.int .i64 (x.1 : Int))) :: restR) (fun x restS => som x.2 flp ((grid (m : Int) (n : Int) fun a b => FQ (triTo (colX (m : Int) (n : Int) xs) n) (glsAt (colX (m : Int) (n : Int) xs)) m n a.toNat b.toNat).take (x.1 * n)) 35 :: blk (g1 2) [isv (.int .i64 (m : Int)), isv (.int .i64 (n : Int)), isv x.2] 29 :: restS) (ρc := [(1, _), (2, _), (3, _), (5, _), (10, _), (136, _)]) (σc := [_, _]) (0, NILV) (by exact Nat.zero_le _) (To.pick (fun _ => .sub (t := 137) rfl (sp_eq (by rfl)) <| .cons 1 rfl <| .cons 2 rfl <| .cons 3 rfl <| .cons 5 rfl <| .cons 10 rfl <| .cons 136 rfl <| .nil) (fun _ => .sub 3 rfl ((res_eq (by rw [Nat.zero_mul, List.take_zero]))) <| .sub 1 rfl ((fun _ _ h => h)) <| .cons 0 rfl <| .cons 2 rfl <| .nil) (ks := [3, 1, 0, 2]) rfl) (fun x hI => ?_)
     obtain ⟨p, sv⟩ := x
     try simp only at hI
     show J _ _ ((137, isv (.int .i64 (p : Int))) :: _) (som sv flp ((grid (m : Int) (n : Int) fun a b => FQ (triTo (colX (m : Int) (n : Int) xs) n) (glsAt (colX (m : Int) (n : Int) xs)) m n a.toNat b.toNat).take (p * n)) 35 :: blk (g1 2) [isv (.int .i64 (m : Int)), isv (.int .i64 (n : Int)), isv sv] 29 :: _) _ _
     refine J_seq (J_reg [] (.cons (.no) _ _ (op_cmp (by simp) (Lk.t rfl) (Lk.t rfl) rfl) <| .nil) ff rfl fun g38 => ⟨_, _, [0, 1, 2, 3], rfl, (.cons 1 rfl <| .cons 2 rfl <| .cons 3 rfl <| .cons 5 rfl <| .cons 10 rfl <| .cons 136 rfl <| .cons 137 rfl <| .cons 138 rfl <| .nil), (.cons 0 rfl <| .cons 1 rfl <| .cons 2 rfl <| .cons 3 rfl <| .nil), ?_⟩)
     refine JN_then ?_
     refine J_seq ?_
     refine J_cond (cond_of (Lk.t rfl)) (fun h9 => ?_) (fun h9 => ?_)
     ·have h9' := h9
      try simp only [cmpB, Za, Zb, Zc, Zd, Ze, Zf, Zg, Zh, Zi, Zj, Zk, Zl, Zm, Zn, Zo, Zp, Zq, Zr] at h9
      refine J_skip ?_
      refine JN_then ?_
      refine J_seq ?_
      refine J_block ?_
      refine J_seq (J_reg [] (.cons (.no) _ _ (op_move (Lk.t rfl)) <| .cons (.no) _ _ (op_assign (Lk.t rfl)) <| .nil) ff rfl fun g39 => ⟨_, _, [0, 1, 2, 3], rfl, (.cons 1 rfl <| .cons 2 rfl <| .cons 3 rfl <| .cons 5 rfl <| .cons 10 rfl <| .cons 13 rfl <| .cons 136 rfl <| .cons 137 rfl <| .nil), (.cons 0 rfl <| .cons 1 rfl <| .cons 2 rfl <| .cons 3 rfl <| .nil), ?_⟩)
      refine JN_then ?_
      refine J_seq (J_reg [] (.cons (.no) _ _ (op_field_own fd29_1 (Lk.t rfl) rfl) <| .cons (.rd 2) _ _ (op_get_sc 2 sc3 (Lk.t rfl) rfl mem_blk rfl) <| .cons (.no) _ _ (op_move (Lk.k rfl)) <| .nil) ff rfl fun g40 => ⟨_, _, [0, 1, 2, 3], rfl, (.cons 1 rfl <| .cons 2 rfl <| .cons 3 rfl <| .cons 5 rfl <| .cons 10 rfl <| .cons 13 rfl <| .cons 136 rfl <| .cons 137 rfl <| .cons 141 rfl <| .cons 142 rfl <| .nil), (.cons 0 rfl <| .cons 1 rfl <| .cons 2 rfl <| .cons 3 rfl <| .nil), ?_⟩)
      refine JN_then ?_
      refine J_block ?_
      refine J_loopc (α := Nat × Value) (fun y => y.1 ≤ n) (fun y => n - y.1) (fun y restR => (142, isv (.int .i64 (y.1 : Int))) :: restR) (fun y restS => som y.2 flp ((grid (m : Int) (n : Int) fun a b => FQ (triTo (colX (m : Int) (n : Int) xs) n) (glsAt (colX (m : Int) (n : Int) xs)) m n a.toNat b.toNat).take (p * n + y.1)) 35 :: blk (g1 2) [isv (.int .i64 (m : Int)), isv (.int .i64 (n : Int)), isv y.2] 29 :: restS) (ρc := [(1, _), (2, _), (3, _), (5, _), (10, _), (13, _), (136, _), (137, _), (141, _)]) (σc := [_, _]) (0, sv) (by exact Nat.zero_le _) (To.pick (fun _ => .sub (t := 142) rfl (sp_eq (by rfl)) <| .cons 1 rfl <| .cons 2 rfl <| .cons 3 rfl <| .cons 5 rfl <| .cons 10 rfl <| .cons 13 rfl <| .cons 136 rfl <| .cons 137 rfl <| .cons 141 rfl <| .nil) (fun _ => .sub 0 rfl ((fun _ _ h => h)) <| .sub 1 rfl ((fun _ _ h => h)) <| .cons 2 rfl <| .cons 3 rfl <| .nil) (ks := [0, 1, 2, 3]) rfl) (fun y hQ => ?_)
      obtain ⟨q, tv⟩ := y
      try simp only at hQ
      show J _ _ ((142, isv (.int .i64 (q : Int))) :: _) (som tv flp ((grid (m : Int) (n : Int) fun a b => FQ (triTo (colX (m : Int) (n : Int) xs) n) (glsAt (colX (m : Int) (n : Int) xs)) m n a.toNat b.toNat).take (p * n + q)) 35 :: blk (g1 2) [isv (.int .i64 (m : Int)), isv (.int .i64 (n : Int)), isv tv] 29 :: _) _ _
      refine J_seq (J_reg [] (.cons (.no) _ _ (op_cmp (by simp) (Lk.t rfl) (Lk.t rfl) rfl) <| .nil) ff rfl fun g41 => ⟨_, _, [0, 1, 2, 3], rfl, (.cons 1 rfl <| .cons 2 rfl <| .cons 3 rfl <| .cons 5 rfl <| .cons 10 rfl <| .cons 13 rfl <| .cons 136 rfl <| .cons 137 rfl <| .cons 141 rfl <| .cons 142 rfl <| .cons 143 rfl <| .nil), (.cons 0 rfl <| .cons 1 rfl <| .cons 2 rfl <| .cons 3 rfl <| .nil), ?_⟩)
      refine JN_then ?_
      refine J_seq ?_
      refine J_cond (cond_of (Lk.t rfl)) (fun h10 => ?_) (fun h10 => ?_)
      ·have h10' := h10
       try simp only [cmpB, Za, Zb, Zc, Zd, Ze, Zf, Zg, Zh, Zi, Zj, Zk, Zl, Zm, Zn, Zo, Zp, Zq, Zr] at h10
       have hT1 : (((List.range n).map ((fun q => turnP (glsAt (colX (m : Int) (n : Int) xs)) m n q n))).getD ((q : Nat) : Int).toNat []).length = m := by rw [Int.toNat_natCast, map_at (by omega)]; exact length_turnP _ _ _ _ _
       have hT2 : (((List.range n).map (triTo (colX (m : Int) (n : Int) xs) n)).getD ((q : Nat) : Int).toNat []).length = m := by rw [Int.toNat_natCast, map_at (by omega)]; exact hTn.hl q (by omega)
       have htk := take_gridN_le (F := FQ (triTo (colX (m : Int) (n : Int) xs) n) (glsAt (colX (m : Int) (n : Int) xs)) m n) (m := m) (n := n) (k := p * n + q) (by omega) (by omega)
       have hput : flipN ((((List.range n).map ((fun q => turnP (glsAt (colX (m : Int) (n : Int) xs)) m n q n))).getD ((q : Nat) : Int).toNat []).getD ((p : Nat) : Int).toNat 0) ((((List.range n).map (triTo (colX (m : Int) (n : Int) xs) n)).getD ((q : Nat) : Int).toNat []).getD ((q : Nat) : Int).toNat 0) = FQ (triTo (colX (m : Int) (n : Int) xs) n) (glsAt (colX (m : Int) (n : Int) xs)) m n p q := by rw [Int.toNat_natCast, Int.toNat_natCast, map_at (by omega), map_at (by omega)]; rfl
       refine J_skip ?_
       refine JN_then ?_
       refine J_seq ?_
       refine J_block ?_
       refine J_seq (J_reg [] (.cons (.no) _ _ (op_move (Lk.t rfl)) <| .cons (.no) _ _ (op_assign (Lk.t rfl)) <| .nil) ff rfl fun g42 => ⟨_, _, [0, 1, 2, 3], rfl, (.cons 1 rfl <| .cons 2 rfl <| .cons 3 rfl <| .cons 5 rfl <| .cons 10 rfl <| .cons 13 rfl <| .cons 14 rfl <| .cons 136 rfl <| .cons 137 rfl <| .cons 141 rfl <| .cons 142 rfl <| .nil), (.cons 0 rfl <| .cons 1 rfl <| .cons 2 rfl <| .cons 3 rfl <| .nil), ?_⟩)
       refine JN_then ?_
       refine (J_reg [[], [0], [], [], [2, 3], [2, 3, 4], [], [2, 3, 4, 5, 6], [2, 3, 4, 5, 6, 7], [], [], [9, 10], [9, 10, 11], [], [9, 10, 11, 12, 13], [9, 10, 11, 12, 13, 14], [2, 3, 4, 5, 6, 7, 8, 9, 10, 11, 12, 13, 14, 15], [2, 3, 4, 5, 6, 7, 8, 9, 10, 11, 12, 13, 14, 15, 16], [0, 1, 2, 3, 4, 5, 6, 7, 8, 9, 10, 11, 12, 13, 14, 15, 16, 17], [0, 1, 2, 3, 4, 5, 6, 7, 8, 9, 10, 11, 12, 13, 14, 15, 16, 17, 18], [0, 1, 2, 3, 4, 5, 6, 7, 8, 9, 10, 11, 12, 13, 14, 15, 16, 17, 18, 19]] (.cons (.no) _ _ (op_field_own fd29_2 (Lk.t rfl) rfl) <| .cons (.rd 1) _ _ (op_get_sc 1 sc27 (Lk.t rfl) rfl mem_blk rfl) <| .cons (.no) _ _ (op_move (Lk.t rfl)) <| .cons (.no) _ _ (op_move (Lk.t rfl)) <| .cons (.no) _ _ (op_index_m [] sl65 (Lk.t rfl) (Lk.t rfl) (by omega) (by omega)) <| .cons (.no) _ _ (op_load_sc sc27 (Lk.t rfl) rfl) <| .cons (.no) _ _ (op_move (Lk.t rfl)) <| .cons (.no) _ _ (op_index_m 0 sl27 (Lk.t rfl) (Lk.t rfl) (by omega) (by omega)) <| .cons (.no) _ _ (op_load_sc sc35 (Lk.t rfl) rfl) <| .cons (.no) _ _ (op_move (Lk.t rfl)) <| .cons (.no) _ _ (op_move (Lk.t rfl)) <| .cons (.no) _ _ (op_index_m [] sl65 (Lk.t rfl) (Lk.t rfl) (by omega) (by omega)) <| .cons (.no) _ _ (op_load_sc sc27 (Lk.t rfl) rfl) <| .cons (.no) _ _ (op_move (Lk.t rfl)) <| .cons (.no) _ _ (op_index_m 0 sl27 (Lk.t rfl) (Lk.t rfl) (by omega) (by omega)) <| .cons (.no) _ _ (op_load_sc sc35 (Lk.t rfl) rfl) <| .cons (.no) _ _ (op_call (flip_ok) ⟨(Lk.t rfl), (Lk.t rfl),  trivial⟩) <| .cons (.no) _ _ (op_buildSlice sl27 zr35 rfl rfl rfl rfl (.cons rfl (Lk.t rfl) co_flp rfl (puts_l rfl (Nat.le_of_ble_eq_true rfl)) .nil)) <| .cons (.wr 0) _ _ (op_append_m 0 sl27 zr35 rfl (Lk.t rfl) (Lk.t rfl) rfl (by omega) (by omega)) <| .cons (.no) _ _ (op_field_own fd29_2 (Lk.t rfl) rfl) <| .cons (.wr 1) _ _ (op_store_sl 1 (Lk.t rfl) rfl sz27 rfl rfl) <| .nil) (fun _ => mixed) rfl fun g43 => ⟨_, _, [0, 1, 2, 3], rfl, (.cons 1 rfl <| .cons 2 rfl <| .cons 3 rfl <| .cons 5 rfl <| .cons 10 rfl <| .cons 13 rfl <| .cons 136 rfl <| .cons 137 rfl <| .cons 141 rfl <| .cons 142 rfl <| .nil), (.cons 0 rfl <| .cons 1 rfl <| .cons 2 rfl <| .cons 3 rfl <| .nil), ?_⟩)
       refine JN_block ?_
       refine JN_then ?_
       refine (J_reg [] (.cons (.no) _ _ (op_add (Lk.t rfl) (Lk.k rfl) (wrap_id (by omega) (by omega))) <| .cons (.no) _ _ (op_move (Lk.t rfl)) <| .nil) ff rfl fun g44 => ⟨_, _, [0, 1, 2, 3], rfl, (.cons 1 rfl <| .cons 2 rfl <| .cons 3 rfl <| .cons 5 rfl <| .cons 10 rfl <| .cons 13 rfl <| .cons 136 rfl <| .cons 137 rfl <| .cons 141 rfl <| .cons 142 rfl <| .nil), (.cons 0 rfl <| .cons 1 rfl <| .cons 2 rfl <| .cons 3 rfl <| .nil), ?_⟩)
       exact JN_again (q + 1, (g43 163)) (by exact (show q + 1 ≤ n by omega)) (by show n - (_ + 1) < _; omega) (To.pick (fun _ => .sub (t := 142) rfl (sp_eq (by rfl)) <| .cons 1 rfl <| .cons 2 rfl <| .cons 3 rfl <| .cons 5 rfl <| .cons 10 rfl <| .cons 13 rfl <| .cons 136 rfl <| .cons 137 rfl <| .cons 141 rfl <| .nil) (fun _ => .sub 0 rfl ((res_eq (by rw [take_gridN (F := (FQ (triTo (colX (m : Int) (n : Int) xs) n) (glsAt (colX (m : Int) (n : Int) xs)) m n)) (by omega) (by omega), ← hput]))) <| .sub 1 rfl ((fun _ _ h => h)) <| .cons 2 rfl <| .cons 3 rfl <| .nil) (ks := [0, 1, 2, 3]) rfl)
      ·have h10' := h10
       try simp only [cmpB, Za, Zb, Zc, Zd, Ze, Zf, Zg, Zh, Zi, Zj, Zk, Zl, Zm, Zn, Zo, Zp, Zq, Zr] at h10
       refine J_exit ?_
       refine JN_then_exit ?_
       refine JN_then_exit ?_
       refine JN_exit_here ?_
       refine JN_block ?_
       refine JN_then ?_
       refine (J_reg [] (.cons (.no) _ _ (op_add (Lk.t rfl) (Lk.k rfl) (wrap_id (by omega) (by omega))) <| .cons (.no) _ _ (op_move (Lk.t rfl)) <| .nil) ff rfl fun g45 => ⟨_, _, [0, 1, 2, 3], rfl, (.cons 1 rfl <| .cons 2 rfl <| .cons 3 rfl <| .cons 5 rfl <| .cons 10 rfl <| .cons 136 rfl <| .cons 137 rfl <| .nil), (.cons 0 rfl <| .cons 1 rfl <| .cons 2 rfl <| .cons 3 rfl <| .nil), ?_⟩)
       exact JN_again (p + 1, tv) (by exact (show p + 1 ≤ m by omega)) (by show m - (_ + 1) < _; omega) (To.pick (fun _ => .sub (t := 137) rfl (sp_eq (by rfl)) <| .cons 1 rfl <| .cons 2 rfl <| .cons 3 rfl <| .cons 5 rfl <| .cons 10 rfl <| .cons 136 rfl <| .nil) (fun _ => .sub 0 rfl ((res_eq (by rw [show (p + 1) * n = p * n + q by rw [Nat.add_mul, Nat.one_mul]; omega]))) <| .sub 1 rfl ((fun _ _ h => h)) <| .cons 2 rfl <| .cons 3 rfl <| .nil) (ks := [0, 1, 2, 3]) rfl)
     ·have h9' := h9
      try simp only [cmpB, Za, Zb, Zc, Zd, Ze, Zf, Zg, Zh, Zi, Zj, Zk, Zl, Zm, Zn, Zo, Zp, Zq, Zr] at h9
      refine J_exit ?_
      refine JN_then_exit ?_
      refine JN_then_exit ?_
      refine JN_exit_here ?_
      refine JN_then ?_
      refine J_to (To.res 0 (r' := som sv flp (grid (m : Int) (n : Int) fun a b => FQ (triTo (colX (m : Int) (n : Int) xs) n) (glsAt (colX (m : Int) (n : Int) xs)) m n a.toNat b.toNat) 35) rfl (res_eq (by rw [take_gridN_all (show p = m by omega)])) rfl) ?_
      refine J_seq (J_reg [] (.cons (.no) _ _ (op_field_own fd29_1 (Lk.t rfl) rfl) <| .cons (.rd 2) _ _ (op_get_sc 2 sc3 (Lk.t rfl) rfl mem_blk rfl) <| .cons (.no) _ _ (op_field_own fd29_1 (Lk.t rfl) rfl) <| .cons (.rd 2) _ _ (op_get_sc 2 sc3 (Lk.t rfl) rfl mem_blk rfl) <| .cons (.no) _ _ (op_build zr29 rfl pl29 (.cons rfl (Lk.t rfl) co_isv rfl (puts_l rfl (Nat.le_of_ble_eq_true rfl)) (.cons rfl (Lk.t rfl) co_isv rfl (puts_l rfl (Nat.le_of_ble_eq_true rfl)) .nil))) <| .cons (.wr 3) _ _ (op_store_b 3 (Lk.t rfl) (Lk.t rfl) co_agg sz29 rfl rfl rfl) <| .nil) ff rfl fun g46 => ⟨_, _, [0, 1, 2, 3], rfl, (.cons 1 rfl <| .cons 2 rfl <| .cons 3 rfl <| .cons 5 rfl <| .nil), (.cons 0 rfl <| .cons 1 rfl <| .cons 2 rfl <| .cons 3 rfl <| .nil), ?_⟩)
      refine JN_then ?_
      refine J_seq ?_
      refine J_to (To.emps 1) ?_
      refine J_to (To.res 4 (r' := som (.slice none 0 0) flp [] 35) rfl som_nil rfl) ?_
      refine J_seq (J_reg [] (.cons (.no) _ _ (op_field_own fd29_1 (Lk.t rfl) rfl) <| .cons (.rd 2) _ _ (op_get_sc 2 sc3 (Lk.t rfl) rfl mem_blk rfl) <| .cons (.no) _ _ (op_move (Lk.k rfl)) <| .nil) ff rfl fun g47 => ⟨_, _, [0, 1, 2, 3, 4], rfl, (.cons 1 rfl <| .cons 2 rfl <| .cons 3 rfl <| .cons 5 rfl <| .cons 173 rfl <| .cons 174 rfl <| .nil), (.cons 0 rfl <| .cons 1 rfl <| .cons 2 rfl <| .cons 3 rfl <| .cons 4 rfl <| .nil), ?_⟩)
      refine JN_then ?_
      refine J_block ?_
      refine J_loopc (α := Nat × Value) (fun x => x.1 ≤ n) (fun x => n - x.1) (fun x restR => (174, isv (.int .i64 (x.1 : Int))) :: restR) (fun x restS => som x.2 flp ((grid (n : Int) (n : Int) fun a b => FR (triTo (colX (m : Int) (n : Int) xs) n) a.toNat b.toNat).take (x.1 * n)) 35 :: blk (g1 3) [isv (.int .i64 (n : Int)), isv (.int .i64 (n : Int)), isv x.2] 29 :: restS) (ρc := [(1, _), (2, _), (3, _), (5, _), (173, _)]) (σc := [_, _, _]) (0, NILV) (by exact Nat.zero_le _) (To.pick (fun _ => .sub (t := 174) rfl (sp_eq (by rfl)) <| .cons 1 rfl <| .cons 2 rfl <| .cons 3 rfl <| .cons 5 rfl <| .cons 173 rfl <| .nil) (fun _ => .sub 4 rfl ((res_eq (by rw [Nat.zero_mul, List.take_zero]))) <| .sub 3 rfl ((fun _ _ h => h)) <| .cons 0 rfl <| .cons 1 rfl <| .cons 2 rfl <| .nil) (ks := [4, 3, 0, 1, 2]) rfl) (fun x hI7 => ?_)
      obtain ⟨a, sw⟩ := x
      try simp only at hI7
      show J _ _ ((174, isv (.int .i64 (a : Int))) :: _) (som sw flp ((grid (n : Int) (n : Int) fun a b => FR (triTo (colX (m : Int) (n : Int) xs) n) a.toNat b.toNat).take (a * n)) 35 :: blk (g1 3) [isv (.int .i64 (n : Int)), isv (.int .i64 (n : Int)), isv sw] 29 :: _) _ _
      refine J_seq (J_reg [] (.cons (.no) _ _ (op_cmp (by simp) (Lk.t rfl) (Lk.t rfl) rfl) <| .nil) ff rfl fun g48 => ⟨_, _, [0, 1, 2, 3, 4], rfl, (.cons 1 rfl <| .cons 2 rfl <| .cons 3 rfl <| .cons 5 rfl <| .cons 173 rfl <| .cons 174 rfl <| .cons 175 rfl <| .nil), (.cons 0 rfl <| .cons 1 rfl <| .cons 2 rfl <| .cons 3 rfl <| .cons 4 rfl <| .nil), ?_⟩)
      refine JN_then ?_
      refine J_seq ?_
      refine J_cond (cond_of (Lk.t rfl)) (fun h11 => ?_) (fun h11 => ?_)
      ·have h11' := h11
       try simp only [cmpB, Za, Zb, Zc, Zd, Ze, Zf, Zg, Zh, Zi, Zj, Zk, Zl, Zm, Zn, Zo, Zp, Zq, Zr] at h11
       refine J_skip ?_
       refine JN_then ?_
       refine J_seq ?_
       refine J_block ?_
       refine J_seq (J_reg [] (.cons (.no) _ _ (op_move (Lk.t rfl)) <| .cons (.no) _ _ (op_assign (Lk.t rfl)) <| .nil) ff rfl fun g49 => ⟨_, _, [0, 1, 2, 3, 4], rfl, (.cons 1 rfl <| .cons 2 rfl <| .cons 3 rfl <| .cons 5 rfl <| .cons 15 rfl <| .cons 173 rfl <| .cons 174 rfl <| .nil), (.cons 0 rfl <| .cons 1 rfl <| .cons 2 rfl <| .cons 3 rfl <| .cons 4 rfl <| .nil), ?_⟩)
       refine JN_then ?_
       refine J_seq (J_reg [] (.cons (.no) _ _ (op_field_own fd29_1 (Lk.t rfl) rfl) <| .cons (.rd 4) _ _ (op_get_sc 4 sc3 (Lk.t rfl) rfl mem_blk rfl) <| .cons (.no) _ _ (op_move (Lk.k rfl)) <| .nil) ff rfl fun g50 => ⟨_, _, [0, 1, 2, 3, 4], rfl, (.cons 1 rfl <| .cons 2 rfl <| .cons 3 rfl <| .cons 5 rfl <| .cons 15 rfl <| .cons 173 rfl <| .cons 174 rfl <| .cons 178 rfl <| .cons 179 rfl <| .nil), (.cons 0 rfl <| .cons 1 rfl <| .cons 2 rfl <| .cons 3 rfl <| .cons 4 rfl <| .nil), ?_⟩)
       refine JN_then ?_
       refine J_block ?_
       refine J_loopc (α := Nat × Value) (fun y => y.1 ≤ n) (fun y => n - y.1) (fun y restR => (179, isv (.int .i64 (y.1 : Int))) :: restR) (fun y restS => som y.2 flp ((grid (n : Int) (n : Int) fun a b => FR (triTo (colX (m : Int) (n : Int) xs) n) a.toNat b.toNat).take (a * n + y.1)) 35 :: blk (g1 3) [isv (.int .i64 (n : Int)), isv (.int .i64 (n : Int)), isv y.2] 29 :: restS) (ρc := [(1, _), (2, _), (3, _), (5, _), (15, _), (173, _), (174, _), (178, _)]) (σc := [_, _, _]) (0, sw) (by exact Nat.zero_le _) (To.pick (fun _ => .sub (t := 179) rfl (sp_eq (by rfl)) <| .cons 1 rfl <| .cons 2 rfl <| .cons 3 rfl <| .cons 5 rfl <| .cons 15 rfl <| .cons 173 rfl <| .cons 174 rfl <| .cons 178 rfl <| .nil) (fun _ => .sub 0 rfl ((fun _ _ h => h)) <| .sub 1 rfl ((fun _ _ h => h)) <| .cons 2 rfl <| .cons 3 rfl <| .cons 4 rfl <| .nil) (ks := [0, 1, 2, 3, 4]) rfl) (fun y hQ7 => ?_)
       obtain ⟨b, tw⟩ := y
       try simp only at hQ7
       show J _ _ ((179, isv (.int .i64 (b : Int))) :: _) (som tw flp ((grid (n : Int) (n : Int) fun a b => FR (triTo (colX (m : Int) (n : Int) xs) n) a.toNat b.toNat).take (a * n + b)) 35 :: blk (g1 3) [isv (.int .i64 (n : Int)), isv (.int .i64 (n : Int)), isv tw] 29 :: _) _ _
       refine J_seq (J_reg [] (.cons (.no) _ _ (op_cmp (by simp) (Lk.t rfl) (Lk.t rfl) rfl) <| .nil) ff rfl fun g51 => ⟨_, _, [0, 1, 2, 3, 4], rfl, (.cons 1 rfl <| .cons 2 rfl <| .cons 3 rfl <| .cons 5 rfl <| .cons 15 rfl <| .cons 173 rfl <| .cons 174 rfl <| .cons 178 rfl <| .cons 179 rfl <| .cons 180 rfl <| .nil), (.cons 0 rfl <| .cons 1 rfl <| .cons 2 rfl <| .cons 3 rfl <| .cons 4 rfl <| .nil), ?_⟩)
       refine JN_then ?_
       refine J_seq ?_
       refine J_cond (cond_of (Lk.t rfl)) (fun h12 => ?_) (fun h12 => ?_)
       ·have h12' := h12
        try simp only [cmpB, Za, Zb, Zc, Zd, Ze, Zf, Zg, Zh, Zi, Zj, Zk, Zl, Zm, Zn, Zo, Zp, Zq, Zr] at h12
        have hT3 : (((List.range n).map (triTo (colX (m : Int) (n : Int) xs) n)).getD ((a : Nat) : Int).toNat []).length = m := by rw [Int.toNat_natCast, map_at (by omega)]; exact hTn.hl a (by omega)
        have hT4 : (((List.range n).map (triTo (colX (m : Int) (n : Int) xs) n)).getD ((b : Nat) : Int).toNat []).length = m := by rw [Int.toNat_natCast, map_at (by omega)]; exact hTn.hl b (by omega)
        have htk := take_gridN_le (F := FR (triTo (colX (m : Int) (n : Int) xs) n)) (m := n) (n := n) (k := a * n + b) (by omega) (by omega)
        have hput2 : flipN ((((List.range n).map (triTo (colX (m : Int) (n : Int) xs) n)).getD ((b : Nat) : Int).toNat []).getD ((a : Nat) : Int).toNat 0) ((((List.range n).map (triTo (colX (m : Int) (n : Int) xs) n)).getD ((a : Nat) : Int).toNat []).getD ((a : Nat) : Int).toNat 0) = FR (triTo (colX (m : Int) (n : Int) xs) n) a b := by rw [Int.toNat_natCast, Int.toNat_natCast, map_at (by omega), map_at (by omega)]; rfl
        refine J_skip ?_
        refine JN_then ?_
        refine J_seq ?_
        refine J_block ?_
        refine J_seq (J_reg [] (.cons (.no) _ _ (op_move (Lk.t rfl)) <| .cons (.no) _ _ (op_assign (Lk.t rfl)) <| .nil) ff rfl fun g52 => ⟨_, _, [0, 1, 2, 3, 4], rfl, (.cons 1 rfl <| .cons 2 rfl <| .cons 3 rfl <| .cons 5 rfl <| .cons 15 rfl <| .cons 16 rfl <| .cons 173 rfl <| .cons 174 rfl <| .cons 178 rfl <| .cons 179 rfl <| .nil), (.cons 0 rfl <| .cons 1 rfl <| .cons 2 rfl <| .cons 3 rfl <| .cons 4 rfl <| .nil), ?_⟩)
        refine JN_then ?_
        refine (J_reg [[], [0], [], [], [2, 3], [2, 3, 4], [], [2, 3, 4, 5, 6], [2, 3, 4, 5, 6, 7], [], [], [9, 10], [9, 10, 11], [], [9, 10, 11, 12, 13], [9, 10, 11, 12, 13, 14], [2, 3, 4, 5, 6, 7, 8, 9, 10, 11, 12, 13, 14, 15], [2, 3, 4, 5, 6, 7, 8, 9, 10, 11, 12, 13, 14, 15, 16], [0, 1, 2, 3, 4, 5, 6, 7, 8, 9, 10, 11, 12, 13, 14, 15, 16, 17], [0, 1, 2, 3, 4, 5, 6, 7, 8, 9, 10, 11, 12, 13, 14, 15, 16, 17, 18], [0, 1, 2, 3, 4, 5, 6, 7, 8, 9, 10, 11, 12, 13, 14, 15, 16, 17, 18, 19]] (.cons (.no) _ _ (op_field_own fd29_2 (Lk.t rfl) rfl) <| .cons (.rd 1) _ _ (op_get_sc 1 sc27 (Lk.t rfl) rfl mem_blk rfl) <| .cons (.no) _ _ (op_move (Lk.t rfl)) <| .cons (.no) _ _ (op_move (Lk.t rfl)) <| .cons (.no) _ _ (op_index_m [] sl65 (Lk.t rfl) (Lk.t rfl) (by omega) (by omega)) <| .cons (.no) _ _ (op_load_sc sc27 (Lk.t rfl) rfl) <| .cons (.no) _ _ (op_move (Lk.t rfl)) <| .cons (.no) _ _ (op_index_m 0 sl27 (Lk.t rfl) (Lk.t rfl) (by omega) (by omega)) <| .cons (.no) _ _ (op_load_sc sc35 (Lk.t rfl) rfl) <| .cons (.no) _ _ (op_move (Lk.t rfl)) <| .cons (.no) _ _ (op_move (Lk.t rfl)) <| .cons (.no) _ _ (op_index_m [] sl65 (Lk.t rfl) (Lk.t rfl) (by omega) (by omega)) <| .cons (.no) _ _ (op_load_sc sc27 (Lk.t rfl) rfl) <| .cons (.no) _ _ (op_move (Lk.t rfl)) <| .cons (.no) _ _ (op_index_m 0 sl27 (Lk.t rfl) (Lk.t rfl) (by omega) (by omega)) <| .cons (.no) _ _ (op_load_sc sc35 (Lk.t rfl) rfl) <| .cons (.no) _ _ (op_call (flip_ok) ⟨(Lk.t rfl), (Lk.t rfl),  trivial⟩) <| .cons (.no) _ _ (op_buildSlice sl27 zr35 rfl rfl rfl rfl (.cons rfl (Lk.t rfl) co_flp rfl (puts_l rfl (Nat.le_of_ble_eq_true rfl)) .nil)) <| .cons (.wr 0) _ _ (op_append_m 0 sl27 zr35 rfl (Lk.t rfl) (Lk.t rfl) rfl (by omega) (by omega)) <| .cons (.no) _ _ (op_field_own fd29_2 (Lk.t rfl) rfl) <| .cons (.wr 1) _ _ (op_store_sl 1 (Lk.t rfl) rfl sz27 rfl rfl) <| .nil) (fun _ => mixed) rfl fun g53 => ⟨_, _, [0, 1, 2, 3, 4], rfl, (.cons 1 rfl <| .cons 2 rfl <| .cons 3 rfl <| .cons 5 rfl <| .cons 15 rfl <| .cons 173 rfl <| .cons 174 rfl <| .cons 178 rfl <| .cons 179 rfl <| .nil), (.cons 0 rfl <| .cons 1 rfl <| .cons 2 rfl <| .cons 3 rfl <| .cons 4 rfl <| .nil), ?_⟩)
        refine JN_block ?_
        refine JN_then ?_
        refine (J_reg [] (.cons (.no) _ _ (op_add (Lk.t rfl) (Lk.k rfl) (wrap_id (by omega) (by omega))) <| .cons (.no) _ _ (op_move (Lk.t rfl)) <| .nil) ff rfl fun g54 => ⟨_, _, [0, 1, 2, 3, 4], rfl, (.cons 1 rfl <| .cons 2 rfl <| .cons 3 rfl <| .cons 5 rfl <| .cons 15 rfl <| .cons 173 rfl <| .cons 174 rfl <| .cons 178 rfl <| .cons 179 rfl <| .nil), (.cons 0 rfl <| .cons 1 rfl <| .cons 2 rfl <| .cons 3 rfl <| .cons 4 rfl <| .nil), ?_⟩)
        exact JN_again (b + 1, (g53 200)) (by exact (show b + 1 ≤ n by omega)) (by show n - (_ + 1) < _; omega) (To.pick (fun _ => .sub (t := 179) rfl (sp_eq (by rfl)) <| .cons 1 rfl <| .cons 2 rfl <| .cons 3 rfl <| .cons 5 rfl <| .cons 15 rfl <| .cons 173 rfl <| .cons 174 rfl <| .cons 178 rfl <| .nil) (fun _ => .sub 0 rfl ((res_eq (by rw [take_gridN (F := (FR (triTo (colX (m : Int) (n : Int) xs) n))) (by omega) (by omega), ← hput2]))) <| .sub 1 rfl ((fun _ _ h => h)) <| .cons 2 rfl <| .cons 3 rfl <| .cons 4 rfl <| .nil) (ks := [0, 1, 2, 3, 4]) rfl)
       ·have h12' := h12
        try simp only [cmpB, Za, Zb, Zc, Zd, Ze, Zf, Zg, Zh, Zi, Zj, Zk, Zl, Zm, Zn, Zo, Zp, Zq, Zr] at h12
        refine J_exit ?_
        refine JN_then_exit ?_
        refine JN_then_exit ?_
        refine JN_exit_here ?_
        refine JN_block ?_
        refine JN_then ?_
        refine (J_reg [] (.cons (.no) _ _ (op_add (Lk.t rfl) (Lk.k rfl) (wrap_id (by omega) (by omega))) <| .cons (.no) _ _ (op_move (Lk.t rfl)) <| .nil) ff rfl fun g55 => ⟨_, _, [0, 1, 2, 3, 4], rfl, (.cons 1 rfl <| .cons 2 rfl <| .cons 3 rfl <| .cons 5 rfl <| .cons 173 rfl <| .cons 174 rfl <| .nil), (.cons 0 rfl <| .cons 1 rfl <| .cons 2 rfl <| .cons 3 rfl <| .cons 4 rfl <| .nil), ?_⟩)
        exact JN_again (a + 1, tw) (by exact (show a + 1 ≤ n by omega)) (by show n - (_ + 1) < _; omega) (To.pick (fun _ => .sub (t := 174) rfl (sp_eq (by rfl)) <| .cons 1 rfl <| .cons 2 rfl <| .cons 3 rfl <| .cons 5 rfl <| .cons 173 rfl <| .nil) (fun _ => .sub 0 rfl ((res_eq (by rw [show (a + 1) * n = a * n + b by rw [Nat.add_mul, Nat.one_mul]; omega]))) <| .sub 1 rfl ((fun _ _ h => h)) <| .cons 2 rfl <| .cons 3 rfl <| .cons 4 rfl <| .nil) (ks := [0, 1, 2, 3, 4]) rfl)
      ·have h11' := h11
       try simp only [cmpB, Za, Zb, Zc, Zd, Ze, Zf, Zg, Zh, Zi, Zj, Zk, Zl, Zm, Zn, Zo, Zp, Zq, Zr] at h11
       refine J_exit ?_
       refine JN_then_exit ?_
       refine JN_then_exit ?_
       refine JN_exit_here ?_
       refine JN_then ?_
       refine J_seq ?_
       refine J_to (To.res 0 (r' := som sw flp (grid (n : Int) (n : Int) fun a b => FR (triTo (colX (m : Int) (n : Int) xs) n) a.toNat b.toNat) 35) rfl (res_eq (by rw [take_gridN_all (show a = n by omega)])) rfl) ?_
       refine J_to (To.freezeN 2 (fun _ h => h) rfl frz_som (pure_som pure_flp).n rfl) ?_
       refine J_to (To.freezeN 0 (fun _ h => h) rfl frz_som (pure_som pure_flp).n rfl) ?_
       refine J_seq (J_reg [] (.cons (.no) _ _ (op_field_own fd29_2 (Lk.t rfl) rfl) <| .cons (.rd 3) _ _ (op_get_sc 3 sc27 (Lk.t rfl) rfl mem_blk rfl) <| .cons (.no) _ _ (op_call (finite_ok) ⟨(Lk.sub (sb_trans (sb_fk 1 rfl) sb_new) (Lk.t rfl)),  trivial⟩) <| .cons (.no) _ _ (op_not (Lk.t rfl)) <| .cons (.no) _ _ (op_move (Lk.t rfl)) <| .cons (.no) _ _ (op_guard rfl rfl (gd_b rfl) (fun hC => (op_field_own fd29_2 (Lk.t rfl) rfl))) <| .cons (.rd 1) _ _ (op_guard rfl rfl (gd_b rfl) (fun hC => (op_get_sc 1 sc27 (Lk.w rfl hC) rfl mem_blk rfl))) <| .cons (.no) _ _ (op_guard rfl rfl (gd_b rfl) (fun hC => (op_call (finite_ok) ⟨(Lk.sub (sb_trans (sb_fk 0 rfl) sb_new) (Lk.w rfl hC)),  trivial⟩))) <| .cons (.no) _ _ (op_guard rfl rfl (gd_b rfl) (fun hC => (op_not (Lk.w rfl hC)))) <| .cons (.no) _ _ (op_or (Lk.t rfl) (fun h2 => (Lk.w rfl h2))) <| .nil) ff rfl fun g56 => ⟨_, _, [1, 3], rfl, (.cons 2 rfl <| .cons 3 rfl <| .cons 213 rfl <| .nil), (.cons 1 rfl <| .cons 3 rfl <| .nil), ?_⟩)
       refine JN_then ?_
       refine J_cond (cond_of (Lk.t rfl)) (fun h13 => ?_) (fun h13 => ?_)
       ·have h13' := h13
        try simp only [cmpB, Za, Zb, Zc, Zd, Ze, Zf, Zg, Zh, Zi, Zj, Zk, Zl, Zm, Zn, Zo, Zp, Zq, Zr] at h13
        refine J_seq (J_reg [] (.cons (.no) _ _ (op_build zr29 rfl pl29 .nil) <| .cons (.no) _ _ (op_build zr29 rfl pl29 .nil) <| .cons (.wr 1) _ _ (op_store_b 1 (Lk.t rfl) (Lk.t rfl) co_agg sz29 rfl rfl rfl) <| .cons (.wr 0) _ _ (op_store_b 0 (Lk.t rfl) (Lk.t rfl) co_agg sz29 rfl rfl rfl) <| .cons (.no) _ _ (op_assign (Lk.k rfl)) <| .nil) ff rfl fun g57 => ⟨_, _, [0, 1], rfl, (.cons 2 rfl <| .cons 3 rfl <| .cons 4 rfl <| .nil), (.cons 0 rfl <| .cons 1 rfl <| .nil), ?_⟩)
        refine JN_then ?_
        refine J_ret ?_
        refine JN_then_ret ?_
        refine JN_ret (.cons (.ag 1 (Lk.t rfl) ag29 rfl rfl rfl) <| .cons (.ag 0 (Lk.t rfl) ag29 rfl rfl rfl) <| .cons (.tmp (Lk.t rfl)) <| .nil) (sb_trans (sb_res (.cons (sb_agg (.cons sb_refl <| .cons sb_refl <| .cons (sb_nilN (mk := flp)) <| .nil)) <| .cons (sb_agg (.cons sb_refl <| .cons sb_refl <| .cons (sb_nilN (mk := flp)) <| .nil)) <| .cons sb_refl <| .nil)) (sb_trans push_Q (sb_newp ?_)))
        exact sb_eq (by rw [qrM_4 hz hrc rfl rfl hTn]; unfold endsQ; rw [if_pos (by rw [← qQ_eq, ← qR_eq]; exact h13')]; rfl)
       ·have h13' := h13
        try simp only [cmpB, Za, Zb, Zc, Zd, Ze, Zf, Zg, Zh, Zi, Zj, Zk, Zl, Zm, Zn, Zo, Zp, Zq, Zr] at h13
        refine J_skip ?_
        refine JN_then ?_
        refine J_seq (J_reg [[], [], [0], [0, 1, 2], [0, 1, 2, 3]] (.cons (.rd 1) _ _ (op_get_ag 1 ag29 (Lk.t rfl) rfl mem_blk rfl rfl) <| .cons (.rd 0) _ _ (op_get_ag 0 ag29 (Lk.t rfl) rfl mem_blk rfl rfl) <| .cons (.wr 1) _ _ (op_store_b 1 (Lk.t rfl) (Lk.t rfl) co_agg sz29 rfl rfl rfl) <| .cons (.wr 0) _ _ (op_store_b 0 (Lk.t rfl) (Lk.t rfl) co_agg sz29 rfl rfl rfl) <| .cons (.no) _ _ (op_assign (Lk.k rfl)) <| .nil) (fun _ => mixed) rfl fun g58 => ⟨_, _, [0, 1], rfl, (.cons 2 rfl <| .cons 3 rfl <| .cons 4 rfl <| .nil), (.cons 0 rfl <| .cons 1 rfl <| .nil), ?_⟩)
        refine JN_then ?_
        refine J_ret ?_
        refine JN_ret (.cons (.ag 1 (Lk.t rfl) ag29 rfl rfl rfl) <| .cons (.ag 0 (Lk.t rfl) ag29 rfl rfl rfl) <| .cons (.tmp (Lk.t rfl)) <| .nil) (sb_trans (sb_res (.cons (sb_agg (.cons sb_refl <| .cons sb_refl <| .cons (sb_fk 1 rfl) <| .nil)) <| .cons (sb_agg (.cons sb_refl <| .cons sb_refl <| .cons (sb_fk 0 rfl) <| .nil)) <| .cons sb_refl <| .nil)) (sb_trans push_Q (sb_newp ?_)))
        exact sb_eq (by rw [qrM_4 hz hrc rfl rfl hTn]; unfold endsQ; rw [if_neg (by rw [← qQ_eq, ← qR_eq, h13']; decide)]; rfl)
theorem leastN_ok {r c : Int} {xs ys : List Nat} (hlt : LtL xs) : CtN Try.prog 18 [MatP r c xs, fls ys] (resV (leastM r c xs ys)) := by
 refine CtN.of Try.func18 rfl (by kernel_rfl) rfl fun c0 => ?_
 refine J_to To.size ?_
 refine J_len 1 rfl fun hlen => ?_
 refine J_to (To.emps 1) ?_
 refine J_seq (J_reg [] (.cons (.wr 0) _ _ (op_box 0 (Lk.t rfl) co_agg rfl) <| .cons (.no) _ _ (op_assign (Lk.k rfl)) <| .cons (.no) _ _ (op_assign (Lk.k rfl)) <| .nil) ff rfl fun g1 => ⟨_, _, [0], rfl, (.cons 1 rfl <| .cons 2 rfl <| .nil), (.cons 0 rfl <| .nil), ?_⟩)
 refine JN_then ?_
 refine J_seq ?_
 refine J_seq (J_reg [] (.cons (.rd 0) _ _ (op_get_ag 0 ag29 (Lk.t rfl) rfl mem_blk rfl rfl) <| .cons (.no) _ _ (op_call (chk_ok) ⟨(Lk.t rfl),  trivial⟩) <| .cons (.no) _ _ (op_assign (Lk.t rfl)) <| .nil) ff rfl fun g2 => ⟨_, _, [0], rfl, (.cons 1 rfl <| .cons 2 rfl <| .cons 6 rfl <| .nil), (.cons 0 rfl <| .nil), ?_⟩)
 refine JN_then ?_
 refine J_seq (J_reg [] (.cons (.no) _ _ (op_move (Lk.t rfl)) <| .cons (.no) _ _ (op_cmp (by simp) (Lk.t rfl) (Lk.k rfl) rfl) <| .nil) ff rfl fun g3 => ⟨_, _, [0], rfl, (.cons 1 rfl <| .cons 2 rfl <| .cons 6 rfl <| .cons 22 rfl <| .nil), (.cons 0 rfl <| .nil), ?_⟩)
 refine JN_then ?_
 refine J_cond (cond_of (Lk.t rfl)) (fun h1 => ?_) (fun h1 => ?_)
 ·have h1' := h1
  try simp only [cmpB, Za, Zb, Zc, Zd, Ze, Zf, Zg, Zh, Zi, Zj, Zk, Zl, Zm, Zn, Zo, Zp, Zq, Zr] at h1
  refine J_seq (J_reg [] (.cons (.no) _ _ (op_move (Lk.t rfl)) <| .cons (.no) _ _ (op_assign (Lk.k rfl)) <| .cons (.no) _ _ (op_assign (Lk.t rfl)) <| .nil) ff rfl fun g4 => ⟨_, _, [], rfl, (.cons 4 rfl <| .cons 5 rfl <| .nil), (.nil), ?_⟩)
  refine JN_then ?_
  refine J_ret ?_
  refine JN_then_ret ?_
  refine JN_ret (.cons (.tmp (Lk.t rfl)) <| .cons (.tmp (Lk.t rfl)) <| .nil) (sb_trans (sb_res (.cons (sb_nilN (mk := flp)) <| .cons sb_refl <| .nil)) (sb_trans push_V (sb_newp ?_)))
  exact ret_L (least_1 (by simpa using h1)).symm
 ·have h1' := h1
  try simp only [cmpB, Za, Zb, Zc, Zd, Ze, Zf, Zg, Zh, Zi, Zj, Zk, Zl, Zm, Zn, Zo, Zp, Zq, Zr] at h1
  have hz : chk r c xs = 0 := by simpa using h1
  have hck := chk_good hz
  obtain ⟨hs1, hs2, hs3, hs4⟩ := hck.1
  refine J_skip ?_
  refine JN_then ?_
  refine J_seq ?_
  refine J_seq (J_reg [] (.cons (.no) _ _ (op_move (Lk.t rfl)) <| .cons (.no) _ _ (op_call (qlist_ok) ⟨(Lk.t rfl),  trivial⟩) <| .cons (.no) _ _ (op_assign (Lk.t rfl)) <| .nil) ff rfl fun g5 => ⟨_, _, [0], rfl, (.cons 1 rfl <| .cons 2 rfl <| .cons 7 rfl <| .nil), (.cons 0 rfl <| .nil), ?_⟩)
  refine JN_then ?_
  refine J_seq (J_reg [] (.cons (.no) _ _ (op_move (Lk.t rfl)) <| .cons (.no) _ _ (op_cmp (by simp) (Lk.t rfl) (Lk.k rfl) rfl) <| .nil) ff rfl fun g6 => ⟨_, _, [0], rfl, (.cons 1 rfl <| .cons 2 rfl <| .cons 7 rfl <| .cons 27 rfl <| .nil), (.cons 0 rfl <| .nil), ?_⟩)
  refine JN_then ?_
  refine J_cond (cond_of (Lk.t rfl)) (fun h2 => ?_) (fun h2 => ?_)
  ·have h2' := h2
   try simp only [cmpB, Za, Zb, Zc, Zd, Ze, Zf, Zg, Zh, Zi, Zj, Zk, Zl, Zm, Zn, Zo, Zp, Zq, Zr] at h2
   refine J_seq (J_reg [] (.cons (.no) _ _ (op_move (Lk.t rfl)) <| .cons (.no) _ _ (op_assign (Lk.k rfl)) <| .cons (.no) _ _ (op_assign (Lk.t rfl)) <| .nil) ff rfl fun g7 => ⟨_, _, [], rfl, (.cons 4 rfl <| .cons 5 rfl <| .nil), (.nil), ?_⟩)
   refine JN_then ?_
   refine J_ret ?_
   refine JN_then_ret ?_
   refine JN_ret (.cons (.tmp (Lk.t rfl)) <| .cons (.tmp (Lk.t rfl)) <| .nil) (sb_trans (sb_res (.cons (sb_nilN (mk := flp)) <| .cons sb_refl <| .nil)) (sb_trans push_V (sb_newp ?_)))
   exact ret_L (least_2 hz (by simpa using h2)).symm
  ·have h2' := h2
   try simp only [cmpB, Za, Zb, Zc, Zd, Ze, Zf, Zg, Zh, Zi, Zj, Zk, Zl, Zm, Zn, Zo, Zp, Zq, Zr] at h2
   have hz2 : lchkW ys = 0 := by simpa using h2
   refine J_skip ?_
   refine JN_then ?_
   refine J_seq ?_
   refine J_seq (J_reg [] (.cons (.no) _ _ (op_field_own fd29_0 (Lk.t rfl) rfl) <| .cons (.rd 0) _ _ (op_get_sc 0 sc3 (Lk.t rfl) rfl mem_blk rfl) <| .cons (.no) _ _ (op_field_own fd29_1 (Lk.t rfl) rfl) <| .cons (.rd 0) _ _ (op_get_sc 0 sc3 (Lk.t rfl) rfl mem_blk rfl) <| .cons (.no) _ _ (op_cmp (by simp) (Lk.t rfl) (Lk.t rfl) rfl) <| .cons (.no) _ _ (op_move (Lk.t rfl)) <| .cons (.no) _ _ (op_guard rfl rfl (gd_b rfl) (fun hC => (op_move (Lk.t rfl)))) <| .cons (.no) _ _ (op_guard rfl rfl (gd_b rfl) (fun hC => (op_len_m sl27 (Lk.w rfl hC)))) <| .cons (.no) _ _ (op_guard rfl rfl (gd_b rfl) (fun hC => (op_field_own fd29_0 (Lk.t rfl) rfl))) <| .cons (.rd 0) _ _ (op_guard rfl rfl (gd_b rfl) (fun hC => (op_get_sc 0 sc3 (Lk.w rfl hC) rfl mem_blk rfl))) <| .cons (.no) _ _ (op_guard rfl rfl (gd_b rfl) (fun hC => (op_cmp (by simp) (Lk.w rfl hC) (Lk.w rfl hC) rfl))) <| .cons (.no) _ _ (op_or (Lk.t rfl) (fun h2 => (Lk.w rfl h2))) <| .nil) ff rfl fun g8 => ⟨_, _, [0], rfl, (.cons 1 rfl <| .cons 2 rfl <| .cons 40 rfl <| .nil), (.cons 0 rfl <| .nil), ?_⟩)
   refine JN_then ?_
   refine J_cond (cond_of (Lk.t rfl)) (fun h3 => ?_) (fun h3 => ?_)
   ·have h3' := h3
    try simp only [cmpB, Za, Zb, Zc, Zd, Ze, Zf, Zg, Zh, Zi, Zj, Zk, Zl, Zm, Zn, Zo, Zp, Zq, Zr] at h3
    refine J_seq (J_reg [] (.cons (.no) _ _ (op_assign (Lk.k rfl)) <| .cons (.no) _ _ (op_assign (Lk.k rfl)) <| .nil) ff rfl fun g9 => ⟨_, _, [], rfl, (.cons 4 rfl <| .cons 5 rfl <| .nil), (.nil), ?_⟩)
    refine JN_then ?_
    refine J_ret ?_
    refine JN_then_ret ?_
    refine JN_ret (.cons (.tmp (Lk.t rfl)) <| .cons (.tmp (Lk.t rfl)) <| .nil) (sb_trans (sb_res (.cons (sb_nilN (mk := flp)) <| .cons sb_refl <| .nil)) (sb_trans push_V (sb_newp ?_)))
    exact ret_L (least_3 hz hz2 (by first | exact h3 | omega)).symm
   ·have h3' := h3
    try simp only [cmpB, Za, Zb, Zc, Zd, Ze, Zf, Zg, Zh, Zi, Zj, Zk, Zl, Zm, Zn, Zo, Zp, Zq, Zr] at h3
    have h3n : ¬ (r < c ∨ (ys.length : Int) ≠ r) := by omega
    have hrc : ¬ r < c := by omega
    have hyl : (ys.length : Int) = r := by omega
    obtain ⟨n, rfl⟩ : ∃ n : Nat, c = (n : Int) := ⟨c.toNat, by omega⟩
    refine J_skip ?_
    refine JN_then ?_
    refine J_to (To.emps 2) ?_
    refine J_seq (J_reg [] (.cons (.rd 0) _ _ (op_get_ag 0 ag29 (Lk.t rfl) rfl mem_blk rfl rfl) <| .cons (.no) _ _ (op_call (qr_ok (by assumption)) ⟨(Lk.t rfl),  trivial⟩) <| .cons (.no) _ _ (op_move (Lk.t rfl)) <| .cons (.no) _ _ (op_extract (Lk.t rfl) rfl) <| .cons (.no) _ _ (op_extract (Lk.t rfl) rfl) <| .cons (.no) _ _ (op_extract (Lk.t rfl) rfl) <| .cons (.wr 1) _ _ (op_alloc 1 zr29 rfl rfl) <| .cons (.wr 2) _ _ (op_alloc 2 zr29 rfl rfl) <| .cons (.wr 1) _ _ (op_store_new 1 rfl (Lk.t rfl) co_agg sz29 rfl rfl) <| .cons (.wr 2) _ _ (op_store_new 2 rfl (Lk.t rfl) co_agg sz29 rfl rfl) <| .cons (.no) _ _ (op_assign (Lk.t rfl)) <| .nil) ff rfl fun g10 => ⟨_, _, [0, 1, 2], rfl, (.cons 1 rfl <| .cons 2 rfl <| .cons 8 rfl <| .cons 9 rfl <| .cons 10 rfl <| .nil), (.cons 0 rfl <| .cons 1 rfl <| .cons 2 rfl <| .nil), ?_⟩)
    refine JN_then ?_
    refine J_seq ?_
    refine J_seq (J_reg [] (.cons (.no) _ _ (op_move (Lk.t rfl)) <| .cons (.no) _ _ (op_cmp (by simp) (Lk.t rfl) (Lk.k rfl) rfl) <| .nil) ff rfl fun g11 => ⟨_, _, [0, 1, 2], rfl, (.cons 1 rfl <| .cons 2 rfl <| .cons 8 rfl <| .cons 9 rfl <| .cons 10 rfl <| .cons 48 rfl <| .nil), (.cons 0 rfl <| .cons 1 rfl <| .cons 2 rfl <| .nil), ?_⟩)
    refine JN_then ?_
    refine J_cond (cond_of (Lk.t rfl)) (fun h4 => ?_) (fun h4 => ?_)
    ·have h4' := h4
     try simp only [cmpB, Za, Zb, Zc, Zd, Ze, Zf, Zg, Zh, Zi, Zj, Zk, Zl, Zm, Zn, Zo, Zp, Zq, Zr] at h4
     refine J_seq (J_reg [] (.cons (.no) _ _ (op_move (Lk.t rfl)) <| .cons (.no) _ _ (op_assign (Lk.k rfl)) <| .cons (.no) _ _ (op_assign (Lk.t rfl)) <| .nil) ff rfl fun g12 => ⟨_, _, [], rfl, (.cons 4 rfl <| .cons 5 rfl <| .nil), (.nil), ?_⟩)
     refine JN_then ?_
     refine J_ret ?_
     refine JN_then_ret ?_
     refine JN_ret (.cons (.tmp (Lk.t rfl)) <| .cons (.tmp (Lk.t rfl)) <| .nil) (sb_trans (sb_res (.cons (sb_nilN (mk := flp)) <| .cons sb_refl <| .nil)) (sb_trans push_V (sb_newp ?_)))
     exact ret_L (least_4 hz hz2 h3n (by simpa using h4)).symm
    ·have h4' := h4
     try simp only [cmpB, Za, Zb, Zc, Zd, Ze, Zf, Zg, Zh, Zi, Zj, Zk, Zl, Zm, Zn, Zo, Zp, Zq, Zr] at h4
     have he0 : (qrM r (n : Int) xs).e = 0 := by simpa using h4
     obtain ⟨hq1, hq2, hq3, hq4, hgq, hgr⟩ := qrM_good hz he0
     have hql := hgq.2
     have hrl := hgr.2
     have hm1 := hgq.1.mul
     have hm2 := hgr.1.mul
     refine J_skip ?_
     refine JN_then ?_
     refine J_seq (J_reg [] (.cons (.no) _ _ (op_field_own fd29_1 (Lk.t rfl) rfl) <| .cons (.rd 0) _ _ (op_get_sc 0 sc3 (Lk.t rfl) rfl mem_blk rfl) <| .cons (.no) _ _ (op_assign (Lk.t rfl)) <| .nil) ff rfl fun g13 => ⟨_, _, [0, 1, 2], rfl, (.cons 1 rfl <| .cons 2 rfl <| .cons 8 rfl <| .cons 9 rfl <| .cons 11 rfl <| .nil), (.cons 0 rfl <| .cons 1 rfl <| .cons 2 rfl <| .nil), ?_⟩)
     refine JN_then ?_
     refine J_seq ?_
     refine J_seq (J_reg [] (.cons (.no) _ _ (op_move (Lk.t rfl)) <| .cons (.no) _ _ (op_move (Lk.k rfl)) <| .nil) ff rfl fun g14 => ⟨_, _, [0, 1, 2], rfl, (.cons 1 rfl <| .cons 2 rfl <| .cons 8 rfl <| .cons 9 rfl <| .cons 11 rfl <| .cons 52 rfl <| .cons 53 rfl <| .nil), (.cons 0 rfl <| .cons 1 rfl <| .cons 2 rfl <| .nil), ?_⟩)
     refine JN_then ?_
     refine J_block ?_
     refine J_loopc (α := Nat) (fun k => k ≤ n ∧ ∀ p, p < k → fcmp .eql (mat (n : Int) (qrM r (n : Int) xs).a2 (p : Int) (p : Int)) 0 = false) (fun k => n - k) (fun k restR => (53, isv (.int .i64 (k : Int))) :: restR) (fun k restS => restS) (ρc := [(1, _), (2, _), (8, _), (9, _), (11, _), (52, _)]) (σc := [_, _, _]) 0 (by exact ⟨Nat.zero_le _, fun p hp => absurd hp (Nat.not_lt_zero p)⟩) (To.pick (fun _ => .sub (t := 53) rfl (sp_eq (by rfl)) <| .cons 1 rfl <| .cons 2 rfl <| .cons 8 rfl <| .cons 9 rfl <| .cons 11 rfl <| .cons 52 rfl <| .nil) (fun _ => .cons 0 rfl <| .cons 1 rfl <| .cons 2 rfl <| .nil) (ks := [0, 1, 2]) rfl) (fun k hIz => ?_)
     refine J_seq (J_reg [] (.cons (.no) _ _ (op_cmp (by simp) (Lk.t rfl) (Lk.t rfl) rfl) <| .nil) ff rfl fun g15 => ⟨_, _, [0, 1, 2], rfl, (.cons 1 rfl <| .cons 2 rfl <| .cons 8 rfl <| .cons 9 rfl <| .cons 11 rfl <| .cons 52 rfl <| .cons 53 rfl <| .cons 54 rfl <| .nil), (.cons 0 rfl <| .cons 1 rfl <| .cons 2 rfl <| .nil), ?_⟩)
     refine JN_then ?_
     refine J_seq ?_
     refine J_cond (cond_of (Lk.t rfl)) (fun h5 => ?_) (fun h5 => ?_)
     ·have h5' := h5
      try simp only [cmpB, Za, Zb, Zc, Zd, Ze, Zf, Zg, Zh, Zi, Zj, Zk, Zl, Zm, Zn, Zo, Zp, Zq, Zr] at h5
      have hpk := (show Pl (n : Int) (n : Int) (k : Int) (k : Int) from ⟨by omega, by omega, by omega, by omega⟩).rng hgr.1
      have hpm := Int.mul_nonneg (show (0 : Int) ≤ (k : Int) by omega) (show (0 : Int) ≤ (n : Int) by omega)
      refine J_skip ?_
      refine JN_then ?_
      refine J_seq ?_
      refine J_block ?_
      refine J_seq (J_reg [] (.cons (.no) _ _ (op_move (Lk.t rfl)) <| .cons (.no) _ _ (op_assign (Lk.t rfl)) <| .nil) ff rfl fun g16 => ⟨_, _, [0, 1, 2], rfl, (.cons 1 rfl <| .cons 2 rfl <| .cons 8 rfl <| .cons 9 rfl <| .cons 11 rfl <| .cons 12 rfl <| .cons 52 rfl <| .cons 53 rfl <| .nil), (.cons 0 rfl <| .cons 1 rfl <| .cons 2 rfl <| .nil), ?_⟩)
      refine JN_then ?_
      refine J_seq (J_reg [] (.cons (.no) _ _ (op_field_own fd29_2 (Lk.t rfl) rfl) <| .cons (.rd 2) _ _ (op_get_sc 2 sc27 (Lk.t rfl) rfl mem_blk rfl) <| .cons (.no) _ _ (op_move (Lk.t rfl)) <| .cons (.no) _ _ (op_move (Lk.t rfl)) <| .cons (.no) _ _ (op_mul (Lk.t rfl) (Lk.t rfl) (wrap_id (by omega) (by omega))) <| .cons (.no) _ _ (op_move (Lk.t rfl)) <| .cons (.no) _ _ (op_add (Lk.t rfl) (Lk.t rfl) (wrap_id (by omega) (by omega))) <| .cons (.no) _ _ (op_index_m 0 sl27 (Lk.t rfl) (Lk.t rfl) (by omega) (by omega)) <| .cons (.no) _ _ (op_load_sc sc35 (Lk.t rfl) rfl) <| .cons (.no) _ _ (op_fcmp (by simp) (Lk.t rfl) (Lk.fk rfl (by decide +kernel)) rfl) <| .nil) ff rfl fun g17 => ⟨_, _, [0, 1, 2], rfl, (.cons 1 rfl <| .cons 2 rfl <| .cons 8 rfl <| .cons 9 rfl <| .cons 11 rfl <| .cons 52 rfl <| .cons 53 rfl <| .cons 65 rfl <| .nil), (.cons 0 rfl <| .cons 1 rfl <| .cons 2 rfl <| .nil), ?_⟩)
      refine JN_then ?_
      refine J_cond (cond_of (Lk.t rfl)) (fun h6 => ?_) (fun h6 => ?_)
      ·have h6' := h6
       try simp only [cmpB, Za, Zb, Zc, Zd, Ze, Zf, Zg, Zh, Zi, Zj, Zk, Zl, Zm, Zn, Zo, Zp, Zq, Zr] at h6
       refine J_seq (J_reg [] (.cons (.no) _ _ (op_assign (Lk.k rfl)) <| .cons (.no) _ _ (op_assign (Lk.k rfl)) <| .nil) ff rfl fun g18 => ⟨_, _, [], rfl, (.cons 4 rfl <| .cons 5 rfl <| .nil), (.nil), ?_⟩)
       refine JN_then ?_
       refine J_ret ?_
       refine JN_block_ret ?_
       refine JN_then_ret ?_
       refine JN_then_ret ?_
       refine JN_block_ret ?_
       refine JN_then_ret ?_
       refine JN_ret (.cons (.tmp (Lk.t rfl)) <| .cons (.tmp (Lk.t rfl)) <| .nil) (sb_trans (sb_res (.cons (sb_nilN (mk := flp)) <| .cons sb_refl <| .nil)) (sb_trans push_V (sb_newp ?_)))
       exact ret_L (least_5 hz hz2 h3n he0 rfl (show k < n by omega) h6).symm
      ·have h6' := h6
       try simp only [cmpB, Za, Zb, Zc, Zd, Ze, Zf, Zg, Zh, Zi, Zj, Zk, Zl, Zm, Zn, Zo, Zp, Zq, Zr] at h6
       have hk0 : fcmp .eql (mat (n : Int) (qrM r (n : Int) xs).a2 (k : Int) (k : Int)) 0 = false := h6
       refine J_skip ?_
       refine JN_block ?_
       refine JN_then ?_
       refine (J_reg [] (.cons (.no) _ _ (op_add (Lk.t rfl) (Lk.k rfl) (wrap_id (by omega) (by omega))) <| .cons (.no) _ _ (op_move (Lk.t rfl)) <| .nil) ff rfl fun g19 => ⟨_, _, [0, 1, 2], rfl, (.cons 1 rfl <| .cons 2 rfl <| .cons 8 rfl <| .cons 9 rfl <| .cons 11 rfl <| .cons 52 rfl <| .cons 53 rfl <| .nil), (.cons 0 rfl <| .cons 1 rfl <| .cons 2 rfl <| .nil), ?_⟩)
       exact JN_again (k + 1) (by exact ⟨by omega, fun p hp => if e : p = k then e ▸ hk0 else hIz.2 p (by omega)⟩) (by omega) (To.pick (fun _ => .sub (t := 53) rfl (sp_eq (by rfl)) <| .cons 1 rfl <| .cons 2 rfl <| .cons 8 rfl <| .cons 9 rfl <| .cons 11 rfl <| .cons 52 rfl <| .nil) (fun _ => .cons 0 rfl <| .cons 1 rfl <| .cons 2 rfl <| .nil) (ks := [0, 1, 2]) rfl)
     ·have h5' := h5
      try simp only [cmpB, Za, Zb, Zc, Zd, Ze, Zf, Zg, Zh, Zi, Zj, Zk, Zl, Zm, Zn, Zo, Zp, Zq, Zr] at h5
      have hnz : ∀ p, p < n → fcmp .eql (mat (n : Int) (qrM r (n : Int) xs).a2 (p : Int) (p : Int)) 0 = false := fun p hp => hIz.2 p (by omega)
      refine J_exit ?_
      refine JN_then_exit ?_
      refine JN_then_exit ?_
      refine JN_exit_here ?_
      refine JN_then ?_
      refine J_to (To.emps 1) ?_
      refine J_seq (J_reg [] (.cons (.no) _ _ (op_move (Lk.t rfl)) <| .cons (.wr 3) _ _ (op_make_m (mk := flp) 0 3 sl27 zr35 rfl (fun _ => flp_zero) (Lk.t rfl) (Lk.t rfl) (by omega) (by omega) (by omega) (by omega) rfl) <| .cons (.no) _ _ (op_assign_ve rfl rfl) <| .nil) ff rfl fun g20 => ⟨_, _, [0, 1, 2, 3], rfl, (.cons 1 rfl <| .cons 2 rfl <| .cons 8 rfl <| .cons 9 rfl <| .cons 11 rfl <| .cons 13 rfl <| .nil), (.cons 0 rfl <| .cons 1 rfl <| .cons 2 rfl <| .cons 3 rfl <| .nil), ?_⟩)
      refine JN_then ?_
      refine J_seq ?_
      refine J_seq (J_reg [] (.cons (.no) _ _ (op_move (Lk.t rfl)) <| .cons (.no) _ _ (op_sub (Lk.t rfl) (Lk.k rfl) (wrap_id (by omega) (by omega))) <| .cons (.no) _ _ (op_assign (Lk.t rfl)) <| .nil) ff rfl fun g21 => ⟨_, _, [0, 1, 2, 3], rfl, (.cons 1 rfl <| .cons 2 rfl <| .cons 8 rfl <| .cons 9 rfl <| .cons 11 rfl <| .cons 13 rfl <| .cons 14 rfl <| .nil), (.cons 0 rfl <| .cons 1 rfl <| .cons 2 rfl <| .cons 3 rfl <| .nil), ?_⟩)
      refine JN_then ?_
      refine J_block ?_
      refine J_loopc (α := Nat) (fun d => d ≤ n ∧ ∀ p, p < d → stB r (n : Int) (n : Int) (qrM r (n : Int) xs).a1 (qrM r (n : Int) xs).a2 ys n p = false) (fun d => n - d) (fun d restR => (14, isv (.int .i64 ((n : Int) - 1 - (d : Int)))) :: restR) (fun d restS => som (g20 68) flp (lsX r (n : Int) (n : Int) (qrM r (n : Int) xs).a1 (qrM r (n : Int) xs).a2 ys n d) 35 :: restS) (ρc := [(1, _), (2, _), (8, _), (9, _), (11, _), (13, _)]) (σc := [_, _, _]) 0 (by exact ⟨Nat.zero_le _, fun p hp => absurd hp (Nat.not_lt_zero p)⟩) (To.pick (fun _ => .sub (t := 14) rfl (sp_eq (by exact congrArg (fun z => isv (.int .i64 z)) (by omega))) <| .cons 1 rfl <| .cons 2 rfl <| .cons 8 rfl <| .cons 9 rfl <| .cons 11 rfl <| .cons 13 rfl <| .nil) (fun _ => .sub 3 rfl ((fun _ _ h => h)) <| .cons 0 rfl <| .cons 1 rfl <| .cons 2 rfl <| .nil) (ks := [3, 0, 1, 2]) rfl) (fun d hI4 => ?_)
      have hdn0 : d ≤ n := hI4.1
      have hst := hI4.2
      have hxl := length_lsX r (n : Int) (n : Int) (qrM r (n : Int) xs).a1 (qrM r (n : Int) xs).a2 ys n d
      refine J_seq ?_
      refine J_seq (J_reg [] (.cons (.no) _ _ (op_move (Lk.t rfl)) <| .cons (.no) _ _ (op_cmp (by simp) (Lk.t rfl) (Lk.k rfl) rfl) <| .nil) ff rfl fun g22 => ⟨_, _, [0, 1, 2, 3], rfl, (.cons 1 rfl <| .cons 2 rfl <| .cons 8 rfl <| .cons 9 rfl <| .cons 11 rfl <| .cons 13 rfl <| .cons 14 rfl <| .cons 72 rfl <| .nil), (.cons 0 rfl <| .cons 1 rfl <| .cons 2 rfl <| .cons 3 rfl <| .nil), ?_⟩)
      refine JN_then ?_
      refine J_cond (cond_of (Lk.t rfl)) (fun h7 => ?_) (fun h7 => ?_)
      ·have h7' := h7
       try simp only [cmpB, Za, Zb, Zc, Zd, Ze, Zf, Zg, Zh, Zi, Zj, Zk, Zl, Zm, Zn, Zo, Zp, Zq, Zr] at h7
       have hdn : d < n := by omega
       have hpk := (show Pl (n : Int) (n : Int) ((n - 1 - d : Nat) : Int) ((n - 1 - d : Nat) : Int) from ⟨by omega, by omega, by omega, by omega⟩).rng hgr.1
       have hpm := Int.mul_nonneg (show (0 : Int) ≤ ((n - 1 - d : Nat) : Int) by omega) (show (0 : Int) ≤ (n : Int) by omega)
       refine J_skip ?_
       refine JN_then ?_
       refine J_seq ?_
       refine J_block ?_
       refine J_to (To.slot 14 rfl (q := isv (.int .i64 ((n - 1 - d : Nat) : Int))) (sb_eq (congrArg (fun z => isv (.int .i64 z)) (by omega)))) ?_
       refine J_seq (J_reg [] (.cons (.no) _ _ (op_assign (Lk.fk rfl (by decide +kernel))) <| .cons (.no) _ _ (op_assign (Lk.fk rfl (by decide +kernel))) <| .nil) ff rfl fun g23 => ⟨_, _, [0, 1, 2, 3], rfl, (.cons 1 rfl <| .cons 2 rfl <| .cons 8 rfl <| .cons 9 rfl <| .cons 11 rfl <| .cons 13 rfl <| .cons 14 rfl <| .cons 15 rfl <| .cons 16 rfl <| .nil), (.cons 0 rfl <| .cons 1 rfl <| .cons 2 rfl <| .cons 3 rfl <| .nil), ?_⟩)
       refine JN_then ?_
       refine J_seq ?_
       refine J_seq (J_reg [] (.cons (.no) _ _ (op_field_own fd29_0 (Lk.t rfl) rfl) <| .cons (.rd 1) _ _ (op_get_sc 1 sc3 (Lk.t rfl) rfl mem_blk rfl) <| .cons (.no) _ _ (op_move (Lk.k rfl)) <| .nil) ff rfl fun g24 => ⟨_, _, [0, 1, 2, 3], rfl, (.cons 1 rfl <| .cons 2 rfl <| .cons 8 rfl <| .cons 9 rfl <| .cons 11 rfl <| .cons 13 rfl <| .cons 14 rfl <| .cons 15 rfl <| .cons 16 rfl <| .cons 76 rfl <| .cons 77 rfl <| .nil), (.cons 0 rfl <| .cons 1 rfl <| .cons 2 rfl <| .cons 3 rfl <| .nil), ?_⟩)
       refine JN_then ?_
       refine J_block ?_
       refine J_loopc (α := Nat) (fun i => i ≤ r.toNat) (fun i => r.toNat - i) (fun i restR => (77, isv (.int .i64 (i : Int))) :: (15, flp (dotTo (colL r (n : Int) (qrM r (n : Int) xs).a1 ((n - 1 - d : Nat) : Int)) ys i)) :: restR) (fun i restS => restS) (ρc := [(1, _), (2, _), (8, _), (9, _), (11, _), (13, _), (14, _), (16, _), (76, _)]) (σc := [_, _, _, _]) 0 (by exact Nat.zero_le _) (To.pick (fun _ => .sub (t := 77) rfl (sp_eq (by rfl)) <| .sub (t := 15) rfl (sp_eq (by rfl)) <| .cons 1 rfl <| .cons 2 rfl <| .cons 8 rfl <| .cons 9 rfl <| .cons 11 rfl <| .cons 13 rfl <| .cons 14 rfl <| .cons 16 rfl <| .cons 76 rfl <| .nil) (fun _ => .cons 0 rfl <| .cons 1 rfl <| .cons 2 rfl <| .cons 3 rfl <| .nil) (ks := [0, 1, 2, 3]) rfl) (fun i hI5 => ?_)
       refine J_seq (J_reg [] (.cons (.no) _ _ (op_cmp (by simp) (Lk.t rfl) (Lk.t rfl) rfl) <| .nil) ff rfl fun g25 => ⟨_, _, [0, 1, 2, 3], rfl, (.cons 1 rfl <| .cons 2 rfl <| .cons 8 rfl <| .cons 9 rfl <| .cons 11 rfl <| .cons 13 rfl <| .cons 14 rfl <| .cons 15 rfl <| .cons 16 rfl <| .cons 76 rfl <| .cons 77 rfl <| .cons 78 rfl <| .nil), (.cons 0 rfl <| .cons 1 rfl <| .cons 2 rfl <| .cons 3 rfl <| .nil), ?_⟩)
       refine JN_then ?_
       refine J_seq ?_
       refine J_cond (cond_of (Lk.t rfl)) (fun h8 => ?_) (fun h8 => ?_)
       ·have h8' := h8
        try simp only [cmpB, Za, Zb, Zc, Zd, Ze, Zf, Zg, Zh, Zi, Zj, Zk, Zl, Zm, Zn, Zo, Zp, Zq, Zr] at h8
        have hpi := (show Pl r (n : Int) (i : Int) ((n - 1 - d : Nat) : Int) from ⟨by omega, by omega, by omega, by omega⟩).rng hgq.1
        have hpn := Int.mul_nonneg (show (0 : Int) ≤ (i : Int) by omega) (show (0 : Int) ≤ (n : Int) by omega)
        refine J_skip ?_
        refine JN_then ?_
        refine J_seq ?_
        refine J_block ?_
        refine J_seq (J_reg [] (.cons (.no) _ _ (op_move (Lk.t rfl)) <| .cons (.no) _ _ (op_assign (Lk.t rfl)) <| .nil) ff rfl fun g26 => ⟨_, _, [0, 1, 2, 3], rfl, (.cons 1 rfl <| .cons 2 rfl <| .cons 8 rfl <| .cons 9 rfl <| .cons 11 rfl <| .cons 13 rfl <| .cons 14 rfl <| .cons 15 rfl <| .cons 16 rfl <| .cons 17 rfl <| .cons 76 rfl <| .cons 77 rfl <| .nil), (.cons 0 rfl <| .cons 1 rfl <| .cons 2 rfl <| .cons 3 rfl <| .nil), ?_⟩)
        refine JN_then ?_
        refine (J_reg [[], [], [1], [], [], [3, 4], [], [3, 4, 5, 6], [1, 2, 3, 4, 5, 6, 7], [1, 2, 3, 4, 5, 6, 7, 8], [], [], [10, 11], [10, 11, 12], [1, 2, 3, 4, 5, 6, 7, 8, 9, 10, 11, 12, 13], [0, 1, 2, 3, 4, 5, 6, 7, 8, 9, 10, 11, 12, 13, 14], [0, 1, 2, 3, 4, 5, 6, 7, 8, 9, 10, 11, 12, 13, 14, 15]] (.cons (.no) _ _ (op_move (Lk.t rfl)) <| .cons (.no) _ _ (op_field_own fd29_2 (Lk.t rfl) rfl) <| .cons (.rd 2) _ _ (op_get_sc 2 sc27 (Lk.t rfl) rfl mem_blk rfl) <| .cons (.no) _ _ (op_move (Lk.t rfl)) <| .cons (.no) _ _ (op_move (Lk.t rfl)) <| .cons (.no) _ _ (op_mul (Lk.t rfl) (Lk.t rfl) (wrap_id (by omega) (by omega))) <| .cons (.no) _ _ (op_move (Lk.t rfl)) <| .cons (.no) _ _ (op_add (Lk.t rfl) (Lk.t rfl) (wrap_id (by omega) (by omega))) <| .cons (.no) _ _ (op_index_m 0 sl27 (Lk.t rfl) (Lk.t rfl) (by omega) (by omega)) <| .cons (.no) _ _ (op_load_sc sc35 (Lk.t rfl) rfl) <| .cons (.no) _ _ (op_move (Lk.t rfl)) <| .cons (.no) _ _ (op_move (Lk.t rfl)) <| .cons (.no) _ _ (op_index_m 0 sl27 (Lk.t rfl) (Lk.t rfl) (by omega) (by omega)) <| .cons (.no) _ _ (op_load_sc sc35 (Lk.t rfl) rfl) <| .cons (.no) _ _ (op_float (by simp) (Lk.t rfl) (Lk.t rfl) rfl) <| .cons (.no) _ _ (op_float (by simp) (Lk.t rfl) (Lk.t rfl) rfl) <| .cons (.no) _ _ (op_assign (Lk.t rfl)) <| .nil) (fun _ => mixed) rfl fun g27 => ⟨_, _, [0, 1, 2, 3], rfl, (.cons 1 rfl <| .cons 2 rfl <| .cons 8 rfl <| .cons 9 rfl <| .cons 11 rfl <| .cons 13 rfl <| .cons 14 rfl <| .cons 15 rfl <| .cons 16 rfl <| .cons 76 rfl <| .cons 77 rfl <| .nil), (.cons 0 rfl <| .cons 1 rfl <| .cons 2 rfl <| .cons 3 rfl <| .nil), ?_⟩)
        refine JN_block ?_
        refine JN_then ?_
        refine (J_reg [] (.cons (.no) _ _ (op_add (Lk.t rfl) (Lk.k rfl) (wrap_id (by omega) (by omega))) <| .cons (.no) _ _ (op_move (Lk.t rfl)) <| .nil) ff rfl fun g28 => ⟨_, _, [0, 1, 2, 3], rfl, (.cons 1 rfl <| .cons 2 rfl <| .cons 8 rfl <| .cons 9 rfl <| .cons 11 rfl <| .cons 13 rfl <| .cons 14 rfl <| .cons 15 rfl <| .cons 16 rfl <| .cons 76 rfl <| .cons 77 rfl <| .nil), (.cons 0 rfl <| .cons 1 rfl <| .cons 2 rfl <| .cons 3 rfl <| .nil), ?_⟩)
        exact JN_again (i + 1) (by omega) (by omega) (To.pick (fun _ => .sub (t := 77) rfl (sp_eq (by rfl)) <| .sub (t := 15) rfl (sp_eq (by exact congrArg flp (ls_d (by omega)).symm)) <| .cons 1 rfl <| .cons 2 rfl <| .cons 8 rfl <| .cons 9 rfl <| .cons 11 rfl <| .cons 13 rfl <| .cons 14 rfl <| .cons 16 rfl <| .cons 76 rfl <| .nil) (fun _ => .cons 0 rfl <| .cons 1 rfl <| .cons 2 rfl <| .cons 3 rfl <| .nil) (ks := [0, 1, 2, 3]) rfl)
       ·have h8' := h8
        try simp only [cmpB, Za, Zb, Zc, Zd, Ze, Zf, Zg, Zh, Zi, Zj, Zk, Zl, Zm, Zn, Zo, Zp, Zq, Zr] at h8
        have hdd := ls_dall (m := r) (c := (n : Int)) (q := (qrM r (n : Int) xs).a1) (ys := ys) (k := n - 1 - d) (show i = r.toNat by omega)
        refine J_exit ?_
        refine JN_then_exit ?_
        refine JN_then_exit ?_
        refine JN_exit_here ?_
        refine JN_then ?_
        refine J_seq ?_
        refine J_seq (J_reg [] (.cons (.no) _ _ (op_move (Lk.t rfl)) <| .cons (.no) _ _ (op_add (Lk.t rfl) (Lk.k rfl) (wrap_id (by omega) (by omega))) <| .cons (.no) _ _ (op_assign (Lk.t rfl)) <| .nil) ff rfl fun g29 => ⟨_, _, [0, 1, 2, 3], rfl, (.cons 1 rfl <| .cons 2 rfl <| .cons 8 rfl <| .cons 9 rfl <| .cons 11 rfl <| .cons 13 rfl <| .cons 14 rfl <| .cons 15 rfl <| .cons 16 rfl <| .cons 18 rfl <| .nil), (.cons 0 rfl <| .cons 1 rfl <| .cons 2 rfl <| .cons 3 rfl <| .nil), ?_⟩)
        refine JN_then ?_
        refine J_block ?_
        refine J_loopc (α := Nat) (fun t => t ≤ n - (n - 1 - d + 1)) (fun t => n - (n - 1 - d + 1) - t) (fun t restR => (18, isv (.int .i64 ((n - 1 - d + 1 + t : Nat) : Int))) :: (16, flp (dotTo ((rowL (n : Int) (qrM r (n : Int) xs).a2 ((n - 1 - d : Nat) : Int)).drop (n - 1 - d + 1)) ((lsX r (n : Int) (n : Int) (qrM r (n : Int) xs).a1 (qrM r (n : Int) xs).a2 ys n d).drop (n - 1 - d + 1)) t)) :: restR) (fun t restS => restS) (ρc := [(1, _), (2, _), (8, _), (9, _), (11, _), (13, _), (14, _), (15, _)]) (σc := [_, _, _, _]) 0 (by exact Nat.zero_le _) (To.pick (fun _ => .sub (t := 18) rfl (sp_eq (by exact congrArg (fun z => isv (.int .i64 z)) (by omega))) <| .sub (t := 16) rfl (sp_eq (by rfl)) <| .cons 1 rfl <| .cons 2 rfl <| .cons 8 rfl <| .cons 9 rfl <| .cons 11 rfl <| .cons 13 rfl <| .cons 14 rfl <| .cons 15 rfl <| .nil) (fun _ => .cons 0 rfl <| .cons 1 rfl <| .cons 2 rfl <| .cons 3 rfl <| .nil) (ks := [0, 1, 2, 3]) rfl) (fun t hI6 => ?_)
        refine J_seq ?_
        refine J_seq (J_reg [] (.cons (.no) _ _ (op_move (Lk.t rfl)) <| .cons (.no) _ _ (op_move (Lk.t rfl)) <| .cons (.no) _ _ (op_cmp (by simp) (Lk.t rfl) (Lk.t rfl) rfl) <| .nil) ff rfl fun g30 => ⟨_, _, [0, 1, 2, 3], rfl, (.cons 1 rfl <| .cons 2 rfl <| .cons 8 rfl <| .cons 9 rfl <| .cons 11 rfl <| .cons 13 rfl <| .cons 14 rfl <| .cons 15 rfl <| .cons 16 rfl <| .cons 18 rfl <| .cons 101 rfl <| .nil), (.cons 0 rfl <| .cons 1 rfl <| .cons 2 rfl <| .cons 3 rfl <| .nil), ?_⟩)
        refine JN_then ?_
        refine J_cond (cond_of (Lk.t rfl)) (fun h9 => ?_) (fun h9 => ?_)
        ·have h9' := h9
         try simp only [cmpB, Za, Zb, Zc, Zd, Ze, Zf, Zg, Zh, Zi, Zj, Zk, Zl, Zm, Zn, Zo, Zp, Zq, Zr] at h9
         have hpj := (show Pl (n : Int) (n : Int) ((n - 1 - d : Nat) : Int) ((n - 1 - d + 1 + t : Nat) : Int) from ⟨by omega, by omega, by omega, by omega⟩).rng hgr.1
         refine J_skip ?_
         refine JN_then ?_
         refine J_seq ?_
         refine J_block ?_
         refine (J_reg [[], [], [1], [], [], [3, 4], [], [3, 4, 5, 6], [1, 2, 3, 4, 5, 6, 7], [1, 2, 3, 4, 5, 6, 7, 8], [], [], [10, 11], [10, 11, 12], [1, 2, 3, 4, 5, 6, 7, 8, 9, 10, 11, 12, 13], [0, 1, 2, 3, 4, 5, 6, 7, 8, 9, 10, 11, 12, 13, 14], [0, 1, 2, 3, 4, 5, 6, 7, 8, 9, 10, 11, 12, 13, 14, 15]] (.cons (.no) _ _ (op_move (Lk.t rfl)) <| .cons (.no) _ _ (op_field_own fd29_2 (Lk.t rfl) rfl) <| .cons (.rd 3) _ _ (op_get_sc 3 sc27 (Lk.t rfl) rfl mem_blk rfl) <| .cons (.no) _ _ (op_move (Lk.t rfl)) <| .cons (.no) _ _ (op_move (Lk.t rfl)) <| .cons (.no) _ _ (op_mul (Lk.t rfl) (Lk.t rfl) (wrap_id (by omega) (by omega))) <| .cons (.no) _ _ (op_move (Lk.t rfl)) <| .cons (.no) _ _ (op_add (Lk.t rfl) (Lk.t rfl) (wrap_id (by omega) (by omega))) <| .cons (.no) _ _ (op_index_m 0 sl27 (Lk.t rfl) (Lk.t rfl) (by omega) (by omega)) <| .cons (.no) _ _ (op_load_sc sc35 (Lk.t rfl) rfl) <| .cons (.no) _ _ (op_move (Lk.t rfl)) <| .cons (.no) _ _ (op_move (Lk.t rfl)) <| .cons (.rd 0) _ _ (op_index_som 0 sl27 (Lk.t rfl) (Lk.t rfl) rfl (by omega) (by omega)) <| .cons (.rd 0) _ _ (op_get_som 0 0 sc35 (Lk.t rfl) rfl (by omega)) <| .cons (.no) _ _ (op_float (by simp) (Lk.t rfl) (Lk.t rfl) rfl) <| .cons (.no) _ _ (op_float (by simp) (Lk.t rfl) (Lk.t rfl) rfl) <| .cons (.no) _ _ (op_assign (Lk.t rfl)) <| .nil) (fun _ => mixed) rfl fun g31 => ⟨_, _, [0, 1, 2, 3], rfl, (.cons 1 rfl <| .cons 2 rfl <| .cons 8 rfl <| .cons 9 rfl <| .cons 11 rfl <| .cons 13 rfl <| .cons 14 rfl <| .cons 15 rfl <| .cons 16 rfl <| .cons 18 rfl <| .nil), (.cons 0 rfl <| .cons 1 rfl <| .cons 2 rfl <| .cons 3 rfl <| .nil), ?_⟩)
         refine JN_block ?_
         refine JN_then ?_
         refine (J_reg [] (.cons (.no) _ _ (op_move (Lk.t rfl)) <| .cons (.no) _ _ (op_add (Lk.t rfl) (Lk.k rfl) (wrap_id (by omega) (by omega))) <| .cons (.no) _ _ (op_assign (Lk.t rfl)) <| .nil) ff rfl fun g32 => ⟨_, _, [0, 1, 2, 3], rfl, (.cons 1 rfl <| .cons 2 rfl <| .cons 8 rfl <| .cons 9 rfl <| .cons 11 rfl <| .cons 13 rfl <| .cons 14 rfl <| .cons 15 rfl <| .cons 16 rfl <| .cons 18 rfl <| .nil), (.cons 0 rfl <| .cons 1 rfl <| .cons 2 rfl <| .cons 3 rfl <| .nil), ?_⟩)
         exact JN_again (t + 1) (by omega) (by omega) (To.pick (fun _ => .sub (t := 18) rfl (sp_eq (by exact congrArg (fun z => isv (.int .i64 z)) (by omega))) <| .sub (t := 16) rfl (sp_eq (by exact congrArg flp (ls_s (by omega)).symm)) <| .cons 1 rfl <| .cons 2 rfl <| .cons 8 rfl <| .cons 9 rfl <| .cons 11 rfl <| .cons 13 rfl <| .cons 14 rfl <| .cons 15 rfl <| .nil) (fun _ => .cons 0 rfl <| .cons 1 rfl <| .cons 2 rfl <| .cons 3 rfl <| .nil) (ks := [0, 1, 2, 3]) rfl)
        ·have h9' := h9
         try simp only [cmpB, Za, Zb, Zc, Zd, Ze, Zf, Zg, Zh, Zi, Zj, Zk, Zl, Zm, Zn, Zo, Zp, Zq, Zr] at h9
         have hss := ls_sall (c := (n : Int)) (r := (qrM r (n : Int) xs).a2) (x := (lsX r (n : Int) (n : Int) (qrM r (n : Int) xs).a1 (qrM r (n : Int) xs).a2 ys n d)) (k := n - 1 - d) (show t = ((n : Int)).toNat - (n - 1 - d + 1) by omega)
         refine J_exit ?_
         refine JN_then_exit ?_
         refine JN_then_exit ?_
         refine JN_exit_here ?_
         refine JN_then ?_
         refine J_to (To.slot 15 rfl (q := flp (lsD r (n : Int) (qrM r (n : Int) xs).a1 ys (n - 1 - d))) (sb_eq (by rw [hdd]))) ?_
         refine J_to (To.slot 16 rfl (q := flp (lsS (n : Int) (qrM r (n : Int) xs).a2 (lsX r (n : Int) (n : Int) (qrM r (n : Int) xs).a1 (qrM r (n : Int) xs).a2 ys n d) (n - 1 - d))) (sb_eq (by rw [hss]))) ?_
         refine J_seq (J_reg [] (.cons (.no) _ _ (op_move (Lk.t rfl)) <| .cons (.no) _ _ (op_move (Lk.t rfl)) <| .cons (.no) _ _ (op_move (Lk.t rfl)) <| .cons (.no) _ _ (op_move (Lk.t rfl)) <| .cons (.no) _ _ (op_float (by simp) (Lk.t rfl) (Lk.t rfl) rfl) <| .cons (.no) _ _ (op_field_own fd29_2 (Lk.t rfl) rfl) <| .cons (.rd 3) _ _ (op_get_sc 3 sc27 (Lk.t rfl) rfl mem_blk rfl) <| .cons (.no) _ _ (op_move (Lk.t rfl)) <| .cons (.no) _ _ (op_move (Lk.t rfl)) <| .cons (.no) _ _ (op_mul (Lk.t rfl) (Lk.t rfl) (wrap_id (by omega) (by omega))) <| .cons (.no) _ _ (op_move (Lk.t rfl)) <| .cons (.no) _ _ (op_add (Lk.t rfl) (Lk.t rfl) (wrap_id (by omega) (by omega))) <| .cons (.no) _ _ (op_index_m 0 sl27 (Lk.t rfl) (Lk.t rfl) (by omega) (by omega)) <| .cons (.no) _ _ (op_load_sc sc35 (Lk.t rfl) rfl) <| .cons (.no) _ _ (op_float (by simp) (Lk.t rfl) (Lk.t rfl) rfl) <| .cons (.rd 0) _ _ (op_index_som 0 sl27 (Lk.t rfl) (Lk.t rfl) rfl (by omega) (by omega)) <| .cons (.wr 0) _ _ (op_store_som 0 (Lk.t rfl) (Lk.t rfl) co_flp sz35 rfl (by omega)) <| .nil) ff rfl fun g33 => ⟨_, _, [0, 1, 2, 3], rfl, (.cons 1 rfl <| .cons 2 rfl <| .cons 8 rfl <| .cons 9 rfl <| .cons 11 rfl <| .cons 13 rfl <| .cons 14 rfl <| .cons 15 rfl <| .cons 16 rfl <| .nil), (.cons 0 rfl <| .cons 1 rfl <| .cons 2 rfl <| .cons 3 rfl <| .nil), ?_⟩)
         refine JN_then ?_
         refine J_to (To.res 0 (r' := som (g20 68) flp (lsX r (n : Int) (n : Int) (qrM r (n : Int) xs).a1 (qrM r (n : Int) xs).a2 ys n (d + 1)) 35) rfl (res_eq (by rfl)) rfl) ?_
         have hxl2 := length_lsX r (n : Int) (n : Int) (qrM r (n : Int) xs).a1 (qrM r (n : Int) xs).a2 ys n (d + 1)
         refine J_seq (J_reg [] (.cons (.no) _ _ (op_move (Lk.t rfl)) <| .cons (.no) _ _ (op_call (qfin_ok) ⟨(Lk.t rfl),  trivial⟩) <| .cons (.no) _ _ (op_not (Lk.t rfl)) <| .cons (.no) _ _ (op_move (Lk.t rfl)) <| .cons (.no) _ _ (op_guard rfl rfl (gd_b rfl) (fun hC => (op_move (Lk.t rfl)))) <| .cons (.no) _ _ (op_guard rfl rfl (gd_b rfl) (fun hC => (op_call (qfin_ok) ⟨(Lk.w rfl hC),  trivial⟩))) <| .cons (.no) _ _ (op_guard rfl rfl (gd_b rfl) (fun hC => (op_not (Lk.w rfl hC)))) <| .cons (.no) _ _ (op_or (Lk.t rfl) (fun h2 => (Lk.w rfl h2))) <| .cons (.no) _ _ (op_move (Lk.t rfl)) <| .cons (.no) _ _ (op_guard rfl rfl (gd_b rfl) (fun hC => (op_move (Lk.t rfl)))) <| .cons (.no) _ _ (op_guard rfl rfl (gd_b rfl) (fun hC => (op_move (Lk.t rfl)))) <| .cons (.rd 0) _ _ (op_guard rfl rfl (gd_b rfl) (fun hC => (op_index_som 0 sl27 (Lk.w rfl hC) (Lk.w rfl hC) rfl (by omega) (by omega)))) <| .cons (.rd 0) _ _ (op_guard rfl rfl (gd_b rfl) (fun hC => (op_get_som 0 0 sc35 (Lk.w rfl hC) rfl (by omega)))) <| .cons (.no) _ _ (op_guard rfl rfl (gd_b rfl) (fun hC => (op_call (qfin_ok) ⟨(Lk.w rfl hC),  trivial⟩))) <| .cons (.no) _ _ (op_guard rfl rfl (gd_b rfl) (fun hC => (op_not (Lk.w rfl hC)))) <| .cons (.no) _ _ (op_or (Lk.t rfl) (fun h2 => (Lk.w rfl h2))) <| .nil) ff rfl fun g34 => ⟨_, _, [0, 1, 2, 3], rfl, (.cons 1 rfl <| .cons 2 rfl <| .cons 8 rfl <| .cons 9 rfl <| .cons 11 rfl <| .cons 13 rfl <| .cons 14 rfl <| .cons 151 rfl <| .nil), (.cons 0 rfl <| .cons 1 rfl <| .cons 2 rfl <| .cons 3 rfl <| .nil), ?_⟩)
         refine JN_then ?_
         refine J_cond (cond_of (Lk.t rfl)) (fun h10 => ?_) (fun h10 => ?_)
         ·have h10' := h10
          try simp only [cmpB, Za, Zb, Zc, Zd, Ze, Zf, Zg, Zh, Zi, Zj, Zk, Zl, Zm, Zn, Zo, Zp, Zq, Zr] at h10
          refine J_seq (J_reg [] (.cons (.no) _ _ (op_assign (Lk.k rfl)) <| .cons (.no) _ _ (op_assign (Lk.k rfl)) <| .nil) ff rfl fun g35 => ⟨_, _, [0], rfl, (.cons 4 rfl <| .cons 5 rfl <| .nil), (.cons 0 rfl <| .nil), ?_⟩)
          refine JN_then ?_
          refine J_ret ?_
          refine JN_block_ret ?_
          refine JN_then_ret ?_
          refine JN_then_ret ?_
          refine JN_block_ret ?_
          refine JN_then_ret ?_
          refine JN_ret (.cons (.tmp (Lk.t rfl)) <| .cons (.tmp (Lk.t rfl)) <| .nil) (sb_trans (sb_res (.cons (sb_nilN (mk := flp)) <| .cons sb_refl <| .nil)) (sb_trans push_V (sb_newp ?_)))
          exact ret_L ((toldL_bad (ls_bad hdn (show stB _ _ _ _ _ _ _ _ = true from by unfold stB; exact h10'))).trans (least_6 hz hz2 h3n he0 rfl hnz).symm)
         ·have h10' := h10
          try simp only [cmpB, Za, Zb, Zc, Zd, Ze, Zf, Zg, Zh, Zi, Zj, Zk, Zl, Zm, Zn, Zo, Zp, Zq, Zr] at h10
          have hgood : stB r (n : Int) (n : Int) (qrM r (n : Int) xs).a1 (qrM r (n : Int) xs).a2 ys n d = false := by unfold stB; exact h10'
          refine J_skip ?_
          refine JN_block ?_
          refine JN_then ?_
          refine (J_reg [] (.cons (.no) _ _ (op_move (Lk.t rfl)) <| .cons (.no) _ _ (op_sub (Lk.t rfl) (Lk.k rfl) (wrap_id (by omega) (by omega))) <| .cons (.no) _ _ (op_assign (Lk.t rfl)) <| .nil) ff rfl fun g36 => ⟨_, _, [0, 1, 2, 3], rfl, (.cons 1 rfl <| .cons 2 rfl <| .cons 8 rfl <| .cons 9 rfl <| .cons 11 rfl <| .cons 13 rfl <| .cons 14 rfl <| .nil), (.cons 0 rfl <| .cons 1 rfl <| .cons 2 rfl <| .cons 3 rfl <| .nil), ?_⟩)
          exact JN_again (d + 1) (by exact ⟨by omega, fun p hp => if e : p = d then e ▸ hgood else hst p (by omega)⟩) (by omega) (To.pick (fun _ => .sub (t := 14) rfl (sp_eq (by exact congrArg (fun z => isv (.int .i64 z)) (by omega))) <| .cons 1 rfl <| .cons 2 rfl <| .cons 8 rfl <| .cons 9 rfl <| .cons 11 rfl <| .cons 13 rfl <| .nil) (fun _ => .sub 0 rfl ((fun _ _ h => h)) <| .cons 1 rfl <| .cons 2 rfl <| .cons 3 rfl <| .nil) (ks := [0, 1, 2, 3]) rfl)
      ·have h7' := h7
       try simp only [cmpB, Za, Zb, Zc, Zd, Ze, Zf, Zg, Zh, Zi, Zj, Zk, Zl, Zm, Zn, Zo, Zp, Zq, Zr] at h7
       have hde : d = n := by omega
       refine J_exit ?_
       refine JN_then_exit ?_
       refine JN_then_exit ?_
       refine JN_exit_here ?_
       refine JN_then ?_
       refine J_seq (J_reg [] (.cons (.no) _ _ (op_move (Lk.t rfl)) <| .cons (.no) _ _ (op_assign (Lk.t rfl)) <| .cons (.no) _ _ (op_assign (Lk.k rfl)) <| .nil) ff rfl fun g37 => ⟨_, _, [0], rfl, (.cons 4 rfl <| .cons 5 rfl <| .nil), (.cons 0 rfl <| .nil), ?_⟩)
       refine JN_then ?_
       refine J_ret ?_
       refine JN_to (To.freezeN 0 (fun _ h => h) rfl frz_som (pure_som pure_flp).n rfl) ?_
       refine JN_ret (.cons (.tmp (Lk.t rfl)) <| .cons (.tmp (Lk.t rfl)) <| .nil) (sb_trans (sb_res (.cons (sb_fk 0 rfl) <| .cons sb_refl <| .nil)) (sb_trans push_V (sb_newp ?_)))
       exact ret_L (by rw [hde]; exact (toldL_yes (ls_good fun p hp => hst p (by omega))).trans (least_6 hz hz2 h3n he0 rfl hnz).symm)
end Go.Proofs.Ytllkellonjhalaa
