/- Printed by a program of ours (walk.py): walks of least squares. -/
import Derived.Test.YtllkellonjhalaaGreatSpKb
import Derived.Test.YtllkellonjhalaaGreatProg
import Derived.KernelRfl
import Derived.Test.YtllkellonjhalaaGreatSpTypes
import Derived.Test.YtllkellonjhalaaGreatSpWRqr2
import Derived.Test.YtllkellonjhalaaGreatSpLst
set_option linter.unusedVariables false
set_option linter.unusedSimpArgs false
set_option maxRecDepth 20000
set_option maxHeartbeats 1000000
namespace Go.Proofs.YtllkellonjhalaaGreat
open Go Go.Bn
attribute [local irreducible] OpOK
theorem rqrq_ok {r c : Int} {xs : List Nat} (hlt : LtL xs) : Ct Tryz.prog 21 [MatP r c xs] (resQ2 (qrM r c xs)) := rqrM_eq hlt ▸ rqr_ok hlt
theorem least_ok {r c : Int} {xs ys : List Nat} (hlt : LtL xs) : Ct Tryz.prog 29 [MatP r c xs, fls ys] (resV (leastM r c xs ys)) := by
 refine Ct.of Tryz.func29 rfl (by kernel_rfl) rfl fun c0 => ?_
 refine J_len 1 rfl fun hlen => ?_
 refine J_to (To.emps 1) ?_
 refine J_seq (J_reg [] (.cons (.wr 0) _ _ (op_box 0 (Lk.t rfl) co_agg rfl) <| .cons (.no) _ _ (op_assign (Lk.k rfl)) <| .cons (.no) _ _ (op_assign (Lk.k rfl)) <| .nil) ff rfl fun g1 => ⟨_, _, [0], rfl, (.cons 1 rfl <| .cons 2 rfl <| .nil), (.cons 0 rfl <| .nil), ?_⟩)
 refine JN_then ?_
 refine J_seq ?_
 refine J_seq (J_reg [] (.cons (.rd 0) _ _ (op_get_ag 0 ag28 (Lk.t rfl) rfl mem_blk rfl rfl) <| .cons (.no) _ _ (op_call (chk_ok) ⟨(Lk.t rfl),  trivial⟩) <| .cons (.no) _ _ (op_assign (Lk.t rfl)) <| .nil) ff rfl fun g2 => ⟨_, _, [0], rfl, (.cons 1 rfl <| .cons 2 rfl <| .cons 6 rfl <| .nil), (.cons 0 rfl <| .nil), ?_⟩)
 refine JN_then ?_
 refine J_seq (J_reg [] (.cons (.no) _ _ (op_move (Lk.t rfl)) <| .cons (.no) _ _ (op_cmp (by simp) (Lk.t rfl) (Lk.k rfl) rfl) <| .nil) ff rfl fun g3 => ⟨_, _, [0], rfl, (.cons 1 rfl <| .cons 2 rfl <| .cons 6 rfl <| .cons 22 rfl <| .nil), (.cons 0 rfl <| .nil), ?_⟩)
 refine JN_then ?_
 refine J_cond (cond_of (Lk.t rfl)) (fun h1 => ?_) (fun h1 => ?_)
 ·have h1' := h1
  try simp only [cmpB, Za, Zb, Zc, Zd, Ze, Zf, Zg, Zh, Zi, Zj, Zk, Zl, Zm, Zn, Zo, Zp, Zq, Zr] at h1
  refine J_seq (J_reg [] (.cons (.no) _ _ (op_move (Lk.t rfl)) <| .cons (.no) _ _ (op_assign (Lk.k rfl)) <| .cons (.no) _ _ (op_assign (Lk.t rfl)) <| .nil) ff rfl fun g4 => ⟨_, _, [], rfl, (.cons 4 rfl <| .cons 5 rfl <| .nil), (.nil), ?_⟩)
  refine JN_then ?_
  refine J_ret ?_
  refine JN_then_ret ?_
  refine JN_ret (.cons (.tmp (Lk.t rfl)) <| .cons (.tmp (Lk.t rfl)) <| .nil) (sb_trans (sb_res (.cons (sb_nil (mk := flp)) <| .cons sb_refl <| .nil)) ?_)
  exact ret_L (least_1 (by simpa using h1)).symm
 ·have h1' := h1
  try simp only [cmpB, Za, Zb, Zc, Zd, Ze, Zf, Zg, Zh, Zi, Zj, Zk, Zl, Zm, Zn, Zo, Zp, Zq, Zr] at h1
  have hz : chk r c xs = 0 := by simpa using h1
  have hck := chk_good hz
  obtain ⟨hs1, hs2, hs3, hs4⟩ := hck.1
  refine J_skip ?_
  refine JN_then ?_
  refine J_seq ?_
  refine J_seq (J_reg [] (.cons (.no) _ _ (op_move (Lk.t rfl)) <| .cons (.no) _ _ (op_call (qlist_ok) ⟨(Lk.t rfl),  trivial⟩) <| .cons (.no) _ _ (op_assign (Lk.t rfl)) <| .nil) ff rfl fun g5 => ⟨_, _, [0], rfl, (.cons 1 rfl <| .cons 2 rfl <| .cons 7 rfl <| .nil), (.cons 0 rfl <| .nil), ?_⟩)
  refine JN_then ?_
  refine J_seq (J_reg [] (.cons (.no) _ _ (op_move (Lk.t rfl)) <| .cons (.no) _ _ (op_cmp (by simp) (Lk.t rfl) (Lk.k rfl) rfl) <| .nil) ff rfl fun g6 => ⟨_, _, [0], rfl, (.cons 1 rfl <| .cons 2 rfl <| .cons 7 rfl <| .cons 27 rfl <| .nil), (.cons 0 rfl <| .nil), ?_⟩)
  refine JN_then ?_
  refine J_cond (cond_of (Lk.t rfl)) (fun h2 => ?_) (fun h2 => ?_)
  ·have h2' := h2
   try simp only [cmpB, Za, Zb, Zc, Zd, Ze, Zf, Zg, Zh, Zi, Zj, Zk, Zl, Zm, Zn, Zo, Zp, Zq, Zr] at h2
   refine J_seq (J_reg [] (.cons (.no) _ _ (op_move (Lk.t rfl)) <| .cons (.no) _ _ (op_assign (Lk.k rfl)) <| .cons (.no) _ _ (op_assign (Lk.t rfl)) <| .nil) ff rfl fun g7 => ⟨_, _, [], rfl, (.cons 4 rfl <| .cons 5 rfl <| .nil), (.nil), ?_⟩)
   refine JN_then ?_
   refine J_ret ?_
   refine JN_then_ret ?_
   refine JN_ret (.cons (.tmp (Lk.t rfl)) <| .cons (.tmp (Lk.t rfl)) <| .nil) (sb_trans (sb_res (.cons (sb_nil (mk := flp)) <| .cons sb_refl <| .nil)) ?_)
   exact ret_L (least_2 hz (by simpa using h2)).symm
  ·have h2' := h2
   try simp only [cmpB, Za, Zb, Zc, Zd, Ze, Zf, Zg, Zh, Zi, Zj, Zk, Zl, Zm, Zn, Zo, Zp, Zq, Zr] at h2
   have hz2 : lchkW ys = 0 := by simpa using h2
   refine J_skip ?_
   refine JN_then ?_
   refine J_seq ?_
   refine J_seq (J_reg [] (.cons (.no) _ _ (op_field_own fd28_0 (Lk.t rfl) rfl) <| .cons (.rd 0) _ _ (op_get_sc 0 sc3 (Lk.t rfl) rfl mem_blk rfl) <| .cons (.no) _ _ (op_field_own fd28_1 (Lk.t rfl) rfl) <| .cons (.rd 0) _ _ (op_get_sc 0 sc3 (Lk.t rfl) rfl mem_blk rfl) <| .cons (.no) _ _ (op_cmp (by simp) (Lk.t rfl) (Lk.t rfl) rfl) <| .cons (.no) _ _ (op_move (Lk.t rfl)) <| .cons (.no) _ _ (op_guard rfl rfl (gd_b rfl) (fun hC => (op_move (Lk.t rfl)))) <| .cons (.no) _ _ (op_guard rfl rfl (gd_b rfl) (fun hC => (op_len_m sl26 (Lk.w rfl hC)))) <| .cons (.no) _ _ (op_guard rfl rfl (gd_b rfl) (fun hC => (op_field_own fd28_0 (Lk.t rfl) rfl))) <| .cons (.rd 0) _ _ (op_guard rfl rfl (gd_b rfl) (fun hC => (op_get_sc 0 sc3 (Lk.w rfl hC) rfl mem_blk rfl))) <| .cons (.no) _ _ (op_guard rfl rfl (gd_b rfl) (fun hC => (op_cmp (by simp) (Lk.w rfl hC) (Lk.w rfl hC) rfl))) <| .cons (.no) _ _ (op_or (Lk.t rfl) (fun h2 => (Lk.w rfl h2))) <| .nil) ff rfl fun g8 => ⟨_, _, [0], rfl, (.cons 1 rfl <| .cons 2 rfl <| .cons 40 rfl <| .nil), (.cons 0 rfl <| .nil), ?_⟩)
   refine JN_then ?_
   refine J_cond (cond_of (Lk.t rfl)) (fun h3 => ?_) (fun h3 => ?_)
   ·have h3' := h3
    try simp only [cmpB, Za, Zb, Zc, Zd, Ze, Zf, Zg, Zh, Zi, Zj, Zk, Zl, Zm, Zn, Zo, Zp, Zq, Zr] at h3
    refine J_seq (J_reg [] (.cons (.no) _ _ (op_assign (Lk.k rfl)) <| .cons (.no) _ _ (op_assign (Lk.k rfl)) <| .nil) ff rfl fun g9 => ⟨_, _, [], rfl, (.cons 4 rfl <| .cons 5 rfl <| .nil), (.nil), ?_⟩)
    refine JN_then ?_
    refine J_ret ?_
    refine JN_then_ret ?_
    refine JN_ret (.cons (.tmp (Lk.t rfl)) <| .cons (.tmp (Lk.t rfl)) <| .nil) (sb_trans (sb_res (.cons (sb_nil (mk := flp)) <| .cons sb_refl <| .nil)) ?_)
    exact ret_L (least_3 hz hz2 (by first | exact h3 | omega)).symm
   ·have h3' := h3
    try simp only [cmpB, Za, Zb, Zc, Zd, Ze, Zf, Zg, Zh, Zi, Zj, Zk, Zl, Zm, Zn, Zo, Zp, Zq, Zr] at h3
    have h3n : ¬ (r < c ∨ (ys.length : Int) ≠ r) := by omega
    have hrc : ¬ r < c := by omega
    have hyl : (ys.length : Int) = r := by omega
    obtain ⟨n, rfl⟩ : ∃ n : Nat, c = (n : Int) := ⟨c.toNat, by omega⟩
    refine J_skip ?_
    refine JN_then ?_
    refine J_to (To.emps 2) ?_
    refine J_seq (J_reg [] (.cons (.rd 0) _ _ (op_get_ag 0 ag28 (Lk.t rfl) rfl mem_blk rfl rfl) <| .cons (.no) _ _ (op_call (qr_ok (by assumption)) ⟨(Lk.t rfl),  trivial⟩) <| .cons (.no) _ _ (op_move (Lk.t rfl)) <| .cons (.no) _ _ (op_extract (Lk.t rfl) rfl) <| .cons (.no) _ _ (op_extract (Lk.t rfl) rfl) <| .cons (.no) _ _ (op_extract (Lk.t rfl) rfl) <| .cons (.wr 1) _ _ (op_alloc 1 zr28 rfl rfl) <| .cons (.wr 2) _ _ (op_alloc 2 zr28 rfl rfl) <| .cons (.wr 1) _ _ (op_store_new 1 rfl (Lk.t rfl) co_agg sz28 rfl rfl) <| .cons (.wr 2) _ _ (op_store_new 2 rfl (Lk.t rfl) co_agg sz28 rfl rfl) <| .cons (.no) _ _ (op_assign (Lk.t rfl)) <| .nil) ff rfl fun g10 => ⟨_, _, [0, 1, 2], rfl, (.cons 1 rfl <| .cons 2 rfl <| .cons 8 rfl <| .cons 9 rfl <| .cons 10 rfl <| .nil), (.cons 0 rfl <| .cons 1 rfl <| .cons 2 rfl <| .nil), ?_⟩)
    refine JN_then ?_
    refine J_seq ?_
    refine J_seq (J_reg [] (.cons (.no) _ _ (op_move (Lk.t rfl)) <| .cons (.no) _ _ (op_cmp (by simp) (Lk.t rfl) (Lk.k rfl) rfl) <| .nil) ff rfl fun g11 => ⟨_, _, [0, 1, 2], rfl, (.cons 1 rfl <| .cons 2 rfl <| .cons 8 rfl <| .cons 9 rfl <| .cons 10 rfl <| .cons 48 rfl <| .nil), (.cons 0 rfl <| .cons 1 rfl <| .cons 2 rfl <| .nil), ?_⟩)
    refine JN_then ?_
    refine J_cond (cond_of (Lk.t rfl)) (fun h4 => ?_) (fun h4 => ?_)
    ·have h4' := h4
     try simp only [cmpB, Za, Zb, Zc, Zd, Ze, Zf, Zg, Zh, Zi, Zj, Zk, Zl, Zm, Zn, Zo, Zp, Zq, Zr] at h4
     refine J_seq (J_reg [] (.cons (.no) _ _ (op_move (Lk.t rfl)) <| .cons (.no) _ _ (op_assign (Lk.k rfl)) <| .cons (.no) _ _ (op_assign (Lk.t rfl)) <| .nil) ff rfl fun g12 => ⟨_, _, [], rfl, (.cons 4 rfl <| .cons 5 rfl <| .nil), (.nil), ?_⟩)
     refine JN_then ?_
     refine J_ret ?_
     refine JN_then_ret ?_
     refine JN_ret (.cons (.tmp (Lk.t rfl)) <| .cons (.tmp (Lk.t rfl)) <| .nil) (sb_trans (sb_res (.cons (sb_nil (mk := flp)) <| .cons sb_refl <| .nil)) ?_)
     exact ret_L (least_4 hz hz2 h3n (by simpa using h4)).symm
    ·have h4' := h4
     try simp only [cmpB, Za, Zb, Zc, Zd, Ze, Zf, Zg, Zh, Zi, Zj, Zk, Zl, Zm, Zn, Zo, Zp, Zq, Zr] at h4
     have he0 : (qrM r (n : Int) xs).e = 0 := by simpa using h4
     obtain ⟨hq1, hq2, hq3, hq4, hgq, hgr⟩ := qrM_good hz he0
     have hql := hgq.2
     have hrl := hgr.2
     have hm1 := hgq.1.mul
     have hm2 := hgr.1.mul
     refine J_skip ?_
     refine JN_then ?_
     refine J_seq (J_reg [] (.cons (.no) _ _ (op_field_own fd28_1 (Lk.t rfl) rfl) <| .cons (.rd 0) _ _ (op_get_sc 0 sc3 (Lk.t rfl) rfl mem_blk rfl) <| .cons (.no) _ _ (op_assign (Lk.t rfl)) <| .nil) ff rfl fun g13 => ⟨_, _, [0, 1, 2], rfl, (.cons 1 rfl <| .cons 2 rfl <| .cons 8 rfl <| .cons 9 rfl <| .cons 11 rfl <| .nil), (.cons 0 rfl <| .cons 1 rfl <| .cons 2 rfl <| .nil), ?_⟩)
     refine JN_then ?_
     refine J_seq ?_
     refine J_seq (J_reg [] (.cons (.no) _ _ (op_move (Lk.t rfl)) <| .cons (.no) _ _ (op_move (Lk.k rfl)) <| .nil) ff rfl fun g14 => ⟨_, _, [0, 1, 2], rfl, (.cons 1 rfl <| .cons 2 rfl <| .cons 8 rfl <| .cons 9 rfl <| .cons 11 rfl <| .cons 52 rfl <| .cons 53 rfl <| .nil), (.cons 0 rfl <| .cons 1 rfl <| .cons 2 rfl <| .nil), ?_⟩)
     refine JN_then ?_
     refine J_block ?_
     refine J_loopc (α := Nat) (fun k => k ≤ n ∧ ∀ p, p < k → fcmp .eql (mat (n : Int) (qrM r (n : Int) xs).a2 (p : Int) (p : Int)) 0 = false) (fun k => n - k) (fun k restR => (53, isv (.int .i64 (k : Int))) :: restR) (fun k restS => restS) (ρc := [(1, _), (2, _), (8, _), (9, _), (11, _), (52, _)]) (σc := [_, _, _]) 0 (by exact ⟨Nat.zero_le _, fun p hp => absurd hp (Nat.not_lt_zero p)⟩) (To.pick (fun _ => .sub (t := 53) rfl (sp_eq (by rfl)) <| .cons 1 rfl <| .cons 2 rfl <| .cons 8 rfl <| .cons 9 rfl <| .cons 11 rfl <| .cons 52 rfl <| .nil) (fun _ => .cons 0 rfl <| .cons 1 rfl <| .cons 2 rfl <| .nil) (ks := [0, 1, 2]) rfl) (fun k hIz => ?_)
     refine J_seq (J_reg [] (.cons (.no) _ _ (op_cmp (by simp) (Lk.t rfl) (Lk.t rfl) rfl) <| .nil) ff rfl fun g15 => ⟨_, _, [0, 1, 2], rfl, (.cons 1 rfl <| .cons 2 rfl <| .cons 8 rfl <| .cons 9 rfl <| .cons 11 rfl <| .cons 52 rfl <| .cons 53 rfl <| .cons 54 rfl <| .nil), (.cons 0 rfl <| .cons 1 rfl <| .cons 2 rfl <| .nil), ?_⟩)
     refine JN_then ?_
     refine J_seq ?_
     refine J_cond (cond_of (Lk.t rfl)) (fun h5 => ?_) (fun h5 => ?_)
     ·have h5' := h5
      try simp only [cmpB, Za, Zb, Zc, Zd, Ze, Zf, Zg, Zh, Zi, Zj, Zk, Zl, Zm, Zn, Zo, Zp, Zq, Zr] at h5
      have hpk := (show Pl (n : Int) (n : Int) (k : Int) (k : Int) from ⟨by omega, by omega, by omega, by omega⟩).rng hgr.1
      have hpm := Int.mul_nonneg (show (0 : Int) ≤ (k : Int) by omega) (show (0 : Int) ≤ (n : Int) by omega)
      refine J_skip ?_
      refine JN_then ?_
      refine J_seq ?_
      refine J_block ?_
      refine J_seq (J_reg [] (.cons (.no) _ _ (op_move (Lk.t rfl)) <| .cons (.no) _ _ (op_assign (Lk.t rfl)) <| .nil) ff rfl fun g16 => ⟨_, _, [0, 1, 2], rfl, (.cons 1 rfl <| .cons 2 rfl <| .cons 8 rfl <| .cons 9 rfl <| .cons 11 rfl <| .cons 12 rfl <| .cons 52 rfl <| .cons 53 rfl <| .nil), (.cons 0 rfl <| .cons 1 rfl <| .cons 2 rfl <| .nil), ?_⟩)
      refine JN_then ?_
      refine J_seq (J_reg [] (.cons (.no) _ _ (op_field_own fd28_2 (Lk.t rfl) rfl) <| .cons (.rd 2) _ _ (op_get_sc 2 sc26 (Lk.t rfl) rfl mem_blk rfl) <| .cons (.no) _ _ (op_move (Lk.t rfl)) <| .cons (.no) _ _ (op_move (Lk.t rfl)) <| .cons (.no) _ _ (op_mul (Lk.t rfl) (Lk.t rfl) (wrap_id (by omega) (by omega))) <| .cons (.no) _ _ (op_move (Lk.t rfl)) <| .cons (.no) _ _ (op_add (Lk.t rfl) (Lk.t rfl) (wrap_id (by omega) (by omega))) <| .cons (.no) _ _ (op_index_m 0 sl26 (Lk.t rfl) (Lk.t rfl) (by omega) (by omega)) <| .cons (.no) _ _ (op_load_sc sc36 (Lk.t rfl) rfl) <| .cons (.no) _ _ (op_fcmp (by simp) (Lk.t rfl) (Lk.fk rfl (by decide +kernel)) rfl) <| .nil) ff rfl fun g17 => ⟨_, _, [0, 1, 2], rfl, (.cons 1 rfl <| .cons 2 rfl <| .cons 8 rfl <| .cons 9 rfl <| .cons 11 rfl <| .cons 52 rfl <| .cons 53 rfl <| .cons 65 rfl <| .nil), (.cons 0 rfl <| .cons 1 rfl <| .cons 2 rfl <| .nil), ?_⟩)
      refine JN_then ?_
      refine J_cond (cond_of (Lk.t rfl)) (fun h6 => ?_) (fun h6 => ?_)
      ·have h6' := h6
       try simp only [cmpB, Za, Zb, Zc, Zd, Ze, Zf, Zg, Zh, Zi, Zj, Zk, Zl, Zm, Zn, Zo, Zp, Zq, Zr] at h6
       refine J_seq (J_reg [] (.cons (.no) _ _ (op_assign (Lk.k rfl)) <| .cons (.no) _ _ (op_assign (Lk.k rfl)) <| .nil) ff rfl fun g18 => ⟨_, _, [], rfl, (.cons 4 rfl <| .cons 5 rfl <| .nil), (.nil), ?_⟩)
       refine JN_then ?_
       refine J_ret ?_
       refine JN_block_ret ?_
       refine JN_then_ret ?_
       refine JN_then_ret ?_
       refine JN_block_ret ?_
       refine JN_then_ret ?_
       refine JN_ret (.cons (.tmp (Lk.t rfl)) <| .cons (.tmp (Lk.t rfl)) <| .nil) (sb_trans (sb_res (.cons (sb_nil (mk := flp)) <| .cons sb_refl <| .nil)) ?_)
       exact ret_L (least_5 hz hz2 h3n he0 rfl (show k < n by omega) h6).symm
      ·have h6' := h6
       try simp only [cmpB, Za, Zb, Zc, Zd, Ze, Zf, Zg, Zh, Zi, Zj, Zk, Zl, Zm, Zn, Zo, Zp, Zq, Zr] at h6
       have hk0 : fcmp .eql (mat (n : Int) (qrM r (n : Int) xs).a2 (k : Int) (k : Int)) 0 = false := h6
       refine J_skip ?_
       refine JN_block ?_
       refine JN_then ?_
       refine (J_reg [] (.cons (.no) _ _ (op_add (Lk.t rfl) (Lk.k rfl) (wrap_id (by omega) (by omega))) <| .cons (.no) _ _ (op_move (Lk.t rfl)) <| .nil) ff rfl fun g19 => ⟨_, _, [0, 1, 2], rfl, (.cons 1 rfl <| .cons 2 rfl <| .cons 8 rfl <| .cons 9 rfl <| .cons 11 rfl <| .cons 52 rfl <| .cons 53 rfl <| .nil), (.cons 0 rfl <| .cons 1 rfl <| .cons 2 rfl <| .nil), ?_⟩)
       exact JN_again (k + 1) (by exact ⟨by omega, fun p hp => if e : p = k then e ▸ hk0 else hIz.2 p (by omega)⟩) (by omega) (To.pick (fun _ => .sub (t := 53) rfl (sp_eq (by rfl)) <| .cons 1 rfl <| .cons 2 rfl <| .cons 8 rfl <| .cons 9 rfl <| .cons 11 rfl <| .cons 52 rfl <| .nil) (fun _ => .cons 0 rfl <| .cons 1 rfl <| .cons 2 rfl <| .nil) (ks := [0, 1, 2]) rfl)
     ·have h5' := h5
      try simp only [cmpB, Za, Zb, Zc, Zd, Ze, Zf, Zg, Zh, Zi, Zj, Zk, Zl, Zm, Zn, Zo, Zp, Zq, Zr] at h5
      have hnz : ∀ p, p < n → fcmp .eql (mat (n : Int) (qrM r (n : Int) xs).a2 (p : Int) (p : Int)) 0 = false := fun p hp => hIz.2 p (by omega)
      refine J_exit ?_
      refine JN_then_exit ?_
      refine JN_then_exit ?_
      refine JN_exit_here ?_
      refine JN_then ?_
      refine J_to (To.emps 1) ?_
      refine J_seq (J_reg [] (.cons (.no) _ _ (op_move (Lk.t rfl)) <| .cons (.wr 3) _ _ (op_make_m (mk := flp) 0 3 sl26 zr36 rfl (fun _ => flp_zero) (Lk.t rfl) (Lk.t rfl) (by omega) (by omega) (by omega) (by omega) rfl) <| .cons (.no) _ _ (op_assign_ve rfl rfl) <| .nil) ff rfl fun g20 => ⟨_, _, [0, 1, 2, 3], rfl, (.cons 1 rfl <| .cons 2 rfl <| .cons 8 rfl <| .cons 9 rfl <| .cons 11 rfl <| .cons 13 rfl <| .nil), (.cons 0 rfl <| .cons 1 rfl <| .cons 2 rfl <| .cons 3 rfl <| .nil), ?_⟩)
      refine JN_then ?_
      refine J_seq ?_
      refine J_seq (J_reg [] (.cons (.no) _ _ (op_move (Lk.t rfl)) <| .cons (.no) _ _ (op_sub (Lk.t rfl) (Lk.k rfl) (wrap_id (by omega) (by omega))) <| .cons (.no) _ _ (op_assign (Lk.t rfl)) <| .nil) ff rfl fun g21 => ⟨_, _, [0, 1, 2, 3], rfl, (.cons 1 rfl <| .cons 2 rfl <| .cons 8 rfl <| .cons 9 rfl <| .cons 11 rfl <| .cons 13 rfl <| .cons 14 rfl <| .nil), (.cons 0 rfl <| .cons 1 rfl <| .cons 2 rfl <| .cons 3 rfl <| .nil), ?_⟩)
      refine JN_then ?_
      refine J_block ?_
      refine J_loopc (α := Nat) (fun d => d ≤ n ∧ ∀ p, p < d → stB r (n : Int) (n : Int) (qrM r (n : Int) xs).a1 (qrM r (n : Int) xs).a2 ys n p = false) (fun d => n - d) (fun d restR => (14, isv (.int .i64 ((n : Int) - 1 - (d : Int)))) :: restR) (fun d restS => som (g20 68) flp (lsX r (n : Int) (n : Int) (qrM r (n : Int) xs).a1 (qrM r (n : Int) xs).a2 ys n d) 36 :: restS) (ρc := [(1, _), (2, _), (8, _), (9, _), (11, _), (13, _)]) (σc := [_, _, _]) 0 (by exact ⟨Nat.zero_le _, fun p hp => absurd hp (Nat.not_lt_zero p)⟩) (To.pick (fun _ => .sub (t := 14) rfl (sp_eq (by exact congrArg (fun z => isv (.int .i64 z)) (by omega))) <| .cons 1 rfl <| .cons 2 rfl <| .cons 8 rfl <| .cons 9 rfl <| .cons 11 rfl <| .cons 13 rfl <| .nil) (fun _ => .sub 3 rfl ((fun _ _ h => h)) <| .cons 0 rfl <| .cons 1 rfl <| .cons 2 rfl <| .nil) (ks := [3, 0, 1, 2]) rfl) (fun d hI4 => ?_)
      have hdn0 : d ≤ n := hI4.1
      have hst := hI4.2
      have hxl := length_lsX r (n : Int) (n : Int) (qrM r (n : Int) xs).a1 (qrM r (n : Int) xs).a2 ys n d
      refine J_seq ?_
      refine J_seq (J_reg [] (.cons (.no) _ _ (op_move (Lk.t rfl)) <| .cons (.no) _ _ (op_cmp (by simp) (Lk.t rfl) (Lk.k rfl) rfl) <| .nil) ff rfl fun g22 => ⟨_, _, [0, 1, 2, 3], rfl, (.cons 1 rfl <| .cons 2 rfl <| .cons 8 rfl <| .cons 9 rfl <| .cons 11 rfl <| .cons 13 rfl <| .cons 14 rfl <| .cons 72 rfl <| .nil), (.cons 0 rfl <| .cons 1 rfl <| .cons 2 rfl <| .cons 3 rfl <| .nil), ?_⟩)
      refine JN_then ?_
      refine J_cond (cond_of (Lk.t rfl)) (fun h7 => ?_) (fun h7 => ?_)
      ·have h7' := h7
       try simp only [cmpB, Za, Zb, Zc, Zd, Ze, Zf, Zg, Zh, Zi, Zj, Zk, Zl, Zm, Zn, Zo, Zp, Zq, Zr] at h7
       have hdn : d < n := by omega
       have hpk := (show Pl (n : Int) (n : Int) ((n - 1 - d : Nat) : Int) ((n - 1 - d : Nat) : Int) from ⟨by omega, by omega, by omega, by omega⟩).rng hgr.1
       have hpm := Int.mul_nonneg (show (0 : Int) ≤ ((n - 1 - d : Nat) : Int) by omega) (show (0 : Int) ≤ (n : Int) by omega)
       refine J_skip ?_
       refine JN_then ?_
       refine J_seq ?_
       refine J_block ?_
       refine J_to (To.slot 14 rfl (q := isv (.int .i64 ((n - 1 - d : Nat) : Int))) (sb_eq (congrArg (fun z => isv (.int .i64 z)) (by omega)))) ?_
       refine J_seq (J_reg [] (.cons (.no) _ _ (op_assign (Lk.fk rfl (by decide +kernel))) <| .cons (.no) _ _ (op_assign (Lk.fk rfl (by decide +kernel))) <| .nil) ff rfl fun g23 => ⟨_, _, [0, 1, 2, 3], rfl, (.cons 1 rfl <| .cons 2 rfl <| .cons 8 rfl <| .cons 9 rfl <| .cons 11 rfl <| .cons 13 rfl <| .cons 14 rfl <| .cons 15 rfl <| .cons 16 rfl <| .nil), (.cons 0 rfl <| .cons 1 rfl <| .cons 2 rfl <| .cons 3 rfl <| .nil), ?_⟩)
       refine JN_then ?_
       refine J_seq ?_
       refine J_seq (J_reg [] (.cons (.no) _ _ (op_field_own fd28_0 (Lk.t rfl) rfl) <| .cons (.rd 1) _ _ (op_get_sc 1 sc3 (Lk.t rfl) rfl mem_blk rfl) <| .cons (.no) _ _ (op_move (Lk.k rfl)) <| .nil) ff rfl fun g24 => ⟨_, _, [0, 1, 2, 3], rfl, (.cons 1 rfl <| .cons 2 rfl <| .cons 8 rfl <| .cons 9 rfl <| .cons 11 rfl <| .cons 13 rfl <| .cons 14 rfl <| .cons 15 rfl <| .cons 16 rfl <| .cons 76 rfl <| .cons 77 rfl <| .nil), (.cons 0 rfl <| .cons 1 rfl <| .cons 2 rfl <| .cons 3 rfl <| .nil), ?_⟩)
       refine JN_then ?_
       refine J_block ?_
       refine J_loopc (α := Nat) (fun i => i ≤ r.toNat) (fun i => r.toNat - i) (fun i restR => (77, isv (.int .i64 (i : Int))) :: (15, flp (dotTo (colL r (n : Int) (qrM r (n : Int) xs).a1 ((n - 1 - d : Nat) : Int)) ys i)) :: restR) (fun i restS => restS) (ρc := [(1, _), (2, _), (8, _), (9, _), (11, _), (13, _), (14, _), (16, _), (76, _)]) (σc := [_, _, _, _]) 0 (by exact Nat.zero_le _) (To.pick (fun _ => .sub (t := 77) rfl (sp_eq (by rfl)) <| .sub (t := 15) rfl (sp_eq (by rfl)) <| .cons 1 rfl <| .cons 2 rfl <| .cons 8 rfl <| .cons 9 rfl <| .cons 11 rfl <| .cons 13 rfl <| .cons 14 rfl <| .cons 16 rfl <| .cons 76 rfl <| .nil) (fun _ => .cons 0 rfl <| .cons 1 rfl <| .cons 2 rfl <| .cons 3 rfl <| .nil) (ks := [0, 1, 2, 3]) rfl) (fun i hI5 => ?_)
       refine J_seq (J_reg [] (.cons (.no) _ _ (op_cmp (by simp) (Lk.t rfl) (Lk.t rfl) rfl) <| .nil) ff rfl fun g25 => ⟨_, _, [0, 1, 2, 3], rfl, (.cons 1 rfl <| .cons 2 rfl <| .cons 8 rfl <| .cons 9 rfl <| .cons 11 rfl <| .cons 13 rfl <| .cons 14 rfl <| .cons 15 rfl <| .cons 16 rfl <| .cons 76 rfl <| .cons 77 rfl <| .cons 78 rfl <| .nil), (.cons 0 rfl <| .cons 1 rfl <| .cons 2 rfl <| .cons 3 rfl <| .nil), ?_⟩)
       refine JN_then ?_
       refine J_seq ?_
       refine J_cond (cond_of (Lk.t rfl)) (fun h8 => ?_) (fun h8 => ?_)
       ·have h8' := h8
        try simp only [cmpB, Za, Zb, Zc, Zd, Ze, Zf, Zg, Zh, Zi, Zj, Zk, Zl, Zm, Zn, Zo, Zp, Zq, Zr] at h8
        have hpi := (show Pl r (n : Int) (i : Int) ((n - 1 - d : Nat) : Int) from ⟨by omega, by omega, by omega, by omega⟩).rng hgq.1
        have hpn := Int.mul_nonneg (show (0 : Int) ≤ (i : Int) by omega) (show (0 : Int) ≤ (n : Int) by omega)
        refine J_skip ?_
        refine JN_then ?_
        refine J_seq ?_
        refine J_block ?_
        refine J_seq (J_reg [] (.cons (.no) _ _ (op_move (Lk.t rfl)) <| .cons (.no) _ _ (op_assign (Lk.t rfl)) <| .nil) ff rfl fun g26 => ⟨_, _, [0, 1, 2, 3], rfl, (.cons 1 rfl <| .cons 2 rfl <| .cons 8 rfl <| .cons 9 rfl <| .cons 11 rfl <| .cons 13 rfl <| .cons 14 rfl <| .cons 15 rfl <| .cons 16 rfl <| .cons 17 rfl <| .cons 76 rfl <| .cons 77 rfl <| .nil), (.cons 0 rfl <| .cons 1 rfl <| .cons 2 rfl <| .cons 3 rfl <| .nil), ?_⟩)
        refine JN_then ?_
        refine (J_reg [[], [], [1], [], [], [3, 4], [], [3, 4, 5, 6], [1, 2, 3, 4, 5, 6, 7], [1, 2, 3, 4, 5, 6, 7, 8], [], [], [10, 11], [10, 11, 12], [1, 2, 3, 4, 5, 6, 7, 8, 9, 10, 11, 12, 13], [0, 1, 2, 3, 4, 5, 6, 7, 8, 9, 10, 11, 12, 13, 14], [0, 1, 2, 3, 4, 5, 6, 7, 8, 9, 10, 11, 12, 13, 14, 15]] (.cons (.no) _ _ (op_move (Lk.t rfl)) <| .cons (.no) _ _ (op_field_own fd28_2 (Lk.t rfl) rfl) <| .cons (.rd 2) _ _ (op_get_sc 2 sc26 (Lk.t rfl) rfl mem_blk rfl) <| .cons (.no) _ _ (op_move (Lk.t rfl)) <| .cons (.no) _ _ (op_move (Lk.t rfl)) <| .cons (.no) _ _ (op_mul (Lk.t rfl) (Lk.t rfl) (wrap_id (by omega) (by omega))) <| .cons (.no) _ _ (op_move (Lk.t rfl)) <| .cons (.no) _ _ (op_add (Lk.t rfl) (Lk.t rfl) (wrap_id (by omega) (by omega))) <| .cons (.no) _ _ (op_index_m 0 sl26 (Lk.t rfl) (Lk.t rfl) (by omega) (by omega)) <| .cons (.no) _ _ (op_load_sc sc36 (Lk.t rfl) rfl) <| .cons (.no) _ _ (op_move (Lk.t rfl)) <| .cons (.no) _ _ (op_move (Lk.t rfl)) <| .cons (.no) _ _ (op_index_m 0 sl26 (Lk.t rfl) (Lk.t rfl) (by omega) (by omega)) <| .cons (.no) _ _ (op_load_sc sc36 (Lk.t rfl) rfl) <| .cons (.no) _ _ (op_float (by simp) (Lk.t rfl) (Lk.t rfl) rfl) <| .cons (.no) _ _ (op_float (by simp) (Lk.t rfl) (Lk.t rfl) rfl) <| .cons (.no) _ _ (op_assign (Lk.t rfl)) <| .nil) (fun _ => mixed) rfl fun g27 => ⟨_, _, [0, 1, 2, 3], rfl, (.cons 1 rfl <| .cons 2 rfl <| .cons 8 rfl <| .cons 9 rfl <| .cons 11 rfl <| .cons 13 rfl <| .cons 14 rfl <| .cons 15 rfl <| .cons 16 rfl <| .cons 76 rfl <| .cons 77 rfl <| .nil), (.cons 0 rfl <| .cons 1 rfl <| .cons 2 rfl <| .cons 3 rfl <| .nil), ?_⟩)
        refine JN_block ?_
        refine JN_then ?_
        refine (J_reg [] (.cons (.no) _ _ (op_add (Lk.t rfl) (Lk.k rfl) (wrap_id (by omega) (by omega))) <| .cons (.no) _ _ (op_move (Lk.t rfl)) <| .nil) ff rfl fun g28 => ⟨_, _, [0, 1, 2, 3], rfl, (.cons 1 rfl <| .cons 2 rfl <| .cons 8 rfl <| .cons 9 rfl <| .cons 11 rfl <| .cons 13 rfl <| .cons 14 rfl <| .cons 15 rfl <| .cons 16 rfl <| .cons 76 rfl <| .cons 77 rfl <| .nil), (.cons 0 rfl <| .cons 1 rfl <| .cons 2 rfl <| .cons 3 rfl <| .nil), ?_⟩)
        exact JN_again (i + 1) (by omega) (by omega) (To.pick (fun _ => .sub (t := 77) rfl (sp_eq (by rfl)) <| .sub (t := 15) rfl (sp_eq (by exact congrArg flp (ls_d (by omega)).symm)) <| .cons 1 rfl <| .cons 2 rfl <| .cons 8 rfl <| .cons 9 rfl <| .cons 11 rfl <| .cons 13 rfl <| .cons 14 rfl <| .cons 16 rfl <| .cons 76 rfl <| .nil) (fun _ => .cons 0 rfl <| .cons 1 rfl <| .cons 2 rfl <| .cons 3 rfl <| .nil) (ks := [0, 1, 2, 3]) rfl)
       ·have h8' := h8
        try simp only [cmpB, Za, Zb, Zc, Zd, Ze, Zf, Zg, Zh, Zi, Zj, Zk, Zl, Zm, Zn, Zo, Zp, Zq, Zr] at h8
        have hdd := ls_dall (m := r) (c := (n : Int)) (q := (qrM r (n : Int) xs).a1) (ys := ys) (k := n - 1 - d) (show i = r.toNat by omega)
        refine J_exit ?_
        refine JN_then_exit ?_
        refine JN_then_exit ?_
        refine JN_exit_here ?_
        refine JN_then ?_
        refine J_seq ?_
        refine J_seq (J_reg [] (.cons (.no) _ _ (op_move (Lk.t rfl)) <| .cons (.no) _ _ (op_add (Lk.t rfl) (Lk.k rfl) (wrap_id (by omega) (by omega))) <| .cons (.no) _ _ (op_assign (Lk.t rfl)) <| .nil) ff rfl fun g29 => ⟨_, _, [0, 1, 2, 3], rfl, (.cons 1 rfl <| .cons 2 rfl <| .cons 8 rfl <| .cons 9 rfl <| .cons 11 rfl <| .cons 13 rfl <| .cons 14 rfl <| .cons 15 rfl <| .cons 16 rfl <| .cons 18 rfl <| .nil), (.cons 0 rfl <| .cons 1 rfl <| .cons 2 rfl <| .cons 3 rfl <| .nil), ?_⟩)
        refine JN_then ?_
        refine J_block ?_
        refine J_loopc (α := Nat) (fun t => t ≤ n - (n - 1 - d + 1)) (fun t => n - (n - 1 - d + 1) - t) (fun t restR => (18, isv (.int .i64 ((n - 1 - d + 1 + t : Nat) : Int))) :: (16, flp (dotTo ((rowL (n : Int) (qrM r (n : Int) xs).a2 ((n - 1 - d : Nat) : Int)).drop (n - 1 - d + 1)) ((lsX r (n : Int) (n : Int) (qrM r (n : Int) xs).a1 (qrM r (n : Int) xs).a2 ys n d).drop (n - 1 - d + 1)) t)) :: restR) (fun t restS => restS) (ρc := [(1, _), (2, _), (8, _), (9, _), (11, _), (13, _), (14, _), (15, _)]) (σc := [_, _, _, _]) 0 (by exact Nat.zero_le _) (To.pick (fun _ => .sub (t := 18) rfl (sp_eq (by exact congrArg (fun z => isv (.int .i64 z)) (by omega))) <| .sub (t := 16) rfl (sp_eq (by rfl)) <| .cons 1 rfl <| .cons 2 rfl <| .cons 8 rfl <| .cons 9 rfl <| .cons 11 rfl <| .cons 13 rfl <| .cons 14 rfl <| .cons 15 rfl <| .nil) (fun _ => .cons 0 rfl <| .cons 1 rfl <| .cons 2 rfl <| .cons 3 rfl <| .nil) (ks := [0, 1, 2, 3]) rfl) (fun t hI6 => ?_)
        refine J_seq ?_
        refine J_seq (J_reg [] (.cons (.no) _ _ (op_move (Lk.t rfl)) <| .cons (.no) _ _ (op_move (Lk.t rfl)) <| .cons (.no) _ _ (op_cmp (by simp) (Lk.t rfl) (Lk.t rfl) rfl) <| .nil) ff rfl fun g30 => ⟨_, _, [0, 1, 2, 3], rfl, (.cons 1 rfl <| .cons 2 rfl <| .cons 8 rfl <| .cons 9 rfl <| .cons 11 rfl <| .cons 13 rfl <| .cons 14 rfl <| .cons 15 rfl <| .cons 16 rfl <| .cons 18 rfl <| .cons 101 rfl <| .nil), (.cons 0 rfl <| .cons 1 rfl <| .cons 2 rfl <| .cons 3 rfl <| .nil), ?_⟩)
        refine JN_then ?_
        refine J_cond (cond_of (Lk.t rfl)) (fun h9 => ?_) (fun h9 => ?_)
        ·have h9' := h9
         try simp only [cmpB, Za, Zb, Zc, Zd, Ze, Zf, Zg, Zh, Zi, Zj, Zk, Zl, Zm, Zn, Zo, Zp, Zq, Zr] at h9
         have hpj := (show Pl (n : Int) (n : Int) ((n - 1 - d : Nat) : Int) ((n - 1 - d + 1 + t : Nat) : Int) from ⟨by omega, by omega, by omega, by omega⟩).rng hgr.1
         refine J_skip ?_
         refine JN_then ?_
         refine J_seq ?_
         refine J_block ?_
         refine (J_reg [[], [], [1], [], [], [3, 4], [], [3, 4, 5, 6], [1, 2, 3, 4, 5, 6, 7], [1, 2, 3, 4, 5, 6, 7, 8], [], [], [10, 11], [10, 11, 12], [1, 2, 3, 4, 5, 6, 7, 8, 9, 10, 11, 12, 13], [0, 1, 2, 3, 4, 5, 6, 7, 8, 9, 10, 11, 12, 13, 14], [0, 1, 2, 3, 4, 5, 6, 7, 8, 9, 10, 11, 12, 13, 14, 15]] (.cons (.no) _ _ (op_move (Lk.t rfl)) <| .cons (.no) _ _ (op_field_own fd28_2 (Lk.t rfl) rfl) <| .cons (.rd 3) _ _ (op_get_sc 3 sc26 (Lk.t rfl) rfl mem_blk rfl) <| .cons (.no) _ _ (op_move (Lk.t rfl)) <| .cons (.no) _ _ (op_move (Lk.t rfl)) <| .cons (.no) _ _ (op_mul (Lk.t rfl) (Lk.t rfl) (wrap_id (by omega) (by omega))) <| .cons (.no) _ _ (op_move (Lk.t rfl)) <| .cons (.no) _ _ (op_add (Lk.t rfl) (Lk.t rfl) (wrap_id (by omega) (by omega))) <| .cons (.no) _ _ (op_index_m 0 sl26 (Lk.t rfl) (Lk.t rfl) (by omega) (by omega)) <| .cons (.no) _ _ (op_load_sc sc36 (Lk.t rfl) rfl) <| .cons (.no) _ _ (op_move (Lk.t rfl)) <| .cons (.no) _ _ (op_move (Lk.t rfl)) <| .cons (.rd 0) _ _ (op_index_som 0 sl26 (Lk.t rfl) (Lk.t rfl) rfl (by omega) (by omega)) <| .cons (.rd 0) _ _ (op_get_som 0 0 sc36 (Lk.t rfl) rfl (by omega)) <| .cons (.no) _ _ (op_float (by simp) (Lk.t rfl) (Lk.t rfl) rfl) <| .cons (.no) _ _ (op_float (by simp) (Lk.t rfl) (Lk.t rfl) rfl) <| .cons (.no) _ _ (op_assign (Lk.t rfl)) <| .nil) (fun _ => mixed) rfl fun g31 => ⟨_, _, [0, 1, 2, 3], rfl, (.cons 1 rfl <| .cons 2 rfl <| .cons 8 rfl <| .cons 9 rfl <| .cons 11 rfl <| .cons 13 rfl <| .cons 14 rfl <| .cons 15 rfl <| .cons 16 rfl <| .cons 18 rfl <| .nil), (.cons 0 rfl <| .cons 1 rfl <| .cons 2 rfl <| .cons 3 rfl <| .nil), ?_⟩)
         refine JN_block ?_
         refine JN_then ?_
         refine (J_reg [] (.cons (.no) _ _ (op_move (Lk.t rfl)) <| .cons (.no) _ _ (op_add (Lk.t rfl) (Lk.k rfl) (wrap_id (by omega) (by omega))) <| .cons (.no) _ _ (op_assign (Lk.t rfl)) <| .nil) ff rfl fun g32 => ⟨_, _, [0, 1, 2, 3], rfl, (.cons 1 rfl <| .cons 2 rfl <| .cons 8 rfl <| .cons 9 rfl <| .cons 11 rfl <| .cons 13 rfl <| .cons 14 rfl <| .cons 15 rfl <| .cons 16 rfl <| .cons 18 rfl <| .nil), (.cons 0 rfl <| .cons 1 rfl <| .cons 2 rfl <| .cons 3 rfl <| .nil), ?_⟩)
         exact JN_again (t + 1) (by omega) (by omega) (To.pick (fun _ => .sub (t := 18) rfl (sp_eq (by exact congrArg (fun z => isv (.int .i64 z)) (by omega))) <| .sub (t := 16) rfl (sp_eq (by exact congrArg flp (ls_s (by omega)).symm)) <| .cons 1 rfl <| .cons 2 rfl <| .cons 8 rfl <| .cons 9 rfl <| .cons 11 rfl <| .cons 13 rfl <| .cons 14 rfl <| .cons 15 rfl <| .nil) (fun _ => .cons 0 rfl <| .cons 1 rfl <| .cons 2 rfl <| .cons 3 rfl <| .nil) (ks := [0, 1, 2, 3]) rfl)
        ·have h9' := h9
         try simp only [cmpB, Za, Zb, Zc, Zd, Ze, Zf, Zg, Zh, Zi, Zj, Zk, Zl, Zm, Zn, Zo, Zp, Zq, Zr] at h9
         have hss := ls_sall (c := (n : Int)) (r := (qrM r (n : Int) xs).a2) (x := (lsX r (n : Int) (n : Int) (qrM r (n : Int) xs).a1 (qrM r (n : Int) xs).a2 ys n d)) (k := n - 1 - d) (show t = ((n : Int)).toNat - (n - 1 - d + 1) by omega)
         refine J_exit ?_
         refine JN_then_exit ?_
         refine JN_then_exit ?_
         refine JN_exit_here ?_
         refine JN_then ?_
         refine J_to (To.slot 15 rfl (q := flp (lsD r (n : Int) (qrM r (n : Int) xs).a1 ys (n - 1 - d))) (sb_eq (by rw [hdd]))) ?_
         refine J_to (To.slot 16 rfl (q := flp (lsS (n : Int) (qrM r (n : Int) xs).a2 (lsX r (n : Int) (n : Int) (qrM r (n : Int) xs).a1 (qrM r (n : Int) xs).a2 ys n d) (n - 1 - d))) (sb_eq (by rw [hss]))) ?_
         refine J_seq (J_reg [] (.cons (.no) _ _ (op_move (Lk.t rfl)) <| .cons (.no) _ _ (op_move (Lk.t rfl)) <| .cons (.no) _ _ (op_move (Lk.t rfl)) <| .cons (.no) _ _ (op_move (Lk.t rfl)) <| .cons (.no) _ _ (op_float (by simp) (Lk.t rfl) (Lk.t rfl) rfl) <| .cons (.no) _ _ (op_field_own fd28_2 (Lk.t rfl) rfl) <| .cons (.rd 3) _ _ (op_get_sc 3 sc26 (Lk.t rfl) rfl mem_blk rfl) <| .cons (.no) _ _ (op_move (Lk.t rfl)) <| .cons (.no) _ _ (op_move (Lk.t rfl)) <| .cons (.no) _ _ (op_mul (Lk.t rfl) (Lk.t rfl) (wrap_id (by omega) (by omega))) <| .cons (.no) _ _ (op_move (Lk.t rfl)) <| .cons (.no) _ _ (op_add (Lk.t rfl) (Lk.t rfl) (wrap_id (by omega) (by omega))) <| .cons (.no) _ _ (op_index_m 0 sl26 (Lk.t rfl) (Lk.t rfl) (by omega) (by omega)) <| .cons (.no) _ _ (op_load_sc sc36 (Lk.t rfl) rfl) <| .cons (.no) _ _ (op_float (by simp) (Lk.t rfl) (Lk.t rfl) rfl) <| .cons (.rd 0) _ _ (op_index_som 0 sl26 (Lk.t rfl) (Lk.t rfl) rfl (by omega) (by omega)) <| .cons (.wr 0) _ _ (op_store_som 0 (Lk.t rfl) (Lk.t rfl) co_flp sz36 rfl (by omega)) <| .nil) ff rfl fun g33 => ⟨_, _, [0, 1, 2, 3], rfl, (.cons 1 rfl <| .cons 2 rfl <| .cons 8 rfl <| .cons 9 rfl <| .cons 11 rfl <| .cons 13 rfl <| .cons 14 rfl <| .cons 15 rfl <| .cons 16 rfl <| .nil), (.cons 0 rfl <| .cons 1 rfl <| .cons 2 rfl <| .cons 3 rfl <| .nil), ?_⟩)
         refine JN_then ?_
         refine J_to (To.res 0 (r' := som (g20 68) flp (lsX r (n : Int) (n : Int) (qrM r (n : Int) xs).a1 (qrM r (n : Int) xs).a2 ys n (d + 1)) 36) rfl (res_eq (by rfl)) rfl) ?_
         have hxl2 := length_lsX r (n : Int) (n : Int) (qrM r (n : Int) xs).a1 (qrM r (n : Int) xs).a2 ys n (d + 1)
         refine J_seq (J_reg [] (.cons (.no) _ _ (op_move (Lk.t rfl)) <| .cons (.no) _ _ (op_call (qfin_ok) ⟨(Lk.t rfl),  trivial⟩) <| .cons (.no) _ _ (op_not (Lk.t rfl)) <| .cons (.no) _ _ (op_move (Lk.t rfl)) <| .cons (.no) _ _ (op_guard rfl rfl (gd_b rfl) (fun hC => (op_move (Lk.t rfl)))) <| .cons (.no) _ _ (op_guard rfl rfl (gd_b rfl) (fun hC => (op_call (qfin_ok) ⟨(Lk.w rfl hC),  trivial⟩))) <| .cons (.no) _ _ (op_guard rfl rfl (gd_b rfl) (fun hC => (op_not (Lk.w rfl hC)))) <| .cons (.no) _ _ (op_or (Lk.t rfl) (fun h2 => (Lk.w rfl h2))) <| .cons (.no) _ _ (op_move (Lk.t rfl)) <| .cons (.no) _ _ (op_guard rfl rfl (gd_b rfl) (fun hC => (op_move (Lk.t rfl)))) <| .cons (.no) _ _ (op_guard rfl rfl (gd_b rfl) (fun hC => (op_move (Lk.t rfl)))) <| .cons (.rd 0) _ _ (op_guard rfl rfl (gd_b rfl) (fun hC => (op_index_som 0 sl26 (Lk.w rfl hC) (Lk.w rfl hC) rfl (by omega) (by omega)))) <| .cons (.rd 0) _ _ (op_guard rfl rfl (gd_b rfl) (fun hC => (op_get_som 0 0 sc36 (Lk.w rfl hC) rfl (by omega)))) <| .cons (.no) _ _ (op_guard rfl rfl (gd_b rfl) (fun hC => (op_call (qfin_ok) ⟨(Lk.w rfl hC),  trivial⟩))) <| .cons (.no) _ _ (op_guard rfl rfl (gd_b rfl) (fun hC => (op_not (Lk.w rfl hC)))) <| .cons (.no) _ _ (op_or (Lk.t rfl) (fun h2 => (Lk.w rfl h2))) <| .nil) ff rfl fun g34 => ⟨_, _, [0, 1, 2, 3], rfl, (.cons 1 rfl <| .cons 2 rfl <| .cons 8 rfl <| .cons 9 rfl <| .cons 11 rfl <| .cons 13 rfl <| .cons 14 rfl <| .cons 151 rfl <| .nil), (.cons 0 rfl <| .cons 1 rfl <| .cons 2 rfl <| .cons 3 rfl <| .nil), ?_⟩)
         refine JN_then ?_
         refine J_cond (cond_of (Lk.t rfl)) (fun h10 => ?_) (fun h10 => ?_)
         ·have h10' := h10
          try simp only [cmpB, Za, Zb, Zc, Zd, Ze, Zf, Zg, Zh, Zi, Zj, Zk, Zl, Zm, Zn, Zo, Zp, Zq, Zr] at h10
          refine J_seq (J_reg [] (.cons (.no) _ _ (op_assign (Lk.k rfl)) <| .cons (.no) _ _ (op_assign (Lk.k rfl)) <| .nil) ff rfl fun g35 => ⟨_, _, [0], rfl, (.cons 4 rfl <| .cons 5 rfl <| .nil), (.cons 0 rfl <| .nil), ?_⟩)
          refine JN_then ?_
          refine J_ret ?_
          refine JN_block_ret ?_
          refine JN_then_ret ?_
          refine JN_then_ret ?_
          refine JN_block_ret ?_
          refine JN_then_ret ?_
          refine JN_ret (.cons (.tmp (Lk.t rfl)) <| .cons (.tmp (Lk.t rfl)) <| .nil) (sb_trans (sb_res (.cons (sb_nil (mk := flp)) <| .cons sb_refl <| .nil)) ?_)
          exact ret_L ((toldL_bad (ls_bad hdn (show stB _ _ _ _ _ _ _ _ = true from by unfold stB; exact h10'))).trans (least_6 hz hz2 h3n he0 rfl hnz).symm)
         ·have h10' := h10
          try simp only [cmpB, Za, Zb, Zc, Zd, Ze, Zf, Zg, Zh, Zi, Zj, Zk, Zl, Zm, Zn, Zo, Zp, Zq, Zr] at h10
          have hgood : stB r (n : Int) (n : Int) (qrM r (n : Int) xs).a1 (qrM r (n : Int) xs).a2 ys n d = false := by unfold stB; exact h10'
          refine J_skip ?_
          refine JN_block ?_
          refine JN_then ?_
          refine (J_reg [] (.cons (.no) _ _ (op_move (Lk.t rfl)) <| .cons (.no) _ _ (op_sub (Lk.t rfl) (Lk.k rfl) (wrap_id (by omega) (by omega))) <| .cons (.no) _ _ (op_assign (Lk.t rfl)) <| .nil) ff rfl fun g36 => ⟨_, _, [0, 1, 2, 3], rfl, (.cons 1 rfl <| .cons 2 rfl <| .cons 8 rfl <| .cons 9 rfl <| .cons 11 rfl <| .cons 13 rfl <| .cons 14 rfl <| .nil), (.cons 0 rfl <| .cons 1 rfl <| .cons 2 rfl <| .cons 3 rfl <| .nil), ?_⟩)
          exact JN_again (d + 1) (by exact ⟨by omega, fun p hp => if e : p = d then e ▸ hgood else hst p (by omega)⟩) (by omega) (To.pick (fun _ => .sub (t := 14) rfl (sp_eq (by exact congrArg (fun z => isv (.int .i64 z)) (by omega))) <| .cons 1 rfl <| .cons 2 rfl <| .cons 8 rfl <| .cons 9 rfl <| .cons 11 rfl <| .cons 13 rfl <| .nil) (fun _ => .sub 0 rfl ((fun _ _ h => h)) <| .cons 1 rfl <| .cons 2 rfl <| .cons 3 rfl <| .nil) (ks := [0, 1, 2, 3]) rfl)
      ·have h7' := h7
       try simp only [cmpB, Za, Zb, Zc, Zd, Ze, Zf, Zg, Zh, Zi, Zj, Zk, Zl, Zm, Zn, Zo, Zp, Zq, Zr] at h7
       have hde : d = n := by omega
       refine J_exit ?_
       refine JN_then_exit ?_
       refine JN_then_exit ?_
       refine JN_exit_here ?_
       refine JN_then ?_
       refine J_seq (J_reg [] (.cons (.no) _ _ (op_move (Lk.t rfl)) <| .cons (.no) _ _ (op_assign (Lk.t rfl)) <| .cons (.no) _ _ (op_assign (Lk.k rfl)) <| .nil) ff rfl fun g37 => ⟨_, _, [0], rfl, (.cons 4 rfl <| .cons 5 rfl <| .nil), (.cons 0 rfl <| .nil), ?_⟩)
       refine JN_then ?_
       refine J_ret ?_
       refine JN_to (To.freeze 0 (fun _ h => h) rfl frz_som rfl) ?_
       refine JN_ret (.cons (.tmp (Lk.t rfl)) <| .cons (.tmp (Lk.t rfl)) <| .nil) (sb_trans (sb_res (.cons (sb_fk 0 rfl) <| .cons sb_refl <| .nil)) ?_)
       exact ret_L (by rw [hde]; exact (toldL_yes (ls_good fun p hp => hst p (by omega))).trans (least_6 hz hz2 h3n he0 rfl hnz).symm)
theorem rleast_ok {r c : Int} {xs ys : List Nat} (hlt : LtL xs) : Ct Tryz.prog 31 [MatP r c xs, fls ys] (resV (leastM r c xs ys)) := by
 refine Ct.of Tryz.func31 rfl (by kernel_rfl) rfl fun c0 => ?_
 refine J_len 1 rfl fun hlen => ?_
 refine J_to (To.emps 1) ?_
 refine J_seq (J_reg [] (.cons (.wr 0) _ _ (op_box 0 (Lk.t rfl) co_agg rfl) <| .cons (.no) _ _ (op_assign (Lk.k rfl)) <| .cons (.no) _ _ (op_assign (Lk.k rfl)) <| .nil) ff rfl fun g1 => ⟨_, _, [0], rfl, (.cons 1 rfl <| .cons 2 rfl <| .nil), (.cons 0 rfl <| .nil), ?_⟩)
 refine JN_then ?_
 refine J_seq ?_
 refine J_seq (J_reg [[], [0], [], [0, 1, 2], [], [4], [], [6], [4, 5, 6, 7], [0, 1, 2, 3, 4, 5, 6, 7, 8], [0, 1, 2, 3, 4, 5, 6, 7, 8, 9], [0, 1, 2, 3, 4, 5, 6, 7, 8, 9, 10], [0, 1, 2, 3, 4, 5, 6, 7, 8, 9], [0, 1, 2, 3, 4, 5, 6, 7, 8, 9, 12], [0, 1, 2, 3, 4, 5, 6, 7, 8, 9, 10, 11, 12, 13], [0, 1, 2, 3, 4, 5, 6, 7, 8, 9, 10, 11, 12, 13, 14], [0, 1, 2, 3, 4, 5, 6, 7, 8, 9, 10, 11, 12, 13, 14, 15], [0, 1, 2, 3, 4, 5, 6, 7, 8, 9, 10, 11, 12, 13, 14, 15, 16], [0, 1, 2, 3, 4, 5, 6, 7, 8, 9, 10, 11, 12, 13, 14, 15, 16, 17], [0, 1, 2, 3, 4, 5, 6, 7, 8, 9, 10, 11, 12, 13, 14, 15, 16, 17, 18]] (.cons (.rd 0) _ _ (op_get_ag 0 ag28 (Lk.t rfl) rfl mem_blk rfl rfl) <| .cons (.no) _ _ (op_call (rchk_ok) ⟨(Lk.t rfl),  trivial⟩) <| .cons (.no) _ _ (op_move (Lk.t rfl)) <| .cons (.no) _ _ (op_call (rl10_ok) ⟨(Lk.t rfl),  trivial⟩) <| .cons (.no) _ _ (op_field_own fd28_0 (Lk.t rfl) rfl) <| .cons (.rd 0) _ _ (op_get_sc 0 sc3 (Lk.t rfl) rfl mem_blk rfl) <| .cons (.no) _ _ (op_field_own fd28_1 (Lk.t rfl) rfl) <| .cons (.rd 0) _ _ (op_get_sc 0 sc3 (Lk.t rfl) rfl mem_blk rfl) <| .cons (.no) _ _ (op_cmp (by simp) (Lk.t rfl) (Lk.t rfl) rfl) <| .cons (.no) _ _ (op_move (Lk.t rfl)) <| .cons (.no) _ _ (op_guard rfl rfl (gd_b rfl) (fun hC => (op_move (Lk.t rfl)))) <| .cons (.no) _ _ (op_guard rfl rfl (gd_b rfl) (fun hC => (op_len_m sl26 (Lk.w rfl hC)))) <| .cons (.no) _ _ (op_guard rfl rfl (gd_b rfl) (fun hC => (op_field_own fd28_0 (Lk.t rfl) rfl))) <| .cons (.rd 0) _ _ (op_guard rfl rfl (gd_b rfl) (fun hC => (op_get_sc 0 sc3 (Lk.w rfl hC) rfl mem_blk rfl))) <| .cons (.no) _ _ (op_guard rfl rfl (gd_b rfl) (fun hC => (op_cmp (by simp) (Lk.w rfl hC) (Lk.w rfl hC) rfl))) <| .cons (.no) _ _ (op_or (Lk.t rfl) (fun h2 => (Lk.w rfl h2))) <| .cons (.no) _ _ (op_call (rif_ok) ⟨(Lk.t rfl), (Lk.k rfl),  trivial⟩) <| .cons (.no) _ _ (op_buildSlice sl141 zr3 rfl rfl rfl rfl (.cons rfl (Lk.t rfl) co_isv rfl (puts_l rfl (Nat.le_of_ble_eq_true rfl)) (.cons rfl (Lk.t rfl) co_isv rfl (puts_l rfl (Nat.le_of_ble_eq_true rfl)) (.cons rfl (Lk.t rfl) co_isv rfl (puts_l rfl (Nat.le_of_ble_eq_true rfl)) .nil)))) <| .cons (.no) _ _ (op_call (rfirst_ok3) ⟨(Lk.t rfl),  trivial⟩) <| .cons (.no) _ _ (op_assign (Lk.t rfl)) <| .nil) (fun _ => mixed) rfl fun g2 => ⟨_, _, [0], rfl, (.cons 1 rfl <| .cons 2 rfl <| .cons 6 rfl <| .nil), (.cons 0 rfl <| .nil), ?_⟩)
 refine JN_then ?_
 refine J_seq (J_reg [] (.cons (.no) _ _ (op_move (Lk.t rfl)) <| .cons (.no) _ _ (op_cmp (by simp) (Lk.t rfl) (Lk.k rfl) rfl) <| .nil) ff rfl fun g3 => ⟨_, _, [0], rfl, (.cons 1 rfl <| .cons 2 rfl <| .cons 6 rfl <| .cons 35 rfl <| .nil), (.cons 0 rfl <| .nil), ?_⟩)
 refine JN_then ?_
 refine J_cond (cond_of (Lk.t rfl)) (fun h1 => ?_) (fun h1 => ?_)
 ·have h1' := h1
  try simp only [cmpB, Za, Zb, Zc, Zd, Ze, Zf, Zg, Zh, Zi, Zj, Zk, Zl, Zm, Zn, Zo, Zp, Zq, Zr] at h1
  refine J_seq (J_reg [] (.cons (.no) _ _ (op_move (Lk.t rfl)) <| .cons (.no) _ _ (op_assign (Lk.k rfl)) <| .cons (.no) _ _ (op_assign (Lk.t rfl)) <| .nil) ff rfl fun g4 => ⟨_, _, [], rfl, (.cons 4 rfl <| .cons 5 rfl <| .nil), (.nil), ?_⟩)
  refine JN_then ?_
  refine J_ret ?_
  refine JN_then_ret ?_
  refine JN_ret (.cons (.tmp (Lk.t rfl)) <| .cons (.tmp (Lk.t rfl)) <| .nil) (sb_trans (sb_res (.cons (sb_nil (mk := flp)) <| .cons sb_refl <| .nil)) ?_)
  exact ret_L (ls_err (by simpa [cmpB] using h1)).symm
 ·have h1' := h1
  try simp only [cmpB, Za, Zb, Zc, Zd, Ze, Zf, Zg, Zh, Zi, Zj, Zk, Zl, Zm, Zn, Zo, Zp, Zq, Zr] at h1
  have he : fstE [chk r c xs, lchkW ys, whenE (cmpB .lss r c || cmpB .neq ((ys.length : Int)) r) 3] = 0 := by simpa [cmpB] using h1
  obtain ⟨hz, hz2, h3n⟩ := ls_errs he
  have hck := chk_good hz
  obtain ⟨hs1, hs2, hs3, hs4⟩ := hck.1
  have hrc : ¬ r < c := by omega
  have hyl : (ys.length : Int) = r := by omega
  obtain ⟨n, rfl⟩ : ∃ n : Nat, c = (n : Int) := ⟨c.toNat, by omega⟩
  refine J_skip ?_
  refine JN_then ?_
  refine J_to (To.emps 2) ?_
  refine J_seq (J_reg [] (.cons (.rd 0) _ _ (op_get_ag 0 ag28 (Lk.t rfl) rfl mem_blk rfl rfl) <| .cons (.no) _ _ (op_call (rqrq_ok (by assumption)) ⟨(Lk.t rfl),  trivial⟩) <| .cons (.no) _ _ (op_move (Lk.t rfl)) <| .cons (.no) _ _ (op_extract (Lk.t rfl) rfl) <| .cons (.no) _ _ (op_extract (Lk.t rfl) rfl) <| .cons (.no) _ _ (op_extract (Lk.t rfl) rfl) <| .cons (.wr 1) _ _ (op_alloc 1 zr28 rfl rfl) <| .cons (.wr 2) _ _ (op_alloc 2 zr28 rfl rfl) <| .cons (.wr 1) _ _ (op_store_new 1 rfl (Lk.t rfl) co_agg sz28 rfl rfl) <| .cons (.wr 2) _ _ (op_store_new 2 rfl (Lk.t rfl) co_agg sz28 rfl rfl) <| .cons (.no) _ _ (op_assign (Lk.t rfl)) <| .nil) ff rfl fun g5 => ⟨_, _, [0, 1, 2], rfl, (.cons 1 rfl <| .cons 2 rfl <| .cons 7 rfl <| .cons 8 rfl <| .cons 9 rfl <| .nil), (.cons 0 rfl <| .cons 1 rfl <| .cons 2 rfl <| .nil), ?_⟩)
  refine JN_then ?_
  refine J_seq ?_
  refine J_seq (J_reg [] (.cons (.no) _ _ (op_move (Lk.t rfl)) <| .cons (.no) _ _ (op_cmp (by simp) (Lk.t rfl) (Lk.k rfl) rfl) <| .nil) ff rfl fun g6 => ⟨_, _, [0, 1, 2], rfl, (.cons 1 rfl <| .cons 2 rfl <| .cons 7 rfl <| .cons 8 rfl <| .cons 9 rfl <| .cons 44 rfl <| .nil), (.cons 0 rfl <| .cons 1 rfl <| .cons 2 rfl <| .nil), ?_⟩)
  refine JN_then ?_
  refine J_cond (cond_of (Lk.t rfl)) (fun h2 => ?_) (fun h2 => ?_)
  ·have h2' := h2
   try simp only [cmpB, Za, Zb, Zc, Zd, Ze, Zf, Zg, Zh, Zi, Zj, Zk, Zl, Zm, Zn, Zo, Zp, Zq, Zr] at h2
   refine J_seq (J_reg [] (.cons (.no) _ _ (op_move (Lk.t rfl)) <| .cons (.no) _ _ (op_assign (Lk.k rfl)) <| .cons (.no) _ _ (op_assign (Lk.t rfl)) <| .nil) ff rfl fun g7 => ⟨_, _, [], rfl, (.cons 4 rfl <| .cons 5 rfl <| .nil), (.nil), ?_⟩)
   refine JN_then ?_
   refine J_ret ?_
   refine JN_then_ret ?_
   refine JN_ret (.cons (.tmp (Lk.t rfl)) <| .cons (.tmp (Lk.t rfl)) <| .nil) (sb_trans (sb_res (.cons (sb_nil (mk := flp)) <| .cons sb_refl <| .nil)) ?_)
   exact ret_L (least_4 hz hz2 h3n (by simpa using h2)).symm
  ·have h2' := h2
   try simp only [cmpB, Za, Zb, Zc, Zd, Ze, Zf, Zg, Zh, Zi, Zj, Zk, Zl, Zm, Zn, Zo, Zp, Zq, Zr] at h2
   have he0 : (qrM r (n : Int) xs).e = 0 := by simpa using h2
   obtain ⟨hq1, hq2, hq3, hq4, hgq, hgr⟩ := qrM_good hz he0
   have hgq2 : Good (qrM r (n : Int) xs).r1 (qrM r (n : Int) xs).c1 (qrM r (n : Int) xs).a1 := by rw [hq1, hq2]; exact hgq
   have hgr2 : Good (qrM r (n : Int) xs).r2 (qrM r (n : Int) xs).c2 (qrM r (n : Int) xs).a2 := by rw [hq3, hq4]; exact hgr
   refine J_skip ?_
   refine JN_then ?_
   refine J_seq ?_
   refine J_seq (J_reg [] (.cons (.no) _ _ (op_assign (Lk.k rfl)) <| .nil) ff rfl fun g8 => ⟨_, _, [0, 1, 2], rfl, (.cons 1 rfl <| .cons 2 rfl <| .cons 7 rfl <| .cons 8 rfl <| .cons 10 rfl <| .nil), (.cons 0 rfl <| .cons 1 rfl <| .cons 2 rfl <| .nil), ?_⟩)
   refine JN_then ?_
   refine J_block ?_
   refine J_loopc (α := Nat) (fun k => k ≤ n ∧ ∀ p, p < k → fcmp .eql (mat (n : Int) (qrM r (n : Int) xs).a2 (p : Int) (p : Int)) 0 = false) (fun k => n - k) (fun k restR => (10, isv (.int .i64 (k : Int))) :: restR) (fun k restS => restS) (ρc := [(1, _), (2, _), (7, _), (8, _)]) (σc := [_, _, _]) 0 (by exact ⟨Nat.zero_le _, fun p hp => absurd hp (Nat.not_lt_zero p)⟩) (To.pick (fun _ => .sub (t := 10) rfl (sp_eq (by rfl)) <| .cons 1 rfl <| .cons 2 rfl <| .cons 7 rfl <| .cons 8 rfl <| .nil) (fun _ => .cons 0 rfl <| .cons 1 rfl <| .cons 2 rfl <| .nil) (ks := [0, 1, 2]) rfl) (fun k hIz => ?_)
   refine J_seq ?_
   refine J_seq (J_reg [] (.cons (.no) _ _ (op_move (Lk.t rfl)) <| .cons (.no) _ _ (op_field_own fd28_1 (Lk.t rfl) rfl) <| .cons (.rd 0) _ _ (op_get_sc 0 sc3 (Lk.t rfl) rfl mem_blk rfl) <| .cons (.no) _ _ (op_cmp (by simp) (Lk.t rfl) (Lk.t rfl) rfl) <| .nil) ff rfl fun g9 => ⟨_, _, [0, 1, 2], rfl, (.cons 1 rfl <| .cons 2 rfl <| .cons 7 rfl <| .cons 8 rfl <| .cons 10 rfl <| .cons 49 rfl <| .nil), (.cons 0 rfl <| .cons 1 rfl <| .cons 2 rfl <| .nil), ?_⟩)
   refine JN_then ?_
   refine J_cond (cond_of (Lk.t rfl)) (fun h3 => ?_) (fun h3 => ?_)
   ·have h3' := h3
    try simp only [cmpB, Za, Zb, Zc, Zd, Ze, Zf, Zg, Zh, Zi, Zj, Zk, Zl, Zm, Zn, Zo, Zp, Zq, Zr] at h3
    refine J_skip ?_
    refine JN_then ?_
    refine J_seq ?_
    refine J_block ?_
    refine J_seq (J_reg [] (.cons (.rd 2) _ _ (op_get_ag 2 ag28 (Lk.t rfl) rfl mem_blk rfl rfl) <| .cons (.no) _ _ (op_move (Lk.t rfl)) <| .cons (.no) _ _ (op_move (Lk.t rfl)) <| .cons (.no) _ _ (op_call (rat_ok hgr2 ⟨by omega, by omega, by omega, by omega⟩) ⟨(Lk.t rfl), (Lk.t rfl), (Lk.t rfl),  trivial⟩) <| .cons (.no) _ _ (op_fcmp (by simp) (Lk.t rfl) (Lk.fk rfl (by decide +kernel)) rfl) <| .nil) ff rfl fun g10 => ⟨_, _, [0, 1, 2], rfl, (.cons 1 rfl <| .cons 2 rfl <| .cons 7 rfl <| .cons 8 rfl <| .cons 10 rfl <| .cons 56 rfl <| .nil), (.cons 0 rfl <| .cons 1 rfl <| .cons 2 rfl <| .nil), ?_⟩)
    refine JN_then ?_
    refine J_cond (cond_of (Lk.t rfl)) (fun h4 => ?_) (fun h4 => ?_)
    ·have h4' := h4
     try simp only [cmpB, Za, Zb, Zc, Zd, Ze, Zf, Zg, Zh, Zi, Zj, Zk, Zl, Zm, Zn, Zo, Zp, Zq, Zr] at h4
     refine J_seq (J_reg [] (.cons (.no) _ _ (op_assign (Lk.k rfl)) <| .cons (.no) _ _ (op_assign (Lk.k rfl)) <| .nil) ff rfl fun g11 => ⟨_, _, [], rfl, (.cons 4 rfl <| .cons 5 rfl <| .nil), (.nil), ?_⟩)
     refine JN_then ?_
     refine J_ret ?_
     refine JN_block_ret ?_
     refine JN_then_ret ?_
     refine JN_then_ret ?_
     refine JN_block_ret ?_
     refine JN_then_ret ?_
     refine JN_ret (.cons (.tmp (Lk.t rfl)) <| .cons (.tmp (Lk.t rfl)) <| .nil) (sb_trans (sb_res (.cons (sb_nil (mk := flp)) <| .cons sb_refl <| .nil)) ?_)
     exact ret_L (least_5 hz hz2 h3n he0 rfl (show k < n by omega) (by have q := h4; rw [hq4] at q; exact q)).symm
    ·have h4' := h4
     try simp only [cmpB, Za, Zb, Zc, Zd, Ze, Zf, Zg, Zh, Zi, Zj, Zk, Zl, Zm, Zn, Zo, Zp, Zq, Zr] at h4
     have hk0 : fcmp .eql (mat (n : Int) (qrM r (n : Int) xs).a2 (k : Int) (k : Int)) 0 = false := by have q := h4; rw [hq4] at q; exact q
     refine J_skip ?_
     refine JN_block ?_
     refine JN_then ?_
     refine (J_reg [] (.cons (.no) _ _ (op_move (Lk.t rfl)) <| .cons (.no) _ _ (op_add (Lk.t rfl) (Lk.k rfl) (wrap_id (by omega) (by omega))) <| .cons (.no) _ _ (op_assign (Lk.t rfl)) <| .nil) ff rfl fun g12 => ⟨_, _, [0, 1, 2], rfl, (.cons 1 rfl <| .cons 2 rfl <| .cons 7 rfl <| .cons 8 rfl <| .cons 10 rfl <| .nil), (.cons 0 rfl <| .cons 1 rfl <| .cons 2 rfl <| .nil), ?_⟩)
     exact JN_again (k + 1) (by exact ⟨by omega, fun p hp => if e : p = k then e ▸ hk0 else hIz.2 p (by omega)⟩) (by omega) (To.pick (fun _ => .sub (t := 10) rfl (sp_eq (by rfl)) <| .cons 1 rfl <| .cons 2 rfl <| .cons 7 rfl <| .cons 8 rfl <| .nil) (fun _ => .cons 0 rfl <| .cons 1 rfl <| .cons 2 rfl <| .nil) (ks := [0, 1, 2]) rfl)
   ·have h3' := h3
    try simp only [cmpB, Za, Zb, Zc, Zd, Ze, Zf, Zg, Zh, Zi, Zj, Zk, Zl, Zm, Zn, Zo, Zp, Zq, Zr] at h3
    have hnz : ∀ p, p < n → fcmp .eql (mat (n : Int) (qrM r (n : Int) xs).a2 (p : Int) (p : Int)) 0 = false := fun p hp => hIz.2 p (by omega)
    refine J_exit ?_
    refine JN_then_exit ?_
    refine JN_then_exit ?_
    refine JN_exit_here ?_
    refine JN_then ?_
    refine J_to (To.emps 1) ?_
    refine J_seq (J_reg [] (.cons (.no) _ _ (op_field_own fd28_1 (Lk.t rfl) rfl) <| .cons (.rd 0) _ _ (op_get_sc 0 sc3 (Lk.t rfl) rfl mem_blk rfl) <| .cons (.wr 3) _ _ (op_make_m (mk := flp) 0 3 sl26 zr36 rfl (fun _ => flp_zero) (Lk.t rfl) (Lk.t rfl) (by omega) (by omega) (by omega) (by omega) rfl) <| .cons (.no) _ _ (op_assign_ve rfl rfl) <| .nil) ff rfl fun g13 => ⟨_, _, [0, 1, 2, 3], rfl, (.cons 1 rfl <| .cons 2 rfl <| .cons 7 rfl <| .cons 8 rfl <| .cons 11 rfl <| .nil), (.cons 0 rfl <| .cons 1 rfl <| .cons 2 rfl <| .cons 3 rfl <| .nil), ?_⟩)
    refine JN_then ?_
    refine J_seq ?_
    refine J_seq (J_reg [] (.cons (.no) _ _ (op_field_own fd28_1 (Lk.t rfl) rfl) <| .cons (.rd 0) _ _ (op_get_sc 0 sc3 (Lk.t rfl) rfl mem_blk rfl) <| .cons (.no) _ _ (op_sub (Lk.t rfl) (Lk.k rfl) (wrap_id (by omega) (by omega))) <| .cons (.no) _ _ (op_assign (Lk.t rfl)) <| .nil) ff rfl fun g14 => ⟨_, _, [1, 2, 3], rfl, (.cons 1 rfl <| .cons 7 rfl <| .cons 8 rfl <| .cons 11 rfl <| .cons 12 rfl <| .nil), (.cons 1 rfl <| .cons 2 rfl <| .cons 3 rfl <| .nil), ?_⟩)
    refine JN_then ?_
    refine J_block ?_
    refine J_loopc (α := Nat) (fun d => d ≤ n) (fun d => n - d) (fun d restR => (12, isv (.int .i64 ((n : Int) - 1 - (d : Int)))) :: restR) (fun d restS => som (g13 59) flp (lsX r (n : Int) (n : Int) (qrM r (n : Int) xs).a1 (qrM r (n : Int) xs).a2 ys n d) 36 :: restS) (ρc := [(1, _), (7, _), (8, _), (11, _)]) (σc := [_, _]) 0 (by exact Nat.zero_le _) (To.pick (fun _ => .sub (t := 12) rfl (sp_eq (by exact congrArg (fun z => isv (.int .i64 z)) (by omega))) <| .cons 1 rfl <| .cons 7 rfl <| .cons 8 rfl <| .cons 11 rfl <| .nil) (fun _ => .sub 2 rfl ((fun _ _ h => h)) <| .cons 0 rfl <| .cons 1 rfl <| .nil) (ks := [2, 0, 1]) rfl) (fun d hI4 => ?_)
    have hxl := length_lsX r (n : Int) (n : Int) (qrM r (n : Int) xs).a1 (qrM r (n : Int) xs).a2 ys n d
    refine J_seq ?_
    refine J_seq (J_reg [] (.cons (.no) _ _ (op_move (Lk.t rfl)) <| .cons (.no) _ _ (op_cmp (by simp) (Lk.t rfl) (Lk.k rfl) rfl) <| .nil) ff rfl fun g15 => ⟨_, _, [0, 1, 2], rfl, (.cons 1 rfl <| .cons 7 rfl <| .cons 8 rfl <| .cons 11 rfl <| .cons 12 rfl <| .cons 64 rfl <| .nil), (.cons 0 rfl <| .cons 1 rfl <| .cons 2 rfl <| .nil), ?_⟩)
    refine JN_then ?_
    refine J_cond (cond_of (Lk.t rfl)) (fun h5 => ?_) (fun h5 => ?_)
    ·have h5' := h5
     try simp only [cmpB, Za, Zb, Zc, Zd, Ze, Zf, Zg, Zh, Zi, Zj, Zk, Zl, Zm, Zn, Zo, Zp, Zq, Zr] at h5
     have hdn : d < n := by omega
     have hrw := @length_rowL (qrM r (n : Int) xs).c2 (qrM r (n : Int) xs).a2 ((n - 1 - d : Nat) : Int)
     refine J_skip ?_
     refine JN_then ?_
     refine J_seq ?_
     refine J_block ?_
     refine J_to (To.slot 12 rfl (q := isv (.int .i64 ((n - 1 - d : Nat) : Int))) (sb_eq (congrArg (fun z => isv (.int .i64 z)) (by omega)))) ?_
     refine J_seq (J_reg [] (.cons (.rd 1) _ _ (op_get_ag 1 ag28 (Lk.t rfl) rfl mem_blk rfl rfl) <| .cons (.no) _ _ (op_move (Lk.t rfl)) <| .cons (.no) _ _ (op_call (rcol_ok hgq2 (by omega) (by omega)) ⟨(Lk.t rfl), (Lk.t rfl),  trivial⟩) <| .cons (.no) _ _ (op_move (Lk.t rfl)) <| .cons (.no) _ _ (op_call (rdot_ok (by rw [length_colL]; omega)) ⟨(Lk.t rfl), (Lk.t rfl),  trivial⟩) <| .cons (.no) _ _ (op_assign (Lk.t rfl)) <| .nil) ff rfl fun g16 => ⟨_, _, [0, 1, 2], rfl, (.cons 1 rfl <| .cons 7 rfl <| .cons 8 rfl <| .cons 11 rfl <| .cons 12 rfl <| .cons 13 rfl <| .nil), (.cons 0 rfl <| .cons 1 rfl <| .cons 2 rfl <| .nil), ?_⟩)
     refine JN_then ?_
     refine J_seq (J_reg [[], [], [0, 1], [], [3], [0, 1, 2, 3, 4], [], [], [7], [6, 7, 8], [0, 1, 2, 3, 4, 5, 6, 7, 8, 9], [0, 1, 2, 3, 4, 5, 6, 7, 8, 9, 10]] (.cons (.rd 2) _ _ (op_get_ag 2 ag28 (Lk.t rfl) rfl mem_blk rfl rfl) <| .cons (.no) _ _ (op_move (Lk.t rfl)) <| .cons (.no) _ _ (op_call (rrow_ok hgr2 (by omega) (by omega)) ⟨(Lk.t rfl), (Lk.t rfl),  trivial⟩) <| .cons (.no) _ _ (op_move (Lk.t rfl)) <| .cons (.no) _ _ (op_add (Lk.t rfl) (Lk.k rfl) (wrap_id (by omega) (by omega))) <| .cons (.no) _ _ (op_slice_md sl26 (Lk.t rfl) (Lk.t rfl) (by omega) (by omega)) <| .cons (.no) _ _ (op_move (Lk.t rfl)) <| .cons (.no) _ _ (op_move (Lk.t rfl)) <| .cons (.no) _ _ (op_add (Lk.t rfl) (Lk.k rfl) (wrap_id (by omega) (by omega))) <| .cons (.rd 0) _ _ (op_slice_vsl 0 sl26 (Lk.t rfl) (Lk.t rfl) rfl (by omega) (by omega)) <| .cons (.rd 0) _ _ (op_callL 0 (rdot_ok (xs := (rowL (qrM r (n : Int) xs).c2 (qrM r (n : Int) xs).a2 ((n - 1 - d : Nat) : Int)).drop (n - 1 - d + 1)) (ys := (lsX r (n : Int) (n : Int) (qrM r (n : Int) xs).a1 (qrM r (n : Int) xs).a2 ys n d).drop (n - 1 - d + 1)) (by rw [List.length_drop, List.length_drop, hrw, hxl]; omega)) (pure_flp _) ⟨.inl (Lk.t rfl), .inr ⟨_, (Lk.t rfl), lent_vsl⟩,  trivial⟩ rfl) <| .cons (.no) _ _ (op_assign (Lk.t rfl)) <| .nil) (fun _ => mixed) rfl fun g17 => ⟨_, _, [0, 1, 2], rfl, (.cons 1 rfl <| .cons 7 rfl <| .cons 8 rfl <| .cons 11 rfl <| .cons 12 rfl <| .cons 13 rfl <| .cons 14 rfl <| .nil), (.cons 0 rfl <| .cons 1 rfl <| .cons 2 rfl <| .nil), ?_⟩)
     refine JN_then ?_
     refine (J_reg [] (.cons (.no) _ _ (op_move (Lk.t rfl)) <| .cons (.no) _ _ (op_move (Lk.t rfl)) <| .cons (.no) _ _ (op_move (Lk.t rfl)) <| .cons (.no) _ _ (op_move (Lk.t rfl)) <| .cons (.no) _ _ (op_float (by simp) (Lk.t rfl) (Lk.t rfl) rfl) <| .cons (.rd 2) _ _ (op_get_ag 2 ag28 (Lk.t rfl) rfl mem_blk rfl rfl) <| .cons (.no) _ _ (op_move (Lk.t rfl)) <| .cons (.no) _ _ (op_move (Lk.t rfl)) <| .cons (.no) _ _ (op_call (rat_ok hgr2 ⟨by omega, by omega, by omega, by omega⟩) ⟨(Lk.t rfl), (Lk.t rfl), (Lk.t rfl),  trivial⟩) <| .cons (.no) _ _ (op_float (by simp) (Lk.t rfl) (Lk.t rfl) rfl) <| .cons (.rd 0) _ _ (op_index_som 0 sl26 (Lk.t rfl) (Lk.t rfl) rfl (by omega) (by omega)) <| .cons (.wr 0) _ _ (op_store_som 0 (Lk.t rfl) (Lk.t rfl) co_flp sz36 rfl (by omega)) <| .nil) ff rfl fun g18 => ⟨_, _, [0, 1, 2], rfl, (.cons 1 rfl <| .cons 7 rfl <| .cons 8 rfl <| .cons 11 rfl <| .cons 12 rfl <| .nil), (.cons 0 rfl <| .cons 1 rfl <| .cons 2 rfl <| .nil), ?_⟩)
     refine JN_block ?_
     refine JN_then ?_
     refine (J_reg [] (.cons (.no) _ _ (op_move (Lk.t rfl)) <| .cons (.no) _ _ (op_sub (Lk.t rfl) (Lk.k rfl) (wrap_id (by omega) (by omega))) <| .cons (.no) _ _ (op_assign (Lk.t rfl)) <| .nil) ff rfl fun g19 => ⟨_, _, [0, 1, 2], rfl, (.cons 1 rfl <| .cons 7 rfl <| .cons 8 rfl <| .cons 11 rfl <| .cons 12 rfl <| .nil), (.cons 0 rfl <| .cons 1 rfl <| .cons 2 rfl <| .nil), ?_⟩)
     exact JN_again (d + 1) (by omega) (by omega) (To.pick (fun _ => .sub (t := 12) rfl (sp_eq (by exact congrArg (fun z => isv (.int .i64 z)) (by omega))) <| .cons 1 rfl <| .cons 7 rfl <| .cons 8 rfl <| .cons 11 rfl <| .nil) (fun _ => .sub 0 rfl ((res_eq (by rw [hq1, hq2, hq4]; rfl))) <| .cons 1 rfl <| .cons 2 rfl <| .nil) (ks := [0, 1, 2]) rfl)
    ·have h5' := h5
     try simp only [cmpB, Za, Zb, Zc, Zd, Ze, Zf, Zg, Zh, Zi, Zj, Zk, Zl, Zm, Zn, Zo, Zp, Zq, Zr] at h5
     have hde : d = n := by omega
     refine J_exit ?_
     refine JN_then_exit ?_
     refine JN_then_exit ?_
     refine JN_exit_here ?_
     refine JN_then ?_
     refine J_seq ?_
     refine J_to (To.res 0 (r' := som (g13 59) flp (lsX r (n : Int) (n : Int) (qrM r (n : Int) xs).a1 (qrM r (n : Int) xs).a2 ys n n) 36) rfl (res_eq (by rw [hde])) rfl) ?_
     refine J_to (To.freeze 0 (fun _ h => h) rfl frz_som rfl) ?_
     refine J_seq (J_reg [] (.cons (.no) _ _ (op_move (Lk.t rfl)) <| .cons (.no) _ _ (op_call (rall_ok) ⟨(Lk.sub (sb_fk 0 rfl) (Lk.t rfl)),  trivial⟩) <| .cons (.no) _ _ (op_not (Lk.t rfl)) <| .nil) ff rfl fun g20 => ⟨_, _, [], rfl, (.cons 11 rfl <| .cons 96 rfl <| .nil), (.nil), ?_⟩)
     refine JN_then ?_
     refine J_cond (cond_of (Lk.t rfl)) (fun h6 => ?_) (fun h6 => ?_)
     ·have h6' := h6
      try simp only [cmpB, Za, Zb, Zc, Zd, Ze, Zf, Zg, Zh, Zi, Zj, Zk, Zl, Zm, Zn, Zo, Zp, Zq, Zr] at h6
      refine J_seq (J_reg [] (.cons (.no) _ _ (op_assign (Lk.k rfl)) <| .cons (.no) _ _ (op_assign (Lk.k rfl)) <| .nil) ff rfl fun g21 => ⟨_, _, [], rfl, (.cons 4 rfl <| .cons 5 rfl <| .nil), (.nil), ?_⟩)
      refine JN_then ?_
      refine J_ret ?_
      refine JN_then_ret ?_
      refine JN_ret (.cons (.tmp (Lk.t rfl)) <| .cons (.tmp (Lk.t rfl)) <| .nil) (sb_trans (sb_res (.cons (sb_nil (mk := flp)) <| .cons sb_refl <| .nil)) ?_)
      exact ret_L ((toldL_bad (by simpa using h6)).trans (least_6 hz hz2 h3n he0 rfl hnz).symm)
     ·have h6' := h6
      try simp only [cmpB, Za, Zb, Zc, Zd, Ze, Zf, Zg, Zh, Zi, Zj, Zk, Zl, Zm, Zn, Zo, Zp, Zq, Zr] at h6
      refine J_skip ?_
      refine JN_then ?_
      refine J_seq (J_reg [] (.cons (.no) _ _ (op_move (Lk.t rfl)) <| .cons (.no) _ _ (op_assign (Lk.t rfl)) <| .cons (.no) _ _ (op_assign (Lk.k rfl)) <| .nil) ff rfl fun g22 => ⟨_, _, [], rfl, (.cons 4 rfl <| .cons 5 rfl <| .nil), (.nil), ?_⟩)
      refine JN_then ?_
      refine J_ret ?_
      refine JN_ret (.cons (.tmp (Lk.t rfl)) <| .cons (.tmp (Lk.t rfl)) <| .nil) (sb_trans (sb_res (.cons (sb_fk 0 rfl) <| .cons sb_refl <| .nil)) ?_)
      exact ret_L ((toldL_yes (by simpa using h6)).trans (least_6 hz hz2 h3n he0 rfl hnz).symm)
end Go.Proofs.YtllkellonjhalaaGreat
