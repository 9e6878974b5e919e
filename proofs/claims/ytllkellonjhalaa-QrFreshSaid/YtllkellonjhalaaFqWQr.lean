/- Printed by a program of ours (walk.py): walks of a matrix split into two. -/
import Derived.Test.YtllkellonjhalaaFqKb
import Derived.Test.YtllkellonjhalaaProg
import Derived.KernelRfl
import Derived.Test.YtllkellonjhalaaFqTypes
import Derived.Test.YtllkellonjhalaaFqWRef1
import Derived.Test.YtllkellonjhalaaFqKe
import Derived.Test.YtllkellonjhalaaFqKc
import Derived.Test.YtllkellonjhalaaFqQra
import Derived.Test.YtllkellonjhalaaFqSeg
import Derived.Test.YtllkellonjhalaaFqWLaw1
import Derived.Test.YtllkellonjhalaaFqTrn
import Derived.Test.YtllkellonjhalaaFqWAwk
import Derived.Test.YtllkellonjhalaaFqScl
import Derived.Test.YtllkellonjhalaaFqRtr
import Derived.Test.YtllkellonjhalaaFqQrd
set_option linter.unusedVariables false
set_option linter.unusedSimpArgs false
set_option maxRecDepth 20000
set_option maxHeartbeats 1000000
namespace Go.Proofs.Ytllkellonjhalaa
open Go Go.Bn
attribute [local irreducible] OpOK
theorem flip_ok {x b : Nat} : Ct Try.prog 33 [flp x, flp b] (flp (flipN x b)) := by
 refine Ct.of Try.func33 rfl (by kernel_rfl) rfl fun c0 => ?_
 refine J_seq (J_reg [] (.cons (.no) _ _ (op_assign (Lk.fk rfl (by decide +kernel))) <| .nil) ff rfl fun g1 => ⟨_, _, [], rfl, (.cons 0 rfl <| .cons 1 rfl <| .nil), (.nil), ?_⟩)
 refine JN_then ?_
 refine J_seq ?_
 refine J_seq (J_reg [] (.cons (.no) _ _ (op_move (Lk.t rfl)) <| .cons (.no) _ _ (op_fcmp (by simp) (Lk.t rfl) (Lk.fk rfl (by decide +kernel)) rfl) <| .nil) ff rfl fun g2 => ⟨_, _, [], rfl, (.cons 0 rfl <| .cons 6 rfl <| .nil), (.nil), ?_⟩)
 refine JN_then ?_
 refine J_cond (cond_of (Lk.t rfl)) (fun h1 => ?_) (fun h1 => ?_)
 ·have h1' := h1
  try simp only [cmpB, Za, Zb, Zc, Zd, Ze, Zf, Zg, Zh, Zi, Zj, Zk, Zl, Zm, Zn, Zo, Zp, Zq, Zr] at h1
  refine (J_reg [] (.cons (.no) _ _ (op_move (Lk.t rfl)) <| .cons (.no) _ _ (op_negf (Lk.t rfl)) <| .cons (.no) _ _ (op_assign (Lk.t rfl)) <| .nil) ff rfl fun g3 => ⟨_, _, [], rfl, (.cons 0 rfl <| .nil), (.nil), ?_⟩)
  refine JN_then ?_
  refine J_seq (J_reg [] (.cons (.no) _ _ (op_move (Lk.t rfl)) <| .cons (.no) _ _ (op_float (by simp) (Lk.t rfl) (Lk.fk rfl (by decide +kernel)) rfl) <| .cons (.no) _ _ (op_assign (Lk.t rfl)) <| .nil) ff rfl fun g4 => ⟨_, _, [], rfl, (.cons 4 rfl <| .nil), (.nil), ?_⟩)
  refine JN_then ?_
  refine J_ret ?_
  refine JN_ret (.cons (.tmp (Lk.t rfl)) <| .nil) (sb_trans (sb_res1 sb_refl) ?_)
  exact ret_f (flip_1 h1').symm
 ·have h1' := h1
  try simp only [cmpB, Za, Zb, Zc, Zd, Ze, Zf, Zg, Zh, Zi, Zj, Zk, Zl, Zm, Zn, Zo, Zp, Zq, Zr] at h1
  refine J_skip ?_
  refine JN_then ?_
  refine J_seq (J_reg [] (.cons (.no) _ _ (op_move (Lk.t rfl)) <| .cons (.no) _ _ (op_float (by simp) (Lk.t rfl) (Lk.fk rfl (by decide +kernel)) rfl) <| .cons (.no) _ _ (op_assign (Lk.t rfl)) <| .nil) ff rfl fun g5 => ⟨_, _, [], rfl, (.cons 4 rfl <| .nil), (.nil), ?_⟩)
  refine JN_then ?_
  refine J_ret ?_
  refine JN_ret (.cons (.tmp (Lk.t rfl)) <| .nil) (sb_trans (sb_res1 sb_refl) ?_)
  exact ret_f (flip_0 h1').symm
theorem colsF_ok {r c : Int} {xs : List Nat} (hg : Good r c xs) : CtF Try.prog 32 [MatP r c xs] (id) (fun u => isv u) (fun u => rowsR u (colsL r c xs) 27 35) := by
 refine CtF.of Try.func32 rfl (by kernel_rfl) rfl fun c0 => ?_
 obtain ⟨hs1, hs2, hs3, hs4⟩ := hg.1
 have hl := hg.2
 refine J_to (To.emps 1) ?_
 refine J_seq (J_reg [] (.cons (.wr 0) _ _ (op_box 0 (Lk.t rfl) co_agg rfl) <| .cons (.no) _ _ (op_assign (Lk.k rfl)) <| .nil) ff rfl fun g1 => ⟨_, _, [0], rfl, (.cons 1 rfl <| .nil), (.cons 0 rfl <| .nil), ?_⟩)
 refine JN_then ?_
 refine J_to (To.emps 1) ?_
 refine J_seq (J_reg [] (.cons (.no) _ _ (op_field_own fd29_1 (Lk.t rfl) rfl) <| .cons (.rd 0) _ _ (op_get_sc 0 sc3 (Lk.t rfl) rfl mem_blk rfl) <| .cons (.wr 1) _ _ (op_make_m (mk := isv) (.slice none 0 0) 1 sl65 zr27 rfl (fun _ => ⟨rfl, rfl⟩) (Lk.t rfl) (Lk.t rfl) (by omega) (by omega) (by omega) (by omega) rfl) <| .cons (.no) _ _ (op_assign_ve rfl rfl) <| .nil) ff rfl fun g2 => ⟨_, _, [0, 1], rfl, (.cons 1 rfl <| .cons 3 rfl <| .nil), (.cons 0 rfl <| .cons 1 rfl <| .nil), ?_⟩)
 refine JN_then ?_
 refine J_seq ?_
 refine J_to (To.emps 1) ?_
 refine J_to (To.res 2 (r' := pool 0 (fun _ => Go.Bn.emp)) rfl pool_nil rfl) ?_
 refine J_seq (J_reg [] (.cons (.no) _ _ (op_field_own fd29_1 (Lk.t rfl) rfl) <| .cons (.rd 0) _ _ (op_get_sc 0 sc3 (Lk.t rfl) rfl mem_blk rfl) <| .cons (.no) _ _ (op_move (Lk.k rfl)) <| .nil) ff rfl fun g3 => ⟨_, _, [0, 1, 2], rfl, (.cons 1 rfl <| .cons 3 rfl <| .cons 10 rfl <| .cons 11 rfl <| .nil), (.cons 0 rfl <| .cons 1 rfl <| .cons 2 rfl <| .nil), ?_⟩)
 refine JN_then ?_
 refine J_block ?_
 refine J_loopc (α := Nat × List Value) (fun x => x.1 ≤ c.toNat ∧ x.2.length = c.toNat ∧ ∀ j, x.1 ≤ j → x.2.getD j NILV = NILV) (fun x => c.toNat - x.1) (fun x restR => (11, isv (.int .i64 (x.1 : Int))) :: restR) (fun x restS => som (g2 8) isv x.2 27 :: pool x.1 (fun j => som (x.2.getD j NILV) flp (colX r c xs j) 35) :: restS) (ρc := [(1, _), (3, _), (10, _)]) (σc := [_]) (0, List.replicate c.toNat NILV) (by exact ⟨Nat.zero_le _, by simp, fun j _ => by simp [List.getD, List.getElem?_replicate]; split <;> rfl⟩) (To.pick (fun _ => .sub (t := 11) rfl (sp_eq (by rfl)) <| .cons 1 rfl <| .cons 3 rfl <| .cons 10 rfl <| .nil) (fun _ => .sub 1 rfl ((fun _ _ h => h)) <| .sub 2 rfl ((pool_congr fun j hj => absurd hj (Nat.not_lt_zero j))) <| .cons 0 rfl <| .nil) (ks := [1, 2, 0]) rfl) (fun x hI => ?_)
 obtain ⟨i, vs⟩ := x
 try simp only at hI
 show J _ _ ((11, isv (.int .i64 (i : Int))) :: _) (som (g2 8) isv vs 27 :: pool i (fun j => som (vs.getD j NILV) flp (colX r c xs j) 35) :: _) _ _
 have hvl := hI.2.1
 refine J_seq (J_reg [] (.cons (.no) _ _ (op_cmp (by simp) (Lk.t rfl) (Lk.t rfl) rfl) <| .nil) ff rfl fun g4 => ⟨_, _, [0, 1, 2], rfl, (.cons 1 rfl <| .cons 3 rfl <| .cons 10 rfl <| .cons 11 rfl <| .cons 12 rfl <| .nil), (.cons 0 rfl <| .cons 1 rfl <| .cons 2 rfl <| .nil), ?_⟩)
 refine JN_then ?_
 refine J_seq ?_
 refine J_cond (cond_of (Lk.t rfl)) (fun h1 => ?_) (fun h1 => ?_)
 ·have h1' := h1
  try simp only [cmpB, Za, Zb, Zc, Zd, Ze, Zf, Zg, Zh, Zi, Zj, Zk, Zl, Zm, Zn, Zo, Zp, Zq, Zr] at h1
  refine J_skip ?_
  refine JN_then ?_
  refine J_seq ?_
  refine J_block ?_
  refine J_seq (J_reg [] (.cons (.no) _ _ (op_move (Lk.t rfl)) <| .cons (.no) _ _ (op_assign (Lk.t rfl)) <| .nil) ff rfl fun g5 => ⟨_, _, [0, 1, 2], rfl, (.cons 1 rfl <| .cons 3 rfl <| .cons 4 rfl <| .cons 10 rfl <| .cons 11 rfl <| .nil), (.cons 0 rfl <| .cons 1 rfl <| .cons 2 rfl <| .nil), ?_⟩)
  refine JN_then ?_
  refine J_to (To.emps 1) ?_
  refine J_to (To.res 3 (r' := som (.slice none 0 0) flp [] 35) rfl som_nil rfl) ?_
  refine J_seq (J_reg [] (.cons (.no) _ _ (op_field_own fd29_0 (Lk.t rfl) rfl) <| .cons (.rd 2) _ _ (op_get_sc 2 sc3 (Lk.t rfl) rfl mem_blk rfl) <| .cons (.no) _ _ (op_move (Lk.k rfl)) <| .nil) ff rfl fun g6 => ⟨_, _, [0, 1, 2, 3], rfl, (.cons 1 rfl <| .cons 3 rfl <| .cons 4 rfl <| .cons 10 rfl <| .cons 11 rfl <| .cons 15 rfl <| .cons 16 rfl <| .nil), (.cons 0 rfl <| .cons 1 rfl <| .cons 2 rfl <| .cons 3 rfl <| .nil), ?_⟩)
  refine JN_then ?_
  refine J_block ?_
  refine J_loopc (α := Nat × Value) (fun y => y.1 ≤ r.toNat) (fun y => r.toNat - y.1) (fun y restR => (16, isv (.int .i64 (y.1 : Int))) :: restR) (fun y restS => som (g2 8) isv (vs.set i y.2) 27 :: som y.2 flp ((colL r c xs (i : Int)).take y.1) 35 :: restS) (ρc := [(1, _), (3, _), (4, _), (10, _), (11, _), (15, _)]) (σc := [_, _]) (0, NILV) (by exact Nat.zero_le _) (To.pick (fun _ => .sub (t := 16) rfl (sp_eq (by rfl)) <| .cons 1 rfl <| .cons 3 rfl <| .cons 4 rfl <| .cons 10 rfl <| .cons 11 rfl <| .cons 15 rfl <| .nil) (fun _ => .sub 0 rfl ((res_eq (by rw [vset_same (hI.2.2 i (Nat.le_refl _)) (by omega)]))) <| .sub 3 rfl ((res_eq (by rw [List.take_zero]))) <| .cons 1 rfl <| .cons 2 rfl <| .nil) (ks := [0, 3, 1, 2]) rfl) (fun y hJ => ?_)
  obtain ⟨k, sv⟩ := y
  try simp only at hJ
  show J _ _ ((16, isv (.int .i64 (k : Int))) :: _) (som (g2 8) isv (vs.set i sv) 27 :: som sv flp ((colL r c xs (i : Int)).take k) 35 :: _) _ _
  have hsl : (vs.set i sv).length = c.toNat := by rw [List.length_set]; exact hvl
  refine J_seq (J_reg [] (.cons (.no) _ _ (op_cmp (by simp) (Lk.t rfl) (Lk.t rfl) rfl) <| .nil) ff rfl fun g7 => ⟨_, _, [0, 1, 2, 3], rfl, (.cons 1 rfl <| .cons 3 rfl <| .cons 4 rfl <| .cons 10 rfl <| .cons 11 rfl <| .cons 15 rfl <| .cons 16 rfl <| .cons 17 rfl <| .nil), (.cons 0 rfl <| .cons 1 rfl <| .cons 2 rfl <| .cons 3 rfl <| .nil), ?_⟩)
  refine JN_then ?_
  refine J_seq ?_
  refine J_cond (cond_of (Lk.t rfl)) (fun h2 => ?_) (fun h2 => ?_)
  ·have h2' := h2
   try simp only [cmpB, Za, Zb, Zc, Zd, Ze, Zf, Zg, Zh, Zi, Zj, Zk, Zl, Zm, Zn, Zo, Zp, Zq, Zr] at h2
   have hpx := (show Pl r c (k : Int) (i : Int) from ⟨by omega, by omega, by omega, by omega⟩).rng hg.1
   have hkl : ((colL r c xs (i : Int)).take k).length ≤ 12 := by rw [List.length_take, length_colL]; omega
   refine J_skip ?_
   refine JN_then ?_
   refine J_seq ?_
   refine J_block ?_
   refine J_seq (J_reg [] (.cons (.no) _ _ (op_move (Lk.t rfl)) <| .cons (.no) _ _ (op_assign (Lk.t rfl)) <| .nil) ff rfl fun g8 => ⟨_, _, [0, 1, 2, 3], rfl, (.cons 1 rfl <| .cons 3 rfl <| .cons 4 rfl <| .cons 5 rfl <| .cons 10 rfl <| .cons 11 rfl <| .cons 15 rfl <| .cons 16 rfl <| .nil), (.cons 0 rfl <| .cons 1 rfl <| .cons 2 rfl <| .cons 3 rfl <| .nil), ?_⟩)
   refine JN_then ?_
   refine (J_reg [[], [], [], [], [2, 3], [2, 3, 4], [], [6], [], [], [9], [8, 9, 10], [], [8, 9, 10, 11, 12], [6, 7, 8, 9, 10, 11, 12, 13], [6, 7, 8, 9, 10, 11, 12, 13, 14], [6, 7, 8, 9, 10, 11, 12, 13, 14, 15], [2, 3, 4, 5, 6, 7, 8, 9, 10, 11, 12, 13, 14, 15, 16], [0, 1, 2, 3, 4, 5, 6, 7, 8, 9, 10, 11, 12, 13, 14, 15, 16, 17], [0, 1, 2, 3, 4, 5, 6, 7, 8, 9, 10, 11, 12, 13, 14, 15, 16, 17, 18]] (.cons (.no) _ _ (op_move (Lk.t rfl)) <| .cons (.no) _ _ (op_move (Lk.t rfl)) <| .cons (.no) _ _ (op_move (Lk.t rfl)) <| .cons (.no) _ _ (op_move (Lk.t rfl)) <| .cons (.rd 0) _ _ (op_index_som 0 sl65 (Lk.t rfl) (Lk.t rfl) rfl (by omega) (by omega)) <| .cons (.rd 0) _ _ ((op_get_som (mk := isv) (.slice none 0 0) 0 sc27 (Lk.t rfl) rfl (by rw [List.length_set]; omega)).sub rfl (isv_eq (by exact vset_at (by omega)))) <| .cons (.no) _ _ (op_field_own fd29_2 (Lk.t rfl) rfl) <| .cons (.rd 3) _ _ (op_get_sc 3 sc27 (Lk.t rfl) rfl mem_blk rfl) <| .cons (.no) _ _ (op_move (Lk.t rfl)) <| .cons (.no) _ _ (op_field_own fd29_1 (Lk.t rfl) rfl) <| .cons (.rd 3) _ _ (op_get_sc 3 sc3 (Lk.t rfl) rfl mem_blk rfl) <| .cons (.no) _ _ (op_mul (Lk.t rfl) (Lk.t rfl) (wrap_id (by omega) (by omega))) <| .cons (.no) _ _ (op_move (Lk.t rfl)) <| .cons (.no) _ _ (op_add (Lk.t rfl) (Lk.t rfl) (wrap_id (by omega) (by omega))) <| .cons (.no) _ _ (op_index_m 0 sl27 (Lk.t rfl) (Lk.t rfl) (by omega) (by omega)) <| .cons (.no) _ _ (op_load_sc sc35 (Lk.t rfl) rfl) <| .cons (.no) _ _ (op_buildSlice sl27 zr35 rfl rfl rfl rfl (.cons rfl (Lk.t rfl) co_flp rfl (puts_l rfl (Nat.le_of_ble_eq_true rfl)) .nil)) <| .cons (.wr 1) _ _ (op_append_m 1 sl27 zr35 rfl (Lk.t rfl) (Lk.t rfl) rfl (by omega) (by omega)) <| .cons (.rd 0) _ _ (op_index_som 0 sl65 (Lk.t rfl) (Lk.t rfl) rfl (by omega) (by omega)) <| .cons (.wr 0) _ _ (op_ver 36 rfl rfl (fun f => op_store_som (mk := isv) 0 (Lk.t rfl) (Lk.t rfl) co_isv sz27 rfl (by rw [List.length_set]; omega)) (fun f g h => by rw [h 36 (show 36 ∈ [36] from by decide)]) rfl) <| .nil) (fun _ => mixed) rfl fun g9 => ⟨_, _, [0, 1, 2, 3], rfl, (.cons 1 rfl <| .cons 3 rfl <| .cons 4 rfl <| .cons 10 rfl <| .cons 11 rfl <| .cons 15 rfl <| .cons 16 rfl <| .nil), (.cons 0 rfl <| .cons 1 rfl <| .cons 2 rfl <| .cons 3 rfl <| .nil), ?_⟩)
   refine JN_block ?_
   refine JN_then ?_
   refine (J_reg [] (.cons (.no) _ _ (op_add (Lk.t rfl) (Lk.k rfl) (wrap_id (by omega) (by omega))) <| .cons (.no) _ _ (op_move (Lk.t rfl)) <| .nil) ff rfl fun g10 => ⟨_, _, [0, 1, 2, 3], rfl, (.cons 1 rfl <| .cons 3 rfl <| .cons 4 rfl <| .cons 10 rfl <| .cons 11 rfl <| .cons 15 rfl <| .cons 16 rfl <| .nil), (.cons 0 rfl <| .cons 1 rfl <| .cons 2 rfl <| .cons 3 rfl <| .nil), ?_⟩)
   exact JN_again (k + 1, (g9 36)) (by exact (show k + 1 ≤ _ by omega)) (by show r.toNat - (_ + 1) < _; omega) (To.pick (fun _ => .sub (t := 16) rfl (sp_eq (by rfl)) <| .cons 1 rfl <| .cons 3 rfl <| .cons 4 rfl <| .cons 10 rfl <| .cons 11 rfl <| .cons 15 rfl <| .nil) (fun _ => .sub 0 rfl ((res_eq (by show som _ isv ((vs.set i sv).set i _) _ = som _ isv (vs.set i _) _; rw [List.set_set]))) <| .sub 1 rfl ((res_eq (by rw [take_colL (by omega)]; rfl))) <| .cons 2 rfl <| .cons 3 rfl <| .nil) (ks := [0, 1, 2, 3]) rfl)
  ·have h2' := h2
   try simp only [cmpB, Za, Zb, Zc, Zd, Ze, Zf, Zg, Zh, Zi, Zj, Zk, Zl, Zm, Zn, Zo, Zp, Zq, Zr] at h2
   refine J_exit ?_
   refine JN_then_exit ?_
   refine JN_then_exit ?_
   refine JN_exit_here ?_
   refine JN_block ?_
   refine JN_then ?_
   refine J_to (To.res 1 (r' := som sv flp (colX r c xs i) 35) rfl (res_eq (by rw [List.take_of_length_le (by rw [length_colL]; omega)]; rfl)) rfl) ?_
   refine J_to (To.push 2 1 rfl rfl rfl rfl) ?_
   refine (J_reg [] (.cons (.no) _ _ (op_add (Lk.t rfl) (Lk.k rfl) (wrap_id (by omega) (by omega))) <| .cons (.no) _ _ (op_move (Lk.t rfl)) <| .nil) ff rfl fun g11 => ⟨_, _, [0, 2, 3], rfl, (.cons 1 rfl <| .cons 3 rfl <| .cons 10 rfl <| .cons 11 rfl <| .nil), (.cons 0 rfl <| .cons 2 rfl <| .cons 3 rfl <| .nil), ?_⟩)
   exact JN_again (i + 1, vs.set i sv) (by exact ⟨show i + 1 ≤ _ by omega, by rw [List.length_set]; exact hI.2.1, fun j hj => by rw [vset_ne (show i ≠ j by have : i + 1 ≤ j := hj; omega)]; exact hI.2.2 j (by have : i + 1 ≤ j := hj; omega)⟩) (by show c.toNat - (_ + 1) < _; omega) (To.pick (fun _ => .sub (t := 11) rfl (sp_eq (by rfl)) <| .cons 1 rfl <| .cons 3 rfl <| .cons 10 rfl <| .nil) (fun _ => .sub 0 rfl ((fun _ _ h => h)) <| .sub 1 rfl ((cols_push (by omega))) <| .cons 2 rfl <| .nil) (ks := [0, 1, 2]) rfl)
 ·have h1' := h1
  try simp only [cmpB, Za, Zb, Zc, Zd, Ze, Zf, Zg, Zh, Zi, Zj, Zk, Zl, Zm, Zn, Zo, Zp, Zq, Zr] at h1
  refine J_exit ?_
  refine JN_then_exit ?_
  refine JN_then_exit ?_
  refine JN_exit_here ?_
  refine JN_then ?_
  refine J_seq (J_reg [] (.cons (.no) _ _ (op_move (Lk.t rfl)) <| .cons (.no) _ _ (op_assign (Lk.t rfl)) <| .nil) ff rfl fun g12 => ⟨_, _, [0, 1], rfl, (.cons 2 rfl <| .nil), (.cons 0 rfl <| .cons 1 rfl <| .nil), ?_⟩)
  refine JN_then ?_
  refine J_ret ?_
  refine JN_to (To.join 0 1 rfl rfl rfl rfl) ?_
  refine JN_to (To.res 0 (r' := rowsR (g2 8) (colsL r c xs) 27 35) rfl (cols_done (by omega) (by omega)) rfl) ?_
  refine JN_retF (u := (g2 8)) 0 rfl rfl (.tmp (Lk.t rfl)) (fun _ _ h => h.1) ?_
  exact sb_refl
end Go.Proofs.Ytllkellonjhalaa
