/- Printed by a program of ours (walk.py): walks of what the reference splits with. -/
import Derived.Test.YtllkellonjhalaaGreatSpKb
import Derived.Test.YtllkellonjhalaaGreatProg
import Derived.KernelRfl
import Derived.Test.YtllkellonjhalaaGreatSpTypes
import Derived.Test.YtllkellonjhalaaGreatSpWQr2
import Derived.Test.YtllkellonjhalaaGreatSpQre
set_option linter.unusedVariables false
set_option linter.unusedSimpArgs false
set_option maxRecDepth 20000
set_option maxHeartbeats 1000000
namespace Go.Proofs.YtllkellonjhalaaGreat
open Go Go.Bn
attribute [local irreducible] OpOK
theorem rcolF_ok {r c j : Int} {xs : List Nat} (hg : Good r c xs) (i0 : 0 ≤ j) (i1 : j < c) : CtF Tryz.prog 60 [MatP r c xs, isv (.int .i64 j)] (id) (fun u => isv u) (fun u => som u flp (colL r c xs j) 36) := by
 refine CtF.of Tryz.func60 rfl (by kernel_rfl) rfl fun c0 => ?_
 obtain ⟨hs1, hs2, hs3, hs4⟩ := hg.1
 refine J_to (To.emps 1) ?_
 refine J_seq (J_reg [] (.cons (.wr 0) _ _ (op_box 0 (Lk.t rfl) co_agg rfl) <| .cons (.no) _ _ (op_assign (Lk.k rfl)) <| .nil) ff rfl fun g1 => ⟨_, _, [0], rfl, (.cons 1 rfl <| .cons 2 rfl <| .nil), (.cons 0 rfl <| .nil), ?_⟩)
 refine JN_then ?_
 refine J_seq (J_reg [] (.cons (.no) _ _ (op_assign (Lk.k rfl)) <| .nil) ff rfl fun g2 => ⟨_, _, [0], rfl, (.cons 1 rfl <| .cons 2 rfl <| .cons 5 rfl <| .nil), (.cons 0 rfl <| .nil), ?_⟩)
 refine JN_then ?_
 refine J_seq ?_
 refine J_seq (J_reg [] (.cons (.no) _ _ (op_assign (Lk.k rfl)) <| .nil) ff rfl fun g3 => ⟨_, _, [0], rfl, (.cons 1 rfl <| .cons 2 rfl <| .cons 5 rfl <| .cons 6 rfl <| .nil), (.cons 0 rfl <| .nil), ?_⟩)
 refine JN_then ?_
 refine J_block ?_
 refine J_to (To.emps 1) ?_
 refine J_loopc (α := Nat × Value) (fun x => x.1 ≤ r.toNat) (fun x => r.toNat - x.1) (fun x restR => (6, isv (.int .i64 (x.1 : Int))) :: (5, isv x.2) :: restR) (fun x restS => som x.2 flp ((colL r c xs j).take x.1) 36 :: restS) (ρc := [(1, _), (2, _)]) (σc := [_]) (0, .slice none 0 0) (by exact Nat.zero_le _) (To.pick (fun _ => .sub (t := 6) rfl (sp_eq (by rfl)) <| .sub (t := 5) rfl (sp_eq (by rfl)) <| .cons 1 rfl <| .cons 2 rfl <| .nil) (fun _ => .sub 1 rfl (som_nil) <| .cons 0 rfl <| .nil) (ks := [1, 0]) rfl) (fun x hI => ?_)
 obtain ⟨k, sv⟩ := x
 try simp only at hI
 show J _ _ ((6, isv (.int .i64 (k : Int))) :: (5, isv sv) :: _) (som sv flp ((colL r c xs j).take k) 36 :: _) _ _
 refine J_seq ?_
 refine J_seq (J_reg [] (.cons (.no) _ _ (op_move (Lk.t rfl)) <| .cons (.no) _ _ (op_field_own fd28_0 (Lk.t rfl) rfl) <| .cons (.rd 1) _ _ (op_get_sc 1 sc3 (Lk.t rfl) rfl mem_blk rfl) <| .cons (.no) _ _ (op_cmp (by simp) (Lk.t rfl) (Lk.t rfl) rfl) <| .nil) ff rfl fun g4 => ⟨_, _, [0, 1], rfl, (.cons 1 rfl <| .cons 2 rfl <| .cons 5 rfl <| .cons 6 rfl <| .cons 10 rfl <| .nil), (.cons 0 rfl <| .cons 1 rfl <| .nil), ?_⟩)
 refine JN_then ?_
 refine J_cond (cond_of (Lk.t rfl)) (fun h1 => ?_) (fun h1 => ?_)
 ·have h1' := h1
  try simp only [cmpB, Za, Zb, Zc, Zd, Ze, Zf, Zg, Zh, Zi, Zj, Zk, Zl, Zm, Zn, Zo, Zp, Zq, Zr] at h1
  refine J_skip ?_
  refine JN_then ?_
  refine J_seq ?_
  refine J_block ?_
  refine (J_reg [] (.cons (.no) _ _ (op_move (Lk.t rfl)) <| .cons (.rd 1) _ _ (op_get_ag 1 ag28 (Lk.t rfl) rfl mem_blk rfl rfl) <| .cons (.no) _ _ (op_move (Lk.t rfl)) <| .cons (.no) _ _ (op_move (Lk.t rfl)) <| .cons (.no) _ _ (op_call (rat_ok hg ⟨by omega, by omega, i0, i1⟩) ⟨(Lk.t rfl), (Lk.t rfl), (Lk.t rfl),  trivial⟩) <| .cons (.no) _ _ (op_buildSlice sl26 zr36 rfl rfl rfl rfl (.cons rfl (Lk.t rfl) co_flp rfl (puts_l rfl (Nat.le_of_ble_eq_true rfl)) .nil)) <| .cons (.wr 0) _ _ (op_append_m 0 sl26 zr36 rfl (Lk.t rfl) (Lk.t rfl) rfl (by rw [List.length_take, length_colL]; omega) (by rw [List.length_take, length_colL]; omega)) <| .cons (.no) _ _ (op_assign_ve rfl rfl) <| .nil) ff rfl fun g5 => ⟨_, _, [0, 1], rfl, (.cons 1 rfl <| .cons 2 rfl <| .cons 5 rfl <| .cons 6 rfl <| .nil), (.cons 0 rfl <| .cons 1 rfl <| .nil), ?_⟩)
  refine JN_block ?_
  refine JN_then ?_
  refine (J_reg [] (.cons (.no) _ _ (op_move (Lk.t rfl)) <| .cons (.no) _ _ (op_add (Lk.t rfl) (Lk.k rfl) (wrap_id (by omega) (by omega))) <| .cons (.no) _ _ (op_assign (Lk.t rfl)) <| .nil) ff rfl fun g6 => ⟨_, _, [0, 1], rfl, (.cons 1 rfl <| .cons 2 rfl <| .cons 5 rfl <| .cons 6 rfl <| .nil), (.cons 0 rfl <| .cons 1 rfl <| .nil), ?_⟩)
  exact JN_again (k + 1, g5 19) (by exact (show k + 1 ≤ r.toNat by omega)) (by show r.toNat - (_ + 1) < _; omega) (To.pick (fun _ => .sub (t := 6) rfl (sp_eq (by rfl)) <| .sub (t := 5) rfl (sp_eq (by rfl)) <| .cons 1 rfl <| .cons 2 rfl <| .nil) (fun _ => .sub 0 rfl ((res_eq (by rw [show (colL r c xs j).take (k + 1) = (colL r c xs j).take k ++ [mat c xs k j] from take_colL (by omega)]))) <| .cons 1 rfl <| .nil) (ks := [0, 1]) rfl)
 ·have h1' := h1
  try simp only [cmpB, Za, Zb, Zc, Zd, Ze, Zf, Zg, Zh, Zi, Zj, Zk, Zl, Zm, Zn, Zo, Zp, Zq, Zr] at h1
  refine J_exit ?_
  refine JN_then_exit ?_
  refine JN_then_exit ?_
  refine JN_exit_here ?_
  refine JN_then ?_
  refine J_seq (J_reg [] (.cons (.no) _ _ (op_move (Lk.t rfl)) <| .cons (.no) _ _ (op_assign (Lk.t rfl)) <| .nil) ff rfl fun g7 => ⟨_, _, [0], rfl, (.cons 4 rfl <| .nil), (.cons 0 rfl <| .nil), ?_⟩)
  refine JN_then ?_
  refine J_ret ?_
  refine JN_to (To.res 0 (r' := som sv flp (colL r c xs j) 36) rfl (res_eq (by rw [List.take_of_length_le (by rw [length_colL]; omega)])) rfl) ?_
  refine JN_retF (u := sv) 0 rfl rfl (.tmp (Lk.t rfl)) (fun _ _ h => h.1) ?_
  exact sb_refl
theorem rmirdF_ok {a v : List Nat} {w : Nat} (hl : a.length ≤ v.length) (h9 : a.length ≤ 1000) : CtF Tryz.prog 45 [fls a, fls v, flp w] (id) (fun u => isv u) (fun u => som u flp (mirG v (fdiv (dotL a v) w) a) 36) := by
 refine CtF.of Tryz.func45 rfl (by kernel_rfl) rfl fun c0 => ?_
 have hml := length_mirG v (fdiv (dotL a v) w) a
 refine J_seq (J_reg [] (.cons (.no) _ _ (op_assign (Lk.k rfl)) <| .nil) ff rfl fun g1 => ⟨_, _, [], rfl, (.cons 0 rfl <| .cons 1 rfl <| .cons 2 rfl <| .nil), (.nil), ?_⟩)
 refine JN_then ?_
 refine J_seq (J_reg [] (.cons (.no) _ _ (op_move (Lk.t rfl)) <| .cons (.no) _ _ (op_move (Lk.t rfl)) <| .cons (.no) _ _ (op_call (rdot_ok hl) ⟨(Lk.t rfl), (Lk.t rfl),  trivial⟩) <| .cons (.no) _ _ (op_move (Lk.t rfl)) <| .cons (.no) _ _ (op_float (by simp) (Lk.t rfl) (Lk.t rfl) rfl) <| .cons (.no) _ _ (op_assign (Lk.t rfl)) <| .nil) ff rfl fun g2 => ⟨_, _, [], rfl, (.cons 0 rfl <| .cons 1 rfl <| .cons 7 rfl <| .nil), (.nil), ?_⟩)
 refine JN_then ?_
 refine J_seq (J_reg [] (.cons (.no) _ _ (op_assign (Lk.k rfl)) <| .nil) ff rfl fun g3 => ⟨_, _, [], rfl, (.cons 0 rfl <| .cons 1 rfl <| .cons 7 rfl <| .cons 8 rfl <| .nil), (.nil), ?_⟩)
 refine JN_then ?_
 refine J_seq ?_
 refine J_seq (J_reg [] (.cons (.no) _ _ (op_assign (Lk.k rfl)) <| .nil) ff rfl fun g4 => ⟨_, _, [], rfl, (.cons 0 rfl <| .cons 1 rfl <| .cons 7 rfl <| .cons 8 rfl <| .cons 9 rfl <| .nil), (.nil), ?_⟩)
 refine JN_then ?_
 refine J_block ?_
 refine J_to (To.emps 1) ?_
 refine J_loopc (α := Nat × Value) (fun x => x.1 ≤ a.length) (fun x => a.length - x.1) (fun x restR => (9, isv (.int .i64 (x.1 : Int))) :: (8, isv x.2) :: restR) (fun x restS => som x.2 flp ((mirG v (fdiv (dotL a v) w) a).take x.1) 36 :: restS) (ρc := [(0, _), (1, _), (7, _)]) (σc := []) (0, .slice none 0 0) (by exact Nat.zero_le _) (To.pick (fun _ => .sub (t := 9) rfl (sp_eq (by rfl)) <| .sub (t := 8) rfl (sp_eq (by rfl)) <| .cons 0 rfl <| .cons 1 rfl <| .cons 7 rfl <| .nil) (fun _ => .sub 0 rfl (som_nil) <| .nil) (ks := [0]) rfl) (fun x hI => ?_)
 obtain ⟨j, sv⟩ := x
 try simp only at hI
 show J _ _ ((9, isv (.int .i64 (j : Int))) :: (8, isv sv) :: _) (som sv flp ((mirG v (fdiv (dotL a v) w) a).take j) 36 :: _) _ _
 have hjl : ((mirG v (fdiv (dotL a v) w) a).take j).length ≤ 1000 := by rw [List.length_take, hml]; omega
 refine J_seq ?_
 refine J_seq (J_reg [] (.cons (.no) _ _ (op_move (Lk.t rfl)) <| .cons (.no) _ _ (op_move (Lk.t rfl)) <| .cons (.no) _ _ (op_len_m sl26 (Lk.t rfl)) <| .cons (.no) _ _ (op_cmp (by simp) (Lk.t rfl) (Lk.t rfl) rfl) <| .nil) ff rfl fun g5 => ⟨_, _, [0], rfl, (.cons 0 rfl <| .cons 1 rfl <| .cons 7 rfl <| .cons 8 rfl <| .cons 9 rfl <| .cons 18 rfl <| .nil), (.cons 0 rfl <| .nil), ?_⟩)
 refine JN_then ?_
 refine J_cond (cond_of (Lk.t rfl)) (fun h1 => ?_) (fun h1 => ?_)
 ·have h1' := h1
  try simp only [cmpB, Za, Zb, Zc, Zd, Ze, Zf, Zg, Zh, Zi, Zj, Zk, Zl, Zm, Zn, Zo, Zp, Zq, Zr] at h1
  refine J_skip ?_
  refine JN_then ?_
  refine J_seq ?_
  refine J_block ?_
  refine (J_reg [[], [], [], [1, 2], [1, 2, 3], [], [], [], [6, 7], [6, 7, 8], [5, 6, 7, 8, 9], [1, 2, 3, 4, 5, 6, 7, 8, 9, 10], [1, 2, 3, 4, 5, 6, 7, 8, 9, 10, 11], [0, 1, 2, 3, 4, 5, 6, 7, 8, 9, 10, 11, 12], [0, 1, 2, 3, 4, 5, 6, 7, 8, 9, 10, 11, 12, 13]] (.cons (.no) _ _ (op_move (Lk.t rfl)) <| .cons (.no) _ _ (op_move (Lk.t rfl)) <| .cons (.no) _ _ (op_move (Lk.t rfl)) <| .cons (.no) _ _ (op_index_m 0 sl26 (Lk.t rfl) (Lk.t rfl) (by omega) (by omega)) <| .cons (.no) _ _ (op_load_sc sc36 (Lk.t rfl) rfl) <| .cons (.no) _ _ (op_move (Lk.t rfl)) <| .cons (.no) _ _ (op_move (Lk.t rfl)) <| .cons (.no) _ _ (op_move (Lk.t rfl)) <| .cons (.no) _ _ (op_index_m 0 sl26 (Lk.t rfl) (Lk.t rfl) (by omega) (by omega)) <| .cons (.no) _ _ (op_load_sc sc36 (Lk.t rfl) rfl) <| .cons (.no) _ _ (op_float (by simp) (Lk.t rfl) (Lk.t rfl) rfl) <| .cons (.no) _ _ (op_float (by simp) (Lk.t rfl) (Lk.t rfl) rfl) <| .cons (.no) _ _ (op_buildSlice sl26 zr36 rfl rfl rfl rfl (.cons rfl (Lk.t rfl) co_flp rfl (puts_l rfl (Nat.le_of_ble_eq_true rfl)) .nil)) <| .cons (.wr 0) _ _ (op_append_m 0 sl26 zr36 rfl (Lk.t rfl) (Lk.t rfl) rfl (by simp; omega) (by simp; omega)) <| .cons (.no) _ _ (op_assign_ve rfl rfl) <| .nil) (fun _ => mixed) rfl fun g6 => ⟨_, _, [0], rfl, (.cons 0 rfl <| .cons 1 rfl <| .cons 7 rfl <| .cons 8 rfl <| .cons 9 rfl <| .nil), (.cons 0 rfl <| .nil), ?_⟩)
  refine JN_block ?_
  refine JN_then ?_
  refine (J_reg [] (.cons (.no) _ _ (op_move (Lk.t rfl)) <| .cons (.no) _ _ (op_add (Lk.t rfl) (Lk.k rfl) (wrap_id (by omega) (by omega))) <| .cons (.no) _ _ (op_assign (Lk.t rfl)) <| .nil) ff rfl fun g7 => ⟨_, _, [0], rfl, (.cons 0 rfl <| .cons 1 rfl <| .cons 7 rfl <| .cons 8 rfl <| .cons 9 rfl <| .nil), (.cons 0 rfl <| .nil), ?_⟩)
  exact JN_again (j + 1, g6 34) (by exact (show j + 1 ≤ a.length by omega)) (by show a.length - (_ + 1) < _; omega) (To.pick (fun _ => .sub (t := 9) rfl (sp_eq (by rfl)) <| .sub (t := 8) rfl (sp_eq (by rfl)) <| .cons 0 rfl <| .cons 1 rfl <| .cons 7 rfl <| .nil) (fun _ => .sub 0 rfl ((res_eq (by rw [mirG_take (by omega)]; rfl))) <| .nil) (ks := [0]) rfl)
 ·have h1' := h1
  try simp only [cmpB, Za, Zb, Zc, Zd, Ze, Zf, Zg, Zh, Zi, Zj, Zk, Zl, Zm, Zn, Zo, Zp, Zq, Zr] at h1
  refine J_exit ?_
  refine JN_then_exit ?_
  refine JN_then_exit ?_
  refine JN_exit_here ?_
  refine JN_then ?_
  refine J_seq (J_reg [] (.cons (.no) _ _ (op_move (Lk.t rfl)) <| .cons (.no) _ _ (op_assign (Lk.t rfl)) <| .nil) ff rfl fun g8 => ⟨_, _, [0], rfl, (.cons 6 rfl <| .nil), (.cons 0 rfl <| .nil), ?_⟩)
  refine JN_then ?_
  refine J_ret ?_
  refine JN_to (To.res 0 (r' := som sv flp (mirG v (fdiv (dotL a v) w) a) 36) rfl (res_eq (by rw [List.take_of_length_le (by rw [hml]; omega)])) rfl) ?_
  refine JN_retF (u := sv) 0 rfl rfl (.tmp (Lk.t rfl)) (fun _ _ h => h.1) ?_
  exact sb_refl
theorem down_ok {m n i q : Nat} {u : Value} {X : Nat → List Nat} {v : List Nat} {w : Nat} (hs0 : Siz (m : Int) (n : Int)) (hq : q < n) (hi : i ≤ m) (hl : (X q).length = m) (hv : v.length = m - i) : CtM Tryz.prog 61 [aggp [isv (.int .i64 (m : Int)), isv (.int .i64 (n : Int)), isv u], isv (.int .i64 (q : Int)), isv (.int .i64 (i : Int)), fls v, flp w] (som u flp (colsM m n X) 36) (anyp) (som u flp (colsM m n (updC X q (dwnL v w i (X q)))) 36) := by
 refine CtM.of Tryz.func61 rfl (by kernel_rfl) rfl (fix_som (by rw [length_colsM, length_colsM])) fun c0 ob hr0 => ?_
 obtain ⟨hs1, hs2, hs3, hs4⟩ := id hs0
 refine J_to (To.emps 1) ?_
 refine J_seq (J_reg [] (.cons (.wr 1) _ _ (op_box 1 (Lk.t rfl) co_agg rfl) <| .nil) ff rfl fun g1 => ⟨_, _, [0, 1], rfl, (.cons 1 rfl <| .cons 2 rfl <| .cons 3 rfl <| .cons 4 rfl <| .cons 5 rfl <| .nil), (.cons 0 rfl <| .cons 1 rfl <| .nil), ?_⟩)
 refine JN_then ?_
 refine J_to (To.emps 1) ?_
 refine J_seq (J_JO ?_)
 refine JO_split 3 rfl ?_
 refine (JO_reg (.cons (.rd 1) _ _ (op_get_ag 1 ag28 (Lk.t rfl) rfl mem_blk rfl rfl) <| .cons (.no) _ _ (op_move (Lk.t rfl)) <| .cons (.wr 0) _ _ (op_callLF 0 (rcolF_ok (r := (m : Int)) (c := (n : Int)) (xs := colsM m n X) (j := (q : Int)) (colsM_good hs0) (by omega) (by omega)) (fun _ => pure_isv _) (fun _ => pure_som pure_flp) ⟨.inr ⟨_, Lk.t rfl, lent_mat⟩, .inl (Lk.t rfl),  trivial⟩ rfl) <| .nil) rfl fun g2 => ⟨_, _, [0, 1], rfl, (.cons 1 rfl <| .cons 2 rfl <| .cons 3 rfl <| .cons 4 rfl <| .cons 5 rfl <| .cons 14 rfl <| .nil), (.cons 0 rfl <| .cons 1 rfl <| .nil), ?_⟩)
 refine JN_to (To.emps 1) ?_
 refine JN_to (To.split 0 2 rfl rfl rfl rfl) ?_
 refine JN_to (To.res 2 (r' := som (g2 14) flp (X q) 36) rfl (res_eq (by rw [colsM_col hq hl]; rfl)) rfl) ?_
 refine JN_to (To.emps 1) ?_
 refine JN_seg ?_
 refine (JO_reg (.cons (.no) _ _ (op_move (Lk.t rfl)) <| .cons (.rd 2) _ _ (op_slice_vsl 2 sl26 (Lk.t rfl) (Lk.t rfl) rfl (by omega) (by omega)) <| .cons (.no) _ _ (op_move (Lk.t rfl)) <| .cons (.no) _ _ (op_move (Lk.t rfl)) <| .cons (.wr 2) _ _ (op_callLF 2 (rmirdF_ok (a := (X q).drop i) (v := v) (w := w) (by rw [List.length_drop]; omega) (by rw [List.length_drop]; omega)) (fun _ => pure_isv _) (fun _ => pure_som pure_flp) ⟨.inr ⟨_, (Lk.t rfl), lent_vsl⟩, .inl (Lk.t rfl), .inl (Lk.t rfl),  trivial⟩ rfl) <| .cons (.no) _ _ (op_assign_ve rfl rfl) <| .nil) rfl fun g3 => ⟨_, _, [0, 1, 2], rfl, (.cons 1 rfl <| .cons 2 rfl <| .cons 5 rfl <| .cons 10 rfl <| .nil), (.cons 0 rfl <| .cons 1 rfl <| .cons 2 rfl <| .nil), ?_⟩)
 refine JN_then ?_
 refine J_to (To.emps 1) ?_
 refine J_to (To.split 2 3 rfl rfl rfl rfl) ?_
 have hml : (mirG v (fdiv (dotL (List.drop ((i : Int)).toNat (X q)) v) w) (List.drop ((i : Int)).toNat (X q))).length = m - i := by rw [length_mirG, List.length_drop, hl]; rfl
 have hml2 : (mirG v (fdiv (dotL (List.drop i (X q)) v) w) (List.drop i (X q))).length = m - i := hml
 refine J_seq (J_reg [] (.cons (.no) _ _ (op_assign (Lk.k rfl)) <| .nil) ff rfl fun g4 => ⟨_, _, [0, 1, 2, 3], rfl, (.cons 1 rfl <| .cons 2 rfl <| .cons 5 rfl <| .cons 10 rfl <| .cons 11 rfl <| .nil), (.cons 0 rfl <| .cons 1 rfl <| .cons 2 rfl <| .cons 3 rfl <| .nil), ?_⟩)
 refine JN_then ?_
 refine J_block ?_
 refine J_loopc (α := Nat) (fun k => k ≤ m - i) (fun k => m - i - k) (fun k restR => (11, isv (.int .i64 (k : Int))) :: restR) (fun k restS => som u flp (colsM m n (updC X q (mirC (X q) i v (dwnT v w i (X q)) k))) 36 :: restS) (ρc := [(1, _), (2, _), (5, _), (10, _)]) (σc := [_, _, _]) 0 (by exact Nat.zero_le _) (To.pick (fun _ => .sub (t := 11) rfl (sp_eq (by rfl)) <| .cons 1 rfl <| .cons 2 rfl <| .cons 5 rfl <| .cons 10 rfl <| .nil) (fun _ => .sub 0 rfl ((res_eq (by rw [← dwn_0]))) <| .cons 1 rfl <| .cons 2 rfl <| .cons 3 rfl <| .nil) (ks := [0, 1, 2, 3]) rfl) (fun k hI => ?_)
 refine J_seq ?_
 refine J_seq (J_reg [] (.cons (.no) _ _ (op_move (Lk.t rfl)) <| .cons (.no) _ _ (op_move (Lk.t rfl)) <| .cons (.rd 3) _ _ (op_len_som 3 sl26 (Lk.t rfl) rfl) <| .cons (.no) _ _ (op_cmp (by simp) (Lk.t rfl) (Lk.t rfl) rfl) <| .nil) ff rfl fun g5 => ⟨_, _, [0, 1, 2, 3], rfl, (.cons 1 rfl <| .cons 2 rfl <| .cons 5 rfl <| .cons 10 rfl <| .cons 11 rfl <| .cons 23 rfl <| .nil), (.cons 0 rfl <| .cons 1 rfl <| .cons 2 rfl <| .cons 3 rfl <| .nil), ?_⟩)
 refine JN_then ?_
 refine J_cond (cond_of (Lk.t rfl)) (fun h1 => ?_) (fun h1 => ?_)
 ·have h1' := h1
  try simp only [cmpB, Za, Zb, Zc, Zd, Ze, Zf, Zg, Zh, Zi, Zj, Zk, Zl, Zm, Zn, Zo, Zp, Zq, Zr] at h1
  refine J_skip ?_
  refine JN_then ?_
  refine J_seq ?_
  refine J_block ?_
  refine (J_reg [[], [], [], [1, 2], [], [], [], [5, 6], [5, 6, 7], [0, 1, 2, 3, 4, 5, 6, 7, 8]] (.cons (.rd 1) _ _ (op_get_ag 1 ag28 (Lk.t rfl) rfl mem_blk rfl rfl) <| .cons (.no) _ _ (op_move (Lk.t rfl)) <| .cons (.no) _ _ (op_move (Lk.t rfl)) <| .cons (.no) _ _ (op_add (Lk.t rfl) (Lk.t rfl) (wrap_id (by omega) (by omega))) <| .cons (.no) _ _ (op_move (Lk.t rfl)) <| .cons (.no) _ _ (op_move (Lk.t rfl)) <| .cons (.no) _ _ (op_move (Lk.t rfl)) <| .cons (.rd 3) _ _ (op_index_som 3 sl26 (Lk.t rfl) (Lk.t rfl) rfl (by omega) (by omega)) <| .cons (.rd 3) _ _ (op_get_som 0 3 sc36 (Lk.t rfl) rfl (by omega)) <| .cons (.wr 0) _ _ (op_callM 0 (put_ok hs0 (colsM_len m n _) ⟨by omega, by omega, by omega, by omega⟩) ⟨(Lk.t rfl), (Lk.t rfl), (Lk.t rfl), (Lk.t rfl),  trivial⟩ rfl) <| .nil) (fun _ => mixed) rfl fun g6 => ⟨_, _, [0, 1, 2, 3], rfl, (.cons 1 rfl <| .cons 2 rfl <| .cons 5 rfl <| .cons 10 rfl <| .cons 11 rfl <| .nil), (.cons 0 rfl <| .cons 1 rfl <| .cons 2 rfl <| .cons 3 rfl <| .nil), ?_⟩)
  refine JN_block ?_
  refine JN_then ?_
  refine (J_reg [] (.cons (.no) _ _ (op_move (Lk.t rfl)) <| .cons (.no) _ _ (op_add (Lk.t rfl) (Lk.k rfl) (wrap_id (by omega) (by omega))) <| .cons (.no) _ _ (op_assign (Lk.t rfl)) <| .nil) ff rfl fun g7 => ⟨_, _, [0, 1, 2, 3], rfl, (.cons 1 rfl <| .cons 2 rfl <| .cons 5 rfl <| .cons 10 rfl <| .cons 11 rfl <| .nil), (.cons 0 rfl <| .cons 1 rfl <| .cons 2 rfl <| .cons 3 rfl <| .nil), ?_⟩)
  exact JN_again (k + 1) (by omega) (by omega) (To.pick (fun _ => .sub (t := 11) rfl (sp_eq (by rfl)) <| .cons 1 rfl <| .cons 2 rfl <| .cons 5 rfl <| .cons 10 rfl <| .nil) (fun _ => .sub 0 rfl ((res_eq (congrArg (fun z => som u flp z 36) (dwn_step hs0 hq hl (by omega) rfl)))) <| .cons 1 rfl <| .cons 2 rfl <| .cons 3 rfl <| .nil) (ks := [0, 1, 2, 3]) rfl)
 ·have h1' := h1
  try simp only [cmpB, Za, Zb, Zc, Zd, Ze, Zf, Zg, Zh, Zi, Zj, Zk, Zl, Zm, Zn, Zo, Zp, Zq, Zr] at h1
  refine J_exit ?_
  refine JN_then_exit ?_
  refine JN_then_exit ?_
  refine JN_exit_here ?_
  refine JN_end ?_
  refine JN_to (To.res 0 (r' := som u flp (colsM m n (updC X q (dwnL v w i (X q)))) 36) rfl (res_eq (by rw [dwn_all hl hi (by omega)])) rfl) ?_
  refine JN_retM 0 hr0 (fix_som (by rw [length_colsM, length_colsM])) rfl (.nil) (sb_trans sb_refl ?_)
  exact sb_any
theorem rzeroC_ok {n : Int} (hs : Siz n n) : CtF Tryz.prog 93 [isv (.int .i64 n), isv (.int .i64 n)] (agP) (fun u => tupp [aggp [isv (.int .i64 n), isv (.int .i64 n), isv u], isv (.int .i64 0)]) (fun u => som u flp (grid n n fun _ _ => 0) 36) := by
 refine CtF.of Tryz.func93 rfl (by kernel_rfl) rfl fun c0 => ?_
 obtain ⟨hz1, hz2, _, _⟩ := id hs
 refine J_to (To.emps 1) ?_
 refine J_seq (J_reg [] (.cons (.wr 0) _ _ (op_alloc 0 zr28 rfl rfl) <| .cons (.no) _ _ (op_assign (Lk.k rfl)) <| .nil) ff rfl fun g1 => ⟨_, _, [0], rfl, (.cons 0 rfl <| .cons 1 rfl <| .cons 4 rfl <| .nil), (.cons 0 rfl <| .nil), ?_⟩)
 refine JN_then ?_
 refine J_seq ?_
 refine J_seq (J_reg [] (.cons (.no) _ _ (op_move (Lk.t rfl)) <| .cons (.no) _ _ (op_cmp (by simp) (Lk.t rfl) (Lk.k rfl) rfl) <| .cons (.no) _ _ (op_move (Lk.t rfl)) <| .cons (.no) _ _ (op_guard rfl rfl (gd_b rfl) (fun hC => (op_move (Lk.t rfl)))) <| .cons (.no) _ _ (op_guard rfl rfl (gd_b rfl) (fun hC => (op_cmp (by simp) (Lk.w rfl hC) (Lk.k rfl) rfl))) <| .cons (.no) _ _ (op_or (Lk.t rfl) (fun h2 => (Lk.w rfl h2))) <| .cons (.no) _ _ (op_move (Lk.t rfl)) <| .cons (.no) _ _ (op_guard rfl rfl (gd_b rfl) (fun hC => (op_move (Lk.t rfl)))) <| .cons (.no) _ _ (op_guard rfl rfl (gd_b rfl) (fun hC => (op_cmp (by simp) (Lk.w rfl hC) (Lk.k rfl) rfl))) <| .cons (.no) _ _ (op_or (Lk.t rfl) (fun h2 => (Lk.w rfl h2))) <| .cons (.no) _ _ (op_move (Lk.t rfl)) <| .cons (.no) _ _ (op_guard rfl rfl (gd_b rfl) (fun hC => (op_move (Lk.t rfl)))) <| .cons (.no) _ _ (op_guard rfl rfl (gd_b rfl) (fun hC => (op_cmp (by simp) (Lk.w rfl hC) (Lk.k rfl) rfl))) <| .cons (.no) _ _ (op_or (Lk.t rfl) (fun h2 => (Lk.w rfl h2))) <| .nil) ff rfl fun g2 => ⟨_, _, [0], rfl, (.cons 0 rfl <| .cons 1 rfl <| .cons 4 rfl <| .cons 19 rfl <| .nil), (.cons 0 rfl <| .nil), ?_⟩)
 refine JN_then ?_
 refine J_cond (cond_of (Lk.t rfl)) (fun h1 => ?_) (fun h1 => ?_)
 ·have h1' := h1
  try simp only [cmpB, Za, Zb, Zc, Zd, Ze, Zf, Zg, Zh, Zi, Zj, Zk, Zl, Zm, Zn, Zo, Zp, Zq, Zr] at h1
  exfalso; omega
 ·have h1' := h1
  try simp only [cmpB, Za, Zb, Zc, Zd, Ze, Zf, Zg, Zh, Zi, Zj, Zk, Zl, Zm, Zn, Zo, Zp, Zq, Zr] at h1
  refine J_skip ?_
  refine JN_then ?_
  refine J_to (To.emps 1) ?_
  refine J_seq (J_reg [] (.cons (.no) _ _ (op_move (Lk.t rfl)) <| .cons (.no) _ _ (op_move (Lk.t rfl)) <| .cons (.wr 1) _ _ (op_callF 1 (rawF_ok hs) ⟨(Lk.t rfl), (Lk.t rfl),  trivial⟩ rfl) <| .cons (.wr 0) _ _ (op_ver 23 rfl rfl (fun f => op_store_b 0 (Lk.t rfl) (Lk.t rfl) co_agg sz28 rfl rfl rfl) (fun f g h => by rw [h 23 (show 23 ∈ [23] from by decide)]) rfl) <| .cons (.no) _ _ (op_assign (Lk.k rfl)) <| .nil) ff rfl fun g3 => ⟨_, _, [0, 1], rfl, (.cons 4 rfl <| .cons 5 rfl <| .nil), (.cons 0 rfl <| .cons 1 rfl <| .nil), ?_⟩)
  refine JN_then ?_
  refine J_ret ?_
  refine JN_retF2 (u := (agN 2 (g3 23))) 1 rfl rfl (.cons (.ag 0 (Lk.t rfl) ag28 rfl rfl rfl) <| .cons (.tmp (Lk.t rfl)) <| .nil) (fun v1 v2 c h => agN_of rfl v1 c h) ?_
  exact sb_refl
theorem reyeC_ok {m : Nat} (hs0 : Siz (m : Int) (m : Int)) : CtF Tryz.prog 62 [isv (.int .i64 (m : Int))] (agP) (fun u => tupp [aggp [isv (.int .i64 (m : Int)), isv (.int .i64 (m : Int)), isv u], isv (.int .i64 0)]) (fun u => som u flp (colsM m m (eyeTo m m)) 36) := by
 refine CtF.of Tryz.func62 rfl (by kernel_rfl) rfl fun c0 => ?_
 obtain ⟨hz1, hz2, _, _⟩ := id hs0
 refine J_to (To.emps 1) ?_
 refine J_seq (J_reg [] (.cons (.wr 0) _ _ (op_alloc 0 zr28 rfl rfl) <| .cons (.no) _ _ (op_assign (Lk.k rfl)) <| .nil) ff rfl fun g1 => ⟨_, _, [0], rfl, (.cons 0 rfl <| .cons 2 rfl <| .nil), (.cons 0 rfl <| .nil), ?_⟩)
 refine JN_then ?_
 refine J_to (To.emps 2) ?_
 refine J_seq (J_reg [] (.cons (.no) _ _ (op_move (Lk.t rfl)) <| .cons (.no) _ _ (op_move (Lk.t rfl)) <| .cons (.wr 1) _ _ (op_callF 1 (rzeroC_ok hs0) ⟨(Lk.t rfl), (Lk.t rfl),  trivial⟩ rfl) <| .cons (.no) _ _ (op_move_ve rfl rfl) <| .cons (.no) _ _ (op_ve 7 11 rfl rfl rfl (fun f => op_extract (Lk.t rfl) rfl) (fun f g h => by first | rfl | rw [h 10 (show 10 ∈ [10] from by decide)]) rfl) <| .cons (.no) _ _ (op_ve 7 12 rfl rfl rfl (fun f => op_extract (Lk.t rfl) rfl) (fun f g h => by first | rfl | rw [h 10 (show 10 ∈ [10] from by decide)]) rfl) <| .cons (.wr 2) _ _ (op_alloc 2 zr28 rfl rfl) <| .cons (.wr 2) _ _ (op_store_new_ve 2 rfl rfl rfl (fun f => co_agg) (fun f g h => by rw [h 10 (show 10 ∈ [10] from by decide)]) (fun _ => sz28) rfl (fun _ => rfl) rfl) <| .cons (.no) _ _ (op_assign_ve rfl rfl) <| .nil) ff rfl fun g2 => ⟨_, _, [0, 1, 2], rfl, (.cons 0 rfl <| .cons 2 rfl <| .cons 4 rfl <| .cons 5 rfl <| .nil), (.cons 0 rfl <| .cons 1 rfl <| .cons 2 rfl <| .nil), ?_⟩)
 refine JN_then ?_
 refine J_seq ?_
 refine J_seq (J_reg [] (.cons (.no) _ _ (op_assign (Lk.k rfl)) <| .nil) ff rfl fun g3 => ⟨_, _, [0, 1, 2], rfl, (.cons 0 rfl <| .cons 2 rfl <| .cons 4 rfl <| .cons 5 rfl <| .cons 6 rfl <| .nil), (.cons 0 rfl <| .cons 1 rfl <| .cons 2 rfl <| .nil), ?_⟩)
 refine JN_then ?_
 refine J_block ?_
 refine J_loopc (α := Nat) (fun k => k ≤ m) (fun k => m - k) (fun k restR => (6, isv (.int .i64 (k : Int))) :: restR) (fun k restS => som (agP (g2 10)) flp (colsM m m (eyeTo m k)) 36 :: restS) (ρc := [(0, _), (2, _), (4, _), (5, _)]) (σc := [_, _]) 0 (by exact Nat.zero_le _) (To.pick (fun _ => .sub (t := 6) rfl (sp_eq (by rfl)) <| .cons 0 rfl <| .cons 2 rfl <| .cons 4 rfl <| .cons 5 rfl <| .nil) (fun _ => .sub 1 rfl ((res_eq (by rw [eyeTo_0]))) <| .cons 0 rfl <| .cons 2 rfl <| .nil) (ks := [1, 0, 2]) rfl) (fun k hI => ?_)
 refine J_seq ?_
 refine J_seq (J_reg [] (.cons (.no) _ _ (op_move (Lk.t rfl)) <| .cons (.no) _ _ (op_move (Lk.t rfl)) <| .cons (.no) _ _ (op_cmp (by simp) (Lk.t rfl) (Lk.t rfl) rfl) <| .cons (.no) _ _ (op_move (Lk.t rfl)) <| .cons (.no) _ _ (op_guard rfl rfl (gd_b rfl) (fun hC => (op_move (Lk.t rfl)))) <| .cons (.no) _ _ (op_guard rfl rfl (gd_b rfl) (fun hC => (op_cmp (by simp) (Lk.w rfl hC) (Lk.k rfl) rfl))) <| .cons (.no) _ _ (op_and (Lk.t rfl) (fun h2 => (Lk.w rfl h2))) <| .nil) ff rfl fun g4 => ⟨_, _, [0, 1, 2], rfl, (.cons 0 rfl <| .cons 2 rfl <| .cons 4 rfl <| .cons 5 rfl <| .cons 6 rfl <| .cons 19 rfl <| .nil), (.cons 0 rfl <| .cons 1 rfl <| .cons 2 rfl <| .nil), ?_⟩)
 refine JN_then ?_
 refine J_cond (cond_of (Lk.t rfl)) (fun h1 => ?_) (fun h1 => ?_)
 ·have h1' := h1
  try simp only [cmpB, Za, Zb, Zc, Zd, Ze, Zf, Zg, Zh, Zi, Zj, Zk, Zl, Zm, Zn, Zo, Zp, Zq, Zr] at h1
  refine J_skip ?_
  refine JN_then ?_
  refine J_seq ?_
  refine J_block ?_
  refine (J_reg [] (.cons (.rd 2) _ _ (op_get_ag 2 ag28 (Lk.t rfl) rfl mem_blk rfl rfl) <| .cons (.no) _ _ (op_move (Lk.t rfl)) <| .cons (.no) _ _ (op_move (Lk.t rfl)) <| .cons (.wr 0) _ _ (op_callM 0 (put_ok hs0 (colsM_len m m _) ⟨by omega, by omega, by omega, by omega⟩) ⟨(Lk.t rfl), (Lk.t rfl), (Lk.t rfl), (Lk.fk rfl (by decide +kernel)),  trivial⟩ rfl) <| .nil) ff rfl fun g5 => ⟨_, _, [0, 1, 2], rfl, (.cons 0 rfl <| .cons 2 rfl <| .cons 4 rfl <| .cons 5 rfl <| .cons 6 rfl <| .nil), (.cons 0 rfl <| .cons 1 rfl <| .cons 2 rfl <| .nil), ?_⟩)
  refine JN_block ?_
  refine JN_then ?_
  refine (J_reg [] (.cons (.no) _ _ (op_move (Lk.t rfl)) <| .cons (.no) _ _ (op_add (Lk.t rfl) (Lk.k rfl) (wrap_id (by omega) (by omega))) <| .cons (.no) _ _ (op_assign (Lk.t rfl)) <| .nil) ff rfl fun g6 => ⟨_, _, [0, 1, 2], rfl, (.cons 0 rfl <| .cons 2 rfl <| .cons 4 rfl <| .cons 5 rfl <| .cons 6 rfl <| .nil), (.cons 0 rfl <| .cons 1 rfl <| .cons 2 rfl <| .nil), ?_⟩)
  exact JN_again (k + 1) (by omega) (by omega) (To.pick (fun _ => .sub (t := 6) rfl (sp_eq (by rfl)) <| .cons 0 rfl <| .cons 2 rfl <| .cons 4 rfl <| .cons 5 rfl <| .nil) (fun _ => .sub 0 rfl ((res_eq (congrArg (fun z => som (agP (g2 10)) flp z 36) (eyeTo_step hs0 (by omega))))) <| .cons 1 rfl <| .cons 2 rfl <| .nil) (ks := [0, 1, 2]) rfl)
 ·have h1' := h1
  try simp only [cmpB, Za, Zb, Zc, Zd, Ze, Zf, Zg, Zh, Zi, Zj, Zk, Zl, Zm, Zn, Zo, Zp, Zq, Zr] at h1
  have hkn : (m : Int) ≤ (k : Int) := by rw [Bool.and_eq_false_iff] at h1'; rcases h1' with q | q; (· simp [cmpB] at q; omega); exact absurd q (by decide)
  refine J_exit ?_
  refine JN_then_exit ?_
  refine JN_then_exit ?_
  refine JN_exit_here ?_
  refine JN_then ?_
  refine J_seq (J_reg [] (.cons (.rd 2) _ _ (op_get_ag 2 ag28 (Lk.t rfl) rfl mem_blk rfl rfl) <| .cons (.no) _ _ (op_move (Lk.t rfl)) <| .cons (.wr 1) _ _ (op_store_b 1 (Lk.t rfl) (Lk.t rfl) co_agg sz28 rfl rfl rfl) <| .cons (.no) _ _ (op_assign (Lk.t rfl)) <| .nil) ff rfl fun g7 => ⟨_, _, [0, 1], rfl, (.cons 2 rfl <| .cons 3 rfl <| .nil), (.cons 0 rfl <| .cons 1 rfl <| .nil), ?_⟩)
  refine JN_then ?_
  refine J_ret ?_
  refine JN_to (To.res 0 (r' := som (agP (g2 10)) flp (colsM m m (eyeTo m m)) 36) rfl (res_eq (by rw [show k = m by omega])) rfl) ?_
  refine JN_retF2 (u := (agP (g2 10))) 0 rfl rfl (.cons (.ag 1 (Lk.t rfl) ag28 rfl rfl rfl) <| .cons (.tmp (Lk.t rfl)) <| .nil) (fun v1 v2 c h => agN_of rfl v1 c h) ?_
  exact sb_refl
theorem ends_ok {m n : Nat} {xs ys : List Nat} (hs0 : Siz (m : Int) (n : Int)) (hsn : Siz (n : Int) (n : Int)) (hgq : Good (m : Int) (m : Int) ys) (hga : Good (m : Int) (n : Int) xs) (hmn : n ≤ m) : Ct Tryz.prog 63 [MatP (m : Int) (m : Int) ys, MatP (m : Int) (n : Int) xs, isv (.int .i64 (n : Int))] (resQ2 (endsQ (m : Int) (n : Int) (eQ m n ys xs) (eR n xs))) := by
 refine Ct.of Tryz.func63 rfl (by kernel_rfl) rfl fun c0 => ?_
 obtain ⟨hs1, hs2, hs3, hs4⟩ := id hs0
 refine J_to (To.emps 4) ?_
 refine J_seq (J_reg [] (.cons (.wr 0) _ _ (op_box 0 (Lk.t rfl) co_agg rfl) <| .cons (.wr 1) _ _ (op_box 1 (Lk.t rfl) co_agg rfl) <| .cons (.wr 2) _ _ (op_alloc 2 zr28 rfl rfl) <| .cons (.wr 3) _ _ (op_alloc 3 zr28 rfl rfl) <| .cons (.no) _ _ (op_assign (Lk.k rfl)) <| .nil) ff rfl fun g1 => ⟨_, _, [0, 1, 2, 3], rfl, (.cons 2 rfl <| .cons 3 rfl <| .cons 4 rfl <| .cons 6 rfl <| .cons 7 rfl <| .nil), (.cons 0 rfl <| .cons 1 rfl <| .cons 2 rfl <| .cons 3 rfl <| .nil), ?_⟩)
 refine JN_then ?_
 refine J_to (To.emps 4) ?_
 refine J_seq (J_reg [] (.cons (.no) _ _ (op_field_own fd28_0 (Lk.t rfl) rfl) <| .cons (.rd 0) _ _ (op_get_sc 0 sc3 (Lk.t rfl) rfl mem_blk rfl) <| .cons (.no) _ _ (op_move (Lk.t rfl)) <| .cons (.wr 4) _ _ (op_callF 4 (rawF_ok hs0) ⟨(Lk.t rfl), (Lk.t rfl),  trivial⟩ rfl) <| .cons (.no) _ _ (op_move (Lk.t rfl)) <| .cons (.no) _ _ (op_move (Lk.t rfl)) <| .cons (.wr 5) _ _ (op_callF 5 (rawF_ok hsn) ⟨(Lk.t rfl), (Lk.t rfl),  trivial⟩ rfl) <| .cons (.wr 6) _ _ (op_alloc 6 zr28 rfl rfl) <| .cons (.wr 7) _ _ (op_alloc 7 zr28 rfl rfl) <| .cons (.wr 6) _ _ (op_store_new_ve 6 rfl rfl rfl (fun f => co_agg) (fun f g h => by rw [h 18 (show 18 ∈ [18] from by decide)]) (fun _ => sz28) rfl (fun _ => rfl) rfl) <| .cons (.wr 7) _ _ (op_store_new_ve 7 rfl rfl rfl (fun f => co_agg) (fun f g h => by rw [h 21 (show 21 ∈ [21] from by decide)]) (fun _ => sz28) rfl (fun _ => rfl) rfl) <| .nil) ff rfl fun g2 => ⟨_, _, [0, 1, 2, 3, 4, 5, 6, 7], rfl, (.cons 2 rfl <| .cons 3 rfl <| .cons 4 rfl <| .cons 6 rfl <| .cons 7 rfl <| .cons 9 rfl <| .cons 10 rfl <| .nil), (.cons 0 rfl <| .cons 1 rfl <| .cons 2 rfl <| .cons 3 rfl <| .cons 4 rfl <| .cons 5 rfl <| .cons 6 rfl <| .cons 7 rfl <| .nil), ?_⟩)
 refine JN_then ?_
 refine J_seq ?_
 refine J_seq (J_reg [] (.cons (.no) _ _ (op_assign (Lk.k rfl)) <| .nil) ff rfl fun g3 => ⟨_, _, [0, 1, 2, 3, 4, 5, 6, 7], rfl, (.cons 2 rfl <| .cons 3 rfl <| .cons 4 rfl <| .cons 6 rfl <| .cons 7 rfl <| .cons 9 rfl <| .cons 10 rfl <| .cons 11 rfl <| .nil), (.cons 0 rfl <| .cons 1 rfl <| .cons 2 rfl <| .cons 3 rfl <| .cons 4 rfl <| .cons 5 rfl <| .cons 6 rfl <| .cons 7 rfl <| .nil), ?_⟩)
 refine JN_then ?_
 refine J_block ?_
 refine J_loopc (α := Nat × List Nat × List Nat) (fun x => x.1 ≤ n ∧ PutI (m : Int) (n : Int) (fun i j => tidB (mat (m : Int) ys i j) (mat (n : Int) xs j j)) (ClmD (0 : Nat) x.1) x.2.1 ∧ PutI (n : Int) (n : Int) (fun i j => tidB (mat (n : Int) xs i j) (mat (n : Int) xs i i)) (RowD x.1 (0 : Nat)) x.2.2) (fun x => n - x.1) (fun x restR => (11, isv (.int .i64 (x.1 : Int))) :: restR) (fun x restS => som (agN 2 (g2 18)) flp x.2.1 36 :: som (agN 2 (g2 21)) flp x.2.2 36 :: restS) (ρc := [(2, _), (3, _), (4, _), (6, _), (7, _), (9, _), (10, _)]) (σc := [_, _, _, _, _, _]) (0, grid (m : Int) (n : Int) fun _ _ => 0, grid (n : Int) (n : Int) fun _ _ => 0) (by exact ⟨Nat.zero_le _, clm_grid0 hs0, putI_grid0 hsn⟩) (To.pick (fun _ => .sub (t := 11) rfl (sp_eq (by rfl)) <| .cons 2 rfl <| .cons 3 rfl <| .cons 4 rfl <| .cons 6 rfl <| .cons 7 rfl <| .cons 9 rfl <| .cons 10 rfl <| .nil) (fun _ => .sub 4 rfl ((fun _ _ h => h)) <| .sub 5 rfl ((fun _ _ h => h)) <| .cons 0 rfl <| .cons 1 rfl <| .cons 2 rfl <| .cons 3 rfl <| .cons 6 rfl <| .cons 7 rfl <| .nil) (ks := [4, 5, 0, 1, 2, 3, 6, 7]) rfl) (fun x hI => ?_)
 obtain ⟨j, l, l2⟩ := x
 try simp only at hI
 show J _ _ ((11, isv (.int .i64 (j : Int))) :: _) (som (agN 2 (g2 18)) flp l 36 :: som (agN 2 (g2 21)) flp l2 36 :: _) _ _
 refine J_seq ?_
 refine J_seq (J_reg [] (.cons (.no) _ _ (op_move (Lk.t rfl)) <| .cons (.no) _ _ (op_move (Lk.t rfl)) <| .cons (.no) _ _ (op_cmp (by simp) (Lk.t rfl) (Lk.t rfl) rfl) <| .nil) ff rfl fun g4 => ⟨_, _, [0, 1, 2, 3, 4, 5, 6, 7], rfl, (.cons 2 rfl <| .cons 3 rfl <| .cons 4 rfl <| .cons 6 rfl <| .cons 7 rfl <| .cons 9 rfl <| .cons 10 rfl <| .cons 11 rfl <| .cons 24 rfl <| .nil), (.cons 0 rfl <| .cons 1 rfl <| .cons 2 rfl <| .cons 3 rfl <| .cons 4 rfl <| .cons 5 rfl <| .cons 6 rfl <| .cons 7 rfl <| .nil), ?_⟩)
 refine JN_then ?_
 refine J_cond (cond_of (Lk.t rfl)) (fun h1 => ?_) (fun h1 => ?_)
 ·have h1' := h1
  try simp only [cmpB, Za, Zb, Zc, Zd, Ze, Zf, Zg, Zh, Zi, Zj, Zk, Zl, Zm, Zn, Zo, Zp, Zq, Zr] at h1
  refine J_skip ?_
  refine JN_then ?_
  refine J_seq ?_
  refine J_block ?_
  refine J_seq (J_reg [] (.cons (.rd 3) _ _ (op_get_ag 3 ag28 (Lk.t rfl) rfl mem_blk rfl rfl) <| .cons (.no) _ _ (op_move (Lk.t rfl)) <| .cons (.no) _ _ (op_move (Lk.t rfl)) <| .cons (.no) _ _ (op_call (rat_ok hga ⟨by omega, by omega, by omega, by omega⟩) ⟨(Lk.t rfl), (Lk.t rfl), (Lk.t rfl),  trivial⟩) <| .cons (.no) _ _ (op_fcmp (by simp) (Lk.t rfl) (Lk.fk rfl (by decide +kernel)) rfl) <| .cons (.no) _ _ (op_assign (Lk.t rfl)) <| .nil) ff rfl fun g5 => ⟨_, _, [0, 1, 2, 3, 4, 5, 6, 7], rfl, (.cons 2 rfl <| .cons 3 rfl <| .cons 4 rfl <| .cons 6 rfl <| .cons 7 rfl <| .cons 9 rfl <| .cons 10 rfl <| .cons 11 rfl <| .cons 12 rfl <| .nil), (.cons 0 rfl <| .cons 1 rfl <| .cons 2 rfl <| .cons 3 rfl <| .cons 4 rfl <| .cons 5 rfl <| .cons 6 rfl <| .cons 7 rfl <| .nil), ?_⟩)
  refine JN_then ?_
  refine J_seq ?_
  refine J_seq (J_reg [] (.cons (.no) _ _ (op_assign (Lk.k rfl)) <| .nil) ff rfl fun g6 => ⟨_, _, [0, 1, 2, 3, 4, 5, 6, 7], rfl, (.cons 2 rfl <| .cons 3 rfl <| .cons 4 rfl <| .cons 6 rfl <| .cons 7 rfl <| .cons 9 rfl <| .cons 10 rfl <| .cons 11 rfl <| .cons 12 rfl <| .cons 13 rfl <| .nil), (.cons 0 rfl <| .cons 1 rfl <| .cons 2 rfl <| .cons 3 rfl <| .cons 4 rfl <| .cons 5 rfl <| .cons 6 rfl <| .cons 7 rfl <| .nil), ?_⟩)
  refine JN_then ?_
  refine J_block ?_
  refine J_loopc (α := Nat × List Nat) (fun y => y.1 ≤ m ∧ PutI (m : Int) (n : Int) (fun i j => tidB (mat (m : Int) ys i j) (mat (n : Int) xs j j)) (ClmD y.1 j) y.2) (fun y => m - y.1) (fun y restR => (13, isv (.int .i64 (y.1 : Int))) :: restR) (fun y restS => som (agN 2 (g2 18)) flp y.2 36 :: restS) (ρc := [(2, _), (3, _), (4, _), (6, _), (7, _), (9, _), (10, _), (11, _), (12, _)]) (σc := [_, _, _, _, _, _, _]) (0, l) (by exact ⟨Nat.zero_le _, hI.2.1⟩) (To.pick (fun _ => .sub (t := 13) rfl (sp_eq (by rfl)) <| .cons 2 rfl <| .cons 3 rfl <| .cons 4 rfl <| .cons 6 rfl <| .cons 7 rfl <| .cons 9 rfl <| .cons 10 rfl <| .cons 11 rfl <| .cons 12 rfl <| .nil) (fun _ => .sub 0 rfl ((fun _ _ h => h)) <| .cons 1 rfl <| .cons 2 rfl <| .cons 3 rfl <| .cons 4 rfl <| .cons 5 rfl <| .cons 6 rfl <| .cons 7 rfl <| .nil) (ks := [0, 1, 2, 3, 4, 5, 6, 7]) rfl) (fun y hJ => ?_)
  obtain ⟨i, a1⟩ := y
  try simp only at hJ
  show J _ _ ((13, isv (.int .i64 (i : Int))) :: _) (som (agN 2 (g2 18)) flp a1 36 :: _) _ _
  have hml := hJ.2.1
  refine J_seq ?_
  refine J_seq (J_reg [] (.cons (.no) _ _ (op_move (Lk.t rfl)) <| .cons (.no) _ _ (op_field_own fd28_0 (Lk.t rfl) rfl) <| .cons (.rd 2) _ _ (op_get_sc 2 sc3 (Lk.t rfl) rfl mem_blk rfl) <| .cons (.no) _ _ (op_cmp (by simp) (Lk.t rfl) (Lk.t rfl) rfl) <| .nil) ff rfl fun g7 => ⟨_, _, [0, 1, 2, 3, 4, 5, 6, 7], rfl, (.cons 2 rfl <| .cons 3 rfl <| .cons 4 rfl <| .cons 6 rfl <| .cons 7 rfl <| .cons 9 rfl <| .cons 10 rfl <| .cons 11 rfl <| .cons 12 rfl <| .cons 13 rfl <| .cons 35 rfl <| .nil), (.cons 0 rfl <| .cons 1 rfl <| .cons 2 rfl <| .cons 3 rfl <| .cons 4 rfl <| .cons 5 rfl <| .cons 6 rfl <| .cons 7 rfl <| .nil), ?_⟩)
  refine JN_then ?_
  refine J_cond (cond_of (Lk.t rfl)) (fun h2 => ?_) (fun h2 => ?_)
  ·have h2' := h2
   try simp only [cmpB, Za, Zb, Zc, Zd, Ze, Zf, Zg, Zh, Zi, Zj, Zk, Zl, Zm, Zn, Zo, Zp, Zq, Zr] at h2
   refine J_skip ?_
   refine JN_then ?_
   refine J_seq ?_
   refine J_block ?_
   refine (J_reg [[], [], [], [], [], [], [3, 4, 5], [], [3, 4, 5, 6, 7], [0, 1, 2, 3, 4, 5, 6, 7, 8]] (.cons (.rd 6) _ _ (op_get_ag 6 ag28 (Lk.t rfl) rfl mem_blk rfl rfl) <| .cons (.no) _ _ (op_move (Lk.t rfl)) <| .cons (.no) _ _ (op_move (Lk.t rfl)) <| .cons (.rd 2) _ _ (op_get_ag 2 ag28 (Lk.t rfl) rfl mem_blk rfl rfl) <| .cons (.no) _ _ (op_move (Lk.t rfl)) <| .cons (.no) _ _ (op_move (Lk.t rfl)) <| .cons (.no) _ _ (op_call (rat_ok hgq ⟨by omega, by omega, by omega, by omega⟩) ⟨(Lk.t rfl), (Lk.t rfl), (Lk.t rfl),  trivial⟩) <| .cons (.no) _ _ (op_move (Lk.t rfl)) <| .cons (.no) _ _ (op_call (tidy_ok) ⟨(Lk.t rfl), (Lk.t rfl),  trivial⟩) <| .cons (.wr 0) _ _ (op_callM 0 (put_ok hs0 hml ⟨by omega, by omega, by omega, by omega⟩) ⟨(Lk.t rfl), (Lk.t rfl), (Lk.t rfl), (Lk.t rfl),  trivial⟩ rfl) <| .nil) (fun _ => mixed) rfl fun g8 => ⟨_, _, [0, 1, 2, 3, 4, 5, 6, 7], rfl, (.cons 2 rfl <| .cons 3 rfl <| .cons 4 rfl <| .cons 6 rfl <| .cons 7 rfl <| .cons 9 rfl <| .cons 10 rfl <| .cons 11 rfl <| .cons 12 rfl <| .cons 13 rfl <| .nil), (.cons 0 rfl <| .cons 1 rfl <| .cons 2 rfl <| .cons 3 rfl <| .cons 4 rfl <| .cons 5 rfl <| .cons 6 rfl <| .cons 7 rfl <| .nil), ?_⟩)
   refine JN_block ?_
   refine JN_then ?_
   refine (J_reg [] (.cons (.no) _ _ (op_move (Lk.t rfl)) <| .cons (.no) _ _ (op_add (Lk.t rfl) (Lk.k rfl) (wrap_id (by omega) (by omega))) <| .cons (.no) _ _ (op_assign (Lk.t rfl)) <| .nil) ff rfl fun g9 => ⟨_, _, [0, 1, 2, 3, 4, 5, 6, 7], rfl, (.cons 2 rfl <| .cons 3 rfl <| .cons 4 rfl <| .cons 6 rfl <| .cons 7 rfl <| .cons 9 rfl <| .cons 10 rfl <| .cons 11 rfl <| .cons 12 rfl <| .cons 13 rfl <| .nil), (.cons 0 rfl <| .cons 1 rfl <| .cons 2 rfl <| .cons 3 rfl <| .cons 4 rfl <| .cons 5 rfl <| .cons 6 rfl <| .cons 7 rfl <| .nil), ?_⟩)
   exact JN_again (i + 1, a1.set ((i : Int) * (n : Int) + (j : Int)).toNat (tidN (mat (m : Int) ys i j) (fcmp .lss (mat (n : Int) xs j j) 0))) (by exact ⟨show i + 1 ≤ m by omega, clm_step hs0 (by omega) (by omega) hJ.2 rfl⟩) (by show m - (_ + 1) < _; omega) (To.pick (fun _ => .sub (t := 13) rfl (sp_eq (by rfl)) <| .cons 2 rfl <| .cons 3 rfl <| .cons 4 rfl <| .cons 6 rfl <| .cons 7 rfl <| .cons 9 rfl <| .cons 10 rfl <| .cons 11 rfl <| .cons 12 rfl <| .nil) (fun _ => .sub 0 rfl ((fun _ _ h => h)) <| .cons 1 rfl <| .cons 2 rfl <| .cons 3 rfl <| .cons 4 rfl <| .cons 5 rfl <| .cons 6 rfl <| .cons 7 rfl <| .nil) (ks := [0, 1, 2, 3, 4, 5, 6, 7]) rfl)
  ·have h2' := h2
   try simp only [cmpB, Za, Zb, Zc, Zd, Ze, Zf, Zg, Zh, Zi, Zj, Zk, Zl, Zm, Zn, Zo, Zp, Zq, Zr] at h2
   refine J_exit ?_
   refine JN_then_exit ?_
   refine JN_then_exit ?_
   refine JN_exit_here ?_
   refine JN_then ?_
   refine J_seq (J_reg [] (.cons (.no) _ _ (op_assign (Lk.k rfl)) <| .nil) ff rfl fun g10 => ⟨_, _, [0, 1, 2, 3, 4, 5, 6, 7], rfl, (.cons 2 rfl <| .cons 3 rfl <| .cons 4 rfl <| .cons 6 rfl <| .cons 7 rfl <| .cons 9 rfl <| .cons 10 rfl <| .cons 11 rfl <| .cons 12 rfl <| .cons 14 rfl <| .nil), (.cons 0 rfl <| .cons 1 rfl <| .cons 2 rfl <| .cons 3 rfl <| .cons 4 rfl <| .cons 5 rfl <| .cons 6 rfl <| .cons 7 rfl <| .nil), ?_⟩)
   refine JN_then ?_
   refine J_block ?_
   refine J_loopc (α := Nat × List Nat) (fun y => y.1 ≤ n ∧ PutI (n : Int) (n : Int) (fun i j => tidB (mat (n : Int) xs i j) (mat (n : Int) xs i i)) (RowD j y.1) y.2) (fun y => n - y.1) (fun y restR => (14, isv (.int .i64 (y.1 : Int))) :: restR) (fun y restS => som (agN 2 (g2 21)) flp y.2 36 :: restS) (ρc := [(2, _), (3, _), (4, _), (6, _), (7, _), (9, _), (10, _), (11, _), (12, _)]) (σc := [_, _, _, _, _, _, _]) (0, l2) (by exact ⟨Nat.zero_le _, hI.2.2⟩) (To.pick (fun _ => .sub (t := 14) rfl (sp_eq (by rfl)) <| .cons 2 rfl <| .cons 3 rfl <| .cons 4 rfl <| .cons 6 rfl <| .cons 7 rfl <| .cons 9 rfl <| .cons 10 rfl <| .cons 11 rfl <| .cons 12 rfl <| .nil) (fun _ => .sub 1 rfl ((fun _ _ h => h)) <| .cons 0 rfl <| .cons 2 rfl <| .cons 3 rfl <| .cons 4 rfl <| .cons 5 rfl <| .cons 6 rfl <| .cons 7 rfl <| .nil) (ks := [1, 0, 2, 3, 4, 5, 6, 7]) rfl) (fun y hK => ?_)
   obtain ⟨k, a2⟩ := y
   try simp only at hK
   show J _ _ ((14, isv (.int .i64 (k : Int))) :: _) (som (agN 2 (g2 21)) flp a2 36 :: _) _ _
   have hml := hK.2.1
   refine J_seq ?_
   refine J_seq (J_reg [] (.cons (.no) _ _ (op_move (Lk.t rfl)) <| .cons (.no) _ _ (op_move (Lk.t rfl)) <| .cons (.no) _ _ (op_cmp (by simp) (Lk.t rfl) (Lk.t rfl) rfl) <| .nil) ff rfl fun g11 => ⟨_, _, [0, 1, 2, 3, 4, 5, 6, 7], rfl, (.cons 2 rfl <| .cons 3 rfl <| .cons 4 rfl <| .cons 6 rfl <| .cons 7 rfl <| .cons 9 rfl <| .cons 10 rfl <| .cons 11 rfl <| .cons 12 rfl <| .cons 14 rfl <| .cons 50 rfl <| .nil), (.cons 0 rfl <| .cons 1 rfl <| .cons 2 rfl <| .cons 3 rfl <| .cons 4 rfl <| .cons 5 rfl <| .cons 6 rfl <| .cons 7 rfl <| .nil), ?_⟩)
   refine JN_then ?_
   refine J_cond (cond_of (Lk.t rfl)) (fun h3 => ?_) (fun h3 => ?_)
   ·have h3' := h3
    try simp only [cmpB, Za, Zb, Zc, Zd, Ze, Zf, Zg, Zh, Zi, Zj, Zk, Zl, Zm, Zn, Zo, Zp, Zq, Zr] at h3
    refine J_skip ?_
    refine JN_then ?_
    refine J_seq ?_
    refine J_block ?_
    refine (J_reg [[], [], [], [], [], [], [3, 4, 5], [], [3, 4, 5, 6, 7], [0, 1, 2, 3, 4, 5, 6, 7, 8]] (.cons (.rd 7) _ _ (op_get_ag 7 ag28 (Lk.t rfl) rfl mem_blk rfl rfl) <| .cons (.no) _ _ (op_move (Lk.t rfl)) <| .cons (.no) _ _ (op_move (Lk.t rfl)) <| .cons (.rd 3) _ _ (op_get_ag 3 ag28 (Lk.t rfl) rfl mem_blk rfl rfl) <| .cons (.no) _ _ (op_move (Lk.t rfl)) <| .cons (.no) _ _ (op_move (Lk.t rfl)) <| .cons (.no) _ _ (op_call (rat_ok hga ⟨by omega, by omega, by omega, by omega⟩) ⟨(Lk.t rfl), (Lk.t rfl), (Lk.t rfl),  trivial⟩) <| .cons (.no) _ _ (op_move (Lk.t rfl)) <| .cons (.no) _ _ (op_call (tidy_ok) ⟨(Lk.t rfl), (Lk.t rfl),  trivial⟩) <| .cons (.wr 0) _ _ (op_callM 0 (put_ok hsn hml ⟨by omega, by omega, by omega, by omega⟩) ⟨(Lk.t rfl), (Lk.t rfl), (Lk.t rfl), (Lk.t rfl),  trivial⟩ rfl) <| .nil) (fun _ => mixed) rfl fun g12 => ⟨_, _, [0, 1, 2, 3, 4, 5, 6, 7], rfl, (.cons 2 rfl <| .cons 3 rfl <| .cons 4 rfl <| .cons 6 rfl <| .cons 7 rfl <| .cons 9 rfl <| .cons 10 rfl <| .cons 11 rfl <| .cons 12 rfl <| .cons 14 rfl <| .nil), (.cons 0 rfl <| .cons 1 rfl <| .cons 2 rfl <| .cons 3 rfl <| .cons 4 rfl <| .cons 5 rfl <| .cons 6 rfl <| .cons 7 rfl <| .nil), ?_⟩)
    refine JN_block ?_
    refine JN_then ?_
    refine (J_reg [] (.cons (.no) _ _ (op_move (Lk.t rfl)) <| .cons (.no) _ _ (op_add (Lk.t rfl) (Lk.k rfl) (wrap_id (by omega) (by omega))) <| .cons (.no) _ _ (op_assign (Lk.t rfl)) <| .nil) ff rfl fun g13 => ⟨_, _, [0, 1, 2, 3, 4, 5, 6, 7], rfl, (.cons 2 rfl <| .cons 3 rfl <| .cons 4 rfl <| .cons 6 rfl <| .cons 7 rfl <| .cons 9 rfl <| .cons 10 rfl <| .cons 11 rfl <| .cons 12 rfl <| .cons 14 rfl <| .nil), (.cons 0 rfl <| .cons 1 rfl <| .cons 2 rfl <| .cons 3 rfl <| .cons 4 rfl <| .cons 5 rfl <| .cons 6 rfl <| .cons 7 rfl <| .nil), ?_⟩)
    exact JN_again (k + 1, a2.set ((j : Int) * (n : Int) + (k : Int)).toNat (tidN (mat (n : Int) xs j k) (fcmp .lss (mat (n : Int) xs j j) 0))) (by exact ⟨show k + 1 ≤ n by omega, row_step hsn (by omega) (by omega) hK.2 rfl⟩) (by show n - (_ + 1) < _; omega) (To.pick (fun _ => .sub (t := 14) rfl (sp_eq (by rfl)) <| .cons 2 rfl <| .cons 3 rfl <| .cons 4 rfl <| .cons 6 rfl <| .cons 7 rfl <| .cons 9 rfl <| .cons 10 rfl <| .cons 11 rfl <| .cons 12 rfl <| .nil) (fun _ => .sub 0 rfl ((fun _ _ h => h)) <| .cons 1 rfl <| .cons 2 rfl <| .cons 3 rfl <| .cons 4 rfl <| .cons 5 rfl <| .cons 6 rfl <| .cons 7 rfl <| .nil) (ks := [0, 1, 2, 3, 4, 5, 6, 7]) rfl)
   ·have h3' := h3
    try simp only [cmpB, Za, Zb, Zc, Zd, Ze, Zf, Zg, Zh, Zi, Zj, Zk, Zl, Zm, Zn, Zo, Zp, Zq, Zr] at h3
    refine J_exit ?_
    refine JN_then_exit ?_
    refine JN_then_exit ?_
    refine JN_exit_here ?_
    refine JN_block ?_
    refine JN_then ?_
    refine (J_reg [] (.cons (.no) _ _ (op_move (Lk.t rfl)) <| .cons (.no) _ _ (op_add (Lk.t rfl) (Lk.k rfl) (wrap_id (by omega) (by omega))) <| .cons (.no) _ _ (op_assign (Lk.t rfl)) <| .nil) ff rfl fun g14 => ⟨_, _, [0, 1, 2, 3, 4, 5, 6, 7], rfl, (.cons 2 rfl <| .cons 3 rfl <| .cons 4 rfl <| .cons 6 rfl <| .cons 7 rfl <| .cons 9 rfl <| .cons 10 rfl <| .cons 11 rfl <| .nil), (.cons 0 rfl <| .cons 1 rfl <| .cons 2 rfl <| .cons 3 rfl <| .cons 4 rfl <| .cons 5 rfl <| .cons 6 rfl <| .cons 7 rfl <| .nil), ?_⟩)
    exact JN_again (j + 1, a1, a2) (by exact ⟨show j + 1 ≤ n by omega, clm_end hs0 (show i = ((m : Int)).toNat by omega) hJ.2, row_end hsn (show k = ((n : Int)).toNat by omega) hK.2⟩) (by show n - (_ + 1) < _; omega) (To.pick (fun _ => .sub (t := 11) rfl (sp_eq (by rfl)) <| .cons 2 rfl <| .cons 3 rfl <| .cons 4 rfl <| .cons 6 rfl <| .cons 7 rfl <| .cons 9 rfl <| .cons 10 rfl <| .nil) (fun _ => .sub 1 rfl ((fun _ _ h => h)) <| .sub 0 rfl ((fun _ _ h => h)) <| .cons 2 rfl <| .cons 3 rfl <| .cons 4 rfl <| .cons 5 rfl <| .cons 6 rfl <| .cons 7 rfl <| .nil) (ks := [1, 0, 2, 3, 4, 5, 6, 7]) rfl)
 ·have h1' := h1
  try simp only [cmpB, Za, Zb, Zc, Zd, Ze, Zf, Zg, Zh, Zi, Zj, Zk, Zl, Zm, Zn, Zo, Zp, Zq, Zr] at h1
  refine J_exit ?_
  refine JN_then_exit ?_
  refine JN_then_exit ?_
  refine JN_exit_here ?_
  refine JN_then ?_
  refine J_seq ?_
  refine J_to (To.res 0 (r' := som (agN 2 (g2 18)) flp (eQ m n ys xs) 36) rfl (res_eq (by rw [clm_done hs0 (show j = ((n : Int)).toNat by omega) hI.2.1]; rfl)) rfl) ?_
  refine J_to (To.res 1 (r' := som (agN 2 (g2 21)) flp (eR n xs) 36) rfl (res_eq (by rw [row_done hsn (show j = ((n : Int)).toNat by omega) hI.2.2]; rfl)) rfl) ?_
  refine J_to (To.freeze 0 (fun _ h => h) rfl frz_som rfl) ?_
  refine J_to (To.freeze 1 (fun _ h => h) rfl frz_som rfl) ?_
  refine J_seq (J_reg [] (.cons (.no) _ _ (op_field_own fd28_2 (Lk.t rfl) rfl) <| .cons (.rd 6) _ _ (op_get_sc 6 sc26 (Lk.t rfl) rfl mem_blk rfl) <| .cons (.no) _ _ (op_call (rall_ok) ⟨(Lk.sub (sb_fk 1 rfl) (Lk.t rfl)),  trivial⟩) <| .cons (.no) _ _ (op_not (Lk.t rfl)) <| .cons (.no) _ _ (op_move (Lk.t rfl)) <| .cons (.no) _ _ (op_guard rfl rfl (gd_b rfl) (fun hC => (op_field_own fd28_2 (Lk.t rfl) rfl))) <| .cons (.rd 7) _ _ (op_guard rfl rfl (gd_b rfl) (fun hC => (op_get_sc 7 sc26 (Lk.w rfl hC) rfl mem_blk rfl))) <| .cons (.no) _ _ (op_guard rfl rfl (gd_b rfl) (fun hC => (op_call (rall_ok) ⟨(Lk.sub (sb_fk 0 rfl) (Lk.w rfl hC)),  trivial⟩))) <| .cons (.no) _ _ (op_guard rfl rfl (gd_b rfl) (fun hC => (op_not (Lk.w rfl hC)))) <| .cons (.no) _ _ (op_or (Lk.t rfl) (fun h2 => (Lk.w rfl h2))) <| .nil) ff rfl fun g15 => ⟨_, _, [4, 5, 6, 7], rfl, (.cons 6 rfl <| .cons 7 rfl <| .cons 9 rfl <| .cons 10 rfl <| .cons 72 rfl <| .nil), (.cons 4 rfl <| .cons 5 rfl <| .cons 6 rfl <| .cons 7 rfl <| .nil), ?_⟩)
  refine JN_then ?_
  refine J_cond (cond_of (Lk.t rfl)) (fun h4 => ?_) (fun h4 => ?_)
  ·have h4' := h4
   try simp only [cmpB, Za, Zb, Zc, Zd, Ze, Zf, Zg, Zh, Zi, Zj, Zk, Zl, Zm, Zn, Zo, Zp, Zq, Zr] at h4
   refine J_seq (J_reg [] (.cons (.no) _ _ (op_build zr28 rfl pl28 .nil) <| .cons (.no) _ _ (op_build zr28 rfl pl28 .nil) <| .cons (.wr 0) _ _ (op_store_b 0 (Lk.t rfl) (Lk.t rfl) co_agg sz28 rfl rfl rfl) <| .cons (.wr 1) _ _ (op_store_b 1 (Lk.t rfl) (Lk.t rfl) co_agg sz28 rfl rfl rfl) <| .cons (.no) _ _ (op_assign (Lk.k rfl)) <| .nil) ff rfl fun g16 => ⟨_, _, [0, 1], rfl, (.cons 6 rfl <| .cons 7 rfl <| .cons 8 rfl <| .nil), (.cons 0 rfl <| .cons 1 rfl <| .nil), ?_⟩)
   refine JN_then ?_
   refine J_ret ?_
   refine JN_then_ret ?_
   refine JN_ret (.cons (.ag 0 (Lk.t rfl) ag28 rfl rfl rfl) <| .cons (.ag 1 (Lk.t rfl) ag28 rfl rfl rfl) <| .cons (.tmp (Lk.t rfl)) <| .nil) (sb_trans (sb_res (.cons (sb_agg (.cons sb_refl <| .cons sb_refl <| .cons (sb_nil (mk := flp)) <| .nil)) <| .cons (sb_agg (.cons sb_refl <| .cons sb_refl <| .cons (sb_nil (mk := flp)) <| .nil)) <| .cons sb_refl <| .nil)) ?_)
   exact sb_eq (by unfold endsQ; rw [if_pos h4']; rfl)
  ·have h4' := h4
   try simp only [cmpB, Za, Zb, Zc, Zd, Ze, Zf, Zg, Zh, Zi, Zj, Zk, Zl, Zm, Zn, Zo, Zp, Zq, Zr] at h4
   refine J_skip ?_
   refine JN_then ?_
   refine J_seq (J_reg [[], [], [0], [0, 1, 2], [0, 1, 2, 3]] (.cons (.rd 2) _ _ (op_get_ag 2 ag28 (Lk.t rfl) rfl mem_blk rfl rfl) <| .cons (.rd 3) _ _ (op_get_ag 3 ag28 (Lk.t rfl) rfl mem_blk rfl rfl) <| .cons (.wr 0) _ _ (op_store_b 0 (Lk.t rfl) (Lk.t rfl) co_agg sz28 rfl rfl rfl) <| .cons (.wr 1) _ _ (op_store_b 1 (Lk.t rfl) (Lk.t rfl) co_agg sz28 rfl rfl rfl) <| .cons (.no) _ _ (op_assign (Lk.k rfl)) <| .nil) (fun _ => mixed) rfl fun g17 => ⟨_, _, [0, 1], rfl, (.cons 6 rfl <| .cons 7 rfl <| .cons 8 rfl <| .nil), (.cons 0 rfl <| .cons 1 rfl <| .nil), ?_⟩)
   refine JN_then ?_
   refine J_ret ?_
   refine JN_ret (.cons (.ag 0 (Lk.t rfl) ag28 rfl rfl rfl) <| .cons (.ag 1 (Lk.t rfl) ag28 rfl rfl rfl) <| .cons (.tmp (Lk.t rfl)) <| .nil) (sb_trans (sb_res (.cons (sb_agg (.cons sb_refl <| .cons sb_refl <| .cons (sb_fk 1 rfl) <| .nil)) <| .cons (sb_agg (.cons sb_refl <| .cons sb_refl <| .cons (sb_fk 0 rfl) <| .nil)) <| .cons sb_refl <| .nil)) ?_)
   exact sb_eq (by unfold endsQ; rw [if_neg (by rw [show (!(eQ m n ys xs).all finB || !(eR n xs).all finB) = false from h4']; decide)]; rfl)
end Go.Proofs.YtllkellonjhalaaGreat
