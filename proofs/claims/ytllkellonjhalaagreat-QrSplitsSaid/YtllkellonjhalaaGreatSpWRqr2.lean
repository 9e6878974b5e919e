/- Printed by a program of ours (walk.py): walk of what the reference splits a matrix into. -/
import Derived.Test.YtllkellonjhalaaGreatSpKb
import Derived.Test.YtllkellonjhalaaGreatProg
import Derived.KernelRfl
import Derived.Test.YtllkellonjhalaaGreatSpTypes
import Derived.Test.YtllkellonjhalaaGreatSpWRqr
set_option linter.unusedVariables false
set_option linter.unusedSimpArgs false
set_option maxRecDepth 20000
set_option maxHeartbeats 1000000
namespace Go.Proofs.YtllkellonjhalaaGreat
open Go Go.Bn
attribute [local irreducible] OpOK
theorem rqr_ok {r c : Int} {xs : List Nat} (hlt : LtL xs) : Ct Tryz.prog 21 [MatP r c xs] (resQ2 (rqrM r c xs)) := by
 refine Ct.of Tryz.func21 rfl (by kernel_rfl) rfl fun c0 => ?_
 refine J_to (To.emps 3) ?_
 refine J_seq (J_reg [] (.cons (.wr 0) _ _ (op_box 0 (Lk.t rfl) co_agg rfl) <| .cons (.wr 1) _ _ (op_alloc 1 zr28 rfl rfl) <| .cons (.wr 2) _ _ (op_alloc 2 zr28 rfl rfl) <| .cons (.no) _ _ (op_assign (Lk.k rfl)) <| .nil) ff rfl fun g1 => ⟨_, _, [0, 1, 2], rfl, (.cons 1 rfl <| .cons 2 rfl <| .cons 3 rfl <| .nil), (.cons 0 rfl <| .cons 1 rfl <| .cons 2 rfl <| .nil), ?_⟩)
 refine JN_then ?_
 refine J_seq ?_
 refine J_seq (J_reg [] (.cons (.rd 0) _ _ (op_get_ag 0 ag28 (Lk.t rfl) rfl mem_blk rfl rfl) <| .cons (.no) _ _ (op_call (rchk_ok) ⟨(Lk.t rfl),  trivial⟩) <| .cons (.no) _ _ (op_assign (Lk.t rfl)) <| .nil) ff rfl fun g2 => ⟨_, _, [0, 1, 2], rfl, (.cons 1 rfl <| .cons 2 rfl <| .cons 3 rfl <| .cons 5 rfl <| .nil), (.cons 0 rfl <| .cons 1 rfl <| .cons 2 rfl <| .nil), ?_⟩)
 refine JN_then ?_
 refine J_seq (J_reg [] (.cons (.no) _ _ (op_move (Lk.t rfl)) <| .cons (.no) _ _ (op_cmp (by simp) (Lk.t rfl) (Lk.k rfl) rfl) <| .nil) ff rfl fun g3 => ⟨_, _, [0, 1, 2], rfl, (.cons 1 rfl <| .cons 2 rfl <| .cons 3 rfl <| .cons 5 rfl <| .cons 22 rfl <| .nil), (.cons 0 rfl <| .cons 1 rfl <| .cons 2 rfl <| .nil), ?_⟩)
 refine JN_then ?_
 refine J_cond (cond_of (Lk.t rfl)) (fun h1 => ?_) (fun h1 => ?_)
 ·have h1' := h1
  try simp only [cmpB, Za, Zb, Zc, Zd, Ze, Zf, Zg, Zh, Zi, Zj, Zk, Zl, Zm, Zn, Zo, Zp, Zq, Zr] at h1
  refine J_seq (J_reg [] (.cons (.no) _ _ (op_build zr28 rfl pl28 .nil) <| .cons (.no) _ _ (op_build zr28 rfl pl28 .nil) <| .cons (.no) _ _ (op_move (Lk.t rfl)) <| .cons (.wr 1) _ _ (op_store_b 1 (Lk.t rfl) (Lk.t rfl) co_agg sz28 rfl rfl rfl) <| .cons (.wr 2) _ _ (op_store_b 2 (Lk.t rfl) (Lk.t rfl) co_agg sz28 rfl rfl rfl) <| .cons (.no) _ _ (op_assign (Lk.t rfl)) <| .nil) ff rfl fun g4 => ⟨_, _, [1, 2], rfl, (.cons 2 rfl <| .cons 3 rfl <| .cons 4 rfl <| .nil), (.cons 1 rfl <| .cons 2 rfl <| .nil), ?_⟩)
  refine JN_then ?_
  refine J_ret ?_
  refine JN_then_ret ?_
  refine JN_ret (.cons (.ag 0 (Lk.t rfl) ag28 rfl rfl rfl) <| .cons (.ag 1 (Lk.t rfl) ag28 rfl rfl rfl) <| .cons (.tmp (Lk.t rfl)) <| .nil) (sb_trans (sb_res (.cons (sb_agg (.cons sb_refl <| .cons sb_refl <| .cons (sb_nil (mk := flp)) <| .nil)) <| .cons (sb_agg (.cons sb_refl <| .cons sb_refl <| .cons (sb_nil (mk := flp)) <| .nil)) <| .cons sb_refl <| .nil)) ?_)
  exact sb_eq (by rw [rqrM_1 (by simpa using h1)]; rfl)
 ·have h1' := h1
  try simp only [cmpB, Za, Zb, Zc, Zd, Ze, Zf, Zg, Zh, Zi, Zj, Zk, Zl, Zm, Zn, Zo, Zp, Zq, Zr] at h1
  have hz : chk r c xs = 0 := by simpa using h1
  have hck := chk_good hz
  obtain ⟨hs1, hs2, hs3, hs4⟩ := hck.1
  have hl := hck.2
  have hF : FinL xs := finL_mk (chk_zero.1 hz).2 hlt
  refine J_skip ?_
  refine JN_then ?_
  refine J_seq ?_
  refine J_seq (J_reg [] (.cons (.no) _ _ (op_field_own fd28_0 (Lk.t rfl) rfl) <| .cons (.rd 0) _ _ (op_get_sc 0 sc3 (Lk.t rfl) rfl mem_blk rfl) <| .cons (.no) _ _ (op_field_own fd28_1 (Lk.t rfl) rfl) <| .cons (.rd 0) _ _ (op_get_sc 0 sc3 (Lk.t rfl) rfl mem_blk rfl) <| .cons (.no) _ _ (op_cmp (by simp) (Lk.t rfl) (Lk.t rfl) rfl) <| .nil) ff rfl fun g5 => ⟨_, _, [0, 1, 2], rfl, (.cons 1 rfl <| .cons 2 rfl <| .cons 3 rfl <| .cons 30 rfl <| .nil), (.cons 0 rfl <| .cons 1 rfl <| .cons 2 rfl <| .nil), ?_⟩)
  refine JN_then ?_
  refine J_cond (cond_of (Lk.t rfl)) (fun h2 => ?_) (fun h2 => ?_)
  ·have h2' := h2
   try simp only [cmpB, Za, Zb, Zc, Zd, Ze, Zf, Zg, Zh, Zi, Zj, Zk, Zl, Zm, Zn, Zo, Zp, Zq, Zr] at h2
   refine J_seq (J_reg [] (.cons (.no) _ _ (op_build zr28 rfl pl28 .nil) <| .cons (.no) _ _ (op_build zr28 rfl pl28 .nil) <| .cons (.wr 1) _ _ (op_store_b 1 (Lk.t rfl) (Lk.t rfl) co_agg sz28 rfl rfl rfl) <| .cons (.wr 2) _ _ (op_store_b 2 (Lk.t rfl) (Lk.t rfl) co_agg sz28 rfl rfl rfl) <| .cons (.no) _ _ (op_assign (Lk.k rfl)) <| .nil) ff rfl fun g6 => ⟨_, _, [1, 2], rfl, (.cons 2 rfl <| .cons 3 rfl <| .cons 4 rfl <| .nil), (.cons 1 rfl <| .cons 2 rfl <| .nil), ?_⟩)
   refine JN_then ?_
   refine J_ret ?_
   refine JN_then_ret ?_
   refine JN_ret (.cons (.ag 0 (Lk.t rfl) ag28 rfl rfl rfl) <| .cons (.ag 1 (Lk.t rfl) ag28 rfl rfl rfl) <| .cons (.tmp (Lk.t rfl)) <| .nil) (sb_trans (sb_res (.cons (sb_agg (.cons sb_refl <| .cons sb_refl <| .cons (sb_nil (mk := flp)) <| .nil)) <| .cons (sb_agg (.cons sb_refl <| .cons sb_refl <| .cons (sb_nil (mk := flp)) <| .nil)) <| .cons sb_refl <| .nil)) ?_)
   exact sb_eq (by rw [rqrM_2 hz h2]; rfl)
  ·have h2' := h2
   try simp only [cmpB, Za, Zb, Zc, Zd, Ze, Zf, Zg, Zh, Zi, Zj, Zk, Zl, Zm, Zn, Zo, Zp, Zq, Zr] at h2
   have hrc : ¬ r < c := by omega
   obtain ⟨n, rfl⟩ : ∃ n : Nat, c = (n : Int) := ⟨c.toNat, by omega⟩
   obtain ⟨m, rfl⟩ : ∃ m : Nat, r = (m : Int) := ⟨r.toNat, by omega⟩
   have hT0 : RtrI (colX (m : Int) (n : Int) xs) n m 0 := rqr_start hF
   have hs0 : Siz (m : Int) (n : Int) := hck.1
   have hsm : Siz (m : Int) (m : Int) := ⟨by omega, by omega, by omega, by omega⟩
   have hsn : Siz (n : Int) (n : Int) := ⟨by omega, by omega, by omega, by omega⟩
   have hnm : n ≤ m := by omega
   have hmm := hs0.mul
   have hxl : xs.length ≤ 144 := by omega
   refine J_skip ?_
   refine JN_then ?_
   refine J_to (To.emps 2) ?_
   refine J_seq (J_reg [[], [0], [], [2], [], [], [5], [4, 5, 6], [0, 1, 2, 3, 4, 5, 6, 7], [], [0, 1, 2, 3, 4, 5, 6, 7, 8, 9]] (.cons (.no) _ _ (op_field_own fd28_0 (Lk.t rfl) rfl) <| .cons (.rd 0) _ _ (op_get_sc 0 sc3 (Lk.t rfl) rfl mem_blk rfl) <| .cons (.no) _ _ (op_field_own fd28_1 (Lk.t rfl) rfl) <| .cons (.rd 0) _ _ (op_get_sc 0 sc3 (Lk.t rfl) rfl mem_blk rfl) <| .cons (.wr 3) _ _ (op_build0 (mk := flp) 3 sl26 rfl) <| .cons (.no) _ _ (op_field_own fd28_2 (Lk.t rfl) rfl) <| .cons (.rd 0) _ _ (op_get_sc 0 sc26 (Lk.t rfl) rfl mem_blk rfl) <| .cons (.wr 3) _ _ (op_vr 37 3 rfl rfl (fun u => (op_append_ms 3 sl26 zr36 rfl (Lk.t rfl) (Lk.t rfl) rfl (by rw [List.length_nil]; omega) (by rw [List.length_nil]; omega)))) <| .cons (.no) _ _ (op_ve 40 41 rfl rfl rfl (fun f => (op_build zr28 rfl pl28 (.cons rfl (Lk.t rfl) co_isv rfl (puts_l rfl (Nat.le_of_ble_eq_true rfl)) (.cons rfl (Lk.t rfl) co_isv rfl (puts_l rfl (Nat.le_of_ble_eq_true rfl)) (.cons rfl (Lk.t rfl) co_isv rfl (puts_l rfl (Nat.le_of_ble_eq_true rfl)) .nil))))) (fun f g h => by rw [h 40 (show 40 ∈ [40] from by decide)]) rfl) <| .cons (.wr 4) _ _ (op_alloc 4 zr28 rfl rfl) <| .cons (.wr 4) _ _ (op_store_new_ve 4 rfl rfl rfl (fun f => co_agg) (fun f g h => by rw [h 40 (show 40 ∈ [40] from by decide)]) (fun _ => sz28) rfl (fun _ => rfl) rfl) <| .nil) (fun _ => mixed) rfl fun g7 => ⟨_, _, [0, 1, 2, 3, 4], rfl, (.cons 1 rfl <| .cons 2 rfl <| .cons 3 rfl <| .cons 6 rfl <| .nil), (.cons 0 rfl <| .cons 1 rfl <| .cons 2 rfl <| .cons 3 rfl <| .cons 4 rfl <| .nil), ?_⟩)
   refine JN_then ?_
   refine J_seq (J_reg [] (.cons (.no) _ _ (op_assign (Lk.k rfl)) <| .nil) ff rfl fun g8 => ⟨_, _, [0, 1, 2, 3, 4], rfl, (.cons 1 rfl <| .cons 2 rfl <| .cons 3 rfl <| .cons 6 rfl <| .cons 7 rfl <| .nil), (.cons 0 rfl <| .cons 1 rfl <| .cons 2 rfl <| .cons 3 rfl <| .cons 4 rfl <| .nil), ?_⟩)
   refine JN_then ?_
   refine J_seq (J_reg [] (.cons (.no) _ _ (op_assign (Lk.k rfl)) <| .nil) ff rfl fun g9 => ⟨_, _, [0, 1, 2, 3, 4], rfl, (.cons 1 rfl <| .cons 2 rfl <| .cons 3 rfl <| .cons 6 rfl <| .cons 7 rfl <| .cons 8 rfl <| .nil), (.cons 0 rfl <| .cons 1 rfl <| .cons 2 rfl <| .cons 3 rfl <| .cons 4 rfl <| .nil), ?_⟩)
   refine JN_then ?_
   refine J_seq ?_
   refine J_to (To.res 3 (r' := som (g7 40) flp (colsM m n (colX (m : Int) (n : Int) xs)) 36) rfl (res_eq (by rw [List.nil_append, colsM_self hck])) rfl) ?_
   refine J_to (To.emps 2) ?_
   refine J_to (To.res 5 (r' := som (.slice none 0 0) (slm flp) [] 26) rfl som_nil rfl) ?_
   refine J_to (To.res 6 (r' := som (.slice none 0 0) flp [] 36) rfl som_nil rfl) ?_
   refine J_seq (J_reg [] (.cons (.no) _ _ (op_assign (Lk.k rfl)) <| .nil) ff rfl fun g10 => ⟨_, _, [0, 1, 2, 3, 4, 5, 6], rfl, (.cons 1 rfl <| .cons 2 rfl <| .cons 3 rfl <| .cons 6 rfl <| .cons 7 rfl <| .cons 8 rfl <| .cons 9 rfl <| .nil), (.cons 0 rfl <| .cons 1 rfl <| .cons 2 rfl <| .cons 3 rfl <| .cons 4 rfl <| .cons 5 rfl <| .cons 6 rfl <| .nil), ?_⟩)
   refine JN_then ?_
   refine J_block ?_
   refine J_loopc (α := Nat × Value × Value) (fun x => x.1 ≤ n ∧ RtrI (colX (m : Int) (n : Int) xs) n m x.1) (fun x => n - x.1) (fun x restR => (9, isv (.int .i64 (x.1 : Int))) :: (7, isv x.2.1) :: (8, isv x.2.2) :: restR) (fun x restS => som (g7 40) flp (colsM m n (rtriTo (colX (m : Int) (n : Int) xs) x.1)) 36 :: som x.2.1 (slm flp) (vsTo (colX (m : Int) (n : Int) xs) x.1) 26 :: som x.2.2 flp (wsTo (colX (m : Int) (n : Int) xs) x.1) 36 :: restS) (ρc := [(1, _), (2, _), (3, _), (6, _)]) (σc := [_, _, _, _]) (0, NILV, NILV) (by exact ⟨Nat.zero_le _, hT0⟩) (To.pick (fun _ => .sub (t := 9) rfl (sp_eq (by rfl)) <| .sub (t := 7) rfl (sp_eq (by rfl)) <| .sub (t := 8) rfl (sp_eq (by rfl)) <| .cons 1 rfl <| .cons 2 rfl <| .cons 3 rfl <| .cons 6 rfl <| .nil) (fun _ => .sub 3 rfl ((fun _ _ h => h)) <| .sub 5 rfl ((fun _ _ h => h)) <| .sub 6 rfl ((fun _ _ h => h)) <| .cons 0 rfl <| .cons 1 rfl <| .cons 2 rfl <| .cons 4 rfl <| .nil) (ks := [3, 5, 6, 0, 1, 2, 4]) rfl) (fun x hI => ?_)
   obtain ⟨i, sv, sw⟩ := x
   try simp only at hI
   show J _ _ ((9, isv (.int .i64 (i : Int))) :: (7, isv sv) :: (8, isv sw) :: _) (som (g7 40) flp (colsM m n (rtriTo (colX (m : Int) (n : Int) xs) i)) 36 :: som sv (slm flp) (vsTo (colX (m : Int) (n : Int) xs) i) 26 :: som sw flp (wsTo (colX (m : Int) (n : Int) xs) i) 36 :: _) _ _
   have hin0 : i ≤ n := hI.1
   have hT : RtrI (colX (m : Int) (n : Int) xs) n m i := hI.2
   refine J_seq ?_
   refine J_seq (J_reg [] (.cons (.no) _ _ (op_move (Lk.t rfl)) <| .cons (.no) _ _ (op_field_own fd28_1 (Lk.t rfl) rfl) <| .cons (.rd 3) _ _ (op_get_sc 3 sc3 (Lk.t rfl) rfl mem_blk rfl) <| .cons (.no) _ _ (op_cmp (by simp) (Lk.t rfl) (Lk.t rfl) rfl) <| .nil) ff rfl fun g11 => ⟨_, _, [0, 1, 2, 3, 4, 5, 6], rfl, (.cons 1 rfl <| .cons 2 rfl <| .cons 3 rfl <| .cons 6 rfl <| .cons 7 rfl <| .cons 8 rfl <| .cons 9 rfl <| .cons 45 rfl <| .nil), (.cons 0 rfl <| .cons 1 rfl <| .cons 2 rfl <| .cons 3 rfl <| .cons 4 rfl <| .cons 5 rfl <| .cons 6 rfl <| .nil), ?_⟩)
   refine JN_then ?_
   refine J_cond (cond_of (Lk.t rfl)) (fun h3 => ?_) (fun h3 => ?_)
   ·have h3' := h3
    try simp only [cmpB, Za, Zb, Zc, Zd, Ze, Zf, Zg, Zh, Zi, Zj, Zk, Zl, Zm, Zn, Zo, Zp, Zq, Zr] at h3
    have hli := hT.hl i (by omega)
    have hci := hT.hc i (by omega)
    have hvl := length_vsTo (colX (m : Int) (n : Int) xs) i
    have hwl := length_wsTo (colX (m : Int) (n : Int) xs) i
    have hrv : (rgl (rtriTo (colX (m : Int) (n : Int) xs) i) i).v.length = m - i := by unfold rgl; rw [length_rgls, List.length_drop, hli]
    refine J_skip ?_
    refine JN_then ?_
    refine J_seq ?_
    refine J_block ?_
    refine J_to (To.emps 1) ?_
    refine J_seq (J_JO ?_)
    refine JO_split 3 rfl ?_
    refine (JO_reg (.cons (.rd 6) _ _ (op_get_ag 6 ag28 (Lk.t rfl) rfl mem_blk rfl rfl) <| .cons (.no) _ _ (op_move (Lk.t rfl)) <| .cons (.wr 0) _ _ (op_callLF 0 (rcolF_ok (r := (m : Int)) (c := (n : Int)) (xs := colsM m n (rtriTo (colX (m : Int) (n : Int) xs) i)) (j := (i : Int)) (colsM_good hs0) (by omega) (by omega)) (fun _ => pure_isv _) (fun _ => pure_som pure_flp) ⟨.inr ⟨_, Lk.t rfl, lent_mat⟩, .inl (Lk.t rfl),  trivial⟩ rfl) <| .nil) rfl fun g12 => ⟨_, _, [0, 1, 2, 3, 4, 5, 6], rfl, (.cons 1 rfl <| .cons 2 rfl <| .cons 3 rfl <| .cons 6 rfl <| .cons 7 rfl <| .cons 8 rfl <| .cons 9 rfl <| .cons 51 rfl <| .nil), (.cons 0 rfl <| .cons 1 rfl <| .cons 2 rfl <| .cons 3 rfl <| .cons 4 rfl <| .cons 5 rfl <| .cons 6 rfl <| .nil), ?_⟩)
    refine JN_to (To.emps 1) ?_
    refine JN_to (To.split 0 7 rfl rfl rfl rfl) ?_
    refine JN_to (To.res 7 (r' := som (g12 51) flp ((rtriTo (colX (m : Int) (n : Int) xs) i) i) 36) rfl (res_eq (by rw [colsM_col (by omega) hli]; rfl)) rfl) ?_
    refine JN_to (To.freeze 7 (fun _ h => h) rfl frz_som rfl) ?_
    refine JN_to (To.slot 51 rfl (q := slm flp ((rtriTo (colX (m : Int) (n : Int) xs) i) i)) (sb_fk 0 rfl)) ?_
    refine JN_to (To.emps 1) ?_
    refine JN_seg ?_
    refine (JO_reg (.cons (.no) _ _ (op_move (Lk.t rfl)) <| .cons (.no) _ _ (op_slice_md sl26 (Lk.t rfl) (Lk.t rfl) (by omega) (by omega)) <| .cons (.wr 7) _ _ (op_callF 7 (rmirF_ok (xs := ((rtriTo (colX (m : Int) (n : Int) xs) i) i).drop i) (cnL_drop hci i) (by rw [List.length_drop]; omega)) ⟨(Lk.t rfl),  trivial⟩ rfl) <| .cons (.no) _ _ (op_move_ve rfl rfl) <| .cons (.no) _ _ (op_ve 48 55 rfl rfl rfl (fun f => op_extract (Lk.t rfl) rfl) (fun f g h => by first | rfl | rw [h 54 (show 54 ∈ [54] from by decide)]) rfl) <| .cons (.no) _ _ (op_ve 48 56 rfl rfl rfl (fun f => op_extract (Lk.t rfl) rfl) (fun f g h => by first | rfl | rw [h 54 (show 54 ∈ [54] from by decide)]) rfl) <| .cons (.no) _ _ (op_ve 48 57 rfl rfl rfl (fun f => op_extract (Lk.t rfl) rfl) (fun f g h => by first | rfl | rw [h 54 (show 54 ∈ [54] from by decide)]) rfl) <| .cons (.no) _ _ (op_assign_ve rfl rfl) <| .cons (.no) _ _ (op_assign_ve rfl rfl) <| .cons (.no) _ _ (op_assign_ve rfl rfl) <| .nil) rfl fun g13 => ⟨_, _, [0, 1, 2, 3, 4, 5, 6, 7], rfl, (.cons 1 rfl <| .cons 2 rfl <| .cons 3 rfl <| .cons 6 rfl <| .cons 7 rfl <| .cons 8 rfl <| .cons 9 rfl <| .cons 10 rfl <| .cons 11 rfl <| .cons 12 rfl <| .nil), (.cons 0 rfl <| .cons 1 rfl <| .cons 2 rfl <| .cons 3 rfl <| .cons 4 rfl <| .cons 5 rfl <| .cons 6 rfl <| .cons 7 rfl <| .nil), ?_⟩)
    refine JN_then ?_
    refine J_seq ?_
    refine J_to (To.freeze 7 (fun _ h => h) rfl frz_som rfl) ?_
    refine J_to (To.slot 10 rfl (q := slm flp (rgl (rtriTo (colX (m : Int) (n : Int) xs) i) i).v) (sb_fk 0 rfl)) ?_
    refine J_seq (J_reg [] (.cons (.no) _ _ (op_move (Lk.t rfl)) <| .cons (.no) _ _ (op_add (Lk.t rfl) (Lk.k rfl) (wrap_id (by omega) (by omega))) <| .cons (.no) _ _ (op_assign (Lk.t rfl)) <| .nil) ff rfl fun g14 => ⟨_, _, [0, 1, 2, 3, 4, 5, 6], rfl, (.cons 1 rfl <| .cons 2 rfl <| .cons 3 rfl <| .cons 6 rfl <| .cons 7 rfl <| .cons 8 rfl <| .cons 9 rfl <| .cons 10 rfl <| .cons 11 rfl <| .cons 12 rfl <| .cons 13 rfl <| .nil), (.cons 0 rfl <| .cons 1 rfl <| .cons 2 rfl <| .cons 3 rfl <| .cons 4 rfl <| .cons 5 rfl <| .cons 6 rfl <| .nil), ?_⟩)
    refine JN_then ?_
    refine J_block ?_
    refine J_loopc (α := Nat) (fun k => i + 1 ≤ k ∧ k ≤ n) (fun k => n - k) (fun k restR => (13, isv (.int .i64 (k : Int))) :: restR) (fun k restS => som (g7 40) flp (colsM m n (rmidF (rtriTo (colX (m : Int) (n : Int) xs) i) i k)) 36 :: restS) (ρc := [(1, _), (2, _), (3, _), (6, _), (7, _), (8, _), (9, _), (10, _), (11, _), (12, _)]) (σc := [_, _, _, _, _, _]) (i + 1) (by exact ⟨Nat.le_refl _, by omega⟩) (To.pick (fun _ => .sub (t := 13) rfl (sp_eq (by rfl)) <| .cons 1 rfl <| .cons 2 rfl <| .cons 3 rfl <| .cons 6 rfl <| .cons 7 rfl <| .cons 8 rfl <| .cons 9 rfl <| .cons 10 rfl <| .cons 11 rfl <| .cons 12 rfl <| .nil) (fun _ => .sub 0 rfl ((res_eq (by rw [← colM_mid0]))) <| .cons 1 rfl <| .cons 2 rfl <| .cons 3 rfl <| .cons 4 rfl <| .cons 5 rfl <| .cons 6 rfl <| .nil) (ks := [0, 1, 2, 3, 4, 5, 6]) rfl) (fun k hK => ?_)
    have hik : i + 1 ≤ k := hK.1
    have hkn : k ≤ n := hK.2
    refine J_seq ?_
    refine J_seq (J_reg [] (.cons (.no) _ _ (op_move (Lk.t rfl)) <| .cons (.no) _ _ (op_field_own fd28_1 (Lk.t rfl) rfl) <| .cons (.rd 3) _ _ (op_get_sc 3 sc3 (Lk.t rfl) rfl mem_blk rfl) <| .cons (.no) _ _ (op_cmp (by simp) (Lk.t rfl) (Lk.t rfl) rfl) <| .cons (.no) _ _ (op_move (Lk.t rfl)) <| .cons (.no) _ _ (op_guard rfl rfl (gd_b rfl) (fun hC => (op_move (Lk.t rfl)))) <| .cons (.no) _ _ (op_guard rfl rfl (gd_b rfl) (fun hC => (op_fcmp (by simp) (Lk.w rfl hC) (Lk.fk rfl (by decide +kernel)) rfl))) <| .cons (.no) _ _ (op_and (Lk.t rfl) (fun h2 => (Lk.w rfl h2))) <| .nil) ff rfl fun g15 => ⟨_, _, [0, 1, 2, 3, 4, 5, 6], rfl, (.cons 1 rfl <| .cons 2 rfl <| .cons 3 rfl <| .cons 6 rfl <| .cons 7 rfl <| .cons 8 rfl <| .cons 9 rfl <| .cons 10 rfl <| .cons 11 rfl <| .cons 12 rfl <| .cons 13 rfl <| .cons 67 rfl <| .nil), (.cons 0 rfl <| .cons 1 rfl <| .cons 2 rfl <| .cons 3 rfl <| .cons 4 rfl <| .cons 5 rfl <| .cons 6 rfl <| .nil), ?_⟩)
    refine JN_then ?_
    refine J_cond (cond_of (Lk.t rfl)) (fun h4 => ?_) (fun h4 => ?_)
    ·have h4' := h4
     try simp only [cmpB, Za, Zb, Zc, Zd, Ze, Zf, Zg, Zh, Zi, Zj, Zk, Zl, Zm, Zn, Zo, Zp, Zq, Zr] at h4
     have hkn2 : k < n := nat_and h4'
     have hw0 : fcmp .eql (rgl (rtriTo (colX (m : Int) (n : Int) xs) i) i).w 0 = false := neq_and h4'
     have hlk : ((rmidF (rtriTo (colX (m : Int) (n : Int) xs) i) i k) k).length = m := by rw [rmid_at (by omega)]; exact hT.hl k hkn2
     refine J_skip ?_
     refine JN_then ?_
     refine J_seq ?_
     refine J_block ?_
     refine (J_reg [] (.cons (.rd 6) _ _ (op_get_ag 6 ag28 (Lk.t rfl) rfl mem_blk rfl rfl) <| .cons (.no) _ _ (op_move (Lk.t rfl)) <| .cons (.no) _ _ (op_move (Lk.t rfl)) <| .cons (.no) _ _ (op_move (Lk.t rfl)) <| .cons (.no) _ _ (op_move (Lk.t rfl)) <| .cons (.wr 0) _ _ (op_callM 0 (down_ok (i := i) (q := k) (X := rmidF (rtriTo (colX (m : Int) (n : Int) xs) i) i k) (v := (rgl (rtriTo (colX (m : Int) (n : Int) xs) i) i).v) (w := (rgl (rtriTo (colX (m : Int) (n : Int) xs) i) i).w) hs0 (by omega) (by omega) hlk hrv) ⟨(Lk.t rfl), (Lk.t rfl), (Lk.t rfl), (Lk.t rfl), (Lk.t rfl),  trivial⟩ rfl) <| .nil) ff rfl fun g16 => ⟨_, _, [0, 1, 2, 3, 4, 5, 6], rfl, (.cons 1 rfl <| .cons 2 rfl <| .cons 3 rfl <| .cons 6 rfl <| .cons 7 rfl <| .cons 8 rfl <| .cons 9 rfl <| .cons 10 rfl <| .cons 11 rfl <| .cons 12 rfl <| .cons 13 rfl <| .nil), (.cons 0 rfl <| .cons 1 rfl <| .cons 2 rfl <| .cons 3 rfl <| .cons 4 rfl <| .cons 5 rfl <| .cons 6 rfl <| .nil), ?_⟩)
     refine JN_block ?_
     refine JN_then ?_
     refine (J_reg [] (.cons (.no) _ _ (op_move (Lk.t rfl)) <| .cons (.no) _ _ (op_add (Lk.t rfl) (Lk.k rfl) (wrap_id (by omega) (by omega))) <| .cons (.no) _ _ (op_assign (Lk.t rfl)) <| .nil) ff rfl fun g17 => ⟨_, _, [0, 1, 2, 3, 4, 5, 6], rfl, (.cons 1 rfl <| .cons 2 rfl <| .cons 3 rfl <| .cons 6 rfl <| .cons 7 rfl <| .cons 8 rfl <| .cons 9 rfl <| .cons 10 rfl <| .cons 11 rfl <| .cons 12 rfl <| .cons 13 rfl <| .nil), (.cons 0 rfl <| .cons 1 rfl <| .cons 2 rfl <| .cons 3 rfl <| .cons 4 rfl <| .cons 5 rfl <| .cons 6 rfl <| .nil), ?_⟩)
     exact JN_again (k + 1) (by exact ⟨by omega, by omega⟩) (by omega) (To.pick (fun _ => .sub (t := 13) rfl (sp_eq (by rfl)) <| .cons 1 rfl <| .cons 2 rfl <| .cons 3 rfl <| .cons 6 rfl <| .cons 7 rfl <| .cons 8 rfl <| .cons 9 rfl <| .cons 10 rfl <| .cons 11 rfl <| .cons 12 rfl <| .nil) (fun _ => .sub 0 rfl ((res_eq (congrArg (fun z => som (g7 40) flp z 36) (colM_mid (by omega) hw0)))) <| .cons 1 rfl <| .cons 2 rfl <| .cons 3 rfl <| .cons 4 rfl <| .cons 5 rfl <| .cons 6 rfl <| .nil) (ks := [0, 1, 2, 3, 4, 5, 6]) rfl)
    ·have h4' := h4
     try simp only [cmpB, Za, Zb, Zc, Zd, Ze, Zf, Zg, Zh, Zi, Zj, Zk, Zl, Zm, Zn, Zo, Zp, Zq, Zr] at h4
     have hkw : k = n ∨ fcmp .eql (rgl (rtriTo (colX (m : Int) (n : Int) xs) i) i).w 0 = true := neq_or h4' hkn
     refine J_exit ?_
     refine JN_then_exit ?_
     refine JN_then_exit ?_
     refine JN_exit_here ?_
     refine JN_then ?_
     refine J_seq ?_
     refine J_seq (J_reg [] (.cons (.no) _ _ (op_move (Lk.t rfl)) <| .cons (.no) _ _ (op_assign (Lk.t rfl)) <| .nil) ff rfl fun g18 => ⟨_, _, [0, 1, 2, 3, 4, 5, 6], rfl, (.cons 1 rfl <| .cons 2 rfl <| .cons 3 rfl <| .cons 6 rfl <| .cons 7 rfl <| .cons 8 rfl <| .cons 9 rfl <| .cons 10 rfl <| .cons 11 rfl <| .cons 12 rfl <| .cons 14 rfl <| .nil), (.cons 0 rfl <| .cons 1 rfl <| .cons 2 rfl <| .cons 3 rfl <| .cons 4 rfl <| .cons 5 rfl <| .cons 6 rfl <| .nil), ?_⟩)
     refine JN_then ?_
     refine J_block ?_
     refine J_loopc (α := Nat) (fun j => i ≤ j ∧ j ≤ m) (fun j => m - j) (fun j restR => (14, isv (.int .i64 (j : Int))) :: restR) (fun j restS => som (g7 40) flp (colsM m n (updC (rmidF (rtriTo (colX (m : Int) (n : Int) xs) i) i k) i (zerR ((rtriTo (colX (m : Int) (n : Int) xs) i) i) i j))) 36 :: restS) (ρc := [(1, _), (2, _), (3, _), (6, _), (7, _), (8, _), (9, _), (10, _), (11, _), (12, _)]) (σc := [_, _, _, _, _, _]) i (by exact ⟨Nat.le_refl _, by omega⟩) (To.pick (fun _ => .sub (t := 14) rfl (sp_eq (by rfl)) <| .cons 1 rfl <| .cons 2 rfl <| .cons 3 rfl <| .cons 6 rfl <| .cons 7 rfl <| .cons 8 rfl <| .cons 9 rfl <| .cons 10 rfl <| .cons 11 rfl <| .cons 12 rfl <| .nil) (fun _ => .sub 0 rfl ((res_eq (by rw [← colM_zer0]))) <| .cons 1 rfl <| .cons 2 rfl <| .cons 3 rfl <| .cons 4 rfl <| .cons 5 rfl <| .cons 6 rfl <| .nil) (ks := [0, 1, 2, 3, 4, 5, 6]) rfl) (fun j hJ3 => ?_)
     have hij : i ≤ j := hJ3.1
     have hjm : j ≤ m := hJ3.2
     refine J_seq ?_
     refine J_seq (J_reg [] (.cons (.no) _ _ (op_move (Lk.t rfl)) <| .cons (.no) _ _ (op_field_own fd28_0 (Lk.t rfl) rfl) <| .cons (.rd 3) _ _ (op_get_sc 3 sc3 (Lk.t rfl) rfl mem_blk rfl) <| .cons (.no) _ _ (op_cmp (by simp) (Lk.t rfl) (Lk.t rfl) rfl) <| .nil) ff rfl fun g19 => ⟨_, _, [0, 1, 2, 3, 4, 5, 6], rfl, (.cons 1 rfl <| .cons 2 rfl <| .cons 3 rfl <| .cons 6 rfl <| .cons 7 rfl <| .cons 8 rfl <| .cons 9 rfl <| .cons 10 rfl <| .cons 11 rfl <| .cons 12 rfl <| .cons 14 rfl <| .cons 80 rfl <| .nil), (.cons 0 rfl <| .cons 1 rfl <| .cons 2 rfl <| .cons 3 rfl <| .cons 4 rfl <| .cons 5 rfl <| .cons 6 rfl <| .nil), ?_⟩)
     refine JN_then ?_
     refine J_cond (cond_of (Lk.t rfl)) (fun h5 => ?_) (fun h5 => ?_)
     ·have h5' := h5
      try simp only [cmpB, Za, Zb, Zc, Zd, Ze, Zf, Zg, Zh, Zi, Zj, Zk, Zl, Zm, Zn, Zo, Zp, Zq, Zr] at h5
      refine J_skip ?_
      refine JN_then ?_
      refine J_seq ?_
      refine J_block ?_
      refine (J_reg [] (.cons (.rd 6) _ _ (op_get_ag 6 ag28 (Lk.t rfl) rfl mem_blk rfl rfl) <| .cons (.no) _ _ (op_move (Lk.t rfl)) <| .cons (.no) _ _ (op_move (Lk.t rfl)) <| .cons (.wr 0) _ _ (op_callM 0 (put_ok hs0 (colsM_len m n _) ⟨by omega, by omega, by omega, by omega⟩) ⟨(Lk.t rfl), (Lk.t rfl), (Lk.t rfl), (Lk.fk rfl (by decide +kernel)),  trivial⟩ rfl) <| .nil) ff rfl fun g20 => ⟨_, _, [0, 1, 2, 3, 4, 5, 6], rfl, (.cons 1 rfl <| .cons 2 rfl <| .cons 3 rfl <| .cons 6 rfl <| .cons 7 rfl <| .cons 8 rfl <| .cons 9 rfl <| .cons 10 rfl <| .cons 11 rfl <| .cons 12 rfl <| .cons 14 rfl <| .nil), (.cons 0 rfl <| .cons 1 rfl <| .cons 2 rfl <| .cons 3 rfl <| .cons 4 rfl <| .cons 5 rfl <| .cons 6 rfl <| .nil), ?_⟩)
      refine JN_block ?_
      refine JN_then ?_
      refine (J_reg [] (.cons (.no) _ _ (op_move (Lk.t rfl)) <| .cons (.no) _ _ (op_add (Lk.t rfl) (Lk.k rfl) (wrap_id (by omega) (by omega))) <| .cons (.no) _ _ (op_assign (Lk.t rfl)) <| .nil) ff rfl fun g21 => ⟨_, _, [0, 1, 2, 3, 4, 5, 6], rfl, (.cons 1 rfl <| .cons 2 rfl <| .cons 3 rfl <| .cons 6 rfl <| .cons 7 rfl <| .cons 8 rfl <| .cons 9 rfl <| .cons 10 rfl <| .cons 11 rfl <| .cons 12 rfl <| .cons 14 rfl <| .nil), (.cons 0 rfl <| .cons 1 rfl <| .cons 2 rfl <| .cons 3 rfl <| .cons 4 rfl <| .cons 5 rfl <| .cons 6 rfl <| .nil), ?_⟩)
      exact JN_again (j + 1) (by exact ⟨by omega, by omega⟩) (by omega) (To.pick (fun _ => .sub (t := 14) rfl (sp_eq (by rfl)) <| .cons 1 rfl <| .cons 2 rfl <| .cons 3 rfl <| .cons 6 rfl <| .cons 7 rfl <| .cons 8 rfl <| .cons 9 rfl <| .cons 10 rfl <| .cons 11 rfl <| .cons 12 rfl <| .nil) (fun _ => .sub 0 rfl ((res_eq (congrArg (fun z => som (g7 40) flp z 36) (colM_zer hs0 hli (by omega) hij (by omega))))) <| .cons 1 rfl <| .cons 2 rfl <| .cons 3 rfl <| .cons 4 rfl <| .cons 5 rfl <| .cons 6 rfl <| .nil) (ks := [0, 1, 2, 3, 4, 5, 6]) rfl)
     ·have h5' := h5
      try simp only [cmpB, Za, Zb, Zc, Zd, Ze, Zf, Zg, Zh, Zi, Zj, Zk, Zl, Zm, Zn, Zo, Zp, Zq, Zr] at h5
      have hje : j = m := by omega
      refine J_exit ?_
      refine JN_then_exit ?_
      refine JN_then_exit ?_
      refine JN_exit_here ?_
      refine JN_then ?_
      refine J_seq (J_reg [] (.cons (.rd 6) _ _ (op_get_ag 6 ag28 (Lk.t rfl) rfl mem_blk rfl rfl) <| .cons (.no) _ _ (op_move (Lk.t rfl)) <| .cons (.no) _ _ (op_move (Lk.t rfl)) <| .cons (.no) _ _ (op_move (Lk.t rfl)) <| .cons (.wr 0) _ _ (op_callM 0 (put_ok hs0 (colsM_len m n _) ⟨by omega, by omega, by omega, by omega⟩) ⟨(Lk.t rfl), (Lk.t rfl), (Lk.t rfl), (Lk.t rfl),  trivial⟩ rfl) <| .nil) ff rfl fun g22 => ⟨_, _, [0, 1, 2, 3, 4, 5, 6], rfl, (.cons 1 rfl <| .cons 2 rfl <| .cons 3 rfl <| .cons 6 rfl <| .cons 7 rfl <| .cons 8 rfl <| .cons 9 rfl <| .cons 10 rfl <| .cons 11 rfl <| .nil), (.cons 0 rfl <| .cons 1 rfl <| .cons 2 rfl <| .cons 3 rfl <| .cons 4 rfl <| .cons 5 rfl <| .cons 6 rfl <| .nil), ?_⟩)
      refine JN_then ?_
      refine J_to (To.res 0 (r' := som (g7 40) flp (colsM m n (rtriTo (colX (m : Int) (n : Int) xs) (i + 1))) 36) rfl (res_eq (by exact congrArg (fun z => som (g7 40) flp z 36) (colM_end hs0 hli (by omega) hnm hje hkw))) rfl) ?_
      refine (J_reg [] (.cons (.no) _ _ (op_move (Lk.t rfl)) <| .cons (.no) _ _ (op_move (Lk.t rfl)) <| .cons (.no) _ _ (op_buildSlice sl76 zr26 rfl rfl rfl rfl (.cons rfl (Lk.t rfl) co_slm rfl (puts_l rfl (Nat.le_of_ble_eq_true rfl)) .nil)) <| .cons (.wr 1) _ _ (op_append_m 1 sl76 zr26 rfl (Lk.t rfl) (Lk.t rfl) rfl (by rw [hvl]; omega) (by rw [hvl]; omega)) <| .cons (.no) _ _ (op_move (Lk.t rfl)) <| .cons (.no) _ _ (op_move (Lk.t rfl)) <| .cons (.no) _ _ (op_buildSlice sl26 zr36 rfl rfl rfl rfl (.cons rfl (Lk.t rfl) co_flp rfl (puts_l rfl (Nat.le_of_ble_eq_true rfl)) .nil)) <| .cons (.wr 2) _ _ (op_append_m 2 sl26 zr36 rfl (Lk.t rfl) (Lk.t rfl) rfl (by rw [hwl]; omega) (by rw [hwl]; omega)) <| .cons (.no) _ _ (op_assign_ve rfl rfl) <| .cons (.no) _ _ (op_assign_ve rfl rfl) <| .nil) ff rfl fun g23 => ⟨_, _, [0, 1, 2, 3, 4, 5, 6], rfl, (.cons 1 rfl <| .cons 2 rfl <| .cons 3 rfl <| .cons 6 rfl <| .cons 7 rfl <| .cons 8 rfl <| .cons 9 rfl <| .nil), (.cons 0 rfl <| .cons 1 rfl <| .cons 2 rfl <| .cons 3 rfl <| .cons 4 rfl <| .cons 5 rfl <| .cons 6 rfl <| .nil), ?_⟩)
      refine JN_block ?_
      refine JN_then ?_
      refine (J_reg [] (.cons (.no) _ _ (op_move (Lk.t rfl)) <| .cons (.no) _ _ (op_add (Lk.t rfl) (Lk.k rfl) (wrap_id (by omega) (by omega))) <| .cons (.no) _ _ (op_assign (Lk.t rfl)) <| .nil) ff rfl fun g24 => ⟨_, _, [0, 1, 2, 3, 4, 5, 6], rfl, (.cons 1 rfl <| .cons 2 rfl <| .cons 3 rfl <| .cons 6 rfl <| .cons 7 rfl <| .cons 8 rfl <| .cons 9 rfl <| .nil), (.cons 0 rfl <| .cons 1 rfl <| .cons 2 rfl <| .cons 3 rfl <| .cons 4 rfl <| .cons 5 rfl <| .cons 6 rfl <| .nil), ?_⟩)
      refine JN_to To.fdrop ?_
      refine JN_to To.fdrop ?_
      exact JN_again (i + 1, (g23 95), (g23 99)) (by exact ⟨show i + 1 ≤ n by omega, rtrI_step hT (by omega)⟩) (by show n - (_ + 1) < _; omega) (To.pick (fun _ => .sub (t := 9) rfl (sp_eq (by rfl)) <| .sub (t := 7) rfl (sp_eq (by rfl)) <| .sub (t := 8) rfl (sp_eq (by rfl)) <| .cons 1 rfl <| .cons 2 rfl <| .cons 3 rfl <| .cons 6 rfl <| .nil) (fun _ => .sub 0 rfl ((fun _ _ h => h)) <| .sub 1 rfl ((res_eq (by rw [vsTo_succ]))) <| .sub 2 rfl ((res_eq (by rw [wsTo_succ]; rfl))) <| .cons 3 rfl <| .cons 4 rfl <| .cons 5 rfl <| .cons 6 rfl <| .nil) (ks := [0, 1, 2, 3, 4, 5, 6]) rfl)
   ·have h3' := h3
    try simp only [cmpB, Za, Zb, Zc, Zd, Ze, Zf, Zg, Zh, Zi, Zj, Zk, Zl, Zm, Zn, Zo, Zp, Zq, Zr] at h3
    have hin : i = n := by omega
    have hvl := length_vsTo (colX (m : Int) (n : Int) xs) n
    have hwl := length_wsTo (colX (m : Int) (n : Int) xs) n
    refine J_exit ?_
    refine JN_then_exit ?_
    refine JN_then_exit ?_
    refine JN_exit_here ?_
    refine JN_then ?_
    refine J_to (To.res 0 (r' := som (g7 40) flp (colsM m n (rtriTo (colX (m : Int) (n : Int) xs) n)) 36) rfl (res_eq (by rw [hin])) rfl) ?_
    refine J_to (To.freeze 1 (fun _ h => h) rfl frz_som rfl) ?_
    refine J_to (To.slot 7 rfl (q := slm (slm flp) (vsTo (colX (m : Int) (n : Int) xs) n)) (sb_trans (sb_fk 0 rfl) (sb_eq (by rw [hin])))) ?_
    refine J_to (To.freeze 2 (fun _ h => h) rfl frz_som rfl) ?_
    refine J_to (To.slot 8 rfl (q := slm flp (wsTo (colX (m : Int) (n : Int) xs) n)) (sb_trans (sb_fk 0 rfl) (sb_eq (by rw [hin])))) ?_
    refine J_to (To.emps 2) ?_
    refine J_seq (J_reg [] (.cons (.no) _ _ (op_field_own fd28_0 (Lk.t rfl) rfl) <| .cons (.rd 3) _ _ (op_get_sc 3 sc3 (Lk.t rfl) rfl mem_blk rfl) <| .cons (.wr 1) _ _ (op_callF 1 (reyeC_ok hsm) ⟨(Lk.t rfl),  trivial⟩ rfl) <| .cons (.no) _ _ (op_move_ve rfl rfl) <| .cons (.no) _ _ (op_ve 100 104 rfl rfl rfl (fun f => op_extract (Lk.t rfl) rfl) (fun f g h => by first | rfl | rw [h 103 (show 103 ∈ [103] from by decide)]) rfl) <| .cons (.no) _ _ (op_ve 100 105 rfl rfl rfl (fun f => op_extract (Lk.t rfl) rfl) (fun f g h => by first | rfl | rw [h 103 (show 103 ∈ [103] from by decide)]) rfl) <| .cons (.wr 2) _ _ (op_alloc 2 zr28 rfl rfl) <| .cons (.wr 2) _ _ (op_store_new_ve 2 rfl rfl rfl (fun f => co_agg) (fun f g h => by rw [h 103 (show 103 ∈ [103] from by decide)]) (fun _ => sz28) rfl (fun _ => rfl) rfl) <| .cons (.no) _ _ (op_assign_ve rfl rfl) <| .nil) ff rfl fun g25 => ⟨_, _, [0, 1, 2, 3, 4, 5, 6], rfl, (.cons 1 rfl <| .cons 2 rfl <| .cons 3 rfl <| .cons 6 rfl <| .cons 7 rfl <| .cons 8 rfl <| .cons 15 rfl <| .nil), (.cons 0 rfl <| .cons 1 rfl <| .cons 2 rfl <| .cons 3 rfl <| .cons 4 rfl <| .cons 5 rfl <| .cons 6 rfl <| .nil), ?_⟩)
    refine JN_then ?_
    refine J_seq ?_
    refine J_seq (J_reg [] (.cons (.no) _ _ (op_field_own fd28_1 (Lk.t rfl) rfl) <| .cons (.rd 3) _ _ (op_get_sc 3 sc3 (Lk.t rfl) rfl mem_blk rfl) <| .cons (.no) _ _ (op_sub (Lk.t rfl) (Lk.k rfl) (wrap_id (by omega) (by omega))) <| .cons (.no) _ _ (op_assign (Lk.t rfl)) <| .nil) ff rfl fun g26 => ⟨_, _, [0, 1, 2, 3, 4, 5, 6], rfl, (.cons 1 rfl <| .cons 2 rfl <| .cons 3 rfl <| .cons 6 rfl <| .cons 7 rfl <| .cons 8 rfl <| .cons 15 rfl <| .cons 17 rfl <| .nil), (.cons 0 rfl <| .cons 1 rfl <| .cons 2 rfl <| .cons 3 rfl <| .cons 4 rfl <| .cons 5 rfl <| .cons 6 rfl <| .nil), ?_⟩)
    refine JN_then ?_
    refine J_block ?_
    refine J_loopc (α := Nat) (fun d => d ≤ n) (fun d => n - d) (fun d restR => (17, isv (.int .i64 ((n : Int) - 1 - (d : Int)))) :: restR) (fun d restS => som (agP (g25 103)) flp (colsM m m (fun q => turnP (rglsAt (colX (m : Int) (n : Int) xs)) m n q d)) 36 :: restS) (ρc := [(1, _), (2, _), (3, _), (6, _), (7, _), (8, _), (15, _)]) (σc := [_, _, _, _, _, _]) 0 (by exact Nat.zero_le _) (To.pick (fun _ => .sub (t := 17) rfl (sp_eq (by exact congrArg (fun z => isv (.int .i64 z)) (by omega))) <| .cons 1 rfl <| .cons 2 rfl <| .cons 3 rfl <| .cons 6 rfl <| .cons 7 rfl <| .cons 8 rfl <| .cons 15 rfl <| .nil) (fun _ => .sub 1 rfl ((res_eq (by rw [eyeTo_all (H := (rglsAt (colX (m : Int) (n : Int) xs))) (n := n) rfl]))) <| .cons 0 rfl <| .cons 2 rfl <| .cons 3 rfl <| .cons 4 rfl <| .cons 5 rfl <| .cons 6 rfl <| .nil) (ks := [1, 0, 2, 3, 4, 5, 6]) rfl) (fun d hI4 => ?_)
    refine J_seq ?_
    refine J_seq (J_reg [] (.cons (.no) _ _ (op_move (Lk.t rfl)) <| .cons (.no) _ _ (op_cmp (by simp) (Lk.t rfl) (Lk.k rfl) rfl) <| .nil) ff rfl fun g27 => ⟨_, _, [0, 1, 2, 3, 4, 5, 6], rfl, (.cons 1 rfl <| .cons 2 rfl <| .cons 3 rfl <| .cons 6 rfl <| .cons 7 rfl <| .cons 8 rfl <| .cons 15 rfl <| .cons 17 rfl <| .cons 110 rfl <| .nil), (.cons 0 rfl <| .cons 1 rfl <| .cons 2 rfl <| .cons 3 rfl <| .cons 4 rfl <| .cons 5 rfl <| .cons 6 rfl <| .nil), ?_⟩)
    refine JN_then ?_
    refine J_cond (cond_of (Lk.t rfl)) (fun h6 => ?_) (fun h6 => ?_)
    ·have h6' := h6
     try simp only [cmpB, Za, Zb, Zc, Zd, Ze, Zf, Zg, Zh, Zi, Zj, Zk, Zl, Zm, Zn, Zo, Zp, Zq, Zr] at h6
     have hdn : d < n := by omega
     have hvv : (vsTo (colX (m : Int) (n : Int) xs) n).getD ((n - 1 - d : Nat) : Int).toNat [] = ((rglsAt (colX (m : Int) (n : Int) xs)) (n - 1 - d)).v := vsTo_at (by omega)
     have hww : ((wsTo (colX (m : Int) (n : Int) xs) n).getD ((n - 1 - d : Nat) : Int).toNat 0) = ((rglsAt (colX (m : Int) (n : Int) xs)) (n - 1 - d)).w := wsTo_at (by omega)
     have hvn : ((vsTo (colX (m : Int) (n : Int) xs) n).getD ((n - 1 - d : Nat) : Int).toNat []).length = m - (n - 1 - d) := by rw [hvv]; unfold rglsAt rgl; rw [length_rgls, List.length_drop, (rtr_all hT0 (n - 1 - d) (by omega)).hl (n - 1 - d) (by omega)]
     refine J_skip ?_
     refine JN_then ?_
     refine J_seq ?_
     refine J_block ?_
     refine J_to (To.slot 17 rfl (q := isv (.int .i64 ((n - 1 - d : Nat) : Int))) (sb_eq (congrArg (fun z => isv (.int .i64 z)) (by omega)))) ?_
     refine J_seq (J_reg [] (.cons (.no) _ _ (op_assign (Lk.k rfl)) <| .nil) ff rfl fun g28 => ⟨_, _, [0, 1, 2, 3, 4, 5, 6], rfl, (.cons 1 rfl <| .cons 2 rfl <| .cons 3 rfl <| .cons 6 rfl <| .cons 7 rfl <| .cons 8 rfl <| .cons 15 rfl <| .cons 17 rfl <| .cons 18 rfl <| .nil), (.cons 0 rfl <| .cons 1 rfl <| .cons 2 rfl <| .cons 3 rfl <| .cons 4 rfl <| .cons 5 rfl <| .cons 6 rfl <| .nil), ?_⟩)
     refine JN_then ?_
     refine J_block ?_
     refine J_loopc (α := Nat) (fun j => j ≤ m) (fun j => m - j) (fun j restR => (18, isv (.int .i64 (j : Int))) :: restR) (fun j restS => som (agP (g25 103)) flp (colsM m m (turnM (rglsAt (colX (m : Int) (n : Int) xs)) m n d j)) 36 :: restS) (ρc := [(1, _), (2, _), (3, _), (6, _), (7, _), (8, _), (15, _), (17, _)]) (σc := [_, _, _, _, _, _]) 0 (by exact Nat.zero_le _) (To.pick (fun _ => .sub (t := 18) rfl (sp_eq (by rfl)) <| .cons 1 rfl <| .cons 2 rfl <| .cons 3 rfl <| .cons 6 rfl <| .cons 7 rfl <| .cons 8 rfl <| .cons 15 rfl <| .cons 17 rfl <| .nil) (fun _ => .sub 0 rfl ((fun _ _ h => h)) <| .cons 1 rfl <| .cons 2 rfl <| .cons 3 rfl <| .cons 4 rfl <| .cons 5 rfl <| .cons 6 rfl <| .nil) (ks := [0, 1, 2, 3, 4, 5, 6]) rfl) (fun j hI5 => ?_)
     refine J_seq ?_
     refine J_seq (J_reg [] (.cons (.no) _ _ (op_move (Lk.t rfl)) <| .cons (.no) _ _ (op_field_own fd28_0 (Lk.t rfl) rfl) <| .cons (.rd 3) _ _ (op_get_sc 3 sc3 (Lk.t rfl) rfl mem_blk rfl) <| .cons (.no) _ _ (op_cmp (by simp) (Lk.t rfl) (Lk.t rfl) rfl) <| .cons (.no) _ _ (op_move (Lk.t rfl)) <| .cons (.no) _ _ (op_guard rfl rfl (gd_b rfl) (fun hC => (op_move (Lk.t rfl)))) <| .cons (.no) _ _ (op_guard rfl rfl (gd_b rfl) (fun hC => (op_move (Lk.t rfl)))) <| .cons (.no) _ _ (op_guard rfl rfl (gd_b rfl) (fun hC => (op_index_m 0 sl26 (Lk.w rfl hC) (Lk.w rfl hC) (by omega) (by omega)))) <| .cons (.no) _ _ (op_guard rfl rfl (gd_b rfl) (fun hC => (op_load_sc sc36 (Lk.w rfl hC) rfl))) <| .cons (.no) _ _ (op_guard rfl rfl (gd_b rfl) (fun hC => (op_fcmp (by simp) (Lk.w rfl hC) (Lk.fk rfl (by decide +kernel)) rfl))) <| .cons (.no) _ _ (op_and (Lk.t rfl) (fun h2 => (Lk.w rfl h2))) <| .nil) ff rfl fun g29 => ⟨_, _, [0, 1, 2, 3, 4, 5, 6], rfl, (.cons 1 rfl <| .cons 2 rfl <| .cons 3 rfl <| .cons 6 rfl <| .cons 7 rfl <| .cons 8 rfl <| .cons 15 rfl <| .cons 17 rfl <| .cons 18 rfl <| .cons 123 rfl <| .nil), (.cons 0 rfl <| .cons 1 rfl <| .cons 2 rfl <| .cons 3 rfl <| .cons 4 rfl <| .cons 5 rfl <| .cons 6 rfl <| .nil), ?_⟩)
     refine JN_then ?_
     refine J_cond (cond_of (Lk.t rfl)) (fun h7 => ?_) (fun h7 => ?_)
     ·have h7' := h7
      try simp only [cmpB, Za, Zb, Zc, Zd, Ze, Zf, Zg, Zh, Zi, Zj, Zk, Zl, Zm, Zn, Zo, Zp, Zq, Zr] at h7
      have hjm : j < m := nat_and h7'
      have hw0 : fcmp .eql ((wsTo (colX (m : Int) (n : Int) xs) n).getD ((n - 1 - d : Nat) : Int).toNat 0) 0 = false := neq_and h7'
      refine J_skip ?_
      refine JN_then ?_
      refine J_seq ?_
      refine J_block ?_
      refine (J_reg [[], [], [], [], [], [3, 4], [3, 4, 5], [], [], [7, 8], [7, 8, 9], [0, 1, 2, 3, 4, 5, 6, 7, 8, 9, 10]] (.cons (.rd 2) _ _ (op_get_ag 2 ag28 (Lk.t rfl) rfl mem_blk rfl rfl) <| .cons (.no) _ _ (op_move (Lk.t rfl)) <| .cons (.no) _ _ (op_move (Lk.t rfl)) <| .cons (.no) _ _ (op_move (Lk.t rfl)) <| .cons (.no) _ _ (op_move (Lk.t rfl)) <| .cons (.no) _ _ (op_index_m [] sl76 (Lk.t rfl) (Lk.t rfl) (by omega) (by omega)) <| .cons (.no) _ _ (op_load_sc sc26 (Lk.t rfl) rfl) <| .cons (.no) _ _ (op_move (Lk.t rfl)) <| .cons (.no) _ _ (op_move (Lk.t rfl)) <| .cons (.no) _ _ (op_index_m 0 sl26 (Lk.t rfl) (Lk.t rfl) (by omega) (by omega)) <| .cons (.no) _ _ (op_load_sc sc36 (Lk.t rfl) rfl) <| .cons (.wr 0) _ _ (op_callM 0 (down_ok (i := n - 1 - d) (q := j) (X := turnM (rglsAt (colX (m : Int) (n : Int) xs)) m n d j) (v := (vsTo (colX (m : Int) (n : Int) xs) n).getD ((n - 1 - d : Nat) : Int).toNat []) (w := ((wsTo (colX (m : Int) (n : Int) xs) n).getD ((n - 1 - d : Nat) : Int).toNat 0)) hsm (by omega) (by omega) turnM_len hvn) ⟨(Lk.t rfl), (Lk.t rfl), (Lk.t rfl), (Lk.t rfl), (Lk.t rfl),  trivial⟩ rfl) <| .nil) (fun _ => mixed) rfl fun g30 => ⟨_, _, [0, 1, 2, 3, 4, 5, 6], rfl, (.cons 1 rfl <| .cons 2 rfl <| .cons 3 rfl <| .cons 6 rfl <| .cons 7 rfl <| .cons 8 rfl <| .cons 15 rfl <| .cons 17 rfl <| .cons 18 rfl <| .nil), (.cons 0 rfl <| .cons 1 rfl <| .cons 2 rfl <| .cons 3 rfl <| .cons 4 rfl <| .cons 5 rfl <| .cons 6 rfl <| .nil), ?_⟩)
      refine JN_block ?_
      refine JN_then ?_
      refine (J_reg [] (.cons (.no) _ _ (op_move (Lk.t rfl)) <| .cons (.no) _ _ (op_add (Lk.t rfl) (Lk.k rfl) (wrap_id (by omega) (by omega))) <| .cons (.no) _ _ (op_assign (Lk.t rfl)) <| .nil) ff rfl fun g31 => ⟨_, _, [0, 1, 2, 3, 4, 5, 6], rfl, (.cons 1 rfl <| .cons 2 rfl <| .cons 3 rfl <| .cons 6 rfl <| .cons 7 rfl <| .cons 8 rfl <| .cons 15 rfl <| .cons 17 rfl <| .cons 18 rfl <| .nil), (.cons 0 rfl <| .cons 1 rfl <| .cons 2 rfl <| .cons 3 rfl <| .cons 4 rfl <| .cons 5 rfl <| .cons 6 rfl <| .nil), ?_⟩)
      exact JN_again (j + 1) (by omega) (by omega) (To.pick (fun _ => .sub (t := 18) rfl (sp_eq (by rfl)) <| .cons 1 rfl <| .cons 2 rfl <| .cons 3 rfl <| .cons 6 rfl <| .cons 7 rfl <| .cons 8 rfl <| .cons 15 rfl <| .cons 17 rfl <| .nil) (fun _ => .sub 0 rfl ((res_eq (congrArg (fun z => som (agP (g25 103)) flp z 36) (turnM_step rfl hvv hww hw0)))) <| .cons 1 rfl <| .cons 2 rfl <| .cons 3 rfl <| .cons 4 rfl <| .cons 5 rfl <| .cons 6 rfl <| .nil) (ks := [0, 1, 2, 3, 4, 5, 6]) rfl)
     ·have h7' := h7
      try simp only [cmpB, Za, Zb, Zc, Zd, Ze, Zf, Zg, Zh, Zi, Zj, Zk, Zl, Zm, Zn, Zo, Zp, Zq, Zr] at h7
      have hjw : j = m ∨ fcmp .eql ((wsTo (colX (m : Int) (n : Int) xs) n).getD ((n - 1 - d : Nat) : Int).toNat 0) 0 = true := neq_or h7' hI5
      rw [hww] at hjw
      refine J_exit ?_
      refine JN_then_exit ?_
      refine JN_then_exit ?_
      refine JN_exit_here ?_
      refine JN_block ?_
      refine JN_then ?_
      refine J_to (To.res 0 (r' := som (agP (g25 103)) flp (colsM m m (fun q => turnP (rglsAt (colX (m : Int) (n : Int) xs)) m n q (d + 1))) 36) rfl (res_eq (by rw [turnM_end hjw])) rfl) ?_
      refine (J_reg [] (.cons (.no) _ _ (op_move (Lk.t rfl)) <| .cons (.no) _ _ (op_sub (Lk.t rfl) (Lk.k rfl) (wrap_id (by omega) (by omega))) <| .cons (.no) _ _ (op_assign (Lk.t rfl)) <| .nil) ff rfl fun g32 => ⟨_, _, [0, 1, 2, 3, 4, 5, 6], rfl, (.cons 1 rfl <| .cons 2 rfl <| .cons 3 rfl <| .cons 6 rfl <| .cons 7 rfl <| .cons 8 rfl <| .cons 15 rfl <| .cons 17 rfl <| .nil), (.cons 0 rfl <| .cons 1 rfl <| .cons 2 rfl <| .cons 3 rfl <| .cons 4 rfl <| .cons 5 rfl <| .cons 6 rfl <| .nil), ?_⟩)
      exact JN_again (d + 1) (by omega) (by omega) (To.pick (fun _ => .sub (t := 17) rfl (sp_eq (by exact congrArg (fun z => isv (.int .i64 z)) (by omega))) <| .cons 1 rfl <| .cons 2 rfl <| .cons 3 rfl <| .cons 6 rfl <| .cons 7 rfl <| .cons 8 rfl <| .cons 15 rfl <| .nil) (fun _ => .sub 0 rfl ((fun _ _ h => h)) <| .cons 1 rfl <| .cons 2 rfl <| .cons 3 rfl <| .cons 4 rfl <| .cons 5 rfl <| .cons 6 rfl <| .nil) (ks := [0, 1, 2, 3, 4, 5, 6]) rfl)
    ·have h6' := h6
     try simp only [cmpB, Za, Zb, Zc, Zd, Ze, Zf, Zg, Zh, Zi, Zj, Zk, Zl, Zm, Zn, Zo, Zp, Zq, Zr] at h6
     have hde : d = n := by omega
     refine J_exit ?_
     refine JN_then_exit ?_
     refine JN_then_exit ?_
     refine JN_exit_here ?_
     refine JN_then ?_
     refine J_to (To.res 0 (r' := som (agP (g25 103)) flp (colsM m m (fun q => turnP (rglsAt (colX (m : Int) (n : Int) xs)) m n q n)) 36) rfl (res_eq (by rw [hde])) rfl) ?_
     refine J_to (To.freeze 0 (fun _ h => h) rfl frz_som rfl) ?_
     refine J_to (To.freeze 1 (fun _ h => h) rfl frz_som rfl) ?_
     refine J_seq (J_reg [] (.cons (.rd 2) _ _ (op_get_ag 2 ag28 (Lk.t rfl) rfl mem_blk rfl rfl) <| .cons (.rd 6) _ _ (op_get_ag 6 ag28 (Lk.t rfl) rfl mem_blk rfl rfl) <| .cons (.no) _ _ (op_field_own fd28_1 (Lk.t rfl) rfl) <| .cons (.rd 3) _ _ (op_get_sc 3 sc3 (Lk.t rfl) rfl mem_blk rfl) <| .cons (.no) _ _ (op_call (ends_ok (ys := colsM m m (fun q => turnP (rglsAt (colX (m : Int) (n : Int) xs)) m n q n)) (xs := colsM m n (rtriTo (colX (m : Int) (n : Int) xs) n)) hs0 hsn (colsM_good hsm) (colsM_good hs0) hnm) ⟨(Lk.sub (sb_agg (.cons sb_refl <| .cons sb_refl <| .cons (sb_fk 1 rfl) <| .nil)) (Lk.t rfl)), (Lk.sub (sb_agg (.cons sb_refl <| .cons sb_refl <| .cons (sb_fk 0 rfl) <| .nil)) (Lk.t rfl)), (Lk.t rfl),  trivial⟩) <| .cons (.no) _ _ (op_extract (Lk.t rfl) rfl) <| .cons (.no) _ _ (op_extract (Lk.t rfl) rfl) <| .cons (.no) _ _ (op_extract (Lk.t rfl) rfl) <| .cons (.wr 4) _ _ (op_store_b 4 (Lk.t rfl) (Lk.t rfl) co_agg sz28 rfl rfl rfl) <| .cons (.wr 5) _ _ (op_store_b 5 (Lk.t rfl) (Lk.t rfl) co_agg sz28 rfl rfl rfl) <| .cons (.no) _ _ (op_assign (Lk.t rfl)) <| .nil) ff rfl fun g33 => ⟨_, _, [4, 5], rfl, (.cons 2 rfl <| .cons 3 rfl <| .cons 4 rfl <| .nil), (.cons 4 rfl <| .cons 5 rfl <| .nil), ?_⟩)
     refine JN_then ?_
     refine J_ret ?_
     refine JN_ret (.cons (.ag 0 (Lk.t rfl) ag28 rfl rfl rfl) <| .cons (.ag 1 (Lk.t rfl) ag28 rfl rfl rfl) <| .cons (.tmp (Lk.t rfl)) <| .nil) (sb_trans (sb_res (.cons sb_refl <| .cons sb_refl <| .cons sb_refl <| .nil)) ?_)
     exact sb_eq (by rw [rqrM_4 hz hrc, ← eQ_eq hnm, ← eR_eq hnm]; rfl)
end Go.Proofs.YtllkellonjhalaaGreat
