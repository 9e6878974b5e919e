/- Printed by a program of ours (walk.py): walks of the matrix package: what is answered is new memory. -/
import Derived.Test.YtmakephdanbmaaaFrKb
import Derived.Test.YtmakephdanbmaaaProg
import Derived.KernelRfl
import Derived.Test.YtmakephdanbmaaaFrTypes
import Derived.Test.YtmakephdanbmaaaFrWParts
import Derived.Test.YtmakephdanbmaaaFrWSums
import Derived.Test.YtmakephdanbmaaaFrKc
import Derived.Test.YtmakephdanbmaaaFrNew
set_option linter.unusedVariables false
set_option linter.unusedSimpArgs false
set_option maxRecDepth 20000
set_option maxHeartbeats 1000000
namespace Go.Proofs.Ytmakephdanbmaaa
open Go Go.Bn
attribute [local irreducible] OpOK
theorem fillN_ok {r c : Int} {f : Int → Int → Nat} (hs : Siz r c) : CtN Try.prog 68 [isv (.int .i64 r), isv (.int .i64 c), fnp (P := Try.prog) (Pl r c) (fun i j => flp (f i j))] (MatP r c (grid r c f)) := (fillF_ok hs).ctN (fun u => frz_som) (fun n u => (pure_som pure_flp).n) (fun n u => np_pure (pure_agg (.cons (pure_isv _) <| .cons (pure_isv _) <| .cons (pure_isv _) .nil))) fun u => sb_agg (.cons sb_refl <| .cons sb_refl <| .cons (sb_fk 0 rfl) <| .nil)
theorem colN_ok {r c j : Int} {xs : List Nat} (hg : Good r c xs) (i0 : 0 ≤ j) (i1 : j < c) : CtN Try.prog 31 [MatP r c xs, isv (.int .i64 j)] (fls (colL r c xs j)) := by
  refine CtN.of Try.func31 rfl (by kernel_rfl) rfl fun c0 => ?_
  refine J_to To.size ?_
  obtain ⟨hs1, hs2, hs3, hs4⟩ := hg.1
  refine J_to (To.emps 1) ?_
  refine J_seq (J_reg [] (
      .cons (.wr 0) _ _ (op_box 0 (Lk.t rfl) co_agg rfl) <|
      .cons (.no) _ _ (op_assign (Lk.k rfl)) <|
      .nil) ff rfl fun g1 => ⟨_, _, [0], rfl, (.cons 1 rfl <| .cons 2 rfl <| .nil), (.cons 0 rfl <| .nil), ?_⟩)
  refine JN_then ?_
  refine J_seq (J_reg [] (
      .cons (.no) _ _ (op_assign (Lk.k rfl)) <|
      .nil) ff rfl fun g2 => ⟨_, _, [0], rfl, (.cons 1 rfl <| .cons 2 rfl <| .cons 5 rfl <| .nil), (.cons 0 rfl <| .nil), ?_⟩)
  refine JN_then ?_
  refine J_seq ?_
  refine J_seq (J_reg [] (
      .cons (.no) _ _ (op_field_own fd28_0 (Lk.t rfl) rfl) <|
      .cons (.rd 0) _ _ (op_get_sc 0 sc3 (Lk.t rfl) rfl mem_blk rfl) <|
      .cons (.no) _ _ (op_move (Lk.k rfl)) <|
      .nil) ff rfl fun g3 => ⟨_, _, [0], rfl, (.cons 1 rfl <| .cons 2 rfl <| .cons 5 rfl <| .cons 8 rfl <| .cons 9 rfl <| .nil), (.cons 0 rfl <| .nil), ?_⟩)
  refine JN_then ?_
  refine J_block ?_
  refine J_to (To.emps 1) ?_
  refine J_loopc (α := Nat × Value) (fun x => x.1 ≤ r.toNat) (fun x => r.toNat - x.1) (fun x restR => (9, isv (.int .i64 (x.1 : Int))) :: (5, isv x.2) :: restR) (fun x restS => som x.2 flp ((colL r c xs j).take x.1) 37 :: restS) (ρc := [(1, _), (2, _), (8, _)]) (σc := [_]) (0, .slice none 0 0) (by exact Nat.zero_le _) (To.pick (fun _ => .sub (t := 9) rfl (sp_eq (by rfl)) <| .sub (t := 5) rfl (sp_eq (by rfl)) <| .cons 1 rfl <| .cons 2 rfl <| .cons 8 rfl <| .nil) (fun _ => .sub 1 rfl (som_nil) <| .cons 0 rfl <| .nil) (ks := [1, 0]) rfl) (fun x hI => ?_)
  obtain ⟨k, sv⟩ := x
  try simp only at hI
  show J _ _ ((9, isv (.int .i64 (k : Int))) :: (5, isv sv) :: _) (som sv flp ((colL r c xs j).take k) 37 :: _) _ _
  refine J_seq (J_reg [] (
      .cons (.no) _ _ (op_cmp (by simp) (Lk.t rfl) (Lk.t rfl) rfl) <|
      .nil) ff rfl fun g4 => ⟨_, _, [0, 1], rfl, (.cons 1 rfl <| .cons 2 rfl <| .cons 5 rfl <| .cons 8 rfl <| .cons 9 rfl <| .cons 10 rfl <| .nil), (.cons 0 rfl <| .cons 1 rfl <| .nil), ?_⟩)
  refine JN_then ?_
  refine J_seq ?_
  refine J_cond (cond_of (Lk.t rfl)) (fun h1 => ?_) (fun h1 => ?_)
  · have h1' := h1
    try simp only [cmpB, Bool.and_eq_true, Bool.or_eq_true, Bool.and_eq_false_iff, Bool.or_eq_false_iff, Bool.not_eq_true', Bool.not_eq_false', Bool.not_eq_true, Bool.not_eq_false, decide_eq_true_eq, decide_eq_false_iff_not, Int.not_lt, Int.not_le, beq_iff_eq, bne_iff_ne, beq_eq_false_iff_ne, bne_eq_false_iff_eq, ne_eq, Decidable.not_not] at h1
    refine J_skip ?_
    refine JN_then ?_
    refine J_seq ?_
    refine J_block ?_
    refine J_seq (J_reg [] (
        .cons (.no) _ _ (op_move (Lk.t rfl)) <|
        .cons (.no) _ _ (op_assign (Lk.t rfl)) <|
        .nil) ff rfl fun g5 => ⟨_, _, [0, 1], rfl, (.cons 1 rfl <| .cons 2 rfl <| .cons 5 rfl <| .cons 6 rfl <| .cons 8 rfl <| .cons 9 rfl <| .nil), (.cons 0 rfl <| .cons 1 rfl <| .nil), ?_⟩)
    refine JN_then ?_
    refine (J_reg [] (
        .cons (.no) _ _ (op_move (Lk.t rfl)) <|
        .cons (.rd 1) _ _ (op_get_ag 1 ag28 (Lk.t rfl) rfl mem_blk rfl rfl) <|
        .cons (.no) _ _ (op_move (Lk.t rfl)) <|
        .cons (.no) _ _ (op_move (Lk.t rfl)) <|
        .cons (.no) _ _ (op_call (at_ok hg ⟨by omega, by omega, i0, i1⟩) ⟨(Lk.t rfl), (Lk.t rfl), (Lk.t rfl),  trivial⟩) <|
        .cons (.no) _ _ (op_buildSlice sl26 zr37 rfl rfl rfl rfl (.cons rfl (Lk.t rfl) co_flp rfl (puts_l rfl (Nat.le_of_ble_eq_true rfl)) .nil)) <|
        .cons (.wr 0) _ _ (op_append_m 0 sl26 zr37 rfl (Lk.t rfl) (Lk.t rfl) rfl (by rw [List.length_take, length_colL]; omega) (by rw [List.length_take, length_colL]; omega)) <|
        .cons (.no) _ _ (op_assign_ve rfl rfl) <|
        .nil) ff rfl fun g6 => ⟨_, _, [0, 1], rfl, (.cons 1 rfl <| .cons 2 rfl <| .cons 5 rfl <| .cons 8 rfl <| .cons 9 rfl <| .nil), (.cons 0 rfl <| .cons 1 rfl <| .nil), ?_⟩)
    refine JN_block ?_
    refine JN_then ?_
    refine (J_reg [] (
        .cons (.no) _ _ (op_add (Lk.t rfl) (Lk.k rfl) (wrap_id (by omega) (by omega))) <|
        .cons (.no) _ _ (op_move (Lk.t rfl)) <|
        .nil) ff rfl fun g7 => ⟨_, _, [0, 1], rfl, (.cons 1 rfl <| .cons 2 rfl <| .cons 5 rfl <| .cons 8 rfl <| .cons 9 rfl <| .nil), (.cons 0 rfl <| .cons 1 rfl <| .nil), ?_⟩)
    exact JN_again (k + 1, g6 18) (by exact (show k + 1 ≤ r.toNat by omega)) (by show r.toNat - (_ + 1) < _; omega) (To.pick (fun _ => .sub (t := 9) rfl (sp_eq (by rfl)) <| .sub (t := 5) rfl (sp_eq (by rfl)) <| .cons 1 rfl <| .cons 2 rfl <| .cons 8 rfl <| .nil) (fun _ => .sub 0 rfl ((res_eq (by rw [show (colL r c xs j).take (k + 1) = (colL r c xs j).take k ++ [mat c xs k j] from take_colL (by omega)]))) <| .cons 1 rfl <| .nil) (ks := [0, 1]) rfl)
  · have h1' := h1
    try simp only [cmpB, Bool.and_eq_true, Bool.or_eq_true, Bool.and_eq_false_iff, Bool.or_eq_false_iff, Bool.not_eq_true', Bool.not_eq_false', Bool.not_eq_true, Bool.not_eq_false, decide_eq_true_eq, decide_eq_false_iff_not, Int.not_lt, Int.not_le, beq_iff_eq, bne_iff_ne, beq_eq_false_iff_ne, bne_eq_false_iff_eq, ne_eq, Decidable.not_not] at h1
    refine J_exit ?_
    refine JN_then_exit ?_
    refine JN_then_exit ?_
    refine JN_exit_here ?_
    refine JN_then ?_
    refine J_seq (J_reg [] (
        .cons (.no) _ _ (op_move (Lk.t rfl)) <|
        .cons (.no) _ _ (op_assign (Lk.t rfl)) <|
        .nil) ff rfl fun g8 => ⟨_, _, [0], rfl, (.cons 4 rfl <| .nil), (.cons 0 rfl <| .nil), ?_⟩)
    refine JN_then ?_
    refine J_ret ?_
    refine JN_to (To.freezeN 0 (fun _ h => h) rfl frz_som (pure_som pure_flp).n rfl) ?_
    refine JN_ret (.cons (.tmp (Lk.t rfl)) <| .nil) (sb_trans (sb_res1 (sb_fk 0 rfl)) (sb_trans sb_refl (sb_newp ?_)))
    exact ret_eq (by rw [List.take_of_length_le (by rw [length_colL]; omega)])
theorem prodN_ok {r c r' c' : Int} {xs ys : List Nat} (hg : Good r c xs) (hg' : Good c c' ys) (he : r' = c) : CtN Try.prog 27 [MatP r c xs, MatP r' c' ys] (MatP r c' (prodG r c xs c' ys)) := by
  refine CtN.of Try.func27 rfl (by kernel_rfl) rfl fun c0 => ?_
  refine J_to To.size ?_
  subst he
  have hn := hg'.1.2.2.1
  have hn' := hg'.1.2.2.2
  refine J_to (To.emps 3) ?_
  refine J_seq (J_reg [] (
      .cons (.wr 0) _ _ (op_box 0 (Lk.t rfl) co_agg rfl) <|
      .cons (.wr 1) _ _ (op_box 1 (Lk.t rfl) co_agg rfl) <|
      .cons (.wr 2) _ _ (op_alloc 2 zr28 rfl rfl) <|
      .nil) ff rfl fun g1 => ⟨_, _, [0, 1, 2], rfl, (.cons 2 rfl <| .cons 3 rfl <| .cons 4 rfl <| .nil), (.cons 0 rfl <| .cons 1 rfl <| .cons 2 rfl <| .nil), ?_⟩)
  refine JN_then ?_
  refine J_to (To.emps 2) ?_
  refine J_seq (J_reg [] (
      .cons (.no) _ _ (op_field_own fd28_1 (Lk.t rfl) rfl) <|
      .cons (.rd 1) _ _ (op_get_sc 1 sc3 (Lk.t rfl) rfl mem_blk rfl) <|
      .cons (.wr 3) _ _ (op_make_m (mk := (slm flp)) [] 3 sl50 zr26 rfl (fun _ => slm_nil) (Lk.t rfl) (Lk.t rfl) (by omega) (by omega) (by omega) (by omega) rfl) <|
      .cons (.wr 4) _ _ (op_alloc 4 zr50 rfl rfl) <|
      .cons (.wr 4) _ _ (op_store_new_ve 4 rfl rfl rfl (fun f => co_isv) (fun f g h => by rw [h 9 (show 9 ∈ [9] from by decide)]) (fun _ => sz50) rfl (fun _ => rfl) rfl) <|
      .nil) ff rfl fun g2 => ⟨_, _, [0, 1, 2, 3, 4], rfl, (.cons 2 rfl <| .cons 3 rfl <| .cons 4 rfl <| .cons 5 rfl <| .nil), (.cons 0 rfl <| .cons 1 rfl <| .cons 2 rfl <| .cons 3 rfl <| .cons 4 rfl <| .nil), ?_⟩)
  refine JN_then ?_
  refine J_seq ?_
  refine J_seq (J_reg [] (
      .cons (.no) _ _ (op_field_own fd28_1 (Lk.t rfl) rfl) <|
      .cons (.rd 1) _ _ (op_get_sc 1 sc3 (Lk.t rfl) rfl mem_blk rfl) <|
      .cons (.no) _ _ (op_move (Lk.k rfl)) <|
      .nil) ff rfl fun g3 => ⟨_, _, [0, 1, 2, 3, 4], rfl, (.cons 2 rfl <| .cons 3 rfl <| .cons 4 rfl <| .cons 5 rfl <| .cons 11 rfl <| .cons 12 rfl <| .nil), (.cons 0 rfl <| .cons 1 rfl <| .cons 2 rfl <| .cons 3 rfl <| .cons 4 rfl <| .nil), ?_⟩)
  refine JN_then ?_
  refine J_block ?_
  refine J_loopc (α := Nat × List (List Nat)) (fun x => x.1 ≤ c'.toNat ∧ ColsI r' c' ys x.1 x.2) (fun x => c'.toNat - x.1) (fun x restR => (12, isv (.int .i64 (x.1 : Int))) :: restR) (fun x restS => som (g2 9) (slm flp) x.2 26 :: restS) (ρc := [(2, _), (3, _), (4, _), (5, _), (11, _)]) (σc := [_, _, _, _]) (0, List.replicate c'.toNat []) (by exact ⟨Nat.zero_le _, cols_zero⟩) (To.pick (fun _ => .sub (t := 12) rfl (sp_eq (by rfl)) <| .cons 2 rfl <| .cons 3 rfl <| .cons 4 rfl <| .cons 5 rfl <| .cons 11 rfl <| .nil) (fun _ => .sub 3 rfl ((fun _ _ h => h)) <| .cons 0 rfl <| .cons 1 rfl <| .cons 2 rfl <| .cons 4 rfl <| .nil) (ks := [3, 0, 1, 2, 4]) rfl) (fun x hI => ?_)
  obtain ⟨k, l⟩ := x
  try simp only at hI
  show J _ _ ((12, isv (.int .i64 (k : Int))) :: _) (som (g2 9) (slm flp) l 26 :: _) _ _
  have hl1 := hI.2.1
  refine J_seq (J_reg [] (
      .cons (.no) _ _ (op_cmp (by simp) (Lk.t rfl) (Lk.t rfl) rfl) <|
      .nil) ff rfl fun g4 => ⟨_, _, [0, 1, 2, 3, 4], rfl, (.cons 2 rfl <| .cons 3 rfl <| .cons 4 rfl <| .cons 5 rfl <| .cons 11 rfl <| .cons 12 rfl <| .cons 13 rfl <| .nil), (.cons 0 rfl <| .cons 1 rfl <| .cons 2 rfl <| .cons 3 rfl <| .cons 4 rfl <| .nil), ?_⟩)
  refine JN_then ?_
  refine J_seq ?_
  refine J_cond (cond_of (Lk.t rfl)) (fun h1 => ?_) (fun h1 => ?_)
  · have h1' := h1
    try simp only [cmpB, Bool.and_eq_true, Bool.or_eq_true, Bool.and_eq_false_iff, Bool.or_eq_false_iff, Bool.not_eq_true', Bool.not_eq_false', Bool.not_eq_true, Bool.not_eq_false, decide_eq_true_eq, decide_eq_false_iff_not, Int.not_lt, Int.not_le, beq_iff_eq, bne_iff_ne, beq_eq_false_iff_ne, bne_eq_false_iff_eq, ne_eq, Decidable.not_not] at h1
    refine J_skip ?_
    refine JN_then ?_
    refine J_seq ?_
    refine J_block ?_
    refine J_seq (J_reg [] (
        .cons (.no) _ _ (op_move (Lk.t rfl)) <|
        .cons (.no) _ _ (op_assign (Lk.t rfl)) <|
        .nil) ff rfl fun g5 => ⟨_, _, [0, 1, 2, 3, 4], rfl, (.cons 2 rfl <| .cons 3 rfl <| .cons 4 rfl <| .cons 5 rfl <| .cons 6 rfl <| .cons 11 rfl <| .cons 12 rfl <| .nil), (.cons 0 rfl <| .cons 1 rfl <| .cons 2 rfl <| .cons 3 rfl <| .cons 4 rfl <| .nil), ?_⟩)
    refine JN_then ?_
    refine (J_reg [[], [], [], [], [2, 3], [0, 1, 2, 3, 4], [0, 1, 2, 3, 4, 5]] (
        .cons (.rd 4) _ _ (op_get_sc 4 sc50 (Lk.t rfl) rfl mem_blk rfl) <|
        .cons (.no) _ _ (op_move (Lk.t rfl)) <|
        .cons (.rd 2) _ _ (op_get_ag 2 ag28 (Lk.t rfl) rfl mem_blk rfl rfl) <|
        .cons (.no) _ _ (op_move (Lk.t rfl)) <|
        .cons (.no) _ _ (op_call (col_ok hg' (by omega) (by omega)) ⟨(Lk.t rfl), (Lk.t rfl),  trivial⟩) <|
        .cons (.rd 0) _ _ (op_index_som 0 sl50 (Lk.t rfl) (Lk.t rfl) rfl (by omega) (by omega)) <|
        .cons (.wr 0) _ _ (op_store_som 0 (Lk.t rfl) (Lk.t rfl) co_slm sz26 rfl (by omega)) <|
        .nil) (fun _ => mixed) rfl fun g6 => ⟨_, _, [0, 1, 2, 3, 4], rfl, (.cons 2 rfl <| .cons 3 rfl <| .cons 4 rfl <| .cons 5 rfl <| .cons 11 rfl <| .cons 12 rfl <| .nil), (.cons 0 rfl <| .cons 1 rfl <| .cons 2 rfl <| .cons 3 rfl <| .cons 4 rfl <| .nil), ?_⟩)
    refine JN_block ?_
    refine JN_then ?_
    refine (J_reg [] (
        .cons (.no) _ _ (op_add (Lk.t rfl) (Lk.k rfl) (wrap_id (by omega) (by omega))) <|
        .cons (.no) _ _ (op_move (Lk.t rfl)) <|
        .nil) ff rfl fun g7 => ⟨_, _, [0, 1, 2, 3, 4], rfl, (.cons 2 rfl <| .cons 3 rfl <| .cons 4 rfl <| .cons 5 rfl <| .cons 11 rfl <| .cons 12 rfl <| .nil), (.cons 0 rfl <| .cons 1 rfl <| .cons 2 rfl <| .cons 3 rfl <| .cons 4 rfl <| .nil), ?_⟩)
    exact JN_again (k + 1, l.set k (colL r' c' ys k)) (by exact ⟨show k + 1 ≤ _ by omega, cols_set hI.2 (by omega)⟩) (by show c'.toNat - (_ + 1) < _; omega) (To.pick (fun _ => .sub (t := 12) rfl (sp_eq (by rfl)) <| .cons 2 rfl <| .cons 3 rfl <| .cons 4 rfl <| .cons 5 rfl <| .cons 11 rfl <| .nil) (fun _ => .sub 0 rfl ((fun _ _ h => h)) <| .cons 1 rfl <| .cons 2 rfl <| .cons 3 rfl <| .cons 4 rfl <| .nil) (ks := [0, 1, 2, 3, 4]) rfl)
  · have h1' := h1
    try simp only [cmpB, Bool.and_eq_true, Bool.or_eq_true, Bool.and_eq_false_iff, Bool.or_eq_false_iff, Bool.not_eq_true', Bool.not_eq_false', Bool.not_eq_true, Bool.not_eq_false, decide_eq_true_eq, decide_eq_false_iff_not, Int.not_lt, Int.not_le, beq_iff_eq, bne_iff_ne, beq_eq_false_iff_ne, bne_eq_false_iff_eq, ne_eq, Decidable.not_not] at h1
    refine J_exit ?_
    refine JN_then_exit ?_
    refine JN_then_exit ?_
    refine JN_exit_here ?_
    refine JN_then ?_
    refine J_to (To.freeze 1 (fun _ h => h) rfl frz_blk rfl) ?_
    refine J_to (To.freeze 0 (fun _ h => h) rfl frz_som rfl) ?_
    refine J_to (To.freeze 4 (fun _ h => h) rfl frz_blk rfl) ?_
    refine J_seq (J_reg [] (
        .cons (.no) _ _ (op_field_own fd28_0 (Lk.t rfl) rfl) <|
        .cons (.no) _ _ (op_load_sc sc3 (Lk.sub (sb_ok 2 1 rfl rfl) (Lk.t rfl)) rfl) <|
        .cons (.no) _ _ (op_field_own fd28_1 (Lk.t rfl) rfl) <|
        .cons (.rd 2) _ _ (op_get_sc 2 sc3 (Lk.t rfl) rfl mem_blk rfl) <|
        .cons (.no) _ _ (op_makeFunc (C := Pl r c') (g := fun i j => flp (dotL (rowL r' xs i) (colL r' c' ys j))) (fun i j hC => prod1_ok hg (show k = c'.toNat by omega ▸ hI.2) hC) ⟨(Lk.sub (sb_ok 2 3 rfl rfl) (Lk.t rfl)), (Lk.sub (sb_trans (sb_ok 0 1 rfl rfl) (sb_ptp (.cons (sb_fk 1 rfl) <| .nil))) (Lk.t rfl)),  trivial⟩ prod1_ok_has) <|
        .cons (.no) _ _ (op_callN 3 rfl (fillN_ok (hg.1.mk2 hg'.1)) pull_mat ⟨(Lk.t rfl), (Lk.t rfl), (Lk.t rfl),  trivial⟩) <|
        .cons (.wr 3) _ _ (op_store_b 3 (Lk.t rfl) (Lk.t rfl) co_agg sz28 rfl rfl rfl) <|
        .nil) ff rfl fun g8 => ⟨_, _, [3], rfl, (.cons 4 rfl <| .nil), (.cons 3 rfl <| .nil), ?_⟩)
    refine JN_then ?_
    refine J_ret ?_
    refine JN_ret (.cons (.ag 0 (Lk.t rfl) ag28 rfl rfl rfl) <| .nil) (sb_trans (sb_res1 sb_refl) (sb_trans push_mat (sb_newp ?_)))
    exact sb_refl
theorem mirN_ok {n : Int} {g : Int → Int → Nat} (hs : Siz n n) : CtN Try.prog 63 [isv (.int .i64 n), fnp (P := Try.prog) (Lo n) (fun i j => flp (g i j))] (MatP n n (mirR n g)) := by
  refine CtN.of Try.func63 rfl (by kernel_rfl) rfl fun c0 => ?_
  refine J_to To.size ?_
  have hm := hs.mul
  have hs0 := hs
  obtain ⟨hn1, hn2, _, _⟩ := hs
  refine J_to (To.emps 1) ?_
  refine J_seq (J_reg [] (
      .cons (.wr 0) _ _ (op_alloc 0 zr28 rfl rfl) <|
      .nil) ff rfl fun g1 => ⟨_, _, [0], rfl, (.cons 0 rfl <| .cons 1 rfl <| .cons 4 rfl <| .nil), (.cons 0 rfl <| .nil), ?_⟩)
  refine JN_then ?_
  refine J_to (To.emps 2) ?_
  refine J_seq (J_reg [] (
      .cons (.no) _ _ (op_move (Lk.t rfl)) <|
      .cons (.no) _ _ (op_move (Lk.t rfl)) <|
      .cons (.wr 1) _ _ (op_callF 1 (fillF_ok hs0) ⟨(Lk.t rfl), (Lk.t rfl), (Lk.fn (C := Pl n n) (g := fun i j => flp 0) (fun i j hC => mir1_ok) mir1_ok_has),  trivial⟩ rfl) <|
      .cons (.wr 2) _ _ (op_alloc 2 zr28 rfl rfl) <|
      .cons (.wr 2) _ _ (op_store_new_ve 2 rfl rfl rfl (fun f => co_agg) (fun f g h => by rw [h 11 (show 11 ∈ [11] from by decide)]) (fun _ => sz28) rfl (fun _ => rfl) rfl) <|
      .nil) ff rfl fun g2 => ⟨_, _, [0, 1, 2], rfl, (.cons 0 rfl <| .cons 1 rfl <| .cons 4 rfl <| .cons 5 rfl <| .nil), (.cons 0 rfl <| .cons 1 rfl <| .cons 2 rfl <| .nil), ?_⟩)
  refine JN_then ?_
  refine J_seq ?_
  refine J_seq (J_reg [] (
      .cons (.no) _ _ (op_move (Lk.t rfl)) <|
      .cons (.no) _ _ (op_move (Lk.k rfl)) <|
      .nil) ff rfl fun g3 => ⟨_, _, [0, 1, 2], rfl, (.cons 0 rfl <| .cons 1 rfl <| .cons 4 rfl <| .cons 5 rfl <| .cons 12 rfl <| .cons 13 rfl <| .nil), (.cons 0 rfl <| .cons 1 rfl <| .cons 2 rfl <| .nil), ?_⟩)
  refine JN_then ?_
  refine J_block ?_
  refine J_loopc (α := Nat × List Nat) (fun x => x.1 ≤ n.toNat ∧ PutI n n (MIRF g) (MirD x.1 0) x.2) (fun x => n.toNat - x.1) (fun x restR => (13, isv (.int .i64 (x.1 : Int))) :: restR) (fun x restS => som (agN 2 (g2 11)) flp x.2 37 :: restS) (ρc := [(0, _), (1, _), (4, _), (5, _), (12, _)]) (σc := [_, _]) (0, grid n n fun _ _ => 0) (by exact ⟨Nat.zero_le _, mir_zero hs0⟩) (To.pick (fun _ => .sub (t := 13) rfl (sp_eq (by rfl)) <| .cons 0 rfl <| .cons 1 rfl <| .cons 4 rfl <| .cons 5 rfl <| .cons 12 rfl <| .nil) (fun _ => .sub 1 rfl ((fun _ _ h => h)) <| .cons 0 rfl <| .cons 2 rfl <| .nil) (ks := [1, 0, 2]) rfl) (fun x hI => ?_)
  obtain ⟨k, l⟩ := x
  try simp only at hI
  show J _ _ ((13, isv (.int .i64 (k : Int))) :: _) (som (agN 2 (g2 11)) flp l 37 :: _) _ _
  refine J_seq (J_reg [] (
      .cons (.no) _ _ (op_cmp (by simp) (Lk.t rfl) (Lk.t rfl) rfl) <|
      .nil) ff rfl fun g4 => ⟨_, _, [0, 1, 2], rfl, (.cons 0 rfl <| .cons 1 rfl <| .cons 4 rfl <| .cons 5 rfl <| .cons 12 rfl <| .cons 13 rfl <| .cons 14 rfl <| .nil), (.cons 0 rfl <| .cons 1 rfl <| .cons 2 rfl <| .nil), ?_⟩)
  refine JN_then ?_
  refine J_seq ?_
  refine J_cond (cond_of (Lk.t rfl)) (fun h1 => ?_) (fun h1 => ?_)
  · have h1' := h1
    try simp only [cmpB, Bool.and_eq_true, Bool.or_eq_true, Bool.and_eq_false_iff, Bool.or_eq_false_iff, Bool.not_eq_true', Bool.not_eq_false', Bool.not_eq_true, Bool.not_eq_false, decide_eq_true_eq, decide_eq_false_iff_not, Int.not_lt, Int.not_le, beq_iff_eq, bne_iff_ne, beq_eq_false_iff_ne, bne_eq_false_iff_eq, ne_eq, Decidable.not_not] at h1
    refine J_skip ?_
    refine JN_then ?_
    refine J_seq ?_
    refine J_block ?_
    refine J_seq (J_reg [] (
        .cons (.no) _ _ (op_move (Lk.t rfl)) <|
        .cons (.no) _ _ (op_assign (Lk.t rfl)) <|
        .nil) ff rfl fun g5 => ⟨_, _, [0, 1, 2], rfl, (.cons 0 rfl <| .cons 1 rfl <| .cons 4 rfl <| .cons 5 rfl <| .cons 6 rfl <| .cons 12 rfl <| .cons 13 rfl <| .nil), (.cons 0 rfl <| .cons 1 rfl <| .cons 2 rfl <| .nil), ?_⟩)
    refine JN_then ?_
    refine J_seq (J_reg [] (
        .cons (.no) _ _ (op_move (Lk.t rfl)) <|
        .cons (.no) _ _ (op_add (Lk.t rfl) (Lk.k rfl) (wrap_id (by omega) (by omega))) <|
        .cons (.no) _ _ (op_move (Lk.k rfl)) <|
        .nil) ff rfl fun g6 => ⟨_, _, [0, 1, 2], rfl, (.cons 0 rfl <| .cons 1 rfl <| .cons 4 rfl <| .cons 5 rfl <| .cons 6 rfl <| .cons 12 rfl <| .cons 13 rfl <| .cons 17 rfl <| .cons 18 rfl <| .nil), (.cons 0 rfl <| .cons 1 rfl <| .cons 2 rfl <| .nil), ?_⟩)
    refine JN_then ?_
    refine J_block ?_
    refine J_loopc (α := Nat × List Nat) (fun y => y.1 ≤ k + 1 ∧ PutI n n (MIRF g) (MirD k y.1) y.2) (fun y => k + 1 - y.1) (fun y restR => (18, isv (.int .i64 (y.1 : Int))) :: restR) (fun y restS => som (agN 2 (g2 11)) flp y.2 37 :: restS) (ρc := [(0, _), (1, _), (4, _), (5, _), (6, _), (12, _), (13, _), (17, _)]) (σc := [_, _]) (0, l) (by exact ⟨Nat.zero_le _, hI.2⟩) (To.pick (fun _ => .sub (t := 18) rfl (sp_eq (by rfl)) <| .cons 0 rfl <| .cons 1 rfl <| .cons 4 rfl <| .cons 5 rfl <| .cons 6 rfl <| .cons 12 rfl <| .cons 13 rfl <| .cons 17 rfl <| .nil) (fun _ => .sub 0 rfl ((fun _ _ h => h)) <| .cons 1 rfl <| .cons 2 rfl <| .nil) (ks := [0, 1, 2]) rfl) (fun y hJ => ?_)
    obtain ⟨q, m⟩ := y
    try simp only at hJ
    show J _ _ ((18, isv (.int .i64 (q : Int))) :: _) (som (agN 2 (g2 11)) flp m 37 :: _) _ _
    have hml := hJ.2.1
    refine J_seq (J_reg [] (
        .cons (.no) _ _ (op_cmp (by simp) (Lk.t rfl) (Lk.t rfl) rfl) <|
        .nil) ff rfl fun g7 => ⟨_, _, [0, 1, 2], rfl, (.cons 0 rfl <| .cons 1 rfl <| .cons 4 rfl <| .cons 5 rfl <| .cons 6 rfl <| .cons 12 rfl <| .cons 13 rfl <| .cons 17 rfl <| .cons 18 rfl <| .cons 19 rfl <| .nil), (.cons 0 rfl <| .cons 1 rfl <| .cons 2 rfl <| .nil), ?_⟩)
    refine JN_then ?_
    refine J_seq ?_
    refine J_cond (cond_of (Lk.t rfl)) (fun h2 => ?_) (fun h2 => ?_)
    · have h2' := h2
      try simp only [cmpB, Bool.and_eq_true, Bool.or_eq_true, Bool.and_eq_false_iff, Bool.or_eq_false_iff, Bool.not_eq_true', Bool.not_eq_false', Bool.not_eq_true, Bool.not_eq_false, decide_eq_true_eq, decide_eq_false_iff_not, Int.not_lt, Int.not_le, beq_iff_eq, bne_iff_ne, beq_eq_false_iff_ne, bne_eq_false_iff_eq, ne_eq, Decidable.not_not] at h2
      have p1 := (show Pl n n k q from ⟨by omega, by omega, by omega, by omega⟩).rng hs0
      have p2 := (show Pl n n q k from ⟨by omega, by omega, by omega, by omega⟩).rng hs0
      refine J_skip ?_
      refine JN_then ?_
      refine J_seq ?_
      refine J_block ?_
      refine J_seq (J_reg [] (
          .cons (.no) _ _ (op_move (Lk.t rfl)) <|
          .cons (.no) _ _ (op_assign (Lk.t rfl)) <|
          .nil) ff rfl fun g8 => ⟨_, _, [0, 1, 2], rfl, (.cons 0 rfl <| .cons 1 rfl <| .cons 4 rfl <| .cons 5 rfl <| .cons 6 rfl <| .cons 7 rfl <| .cons 12 rfl <| .cons 13 rfl <| .cons 17 rfl <| .cons 18 rfl <| .nil), (.cons 0 rfl <| .cons 1 rfl <| .cons 2 rfl <| .nil), ?_⟩)
      refine JN_then ?_
      refine J_seq (J_reg [] (
          .cons (.no) _ _ (op_move (Lk.t rfl)) <|
          .cons (.no) _ _ (op_move (Lk.t rfl)) <|
          .cons (.no) _ _ (op_move (Lk.t rfl)) <|
          .cons (.no) _ _ (op_callv (P := Try.prog) (Lk.t rfl) (Lk.t rfl) (Lk.t rfl) ⟨by omega, by omega, by omega⟩) <|
          .cons (.no) _ _ (op_assign (Lk.t rfl)) <|
          .nil) ff rfl fun g9 => ⟨_, _, [0, 1, 2], rfl, (.cons 0 rfl <| .cons 1 rfl <| .cons 4 rfl <| .cons 5 rfl <| .cons 6 rfl <| .cons 7 rfl <| .cons 8 rfl <| .cons 12 rfl <| .cons 13 rfl <| .cons 17 rfl <| .cons 18 rfl <| .nil), (.cons 0 rfl <| .cons 1 rfl <| .cons 2 rfl <| .nil), ?_⟩)
      refine JN_then ?_
      refine (J_reg [[], [0], [], [], [2, 3], [], [2, 3, 4, 5], [], [7], [], [], [9, 10], [], [9, 10, 11, 12], [], [], [0, 1, 2, 3, 4, 5, 6, 14], [0, 1, 2, 3, 4, 5, 6, 14, 16], [0, 1, 2, 3, 4, 5, 6, 7, 8, 9, 10, 11, 12, 13, 14, 15, 16, 17], [0, 1, 2, 3, 4, 5, 6, 7, 8, 9, 10, 11, 12, 13, 14, 15, 16, 17, 18]] (
          .cons (.no) _ _ (op_field_own fd28_2 (Lk.t rfl) rfl) <|
          .cons (.rd 2) _ _ (op_get_sc 2 sc26 (Lk.t rfl) rfl mem_blk rfl) <|
          .cons (.no) _ _ (op_move (Lk.t rfl)) <|
          .cons (.no) _ _ (op_move (Lk.t rfl)) <|
          .cons (.no) _ _ (op_mul (Lk.t rfl) (Lk.t rfl) (wrap_id (by omega) (by omega))) <|
          .cons (.no) _ _ (op_move (Lk.t rfl)) <|
          .cons (.no) _ _ (op_add (Lk.t rfl) (Lk.t rfl) (wrap_id (by omega) (by omega))) <|
          .cons (.no) _ _ (op_field_own fd28_2 (Lk.t rfl) rfl) <|
          .cons (.rd 2) _ _ (op_get_sc 2 sc26 (Lk.t rfl) rfl mem_blk rfl) <|
          .cons (.no) _ _ (op_move (Lk.t rfl)) <|
          .cons (.no) _ _ (op_move (Lk.t rfl)) <|
          .cons (.no) _ _ (op_mul (Lk.t rfl) (Lk.t rfl) (wrap_id (by omega) (by omega))) <|
          .cons (.no) _ _ (op_move (Lk.t rfl)) <|
          .cons (.no) _ _ (op_add (Lk.t rfl) (Lk.t rfl) (wrap_id (by omega) (by omega))) <|
          .cons (.no) _ _ (op_move (Lk.t rfl)) <|
          .cons (.no) _ _ (op_move (Lk.t rfl)) <|
          .cons (.rd 0) _ _ (op_index_som 0 sl26 (Lk.t rfl) (Lk.t rfl) rfl (by omega) (by omega)) <|
          .cons (.wr 0) _ _ (op_store_som 0 (Lk.t rfl) (Lk.t rfl) co_flp sz37 rfl (by omega)) <|
          .cons (.rd 0) _ _ (op_index_som 0 sl26 (Lk.t rfl) (Lk.t rfl) rfl (by omega) (by rw [List.length_set]; omega)) <|
          .cons (.wr 0) _ _ (op_store_som 0 (Lk.t rfl) (Lk.t rfl) co_flp sz37 rfl (by rw [List.length_set]; omega)) <|
          .nil) (fun _ => mixed) rfl fun g10 => ⟨_, _, [0, 1, 2], rfl, (.cons 0 rfl <| .cons 1 rfl <| .cons 4 rfl <| .cons 5 rfl <| .cons 6 rfl <| .cons 12 rfl <| .cons 13 rfl <| .cons 17 rfl <| .cons 18 rfl <| .nil), (.cons 0 rfl <| .cons 1 rfl <| .cons 2 rfl <| .nil), ?_⟩)
      refine JN_block ?_
      refine JN_then ?_
      refine (J_reg [] (
          .cons (.no) _ _ (op_add (Lk.t rfl) (Lk.k rfl) (wrap_id (by omega) (by omega))) <|
          .cons (.no) _ _ (op_move (Lk.t rfl)) <|
          .nil) ff rfl fun g11 => ⟨_, _, [0, 1, 2], rfl, (.cons 0 rfl <| .cons 1 rfl <| .cons 4 rfl <| .cons 5 rfl <| .cons 6 rfl <| .cons 12 rfl <| .cons 13 rfl <| .cons 17 rfl <| .cons 18 rfl <| .nil), (.cons 0 rfl <| .cons 1 rfl <| .cons 2 rfl <| .nil), ?_⟩)
      exact JN_again (q + 1, (m.set ((k : Int) * n + q).toNat (g k q)).set ((q : Int) * n + k).toNat (g k q)) (by exact ⟨show q + 1 ≤ _ by omega, mir_step hs0 (by omega) (by omega) (by omega) hJ.2⟩) (by show k + 1 - (_ + 1) < _; omega) (To.pick (fun _ => .sub (t := 18) rfl (sp_eq (by rfl)) <| .cons 0 rfl <| .cons 1 rfl <| .cons 4 rfl <| .cons 5 rfl <| .cons 6 rfl <| .cons 12 rfl <| .cons 13 rfl <| .cons 17 rfl <| .nil) (fun _ => .sub 0 rfl ((fun _ _ h => h)) <| .cons 1 rfl <| .cons 2 rfl <| .nil) (ks := [0, 1, 2]) rfl)
    · have h2' := h2
      try simp only [cmpB, Bool.and_eq_true, Bool.or_eq_true, Bool.and_eq_false_iff, Bool.or_eq_false_iff, Bool.not_eq_true', Bool.not_eq_false', Bool.not_eq_true, Bool.not_eq_false, decide_eq_true_eq, decide_eq_false_iff_not, Int.not_lt, Int.not_le, beq_iff_eq, bne_iff_ne, beq_eq_false_iff_ne, bne_eq_false_iff_eq, ne_eq, Decidable.not_not] at h2
      refine J_exit ?_
      refine JN_then_exit ?_
      refine JN_then_exit ?_
      refine JN_exit_here ?_
      refine JN_block ?_
      refine JN_then ?_
      refine (J_reg [] (
          .cons (.no) _ _ (op_add (Lk.t rfl) (Lk.k rfl) (wrap_id (by omega) (by omega))) <|
          .cons (.no) _ _ (op_move (Lk.t rfl)) <|
          .nil) ff rfl fun g12 => ⟨_, _, [0, 1, 2], rfl, (.cons 0 rfl <| .cons 1 rfl <| .cons 4 rfl <| .cons 5 rfl <| .cons 12 rfl <| .cons 13 rfl <| .nil), (.cons 0 rfl <| .cons 1 rfl <| .cons 2 rfl <| .nil), ?_⟩)
      exact JN_again (k + 1, m) (by exact ⟨show k + 1 ≤ _ by omega, mir_row (by omega) (show q = k + 1 by omega) hJ.2⟩) (by show n.toNat - (_ + 1) < _; omega) (To.pick (fun _ => .sub (t := 13) rfl (sp_eq (by rfl)) <| .cons 0 rfl <| .cons 1 rfl <| .cons 4 rfl <| .cons 5 rfl <| .cons 12 rfl <| .nil) (fun _ => .sub 0 rfl ((fun _ _ h => h)) <| .cons 1 rfl <| .cons 2 rfl <| .nil) (ks := [0, 1, 2]) rfl)
  · have h1' := h1
    try simp only [cmpB, Bool.and_eq_true, Bool.or_eq_true, Bool.and_eq_false_iff, Bool.or_eq_false_iff, Bool.not_eq_true', Bool.not_eq_false', Bool.not_eq_true, Bool.not_eq_false, decide_eq_true_eq, decide_eq_false_iff_not, Int.not_lt, Int.not_le, beq_iff_eq, bne_iff_ne, beq_eq_false_iff_ne, bne_eq_false_iff_eq, ne_eq, Decidable.not_not] at h1
    refine J_exit ?_
    refine JN_then_exit ?_
    refine JN_then_exit ?_
    refine JN_exit_here ?_
    refine JN_then ?_
    refine J_seq (J_reg [] (
        .cons (.rd 2) _ _ (op_get_ag 2 ag28 (Lk.t rfl) rfl mem_blk rfl rfl) <|
        .cons (.wr 1) _ _ (op_store_b 1 (Lk.t rfl) (Lk.t rfl) co_agg sz28 rfl rfl rfl) <|
        .nil) ff rfl fun g13 => ⟨_, _, [0, 1], rfl, (.cons 4 rfl <| .nil), (.cons 0 rfl <| .cons 1 rfl <| .nil), ?_⟩)
    refine JN_then ?_
    refine J_ret ?_
    refine JN_to (To.freezeN 0 (fun _ h => h) rfl frz_som (pure_som pure_flp).n rfl) ?_
    refine JN_ret (.cons (.ag 1 (Lk.t rfl) ag28 rfl rfl rfl) <| .nil) (sb_trans (sb_res1 (sb_agg (.cons sb_refl <| .cons sb_refl <| .cons (sb_fk 0 rfl) <| .nil))) (sb_trans push_mat (sb_newp ?_)))
    exact ret_eq (by rw [mir_done hs0 (show k = n.toNat by omega) hI.2])
theorem concatN_ok {ls : List (List Nat)} (hb : ls.flatten.length ≤ 10000) : CtN Try.prog 87 [slm (slm flp) ls] (fls ls.flatten) := by
  refine CtN.of Try.func87 rfl (by kernel_rfl) rfl fun c0 => ?_
  refine J_to To.size ?_
  refine J_len 0 rfl fun hlen => ?_
  refine J_seq (J_reg [] (
      .cons (.no) _ _ (op_assign (Lk.k rfl)) <|
      .nil) ff rfl fun g1 => ⟨_, _, [], rfl, (.cons 0 rfl <| .nil), (.nil), ?_⟩)
  refine JN_then ?_
  refine J_seq (J_reg [] (
      .cons (.no) _ _ (op_assign (Lk.k rfl)) <|
      .nil) ff rfl fun g2 => ⟨_, _, [], rfl, (.cons 0 rfl <| .cons 3 rfl <| .nil), (.nil), ?_⟩)
  refine JN_then ?_
  refine J_seq ?_
  refine J_seq (J_reg [] (
      .cons (.no) _ _ (op_move (Lk.t rfl)) <|
      .cons (.no) _ _ (op_len_m sl50 (Lk.t rfl)) <|
      .cons (.no) _ _ (op_move (Lk.k rfl)) <|
      .nil) ff rfl fun g3 => ⟨_, _, [], rfl, (.cons 0 rfl <| .cons 3 rfl <| .cons 9 rfl <| .cons 10 rfl <| .cons 11 rfl <| .nil), (.nil), ?_⟩)
  refine JN_then ?_
  refine J_block ?_
  refine J_loopc (α := Nat) (fun k => k ≤ ls.length) (fun k => ls.length - k) (fun k restR => (11, isv (.int .i64 (k : Int))) :: (3, isv (.int .i64 ((((ls.take k).flatten.length : Nat)) : Int))) :: restR) (fun k restS => restS) (ρc := [(0, _), (9, _), (10, _)]) (σc := []) 0 (by exact Nat.zero_le _) (To.pick (fun _ => .sub (t := 11) rfl (sp_eq (by rfl)) <| .sub (t := 3) rfl (sp_eq (by rfl)) <| .cons 0 rfl <| .cons 9 rfl <| .cons 10 rfl <| .nil) (fun _ => .nil) (ks := []) rfl) (fun k hI => ?_)
  refine J_seq (J_reg [] (
      .cons (.no) _ _ (op_cmp (by simp) (Lk.t rfl) (Lk.t rfl) rfl) <|
      .nil) ff rfl fun g4 => ⟨_, _, [], rfl, (.cons 0 rfl <| .cons 3 rfl <| .cons 9 rfl <| .cons 10 rfl <| .cons 11 rfl <| .cons 12 rfl <| .nil), (.nil), ?_⟩)
  refine JN_then ?_
  refine J_seq ?_
  refine J_cond (cond_of (Lk.t rfl)) (fun h1 => ?_) (fun h1 => ?_)
  · have h1' := h1
    try simp only [cmpB, Bool.and_eq_true, Bool.or_eq_true, Bool.and_eq_false_iff, Bool.or_eq_false_iff, Bool.not_eq_true', Bool.not_eq_false', Bool.not_eq_true, Bool.not_eq_false, decide_eq_true_eq, decide_eq_false_iff_not, Int.not_lt, Int.not_le, beq_iff_eq, bne_iff_ne, beq_eq_false_iff_ne, bne_eq_false_iff_eq, ne_eq, Decidable.not_not] at h1
    have hf1 := @flat_le ls k
    have hf2 := @flat_le ls (k + 1)
    have hf3 : (ls.take (k + 1)).flatten.length = (ls.take k).flatten.length + (ls.getD k []).length := by rw [flat_take (by omega), List.length_append]
    refine J_skip ?_
    refine JN_then ?_
    refine J_seq ?_
    refine J_block ?_
    refine J_seq (J_reg [] (
        .cons (.no) _ _ (op_index_m [] sl50 (Lk.t rfl) (Lk.t rfl) (by omega) (by omega)) <|
        .cons (.no) _ _ (op_load_sc sc26 (Lk.t rfl) rfl) <|
        .cons (.no) _ _ (op_assign (Lk.t rfl)) <|
        .nil) ff rfl fun g5 => ⟨_, _, [], rfl, (.cons 0 rfl <| .cons 3 rfl <| .cons 5 rfl <| .cons 9 rfl <| .cons 10 rfl <| .cons 11 rfl <| .nil), (.nil), ?_⟩)
    refine JN_then ?_
    refine J_seq (J_reg [] (
        .cons (.no) _ _ (op_move (Lk.t rfl)) <|
        .cons (.no) _ _ (op_move (Lk.t rfl)) <|
        .cons (.no) _ _ (op_len_m sl26 (Lk.t rfl)) <|
        .cons (.no) _ _ (op_add (Lk.t rfl) (Lk.t rfl) (wrap_id (by show -9223372036854775808 ≤ ((ls.take k).flatten.length : Int) + ((ls.getD k []).length : Int); omega) (by show ((ls.take k).flatten.length : Int) + ((ls.getD k []).length : Int) ≤ _; omega))) <|
        .cons (.no) _ _ (op_assign (Lk.t rfl)) <|
        .nil) ff rfl fun g6 => ⟨_, _, [], rfl, (.cons 0 rfl <| .cons 3 rfl <| .cons 9 rfl <| .cons 10 rfl <| .cons 11 rfl <| .nil), (.nil), ?_⟩)
    refine JN_then ?_
    refine J_seq (J_reg [] (
        .cons (.no) _ _ (op_move (Lk.t rfl)) <|
        .cons (.no) _ _ (op_cmp (by simp) (Lk.t rfl) (Lk.k rfl) rfl) <|
        .nil) ff rfl fun g7 => ⟨_, _, [], rfl, (.cons 0 rfl <| .cons 3 rfl <| .cons 9 rfl <| .cons 10 rfl <| .cons 11 rfl <| .cons 20 rfl <| .nil), (.nil), ?_⟩)
    refine JN_then ?_
    refine J_cond (cond_of (Lk.t rfl)) (fun h2 => ?_) (fun h2 => ?_)
    · have h2' := h2
      try simp only [cmpB, Bool.and_eq_true, Bool.or_eq_true, Bool.and_eq_false_iff, Bool.or_eq_false_iff, Bool.not_eq_true', Bool.not_eq_false', Bool.not_eq_true, Bool.not_eq_false, decide_eq_true_eq, decide_eq_false_iff_not, Int.not_lt, Int.not_le, beq_iff_eq, bne_iff_ne, beq_eq_false_iff_ne, bne_eq_false_iff_eq, ne_eq, Decidable.not_not] at h2
      omega
    · have h2' := h2
      try simp only [cmpB, Bool.and_eq_true, Bool.or_eq_true, Bool.and_eq_false_iff, Bool.or_eq_false_iff, Bool.not_eq_true', Bool.not_eq_false', Bool.not_eq_true, Bool.not_eq_false, decide_eq_true_eq, decide_eq_false_iff_not, Int.not_lt, Int.not_le, beq_iff_eq, bne_iff_ne, beq_eq_false_iff_ne, bne_eq_false_iff_eq, ne_eq, Decidable.not_not] at h2
      refine J_skip ?_
      refine JN_block ?_
      refine JN_then ?_
      refine (J_reg [] (
          .cons (.no) _ _ (op_add (Lk.t rfl) (Lk.k rfl) (wrap_id (by omega) (by omega))) <|
          .cons (.no) _ _ (op_move (Lk.t rfl)) <|
          .nil) ff rfl fun g8 => ⟨_, _, [], rfl, (.cons 0 rfl <| .cons 3 rfl <| .cons 9 rfl <| .cons 10 rfl <| .cons 11 rfl <| .nil), (.nil), ?_⟩)
      exact JN_again (k + 1) (by omega) (by omega) (To.pick (fun _ => .sub (t := 11) rfl (sp_eq (by rfl)) <| .sub (t := 3) rfl (sp_eq (by rw [hf3, Int.natCast_add]; rfl)) <| .cons 0 rfl <| .cons 9 rfl <| .cons 10 rfl <| .nil) (fun _ => .nil) (ks := []) rfl)
  · have h1' := h1
    try simp only [cmpB, Bool.and_eq_true, Bool.or_eq_true, Bool.and_eq_false_iff, Bool.or_eq_false_iff, Bool.not_eq_true', Bool.not_eq_false', Bool.not_eq_true, Bool.not_eq_false, decide_eq_true_eq, decide_eq_false_iff_not, Int.not_lt, Int.not_le, beq_iff_eq, bne_iff_ne, beq_eq_false_iff_ne, bne_eq_false_iff_eq, ne_eq, Decidable.not_not] at h1
    have hfk := @flat_le ls k
    refine J_exit ?_
    refine JN_then_exit ?_
    refine JN_then_exit ?_
    refine JN_exit_here ?_
    refine JN_then ?_
    refine J_to (To.emps 1) ?_
    refine J_seq (J_reg [] (
        .cons (.no) _ _ (op_move (Lk.t rfl)) <|
        .cons (.wr 0) _ _ (op_callF 0 (grow_ok (by omega) (by omega)) ⟨(Lk.k rfl), (Lk.t rfl),  trivial⟩ rfl) <|
        .cons (.no) _ _ (op_assign_ve rfl rfl) <|
        .nil) ff rfl fun g9 => ⟨_, _, [0], rfl, (.cons 0 rfl <| .cons 6 rfl <| .nil), (.cons 0 rfl <| .nil), ?_⟩)
    refine JN_then ?_
    refine J_seq ?_
    refine J_seq (J_reg [] (
        .cons (.no) _ _ (op_move (Lk.t rfl)) <|
        .cons (.no) _ _ (op_len_m sl50 (Lk.t rfl)) <|
        .cons (.no) _ _ (op_move (Lk.k rfl)) <|
        .nil) ff rfl fun g10 => ⟨_, _, [0], rfl, (.cons 6 rfl <| .cons 25 rfl <| .cons 26 rfl <| .cons 27 rfl <| .nil), (.cons 0 rfl <| .nil), ?_⟩)
    refine JN_then ?_
    refine J_block ?_
    refine J_loopc (α := Nat × Value) (fun x => x.1 ≤ ls.length) (fun x => ls.length - x.1) (fun x restR => (27, isv (.int .i64 (x.1 : Int))) :: (6, isv x.2) :: restR) (fun x restS => som x.2 flp ((ls.take x.1).flatten) 37 :: restS) (ρc := [(25, _), (26, _)]) (σc := []) (0, g9 24) (by exact Nat.zero_le _) (To.pick (fun _ => .sub (t := 27) rfl (sp_eq (by rfl)) <| .sub (t := 6) rfl (sp_eq (by rfl)) <| .cons 25 rfl <| .cons 26 rfl <| .nil) (fun _ => .sub 0 rfl ((fun _ _ h => h)) <| .nil) (ks := [0]) rfl) (fun x hJ => ?_)
    obtain ⟨q, sv⟩ := x
    try simp only at hJ
    show J _ _ ((27, isv (.int .i64 (q : Int))) :: (6, isv sv) :: _) (som sv flp ((ls.take q).flatten) 37 :: _) _ _
    refine J_seq (J_reg [] (
        .cons (.no) _ _ (op_cmp (by simp) (Lk.t rfl) (Lk.t rfl) rfl) <|
        .nil) ff rfl fun g11 => ⟨_, _, [0], rfl, (.cons 6 rfl <| .cons 25 rfl <| .cons 26 rfl <| .cons 27 rfl <| .cons 28 rfl <| .nil), (.cons 0 rfl <| .nil), ?_⟩)
    refine JN_then ?_
    refine J_seq ?_
    refine J_cond (cond_of (Lk.t rfl)) (fun h3 => ?_) (fun h3 => ?_)
    · have h3' := h3
      try simp only [cmpB, Bool.and_eq_true, Bool.or_eq_true, Bool.and_eq_false_iff, Bool.or_eq_false_iff, Bool.not_eq_true', Bool.not_eq_false', Bool.not_eq_true, Bool.not_eq_false, decide_eq_true_eq, decide_eq_false_iff_not, Int.not_lt, Int.not_le, beq_iff_eq, bne_iff_ne, beq_eq_false_iff_ne, bne_eq_false_iff_eq, ne_eq, Decidable.not_not] at h3
      have hf2 := @flat_le ls (q + 1)
      have hf3 : (ls.take (q + 1)).flatten.length = (ls.take q).flatten.length + (ls.getD q []).length := by rw [flat_take (by omega), List.length_append]
      refine J_skip ?_
      refine JN_then ?_
      refine J_seq ?_
      refine J_block ?_
      refine J_seq (J_reg [] (
          .cons (.no) _ _ (op_index_m [] sl50 (Lk.t rfl) (Lk.t rfl) (by omega) (by omega)) <|
          .cons (.no) _ _ (op_load_sc sc26 (Lk.t rfl) rfl) <|
          .cons (.no) _ _ (op_assign (Lk.t rfl)) <|
          .nil) ff rfl fun g12 => ⟨_, _, [0], rfl, (.cons 6 rfl <| .cons 8 rfl <| .cons 25 rfl <| .cons 26 rfl <| .cons 27 rfl <| .nil), (.cons 0 rfl <| .nil), ?_⟩)
      refine JN_then ?_
      refine (J_reg [] (
          .cons (.no) _ _ (op_move (Lk.t rfl)) <|
          .cons (.no) _ _ (op_move (Lk.t rfl)) <|
          .cons (.wr 0) _ _ (op_append_ms 0 sl26 zr37 rfl (Lk.t rfl) (Lk.t rfl) rfl (by show (ls.take q).flatten.length + (ls.getD q []).length ≤ _; omega) (by show ((ls.take q).flatten.length + (ls.getD q []).length) * 8 ≤ _; omega)) <|
          .cons (.no) _ _ (op_assign_ve rfl rfl) <|
          .nil) ff rfl fun g13 => ⟨_, _, [0], rfl, (.cons 6 rfl <| .cons 25 rfl <| .cons 26 rfl <| .cons 27 rfl <| .nil), (.cons 0 rfl <| .nil), ?_⟩)
      refine JN_block ?_
      refine JN_then ?_
      refine (J_reg [] (
          .cons (.no) _ _ (op_add (Lk.t rfl) (Lk.k rfl) (wrap_id (by omega) (by omega))) <|
          .cons (.no) _ _ (op_move (Lk.t rfl)) <|
          .nil) ff rfl fun g14 => ⟨_, _, [0], rfl, (.cons 6 rfl <| .cons 25 rfl <| .cons 26 rfl <| .cons 27 rfl <| .nil), (.cons 0 rfl <| .nil), ?_⟩)
      exact JN_again (q + 1, g13 33) (by exact (show q + 1 ≤ ls.length by omega)) (by show ls.length - (_ + 1) < _; omega) (To.pick (fun _ => .sub (t := 27) rfl (sp_eq (by rfl)) <| .sub (t := 6) rfl (sp_eq (by rfl)) <| .cons 25 rfl <| .cons 26 rfl <| .nil) (fun _ => .sub 0 rfl ((res_eq (by rw [show (ls.take (q + 1)).flatten = _ from flat_take (by omega)]; rfl))) <| .nil) (ks := [0]) rfl)
    · have h3' := h3
      try simp only [cmpB, Bool.and_eq_true, Bool.or_eq_true, Bool.and_eq_false_iff, Bool.or_eq_false_iff, Bool.not_eq_true', Bool.not_eq_false', Bool.not_eq_true, Bool.not_eq_false, decide_eq_true_eq, decide_eq_false_iff_not, Int.not_lt, Int.not_le, beq_iff_eq, bne_iff_ne, beq_eq_false_iff_ne, bne_eq_false_iff_eq, ne_eq, Decidable.not_not] at h3
      refine J_exit ?_
      refine JN_then_exit ?_
      refine JN_then_exit ?_
      refine JN_exit_here ?_
      refine JN_then ?_
      refine J_seq (J_reg [] (
          .cons (.no) _ _ (op_move (Lk.t rfl)) <|
          .cons (.no) _ _ (op_assign (Lk.t rfl)) <|
          .nil) ff rfl fun g15 => ⟨_, _, [0], rfl, (.cons 2 rfl <| .nil), (.cons 0 rfl <| .nil), ?_⟩)
      refine JN_then ?_
      refine J_ret ?_
      refine JN_to (To.freezeN 0 (fun _ h => h) rfl frz_som (pure_som pure_flp).n rfl) ?_
      refine JN_ret (.cons (.tmp (Lk.t rfl)) <| .nil) (sb_trans (sb_res1 (sb_fk 0 rfl)) (sb_trans sb_refl (sb_newp ?_)))
      exact ret_eq (by rw [List.take_of_length_le (by omega)])
theorem concatN_ok2 {xs ys : List Nat} (hb : xs.length + ys.length ≤ 10000) : CtN Try.prog 87 [slc 2 1 [fls xs, fls ys]] (fls (xs ++ ys)) := by have h := concatN_ok (ls := [xs, ys]) (by simpa using hb); rw [show [xs, ys].flatten = xs ++ ys by simp] at h; exact h
theorem diag1_ok_has : Has Try.prog 82 := ⟨_, Try.func82, rfl, by kernel_rfl⟩
theorem diag1_ok {i j : Int} {xs : List Nat} (hp : Pl (xs.length : Int) (xs.length : Int) i j) : Ct Try.prog 82 [isv (.int .i64 i), isv (.int .i64 j), ptp [fls xs]] (flp (if i = j then xs.getD i.toNat 0 else 0)) := by
  refine Ct.of Try.func82 rfl (by kernel_rfl) rfl fun c0 => ?_
  obtain ⟨hp1, hp2, hp3, hp4⟩ := hp
  refine J_seq (J_reg [] (
      .cons (.no) _ _ (op_assign (Lk.fk rfl (by decide +kernel))) <|
      .nil) ff rfl fun g1 => ⟨_, _, [], rfl, (.cons 0 rfl <| .cons 1 rfl <| .cons 2 rfl <| .nil), (.nil), ?_⟩)
  refine JN_then ?_
  refine J_seq ?_
  refine J_seq (J_reg [] (
      .cons (.no) _ _ (op_move (Lk.t rfl)) <|
      .cons (.no) _ _ (op_move (Lk.t rfl)) <|
      .cons (.no) _ _ (op_cmp (by simp) (Lk.t rfl) (Lk.t rfl) rfl) <|
      .nil) ff rfl fun g2 => ⟨_, _, [], rfl, (.cons 0 rfl <| .cons 2 rfl <| .cons 8 rfl <| .nil), (.nil), ?_⟩)
  refine JN_then ?_
  refine J_cond (cond_of (Lk.t rfl)) (fun h1 => ?_) (fun h1 => ?_)
  · have h1' := h1
    try simp only [cmpB, Bool.and_eq_true, Bool.or_eq_true, Bool.and_eq_false_iff, Bool.or_eq_false_iff, Bool.not_eq_true', Bool.not_eq_false', Bool.not_eq_true, Bool.not_eq_false, decide_eq_true_eq, decide_eq_false_iff_not, Int.not_lt, Int.not_le, beq_iff_eq, bne_iff_ne, beq_eq_false_iff_ne, bne_eq_false_iff_eq, ne_eq, Decidable.not_not] at h1
    refine J_seq (J_reg [] (
        .cons (.no) _ _ (op_load_sc sc26 (Lk.t rfl) rfl) <|
        .cons (.no) _ _ (op_move (Lk.t rfl)) <|
        .cons (.no) _ _ (op_index_m 0 sl26 (Lk.t rfl) (Lk.t rfl) (by omega) (by omega)) <|
        .cons (.no) _ _ (op_load_sc sc37 (Lk.t rfl) rfl) <|
        .cons (.no) _ _ (op_assign (Lk.t rfl)) <|
        .nil) ff rfl fun g3 => ⟨_, _, [], rfl, (.cons 5 rfl <| .nil), (.nil), ?_⟩)
    refine JN_then ?_
    refine J_ret ?_
    refine JN_then_ret ?_
    refine JN_ret (.cons (.tmp (Lk.t rfl)) <| .nil) (sb_trans (sb_res1 sb_refl) ?_)
    exact ret_f (by rw [if_pos h1])
  · have h1' := h1
    try simp only [cmpB, Bool.and_eq_true, Bool.or_eq_true, Bool.and_eq_false_iff, Bool.or_eq_false_iff, Bool.not_eq_true', Bool.not_eq_false', Bool.not_eq_true, Bool.not_eq_false, decide_eq_true_eq, decide_eq_false_iff_not, Int.not_lt, Int.not_le, beq_iff_eq, bne_iff_ne, beq_eq_false_iff_ne, bne_eq_false_iff_eq, ne_eq, Decidable.not_not] at h1
    refine J_skip ?_
    refine JN_then ?_
    refine J_seq (J_reg [] (
        .cons (.no) _ _ (op_assign (Lk.fk rfl (by decide +kernel))) <|
        .nil) ff rfl fun g4 => ⟨_, _, [], rfl, (.cons 5 rfl <| .nil), (.nil), ?_⟩)
    refine JN_then ?_
    refine J_ret ?_
    refine JN_ret (.cons (.tmp (Lk.t rfl)) <| .nil) (sb_trans (sb_res1 sb_refl) ?_)
    exact ret_f (by rw [if_neg h1])
theorem diagN_ok {xs : List Nat} : CtN Try.prog 47 [fls xs] (resM (diagR xs)) := by
  refine CtN.of Try.func47 rfl (by kernel_rfl) rfl fun c0 => ?_
  refine J_to To.size ?_
  refine J_to (To.emps 2) ?_
  refine J_seq (J_reg [] (
      .cons (.wr 0) _ _ (op_box 0 (Lk.t rfl) co_slm rfl) <|
      .cons (.wr 1) _ _ (op_alloc 1 zr28 rfl rfl) <|
      .cons (.no) _ _ (op_assign (Lk.k rfl)) <|
      .nil) ff rfl fun g1 => ⟨_, _, [0, 1], rfl, (.cons 1 rfl <| .cons 2 rfl <| .nil), (.cons 0 rfl <| .cons 1 rfl <| .nil), ?_⟩)
  refine JN_then ?_
  refine J_seq ?_
  refine J_seq (J_reg [] (
      .cons (.rd 0) _ _ (op_get_sc 0 sc26 (Lk.t rfl) rfl mem_blk rfl) <|
      .cons (.no) _ _ (op_call (list_ok) ⟨(Lk.t rfl),  trivial⟩) <|
      .cons (.no) _ _ (op_assign (Lk.t rfl)) <|
      .nil) ff rfl fun g2 => ⟨_, _, [0, 1], rfl, (.cons 1 rfl <| .cons 2 rfl <| .cons 4 rfl <| .nil), (.cons 0 rfl <| .cons 1 rfl <| .nil), ?_⟩)
  refine JN_then ?_
  refine J_seq (J_reg [] (
      .cons (.no) _ _ (op_move (Lk.t rfl)) <|
      .cons (.no) _ _ (op_cmp (by simp) (Lk.t rfl) (Lk.k rfl) rfl) <|
      .nil) ff rfl fun g3 => ⟨_, _, [0, 1], rfl, (.cons 1 rfl <| .cons 2 rfl <| .cons 4 rfl <| .cons 8 rfl <| .nil), (.cons 0 rfl <| .cons 1 rfl <| .nil), ?_⟩)
  refine JN_then ?_
  refine J_cond (cond_of (Lk.t rfl)) (fun h1 => ?_) (fun h1 => ?_)
  · have h1' := h1
    try simp only [cmpB, Bool.and_eq_true, Bool.or_eq_true, Bool.and_eq_false_iff, Bool.or_eq_false_iff, Bool.not_eq_true', Bool.not_eq_false', Bool.not_eq_true, Bool.not_eq_false, decide_eq_true_eq, decide_eq_false_iff_not, Int.not_lt, Int.not_le, beq_iff_eq, bne_iff_ne, beq_eq_false_iff_ne, bne_eq_false_iff_eq, ne_eq, Decidable.not_not] at h1
    refine J_seq (J_reg [] (
        .cons (.no) _ _ (op_build zr28 rfl pl28 .nil) <|
        .cons (.no) _ _ (op_move (Lk.t rfl)) <|
        .cons (.wr 1) _ _ (op_store_b 1 (Lk.t rfl) (Lk.t rfl) co_agg sz28 rfl rfl rfl) <|
        .cons (.no) _ _ (op_assign (Lk.t rfl)) <|
        .nil) ff rfl fun g4 => ⟨_, _, [1], rfl, (.cons 2 rfl <| .cons 3 rfl <| .nil), (.cons 1 rfl <| .nil), ?_⟩)
    refine JN_then ?_
    refine J_ret ?_
    refine JN_then_ret ?_
    refine JN_ret (.cons (.ag 0 (Lk.t rfl) ag28 rfl rfl rfl) <| .cons (.tmp (Lk.t rfl)) <| .nil) (sb_trans (sb_res (.cons (sb_agg (.cons sb_refl <| .cons sb_refl <| .cons (sb_nilN (mk := flp)) <| .nil)) <| .cons sb_refl <| .nil)) (sb_trans push_M (sb_newp ?_)))
    exact ret_M (by unfold diagR orR; exact (if_neg h1).symm)
  · have h1' := h1
    try simp only [cmpB, Bool.and_eq_true, Bool.or_eq_true, Bool.and_eq_false_iff, Bool.or_eq_false_iff, Bool.not_eq_true', Bool.not_eq_false', Bool.not_eq_true, Bool.not_eq_false, decide_eq_true_eq, decide_eq_false_iff_not, Int.not_lt, Int.not_le, beq_iff_eq, bne_iff_ne, beq_eq_false_iff_ne, bne_eq_false_iff_eq, ne_eq, Decidable.not_not] at h1
    have hs0 := lchk_siz h1
    refine J_skip ?_
    refine JN_then ?_
    refine J_to (To.freeze 0 (fun _ h => h) rfl frz_blk rfl) ?_
    refine J_seq (J_reg [] (
        .cons (.no) _ _ (op_load_sc sc26 (Lk.sub (sb_ok 0 1 rfl rfl) (Lk.t rfl)) rfl) <|
        .cons (.no) _ _ (op_len_m sl26 (Lk.t rfl)) <|
        .cons (.no) _ _ (op_load_sc sc26 (Lk.sub (sb_ok 0 1 rfl rfl) (Lk.t rfl)) rfl) <|
        .cons (.no) _ _ (op_len_m sl26 (Lk.t rfl)) <|
        .cons (.no) _ _ (op_makeFunc (C := Pl (xs.length : Int) (xs.length : Int)) (g := fun i j => flp (if i = j then xs.getD i.toNat 0 else 0)) (fun i j hC => diag1_ok hC) ⟨(Lk.sub (sb_ok 0 1 rfl rfl) (Lk.t rfl)),  trivial⟩ diag1_ok_has) <|
        .cons (.no) _ _ (op_callN 1 rfl (fillN_ok hs0) pull_mat ⟨(Lk.t rfl), (Lk.t rfl), (Lk.t rfl),  trivial⟩) <|
        .cons (.wr 1) _ _ (op_store_b 1 (Lk.t rfl) (Lk.t rfl) co_agg sz28 rfl rfl rfl) <|
        .cons (.no) _ _ (op_assign (Lk.k rfl)) <|
        .nil) ff rfl fun g5 => ⟨_, _, [1], rfl, (.cons 2 rfl <| .cons 3 rfl <| .nil), (.cons 1 rfl <| .nil), ?_⟩)
    refine JN_then ?_
    refine J_ret ?_
    refine JN_ret (.cons (.ag 0 (Lk.t rfl) ag28 rfl rfl rfl) <| .cons (.tmp (Lk.t rfl)) <| .nil) (sb_trans (sb_res (.cons sb_refl <| .cons sb_refl <| .nil)) (sb_trans push_M (sb_newp ?_)))
    exact ret_M (by unfold diagR orR; exact (if_pos h1).symm)
theorem OfN_ok {ls : List (List Nat)} : CtN Try.prog 48 [slm (slm flp) ls] (resM (ofR ls)) := by
  refine CtN.of Try.func48 rfl (by kernel_rfl) rfl fun c0 => ?_
  refine J_to To.size ?_
  refine J_len 0 rfl fun hlen => ?_
  refine J_to (To.emps 1) ?_
  refine J_seq (J_reg [] (
      .cons (.wr 0) _ _ (op_alloc 0 zr28 rfl rfl) <|
      .cons (.no) _ _ (op_assign (Lk.k rfl)) <|
      .nil) ff rfl fun g1 => ⟨_, _, [0], rfl, (.cons 0 rfl <| .cons 2 rfl <| .nil), (.cons 0 rfl <| .nil), ?_⟩)
  refine JN_then ?_
  refine J_seq ?_
  refine J_seq (J_reg [] (
      .cons (.no) _ _ (op_move (Lk.t rfl)) <|
      .cons (.no) _ _ (op_len_m sl50 (Lk.t rfl)) <|
      .cons (.no) _ _ (op_cmp (by simp) (Lk.t rfl) (Lk.k rfl) rfl) <|
      .nil) ff rfl fun g2 => ⟨_, _, [0], rfl, (.cons 0 rfl <| .cons 2 rfl <| .cons 10 rfl <| .nil), (.cons 0 rfl <| .nil), ?_⟩)
  refine JN_then ?_
  refine J_cond (cond_of (Lk.t rfl)) (fun h1 => ?_) (fun h1 => ?_)
  · have h1' := h1
    try simp only [cmpB, Bool.and_eq_true, Bool.or_eq_true, Bool.and_eq_false_iff, Bool.or_eq_false_iff, Bool.not_eq_true', Bool.not_eq_false', Bool.not_eq_true, Bool.not_eq_false, decide_eq_true_eq, decide_eq_false_iff_not, Int.not_lt, Int.not_le, beq_iff_eq, bne_iff_ne, beq_eq_false_iff_ne, bne_eq_false_iff_eq, ne_eq, Decidable.not_not] at h1
    refine J_seq (J_reg [] (
        .cons (.no) _ _ (op_build zr28 rfl pl28 .nil) <|
        .cons (.wr 0) _ _ (op_store_b 0 (Lk.t rfl) (Lk.t rfl) co_agg sz28 rfl rfl rfl) <|
        .cons (.no) _ _ (op_assign (Lk.k rfl)) <|
        .nil) ff rfl fun g3 => ⟨_, _, [0], rfl, (.cons 2 rfl <| .cons 3 rfl <| .nil), (.cons 0 rfl <| .nil), ?_⟩)
    refine JN_then ?_
    refine J_ret ?_
    refine JN_then_ret ?_
    refine JN_ret (.cons (.ag 0 (Lk.t rfl) ag28 rfl rfl rfl) <| .cons (.tmp (Lk.t rfl)) <| .nil) (sb_trans (sb_res (.cons (sb_agg (.cons sb_refl <| .cons sb_refl <| .cons (sb_nilN (mk := flp)) <| .nil)) <| .cons sb_refl <| .nil)) (sb_trans push_M (sb_newp ?_)))
    exact ret_M (by unfold ofR; rw [if_pos (by omega)])
  · have h1' := h1
    try simp only [cmpB, Bool.and_eq_true, Bool.or_eq_true, Bool.and_eq_false_iff, Bool.or_eq_false_iff, Bool.not_eq_true', Bool.not_eq_false', Bool.not_eq_true, Bool.not_eq_false, decide_eq_true_eq, decide_eq_false_iff_not, Int.not_lt, Int.not_le, beq_iff_eq, bne_iff_ne, beq_eq_false_iff_ne, bne_eq_false_iff_eq, ne_eq, Decidable.not_not] at h1
    have h0 : ¬ ls.length = 0 := by omega
    refine J_skip ?_
    refine JN_then ?_
    refine J_seq (J_reg [] (
        .cons (.no) _ _ (op_move (Lk.t rfl)) <|
        .cons (.no) _ _ (op_index_m [] sl50 (Lk.t rfl) (Lk.k rfl) (by omega) (by omega)) <|
        .cons (.no) _ _ (op_load_sc sc26 (Lk.t rfl) rfl) <|
        .cons (.no) _ _ (op_len_m sl26 (Lk.t rfl)) <|
        .cons (.no) _ _ (op_assign (Lk.t rfl)) <|
        .nil) ff rfl fun g4 => ⟨_, _, [0], rfl, (.cons 0 rfl <| .cons 2 rfl <| .cons 4 rfl <| .nil), (.cons 0 rfl <| .nil), ?_⟩)
    refine JN_then ?_
    refine J_seq ?_
    refine J_seq (J_reg [] (
        .cons (.no) _ _ (op_move (Lk.t rfl)) <|
        .cons (.no) _ _ (op_len_m sl50 (Lk.t rfl)) <|
        .cons (.no) _ _ (op_call (size_ok) ⟨(Lk.t rfl),  trivial⟩) <|
        .cons (.no) _ _ (op_not (Lk.t rfl)) <|
        .cons (.no) _ _ (op_move (Lk.t rfl)) <|
        .cons (.no) _ _ (op_guard rfl rfl (gd_b rfl) (fun hC => (op_move (Lk.t rfl)))) <|
        .cons (.no) _ _ (op_guard rfl rfl (gd_b rfl) (fun hC => (op_call (size_ok) ⟨(Lk.w rfl hC),  trivial⟩))) <|
        .cons (.no) _ _ (op_guard rfl rfl (gd_b rfl) (fun hC => (op_not (Lk.w rfl hC)))) <|
        .cons (.no) _ _ (op_or (Lk.t rfl) (fun h2 => (Lk.w rfl h2))) <|
        .nil) ff rfl fun g5 => ⟨_, _, [0], rfl, (.cons 0 rfl <| .cons 2 rfl <| .cons 4 rfl <| .cons 24 rfl <| .nil), (.cons 0 rfl <| .nil), ?_⟩)
    refine JN_then ?_
    refine J_cond (cond_of (Lk.t rfl)) (fun h2 => ?_) (fun h2 => ?_)
    · have h2' := h2
      try simp only [cmpB, Bool.and_eq_true, Bool.or_eq_true, Bool.and_eq_false_iff, Bool.or_eq_false_iff, Bool.not_eq_true', Bool.not_eq_false', Bool.not_eq_true, Bool.not_eq_false, decide_eq_true_eq, decide_eq_false_iff_not, Int.not_lt, Int.not_le, beq_iff_eq, bne_iff_ne, beq_eq_false_iff_ne, bne_eq_false_iff_eq, ne_eq, Decidable.not_not] at h2
      refine J_seq (J_reg [] (
          .cons (.no) _ _ (op_build zr28 rfl pl28 .nil) <|
          .cons (.wr 0) _ _ (op_store_b 0 (Lk.t rfl) (Lk.t rfl) co_agg sz28 rfl rfl rfl) <|
          .cons (.no) _ _ (op_assign (Lk.k rfl)) <|
          .nil) ff rfl fun g6 => ⟨_, _, [0], rfl, (.cons 2 rfl <| .cons 3 rfl <| .nil), (.cons 0 rfl <| .nil), ?_⟩)
      refine JN_then ?_
      refine J_ret ?_
      refine JN_then_ret ?_
      refine JN_ret (.cons (.ag 0 (Lk.t rfl) ag28 rfl rfl rfl) <| .cons (.tmp (Lk.t rfl)) <| .nil) (sb_trans (sb_res (.cons (sb_agg (.cons sb_refl <| .cons sb_refl <| .cons (sb_nilN (mk := flp)) <| .nil)) <| .cons sb_refl <| .nil)) (sb_trans push_M (sb_newp ?_)))
      exact ret_M (of_1 h0 h2)
    · have h2' := h2
      try simp only [cmpB, Bool.and_eq_true, Bool.or_eq_true, Bool.and_eq_false_iff, Bool.or_eq_false_iff, Bool.not_eq_true', Bool.not_eq_false', Bool.not_eq_true, Bool.not_eq_false, decide_eq_true_eq, decide_eq_false_iff_not, Int.not_lt, Int.not_le, beq_iff_eq, bne_iff_ne, beq_eq_false_iff_ne, bne_eq_false_iff_eq, ne_eq, Decidable.not_not] at h2
      have hz1 : sizB (ls.length : Int) = true := h2.1
      have hz2 : sizB (colN ls) = true := h2.2
      have hz : ¬(sizB (ls.length : Int) = false ∨ sizB (colN ls) = false) := by rw [hz1, hz2]; simp
      have q1 := sizB_iff.1 hz1
      have q2 := sizB_iff.1 hz2
      refine J_skip ?_
      refine JN_then ?_
      refine J_to (To.emps 1) ?_
      refine J_seq (J_reg [] (
          .cons (.no) _ _ (op_move (Lk.t rfl)) <|
          .cons (.no) _ _ (op_len_m sl50 (Lk.t rfl)) <|
          .cons (.no) _ _ (op_move (Lk.t rfl)) <|
          .cons (.no) _ _ (op_build zr28 rfl pl28 (.cons rfl (Lk.t rfl) co_isv rfl (puts_l rfl (Nat.le_of_ble_eq_true rfl)) (.cons rfl (Lk.t rfl) co_isv rfl (puts_l rfl (Nat.le_of_ble_eq_true rfl)) .nil))) <|
          .cons (.wr 1) _ _ (op_alloc 1 zr28 rfl rfl) <|
          .cons (.wr 1) _ _ (op_store_new 1 rfl (Lk.t rfl) co_agg sz28 rfl rfl) <|
          .nil) ff rfl fun g7 => ⟨_, _, [0, 1], rfl, (.cons 0 rfl <| .cons 2 rfl <| .cons 4 rfl <| .cons 5 rfl <| .nil), (.cons 0 rfl <| .cons 1 rfl <| .nil), ?_⟩)
      refine JN_then ?_
      refine J_seq ?_
      refine J_seq (J_reg [] (
          .cons (.no) _ _ (op_move (Lk.t rfl)) <|
          .cons (.no) _ _ (op_len_m sl50 (Lk.t rfl)) <|
          .cons (.no) _ _ (op_move (Lk.k rfl)) <|
          .nil) ff rfl fun g8 => ⟨_, _, [0, 1], rfl, (.cons 2 rfl <| .cons 4 rfl <| .cons 5 rfl <| .cons 30 rfl <| .cons 31 rfl <| .cons 32 rfl <| .nil), (.cons 0 rfl <| .cons 1 rfl <| .nil), ?_⟩)
      refine JN_then ?_
      refine J_block ?_
      refine J_to (To.emps 1) ?_
      refine J_loopc (α := Nat × Value) (fun x => x.1 ≤ ls.length ∧ Same ls x.1) (fun x => ls.length - x.1) (fun x restR => (32, isv (.int .i64 (x.1 : Int))) :: restR) (fun x restS => som x.2 flp ((ls.take x.1).flatten) 37 :: blk (g7 5) [isv (.int .i64 (ls.length : Int)), isv (.int .i64 (colN ls)), isv x.2] 28 :: restS) (ρc := [(2, _), (4, _), (5, _), (30, _), (31, _)]) (σc := [_]) (0, .slice none 0 0) (by exact ⟨Nat.zero_le _, same_zero⟩) (To.pick (fun _ => .sub (t := 32) rfl (sp_eq (by rfl)) <| .cons 2 rfl <| .cons 4 rfl <| .cons 5 rfl <| .cons 30 rfl <| .cons 31 rfl <| .nil) (fun _ => .sub 2 rfl (som_nil) <| .sub 1 rfl ((fun _ _ h => h)) <| .cons 0 rfl <| .nil) (ks := [2, 1, 0]) rfl) (fun x hI => ?_)
      obtain ⟨k, sv⟩ := x
      try simp only at hI
      show J _ _ ((32, isv (.int .i64 (k : Int))) :: _) (som sv flp ((ls.take k).flatten) 37 :: blk (g7 5) [isv (.int .i64 (ls.length : Int)), isv (.int .i64 (colN ls)), isv sv] 28 :: _) _ _
      refine J_seq (J_reg [] (
          .cons (.no) _ _ (op_cmp (by simp) (Lk.t rfl) (Lk.t rfl) rfl) <|
          .nil) ff rfl fun g9 => ⟨_, _, [0, 1, 2], rfl, (.cons 2 rfl <| .cons 4 rfl <| .cons 5 rfl <| .cons 30 rfl <| .cons 31 rfl <| .cons 32 rfl <| .cons 33 rfl <| .nil), (.cons 0 rfl <| .cons 1 rfl <| .cons 2 rfl <| .nil), ?_⟩)
      refine JN_then ?_
      refine J_seq ?_
      refine J_cond (cond_of (Lk.t rfl)) (fun h3 => ?_) (fun h3 => ?_)
      · have h3' := h3
        try simp only [cmpB, Bool.and_eq_true, Bool.or_eq_true, Bool.and_eq_false_iff, Bool.or_eq_false_iff, Bool.not_eq_true', Bool.not_eq_false', Bool.not_eq_true, Bool.not_eq_false, decide_eq_true_eq, decide_eq_false_iff_not, Int.not_lt, Int.not_le, beq_iff_eq, bne_iff_ne, beq_eq_false_iff_ne, bne_eq_false_iff_eq, ne_eq, Decidable.not_not] at h3
        have hfb := flat_bound hI.1 hI.2 (by omega) q2.2
        refine J_skip ?_
        refine JN_then ?_
        refine J_seq ?_
        refine J_block ?_
        refine J_seq (J_reg [] (
            .cons (.no) _ _ (op_index_m [] sl50 (Lk.t rfl) (Lk.t rfl) (by omega) (by omega)) <|
            .cons (.no) _ _ (op_load_sc sc26 (Lk.t rfl) rfl) <|
            .cons (.no) _ _ (op_assign (Lk.t rfl)) <|
            .nil) ff rfl fun g10 => ⟨_, _, [0, 1, 2], rfl, (.cons 2 rfl <| .cons 4 rfl <| .cons 5 rfl <| .cons 7 rfl <| .cons 30 rfl <| .cons 31 rfl <| .cons 32 rfl <| .nil), (.cons 0 rfl <| .cons 1 rfl <| .cons 2 rfl <| .nil), ?_⟩)
        refine JN_then ?_
        refine J_seq ?_
        refine J_seq (J_reg [] (
            .cons (.no) _ _ (op_move (Lk.t rfl)) <|
            .cons (.no) _ _ (op_len_m sl26 (Lk.t rfl)) <|
            .cons (.no) _ _ (op_move (Lk.t rfl)) <|
            .cons (.no) _ _ (op_cmp (by simp) (Lk.t rfl) (Lk.t rfl) rfl) <|
            .nil) ff rfl fun g11 => ⟨_, _, [0, 1, 2], rfl, (.cons 2 rfl <| .cons 4 rfl <| .cons 5 rfl <| .cons 7 rfl <| .cons 30 rfl <| .cons 31 rfl <| .cons 32 rfl <| .cons 39 rfl <| .nil), (.cons 0 rfl <| .cons 1 rfl <| .cons 2 rfl <| .nil), ?_⟩)
        refine JN_then ?_
        refine J_cond (cond_of (Lk.t rfl)) (fun h4 => ?_) (fun h4 => ?_)
        · have h4' := h4
          try simp only [cmpB, Bool.and_eq_true, Bool.or_eq_true, Bool.and_eq_false_iff, Bool.or_eq_false_iff, Bool.not_eq_true', Bool.not_eq_false', Bool.not_eq_true, Bool.not_eq_false, decide_eq_true_eq, decide_eq_false_iff_not, Int.not_lt, Int.not_le, beq_iff_eq, bne_iff_ne, beq_eq_false_iff_ne, bne_eq_false_iff_eq, ne_eq, Decidable.not_not] at h4
          refine J_seq (J_reg [] (
              .cons (.no) _ _ (op_build zr28 rfl pl28 .nil) <|
              .cons (.wr 2) _ _ (op_store_b 2 (Lk.t rfl) (Lk.t rfl) co_agg sz28 rfl rfl rfl) <|
              .cons (.no) _ _ (op_assign (Lk.k rfl)) <|
              .nil) ff rfl fun g12 => ⟨_, _, [2], rfl, (.cons 2 rfl <| .cons 3 rfl <| .nil), (.cons 2 rfl <| .nil), ?_⟩)
          refine JN_then ?_
          refine J_ret ?_
          refine JN_then_ret ?_
          refine JN_block_ret ?_
          refine JN_then_ret ?_
          refine JN_then_ret ?_
          refine JN_block_ret ?_
          refine JN_then_ret ?_
          refine JN_ret (.cons (.ag 0 (Lk.t rfl) ag28 rfl rfl rfl) <| .cons (.tmp (Lk.t rfl)) <| .nil) (sb_trans (sb_res (.cons (sb_agg (.cons sb_refl <| .cons sb_refl <| .cons (sb_nilN (mk := flp)) <| .nil)) <| .cons sb_refl <| .nil)) (sb_trans push_M (sb_newp ?_)))
          exact ret_M (of_3 h0 hz (same_not (k := k) (by omega) h4))
        · have h4' := h4
          try simp only [cmpB, Bool.and_eq_true, Bool.or_eq_true, Bool.and_eq_false_iff, Bool.or_eq_false_iff, Bool.not_eq_true', Bool.not_eq_false', Bool.not_eq_true, Bool.not_eq_false, decide_eq_true_eq, decide_eq_false_iff_not, Int.not_lt, Int.not_le, beq_iff_eq, bne_iff_ne, beq_eq_false_iff_ne, bne_eq_false_iff_eq, ne_eq, Decidable.not_not] at h4
          have hk4 : (((ls.getD k []).length : Nat) : Int) = colN ls := h4
          refine J_skip ?_
          refine JN_then ?_
          refine (J_reg [] (
              .cons (.no) _ _ (op_field_own fd28_2 (Lk.t rfl) rfl) <|
              .cons (.rd 1) _ _ (op_get_sc 1 sc26 (Lk.t rfl) rfl mem_blk rfl) <|
              .cons (.no) _ _ (op_move (Lk.t rfl)) <|
              .cons (.wr 0) _ _ (op_append_ms 0 sl26 zr37 rfl (Lk.t rfl) (Lk.t rfl) rfl (by show (ls.take k).flatten.length + (ls.getD k []).length ≤ _; omega) (by show ((ls.take k).flatten.length + (ls.getD k []).length) * 8 ≤ _; omega)) <|
              .cons (.no) _ _ (op_field_own fd28_2 (Lk.t rfl) rfl) <|
              .cons (.wr 1) _ _ (op_store_sl 1 (Lk.t rfl) rfl sz26 rfl rfl) <|
              .nil) ff rfl fun g13 => ⟨_, _, [0, 1, 2], rfl, (.cons 2 rfl <| .cons 4 rfl <| .cons 5 rfl <| .cons 30 rfl <| .cons 31 rfl <| .cons 32 rfl <| .nil), (.cons 0 rfl <| .cons 1 rfl <| .cons 2 rfl <| .nil), ?_⟩)
          refine JN_block ?_
          refine JN_then ?_
          refine (J_reg [] (
              .cons (.no) _ _ (op_add (Lk.t rfl) (Lk.k rfl) (wrap_id (by omega) (by omega))) <|
              .cons (.no) _ _ (op_move (Lk.t rfl)) <|
              .nil) ff rfl fun g14 => ⟨_, _, [0, 1, 2], rfl, (.cons 2 rfl <| .cons 4 rfl <| .cons 5 rfl <| .cons 30 rfl <| .cons 31 rfl <| .cons 32 rfl <| .nil), (.cons 0 rfl <| .cons 1 rfl <| .cons 2 rfl <| .nil), ?_⟩)
          exact JN_again (k + 1, g13 44) (by exact ⟨show k + 1 ≤ ls.length by omega, same_step hI.2 hk4⟩) (by show ls.length - (_ + 1) < _; omega) (To.pick (fun _ => .sub (t := 32) rfl (sp_eq (by rfl)) <| .cons 2 rfl <| .cons 4 rfl <| .cons 5 rfl <| .cons 30 rfl <| .cons 31 rfl <| .nil) (fun _ => .sub 0 rfl ((res_eq (by rw [show (ls.take (k + 1)).flatten = _ from flat_take (by omega)]; rfl))) <| .sub 1 rfl ((fun _ _ h => h)) <| .cons 2 rfl <| .nil) (ks := [0, 1, 2]) rfl)
      · have h3' := h3
        try simp only [cmpB, Bool.and_eq_true, Bool.or_eq_true, Bool.and_eq_false_iff, Bool.or_eq_false_iff, Bool.not_eq_true', Bool.not_eq_false', Bool.not_eq_true, Bool.not_eq_false, decide_eq_true_eq, decide_eq_false_iff_not, Int.not_lt, Int.not_le, beq_iff_eq, bne_iff_ne, beq_eq_false_iff_ne, bne_eq_false_iff_eq, ne_eq, Decidable.not_not] at h3
        have ek : ls.take k = ls := List.take_of_length_le (by omega)
        have hS : Same ls ls.length := (show k = ls.length by omega) ▸ hI.2
        refine J_exit ?_
        refine JN_then_exit ?_
        refine JN_then_exit ?_
        refine JN_exit_here ?_
        refine JN_then ?_
        refine J_seq ?_
        refine J_to (To.freezeN 0 (fun _ h => h) rfl frz_som (pure_som pure_flp).n rfl) ?_
        refine J_seq (J_reg [] (
            .cons (.no) _ _ (op_field_own fd28_2 (Lk.t rfl) rfl) <|
            .cons (.rd 1) _ _ (op_get_sc 1 sc26 (Lk.t rfl) rfl mem_blk rfl) <|
            .cons (.no) _ _ (op_call (finite_ok) ⟨(Lk.sub (sb_trans (sb_fk 0 rfl) sb_new) (Lk.t rfl)),  trivial⟩) <|
            .cons (.no) _ _ (op_not (Lk.t rfl)) <|
            .nil) ff rfl fun g15 => ⟨_, _, [1, 2], rfl, (.cons 2 rfl <| .cons 5 rfl <| .cons 50 rfl <| .nil), (.cons 1 rfl <| .cons 2 rfl <| .nil), ?_⟩)
        refine JN_then ?_
        refine J_cond (cond_of (Lk.t rfl)) (fun h5 => ?_) (fun h5 => ?_)
        · have h5' := h5
          try simp only [cmpB, Bool.and_eq_true, Bool.or_eq_true, Bool.and_eq_false_iff, Bool.or_eq_false_iff, Bool.not_eq_true', Bool.not_eq_false', Bool.not_eq_true, Bool.not_eq_false, decide_eq_true_eq, decide_eq_false_iff_not, Int.not_lt, Int.not_le, beq_iff_eq, bne_iff_ne, beq_eq_false_iff_ne, bne_eq_false_iff_eq, ne_eq, Decidable.not_not] at h5
          refine J_seq (J_reg [] (
              .cons (.no) _ _ (op_build zr28 rfl pl28 .nil) <|
              .cons (.wr 1) _ _ (op_store_b 1 (Lk.t rfl) (Lk.t rfl) co_agg sz28 rfl rfl rfl) <|
              .cons (.no) _ _ (op_assign (Lk.k rfl)) <|
              .nil) ff rfl fun g16 => ⟨_, _, [1], rfl, (.cons 2 rfl <| .cons 3 rfl <| .nil), (.cons 1 rfl <| .nil), ?_⟩)
          refine JN_then ?_
          refine J_ret ?_
          refine JN_then_ret ?_
          refine JN_ret (.cons (.ag 0 (Lk.t rfl) ag28 rfl rfl rfl) <| .cons (.tmp (Lk.t rfl)) <| .nil) (sb_trans (sb_res (.cons (sb_agg (.cons sb_refl <| .cons sb_refl <| .cons (sb_nilN (mk := flp)) <| .nil)) <| .cons sb_refl <| .nil)) (sb_trans push_M (sb_newp ?_)))
          exact ret_M (of_4 h0 hz hS (by rw [ek] at h5; exact h5))
        · have h5' := h5
          try simp only [cmpB, Bool.and_eq_true, Bool.or_eq_true, Bool.and_eq_false_iff, Bool.or_eq_false_iff, Bool.not_eq_true', Bool.not_eq_false', Bool.not_eq_true, Bool.not_eq_false, decide_eq_true_eq, decide_eq_false_iff_not, Int.not_lt, Int.not_le, beq_iff_eq, bne_iff_ne, beq_eq_false_iff_ne, bne_eq_false_iff_eq, ne_eq, Decidable.not_not] at h5
          refine J_skip ?_
          refine JN_then ?_
          refine J_seq (J_reg [] (
              .cons (.rd 0) _ _ (op_get_ag 0 ag28 (Lk.t rfl) rfl mem_blk rfl rfl) <|
              .cons (.wr 1) _ _ (op_store_b 1 (Lk.t rfl) (Lk.t rfl) co_agg sz28 rfl rfl rfl) <|
              .cons (.no) _ _ (op_assign (Lk.k rfl)) <|
              .nil) ff rfl fun g17 => ⟨_, _, [1], rfl, (.cons 2 rfl <| .cons 3 rfl <| .nil), (.cons 1 rfl <| .nil), ?_⟩)
          refine JN_then ?_
          refine J_ret ?_
          refine JN_ret (.cons (.ag 0 (Lk.t rfl) ag28 rfl rfl rfl) <| .cons (.tmp (Lk.t rfl)) <| .nil) (sb_trans (sb_res (.cons (sb_agg (.cons sb_refl <| .cons sb_refl <| .cons (sb_fk 0 rfl) <| .nil)) <| .cons sb_refl <| .nil)) (sb_trans push_M (sb_newp ?_)))
          exact ret_M (by rw [ek] at h5 ⊢; exact of_0 h0 hz hS h5)
theorem withN_ok {r c i j : Int} {xs : List Nat} {x : Nat} : CtN Try.prog 49 [MatP r c xs, isv (.int .i64 i), isv (.int .i64 j), flp x] (resM (withR r c xs i j x)) := by
  refine CtN.of Try.func49 rfl (by kernel_rfl) rfl fun c0 => ?_
  refine J_to To.size ?_
  refine J_to (To.emps 2) ?_
  refine J_seq (J_reg [] (
      .cons (.wr 0) _ _ (op_box 0 (Lk.t rfl) co_agg rfl) <|
      .cons (.wr 1) _ _ (op_alloc 1 zr28 rfl rfl) <|
      .cons (.no) _ _ (op_assign (Lk.k rfl)) <|
      .nil) ff rfl fun g1 => ⟨_, _, [0, 1], rfl, (.cons 1 rfl <| .cons 2 rfl <| .cons 3 rfl <| .cons 4 rfl <| .cons 8 rfl <| .nil), (.cons 0 rfl <| .cons 1 rfl <| .nil), ?_⟩)
  refine JN_then ?_
  refine J_seq ?_
  refine J_seq (J_reg [[], [0], [], [], [], [0, 1, 2, 3, 4], [0, 1, 2, 3, 4, 5], [0, 1, 2, 3, 4, 5, 6], [], [], [8, 9], [8, 9, 10], [0, 1, 2, 3, 4, 5, 6, 7, 8, 9, 10, 11], [0, 1, 2, 3, 4, 5, 6, 7, 8, 9, 10, 11, 12], [0, 1, 2, 3, 4, 5, 6, 7, 8, 9, 10, 11, 12, 13], [0, 1, 2, 3, 4, 5, 6, 7, 8, 9, 10, 11, 12, 13, 14]] (
      .cons (.rd 0) _ _ (op_get_ag 0 ag28 (Lk.t rfl) rfl mem_blk rfl rfl) <|
      .cons (.no) _ _ (op_call (chk_ok) ⟨(Lk.t rfl),  trivial⟩) <|
      .cons (.rd 0) _ _ (op_get_ag 0 ag28 (Lk.t rfl) rfl mem_blk rfl rfl) <|
      .cons (.no) _ _ (op_move (Lk.t rfl)) <|
      .cons (.no) _ _ (op_move (Lk.t rfl)) <|
      .cons (.no) _ _ (op_call (inside_ok) ⟨(Lk.t rfl), (Lk.t rfl), (Lk.t rfl),  trivial⟩) <|
      .cons (.no) _ _ (op_not (Lk.t rfl)) <|
      .cons (.no) _ _ (op_call (when_ok) ⟨(Lk.t rfl), (Lk.k rfl),  trivial⟩) <|
      .cons (.no) _ _ (op_move (Lk.t rfl)) <|
      .cons (.no) _ _ (op_move (Lk.t rfl)) <|
      .cons (.no) _ _ (op_float (by simp) (Lk.t rfl) (Lk.t rfl) rfl) <|
      .cons (.no) _ _ (op_fcmp (by simp) (Lk.t rfl) (Lk.fk rfl (by decide +kernel)) rfl) <|
      .cons (.no) _ _ (op_call (when_ok) ⟨(Lk.t rfl), (Lk.k rfl),  trivial⟩) <|
      .cons (.no) _ _ (op_buildSlice sl86 zr30 rfl rfl rfl rfl (.cons rfl (Lk.t rfl) co_isv rfl (puts_l rfl (Nat.le_of_ble_eq_true rfl)) (.cons rfl (Lk.t rfl) co_isv rfl (puts_l rfl (Nat.le_of_ble_eq_true rfl)) (.cons rfl (Lk.t rfl) co_isv rfl (puts_l rfl (Nat.le_of_ble_eq_true rfl)) .nil)))) <|
      .cons (.no) _ _ (op_call (first_ok3) ⟨(Lk.t rfl),  trivial⟩) <|
      .cons (.no) _ _ (op_assign (Lk.t rfl)) <|
      .nil) (fun _ => mixed) rfl fun g2 => ⟨_, _, [0, 1], rfl, (.cons 1 rfl <| .cons 2 rfl <| .cons 3 rfl <| .cons 4 rfl <| .cons 8 rfl <| .cons 10 rfl <| .nil), (.cons 0 rfl <| .cons 1 rfl <| .nil), ?_⟩)
  refine JN_then ?_
  refine J_seq (J_reg [] (
      .cons (.no) _ _ (op_move (Lk.t rfl)) <|
      .cons (.no) _ _ (op_cmp (by simp) (Lk.t rfl) (Lk.k rfl) rfl) <|
      .nil) ff rfl fun g3 => ⟨_, _, [0, 1], rfl, (.cons 1 rfl <| .cons 2 rfl <| .cons 3 rfl <| .cons 4 rfl <| .cons 8 rfl <| .cons 10 rfl <| .cons 28 rfl <| .nil), (.cons 0 rfl <| .cons 1 rfl <| .nil), ?_⟩)
  refine JN_then ?_
  refine J_cond (cond_of (Lk.t rfl)) (fun h1 => ?_) (fun h1 => ?_)
  · have h1' := h1
    try simp only [cmpB, Bool.and_eq_true, Bool.or_eq_true, Bool.and_eq_false_iff, Bool.or_eq_false_iff, Bool.not_eq_true', Bool.not_eq_false', Bool.not_eq_true, Bool.not_eq_false, decide_eq_true_eq, decide_eq_false_iff_not, Int.not_lt, Int.not_le, beq_iff_eq, bne_iff_ne, beq_eq_false_iff_ne, bne_eq_false_iff_eq, ne_eq, Decidable.not_not] at h1
    refine J_seq (J_reg [] (
        .cons (.no) _ _ (op_build zr28 rfl pl28 .nil) <|
        .cons (.no) _ _ (op_move (Lk.t rfl)) <|
        .cons (.wr 1) _ _ (op_store_b 1 (Lk.t rfl) (Lk.t rfl) co_agg sz28 rfl rfl rfl) <|
        .cons (.no) _ _ (op_assign (Lk.t rfl)) <|
        .nil) ff rfl fun g4 => ⟨_, _, [1], rfl, (.cons 8 rfl <| .cons 9 rfl <| .nil), (.cons 1 rfl <| .nil), ?_⟩)
    refine JN_then ?_
    refine J_ret ?_
    refine JN_then_ret ?_
    refine JN_ret (.cons (.ag 0 (Lk.t rfl) ag28 rfl rfl rfl) <| .cons (.tmp (Lk.t rfl)) <| .nil) (sb_trans (sb_res (.cons (sb_agg (.cons sb_refl <| .cons sb_refl <| .cons (sb_nilN (mk := flp)) <| .nil)) <| .cons sb_refl <| .nil)) (sb_trans push_M (sb_newp ?_)))
    exact ret_M (by unfold withR orR; exact (if_neg h1).symm)
  · have h1' := h1
    try simp only [cmpB, Bool.and_eq_true, Bool.or_eq_true, Bool.and_eq_false_iff, Bool.or_eq_false_iff, Bool.not_eq_true', Bool.not_eq_false', Bool.not_eq_true, Bool.not_eq_false, decide_eq_true_eq, decide_eq_false_iff_not, Int.not_lt, Int.not_le, beq_iff_eq, bne_iff_ne, beq_eq_false_iff_ne, bne_eq_false_iff_eq, ne_eq, Decidable.not_not] at h1
    obtain ⟨hg, hp, _⟩ := withE_good h1
    have hm := hg.1.mul
    have hl := hg.2
    have hq := hp.rng hg.1
    obtain ⟨hs1, hs2, hs3, hs4⟩ := hg.1
    obtain ⟨hp1, hp2, hp3, hp4⟩ := hp
    refine J_skip ?_
    refine JN_then ?_
    refine J_to (To.emps 1) ?_
    refine J_seq (J_reg [] (
        .cons (.rd 0) _ _ (op_get_ag 0 ag28 (Lk.t rfl) rfl mem_blk rfl rfl) <|
        .cons (.wr 2) _ _ (op_alloc 2 zr28 rfl rfl) <|
        .cons (.wr 2) _ _ (op_store_new 2 rfl (Lk.t rfl) co_agg sz28 rfl rfl) <|
        .nil) ff rfl fun g5 => ⟨_, _, [0, 1, 2], rfl, (.cons 1 rfl <| .cons 2 rfl <| .cons 3 rfl <| .cons 4 rfl <| .cons 8 rfl <| .cons 11 rfl <| .nil), (.cons 0 rfl <| .cons 1 rfl <| .cons 2 rfl <| .nil), ?_⟩)
    refine JN_then ?_
    refine J_to (To.emps 1) ?_
    refine J_seq (J_reg [] (
        .cons (.no) _ _ (op_field_own fd28_2 (Lk.t rfl) rfl) <|
        .cons (.rd 0) _ _ (op_get_sc 0 sc26 (Lk.t rfl) rfl mem_blk rfl) <|
        .cons (.wr 3) _ _ (op_callF 3 (cloneF_ok (by omega)) ⟨(Lk.t rfl),  trivial⟩ rfl) <|
        .cons (.no) _ _ (op_field_own fd28_2 (Lk.t rfl) rfl) <|
        .cons (.wr 2) _ _ (op_store_sl 2 (Lk.t rfl) rfl sz26 rfl rfl) <|
        .nil) ff rfl fun g6 => ⟨_, _, [0, 1, 2, 3], rfl, (.cons 1 rfl <| .cons 2 rfl <| .cons 3 rfl <| .cons 4 rfl <| .cons 8 rfl <| .cons 11 rfl <| .nil), (.cons 0 rfl <| .cons 1 rfl <| .cons 2 rfl <| .cons 3 rfl <| .nil), ?_⟩)
    refine JN_then ?_
    refine J_seq (J_reg [] (
        .cons (.no) _ _ (op_field_own fd28_2 (Lk.t rfl) rfl) <|
        .cons (.rd 2) _ _ (op_get_sc 2 sc26 (Lk.t rfl) rfl mem_blk rfl) <|
        .cons (.no) _ _ (op_move (Lk.t rfl)) <|
        .cons (.no) _ _ (op_field_own fd28_1 (Lk.t rfl) rfl) <|
        .cons (.rd 0) _ _ (op_get_sc 0 sc3 (Lk.t rfl) rfl mem_blk rfl) <|
        .cons (.no) _ _ (op_mul (Lk.t rfl) (Lk.t rfl) (wrap_id (by omega) (by omega))) <|
        .cons (.no) _ _ (op_move (Lk.t rfl)) <|
        .cons (.no) _ _ (op_add (Lk.t rfl) (Lk.t rfl) (wrap_id (by omega) (by omega))) <|
        .cons (.no) _ _ (op_move (Lk.t rfl)) <|
        .cons (.rd 3) _ _ (op_index_som 3 sl26 (Lk.t rfl) (Lk.t rfl) rfl (by omega) (by omega)) <|
        .cons (.wr 3) _ _ (op_store_som 3 (Lk.t rfl) (Lk.t rfl) co_flp sz37 rfl (by omega)) <|
        .nil) ff rfl fun g7 => ⟨_, _, [1, 2, 3], rfl, (.cons 8 rfl <| .cons 11 rfl <| .nil), (.cons 1 rfl <| .cons 2 rfl <| .cons 3 rfl <| .nil), ?_⟩)
    refine JN_then ?_
    refine J_seq (J_reg [] (
        .cons (.rd 1) _ _ (op_get_ag 1 ag28 (Lk.t rfl) rfl mem_blk rfl rfl) <|
        .cons (.wr 0) _ _ (op_store_b 0 (Lk.t rfl) (Lk.t rfl) co_agg sz28 rfl rfl rfl) <|
        .cons (.no) _ _ (op_assign (Lk.k rfl)) <|
        .nil) ff rfl fun g8 => ⟨_, _, [0, 2], rfl, (.cons 8 rfl <| .cons 9 rfl <| .nil), (.cons 0 rfl <| .cons 2 rfl <| .nil), ?_⟩)
    refine JN_then ?_
    refine J_ret ?_
    refine JN_to (To.freezeN 1 (fun _ h => h) rfl frz_som (pure_som pure_flp).n rfl) ?_
    refine JN_ret (.cons (.ag 0 (Lk.t rfl) ag28 rfl rfl rfl) <| .cons (.tmp (Lk.t rfl)) <| .nil) (sb_trans (sb_res (.cons (sb_agg (.cons sb_refl <| .cons sb_refl <| .cons (sb_fk 0 rfl) <| .nil)) <| .cons sb_refl <| .nil)) (sb_trans push_M (sb_newp ?_)))
    exact ret_M (by unfold withR orR; exact (if_pos h1).symm)
theorem RowN_ok {r c i : Int} {xs : List Nat} : CtN Try.prog 10 [MatP r c xs, isv (.int .i64 i)] (resV (rowR r c xs i)) := by
  refine CtN.of Try.func10 rfl (by kernel_rfl) rfl fun c0 => ?_
  refine J_to To.size ?_
  refine J_to (To.emps 1) ?_
  refine J_seq (J_reg [] (
      .cons (.wr 0) _ _ (op_box 0 (Lk.t rfl) co_agg rfl) <|
      .cons (.no) _ _ (op_assign (Lk.k rfl)) <|
      .cons (.no) _ _ (op_assign (Lk.k rfl)) <|
      .nil) ff rfl fun g1 => ⟨_, _, [0], rfl, (.cons 1 rfl <| .cons 2 rfl <| .nil), (.cons 0 rfl <| .nil), ?_⟩)
  refine JN_then ?_
  refine J_seq ?_
  refine J_seq (J_reg [] (
      .cons (.rd 0) _ _ (op_get_ag 0 ag28 (Lk.t rfl) rfl mem_blk rfl rfl) <|
      .cons (.no) _ _ (op_call (chk_ok) ⟨(Lk.t rfl),  trivial⟩) <|
      .cons (.no) _ _ (op_move (Lk.t rfl)) <|
      .cons (.no) _ _ (op_cmp (by simp) (Lk.t rfl) (Lk.k rfl) rfl) <|
      .cons (.no) _ _ (op_move (Lk.t rfl)) <|
      .cons (.no) _ _ (op_guard rfl rfl (gd_b rfl) (fun hC => (op_move (Lk.t rfl)))) <|
      .cons (.no) _ _ (op_guard rfl rfl (gd_b rfl) (fun hC => (op_field_own fd28_0 (Lk.t rfl) rfl))) <|
      .cons (.rd 0) _ _ (op_guard rfl rfl (gd_b rfl) (fun hC => (op_get_sc 0 sc3 (Lk.w rfl hC) rfl mem_blk rfl))) <|
      .cons (.no) _ _ (op_guard rfl rfl (gd_b rfl) (fun hC => (op_cmp (by simp) (Lk.w rfl hC) (Lk.w rfl hC) rfl))) <|
      .cons (.no) _ _ (op_or (Lk.t rfl) (fun h2 => (Lk.w rfl h2))) <|
      .cons (.no) _ _ (op_call (when_ok) ⟨(Lk.t rfl), (Lk.k rfl),  trivial⟩) <|
      .cons (.no) _ _ (op_buildSlice sl86 zr30 rfl rfl rfl rfl (.cons rfl (Lk.t rfl) co_isv rfl (puts_l rfl (Nat.le_of_ble_eq_true rfl)) (.cons rfl (Lk.t rfl) co_isv rfl (puts_l rfl (Nat.le_of_ble_eq_true rfl)) .nil))) <|
      .cons (.no) _ _ (op_call (first_ok2) ⟨(Lk.t rfl),  trivial⟩) <|
      .cons (.no) _ _ (op_assign (Lk.t rfl)) <|
      .nil) ff rfl fun g2 => ⟨_, _, [0], rfl, (.cons 1 rfl <| .cons 2 rfl <| .cons 6 rfl <| .nil), (.cons 0 rfl <| .nil), ?_⟩)
  refine JN_then ?_
  refine J_seq (J_reg [] (
      .cons (.no) _ _ (op_move (Lk.t rfl)) <|
      .cons (.no) _ _ (op_cmp (by simp) (Lk.t rfl) (Lk.k rfl) rfl) <|
      .nil) ff rfl fun g3 => ⟨_, _, [0], rfl, (.cons 1 rfl <| .cons 2 rfl <| .cons 6 rfl <| .cons 21 rfl <| .nil), (.cons 0 rfl <| .nil), ?_⟩)
  refine JN_then ?_
  refine J_cond (cond_of (Lk.t rfl)) (fun h1 => ?_) (fun h1 => ?_)
  · have h1' := h1
    try simp only [cmpB, Bool.and_eq_true, Bool.or_eq_true, Bool.and_eq_false_iff, Bool.or_eq_false_iff, Bool.not_eq_true', Bool.not_eq_false', Bool.not_eq_true, Bool.not_eq_false, decide_eq_true_eq, decide_eq_false_iff_not, Int.not_lt, Int.not_le, beq_iff_eq, bne_iff_ne, beq_eq_false_iff_ne, bne_eq_false_iff_eq, ne_eq, Decidable.not_not] at h1
    refine J_seq (J_reg [] (
        .cons (.no) _ _ (op_move (Lk.t rfl)) <|
        .cons (.no) _ _ (op_assign (Lk.k rfl)) <|
        .cons (.no) _ _ (op_assign (Lk.t rfl)) <|
        .nil) ff rfl fun g4 => ⟨_, _, [], rfl, (.cons 4 rfl <| .cons 5 rfl <| .nil), (.nil), ?_⟩)
    refine JN_then ?_
    refine J_ret ?_
    refine JN_then_ret ?_
    refine JN_ret (.cons (.tmp (Lk.t rfl)) <| .cons (.tmp (Lk.t rfl)) <| .nil) (sb_trans (sb_res (.cons (sb_nilN (mk := flp)) <| .cons sb_refl <| .nil)) (sb_trans push_V (sb_newp ?_)))
    exact ret_L (by unfold rowR orL; exact (if_neg h1).symm)
  · have h1' := h1
    try simp only [cmpB, Bool.and_eq_true, Bool.or_eq_true, Bool.and_eq_false_iff, Bool.or_eq_false_iff, Bool.not_eq_true', Bool.not_eq_false', Bool.not_eq_true, Bool.not_eq_false, decide_eq_true_eq, decide_eq_false_iff_not, Int.not_lt, Int.not_le, beq_iff_eq, bne_iff_ne, beq_eq_false_iff_ne, bne_eq_false_iff_eq, ne_eq, Decidable.not_not] at h1
    obtain ⟨hg, hp1, hp2, _⟩ := rowE_good h1
    obtain ⟨hs1, hs2, hs3, hs4⟩ := hg.1
    refine J_skip ?_
    refine JN_then ?_
    refine J_to (To.emps 1) ?_
    refine J_seq (J_reg [] (
        .cons (.rd 0) _ _ (op_get_ag 0 ag28 (Lk.t rfl) rfl mem_blk rfl rfl) <|
        .cons (.no) _ _ (op_move (Lk.t rfl)) <|
        .cons (.no) _ _ (op_call (row_ok hg hp1 hp2) ⟨(Lk.t rfl), (Lk.t rfl),  trivial⟩) <|
        .cons (.wr 1) _ _ (op_callF 1 (cloneF_ok (by rw [length_rowL]; omega)) ⟨(Lk.t rfl),  trivial⟩ rfl) <|
        .cons (.no) _ _ (op_assign_ve rfl rfl) <|
        .cons (.no) _ _ (op_assign (Lk.k rfl)) <|
        .nil) ff rfl fun g5 => ⟨_, _, [1], rfl, (.cons 4 rfl <| .cons 5 rfl <| .nil), (.cons 1 rfl <| .nil), ?_⟩)
    refine JN_then ?_
    refine J_ret ?_
    refine JN_to (To.freezeN 0 (fun _ h => h) rfl frz_som (pure_som pure_flp).n rfl) ?_
    refine JN_ret (.cons (.tmp (Lk.t rfl)) <| .cons (.tmp (Lk.t rfl)) <| .nil) (sb_trans (sb_res (.cons (sb_fk 0 rfl) <| .cons sb_refl <| .nil)) (sb_trans push_V (sb_newp ?_)))
    exact ret_L (by unfold rowR orL; exact (if_pos h1).symm)
theorem ColN_ok {r c j : Int} {xs : List Nat} : CtN Try.prog 11 [MatP r c xs, isv (.int .i64 j)] (resV (colR r c xs j)) := by
  refine CtN.of Try.func11 rfl (by kernel_rfl) rfl fun c0 => ?_
  refine J_to To.size ?_
  refine J_to (To.emps 1) ?_
  refine J_seq (J_reg [] (
      .cons (.wr 0) _ _ (op_box 0 (Lk.t rfl) co_agg rfl) <|
      .cons (.no) _ _ (op_assign (Lk.k rfl)) <|
      .cons (.no) _ _ (op_assign (Lk.k rfl)) <|
      .nil) ff rfl fun g1 => ⟨_, _, [0], rfl, (.cons 1 rfl <| .cons 2 rfl <| .nil), (.cons 0 rfl <| .nil), ?_⟩)
  refine JN_then ?_
  refine J_seq ?_
  refine J_seq (J_reg [] (
      .cons (.rd 0) _ _ (op_get_ag 0 ag28 (Lk.t rfl) rfl mem_blk rfl rfl) <|
      .cons (.no) _ _ (op_call (chk_ok) ⟨(Lk.t rfl),  trivial⟩) <|
      .cons (.no) _ _ (op_move (Lk.t rfl)) <|
      .cons (.no) _ _ (op_cmp (by simp) (Lk.t rfl) (Lk.k rfl) rfl) <|
      .cons (.no) _ _ (op_move (Lk.t rfl)) <|
      .cons (.no) _ _ (op_guard rfl rfl (gd_b rfl) (fun hC => (op_move (Lk.t rfl)))) <|
      .cons (.no) _ _ (op_guard rfl rfl (gd_b rfl) (fun hC => (op_field_own fd28_1 (Lk.t rfl) rfl))) <|
      .cons (.rd 0) _ _ (op_guard rfl rfl (gd_b rfl) (fun hC => (op_get_sc 0 sc3 (Lk.w rfl hC) rfl mem_blk rfl))) <|
      .cons (.no) _ _ (op_guard rfl rfl (gd_b rfl) (fun hC => (op_cmp (by simp) (Lk.w rfl hC) (Lk.w rfl hC) rfl))) <|
      .cons (.no) _ _ (op_or (Lk.t rfl) (fun h2 => (Lk.w rfl h2))) <|
      .cons (.no) _ _ (op_call (when_ok) ⟨(Lk.t rfl), (Lk.k rfl),  trivial⟩) <|
      .cons (.no) _ _ (op_buildSlice sl86 zr30 rfl rfl rfl rfl (.cons rfl (Lk.t rfl) co_isv rfl (puts_l rfl (Nat.le_of_ble_eq_true rfl)) (.cons rfl (Lk.t rfl) co_isv rfl (puts_l rfl (Nat.le_of_ble_eq_true rfl)) .nil))) <|
      .cons (.no) _ _ (op_call (first_ok2) ⟨(Lk.t rfl),  trivial⟩) <|
      .cons (.no) _ _ (op_assign (Lk.t rfl)) <|
      .nil) ff rfl fun g2 => ⟨_, _, [0], rfl, (.cons 1 rfl <| .cons 2 rfl <| .cons 6 rfl <| .nil), (.cons 0 rfl <| .nil), ?_⟩)
  refine JN_then ?_
  refine J_seq (J_reg [] (
      .cons (.no) _ _ (op_move (Lk.t rfl)) <|
      .cons (.no) _ _ (op_cmp (by simp) (Lk.t rfl) (Lk.k rfl) rfl) <|
      .nil) ff rfl fun g3 => ⟨_, _, [0], rfl, (.cons 1 rfl <| .cons 2 rfl <| .cons 6 rfl <| .cons 21 rfl <| .nil), (.cons 0 rfl <| .nil), ?_⟩)
  refine JN_then ?_
  refine J_cond (cond_of (Lk.t rfl)) (fun h1 => ?_) (fun h1 => ?_)
  · have h1' := h1
    try simp only [cmpB, Bool.and_eq_true, Bool.or_eq_true, Bool.and_eq_false_iff, Bool.or_eq_false_iff, Bool.not_eq_true', Bool.not_eq_false', Bool.not_eq_true, Bool.not_eq_false, decide_eq_true_eq, decide_eq_false_iff_not, Int.not_lt, Int.not_le, beq_iff_eq, bne_iff_ne, beq_eq_false_iff_ne, bne_eq_false_iff_eq, ne_eq, Decidable.not_not] at h1
    refine J_seq (J_reg [] (
        .cons (.no) _ _ (op_move (Lk.t rfl)) <|
        .cons (.no) _ _ (op_assign (Lk.k rfl)) <|
        .cons (.no) _ _ (op_assign (Lk.t rfl)) <|
        .nil) ff rfl fun g4 => ⟨_, _, [], rfl, (.cons 4 rfl <| .cons 5 rfl <| .nil), (.nil), ?_⟩)
    refine JN_then ?_
    refine J_ret ?_
    refine JN_then_ret ?_
    refine JN_ret (.cons (.tmp (Lk.t rfl)) <| .cons (.tmp (Lk.t rfl)) <| .nil) (sb_trans (sb_res (.cons (sb_nilN (mk := flp)) <| .cons sb_refl <| .nil)) (sb_trans push_V (sb_newp ?_)))
    exact ret_L (by unfold colR orL; exact (if_neg h1).symm)
  · have h1' := h1
    try simp only [cmpB, Bool.and_eq_true, Bool.or_eq_true, Bool.and_eq_false_iff, Bool.or_eq_false_iff, Bool.not_eq_true', Bool.not_eq_false', Bool.not_eq_true, Bool.not_eq_false, decide_eq_true_eq, decide_eq_false_iff_not, Int.not_lt, Int.not_le, beq_iff_eq, bne_iff_ne, beq_eq_false_iff_ne, bne_eq_false_iff_eq, ne_eq, Decidable.not_not] at h1
    obtain ⟨hg, hp1, hp2, _⟩ := rowE_good h1
    refine J_skip ?_
    refine JN_then ?_
    refine J_seq (J_reg [] (
        .cons (.rd 0) _ _ (op_get_ag 0 ag28 (Lk.t rfl) rfl mem_blk rfl rfl) <|
        .cons (.no) _ _ (op_move (Lk.t rfl)) <|
        .cons (.no) _ _ (op_callN 0 rfl (colN_ok hg hp1 hp2) sb_refl ⟨(Lk.t rfl), (Lk.t rfl),  trivial⟩) <|
        .cons (.no) _ _ (op_assign (Lk.t rfl)) <|
        .cons (.no) _ _ (op_assign (Lk.k rfl)) <|
        .nil) ff rfl fun g5 => ⟨_, _, [], rfl, (.cons 4 rfl <| .cons 5 rfl <| .nil), (.nil), ?_⟩)
    refine JN_then ?_
    refine J_ret ?_
    refine JN_ret (.cons (.tmp (Lk.t rfl)) <| .cons (.tmp (Lk.t rfl)) <| .nil) (sb_trans (sb_res (.cons sb_refl <| .cons sb_refl <| .nil)) (sb_trans push_V (sb_newp ?_)))
    exact ret_L (by unfold colR orL; exact (if_pos h1).symm)
theorem mvN_ok {r c : Int} {xs ys : List Nat} : CtN Try.prog 14 [MatP r c xs, fls ys] (resV (mvR r c xs ys)) := by
  refine CtN.of Try.func14 rfl (by kernel_rfl) rfl fun c0 => ?_
  refine J_to To.size ?_
  refine J_to (To.emps 1) ?_
  refine J_seq (J_reg [] (
      .cons (.wr 0) _ _ (op_box 0 (Lk.t rfl) co_agg rfl) <|
      .cons (.no) _ _ (op_assign (Lk.k rfl)) <|
      .cons (.no) _ _ (op_assign (Lk.k rfl)) <|
      .nil) ff rfl fun g1 => ⟨_, _, [0], rfl, (.cons 1 rfl <| .cons 2 rfl <| .nil), (.cons 0 rfl <| .nil), ?_⟩)
  refine JN_then ?_
  refine J_seq ?_
  refine J_seq (J_reg [[], [0], [], [0, 1, 2], [], [4], [], [6], [4, 5, 6, 7], [0, 1, 2, 3, 4, 5, 6, 7, 8], [0, 1, 2, 3, 4, 5, 6, 7, 8, 9], [0, 1, 2, 3, 4, 5, 6, 7, 8, 9, 10], [0, 1, 2, 3, 4, 5, 6, 7, 8, 9, 10, 11]] (
      .cons (.rd 0) _ _ (op_get_ag 0 ag28 (Lk.t rfl) rfl mem_blk rfl rfl) <|
      .cons (.no) _ _ (op_call (chk_ok) ⟨(Lk.t rfl),  trivial⟩) <|
      .cons (.no) _ _ (op_move (Lk.t rfl)) <|
      .cons (.no) _ _ (op_call (list_ok) ⟨(Lk.t rfl),  trivial⟩) <|
      .cons (.no) _ _ (op_field_own fd28_1 (Lk.t rfl) rfl) <|
      .cons (.rd 0) _ _ (op_get_sc 0 sc3 (Lk.t rfl) rfl mem_blk rfl) <|
      .cons (.no) _ _ (op_move (Lk.t rfl)) <|
      .cons (.no) _ _ (op_len_m sl26 (Lk.t rfl)) <|
      .cons (.no) _ _ (op_cmp (by simp) (Lk.t rfl) (Lk.t rfl) rfl) <|
      .cons (.no) _ _ (op_call (when_ok) ⟨(Lk.t rfl), (Lk.k rfl),  trivial⟩) <|
      .cons (.no) _ _ (op_buildSlice sl86 zr30 rfl rfl rfl rfl (.cons rfl (Lk.t rfl) co_isv rfl (puts_l rfl (Nat.le_of_ble_eq_true rfl)) (.cons rfl (Lk.t rfl) co_isv rfl (puts_l rfl (Nat.le_of_ble_eq_true rfl)) (.cons rfl (Lk.t rfl) co_isv rfl (puts_l rfl (Nat.le_of_ble_eq_true rfl)) .nil)))) <|
      .cons (.no) _ _ (op_call (first_ok3) ⟨(Lk.t rfl),  trivial⟩) <|
      .cons (.no) _ _ (op_assign (Lk.t rfl)) <|
      .nil) (fun _ => mixed) rfl fun g2 => ⟨_, _, [0], rfl, (.cons 1 rfl <| .cons 2 rfl <| .cons 6 rfl <| .nil), (.cons 0 rfl <| .nil), ?_⟩)
  refine JN_then ?_
  refine J_seq (J_reg [] (
      .cons (.no) _ _ (op_move (Lk.t rfl)) <|
      .cons (.no) _ _ (op_cmp (by simp) (Lk.t rfl) (Lk.k rfl) rfl) <|
      .nil) ff rfl fun g3 => ⟨_, _, [0], rfl, (.cons 1 rfl <| .cons 2 rfl <| .cons 6 rfl <| .cons 22 rfl <| .nil), (.cons 0 rfl <| .nil), ?_⟩)
  refine JN_then ?_
  refine J_cond (cond_of (Lk.t rfl)) (fun h1 => ?_) (fun h1 => ?_)
  · have h1' := h1
    try simp only [cmpB, Bool.and_eq_true, Bool.or_eq_true, Bool.and_eq_false_iff, Bool.or_eq_false_iff, Bool.not_eq_true', Bool.not_eq_false', Bool.not_eq_true, Bool.not_eq_false, decide_eq_true_eq, decide_eq_false_iff_not, Int.not_lt, Int.not_le, beq_iff_eq, bne_iff_ne, beq_eq_false_iff_ne, bne_eq_false_iff_eq, ne_eq, Decidable.not_not] at h1
    refine J_seq (J_reg [] (
        .cons (.no) _ _ (op_move (Lk.t rfl)) <|
        .cons (.no) _ _ (op_assign (Lk.k rfl)) <|
        .cons (.no) _ _ (op_assign (Lk.t rfl)) <|
        .nil) ff rfl fun g4 => ⟨_, _, [], rfl, (.cons 4 rfl <| .cons 5 rfl <| .nil), (.nil), ?_⟩)
    refine JN_then ?_
    refine J_ret ?_
    refine JN_then_ret ?_
    refine JN_ret (.cons (.tmp (Lk.t rfl)) <| .cons (.tmp (Lk.t rfl)) <| .nil) (sb_trans (sb_res (.cons (sb_nilN (mk := flp)) <| .cons sb_refl <| .nil)) (sb_trans push_V (sb_newp ?_)))
    exact ret_L (by unfold mvR orL; exact (if_neg h1).symm)
  · have h1' := h1
    try simp only [cmpB, Bool.and_eq_true, Bool.or_eq_true, Bool.and_eq_false_iff, Bool.or_eq_false_iff, Bool.not_eq_true', Bool.not_eq_false', Bool.not_eq_true, Bool.not_eq_false, decide_eq_true_eq, decide_eq_false_iff_not, Int.not_lt, Int.not_le, beq_iff_eq, bne_iff_ne, beq_eq_false_iff_ne, bne_eq_false_iff_eq, ne_eq, Decidable.not_not] at h1
    obtain ⟨hg, hl, _, _⟩ := mvE_good h1
    obtain ⟨hs1, hs2, hs3, hs4⟩ := hg.1
    refine J_skip ?_
    refine JN_then ?_
    refine J_seq (J_reg [] (
        .cons (.no) _ _ (op_assign (Lk.k rfl)) <|
        .nil) ff rfl fun g5 => ⟨_, _, [0], rfl, (.cons 1 rfl <| .cons 2 rfl <| .cons 7 rfl <| .nil), (.cons 0 rfl <| .nil), ?_⟩)
    refine JN_then ?_
    refine J_seq ?_
    refine J_seq (J_reg [] (
        .cons (.no) _ _ (op_field_own fd28_0 (Lk.t rfl) rfl) <|
        .cons (.rd 0) _ _ (op_get_sc 0 sc3 (Lk.t rfl) rfl mem_blk rfl) <|
        .cons (.no) _ _ (op_move (Lk.k rfl)) <|
        .nil) ff rfl fun g6 => ⟨_, _, [0], rfl, (.cons 1 rfl <| .cons 2 rfl <| .cons 7 rfl <| .cons 25 rfl <| .cons 26 rfl <| .nil), (.cons 0 rfl <| .nil), ?_⟩)
    refine JN_then ?_
    refine J_block ?_
    refine J_to (To.emps 1) ?_
    refine J_loopc (α := Nat × Value) (fun x => x.1 ≤ r.toNat) (fun x => r.toNat - x.1) (fun x restR => (26, isv (.int .i64 (x.1 : Int))) :: (7, isv x.2) :: restR) (fun x restS => som x.2 flp ((mvG r c xs ys).take x.1) 37 :: restS) (ρc := [(1, _), (2, _), (25, _)]) (σc := [_]) (0, .slice none 0 0) (by exact Nat.zero_le _) (To.pick (fun _ => .sub (t := 26) rfl (sp_eq (by rfl)) <| .sub (t := 7) rfl (sp_eq (by rfl)) <| .cons 1 rfl <| .cons 2 rfl <| .cons 25 rfl <| .nil) (fun _ => .sub 1 rfl (som_nil) <| .cons 0 rfl <| .nil) (ks := [1, 0]) rfl) (fun x hI => ?_)
    obtain ⟨k, sv⟩ := x
    try simp only at hI
    show J _ _ ((26, isv (.int .i64 (k : Int))) :: (7, isv sv) :: _) (som sv flp ((mvG r c xs ys).take k) 37 :: _) _ _
    refine J_seq (J_reg [] (
        .cons (.no) _ _ (op_cmp (by simp) (Lk.t rfl) (Lk.t rfl) rfl) <|
        .nil) ff rfl fun g7 => ⟨_, _, [0, 1], rfl, (.cons 1 rfl <| .cons 2 rfl <| .cons 7 rfl <| .cons 25 rfl <| .cons 26 rfl <| .cons 27 rfl <| .nil), (.cons 0 rfl <| .cons 1 rfl <| .nil), ?_⟩)
    refine JN_then ?_
    refine J_seq ?_
    refine J_cond (cond_of (Lk.t rfl)) (fun h2 => ?_) (fun h2 => ?_)
    · have h2' := h2
      try simp only [cmpB, Bool.and_eq_true, Bool.or_eq_true, Bool.and_eq_false_iff, Bool.or_eq_false_iff, Bool.not_eq_true', Bool.not_eq_false', Bool.not_eq_true, Bool.not_eq_false, decide_eq_true_eq, decide_eq_false_iff_not, Int.not_lt, Int.not_le, beq_iff_eq, bne_iff_ne, beq_eq_false_iff_ne, bne_eq_false_iff_eq, ne_eq, Decidable.not_not] at h2
      refine J_skip ?_
      refine JN_then ?_
      refine J_seq ?_
      refine J_block ?_
      refine J_seq (J_reg [] (
          .cons (.no) _ _ (op_move (Lk.t rfl)) <|
          .cons (.no) _ _ (op_assign (Lk.t rfl)) <|
          .nil) ff rfl fun g8 => ⟨_, _, [0, 1], rfl, (.cons 1 rfl <| .cons 2 rfl <| .cons 7 rfl <| .cons 8 rfl <| .cons 25 rfl <| .cons 26 rfl <| .nil), (.cons 0 rfl <| .cons 1 rfl <| .nil), ?_⟩)
      refine JN_then ?_
      refine (J_reg [] (
          .cons (.no) _ _ (op_move (Lk.t rfl)) <|
          .cons (.rd 1) _ _ (op_get_ag 1 ag28 (Lk.t rfl) rfl mem_blk rfl rfl) <|
          .cons (.no) _ _ (op_move (Lk.t rfl)) <|
          .cons (.no) _ _ (op_call (row_ok hg (by omega) (by omega)) ⟨(Lk.t rfl), (Lk.t rfl),  trivial⟩) <|
          .cons (.no) _ _ (op_move (Lk.t rfl)) <|
          .cons (.no) _ _ (op_call (dot_ok (by rw [length_rowL]; omega)) ⟨(Lk.t rfl), (Lk.t rfl),  trivial⟩) <|
          .cons (.no) _ _ (op_buildSlice sl26 zr37 rfl rfl rfl rfl (.cons rfl (Lk.t rfl) co_flp rfl (puts_l rfl (Nat.le_of_ble_eq_true rfl)) .nil)) <|
          .cons (.wr 0) _ _ (op_append_m 0 sl26 zr37 rfl (Lk.t rfl) (Lk.t rfl) rfl (by rw [List.length_take, length_mvG]; omega) (by rw [List.length_take, length_mvG]; omega)) <|
          .cons (.no) _ _ (op_assign_ve rfl rfl) <|
          .nil) ff rfl fun g9 => ⟨_, _, [0, 1], rfl, (.cons 1 rfl <| .cons 2 rfl <| .cons 7 rfl <| .cons 25 rfl <| .cons 26 rfl <| .nil), (.cons 0 rfl <| .cons 1 rfl <| .nil), ?_⟩)
      refine JN_block ?_
      refine JN_then ?_
      refine (J_reg [] (
          .cons (.no) _ _ (op_add (Lk.t rfl) (Lk.k rfl) (wrap_id (by omega) (by omega))) <|
          .cons (.no) _ _ (op_move (Lk.t rfl)) <|
          .nil) ff rfl fun g10 => ⟨_, _, [0, 1], rfl, (.cons 1 rfl <| .cons 2 rfl <| .cons 7 rfl <| .cons 25 rfl <| .cons 26 rfl <| .nil), (.cons 0 rfl <| .cons 1 rfl <| .nil), ?_⟩)
      exact JN_again (k + 1, g9 36) (by exact (show k + 1 ≤ r.toNat by omega)) (by show r.toNat - (_ + 1) < _; omega) (To.pick (fun _ => .sub (t := 26) rfl (sp_eq (by rfl)) <| .sub (t := 7) rfl (sp_eq (by rfl)) <| .cons 1 rfl <| .cons 2 rfl <| .cons 25 rfl <| .nil) (fun _ => .sub 0 rfl ((res_eq (by rw [show (mvG r c xs ys).take (k + 1) = (mvG r c xs ys).take k ++ [dotL (rowL c xs k) ys] from take_mvG (by omega)]))) <| .cons 1 rfl <| .nil) (ks := [0, 1]) rfl)
    · have h2' := h2
      try simp only [cmpB, Bool.and_eq_true, Bool.or_eq_true, Bool.and_eq_false_iff, Bool.or_eq_false_iff, Bool.not_eq_true', Bool.not_eq_false', Bool.not_eq_true, Bool.not_eq_false, decide_eq_true_eq, decide_eq_false_iff_not, Int.not_lt, Int.not_le, beq_iff_eq, bne_iff_ne, beq_eq_false_iff_ne, bne_eq_false_iff_eq, ne_eq, Decidable.not_not] at h2
      have ek : (mvG r c xs ys).take k = mvG r c xs ys := List.take_of_length_le (by rw [length_mvG]; omega)
      refine J_exit ?_
      refine JN_then_exit ?_
      refine JN_then_exit ?_
      refine JN_exit_here ?_
      refine JN_then ?_
      refine J_seq ?_
      refine J_to (To.freezeN 0 (fun _ h => h) rfl frz_som (pure_som pure_flp).n rfl) ?_
      refine J_seq (J_reg [] (
          .cons (.no) _ _ (op_move (Lk.t rfl)) <|
          .cons (.no) _ _ (op_call (finite_ok) ⟨(Lk.sub (sb_trans (sb_fk 0 rfl) sb_new) (Lk.t rfl)),  trivial⟩) <|
          .cons (.no) _ _ (op_not (Lk.t rfl)) <|
          .nil) ff rfl fun g11 => ⟨_, _, [], rfl, (.cons 7 rfl <| .cons 40 rfl <| .nil), (.nil), ?_⟩)
      refine JN_then ?_
      refine J_cond (cond_of (Lk.t rfl)) (fun h3 => ?_) (fun h3 => ?_)
      · have h3' := h3
        try simp only [cmpB, Bool.and_eq_true, Bool.or_eq_true, Bool.and_eq_false_iff, Bool.or_eq_false_iff, Bool.not_eq_true', Bool.not_eq_false', Bool.not_eq_true, Bool.not_eq_false, decide_eq_true_eq, decide_eq_false_iff_not, Int.not_lt, Int.not_le, beq_iff_eq, bne_iff_ne, beq_eq_false_iff_ne, bne_eq_false_iff_eq, ne_eq, Decidable.not_not] at h3
        refine J_seq (J_reg [] (
            .cons (.no) _ _ (op_assign (Lk.k rfl)) <|
            .cons (.no) _ _ (op_assign (Lk.k rfl)) <|
            .nil) ff rfl fun g12 => ⟨_, _, [], rfl, (.cons 4 rfl <| .cons 5 rfl <| .nil), (.nil), ?_⟩)
        refine JN_then ?_
        refine J_ret ?_
        refine JN_then_ret ?_
        refine JN_ret (.cons (.tmp (Lk.t rfl)) <| .cons (.tmp (Lk.t rfl)) <| .nil) (sb_trans (sb_res (.cons (sb_nilN (mk := flp)) <| .cons sb_refl <| .nil)) (sb_trans push_V (sb_newp ?_)))
        exact ret_L (by rw [ek] at h3; unfold mvR orL toldL; rw [if_pos (show mvE r c xs ys = 0 from h1), if_pos h3]; rfl)
      · have h3' := h3
        try simp only [cmpB, Bool.and_eq_true, Bool.or_eq_true, Bool.and_eq_false_iff, Bool.or_eq_false_iff, Bool.not_eq_true', Bool.not_eq_false', Bool.not_eq_true, Bool.not_eq_false, decide_eq_true_eq, decide_eq_false_iff_not, Int.not_lt, Int.not_le, beq_iff_eq, bne_iff_ne, beq_eq_false_iff_ne, bne_eq_false_iff_eq, ne_eq, Decidable.not_not] at h3
        refine J_skip ?_
        refine JN_then ?_
        refine J_seq (J_reg [] (
            .cons (.no) _ _ (op_move (Lk.t rfl)) <|
            .cons (.no) _ _ (op_assign (Lk.t rfl)) <|
            .cons (.no) _ _ (op_assign (Lk.k rfl)) <|
            .nil) ff rfl fun g13 => ⟨_, _, [], rfl, (.cons 4 rfl <| .cons 5 rfl <| .nil), (.nil), ?_⟩)
        refine JN_then ?_
        refine J_ret ?_
        refine JN_ret (.cons (.tmp (Lk.t rfl)) <| .cons (.tmp (Lk.t rfl)) <| .nil) (sb_trans (sb_res (.cons (sb_fk 0 rfl) <| .cons sb_refl <| .nil)) (sb_trans push_V (sb_newp ?_)))
        exact ret_L (by rw [ek] at h3 ⊢; unfold mvR orL toldL; rw [if_pos (show mvE r c xs ys = 0 from h1), if_neg (by simpa using h3)])
theorem trN_ok {r c : Int} {xs : List Nat} : CtN Try.prog 51 [MatP r c xs] (resM (trR r c xs)) := by
  refine CtN.of Try.func51 rfl (by kernel_rfl) rfl fun c0 => ?_
  refine J_to To.size ?_
  refine J_to (To.emps 2) ?_
  refine J_seq (J_reg [] (
      .cons (.wr 0) _ _ (op_box 0 (Lk.t rfl) co_agg rfl) <|
      .cons (.wr 1) _ _ (op_alloc 1 zr28 rfl rfl) <|
      .cons (.no) _ _ (op_assign (Lk.k rfl)) <|
      .nil) ff rfl fun g1 => ⟨_, _, [0, 1], rfl, (.cons 1 rfl <| .cons 2 rfl <| .nil), (.cons 0 rfl <| .cons 1 rfl <| .nil), ?_⟩)
  refine JN_then ?_
  refine J_seq ?_
  refine J_seq (J_reg [] (
      .cons (.rd 0) _ _ (op_get_ag 0 ag28 (Lk.t rfl) rfl mem_blk rfl rfl) <|
      .cons (.no) _ _ (op_call (chk_ok) ⟨(Lk.t rfl),  trivial⟩) <|
      .cons (.no) _ _ (op_assign (Lk.t rfl)) <|
      .nil) ff rfl fun g2 => ⟨_, _, [0, 1], rfl, (.cons 1 rfl <| .cons 2 rfl <| .cons 4 rfl <| .nil), (.cons 0 rfl <| .cons 1 rfl <| .nil), ?_⟩)
  refine JN_then ?_
  refine J_seq (J_reg [] (
      .cons (.no) _ _ (op_move (Lk.t rfl)) <|
      .cons (.no) _ _ (op_cmp (by simp) (Lk.t rfl) (Lk.k rfl) rfl) <|
      .nil) ff rfl fun g3 => ⟨_, _, [0, 1], rfl, (.cons 1 rfl <| .cons 2 rfl <| .cons 4 rfl <| .cons 8 rfl <| .nil), (.cons 0 rfl <| .cons 1 rfl <| .nil), ?_⟩)
  refine JN_then ?_
  refine J_cond (cond_of (Lk.t rfl)) (fun h1 => ?_) (fun h1 => ?_)
  · have h1' := h1
    try simp only [cmpB, Bool.and_eq_true, Bool.or_eq_true, Bool.and_eq_false_iff, Bool.or_eq_false_iff, Bool.not_eq_true', Bool.not_eq_false', Bool.not_eq_true, Bool.not_eq_false, decide_eq_true_eq, decide_eq_false_iff_not, Int.not_lt, Int.not_le, beq_iff_eq, bne_iff_ne, beq_eq_false_iff_ne, bne_eq_false_iff_eq, ne_eq, Decidable.not_not] at h1
    refine J_seq (J_reg [] (
        .cons (.no) _ _ (op_build zr28 rfl pl28 .nil) <|
        .cons (.no) _ _ (op_move (Lk.t rfl)) <|
        .cons (.wr 1) _ _ (op_store_b 1 (Lk.t rfl) (Lk.t rfl) co_agg sz28 rfl rfl rfl) <|
        .cons (.no) _ _ (op_assign (Lk.t rfl)) <|
        .nil) ff rfl fun g4 => ⟨_, _, [1], rfl, (.cons 2 rfl <| .cons 3 rfl <| .nil), (.cons 1 rfl <| .nil), ?_⟩)
    refine JN_then ?_
    refine J_ret ?_
    refine JN_then_ret ?_
    refine JN_ret (.cons (.ag 0 (Lk.t rfl) ag28 rfl rfl rfl) <| .cons (.tmp (Lk.t rfl)) <| .nil) (sb_trans (sb_res (.cons (sb_agg (.cons sb_refl <| .cons sb_refl <| .cons (sb_nilN (mk := flp)) <| .nil)) <| .cons sb_refl <| .nil)) (sb_trans push_M (sb_newp ?_)))
    exact ret_M (by unfold trR orR; exact (if_neg h1).symm)
  · have h1' := h1
    try simp only [cmpB, Bool.and_eq_true, Bool.or_eq_true, Bool.and_eq_false_iff, Bool.or_eq_false_iff, Bool.not_eq_true', Bool.not_eq_false', Bool.not_eq_true, Bool.not_eq_false, decide_eq_true_eq, decide_eq_false_iff_not, Int.not_lt, Int.not_le, beq_iff_eq, bne_iff_ne, beq_eq_false_iff_ne, bne_eq_false_iff_eq, ne_eq, Decidable.not_not] at h1
    have hg := chk_good h1
    refine J_skip ?_
    refine JN_then ?_
    refine J_to (To.freeze 0 (fun _ h => h) rfl frz_blk rfl) ?_
    refine J_seq (J_reg [] (
        .cons (.no) _ _ (op_field_own fd28_1 (Lk.t rfl) rfl) <|
        .cons (.no) _ _ (op_load_sc sc3 (Lk.sub (sb_ok 0 1 rfl rfl) (Lk.t rfl)) rfl) <|
        .cons (.no) _ _ (op_field_own fd28_0 (Lk.t rfl) rfl) <|
        .cons (.no) _ _ (op_load_sc sc3 (Lk.sub (sb_ok 0 1 rfl rfl) (Lk.t rfl)) rfl) <|
        .cons (.no) _ _ (op_makeFunc (C := Pl c r) (g := fun i j => flp (mat c xs j i)) (fun i j hC => tr1_ok hg hC) ⟨(Lk.sub (sb_ok 0 3 rfl rfl) (Lk.t rfl)),  trivial⟩ tr1_ok_has) <|
        .cons (.no) _ _ (op_callN 1 rfl (fillN_ok hg.1.turn) pull_mat ⟨(Lk.t rfl), (Lk.t rfl), (Lk.t rfl),  trivial⟩) <|
        .cons (.wr 1) _ _ (op_store_b 1 (Lk.t rfl) (Lk.t rfl) co_agg sz28 rfl rfl rfl) <|
        .cons (.no) _ _ (op_assign (Lk.k rfl)) <|
        .nil) ff rfl fun g5 => ⟨_, _, [1], rfl, (.cons 2 rfl <| .cons 3 rfl <| .nil), (.cons 1 rfl <| .nil), ?_⟩)
    refine JN_then ?_
    refine J_ret ?_
    refine JN_ret (.cons (.ag 0 (Lk.t rfl) ag28 rfl rfl rfl) <| .cons (.tmp (Lk.t rfl)) <| .nil) (sb_trans (sb_res (.cons sb_refl <| .cons sb_refl <| .nil)) (sb_trans push_M (sb_newp ?_)))
    exact ret_M (by unfold trR orR; exact (if_pos h1).symm)
theorem blkN_ok {r c i j p q : Int} {xs : List Nat} : CtN Try.prog 52 [MatP r c xs, isv (.int .i64 i), isv (.int .i64 j), isv (.int .i64 p), isv (.int .i64 q)] (resM (blkR r c xs i j p q)) := by
  refine CtN.of Try.func52 rfl (by kernel_rfl) rfl fun c0 => ?_
  refine J_to To.size ?_
  refine J_to (To.emps 4) ?_
  refine J_seq (J_reg [] (
      .cons (.wr 0) _ _ (op_box 0 (Lk.t rfl) co_agg rfl) <|
      .cons (.wr 1) _ _ (op_box 1 (Lk.t rfl) co_isv rfl) <|
      .cons (.wr 2) _ _ (op_box 2 (Lk.t rfl) co_isv rfl) <|
      .cons (.wr 3) _ _ (op_alloc 3 zr28 rfl rfl) <|
      .cons (.no) _ _ (op_assign (Lk.k rfl)) <|
      .nil) ff rfl fun g1 => ⟨_, _, [0, 1, 2, 3], rfl, (.cons 3 rfl <| .cons 4 rfl <| .cons 5 rfl <| .cons 6 rfl <| .cons 7 rfl <| .cons 10 rfl <| .nil), (.cons 0 rfl <| .cons 1 rfl <| .cons 2 rfl <| .cons 3 rfl <| .nil), ?_⟩)
  refine JN_then ?_
  refine J_seq ?_
  refine J_seq (J_reg [[], [0], [], [], [], [4], [0, 1, 2, 3, 4, 5], [0, 1, 2, 3, 4, 5, 6], [0, 1, 2, 3, 4, 5, 6, 7], [0, 1, 2, 3, 4, 5, 6, 7, 8], [0, 1, 2, 3, 4, 5, 6, 7, 8], [0, 1, 2, 3, 4, 5, 6, 7, 8], [0, 1, 2, 3, 4, 5, 6, 7, 8, 11], [0, 1, 2, 3, 4, 5, 6, 7, 8, 9, 10, 11, 12], [0, 1, 2, 3, 4, 5, 6, 7, 8, 9, 10, 11, 12, 13], [0, 1, 2, 3, 4, 5, 6, 7, 8, 9, 10, 11, 12, 13, 14], [0, 1, 2, 3, 4, 5, 6, 7, 8, 9, 10, 11, 12, 13, 14, 15], [0, 1, 2, 3, 4, 5, 6, 7, 8, 9, 10, 11, 12, 13, 14, 15, 16], [0, 1, 2, 3, 4, 5, 6, 7, 8, 9, 10, 11, 12, 13, 14, 15, 16, 17], [0, 1, 2, 3, 4, 5, 6, 7, 8, 9, 10, 11, 12, 13, 14, 15, 16, 17, 18]] (
      .cons (.rd 0) _ _ (op_get_ag 0 ag28 (Lk.t rfl) rfl mem_blk rfl rfl) <|
      .cons (.no) _ _ (op_call (chk_ok) ⟨(Lk.t rfl),  trivial⟩) <|
      .cons (.rd 1) _ _ (op_get_sc 1 sc3 (Lk.t rfl) rfl mem_blk rfl) <|
      .cons (.no) _ _ (op_move (Lk.t rfl)) <|
      .cons (.no) _ _ (op_field_own fd28_0 (Lk.t rfl) rfl) <|
      .cons (.rd 0) _ _ (op_get_sc 0 sc3 (Lk.t rfl) rfl mem_blk rfl) <|
      .cons (.no) _ _ (op_call (span_ok) ⟨(Lk.t rfl), (Lk.t rfl), (Lk.t rfl),  trivial⟩) <|
      .cons (.no) _ _ (op_not (Lk.t rfl)) <|
      .cons (.no) _ _ (op_move (Lk.t rfl)) <|
      .cons (.rd 2) _ _ (op_guard rfl rfl (gd_b rfl) (fun hC => (op_get_sc 2 sc3 (Lk.t rfl) rfl mem_blk rfl))) <|
      .cons (.no) _ _ (op_guard rfl rfl (gd_b rfl) (fun hC => (op_move (Lk.t rfl)))) <|
      .cons (.no) _ _ (op_guard rfl rfl (gd_b rfl) (fun hC => (op_field_own fd28_1 (Lk.t rfl) rfl))) <|
      .cons (.rd 0) _ _ (op_guard rfl rfl (gd_b rfl) (fun hC => (op_get_sc 0 sc3 (Lk.w rfl hC) rfl mem_blk rfl))) <|
      .cons (.no) _ _ (op_guard rfl rfl (gd_b rfl) (fun hC => (op_call (span_ok) ⟨(Lk.w rfl hC), (Lk.w rfl hC), (Lk.w rfl hC),  trivial⟩))) <|
      .cons (.no) _ _ (op_guard rfl rfl (gd_b rfl) (fun hC => (op_not (Lk.w rfl hC)))) <|
      .cons (.no) _ _ (op_or (Lk.t rfl) (fun h2 => (Lk.w rfl h2))) <|
      .cons (.no) _ _ (op_call (when_ok) ⟨(Lk.t rfl), (Lk.k rfl),  trivial⟩) <|
      .cons (.no) _ _ (op_buildSlice sl86 zr30 rfl rfl rfl rfl (.cons rfl (Lk.t rfl) co_isv rfl (puts_l rfl (Nat.le_of_ble_eq_true rfl)) (.cons rfl (Lk.t rfl) co_isv rfl (puts_l rfl (Nat.le_of_ble_eq_true rfl)) .nil))) <|
      .cons (.no) _ _ (op_call (first_ok2) ⟨(Lk.t rfl),  trivial⟩) <|
      .cons (.no) _ _ (op_assign (Lk.t rfl)) <|
      .nil) (fun _ => mixed) rfl fun g2 => ⟨_, _, [0, 1, 2, 3], rfl, (.cons 3 rfl <| .cons 4 rfl <| .cons 5 rfl <| .cons 6 rfl <| .cons 7 rfl <| .cons 10 rfl <| .cons 12 rfl <| .nil), (.cons 0 rfl <| .cons 1 rfl <| .cons 2 rfl <| .cons 3 rfl <| .nil), ?_⟩)
  refine JN_then ?_
  refine J_seq (J_reg [] (
      .cons (.no) _ _ (op_move (Lk.t rfl)) <|
      .cons (.no) _ _ (op_cmp (by simp) (Lk.t rfl) (Lk.k rfl) rfl) <|
      .nil) ff rfl fun g3 => ⟨_, _, [0, 1, 2, 3], rfl, (.cons 3 rfl <| .cons 4 rfl <| .cons 5 rfl <| .cons 6 rfl <| .cons 7 rfl <| .cons 10 rfl <| .cons 12 rfl <| .cons 33 rfl <| .nil), (.cons 0 rfl <| .cons 1 rfl <| .cons 2 rfl <| .cons 3 rfl <| .nil), ?_⟩)
  refine JN_then ?_
  refine J_cond (cond_of (Lk.t rfl)) (fun h1 => ?_) (fun h1 => ?_)
  · have h1' := h1
    try simp only [cmpB, Bool.and_eq_true, Bool.or_eq_true, Bool.and_eq_false_iff, Bool.or_eq_false_iff, Bool.not_eq_true', Bool.not_eq_false', Bool.not_eq_true, Bool.not_eq_false, decide_eq_true_eq, decide_eq_false_iff_not, Int.not_lt, Int.not_le, beq_iff_eq, bne_iff_ne, beq_eq_false_iff_ne, bne_eq_false_iff_eq, ne_eq, Decidable.not_not] at h1
    refine J_seq (J_reg [] (
        .cons (.no) _ _ (op_build zr28 rfl pl28 .nil) <|
        .cons (.no) _ _ (op_move (Lk.t rfl)) <|
        .cons (.wr 3) _ _ (op_store_b 3 (Lk.t rfl) (Lk.t rfl) co_agg sz28 rfl rfl rfl) <|
        .cons (.no) _ _ (op_assign (Lk.t rfl)) <|
        .nil) ff rfl fun g4 => ⟨_, _, [3], rfl, (.cons 10 rfl <| .cons 11 rfl <| .nil), (.cons 3 rfl <| .nil), ?_⟩)
    refine JN_then ?_
    refine J_ret ?_
    refine JN_then_ret ?_
    refine JN_ret (.cons (.ag 0 (Lk.t rfl) ag28 rfl rfl rfl) <| .cons (.tmp (Lk.t rfl)) <| .nil) (sb_trans (sb_res (.cons (sb_agg (.cons sb_refl <| .cons sb_refl <| .cons (sb_nilN (mk := flp)) <| .nil)) <| .cons sb_refl <| .nil)) (sb_trans push_M (sb_newp ?_)))
    exact ret_M (by unfold blkR orR; exact (if_neg h1).symm)
  · have h1' := h1
    try simp only [cmpB, Bool.and_eq_true, Bool.or_eq_true, Bool.and_eq_false_iff, Bool.or_eq_false_iff, Bool.not_eq_true', Bool.not_eq_false', Bool.not_eq_true, Bool.not_eq_false, decide_eq_true_eq, decide_eq_false_iff_not, Int.not_lt, Int.not_le, beq_iff_eq, bne_iff_ne, beq_eq_false_iff_ne, bne_eq_false_iff_eq, ne_eq, Decidable.not_not] at h1
    obtain ⟨hg, hs, q1, q2, q3, q4⟩ := blkE_good h1
    refine J_skip ?_
    refine JN_then ?_
    refine J_to (To.freeze 0 (fun _ h => h) rfl frz_blk rfl) ?_
    refine J_to (To.freeze 1 (fun _ h => h) rfl frz_blk rfl) ?_
    refine J_to (To.freeze 2 (fun _ h => h) rfl frz_blk rfl) ?_
    refine J_seq (J_reg [] (
        .cons (.no) _ _ (op_move (Lk.t rfl)) <|
        .cons (.no) _ _ (op_move (Lk.t rfl)) <|
        .cons (.no) _ _ (op_makeFunc (C := Pl p q) (g := fun a b => flp (mat c xs (i + a) (j + b))) (fun i j hC => blk1_ok hg hs q1 q2 q3 q4 hC) ⟨(Lk.sub (sb_ok 2 3 rfl rfl) (Lk.t rfl)), (Lk.sub (sb_ok 1 1 rfl rfl) (Lk.t rfl)), (Lk.sub (sb_ok 0 1 rfl rfl) (Lk.t rfl)),  trivial⟩ blk1_ok_has) <|
        .cons (.no) _ _ (op_callN 3 rfl (fillN_ok hs) pull_mat ⟨(Lk.t rfl), (Lk.t rfl), (Lk.t rfl),  trivial⟩) <|
        .cons (.wr 3) _ _ (op_store_b 3 (Lk.t rfl) (Lk.t rfl) co_agg sz28 rfl rfl rfl) <|
        .cons (.no) _ _ (op_assign (Lk.k rfl)) <|
        .nil) ff rfl fun g5 => ⟨_, _, [3], rfl, (.cons 10 rfl <| .cons 11 rfl <| .nil), (.cons 3 rfl <| .nil), ?_⟩)
    refine JN_then ?_
    refine J_ret ?_
    refine JN_ret (.cons (.ag 0 (Lk.t rfl) ag28 rfl rfl rfl) <| .cons (.tmp (Lk.t rfl)) <| .nil) (sb_trans (sb_res (.cons sb_refl <| .cons sb_refl <| .nil)) (sb_trans push_M (sb_newp ?_)))
    exact ret_M (by unfold blkR orR; exact (if_pos h1).symm)
theorem besN_ok {r c r' c' : Int} {xs ys : List Nat} : CtN Try.prog 53 [MatP r c xs, MatP r' c' ys] (resM (besR r c xs r' c' ys)) := by
  refine CtN.of Try.func53 rfl (by kernel_rfl) rfl fun c0 => ?_
  refine J_to To.size ?_
  refine J_to (To.emps 3) ?_
  refine J_seq (J_reg [] (
      .cons (.wr 0) _ _ (op_box 0 (Lk.t rfl) co_agg rfl) <|
      .cons (.wr 1) _ _ (op_box 1 (Lk.t rfl) co_agg rfl) <|
      .cons (.wr 2) _ _ (op_alloc 2 zr28 rfl rfl) <|
      .cons (.no) _ _ (op_assign (Lk.k rfl)) <|
      .nil) ff rfl fun g1 => ⟨_, _, [0, 1, 2], rfl, (.cons 2 rfl <| .cons 3 rfl <| .cons 4 rfl <| .nil), (.cons 0 rfl <| .cons 1 rfl <| .cons 2 rfl <| .nil), ?_⟩)
  refine JN_then ?_
  refine J_seq ?_
  refine J_seq (J_reg [[], [0], [], [0, 1, 2], [], [4], [], [6], [4, 5, 6, 7], [0, 1, 2, 3, 4, 5, 6, 7, 8], [], [10], [], [12], [10, 11, 12, 13], [10, 11, 12, 13, 14], [0, 1, 2, 3, 4, 5, 6, 7, 8, 9, 10, 11, 12, 13, 14, 15], [0, 1, 2, 3, 4, 5, 6, 7, 8, 9, 10, 11, 12, 13, 14, 15, 16], [0, 1, 2, 3, 4, 5, 6, 7, 8, 9, 10, 11, 12, 13, 14, 15, 16, 17], [0, 1, 2, 3, 4, 5, 6, 7, 8, 9, 10, 11, 12, 13, 14, 15, 16, 17, 18]] (
      .cons (.rd 0) _ _ (op_get_ag 0 ag28 (Lk.t rfl) rfl mem_blk rfl rfl) <|
      .cons (.no) _ _ (op_call (chk_ok) ⟨(Lk.t rfl),  trivial⟩) <|
      .cons (.rd 1) _ _ (op_get_ag 1 ag28 (Lk.t rfl) rfl mem_blk rfl rfl) <|
      .cons (.no) _ _ (op_call (chk_ok) ⟨(Lk.t rfl),  trivial⟩) <|
      .cons (.no) _ _ (op_field_own fd28_0 (Lk.t rfl) rfl) <|
      .cons (.rd 0) _ _ (op_get_sc 0 sc3 (Lk.t rfl) rfl mem_blk rfl) <|
      .cons (.no) _ _ (op_field_own fd28_0 (Lk.t rfl) rfl) <|
      .cons (.rd 1) _ _ (op_get_sc 1 sc3 (Lk.t rfl) rfl mem_blk rfl) <|
      .cons (.no) _ _ (op_cmp (by simp) (Lk.t rfl) (Lk.t rfl) rfl) <|
      .cons (.no) _ _ (op_call (when_ok) ⟨(Lk.t rfl), (Lk.k rfl),  trivial⟩) <|
      .cons (.no) _ _ (op_field_own fd28_1 (Lk.t rfl) rfl) <|
      .cons (.rd 0) _ _ (op_get_sc 0 sc3 (Lk.t rfl) rfl mem_blk rfl) <|
      .cons (.no) _ _ (op_field_own fd28_1 (Lk.t rfl) rfl) <|
      .cons (.rd 1) _ _ (op_get_sc 1 sc3 (Lk.t rfl) rfl mem_blk rfl) <|
      .cons (.no) _ _ (op_add (Lk.t rfl) (Lk.t rfl) rfl) <|
      .cons (.no) _ _ (op_cmp (by simp) (Lk.t rfl) (Lk.k rfl) rfl) <|
      .cons (.no) _ _ (op_call (when_ok) ⟨(Lk.t rfl), (Lk.k rfl),  trivial⟩) <|
      .cons (.no) _ _ (op_buildSlice sl86 zr30 rfl rfl rfl rfl (.cons rfl (Lk.t rfl) co_isv rfl (puts_l rfl (Nat.le_of_ble_eq_true rfl)) (.cons rfl (Lk.t rfl) co_isv rfl (puts_l rfl (Nat.le_of_ble_eq_true rfl)) (.cons rfl (Lk.t rfl) co_isv rfl (puts_l rfl (Nat.le_of_ble_eq_true rfl)) (.cons rfl (Lk.t rfl) co_isv rfl (puts_l rfl (Nat.le_of_ble_eq_true rfl)) .nil))))) <|
      .cons (.no) _ _ (op_call (first_ok4) ⟨(Lk.t rfl),  trivial⟩) <|
      .cons (.no) _ _ (op_assign (Lk.t rfl)) <|
      .nil) (fun _ => mixed) rfl fun g2 => ⟨_, _, [0, 1, 2], rfl, (.cons 2 rfl <| .cons 3 rfl <| .cons 4 rfl <| .cons 6 rfl <| .nil), (.cons 0 rfl <| .cons 1 rfl <| .cons 2 rfl <| .nil), ?_⟩)
  refine JN_then ?_
  refine J_seq (J_reg [] (
      .cons (.no) _ _ (op_move (Lk.t rfl)) <|
      .cons (.no) _ _ (op_cmp (by simp) (Lk.t rfl) (Lk.k rfl) rfl) <|
      .nil) ff rfl fun g3 => ⟨_, _, [0, 1, 2], rfl, (.cons 2 rfl <| .cons 3 rfl <| .cons 4 rfl <| .cons 6 rfl <| .cons 27 rfl <| .nil), (.cons 0 rfl <| .cons 1 rfl <| .cons 2 rfl <| .nil), ?_⟩)
  refine JN_then ?_
  refine J_cond (cond_of (Lk.t rfl)) (fun h1 => ?_) (fun h1 => ?_)
  · have h1' := h1
    try simp only [cmpB, Bool.and_eq_true, Bool.or_eq_true, Bool.and_eq_false_iff, Bool.or_eq_false_iff, Bool.not_eq_true', Bool.not_eq_false', Bool.not_eq_true, Bool.not_eq_false, decide_eq_true_eq, decide_eq_false_iff_not, Int.not_lt, Int.not_le, beq_iff_eq, bne_iff_ne, beq_eq_false_iff_ne, bne_eq_false_iff_eq, ne_eq, Decidable.not_not] at h1
    refine J_seq (J_reg [] (
        .cons (.no) _ _ (op_build zr28 rfl pl28 .nil) <|
        .cons (.no) _ _ (op_move (Lk.t rfl)) <|
        .cons (.wr 2) _ _ (op_store_b 2 (Lk.t rfl) (Lk.t rfl) co_agg sz28 rfl rfl rfl) <|
        .cons (.no) _ _ (op_assign (Lk.t rfl)) <|
        .nil) ff rfl fun g4 => ⟨_, _, [2], rfl, (.cons 4 rfl <| .cons 5 rfl <| .nil), (.cons 2 rfl <| .nil), ?_⟩)
    refine JN_then ?_
    refine J_ret ?_
    refine JN_then_ret ?_
    refine JN_ret (.cons (.ag 0 (Lk.t rfl) ag28 rfl rfl rfl) <| .cons (.tmp (Lk.t rfl)) <| .nil) (sb_trans (sb_res (.cons (sb_agg (.cons sb_refl <| .cons sb_refl <| .cons (sb_nilN (mk := flp)) <| .nil)) <| .cons sb_refl <| .nil)) (sb_trans push_M (sb_newp ?_)))
    exact ret_M (by unfold besR orR; exact (if_neg h1).symm)
  · have h1' := h1
    try simp only [cmpB, Bool.and_eq_true, Bool.or_eq_true, Bool.and_eq_false_iff, Bool.or_eq_false_iff, Bool.not_eq_true', Bool.not_eq_false', Bool.not_eq_true, Bool.not_eq_false, decide_eq_true_eq, decide_eq_false_iff_not, Int.not_lt, Int.not_le, beq_iff_eq, bne_iff_ne, beq_eq_false_iff_ne, bne_eq_false_iff_eq, ne_eq, Decidable.not_not] at h1
    obtain ⟨hg, hg', e1, hs⟩ := besE_good h1
    subst e1
    obtain ⟨hs1, hs2, hs3, hs4⟩ := hg.1
    obtain ⟨hs1', hs2', hs3', hs4'⟩ := hg'.1
    refine J_skip ?_
    refine JN_then ?_
    refine J_to (To.freeze 0 (fun _ h => h) rfl frz_blk rfl) ?_
    refine J_to (To.freeze 1 (fun _ h => h) rfl frz_blk rfl) ?_
    refine J_seq (J_reg [] (
        .cons (.no) _ _ (op_field_own fd28_0 (Lk.t rfl) rfl) <|
        .cons (.no) _ _ (op_load_sc sc3 (Lk.sub (sb_ok 1 1 rfl rfl) (Lk.t rfl)) rfl) <|
        .cons (.no) _ _ (op_field_own fd28_1 (Lk.t rfl) rfl) <|
        .cons (.no) _ _ (op_load_sc sc3 (Lk.sub (sb_ok 1 1 rfl rfl) (Lk.t rfl)) rfl) <|
        .cons (.no) _ _ (op_field_own fd28_1 (Lk.t rfl) rfl) <|
        .cons (.no) _ _ (op_load_sc sc3 (Lk.sub (sb_ok 0 1 rfl rfl) (Lk.t rfl)) rfl) <|
        .cons (.no) _ _ (op_add (Lk.t rfl) (Lk.t rfl) (wrap_id (by omega) (by omega))) <|
        .cons (.no) _ _ (op_makeFunc (C := Pl r' (c + c')) (g := fun i j => flp (besF c xs c' ys i j)) (fun i j hC => bes1_ok hg hg' hC) ⟨(Lk.sub (sb_ok 1 3 rfl rfl) (Lk.t rfl)), (Lk.sub (sb_ok 0 3 rfl rfl) (Lk.t rfl)),  trivial⟩ bes1_ok_has) <|
        .cons (.no) _ _ (op_callN 2 rfl (fillN_ok hs) pull_mat ⟨(Lk.t rfl), (Lk.t rfl), (Lk.t rfl),  trivial⟩) <|
        .cons (.wr 2) _ _ (op_store_b 2 (Lk.t rfl) (Lk.t rfl) co_agg sz28 rfl rfl rfl) <|
        .cons (.no) _ _ (op_assign (Lk.k rfl)) <|
        .nil) ff rfl fun g5 => ⟨_, _, [2], rfl, (.cons 4 rfl <| .cons 5 rfl <| .nil), (.cons 2 rfl <| .nil), ?_⟩)
    refine JN_then ?_
    refine J_ret ?_
    refine JN_ret (.cons (.ag 0 (Lk.t rfl) ag28 rfl rfl rfl) <| .cons (.tmp (Lk.t rfl)) <| .nil) (sb_trans (sb_res (.cons sb_refl <| .cons sb_refl <| .nil)) (sb_trans push_M (sb_newp ?_)))
    exact ret_M (by unfold besR orR; exact (if_pos h1).symm)
theorem stkN_ok {r c r' c' : Int} {xs ys : List Nat} : CtN Try.prog 54 [MatP r c xs, MatP r' c' ys] (resM (stkR r c xs r' c' ys)) := by
  refine CtN.of Try.func54 rfl (by kernel_rfl) rfl fun c0 => ?_
  refine J_to To.size ?_
  refine J_to (To.emps 3) ?_
  refine J_seq (J_reg [] (
      .cons (.wr 0) _ _ (op_box 0 (Lk.t rfl) co_agg rfl) <|
      .cons (.wr 1) _ _ (op_box 1 (Lk.t rfl) co_agg rfl) <|
      .cons (.wr 2) _ _ (op_alloc 2 zr28 rfl rfl) <|
      .cons (.no) _ _ (op_assign (Lk.k rfl)) <|
      .nil) ff rfl fun g1 => ⟨_, _, [0, 1, 2], rfl, (.cons 2 rfl <| .cons 3 rfl <| .cons 4 rfl <| .nil), (.cons 0 rfl <| .cons 1 rfl <| .cons 2 rfl <| .nil), ?_⟩)
  refine JN_then ?_
  refine J_seq ?_
  refine J_seq (J_reg [[], [0], [], [0, 1, 2], [], [4], [], [6], [4, 5, 6, 7], [0, 1, 2, 3, 4, 5, 6, 7, 8], [], [10], [], [12], [10, 11, 12, 13], [10, 11, 12, 13, 14], [0, 1, 2, 3, 4, 5, 6, 7, 8, 9, 10, 11, 12, 13, 14, 15], [0, 1, 2, 3, 4, 5, 6, 7, 8, 9, 10, 11, 12, 13, 14, 15, 16], [0, 1, 2, 3, 4, 5, 6, 7, 8, 9, 10, 11, 12, 13, 14, 15, 16, 17], [0, 1, 2, 3, 4, 5, 6, 7, 8, 9, 10, 11, 12, 13, 14, 15, 16, 17, 18]] (
      .cons (.rd 0) _ _ (op_get_ag 0 ag28 (Lk.t rfl) rfl mem_blk rfl rfl) <|
      .cons (.no) _ _ (op_call (chk_ok) ⟨(Lk.t rfl),  trivial⟩) <|
      .cons (.rd 1) _ _ (op_get_ag 1 ag28 (Lk.t rfl) rfl mem_blk rfl rfl) <|
      .cons (.no) _ _ (op_call (chk_ok) ⟨(Lk.t rfl),  trivial⟩) <|
      .cons (.no) _ _ (op_field_own fd28_1 (Lk.t rfl) rfl) <|
      .cons (.rd 0) _ _ (op_get_sc 0 sc3 (Lk.t rfl) rfl mem_blk rfl) <|
      .cons (.no) _ _ (op_field_own fd28_1 (Lk.t rfl) rfl) <|
      .cons (.rd 1) _ _ (op_get_sc 1 sc3 (Lk.t rfl) rfl mem_blk rfl) <|
      .cons (.no) _ _ (op_cmp (by simp) (Lk.t rfl) (Lk.t rfl) rfl) <|
      .cons (.no) _ _ (op_call (when_ok) ⟨(Lk.t rfl), (Lk.k rfl),  trivial⟩) <|
      .cons (.no) _ _ (op_field_own fd28_0 (Lk.t rfl) rfl) <|
      .cons (.rd 0) _ _ (op_get_sc 0 sc3 (Lk.t rfl) rfl mem_blk rfl) <|
      .cons (.no) _ _ (op_field_own fd28_0 (Lk.t rfl) rfl) <|
      .cons (.rd 1) _ _ (op_get_sc 1 sc3 (Lk.t rfl) rfl mem_blk rfl) <|
      .cons (.no) _ _ (op_add (Lk.t rfl) (Lk.t rfl) rfl) <|
      .cons (.no) _ _ (op_cmp (by simp) (Lk.t rfl) (Lk.k rfl) rfl) <|
      .cons (.no) _ _ (op_call (when_ok) ⟨(Lk.t rfl), (Lk.k rfl),  trivial⟩) <|
      .cons (.no) _ _ (op_buildSlice sl86 zr30 rfl rfl rfl rfl (.cons rfl (Lk.t rfl) co_isv rfl (puts_l rfl (Nat.le_of_ble_eq_true rfl)) (.cons rfl (Lk.t rfl) co_isv rfl (puts_l rfl (Nat.le_of_ble_eq_true rfl)) (.cons rfl (Lk.t rfl) co_isv rfl (puts_l rfl (Nat.le_of_ble_eq_true rfl)) (.cons rfl (Lk.t rfl) co_isv rfl (puts_l rfl (Nat.le_of_ble_eq_true rfl)) .nil))))) <|
      .cons (.no) _ _ (op_call (first_ok4) ⟨(Lk.t rfl),  trivial⟩) <|
      .cons (.no) _ _ (op_assign (Lk.t rfl)) <|
      .nil) (fun _ => mixed) rfl fun g2 => ⟨_, _, [0, 1, 2], rfl, (.cons 2 rfl <| .cons 3 rfl <| .cons 4 rfl <| .cons 6 rfl <| .nil), (.cons 0 rfl <| .cons 1 rfl <| .cons 2 rfl <| .nil), ?_⟩)
  refine JN_then ?_
  refine J_seq (J_reg [] (
      .cons (.no) _ _ (op_move (Lk.t rfl)) <|
      .cons (.no) _ _ (op_cmp (by simp) (Lk.t rfl) (Lk.k rfl) rfl) <|
      .nil) ff rfl fun g3 => ⟨_, _, [0, 1, 2], rfl, (.cons 2 rfl <| .cons 3 rfl <| .cons 4 rfl <| .cons 6 rfl <| .cons 27 rfl <| .nil), (.cons 0 rfl <| .cons 1 rfl <| .cons 2 rfl <| .nil), ?_⟩)
  refine JN_then ?_
  refine J_cond (cond_of (Lk.t rfl)) (fun h1 => ?_) (fun h1 => ?_)
  · have h1' := h1
    try simp only [cmpB, Bool.and_eq_true, Bool.or_eq_true, Bool.and_eq_false_iff, Bool.or_eq_false_iff, Bool.not_eq_true', Bool.not_eq_false', Bool.not_eq_true, Bool.not_eq_false, decide_eq_true_eq, decide_eq_false_iff_not, Int.not_lt, Int.not_le, beq_iff_eq, bne_iff_ne, beq_eq_false_iff_ne, bne_eq_false_iff_eq, ne_eq, Decidable.not_not] at h1
    refine J_seq (J_reg [] (
        .cons (.no) _ _ (op_build zr28 rfl pl28 .nil) <|
        .cons (.no) _ _ (op_move (Lk.t rfl)) <|
        .cons (.wr 2) _ _ (op_store_b 2 (Lk.t rfl) (Lk.t rfl) co_agg sz28 rfl rfl rfl) <|
        .cons (.no) _ _ (op_assign (Lk.t rfl)) <|
        .nil) ff rfl fun g4 => ⟨_, _, [2], rfl, (.cons 4 rfl <| .cons 5 rfl <| .nil), (.cons 2 rfl <| .nil), ?_⟩)
    refine JN_then ?_
    refine J_ret ?_
    refine JN_then_ret ?_
    refine JN_ret (.cons (.ag 0 (Lk.t rfl) ag28 rfl rfl rfl) <| .cons (.tmp (Lk.t rfl)) <| .nil) (sb_trans (sb_res (.cons (sb_agg (.cons sb_refl <| .cons sb_refl <| .cons (sb_nilN (mk := flp)) <| .nil)) <| .cons sb_refl <| .nil)) (sb_trans push_M (sb_newp ?_)))
    exact ret_M (by unfold stkR orR; exact (if_neg h1).symm)
  · have h1' := h1
    try simp only [cmpB, Bool.and_eq_true, Bool.or_eq_true, Bool.and_eq_false_iff, Bool.or_eq_false_iff, Bool.not_eq_true', Bool.not_eq_false', Bool.not_eq_true, Bool.not_eq_false, decide_eq_true_eq, decide_eq_false_iff_not, Int.not_lt, Int.not_le, beq_iff_eq, bne_iff_ne, beq_eq_false_iff_ne, bne_eq_false_iff_eq, ne_eq, Decidable.not_not] at h1
    obtain ⟨hg, hg', e1, hs⟩ := stkE_good h1
    obtain ⟨hs1, hs2, hs3, hs4⟩ := hg.1
    obtain ⟨hs1', hs2', hs3', hs4'⟩ := hg'.1
    have hm := hg.1.mul
    have hl := hg.2
    have hm' := hg'.1.mul
    have hl' := hg'.2
    refine J_skip ?_
    refine JN_then ?_
    refine J_seq (J_reg [[], [0], [], [2], [0, 1, 2, 3], [], [5], [], [7], [], [9], [7, 8, 9, 10], [7, 8, 9, 10, 11], [0, 1, 2, 3, 4, 5, 6, 7, 8, 9, 10, 11, 12], [0, 1, 2, 3, 4, 5, 6, 7, 8, 9, 10, 11, 12, 13], [0, 1, 2, 3, 4, 5, 6, 7, 8, 9, 10, 11, 12, 13, 14]] (
        .cons (.no) _ _ (op_field_own fd28_0 (Lk.t rfl) rfl) <|
        .cons (.rd 0) _ _ (op_get_sc 0 sc3 (Lk.t rfl) rfl mem_blk rfl) <|
        .cons (.no) _ _ (op_field_own fd28_0 (Lk.t rfl) rfl) <|
        .cons (.rd 1) _ _ (op_get_sc 1 sc3 (Lk.t rfl) rfl mem_blk rfl) <|
        .cons (.no) _ _ (op_add (Lk.t rfl) (Lk.t rfl) (wrap_id (by omega) (by omega))) <|
        .cons (.no) _ _ (op_field_own fd28_1 (Lk.t rfl) rfl) <|
        .cons (.rd 0) _ _ (op_get_sc 0 sc3 (Lk.t rfl) rfl mem_blk rfl) <|
        .cons (.no) _ _ (op_field_own fd28_2 (Lk.t rfl) rfl) <|
        .cons (.rd 0) _ _ (op_get_sc 0 sc26 (Lk.t rfl) rfl mem_blk rfl) <|
        .cons (.no) _ _ (op_field_own fd28_2 (Lk.t rfl) rfl) <|
        .cons (.rd 1) _ _ (op_get_sc 1 sc26 (Lk.t rfl) rfl mem_blk rfl) <|
        .cons (.no) _ _ (op_buildSlice sl50 zr26 rfl rfl rfl rfl (.cons rfl (Lk.t rfl) co_slm rfl (puts_l rfl (Nat.le_of_ble_eq_true rfl)) (.cons rfl (Lk.t rfl) co_slm rfl (puts_l rfl (Nat.le_of_ble_eq_true rfl)) .nil))) <|
        .cons (.no) _ _ (op_callN 0 rfl (concatN_ok2 (by omega)) sb_refl ⟨(Lk.t rfl),  trivial⟩) <|
        .cons (.no) _ _ (op_build zr28 rfl pl28 (.cons rfl (Lk.t rfl) co_isv rfl (puts_l rfl (Nat.le_of_ble_eq_true rfl)) (.cons rfl (Lk.t rfl) co_isv rfl (puts_l rfl (Nat.le_of_ble_eq_true rfl)) (.cons rfl (Lk.t rfl) co_Nsl rfl (puts_l rfl (Nat.le_of_ble_eq_true rfl)) .nil)))) <|
        .cons (.wr 2) _ _ (op_store_b 2 (Lk.t rfl) (Lk.t rfl) co_agg sz28 rfl rfl rfl) <|
        .cons (.no) _ _ (op_assign (Lk.k rfl)) <|
        .nil) (fun _ => mixed) rfl fun g5 => ⟨_, _, [2], rfl, (.cons 4 rfl <| .cons 5 rfl <| .nil), (.cons 2 rfl <| .nil), ?_⟩)
    refine JN_then ?_
    refine J_ret ?_
    refine JN_ret (.cons (.ag 0 (Lk.t rfl) ag28 rfl rfl rfl) <| .cons (.tmp (Lk.t rfl)) <| .nil) (sb_trans (sb_res (.cons sb_refl <| .cons sb_refl <| .nil)) (sb_trans push_M (sb_newp ?_)))
    exact ret_M (by unfold stkR orR; exact (if_pos h1).symm)
theorem ordN_ok {r c : Int} {xs : List Nat} {ps : List Int} : CtN Try.prog 55 [MatP r c xs, ils .i64 ps] (resM (ordR r c xs ps)) := by
  refine CtN.of Try.func55 rfl (by kernel_rfl) rfl fun c0 => ?_
  refine J_to To.size ?_
  refine J_to (To.emps 3) ?_
  refine J_seq (J_reg [] (
      .cons (.wr 0) _ _ (op_box 0 (Lk.t rfl) co_agg rfl) <|
      .cons (.wr 1) _ _ (op_box 1 (Lk.t rfl) co_slm rfl) <|
      .cons (.wr 2) _ _ (op_alloc 2 zr28 rfl rfl) <|
      .cons (.no) _ _ (op_assign (Lk.k rfl)) <|
      .nil) ff rfl fun g1 => ⟨_, _, [0, 1, 2], rfl, (.cons 2 rfl <| .cons 3 rfl <| .cons 4 rfl <| .nil), (.cons 0 rfl <| .cons 1 rfl <| .cons 2 rfl <| .nil), ?_⟩)
  refine JN_then ?_
  refine J_seq ?_
  refine J_seq (J_reg [[], [0], [], [2], [], [4], [2, 3, 4, 5], [0, 1, 2, 3, 4, 5, 6], [0, 1, 2, 3, 4, 5, 6, 7], [0, 1, 2, 3, 4, 5, 6, 7, 8], [0, 1, 2, 3, 4, 5, 6, 7], [0, 1, 2, 3, 4, 5, 6, 7, 10], [0, 1, 2, 3, 4, 5, 6, 7, 8, 9, 10, 11], [0, 1, 2, 3, 4, 5, 6, 7, 8, 9, 10, 11, 12], [0, 1, 2, 3, 4, 5, 6, 7, 8, 9, 10, 11, 12, 13], [0, 1, 2, 3, 4, 5, 6, 7, 8, 9, 10, 11, 12, 13, 14], [0, 1, 2, 3, 4, 5, 6, 7, 8, 9, 10, 11, 12, 13, 14, 15], [0, 1, 2, 3, 4, 5, 6, 7, 8, 9, 10, 11, 12, 13, 14, 15, 16]] (
      .cons (.rd 0) _ _ (op_get_ag 0 ag28 (Lk.t rfl) rfl mem_blk rfl rfl) <|
      .cons (.no) _ _ (op_call (chk_ok) ⟨(Lk.t rfl),  trivial⟩) <|
      .cons (.no) _ _ (op_field_own fd28_0 (Lk.t rfl) rfl) <|
      .cons (.rd 0) _ _ (op_get_sc 0 sc3 (Lk.t rfl) rfl mem_blk rfl) <|
      .cons (.no) _ _ (op_field_own fd28_1 (Lk.t rfl) rfl) <|
      .cons (.rd 0) _ _ (op_get_sc 0 sc3 (Lk.t rfl) rfl mem_blk rfl) <|
      .cons (.no) _ _ (op_cmp (by simp) (Lk.t rfl) (Lk.t rfl) rfl) <|
      .cons (.no) _ _ (op_move (Lk.t rfl)) <|
      .cons (.rd 1) _ _ (op_guard rfl rfl (gd_b rfl) (fun hC => (op_get_sc 1 sc46 (Lk.t rfl) rfl mem_blk rfl))) <|
      .cons (.no) _ _ (op_guard rfl rfl (gd_b rfl) (fun hC => (op_len_m sl46 (Lk.w rfl hC)))) <|
      .cons (.no) _ _ (op_guard rfl rfl (gd_b rfl) (fun hC => (op_field_own fd28_0 (Lk.t rfl) rfl))) <|
      .cons (.rd 0) _ _ (op_guard rfl rfl (gd_b rfl) (fun hC => (op_get_sc 0 sc3 (Lk.w rfl hC) rfl mem_blk rfl))) <|
      .cons (.no) _ _ (op_guard rfl rfl (gd_b rfl) (fun hC => (op_cmp (by simp) (Lk.w rfl hC) (Lk.w rfl hC) rfl))) <|
      .cons (.no) _ _ (op_or (Lk.t rfl) (fun h2 => (Lk.w rfl h2))) <|
      .cons (.no) _ _ (op_call (when_ok) ⟨(Lk.t rfl), (Lk.k rfl),  trivial⟩) <|
      .cons (.no) _ _ (op_buildSlice sl86 zr30 rfl rfl rfl rfl (.cons rfl (Lk.t rfl) co_isv rfl (puts_l rfl (Nat.le_of_ble_eq_true rfl)) (.cons rfl (Lk.t rfl) co_isv rfl (puts_l rfl (Nat.le_of_ble_eq_true rfl)) .nil))) <|
      .cons (.no) _ _ (op_call (first_ok2) ⟨(Lk.t rfl),  trivial⟩) <|
      .cons (.no) _ _ (op_assign (Lk.t rfl)) <|
      .nil) (fun _ => mixed) rfl fun g2 => ⟨_, _, [0, 1, 2], rfl, (.cons 2 rfl <| .cons 3 rfl <| .cons 4 rfl <| .cons 6 rfl <| .nil), (.cons 0 rfl <| .cons 1 rfl <| .cons 2 rfl <| .nil), ?_⟩)
  refine JN_then ?_
  refine J_seq (J_reg [] (
      .cons (.no) _ _ (op_move (Lk.t rfl)) <|
      .cons (.no) _ _ (op_cmp (by simp) (Lk.t rfl) (Lk.k rfl) rfl) <|
      .nil) ff rfl fun g3 => ⟨_, _, [0, 1, 2], rfl, (.cons 2 rfl <| .cons 3 rfl <| .cons 4 rfl <| .cons 6 rfl <| .cons 28 rfl <| .nil), (.cons 0 rfl <| .cons 1 rfl <| .cons 2 rfl <| .nil), ?_⟩)
  refine JN_then ?_
  refine J_cond (cond_of (Lk.t rfl)) (fun h1 => ?_) (fun h1 => ?_)
  · have h1' := h1
    try simp only [cmpB, Bool.and_eq_true, Bool.or_eq_true, Bool.and_eq_false_iff, Bool.or_eq_false_iff, Bool.not_eq_true', Bool.not_eq_false', Bool.not_eq_true, Bool.not_eq_false, decide_eq_true_eq, decide_eq_false_iff_not, Int.not_lt, Int.not_le, beq_iff_eq, bne_iff_ne, beq_eq_false_iff_ne, bne_eq_false_iff_eq, ne_eq, Decidable.not_not] at h1
    refine J_seq (J_reg [] (
        .cons (.no) _ _ (op_build zr28 rfl pl28 .nil) <|
        .cons (.no) _ _ (op_move (Lk.t rfl)) <|
        .cons (.wr 2) _ _ (op_store_b 2 (Lk.t rfl) (Lk.t rfl) co_agg sz28 rfl rfl rfl) <|
        .cons (.no) _ _ (op_assign (Lk.t rfl)) <|
        .nil) ff rfl fun g4 => ⟨_, _, [2], rfl, (.cons 4 rfl <| .cons 5 rfl <| .nil), (.cons 2 rfl <| .nil), ?_⟩)
    refine JN_then ?_
    refine J_ret ?_
    refine JN_then_ret ?_
    refine JN_ret (.cons (.ag 0 (Lk.t rfl) ag28 rfl rfl rfl) <| .cons (.tmp (Lk.t rfl)) <| .nil) (sb_trans (sb_res (.cons (sb_agg (.cons sb_refl <| .cons sb_refl <| .cons (sb_nilN (mk := flp)) <| .nil)) <| .cons sb_refl <| .nil)) (sb_trans push_M (sb_newp ?_)))
    exact ret_M (by unfold ordR orR; exact (if_neg h1).symm)
  · have h1' := h1
    try simp only [cmpB, Bool.and_eq_true, Bool.or_eq_true, Bool.and_eq_false_iff, Bool.or_eq_false_iff, Bool.not_eq_true', Bool.not_eq_false', Bool.not_eq_true, Bool.not_eq_false, decide_eq_true_eq, decide_eq_false_iff_not, Int.not_lt, Int.not_le, beq_iff_eq, bne_iff_ne, beq_eq_false_iff_ne, bne_eq_false_iff_eq, ne_eq, Decidable.not_not] at h1
    obtain ⟨hg, e1, e2⟩ := ordE_good h1
    obtain ⟨hs1, hs2, hs3, hs4⟩ := hg.1
    refine J_skip ?_
    refine JN_then ?_
    refine J_to (To.emps 1) ?_
    refine J_seq (J_reg [] (
        .cons (.wr 3) _ _ (op_alloc 3 zr107 rfl rfl) <|
        .nil) ff rfl fun g5 => ⟨_, _, [0, 1, 2, 3], rfl, (.cons 2 rfl <| .cons 3 rfl <| .cons 4 rfl <| .cons 7 rfl <| .nil), (.cons 0 rfl <| .cons 1 rfl <| .cons 2 rfl <| .cons 3 rfl <| .nil), ?_⟩)
    refine JN_then ?_
    refine J_seq ?_
    refine J_seq (J_reg [] (
        .cons (.rd 1) _ _ (op_get_sc 1 sc46 (Lk.t rfl) rfl mem_blk rfl) <|
        .cons (.no) _ _ (op_len_m sl46 (Lk.t rfl)) <|
        .cons (.no) _ _ (op_move (Lk.k rfl)) <|
        .nil) ff rfl fun g6 => ⟨_, _, [0, 1, 2, 3], rfl, (.cons 2 rfl <| .cons 3 rfl <| .cons 4 rfl <| .cons 7 rfl <| .cons 31 rfl <| .cons 32 rfl <| .cons 33 rfl <| .nil), (.cons 0 rfl <| .cons 1 rfl <| .cons 2 rfl <| .cons 3 rfl <| .nil), ?_⟩)
    refine JN_then ?_
    refine J_block ?_
    refine J_loopc (α := Nat × List Int) (fun x => x.1 ≤ ps.length ∧ OkTo ps x.1 ∧ SeenI ps x.1 x.2) (fun x => ps.length - x.1) (fun x restR => (33, isv (.int .i64 (x.1 : Int))) :: restR) (fun x restS => blk (g5 7) (x.2.map (inp .i64)) 107 :: restS) (ρc := [(2, _), (3, _), (4, _), (7, _), (31, _), (32, _)]) (σc := [_, _, _]) (0, List.replicate 12 0) (by exact ⟨Nat.zero_le _, okTo_zero, seen_zero⟩) (To.pick (fun _ => .sub (t := 33) rfl (sp_eq (by rfl)) <| .cons 2 rfl <| .cons 3 rfl <| .cons 4 rfl <| .cons 7 rfl <| .cons 31 rfl <| .cons 32 rfl <| .nil) (fun _ => .sub 3 rfl ((fun _ _ h => h)) <| .cons 0 rfl <| .cons 1 rfl <| .cons 2 rfl <| .nil) (ks := [3, 0, 1, 2]) rfl) (fun x hI => ?_)
    obtain ⟨k, l⟩ := x
    try simp only at hI
    show J _ _ ((33, isv (.int .i64 (k : Int))) :: _) (blk (g5 7) (l.map (inp .i64)) 107 :: _) _ _
    refine J_seq (J_reg [] (
        .cons (.no) _ _ (op_cmp (by simp) (Lk.t rfl) (Lk.t rfl) rfl) <|
        .nil) ff rfl fun g7 => ⟨_, _, [0, 1, 2, 3], rfl, (.cons 2 rfl <| .cons 3 rfl <| .cons 4 rfl <| .cons 7 rfl <| .cons 31 rfl <| .cons 32 rfl <| .cons 33 rfl <| .cons 34 rfl <| .nil), (.cons 0 rfl <| .cons 1 rfl <| .cons 2 rfl <| .cons 3 rfl <| .nil), ?_⟩)
    refine JN_then ?_
    refine J_seq ?_
    refine J_cond (cond_of (Lk.t rfl)) (fun h2 => ?_) (fun h2 => ?_)
    · have h2' := h2
      try simp only [cmpB, Bool.and_eq_true, Bool.or_eq_true, Bool.and_eq_false_iff, Bool.or_eq_false_iff, Bool.not_eq_true', Bool.not_eq_false', Bool.not_eq_true, Bool.not_eq_false, decide_eq_true_eq, decide_eq_false_iff_not, Int.not_lt, Int.not_le, beq_iff_eq, bne_iff_ne, beq_eq_false_iff_ne, bne_eq_false_iff_eq, ne_eq, Decidable.not_not] at h2
      have hml0 := hI.2.2.1
      refine J_skip ?_
      refine JN_then ?_
      refine J_seq ?_
      refine J_block ?_
      refine J_seq (J_reg [] (
          .cons (.no) _ _ (op_index_m 0 sl46 (Lk.t rfl) (Lk.t rfl) (by omega) (by omega)) <|
          .cons (.no) _ _ (op_load_sc sc3 (Lk.t rfl) rfl) <|
          .cons (.no) _ _ (op_assign (Lk.t rfl)) <|
          .nil) ff rfl fun g8 => ⟨_, _, [0, 1, 2, 3], rfl, (.cons 2 rfl <| .cons 3 rfl <| .cons 4 rfl <| .cons 7 rfl <| .cons 9 rfl <| .cons 31 rfl <| .cons 32 rfl <| .cons 33 rfl <| .nil), (.cons 0 rfl <| .cons 1 rfl <| .cons 2 rfl <| .cons 3 rfl <| .nil), ?_⟩)
      refine JN_then ?_
      refine J_seq ?_
      refine J_seq (J_reg [] (
          .cons (.no) _ _ (op_move (Lk.t rfl)) <|
          .cons (.no) _ _ (op_cmp (by simp) (Lk.t rfl) (Lk.k rfl) rfl) <|
          .cons (.no) _ _ (op_move (Lk.t rfl)) <|
          .cons (.no) _ _ (op_guard rfl rfl (gd_b rfl) (fun hC => (op_move (Lk.t rfl)))) <|
          .cons (.rd 2) _ _ (op_guard rfl rfl (gd_b rfl) (fun hC => (op_get_sc 2 sc46 (Lk.t rfl) rfl mem_blk rfl))) <|
          .cons (.no) _ _ (op_guard rfl rfl (gd_b rfl) (fun hC => (op_len_m sl46 (Lk.w rfl hC)))) <|
          .cons (.no) _ _ (op_guard rfl rfl (gd_b rfl) (fun hC => (op_cmp (by simp) (Lk.w rfl hC) (Lk.w rfl hC) rfl))) <|
          .cons (.no) _ _ (op_or (Lk.t rfl) (fun h2 => (Lk.w rfl h2))) <|
          .cons (.no) _ _ (op_move (Lk.t rfl)) <|
          .cons (.no) _ _ (op_guard rfl rfl (gd_b rfl) (fun hC => (op_move (Lk.t rfl)))) <|
          .cons (.no) _ _ (op_guard rfl rfl (gd_b rfl) (fun hC => (op_index_arr1 ar107 (Lk.t rfl) (Lk.w rfl hC) (by rw [Bool.or_eq_false_iff] at hC; simp only [cmpB, decide_eq_false_iff_not] at hC; omega) (by rw [Bool.or_eq_false_iff] at hC; simp only [cmpB, decide_eq_false_iff_not] at hC; omega)))) <|
          .cons (.rd 0) _ _ (op_guard rfl rfl (gd_b rfl) (fun hC => (op_get_arr (mk := inp .i64) 0 0 sc3 (Lk.w rfl hC) rfl (by rw [Bool.or_eq_false_iff] at hC; simp only [cmpB, decide_eq_false_iff_not] at hC; omega)))) <|
          .cons (.no) _ _ (op_guard rfl rfl (gd_b rfl) (fun hC => (op_cmp (by simp) (Lk.w rfl hC) (Lk.k rfl) rfl))) <|
          .cons (.no) _ _ (op_or (Lk.t rfl) (fun h2 => (Lk.w rfl h2))) <|
          .nil) ff rfl fun g9 => ⟨_, _, [0, 1, 2, 3], rfl, (.cons 2 rfl <| .cons 3 rfl <| .cons 4 rfl <| .cons 7 rfl <| .cons 9 rfl <| .cons 31 rfl <| .cons 32 rfl <| .cons 33 rfl <| .cons 50 rfl <| .nil), (.cons 0 rfl <| .cons 1 rfl <| .cons 2 rfl <| .cons 3 rfl <| .nil), ?_⟩)
      refine JN_then ?_
      refine J_cond (cond_of (Lk.t rfl)) (fun h3 => ?_) (fun h3 => ?_)
      · have h3' := h3
        try simp only [cmpB, Bool.and_eq_true, Bool.or_eq_true, Bool.and_eq_false_iff, Bool.or_eq_false_iff, Bool.not_eq_true', Bool.not_eq_false', Bool.not_eq_true, Bool.not_eq_false, decide_eq_true_eq, decide_eq_false_iff_not, Int.not_lt, Int.not_le, beq_iff_eq, bne_iff_ne, beq_eq_false_iff_ne, bne_eq_false_iff_eq, ne_eq, Decidable.not_not] at h3
        refine J_seq (J_reg [] (
            .cons (.no) _ _ (op_build zr28 rfl pl28 .nil) <|
            .cons (.wr 3) _ _ (op_store_b 3 (Lk.t rfl) (Lk.t rfl) co_agg sz28 rfl rfl rfl) <|
            .cons (.no) _ _ (op_assign (Lk.k rfl)) <|
            .nil) ff rfl fun g10 => ⟨_, _, [3], rfl, (.cons 4 rfl <| .cons 5 rfl <| .nil), (.cons 3 rfl <| .nil), ?_⟩)
        refine JN_then ?_
        refine J_ret ?_
        refine JN_then_ret ?_
        refine JN_block_ret ?_
        refine JN_then_ret ?_
        refine JN_then_ret ?_
        refine JN_block_ret ?_
        refine JN_then_ret ?_
        refine JN_ret (.cons (.ag 0 (Lk.t rfl) ag28 rfl rfl rfl) <| .cons (.tmp (Lk.t rfl)) <| .nil) (sb_trans (sb_res (.cons (sb_agg (.cons sb_refl <| .cons sb_refl <| .cons (sb_nilN (mk := flp)) <| .nil)) <| .cons sb_refl <| .nil)) (sb_trans push_M (sb_newp ?_)))
        exact ret_M ((ordX_no (perm_no (ps := ps) (k := k) (by omega) (seen_old hI.2.2 (by omega) h3))).trans (ordR_ok h1))
      · have h3' := h3
        try simp only [cmpB, Bool.and_eq_true, Bool.or_eq_true, Bool.and_eq_false_iff, Bool.or_eq_false_iff, Bool.not_eq_true', Bool.not_eq_false', Bool.not_eq_true, Bool.not_eq_false, decide_eq_true_eq, decide_eq_false_iff_not, Int.not_lt, Int.not_le, beq_iff_eq, bne_iff_ne, beq_eq_false_iff_ne, bne_eq_false_iff_eq, ne_eq, Decidable.not_not] at h3
        obtain ⟨hv0, hv2⟩ := h3
        have hvv : 0 ≤ ps.getD k 0 ∧ ps.getD k 0 < (ps.length : Int) := by show 0 ≤ ps.getD (k : Int).toNat 0 ∧ ps.getD (k : Int).toNat 0 < _; omega
        have hml := hI.2.2.1
        have hmv := hI.2.2.2 (ps.getD k 0).toNat (by omega)
        refine J_skip ?_
        refine JN_then ?_
        refine (J_reg [] (
            .cons (.no) _ _ (op_move (Lk.t rfl)) <|
            .cons (.no) _ _ (op_index_arr1 ar107 (Lk.t rfl) (Lk.t rfl) (by show 0 ≤ ps.getD k 0; omega) (by show ps.getD k 0 < _; omega)) <|
            .cons (.rd 0) _ _ (op_get_arr (mk := inp .i64) 0 0 sc3 (Lk.t rfl) rfl (by show (ps.getD k 0).toNat < _; omega)) <|
            .cons (.no) _ _ (op_add (Lk.t rfl) (Lk.k rfl) (wrap_id (by show _ ≤ l.getD (ps.getD k 0).toNat 0 + 1; omega) (by show l.getD (ps.getD k 0).toNat 0 + 1 ≤ _; omega))) <|
            .cons (.no) _ _ (op_index_arr1 ar107 (Lk.t rfl) (Lk.t rfl) (by show 0 ≤ ps.getD k 0; omega) (by show ps.getD k 0 < _; omega)) <|
            .cons (.wr 0) _ _ (op_store_arr (mk := inp .i64) 0 (Lk.t rfl) (Lk.t rfl) co_isv sz3 rfl (by show (ps.getD k 0).toNat < _; omega)) <|
            .nil) ff rfl fun g11 => ⟨_, _, [0, 1, 2, 3], rfl, (.cons 2 rfl <| .cons 3 rfl <| .cons 4 rfl <| .cons 7 rfl <| .cons 31 rfl <| .cons 32 rfl <| .cons 33 rfl <| .nil), (.cons 0 rfl <| .cons 1 rfl <| .cons 2 rfl <| .cons 3 rfl <| .nil), ?_⟩)
        refine JN_block ?_
        refine JN_then ?_
        refine (J_reg [] (
            .cons (.no) _ _ (op_add (Lk.t rfl) (Lk.k rfl) (wrap_id (by omega) (by omega))) <|
            .cons (.no) _ _ (op_move (Lk.t rfl)) <|
            .nil) ff rfl fun g12 => ⟨_, _, [0, 1, 2, 3], rfl, (.cons 2 rfl <| .cons 3 rfl <| .cons 4 rfl <| .cons 7 rfl <| .cons 31 rfl <| .cons 32 rfl <| .cons 33 rfl <| .nil), (.cons 0 rfl <| .cons 1 rfl <| .cons 2 rfl <| .cons 3 rfl <| .nil), ?_⟩)
        exact JN_again (k + 1, l.set (ps.getD k 0).toNat (l.getD (ps.getD k 0).toNat 0 + 1)) (by exact ⟨show k + 1 ≤ _ by omega, okTo_step hI.2.1 (seen_new hI.2.2 hvv.1 hvv.2 (by omega) hv2), seen_step hI.2.2 hvv.1 (by omega)⟩) (by show ps.length - (_ + 1) < _; omega) (To.pick (fun _ => .sub (t := 33) rfl (sp_eq (by rfl)) <| .cons 2 rfl <| .cons 3 rfl <| .cons 4 rfl <| .cons 7 rfl <| .cons 31 rfl <| .cons 32 rfl <| .nil) (fun _ => .sub 0 rfl ((fun _ _ h => h)) <| .cons 1 rfl <| .cons 2 rfl <| .cons 3 rfl <| .nil) (ks := [0, 1, 2, 3]) rfl)
    · have h2' := h2
      try simp only [cmpB, Bool.and_eq_true, Bool.or_eq_true, Bool.and_eq_false_iff, Bool.or_eq_false_iff, Bool.not_eq_true', Bool.not_eq_false', Bool.not_eq_true, Bool.not_eq_false, decide_eq_true_eq, decide_eq_false_iff_not, Int.not_lt, Int.not_le, beq_iff_eq, bne_iff_ne, beq_eq_false_iff_ne, bne_eq_false_iff_eq, ne_eq, Decidable.not_not] at h2
      have hpe : permB ps = true := perm_yes (show k = ps.length by omega) hI.2.1
      have hpo : OkTo ps ps.length := (show k = ps.length by omega) ▸ hI.2.1
      refine J_exit ?_
      refine JN_then_exit ?_
      refine JN_then_exit ?_
      refine JN_exit_here ?_
      refine JN_then ?_
      refine J_to (To.freeze 1 (fun _ h => h) rfl frz_blk rfl) ?_
      refine J_to (To.freeze 2 (fun _ h => h) rfl frz_blk rfl) ?_
      refine J_seq (J_reg [] (
          .cons (.no) _ _ (op_field_own fd28_0 (Lk.t rfl) rfl) <|
          .cons (.no) _ _ (op_load_sc sc3 (Lk.sub (sb_ok 1 1 rfl rfl) (Lk.t rfl)) rfl) <|
          .cons (.no) _ _ (op_field_own fd28_1 (Lk.t rfl) rfl) <|
          .cons (.no) _ _ (op_load_sc sc3 (Lk.sub (sb_ok 1 1 rfl rfl) (Lk.t rfl)) rfl) <|
          .cons (.no) _ _ (op_makeFunc (C := Pl r c) (g := fun i j => flp (mat c xs (ps.getD i.toNat 0) (ps.getD j.toNat 0))) (fun i j hC => ord1_ok hg e1 e2 hpo hC) ⟨(Lk.sub (sb_ok 1 3 rfl rfl) (Lk.t rfl)), (Lk.sub (sb_ok 0 1 rfl rfl) (Lk.t rfl)),  trivial⟩ ord1_ok_has) <|
          .cons (.no) _ _ (op_callN 2 rfl (fillN_ok hg.1) pull_mat ⟨(Lk.t rfl), (Lk.t rfl), (Lk.t rfl),  trivial⟩) <|
          .cons (.wr 3) _ _ (op_store_b 3 (Lk.t rfl) (Lk.t rfl) co_agg sz28 rfl rfl rfl) <|
          .cons (.no) _ _ (op_assign (Lk.k rfl)) <|
          .nil) ff rfl fun g13 => ⟨_, _, [3], rfl, (.cons 4 rfl <| .cons 5 rfl <| .nil), (.cons 3 rfl <| .nil), ?_⟩)
      refine JN_then ?_
      refine J_ret ?_
      refine JN_ret (.cons (.ag 0 (Lk.t rfl) ag28 rfl rfl rfl) <| .cons (.tmp (Lk.t rfl)) <| .nil) (sb_trans (sb_res (.cons sb_refl <| .cons sb_refl <| .nil)) (sb_trans push_M (sb_newp ?_)))
      exact ret_M ((ordX_yes hpe).trans (ordR_ok h1))
theorem addN_ok {r c r' c' : Int} {xs ys : List Nat} : CtN Try.prog 56 [MatP r c xs, MatP r' c' ys] (resM (sumR fadd r c xs r' c' ys)) := by
  refine CtN.of Try.func56 rfl (by kernel_rfl) rfl fun c0 => ?_
  refine J_to To.size ?_
  refine J_to (To.emps 3) ?_
  refine J_seq (J_reg [] (
      .cons (.wr 0) _ _ (op_box 0 (Lk.t rfl) co_agg rfl) <|
      .cons (.wr 1) _ _ (op_box 1 (Lk.t rfl) co_agg rfl) <|
      .cons (.wr 2) _ _ (op_alloc 2 zr28 rfl rfl) <|
      .cons (.no) _ _ (op_assign (Lk.k rfl)) <|
      .nil) ff rfl fun g1 => ⟨_, _, [0, 1, 2], rfl, (.cons 2 rfl <| .cons 3 rfl <| .cons 4 rfl <| .nil), (.cons 0 rfl <| .cons 1 rfl <| .cons 2 rfl <| .nil), ?_⟩)
  refine JN_then ?_
  refine J_seq ?_
  refine J_seq (J_reg [] (
      .cons (.rd 0) _ _ (op_get_ag 0 ag28 (Lk.t rfl) rfl mem_blk rfl rfl) <|
      .cons (.rd 1) _ _ (op_get_ag 1 ag28 (Lk.t rfl) rfl mem_blk rfl rfl) <|
      .cons (.no) _ _ (op_call (alikeE_ok) ⟨(Lk.t rfl), (Lk.t rfl),  trivial⟩) <|
      .cons (.no) _ _ (op_assign (Lk.t rfl)) <|
      .nil) ff rfl fun g2 => ⟨_, _, [0, 1, 2], rfl, (.cons 2 rfl <| .cons 3 rfl <| .cons 4 rfl <| .cons 6 rfl <| .nil), (.cons 0 rfl <| .cons 1 rfl <| .cons 2 rfl <| .nil), ?_⟩)
  refine JN_then ?_
  refine J_seq (J_reg [] (
      .cons (.no) _ _ (op_move (Lk.t rfl)) <|
      .cons (.no) _ _ (op_cmp (by simp) (Lk.t rfl) (Lk.k rfl) rfl) <|
      .nil) ff rfl fun g3 => ⟨_, _, [0, 1, 2], rfl, (.cons 2 rfl <| .cons 3 rfl <| .cons 4 rfl <| .cons 6 rfl <| .cons 11 rfl <| .nil), (.cons 0 rfl <| .cons 1 rfl <| .cons 2 rfl <| .nil), ?_⟩)
  refine JN_then ?_
  refine J_cond (cond_of (Lk.t rfl)) (fun h1 => ?_) (fun h1 => ?_)
  · have h1' := h1
    try simp only [cmpB, Bool.and_eq_true, Bool.or_eq_true, Bool.and_eq_false_iff, Bool.or_eq_false_iff, Bool.not_eq_true', Bool.not_eq_false', Bool.not_eq_true, Bool.not_eq_false, decide_eq_true_eq, decide_eq_false_iff_not, Int.not_lt, Int.not_le, beq_iff_eq, bne_iff_ne, beq_eq_false_iff_ne, bne_eq_false_iff_eq, ne_eq, Decidable.not_not] at h1
    refine J_seq (J_reg [] (
        .cons (.no) _ _ (op_build zr28 rfl pl28 .nil) <|
        .cons (.no) _ _ (op_move (Lk.t rfl)) <|
        .cons (.wr 2) _ _ (op_store_b 2 (Lk.t rfl) (Lk.t rfl) co_agg sz28 rfl rfl rfl) <|
        .cons (.no) _ _ (op_assign (Lk.t rfl)) <|
        .nil) ff rfl fun g4 => ⟨_, _, [2], rfl, (.cons 4 rfl <| .cons 5 rfl <| .nil), (.cons 2 rfl <| .nil), ?_⟩)
    refine JN_then ?_
    refine J_ret ?_
    refine JN_then_ret ?_
    refine JN_ret (.cons (.ag 0 (Lk.t rfl) ag28 rfl rfl rfl) <| .cons (.tmp (Lk.t rfl)) <| .nil) (sb_trans (sb_res (.cons (sb_agg (.cons sb_refl <| .cons sb_refl <| .cons (sb_nilN (mk := flp)) <| .nil)) <| .cons sb_refl <| .nil)) (sb_trans push_M (sb_newp ?_)))
    exact ret_M (by unfold sumR orR; exact (if_neg h1).symm)
  · have h1' := h1
    try simp only [cmpB, Bool.and_eq_true, Bool.or_eq_true, Bool.and_eq_false_iff, Bool.or_eq_false_iff, Bool.not_eq_true', Bool.not_eq_false', Bool.not_eq_true, Bool.not_eq_false, decide_eq_true_eq, decide_eq_false_iff_not, Int.not_lt, Int.not_le, beq_iff_eq, bne_iff_ne, beq_eq_false_iff_ne, bne_eq_false_iff_eq, ne_eq, Decidable.not_not] at h1
    obtain ⟨hg, hg', e1, e2, _, _⟩ := alikeE_good h1
    refine J_skip ?_
    refine JN_then ?_
    refine J_to (To.freeze 0 (fun _ h => h) rfl frz_blk rfl) ?_
    refine J_to (To.freeze 1 (fun _ h => h) rfl frz_blk rfl) ?_
    refine J_seq (J_reg [] (
        .cons (.no) _ _ (op_field_own fd28_0 (Lk.t rfl) rfl) <|
        .cons (.no) _ _ (op_load_sc sc3 (Lk.sub (sb_ok 1 1 rfl rfl) (Lk.t rfl)) rfl) <|
        .cons (.no) _ _ (op_field_own fd28_1 (Lk.t rfl) rfl) <|
        .cons (.no) _ _ (op_load_sc sc3 (Lk.sub (sb_ok 1 1 rfl rfl) (Lk.t rfl)) rfl) <|
        .cons (.no) _ _ (op_makeFunc (C := Pl r c) (g := fun i j => flp (fadd (mat c xs i j) (mat c ys i j))) (fun i j hC => add1_ok hg hg' e1 e2 hC) ⟨(Lk.sub (sb_ok 1 3 rfl rfl) (Lk.t rfl)), (Lk.sub (sb_ok 0 3 rfl rfl) (Lk.t rfl)),  trivial⟩ add1_ok_has) <|
        .cons (.no) _ _ (op_callN 2 rfl (fillN_ok hg.1) pull_mat ⟨(Lk.t rfl), (Lk.t rfl), (Lk.t rfl),  trivial⟩) <|
        .cons (.no) _ _ (op_callT 2 rfl (told_ok) pull_M ⟨(Lk.sub push_mat (Lk.t rfl)),  trivial⟩) <|
        .cons (.no) _ _ (op_extract (Lk.t rfl) rfl) <|
        .cons (.no) _ _ (op_extract (Lk.t rfl) rfl) <|
        .cons (.wr 2) _ _ (op_store_b 2 (Lk.t rfl) (Lk.t rfl) co_agg sz28 rfl rfl rfl) <|
        .cons (.no) _ _ (op_assign (Lk.t rfl)) <|
        .nil) ff rfl fun g5 => ⟨_, _, [2], rfl, (.cons 4 rfl <| .cons 5 rfl <| .nil), (.cons 2 rfl <| .nil), ?_⟩)
    refine JN_then ?_
    refine J_ret ?_
    refine JN_ret (.cons (.ag 0 (Lk.t rfl) ag28 rfl rfl rfl) <| .cons (.tmp (Lk.t rfl)) <| .nil) (sb_trans (sb_res (.cons sb_refl <| .cons sb_refl <| .nil)) (sb_trans push_M (sb_newp ?_)))
    exact ret_M (by unfold sumR orR; exact (if_pos h1).symm)
theorem subN_ok {r c r' c' : Int} {xs ys : List Nat} : CtN Try.prog 57 [MatP r c xs, MatP r' c' ys] (resM (sumR fsub r c xs r' c' ys)) := by
  refine CtN.of Try.func57 rfl (by kernel_rfl) rfl fun c0 => ?_
  refine J_to To.size ?_
  refine J_to (To.emps 3) ?_
  refine J_seq (J_reg [] (
      .cons (.wr 0) _ _ (op_box 0 (Lk.t rfl) co_agg rfl) <|
      .cons (.wr 1) _ _ (op_box 1 (Lk.t rfl) co_agg rfl) <|
      .cons (.wr 2) _ _ (op_alloc 2 zr28 rfl rfl) <|
      .cons (.no) _ _ (op_assign (Lk.k rfl)) <|
      .nil) ff rfl fun g1 => ⟨_, _, [0, 1, 2], rfl, (.cons 2 rfl <| .cons 3 rfl <| .cons 4 rfl <| .nil), (.cons 0 rfl <| .cons 1 rfl <| .cons 2 rfl <| .nil), ?_⟩)
  refine JN_then ?_
  refine J_seq ?_
  refine J_seq (J_reg [] (
      .cons (.rd 0) _ _ (op_get_ag 0 ag28 (Lk.t rfl) rfl mem_blk rfl rfl) <|
      .cons (.rd 1) _ _ (op_get_ag 1 ag28 (Lk.t rfl) rfl mem_blk rfl rfl) <|
      .cons (.no) _ _ (op_call (alikeE_ok) ⟨(Lk.t rfl), (Lk.t rfl),  trivial⟩) <|
      .cons (.no) _ _ (op_assign (Lk.t rfl)) <|
      .nil) ff rfl fun g2 => ⟨_, _, [0, 1, 2], rfl, (.cons 2 rfl <| .cons 3 rfl <| .cons 4 rfl <| .cons 6 rfl <| .nil), (.cons 0 rfl <| .cons 1 rfl <| .cons 2 rfl <| .nil), ?_⟩)
  refine JN_then ?_
  refine J_seq (J_reg [] (
      .cons (.no) _ _ (op_move (Lk.t rfl)) <|
      .cons (.no) _ _ (op_cmp (by simp) (Lk.t rfl) (Lk.k rfl) rfl) <|
      .nil) ff rfl fun g3 => ⟨_, _, [0, 1, 2], rfl, (.cons 2 rfl <| .cons 3 rfl <| .cons 4 rfl <| .cons 6 rfl <| .cons 11 rfl <| .nil), (.cons 0 rfl <| .cons 1 rfl <| .cons 2 rfl <| .nil), ?_⟩)
  refine JN_then ?_
  refine J_cond (cond_of (Lk.t rfl)) (fun h1 => ?_) (fun h1 => ?_)
  · have h1' := h1
    try simp only [cmpB, Bool.and_eq_true, Bool.or_eq_true, Bool.and_eq_false_iff, Bool.or_eq_false_iff, Bool.not_eq_true', Bool.not_eq_false', Bool.not_eq_true, Bool.not_eq_false, decide_eq_true_eq, decide_eq_false_iff_not, Int.not_lt, Int.not_le, beq_iff_eq, bne_iff_ne, beq_eq_false_iff_ne, bne_eq_false_iff_eq, ne_eq, Decidable.not_not] at h1
    refine J_seq (J_reg [] (
        .cons (.no) _ _ (op_build zr28 rfl pl28 .nil) <|
        .cons (.no) _ _ (op_move (Lk.t rfl)) <|
        .cons (.wr 2) _ _ (op_store_b 2 (Lk.t rfl) (Lk.t rfl) co_agg sz28 rfl rfl rfl) <|
        .cons (.no) _ _ (op_assign (Lk.t rfl)) <|
        .nil) ff rfl fun g4 => ⟨_, _, [2], rfl, (.cons 4 rfl <| .cons 5 rfl <| .nil), (.cons 2 rfl <| .nil), ?_⟩)
    refine JN_then ?_
    refine J_ret ?_
    refine JN_then_ret ?_
    refine JN_ret (.cons (.ag 0 (Lk.t rfl) ag28 rfl rfl rfl) <| .cons (.tmp (Lk.t rfl)) <| .nil) (sb_trans (sb_res (.cons (sb_agg (.cons sb_refl <| .cons sb_refl <| .cons (sb_nilN (mk := flp)) <| .nil)) <| .cons sb_refl <| .nil)) (sb_trans push_M (sb_newp ?_)))
    exact ret_M (by unfold sumR orR; exact (if_neg h1).symm)
  · have h1' := h1
    try simp only [cmpB, Bool.and_eq_true, Bool.or_eq_true, Bool.and_eq_false_iff, Bool.or_eq_false_iff, Bool.not_eq_true', Bool.not_eq_false', Bool.not_eq_true, Bool.not_eq_false, decide_eq_true_eq, decide_eq_false_iff_not, Int.not_lt, Int.not_le, beq_iff_eq, bne_iff_ne, beq_eq_false_iff_ne, bne_eq_false_iff_eq, ne_eq, Decidable.not_not] at h1
    obtain ⟨hg, hg', e1, e2, _, _⟩ := alikeE_good h1
    refine J_skip ?_
    refine JN_then ?_
    refine J_to (To.freeze 0 (fun _ h => h) rfl frz_blk rfl) ?_
    refine J_to (To.freeze 1 (fun _ h => h) rfl frz_blk rfl) ?_
    refine J_seq (J_reg [] (
        .cons (.no) _ _ (op_field_own fd28_0 (Lk.t rfl) rfl) <|
        .cons (.no) _ _ (op_load_sc sc3 (Lk.sub (sb_ok 1 1 rfl rfl) (Lk.t rfl)) rfl) <|
        .cons (.no) _ _ (op_field_own fd28_1 (Lk.t rfl) rfl) <|
        .cons (.no) _ _ (op_load_sc sc3 (Lk.sub (sb_ok 1 1 rfl rfl) (Lk.t rfl)) rfl) <|
        .cons (.no) _ _ (op_makeFunc (C := Pl r c) (g := fun i j => flp (fsub (mat c xs i j) (mat c ys i j))) (fun i j hC => sub1_ok hg hg' e1 e2 hC) ⟨(Lk.sub (sb_ok 1 3 rfl rfl) (Lk.t rfl)), (Lk.sub (sb_ok 0 3 rfl rfl) (Lk.t rfl)),  trivial⟩ sub1_ok_has) <|
        .cons (.no) _ _ (op_callN 2 rfl (fillN_ok hg.1) pull_mat ⟨(Lk.t rfl), (Lk.t rfl), (Lk.t rfl),  trivial⟩) <|
        .cons (.no) _ _ (op_callT 2 rfl (told_ok) pull_M ⟨(Lk.sub push_mat (Lk.t rfl)),  trivial⟩) <|
        .cons (.no) _ _ (op_extract (Lk.t rfl) rfl) <|
        .cons (.no) _ _ (op_extract (Lk.t rfl) rfl) <|
        .cons (.wr 2) _ _ (op_store_b 2 (Lk.t rfl) (Lk.t rfl) co_agg sz28 rfl rfl rfl) <|
        .cons (.no) _ _ (op_assign (Lk.t rfl)) <|
        .nil) ff rfl fun g5 => ⟨_, _, [2], rfl, (.cons 4 rfl <| .cons 5 rfl <| .nil), (.cons 2 rfl <| .nil), ?_⟩)
    refine JN_then ?_
    refine J_ret ?_
    refine JN_ret (.cons (.ag 0 (Lk.t rfl) ag28 rfl rfl rfl) <| .cons (.tmp (Lk.t rfl)) <| .nil) (sb_trans (sb_res (.cons sb_refl <| .cons sb_refl <| .nil)) (sb_trans push_M (sb_newp ?_)))
    exact ret_M (by unfold sumR orR; exact (if_pos h1).symm)
theorem sclN_ok {r c : Int} {xs : List Nat} {s : Nat} : CtN Try.prog 58 [MatP r c xs, flp s] (resM (sclR r c xs s)) := by
  refine CtN.of Try.func58 rfl (by kernel_rfl) rfl fun c0 => ?_
  refine J_to To.size ?_
  refine J_to (To.emps 3) ?_
  refine J_seq (J_reg [] (
      .cons (.wr 0) _ _ (op_box 0 (Lk.t rfl) co_agg rfl) <|
      .cons (.wr 1) _ _ (op_box 1 (Lk.t rfl) co_flp rfl) <|
      .cons (.wr 2) _ _ (op_alloc 2 zr28 rfl rfl) <|
      .cons (.no) _ _ (op_assign (Lk.k rfl)) <|
      .nil) ff rfl fun g1 => ⟨_, _, [0, 1, 2], rfl, (.cons 2 rfl <| .cons 3 rfl <| .cons 4 rfl <| .nil), (.cons 0 rfl <| .cons 1 rfl <| .cons 2 rfl <| .nil), ?_⟩)
  refine JN_then ?_
  refine J_seq ?_
  refine J_seq (J_reg [[], [0], [], [], [2, 3], [2, 3, 4], [0, 1, 2, 3, 4, 5], [0, 1, 2, 3, 4, 5, 6], [0, 1, 2, 3, 4, 5, 6, 7], [0, 1, 2, 3, 4, 5, 6, 7, 8]] (
      .cons (.rd 0) _ _ (op_get_ag 0 ag28 (Lk.t rfl) rfl mem_blk rfl rfl) <|
      .cons (.no) _ _ (op_call (chk_ok) ⟨(Lk.t rfl),  trivial⟩) <|
      .cons (.rd 1) _ _ (op_get_sc 1 sc37 (Lk.t rfl) rfl mem_blk rfl) <|
      .cons (.rd 1) _ _ (op_get_sc 1 sc37 (Lk.t rfl) rfl mem_blk rfl) <|
      .cons (.no) _ _ (op_float (by simp) (Lk.t rfl) (Lk.t rfl) rfl) <|
      .cons (.no) _ _ (op_fcmp (by simp) (Lk.t rfl) (Lk.fk rfl (by decide +kernel)) rfl) <|
      .cons (.no) _ _ (op_call (when_ok) ⟨(Lk.t rfl), (Lk.k rfl),  trivial⟩) <|
      .cons (.no) _ _ (op_buildSlice sl86 zr30 rfl rfl rfl rfl (.cons rfl (Lk.t rfl) co_isv rfl (puts_l rfl (Nat.le_of_ble_eq_true rfl)) (.cons rfl (Lk.t rfl) co_isv rfl (puts_l rfl (Nat.le_of_ble_eq_true rfl)) .nil))) <|
      .cons (.no) _ _ (op_call (first_ok2) ⟨(Lk.t rfl),  trivial⟩) <|
      .cons (.no) _ _ (op_assign (Lk.t rfl)) <|
      .nil) (fun _ => mixed) rfl fun g2 => ⟨_, _, [0, 1, 2], rfl, (.cons 2 rfl <| .cons 3 rfl <| .cons 4 rfl <| .cons 6 rfl <| .nil), (.cons 0 rfl <| .cons 1 rfl <| .cons 2 rfl <| .nil), ?_⟩)
  refine JN_then ?_
  refine J_seq (J_reg [] (
      .cons (.no) _ _ (op_move (Lk.t rfl)) <|
      .cons (.no) _ _ (op_cmp (by simp) (Lk.t rfl) (Lk.k rfl) rfl) <|
      .nil) ff rfl fun g3 => ⟨_, _, [0, 1, 2], rfl, (.cons 2 rfl <| .cons 3 rfl <| .cons 4 rfl <| .cons 6 rfl <| .cons 17 rfl <| .nil), (.cons 0 rfl <| .cons 1 rfl <| .cons 2 rfl <| .nil), ?_⟩)
  refine JN_then ?_
  refine J_cond (cond_of (Lk.t rfl)) (fun h1 => ?_) (fun h1 => ?_)
  · have h1' := h1
    try simp only [cmpB, Bool.and_eq_true, Bool.or_eq_true, Bool.and_eq_false_iff, Bool.or_eq_false_iff, Bool.not_eq_true', Bool.not_eq_false', Bool.not_eq_true, Bool.not_eq_false, decide_eq_true_eq, decide_eq_false_iff_not, Int.not_lt, Int.not_le, beq_iff_eq, bne_iff_ne, beq_eq_false_iff_ne, bne_eq_false_iff_eq, ne_eq, Decidable.not_not] at h1
    refine J_seq (J_reg [] (
        .cons (.no) _ _ (op_build zr28 rfl pl28 .nil) <|
        .cons (.no) _ _ (op_move (Lk.t rfl)) <|
        .cons (.wr 2) _ _ (op_store_b 2 (Lk.t rfl) (Lk.t rfl) co_agg sz28 rfl rfl rfl) <|
        .cons (.no) _ _ (op_assign (Lk.t rfl)) <|
        .nil) ff rfl fun g4 => ⟨_, _, [2], rfl, (.cons 4 rfl <| .cons 5 rfl <| .nil), (.cons 2 rfl <| .nil), ?_⟩)
    refine JN_then ?_
    refine J_ret ?_
    refine JN_then_ret ?_
    refine JN_ret (.cons (.ag 0 (Lk.t rfl) ag28 rfl rfl rfl) <| .cons (.tmp (Lk.t rfl)) <| .nil) (sb_trans (sb_res (.cons (sb_agg (.cons sb_refl <| .cons sb_refl <| .cons (sb_nilN (mk := flp)) <| .nil)) <| .cons sb_refl <| .nil)) (sb_trans push_M (sb_newp ?_)))
    exact ret_M (by unfold sclR orR; exact (if_neg h1).symm)
  · have h1' := h1
    try simp only [cmpB, Bool.and_eq_true, Bool.or_eq_true, Bool.and_eq_false_iff, Bool.or_eq_false_iff, Bool.not_eq_true', Bool.not_eq_false', Bool.not_eq_true, Bool.not_eq_false, decide_eq_true_eq, decide_eq_false_iff_not, Int.not_lt, Int.not_le, beq_iff_eq, bne_iff_ne, beq_eq_false_iff_ne, bne_eq_false_iff_eq, ne_eq, Decidable.not_not] at h1
    have hg := chk_good (fst2.1 h1).1
    refine J_skip ?_
    refine JN_then ?_
    refine J_to (To.freeze 0 (fun _ h => h) rfl frz_blk rfl) ?_
    refine J_to (To.freeze 1 (fun _ h => h) rfl frz_blk rfl) ?_
    refine J_seq (J_reg [] (
        .cons (.no) _ _ (op_field_own fd28_0 (Lk.t rfl) rfl) <|
        .cons (.no) _ _ (op_load_sc sc3 (Lk.sub (sb_ok 1 1 rfl rfl) (Lk.t rfl)) rfl) <|
        .cons (.no) _ _ (op_field_own fd28_1 (Lk.t rfl) rfl) <|
        .cons (.no) _ _ (op_load_sc sc3 (Lk.sub (sb_ok 1 1 rfl rfl) (Lk.t rfl)) rfl) <|
        .cons (.no) _ _ (op_makeFunc (C := Pl r c) (g := fun i j => flp (fmul (mat c xs i j) s)) (fun i j hC => scl1_ok hg hC) ⟨(Lk.sub (sb_ok 1 3 rfl rfl) (Lk.t rfl)), (Lk.sub (sb_ok 0 1 rfl rfl) (Lk.t rfl)),  trivial⟩ scl1_ok_has) <|
        .cons (.no) _ _ (op_callN 2 rfl (fillN_ok hg.1) pull_mat ⟨(Lk.t rfl), (Lk.t rfl), (Lk.t rfl),  trivial⟩) <|
        .cons (.no) _ _ (op_callT 2 rfl (told_ok) pull_M ⟨(Lk.sub push_mat (Lk.t rfl)),  trivial⟩) <|
        .cons (.no) _ _ (op_extract (Lk.t rfl) rfl) <|
        .cons (.no) _ _ (op_extract (Lk.t rfl) rfl) <|
        .cons (.wr 2) _ _ (op_store_b 2 (Lk.t rfl) (Lk.t rfl) co_agg sz28 rfl rfl rfl) <|
        .cons (.no) _ _ (op_assign (Lk.t rfl)) <|
        .nil) ff rfl fun g5 => ⟨_, _, [2], rfl, (.cons 4 rfl <| .cons 5 rfl <| .nil), (.cons 2 rfl <| .nil), ?_⟩)
    refine JN_then ?_
    refine J_ret ?_
    refine JN_ret (.cons (.ag 0 (Lk.t rfl) ag28 rfl rfl rfl) <| .cons (.tmp (Lk.t rfl)) <| .nil) (sb_trans (sb_res (.cons sb_refl <| .cons sb_refl <| .nil)) (sb_trans push_M (sb_newp ?_)))
    exact ret_M (by unfold sclR orR; exact (if_pos h1).symm)
theorem mulN_ok {r c r' c' : Int} {xs ys : List Nat} : CtN Try.prog 7 [MatP r c xs, MatP r' c' ys] (resM (mulR r c xs r' c' ys)) := by
  refine CtN.of Try.func7 rfl (by kernel_rfl) rfl fun c0 => ?_
  refine J_to To.size ?_
  refine J_to (To.emps 3) ?_
  refine J_seq (J_reg [] (
      .cons (.wr 0) _ _ (op_box 0 (Lk.t rfl) co_agg rfl) <|
      .cons (.wr 1) _ _ (op_box 1 (Lk.t rfl) co_agg rfl) <|
      .cons (.wr 2) _ _ (op_alloc 2 zr28 rfl rfl) <|
      .cons (.no) _ _ (op_assign (Lk.k rfl)) <|
      .nil) ff rfl fun g1 => ⟨_, _, [0, 1, 2], rfl, (.cons 2 rfl <| .cons 3 rfl <| .cons 4 rfl <| .nil), (.cons 0 rfl <| .cons 1 rfl <| .cons 2 rfl <| .nil), ?_⟩)
  refine JN_then ?_
  refine J_seq ?_
  refine J_seq (J_reg [[], [0], [], [0, 1, 2], [], [4], [], [6], [4, 5, 6, 7], [0, 1, 2, 3, 4, 5, 6, 7, 8], [0, 1, 2, 3, 4, 5, 6, 7, 8, 9], [0, 1, 2, 3, 4, 5, 6, 7, 8, 9, 10], [0, 1, 2, 3, 4, 5, 6, 7, 8, 9, 10, 11]] (
      .cons (.rd 0) _ _ (op_get_ag 0 ag28 (Lk.t rfl) rfl mem_blk rfl rfl) <|
      .cons (.no) _ _ (op_call (chk_ok) ⟨(Lk.t rfl),  trivial⟩) <|
      .cons (.rd 1) _ _ (op_get_ag 1 ag28 (Lk.t rfl) rfl mem_blk rfl rfl) <|
      .cons (.no) _ _ (op_call (chk_ok) ⟨(Lk.t rfl),  trivial⟩) <|
      .cons (.no) _ _ (op_field_own fd28_1 (Lk.t rfl) rfl) <|
      .cons (.rd 0) _ _ (op_get_sc 0 sc3 (Lk.t rfl) rfl mem_blk rfl) <|
      .cons (.no) _ _ (op_field_own fd28_0 (Lk.t rfl) rfl) <|
      .cons (.rd 1) _ _ (op_get_sc 1 sc3 (Lk.t rfl) rfl mem_blk rfl) <|
      .cons (.no) _ _ (op_cmp (by simp) (Lk.t rfl) (Lk.t rfl) rfl) <|
      .cons (.no) _ _ (op_call (when_ok) ⟨(Lk.t rfl), (Lk.k rfl),  trivial⟩) <|
      .cons (.no) _ _ (op_buildSlice sl86 zr30 rfl rfl rfl rfl (.cons rfl (Lk.t rfl) co_isv rfl (puts_l rfl (Nat.le_of_ble_eq_true rfl)) (.cons rfl (Lk.t rfl) co_isv rfl (puts_l rfl (Nat.le_of_ble_eq_true rfl)) (.cons rfl (Lk.t rfl) co_isv rfl (puts_l rfl (Nat.le_of_ble_eq_true rfl)) .nil)))) <|
      .cons (.no) _ _ (op_call (first_ok3) ⟨(Lk.t rfl),  trivial⟩) <|
      .cons (.no) _ _ (op_assign (Lk.t rfl)) <|
      .nil) (fun _ => mixed) rfl fun g2 => ⟨_, _, [0, 1, 2], rfl, (.cons 2 rfl <| .cons 3 rfl <| .cons 4 rfl <| .cons 6 rfl <| .nil), (.cons 0 rfl <| .cons 1 rfl <| .cons 2 rfl <| .nil), ?_⟩)
  refine JN_then ?_
  refine J_seq (J_reg [] (
      .cons (.no) _ _ (op_move (Lk.t rfl)) <|
      .cons (.no) _ _ (op_cmp (by simp) (Lk.t rfl) (Lk.k rfl) rfl) <|
      .nil) ff rfl fun g3 => ⟨_, _, [0, 1, 2], rfl, (.cons 2 rfl <| .cons 3 rfl <| .cons 4 rfl <| .cons 6 rfl <| .cons 20 rfl <| .nil), (.cons 0 rfl <| .cons 1 rfl <| .cons 2 rfl <| .nil), ?_⟩)
  refine JN_then ?_
  refine J_cond (cond_of (Lk.t rfl)) (fun h1 => ?_) (fun h1 => ?_)
  · have h1' := h1
    try simp only [cmpB, Bool.and_eq_true, Bool.or_eq_true, Bool.and_eq_false_iff, Bool.or_eq_false_iff, Bool.not_eq_true', Bool.not_eq_false', Bool.not_eq_true, Bool.not_eq_false, decide_eq_true_eq, decide_eq_false_iff_not, Int.not_lt, Int.not_le, beq_iff_eq, bne_iff_ne, beq_eq_false_iff_ne, bne_eq_false_iff_eq, ne_eq, Decidable.not_not] at h1
    refine J_seq (J_reg [] (
        .cons (.no) _ _ (op_build zr28 rfl pl28 .nil) <|
        .cons (.no) _ _ (op_move (Lk.t rfl)) <|
        .cons (.wr 2) _ _ (op_store_b 2 (Lk.t rfl) (Lk.t rfl) co_agg sz28 rfl rfl rfl) <|
        .cons (.no) _ _ (op_assign (Lk.t rfl)) <|
        .nil) ff rfl fun g4 => ⟨_, _, [2], rfl, (.cons 4 rfl <| .cons 5 rfl <| .nil), (.cons 2 rfl <| .nil), ?_⟩)
    refine JN_then ?_
    refine J_ret ?_
    refine JN_then_ret ?_
    refine JN_ret (.cons (.ag 0 (Lk.t rfl) ag28 rfl rfl rfl) <| .cons (.tmp (Lk.t rfl)) <| .nil) (sb_trans (sb_res (.cons (sb_agg (.cons sb_refl <| .cons sb_refl <| .cons (sb_nilN (mk := flp)) <| .nil)) <| .cons sb_refl <| .nil)) (sb_trans push_M (sb_newp ?_)))
    exact ret_M (by unfold mulR orR; exact (if_neg h1).symm)
  · have h1' := h1
    try simp only [cmpB, Bool.and_eq_true, Bool.or_eq_true, Bool.and_eq_false_iff, Bool.or_eq_false_iff, Bool.not_eq_true', Bool.not_eq_false', Bool.not_eq_true, Bool.not_eq_false, decide_eq_true_eq, decide_eq_false_iff_not, Int.not_lt, Int.not_le, beq_iff_eq, bne_iff_ne, beq_eq_false_iff_ne, bne_eq_false_iff_eq, ne_eq, Decidable.not_not] at h1
    obtain ⟨hg, hg', e1, _, _⟩ := mulE_good h1
    refine J_skip ?_
    refine JN_then ?_
    refine J_seq (J_reg [] (
        .cons (.rd 0) _ _ (op_get_ag 0 ag28 (Lk.t rfl) rfl mem_blk rfl rfl) <|
        .cons (.rd 1) _ _ (op_get_ag 1 ag28 (Lk.t rfl) rfl mem_blk rfl rfl) <|
        .cons (.no) _ _ (op_callN 0 rfl (prodN_ok hg hg' e1) pull_mat ⟨(Lk.t rfl), (Lk.t rfl),  trivial⟩) <|
        .cons (.no) _ _ (op_callT 0 rfl (told_ok) pull_M ⟨(Lk.sub push_mat (Lk.t rfl)),  trivial⟩) <|
        .cons (.no) _ _ (op_extract (Lk.t rfl) rfl) <|
        .cons (.no) _ _ (op_extract (Lk.t rfl) rfl) <|
        .cons (.wr 2) _ _ (op_store_b 2 (Lk.t rfl) (Lk.t rfl) co_agg sz28 rfl rfl rfl) <|
        .cons (.no) _ _ (op_assign (Lk.t rfl)) <|
        .nil) ff rfl fun g5 => ⟨_, _, [2], rfl, (.cons 4 rfl <| .cons 5 rfl <| .nil), (.cons 2 rfl <| .nil), ?_⟩)
    refine JN_then ?_
    refine J_ret ?_
    refine JN_ret (.cons (.ag 0 (Lk.t rfl) ag28 rfl rfl rfl) <| .cons (.tmp (Lk.t rfl)) <| .nil) (sb_trans (sb_res (.cons sb_refl <| .cons sb_refl <| .nil)) (sb_trans push_M (sb_newp ?_)))
    exact ret_M (by unfold mulR orR; exact (if_pos h1).symm)
theorem sandN_ok {r c r' c' : Int} {xs ys : List Nat} : CtN Try.prog 21 [MatP r c xs, MatP r' c' ys] (resM (sandR r c xs r' c' ys)) := by
  refine CtN.of Try.func21 rfl (by kernel_rfl) rfl fun c0 => ?_
  refine J_to To.size ?_
  refine J_to (To.emps 3) ?_
  refine J_seq (J_reg [] (
      .cons (.wr 0) _ _ (op_box 0 (Lk.t rfl) co_agg rfl) <|
      .cons (.wr 1) _ _ (op_box 1 (Lk.t rfl) co_agg rfl) <|
      .cons (.wr 2) _ _ (op_alloc 2 zr28 rfl rfl) <|
      .cons (.no) _ _ (op_assign (Lk.k rfl)) <|
      .nil) ff rfl fun g1 => ⟨_, _, [0, 1, 2], rfl, (.cons 2 rfl <| .cons 3 rfl <| .cons 4 rfl <| .nil), (.cons 0 rfl <| .cons 1 rfl <| .cons 2 rfl <| .nil), ?_⟩)
  refine JN_then ?_
  refine J_seq ?_
  refine J_seq (J_reg [[], [0], [], [0, 1, 2], [], [4], [], [6], [4, 5, 6, 7], [0, 1, 2, 3, 4, 5, 6, 7, 8], [0, 1, 2, 3, 4, 5, 6, 7, 8, 9], [0, 1, 2, 3, 4, 5, 6, 7, 8, 9, 10], [0, 1, 2, 3, 4, 5, 6, 7, 8, 9], [0, 1, 2, 3, 4, 5, 6, 7, 8, 9, 12], [0, 1, 2, 3, 4, 5, 6, 7, 8, 9, 10, 11, 12, 13], [0, 1, 2, 3, 4, 5, 6, 7, 8, 9, 10, 11, 12, 13, 14], [0, 1, 2, 3, 4, 5, 6, 7, 8, 9, 10, 11, 12, 13, 14, 15], [0, 1, 2, 3, 4, 5, 6, 7, 8, 9, 10, 11, 12, 13, 14, 15, 16], [0, 1, 2, 3, 4, 5, 6, 7, 8, 9, 10, 11, 12, 13, 14, 15, 16, 17], [0, 1, 2, 3, 4, 5, 6, 7, 8, 9, 10, 11, 12, 13, 14, 15, 16, 17, 18]] (
      .cons (.rd 0) _ _ (op_get_ag 0 ag28 (Lk.t rfl) rfl mem_blk rfl rfl) <|
      .cons (.no) _ _ (op_call (chk_ok) ⟨(Lk.t rfl),  trivial⟩) <|
      .cons (.rd 1) _ _ (op_get_ag 1 ag28 (Lk.t rfl) rfl mem_blk rfl rfl) <|
      .cons (.no) _ _ (op_call (chk_ok) ⟨(Lk.t rfl),  trivial⟩) <|
      .cons (.no) _ _ (op_field_own fd28_0 (Lk.t rfl) rfl) <|
      .cons (.rd 1) _ _ (op_get_sc 1 sc3 (Lk.t rfl) rfl mem_blk rfl) <|
      .cons (.no) _ _ (op_field_own fd28_1 (Lk.t rfl) rfl) <|
      .cons (.rd 1) _ _ (op_get_sc 1 sc3 (Lk.t rfl) rfl mem_blk rfl) <|
      .cons (.no) _ _ (op_cmp (by simp) (Lk.t rfl) (Lk.t rfl) rfl) <|
      .cons (.no) _ _ (op_move (Lk.t rfl)) <|
      .cons (.no) _ _ (op_guard rfl rfl (gd_b rfl) (fun hC => (op_field_own fd28_1 (Lk.t rfl) rfl))) <|
      .cons (.rd 0) _ _ (op_guard rfl rfl (gd_b rfl) (fun hC => (op_get_sc 0 sc3 (Lk.w rfl hC) rfl mem_blk rfl))) <|
      .cons (.no) _ _ (op_guard rfl rfl (gd_b rfl) (fun hC => (op_field_own fd28_0 (Lk.t rfl) rfl))) <|
      .cons (.rd 1) _ _ (op_guard rfl rfl (gd_b rfl) (fun hC => (op_get_sc 1 sc3 (Lk.w rfl hC) rfl mem_blk rfl))) <|
      .cons (.no) _ _ (op_guard rfl rfl (gd_b rfl) (fun hC => (op_cmp (by simp) (Lk.w rfl hC) (Lk.w rfl hC) rfl))) <|
      .cons (.no) _ _ (op_or (Lk.t rfl) (fun h2 => (Lk.w rfl h2))) <|
      .cons (.no) _ _ (op_call (when_ok) ⟨(Lk.t rfl), (Lk.k rfl),  trivial⟩) <|
      .cons (.no) _ _ (op_buildSlice sl86 zr30 rfl rfl rfl rfl (.cons rfl (Lk.t rfl) co_isv rfl (puts_l rfl (Nat.le_of_ble_eq_true rfl)) (.cons rfl (Lk.t rfl) co_isv rfl (puts_l rfl (Nat.le_of_ble_eq_true rfl)) (.cons rfl (Lk.t rfl) co_isv rfl (puts_l rfl (Nat.le_of_ble_eq_true rfl)) .nil)))) <|
      .cons (.no) _ _ (op_call (first_ok3) ⟨(Lk.t rfl),  trivial⟩) <|
      .cons (.no) _ _ (op_assign (Lk.t rfl)) <|
      .nil) (fun _ => mixed) rfl fun g2 => ⟨_, _, [0, 1, 2], rfl, (.cons 2 rfl <| .cons 3 rfl <| .cons 4 rfl <| .cons 6 rfl <| .nil), (.cons 0 rfl <| .cons 1 rfl <| .cons 2 rfl <| .nil), ?_⟩)
  refine JN_then ?_
  refine J_seq (J_reg [] (
      .cons (.no) _ _ (op_move (Lk.t rfl)) <|
      .cons (.no) _ _ (op_cmp (by simp) (Lk.t rfl) (Lk.k rfl) rfl) <|
      .nil) ff rfl fun g3 => ⟨_, _, [0, 1, 2], rfl, (.cons 2 rfl <| .cons 3 rfl <| .cons 4 rfl <| .cons 6 rfl <| .cons 28 rfl <| .nil), (.cons 0 rfl <| .cons 1 rfl <| .cons 2 rfl <| .nil), ?_⟩)
  refine JN_then ?_
  refine J_cond (cond_of (Lk.t rfl)) (fun h1 => ?_) (fun h1 => ?_)
  · have h1' := h1
    try simp only [cmpB, Bool.and_eq_true, Bool.or_eq_true, Bool.and_eq_false_iff, Bool.or_eq_false_iff, Bool.not_eq_true', Bool.not_eq_false', Bool.not_eq_true, Bool.not_eq_false, decide_eq_true_eq, decide_eq_false_iff_not, Int.not_lt, Int.not_le, beq_iff_eq, bne_iff_ne, beq_eq_false_iff_ne, bne_eq_false_iff_eq, ne_eq, Decidable.not_not] at h1
    refine J_seq (J_reg [] (
        .cons (.no) _ _ (op_build zr28 rfl pl28 .nil) <|
        .cons (.no) _ _ (op_move (Lk.t rfl)) <|
        .cons (.wr 2) _ _ (op_store_b 2 (Lk.t rfl) (Lk.t rfl) co_agg sz28 rfl rfl rfl) <|
        .cons (.no) _ _ (op_assign (Lk.t rfl)) <|
        .nil) ff rfl fun g4 => ⟨_, _, [2], rfl, (.cons 4 rfl <| .cons 5 rfl <| .nil), (.cons 2 rfl <| .nil), ?_⟩)
    refine JN_then ?_
    refine J_ret ?_
    refine JN_then_ret ?_
    refine JN_ret (.cons (.ag 0 (Lk.t rfl) ag28 rfl rfl rfl) <| .cons (.tmp (Lk.t rfl)) <| .nil) (sb_trans (sb_res (.cons (sb_agg (.cons sb_refl <| .cons sb_refl <| .cons (sb_nilN (mk := flp)) <| .nil)) <| .cons sb_refl <| .nil)) (sb_trans push_M (sb_newp ?_)))
    exact ret_M (by unfold sandR orR; exact (if_neg h1).symm)
  · have h1' := h1
    try simp only [cmpB, Bool.and_eq_true, Bool.or_eq_true, Bool.and_eq_false_iff, Bool.or_eq_false_iff, Bool.not_eq_true', Bool.not_eq_false', Bool.not_eq_true, Bool.not_eq_false, decide_eq_true_eq, decide_eq_false_iff_not, Int.not_lt, Int.not_le, beq_iff_eq, bne_iff_ne, beq_eq_false_iff_ne, bne_eq_false_iff_eq, ne_eq, Decidable.not_not] at h1
    obtain ⟨hg, hg', e1, e2, _, _⟩ := sandE_good h1
    subst e2
    subst e1
    refine J_skip ?_
    refine JN_then ?_
    refine J_to (To.emps 1) ?_
    refine J_seq (J_reg [] (
        .cons (.rd 0) _ _ (op_get_ag 0 ag28 (Lk.t rfl) rfl mem_blk rfl rfl) <|
        .cons (.rd 1) _ _ (op_get_ag 1 ag28 (Lk.t rfl) rfl mem_blk rfl rfl) <|
        .cons (.no) _ _ (op_call (prod_ok hg hg' rfl) ⟨(Lk.t rfl), (Lk.t rfl),  trivial⟩) <|
        .cons (.wr 3) _ _ (op_alloc 3 zr28 rfl rfl) <|
        .cons (.wr 3) _ _ (op_store_new 3 rfl (Lk.t rfl) co_agg sz28 rfl rfl) <|
        .nil) ff rfl fun g5 => ⟨_, _, [0, 2, 3], rfl, (.cons 2 rfl <| .cons 4 rfl <| .cons 7 rfl <| .nil), (.cons 0 rfl <| .cons 2 rfl <| .cons 3 rfl <| .nil), ?_⟩)
    refine JN_then ?_
    refine J_to (To.freeze 2 (fun _ h => h) rfl frz_blk rfl) ?_
    refine J_to (To.freeze 0 (fun _ h => h) rfl frz_blk rfl) ?_
    refine J_seq (J_reg [] (
        .cons (.no) _ _ (op_field_own fd28_0 (Lk.t rfl) rfl) <|
        .cons (.no) _ _ (op_load_sc sc3 (Lk.sub (sb_ok 0 1 rfl rfl) (Lk.t rfl)) rfl) <|
        .cons (.no) _ _ (op_makeFunc (C := Lo r) (g := fun i j => flp (dotL (rowL r' (prodG r r' xs r' ys) i) (rowL r' xs j))) (fun i j hC => sand1_ok hg (good_prod hg hg') hC) ⟨(Lk.sub (sb_ok 1 3 rfl rfl) (Lk.t rfl)), (Lk.sub (sb_ok 0 3 rfl rfl) (Lk.t rfl)),  trivial⟩ sand1_ok_has) <|
        .cons (.no) _ _ (op_callN 2 rfl (mirN_ok hg.1.sq) pull_mat ⟨(Lk.t rfl), (Lk.t rfl),  trivial⟩) <|
        .cons (.no) _ _ (op_callT 2 rfl (told_ok) pull_M ⟨(Lk.sub push_mat (Lk.t rfl)),  trivial⟩) <|
        .cons (.no) _ _ (op_extract (Lk.t rfl) rfl) <|
        .cons (.no) _ _ (op_extract (Lk.t rfl) rfl) <|
        .cons (.wr 1) _ _ (op_store_b 1 (Lk.t rfl) (Lk.t rfl) co_agg sz28 rfl rfl rfl) <|
        .cons (.no) _ _ (op_assign (Lk.t rfl)) <|
        .nil) ff rfl fun g6 => ⟨_, _, [1], rfl, (.cons 4 rfl <| .cons 5 rfl <| .nil), (.cons 1 rfl <| .nil), ?_⟩)
    refine JN_then ?_
    refine J_ret ?_
    refine JN_ret (.cons (.ag 0 (Lk.t rfl) ag28 rfl rfl rfl) <| .cons (.tmp (Lk.t rfl)) <| .nil) (sb_trans (sb_res (.cons sb_refl <| .cons sb_refl <| .nil)) (sb_trans push_M (sb_newp ?_)))
    exact ret_M (by unfold sandR orR; exact (if_pos h1).symm)
theorem outN_ok {xs ys : List Nat} : CtN Try.prog 59 [fls xs, fls ys] (resM (outR xs ys)) := by
  refine CtN.of Try.func59 rfl (by kernel_rfl) rfl fun c0 => ?_
  refine J_to To.size ?_
  refine J_to (To.emps 3) ?_
  refine J_seq (J_reg [] (
      .cons (.wr 0) _ _ (op_box 0 (Lk.t rfl) co_slm rfl) <|
      .cons (.wr 1) _ _ (op_box 1 (Lk.t rfl) co_slm rfl) <|
      .cons (.wr 2) _ _ (op_alloc 2 zr28 rfl rfl) <|
      .cons (.no) _ _ (op_assign (Lk.k rfl)) <|
      .nil) ff rfl fun g1 => ⟨_, _, [0, 1, 2], rfl, (.cons 2 rfl <| .cons 3 rfl <| .cons 4 rfl <| .nil), (.cons 0 rfl <| .cons 1 rfl <| .cons 2 rfl <| .nil), ?_⟩)
  refine JN_then ?_
  refine J_seq ?_
  refine J_seq (J_reg [[], [0], [], [0, 1, 2], [0, 1, 2, 3], [0, 1, 2, 3, 4], [0, 1, 2, 3, 4, 5]] (
      .cons (.rd 0) _ _ (op_get_sc 0 sc26 (Lk.t rfl) rfl mem_blk rfl) <|
      .cons (.no) _ _ (op_call (list_ok) ⟨(Lk.t rfl),  trivial⟩) <|
      .cons (.rd 1) _ _ (op_get_sc 1 sc26 (Lk.t rfl) rfl mem_blk rfl) <|
      .cons (.no) _ _ (op_call (list_ok) ⟨(Lk.t rfl),  trivial⟩) <|
      .cons (.no) _ _ (op_buildSlice sl86 zr30 rfl rfl rfl rfl (.cons rfl (Lk.t rfl) co_isv rfl (puts_l rfl (Nat.le_of_ble_eq_true rfl)) (.cons rfl (Lk.t rfl) co_isv rfl (puts_l rfl (Nat.le_of_ble_eq_true rfl)) .nil))) <|
      .cons (.no) _ _ (op_call (first_ok2) ⟨(Lk.t rfl),  trivial⟩) <|
      .cons (.no) _ _ (op_assign (Lk.t rfl)) <|
      .nil) (fun _ => mixed) rfl fun g2 => ⟨_, _, [0, 1, 2], rfl, (.cons 2 rfl <| .cons 3 rfl <| .cons 4 rfl <| .cons 6 rfl <| .nil), (.cons 0 rfl <| .cons 1 rfl <| .cons 2 rfl <| .nil), ?_⟩)
  refine JN_then ?_
  refine J_seq (J_reg [] (
      .cons (.no) _ _ (op_move (Lk.t rfl)) <|
      .cons (.no) _ _ (op_cmp (by simp) (Lk.t rfl) (Lk.k rfl) rfl) <|
      .nil) ff rfl fun g3 => ⟨_, _, [0, 1, 2], rfl, (.cons 2 rfl <| .cons 3 rfl <| .cons 4 rfl <| .cons 6 rfl <| .cons 14 rfl <| .nil), (.cons 0 rfl <| .cons 1 rfl <| .cons 2 rfl <| .nil), ?_⟩)
  refine JN_then ?_
  refine J_cond (cond_of (Lk.t rfl)) (fun h1 => ?_) (fun h1 => ?_)
  · have h1' := h1
    try simp only [cmpB, Bool.and_eq_true, Bool.or_eq_true, Bool.and_eq_false_iff, Bool.or_eq_false_iff, Bool.not_eq_true', Bool.not_eq_false', Bool.not_eq_true, Bool.not_eq_false, decide_eq_true_eq, decide_eq_false_iff_not, Int.not_lt, Int.not_le, beq_iff_eq, bne_iff_ne, beq_eq_false_iff_ne, bne_eq_false_iff_eq, ne_eq, Decidable.not_not] at h1
    refine J_seq (J_reg [] (
        .cons (.no) _ _ (op_build zr28 rfl pl28 .nil) <|
        .cons (.no) _ _ (op_move (Lk.t rfl)) <|
        .cons (.wr 2) _ _ (op_store_b 2 (Lk.t rfl) (Lk.t rfl) co_agg sz28 rfl rfl rfl) <|
        .cons (.no) _ _ (op_assign (Lk.t rfl)) <|
        .nil) ff rfl fun g4 => ⟨_, _, [2], rfl, (.cons 4 rfl <| .cons 5 rfl <| .nil), (.cons 2 rfl <| .nil), ?_⟩)
    refine JN_then ?_
    refine J_ret ?_
    refine JN_then_ret ?_
    refine JN_ret (.cons (.ag 0 (Lk.t rfl) ag28 rfl rfl rfl) <| .cons (.tmp (Lk.t rfl)) <| .nil) (sb_trans (sb_res (.cons (sb_agg (.cons sb_refl <| .cons sb_refl <| .cons (sb_nilN (mk := flp)) <| .nil)) <| .cons sb_refl <| .nil)) (sb_trans push_M (sb_newp ?_)))
    exact ret_M (by unfold outR orR; exact (if_neg h1).symm)
  · have h1' := h1
    try simp only [cmpB, Bool.and_eq_true, Bool.or_eq_true, Bool.and_eq_false_iff, Bool.or_eq_false_iff, Bool.not_eq_true', Bool.not_eq_false', Bool.not_eq_true, Bool.not_eq_false, decide_eq_true_eq, decide_eq_false_iff_not, Int.not_lt, Int.not_le, beq_iff_eq, bne_iff_ne, beq_eq_false_iff_ne, bne_eq_false_iff_eq, ne_eq, Decidable.not_not] at h1
    have hs0 := outE_good h1
    refine J_skip ?_
    refine JN_then ?_
    refine J_to (To.freeze 0 (fun _ h => h) rfl frz_blk rfl) ?_
    refine J_to (To.freeze 1 (fun _ h => h) rfl frz_blk rfl) ?_
    refine J_seq (J_reg [] (
        .cons (.no) _ _ (op_load_sc sc26 (Lk.sub (sb_ok 1 1 rfl rfl) (Lk.t rfl)) rfl) <|
        .cons (.no) _ _ (op_len_m sl26 (Lk.t rfl)) <|
        .cons (.no) _ _ (op_load_sc sc26 (Lk.sub (sb_ok 0 1 rfl rfl) (Lk.t rfl)) rfl) <|
        .cons (.no) _ _ (op_len_m sl26 (Lk.t rfl)) <|
        .cons (.no) _ _ (op_makeFunc (C := Pl (xs.length : Int) (ys.length : Int)) (g := fun i j => flp (fmul (xs.getD i.toNat 0) (ys.getD j.toNat 0))) (fun i j hC => out1_ok hC) ⟨(Lk.sub (sb_ok 1 1 rfl rfl) (Lk.t rfl)), (Lk.sub (sb_ok 0 1 rfl rfl) (Lk.t rfl)),  trivial⟩ out1_ok_has) <|
        .cons (.no) _ _ (op_callN 2 rfl (fillN_ok hs0) pull_mat ⟨(Lk.t rfl), (Lk.t rfl), (Lk.t rfl),  trivial⟩) <|
        .cons (.no) _ _ (op_callT 2 rfl (told_ok) pull_M ⟨(Lk.sub push_mat (Lk.t rfl)),  trivial⟩) <|
        .cons (.no) _ _ (op_extract (Lk.t rfl) rfl) <|
        .cons (.no) _ _ (op_extract (Lk.t rfl) rfl) <|
        .cons (.wr 2) _ _ (op_store_b 2 (Lk.t rfl) (Lk.t rfl) co_agg sz28 rfl rfl rfl) <|
        .cons (.no) _ _ (op_assign (Lk.t rfl)) <|
        .nil) ff rfl fun g5 => ⟨_, _, [2], rfl, (.cons 4 rfl <| .cons 5 rfl <| .nil), (.cons 2 rfl <| .nil), ?_⟩)
    refine JN_then ?_
    refine J_ret ?_
    refine JN_ret (.cons (.ag 0 (Lk.t rfl) ag28 rfl rfl rfl) <| .cons (.tmp (Lk.t rfl)) <| .nil) (sb_trans (sb_res (.cons sb_refl <| .cons sb_refl <| .nil)) (sb_trans push_M (sb_newp ?_)))
    exact ret_M (by unfold outR orR; exact (if_pos h1).symm)
theorem mirrN_ok {r c : Int} {xs : List Nat} : CtN Try.prog 60 [MatP r c xs] (resM (mirrorR r c xs)) := by
  refine CtN.of Try.func60 rfl (by kernel_rfl) rfl fun c0 => ?_
  refine J_to To.size ?_
  refine J_to (To.emps 2) ?_
  refine J_seq (J_reg [] (
      .cons (.wr 0) _ _ (op_box 0 (Lk.t rfl) co_agg rfl) <|
      .cons (.wr 1) _ _ (op_alloc 1 zr28 rfl rfl) <|
      .cons (.no) _ _ (op_assign (Lk.k rfl)) <|
      .nil) ff rfl fun g1 => ⟨_, _, [0, 1], rfl, (.cons 1 rfl <| .cons 2 rfl <| .nil), (.cons 0 rfl <| .cons 1 rfl <| .nil), ?_⟩)
  refine JN_then ?_
  refine J_seq ?_
  refine J_seq (J_reg [] (
      .cons (.rd 0) _ _ (op_get_ag 0 ag28 (Lk.t rfl) rfl mem_blk rfl rfl) <|
      .cons (.no) _ _ (op_call (sq_ok) ⟨(Lk.t rfl),  trivial⟩) <|
      .cons (.no) _ _ (op_assign (Lk.t rfl)) <|
      .nil) ff rfl fun g2 => ⟨_, _, [0, 1], rfl, (.cons 1 rfl <| .cons 2 rfl <| .cons 4 rfl <| .nil), (.cons 0 rfl <| .cons 1 rfl <| .nil), ?_⟩)
  refine JN_then ?_
  refine J_seq (J_reg [] (
      .cons (.no) _ _ (op_move (Lk.t rfl)) <|
      .cons (.no) _ _ (op_cmp (by simp) (Lk.t rfl) (Lk.k rfl) rfl) <|
      .nil) ff rfl fun g3 => ⟨_, _, [0, 1], rfl, (.cons 1 rfl <| .cons 2 rfl <| .cons 4 rfl <| .cons 8 rfl <| .nil), (.cons 0 rfl <| .cons 1 rfl <| .nil), ?_⟩)
  refine JN_then ?_
  refine J_cond (cond_of (Lk.t rfl)) (fun h1 => ?_) (fun h1 => ?_)
  · have h1' := h1
    try simp only [cmpB, Bool.and_eq_true, Bool.or_eq_true, Bool.and_eq_false_iff, Bool.or_eq_false_iff, Bool.not_eq_true', Bool.not_eq_false', Bool.not_eq_true, Bool.not_eq_false, decide_eq_true_eq, decide_eq_false_iff_not, Int.not_lt, Int.not_le, beq_iff_eq, bne_iff_ne, beq_eq_false_iff_ne, bne_eq_false_iff_eq, ne_eq, Decidable.not_not] at h1
    refine J_seq (J_reg [] (
        .cons (.no) _ _ (op_build zr28 rfl pl28 .nil) <|
        .cons (.no) _ _ (op_move (Lk.t rfl)) <|
        .cons (.wr 1) _ _ (op_store_b 1 (Lk.t rfl) (Lk.t rfl) co_agg sz28 rfl rfl rfl) <|
        .cons (.no) _ _ (op_assign (Lk.t rfl)) <|
        .nil) ff rfl fun g4 => ⟨_, _, [1], rfl, (.cons 2 rfl <| .cons 3 rfl <| .nil), (.cons 1 rfl <| .nil), ?_⟩)
    refine JN_then ?_
    refine J_ret ?_
    refine JN_then_ret ?_
    refine JN_ret (.cons (.ag 0 (Lk.t rfl) ag28 rfl rfl rfl) <| .cons (.tmp (Lk.t rfl)) <| .nil) (sb_trans (sb_res (.cons (sb_agg (.cons sb_refl <| .cons sb_refl <| .cons (sb_nilN (mk := flp)) <| .nil)) <| .cons sb_refl <| .nil)) (sb_trans push_M (sb_newp ?_)))
    exact ret_M (by unfold mirrorR orR; exact (if_neg h1).symm)
  · have h1' := h1
    try simp only [cmpB, Bool.and_eq_true, Bool.or_eq_true, Bool.and_eq_false_iff, Bool.or_eq_false_iff, Bool.not_eq_true', Bool.not_eq_false', Bool.not_eq_true, Bool.not_eq_false, decide_eq_true_eq, decide_eq_false_iff_not, Int.not_lt, Int.not_le, beq_iff_eq, bne_iff_ne, beq_eq_false_iff_ne, bne_eq_false_iff_eq, ne_eq, Decidable.not_not] at h1
    obtain ⟨hg, e1, _⟩ := sqE_good h1
    subst e1
    refine J_skip ?_
    refine JN_then ?_
    refine J_to (To.freeze 0 (fun _ h => h) rfl frz_blk rfl) ?_
    refine J_seq (J_reg [] (
        .cons (.no) _ _ (op_field_own fd28_0 (Lk.t rfl) rfl) <|
        .cons (.no) _ _ (op_load_sc sc3 (Lk.sub (sb_ok 0 1 rfl rfl) (Lk.t rfl)) rfl) <|
        .cons (.no) _ _ (op_makeFunc (C := Lo c) (g := fun i j => flp (mat c xs i j)) (fun i j hC => mirr1_ok hg hC) ⟨(Lk.sub (sb_ok 0 3 rfl rfl) (Lk.t rfl)),  trivial⟩ mirr1_ok_has) <|
        .cons (.no) _ _ (op_callN 1 rfl (mirN_ok hg.1) pull_mat ⟨(Lk.t rfl), (Lk.t rfl),  trivial⟩) <|
        .cons (.wr 1) _ _ (op_store_b 1 (Lk.t rfl) (Lk.t rfl) co_agg sz28 rfl rfl rfl) <|
        .cons (.no) _ _ (op_assign (Lk.k rfl)) <|
        .nil) ff rfl fun g5 => ⟨_, _, [1], rfl, (.cons 2 rfl <| .cons 3 rfl <| .nil), (.cons 1 rfl <| .nil), ?_⟩)
    refine JN_then ?_
    refine J_ret ?_
    refine JN_ret (.cons (.ag 0 (Lk.t rfl) ag28 rfl rfl rfl) <| .cons (.tmp (Lk.t rfl)) <| .nil) (sb_trans (sb_res (.cons sb_refl <| .cons sb_refl <| .nil)) (sb_trans push_M (sb_newp ?_)))
    exact ret_M (by unfold mirrorR orR; exact (if_pos h1).symm)
theorem meanN_ok {r c : Int} {xs : List Nat} : CtN Try.prog 20 [MatP r c xs] (resM (meanR r c xs)) := by
  refine CtN.of Try.func20 rfl (by kernel_rfl) rfl fun c0 => ?_
  refine J_to To.size ?_
  refine J_to (To.emps 2) ?_
  refine J_seq (J_reg [] (
      .cons (.wr 0) _ _ (op_box 0 (Lk.t rfl) co_agg rfl) <|
      .cons (.wr 1) _ _ (op_alloc 1 zr28 rfl rfl) <|
      .cons (.no) _ _ (op_assign (Lk.k rfl)) <|
      .nil) ff rfl fun g1 => ⟨_, _, [0, 1], rfl, (.cons 1 rfl <| .cons 2 rfl <| .nil), (.cons 0 rfl <| .cons 1 rfl <| .nil), ?_⟩)
  refine JN_then ?_
  refine J_seq ?_
  refine J_seq (J_reg [] (
      .cons (.rd 0) _ _ (op_get_ag 0 ag28 (Lk.t rfl) rfl mem_blk rfl rfl) <|
      .cons (.no) _ _ (op_call (sq_ok) ⟨(Lk.t rfl),  trivial⟩) <|
      .cons (.no) _ _ (op_assign (Lk.t rfl)) <|
      .nil) ff rfl fun g2 => ⟨_, _, [0, 1], rfl, (.cons 1 rfl <| .cons 2 rfl <| .cons 4 rfl <| .nil), (.cons 0 rfl <| .cons 1 rfl <| .nil), ?_⟩)
  refine JN_then ?_
  refine J_seq (J_reg [] (
      .cons (.no) _ _ (op_move (Lk.t rfl)) <|
      .cons (.no) _ _ (op_cmp (by simp) (Lk.t rfl) (Lk.k rfl) rfl) <|
      .nil) ff rfl fun g3 => ⟨_, _, [0, 1], rfl, (.cons 1 rfl <| .cons 2 rfl <| .cons 4 rfl <| .cons 8 rfl <| .nil), (.cons 0 rfl <| .cons 1 rfl <| .nil), ?_⟩)
  refine JN_then ?_
  refine J_cond (cond_of (Lk.t rfl)) (fun h1 => ?_) (fun h1 => ?_)
  · have h1' := h1
    try simp only [cmpB, Bool.and_eq_true, Bool.or_eq_true, Bool.and_eq_false_iff, Bool.or_eq_false_iff, Bool.not_eq_true', Bool.not_eq_false', Bool.not_eq_true, Bool.not_eq_false, decide_eq_true_eq, decide_eq_false_iff_not, Int.not_lt, Int.not_le, beq_iff_eq, bne_iff_ne, beq_eq_false_iff_ne, bne_eq_false_iff_eq, ne_eq, Decidable.not_not] at h1
    refine J_seq (J_reg [] (
        .cons (.no) _ _ (op_build zr28 rfl pl28 .nil) <|
        .cons (.no) _ _ (op_move (Lk.t rfl)) <|
        .cons (.wr 1) _ _ (op_store_b 1 (Lk.t rfl) (Lk.t rfl) co_agg sz28 rfl rfl rfl) <|
        .cons (.no) _ _ (op_assign (Lk.t rfl)) <|
        .nil) ff rfl fun g4 => ⟨_, _, [1], rfl, (.cons 2 rfl <| .cons 3 rfl <| .nil), (.cons 1 rfl <| .nil), ?_⟩)
    refine JN_then ?_
    refine J_ret ?_
    refine JN_then_ret ?_
    refine JN_ret (.cons (.ag 0 (Lk.t rfl) ag28 rfl rfl rfl) <| .cons (.tmp (Lk.t rfl)) <| .nil) (sb_trans (sb_res (.cons (sb_agg (.cons sb_refl <| .cons sb_refl <| .cons (sb_nilN (mk := flp)) <| .nil)) <| .cons sb_refl <| .nil)) (sb_trans push_M (sb_newp ?_)))
    exact ret_M (by unfold meanR orR; exact (if_neg h1).symm)
  · have h1' := h1
    try simp only [cmpB, Bool.and_eq_true, Bool.or_eq_true, Bool.and_eq_false_iff, Bool.or_eq_false_iff, Bool.not_eq_true', Bool.not_eq_false', Bool.not_eq_true, Bool.not_eq_false, decide_eq_true_eq, decide_eq_false_iff_not, Int.not_lt, Int.not_le, beq_iff_eq, bne_iff_ne, beq_eq_false_iff_ne, bne_eq_false_iff_eq, ne_eq, Decidable.not_not] at h1
    obtain ⟨hg, e1, _⟩ := sqE_good h1
    subst e1
    refine J_skip ?_
    refine JN_then ?_
    refine J_to (To.freeze 0 (fun _ h => h) rfl frz_blk rfl) ?_
    refine J_seq (J_reg [] (
        .cons (.no) _ _ (op_field_own fd28_0 (Lk.t rfl) rfl) <|
        .cons (.no) _ _ (op_load_sc sc3 (Lk.sub (sb_ok 0 1 rfl rfl) (Lk.t rfl)) rfl) <|
        .cons (.no) _ _ (op_makeFunc (C := Lo c) (g := fun i j => flp (meanF c c xs i j)) (fun i j hC => mean1_ok hg hC) ⟨(Lk.sub (sb_ok 0 3 rfl rfl) (Lk.t rfl)),  trivial⟩ mean1_ok_has) <|
        .cons (.no) _ _ (op_callN 1 rfl (mirN_ok hg.1) pull_mat ⟨(Lk.t rfl), (Lk.t rfl),  trivial⟩) <|
        .cons (.no) _ _ (op_callT 1 rfl (told_ok) pull_M ⟨(Lk.sub push_mat (Lk.t rfl)),  trivial⟩) <|
        .cons (.no) _ _ (op_extract (Lk.t rfl) rfl) <|
        .cons (.no) _ _ (op_extract (Lk.t rfl) rfl) <|
        .cons (.wr 1) _ _ (op_store_b 1 (Lk.t rfl) (Lk.t rfl) co_agg sz28 rfl rfl rfl) <|
        .cons (.no) _ _ (op_assign (Lk.t rfl)) <|
        .nil) ff rfl fun g5 => ⟨_, _, [1], rfl, (.cons 2 rfl <| .cons 3 rfl <| .nil), (.cons 1 rfl <| .nil), ?_⟩)
    refine JN_then ?_
    refine J_ret ?_
    refine JN_ret (.cons (.ag 0 (Lk.t rfl) ag28 rfl rfl rfl) <| .cons (.tmp (Lk.t rfl)) <| .nil) (sb_trans (sb_res (.cons sb_refl <| .cons sb_refl <| .nil)) (sb_trans push_M (sb_newp ?_)))
    exact ret_M (by unfold meanR orR; exact (if_pos h1).symm)
end Go.Proofs.Ytmakephdanbmaaa
