/- Printed by a program of ours (walk.py): walks of sums, multiples, outer products, and of MatrixSums. -/
import Derived.Test.YtdnemaecalghbaaTyp
import Derived.Test.YtdnemaecalghbaaProg
import Derived.KernelRfl
import Derived.Test.YtdnemaecalghbaaTypes
import Derived.Test.YtdnemaecalghbaaWOwn
import Derived.Test.YtdnemaecalghbaaSum
set_option linter.unusedVariables false
set_option linter.unusedSimpArgs false
set_option maxRecDepth 20000
set_option maxHeartbeats 1000000
namespace Go.Proofs.Ytdnemaecalghbaa
open Go Go.Bn
attribute [local irreducible] OpOK
theorem radd_ok {r c r' c' : Int} {xs ys : List Nat} {s : Bool} (e1 : chk r c xs = 0) (e2 : chk r' c' ys = 0) : Ct Try.prog 53 [MatP r c xs, MatP r' c' ys, isv (.bool s)] (resM (sumR (sf s) r c xs r' c' ys)) := by
  refine Ct.of Try.func53 rfl (by kernel_rfl) rfl fun c0 => ?_
  have hg := chk_good e1
  have hg' := chk_good e2
  refine J_to (To.emps 3) ?_
  refine J_seq (J_reg [] (
      .cons (.wr 0) _ _ (op_box 0 (Lk.t rfl) co_agg rfl) <|
      .cons (.wr 1) _ _ (op_box 1 (Lk.t rfl) co_agg rfl) <|
      .cons (.wr 2) _ _ (op_alloc 2 zr28 rfl rfl) <|
      .cons (.no) _ _ (op_assign (Lk.k rfl)) <|
      .nil) ff rfl fun g1 => ⟨_, _, [0, 1, 2], rfl, (.cons 2 rfl <| .cons 3 rfl <| .cons 4 rfl <| .cons 6 rfl <| .nil), (.cons 0 rfl <| .cons 1 rfl <| .cons 2 rfl <| .nil), ?_⟩)
  refine JN_then ?_
  refine J_seq ?_
  refine J_seq (J_reg [] (
      .cons (.no) _ _ (op_field_own fd28_0 (Lk.t rfl) rfl) <|
      .cons (.rd 0) _ _ (op_get_sc 0 sc3 (Lk.t rfl) rfl mem_blk rfl) <|
      .cons (.no) _ _ (op_field_own fd28_0 (Lk.t rfl) rfl) <|
      .cons (.rd 1) _ _ (op_get_sc 1 sc3 (Lk.t rfl) rfl mem_blk rfl) <|
      .cons (.no) _ _ (op_cmp (by simp) (Lk.t rfl) (Lk.t rfl) rfl) <|
      .cons (.no) _ _ (op_move (Lk.t rfl)) <|
      .cons (.no) _ _ (op_guard rfl rfl (gd_b rfl) (fun hC => (op_field_own fd28_1 (Lk.t rfl) rfl))) <|
      .cons (.rd 0) _ _ (op_guard rfl rfl (gd_b rfl) (fun hC => (op_get_sc 0 sc3 (Lk.w rfl hC) rfl mem_blk rfl))) <|
      .cons (.no) _ _ (op_guard rfl rfl (gd_b rfl) (fun hC => (op_field_own fd28_1 (Lk.t rfl) rfl))) <|
      .cons (.rd 1) _ _ (op_guard rfl rfl (gd_b rfl) (fun hC => (op_get_sc 1 sc3 (Lk.w rfl hC) rfl mem_blk rfl))) <|
      .cons (.no) _ _ (op_guard rfl rfl (gd_b rfl) (fun hC => (op_cmp (by simp) (Lk.w rfl hC) (Lk.w rfl hC) rfl))) <|
      .cons (.no) _ _ (op_or (Lk.t rfl) (fun h2 => (Lk.w rfl h2))) <|
      .nil) ff rfl fun g2 => ⟨_, _, [0, 1, 2], rfl, (.cons 2 rfl <| .cons 3 rfl <| .cons 4 rfl <| .cons 6 rfl <| .cons 21 rfl <| .nil), (.cons 0 rfl <| .cons 1 rfl <| .cons 2 rfl <| .nil), ?_⟩)
  refine JN_then ?_
  refine J_cond (cond_of (Lk.t rfl)) (fun h1 => ?_) (fun h1 => ?_)
  · have h1' := h1
    try simp only [cmpB, Bool.and_eq_true, Bool.or_eq_true, Bool.and_eq_false_iff, Bool.or_eq_false_iff, Bool.not_eq_true', Bool.not_eq_false', Bool.not_eq_true, Bool.not_eq_false, decide_eq_true_eq, decide_eq_false_iff_not, Int.not_lt, Int.not_le, beq_iff_eq, bne_iff_ne, beq_eq_false_iff_ne, bne_eq_false_iff_eq, ne_eq, Decidable.not_not] at h1
    refine J_seq (J_reg [] (
        .cons (.no) _ _ (op_build zr28 rfl pl28 .nil) <|
        .cons (.wr 2) _ _ (op_store_b 2 (Lk.t rfl) (Lk.t rfl) co_agg sz28 rfl rfl rfl) <|
        .cons (.no) _ _ (op_assign (Lk.k rfl)) <|
        .nil) ff rfl fun g3 => ⟨_, _, [2], rfl, (.cons 6 rfl <| .cons 7 rfl <| .nil), (.cons 2 rfl <| .nil), ?_⟩)
    refine JN_then ?_
    refine J_ret ?_
    refine JN_then_ret ?_
    refine JN_ret (.cons (.ag 0 (Lk.t rfl) ag28 rfl rfl rfl) <| .cons (.tmp (Lk.t rfl)) <| .nil) (sb_trans (sb_res (.cons (sb_agg (.cons sb_refl <| .cons sb_refl <| .cons (sb_nil (mk := flp)) <| .nil)) <| .cons sb_refl <| .nil)) ?_)
    exact ret_M (rsum_no e1 e2 h1)
  · have h1' := h1
    try simp only [cmpB, Bool.and_eq_true, Bool.or_eq_true, Bool.and_eq_false_iff, Bool.or_eq_false_iff, Bool.not_eq_true', Bool.not_eq_false', Bool.not_eq_true, Bool.not_eq_false, decide_eq_true_eq, decide_eq_false_iff_not, Int.not_lt, Int.not_le, beq_iff_eq, bne_iff_ne, beq_eq_false_iff_ne, bne_eq_false_iff_eq, ne_eq, Decidable.not_not] at h1
    obtain ⟨q1, q2⟩ := h1
    subst q1
    subst q2
    have hs0 := hg.1
    have hx := hg.2
    have hy := hg'.2
    have hn := siz_nat hs0
    have hG := @length_sum (sf s) r c xs ys
    refine J_skip ?_
    refine JN_then ?_
    refine J_to (To.emps 2) ?_
    refine J_seq (J_reg [] (
        .cons (.no) _ _ (op_field_own fd28_0 (Lk.t rfl) rfl) <|
        .cons (.rd 0) _ _ (op_get_sc 0 sc3 (Lk.t rfl) rfl mem_blk rfl) <|
        .cons (.no) _ _ (op_field_own fd28_1 (Lk.t rfl) rfl) <|
        .cons (.rd 0) _ _ (op_get_sc 0 sc3 (Lk.t rfl) rfl mem_blk rfl) <|
        .cons (.wr 3) _ _ (op_callF 3 (rawF_ok hs0) ⟨(Lk.t rfl), (Lk.t rfl),  trivial⟩ rfl) <|
        .cons (.wr 4) _ _ (op_alloc 4 zr28 rfl rfl) <|
        .cons (.wr 4) _ _ (op_store_new_ve 4 rfl rfl rfl (fun f => co_agg) (fun f g h => by rw [h 27 (show 27 ∈ [27] from by decide)]) (fun _ => sz28) rfl (fun _ => rfl) rfl) <|
        .nil) ff rfl fun g4 => ⟨_, _, [0, 1, 2, 3, 4], rfl, (.cons 2 rfl <| .cons 3 rfl <| .cons 4 rfl <| .cons 6 rfl <| .cons 8 rfl <| .nil), (.cons 0 rfl <| .cons 1 rfl <| .cons 2 rfl <| .cons 3 rfl <| .cons 4 rfl <| .nil), ?_⟩)
    refine JN_then ?_
    refine J_seq ?_
    refine J_seq (J_reg [] (
        .cons (.no) _ _ (op_assign (Lk.k rfl)) <|
        .nil) ff rfl fun g5 => ⟨_, _, [0, 1, 2, 3, 4], rfl, (.cons 2 rfl <| .cons 3 rfl <| .cons 4 rfl <| .cons 6 rfl <| .cons 8 rfl <| .cons 9 rfl <| .nil), (.cons 0 rfl <| .cons 1 rfl <| .cons 2 rfl <| .cons 3 rfl <| .cons 4 rfl <| .nil), ?_⟩)
    refine JN_then ?_
    refine J_block ?_
    refine J_loopc (α := Nat × List Nat) (fun x => x.1 ≤ (sumG (sf s) r c xs ys).length ∧ PreI (sumG (sf s) r c xs ys) x.1 x.2) (fun x => (sumG (sf s) r c xs ys).length - x.1) (fun x restR => (9, isv (.int .i64 (x.1 : Int))) :: restR) (fun x restS => som (agN 2 (g4 27)) flp x.2 56 :: restS) (ρc := [(2, _), (3, _), (4, _), (6, _), (8, _)]) (σc := [_, _, _, _]) (0, grid r c fun _ _ => 0) (by exact ⟨Nat.zero_le _, pre_zero (by rw [length_grid, hG])⟩) (To.pick (fun _ => .sub (t := 9) rfl (sp_eq (by rfl)) <| .cons 2 rfl <| .cons 3 rfl <| .cons 4 rfl <| .cons 6 rfl <| .cons 8 rfl <| .nil) (fun _ => .sub 3 rfl ((fun _ _ h => h)) <| .cons 0 rfl <| .cons 1 rfl <| .cons 2 rfl <| .cons 4 rfl <| .nil) (ks := [3, 0, 1, 2, 4]) rfl) (fun x hI => ?_)
    obtain ⟨k, l⟩ := x
    try simp only at hI
    show J _ _ ((9, isv (.int .i64 (k : Int))) :: _) (som (agN 2 (g4 27)) flp l 56 :: _) _ _
    have hml := hI.2.1
    refine J_seq ?_
    refine J_seq (J_reg [] (
        .cons (.no) _ _ (op_move (Lk.t rfl)) <|
        .cons (.no) _ _ (op_field_own fd28_2 (Lk.t rfl) rfl) <|
        .cons (.rd 4) _ _ (op_get_sc 4 sc26 (Lk.t rfl) rfl mem_blk rfl) <|
        .cons (.rd 0) _ _ (op_len_som 0 sl26 (Lk.t rfl) rfl) <|
        .cons (.no) _ _ (op_cmp (by simp) (Lk.t rfl) (Lk.t rfl) rfl) <|
        .nil) ff rfl fun g6 => ⟨_, _, [0, 1, 2, 3, 4], rfl, (.cons 2 rfl <| .cons 3 rfl <| .cons 4 rfl <| .cons 6 rfl <| .cons 8 rfl <| .cons 9 rfl <| .cons 32 rfl <| .nil), (.cons 0 rfl <| .cons 1 rfl <| .cons 2 rfl <| .cons 3 rfl <| .cons 4 rfl <| .nil), ?_⟩)
    refine JN_then ?_
    refine J_cond (cond_of (Lk.t rfl)) (fun h2 => ?_) (fun h2 => ?_)
    · have h2' := h2
      try simp only [cmpB, Bool.and_eq_true, Bool.or_eq_true, Bool.and_eq_false_iff, Bool.or_eq_false_iff, Bool.not_eq_true', Bool.not_eq_false', Bool.not_eq_true, Bool.not_eq_false, decide_eq_true_eq, decide_eq_false_iff_not, Int.not_lt, Int.not_le, beq_iff_eq, bne_iff_ne, beq_eq_false_iff_ne, bne_eq_false_iff_eq, ne_eq, Decidable.not_not] at h2
      refine J_skip ?_
      refine JN_then ?_
      refine J_seq ?_
      refine J_block ?_
      refine J_seq (J_reg [] (
          .cons (.no) _ _ (op_move (Lk.t rfl)) <|
          .nil) ff rfl fun g7 => ⟨_, _, [0, 1, 2, 3, 4], rfl, (.cons 2 rfl <| .cons 3 rfl <| .cons 4 rfl <| .cons 6 rfl <| .cons 8 rfl <| .cons 9 rfl <| .cons 35 rfl <| .nil), (.cons 0 rfl <| .cons 1 rfl <| .cons 2 rfl <| .cons 3 rfl <| .cons 4 rfl <| .nil), ?_⟩)
      refine JN_then ?_
      refine J_cond (cond_of (Lk.t rfl)) (fun h3 => ?_) (fun h3 => ?_)
      · have h3' := h3
        try simp only [cmpB, Bool.and_eq_true, Bool.or_eq_true, Bool.and_eq_false_iff, Bool.or_eq_false_iff, Bool.not_eq_true', Bool.not_eq_false', Bool.not_eq_true, Bool.not_eq_false, decide_eq_true_eq, decide_eq_false_iff_not, Int.not_lt, Int.not_le, beq_iff_eq, bne_iff_ne, beq_eq_false_iff_ne, bne_eq_false_iff_eq, ne_eq, Decidable.not_not] at h3
        refine (J_reg [[], [0], [], [], [3], [], [3, 4, 5], [3, 4, 5, 6], [], [8], [], [8, 9, 10], [8, 9, 10, 11], [3, 4, 5, 6, 7, 8, 9, 10, 11, 12], [0, 1, 2, 3, 4, 5, 6, 7, 8, 9, 10, 11, 12, 13], [0, 1, 2, 3, 4, 5, 6, 7, 8, 9, 10, 11, 12, 13, 14]] (
            .cons (.no) _ _ (op_field_own fd28_2 (Lk.t rfl) rfl) <|
            .cons (.rd 4) _ _ (op_get_sc 4 sc26 (Lk.t rfl) rfl mem_blk rfl) <|
            .cons (.no) _ _ (op_move (Lk.t rfl)) <|
            .cons (.no) _ _ (op_field_own fd28_2 (Lk.t rfl) rfl) <|
            .cons (.rd 1) _ _ (op_get_sc 1 sc26 (Lk.t rfl) rfl mem_blk rfl) <|
            .cons (.no) _ _ (op_move (Lk.t rfl)) <|
            .cons (.no) _ _ (op_index_m 0 sl26 (Lk.t rfl) (Lk.t rfl) (by omega) (by omega)) <|
            .cons (.no) _ _ (op_load_sc sc56 (Lk.t rfl) rfl) <|
            .cons (.no) _ _ (op_field_own fd28_2 (Lk.t rfl) rfl) <|
            .cons (.rd 2) _ _ (op_get_sc 2 sc26 (Lk.t rfl) rfl mem_blk rfl) <|
            .cons (.no) _ _ (op_move (Lk.t rfl)) <|
            .cons (.no) _ _ (op_index_m 0 sl26 (Lk.t rfl) (Lk.t rfl) (by omega) (by omega)) <|
            .cons (.no) _ _ (op_load_sc sc56 (Lk.t rfl) rfl) <|
            .cons (.no) _ _ (op_float (by simp) (Lk.t rfl) (Lk.t rfl) rfl) <|
            .cons (.rd 0) _ _ (op_index_som 0 sl26 (Lk.t rfl) (Lk.t rfl) rfl (by omega) (by omega)) <|
            .cons (.wr 0) _ _ (op_store_som 0 (Lk.t rfl) (Lk.t rfl) co_flp sz56 rfl (by omega)) <|
            .nil) (fun _ => mixed) rfl fun g8 => ⟨_, _, [0, 1, 2, 3, 4], rfl, (.cons 2 rfl <| .cons 3 rfl <| .cons 4 rfl <| .cons 6 rfl <| .cons 8 rfl <| .cons 9 rfl <| .nil), (.cons 0 rfl <| .cons 1 rfl <| .cons 2 rfl <| .cons 3 rfl <| .cons 4 rfl <| .nil), ?_⟩)
        refine JN_block ?_
        refine JN_then ?_
        refine (J_reg [] (
            .cons (.no) _ _ (op_move (Lk.t rfl)) <|
            .cons (.no) _ _ (op_add (Lk.t rfl) (Lk.k rfl) (wrap_id (by omega) (by omega))) <|
            .cons (.no) _ _ (op_assign (Lk.t rfl)) <|
            .nil) ff rfl fun g9 => ⟨_, _, [0, 1, 2, 3, 4], rfl, (.cons 2 rfl <| .cons 3 rfl <| .cons 4 rfl <| .cons 6 rfl <| .cons 8 rfl <| .cons 9 rfl <| .nil), (.cons 0 rfl <| .cons 1 rfl <| .cons 2 rfl <| .cons 3 rfl <| .cons 4 rfl <| .nil), ?_⟩)
        exact JN_again (k + 1, l.set k (fsub (xs.getD k 0) (ys.getD k 0))) (by exact ⟨show k + 1 ≤ _ by omega, pre_step hI.2 (by omega) (by rw [sum_getD hs0 (by omega)]; unfold sf; simp only [h3, if_true, Bool.false_eq_true, if_false])⟩) (by show (sumG (sf s) r c xs ys).length - (_ + 1) < _; omega) (To.pick (fun _ => .sub (t := 9) rfl (sp_eq (by rfl)) <| .cons 2 rfl <| .cons 3 rfl <| .cons 4 rfl <| .cons 6 rfl <| .cons 8 rfl <| .nil) (fun _ => .sub 0 rfl ((fun _ _ h => h)) <| .cons 1 rfl <| .cons 2 rfl <| .cons 3 rfl <| .cons 4 rfl <| .nil) (ks := [0, 1, 2, 3, 4]) rfl)
      · have h3' := h3
        try simp only [cmpB, Bool.and_eq_true, Bool.or_eq_true, Bool.and_eq_false_iff, Bool.or_eq_false_iff, Bool.not_eq_true', Bool.not_eq_false', Bool.not_eq_true, Bool.not_eq_false, decide_eq_true_eq, decide_eq_false_iff_not, Int.not_lt, Int.not_le, beq_iff_eq, bne_iff_ne, beq_eq_false_iff_ne, bne_eq_false_iff_eq, ne_eq, Decidable.not_not] at h3
        refine (J_reg [[], [0], [], [], [3], [], [3, 4, 5], [3, 4, 5, 6], [], [8], [], [8, 9, 10], [8, 9, 10, 11], [3, 4, 5, 6, 7, 8, 9, 10, 11, 12], [0, 1, 2, 3, 4, 5, 6, 7, 8, 9, 10, 11, 12, 13], [0, 1, 2, 3, 4, 5, 6, 7, 8, 9, 10, 11, 12, 13, 14]] (
            .cons (.no) _ _ (op_field_own fd28_2 (Lk.t rfl) rfl) <|
            .cons (.rd 4) _ _ (op_get_sc 4 sc26 (Lk.t rfl) rfl mem_blk rfl) <|
            .cons (.no) _ _ (op_move (Lk.t rfl)) <|
            .cons (.no) _ _ (op_field_own fd28_2 (Lk.t rfl) rfl) <|
            .cons (.rd 1) _ _ (op_get_sc 1 sc26 (Lk.t rfl) rfl mem_blk rfl) <|
            .cons (.no) _ _ (op_move (Lk.t rfl)) <|
            .cons (.no) _ _ (op_index_m 0 sl26 (Lk.t rfl) (Lk.t rfl) (by omega) (by omega)) <|
            .cons (.no) _ _ (op_load_sc sc56 (Lk.t rfl) rfl) <|
            .cons (.no) _ _ (op_field_own fd28_2 (Lk.t rfl) rfl) <|
            .cons (.rd 2) _ _ (op_get_sc 2 sc26 (Lk.t rfl) rfl mem_blk rfl) <|
            .cons (.no) _ _ (op_move (Lk.t rfl)) <|
            .cons (.no) _ _ (op_index_m 0 sl26 (Lk.t rfl) (Lk.t rfl) (by omega) (by omega)) <|
            .cons (.no) _ _ (op_load_sc sc56 (Lk.t rfl) rfl) <|
            .cons (.no) _ _ (op_float (by simp) (Lk.t rfl) (Lk.t rfl) rfl) <|
            .cons (.rd 0) _ _ (op_index_som 0 sl26 (Lk.t rfl) (Lk.t rfl) rfl (by omega) (by omega)) <|
            .cons (.wr 0) _ _ (op_store_som 0 (Lk.t rfl) (Lk.t rfl) co_flp sz56 rfl (by omega)) <|
            .nil) (fun _ => mixed) rfl fun g10 => ⟨_, _, [0, 1, 2, 3, 4], rfl, (.cons 2 rfl <| .cons 3 rfl <| .cons 4 rfl <| .cons 6 rfl <| .cons 8 rfl <| .cons 9 rfl <| .nil), (.cons 0 rfl <| .cons 1 rfl <| .cons 2 rfl <| .cons 3 rfl <| .cons 4 rfl <| .nil), ?_⟩)
        refine JN_block ?_
        refine JN_then ?_
        refine (J_reg [] (
            .cons (.no) _ _ (op_move (Lk.t rfl)) <|
            .cons (.no) _ _ (op_add (Lk.t rfl) (Lk.k rfl) (wrap_id (by omega) (by omega))) <|
            .cons (.no) _ _ (op_assign (Lk.t rfl)) <|
            .nil) ff rfl fun g11 => ⟨_, _, [0, 1, 2, 3, 4], rfl, (.cons 2 rfl <| .cons 3 rfl <| .cons 4 rfl <| .cons 6 rfl <| .cons 8 rfl <| .cons 9 rfl <| .nil), (.cons 0 rfl <| .cons 1 rfl <| .cons 2 rfl <| .cons 3 rfl <| .cons 4 rfl <| .nil), ?_⟩)
        exact JN_again (k + 1, l.set k (fadd (xs.getD k 0) (ys.getD k 0))) (by exact ⟨show k + 1 ≤ _ by omega, pre_step hI.2 (by omega) (by rw [sum_getD hs0 (by omega)]; unfold sf; simp only [h3, if_true, Bool.false_eq_true, if_false])⟩) (by show (sumG (sf s) r c xs ys).length - (_ + 1) < _; omega) (To.pick (fun _ => .sub (t := 9) rfl (sp_eq (by rfl)) <| .cons 2 rfl <| .cons 3 rfl <| .cons 4 rfl <| .cons 6 rfl <| .cons 8 rfl <| .nil) (fun _ => .sub 0 rfl ((fun _ _ h => h)) <| .cons 1 rfl <| .cons 2 rfl <| .cons 3 rfl <| .cons 4 rfl <| .nil) (ks := [0, 1, 2, 3, 4]) rfl)
    · have h2' := h2
      try simp only [cmpB, Bool.and_eq_true, Bool.or_eq_true, Bool.and_eq_false_iff, Bool.or_eq_false_iff, Bool.not_eq_true', Bool.not_eq_false', Bool.not_eq_true, Bool.not_eq_false, decide_eq_true_eq, decide_eq_false_iff_not, Int.not_lt, Int.not_le, beq_iff_eq, bne_iff_ne, beq_eq_false_iff_ne, bne_eq_false_iff_eq, ne_eq, Decidable.not_not] at h2
      refine J_exit ?_
      refine JN_then_exit ?_
      refine JN_then_exit ?_
      refine JN_exit_here ?_
      refine JN_then ?_
      refine J_to (To.freeze 0 (fun _ h => h) rfl frz_som rfl) ?_
      refine J_seq (J_reg [] (
          .cons (.rd 4) _ _ (op_get_ag 4 ag28 (Lk.t rfl) rfl mem_blk rfl rfl) <|
          .cons (.no) _ _ (op_call (over_ok) ⟨(Lk.sub (sb_agg (.cons sb_refl <| .cons sb_refl <| .cons (sb_fk 0 rfl) <| .nil)) (Lk.t rfl)),  trivial⟩) <|
          .cons (.no) _ _ (op_extract (Lk.t rfl) rfl) <|
          .cons (.no) _ _ (op_extract (Lk.t rfl) rfl) <|
          .cons (.wr 3) _ _ (op_store_b 3 (Lk.t rfl) (Lk.t rfl) co_agg sz28 rfl rfl rfl) <|
          .cons (.no) _ _ (op_assign (Lk.t rfl)) <|
          .nil) ff rfl fun g12 => ⟨_, _, [3], rfl, (.cons 6 rfl <| .cons 7 rfl <| .nil), (.cons 3 rfl <| .nil), ?_⟩)
      refine JN_then ?_
      refine J_ret ?_
      refine JN_ret (.cons (.ag 0 (Lk.t rfl) ag28 rfl rfl rfl) <| .cons (.tmp (Lk.t rfl)) <| .nil) (sb_trans (sb_res (.cons sb_refl <| .cons sb_refl <| .nil)) ?_)
      exact ret_M (by rw [pre_done hI.2 (by omega)]; exact rsum_yes e1 e2 rfl rfl)
theorem rscl_ok {r c : Int} {xs : List Nat} {s : Nat} (hg : Good r c xs) : Ct Try.prog 54 [MatP r c xs, flp s] (resM (toldR r c (sclG r c xs s))) := by
  refine Ct.of Try.func54 rfl (by kernel_rfl) rfl fun c0 => ?_
  have hs0 := hg.1
  have hx := hg.2
  have hn := siz_nat hs0
  have hG := @length_scl r c xs s
  refine J_to (To.emps 2) ?_
  refine J_seq (J_reg [] (
      .cons (.wr 0) _ _ (op_box 0 (Lk.t rfl) co_agg rfl) <|
      .cons (.wr 1) _ _ (op_alloc 1 zr28 rfl rfl) <|
      .cons (.no) _ _ (op_assign (Lk.k rfl)) <|
      .nil) ff rfl fun g1 => ⟨_, _, [0, 1], rfl, (.cons 1 rfl <| .cons 2 rfl <| .cons 4 rfl <| .nil), (.cons 0 rfl <| .cons 1 rfl <| .nil), ?_⟩)
  refine JN_then ?_
  refine J_to (To.emps 2) ?_
  refine J_seq (J_reg [] (
      .cons (.no) _ _ (op_field_own fd28_0 (Lk.t rfl) rfl) <|
      .cons (.rd 0) _ _ (op_get_sc 0 sc3 (Lk.t rfl) rfl mem_blk rfl) <|
      .cons (.no) _ _ (op_field_own fd28_1 (Lk.t rfl) rfl) <|
      .cons (.rd 0) _ _ (op_get_sc 0 sc3 (Lk.t rfl) rfl mem_blk rfl) <|
      .cons (.wr 2) _ _ (op_callF 2 (rawF_ok hs0) ⟨(Lk.t rfl), (Lk.t rfl),  trivial⟩ rfl) <|
      .cons (.wr 3) _ _ (op_alloc 3 zr28 rfl rfl) <|
      .cons (.wr 3) _ _ (op_store_new_ve 3 rfl rfl rfl (fun f => co_agg) (fun f g h => by rw [h 12 (show 12 ∈ [12] from by decide)]) (fun _ => sz28) rfl (fun _ => rfl) rfl) <|
      .nil) ff rfl fun g2 => ⟨_, _, [0, 1, 2, 3], rfl, (.cons 1 rfl <| .cons 2 rfl <| .cons 4 rfl <| .cons 6 rfl <| .nil), (.cons 0 rfl <| .cons 1 rfl <| .cons 2 rfl <| .cons 3 rfl <| .nil), ?_⟩)
  refine JN_then ?_
  refine J_seq ?_
  refine J_seq (J_reg [] (
      .cons (.no) _ _ (op_assign (Lk.k rfl)) <|
      .nil) ff rfl fun g3 => ⟨_, _, [0, 1, 2, 3], rfl, (.cons 1 rfl <| .cons 2 rfl <| .cons 4 rfl <| .cons 6 rfl <| .cons 7 rfl <| .nil), (.cons 0 rfl <| .cons 1 rfl <| .cons 2 rfl <| .cons 3 rfl <| .nil), ?_⟩)
  refine JN_then ?_
  refine J_block ?_
  refine J_loopc (α := Nat × List Nat) (fun x => x.1 ≤ (sclG r c xs s).length ∧ PreI (sclG r c xs s) x.1 x.2) (fun x => (sclG r c xs s).length - x.1) (fun x restR => (7, isv (.int .i64 (x.1 : Int))) :: restR) (fun x restS => som (agN 2 (g2 12)) flp x.2 56 :: restS) (ρc := [(1, _), (2, _), (4, _), (6, _)]) (σc := [_, _, _]) (0, grid r c fun _ _ => 0) (by exact ⟨Nat.zero_le _, pre_zero (by rw [length_grid, hG])⟩) (To.pick (fun _ => .sub (t := 7) rfl (sp_eq (by rfl)) <| .cons 1 rfl <| .cons 2 rfl <| .cons 4 rfl <| .cons 6 rfl <| .nil) (fun _ => .sub 2 rfl ((fun _ _ h => h)) <| .cons 0 rfl <| .cons 1 rfl <| .cons 3 rfl <| .nil) (ks := [2, 0, 1, 3]) rfl) (fun x hI => ?_)
  obtain ⟨k, l⟩ := x
  try simp only at hI
  show J _ _ ((7, isv (.int .i64 (k : Int))) :: _) (som (agN 2 (g2 12)) flp l 56 :: _) _ _
  have hml := hI.2.1
  refine J_seq ?_
  refine J_seq (J_reg [] (
      .cons (.no) _ _ (op_move (Lk.t rfl)) <|
      .cons (.no) _ _ (op_field_own fd28_2 (Lk.t rfl) rfl) <|
      .cons (.rd 3) _ _ (op_get_sc 3 sc26 (Lk.t rfl) rfl mem_blk rfl) <|
      .cons (.rd 0) _ _ (op_len_som 0 sl26 (Lk.t rfl) rfl) <|
      .cons (.no) _ _ (op_cmp (by simp) (Lk.t rfl) (Lk.t rfl) rfl) <|
      .nil) ff rfl fun g4 => ⟨_, _, [0, 1, 2, 3], rfl, (.cons 1 rfl <| .cons 2 rfl <| .cons 4 rfl <| .cons 6 rfl <| .cons 7 rfl <| .cons 17 rfl <| .nil), (.cons 0 rfl <| .cons 1 rfl <| .cons 2 rfl <| .cons 3 rfl <| .nil), ?_⟩)
  refine JN_then ?_
  refine J_cond (cond_of (Lk.t rfl)) (fun h1 => ?_) (fun h1 => ?_)
  · have h1' := h1
    try simp only [cmpB, Bool.and_eq_true, Bool.or_eq_true, Bool.and_eq_false_iff, Bool.or_eq_false_iff, Bool.not_eq_true', Bool.not_eq_false', Bool.not_eq_true, Bool.not_eq_false, decide_eq_true_eq, decide_eq_false_iff_not, Int.not_lt, Int.not_le, beq_iff_eq, bne_iff_ne, beq_eq_false_iff_ne, bne_eq_false_iff_eq, ne_eq, Decidable.not_not] at h1
    refine J_skip ?_
    refine JN_then ?_
    refine J_seq ?_
    refine J_block ?_
    refine (J_reg [[], [0], [], [], [3], [], [3, 4, 5], [3, 4, 5, 6], [], [3, 4, 5, 6, 7, 8], [0, 1, 2, 3, 4, 5, 6, 7, 8, 9], [0, 1, 2, 3, 4, 5, 6, 7, 8, 9, 10]] (
        .cons (.no) _ _ (op_field_own fd28_2 (Lk.t rfl) rfl) <|
        .cons (.rd 3) _ _ (op_get_sc 3 sc26 (Lk.t rfl) rfl mem_blk rfl) <|
        .cons (.no) _ _ (op_move (Lk.t rfl)) <|
        .cons (.no) _ _ (op_field_own fd28_2 (Lk.t rfl) rfl) <|
        .cons (.rd 1) _ _ (op_get_sc 1 sc26 (Lk.t rfl) rfl mem_blk rfl) <|
        .cons (.no) _ _ (op_move (Lk.t rfl)) <|
        .cons (.no) _ _ (op_index_m 0 sl26 (Lk.t rfl) (Lk.t rfl) (by omega) (by omega)) <|
        .cons (.no) _ _ (op_load_sc sc56 (Lk.t rfl) rfl) <|
        .cons (.no) _ _ (op_move (Lk.t rfl)) <|
        .cons (.no) _ _ (op_float (by simp) (Lk.t rfl) (Lk.t rfl) rfl) <|
        .cons (.rd 0) _ _ (op_index_som 0 sl26 (Lk.t rfl) (Lk.t rfl) rfl (by omega) (by omega)) <|
        .cons (.wr 0) _ _ (op_store_som 0 (Lk.t rfl) (Lk.t rfl) co_flp sz56 rfl (by omega)) <|
        .nil) (fun _ => mixed) rfl fun g5 => ⟨_, _, [0, 1, 2, 3], rfl, (.cons 1 rfl <| .cons 2 rfl <| .cons 4 rfl <| .cons 6 rfl <| .cons 7 rfl <| .nil), (.cons 0 rfl <| .cons 1 rfl <| .cons 2 rfl <| .cons 3 rfl <| .nil), ?_⟩)
    refine JN_block ?_
    refine JN_then ?_
    refine (J_reg [] (
        .cons (.no) _ _ (op_move (Lk.t rfl)) <|
        .cons (.no) _ _ (op_add (Lk.t rfl) (Lk.k rfl) (wrap_id (by omega) (by omega))) <|
        .cons (.no) _ _ (op_assign (Lk.t rfl)) <|
        .nil) ff rfl fun g6 => ⟨_, _, [0, 1, 2, 3], rfl, (.cons 1 rfl <| .cons 2 rfl <| .cons 4 rfl <| .cons 6 rfl <| .cons 7 rfl <| .nil), (.cons 0 rfl <| .cons 1 rfl <| .cons 2 rfl <| .cons 3 rfl <| .nil), ?_⟩)
    exact JN_again (k + 1, l.set k (fmul (xs.getD k 0) s)) (by exact ⟨show k + 1 ≤ _ by omega, pre_step hI.2 (by omega) (by rw [scl_getD hs0 (by omega)])⟩) (by show (sclG r c xs s).length - (_ + 1) < _; omega) (To.pick (fun _ => .sub (t := 7) rfl (sp_eq (by rfl)) <| .cons 1 rfl <| .cons 2 rfl <| .cons 4 rfl <| .cons 6 rfl <| .nil) (fun _ => .sub 0 rfl ((fun _ _ h => h)) <| .cons 1 rfl <| .cons 2 rfl <| .cons 3 rfl <| .nil) (ks := [0, 1, 2, 3]) rfl)
  · have h1' := h1
    try simp only [cmpB, Bool.and_eq_true, Bool.or_eq_true, Bool.and_eq_false_iff, Bool.or_eq_false_iff, Bool.not_eq_true', Bool.not_eq_false', Bool.not_eq_true, Bool.not_eq_false, decide_eq_true_eq, decide_eq_false_iff_not, Int.not_lt, Int.not_le, beq_iff_eq, bne_iff_ne, beq_eq_false_iff_ne, bne_eq_false_iff_eq, ne_eq, Decidable.not_not] at h1
    refine J_exit ?_
    refine JN_then_exit ?_
    refine JN_then_exit ?_
    refine JN_exit_here ?_
    refine JN_then ?_
    refine J_to (To.freeze 0 (fun _ h => h) rfl frz_som rfl) ?_
    refine J_seq (J_reg [] (
        .cons (.rd 3) _ _ (op_get_ag 3 ag28 (Lk.t rfl) rfl mem_blk rfl rfl) <|
        .cons (.no) _ _ (op_call (over_ok) ⟨(Lk.sub (sb_agg (.cons sb_refl <| .cons sb_refl <| .cons (sb_fk 0 rfl) <| .nil)) (Lk.t rfl)),  trivial⟩) <|
        .cons (.no) _ _ (op_extract (Lk.t rfl) rfl) <|
        .cons (.no) _ _ (op_extract (Lk.t rfl) rfl) <|
        .cons (.wr 2) _ _ (op_store_b 2 (Lk.t rfl) (Lk.t rfl) co_agg sz28 rfl rfl rfl) <|
        .cons (.no) _ _ (op_assign (Lk.t rfl)) <|
        .nil) ff rfl fun g7 => ⟨_, _, [2], rfl, (.cons 4 rfl <| .cons 5 rfl <| .nil), (.cons 2 rfl <| .nil), ?_⟩)
    refine JN_then ?_
    refine J_ret ?_
    refine JN_ret (.cons (.ag 0 (Lk.t rfl) ag28 rfl rfl rfl) <| .cons (.tmp (Lk.t rfl)) <| .nil) (sb_trans (sb_res (.cons sb_refl <| .cons sb_refl <| .nil)) ?_)
    exact ret_M (by rw [pre_done hI.2 (by omega)])
theorem rout_ok {xs ys : List Nat} (hs0 : Siz (xs.length : Int) (ys.length : Int)) : Ct Try.prog 56 [fls xs, fls ys] (resM (toldR (xs.length : Int) (ys.length : Int) (outG xs ys))) := by
  refine Ct.of Try.func56 rfl (by kernel_rfl) rfl fun c0 => ?_
  obtain ⟨hn1, hn2, hn3, hn4⟩ := id hs0
  refine J_to (To.emps 1) ?_
  refine J_seq (J_reg [] (
      .cons (.wr 0) _ _ (op_alloc 0 zr28 rfl rfl) <|
      .cons (.no) _ _ (op_assign (Lk.k rfl)) <|
      .nil) ff rfl fun g1 => ⟨_, _, [0], rfl, (.cons 0 rfl <| .cons 1 rfl <| .cons 4 rfl <| .nil), (.cons 0 rfl <| .nil), ?_⟩)
  refine JN_then ?_
  refine J_to (To.emps 2) ?_
  refine J_seq (J_reg [] (
      .cons (.no) _ _ (op_move (Lk.t rfl)) <|
      .cons (.no) _ _ (op_len_m sl26 (Lk.t rfl)) <|
      .cons (.no) _ _ (op_move (Lk.t rfl)) <|
      .cons (.no) _ _ (op_len_m sl26 (Lk.t rfl)) <|
      .cons (.wr 1) _ _ (op_callF 1 (rawF_ok hs0) ⟨(Lk.t rfl), (Lk.t rfl),  trivial⟩ rfl) <|
      .cons (.wr 2) _ _ (op_alloc 2 zr28 rfl rfl) <|
      .cons (.wr 2) _ _ (op_store_new_ve 2 rfl rfl rfl (fun f => co_agg) (fun f g h => by rw [h 13 (show 13 ∈ [13] from by decide)]) (fun _ => sz28) rfl (fun _ => rfl) rfl) <|
      .nil) ff rfl fun g2 => ⟨_, _, [0, 1, 2], rfl, (.cons 0 rfl <| .cons 1 rfl <| .cons 4 rfl <| .cons 6 rfl <| .nil), (.cons 0 rfl <| .cons 1 rfl <| .cons 2 rfl <| .nil), ?_⟩)
  refine JN_then ?_
  refine J_seq ?_
  refine J_seq (J_reg [] (
      .cons (.no) _ _ (op_assign (Lk.k rfl)) <|
      .nil) ff rfl fun g3 => ⟨_, _, [0, 1, 2], rfl, (.cons 0 rfl <| .cons 1 rfl <| .cons 4 rfl <| .cons 6 rfl <| .cons 7 rfl <| .nil), (.cons 0 rfl <| .cons 1 rfl <| .cons 2 rfl <| .nil), ?_⟩)
  refine JN_then ?_
  refine J_block ?_
  refine J_loopc (α := Nat × List Nat) (fun x => x.1 ≤ ((xs.length : Int)).toNat ∧ PutI (xs.length : Int) (ys.length : Int) (fun i j => fmul (xs.getD i.toNat 0) (ys.getD j.toNat 0)) (RowD x.1 (0 : Nat)) x.2) (fun x => ((xs.length : Int)).toNat - x.1) (fun x restR => (7, isv (.int .i64 (x.1 : Int))) :: restR) (fun x restS => som (agN 2 (g2 13)) flp x.2 56 :: restS) (ρc := [(0, _), (1, _), (4, _), (6, _)]) (σc := [_, _]) (0, grid (xs.length : Int) (ys.length : Int) fun _ _ => 0) (by exact ⟨Nat.zero_le _, putI_grid0 hs0⟩) (To.pick (fun _ => .sub (t := 7) rfl (sp_eq (by rfl)) <| .cons 0 rfl <| .cons 1 rfl <| .cons 4 rfl <| .cons 6 rfl <| .nil) (fun _ => .sub 1 rfl ((fun _ _ h => h)) <| .cons 0 rfl <| .cons 2 rfl <| .nil) (ks := [1, 0, 2]) rfl) (fun x hI => ?_)
  obtain ⟨k, l⟩ := x
  try simp only at hI
  show J _ _ ((7, isv (.int .i64 (k : Int))) :: _) (som (agN 2 (g2 13)) flp l 56 :: _) _ _
  refine J_seq ?_
  refine J_seq (J_reg [] (
      .cons (.no) _ _ (op_move (Lk.t rfl)) <|
      .cons (.no) _ _ (op_move (Lk.t rfl)) <|
      .cons (.no) _ _ (op_len_m sl26 (Lk.t rfl)) <|
      .cons (.no) _ _ (op_cmp (by simp) (Lk.t rfl) (Lk.t rfl) rfl) <|
      .nil) ff rfl fun g4 => ⟨_, _, [0, 1, 2], rfl, (.cons 0 rfl <| .cons 1 rfl <| .cons 4 rfl <| .cons 6 rfl <| .cons 7 rfl <| .cons 17 rfl <| .nil), (.cons 0 rfl <| .cons 1 rfl <| .cons 2 rfl <| .nil), ?_⟩)
  refine JN_then ?_
  refine J_cond (cond_of (Lk.t rfl)) (fun h1 => ?_) (fun h1 => ?_)
  · have h1' := h1
    try simp only [cmpB, Bool.and_eq_true, Bool.or_eq_true, Bool.and_eq_false_iff, Bool.or_eq_false_iff, Bool.not_eq_true', Bool.not_eq_false', Bool.not_eq_true, Bool.not_eq_false, decide_eq_true_eq, decide_eq_false_iff_not, Int.not_lt, Int.not_le, beq_iff_eq, bne_iff_ne, beq_eq_false_iff_ne, bne_eq_false_iff_eq, ne_eq, Decidable.not_not] at h1
    refine J_skip ?_
    refine JN_then ?_
    refine J_seq ?_
    refine J_block ?_
    refine J_seq (J_reg [] (
        .cons (.no) _ _ (op_assign (Lk.k rfl)) <|
        .nil) ff rfl fun g5 => ⟨_, _, [0, 1, 2], rfl, (.cons 0 rfl <| .cons 1 rfl <| .cons 4 rfl <| .cons 6 rfl <| .cons 7 rfl <| .cons 8 rfl <| .nil), (.cons 0 rfl <| .cons 1 rfl <| .cons 2 rfl <| .nil), ?_⟩)
    refine JN_then ?_
    refine J_block ?_
    refine J_loopc (α := Nat × List Nat) (fun y => y.1 ≤ ((ys.length : Int)).toNat ∧ PutI (xs.length : Int) (ys.length : Int) (fun i j => fmul (xs.getD i.toNat 0) (ys.getD j.toNat 0)) (RowD k y.1) y.2) (fun y => ((ys.length : Int)).toNat - y.1) (fun y restR => (8, isv (.int .i64 (y.1 : Int))) :: restR) (fun y restS => som (agN 2 (g2 13)) flp y.2 56 :: restS) (ρc := [(0, _), (1, _), (4, _), (6, _), (7, _)]) (σc := [_, _]) (0, l) (by exact ⟨Nat.zero_le _, hI.2⟩) (To.pick (fun _ => .sub (t := 8) rfl (sp_eq (by rfl)) <| .cons 0 rfl <| .cons 1 rfl <| .cons 4 rfl <| .cons 6 rfl <| .cons 7 rfl <| .nil) (fun _ => .sub 0 rfl ((fun _ _ h => h)) <| .cons 1 rfl <| .cons 2 rfl <| .nil) (ks := [0, 1, 2]) rfl) (fun y hJ => ?_)
    obtain ⟨q, m⟩ := y
    try simp only at hJ
    show J _ _ ((8, isv (.int .i64 (q : Int))) :: _) (som (agN 2 (g2 13)) flp m 56 :: _) _ _
    have hml := hJ.2.1
    refine J_seq ?_
    refine J_seq (J_reg [] (
        .cons (.no) _ _ (op_move (Lk.t rfl)) <|
        .cons (.no) _ _ (op_move (Lk.t rfl)) <|
        .cons (.no) _ _ (op_len_m sl26 (Lk.t rfl)) <|
        .cons (.no) _ _ (op_cmp (by simp) (Lk.t rfl) (Lk.t rfl) rfl) <|
        .nil) ff rfl fun g6 => ⟨_, _, [0, 1, 2], rfl, (.cons 0 rfl <| .cons 1 rfl <| .cons 4 rfl <| .cons 6 rfl <| .cons 7 rfl <| .cons 8 rfl <| .cons 23 rfl <| .nil), (.cons 0 rfl <| .cons 1 rfl <| .cons 2 rfl <| .nil), ?_⟩)
    refine JN_then ?_
    refine J_cond (cond_of (Lk.t rfl)) (fun h2 => ?_) (fun h2 => ?_)
    · have h2' := h2
      try simp only [cmpB, Bool.and_eq_true, Bool.or_eq_true, Bool.and_eq_false_iff, Bool.or_eq_false_iff, Bool.not_eq_true', Bool.not_eq_false', Bool.not_eq_true, Bool.not_eq_false, decide_eq_true_eq, decide_eq_false_iff_not, Int.not_lt, Int.not_le, beq_iff_eq, bne_iff_ne, beq_eq_false_iff_ne, bne_eq_false_iff_eq, ne_eq, Decidable.not_not] at h2
      refine J_skip ?_
      refine JN_then ?_
      refine J_seq ?_
      refine J_block ?_
      refine (J_reg [[], [], [], [], [], [3, 4], [3, 4, 5], [], [], [7, 8], [7, 8, 9], [3, 4, 5, 6, 7, 8, 9, 10], [0, 1, 2, 3, 4, 5, 6, 7, 8, 9, 10, 11]] (
          .cons (.rd 2) _ _ (op_get_ag 2 ag28 (Lk.t rfl) rfl mem_blk rfl rfl) <|
          .cons (.no) _ _ (op_move (Lk.t rfl)) <|
          .cons (.no) _ _ (op_move (Lk.t rfl)) <|
          .cons (.no) _ _ (op_move (Lk.t rfl)) <|
          .cons (.no) _ _ (op_move (Lk.t rfl)) <|
          .cons (.no) _ _ (op_index_m 0 sl26 (Lk.t rfl) (Lk.t rfl) (by omega) (by omega)) <|
          .cons (.no) _ _ (op_load_sc sc56 (Lk.t rfl) rfl) <|
          .cons (.no) _ _ (op_move (Lk.t rfl)) <|
          .cons (.no) _ _ (op_move (Lk.t rfl)) <|
          .cons (.no) _ _ (op_index_m 0 sl26 (Lk.t rfl) (Lk.t rfl) (by omega) (by omega)) <|
          .cons (.no) _ _ (op_load_sc sc56 (Lk.t rfl) rfl) <|
          .cons (.no) _ _ (op_float (by simp) (Lk.t rfl) (Lk.t rfl) rfl) <|
          .cons (.wr 0) _ _ (op_callM 0 (put_ok hs0 hml ⟨by omega, by omega, by omega, by omega⟩) ⟨(Lk.t rfl), (Lk.t rfl), (Lk.t rfl), (Lk.t rfl),  trivial⟩ rfl) <|
          .nil) (fun _ => mixed) rfl fun g7 => ⟨_, _, [0, 1, 2], rfl, (.cons 0 rfl <| .cons 1 rfl <| .cons 4 rfl <| .cons 6 rfl <| .cons 7 rfl <| .cons 8 rfl <| .nil), (.cons 0 rfl <| .cons 1 rfl <| .cons 2 rfl <| .nil), ?_⟩)
      refine JN_block ?_
      refine JN_then ?_
      refine (J_reg [] (
          .cons (.no) _ _ (op_move (Lk.t rfl)) <|
          .cons (.no) _ _ (op_add (Lk.t rfl) (Lk.k rfl) (wrap_id (by omega) (by omega))) <|
          .cons (.no) _ _ (op_assign (Lk.t rfl)) <|
          .nil) ff rfl fun g8 => ⟨_, _, [0, 1, 2], rfl, (.cons 0 rfl <| .cons 1 rfl <| .cons 4 rfl <| .cons 6 rfl <| .cons 7 rfl <| .cons 8 rfl <| .nil), (.cons 0 rfl <| .cons 1 rfl <| .cons 2 rfl <| .nil), ?_⟩)
      exact JN_again (q + 1, m.set ((k : Int) * (ys.length : Int) + (q : Int)).toNat (fmul (xs.getD k 0) (ys.getD q 0))) (by exact ⟨show q + 1 ≤ _ by omega, row_step hs0 (by omega) (by omega) hJ.2 rfl⟩) (by show ((ys.length : Int)).toNat - (_ + 1) < _; omega) (To.pick (fun _ => .sub (t := 8) rfl (sp_eq (by rfl)) <| .cons 0 rfl <| .cons 1 rfl <| .cons 4 rfl <| .cons 6 rfl <| .cons 7 rfl <| .nil) (fun _ => .sub 0 rfl ((fun _ _ h => h)) <| .cons 1 rfl <| .cons 2 rfl <| .nil) (ks := [0, 1, 2]) rfl)
    · have h2' := h2
      try simp only [cmpB, Bool.and_eq_true, Bool.or_eq_true, Bool.and_eq_false_iff, Bool.or_eq_false_iff, Bool.not_eq_true', Bool.not_eq_false', Bool.not_eq_true, Bool.not_eq_false, decide_eq_true_eq, decide_eq_false_iff_not, Int.not_lt, Int.not_le, beq_iff_eq, bne_iff_ne, beq_eq_false_iff_ne, bne_eq_false_iff_eq, ne_eq, Decidable.not_not] at h2
      refine J_exit ?_
      refine JN_then_exit ?_
      refine JN_then_exit ?_
      refine JN_exit_here ?_
      refine JN_block ?_
      refine JN_then ?_
      refine (J_reg [] (
          .cons (.no) _ _ (op_move (Lk.t rfl)) <|
          .cons (.no) _ _ (op_add (Lk.t rfl) (Lk.k rfl) (wrap_id (by omega) (by omega))) <|
          .cons (.no) _ _ (op_assign (Lk.t rfl)) <|
          .nil) ff rfl fun g9 => ⟨_, _, [0, 1, 2], rfl, (.cons 0 rfl <| .cons 1 rfl <| .cons 4 rfl <| .cons 6 rfl <| .cons 7 rfl <| .nil), (.cons 0 rfl <| .cons 1 rfl <| .cons 2 rfl <| .nil), ?_⟩)
      exact JN_again (k + 1, m) (by exact ⟨show k + 1 ≤ _ by omega, row_end hs0 (show q = ((ys.length : Int)).toNat by omega) hJ.2⟩) (by show ((xs.length : Int)).toNat - (_ + 1) < _; omega) (To.pick (fun _ => .sub (t := 7) rfl (sp_eq (by rfl)) <| .cons 0 rfl <| .cons 1 rfl <| .cons 4 rfl <| .cons 6 rfl <| .nil) (fun _ => .sub 0 rfl ((fun _ _ h => h)) <| .cons 1 rfl <| .cons 2 rfl <| .nil) (ks := [0, 1, 2]) rfl)
  · have h1' := h1
    try simp only [cmpB, Bool.and_eq_true, Bool.or_eq_true, Bool.and_eq_false_iff, Bool.or_eq_false_iff, Bool.not_eq_true', Bool.not_eq_false', Bool.not_eq_true, Bool.not_eq_false, decide_eq_true_eq, decide_eq_false_iff_not, Int.not_lt, Int.not_le, beq_iff_eq, bne_iff_ne, beq_eq_false_iff_ne, bne_eq_false_iff_eq, ne_eq, Decidable.not_not] at h1
    refine J_exit ?_
    refine JN_then_exit ?_
    refine JN_then_exit ?_
    refine JN_exit_here ?_
    refine JN_then ?_
    refine J_to (To.freeze 0 (fun _ h => h) rfl frz_som rfl) ?_
    refine J_seq (J_reg [] (
        .cons (.rd 2) _ _ (op_get_ag 2 ag28 (Lk.t rfl) rfl mem_blk rfl rfl) <|
        .cons (.no) _ _ (op_call (over_ok) ⟨(Lk.sub (sb_agg (.cons sb_refl <| .cons sb_refl <| .cons (sb_fk 0 rfl) <| .nil)) (Lk.t rfl)),  trivial⟩) <|
        .cons (.no) _ _ (op_extract (Lk.t rfl) rfl) <|
        .cons (.no) _ _ (op_extract (Lk.t rfl) rfl) <|
        .cons (.wr 1) _ _ (op_store_b 1 (Lk.t rfl) (Lk.t rfl) co_agg sz28 rfl rfl rfl) <|
        .cons (.no) _ _ (op_assign (Lk.t rfl)) <|
        .nil) ff rfl fun g10 => ⟨_, _, [1], rfl, (.cons 4 rfl <| .cons 5 rfl <| .nil), (.cons 1 rfl <| .nil), ?_⟩)
    refine JN_then ?_
    refine J_ret ?_
    refine JN_ret (.cons (.ag 0 (Lk.t rfl) ag28 rfl rfl rfl) <| .cons (.tmp (Lk.t rfl)) <| .nil) (sb_trans (sb_res (.cons sb_refl <| .cons sb_refl <| .nil)) ?_)
    exact ret_M (by rw [row_done hs0 (show k = ((xs.length : Int)).toNat by omega) hI.2]; rfl)
theorem scl1_ok_has : Has Try.prog 127 := ⟨_, Try.func127, rfl, by kernel_rfl⟩
theorem scl1_ok {r c i j : Int} {xs : List Nat} {s : Nat} (hg : Good r c xs) (hp : Pl r c i j) : Ct Try.prog 127 [isv (.int .i64 i), isv (.int .i64 j), ptp [isv (.int .i64 r), isv (.int .i64 c), fls xs], ptp [flp s]] (flp (fmul (mat c xs i j) s)) := by
  refine Ct.of Try.func127 rfl (by kernel_rfl) rfl fun c0 => ?_
  refine J_seq (J_reg [] (
      .cons (.no) _ _ (op_assign (Lk.fk rfl (by decide +kernel))) <|
      .nil) ff rfl fun g1 => ⟨_, _, [], rfl, (.cons 0 rfl <| .cons 1 rfl <| .cons 2 rfl <| .cons 3 rfl <| .nil), (.nil), ?_⟩)
  refine JN_then ?_
  refine J_seq (J_reg [[], [], [], [0, 1, 2], [], [0, 1, 2, 3, 4], [0, 1, 2, 3, 4, 5]] (
      .cons (.no) _ _ (op_load_ag ag28 (Lk.t rfl) rfl rfl) <|
      .cons (.no) _ _ (op_move (Lk.t rfl)) <|
      .cons (.no) _ _ (op_move (Lk.t rfl)) <|
      .cons (.no) _ _ (op_call (at_ok hg hp) ⟨(Lk.t rfl), (Lk.t rfl), (Lk.t rfl),  trivial⟩) <|
      .cons (.no) _ _ (op_load_sc sc56 (Lk.t rfl) rfl) <|
      .cons (.no) _ _ (op_float (by simp) (Lk.t rfl) (Lk.t rfl) rfl) <|
      .cons (.no) _ _ (op_assign (Lk.t rfl)) <|
      .nil) (fun _ => mixed) rfl fun g2 => ⟨_, _, [], rfl, (.cons 6 rfl <| .nil), (.nil), ?_⟩)
  refine JN_then ?_
  refine J_ret ?_
  refine JN_ret (.cons (.tmp (Lk.t rfl)) <| .nil) (sb_trans (sb_res1 sb_refl) ?_)
  exact sb_refl
theorem scl_ok {r c : Int} {xs : List Nat} {s : Nat} : Ct Try.prog 55 [MatP r c xs, flp s] (resM (sclR r c xs s)) := by
  refine Ct.of Try.func55 rfl (by kernel_rfl) rfl fun c0 => ?_
  refine J_to (To.emps 3) ?_
  refine J_seq (J_reg [] (
      .cons (.wr 0) _ _ (op_box 0 (Lk.t rfl) co_agg rfl) <|
      .cons (.wr 1) _ _ (op_box 1 (Lk.t rfl) co_flp rfl) <|
      .cons (.wr 2) _ _ (op_alloc 2 zr28 rfl rfl) <|
      .cons (.no) _ _ (op_assign (Lk.k rfl)) <|
      .nil) ff rfl fun g1 => ⟨_, _, [0, 1, 2], rfl, (.cons 2 rfl <| .cons 3 rfl <| .cons 4 rfl <| .nil), (.cons 0 rfl <| .cons 1 rfl <| .cons 2 rfl <| .nil), ?_⟩)
  refine JN_then ?_
  refine J_seq ?_
  refine J_seq (J_reg [[], [0], [], [], [2, 3], [2, 3, 4], [0, 1, 2, 3, 4, 5], [0, 1, 2, 3, 4, 5, 6], [0, 1, 2, 3, 4, 5, 6, 7], [0, 1, 2, 3, 4, 5, 6, 7, 8]] (
      .cons (.rd 0) _ _ (op_get_ag 0 ag28 (Lk.t rfl) rfl mem_blk rfl rfl) <|
      .cons (.no) _ _ (op_call (chk_ok) ⟨(Lk.t rfl),  trivial⟩) <|
      .cons (.rd 1) _ _ (op_get_sc 1 sc56 (Lk.t rfl) rfl mem_blk rfl) <|
      .cons (.rd 1) _ _ (op_get_sc 1 sc56 (Lk.t rfl) rfl mem_blk rfl) <|
      .cons (.no) _ _ (op_float (by simp) (Lk.t rfl) (Lk.t rfl) rfl) <|
      .cons (.no) _ _ (op_fcmp (by simp) (Lk.t rfl) (Lk.fk rfl (by decide +kernel)) rfl) <|
      .cons (.no) _ _ (op_call (when_ok) ⟨(Lk.t rfl), (Lk.k rfl),  trivial⟩) <|
      .cons (.no) _ _ (op_buildSlice sl142 zr30 rfl rfl rfl rfl (.cons rfl (Lk.t rfl) co_isv rfl (puts_l rfl (Nat.le_of_ble_eq_true rfl)) (.cons rfl (Lk.t rfl) co_isv rfl (puts_l rfl (Nat.le_of_ble_eq_true rfl)) .nil))) <|
      .cons (.no) _ _ (op_call (first_ok2) ⟨(Lk.t rfl),  trivial⟩) <|
      .cons (.no) _ _ (op_assign (Lk.t rfl)) <|
      .nil) (fun _ => mixed) rfl fun g2 => ⟨_, _, [0, 1, 2], rfl, (.cons 2 rfl <| .cons 3 rfl <| .cons 4 rfl <| .cons 6 rfl <| .nil), (.cons 0 rfl <| .cons 1 rfl <| .cons 2 rfl <| .nil), ?_⟩)
  refine JN_then ?_
  refine J_seq (J_reg [] (
      .cons (.no) _ _ (op_move (Lk.t rfl)) <|
      .cons (.no) _ _ (op_cmp (by simp) (Lk.t rfl) (Lk.k rfl) rfl) <|
      .nil) ff rfl fun g3 => ⟨_, _, [0, 1, 2], rfl, (.cons 2 rfl <| .cons 3 rfl <| .cons 4 rfl <| .cons 6 rfl <| .cons 17 rfl <| .nil), (.cons 0 rfl <| .cons 1 rfl <| .cons 2 rfl <| .nil), ?_⟩)
  refine JN_then ?_
  refine J_cond (cond_of (Lk.t rfl)) (fun h1 => ?_) (fun h1 => ?_)
  · have h1' := h1
    try simp only [cmpB, Bool.and_eq_true, Bool.or_eq_true, Bool.and_eq_false_iff, Bool.or_eq_false_iff, Bool.not_eq_true', Bool.not_eq_false', Bool.not_eq_true, Bool.not_eq_false, decide_eq_true_eq, decide_eq_false_iff_not, Int.not_lt, Int.not_le, beq_iff_eq, bne_iff_ne, beq_eq_false_iff_ne, bne_eq_false_iff_eq, ne_eq, Decidable.not_not] at h1
    refine J_seq (J_reg [] (
        .cons (.no) _ _ (op_build zr28 rfl pl28 .nil) <|
        .cons (.no) _ _ (op_move (Lk.t rfl)) <|
        .cons (.wr 2) _ _ (op_store_b 2 (Lk.t rfl) (Lk.t rfl) co_agg sz28 rfl rfl rfl) <|
        .cons (.no) _ _ (op_assign (Lk.t rfl)) <|
        .nil) ff rfl fun g4 => ⟨_, _, [2], rfl, (.cons 4 rfl <| .cons 5 rfl <| .nil), (.cons 2 rfl <| .nil), ?_⟩)
    refine JN_then ?_
    refine J_ret ?_
    refine JN_then_ret ?_
    refine JN_ret (.cons (.ag 0 (Lk.t rfl) ag28 rfl rfl rfl) <| .cons (.tmp (Lk.t rfl)) <| .nil) (sb_trans (sb_res (.cons (sb_agg (.cons sb_refl <| .cons sb_refl <| .cons (sb_nil (mk := flp)) <| .nil)) <| .cons sb_refl <| .nil)) ?_)
    exact ret_M (by unfold sclR orR; exact (if_neg h1).symm)
  · have h1' := h1
    try simp only [cmpB, Bool.and_eq_true, Bool.or_eq_true, Bool.and_eq_false_iff, Bool.or_eq_false_iff, Bool.not_eq_true', Bool.not_eq_false', Bool.not_eq_true, Bool.not_eq_false, decide_eq_true_eq, decide_eq_false_iff_not, Int.not_lt, Int.not_le, beq_iff_eq, bne_iff_ne, beq_eq_false_iff_ne, bne_eq_false_iff_eq, ne_eq, Decidable.not_not] at h1
    have hg := chk_good (fst2.1 h1).1
    refine J_skip ?_
    refine JN_then ?_
    refine J_to (To.freeze 0 (fun _ h => h) rfl frz_blk rfl) ?_
    refine J_to (To.freeze 1 (fun _ h => h) rfl frz_blk rfl) ?_
    refine J_seq (J_reg [] (
        .cons (.no) _ _ (op_field_own fd28_0 (Lk.t rfl) rfl) <|
        .cons (.no) _ _ (op_load_sc sc3 (Lk.sub (sb_ok 1 1 rfl rfl) (Lk.t rfl)) rfl) <|
        .cons (.no) _ _ (op_field_own fd28_1 (Lk.t rfl) rfl) <|
        .cons (.no) _ _ (op_load_sc sc3 (Lk.sub (sb_ok 1 1 rfl rfl) (Lk.t rfl)) rfl) <|
        .cons (.no) _ _ (op_makeFunc (C := Pl r c) (g := fun i j => flp (fmul (mat c xs i j) s)) (fun i j hC => scl1_ok hg hC) ⟨(Lk.sub (sb_ok 1 3 rfl rfl) (Lk.t rfl)), (Lk.sub (sb_ok 0 1 rfl rfl) (Lk.t rfl)),  trivial⟩ scl1_ok_has) <|
        .cons (.no) _ _ (op_call (fill_ok hg.1) ⟨(Lk.t rfl), (Lk.t rfl), (Lk.t rfl),  trivial⟩) <|
        .cons (.no) _ _ (op_call (told_ok) ⟨(Lk.t rfl),  trivial⟩) <|
        .cons (.no) _ _ (op_extract (Lk.t rfl) rfl) <|
        .cons (.no) _ _ (op_extract (Lk.t rfl) rfl) <|
        .cons (.wr 2) _ _ (op_store_b 2 (Lk.t rfl) (Lk.t rfl) co_agg sz28 rfl rfl rfl) <|
        .cons (.no) _ _ (op_assign (Lk.t rfl)) <|
        .nil) ff rfl fun g5 => ⟨_, _, [2], rfl, (.cons 4 rfl <| .cons 5 rfl <| .nil), (.cons 2 rfl <| .nil), ?_⟩)
    refine JN_then ?_
    refine J_ret ?_
    refine JN_ret (.cons (.ag 0 (Lk.t rfl) ag28 rfl rfl rfl) <| .cons (.tmp (Lk.t rfl)) <| .nil) (sb_trans (sb_res (.cons sb_refl <| .cons sb_refl <| .nil)) ?_)
    exact ret_M (by unfold sclR orR; exact (if_pos h1).symm)
theorem out1_ok_has : Has Try.prog 128 := ⟨_, Try.func128, rfl, by kernel_rfl⟩
theorem out1_ok {i j : Int} {xs ys : List Nat} (hp : Pl (xs.length : Int) (ys.length : Int) i j) : Ct Try.prog 128 [isv (.int .i64 i), isv (.int .i64 j), ptp [fls xs], ptp [fls ys]] (flp (fmul (xs.getD i.toNat 0) (ys.getD j.toNat 0))) := by
  refine Ct.of Try.func128 rfl (by kernel_rfl) rfl fun c0 => ?_
  obtain ⟨hp1, hp2, hp3, hp4⟩ := hp
  refine J_seq (J_reg [] (
      .cons (.no) _ _ (op_assign (Lk.fk rfl (by decide +kernel))) <|
      .nil) ff rfl fun g1 => ⟨_, _, [], rfl, (.cons 0 rfl <| .cons 1 rfl <| .cons 2 rfl <| .cons 3 rfl <| .nil), (.nil), ?_⟩)
  refine JN_then ?_
  refine J_seq (J_reg [[], [], [0, 1], [0, 1, 2], [], [], [4, 5], [4, 5, 6], [0, 1, 2, 3, 4, 5, 6, 7], [0, 1, 2, 3, 4, 5, 6, 7, 8]] (
      .cons (.no) _ _ (op_load_sc sc26 (Lk.t rfl) rfl) <|
      .cons (.no) _ _ (op_move (Lk.t rfl)) <|
      .cons (.no) _ _ (op_index_m 0 sl26 (Lk.t rfl) (Lk.t rfl) (by omega) (by omega)) <|
      .cons (.no) _ _ (op_load_sc sc56 (Lk.t rfl) rfl) <|
      .cons (.no) _ _ (op_load_sc sc26 (Lk.t rfl) rfl) <|
      .cons (.no) _ _ (op_move (Lk.t rfl)) <|
      .cons (.no) _ _ (op_index_m 0 sl26 (Lk.t rfl) (Lk.t rfl) (by omega) (by omega)) <|
      .cons (.no) _ _ (op_load_sc sc56 (Lk.t rfl) rfl) <|
      .cons (.no) _ _ (op_float (by simp) (Lk.t rfl) (Lk.t rfl) rfl) <|
      .cons (.no) _ _ (op_assign (Lk.t rfl)) <|
      .nil) (fun _ => mixed) rfl fun g2 => ⟨_, _, [], rfl, (.cons 6 rfl <| .nil), (.nil), ?_⟩)
  refine JN_then ?_
  refine J_ret ?_
  refine JN_ret (.cons (.tmp (Lk.t rfl)) <| .nil) (sb_trans (sb_res1 sb_refl) ?_)
  exact sb_refl
theorem out_ok {xs ys : List Nat} : Ct Try.prog 57 [fls xs, fls ys] (resM (outR xs ys)) := by
  refine Ct.of Try.func57 rfl (by kernel_rfl) rfl fun c0 => ?_
  refine J_to (To.emps 3) ?_
  refine J_seq (J_reg [] (
      .cons (.wr 0) _ _ (op_box 0 (Lk.t rfl) co_slm rfl) <|
      .cons (.wr 1) _ _ (op_box 1 (Lk.t rfl) co_slm rfl) <|
      .cons (.wr 2) _ _ (op_alloc 2 zr28 rfl rfl) <|
      .cons (.no) _ _ (op_assign (Lk.k rfl)) <|
      .nil) ff rfl fun g1 => ⟨_, _, [0, 1, 2], rfl, (.cons 2 rfl <| .cons 3 rfl <| .cons 4 rfl <| .nil), (.cons 0 rfl <| .cons 1 rfl <| .cons 2 rfl <| .nil), ?_⟩)
  refine JN_then ?_
  refine J_seq ?_
  refine J_seq (J_reg [[], [0], [], [0, 1, 2], [0, 1, 2, 3], [0, 1, 2, 3, 4], [0, 1, 2, 3, 4, 5]] (
      .cons (.rd 0) _ _ (op_get_sc 0 sc26 (Lk.t rfl) rfl mem_blk rfl) <|
      .cons (.no) _ _ (op_call (list_ok) ⟨(Lk.t rfl),  trivial⟩) <|
      .cons (.rd 1) _ _ (op_get_sc 1 sc26 (Lk.t rfl) rfl mem_blk rfl) <|
      .cons (.no) _ _ (op_call (list_ok) ⟨(Lk.t rfl),  trivial⟩) <|
      .cons (.no) _ _ (op_buildSlice sl142 zr30 rfl rfl rfl rfl (.cons rfl (Lk.t rfl) co_isv rfl (puts_l rfl (Nat.le_of_ble_eq_true rfl)) (.cons rfl (Lk.t rfl) co_isv rfl (puts_l rfl (Nat.le_of_ble_eq_true rfl)) .nil))) <|
      .cons (.no) _ _ (op_call (first_ok2) ⟨(Lk.t rfl),  trivial⟩) <|
      .cons (.no) _ _ (op_assign (Lk.t rfl)) <|
      .nil) (fun _ => mixed) rfl fun g2 => ⟨_, _, [0, 1, 2], rfl, (.cons 2 rfl <| .cons 3 rfl <| .cons 4 rfl <| .cons 6 rfl <| .nil), (.cons 0 rfl <| .cons 1 rfl <| .cons 2 rfl <| .nil), ?_⟩)
  refine JN_then ?_
  refine J_seq (J_reg [] (
      .cons (.no) _ _ (op_move (Lk.t rfl)) <|
      .cons (.no) _ _ (op_cmp (by simp) (Lk.t rfl) (Lk.k rfl) rfl) <|
      .nil) ff rfl fun g3 => ⟨_, _, [0, 1, 2], rfl, (.cons 2 rfl <| .cons 3 rfl <| .cons 4 rfl <| .cons 6 rfl <| .cons 14 rfl <| .nil), (.cons 0 rfl <| .cons 1 rfl <| .cons 2 rfl <| .nil), ?_⟩)
  refine JN_then ?_
  refine J_cond (cond_of (Lk.t rfl)) (fun h1 => ?_) (fun h1 => ?_)
  · have h1' := h1
    try simp only [cmpB, Bool.and_eq_true, Bool.or_eq_true, Bool.and_eq_false_iff, Bool.or_eq_false_iff, Bool.not_eq_true', Bool.not_eq_false', Bool.not_eq_true, Bool.not_eq_false, decide_eq_true_eq, decide_eq_false_iff_not, Int.not_lt, Int.not_le, beq_iff_eq, bne_iff_ne, beq_eq_false_iff_ne, bne_eq_false_iff_eq, ne_eq, Decidable.not_not] at h1
    refine J_seq (J_reg [] (
        .cons (.no) _ _ (op_build zr28 rfl pl28 .nil) <|
        .cons (.no) _ _ (op_move (Lk.t rfl)) <|
        .cons (.wr 2) _ _ (op_store_b 2 (Lk.t rfl) (Lk.t rfl) co_agg sz28 rfl rfl rfl) <|
        .cons (.no) _ _ (op_assign (Lk.t rfl)) <|
        .nil) ff rfl fun g4 => ⟨_, _, [2], rfl, (.cons 4 rfl <| .cons 5 rfl <| .nil), (.cons 2 rfl <| .nil), ?_⟩)
    refine JN_then ?_
    refine J_ret ?_
    refine JN_then_ret ?_
    refine JN_ret (.cons (.ag 0 (Lk.t rfl) ag28 rfl rfl rfl) <| .cons (.tmp (Lk.t rfl)) <| .nil) (sb_trans (sb_res (.cons (sb_agg (.cons sb_refl <| .cons sb_refl <| .cons (sb_nil (mk := flp)) <| .nil)) <| .cons sb_refl <| .nil)) ?_)
    exact ret_M (by unfold outR orR; exact (if_neg h1).symm)
  · have h1' := h1
    try simp only [cmpB, Bool.and_eq_true, Bool.or_eq_true, Bool.and_eq_false_iff, Bool.or_eq_false_iff, Bool.not_eq_true', Bool.not_eq_false', Bool.not_eq_true, Bool.not_eq_false, decide_eq_true_eq, decide_eq_false_iff_not, Int.not_lt, Int.not_le, beq_iff_eq, bne_iff_ne, beq_eq_false_iff_ne, bne_eq_false_iff_eq, ne_eq, Decidable.not_not] at h1
    have hs0 := outE_good h1
    refine J_skip ?_
    refine JN_then ?_
    refine J_to (To.freeze 0 (fun _ h => h) rfl frz_blk rfl) ?_
    refine J_to (To.freeze 1 (fun _ h => h) rfl frz_blk rfl) ?_
    refine J_seq (J_reg [] (
        .cons (.no) _ _ (op_load_sc sc26 (Lk.sub (sb_ok 1 1 rfl rfl) (Lk.t rfl)) rfl) <|
        .cons (.no) _ _ (op_len_m sl26 (Lk.t rfl)) <|
        .cons (.no) _ _ (op_load_sc sc26 (Lk.sub (sb_ok 0 1 rfl rfl) (Lk.t rfl)) rfl) <|
        .cons (.no) _ _ (op_len_m sl26 (Lk.t rfl)) <|
        .cons (.no) _ _ (op_makeFunc (C := Pl (xs.length : Int) (ys.length : Int)) (g := fun i j => flp (fmul (xs.getD i.toNat 0) (ys.getD j.toNat 0))) (fun i j hC => out1_ok hC) ⟨(Lk.sub (sb_ok 1 1 rfl rfl) (Lk.t rfl)), (Lk.sub (sb_ok 0 1 rfl rfl) (Lk.t rfl)),  trivial⟩ out1_ok_has) <|
        .cons (.no) _ _ (op_call (fill_ok hs0) ⟨(Lk.t rfl), (Lk.t rfl), (Lk.t rfl),  trivial⟩) <|
        .cons (.no) _ _ (op_call (told_ok) ⟨(Lk.t rfl),  trivial⟩) <|
        .cons (.no) _ _ (op_extract (Lk.t rfl) rfl) <|
        .cons (.no) _ _ (op_extract (Lk.t rfl) rfl) <|
        .cons (.wr 2) _ _ (op_store_b 2 (Lk.t rfl) (Lk.t rfl) co_agg sz28 rfl rfl rfl) <|
        .cons (.no) _ _ (op_assign (Lk.t rfl)) <|
        .nil) ff rfl fun g5 => ⟨_, _, [2], rfl, (.cons 4 rfl <| .cons 5 rfl <| .nil), (.cons 2 rfl <| .nil), ?_⟩)
    refine JN_then ?_
    refine J_ret ?_
    refine JN_ret (.cons (.ag 0 (Lk.t rfl) ag28 rfl rfl rfl) <| .cons (.tmp (Lk.t rfl)) <| .nil) (sb_trans (sb_res (.cons sb_refl <| .cons sb_refl <| .nil)) ?_)
    exact ret_M (by unfold outR orR; exact (if_pos h1).symm)
theorem num_ok {x : Nat} : Ct Try.prog 129 [flp x] (resN (numR x)) := by
  refine Ct.of Try.func129 rfl (by kernel_rfl) rfl fun c0 => ?_
  refine J_seq (J_reg [] (
      .cons (.no) _ _ (op_assign (Lk.fk rfl (by decide +kernel))) <|
      .cons (.no) _ _ (op_assign (Lk.k rfl)) <|
      .nil) ff rfl fun g1 => ⟨_, _, [], rfl, (.cons 0 rfl <| .nil), (.nil), ?_⟩)
  refine JN_then ?_
  refine J_seq ?_
  refine J_seq (J_reg [] (
      .cons (.no) _ _ (op_move (Lk.t rfl)) <|
      .cons (.no) _ _ (op_move (Lk.t rfl)) <|
      .cons (.no) _ _ (op_float (by simp) (Lk.t rfl) (Lk.t rfl) rfl) <|
      .cons (.no) _ _ (op_fcmp (by simp) (Lk.t rfl) (Lk.fk rfl (by decide +kernel)) rfl) <|
      .nil) ff rfl fun g2 => ⟨_, _, [], rfl, (.cons 0 rfl <| .cons 7 rfl <| .nil), (.nil), ?_⟩)
  refine JN_then ?_
  refine J_cond (cond_of (Lk.t rfl)) (fun h1 => ?_) (fun h1 => ?_)
  · have h1' := h1
    try simp only [cmpB, Bool.and_eq_true, Bool.or_eq_true, Bool.and_eq_false_iff, Bool.or_eq_false_iff, Bool.not_eq_true', Bool.not_eq_false', Bool.not_eq_true, Bool.not_eq_false, decide_eq_true_eq, decide_eq_false_iff_not, Int.not_lt, Int.not_le, beq_iff_eq, bne_iff_ne, beq_eq_false_iff_ne, bne_eq_false_iff_eq, ne_eq, Decidable.not_not] at h1
    refine J_seq (J_reg [] (
        .cons (.no) _ _ (op_assign (Lk.fk rfl (by decide +kernel))) <|
        .cons (.no) _ _ (op_assign (Lk.k rfl)) <|
        .nil) ff rfl fun g3 => ⟨_, _, [], rfl, (.cons 2 rfl <| .cons 3 rfl <| .nil), (.nil), ?_⟩)
    refine JN_then ?_
    refine J_ret ?_
    refine JN_then_ret ?_
    refine JN_ret (.cons (.tmp (Lk.t rfl)) <| .cons (.tmp (Lk.t rfl)) <| .nil) (sb_trans (sb_res (.cons sb_refl <| .cons sb_refl <| .nil)) ?_)
    exact ret_N (by unfold numR; rw [if_pos (show fcmp .neq (fsub x x) 0 = true from h1')]; rfl)
  · have h1' := h1
    try simp only [cmpB, Bool.and_eq_true, Bool.or_eq_true, Bool.and_eq_false_iff, Bool.or_eq_false_iff, Bool.not_eq_true', Bool.not_eq_false', Bool.not_eq_true, Bool.not_eq_false, decide_eq_true_eq, decide_eq_false_iff_not, Int.not_lt, Int.not_le, beq_iff_eq, bne_iff_ne, beq_eq_false_iff_ne, bne_eq_false_iff_eq, ne_eq, Decidable.not_not] at h1
    refine J_skip ?_
    refine JN_then ?_
    refine J_seq (J_reg [] (
        .cons (.no) _ _ (op_move (Lk.t rfl)) <|
        .cons (.no) _ _ (op_assign (Lk.t rfl)) <|
        .cons (.no) _ _ (op_assign (Lk.k rfl)) <|
        .nil) ff rfl fun g4 => ⟨_, _, [], rfl, (.cons 2 rfl <| .cons 3 rfl <| .nil), (.nil), ?_⟩)
    refine JN_then ?_
    refine J_ret ?_
    refine JN_ret (.cons (.tmp (Lk.t rfl)) <| .cons (.tmp (Lk.t rfl)) <| .nil) (sb_trans (sb_res (.cons sb_refl <| .cons sb_refl <| .nil)) ?_)
    exact ret_N (by unfold numR; rw [if_neg (by rw [show fcmp .neq (fsub x x) 0 = false from h1']; decide)])
theorem Dot_ok {xs ys : List Nat} : Ct Try.prog 58 [fls xs, fls ys] (resN (dotR xs ys)) := by
  refine Ct.of Try.func58 rfl (by kernel_rfl) rfl fun c0 => ?_
  refine J_seq (J_reg [] (
      .cons (.no) _ _ (op_assign (Lk.fk rfl (by decide +kernel))) <|
      .cons (.no) _ _ (op_assign (Lk.k rfl)) <|
      .nil) ff rfl fun g1 => ⟨_, _, [], rfl, (.cons 0 rfl <| .cons 1 rfl <| .nil), (.nil), ?_⟩)
  refine JN_then ?_
  refine J_seq ?_
  refine J_seq (J_reg [] (
      .cons (.no) _ _ (op_move (Lk.t rfl)) <|
      .cons (.no) _ _ (op_call (list_ok) ⟨(Lk.t rfl),  trivial⟩) <|
      .cons (.no) _ _ (op_move (Lk.t rfl)) <|
      .cons (.no) _ _ (op_call (list_ok) ⟨(Lk.t rfl),  trivial⟩) <|
      .cons (.no) _ _ (op_move (Lk.t rfl)) <|
      .cons (.no) _ _ (op_len_m sl26 (Lk.t rfl)) <|
      .cons (.no) _ _ (op_move (Lk.t rfl)) <|
      .cons (.no) _ _ (op_len_m sl26 (Lk.t rfl)) <|
      .cons (.no) _ _ (op_cmp (by simp) (Lk.t rfl) (Lk.t rfl) rfl) <|
      .cons (.no) _ _ (op_call (when_ok) ⟨(Lk.t rfl), (Lk.k rfl),  trivial⟩) <|
      .cons (.no) _ _ (op_buildSlice sl142 zr30 rfl rfl rfl rfl (.cons rfl (Lk.t rfl) co_isv rfl (puts_l rfl (Nat.le_of_ble_eq_true rfl)) (.cons rfl (Lk.t rfl) co_isv rfl (puts_l rfl (Nat.le_of_ble_eq_true rfl)) (.cons rfl (Lk.t rfl) co_isv rfl (puts_l rfl (Nat.le_of_ble_eq_true rfl)) .nil)))) <|
      .cons (.no) _ _ (op_call (first_ok3) ⟨(Lk.t rfl),  trivial⟩) <|
      .cons (.no) _ _ (op_assign (Lk.t rfl)) <|
      .nil) ff rfl fun g2 => ⟨_, _, [], rfl, (.cons 0 rfl <| .cons 1 rfl <| .cons 6 rfl <| .nil), (.nil), ?_⟩)
  refine JN_then ?_
  refine J_seq (J_reg [] (
      .cons (.no) _ _ (op_move (Lk.t rfl)) <|
      .cons (.no) _ _ (op_cmp (by simp) (Lk.t rfl) (Lk.k rfl) rfl) <|
      .nil) ff rfl fun g3 => ⟨_, _, [], rfl, (.cons 0 rfl <| .cons 1 rfl <| .cons 6 rfl <| .cons 20 rfl <| .nil), (.nil), ?_⟩)
  refine JN_then ?_
  refine J_cond (cond_of (Lk.t rfl)) (fun h1 => ?_) (fun h1 => ?_)
  · have h1' := h1
    try simp only [cmpB, Bool.and_eq_true, Bool.or_eq_true, Bool.and_eq_false_iff, Bool.or_eq_false_iff, Bool.not_eq_true', Bool.not_eq_false', Bool.not_eq_true, Bool.not_eq_false, decide_eq_true_eq, decide_eq_false_iff_not, Int.not_lt, Int.not_le, beq_iff_eq, bne_iff_ne, beq_eq_false_iff_ne, bne_eq_false_iff_eq, ne_eq, Decidable.not_not] at h1
    refine J_seq (J_reg [] (
        .cons (.no) _ _ (op_move (Lk.t rfl)) <|
        .cons (.no) _ _ (op_assign (Lk.fk rfl (by decide +kernel))) <|
        .cons (.no) _ _ (op_assign (Lk.t rfl)) <|
        .nil) ff rfl fun g4 => ⟨_, _, [], rfl, (.cons 4 rfl <| .cons 5 rfl <| .nil), (.nil), ?_⟩)
    refine JN_then ?_
    refine J_ret ?_
    refine JN_then_ret ?_
    refine JN_ret (.cons (.tmp (Lk.t rfl)) <| .cons (.tmp (Lk.t rfl)) <| .nil) (sb_trans (sb_res (.cons sb_refl <| .cons sb_refl <| .nil)) ?_)
    exact ret_N (by unfold dotR orN; exact (if_neg h1).symm)
  · have h1' := h1
    try simp only [cmpB, Bool.and_eq_true, Bool.or_eq_true, Bool.and_eq_false_iff, Bool.or_eq_false_iff, Bool.not_eq_true', Bool.not_eq_false', Bool.not_eq_true, Bool.not_eq_false, decide_eq_true_eq, decide_eq_false_iff_not, Int.not_lt, Int.not_le, beq_iff_eq, bne_iff_ne, beq_eq_false_iff_ne, bne_eq_false_iff_eq, ne_eq, Decidable.not_not] at h1
    obtain ⟨hl, _⟩ := dotE_good h1
    refine J_skip ?_
    refine JN_then ?_
    refine J_seq (J_reg [] (
        .cons (.no) _ _ (op_move (Lk.t rfl)) <|
        .cons (.no) _ _ (op_move (Lk.t rfl)) <|
        .cons (.no) _ _ (op_call (dot_ok (by omega)) ⟨(Lk.t rfl), (Lk.t rfl),  trivial⟩) <|
        .cons (.no) _ _ (op_call (num_ok) ⟨(Lk.t rfl),  trivial⟩) <|
        .cons (.no) _ _ (op_extract (Lk.t rfl) rfl) <|
        .cons (.no) _ _ (op_extract (Lk.t rfl) rfl) <|
        .cons (.no) _ _ (op_assign (Lk.t rfl)) <|
        .cons (.no) _ _ (op_assign (Lk.t rfl)) <|
        .nil) ff rfl fun g5 => ⟨_, _, [], rfl, (.cons 4 rfl <| .cons 5 rfl <| .nil), (.nil), ?_⟩)
    refine JN_then ?_
    refine J_ret ?_
    refine JN_ret (.cons (.tmp (Lk.t rfl)) <| .cons (.tmp (Lk.t rfl)) <| .nil) (sb_trans (sb_res (.cons sb_refl <| .cons sb_refl <| .nil)) ?_)
    exact ret_N (by unfold dotR orN; exact (if_pos h1).symm)
theorem lnum_ok {x y : Nat} {e n : Int} (hx : nanB x = false) : Ct Try.prog 60 [flp x, isv (.int .i64 e), flp y, isv (.int .i64 n)] (isv (.bool (numB ⟨x, e⟩ ⟨y, n⟩))) := by
  refine Ct.of Try.func60 rfl (by kernel_rfl) rfl fun c0 => ?_
  refine J_seq (J_reg [] (
      .cons (.no) _ _ (op_assign (Lk.k rfl)) <|
      .nil) ff rfl fun g1 => ⟨_, _, [], rfl, (.cons 0 rfl <| .cons 1 rfl <| .cons 2 rfl <| .cons 3 rfl <| .nil), (.nil), ?_⟩)
  refine JN_then ?_
  refine J_seq ?_
  refine J_seq (J_reg [] (
      .cons (.no) _ _ (op_move (Lk.t rfl)) <|
      .cons (.no) _ _ (op_cmp (by simp) (Lk.t rfl) (Lk.k rfl) rfl) <|
      .nil) ff rfl fun g2 => ⟨_, _, [], rfl, (.cons 0 rfl <| .cons 1 rfl <| .cons 2 rfl <| .cons 3 rfl <| .cons 10 rfl <| .nil), (.nil), ?_⟩)
  refine JN_then ?_
  refine J_cond (cond_of (Lk.t rfl)) (fun h1 => ?_) (fun h1 => ?_)
  · have h1' := h1
    try simp only [cmpB, Bool.and_eq_true, Bool.or_eq_true, Bool.and_eq_false_iff, Bool.or_eq_false_iff, Bool.not_eq_true', Bool.not_eq_false', Bool.not_eq_true, Bool.not_eq_false, decide_eq_true_eq, decide_eq_false_iff_not, Int.not_lt, Int.not_le, beq_iff_eq, bne_iff_ne, beq_eq_false_iff_ne, bne_eq_false_iff_eq, ne_eq, Decidable.not_not] at h1
    refine J_seq (J_reg [] (
        .cons (.no) _ _ (op_move (Lk.t rfl)) <|
        .cons (.no) _ _ (op_move (Lk.t rfl)) <|
        .cons (.no) _ _ (op_cmp (by simp) (Lk.t rfl) (Lk.t rfl) rfl) <|
        .cons (.no) _ _ (op_move (Lk.t rfl)) <|
        .cons (.no) _ _ (op_guard rfl rfl (gd_b rfl) (fun hC => (op_move (Lk.t rfl)))) <|
        .cons (.no) _ _ (op_guard rfl rfl (gd_b rfl) (fun hC => (op_call (lsame_ok hx) ⟨(Lk.w rfl hC), (Lk.fk rfl (by decide +kernel)),  trivial⟩))) <|
        .cons (.no) _ _ (op_and (Lk.t rfl) (fun h2 => (Lk.w rfl h2))) <|
        .cons (.no) _ _ (op_assign (Lk.t rfl)) <|
        .nil) ff rfl fun g3 => ⟨_, _, [], rfl, (.cons 8 rfl <| .nil), (.nil), ?_⟩)
    refine JN_then ?_
    refine J_ret ?_
    refine JN_then_ret ?_
    refine JN_ret (.cons (.tmp (Lk.t rfl)) <| .nil) (sb_trans (sb_res1 sb_refl) ?_)
    exact ret_b (by unfold numB; rw [if_pos h1]; rfl)
  · have h1' := h1
    try simp only [cmpB, Bool.and_eq_true, Bool.or_eq_true, Bool.and_eq_false_iff, Bool.or_eq_false_iff, Bool.not_eq_true', Bool.not_eq_false', Bool.not_eq_true, Bool.not_eq_false, decide_eq_true_eq, decide_eq_false_iff_not, Int.not_lt, Int.not_le, beq_iff_eq, bne_iff_ne, beq_eq_false_iff_ne, bne_eq_false_iff_eq, ne_eq, Decidable.not_not] at h1
    refine J_skip ?_
    refine JN_then ?_
    refine J_seq (J_reg [] (
        .cons (.no) _ _ (op_move (Lk.t rfl)) <|
        .cons (.no) _ _ (op_move (Lk.t rfl)) <|
        .cons (.no) _ _ (op_cmp (by simp) (Lk.t rfl) (Lk.t rfl) rfl) <|
        .cons (.no) _ _ (op_move (Lk.t rfl)) <|
        .cons (.no) _ _ (op_guard rfl rfl (gd_b rfl) (fun hC => (op_move (Lk.t rfl)))) <|
        .cons (.no) _ _ (op_guard rfl rfl (gd_b rfl) (fun hC => (op_move (Lk.t rfl)))) <|
        .cons (.no) _ _ (op_guard rfl rfl (gd_b rfl) (fun hC => (op_call (lsame_ok hx) ⟨(Lk.w rfl hC), (Lk.w rfl hC),  trivial⟩))) <|
        .cons (.no) _ _ (op_and (Lk.t rfl) (fun h2 => (Lk.w rfl h2))) <|
        .cons (.no) _ _ (op_assign (Lk.t rfl)) <|
        .nil) ff rfl fun g4 => ⟨_, _, [], rfl, (.cons 8 rfl <| .nil), (.nil), ?_⟩)
    refine JN_then ?_
    refine J_ret ?_
    refine JN_ret (.cons (.tmp (Lk.t rfl)) <| .nil) (sb_trans (sb_res1 sb_refl) ?_)
    exact ret_b (by unfold numB; rw [if_neg (by simpa using h1)]; rfl)
end Go.Proofs.Ytdnemaecalghbaa
