/- Printed by a program of ours (walk.py): walks of sums, multiples, outer products, and of MatrixSums. -/
import Derived.Test.YtmakephdanbmaaaKb
import Derived.Test.YtmakephdanbmaaaProg
import Derived.KernelRfl
import Derived.Test.YtmakephdanbmaaaTypes
import Derived.Test.YtmakephdanbmaaaWOwn
import Derived.Test.YtmakephdanbmaaaKc
set_option linter.unusedVariables false
set_option linter.unusedSimpArgs false
set_option maxRecDepth 20000
set_option maxHeartbeats 1000000
namespace Go.Proofs.Ytmakephdanbmaaa
open Go Go.Bn
attribute [local irreducible] OpOK
theorem scl1_ok_has : Has Try.prog 92 := ⟨_, Try.func92, rfl, by kernel_rfl⟩
theorem scl1_ok {r c i j : Int} {xs : List Nat} {s : Nat} (hg : Good r c xs) (hp : Pl r c i j) : Ct Try.prog 92 [isv (.int .i64 i), isv (.int .i64 j), ptp [isv (.int .i64 r), isv (.int .i64 c), fls xs], ptp [flp s]] (flp (fmul (mat c xs i j) s)) := by
  refine Ct.of Try.func92 rfl (by kernel_rfl) rfl fun c0 => ?_
  refine J_seq (J_reg [] (
      .cons (.no) _ _ (op_assign (Lk.fk rfl (by decide +kernel))) <|
      .nil) ff rfl fun g1 => ⟨_, _, [], rfl, (.cons 0 rfl <| .cons 1 rfl <| .cons 2 rfl <| .cons 3 rfl <| .nil), (.nil), ?_⟩)
  refine JN_then ?_
  refine J_seq (J_reg [[], [], [], [0, 1, 2], [], [0, 1, 2, 3, 4], [0, 1, 2, 3, 4, 5]] (
      .cons (.no) _ _ (op_load_ag ag28 (Lk.t rfl) rfl rfl) <|
      .cons (.no) _ _ (op_move (Lk.t rfl)) <|
      .cons (.no) _ _ (op_move (Lk.t rfl)) <|
      .cons (.no) _ _ (op_call (at_ok hg hp) ⟨(Lk.t rfl), (Lk.t rfl), (Lk.t rfl),  trivial⟩) <|
      .cons (.no) _ _ (op_load_sc sc37 (Lk.t rfl) rfl) <|
      .cons (.no) _ _ (op_float (by simp) (Lk.t rfl) (Lk.t rfl) rfl) <|
      .cons (.no) _ _ (op_assign (Lk.t rfl)) <|
      .nil) (fun _ => mixed) rfl fun g2 => ⟨_, _, [], rfl, (.cons 6 rfl <| .nil), (.nil), ?_⟩)
  refine JN_then ?_
  refine J_ret ?_
  refine JN_ret (.cons (.tmp (Lk.t rfl)) <| .nil) (sb_trans (sb_res1 sb_refl) ?_)
  exact sb_refl
theorem scl_ok {r c : Int} {xs : List Nat} {s : Nat} : Ct Try.prog 58 [MatP r c xs, flp s] (resM (sclR r c xs s)) := by
  refine Ct.of Try.func58 rfl (by kernel_rfl) rfl fun c0 => ?_
  refine J_to (To.emps 3) ?_
  refine J_seq (J_reg [] (
      .cons (.wr 0) _ _ (op_box 0 (Lk.t rfl) co_agg rfl) <|
      .cons (.wr 1) _ _ (op_box 1 (Lk.t rfl) co_flp rfl) <|
      .cons (.wr 2) _ _ (op_alloc 2 zr28 rfl rfl) <|
      .cons (.no) _ _ (op_assign (Lk.k rfl)) <|
      .nil) ff rfl fun g1 => ⟨_, _, [0, 1, 2], rfl, (.cons 2 rfl <| .cons 3 rfl <| .cons 4 rfl <| .nil), (.cons 0 rfl <| .cons 1 rfl <| .cons 2 rfl <| .nil), ?_⟩)
  refine JN_then ?_
  refine J_seq ?_
  refine J_seq (J_reg [[], [0], [], [], [2, 3], [2, 3, 4], [0, 1, 2, 3, 4, 5], [0, 1, 2, 3, 4, 5, 6], [0, 1, 2, 3, 4, 5, 6, 7], [0, 1, 2, 3, 4, 5, 6, 7, 8]] (
      .cons (.rd 0) _ _ (op_get_ag 0 ag28 (Lk.t rfl) rfl mem_blk rfl rfl) <|
      .cons (.no) _ _ (op_call (chk_ok) ⟨(Lk.t rfl),  trivial⟩) <|
      .cons (.rd 1) _ _ (op_get_sc 1 sc37 (Lk.t rfl) rfl mem_blk rfl) <|
      .cons (.rd 1) _ _ (op_get_sc 1 sc37 (Lk.t rfl) rfl mem_blk rfl) <|
      .cons (.no) _ _ (op_float (by simp) (Lk.t rfl) (Lk.t rfl) rfl) <|
      .cons (.no) _ _ (op_fcmp (by simp) (Lk.t rfl) (Lk.fk rfl (by decide +kernel)) rfl) <|
      .cons (.no) _ _ (op_call (when_ok) ⟨(Lk.t rfl), (Lk.k rfl),  trivial⟩) <|
      .cons (.no) _ _ (op_buildSlice sl86 zr30 rfl rfl rfl rfl (.cons rfl (Lk.t rfl) co_isv rfl (puts_l rfl (Nat.le_of_ble_eq_true rfl)) (.cons rfl (Lk.t rfl) co_isv rfl (puts_l rfl (Nat.le_of_ble_eq_true rfl)) .nil))) <|
      .cons (.no) _ _ (op_call (first_ok2) ⟨(Lk.t rfl),  trivial⟩) <|
      .cons (.no) _ _ (op_assign (Lk.t rfl)) <|
      .nil) (fun _ => mixed) rfl fun g2 => ⟨_, _, [0, 1, 2], rfl, (.cons 2 rfl <| .cons 3 rfl <| .cons 4 rfl <| .cons 6 rfl <| .nil), (.cons 0 rfl <| .cons 1 rfl <| .cons 2 rfl <| .nil), ?_⟩)
  refine JN_then ?_
  refine J_seq (J_reg [] (
      .cons (.no) _ _ (op_move (Lk.t rfl)) <|
      .cons (.no) _ _ (op_cmp (by simp) (Lk.t rfl) (Lk.k rfl) rfl) <|
      .nil) ff rfl fun g3 => ⟨_, _, [0, 1, 2], rfl, (.cons 2 rfl <| .cons 3 rfl <| .cons 4 rfl <| .cons 6 rfl <| .cons 17 rfl <| .nil), (.cons 0 rfl <| .cons 1 rfl <| .cons 2 rfl <| .nil), ?_⟩)
  refine JN_then ?_
  refine J_cond (cond_of (Lk.t rfl)) (fun h1 => ?_) (fun h1 => ?_)
  · have h1' := h1
    try simp only [cmpB, Bool.and_eq_true, Bool.or_eq_true, Bool.and_eq_false_iff, Bool.or_eq_false_iff, Bool.not_eq_true', Bool.not_eq_false', Bool.not_eq_true, Bool.not_eq_false, decide_eq_true_eq, decide_eq_false_iff_not, Int.not_lt, Int.not_le, beq_iff_eq, bne_iff_ne, beq_eq_false_iff_ne, bne_eq_false_iff_eq, ne_eq, Decidable.not_not] at h1
    refine J_seq (J_reg [] (
        .cons (.no) _ _ (op_build zr28 rfl pl28 .nil) <|
        .cons (.no) _ _ (op_move (Lk.t rfl)) <|
        .cons (.wr 2) _ _ (op_store_b 2 (Lk.t rfl) (Lk.t rfl) co_agg sz28 rfl rfl rfl) <|
        .cons (.no) _ _ (op_assign (Lk.t rfl)) <|
        .nil) ff rfl fun g4 => ⟨_, _, [2], rfl, (.cons 4 rfl <| .cons 5 rfl <| .nil), (.cons 2 rfl <| .nil), ?_⟩)
    refine JN_then ?_
    refine J_ret ?_
    refine JN_then_ret ?_
    refine JN_ret (.cons (.ag 0 (Lk.t rfl) ag28 rfl rfl rfl) <| .cons (.tmp (Lk.t rfl)) <| .nil) (sb_trans (sb_res (.cons (sb_agg (.cons sb_refl <| .cons sb_refl <| .cons (sb_nil (mk := flp)) <| .nil)) <| .cons sb_refl <| .nil)) ?_)
    exact ret_M (by unfold sclR orR; exact (if_neg h1).symm)
  · have h1' := h1
    try simp only [cmpB, Bool.and_eq_true, Bool.or_eq_true, Bool.and_eq_false_iff, Bool.or_eq_false_iff, Bool.not_eq_true', Bool.not_eq_false', Bool.not_eq_true, Bool.not_eq_false, decide_eq_true_eq, decide_eq_false_iff_not, Int.not_lt, Int.not_le, beq_iff_eq, bne_iff_ne, beq_eq_false_iff_ne, bne_eq_false_iff_eq, ne_eq, Decidable.not_not] at h1
    have hg := chk_good (fst2.1 h1).1
    refine J_skip ?_
    refine JN_then ?_
    refine J_to (To.freeze 0 (fun _ h => h) rfl frz_blk rfl) ?_
    refine J_to (To.freeze 1 (fun _ h => h) rfl frz_blk rfl) ?_
    refine J_seq (J_reg [] (
        .cons (.no) _ _ (op_field_own fd28_0 (Lk.t rfl) rfl) <|
        .cons (.no) _ _ (op_load_sc sc3 (Lk.sub (sb_ok 1 1 rfl rfl) (Lk.t rfl)) rfl) <|
        .cons (.no) _ _ (op_field_own fd28_1 (Lk.t rfl) rfl) <|
        .cons (.no) _ _ (op_load_sc sc3 (Lk.sub (sb_ok 1 1 rfl rfl) (Lk.t rfl)) rfl) <|
        .cons (.no) _ _ (op_makeFunc (C := Pl r c) (g := fun i j => flp (fmul (mat c xs i j) s)) (fun i j hC => scl1_ok hg hC) ⟨(Lk.sub (sb_ok 1 3 rfl rfl) (Lk.t rfl)), (Lk.sub (sb_ok 0 1 rfl rfl) (Lk.t rfl)),  trivial⟩ scl1_ok_has) <|
        .cons (.no) _ _ (op_call (fill_ok hg.1) ⟨(Lk.t rfl), (Lk.t rfl), (Lk.t rfl),  trivial⟩) <|
        .cons (.no) _ _ (op_call (told_ok) ⟨(Lk.t rfl),  trivial⟩) <|
        .cons (.no) _ _ (op_extract (Lk.t rfl) rfl) <|
        .cons (.no) _ _ (op_extract (Lk.t rfl) rfl) <|
        .cons (.wr 2) _ _ (op_store_b 2 (Lk.t rfl) (Lk.t rfl) co_agg sz28 rfl rfl rfl) <|
        .cons (.no) _ _ (op_assign (Lk.t rfl)) <|
        .nil) ff rfl fun g5 => ⟨_, _, [2], rfl, (.cons 4 rfl <| .cons 5 rfl <| .nil), (.cons 2 rfl <| .nil), ?_⟩)
    refine JN_then ?_
    refine J_ret ?_
    refine JN_ret (.cons (.ag 0 (Lk.t rfl) ag28 rfl rfl rfl) <| .cons (.tmp (Lk.t rfl)) <| .nil) (sb_trans (sb_res (.cons sb_refl <| .cons sb_refl <| .nil)) ?_)
    exact ret_M (by unfold sclR orR; exact (if_pos h1).symm)
theorem out1_ok_has : Has Try.prog 93 := ⟨_, Try.func93, rfl, by kernel_rfl⟩
theorem out1_ok {i j : Int} {xs ys : List Nat} (hp : Pl (xs.length : Int) (ys.length : Int) i j) : Ct Try.prog 93 [isv (.int .i64 i), isv (.int .i64 j), ptp [fls xs], ptp [fls ys]] (flp (fmul (xs.getD i.toNat 0) (ys.getD j.toNat 0))) := by
  refine Ct.of Try.func93 rfl (by kernel_rfl) rfl fun c0 => ?_
  obtain ⟨hp1, hp2, hp3, hp4⟩ := hp
  refine J_seq (J_reg [] (
      .cons (.no) _ _ (op_assign (Lk.fk rfl (by decide +kernel))) <|
      .nil) ff rfl fun g1 => ⟨_, _, [], rfl, (.cons 0 rfl <| .cons 1 rfl <| .cons 2 rfl <| .cons 3 rfl <| .nil), (.nil), ?_⟩)
  refine JN_then ?_
  refine J_seq (J_reg [[], [], [0, 1], [0, 1, 2], [], [], [4, 5], [4, 5, 6], [0, 1, 2, 3, 4, 5, 6, 7], [0, 1, 2, 3, 4, 5, 6, 7, 8]] (
      .cons (.no) _ _ (op_load_sc sc26 (Lk.t rfl) rfl) <|
      .cons (.no) _ _ (op_move (Lk.t rfl)) <|
      .cons (.no) _ _ (op_index_m 0 sl26 (Lk.t rfl) (Lk.t rfl) (by omega) (by omega)) <|
      .cons (.no) _ _ (op_load_sc sc37 (Lk.t rfl) rfl) <|
      .cons (.no) _ _ (op_load_sc sc26 (Lk.t rfl) rfl) <|
      .cons (.no) _ _ (op_move (Lk.t rfl)) <|
      .cons (.no) _ _ (op_index_m 0 sl26 (Lk.t rfl) (Lk.t rfl) (by omega) (by omega)) <|
      .cons (.no) _ _ (op_load_sc sc37 (Lk.t rfl) rfl) <|
      .cons (.no) _ _ (op_float (by simp) (Lk.t rfl) (Lk.t rfl) rfl) <|
      .cons (.no) _ _ (op_assign (Lk.t rfl)) <|
      .nil) (fun _ => mixed) rfl fun g2 => ⟨_, _, [], rfl, (.cons 6 rfl <| .nil), (.nil), ?_⟩)
  refine JN_then ?_
  refine J_ret ?_
  refine JN_ret (.cons (.tmp (Lk.t rfl)) <| .nil) (sb_trans (sb_res1 sb_refl) ?_)
  exact sb_refl
theorem out_ok {xs ys : List Nat} : Ct Try.prog 59 [fls xs, fls ys] (resM (outR xs ys)) := by
  refine Ct.of Try.func59 rfl (by kernel_rfl) rfl fun c0 => ?_
  refine J_to (To.emps 3) ?_
  refine J_seq (J_reg [] (
      .cons (.wr 0) _ _ (op_box 0 (Lk.t rfl) co_slm rfl) <|
      .cons (.wr 1) _ _ (op_box 1 (Lk.t rfl) co_slm rfl) <|
      .cons (.wr 2) _ _ (op_alloc 2 zr28 rfl rfl) <|
      .cons (.no) _ _ (op_assign (Lk.k rfl)) <|
      .nil) ff rfl fun g1 => ⟨_, _, [0, 1, 2], rfl, (.cons 2 rfl <| .cons 3 rfl <| .cons 4 rfl <| .nil), (.cons 0 rfl <| .cons 1 rfl <| .cons 2 rfl <| .nil), ?_⟩)
  refine JN_then ?_
  refine J_seq ?_
  refine J_seq (J_reg [[], [0], [], [0, 1, 2], [0, 1, 2, 3], [0, 1, 2, 3, 4], [0, 1, 2, 3, 4, 5]] (
      .cons (.rd 0) _ _ (op_get_sc 0 sc26 (Lk.t rfl) rfl mem_blk rfl) <|
      .cons (.no) _ _ (op_call (list_ok) ⟨(Lk.t rfl),  trivial⟩) <|
      .cons (.rd 1) _ _ (op_get_sc 1 sc26 (Lk.t rfl) rfl mem_blk rfl) <|
      .cons (.no) _ _ (op_call (list_ok) ⟨(Lk.t rfl),  trivial⟩) <|
      .cons (.no) _ _ (op_buildSlice sl86 zr30 rfl rfl rfl rfl (.cons rfl (Lk.t rfl) co_isv rfl (puts_l rfl (Nat.le_of_ble_eq_true rfl)) (.cons rfl (Lk.t rfl) co_isv rfl (puts_l rfl (Nat.le_of_ble_eq_true rfl)) .nil))) <|
      .cons (.no) _ _ (op_call (first_ok2) ⟨(Lk.t rfl),  trivial⟩) <|
      .cons (.no) _ _ (op_assign (Lk.t rfl)) <|
      .nil) (fun _ => mixed) rfl fun g2 => ⟨_, _, [0, 1, 2], rfl, (.cons 2 rfl <| .cons 3 rfl <| .cons 4 rfl <| .cons 6 rfl <| .nil), (.cons 0 rfl <| .cons 1 rfl <| .cons 2 rfl <| .nil), ?_⟩)
  refine JN_then ?_
  refine J_seq (J_reg [] (
      .cons (.no) _ _ (op_move (Lk.t rfl)) <|
      .cons (.no) _ _ (op_cmp (by simp) (Lk.t rfl) (Lk.k rfl) rfl) <|
      .nil) ff rfl fun g3 => ⟨_, _, [0, 1, 2], rfl, (.cons 2 rfl <| .cons 3 rfl <| .cons 4 rfl <| .cons 6 rfl <| .cons 14 rfl <| .nil), (.cons 0 rfl <| .cons 1 rfl <| .cons 2 rfl <| .nil), ?_⟩)
  refine JN_then ?_
  refine J_cond (cond_of (Lk.t rfl)) (fun h1 => ?_) (fun h1 => ?_)
  · have h1' := h1
    try simp only [cmpB, Bool.and_eq_true, Bool.or_eq_true, Bool.and_eq_false_iff, Bool.or_eq_false_iff, Bool.not_eq_true', Bool.not_eq_false', Bool.not_eq_true, Bool.not_eq_false, decide_eq_true_eq, decide_eq_false_iff_not, Int.not_lt, Int.not_le, beq_iff_eq, bne_iff_ne, beq_eq_false_iff_ne, bne_eq_false_iff_eq, ne_eq, Decidable.not_not] at h1
    refine J_seq (J_reg [] (
        .cons (.no) _ _ (op_build zr28 rfl pl28 .nil) <|
        .cons (.no) _ _ (op_move (Lk.t rfl)) <|
        .cons (.wr 2) _ _ (op_store_b 2 (Lk.t rfl) (Lk.t rfl) co_agg sz28 rfl rfl rfl) <|
        .cons (.no) _ _ (op_assign (Lk.t rfl)) <|
        .nil) ff rfl fun g4 => ⟨_, _, [2], rfl, (.cons 4 rfl <| .cons 5 rfl <| .nil), (.cons 2 rfl <| .nil), ?_⟩)
    refine JN_then ?_
    refine J_ret ?_
    refine JN_then_ret ?_
    refine JN_ret (.cons (.ag 0 (Lk.t rfl) ag28 rfl rfl rfl) <| .cons (.tmp (Lk.t rfl)) <| .nil) (sb_trans (sb_res (.cons (sb_agg (.cons sb_refl <| .cons sb_refl <| .cons (sb_nil (mk := flp)) <| .nil)) <| .cons sb_refl <| .nil)) ?_)
    exact ret_M (by unfold outR orR; exact (if_neg h1).symm)
  · have h1' := h1
    try simp only [cmpB, Bool.and_eq_true, Bool.or_eq_true, Bool.and_eq_false_iff, Bool.or_eq_false_iff, Bool.not_eq_true', Bool.not_eq_false', Bool.not_eq_true, Bool.not_eq_false, decide_eq_true_eq, decide_eq_false_iff_not, Int.not_lt, Int.not_le, beq_iff_eq, bne_iff_ne, beq_eq_false_iff_ne, bne_eq_false_iff_eq, ne_eq, Decidable.not_not] at h1
    have hs0 := outE_good h1
    refine J_skip ?_
    refine JN_then ?_
    refine J_to (To.freeze 0 (fun _ h => h) rfl frz_blk rfl) ?_
    refine J_to (To.freeze 1 (fun _ h => h) rfl frz_blk rfl) ?_
    refine J_seq (J_reg [] (
        .cons (.no) _ _ (op_load_sc sc26 (Lk.sub (sb_ok 1 1 rfl rfl) (Lk.t rfl)) rfl) <|
        .cons (.no) _ _ (op_len_m sl26 (Lk.t rfl)) <|
        .cons (.no) _ _ (op_load_sc sc26 (Lk.sub (sb_ok 0 1 rfl rfl) (Lk.t rfl)) rfl) <|
        .cons (.no) _ _ (op_len_m sl26 (Lk.t rfl)) <|
        .cons (.no) _ _ (op_makeFunc (C := Pl (xs.length : Int) (ys.length : Int)) (g := fun i j => flp (fmul (xs.getD i.toNat 0) (ys.getD j.toNat 0))) (fun i j hC => out1_ok hC) ⟨(Lk.sub (sb_ok 1 1 rfl rfl) (Lk.t rfl)), (Lk.sub (sb_ok 0 1 rfl rfl) (Lk.t rfl)),  trivial⟩ out1_ok_has) <|
        .cons (.no) _ _ (op_call (fill_ok hs0) ⟨(Lk.t rfl), (Lk.t rfl), (Lk.t rfl),  trivial⟩) <|
        .cons (.no) _ _ (op_call (told_ok) ⟨(Lk.t rfl),  trivial⟩) <|
        .cons (.no) _ _ (op_extract (Lk.t rfl) rfl) <|
        .cons (.no) _ _ (op_extract (Lk.t rfl) rfl) <|
        .cons (.wr 2) _ _ (op_store_b 2 (Lk.t rfl) (Lk.t rfl) co_agg sz28 rfl rfl rfl) <|
        .cons (.no) _ _ (op_assign (Lk.t rfl)) <|
        .nil) ff rfl fun g5 => ⟨_, _, [2], rfl, (.cons 4 rfl <| .cons 5 rfl <| .nil), (.cons 2 rfl <| .nil), ?_⟩)
    refine JN_then ?_
    refine J_ret ?_
    refine JN_ret (.cons (.ag 0 (Lk.t rfl) ag28 rfl rfl rfl) <| .cons (.tmp (Lk.t rfl)) <| .nil) (sb_trans (sb_res (.cons sb_refl <| .cons sb_refl <| .nil)) ?_)
    exact ret_M (by unfold outR orR; exact (if_pos h1).symm)
theorem num_ok {x : Nat} : Ct Try.prog 46 [flp x] (resN (numR x)) := by
  refine Ct.of Try.func46 rfl (by kernel_rfl) rfl fun c0 => ?_
  refine J_seq (J_reg [] (
      .cons (.no) _ _ (op_assign (Lk.fk rfl (by decide +kernel))) <|
      .cons (.no) _ _ (op_assign (Lk.k rfl)) <|
      .nil) ff rfl fun g1 => ⟨_, _, [], rfl, (.cons 0 rfl <| .nil), (.nil), ?_⟩)
  refine JN_then ?_
  refine J_seq ?_
  refine J_seq (J_reg [] (
      .cons (.no) _ _ (op_move (Lk.t rfl)) <|
      .cons (.no) _ _ (op_move (Lk.t rfl)) <|
      .cons (.no) _ _ (op_float (by simp) (Lk.t rfl) (Lk.t rfl) rfl) <|
      .cons (.no) _ _ (op_fcmp (by simp) (Lk.t rfl) (Lk.fk rfl (by decide +kernel)) rfl) <|
      .nil) ff rfl fun g2 => ⟨_, _, [], rfl, (.cons 0 rfl <| .cons 7 rfl <| .nil), (.nil), ?_⟩)
  refine JN_then ?_
  refine J_cond (cond_of (Lk.t rfl)) (fun h1 => ?_) (fun h1 => ?_)
  · have h1' := h1
    try simp only [cmpB, Bool.and_eq_true, Bool.or_eq_true, Bool.and_eq_false_iff, Bool.or_eq_false_iff, Bool.not_eq_true', Bool.not_eq_false', Bool.not_eq_true, Bool.not_eq_false, decide_eq_true_eq, decide_eq_false_iff_not, Int.not_lt, Int.not_le, beq_iff_eq, bne_iff_ne, beq_eq_false_iff_ne, bne_eq_false_iff_eq, ne_eq, Decidable.not_not] at h1
    refine J_seq (J_reg [] (
        .cons (.no) _ _ (op_assign (Lk.fk rfl (by decide +kernel))) <|
        .cons (.no) _ _ (op_assign (Lk.k rfl)) <|
        .nil) ff rfl fun g3 => ⟨_, _, [], rfl, (.cons 2 rfl <| .cons 3 rfl <| .nil), (.nil), ?_⟩)
    refine JN_then ?_
    refine J_ret ?_
    refine JN_then_ret ?_
    refine JN_ret (.cons (.tmp (Lk.t rfl)) <| .cons (.tmp (Lk.t rfl)) <| .nil) (sb_trans (sb_res (.cons sb_refl <| .cons sb_refl <| .nil)) ?_)
    exact ret_N (by unfold numR; rw [if_pos (show fcmp .neq (fsub x x) 0 = true from h1')]; rfl)
  · have h1' := h1
    try simp only [cmpB, Bool.and_eq_true, Bool.or_eq_true, Bool.and_eq_false_iff, Bool.or_eq_false_iff, Bool.not_eq_true', Bool.not_eq_false', Bool.not_eq_true, Bool.not_eq_false, decide_eq_true_eq, decide_eq_false_iff_not, Int.not_lt, Int.not_le, beq_iff_eq, bne_iff_ne, beq_eq_false_iff_ne, bne_eq_false_iff_eq, ne_eq, Decidable.not_not] at h1
    refine J_skip ?_
    refine JN_then ?_
    refine J_seq (J_reg [] (
        .cons (.no) _ _ (op_move (Lk.t rfl)) <|
        .cons (.no) _ _ (op_assign (Lk.t rfl)) <|
        .cons (.no) _ _ (op_assign (Lk.k rfl)) <|
        .nil) ff rfl fun g4 => ⟨_, _, [], rfl, (.cons 2 rfl <| .cons 3 rfl <| .nil), (.nil), ?_⟩)
    refine JN_then ?_
    refine J_ret ?_
    refine JN_ret (.cons (.tmp (Lk.t rfl)) <| .cons (.tmp (Lk.t rfl)) <| .nil) (sb_trans (sb_res (.cons sb_refl <| .cons sb_refl <| .nil)) ?_)
    exact ret_N (by unfold numR; rw [if_neg (by rw [show fcmp .neq (fsub x x) 0 = false from h1']; decide)])
theorem Dot_ok {xs ys : List Nat} : Ct Try.prog 17 [fls xs, fls ys] (resN (dotR xs ys)) := by
  refine Ct.of Try.func17 rfl (by kernel_rfl) rfl fun c0 => ?_
  refine J_seq (J_reg [] (
      .cons (.no) _ _ (op_assign (Lk.fk rfl (by decide +kernel))) <|
      .cons (.no) _ _ (op_assign (Lk.k rfl)) <|
      .nil) ff rfl fun g1 => ⟨_, _, [], rfl, (.cons 0 rfl <| .cons 1 rfl <| .nil), (.nil), ?_⟩)
  refine JN_then ?_
  refine J_seq ?_
  refine J_seq (J_reg [] (
      .cons (.no) _ _ (op_move (Lk.t rfl)) <|
      .cons (.no) _ _ (op_call (list_ok) ⟨(Lk.t rfl),  trivial⟩) <|
      .cons (.no) _ _ (op_move (Lk.t rfl)) <|
      .cons (.no) _ _ (op_call (list_ok) ⟨(Lk.t rfl),  trivial⟩) <|
      .cons (.no) _ _ (op_move (Lk.t rfl)) <|
      .cons (.no) _ _ (op_len_m sl26 (Lk.t rfl)) <|
      .cons (.no) _ _ (op_move (Lk.t rfl)) <|
      .cons (.no) _ _ (op_len_m sl26 (Lk.t rfl)) <|
      .cons (.no) _ _ (op_cmp (by simp) (Lk.t rfl) (Lk.t rfl) rfl) <|
      .cons (.no) _ _ (op_call (when_ok) ⟨(Lk.t rfl), (Lk.k rfl),  trivial⟩) <|
      .cons (.no) _ _ (op_buildSlice sl86 zr30 rfl rfl rfl rfl (.cons rfl (Lk.t rfl) co_isv rfl (puts_l rfl (Nat.le_of_ble_eq_true rfl)) (.cons rfl (Lk.t rfl) co_isv rfl (puts_l rfl (Nat.le_of_ble_eq_true rfl)) (.cons rfl (Lk.t rfl) co_isv rfl (puts_l rfl (Nat.le_of_ble_eq_true rfl)) .nil)))) <|
      .cons (.no) _ _ (op_call (first_ok3) ⟨(Lk.t rfl),  trivial⟩) <|
      .cons (.no) _ _ (op_assign (Lk.t rfl)) <|
      .nil) ff rfl fun g2 => ⟨_, _, [], rfl, (.cons 0 rfl <| .cons 1 rfl <| .cons 6 rfl <| .nil), (.nil), ?_⟩)
  refine JN_then ?_
  refine J_seq (J_reg [] (
      .cons (.no) _ _ (op_move (Lk.t rfl)) <|
      .cons (.no) _ _ (op_cmp (by simp) (Lk.t rfl) (Lk.k rfl) rfl) <|
      .nil) ff rfl fun g3 => ⟨_, _, [], rfl, (.cons 0 rfl <| .cons 1 rfl <| .cons 6 rfl <| .cons 20 rfl <| .nil), (.nil), ?_⟩)
  refine JN_then ?_
  refine J_cond (cond_of (Lk.t rfl)) (fun h1 => ?_) (fun h1 => ?_)
  · have h1' := h1
    try simp only [cmpB, Bool.and_eq_true, Bool.or_eq_true, Bool.and_eq_false_iff, Bool.or_eq_false_iff, Bool.not_eq_true', Bool.not_eq_false', Bool.not_eq_true, Bool.not_eq_false, decide_eq_true_eq, decide_eq_false_iff_not, Int.not_lt, Int.not_le, beq_iff_eq, bne_iff_ne, beq_eq_false_iff_ne, bne_eq_false_iff_eq, ne_eq, Decidable.not_not] at h1
    refine J_seq (J_reg [] (
        .cons (.no) _ _ (op_move (Lk.t rfl)) <|
        .cons (.no) _ _ (op_assign (Lk.fk rfl (by decide +kernel))) <|
        .cons (.no) _ _ (op_assign (Lk.t rfl)) <|
        .nil) ff rfl fun g4 => ⟨_, _, [], rfl, (.cons 4 rfl <| .cons 5 rfl <| .nil), (.nil), ?_⟩)
    refine JN_then ?_
    refine J_ret ?_
    refine JN_then_ret ?_
    refine JN_ret (.cons (.tmp (Lk.t rfl)) <| .cons (.tmp (Lk.t rfl)) <| .nil) (sb_trans (sb_res (.cons sb_refl <| .cons sb_refl <| .nil)) ?_)
    exact ret_N (by unfold dotR orN; exact (if_neg h1).symm)
  · have h1' := h1
    try simp only [cmpB, Bool.and_eq_true, Bool.or_eq_true, Bool.and_eq_false_iff, Bool.or_eq_false_iff, Bool.not_eq_true', Bool.not_eq_false', Bool.not_eq_true, Bool.not_eq_false, decide_eq_true_eq, decide_eq_false_iff_not, Int.not_lt, Int.not_le, beq_iff_eq, bne_iff_ne, beq_eq_false_iff_ne, bne_eq_false_iff_eq, ne_eq, Decidable.not_not] at h1
    obtain ⟨hl, _⟩ := dotE_good h1
    refine J_skip ?_
    refine JN_then ?_
    refine J_seq (J_reg [] (
        .cons (.no) _ _ (op_move (Lk.t rfl)) <|
        .cons (.no) _ _ (op_move (Lk.t rfl)) <|
        .cons (.no) _ _ (op_call (dot_ok (by omega)) ⟨(Lk.t rfl), (Lk.t rfl),  trivial⟩) <|
        .cons (.no) _ _ (op_call (num_ok) ⟨(Lk.t rfl),  trivial⟩) <|
        .cons (.no) _ _ (op_extract (Lk.t rfl) rfl) <|
        .cons (.no) _ _ (op_extract (Lk.t rfl) rfl) <|
        .cons (.no) _ _ (op_assign (Lk.t rfl)) <|
        .cons (.no) _ _ (op_assign (Lk.t rfl)) <|
        .nil) ff rfl fun g5 => ⟨_, _, [], rfl, (.cons 4 rfl <| .cons 5 rfl <| .nil), (.nil), ?_⟩)
    refine JN_then ?_
    refine J_ret ?_
    refine JN_ret (.cons (.tmp (Lk.t rfl)) <| .cons (.tmp (Lk.t rfl)) <| .nil) (sb_trans (sb_res (.cons sb_refl <| .cons sb_refl <| .nil)) ?_)
    exact ret_N (by unfold dotR orN; exact (if_pos h1).symm)
end Go.Proofs.Ytmakephdanbmaaa
