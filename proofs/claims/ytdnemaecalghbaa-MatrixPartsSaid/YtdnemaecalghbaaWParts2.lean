/- Printed by a program of ours (walk.py): the walk of MatrixParts. -/
import Derived.Test.YtdnemaecalghbaaTyp
import Derived.Test.YtdnemaecalghbaaProg
import Derived.KernelRfl
import Derived.Test.YtdnemaecalghbaaTypes
import Derived.Test.YtdnemaecalghbaaWParts
set_option linter.unusedVariables false
set_option linter.unusedSimpArgs false
set_option maxRecDepth 20000
set_option maxHeartbeats 1000000
namespace Go.Proofs.Ytdnemaecalghbaa
open Go Go.Bn
attribute [local irreducible] OpOK
theorem parts_ok {r c r' c' i j u v : Int} {bs cs : List Nat} {ps : List Int} (hb : GoodU bs) (hc : GoodU cs) (hp : (∀ z, z ∈ ps → (Lit.int .i64 z).wf = true) ∧ ps.length * 8 ≤ 140737488351232) : Ct Try.prog 12 [MatU r c bs, MatU r' c' cs, isv (.int .i64 i), isv (.int .i64 j), isv (.int .i64 u), isv (.int .i64 v), ils .i64 ps] (isv (.bool true)) := by
  refine Ct.of Try.func12 rfl (by kernel_rfl) rfl fun c0 => ?_
  have hp2 := hp.2
  refine J_to (To.emps 2) ?_
  refine J_seq (J_reg [] (
      .cons (.wr 0) _ _ (op_box 0 (Lk.t rfl) co_agg rfl) <|
      .cons (.wr 1) _ _ (op_box 1 (Lk.t rfl) co_agg rfl) <|
      .cons (.no) _ _ (op_assign (Lk.k rfl)) <|
      .nil) ff rfl fun g1 => ⟨_, _, [0, 1], rfl, (.cons 2 rfl <| .cons 3 rfl <| .cons 4 rfl <| .cons 5 rfl <| .cons 6 rfl <| .cons 7 rfl <| .cons 8 rfl <| .nil), (.cons 0 rfl <| .cons 1 rfl <| .nil), ?_⟩)
  refine JN_then ?_
  refine J_to (To.emps 2) ?_
  refine J_seq (J_reg [[], [0], [], [0, 1, 2], [], [], [0, 1, 2, 3, 4, 5], [0, 1, 2, 3, 4, 5, 6]] (
      .cons (.rd 0) _ _ (op_get_ag 0 ag24 (Lk.t rfl) rfl mem_blk rfl rfl) <|
      .cons (.no) _ _ (op_call (lof_ok (by assumption)) ⟨(Lk.t rfl),  trivial⟩) <|
      .cons (.rd 1) _ _ (op_get_ag 1 ag24 (Lk.t rfl) rfl mem_blk rfl rfl) <|
      .cons (.no) _ _ (op_call (lof_ok (by assumption)) ⟨(Lk.t rfl),  trivial⟩) <|
      .cons (.wr 2) _ _ (op_alloc 2 zr28 rfl rfl) <|
      .cons (.wr 3) _ _ (op_alloc 3 zr28 rfl rfl) <|
      .cons (.wr 2) _ _ (op_store_new 2 rfl (Lk.t rfl) co_agg sz28 rfl rfl) <|
      .cons (.wr 3) _ _ (op_store_new 3 rfl (Lk.t rfl) co_agg sz28 rfl rfl) <|
      .nil) (fun _ => mixed) rfl fun g2 => ⟨_, _, [0, 1, 2, 3], rfl, (.cons 2 rfl <| .cons 3 rfl <| .cons 4 rfl <| .cons 5 rfl <| .cons 6 rfl <| .cons 7 rfl <| .cons 8 rfl <| .cons 15 rfl <| .cons 16 rfl <| .nil), (.cons 0 rfl <| .cons 1 rfl <| .cons 2 rfl <| .cons 3 rfl <| .nil), ?_⟩)
  refine JN_then ?_
  refine J_seq (J_reg [] (
      .cons (.rd 2) _ _ (op_get_ag 2 ag28 (Lk.t rfl) rfl mem_blk rfl rfl) <|
      .cons (.no) _ _ (op_call (rchk_ok) ⟨(Lk.t rfl),  trivial⟩) <|
      .cons (.no) _ _ (op_assign (Lk.t rfl)) <|
      .nil) ff rfl fun g3 => ⟨_, _, [0, 1, 2, 3], rfl, (.cons 2 rfl <| .cons 3 rfl <| .cons 4 rfl <| .cons 5 rfl <| .cons 6 rfl <| .cons 7 rfl <| .cons 8 rfl <| .cons 15 rfl <| .cons 16 rfl <| .cons 17 rfl <| .nil), (.cons 0 rfl <| .cons 1 rfl <| .cons 2 rfl <| .cons 3 rfl <| .nil), ?_⟩)
  refine JN_then ?_
  refine J_seq (J_reg [] (
      .cons (.no) _ _ (op_move (Lk.t rfl)) <|
      .cons (.rd 3) _ _ (op_get_ag 3 ag28 (Lk.t rfl) rfl mem_blk rfl rfl) <|
      .cons (.no) _ _ (op_call (rchk_ok) ⟨(Lk.t rfl),  trivial⟩) <|
      .cons (.no) _ _ (op_buildSlice sl88 zr3 rfl rfl rfl rfl (.cons rfl (Lk.t rfl) co_isv rfl (puts_l rfl (Nat.le_of_ble_eq_true rfl)) (.cons rfl (Lk.t rfl) co_isv rfl (puts_l rfl (Nat.le_of_ble_eq_true rfl)) .nil))) <|
      .cons (.no) _ _ (op_call (rfirst_ok2) ⟨(Lk.t rfl),  trivial⟩) <|
      .cons (.no) _ _ (op_assign (Lk.t rfl)) <|
      .nil) ff rfl fun g4 => ⟨_, _, [0, 1, 2, 3], rfl, (.cons 2 rfl <| .cons 3 rfl <| .cons 4 rfl <| .cons 5 rfl <| .cons 6 rfl <| .cons 7 rfl <| .cons 8 rfl <| .cons 15 rfl <| .cons 16 rfl <| .cons 17 rfl <| .cons 18 rfl <| .nil), (.cons 0 rfl <| .cons 1 rfl <| .cons 2 rfl <| .cons 3 rfl <| .nil), ?_⟩)
  refine JN_then ?_
  refine J_to (To.emps 1) ?_
  refine J_seq (J_reg [] (
      .cons (.rd 0) _ _ (op_get_ag 0 ag24 (Lk.t rfl) rfl mem_blk rfl rfl) <|
      .cons (.no) _ _ (op_call (lof_ok (by assumption)) ⟨(Lk.t rfl),  trivial⟩) <|
      .cons (.no) _ _ (op_call (tr_ok) ⟨(Lk.t rfl),  trivial⟩) <|
      .cons (.no) _ _ (op_move (Lk.t rfl)) <|
      .cons (.no) _ _ (op_extract (Lk.t rfl) rfl) <|
      .cons (.no) _ _ (op_extract (Lk.t rfl) rfl) <|
      .cons (.wr 4) _ _ (op_alloc 4 zr28 rfl rfl) <|
      .cons (.wr 4) _ _ (op_store_new 4 rfl (Lk.t rfl) co_agg sz28 rfl rfl) <|
      .cons (.no) _ _ (op_assign (Lk.t rfl)) <|
      .nil) ff rfl fun g5 => ⟨_, _, [0, 1, 2, 3, 4], rfl, (.cons 2 rfl <| .cons 3 rfl <| .cons 4 rfl <| .cons 5 rfl <| .cons 6 rfl <| .cons 7 rfl <| .cons 8 rfl <| .cons 15 rfl <| .cons 16 rfl <| .cons 17 rfl <| .cons 18 rfl <| .cons 19 rfl <| .cons 20 rfl <| .nil), (.cons 0 rfl <| .cons 1 rfl <| .cons 2 rfl <| .cons 3 rfl <| .cons 4 rfl <| .nil), ?_⟩)
  refine JN_then ?_
  refine J_to (To.emps 1) ?_
  refine J_seq (J_reg [] (
      .cons (.wr 5) _ _ (op_alloc 5 zr28 rfl rfl) <|
      .nil) ff rfl fun g6 => ⟨_, _, [0, 1, 2, 3, 4, 5], rfl, (.cons 2 rfl <| .cons 3 rfl <| .cons 4 rfl <| .cons 5 rfl <| .cons 6 rfl <| .cons 7 rfl <| .cons 8 rfl <| .cons 15 rfl <| .cons 16 rfl <| .cons 17 rfl <| .cons 18 rfl <| .cons 19 rfl <| .cons 20 rfl <| .cons 21 rfl <| .nil), (.cons 0 rfl <| .cons 1 rfl <| .cons 2 rfl <| .cons 3 rfl <| .cons 4 rfl <| .cons 5 rfl <| .nil), ?_⟩)
  refine JN_then ?_
  refine J_seq ?_
  refine J_seq (J_reg [] (
      .cons (.no) _ _ (op_move (Lk.t rfl)) <|
      .cons (.no) _ _ (op_cmp (by simp) (Lk.t rfl) (Lk.k rfl) rfl) <|
      .nil) ff rfl fun g7 => ⟨_, _, [0, 1, 2, 3, 4, 5], rfl, (.cons 2 rfl <| .cons 3 rfl <| .cons 4 rfl <| .cons 5 rfl <| .cons 6 rfl <| .cons 7 rfl <| .cons 8 rfl <| .cons 15 rfl <| .cons 16 rfl <| .cons 17 rfl <| .cons 18 rfl <| .cons 19 rfl <| .cons 20 rfl <| .cons 21 rfl <| .cons 41 rfl <| .nil), (.cons 0 rfl <| .cons 1 rfl <| .cons 2 rfl <| .cons 3 rfl <| .cons 4 rfl <| .cons 5 rfl <| .nil), ?_⟩)
  refine JN_then ?_
  refine J_cond (cond_of (Lk.t rfl)) (fun h1 => ?_) (fun h1 => ?_)
  · have h1' := h1
    try simp only [cmpB, Bool.and_eq_true, Bool.or_eq_true, Bool.and_eq_false_iff, Bool.or_eq_false_iff, Bool.not_eq_true', Bool.not_eq_false', Bool.not_eq_true, Bool.not_eq_false, decide_eq_true_eq, decide_eq_false_iff_not, Int.not_lt, Int.not_le, beq_iff_eq, bne_iff_ne, beq_eq_false_iff_ne, bne_eq_false_iff_eq, ne_eq, Decidable.not_not] at h1
    have hg1 := chk_good h1
    refine (J_reg [] (
        .cons (.rd 2) _ _ (op_get_ag 2 ag28 (Lk.t rfl) rfl mem_blk rfl rfl) <|
        .cons (.no) _ _ (op_call (rtr_ok (by assumption)) ⟨(Lk.t rfl),  trivial⟩) <|
        .cons (.wr 5) _ _ (op_store_b 5 (Lk.t rfl) (Lk.t rfl) co_agg sz28 rfl rfl rfl) <|
        .nil) ff rfl fun g8 => ⟨_, _, [0, 1, 2, 3, 4, 5], rfl, (.cons 2 rfl <| .cons 3 rfl <| .cons 4 rfl <| .cons 5 rfl <| .cons 6 rfl <| .cons 7 rfl <| .cons 8 rfl <| .cons 15 rfl <| .cons 16 rfl <| .cons 17 rfl <| .cons 18 rfl <| .cons 19 rfl <| .cons 20 rfl <| .cons 21 rfl <| .nil), (.cons 0 rfl <| .cons 1 rfl <| .cons 2 rfl <| .cons 3 rfl <| .cons 4 rfl <| .cons 5 rfl <| .nil), ?_⟩)
    refine JN_then ?_
    refine J_seq ?_
    refine J_seq (J_reg [] (
        .cons (.rd 4) _ _ (op_get_ag 4 ag28 (Lk.t rfl) rfl mem_blk rfl rfl) <|
        .cons (.no) _ _ (op_move (Lk.t rfl)) <|
        .cons (.rd 5) _ _ (op_get_ag 5 ag28 (Lk.t rfl) rfl mem_blk rfl rfl) <|
        .cons (.no) _ _ (op_move (Lk.t rfl)) <|
        .cons (.no) _ _ (op_call (ltold_ok) ⟨(Lk.t rfl), (Lk.t rfl), (Lk.t rfl), (Lk.t rfl),  trivial⟩) <|
        .cons (.no) _ _ (op_not (Lk.t rfl)) <|
        .cons (.no) _ _ (op_move (Lk.t rfl)) <|
        .cons (.no) _ _ (op_guard rfl rfl (gd_b rfl) (fun hC => (op_call (awake_ok) trivial))) <|
        .cons (.no) _ _ (op_guard rfl rfl (gd_b rfl) (fun hC => (op_not (Lk.w rfl hC)))) <|
        .cons (.no) _ _ (op_or (Lk.t rfl) (fun h2 => (Lk.w rfl h2))) <|
        .nil) ff rfl fun g9 => ⟨_, _, [0, 1, 2, 3, 4, 5], rfl, (.cons 2 rfl <| .cons 3 rfl <| .cons 4 rfl <| .cons 5 rfl <| .cons 6 rfl <| .cons 7 rfl <| .cons 8 rfl <| .cons 15 rfl <| .cons 16 rfl <| .cons 17 rfl <| .cons 18 rfl <| .cons 19 rfl <| .cons 21 rfl <| .cons 53 rfl <| .nil), (.cons 0 rfl <| .cons 1 rfl <| .cons 2 rfl <| .cons 3 rfl <| .cons 4 rfl <| .cons 5 rfl <| .nil), ?_⟩)
    refine JN_then ?_
    refine J_cond (cond_of (Lk.t rfl)) (fun h2 => ?_) (fun h2 => ?_)
    · have h2' := h2
      try simp only [cmpB, Bool.and_eq_true, Bool.or_eq_true, Bool.and_eq_false_iff, Bool.or_eq_false_iff, Bool.not_eq_true', Bool.not_eq_false', Bool.not_eq_true, Bool.not_eq_false, decide_eq_true_eq, decide_eq_false_iff_not, Int.not_lt, Int.not_le, beq_iff_eq, bne_iff_ne, beq_eq_false_iff_ne, bne_eq_false_iff_eq, ne_eq, Decidable.not_not] at h2
      exact (dead_told h2' (tr_y h1) rfl).elim
    · have h2' := h2
      try simp only [cmpB, Bool.and_eq_true, Bool.or_eq_true, Bool.and_eq_false_iff, Bool.or_eq_false_iff, Bool.not_eq_true', Bool.not_eq_false', Bool.not_eq_true, Bool.not_eq_false, decide_eq_true_eq, decide_eq_false_iff_not, Int.not_lt, Int.not_le, beq_iff_eq, bne_iff_ne, beq_eq_false_iff_ne, bne_eq_false_iff_eq, ne_eq, Decidable.not_not] at h2
      refine J_skip ?_
      refine JN_then ?_
      refine J_seq (J_reg [] (
          .cons (.no) _ _ (op_move (Lk.t rfl)) <|
          .cons (.no) _ _ (op_assign (Lk.t rfl)) <|
          .nil) ff rfl fun g10 => ⟨_, _, [0, 1, 2, 3, 4, 5], rfl, (.cons 2 rfl <| .cons 3 rfl <| .cons 4 rfl <| .cons 5 rfl <| .cons 6 rfl <| .cons 7 rfl <| .cons 8 rfl <| .cons 15 rfl <| .cons 16 rfl <| .cons 17 rfl <| .cons 18 rfl <| .cons 19 rfl <| .cons 21 rfl <| .cons 22 rfl <| .nil), (.cons 0 rfl <| .cons 1 rfl <| .cons 2 rfl <| .cons 3 rfl <| .cons 4 rfl <| .cons 5 rfl <| .nil), ?_⟩)
      refine JN_then ?_
      refine J_seq (J_reg [] (
          .cons (.rd 0) _ _ (op_get_ag 0 ag24 (Lk.t rfl) rfl mem_blk rfl rfl) <|
          .cons (.no) _ _ (op_call (lof_ok (by assumption)) ⟨(Lk.t rfl),  trivial⟩) <|
          .cons (.no) _ _ (op_move (Lk.t rfl)) <|
          .cons (.no) _ _ (op_move (Lk.t rfl)) <|
          .cons (.no) _ _ (op_move (Lk.t rfl)) <|
          .cons (.no) _ _ (op_move (Lk.t rfl)) <|
          .cons (.no) _ _ (op_call (blk_ok) ⟨(Lk.t rfl), (Lk.t rfl), (Lk.t rfl), (Lk.t rfl), (Lk.t rfl),  trivial⟩) <|
          .cons (.no) _ _ (op_move (Lk.t rfl)) <|
          .cons (.no) _ _ (op_extract (Lk.t rfl) rfl) <|
          .cons (.no) _ _ (op_extract (Lk.t rfl) rfl) <|
          .cons (.wr 4) _ _ (op_store_b 4 (Lk.t rfl) (Lk.t rfl) co_agg sz28 rfl rfl rfl) <|
          .cons (.no) _ _ (op_assign (Lk.t rfl)) <|
          .nil) ff rfl fun g11 => ⟨_, _, [0, 1, 2, 3, 4, 5], rfl, (.cons 2 rfl <| .cons 3 rfl <| .cons 4 rfl <| .cons 5 rfl <| .cons 6 rfl <| .cons 7 rfl <| .cons 8 rfl <| .cons 15 rfl <| .cons 16 rfl <| .cons 17 rfl <| .cons 18 rfl <| .cons 19 rfl <| .cons 20 rfl <| .cons 21 rfl <| .cons 22 rfl <| .nil), (.cons 0 rfl <| .cons 1 rfl <| .cons 2 rfl <| .cons 3 rfl <| .cons 4 rfl <| .cons 5 rfl <| .nil), ?_⟩)
      refine JN_then ?_
      refine J_seq ?_
      refine J_seq (J_reg [] (
          .cons (.no) _ _ (op_move (Lk.t rfl)) <|
          .cons (.no) _ _ (op_cmp (by simp) (Lk.t rfl) (Lk.k rfl) rfl) <|
          .nil) ff rfl fun g12 => ⟨_, _, [0, 1, 2, 3, 4, 5], rfl, (.cons 2 rfl <| .cons 3 rfl <| .cons 4 rfl <| .cons 5 rfl <| .cons 6 rfl <| .cons 7 rfl <| .cons 8 rfl <| .cons 15 rfl <| .cons 16 rfl <| .cons 17 rfl <| .cons 18 rfl <| .cons 19 rfl <| .cons 20 rfl <| .cons 21 rfl <| .cons 22 rfl <| .cons 66 rfl <| .nil), (.cons 0 rfl <| .cons 1 rfl <| .cons 2 rfl <| .cons 3 rfl <| .cons 4 rfl <| .cons 5 rfl <| .nil), ?_⟩)
      refine JN_then ?_
      refine J_cond (cond_of (Lk.t rfl)) (fun h3 => ?_) (fun h3 => ?_)
      · have h3' := h3
        try simp only [cmpB, Bool.and_eq_true, Bool.or_eq_true, Bool.and_eq_false_iff, Bool.or_eq_false_iff, Bool.not_eq_true', Bool.not_eq_false', Bool.not_eq_true, Bool.not_eq_false, decide_eq_true_eq, decide_eq_false_iff_not, Int.not_lt, Int.not_le, beq_iff_eq, bne_iff_ne, beq_eq_false_iff_ne, bne_eq_false_iff_eq, ne_eq, Decidable.not_not] at h3
        refine (J_reg [] (
            .cons (.rd 2) _ _ (op_get_ag 2 ag28 (Lk.t rfl) rfl mem_blk rfl rfl) <|
            .cons (.no) _ _ (op_move (Lk.t rfl)) <|
            .cons (.no) _ _ (op_move (Lk.t rfl)) <|
            .cons (.no) _ _ (op_move (Lk.t rfl)) <|
            .cons (.no) _ _ (op_move (Lk.t rfl)) <|
            .cons (.no) _ _ (op_call (rblk_ok (by assumption)) ⟨(Lk.t rfl), (Lk.t rfl), (Lk.t rfl), (Lk.t rfl), (Lk.t rfl),  trivial⟩) <|
            .cons (.no) _ _ (op_move (Lk.t rfl)) <|
            .cons (.no) _ _ (op_extract (Lk.t rfl) rfl) <|
            .cons (.no) _ _ (op_extract (Lk.t rfl) rfl) <|
            .cons (.wr 5) _ _ (op_store_b 5 (Lk.t rfl) (Lk.t rfl) co_agg sz28 rfl rfl rfl) <|
            .cons (.no) _ _ (op_assign (Lk.t rfl)) <|
            .nil) ff rfl fun g13 => ⟨_, _, [0, 1, 2, 3, 4, 5], rfl, (.cons 6 rfl <| .cons 7 rfl <| .cons 8 rfl <| .cons 15 rfl <| .cons 16 rfl <| .cons 17 rfl <| .cons 18 rfl <| .cons 19 rfl <| .cons 20 rfl <| .cons 21 rfl <| .cons 22 rfl <| .nil), (.cons 0 rfl <| .cons 1 rfl <| .cons 2 rfl <| .cons 3 rfl <| .cons 4 rfl <| .cons 5 rfl <| .nil), ?_⟩)
        refine JN_then ?_
        refine J_seq ?_
        refine J_seq (J_reg [] (
            .cons (.rd 4) _ _ (op_get_ag 4 ag28 (Lk.t rfl) rfl mem_blk rfl rfl) <|
            .cons (.no) _ _ (op_move (Lk.t rfl)) <|
            .cons (.rd 5) _ _ (op_get_ag 5 ag28 (Lk.t rfl) rfl mem_blk rfl rfl) <|
            .cons (.no) _ _ (op_move (Lk.t rfl)) <|
            .cons (.no) _ _ (op_call (ltold_ok) ⟨(Lk.t rfl), (Lk.t rfl), (Lk.t rfl), (Lk.t rfl),  trivial⟩) <|
            .cons (.no) _ _ (op_not (Lk.t rfl)) <|
            .nil) ff rfl fun g14 => ⟨_, _, [0, 1, 2, 3, 4, 5], rfl, (.cons 6 rfl <| .cons 7 rfl <| .cons 8 rfl <| .cons 15 rfl <| .cons 16 rfl <| .cons 17 rfl <| .cons 18 rfl <| .cons 19 rfl <| .cons 21 rfl <| .cons 81 rfl <| .nil), (.cons 0 rfl <| .cons 1 rfl <| .cons 2 rfl <| .cons 3 rfl <| .cons 4 rfl <| .cons 5 rfl <| .nil), ?_⟩)
        refine JN_then ?_
        refine J_cond (cond_of (Lk.t rfl)) (fun h4 => ?_) (fun h4 => ?_)
        · have h4' := h4
          try simp only [cmpB, Bool.and_eq_true, Bool.or_eq_true, Bool.and_eq_false_iff, Bool.or_eq_false_iff, Bool.not_eq_true', Bool.not_eq_false', Bool.not_eq_true, Bool.not_eq_false, decide_eq_true_eq, decide_eq_false_iff_not, Int.not_lt, Int.not_le, beq_iff_eq, bne_iff_ne, beq_eq_false_iff_ne, bne_eq_false_iff_eq, ne_eq, Decidable.not_not] at h4
          exact (dead_told1 h4' (blk_y h3)).elim
        · have h4' := h4
          try simp only [cmpB, Bool.and_eq_true, Bool.or_eq_true, Bool.and_eq_false_iff, Bool.or_eq_false_iff, Bool.not_eq_true', Bool.not_eq_false', Bool.not_eq_true, Bool.not_eq_false, decide_eq_true_eq, decide_eq_false_iff_not, Int.not_lt, Int.not_le, beq_iff_eq, bne_iff_ne, beq_eq_false_iff_ne, bne_eq_false_iff_eq, ne_eq, Decidable.not_not] at h4
          refine J_skip ?_
          refine JN_then ?_
          refine J_seq (J_reg [] (
              .cons (.no) _ _ (op_move (Lk.t rfl)) <|
              .cons (.no) _ _ (op_assign (Lk.t rfl)) <|
              .nil) ff rfl fun g15 => ⟨_, _, [0, 1, 2, 3, 4, 5], rfl, (.cons 6 rfl <| .cons 7 rfl <| .cons 8 rfl <| .cons 15 rfl <| .cons 16 rfl <| .cons 17 rfl <| .cons 18 rfl <| .cons 19 rfl <| .cons 21 rfl <| .cons 22 rfl <| .nil), (.cons 0 rfl <| .cons 1 rfl <| .cons 2 rfl <| .cons 3 rfl <| .cons 4 rfl <| .cons 5 rfl <| .nil), ?_⟩)
          refine JN_then ?_
          refine J_to (To.emps 1) ?_
          refine J_seq (J_reg [] (
              .cons (.rd 0) _ _ (op_get_ag 0 ag24 (Lk.t rfl) rfl mem_blk rfl rfl) <|
              .cons (.no) _ _ (op_call (lof_ok (by assumption)) ⟨(Lk.t rfl),  trivial⟩) <|
              .cons (.no) _ _ (op_build0L sl88) <|
              .cons (.no) _ _ (op_move (Lk.t rfl)) <|
              .cons (.no) _ _ (op_append_e0 sl88 zr3 rfl (Lk.t rfl) (Lk.t rfl) (by omega) (by omega)) <|
              .cons (.no) _ _ (op_call (ord_ok) ⟨(Lk.t rfl), (Lk.t rfl),  trivial⟩) <|
              .cons (.no) _ _ (op_move (Lk.t rfl)) <|
              .cons (.no) _ _ (op_extract (Lk.t rfl) rfl) <|
              .cons (.no) _ _ (op_extract (Lk.t rfl) rfl) <|
              .cons (.wr 4) _ _ (op_store_b 4 (Lk.t rfl) (Lk.t rfl) co_agg sz28 rfl rfl rfl) <|
              .cons (.no) _ _ (op_assign (Lk.t rfl)) <|
              .nil) ff rfl fun g16 => ⟨_, _, [0, 1, 2, 3, 4, 5], rfl, (.cons 6 rfl <| .cons 7 rfl <| .cons 8 rfl <| .cons 15 rfl <| .cons 16 rfl <| .cons 17 rfl <| .cons 18 rfl <| .cons 19 rfl <| .cons 20 rfl <| .cons 21 rfl <| .cons 22 rfl <| .nil), (.cons 0 rfl <| .cons 1 rfl <| .cons 2 rfl <| .cons 3 rfl <| .cons 4 rfl <| .cons 5 rfl <| .nil), ?_⟩)
          refine JN_then ?_
          refine J_seq ?_
          refine J_seq (J_reg [] (
              .cons (.no) _ _ (op_move (Lk.t rfl)) <|
              .cons (.no) _ _ (op_cmp (by simp) (Lk.t rfl) (Lk.k rfl) rfl) <|
              .nil) ff rfl fun g17 => ⟨_, _, [0, 1, 2, 3, 4, 5], rfl, (.cons 6 rfl <| .cons 7 rfl <| .cons 8 rfl <| .cons 15 rfl <| .cons 16 rfl <| .cons 18 rfl <| .cons 19 rfl <| .cons 20 rfl <| .cons 21 rfl <| .cons 22 rfl <| .cons 93 rfl <| .nil), (.cons 0 rfl <| .cons 1 rfl <| .cons 2 rfl <| .cons 3 rfl <| .cons 4 rfl <| .cons 5 rfl <| .nil), ?_⟩)
          refine JN_then ?_
          refine J_cond (cond_of (Lk.t rfl)) (fun h5 => ?_) (fun h5 => ?_)
          · have h5' := h5
            try simp only [cmpB, Bool.and_eq_true, Bool.or_eq_true, Bool.and_eq_false_iff, Bool.or_eq_false_iff, Bool.not_eq_true', Bool.not_eq_false', Bool.not_eq_true, Bool.not_eq_false, decide_eq_true_eq, decide_eq_false_iff_not, Int.not_lt, Int.not_le, beq_iff_eq, bne_iff_ne, beq_eq_false_iff_ne, bne_eq_false_iff_eq, ne_eq, Decidable.not_not] at h5
            refine (J_reg [] (
                .cons (.rd 2) _ _ (op_get_ag 2 ag28 (Lk.t rfl) rfl mem_blk rfl rfl) <|
                .cons (.no) _ _ (op_move (Lk.t rfl)) <|
                .cons (.no) _ _ (op_call (rord_ok (by assumption)) ⟨(Lk.t rfl), (Lk.t rfl),  trivial⟩) <|
                .cons (.no) _ _ (op_move (Lk.t rfl)) <|
                .cons (.no) _ _ (op_extract (Lk.t rfl) rfl) <|
                .cons (.no) _ _ (op_extract (Lk.t rfl) rfl) <|
                .cons (.wr 5) _ _ (op_store_b 5 (Lk.t rfl) (Lk.t rfl) co_agg sz28 rfl rfl rfl) <|
                .cons (.no) _ _ (op_assign (Lk.t rfl)) <|
                .nil) ff rfl fun g18 => ⟨_, _, [0, 1, 2, 3, 4, 5], rfl, (.cons 7 rfl <| .cons 8 rfl <| .cons 15 rfl <| .cons 16 rfl <| .cons 18 rfl <| .cons 19 rfl <| .cons 20 rfl <| .cons 21 rfl <| .cons 22 rfl <| .nil), (.cons 0 rfl <| .cons 1 rfl <| .cons 2 rfl <| .cons 3 rfl <| .cons 4 rfl <| .cons 5 rfl <| .nil), ?_⟩)
            refine JN_then ?_
            refine J_seq ?_
            refine J_seq (J_reg [] (
                .cons (.rd 4) _ _ (op_get_ag 4 ag28 (Lk.t rfl) rfl mem_blk rfl rfl) <|
                .cons (.no) _ _ (op_move (Lk.t rfl)) <|
                .cons (.rd 5) _ _ (op_get_ag 5 ag28 (Lk.t rfl) rfl mem_blk rfl rfl) <|
                .cons (.no) _ _ (op_move (Lk.t rfl)) <|
                .cons (.no) _ _ (op_call (ltold_ok) ⟨(Lk.t rfl), (Lk.t rfl), (Lk.t rfl), (Lk.t rfl),  trivial⟩) <|
                .cons (.no) _ _ (op_not (Lk.t rfl)) <|
                .nil) ff rfl fun g19 => ⟨_, _, [0, 1, 2, 3, 4, 5], rfl, (.cons 7 rfl <| .cons 8 rfl <| .cons 15 rfl <| .cons 16 rfl <| .cons 18 rfl <| .cons 19 rfl <| .cons 21 rfl <| .cons 105 rfl <| .nil), (.cons 0 rfl <| .cons 1 rfl <| .cons 2 rfl <| .cons 3 rfl <| .cons 4 rfl <| .cons 5 rfl <| .nil), ?_⟩)
            refine JN_then ?_
            refine J_cond (cond_of (Lk.t rfl)) (fun h6 => ?_) (fun h6 => ?_)
            · have h6' := h6
              try simp only [cmpB, Bool.and_eq_true, Bool.or_eq_true, Bool.and_eq_false_iff, Bool.or_eq_false_iff, Bool.not_eq_true', Bool.not_eq_false', Bool.not_eq_true, Bool.not_eq_false, decide_eq_true_eq, decide_eq_false_iff_not, Int.not_lt, Int.not_le, beq_iff_eq, bne_iff_ne, beq_eq_false_iff_ne, bne_eq_false_iff_eq, ne_eq, Decidable.not_not] at h6
              exact (dead_told1 h6' (ord_y h5)).elim
            · have h6' := h6
              try simp only [cmpB, Bool.and_eq_true, Bool.or_eq_true, Bool.and_eq_false_iff, Bool.or_eq_false_iff, Bool.not_eq_true', Bool.not_eq_false', Bool.not_eq_true, Bool.not_eq_false, decide_eq_true_eq, decide_eq_false_iff_not, Int.not_lt, Int.not_le, beq_iff_eq, bne_iff_ne, beq_eq_false_iff_ne, bne_eq_false_iff_eq, ne_eq, Decidable.not_not] at h6
              refine J_skip ?_
              refine JN_then ?_
              refine J_seq (J_reg [] (
                  .cons (.no) _ _ (op_move (Lk.t rfl)) <|
                  .cons (.no) _ _ (op_assign (Lk.t rfl)) <|
                  .nil) ff rfl fun g20 => ⟨_, _, [0, 1, 2, 3, 4, 5], rfl, (.cons 7 rfl <| .cons 8 rfl <| .cons 15 rfl <| .cons 16 rfl <| .cons 18 rfl <| .cons 19 rfl <| .cons 21 rfl <| .cons 22 rfl <| .nil), (.cons 0 rfl <| .cons 1 rfl <| .cons 2 rfl <| .cons 3 rfl <| .cons 4 rfl <| .cons 5 rfl <| .nil), ?_⟩)
              refine JN_then ?_
              refine J_seq (J_reg [[], [0], [], [0, 1, 2], [0, 1, 2, 3], [0, 1, 2, 3, 4], [0, 1, 2, 3, 4, 5], [0, 1, 2, 3, 4, 5], [0, 1, 2, 3, 4, 5, 6], [0, 1, 2, 3, 4, 5, 6, 7, 8]] (
                  .cons (.rd 0) _ _ (op_get_ag 0 ag24 (Lk.t rfl) rfl mem_blk rfl rfl) <|
                  .cons (.no) _ _ (op_call (lof_ok (by assumption)) ⟨(Lk.t rfl),  trivial⟩) <|
                  .cons (.rd 1) _ _ (op_get_ag 1 ag24 (Lk.t rfl) rfl mem_blk rfl rfl) <|
                  .cons (.no) _ _ (op_call (lof_ok (by assumption)) ⟨(Lk.t rfl),  trivial⟩) <|
                  .cons (.no) _ _ (op_call (bes_ok) ⟨(Lk.t rfl), (Lk.t rfl),  trivial⟩) <|
                  .cons (.no) _ _ (op_move (Lk.t rfl)) <|
                  .cons (.no) _ _ (op_extract (Lk.t rfl) rfl) <|
                  .cons (.no) _ _ (op_extract (Lk.t rfl) rfl) <|
                  .cons (.wr 4) _ _ (op_store_b 4 (Lk.t rfl) (Lk.t rfl) co_agg sz28 rfl rfl rfl) <|
                  .cons (.no) _ _ (op_assign (Lk.t rfl)) <|
                  .nil) (fun _ => mixed) rfl fun g21 => ⟨_, _, [0, 1, 2, 3, 4, 5], rfl, (.cons 7 rfl <| .cons 8 rfl <| .cons 15 rfl <| .cons 16 rfl <| .cons 18 rfl <| .cons 19 rfl <| .cons 20 rfl <| .cons 21 rfl <| .cons 22 rfl <| .nil), (.cons 0 rfl <| .cons 1 rfl <| .cons 2 rfl <| .cons 3 rfl <| .cons 4 rfl <| .cons 5 rfl <| .nil), ?_⟩)
              refine JN_then ?_
              refine J_seq ?_
              refine J_seq (J_reg [] (
                  .cons (.no) _ _ (op_move (Lk.t rfl)) <|
                  .cons (.no) _ _ (op_cmp (by simp) (Lk.t rfl) (Lk.k rfl) rfl) <|
                  .nil) ff rfl fun g22 => ⟨_, _, [0, 1, 2, 3, 4, 5], rfl, (.cons 7 rfl <| .cons 8 rfl <| .cons 15 rfl <| .cons 16 rfl <| .cons 18 rfl <| .cons 19 rfl <| .cons 20 rfl <| .cons 21 rfl <| .cons 22 rfl <| .cons 116 rfl <| .nil), (.cons 0 rfl <| .cons 1 rfl <| .cons 2 rfl <| .cons 3 rfl <| .cons 4 rfl <| .cons 5 rfl <| .nil), ?_⟩)
              refine JN_then ?_
              refine J_cond (cond_of (Lk.t rfl)) (fun h7 => ?_) (fun h7 => ?_)
              · have h7' := h7
                try simp only [cmpB, Bool.and_eq_true, Bool.or_eq_true, Bool.and_eq_false_iff, Bool.or_eq_false_iff, Bool.not_eq_true', Bool.not_eq_false', Bool.not_eq_true, Bool.not_eq_false, decide_eq_true_eq, decide_eq_false_iff_not, Int.not_lt, Int.not_le, beq_iff_eq, bne_iff_ne, beq_eq_false_iff_ne, bne_eq_false_iff_eq, ne_eq, Decidable.not_not] at h7
                have hgx := chk_good (fst2.1 h7).1
                have hgy := chk_good (fst2.1 h7).2
                refine (J_reg [] (
                    .cons (.rd 2) _ _ (op_get_ag 2 ag28 (Lk.t rfl) rfl mem_blk rfl rfl) <|
                    .cons (.rd 3) _ _ (op_get_ag 3 ag28 (Lk.t rfl) rfl mem_blk rfl rfl) <|
                    .cons (.no) _ _ (op_call (rbes_ok (by assumption) (by assumption)) ⟨(Lk.t rfl), (Lk.t rfl),  trivial⟩) <|
                    .cons (.no) _ _ (op_move (Lk.t rfl)) <|
                    .cons (.no) _ _ (op_extract (Lk.t rfl) rfl) <|
                    .cons (.no) _ _ (op_extract (Lk.t rfl) rfl) <|
                    .cons (.wr 5) _ _ (op_store_b 5 (Lk.t rfl) (Lk.t rfl) co_agg sz28 rfl rfl rfl) <|
                    .cons (.no) _ _ (op_assign (Lk.t rfl)) <|
                    .nil) ff rfl fun g23 => ⟨_, _, [0, 1, 2, 3, 4, 5], rfl, (.cons 7 rfl <| .cons 8 rfl <| .cons 15 rfl <| .cons 16 rfl <| .cons 18 rfl <| .cons 19 rfl <| .cons 20 rfl <| .cons 21 rfl <| .cons 22 rfl <| .nil), (.cons 0 rfl <| .cons 1 rfl <| .cons 2 rfl <| .cons 3 rfl <| .cons 4 rfl <| .cons 5 rfl <| .nil), ?_⟩)
                refine JN_then ?_
                refine J_seq ?_
                refine J_seq (J_reg [] (
                    .cons (.rd 4) _ _ (op_get_ag 4 ag28 (Lk.t rfl) rfl mem_blk rfl rfl) <|
                    .cons (.no) _ _ (op_move (Lk.t rfl)) <|
                    .cons (.rd 5) _ _ (op_get_ag 5 ag28 (Lk.t rfl) rfl mem_blk rfl rfl) <|
                    .cons (.no) _ _ (op_move (Lk.t rfl)) <|
                    .cons (.no) _ _ (op_call (ltold_ok) ⟨(Lk.t rfl), (Lk.t rfl), (Lk.t rfl), (Lk.t rfl),  trivial⟩) <|
                    .cons (.no) _ _ (op_not (Lk.t rfl)) <|
                    .nil) ff rfl fun g24 => ⟨_, _, [0, 1, 2, 3, 4, 5], rfl, (.cons 7 rfl <| .cons 8 rfl <| .cons 15 rfl <| .cons 16 rfl <| .cons 18 rfl <| .cons 19 rfl <| .cons 21 rfl <| .cons 128 rfl <| .nil), (.cons 0 rfl <| .cons 1 rfl <| .cons 2 rfl <| .cons 3 rfl <| .cons 4 rfl <| .cons 5 rfl <| .nil), ?_⟩)
                refine JN_then ?_
                refine J_cond (cond_of (Lk.t rfl)) (fun h8 => ?_) (fun h8 => ?_)
                · have h8' := h8
                  try simp only [cmpB, Bool.and_eq_true, Bool.or_eq_true, Bool.and_eq_false_iff, Bool.or_eq_false_iff, Bool.not_eq_true', Bool.not_eq_false', Bool.not_eq_true, Bool.not_eq_false, decide_eq_true_eq, decide_eq_false_iff_not, Int.not_lt, Int.not_le, beq_iff_eq, bne_iff_ne, beq_eq_false_iff_ne, bne_eq_false_iff_eq, ne_eq, Decidable.not_not] at h8
                  exact (dead_told1 h8' (bes_y h7)).elim
                · have h8' := h8
                  try simp only [cmpB, Bool.and_eq_true, Bool.or_eq_true, Bool.and_eq_false_iff, Bool.or_eq_false_iff, Bool.not_eq_true', Bool.not_eq_false', Bool.not_eq_true, Bool.not_eq_false, decide_eq_true_eq, decide_eq_false_iff_not, Int.not_lt, Int.not_le, beq_iff_eq, bne_iff_ne, beq_eq_false_iff_ne, bne_eq_false_iff_eq, ne_eq, Decidable.not_not] at h8
                  refine J_skip ?_
                  refine JN_then ?_
                  refine J_seq (J_reg [] (
                      .cons (.no) _ _ (op_move (Lk.t rfl)) <|
                      .cons (.no) _ _ (op_assign (Lk.t rfl)) <|
                      .nil) ff rfl fun g25 => ⟨_, _, [0, 1, 2, 3, 4, 5], rfl, (.cons 7 rfl <| .cons 8 rfl <| .cons 15 rfl <| .cons 16 rfl <| .cons 18 rfl <| .cons 19 rfl <| .cons 21 rfl <| .cons 22 rfl <| .nil), (.cons 0 rfl <| .cons 1 rfl <| .cons 2 rfl <| .cons 3 rfl <| .cons 4 rfl <| .cons 5 rfl <| .nil), ?_⟩)
                  refine JN_then ?_
                  refine J_seq (J_reg [[], [0], [], [0, 1, 2], [0, 1, 2, 3], [0, 1, 2, 3, 4], [0, 1, 2, 3, 4, 5], [0, 1, 2, 3, 4, 5], [0, 1, 2, 3, 4, 5, 6], [0, 1, 2, 3, 4, 5, 6, 7, 8]] (
                      .cons (.rd 0) _ _ (op_get_ag 0 ag24 (Lk.t rfl) rfl mem_blk rfl rfl) <|
                      .cons (.no) _ _ (op_call (lof_ok (by assumption)) ⟨(Lk.t rfl),  trivial⟩) <|
                      .cons (.rd 1) _ _ (op_get_ag 1 ag24 (Lk.t rfl) rfl mem_blk rfl rfl) <|
                      .cons (.no) _ _ (op_call (lof_ok (by assumption)) ⟨(Lk.t rfl),  trivial⟩) <|
                      .cons (.no) _ _ (op_call (stk_ok) ⟨(Lk.t rfl), (Lk.t rfl),  trivial⟩) <|
                      .cons (.no) _ _ (op_move (Lk.t rfl)) <|
                      .cons (.no) _ _ (op_extract (Lk.t rfl) rfl) <|
                      .cons (.no) _ _ (op_extract (Lk.t rfl) rfl) <|
                      .cons (.wr 4) _ _ (op_store_b 4 (Lk.t rfl) (Lk.t rfl) co_agg sz28 rfl rfl rfl) <|
                      .cons (.no) _ _ (op_assign (Lk.t rfl)) <|
                      .nil) (fun _ => mixed) rfl fun g26 => ⟨_, _, [2, 3, 4, 5], rfl, (.cons 15 rfl <| .cons 16 rfl <| .cons 18 rfl <| .cons 19 rfl <| .cons 20 rfl <| .cons 21 rfl <| .cons 22 rfl <| .nil), (.cons 2 rfl <| .cons 3 rfl <| .cons 4 rfl <| .cons 5 rfl <| .nil), ?_⟩)
                  refine JN_then ?_
                  refine J_seq ?_
                  refine J_seq (J_reg [] (
                      .cons (.no) _ _ (op_move (Lk.t rfl)) <|
                      .cons (.no) _ _ (op_cmp (by simp) (Lk.t rfl) (Lk.k rfl) rfl) <|
                      .nil) ff rfl fun g27 => ⟨_, _, [0, 1, 2, 3], rfl, (.cons 15 rfl <| .cons 16 rfl <| .cons 19 rfl <| .cons 20 rfl <| .cons 21 rfl <| .cons 22 rfl <| .cons 139 rfl <| .nil), (.cons 0 rfl <| .cons 1 rfl <| .cons 2 rfl <| .cons 3 rfl <| .nil), ?_⟩)
                  refine JN_then ?_
                  refine J_cond (cond_of (Lk.t rfl)) (fun h9 => ?_) (fun h9 => ?_)
                  · have h9' := h9
                    try simp only [cmpB, Bool.and_eq_true, Bool.or_eq_true, Bool.and_eq_false_iff, Bool.or_eq_false_iff, Bool.not_eq_true', Bool.not_eq_false', Bool.not_eq_true, Bool.not_eq_false, decide_eq_true_eq, decide_eq_false_iff_not, Int.not_lt, Int.not_le, beq_iff_eq, bne_iff_ne, beq_eq_false_iff_ne, bne_eq_false_iff_eq, ne_eq, Decidable.not_not] at h9
                    refine (J_reg [] (
                        .cons (.rd 0) _ _ (op_get_ag 0 ag28 (Lk.t rfl) rfl mem_blk rfl rfl) <|
                        .cons (.rd 1) _ _ (op_get_ag 1 ag28 (Lk.t rfl) rfl mem_blk rfl rfl) <|
                        .cons (.no) _ _ (op_call (rstk_ok (by assumption) (by assumption)) ⟨(Lk.t rfl), (Lk.t rfl),  trivial⟩) <|
                        .cons (.no) _ _ (op_move (Lk.t rfl)) <|
                        .cons (.no) _ _ (op_extract (Lk.t rfl) rfl) <|
                        .cons (.no) _ _ (op_extract (Lk.t rfl) rfl) <|
                        .cons (.wr 3) _ _ (op_store_b 3 (Lk.t rfl) (Lk.t rfl) co_agg sz28 rfl rfl rfl) <|
                        .cons (.no) _ _ (op_assign (Lk.t rfl)) <|
                        .nil) ff rfl fun g28 => ⟨_, _, [2, 3], rfl, (.cons 19 rfl <| .cons 20 rfl <| .cons 21 rfl <| .cons 22 rfl <| .nil), (.cons 2 rfl <| .cons 3 rfl <| .nil), ?_⟩)
                    refine JN_then ?_
                    refine J_seq (J_reg [] (
                        .cons (.rd 0) _ _ (op_get_ag 0 ag28 (Lk.t rfl) rfl mem_blk rfl rfl) <|
                        .cons (.no) _ _ (op_move (Lk.t rfl)) <|
                        .cons (.rd 1) _ _ (op_get_ag 1 ag28 (Lk.t rfl) rfl mem_blk rfl rfl) <|
                        .cons (.no) _ _ (op_move (Lk.t rfl)) <|
                        .cons (.no) _ _ (op_call (ltold_ok) ⟨(Lk.t rfl), (Lk.t rfl), (Lk.t rfl), (Lk.t rfl),  trivial⟩) <|
                        .cons (.no) _ _ (op_assign (Lk.t rfl)) <|
                        .nil) ff rfl fun g29 => ⟨_, _, [], rfl, (.cons 14 rfl <| .nil), (.nil), ?_⟩)
                    refine JN_then ?_
                    refine J_ret ?_
                    refine JN_ret (.cons (.tmp (Lk.t rfl)) <| .nil) (sb_trans (sb_res1 sb_refl) ?_)
                    exact ret_b (stk_y h9)
                  · have h9' := h9
                    try simp only [cmpB, Bool.and_eq_true, Bool.or_eq_true, Bool.and_eq_false_iff, Bool.or_eq_false_iff, Bool.not_eq_true', Bool.not_eq_false', Bool.not_eq_true, Bool.not_eq_false, decide_eq_true_eq, decide_eq_false_iff_not, Int.not_lt, Int.not_le, beq_iff_eq, bne_iff_ne, beq_eq_false_iff_ne, bne_eq_false_iff_eq, ne_eq, Decidable.not_not] at h9
                    exact absurd h7 h9
              · have h7' := h7
                try simp only [cmpB, Bool.and_eq_true, Bool.or_eq_true, Bool.and_eq_false_iff, Bool.or_eq_false_iff, Bool.not_eq_true', Bool.not_eq_false', Bool.not_eq_true, Bool.not_eq_false, decide_eq_true_eq, decide_eq_false_iff_not, Int.not_lt, Int.not_le, beq_iff_eq, bne_iff_ne, beq_eq_false_iff_ne, bne_eq_false_iff_eq, ne_eq, Decidable.not_not] at h7
                refine J_skip ?_
                refine JN_then ?_
                refine J_seq ?_
                refine J_seq (J_reg [] (
                    .cons (.rd 4) _ _ (op_get_ag 4 ag28 (Lk.t rfl) rfl mem_blk rfl rfl) <|
                    .cons (.no) _ _ (op_move (Lk.t rfl)) <|
                    .cons (.rd 5) _ _ (op_get_ag 5 ag28 (Lk.t rfl) rfl mem_blk rfl rfl) <|
                    .cons (.no) _ _ (op_move (Lk.t rfl)) <|
                    .cons (.no) _ _ (op_call (ltold_ok) ⟨(Lk.t rfl), (Lk.t rfl), (Lk.t rfl), (Lk.t rfl),  trivial⟩) <|
                    .cons (.no) _ _ (op_not (Lk.t rfl)) <|
                    .nil) ff rfl fun g30 => ⟨_, _, [0, 1, 2, 3, 4, 5], rfl, (.cons 7 rfl <| .cons 8 rfl <| .cons 15 rfl <| .cons 16 rfl <| .cons 18 rfl <| .cons 19 rfl <| .cons 21 rfl <| .cons 128 rfl <| .nil), (.cons 0 rfl <| .cons 1 rfl <| .cons 2 rfl <| .cons 3 rfl <| .cons 4 rfl <| .cons 5 rfl <| .nil), ?_⟩)
                refine JN_then ?_
                refine J_cond (cond_of (Lk.t rfl)) (fun h10 => ?_) (fun h10 => ?_)
                · have h10' := h10
                  try simp only [cmpB, Bool.and_eq_true, Bool.or_eq_true, Bool.and_eq_false_iff, Bool.or_eq_false_iff, Bool.not_eq_true', Bool.not_eq_false', Bool.not_eq_true, Bool.not_eq_false, decide_eq_true_eq, decide_eq_false_iff_not, Int.not_lt, Int.not_le, beq_iff_eq, bne_iff_ne, beq_eq_false_iff_ne, bne_eq_false_iff_eq, ne_eq, Decidable.not_not] at h10
                  exact (dead_told1 h10' (bes_n h7)).elim
                · have h10' := h10
                  try simp only [cmpB, Bool.and_eq_true, Bool.or_eq_true, Bool.and_eq_false_iff, Bool.or_eq_false_iff, Bool.not_eq_true', Bool.not_eq_false', Bool.not_eq_true, Bool.not_eq_false, decide_eq_true_eq, decide_eq_false_iff_not, Int.not_lt, Int.not_le, beq_iff_eq, bne_iff_ne, beq_eq_false_iff_ne, bne_eq_false_iff_eq, ne_eq, Decidable.not_not] at h10
                  refine J_skip ?_
                  refine JN_then ?_
                  refine J_seq (J_reg [] (
                      .cons (.no) _ _ (op_move (Lk.t rfl)) <|
                      .cons (.no) _ _ (op_assign (Lk.t rfl)) <|
                      .nil) ff rfl fun g31 => ⟨_, _, [0, 1, 2, 3, 4, 5], rfl, (.cons 7 rfl <| .cons 8 rfl <| .cons 15 rfl <| .cons 16 rfl <| .cons 18 rfl <| .cons 19 rfl <| .cons 21 rfl <| .cons 22 rfl <| .nil), (.cons 0 rfl <| .cons 1 rfl <| .cons 2 rfl <| .cons 3 rfl <| .cons 4 rfl <| .cons 5 rfl <| .nil), ?_⟩)
                  refine JN_then ?_
                  refine J_seq (J_reg [[], [0], [], [0, 1, 2], [0, 1, 2, 3], [0, 1, 2, 3, 4], [0, 1, 2, 3, 4, 5], [0, 1, 2, 3, 4, 5], [0, 1, 2, 3, 4, 5, 6], [0, 1, 2, 3, 4, 5, 6, 7, 8]] (
                      .cons (.rd 0) _ _ (op_get_ag 0 ag24 (Lk.t rfl) rfl mem_blk rfl rfl) <|
                      .cons (.no) _ _ (op_call (lof_ok (by assumption)) ⟨(Lk.t rfl),  trivial⟩) <|
                      .cons (.rd 1) _ _ (op_get_ag 1 ag24 (Lk.t rfl) rfl mem_blk rfl rfl) <|
                      .cons (.no) _ _ (op_call (lof_ok (by assumption)) ⟨(Lk.t rfl),  trivial⟩) <|
                      .cons (.no) _ _ (op_call (stk_ok) ⟨(Lk.t rfl), (Lk.t rfl),  trivial⟩) <|
                      .cons (.no) _ _ (op_move (Lk.t rfl)) <|
                      .cons (.no) _ _ (op_extract (Lk.t rfl) rfl) <|
                      .cons (.no) _ _ (op_extract (Lk.t rfl) rfl) <|
                      .cons (.wr 4) _ _ (op_store_b 4 (Lk.t rfl) (Lk.t rfl) co_agg sz28 rfl rfl rfl) <|
                      .cons (.no) _ _ (op_assign (Lk.t rfl)) <|
                      .nil) (fun _ => mixed) rfl fun g32 => ⟨_, _, [2, 3, 4, 5], rfl, (.cons 15 rfl <| .cons 16 rfl <| .cons 18 rfl <| .cons 19 rfl <| .cons 20 rfl <| .cons 21 rfl <| .cons 22 rfl <| .nil), (.cons 2 rfl <| .cons 3 rfl <| .cons 4 rfl <| .cons 5 rfl <| .nil), ?_⟩)
                  refine JN_then ?_
                  refine J_seq ?_
                  refine J_seq (J_reg [] (
                      .cons (.no) _ _ (op_move (Lk.t rfl)) <|
                      .cons (.no) _ _ (op_cmp (by simp) (Lk.t rfl) (Lk.k rfl) rfl) <|
                      .nil) ff rfl fun g33 => ⟨_, _, [0, 1, 2, 3], rfl, (.cons 15 rfl <| .cons 16 rfl <| .cons 19 rfl <| .cons 20 rfl <| .cons 21 rfl <| .cons 22 rfl <| .cons 139 rfl <| .nil), (.cons 0 rfl <| .cons 1 rfl <| .cons 2 rfl <| .cons 3 rfl <| .nil), ?_⟩)
                  refine JN_then ?_
                  refine J_cond (cond_of (Lk.t rfl)) (fun h11 => ?_) (fun h11 => ?_)
                  · have h11' := h11
                    try simp only [cmpB, Bool.and_eq_true, Bool.or_eq_true, Bool.and_eq_false_iff, Bool.or_eq_false_iff, Bool.not_eq_true', Bool.not_eq_false', Bool.not_eq_true, Bool.not_eq_false, decide_eq_true_eq, decide_eq_false_iff_not, Int.not_lt, Int.not_le, beq_iff_eq, bne_iff_ne, beq_eq_false_iff_ne, bne_eq_false_iff_eq, ne_eq, Decidable.not_not] at h11
                    exact absurd h11 h7
                  · have h11' := h11
                    try simp only [cmpB, Bool.and_eq_true, Bool.or_eq_true, Bool.and_eq_false_iff, Bool.or_eq_false_iff, Bool.not_eq_true', Bool.not_eq_false', Bool.not_eq_true, Bool.not_eq_false, decide_eq_true_eq, decide_eq_false_iff_not, Int.not_lt, Int.not_le, beq_iff_eq, bne_iff_ne, beq_eq_false_iff_ne, bne_eq_false_iff_eq, ne_eq, Decidable.not_not] at h11
                    refine J_skip ?_
                    refine JN_then ?_
                    refine J_seq (J_reg [] (
                        .cons (.rd 2) _ _ (op_get_ag 2 ag28 (Lk.t rfl) rfl mem_blk rfl rfl) <|
                        .cons (.no) _ _ (op_move (Lk.t rfl)) <|
                        .cons (.rd 3) _ _ (op_get_ag 3 ag28 (Lk.t rfl) rfl mem_blk rfl rfl) <|
                        .cons (.no) _ _ (op_move (Lk.t rfl)) <|
                        .cons (.no) _ _ (op_call (ltold_ok) ⟨(Lk.t rfl), (Lk.t rfl), (Lk.t rfl), (Lk.t rfl),  trivial⟩) <|
                        .cons (.no) _ _ (op_assign (Lk.t rfl)) <|
                        .nil) ff rfl fun g34 => ⟨_, _, [], rfl, (.cons 14 rfl <| .nil), (.nil), ?_⟩)
                    refine JN_then ?_
                    refine J_ret ?_
                    refine JN_ret (.cons (.tmp (Lk.t rfl)) <| .nil) (sb_trans (sb_res1 sb_refl) ?_)
                    exact ret_b (stk_n h11)
          · have h5' := h5
            try simp only [cmpB, Bool.and_eq_true, Bool.or_eq_true, Bool.and_eq_false_iff, Bool.or_eq_false_iff, Bool.not_eq_true', Bool.not_eq_false', Bool.not_eq_true, Bool.not_eq_false, decide_eq_true_eq, decide_eq_false_iff_not, Int.not_lt, Int.not_le, beq_iff_eq, bne_iff_ne, beq_eq_false_iff_ne, bne_eq_false_iff_eq, ne_eq, Decidable.not_not] at h5
            exact absurd h3 h5
      · have h3' := h3
        try simp only [cmpB, Bool.and_eq_true, Bool.or_eq_true, Bool.and_eq_false_iff, Bool.or_eq_false_iff, Bool.not_eq_true', Bool.not_eq_false', Bool.not_eq_true, Bool.not_eq_false, decide_eq_true_eq, decide_eq_false_iff_not, Int.not_lt, Int.not_le, beq_iff_eq, bne_iff_ne, beq_eq_false_iff_ne, bne_eq_false_iff_eq, ne_eq, Decidable.not_not] at h3
        exact absurd h1 h3
  · have h1' := h1
    try simp only [cmpB, Bool.and_eq_true, Bool.or_eq_true, Bool.and_eq_false_iff, Bool.or_eq_false_iff, Bool.not_eq_true', Bool.not_eq_false', Bool.not_eq_true, Bool.not_eq_false, decide_eq_true_eq, decide_eq_false_iff_not, Int.not_lt, Int.not_le, beq_iff_eq, bne_iff_ne, beq_eq_false_iff_ne, bne_eq_false_iff_eq, ne_eq, Decidable.not_not] at h1
    refine J_skip ?_
    refine JN_then ?_
    refine J_seq ?_
    refine J_seq (J_reg [] (
        .cons (.rd 4) _ _ (op_get_ag 4 ag28 (Lk.t rfl) rfl mem_blk rfl rfl) <|
        .cons (.no) _ _ (op_move (Lk.t rfl)) <|
        .cons (.rd 5) _ _ (op_get_ag 5 ag28 (Lk.t rfl) rfl mem_blk rfl rfl) <|
        .cons (.no) _ _ (op_move (Lk.t rfl)) <|
        .cons (.no) _ _ (op_call (ltold_ok) ⟨(Lk.t rfl), (Lk.t rfl), (Lk.sub (sb_agg (.cons sb_refl <| .cons sb_refl <| .cons (sb_nil (mk := flp)) <| .nil)) (Lk.t rfl)), (Lk.t rfl),  trivial⟩) <|
        .cons (.no) _ _ (op_not (Lk.t rfl)) <|
        .cons (.no) _ _ (op_move (Lk.t rfl)) <|
        .cons (.no) _ _ (op_guard rfl rfl (gd_b rfl) (fun hC => (op_call (awake_ok) trivial))) <|
        .cons (.no) _ _ (op_guard rfl rfl (gd_b rfl) (fun hC => (op_not (Lk.w rfl hC)))) <|
        .cons (.no) _ _ (op_or (Lk.t rfl) (fun h2 => (Lk.w rfl h2))) <|
        .nil) ff rfl fun g35 => ⟨_, _, [0, 1, 2, 3, 4, 5], rfl, (.cons 2 rfl <| .cons 3 rfl <| .cons 4 rfl <| .cons 5 rfl <| .cons 6 rfl <| .cons 7 rfl <| .cons 8 rfl <| .cons 15 rfl <| .cons 16 rfl <| .cons 17 rfl <| .cons 18 rfl <| .cons 19 rfl <| .cons 21 rfl <| .cons 53 rfl <| .nil), (.cons 0 rfl <| .cons 1 rfl <| .cons 2 rfl <| .cons 3 rfl <| .cons 4 rfl <| .cons 5 rfl <| .nil), ?_⟩)
    refine JN_then ?_
    refine J_cond (cond_of (Lk.t rfl)) (fun h12 => ?_) (fun h12 => ?_)
    · have h12' := h12
      try simp only [cmpB, Bool.and_eq_true, Bool.or_eq_true, Bool.and_eq_false_iff, Bool.or_eq_false_iff, Bool.not_eq_true', Bool.not_eq_false', Bool.not_eq_true, Bool.not_eq_false, decide_eq_true_eq, decide_eq_false_iff_not, Int.not_lt, Int.not_le, beq_iff_eq, bne_iff_ne, beq_eq_false_iff_ne, bne_eq_false_iff_eq, ne_eq, Decidable.not_not] at h12
      exact (dead_told h12' (tr_n h1) rfl).elim
    · have h12' := h12
      try simp only [cmpB, Bool.and_eq_true, Bool.or_eq_true, Bool.and_eq_false_iff, Bool.or_eq_false_iff, Bool.not_eq_true', Bool.not_eq_false', Bool.not_eq_true, Bool.not_eq_false, decide_eq_true_eq, decide_eq_false_iff_not, Int.not_lt, Int.not_le, beq_iff_eq, bne_iff_ne, beq_eq_false_iff_ne, bne_eq_false_iff_eq, ne_eq, Decidable.not_not] at h12
      refine J_skip ?_
      refine JN_then ?_
      refine J_seq (J_reg [] (
          .cons (.no) _ _ (op_move (Lk.t rfl)) <|
          .cons (.no) _ _ (op_assign (Lk.t rfl)) <|
          .nil) ff rfl fun g36 => ⟨_, _, [0, 1, 2, 3, 4, 5], rfl, (.cons 2 rfl <| .cons 3 rfl <| .cons 4 rfl <| .cons 5 rfl <| .cons 6 rfl <| .cons 7 rfl <| .cons 8 rfl <| .cons 15 rfl <| .cons 16 rfl <| .cons 17 rfl <| .cons 18 rfl <| .cons 19 rfl <| .cons 21 rfl <| .cons 22 rfl <| .nil), (.cons 0 rfl <| .cons 1 rfl <| .cons 2 rfl <| .cons 3 rfl <| .cons 4 rfl <| .cons 5 rfl <| .nil), ?_⟩)
      refine JN_then ?_
      refine J_seq (J_reg [] (
          .cons (.rd 0) _ _ (op_get_ag 0 ag24 (Lk.t rfl) rfl mem_blk rfl rfl) <|
          .cons (.no) _ _ (op_call (lof_ok (by assumption)) ⟨(Lk.t rfl),  trivial⟩) <|
          .cons (.no) _ _ (op_move (Lk.t rfl)) <|
          .cons (.no) _ _ (op_move (Lk.t rfl)) <|
          .cons (.no) _ _ (op_move (Lk.t rfl)) <|
          .cons (.no) _ _ (op_move (Lk.t rfl)) <|
          .cons (.no) _ _ (op_call (blk_ok) ⟨(Lk.t rfl), (Lk.t rfl), (Lk.t rfl), (Lk.t rfl), (Lk.t rfl),  trivial⟩) <|
          .cons (.no) _ _ (op_move (Lk.t rfl)) <|
          .cons (.no) _ _ (op_extract (Lk.t rfl) rfl) <|
          .cons (.no) _ _ (op_extract (Lk.t rfl) rfl) <|
          .cons (.wr 4) _ _ (op_store_b 4 (Lk.t rfl) (Lk.t rfl) co_agg sz28 rfl rfl rfl) <|
          .cons (.no) _ _ (op_assign (Lk.t rfl)) <|
          .nil) ff rfl fun g37 => ⟨_, _, [0, 1, 2, 3, 4, 5], rfl, (.cons 2 rfl <| .cons 3 rfl <| .cons 4 rfl <| .cons 5 rfl <| .cons 6 rfl <| .cons 7 rfl <| .cons 8 rfl <| .cons 15 rfl <| .cons 16 rfl <| .cons 17 rfl <| .cons 18 rfl <| .cons 19 rfl <| .cons 20 rfl <| .cons 21 rfl <| .cons 22 rfl <| .nil), (.cons 0 rfl <| .cons 1 rfl <| .cons 2 rfl <| .cons 3 rfl <| .cons 4 rfl <| .cons 5 rfl <| .nil), ?_⟩)
      refine JN_then ?_
      refine J_seq ?_
      refine J_seq (J_reg [] (
          .cons (.no) _ _ (op_move (Lk.t rfl)) <|
          .cons (.no) _ _ (op_cmp (by simp) (Lk.t rfl) (Lk.k rfl) rfl) <|
          .nil) ff rfl fun g38 => ⟨_, _, [0, 1, 2, 3, 4, 5], rfl, (.cons 2 rfl <| .cons 3 rfl <| .cons 4 rfl <| .cons 5 rfl <| .cons 6 rfl <| .cons 7 rfl <| .cons 8 rfl <| .cons 15 rfl <| .cons 16 rfl <| .cons 17 rfl <| .cons 18 rfl <| .cons 19 rfl <| .cons 20 rfl <| .cons 21 rfl <| .cons 22 rfl <| .cons 66 rfl <| .nil), (.cons 0 rfl <| .cons 1 rfl <| .cons 2 rfl <| .cons 3 rfl <| .cons 4 rfl <| .cons 5 rfl <| .nil), ?_⟩)
      refine JN_then ?_
      refine J_cond (cond_of (Lk.t rfl)) (fun h13 => ?_) (fun h13 => ?_)
      · have h13' := h13
        try simp only [cmpB, Bool.and_eq_true, Bool.or_eq_true, Bool.and_eq_false_iff, Bool.or_eq_false_iff, Bool.not_eq_true', Bool.not_eq_false', Bool.not_eq_true, Bool.not_eq_false, decide_eq_true_eq, decide_eq_false_iff_not, Int.not_lt, Int.not_le, beq_iff_eq, bne_iff_ne, beq_eq_false_iff_ne, bne_eq_false_iff_eq, ne_eq, Decidable.not_not] at h13
        exact absurd h13 h1
      · have h13' := h13
        try simp only [cmpB, Bool.and_eq_true, Bool.or_eq_true, Bool.and_eq_false_iff, Bool.or_eq_false_iff, Bool.not_eq_true', Bool.not_eq_false', Bool.not_eq_true, Bool.not_eq_false, decide_eq_true_eq, decide_eq_false_iff_not, Int.not_lt, Int.not_le, beq_iff_eq, bne_iff_ne, beq_eq_false_iff_ne, bne_eq_false_iff_eq, ne_eq, Decidable.not_not] at h13
        refine J_skip ?_
        refine JN_then ?_
        refine J_seq ?_
        refine J_seq (J_reg [] (
            .cons (.rd 4) _ _ (op_get_ag 4 ag28 (Lk.t rfl) rfl mem_blk rfl rfl) <|
            .cons (.no) _ _ (op_move (Lk.t rfl)) <|
            .cons (.rd 5) _ _ (op_get_ag 5 ag28 (Lk.t rfl) rfl mem_blk rfl rfl) <|
            .cons (.no) _ _ (op_move (Lk.t rfl)) <|
            .cons (.no) _ _ (op_call (ltold_ok) ⟨(Lk.t rfl), (Lk.t rfl), (Lk.sub (sb_agg (.cons sb_refl <| .cons sb_refl <| .cons (sb_nil (mk := flp)) <| .nil)) (Lk.t rfl)), (Lk.t rfl),  trivial⟩) <|
            .cons (.no) _ _ (op_not (Lk.t rfl)) <|
            .nil) ff rfl fun g39 => ⟨_, _, [0, 1, 2, 3, 4, 5], rfl, (.cons 6 rfl <| .cons 7 rfl <| .cons 8 rfl <| .cons 15 rfl <| .cons 16 rfl <| .cons 17 rfl <| .cons 18 rfl <| .cons 19 rfl <| .cons 21 rfl <| .cons 81 rfl <| .nil), (.cons 0 rfl <| .cons 1 rfl <| .cons 2 rfl <| .cons 3 rfl <| .cons 4 rfl <| .cons 5 rfl <| .nil), ?_⟩)
        refine JN_then ?_
        refine J_cond (cond_of (Lk.t rfl)) (fun h14 => ?_) (fun h14 => ?_)
        · have h14' := h14
          try simp only [cmpB, Bool.and_eq_true, Bool.or_eq_true, Bool.and_eq_false_iff, Bool.or_eq_false_iff, Bool.not_eq_true', Bool.not_eq_false', Bool.not_eq_true, Bool.not_eq_false, decide_eq_true_eq, decide_eq_false_iff_not, Int.not_lt, Int.not_le, beq_iff_eq, bne_iff_ne, beq_eq_false_iff_ne, bne_eq_false_iff_eq, ne_eq, Decidable.not_not] at h14
          exact (dead_told1 h14' (blk_n h13)).elim
        · have h14' := h14
          try simp only [cmpB, Bool.and_eq_true, Bool.or_eq_true, Bool.and_eq_false_iff, Bool.or_eq_false_iff, Bool.not_eq_true', Bool.not_eq_false', Bool.not_eq_true, Bool.not_eq_false, decide_eq_true_eq, decide_eq_false_iff_not, Int.not_lt, Int.not_le, beq_iff_eq, bne_iff_ne, beq_eq_false_iff_ne, bne_eq_false_iff_eq, ne_eq, Decidable.not_not] at h14
          refine J_skip ?_
          refine JN_then ?_
          refine J_seq (J_reg [] (
              .cons (.no) _ _ (op_move (Lk.t rfl)) <|
              .cons (.no) _ _ (op_assign (Lk.t rfl)) <|
              .nil) ff rfl fun g40 => ⟨_, _, [0, 1, 2, 3, 4, 5], rfl, (.cons 6 rfl <| .cons 7 rfl <| .cons 8 rfl <| .cons 15 rfl <| .cons 16 rfl <| .cons 17 rfl <| .cons 18 rfl <| .cons 19 rfl <| .cons 21 rfl <| .cons 22 rfl <| .nil), (.cons 0 rfl <| .cons 1 rfl <| .cons 2 rfl <| .cons 3 rfl <| .cons 4 rfl <| .cons 5 rfl <| .nil), ?_⟩)
          refine JN_then ?_
          refine J_to (To.emps 1) ?_
          refine J_seq (J_reg [] (
              .cons (.rd 0) _ _ (op_get_ag 0 ag24 (Lk.t rfl) rfl mem_blk rfl rfl) <|
              .cons (.no) _ _ (op_call (lof_ok (by assumption)) ⟨(Lk.t rfl),  trivial⟩) <|
              .cons (.no) _ _ (op_build0L sl88) <|
              .cons (.no) _ _ (op_move (Lk.t rfl)) <|
              .cons (.no) _ _ (op_append_e0 sl88 zr3 rfl (Lk.t rfl) (Lk.t rfl) (by omega) (by omega)) <|
              .cons (.no) _ _ (op_call (ord_ok) ⟨(Lk.t rfl), (Lk.t rfl),  trivial⟩) <|
              .cons (.no) _ _ (op_move (Lk.t rfl)) <|
              .cons (.no) _ _ (op_extract (Lk.t rfl) rfl) <|
              .cons (.no) _ _ (op_extract (Lk.t rfl) rfl) <|
              .cons (.wr 4) _ _ (op_store_b 4 (Lk.t rfl) (Lk.t rfl) co_agg sz28 rfl rfl rfl) <|
              .cons (.no) _ _ (op_assign (Lk.t rfl)) <|
              .nil) ff rfl fun g41 => ⟨_, _, [0, 1, 2, 3, 4, 5], rfl, (.cons 6 rfl <| .cons 7 rfl <| .cons 8 rfl <| .cons 15 rfl <| .cons 16 rfl <| .cons 17 rfl <| .cons 18 rfl <| .cons 19 rfl <| .cons 20 rfl <| .cons 21 rfl <| .cons 22 rfl <| .nil), (.cons 0 rfl <| .cons 1 rfl <| .cons 2 rfl <| .cons 3 rfl <| .cons 4 rfl <| .cons 5 rfl <| .nil), ?_⟩)
          refine JN_then ?_
          refine J_seq ?_
          refine J_seq (J_reg [] (
              .cons (.no) _ _ (op_move (Lk.t rfl)) <|
              .cons (.no) _ _ (op_cmp (by simp) (Lk.t rfl) (Lk.k rfl) rfl) <|
              .nil) ff rfl fun g42 => ⟨_, _, [0, 1, 2, 3, 4, 5], rfl, (.cons 6 rfl <| .cons 7 rfl <| .cons 8 rfl <| .cons 15 rfl <| .cons 16 rfl <| .cons 18 rfl <| .cons 19 rfl <| .cons 20 rfl <| .cons 21 rfl <| .cons 22 rfl <| .cons 93 rfl <| .nil), (.cons 0 rfl <| .cons 1 rfl <| .cons 2 rfl <| .cons 3 rfl <| .cons 4 rfl <| .cons 5 rfl <| .nil), ?_⟩)
          refine JN_then ?_
          refine J_cond (cond_of (Lk.t rfl)) (fun h15 => ?_) (fun h15 => ?_)
          · have h15' := h15
            try simp only [cmpB, Bool.and_eq_true, Bool.or_eq_true, Bool.and_eq_false_iff, Bool.or_eq_false_iff, Bool.not_eq_true', Bool.not_eq_false', Bool.not_eq_true, Bool.not_eq_false, decide_eq_true_eq, decide_eq_false_iff_not, Int.not_lt, Int.not_le, beq_iff_eq, bne_iff_ne, beq_eq_false_iff_ne, bne_eq_false_iff_eq, ne_eq, Decidable.not_not] at h15
            exact absurd h15 h13
          · have h15' := h15
            try simp only [cmpB, Bool.and_eq_true, Bool.or_eq_true, Bool.and_eq_false_iff, Bool.or_eq_false_iff, Bool.not_eq_true', Bool.not_eq_false', Bool.not_eq_true, Bool.not_eq_false, decide_eq_true_eq, decide_eq_false_iff_not, Int.not_lt, Int.not_le, beq_iff_eq, bne_iff_ne, beq_eq_false_iff_ne, bne_eq_false_iff_eq, ne_eq, Decidable.not_not] at h15
            refine J_skip ?_
            refine JN_then ?_
            refine J_seq ?_
            refine J_seq (J_reg [] (
                .cons (.rd 4) _ _ (op_get_ag 4 ag28 (Lk.t rfl) rfl mem_blk rfl rfl) <|
                .cons (.no) _ _ (op_move (Lk.t rfl)) <|
                .cons (.rd 5) _ _ (op_get_ag 5 ag28 (Lk.t rfl) rfl mem_blk rfl rfl) <|
                .cons (.no) _ _ (op_move (Lk.t rfl)) <|
                .cons (.no) _ _ (op_call (ltold_ok) ⟨(Lk.t rfl), (Lk.t rfl), (Lk.sub (sb_agg (.cons sb_refl <| .cons sb_refl <| .cons (sb_nil (mk := flp)) <| .nil)) (Lk.t rfl)), (Lk.t rfl),  trivial⟩) <|
                .cons (.no) _ _ (op_not (Lk.t rfl)) <|
                .nil) ff rfl fun g43 => ⟨_, _, [0, 1, 2, 3, 4, 5], rfl, (.cons 7 rfl <| .cons 8 rfl <| .cons 15 rfl <| .cons 16 rfl <| .cons 18 rfl <| .cons 19 rfl <| .cons 21 rfl <| .cons 105 rfl <| .nil), (.cons 0 rfl <| .cons 1 rfl <| .cons 2 rfl <| .cons 3 rfl <| .cons 4 rfl <| .cons 5 rfl <| .nil), ?_⟩)
            refine JN_then ?_
            refine J_cond (cond_of (Lk.t rfl)) (fun h16 => ?_) (fun h16 => ?_)
            · have h16' := h16
              try simp only [cmpB, Bool.and_eq_true, Bool.or_eq_true, Bool.and_eq_false_iff, Bool.or_eq_false_iff, Bool.not_eq_true', Bool.not_eq_false', Bool.not_eq_true, Bool.not_eq_false, decide_eq_true_eq, decide_eq_false_iff_not, Int.not_lt, Int.not_le, beq_iff_eq, bne_iff_ne, beq_eq_false_iff_ne, bne_eq_false_iff_eq, ne_eq, Decidable.not_not] at h16
              exact (dead_told1 h16' (ord_n h15)).elim
            · have h16' := h16
              try simp only [cmpB, Bool.and_eq_true, Bool.or_eq_true, Bool.and_eq_false_iff, Bool.or_eq_false_iff, Bool.not_eq_true', Bool.not_eq_false', Bool.not_eq_true, Bool.not_eq_false, decide_eq_true_eq, decide_eq_false_iff_not, Int.not_lt, Int.not_le, beq_iff_eq, bne_iff_ne, beq_eq_false_iff_ne, bne_eq_false_iff_eq, ne_eq, Decidable.not_not] at h16
              refine J_skip ?_
              refine JN_then ?_
              refine J_seq (J_reg [] (
                  .cons (.no) _ _ (op_move (Lk.t rfl)) <|
                  .cons (.no) _ _ (op_assign (Lk.t rfl)) <|
                  .nil) ff rfl fun g44 => ⟨_, _, [0, 1, 2, 3, 4, 5], rfl, (.cons 7 rfl <| .cons 8 rfl <| .cons 15 rfl <| .cons 16 rfl <| .cons 18 rfl <| .cons 19 rfl <| .cons 21 rfl <| .cons 22 rfl <| .nil), (.cons 0 rfl <| .cons 1 rfl <| .cons 2 rfl <| .cons 3 rfl <| .cons 4 rfl <| .cons 5 rfl <| .nil), ?_⟩)
              refine JN_then ?_
              refine J_seq (J_reg [[], [0], [], [0, 1, 2], [0, 1, 2, 3], [0, 1, 2, 3, 4], [0, 1, 2, 3, 4, 5], [0, 1, 2, 3, 4, 5], [0, 1, 2, 3, 4, 5, 6], [0, 1, 2, 3, 4, 5, 6, 7, 8]] (
                  .cons (.rd 0) _ _ (op_get_ag 0 ag24 (Lk.t rfl) rfl mem_blk rfl rfl) <|
                  .cons (.no) _ _ (op_call (lof_ok (by assumption)) ⟨(Lk.t rfl),  trivial⟩) <|
                  .cons (.rd 1) _ _ (op_get_ag 1 ag24 (Lk.t rfl) rfl mem_blk rfl rfl) <|
                  .cons (.no) _ _ (op_call (lof_ok (by assumption)) ⟨(Lk.t rfl),  trivial⟩) <|
                  .cons (.no) _ _ (op_call (bes_ok) ⟨(Lk.t rfl), (Lk.t rfl),  trivial⟩) <|
                  .cons (.no) _ _ (op_move (Lk.t rfl)) <|
                  .cons (.no) _ _ (op_extract (Lk.t rfl) rfl) <|
                  .cons (.no) _ _ (op_extract (Lk.t rfl) rfl) <|
                  .cons (.wr 4) _ _ (op_store_b 4 (Lk.t rfl) (Lk.t rfl) co_agg sz28 rfl rfl rfl) <|
                  .cons (.no) _ _ (op_assign (Lk.t rfl)) <|
                  .nil) (fun _ => mixed) rfl fun g45 => ⟨_, _, [0, 1, 2, 3, 4, 5], rfl, (.cons 7 rfl <| .cons 8 rfl <| .cons 15 rfl <| .cons 16 rfl <| .cons 18 rfl <| .cons 19 rfl <| .cons 20 rfl <| .cons 21 rfl <| .cons 22 rfl <| .nil), (.cons 0 rfl <| .cons 1 rfl <| .cons 2 rfl <| .cons 3 rfl <| .cons 4 rfl <| .cons 5 rfl <| .nil), ?_⟩)
              refine JN_then ?_
              refine J_seq ?_
              refine J_seq (J_reg [] (
                  .cons (.no) _ _ (op_move (Lk.t rfl)) <|
                  .cons (.no) _ _ (op_cmp (by simp) (Lk.t rfl) (Lk.k rfl) rfl) <|
                  .nil) ff rfl fun g46 => ⟨_, _, [0, 1, 2, 3, 4, 5], rfl, (.cons 7 rfl <| .cons 8 rfl <| .cons 15 rfl <| .cons 16 rfl <| .cons 18 rfl <| .cons 19 rfl <| .cons 20 rfl <| .cons 21 rfl <| .cons 22 rfl <| .cons 116 rfl <| .nil), (.cons 0 rfl <| .cons 1 rfl <| .cons 2 rfl <| .cons 3 rfl <| .cons 4 rfl <| .cons 5 rfl <| .nil), ?_⟩)
              refine JN_then ?_
              refine J_cond (cond_of (Lk.t rfl)) (fun h17 => ?_) (fun h17 => ?_)
              · have h17' := h17
                try simp only [cmpB, Bool.and_eq_true, Bool.or_eq_true, Bool.and_eq_false_iff, Bool.or_eq_false_iff, Bool.not_eq_true', Bool.not_eq_false', Bool.not_eq_true, Bool.not_eq_false, decide_eq_true_eq, decide_eq_false_iff_not, Int.not_lt, Int.not_le, beq_iff_eq, bne_iff_ne, beq_eq_false_iff_ne, bne_eq_false_iff_eq, ne_eq, Decidable.not_not] at h17
                have hgx := chk_good (fst2.1 h17).1
                have hgy := chk_good (fst2.1 h17).2
                exact absurd (fst2.1 h17).1 h1
              · have h17' := h17
                try simp only [cmpB, Bool.and_eq_true, Bool.or_eq_true, Bool.and_eq_false_iff, Bool.or_eq_false_iff, Bool.not_eq_true', Bool.not_eq_false', Bool.not_eq_true, Bool.not_eq_false, decide_eq_true_eq, decide_eq_false_iff_not, Int.not_lt, Int.not_le, beq_iff_eq, bne_iff_ne, beq_eq_false_iff_ne, bne_eq_false_iff_eq, ne_eq, Decidable.not_not] at h17
                refine J_skip ?_
                refine JN_then ?_
                refine J_seq ?_
                refine J_seq (J_reg [] (
                    .cons (.rd 4) _ _ (op_get_ag 4 ag28 (Lk.t rfl) rfl mem_blk rfl rfl) <|
                    .cons (.no) _ _ (op_move (Lk.t rfl)) <|
                    .cons (.rd 5) _ _ (op_get_ag 5 ag28 (Lk.t rfl) rfl mem_blk rfl rfl) <|
                    .cons (.no) _ _ (op_move (Lk.t rfl)) <|
                    .cons (.no) _ _ (op_call (ltold_ok) ⟨(Lk.t rfl), (Lk.t rfl), (Lk.sub (sb_agg (.cons sb_refl <| .cons sb_refl <| .cons (sb_nil (mk := flp)) <| .nil)) (Lk.t rfl)), (Lk.t rfl),  trivial⟩) <|
                    .cons (.no) _ _ (op_not (Lk.t rfl)) <|
                    .nil) ff rfl fun g47 => ⟨_, _, [0, 1, 2, 3, 4, 5], rfl, (.cons 7 rfl <| .cons 8 rfl <| .cons 15 rfl <| .cons 16 rfl <| .cons 18 rfl <| .cons 19 rfl <| .cons 21 rfl <| .cons 128 rfl <| .nil), (.cons 0 rfl <| .cons 1 rfl <| .cons 2 rfl <| .cons 3 rfl <| .cons 4 rfl <| .cons 5 rfl <| .nil), ?_⟩)
                refine JN_then ?_
                refine J_cond (cond_of (Lk.t rfl)) (fun h18 => ?_) (fun h18 => ?_)
                · have h18' := h18
                  try simp only [cmpB, Bool.and_eq_true, Bool.or_eq_true, Bool.and_eq_false_iff, Bool.or_eq_false_iff, Bool.not_eq_true', Bool.not_eq_false', Bool.not_eq_true, Bool.not_eq_false, decide_eq_true_eq, decide_eq_false_iff_not, Int.not_lt, Int.not_le, beq_iff_eq, bne_iff_ne, beq_eq_false_iff_ne, bne_eq_false_iff_eq, ne_eq, Decidable.not_not] at h18
                  exact (dead_told1 h18' (bes_n h17)).elim
                · have h18' := h18
                  try simp only [cmpB, Bool.and_eq_true, Bool.or_eq_true, Bool.and_eq_false_iff, Bool.or_eq_false_iff, Bool.not_eq_true', Bool.not_eq_false', Bool.not_eq_true, Bool.not_eq_false, decide_eq_true_eq, decide_eq_false_iff_not, Int.not_lt, Int.not_le, beq_iff_eq, bne_iff_ne, beq_eq_false_iff_ne, bne_eq_false_iff_eq, ne_eq, Decidable.not_not] at h18
                  refine J_skip ?_
                  refine JN_then ?_
                  refine J_seq (J_reg [] (
                      .cons (.no) _ _ (op_move (Lk.t rfl)) <|
                      .cons (.no) _ _ (op_assign (Lk.t rfl)) <|
                      .nil) ff rfl fun g48 => ⟨_, _, [0, 1, 2, 3, 4, 5], rfl, (.cons 7 rfl <| .cons 8 rfl <| .cons 15 rfl <| .cons 16 rfl <| .cons 18 rfl <| .cons 19 rfl <| .cons 21 rfl <| .cons 22 rfl <| .nil), (.cons 0 rfl <| .cons 1 rfl <| .cons 2 rfl <| .cons 3 rfl <| .cons 4 rfl <| .cons 5 rfl <| .nil), ?_⟩)
                  refine JN_then ?_
                  refine J_seq (J_reg [[], [0], [], [0, 1, 2], [0, 1, 2, 3], [0, 1, 2, 3, 4], [0, 1, 2, 3, 4, 5], [0, 1, 2, 3, 4, 5], [0, 1, 2, 3, 4, 5, 6], [0, 1, 2, 3, 4, 5, 6, 7, 8]] (
                      .cons (.rd 0) _ _ (op_get_ag 0 ag24 (Lk.t rfl) rfl mem_blk rfl rfl) <|
                      .cons (.no) _ _ (op_call (lof_ok (by assumption)) ⟨(Lk.t rfl),  trivial⟩) <|
                      .cons (.rd 1) _ _ (op_get_ag 1 ag24 (Lk.t rfl) rfl mem_blk rfl rfl) <|
                      .cons (.no) _ _ (op_call (lof_ok (by assumption)) ⟨(Lk.t rfl),  trivial⟩) <|
                      .cons (.no) _ _ (op_call (stk_ok) ⟨(Lk.t rfl), (Lk.t rfl),  trivial⟩) <|
                      .cons (.no) _ _ (op_move (Lk.t rfl)) <|
                      .cons (.no) _ _ (op_extract (Lk.t rfl) rfl) <|
                      .cons (.no) _ _ (op_extract (Lk.t rfl) rfl) <|
                      .cons (.wr 4) _ _ (op_store_b 4 (Lk.t rfl) (Lk.t rfl) co_agg sz28 rfl rfl rfl) <|
                      .cons (.no) _ _ (op_assign (Lk.t rfl)) <|
                      .nil) (fun _ => mixed) rfl fun g49 => ⟨_, _, [2, 3, 4, 5], rfl, (.cons 15 rfl <| .cons 16 rfl <| .cons 18 rfl <| .cons 19 rfl <| .cons 20 rfl <| .cons 21 rfl <| .cons 22 rfl <| .nil), (.cons 2 rfl <| .cons 3 rfl <| .cons 4 rfl <| .cons 5 rfl <| .nil), ?_⟩)
                  refine JN_then ?_
                  refine J_seq ?_
                  refine J_seq (J_reg [] (
                      .cons (.no) _ _ (op_move (Lk.t rfl)) <|
                      .cons (.no) _ _ (op_cmp (by simp) (Lk.t rfl) (Lk.k rfl) rfl) <|
                      .nil) ff rfl fun g50 => ⟨_, _, [0, 1, 2, 3], rfl, (.cons 15 rfl <| .cons 16 rfl <| .cons 19 rfl <| .cons 20 rfl <| .cons 21 rfl <| .cons 22 rfl <| .cons 139 rfl <| .nil), (.cons 0 rfl <| .cons 1 rfl <| .cons 2 rfl <| .cons 3 rfl <| .nil), ?_⟩)
                  refine JN_then ?_
                  refine J_cond (cond_of (Lk.t rfl)) (fun h19 => ?_) (fun h19 => ?_)
                  · have h19' := h19
                    try simp only [cmpB, Bool.and_eq_true, Bool.or_eq_true, Bool.and_eq_false_iff, Bool.or_eq_false_iff, Bool.not_eq_true', Bool.not_eq_false', Bool.not_eq_true, Bool.not_eq_false, decide_eq_true_eq, decide_eq_false_iff_not, Int.not_lt, Int.not_le, beq_iff_eq, bne_iff_ne, beq_eq_false_iff_ne, bne_eq_false_iff_eq, ne_eq, Decidable.not_not] at h19
                    exact absurd h19 h17
                  · have h19' := h19
                    try simp only [cmpB, Bool.and_eq_true, Bool.or_eq_true, Bool.and_eq_false_iff, Bool.or_eq_false_iff, Bool.not_eq_true', Bool.not_eq_false', Bool.not_eq_true, Bool.not_eq_false, decide_eq_true_eq, decide_eq_false_iff_not, Int.not_lt, Int.not_le, beq_iff_eq, bne_iff_ne, beq_eq_false_iff_ne, bne_eq_false_iff_eq, ne_eq, Decidable.not_not] at h19
                    refine J_skip ?_
                    refine JN_then ?_
                    refine J_seq (J_reg [] (
                        .cons (.rd 2) _ _ (op_get_ag 2 ag28 (Lk.t rfl) rfl mem_blk rfl rfl) <|
                        .cons (.no) _ _ (op_move (Lk.t rfl)) <|
                        .cons (.rd 3) _ _ (op_get_ag 3 ag28 (Lk.t rfl) rfl mem_blk rfl rfl) <|
                        .cons (.no) _ _ (op_move (Lk.t rfl)) <|
                        .cons (.no) _ _ (op_call (ltold_ok) ⟨(Lk.t rfl), (Lk.t rfl), (Lk.sub (sb_agg (.cons sb_refl <| .cons sb_refl <| .cons (sb_nil (mk := flp)) <| .nil)) (Lk.t rfl)), (Lk.t rfl),  trivial⟩) <|
                        .cons (.no) _ _ (op_assign (Lk.t rfl)) <|
                        .nil) ff rfl fun g51 => ⟨_, _, [], rfl, (.cons 14 rfl <| .nil), (.nil), ?_⟩)
                    refine JN_then ?_
                    refine J_ret ?_
                    refine JN_ret (.cons (.tmp (Lk.t rfl)) <| .nil) (sb_trans (sb_res1 sb_refl) ?_)
                    exact ret_b (stk_n h19)
end Go.Proofs.Ytdnemaecalghbaa
