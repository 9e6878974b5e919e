/- Printed by a program of ours (walk.py): the walk of MatrixProducts. -/
import Derived.Test.YtdnemaecalghbaaTyp
import Derived.Test.YtdnemaecalghbaaProg
import Derived.KernelRfl
import Derived.Test.YtdnemaecalghbaaTypes
import Derived.Test.YtdnemaecalghbaaWRef8
set_option linter.unusedVariables false
set_option linter.unusedSimpArgs false
set_option maxRecDepth 20000
set_option maxHeartbeats 1000000
namespace Go.Proofs.Ytdnemaecalghbaa
open Go Go.Bn
attribute [local irreducible] OpOK
theorem products_ok {r c r' c' : Int} {bs cs us : List Nat} (hb : GoodU bs) (hc : GoodU cs) (hu : GoodU us) : Ct Try.prog 5 [MatU r c bs, MatU r' c' cs, wsl us] (isv (.bool true)) := by
  refine Ct.of Try.func5 rfl (by kernel_rfl) rfl fun c0 => ?_
  refine J_to (To.emps 2) ?_
  refine J_seq (J_reg [] (
      .cons (.wr 0) _ _ (op_box 0 (Lk.t rfl) co_agg rfl) <|
      .cons (.wr 1) _ _ (op_box 1 (Lk.t rfl) co_agg rfl) <|
      .cons (.no) _ _ (op_assign (Lk.k rfl)) <|
      .nil) ff rfl fun g1 => ⟨_, _, [0, 1], rfl, (.cons 2 rfl <| .cons 3 rfl <| .cons 4 rfl <| .nil), (.cons 0 rfl <| .cons 1 rfl <| .nil), ?_⟩)
  refine JN_then ?_
  refine J_to (To.emps 2) ?_
  refine J_seq (J_reg [[], [0], [], [0, 1, 2], [], [0, 1, 2, 3, 4], [], [], [0, 1, 2, 3, 4, 5, 6, 7], [0, 1, 2, 3, 4, 5, 6, 7, 8], [0, 1, 2, 3, 4, 5, 6, 7, 8, 9]] (
      .cons (.rd 0) _ _ (op_get_ag 0 ag24 (Lk.t rfl) rfl mem_blk rfl rfl) <|
      .cons (.no) _ _ (op_call (lof_ok (by assumption)) ⟨(Lk.t rfl),  trivial⟩) <|
      .cons (.rd 1) _ _ (op_get_ag 1 ag24 (Lk.t rfl) rfl mem_blk rfl rfl) <|
      .cons (.no) _ _ (op_call (lof_ok (by assumption)) ⟨(Lk.t rfl),  trivial⟩) <|
      .cons (.no) _ _ (op_move (Lk.t rfl)) <|
      .cons (.no) _ _ (op_call (l_ok (by assumption)) ⟨(Lk.t rfl),  trivial⟩) <|
      .cons (.wr 2) _ _ (op_alloc 2 zr28 rfl rfl) <|
      .cons (.wr 3) _ _ (op_alloc 3 zr28 rfl rfl) <|
      .cons (.wr 2) _ _ (op_store_new 2 rfl (Lk.t rfl) co_agg sz28 rfl rfl) <|
      .cons (.wr 3) _ _ (op_store_new 3 rfl (Lk.t rfl) co_agg sz28 rfl rfl) <|
      .cons (.no) _ _ (op_assign (Lk.t rfl)) <|
      .nil) (fun _ => mixed) rfl fun g2 => ⟨_, _, [0, 1, 2, 3], rfl, (.cons 2 rfl <| .cons 3 rfl <| .cons 4 rfl <| .cons 7 rfl <| .cons 8 rfl <| .cons 9 rfl <| .nil), (.cons 0 rfl <| .cons 1 rfl <| .cons 2 rfl <| .cons 3 rfl <| .nil), ?_⟩)
  refine JN_then ?_
  refine J_seq (J_reg [[], [0], [], [0, 1, 2], [0, 1, 2, 3], [0, 1, 2, 3, 4], [0, 1, 2, 3, 4, 5]] (
      .cons (.rd 2) _ _ (op_get_ag 2 ag28 (Lk.t rfl) rfl mem_blk rfl rfl) <|
      .cons (.no) _ _ (op_call (rchk_ok) ⟨(Lk.t rfl),  trivial⟩) <|
      .cons (.rd 3) _ _ (op_get_ag 3 ag28 (Lk.t rfl) rfl mem_blk rfl rfl) <|
      .cons (.no) _ _ (op_call (rchk_ok) ⟨(Lk.t rfl),  trivial⟩) <|
      .cons (.no) _ _ (op_buildSlice sl88 zr3 rfl rfl rfl rfl (.cons rfl (Lk.t rfl) co_isv rfl (puts_l rfl (Nat.le_of_ble_eq_true rfl)) (.cons rfl (Lk.t rfl) co_isv rfl (puts_l rfl (Nat.le_of_ble_eq_true rfl)) .nil))) <|
      .cons (.no) _ _ (op_call (rfirst_ok2) ⟨(Lk.t rfl),  trivial⟩) <|
      .cons (.no) _ _ (op_assign (Lk.t rfl)) <|
      .nil) (fun _ => mixed) rfl fun g3 => ⟨_, _, [0, 1, 2, 3], rfl, (.cons 2 rfl <| .cons 3 rfl <| .cons 4 rfl <| .cons 7 rfl <| .cons 8 rfl <| .cons 9 rfl <| .cons 10 rfl <| .nil), (.cons 0 rfl <| .cons 1 rfl <| .cons 2 rfl <| .cons 3 rfl <| .nil), ?_⟩)
  refine JN_then ?_
  refine J_to (To.emps 1) ?_
  refine J_seq (J_reg [] (
      .cons (.wr 4) _ _ (op_alloc 4 zr28 rfl rfl) <|
      .nil) ff rfl fun g4 => ⟨_, _, [0, 1, 2, 3, 4], rfl, (.cons 2 rfl <| .cons 3 rfl <| .cons 4 rfl <| .cons 7 rfl <| .cons 8 rfl <| .cons 9 rfl <| .cons 10 rfl <| .cons 11 rfl <| .nil), (.cons 0 rfl <| .cons 1 rfl <| .cons 2 rfl <| .cons 3 rfl <| .cons 4 rfl <| .nil), ?_⟩)
  refine JN_then ?_
  refine J_seq (J_reg [] (
      .cons (.no) _ _ (op_move (Lk.t rfl)) <|
      .cons (.no) _ _ (op_assign (Lk.t rfl)) <|
      .nil) ff rfl fun g5 => ⟨_, _, [0, 1, 2, 3, 4], rfl, (.cons 2 rfl <| .cons 3 rfl <| .cons 4 rfl <| .cons 7 rfl <| .cons 8 rfl <| .cons 9 rfl <| .cons 10 rfl <| .cons 11 rfl <| .cons 12 rfl <| .nil), (.cons 0 rfl <| .cons 1 rfl <| .cons 2 rfl <| .cons 3 rfl <| .cons 4 rfl <| .nil), ?_⟩)
  refine JN_then ?_
  refine J_seq ?_
  refine J_seq (J_reg [] (
      .cons (.no) _ _ (op_move (Lk.t rfl)) <|
      .cons (.no) _ _ (op_cmp (by simp) (Lk.t rfl) (Lk.k rfl) rfl) <|
      .nil) ff rfl fun g6 => ⟨_, _, [0, 1, 2, 3, 4], rfl, (.cons 2 rfl <| .cons 3 rfl <| .cons 4 rfl <| .cons 7 rfl <| .cons 8 rfl <| .cons 9 rfl <| .cons 10 rfl <| .cons 11 rfl <| .cons 12 rfl <| .cons 31 rfl <| .nil), (.cons 0 rfl <| .cons 1 rfl <| .cons 2 rfl <| .cons 3 rfl <| .cons 4 rfl <| .nil), ?_⟩)
  refine JN_then ?_
  refine J_cond (cond_of (Lk.t rfl)) (fun h1 => ?_) (fun h1 => ?_)
  · have h1' := h1
    try simp only [cmpB, Bool.and_eq_true, Bool.or_eq_true, Bool.and_eq_false_iff, Bool.or_eq_false_iff, Bool.not_eq_true', Bool.not_eq_false', Bool.not_eq_true, Bool.not_eq_false, decide_eq_true_eq, decide_eq_false_iff_not, Int.not_lt, Int.not_le, beq_iff_eq, bne_iff_ne, beq_eq_false_iff_ne, bne_eq_false_iff_eq, ne_eq, Decidable.not_not] at h1
    have hz := fst2.1 h1
    obtain ⟨hz1, hz2⟩ := hz
    refine (J_reg [] (
        .cons (.rd 2) _ _ (op_get_ag 2 ag28 (Lk.t rfl) rfl mem_blk rfl rfl) <|
        .cons (.rd 3) _ _ (op_get_ag 3 ag28 (Lk.t rfl) rfl mem_blk rfl rfl) <|
        .cons (.no) _ _ (op_call (rmul_ok (by assumption) (by assumption)) ⟨(Lk.t rfl), (Lk.t rfl),  trivial⟩) <|
        .cons (.no) _ _ (op_move (Lk.t rfl)) <|
        .cons (.no) _ _ (op_extract (Lk.t rfl) rfl) <|
        .cons (.no) _ _ (op_extract (Lk.t rfl) rfl) <|
        .cons (.wr 4) _ _ (op_store_b 4 (Lk.t rfl) (Lk.t rfl) co_agg sz28 rfl rfl rfl) <|
        .cons (.no) _ _ (op_assign (Lk.t rfl)) <|
        .nil) ff rfl fun g7 => ⟨_, _, [0, 1, 2, 3, 4], rfl, (.cons 2 rfl <| .cons 3 rfl <| .cons 4 rfl <| .cons 7 rfl <| .cons 8 rfl <| .cons 9 rfl <| .cons 10 rfl <| .cons 11 rfl <| .cons 12 rfl <| .nil), (.cons 0 rfl <| .cons 1 rfl <| .cons 2 rfl <| .cons 3 rfl <| .cons 4 rfl <| .nil), ?_⟩)
    refine JN_then ?_
    refine J_to (To.emps 1) ?_
    refine J_seq (J_reg [[], [0], [], [0, 1, 2], [0, 1, 2, 3], [0, 1, 2, 3, 4], [0, 1, 2, 3, 4, 5], [0, 1, 2, 3, 4, 5], [], [0, 1, 2, 3, 4, 5, 6, 8], [0, 1, 2, 3, 4, 5, 6, 7, 8, 9]] (
        .cons (.rd 0) _ _ (op_get_ag 0 ag24 (Lk.t rfl) rfl mem_blk rfl rfl) <|
        .cons (.no) _ _ (op_call (lof_ok (by assumption)) ⟨(Lk.t rfl),  trivial⟩) <|
        .cons (.rd 1) _ _ (op_get_ag 1 ag24 (Lk.t rfl) rfl mem_blk rfl rfl) <|
        .cons (.no) _ _ (op_call (lof_ok (by assumption)) ⟨(Lk.t rfl),  trivial⟩) <|
        .cons (.no) _ _ (op_call (mul_ok) ⟨(Lk.t rfl), (Lk.t rfl),  trivial⟩) <|
        .cons (.no) _ _ (op_move (Lk.t rfl)) <|
        .cons (.no) _ _ (op_extract (Lk.t rfl) rfl) <|
        .cons (.no) _ _ (op_extract (Lk.t rfl) rfl) <|
        .cons (.wr 5) _ _ (op_alloc 5 zr28 rfl rfl) <|
        .cons (.wr 5) _ _ (op_store_new 5 rfl (Lk.t rfl) co_agg sz28 rfl rfl) <|
        .cons (.no) _ _ (op_assign (Lk.t rfl)) <|
        .nil) (fun _ => mixed) rfl fun g8 => ⟨_, _, [0, 1, 2, 3, 4, 5], rfl, (.cons 2 rfl <| .cons 3 rfl <| .cons 4 rfl <| .cons 7 rfl <| .cons 8 rfl <| .cons 9 rfl <| .cons 10 rfl <| .cons 11 rfl <| .cons 12 rfl <| .cons 13 rfl <| .cons 14 rfl <| .nil), (.cons 0 rfl <| .cons 1 rfl <| .cons 2 rfl <| .cons 3 rfl <| .cons 4 rfl <| .cons 5 rfl <| .nil), ?_⟩)
    refine JN_then ?_
    refine J_seq ?_
    refine J_seq (J_reg [] (
        .cons (.rd 5) _ _ (op_get_ag 5 ag28 (Lk.t rfl) rfl mem_blk rfl rfl) <|
        .cons (.no) _ _ (op_move (Lk.t rfl)) <|
        .cons (.rd 4) _ _ (op_get_ag 4 ag28 (Lk.t rfl) rfl mem_blk rfl rfl) <|
        .cons (.no) _ _ (op_move (Lk.t rfl)) <|
        .cons (.no) _ _ (op_call (ltold_ok) ⟨(Lk.t rfl), (Lk.t rfl), (Lk.t rfl), (Lk.t rfl),  trivial⟩) <|
        .cons (.no) _ _ (op_not (Lk.t rfl)) <|
        .cons (.no) _ _ (op_move (Lk.t rfl)) <|
        .cons (.no) _ _ (op_guard rfl rfl (gd_b rfl) (fun hC => (op_call (awake_ok) trivial))) <|
        .cons (.no) _ _ (op_guard rfl rfl (gd_b rfl) (fun hC => (op_not (Lk.w rfl hC)))) <|
        .cons (.no) _ _ (op_or (Lk.t rfl) (fun h2 => (Lk.w rfl h2))) <|
        .nil) ff rfl fun g9 => ⟨_, _, [0, 1, 2, 3, 4, 5], rfl, (.cons 2 rfl <| .cons 3 rfl <| .cons 4 rfl <| .cons 7 rfl <| .cons 8 rfl <| .cons 9 rfl <| .cons 10 rfl <| .cons 11 rfl <| .cons 13 rfl <| .cons 55 rfl <| .nil), (.cons 0 rfl <| .cons 1 rfl <| .cons 2 rfl <| .cons 3 rfl <| .cons 4 rfl <| .cons 5 rfl <| .nil), ?_⟩)
    refine JN_then ?_
    refine J_cond (cond_of (Lk.t rfl)) (fun h2 => ?_) (fun h2 => ?_)
    · have h2' := h2
      try simp only [cmpB, Bool.and_eq_true, Bool.or_eq_true, Bool.and_eq_false_iff, Bool.or_eq_false_iff, Bool.not_eq_true', Bool.not_eq_false', Bool.not_eq_true, Bool.not_eq_false, decide_eq_true_eq, decide_eq_false_iff_not, Int.not_lt, Int.not_le, beq_iff_eq, bne_iff_ne, beq_eq_false_iff_ne, bne_eq_false_iff_eq, ne_eq, Decidable.not_not] at h2
      exact (dead_told h2' (told_same fair_mul rfl fun _ => rfl) rfl).elim
    · have h2' := h2
      try simp only [cmpB, Bool.and_eq_true, Bool.or_eq_true, Bool.and_eq_false_iff, Bool.or_eq_false_iff, Bool.not_eq_true', Bool.not_eq_false', Bool.not_eq_true, Bool.not_eq_false, decide_eq_true_eq, decide_eq_false_iff_not, Int.not_lt, Int.not_le, beq_iff_eq, bne_iff_ne, beq_eq_false_iff_ne, bne_eq_false_iff_eq, ne_eq, Decidable.not_not] at h2
      refine J_skip ?_
      refine JN_then ?_
      refine J_seq (J_reg [] (
          .cons (.no) _ _ (op_move (Lk.t rfl)) <|
          .cons (.no) _ _ (op_assign (Lk.t rfl)) <|
          .nil) ff rfl fun g10 => ⟨_, _, [0, 1, 2, 3, 4, 5], rfl, (.cons 2 rfl <| .cons 3 rfl <| .cons 4 rfl <| .cons 7 rfl <| .cons 8 rfl <| .cons 9 rfl <| .cons 11 rfl <| .cons 12 rfl <| .cons 13 rfl <| .nil), (.cons 0 rfl <| .cons 1 rfl <| .cons 2 rfl <| .cons 3 rfl <| .cons 4 rfl <| .cons 5 rfl <| .nil), ?_⟩)
      refine JN_then ?_
      refine J_seq ?_
      refine J_seq (J_reg [] (
          .cons (.no) _ _ (op_move (Lk.t rfl)) <|
          .cons (.no) _ _ (op_cmp (by simp) (Lk.t rfl) (Lk.k rfl) rfl) <|
          .nil) ff rfl fun g11 => ⟨_, _, [0, 1, 2, 3, 4, 5], rfl, (.cons 2 rfl <| .cons 3 rfl <| .cons 4 rfl <| .cons 7 rfl <| .cons 8 rfl <| .cons 9 rfl <| .cons 11 rfl <| .cons 12 rfl <| .cons 13 rfl <| .cons 58 rfl <| .nil), (.cons 0 rfl <| .cons 1 rfl <| .cons 2 rfl <| .cons 3 rfl <| .cons 4 rfl <| .cons 5 rfl <| .nil), ?_⟩)
      refine JN_then ?_
      refine J_cond (cond_of (Lk.t rfl)) (fun h3 => ?_) (fun h3 => ?_)
      · have h3' := h3
        try simp only [cmpB, Bool.and_eq_true, Bool.or_eq_true, Bool.and_eq_false_iff, Bool.or_eq_false_iff, Bool.not_eq_true', Bool.not_eq_false', Bool.not_eq_true, Bool.not_eq_false, decide_eq_true_eq, decide_eq_false_iff_not, Int.not_lt, Int.not_le, beq_iff_eq, bne_iff_ne, beq_eq_false_iff_ne, bne_eq_false_iff_eq, ne_eq, Decidable.not_not] at h3
        refine (J_reg [] (
            .cons (.rd 2) _ _ (op_get_ag 2 ag28 (Lk.t rfl) rfl mem_blk rfl rfl) <|
            .cons (.rd 3) _ _ (op_get_ag 3 ag28 (Lk.t rfl) rfl mem_blk rfl rfl) <|
            .cons (.no) _ _ (op_call (rsand_ok (by assumption) (by assumption)) ⟨(Lk.t rfl), (Lk.t rfl),  trivial⟩) <|
            .cons (.no) _ _ (op_move (Lk.t rfl)) <|
            .cons (.no) _ _ (op_extract (Lk.t rfl) rfl) <|
            .cons (.no) _ _ (op_extract (Lk.t rfl) rfl) <|
            .cons (.wr 4) _ _ (op_store_b 4 (Lk.t rfl) (Lk.t rfl) co_agg sz28 rfl rfl rfl) <|
            .cons (.no) _ _ (op_assign (Lk.t rfl)) <|
            .nil) ff rfl fun g12 => ⟨_, _, [0, 1, 2, 4, 5], rfl, (.cons 2 rfl <| .cons 3 rfl <| .cons 4 rfl <| .cons 7 rfl <| .cons 9 rfl <| .cons 11 rfl <| .cons 12 rfl <| .cons 13 rfl <| .nil), (.cons 0 rfl <| .cons 1 rfl <| .cons 2 rfl <| .cons 4 rfl <| .cons 5 rfl <| .nil), ?_⟩)
        refine JN_then ?_
        refine J_seq (J_reg [[], [0], [], [0, 1, 2], [0, 1, 2, 3], [0, 1, 2, 3, 4], [0, 1, 2, 3, 4, 5], [0, 1, 2, 3, 4, 5], [0, 1, 2, 3, 4, 5, 6], [0, 1, 2, 3, 4, 5, 6, 7, 8]] (
            .cons (.rd 0) _ _ (op_get_ag 0 ag24 (Lk.t rfl) rfl mem_blk rfl rfl) <|
            .cons (.no) _ _ (op_call (lof_ok (by assumption)) ⟨(Lk.t rfl),  trivial⟩) <|
            .cons (.rd 1) _ _ (op_get_ag 1 ag24 (Lk.t rfl) rfl mem_blk rfl rfl) <|
            .cons (.no) _ _ (op_call (lof_ok (by assumption)) ⟨(Lk.t rfl),  trivial⟩) <|
            .cons (.no) _ _ (op_call (sand_ok) ⟨(Lk.t rfl), (Lk.t rfl),  trivial⟩) <|
            .cons (.no) _ _ (op_move (Lk.t rfl)) <|
            .cons (.no) _ _ (op_extract (Lk.t rfl) rfl) <|
            .cons (.no) _ _ (op_extract (Lk.t rfl) rfl) <|
            .cons (.wr 4) _ _ (op_store_b 4 (Lk.t rfl) (Lk.t rfl) co_agg sz28 rfl rfl rfl) <|
            .cons (.no) _ _ (op_assign (Lk.t rfl)) <|
            .nil) (fun _ => mixed) rfl fun g13 => ⟨_, _, [0, 2, 3, 4], rfl, (.cons 2 rfl <| .cons 3 rfl <| .cons 7 rfl <| .cons 9 rfl <| .cons 11 rfl <| .cons 12 rfl <| .cons 13 rfl <| .cons 14 rfl <| .nil), (.cons 0 rfl <| .cons 2 rfl <| .cons 3 rfl <| .cons 4 rfl <| .nil), ?_⟩)
        refine JN_then ?_
        refine J_seq ?_
        refine J_seq (J_reg [] (
            .cons (.rd 3) _ _ (op_get_ag 3 ag28 (Lk.t rfl) rfl mem_blk rfl rfl) <|
            .cons (.no) _ _ (op_move (Lk.t rfl)) <|
            .cons (.rd 2) _ _ (op_get_ag 2 ag28 (Lk.t rfl) rfl mem_blk rfl rfl) <|
            .cons (.no) _ _ (op_move (Lk.t rfl)) <|
            .cons (.no) _ _ (op_call (ltold_ok) ⟨(Lk.t rfl), (Lk.t rfl), (Lk.t rfl), (Lk.t rfl),  trivial⟩) <|
            .cons (.no) _ _ (op_not (Lk.t rfl)) <|
            .nil) ff rfl fun g14 => ⟨_, _, [0, 1], rfl, (.cons 2 rfl <| .cons 3 rfl <| .cons 7 rfl <| .cons 9 rfl <| .cons 78 rfl <| .nil), (.cons 0 rfl <| .cons 1 rfl <| .nil), ?_⟩)
        refine JN_then ?_
        refine J_cond (cond_of (Lk.t rfl)) (fun h4 => ?_) (fun h4 => ?_)
        · have h4' := h4
          try simp only [cmpB, Bool.and_eq_true, Bool.or_eq_true, Bool.and_eq_false_iff, Bool.or_eq_false_iff, Bool.not_eq_true', Bool.not_eq_false', Bool.not_eq_true, Bool.not_eq_false, decide_eq_true_eq, decide_eq_false_iff_not, Int.not_lt, Int.not_le, beq_iff_eq, bne_iff_ne, beq_eq_false_iff_ne, bne_eq_false_iff_eq, ne_eq, Decidable.not_not] at h4
          exact (dead_told1 h4' (told_same fair_sand rfl fun _ => rfl)).elim
        · have h4' := h4
          try simp only [cmpB, Bool.and_eq_true, Bool.or_eq_true, Bool.and_eq_false_iff, Bool.or_eq_false_iff, Bool.not_eq_true', Bool.not_eq_false', Bool.not_eq_true, Bool.not_eq_false, decide_eq_true_eq, decide_eq_false_iff_not, Int.not_lt, Int.not_le, beq_iff_eq, bne_iff_ne, beq_eq_false_iff_ne, bne_eq_false_iff_eq, ne_eq, Decidable.not_not] at h4
          refine J_skip ?_
          refine JN_then ?_
          refine J_seq (J_reg [] (
              .cons (.rd 0) _ _ (op_get_ag 0 ag24 (Lk.t rfl) rfl mem_blk rfl rfl) <|
              .cons (.no) _ _ (op_call (lof_ok (by assumption)) ⟨(Lk.t rfl),  trivial⟩) <|
              .cons (.no) _ _ (op_move (Lk.t rfl)) <|
              .cons (.no) _ _ (op_call (l_ok (by assumption)) ⟨(Lk.t rfl),  trivial⟩) <|
              .cons (.no) _ _ (op_call (mv_ok) ⟨(Lk.t rfl), (Lk.t rfl),  trivial⟩) <|
              .cons (.no) _ _ (op_move (Lk.t rfl)) <|
              .cons (.no) _ _ (op_extract (Lk.t rfl) rfl) <|
              .cons (.no) _ _ (op_extract (Lk.t rfl) rfl) <|
              .cons (.no) _ _ (op_assign (Lk.t rfl)) <|
              .cons (.no) _ _ (op_assign (Lk.t rfl)) <|
              .nil) ff rfl fun g15 => ⟨_, _, [0, 1], rfl, (.cons 3 rfl <| .cons 7 rfl <| .cons 9 rfl <| .cons 14 rfl <| .cons 15 rfl <| .nil), (.cons 0 rfl <| .cons 1 rfl <| .nil), ?_⟩)
          refine JN_then ?_
          refine J_seq (J_reg [[], [0], [], [0, 1, 2], [], [4], [], [6], [4, 5, 6, 7], [0, 1, 2, 3, 4, 5, 6, 7, 8], [0, 1, 2, 3, 4, 5, 6, 7, 8, 9], [0, 1, 2, 3, 4, 5, 6, 7, 8, 9, 10], [0, 1, 2, 3, 4, 5, 6, 7, 8, 9, 10, 11]] (
              .cons (.rd 1) _ _ (op_get_ag 1 ag28 (Lk.t rfl) rfl mem_blk rfl rfl) <|
              .cons (.no) _ _ (op_call (rchk_ok) ⟨(Lk.t rfl),  trivial⟩) <|
              .cons (.no) _ _ (op_move (Lk.t rfl)) <|
              .cons (.no) _ _ (op_call (rlist_ok) ⟨(Lk.t rfl),  trivial⟩) <|
              .cons (.no) _ _ (op_field_own fd24_1 (Lk.t rfl) rfl) <|
              .cons (.rd 0) _ _ (op_get_sc 0 sc3 (Lk.t rfl) rfl mem_blk rfl) <|
              .cons (.no) _ _ (op_move (Lk.t rfl)) <|
              .cons (.no) _ _ (op_len_m sl26 (Lk.t rfl)) <|
              .cons (.no) _ _ (op_cmp (by simp) (Lk.t rfl) (Lk.t rfl) rfl) <|
              .cons (.no) _ _ (op_call (rif_ok) ⟨(Lk.t rfl), (Lk.k rfl),  trivial⟩) <|
              .cons (.no) _ _ (op_buildSlice sl88 zr3 rfl rfl rfl rfl (.cons rfl (Lk.t rfl) co_isv rfl (puts_l rfl (Nat.le_of_ble_eq_true rfl)) (.cons rfl (Lk.t rfl) co_isv rfl (puts_l rfl (Nat.le_of_ble_eq_true rfl)) (.cons rfl (Lk.t rfl) co_isv rfl (puts_l rfl (Nat.le_of_ble_eq_true rfl)) .nil)))) <|
              .cons (.no) _ _ (op_call (rfirst_ok3) ⟨(Lk.t rfl),  trivial⟩) <|
              .cons (.no) _ _ (op_assign (Lk.t rfl)) <|
              .nil) (fun _ => mixed) rfl fun g16 => ⟨_, _, [1], rfl, (.cons 7 rfl <| .cons 9 rfl <| .cons 12 rfl <| .cons 14 rfl <| .cons 15 rfl <| .nil), (.cons 1 rfl <| .nil), ?_⟩)
          refine JN_then ?_
          refine J_seq (J_reg [] (
              .cons (.no) _ _ (op_assign (Lk.k rfl)) <|
              .nil) ff rfl fun g17 => ⟨_, _, [0], rfl, (.cons 7 rfl <| .cons 9 rfl <| .cons 12 rfl <| .cons 14 rfl <| .cons 15 rfl <| .cons 16 rfl <| .nil), (.cons 0 rfl <| .nil), ?_⟩)
          refine JN_then ?_
          refine J_seq ?_
          refine J_seq (J_reg [] (
              .cons (.no) _ _ (op_move (Lk.t rfl)) <|
              .cons (.no) _ _ (op_cmp (by simp) (Lk.t rfl) (Lk.k rfl) rfl) <|
              .nil) ff rfl fun g18 => ⟨_, _, [0], rfl, (.cons 7 rfl <| .cons 9 rfl <| .cons 12 rfl <| .cons 14 rfl <| .cons 15 rfl <| .cons 16 rfl <| .cons 100 rfl <| .nil), (.cons 0 rfl <| .nil), ?_⟩)
          refine JN_then ?_
          refine J_cond (cond_of (Lk.t rfl)) (fun h5 => ?_) (fun h5 => ?_)
          · have h5' := h5
            try simp only [cmpB, Bool.and_eq_true, Bool.or_eq_true, Bool.and_eq_false_iff, Bool.or_eq_false_iff, Bool.not_eq_true', Bool.not_eq_false', Bool.not_eq_true, Bool.not_eq_false, decide_eq_true_eq, decide_eq_false_iff_not, Int.not_lt, Int.not_le, beq_iff_eq, bne_iff_ne, beq_eq_false_iff_ne, bne_eq_false_iff_eq, ne_eq, Decidable.not_not] at h5
            obtain ⟨hg, hl, _, _⟩ := mvE_good h5
            rw [List.length_map] at hl
            refine J_seq (J_reg [] (
                .cons (.rd 0) _ _ (op_get_ag 0 ag28 (Lk.t rfl) rfl mem_blk rfl rfl) <|
                .cons (.no) _ _ (op_move (Lk.t rfl)) <|
                .cons (.no) _ _ (op_call (rmv_ok hg (by rw [List.length_map]; exact hl)) ⟨(Lk.t rfl), (Lk.t rfl),  trivial⟩) <|
                .cons (.no) _ _ (op_assign (Lk.t rfl)) <|
                .nil) ff rfl fun g19 => ⟨_, _, [], rfl, (.cons 14 rfl <| .cons 15 rfl <| .cons 16 rfl <| .nil), (.nil), ?_⟩)
            refine JN_then ?_
            refine (J_reg [] (
                .cons (.no) _ _ (op_move (Lk.t rfl)) <|
                .cons (.no) _ _ (op_call (rall_ok) ⟨(Lk.t rfl),  trivial⟩) <|
                .cons (.no) _ _ (op_not (Lk.t rfl)) <|
                .cons (.no) _ _ (op_call (rif_ok) ⟨(Lk.t rfl), (Lk.k rfl),  trivial⟩) <|
                .cons (.no) _ _ (op_assign (Lk.t rfl)) <|
                .nil) ff rfl fun g20 => ⟨_, _, [], rfl, (.cons 12 rfl <| .cons 14 rfl <| .cons 15 rfl <| .cons 16 rfl <| .nil), (.nil), ?_⟩)
            refine JN_then ?_
            refine J_seq (J_reg [] (
                .cons (.no) _ _ (op_move (Lk.t rfl)) <|
                .cons (.no) _ _ (op_move (Lk.t rfl)) <|
                .cons (.no) _ _ (op_move (Lk.t rfl)) <|
                .cons (.no) _ _ (op_move (Lk.t rfl)) <|
                .cons (.no) _ _ (op_call (llist_ok) ⟨(Lk.t rfl), (Lk.t rfl), (Lk.t rfl), (Lk.t rfl),  trivial⟩) <|
                .cons (.no) _ _ (op_assign (Lk.t rfl)) <|
                .nil) ff rfl fun g21 => ⟨_, _, [], rfl, (.cons 6 rfl <| .nil), (.nil), ?_⟩)
            refine JN_then ?_
            refine J_ret ?_
            refine JN_ret (.cons (.tmp (Lk.t rfl)) <| .nil) (sb_trans (sb_res1 sb_refl) ?_)
            exact ret_b (mv_yes h5)
          · have h5' := h5
            try simp only [cmpB, Bool.and_eq_true, Bool.or_eq_true, Bool.and_eq_false_iff, Bool.or_eq_false_iff, Bool.not_eq_true', Bool.not_eq_false', Bool.not_eq_true, Bool.not_eq_false, decide_eq_true_eq, decide_eq_false_iff_not, Int.not_lt, Int.not_le, beq_iff_eq, bne_iff_ne, beq_eq_false_iff_ne, bne_eq_false_iff_eq, ne_eq, Decidable.not_not] at h5
            refine J_skip ?_
            refine JN_then ?_
            refine J_seq (J_reg [] (
                .cons (.no) _ _ (op_move (Lk.t rfl)) <|
                .cons (.no) _ _ (op_move (Lk.t rfl)) <|
                .cons (.no) _ _ (op_move (Lk.t rfl)) <|
                .cons (.no) _ _ (op_move (Lk.t rfl)) <|
                .cons (.no) _ _ (op_call (llist_ok) ⟨(Lk.t rfl), (Lk.t rfl), (Lk.sub (sb_nil (mk := flp)) (Lk.t rfl)), (Lk.t rfl),  trivial⟩) <|
                .cons (.no) _ _ (op_assign (Lk.t rfl)) <|
                .nil) ff rfl fun g22 => ⟨_, _, [], rfl, (.cons 6 rfl <| .nil), (.nil), ?_⟩)
            refine JN_then ?_
            refine J_ret ?_
            refine JN_ret (.cons (.tmp (Lk.t rfl)) <| .nil) (sb_trans (sb_res1 sb_refl) ?_)
            exact ret_b (mv_no h5)
      · have h3' := h3
        try simp only [cmpB, Bool.and_eq_true, Bool.or_eq_true, Bool.and_eq_false_iff, Bool.or_eq_false_iff, Bool.not_eq_true', Bool.not_eq_false', Bool.not_eq_true, Bool.not_eq_false, decide_eq_true_eq, decide_eq_false_iff_not, Int.not_lt, Int.not_le, beq_iff_eq, bne_iff_ne, beq_eq_false_iff_ne, bne_eq_false_iff_eq, ne_eq, Decidable.not_not] at h3
        exact absurd h1 h3
  · have h1' := h1
    try simp only [cmpB, Bool.and_eq_true, Bool.or_eq_true, Bool.and_eq_false_iff, Bool.or_eq_false_iff, Bool.not_eq_true', Bool.not_eq_false', Bool.not_eq_true, Bool.not_eq_false, decide_eq_true_eq, decide_eq_false_iff_not, Int.not_lt, Int.not_le, beq_iff_eq, bne_iff_ne, beq_eq_false_iff_ne, bne_eq_false_iff_eq, ne_eq, Decidable.not_not] at h1
    refine J_skip ?_
    refine JN_then ?_
    refine J_to (To.emps 1) ?_
    refine J_seq (J_reg [[], [0], [], [0, 1, 2], [0, 1, 2, 3], [0, 1, 2, 3, 4], [0, 1, 2, 3, 4, 5], [0, 1, 2, 3, 4, 5], [], [0, 1, 2, 3, 4, 5, 6, 8], [0, 1, 2, 3, 4, 5, 6, 7, 8, 9]] (
        .cons (.rd 0) _ _ (op_get_ag 0 ag24 (Lk.t rfl) rfl mem_blk rfl rfl) <|
        .cons (.no) _ _ (op_call (lof_ok (by assumption)) ⟨(Lk.t rfl),  trivial⟩) <|
        .cons (.rd 1) _ _ (op_get_ag 1 ag24 (Lk.t rfl) rfl mem_blk rfl rfl) <|
        .cons (.no) _ _ (op_call (lof_ok (by assumption)) ⟨(Lk.t rfl),  trivial⟩) <|
        .cons (.no) _ _ (op_call (mul_ok) ⟨(Lk.t rfl), (Lk.t rfl),  trivial⟩) <|
        .cons (.no) _ _ (op_move (Lk.t rfl)) <|
        .cons (.no) _ _ (op_extract (Lk.t rfl) rfl) <|
        .cons (.no) _ _ (op_extract (Lk.t rfl) rfl) <|
        .cons (.wr 5) _ _ (op_alloc 5 zr28 rfl rfl) <|
        .cons (.wr 5) _ _ (op_store_new 5 rfl (Lk.t rfl) co_agg sz28 rfl rfl) <|
        .cons (.no) _ _ (op_assign (Lk.t rfl)) <|
        .nil) (fun _ => mixed) rfl fun g23 => ⟨_, _, [0, 1, 2, 3, 4, 5], rfl, (.cons 2 rfl <| .cons 3 rfl <| .cons 4 rfl <| .cons 7 rfl <| .cons 8 rfl <| .cons 9 rfl <| .cons 10 rfl <| .cons 11 rfl <| .cons 12 rfl <| .cons 13 rfl <| .cons 14 rfl <| .nil), (.cons 0 rfl <| .cons 1 rfl <| .cons 2 rfl <| .cons 3 rfl <| .cons 4 rfl <| .cons 5 rfl <| .nil), ?_⟩)
    refine JN_then ?_
    refine J_seq ?_
    refine J_seq (J_reg [] (
        .cons (.rd 5) _ _ (op_get_ag 5 ag28 (Lk.t rfl) rfl mem_blk rfl rfl) <|
        .cons (.no) _ _ (op_move (Lk.t rfl)) <|
        .cons (.rd 4) _ _ (op_get_ag 4 ag28 (Lk.t rfl) rfl mem_blk rfl rfl) <|
        .cons (.no) _ _ (op_move (Lk.t rfl)) <|
        .cons (.no) _ _ (op_call (ltold_ok) ⟨(Lk.t rfl), (Lk.t rfl), (Lk.sub (sb_agg (.cons sb_refl <| .cons sb_refl <| .cons (sb_nil (mk := flp)) <| .nil)) (Lk.t rfl)), (Lk.t rfl),  trivial⟩) <|
        .cons (.no) _ _ (op_not (Lk.t rfl)) <|
        .cons (.no) _ _ (op_move (Lk.t rfl)) <|
        .cons (.no) _ _ (op_guard rfl rfl (gd_b rfl) (fun hC => (op_call (awake_ok) trivial))) <|
        .cons (.no) _ _ (op_guard rfl rfl (gd_b rfl) (fun hC => (op_not (Lk.w rfl hC)))) <|
        .cons (.no) _ _ (op_or (Lk.t rfl) (fun h2 => (Lk.w rfl h2))) <|
        .nil) ff rfl fun g24 => ⟨_, _, [0, 1, 2, 3, 4, 5], rfl, (.cons 2 rfl <| .cons 3 rfl <| .cons 4 rfl <| .cons 7 rfl <| .cons 8 rfl <| .cons 9 rfl <| .cons 10 rfl <| .cons 11 rfl <| .cons 13 rfl <| .cons 55 rfl <| .nil), (.cons 0 rfl <| .cons 1 rfl <| .cons 2 rfl <| .cons 3 rfl <| .cons 4 rfl <| .cons 5 rfl <| .nil), ?_⟩)
    refine JN_then ?_
    refine J_cond (cond_of (Lk.t rfl)) (fun h6 => ?_) (fun h6 => ?_)
    · have h6' := h6
      try simp only [cmpB, Bool.and_eq_true, Bool.or_eq_true, Bool.and_eq_false_iff, Bool.or_eq_false_iff, Bool.not_eq_true', Bool.not_eq_false', Bool.not_eq_true, Bool.not_eq_false, decide_eq_true_eq, decide_eq_false_iff_not, Int.not_lt, Int.not_le, beq_iff_eq, bne_iff_ne, beq_eq_false_iff_ne, bne_eq_false_iff_eq, ne_eq, Decidable.not_not] at h6
      exact (dead_told h6' (told_bad (mul_bad h1) h1) rfl).elim
    · have h6' := h6
      try simp only [cmpB, Bool.and_eq_true, Bool.or_eq_true, Bool.and_eq_false_iff, Bool.or_eq_false_iff, Bool.not_eq_true', Bool.not_eq_false', Bool.not_eq_true, Bool.not_eq_false, decide_eq_true_eq, decide_eq_false_iff_not, Int.not_lt, Int.not_le, beq_iff_eq, bne_iff_ne, beq_eq_false_iff_ne, bne_eq_false_iff_eq, ne_eq, Decidable.not_not] at h6
      refine J_skip ?_
      refine JN_then ?_
      refine J_seq (J_reg [] (
          .cons (.no) _ _ (op_move (Lk.t rfl)) <|
          .cons (.no) _ _ (op_assign (Lk.t rfl)) <|
          .nil) ff rfl fun g25 => ⟨_, _, [0, 1, 2, 3, 4, 5], rfl, (.cons 2 rfl <| .cons 3 rfl <| .cons 4 rfl <| .cons 7 rfl <| .cons 8 rfl <| .cons 9 rfl <| .cons 11 rfl <| .cons 12 rfl <| .cons 13 rfl <| .nil), (.cons 0 rfl <| .cons 1 rfl <| .cons 2 rfl <| .cons 3 rfl <| .cons 4 rfl <| .cons 5 rfl <| .nil), ?_⟩)
      refine JN_then ?_
      refine J_seq ?_
      refine J_seq (J_reg [] (
          .cons (.no) _ _ (op_move (Lk.t rfl)) <|
          .cons (.no) _ _ (op_cmp (by simp) (Lk.t rfl) (Lk.k rfl) rfl) <|
          .nil) ff rfl fun g26 => ⟨_, _, [0, 1, 2, 3, 4, 5], rfl, (.cons 2 rfl <| .cons 3 rfl <| .cons 4 rfl <| .cons 7 rfl <| .cons 8 rfl <| .cons 9 rfl <| .cons 11 rfl <| .cons 12 rfl <| .cons 13 rfl <| .cons 58 rfl <| .nil), (.cons 0 rfl <| .cons 1 rfl <| .cons 2 rfl <| .cons 3 rfl <| .cons 4 rfl <| .cons 5 rfl <| .nil), ?_⟩)
      refine JN_then ?_
      refine J_cond (cond_of (Lk.t rfl)) (fun h7 => ?_) (fun h7 => ?_)
      · have h7' := h7
        try simp only [cmpB, Bool.and_eq_true, Bool.or_eq_true, Bool.and_eq_false_iff, Bool.or_eq_false_iff, Bool.not_eq_true', Bool.not_eq_false', Bool.not_eq_true, Bool.not_eq_false, decide_eq_true_eq, decide_eq_false_iff_not, Int.not_lt, Int.not_le, beq_iff_eq, bne_iff_ne, beq_eq_false_iff_ne, bne_eq_false_iff_eq, ne_eq, Decidable.not_not] at h7
        exact absurd h7 (by simpa using h1)
      · have h7' := h7
        try simp only [cmpB, Bool.and_eq_true, Bool.or_eq_true, Bool.and_eq_false_iff, Bool.or_eq_false_iff, Bool.not_eq_true', Bool.not_eq_false', Bool.not_eq_true, Bool.not_eq_false, decide_eq_true_eq, decide_eq_false_iff_not, Int.not_lt, Int.not_le, beq_iff_eq, bne_iff_ne, beq_eq_false_iff_ne, bne_eq_false_iff_eq, ne_eq, Decidable.not_not] at h7
        refine J_skip ?_
        refine JN_then ?_
        refine J_seq (J_reg [[], [0], [], [0, 1, 2], [0, 1, 2, 3], [0, 1, 2, 3, 4], [0, 1, 2, 3, 4, 5], [0, 1, 2, 3, 4, 5], [0, 1, 2, 3, 4, 5, 6], [0, 1, 2, 3, 4, 5, 6, 7, 8]] (
            .cons (.rd 0) _ _ (op_get_ag 0 ag24 (Lk.t rfl) rfl mem_blk rfl rfl) <|
            .cons (.no) _ _ (op_call (lof_ok (by assumption)) ⟨(Lk.t rfl),  trivial⟩) <|
            .cons (.rd 1) _ _ (op_get_ag 1 ag24 (Lk.t rfl) rfl mem_blk rfl rfl) <|
            .cons (.no) _ _ (op_call (lof_ok (by assumption)) ⟨(Lk.t rfl),  trivial⟩) <|
            .cons (.no) _ _ (op_call (sand_ok) ⟨(Lk.t rfl), (Lk.t rfl),  trivial⟩) <|
            .cons (.no) _ _ (op_move (Lk.t rfl)) <|
            .cons (.no) _ _ (op_extract (Lk.t rfl) rfl) <|
            .cons (.no) _ _ (op_extract (Lk.t rfl) rfl) <|
            .cons (.wr 5) _ _ (op_store_b 5 (Lk.t rfl) (Lk.t rfl) co_agg sz28 rfl rfl rfl) <|
            .cons (.no) _ _ (op_assign (Lk.t rfl)) <|
            .nil) (fun _ => mixed) rfl fun g27 => ⟨_, _, [0, 2, 4, 5], rfl, (.cons 2 rfl <| .cons 3 rfl <| .cons 7 rfl <| .cons 9 rfl <| .cons 11 rfl <| .cons 12 rfl <| .cons 13 rfl <| .cons 14 rfl <| .nil), (.cons 0 rfl <| .cons 2 rfl <| .cons 4 rfl <| .cons 5 rfl <| .nil), ?_⟩)
        refine JN_then ?_
        refine J_seq ?_
        refine J_seq (J_reg [] (
            .cons (.rd 3) _ _ (op_get_ag 3 ag28 (Lk.t rfl) rfl mem_blk rfl rfl) <|
            .cons (.no) _ _ (op_move (Lk.t rfl)) <|
            .cons (.rd 2) _ _ (op_get_ag 2 ag28 (Lk.t rfl) rfl mem_blk rfl rfl) <|
            .cons (.no) _ _ (op_move (Lk.t rfl)) <|
            .cons (.no) _ _ (op_call (ltold_ok) ⟨(Lk.t rfl), (Lk.t rfl), (Lk.sub (sb_agg (.cons sb_refl <| .cons sb_refl <| .cons (sb_nil (mk := flp)) <| .nil)) (Lk.t rfl)), (Lk.t rfl),  trivial⟩) <|
            .cons (.no) _ _ (op_not (Lk.t rfl)) <|
            .nil) ff rfl fun g28 => ⟨_, _, [0, 1], rfl, (.cons 2 rfl <| .cons 3 rfl <| .cons 7 rfl <| .cons 9 rfl <| .cons 78 rfl <| .nil), (.cons 0 rfl <| .cons 1 rfl <| .nil), ?_⟩)
        refine JN_then ?_
        refine J_cond (cond_of (Lk.t rfl)) (fun h8 => ?_) (fun h8 => ?_)
        · have h8' := h8
          try simp only [cmpB, Bool.and_eq_true, Bool.or_eq_true, Bool.and_eq_false_iff, Bool.or_eq_false_iff, Bool.not_eq_true', Bool.not_eq_false', Bool.not_eq_true, Bool.not_eq_false, decide_eq_true_eq, decide_eq_false_iff_not, Int.not_lt, Int.not_le, beq_iff_eq, bne_iff_ne, beq_eq_false_iff_ne, bne_eq_false_iff_eq, ne_eq, Decidable.not_not] at h8
          exact (dead_told1 h8' (told_bad (sand_bad h1) h1)).elim
        · have h8' := h8
          try simp only [cmpB, Bool.and_eq_true, Bool.or_eq_true, Bool.and_eq_false_iff, Bool.or_eq_false_iff, Bool.not_eq_true', Bool.not_eq_false', Bool.not_eq_true, Bool.not_eq_false, decide_eq_true_eq, decide_eq_false_iff_not, Int.not_lt, Int.not_le, beq_iff_eq, bne_iff_ne, beq_eq_false_iff_ne, bne_eq_false_iff_eq, ne_eq, Decidable.not_not] at h8
          refine J_skip ?_
          refine JN_then ?_
          refine J_seq (J_reg [] (
              .cons (.rd 0) _ _ (op_get_ag 0 ag24 (Lk.t rfl) rfl mem_blk rfl rfl) <|
              .cons (.no) _ _ (op_call (lof_ok (by assumption)) ⟨(Lk.t rfl),  trivial⟩) <|
              .cons (.no) _ _ (op_move (Lk.t rfl)) <|
              .cons (.no) _ _ (op_call (l_ok (by assumption)) ⟨(Lk.t rfl),  trivial⟩) <|
              .cons (.no) _ _ (op_call (mv_ok) ⟨(Lk.t rfl), (Lk.t rfl),  trivial⟩) <|
              .cons (.no) _ _ (op_move (Lk.t rfl)) <|
              .cons (.no) _ _ (op_extract (Lk.t rfl) rfl) <|
              .cons (.no) _ _ (op_extract (Lk.t rfl) rfl) <|
              .cons (.no) _ _ (op_assign (Lk.t rfl)) <|
              .cons (.no) _ _ (op_assign (Lk.t rfl)) <|
              .nil) ff rfl fun g29 => ⟨_, _, [0, 1], rfl, (.cons 3 rfl <| .cons 7 rfl <| .cons 9 rfl <| .cons 14 rfl <| .cons 15 rfl <| .nil), (.cons 0 rfl <| .cons 1 rfl <| .nil), ?_⟩)
          refine JN_then ?_
          refine J_seq (J_reg [[], [0], [], [0, 1, 2], [], [4], [], [6], [4, 5, 6, 7], [0, 1, 2, 3, 4, 5, 6, 7, 8], [0, 1, 2, 3, 4, 5, 6, 7, 8, 9], [0, 1, 2, 3, 4, 5, 6, 7, 8, 9, 10], [0, 1, 2, 3, 4, 5, 6, 7, 8, 9, 10, 11]] (
              .cons (.rd 1) _ _ (op_get_ag 1 ag28 (Lk.t rfl) rfl mem_blk rfl rfl) <|
              .cons (.no) _ _ (op_call (rchk_ok) ⟨(Lk.t rfl),  trivial⟩) <|
              .cons (.no) _ _ (op_move (Lk.t rfl)) <|
              .cons (.no) _ _ (op_call (rlist_ok) ⟨(Lk.t rfl),  trivial⟩) <|
              .cons (.no) _ _ (op_field_own fd24_1 (Lk.t rfl) rfl) <|
              .cons (.rd 0) _ _ (op_get_sc 0 sc3 (Lk.t rfl) rfl mem_blk rfl) <|
              .cons (.no) _ _ (op_move (Lk.t rfl)) <|
              .cons (.no) _ _ (op_len_m sl26 (Lk.t rfl)) <|
              .cons (.no) _ _ (op_cmp (by simp) (Lk.t rfl) (Lk.t rfl) rfl) <|
              .cons (.no) _ _ (op_call (rif_ok) ⟨(Lk.t rfl), (Lk.k rfl),  trivial⟩) <|
              .cons (.no) _ _ (op_buildSlice sl88 zr3 rfl rfl rfl rfl (.cons rfl (Lk.t rfl) co_isv rfl (puts_l rfl (Nat.le_of_ble_eq_true rfl)) (.cons rfl (Lk.t rfl) co_isv rfl (puts_l rfl (Nat.le_of_ble_eq_true rfl)) (.cons rfl (Lk.t rfl) co_isv rfl (puts_l rfl (Nat.le_of_ble_eq_true rfl)) .nil)))) <|
              .cons (.no) _ _ (op_call (rfirst_ok3) ⟨(Lk.t rfl),  trivial⟩) <|
              .cons (.no) _ _ (op_assign (Lk.t rfl)) <|
              .nil) (fun _ => mixed) rfl fun g30 => ⟨_, _, [1], rfl, (.cons 7 rfl <| .cons 9 rfl <| .cons 12 rfl <| .cons 14 rfl <| .cons 15 rfl <| .nil), (.cons 1 rfl <| .nil), ?_⟩)
          refine JN_then ?_
          refine J_seq (J_reg [] (
              .cons (.no) _ _ (op_assign (Lk.k rfl)) <|
              .nil) ff rfl fun g31 => ⟨_, _, [0], rfl, (.cons 7 rfl <| .cons 9 rfl <| .cons 12 rfl <| .cons 14 rfl <| .cons 15 rfl <| .cons 16 rfl <| .nil), (.cons 0 rfl <| .nil), ?_⟩)
          refine JN_then ?_
          refine J_seq ?_
          refine J_seq (J_reg [] (
              .cons (.no) _ _ (op_move (Lk.t rfl)) <|
              .cons (.no) _ _ (op_cmp (by simp) (Lk.t rfl) (Lk.k rfl) rfl) <|
              .nil) ff rfl fun g32 => ⟨_, _, [0], rfl, (.cons 7 rfl <| .cons 9 rfl <| .cons 12 rfl <| .cons 14 rfl <| .cons 15 rfl <| .cons 16 rfl <| .cons 100 rfl <| .nil), (.cons 0 rfl <| .nil), ?_⟩)
          refine JN_then ?_
          refine J_cond (cond_of (Lk.t rfl)) (fun h9 => ?_) (fun h9 => ?_)
          · have h9' := h9
            try simp only [cmpB, Bool.and_eq_true, Bool.or_eq_true, Bool.and_eq_false_iff, Bool.or_eq_false_iff, Bool.not_eq_true', Bool.not_eq_false', Bool.not_eq_true, Bool.not_eq_false, decide_eq_true_eq, decide_eq_false_iff_not, Int.not_lt, Int.not_le, beq_iff_eq, bne_iff_ne, beq_eq_false_iff_ne, bne_eq_false_iff_eq, ne_eq, Decidable.not_not] at h9
            obtain ⟨hg, hl, _, _⟩ := mvE_good h9
            rw [List.length_map] at hl
            refine J_seq (J_reg [] (
                .cons (.rd 0) _ _ (op_get_ag 0 ag28 (Lk.t rfl) rfl mem_blk rfl rfl) <|
                .cons (.no) _ _ (op_move (Lk.t rfl)) <|
                .cons (.no) _ _ (op_call (rmv_ok hg (by rw [List.length_map]; exact hl)) ⟨(Lk.t rfl), (Lk.t rfl),  trivial⟩) <|
                .cons (.no) _ _ (op_assign (Lk.t rfl)) <|
                .nil) ff rfl fun g33 => ⟨_, _, [], rfl, (.cons 14 rfl <| .cons 15 rfl <| .cons 16 rfl <| .nil), (.nil), ?_⟩)
            refine JN_then ?_
            refine (J_reg [] (
                .cons (.no) _ _ (op_move (Lk.t rfl)) <|
                .cons (.no) _ _ (op_call (rall_ok) ⟨(Lk.t rfl),  trivial⟩) <|
                .cons (.no) _ _ (op_not (Lk.t rfl)) <|
                .cons (.no) _ _ (op_call (rif_ok) ⟨(Lk.t rfl), (Lk.k rfl),  trivial⟩) <|
                .cons (.no) _ _ (op_assign (Lk.t rfl)) <|
                .nil) ff rfl fun g34 => ⟨_, _, [], rfl, (.cons 12 rfl <| .cons 14 rfl <| .cons 15 rfl <| .cons 16 rfl <| .nil), (.nil), ?_⟩)
            refine JN_then ?_
            refine J_seq (J_reg [] (
                .cons (.no) _ _ (op_move (Lk.t rfl)) <|
                .cons (.no) _ _ (op_move (Lk.t rfl)) <|
                .cons (.no) _ _ (op_move (Lk.t rfl)) <|
                .cons (.no) _ _ (op_move (Lk.t rfl)) <|
                .cons (.no) _ _ (op_call (llist_ok) ⟨(Lk.t rfl), (Lk.t rfl), (Lk.t rfl), (Lk.t rfl),  trivial⟩) <|
                .cons (.no) _ _ (op_assign (Lk.t rfl)) <|
                .nil) ff rfl fun g35 => ⟨_, _, [], rfl, (.cons 6 rfl <| .nil), (.nil), ?_⟩)
            refine JN_then ?_
            refine J_ret ?_
            refine JN_ret (.cons (.tmp (Lk.t rfl)) <| .nil) (sb_trans (sb_res1 sb_refl) ?_)
            exact ret_b (mv_yes h9)
          · have h9' := h9
            try simp only [cmpB, Bool.and_eq_true, Bool.or_eq_true, Bool.and_eq_false_iff, Bool.or_eq_false_iff, Bool.not_eq_true', Bool.not_eq_false', Bool.not_eq_true, Bool.not_eq_false, decide_eq_true_eq, decide_eq_false_iff_not, Int.not_lt, Int.not_le, beq_iff_eq, bne_iff_ne, beq_eq_false_iff_ne, bne_eq_false_iff_eq, ne_eq, Decidable.not_not] at h9
            refine J_skip ?_
            refine JN_then ?_
            refine J_seq (J_reg [] (
                .cons (.no) _ _ (op_move (Lk.t rfl)) <|
                .cons (.no) _ _ (op_move (Lk.t rfl)) <|
                .cons (.no) _ _ (op_move (Lk.t rfl)) <|
                .cons (.no) _ _ (op_move (Lk.t rfl)) <|
                .cons (.no) _ _ (op_call (llist_ok) ⟨(Lk.t rfl), (Lk.t rfl), (Lk.sub (sb_nil (mk := flp)) (Lk.t rfl)), (Lk.t rfl),  trivial⟩) <|
                .cons (.no) _ _ (op_assign (Lk.t rfl)) <|
                .nil) ff rfl fun g36 => ⟨_, _, [], rfl, (.cons 6 rfl <| .nil), (.nil), ?_⟩)
            refine JN_then ?_
            refine J_ret ?_
            refine JN_ret (.cons (.tmp (Lk.t rfl)) <| .nil) (sb_trans (sb_res1 sb_refl) ?_)
            exact ret_b (mv_no h9)
end Go.Proofs.Ytdnemaecalghbaa
