/- Printed by a program of ours (walk.py): walks of what is symmetric, and of MatrixSymmetric. -/
import Derived.Test.YtdnemaecalghbaaTyp
import Derived.Test.YtdnemaecalghbaaProg
import Derived.KernelRfl
import Derived.Test.YtdnemaecalghbaaTypes
import Derived.Test.YtdnemaecalghbaaWLaw1
import Derived.Test.YtdnemaecalghbaaSym
set_option linter.unusedVariables false
set_option linter.unusedSimpArgs false
set_option maxRecDepth 20000
set_option maxHeartbeats 1000000
namespace Go.Proofs.Ytdnemaecalghbaa
open Go Go.Bn
attribute [local irreducible] OpOK
theorem sym_ok {r c : Int} {xs : List Nat} : Ct Try.prog 24 [MatP r c xs] (isv (.bool (symB r c xs))) := by
  refine Ct.of Try.func24 rfl (by kernel_rfl) rfl fun c0 => ?_
  refine J_to (To.emps 1) ?_
  refine J_seq (J_reg [] (
      .cons (.wr 0) _ _ (op_box 0 (Lk.t rfl) co_agg rfl) <|
      .cons (.no) _ _ (op_assign (Lk.k rfl)) <|
      .nil) ff rfl fun g1 => ⟨_, _, [0], rfl, (.cons 1 rfl <| .nil), (.cons 0 rfl <| .nil), ?_⟩)
  refine JN_then ?_
  refine J_seq ?_
  refine J_seq (J_reg [] (
      .cons (.rd 0) _ _ (op_get_ag 0 ag28 (Lk.t rfl) rfl mem_blk rfl rfl) <|
      .cons (.no) _ _ (op_call (chk_ok) ⟨(Lk.t rfl),  trivial⟩) <|
      .cons (.no) _ _ (op_cmp (by simp) (Lk.t rfl) (Lk.k rfl) rfl) <|
      .cons (.no) _ _ (op_move (Lk.t rfl)) <|
      .cons (.no) _ _ (op_guard rfl rfl (gd_b rfl) (fun hC => (op_field_own fd28_0 (Lk.t rfl) rfl))) <|
      .cons (.rd 0) _ _ (op_guard rfl rfl (gd_b rfl) (fun hC => (op_get_sc 0 sc3 (Lk.w rfl hC) rfl mem_blk rfl))) <|
      .cons (.no) _ _ (op_guard rfl rfl (gd_b rfl) (fun hC => (op_field_own fd28_1 (Lk.t rfl) rfl))) <|
      .cons (.rd 0) _ _ (op_guard rfl rfl (gd_b rfl) (fun hC => (op_get_sc 0 sc3 (Lk.w rfl hC) rfl mem_blk rfl))) <|
      .cons (.no) _ _ (op_guard rfl rfl (gd_b rfl) (fun hC => (op_cmp (by simp) (Lk.w rfl hC) (Lk.w rfl hC) rfl))) <|
      .cons (.no) _ _ (op_or (Lk.t rfl) (fun h2 => (Lk.w rfl h2))) <|
      .nil) ff rfl fun g2 => ⟨_, _, [0], rfl, (.cons 1 rfl <| .cons 14 rfl <| .nil), (.cons 0 rfl <| .nil), ?_⟩)
  refine JN_then ?_
  refine J_cond (cond_of (Lk.t rfl)) (fun h1 => ?_) (fun h1 => ?_)
  · have h1' := h1
    try simp only [cmpB, Bool.and_eq_true, Bool.or_eq_true, Bool.and_eq_false_iff, Bool.or_eq_false_iff, Bool.not_eq_true', Bool.not_eq_false', Bool.not_eq_true, Bool.not_eq_false, decide_eq_true_eq, decide_eq_false_iff_not, Int.not_lt, Int.not_le, beq_iff_eq, bne_iff_ne, beq_eq_false_iff_ne, bne_eq_false_iff_eq, ne_eq, Decidable.not_not] at h1
    refine J_seq (J_reg [] (
        .cons (.no) _ _ (op_assign (Lk.k rfl)) <|
        .nil) ff rfl fun g3 => ⟨_, _, [], rfl, (.cons 2 rfl <| .nil), (.nil), ?_⟩)
    refine JN_then ?_
    refine J_ret ?_
    refine JN_then_ret ?_
    refine JN_ret (.cons (.tmp (Lk.t rfl)) <| .nil) (sb_trans (sb_res1 sb_refl) ?_)
    exact ret_b (sym_no1 h1).symm
  · have h1' := h1
    try simp only [cmpB, Bool.and_eq_true, Bool.or_eq_true, Bool.and_eq_false_iff, Bool.or_eq_false_iff, Bool.not_eq_true', Bool.not_eq_false', Bool.not_eq_true, Bool.not_eq_false, decide_eq_true_eq, decide_eq_false_iff_not, Int.not_lt, Int.not_le, beq_iff_eq, bne_iff_ne, beq_eq_false_iff_ne, bne_eq_false_iff_eq, ne_eq, Decidable.not_not] at h1
    obtain ⟨hz1, hz2⟩ := h1
    have hg := chk_good hz1
    obtain ⟨hs1, hs2, hs3, hs4⟩ := hg.1
    refine J_skip ?_
    refine JN_then ?_
    refine J_seq ?_
    refine J_seq (J_reg [] (
        .cons (.no) _ _ (op_field_own fd28_0 (Lk.t rfl) rfl) <|
        .cons (.rd 0) _ _ (op_get_sc 0 sc3 (Lk.t rfl) rfl mem_blk rfl) <|
        .cons (.no) _ _ (op_move (Lk.k rfl)) <|
        .nil) ff rfl fun g4 => ⟨_, _, [0], rfl, (.cons 1 rfl <| .cons 16 rfl <| .cons 17 rfl <| .nil), (.cons 0 rfl <| .nil), ?_⟩)
    refine JN_then ?_
    refine J_block ?_
    refine J_loopc (α := Nat) (fun k => k ≤ r.toNat ∧ SymTo c xs k 0) (fun k => r.toNat - k) (fun k restR => (17, isv (.int .i64 (k : Int))) :: restR) (fun k restS => restS) (ρc := [(1, _), (16, _)]) (σc := [_]) 0 (by exact ⟨Nat.zero_le _, symTo_zero⟩) (To.pick (fun _ => .sub (t := 17) rfl (sp_eq (by rfl)) <| .cons 1 rfl <| .cons 16 rfl <| .nil) (fun _ => .cons 0 rfl <| .nil) (ks := [0]) rfl) (fun k hI => ?_)
    obtain ⟨hk, ha⟩ := hI
    refine J_seq (J_reg [] (
        .cons (.no) _ _ (op_cmp (by simp) (Lk.t rfl) (Lk.t rfl) rfl) <|
        .nil) ff rfl fun g5 => ⟨_, _, [0], rfl, (.cons 1 rfl <| .cons 16 rfl <| .cons 17 rfl <| .cons 18 rfl <| .nil), (.cons 0 rfl <| .nil), ?_⟩)
    refine JN_then ?_
    refine J_seq ?_
    refine J_cond (cond_of (Lk.t rfl)) (fun h2 => ?_) (fun h2 => ?_)
    · have h2' := h2
      try simp only [cmpB, Bool.and_eq_true, Bool.or_eq_true, Bool.and_eq_false_iff, Bool.or_eq_false_iff, Bool.not_eq_true', Bool.not_eq_false', Bool.not_eq_true, Bool.not_eq_false, decide_eq_true_eq, decide_eq_false_iff_not, Int.not_lt, Int.not_le, beq_iff_eq, bne_iff_ne, beq_eq_false_iff_ne, bne_eq_false_iff_eq, ne_eq, Decidable.not_not] at h2
      refine J_skip ?_
      refine JN_then ?_
      refine J_seq ?_
      refine J_block ?_
      refine J_seq (J_reg [] (
          .cons (.no) _ _ (op_move (Lk.t rfl)) <|
          .cons (.no) _ _ (op_assign (Lk.t rfl)) <|
          .nil) ff rfl fun g6 => ⟨_, _, [0], rfl, (.cons 1 rfl <| .cons 3 rfl <| .cons 16 rfl <| .cons 17 rfl <| .nil), (.cons 0 rfl <| .nil), ?_⟩)
      refine JN_then ?_
      refine J_seq (J_reg [] (
          .cons (.no) _ _ (op_move (Lk.t rfl)) <|
          .cons (.no) _ _ (op_move (Lk.k rfl)) <|
          .nil) ff rfl fun g7 => ⟨_, _, [0], rfl, (.cons 1 rfl <| .cons 3 rfl <| .cons 16 rfl <| .cons 17 rfl <| .cons 20 rfl <| .cons 21 rfl <| .nil), (.cons 0 rfl <| .nil), ?_⟩)
      refine JN_then ?_
      refine J_block ?_
      refine J_loopc (α := Nat) (fun q => q ≤ k ∧ SymTo c xs k q) (fun q => k - q) (fun q restR => (21, isv (.int .i64 (q : Int))) :: restR) (fun q restS => restS) (ρc := [(1, _), (3, _), (16, _), (17, _), (20, _)]) (σc := [_]) 0 (by exact ⟨Nat.zero_le _, ha⟩) (To.pick (fun _ => .sub (t := 21) rfl (sp_eq (by rfl)) <| .cons 1 rfl <| .cons 3 rfl <| .cons 16 rfl <| .cons 17 rfl <| .cons 20 rfl <| .nil) (fun _ => .cons 0 rfl <| .nil) (ks := [0]) rfl) (fun q hJ => ?_)
      obtain ⟨hq, hb⟩ := hJ
      refine J_seq (J_reg [] (
          .cons (.no) _ _ (op_cmp (by simp) (Lk.t rfl) (Lk.t rfl) rfl) <|
          .nil) ff rfl fun g8 => ⟨_, _, [0], rfl, (.cons 1 rfl <| .cons 3 rfl <| .cons 16 rfl <| .cons 17 rfl <| .cons 20 rfl <| .cons 21 rfl <| .cons 22 rfl <| .nil), (.cons 0 rfl <| .nil), ?_⟩)
      refine JN_then ?_
      refine J_seq ?_
      refine J_cond (cond_of (Lk.t rfl)) (fun h3 => ?_) (fun h3 => ?_)
      · have h3' := h3
        try simp only [cmpB, Bool.and_eq_true, Bool.or_eq_true, Bool.and_eq_false_iff, Bool.or_eq_false_iff, Bool.not_eq_true', Bool.not_eq_false', Bool.not_eq_true, Bool.not_eq_false, decide_eq_true_eq, decide_eq_false_iff_not, Int.not_lt, Int.not_le, beq_iff_eq, bne_iff_ne, beq_eq_false_iff_ne, bne_eq_false_iff_eq, ne_eq, Decidable.not_not] at h3
        refine J_skip ?_
        refine JN_then ?_
        refine J_seq ?_
        refine J_block ?_
        refine J_seq (J_reg [] (
            .cons (.no) _ _ (op_move (Lk.t rfl)) <|
            .cons (.no) _ _ (op_assign (Lk.t rfl)) <|
            .nil) ff rfl fun g9 => ⟨_, _, [0], rfl, (.cons 1 rfl <| .cons 3 rfl <| .cons 4 rfl <| .cons 16 rfl <| .cons 17 rfl <| .cons 20 rfl <| .cons 21 rfl <| .nil), (.cons 0 rfl <| .nil), ?_⟩)
        refine JN_then ?_
        refine J_seq (J_reg [[], [], [], [0, 1, 2], [], [], [], [0, 1, 2, 3, 4, 5, 6], [0, 1, 2, 3, 4, 5, 6, 7], [0, 1, 2, 3, 4, 5, 6, 7, 8]] (
            .cons (.rd 0) _ _ (op_get_ag 0 ag28 (Lk.t rfl) rfl mem_blk rfl rfl) <|
            .cons (.no) _ _ (op_move (Lk.t rfl)) <|
            .cons (.no) _ _ (op_move (Lk.t rfl)) <|
            .cons (.no) _ _ (op_call (at_ok hg ⟨by omega, by omega, by omega, by omega⟩) ⟨(Lk.t rfl), (Lk.t rfl), (Lk.t rfl),  trivial⟩) <|
            .cons (.rd 0) _ _ (op_get_ag 0 ag28 (Lk.t rfl) rfl mem_blk rfl rfl) <|
            .cons (.no) _ _ (op_move (Lk.t rfl)) <|
            .cons (.no) _ _ (op_move (Lk.t rfl)) <|
            .cons (.no) _ _ (op_call (at_ok hg ⟨by omega, by omega, by omega, by omega⟩) ⟨(Lk.t rfl), (Lk.t rfl), (Lk.t rfl),  trivial⟩) <|
            .cons (.no) _ _ (op_call (same_ok) ⟨(Lk.t rfl), (Lk.t rfl),  trivial⟩) <|
            .cons (.no) _ _ (op_not (Lk.t rfl)) <|
            .nil) (fun _ => mixed) rfl fun g10 => ⟨_, _, [0], rfl, (.cons 1 rfl <| .cons 3 rfl <| .cons 16 rfl <| .cons 17 rfl <| .cons 20 rfl <| .cons 21 rfl <| .cons 33 rfl <| .nil), (.cons 0 rfl <| .nil), ?_⟩)
        refine JN_then ?_
        refine J_cond (cond_of (Lk.t rfl)) (fun h4 => ?_) (fun h4 => ?_)
        · have h4' := h4
          try simp only [cmpB, Bool.and_eq_true, Bool.or_eq_true, Bool.and_eq_false_iff, Bool.or_eq_false_iff, Bool.not_eq_true', Bool.not_eq_false', Bool.not_eq_true, Bool.not_eq_false, decide_eq_true_eq, decide_eq_false_iff_not, Int.not_lt, Int.not_le, beq_iff_eq, bne_iff_ne, beq_eq_false_iff_ne, bne_eq_false_iff_eq, ne_eq, Decidable.not_not] at h4
          refine J_seq (J_reg [] (
              .cons (.no) _ _ (op_assign (Lk.k rfl)) <|
              .nil) ff rfl fun g11 => ⟨_, _, [], rfl, (.cons 2 rfl <| .nil), (.nil), ?_⟩)
          refine JN_then ?_
          refine J_ret ?_
          refine JN_block_ret ?_
          refine JN_then_ret ?_
          refine JN_then_ret ?_
          refine JN_block_ret ?_
          refine JN_block_ret ?_
          refine JN_then_ret ?_
          refine JN_then_ret ?_
          refine JN_block_ret ?_
          refine JN_then_ret ?_
          refine JN_ret (.cons (.tmp (Lk.t rfl)) <| .nil) (sb_trans (sb_res1 sb_refl) ?_)
          exact ret_b (sym_no2 (i := (k : Int)) (j := (q : Int)) (by omega) (by omega) (by omega) (by simpa using h4)).symm
        · have h4' := h4
          try simp only [cmpB, Bool.and_eq_true, Bool.or_eq_true, Bool.and_eq_false_iff, Bool.or_eq_false_iff, Bool.not_eq_true', Bool.not_eq_false', Bool.not_eq_true, Bool.not_eq_false, decide_eq_true_eq, decide_eq_false_iff_not, Int.not_lt, Int.not_le, beq_iff_eq, bne_iff_ne, beq_eq_false_iff_ne, bne_eq_false_iff_eq, ne_eq, Decidable.not_not] at h4
          refine J_skip ?_
          refine JN_block ?_
          refine JN_then ?_
          refine (J_reg [] (
              .cons (.no) _ _ (op_add (Lk.t rfl) (Lk.k rfl) (wrap_id (by omega) (by omega))) <|
              .cons (.no) _ _ (op_move (Lk.t rfl)) <|
              .nil) ff rfl fun g12 => ⟨_, _, [0], rfl, (.cons 1 rfl <| .cons 3 rfl <| .cons 16 rfl <| .cons 17 rfl <| .cons 20 rfl <| .cons 21 rfl <| .nil), (.cons 0 rfl <| .nil), ?_⟩)
          exact JN_again (q + 1) (by exact ⟨by omega, symTo_step hb (by simpa using h4)⟩) (by omega) (To.pick (fun _ => .sub (t := 21) rfl (sp_eq (by rfl)) <| .cons 1 rfl <| .cons 3 rfl <| .cons 16 rfl <| .cons 17 rfl <| .cons 20 rfl <| .nil) (fun _ => .cons 0 rfl <| .nil) (ks := [0]) rfl)
      · have h3' := h3
        try simp only [cmpB, Bool.and_eq_true, Bool.or_eq_true, Bool.and_eq_false_iff, Bool.or_eq_false_iff, Bool.not_eq_true', Bool.not_eq_false', Bool.not_eq_true, Bool.not_eq_false, decide_eq_true_eq, decide_eq_false_iff_not, Int.not_lt, Int.not_le, beq_iff_eq, bne_iff_ne, beq_eq_false_iff_ne, bne_eq_false_iff_eq, ne_eq, Decidable.not_not] at h3
        refine J_exit ?_
        refine JN_then_exit ?_
        refine JN_then_exit ?_
        refine JN_exit_here ?_
        refine JN_block ?_
        refine JN_then ?_
        refine (J_reg [] (
            .cons (.no) _ _ (op_add (Lk.t rfl) (Lk.k rfl) (wrap_id (by omega) (by omega))) <|
            .cons (.no) _ _ (op_move (Lk.t rfl)) <|
            .nil) ff rfl fun g13 => ⟨_, _, [0], rfl, (.cons 1 rfl <| .cons 16 rfl <| .cons 17 rfl <| .nil), (.cons 0 rfl <| .nil), ?_⟩)
        exact JN_again (k + 1) (by exact ⟨by omega, symTo_row (show q = k by omega) hb⟩) (by omega) (To.pick (fun _ => .sub (t := 17) rfl (sp_eq (by rfl)) <| .cons 1 rfl <| .cons 16 rfl <| .nil) (fun _ => .cons 0 rfl <| .nil) (ks := [0]) rfl)
    · have h2' := h2
      try simp only [cmpB, Bool.and_eq_true, Bool.or_eq_true, Bool.and_eq_false_iff, Bool.or_eq_false_iff, Bool.not_eq_true', Bool.not_eq_false', Bool.not_eq_true, Bool.not_eq_false, decide_eq_true_eq, decide_eq_false_iff_not, Int.not_lt, Int.not_le, beq_iff_eq, bne_iff_ne, beq_eq_false_iff_ne, bne_eq_false_iff_eq, ne_eq, Decidable.not_not] at h2
      refine J_exit ?_
      refine JN_then_exit ?_
      refine JN_then_exit ?_
      refine JN_exit_here ?_
      refine JN_then ?_
      refine J_seq (J_reg [] (
          .cons (.no) _ _ (op_assign (Lk.k rfl)) <|
          .nil) ff rfl fun g14 => ⟨_, _, [], rfl, (.cons 2 rfl <| .nil), (.nil), ?_⟩)
      refine JN_then ?_
      refine J_ret ?_
      refine JN_ret (.cons (.tmp (Lk.t rfl)) <| .nil) (sb_trans (sb_res1 sb_refl) ?_)
      exact ret_b (sym_yes hz1 hz2 (by omega) ha).symm
theorem symmetric_ok {r c r' c' : Int} {bs cs : List Nat} (hb : GoodU bs) (hc : GoodU cs) : Ct Try.prog 4 [MatU r c bs, MatU r' c' cs] (isv (.bool true)) := by
  refine Ct.of Try.func4 rfl (by kernel_rfl) rfl fun c0 => ?_
  refine J_to (To.emps 2) ?_
  refine J_seq (J_reg [] (
      .cons (.wr 0) _ _ (op_box 0 (Lk.t rfl) co_agg rfl) <|
      .cons (.wr 1) _ _ (op_box 1 (Lk.t rfl) co_agg rfl) <|
      .cons (.no) _ _ (op_assign (Lk.k rfl)) <|
      .nil) ff rfl fun g1 => ⟨_, _, [0, 1], rfl, (.cons 2 rfl <| .cons 3 rfl <| .nil), (.cons 0 rfl <| .cons 1 rfl <| .nil), ?_⟩)
  refine JN_then ?_
  refine J_seq ?_
  refine J_seq (J_reg [] (
      .cons (.no) _ _ (op_call (awake_ok) trivial) <|
      .cons (.no) _ _ (op_not (Lk.t rfl)) <|
      .nil) ff rfl fun g2 => ⟨_, _, [0, 1], rfl, (.cons 2 rfl <| .cons 3 rfl <| .cons 17 rfl <| .nil), (.cons 0 rfl <| .cons 1 rfl <| .nil), ?_⟩)
  refine JN_then ?_
  refine J_cond (cond_of (Lk.t rfl)) (fun h1 => ?_) (fun h1 => ?_)
  · have h1' := h1
    try simp only [cmpB, Bool.and_eq_true, Bool.or_eq_true, Bool.and_eq_false_iff, Bool.or_eq_false_iff, Bool.not_eq_true', Bool.not_eq_false', Bool.not_eq_true, Bool.not_eq_false, decide_eq_true_eq, decide_eq_false_iff_not, Int.not_lt, Int.not_le, beq_iff_eq, bne_iff_ne, beq_eq_false_iff_ne, bne_eq_false_iff_eq, ne_eq, Decidable.not_not] at h1
    cases h1'
  · have h1' := h1
    try simp only [cmpB, Bool.and_eq_true, Bool.or_eq_true, Bool.and_eq_false_iff, Bool.or_eq_false_iff, Bool.not_eq_true', Bool.not_eq_false', Bool.not_eq_true, Bool.not_eq_false, decide_eq_true_eq, decide_eq_false_iff_not, Int.not_lt, Int.not_le, beq_iff_eq, bne_iff_ne, beq_eq_false_iff_ne, bne_eq_false_iff_eq, ne_eq, Decidable.not_not] at h1
    refine J_skip ?_
    refine JN_then ?_
    refine J_to (To.emps 2) ?_
    refine J_seq (J_reg [[], [0], [], [0, 1, 2], [], [], [0, 1, 2, 3, 4, 5], [0, 1, 2, 3, 4, 5, 6]] (
        .cons (.rd 0) _ _ (op_get_ag 0 ag24 (Lk.t rfl) rfl mem_blk rfl rfl) <|
        .cons (.no) _ _ (op_call (lof_ok (by assumption)) ⟨(Lk.t rfl),  trivial⟩) <|
        .cons (.rd 1) _ _ (op_get_ag 1 ag24 (Lk.t rfl) rfl mem_blk rfl rfl) <|
        .cons (.no) _ _ (op_call (lof_ok (by assumption)) ⟨(Lk.t rfl),  trivial⟩) <|
        .cons (.wr 2) _ _ (op_alloc 2 zr28 rfl rfl) <|
        .cons (.wr 3) _ _ (op_alloc 3 zr28 rfl rfl) <|
        .cons (.wr 2) _ _ (op_store_new 2 rfl (Lk.t rfl) co_agg sz28 rfl rfl) <|
        .cons (.wr 3) _ _ (op_store_new 3 rfl (Lk.t rfl) co_agg sz28 rfl rfl) <|
        .nil) (fun _ => mixed) rfl fun g3 => ⟨_, _, [2, 3], rfl, (.cons 5 rfl <| .cons 6 rfl <| .nil), (.cons 2 rfl <| .cons 3 rfl <| .nil), ?_⟩)
    refine JN_then ?_
    refine J_seq ?_
    refine J_to (To.emps 1) ?_
    refine J_seq (J_reg [] (
        .cons (.rd 0) _ _ (op_get_ag 0 ag28 (Lk.t rfl) rfl mem_blk rfl rfl) <|
        .cons (.rd 1) _ _ (op_get_ag 1 ag28 (Lk.t rfl) rfl mem_blk rfl rfl) <|
        .cons (.no) _ _ (op_call (sand_ok) ⟨(Lk.t rfl), (Lk.t rfl),  trivial⟩) <|
        .cons (.no) _ _ (op_move (Lk.t rfl)) <|
        .cons (.no) _ _ (op_extract (Lk.t rfl) rfl) <|
        .cons (.no) _ _ (op_extract (Lk.t rfl) rfl) <|
        .cons (.wr 2) _ _ (op_alloc 2 zr28 rfl rfl) <|
        .cons (.wr 2) _ _ (op_store_new 2 rfl (Lk.t rfl) co_agg sz28 rfl rfl) <|
        .cons (.no) _ _ (op_assign (Lk.t rfl)) <|
        .nil) ff rfl fun g4 => ⟨_, _, [0, 2], rfl, (.cons 5 rfl <| .cons 7 rfl <| .cons 8 rfl <| .nil), (.cons 0 rfl <| .cons 2 rfl <| .nil), ?_⟩)
    refine JN_then ?_
    refine J_seq (J_reg [] (
        .cons (.no) _ _ (op_move (Lk.t rfl)) <|
        .cons (.no) _ _ (op_cmp (by simp) (Lk.t rfl) (Lk.k rfl) rfl) <|
        .cons (.no) _ _ (op_move (Lk.t rfl)) <|
        .cons (.rd 1) _ _ (op_guard rfl rfl (gd_b rfl) (fun hC => (op_get_ag 1 ag28 (Lk.t rfl) rfl mem_blk rfl rfl))) <|
        .cons (.no) _ _ (op_guard rfl rfl (gd_b rfl) (fun hC => (op_call (sym_ok) ⟨(Lk.w rfl hC),  trivial⟩))) <|
        .cons (.no) _ _ (op_guard rfl rfl (gd_b rfl) (fun hC => (op_not (Lk.w rfl hC)))) <|
        .cons (.no) _ _ (op_and (Lk.t rfl) (fun h2 => (Lk.w rfl h2))) <|
        .nil) ff rfl fun g5 => ⟨_, _, [0], rfl, (.cons 5 rfl <| .cons 34 rfl <| .nil), (.cons 0 rfl <| .nil), ?_⟩)
    refine JN_then ?_
    refine J_cond (cond_of (Lk.t rfl)) (fun h2 => ?_) (fun h2 => ?_)
    · have h2' := h2
      try simp only [cmpB, Bool.and_eq_true, Bool.or_eq_true, Bool.and_eq_false_iff, Bool.or_eq_false_iff, Bool.not_eq_true', Bool.not_eq_false', Bool.not_eq_true, Bool.not_eq_false, decide_eq_true_eq, decide_eq_false_iff_not, Int.not_lt, Int.not_le, beq_iff_eq, bne_iff_ne, beq_eq_false_iff_ne, bne_eq_false_iff_eq, ne_eq, Decidable.not_not] at h2
      exact (symm_2 sym_sand h2').elim
    · have h2' := h2
      try simp only [cmpB, Bool.and_eq_true, Bool.or_eq_true, Bool.and_eq_false_iff, Bool.or_eq_false_iff, Bool.not_eq_true', Bool.not_eq_false', Bool.not_eq_true, Bool.not_eq_false, decide_eq_true_eq, decide_eq_false_iff_not, Int.not_lt, Int.not_le, beq_iff_eq, bne_iff_ne, beq_eq_false_iff_ne, bne_eq_false_iff_eq, ne_eq, Decidable.not_not] at h2
      refine J_skip ?_
      refine JN_then ?_
      refine J_to (To.emps 1) ?_
      refine J_seq (J_reg [] (
          .cons (.rd 0) _ _ (op_get_ag 0 ag28 (Lk.t rfl) rfl mem_blk rfl rfl) <|
          .cons (.no) _ _ (op_call (mirr_ok) ⟨(Lk.t rfl),  trivial⟩) <|
          .cons (.no) _ _ (op_move (Lk.t rfl)) <|
          .cons (.no) _ _ (op_extract (Lk.t rfl) rfl) <|
          .cons (.no) _ _ (op_extract (Lk.t rfl) rfl) <|
          .cons (.wr 1) _ _ (op_alloc 1 zr28 rfl rfl) <|
          .cons (.wr 1) _ _ (op_store_new 1 rfl (Lk.t rfl) co_agg sz28 rfl rfl) <|
          .cons (.no) _ _ (op_assign (Lk.t rfl)) <|
          .nil) ff rfl fun g6 => ⟨_, _, [0, 1], rfl, (.cons 5 rfl <| .cons 9 rfl <| .cons 10 rfl <| .nil), (.cons 0 rfl <| .cons 1 rfl <| .nil), ?_⟩)
      refine JN_then ?_
      refine J_seq ?_
      refine J_seq (J_reg [] (
          .cons (.no) _ _ (op_move (Lk.t rfl)) <|
          .cons (.no) _ _ (op_cmp (by simp) (Lk.t rfl) (Lk.k rfl) rfl) <|
          .nil) ff rfl fun g7 => ⟨_, _, [0, 1], rfl, (.cons 5 rfl <| .cons 9 rfl <| .cons 41 rfl <| .nil), (.cons 0 rfl <| .cons 1 rfl <| .nil), ?_⟩)
      refine JN_then ?_
      refine J_cond (cond_of (Lk.t rfl)) (fun h3 => ?_) (fun h3 => ?_)
      · have h3' := h3
        try simp only [cmpB, Bool.and_eq_true, Bool.or_eq_true, Bool.and_eq_false_iff, Bool.or_eq_false_iff, Bool.not_eq_true', Bool.not_eq_false', Bool.not_eq_true, Bool.not_eq_false, decide_eq_true_eq, decide_eq_false_iff_not, Int.not_lt, Int.not_le, beq_iff_eq, bne_iff_ne, beq_eq_false_iff_ne, bne_eq_false_iff_eq, ne_eq, Decidable.not_not] at h3
        refine J_seq (J_reg [] (
            .cons (.rd 0) _ _ (op_get_ag 0 ag28 (Lk.t rfl) rfl mem_blk rfl rfl) <|
            .cons (.no) _ _ (op_call (chk_ok) ⟨(Lk.t rfl),  trivial⟩) <|
            .cons (.no) _ _ (op_cmp (by simp) (Lk.t rfl) (Lk.k rfl) rfl) <|
            .cons (.no) _ _ (op_move (Lk.t rfl)) <|
            .cons (.no) _ _ (op_guard rfl rfl (gd_b rfl) (fun hC => (op_field_own fd28_0 (Lk.t rfl) rfl))) <|
            .cons (.rd 0) _ _ (op_guard rfl rfl (gd_b rfl) (fun hC => (op_get_sc 0 sc3 (Lk.w rfl hC) rfl mem_blk rfl))) <|
            .cons (.no) _ _ (op_guard rfl rfl (gd_b rfl) (fun hC => (op_field_own fd28_1 (Lk.t rfl) rfl))) <|
            .cons (.rd 0) _ _ (op_guard rfl rfl (gd_b rfl) (fun hC => (op_get_sc 0 sc3 (Lk.w rfl hC) rfl mem_blk rfl))) <|
            .cons (.no) _ _ (op_guard rfl rfl (gd_b rfl) (fun hC => (op_cmp (by simp) (Lk.w rfl hC) (Lk.w rfl hC) rfl))) <|
            .cons (.no) _ _ (op_or (Lk.t rfl) (fun h2 => (Lk.w rfl h2))) <|
            .cons (.no) _ _ (op_assign (Lk.t rfl)) <|
            .nil) ff rfl fun g8 => ⟨_, _, [], rfl, (.cons 4 rfl <| .nil), (.nil), ?_⟩)
        refine JN_then ?_
        refine J_ret ?_
        refine JN_then_ret ?_
        refine JN_ret (.cons (.tmp (Lk.t rfl)) <| .nil) (sb_trans (sb_res1 sb_refl) ?_)
        exact ret_b (symm_3 h3)
      · have h3' := h3
        try simp only [cmpB, Bool.and_eq_true, Bool.or_eq_true, Bool.and_eq_false_iff, Bool.or_eq_false_iff, Bool.not_eq_true', Bool.not_eq_false', Bool.not_eq_true, Bool.not_eq_false, decide_eq_true_eq, decide_eq_false_iff_not, Int.not_lt, Int.not_le, beq_iff_eq, bne_iff_ne, beq_eq_false_iff_ne, bne_eq_false_iff_eq, ne_eq, Decidable.not_not] at h3
        refine J_skip ?_
        refine JN_then ?_
        refine J_to (To.emps 1) ?_
        refine J_seq (J_reg [] (
            .cons (.rd 0) _ _ (op_get_ag 0 ag28 (Lk.t rfl) rfl mem_blk rfl rfl) <|
            .cons (.no) _ _ (op_call (mean_ok) ⟨(Lk.t rfl),  trivial⟩) <|
            .cons (.no) _ _ (op_move (Lk.t rfl)) <|
            .cons (.no) _ _ (op_extract (Lk.t rfl) rfl) <|
            .cons (.no) _ _ (op_extract (Lk.t rfl) rfl) <|
            .cons (.wr 2) _ _ (op_alloc 2 zr28 rfl rfl) <|
            .cons (.wr 2) _ _ (op_store_new 2 rfl (Lk.t rfl) co_agg sz28 rfl rfl) <|
            .cons (.no) _ _ (op_assign (Lk.t rfl)) <|
            .nil) ff rfl fun g9 => ⟨_, _, [0, 1, 2], rfl, (.cons 5 rfl <| .cons 9 rfl <| .cons 11 rfl <| .cons 12 rfl <| .nil), (.cons 0 rfl <| .cons 1 rfl <| .cons 2 rfl <| .nil), ?_⟩)
        refine JN_then ?_
        refine J_seq ?_
        refine J_seq (J_reg [] (
            .cons (.rd 1) _ _ (op_get_ag 1 ag28 (Lk.t rfl) rfl mem_blk rfl rfl) <|
            .cons (.no) _ _ (op_call (sym_ok) ⟨(Lk.t rfl),  trivial⟩) <|
            .cons (.no) _ _ (op_not (Lk.t rfl)) <|
            .cons (.no) _ _ (op_move (Lk.t rfl)) <|
            .cons (.no) _ _ (op_guard rfl rfl (gd_b rfl) (fun hC => (op_move (Lk.t rfl)))) <|
            .cons (.no) _ _ (op_guard rfl rfl (gd_b rfl) (fun hC => (op_cmp (by simp) (Lk.w rfl hC) (Lk.k rfl) rfl))) <|
            .cons (.no) _ _ (op_guard rfl rfl (gd_b rfl) (fun hC => (op_move (Lk.w rfl hC)))) <|
            .cons (.rd 2) _ _ (op_guard rfl rfl (gd_w rfl) (fun hC => (op_get_ag 2 ag28 (Lk.t rfl) rfl mem_blk rfl rfl))) <|
            .cons (.no) _ _ (op_guard rfl rfl (gd_w rfl) (fun hC => (op_call (sym_ok) ⟨(Lk.w rfl hC),  trivial⟩))) <|
            .cons (.no) _ _ (op_guard rfl rfl (gd_w rfl) (fun hC => (op_not (Lk.w rfl hC)))) <|
            .cons (.no) _ _ (op_guard rfl rfl (gd_b rfl) (fun hC => (op_and (Lk.w rfl hC) (fun h2 => (Lk.w rfl ⟨hC, h2⟩))))) <|
            .cons (.no) _ _ (op_or (Lk.t rfl) (fun h2 => (Lk.w rfl h2))) <|
            .nil) ff rfl fun g10 => ⟨_, _, [0, 1], rfl, (.cons 5 rfl <| .cons 9 rfl <| .cons 68 rfl <| .nil), (.cons 0 rfl <| .cons 1 rfl <| .nil), ?_⟩)
        refine JN_then ?_
        refine J_cond (cond_of (Lk.t rfl)) (fun h4 => ?_) (fun h4 => ?_)
        · have h4' := h4
          try simp only [cmpB, Bool.and_eq_true, Bool.or_eq_true, Bool.and_eq_false_iff, Bool.or_eq_false_iff, Bool.not_eq_true', Bool.not_eq_false', Bool.not_eq_true, Bool.not_eq_false, decide_eq_true_eq, decide_eq_false_iff_not, Int.not_lt, Int.not_le, beq_iff_eq, bne_iff_ne, beq_eq_false_iff_ne, bne_eq_false_iff_eq, ne_eq, Decidable.not_not] at h4
          exact (symm_4 (sym_mirror h3) sym_mean h4').elim
        · have h4' := h4
          try simp only [cmpB, Bool.and_eq_true, Bool.or_eq_true, Bool.and_eq_false_iff, Bool.or_eq_false_iff, Bool.not_eq_true', Bool.not_eq_false', Bool.not_eq_true, Bool.not_eq_false, decide_eq_true_eq, decide_eq_false_iff_not, Int.not_lt, Int.not_le, beq_iff_eq, bne_iff_ne, beq_eq_false_iff_ne, bne_eq_false_iff_eq, ne_eq, Decidable.not_not] at h4
          refine J_skip ?_
          refine JN_then ?_
          refine J_to (To.emps 1) ?_
          refine J_seq (J_reg [] (
              .cons (.rd 1) _ _ (op_get_ag 1 ag28 (Lk.t rfl) rfl mem_blk rfl rfl) <|
              .cons (.no) _ _ (op_call (mean_ok) ⟨(Lk.t rfl),  trivial⟩) <|
              .cons (.no) _ _ (op_move (Lk.t rfl)) <|
              .cons (.no) _ _ (op_extract (Lk.t rfl) rfl) <|
              .cons (.no) _ _ (op_extract (Lk.t rfl) rfl) <|
              .cons (.wr 2) _ _ (op_alloc 2 zr28 rfl rfl) <|
              .cons (.wr 2) _ _ (op_store_new 2 rfl (Lk.t rfl) co_agg sz28 rfl rfl) <|
              .cons (.no) _ _ (op_assign (Lk.t rfl)) <|
              .nil) ff rfl fun g11 => ⟨_, _, [0, 1, 2], rfl, (.cons 5 rfl <| .cons 9 rfl <| .cons 12 rfl <| .cons 13 rfl <| .nil), (.cons 0 rfl <| .cons 1 rfl <| .cons 2 rfl <| .nil), ?_⟩)
          refine JN_then ?_
          refine J_to (To.emps 1) ?_
          refine J_seq (J_reg [] (
              .cons (.rd 1) _ _ (op_get_ag 1 ag28 (Lk.t rfl) rfl mem_blk rfl rfl) <|
              .cons (.no) _ _ (op_call (mirr_ok) ⟨(Lk.t rfl),  trivial⟩) <|
              .cons (.no) _ _ (op_move (Lk.t rfl)) <|
              .cons (.no) _ _ (op_extract (Lk.t rfl) rfl) <|
              .cons (.no) _ _ (op_extract (Lk.t rfl) rfl) <|
              .cons (.wr 3) _ _ (op_alloc 3 zr28 rfl rfl) <|
              .cons (.wr 3) _ _ (op_store_new 3 rfl (Lk.t rfl) co_agg sz28 rfl rfl) <|
              .cons (.no) _ _ (op_assign (Lk.t rfl)) <|
              .nil) ff rfl fun g12 => ⟨_, _, [0, 1, 2, 3], rfl, (.cons 5 rfl <| .cons 9 rfl <| .cons 12 rfl <| .cons 13 rfl <| .cons 14 rfl <| .cons 15 rfl <| .nil), (.cons 0 rfl <| .cons 1 rfl <| .cons 2 rfl <| .cons 3 rfl <| .nil), ?_⟩)
          refine JN_then ?_
          refine J_seq (J_reg [] (
              .cons (.no) _ _ (op_move (Lk.t rfl)) <|
              .cons (.no) _ _ (op_cmp (by simp) (Lk.t rfl) (Lk.k rfl) rfl) <|
              .cons (.no) _ _ (op_move (Lk.t rfl)) <|
              .cons (.rd 2) _ _ (op_guard rfl rfl (gd_b rfl) (fun hC => (op_get_ag 2 ag28 (Lk.t rfl) rfl mem_blk rfl rfl))) <|
              .cons (.rd 1) _ _ (op_guard rfl rfl (gd_b rfl) (fun hC => (op_get_ag 1 ag28 (Lk.t rfl) rfl mem_blk rfl rfl))) <|
              .cons (.no) _ _ (op_guard rfl rfl (gd_b rfl) (fun hC => (op_call (lalike_ok) ⟨(Lk.w rfl hC), (Lk.w rfl hC),  trivial⟩))) <|
              .cons (.no) _ _ (op_or (Lk.t rfl) (fun h2 => (Lk.w rfl h2))) <|
              .cons (.no) _ _ (op_move (Lk.t rfl)) <|
              .cons (.no) _ _ (op_guard rfl rfl (gd_b rfl) (fun hC => (op_move (Lk.t rfl)))) <|
              .cons (.no) _ _ (op_guard rfl rfl (gd_b rfl) (fun hC => (op_cmp (by simp) (Lk.w rfl hC) (Lk.k rfl) rfl))) <|
              .cons (.no) _ _ (op_and (Lk.t rfl) (fun h2 => (Lk.w rfl h2))) <|
              .cons (.no) _ _ (op_move (Lk.t rfl)) <|
              .cons (.rd 3) _ _ (op_guard rfl rfl (gd_b rfl) (fun hC => (op_get_ag 3 ag28 (Lk.t rfl) rfl mem_blk rfl rfl))) <|
              .cons (.rd 1) _ _ (op_guard rfl rfl (gd_b rfl) (fun hC => (op_get_ag 1 ag28 (Lk.t rfl) rfl mem_blk rfl rfl))) <|
              .cons (.no) _ _ (op_guard rfl rfl (gd_b rfl) (fun hC => (op_call (lalike_ok) ⟨(Lk.w rfl hC), (Lk.w rfl hC),  trivial⟩))) <|
              .cons (.no) _ _ (op_and (Lk.t rfl) (fun h2 => (Lk.w rfl h2))) <|
              .cons (.no) _ _ (op_move (Lk.t rfl)) <|
              .cons (.rd 0) _ _ (op_guard rfl rfl (gd_b rfl) (fun hC => (op_get_ag 0 ag28 (Lk.t rfl) rfl mem_blk rfl rfl))) <|
              .cons (.no) _ _ (op_guard rfl rfl (gd_b rfl) (fun hC => (op_call (sym_ok) ⟨(Lk.w rfl hC),  trivial⟩))) <|
              .cons (.no) _ _ (op_guard rfl rfl (gd_b rfl) (fun hC => (op_not (Lk.w rfl hC)))) <|
              .cons (.no) _ _ (op_guard rfl rfl (gd_b rfl) (fun hC => (op_move (Lk.w rfl hC)))) <|
              .cons (.rd 1) _ _ (op_guard rfl rfl (gd_w rfl) (fun hC => (op_get_ag 1 ag28 (Lk.t rfl) rfl mem_blk rfl rfl))) <|
              .cons (.rd 0) _ _ (op_guard rfl rfl (gd_w rfl) (fun hC => (op_get_ag 0 ag28 (Lk.t rfl) rfl mem_blk rfl rfl))) <|
              .cons (.no) _ _ (op_guard rfl rfl (gd_w rfl) (fun hC => (op_call (lalike_ok) ⟨(Lk.w rfl hC), (Lk.w rfl hC),  trivial⟩))) <|
              .cons (.no) _ _ (op_guard rfl rfl (gd_b rfl) (fun hC => (op_or (Lk.w rfl hC) (fun h2 => (Lk.w rfl ⟨hC, h2⟩))))) <|
              .cons (.no) _ _ (op_and (Lk.t rfl) (fun h2 => (Lk.w rfl h2))) <|
              .cons (.no) _ _ (op_assign (Lk.t rfl)) <|
              .nil) ff rfl fun g13 => ⟨_, _, [], rfl, (.cons 4 rfl <| .nil), (.nil), ?_⟩)
          refine JN_then ?_
          refine J_ret ?_
          refine JN_ret (.cons (.tmp (Lk.t rfl)) <| .nil) (sb_trans (sb_res1 sb_refl) ?_)
          exact ret_b (symm_fin (all_cn hb.1) rfl h3 rfl rfl)
end Go.Proofs.Ytdnemaecalghbaa
