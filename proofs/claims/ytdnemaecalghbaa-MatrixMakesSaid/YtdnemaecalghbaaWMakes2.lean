/- Printed by a program of ours (walk.py): the walk of MatrixMakes. -/
import Derived.Test.YtdnemaecalghbaaTyp
import Derived.Test.YtdnemaecalghbaaProg
import Derived.KernelRfl
import Derived.Test.YtdnemaecalghbaaTypes
import Derived.Test.YtdnemaecalghbaaWMakes
set_option linter.unusedVariables false
set_option linter.unusedSimpArgs false
set_option maxRecDepth 20000
set_option maxHeartbeats 1000000
namespace Go.Proofs.Ytdnemaecalghbaa
open Go Go.Bn
attribute [local irreducible] OpOK
theorem take_cns {rs : List (List Nat)} {k : Nat} (hk : k < rs.length) : (rs.map fun l => l.map cn).take (k + 1) = (rs.map fun l => l.map cn).take k ++ [(rs.getD k []).map cn] := by rw [take_snoc [] (by rw [List.length_map]; exact hk)]; congr 2; simp [List.getD, List.getElem?_map, List.getElem?_eq_getElem hk]
theorem makes_ok {r c n m : Int} {bs us : List Nat} {rs : List (List Nat)} (hb : GoodU bs) (hu : GoodU us) (hr : (∀ l, l ∈ rs → GoodU l) ∧ rs.length * 24 ≤ 140737488351232) : Ct Try.prog 9 [MatU r c bs, isv (.int .i64 n), isv (.int .i64 m), wsl us, slm wsl rs] (isv (.bool true)) := by
  refine Ct.of Try.func9 rfl (by kernel_rfl) rfl fun c0 => ?_
  have hr2 := hr.2
  refine J_to (To.emps 1) ?_
  refine J_seq (J_reg [] (
      .cons (.wr 0) _ _ (op_box 0 (Lk.t rfl) co_agg rfl) <|
      .cons (.no) _ _ (op_assign (Lk.k rfl)) <|
      .nil) ff rfl fun g1 => ⟨_, _, [0], rfl, (.cons 1 rfl <| .cons 2 rfl <| .cons 3 rfl <| .cons 4 rfl <| .cons 5 rfl <| .nil), (.cons 0 rfl <| .nil), ?_⟩)
  refine JN_then ?_
  refine J_seq (J_reg [] (
      .cons (.no) _ _ (op_assign (Lk.k rfl)) <|
      .nil) ff rfl fun g2 => ⟨_, _, [0], rfl, (.cons 1 rfl <| .cons 2 rfl <| .cons 3 rfl <| .cons 4 rfl <| .cons 5 rfl <| .cons 11 rfl <| .nil), (.cons 0 rfl <| .nil), ?_⟩)
  refine JN_then ?_
  refine J_seq ?_
  refine J_seq (J_reg [] (
      .cons (.no) _ _ (op_assign (Lk.k rfl)) <|
      .nil) ff rfl fun g3 => ⟨_, _, [0], rfl, (.cons 1 rfl <| .cons 2 rfl <| .cons 3 rfl <| .cons 4 rfl <| .cons 5 rfl <| .cons 11 rfl <| .cons 12 rfl <| .nil), (.cons 0 rfl <| .nil), ?_⟩)
  refine JN_then ?_
  refine J_block ?_
  refine J_to (To.emps 1) ?_
  refine J_loopc (α := Nat × Value) (fun x => x.1 ≤ rs.length) (fun x => rs.length - x.1) (fun x r => (12, isv (.int .i64 (x.1 : Int))) :: (11, isv x.2) :: r) (fun x s => som x.2 (slm flp) ((rs.map fun l => l.map cn).take x.1) 26 :: s) (ρc := [(1, _), (2, _), (3, _), (4, _), (5, _)]) (σc := [_]) (0, .slice none 0 0) (by exact Nat.zero_le _) (To.pick (fun _ => .sub (t := 12) rfl (sp_eq (by rfl)) <| .sub (t := 11) rfl (sp_eq (by rfl)) <| .cons 1 rfl <| .cons 2 rfl <| .cons 3 rfl <| .cons 4 rfl <| .cons 5 rfl <| .nil) (fun _ => .sub 1 rfl (som_nil) <| .cons 0 rfl <| .nil) (ks := [1, 0]) rfl) (fun x hI => ?_)
  obtain ⟨k, sv⟩ := x
  try simp only at hI
  show J _ _ ((12, isv (.int .i64 (k : Int))) :: (11, isv sv) :: _) (som sv (slm flp) ((rs.map fun l => l.map cn).take k) 26 :: _) _ _
  refine J_seq ?_
  refine J_seq (J_reg [] (
      .cons (.no) _ _ (op_move (Lk.t rfl)) <|
      .cons (.no) _ _ (op_move (Lk.t rfl)) <|
      .cons (.no) _ _ (op_len_m sl77 (Lk.t rfl)) <|
      .cons (.no) _ _ (op_cmp (by simp) (Lk.t rfl) (Lk.t rfl) rfl) <|
      .nil) ff rfl fun g4 => ⟨_, _, [0, 1], rfl, (.cons 1 rfl <| .cons 2 rfl <| .cons 3 rfl <| .cons 4 rfl <| .cons 5 rfl <| .cons 11 rfl <| .cons 12 rfl <| .cons 20 rfl <| .nil), (.cons 0 rfl <| .cons 1 rfl <| .nil), ?_⟩)
  refine JN_then ?_
  refine J_cond (cond_of (Lk.t rfl)) (fun h1 => ?_) (fun h1 => ?_)
  · have h1' := h1
    try simp only [cmpB, Bool.and_eq_true, Bool.or_eq_true, Bool.and_eq_false_iff, Bool.or_eq_false_iff, Bool.not_eq_true', Bool.not_eq_false', Bool.not_eq_true, Bool.not_eq_false, decide_eq_true_eq, decide_eq_false_iff_not, Int.not_lt, Int.not_le, beq_iff_eq, bne_iff_ne, beq_eq_false_iff_ne, bne_eq_false_iff_eq, ne_eq, Decidable.not_not] at h1
    refine J_skip ?_
    refine JN_then ?_
    refine J_seq ?_
    refine J_block ?_
    refine (J_reg [] (
        .cons (.no) _ _ (op_move (Lk.t rfl)) <|
        .cons (.no) _ _ (op_move (Lk.t rfl)) <|
        .cons (.no) _ _ (op_move (Lk.t rfl)) <|
        .cons (.no) _ _ (op_index_m [] sl77 (Lk.t rfl) (Lk.t rfl) (by omega) (by omega)) <|
        .cons (.no) _ _ (op_load_sc sc22 (Lk.t rfl) rfl) <|
        .cons (.no) _ _ (op_call (l_ok (hr.1 _ (mem_getD [] (by omega)))) ⟨(Lk.t rfl),  trivial⟩) <|
        .cons (.no) _ _ (op_buildSlice sl78 zr26 rfl rfl rfl rfl (.cons rfl (Lk.t rfl) co_slm rfl (puts_l rfl (Nat.le_of_ble_eq_true rfl)) .nil)) <|
        .cons (.wr 0) _ _ (op_append_m 0 sl78 zr26 rfl (Lk.t rfl) (Lk.t rfl) rfl (by rw [List.length_take, List.length_map]; omega) (by rw [List.length_take, List.length_map]; omega)) <|
        .cons (.no) _ _ (op_assign_ve rfl rfl) <|
        .nil) ff rfl fun g5 => ⟨_, _, [0, 1], rfl, (.cons 1 rfl <| .cons 2 rfl <| .cons 3 rfl <| .cons 4 rfl <| .cons 5 rfl <| .cons 11 rfl <| .cons 12 rfl <| .nil), (.cons 0 rfl <| .cons 1 rfl <| .nil), ?_⟩)
    refine JN_block ?_
    refine JN_then ?_
    refine (J_reg [] (
        .cons (.no) _ _ (op_move (Lk.t rfl)) <|
        .cons (.no) _ _ (op_add (Lk.t rfl) (Lk.k rfl) (wrap_id (by omega) (by omega))) <|
        .cons (.no) _ _ (op_assign (Lk.t rfl)) <|
        .nil) ff rfl fun g6 => ⟨_, _, [0, 1], rfl, (.cons 1 rfl <| .cons 2 rfl <| .cons 3 rfl <| .cons 4 rfl <| .cons 5 rfl <| .cons 11 rfl <| .cons 12 rfl <| .nil), (.cons 0 rfl <| .cons 1 rfl <| .nil), ?_⟩)
    exact JN_again (k + 1, g5 30) (by exact (show k + 1 ≤ rs.length by omega)) (by show rs.length - (_ + 1) < _; omega) (To.pick (fun _ => .sub (t := 12) rfl (sp_eq (by rfl)) <| .sub (t := 11) rfl (sp_eq (by rfl)) <| .cons 1 rfl <| .cons 2 rfl <| .cons 3 rfl <| .cons 4 rfl <| .cons 5 rfl <| .nil) (fun _ => .sub 0 rfl ((res_eq (by rw [show (rs.map fun l => l.map cn).take (k + 1) = _ from take_cns (by omega)]; rfl))) <| .cons 1 rfl <| .nil) (ks := [0, 1]) rfl)
  · have h1' := h1
    try simp only [cmpB, Bool.and_eq_true, Bool.or_eq_true, Bool.and_eq_false_iff, Bool.or_eq_false_iff, Bool.not_eq_true', Bool.not_eq_false', Bool.not_eq_true, Bool.not_eq_false, decide_eq_true_eq, decide_eq_false_iff_not, Int.not_lt, Int.not_le, beq_iff_eq, bne_iff_ne, beq_eq_false_iff_ne, bne_eq_false_iff_eq, ne_eq, Decidable.not_not] at h1
    refine J_exit ?_
    refine JN_then_exit ?_
    refine JN_then_exit ?_
    refine JN_exit_here ?_
    refine JN_then ?_
    refine J_seq ?_
    refine J_seq (J_reg [[], [0], [0, 1], [], [0, 1, 2, 3], [0, 1, 2, 3, 4], [0, 1, 2, 3, 4, 5], [0, 1, 2, 3, 4, 5, 6], [0, 1, 2, 3, 4, 5, 6, 7], [0, 1, 2, 3, 4, 5, 6, 7, 8], [0, 1, 2, 3, 4, 5, 6, 7, 8, 9]] (
        .cons (.rd 1) _ _ (op_get_ag 1 ag24 (Lk.t rfl) rfl mem_blk rfl rfl) <|
        .cons (.no) _ _ (op_call (lof_ok (by assumption)) ⟨(Lk.t rfl),  trivial⟩) <|
        .cons (.no) _ _ (op_call (chk_ok) ⟨(Lk.t rfl),  trivial⟩) <|
        .cons (.rd 1) _ _ (op_get_ag 1 ag24 (Lk.t rfl) rfl mem_blk rfl rfl) <|
        .cons (.no) _ _ (op_call (lof_ok (by assumption)) ⟨(Lk.t rfl),  trivial⟩) <|
        .cons (.no) _ _ (op_call (rchk_ok) ⟨(Lk.t rfl),  trivial⟩) <|
        .cons (.no) _ _ (op_cmp (by simp) (Lk.t rfl) (Lk.t rfl) rfl) <|
        .cons (.no) _ _ (op_move (Lk.t rfl)) <|
        .cons (.no) _ _ (op_guard rfl rfl (gd_b rfl) (fun hC => (op_call (awake_ok) trivial))) <|
        .cons (.no) _ _ (op_guard rfl rfl (gd_b rfl) (fun hC => (op_not (Lk.w rfl hC)))) <|
        .cons (.no) _ _ (op_or (Lk.t rfl) (fun h2 => (Lk.w rfl h2))) <|
        .nil) (fun _ => mixed) rfl fun g7 => ⟨_, _, [0], rfl, (.cons 1 rfl <| .cons 2 rfl <| .cons 3 rfl <| .cons 11 rfl <| .cons 41 rfl <| .nil), (.cons 0 rfl <| .nil), ?_⟩)
    refine JN_then ?_
    refine J_cond (cond_of (Lk.t rfl)) (fun h2 => ?_) (fun h2 => ?_)
    · have h2' := h2
      try simp only [cmpB, Bool.and_eq_true, Bool.or_eq_true, Bool.and_eq_false_iff, Bool.or_eq_false_iff, Bool.not_eq_true', Bool.not_eq_false', Bool.not_eq_true, Bool.not_eq_false, decide_eq_true_eq, decide_eq_false_iff_not, Int.not_lt, Int.not_le, beq_iff_eq, bne_iff_ne, beq_eq_false_iff_ne, bne_eq_false_iff_eq, ne_eq, Decidable.not_not] at h2
      exact absurd h2' (by simp [cmpB])
    · have h2' := h2
      try simp only [cmpB, Bool.and_eq_true, Bool.or_eq_true, Bool.and_eq_false_iff, Bool.or_eq_false_iff, Bool.not_eq_true', Bool.not_eq_false', Bool.not_eq_true, Bool.not_eq_false, decide_eq_true_eq, decide_eq_false_iff_not, Int.not_lt, Int.not_le, beq_iff_eq, bne_iff_ne, beq_eq_false_iff_ne, bne_eq_false_iff_eq, ne_eq, Decidable.not_not] at h2
      refine J_skip ?_
      refine JN_then ?_
      refine J_to (To.emps 1) ?_
      refine J_seq (J_reg [] (
          .cons (.no) _ _ (op_move (Lk.t rfl)) <|
          .cons (.no) _ _ (op_move (Lk.t rfl)) <|
          .cons (.no) _ _ (op_call (zero_ok) ⟨(Lk.t rfl), (Lk.t rfl),  trivial⟩) <|
          .cons (.no) _ _ (op_move (Lk.t rfl)) <|
          .cons (.no) _ _ (op_extract (Lk.t rfl) rfl) <|
          .cons (.no) _ _ (op_extract (Lk.t rfl) rfl) <|
          .cons (.wr 1) _ _ (op_alloc 1 zr28 rfl rfl) <|
          .cons (.wr 1) _ _ (op_store_new 1 rfl (Lk.t rfl) co_agg sz28 rfl rfl) <|
          .cons (.no) _ _ (op_assign (Lk.t rfl)) <|
          .nil) ff rfl fun g8 => ⟨_, _, [0, 1], rfl, (.cons 1 rfl <| .cons 2 rfl <| .cons 3 rfl <| .cons 11 rfl <| .cons 13 rfl <| .cons 14 rfl <| .nil), (.cons 0 rfl <| .cons 1 rfl <| .nil), ?_⟩)
      refine JN_then ?_
      refine J_to (To.emps 1) ?_
      refine J_seq (J_reg [] (
          .cons (.no) _ _ (op_move (Lk.t rfl)) <|
          .cons (.no) _ _ (op_move (Lk.t rfl)) <|
          .cons (.no) _ _ (op_call (rzero_ok) ⟨(Lk.t rfl), (Lk.t rfl),  trivial⟩) <|
          .cons (.no) _ _ (op_move (Lk.t rfl)) <|
          .cons (.no) _ _ (op_extract (Lk.t rfl) rfl) <|
          .cons (.no) _ _ (op_extract (Lk.t rfl) rfl) <|
          .cons (.wr 2) _ _ (op_alloc 2 zr28 rfl rfl) <|
          .cons (.wr 2) _ _ (op_store_new 2 rfl (Lk.t rfl) co_agg sz28 rfl rfl) <|
          .cons (.no) _ _ (op_assign (Lk.t rfl)) <|
          .nil) ff rfl fun g9 => ⟨_, _, [0, 1, 2], rfl, (.cons 1 rfl <| .cons 3 rfl <| .cons 11 rfl <| .cons 13 rfl <| .cons 14 rfl <| .cons 15 rfl <| .cons 16 rfl <| .nil), (.cons 0 rfl <| .cons 1 rfl <| .cons 2 rfl <| .nil), ?_⟩)
      refine JN_then ?_
      refine J_seq ?_
      refine J_seq (J_reg [] (
          .cons (.rd 1) _ _ (op_get_ag 1 ag28 (Lk.t rfl) rfl mem_blk rfl rfl) <|
          .cons (.no) _ _ (op_move (Lk.t rfl)) <|
          .cons (.rd 2) _ _ (op_get_ag 2 ag28 (Lk.t rfl) rfl mem_blk rfl rfl) <|
          .cons (.no) _ _ (op_move (Lk.t rfl)) <|
          .cons (.no) _ _ (op_call (ltold_ok) ⟨(Lk.t rfl), (Lk.t rfl), (Lk.t rfl), (Lk.t rfl),  trivial⟩) <|
          .cons (.no) _ _ (op_not (Lk.t rfl)) <|
          .nil) ff rfl fun g10 => ⟨_, _, [0, 1, 2], rfl, (.cons 1 rfl <| .cons 3 rfl <| .cons 11 rfl <| .cons 13 rfl <| .cons 15 rfl <| .cons 59 rfl <| .nil), (.cons 0 rfl <| .cons 1 rfl <| .cons 2 rfl <| .nil), ?_⟩)
      refine JN_then ?_
      refine J_cond (cond_of (Lk.t rfl)) (fun h3 => ?_) (fun h3 => ?_)
      · have h3' := h3
        try simp only [cmpB, Bool.and_eq_true, Bool.or_eq_true, Bool.and_eq_false_iff, Bool.or_eq_false_iff, Bool.not_eq_true', Bool.not_eq_false', Bool.not_eq_true, Bool.not_eq_false, decide_eq_true_eq, decide_eq_false_iff_not, Int.not_lt, Int.not_le, beq_iff_eq, bne_iff_ne, beq_eq_false_iff_ne, bne_eq_false_iff_eq, ne_eq, Decidable.not_not] at h3
        exact (dead_told1 h3' (told_same fair_zero rfl fun _ => rfl)).elim
      · have h3' := h3
        try simp only [cmpB, Bool.and_eq_true, Bool.or_eq_true, Bool.and_eq_false_iff, Bool.or_eq_false_iff, Bool.not_eq_true', Bool.not_eq_false', Bool.not_eq_true, Bool.not_eq_false, decide_eq_true_eq, decide_eq_false_iff_not, Int.not_lt, Int.not_le, beq_iff_eq, bne_iff_ne, beq_eq_false_iff_ne, bne_eq_false_iff_eq, ne_eq, Decidable.not_not] at h3
        refine J_skip ?_
        refine JN_then ?_
        refine J_seq (J_reg [] (
            .cons (.no) _ _ (op_move (Lk.t rfl)) <|
            .cons (.no) _ _ (op_call (Eye_ok) ⟨(Lk.t rfl),  trivial⟩) <|
            .cons (.no) _ _ (op_move (Lk.t rfl)) <|
            .cons (.no) _ _ (op_extract (Lk.t rfl) rfl) <|
            .cons (.no) _ _ (op_extract (Lk.t rfl) rfl) <|
            .cons (.wr 1) _ _ (op_store_b 1 (Lk.t rfl) (Lk.t rfl) co_agg sz28 rfl rfl rfl) <|
            .cons (.no) _ _ (op_assign (Lk.t rfl)) <|
            .nil) ff rfl fun g11 => ⟨_, _, [0, 1, 2], rfl, (.cons 1 rfl <| .cons 3 rfl <| .cons 11 rfl <| .cons 13 rfl <| .cons 14 rfl <| .cons 15 rfl <| .nil), (.cons 0 rfl <| .cons 1 rfl <| .cons 2 rfl <| .nil), ?_⟩)
        refine JN_then ?_
        refine J_seq (J_reg [] (
            .cons (.no) _ _ (op_move (Lk.t rfl)) <|
            .cons (.no) _ _ (op_call (reye_ok) ⟨(Lk.t rfl),  trivial⟩) <|
            .cons (.no) _ _ (op_move (Lk.t rfl)) <|
            .cons (.no) _ _ (op_extract (Lk.t rfl) rfl) <|
            .cons (.no) _ _ (op_extract (Lk.t rfl) rfl) <|
            .cons (.wr 2) _ _ (op_store_b 2 (Lk.t rfl) (Lk.t rfl) co_agg sz28 rfl rfl rfl) <|
            .cons (.no) _ _ (op_assign (Lk.t rfl)) <|
            .nil) ff rfl fun g12 => ⟨_, _, [0, 1, 2], rfl, (.cons 3 rfl <| .cons 11 rfl <| .cons 13 rfl <| .cons 14 rfl <| .cons 15 rfl <| .cons 16 rfl <| .nil), (.cons 0 rfl <| .cons 1 rfl <| .cons 2 rfl <| .nil), ?_⟩)
        refine JN_then ?_
        refine J_seq ?_
        refine J_seq (J_reg [] (
            .cons (.rd 1) _ _ (op_get_ag 1 ag28 (Lk.t rfl) rfl mem_blk rfl rfl) <|
            .cons (.no) _ _ (op_move (Lk.t rfl)) <|
            .cons (.rd 2) _ _ (op_get_ag 2 ag28 (Lk.t rfl) rfl mem_blk rfl rfl) <|
            .cons (.no) _ _ (op_move (Lk.t rfl)) <|
            .cons (.no) _ _ (op_call (ltold_ok) ⟨(Lk.t rfl), (Lk.t rfl), (Lk.t rfl), (Lk.t rfl),  trivial⟩) <|
            .cons (.no) _ _ (op_not (Lk.t rfl)) <|
            .nil) ff rfl fun g13 => ⟨_, _, [0, 1, 2], rfl, (.cons 3 rfl <| .cons 11 rfl <| .cons 13 rfl <| .cons 15 rfl <| .cons 75 rfl <| .nil), (.cons 0 rfl <| .cons 1 rfl <| .cons 2 rfl <| .nil), ?_⟩)
        refine JN_then ?_
        refine J_cond (cond_of (Lk.t rfl)) (fun h4 => ?_) (fun h4 => ?_)
        · have h4' := h4
          try simp only [cmpB, Bool.and_eq_true, Bool.or_eq_true, Bool.and_eq_false_iff, Bool.or_eq_false_iff, Bool.not_eq_true', Bool.not_eq_false', Bool.not_eq_true, Bool.not_eq_false, decide_eq_true_eq, decide_eq_false_iff_not, Int.not_lt, Int.not_le, beq_iff_eq, bne_iff_ne, beq_eq_false_iff_ne, bne_eq_false_iff_eq, ne_eq, Decidable.not_not] at h4
          exact (dead_told1 h4' (told_same fair_eye rfl fun _ => rfl)).elim
        · have h4' := h4
          try simp only [cmpB, Bool.and_eq_true, Bool.or_eq_true, Bool.and_eq_false_iff, Bool.or_eq_false_iff, Bool.not_eq_true', Bool.not_eq_false', Bool.not_eq_true, Bool.not_eq_false, decide_eq_true_eq, decide_eq_false_iff_not, Int.not_lt, Int.not_le, beq_iff_eq, bne_iff_ne, beq_eq_false_iff_ne, bne_eq_false_iff_eq, ne_eq, Decidable.not_not] at h4
          refine J_skip ?_
          refine JN_then ?_
          refine J_seq (J_reg [] (
              .cons (.no) _ _ (op_move (Lk.t rfl)) <|
              .cons (.no) _ _ (op_call (l_ok (by assumption)) ⟨(Lk.t rfl),  trivial⟩) <|
              .cons (.no) _ _ (op_call (diag_ok) ⟨(Lk.t rfl),  trivial⟩) <|
              .cons (.no) _ _ (op_move (Lk.t rfl)) <|
              .cons (.no) _ _ (op_extract (Lk.t rfl) rfl) <|
              .cons (.no) _ _ (op_extract (Lk.t rfl) rfl) <|
              .cons (.wr 1) _ _ (op_store_b 1 (Lk.t rfl) (Lk.t rfl) co_agg sz28 rfl rfl rfl) <|
              .cons (.no) _ _ (op_assign (Lk.t rfl)) <|
              .nil) ff rfl fun g14 => ⟨_, _, [0, 1, 2], rfl, (.cons 3 rfl <| .cons 11 rfl <| .cons 13 rfl <| .cons 14 rfl <| .cons 15 rfl <| .nil), (.cons 0 rfl <| .cons 1 rfl <| .cons 2 rfl <| .nil), ?_⟩)
          refine JN_then ?_
          refine J_seq (J_reg [] (
              .cons (.no) _ _ (op_move (Lk.t rfl)) <|
              .cons (.no) _ _ (op_call (l_ok (by assumption)) ⟨(Lk.t rfl),  trivial⟩) <|
              .cons (.no) _ _ (op_call (rdiag_ok) ⟨(Lk.t rfl),  trivial⟩) <|
              .cons (.no) _ _ (op_move (Lk.t rfl)) <|
              .cons (.no) _ _ (op_extract (Lk.t rfl) rfl) <|
              .cons (.no) _ _ (op_extract (Lk.t rfl) rfl) <|
              .cons (.wr 2) _ _ (op_store_b 2 (Lk.t rfl) (Lk.t rfl) co_agg sz28 rfl rfl rfl) <|
              .cons (.no) _ _ (op_assign (Lk.t rfl)) <|
              .nil) ff rfl fun g15 => ⟨_, _, [0, 1, 2], rfl, (.cons 11 rfl <| .cons 13 rfl <| .cons 14 rfl <| .cons 15 rfl <| .cons 16 rfl <| .nil), (.cons 0 rfl <| .cons 1 rfl <| .cons 2 rfl <| .nil), ?_⟩)
          refine JN_then ?_
          refine J_seq ?_
          refine J_seq (J_reg [] (
              .cons (.rd 1) _ _ (op_get_ag 1 ag28 (Lk.t rfl) rfl mem_blk rfl rfl) <|
              .cons (.no) _ _ (op_move (Lk.t rfl)) <|
              .cons (.rd 2) _ _ (op_get_ag 2 ag28 (Lk.t rfl) rfl mem_blk rfl rfl) <|
              .cons (.no) _ _ (op_move (Lk.t rfl)) <|
              .cons (.no) _ _ (op_call (ltold_ok) ⟨(Lk.t rfl), (Lk.t rfl), (Lk.t rfl), (Lk.t rfl),  trivial⟩) <|
              .cons (.no) _ _ (op_not (Lk.t rfl)) <|
              .nil) ff rfl fun g16 => ⟨_, _, [0, 1, 2], rfl, (.cons 11 rfl <| .cons 13 rfl <| .cons 15 rfl <| .cons 93 rfl <| .nil), (.cons 0 rfl <| .cons 1 rfl <| .cons 2 rfl <| .nil), ?_⟩)
          refine JN_then ?_
          refine J_cond (cond_of (Lk.t rfl)) (fun h5 => ?_) (fun h5 => ?_)
          · have h5' := h5
            try simp only [cmpB, Bool.and_eq_true, Bool.or_eq_true, Bool.and_eq_false_iff, Bool.or_eq_false_iff, Bool.not_eq_true', Bool.not_eq_false', Bool.not_eq_true, Bool.not_eq_false, decide_eq_true_eq, decide_eq_false_iff_not, Int.not_lt, Int.not_le, beq_iff_eq, bne_iff_ne, beq_eq_false_iff_ne, bne_eq_false_iff_eq, ne_eq, Decidable.not_not] at h5
            exact (dead_told1 h5' (told_same fair_diag rfl fun _ => rfl)).elim
          · have h5' := h5
            try simp only [cmpB, Bool.and_eq_true, Bool.or_eq_true, Bool.and_eq_false_iff, Bool.or_eq_false_iff, Bool.not_eq_true', Bool.not_eq_false', Bool.not_eq_true, Bool.not_eq_false, decide_eq_true_eq, decide_eq_false_iff_not, Int.not_lt, Int.not_le, beq_iff_eq, bne_iff_ne, beq_eq_false_iff_ne, bne_eq_false_iff_eq, ne_eq, Decidable.not_not] at h5
            refine J_skip ?_
            refine JN_then ?_
            refine J_to (To.freeze 0 (fun _ h => h) rfl frz_som rfl) ?_
            refine J_seq (J_reg [] (
                .cons (.no) _ _ (op_move (Lk.t rfl)) <|
                .cons (.no) _ _ (op_call (Of_ok) ⟨(Lk.sub (sb_fk 0 rfl) (Lk.t rfl)),  trivial⟩) <|
                .cons (.no) _ _ (op_move (Lk.t rfl)) <|
                .cons (.no) _ _ (op_extract (Lk.t rfl) rfl) <|
                .cons (.no) _ _ (op_extract (Lk.t rfl) rfl) <|
                .cons (.wr 1) _ _ (op_store_b 1 (Lk.t rfl) (Lk.t rfl) co_agg sz28 rfl rfl rfl) <|
                .cons (.no) _ _ (op_assign (Lk.t rfl)) <|
                .nil) ff rfl fun g17 => ⟨_, _, [1, 2], rfl, (.cons 11 rfl <| .cons 13 rfl <| .cons 14 rfl <| .cons 15 rfl <| .nil), (.cons 1 rfl <| .cons 2 rfl <| .nil), ?_⟩)
            refine JN_then ?_
            refine J_seq (J_reg [] (
                .cons (.no) _ _ (op_move (Lk.t rfl)) <|
                .cons (.no) _ _ (op_call (rof_ok) ⟨(Lk.sub (sb_fk 0 rfl) (Lk.t rfl)),  trivial⟩) <|
                .cons (.no) _ _ (op_move (Lk.t rfl)) <|
                .cons (.no) _ _ (op_extract (Lk.t rfl) rfl) <|
                .cons (.no) _ _ (op_extract (Lk.t rfl) rfl) <|
                .cons (.wr 1) _ _ (op_store_b 1 (Lk.t rfl) (Lk.t rfl) co_agg sz28 rfl rfl rfl) <|
                .cons (.no) _ _ (op_assign (Lk.t rfl)) <|
                .nil) ff rfl fun g18 => ⟨_, _, [0, 1], rfl, (.cons 13 rfl <| .cons 14 rfl <| .cons 15 rfl <| .cons 16 rfl <| .nil), (.cons 0 rfl <| .cons 1 rfl <| .nil), ?_⟩)
            refine JN_then ?_
            refine J_seq (J_reg [] (
                .cons (.rd 0) _ _ (op_get_ag 0 ag28 (Lk.t rfl) rfl mem_blk rfl rfl) <|
                .cons (.no) _ _ (op_move (Lk.t rfl)) <|
                .cons (.rd 1) _ _ (op_get_ag 1 ag28 (Lk.t rfl) rfl mem_blk rfl rfl) <|
                .cons (.no) _ _ (op_move (Lk.t rfl)) <|
                .cons (.no) _ _ (op_call (ltold_ok) ⟨(Lk.t rfl), (Lk.t rfl), (Lk.t rfl), (Lk.t rfl),  trivial⟩) <|
                .cons (.no) _ _ (op_assign (Lk.t rfl)) <|
                .nil) ff rfl fun g19 => ⟨_, _, [], rfl, (.cons 10 rfl <| .nil), (.nil), ?_⟩)
            refine JN_then ?_
            refine J_ret ?_
            refine JN_ret (.cons (.tmp (Lk.t rfl)) <| .nil) (sb_trans (sb_res1 sb_refl) ?_)
            exact ret_b rof_told
end Go.Proofs.Ytdnemaecalghbaa
