/- Printed by a program of ours (walk.py): the walk of QrNear. -/
import Derived.Test.YtllmlkffknodmaaNrKb
import Derived.Test.YtllmlkffknodmaaProg
import Derived.KernelRfl
import Derived.Test.YtllmlkffknodmaaNrTypes
import Derived.Test.YtllmlkffknodmaaNrWFew
import Derived.Test.YtllmlkffknodmaaNrNrw
import Derived.Test.YtllmlkffknodmaaNrSld
set_option linter.unusedVariables false
set_option linter.unusedSimpArgs false
set_option maxRecDepth 20000
set_option maxHeartbeats 1000000
namespace Go.Proofs.Ytllmlkffknodmaa
open Go Go.Bn
attribute [local irreducible] OpOK
theorem amaxX : Ext Try.prog 54 (Go.Extern.MathDim.pick "math.archMax" false .gt) := ⟨_, Try.func54, by kernel_rfl, by kernel_rfl, by kernel_rfl, by kernel_rfl⟩
theorem xwhole_ok {n : Nat} (hn : n < 9223372036854775808) : Ct Try.prog 13 [isv (.int .i64 (n : Int))] (exaP (wholeX (n : Int))) := by
  refine Ct.of Try.func13 rfl (by kernel_rfl) rfl fun c0 => ?_
  refine J_to (To.emps 1) ?_
  refine J_seq (J_reg [] (
      .cons (.wr 0) _ _ (op_alloc 0 zr32 rfl rfl) <|
      .nil) ff rfl fun g1 => ⟨_, _, [0], rfl, (.cons 0 rfl <| .cons 2 rfl <| .nil), (.cons 0 rfl <| .nil), ?_⟩)
  refine JN_then ?_
  refine J_seq (J_reg [] (
      .cons (.no) _ _ (op_move (Lk.t rfl)) <|
      .cons (.no) _ _ (op_call (newint_ok (n := n) hn) ⟨(Lk.t rfl),  trivial⟩) <|
      .cons (.no) _ _ (op_build zr32 rfl pl32 (.cons rfl (Lk.t rfl) co_ptp rfl (puts_l rfl (Nat.le_of_ble_eq_true rfl)) (.cons rfl (Lk.k rfl) co_isv rfl (puts_l rfl (Nat.le_of_ble_eq_true rfl)) .nil))) <|
      .cons (.wr 0) _ _ (op_store_b 0 (Lk.t rfl) (Lk.t rfl) co_agg sz32 rfl rfl rfl) <|
      .nil) ff rfl fun g2 => ⟨_, _, [0], rfl, (.cons 2 rfl <| .nil), (.cons 0 rfl <| .nil), ?_⟩)
  refine JN_then ?_
  refine J_ret ?_
  refine JN_ret (.cons (.ag 0 (Lk.t rfl) ag32 rfl rfl rfl) <| .nil) (sb_trans (sb_res1 sb_refl) ?_)
  exact sb_refl
theorem mmax_ok {x y : Nat} (hx : Pos x) (hy : Pos y) : Ct Try.prog 27 [flp x, flp y] (flp (fmax x y)) := by
  refine Ct.of Try.func27 rfl (by kernel_rfl) rfl fun c0 => ?_
  refine J_seq (J_reg [] (
      .cons (.no) _ _ (op_assign (Lk.fk rfl (by decide +kernel))) <|
      .nil) ff rfl fun g1 => ⟨_, _, [], rfl, (.cons 0 rfl <| .cons 1 rfl <| .nil), (.nil), ?_⟩)
  refine JN_then ?_
  refine J_seq ?_
  refine J_cond (cond_of (Lk.k rfl)) (fun h1 => ?_) (fun h1 => ?_)
  · have h1' := h1
    try simp only [cmpB, Bool.and_eq_true, Bool.or_eq_true, Bool.and_eq_false_iff, Bool.or_eq_false_iff, Bool.not_eq_true', Bool.not_eq_false', Bool.not_eq_true, Bool.not_eq_false, decide_eq_true_eq, decide_eq_false_iff_not, Int.not_lt, Int.not_le, beq_iff_eq, bne_iff_ne, beq_eq_false_iff_ne, bne_eq_false_iff_eq, ne_eq, Decidable.not_not] at h1
    refine J_seq (J_reg [] (
        .cons (.no) _ _ (op_move (Lk.t rfl)) <|
        .cons (.no) _ _ (op_move (Lk.t rfl)) <|
        .cons (.no) _ _ (op_amax amaxX hx hy (Lk.t rfl) (Lk.t rfl)) <|
        .cons (.no) _ _ (op_assign (Lk.t rfl)) <|
        .nil) ff rfl fun g2 => ⟨_, _, [], rfl, (.cons 4 rfl <| .nil), (.nil), ?_⟩)
    refine JN_then ?_
    refine J_ret ?_
    refine JN_then_ret ?_
    refine JN_ret (.cons (.tmp (Lk.t rfl)) <| .nil) (sb_trans (sb_res1 sb_refl) ?_)
    exact sb_refl
  · have h1' := h1
    try simp only [cmpB, Bool.and_eq_true, Bool.or_eq_true, Bool.and_eq_false_iff, Bool.or_eq_false_iff, Bool.not_eq_true', Bool.not_eq_false', Bool.not_eq_true, Bool.not_eq_false, decide_eq_true_eq, decide_eq_false_iff_not, Int.not_lt, Int.not_le, beq_iff_eq, bne_iff_ne, beq_eq_false_iff_ne, bne_eq_false_iff_eq, ne_eq, Decidable.not_not] at h1
    cases h1'
theorem alltamen_ok {xs : List Nat} {z : Int} (k0 : 0 ≤ z) (k1 : z ≤ 1000) : Ct Try.prog 23 [fls xs, isv (.int .i64 z)] (isv (.bool (allTN xs z))) := by
  refine Ct.of Try.func23 rfl (by kernel_rfl) rfl fun c0 => ?_
  refine J_len 0 rfl fun hlen => ?_
  refine J_seq (J_reg [] (
      .cons (.no) _ _ (op_assign (Lk.k rfl)) <|
      .nil) ff rfl fun g1 => ⟨_, _, [], rfl, (.cons 0 rfl <| .cons 1 rfl <| .nil), (.nil), ?_⟩)
  refine JN_then ?_
  refine J_seq ?_
  refine J_seq (J_reg [] (
      .cons (.no) _ _ (op_assign (Lk.k rfl)) <|
      .nil) ff rfl fun g2 => ⟨_, _, [], rfl, (.cons 0 rfl <| .cons 1 rfl <| .cons 5 rfl <| .nil), (.nil), ?_⟩)
  refine JN_then ?_
  refine J_block ?_
  refine J_loopc (α := Nat) (fun k => k ≤ xs.length ∧ (xs.take k).all (fun x => tameB x z) = true) (fun k => xs.length - k) (fun k restR => (5, isv (.int .i64 (k : Int))) :: restR) (fun k restS => restS) (ρc := [(0, _), (1, _)]) (σc := []) 0 (by exact ⟨Nat.zero_le _, rfl⟩) (To.pick (fun _ => .sub (t := 5) rfl (sp_eq (by rfl)) <| .cons 0 rfl <| .cons 1 rfl <| .nil) (fun _ => .nil) (ks := []) rfl) (fun k hI => ?_)
  refine J_seq ?_
  refine J_seq (J_reg [] (
      .cons (.no) _ _ (op_move (Lk.t rfl)) <|
      .cons (.no) _ _ (op_move (Lk.t rfl)) <|
      .cons (.no) _ _ (op_len_m sl34 (Lk.t rfl)) <|
      .cons (.no) _ _ (op_cmp (by simp) (Lk.t rfl) (Lk.t rfl) rfl) <|
      .nil) ff rfl fun g3 => ⟨_, _, [], rfl, (.cons 0 rfl <| .cons 1 rfl <| .cons 5 rfl <| .cons 9 rfl <| .nil), (.nil), ?_⟩)
  refine JN_then ?_
  refine J_cond (cond_of (Lk.t rfl)) (fun h1 => ?_) (fun h1 => ?_)
  · have h1' := h1
    try simp only [cmpB, Bool.and_eq_true, Bool.or_eq_true, Bool.and_eq_false_iff, Bool.or_eq_false_iff, Bool.not_eq_true', Bool.not_eq_false', Bool.not_eq_true, Bool.not_eq_false, decide_eq_true_eq, decide_eq_false_iff_not, Int.not_lt, Int.not_le, beq_iff_eq, bne_iff_ne, beq_eq_false_iff_ne, bne_eq_false_iff_eq, ne_eq, Decidable.not_not] at h1
    refine J_skip ?_
    refine JN_then ?_
    refine J_seq ?_
    refine J_block ?_
    refine J_seq (J_reg [] (
        .cons (.no) _ _ (op_move (Lk.t rfl)) <|
        .cons (.no) _ _ (op_move (Lk.t rfl)) <|
        .cons (.no) _ _ (op_index_m 0 sl34 (Lk.t rfl) (Lk.t rfl) (by omega) (by omega)) <|
        .cons (.no) _ _ (op_load_sc sc24 (Lk.t rfl) rfl) <|
        .cons (.no) _ _ (op_move (Lk.t rfl)) <|
        .cons (.no) _ _ (op_call (tame_ok k0 k1) ⟨(Lk.t rfl), (Lk.t rfl),  trivial⟩) <|
        .cons (.no) _ _ (op_not (Lk.t rfl)) <|
        .nil) ff rfl fun g4 => ⟨_, _, [], rfl, (.cons 0 rfl <| .cons 1 rfl <| .cons 5 rfl <| .cons 18 rfl <| .nil), (.nil), ?_⟩)
    refine JN_then ?_
    refine J_cond (cond_of (Lk.t rfl)) (fun h2 => ?_) (fun h2 => ?_)
    · have h2' := h2
      try simp only [cmpB, Bool.and_eq_true, Bool.or_eq_true, Bool.and_eq_false_iff, Bool.or_eq_false_iff, Bool.not_eq_true', Bool.not_eq_false', Bool.not_eq_true, Bool.not_eq_false, decide_eq_true_eq, decide_eq_false_iff_not, Int.not_lt, Int.not_le, beq_iff_eq, bne_iff_ne, beq_eq_false_iff_ne, bne_eq_false_iff_eq, ne_eq, Decidable.not_not] at h2
      refine J_seq (J_reg [] (
          .cons (.no) _ _ (op_assign (Lk.k rfl)) <|
          .nil) ff rfl fun g5 => ⟨_, _, [], rfl, (.cons 4 rfl <| .nil), (.nil), ?_⟩)
      refine JN_then ?_
      refine J_ret ?_
      refine JN_block_ret ?_
      refine JN_then_ret ?_
      refine JN_then_ret ?_
      refine JN_block_ret ?_
      refine JN_then_ret ?_
      refine JN_ret (.cons (.tmp (Lk.t rfl)) <| .nil) (sb_trans (sb_res1 sb_refl) ?_)
      exact ret_b (all_no 0 (by omega : k < xs.length) (by simpa using h2')).symm
    · have h2' := h2
      try simp only [cmpB, Bool.and_eq_true, Bool.or_eq_true, Bool.and_eq_false_iff, Bool.or_eq_false_iff, Bool.not_eq_true', Bool.not_eq_false', Bool.not_eq_true, Bool.not_eq_false, decide_eq_true_eq, decide_eq_false_iff_not, Int.not_lt, Int.not_le, beq_iff_eq, bne_iff_ne, beq_eq_false_iff_ne, bne_eq_false_iff_eq, ne_eq, Decidable.not_not] at h2
      refine J_skip ?_
      refine JN_block ?_
      refine JN_then ?_
      refine (J_reg [] (
          .cons (.no) _ _ (op_move (Lk.t rfl)) <|
          .cons (.no) _ _ (op_add (Lk.t rfl) (Lk.k rfl) (wrap_id (by omega) (by omega))) <|
          .cons (.no) _ _ (op_assign (Lk.t rfl)) <|
          .nil) ff rfl fun g6 => ⟨_, _, [], rfl, (.cons 0 rfl <| .cons 1 rfl <| .cons 5 rfl <| .nil), (.nil), ?_⟩)
      exact JN_again (k + 1) (by exact ⟨by omega, all_take 0 (by omega) hI.2 (by simpa using h2')⟩) (by omega) (To.pick (fun _ => .sub (t := 5) rfl (sp_eq (by rfl)) <| .cons 0 rfl <| .cons 1 rfl <| .nil) (fun _ => .nil) (ks := []) rfl)
  · have h1' := h1
    try simp only [cmpB, Bool.and_eq_true, Bool.or_eq_true, Bool.and_eq_false_iff, Bool.or_eq_false_iff, Bool.not_eq_true', Bool.not_eq_false', Bool.not_eq_true, Bool.not_eq_false, decide_eq_true_eq, decide_eq_false_iff_not, Int.not_lt, Int.not_le, beq_iff_eq, bne_iff_ne, beq_eq_false_iff_ne, bne_eq_false_iff_eq, ne_eq, Decidable.not_not] at h1
    refine J_exit ?_
    refine JN_then_exit ?_
    refine JN_then_exit ?_
    refine JN_exit_here ?_
    refine JN_then ?_
    refine J_seq (J_reg [] (
        .cons (.no) _ _ (op_assign (Lk.k rfl)) <|
        .nil) ff rfl fun g7 => ⟨_, _, [], rfl, (.cons 4 rfl <| .nil), (.nil), ?_⟩)
    refine JN_then ?_
    refine J_ret ?_
    refine JN_ret (.cons (.tmp (Lk.t rfl)) <| .nil) (sb_trans (sb_res1 sb_refl) ?_)
    exact ret_b (all_whole (by omega) hI.2).symm
theorem qnear_ok {bs : List Nat} {k0 j : Int} (hb : GoodU bs) : Ct Try.prog 5 [wsl bs, isv (.int .i64 k0), isv (.int .i64 j)] (isv (.bool true)) := by
  refine Ct.of Try.func5 rfl (by kernel_rfl) rfl fun c0 => ?_
  have hlt := ltL_cn2 hb.1
  obtain ⟨hj0, hj1⟩ := tmod_901 j
  refine J_seq (J_reg [] (
      .cons (.no) _ _ (op_assign (Lk.k rfl)) <|
      .nil) ff rfl fun g1 => ⟨_, _, [], rfl, (.cons 0 rfl <| .cons 1 rfl <| .cons 2 rfl <| .nil), (.nil), ?_⟩)
  refine JN_then ?_
  refine J_seq ?_
  refine J_seq (J_reg [] (
      .cons (.no) _ _ (op_call (awake_ok) trivial) <|
      .cons (.no) _ _ (op_not (Lk.t rfl)) <|
      .nil) ff rfl fun g2 => ⟨_, _, [], rfl, (.cons 0 rfl <| .cons 1 rfl <| .cons 2 rfl <| .cons 22 rfl <| .nil), (.nil), ?_⟩)
  refine JN_then ?_
  refine J_cond (cond_of (Lk.t rfl)) (fun h1 => ?_) (fun h1 => ?_)
  · have h1' := h1
    try simp only [cmpB, Bool.and_eq_true, Bool.or_eq_true, Bool.and_eq_false_iff, Bool.or_eq_false_iff, Bool.not_eq_true', Bool.not_eq_false', Bool.not_eq_true, Bool.not_eq_false, decide_eq_true_eq, decide_eq_false_iff_not, Int.not_lt, Int.not_le, beq_iff_eq, bne_iff_ne, beq_eq_false_iff_ne, bne_eq_false_iff_eq, ne_eq, Decidable.not_not] at h1
    cases h1'
  · have h1' := h1
    try simp only [cmpB, Bool.and_eq_true, Bool.or_eq_true, Bool.and_eq_false_iff, Bool.or_eq_false_iff, Bool.not_eq_true', Bool.not_eq_false', Bool.not_eq_true, Bool.not_eq_false, decide_eq_true_eq, decide_eq_false_iff_not, Int.not_lt, Int.not_le, beq_iff_eq, bne_iff_ne, beq_eq_false_iff_ne, bne_eq_false_iff_eq, ne_eq, Decidable.not_not] at h1
    refine J_skip ?_
    refine JN_then ?_
    refine J_seq (J_reg [] (
        .cons (.no) _ _ (op_move (Lk.t rfl)) <|
        .cons (.no) _ _ (op_call (ql_ok (by assumption)) ⟨(Lk.t rfl),  trivial⟩) <|
        .cons (.no) _ _ (op_assign (Lk.t rfl)) <|
        .nil) ff rfl fun g3 => ⟨_, _, [], rfl, (.cons 1 rfl <| .cons 2 rfl <| .cons 7 rfl <| .nil), (.nil), ?_⟩)
    refine JN_then ?_
    refine J_seq (J_reg [] (
        .cons (.no) _ _ (op_move (Lk.t rfl)) <|
        .cons (.no) _ _ (op_call (Qlen_ok (lt_all hlt)) ⟨(Lk.t rfl),  trivial⟩) <|
        .cons (.no) _ _ (op_move (Lk.t rfl)) <|
        .cons (.no) _ _ (op_extract (Lk.t rfl) rfl) <|
        .cons (.no) _ _ (op_extract (Lk.t rfl) rfl) <|
        .cons (.no) _ _ (op_assign (Lk.t rfl)) <|
        .cons (.no) _ _ (op_assign (Lk.t rfl)) <|
        .nil) ff rfl fun g4 => ⟨_, _, [], rfl, (.cons 1 rfl <| .cons 2 rfl <| .cons 7 rfl <| .cons 8 rfl <| .cons 9 rfl <| .nil), (.nil), ?_⟩)
    refine JN_then ?_
    refine J_seq ?_
    refine J_seq (J_reg [] (
        .cons (.no) _ _ (op_move (Lk.t rfl)) <|
        .cons (.no) _ _ (op_cmp (by simp) (Lk.t rfl) (Lk.k rfl) rfl) <|
        .nil) ff rfl fun g5 => ⟨_, _, [], rfl, (.cons 1 rfl <| .cons 2 rfl <| .cons 7 rfl <| .cons 8 rfl <| .cons 31 rfl <| .nil), (.nil), ?_⟩)
    refine JN_then ?_
    refine J_cond (cond_of (Lk.t rfl)) (fun h2 => ?_) (fun h2 => ?_)
    · have h2' := h2
      try simp only [cmpB, Bool.and_eq_true, Bool.or_eq_true, Bool.and_eq_false_iff, Bool.or_eq_false_iff, Bool.not_eq_true', Bool.not_eq_false', Bool.not_eq_true, Bool.not_eq_false, decide_eq_true_eq, decide_eq_false_iff_not, Int.not_lt, Int.not_le, beq_iff_eq, bne_iff_ne, beq_eq_false_iff_ne, bne_eq_false_iff_eq, ne_eq, Decidable.not_not] at h2
      refine J_seq (J_reg [] (
          .cons (.no) _ _ (op_move (Lk.t rfl)) <|
          .cons (.no) _ _ (op_fcmp (by simp) (Lk.t rfl) (Lk.fk rfl (by decide +kernel)) rfl) <|
          .cons (.no) _ _ (op_assign (Lk.t rfl)) <|
          .nil) ff rfl fun g6 => ⟨_, _, [], rfl, (.cons 6 rfl <| .nil), (.nil), ?_⟩)
      refine JN_then ?_
      refine J_ret ?_
      refine JN_then_ret ?_
      refine JN_ret (.cons (.tmp (Lk.t rfl)) <| .nil) (sb_trans (sb_res1 sb_refl) ?_)
      exact ret_b (by rw [lenR_bad h2]; decide +kernel)
    · have h2' := h2
      try simp only [cmpB, Bool.and_eq_true, Bool.or_eq_true, Bool.and_eq_false_iff, Bool.or_eq_false_iff, Bool.not_eq_true', Bool.not_eq_false', Bool.not_eq_true, Bool.not_eq_false, decide_eq_true_eq, decide_eq_false_iff_not, Int.not_lt, Int.not_le, beq_iff_eq, bne_iff_ne, beq_eq_false_iff_ne, bne_eq_false_iff_eq, ne_eq, Decidable.not_not] at h2
      obtain ⟨hQ, hla⟩ := lenR_good hlt h2
      have hQn := hQ.n
      refine J_skip ?_
      refine JN_then ?_
      refine J_to (To.slot 8 rfl (q := flp (lenL (bs.map cn))) (sb_eq (by rw [hla]))) ?_
      refine J_seq (J_reg [] (
          .cons (.no) _ _ (op_assign (Lk.fk rfl (by decide +kernel))) <|
          .nil) ff rfl fun g7 => ⟨_, _, [], rfl, (.cons 1 rfl <| .cons 2 rfl <| .cons 7 rfl <| .cons 8 rfl <| .cons 10 rfl <| .nil), (.nil), ?_⟩)
      refine JN_then ?_
      refine J_seq ?_
      refine J_seq (J_reg [] (
          .cons (.no) _ _ (op_assign (Lk.k rfl)) <|
          .nil) ff rfl fun g8 => ⟨_, _, [], rfl, (.cons 1 rfl <| .cons 2 rfl <| .cons 7 rfl <| .cons 8 rfl <| .cons 10 rfl <| .cons 11 rfl <| .nil), (.nil), ?_⟩)
      refine JN_then ?_
      refine J_block ?_
      refine J_loopc (α := Nat) (fun k => k ≤ (bs.map cn).length) (fun k => (bs.map cn).length - k) (fun k restR => (10, flp (maxTo (bs.map cn) k)) :: (11, isv (.int .i64 (k : Int))) :: restR) (fun k restS => restS) (ρc := [(1, _), (2, _), (7, _), (8, _)]) (σc := []) 0 (by exact Nat.zero_le _) (To.pick (fun _ => .sub (t := 10) rfl (sp_eq (by rfl)) <| .sub (t := 11) rfl (sp_eq (by rfl)) <| .cons 1 rfl <| .cons 2 rfl <| .cons 7 rfl <| .cons 8 rfl <| .nil) (fun _ => .nil) (ks := []) rfl) (fun k hI => ?_)
      refine J_seq ?_
      refine J_seq (J_reg [] (
          .cons (.no) _ _ (op_move (Lk.t rfl)) <|
          .cons (.no) _ _ (op_move (Lk.t rfl)) <|
          .cons (.no) _ _ (op_len_m sl34 (Lk.t rfl)) <|
          .cons (.no) _ _ (op_cmp (by simp) (Lk.t rfl) (Lk.t rfl) rfl) <|
          .nil) ff rfl fun g9 => ⟨_, _, [], rfl, (.cons 1 rfl <| .cons 2 rfl <| .cons 7 rfl <| .cons 8 rfl <| .cons 10 rfl <| .cons 11 rfl <| .cons 37 rfl <| .nil), (.nil), ?_⟩)
      refine JN_then ?_
      refine J_cond (cond_of (Lk.t rfl)) (fun h3 => ?_) (fun h3 => ?_)
      · have h3' := h3
        try simp only [cmpB, Bool.and_eq_true, Bool.or_eq_true, Bool.and_eq_false_iff, Bool.or_eq_false_iff, Bool.not_eq_true', Bool.not_eq_false', Bool.not_eq_true, Bool.not_eq_false, decide_eq_true_eq, decide_eq_false_iff_not, Int.not_lt, Int.not_le, beq_iff_eq, bne_iff_ne, beq_eq_false_iff_ne, bne_eq_false_iff_eq, ne_eq, Decidable.not_not] at h3
        refine J_skip ?_
        refine JN_then ?_
        refine J_seq ?_
        refine J_block ?_
        refine (J_reg [] (
            .cons (.no) _ _ (op_move (Lk.t rfl)) <|
            .cons (.no) _ _ (op_move (Lk.t rfl)) <|
            .cons (.no) _ _ (op_move (Lk.t rfl)) <|
            .cons (.no) _ _ (op_index_m 0 sl34 (Lk.t rfl) (Lk.t rfl) (by omega) (by omega)) <|
            .cons (.no) _ _ (op_load_sc sc24 (Lk.t rfl) rfl) <|
            .cons (.no) _ _ (op_call (abs_ok) ⟨(Lk.t rfl),  trivial⟩) <|
            .cons (.no) _ _ (op_call (mmax_ok (pos_max hQ.F k) (pos_abs hQ.F k)) ⟨(Lk.t rfl), (Lk.t rfl),  trivial⟩) <|
            .cons (.no) _ _ (op_assign (Lk.t rfl)) <|
            .nil) ff rfl fun g10 => ⟨_, _, [], rfl, (.cons 1 rfl <| .cons 2 rfl <| .cons 7 rfl <| .cons 8 rfl <| .cons 10 rfl <| .cons 11 rfl <| .nil), (.nil), ?_⟩)
        refine JN_block ?_
        refine JN_then ?_
        refine (J_reg [] (
            .cons (.no) _ _ (op_move (Lk.t rfl)) <|
            .cons (.no) _ _ (op_add (Lk.t rfl) (Lk.k rfl) (wrap_id (by omega) (by omega))) <|
            .cons (.no) _ _ (op_assign (Lk.t rfl)) <|
            .nil) ff rfl fun g11 => ⟨_, _, [], rfl, (.cons 1 rfl <| .cons 2 rfl <| .cons 7 rfl <| .cons 8 rfl <| .cons 10 rfl <| .cons 11 rfl <| .nil), (.nil), ?_⟩)
        exact JN_again (k + 1) (by omega) (by omega) (To.pick (fun _ => .sub (t := 10) rfl (sp_eq (by rfl)) <| .sub (t := 11) rfl (sp_eq (by rfl)) <| .cons 1 rfl <| .cons 2 rfl <| .cons 7 rfl <| .cons 8 rfl <| .nil) (fun _ => .nil) (ks := []) rfl)
      · have h3' := h3
        try simp only [cmpB, Bool.and_eq_true, Bool.or_eq_true, Bool.and_eq_false_iff, Bool.or_eq_false_iff, Bool.not_eq_true', Bool.not_eq_false', Bool.not_eq_true, Bool.not_eq_false, decide_eq_true_eq, decide_eq_false_iff_not, Int.not_lt, Int.not_le, beq_iff_eq, bne_iff_ne, beq_eq_false_iff_ne, bne_eq_false_iff_eq, ne_eq, Decidable.not_not] at h3
        have hk : k = (bs.map cn).length := by omega
        refine J_exit ?_
        refine JN_then_exit ?_
        refine JN_then_exit ?_
        refine JN_exit_here ?_
        refine JN_then ?_
        refine J_to (To.slot 10 rfl (q := flp (maxL (bs.map cn))) (sb_eq (by rw [hk]; rfl))) ?_
        refine J_to (To.emps 1) ?_
        refine J_seq (J_reg [] (
            .cons (.no) _ _ (op_move (Lk.t rfl)) <|
            .cons (.no) _ _ (op_call (squares_ok (dotB_of (Nat.le_refl _) (by omega) (fun k _ => hQ.F k) (fun k _ => hQ.F k))) ⟨(Lk.t rfl),  trivial⟩) <|
            .cons (.wr 0) _ _ (op_alloc 0 zr32 rfl rfl) <|
            .cons (.wr 0) _ _ (op_store_new 0 rfl (Lk.t rfl) co_agg sz32 rfl rfl) <|
            .nil) ff rfl fun g12 => ⟨_, _, [0], rfl, (.cons 1 rfl <| .cons 2 rfl <| .cons 7 rfl <| .cons 8 rfl <| .cons 10 rfl <| .cons 12 rfl <| .nil), (.cons 0 rfl <| .nil), ?_⟩)
        refine JN_then ?_
        refine J_to (To.emps 1) ?_
        refine J_seq (J_reg [] (
            .cons (.no) _ _ (op_move (Lk.t rfl)) <|
            .cons (.no) _ _ (op_len_m sl34 (Lk.t rfl)) <|
            .cons (.no) _ _ (op_add (Lk.t rfl) (Lk.k rfl) (wrap4 hQ.n)) <|
            .cons (.no) _ _ (op_call (xwhole_ok (n := (bs.map cn).length + 4) (by omega)) ⟨(Lk.t rfl),  trivial⟩) <|
            .cons (.wr 1) _ _ (op_alloc 1 zr32 rfl rfl) <|
            .cons (.wr 1) _ _ (op_store_new 1 rfl (Lk.t rfl) co_agg sz32 rfl rfl) <|
            .nil) ff rfl fun g13 => ⟨_, _, [0, 1], rfl, (.cons 1 rfl <| .cons 2 rfl <| .cons 7 rfl <| .cons 8 rfl <| .cons 10 rfl <| .cons 12 rfl <| .cons 13 rfl <| .nil), (.cons 0 rfl <| .cons 1 rfl <| .nil), ?_⟩)
        refine JN_then ?_
        refine J_to (To.emps 1) ?_
        refine J_seq (J_reg [[], [0], [], [0, 1, 2], [0, 1, 2, 3], [0, 1, 2, 3, 4], [0, 1, 2, 3, 4, 5], [0, 1, 2, 3, 4, 5, 6], [0, 1, 2, 3, 4, 5, 6, 7], [0, 1, 2, 3, 4, 5, 6, 7, 8], [0, 1, 2, 3, 4, 5, 6, 7, 8, 9], [0, 1, 2, 3, 4, 5, 6, 7, 8, 9, 10], [], [0, 1, 2, 3, 4, 5, 6, 7, 8, 9, 10, 11, 12]] (
            .cons (.no) _ _ (op_move (Lk.t rfl)) <|
            .cons (.no) _ _ (op_call (xof_ok hQ.fb) ⟨(Lk.t rfl),  trivial⟩) <|
            .cons (.rd 1) _ _ (op_get_ag 1 ag32 (Lk.t rfl) rfl mem_blk rfl rfl) <|
            .cons (.no) _ _ (op_call (xmul_ok (exl_exb (exl_ofX hQ.fb hQ.l) (by omega) (by omega)) (exl_exb (exl_whole (n := (bs.map cn).length + 4) (by omega)) (by omega) (by omega))) ⟨(Lk.t rfl), (Lk.t rfl),  trivial⟩) <|
            .cons (.no) _ _ (op_call (xpow_ok) ⟨(Lk.k rfl),  trivial⟩) <|
            .cons (.no) _ _ (op_call (xmul_ok (exl_exb (room_1 hQ.n hQ.fb hQ.l) (by omega) (by omega)) (exl_exb (exl_pow (k := 53)) (by omega) (by omega))) ⟨(Lk.t rfl), (Lk.t rfl),  trivial⟩) <|
            .cons (.no) _ _ (op_call (xwhole_ok (n := 9) (by omega)) ⟨(Lk.k rfl),  trivial⟩) <|
            .cons (.no) _ _ (op_call (xmul_ok (exl_exb (room_2 hQ.n hQ.fb hQ.l) (by omega) (by omega)) (exl_exb (exl_whole (n := 9) (by omega)) (by omega) (by omega))) ⟨(Lk.t rfl), (Lk.t rfl),  trivial⟩) <|
            .cons (.no) _ _ (op_call (xpow_ok) ⟨(Lk.k rfl),  trivial⟩) <|
            .cons (.no) _ _ (op_call (xmul_ok (exl_exb (room_3 hQ.n hQ.fb hQ.l) (by omega) (by omega)) (exl_exb (exl_pow (k := 3)) (by omega) (by omega))) ⟨(Lk.t rfl), (Lk.t rfl),  trivial⟩) <|
            .cons (.no) _ _ (op_call (xpow_ok) ⟨(Lk.k rfl),  trivial⟩) <|
            .cons (.no) _ _ (op_call (xadd_ok (exl_exb (room_4 hQ.n hQ.fb hQ.l) (by omega) (by omega)) (exl_exb (exl_pow (k := 1074)) (by omega) (by omega)) (exl_sml2 (a := 1130) (b := 1114) (room_4 hQ.n hQ.fb hQ.l) (exl_up (exl_pow (k := 1074)) (by omega) (by omega)) (by omega))) ⟨(Lk.t rfl), (Lk.t rfl),  trivial⟩) <|
            .cons (.wr 2) _ _ (op_alloc 2 zr32 rfl rfl) <|
            .cons (.wr 2) _ _ (op_store_new 2 rfl (Lk.t rfl) co_agg sz32 rfl rfl) <|
            .nil) (fun _ => mixed) rfl fun g14 => ⟨_, _, [0, 2], rfl, (.cons 1 rfl <| .cons 2 rfl <| .cons 7 rfl <| .cons 8 rfl <| .cons 10 rfl <| .cons 12 rfl <| .cons 14 rfl <| .nil), (.cons 0 rfl <| .cons 2 rfl <| .nil), ?_⟩)
        refine JN_then ?_
        refine J_to (To.emps 2) ?_
        refine J_seq (J_reg [[], [0], [], [0, 1, 2], [0, 1, 2, 3], [], [0, 1, 2, 3, 4, 5], [], [0, 1, 2, 3, 4, 5, 6, 7], [], [], [0, 1, 2, 3, 4, 5, 6, 7, 8, 9, 10], [0, 1, 2, 3, 4, 5, 6, 7, 8, 9, 10, 11]] (
            .cons (.no) _ _ (op_move (Lk.t rfl)) <|
            .cons (.no) _ _ (op_call (xof_ok hQ.fb) ⟨(Lk.t rfl),  trivial⟩) <|
            .cons (.rd 1) _ _ (op_get_ag 1 ag32 (Lk.t rfl) rfl mem_blk rfl rfl) <|
            .cons (.no) _ _ (op_call (xneg_ok (exl_exb (room_5 hQ.n hQ.fb hQ.l) (by omega) (by omega))) ⟨(Lk.t rfl),  trivial⟩) <|
            .cons (.no) _ _ (op_call (xadd_ok (exl_exb (exl_ofX hQ.fb hQ.l) (by omega) (by omega)) (exl_exb (exl_neg (room_5 hQ.n hQ.fb hQ.l)) (by omega) (by omega)) (exl_sml2 (a := 1130) (b := 4000) (exl_up (exl_ofX hQ.fb hQ.l) (by omega) (by omega)) (exl_neg (room_5 hQ.n hQ.fb hQ.l)) (by omega))) ⟨(Lk.t rfl), (Lk.t rfl),  trivial⟩) <|
            .cons (.no) _ _ (op_move (Lk.t rfl)) <|
            .cons (.no) _ _ (op_call (xof_ok hQ.fb) ⟨(Lk.t rfl),  trivial⟩) <|
            .cons (.rd 1) _ _ (op_get_ag 1 ag32 (Lk.t rfl) rfl mem_blk rfl rfl) <|
            .cons (.no) _ _ (op_call (xadd_ok (exl_exb (exl_ofX hQ.fb hQ.l) (by omega) (by omega)) (exl_exb (room_5 hQ.n hQ.fb hQ.l) (by omega) (by omega)) (exl_sml2 (a := 1130) (b := 4000) (exl_up (exl_ofX hQ.fb hQ.l) (by omega) (by omega)) (room_5 hQ.n hQ.fb hQ.l) (by omega))) ⟨(Lk.t rfl), (Lk.t rfl),  trivial⟩) <|
            .cons (.wr 2) _ _ (op_alloc 2 zr32 rfl rfl) <|
            .cons (.wr 3) _ _ (op_alloc 3 zr32 rfl rfl) <|
            .cons (.wr 2) _ _ (op_store_new 2 rfl (Lk.t rfl) co_agg sz32 rfl rfl) <|
            .cons (.wr 3) _ _ (op_store_new 3 rfl (Lk.t rfl) co_agg sz32 rfl rfl) <|
            .nil) (fun _ => mixed) rfl fun g15 => ⟨_, _, [0, 1, 2, 3], rfl, (.cons 1 rfl <| .cons 2 rfl <| .cons 7 rfl <| .cons 8 rfl <| .cons 10 rfl <| .cons 12 rfl <| .cons 14 rfl <| .cons 15 rfl <| .cons 16 rfl <| .nil), (.cons 0 rfl <| .cons 1 rfl <| .cons 2 rfl <| .cons 3 rfl <| .nil), ?_⟩)
        refine JN_then ?_
        refine J_seq ?_
        refine J_seq (J_reg [[], [], [0, 1], [0, 1, 2], [0, 1, 2, 3], [0, 1, 2, 3, 4], [0, 1, 2, 3, 4, 5], [0, 1, 2, 3, 4, 5, 6], [0, 1, 2, 3, 4, 5, 6, 7], [0, 1, 2, 3, 4, 5, 6, 7, 8], [0, 1, 2, 3, 4, 5, 6, 7, 8], [0, 1, 2, 3, 4, 5, 6, 7, 8, 9, 10], [0, 1, 2, 3, 4, 5, 6, 7, 8], [0, 1, 2, 3, 4, 5, 6, 7, 8, 9, 10, 11, 12], [0, 1, 2, 3, 4, 5, 6, 7, 8, 9, 10, 11, 12, 13], [0, 1, 2, 3, 4, 5, 6, 7, 8, 9, 10, 11, 12, 13, 14], [0, 1, 2, 3, 4, 5, 6, 7, 8, 9, 10, 11, 12, 13, 14, 15], [0, 1, 2, 3, 4, 5, 6, 7, 8, 9, 10, 11, 12, 13, 14, 15, 16], [0, 1, 2, 3, 4, 5, 6, 7, 8, 9, 10, 11, 12, 13, 14, 15, 16, 17], [0, 1, 2, 3, 4, 5, 6, 7, 8, 9, 10, 11, 12, 13, 14, 15, 16, 17], [0, 1, 2, 3, 4, 5, 6, 7, 8, 9, 10, 11, 12, 13, 14, 15, 16, 17, 18, 19], [0, 1, 2, 3, 4, 5, 6, 7, 8, 9, 10, 11, 12, 13, 14, 15, 16, 17], [0, 1, 2, 3, 4, 5, 6, 7, 8, 9, 10, 11, 12, 13, 14, 15, 16, 17, 18, 19, 20, 21], [0, 1, 2, 3, 4, 5, 6, 7, 8, 9, 10, 11, 12, 13, 14, 15, 16, 17, 18, 19, 20, 21, 22], [0, 1, 2, 3, 4, 5, 6, 7, 8, 9, 10, 11, 12, 13, 14, 15, 16, 17, 18, 19, 20, 21, 22, 23]] (
            .cons (.no) _ _ (op_move (Lk.t rfl)) <|
            .cons (.no) _ _ (op_move (Lk.t rfl)) <|
            .cons (.no) _ _ (op_fcmp (by simp) (Lk.t rfl) (Lk.t rfl) rfl) <|
            .cons (.no) _ _ (op_move (Lk.t rfl)) <|
            .cons (.no) _ _ (op_guard rfl rfl (gd_b rfl) (fun hC => (op_field_own fd32_0 (Lk.t rfl) rfl))) <|
            .cons (.rd 2) _ _ (op_guard rfl rfl (gd_b rfl) (fun hC => (op_get_sc 2 sc30 (Lk.w rfl hC) rfl mem_blk rfl))) <|
            .cons (.no) _ _ (op_guard rfl rfl (gd_b rfl) (fun hC => (op_call (isign_ok) ⟨(Lk.w rfl hC),  trivial⟩))) <|
            .cons (.no) _ _ (op_guard rfl rfl (gd_b rfl) (fun hC => (op_cmp (by simp) (Lk.w rfl hC) (Lk.k rfl) rfl))) <|
            .cons (.no) _ _ (op_guard rfl rfl (gd_b rfl) (fun hC => (op_move (Lk.w rfl hC)))) <|
            .cons (.rd 2) _ _ (op_guard rfl rfl (gd_w rfl) (fun hC => (op_get_ag 2 ag32 (Lk.t rfl) rfl mem_blk rfl rfl))) <|
            .cons (.rd 2) _ _ (op_guard rfl rfl (gd_w rfl) (fun hC => (op_get_ag 2 ag32 (Lk.t rfl) rfl mem_blk rfl rfl))) <|
            .cons (.no) _ _ (op_guard rfl rfl (gd_w rfl) (fun hC => (op_call (xmul_ok (exl_exb (room_lo hQ.n hQ.fb hQ.l) (by omega) (by omega)) (exl_exb (room_lo hQ.n hQ.fb hQ.l) (by omega) (by omega))) ⟨(Lk.w rfl hC), (Lk.w rfl hC),  trivial⟩))) <|
            .cons (.rd 0) _ _ (op_guard rfl rfl (gd_w rfl) (fun hC => (op_get_ag 0 ag32 (Lk.t rfl) rfl mem_blk rfl rfl))) <|
            .cons (.no) _ _ (op_guard rfl rfl (gd_w rfl) (fun hC => (op_call (xcmp_ok (exl_exb (exl_mul (room_lo hQ.n hQ.fb hQ.l) (room_lo hQ.n hQ.fb hQ.l)) (by omega) (by omega)) (exl_exb (exl_dot hQ.F (bs.map cn).length hQ.n) (by omega) (by omega)) (exl_exb (exl_neg (exl_dot hQ.F (bs.map cn).length hQ.n)) (by omega) (by omega)) (exl_sml2 (a := 2260) (b := 20000) (exl_mul (room_lo hQ.n hQ.fb hQ.l) (room_lo hQ.n hQ.fb hQ.l)) (exl_up (exl_neg (exl_dot hQ.F (bs.map cn).length hQ.n)) (by omega) (by omega)) (by omega))) ⟨(Lk.w rfl hC), (Lk.w rfl hC),  trivial⟩))) <|
            .cons (.no) _ _ (op_guard rfl rfl (gd_w rfl) (fun hC => (op_cmp (by simp) (Lk.w rfl hC) (Lk.k rfl) rfl))) <|
            .cons (.no) _ _ (op_guard rfl rfl (gd_b rfl) (fun hC => (op_and (Lk.w rfl hC) (fun h2 => (Lk.w rfl ⟨hC, h2⟩))))) <|
            .cons (.no) _ _ (op_or (Lk.t rfl) (fun h2 => (Lk.w rfl h2))) <|
            .cons (.no) _ _ (op_move (Lk.t rfl)) <|
            .cons (.rd 3) _ _ (op_guard rfl rfl (gd_b rfl) (fun hC => (op_get_ag 3 ag32 (Lk.t rfl) rfl mem_blk rfl rfl))) <|
            .cons (.rd 3) _ _ (op_guard rfl rfl (gd_b rfl) (fun hC => (op_get_ag 3 ag32 (Lk.t rfl) rfl mem_blk rfl rfl))) <|
            .cons (.no) _ _ (op_guard rfl rfl (gd_b rfl) (fun hC => (op_call (xmul_ok (exl_exb (room_hi hQ.n hQ.fb hQ.l) (by omega) (by omega)) (exl_exb (room_hi hQ.n hQ.fb hQ.l) (by omega) (by omega))) ⟨(Lk.w rfl hC), (Lk.w rfl hC),  trivial⟩))) <|
            .cons (.rd 0) _ _ (op_guard rfl rfl (gd_b rfl) (fun hC => (op_get_ag 0 ag32 (Lk.t rfl) rfl mem_blk rfl rfl))) <|
            .cons (.no) _ _ (op_guard rfl rfl (gd_b rfl) (fun hC => (op_call (xcmp_ok (exl_exb (exl_mul (room_hi hQ.n hQ.fb hQ.l) (room_hi hQ.n hQ.fb hQ.l)) (by omega) (by omega)) (exl_exb (exl_dot hQ.F (bs.map cn).length hQ.n) (by omega) (by omega)) (exl_exb (exl_neg (exl_dot hQ.F (bs.map cn).length hQ.n)) (by omega) (by omega)) (exl_sml2 (a := 2260) (b := 20000) (exl_mul (room_hi hQ.n hQ.fb hQ.l) (room_hi hQ.n hQ.fb hQ.l)) (exl_up (exl_neg (exl_dot hQ.F (bs.map cn).length hQ.n)) (by omega) (by omega)) (by omega))) ⟨(Lk.w rfl hC), (Lk.w rfl hC),  trivial⟩))) <|
            .cons (.no) _ _ (op_guard rfl rfl (gd_b rfl) (fun hC => (op_cmp (by simp) (Lk.w rfl hC) (Lk.k rfl) rfl))) <|
            .cons (.no) _ _ (op_or (Lk.t rfl) (fun h2 => (Lk.w rfl h2))) <|
            .nil) (fun _ => mixed) rfl fun g16 => ⟨_, _, [1], rfl, (.cons 1 rfl <| .cons 2 rfl <| .cons 7 rfl <| .cons 8 rfl <| .cons 14 rfl <| .cons 98 rfl <| .nil), (.cons 1 rfl <| .nil), ?_⟩)
        refine JN_then ?_
        refine J_cond (cond_of (Lk.t rfl)) (fun h4 => ?_) (fun h4 => ?_)
        · have h4' := h4
          try simp only [cmpB, Bool.and_eq_true, Bool.or_eq_true, Bool.and_eq_false_iff, Bool.or_eq_false_iff, Bool.not_eq_true', Bool.not_eq_false', Bool.not_eq_true, Bool.not_eq_false, decide_eq_true_eq, decide_eq_false_iff_not, Int.not_lt, Int.not_le, beq_iff_eq, bne_iff_ne, beq_eq_false_iff_ne, bne_eq_false_iff_eq, ne_eq, Decidable.not_not] at h4
          exact (hQ.no h4').elim
        · have h4' := h4
          try simp only [cmpB, Bool.and_eq_true, Bool.or_eq_true, Bool.and_eq_false_iff, Bool.or_eq_false_iff, Bool.not_eq_true', Bool.not_eq_false', Bool.not_eq_true, Bool.not_eq_false, decide_eq_true_eq, decide_eq_false_iff_not, Int.not_lt, Int.not_le, beq_iff_eq, bne_iff_ne, beq_eq_false_iff_ne, bne_eq_false_iff_eq, ne_eq, Decidable.not_not] at h4
          refine J_skip ?_
          refine JN_then ?_
          refine J_seq ?_
          refine J_seq (J_reg [] (
              .cons (.no) _ _ (op_move (Lk.t rfl)) <|
              .cons (.no) _ _ (op_len_m sl34 (Lk.t rfl)) <|
              .cons (.no) _ _ (op_cmp (by simp) (Lk.t rfl) (Lk.k rfl) rfl) <|
              .nil) ff rfl fun g17 => ⟨_, _, [0], rfl, (.cons 1 rfl <| .cons 2 rfl <| .cons 7 rfl <| .cons 8 rfl <| .cons 14 rfl <| .cons 101 rfl <| .nil), (.cons 0 rfl <| .nil), ?_⟩)
          refine JN_then ?_
          refine J_cond (cond_of (Lk.t rfl)) (fun h5 => ?_) (fun h5 => ?_)
          · have h5' := h5
            try simp only [cmpB, Bool.and_eq_true, Bool.or_eq_true, Bool.and_eq_false_iff, Bool.or_eq_false_iff, Bool.not_eq_true', Bool.not_eq_false', Bool.not_eq_true, Bool.not_eq_false, decide_eq_true_eq, decide_eq_false_iff_not, Int.not_lt, Int.not_le, beq_iff_eq, bne_iff_ne, beq_eq_false_iff_ne, bne_eq_false_iff_eq, ne_eq, Decidable.not_not] at h5
            refine J_seq (J_reg [] (
                .cons (.no) _ _ (op_move (Lk.t rfl)) <|
                .cons (.no) _ _ (op_fcmp (by simp) (Lk.t rfl) (Lk.fk rfl (by decide +kernel)) rfl) <|
                .cons (.no) _ _ (op_assign (Lk.t rfl)) <|
                .nil) ff rfl fun g18 => ⟨_, _, [], rfl, (.cons 6 rfl <| .nil), (.nil), ?_⟩)
            refine JN_then ?_
            refine J_ret ?_
            refine JN_then_ret ?_
            refine JN_ret (.cons (.tmp (Lk.t rfl)) <| .nil) (sb_trans (sb_res1 sb_refl) ?_)
            exact ret_b (hQ.zero (by omega))
          · have h5' := h5
            try simp only [cmpB, Bool.and_eq_true, Bool.or_eq_true, Bool.and_eq_false_iff, Bool.or_eq_false_iff, Bool.not_eq_true', Bool.not_eq_false', Bool.not_eq_true, Bool.not_eq_false, decide_eq_true_eq, decide_eq_false_iff_not, Int.not_lt, Int.not_le, beq_iff_eq, bne_iff_ne, beq_eq_false_iff_ne, bne_eq_false_iff_eq, ne_eq, Decidable.not_not] at h5
            obtain ⟨kk, hk1, hk2, hk3, hk4⟩ := turn_k (k := k0) (n := (bs.map cn).length) (by omega) hQ.n
            have hT := trnQ_of hQ (k := kk) (by omega)
            have htl := length_trnL (xs := (bs.map cn)) (k := kk) (by omega)
            have hlt2 := finL_lt (finL_turn hQ.F kk)
            have hlt3 := ltL_pw hlt (j.tmod 901)
            refine J_skip ?_
            refine JN_then ?_
            refine J_seq (J_reg [] (
                .cons (.no) _ _ (op_move (Lk.t rfl)) <|
                .cons (.no) _ _ (op_move (Lk.t rfl)) <|
                .cons (.no) _ _ (op_len_m sl34 (Lk.t rfl)) <|
                .cons (.no) _ _ (op_rem (Lk.t rfl) (Lk.t rfl) (by omega) rfl) <|
                .cons (.no) _ _ (op_move (Lk.t rfl)) <|
                .cons (.no) _ _ (op_len_m sl34 (Lk.t rfl)) <|
                .cons (.no) _ _ (op_add (Lk.t rfl) (Lk.t rfl) (wrap_id (by omega) (by omega))) <|
                .cons (.no) _ _ (op_move (Lk.t rfl)) <|
                .cons (.no) _ _ (op_len_m sl34 (Lk.t rfl)) <|
                .cons (.no) _ _ (op_rem (Lk.t rfl) (Lk.t rfl) (by omega) rfl) <|
                .cons (.no) _ _ (op_assign (Lk.t rfl)) <|
                .nil) ff rfl fun g19 => ⟨_, _, [0], rfl, (.cons 1 rfl <| .cons 2 rfl <| .cons 7 rfl <| .cons 8 rfl <| .cons 14 rfl <| .nil), (.cons 0 rfl <| .nil), ?_⟩)
            refine JN_then ?_
            refine J_to (To.slot 1 rfl (q := isv (.int .i64 (kk : Int))) (sb_eq (congrArg (fun z => isv (.int .i64 z)) hk1))) ?_
            refine J_to (To.emps 1) ?_
            refine J_seq (J_reg [[], [], [], [1, 2], [0, 1, 2, 3], [], [], [5, 6], [0, 1, 2, 3, 4, 5, 6, 7], [0, 1, 2, 3, 4, 5, 6, 7, 8]] (
                .cons (.wr 1) _ _ (op_build0 (mk := flp) 1 sl34 rfl) <|
                .cons (.no) _ _ (op_move (Lk.t rfl)) <|
                .cons (.no) _ _ (op_move (Lk.t rfl)) <|
                .cons (.no) _ _ (op_slice_md sl34 (Lk.t rfl) (Lk.t rfl) (by omega) (by omega)) <|
                .cons (.wr 1) _ _ (op_vr 114 1 rfl rfl (fun u => (op_append_ms 1 sl34 zr24 rfl (Lk.t rfl) (Lk.t rfl) rfl (by simp only [List.length_append, List.length_nil, List.length_drop, List.length_take]; omega) (by simp only [List.length_append, List.length_nil, List.length_drop, List.length_take]; omega)))) <|
                .cons (.no) _ _ (op_move (Lk.t rfl)) <|
                .cons (.no) _ _ (op_move (Lk.t rfl)) <|
                .cons (.no) _ _ (op_slice_mn sl34 (Lk.t rfl) (Lk.t rfl) (by omega) (by omega)) <|
                .cons (.wr 1) _ _ (op_vr 118 1 rfl rfl (fun u => (op_append_ms 1 sl34 zr24 rfl (Lk.t rfl) (Lk.t rfl) rfl (by simp only [List.length_append, List.length_nil, List.length_drop, List.length_take]; omega) (by simp only [List.length_append, List.length_nil, List.length_drop, List.length_take]; omega)))) <|
                .cons (.no) _ _ (op_assign_ve rfl rfl) <|
                .nil) (fun _ => mixed) rfl fun g20 => ⟨_, _, [0, 1], rfl, (.cons 2 rfl <| .cons 7 rfl <| .cons 8 rfl <| .cons 14 rfl <| .cons 17 rfl <| .nil), (.cons 0 rfl <| .cons 1 rfl <| .nil), ?_⟩)
            refine JN_then ?_
            refine J_seq (J_reg [] (
                .cons (.no) _ _ (op_move (Lk.t rfl)) <|
                .cons (.no) _ _ (op_move (Lk.t rfl)) <|
                .cons (.rd 1) _ _ (op_index_som 1 sl34 (Lk.t rfl) (Lk.k rfl) rfl (by omega) (by simp only [List.length_append, List.length_nil, List.length_drop, List.length_take]; omega)) <|
                .cons (.rd 1) _ _ (op_get_som 0 1 sc24 (Lk.t rfl) rfl (by simp only [List.length_append, List.length_nil, List.length_drop, List.length_take]; omega)) <|
                .cons (.no) _ _ (op_negf (Lk.t rfl)) <|
                .cons (.rd 1) _ _ (op_index_som 1 sl34 (Lk.t rfl) (Lk.k rfl) rfl (by omega) (by simp only [List.length_append, List.length_nil, List.length_drop, List.length_take]; omega)) <|
                .cons (.wr 1) _ _ (op_store_som 1 (Lk.t rfl) (Lk.t rfl) co_flp sz24 rfl (by simp only [List.length_append, List.length_nil, List.length_drop, List.length_take]; omega)) <|
                .nil) ff rfl fun g21 => ⟨_, _, [0, 1], rfl, (.cons 2 rfl <| .cons 7 rfl <| .cons 8 rfl <| .cons 14 rfl <| .cons 17 rfl <| .nil), (.cons 0 rfl <| .cons 1 rfl <| .nil), ?_⟩)
            refine JN_then ?_
            refine J_to (To.res 1 (r' := som (g20 122) flp (trnL (bs.map cn) kk) 24) rfl (res_eq (rfl)) rfl) ?_
            refine J_seq (J_reg [] (
                .cons (.no) _ _ (op_move (Lk.t rfl)) <|
                .cons (.rd 1) _ _ (op_callL 1 (Qlen_ok (lt_all hlt2)) (pure_N _) ⟨.inr ⟨_, (Lk.t rfl), lent_som⟩,  trivial⟩ rfl) <|
                .cons (.no) _ _ (op_move (Lk.t rfl)) <|
                .cons (.no) _ _ (op_extract (Lk.t rfl) rfl) <|
                .cons (.no) _ _ (op_extract (Lk.t rfl) rfl) <|
                .cons (.no) _ _ (op_assign (Lk.t rfl)) <|
                .cons (.no) _ _ (op_assign (Lk.t rfl)) <|
                .nil) ff rfl fun g22 => ⟨_, _, [0, 1], rfl, (.cons 2 rfl <| .cons 7 rfl <| .cons 8 rfl <| .cons 9 rfl <| .cons 14 rfl <| .cons 17 rfl <| .cons 18 rfl <| .nil), (.cons 0 rfl <| .cons 1 rfl <| .nil), ?_⟩)
            refine JN_then ?_
            refine J_to (To.emps 1) ?_
            refine J_seq (J_reg [] (
                .cons (.no) _ _ (op_move (Lk.t rfl)) <|
                .cons (.no) _ _ (op_call (xof_ok hT.fb) ⟨(Lk.t rfl),  trivial⟩) <|
                .cons (.no) _ _ (op_move (Lk.t rfl)) <|
                .cons (.no) _ _ (op_call (xof_ok hQ.fb) ⟨(Lk.t rfl),  trivial⟩) <|
                .cons (.no) _ _ (op_call (xneg_ok (exl_exb (exl_ofX hQ.fb hQ.l) (by omega) (by omega))) ⟨(Lk.t rfl),  trivial⟩) <|
                .cons (.no) _ _ (op_call (xadd_ok (exl_exb (exl_ofX hT.fb hT.l) (by omega) (by omega)) (exl_exb (exl_neg (exl_ofX hQ.fb hQ.l)) (by omega) (by omega)) (exl_sml2 (a := 1074) (b := 1100) (exl_ofX hT.fb hT.l) (exl_neg (exl_ofX hQ.fb hQ.l)) (by omega))) ⟨(Lk.t rfl), (Lk.t rfl),  trivial⟩) <|
                .cons (.no) _ _ (op_call (xabs_ok (exl_exb (exl_add (a := 1130) (b := 1100) (exl_up (exl_ofX hT.fb hT.l) (by omega) (by omega)) (exl_neg (exl_up (exl_ofX hQ.fb hQ.l) (by omega) (by omega)))) (by omega) (by omega))) ⟨(Lk.t rfl),  trivial⟩) <|
                .cons (.wr 2) _ _ (op_alloc 2 zr32 rfl rfl) <|
                .cons (.wr 2) _ _ (op_store_new 2 rfl (Lk.t rfl) co_agg sz32 rfl rfl) <|
                .nil) ff rfl fun g23 => ⟨_, _, [0, 1, 2], rfl, (.cons 2 rfl <| .cons 7 rfl <| .cons 8 rfl <| .cons 9 rfl <| .cons 14 rfl <| .cons 17 rfl <| .cons 19 rfl <| .nil), (.cons 0 rfl <| .cons 1 rfl <| .cons 2 rfl <| .nil), ?_⟩)
            refine JN_then ?_
            refine J_seq ?_
            refine J_seq (J_reg [[], [0], [0, 1], [0, 1, 2], [0, 1, 2, 3], [0, 1, 2, 3, 4], [0, 1, 2, 3, 4, 5], [0, 1, 2, 3, 4, 5, 6], [0, 1, 2, 3, 4, 5, 6, 7], [0, 1, 2, 3, 4, 5, 6, 7, 8], [0, 1, 2, 3, 4, 5, 6, 7, 8, 9], [0, 1, 2, 3, 4, 5, 6, 7, 8, 9], [0, 1, 2, 3, 4, 5, 6, 7, 8, 9], [0, 1, 2, 3, 4, 5, 6, 7, 8, 9, 11, 12], [0, 1, 2, 3, 4, 5, 6, 7, 8, 9], [0, 1, 2, 3, 4, 5, 6, 7, 8, 9, 11, 12, 13, 14], [0, 1, 2, 3, 4, 5, 6, 7, 8, 9, 10, 11, 12, 13, 14, 15], [0, 1, 2, 3, 4, 5, 6, 7, 8, 9, 10, 11, 12, 13, 14, 15, 16], [0, 1, 2, 3, 4, 5, 6, 7, 8, 9, 10, 11, 12, 13, 14, 15, 16, 17], [0, 1, 2, 3, 4, 5, 6, 7, 8, 9, 10, 11, 12, 13, 14, 15, 16, 17, 18]] (
                .cons (.no) _ _ (op_move (Lk.t rfl)) <|
                .cons (.no) _ _ (op_cmp (by simp) (Lk.t rfl) (Lk.k rfl) rfl) <|
                .cons (.no) _ _ (op_move (Lk.t rfl)) <|
                .cons (.no) _ _ (op_guard rfl rfl (gd_b rfl) (fun hC => (op_move (Lk.t rfl)))) <|
                .cons (.no) _ _ (op_guard rfl rfl (gd_b rfl) (fun hC => (op_fcmp (by simp) (Lk.w rfl hC) (Lk.fk rfl (by decide +kernel)) rfl))) <|
                .cons (.no) _ _ (op_and (Lk.t rfl) (fun h2 => (Lk.w rfl h2))) <|
                .cons (.no) _ _ (op_move (Lk.t rfl)) <|
                .cons (.no) _ _ (op_guard rfl rfl (gd_b rfl) (fun hC => (op_move (Lk.t rfl)))) <|
                .cons (.no) _ _ (op_guard rfl rfl (gd_b rfl) (fun hC => (op_cmp (by simp) (Lk.w rfl hC) (Lk.k rfl) rfl))) <|
                .cons (.no) _ _ (op_guard rfl rfl (gd_b rfl) (fun hC => (op_move (Lk.w rfl hC)))) <|
                .cons (.rd 2) _ _ (op_guard rfl rfl (gd_w rfl) (fun hC => (op_get_ag 2 ag32 (Lk.t rfl) rfl mem_blk rfl rfl))) <|
                .cons (.rd 0) _ _ (op_guard rfl rfl (gd_w rfl) (fun hC => (op_get_ag 0 ag32 (Lk.t rfl) rfl mem_blk rfl rfl))) <|
                .cons (.rd 0) _ _ (op_guard rfl rfl (gd_w rfl) (fun hC => (op_get_ag 0 ag32 (Lk.t rfl) rfl mem_blk rfl rfl))) <|
                .cons (.no) _ _ (op_guard rfl rfl (gd_w rfl) (fun hC => (op_call (xadd_ok (exl_exb (room_5 hQ.n hQ.fb hQ.l) (by omega) (by omega)) (exl_exb (room_5 hQ.n hQ.fb hQ.l) (by omega) (by omega)) (exl_sml2 (a := 1130) (b := 4000) (room_5 hQ.n hQ.fb hQ.l) (room_5 hQ.n hQ.fb hQ.l) (by omega))) ⟨(Lk.w rfl hC), (Lk.w rfl hC),  trivial⟩))) <|
                .cons (.rd 0) _ _ (op_guard rfl rfl (gd_w rfl) (fun hC => (op_get_ag 0 ag32 (Lk.t rfl) rfl mem_blk rfl rfl))) <|
                .cons (.no) _ _ (op_guard rfl rfl (gd_w rfl) (fun hC => (op_call (xadd_ok (exl_exb (room_x2 hQ.n hQ.fb hQ.l) (by omega) (by omega)) (exl_exb (room_5 hQ.n hQ.fb hQ.l) (by omega) (by omega)) (exl_sml2 (a := 1130) (b := 10000) (room_x2 hQ.n hQ.fb hQ.l) (exl_up (room_5 hQ.n hQ.fb hQ.l) (by omega) (by omega)) (by omega))) ⟨(Lk.w rfl hC), (Lk.w rfl hC),  trivial⟩))) <|
                .cons (.no) _ _ (op_guard rfl rfl (gd_w rfl) (fun hC => (op_call (xcmp_ok (exl_exb (exl_abs (exl_add (a := 1130) (b := 1100) (exl_up (exl_ofX hT.fb hT.l) (by omega) (by omega)) (exl_neg (exl_up (exl_ofX hQ.fb hQ.l) (by omega) (by omega))))) (by omega) (by omega)) (exl_exb (room_x3 hQ.n hQ.fb hQ.l) (by omega) (by omega)) (exl_exb (exl_neg (room_x3 hQ.n hQ.fb hQ.l)) (by omega) (by omega)) (exl_sml2 (a := 1130) (b := 30000) (exl_up (exl_abs (exl_add (a := 1130) (b := 1100) (exl_up (exl_ofX hT.fb hT.l) (by omega) (by omega)) (exl_neg (exl_up (exl_ofX hQ.fb hQ.l) (by omega) (by omega))))) (by omega) (by omega)) (exl_neg (room_x3 hQ.n hQ.fb hQ.l)) (by omega))) ⟨(Lk.w rfl hC), (Lk.w rfl hC),  trivial⟩))) <|
                .cons (.no) _ _ (op_guard rfl rfl (gd_w rfl) (fun hC => (op_cmp (by simp) (Lk.w rfl hC) (Lk.k rfl) rfl))) <|
                .cons (.no) _ _ (op_guard rfl rfl (gd_b rfl) (fun hC => (op_and (Lk.w rfl hC) (fun h2 => (Lk.w rfl ⟨hC, h2⟩))))) <|
                .cons (.no) _ _ (op_or (Lk.t rfl) (fun h2 => (Lk.w rfl h2))) <|
                .nil) (fun _ => mixed) rfl fun g24 => ⟨_, _, [1], rfl, (.cons 2 rfl <| .cons 7 rfl <| .cons 8 rfl <| .cons 17 rfl <| .cons 160 rfl <| .nil), (.cons 1 rfl <| .nil), ?_⟩)
            refine JN_then ?_
            refine J_cond (cond_of (Lk.t rfl)) (fun h6 => ?_) (fun h6 => ?_)
            · have h6' := h6
              try simp only [cmpB, Bool.and_eq_true, Bool.or_eq_true, Bool.and_eq_false_iff, Bool.or_eq_false_iff, Bool.not_eq_true', Bool.not_eq_false', Bool.not_eq_true, Bool.not_eq_false, decide_eq_true_eq, decide_eq_false_iff_not, Int.not_lt, Int.not_le, beq_iff_eq, bne_iff_ne, beq_eq_false_iff_ne, bne_eq_false_iff_eq, ne_eq, Decidable.not_not] at h6
              exact (hT.no h6').elim
            · have h6' := h6
              try simp only [cmpB, Bool.and_eq_true, Bool.or_eq_true, Bool.and_eq_false_iff, Bool.or_eq_false_iff, Bool.not_eq_true', Bool.not_eq_false', Bool.not_eq_true, Bool.not_eq_false, decide_eq_true_eq, decide_eq_false_iff_not, Int.not_lt, Int.not_le, beq_iff_eq, bne_iff_ne, beq_eq_false_iff_ne, bne_eq_false_iff_eq, ne_eq, Decidable.not_not] at h6
              refine J_skip ?_
              refine JN_then ?_
              refine J_seq (J_reg [] (
                  .cons (.no) _ _ (op_move (Lk.t rfl)) <|
                  .cons (.no) _ _ (op_rem (Lk.t rfl) (Lk.k rfl) (by decide) rfl) <|
                  .cons (.no) _ _ (op_assign (Lk.t rfl)) <|
                  .nil) ff rfl fun g25 => ⟨_, _, [0], rfl, (.cons 2 rfl <| .cons 7 rfl <| .cons 8 rfl <| .cons 17 rfl <| .nil), (.cons 0 rfl <| .nil), ?_⟩)
              refine JN_then ?_
              refine J_seq ?_
              refine J_seq (J_reg [] (
                  .cons (.no) _ _ (op_assign (Lk.k rfl)) <|
                  .nil) ff rfl fun g26 => ⟨_, _, [0], rfl, (.cons 2 rfl <| .cons 7 rfl <| .cons 8 rfl <| .cons 17 rfl <| .cons 20 rfl <| .nil), (.cons 0 rfl <| .nil), ?_⟩)
              refine JN_then ?_
              refine J_block ?_
              refine J_loopc (α := Nat) (fun i => i ≤ (bs.map cn).length) (fun i => (bs.map cn).length - i) (fun i restR => (20, isv (.int .i64 (i : Int))) :: restR) (fun i restS => som (g20 122) flp (pwI (bs.map cn) (trnL (bs.map cn) kk) (j.tmod 901) i) 24 :: restS) (ρc := [(2, _), (7, _), (8, _), (17, _)]) (σc := []) 0 (by exact Nat.zero_le _) (To.pick (fun _ => .sub (t := 20) rfl (sp_eq (by rfl)) <| .cons 2 rfl <| .cons 7 rfl <| .cons 8 rfl <| .cons 17 rfl <| .nil) (fun _ => .sub 0 rfl ((res_eq rfl)) <| .nil) (ks := [0]) rfl) (fun i hI => ?_)
              have hil := length_pwI (xs := (bs.map cn)) (ys := (trnL (bs.map cn) kk)) (j := (j.tmod 901)) (k := i) htl hI
              refine J_seq ?_
              refine J_seq (J_reg [] (
                  .cons (.no) _ _ (op_move (Lk.t rfl)) <|
                  .cons (.no) _ _ (op_move (Lk.t rfl)) <|
                  .cons (.no) _ _ (op_len_m sl34 (Lk.t rfl)) <|
                  .cons (.no) _ _ (op_cmp (by simp) (Lk.t rfl) (Lk.t rfl) rfl) <|
                  .nil) ff rfl fun g27 => ⟨_, _, [0], rfl, (.cons 2 rfl <| .cons 7 rfl <| .cons 8 rfl <| .cons 17 rfl <| .cons 20 rfl <| .cons 166 rfl <| .nil), (.cons 0 rfl <| .nil), ?_⟩)
              refine JN_then ?_
              refine J_cond (cond_of (Lk.t rfl)) (fun h7 => ?_) (fun h7 => ?_)
              · have h7' := h7
                try simp only [cmpB, Bool.and_eq_true, Bool.or_eq_true, Bool.and_eq_false_iff, Bool.or_eq_false_iff, Bool.not_eq_true', Bool.not_eq_false', Bool.not_eq_true, Bool.not_eq_false, decide_eq_true_eq, decide_eq_false_iff_not, Int.not_lt, Int.not_le, beq_iff_eq, bne_iff_ne, beq_eq_false_iff_ne, bne_eq_false_iff_eq, ne_eq, Decidable.not_not] at h7
                refine J_skip ?_
                refine JN_then ?_
                refine J_seq ?_
                refine J_block ?_
                refine (J_reg [] (
                    .cons (.no) _ _ (op_move (Lk.t rfl)) <|
                    .cons (.no) _ _ (op_move (Lk.t rfl)) <|
                    .cons (.no) _ _ (op_move (Lk.t rfl)) <|
                    .cons (.no) _ _ (op_move (Lk.t rfl)) <|
                    .cons (.no) _ _ (op_index_m 0 sl34 (Lk.t rfl) (Lk.t rfl) (by omega) (by omega)) <|
                    .cons (.no) _ _ (op_load_sc sc24 (Lk.t rfl) rfl) <|
                    .cons (.no) _ _ (op_move (Lk.t rfl)) <|
                    .cons (.no) _ _ (op_call (Ldexp_ok (by omega) (by omega)) ⟨(Lk.t rfl), (Lk.t rfl),  trivial⟩) <|
                    .cons (.rd 0) _ _ (op_index_som 0 sl34 (Lk.t rfl) (Lk.t rfl) rfl (by omega) (by omega)) <|
                    .cons (.wr 0) _ _ (op_store_som 0 (Lk.t rfl) (Lk.t rfl) co_flp sz24 rfl (by omega)) <|
                    .nil) ff rfl fun g28 => ⟨_, _, [0], rfl, (.cons 2 rfl <| .cons 7 rfl <| .cons 8 rfl <| .cons 17 rfl <| .cons 20 rfl <| .nil), (.cons 0 rfl <| .nil), ?_⟩)
                refine JN_block ?_
                refine JN_then ?_
                refine (J_reg [] (
                    .cons (.no) _ _ (op_move (Lk.t rfl)) <|
                    .cons (.no) _ _ (op_add (Lk.t rfl) (Lk.k rfl) (wrap_id (by omega) (by omega))) <|
                    .cons (.no) _ _ (op_assign (Lk.t rfl)) <|
                    .nil) ff rfl fun g29 => ⟨_, _, [0], rfl, (.cons 2 rfl <| .cons 7 rfl <| .cons 8 rfl <| .cons 17 rfl <| .cons 20 rfl <| .nil), (.cons 0 rfl <| .nil), ?_⟩)
                exact JN_again (i + 1) (by omega) (by omega) (To.pick (fun _ => .sub (t := 20) rfl (sp_eq (by rfl)) <| .cons 2 rfl <| .cons 7 rfl <| .cons 8 rfl <| .cons 17 rfl <| .nil) (fun _ => .sub 0 rfl ((res_eq (by rw [← pwI_set htl (by omega)]))) <| .nil) (ks := [0]) rfl)
              · have h7' := h7
                try simp only [cmpB, Bool.and_eq_true, Bool.or_eq_true, Bool.and_eq_false_iff, Bool.or_eq_false_iff, Bool.not_eq_true', Bool.not_eq_false', Bool.not_eq_true, Bool.not_eq_false, decide_eq_true_eq, decide_eq_false_iff_not, Int.not_lt, Int.not_le, beq_iff_eq, bne_iff_ne, beq_eq_false_iff_ne, bne_eq_false_iff_eq, ne_eq, Decidable.not_not] at h7
                have hi : i = (bs.map cn).length := by omega
                refine J_exit ?_
                refine JN_then_exit ?_
                refine JN_then_exit ?_
                refine JN_exit_here ?_
                refine JN_then ?_
                refine J_seq ?_
                refine J_to (To.res 0 (r' := som (g20 122) flp (pwL (bs.map cn) (j.tmod 901)) 24) rfl (res_eq (by rw [pwI_all htl hi])) rfl) ?_
                refine J_seq (J_reg [] (
                    .cons (.no) _ _ (op_move (Lk.t rfl)) <|
                    .cons (.no) _ _ (op_call (alltamen_ok (by decide) (by decide)) ⟨(Lk.t rfl), (Lk.k rfl),  trivial⟩) <|
                    .cons (.no) _ _ (op_not (Lk.t rfl)) <|
                    .cons (.no) _ _ (op_move (Lk.t rfl)) <|
                    .cons (.no) _ _ (op_guard rfl rfl (gd_b rfl) (fun hC => (op_move (Lk.t rfl)))) <|
                    .cons (.rd 0) _ _ (op_guard rfl rfl (gd_b rfl) (fun hC => (op_callL 0 (alltamen_ok (by decide) (by decide)) (pure_isv _) ⟨.inr ⟨_, (Lk.w rfl hC), lent_som⟩, .inl (Lk.k rfl),  trivial⟩ rfl))) <|
                    .cons (.no) _ _ (op_guard rfl rfl (gd_b rfl) (fun hC => (op_not (Lk.w rfl hC)))) <|
                    .cons (.no) _ _ (op_or (Lk.t rfl) (fun h2 => (Lk.w rfl h2))) <|
                    .cons (.no) _ _ (op_move (Lk.t rfl)) <|
                    .cons (.no) _ _ (op_guard rfl rfl (gd_b rfl) (fun hC => (op_move (Lk.t rfl)))) <|
                    .cons (.no) _ _ (op_guard rfl rfl (gd_b rfl) (fun hC => (op_call (tame_ok (by decide) (by decide)) ⟨(Lk.w rfl hC), (Lk.k rfl),  trivial⟩))) <|
                    .cons (.no) _ _ (op_guard rfl rfl (gd_b rfl) (fun hC => (op_not (Lk.w rfl hC)))) <|
                    .cons (.no) _ _ (op_or (Lk.t rfl) (fun h2 => (Lk.w rfl h2))) <|
                    .cons (.no) _ _ (op_move (Lk.t rfl)) <|
                    .cons (.no) _ _ (op_guard rfl rfl (gd_b rfl) (fun hC => (op_move (Lk.t rfl)))) <|
                    .cons (.no) _ _ (op_guard rfl rfl (gd_b rfl) (fun hC => (op_move (Lk.t rfl)))) <|
                    .cons (.no) _ _ (op_guard rfl rfl (gd_b rfl) (fun hC => (op_call (Ldexp_ok (by omega) (by omega)) ⟨(Lk.w rfl hC), (Lk.w rfl hC),  trivial⟩))) <|
                    .cons (.no) _ _ (op_guard rfl rfl (gd_b rfl) (fun hC => (op_call (tame_ok (by decide) (by decide)) ⟨(Lk.w rfl hC), (Lk.k rfl),  trivial⟩))) <|
                    .cons (.no) _ _ (op_guard rfl rfl (gd_b rfl) (fun hC => (op_not (Lk.w rfl hC)))) <|
                    .cons (.no) _ _ (op_or (Lk.t rfl) (fun h2 => (Lk.w rfl h2))) <|
                    .nil) ff rfl fun g30 => ⟨_, _, [0], rfl, (.cons 2 rfl <| .cons 8 rfl <| .cons 17 rfl <| .cons 197 rfl <| .nil), (.cons 0 rfl <| .nil), ?_⟩)
                refine JN_then ?_
                refine J_cond (cond_of (Lk.t rfl)) (fun h8 => ?_) (fun h8 => ?_)
                · have h8' := h8
                  try simp only [cmpB, Bool.and_eq_true, Bool.or_eq_true, Bool.and_eq_false_iff, Bool.or_eq_false_iff, Bool.not_eq_true', Bool.not_eq_false', Bool.not_eq_true, Bool.not_eq_false, decide_eq_true_eq, decide_eq_false_iff_not, Int.not_lt, Int.not_le, beq_iff_eq, bne_iff_ne, beq_eq_false_iff_ne, bne_eq_false_iff_eq, ne_eq, Decidable.not_not] at h8
                  refine J_seq (J_reg [] (
                      .cons (.no) _ _ (op_assign (Lk.k rfl)) <|
                      .nil) ff rfl fun g31 => ⟨_, _, [], rfl, (.cons 6 rfl <| .nil), (.nil), ?_⟩)
                  refine JN_then ?_
                  refine J_ret ?_
                  refine JN_then_ret ?_
                  refine JN_ret (.cons (.tmp (Lk.t rfl)) <| .nil) (sb_trans (sb_res1 sb_refl) ?_)
                  exact sb_refl
                · have h8' := h8
                  try simp only [cmpB, Bool.and_eq_true, Bool.or_eq_true, Bool.and_eq_false_iff, Bool.or_eq_false_iff, Bool.not_eq_true', Bool.not_eq_false', Bool.not_eq_true, Bool.not_eq_false, decide_eq_true_eq, decide_eq_false_iff_not, Int.not_lt, Int.not_le, beq_iff_eq, bne_iff_ne, beq_eq_false_iff_ne, bne_eq_false_iff_eq, ne_eq, Decidable.not_not] at h8
                  refine J_skip ?_
                  refine JN_then ?_
                  refine J_seq (J_reg [] (
                      .cons (.no) _ _ (op_move (Lk.t rfl)) <|
                      .cons (.rd 0) _ _ (op_callL 0 (Qlen_ok (lt_all hlt3)) (pure_N _) ⟨.inr ⟨_, (Lk.t rfl), lent_som⟩,  trivial⟩ rfl) <|
                      .cons (.no) _ _ (op_move (Lk.t rfl)) <|
                      .cons (.no) _ _ (op_extract (Lk.t rfl) rfl) <|
                      .cons (.no) _ _ (op_extract (Lk.t rfl) rfl) <|
                      .cons (.no) _ _ (op_assign (Lk.t rfl)) <|
                      .cons (.no) _ _ (op_assign (Lk.t rfl)) <|
                      .nil) ff rfl fun g32 => ⟨_, _, [], rfl, (.cons 2 rfl <| .cons 8 rfl <| .cons 9 rfl <| .cons 18 rfl <| .nil), (.nil), ?_⟩)
                  refine JN_then ?_
                  refine J_seq (J_reg [] (
                      .cons (.no) _ _ (op_move (Lk.t rfl)) <|
                      .cons (.no) _ _ (op_cmp (by simp) (Lk.t rfl) (Lk.k rfl) rfl) <|
                      .cons (.no) _ _ (op_move (Lk.t rfl)) <|
                      .cons (.no) _ _ (op_guard rfl rfl (gd_b rfl) (fun hC => (op_move (Lk.t rfl)))) <|
                      .cons (.no) _ _ (op_guard rfl rfl (gd_b rfl) (fun hC => (op_move (Lk.t rfl)))) <|
                      .cons (.no) _ _ (op_guard rfl rfl (gd_b rfl) (fun hC => (op_move (Lk.t rfl)))) <|
                      .cons (.no) _ _ (op_guard rfl rfl (gd_b rfl) (fun hC => (op_call (Ldexp_ok (by omega) (by omega)) ⟨(Lk.w rfl hC), (Lk.w rfl hC),  trivial⟩))) <|
                      .cons (.no) _ _ (op_guard rfl rfl (gd_b rfl) (fun hC => (op_fcmp (by simp) (Lk.w rfl hC) (Lk.w rfl hC) rfl))) <|
                      .cons (.no) _ _ (op_and (Lk.t rfl) (fun h2 => (Lk.w rfl h2))) <|
                      .cons (.no) _ _ (op_assign (Lk.t rfl)) <|
                      .nil) ff rfl fun g33 => ⟨_, _, [], rfl, (.cons 6 rfl <| .nil), (.nil), ?_⟩)
                  refine JN_then ?_
                  refine J_ret ?_
                  refine JN_ret (.cons (.tmp (Lk.t rfl)) <| .nil) (sb_trans (sb_res1 sb_refl) ?_)
                  exact ret_b (pow_yes hQ hj0 hj1 h8')
end Go.Proofs.Ytllmlkffknodmaa
