/- Printed by a program of ours (walk.py): walks of the eighth reference. -/
import Derived.Test.YtllmlkffknodmaaGreatAKb
import Derived.Test.YtllmlkffknodmaaGreatProg
import Derived.KernelRfl
import Derived.Test.YtllmlkffknodmaaGreatATypes
import Derived.Test.YtllmlkffknodmaaGreatAWLaw1
import Derived.Test.YtllmlkffknodmaaGreatAKc
set_option linter.unusedVariables false
set_option linter.unusedSimpArgs false
set_option maxRecDepth 20000
set_option maxHeartbeats 1000000
namespace Go.Proofs.YtllmlkffknodmaaGreat
open Go Go.Bn
attribute [local irreducible] OpOK
theorem rdot_ok {xs ys : List Nat} (hl : xs.length ≤ ys.length) : Ct Tryz.prog 54 [fls xs, fls ys] (flp (dotL xs ys)) := by
  refine Ct.of Tryz.func54 rfl (by kernel_rfl) rfl fun c0 => ?_
  refine J_len 0 rfl fun hlen => ?_
  refine J_seq (J_reg [] (
      .cons (.no) _ _ (op_assign (Lk.fk rfl (by decide +kernel))) <|
      .nil) ff rfl fun g1 => ⟨_, _, [], rfl, (.cons 0 rfl <| .cons 1 rfl <| .nil), (.nil), ?_⟩)
  refine JN_then ?_
  refine J_seq (J_reg [] (
      .cons (.no) _ _ (op_assign (Lk.fk rfl (by decide +kernel))) <|
      .nil) ff rfl fun g2 => ⟨_, _, [], rfl, (.cons 0 rfl <| .cons 1 rfl <| .cons 5 rfl <| .nil), (.nil), ?_⟩)
  refine JN_then ?_
  refine J_seq ?_
  refine J_seq (J_reg [] (
      .cons (.no) _ _ (op_assign (Lk.k rfl)) <|
      .nil) ff rfl fun g3 => ⟨_, _, [], rfl, (.cons 0 rfl <| .cons 1 rfl <| .cons 5 rfl <| .cons 6 rfl <| .nil), (.nil), ?_⟩)
  refine JN_then ?_
  refine J_block ?_
  refine J_loopc (α := Nat) (fun k => k ≤ xs.length) (fun k => xs.length - k) (fun k restR => (5, flp (dotTo xs ys k)) :: (6, isv (.int .i64 (k : Int))) :: restR) (fun k restS => restS) (ρc := [(0, _), (1, _)]) (σc := []) 0 (by exact Nat.zero_le _) (To.pick (fun _ => .sub (t := 5) rfl (sp_eq (by rfl)) <| .sub (t := 6) rfl (sp_eq (by rfl)) <| .cons 0 rfl <| .cons 1 rfl <| .nil) (fun _ => .nil) (ks := []) rfl) (fun k hI => ?_)
  refine J_seq ?_
  refine J_seq (J_reg [] (
      .cons (.no) _ _ (op_move (Lk.t rfl)) <|
      .cons (.no) _ _ (op_move (Lk.t rfl)) <|
      .cons (.no) _ _ (op_len_m sl28 (Lk.t rfl)) <|
      .cons (.no) _ _ (op_cmp (by simp) (Lk.t rfl) (Lk.t rfl) rfl) <|
      .nil) ff rfl fun g4 => ⟨_, _, [], rfl, (.cons 0 rfl <| .cons 1 rfl <| .cons 5 rfl <| .cons 6 rfl <| .cons 10 rfl <| .nil), (.nil), ?_⟩)
  refine JN_then ?_
  refine J_cond (cond_of (Lk.t rfl)) (fun h1 => ?_) (fun h1 => ?_)
  · have h1' := h1
    try simp only [cmpB, Bool.and_eq_true, Bool.or_eq_true, Bool.and_eq_false_iff, Bool.or_eq_false_iff, Bool.not_eq_true', Bool.not_eq_false', Bool.not_eq_true, Bool.not_eq_false, decide_eq_true_eq, decide_eq_false_iff_not, Int.not_lt, Int.not_le, beq_iff_eq, bne_iff_ne, beq_eq_false_iff_ne, bne_eq_false_iff_eq, ne_eq, Decidable.not_not] at h1
    refine J_skip ?_
    refine JN_then ?_
    refine J_seq ?_
    refine J_block ?_
    refine (J_reg [[], [], [], [1, 2], [1, 2, 3], [], [], [5, 6], [5, 6, 7], [1, 2, 3, 4, 5, 6, 7, 8], [0, 1, 2, 3, 4, 5, 6, 7, 8, 9], [0, 1, 2, 3, 4, 5, 6, 7, 8, 9, 10]] (
        .cons (.no) _ _ (op_move (Lk.t rfl)) <|
        .cons (.no) _ _ (op_move (Lk.t rfl)) <|
        .cons (.no) _ _ (op_move (Lk.t rfl)) <|
        .cons (.no) _ _ (op_index_m 0 sl28 (Lk.t rfl) (Lk.t rfl) (by omega) (by omega)) <|
        .cons (.no) _ _ (op_load_sc sc24 (Lk.t rfl) rfl) <|
        .cons (.no) _ _ (op_move (Lk.t rfl)) <|
        .cons (.no) _ _ (op_move (Lk.t rfl)) <|
        .cons (.no) _ _ (op_index_m 0 sl28 (Lk.t rfl) (Lk.t rfl) (by omega) (by omega)) <|
        .cons (.no) _ _ (op_load_sc sc24 (Lk.t rfl) rfl) <|
        .cons (.no) _ _ (op_float (by simp) (Lk.t rfl) (Lk.t rfl) rfl) <|
        .cons (.no) _ _ (op_float (by simp) (Lk.t rfl) (Lk.t rfl) rfl) <|
        .cons (.no) _ _ (op_assign (Lk.t rfl)) <|
        .nil) (fun _ => mixed) rfl fun g5 => ⟨_, _, [], rfl, (.cons 0 rfl <| .cons 1 rfl <| .cons 5 rfl <| .cons 6 rfl <| .nil), (.nil), ?_⟩)
    refine JN_block ?_
    refine JN_then ?_
    refine (J_reg [] (
        .cons (.no) _ _ (op_move (Lk.t rfl)) <|
        .cons (.no) _ _ (op_add (Lk.t rfl) (Lk.k rfl) (wrap_id (by omega) (by omega))) <|
        .cons (.no) _ _ (op_assign (Lk.t rfl)) <|
        .nil) ff rfl fun g6 => ⟨_, _, [], rfl, (.cons 0 rfl <| .cons 1 rfl <| .cons 5 rfl <| .cons 6 rfl <| .nil), (.nil), ?_⟩)
    exact JN_again (k + 1) (by omega) (by omega) (To.pick (fun _ => .sub (t := 5) rfl (sp_eq (by rfl)) <| .sub (t := 6) rfl (sp_eq (by rfl)) <| .cons 0 rfl <| .cons 1 rfl <| .nil) (fun _ => .nil) (ks := []) rfl)
  · have h1' := h1
    try simp only [cmpB, Bool.and_eq_true, Bool.or_eq_true, Bool.and_eq_false_iff, Bool.or_eq_false_iff, Bool.not_eq_true', Bool.not_eq_false', Bool.not_eq_true, Bool.not_eq_false, decide_eq_true_eq, decide_eq_false_iff_not, Int.not_lt, Int.not_le, beq_iff_eq, bne_iff_ne, beq_eq_false_iff_ne, bne_eq_false_iff_eq, ne_eq, Decidable.not_not] at h1
    refine J_exit ?_
    refine JN_then_exit ?_
    refine JN_then_exit ?_
    refine JN_exit_here ?_
    refine JN_then ?_
    refine J_seq (J_reg [] (
        .cons (.no) _ _ (op_move (Lk.t rfl)) <|
        .cons (.no) _ _ (op_assign (Lk.t rfl)) <|
        .nil) ff rfl fun g7 => ⟨_, _, [], rfl, (.cons 4 rfl <| .nil), (.nil), ?_⟩)
    refine JN_then ?_
    refine J_ret ?_
    refine JN_ret (.cons (.tmp (Lk.t rfl)) <| .nil) (sb_trans (sb_res1 sb_refl) ?_)
    exact ret_f (by rw [show k = xs.length by omega]; rfl)
end Go.Proofs.YtllmlkffknodmaaGreat
