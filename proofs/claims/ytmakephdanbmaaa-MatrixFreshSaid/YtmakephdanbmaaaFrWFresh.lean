/- Printed by a program of ours (walk.py): the walk of MatrixFresh. -/
import Derived.Test.YtmakephdanbmaaaFrKb
import Derived.Test.YtmakephdanbmaaaProg
import Derived.KernelRfl
import Derived.Test.YtmakephdanbmaaaFrTypes
import Derived.Test.YtmakephdanbmaaaFrWAnswers
import Derived.Test.YtmakephdanbmaaaFrFre
set_option linter.unusedVariables false
set_option linter.unusedSimpArgs false
set_option maxRecDepth 20000
set_option maxHeartbeats 1000000
namespace Go.Proofs.Ytmakephdanbmaaa
open Go Go.Bn
attribute [local irreducible] OpOK
theorem ans_ok {r c r' c' i j p q : Int} {xs ys us vs : List Nat} {ps : List Int} : Ct Try.prog 18 [MatP r c xs, MatP r' c' ys, fls us, fls vs, isv (.int .i64 i), isv (.int .i64 j), isv (.int .i64 p), isv (.int .i64 q), ils .i64 ps] (slk 3 mtM (ansL r c xs r' c' ys us vs i j p q ps)) := ansN_ok.ct
theorem fresh_ok {r c r' c' i j p q : Int} {bs cs us vs : List Nat} {ps : List Int} (hb : GoodU bs) (hc : GoodU cs) (hu : GoodU us) (hv : GoodU vs) (hp : (∀ z, z ∈ ps → (Lit.int .i64 z).wf = true) ∧ ps.length * 8 ≤ 140737488351232) : Ct Try.prog 4 [MatU r c bs, MatU r' c' cs, wsl us, wsl vs, isv (.int .i64 i), isv (.int .i64 j), isv (.int .i64 p), isv (.int .i64 q), ils .i64 ps] (isv (.bool true)) := by
  refine Ct.of Try.func4 rfl (by kernel_rfl) rfl fun c0 => ?_
  have hp2 := hp.2
  refine J_to (To.emps 2) ?_
  refine J_seq (J_reg [] (
      .cons (.wr 0) _ _ (op_box 0 (Lk.t rfl) co_agg rfl) <|
      .cons (.wr 1) _ _ (op_box 1 (Lk.t rfl) co_agg rfl) <|
      .cons (.no) _ _ (op_assign (Lk.k rfl)) <|
      .nil) ff rfl fun g1 => ⟨_, _, [0, 1], rfl, (.cons 2 rfl <| .cons 3 rfl <| .cons 4 rfl <| .cons 5 rfl <| .cons 6 rfl <| .cons 7 rfl <| .cons 8 rfl <| .cons 9 rfl <| .cons 10 rfl <| .nil), (.cons 0 rfl <| .cons 1 rfl <| .nil), ?_⟩)
  refine JN_then ?_
  refine J_to (To.emps 7) ?_
  refine J_seq (J_reg [[], [0], [], [0, 1, 2], [], [0, 1, 2, 3, 4], [], [0, 1, 2, 3, 4, 5, 6], [], [], [0, 1, 2, 3, 4, 5, 6, 7, 8, 9], [], [], [0, 1, 2, 3, 4, 5, 6, 7, 8, 9, 10, 11, 12], [0, 1, 2, 3, 4, 5, 6, 7, 8, 9, 10, 11, 12, 13], [0, 1, 2, 3, 4, 5, 6, 7, 8, 9, 10, 11, 12, 13, 14], [0, 1, 2, 3, 4, 5, 6, 7, 8, 9, 10, 11, 12, 13, 14, 15], [0, 1, 2, 3, 4, 5, 6, 7, 8, 9, 10, 11, 12, 13, 14, 15, 16]] (
      .cons (.rd 0) _ _ (op_get_ag 0 ag24 (Lk.t rfl) rfl mem_blk rfl rfl) <|
      .cons (.wr 2) _ _ (op_callF 2 (lofF_ok hb) ⟨(Lk.t rfl),  trivial⟩ rfl) <|
      .cons (.rd 1) _ _ (op_get_ag 1 ag24 (Lk.t rfl) rfl mem_blk rfl rfl) <|
      .cons (.wr 3) _ _ (op_callF 3 (lofF_ok hc) ⟨(Lk.t rfl),  trivial⟩ rfl) <|
      .cons (.no) _ _ (op_move (Lk.t rfl)) <|
      .cons (.wr 4) _ _ (op_callF 4 (lF_ok hu) ⟨(Lk.t rfl),  trivial⟩ rfl) <|
      .cons (.no) _ _ (op_move (Lk.t rfl)) <|
      .cons (.wr 5) _ _ (op_callF 5 (lF_ok hv) ⟨(Lk.t rfl),  trivial⟩ rfl) <|
      .cons (.wr 6) _ _ (op_build0 (mk := inp .i64) 6 sl46 rfl) <|
      .cons (.no) _ _ (op_move (Lk.t rfl)) <|
      .cons (.wr 6) _ _ (op_vr 39 6 rfl rfl (fun u => (op_append_ms 6 sl46 zr3 rfl (Lk.t rfl) (Lk.t rfl) rfl (by simp; omega) (by simp; omega)))) <|
      .cons (.wr 7) _ _ (op_alloc 7 zr28 rfl rfl) <|
      .cons (.wr 8) _ _ (op_alloc 8 zr28 rfl rfl) <|
      .cons (.wr 7) _ _ (op_store_new_ve 7 rfl rfl rfl (fun f => co_agg) (fun f g h => by rw [h 32 (show 32 ∈ [32] from by decide)]) (fun _ => sz28) rfl (fun _ => rfl) rfl) <|
      .cons (.wr 8) _ _ (op_store_new_ve 8 rfl rfl rfl (fun f => co_agg) (fun f g h => by rw [h 34 (show 34 ∈ [34] from by decide)]) (fun _ => sz28) rfl (fun _ => rfl) rfl) <|
      .cons (.no) _ _ (op_assign_ve rfl rfl) <|
      .cons (.no) _ _ (op_assign_ve rfl rfl) <|
      .cons (.no) _ _ (op_assign_ve rfl rfl) <|
      .nil) (fun _ => mixed) rfl fun g2 => ⟨_, _, [0, 1, 2, 3, 4, 5, 6, 7, 8], rfl, (.cons 2 rfl <| .cons 3 rfl <| .cons 4 rfl <| .cons 5 rfl <| .cons 6 rfl <| .cons 7 rfl <| .cons 8 rfl <| .cons 9 rfl <| .cons 10 rfl <| .cons 19 rfl <| .cons 20 rfl <| .cons 21 rfl <| .cons 22 rfl <| .cons 23 rfl <| .nil), (.cons 0 rfl <| .cons 1 rfl <| .cons 2 rfl <| .cons 3 rfl <| .cons 4 rfl <| .cons 5 rfl <| .cons 6 rfl <| .cons 7 rfl <| .cons 8 rfl <| .nil), ?_⟩)
  refine JN_then ?_
  refine J_to (To.res 6 (r' := som (g2 41) (inp .i64) ps 3) rfl (res_eq rfl) rfl) ?_
  refine J_to (To.join 2 3 rfl rfl rfl rfl) ?_
  refine J_to (To.join 2 4 rfl rfl rfl rfl) ?_
  refine J_to (To.join 2 5 rfl rfl rfl rfl) ?_
  refine J_to (To.join 2 6 rfl rfl rfl rfl) ?_
  refine J_seq (J_reg [] (
      .cons (.rd 7) _ _ (op_get_ag 7 ag28 (Lk.t rfl) rfl mem_blk rfl rfl) <|
      .cons (.rd 8) _ _ (op_get_ag 8 ag28 (Lk.t rfl) rfl mem_blk rfl rfl) <|
      .cons (.no) _ _ (op_move (Lk.t rfl)) <|
      .cons (.no) _ _ (op_move (Lk.t rfl)) <|
      .cons (.no) _ _ (op_move (Lk.t rfl)) <|
      .cons (.no) _ _ (op_move (Lk.t rfl)) <|
      .cons (.no) _ _ (op_move (Lk.t rfl)) <|
      .cons (.no) _ _ (op_move (Lk.t rfl)) <|
      .cons (.no) _ _ (op_move (Lk.t rfl)) <|
      .cons (.rd 2) _ _ (op_callLN 2 (ansN_ok) ⟨.inr ⟨_, Lk.t rfl, (lent_l (lent_l (lent_l (lent_l lent_matN))))⟩, .inr ⟨_, Lk.t rfl, (lent_l (lent_l (lent_l (lent_r lent_matN))))⟩, .inr ⟨_, (Lk.t rfl), (lent_l (lent_l (lent_r lent_som)))⟩, .inr ⟨_, (Lk.t rfl), (lent_l (lent_r lent_som))⟩, .inl (Lk.t rfl), .inl (Lk.t rfl), .inl (Lk.t rfl), .inl (Lk.t rfl), .inr ⟨_, (Lk.t rfl), (lent_r lent_som)⟩,  trivial⟩ rfl) <|
      .cons (.no) _ _ (op_assign (Lk.t rfl)) <|
      .nil) ff rfl fun g3 => ⟨_, _, [0, 1, 2, 7, 8], rfl, (.cons 2 rfl <| .cons 3 rfl <| .cons 4 rfl <| .cons 5 rfl <| .cons 6 rfl <| .cons 7 rfl <| .cons 8 rfl <| .cons 9 rfl <| .cons 10 rfl <| .cons 19 rfl <| .cons 20 rfl <| .cons 21 rfl <| .cons 22 rfl <| .cons 23 rfl <| .cons 24 rfl <| .nil), (.cons 0 rfl <| .cons 1 rfl <| .cons 2 rfl <| .cons 7 rfl <| .cons 8 rfl <| .nil), ?_⟩)
  refine JN_then ?_
  refine J_seq ?_
  refine J_to (To.emps 4) ?_
  refine J_to (To.split 2 5 rfl rfl rfl rfl) ?_
  refine J_to (To.split 2 6 rfl rfl rfl rfl) ?_
  refine J_to (To.split 2 7 rfl rfl rfl rfl) ?_
  refine J_to (To.split 2 8 rfl rfl rfl rfl) ?_
  refine J_seq (J_reg [[], [0], [], [2], [2, 3], [0, 1, 2, 3, 4], [0, 1, 2, 3, 4, 5], [0, 1, 2, 3, 4, 5, 6], [0, 1, 2, 3, 4, 5, 6, 7], [0, 1, 2, 3, 4, 5, 6, 7, 8], [0, 1, 2, 3, 4, 5, 6, 7], [0, 1, 2, 3, 4, 5, 6, 7, 10], [0, 1, 2, 3, 4, 5, 6, 7, 10, 11], [0, 1, 2, 3, 4, 5, 6, 7, 8, 9, 10, 11, 12], [0, 1, 2, 3, 4, 5, 6, 7, 8, 9, 10, 11, 12, 13], [0, 1, 2, 3, 4, 5, 6, 7, 8, 9, 10, 11, 12, 13, 14], [0, 1, 2, 3, 4, 5, 6, 7, 8, 9, 10, 11, 12, 13, 14, 15], [0, 1, 2, 3, 4, 5, 6, 7, 8, 9, 10, 11, 12, 13, 14, 15, 16], [0, 1, 2, 3, 4, 5, 6, 7, 8, 9, 10, 11, 12, 13, 14, 15, 16], [0, 1, 2, 3, 4, 5, 6, 7, 8, 9, 10, 11, 12, 13, 14, 15, 16, 18], [0, 1, 2, 3, 4, 5, 6, 7, 8, 9, 10, 11, 12, 13, 14, 15, 16, 17, 18, 19], [0, 1, 2, 3, 4, 5, 6, 7, 8, 9, 10, 11, 12, 13, 14, 15, 16, 17, 18, 19, 20], [0, 1, 2, 3, 4, 5, 6, 7, 8, 9, 10, 11, 12, 13, 14, 15, 16, 17, 18, 19, 20, 21], [0, 1, 2, 3, 4, 5, 6, 7, 8, 9, 10, 11, 12, 13, 14, 15, 16, 17, 18, 19, 20, 21, 22], [0, 1, 2, 3, 4, 5, 6, 7, 8, 9, 10, 11, 12, 13, 14, 15, 16, 17, 18, 19, 20, 21, 22, 23], [0, 1, 2, 3, 4, 5, 6, 7, 8, 9, 10, 11, 12, 13, 14, 15, 16, 17, 18, 19, 20, 21, 22, 23], [0, 1, 2, 3, 4, 5, 6, 7, 8, 9, 10, 11, 12, 13, 14, 15, 16, 17, 18, 19, 20, 21, 22, 23, 25], [0, 1, 2, 3, 4, 5, 6, 7, 8, 9, 10, 11, 12, 13, 14, 15, 16, 17, 18, 19, 20, 21, 22, 23, 24, 25, 26], [0, 1, 2, 3, 4, 5, 6, 7, 8, 9, 10, 11, 12, 13, 14, 15, 16, 17, 18, 19, 20, 21, 22, 23, 24, 25, 26, 27], [0, 1, 2, 3, 4, 5, 6, 7, 8, 9, 10, 11, 12, 13, 14, 15, 16, 17, 18, 19, 20, 21, 22, 23, 24, 25, 26, 27, 28], [0, 1, 2, 3, 4, 5, 6, 7, 8, 9, 10, 11, 12, 13, 14, 15, 16, 17, 18, 19, 20, 21, 22, 23, 24, 25, 26, 27, 28, 29], [0, 1, 2, 3, 4, 5, 6, 7, 8, 9, 10, 11, 12, 13, 14, 15, 16, 17, 18, 19, 20, 21, 22, 23, 24, 25, 26, 27, 28, 29, 30], [0, 1, 2, 3, 4, 5, 6, 7, 8, 9, 10, 11, 12, 13, 14, 15, 16, 17, 18, 19, 20, 21, 22, 23, 24, 25, 26, 27, 28, 29, 30, 31], [0, 1, 2, 3, 4, 5, 6, 7, 8, 9, 10, 11, 12, 13, 14, 15, 16, 17, 18, 19, 20, 21, 22, 23, 24, 25, 26, 27, 28, 29, 30, 31, 32]] (
      .cons (.no) _ _ (op_field_own fd28_2 (Lk.t rfl) rfl) <|
      .cons (.rd 3) _ _ (op_get_sc 3 sc26 (Lk.t rfl) rfl mem_blk rfl) <|
      .cons (.no) _ _ (op_field_own fd24_2 (Lk.t rfl) rfl) <|
      .cons (.rd 0) _ _ (op_get_sc 0 sc22 (Lk.t rfl) rfl mem_blk rfl) <|
      .cons (.no) _ _ (op_call (l_ok hb) ⟨(Lk.t rfl),  trivial⟩) <|
      .cons (.rd 2) _ _ (op_callL 2 (slist_ok) (pure_isv _) ⟨.inr ⟨_, (Lk.t rfl), lent_som⟩, .inl (Lk.t rfl),  trivial⟩ rfl) <|
      .cons (.no) _ _ (op_not (Lk.t rfl)) <|
      .cons (.no) _ _ (op_move (Lk.t rfl)) <|
      .cons (.no) _ _ (op_guard rfl rfl (gd_b rfl) (fun hC => (op_field_own fd28_2 (Lk.t rfl) rfl))) <|
      .cons (.rd 4) _ _ (op_guard rfl rfl (gd_b rfl) (fun hC => (op_get_sc 4 sc26 (Lk.w rfl hC) rfl mem_blk rfl))) <|
      .cons (.no) _ _ (op_guard rfl rfl (gd_b rfl) (fun hC => (op_field_own fd24_2 (Lk.t rfl) rfl))) <|
      .cons (.rd 1) _ _ (op_guard rfl rfl (gd_b rfl) (fun hC => (op_get_sc 1 sc22 (Lk.w rfl hC) rfl mem_blk rfl))) <|
      .cons (.no) _ _ (op_guard rfl rfl (gd_b rfl) (fun hC => (op_call (l_ok hc) ⟨(Lk.w rfl hC),  trivial⟩))) <|
      .cons (.rd 8) _ _ (op_guard rfl rfl (gd_b rfl) (fun hC => (op_callL 8 (slist_ok) (pure_isv _) ⟨.inr ⟨_, (Lk.w rfl hC), lent_som⟩, .inl (Lk.w rfl hC),  trivial⟩ rfl))) <|
      .cons (.no) _ _ (op_guard rfl rfl (gd_b rfl) (fun hC => (op_not (Lk.w rfl hC)))) <|
      .cons (.no) _ _ (op_or (Lk.t rfl) (fun h2 => (Lk.w rfl h2))) <|
      .cons (.no) _ _ (op_move (Lk.t rfl)) <|
      .cons (.no) _ _ (op_guard rfl rfl (gd_b rfl) (fun hC => (op_move (Lk.t rfl)))) <|
      .cons (.no) _ _ (op_guard rfl rfl (gd_b rfl) (fun hC => (op_move (Lk.t rfl)))) <|
      .cons (.no) _ _ (op_guard rfl rfl (gd_b rfl) (fun hC => (op_call (l_ok hu) ⟨(Lk.w rfl hC),  trivial⟩))) <|
      .cons (.rd 7) _ _ (op_guard rfl rfl (gd_b rfl) (fun hC => (op_callL 7 (slist_ok) (pure_isv _) ⟨.inr ⟨_, (Lk.w rfl hC), lent_som⟩, .inl (Lk.w rfl hC),  trivial⟩ rfl))) <|
      .cons (.no) _ _ (op_guard rfl rfl (gd_b rfl) (fun hC => (op_not (Lk.w rfl hC)))) <|
      .cons (.no) _ _ (op_or (Lk.t rfl) (fun h2 => (Lk.w rfl h2))) <|
      .cons (.no) _ _ (op_move (Lk.t rfl)) <|
      .cons (.no) _ _ (op_guard rfl rfl (gd_b rfl) (fun hC => (op_move (Lk.t rfl)))) <|
      .cons (.no) _ _ (op_guard rfl rfl (gd_b rfl) (fun hC => (op_move (Lk.t rfl)))) <|
      .cons (.no) _ _ (op_guard rfl rfl (gd_b rfl) (fun hC => (op_call (l_ok hv) ⟨(Lk.w rfl hC),  trivial⟩))) <|
      .cons (.rd 6) _ _ (op_guard rfl rfl (gd_b rfl) (fun hC => (op_callL 6 (slist_ok) (pure_isv _) ⟨.inr ⟨_, (Lk.w rfl hC), lent_som⟩, .inl (Lk.w rfl hC),  trivial⟩ rfl))) <|
      .cons (.no) _ _ (op_guard rfl rfl (gd_b rfl) (fun hC => (op_not (Lk.w rfl hC)))) <|
      .cons (.no) _ _ (op_or (Lk.t rfl) (fun h2 => (Lk.w rfl h2))) <|
      .cons (.no) _ _ (op_move (Lk.t rfl)) <|
      .cons (.no) _ _ (op_guard rfl rfl (gd_b rfl) (fun hC => (op_call (awake_ok) trivial))) <|
      .cons (.no) _ _ (op_guard rfl rfl (gd_b rfl) (fun hC => (op_not (Lk.w rfl hC)))) <|
      .cons (.no) _ _ (op_or (Lk.t rfl) (fun h2 => (Lk.w rfl h2))) <|
      .nil) (fun _ => mixed) rfl fun g4 => ⟨_, _, [0, 1, 2, 3, 4, 5, 6, 7, 8], rfl, (.cons 2 rfl <| .cons 3 rfl <| .cons 4 rfl <| .cons 5 rfl <| .cons 6 rfl <| .cons 7 rfl <| .cons 8 rfl <| .cons 9 rfl <| .cons 10 rfl <| .cons 19 rfl <| .cons 20 rfl <| .cons 21 rfl <| .cons 22 rfl <| .cons 23 rfl <| .cons 24 rfl <| .cons 85 rfl <| .nil), (.cons 0 rfl <| .cons 1 rfl <| .cons 2 rfl <| .cons 3 rfl <| .cons 4 rfl <| .cons 5 rfl <| .cons 6 rfl <| .cons 7 rfl <| .cons 8 rfl <| .nil), ?_⟩)
  refine JN_then ?_
  refine J_cond (cond_of (Lk.t rfl)) (fun h1 => ?_) (fun h1 => ?_)
  · have h1' := h1
    try simp only [cmpB, Bool.and_eq_true, Bool.or_eq_true, Bool.and_eq_false_iff, Bool.or_eq_false_iff, Bool.not_eq_true', Bool.not_eq_false', Bool.not_eq_true, Bool.not_eq_false, decide_eq_true_eq, decide_eq_false_iff_not, Int.not_lt, Int.not_le, beq_iff_eq, bne_iff_ne, beq_eq_false_iff_ne, bne_eq_false_iff_eq, ne_eq, Decidable.not_not] at h1
    exact absurd h1' (by simp)
  · have h1' := h1
    try simp only [cmpB, Bool.and_eq_true, Bool.or_eq_true, Bool.and_eq_false_iff, Bool.or_eq_false_iff, Bool.not_eq_true', Bool.not_eq_false', Bool.not_eq_true, Bool.not_eq_false, decide_eq_true_eq, decide_eq_false_iff_not, Int.not_lt, Int.not_le, beq_iff_eq, bne_iff_ne, beq_eq_false_iff_ne, bne_eq_false_iff_eq, ne_eq, Decidable.not_not] at h1
    refine J_skip ?_
    refine JN_then ?_
    refine J_seq ?_
    refine J_seq (J_reg [] (
        .cons (.no) _ _ (op_field_own fd28_2 (Lk.t rfl) rfl) <|
        .cons (.rd 3) _ _ (op_get_sc 3 sc26 (Lk.t rfl) rfl mem_blk rfl) <|
        .cons (.no) _ _ (op_field_own fd28_2 (Lk.t rfl) rfl) <|
        .cons (.rd 4) _ _ (op_get_sc 4 sc26 (Lk.t rfl) rfl mem_blk rfl) <|
        .cons (.no) _ _ (op_move (Lk.t rfl)) <|
        .cons (.no) _ _ (op_move (Lk.t rfl)) <|
        .cons (.no) _ _ (op_buildSlice sl50 zr26 rfl rfl rfl rfl (.cons rfl (Lk.t rfl) co_isv rfl (puts_l rfl (Nat.le_of_ble_eq_true rfl)) (.cons rfl (Lk.t rfl) co_isv rfl (puts_l rfl (Nat.le_of_ble_eq_true rfl)) (.cons rfl (Lk.t rfl) co_isv rfl (puts_l rfl (Nat.le_of_ble_eq_true rfl)) (.cons rfl (Lk.t rfl) co_isv rfl (puts_l rfl (Nat.le_of_ble_eq_true rfl)) .nil))))) <|
        .cons (.no) _ _ (op_len sl50 (Lk.t rfl)) <|
        .cons (.no) _ _ (op_move (Lk.k rfl)) <|
        .nil) ff rfl fun g5 => ⟨_, _, [0, 1, 2, 5, 6, 7, 8], rfl, (.cons 2 rfl <| .cons 3 rfl <| .cons 4 rfl <| .cons 5 rfl <| .cons 6 rfl <| .cons 7 rfl <| .cons 8 rfl <| .cons 9 rfl <| .cons 10 rfl <| .cons 23 rfl <| .cons 24 rfl <| .cons 92 rfl <| .cons 93 rfl <| .cons 94 rfl <| .nil), (.cons 0 rfl <| .cons 1 rfl <| .cons 2 rfl <| .cons 5 rfl <| .cons 6 rfl <| .cons 7 rfl <| .cons 8 rfl <| .nil), ?_⟩)
    refine JN_then ?_
    refine J_block ?_
    refine J_to (To.slot 92 rfl (q := slm isv [(agN 2 (g2 32)), (agN 2 (g2 34)), (g2 36), (g2 38)]) sb_4) ?_
    refine J_to (To.emps 1) ?_
    refine J_to (To.res 7 (r' := pool 0 (fun _ => Go.Bn.emp)) rfl pool_nil rfl) ?_
    refine J_to (To.push 7 2 rfl rfl rfl rfl) ?_
    refine J_to (To.push 7 6 rfl rfl rfl rfl) ?_
    refine J_to (To.push 7 5 rfl rfl rfl rfl) ?_
    refine J_to (To.push 7 4 rfl rfl rfl rfl) ?_
    refine J_to (To.res 7 (r' := pool 4 (plW [(agN 2 (g2 32)), (agN 2 (g2 34)), (g2 36), (g2 38)] (wrL 4635118810238550016 (frX (bs.map cn) (cs.map cn) (us.map cn) (vs.map cn)) 0) 37)) rfl pl_4 rfl) ?_
    refine J_loopc (α := Nat) (fun w => w ≤ 4) (fun w => 4 - w) (fun w restR => (94, isv (.int .i64 (w : Int))) :: restR) (fun w restS => pool 4 (plW [(agN 2 (g2 32)), (agN 2 (g2 34)), (g2 36), (g2 38)] (wrL 4635118810238550016 (frX (bs.map cn) (cs.map cn) (us.map cn) (vs.map cn)) w) 37) :: restS) (ρc := [(2, _), (3, _), (4, _), (5, _), (6, _), (7, _), (8, _), (9, _), (10, _), (23, _), (24, _), (92, _), (93, _)]) (σc := [_, _, _]) 0 (by omega) (To.pick (fun _ => .sub (t := 94) rfl (sp_eq (by rfl)) <| .cons 2 rfl <| .cons 3 rfl <| .cons 4 rfl <| .cons 5 rfl <| .cons 6 rfl <| .cons 7 rfl <| .cons 8 rfl <| .cons 9 rfl <| .cons 10 rfl <| .cons 23 rfl <| .cons 24 rfl <| .cons 92 rfl <| .cons 93 rfl <| .nil) (fun _ => .sub 7 rfl ((fun _ _ h => h)) <| .cons 0 rfl <| .cons 1 rfl <| .cons 3 rfl <| .nil) (ks := [7, 0, 1, 3]) rfl) (fun w hI => ?_)
    refine J_seq (J_reg [] (
        .cons (.no) _ _ (op_cmp (by simp) (Lk.t rfl) (Lk.t rfl) rfl) <|
        .nil) ff rfl fun g6 => ⟨_, _, [0, 1, 2, 3], rfl, (.cons 2 rfl <| .cons 3 rfl <| .cons 4 rfl <| .cons 5 rfl <| .cons 6 rfl <| .cons 7 rfl <| .cons 8 rfl <| .cons 9 rfl <| .cons 10 rfl <| .cons 23 rfl <| .cons 24 rfl <| .cons 92 rfl <| .cons 93 rfl <| .cons 94 rfl <| .cons 95 rfl <| .nil), (.cons 0 rfl <| .cons 1 rfl <| .cons 2 rfl <| .cons 3 rfl <| .nil), ?_⟩)
    refine JN_then ?_
    refine J_seq ?_
    refine J_cond (cond_of (Lk.t rfl)) (fun h2 => ?_) (fun h2 => ?_)
    · have h2' := h2
      try simp only [cmpB, Bool.and_eq_true, Bool.or_eq_true, Bool.and_eq_false_iff, Bool.or_eq_false_iff, Bool.not_eq_true', Bool.not_eq_false', Bool.not_eq_true, Bool.not_eq_false, decide_eq_true_eq, decide_eq_false_iff_not, Int.not_lt, Int.not_le, beq_iff_eq, bne_iff_ne, beq_eq_false_iff_ne, bne_eq_false_iff_eq, ne_eq, Decidable.not_not] at h2
      refine J_skip ?_
      refine JN_then ?_
      refine J_seq ?_
      refine J_block ?_
      refine J_seq (J_reg [] (
          .cons (.no) _ _ (op_index_m NILW sl50 (Lk.t rfl) (Lk.t rfl) (by omega) (by show _ < ((4 : Nat) : Int); omega)) <|
          .cons (.no) _ _ ((op_load_sc sc26 (Lk.t rfl) rfl)) <|
          .cons (.no) _ _ (op_assign (Lk.t rfl)) <|
          .nil) ff rfl fun g7 => ⟨_, _, [0, 1, 2, 3], rfl, (.cons 2 rfl <| .cons 3 rfl <| .cons 4 rfl <| .cons 5 rfl <| .cons 6 rfl <| .cons 7 rfl <| .cons 8 rfl <| .cons 9 rfl <| .cons 10 rfl <| .cons 23 rfl <| .cons 24 rfl <| .cons 26 rfl <| .cons 92 rfl <| .cons 93 rfl <| .cons 94 rfl <| .nil), (.cons 0 rfl <| .cons 1 rfl <| .cons 2 rfl <| .cons 3 rfl <| .nil), ?_⟩)
      refine JN_then ?_
      refine J_to (To.emps 1) ?_
      refine J_to (To.focus 0 4 w (by omega) rfl rfl rfl rfl) ?_
      refine J_to (To.res 4 (r' := som ([(agN 2 (g2 32)), (agN 2 (g2 34)), (g2 36), (g2 38)].getD w NILW) flp ((frX (bs.map cn) (cs.map cn) (us.map cn) (vs.map cn)) w) 37) rfl (res_eq plW_at) rfl) ?_
      refine J_seq (J_reg [] (
          .cons (.no) _ _ (op_assign (Lk.k rfl)) <|
          .nil) ff rfl fun g8 => ⟨_, _, [0, 1, 2, 3, 4], rfl, (.cons 2 rfl <| .cons 3 rfl <| .cons 4 rfl <| .cons 5 rfl <| .cons 6 rfl <| .cons 7 rfl <| .cons 8 rfl <| .cons 9 rfl <| .cons 10 rfl <| .cons 23 rfl <| .cons 24 rfl <| .cons 26 rfl <| .cons 27 rfl <| .cons 92 rfl <| .cons 93 rfl <| .cons 94 rfl <| .nil), (.cons 0 rfl <| .cons 1 rfl <| .cons 2 rfl <| .cons 3 rfl <| .cons 4 rfl <| .nil), ?_⟩)
      refine JN_then ?_
      refine J_block ?_
      refine J_loopc (α := Nat) (fun k => k ≤ ((frX (bs.map cn) (cs.map cn) (us.map cn) (vs.map cn)) w).length) (fun k => ((frX (bs.map cn) (cs.map cn) (us.map cn) (vs.map cn)) w).length - k) (fun k restR => (27, isv (.int .i64 (k : Int))) :: restR) (fun k restS => som ([(agN 2 (g2 32)), (agN 2 (g2 34)), (g2 36), (g2 38)].getD w NILW) flp (putV 4635118810238550016 ((frX (bs.map cn) (cs.map cn) (us.map cn) (vs.map cn)) w) k) 37 :: restS) (ρc := [(2, _), (3, _), (4, _), (5, _), (6, _), (7, _), (8, _), (9, _), (10, _), (23, _), (24, _), (26, _), (92, _), (93, _), (94, _)]) (σc := [_, _, _, _]) 0 (by exact Nat.zero_le _) (To.pick (fun _ => .sub (t := 27) rfl (sp_eq (by rfl)) <| .cons 2 rfl <| .cons 3 rfl <| .cons 4 rfl <| .cons 5 rfl <| .cons 6 rfl <| .cons 7 rfl <| .cons 8 rfl <| .cons 9 rfl <| .cons 10 rfl <| .cons 23 rfl <| .cons 24 rfl <| .cons 26 rfl <| .cons 92 rfl <| .cons 93 rfl <| .cons 94 rfl <| .nil) (fun _ => .sub 4 rfl ((res_eq rfl)) <| .cons 0 rfl <| .cons 1 rfl <| .cons 2 rfl <| .cons 3 rfl <| .nil) (ks := [4, 0, 1, 2, 3]) rfl) (fun k hJ => ?_)
      have hpl := length_putV (v := 4635118810238550016) (xs := ((frX (bs.map cn) (cs.map cn) (us.map cn) (vs.map cn)) w)) hJ
      have hfl := frX_le (a := (bs.map cn)) (b := (cs.map cn)) (c := (us.map cn)) (d := (vs.map cn)) (n := 17592186044416) (i := w) (by have := hb.2; simp; omega) (by have := hc.2; simp; omega) (by have := hu.2; simp; omega) (by have := hv.2; simp; omega)
      refine J_seq ?_
      refine J_seq (J_reg [] (
          .cons (.no) _ _ (op_move (Lk.t rfl)) <|
          .cons (.no) _ _ (op_move (Lk.t rfl)) <|
          .cons (.rd 0) _ _ (op_len_som 0 sl26 (Lk.t rfl) rfl) <|
          .cons (.no) _ _ (op_cmp (by simp) (Lk.t rfl) (Lk.t rfl) rfl) <|
          .nil) ff rfl fun g9 => ⟨_, _, [0, 1, 2, 3, 4], rfl, (.cons 2 rfl <| .cons 3 rfl <| .cons 4 rfl <| .cons 5 rfl <| .cons 6 rfl <| .cons 7 rfl <| .cons 8 rfl <| .cons 9 rfl <| .cons 10 rfl <| .cons 23 rfl <| .cons 24 rfl <| .cons 26 rfl <| .cons 27 rfl <| .cons 92 rfl <| .cons 93 rfl <| .cons 94 rfl <| .cons 101 rfl <| .nil), (.cons 0 rfl <| .cons 1 rfl <| .cons 2 rfl <| .cons 3 rfl <| .cons 4 rfl <| .nil), ?_⟩)
      refine JN_then ?_
      refine J_cond (cond_of (Lk.t rfl)) (fun h3 => ?_) (fun h3 => ?_)
      · have h3' := h3
        try simp only [cmpB, Bool.and_eq_true, Bool.or_eq_true, Bool.and_eq_false_iff, Bool.or_eq_false_iff, Bool.not_eq_true', Bool.not_eq_false', Bool.not_eq_true, Bool.not_eq_false, decide_eq_true_eq, decide_eq_false_iff_not, Int.not_lt, Int.not_le, beq_iff_eq, bne_iff_ne, beq_eq_false_iff_ne, bne_eq_false_iff_eq, ne_eq, Decidable.not_not] at h3
        refine J_skip ?_
        refine JN_then ?_
        refine J_seq ?_
        refine J_block ?_
        refine (J_reg [] (
            .cons (.no) _ _ (op_move (Lk.t rfl)) <|
            .cons (.no) _ _ (op_move (Lk.t rfl)) <|
            .cons (.rd 0) _ _ (op_index_som 0 sl26 (Lk.t rfl) (Lk.t rfl) rfl (by omega) (by omega)) <|
            .cons (.wr 0) _ _ (op_store_som 0 (Lk.t rfl) (Lk.fk rfl (by decide +kernel)) co_flp sz37 rfl (by omega)) <|
            .nil) ff rfl fun g10 => ⟨_, _, [0, 1, 2, 3, 4], rfl, (.cons 2 rfl <| .cons 3 rfl <| .cons 4 rfl <| .cons 5 rfl <| .cons 6 rfl <| .cons 7 rfl <| .cons 8 rfl <| .cons 9 rfl <| .cons 10 rfl <| .cons 23 rfl <| .cons 24 rfl <| .cons 26 rfl <| .cons 27 rfl <| .cons 92 rfl <| .cons 93 rfl <| .cons 94 rfl <| .nil), (.cons 0 rfl <| .cons 1 rfl <| .cons 2 rfl <| .cons 3 rfl <| .cons 4 rfl <| .nil), ?_⟩)
        refine JN_block ?_
        refine JN_then ?_
        refine (J_reg [] (
            .cons (.no) _ _ (op_move (Lk.t rfl)) <|
            .cons (.no) _ _ (op_add (Lk.t rfl) (Lk.k rfl) (wrap_id (by omega) (by omega))) <|
            .cons (.no) _ _ (op_assign (Lk.t rfl)) <|
            .nil) ff rfl fun g11 => ⟨_, _, [0, 1, 2, 3, 4], rfl, (.cons 2 rfl <| .cons 3 rfl <| .cons 4 rfl <| .cons 5 rfl <| .cons 6 rfl <| .cons 7 rfl <| .cons 8 rfl <| .cons 9 rfl <| .cons 10 rfl <| .cons 23 rfl <| .cons 24 rfl <| .cons 26 rfl <| .cons 27 rfl <| .cons 92 rfl <| .cons 93 rfl <| .cons 94 rfl <| .nil), (.cons 0 rfl <| .cons 1 rfl <| .cons 2 rfl <| .cons 3 rfl <| .cons 4 rfl <| .nil), ?_⟩)
        exact JN_again (k + 1) (by omega) (by omega) (To.pick (fun _ => .sub (t := 27) rfl (sp_eq (by rfl)) <| .cons 2 rfl <| .cons 3 rfl <| .cons 4 rfl <| .cons 5 rfl <| .cons 6 rfl <| .cons 7 rfl <| .cons 8 rfl <| .cons 9 rfl <| .cons 10 rfl <| .cons 23 rfl <| .cons 24 rfl <| .cons 26 rfl <| .cons 92 rfl <| .cons 93 rfl <| .cons 94 rfl <| .nil) (fun _ => .sub 0 rfl ((res_eq (by rw [← putV_set (by omega)]; rfl))) <| .cons 1 rfl <| .cons 2 rfl <| .cons 3 rfl <| .cons 4 rfl <| .nil) (ks := [0, 1, 2, 3, 4]) rfl)
      · have h3' := h3
        try simp only [cmpB, Bool.and_eq_true, Bool.or_eq_true, Bool.and_eq_false_iff, Bool.or_eq_false_iff, Bool.not_eq_true', Bool.not_eq_false', Bool.not_eq_true, Bool.not_eq_false, decide_eq_true_eq, decide_eq_false_iff_not, Int.not_lt, Int.not_le, beq_iff_eq, bne_iff_ne, beq_eq_false_iff_ne, bne_eq_false_iff_eq, ne_eq, Decidable.not_not] at h3
        refine J_exit ?_
        refine JN_then_exit ?_
        refine JN_then_exit ?_
        refine JN_exit_here ?_
        refine JN_block ?_
        refine JN_then ?_
        refine J_to (To.res 0 (r' := som ([(agN 2 (g2 32)), (agN 2 (g2 34)), (g2 36), (g2 38)].getD w NILW) flp (List.replicate ((frX (bs.map cn) (cs.map cn) (us.map cn) (vs.map cn)) w).length 4635118810238550016) 37) rfl (res_eq (by rw [putV_all (by omega)])) rfl) ?_
        refine J_to (To.unfocus 1 0 w (by omega) rfl rfl rfl rfl) ?_
        refine J_to (To.res 1 (r' := pool 4 (plW [(agN 2 (g2 32)), (agN 2 (g2 34)), (g2 36), (g2 38)] (wrL 4635118810238550016 (frX (bs.map cn) (cs.map cn) (us.map cn) (vs.map cn)) (w + 1)) 37)) rfl plW_fill rfl) ?_
        refine (J_reg [] (
            .cons (.no) _ _ (op_add (Lk.t rfl) (Lk.k rfl) (wrap_id (by omega) (by omega))) <|
            .cons (.no) _ _ (op_move (Lk.t rfl)) <|
            .nil) ff rfl fun g12 => ⟨_, _, [1, 2, 3, 4], rfl, (.cons 2 rfl <| .cons 3 rfl <| .cons 4 rfl <| .cons 5 rfl <| .cons 6 rfl <| .cons 7 rfl <| .cons 8 rfl <| .cons 9 rfl <| .cons 10 rfl <| .cons 23 rfl <| .cons 24 rfl <| .cons 92 rfl <| .cons 93 rfl <| .cons 94 rfl <| .nil), (.cons 1 rfl <| .cons 2 rfl <| .cons 3 rfl <| .cons 4 rfl <| .nil), ?_⟩)
        exact JN_again (w + 1) (by omega) (by omega) (To.pick (fun _ => .sub (t := 94) rfl (sp_eq (by rfl)) <| .cons 2 rfl <| .cons 3 rfl <| .cons 4 rfl <| .cons 5 rfl <| .cons 6 rfl <| .cons 7 rfl <| .cons 8 rfl <| .cons 9 rfl <| .cons 10 rfl <| .cons 23 rfl <| .cons 24 rfl <| .cons 92 rfl <| .cons 93 rfl <| .nil) (fun _ => .sub 0 rfl ((fun _ _ h => h)) <| .cons 1 rfl <| .cons 2 rfl <| .cons 3 rfl <| .nil) (ks := [0, 1, 2, 3]) rfl)
    · have h2' := h2
      try simp only [cmpB, Bool.and_eq_true, Bool.or_eq_true, Bool.and_eq_false_iff, Bool.or_eq_false_iff, Bool.not_eq_true', Bool.not_eq_false', Bool.not_eq_true, Bool.not_eq_false, decide_eq_true_eq, decide_eq_false_iff_not, Int.not_lt, Int.not_le, beq_iff_eq, bne_iff_ne, beq_eq_false_iff_ne, bne_eq_false_iff_eq, ne_eq, Decidable.not_not] at h2
      refine J_exit ?_
      refine JN_then_exit ?_
      refine JN_then_exit ?_
      refine JN_exit_here ?_
      refine JN_then ?_
      refine J_seq ?_
      refine J_seq (J_reg [] (
          .cons (.no) _ _ (op_assign (Lk.k rfl)) <|
          .nil) ff rfl fun g13 => ⟨_, _, [0, 1, 2, 3], rfl, (.cons 2 rfl <| .cons 3 rfl <| .cons 4 rfl <| .cons 5 rfl <| .cons 6 rfl <| .cons 7 rfl <| .cons 8 rfl <| .cons 9 rfl <| .cons 10 rfl <| .cons 23 rfl <| .cons 24 rfl <| .cons 28 rfl <| .nil), (.cons 0 rfl <| .cons 1 rfl <| .cons 2 rfl <| .cons 3 rfl <| .nil), ?_⟩)
      refine JN_then ?_
      refine J_block ?_
      refine J_loopc (α := Nat) (fun k => k ≤ ps.length) (fun k => ps.length - k) (fun k restR => (28, isv (.int .i64 (k : Int))) :: restR) (fun k restS => som (g2 41) (inp .i64) (putV 0 ps k) 3 :: restS) (ρc := [(2, _), (3, _), (4, _), (5, _), (6, _), (7, _), (8, _), (9, _), (10, _), (23, _), (24, _)]) (σc := [_, _, _]) 0 (by exact Nat.zero_le _) (To.pick (fun _ => .sub (t := 28) rfl (sp_eq (by rfl)) <| .cons 2 rfl <| .cons 3 rfl <| .cons 4 rfl <| .cons 5 rfl <| .cons 6 rfl <| .cons 7 rfl <| .cons 8 rfl <| .cons 9 rfl <| .cons 10 rfl <| .cons 23 rfl <| .cons 24 rfl <| .nil) (fun _ => .sub 3 rfl ((res_eq rfl)) <| .cons 0 rfl <| .cons 1 rfl <| .cons 2 rfl <| .nil) (ks := [3, 0, 1, 2]) rfl) (fun k hI => ?_)
      have hpl := length_putV (v := (0 : Int)) (xs := ps) hI
      refine J_seq ?_
      refine J_seq (J_reg [] (
          .cons (.no) _ _ (op_move (Lk.t rfl)) <|
          .cons (.no) _ _ (op_move (Lk.t rfl)) <|
          .cons (.rd 0) _ _ (op_len_som 0 sl46 (Lk.t rfl) rfl) <|
          .cons (.no) _ _ (op_cmp (by simp) (Lk.t rfl) (Lk.t rfl) rfl) <|
          .nil) ff rfl fun g14 => ⟨_, _, [0, 1, 2, 3], rfl, (.cons 2 rfl <| .cons 3 rfl <| .cons 4 rfl <| .cons 5 rfl <| .cons 6 rfl <| .cons 7 rfl <| .cons 8 rfl <| .cons 9 rfl <| .cons 10 rfl <| .cons 23 rfl <| .cons 24 rfl <| .cons 28 rfl <| .cons 111 rfl <| .nil), (.cons 0 rfl <| .cons 1 rfl <| .cons 2 rfl <| .cons 3 rfl <| .nil), ?_⟩)
      refine JN_then ?_
      refine J_cond (cond_of (Lk.t rfl)) (fun h4 => ?_) (fun h4 => ?_)
      · have h4' := h4
        try simp only [cmpB, Bool.and_eq_true, Bool.or_eq_true, Bool.and_eq_false_iff, Bool.or_eq_false_iff, Bool.not_eq_true', Bool.not_eq_false', Bool.not_eq_true, Bool.not_eq_false, decide_eq_true_eq, decide_eq_false_iff_not, Int.not_lt, Int.not_le, beq_iff_eq, bne_iff_ne, beq_eq_false_iff_ne, bne_eq_false_iff_eq, ne_eq, Decidable.not_not] at h4
        refine J_skip ?_
        refine JN_then ?_
        refine J_seq ?_
        refine J_block ?_
        refine J_seq ?_
        refine J_seq (J_reg [[], [], [0, 1], [0, 1, 2], [], [], [4, 5], [4, 5, 6], [0, 1, 2, 3, 4, 5, 6, 7]] (
            .cons (.no) _ _ (op_move (Lk.t rfl)) <|
            .cons (.no) _ _ (op_move (Lk.t rfl)) <|
            .cons (.rd 0) _ _ (op_index_som 0 sl46 (Lk.t rfl) (Lk.t rfl) rfl (by omega) (by omega)) <|
            .cons (.rd 0) _ _ (op_get_som 0 0 sc3 (Lk.t rfl) rfl (by omega)) <|
            .cons (.no) _ _ (op_move (Lk.t rfl)) <|
            .cons (.no) _ _ (op_move (Lk.t rfl)) <|
            .cons (.no) _ _ (op_index_m 0 sl46 (Lk.t rfl) (Lk.t rfl) (by omega) (by omega)) <|
            .cons (.no) _ _ (op_load_sc sc3 (Lk.t rfl) rfl) <|
            .cons (.no) _ _ (op_cmp (by simp) (Lk.t rfl) (Lk.t rfl) rfl) <|
            .nil) (fun _ => mixed) rfl fun g15 => ⟨_, _, [0, 1, 2, 3], rfl, (.cons 2 rfl <| .cons 3 rfl <| .cons 4 rfl <| .cons 5 rfl <| .cons 6 rfl <| .cons 7 rfl <| .cons 8 rfl <| .cons 9 rfl <| .cons 10 rfl <| .cons 23 rfl <| .cons 24 rfl <| .cons 28 rfl <| .cons 122 rfl <| .nil), (.cons 0 rfl <| .cons 1 rfl <| .cons 2 rfl <| .cons 3 rfl <| .nil), ?_⟩)
        refine JN_then ?_
        refine J_cond (cond_of (Lk.t rfl)) (fun h5 => ?_) (fun h5 => ?_)
        · have h5' := h5
          try simp only [cmpB, Bool.and_eq_true, Bool.or_eq_true, Bool.and_eq_false_iff, Bool.or_eq_false_iff, Bool.not_eq_true', Bool.not_eq_false', Bool.not_eq_true, Bool.not_eq_false, decide_eq_true_eq, decide_eq_false_iff_not, Int.not_lt, Int.not_le, beq_iff_eq, bne_iff_ne, beq_eq_false_iff_ne, bne_eq_false_iff_eq, ne_eq, Decidable.not_not] at h5
          exact absurd h5' (by rw [putV_at (by omega)]; simp [cmpB])
        · have h5' := h5
          try simp only [cmpB, Bool.and_eq_true, Bool.or_eq_true, Bool.and_eq_false_iff, Bool.or_eq_false_iff, Bool.not_eq_true', Bool.not_eq_false', Bool.not_eq_true, Bool.not_eq_false, decide_eq_true_eq, decide_eq_false_iff_not, Int.not_lt, Int.not_le, beq_iff_eq, bne_iff_ne, beq_eq_false_iff_ne, bne_eq_false_iff_eq, ne_eq, Decidable.not_not] at h5
          refine J_skip ?_
          refine JN_then ?_
          refine (J_reg [] (
              .cons (.no) _ _ (op_move (Lk.t rfl)) <|
              .cons (.no) _ _ (op_move (Lk.t rfl)) <|
              .cons (.rd 0) _ _ (op_index_som 0 sl46 (Lk.t rfl) (Lk.t rfl) rfl (by omega) (by omega)) <|
              .cons (.wr 0) _ _ (op_store_som (mk := inp .i64) 0 (Lk.t rfl) (Lk.k rfl) co_isv sz3 rfl (by omega)) <|
              .nil) ff rfl fun g16 => ⟨_, _, [0, 1, 2, 3], rfl, (.cons 2 rfl <| .cons 3 rfl <| .cons 4 rfl <| .cons 5 rfl <| .cons 6 rfl <| .cons 7 rfl <| .cons 8 rfl <| .cons 9 rfl <| .cons 10 rfl <| .cons 23 rfl <| .cons 24 rfl <| .cons 28 rfl <| .nil), (.cons 0 rfl <| .cons 1 rfl <| .cons 2 rfl <| .cons 3 rfl <| .nil), ?_⟩)
          refine JN_block ?_
          refine JN_then ?_
          refine (J_reg [] (
              .cons (.no) _ _ (op_move (Lk.t rfl)) <|
              .cons (.no) _ _ (op_add (Lk.t rfl) (Lk.k rfl) (wrap_id (by omega) (by omega))) <|
              .cons (.no) _ _ (op_assign (Lk.t rfl)) <|
              .nil) ff rfl fun g17 => ⟨_, _, [0, 1, 2, 3], rfl, (.cons 2 rfl <| .cons 3 rfl <| .cons 4 rfl <| .cons 5 rfl <| .cons 6 rfl <| .cons 7 rfl <| .cons 8 rfl <| .cons 9 rfl <| .cons 10 rfl <| .cons 23 rfl <| .cons 24 rfl <| .cons 28 rfl <| .nil), (.cons 0 rfl <| .cons 1 rfl <| .cons 2 rfl <| .cons 3 rfl <| .nil), ?_⟩)
          exact JN_again (k + 1) (by omega) (by omega) (To.pick (fun _ => .sub (t := 28) rfl (sp_eq (by rfl)) <| .cons 2 rfl <| .cons 3 rfl <| .cons 4 rfl <| .cons 5 rfl <| .cons 6 rfl <| .cons 7 rfl <| .cons 8 rfl <| .cons 9 rfl <| .cons 10 rfl <| .cons 23 rfl <| .cons 24 rfl <| .nil) (fun _ => .sub 0 rfl ((res_eq (by rw [← putV_set (by omega)]))) <| .cons 1 rfl <| .cons 2 rfl <| .cons 3 rfl <| .nil) (ks := [0, 1, 2, 3]) rfl)
      · have h4' := h4
        try simp only [cmpB, Bool.and_eq_true, Bool.or_eq_true, Bool.and_eq_false_iff, Bool.or_eq_false_iff, Bool.not_eq_true', Bool.not_eq_false', Bool.not_eq_true, Bool.not_eq_false, decide_eq_true_eq, decide_eq_false_iff_not, Int.not_lt, Int.not_le, beq_iff_eq, bne_iff_ne, beq_eq_false_iff_ne, bne_eq_false_iff_eq, ne_eq, Decidable.not_not] at h4
        refine J_exit ?_
        refine JN_then_exit ?_
        refine JN_then_exit ?_
        refine JN_exit_here ?_
        refine JN_then ?_
        refine J_to (To.emps 1) ?_
        refine J_seq (J_reg [[], [0], [], [0, 1, 2], [], [0, 1, 2, 3, 4], [], [0, 1, 2, 3, 4, 5, 6], [], [], [], [], [], [], [0, 1, 2, 3, 4, 5, 6, 7, 12, 13], [0, 1, 2, 3, 4, 5, 6, 7, 8, 9, 10, 11, 12, 13, 14], [0, 1, 2, 3, 4, 5, 6, 7, 8, 9, 10, 11, 12, 13, 14, 15]] (
            .cons (.rd 2) _ _ (op_get_ag 2 ag24 (Lk.t rfl) rfl mem_blk rfl rfl) <|
            .cons (.no) _ _ (op_call (lof_ok hb) ⟨(Lk.t rfl),  trivial⟩) <|
            .cons (.rd 3) _ _ (op_get_ag 3 ag24 (Lk.t rfl) rfl mem_blk rfl rfl) <|
            .cons (.no) _ _ (op_call (lof_ok hc) ⟨(Lk.t rfl),  trivial⟩) <|
            .cons (.no) _ _ (op_move (Lk.t rfl)) <|
            .cons (.no) _ _ (op_call (l_ok hu) ⟨(Lk.t rfl),  trivial⟩) <|
            .cons (.no) _ _ (op_move (Lk.t rfl)) <|
            .cons (.no) _ _ (op_call (l_ok hv) ⟨(Lk.t rfl),  trivial⟩) <|
            .cons (.no) _ _ (op_move (Lk.t rfl)) <|
            .cons (.no) _ _ (op_move (Lk.t rfl)) <|
            .cons (.no) _ _ (op_move (Lk.t rfl)) <|
            .cons (.no) _ _ (op_move (Lk.t rfl)) <|
            .cons (.no) _ _ (op_build0L sl46) <|
            .cons (.no) _ _ (op_move (Lk.t rfl)) <|
            .cons (.no) _ _ (op_append_e0 sl46 zr3 rfl (Lk.t rfl) (Lk.t rfl) (by omega) (by omega)) <|
            .cons (.no) _ _ (op_call (ans_ok) ⟨(Lk.t rfl), (Lk.t rfl), (Lk.t rfl), (Lk.t rfl), (Lk.t rfl), (Lk.t rfl), (Lk.t rfl), (Lk.t rfl), (Lk.t rfl),  trivial⟩) <|
            .cons (.no) _ _ (op_assign (Lk.t rfl)) <|
            .nil) (fun _ => mixed) rfl fun g18 => ⟨_, _, [0, 1], rfl, (.cons 24 rfl <| .cons 29 rfl <| .nil), (.cons 0 rfl <| .cons 1 rfl <| .nil), ?_⟩)
        refine JN_then ?_
        refine J_seq ?_
        refine J_seq (J_reg [] (
            .cons (.no) _ _ (op_assign (Lk.k rfl)) <|
            .nil) ff rfl fun g19 => ⟨_, _, [0, 1], rfl, (.cons 24 rfl <| .cons 29 rfl <| .cons 30 rfl <| .nil), (.cons 0 rfl <| .cons 1 rfl <| .nil), ?_⟩)
        refine JN_then ?_
        refine J_block ?_
        refine J_loopc (α := Nat) (fun k => k ≤ (ansL r c (bs.map cn) r' c' (cs.map cn) (us.map cn) (vs.map cn) i j p q ps).length) (fun k => (ansL r c (bs.map cn) r' c' (cs.map cn) (us.map cn) (vs.map cn) i j p q ps).length - k) (fun k restR => (30, isv (.int .i64 (k : Int))) :: restR) (fun k restS => restS) (ρc := [(24, _), (29, _)]) (σc := [_, _]) 0 (by exact Nat.zero_le _) (To.pick (fun _ => .sub (t := 30) rfl (sp_eq (by rfl)) <| .cons 24 rfl <| .cons 29 rfl <| .nil) (fun _ => .cons 0 rfl <| .cons 1 rfl <| .nil) (ks := [0, 1]) rfl) (fun k hI => ?_)
        have hal : (ansL r c (bs.map cn) r' c' (cs.map cn) (us.map cn) (vs.map cn) i j p q ps).length = 22 := rfl
        refine J_seq ?_
        refine J_seq (J_reg [] (
            .cons (.no) _ _ (op_move (Lk.t rfl)) <|
            .cons (.no) _ _ (op_move (Lk.t rfl)) <|
            .cons (.no) _ _ (op_len_sk sl47 (Lk.t rfl)) <|
            .cons (.no) _ _ (op_cmp (by simp) (Lk.t rfl) (Lk.t rfl) rfl) <|
            .nil) ff rfl fun g20 => ⟨_, _, [0, 1], rfl, (.cons 24 rfl <| .cons 29 rfl <| .cons 30 rfl <| .cons 145 rfl <| .nil), (.cons 0 rfl <| .cons 1 rfl <| .nil), ?_⟩)
        refine JN_then ?_
        refine J_cond (cond_of (Lk.t rfl)) (fun h6 => ?_) (fun h6 => ?_)
        · have h6' := h6
          try simp only [cmpB, Bool.and_eq_true, Bool.or_eq_true, Bool.and_eq_false_iff, Bool.or_eq_false_iff, Bool.not_eq_true', Bool.not_eq_false', Bool.not_eq_true, Bool.not_eq_false, decide_eq_true_eq, decide_eq_false_iff_not, Int.not_lt, Int.not_le, beq_iff_eq, bne_iff_ne, beq_eq_false_iff_ne, bne_eq_false_iff_eq, ne_eq, Decidable.not_not] at h6
          refine J_skip ?_
          refine JN_then ?_
          refine J_seq ?_
          refine J_block ?_
          refine J_seq (J_reg [[], [], [0, 1], [0, 1, 2], [0, 1, 2, 3], [], [], [5, 6], [5, 6, 7], [5, 6, 7, 8], [0, 1, 2, 3, 4, 5, 6, 7, 8, 9], [0, 1, 2, 3, 4, 5, 6, 7, 8, 9, 10], [0, 1, 2, 3, 4, 5, 6, 7, 8, 9, 10, 11], [0, 1, 2, 3, 4, 5, 6, 7, 8, 9, 10, 11], [0, 1, 2, 3, 4, 5, 6, 7, 8, 9, 10, 11, 12, 13], [0, 1, 2, 3, 4, 5, 6, 7, 8, 9, 10, 11, 12, 13, 14], [0, 1, 2, 3, 4, 5, 6, 7, 8, 9, 10, 11, 12, 13, 14, 15], [0, 1, 2, 3, 4, 5, 6, 7, 8, 9, 10, 11], [0, 1, 2, 3, 4, 5, 6, 7, 8, 9, 10, 11], [0, 1, 2, 3, 4, 5, 6, 7, 8, 9, 10, 11, 17, 18], [0, 1, 2, 3, 4, 5, 6, 7, 8, 9, 10, 11, 17, 18, 19], [0, 1, 2, 3, 4, 5, 6, 7, 8, 9, 10, 11, 17, 18, 19, 20], [0, 1, 2, 3, 4, 5, 6, 7, 8, 9, 10, 11, 12, 13, 14, 15, 16, 17, 18, 19, 20, 21], [0, 1, 2, 3, 4, 5, 6, 7, 8, 9, 10, 11, 12, 13, 14, 15, 16, 17, 18, 19, 20, 21, 22], [0, 1, 2, 3, 4, 5, 6, 7, 8, 9, 10, 11, 12, 13, 14, 15, 16, 17, 18, 19, 20, 21, 22, 23], [0, 1, 2, 3, 4, 5, 6, 7, 8, 9, 10, 11, 12, 13, 14, 15, 16, 17, 18, 19, 20, 21, 22, 23, 24], [0, 1, 2, 3, 4, 5, 6, 7, 8, 9, 10, 11, 12, 13, 14, 15, 16, 17, 18, 19, 20, 21, 22, 23, 24], [0, 1, 2, 3, 4, 5, 6, 7, 8, 9, 10, 11, 12, 13, 14, 15, 16, 17, 18, 19, 20, 21, 22, 23, 24, 25, 26], [0, 1, 2, 3, 4, 5, 6, 7, 8, 9, 10, 11, 12, 13, 14, 15, 16, 17, 18, 19, 20, 21, 22, 23, 24, 25, 26, 27], [0, 1, 2, 3, 4, 5, 6, 7, 8, 9, 10, 11, 12, 13, 14, 15, 16, 17, 18, 19, 20, 21, 22, 23, 24, 25, 26, 27, 28], [0, 1, 2, 3, 4, 5, 6, 7, 8, 9, 10, 11, 12, 13, 14, 15, 16, 17, 18, 19, 20, 21, 22, 23, 24], [0, 1, 2, 3, 4, 5, 6, 7, 8, 9, 10, 11, 12, 13, 14, 15, 16, 17, 18, 19, 20, 21, 22, 23, 24], [0, 1, 2, 3, 4, 5, 6, 7, 8, 9, 10, 11, 12, 13, 14, 15, 16, 17, 18, 19, 20, 21, 22, 23, 24, 30, 31], [0, 1, 2, 3, 4, 5, 6, 7, 8, 9, 10, 11, 12, 13, 14, 15, 16, 17, 18, 19, 20, 21, 22, 23, 24, 30, 31, 32], [0, 1, 2, 3, 4, 5, 6, 7, 8, 9, 10, 11, 12, 13, 14, 15, 16, 17, 18, 19, 20, 21, 22, 23, 24, 30, 31, 32, 33], [0, 1, 2, 3, 4, 5, 6, 7, 8, 9, 10, 11, 12, 13, 14, 15, 16, 17, 18, 19, 20, 21, 22, 23, 24, 25, 26, 27, 28, 29, 30, 31, 32, 33, 34], [0, 1, 2, 3, 4, 5, 6, 7, 8, 9, 10, 11, 12, 13, 14, 15, 16, 17, 18, 19, 20, 21, 22, 23, 24, 25, 26, 27, 28, 29, 30, 31, 32, 33, 34, 35], [0, 1, 2, 3, 4, 5, 6, 7, 8, 9, 10, 11, 12, 13, 14, 15, 16, 17, 18, 19, 20, 21, 22, 23, 24, 25, 26, 27, 28, 29, 30, 31, 32, 33, 34, 35, 36]] (
              .cons (.no) _ _ (op_move (Lk.t rfl)) <|
              .cons (.no) _ _ (op_move (Lk.t rfl)) <|
              .cons (.no) _ _ (op_index_sk (mk := mtM) mxD sl47 mtM_len (Lk.t rfl) (Lk.t rfl) (by omega) (by omega)) <|
              .cons (.no) _ _ (op_field_ptr fd28_0 (Lk.t rfl) rfl) <|
              .cons (.no) _ _ (op_load_sc sc3 (Lk.t rfl) rfl) <|
              .cons (.no) _ _ (op_move (Lk.t rfl)) <|
              .cons (.no) _ _ (op_move (Lk.t rfl)) <|
              .cons (.no) _ _ (op_index_sk (mk := mtM) mxD sl47 mtM_len (Lk.t rfl) (Lk.t rfl) (by omega) (by omega)) <|
              .cons (.no) _ _ (op_field_ptr fd28_0 (Lk.t rfl) rfl) <|
              .cons (.no) _ _ (op_load_sc sc3 (Lk.t rfl) rfl) <|
              .cons (.no) _ _ (op_cmp (by simp) (Lk.t rfl) (Lk.t rfl) rfl) <|
              .cons (.no) _ _ (op_move (Lk.t rfl)) <|
              .cons (.no) _ _ (op_guard rfl rfl (gd_b rfl) (fun hC => (op_move (Lk.t rfl)))) <|
              .cons (.no) _ _ (op_guard rfl rfl (gd_b rfl) (fun hC => (op_move (Lk.t rfl)))) <|
              .cons (.no) _ _ (op_guard rfl rfl (gd_b rfl) (fun hC => (op_index_sk (mk := mtM) mxD sl47 mtM_len (Lk.w rfl hC) (Lk.w rfl hC) (by omega) (by omega)))) <|
              .cons (.no) _ _ (op_guard rfl rfl (gd_b rfl) (fun hC => (op_field_ptr fd28_1 (Lk.w rfl hC) rfl))) <|
              .cons (.no) _ _ (op_guard rfl rfl (gd_b rfl) (fun hC => (op_load_sc sc3 (Lk.w rfl hC) rfl))) <|
              .cons (.no) _ _ (op_guard rfl rfl (gd_b rfl) (fun hC => (op_move (Lk.t rfl)))) <|
              .cons (.no) _ _ (op_guard rfl rfl (gd_b rfl) (fun hC => (op_move (Lk.t rfl)))) <|
              .cons (.no) _ _ (op_guard rfl rfl (gd_b rfl) (fun hC => (op_index_sk (mk := mtM) mxD sl47 mtM_len (Lk.w rfl hC) (Lk.w rfl hC) (by omega) (by omega)))) <|
              .cons (.no) _ _ (op_guard rfl rfl (gd_b rfl) (fun hC => (op_field_ptr fd28_1 (Lk.w rfl hC) rfl))) <|
              .cons (.no) _ _ (op_guard rfl rfl (gd_b rfl) (fun hC => (op_load_sc sc3 (Lk.w rfl hC) rfl))) <|
              .cons (.no) _ _ (op_guard rfl rfl (gd_b rfl) (fun hC => (op_cmp (by simp) (Lk.w rfl hC) (Lk.w rfl hC) rfl))) <|
              .cons (.no) _ _ (op_or (Lk.t rfl) (fun h2 => (Lk.w rfl h2))) <|
              .cons (.no) _ _ (op_move (Lk.t rfl)) <|
              .cons (.no) _ _ (op_guard rfl rfl (gd_b rfl) (fun hC => (op_move (Lk.t rfl)))) <|
              .cons (.no) _ _ (op_guard rfl rfl (gd_b rfl) (fun hC => (op_move (Lk.t rfl)))) <|
              .cons (.no) _ _ (op_guard rfl rfl (gd_b rfl) (fun hC => (op_index_sk (mk := mtM) mxD sl47 mtM_len (Lk.w rfl hC) (Lk.w rfl hC) (by omega) (by omega)))) <|
              .cons (.no) _ _ (op_guard rfl rfl (gd_b rfl) (fun hC => (op_field_ptr fd28_2 (Lk.w rfl hC) rfl))) <|
              .cons (.no) _ _ (op_guard rfl rfl (gd_b rfl) (fun hC => (op_load_sc sc26 (Lk.w rfl hC) rfl))) <|
              .cons (.no) _ _ (op_guard rfl rfl (gd_b rfl) (fun hC => (op_move (Lk.t rfl)))) <|
              .cons (.no) _ _ (op_guard rfl rfl (gd_b rfl) (fun hC => (op_move (Lk.t rfl)))) <|
              .cons (.no) _ _ (op_guard rfl rfl (gd_b rfl) (fun hC => (op_index_sk (mk := mtM) mxD sl47 mtM_len (Lk.w rfl hC) (Lk.w rfl hC) (by omega) (by omega)))) <|
              .cons (.no) _ _ (op_guard rfl rfl (gd_b rfl) (fun hC => (op_field_ptr fd28_2 (Lk.w rfl hC) rfl))) <|
              .cons (.no) _ _ (op_guard rfl rfl (gd_b rfl) (fun hC => (op_load_sc sc26 (Lk.w rfl hC) rfl))) <|
              .cons (.no) _ _ (op_guard rfl rfl (gd_b rfl) (fun hC => (op_call (slist_ok) ⟨(Lk.w rfl hC), (Lk.w rfl hC),  trivial⟩))) <|
              .cons (.no) _ _ (op_guard rfl rfl (gd_b rfl) (fun hC => (op_not (Lk.w rfl hC)))) <|
              .cons (.no) _ _ (op_or (Lk.t rfl) (fun h2 => (Lk.w rfl h2))) <|
              .nil) (fun _ => mixed) rfl fun g21 => ⟨_, _, [0, 1], rfl, (.cons 24 rfl <| .cons 29 rfl <| .cons 30 rfl <| .cons 185 rfl <| .nil), (.cons 0 rfl <| .cons 1 rfl <| .nil), ?_⟩)
          refine JN_then ?_
          refine J_cond (cond_of (Lk.t rfl)) (fun h7 => ?_) (fun h7 => ?_)
          · have h7' := h7
            try simp only [cmpB, Bool.and_eq_true, Bool.or_eq_true, Bool.and_eq_false_iff, Bool.or_eq_false_iff, Bool.not_eq_true', Bool.not_eq_false', Bool.not_eq_true, Bool.not_eq_false, decide_eq_true_eq, decide_eq_false_iff_not, Int.not_lt, Int.not_le, beq_iff_eq, bne_iff_ne, beq_eq_false_iff_ne, bne_eq_false_iff_eq, ne_eq, Decidable.not_not] at h7
            exact absurd h7' (by simp [cmpB])
          · have h7' := h7
            try simp only [cmpB, Bool.and_eq_true, Bool.or_eq_true, Bool.and_eq_false_iff, Bool.or_eq_false_iff, Bool.not_eq_true', Bool.not_eq_false', Bool.not_eq_true, Bool.not_eq_false, decide_eq_true_eq, decide_eq_false_iff_not, Int.not_lt, Int.not_le, beq_iff_eq, bne_iff_ne, beq_eq_false_iff_ne, bne_eq_false_iff_eq, ne_eq, Decidable.not_not] at h7
            refine J_skip ?_
            refine JN_block ?_
            refine JN_then ?_
            refine (J_reg [] (
                .cons (.no) _ _ (op_move (Lk.t rfl)) <|
                .cons (.no) _ _ (op_add (Lk.t rfl) (Lk.k rfl) (wrap_id (by omega) (by omega))) <|
                .cons (.no) _ _ (op_assign (Lk.t rfl)) <|
                .nil) ff rfl fun g22 => ⟨_, _, [0, 1], rfl, (.cons 24 rfl <| .cons 29 rfl <| .cons 30 rfl <| .nil), (.cons 0 rfl <| .cons 1 rfl <| .nil), ?_⟩)
            exact JN_again (k + 1) (by omega) (by omega) (To.pick (fun _ => .sub (t := 30) rfl (sp_eq (by rfl)) <| .cons 24 rfl <| .cons 29 rfl <| .nil) (fun _ => .cons 0 rfl <| .cons 1 rfl <| .nil) (ks := [0, 1]) rfl)
        · have h6' := h6
          try simp only [cmpB, Bool.and_eq_true, Bool.or_eq_true, Bool.and_eq_false_iff, Bool.or_eq_false_iff, Bool.not_eq_true', Bool.not_eq_false', Bool.not_eq_true, Bool.not_eq_false, decide_eq_true_eq, decide_eq_false_iff_not, Int.not_lt, Int.not_le, beq_iff_eq, bne_iff_ne, beq_eq_false_iff_ne, bne_eq_false_iff_eq, ne_eq, Decidable.not_not] at h6
          refine J_exit ?_
          refine JN_then_exit ?_
          refine JN_then_exit ?_
          refine JN_exit_here ?_
          refine JN_then ?_
          refine J_seq (J_reg [] (
              .cons (.no) _ _ (op_assign (Lk.k rfl)) <|
              .nil) ff rfl fun g23 => ⟨_, _, [0, 1], rfl, (.cons 18 rfl <| .nil), (.cons 0 rfl <| .cons 1 rfl <| .nil), ?_⟩)
          refine JN_then ?_
          refine J_ret ?_
          refine JN_ret (.cons (.tmp (Lk.t rfl)) <| .nil) (sb_trans (sb_res1 sb_refl) ?_)
          exact sb_refl
end Go.Proofs.Ytmakephdanbmaaa
