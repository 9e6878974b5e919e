/- Printed by a program of ours (walk.py): the walk of ModelGoes. -/
import Derived.Test.YtcnffgbncbadbaaTyp
import Derived.Test.YtcnffgbncbadbaaProg
import Derived.KernelRfl
import Derived.Test.YtcnffgbncbadbaaTypes
import Derived.Test.YtcnffgbncbadbaaWMoves
import Derived.Test.YtcnffgbncbadbaaGo
set_option linter.unusedVariables false
set_option linter.unusedSimpArgs false
set_option maxRecDepth 20000
set_option maxHeartbeats 1000000
namespace Go.Proofs.Ytcnffgbncbadbaa
open Go Go.Bn
attribute [local irreducible] OpOK
theorem mFx_ok {ps : List Prt} {n t : Int} {X : List Nat} (h : blkM moveB ps t = ⟨n, n, X, 0⟩) : Ct Try.prog 12 [MotP ps, isv (.int .i64 t)] (tupp [MatP n n X, isv (.int .i64 0)]) := (h ▸ mF_ok : Ct Try.prog 12 [MotP ps, isv (.int .i64 t)] (resM ⟨n, n, X, 0⟩))
theorem mQx_ok {ps : List Prt} {n t : Int} {X : List Nat} (h : blkM noiseB ps t = ⟨n, n, X, 0⟩) : Ct Try.prog 13 [MotP ps, isv (.int .i64 t)] (tupp [MatP n n X, isv (.int .i64 0)]) := (h ▸ mQ_ok : Ct Try.prog 13 [MotP ps, isv (.int .i64 t)] (resM ⟨n, n, X, 0⟩))
theorem mGx_ok {ps : List Prt} {n t : Int} {X : List Nat} (h : blkM rootB ps t = ⟨n, n, X, 0⟩) : Ct Try.prog 14 [MotP ps, isv (.int .i64 t)] (tupp [MatP n n X, isv (.int .i64 0)]) := (h ▸ mG_ok : Ct Try.prog 14 [MotP ps, isv (.int .i64 t)] (resM ⟨n, n, X, 0⟩))
theorem good_ok {r c n : Int} {xs : List Nat} (hn : Siz n n) : Ct Try.prog 15 [MatP r c xs, isv (.int .i64 n)] (isv (.bool (goodB r c xs n))) := by
  refine Ct.of Try.func15 rfl (by kernel_rfl) rfl fun c0 => ?_
  have hm := hn.mul
  refine J_to (To.emps 1) ?_
  refine J_seq (J_reg [] (
      .cons (.wr 0) _ _ (op_box 0 (Lk.t rfl) co_agg rfl) <|
      .cons (.no) _ _ (op_assign (Lk.k rfl)) <|
      .nil) ff rfl fun g1 => ⟨_, _, [0], rfl, (.cons 1 rfl <| .cons 2 rfl <| .nil), (.cons 0 rfl <| .nil), ?_⟩)
  refine JN_then ?_
  refine J_seq (J_reg [] (
      .cons (.no) _ _ (op_field_own fd34_0 (Lk.t rfl) rfl) <|
      .cons (.rd 0) _ _ (op_get_sc 0 sc3 (Lk.t rfl) rfl mem_blk rfl) <|
      .cons (.no) _ _ (op_move (Lk.t rfl)) <|
      .cons (.no) _ _ (op_cmp (by simp) (Lk.t rfl) (Lk.t rfl) rfl) <|
      .cons (.no) _ _ (op_move (Lk.t rfl)) <|
      .cons (.no) _ _ (op_guard rfl rfl (gd_b rfl) (fun hC => (op_field_own fd34_1 (Lk.t rfl) rfl))) <|
      .cons (.rd 0) _ _ (op_guard rfl rfl (gd_b rfl) (fun hC => (op_get_sc 0 sc3 (Lk.w rfl hC) rfl mem_blk rfl))) <|
      .cons (.no) _ _ (op_guard rfl rfl (gd_b rfl) (fun hC => (op_move (Lk.t rfl)))) <|
      .cons (.no) _ _ (op_guard rfl rfl (gd_b rfl) (fun hC => (op_cmp (by simp) (Lk.w rfl hC) (Lk.w rfl hC) rfl))) <|
      .cons (.no) _ _ (op_and (Lk.t rfl) (fun h2 => (Lk.w rfl h2))) <|
      .cons (.no) _ _ (op_move (Lk.t rfl)) <|
      .cons (.no) _ _ (op_guard rfl rfl (gd_b rfl) (fun hC => (op_field_own fd34_2 (Lk.t rfl) rfl))) <|
      .cons (.rd 0) _ _ (op_guard rfl rfl (gd_b rfl) (fun hC => (op_get_sc 0 sc32 (Lk.w rfl hC) rfl mem_blk rfl))) <|
      .cons (.no) _ _ (op_guard rfl rfl (gd_b rfl) (fun hC => (op_len_m sl32 (Lk.w rfl hC)))) <|
      .cons (.no) _ _ (op_guard rfl rfl (gd_b rfl) (fun hC => (op_move (Lk.t rfl)))) <|
      .cons (.no) _ _ (op_guard rfl rfl (gd_b rfl) (fun hC => (op_move (Lk.t rfl)))) <|
      .cons (.no) _ _ (op_guard rfl rfl (gd_b rfl) (fun hC => (op_mul (Lk.w rfl hC) (Lk.w rfl hC) (wrap_id (by omega) (by omega))))) <|
      .cons (.no) _ _ (op_guard rfl rfl (gd_b rfl) (fun hC => (op_cmp (by simp) (Lk.w rfl hC) (Lk.w rfl hC) rfl))) <|
      .cons (.no) _ _ (op_and (Lk.t rfl) (fun h2 => (Lk.w rfl h2))) <|
      .cons (.no) _ _ (op_assign (Lk.t rfl)) <|
      .nil) ff rfl fun g2 => ⟨_, _, [], rfl, (.cons 4 rfl <| .nil), (.nil), ?_⟩)
  refine JN_then ?_
  refine J_ret ?_
  refine JN_ret (.cons (.tmp (Lk.t rfl)) <| .nil) (sb_trans (sb_res1 sb_refl) ?_)
  exact ret_b rfl
theorem at_ok {r c i j : Int} {xs : List Nat} (hg : Good r c xs) (hp : Pl r c i j) : Ct Try.prog 16 [MatP r c xs, isv (.int .i64 i), isv (.int .i64 j)] (flp (mat c xs i j)) := by
  refine Ct.of Try.func16 rfl (by kernel_rfl) rfl fun c0 => ?_
  have hq := hp.rng hg.1
  have hl := hg.2
  obtain ⟨hs1, hs2, hs3, hs4⟩ := hg.1
  obtain ⟨hp1, hp2, hp3, hp4⟩ := hp
  refine J_to (To.emps 1) ?_
  refine J_seq (J_reg [] (
      .cons (.wr 0) _ _ (op_box 0 (Lk.t rfl) co_agg rfl) <|
      .cons (.no) _ _ (op_assign (Lk.fk rfl (by decide +kernel))) <|
      .nil) ff rfl fun g1 => ⟨_, _, [0], rfl, (.cons 1 rfl <| .cons 2 rfl <| .cons 3 rfl <| .nil), (.cons 0 rfl <| .nil), ?_⟩)
  refine JN_then ?_
  refine J_seq (J_reg [] (
      .cons (.no) _ _ (op_field_own fd34_2 (Lk.t rfl) rfl) <|
      .cons (.rd 0) _ _ (op_get_sc 0 sc32 (Lk.t rfl) rfl mem_blk rfl) <|
      .cons (.no) _ _ (op_move (Lk.t rfl)) <|
      .cons (.no) _ _ (op_field_own fd34_1 (Lk.t rfl) rfl) <|
      .cons (.rd 0) _ _ (op_get_sc 0 sc3 (Lk.t rfl) rfl mem_blk rfl) <|
      .cons (.no) _ _ (op_mul (Lk.t rfl) (Lk.t rfl) (wrap_id (by omega) (by omega))) <|
      .cons (.no) _ _ (op_move (Lk.t rfl)) <|
      .cons (.no) _ _ (op_add (Lk.t rfl) (Lk.t rfl) (wrap_id (by omega) (by omega))) <|
      .cons (.no) _ _ (op_index_m 0 sl32 (Lk.t rfl) (Lk.t rfl) (by omega) (by omega)) <|
      .cons (.no) _ _ (op_load_sc sc38 (Lk.t rfl) rfl) <|
      .cons (.no) _ _ (op_assign (Lk.t rfl)) <|
      .nil) ff rfl fun g2 => ⟨_, _, [], rfl, (.cons 6 rfl <| .nil), (.nil), ?_⟩)
  refine JN_then ?_
  refine J_ret ?_
  refine JN_ret (.cons (.tmp (Lk.t rfl)) <| .nil) (sb_trans (sb_res1 sb_refl) ?_)
  exact sb_refl
theorem goes_ok {ls : List Prt} {s t : Int} (hb : GoodL ls) : Ct Try.prog 3 [slk 4 prtU ls, isv (.int .i64 s), isv (.int .i64 t)] (isv (.bool true)) := by
  refine Ct.of Try.func3 rfl (by kernel_rfl) rfl fun c0 => ?_
  refine J_lenk 0 rfl fun hlen => ?_
  refine J_seq (J_reg [] (
      .cons (.no) _ _ (op_assign (Lk.k rfl)) <|
      .nil) ff rfl fun g1 => ⟨_, _, [], rfl, (.cons 0 rfl <| .cons 1 rfl <| .cons 2 rfl <| .nil), (.nil), ?_⟩)
  refine JN_then ?_
  refine J_seq ?_
  refine J_seq (J_reg [] (
      .cons (.no) _ _ (op_call (awake_ok) trivial) <|
      .cons (.no) _ _ (op_not (Lk.t rfl)) <|
      .nil) ff rfl fun g2 => ⟨_, _, [], rfl, (.cons 0 rfl <| .cons 1 rfl <| .cons 2 rfl <| .cons 26 rfl <| .nil), (.nil), ?_⟩)
  refine JN_then ?_
  refine J_cond (cond_of (Lk.t rfl)) (fun h1 => ?_) (fun h1 => ?_)
  · have h1' := h1
    try simp only [cmpB, Bool.and_eq_true, Bool.or_eq_true, Bool.and_eq_false_iff, Bool.or_eq_false_iff, Bool.not_eq_true', Bool.not_eq_false', Bool.not_eq_true, Bool.not_eq_false, decide_eq_true_eq, decide_eq_false_iff_not, Int.not_lt, Int.not_le, beq_iff_eq, bne_iff_ne, beq_eq_false_iff_ne, bne_eq_false_iff_eq, ne_eq, Decidable.not_not] at h1
    exact absurd h1' (by simp [cmpB])
  · have h1' := h1
    try simp only [cmpB, Bool.and_eq_true, Bool.or_eq_true, Bool.and_eq_false_iff, Bool.or_eq_false_iff, Bool.not_eq_true', Bool.not_eq_false', Bool.not_eq_true, Bool.not_eq_false, decide_eq_true_eq, decide_eq_false_iff_not, Int.not_lt, Int.not_le, beq_iff_eq, bne_iff_ne, beq_eq_false_iff_ne, bne_eq_false_iff_eq, ne_eq, Decidable.not_not] at h1
    refine J_skip ?_
    refine JN_then ?_
    refine J_to (To.emps 1) ?_
    refine J_seq (J_reg [] (
        .cons (.no) _ _ (op_move (Lk.t rfl)) <|
        .cons (.no) _ _ (op_call (motion_ok (by assumption)) ⟨(Lk.t rfl),  trivial⟩) <|
        .cons (.wr 0) _ _ (op_alloc 0 zr26 rfl rfl) <|
        .cons (.wr 0) _ _ (op_store_new 0 rfl (Lk.t rfl) co_agg sz26 rfl rfl) <|
        .nil) ff rfl fun g3 => ⟨_, _, [0], rfl, (.cons 0 rfl <| .cons 1 rfl <| .cons 2 rfl <| .cons 7 rfl <| .nil), (.cons 0 rfl <| .nil), ?_⟩)
    refine JN_then ?_
    refine J_seq (J_reg [] (
        .cons (.rd 0) _ _ (op_get_ag 0 ag26 (Lk.t rfl) rfl mem_blk rfl rfl) <|
        .cons (.no) _ _ (op_call (mdim_ok) ⟨(Lk.t rfl),  trivial⟩) <|
        .cons (.no) _ _ (op_move (Lk.t rfl)) <|
        .cons (.no) _ _ (op_extract (Lk.t rfl) rfl) <|
        .cons (.no) _ _ (op_extract (Lk.t rfl) rfl) <|
        .cons (.no) _ _ (op_assign (Lk.t rfl)) <|
        .cons (.no) _ _ (op_assign (Lk.t rfl)) <|
        .nil) ff rfl fun g4 => ⟨_, _, [0], rfl, (.cons 0 rfl <| .cons 1 rfl <| .cons 2 rfl <| .cons 7 rfl <| .cons 8 rfl <| .cons 9 rfl <| .nil), (.cons 0 rfl <| .nil), ?_⟩)
    refine JN_then ?_
    refine J_seq ?_
    refine J_seq (J_reg [] (
        .cons (.no) _ _ (op_move (Lk.t rfl)) <|
        .cons (.no) _ _ (op_cmp (by simp) (Lk.t rfl) (Lk.k rfl) rfl) <|
        .nil) ff rfl fun g5 => ⟨_, _, [0], rfl, (.cons 0 rfl <| .cons 1 rfl <| .cons 2 rfl <| .cons 7 rfl <| .cons 8 rfl <| .cons 9 rfl <| .cons 35 rfl <| .nil), (.cons 0 rfl <| .nil), ?_⟩)
    refine JN_then ?_
    refine J_cond (cond_of (Lk.t rfl)) (fun h2 => ?_) (fun h2 => ?_)
    · have h2' := h2
      try simp only [cmpB, Bool.and_eq_true, Bool.or_eq_true, Bool.and_eq_false_iff, Bool.or_eq_false_iff, Bool.not_eq_true', Bool.not_eq_false', Bool.not_eq_true, Bool.not_eq_false, decide_eq_true_eq, decide_eq_false_iff_not, Int.not_lt, Int.not_le, beq_iff_eq, bne_iff_ne, beq_eq_false_iff_ne, bne_eq_false_iff_eq, ne_eq, Decidable.not_not] at h2
      refine J_seq (J_reg [] (
          .cons (.rd 0) _ _ (op_get_ag 0 ag26 (Lk.t rfl) rfl mem_blk rfl rfl) <|
          .cons (.no) _ _ (op_call (mchk_ok) ⟨(Lk.t rfl),  trivial⟩) <|
          .cons (.no) _ _ (op_move (Lk.t rfl)) <|
          .cons (.no) _ _ (op_cmp (by simp) (Lk.t rfl) (Lk.t rfl) rfl) <|
          .cons (.no) _ _ (op_assign (Lk.t rfl)) <|
          .nil) ff rfl fun g6 => ⟨_, _, [], rfl, (.cons 6 rfl <| .nil), (.nil), ?_⟩)
      refine JN_then ?_
      refine J_ret ?_
      refine JN_then_ret ?_
      refine JN_ret (.cons (.tmp (Lk.t rfl)) <| .nil) (sb_trans (sb_res1 sb_refl) ?_)
      exact ret_b (by rw [dimR_e]; simp [cmpB])
    · have h2' := h2
      try simp only [cmpB, Bool.and_eq_true, Bool.or_eq_true, Bool.and_eq_false_iff, Bool.or_eq_false_iff, Bool.not_eq_true', Bool.not_eq_false', Bool.not_eq_true, Bool.not_eq_false, decide_eq_true_eq, decide_eq_false_iff_not, Int.not_lt, Int.not_le, beq_iff_eq, bne_iff_ne, beq_eq_false_iff_ne, bne_eq_false_iff_eq, ne_eq, Decidable.not_not] at h2
      rw [dimR_e] at h2
      have hwp := word_pcn hb
      have hme : motE (ls.map pcn) = 0 := h2
      obtain ⟨n, hn⟩ : ∃ n, tot (ls.map pcn) (ls.map pcn).length = n := ⟨_, rfl⟩
      have hda : (dimR (ls.map pcn)).a = n := by rw [dimR_ok hme]; exact hn
      rw [hda]
      obtain ⟨hs0, hn1, hgd⟩ := siz_n hme hn
      have hsq := hs0.mul
      have hs2 := hs0.2.1
      have lF : ((layP moveB 0 (ls.map pcn) n (ls.map pcn).length).length : Int) = n * n := (lay_good hs0).2
      have lQ : ((layP noiseB 0 (ls.map pcn) n (ls.map pcn).length).length : Int) = n * n := (lay_good hs0).2
      have lG : ((layP rootB 0 (ls.map pcn) n (ls.map pcn).length).length : Int) = n * n := (lay_good hs0).2
      refine J_skip ?_
      refine JN_then ?_
      refine J_to (To.emps 1) ?_
      refine J_seq (J_reg [] (
          .cons (.rd 0) _ _ (op_get_ag 0 ag26 (Lk.t rfl) rfl mem_blk rfl rfl) <|
          .cons (.no) _ _ (op_call (mFx_ok (blkF0 hme hwp hn)) ⟨(Lk.t rfl), (Lk.k rfl),  trivial⟩) <|
          .cons (.no) _ _ (op_move (Lk.t rfl)) <|
          .cons (.no) _ _ (op_extract (Lk.t rfl) rfl) <|
          .cons (.no) _ _ (op_extract (Lk.t rfl) rfl) <|
          .cons (.wr 1) _ _ (op_alloc 1 zr34 rfl rfl) <|
          .cons (.wr 1) _ _ (op_store_new 1 rfl (Lk.t rfl) co_agg sz34 rfl rfl) <|
          .cons (.no) _ _ (op_assign (Lk.t rfl)) <|
          .nil) ff rfl fun g7 => ⟨_, _, [0, 1], rfl, (.cons 0 rfl <| .cons 1 rfl <| .cons 2 rfl <| .cons 7 rfl <| .cons 8 rfl <| .cons 9 rfl <| .cons 10 rfl <| .nil), (.cons 0 rfl <| .cons 1 rfl <| .nil), ?_⟩)
      refine JN_then ?_
      refine J_to (To.emps 1) ?_
      refine J_seq (J_reg [] (
          .cons (.rd 0) _ _ (op_get_ag 0 ag26 (Lk.t rfl) rfl mem_blk rfl rfl) <|
          .cons (.no) _ _ (op_call (mQx_ok (blkQ0 hme hwp hn)) ⟨(Lk.t rfl), (Lk.k rfl),  trivial⟩) <|
          .cons (.no) _ _ (op_move (Lk.t rfl)) <|
          .cons (.no) _ _ (op_extract (Lk.t rfl) rfl) <|
          .cons (.no) _ _ (op_extract (Lk.t rfl) rfl) <|
          .cons (.wr 2) _ _ (op_alloc 2 zr34 rfl rfl) <|
          .cons (.wr 2) _ _ (op_store_new 2 rfl (Lk.t rfl) co_agg sz34 rfl rfl) <|
          .cons (.no) _ _ (op_assign (Lk.t rfl)) <|
          .nil) ff rfl fun g8 => ⟨_, _, [0, 1, 2], rfl, (.cons 0 rfl <| .cons 1 rfl <| .cons 2 rfl <| .cons 7 rfl <| .cons 8 rfl <| .cons 9 rfl <| .cons 10 rfl <| .cons 11 rfl <| .cons 12 rfl <| .nil), (.cons 0 rfl <| .cons 1 rfl <| .cons 2 rfl <| .nil), ?_⟩)
      refine JN_then ?_
      refine J_to (To.emps 1) ?_
      refine J_seq (J_reg [] (
          .cons (.rd 0) _ _ (op_get_ag 0 ag26 (Lk.t rfl) rfl mem_blk rfl rfl) <|
          .cons (.no) _ _ (op_call (mGx_ok (blkG0 hme hwp hn)) ⟨(Lk.t rfl), (Lk.k rfl),  trivial⟩) <|
          .cons (.no) _ _ (op_move (Lk.t rfl)) <|
          .cons (.no) _ _ (op_extract (Lk.t rfl) rfl) <|
          .cons (.no) _ _ (op_extract (Lk.t rfl) rfl) <|
          .cons (.wr 3) _ _ (op_alloc 3 zr34 rfl rfl) <|
          .cons (.wr 3) _ _ (op_store_new 3 rfl (Lk.t rfl) co_agg sz34 rfl rfl) <|
          .cons (.no) _ _ (op_assign (Lk.t rfl)) <|
          .nil) ff rfl fun g9 => ⟨_, _, [0, 1, 2, 3], rfl, (.cons 0 rfl <| .cons 1 rfl <| .cons 2 rfl <| .cons 7 rfl <| .cons 8 rfl <| .cons 9 rfl <| .cons 10 rfl <| .cons 11 rfl <| .cons 12 rfl <| .cons 13 rfl <| .cons 14 rfl <| .nil), (.cons 0 rfl <| .cons 1 rfl <| .cons 2 rfl <| .cons 3 rfl <| .nil), ?_⟩)
      refine JN_then ?_
      refine J_seq ?_
      refine J_seq (J_reg [] (
          .cons (.no) _ _ (op_move (Lk.t rfl)) <|
          .cons (.no) _ _ (op_cmp (by simp) (Lk.t rfl) (Lk.k rfl) rfl) <|
          .cons (.no) _ _ (op_move (Lk.t rfl)) <|
          .cons (.no) _ _ (op_guard rfl rfl (gd_b rfl) (fun hC => (op_move (Lk.t rfl)))) <|
          .cons (.no) _ _ (op_guard rfl rfl (gd_b rfl) (fun hC => (op_cmp (by simp) (Lk.w rfl hC) (Lk.k rfl) rfl))) <|
          .cons (.no) _ _ (op_or (Lk.t rfl) (fun h2 => (Lk.w rfl h2))) <|
          .cons (.no) _ _ (op_move (Lk.t rfl)) <|
          .cons (.no) _ _ (op_guard rfl rfl (gd_b rfl) (fun hC => (op_move (Lk.t rfl)))) <|
          .cons (.no) _ _ (op_guard rfl rfl (gd_b rfl) (fun hC => (op_cmp (by simp) (Lk.w rfl hC) (Lk.k rfl) rfl))) <|
          .cons (.no) _ _ (op_or (Lk.t rfl) (fun h2 => (Lk.w rfl h2))) <|
          .cons (.no) _ _ (op_move (Lk.t rfl)) <|
          .cons (.rd 1) _ _ (op_guard rfl rfl (gd_b rfl) (fun hC => (op_get_ag 1 ag34 (Lk.t rfl) rfl mem_blk rfl rfl))) <|
          .cons (.no) _ _ (op_guard rfl rfl (gd_b rfl) (fun hC => (op_move (Lk.t rfl)))) <|
          .cons (.no) _ _ (op_guard rfl rfl (gd_b rfl) (fun hC => (op_call (good_ok hs0) ⟨(Lk.w rfl hC), (Lk.w rfl hC),  trivial⟩))) <|
          .cons (.no) _ _ (op_guard rfl rfl (gd_b rfl) (fun hC => (op_not (Lk.w rfl hC)))) <|
          .cons (.no) _ _ (op_or (Lk.t rfl) (fun h2 => (Lk.w rfl h2))) <|
          .cons (.no) _ _ (op_move (Lk.t rfl)) <|
          .cons (.rd 2) _ _ (op_guard rfl rfl (gd_b rfl) (fun hC => (op_get_ag 2 ag34 (Lk.t rfl) rfl mem_blk rfl rfl))) <|
          .cons (.no) _ _ (op_guard rfl rfl (gd_b rfl) (fun hC => (op_move (Lk.t rfl)))) <|
          .cons (.no) _ _ (op_guard rfl rfl (gd_b rfl) (fun hC => (op_call (good_ok hs0) ⟨(Lk.w rfl hC), (Lk.w rfl hC),  trivial⟩))) <|
          .cons (.no) _ _ (op_guard rfl rfl (gd_b rfl) (fun hC => (op_not (Lk.w rfl hC)))) <|
          .cons (.no) _ _ (op_or (Lk.t rfl) (fun h2 => (Lk.w rfl h2))) <|
          .cons (.no) _ _ (op_move (Lk.t rfl)) <|
          .cons (.rd 3) _ _ (op_guard rfl rfl (gd_b rfl) (fun hC => (op_get_ag 3 ag34 (Lk.t rfl) rfl mem_blk rfl rfl))) <|
          .cons (.no) _ _ (op_guard rfl rfl (gd_b rfl) (fun hC => (op_move (Lk.t rfl)))) <|
          .cons (.no) _ _ (op_guard rfl rfl (gd_b rfl) (fun hC => (op_call (good_ok hs0) ⟨(Lk.w rfl hC), (Lk.w rfl hC),  trivial⟩))) <|
          .cons (.no) _ _ (op_guard rfl rfl (gd_b rfl) (fun hC => (op_not (Lk.w rfl hC)))) <|
          .cons (.no) _ _ (op_or (Lk.t rfl) (fun h2 => (Lk.w rfl h2))) <|
          .nil) ff rfl fun g10 => ⟨_, _, [0, 1, 2, 3], rfl, (.cons 0 rfl <| .cons 1 rfl <| .cons 2 rfl <| .cons 7 rfl <| .cons 8 rfl <| .cons 10 rfl <| .cons 11 rfl <| .cons 13 rfl <| .cons 82 rfl <| .nil), (.cons 0 rfl <| .cons 1 rfl <| .cons 2 rfl <| .cons 3 rfl <| .nil), ?_⟩)
      refine JN_then ?_
      refine J_cond (cond_of (Lk.t rfl)) (fun h3 => ?_) (fun h3 => ?_)
      · have h3' := h3
        try simp only [cmpB, Bool.and_eq_true, Bool.or_eq_true, Bool.and_eq_false_iff, Bool.or_eq_false_iff, Bool.not_eq_true', Bool.not_eq_false', Bool.not_eq_true, Bool.not_eq_false, decide_eq_true_eq, decide_eq_false_iff_not, Int.not_lt, Int.not_le, beq_iff_eq, bne_iff_ne, beq_eq_false_iff_ne, bne_eq_false_iff_eq, ne_eq, Decidable.not_not] at h3
        exact absurd h3' (by rw [goodB_ok lF, goodB_ok lQ, goodB_ok lG]; simp [cmpB])
      · have h3' := h3
        try simp only [cmpB, Bool.and_eq_true, Bool.or_eq_true, Bool.and_eq_false_iff, Bool.or_eq_false_iff, Bool.not_eq_true', Bool.not_eq_false', Bool.not_eq_true, Bool.not_eq_false, decide_eq_true_eq, decide_eq_false_iff_not, Int.not_lt, Int.not_le, beq_iff_eq, bne_iff_ne, beq_eq_false_iff_ne, bne_eq_false_iff_eq, ne_eq, Decidable.not_not] at h3
        refine J_skip ?_
        refine JN_then ?_
        refine J_seq ?_
        refine J_seq (J_reg [] (
            .cons (.no) _ _ (op_assign (Lk.k rfl)) <|
            .nil) ff rfl fun g11 => ⟨_, _, [0, 1, 2, 3], rfl, (.cons 0 rfl <| .cons 1 rfl <| .cons 2 rfl <| .cons 7 rfl <| .cons 8 rfl <| .cons 10 rfl <| .cons 11 rfl <| .cons 13 rfl <| .cons 15 rfl <| .nil), (.cons 0 rfl <| .cons 1 rfl <| .cons 2 rfl <| .cons 3 rfl <| .nil), ?_⟩)
        refine JN_then ?_
        refine J_block ?_
        refine J_loopc (α := Nat) (fun k => (k : Int) ≤ n * n) (fun k => (n * n).toNat - k) (fun k restR => (15, isv (.int .i64 (k : Int))) :: restR) (fun k restS => restS) (ρc := [(0, _), (1, _), (2, _), (7, _), (8, _), (10, _), (11, _), (13, _)]) (σc := [_, _, _, _]) 0 (by omega) (To.pick (fun _ => .sub (t := 15) rfl (sp_eq (by rfl)) <| .cons 0 rfl <| .cons 1 rfl <| .cons 2 rfl <| .cons 7 rfl <| .cons 8 rfl <| .cons 10 rfl <| .cons 11 rfl <| .cons 13 rfl <| .nil) (fun _ => .cons 0 rfl <| .cons 1 rfl <| .cons 2 rfl <| .cons 3 rfl <| .nil) (ks := [0, 1, 2, 3]) rfl) (fun k hI => ?_)
        refine J_seq ?_
        refine J_seq (J_reg [] (
            .cons (.no) _ _ (op_move (Lk.t rfl)) <|
            .cons (.no) _ _ (op_move (Lk.t rfl)) <|
            .cons (.no) _ _ (op_move (Lk.t rfl)) <|
            .cons (.no) _ _ (op_mul (Lk.t rfl) (Lk.t rfl) (wrap_id (by omega) (by omega))) <|
            .cons (.no) _ _ (op_cmp (by simp) (Lk.t rfl) (Lk.t rfl) rfl) <|
            .nil) ff rfl fun g12 => ⟨_, _, [0, 1, 2, 3], rfl, (.cons 0 rfl <| .cons 1 rfl <| .cons 2 rfl <| .cons 7 rfl <| .cons 8 rfl <| .cons 10 rfl <| .cons 11 rfl <| .cons 13 rfl <| .cons 15 rfl <| .cons 87 rfl <| .nil), (.cons 0 rfl <| .cons 1 rfl <| .cons 2 rfl <| .cons 3 rfl <| .nil), ?_⟩)
        refine JN_then ?_
        refine J_cond (cond_of (Lk.t rfl)) (fun h4 => ?_) (fun h4 => ?_)
        · have h4' := h4
          try simp only [cmpB, Bool.and_eq_true, Bool.or_eq_true, Bool.and_eq_false_iff, Bool.or_eq_false_iff, Bool.not_eq_true', Bool.not_eq_false', Bool.not_eq_true, Bool.not_eq_false, decide_eq_true_eq, decide_eq_false_iff_not, Int.not_lt, Int.not_le, beq_iff_eq, bne_iff_ne, beq_eq_false_iff_ne, bne_eq_false_iff_eq, ne_eq, Decidable.not_not] at h4
          have hF : fcmp .neq ((layP moveB 0 (ls.map pcn) n (ls.map pcn).length).getD ((k : Nat) : Int).toNat 0) (oneAt n k) = false := goF_ne hwp hgd hs0 hn (i := k) (by omega)
          have hQ : fcmp .neq ((layP noiseB 0 (ls.map pcn) n (ls.map pcn).length).getD ((k : Nat) : Int).toNat 0) 0 = false := goQ hwp hgd hs0 hn (i := k) (by omega)
          have hG : fcmp .neq ((layP rootB 0 (ls.map pcn) n (ls.map pcn).length).getD ((k : Nat) : Int).toNat 0) 0 = false := goG hwp hgd hs0 hn (i := k) (by omega)
          refine J_skip ?_
          refine JN_then ?_
          refine J_seq ?_
          refine J_block ?_
          refine J_seq (J_reg [] (
              .cons (.no) _ _ (op_assign (Lk.fk rfl (by decide +kernel))) <|
              .nil) ff rfl fun g13 => ⟨_, _, [0, 1, 2, 3], rfl, (.cons 0 rfl <| .cons 1 rfl <| .cons 2 rfl <| .cons 7 rfl <| .cons 8 rfl <| .cons 10 rfl <| .cons 11 rfl <| .cons 13 rfl <| .cons 15 rfl <| .cons 16 rfl <| .nil), (.cons 0 rfl <| .cons 1 rfl <| .cons 2 rfl <| .cons 3 rfl <| .nil), ?_⟩)
          refine JN_then ?_
          refine J_seq ?_
          refine J_seq (J_reg [] (
              .cons (.no) _ _ (op_move (Lk.t rfl)) <|
              .cons (.no) _ _ (op_move (Lk.t rfl)) <|
              .cons (.no) _ _ (op_add (Lk.t rfl) (Lk.k rfl) (wrap_id (by omega) (by omega))) <|
              .cons (.no) _ _ (op_rem (Lk.t rfl) (Lk.t rfl) (by omega) rfl) <|
              .cons (.no) _ _ (op_cmp (by simp) (Lk.t rfl) (Lk.k rfl) rfl) <|
              .nil) ff rfl fun g14 => ⟨_, _, [0, 1, 2, 3], rfl, (.cons 0 rfl <| .cons 1 rfl <| .cons 2 rfl <| .cons 7 rfl <| .cons 8 rfl <| .cons 10 rfl <| .cons 11 rfl <| .cons 13 rfl <| .cons 15 rfl <| .cons 16 rfl <| .cons 94 rfl <| .nil), (.cons 0 rfl <| .cons 1 rfl <| .cons 2 rfl <| .cons 3 rfl <| .nil), ?_⟩)
          refine JN_then ?_
          refine J_cond (cond_of (Lk.t rfl)) (fun h5 => ?_) (fun h5 => ?_)
          · have h5' := h5
            try simp only [cmpB, Bool.and_eq_true, Bool.or_eq_true, Bool.and_eq_false_iff, Bool.or_eq_false_iff, Bool.not_eq_true', Bool.not_eq_false', Bool.not_eq_true, Bool.not_eq_false, decide_eq_true_eq, decide_eq_false_iff_not, Int.not_lt, Int.not_le, beq_iff_eq, bne_iff_ne, beq_eq_false_iff_ne, bne_eq_false_iff_eq, ne_eq, Decidable.not_not] at h5
            rw [oneAt_1 (by omega) h5] at hF
            refine (J_reg [] (
                .cons (.no) _ _ (op_assign (Lk.fk rfl (by decide +kernel))) <|
                .nil) ff rfl fun g15 => ⟨_, _, [0, 1, 2, 3], rfl, (.cons 0 rfl <| .cons 1 rfl <| .cons 2 rfl <| .cons 7 rfl <| .cons 8 rfl <| .cons 10 rfl <| .cons 11 rfl <| .cons 13 rfl <| .cons 15 rfl <| .cons 16 rfl <| .nil), (.cons 0 rfl <| .cons 1 rfl <| .cons 2 rfl <| .cons 3 rfl <| .nil), ?_⟩)
            refine JN_then ?_
            refine J_seq (J_reg [] (
                .cons (.no) _ _ (op_field_own fd34_2 (Lk.t rfl) rfl) <|
                .cons (.rd 1) _ _ (op_get_sc 1 sc32 (Lk.t rfl) rfl mem_blk rfl) <|
                .cons (.no) _ _ (op_move (Lk.t rfl)) <|
                .cons (.no) _ _ (op_index_m 0 sl32 (Lk.t rfl) (Lk.t rfl) (by omega) (by omega)) <|
                .cons (.no) _ _ (op_load_sc sc38 (Lk.t rfl) rfl) <|
                .cons (.no) _ _ (op_move (Lk.t rfl)) <|
                .cons (.no) _ _ (op_fcmp (by simp) (Lk.t rfl) (Lk.t rfl) rfl) <|
                .cons (.no) _ _ (op_move (Lk.t rfl)) <|
                .cons (.no) _ _ (op_guard rfl rfl (gd_b rfl) (fun hC => (op_field_own fd34_2 (Lk.t rfl) rfl))) <|
                .cons (.rd 2) _ _ (op_guard rfl rfl (gd_b rfl) (fun hC => (op_get_sc 2 sc32 (Lk.w rfl hC) rfl mem_blk rfl))) <|
                .cons (.no) _ _ (op_guard rfl rfl (gd_b rfl) (fun hC => (op_move (Lk.t rfl)))) <|
                .cons (.no) _ _ (op_guard rfl rfl (gd_b rfl) (fun hC => (op_index_m 0 sl32 (Lk.w rfl hC) (Lk.w rfl hC) (by omega) (by omega)))) <|
                .cons (.no) _ _ (op_guard rfl rfl (gd_b rfl) (fun hC => (op_load_sc sc38 (Lk.w rfl hC) rfl))) <|
                .cons (.no) _ _ (op_guard rfl rfl (gd_b rfl) (fun hC => (op_fcmp (by simp) (Lk.w rfl hC) (Lk.fk rfl (by decide +kernel)) rfl))) <|
                .cons (.no) _ _ (op_or (Lk.t rfl) (fun h2 => (Lk.w rfl h2))) <|
                .cons (.no) _ _ (op_move (Lk.t rfl)) <|
                .cons (.no) _ _ (op_guard rfl rfl (gd_b rfl) (fun hC => (op_field_own fd34_2 (Lk.t rfl) rfl))) <|
                .cons (.rd 3) _ _ (op_guard rfl rfl (gd_b rfl) (fun hC => (op_get_sc 3 sc32 (Lk.w rfl hC) rfl mem_blk rfl))) <|
                .cons (.no) _ _ (op_guard rfl rfl (gd_b rfl) (fun hC => (op_move (Lk.t rfl)))) <|
                .cons (.no) _ _ (op_guard rfl rfl (gd_b rfl) (fun hC => (op_index_m 0 sl32 (Lk.w rfl hC) (Lk.w rfl hC) (by omega) (by omega)))) <|
                .cons (.no) _ _ (op_guard rfl rfl (gd_b rfl) (fun hC => (op_load_sc sc38 (Lk.w rfl hC) rfl))) <|
                .cons (.no) _ _ (op_guard rfl rfl (gd_b rfl) (fun hC => (op_fcmp (by simp) (Lk.w rfl hC) (Lk.fk rfl (by decide +kernel)) rfl))) <|
                .cons (.no) _ _ (op_or (Lk.t rfl) (fun h2 => (Lk.w rfl h2))) <|
                .nil) ff rfl fun g16 => ⟨_, _, [0, 1, 2, 3], rfl, (.cons 0 rfl <| .cons 1 rfl <| .cons 2 rfl <| .cons 7 rfl <| .cons 8 rfl <| .cons 10 rfl <| .cons 11 rfl <| .cons 13 rfl <| .cons 15 rfl <| .cons 117 rfl <| .nil), (.cons 0 rfl <| .cons 1 rfl <| .cons 2 rfl <| .cons 3 rfl <| .nil), ?_⟩)
            refine JN_then ?_
            refine J_cond (cond_of (Lk.t rfl)) (fun h6 => ?_) (fun h6 => ?_)
            · have h6' := h6
              try simp only [cmpB, Bool.and_eq_true, Bool.or_eq_true, Bool.and_eq_false_iff, Bool.or_eq_false_iff, Bool.not_eq_true', Bool.not_eq_false', Bool.not_eq_true, Bool.not_eq_false, decide_eq_true_eq, decide_eq_false_iff_not, Int.not_lt, Int.not_le, beq_iff_eq, bne_iff_ne, beq_eq_false_iff_ne, bne_eq_false_iff_eq, ne_eq, Decidable.not_not] at h6
              exact absurd h6' (by rw [hF, hQ, hG]; decide)
            · have h6' := h6
              try simp only [cmpB, Bool.and_eq_true, Bool.or_eq_true, Bool.and_eq_false_iff, Bool.or_eq_false_iff, Bool.not_eq_true', Bool.not_eq_false', Bool.not_eq_true, Bool.not_eq_false, decide_eq_true_eq, decide_eq_false_iff_not, Int.not_lt, Int.not_le, beq_iff_eq, bne_iff_ne, beq_eq_false_iff_ne, bne_eq_false_iff_eq, ne_eq, Decidable.not_not] at h6
              refine J_skip ?_
              refine JN_block ?_
              refine JN_then ?_
              refine (J_reg [] (
                  .cons (.no) _ _ (op_move (Lk.t rfl)) <|
                  .cons (.no) _ _ (op_add (Lk.t rfl) (Lk.k rfl) (wrap_id (by omega) (by omega))) <|
                  .cons (.no) _ _ (op_assign (Lk.t rfl)) <|
                  .nil) ff rfl fun g17 => ⟨_, _, [0, 1, 2, 3], rfl, (.cons 0 rfl <| .cons 1 rfl <| .cons 2 rfl <| .cons 7 rfl <| .cons 8 rfl <| .cons 10 rfl <| .cons 11 rfl <| .cons 13 rfl <| .cons 15 rfl <| .nil), (.cons 0 rfl <| .cons 1 rfl <| .cons 2 rfl <| .cons 3 rfl <| .nil), ?_⟩)
              exact JN_again (k + 1) (by omega) (by omega) (To.pick (fun _ => .sub (t := 15) rfl (sp_eq (by rfl)) <| .cons 0 rfl <| .cons 1 rfl <| .cons 2 rfl <| .cons 7 rfl <| .cons 8 rfl <| .cons 10 rfl <| .cons 11 rfl <| .cons 13 rfl <| .nil) (fun _ => .cons 0 rfl <| .cons 1 rfl <| .cons 2 rfl <| .cons 3 rfl <| .nil) (ks := [0, 1, 2, 3]) rfl)
          · have h5' := h5
            try simp only [cmpB, Bool.and_eq_true, Bool.or_eq_true, Bool.and_eq_false_iff, Bool.or_eq_false_iff, Bool.not_eq_true', Bool.not_eq_false', Bool.not_eq_true, Bool.not_eq_false, decide_eq_true_eq, decide_eq_false_iff_not, Int.not_lt, Int.not_le, beq_iff_eq, bne_iff_ne, beq_eq_false_iff_ne, bne_eq_false_iff_eq, ne_eq, Decidable.not_not] at h5
            rw [oneAt_0 (by omega) h5] at hF
            refine J_skip ?_
            refine JN_then ?_
            refine J_seq (J_reg [] (
                .cons (.no) _ _ (op_field_own fd34_2 (Lk.t rfl) rfl) <|
                .cons (.rd 1) _ _ (op_get_sc 1 sc32 (Lk.t rfl) rfl mem_blk rfl) <|
                .cons (.no) _ _ (op_move (Lk.t rfl)) <|
                .cons (.no) _ _ (op_index_m 0 sl32 (Lk.t rfl) (Lk.t rfl) (by omega) (by omega)) <|
                .cons (.no) _ _ (op_load_sc sc38 (Lk.t rfl) rfl) <|
                .cons (.no) _ _ (op_move (Lk.t rfl)) <|
                .cons (.no) _ _ (op_fcmp (by simp) (Lk.t rfl) (Lk.t rfl) rfl) <|
                .cons (.no) _ _ (op_move (Lk.t rfl)) <|
                .cons (.no) _ _ (op_guard rfl rfl (gd_b rfl) (fun hC => (op_field_own fd34_2 (Lk.t rfl) rfl))) <|
                .cons (.rd 2) _ _ (op_guard rfl rfl (gd_b rfl) (fun hC => (op_get_sc 2 sc32 (Lk.w rfl hC) rfl mem_blk rfl))) <|
                .cons (.no) _ _ (op_guard rfl rfl (gd_b rfl) (fun hC => (op_move (Lk.t rfl)))) <|
                .cons (.no) _ _ (op_guard rfl rfl (gd_b rfl) (fun hC => (op_index_m 0 sl32 (Lk.w rfl hC) (Lk.w rfl hC) (by omega) (by omega)))) <|
                .cons (.no) _ _ (op_guard rfl rfl (gd_b rfl) (fun hC => (op_load_sc sc38 (Lk.w rfl hC) rfl))) <|
                .cons (.no) _ _ (op_guard rfl rfl (gd_b rfl) (fun hC => (op_fcmp (by simp) (Lk.w rfl hC) (Lk.fk rfl (by decide +kernel)) rfl))) <|
                .cons (.no) _ _ (op_or (Lk.t rfl) (fun h2 => (Lk.w rfl h2))) <|
                .cons (.no) _ _ (op_move (Lk.t rfl)) <|
                .cons (.no) _ _ (op_guard rfl rfl (gd_b rfl) (fun hC => (op_field_own fd34_2 (Lk.t rfl) rfl))) <|
                .cons (.rd 3) _ _ (op_guard rfl rfl (gd_b rfl) (fun hC => (op_get_sc 3 sc32 (Lk.w rfl hC) rfl mem_blk rfl))) <|
                .cons (.no) _ _ (op_guard rfl rfl (gd_b rfl) (fun hC => (op_move (Lk.t rfl)))) <|
                .cons (.no) _ _ (op_guard rfl rfl (gd_b rfl) (fun hC => (op_index_m 0 sl32 (Lk.w rfl hC) (Lk.w rfl hC) (by omega) (by omega)))) <|
                .cons (.no) _ _ (op_guard rfl rfl (gd_b rfl) (fun hC => (op_load_sc sc38 (Lk.w rfl hC) rfl))) <|
                .cons (.no) _ _ (op_guard rfl rfl (gd_b rfl) (fun hC => (op_fcmp (by simp) (Lk.w rfl hC) (Lk.fk rfl (by decide +kernel)) rfl))) <|
                .cons (.no) _ _ (op_or (Lk.t rfl) (fun h2 => (Lk.w rfl h2))) <|
                .nil) ff rfl fun g18 => ⟨_, _, [0, 1, 2, 3], rfl, (.cons 0 rfl <| .cons 1 rfl <| .cons 2 rfl <| .cons 7 rfl <| .cons 8 rfl <| .cons 10 rfl <| .cons 11 rfl <| .cons 13 rfl <| .cons 15 rfl <| .cons 117 rfl <| .nil), (.cons 0 rfl <| .cons 1 rfl <| .cons 2 rfl <| .cons 3 rfl <| .nil), ?_⟩)
            refine JN_then ?_
            refine J_cond (cond_of (Lk.t rfl)) (fun h7 => ?_) (fun h7 => ?_)
            · have h7' := h7
              try simp only [cmpB, Bool.and_eq_true, Bool.or_eq_true, Bool.and_eq_false_iff, Bool.or_eq_false_iff, Bool.not_eq_true', Bool.not_eq_false', Bool.not_eq_true, Bool.not_eq_false, decide_eq_true_eq, decide_eq_false_iff_not, Int.not_lt, Int.not_le, beq_iff_eq, bne_iff_ne, beq_eq_false_iff_ne, bne_eq_false_iff_eq, ne_eq, Decidable.not_not] at h7
              exact absurd h7' (by rw [hF, hQ, hG]; decide)
            · have h7' := h7
              try simp only [cmpB, Bool.and_eq_true, Bool.or_eq_true, Bool.and_eq_false_iff, Bool.or_eq_false_iff, Bool.not_eq_true', Bool.not_eq_false', Bool.not_eq_true, Bool.not_eq_false, decide_eq_true_eq, decide_eq_false_iff_not, Int.not_lt, Int.not_le, beq_iff_eq, bne_iff_ne, beq_eq_false_iff_ne, bne_eq_false_iff_eq, ne_eq, Decidable.not_not] at h7
              refine J_skip ?_
              refine JN_block ?_
              refine JN_then ?_
              refine (J_reg [] (
                  .cons (.no) _ _ (op_move (Lk.t rfl)) <|
                  .cons (.no) _ _ (op_add (Lk.t rfl) (Lk.k rfl) (wrap_id (by omega) (by omega))) <|
                  .cons (.no) _ _ (op_assign (Lk.t rfl)) <|
                  .nil) ff rfl fun g19 => ⟨_, _, [0, 1, 2, 3], rfl, (.cons 0 rfl <| .cons 1 rfl <| .cons 2 rfl <| .cons 7 rfl <| .cons 8 rfl <| .cons 10 rfl <| .cons 11 rfl <| .cons 13 rfl <| .cons 15 rfl <| .nil), (.cons 0 rfl <| .cons 1 rfl <| .cons 2 rfl <| .cons 3 rfl <| .nil), ?_⟩)
              exact JN_again (k + 1) (by omega) (by omega) (To.pick (fun _ => .sub (t := 15) rfl (sp_eq (by rfl)) <| .cons 0 rfl <| .cons 1 rfl <| .cons 2 rfl <| .cons 7 rfl <| .cons 8 rfl <| .cons 10 rfl <| .cons 11 rfl <| .cons 13 rfl <| .nil) (fun _ => .cons 0 rfl <| .cons 1 rfl <| .cons 2 rfl <| .cons 3 rfl <| .nil) (ks := [0, 1, 2, 3]) rfl)
        · have h4' := h4
          try simp only [cmpB, Bool.and_eq_true, Bool.or_eq_true, Bool.and_eq_false_iff, Bool.or_eq_false_iff, Bool.not_eq_true', Bool.not_eq_false', Bool.not_eq_true, Bool.not_eq_false, decide_eq_true_eq, decide_eq_false_iff_not, Int.not_lt, Int.not_le, beq_iff_eq, bne_iff_ne, beq_eq_false_iff_ne, bne_eq_false_iff_eq, ne_eq, Decidable.not_not] at h4
          refine J_exit ?_
          refine JN_then_exit ?_
          refine JN_then_exit ?_
          refine JN_exit_here ?_
          refine JN_then ?_
          refine J_seq ?_
          refine J_seq (J_reg [] (
              .cons (.no) _ _ (op_assign (Lk.k rfl)) <|
              .nil) ff rfl fun g20 => ⟨_, _, [0], rfl, (.cons 0 rfl <| .cons 1 rfl <| .cons 2 rfl <| .cons 7 rfl <| .cons 8 rfl <| .cons 17 rfl <| .nil), (.cons 0 rfl <| .nil), ?_⟩)
          refine JN_then ?_
          refine J_block ?_
          refine J_loopc (α := Nat) (fun k => k ≤ ls.length ∧ NoFade ls k) (fun k => ls.length - k) (fun k restR => (17, isv (.int .i64 (k : Int))) :: restR) (fun k restS => restS) (ρc := [(0, _), (1, _), (2, _), (7, _), (8, _)]) (σc := [_]) 0 (by exact ⟨Nat.zero_le _, noFade_zero⟩) (To.pick (fun _ => .sub (t := 17) rfl (sp_eq (by rfl)) <| .cons 0 rfl <| .cons 1 rfl <| .cons 2 rfl <| .cons 7 rfl <| .cons 8 rfl <| .nil) (fun _ => .cons 0 rfl <| .nil) (ks := [0]) rfl) (fun k hI => ?_)
          obtain ⟨hk, hp⟩ := hI
          refine J_seq ?_
          refine J_seq (J_reg [] (
              .cons (.no) _ _ (op_move (Lk.t rfl)) <|
              .cons (.no) _ _ (op_move (Lk.t rfl)) <|
              .cons (.no) _ _ (op_len_sk sl22 (Lk.t rfl)) <|
              .cons (.no) _ _ (op_cmp (by simp) (Lk.t rfl) (Lk.t rfl) rfl) <|
              .nil) ff rfl fun g21 => ⟨_, _, [0], rfl, (.cons 0 rfl <| .cons 1 rfl <| .cons 2 rfl <| .cons 7 rfl <| .cons 8 rfl <| .cons 17 rfl <| .cons 121 rfl <| .nil), (.cons 0 rfl <| .nil), ?_⟩)
          refine JN_then ?_
          refine J_cond (cond_of (Lk.t rfl)) (fun h8 => ?_) (fun h8 => ?_)
          · have h8' := h8
            try simp only [cmpB, Bool.and_eq_true, Bool.or_eq_true, Bool.and_eq_false_iff, Bool.or_eq_false_iff, Bool.not_eq_true', Bool.not_eq_false', Bool.not_eq_true, Bool.not_eq_false, decide_eq_true_eq, decide_eq_false_iff_not, Int.not_lt, Int.not_le, beq_iff_eq, bne_iff_ne, beq_eq_false_iff_ne, bne_eq_false_iff_eq, ne_eq, Decidable.not_not] at h8
            refine J_skip ?_
            refine JN_then ?_
            refine J_seq ?_
            refine J_block ?_
            refine J_seq (J_reg [] (
                .cons (.no) _ _ (op_move (Lk.t rfl)) <|
                .cons (.no) _ _ (op_move (Lk.t rfl)) <|
                .cons (.no) _ _ (op_index_sk (mk := prtU) prtD sl22 prtU_len (Lk.t rfl) (Lk.t rfl) (by omega) (by omega)) <|
                .cons (.no) _ _ (op_field_ptr fd41_0 (Lk.t rfl) rfl) <|
                .cons (.no) _ _ (op_load_sc sc3 (Lk.t rfl) rfl) <|
                .cons (.no) _ _ (op_cmp (by simp) (Lk.t rfl) (Lk.k rfl) rfl) <|
                .nil) ff rfl fun g22 => ⟨_, _, [0], rfl, (.cons 0 rfl <| .cons 1 rfl <| .cons 2 rfl <| .cons 7 rfl <| .cons 8 rfl <| .cons 17 rfl <| .cons 129 rfl <| .nil), (.cons 0 rfl <| .nil), ?_⟩)
            refine JN_then ?_
            refine J_cond (cond_of (Lk.t rfl)) (fun h9 => ?_) (fun h9 => ?_)
            · have h9' := h9
              try simp only [cmpB, Bool.and_eq_true, Bool.or_eq_true, Bool.and_eq_false_iff, Bool.or_eq_false_iff, Bool.not_eq_true', Bool.not_eq_false', Bool.not_eq_true, Bool.not_eq_false, decide_eq_true_eq, decide_eq_false_iff_not, Int.not_lt, Int.not_le, beq_iff_eq, bne_iff_ne, beq_eq_false_iff_ne, bne_eq_false_iff_eq, ne_eq, Decidable.not_not] at h9
              refine J_seq (J_reg [] (
                  .cons (.no) _ _ (op_assign (Lk.k rfl)) <|
                  .nil) ff rfl fun g23 => ⟨_, _, [], rfl, (.cons 6 rfl <| .nil), (.nil), ?_⟩)
              refine JN_then ?_
              refine J_ret ?_
              refine JN_block_ret ?_
              refine JN_then_ret ?_
              refine JN_then_ret ?_
              refine JN_block_ret ?_
              refine JN_then_ret ?_
              refine JN_ret (.cons (.tmp (Lk.t rfl)) <| .nil) (sb_trans (sb_res1 sb_refl) ?_)
              exact sb_refl
            · have h9' := h9
              try simp only [cmpB, Bool.and_eq_true, Bool.or_eq_true, Bool.and_eq_false_iff, Bool.or_eq_false_iff, Bool.not_eq_true', Bool.not_eq_false', Bool.not_eq_true, Bool.not_eq_false, decide_eq_true_eq, decide_eq_false_iff_not, Int.not_lt, Int.not_le, beq_iff_eq, bne_iff_ne, beq_eq_false_iff_ne, bne_eq_false_iff_eq, ne_eq, Decidable.not_not] at h9
              have hn8 : ¬ (ls.getD ((k : Nat) : Int).toNat prtD).k = 4 := h9
              refine J_skip ?_
              refine JN_block ?_
              refine JN_then ?_
              refine (J_reg [] (
                  .cons (.no) _ _ (op_move (Lk.t rfl)) <|
                  .cons (.no) _ _ (op_add (Lk.t rfl) (Lk.k rfl) (wrap_id (by omega) (by omega))) <|
                  .cons (.no) _ _ (op_assign (Lk.t rfl)) <|
                  .nil) ff rfl fun g24 => ⟨_, _, [0], rfl, (.cons 0 rfl <| .cons 1 rfl <| .cons 2 rfl <| .cons 7 rfl <| .cons 8 rfl <| .cons 17 rfl <| .nil), (.cons 0 rfl <| .nil), ?_⟩)
              exact JN_again (k + 1) (by exact ⟨by omega, noFade_step hp hn8⟩) (by omega) (To.pick (fun _ => .sub (t := 17) rfl (sp_eq (by rfl)) <| .cons 0 rfl <| .cons 1 rfl <| .cons 2 rfl <| .cons 7 rfl <| .cons 8 rfl <| .nil) (fun _ => .cons 0 rfl <| .nil) (ks := [0]) rfl)
          · have h8' := h8
            try simp only [cmpB, Bool.and_eq_true, Bool.or_eq_true, Bool.and_eq_false_iff, Bool.or_eq_false_iff, Bool.not_eq_true', Bool.not_eq_false', Bool.not_eq_true, Bool.not_eq_false, decide_eq_true_eq, decide_eq_false_iff_not, Int.not_lt, Int.not_le, beq_iff_eq, bne_iff_ne, beq_eq_false_iff_ne, bne_eq_false_iff_eq, ne_eq, Decidable.not_not] at h8
            have hnf := noFade_pcn (k := k) (by omega) hp
            obtain ⟨a, ha, ha2⟩ := mod_nat s
            obtain ⟨b, hb0, hb2⟩ := mod_nat t
            have hk1 := tmod_rng s (show (0 : Int) < 1024 by omega)
            have hk2 := tmod_rng t (show (0 : Int) < 1024 by omega)
            refine J_exit ?_
            refine JN_then_exit ?_
            refine JN_then_exit ?_
            refine JN_exit_here ?_
            refine JN_then ?_
            refine J_seq (J_reg [] (
                .cons (.no) _ _ (op_move (Lk.t rfl)) <|
                .cons (.no) _ _ (op_rem (Lk.t rfl) (Lk.k rfl) (by omega) rfl) <|
                .cons (.no) _ _ (op_add (Lk.t rfl) (Lk.k rfl) (wrap_id (by omega) (by omega))) <|
                .cons (.no) _ _ (op_rem (Lk.t rfl) (Lk.k rfl) (by omega) rfl) <|
                .cons (.no) _ _ (op_move (Lk.t rfl)) <|
                .cons (.no) _ _ (op_rem (Lk.t rfl) (Lk.k rfl) (by omega) rfl) <|
                .cons (.no) _ _ (op_add (Lk.t rfl) (Lk.k rfl) (wrap_id (by omega) (by omega))) <|
                .cons (.no) _ _ (op_rem (Lk.t rfl) (Lk.k rfl) (by omega) rfl) <|
                .cons (.no) _ _ (op_assign (Lk.t rfl)) <|
                .cons (.no) _ _ (op_assign (Lk.t rfl)) <|
                .nil) ff rfl fun g25 => ⟨_, _, [0], rfl, (.cons 1 rfl <| .cons 2 rfl <| .cons 7 rfl <| .cons 8 rfl <| .nil), (.cons 0 rfl <| .nil), ?_⟩)
            refine JN_then ?_
            refine J_seq ?_
            refine J_seq (J_reg [] (
                .cons (.no) _ _ (op_move (Lk.t rfl)) <|
                .cons (.no) _ _ (op_move (Lk.t rfl)) <|
                .cons (.no) _ _ (op_add (Lk.t rfl) (Lk.t rfl) (wrap_id (by omega) (by omega))) <|
                .cons (.no) _ _ (op_cmp (by simp) (Lk.t rfl) (Lk.k rfl) rfl) <|
                .nil) ff rfl fun g26 => ⟨_, _, [0], rfl, (.cons 1 rfl <| .cons 2 rfl <| .cons 7 rfl <| .cons 8 rfl <| .cons 141 rfl <| .nil), (.cons 0 rfl <| .nil), ?_⟩)
            refine JN_then ?_
            refine J_cond (cond_of (Lk.t rfl)) (fun h10 => ?_) (fun h10 => ?_)
            · have h10' := h10
              try simp only [cmpB, Bool.and_eq_true, Bool.or_eq_true, Bool.and_eq_false_iff, Bool.or_eq_false_iff, Bool.not_eq_true', Bool.not_eq_false', Bool.not_eq_true, Bool.not_eq_false, decide_eq_true_eq, decide_eq_false_iff_not, Int.not_lt, Int.not_le, beq_iff_eq, bne_iff_ne, beq_eq_false_iff_ne, bne_eq_false_iff_eq, ne_eq, Decidable.not_not] at h10
              refine J_seq (J_reg [] (
                  .cons (.no) _ _ (op_assign (Lk.k rfl)) <|
                  .nil) ff rfl fun g27 => ⟨_, _, [], rfl, (.cons 6 rfl <| .nil), (.nil), ?_⟩)
              refine JN_then ?_
              refine J_ret ?_
              refine JN_then_ret ?_
              refine JN_ret (.cons (.tmp (Lk.t rfl)) <| .nil) (sb_trans (sb_res1 sb_refl) ?_)
              exact sb_refl
            · have h10' := h10
              try simp only [cmpB, Bool.and_eq_true, Bool.or_eq_true, Bool.and_eq_false_iff, Bool.or_eq_false_iff, Bool.not_eq_true', Bool.not_eq_false', Bool.not_eq_true, Bool.not_eq_false, decide_eq_true_eq, decide_eq_false_iff_not, Int.not_lt, Int.not_le, beq_iff_eq, bne_iff_ne, beq_eq_false_iff_ne, bne_eq_false_iff_eq, ne_eq, Decidable.not_not] at h10
              rw [← ha, ← hb0]
              have hst : a + b < 1024 := by omega
              have lA := (layF_good (ps := (ls.map pcn)) (s := a) hs0).2
              have lB := (layF_good (ps := (ls.map pcn)) (s := b) hs0).2
              have lC := (layF_good (ps := (ls.map pcn)) (s := a + b) hs0).2
              refine J_skip ?_
              refine JN_then ?_
              refine J_to (To.emps 1) ?_
              refine J_seq (J_reg [] (
                  .cons (.rd 0) _ _ (op_get_ag 0 ag26 (Lk.t rfl) rfl mem_blk rfl rfl) <|
                  .cons (.no) _ _ (op_move (Lk.t rfl)) <|
                  .cons (.no) _ _ (op_mul (Lk.t rfl) (Lk.k rfl) (wrap_id (by omega) (by omega))) <|
                  .cons (.no) _ _ (op_call (mFx_ok (blkFs (s := a) hme hnf hn (by omega))) ⟨(Lk.t rfl), (Lk.t rfl),  trivial⟩) <|
                  .cons (.no) _ _ (op_move (Lk.t rfl)) <|
                  .cons (.no) _ _ (op_extract (Lk.t rfl) rfl) <|
                  .cons (.no) _ _ (op_extract (Lk.t rfl) rfl) <|
                  .cons (.wr 1) _ _ (op_alloc 1 zr34 rfl rfl) <|
                  .cons (.wr 1) _ _ (op_store_new 1 rfl (Lk.t rfl) co_agg sz34 rfl rfl) <|
                  .cons (.no) _ _ (op_assign (Lk.t rfl)) <|
                  .nil) ff rfl fun g28 => ⟨_, _, [0, 1], rfl, (.cons 1 rfl <| .cons 2 rfl <| .cons 7 rfl <| .cons 8 rfl <| .cons 9 rfl <| .cons 18 rfl <| .nil), (.cons 0 rfl <| .cons 1 rfl <| .nil), ?_⟩)
              refine JN_then ?_
              refine J_to (To.emps 1) ?_
              refine J_seq (J_reg [] (
                  .cons (.rd 0) _ _ (op_get_ag 0 ag26 (Lk.t rfl) rfl mem_blk rfl rfl) <|
                  .cons (.no) _ _ (op_move (Lk.t rfl)) <|
                  .cons (.no) _ _ (op_mul (Lk.t rfl) (Lk.k rfl) (wrap_id (by omega) (by omega))) <|
                  .cons (.no) _ _ (op_call (mFx_ok (blkFs (s := b) hme hnf hn (by omega))) ⟨(Lk.t rfl), (Lk.t rfl),  trivial⟩) <|
                  .cons (.no) _ _ (op_move (Lk.t rfl)) <|
                  .cons (.no) _ _ (op_extract (Lk.t rfl) rfl) <|
                  .cons (.no) _ _ (op_extract (Lk.t rfl) rfl) <|
                  .cons (.wr 2) _ _ (op_alloc 2 zr34 rfl rfl) <|
                  .cons (.wr 2) _ _ (op_store_new 2 rfl (Lk.t rfl) co_agg sz34 rfl rfl) <|
                  .cons (.no) _ _ (op_assign (Lk.t rfl)) <|
                  .nil) ff rfl fun g29 => ⟨_, _, [0, 1, 2], rfl, (.cons 1 rfl <| .cons 2 rfl <| .cons 7 rfl <| .cons 8 rfl <| .cons 9 rfl <| .cons 12 rfl <| .cons 18 rfl <| .cons 19 rfl <| .nil), (.cons 0 rfl <| .cons 1 rfl <| .cons 2 rfl <| .nil), ?_⟩)
              refine JN_then ?_
              refine J_to (To.emps 1) ?_
              refine J_seq (J_reg [] (
                  .cons (.rd 0) _ _ (op_get_ag 0 ag26 (Lk.t rfl) rfl mem_blk rfl rfl) <|
                  .cons (.no) _ _ (op_move (Lk.t rfl)) <|
                  .cons (.no) _ _ (op_move (Lk.t rfl)) <|
                  .cons (.no) _ _ (op_add (Lk.t rfl) (Lk.t rfl) (wrap_id (by omega) (by omega))) <|
                  .cons (.no) _ _ (op_mul (Lk.t rfl) (Lk.k rfl) (wrap_id (by omega) (by omega))) <|
                  .cons (.no) _ _ (op_call (mFx_ok (blkFs2 (s := a) (t := b) hme hnf hn hst)) ⟨(Lk.t rfl), (Lk.t rfl),  trivial⟩) <|
                  .cons (.no) _ _ (op_move (Lk.t rfl)) <|
                  .cons (.no) _ _ (op_extract (Lk.t rfl) rfl) <|
                  .cons (.no) _ _ (op_extract (Lk.t rfl) rfl) <|
                  .cons (.wr 3) _ _ (op_alloc 3 zr34 rfl rfl) <|
                  .cons (.wr 3) _ _ (op_store_new 3 rfl (Lk.t rfl) co_agg sz34 rfl rfl) <|
                  .cons (.no) _ _ (op_assign (Lk.t rfl)) <|
                  .nil) ff rfl fun g30 => ⟨_, _, [1, 2, 3], rfl, (.cons 8 rfl <| .cons 9 rfl <| .cons 12 rfl <| .cons 14 rfl <| .cons 18 rfl <| .cons 19 rfl <| .cons 20 rfl <| .nil), (.cons 1 rfl <| .cons 2 rfl <| .cons 3 rfl <| .nil), ?_⟩)
              refine JN_then ?_
              refine J_seq ?_
              refine J_seq (J_reg [] (
                  .cons (.no) _ _ (op_move (Lk.t rfl)) <|
                  .cons (.no) _ _ (op_cmp (by simp) (Lk.t rfl) (Lk.k rfl) rfl) <|
                  .cons (.no) _ _ (op_move (Lk.t rfl)) <|
                  .cons (.no) _ _ (op_guard rfl rfl (gd_b rfl) (fun hC => (op_move (Lk.t rfl)))) <|
                  .cons (.no) _ _ (op_guard rfl rfl (gd_b rfl) (fun hC => (op_cmp (by simp) (Lk.w rfl hC) (Lk.k rfl) rfl))) <|
                  .cons (.no) _ _ (op_or (Lk.t rfl) (fun h2 => (Lk.w rfl h2))) <|
                  .cons (.no) _ _ (op_move (Lk.t rfl)) <|
                  .cons (.no) _ _ (op_guard rfl rfl (gd_b rfl) (fun hC => (op_move (Lk.t rfl)))) <|
                  .cons (.no) _ _ (op_guard rfl rfl (gd_b rfl) (fun hC => (op_cmp (by simp) (Lk.w rfl hC) (Lk.k rfl) rfl))) <|
                  .cons (.no) _ _ (op_or (Lk.t rfl) (fun h2 => (Lk.w rfl h2))) <|
                  .cons (.no) _ _ (op_move (Lk.t rfl)) <|
                  .cons (.rd 0) _ _ (op_guard rfl rfl (gd_b rfl) (fun hC => (op_get_ag 0 ag34 (Lk.t rfl) rfl mem_blk rfl rfl))) <|
                  .cons (.no) _ _ (op_guard rfl rfl (gd_b rfl) (fun hC => (op_move (Lk.t rfl)))) <|
                  .cons (.no) _ _ (op_guard rfl rfl (gd_b rfl) (fun hC => (op_call (good_ok hs0) ⟨(Lk.w rfl hC), (Lk.w rfl hC),  trivial⟩))) <|
                  .cons (.no) _ _ (op_guard rfl rfl (gd_b rfl) (fun hC => (op_not (Lk.w rfl hC)))) <|
                  .cons (.no) _ _ (op_or (Lk.t rfl) (fun h2 => (Lk.w rfl h2))) <|
                  .cons (.no) _ _ (op_move (Lk.t rfl)) <|
                  .cons (.rd 1) _ _ (op_guard rfl rfl (gd_b rfl) (fun hC => (op_get_ag 1 ag34 (Lk.t rfl) rfl mem_blk rfl rfl))) <|
                  .cons (.no) _ _ (op_guard rfl rfl (gd_b rfl) (fun hC => (op_move (Lk.t rfl)))) <|
                  .cons (.no) _ _ (op_guard rfl rfl (gd_b rfl) (fun hC => (op_call (good_ok hs0) ⟨(Lk.w rfl hC), (Lk.w rfl hC),  trivial⟩))) <|
                  .cons (.no) _ _ (op_guard rfl rfl (gd_b rfl) (fun hC => (op_not (Lk.w rfl hC)))) <|
                  .cons (.no) _ _ (op_or (Lk.t rfl) (fun h2 => (Lk.w rfl h2))) <|
                  .cons (.no) _ _ (op_move (Lk.t rfl)) <|
                  .cons (.rd 2) _ _ (op_guard rfl rfl (gd_b rfl) (fun hC => (op_get_ag 2 ag34 (Lk.t rfl) rfl mem_blk rfl rfl))) <|
                  .cons (.no) _ _ (op_guard rfl rfl (gd_b rfl) (fun hC => (op_move (Lk.t rfl)))) <|
                  .cons (.no) _ _ (op_guard rfl rfl (gd_b rfl) (fun hC => (op_call (good_ok hs0) ⟨(Lk.w rfl hC), (Lk.w rfl hC),  trivial⟩))) <|
                  .cons (.no) _ _ (op_guard rfl rfl (gd_b rfl) (fun hC => (op_not (Lk.w rfl hC)))) <|
                  .cons (.no) _ _ (op_or (Lk.t rfl) (fun h2 => (Lk.w rfl h2))) <|
                  .nil) ff rfl fun g31 => ⟨_, _, [0, 1, 2], rfl, (.cons 8 rfl <| .cons 18 rfl <| .cons 19 rfl <| .cons 20 rfl <| .cons 192 rfl <| .nil), (.cons 0 rfl <| .cons 1 rfl <| .cons 2 rfl <| .nil), ?_⟩)
              refine JN_then ?_
              refine J_cond (cond_of (Lk.t rfl)) (fun h11 => ?_) (fun h11 => ?_)
              · have h11' := h11
                try simp only [cmpB, Bool.and_eq_true, Bool.or_eq_true, Bool.and_eq_false_iff, Bool.or_eq_false_iff, Bool.not_eq_true', Bool.not_eq_false', Bool.not_eq_true, Bool.not_eq_false, decide_eq_true_eq, decide_eq_false_iff_not, Int.not_lt, Int.not_le, beq_iff_eq, bne_iff_ne, beq_eq_false_iff_ne, bne_eq_false_iff_eq, ne_eq, Decidable.not_not] at h11
                exact absurd h11' (by rw [goodB_ok lA, goodB_ok lB, goodB_ok lC]; simp [cmpB])
              · have h11' := h11
                try simp only [cmpB, Bool.and_eq_true, Bool.or_eq_true, Bool.and_eq_false_iff, Bool.or_eq_false_iff, Bool.not_eq_true', Bool.not_eq_false', Bool.not_eq_true, Bool.not_eq_false, decide_eq_true_eq, decide_eq_false_iff_not, Int.not_lt, Int.not_le, beq_iff_eq, bne_iff_ne, beq_eq_false_iff_ne, bne_eq_false_iff_eq, ne_eq, Decidable.not_not] at h11
                refine J_skip ?_
                refine JN_then ?_
                refine J_seq ?_
                refine J_seq (J_reg [] (
                    .cons (.no) _ _ (op_assign (Lk.k rfl)) <|
                    .nil) ff rfl fun g32 => ⟨_, _, [0, 1, 2], rfl, (.cons 8 rfl <| .cons 18 rfl <| .cons 19 rfl <| .cons 20 rfl <| .cons 21 rfl <| .nil), (.cons 0 rfl <| .cons 1 rfl <| .cons 2 rfl <| .nil), ?_⟩)
                refine JN_then ?_
                refine J_block ?_
                refine J_loopc (α := Nat) (fun i => (i : Int) ≤ n) (fun i => n.toNat - i) (fun i restR => (21, isv (.int .i64 (i : Int))) :: restR) (fun i restS => restS) (ρc := [(8, _), (18, _), (19, _), (20, _)]) (σc := [_, _, _]) 0 (by omega) (To.pick (fun _ => .sub (t := 21) rfl (sp_eq (by rfl)) <| .cons 8 rfl <| .cons 18 rfl <| .cons 19 rfl <| .cons 20 rfl <| .nil) (fun _ => .cons 0 rfl <| .cons 1 rfl <| .cons 2 rfl <| .nil) (ks := [0, 1, 2]) rfl) (fun i hI => ?_)
                refine J_seq ?_
                refine J_seq (J_reg [] (
                    .cons (.no) _ _ (op_move (Lk.t rfl)) <|
                    .cons (.no) _ _ (op_move (Lk.t rfl)) <|
                    .cons (.no) _ _ (op_cmp (by simp) (Lk.t rfl) (Lk.t rfl) rfl) <|
                    .nil) ff rfl fun g33 => ⟨_, _, [0, 1, 2], rfl, (.cons 8 rfl <| .cons 18 rfl <| .cons 19 rfl <| .cons 20 rfl <| .cons 21 rfl <| .cons 195 rfl <| .nil), (.cons 0 rfl <| .cons 1 rfl <| .cons 2 rfl <| .nil), ?_⟩)
                refine JN_then ?_
                refine J_cond (cond_of (Lk.t rfl)) (fun h12 => ?_) (fun h12 => ?_)
                · have h12' := h12
                  try simp only [cmpB, Bool.and_eq_true, Bool.or_eq_true, Bool.and_eq_false_iff, Bool.or_eq_false_iff, Bool.not_eq_true', Bool.not_eq_false', Bool.not_eq_true, Bool.not_eq_false, decide_eq_true_eq, decide_eq_false_iff_not, Int.not_lt, Int.not_le, beq_iff_eq, bne_iff_ne, beq_eq_false_iff_ne, bne_eq_false_iff_eq, ne_eq, Decidable.not_not] at h12
                  refine J_skip ?_
                  refine JN_then ?_
                  refine J_seq ?_
                  refine J_block ?_
                  refine J_seq (J_reg [] (
                      .cons (.no) _ _ (op_assign (Lk.k rfl)) <|
                      .nil) ff rfl fun g34 => ⟨_, _, [0, 1, 2], rfl, (.cons 8 rfl <| .cons 18 rfl <| .cons 19 rfl <| .cons 20 rfl <| .cons 21 rfl <| .cons 22 rfl <| .nil), (.cons 0 rfl <| .cons 1 rfl <| .cons 2 rfl <| .nil), ?_⟩)
                  refine JN_then ?_
                  refine J_block ?_
                  refine J_loopc (α := Nat) (fun j => (j : Int) ≤ n) (fun j => n.toNat - j) (fun j restR => (22, isv (.int .i64 (j : Int))) :: restR) (fun j restS => restS) (ρc := [(8, _), (18, _), (19, _), (20, _), (21, _)]) (σc := [_, _, _]) 0 (by omega) (To.pick (fun _ => .sub (t := 22) rfl (sp_eq (by rfl)) <| .cons 8 rfl <| .cons 18 rfl <| .cons 19 rfl <| .cons 20 rfl <| .cons 21 rfl <| .nil) (fun _ => .cons 0 rfl <| .cons 1 rfl <| .cons 2 rfl <| .nil) (ks := [0, 1, 2]) rfl) (fun j hI => ?_)
                  refine J_seq ?_
                  refine J_seq (J_reg [] (
                      .cons (.no) _ _ (op_move (Lk.t rfl)) <|
                      .cons (.no) _ _ (op_move (Lk.t rfl)) <|
                      .cons (.no) _ _ (op_cmp (by simp) (Lk.t rfl) (Lk.t rfl) rfl) <|
                      .nil) ff rfl fun g35 => ⟨_, _, [0, 1, 2], rfl, (.cons 8 rfl <| .cons 18 rfl <| .cons 19 rfl <| .cons 20 rfl <| .cons 21 rfl <| .cons 22 rfl <| .cons 200 rfl <| .nil), (.cons 0 rfl <| .cons 1 rfl <| .cons 2 rfl <| .nil), ?_⟩)
                  refine JN_then ?_
                  refine J_cond (cond_of (Lk.t rfl)) (fun h13 => ?_) (fun h13 => ?_)
                  · have h13' := h13
                    try simp only [cmpB, Bool.and_eq_true, Bool.or_eq_true, Bool.and_eq_false_iff, Bool.or_eq_false_iff, Bool.not_eq_true', Bool.not_eq_false', Bool.not_eq_true, Bool.not_eq_false, decide_eq_true_eq, decide_eq_false_iff_not, Int.not_lt, Int.not_le, beq_iff_eq, bne_iff_ne, beq_eq_false_iff_ne, bne_eq_false_iff_eq, ne_eq, Decidable.not_not] at h13
                    refine J_skip ?_
                    refine JN_then ?_
                    refine J_seq ?_
                    refine J_block ?_
                    refine J_seq (J_reg [] (
                        .cons (.no) _ _ (op_assign (Lk.fk rfl (by decide +kernel))) <|
                        .nil) ff rfl fun g36 => ⟨_, _, [0, 1, 2], rfl, (.cons 8 rfl <| .cons 18 rfl <| .cons 19 rfl <| .cons 20 rfl <| .cons 21 rfl <| .cons 22 rfl <| .cons 23 rfl <| .nil), (.cons 0 rfl <| .cons 1 rfl <| .cons 2 rfl <| .nil), ?_⟩)
                    refine JN_then ?_
                    refine J_seq ?_
                    refine J_seq (J_reg [] (
                        .cons (.no) _ _ (op_assign (Lk.k rfl)) <|
                        .nil) ff rfl fun g37 => ⟨_, _, [0, 1, 2], rfl, (.cons 8 rfl <| .cons 18 rfl <| .cons 19 rfl <| .cons 20 rfl <| .cons 21 rfl <| .cons 22 rfl <| .cons 23 rfl <| .cons 24 rfl <| .nil), (.cons 0 rfl <| .cons 1 rfl <| .cons 2 rfl <| .nil), ?_⟩)
                    refine JN_then ?_
                    refine J_block ?_
                    refine J_loopc (α := Nat) (fun q => (q : Int) ≤ n) (fun q => n.toNat - q) (fun q restR => (24, isv (.int .i64 (q : Int))) :: (23, flp (gsum n (layF (ls.map pcn) n a) (layF (ls.map pcn) n b) i j q)) :: restR) (fun q restS => restS) (ρc := [(8, _), (18, _), (19, _), (20, _), (21, _), (22, _)]) (σc := [_, _, _]) 0 (by omega) (To.pick (fun _ => .sub (t := 24) rfl (sp_eq (by rfl)) <| .sub (t := 23) rfl (sp_eq (by rfl)) <| .cons 8 rfl <| .cons 18 rfl <| .cons 19 rfl <| .cons 20 rfl <| .cons 21 rfl <| .cons 22 rfl <| .nil) (fun _ => .cons 0 rfl <| .cons 1 rfl <| .cons 2 rfl <| .nil) (ks := [0, 1, 2]) rfl) (fun q hI => ?_)
                    refine J_seq ?_
                    refine J_seq (J_reg [] (
                        .cons (.no) _ _ (op_move (Lk.t rfl)) <|
                        .cons (.no) _ _ (op_move (Lk.t rfl)) <|
                        .cons (.no) _ _ (op_cmp (by simp) (Lk.t rfl) (Lk.t rfl) rfl) <|
                        .nil) ff rfl fun g38 => ⟨_, _, [0, 1, 2], rfl, (.cons 8 rfl <| .cons 18 rfl <| .cons 19 rfl <| .cons 20 rfl <| .cons 21 rfl <| .cons 22 rfl <| .cons 23 rfl <| .cons 24 rfl <| .cons 205 rfl <| .nil), (.cons 0 rfl <| .cons 1 rfl <| .cons 2 rfl <| .nil), ?_⟩)
                    refine JN_then ?_
                    refine J_cond (cond_of (Lk.t rfl)) (fun h14 => ?_) (fun h14 => ?_)
                    · have h14' := h14
                      try simp only [cmpB, Bool.and_eq_true, Bool.or_eq_true, Bool.and_eq_false_iff, Bool.or_eq_false_iff, Bool.not_eq_true', Bool.not_eq_false', Bool.not_eq_true, Bool.not_eq_false, decide_eq_true_eq, decide_eq_false_iff_not, Int.not_lt, Int.not_le, beq_iff_eq, bne_iff_ne, beq_eq_false_iff_ne, bne_eq_false_iff_eq, ne_eq, Decidable.not_not] at h14
                      refine J_skip ?_
                      refine JN_then ?_
                      refine J_seq ?_
                      refine J_block ?_
                      refine (J_reg [[], [], [], [], [1, 2, 3], [], [], [], [1, 2, 3, 4, 5, 6, 7], [1, 2, 3, 4, 5, 6, 7, 8], [0, 1, 2, 3, 4, 5, 6, 7, 8, 9], [0, 1, 2, 3, 4, 5, 6, 7, 8, 9, 10]] (
                          .cons (.no) _ _ (op_move (Lk.t rfl)) <|
                          .cons (.rd 0) _ _ (op_get_ag 0 ag34 (Lk.t rfl) rfl mem_blk rfl rfl) <|
                          .cons (.no) _ _ (op_move (Lk.t rfl)) <|
                          .cons (.no) _ _ (op_move (Lk.t rfl)) <|
                          .cons (.no) _ _ (op_call (at_ok (layF_good hs0) ⟨by omega, by omega, by omega, by omega⟩) ⟨(Lk.t rfl), (Lk.t rfl), (Lk.t rfl),  trivial⟩) <|
                          .cons (.rd 1) _ _ (op_get_ag 1 ag34 (Lk.t rfl) rfl mem_blk rfl rfl) <|
                          .cons (.no) _ _ (op_move (Lk.t rfl)) <|
                          .cons (.no) _ _ (op_move (Lk.t rfl)) <|
                          .cons (.no) _ _ (op_call (at_ok (layF_good hs0) ⟨by omega, by omega, by omega, by omega⟩) ⟨(Lk.t rfl), (Lk.t rfl), (Lk.t rfl),  trivial⟩) <|
                          .cons (.no) _ _ (op_float (by simp) (Lk.t rfl) (Lk.t rfl) rfl) <|
                          .cons (.no) _ _ (op_float (by simp) (Lk.t rfl) (Lk.t rfl) rfl) <|
                          .cons (.no) _ _ (op_assign (Lk.t rfl)) <|
                          .nil) (fun _ => mixed) rfl fun g39 => ⟨_, _, [0, 1, 2], rfl, (.cons 8 rfl <| .cons 18 rfl <| .cons 19 rfl <| .cons 20 rfl <| .cons 21 rfl <| .cons 22 rfl <| .cons 23 rfl <| .cons 24 rfl <| .nil), (.cons 0 rfl <| .cons 1 rfl <| .cons 2 rfl <| .nil), ?_⟩)
                      refine JN_block ?_
                      refine JN_then ?_
                      refine (J_reg [] (
                          .cons (.no) _ _ (op_move (Lk.t rfl)) <|
                          .cons (.no) _ _ (op_add (Lk.t rfl) (Lk.k rfl) (wrap_id (by omega) (by omega))) <|
                          .cons (.no) _ _ (op_assign (Lk.t rfl)) <|
                          .nil) ff rfl fun g40 => ⟨_, _, [0, 1, 2], rfl, (.cons 8 rfl <| .cons 18 rfl <| .cons 19 rfl <| .cons 20 rfl <| .cons 21 rfl <| .cons 22 rfl <| .cons 23 rfl <| .cons 24 rfl <| .nil), (.cons 0 rfl <| .cons 1 rfl <| .cons 2 rfl <| .nil), ?_⟩)
                      exact JN_again (q + 1) (by omega) (by omega) (To.pick (fun _ => .sub (t := 24) rfl (sp_eq (by rfl)) <| .sub (t := 23) rfl (sp_eq (by rfl)) <| .cons 8 rfl <| .cons 18 rfl <| .cons 19 rfl <| .cons 20 rfl <| .cons 21 rfl <| .cons 22 rfl <| .nil) (fun _ => .cons 0 rfl <| .cons 1 rfl <| .cons 2 rfl <| .nil) (ks := [0, 1, 2]) rfl)
                    · have h14' := h14
                      try simp only [cmpB, Bool.and_eq_true, Bool.or_eq_true, Bool.and_eq_false_iff, Bool.or_eq_false_iff, Bool.not_eq_true', Bool.not_eq_false', Bool.not_eq_true, Bool.not_eq_false, decide_eq_true_eq, decide_eq_false_iff_not, Int.not_lt, Int.not_le, beq_iff_eq, bne_iff_ne, beq_eq_false_iff_ne, bne_eq_false_iff_eq, ne_eq, Decidable.not_not] at h14
                      refine J_exit ?_
                      refine JN_then_exit ?_
                      refine JN_then_exit ?_
                      refine JN_exit_here ?_
                      refine JN_then ?_
                      refine J_seq (J_reg [] (
                          .cons (.no) _ _ (op_move (Lk.t rfl)) <|
                          .cons (.rd 2) _ _ (op_get_ag 2 ag34 (Lk.t rfl) rfl mem_blk rfl rfl) <|
                          .cons (.no) _ _ (op_move (Lk.t rfl)) <|
                          .cons (.no) _ _ (op_move (Lk.t rfl)) <|
                          .cons (.no) _ _ (op_call (at_ok (layF_good hs0) ⟨by omega, by omega, by omega, by omega⟩) ⟨(Lk.t rfl), (Lk.t rfl), (Lk.t rfl),  trivial⟩) <|
                          .cons (.no) _ _ (op_fcmp (by simp) (Lk.t rfl) (Lk.t rfl) rfl) <|
                          .nil) ff rfl fun g41 => ⟨_, _, [0, 1, 2], rfl, (.cons 8 rfl <| .cons 18 rfl <| .cons 19 rfl <| .cons 20 rfl <| .cons 21 rfl <| .cons 22 rfl <| .cons 224 rfl <| .nil), (.cons 0 rfl <| .cons 1 rfl <| .cons 2 rfl <| .nil), ?_⟩)
                      refine JN_then ?_
                      refine J_cond (cond_of (Lk.t rfl)) (fun h15 => ?_) (fun h15 => ?_)
                      · have h15' := h15
                        try simp only [cmpB, Bool.and_eq_true, Bool.or_eq_true, Bool.and_eq_false_iff, Bool.or_eq_false_iff, Bool.not_eq_true', Bool.not_eq_false', Bool.not_eq_true, Bool.not_eq_false, decide_eq_true_eq, decide_eq_false_iff_not, Int.not_lt, Int.not_le, beq_iff_eq, bne_iff_ne, beq_eq_false_iff_ne, bne_eq_false_iff_eq, ne_eq, Decidable.not_not] at h15
                        exact absurd h15' (by rw [go_ne hme hnf hn hst ⟨by omega, by omega, by omega, by omega⟩ (show q = n.toNat by omega)]; decide)
                      · have h15' := h15
                        try simp only [cmpB, Bool.and_eq_true, Bool.or_eq_true, Bool.and_eq_false_iff, Bool.or_eq_false_iff, Bool.not_eq_true', Bool.not_eq_false', Bool.not_eq_true, Bool.not_eq_false, decide_eq_true_eq, decide_eq_false_iff_not, Int.not_lt, Int.not_le, beq_iff_eq, bne_iff_ne, beq_eq_false_iff_ne, bne_eq_false_iff_eq, ne_eq, Decidable.not_not] at h15
                        refine J_skip ?_
                        refine JN_block ?_
                        refine JN_then ?_
                        refine (J_reg [] (
                            .cons (.no) _ _ (op_move (Lk.t rfl)) <|
                            .cons (.no) _ _ (op_add (Lk.t rfl) (Lk.k rfl) (wrap_id (by omega) (by omega))) <|
                            .cons (.no) _ _ (op_assign (Lk.t rfl)) <|
                            .nil) ff rfl fun g42 => ⟨_, _, [0, 1, 2], rfl, (.cons 8 rfl <| .cons 18 rfl <| .cons 19 rfl <| .cons 20 rfl <| .cons 21 rfl <| .cons 22 rfl <| .nil), (.cons 0 rfl <| .cons 1 rfl <| .cons 2 rfl <| .nil), ?_⟩)
                        exact JN_again (j + 1) (by omega) (by omega) (To.pick (fun _ => .sub (t := 22) rfl (sp_eq (by rfl)) <| .cons 8 rfl <| .cons 18 rfl <| .cons 19 rfl <| .cons 20 rfl <| .cons 21 rfl <| .nil) (fun _ => .cons 0 rfl <| .cons 1 rfl <| .cons 2 rfl <| .nil) (ks := [0, 1, 2]) rfl)
                  · have h13' := h13
                    try simp only [cmpB, Bool.and_eq_true, Bool.or_eq_true, Bool.and_eq_false_iff, Bool.or_eq_false_iff, Bool.not_eq_true', Bool.not_eq_false', Bool.not_eq_true, Bool.not_eq_false, decide_eq_true_eq, decide_eq_false_iff_not, Int.not_lt, Int.not_le, beq_iff_eq, bne_iff_ne, beq_eq_false_iff_ne, bne_eq_false_iff_eq, ne_eq, Decidable.not_not] at h13
                    refine J_exit ?_
                    refine JN_then_exit ?_
                    refine JN_then_exit ?_
                    refine JN_exit_here ?_
                    refine JN_block ?_
                    refine JN_then ?_
                    refine (J_reg [] (
                        .cons (.no) _ _ (op_move (Lk.t rfl)) <|
                        .cons (.no) _ _ (op_add (Lk.t rfl) (Lk.k rfl) (wrap_id (by omega) (by omega))) <|
                        .cons (.no) _ _ (op_assign (Lk.t rfl)) <|
                        .nil) ff rfl fun g43 => ⟨_, _, [0, 1, 2], rfl, (.cons 8 rfl <| .cons 18 rfl <| .cons 19 rfl <| .cons 20 rfl <| .cons 21 rfl <| .nil), (.cons 0 rfl <| .cons 1 rfl <| .cons 2 rfl <| .nil), ?_⟩)
                    exact JN_again (i + 1) (by omega) (by omega) (To.pick (fun _ => .sub (t := 21) rfl (sp_eq (by rfl)) <| .cons 8 rfl <| .cons 18 rfl <| .cons 19 rfl <| .cons 20 rfl <| .nil) (fun _ => .cons 0 rfl <| .cons 1 rfl <| .cons 2 rfl <| .nil) (ks := [0, 1, 2]) rfl)
                · have h12' := h12
                  try simp only [cmpB, Bool.and_eq_true, Bool.or_eq_true, Bool.and_eq_false_iff, Bool.or_eq_false_iff, Bool.not_eq_true', Bool.not_eq_false', Bool.not_eq_true, Bool.not_eq_false, decide_eq_true_eq, decide_eq_false_iff_not, Int.not_lt, Int.not_le, beq_iff_eq, bne_iff_ne, beq_eq_false_iff_ne, bne_eq_false_iff_eq, ne_eq, Decidable.not_not] at h12
                  refine J_exit ?_
                  refine JN_then_exit ?_
                  refine JN_then_exit ?_
                  refine JN_exit_here ?_
                  refine JN_then ?_
                  refine J_seq (J_reg [] (
                      .cons (.no) _ _ (op_assign (Lk.k rfl)) <|
                      .nil) ff rfl fun g44 => ⟨_, _, [], rfl, (.cons 6 rfl <| .nil), (.nil), ?_⟩)
                  refine JN_then ?_
                  refine J_ret ?_
                  refine JN_ret (.cons (.tmp (Lk.t rfl)) <| .nil) (sb_trans (sb_res1 sb_refl) ?_)
                  exact sb_refl
end Go.Proofs.Ytcnffgbncbadbaa
