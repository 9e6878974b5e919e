/- Printed by a program of ours (walk.py): the walk of ModelRoots. -/
import Derived.Test.YtcnffgbncbadbaaTyp
import Derived.Test.YtcnffgbncbadbaaProg
import Derived.KernelRfl
import Derived.Test.YtcnffgbncbadbaaTypes
import Derived.Test.YtcnffgbncbadbaaWFew
import Derived.Test.YtcnffgbncbadbaaWExact
import Derived.Test.YtcnffgbncbadbaaRox
set_option linter.unusedVariables false
set_option linter.unusedSimpArgs false
set_option maxRecDepth 20000
set_option maxHeartbeats 1000000
namespace Go.Proofs.Ytcnffgbncbadbaa
open Go Go.Bn
attribute [local irreducible] OpOK
theorem ldexpM100 : Ct Try.prog 27 [flp 4607182418800017408, isv (.int .i64 (-100))] (flp M100) := (show P2 (-100) = M100 from by decide +kernel) ▸ Ldexp_ok (k := -100) (by decide) (by decide)
theorem mDimx_ok {ps : List Prt} {n : Int} (hm : motE ps = 0) (hn : tot ps ps.length = n) : Ct Try.prog 10 [MotP ps] (tupp [isv (.int .i64 n), isv (.int .i64 0)]) := ((show dimR ps = ⟨n, 0⟩ by rw [dimR_ok hm, hn]) ▸ mdim_ok : Ct Try.prog 10 [MotP ps] (resI ⟨n, 0⟩))
theorem xdotr_ok {n i j : Int} {G : List Nat} (hg : Good n n G) (i0 : 0 ≤ i) (i1 : i < n) (j0 : 0 ≤ j) (j1 : j < n) (hD : DotB (rowL n G i) (rowL n G j)) : Ct Try.prog 28 [fls ((G.drop (i * n).toNat).take (((i + 1) * n).toNat - (i * n).toNat)), fls ((G.drop (j * n).toNat).take (((j + 1) * n).toNat - (j * n).toNat))] (exaP (dotX (rowL n G i) (rowL n G j) (rowL n G i).length)) := by
  rw [rowL_slice hg.1.1 hg.2 i0 i1, rowL_slice hg.1.1 hg.2 j0 j1]
  exact xdot_ok hD
theorem roots_ok {ls : List Prt} {t : Int} (hb : GoodL ls) : Ct Try.prog 6 [slk 4 prtU ls, isv (.int .i64 t)] (isv (.bool true)) := by
  refine Ct.of Try.func6 rfl (by kernel_rfl) rfl fun c0 => ?_
  refine J_lenk 0 rfl fun hlen => ?_
  refine J_seq (J_reg [] (
      .cons (.no) _ _ (op_assign (Lk.k rfl)) <|
      .nil) ff rfl fun g1 => ⟨_, _, [], rfl, (.cons 0 rfl <| .cons 1 rfl <| .nil), (.nil), ?_⟩)
  refine JN_then ?_
  refine J_seq ?_
  refine J_seq (J_reg [] (
      .cons (.no) _ _ (op_call (awake_ok) trivial) <|
      .cons (.no) _ _ (op_not (Lk.t rfl)) <|
      .nil) ff rfl fun g2 => ⟨_, _, [], rfl, (.cons 0 rfl <| .cons 1 rfl <| .cons 18 rfl <| .nil), (.nil), ?_⟩)
  refine JN_then ?_
  refine J_cond (cond_of (Lk.t rfl)) (fun h1 => ?_) (fun h1 => ?_)
  · have h1' := h1
    try simp only [cmpB, Bool.and_eq_true, Bool.or_eq_true, Bool.and_eq_false_iff, Bool.or_eq_false_iff, Bool.not_eq_true', Bool.not_eq_false', Bool.not_eq_true, Bool.not_eq_false, decide_eq_true_eq, decide_eq_false_iff_not, Int.not_lt, Int.not_le, beq_iff_eq, bne_iff_ne, beq_eq_false_iff_ne, bne_eq_false_iff_eq, ne_eq, Decidable.not_not] at h1
    exact absurd h1' (by simp [cmpB])
  · have h1' := h1
    try simp only [cmpB, Bool.and_eq_true, Bool.or_eq_true, Bool.and_eq_false_iff, Bool.or_eq_false_iff, Bool.not_eq_true', Bool.not_eq_false', Bool.not_eq_true, Bool.not_eq_false, decide_eq_true_eq, decide_eq_false_iff_not, Int.not_lt, Int.not_le, beq_iff_eq, bne_iff_ne, beq_eq_false_iff_ne, bne_eq_false_iff_eq, ne_eq, Decidable.not_not] at h1
    refine J_skip ?_
    refine JN_then ?_
    refine J_to (To.emps 1) ?_
    refine J_seq (J_reg [] (
        .cons (.no) _ _ (op_move (Lk.t rfl)) <|
        .cons (.no) _ _ (op_call (motion_ok (by assumption)) ⟨(Lk.t rfl),  trivial⟩) <|
        .cons (.wr 0) _ _ (op_alloc 0 zr26 rfl rfl) <|
        .cons (.wr 0) _ _ (op_store_new 0 rfl (Lk.t rfl) co_agg sz26 rfl rfl) <|
        .nil) ff rfl fun g3 => ⟨_, _, [0], rfl, (.cons 0 rfl <| .cons 1 rfl <| .cons 5 rfl <| .nil), (.cons 0 rfl <| .nil), ?_⟩)
    refine JN_then ?_
    refine J_to (To.emps 1) ?_
    refine J_seq (J_reg [] (
        .cons (.rd 0) _ _ (op_get_ag 0 ag26 (Lk.t rfl) rfl mem_blk rfl rfl) <|
        .cons (.no) _ _ (op_move (Lk.t rfl)) <|
        .cons (.no) _ _ (op_call (mQ_ok) ⟨(Lk.t rfl), (Lk.t rfl),  trivial⟩) <|
        .cons (.no) _ _ (op_move (Lk.t rfl)) <|
        .cons (.no) _ _ (op_extract (Lk.t rfl) rfl) <|
        .cons (.no) _ _ (op_extract (Lk.t rfl) rfl) <|
        .cons (.wr 1) _ _ (op_alloc 1 zr34 rfl rfl) <|
        .cons (.wr 1) _ _ (op_store_new 1 rfl (Lk.t rfl) co_agg sz34 rfl rfl) <|
        .cons (.no) _ _ (op_assign (Lk.t rfl)) <|
        .nil) ff rfl fun g4 => ⟨_, _, [0, 1], rfl, (.cons 0 rfl <| .cons 1 rfl <| .cons 5 rfl <| .cons 6 rfl <| .cons 7 rfl <| .nil), (.cons 0 rfl <| .cons 1 rfl <| .nil), ?_⟩)
    refine JN_then ?_
    refine J_to (To.emps 1) ?_
    refine J_seq (J_reg [] (
        .cons (.rd 0) _ _ (op_get_ag 0 ag26 (Lk.t rfl) rfl mem_blk rfl rfl) <|
        .cons (.no) _ _ (op_move (Lk.t rfl)) <|
        .cons (.no) _ _ (op_call (mG_ok) ⟨(Lk.t rfl), (Lk.t rfl),  trivial⟩) <|
        .cons (.no) _ _ (op_move (Lk.t rfl)) <|
        .cons (.no) _ _ (op_extract (Lk.t rfl) rfl) <|
        .cons (.no) _ _ (op_extract (Lk.t rfl) rfl) <|
        .cons (.wr 2) _ _ (op_alloc 2 zr34 rfl rfl) <|
        .cons (.wr 2) _ _ (op_store_new 2 rfl (Lk.t rfl) co_agg sz34 rfl rfl) <|
        .cons (.no) _ _ (op_assign (Lk.t rfl)) <|
        .nil) ff rfl fun g5 => ⟨_, _, [0, 1, 2], rfl, (.cons 0 rfl <| .cons 1 rfl <| .cons 5 rfl <| .cons 6 rfl <| .cons 7 rfl <| .cons 8 rfl <| .cons 9 rfl <| .nil), (.cons 0 rfl <| .cons 1 rfl <| .cons 2 rfl <| .nil), ?_⟩)
    refine JN_then ?_
    refine J_seq ?_
    refine J_seq (J_reg [] (
        .cons (.no) _ _ (op_move (Lk.t rfl)) <|
        .cons (.no) _ _ (op_cmp (by simp) (Lk.t rfl) (Lk.k rfl) rfl) <|
        .cons (.no) _ _ (op_move (Lk.t rfl)) <|
        .cons (.no) _ _ (op_guard rfl rfl (gd_b rfl) (fun hC => (op_move (Lk.t rfl)))) <|
        .cons (.no) _ _ (op_guard rfl rfl (gd_b rfl) (fun hC => (op_cmp (by simp) (Lk.w rfl hC) (Lk.k rfl) rfl))) <|
        .cons (.no) _ _ (op_or (Lk.t rfl) (fun h2 => (Lk.w rfl h2))) <|
        .nil) ff rfl fun g6 => ⟨_, _, [0, 1, 2], rfl, (.cons 0 rfl <| .cons 1 rfl <| .cons 5 rfl <| .cons 6 rfl <| .cons 7 rfl <| .cons 8 rfl <| .cons 9 rfl <| .cons 38 rfl <| .nil), (.cons 0 rfl <| .cons 1 rfl <| .cons 2 rfl <| .nil), ?_⟩)
    refine JN_then ?_
    refine J_cond (cond_of (Lk.t rfl)) (fun h2 => ?_) (fun h2 => ?_)
    · have h2' := h2
      try simp only [cmpB, Bool.and_eq_true, Bool.or_eq_true, Bool.and_eq_false_iff, Bool.or_eq_false_iff, Bool.not_eq_true', Bool.not_eq_false', Bool.not_eq_true, Bool.not_eq_false, decide_eq_true_eq, decide_eq_false_iff_not, Int.not_lt, Int.not_le, beq_iff_eq, bne_iff_ne, beq_eq_false_iff_ne, bne_eq_false_iff_eq, ne_eq, Decidable.not_not] at h2
      refine J_seq (J_reg [] (
          .cons (.no) _ _ (op_move (Lk.t rfl)) <|
          .cons (.no) _ _ (op_cmp (by simp) (Lk.t rfl) (Lk.k rfl) rfl) <|
          .cons (.no) _ _ (op_move (Lk.t rfl)) <|
          .cons (.no) _ _ (op_guard rfl rfl (gd_b rfl) (fun hC => (op_field_own fd34_2 (Lk.t rfl) rfl))) <|
          .cons (.rd 1) _ _ (op_guard rfl rfl (gd_b rfl) (fun hC => (op_get_sc 1 sc32 (Lk.w rfl hC) rfl mem_blk rfl))) <|
          .cons (.no) _ _ (op_guard rfl rfl (gd_b rfl) (fun hC => (op_len_m sl32 (Lk.w rfl hC)))) <|
          .cons (.no) _ _ (op_guard rfl rfl (gd_b rfl) (fun hC => (op_cmp (by simp) (Lk.w rfl hC) (Lk.k rfl) rfl))) <|
          .cons (.no) _ _ (op_and (Lk.t rfl) (fun h2 => (Lk.w rfl h2))) <|
          .cons (.no) _ _ (op_move (Lk.t rfl)) <|
          .cons (.no) _ _ (op_guard rfl rfl (gd_b rfl) (fun hC => (op_move (Lk.t rfl)))) <|
          .cons (.no) _ _ (op_guard rfl rfl (gd_b rfl) (fun hC => (op_cmp (by simp) (Lk.w rfl hC) (Lk.k rfl) rfl))) <|
          .cons (.no) _ _ (op_guard rfl rfl (gd_b rfl) (fun hC => (op_move (Lk.w rfl hC)))) <|
          .cons (.no) _ _ (op_guard rfl rfl (gd_w rfl) (fun hC => (op_field_own fd34_2 (Lk.t rfl) rfl))) <|
          .cons (.rd 2) _ _ (op_guard rfl rfl (gd_w rfl) (fun hC => (op_get_sc 2 sc32 (Lk.w rfl hC) rfl mem_blk rfl))) <|
          .cons (.no) _ _ (op_guard rfl rfl (gd_w rfl) (fun hC => (op_len_m sl32 (Lk.w rfl hC)))) <|
          .cons (.no) _ _ (op_guard rfl rfl (gd_w rfl) (fun hC => (op_cmp (by simp) (Lk.w rfl hC) (Lk.k rfl) rfl))) <|
          .cons (.no) _ _ (op_guard rfl rfl (gd_b rfl) (fun hC => (op_and (Lk.w rfl hC) (fun h2 => (Lk.w rfl ⟨hC, h2⟩))))) <|
          .cons (.no) _ _ (op_or (Lk.t rfl) (fun h2 => (Lk.w rfl h2))) <|
          .cons (.no) _ _ (op_assign (Lk.t rfl)) <|
          .nil) ff rfl fun g7 => ⟨_, _, [], rfl, (.cons 4 rfl <| .nil), (.nil), ?_⟩)
      refine JN_then ?_
      refine J_ret ?_
      refine JN_then_ret ?_
      refine JN_ret (.cons (.tmp (Lk.t rfl)) <| .nil) (sb_trans (sb_res1 sb_refl) ?_)
      exact ret_b (by rcases h2 with h9 | h9 <;> simp [cmpB, h9, blkM_nil h9])
    · have h2' := h2
      try simp only [cmpB, Bool.and_eq_true, Bool.or_eq_true, Bool.and_eq_false_iff, Bool.or_eq_false_iff, Bool.not_eq_true', Bool.not_eq_false', Bool.not_eq_true, Bool.not_eq_false, decide_eq_true_eq, decide_eq_false_iff_not, Int.not_lt, Int.not_le, beq_iff_eq, bne_iff_ne, beq_eq_false_iff_ne, bne_eq_false_iff_eq, ne_eq, Decidable.not_not] at h2
      obtain ⟨hq0, hg0⟩ := h2
      obtain ⟨hme, ht0, ht1, hQE⟩ := blkM_fin hq0
      obtain ⟨_, _, _, hGE⟩ := blkM_fin hg0
      obtain ⟨n, hn⟩ : ∃ n, tot (ls.map pcn) (ls.map pcn).length = n := ⟨_, rfl⟩
      rw [hn] at hQE hGE
      have hsn := siz_n hme hn
      obtain ⟨hs0, hn1, hgd⟩ := hsn
      have hsq := hs0.mul
      have hs2 := hs0.2.1
      have gQ0 := lay_good (g := noiseB) (d := (secR t).a) (ps := (ls.map pcn)) hs0
      have gG0 := lay_good (g := rootB) (d := (secR t).a) (ps := (ls.map pcn)) hs0
      have hM0 := fun h1 hl => rm_of (ls := ls) (t := t) hb hme hn h1 ht1 hl
      rw [hQE, hGE]
      dsimp only
      generalize layP noiseB (secR t).a (ls.map pcn) n (ls.map pcn).length = Q at *
      generalize layP rootB (secR t).a (ls.map pcn) n (ls.map pcn).length = G at *
      have lQ := gQ0.2
      have lG := gG0.2
      refine J_skip ?_
      refine JN_then ?_
      refine J_seq (J_reg [] (
          .cons (.rd 0) _ _ (op_get_ag 0 ag26 (Lk.t rfl) rfl mem_blk rfl rfl) <|
          .cons (.no) _ _ (op_call (mDimx_ok hme hn) ⟨(Lk.t rfl),  trivial⟩) <|
          .cons (.no) _ _ (op_move (Lk.t rfl)) <|
          .cons (.no) _ _ (op_extract (Lk.t rfl) rfl) <|
          .cons (.no) _ _ (op_extract (Lk.t rfl) rfl) <|
          .cons (.no) _ _ (op_assign (Lk.t rfl)) <|
          .cons (.no) _ _ (op_assign (Lk.t rfl)) <|
          .nil) ff rfl fun g8 => ⟨_, _, [1, 2], rfl, (.cons 0 rfl <| .cons 1 rfl <| .cons 6 rfl <| .cons 8 rfl <| .cons 10 rfl <| .nil), (.cons 1 rfl <| .cons 2 rfl <| .nil), ?_⟩)
      refine JN_then ?_
      refine J_seq ?_
      refine J_seq (J_reg [] (
          .cons (.rd 0) _ _ (op_get_ag 0 ag34 (Lk.t rfl) rfl mem_blk rfl rfl) <|
          .cons (.no) _ _ (op_move (Lk.t rfl)) <|
          .cons (.no) _ _ (op_call (good_ok hs0) ⟨(Lk.t rfl), (Lk.t rfl),  trivial⟩) <|
          .cons (.no) _ _ (op_not (Lk.t rfl)) <|
          .cons (.no) _ _ (op_move (Lk.t rfl)) <|
          .cons (.rd 1) _ _ (op_guard rfl rfl (gd_b rfl) (fun hC => (op_get_ag 1 ag34 (Lk.t rfl) rfl mem_blk rfl rfl))) <|
          .cons (.no) _ _ (op_guard rfl rfl (gd_b rfl) (fun hC => (op_move (Lk.t rfl)))) <|
          .cons (.no) _ _ (op_guard rfl rfl (gd_b rfl) (fun hC => (op_call (good_ok hs0) ⟨(Lk.w rfl hC), (Lk.w rfl hC),  trivial⟩))) <|
          .cons (.no) _ _ (op_guard rfl rfl (gd_b rfl) (fun hC => (op_not (Lk.w rfl hC)))) <|
          .cons (.no) _ _ (op_or (Lk.t rfl) (fun h2 => (Lk.w rfl h2))) <|
          .nil) ff rfl fun g9 => ⟨_, _, [0, 1], rfl, (.cons 0 rfl <| .cons 1 rfl <| .cons 6 rfl <| .cons 8 rfl <| .cons 10 rfl <| .cons 71 rfl <| .nil), (.cons 0 rfl <| .cons 1 rfl <| .nil), ?_⟩)
      refine JN_then ?_
      refine J_cond (cond_of (Lk.t rfl)) (fun h3 => ?_) (fun h3 => ?_)
      · have h3' := h3
        try simp only [cmpB, Bool.and_eq_true, Bool.or_eq_true, Bool.and_eq_false_iff, Bool.or_eq_false_iff, Bool.not_eq_true', Bool.not_eq_false', Bool.not_eq_true, Bool.not_eq_false, decide_eq_true_eq, decide_eq_false_iff_not, Int.not_lt, Int.not_le, beq_iff_eq, bne_iff_ne, beq_eq_false_iff_ne, bne_eq_false_iff_eq, ne_eq, Decidable.not_not] at h3
        exact absurd h3' (by rw [goodB_ok lQ, goodB_ok lG]; simp [cmpB])
      · have h3' := h3
        try simp only [cmpB, Bool.and_eq_true, Bool.or_eq_true, Bool.and_eq_false_iff, Bool.or_eq_false_iff, Bool.not_eq_true', Bool.not_eq_false', Bool.not_eq_true, Bool.not_eq_false, decide_eq_true_eq, decide_eq_false_iff_not, Int.not_lt, Int.not_le, beq_iff_eq, bne_iff_ne, beq_eq_false_iff_ne, bne_eq_false_iff_eq, ne_eq, Decidable.not_not] at h3
        refine J_skip ?_
        refine JN_then ?_
        refine J_seq ?_
        refine J_seq (J_reg [] (
            .cons (.no) _ _ (op_assign (Lk.k rfl)) <|
            .nil) ff rfl fun g10 => ⟨_, _, [0, 1], rfl, (.cons 0 rfl <| .cons 1 rfl <| .cons 6 rfl <| .cons 8 rfl <| .cons 10 rfl <| .cons 12 rfl <| .nil), (.cons 0 rfl <| .cons 1 rfl <| .nil), ?_⟩)
        refine JN_then ?_
        refine J_block ?_
        refine J_loopc (α := Nat) (fun k => k ≤ ls.length ∧ LoudTo ls k) (fun k => ls.length - k) (fun k restR => (12, isv (.int .i64 (k : Int))) :: restR) (fun k restS => restS) (ρc := [(0, _), (1, _), (6, _), (8, _), (10, _)]) (σc := [_, _]) 0 (by exact ⟨Nat.zero_le _, loudTo_zero⟩) (To.pick (fun _ => .sub (t := 12) rfl (sp_eq (by rfl)) <| .cons 0 rfl <| .cons 1 rfl <| .cons 6 rfl <| .cons 8 rfl <| .cons 10 rfl <| .nil) (fun _ => .cons 0 rfl <| .cons 1 rfl <| .nil) (ks := [0, 1]) rfl) (fun k hI => ?_)
        obtain ⟨hk, hp⟩ := hI
        refine J_seq ?_
        refine J_seq (J_reg [] (
            .cons (.no) _ _ (op_move (Lk.t rfl)) <|
            .cons (.no) _ _ (op_move (Lk.t rfl)) <|
            .cons (.no) _ _ (op_len_sk sl22 (Lk.t rfl)) <|
            .cons (.no) _ _ (op_cmp (by simp) (Lk.t rfl) (Lk.t rfl) rfl) <|
            .nil) ff rfl fun g11 => ⟨_, _, [0, 1], rfl, (.cons 0 rfl <| .cons 1 rfl <| .cons 6 rfl <| .cons 8 rfl <| .cons 10 rfl <| .cons 12 rfl <| .cons 75 rfl <| .nil), (.cons 0 rfl <| .cons 1 rfl <| .nil), ?_⟩)
        refine JN_then ?_
        refine J_cond (cond_of (Lk.t rfl)) (fun h4 => ?_) (fun h4 => ?_)
        · have h4' := h4
          try simp only [cmpB, Bool.and_eq_true, Bool.or_eq_true, Bool.and_eq_false_iff, Bool.or_eq_false_iff, Bool.not_eq_true', Bool.not_eq_false', Bool.not_eq_true, Bool.not_eq_false, decide_eq_true_eq, decide_eq_false_iff_not, Int.not_lt, Int.not_le, beq_iff_eq, bne_iff_ne, beq_eq_false_iff_ne, bne_eq_false_iff_eq, ne_eq, Decidable.not_not] at h4
          refine J_skip ?_
          refine JN_then ?_
          refine J_seq ?_
          refine J_block ?_
          refine J_seq (J_reg [] (
              .cons (.no) _ _ (op_move (Lk.t rfl)) <|
              .cons (.no) _ _ (op_move (Lk.t rfl)) <|
              .cons (.no) _ _ (op_index_sk (mk := prtU) prtD sl22 prtU_len (Lk.t rfl) (Lk.t rfl) (by omega) (by omega)) <|
              .cons (.no) _ _ (op_field_ptr fd41_2 (Lk.t rfl) rfl) <|
              .cons (.no) _ _ (op_load_sc sc39 (Lk.t rfl) rfl) <|
              .cons (.no) _ _ (op_call (f_ok (goodL_at hb (by omega)).1) ⟨(Lk.t rfl),  trivial⟩) <|
              .cons (.no) _ _ (op_fcmp (by simp) (Lk.t rfl) (Lk.fk rfl (by decide +kernel)) rfl) <|
              .cons (.no) _ _ (op_move (Lk.t rfl)) <|
              .cons (.no) _ _ (op_guard rfl rfl (gd_b rfl) (fun hC => (op_move (Lk.t rfl)))) <|
              .cons (.no) _ _ (op_guard rfl rfl (gd_b rfl) (fun hC => (op_move (Lk.t rfl)))) <|
              .cons (.no) _ _ (op_guard rfl rfl (gd_b rfl) (fun hC => (op_index_sk (mk := prtU) prtD sl22 prtU_len (Lk.w rfl hC) (Lk.w rfl hC) (by omega) (by omega)))) <|
              .cons (.no) _ _ (op_guard rfl rfl (gd_b rfl) (fun hC => (op_field_ptr fd41_2 (Lk.w rfl hC) rfl))) <|
              .cons (.no) _ _ (op_guard rfl rfl (gd_b rfl) (fun hC => (op_load_sc sc39 (Lk.w rfl hC) rfl))) <|
              .cons (.no) _ _ (op_guard rfl rfl (gd_b rfl) (fun hC => (op_call (f_ok (goodL_at hb (by omega)).1) ⟨(Lk.w rfl hC),  trivial⟩))) <|
              .cons (.no) _ _ (op_guard rfl rfl (gd_b rfl) (fun hC => (op_call (ldexpM100) ⟨(Lk.fk rfl (by decide +kernel)), (Lk.k rfl),  trivial⟩))) <|
              .cons (.no) _ _ (op_guard rfl rfl (gd_b rfl) (fun hC => (op_fcmp (by simp) (Lk.w rfl hC) (Lk.w rfl hC) rfl))) <|
              .cons (.no) _ _ (op_and (Lk.t rfl) (fun h2 => (Lk.w rfl h2))) <|
              .nil) ff rfl fun g12 => ⟨_, _, [0, 1], rfl, (.cons 0 rfl <| .cons 1 rfl <| .cons 6 rfl <| .cons 8 rfl <| .cons 10 rfl <| .cons 12 rfl <| .cons 94 rfl <| .nil), (.cons 0 rfl <| .cons 1 rfl <| .nil), ?_⟩)
          refine JN_then ?_
          refine J_cond (cond_of (Lk.t rfl)) (fun h5 => ?_) (fun h5 => ?_)
          · have h5' := h5
            try simp only [cmpB, Bool.and_eq_true, Bool.or_eq_true, Bool.and_eq_false_iff, Bool.or_eq_false_iff, Bool.not_eq_true', Bool.not_eq_false', Bool.not_eq_true, Bool.not_eq_false, decide_eq_true_eq, decide_eq_false_iff_not, Int.not_lt, Int.not_le, beq_iff_eq, bne_iff_ne, beq_eq_false_iff_ne, bne_eq_false_iff_eq, ne_eq, Decidable.not_not] at h5
            refine J_seq (J_reg [] (
                .cons (.no) _ _ (op_assign (Lk.k rfl)) <|
                .nil) ff rfl fun g13 => ⟨_, _, [], rfl, (.cons 4 rfl <| .nil), (.nil), ?_⟩)
            refine JN_then ?_
            refine J_ret ?_
            refine JN_block_ret ?_
            refine JN_then_ret ?_
            refine JN_then_ret ?_
            refine JN_block_ret ?_
            refine JN_then_ret ?_
            refine JN_ret (.cons (.tmp (Lk.t rfl)) <| .nil) (sb_trans (sb_res1 sb_refl) ?_)
            exact sb_refl
          · have h5' := h5
            try simp only [cmpB, Bool.and_eq_true, Bool.or_eq_true, Bool.and_eq_false_iff, Bool.or_eq_false_iff, Bool.not_eq_true', Bool.not_eq_false', Bool.not_eq_true, Bool.not_eq_false, decide_eq_true_eq, decide_eq_false_iff_not, Int.not_lt, Int.not_le, beq_iff_eq, bne_iff_ne, beq_eq_false_iff_ne, bne_eq_false_iff_eq, ne_eq, Decidable.not_not] at h5
            have hlk : fcmp .neq (cn (ls.getD k prtD).n) 0 = false ∨ fcmp .lss (cn (ls.getD k prtD).n) M100 = false := h5
            refine J_skip ?_
            refine JN_block ?_
            refine JN_then ?_
            refine (J_reg [] (
                .cons (.no) _ _ (op_move (Lk.t rfl)) <|
                .cons (.no) _ _ (op_add (Lk.t rfl) (Lk.k rfl) (wrap_id (by omega) (by omega))) <|
                .cons (.no) _ _ (op_assign (Lk.t rfl)) <|
                .nil) ff rfl fun g14 => ⟨_, _, [0, 1], rfl, (.cons 0 rfl <| .cons 1 rfl <| .cons 6 rfl <| .cons 8 rfl <| .cons 10 rfl <| .cons 12 rfl <| .nil), (.cons 0 rfl <| .cons 1 rfl <| .nil), ?_⟩)
            exact JN_again (k + 1) (by exact ⟨by omega, loudTo_step hp hlk⟩) (by omega) (To.pick (fun _ => .sub (t := 12) rfl (sp_eq (by rfl)) <| .cons 0 rfl <| .cons 1 rfl <| .cons 6 rfl <| .cons 8 rfl <| .cons 10 rfl <| .nil) (fun _ => .cons 0 rfl <| .cons 1 rfl <| .nil) (ks := [0, 1]) rfl)
        · have h4' := h4
          try simp only [cmpB, Bool.and_eq_true, Bool.or_eq_true, Bool.and_eq_false_iff, Bool.or_eq_false_iff, Bool.not_eq_true', Bool.not_eq_false', Bool.not_eq_true, Bool.not_eq_false, decide_eq_true_eq, decide_eq_false_iff_not, Int.not_lt, Int.not_le, beq_iff_eq, bne_iff_ne, beq_eq_false_iff_ne, bne_eq_false_iff_eq, ne_eq, Decidable.not_not] at h4
          refine J_exit ?_
          refine JN_then_exit ?_
          refine JN_then_exit ?_
          refine JN_exit_here ?_
          refine JN_then ?_
          refine J_seq ?_
          refine J_seq (J_reg [] (
              .cons (.no) _ _ (op_move (Lk.t rfl)) <|
              .cons (.no) _ _ (op_cmp (by simp) (Lk.t rfl) (Lk.k rfl) rfl) <|
              .nil) ff rfl fun g15 => ⟨_, _, [0, 1], rfl, (.cons 6 rfl <| .cons 8 rfl <| .cons 10 rfl <| .cons 96 rfl <| .nil), (.cons 0 rfl <| .cons 1 rfl <| .nil), ?_⟩)
          refine JN_then ?_
          refine J_cond (cond_of (Lk.t rfl)) (fun h6 => ?_) (fun h6 => ?_)
          · have h6' := h6
            try simp only [cmpB, Bool.and_eq_true, Bool.or_eq_true, Bool.and_eq_false_iff, Bool.or_eq_false_iff, Bool.not_eq_true', Bool.not_eq_false', Bool.not_eq_true, Bool.not_eq_false, decide_eq_true_eq, decide_eq_false_iff_not, Int.not_lt, Int.not_le, beq_iff_eq, bne_iff_ne, beq_eq_false_iff_ne, bne_eq_false_iff_eq, ne_eq, Decidable.not_not] at h6
            refine J_seq (J_reg [] (
                .cons (.no) _ _ (op_assign (Lk.k rfl)) <|
                .nil) ff rfl fun g16 => ⟨_, _, [], rfl, (.cons 4 rfl <| .nil), (.nil), ?_⟩)
            refine JN_then ?_
            refine J_ret ?_
            refine JN_then_ret ?_
            refine JN_ret (.cons (.tmp (Lk.t rfl)) <| .nil) (sb_trans (sb_res1 sb_refl) ?_)
            exact sb_refl
          · have h6' := h6
            try simp only [cmpB, Bool.and_eq_true, Bool.or_eq_true, Bool.and_eq_false_iff, Bool.or_eq_false_iff, Bool.not_eq_true', Bool.not_eq_false', Bool.not_eq_true, Bool.not_eq_false, decide_eq_true_eq, decide_eq_false_iff_not, Int.not_lt, Int.not_le, beq_iff_eq, bne_iff_ne, beq_eq_false_iff_ne, bne_eq_false_iff_eq, ne_eq, Decidable.not_not] at h6
            obtain rfl : k = ls.length := by omega
            have hM := hM0 (by omega) hp
            refine J_skip ?_
            refine JN_then ?_
            refine J_seq ?_
            refine J_seq (J_reg [] (
                .cons (.no) _ _ (op_assign (Lk.k rfl)) <|
                .nil) ff rfl fun g17 => ⟨_, _, [0, 1], rfl, (.cons 6 rfl <| .cons 8 rfl <| .cons 10 rfl <| .cons 13 rfl <| .nil), (.cons 0 rfl <| .cons 1 rfl <| .nil), ?_⟩)
            refine JN_then ?_
            refine J_block ?_
            refine J_loopc (α := Nat) (fun i => (i : Int) ≤ n) (fun i => n.toNat - i) (fun i restR => (13, isv (.int .i64 (i : Int))) :: restR) (fun i restS => restS) (ρc := [(6, _), (8, _), (10, _)]) (σc := [_, _]) 0 (by omega) (To.pick (fun _ => .sub (t := 13) rfl (sp_eq (by rfl)) <| .cons 6 rfl <| .cons 8 rfl <| .cons 10 rfl <| .nil) (fun _ => .cons 0 rfl <| .cons 1 rfl <| .nil) (ks := [0, 1]) rfl) (fun i hI => ?_)
            refine J_seq ?_
            refine J_seq (J_reg [] (
                .cons (.no) _ _ (op_move (Lk.t rfl)) <|
                .cons (.no) _ _ (op_move (Lk.t rfl)) <|
                .cons (.no) _ _ (op_cmp (by simp) (Lk.t rfl) (Lk.t rfl) rfl) <|
                .nil) ff rfl fun g18 => ⟨_, _, [0, 1], rfl, (.cons 6 rfl <| .cons 8 rfl <| .cons 10 rfl <| .cons 13 rfl <| .cons 99 rfl <| .nil), (.cons 0 rfl <| .cons 1 rfl <| .nil), ?_⟩)
            refine JN_then ?_
            refine J_cond (cond_of (Lk.t rfl)) (fun h7 => ?_) (fun h7 => ?_)
            · have h7' := h7
              try simp only [cmpB, Bool.and_eq_true, Bool.or_eq_true, Bool.and_eq_false_iff, Bool.or_eq_false_iff, Bool.not_eq_true', Bool.not_eq_false', Bool.not_eq_true, Bool.not_eq_false, decide_eq_true_eq, decide_eq_false_iff_not, Int.not_lt, Int.not_le, beq_iff_eq, bne_iff_ne, beq_eq_false_iff_ne, bne_eq_false_iff_eq, ne_eq, Decidable.not_not] at h7
              refine J_skip ?_
              refine JN_then ?_
              refine J_seq ?_
              refine J_block ?_
              refine J_seq (J_reg [] (
                  .cons (.no) _ _ (op_assign (Lk.k rfl)) <|
                  .nil) ff rfl fun g19 => ⟨_, _, [0, 1], rfl, (.cons 6 rfl <| .cons 8 rfl <| .cons 10 rfl <| .cons 13 rfl <| .cons 14 rfl <| .nil), (.cons 0 rfl <| .cons 1 rfl <| .nil), ?_⟩)
              refine JN_then ?_
              refine J_block ?_
              refine J_loopc (α := Nat) (fun j => (j : Int) ≤ n) (fun j => n.toNat - j) (fun j restR => (14, isv (.int .i64 (j : Int))) :: restR) (fun j restS => restS) (ρc := [(6, _), (8, _), (10, _), (13, _)]) (σc := [_, _]) 0 (by omega) (To.pick (fun _ => .sub (t := 14) rfl (sp_eq (by rfl)) <| .cons 6 rfl <| .cons 8 rfl <| .cons 10 rfl <| .cons 13 rfl <| .nil) (fun _ => .cons 0 rfl <| .cons 1 rfl <| .nil) (ks := [0, 1]) rfl) (fun j hI => ?_)
              refine J_seq ?_
              refine J_seq (J_reg [] (
                  .cons (.no) _ _ (op_move (Lk.t rfl)) <|
                  .cons (.no) _ _ (op_move (Lk.t rfl)) <|
                  .cons (.no) _ _ (op_cmp (by simp) (Lk.t rfl) (Lk.t rfl) rfl) <|
                  .nil) ff rfl fun g20 => ⟨_, _, [0, 1], rfl, (.cons 6 rfl <| .cons 8 rfl <| .cons 10 rfl <| .cons 13 rfl <| .cons 14 rfl <| .cons 104 rfl <| .nil), (.cons 0 rfl <| .cons 1 rfl <| .nil), ?_⟩)
              refine JN_then ?_
              refine J_cond (cond_of (Lk.t rfl)) (fun h8 => ?_) (fun h8 => ?_)
              · have h8' := h8
                try simp only [cmpB, Bool.and_eq_true, Bool.or_eq_true, Bool.and_eq_false_iff, Bool.or_eq_false_iff, Bool.not_eq_true', Bool.not_eq_false', Bool.not_eq_true, Bool.not_eq_false, decide_eq_true_eq, decide_eq_false_iff_not, Int.not_lt, Int.not_le, beq_iff_eq, bne_iff_ne, beq_eq_false_iff_ne, bne_eq_false_iff_eq, ne_eq, Decidable.not_not] at h8
                have hrs := hM.x i j ⟨by omega, by omega, by omega, by omega⟩
                obtain ⟨ri0, ri1, ri2⟩ := row_rng (n := n) (i := i) (by omega)
                obtain ⟨rj0, rj1, rj2⟩ := row_rng (n := n) (i := j) (by omega)
                refine J_skip ?_
                refine JN_then ?_
                refine J_seq ?_
                refine J_block ?_
                refine J_seq ?_
                refine J_seq (J_reg [] (
                    .cons (.no) _ _ (op_move (Lk.t rfl)) <|
                    .cons (.no) _ _ (op_move (Lk.t rfl)) <|
                    .cons (.no) _ _ (op_cmp (by simp) (Lk.t rfl) (Lk.t rfl) rfl) <|
                    .cons (.no) _ _ (op_move (Lk.t rfl)) <|
                    .cons (.rd 1) _ _ (op_guard rfl rfl (gd_b rfl) (fun hC => (op_get_ag 1 ag34 (Lk.t rfl) rfl mem_blk rfl rfl))) <|
                    .cons (.no) _ _ (op_guard rfl rfl (gd_b rfl) (fun hC => (op_move (Lk.t rfl)))) <|
                    .cons (.no) _ _ (op_guard rfl rfl (gd_b rfl) (fun hC => (op_move (Lk.t rfl)))) <|
                    .cons (.no) _ _ (op_guard rfl rfl (gd_b rfl) (fun hC => (op_call (at_ok (by assumption) ⟨by omega, by omega, by omega, by omega⟩) ⟨(Lk.w rfl hC), (Lk.w rfl hC), (Lk.w rfl hC),  trivial⟩))) <|
                    .cons (.no) _ _ (op_guard rfl rfl (gd_b rfl) (fun hC => (op_fcmp (by simp) (Lk.w rfl hC) (Lk.fk rfl (by decide +kernel)) rfl))) <|
                    .cons (.no) _ _ (op_and (Lk.t rfl) (fun h2 => (Lk.w rfl h2))) <|
                    .nil) ff rfl fun g21 => ⟨_, _, [0, 1], rfl, (.cons 6 rfl <| .cons 8 rfl <| .cons 10 rfl <| .cons 13 rfl <| .cons 14 rfl <| .cons 116 rfl <| .nil), (.cons 0 rfl <| .cons 1 rfl <| .nil), ?_⟩)
                refine JN_then ?_
                refine J_cond (cond_of (Lk.t rfl)) (fun h9 => ?_) (fun h9 => ?_)
                · have h9' := h9
                  try simp only [cmpB, Bool.and_eq_true, Bool.or_eq_true, Bool.and_eq_false_iff, Bool.or_eq_false_iff, Bool.not_eq_true', Bool.not_eq_false', Bool.not_eq_true, Bool.not_eq_false, decide_eq_true_eq, decide_eq_false_iff_not, Int.not_lt, Int.not_le, beq_iff_eq, bne_iff_ne, beq_eq_false_iff_ne, bne_eq_false_iff_eq, ne_eq, Decidable.not_not] at h9
                  exact absurd h9' (by rw [hM.z i j ⟨by omega, by omega, by omega, by omega⟩ (by omega), Bool.and_false]; decide)
                · have h9' := h9
                  try simp only [cmpB, Bool.and_eq_true, Bool.or_eq_true, Bool.and_eq_false_iff, Bool.or_eq_false_iff, Bool.not_eq_true', Bool.not_eq_false', Bool.not_eq_true, Bool.not_eq_false, decide_eq_true_eq, decide_eq_false_iff_not, Int.not_lt, Int.not_le, beq_iff_eq, bne_iff_ne, beq_eq_false_iff_ne, bne_eq_false_iff_eq, ne_eq, Decidable.not_not] at h9
                  refine J_skip ?_
                  refine JN_then ?_
                  refine J_to (To.emps 1) ?_
                  refine J_seq (J_reg [[], [0], [], [], [2, 3], [], [5], [], [5, 6, 7], [0, 1, 2, 3, 4, 5, 6, 7, 8], [], [10], [], [], [12, 13], [], [15], [], [15, 16, 17], [10, 11, 12, 13, 14, 15, 16, 17, 18], [0, 1, 2, 3, 4, 5, 6, 7, 8, 9, 10, 11, 12, 13, 14, 15, 16, 17, 18, 19], [], [], [], [0, 1, 2, 3, 4, 5, 6, 7, 8, 9, 10, 11, 12, 13, 14, 15, 16, 17, 18, 19, 20, 21, 22, 23], [0, 1, 2, 3, 4, 5, 6, 7, 8, 9, 10, 11, 12, 13, 14, 15, 16, 17, 18, 19, 20, 21, 22, 23, 24], [0, 1, 2, 3, 4, 5, 6, 7, 8, 9, 10, 11, 12, 13, 14, 15, 16, 17, 18, 19, 20, 21, 22, 23, 24, 25], [0, 1, 2, 3, 4, 5, 6, 7, 8, 9, 10, 11, 12, 13, 14, 15, 16, 17, 18, 19, 20, 21, 22, 23, 24, 25, 26], [], [0, 1, 2, 3, 4, 5, 6, 7, 8, 9, 10, 11, 12, 13, 14, 15, 16, 17, 18, 19, 20, 21, 22, 23, 24, 25, 26, 27, 28]] (
                      .cons (.no) _ _ (op_field_own fd34_2 (Lk.t rfl) rfl) <|
                      .cons (.rd 1) _ _ (op_get_sc 1 sc32 (Lk.t rfl) rfl mem_blk rfl) <|
                      .cons (.no) _ _ (op_move (Lk.t rfl)) <|
                      .cons (.no) _ _ (op_move (Lk.t rfl)) <|
                      .cons (.no) _ _ (op_mul (Lk.t rfl) (Lk.t rfl) (wrap_id (by omega) (by omega))) <|
                      .cons (.no) _ _ (op_move (Lk.t rfl)) <|
                      .cons (.no) _ _ (op_add (Lk.t rfl) (Lk.k rfl) (wrap_id (by omega) (by omega))) <|
                      .cons (.no) _ _ (op_move (Lk.t rfl)) <|
                      .cons (.no) _ _ (op_mul (Lk.t rfl) (Lk.t rfl) (wrap_id (by omega) (by omega))) <|
                      .cons (.no) _ _ (op_slice_m sl32 (Lk.t rfl) (Lk.t rfl) (Lk.t rfl) (by omega) (by omega) (by omega)) <|
                      .cons (.no) _ _ (op_field_own fd34_2 (Lk.t rfl) rfl) <|
                      .cons (.rd 1) _ _ (op_get_sc 1 sc32 (Lk.t rfl) rfl mem_blk rfl) <|
                      .cons (.no) _ _ (op_move (Lk.t rfl)) <|
                      .cons (.no) _ _ (op_move (Lk.t rfl)) <|
                      .cons (.no) _ _ (op_mul (Lk.t rfl) (Lk.t rfl) (wrap_id (by omega) (by omega))) <|
                      .cons (.no) _ _ (op_move (Lk.t rfl)) <|
                      .cons (.no) _ _ (op_add (Lk.t rfl) (Lk.k rfl) (wrap_id (by omega) (by omega))) <|
                      .cons (.no) _ _ (op_move (Lk.t rfl)) <|
                      .cons (.no) _ _ (op_mul (Lk.t rfl) (Lk.t rfl) (wrap_id (by omega) (by omega))) <|
                      .cons (.no) _ _ (op_slice_m sl32 (Lk.t rfl) (Lk.t rfl) (Lk.t rfl) (by omega) (by omega) (by omega)) <|
                      .cons (.no) _ _ (op_call (xdotr_ok gG0 (by omega) (by omega) (by omega) (by omega) hrs.hD) ⟨(Lk.t rfl), (Lk.t rfl),  trivial⟩) <|
                      .cons (.rd 0) _ _ (op_get_ag 0 ag34 (Lk.t rfl) rfl mem_blk rfl rfl) <|
                      .cons (.no) _ _ (op_move (Lk.t rfl)) <|
                      .cons (.no) _ _ (op_move (Lk.t rfl)) <|
                      .cons (.no) _ _ (op_call (at_ok (by assumption) ⟨by omega, by omega, by omega, by omega⟩) ⟨(Lk.t rfl), (Lk.t rfl), (Lk.t rfl),  trivial⟩) <|
                      .cons (.no) _ _ (op_call (xof_ok hrs.f) ⟨(Lk.t rfl),  trivial⟩) <|
                      .cons (.no) _ _ (op_call (xneg_ok hrs.bq) ⟨(Lk.t rfl),  trivial⟩) <|
                      .cons (.no) _ _ (op_call (xadd_ok hrs.bd hrs.bn hrs.ba) ⟨(Lk.t rfl), (Lk.t rfl),  trivial⟩) <|
                      .cons (.wr 2) _ _ (op_alloc 2 zr61 rfl rfl) <|
                      .cons (.wr 2) _ _ (op_store_new 2 rfl (Lk.t rfl) co_agg sz61 rfl rfl) <|
                      .nil) (fun _ => mixed) rfl fun g22 => ⟨_, _, [0, 1, 2], rfl, (.cons 6 rfl <| .cons 8 rfl <| .cons 10 rfl <| .cons 13 rfl <| .cons 14 rfl <| .cons 15 rfl <| .nil), (.cons 0 rfl <| .cons 1 rfl <| .cons 2 rfl <| .nil), ?_⟩)
                  refine JN_then ?_
                  refine J_to (To.emps 1) ?_
                  refine J_seq (J_reg [[], [], [], [0, 1, 2], [0, 1, 2, 3], [], [], [], [0, 1, 2, 3, 4, 5, 6, 7], [0, 1, 2, 3, 4, 5, 6, 7, 8], [0, 1, 2, 3, 4, 5, 6, 7, 8, 9], [0, 1, 2, 3, 4, 5, 6, 7, 8, 9, 10], [0, 1, 2, 3, 4, 5, 6, 7, 8, 9, 10, 11], [], [0, 1, 2, 3, 4, 5, 6, 7, 8, 9, 10, 11, 12, 13]] (
                      .cons (.rd 0) _ _ (op_get_ag 0 ag34 (Lk.t rfl) rfl mem_blk rfl rfl) <|
                      .cons (.no) _ _ (op_move (Lk.t rfl)) <|
                      .cons (.no) _ _ (op_move (Lk.t rfl)) <|
                      .cons (.no) _ _ (op_call (at_ok (by assumption) ⟨by omega, by omega, by omega, by omega⟩) ⟨(Lk.t rfl), (Lk.t rfl), (Lk.t rfl),  trivial⟩) <|
                      .cons (.no) _ _ (op_call (xof_ok hrs.fi) ⟨(Lk.t rfl),  trivial⟩) <|
                      .cons (.rd 0) _ _ (op_get_ag 0 ag34 (Lk.t rfl) rfl mem_blk rfl rfl) <|
                      .cons (.no) _ _ (op_move (Lk.t rfl)) <|
                      .cons (.no) _ _ (op_move (Lk.t rfl)) <|
                      .cons (.no) _ _ (op_call (at_ok (by assumption) ⟨by omega, by omega, by omega, by omega⟩) ⟨(Lk.t rfl), (Lk.t rfl), (Lk.t rfl),  trivial⟩) <|
                      .cons (.no) _ _ (op_call (xof_ok hrs.fj) ⟨(Lk.t rfl),  trivial⟩) <|
                      .cons (.no) _ _ (op_call (xmul_ok hrs.bi hrs.bj) ⟨(Lk.t rfl), (Lk.t rfl),  trivial⟩) <|
                      .cons (.no) _ _ (op_call (xpow_ok) ⟨(Lk.k rfl),  trivial⟩) <|
                      .cons (.no) _ _ (op_call (xmul_ok hrs.bij hrs.bp) ⟨(Lk.t rfl), (Lk.t rfl),  trivial⟩) <|
                      .cons (.wr 3) _ _ (op_alloc 3 zr61 rfl rfl) <|
                      .cons (.wr 3) _ _ (op_store_new 3 rfl (Lk.t rfl) co_agg sz61 rfl rfl) <|
                      .nil) (fun _ => mixed) rfl fun g23 => ⟨_, _, [0, 1, 2, 3], rfl, (.cons 6 rfl <| .cons 8 rfl <| .cons 10 rfl <| .cons 13 rfl <| .cons 14 rfl <| .cons 15 rfl <| .cons 16 rfl <| .nil), (.cons 0 rfl <| .cons 1 rfl <| .cons 2 rfl <| .cons 3 rfl <| .nil), ?_⟩)
                  refine JN_then ?_
                  refine J_seq (J_reg [[], [], [0, 1], [], [0, 1, 2, 3], [0, 1, 2, 3, 4]] (
                      .cons (.rd 2) _ _ (op_get_ag 2 ag61 (Lk.t rfl) rfl mem_blk rfl rfl) <|
                      .cons (.rd 2) _ _ (op_get_ag 2 ag61 (Lk.t rfl) rfl mem_blk rfl rfl) <|
                      .cons (.no) _ _ (op_call (xmul_ok hrs.bD hrs.bD) ⟨(Lk.t rfl), (Lk.t rfl),  trivial⟩) <|
                      .cons (.rd 3) _ _ (op_get_ag 3 ag61 (Lk.t rfl) rfl mem_blk rfl rfl) <|
                      .cons (.no) _ _ (op_call (xcmp_ok hrs.bDD hrs.bR hrs.bRn hrs.bl) ⟨(Lk.t rfl), (Lk.t rfl),  trivial⟩) <|
                      .cons (.no) _ _ (op_cmp (by simp) (Lk.t rfl) (Lk.k rfl) rfl) <|
                      .nil) (fun _ => mixed) rfl fun g24 => ⟨_, _, [0, 1], rfl, (.cons 6 rfl <| .cons 8 rfl <| .cons 10 rfl <| .cons 13 rfl <| .cons 14 rfl <| .cons 163 rfl <| .nil), (.cons 0 rfl <| .cons 1 rfl <| .nil), ?_⟩)
                  refine JN_then ?_
                  refine J_cond (cond_of (Lk.t rfl)) (fun h10 => ?_) (fun h10 => ?_)
                  · have h10' := h10
                    try simp only [cmpB, Bool.and_eq_true, Bool.or_eq_true, Bool.and_eq_false_iff, Bool.or_eq_false_iff, Bool.not_eq_true', Bool.not_eq_false', Bool.not_eq_true, Bool.not_eq_false, decide_eq_true_eq, decide_eq_false_iff_not, Int.not_lt, Int.not_le, beq_iff_eq, bne_iff_ne, beq_eq_false_iff_ne, bne_eq_false_iff_eq, ne_eq, Decidable.not_not] at h10
                    exact absurd h10 hrs.law
                  · have h10' := h10
                    try simp only [cmpB, Bool.and_eq_true, Bool.or_eq_true, Bool.and_eq_false_iff, Bool.or_eq_false_iff, Bool.not_eq_true', Bool.not_eq_false', Bool.not_eq_true, Bool.not_eq_false, decide_eq_true_eq, decide_eq_false_iff_not, Int.not_lt, Int.not_le, beq_iff_eq, bne_iff_ne, beq_eq_false_iff_ne, bne_eq_false_iff_eq, ne_eq, Decidable.not_not] at h10
                    refine J_skip ?_
                    refine JN_block ?_
                    refine JN_then ?_
                    refine (J_reg [] (
                        .cons (.no) _ _ (op_move (Lk.t rfl)) <|
                        .cons (.no) _ _ (op_add (Lk.t rfl) (Lk.k rfl) (wrap_id (by omega) (by omega))) <|
                        .cons (.no) _ _ (op_assign (Lk.t rfl)) <|
                        .nil) ff rfl fun g25 => ⟨_, _, [0, 1], rfl, (.cons 6 rfl <| .cons 8 rfl <| .cons 10 rfl <| .cons 13 rfl <| .cons 14 rfl <| .nil), (.cons 0 rfl <| .cons 1 rfl <| .nil), ?_⟩)
                    exact JN_again (j + 1) (by omega) (by omega) (To.pick (fun _ => .sub (t := 14) rfl (sp_eq (by rfl)) <| .cons 6 rfl <| .cons 8 rfl <| .cons 10 rfl <| .cons 13 rfl <| .nil) (fun _ => .cons 0 rfl <| .cons 1 rfl <| .nil) (ks := [0, 1]) rfl)
              · have h8' := h8
                try simp only [cmpB, Bool.and_eq_true, Bool.or_eq_true, Bool.and_eq_false_iff, Bool.or_eq_false_iff, Bool.not_eq_true', Bool.not_eq_false', Bool.not_eq_true, Bool.not_eq_false, decide_eq_true_eq, decide_eq_false_iff_not, Int.not_lt, Int.not_le, beq_iff_eq, bne_iff_ne, beq_eq_false_iff_ne, bne_eq_false_iff_eq, ne_eq, Decidable.not_not] at h8
                refine J_exit ?_
                refine JN_then_exit ?_
                refine JN_then_exit ?_
                refine JN_exit_here ?_
                refine JN_block ?_
                refine JN_then ?_
                refine (J_reg [] (
                    .cons (.no) _ _ (op_move (Lk.t rfl)) <|
                    .cons (.no) _ _ (op_add (Lk.t rfl) (Lk.k rfl) (wrap_id (by omega) (by omega))) <|
                    .cons (.no) _ _ (op_assign (Lk.t rfl)) <|
                    .nil) ff rfl fun g26 => ⟨_, _, [0, 1], rfl, (.cons 6 rfl <| .cons 8 rfl <| .cons 10 rfl <| .cons 13 rfl <| .nil), (.cons 0 rfl <| .cons 1 rfl <| .nil), ?_⟩)
                exact JN_again (i + 1) (by omega) (by omega) (To.pick (fun _ => .sub (t := 13) rfl (sp_eq (by rfl)) <| .cons 6 rfl <| .cons 8 rfl <| .cons 10 rfl <| .nil) (fun _ => .cons 0 rfl <| .cons 1 rfl <| .nil) (ks := [0, 1]) rfl)
            · have h7' := h7
              try simp only [cmpB, Bool.and_eq_true, Bool.or_eq_true, Bool.and_eq_false_iff, Bool.or_eq_false_iff, Bool.not_eq_true', Bool.not_eq_false', Bool.not_eq_true, Bool.not_eq_false, decide_eq_true_eq, decide_eq_false_iff_not, Int.not_lt, Int.not_le, beq_iff_eq, bne_iff_ne, beq_eq_false_iff_ne, bne_eq_false_iff_eq, ne_eq, Decidable.not_not] at h7
              refine J_exit ?_
              refine JN_then_exit ?_
              refine JN_then_exit ?_
              refine JN_exit_here ?_
              refine JN_then ?_
              refine J_seq (J_reg [] (
                  .cons (.no) _ _ (op_assign (Lk.k rfl)) <|
                  .nil) ff rfl fun g27 => ⟨_, _, [], rfl, (.cons 4 rfl <| .nil), (.nil), ?_⟩)
              refine JN_then ?_
              refine J_ret ?_
              refine JN_ret (.cons (.tmp (Lk.t rfl)) <| .nil) (sb_trans (sb_res1 sb_refl) ?_)
              exact sb_refl
end Go.Proofs.Ytcnffgbncbadbaa
