/- Printed by a program of ours (walk.py): walks of the blocks of a motion. -/
import Derived.Test.YtjfkpnacfnnkhaaDoorKb
import Derived.Test.YtjfkpnacfnnkhaaDoorProg
import Derived.KernelRfl
import Derived.Test.YtjfkpnacfnnkhaaDoorTypes
import Derived.Test.YtjfkpnacfnnkhaaDoorWModel
set_option linter.unusedVariables false
set_option linter.unusedSimpArgs false
set_option maxRecDepth 20000
set_option maxHeartbeats 1000000
namespace Go.Proofs.YtjfkpnacfnnkhaaDoor
open Go Go.Bn
attribute [local irreducible] OpOK
theorem mblk_ok {ps : List Prt} {t : Int} {g : BF} (hb : BOk g) : Ct Tryd.prog 25 [MotP ps, isv (.int .i64 t), fnq Tryd.prog (α := Prt × Nat) (fun _ => True) (fun i => [aggp (prtC i.1), flp i.2]) (fun i => slm (slm flp) (g i.1 i.2))] (resM (blkM g ps t)) := by
  refine Ct.of Tryd.func25 rfl (by kernel_rfl) rfl fun c0 => ?_
  refine J_lenP 0 rfl fun hlen => ?_
  refine J_to (To.emps 2) ?_
  refine J_seq (J_reg [] (
      .cons (.wr 0) _ _ (op_box 0 (Lk.t rfl) co_agg rfl) <|
      .cons (.wr 1) _ _ (op_alloc 1 zr34 rfl rfl) <|
      .cons (.no) _ _ (op_assign (Lk.k rfl)) <|
      .nil) ff rfl fun g1 => ⟨_, _, [0, 1], rfl, (.cons 1 rfl <| .cons 2 rfl <| .cons 3 rfl <| .cons 6 rfl <| .nil), (.cons 0 rfl <| .cons 1 rfl <| .nil), ?_⟩)
  refine JN_then ?_
  refine J_seq (J_reg [] (
      .cons (.rd 0) _ _ (op_get_ag 0 ag30 (Lk.t rfl) rfl mem_blk rfl rfl) <|
      .cons (.no) _ _ (op_call (mdim_ok) ⟨(Lk.t rfl),  trivial⟩) <|
      .cons (.no) _ _ (op_move (Lk.t rfl)) <|
      .cons (.no) _ _ (op_extract (Lk.t rfl) rfl) <|
      .cons (.no) _ _ (op_extract (Lk.t rfl) rfl) <|
      .cons (.no) _ _ (op_assign (Lk.t rfl)) <|
      .cons (.no) _ _ (op_assign (Lk.t rfl)) <|
      .nil) ff rfl fun g2 => ⟨_, _, [0, 1], rfl, (.cons 1 rfl <| .cons 2 rfl <| .cons 3 rfl <| .cons 6 rfl <| .cons 8 rfl <| .cons 9 rfl <| .nil), (.cons 0 rfl <| .cons 1 rfl <| .nil), ?_⟩)
  refine JN_then ?_
  refine J_seq ?_
  refine J_seq (J_reg [] (
      .cons (.no) _ _ (op_move (Lk.t rfl)) <|
      .cons (.no) _ _ (op_cmp (by simp) (Lk.t rfl) (Lk.k rfl) rfl) <|
      .nil) ff rfl fun g3 => ⟨_, _, [0, 1], rfl, (.cons 1 rfl <| .cons 2 rfl <| .cons 3 rfl <| .cons 6 rfl <| .cons 8 rfl <| .cons 9 rfl <| .cons 26 rfl <| .nil), (.cons 0 rfl <| .cons 1 rfl <| .nil), ?_⟩)
  refine JN_then ?_
  refine J_cond (cond_of (Lk.t rfl)) (fun h1 => ?_) (fun h1 => ?_)
  · have h1' := h1
    try simp only [cmpB, Bool.and_eq_true, Bool.or_eq_true, Bool.and_eq_false_iff, Bool.or_eq_false_iff, Bool.not_eq_true', Bool.not_eq_false', Bool.not_eq_true, Bool.not_eq_false, decide_eq_true_eq, decide_eq_false_iff_not, Int.not_lt, Int.not_le, beq_iff_eq, bne_iff_ne, beq_eq_false_iff_ne, bne_eq_false_iff_eq, ne_eq, Decidable.not_not] at h1
    rw [dimR_e] at h1
    refine J_seq (J_reg [] (
        .cons (.no) _ _ (op_build zr34 rfl pl34 .nil) <|
        .cons (.no) _ _ (op_move (Lk.t rfl)) <|
        .cons (.wr 1) _ _ (op_store_b 1 (Lk.t rfl) (Lk.t rfl) co_agg sz34 rfl rfl rfl) <|
        .cons (.no) _ _ (op_assign (Lk.t rfl)) <|
        .nil) ff rfl fun g4 => ⟨_, _, [1], rfl, (.cons 6 rfl <| .cons 7 rfl <| .nil), (.cons 1 rfl <| .nil), ?_⟩)
    refine JN_then ?_
    refine J_ret ?_
    refine JN_then_ret ?_
    refine JN_ret (.cons (.ag 0 (Lk.t rfl) ag34 rfl rfl rfl) <| .cons (.tmp (Lk.t rfl)) <| .nil) (sb_trans (sb_res (.cons (sb_agg (.cons sb_refl <| .cons sb_refl <| .cons (sb_nil (mk := flp)) <| .nil)) <| .cons sb_refl <| .nil)) ?_)
    rw [dimR_e]
    exact ret_M (blkM_1 h1)
  · have h1' := h1
    try simp only [cmpB, Bool.and_eq_true, Bool.or_eq_true, Bool.and_eq_false_iff, Bool.or_eq_false_iff, Bool.not_eq_true', Bool.not_eq_false', Bool.not_eq_true, Bool.not_eq_false, decide_eq_true_eq, decide_eq_false_iff_not, Int.not_lt, Int.not_le, beq_iff_eq, bne_iff_ne, beq_eq_false_iff_ne, bne_eq_false_iff_eq, ne_eq, Decidable.not_not] at h1
    rw [dimR_e] at h1
    obtain ⟨h0, hgd, htl⟩ := mot_good h1
    have htl0 := (tot_rng hgd).1
    have hda : (dimR ps).a = tot ps ps.length := by rw [dimR_ok h1]
    obtain ⟨n, hn⟩ : ∃ n, n = tot ps ps.length := ⟨_, rfl⟩
    rw [hda, ← hn]
    have hs : Siz n n := ⟨by omega, by omega, by omega, by omega⟩
    have hsq := sq_rng (n := n) (by omega) (by omega)
    refine J_skip ?_
    refine JN_then ?_
    refine J_seq ?_
    refine J_seq (J_reg [] (
        .cons (.no) _ _ (op_move (Lk.t rfl)) <|
        .cons (.no) _ _ (op_cmp (by simp) (Lk.t rfl) (Lk.k rfl) rfl) <|
        .cons (.no) _ _ (op_move (Lk.t rfl)) <|
        .cons (.no) _ _ (op_guard rfl rfl (gd_b rfl) (fun hC => (op_move (Lk.t rfl)))) <|
        .cons (.no) _ _ (op_guard rfl rfl (gd_b rfl) (fun hC => (op_cmp (by simp) (Lk.w rfl hC) (Lk.k rfl) rfl))) <|
        .cons (.no) _ _ (op_or (Lk.t rfl) (fun h2 => (Lk.w rfl h2))) <|
        .nil) ff rfl fun g5 => ⟨_, _, [0, 1], rfl, (.cons 1 rfl <| .cons 2 rfl <| .cons 3 rfl <| .cons 6 rfl <| .cons 8 rfl <| .cons 34 rfl <| .nil), (.cons 0 rfl <| .cons 1 rfl <| .nil), ?_⟩)
    refine JN_then ?_
    refine J_cond (cond_of (Lk.t rfl)) (fun h2 => ?_) (fun h2 => ?_)
    · have h2' := h2
      try simp only [cmpB, Bool.and_eq_true, Bool.or_eq_true, Bool.and_eq_false_iff, Bool.or_eq_false_iff, Bool.not_eq_true', Bool.not_eq_false', Bool.not_eq_true, Bool.not_eq_false, decide_eq_true_eq, decide_eq_false_iff_not, Int.not_lt, Int.not_le, beq_iff_eq, bne_iff_ne, beq_eq_false_iff_ne, bne_eq_false_iff_eq, ne_eq, Decidable.not_not] at h2
      refine J_seq (J_reg [] (
          .cons (.no) _ _ (op_build zr34 rfl pl34 .nil) <|
          .cons (.wr 1) _ _ (op_store_b 1 (Lk.t rfl) (Lk.t rfl) co_agg sz34 rfl rfl rfl) <|
          .cons (.no) _ _ (op_assign (Lk.k rfl)) <|
          .nil) ff rfl fun g6 => ⟨_, _, [1], rfl, (.cons 6 rfl <| .cons 7 rfl <| .nil), (.cons 1 rfl <| .nil), ?_⟩)
      refine JN_then ?_
      refine J_ret ?_
      refine JN_then_ret ?_
      refine JN_ret (.cons (.ag 0 (Lk.t rfl) ag34 rfl rfl rfl) <| .cons (.tmp (Lk.t rfl)) <| .nil) (sb_trans (sb_res (.cons (sb_agg (.cons sb_refl <| .cons sb_refl <| .cons (sb_nil (mk := flp)) <| .nil)) <| .cons sb_refl <| .nil)) ?_)
      exact ret_M (blkM_2 h1 h2)
    · have h2' := h2
      try simp only [cmpB, Bool.and_eq_true, Bool.or_eq_true, Bool.and_eq_false_iff, Bool.or_eq_false_iff, Bool.not_eq_true', Bool.not_eq_false', Bool.not_eq_true, Bool.not_eq_false, decide_eq_true_eq, decide_eq_false_iff_not, Int.not_lt, Int.not_le, beq_iff_eq, bne_iff_ne, beq_eq_false_iff_ne, bne_eq_false_iff_eq, ne_eq, Decidable.not_not] at h2
      refine J_skip ?_
      refine JN_then ?_
      refine J_seq (J_reg [] (
          .cons (.no) _ _ (op_move (Lk.t rfl)) <|
          .cons (.no) _ _ (op_call (secs_ok) ⟨(Lk.t rfl),  trivial⟩) <|
          .cons (.no) _ _ (op_move (Lk.t rfl)) <|
          .cons (.no) _ _ (op_extract (Lk.t rfl) rfl) <|
          .cons (.no) _ _ (op_extract (Lk.t rfl) rfl) <|
          .cons (.no) _ _ (op_assign (Lk.t rfl)) <|
          .cons (.no) _ _ (op_assign (Lk.t rfl)) <|
          .nil) ff rfl fun g7 => ⟨_, _, [0, 1], rfl, (.cons 2 rfl <| .cons 3 rfl <| .cons 6 rfl <| .cons 8 rfl <| .cons 10 rfl <| .nil), (.cons 0 rfl <| .cons 1 rfl <| .nil), ?_⟩)
      refine JN_then ?_
      refine J_to (To.emps 2) ?_
      refine J_seq (J_reg [] (
          .cons (.no) _ _ (op_move (Lk.t rfl)) <|
          .cons (.no) _ _ (op_move (Lk.t rfl)) <|
          .cons (.wr 2) _ _ (op_callF 2 (zeroF_ok hs) ⟨(Lk.t rfl), (Lk.t rfl),  trivial⟩ rfl) <|
          .cons (.no) _ _ (op_move_ve rfl rfl) <|
          .cons (.no) _ _ (op_ve 41 45 rfl rfl rfl (fun f => op_extract (Lk.t rfl) rfl) (fun f g h => by first | rfl | rw [h 44 (show 44 ∈ [44] from by decide)]) rfl) <|
          .cons (.no) _ _ (op_ve 41 46 rfl rfl rfl (fun f => op_extract (Lk.t rfl) rfl) (fun f g h => by first | rfl | rw [h 44 (show 44 ∈ [44] from by decide)]) rfl) <|
          .cons (.wr 3) _ _ (op_alloc 3 zr34 rfl rfl) <|
          .cons (.wr 3) _ _ (op_store_new_ve 3 rfl rfl rfl (fun f => co_agg) (fun f g h => by rw [h 44 (show 44 ∈ [44] from by decide)]) (fun _ => sz34) rfl (fun _ => rfl) rfl) <|
          .cons (.no) _ _ (op_assign_ve rfl rfl) <|
          .nil) ff rfl fun g8 => ⟨_, _, [0, 1, 2, 3], rfl, (.cons 2 rfl <| .cons 3 rfl <| .cons 6 rfl <| .cons 8 rfl <| .cons 10 rfl <| .cons 12 rfl <| .nil), (.cons 0 rfl <| .cons 1 rfl <| .cons 2 rfl <| .cons 3 rfl <| .nil), ?_⟩)
      refine JN_then ?_
      refine J_seq (J_reg [] (
          .cons (.no) _ _ (op_assign (Lk.k rfl)) <|
          .nil) ff rfl fun g9 => ⟨_, _, [0, 1, 2, 3], rfl, (.cons 2 rfl <| .cons 3 rfl <| .cons 6 rfl <| .cons 8 rfl <| .cons 10 rfl <| .cons 12 rfl <| .cons 14 rfl <| .nil), (.cons 0 rfl <| .cons 1 rfl <| .cons 2 rfl <| .cons 3 rfl <| .nil), ?_⟩)
      refine JN_then ?_
      refine J_seq ?_
      refine J_seq (J_reg [] (
          .cons (.no) _ _ (op_field_own fd30_0 (Lk.t rfl) rfl) <|
          .cons (.rd 0) _ _ (op_get_sc 0 sc28 (Lk.t rfl) rfl mem_blk rfl) <|
          .cons (.no) _ _ (op_len_sk sl28 (Lk.t rfl)) <|
          .cons (.no) _ _ (op_move (Lk.k rfl)) <|
          .nil) ff rfl fun g10 => ⟨_, _, [1, 2, 3], rfl, (.cons 2 rfl <| .cons 6 rfl <| .cons 8 rfl <| .cons 10 rfl <| .cons 12 rfl <| .cons 14 rfl <| .cons 48 rfl <| .cons 49 rfl <| .cons 50 rfl <| .nil), (.cons 1 rfl <| .cons 2 rfl <| .cons 3 rfl <| .nil), ?_⟩)
      refine JN_then ?_
      refine J_block ?_
      refine J_loopc (α := Nat) (fun k => k ≤ ps.length) (fun k => ((ps.length : Int)).toNat - k) (fun k restR => (50, isv (.int .i64 (k : Int))) :: (14, isv (.int .i64 (tot ps k))) :: restR) (fun k restS => som (agP (g8 44)) flp (layP g (secR t).a ps n k) 37 :: restS) (ρc := [(2, _), (6, _), (8, _), (10, _), (12, _), (48, _), (49, _)]) (σc := [_, _]) 0 (by exact Nat.zero_le _) (To.pick (fun _ => .sub (t := 50) rfl (sp_eq (by rfl)) <| .sub (t := 14) rfl (sp_eq (by rfl)) <| .cons 2 rfl <| .cons 6 rfl <| .cons 8 rfl <| .cons 10 rfl <| .cons 12 rfl <| .cons 48 rfl <| .cons 49 rfl <| .nil) (fun _ => .sub 1 rfl ((fun _ _ h => h)) <| .cons 0 rfl <| .cons 2 rfl <| .nil) (ks := [1, 0, 2]) rfl) (fun k hI => ?_)
      refine J_seq (J_reg [] (
          .cons (.no) _ _ (op_cmp (by simp) (Lk.t rfl) (Lk.t rfl) rfl) <|
          .nil) ff rfl fun g11 => ⟨_, _, [0, 1, 2], rfl, (.cons 2 rfl <| .cons 6 rfl <| .cons 8 rfl <| .cons 10 rfl <| .cons 12 rfl <| .cons 14 rfl <| .cons 48 rfl <| .cons 49 rfl <| .cons 50 rfl <| .cons 51 rfl <| .nil), (.cons 0 rfl <| .cons 1 rfl <| .cons 2 rfl <| .nil), ?_⟩)
      refine JN_then ?_
      refine J_seq ?_
      refine J_cond (cond_of (Lk.t rfl)) (fun h3 => ?_) (fun h3 => ?_)
      · have h3' := h3
        try simp only [cmpB, Bool.and_eq_true, Bool.or_eq_true, Bool.and_eq_false_iff, Bool.or_eq_false_iff, Bool.not_eq_true', Bool.not_eq_false', Bool.not_eq_true, Bool.not_eq_false, decide_eq_true_eq, decide_eq_false_iff_not, Int.not_lt, Int.not_le, beq_iff_eq, bne_iff_ne, beq_eq_false_iff_ne, bne_eq_false_iff_eq, ne_eq, Decidable.not_not] at h3
        have htr := tot_rng (ps := ps) (k := k) fun q hq => hgd q (by omega)
        have hpk : partE (ps.getD ((k : Nat) : Int).toNat prtD) = 0 := hgd k (by omega)
        obtain ⟨hp1, hp2, hp3, _⟩ := partE_good hpk
        have hor := (ordN_rng (ps.getD ((k : Nat) : Int).toNat prtD).k).2
        obtain ⟨hL, hR⟩ := hb (ps.getD ((k : Nat) : Int).toNat prtD) (secR t).a hp1
        refine J_skip ?_
        refine JN_then ?_
        refine J_seq ?_
        refine J_block ?_
        refine J_to (To.emps 1) ?_
        refine J_seq (J_reg [] (
            .cons (.no) _ _ (op_index_sk (mk := prtC) prtD sl28 prtC_len (Lk.t rfl) (Lk.t rfl) (by omega) (by omega)) <|
            .cons (.no) _ _ (op_load_ag ag51 (Lk.t rfl) rfl rfl) <|
            .cons (.wr 3) _ _ (op_alloc 3 zr51 rfl rfl) <|
            .cons (.wr 3) _ _ (op_store_new 3 rfl (Lk.t rfl) co_agg sz51 rfl rfl) <|
            .nil) ff rfl fun g12 => ⟨_, _, [0, 1, 2, 3], rfl, (.cons 2 rfl <| .cons 6 rfl <| .cons 8 rfl <| .cons 10 rfl <| .cons 12 rfl <| .cons 14 rfl <| .cons 16 rfl <| .cons 48 rfl <| .cons 49 rfl <| .cons 50 rfl <| .nil), (.cons 0 rfl <| .cons 1 rfl <| .cons 2 rfl <| .cons 3 rfl <| .nil), ?_⟩)
        refine JN_then ?_
        refine J_seq (J_reg [] (
            .cons (.no) _ _ (op_move (Lk.t rfl)) <|
            .cons (.rd 3) _ _ (op_get_ag 3 ag51 (Lk.t rfl) rfl mem_blk rfl rfl) <|
            .cons (.no) _ _ (op_move (Lk.t rfl)) <|
            .cons (.no) _ _ (op_callq (P := Tryd.prog) ((ps.getD ((k : Nat) : Int).toNat prtD), (secR t).a) (Lk.t rfl) ⟨(Lk.t rfl), (Lk.t rfl),  trivial⟩ trivial) <|
            .cons (.no) _ _ (op_assign (Lk.t rfl)) <|
            .nil) ff rfl fun g13 => ⟨_, _, [0, 1, 2, 3], rfl, (.cons 2 rfl <| .cons 6 rfl <| .cons 8 rfl <| .cons 10 rfl <| .cons 12 rfl <| .cons 14 rfl <| .cons 16 rfl <| .cons 17 rfl <| .cons 48 rfl <| .cons 49 rfl <| .cons 50 rfl <| .nil), (.cons 0 rfl <| .cons 1 rfl <| .cons 2 rfl <| .cons 3 rfl <| .nil), ?_⟩)
        refine JN_then ?_
        refine J_seq (J_reg [] (
            .cons (.no) _ _ (op_field_own fd51_1 (Lk.t rfl) rfl) <|
            .cons (.rd 3) _ _ (op_get_sc 3 sc3 (Lk.t rfl) rfl mem_blk rfl) <|
            .cons (.no) _ _ (op_move (Lk.k rfl)) <|
            .nil) ff rfl fun g14 => ⟨_, _, [0, 1, 2], rfl, (.cons 2 rfl <| .cons 6 rfl <| .cons 8 rfl <| .cons 10 rfl <| .cons 12 rfl <| .cons 14 rfl <| .cons 17 rfl <| .cons 48 rfl <| .cons 49 rfl <| .cons 50 rfl <| .cons 59 rfl <| .cons 60 rfl <| .nil), (.cons 0 rfl <| .cons 1 rfl <| .cons 2 rfl <| .nil), ?_⟩)
        refine JN_then ?_
        refine J_block ?_
        refine J_loopc (α := Nat) (fun a => (a : Int) ≤ (ps.getD ((k : Nat) : Int).toNat prtD).a) (fun a => ((ps.getD ((k : Nat) : Int).toNat prtD).a).toNat - a) (fun a restR => (60, isv (.int .i64 (a : Int))) :: (14, isv (.int .i64 (tot ps k + (a : Int) * ((g (ps.getD ((k : Nat) : Int).toNat prtD) (secR t).a).length : Int)))) :: restR) (fun a restS => som (agP (g8 44)) flp (layA (g (ps.getD ((k : Nat) : Int).toNat prtD) (secR t).a) n (tot ps k) (layP g (secR t).a ps n k) a) 37 :: restS) (ρc := [(2, _), (6, _), (8, _), (10, _), (12, _), (17, _), (48, _), (49, _), (50, _), (59, _)]) (σc := [_, _]) 0 (by omega) (To.pick (fun _ => .sub (t := 60) rfl (sp_eq (by rfl)) <| .sub (t := 14) rfl (sp_eq (by exact congrArg (fun z => isv (.int .i64 z)) (by simp))) <| .cons 2 rfl <| .cons 6 rfl <| .cons 8 rfl <| .cons 10 rfl <| .cons 12 rfl <| .cons 17 rfl <| .cons 48 rfl <| .cons 49 rfl <| .cons 50 rfl <| .cons 59 rfl <| .nil) (fun _ => .sub 0 rfl ((fun _ _ h => h)) <| .cons 1 rfl <| .cons 2 rfl <| .nil) (ks := [0, 1, 2]) rfl) (fun a hI => ?_)
        obtain ⟨fr, hfr⟩ : ∃ fr, fr = tot ps k + (a : Int) * ((g (ps.getD ((k : Nat) : Int).toNat prtD) (secR t).a).length : Int) := ⟨_, rfl⟩
        rw [← hfr]
        refine J_seq (J_reg [] (
            .cons (.no) _ _ (op_cmp (by simp) (Lk.t rfl) (Lk.t rfl) rfl) <|
            .nil) ff rfl fun g15 => ⟨_, _, [0, 1, 2], rfl, (.cons 2 rfl <| .cons 6 rfl <| .cons 8 rfl <| .cons 10 rfl <| .cons 12 rfl <| .cons 14 rfl <| .cons 17 rfl <| .cons 48 rfl <| .cons 49 rfl <| .cons 50 rfl <| .cons 59 rfl <| .cons 60 rfl <| .cons 61 rfl <| .nil), (.cons 0 rfl <| .cons 1 rfl <| .cons 2 rfl <| .nil), ?_⟩)
        refine JN_then ?_
        refine J_seq ?_
        refine J_cond (cond_of (Lk.t rfl)) (fun h4 => ?_) (fun h4 => ?_)
        · have h4' := h4
          try simp only [cmpB, Bool.and_eq_true, Bool.or_eq_true, Bool.and_eq_false_iff, Bool.or_eq_false_iff, Bool.not_eq_true', Bool.not_eq_false', Bool.not_eq_true, Bool.not_eq_false, decide_eq_true_eq, decide_eq_false_iff_not, Int.not_lt, Int.not_le, beq_iff_eq, bne_iff_ne, beq_eq_false_iff_ne, bne_eq_false_iff_eq, ne_eq, Decidable.not_not] at h4
          have hin : 0 ≤ tot ps k ∧ 0 ≤ (a : Int) * ordN (ps.getD ((k : Nat) : Int).toNat prtD).k ∧ tot ps k + (a : Int) * ordN (ps.getD ((k : Nat) : Int).toNat prtD).k + ordN (ps.getD ((k : Nat) : Int).toNat prtD).k ≤ tot ps ps.length ∧ 1 ≤ ordN (ps.getD ((k : Nat) : Int).toNat prtD).k := ax_in hgd htl (by omega) (show (a : Int) < (ps.getD ((k : Nat) : Int).toNat prtD).a by omega)
          have hf0 : 0 ≤ fr := by rw [hfr, hL]; omega
          have hf1 : fr + ((g (ps.getD ((k : Nat) : Int).toNat prtD) (secR t).a).length : Int) ≤ n := by rw [hfr, hL]; omega
          refine J_skip ?_
          refine JN_then ?_
          refine J_seq ?_
          refine J_block ?_
          refine J_seq ?_
          refine J_seq (J_reg [] (
              .cons (.no) _ _ (op_move (Lk.t rfl)) <|
              .cons (.no) _ _ (op_len_m sl52 (Lk.t rfl)) <|
              .cons (.no) _ _ (op_move (Lk.k rfl)) <|
              .nil) ff rfl fun g16 => ⟨_, _, [0, 1, 2], rfl, (.cons 2 rfl <| .cons 6 rfl <| .cons 8 rfl <| .cons 10 rfl <| .cons 12 rfl <| .cons 14 rfl <| .cons 17 rfl <| .cons 48 rfl <| .cons 49 rfl <| .cons 50 rfl <| .cons 59 rfl <| .cons 60 rfl <| .cons 63 rfl <| .cons 64 rfl <| .nil), (.cons 0 rfl <| .cons 1 rfl <| .cons 2 rfl <| .nil), ?_⟩)
          refine JN_then ?_
          refine J_block ?_
          refine J_loopc (α := Nat) (fun i => i ≤ (g (ps.getD ((k : Nat) : Int).toNat prtD) (secR t).a).length) (fun i => (((g (ps.getD ((k : Nat) : Int).toNat prtD) (secR t).a).length : Int)).toNat - i) (fun i restR => (64, isv (.int .i64 (i : Int))) :: restR) (fun i restS => som (agP (g8 44)) flp (layI (g (ps.getD ((k : Nat) : Int).toNat prtD) (secR t).a) n fr (layA (g (ps.getD ((k : Nat) : Int).toNat prtD) (secR t).a) n (tot ps k) (layP g (secR t).a ps n k) a) i) 37 :: restS) (ρc := [(2, _), (6, _), (8, _), (10, _), (12, _), (14, _), (17, _), (48, _), (49, _), (50, _), (59, _), (60, _), (63, _)]) (σc := [_, _]) 0 (by exact Nat.zero_le _) (To.pick (fun _ => .sub (t := 64) rfl (sp_eq (by rfl)) <| .cons 2 rfl <| .cons 6 rfl <| .cons 8 rfl <| .cons 10 rfl <| .cons 12 rfl <| .cons 14 rfl <| .cons 17 rfl <| .cons 48 rfl <| .cons 49 rfl <| .cons 50 rfl <| .cons 59 rfl <| .cons 60 rfl <| .cons 63 rfl <| .nil) (fun _ => .sub 0 rfl ((fun _ _ h => h)) <| .cons 1 rfl <| .cons 2 rfl <| .nil) (ks := [0, 1, 2]) rfl) (fun i hI => ?_)
          refine J_seq (J_reg [] (
              .cons (.no) _ _ (op_cmp (by simp) (Lk.t rfl) (Lk.t rfl) rfl) <|
              .nil) ff rfl fun g17 => ⟨_, _, [0, 1, 2], rfl, (.cons 2 rfl <| .cons 6 rfl <| .cons 8 rfl <| .cons 10 rfl <| .cons 12 rfl <| .cons 14 rfl <| .cons 17 rfl <| .cons 48 rfl <| .cons 49 rfl <| .cons 50 rfl <| .cons 59 rfl <| .cons 60 rfl <| .cons 63 rfl <| .cons 64 rfl <| .cons 65 rfl <| .nil), (.cons 0 rfl <| .cons 1 rfl <| .cons 2 rfl <| .nil), ?_⟩)
          refine JN_then ?_
          refine J_seq ?_
          refine J_cond (cond_of (Lk.t rfl)) (fun h5 => ?_) (fun h5 => ?_)
          · have h5' := h5
            try simp only [cmpB, Bool.and_eq_true, Bool.or_eq_true, Bool.and_eq_false_iff, Bool.or_eq_false_iff, Bool.not_eq_true', Bool.not_eq_false', Bool.not_eq_true, Bool.not_eq_false, decide_eq_true_eq, decide_eq_false_iff_not, Int.not_lt, Int.not_le, beq_iff_eq, bne_iff_ne, beq_eq_false_iff_ne, bne_eq_false_iff_eq, ne_eq, Decidable.not_not] at h5
            have hRi : ((g (ps.getD ((k : Nat) : Int).toNat prtD) (secR t).a).getD ((i : Nat) : Int).toNat []).length = (g (ps.getD ((k : Nat) : Int).toNat prtD) (secR t).a).length := hR i (by omega)
            refine J_skip ?_
            refine JN_then ?_
            refine J_seq ?_
            refine J_block ?_
            refine J_seq (J_reg [] (
                .cons (.no) _ _ (op_move (Lk.t rfl)) <|
                .cons (.no) _ _ (op_assign (Lk.t rfl)) <|
                .nil) ff rfl fun g18 => ⟨_, _, [0, 1, 2], rfl, (.cons 2 rfl <| .cons 6 rfl <| .cons 8 rfl <| .cons 10 rfl <| .cons 12 rfl <| .cons 14 rfl <| .cons 17 rfl <| .cons 18 rfl <| .cons 48 rfl <| .cons 49 rfl <| .cons 50 rfl <| .cons 59 rfl <| .cons 60 rfl <| .cons 63 rfl <| .cons 64 rfl <| .nil), (.cons 0 rfl <| .cons 1 rfl <| .cons 2 rfl <| .nil), ?_⟩)
            refine JN_then ?_
            refine J_seq (J_reg [] (
                .cons (.no) _ _ (op_move (Lk.t rfl)) <|
                .cons (.no) _ _ (op_move (Lk.t rfl)) <|
                .cons (.no) _ _ (op_index_m [] sl52 (Lk.t rfl) (Lk.t rfl) (by omega) (by omega)) <|
                .cons (.no) _ _ (op_load_sc sc32 (Lk.t rfl) rfl) <|
                .cons (.no) _ _ (op_len_m sl32 (Lk.t rfl)) <|
                .cons (.no) _ _ (op_move (Lk.k rfl)) <|
                .nil) ff rfl fun g19 => ⟨_, _, [0, 1, 2], rfl, (.cons 2 rfl <| .cons 6 rfl <| .cons 8 rfl <| .cons 10 rfl <| .cons 12 rfl <| .cons 14 rfl <| .cons 17 rfl <| .cons 18 rfl <| .cons 48 rfl <| .cons 49 rfl <| .cons 50 rfl <| .cons 59 rfl <| .cons 60 rfl <| .cons 63 rfl <| .cons 64 rfl <| .cons 71 rfl <| .cons 72 rfl <| .nil), (.cons 0 rfl <| .cons 1 rfl <| .cons 2 rfl <| .nil), ?_⟩)
            refine JN_then ?_
            refine J_block ?_
            refine J_loopc (α := Nat) (fun j => j ≤ ((g (ps.getD ((k : Nat) : Int).toNat prtD) (secR t).a).getD ((i : Nat) : Int).toNat []).length) (fun j => ((((g (ps.getD ((k : Nat) : Int).toNat prtD) (secR t).a).getD ((i : Nat) : Int).toNat []).length : Int)).toNat - j) (fun j restR => (72, isv (.int .i64 (j : Int))) :: restR) (fun j restS => som (agP (g8 44)) flp (layJ (g (ps.getD ((k : Nat) : Int).toNat prtD) (secR t).a) n fr i (layI (g (ps.getD ((k : Nat) : Int).toNat prtD) (secR t).a) n fr (layA (g (ps.getD ((k : Nat) : Int).toNat prtD) (secR t).a) n (tot ps k) (layP g (secR t).a ps n k) a) i) j) 37 :: restS) (ρc := [(2, _), (6, _), (8, _), (10, _), (12, _), (14, _), (17, _), (18, _), (48, _), (49, _), (50, _), (59, _), (60, _), (63, _), (64, _), (71, _)]) (σc := [_, _]) 0 (by exact Nat.zero_le _) (To.pick (fun _ => .sub (t := 72) rfl (sp_eq (by rfl)) <| .cons 2 rfl <| .cons 6 rfl <| .cons 8 rfl <| .cons 10 rfl <| .cons 12 rfl <| .cons 14 rfl <| .cons 17 rfl <| .cons 18 rfl <| .cons 48 rfl <| .cons 49 rfl <| .cons 50 rfl <| .cons 59 rfl <| .cons 60 rfl <| .cons 63 rfl <| .cons 64 rfl <| .cons 71 rfl <| .nil) (fun _ => .sub 0 rfl ((fun _ _ h => h)) <| .cons 1 rfl <| .cons 2 rfl <| .nil) (ks := [0, 1, 2]) rfl) (fun j hI => ?_)
            refine J_seq (J_reg [] (
                .cons (.no) _ _ (op_cmp (by simp) (Lk.t rfl) (Lk.t rfl) rfl) <|
                .nil) ff rfl fun g20 => ⟨_, _, [0, 1, 2], rfl, (.cons 2 rfl <| .cons 6 rfl <| .cons 8 rfl <| .cons 10 rfl <| .cons 12 rfl <| .cons 14 rfl <| .cons 17 rfl <| .cons 18 rfl <| .cons 48 rfl <| .cons 49 rfl <| .cons 50 rfl <| .cons 59 rfl <| .cons 60 rfl <| .cons 63 rfl <| .cons 64 rfl <| .cons 71 rfl <| .cons 72 rfl <| .cons 73 rfl <| .nil), (.cons 0 rfl <| .cons 1 rfl <| .cons 2 rfl <| .nil), ?_⟩)
            refine JN_then ?_
            refine J_seq ?_
            refine J_cond (cond_of (Lk.t rfl)) (fun h6 => ?_) (fun h6 => ?_)
            · have h6' := h6
              try simp only [cmpB, Bool.and_eq_true, Bool.or_eq_true, Bool.and_eq_false_iff, Bool.or_eq_false_iff, Bool.not_eq_true', Bool.not_eq_false', Bool.not_eq_true, Bool.not_eq_false, decide_eq_true_eq, decide_eq_false_iff_not, Int.not_lt, Int.not_le, beq_iff_eq, bne_iff_ne, beq_eq_false_iff_ne, bne_eq_false_iff_eq, ne_eq, Decidable.not_not] at h6
              have hq := place_rng (n := n) (x := fr + (i : Int)) (y := fr + (j : Int)) (by omega) (by omega) (by omega) (by omega)
              have hln := @layJ_len (g (ps.getD ((k : Nat) : Int).toNat prtD) (secR t).a) n fr i (layI (g (ps.getD ((k : Nat) : Int).toNat prtD) (secR t).a) n fr (layA (g (ps.getD ((k : Nat) : Int).toNat prtD) (secR t).a) n (tot ps k) (layP g (secR t).a ps n k) a) i) j
              rw [layI_len, layA_len, layP_len] at hln
              refine J_skip ?_
              refine JN_then ?_
              refine J_seq ?_
              refine J_block ?_
              refine J_seq (J_reg [] (
                  .cons (.no) _ _ (op_move (Lk.t rfl)) <|
                  .cons (.no) _ _ (op_assign (Lk.t rfl)) <|
                  .nil) ff rfl fun g21 => ⟨_, _, [0, 1, 2], rfl, (.cons 2 rfl <| .cons 6 rfl <| .cons 8 rfl <| .cons 10 rfl <| .cons 12 rfl <| .cons 14 rfl <| .cons 17 rfl <| .cons 18 rfl <| .cons 19 rfl <| .cons 48 rfl <| .cons 49 rfl <| .cons 50 rfl <| .cons 59 rfl <| .cons 60 rfl <| .cons 63 rfl <| .cons 64 rfl <| .cons 71 rfl <| .cons 72 rfl <| .nil), (.cons 0 rfl <| .cons 1 rfl <| .cons 2 rfl <| .nil), ?_⟩)
              refine JN_then ?_
              refine (J_reg [[], [0], [], [], [2, 3], [], [2, 3, 4, 5], [], [2, 3, 4, 5, 6, 7], [], [2, 3, 4, 5, 6, 7, 8, 9], [], [], [11, 12], [11, 12, 13], [], [11, 12, 13, 14, 15], [11, 12, 13, 14, 15, 16], [0, 1, 2, 3, 4, 5, 6, 7, 8, 9, 10, 11, 12, 13, 14, 15, 16, 17], [0, 1, 2, 3, 4, 5, 6, 7, 8, 9, 10, 11, 12, 13, 14, 15, 16, 17, 18]] (
                  .cons (.no) _ _ (op_field_own fd34_2 (Lk.t rfl) rfl) <|
                  .cons (.rd 2) _ _ (op_get_sc 2 sc32 (Lk.t rfl) rfl mem_blk rfl) <|
                  .cons (.no) _ _ (op_move (Lk.t rfl)) <|
                  .cons (.no) _ _ (op_move (Lk.t rfl)) <|
                  .cons (.no) _ _ (op_add (Lk.t rfl) (Lk.t rfl) (wrap_id (by omega) (by omega))) <|
                  .cons (.no) _ _ (op_move (Lk.t rfl)) <|
                  .cons (.no) _ _ (op_mul (Lk.t rfl) (Lk.t rfl) (wrap_id (by omega) (by omega))) <|
                  .cons (.no) _ _ (op_move (Lk.t rfl)) <|
                  .cons (.no) _ _ (op_add (Lk.t rfl) (Lk.t rfl) (wrap_id (by omega) (by omega))) <|
                  .cons (.no) _ _ (op_move (Lk.t rfl)) <|
                  .cons (.no) _ _ (op_add (Lk.t rfl) (Lk.t rfl) (wrap_id (by omega) (by omega))) <|
                  .cons (.no) _ _ (op_move (Lk.t rfl)) <|
                  .cons (.no) _ _ (op_move (Lk.t rfl)) <|
                  .cons (.no) _ _ (op_index_m [] sl52 (Lk.t rfl) (Lk.t rfl) (by omega) (by omega)) <|
                  .cons (.no) _ _ (op_load_sc sc32 (Lk.t rfl) rfl) <|
                  .cons (.no) _ _ (op_move (Lk.t rfl)) <|
                  .cons (.no) _ _ (op_index_m 0 sl32 (Lk.t rfl) (Lk.t rfl) (by omega) (by omega)) <|
                  .cons (.no) _ _ (op_load_sc sc37 (Lk.t rfl) rfl) <|
                  .cons (.rd 0) _ _ (op_index_som 0 sl32 (Lk.t rfl) (Lk.t rfl) rfl (by omega) (by omega)) <|
                  .cons (.wr 0) _ _ (op_store_som 0 (Lk.t rfl) (Lk.t rfl) co_flp sz37 rfl (by omega)) <|
                  .nil) (fun _ => mixed) rfl fun g22 => ⟨_, _, [0, 1, 2], rfl, (.cons 2 rfl <| .cons 6 rfl <| .cons 8 rfl <| .cons 10 rfl <| .cons 12 rfl <| .cons 14 rfl <| .cons 17 rfl <| .cons 18 rfl <| .cons 48 rfl <| .cons 49 rfl <| .cons 50 rfl <| .cons 59 rfl <| .cons 60 rfl <| .cons 63 rfl <| .cons 64 rfl <| .cons 71 rfl <| .cons 72 rfl <| .nil), (.cons 0 rfl <| .cons 1 rfl <| .cons 2 rfl <| .nil), ?_⟩)
              refine JN_block ?_
              refine JN_then ?_
              refine (J_reg [] (
                  .cons (.no) _ _ (op_add (Lk.t rfl) (Lk.k rfl) (wrap_id (by omega) (by omega))) <|
                  .cons (.no) _ _ (op_move (Lk.t rfl)) <|
                  .nil) ff rfl fun g23 => ⟨_, _, [0, 1, 2], rfl, (.cons 2 rfl <| .cons 6 rfl <| .cons 8 rfl <| .cons 10 rfl <| .cons 12 rfl <| .cons 14 rfl <| .cons 17 rfl <| .cons 18 rfl <| .cons 48 rfl <| .cons 49 rfl <| .cons 50 rfl <| .cons 59 rfl <| .cons 60 rfl <| .cons 63 rfl <| .cons 64 rfl <| .cons 71 rfl <| .cons 72 rfl <| .nil), (.cons 0 rfl <| .cons 1 rfl <| .cons 2 rfl <| .nil), ?_⟩)
              exact JN_again (j + 1) (by omega) (by omega) (To.pick (fun _ => .sub (t := 72) rfl (sp_eq (by rfl)) <| .cons 2 rfl <| .cons 6 rfl <| .cons 8 rfl <| .cons 10 rfl <| .cons 12 rfl <| .cons 14 rfl <| .cons 17 rfl <| .cons 18 rfl <| .cons 48 rfl <| .cons 49 rfl <| .cons 50 rfl <| .cons 59 rfl <| .cons 60 rfl <| .cons 63 rfl <| .cons 64 rfl <| .cons 71 rfl <| .nil) (fun _ => .sub 0 rfl ((fun _ _ h => h)) <| .cons 1 rfl <| .cons 2 rfl <| .nil) (ks := [0, 1, 2]) rfl)
            · have h6' := h6
              try simp only [cmpB, Bool.and_eq_true, Bool.or_eq_true, Bool.and_eq_false_iff, Bool.or_eq_false_iff, Bool.not_eq_true', Bool.not_eq_false', Bool.not_eq_true, Bool.not_eq_false, decide_eq_true_eq, decide_eq_false_iff_not, Int.not_lt, Int.not_le, beq_iff_eq, bne_iff_ne, beq_eq_false_iff_ne, bne_eq_false_iff_eq, ne_eq, Decidable.not_not] at h6
              refine J_exit ?_
              refine JN_then_exit ?_
              refine JN_then_exit ?_
              refine JN_exit_here ?_
              refine JN_block ?_
              refine JN_then ?_
              refine (J_reg [] (
                  .cons (.no) _ _ (op_add (Lk.t rfl) (Lk.k rfl) (wrap_id (by omega) (by omega))) <|
                  .cons (.no) _ _ (op_move (Lk.t rfl)) <|
                  .nil) ff rfl fun g24 => ⟨_, _, [0, 1, 2], rfl, (.cons 2 rfl <| .cons 6 rfl <| .cons 8 rfl <| .cons 10 rfl <| .cons 12 rfl <| .cons 14 rfl <| .cons 17 rfl <| .cons 48 rfl <| .cons 49 rfl <| .cons 50 rfl <| .cons 59 rfl <| .cons 60 rfl <| .cons 63 rfl <| .cons 64 rfl <| .nil), (.cons 0 rfl <| .cons 1 rfl <| .cons 2 rfl <| .nil), ?_⟩)
              exact JN_again (i + 1) (by omega) (by omega) (To.pick (fun _ => .sub (t := 64) rfl (sp_eq (by rfl)) <| .cons 2 rfl <| .cons 6 rfl <| .cons 8 rfl <| .cons 10 rfl <| .cons 12 rfl <| .cons 14 rfl <| .cons 17 rfl <| .cons 48 rfl <| .cons 49 rfl <| .cons 50 rfl <| .cons 59 rfl <| .cons 60 rfl <| .cons 63 rfl <| .nil) (fun _ => .sub 0 rfl ((res_eq (by rw [show j = ((g (ps.getD ((k : Nat) : Int).toNat prtD) (secR t).a).getD ((i : Nat) : Int).toNat []).length by omega]; rfl))) <| .cons 1 rfl <| .cons 2 rfl <| .nil) (ks := [0, 1, 2]) rfl)
          · have h5' := h5
            try simp only [cmpB, Bool.and_eq_true, Bool.or_eq_true, Bool.and_eq_false_iff, Bool.or_eq_false_iff, Bool.not_eq_true', Bool.not_eq_false', Bool.not_eq_true, Bool.not_eq_false, decide_eq_true_eq, decide_eq_false_iff_not, Int.not_lt, Int.not_le, beq_iff_eq, bne_iff_ne, beq_eq_false_iff_ne, bne_eq_false_iff_eq, ne_eq, Decidable.not_not] at h5
            refine J_exit ?_
            refine JN_then_exit ?_
            refine JN_then_exit ?_
            refine JN_exit_here ?_
            refine JN_then ?_
            refine (J_reg [] (
                .cons (.no) _ _ (op_move (Lk.t rfl)) <|
                .cons (.no) _ _ (op_move (Lk.t rfl)) <|
                .cons (.no) _ _ (op_len_m sl52 (Lk.t rfl)) <|
                .cons (.no) _ _ (op_add (Lk.t rfl) (Lk.t rfl) (wrap_id (show _ ≤ fr + ((g (ps.getD ((k : Nat) : Int).toNat prtD) (secR t).a).length : Int) by omega) (show fr + ((g (ps.getD ((k : Nat) : Int).toNat prtD) (secR t).a).length : Int) ≤ _ by omega))) <|
                .cons (.no) _ _ (op_assign (Lk.t rfl)) <|
                .nil) ff rfl fun g25 => ⟨_, _, [0, 1, 2], rfl, (.cons 2 rfl <| .cons 6 rfl <| .cons 8 rfl <| .cons 10 rfl <| .cons 12 rfl <| .cons 14 rfl <| .cons 17 rfl <| .cons 48 rfl <| .cons 49 rfl <| .cons 50 rfl <| .cons 59 rfl <| .cons 60 rfl <| .nil), (.cons 0 rfl <| .cons 1 rfl <| .cons 2 rfl <| .nil), ?_⟩)
            refine JN_block ?_
            refine JN_then ?_
            refine (J_reg [] (
                .cons (.no) _ _ (op_add (Lk.t rfl) (Lk.k rfl) (wrap_id (by omega) (by omega))) <|
                .cons (.no) _ _ (op_move (Lk.t rfl)) <|
                .nil) ff rfl fun g26 => ⟨_, _, [0, 1, 2], rfl, (.cons 2 rfl <| .cons 6 rfl <| .cons 8 rfl <| .cons 10 rfl <| .cons 12 rfl <| .cons 14 rfl <| .cons 17 rfl <| .cons 48 rfl <| .cons 49 rfl <| .cons 50 rfl <| .cons 59 rfl <| .cons 60 rfl <| .nil), (.cons 0 rfl <| .cons 1 rfl <| .cons 2 rfl <| .nil), ?_⟩)
            exact JN_again (a + 1) (by omega) (by omega) (To.pick (fun _ => .sub (t := 60) rfl (sp_eq (by rfl)) <| .sub (t := 14) rfl (sp_eq (by exact congrArg (fun z => isv (.int .i64 z)) (by  rw [hfr, ax_next]))) <| .cons 2 rfl <| .cons 6 rfl <| .cons 8 rfl <| .cons 10 rfl <| .cons 12 rfl <| .cons 17 rfl <| .cons 48 rfl <| .cons 49 rfl <| .cons 50 rfl <| .cons 59 rfl <| .nil) (fun _ => .sub 0 rfl ((res_eq (by rw [show i = (g (ps.getD ((k : Nat) : Int).toNat prtD) (secR t).a).length by omega, hfr]; rfl))) <| .cons 1 rfl <| .cons 2 rfl <| .nil) (ks := [0, 1, 2]) rfl)
        · have h4' := h4
          try simp only [cmpB, Bool.and_eq_true, Bool.or_eq_true, Bool.and_eq_false_iff, Bool.or_eq_false_iff, Bool.not_eq_true', Bool.not_eq_false', Bool.not_eq_true, Bool.not_eq_false, decide_eq_true_eq, decide_eq_false_iff_not, Int.not_lt, Int.not_le, beq_iff_eq, bne_iff_ne, beq_eq_false_iff_ne, bne_eq_false_iff_eq, ne_eq, Decidable.not_not] at h4
          refine J_exit ?_
          refine JN_then_exit ?_
          refine JN_then_exit ?_
          refine JN_exit_here ?_
          refine JN_block ?_
          refine JN_then ?_
          refine (J_reg [] (
              .cons (.no) _ _ (op_add (Lk.t rfl) (Lk.k rfl) (wrap_id (by omega) (by omega))) <|
              .cons (.no) _ _ (op_move (Lk.t rfl)) <|
              .nil) ff rfl fun g27 => ⟨_, _, [0, 1, 2], rfl, (.cons 2 rfl <| .cons 6 rfl <| .cons 8 rfl <| .cons 10 rfl <| .cons 12 rfl <| .cons 14 rfl <| .cons 48 rfl <| .cons 49 rfl <| .cons 50 rfl <| .nil), (.cons 0 rfl <| .cons 1 rfl <| .cons 2 rfl <| .nil), ?_⟩)
          exact JN_again (k + 1) (by omega) (by omega) (To.pick (fun _ => .sub (t := 50) rfl (sp_eq (by rfl)) <| .sub (t := 14) rfl (sp_eq (by exact congrArg (fun z => isv (.int .i64 z)) (by rw [hfr, hL, show (a : Int) = (ps.getD ((k : Nat) : Int).toNat prtD).a by omega]; rfl))) <| .cons 2 rfl <| .cons 6 rfl <| .cons 8 rfl <| .cons 10 rfl <| .cons 12 rfl <| .cons 48 rfl <| .cons 49 rfl <| .nil) (fun _ => .sub 0 rfl ((res_eq (by rw [show a = ((ps.getD ((k : Nat) : Int).toNat prtD).a).toNat by omega]; rfl))) <| .cons 1 rfl <| .cons 2 rfl <| .nil) (ks := [0, 1, 2]) rfl)
      · have h3' := h3
        try simp only [cmpB, Bool.and_eq_true, Bool.or_eq_true, Bool.and_eq_false_iff, Bool.or_eq_false_iff, Bool.not_eq_true', Bool.not_eq_false', Bool.not_eq_true, Bool.not_eq_false, decide_eq_true_eq, decide_eq_false_iff_not, Int.not_lt, Int.not_le, beq_iff_eq, bne_iff_ne, beq_eq_false_iff_ne, bne_eq_false_iff_eq, ne_eq, Decidable.not_not] at h3
        refine J_exit ?_
        refine JN_then_exit ?_
        refine JN_then_exit ?_
        refine JN_exit_here ?_
        refine JN_then ?_
        refine J_seq ?_
        refine J_to (To.freeze 0 (fun _ h => h) rfl frz_som rfl) ?_
        refine J_seq (J_reg [] (
            .cons (.no) _ _ (op_field_own fd34_2 (Lk.t rfl) rfl) <|
            .cons (.rd 2) _ _ (op_get_sc 2 sc32 (Lk.t rfl) rfl mem_blk rfl) <|
            .cons (.no) _ _ (op_call (finite_ok) ⟨(Lk.sub (sb_fk 0 rfl) (Lk.t rfl)),  trivial⟩) <|
            .cons (.no) _ _ (op_not (Lk.t rfl)) <|
            .nil) ff rfl fun g28 => ⟨_, _, [1, 2], rfl, (.cons 6 rfl <| .cons 12 rfl <| .cons 105 rfl <| .nil), (.cons 1 rfl <| .cons 2 rfl <| .nil), ?_⟩)
        refine JN_then ?_
        refine J_cond (cond_of (Lk.t rfl)) (fun h7 => ?_) (fun h7 => ?_)
        · have h7' := h7
          try simp only [cmpB, Bool.and_eq_true, Bool.or_eq_true, Bool.and_eq_false_iff, Bool.or_eq_false_iff, Bool.not_eq_true', Bool.not_eq_false', Bool.not_eq_true, Bool.not_eq_false, decide_eq_true_eq, decide_eq_false_iff_not, Int.not_lt, Int.not_le, beq_iff_eq, bne_iff_ne, beq_eq_false_iff_ne, bne_eq_false_iff_eq, ne_eq, Decidable.not_not] at h7
          refine J_seq (J_reg [] (
              .cons (.no) _ _ (op_build zr34 rfl pl34 .nil) <|
              .cons (.wr 0) _ _ (op_store_b 0 (Lk.t rfl) (Lk.t rfl) co_agg sz34 rfl rfl rfl) <|
              .cons (.no) _ _ (op_assign (Lk.k rfl)) <|
              .nil) ff rfl fun g29 => ⟨_, _, [0], rfl, (.cons 6 rfl <| .cons 7 rfl <| .nil), (.cons 0 rfl <| .nil), ?_⟩)
          refine JN_then ?_
          refine J_ret ?_
          refine JN_then_ret ?_
          refine JN_ret (.cons (.ag 0 (Lk.t rfl) ag34 rfl rfl rfl) <| .cons (.tmp (Lk.t rfl)) <| .nil) (sb_trans (sb_res (.cons (sb_agg (.cons sb_refl <| .cons sb_refl <| .cons (sb_nil (mk := flp)) <| .nil)) <| .cons sb_refl <| .nil)) ?_)
          exact ret_M (by rw [← blkM_3 h1 (by omega) hn (show k = ps.length by omega)]; unfold toldR; rw [if_pos h7]; rfl)
        · have h7' := h7
          try simp only [cmpB, Bool.and_eq_true, Bool.or_eq_true, Bool.and_eq_false_iff, Bool.or_eq_false_iff, Bool.not_eq_true', Bool.not_eq_false', Bool.not_eq_true, Bool.not_eq_false, decide_eq_true_eq, decide_eq_false_iff_not, Int.not_lt, Int.not_le, beq_iff_eq, bne_iff_ne, beq_eq_false_iff_ne, bne_eq_false_iff_eq, ne_eq, Decidable.not_not] at h7
          refine J_skip ?_
          refine JN_then ?_
          refine J_seq (J_reg [] (
              .cons (.rd 1) _ _ (op_get_ag 1 ag34 (Lk.t rfl) rfl mem_blk rfl rfl) <|
              .cons (.wr 0) _ _ (op_store_b 0 (Lk.t rfl) (Lk.t rfl) co_agg sz34 rfl rfl rfl) <|
              .cons (.no) _ _ (op_assign (Lk.k rfl)) <|
              .nil) ff rfl fun g30 => ⟨_, _, [0], rfl, (.cons 6 rfl <| .cons 7 rfl <| .nil), (.cons 0 rfl <| .nil), ?_⟩)
          refine JN_then ?_
          refine J_ret ?_
          refine JN_ret (.cons (.ag 0 (Lk.t rfl) ag34 rfl rfl rfl) <| .cons (.tmp (Lk.t rfl)) <| .nil) (sb_trans (sb_res (.cons (sb_agg (.cons sb_refl <| .cons sb_refl <| .cons (sb_fk 0 rfl) <| .nil)) <| .cons sb_refl <| .nil)) ?_)
          exact ret_M (by rw [← blkM_3 h1 (by omega) hn (show k = ps.length by omega)]; unfold toldR; rw [if_neg (by simp [h7])])
end Go.Proofs.YtjfkpnacfnnkhaaDoor
