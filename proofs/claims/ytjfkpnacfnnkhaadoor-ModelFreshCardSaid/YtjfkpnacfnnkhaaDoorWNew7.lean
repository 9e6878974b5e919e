/- Printed by a program of ours (walk.py): walks of the model: what is answered is new memory and may be owned. -/
import Derived.Test.YtjfkpnacfnnkhaaDoorKb
import Derived.Test.YtjfkpnacfnnkhaaDoorProg
import Derived.KernelRfl
import Derived.Test.YtjfkpnacfnnkhaaDoorTypes
import Derived.Test.YtjfkpnacfnnkhaaDoorWSees
import Derived.Test.YtjfkpnacfnnkhaaDoorWNames
import Derived.Test.YtjfkpnacfnnkhaaDoorFos
set_option linter.unusedVariables false
set_option linter.unusedSimpArgs false
set_option maxRecDepth 20000
set_option maxHeartbeats 1000000
namespace Go.Proofs.YtjfkpnacfnnkhaaDoor
open Go Go.Bn
attribute [local irreducible] OpOK
theorem pure_strp (x : ByteArray) : (strp x).Pure := fun _ _ _ h => h
theorem ret_SF {Γ : Facts} {a : List ByteArray} {e : Int} {x : SR} {T : TypeId} (h : (⟨a, e⟩ : SR) = x) : Sb Γ (tupp [fosp strp T a, isv (.int .i64 e)]) (tupp [fosp strp T x.a, isv (.int .i64 x.e)]) := by subst h; exact sb_refl
theorem mblkN_ok {ps : List Prt} {t : Int} {g : BF} (hb : BOk g) : CtN Tryd.prog 25 [MotP ps, isv (.int .i64 t), fnq Tryd.prog (α := Prt × Nat) (fun _ => True) (fun i => [aggp (prtC i.1), flp i.2]) (fun i => slm (slm flp) (g i.1 i.2))] (resMF 37 (blkM g ps t)) := by
  refine CtN.of Tryd.func25 rfl (by kernel_rfl) rfl fun c0 => ?_
  refine J_to To.size ?_
  refine J_lenP 0 rfl fun hlen => ?_
  refine J_to (To.emps 2) ?_
  refine J_seq (J_reg [] (
      .cons (.wr 0) _ _ (op_box 0 (Lk.t rfl) co_agg rfl) <|
      .cons (.wr 1) _ _ (op_alloc 1 zr34 rfl rfl) <|
      .cons (.no) _ _ (op_assign (Lk.k rfl)) <|
      .nil) ff rfl fun g1 => ⟨_, _, [0, 1], rfl, (.cons 1 rfl <| .cons 2 rfl <| .cons 3 rfl <| .cons 6 rfl <| .nil), (.cons 0 rfl <| .cons 1 rfl <| .nil), ?_⟩)
  refine JN_then ?_
  refine J_seq (J_reg [] (
      .cons (.rd 0) _ _ (op_get_ag 0 ag30 (Lk.t rfl) rfl mem_blk rfl rfl) <|
      .cons (.no) _ _ (op_call (mdim_ok) ⟨(Lk.t rfl),  trivial⟩) <|
      .cons (.no) _ _ (op_move (Lk.t rfl)) <|
      .cons (.no) _ _ (op_extract (Lk.t rfl) rfl) <|
      .cons (.no) _ _ (op_extract (Lk.t rfl) rfl) <|
      .cons (.no) _ _ (op_assign (Lk.t rfl)) <|
      .cons (.no) _ _ (op_assign (Lk.t rfl)) <|
      .nil) ff rfl fun g2 => ⟨_, _, [0, 1], rfl, (.cons 1 rfl <| .cons 2 rfl <| .cons 3 rfl <| .cons 6 rfl <| .cons 8 rfl <| .cons 9 rfl <| .nil), (.cons 0 rfl <| .cons 1 rfl <| .nil), ?_⟩)
  refine JN_then ?_
  refine J_seq ?_
  refine J_seq (J_reg [] (
      .cons (.no) _ _ (op_move (Lk.t rfl)) <|
      .cons (.no) _ _ (op_cmp (by simp) (Lk.t rfl) (Lk.k rfl) rfl) <|
      .nil) ff rfl fun g3 => ⟨_, _, [0, 1], rfl, (.cons 1 rfl <| .cons 2 rfl <| .cons 3 rfl <| .cons 6 rfl <| .cons 8 rfl <| .cons 9 rfl <| .cons 26 rfl <| .nil), (.cons 0 rfl <| .cons 1 rfl <| .nil), ?_⟩)
  refine JN_then ?_
  refine J_cond (cond_of (Lk.t rfl)) (fun h1 => ?_) (fun h1 => ?_)
  · have h1' := h1
    try simp only [cmpB, Bool.and_eq_true, Bool.or_eq_true, Bool.and_eq_false_iff, Bool.or_eq_false_iff, Bool.not_eq_true', Bool.not_eq_false', Bool.not_eq_true, Bool.not_eq_false, decide_eq_true_eq, decide_eq_false_iff_not, Int.not_lt, Int.not_le, beq_iff_eq, bne_iff_ne, beq_eq_false_iff_ne, bne_eq_false_iff_eq, ne_eq, Decidable.not_not] at h1
    rw [dimR_e] at h1
    refine J_seq (J_reg [] (
        .cons (.no) _ _ (op_build zr34 rfl pl34 .nil) <|
        .cons (.no) _ _ (op_move (Lk.t rfl)) <|
        .cons (.wr 1) _ _ (op_store_b 1 (Lk.t rfl) (Lk.t rfl) co_agg sz34 rfl rfl rfl) <|
        .cons (.no) _ _ (op_assign (Lk.t rfl)) <|
        .nil) ff rfl fun g4 => ⟨_, _, [1], rfl, (.cons 6 rfl <| .cons 7 rfl <| .nil), (.cons 1 rfl <| .nil), ?_⟩)
    refine JN_then ?_
    refine J_ret ?_
    refine JN_then_ret ?_
    refine JN_ret (.cons (.ag 0 (Lk.t rfl) ag34 rfl rfl rfl) <| .cons (.tmp (Lk.t rfl)) <| .nil) (sb_trans (sb_res (.cons (sb_agg (.cons sb_refl <| .cons sb_refl <| .cons (sb_nilF (mk := flp) (T := 37)) <| .nil)) <| .cons sb_refl <| .nil)) (sb_trans push_MF (sb_newp ?_)))
    rw [dimR_e]
    exact ret_MF (blkM_1 h1)
  · have h1' := h1
    try simp only [cmpB, Bool.and_eq_true, Bool.or_eq_true, Bool.and_eq_false_iff, Bool.or_eq_false_iff, Bool.not_eq_true', Bool.not_eq_false', Bool.not_eq_true, Bool.not_eq_false, decide_eq_true_eq, decide_eq_false_iff_not, Int.not_lt, Int.not_le, beq_iff_eq, bne_iff_ne, beq_eq_false_iff_ne, bne_eq_false_iff_eq, ne_eq, Decidable.not_not] at h1
    rw [dimR_e] at h1
    obtain ⟨h0, hgd, htl⟩ := mot_good h1
    have htl0 := (tot_rng hgd).1
    have hda : (dimR ps).a = tot ps ps.length := by rw [dimR_ok h1]
    obtain ⟨n, hn⟩ : ∃ n, n = tot ps ps.length := ⟨_, rfl⟩
    rw [hda, ← hn]
    have hs : Siz n n := ⟨by omega, by omega, by omega, by omega⟩
    have hsq := sq_rng (n := n) (by omega) (by omega)
    refine J_skip ?_
    refine JN_then ?_
    refine J_seq ?_
    refine J_seq (J_reg [] (
        .cons (.no) _ _ (op_move (Lk.t rfl)) <|
        .cons (.no) _ _ (op_cmp (by simp) (Lk.t rfl) (Lk.k rfl) rfl) <|
        .cons (.no) _ _ (op_move (Lk.t rfl)) <|
        .cons (.no) _ _ (op_guard rfl rfl (gd_b rfl) (fun hC => (op_move (Lk.t rfl)))) <|
        .cons (.no) _ _ (op_guard rfl rfl (gd_b rfl) (fun hC => (op_cmp (by simp) (Lk.w rfl hC) (Lk.k rfl) rfl))) <|
        .cons (.no) _ _ (op_or (Lk.t rfl) (fun h2 => (Lk.w rfl h2))) <|
        .nil) ff rfl fun g5 => ⟨_, _, [0, 1], rfl, (.cons 1 rfl <| .cons 2 rfl <| .cons 3 rfl <| .cons 6 rfl <| .cons 8 rfl <| .cons 34 rfl <| .nil), (.cons 0 rfl <| .cons 1 rfl <| .nil), ?_⟩)
    refine JN_then ?_
    refine J_cond (cond_of (Lk.t rfl)) (fun h2 => ?_) (fun h2 => ?_)
    · have h2' := h2
      try simp only [cmpB, Bool.and_eq_true, Bool.or_eq_true, Bool.and_eq_false_iff, Bool.or_eq_false_iff, Bool.not_eq_true', Bool.not_eq_false', Bool.not_eq_true, Bool.not_eq_false, decide_eq_true_eq, decide_eq_false_iff_not, Int.not_lt, Int.not_le, beq_iff_eq, bne_iff_ne, beq_eq_false_iff_ne, bne_eq_false_iff_eq, ne_eq, Decidable.not_not] at h2
      refine J_seq (J_reg [] (
          .cons (.no) _ _ (op_build zr34 rfl pl34 .nil) <|
          .cons (.wr 1) _ _ (op_store_b 1 (Lk.t rfl) (Lk.t rfl) co_agg sz34 rfl rfl rfl) <|
          .cons (.no) _ _ (op_assign (Lk.k rfl)) <|
          .nil) ff rfl fun g6 => ⟨_, _, [1], rfl, (.cons 6 rfl <| .cons 7 rfl <| .nil), (.cons 1 rfl <| .nil), ?_⟩)
      refine JN_then ?_
      refine J_ret ?_
      refine JN_then_ret ?_
      refine JN_ret (.cons (.ag 0 (Lk.t rfl) ag34 rfl rfl rfl) <| .cons (.tmp (Lk.t rfl)) <| .nil) (sb_trans (sb_res (.cons (sb_agg (.cons sb_refl <| .cons sb_refl <| .cons (sb_nilF (mk := flp) (T := 37)) <| .nil)) <| .cons sb_refl <| .nil)) (sb_trans push_MF (sb_newp ?_)))
      exact ret_MF (blkM_2 h1 h2)
    · have h2' := h2
      try simp only [cmpB, Bool.and_eq_true, Bool.or_eq_true, Bool.and_eq_false_iff, Bool.or_eq_false_iff, Bool.not_eq_true', Bool.not_eq_false', Bool.not_eq_true, Bool.not_eq_false, decide_eq_true_eq, decide_eq_false_iff_not, Int.not_lt, Int.not_le, beq_iff_eq, bne_iff_ne, beq_eq_false_iff_ne, bne_eq_false_iff_eq, ne_eq, Decidable.not_not] at h2
      refine J_skip ?_
      refine JN_then ?_
      refine J_seq (J_reg [] (
          .cons (.no) _ _ (op_move (Lk.t rfl)) <|
          .cons (.no) _ _ (op_call (secs_ok) ⟨(Lk.t rfl),  trivial⟩) <|
          .cons (.no) _ _ (op_move (Lk.t rfl)) <|
          .cons (.no) _ _ (op_extract (Lk.t rfl) rfl) <|
          .cons (.no) _ _ (op_extract (Lk.t rfl) rfl) <|
          .cons (.no) _ _ (op_assign (Lk.t rfl)) <|
          .cons (.no) _ _ (op_assign (Lk.t rfl)) <|
          .nil) ff rfl fun g7 => ⟨_, _, [0, 1], rfl, (.cons 2 rfl <| .cons 3 rfl <| .cons 6 rfl <| .cons 8 rfl <| .cons 10 rfl <| .nil), (.cons 0 rfl <| .cons 1 rfl <| .nil), ?_⟩)
      refine JN_then ?_
      refine J_to (To.emps 2) ?_
      refine J_seq (J_reg [] (
          .cons (.no) _ _ (op_move (Lk.t rfl)) <|
          .cons (.no) _ _ (op_move (Lk.t rfl)) <|
          .cons (.wr 2) _ _ (op_callF 2 (zeroF_ok hs) ⟨(Lk.t rfl), (Lk.t rfl),  trivial⟩ rfl) <|
          .cons (.no) _ _ (op_move_ve rfl rfl) <|
          .cons (.no) _ _ (op_ve 41 45 rfl rfl rfl (fun f => op_extract (Lk.t rfl) rfl) (fun f g h => by first | rfl | rw [h 44 (show 44 ∈ [44] from by decide)]) rfl) <|
          .cons (.no) _ _ (op_ve 41 46 rfl rfl rfl (fun f => op_extract (Lk.t rfl) rfl) (fun f g h => by first | rfl | rw [h 44 (show 44 ∈ [44] from by decide)]) rfl) <|
          .cons (.wr 3) _ _ (op_alloc 3 zr34 rfl rfl) <|
          .cons (.wr 3) _ _ (op_store_new_ve 3 rfl rfl rfl (fun f => co_agg) (fun f g h => by rw [h 44 (show 44 ∈ [44] from by decide)]) (fun _ => sz34) rfl (fun _ => rfl) rfl) <|
          .cons (.no) _ _ (op_assign_ve rfl rfl) <|
          .nil) ff rfl fun g8 => ⟨_, _, [0, 1, 2, 3], rfl, (.cons 2 rfl <| .cons 3 rfl <| .cons 6 rfl <| .cons 8 rfl <| .cons 10 rfl <| .cons 12 rfl <| .nil), (.cons 0 rfl <| .cons 1 rfl <| .cons 2 rfl <| .cons 3 rfl <| .nil), ?_⟩)
      refine JN_then ?_
      refine J_seq (J_reg [] (
          .cons (.no) _ _ (op_assign (Lk.k rfl)) <|
          .nil) ff rfl fun g9 => ⟨_, _, [0, 1, 2, 3], rfl, (.cons 2 rfl <| .cons 3 rfl <| .cons 6 rfl <| .cons 8 rfl <| .cons 10 rfl <| .cons 12 rfl <| .cons 14 rfl <| .nil), (.cons 0 rfl <| .cons 1 rfl <| .cons 2 rfl <| .cons 3 rfl <| .nil), ?_⟩)
      refine JN_then ?_
      refine J_seq ?_
      refine J_seq (J_reg [] (
          .cons (.no) _ _ (op_field_own fd30_0 (Lk.t rfl) rfl) <|
          .cons (.rd 0) _ _ (op_get_sc 0 sc28 (Lk.t rfl) rfl mem_blk rfl) <|
          .cons (.no) _ _ (op_len_sk sl28 (Lk.t rfl)) <|
          .cons (.no) _ _ (op_move (Lk.k rfl)) <|
          .nil) ff rfl fun g10 => ⟨_, _, [1, 2, 3], rfl, (.cons 2 rfl <| .cons 6 rfl <| .cons 8 rfl <| .cons 10 rfl <| .cons 12 rfl <| .cons 14 rfl <| .cons 48 rfl <| .cons 49 rfl <| .cons 50 rfl <| .nil), (.cons 1 rfl <| .cons 2 rfl <| .cons 3 rfl <| .nil), ?_⟩)
      refine JN_then ?_
      refine J_block ?_
      refine J_loopc (α := Nat) (fun k => k ≤ ps.length) (fun k => ((ps.length : Int)).toNat - k) (fun k restR => (50, isv (.int .i64 (k : Int))) :: (14, isv (.int .i64 (tot ps k))) :: restR) (fun k restS => som (agP (g8 44)) flp (layP g (secR t).a ps n k) 37 :: restS) (ρc := [(2, _), (6, _), (8, _), (10, _), (12, _), (48, _), (49, _)]) (σc := [_, _]) 0 (by exact Nat.zero_le _) (To.pick (fun _ => .sub (t := 50) rfl (sp_eq (by rfl)) <| .sub (t := 14) rfl (sp_eq (by rfl)) <| .cons 2 rfl <| .cons 6 rfl <| .cons 8 rfl <| .cons 10 rfl <| .cons 12 rfl <| .cons 48 rfl <| .cons 49 rfl <| .nil) (fun _ => .sub 1 rfl ((fun _ _ h => h)) <| .cons 0 rfl <| .cons 2 rfl <| .nil) (ks := [1, 0, 2]) rfl) (fun k hI => ?_)
      refine J_seq (J_reg [] (
          .cons (.no) _ _ (op_cmp (by simp) (Lk.t rfl) (Lk.t rfl) rfl) <|
          .nil) ff rfl fun g11 => ⟨_, _, [0, 1, 2], rfl, (.cons 2 rfl <| .cons 6 rfl <| .cons 8 rfl <| .cons 10 rfl <| .cons 12 rfl <| .cons 14 rfl <| .cons 48 rfl <| .cons 49 rfl <| .cons 50 rfl <| .cons 51 rfl <| .nil), (.cons 0 rfl <| .cons 1 rfl <| .cons 2 rfl <| .nil), ?_⟩)
      refine JN_then ?_
      refine J_seq ?_
      refine J_cond (cond_of (Lk.t rfl)) (fun h3 => ?_) (fun h3 => ?_)
      · have h3' := h3
        try simp only [cmpB, Bool.and_eq_true, Bool.or_eq_true, Bool.and_eq_false_iff, Bool.or_eq_false_iff, Bool.not_eq_true', Bool.not_eq_false', Bool.not_eq_true, Bool.not_eq_false, decide_eq_true_eq, decide_eq_false_iff_not, Int.not_lt, Int.not_le, beq_iff_eq, bne_iff_ne, beq_eq_false_iff_ne, bne_eq_false_iff_eq, ne_eq, Decidable.not_not] at h3
        have htr := tot_rng (ps := ps) (k := k) fun q hq => hgd q (by omega)
        have hpk : partE (ps.getD ((k : Nat) : Int).toNat prtD) = 0 := hgd k (by omega)
        obtain ⟨hp1, hp2, hp3, _⟩ := partE_good hpk
        have hor := (ordN_rng (ps.getD ((k : Nat) : Int).toNat prtD).k).2
        obtain ⟨hL, hR⟩ := hb (ps.getD ((k : Nat) : Int).toNat prtD) (secR t).a hp1
        refine J_skip ?_
        refine JN_then ?_
        refine J_seq ?_
        refine J_block ?_
        refine J_to (To.emps 1) ?_
        refine J_seq (J_reg [] (
            .cons (.no) _ _ (op_index_sk (mk := prtC) prtD sl28 prtC_len (Lk.t rfl) (Lk.t rfl) (by omega) (by omega)) <|
            .cons (.no) _ _ (op_load_ag ag51 (Lk.t rfl) rfl rfl) <|
            .cons (.wr 3) _ _ (op_alloc 3 zr51 rfl rfl) <|
            .cons (.wr 3) _ _ (op_store_new 3 rfl (Lk.t rfl) co_agg sz51 rfl rfl) <|
            .nil) ff rfl fun g12 => ⟨_, _, [0, 1, 2, 3], rfl, (.cons 2 rfl <| .cons 6 rfl <| .cons 8 rfl <| .cons 10 rfl <| .cons 12 rfl <| .cons 14 rfl <| .cons 16 rfl <| .cons 48 rfl <| .cons 49 rfl <| .cons 50 rfl <| .nil), (.cons 0 rfl <| .cons 1 rfl <| .cons 2 rfl <| .cons 3 rfl <| .nil), ?_⟩)
        refine JN_then ?_
        refine J_seq (J_reg [] (
            .cons (.no) _ _ (op_move (Lk.t rfl)) <|
            .cons (.rd 3) _ _ (op_get_ag 3 ag51 (Lk.t rfl) rfl mem_blk rfl rfl) <|
            .cons (.no) _ _ (op_move (Lk.t rfl)) <|
            .cons (.no) _ _ (op_callq (P := Tryd.prog) ((ps.getD ((k : Nat) : Int).toNat prtD), (secR t).a) (Lk.t rfl) ⟨(Lk.t rfl), (Lk.t rfl),  trivial⟩ trivial) <|
            .cons (.no) _ _ (op_assign (Lk.t rfl)) <|
            .nil) ff rfl fun g13 => ⟨_, _, [0, 1, 2, 3], rfl, (.cons 2 rfl <| .cons 6 rfl <| .cons 8 rfl <| .cons 10 rfl <| .cons 12 rfl <| .cons 14 rfl <| .cons 16 rfl <| .cons 17 rfl <| .cons 48 rfl <| .cons 49 rfl <| .cons 50 rfl <| .nil), (.cons 0 rfl <| .cons 1 rfl <| .cons 2 rfl <| .cons 3 rfl <| .nil), ?_⟩)
        refine JN_then ?_
        refine J_seq (J_reg [] (
            .cons (.no) _ _ (op_field_own fd51_1 (Lk.t rfl) rfl) <|
            .cons (.rd 3) _ _ (op_get_sc 3 sc3 (Lk.t rfl) rfl mem_blk rfl) <|
            .cons (.no) _ _ (op_move (Lk.k rfl)) <|
            .nil) ff rfl fun g14 => ⟨_, _, [0, 1, 2], rfl, (.cons 2 rfl <| .cons 6 rfl <| .cons 8 rfl <| .cons 10 rfl <| .cons 12 rfl <| .cons 14 rfl <| .cons 17 rfl <| .cons 48 rfl <| .cons 49 rfl <| .cons 50 rfl <| .cons 59 rfl <| .cons 60 rfl <| .nil), (.cons 0 rfl <| .cons 1 rfl <| .cons 2 rfl <| .nil), ?_⟩)
        refine JN_then ?_
        refine J_block ?_
        refine J_loopc (α := Nat) (fun a => (a : Int) ≤ (ps.getD ((k : Nat) : Int).toNat prtD).a) (fun a => ((ps.getD ((k : Nat) : Int).toNat prtD).a).toNat - a) (fun a restR => (60, isv (.int .i64 (a : Int))) :: (14, isv (.int .i64 (tot ps k + (a : Int) * ((g (ps.getD ((k : Nat) : Int).toNat prtD) (secR t).a).length : Int)))) :: restR) (fun a restS => som (agP (g8 44)) flp (layA (g (ps.getD ((k : Nat) : Int).toNat prtD) (secR t).a) n (tot ps k) (layP g (secR t).a ps n k) a) 37 :: restS) (ρc := [(2, _), (6, _), (8, _), (10, _), (12, _), (17, _), (48, _), (49, _), (50, _), (59, _)]) (σc := [_, _]) 0 (by omega) (To.pick (fun _ => .sub (t := 60) rfl (sp_eq (by rfl)) <| .sub (t := 14) rfl (sp_eq (by exact congrArg (fun z => isv (.int .i64 z)) (by simp))) <| .cons 2 rfl <| .cons 6 rfl <| .cons 8 rfl <| .cons 10 rfl <| .cons 12 rfl <| .cons 17 rfl <| .cons 48 rfl <| .cons 49 rfl <| .cons 50 rfl <| .cons 59 rfl <| .nil) (fun _ => .sub 0 rfl ((fun _ _ h => h)) <| .cons 1 rfl <| .cons 2 rfl <| .nil) (ks := [0, 1, 2]) rfl) (fun a hI => ?_)
        obtain ⟨fr, hfr⟩ : ∃ fr, fr = tot ps k + (a : Int) * ((g (ps.getD ((k : Nat) : Int).toNat prtD) (secR t).a).length : Int) := ⟨_, rfl⟩
        rw [← hfr]
        refine J_seq (J_reg [] (
            .cons (.no) _ _ (op_cmp (by simp) (Lk.t rfl) (Lk.t rfl) rfl) <|
            .nil) ff rfl fun g15 => ⟨_, _, [0, 1, 2], rfl, (.cons 2 rfl <| .cons 6 rfl <| .cons 8 rfl <| .cons 10 rfl <| .cons 12 rfl <| .cons 14 rfl <| .cons 17 rfl <| .cons 48 rfl <| .cons 49 rfl <| .cons 50 rfl <| .cons 59 rfl <| .cons 60 rfl <| .cons 61 rfl <| .nil), (.cons 0 rfl <| .cons 1 rfl <| .cons 2 rfl <| .nil), ?_⟩)
        refine JN_then ?_
        refine J_seq ?_
        refine J_cond (cond_of (Lk.t rfl)) (fun h4 => ?_) (fun h4 => ?_)
        · have h4' := h4
          try simp only [cmpB, Bool.and_eq_true, Bool.or_eq_true, Bool.and_eq_false_iff, Bool.or_eq_false_iff, Bool.not_eq_true', Bool.not_eq_false', Bool.not_eq_true, Bool.not_eq_false, decide_eq_true_eq, decide_eq_false_iff_not, Int.not_lt, Int.not_le, beq_iff_eq, bne_iff_ne, beq_eq_false_iff_ne, bne_eq_false_iff_eq, ne_eq, Decidable.not_not] at h4
          have hin : 0 ≤ tot ps k ∧ 0 ≤ (a : Int) * ordN (ps.getD ((k : Nat) : Int).toNat prtD).k ∧ tot ps k + (a : Int) * ordN (ps.getD ((k : Nat) : Int).toNat prtD).k + ordN (ps.getD ((k : Nat) : Int).toNat prtD).k ≤ tot ps ps.length ∧ 1 ≤ ordN (ps.getD ((k : Nat) : Int).toNat prtD).k := ax_in hgd htl (by omega) (show (a : Int) < (ps.getD ((k : Nat) : Int).toNat prtD).a by omega)
          have hf0 : 0 ≤ fr := by rw [hfr, hL]; omega
          have hf1 : fr + ((g (ps.getD ((k : Nat) : Int).toNat prtD) (secR t).a).length : Int) ≤ n := by rw [hfr, hL]; omega
          refine J_skip ?_
          refine JN_then ?_
          refine J_seq ?_
          refine J_block ?_
          refine J_seq ?_
          refine J_seq (J_reg [] (
              .cons (.no) _ _ (op_move (Lk.t rfl)) <|
              .cons (.no) _ _ (op_len_m sl52 (Lk.t rfl)) <|
              .cons (.no) _ _ (op_move (Lk.k rfl)) <|
              .nil) ff rfl fun g16 => ⟨_, _, [0, 1, 2], rfl, (.cons 2 rfl <| .cons 6 rfl <| .cons 8 rfl <| .cons 10 rfl <| .cons 12 rfl <| .cons 14 rfl <| .cons 17 rfl <| .cons 48 rfl <| .cons 49 rfl <| .cons 50 rfl <| .cons 59 rfl <| .cons 60 rfl <| .cons 63 rfl <| .cons 64 rfl <| .nil), (.cons 0 rfl <| .cons 1 rfl <| .cons 2 rfl <| .nil), ?_⟩)
          refine JN_then ?_
          refine J_block ?_
          refine J_loopc (α := Nat) (fun i => i ≤ (g (ps.getD ((k : Nat) : Int).toNat prtD) (secR t).a).length) (fun i => (((g (ps.getD ((k : Nat) : Int).toNat prtD) (secR t).a).length : Int)).toNat - i) (fun i restR => (64, isv (.int .i64 (i : Int))) :: restR) (fun i restS => som (agP (g8 44)) flp (layI (g (ps.getD ((k : Nat) : Int).toNat prtD) (secR t).a) n fr (layA (g (ps.getD ((k : Nat) : Int).toNat prtD) (secR t).a) n (tot ps k) (layP g (secR t).a ps n k) a) i) 37 :: restS) (ρc := [(2, _), (6, _), (8, _), (10, _), (12, _), (14, _), (17, _), (48, _), (49, _), (50, _), (59, _), (60, _), (63, _)]) (σc := [_, _]) 0 (by exact Nat.zero_le _) (To.pick (fun _ => .sub (t := 64) rfl (sp_eq (by rfl)) <| .cons 2 rfl <| .cons 6 rfl <| .cons 8 rfl <| .cons 10 rfl <| .cons 12 rfl <| .cons 14 rfl <| .cons 17 rfl <| .cons 48 rfl <| .cons 49 rfl <| .cons 50 rfl <| .cons 59 rfl <| .cons 60 rfl <| .cons 63 rfl <| .nil) (fun _ => .sub 0 rfl ((fun _ _ h => h)) <| .cons 1 rfl <| .cons 2 rfl <| .nil) (ks := [0, 1, 2]) rfl) (fun i hI => ?_)
          refine J_seq (J_reg [] (
              .cons (.no) _ _ (op_cmp (by simp) (Lk.t rfl) (Lk.t rfl) rfl) <|
              .nil) ff rfl fun g17 => ⟨_, _, [0, 1, 2], rfl, (.cons 2 rfl <| .cons 6 rfl <| .cons 8 rfl <| .cons 10 rfl <| .cons 12 rfl <| .cons 14 rfl <| .cons 17 rfl <| .cons 48 rfl <| .cons 49 rfl <| .cons 50 rfl <| .cons 59 rfl <| .cons 60 rfl <| .cons 63 rfl <| .cons 64 rfl <| .cons 65 rfl <| .nil), (.cons 0 rfl <| .cons 1 rfl <| .cons 2 rfl <| .nil), ?_⟩)
          refine JN_then ?_
          refine J_seq ?_
          refine J_cond (cond_of (Lk.t rfl)) (fun h5 => ?_) (fun h5 => ?_)
          · have h5' := h5
            try simp only [cmpB, Bool.and_eq_true, Bool.or_eq_true, Bool.and_eq_false_iff, Bool.or_eq_false_iff, Bool.not_eq_true', Bool.not_eq_false', Bool.not_eq_true, Bool.not_eq_false, decide_eq_true_eq, decide_eq_false_iff_not, Int.not_lt, Int.not_le, beq_iff_eq, bne_iff_ne, beq_eq_false_iff_ne, bne_eq_false_iff_eq, ne_eq, Decidable.not_not] at h5
            have hRi : ((g (ps.getD ((k : Nat) : Int).toNat prtD) (secR t).a).getD ((i : Nat) : Int).toNat []).length = (g (ps.getD ((k : Nat) : Int).toNat prtD) (secR t).a).length := hR i (by omega)
            refine J_skip ?_
            refine JN_then ?_
            refine J_seq ?_
            refine J_block ?_
            refine J_seq (J_reg [] (
                .cons (.no) _ _ (op_move (Lk.t rfl)) <|
                .cons (.no) _ _ (op_assign (Lk.t rfl)) <|
                .nil) ff rfl fun g18 => ⟨_, _, [0, 1, 2], rfl, (.cons 2 rfl <| .cons 6 rfl <| .cons 8 rfl <| .cons 10 rfl <| .cons 12 rfl <| .cons 14 rfl <| .cons 17 rfl <| .cons 18 rfl <| .cons 48 rfl <| .cons 49 rfl <| .cons 50 rfl <| .cons 59 rfl <| .cons 60 rfl <| .cons 63 rfl <| .cons 64 rfl <| .nil), (.cons 0 rfl <| .cons 1 rfl <| .cons 2 rfl <| .nil), ?_⟩)
            refine JN_then ?_
            refine J_seq (J_reg [] (
                .cons (.no) _ _ (op_move (Lk.t rfl)) <|
                .cons (.no) _ _ (op_move (Lk.t rfl)) <|
                .cons (.no) _ _ (op_index_m [] sl52 (Lk.t rfl) (Lk.t rfl) (by omega) (by omega)) <|
                .cons (.no) _ _ (op_load_sc sc32 (Lk.t rfl) rfl) <|
                .cons (.no) _ _ (op_len_m sl32 (Lk.t rfl)) <|
                .cons (.no) _ _ (op_move (Lk.k rfl)) <|
                .nil) ff rfl fun g19 => ⟨_, _, [0, 1, 2], rfl, (.cons 2 rfl <| .cons 6 rfl <| .cons 8 rfl <| .cons 10 rfl <| .cons 12 rfl <| .cons 14 rfl <| .cons 17 rfl <| .cons 18 rfl <| .cons 48 rfl <| .cons 49 rfl <| .cons 50 rfl <| .cons 59 rfl <| .cons 60 rfl <| .cons 63 rfl <| .cons 64 rfl <| .cons 71 rfl <| .cons 72 rfl <| .nil), (.cons 0 rfl <| .cons 1 rfl <| .cons 2 rfl <| .nil), ?_⟩)
            refine JN_then ?_
            refine J_block ?_
            refine J_loopc (α := Nat) (fun j => j ≤ ((g (ps.getD ((k : Nat) : Int).toNat prtD) (secR t).a).getD ((i : Nat) : Int).toNat []).length) (fun j => ((((g (ps.getD ((k : Nat) : Int).toNat prtD) (secR t).a).getD ((i : Nat) : Int).toNat []).length : Int)).toNat - j) (fun j restR => (72, isv (.int .i64 (j : Int))) :: restR) (fun j restS => som (agP (g8 44)) flp (layJ (g (ps.getD ((k : Nat) : Int).toNat prtD) (secR t).a) n fr i (layI (g (ps.getD ((k : Nat) : Int).toNat prtD) (secR t).a) n fr (layA (g (ps.getD ((k : Nat) : Int).toNat prtD) (secR t).a) n (tot ps k) (layP g (secR t).a ps n k) a) i) j) 37 :: restS) (ρc := [(2, _), (6, _), (8, _), (10, _), (12, _), (14, _), (17, _), (18, _), (48, _), (49, _), (50, _), (59, _), (60, _), (63, _), (64, _), (71, _)]) (σc := [_, _]) 0 (by exact Nat.zero_le _) (To.pick (fun _ => .sub (t := 72) rfl (sp_eq (by rfl)) <| .cons 2 rfl <| .cons 6 rfl <| .cons 8 rfl <| .cons 10 rfl <| .cons 12 rfl <| .cons 14 rfl <| .cons 17 rfl <| .cons 18 rfl <| .cons 48 rfl <| .cons 49 rfl <| .cons 50 rfl <| .cons 59 rfl <| .cons 60 rfl <| .cons 63 rfl <| .cons 64 rfl <| .cons 71 rfl <| .nil) (fun _ => .sub 0 rfl ((fun _ _ h => h)) <| .cons 1 rfl <| .cons 2 rfl <| .nil) (ks := [0, 1, 2]) rfl) (fun j hI => ?_)
            refine J_seq (J_reg [] (
                .cons (.no) _ _ (op_cmp (by simp) (Lk.t rfl) (Lk.t rfl) rfl) <|
                .nil) ff rfl fun g20 => ⟨_, _, [0, 1, 2], rfl, (.cons 2 rfl <| .cons 6 rfl <| .cons 8 rfl <| .cons 10 rfl <| .cons 12 rfl <| .cons 14 rfl <| .cons 17 rfl <| .cons 18 rfl <| .cons 48 rfl <| .cons 49 rfl <| .cons 50 rfl <| .cons 59 rfl <| .cons 60 rfl <| .cons 63 rfl <| .cons 64 rfl <| .cons 71 rfl <| .cons 72 rfl <| .cons 73 rfl <| .nil), (.cons 0 rfl <| .cons 1 rfl <| .cons 2 rfl <| .nil), ?_⟩)
            refine JN_then ?_
            refine J_seq ?_
            refine J_cond (cond_of (Lk.t rfl)) (fun h6 => ?_) (fun h6 => ?_)
            · have h6' := h6
              try simp only [cmpB, Bool.and_eq_true, Bool.or_eq_true, Bool.and_eq_false_iff, Bool.or_eq_false_iff, Bool.not_eq_true', Bool.not_eq_false', Bool.not_eq_true, Bool.not_eq_false, decide_eq_true_eq, decide_eq_false_iff_not, Int.not_lt, Int.not_le, beq_iff_eq, bne_iff_ne, beq_eq_false_iff_ne, bne_eq_false_iff_eq, ne_eq, Decidable.not_not] at h6
              have hq := place_rng (n := n) (x := fr + (i : Int)) (y := fr + (j : Int)) (by omega) (by omega) (by omega) (by omega)
              have hln := @layJ_len (g (ps.getD ((k : Nat) : Int).toNat prtD) (secR t).a) n fr i (layI (g (ps.getD ((k : Nat) : Int).toNat prtD) (secR t).a) n fr (layA (g (ps.getD ((k : Nat) : Int).toNat prtD) (secR t).a) n (tot ps k) (layP g (secR t).a ps n k) a) i) j
              rw [layI_len, layA_len, layP_len] at hln
              refine J_skip ?_
              refine JN_then ?_
              refine J_seq ?_
              refine J_block ?_
              refine J_seq (J_reg [] (
                  .cons (.no) _ _ (op_move (Lk.t rfl)) <|
                  .cons (.no) _ _ (op_assign (Lk.t rfl)) <|
                  .nil) ff rfl fun g21 => ⟨_, _, [0, 1, 2], rfl, (.cons 2 rfl <| .cons 6 rfl <| .cons 8 rfl <| .cons 10 rfl <| .cons 12 rfl <| .cons 14 rfl <| .cons 17 rfl <| .cons 18 rfl <| .cons 19 rfl <| .cons 48 rfl <| .cons 49 rfl <| .cons 50 rfl <| .cons 59 rfl <| .cons 60 rfl <| .cons 63 rfl <| .cons 64 rfl <| .cons 71 rfl <| .cons 72 rfl <| .nil), (.cons 0 rfl <| .cons 1 rfl <| .cons 2 rfl <| .nil), ?_⟩)
              refine JN_then ?_
              refine (J_reg [[], [0], [], [], [2, 3], [], [2, 3, 4, 5], [], [2, 3, 4, 5, 6, 7], [], [2, 3, 4, 5, 6, 7, 8, 9], [], [], [11, 12], [11, 12, 13], [], [11, 12, 13, 14, 15], [11, 12, 13, 14, 15, 16], [0, 1, 2, 3, 4, 5, 6, 7, 8, 9, 10, 11, 12, 13, 14, 15, 16, 17], [0, 1, 2, 3, 4, 5, 6, 7, 8, 9, 10, 11, 12, 13, 14, 15, 16, 17, 18]] (
                  .cons (.no) _ _ (op_field_own fd34_2 (Lk.t rfl) rfl) <|
                  .cons (.rd 2) _ _ (op_get_sc 2 sc32 (Lk.t rfl) rfl mem_blk rfl) <|
                  .cons (.no) _ _ (op_move (Lk.t rfl)) <|
                  .cons (.no) _ _ (op_move (Lk.t rfl)) <|
                  .cons (.no) _ _ (op_add (Lk.t rfl) (Lk.t rfl) (wrap_id (by omega) (by omega))) <|
                  .cons (.no) _ _ (op_move (Lk.t rfl)) <|
                  .cons (.no) _ _ (op_mul (Lk.t rfl) (Lk.t rfl) (wrap_id (by omega) (by omega))) <|
                  .cons (.no) _ _ (op_move (Lk.t rfl)) <|
                  .cons (.no) _ _ (op_add (Lk.t rfl) (Lk.t rfl) (wrap_id (by omega) (by omega))) <|
                  .cons (.no) _ _ (op_move (Lk.t rfl)) <|
                  .cons (.no) _ _ (op_add (Lk.t rfl) (Lk.t rfl) (wrap_id (by omega) (by omega))) <|
                  .cons (.no) _ _ (op_move (Lk.t rfl)) <|
                  .cons (.no) _ _ (op_move (Lk.t rfl)) <|
                  .cons (.no) _ _ (op_index_m [] sl52 (Lk.t rfl) (Lk.t rfl) (by omega) (by omega)) <|
                  .cons (.no) _ _ (op_load_sc sc32 (Lk.t rfl) rfl) <|
                  .cons (.no) _ _ (op_move (Lk.t rfl)) <|
                  .cons (.no) _ _ (op_index_m 0 sl32 (Lk.t rfl) (Lk.t rfl) (by omega) (by omega)) <|
                  .cons (.no) _ _ (op_load_sc sc37 (Lk.t rfl) rfl) <|
                  .cons (.rd 0) _ _ (op_index_som 0 sl32 (Lk.t rfl) (Lk.t rfl) rfl (by omega) (by omega)) <|
                  .cons (.wr 0) _ _ (op_store_som 0 (Lk.t rfl) (Lk.t rfl) co_flp sz37 rfl (by omega)) <|
                  .nil) (fun _ => mixed) rfl fun g22 => ⟨_, _, [0, 1, 2], rfl, (.cons 2 rfl <| .cons 6 rfl <| .cons 8 rfl <| .cons 10 rfl <| .cons 12 rfl <| .cons 14 rfl <| .cons 17 rfl <| .cons 18 rfl <| .cons 48 rfl <| .cons 49 rfl <| .cons 50 rfl <| .cons 59 rfl <| .cons 60 rfl <| .cons 63 rfl <| .cons 64 rfl <| .cons 71 rfl <| .cons 72 rfl <| .nil), (.cons 0 rfl <| .cons 1 rfl <| .cons 2 rfl <| .nil), ?_⟩)
              refine JN_block ?_
              refine JN_then ?_
              refine (J_reg [] (
                  .cons (.no) _ _ (op_add (Lk.t rfl) (Lk.k rfl) (wrap_id (by omega) (by omega))) <|
                  .cons (.no) _ _ (op_move (Lk.t rfl)) <|
                  .nil) ff rfl fun g23 => ⟨_, _, [0, 1, 2], rfl, (.cons 2 rfl <| .cons 6 rfl <| .cons 8 rfl <| .cons 10 rfl <| .cons 12 rfl <| .cons 14 rfl <| .cons 17 rfl <| .cons 18 rfl <| .cons 48 rfl <| .cons 49 rfl <| .cons 50 rfl <| .cons 59 rfl <| .cons 60 rfl <| .cons 63 rfl <| .cons 64 rfl <| .cons 71 rfl <| .cons 72 rfl <| .nil), (.cons 0 rfl <| .cons 1 rfl <| .cons 2 rfl <| .nil), ?_⟩)
              exact JN_again (j + 1) (by omega) (by omega) (To.pick (fun _ => .sub (t := 72) rfl (sp_eq (by rfl)) <| .cons 2 rfl <| .cons 6 rfl <| .cons 8 rfl <| .cons 10 rfl <| .cons 12 rfl <| .cons 14 rfl <| .cons 17 rfl <| .cons 18 rfl <| .cons 48 rfl <| .cons 49 rfl <| .cons 50 rfl <| .cons 59 rfl <| .cons 60 rfl <| .cons 63 rfl <| .cons 64 rfl <| .cons 71 rfl <| .nil) (fun _ => .sub 0 rfl ((fun _ _ h => h)) <| .cons 1 rfl <| .cons 2 rfl <| .nil) (ks := [0, 1, 2]) rfl)
            · have h6' := h6
              try simp only [cmpB, Bool.and_eq_true, Bool.or_eq_true, Bool.and_eq_false_iff, Bool.or_eq_false_iff, Bool.not_eq_true', Bool.not_eq_false', Bool.not_eq_true, Bool.not_eq_false, decide_eq_true_eq, decide_eq_false_iff_not, Int.not_lt, Int.not_le, beq_iff_eq, bne_iff_ne, beq_eq_false_iff_ne, bne_eq_false_iff_eq, ne_eq, Decidable.not_not] at h6
              refine J_exit ?_
              refine JN_then_exit ?_
              refine JN_then_exit ?_
              refine JN_exit_here ?_
              refine JN_block ?_
              refine JN_then ?_
              refine (J_reg [] (
                  .cons (.no) _ _ (op_add (Lk.t rfl) (Lk.k rfl) (wrap_id (by omega) (by omega))) <|
                  .cons (.no) _ _ (op_move (Lk.t rfl)) <|
                  .nil) ff rfl fun g24 => ⟨_, _, [0, 1, 2], rfl, (.cons 2 rfl <| .cons 6 rfl <| .cons 8 rfl <| .cons 10 rfl <| .cons 12 rfl <| .cons 14 rfl <| .cons 17 rfl <| .cons 48 rfl <| .cons 49 rfl <| .cons 50 rfl <| .cons 59 rfl <| .cons 60 rfl <| .cons 63 rfl <| .cons 64 rfl <| .nil), (.cons 0 rfl <| .cons 1 rfl <| .cons 2 rfl <| .nil), ?_⟩)
              exact JN_again (i + 1) (by omega) (by omega) (To.pick (fun _ => .sub (t := 64) rfl (sp_eq (by rfl)) <| .cons 2 rfl <| .cons 6 rfl <| .cons 8 rfl <| .cons 10 rfl <| .cons 12 rfl <| .cons 14 rfl <| .cons 17 rfl <| .cons 48 rfl <| .cons 49 rfl <| .cons 50 rfl <| .cons 59 rfl <| .cons 60 rfl <| .cons 63 rfl <| .nil) (fun _ => .sub 0 rfl ((res_eq (by rw [show j = ((g (ps.getD ((k : Nat) : Int).toNat prtD) (secR t).a).getD ((i : Nat) : Int).toNat []).length by omega]; rfl))) <| .cons 1 rfl <| .cons 2 rfl <| .nil) (ks := [0, 1, 2]) rfl)
          · have h5' := h5
            try simp only [cmpB, Bool.and_eq_true, Bool.or_eq_true, Bool.and_eq_false_iff, Bool.or_eq_false_iff, Bool.not_eq_true', Bool.not_eq_false', Bool.not_eq_true, Bool.not_eq_false, decide_eq_true_eq, decide_eq_false_iff_not, Int.not_lt, Int.not_le, beq_iff_eq, bne_iff_ne, beq_eq_false_iff_ne, bne_eq_false_iff_eq, ne_eq, Decidable.not_not] at h5
            refine J_exit ?_
            refine JN_then_exit ?_
            refine JN_then_exit ?_
            refine JN_exit_here ?_
            refine JN_then ?_
            refine (J_reg [] (
                .cons (.no) _ _ (op_move (Lk.t rfl)) <|
                .cons (.no) _ _ (op_move (Lk.t rfl)) <|
                .cons (.no) _ _ (op_len_m sl52 (Lk.t rfl)) <|
                .cons (.no) _ _ (op_add (Lk.t rfl) (Lk.t rfl) (wrap_id (show _ ≤ fr + ((g (ps.getD ((k : Nat) : Int).toNat prtD) (secR t).a).length : Int) by omega) (show fr + ((g (ps.getD ((k : Nat) : Int).toNat prtD) (secR t).a).length : Int) ≤ _ by omega))) <|
                .cons (.no) _ _ (op_assign (Lk.t rfl)) <|
                .nil) ff rfl fun g25 => ⟨_, _, [0, 1, 2], rfl, (.cons 2 rfl <| .cons 6 rfl <| .cons 8 rfl <| .cons 10 rfl <| .cons 12 rfl <| .cons 14 rfl <| .cons 17 rfl <| .cons 48 rfl <| .cons 49 rfl <| .cons 50 rfl <| .cons 59 rfl <| .cons 60 rfl <| .nil), (.cons 0 rfl <| .cons 1 rfl <| .cons 2 rfl <| .nil), ?_⟩)
            refine JN_block ?_
            refine JN_then ?_
            refine (J_reg [] (
                .cons (.no) _ _ (op_add (Lk.t rfl) (Lk.k rfl) (wrap_id (by omega) (by omega))) <|
                .cons (.no) _ _ (op_move (Lk.t rfl)) <|
                .nil) ff rfl fun g26 => ⟨_, _, [0, 1, 2], rfl, (.cons 2 rfl <| .cons 6 rfl <| .cons 8 rfl <| .cons 10 rfl <| .cons 12 rfl <| .cons 14 rfl <| .cons 17 rfl <| .cons 48 rfl <| .cons 49 rfl <| .cons 50 rfl <| .cons 59 rfl <| .cons 60 rfl <| .nil), (.cons 0 rfl <| .cons 1 rfl <| .cons 2 rfl <| .nil), ?_⟩)
            exact JN_again (a + 1) (by omega) (by omega) (To.pick (fun _ => .sub (t := 60) rfl (sp_eq (by rfl)) <| .sub (t := 14) rfl (sp_eq (by exact congrArg (fun z => isv (.int .i64 z)) (by  rw [hfr, ax_next]))) <| .cons 2 rfl <| .cons 6 rfl <| .cons 8 rfl <| .cons 10 rfl <| .cons 12 rfl <| .cons 17 rfl <| .cons 48 rfl <| .cons 49 rfl <| .cons 50 rfl <| .cons 59 rfl <| .nil) (fun _ => .sub 0 rfl ((res_eq (by rw [show i = (g (ps.getD ((k : Nat) : Int).toNat prtD) (secR t).a).length by omega, hfr]; rfl))) <| .cons 1 rfl <| .cons 2 rfl <| .nil) (ks := [0, 1, 2]) rfl)
        · have h4' := h4
          try simp only [cmpB, Bool.and_eq_true, Bool.or_eq_true, Bool.and_eq_false_iff, Bool.or_eq_false_iff, Bool.not_eq_true', Bool.not_eq_false', Bool.not_eq_true, Bool.not_eq_false, decide_eq_true_eq, decide_eq_false_iff_not, Int.not_lt, Int.not_le, beq_iff_eq, bne_iff_ne, beq_eq_false_iff_ne, bne_eq_false_iff_eq, ne_eq, Decidable.not_not] at h4
          refine J_exit ?_
          refine JN_then_exit ?_
          refine JN_then_exit ?_
          refine JN_exit_here ?_
          refine JN_block ?_
          refine JN_then ?_
          refine (J_reg [] (
              .cons (.no) _ _ (op_add (Lk.t rfl) (Lk.k rfl) (wrap_id (by omega) (by omega))) <|
              .cons (.no) _ _ (op_move (Lk.t rfl)) <|
              .nil) ff rfl fun g27 => ⟨_, _, [0, 1, 2], rfl, (.cons 2 rfl <| .cons 6 rfl <| .cons 8 rfl <| .cons 10 rfl <| .cons 12 rfl <| .cons 14 rfl <| .cons 48 rfl <| .cons 49 rfl <| .cons 50 rfl <| .nil), (.cons 0 rfl <| .cons 1 rfl <| .cons 2 rfl <| .nil), ?_⟩)
          exact JN_again (k + 1) (by omega) (by omega) (To.pick (fun _ => .sub (t := 50) rfl (sp_eq (by rfl)) <| .sub (t := 14) rfl (sp_eq (by exact congrArg (fun z => isv (.int .i64 z)) (by rw [hfr, hL, show (a : Int) = (ps.getD ((k : Nat) : Int).toNat prtD).a by omega]; rfl))) <| .cons 2 rfl <| .cons 6 rfl <| .cons 8 rfl <| .cons 10 rfl <| .cons 12 rfl <| .cons 48 rfl <| .cons 49 rfl <| .nil) (fun _ => .sub 0 rfl ((res_eq (by rw [show a = ((ps.getD ((k : Nat) : Int).toNat prtD).a).toNat by omega]; rfl))) <| .cons 1 rfl <| .cons 2 rfl <| .nil) (ks := [0, 1, 2]) rfl)
      · have h3' := h3
        try simp only [cmpB, Bool.and_eq_true, Bool.or_eq_true, Bool.and_eq_false_iff, Bool.or_eq_false_iff, Bool.not_eq_true', Bool.not_eq_false', Bool.not_eq_true, Bool.not_eq_false, decide_eq_true_eq, decide_eq_false_iff_not, Int.not_lt, Int.not_le, beq_iff_eq, bne_iff_ne, beq_eq_false_iff_ne, bne_eq_false_iff_eq, ne_eq, Decidable.not_not] at h3
        refine J_exit ?_
        refine JN_then_exit ?_
        refine JN_then_exit ?_
        refine JN_exit_here ?_
        refine JN_then ?_
        refine J_seq ?_
        refine J_to (To.freezeN 0 (fun _ h => h) rfl frz_fos (pure_som pure_flp).n rfl) ?_
        refine J_seq (J_reg [] (
            .cons (.no) _ _ (op_field_own fd34_2 (Lk.t rfl) rfl) <|
            .cons (.rd 2) _ _ (op_get_sc 2 sc32 (Lk.t rfl) rfl mem_blk rfl) <|
            .cons (.no) _ _ (op_call (finite_ok) ⟨(Lk.sub (sb_trans (sb_fk 0 rfl) (sb_trans sb_new sb_fos)) (Lk.t rfl)),  trivial⟩) <|
            .cons (.no) _ _ (op_not (Lk.t rfl)) <|
            .nil) ff rfl fun g28 => ⟨_, _, [1, 2], rfl, (.cons 6 rfl <| .cons 12 rfl <| .cons 105 rfl <| .nil), (.cons 1 rfl <| .cons 2 rfl <| .nil), ?_⟩)
        refine JN_then ?_
        refine J_cond (cond_of (Lk.t rfl)) (fun h7 => ?_) (fun h7 => ?_)
        · have h7' := h7
          try simp only [cmpB, Bool.and_eq_true, Bool.or_eq_true, Bool.and_eq_false_iff, Bool.or_eq_false_iff, Bool.not_eq_true', Bool.not_eq_false', Bool.not_eq_true, Bool.not_eq_false, decide_eq_true_eq, decide_eq_false_iff_not, Int.not_lt, Int.not_le, beq_iff_eq, bne_iff_ne, beq_eq_false_iff_ne, bne_eq_false_iff_eq, ne_eq, Decidable.not_not] at h7
          refine J_seq (J_reg [] (
              .cons (.no) _ _ (op_build zr34 rfl pl34 .nil) <|
              .cons (.wr 0) _ _ (op_store_b 0 (Lk.t rfl) (Lk.t rfl) co_agg sz34 rfl rfl rfl) <|
              .cons (.no) _ _ (op_assign (Lk.k rfl)) <|
              .nil) ff rfl fun g29 => ⟨_, _, [0], rfl, (.cons 6 rfl <| .cons 7 rfl <| .nil), (.cons 0 rfl <| .nil), ?_⟩)
          refine JN_then ?_
          refine J_ret ?_
          refine JN_then_ret ?_
          refine JN_ret (.cons (.ag 0 (Lk.t rfl) ag34 rfl rfl rfl) <| .cons (.tmp (Lk.t rfl)) <| .nil) (sb_trans (sb_res (.cons (sb_agg (.cons sb_refl <| .cons sb_refl <| .cons (sb_nilF (mk := flp) (T := 37)) <| .nil)) <| .cons sb_refl <| .nil)) (sb_trans push_MF (sb_newp ?_)))
          exact ret_MF (by rw [← blkM_3 h1 (by omega) hn (show k = ps.length by omega)]; unfold toldR; rw [if_pos h7]; rfl)
        · have h7' := h7
          try simp only [cmpB, Bool.and_eq_true, Bool.or_eq_true, Bool.and_eq_false_iff, Bool.or_eq_false_iff, Bool.not_eq_true', Bool.not_eq_false', Bool.not_eq_true, Bool.not_eq_false, decide_eq_true_eq, decide_eq_false_iff_not, Int.not_lt, Int.not_le, beq_iff_eq, bne_iff_ne, beq_eq_false_iff_ne, bne_eq_false_iff_eq, ne_eq, Decidable.not_not] at h7
          refine J_skip ?_
          refine JN_then ?_
          refine J_seq (J_reg [] (
              .cons (.rd 1) _ _ (op_get_ag 1 ag34 (Lk.t rfl) rfl mem_blk rfl rfl) <|
              .cons (.wr 0) _ _ (op_store_b 0 (Lk.t rfl) (Lk.t rfl) co_agg sz34 rfl rfl rfl) <|
              .cons (.no) _ _ (op_assign (Lk.k rfl)) <|
              .nil) ff rfl fun g30 => ⟨_, _, [0], rfl, (.cons 6 rfl <| .cons 7 rfl <| .nil), (.cons 0 rfl <| .nil), ?_⟩)
          refine JN_then ?_
          refine J_ret ?_
          refine JN_ret (.cons (.ag 0 (Lk.t rfl) ag34 rfl rfl rfl) <| .cons (.tmp (Lk.t rfl)) <| .nil) (sb_trans (sb_res (.cons (sb_agg (.cons sb_refl <| .cons sb_refl <| .cons (sb_fk 0 rfl) <| .nil)) <| .cons sb_refl <| .nil)) (sb_trans push_MF (sb_newp ?_)))
          exact ret_MF (by rw [← blkM_3 h1 (by omega) hn (show k = ps.length by omega)]; unfold toldR; rw [if_neg (by simp [h7])])
theorem mFN_ok {ps : List Prt} {t : Int} : CtN Tryd.prog 14 [MotP ps, isv (.int .i64 t)] (resMF 37 (blkM moveB ps t)) := by
  refine CtN.of Tryd.func14 rfl (by kernel_rfl) rfl fun c0 => ?_
  refine J_to To.size ?_
  refine J_to (To.emps 2) ?_
  refine J_seq (J_reg [] (
      .cons (.wr 0) _ _ (op_box 0 (Lk.t rfl) co_agg rfl) <|
      .cons (.wr 1) _ _ (op_alloc 1 zr34 rfl rfl) <|
      .cons (.no) _ _ (op_assign (Lk.k rfl)) <|
      .nil) ff rfl fun g1 => ⟨_, _, [0, 1], rfl, (.cons 1 rfl <| .cons 2 rfl <| .cons 4 rfl <| .nil), (.cons 0 rfl <| .cons 1 rfl <| .nil), ?_⟩)
  refine JN_then ?_
  refine J_seq (J_reg [] (
      .cons (.rd 0) _ _ (op_get_ag 0 ag30 (Lk.t rfl) rfl mem_blk rfl rfl) <|
      .cons (.no) _ _ (op_move (Lk.t rfl)) <|
      .cons (.no) _ _ (op_callN 0 rfl (mblkN_ok moveB_ok) pull_MF ⟨(Lk.t rfl), (Lk.t rfl), (Lk.fnq (α := Prt × Nat) (C := fun _ => True) (ps := fun i => [aggp (prtC i.1), flp i.2]) (R := fun i => slm (slm flp) (moveB i.1 i.2)) (fun i _ => fblk_ok) fblk_ok_has),  trivial⟩) <|
      .cons (.no) _ _ (op_extract (Lk.t rfl) rfl) <|
      .cons (.no) _ _ (op_extract (Lk.t rfl) rfl) <|
      .cons (.wr 1) _ _ (op_store_b 1 (Lk.t rfl) (Lk.t rfl) co_agg sz34 rfl rfl rfl) <|
      .cons (.no) _ _ (op_assign (Lk.t rfl)) <|
      .nil) ff rfl fun g2 => ⟨_, _, [1], rfl, (.cons 4 rfl <| .cons 5 rfl <| .nil), (.cons 1 rfl <| .nil), ?_⟩)
  refine JN_then ?_
  refine J_ret ?_
  refine JN_ret (.cons (.ag 0 (Lk.t rfl) ag34 rfl rfl rfl) <| .cons (.tmp (Lk.t rfl)) <| .nil) (sb_trans (sb_res (.cons sb_refl <| .cons sb_refl <| .nil)) (sb_trans push_MF (sb_newp ?_)))
  exact sb_refl
theorem mFF_ok {ps : List Prt} {t : Int} : CtF Tryd.prog 14 [MotP ps, isv (.int .i64 t)] agP (fun u => tupp [aggp [isv (.int .i64 (blkM moveB ps t).r), isv (.int .i64 (blkM moveB ps t).c), isv u], isv (.int .i64 (blkM moveB ps t).e)]) (fun u => som u flp (blkM moveB ps t).a 37) := CtN.ownM (mFN_ok)
theorem mQN_ok {ps : List Prt} {t : Int} : CtN Tryd.prog 15 [MotP ps, isv (.int .i64 t)] (resMF 37 (blkM noiseB ps t)) := by
  refine CtN.of Tryd.func15 rfl (by kernel_rfl) rfl fun c0 => ?_
  refine J_to To.size ?_
  refine J_to (To.emps 2) ?_
  refine J_seq (J_reg [] (
      .cons (.wr 0) _ _ (op_box 0 (Lk.t rfl) co_agg rfl) <|
      .cons (.wr 1) _ _ (op_alloc 1 zr34 rfl rfl) <|
      .cons (.no) _ _ (op_assign (Lk.k rfl)) <|
      .nil) ff rfl fun g1 => ⟨_, _, [0, 1], rfl, (.cons 1 rfl <| .cons 2 rfl <| .cons 4 rfl <| .nil), (.cons 0 rfl <| .cons 1 rfl <| .nil), ?_⟩)
  refine JN_then ?_
  refine J_seq (J_reg [] (
      .cons (.rd 0) _ _ (op_get_ag 0 ag30 (Lk.t rfl) rfl mem_blk rfl rfl) <|
      .cons (.no) _ _ (op_move (Lk.t rfl)) <|
      .cons (.no) _ _ (op_callN 0 rfl (mblkN_ok noiseB_ok) pull_MF ⟨(Lk.t rfl), (Lk.t rfl), (Lk.fnq (α := Prt × Nat) (C := fun _ => True) (ps := fun i => [aggp (prtC i.1), flp i.2]) (R := fun i => slm (slm flp) (noiseB i.1 i.2)) (fun i _ => qblk_ok) qblk_ok_has),  trivial⟩) <|
      .cons (.no) _ _ (op_extract (Lk.t rfl) rfl) <|
      .cons (.no) _ _ (op_extract (Lk.t rfl) rfl) <|
      .cons (.wr 1) _ _ (op_store_b 1 (Lk.t rfl) (Lk.t rfl) co_agg sz34 rfl rfl rfl) <|
      .cons (.no) _ _ (op_assign (Lk.t rfl)) <|
      .nil) ff rfl fun g2 => ⟨_, _, [1], rfl, (.cons 4 rfl <| .cons 5 rfl <| .nil), (.cons 1 rfl <| .nil), ?_⟩)
  refine JN_then ?_
  refine J_ret ?_
  refine JN_ret (.cons (.ag 0 (Lk.t rfl) ag34 rfl rfl rfl) <| .cons (.tmp (Lk.t rfl)) <| .nil) (sb_trans (sb_res (.cons sb_refl <| .cons sb_refl <| .nil)) (sb_trans push_MF (sb_newp ?_)))
  exact sb_refl
theorem mQF_ok {ps : List Prt} {t : Int} : CtF Tryd.prog 15 [MotP ps, isv (.int .i64 t)] agP (fun u => tupp [aggp [isv (.int .i64 (blkM noiseB ps t).r), isv (.int .i64 (blkM noiseB ps t).c), isv u], isv (.int .i64 (blkM noiseB ps t).e)]) (fun u => som u flp (blkM noiseB ps t).a 37) := CtN.ownM (mQN_ok)
theorem mGN_ok {ps : List Prt} {t : Int} : CtN Tryd.prog 16 [MotP ps, isv (.int .i64 t)] (resMF 37 (blkM rootB ps t)) := by
  refine CtN.of Tryd.func16 rfl (by kernel_rfl) rfl fun c0 => ?_
  refine J_to To.size ?_
  refine J_to (To.emps 2) ?_
  refine J_seq (J_reg [] (
      .cons (.wr 0) _ _ (op_box 0 (Lk.t rfl) co_agg rfl) <|
      .cons (.wr 1) _ _ (op_alloc 1 zr34 rfl rfl) <|
      .cons (.no) _ _ (op_assign (Lk.k rfl)) <|
      .nil) ff rfl fun g1 => ⟨_, _, [0, 1], rfl, (.cons 1 rfl <| .cons 2 rfl <| .cons 4 rfl <| .nil), (.cons 0 rfl <| .cons 1 rfl <| .nil), ?_⟩)
  refine JN_then ?_
  refine J_seq (J_reg [] (
      .cons (.rd 0) _ _ (op_get_ag 0 ag30 (Lk.t rfl) rfl mem_blk rfl rfl) <|
      .cons (.no) _ _ (op_move (Lk.t rfl)) <|
      .cons (.no) _ _ (op_callN 0 rfl (mblkN_ok rootB_ok) pull_MF ⟨(Lk.t rfl), (Lk.t rfl), (Lk.fnq (α := Prt × Nat) (C := fun _ => True) (ps := fun i => [aggp (prtC i.1), flp i.2]) (R := fun i => slm (slm flp) (rootB i.1 i.2)) (fun i _ => gblk_ok) gblk_ok_has),  trivial⟩) <|
      .cons (.no) _ _ (op_extract (Lk.t rfl) rfl) <|
      .cons (.no) _ _ (op_extract (Lk.t rfl) rfl) <|
      .cons (.wr 1) _ _ (op_store_b 1 (Lk.t rfl) (Lk.t rfl) co_agg sz34 rfl rfl rfl) <|
      .cons (.no) _ _ (op_assign (Lk.t rfl)) <|
      .nil) ff rfl fun g2 => ⟨_, _, [1], rfl, (.cons 4 rfl <| .cons 5 rfl <| .nil), (.cons 1 rfl <| .nil), ?_⟩)
  refine JN_then ?_
  refine J_ret ?_
  refine JN_ret (.cons (.ag 0 (Lk.t rfl) ag34 rfl rfl rfl) <| .cons (.tmp (Lk.t rfl)) <| .nil) (sb_trans (sb_res (.cons sb_refl <| .cons sb_refl <| .nil)) (sb_trans push_MF (sb_newp ?_)))
  exact sb_refl
theorem mGF_ok {ps : List Prt} {t : Int} : CtF Tryd.prog 16 [MotP ps, isv (.int .i64 t)] agP (fun u => tupp [aggp [isv (.int .i64 (blkM rootB ps t).r), isv (.int .i64 (blkM rootB ps t).c), isv u], isv (.int .i64 (blkM rootB ps t).e)]) (fun u => som u flp (blkM rootB ps t).a 37) := CtN.ownM (mGN_ok)
theorem mpickN_ok {ps : List Prt} {es : List Int} : CtN Tryd.prog 17 [MotP ps, ils .i64 es] (resMF 37 (pickM ps es)) := by
  refine CtN.of Tryd.func17 rfl (by kernel_rfl) rfl fun c0 => ?_
  refine J_to To.size ?_
  refine J_lenP 0 rfl fun hlen => ?_
  refine J_len 1 rfl fun hlen2 => ?_
  refine J_to (To.emps 2) ?_
  refine J_seq (J_reg [] (
      .cons (.wr 0) _ _ (op_box 0 (Lk.t rfl) co_agg rfl) <|
      .cons (.wr 1) _ _ (op_alloc 1 zr34 rfl rfl) <|
      .cons (.no) _ _ (op_assign (Lk.k rfl)) <|
      .nil) ff rfl fun g1 => ⟨_, _, [0, 1], rfl, (.cons 1 rfl <| .cons 2 rfl <| .cons 4 rfl <| .nil), (.cons 0 rfl <| .cons 1 rfl <| .nil), ?_⟩)
  refine JN_then ?_
  refine J_seq (J_reg [] (
      .cons (.rd 0) _ _ (op_get_ag 0 ag30 (Lk.t rfl) rfl mem_blk rfl rfl) <|
      .cons (.no) _ _ (op_call (mdim_ok) ⟨(Lk.t rfl),  trivial⟩) <|
      .cons (.no) _ _ (op_move (Lk.t rfl)) <|
      .cons (.no) _ _ (op_extract (Lk.t rfl) rfl) <|
      .cons (.no) _ _ (op_extract (Lk.t rfl) rfl) <|
      .cons (.no) _ _ (op_assign (Lk.t rfl)) <|
      .cons (.no) _ _ (op_assign (Lk.t rfl)) <|
      .nil) ff rfl fun g2 => ⟨_, _, [1], rfl, (.cons 1 rfl <| .cons 4 rfl <| .cons 6 rfl <| .cons 7 rfl <| .nil), (.cons 1 rfl <| .nil), ?_⟩)
  refine JN_then ?_
  refine J_seq ?_
  refine J_seq (J_reg [] (
      .cons (.no) _ _ (op_move (Lk.t rfl)) <|
      .cons (.no) _ _ (op_cmp (by simp) (Lk.t rfl) (Lk.k rfl) rfl) <|
      .nil) ff rfl fun g3 => ⟨_, _, [0], rfl, (.cons 1 rfl <| .cons 4 rfl <| .cons 6 rfl <| .cons 7 rfl <| .cons 18 rfl <| .nil), (.cons 0 rfl <| .nil), ?_⟩)
  refine JN_then ?_
  refine J_cond (cond_of (Lk.t rfl)) (fun h1 => ?_) (fun h1 => ?_)
  · have h1' := h1
    try simp only [cmpB, Bool.and_eq_true, Bool.or_eq_true, Bool.and_eq_false_iff, Bool.or_eq_false_iff, Bool.not_eq_true', Bool.not_eq_false', Bool.not_eq_true, Bool.not_eq_false, decide_eq_true_eq, decide_eq_false_iff_not, Int.not_lt, Int.not_le, beq_iff_eq, bne_iff_ne, beq_eq_false_iff_ne, bne_eq_false_iff_eq, ne_eq, Decidable.not_not] at h1
    rw [dimR_e] at h1
    refine J_seq (J_reg [] (
        .cons (.no) _ _ (op_build zr34 rfl pl34 .nil) <|
        .cons (.no) _ _ (op_move (Lk.t rfl)) <|
        .cons (.wr 0) _ _ (op_store_b 0 (Lk.t rfl) (Lk.t rfl) co_agg sz34 rfl rfl rfl) <|
        .cons (.no) _ _ (op_assign (Lk.t rfl)) <|
        .nil) ff rfl fun g4 => ⟨_, _, [0], rfl, (.cons 4 rfl <| .cons 5 rfl <| .nil), (.cons 0 rfl <| .nil), ?_⟩)
    refine JN_then ?_
    refine J_ret ?_
    refine JN_then_ret ?_
    refine JN_ret (.cons (.ag 0 (Lk.t rfl) ag34 rfl rfl rfl) <| .cons (.tmp (Lk.t rfl)) <| .nil) (sb_trans (sb_res (.cons (sb_agg (.cons sb_refl <| .cons sb_refl <| .cons (sb_nilF (mk := flp) (T := 37)) <| .nil)) <| .cons sb_refl <| .nil)) (sb_trans push_MF (sb_newp ?_)))
    rw [dimR_e]
    exact ret_MF (pickM_1 h1)
  · have h1' := h1
    try simp only [cmpB, Bool.and_eq_true, Bool.or_eq_true, Bool.and_eq_false_iff, Bool.or_eq_false_iff, Bool.not_eq_true', Bool.not_eq_false', Bool.not_eq_true, Bool.not_eq_false, decide_eq_true_eq, decide_eq_false_iff_not, Int.not_lt, Int.not_le, beq_iff_eq, bne_iff_ne, beq_eq_false_iff_ne, bne_eq_false_iff_eq, ne_eq, Decidable.not_not] at h1
    rw [dimR_e] at h1
    obtain ⟨h0, hgd, htl⟩ := mot_good h1
    have htl0 := (tot_rng hgd).1
    have hda : (dimR ps).a = tot ps ps.length := by rw [dimR_ok h1]
    obtain ⟨n, hn⟩ : ∃ n, n = tot ps ps.length := ⟨_, rfl⟩
    rw [hda, ← hn]
    have hme : motE ps = 0 := h1
    refine J_skip ?_
    refine JN_then ?_
    refine J_seq ?_
    refine J_seq (J_reg [] (
        .cons (.no) _ _ (op_move (Lk.t rfl)) <|
        .cons (.no) _ _ (op_len_m sl27 (Lk.t rfl)) <|
        .cons (.no) _ _ (op_cmp (by simp) (Lk.t rfl) (Lk.k rfl) rfl) <|
        .cons (.no) _ _ (op_move (Lk.t rfl)) <|
        .cons (.no) _ _ (op_guard rfl rfl (gd_b rfl) (fun hC => (op_move (Lk.t rfl)))) <|
        .cons (.no) _ _ (op_guard rfl rfl (gd_b rfl) (fun hC => (op_len_m sl27 (Lk.w rfl hC)))) <|
        .cons (.no) _ _ (op_guard rfl rfl (gd_b rfl) (fun hC => (op_cmp (by simp) (Lk.w rfl hC) (Lk.k rfl) rfl))) <|
        .cons (.no) _ _ (op_or (Lk.t rfl) (fun h2 => (Lk.w rfl h2))) <|
        .nil) ff rfl fun g5 => ⟨_, _, [0], rfl, (.cons 1 rfl <| .cons 4 rfl <| .cons 6 rfl <| .cons 28 rfl <| .nil), (.cons 0 rfl <| .nil), ?_⟩)
    refine JN_then ?_
    refine J_cond (cond_of (Lk.t rfl)) (fun h2 => ?_) (fun h2 => ?_)
    · have h2' := h2
      try simp only [cmpB, Bool.and_eq_true, Bool.or_eq_true, Bool.and_eq_false_iff, Bool.or_eq_false_iff, Bool.not_eq_true', Bool.not_eq_false', Bool.not_eq_true, Bool.not_eq_false, decide_eq_true_eq, decide_eq_false_iff_not, Int.not_lt, Int.not_le, beq_iff_eq, bne_iff_ne, beq_eq_false_iff_ne, bne_eq_false_iff_eq, ne_eq, Decidable.not_not] at h2
      refine J_seq (J_reg [] (
          .cons (.no) _ _ (op_build zr34 rfl pl34 .nil) <|
          .cons (.wr 0) _ _ (op_store_b 0 (Lk.t rfl) (Lk.t rfl) co_agg sz34 rfl rfl rfl) <|
          .cons (.no) _ _ (op_assign (Lk.k rfl)) <|
          .nil) ff rfl fun g6 => ⟨_, _, [0], rfl, (.cons 4 rfl <| .cons 5 rfl <| .nil), (.cons 0 rfl <| .nil), ?_⟩)
      refine JN_then ?_
      refine J_ret ?_
      refine JN_then_ret ?_
      refine JN_ret (.cons (.ag 0 (Lk.t rfl) ag34 rfl rfl rfl) <| .cons (.tmp (Lk.t rfl)) <| .nil) (sb_trans (sb_res (.cons (sb_agg (.cons sb_refl <| .cons sb_refl <| .cons (sb_nilF (mk := flp) (T := 37)) <| .nil)) <| .cons sb_refl <| .nil)) (sb_trans push_MF (sb_newp ?_)))
      exact ret_MF (pickM_2 hme (by omega))
    · have h2' := h2
      try simp only [cmpB, Bool.and_eq_true, Bool.or_eq_true, Bool.and_eq_false_iff, Bool.or_eq_false_iff, Bool.not_eq_true', Bool.not_eq_false', Bool.not_eq_true, Bool.not_eq_false, decide_eq_true_eq, decide_eq_false_iff_not, Int.not_lt, Int.not_le, beq_iff_eq, bne_iff_ne, beq_eq_false_iff_ne, bne_eq_false_iff_eq, ne_eq, Decidable.not_not] at h2
      have hs : Siz (es.length : Int) n := ⟨by omega, by omega, by omega, by omega⟩
      have hsq := pick_sq (L := es.length) (n := n) (by omega) (by omega) (by omega)
      refine J_skip ?_
      refine JN_then ?_
      refine J_to (To.emps 2) ?_
      refine J_seq (J_reg [] (
          .cons (.no) _ _ (op_move (Lk.t rfl)) <|
          .cons (.no) _ _ (op_len_m sl27 (Lk.t rfl)) <|
          .cons (.no) _ _ (op_move (Lk.t rfl)) <|
          .cons (.wr 1) _ _ (op_callF 1 (zeroF_ok hs) ⟨(Lk.t rfl), (Lk.t rfl),  trivial⟩ rfl) <|
          .cons (.no) _ _ (op_move_ve rfl rfl) <|
          .cons (.no) _ _ (op_ve 30 35 rfl rfl rfl (fun f => op_extract (Lk.t rfl) rfl) (fun f g h => by first | rfl | rw [h 34 (show 34 ∈ [34] from by decide)]) rfl) <|
          .cons (.no) _ _ (op_ve 30 36 rfl rfl rfl (fun f => op_extract (Lk.t rfl) rfl) (fun f g h => by first | rfl | rw [h 34 (show 34 ∈ [34] from by decide)]) rfl) <|
          .cons (.wr 2) _ _ (op_alloc 2 zr34 rfl rfl) <|
          .cons (.wr 2) _ _ (op_store_new_ve 2 rfl rfl rfl (fun f => co_agg) (fun f g h => by rw [h 34 (show 34 ∈ [34] from by decide)]) (fun _ => sz34) rfl (fun _ => rfl) rfl) <|
          .cons (.no) _ _ (op_assign_ve rfl rfl) <|
          .nil) ff rfl fun g7 => ⟨_, _, [0, 1, 2], rfl, (.cons 1 rfl <| .cons 4 rfl <| .cons 6 rfl <| .cons 8 rfl <| .nil), (.cons 0 rfl <| .cons 1 rfl <| .cons 2 rfl <| .nil), ?_⟩)
      refine JN_then ?_
      refine J_seq ?_
      refine J_seq (J_reg [] (
          .cons (.no) _ _ (op_move (Lk.t rfl)) <|
          .cons (.no) _ _ (op_len_m sl27 (Lk.t rfl)) <|
          .cons (.no) _ _ (op_move (Lk.k rfl)) <|
          .nil) ff rfl fun g8 => ⟨_, _, [0, 1, 2], rfl, (.cons 4 rfl <| .cons 6 rfl <| .cons 8 rfl <| .cons 37 rfl <| .cons 38 rfl <| .cons 39 rfl <| .nil), (.cons 0 rfl <| .cons 1 rfl <| .cons 2 rfl <| .nil), ?_⟩)
      refine JN_then ?_
      refine J_block ?_
      refine J_loopc (α := Nat) (fun k => k ≤ es.length ∧ PlTo n es k) (fun k => es.length - k) (fun k restR => (39, isv (.int .i64 (k : Int))) :: restR) (fun k restS => som (agP (g7 34)) flp (pickT n es k) 37 :: restS) (ρc := [(4, _), (6, _), (8, _), (37, _), (38, _)]) (σc := [_, _]) 0 (by exact ⟨Nat.zero_le _, plTo_zero⟩) (To.pick (fun _ => .sub (t := 39) rfl (sp_eq (by rfl)) <| .cons 4 rfl <| .cons 6 rfl <| .cons 8 rfl <| .cons 37 rfl <| .cons 38 rfl <| .nil) (fun _ => .sub 1 rfl ((fun _ _ h => h)) <| .cons 0 rfl <| .cons 2 rfl <| .nil) (ks := [1, 0, 2]) rfl) (fun k hI => ?_)
      obtain ⟨hk, hp⟩ := hI
      have hpt := @pickT_len n es k
      refine J_seq (J_reg [] (
          .cons (.no) _ _ (op_cmp (by simp) (Lk.t rfl) (Lk.t rfl) rfl) <|
          .nil) ff rfl fun g9 => ⟨_, _, [0, 1, 2], rfl, (.cons 4 rfl <| .cons 6 rfl <| .cons 8 rfl <| .cons 37 rfl <| .cons 38 rfl <| .cons 39 rfl <| .cons 40 rfl <| .nil), (.cons 0 rfl <| .cons 1 rfl <| .cons 2 rfl <| .nil), ?_⟩)
      refine JN_then ?_
      refine J_seq ?_
      refine J_cond (cond_of (Lk.t rfl)) (fun h3 => ?_) (fun h3 => ?_)
      · have h3' := h3
        try simp only [cmpB, Bool.and_eq_true, Bool.or_eq_true, Bool.and_eq_false_iff, Bool.or_eq_false_iff, Bool.not_eq_true', Bool.not_eq_false', Bool.not_eq_true, Bool.not_eq_false, decide_eq_true_eq, decide_eq_false_iff_not, Int.not_lt, Int.not_le, beq_iff_eq, bne_iff_ne, beq_eq_false_iff_ne, bne_eq_false_iff_eq, ne_eq, Decidable.not_not] at h3
        refine J_skip ?_
        refine JN_then ?_
        refine J_seq ?_
        refine J_block ?_
        refine J_seq (J_reg [] (
            .cons (.no) _ _ (op_move (Lk.t rfl)) <|
            .cons (.no) _ _ (op_index_m 0 sl27 (Lk.t rfl) (Lk.t rfl) (by omega) (by omega)) <|
            .cons (.no) _ _ (op_load_sc sc3 (Lk.t rfl) rfl) <|
            .cons (.no) _ _ (op_assign (Lk.t rfl)) <|
            .cons (.no) _ _ (op_assign (Lk.t rfl)) <|
            .nil) ff rfl fun g10 => ⟨_, _, [0, 1, 2], rfl, (.cons 4 rfl <| .cons 6 rfl <| .cons 8 rfl <| .cons 10 rfl <| .cons 11 rfl <| .cons 37 rfl <| .cons 38 rfl <| .cons 39 rfl <| .nil), (.cons 0 rfl <| .cons 1 rfl <| .cons 2 rfl <| .nil), ?_⟩)
        refine JN_then ?_
        refine J_seq ?_
        refine J_seq (J_reg [] (
            .cons (.no) _ _ (op_move (Lk.t rfl)) <|
            .cons (.no) _ _ (op_cmp (by simp) (Lk.t rfl) (Lk.k rfl) rfl) <|
            .cons (.no) _ _ (op_move (Lk.t rfl)) <|
            .cons (.no) _ _ (op_guard rfl rfl (gd_b rfl) (fun hC => (op_move (Lk.t rfl)))) <|
            .cons (.no) _ _ (op_guard rfl rfl (gd_b rfl) (fun hC => (op_move (Lk.t rfl)))) <|
            .cons (.no) _ _ (op_guard rfl rfl (gd_b rfl) (fun hC => (op_cmp (by simp) (Lk.w rfl hC) (Lk.w rfl hC) rfl))) <|
            .cons (.no) _ _ (op_or (Lk.t rfl) (fun h2 => (Lk.w rfl h2))) <|
            .nil) ff rfl fun g11 => ⟨_, _, [0, 1, 2], rfl, (.cons 4 rfl <| .cons 6 rfl <| .cons 8 rfl <| .cons 10 rfl <| .cons 11 rfl <| .cons 37 rfl <| .cons 38 rfl <| .cons 39 rfl <| .cons 50 rfl <| .nil), (.cons 0 rfl <| .cons 1 rfl <| .cons 2 rfl <| .nil), ?_⟩)
        refine JN_then ?_
        refine J_cond (cond_of (Lk.t rfl)) (fun h4 => ?_) (fun h4 => ?_)
        · have h4' := h4
          try simp only [cmpB, Bool.and_eq_true, Bool.or_eq_true, Bool.and_eq_false_iff, Bool.or_eq_false_iff, Bool.not_eq_true', Bool.not_eq_false', Bool.not_eq_true, Bool.not_eq_false, decide_eq_true_eq, decide_eq_false_iff_not, Int.not_lt, Int.not_le, beq_iff_eq, bne_iff_ne, beq_eq_false_iff_ne, bne_eq_false_iff_eq, ne_eq, Decidable.not_not] at h4
          refine J_seq (J_reg [] (
              .cons (.no) _ _ (op_build zr34 rfl pl34 .nil) <|
              .cons (.wr 1) _ _ (op_store_b 1 (Lk.t rfl) (Lk.t rfl) co_agg sz34 rfl rfl rfl) <|
              .cons (.no) _ _ (op_assign (Lk.k rfl)) <|
              .nil) ff rfl fun g12 => ⟨_, _, [1], rfl, (.cons 4 rfl <| .cons 5 rfl <| .nil), (.cons 1 rfl <| .nil), ?_⟩)
          refine JN_then ?_
          refine J_ret ?_
          refine JN_then_ret ?_
          refine JN_block_ret ?_
          refine JN_then_ret ?_
          refine JN_then_ret ?_
          refine JN_block_ret ?_
          refine JN_then_ret ?_
          refine JN_ret (.cons (.ag 0 (Lk.t rfl) ag34 rfl rfl rfl) <| .cons (.tmp (Lk.t rfl)) <| .nil) (sb_trans (sb_res (.cons (sb_agg (.cons sb_refl <| .cons sb_refl <| .cons (sb_nilF (mk := flp) (T := 37)) <| .nil)) <| .cons sb_refl <| .nil)) (sb_trans push_MF (sb_newp ?_)))
          exact ret_MF (pickM_3 hme hn (show k < es.length by omega) h4)
        · have h4' := h4
          try simp only [cmpB, Bool.and_eq_true, Bool.or_eq_true, Bool.and_eq_false_iff, Bool.or_eq_false_iff, Bool.not_eq_true', Bool.not_eq_false', Bool.not_eq_true, Bool.not_eq_false, decide_eq_true_eq, decide_eq_false_iff_not, Int.not_lt, Int.not_le, beq_iff_eq, bne_iff_ne, beq_eq_false_iff_ne, bne_eq_false_iff_eq, ne_eq, Decidable.not_not] at h4
          have hpl : 0 ≤ (es.getD ((k : Nat) : Int).toNat 0) ∧ (es.getD ((k : Nat) : Int).toNat 0) < n := by omega
          have hpr := pick_rng (show k < es.length by omega) hpl.1 hpl.2
          refine J_skip ?_
          refine JN_then ?_
          refine (J_reg [] (
              .cons (.no) _ _ (op_field_own fd34_2 (Lk.t rfl) rfl) <|
              .cons (.rd 2) _ _ (op_get_sc 2 sc32 (Lk.t rfl) rfl mem_blk rfl) <|
              .cons (.no) _ _ (op_move (Lk.t rfl)) <|
              .cons (.no) _ _ (op_move (Lk.t rfl)) <|
              .cons (.no) _ _ (op_mul (Lk.t rfl) (Lk.t rfl) (wrap_id (by omega) (by omega))) <|
              .cons (.no) _ _ (op_move (Lk.t rfl)) <|
              .cons (.no) _ _ (op_add (Lk.t rfl) (Lk.t rfl) (wrap_id (by omega) (by omega))) <|
              .cons (.rd 0) _ _ (op_index_som 0 sl32 (Lk.t rfl) (Lk.t rfl) rfl (by omega) (by omega)) <|
              .cons (.wr 0) _ _ (op_store_som 0 (Lk.t rfl) (Lk.fk rfl (by decide +kernel)) co_flp sz37 rfl (by omega)) <|
              .nil) ff rfl fun g13 => ⟨_, _, [0, 1, 2], rfl, (.cons 4 rfl <| .cons 6 rfl <| .cons 8 rfl <| .cons 37 rfl <| .cons 38 rfl <| .cons 39 rfl <| .nil), (.cons 0 rfl <| .cons 1 rfl <| .cons 2 rfl <| .nil), ?_⟩)
          refine JN_block ?_
          refine JN_then ?_
          refine (J_reg [] (
              .cons (.no) _ _ (op_add (Lk.t rfl) (Lk.k rfl) (wrap_id (by omega) (by omega))) <|
              .cons (.no) _ _ (op_move (Lk.t rfl)) <|
              .nil) ff rfl fun g14 => ⟨_, _, [0, 1, 2], rfl, (.cons 4 rfl <| .cons 6 rfl <| .cons 8 rfl <| .cons 37 rfl <| .cons 38 rfl <| .cons 39 rfl <| .nil), (.cons 0 rfl <| .cons 1 rfl <| .cons 2 rfl <| .nil), ?_⟩)
          exact JN_again (k + 1) (by exact ⟨by omega, plTo_step hp hpl⟩) (by omega) (To.pick (fun _ => .sub (t := 39) rfl (sp_eq (by rfl)) <| .cons 4 rfl <| .cons 6 rfl <| .cons 8 rfl <| .cons 37 rfl <| .cons 38 rfl <| .nil) (fun _ => .sub 0 rfl ((fun _ _ h => h)) <| .cons 1 rfl <| .cons 2 rfl <| .nil) (ks := [0, 1, 2]) rfl)
      · have h3' := h3
        try simp only [cmpB, Bool.and_eq_true, Bool.or_eq_true, Bool.and_eq_false_iff, Bool.or_eq_false_iff, Bool.not_eq_true', Bool.not_eq_false', Bool.not_eq_true, Bool.not_eq_false, decide_eq_true_eq, decide_eq_false_iff_not, Int.not_lt, Int.not_le, beq_iff_eq, bne_iff_ne, beq_eq_false_iff_ne, bne_eq_false_iff_eq, ne_eq, Decidable.not_not] at h3
        refine J_exit ?_
        refine JN_then_exit ?_
        refine JN_then_exit ?_
        refine JN_exit_here ?_
        refine JN_then ?_
        refine J_seq (J_reg [] (
            .cons (.rd 2) _ _ (op_get_ag 2 ag34 (Lk.t rfl) rfl mem_blk rfl rfl) <|
            .cons (.wr 1) _ _ (op_store_b 1 (Lk.t rfl) (Lk.t rfl) co_agg sz34 rfl rfl rfl) <|
            .cons (.no) _ _ (op_assign (Lk.k rfl)) <|
            .nil) ff rfl fun g15 => ⟨_, _, [0, 1], rfl, (.cons 4 rfl <| .cons 5 rfl <| .nil), (.cons 0 rfl <| .cons 1 rfl <| .nil), ?_⟩)
        refine JN_then ?_
        refine J_ret ?_
        refine JN_to (To.freezeN 0 (fun _ h => h) rfl frz_fos (pure_som pure_flp).n rfl) ?_
        refine JN_ret (.cons (.ag 1 (Lk.t rfl) ag34 rfl rfl rfl) <| .cons (.tmp (Lk.t rfl)) <| .nil) (sb_trans (sb_res (.cons (sb_agg (.cons sb_refl <| .cons sb_refl <| .cons (sb_fk 0 rfl) <| .nil)) <| .cons sb_refl <| .nil)) (sb_trans push_MF (sb_newp ?_)))
        exact ret_MF (pickM_4 hme (by omega) hn (by omega) hp)
theorem mpickF_ok {ps : List Prt} {es : List Int} : CtF Tryd.prog 17 [MotP ps, ils .i64 es] agP (fun u => tupp [aggp [isv (.int .i64 (pickM ps es).r), isv (.int .i64 (pickM ps es).c), isv u], isv (.int .i64 (pickM ps es).e)]) (fun u => som u flp (pickM ps es).a 37) := CtN.ownM (mpickN_ok)
theorem mvN_ok {r c : Int} {xs ys : List Nat} : CtN Tryd.prog 32 [MatP r c xs, fls ys] (resVF 37 (mvR r c xs ys)) := by
  refine CtN.of Tryd.func32 rfl (by kernel_rfl) rfl fun c0 => ?_
  refine J_to To.size ?_
  refine J_to (To.emps 1) ?_
  refine J_seq (J_reg [] (
      .cons (.wr 0) _ _ (op_box 0 (Lk.t rfl) co_agg rfl) <|
      .cons (.no) _ _ (op_assign (Lk.k rfl)) <|
      .cons (.no) _ _ (op_assign (Lk.k rfl)) <|
      .nil) ff rfl fun g1 => ⟨_, _, [0], rfl, (.cons 1 rfl <| .cons 2 rfl <| .nil), (.cons 0 rfl <| .nil), ?_⟩)
  refine JN_then ?_
  refine J_seq ?_
  refine J_seq (J_reg [[], [0], [], [0, 1, 2], [], [4], [], [6], [4, 5, 6, 7], [0, 1, 2, 3, 4, 5, 6, 7, 8], [0, 1, 2, 3, 4, 5, 6, 7, 8, 9], [0, 1, 2, 3, 4, 5, 6, 7, 8, 9, 10], [0, 1, 2, 3, 4, 5, 6, 7, 8, 9, 10, 11]] (
      .cons (.rd 0) _ _ (op_get_ag 0 ag34 (Lk.t rfl) rfl mem_blk rfl rfl) <|
      .cons (.no) _ _ (op_call (chk_ok) ⟨(Lk.t rfl),  trivial⟩) <|
      .cons (.no) _ _ (op_move (Lk.t rfl)) <|
      .cons (.no) _ _ (op_call (list_ok) ⟨(Lk.t rfl),  trivial⟩) <|
      .cons (.no) _ _ (op_field_own fd34_1 (Lk.t rfl) rfl) <|
      .cons (.rd 0) _ _ (op_get_sc 0 sc3 (Lk.t rfl) rfl mem_blk rfl) <|
      .cons (.no) _ _ (op_move (Lk.t rfl)) <|
      .cons (.no) _ _ (op_len_m sl32 (Lk.t rfl)) <|
      .cons (.no) _ _ (op_cmp (by simp) (Lk.t rfl) (Lk.t rfl) rfl) <|
      .cons (.no) _ _ (op_call (when_ok) ⟨(Lk.t rfl), (Lk.k rfl),  trivial⟩) <|
      .cons (.no) _ _ (op_buildSlice sl93 zr45 rfl rfl rfl rfl (.cons rfl (Lk.t rfl) co_isv rfl (puts_l rfl (Nat.le_of_ble_eq_true rfl)) (.cons rfl (Lk.t rfl) co_isv rfl (puts_l rfl (Nat.le_of_ble_eq_true rfl)) (.cons rfl (Lk.t rfl) co_isv rfl (puts_l rfl (Nat.le_of_ble_eq_true rfl)) .nil)))) <|
      .cons (.no) _ _ (op_call (first_ok3) ⟨(Lk.t rfl),  trivial⟩) <|
      .cons (.no) _ _ (op_assign (Lk.t rfl)) <|
      .nil) (fun _ => mixed) rfl fun g2 => ⟨_, _, [0], rfl, (.cons 1 rfl <| .cons 2 rfl <| .cons 6 rfl <| .nil), (.cons 0 rfl <| .nil), ?_⟩)
  refine JN_then ?_
  refine J_seq (J_reg [] (
      .cons (.no) _ _ (op_move (Lk.t rfl)) <|
      .cons (.no) _ _ (op_cmp (by simp) (Lk.t rfl) (Lk.k rfl) rfl) <|
      .nil) ff rfl fun g3 => ⟨_, _, [0], rfl, (.cons 1 rfl <| .cons 2 rfl <| .cons 6 rfl <| .cons 22 rfl <| .nil), (.cons 0 rfl <| .nil), ?_⟩)
  refine JN_then ?_
  refine J_cond (cond_of (Lk.t rfl)) (fun h1 => ?_) (fun h1 => ?_)
  · have h1' := h1
    try simp only [cmpB, Bool.and_eq_true, Bool.or_eq_true, Bool.and_eq_false_iff, Bool.or_eq_false_iff, Bool.not_eq_true', Bool.not_eq_false', Bool.not_eq_true, Bool.not_eq_false, decide_eq_true_eq, decide_eq_false_iff_not, Int.not_lt, Int.not_le, beq_iff_eq, bne_iff_ne, beq_eq_false_iff_ne, bne_eq_false_iff_eq, ne_eq, Decidable.not_not] at h1
    refine J_seq (J_reg [] (
        .cons (.no) _ _ (op_move (Lk.t rfl)) <|
        .cons (.no) _ _ (op_assign (Lk.k rfl)) <|
        .cons (.no) _ _ (op_assign (Lk.t rfl)) <|
        .nil) ff rfl fun g4 => ⟨_, _, [], rfl, (.cons 4 rfl <| .cons 5 rfl <| .nil), (.nil), ?_⟩)
    refine JN_then ?_
    refine J_ret ?_
    refine JN_then_ret ?_
    refine JN_ret (.cons (.tmp (Lk.t rfl)) <| .cons (.tmp (Lk.t rfl)) <| .nil) (sb_trans (sb_res (.cons (sb_nilF (mk := flp) (T := 37)) <| .cons sb_refl <| .nil)) (sb_trans push_VF (sb_newp ?_)))
    exact ret_LF (by unfold mvR orL; exact (if_neg h1).symm)
  · have h1' := h1
    try simp only [cmpB, Bool.and_eq_true, Bool.or_eq_true, Bool.and_eq_false_iff, Bool.or_eq_false_iff, Bool.not_eq_true', Bool.not_eq_false', Bool.not_eq_true, Bool.not_eq_false, decide_eq_true_eq, decide_eq_false_iff_not, Int.not_lt, Int.not_le, beq_iff_eq, bne_iff_ne, beq_eq_false_iff_ne, bne_eq_false_iff_eq, ne_eq, Decidable.not_not] at h1
    obtain ⟨hg, hl, _, _⟩ := mvE_good h1
    obtain ⟨hs1, hs2, hs3, hs4⟩ := hg.1
    refine J_skip ?_
    refine JN_then ?_
    refine J_seq (J_reg [] (
        .cons (.no) _ _ (op_assign (Lk.k rfl)) <|
        .nil) ff rfl fun g5 => ⟨_, _, [0], rfl, (.cons 1 rfl <| .cons 2 rfl <| .cons 7 rfl <| .nil), (.cons 0 rfl <| .nil), ?_⟩)
    refine JN_then ?_
    refine J_seq ?_
    refine J_seq (J_reg [] (
        .cons (.no) _ _ (op_field_own fd34_0 (Lk.t rfl) rfl) <|
        .cons (.rd 0) _ _ (op_get_sc 0 sc3 (Lk.t rfl) rfl mem_blk rfl) <|
        .cons (.no) _ _ (op_move (Lk.k rfl)) <|
        .nil) ff rfl fun g6 => ⟨_, _, [0], rfl, (.cons 1 rfl <| .cons 2 rfl <| .cons 7 rfl <| .cons 25 rfl <| .cons 26 rfl <| .nil), (.cons 0 rfl <| .nil), ?_⟩)
    refine JN_then ?_
    refine J_block ?_
    refine J_to (To.emps 1) ?_
    refine J_loopc (α := Nat × Value) (fun x => x.1 ≤ r.toNat) (fun x => r.toNat - x.1) (fun x restR => (26, isv (.int .i64 (x.1 : Int))) :: (7, isv x.2) :: restR) (fun x restS => som x.2 flp ((mvG r c xs ys).take x.1) 37 :: restS) (ρc := [(1, _), (2, _), (25, _)]) (σc := [_]) (0, .slice none 0 0) (by exact Nat.zero_le _) (To.pick (fun _ => .sub (t := 26) rfl (sp_eq (by rfl)) <| .sub (t := 7) rfl (sp_eq (by rfl)) <| .cons 1 rfl <| .cons 2 rfl <| .cons 25 rfl <| .nil) (fun _ => .sub 1 rfl (som_nil) <| .cons 0 rfl <| .nil) (ks := [1, 0]) rfl) (fun x hI => ?_)
    obtain ⟨k, sv⟩ := x
    try simp only at hI
    show J _ _ ((26, isv (.int .i64 (k : Int))) :: (7, isv sv) :: _) (som sv flp ((mvG r c xs ys).take k) 37 :: _) _ _
    refine J_seq (J_reg [] (
        .cons (.no) _ _ (op_cmp (by simp) (Lk.t rfl) (Lk.t rfl) rfl) <|
        .nil) ff rfl fun g7 => ⟨_, _, [0, 1], rfl, (.cons 1 rfl <| .cons 2 rfl <| .cons 7 rfl <| .cons 25 rfl <| .cons 26 rfl <| .cons 27 rfl <| .nil), (.cons 0 rfl <| .cons 1 rfl <| .nil), ?_⟩)
    refine JN_then ?_
    refine J_seq ?_
    refine J_cond (cond_of (Lk.t rfl)) (fun h2 => ?_) (fun h2 => ?_)
    · have h2' := h2
      try simp only [cmpB, Bool.and_eq_true, Bool.or_eq_true, Bool.and_eq_false_iff, Bool.or_eq_false_iff, Bool.not_eq_true', Bool.not_eq_false', Bool.not_eq_true, Bool.not_eq_false, decide_eq_true_eq, decide_eq_false_iff_not, Int.not_lt, Int.not_le, beq_iff_eq, bne_iff_ne, beq_eq_false_iff_ne, bne_eq_false_iff_eq, ne_eq, Decidable.not_not] at h2
      refine J_skip ?_
      refine JN_then ?_
      refine J_seq ?_
      refine J_block ?_
      refine J_seq (J_reg [] (
          .cons (.no) _ _ (op_move (Lk.t rfl)) <|
          .cons (.no) _ _ (op_assign (Lk.t rfl)) <|
          .nil) ff rfl fun g8 => ⟨_, _, [0, 1], rfl, (.cons 1 rfl <| .cons 2 rfl <| .cons 7 rfl <| .cons 8 rfl <| .cons 25 rfl <| .cons 26 rfl <| .nil), (.cons 0 rfl <| .cons 1 rfl <| .nil), ?_⟩)
      refine JN_then ?_
      refine (J_reg [] (
          .cons (.no) _ _ (op_move (Lk.t rfl)) <|
          .cons (.rd 1) _ _ (op_get_ag 1 ag34 (Lk.t rfl) rfl mem_blk rfl rfl) <|
          .cons (.no) _ _ (op_move (Lk.t rfl)) <|
          .cons (.no) _ _ (op_call (row_ok hg (by omega) (by omega)) ⟨(Lk.t rfl), (Lk.t rfl),  trivial⟩) <|
          .cons (.no) _ _ (op_move (Lk.t rfl)) <|
          .cons (.no) _ _ (op_call (dot_ok (by rw [length_rowL]; omega)) ⟨(Lk.t rfl), (Lk.t rfl),  trivial⟩) <|
          .cons (.no) _ _ (op_buildSlice sl32 zr37 rfl rfl rfl rfl (.cons rfl (Lk.t rfl) co_flp rfl (puts_l rfl (Nat.le_of_ble_eq_true rfl)) .nil)) <|
          .cons (.wr 0) _ _ (op_append_m 0 sl32 zr37 rfl (Lk.t rfl) (Lk.t rfl) rfl (by rw [List.length_take, length_mvG]; omega) (by rw [List.length_take, length_mvG]; omega)) <|
          .cons (.no) _ _ (op_assign_ve rfl rfl) <|
          .nil) ff rfl fun g9 => ⟨_, _, [0, 1], rfl, (.cons 1 rfl <| .cons 2 rfl <| .cons 7 rfl <| .cons 25 rfl <| .cons 26 rfl <| .nil), (.cons 0 rfl <| .cons 1 rfl <| .nil), ?_⟩)
      refine JN_block ?_
      refine JN_then ?_
      refine (J_reg [] (
          .cons (.no) _ _ (op_add (Lk.t rfl) (Lk.k rfl) (wrap_id (by omega) (by omega))) <|
          .cons (.no) _ _ (op_move (Lk.t rfl)) <|
          .nil) ff rfl fun g10 => ⟨_, _, [0, 1], rfl, (.cons 1 rfl <| .cons 2 rfl <| .cons 7 rfl <| .cons 25 rfl <| .cons 26 rfl <| .nil), (.cons 0 rfl <| .cons 1 rfl <| .nil), ?_⟩)
      exact JN_again (k + 1, g9 36) (by exact (show k + 1 ≤ r.toNat by omega)) (by show r.toNat - (_ + 1) < _; omega) (To.pick (fun _ => .sub (t := 26) rfl (sp_eq (by rfl)) <| .sub (t := 7) rfl (sp_eq (by rfl)) <| .cons 1 rfl <| .cons 2 rfl <| .cons 25 rfl <| .nil) (fun _ => .sub 0 rfl ((res_eq (by rw [show (mvG r c xs ys).take (k + 1) = (mvG r c xs ys).take k ++ [dotL (rowL c xs k) ys] from take_mvG (by omega)]))) <| .cons 1 rfl <| .nil) (ks := [0, 1]) rfl)
    · have h2' := h2
      try simp only [cmpB, Bool.and_eq_true, Bool.or_eq_true, Bool.and_eq_false_iff, Bool.or_eq_false_iff, Bool.not_eq_true', Bool.not_eq_false', Bool.not_eq_true, Bool.not_eq_false, decide_eq_true_eq, decide_eq_false_iff_not, Int.not_lt, Int.not_le, beq_iff_eq, bne_iff_ne, beq_eq_false_iff_ne, bne_eq_false_iff_eq, ne_eq, Decidable.not_not] at h2
      have ek : (mvG r c xs ys).take k = mvG r c xs ys := List.take_of_length_le (by rw [length_mvG]; omega)
      refine J_exit ?_
      refine JN_then_exit ?_
      refine JN_then_exit ?_
      refine JN_exit_here ?_
      refine JN_then ?_
      refine J_seq ?_
      refine J_to (To.freezeN 0 (fun _ h => h) rfl frz_fos (pure_som pure_flp).n rfl) ?_
      refine J_seq (J_reg [] (
          .cons (.no) _ _ (op_move (Lk.t rfl)) <|
          .cons (.no) _ _ (op_call (finite_ok) ⟨(Lk.sub (sb_trans (sb_fk 0 rfl) (sb_trans sb_new sb_fos)) (Lk.t rfl)),  trivial⟩) <|
          .cons (.no) _ _ (op_not (Lk.t rfl)) <|
          .nil) ff rfl fun g11 => ⟨_, _, [], rfl, (.cons 7 rfl <| .cons 40 rfl <| .nil), (.nil), ?_⟩)
      refine JN_then ?_
      refine J_cond (cond_of (Lk.t rfl)) (fun h3 => ?_) (fun h3 => ?_)
      · have h3' := h3
        try simp only [cmpB, Bool.and_eq_true, Bool.or_eq_true, Bool.and_eq_false_iff, Bool.or_eq_false_iff, Bool.not_eq_true', Bool.not_eq_false', Bool.not_eq_true, Bool.not_eq_false, decide_eq_true_eq, decide_eq_false_iff_not, Int.not_lt, Int.not_le, beq_iff_eq, bne_iff_ne, beq_eq_false_iff_ne, bne_eq_false_iff_eq, ne_eq, Decidable.not_not] at h3
        refine J_seq (J_reg [] (
            .cons (.no) _ _ (op_assign (Lk.k rfl)) <|
            .cons (.no) _ _ (op_assign (Lk.k rfl)) <|
            .nil) ff rfl fun g12 => ⟨_, _, [], rfl, (.cons 4 rfl <| .cons 5 rfl <| .nil), (.nil), ?_⟩)
        refine JN_then ?_
        refine J_ret ?_
        refine JN_then_ret ?_
        refine JN_ret (.cons (.tmp (Lk.t rfl)) <| .cons (.tmp (Lk.t rfl)) <| .nil) (sb_trans (sb_res (.cons (sb_nilF (mk := flp) (T := 37)) <| .cons sb_refl <| .nil)) (sb_trans push_VF (sb_newp ?_)))
        exact ret_LF (by rw [ek] at h3; unfold mvR orL toldL; rw [if_pos (show mvE r c xs ys = 0 from h1), if_pos h3]; rfl)
      · have h3' := h3
        try simp only [cmpB, Bool.and_eq_true, Bool.or_eq_true, Bool.and_eq_false_iff, Bool.or_eq_false_iff, Bool.not_eq_true', Bool.not_eq_false', Bool.not_eq_true, Bool.not_eq_false, decide_eq_true_eq, decide_eq_false_iff_not, Int.not_lt, Int.not_le, beq_iff_eq, bne_iff_ne, beq_eq_false_iff_ne, bne_eq_false_iff_eq, ne_eq, Decidable.not_not] at h3
        refine J_skip ?_
        refine JN_then ?_
        refine J_seq (J_reg [] (
            .cons (.no) _ _ (op_move (Lk.t rfl)) <|
            .cons (.no) _ _ (op_assign (Lk.t rfl)) <|
            .cons (.no) _ _ (op_assign (Lk.k rfl)) <|
            .nil) ff rfl fun g13 => ⟨_, _, [], rfl, (.cons 4 rfl <| .cons 5 rfl <| .nil), (.nil), ?_⟩)
        refine JN_then ?_
        refine J_ret ?_
        refine JN_ret (.cons (.tmp (Lk.t rfl)) <| .cons (.tmp (Lk.t rfl)) <| .nil) (sb_trans (sb_res (.cons (sb_fk 0 rfl) <| .cons sb_refl <| .nil)) (sb_trans push_VF (sb_newp ?_)))
        exact ret_LF (by rw [ek] at h3 ⊢; unfold mvR orL toldL; rw [if_pos (show mvE r c xs ys = 0 from h1), if_neg (by simpa using h3)])
theorem mseesN_ok {i r c : Int} {hs rs : List Nat} {q : Nat} {xs : List Nat} : CtN Tryd.prog 18 [SenP i r c hs rs q, fls xs] (tupp [fosp flp 37 (seesR i r c hs rs q xs).a, isv (.int .i64 (seesR i r c hs rs q xs).e)]) := by
  refine CtN.of Tryd.func18 rfl (by kernel_rfl) rfl fun c0 => ?_
  refine J_to To.size ?_
  refine J_to (To.emps 1) ?_
  refine J_seq (J_reg [] (
      .cons (.wr 0) _ _ (op_box 0 (Lk.t rfl) co_agg rfl) <|
      .cons (.no) _ _ (op_assign (Lk.k rfl)) <|
      .cons (.no) _ _ (op_assign (Lk.k rfl)) <|
      .nil) ff rfl fun g1 => ⟨_, _, [0], rfl, (.cons 1 rfl <| .cons 2 rfl <| .nil), (.cons 0 rfl <| .nil), ?_⟩)
  refine JN_then ?_
  refine J_seq ?_
  refine J_seq (J_reg [] (
      .cons (.rd 0) _ _ (op_get_ag 0 ag39 (Lk.t rfl) rfl mem_blk rfl rfl) <|
      .cons (.no) _ _ (op_move (Lk.t rfl)) <|
      .cons (.no) _ _ (op_len_m sl32 (Lk.t rfl)) <|
      .cons (.no) _ _ (op_call (msen_ok) ⟨(Lk.t rfl), (Lk.t rfl),  trivial⟩) <|
      .cons (.no) _ _ (op_assign (Lk.t rfl)) <|
      .nil) ff rfl fun g2 => ⟨_, _, [0], rfl, (.cons 1 rfl <| .cons 2 rfl <| .cons 6 rfl <| .nil), (.cons 0 rfl <| .nil), ?_⟩)
  refine JN_then ?_
  refine J_seq (J_reg [] (
      .cons (.no) _ _ (op_move (Lk.t rfl)) <|
      .cons (.no) _ _ (op_cmp (by simp) (Lk.t rfl) (Lk.k rfl) rfl) <|
      .nil) ff rfl fun g3 => ⟨_, _, [0], rfl, (.cons 1 rfl <| .cons 2 rfl <| .cons 6 rfl <| .cons 12 rfl <| .nil), (.cons 0 rfl <| .nil), ?_⟩)
  refine JN_then ?_
  refine J_cond (cond_of (Lk.t rfl)) (fun h1 => ?_) (fun h1 => ?_)
  · have h1' := h1
    try simp only [cmpB, Bool.and_eq_true, Bool.or_eq_true, Bool.and_eq_false_iff, Bool.or_eq_false_iff, Bool.not_eq_true', Bool.not_eq_false', Bool.not_eq_true, Bool.not_eq_false, decide_eq_true_eq, decide_eq_false_iff_not, Int.not_lt, Int.not_le, beq_iff_eq, bne_iff_ne, beq_eq_false_iff_ne, bne_eq_false_iff_eq, ne_eq, Decidable.not_not] at h1
    refine J_seq (J_reg [] (
        .cons (.no) _ _ (op_move (Lk.t rfl)) <|
        .cons (.no) _ _ (op_assign (Lk.k rfl)) <|
        .cons (.no) _ _ (op_assign (Lk.t rfl)) <|
        .nil) ff rfl fun g4 => ⟨_, _, [], rfl, (.cons 4 rfl <| .cons 5 rfl <| .nil), (.nil), ?_⟩)
    refine JN_then ?_
    refine J_ret ?_
    refine JN_then_ret ?_
    refine JN_ret (.cons (.tmp (Lk.t rfl)) <| .cons (.tmp (Lk.t rfl)) <| .nil) (sb_trans (sb_res (.cons (sb_nilF (mk := flp) (T := 37)) <| .cons sb_refl <| .nil)) (sb_trans push_VF (sb_newp ?_)))
    exact ret_LF (by unfold seesR orL; exact (if_neg h1).symm)
  · have h1' := h1
    try simp only [cmpB, Bool.and_eq_true, Bool.or_eq_true, Bool.and_eq_false_iff, Bool.or_eq_false_iff, Bool.not_eq_true', Bool.not_eq_false', Bool.not_eq_true, Bool.not_eq_false, decide_eq_true_eq, decide_eq_false_iff_not, Int.not_lt, Int.not_le, beq_iff_eq, bne_iff_ne, beq_eq_false_iff_ne, bne_eq_false_iff_eq, ne_eq, Decidable.not_not] at h1
    refine J_skip ?_
    refine JN_then ?_
    refine J_seq (J_reg [] (
        .cons (.no) _ _ (op_field_own fd39_1 (Lk.t rfl) rfl) <|
        .cons (.rd 0) _ _ (op_get_ag 0 ag34 (Lk.t rfl) rfl mem_blk rfl rfl) <|
        .cons (.no) _ _ (op_move (Lk.t rfl)) <|
        .cons (.no) _ _ (op_callN 0 rfl (mvN_ok) pull_VF ⟨(Lk.t rfl), (Lk.t rfl),  trivial⟩) <|
        .cons (.no) _ _ (op_extract (Lk.t rfl) rfl) <|
        .cons (.no) _ _ (op_extract (Lk.t rfl) rfl) <|
        .cons (.no) _ _ (op_assign (Lk.t rfl)) <|
        .cons (.no) _ _ (op_assign (Lk.t rfl)) <|
        .nil) ff rfl fun g5 => ⟨_, _, [], rfl, (.cons 4 rfl <| .cons 5 rfl <| .nil), (.nil), ?_⟩)
    refine JN_then ?_
    refine J_ret ?_
    refine JN_ret (.cons (.tmp (Lk.t rfl)) <| .cons (.tmp (Lk.t rfl)) <| .nil) (sb_trans (sb_res (.cons sb_refl <| .cons sb_refl <| .nil)) (sb_trans push_VF (sb_newp ?_)))
    exact sb_eq (by unfold seesR orL; rw [if_pos h1])
theorem mseesF_ok {i r c : Int} {hs rs : List Nat} {q : Nat} {xs : List Nat} : CtF Tryd.prog 18 [SenP i r c hs rs q, fls xs] tp0 (fun u => tupp [isv u, isv (.int .i64 (seesR i r c hs rs q xs).e)]) (fun u => som u flp (seesR i r c hs rs q xs).a 37) := CtN.ownV pure_flp (mseesN_ok)
theorem mnamesN_ok {ps : List Prt} : CtN Tryd.prog 8 [MotP ps] (tupp [fosp strp 9 (namesR ps).a, isv (.int .i64 (namesR ps).e)]) := by
  refine CtN.of Tryd.func8 rfl (by kernel_rfl) rfl fun c0 => ?_
  refine J_to To.size ?_
  refine J_lenP 0 rfl fun hlen => ?_
  refine J_to (To.emps 1) ?_
  refine J_seq (J_reg [] (
      .cons (.wr 0) _ _ (op_box 0 (Lk.t rfl) co_agg rfl) <|
      .cons (.no) _ _ (op_assign (Lk.k rfl)) <|
      .cons (.no) _ _ (op_assign (Lk.k rfl)) <|
      .nil) ff rfl fun g1 => ⟨_, _, [0], rfl, (.cons 1 rfl <| .nil), (.cons 0 rfl <| .nil), ?_⟩)
  refine JN_then ?_
  refine J_seq ?_
  refine J_seq (J_reg [] (
      .cons (.rd 0) _ _ (op_get_ag 0 ag30 (Lk.t rfl) rfl mem_blk rfl rfl) <|
      .cons (.no) _ _ (op_call (mchk_ok) ⟨(Lk.t rfl),  trivial⟩) <|
      .cons (.no) _ _ (op_assign (Lk.t rfl)) <|
      .nil) ff rfl fun g2 => ⟨_, _, [0], rfl, (.cons 1 rfl <| .cons 4 rfl <| .nil), (.cons 0 rfl <| .nil), ?_⟩)
  refine JN_then ?_
  refine J_seq (J_reg [] (
      .cons (.no) _ _ (op_move (Lk.t rfl)) <|
      .cons (.no) _ _ (op_cmp (by simp) (Lk.t rfl) (Lk.k rfl) rfl) <|
      .nil) ff rfl fun g3 => ⟨_, _, [0], rfl, (.cons 1 rfl <| .cons 4 rfl <| .cons 13 rfl <| .nil), (.cons 0 rfl <| .nil), ?_⟩)
  refine JN_then ?_
  refine J_cond (cond_of (Lk.t rfl)) (fun h1 => ?_) (fun h1 => ?_)
  · have h1' := h1
    try simp only [cmpB, Bool.and_eq_true, Bool.or_eq_true, Bool.and_eq_false_iff, Bool.or_eq_false_iff, Bool.not_eq_true', Bool.not_eq_false', Bool.not_eq_true, Bool.not_eq_false, decide_eq_true_eq, decide_eq_false_iff_not, Int.not_lt, Int.not_le, beq_iff_eq, bne_iff_ne, beq_eq_false_iff_ne, bne_eq_false_iff_eq, ne_eq, Decidable.not_not] at h1
    refine J_seq (J_reg [] (
        .cons (.no) _ _ (op_move (Lk.t rfl)) <|
        .cons (.no) _ _ (op_assign (Lk.k rfl)) <|
        .cons (.no) _ _ (op_assign (Lk.t rfl)) <|
        .nil) ff rfl fun g4 => ⟨_, _, [], rfl, (.cons 2 rfl <| .cons 3 rfl <| .nil), (.nil), ?_⟩)
    refine JN_then ?_
    refine J_ret ?_
    refine JN_then_ret ?_
    refine JN_ret (.cons (.tmp (Lk.t rfl)) <| .cons (.tmp (Lk.t rfl)) <| .nil) (sb_trans (sb_res (.cons (sb_nilF (mk := strp) (T := 9)) <| .cons sb_refl <| .nil)) (sb_trans push_VF (sb_newp ?_)))
    exact ret_SF (names_1 h1)
  · have h1' := h1
    try simp only [cmpB, Bool.and_eq_true, Bool.or_eq_true, Bool.and_eq_false_iff, Bool.or_eq_false_iff, Bool.not_eq_true', Bool.not_eq_false', Bool.not_eq_true, Bool.not_eq_false, decide_eq_true_eq, decide_eq_false_iff_not, Int.not_lt, Int.not_le, beq_iff_eq, bne_iff_ne, beq_eq_false_iff_ne, bne_eq_false_iff_eq, ne_eq, Decidable.not_not] at h1
    obtain ⟨h0, hgd, htl⟩ := mot_good h1
    have hl12 := len_12 hgd htl
    refine J_skip ?_
    refine JN_then ?_
    refine J_seq (J_reg [] (
        .cons (.no) _ _ (op_assign (Lk.k rfl)) <|
        .nil) ff rfl fun g5 => ⟨_, _, [0], rfl, (.cons 1 rfl <| .cons 5 rfl <| .nil), (.cons 0 rfl <| .nil), ?_⟩)
    refine JN_then ?_
    refine J_seq ?_
    refine J_seq (J_reg [] (
        .cons (.no) _ _ (op_field_own fd30_0 (Lk.t rfl) rfl) <|
        .cons (.rd 0) _ _ (op_get_sc 0 sc28 (Lk.t rfl) rfl mem_blk rfl) <|
        .cons (.no) _ _ (op_len_sk sl28 (Lk.t rfl)) <|
        .cons (.no) _ _ (op_move (Lk.k rfl)) <|
        .nil) ff rfl fun g6 => ⟨_, _, [], rfl, (.cons 5 rfl <| .cons 16 rfl <| .cons 17 rfl <| .cons 18 rfl <| .nil), (.nil), ?_⟩)
    refine JN_then ?_
    refine J_block ?_
    refine J_to (To.emps 2) ?_
    refine J_loopc (α := Nat × Value) (fun x => (x.1 : Int) ≤ (ps.length : Int)) (fun x => ((ps.length : Int)).toNat - x.1) (fun x restR => (18, isv (.int .i64 (x.1 : Int))) :: (5, isv x.2) :: restR) (fun x restS => som x.2 strp (nmP ps x.1) 9 :: restS) (ρc := [(16, _), (17, _)]) (σc := []) (0, .slice none 0 0) (by omega) (To.pick (fun _ => .sub (t := 18) rfl (sp_eq (by rfl)) <| .sub (t := 5) rfl (sp_eq (by rfl)) <| .cons 16 rfl <| .cons 17 rfl <| .nil) (fun _ => .sub 1 rfl (som_nil) <| .nil) (ks := [1]) rfl) (fun x hI => ?_)
    obtain ⟨k, sv⟩ := x
    try simp only at hI
    show J _ _ ((18, isv (.int .i64 (k : Int))) :: (5, isv sv) :: _) (som sv strp (nmP ps k) 9 :: _) _ _
    refine J_seq (J_reg [] (
        .cons (.no) _ _ (op_cmp (by simp) (Lk.t rfl) (Lk.t rfl) rfl) <|
        .nil) ff rfl fun g7 => ⟨_, _, [0], rfl, (.cons 5 rfl <| .cons 16 rfl <| .cons 17 rfl <| .cons 18 rfl <| .cons 19 rfl <| .nil), (.cons 0 rfl <| .nil), ?_⟩)
    refine JN_then ?_
    refine J_seq ?_
    refine J_cond (cond_of (Lk.t rfl)) (fun h2 => ?_) (fun h2 => ?_)
    · have h2' := h2
      try simp only [cmpB, Bool.and_eq_true, Bool.or_eq_true, Bool.and_eq_false_iff, Bool.or_eq_false_iff, Bool.not_eq_true', Bool.not_eq_false', Bool.not_eq_true, Bool.not_eq_false, decide_eq_true_eq, decide_eq_false_iff_not, Int.not_lt, Int.not_le, beq_iff_eq, bne_iff_ne, beq_eq_false_iff_ne, bne_eq_false_iff_eq, ne_eq, Decidable.not_not] at h2
      have hpk : partE (ps.getD ((k : Nat) : Int).toNat prtD) = 0 := hgd k (by omega)
      obtain ⟨hp1, hp2, hp3, _⟩ := partE_good hpk
      have hor := (ordN_rng (ps.getD ((k : Nat) : Int).toNat prtD).k).2
      refine J_skip ?_
      refine JN_then ?_
      refine J_seq ?_
      refine J_block ?_
      refine J_to (To.emps 1) ?_
      refine J_seq (J_reg [] (
          .cons (.no) _ _ (op_move (Lk.t rfl)) <|
          .cons (.no) _ _ (op_index_sk (mk := prtC) prtD sl28 prtC_len (Lk.t rfl) (Lk.t rfl) (by omega) (by omega)) <|
          .cons (.no) _ _ (op_load_ag ag51 (Lk.t rfl) rfl rfl) <|
          .cons (.wr 1) _ _ (op_alloc 1 zr51 rfl rfl) <|
          .cons (.no) _ _ (op_assign (Lk.t rfl)) <|
          .cons (.wr 1) _ _ (op_store_new 1 rfl (Lk.t rfl) co_agg sz51 rfl rfl) <|
          .nil) ff rfl fun g8 => ⟨_, _, [0, 1], rfl, (.cons 5 rfl <| .cons 6 rfl <| .cons 7 rfl <| .cons 16 rfl <| .cons 17 rfl <| .cons 18 rfl <| .nil), (.cons 0 rfl <| .cons 1 rfl <| .nil), ?_⟩)
      refine JN_then ?_
      refine J_seq (J_reg [] (
          .cons (.no) _ _ (op_field_own fd51_1 (Lk.t rfl) rfl) <|
          .cons (.rd 1) _ _ (op_get_sc 1 sc3 (Lk.t rfl) rfl mem_blk rfl) <|
          .cons (.no) _ _ (op_move (Lk.k rfl)) <|
          .nil) ff rfl fun g9 => ⟨_, _, [0, 1], rfl, (.cons 5 rfl <| .cons 6 rfl <| .cons 7 rfl <| .cons 16 rfl <| .cons 17 rfl <| .cons 18 rfl <| .cons 24 rfl <| .cons 25 rfl <| .nil), (.cons 0 rfl <| .cons 1 rfl <| .nil), ?_⟩)
      refine JN_then ?_
      refine J_block ?_
      refine J_loopc (α := Nat × Value) (fun x => (x.1 : Int) ≤ (ps.getD ((k : Nat) : Int).toNat prtD).a) (fun x => ((ps.getD ((k : Nat) : Int).toNat prtD).a).toNat - x.1) (fun x restR => (25, isv (.int .i64 (x.1 : Int))) :: (5, isv x.2) :: restR) (fun x restS => som x.2 strp (nmA k (ordN (ps.getD ((k : Nat) : Int).toNat prtD).k).toNat (nmP ps k) x.1) 9 :: restS) (ρc := [(6, _), (7, _), (16, _), (17, _), (18, _), (24, _)]) (σc := [_]) (0, sv) (by omega) (To.pick (fun _ => .sub (t := 25) rfl (sp_eq (by rfl)) <| .sub (t := 5) rfl (sp_eq (by rfl)) <| .cons 6 rfl <| .cons 7 rfl <| .cons 16 rfl <| .cons 17 rfl <| .cons 18 rfl <| .cons 24 rfl <| .nil) (fun _ => .sub 0 rfl ((fun _ _ h => h)) <| .cons 1 rfl <| .nil) (ks := [0, 1]) rfl) (fun x hI => ?_)
      obtain ⟨a, sw⟩ := x
      try simp only at hI
      show J _ _ ((25, isv (.int .i64 (a : Int))) :: (5, isv sw) :: _) (som sw strp (nmA k (ordN (ps.getD ((k : Nat) : Int).toNat prtD).k).toNat (nmP ps k) a) 9 :: _) _ _
      refine J_seq (J_reg [] (
          .cons (.no) _ _ (op_cmp (by simp) (Lk.t rfl) (Lk.t rfl) rfl) <|
          .nil) ff rfl fun g10 => ⟨_, _, [0, 1], rfl, (.cons 5 rfl <| .cons 6 rfl <| .cons 7 rfl <| .cons 16 rfl <| .cons 17 rfl <| .cons 18 rfl <| .cons 24 rfl <| .cons 25 rfl <| .cons 26 rfl <| .nil), (.cons 0 rfl <| .cons 1 rfl <| .nil), ?_⟩)
      refine JN_then ?_
      refine J_seq ?_
      refine J_cond (cond_of (Lk.t rfl)) (fun h3 => ?_) (fun h3 => ?_)
      · have h3' := h3
        try simp only [cmpB, Bool.and_eq_true, Bool.or_eq_true, Bool.and_eq_false_iff, Bool.or_eq_false_iff, Bool.not_eq_true', Bool.not_eq_false', Bool.not_eq_true, Bool.not_eq_false, decide_eq_true_eq, decide_eq_false_iff_not, Int.not_lt, Int.not_le, beq_iff_eq, bne_iff_ne, beq_eq_false_iff_ne, bne_eq_false_iff_eq, ne_eq, Decidable.not_not] at h3
        refine J_skip ?_
        refine JN_then ?_
        refine J_seq ?_
        refine J_block ?_
        refine J_seq (J_reg [] (
            .cons (.no) _ _ (op_move (Lk.t rfl)) <|
            .cons (.no) _ _ (op_assign (Lk.t rfl)) <|
            .nil) ff rfl fun g11 => ⟨_, _, [0, 1], rfl, (.cons 5 rfl <| .cons 6 rfl <| .cons 7 rfl <| .cons 8 rfl <| .cons 16 rfl <| .cons 17 rfl <| .cons 18 rfl <| .cons 24 rfl <| .cons 25 rfl <| .nil), (.cons 0 rfl <| .cons 1 rfl <| .nil), ?_⟩)
        refine JN_then ?_
        refine J_seq (J_reg [] (
            .cons (.no) _ _ (op_field_own fd51_0 (Lk.t rfl) rfl) <|
            .cons (.rd 1) _ _ (op_get_sc 1 sc3 (Lk.t rfl) rfl mem_blk rfl) <|
            .cons (.no) _ _ (op_call (orders_ok) ⟨(Lk.t rfl),  trivial⟩) <|
            .cons (.no) _ _ (op_move (Lk.k rfl)) <|
            .nil) ff rfl fun g12 => ⟨_, _, [0, 1], rfl, (.cons 5 rfl <| .cons 6 rfl <| .cons 7 rfl <| .cons 8 rfl <| .cons 16 rfl <| .cons 17 rfl <| .cons 18 rfl <| .cons 24 rfl <| .cons 25 rfl <| .cons 30 rfl <| .cons 31 rfl <| .nil), (.cons 0 rfl <| .cons 1 rfl <| .nil), ?_⟩)
        refine JN_then ?_
        refine J_block ?_
        refine J_loopc (α := Nat × Value) (fun x => (x.1 : Int) ≤ ordN (ps.getD ((k : Nat) : Int).toNat prtD).k) (fun x => (ordN (ps.getD ((k : Nat) : Int).toNat prtD).k).toNat - x.1) (fun x restR => (31, isv (.int .i64 (x.1 : Int))) :: (5, isv x.2) :: restR) (fun x restS => som x.2 strp (nmO k a (nmA k (ordN (ps.getD ((k : Nat) : Int).toNat prtD).k).toNat (nmP ps k) a) x.1) 9 :: restS) (ρc := [(6, _), (7, _), (8, _), (16, _), (17, _), (18, _), (24, _), (25, _), (30, _)]) (σc := [_]) (0, sw) (by omega) (To.pick (fun _ => .sub (t := 31) rfl (sp_eq (by rfl)) <| .sub (t := 5) rfl (sp_eq (by rfl)) <| .cons 6 rfl <| .cons 7 rfl <| .cons 8 rfl <| .cons 16 rfl <| .cons 17 rfl <| .cons 18 rfl <| .cons 24 rfl <| .cons 25 rfl <| .cons 30 rfl <| .nil) (fun _ => .sub 0 rfl ((fun _ _ h => h)) <| .cons 1 rfl <| .nil) (ks := [0, 1]) rfl) (fun x hI => ?_)
        obtain ⟨o, sx⟩ := x
        try simp only at hI
        show J _ _ ((31, isv (.int .i64 (o : Int))) :: (5, isv sx) :: _) (som sx strp (nmO k a (nmA k (ordN (ps.getD ((k : Nat) : Int).toNat prtD).k).toNat (nmP ps k) a) o) 9 :: _) _ _
        refine J_seq (J_reg [] (
            .cons (.no) _ _ (op_cmp (by simp) (Lk.t rfl) (Lk.t rfl) rfl) <|
            .nil) ff rfl fun g13 => ⟨_, _, [0, 1], rfl, (.cons 5 rfl <| .cons 6 rfl <| .cons 7 rfl <| .cons 8 rfl <| .cons 16 rfl <| .cons 17 rfl <| .cons 18 rfl <| .cons 24 rfl <| .cons 25 rfl <| .cons 30 rfl <| .cons 31 rfl <| .cons 32 rfl <| .nil), (.cons 0 rfl <| .cons 1 rfl <| .nil), ?_⟩)
        refine JN_then ?_
        refine J_seq ?_
        refine J_cond (cond_of (Lk.t rfl)) (fun h4 => ?_) (fun h4 => ?_)
        · have h4' := h4
          try simp only [cmpB, Bool.and_eq_true, Bool.or_eq_true, Bool.and_eq_false_iff, Bool.or_eq_false_iff, Bool.not_eq_true', Bool.not_eq_false', Bool.not_eq_true, Bool.not_eq_false, decide_eq_true_eq, decide_eq_false_iff_not, Int.not_lt, Int.not_le, beq_iff_eq, bne_iff_ne, beq_eq_false_iff_ne, bne_eq_false_iff_eq, ne_eq, Decidable.not_not] at h4
          have hnr : (nmO k a (nmA k (ordN (ps.getD ((k : Nat) : Int).toNat prtD).k).toNat (nmP ps k) a) o).length < 12 := nm_rng hgd htl (show k < ps.length by omega) (show (a : Int) < (ps.getD ((k : Nat) : Int).toNat prtD).a by omega) (show (o : Int) < ordN (ps.getD ((k : Nat) : Int).toNat prtD).k by omega)
          refine J_skip ?_
          refine JN_then ?_
          refine J_seq ?_
          refine J_block ?_
          refine J_seq (J_reg [] (
              .cons (.no) _ _ (op_move (Lk.t rfl)) <|
              .cons (.no) _ _ (op_assign (Lk.t rfl)) <|
              .nil) ff rfl fun g14 => ⟨_, _, [0, 1], rfl, (.cons 5 rfl <| .cons 6 rfl <| .cons 7 rfl <| .cons 8 rfl <| .cons 9 rfl <| .cons 16 rfl <| .cons 17 rfl <| .cons 18 rfl <| .cons 24 rfl <| .cons 25 rfl <| .cons 30 rfl <| .cons 31 rfl <| .nil), (.cons 0 rfl <| .cons 1 rfl <| .nil), ?_⟩)
          refine JN_then ?_
          refine (J_reg [[], [], [], [2], [1, 2, 3], [], [5], [1, 2, 3, 4, 5, 6], [1, 2, 3, 4, 5, 6, 7], [], [5, 6, 9], [1, 2, 3, 4, 5, 6, 7, 8, 9, 10], [1, 2, 3, 4, 5, 6, 7, 8, 9, 10, 11], [0, 1, 2, 3, 4, 5, 6, 7, 8, 9, 10, 11, 12], [0, 1, 2, 3, 4, 5, 6, 7, 8, 9, 10, 11, 12, 13]] (
              .cons (.no) _ _ (op_move (Lk.t rfl)) <|
              .cons (.no) _ _ (op_move (Lk.t rfl)) <|
              .cons (.no) _ _ (op_move (Lk.t rfl)) <|
              .cons (.no) _ _ (op_add (Lk.t rfl) (Lk.k rfl) (wrap_id (by omega) (by omega))) <|
              .cons (.no) _ _ (op_sslice Tryd.underlying9 (Lk.k rfl) (Lk.t rfl) (Lk.t rfl) (by omega) (by omega) (Int.le_trans (show (_ : Int) ≤ 3 by omega) (by decide +kernel))) <|
              .cons (.no) _ _ (op_move (Lk.t rfl)) <|
              .cons (.no) _ _ (op_call (itoa_ok (by omega) (by omega)) ⟨(Lk.t rfl),  trivial⟩) <|
              .cons (.no) _ _ (op_scat (Lk.t rfl) (Lk.t rfl) nm_1) <|
              .cons (.no) _ _ (op_scat (Lk.t rfl) (Lk.k rfl) nm_2) <|
              .cons (.no) _ _ (op_move (Lk.t rfl)) <|
              .cons (.no) _ _ (op_call (itoa_ok (by omega) (by omega)) ⟨(Lk.t rfl),  trivial⟩) <|
              .cons (.no) _ _ (op_scat (Lk.t rfl) (Lk.t rfl) nm_3) <|
              .cons (.no) _ _ (op_buildSlice sl44 zr9 rfl rfl rfl rfl (.cons rfl (Lk.t rfl) co_isv rfl (puts_l rfl (Nat.le_of_ble_eq_true rfl)) .nil)) <|
              .cons (.wr 0) _ _ (op_append_m (mk := strp) 0 sl44 zr9 rfl (Lk.t rfl) (Lk.t rfl) rfl (by omega) (by omega)) <|
              .cons (.no) _ _ (op_assign_ve rfl rfl) <|
              .nil) (fun _ => mixed) rfl fun g15 => ⟨_, _, [0, 1], rfl, (.cons 5 rfl <| .cons 6 rfl <| .cons 7 rfl <| .cons 8 rfl <| .cons 16 rfl <| .cons 17 rfl <| .cons 18 rfl <| .cons 24 rfl <| .cons 25 rfl <| .cons 30 rfl <| .cons 31 rfl <| .nil), (.cons 0 rfl <| .cons 1 rfl <| .nil), ?_⟩)
          refine JN_block ?_
          refine JN_then ?_
          refine (J_reg [] (
              .cons (.no) _ _ (op_add (Lk.t rfl) (Lk.k rfl) (wrap_id (by omega) (by omega))) <|
              .cons (.no) _ _ (op_move (Lk.t rfl)) <|
              .nil) ff rfl fun g16 => ⟨_, _, [0, 1], rfl, (.cons 5 rfl <| .cons 6 rfl <| .cons 7 rfl <| .cons 8 rfl <| .cons 16 rfl <| .cons 17 rfl <| .cons 18 rfl <| .cons 24 rfl <| .cons 25 rfl <| .cons 30 rfl <| .cons 31 rfl <| .nil), (.cons 0 rfl <| .cons 1 rfl <| .nil), ?_⟩)
          exact JN_again (o + 1, g15 47) (by exact (show ((o + 1 : Nat) : Int) ≤ _ by omega)) (by show (ordN (ps.getD ((k : Nat) : Int).toNat prtD).k).toNat - (o + 1) < _; omega) (To.pick (fun _ => .sub (t := 31) rfl (sp_eq (by rfl)) <| .sub (t := 5) rfl (sp_eq (by rfl)) <| .cons 6 rfl <| .cons 7 rfl <| .cons 8 rfl <| .cons 16 rfl <| .cons 17 rfl <| .cons 18 rfl <| .cons 24 rfl <| .cons 25 rfl <| .cons 30 rfl <| .nil) (fun _ => .sub 0 rfl ((res_eq rfl)) <| .cons 1 rfl <| .nil) (ks := [0, 1]) rfl)
        · have h4' := h4
          try simp only [cmpB, Bool.and_eq_true, Bool.or_eq_true, Bool.and_eq_false_iff, Bool.or_eq_false_iff, Bool.not_eq_true', Bool.not_eq_false', Bool.not_eq_true, Bool.not_eq_false, decide_eq_true_eq, decide_eq_false_iff_not, Int.not_lt, Int.not_le, beq_iff_eq, bne_iff_ne, beq_eq_false_iff_ne, bne_eq_false_iff_eq, ne_eq, Decidable.not_not] at h4
          refine J_exit ?_
          refine JN_then_exit ?_
          refine JN_then_exit ?_
          refine JN_exit_here ?_
          refine JN_block ?_
          refine JN_then ?_
          refine (J_reg [] (
              .cons (.no) _ _ (op_add (Lk.t rfl) (Lk.k rfl) (wrap_id (by omega) (by omega))) <|
              .cons (.no) _ _ (op_move (Lk.t rfl)) <|
              .nil) ff rfl fun g17 => ⟨_, _, [0, 1], rfl, (.cons 5 rfl <| .cons 6 rfl <| .cons 7 rfl <| .cons 16 rfl <| .cons 17 rfl <| .cons 18 rfl <| .cons 24 rfl <| .cons 25 rfl <| .nil), (.cons 0 rfl <| .cons 1 rfl <| .nil), ?_⟩)
          exact JN_again (a + 1, sx) (by exact (show ((a + 1 : Nat) : Int) ≤ _ by omega)) (by show ((ps.getD ((k : Nat) : Int).toNat prtD).a).toNat - (a + 1) < _; omega) (To.pick (fun _ => .sub (t := 25) rfl (sp_eq (by rfl)) <| .sub (t := 5) rfl (sp_eq (by rfl)) <| .cons 6 rfl <| .cons 7 rfl <| .cons 16 rfl <| .cons 17 rfl <| .cons 18 rfl <| .cons 24 rfl <| .nil) (fun _ => .sub 0 rfl ((res_eq (by rw [show o = (ordN (ps.getD ((k : Nat) : Int).toNat prtD).k).toNat by omega]; rfl))) <| .cons 1 rfl <| .nil) (ks := [0, 1]) rfl)
      · have h3' := h3
        try simp only [cmpB, Bool.and_eq_true, Bool.or_eq_true, Bool.and_eq_false_iff, Bool.or_eq_false_iff, Bool.not_eq_true', Bool.not_eq_false', Bool.not_eq_true, Bool.not_eq_false, decide_eq_true_eq, decide_eq_false_iff_not, Int.not_lt, Int.not_le, beq_iff_eq, bne_iff_ne, beq_eq_false_iff_ne, bne_eq_false_iff_eq, ne_eq, Decidable.not_not] at h3
        refine J_exit ?_
        refine JN_then_exit ?_
        refine JN_then_exit ?_
        refine JN_exit_here ?_
        refine JN_block ?_
        refine JN_then ?_
        refine (J_reg [] (
            .cons (.no) _ _ (op_add (Lk.t rfl) (Lk.k rfl) (wrap_id (by omega) (by omega))) <|
            .cons (.no) _ _ (op_move (Lk.t rfl)) <|
            .nil) ff rfl fun g18 => ⟨_, _, [0], rfl, (.cons 5 rfl <| .cons 16 rfl <| .cons 17 rfl <| .cons 18 rfl <| .nil), (.cons 0 rfl <| .nil), ?_⟩)
        exact JN_again (k + 1, sw) (by exact (show ((k + 1 : Nat) : Int) ≤ _ by omega)) (by show ((ps.length : Int)).toNat - (k + 1) < _; omega) (To.pick (fun _ => .sub (t := 18) rfl (sp_eq (by rfl)) <| .sub (t := 5) rfl (sp_eq (by rfl)) <| .cons 16 rfl <| .cons 17 rfl <| .nil) (fun _ => .sub 0 rfl ((res_eq (by rw [show a = ((ps.getD ((k : Nat) : Int).toNat prtD).a).toNat by omega]; rfl))) <| .nil) (ks := [0]) rfl)
    · have h2' := h2
      try simp only [cmpB, Bool.and_eq_true, Bool.or_eq_true, Bool.and_eq_false_iff, Bool.or_eq_false_iff, Bool.not_eq_true', Bool.not_eq_false', Bool.not_eq_true, Bool.not_eq_false, decide_eq_true_eq, decide_eq_false_iff_not, Int.not_lt, Int.not_le, beq_iff_eq, bne_iff_ne, beq_eq_false_iff_ne, bne_eq_false_iff_eq, ne_eq, Decidable.not_not] at h2
      refine J_exit ?_
      refine JN_then_exit ?_
      refine JN_then_exit ?_
      refine JN_exit_here ?_
      refine JN_then ?_
      refine J_seq (J_reg [] (
          .cons (.no) _ _ (op_move (Lk.t rfl)) <|
          .cons (.no) _ _ (op_assign (Lk.t rfl)) <|
          .cons (.no) _ _ (op_assign (Lk.k rfl)) <|
          .nil) ff rfl fun g19 => ⟨_, _, [0], rfl, (.cons 2 rfl <| .cons 3 rfl <| .nil), (.cons 0 rfl <| .nil), ?_⟩)
      refine JN_then ?_
      refine J_ret ?_
      refine JN_to (To.freezeN 0 (fun _ h => h) rfl frz_fos (pure_som (fun _ => pure_isv _)).n rfl) ?_
      refine JN_ret (.cons (.tmp (Lk.t rfl)) <| .cons (.tmp (Lk.t rfl)) <| .nil) (sb_trans (sb_res (.cons (sb_fk 0 rfl) <| .cons sb_refl <| .nil)) (sb_trans push_VF (sb_newp ?_)))
      exact ret_SF (names_2 h1 (by omega))
theorem mnamesF_ok {ps : List Prt} : CtF Tryd.prog 8 [MotP ps] tp0 (fun u => tupp [isv u, isv (.int .i64 (namesR ps).e)]) (fun u => som u strp (namesR ps).a 9) := CtN.ownV pure_strp (mnamesN_ok)
end Go.Proofs.YtjfkpnacfnnkhaaDoor
