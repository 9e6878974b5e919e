/- Printed by a program of ours (walk.py): walks of names and places, and of ModelParts. -/
import Derived.Test.YtcnffgbncbadbaaDoorTyp
import Derived.Test.YtcnffgbncbadbaaDoorProg
import Derived.KernelRfl
import Derived.Test.YtcnffgbncbadbaaDoorTypes
import Derived.Test.YtcnffgbncbadbaaDoorWPick
import Derived.Test.YtcnffgbncbadbaaDoorName
set_option linter.unusedVariables false
set_option linter.unusedSimpArgs false
set_option maxRecDepth 20000
set_option maxHeartbeats 1000000
namespace Go.Proofs.YtcnffgbncbadbaaDoor
open Go Go.Bn
attribute [local irreducible] OpOK
theorem small_ok {i : Int} (i0 : 0 ≤ i) (i1 : i < 100) : Ct Tryd.prog 74 [isv (.int .i64 i)] (strp (itoaS i)) := by
  refine Ct.of Tryd.func74 rfl (by kernel_rfl) rfl fun c0 => ?_
  refine J_seq (J_reg [] (
      .cons (.no) _ _ (op_assign (Lk.k rfl)) <|
      .nil) ff rfl fun g1 => ⟨_, _, [], rfl, (.cons 0 rfl <| .nil), (.nil), ?_⟩)
  refine JN_then ?_
  refine J_seq ?_
  refine J_seq (J_reg [] (
      .cons (.no) _ _ (op_move (Lk.t rfl)) <|
      .cons (.no) _ _ (op_cmp (by simp) (Lk.t rfl) (Lk.k rfl) rfl) <|
      .nil) ff rfl fun g2 => ⟨_, _, [], rfl, (.cons 0 rfl <| .cons 4 rfl <| .nil), (.nil), ?_⟩)
  refine JN_then ?_
  refine J_cond (cond_of (Lk.t rfl)) (fun h1 => ?_) (fun h1 => ?_)
  · have h1' := h1
    try simp only [cmpB, Bool.and_eq_true, Bool.or_eq_true, Bool.and_eq_false_iff, Bool.or_eq_false_iff, Bool.not_eq_true', Bool.not_eq_false', Bool.not_eq_true, Bool.not_eq_false, decide_eq_true_eq, decide_eq_false_iff_not, Int.not_lt, Int.not_le, beq_iff_eq, bne_iff_ne, beq_eq_false_iff_ne, bne_eq_false_iff_eq, ne_eq, Decidable.not_not] at h1
    refine J_seq (J_reg [] (
        .cons (.no) _ _ (op_move (Lk.t rfl)) <|
        .cons (.no) _ _ (op_move (Lk.t rfl)) <|
        .cons (.no) _ _ (op_add (Lk.t rfl) (Lk.k rfl) (wrap_id (by omega) (by omega))) <|
        .cons (.no) _ _ (op_sslice Tryd.underlying9 (Lk.k rfl) (Lk.t rfl) (Lk.t rfl) (by omega) (by omega) (Int.le_trans (show (_ : Int) ≤ 36 by omega) (by decide +kernel))) <|
        .cons (.no) _ _ (op_assign (Lk.t rfl)) <|
        .nil) ff rfl fun g3 => ⟨_, _, [], rfl, (.cons 2 rfl <| .nil), (.nil), ?_⟩)
    refine JN_then ?_
    refine J_ret ?_
    refine JN_then_ret ?_
    refine JN_ret (.cons (.tmp (Lk.t rfl)) <| .nil) (sb_trans (sb_res1 sb_refl) ?_)
    exact sb_eq (by unfold itoaS; rw [if_pos (by omega)]; rfl)
  · have h1' := h1
    try simp only [cmpB, Bool.and_eq_true, Bool.or_eq_true, Bool.and_eq_false_iff, Bool.or_eq_false_iff, Bool.not_eq_true', Bool.not_eq_false', Bool.not_eq_true, Bool.not_eq_false, decide_eq_true_eq, decide_eq_false_iff_not, Int.not_lt, Int.not_le, beq_iff_eq, bne_iff_ne, beq_eq_false_iff_ne, bne_eq_false_iff_eq, ne_eq, Decidable.not_not] at h1
    refine J_skip ?_
    refine JN_then ?_
    refine J_seq (J_reg [] (
        .cons (.no) _ _ (op_move (Lk.t rfl)) <|
        .cons (.no) _ _ (op_mul (Lk.t rfl) (Lk.k rfl) (wrap_id (by omega) (by omega))) <|
        .cons (.no) _ _ (op_move (Lk.t rfl)) <|
        .cons (.no) _ _ (op_mul (Lk.t rfl) (Lk.k rfl) (wrap_id (by omega) (by omega))) <|
        .cons (.no) _ _ (op_add (Lk.t rfl) (Lk.k rfl) (wrap_id (by omega) (by omega))) <|
        .cons (.no) _ _ (op_sslice Tryd.underlying9 (Lk.k rfl) (Lk.t rfl) (Lk.t rfl) (by omega) (by omega) (Int.le_trans (show (_ : Int) ≤ 200 by omega) (by decide +kernel))) <|
        .cons (.no) _ _ (op_assign (Lk.t rfl)) <|
        .nil) ff rfl fun g4 => ⟨_, _, [], rfl, (.cons 2 rfl <| .nil), (.nil), ?_⟩)
    refine JN_then ?_
    refine J_ret ?_
    refine JN_ret (.cons (.tmp (Lk.t rfl)) <| .nil) (sb_trans (sb_res1 sb_refl) ?_)
    exact sb_eq (by unfold itoaS; rw [if_neg (by omega)]; rfl)
theorem fmtint_ok {i : Int} (i0 : 0 ≤ i) (i1 : i < 100) : Ct Tryd.prog 64 [isv (.int .i64 i), isv (.int .i64 10)] (strp (itoaS i)) := by
  refine Ct.of Tryd.func64 rfl (by kernel_rfl) rfl fun c0 => ?_
  refine J_seq (J_reg [] (
      .cons (.no) _ _ (op_assign (Lk.k rfl)) <|
      .nil) ff rfl fun g1 => ⟨_, _, [], rfl, (.cons 0 rfl <| .cons 1 rfl <| .nil), (.nil), ?_⟩)
  refine JN_then ?_
  refine J_seq ?_
  refine J_seq (J_reg [] (
      .cons (.no) _ _ (op_move (Lk.t rfl)) <|
      .cons (.no) _ _ (op_cmp (by simp) (Lk.t rfl) (Lk.k rfl) rfl) <|
      .nil) ff rfl fun g2 => ⟨_, _, [], rfl, (.cons 0 rfl <| .cons 1 rfl <| .cons 11 rfl <| .nil), (.nil), ?_⟩)
  refine JN_then ?_
  refine J_cond (cond_of (Lk.t rfl)) (fun h1 => ?_) (fun h1 => ?_)
  · have h1' := h1
    try simp only [cmpB, Bool.and_eq_true, Bool.or_eq_true, Bool.and_eq_false_iff, Bool.or_eq_false_iff, Bool.not_eq_true', Bool.not_eq_false', Bool.not_eq_true, Bool.not_eq_false, decide_eq_true_eq, decide_eq_false_iff_not, Int.not_lt, Int.not_le, beq_iff_eq, bne_iff_ne, beq_eq_false_iff_ne, bne_eq_false_iff_eq, ne_eq, Decidable.not_not] at h1
    refine J_seq ?_
    refine J_seq (J_reg [] (
        .cons (.no) _ _ (op_move (Lk.t rfl)) <|
        .cons (.no) _ _ (op_cmp (by simp) (Lk.k rfl) (Lk.t rfl) rfl) <|
        .cons (.no) _ _ (op_move (Lk.t rfl)) <|
        .cons (.no) _ _ (op_guard rfl rfl (gd_b rfl) (fun hC => (op_move (Lk.t rfl)))) <|
        .cons (.no) _ _ (op_guard rfl rfl (gd_b rfl) (fun hC => (op_cmp (by simp) (Lk.w rfl hC) (Lk.k rfl) rfl))) <|
        .cons (.no) _ _ (op_and (Lk.t rfl) (fun h2 => (Lk.w rfl h2))) <|
        .nil) ff rfl fun g3 => ⟨_, _, [], rfl, (.cons 0 rfl <| .cons 17 rfl <| .nil), (.nil), ?_⟩)
    refine JN_then ?_
    refine J_cond (cond_of (Lk.t rfl)) (fun h2 => ?_) (fun h2 => ?_)
    · have h2' := h2
      try simp only [cmpB, Bool.and_eq_true, Bool.or_eq_true, Bool.and_eq_false_iff, Bool.or_eq_false_iff, Bool.not_eq_true', Bool.not_eq_false', Bool.not_eq_true, Bool.not_eq_false, decide_eq_true_eq, decide_eq_false_iff_not, Int.not_lt, Int.not_le, beq_iff_eq, bne_iff_ne, beq_eq_false_iff_ne, bne_eq_false_iff_eq, ne_eq, Decidable.not_not] at h2
      refine J_seq (J_reg [] (
          .cons (.no) _ _ (op_move (Lk.t rfl)) <|
          .cons (.no) _ _ (op_call (small_ok i0 i1) ⟨(Lk.t rfl),  trivial⟩) <|
          .cons (.no) _ _ (op_assign (Lk.t rfl)) <|
          .nil) ff rfl fun g4 => ⟨_, _, [], rfl, (.cons 4 rfl <| .nil), (.nil), ?_⟩)
      refine JN_then ?_
      refine J_ret ?_
      refine JN_then_ret ?_
      refine JN_then_ret ?_
      refine JN_ret (.cons (.tmp (Lk.t rfl)) <| .nil) (sb_trans (sb_res1 sb_refl) ?_)
      exact sb_refl
    · have h2' := h2
      try simp only [cmpB, Bool.and_eq_true, Bool.or_eq_true, Bool.and_eq_false_iff, Bool.or_eq_false_iff, Bool.not_eq_true', Bool.not_eq_false', Bool.not_eq_true, Bool.not_eq_false, decide_eq_true_eq, decide_eq_false_iff_not, Int.not_lt, Int.not_le, beq_iff_eq, bne_iff_ne, beq_eq_false_iff_ne, bne_eq_false_iff_eq, ne_eq, Decidable.not_not] at h2
      exact absurd h2' (by simp [cmpB]; omega)
  · have h1' := h1
    try simp only [cmpB, Bool.and_eq_true, Bool.or_eq_true, Bool.and_eq_false_iff, Bool.or_eq_false_iff, Bool.not_eq_true', Bool.not_eq_false', Bool.not_eq_true, Bool.not_eq_false, decide_eq_true_eq, decide_eq_false_iff_not, Int.not_lt, Int.not_le, beq_iff_eq, bne_iff_ne, beq_eq_false_iff_ne, bne_eq_false_iff_eq, ne_eq, Decidable.not_not] at h1
    exact absurd h1' (by decide)
theorem itoa1_ok {i : Int} (i0 : 0 ≤ i) (i1 : i < 100) : Ct Tryd.prog 47 [isv (.int .i64 i)] (strp (itoaS i)) := by
  refine Ct.of Tryd.func47 rfl (by kernel_rfl) rfl fun c0 => ?_
  refine J_seq (J_reg [] (
      .cons (.no) _ _ (op_assign (Lk.k rfl)) <|
      .nil) ff rfl fun g1 => ⟨_, _, [], rfl, (.cons 0 rfl <| .nil), (.nil), ?_⟩)
  refine JN_then ?_
  refine J_seq (J_reg [] (
      .cons (.no) _ _ (op_move (Lk.t rfl)) <|
      .cons (.no) _ _ (op_call (fmtint_ok i0 i1) ⟨(Lk.t rfl), (Lk.k rfl),  trivial⟩) <|
      .cons (.no) _ _ (op_assign (Lk.t rfl)) <|
      .nil) ff rfl fun g2 => ⟨_, _, [], rfl, (.cons 2 rfl <| .nil), (.nil), ?_⟩)
  refine JN_then ?_
  refine J_ret ?_
  refine JN_ret (.cons (.tmp (Lk.t rfl)) <| .nil) (sb_trans (sb_res1 sb_refl) ?_)
  exact sb_refl
theorem itoa_ok {i : Int} (i0 : 0 ≤ i) (i1 : i < 100) : Ct Tryd.prog 34 [isv (.int .i64 i)] (strp (itoaS i)) := by
  refine Ct.of Tryd.func34 rfl (by kernel_rfl) rfl fun c0 => ?_
  refine J_seq (J_reg [] (
      .cons (.no) _ _ (op_assign (Lk.k rfl)) <|
      .nil) ff rfl fun g1 => ⟨_, _, [], rfl, (.cons 0 rfl <| .nil), (.nil), ?_⟩)
  refine JN_then ?_
  refine J_seq (J_reg [] (
      .cons (.no) _ _ (op_move (Lk.t rfl)) <|
      .cons (.no) _ _ (op_call (itoa1_ok i0 i1) ⟨(Lk.t rfl),  trivial⟩) <|
      .cons (.no) _ _ (op_assign (Lk.t rfl)) <|
      .nil) ff rfl fun g2 => ⟨_, _, [], rfl, (.cons 2 rfl <| .nil), (.nil), ?_⟩)
  refine JN_then ?_
  refine J_ret ?_
  refine JN_ret (.cons (.tmp (Lk.t rfl)) <| .nil) (sb_trans (sb_res1 sb_refl) ?_)
  exact sb_refl
theorem mnames_ok {ps : List Prt} : Ct Tryd.prog 14 [MotP ps] (resS (namesR ps)) := by
  refine Ct.of Tryd.func14 rfl (by kernel_rfl) rfl fun c0 => ?_
  refine J_lenP 0 rfl fun hlen => ?_
  refine J_to (To.emps 1) ?_
  refine J_seq (J_reg [] (
      .cons (.wr 0) _ _ (op_box 0 (Lk.t rfl) co_agg rfl) <|
      .cons (.no) _ _ (op_assign (Lk.k rfl)) <|
      .cons (.no) _ _ (op_assign (Lk.k rfl)) <|
      .nil) ff rfl fun g1 => ⟨_, _, [0], rfl, (.cons 1 rfl <| .nil), (.cons 0 rfl <| .nil), ?_⟩)
  refine JN_then ?_
  refine J_seq ?_
  refine J_seq (J_reg [] (
      .cons (.rd 0) _ _ (op_get_ag 0 ag27 (Lk.t rfl) rfl mem_blk rfl rfl) <|
      .cons (.no) _ _ (op_call (mchk_ok) ⟨(Lk.t rfl),  trivial⟩) <|
      .cons (.no) _ _ (op_assign (Lk.t rfl)) <|
      .nil) ff rfl fun g2 => ⟨_, _, [0], rfl, (.cons 1 rfl <| .cons 4 rfl <| .nil), (.cons 0 rfl <| .nil), ?_⟩)
  refine JN_then ?_
  refine J_seq (J_reg [] (
      .cons (.no) _ _ (op_move (Lk.t rfl)) <|
      .cons (.no) _ _ (op_cmp (by simp) (Lk.t rfl) (Lk.k rfl) rfl) <|
      .nil) ff rfl fun g3 => ⟨_, _, [0], rfl, (.cons 1 rfl <| .cons 4 rfl <| .cons 13 rfl <| .nil), (.cons 0 rfl <| .nil), ?_⟩)
  refine JN_then ?_
  refine J_cond (cond_of (Lk.t rfl)) (fun h1 => ?_) (fun h1 => ?_)
  · have h1' := h1
    try simp only [cmpB, Bool.and_eq_true, Bool.or_eq_true, Bool.and_eq_false_iff, Bool.or_eq_false_iff, Bool.not_eq_true', Bool.not_eq_false', Bool.not_eq_true, Bool.not_eq_false, decide_eq_true_eq, decide_eq_false_iff_not, Int.not_lt, Int.not_le, beq_iff_eq, bne_iff_ne, beq_eq_false_iff_ne, bne_eq_false_iff_eq, ne_eq, Decidable.not_not] at h1
    refine J_seq (J_reg [] (
        .cons (.no) _ _ (op_move (Lk.t rfl)) <|
        .cons (.no) _ _ (op_assign (Lk.k rfl)) <|
        .cons (.no) _ _ (op_assign (Lk.t rfl)) <|
        .nil) ff rfl fun g4 => ⟨_, _, [], rfl, (.cons 2 rfl <| .cons 3 rfl <| .nil), (.nil), ?_⟩)
    refine JN_then ?_
    refine J_ret ?_
    refine JN_then_ret ?_
    refine JN_ret (.cons (.tmp (Lk.t rfl)) <| .cons (.tmp (Lk.t rfl)) <| .nil) (sb_trans (sb_res (.cons (sb_nil (mk := strp)) <| .cons sb_refl <| .nil)) ?_)
    exact ret_S (names_1 h1)
  · have h1' := h1
    try simp only [cmpB, Bool.and_eq_true, Bool.or_eq_true, Bool.and_eq_false_iff, Bool.or_eq_false_iff, Bool.not_eq_true', Bool.not_eq_false', Bool.not_eq_true, Bool.not_eq_false, decide_eq_true_eq, decide_eq_false_iff_not, Int.not_lt, Int.not_le, beq_iff_eq, bne_iff_ne, beq_eq_false_iff_ne, bne_eq_false_iff_eq, ne_eq, Decidable.not_not] at h1
    obtain ⟨h0, hgd, htl⟩ := mot_good h1
    have hl12 := len_12 hgd htl
    refine J_skip ?_
    refine JN_then ?_
    refine J_seq (J_reg [] (
        .cons (.no) _ _ (op_assign (Lk.k rfl)) <|
        .nil) ff rfl fun g5 => ⟨_, _, [0], rfl, (.cons 1 rfl <| .cons 5 rfl <| .nil), (.cons 0 rfl <| .nil), ?_⟩)
    refine JN_then ?_
    refine J_seq ?_
    refine J_seq (J_reg [] (
        .cons (.no) _ _ (op_field_own fd27_0 (Lk.t rfl) rfl) <|
        .cons (.rd 0) _ _ (op_get_sc 0 sc25 (Lk.t rfl) rfl mem_blk rfl) <|
        .cons (.no) _ _ (op_len_sk sl25 (Lk.t rfl)) <|
        .cons (.no) _ _ (op_move (Lk.k rfl)) <|
        .nil) ff rfl fun g6 => ⟨_, _, [], rfl, (.cons 5 rfl <| .cons 16 rfl <| .cons 17 rfl <| .cons 18 rfl <| .nil), (.nil), ?_⟩)
    refine JN_then ?_
    refine J_block ?_
    refine J_to (To.emps 2) ?_
    refine J_loopc (α := Nat × Value) (fun x => (x.1 : Int) ≤ (ps.length : Int)) (fun x => ((ps.length : Int)).toNat - x.1) (fun x restR => (18, isv (.int .i64 (x.1 : Int))) :: (5, isv x.2) :: restR) (fun x restS => som x.2 strp (nmP ps x.1) 9 :: restS) (ρc := [(16, _), (17, _)]) (σc := []) (0, .slice none 0 0) (by omega) (To.pick (fun _ => .sub (t := 18) rfl (sp_eq (by rfl)) <| .sub (t := 5) rfl (sp_eq (by rfl)) <| .cons 16 rfl <| .cons 17 rfl <| .nil) (fun _ => .sub 1 rfl (som_nil) <| .nil) (ks := [1]) rfl) (fun x hI => ?_)
    obtain ⟨k, sv⟩ := x
    try simp only at hI
    show J _ _ ((18, isv (.int .i64 (k : Int))) :: (5, isv sv) :: _) (som sv strp (nmP ps k) 9 :: _) _ _
    refine J_seq (J_reg [] (
        .cons (.no) _ _ (op_cmp (by simp) (Lk.t rfl) (Lk.t rfl) rfl) <|
        .nil) ff rfl fun g7 => ⟨_, _, [0], rfl, (.cons 5 rfl <| .cons 16 rfl <| .cons 17 rfl <| .cons 18 rfl <| .cons 19 rfl <| .nil), (.cons 0 rfl <| .nil), ?_⟩)
    refine JN_then ?_
    refine J_seq ?_
    refine J_cond (cond_of (Lk.t rfl)) (fun h2 => ?_) (fun h2 => ?_)
    · have h2' := h2
      try simp only [cmpB, Bool.and_eq_true, Bool.or_eq_true, Bool.and_eq_false_iff, Bool.or_eq_false_iff, Bool.not_eq_true', Bool.not_eq_false', Bool.not_eq_true, Bool.not_eq_false, decide_eq_true_eq, decide_eq_false_iff_not, Int.not_lt, Int.not_le, beq_iff_eq, bne_iff_ne, beq_eq_false_iff_ne, bne_eq_false_iff_eq, ne_eq, Decidable.not_not] at h2
      have hpk : partE (ps.getD ((k : Nat) : Int).toNat prtD) = 0 := hgd k (by omega)
      obtain ⟨hp1, hp2, hp3, _⟩ := partE_good hpk
      have hor := (ordN_rng (ps.getD ((k : Nat) : Int).toNat prtD).k).2
      refine J_skip ?_
      refine JN_then ?_
      refine J_seq ?_
      refine J_block ?_
      refine J_to (To.emps 1) ?_
      refine J_seq (J_reg [] (
          .cons (.no) _ _ (op_move (Lk.t rfl)) <|
          .cons (.no) _ _ (op_index_sk (mk := prtC) prtD sl25 prtC_len (Lk.t rfl) (Lk.t rfl) (by omega) (by omega)) <|
          .cons (.no) _ _ (op_load_ag ag69 (Lk.t rfl) rfl rfl) <|
          .cons (.wr 1) _ _ (op_alloc 1 zr69 rfl rfl) <|
          .cons (.no) _ _ (op_assign (Lk.t rfl)) <|
          .cons (.wr 1) _ _ (op_store_new 1 rfl (Lk.t rfl) co_agg sz69 rfl rfl) <|
          .nil) ff rfl fun g8 => ⟨_, _, [0, 1], rfl, (.cons 5 rfl <| .cons 6 rfl <| .cons 7 rfl <| .cons 16 rfl <| .cons 17 rfl <| .cons 18 rfl <| .nil), (.cons 0 rfl <| .cons 1 rfl <| .nil), ?_⟩)
      refine JN_then ?_
      refine J_seq (J_reg [] (
          .cons (.no) _ _ (op_field_own fd69_1 (Lk.t rfl) rfl) <|
          .cons (.rd 1) _ _ (op_get_sc 1 sc3 (Lk.t rfl) rfl mem_blk rfl) <|
          .cons (.no) _ _ (op_move (Lk.k rfl)) <|
          .nil) ff rfl fun g9 => ⟨_, _, [0, 1], rfl, (.cons 5 rfl <| .cons 6 rfl <| .cons 7 rfl <| .cons 16 rfl <| .cons 17 rfl <| .cons 18 rfl <| .cons 24 rfl <| .cons 25 rfl <| .nil), (.cons 0 rfl <| .cons 1 rfl <| .nil), ?_⟩)
      refine JN_then ?_
      refine J_block ?_
      refine J_loopc (α := Nat × Value) (fun x => (x.1 : Int) ≤ (ps.getD ((k : Nat) : Int).toNat prtD).a) (fun x => ((ps.getD ((k : Nat) : Int).toNat prtD).a).toNat - x.1) (fun x restR => (25, isv (.int .i64 (x.1 : Int))) :: (5, isv x.2) :: restR) (fun x restS => som x.2 strp (nmA k (ordN (ps.getD ((k : Nat) : Int).toNat prtD).k).toNat (nmP ps k) x.1) 9 :: restS) (ρc := [(6, _), (7, _), (16, _), (17, _), (18, _), (24, _)]) (σc := [_]) (0, sv) (by omega) (To.pick (fun _ => .sub (t := 25) rfl (sp_eq (by rfl)) <| .sub (t := 5) rfl (sp_eq (by rfl)) <| .cons 6 rfl <| .cons 7 rfl <| .cons 16 rfl <| .cons 17 rfl <| .cons 18 rfl <| .cons 24 rfl <| .nil) (fun _ => .sub 0 rfl ((fun _ _ h => h)) <| .cons 1 rfl <| .nil) (ks := [0, 1]) rfl) (fun x hI => ?_)
      obtain ⟨a, sw⟩ := x
      try simp only at hI
      show J _ _ ((25, isv (.int .i64 (a : Int))) :: (5, isv sw) :: _) (som sw strp (nmA k (ordN (ps.getD ((k : Nat) : Int).toNat prtD).k).toNat (nmP ps k) a) 9 :: _) _ _
      refine J_seq (J_reg [] (
          .cons (.no) _ _ (op_cmp (by simp) (Lk.t rfl) (Lk.t rfl) rfl) <|
          .nil) ff rfl fun g10 => ⟨_, _, [0, 1], rfl, (.cons 5 rfl <| .cons 6 rfl <| .cons 7 rfl <| .cons 16 rfl <| .cons 17 rfl <| .cons 18 rfl <| .cons 24 rfl <| .cons 25 rfl <| .cons 26 rfl <| .nil), (.cons 0 rfl <| .cons 1 rfl <| .nil), ?_⟩)
      refine JN_then ?_
      refine J_seq ?_
      refine J_cond (cond_of (Lk.t rfl)) (fun h3 => ?_) (fun h3 => ?_)
      · have h3' := h3
        try simp only [cmpB, Bool.and_eq_true, Bool.or_eq_true, Bool.and_eq_false_iff, Bool.or_eq_false_iff, Bool.not_eq_true', Bool.not_eq_false', Bool.not_eq_true, Bool.not_eq_false, decide_eq_true_eq, decide_eq_false_iff_not, Int.not_lt, Int.not_le, beq_iff_eq, bne_iff_ne, beq_eq_false_iff_ne, bne_eq_false_iff_eq, ne_eq, Decidable.not_not] at h3
        refine J_skip ?_
        refine JN_then ?_
        refine J_seq ?_
        refine J_block ?_
        refine J_seq (J_reg [] (
            .cons (.no) _ _ (op_move (Lk.t rfl)) <|
            .cons (.no) _ _ (op_assign (Lk.t rfl)) <|
            .nil) ff rfl fun g11 => ⟨_, _, [0, 1], rfl, (.cons 5 rfl <| .cons 6 rfl <| .cons 7 rfl <| .cons 8 rfl <| .cons 16 rfl <| .cons 17 rfl <| .cons 18 rfl <| .cons 24 rfl <| .cons 25 rfl <| .nil), (.cons 0 rfl <| .cons 1 rfl <| .nil), ?_⟩)
        refine JN_then ?_
        refine J_seq (J_reg [] (
            .cons (.no) _ _ (op_field_own fd69_0 (Lk.t rfl) rfl) <|
            .cons (.rd 1) _ _ (op_get_sc 1 sc3 (Lk.t rfl) rfl mem_blk rfl) <|
            .cons (.no) _ _ (op_call (orders_ok) ⟨(Lk.t rfl),  trivial⟩) <|
            .cons (.no) _ _ (op_move (Lk.k rfl)) <|
            .nil) ff rfl fun g12 => ⟨_, _, [0, 1], rfl, (.cons 5 rfl <| .cons 6 rfl <| .cons 7 rfl <| .cons 8 rfl <| .cons 16 rfl <| .cons 17 rfl <| .cons 18 rfl <| .cons 24 rfl <| .cons 25 rfl <| .cons 30 rfl <| .cons 31 rfl <| .nil), (.cons 0 rfl <| .cons 1 rfl <| .nil), ?_⟩)
        refine JN_then ?_
        refine J_block ?_
        refine J_loopc (α := Nat × Value) (fun x => (x.1 : Int) ≤ ordN (ps.getD ((k : Nat) : Int).toNat prtD).k) (fun x => (ordN (ps.getD ((k : Nat) : Int).toNat prtD).k).toNat - x.1) (fun x restR => (31, isv (.int .i64 (x.1 : Int))) :: (5, isv x.2) :: restR) (fun x restS => som x.2 strp (nmO k a (nmA k (ordN (ps.getD ((k : Nat) : Int).toNat prtD).k).toNat (nmP ps k) a) x.1) 9 :: restS) (ρc := [(6, _), (7, _), (8, _), (16, _), (17, _), (18, _), (24, _), (25, _), (30, _)]) (σc := [_]) (0, sw) (by omega) (To.pick (fun _ => .sub (t := 31) rfl (sp_eq (by rfl)) <| .sub (t := 5) rfl (sp_eq (by rfl)) <| .cons 6 rfl <| .cons 7 rfl <| .cons 8 rfl <| .cons 16 rfl <| .cons 17 rfl <| .cons 18 rfl <| .cons 24 rfl <| .cons 25 rfl <| .cons 30 rfl <| .nil) (fun _ => .sub 0 rfl ((fun _ _ h => h)) <| .cons 1 rfl <| .nil) (ks := [0, 1]) rfl) (fun x hI => ?_)
        obtain ⟨o, sx⟩ := x
        try simp only at hI
        show J _ _ ((31, isv (.int .i64 (o : Int))) :: (5, isv sx) :: _) (som sx strp (nmO k a (nmA k (ordN (ps.getD ((k : Nat) : Int).toNat prtD).k).toNat (nmP ps k) a) o) 9 :: _) _ _
        refine J_seq (J_reg [] (
            .cons (.no) _ _ (op_cmp (by simp) (Lk.t rfl) (Lk.t rfl) rfl) <|
            .nil) ff rfl fun g13 => ⟨_, _, [0, 1], rfl, (.cons 5 rfl <| .cons 6 rfl <| .cons 7 rfl <| .cons 8 rfl <| .cons 16 rfl <| .cons 17 rfl <| .cons 18 rfl <| .cons 24 rfl <| .cons 25 rfl <| .cons 30 rfl <| .cons 31 rfl <| .cons 32 rfl <| .nil), (.cons 0 rfl <| .cons 1 rfl <| .nil), ?_⟩)
        refine JN_then ?_
        refine J_seq ?_
        refine J_cond (cond_of (Lk.t rfl)) (fun h4 => ?_) (fun h4 => ?_)
        · have h4' := h4
          try simp only [cmpB, Bool.and_eq_true, Bool.or_eq_true, Bool.and_eq_false_iff, Bool.or_eq_false_iff, Bool.not_eq_true', Bool.not_eq_false', Bool.not_eq_true, Bool.not_eq_false, decide_eq_true_eq, decide_eq_false_iff_not, Int.not_lt, Int.not_le, beq_iff_eq, bne_iff_ne, beq_eq_false_iff_ne, bne_eq_false_iff_eq, ne_eq, Decidable.not_not] at h4
          have hnr : (nmO k a (nmA k (ordN (ps.getD ((k : Nat) : Int).toNat prtD).k).toNat (nmP ps k) a) o).length < 12 := nm_rng hgd htl (show k < ps.length by omega) (show (a : Int) < (ps.getD ((k : Nat) : Int).toNat prtD).a by omega) (show (o : Int) < ordN (ps.getD ((k : Nat) : Int).toNat prtD).k by omega)
          refine J_skip ?_
          refine JN_then ?_
          refine J_seq ?_
          refine J_block ?_
          refine J_seq (J_reg [] (
              .cons (.no) _ _ (op_move (Lk.t rfl)) <|
              .cons (.no) _ _ (op_assign (Lk.t rfl)) <|
              .nil) ff rfl fun g14 => ⟨_, _, [0, 1], rfl, (.cons 5 rfl <| .cons 6 rfl <| .cons 7 rfl <| .cons 8 rfl <| .cons 9 rfl <| .cons 16 rfl <| .cons 17 rfl <| .cons 18 rfl <| .cons 24 rfl <| .cons 25 rfl <| .cons 30 rfl <| .cons 31 rfl <| .nil), (.cons 0 rfl <| .cons 1 rfl <| .nil), ?_⟩)
          refine JN_then ?_
          refine (J_reg [[], [], [], [2], [1, 2, 3], [], [5], [1, 2, 3, 4, 5, 6], [1, 2, 3, 4, 5, 6, 7], [], [5, 6, 9], [1, 2, 3, 4, 5, 6, 7, 8, 9, 10], [1, 2, 3, 4, 5, 6, 7, 8, 9, 10, 11], [0, 1, 2, 3, 4, 5, 6, 7, 8, 9, 10, 11, 12], [0, 1, 2, 3, 4, 5, 6, 7, 8, 9, 10, 11, 12, 13]] (
              .cons (.no) _ _ (op_move (Lk.t rfl)) <|
              .cons (.no) _ _ (op_move (Lk.t rfl)) <|
              .cons (.no) _ _ (op_move (Lk.t rfl)) <|
              .cons (.no) _ _ (op_add (Lk.t rfl) (Lk.k rfl) (wrap_id (by omega) (by omega))) <|
              .cons (.no) _ _ (op_sslice Tryd.underlying9 (Lk.k rfl) (Lk.t rfl) (Lk.t rfl) (by omega) (by omega) (Int.le_trans (show (_ : Int) ≤ 3 by omega) (by decide +kernel))) <|
              .cons (.no) _ _ (op_move (Lk.t rfl)) <|
              .cons (.no) _ _ (op_call (itoa_ok (by omega) (by omega)) ⟨(Lk.t rfl),  trivial⟩) <|
              .cons (.no) _ _ (op_scat (Lk.t rfl) (Lk.t rfl) nm_1) <|
              .cons (.no) _ _ (op_scat (Lk.t rfl) (Lk.k rfl) nm_2) <|
              .cons (.no) _ _ (op_move (Lk.t rfl)) <|
              .cons (.no) _ _ (op_call (itoa_ok (by omega) (by omega)) ⟨(Lk.t rfl),  trivial⟩) <|
              .cons (.no) _ _ (op_scat (Lk.t rfl) (Lk.t rfl) nm_3) <|
              .cons (.no) _ _ (op_buildSlice sl37 zr9 rfl rfl rfl rfl (.cons rfl (Lk.t rfl) co_isv rfl (puts_l rfl (Nat.le_of_ble_eq_true rfl)) .nil)) <|
              .cons (.wr 0) _ _ (op_append_m (mk := strp) 0 sl37 zr9 rfl (Lk.t rfl) (Lk.t rfl) rfl (by omega) (by omega)) <|
              .cons (.no) _ _ (op_assign_ve rfl rfl) <|
              .nil) (fun _ => mixed) rfl fun g15 => ⟨_, _, [0, 1], rfl, (.cons 5 rfl <| .cons 6 rfl <| .cons 7 rfl <| .cons 8 rfl <| .cons 16 rfl <| .cons 17 rfl <| .cons 18 rfl <| .cons 24 rfl <| .cons 25 rfl <| .cons 30 rfl <| .cons 31 rfl <| .nil), (.cons 0 rfl <| .cons 1 rfl <| .nil), ?_⟩)
          refine JN_block ?_
          refine JN_then ?_
          refine (J_reg [] (
              .cons (.no) _ _ (op_add (Lk.t rfl) (Lk.k rfl) (wrap_id (by omega) (by omega))) <|
              .cons (.no) _ _ (op_move (Lk.t rfl)) <|
              .nil) ff rfl fun g16 => ⟨_, _, [0, 1], rfl, (.cons 5 rfl <| .cons 6 rfl <| .cons 7 rfl <| .cons 8 rfl <| .cons 16 rfl <| .cons 17 rfl <| .cons 18 rfl <| .cons 24 rfl <| .cons 25 rfl <| .cons 30 rfl <| .cons 31 rfl <| .nil), (.cons 0 rfl <| .cons 1 rfl <| .nil), ?_⟩)
          exact JN_again (o + 1, g15 47) (by exact (show ((o + 1 : Nat) : Int) ≤ _ by omega)) (by show (ordN (ps.getD ((k : Nat) : Int).toNat prtD).k).toNat - (o + 1) < _; omega) (To.pick (fun _ => .sub (t := 31) rfl (sp_eq (by rfl)) <| .sub (t := 5) rfl (sp_eq (by rfl)) <| .cons 6 rfl <| .cons 7 rfl <| .cons 8 rfl <| .cons 16 rfl <| .cons 17 rfl <| .cons 18 rfl <| .cons 24 rfl <| .cons 25 rfl <| .cons 30 rfl <| .nil) (fun _ => .sub 0 rfl ((res_eq rfl)) <| .cons 1 rfl <| .nil) (ks := [0, 1]) rfl)
        · have h4' := h4
          try simp only [cmpB, Bool.and_eq_true, Bool.or_eq_true, Bool.and_eq_false_iff, Bool.or_eq_false_iff, Bool.not_eq_true', Bool.not_eq_false', Bool.not_eq_true, Bool.not_eq_false, decide_eq_true_eq, decide_eq_false_iff_not, Int.not_lt, Int.not_le, beq_iff_eq, bne_iff_ne, beq_eq_false_iff_ne, bne_eq_false_iff_eq, ne_eq, Decidable.not_not] at h4
          refine J_exit ?_
          refine JN_then_exit ?_
          refine JN_then_exit ?_
          refine JN_exit_here ?_
          refine JN_block ?_
          refine JN_then ?_
          refine (J_reg [] (
              .cons (.no) _ _ (op_add (Lk.t rfl) (Lk.k rfl) (wrap_id (by omega) (by omega))) <|
              .cons (.no) _ _ (op_move (Lk.t rfl)) <|
              .nil) ff rfl fun g17 => ⟨_, _, [0, 1], rfl, (.cons 5 rfl <| .cons 6 rfl <| .cons 7 rfl <| .cons 16 rfl <| .cons 17 rfl <| .cons 18 rfl <| .cons 24 rfl <| .cons 25 rfl <| .nil), (.cons 0 rfl <| .cons 1 rfl <| .nil), ?_⟩)
          exact JN_again (a + 1, sx) (by exact (show ((a + 1 : Nat) : Int) ≤ _ by omega)) (by show ((ps.getD ((k : Nat) : Int).toNat prtD).a).toNat - (a + 1) < _; omega) (To.pick (fun _ => .sub (t := 25) rfl (sp_eq (by rfl)) <| .sub (t := 5) rfl (sp_eq (by rfl)) <| .cons 6 rfl <| .cons 7 rfl <| .cons 16 rfl <| .cons 17 rfl <| .cons 18 rfl <| .cons 24 rfl <| .nil) (fun _ => .sub 0 rfl ((res_eq (by rw [show o = (ordN (ps.getD ((k : Nat) : Int).toNat prtD).k).toNat by omega]; rfl))) <| .cons 1 rfl <| .nil) (ks := [0, 1]) rfl)
      · have h3' := h3
        try simp only [cmpB, Bool.and_eq_true, Bool.or_eq_true, Bool.and_eq_false_iff, Bool.or_eq_false_iff, Bool.not_eq_true', Bool.not_eq_false', Bool.not_eq_true, Bool.not_eq_false, decide_eq_true_eq, decide_eq_false_iff_not, Int.not_lt, Int.not_le, beq_iff_eq, bne_iff_ne, beq_eq_false_iff_ne, bne_eq_false_iff_eq, ne_eq, Decidable.not_not] at h3
        refine J_exit ?_
        refine JN_then_exit ?_
        refine JN_then_exit ?_
        refine JN_exit_here ?_
        refine JN_block ?_
        refine JN_then ?_
        refine (J_reg [] (
            .cons (.no) _ _ (op_add (Lk.t rfl) (Lk.k rfl) (wrap_id (by omega) (by omega))) <|
            .cons (.no) _ _ (op_move (Lk.t rfl)) <|
            .nil) ff rfl fun g18 => ⟨_, _, [0], rfl, (.cons 5 rfl <| .cons 16 rfl <| .cons 17 rfl <| .cons 18 rfl <| .nil), (.cons 0 rfl <| .nil), ?_⟩)
        exact JN_again (k + 1, sw) (by exact (show ((k + 1 : Nat) : Int) ≤ _ by omega)) (by show ((ps.length : Int)).toNat - (k + 1) < _; omega) (To.pick (fun _ => .sub (t := 18) rfl (sp_eq (by rfl)) <| .sub (t := 5) rfl (sp_eq (by rfl)) <| .cons 16 rfl <| .cons 17 rfl <| .nil) (fun _ => .sub 0 rfl ((res_eq (by rw [show a = ((ps.getD ((k : Nat) : Int).toNat prtD).a).toNat by omega]; rfl))) <| .nil) (ks := [0]) rfl)
    · have h2' := h2
      try simp only [cmpB, Bool.and_eq_true, Bool.or_eq_true, Bool.and_eq_false_iff, Bool.or_eq_false_iff, Bool.not_eq_true', Bool.not_eq_false', Bool.not_eq_true, Bool.not_eq_false, decide_eq_true_eq, decide_eq_false_iff_not, Int.not_lt, Int.not_le, beq_iff_eq, bne_iff_ne, beq_eq_false_iff_ne, bne_eq_false_iff_eq, ne_eq, Decidable.not_not] at h2
      refine J_exit ?_
      refine JN_then_exit ?_
      refine JN_then_exit ?_
      refine JN_exit_here ?_
      refine JN_then ?_
      refine J_seq (J_reg [] (
          .cons (.no) _ _ (op_move (Lk.t rfl)) <|
          .cons (.no) _ _ (op_assign (Lk.t rfl)) <|
          .cons (.no) _ _ (op_assign (Lk.k rfl)) <|
          .nil) ff rfl fun g19 => ⟨_, _, [0], rfl, (.cons 2 rfl <| .cons 3 rfl <| .nil), (.cons 0 rfl <| .nil), ?_⟩)
      refine JN_then ?_
      refine J_ret ?_
      refine JN_to (To.freeze 0 (fun _ h => h) rfl frz_som rfl) ?_
      refine JN_ret (.cons (.tmp (Lk.t rfl)) <| .cons (.tmp (Lk.t rfl)) <| .nil) (sb_trans (sb_res (.cons (sb_fk 0 rfl) <| .cons sb_refl <| .nil)) ?_)
      exact ret_S (names_2 h1 (by omega))
theorem rnames_ok {ps : List Prt} : Ct Tryd.prog 15 [MotP ps] (resS (namesR ps)) := by
  refine Ct.of Tryd.func15 rfl (by kernel_rfl) rfl fun c0 => ?_
  refine J_lenP 0 rfl fun hlen => ?_
  refine J_to (To.emps 1) ?_
  refine J_seq (J_reg [] (
      .cons (.wr 0) _ _ (op_box 0 (Lk.t rfl) co_agg rfl) <|
      .cons (.no) _ _ (op_assign (Lk.k rfl)) <|
      .cons (.no) _ _ (op_assign (Lk.k rfl)) <|
      .nil) ff rfl fun g1 => ⟨_, _, [0], rfl, (.cons 1 rfl <| .nil), (.cons 0 rfl <| .nil), ?_⟩)
  refine JN_then ?_
  refine J_seq ?_
  refine J_seq (J_reg [] (
      .cons (.rd 0) _ _ (op_get_ag 0 ag27 (Lk.t rfl) rfl mem_blk rfl rfl) <|
      .cons (.no) _ _ (op_call (rmchk_ok) ⟨(Lk.t rfl),  trivial⟩) <|
      .cons (.no) _ _ (op_assign (Lk.t rfl)) <|
      .nil) ff rfl fun g2 => ⟨_, _, [0], rfl, (.cons 1 rfl <| .cons 4 rfl <| .nil), (.cons 0 rfl <| .nil), ?_⟩)
  refine JN_then ?_
  refine J_seq (J_reg [] (
      .cons (.no) _ _ (op_move (Lk.t rfl)) <|
      .cons (.no) _ _ (op_cmp (by simp) (Lk.t rfl) (Lk.k rfl) rfl) <|
      .nil) ff rfl fun g3 => ⟨_, _, [0], rfl, (.cons 1 rfl <| .cons 4 rfl <| .cons 13 rfl <| .nil), (.cons 0 rfl <| .nil), ?_⟩)
  refine JN_then ?_
  refine J_cond (cond_of (Lk.t rfl)) (fun h1 => ?_) (fun h1 => ?_)
  · have h1' := h1
    try simp only [cmpB, Bool.and_eq_true, Bool.or_eq_true, Bool.and_eq_false_iff, Bool.or_eq_false_iff, Bool.not_eq_true', Bool.not_eq_false', Bool.not_eq_true, Bool.not_eq_false, decide_eq_true_eq, decide_eq_false_iff_not, Int.not_lt, Int.not_le, beq_iff_eq, bne_iff_ne, beq_eq_false_iff_ne, bne_eq_false_iff_eq, ne_eq, Decidable.not_not] at h1
    refine J_seq (J_reg [] (
        .cons (.no) _ _ (op_move (Lk.t rfl)) <|
        .cons (.no) _ _ (op_assign (Lk.k rfl)) <|
        .cons (.no) _ _ (op_assign (Lk.t rfl)) <|
        .nil) ff rfl fun g4 => ⟨_, _, [], rfl, (.cons 2 rfl <| .cons 3 rfl <| .nil), (.nil), ?_⟩)
    refine JN_then ?_
    refine J_ret ?_
    refine JN_then_ret ?_
    refine JN_ret (.cons (.tmp (Lk.t rfl)) <| .cons (.tmp (Lk.t rfl)) <| .nil) (sb_trans (sb_res (.cons (sb_nil (mk := strp)) <| .cons sb_refl <| .nil)) ?_)
    exact ret_S (names_1 h1)
  · have h1' := h1
    try simp only [cmpB, Bool.and_eq_true, Bool.or_eq_true, Bool.and_eq_false_iff, Bool.or_eq_false_iff, Bool.not_eq_true', Bool.not_eq_false', Bool.not_eq_true, Bool.not_eq_false, decide_eq_true_eq, decide_eq_false_iff_not, Int.not_lt, Int.not_le, beq_iff_eq, bne_iff_ne, beq_eq_false_iff_ne, bne_eq_false_iff_eq, ne_eq, Decidable.not_not] at h1
    obtain ⟨h0, hgd, htl⟩ := mot_good h1
    have hl12 := len_12 hgd htl
    refine J_skip ?_
    refine JN_then ?_
    refine J_seq (J_reg [] (
        .cons (.no) _ _ (op_assign (Lk.k rfl)) <|
        .nil) ff rfl fun g5 => ⟨_, _, [0], rfl, (.cons 1 rfl <| .cons 5 rfl <| .nil), (.cons 0 rfl <| .nil), ?_⟩)
    refine JN_then ?_
    refine J_seq (J_reg [] (
        .cons (.no) _ _ (op_assign (Lk.k rfl)) <|
        .nil) ff rfl fun g6 => ⟨_, _, [0], rfl, (.cons 1 rfl <| .cons 5 rfl <| .cons 6 rfl <| .nil), (.cons 0 rfl <| .nil), ?_⟩)
    refine JN_then ?_
    refine J_seq ?_
    refine J_seq (J_reg [] (
        .cons (.no) _ _ (op_assign (Lk.k rfl)) <|
        .nil) ff rfl fun g7 => ⟨_, _, [0], rfl, (.cons 1 rfl <| .cons 5 rfl <| .cons 6 rfl <| .cons 7 rfl <| .nil), (.cons 0 rfl <| .nil), ?_⟩)
    refine JN_then ?_
    refine J_block ?_
    refine J_to (To.emps 1) ?_
    refine J_loopc (α := Nat × Value) (fun x => (x.1 : Int) ≤ (ps.length : Int)) (fun x => ((ps.length : Int)).toNat - x.1) (fun x restR => (7, isv (.int .i64 (x.1 : Int))) :: (5, isv x.2) :: restR) (fun x restS => som x.2 strp (nmP ps x.1) 9 :: restS) (ρc := [(1, _), (6, _)]) (σc := [_]) (0, .slice none 0 0) (by omega) (To.pick (fun _ => .sub (t := 7) rfl (sp_eq (by rfl)) <| .sub (t := 5) rfl (sp_eq (by rfl)) <| .cons 1 rfl <| .cons 6 rfl <| .nil) (fun _ => .sub 1 rfl (som_nil) <| .cons 0 rfl <| .nil) (ks := [1, 0]) rfl) (fun x hI => ?_)
    obtain ⟨k, sv⟩ := x
    try simp only at hI
    show J _ _ ((7, isv (.int .i64 (k : Int))) :: (5, isv sv) :: _) (som sv strp (nmP ps k) 9 :: _) _ _
    refine J_seq ?_
    refine J_seq (J_reg [] (
        .cons (.no) _ _ (op_move (Lk.t rfl)) <|
        .cons (.no) _ _ (op_field_own fd27_0 (Lk.t rfl) rfl) <|
        .cons (.rd 1) _ _ (op_get_sc 1 sc25 (Lk.t rfl) rfl mem_blk rfl) <|
        .cons (.no) _ _ (op_len_sk sl25 (Lk.t rfl)) <|
        .cons (.no) _ _ (op_cmp (by simp) (Lk.t rfl) (Lk.t rfl) rfl) <|
        .nil) ff rfl fun g8 => ⟨_, _, [0, 1], rfl, (.cons 1 rfl <| .cons 5 rfl <| .cons 6 rfl <| .cons 7 rfl <| .cons 19 rfl <| .nil), (.cons 0 rfl <| .cons 1 rfl <| .nil), ?_⟩)
    refine JN_then ?_
    refine J_cond (cond_of (Lk.t rfl)) (fun h2 => ?_) (fun h2 => ?_)
    · have h2' := h2
      try simp only [cmpB, Bool.and_eq_true, Bool.or_eq_true, Bool.and_eq_false_iff, Bool.or_eq_false_iff, Bool.not_eq_true', Bool.not_eq_false', Bool.not_eq_true, Bool.not_eq_false, decide_eq_true_eq, decide_eq_false_iff_not, Int.not_lt, Int.not_le, beq_iff_eq, bne_iff_ne, beq_eq_false_iff_ne, bne_eq_false_iff_eq, ne_eq, Decidable.not_not] at h2
      have hpk : partE (ps.getD ((k : Nat) : Int).toNat prtD) = 0 := hgd k (by omega)
      obtain ⟨hp1, hp2, hp3, _⟩ := partE_good hpk
      have hor := (ordN_rng (ps.getD ((k : Nat) : Int).toNat prtD).k).2
      refine J_skip ?_
      refine JN_then ?_
      refine J_seq ?_
      refine J_block ?_
      refine J_seq (J_reg [] (
          .cons (.no) _ _ (op_assign (Lk.k rfl)) <|
          .nil) ff rfl fun g9 => ⟨_, _, [0, 1], rfl, (.cons 1 rfl <| .cons 5 rfl <| .cons 6 rfl <| .cons 7 rfl <| .cons 8 rfl <| .nil), (.cons 0 rfl <| .cons 1 rfl <| .nil), ?_⟩)
      refine JN_then ?_
      refine J_block ?_
      refine J_loopc (α := Nat × Value) (fun x => (x.1 : Int) ≤ (ps.getD ((k : Nat) : Int).toNat prtD).a) (fun x => ((ps.getD ((k : Nat) : Int).toNat prtD).a).toNat - x.1) (fun x restR => (8, isv (.int .i64 (x.1 : Int))) :: (5, isv x.2) :: restR) (fun x restS => som x.2 strp (nmA k (ordN (ps.getD ((k : Nat) : Int).toNat prtD).k).toNat (nmP ps k) x.1) 9 :: restS) (ρc := [(1, _), (6, _), (7, _)]) (σc := [_]) (0, sv) (by omega) (To.pick (fun _ => .sub (t := 8) rfl (sp_eq (by rfl)) <| .sub (t := 5) rfl (sp_eq (by rfl)) <| .cons 1 rfl <| .cons 6 rfl <| .cons 7 rfl <| .nil) (fun _ => .sub 0 rfl ((fun _ _ h => h)) <| .cons 1 rfl <| .nil) (ks := [0, 1]) rfl) (fun x hI => ?_)
      obtain ⟨a, sw⟩ := x
      try simp only at hI
      show J _ _ ((8, isv (.int .i64 (a : Int))) :: (5, isv sw) :: _) (som sw strp (nmA k (ordN (ps.getD ((k : Nat) : Int).toNat prtD).k).toNat (nmP ps k) a) 9 :: _) _ _
      refine J_seq ?_
      refine J_seq (J_reg [] (
          .cons (.no) _ _ (op_move (Lk.t rfl)) <|
          .cons (.no) _ _ (op_field_own fd27_0 (Lk.t rfl) rfl) <|
          .cons (.rd 1) _ _ (op_get_sc 1 sc25 (Lk.t rfl) rfl mem_blk rfl) <|
          .cons (.no) _ _ (op_move (Lk.t rfl)) <|
          .cons (.no) _ _ (op_index_sk (mk := prtC) prtD sl25 prtC_len (Lk.t rfl) (Lk.t rfl) (by omega) (by omega)) <|
          .cons (.no) _ _ (op_field_ptr fd69_1 (Lk.t rfl) rfl) <|
          .cons (.no) _ _ (op_load_sc sc3 (Lk.t rfl) rfl) <|
          .cons (.no) _ _ (op_cmp (by simp) (Lk.t rfl) (Lk.t rfl) rfl) <|
          .nil) ff rfl fun g10 => ⟨_, _, [0, 1], rfl, (.cons 1 rfl <| .cons 5 rfl <| .cons 6 rfl <| .cons 7 rfl <| .cons 8 rfl <| .cons 29 rfl <| .nil), (.cons 0 rfl <| .cons 1 rfl <| .nil), ?_⟩)
      refine JN_then ?_
      refine J_cond (cond_of (Lk.t rfl)) (fun h3 => ?_) (fun h3 => ?_)
      · have h3' := h3
        try simp only [cmpB, Bool.and_eq_true, Bool.or_eq_true, Bool.and_eq_false_iff, Bool.or_eq_false_iff, Bool.not_eq_true', Bool.not_eq_false', Bool.not_eq_true, Bool.not_eq_false, decide_eq_true_eq, decide_eq_false_iff_not, Int.not_lt, Int.not_le, beq_iff_eq, bne_iff_ne, beq_eq_false_iff_ne, bne_eq_false_iff_eq, ne_eq, Decidable.not_not] at h3
        refine J_skip ?_
        refine JN_then ?_
        refine J_seq ?_
        refine J_block ?_
        refine J_seq (J_reg [] (
            .cons (.no) _ _ (op_assign (Lk.k rfl)) <|
            .nil) ff rfl fun g11 => ⟨_, _, [0, 1], rfl, (.cons 1 rfl <| .cons 5 rfl <| .cons 6 rfl <| .cons 7 rfl <| .cons 8 rfl <| .cons 9 rfl <| .nil), (.cons 0 rfl <| .cons 1 rfl <| .nil), ?_⟩)
        refine JN_then ?_
        refine J_block ?_
        refine J_loopc (α := Nat × Value) (fun x => (x.1 : Int) ≤ ordN (ps.getD ((k : Nat) : Int).toNat prtD).k) (fun x => (ordN (ps.getD ((k : Nat) : Int).toNat prtD).k).toNat - x.1) (fun x restR => (9, isv (.int .i64 (x.1 : Int))) :: (5, isv x.2) :: restR) (fun x restS => som x.2 strp (nmO k a (nmA k (ordN (ps.getD ((k : Nat) : Int).toNat prtD).k).toNat (nmP ps k) a) x.1) 9 :: restS) (ρc := [(1, _), (6, _), (7, _), (8, _)]) (σc := [_]) (0, sw) (by omega) (To.pick (fun _ => .sub (t := 9) rfl (sp_eq (by rfl)) <| .sub (t := 5) rfl (sp_eq (by rfl)) <| .cons 1 rfl <| .cons 6 rfl <| .cons 7 rfl <| .cons 8 rfl <| .nil) (fun _ => .sub 0 rfl ((fun _ _ h => h)) <| .cons 1 rfl <| .nil) (ks := [0, 1]) rfl) (fun x hI => ?_)
        obtain ⟨o, sx⟩ := x
        try simp only at hI
        show J _ _ ((9, isv (.int .i64 (o : Int))) :: (5, isv sx) :: _) (som sx strp (nmO k a (nmA k (ordN (ps.getD ((k : Nat) : Int).toNat prtD).k).toNat (nmP ps k) a) o) 9 :: _) _ _
        refine J_seq ?_
        refine J_seq (J_reg [] (
            .cons (.no) _ _ (op_move (Lk.t rfl)) <|
            .cons (.no) _ _ (op_field_own fd27_0 (Lk.t rfl) rfl) <|
            .cons (.rd 1) _ _ (op_get_sc 1 sc25 (Lk.t rfl) rfl mem_blk rfl) <|
            .cons (.no) _ _ (op_move (Lk.t rfl)) <|
            .cons (.no) _ _ (op_index_sk (mk := prtC) prtD sl25 prtC_len (Lk.t rfl) (Lk.t rfl) (by omega) (by omega)) <|
            .cons (.no) _ _ (op_field_ptr fd69_0 (Lk.t rfl) rfl) <|
            .cons (.no) _ _ (op_load_sc sc3 (Lk.t rfl) rfl) <|
            .cons (.no) _ _ (op_call (rsize_ok) ⟨(Lk.t rfl),  trivial⟩) <|
            .cons (.no) _ _ (op_cmp (by simp) (Lk.t rfl) (Lk.t rfl) rfl) <|
            .nil) ff rfl fun g12 => ⟨_, _, [0, 1], rfl, (.cons 1 rfl <| .cons 5 rfl <| .cons 6 rfl <| .cons 7 rfl <| .cons 8 rfl <| .cons 9 rfl <| .cons 40 rfl <| .nil), (.cons 0 rfl <| .cons 1 rfl <| .nil), ?_⟩)
        refine JN_then ?_
        refine J_cond (cond_of (Lk.t rfl)) (fun h4 => ?_) (fun h4 => ?_)
        · have h4' := h4
          try simp only [cmpB, Bool.and_eq_true, Bool.or_eq_true, Bool.and_eq_false_iff, Bool.or_eq_false_iff, Bool.not_eq_true', Bool.not_eq_false', Bool.not_eq_true, Bool.not_eq_false, decide_eq_true_eq, decide_eq_false_iff_not, Int.not_lt, Int.not_le, beq_iff_eq, bne_iff_ne, beq_eq_false_iff_ne, bne_eq_false_iff_eq, ne_eq, Decidable.not_not] at h4
          have hnr : (nmO k a (nmA k (ordN (ps.getD ((k : Nat) : Int).toNat prtD).k).toNat (nmP ps k) a) o).length < 12 := nm_rng hgd htl (show k < ps.length by omega) (show (a : Int) < (ps.getD ((k : Nat) : Int).toNat prtD).a by omega) (show (o : Int) < ordN (ps.getD ((k : Nat) : Int).toNat prtD).k by omega)
          refine J_skip ?_
          refine JN_then ?_
          refine J_seq ?_
          refine J_block ?_
          refine (J_reg [[], [], [], [], [3], [1, 2, 3, 4], [], [6], [1, 2, 3, 4, 5, 6, 7], [1, 2, 3, 4, 5, 6, 7, 8], [], [6, 7, 10], [1, 2, 3, 4, 5, 6, 7, 8, 9, 10, 11], [1, 2, 3, 4, 5, 6, 7, 8, 9, 10, 11, 12], [0, 1, 2, 3, 4, 5, 6, 7, 8, 9, 10, 11, 12, 13], [0, 1, 2, 3, 4, 5, 6, 7, 8, 9, 10, 11, 12, 13, 14]] (
              .cons (.no) _ _ (op_move (Lk.t rfl)) <|
              .cons (.no) _ _ (op_move (Lk.t rfl)) <|
              .cons (.no) _ _ (op_move (Lk.t rfl)) <|
              .cons (.no) _ _ (op_move (Lk.t rfl)) <|
              .cons (.no) _ _ (op_add (Lk.t rfl) (Lk.k rfl) (wrap_id (by omega) (by omega))) <|
              .cons (.no) _ _ (op_sslice Tryd.underlying9 (Lk.t rfl) (Lk.t rfl) (Lk.t rfl) (by omega) (by omega) (Int.le_trans (show (_ : Int) ≤ 3 by omega) (by decide +kernel))) <|
              .cons (.no) _ _ (op_move (Lk.t rfl)) <|
              .cons (.no) _ _ (op_call (itoa_ok (by omega) (by omega)) ⟨(Lk.t rfl),  trivial⟩) <|
              .cons (.no) _ _ (op_scat (Lk.t rfl) (Lk.t rfl) nm_1) <|
              .cons (.no) _ _ (op_scat (Lk.t rfl) (Lk.k rfl) nm_2) <|
              .cons (.no) _ _ (op_move (Lk.t rfl)) <|
              .cons (.no) _ _ (op_call (itoa_ok (by omega) (by omega)) ⟨(Lk.t rfl),  trivial⟩) <|
              .cons (.no) _ _ (op_scat (Lk.t rfl) (Lk.t rfl) nm_3) <|
              .cons (.no) _ _ (op_buildSlice sl37 zr9 rfl rfl rfl rfl (.cons rfl (Lk.t rfl) co_isv rfl (puts_l rfl (Nat.le_of_ble_eq_true rfl)) .nil)) <|
              .cons (.wr 0) _ _ (op_append_m (mk := strp) 0 sl37 zr9 rfl (Lk.t rfl) (Lk.t rfl) rfl (by omega) (by omega)) <|
              .cons (.no) _ _ (op_assign_ve rfl rfl) <|
              .nil) (fun _ => mixed) rfl fun g13 => ⟨_, _, [0, 1], rfl, (.cons 1 rfl <| .cons 5 rfl <| .cons 6 rfl <| .cons 7 rfl <| .cons 8 rfl <| .cons 9 rfl <| .nil), (.cons 0 rfl <| .cons 1 rfl <| .nil), ?_⟩)
          refine JN_block ?_
          refine JN_then ?_
          refine (J_reg [] (
              .cons (.no) _ _ (op_move (Lk.t rfl)) <|
              .cons (.no) _ _ (op_add (Lk.t rfl) (Lk.k rfl) (wrap_id (by omega) (by omega))) <|
              .cons (.no) _ _ (op_assign (Lk.t rfl)) <|
              .nil) ff rfl fun g14 => ⟨_, _, [0, 1], rfl, (.cons 1 rfl <| .cons 5 rfl <| .cons 6 rfl <| .cons 7 rfl <| .cons 8 rfl <| .cons 9 rfl <| .nil), (.cons 0 rfl <| .cons 1 rfl <| .nil), ?_⟩)
          exact JN_again (o + 1, g13 57) (by exact (show ((o + 1 : Nat) : Int) ≤ _ by omega)) (by show (ordN (ps.getD ((k : Nat) : Int).toNat prtD).k).toNat - (o + 1) < _; omega) (To.pick (fun _ => .sub (t := 9) rfl (sp_eq (by rfl)) <| .sub (t := 5) rfl (sp_eq (by rfl)) <| .cons 1 rfl <| .cons 6 rfl <| .cons 7 rfl <| .cons 8 rfl <| .nil) (fun _ => .sub 0 rfl ((res_eq rfl)) <| .cons 1 rfl <| .nil) (ks := [0, 1]) rfl)
        · have h4' := h4
          try simp only [cmpB, Bool.and_eq_true, Bool.or_eq_true, Bool.and_eq_false_iff, Bool.or_eq_false_iff, Bool.not_eq_true', Bool.not_eq_false', Bool.not_eq_true, Bool.not_eq_false, decide_eq_true_eq, decide_eq_false_iff_not, Int.not_lt, Int.not_le, beq_iff_eq, bne_iff_ne, beq_eq_false_iff_ne, bne_eq_false_iff_eq, ne_eq, Decidable.not_not] at h4
          refine J_exit ?_
          refine JN_then_exit ?_
          refine JN_then_exit ?_
          refine JN_exit_here ?_
          refine JN_block ?_
          refine JN_then ?_
          refine (J_reg [] (
              .cons (.no) _ _ (op_move (Lk.t rfl)) <|
              .cons (.no) _ _ (op_add (Lk.t rfl) (Lk.k rfl) (wrap_id (by omega) (by omega))) <|
              .cons (.no) _ _ (op_assign (Lk.t rfl)) <|
              .nil) ff rfl fun g15 => ⟨_, _, [0, 1], rfl, (.cons 1 rfl <| .cons 5 rfl <| .cons 6 rfl <| .cons 7 rfl <| .cons 8 rfl <| .nil), (.cons 0 rfl <| .cons 1 rfl <| .nil), ?_⟩)
          exact JN_again (a + 1, sx) (by exact (show ((a + 1 : Nat) : Int) ≤ _ by omega)) (by show ((ps.getD ((k : Nat) : Int).toNat prtD).a).toNat - (a + 1) < _; omega) (To.pick (fun _ => .sub (t := 8) rfl (sp_eq (by rfl)) <| .sub (t := 5) rfl (sp_eq (by rfl)) <| .cons 1 rfl <| .cons 6 rfl <| .cons 7 rfl <| .nil) (fun _ => .sub 0 rfl ((res_eq (by rw [show o = (ordN (ps.getD ((k : Nat) : Int).toNat prtD).k).toNat by omega]; rfl))) <| .cons 1 rfl <| .nil) (ks := [0, 1]) rfl)
      · have h3' := h3
        try simp only [cmpB, Bool.and_eq_true, Bool.or_eq_true, Bool.and_eq_false_iff, Bool.or_eq_false_iff, Bool.not_eq_true', Bool.not_eq_false', Bool.not_eq_true, Bool.not_eq_false, decide_eq_true_eq, decide_eq_false_iff_not, Int.not_lt, Int.not_le, beq_iff_eq, bne_iff_ne, beq_eq_false_iff_ne, bne_eq_false_iff_eq, ne_eq, Decidable.not_not] at h3
        refine J_exit ?_
        refine JN_then_exit ?_
        refine JN_then_exit ?_
        refine JN_exit_here ?_
        refine JN_block ?_
        refine JN_then ?_
        refine (J_reg [] (
            .cons (.no) _ _ (op_move (Lk.t rfl)) <|
            .cons (.no) _ _ (op_add (Lk.t rfl) (Lk.k rfl) (wrap_id (by omega) (by omega))) <|
            .cons (.no) _ _ (op_assign (Lk.t rfl)) <|
            .nil) ff rfl fun g16 => ⟨_, _, [0, 1], rfl, (.cons 1 rfl <| .cons 5 rfl <| .cons 6 rfl <| .cons 7 rfl <| .nil), (.cons 0 rfl <| .cons 1 rfl <| .nil), ?_⟩)
        exact JN_again (k + 1, sw) (by exact (show ((k + 1 : Nat) : Int) ≤ _ by omega)) (by show ((ps.length : Int)).toNat - (k + 1) < _; omega) (To.pick (fun _ => .sub (t := 7) rfl (sp_eq (by rfl)) <| .sub (t := 5) rfl (sp_eq (by rfl)) <| .cons 1 rfl <| .cons 6 rfl <| .nil) (fun _ => .sub 0 rfl ((res_eq (by rw [show a = ((ps.getD ((k : Nat) : Int).toNat prtD).a).toNat by omega]; rfl))) <| .cons 1 rfl <| .nil) (ks := [0, 1]) rfl)
    · have h2' := h2
      try simp only [cmpB, Bool.and_eq_true, Bool.or_eq_true, Bool.and_eq_false_iff, Bool.or_eq_false_iff, Bool.not_eq_true', Bool.not_eq_false', Bool.not_eq_true, Bool.not_eq_false, decide_eq_true_eq, decide_eq_false_iff_not, Int.not_lt, Int.not_le, beq_iff_eq, bne_iff_ne, beq_eq_false_iff_ne, bne_eq_false_iff_eq, ne_eq, Decidable.not_not] at h2
      refine J_exit ?_
      refine JN_then_exit ?_
      refine JN_then_exit ?_
      refine JN_exit_here ?_
      refine JN_then ?_
      refine J_seq (J_reg [] (
          .cons (.no) _ _ (op_move (Lk.t rfl)) <|
          .cons (.no) _ _ (op_assign (Lk.t rfl)) <|
          .cons (.no) _ _ (op_assign (Lk.k rfl)) <|
          .nil) ff rfl fun g17 => ⟨_, _, [0], rfl, (.cons 2 rfl <| .cons 3 rfl <| .nil), (.cons 0 rfl <| .nil), ?_⟩)
      refine JN_then ?_
      refine J_ret ?_
      refine JN_to (To.freeze 0 (fun _ h => h) rfl frz_som rfl) ?_
      refine JN_ret (.cons (.tmp (Lk.t rfl)) <| .cons (.tmp (Lk.t rfl)) <| .nil) (sb_trans (sb_res (.cons (sb_fk 0 rfl) <| .cons sb_refl <| .nil)) ?_)
      exact ret_S (names_2 h1 (by omega))
theorem mplace_ok {ps : List Prt} {p a o : Int} : Ct Tryd.prog 12 [MotP ps, isv (.int .i64 p), isv (.int .i64 a), isv (.int .i64 o)] (resI (placR ps p a o)) := by
  refine Ct.of Tryd.func12 rfl (by kernel_rfl) rfl fun c0 => ?_
  refine J_lenP 0 rfl fun hlen => ?_
  refine J_to (To.emps 1) ?_
  refine J_seq (J_reg [] (
      .cons (.wr 0) _ _ (op_box 0 (Lk.t rfl) co_agg rfl) <|
      .cons (.no) _ _ (op_assign (Lk.k rfl)) <|
      .cons (.no) _ _ (op_assign (Lk.k rfl)) <|
      .nil) ff rfl fun g1 => ⟨_, _, [0], rfl, (.cons 1 rfl <| .cons 2 rfl <| .cons 3 rfl <| .cons 4 rfl <| .nil), (.cons 0 rfl <| .nil), ?_⟩)
  refine JN_then ?_
  refine J_seq ?_
  refine J_seq (J_reg [] (
      .cons (.rd 0) _ _ (op_get_ag 0 ag27 (Lk.t rfl) rfl mem_blk rfl rfl) <|
      .cons (.no) _ _ (op_call (mchk_ok) ⟨(Lk.t rfl),  trivial⟩) <|
      .cons (.no) _ _ (op_assign (Lk.t rfl)) <|
      .nil) ff rfl fun g2 => ⟨_, _, [0], rfl, (.cons 1 rfl <| .cons 2 rfl <| .cons 3 rfl <| .cons 4 rfl <| .cons 10 rfl <| .nil), (.cons 0 rfl <| .nil), ?_⟩)
  refine JN_then ?_
  refine J_seq (J_reg [] (
      .cons (.no) _ _ (op_move (Lk.t rfl)) <|
      .cons (.no) _ _ (op_cmp (by simp) (Lk.t rfl) (Lk.k rfl) rfl) <|
      .nil) ff rfl fun g3 => ⟨_, _, [0], rfl, (.cons 1 rfl <| .cons 2 rfl <| .cons 3 rfl <| .cons 4 rfl <| .cons 10 rfl <| .cons 18 rfl <| .nil), (.cons 0 rfl <| .nil), ?_⟩)
  refine JN_then ?_
  refine J_cond (cond_of (Lk.t rfl)) (fun h1 => ?_) (fun h1 => ?_)
  · have h1' := h1
    try simp only [cmpB, Bool.and_eq_true, Bool.or_eq_true, Bool.and_eq_false_iff, Bool.or_eq_false_iff, Bool.not_eq_true', Bool.not_eq_false', Bool.not_eq_true, Bool.not_eq_false, decide_eq_true_eq, decide_eq_false_iff_not, Int.not_lt, Int.not_le, beq_iff_eq, bne_iff_ne, beq_eq_false_iff_ne, bne_eq_false_iff_eq, ne_eq, Decidable.not_not] at h1
    refine J_seq (J_reg [] (
        .cons (.no) _ _ (op_move (Lk.t rfl)) <|
        .cons (.no) _ _ (op_assign (Lk.k rfl)) <|
        .cons (.no) _ _ (op_assign (Lk.t rfl)) <|
        .nil) ff rfl fun g4 => ⟨_, _, [], rfl, (.cons 8 rfl <| .cons 9 rfl <| .nil), (.nil), ?_⟩)
    refine JN_then ?_
    refine J_ret ?_
    refine JN_then_ret ?_
    refine JN_ret (.cons (.tmp (Lk.t rfl)) <| .cons (.tmp (Lk.t rfl)) <| .nil) (sb_trans (sb_res (.cons sb_refl <| .cons sb_refl <| .nil)) ?_)
    exact ret_I (plac_1 h1)
  · have h1' := h1
    try simp only [cmpB, Bool.and_eq_true, Bool.or_eq_true, Bool.and_eq_false_iff, Bool.or_eq_false_iff, Bool.not_eq_true', Bool.not_eq_false', Bool.not_eq_true, Bool.not_eq_false, decide_eq_true_eq, decide_eq_false_iff_not, Int.not_lt, Int.not_le, beq_iff_eq, bne_iff_ne, beq_eq_false_iff_ne, bne_eq_false_iff_eq, ne_eq, Decidable.not_not] at h1
    obtain ⟨h0, hgd, htl⟩ := mot_good h1
    have hl12 := len_12 hgd htl
    refine J_skip ?_
    refine JN_then ?_
    refine J_seq ?_
    refine J_seq (J_reg [] (
        .cons (.no) _ _ (op_move (Lk.t rfl)) <|
        .cons (.no) _ _ (op_cmp (by simp) (Lk.t rfl) (Lk.k rfl) rfl) <|
        .cons (.no) _ _ (op_move (Lk.t rfl)) <|
        .cons (.no) _ _ (op_guard rfl rfl (gd_b rfl) (fun hC => (op_move (Lk.t rfl)))) <|
        .cons (.no) _ _ (op_guard rfl rfl (gd_b rfl) (fun hC => (op_field_own fd27_0 (Lk.t rfl) rfl))) <|
        .cons (.rd 0) _ _ (op_guard rfl rfl (gd_b rfl) (fun hC => (op_get_sc 0 sc25 (Lk.w rfl hC) rfl mem_blk rfl))) <|
        .cons (.no) _ _ (op_guard rfl rfl (gd_b rfl) (fun hC => (op_len_sk sl25 (Lk.w rfl hC)))) <|
        .cons (.no) _ _ (op_guard rfl rfl (gd_b rfl) (fun hC => (op_cmp (by simp) (Lk.w rfl hC) (Lk.w rfl hC) rfl))) <|
        .cons (.no) _ _ (op_or (Lk.t rfl) (fun h2 => (Lk.w rfl h2))) <|
        .nil) ff rfl fun g5 => ⟨_, _, [0], rfl, (.cons 1 rfl <| .cons 2 rfl <| .cons 3 rfl <| .cons 4 rfl <| .cons 28 rfl <| .nil), (.cons 0 rfl <| .nil), ?_⟩)
    refine JN_then ?_
    refine J_cond (cond_of (Lk.t rfl)) (fun h2 => ?_) (fun h2 => ?_)
    · have h2' := h2
      try simp only [cmpB, Bool.and_eq_true, Bool.or_eq_true, Bool.and_eq_false_iff, Bool.or_eq_false_iff, Bool.not_eq_true', Bool.not_eq_false', Bool.not_eq_true, Bool.not_eq_false, decide_eq_true_eq, decide_eq_false_iff_not, Int.not_lt, Int.not_le, beq_iff_eq, bne_iff_ne, beq_eq_false_iff_ne, bne_eq_false_iff_eq, ne_eq, Decidable.not_not] at h2
      refine J_seq (J_reg [] (
          .cons (.no) _ _ (op_assign (Lk.k rfl)) <|
          .cons (.no) _ _ (op_assign (Lk.k rfl)) <|
          .nil) ff rfl fun g6 => ⟨_, _, [], rfl, (.cons 8 rfl <| .cons 9 rfl <| .nil), (.nil), ?_⟩)
      refine JN_then ?_
      refine J_ret ?_
      refine JN_then_ret ?_
      refine JN_ret (.cons (.tmp (Lk.t rfl)) <| .cons (.tmp (Lk.t rfl)) <| .nil) (sb_trans (sb_res (.cons sb_refl <| .cons sb_refl <| .nil)) ?_)
      exact ret_I (plac_2 h1 (by omega))
    · have h2' := h2
      try simp only [cmpB, Bool.and_eq_true, Bool.or_eq_true, Bool.and_eq_false_iff, Bool.or_eq_false_iff, Bool.not_eq_true', Bool.not_eq_false', Bool.not_eq_true, Bool.not_eq_false, decide_eq_true_eq, decide_eq_false_iff_not, Int.not_lt, Int.not_le, beq_iff_eq, bne_iff_ne, beq_eq_false_iff_ne, bne_eq_false_iff_eq, ne_eq, Decidable.not_not] at h2
      refine J_skip ?_
      refine JN_then ?_
      refine J_seq (J_reg [] (
          .cons (.no) _ _ (op_field_own fd27_0 (Lk.t rfl) rfl) <|
          .cons (.rd 0) _ _ (op_get_sc 0 sc25 (Lk.t rfl) rfl mem_blk rfl) <|
          .cons (.no) _ _ (op_move (Lk.t rfl)) <|
          .cons (.no) _ _ (op_index_sk (mk := prtC) prtD sl25 prtC_len (Lk.t rfl) (Lk.t rfl) (by omega) (by omega)) <|
          .cons (.no) _ _ (op_field_ptr fd69_0 (Lk.t rfl) rfl) <|
          .cons (.no) _ _ (op_load_sc sc3 (Lk.t rfl) rfl) <|
          .cons (.no) _ _ (op_call (orders_ok) ⟨(Lk.t rfl),  trivial⟩) <|
          .cons (.no) _ _ (op_assign (Lk.t rfl)) <|
          .nil) ff rfl fun g7 => ⟨_, _, [0], rfl, (.cons 1 rfl <| .cons 2 rfl <| .cons 3 rfl <| .cons 4 rfl <| .cons 11 rfl <| .nil), (.cons 0 rfl <| .nil), ?_⟩)
      refine JN_then ?_
      refine J_seq ?_
      refine J_seq (J_reg [] (
          .cons (.no) _ _ (op_move (Lk.t rfl)) <|
          .cons (.no) _ _ (op_cmp (by simp) (Lk.t rfl) (Lk.k rfl) rfl) <|
          .cons (.no) _ _ (op_move (Lk.t rfl)) <|
          .cons (.no) _ _ (op_guard rfl rfl (gd_b rfl) (fun hC => (op_move (Lk.t rfl)))) <|
          .cons (.no) _ _ (op_guard rfl rfl (gd_b rfl) (fun hC => (op_field_own fd27_0 (Lk.t rfl) rfl))) <|
          .cons (.rd 0) _ _ (op_guard rfl rfl (gd_b rfl) (fun hC => (op_get_sc 0 sc25 (Lk.w rfl hC) rfl mem_blk rfl))) <|
          .cons (.no) _ _ (op_guard rfl rfl (gd_b rfl) (fun hC => (op_move (Lk.t rfl)))) <|
          .cons (.no) _ _ (op_guard rfl rfl (gd_b rfl) (fun hC => (op_index_sk (mk := prtC) prtD sl25 prtC_len (Lk.w rfl hC) (Lk.w rfl hC) (by omega) (by omega)))) <|
          .cons (.no) _ _ (op_guard rfl rfl (gd_b rfl) (fun hC => (op_field_ptr fd69_1 (Lk.w rfl hC) rfl))) <|
          .cons (.no) _ _ (op_guard rfl rfl (gd_b rfl) (fun hC => (op_load_sc sc3 (Lk.w rfl hC) rfl))) <|
          .cons (.no) _ _ (op_guard rfl rfl (gd_b rfl) (fun hC => (op_cmp (by simp) (Lk.w rfl hC) (Lk.w rfl hC) rfl))) <|
          .cons (.no) _ _ (op_or (Lk.t rfl) (fun h2 => (Lk.w rfl h2))) <|
          .cons (.no) _ _ (op_move (Lk.t rfl)) <|
          .cons (.no) _ _ (op_guard rfl rfl (gd_b rfl) (fun hC => (op_move (Lk.t rfl)))) <|
          .cons (.no) _ _ (op_guard rfl rfl (gd_b rfl) (fun hC => (op_cmp (by simp) (Lk.w rfl hC) (Lk.k rfl) rfl))) <|
          .cons (.no) _ _ (op_or (Lk.t rfl) (fun h2 => (Lk.w rfl h2))) <|
          .cons (.no) _ _ (op_move (Lk.t rfl)) <|
          .cons (.no) _ _ (op_guard rfl rfl (gd_b rfl) (fun hC => (op_move (Lk.t rfl)))) <|
          .cons (.no) _ _ (op_guard rfl rfl (gd_b rfl) (fun hC => (op_move (Lk.t rfl)))) <|
          .cons (.no) _ _ (op_guard rfl rfl (gd_b rfl) (fun hC => (op_cmp (by simp) (Lk.w rfl hC) (Lk.w rfl hC) rfl))) <|
          .cons (.no) _ _ (op_or (Lk.t rfl) (fun h2 => (Lk.w rfl h2))) <|
          .nil) ff rfl fun g8 => ⟨_, _, [0], rfl, (.cons 1 rfl <| .cons 2 rfl <| .cons 3 rfl <| .cons 4 rfl <| .cons 11 rfl <| .cons 56 rfl <| .nil), (.cons 0 rfl <| .nil), ?_⟩)
      refine JN_then ?_
      refine J_cond (cond_of (Lk.t rfl)) (fun h3 => ?_) (fun h3 => ?_)
      · have h3' := h3
        try simp only [cmpB, Bool.and_eq_true, Bool.or_eq_true, Bool.and_eq_false_iff, Bool.or_eq_false_iff, Bool.not_eq_true', Bool.not_eq_false', Bool.not_eq_true, Bool.not_eq_false, decide_eq_true_eq, decide_eq_false_iff_not, Int.not_lt, Int.not_le, beq_iff_eq, bne_iff_ne, beq_eq_false_iff_ne, bne_eq_false_iff_eq, ne_eq, Decidable.not_not] at h3
        refine J_seq (J_reg [] (
            .cons (.no) _ _ (op_assign (Lk.k rfl)) <|
            .cons (.no) _ _ (op_assign (Lk.k rfl)) <|
            .nil) ff rfl fun g9 => ⟨_, _, [], rfl, (.cons 8 rfl <| .cons 9 rfl <| .nil), (.nil), ?_⟩)
        refine JN_then ?_
        refine J_ret ?_
        refine JN_then_ret ?_
        refine JN_ret (.cons (.tmp (Lk.t rfl)) <| .cons (.tmp (Lk.t rfl)) <| .nil) (sb_trans (sb_res (.cons sb_refl <| .cons sb_refl <| .nil)) ?_)
        exact ret_I (plac_2 h1 (by omega))
      · have h3' := h3
        try simp only [cmpB, Bool.and_eq_true, Bool.or_eq_true, Bool.and_eq_false_iff, Bool.or_eq_false_iff, Bool.not_eq_true', Bool.not_eq_false', Bool.not_eq_true, Bool.not_eq_false, decide_eq_true_eq, decide_eq_false_iff_not, Int.not_lt, Int.not_le, beq_iff_eq, bne_iff_ne, beq_eq_false_iff_ne, bne_eq_false_iff_eq, ne_eq, Decidable.not_not] at h3
        have hpr := plac_rng hgd htl (show ¬ (p < 0 ∨ (ps.length : Int) ≤ p ∨ a < 0 ∨ (ps.getD p.toNat prtD).a ≤ a ∨ o < 0 ∨ ordN (ps.getD p.toNat prtD).k ≤ o) by omega)
        refine J_skip ?_
        refine JN_then ?_
        refine J_seq (J_reg [] (
            .cons (.no) _ _ (op_move (Lk.t rfl)) <|
            .cons (.no) _ _ (op_move (Lk.t rfl)) <|
            .cons (.no) _ _ (op_mul (Lk.t rfl) (Lk.t rfl) (wrap_id (by omega) (by omega))) <|
            .cons (.no) _ _ (op_move (Lk.t rfl)) <|
            .cons (.no) _ _ (op_add (Lk.t rfl) (Lk.t rfl) (wrap_id (by omega) (by omega))) <|
            .cons (.no) _ _ (op_assign (Lk.t rfl)) <|
            .nil) ff rfl fun g10 => ⟨_, _, [0], rfl, (.cons 1 rfl <| .cons 4 rfl <| .cons 12 rfl <| .nil), (.cons 0 rfl <| .nil), ?_⟩)
        refine JN_then ?_
        refine J_seq ?_
        refine J_seq (J_reg [] (
            .cons (.no) _ _ (op_field_own fd27_0 (Lk.t rfl) rfl) <|
            .cons (.rd 0) _ _ (op_get_sc 0 sc25 (Lk.t rfl) rfl mem_blk rfl) <|
            .cons (.no) _ _ (op_move (Lk.t rfl)) <|
            .cons (.no) _ _ (op_slice_sk sl25 prtC_len (Lk.t rfl) (Lk.t rfl) (by omega) (by omega)) <|
            .cons (.no) _ _ (op_len_sk sl25 (Lk.t rfl)) <|
            .cons (.no) _ _ (op_move (Lk.k rfl)) <|
            .nil) ff rfl fun g11 => ⟨_, _, [], rfl, (.cons 12 rfl <| .cons 65 rfl <| .cons 66 rfl <| .cons 67 rfl <| .nil), (.nil), ?_⟩)
        refine JN_then ?_
        refine J_block ?_
        refine J_loopc (α := Nat) (fun k => (k : Int) ≤ p) (fun k => p.toNat - k) (fun k restR => (67, isv (.int .i64 (k : Int))) :: (12, isv (.int .i64 (tot ps k + (a * ordN (ps.getD p.toNat prtD).k + o)))) :: restR) (fun k restS => restS) (ρc := [(65, _), (66, _)]) (σc := []) 0 (by omega) (To.pick (fun _ => .sub (t := 67) rfl (sp_eq (by rfl)) <| .sub (t := 12) rfl (sp_eq (by exact congrArg (fun z => isv (.int .i64 z)) (by simp [tot]))) <| .cons 65 rfl <| .cons 66 rfl <| .nil) (fun _ => .nil) (ks := []) rfl) (fun k hI => ?_)
        refine J_seq (J_reg [] (
            .cons (.no) _ _ (op_cmp (by simp) (Lk.t rfl) (Lk.t rfl) rfl) <|
            .nil) ff rfl fun g12 => ⟨_, _, [], rfl, (.cons 12 rfl <| .cons 65 rfl <| .cons 66 rfl <| .cons 67 rfl <| .cons 68 rfl <| .nil), (.nil), ?_⟩)
        refine JN_then ?_
        refine J_seq ?_
        refine J_cond (cond_of (Lk.t rfl)) (fun h4 => ?_) (fun h4 => ?_)
        · have h4' := h4
          try simp only [cmpB, Bool.and_eq_true, Bool.or_eq_true, Bool.and_eq_false_iff, Bool.or_eq_false_iff, Bool.not_eq_true', Bool.not_eq_false', Bool.not_eq_true, Bool.not_eq_false, decide_eq_true_eq, decide_eq_false_iff_not, Int.not_lt, Int.not_le, beq_iff_eq, bne_iff_ne, beq_eq_false_iff_ne, bne_eq_false_iff_eq, ne_eq, Decidable.not_not] at h4
          have htr := tot_rng (ps := ps) (k := k) fun q hq => hgd q (by omega)
          have htm := tot_mono (ps := ps) (k := k + 1) (m := ps.length) (by omega) hgd
          rw [tot] at htm
          have hax : 1 ≤ (ps.getD ((k : Nat) : Int).toNat prtD).a * ordN (ps.getD ((k : Nat) : Int).toNat prtD).k ∧ (ps.getD ((k : Nat) : Int).toNat prtD).a * ordN (ps.getD ((k : Nat) : Int).toNat prtD).k ≤ 36 := ax_rng (p := (ps.getD ((k : Nat) : Int).toNat prtD)) (hgd _ (by omega))
          have hlt : (ps.take p.toNat).length = p.toNat := by rw [List.length_take]; omega
          have hgt : ((ps.take p.toNat).getD ((k : Nat) : Int).toNat prtD) = (ps.getD ((k : Nat) : Int).toNat prtD) := getD_take (by omega)
          have hax2 : 1 ≤ ((ps.take p.toNat).getD ((k : Nat) : Int).toNat prtD).a * ordN ((ps.take p.toNat).getD ((k : Nat) : Int).toNat prtD).k ∧ ((ps.take p.toNat).getD ((k : Nat) : Int).toNat prtD).a * ordN ((ps.take p.toNat).getD ((k : Nat) : Int).toNat prtD).k ≤ 36 := by rw [hgt]; exact hax
          refine J_skip ?_
          refine JN_then ?_
          refine J_seq ?_
          refine J_block ?_
          refine J_to (To.emps 1) ?_
          refine J_seq (J_reg [] (
              .cons (.no) _ _ (op_index_sk (mk := prtC) prtD sl25 prtC_len (Lk.t rfl) (Lk.t rfl) (by omega) (by omega)) <|
              .cons (.no) _ _ (op_load_ag ag69 (Lk.t rfl) rfl rfl) <|
              .cons (.wr 0) _ _ (op_alloc 0 zr69 rfl rfl) <|
              .cons (.wr 0) _ _ (op_store_new 0 rfl (Lk.t rfl) co_agg sz69 rfl rfl) <|
              .nil) ff rfl fun g13 => ⟨_, _, [0], rfl, (.cons 12 rfl <| .cons 14 rfl <| .cons 65 rfl <| .cons 66 rfl <| .cons 67 rfl <| .nil), (.cons 0 rfl <| .nil), ?_⟩)
          refine JN_then ?_
          refine (J_reg [[], [], [1], [], [3], [3, 4], [1, 2, 3, 4, 5], [0, 1, 2, 3, 4, 5, 6], [0, 1, 2, 3, 4, 5, 6, 7]] (
              .cons (.no) _ _ (op_move (Lk.t rfl)) <|
              .cons (.no) _ _ (op_field_own fd69_1 (Lk.t rfl) rfl) <|
              .cons (.rd 0) _ _ (op_get_sc 0 sc3 (Lk.t rfl) rfl mem_blk rfl) <|
              .cons (.no) _ _ (op_field_own fd69_0 (Lk.t rfl) rfl) <|
              .cons (.rd 0) _ _ (op_get_sc 0 sc3 (Lk.t rfl) rfl mem_blk rfl) <|
              .cons (.no) _ _ (op_call (orders_ok) ⟨(Lk.t rfl),  trivial⟩) <|
              .cons (.no) _ _ (op_mul (Lk.t rfl) (Lk.t rfl) (wrap_id (by omega) (by omega))) <|
              .cons (.no) _ _ (op_add (Lk.t rfl) (Lk.t rfl) (wrap_id (by omega) (by omega))) <|
              .cons (.no) _ _ (op_assign (Lk.t rfl)) <|
              .nil) (fun _ => mixed) rfl fun g14 => ⟨_, _, [], rfl, (.cons 12 rfl <| .cons 65 rfl <| .cons 66 rfl <| .cons 67 rfl <| .nil), (.nil), ?_⟩)
          refine JN_block ?_
          refine JN_then ?_
          refine (J_reg [] (
              .cons (.no) _ _ (op_add (Lk.t rfl) (Lk.k rfl) (wrap_id (by omega) (by omega))) <|
              .cons (.no) _ _ (op_move (Lk.t rfl)) <|
              .nil) ff rfl fun g15 => ⟨_, _, [], rfl, (.cons 12 rfl <| .cons 65 rfl <| .cons 66 rfl <| .cons 67 rfl <| .nil), (.nil), ?_⟩)
          exact JN_again (k + 1) (by omega) (by omega) (To.pick (fun _ => .sub (t := 67) rfl (sp_eq (by rfl)) <| .sub (t := 12) rfl (sp_eq (by exact congrArg (fun z => isv (.int .i64 z)) (by rw [hgt]; show tot ps k + (a * ordN (ps.getD p.toNat prtD).k + o) + (ps.getD ((k : Nat) : Int).toNat prtD).a * ordN (ps.getD ((k : Nat) : Int).toNat prtD).k = (tot ps k + (ps.getD ((k : Nat) : Int).toNat prtD).a * ordN (ps.getD ((k : Nat) : Int).toNat prtD).k) + (a * ordN (ps.getD p.toNat prtD).k + o); omega))) <| .cons 65 rfl <| .cons 66 rfl <| .nil) (fun _ => .nil) (ks := []) rfl)
        · have h4' := h4
          try simp only [cmpB, Bool.and_eq_true, Bool.or_eq_true, Bool.and_eq_false_iff, Bool.or_eq_false_iff, Bool.not_eq_true', Bool.not_eq_false', Bool.not_eq_true, Bool.not_eq_false, decide_eq_true_eq, decide_eq_false_iff_not, Int.not_lt, Int.not_le, beq_iff_eq, bne_iff_ne, beq_eq_false_iff_ne, bne_eq_false_iff_eq, ne_eq, Decidable.not_not] at h4
          have hlt : (ps.take p.toNat).length = p.toNat := by rw [List.length_take]; omega
          refine J_exit ?_
          refine JN_then_exit ?_
          refine JN_then_exit ?_
          refine JN_exit_here ?_
          refine JN_then ?_
          refine J_seq (J_reg [] (
              .cons (.no) _ _ (op_move (Lk.t rfl)) <|
              .cons (.no) _ _ (op_assign (Lk.t rfl)) <|
              .cons (.no) _ _ (op_assign (Lk.k rfl)) <|
              .nil) ff rfl fun g16 => ⟨_, _, [], rfl, (.cons 8 rfl <| .cons 9 rfl <| .nil), (.nil), ?_⟩)
          refine JN_then ?_
          refine J_ret ?_
          refine JN_ret (.cons (.tmp (Lk.t rfl)) <| .cons (.tmp (Lk.t rfl)) <| .nil) (sb_trans (sb_res (.cons sb_refl <| .cons sb_refl <| .nil)) ?_)
          exact ret_I (plac_3 h1 (show ¬ (p < 0 ∨ (ps.length : Int) ≤ p ∨ a < 0 ∨ (ps.getD p.toNat prtD).a ≤ a ∨ o < 0 ∨ ordN (ps.getD p.toNat prtD).k ≤ o) by omega) (by rw [show k = p.toNat by omega]))
theorem rplace_ok {ps : List Prt} {p a o : Int} : Ct Tryd.prog 13 [MotP ps, isv (.int .i64 p), isv (.int .i64 a), isv (.int .i64 o)] (resI (placR ps p a o)) := by
  refine Ct.of Tryd.func13 rfl (by kernel_rfl) rfl fun c0 => ?_
  refine J_lenP 0 rfl fun hlen => ?_
  refine J_to (To.emps 1) ?_
  refine J_seq (J_reg [] (
      .cons (.wr 0) _ _ (op_box 0 (Lk.t rfl) co_agg rfl) <|
      .cons (.no) _ _ (op_assign (Lk.k rfl)) <|
      .cons (.no) _ _ (op_assign (Lk.k rfl)) <|
      .nil) ff rfl fun g1 => ⟨_, _, [0], rfl, (.cons 1 rfl <| .cons 2 rfl <| .cons 3 rfl <| .cons 4 rfl <| .nil), (.cons 0 rfl <| .nil), ?_⟩)
  refine JN_then ?_
  refine J_seq ?_
  refine J_seq (J_reg [] (
      .cons (.rd 0) _ _ (op_get_ag 0 ag27 (Lk.t rfl) rfl mem_blk rfl rfl) <|
      .cons (.no) _ _ (op_call (rmchk_ok) ⟨(Lk.t rfl),  trivial⟩) <|
      .cons (.no) _ _ (op_assign (Lk.t rfl)) <|
      .nil) ff rfl fun g2 => ⟨_, _, [0], rfl, (.cons 1 rfl <| .cons 2 rfl <| .cons 3 rfl <| .cons 4 rfl <| .cons 10 rfl <| .nil), (.cons 0 rfl <| .nil), ?_⟩)
  refine JN_then ?_
  refine J_seq (J_reg [] (
      .cons (.no) _ _ (op_move (Lk.t rfl)) <|
      .cons (.no) _ _ (op_cmp (by simp) (Lk.t rfl) (Lk.k rfl) rfl) <|
      .nil) ff rfl fun g3 => ⟨_, _, [0], rfl, (.cons 1 rfl <| .cons 2 rfl <| .cons 3 rfl <| .cons 4 rfl <| .cons 10 rfl <| .cons 16 rfl <| .nil), (.cons 0 rfl <| .nil), ?_⟩)
  refine JN_then ?_
  refine J_cond (cond_of (Lk.t rfl)) (fun h1 => ?_) (fun h1 => ?_)
  · have h1' := h1
    try simp only [cmpB, Bool.and_eq_true, Bool.or_eq_true, Bool.and_eq_false_iff, Bool.or_eq_false_iff, Bool.not_eq_true', Bool.not_eq_false', Bool.not_eq_true, Bool.not_eq_false, decide_eq_true_eq, decide_eq_false_iff_not, Int.not_lt, Int.not_le, beq_iff_eq, bne_iff_ne, beq_eq_false_iff_ne, bne_eq_false_iff_eq, ne_eq, Decidable.not_not] at h1
    refine J_seq (J_reg [] (
        .cons (.no) _ _ (op_move (Lk.t rfl)) <|
        .cons (.no) _ _ (op_assign (Lk.k rfl)) <|
        .cons (.no) _ _ (op_assign (Lk.t rfl)) <|
        .nil) ff rfl fun g4 => ⟨_, _, [], rfl, (.cons 8 rfl <| .cons 9 rfl <| .nil), (.nil), ?_⟩)
    refine JN_then ?_
    refine J_ret ?_
    refine JN_then_ret ?_
    refine JN_ret (.cons (.tmp (Lk.t rfl)) <| .cons (.tmp (Lk.t rfl)) <| .nil) (sb_trans (sb_res (.cons sb_refl <| .cons sb_refl <| .nil)) ?_)
    exact ret_I (plac_1 h1)
  · have h1' := h1
    try simp only [cmpB, Bool.and_eq_true, Bool.or_eq_true, Bool.and_eq_false_iff, Bool.or_eq_false_iff, Bool.not_eq_true', Bool.not_eq_false', Bool.not_eq_true, Bool.not_eq_false, decide_eq_true_eq, decide_eq_false_iff_not, Int.not_lt, Int.not_le, beq_iff_eq, bne_iff_ne, beq_eq_false_iff_ne, bne_eq_false_iff_eq, ne_eq, Decidable.not_not] at h1
    obtain ⟨h0, hgd, htl⟩ := mot_good h1
    have hl12 := len_12 hgd htl
    refine J_skip ?_
    refine JN_then ?_
    refine J_seq ?_
    refine J_seq (J_reg [] (
        .cons (.no) _ _ (op_move (Lk.t rfl)) <|
        .cons (.no) _ _ (op_cmp (by simp) (Lk.t rfl) (Lk.k rfl) rfl) <|
        .cons (.no) _ _ (op_move (Lk.t rfl)) <|
        .cons (.no) _ _ (op_guard rfl rfl (gd_b rfl) (fun hC => (op_move (Lk.t rfl)))) <|
        .cons (.no) _ _ (op_guard rfl rfl (gd_b rfl) (fun hC => (op_field_own fd27_0 (Lk.t rfl) rfl))) <|
        .cons (.rd 0) _ _ (op_guard rfl rfl (gd_b rfl) (fun hC => (op_get_sc 0 sc25 (Lk.w rfl hC) rfl mem_blk rfl))) <|
        .cons (.no) _ _ (op_guard rfl rfl (gd_b rfl) (fun hC => (op_len_sk sl25 (Lk.w rfl hC)))) <|
        .cons (.no) _ _ (op_guard rfl rfl (gd_b rfl) (fun hC => (op_cmp (by simp) (Lk.w rfl hC) (Lk.w rfl hC) rfl))) <|
        .cons (.no) _ _ (op_or (Lk.t rfl) (fun h2 => (Lk.w rfl h2))) <|
        .cons (.no) _ _ (op_move (Lk.t rfl)) <|
        .cons (.no) _ _ (op_guard rfl rfl (gd_b rfl) (fun hC => (op_move (Lk.t rfl)))) <|
        .cons (.no) _ _ (op_guard rfl rfl (gd_b rfl) (fun hC => (op_cmp (by simp) (Lk.w rfl hC) (Lk.k rfl) rfl))) <|
        .cons (.no) _ _ (op_or (Lk.t rfl) (fun h2 => (Lk.w rfl h2))) <|
        .cons (.no) _ _ (op_move (Lk.t rfl)) <|
        .cons (.no) _ _ (op_guard rfl rfl (gd_b rfl) (fun hC => (op_move (Lk.t rfl)))) <|
        .cons (.no) _ _ (op_guard rfl rfl (gd_b rfl) (fun hC => (op_field_own fd27_0 (Lk.t rfl) rfl))) <|
        .cons (.rd 0) _ _ (op_guard rfl rfl (gd_b rfl) (fun hC => (op_get_sc 0 sc25 (Lk.w rfl hC) rfl mem_blk rfl))) <|
        .cons (.no) _ _ (op_guard rfl rfl (gd_b rfl) (fun hC => (op_move (Lk.t rfl)))) <|
        .cons (.no) _ _ (op_guard rfl rfl (gd_b rfl) (fun hC => (op_index_sk (mk := prtC) prtD sl25 prtC_len (Lk.w rfl hC) (Lk.w rfl hC) (by simp [cmpB] at hC; omega) (by simp [cmpB] at hC; omega)))) <|
        .cons (.no) _ _ (op_guard rfl rfl (gd_b rfl) (fun hC => (op_field_ptr fd69_1 (Lk.w rfl hC) rfl))) <|
        .cons (.no) _ _ (op_guard rfl rfl (gd_b rfl) (fun hC => (op_load_sc sc3 (Lk.w rfl hC) rfl))) <|
        .cons (.no) _ _ (op_guard rfl rfl (gd_b rfl) (fun hC => (op_cmp (by simp) (Lk.w rfl hC) (Lk.w rfl hC) rfl))) <|
        .cons (.no) _ _ (op_or (Lk.t rfl) (fun h2 => (Lk.w rfl h2))) <|
        .cons (.no) _ _ (op_move (Lk.t rfl)) <|
        .cons (.no) _ _ (op_guard rfl rfl (gd_b rfl) (fun hC => (op_move (Lk.t rfl)))) <|
        .cons (.no) _ _ (op_guard rfl rfl (gd_b rfl) (fun hC => (op_cmp (by simp) (Lk.w rfl hC) (Lk.k rfl) rfl))) <|
        .cons (.no) _ _ (op_or (Lk.t rfl) (fun h2 => (Lk.w rfl h2))) <|
        .cons (.no) _ _ (op_move (Lk.t rfl)) <|
        .cons (.no) _ _ (op_guard rfl rfl (gd_b rfl) (fun hC => (op_move (Lk.t rfl)))) <|
        .cons (.no) _ _ (op_guard rfl rfl (gd_b rfl) (fun hC => (op_field_own fd27_0 (Lk.t rfl) rfl))) <|
        .cons (.rd 0) _ _ (op_guard rfl rfl (gd_b rfl) (fun hC => (op_get_sc 0 sc25 (Lk.w rfl hC) rfl mem_blk rfl))) <|
        .cons (.no) _ _ (op_guard rfl rfl (gd_b rfl) (fun hC => (op_move (Lk.t rfl)))) <|
        .cons (.no) _ _ (op_guard rfl rfl (gd_b rfl) (fun hC => (op_index_sk (mk := prtC) prtD sl25 prtC_len (Lk.w rfl hC) (Lk.w rfl hC) (by simp [cmpB] at hC; omega) (by simp [cmpB] at hC; omega)))) <|
        .cons (.no) _ _ (op_guard rfl rfl (gd_b rfl) (fun hC => (op_field_ptr fd69_0 (Lk.w rfl hC) rfl))) <|
        .cons (.no) _ _ (op_guard rfl rfl (gd_b rfl) (fun hC => (op_load_sc sc3 (Lk.w rfl hC) rfl))) <|
        .cons (.no) _ _ (op_guard rfl rfl (gd_b rfl) (fun hC => (op_call (rsize_ok) ⟨(Lk.w rfl hC),  trivial⟩))) <|
        .cons (.no) _ _ (op_guard rfl rfl (gd_b rfl) (fun hC => (op_cmp (by simp) (Lk.w rfl hC) (Lk.w rfl hC) rfl))) <|
        .cons (.no) _ _ (op_or (Lk.t rfl) (fun h2 => (Lk.w rfl h2))) <|
        .nil) ff rfl fun g5 => ⟨_, _, [0], rfl, (.cons 1 rfl <| .cons 2 rfl <| .cons 3 rfl <| .cons 4 rfl <| .cons 55 rfl <| .nil), (.cons 0 rfl <| .nil), ?_⟩)
    refine JN_then ?_
    refine J_cond (cond_of (Lk.t rfl)) (fun h2 => ?_) (fun h2 => ?_)
    · have h2' := h2
      try simp only [cmpB, Bool.and_eq_true, Bool.or_eq_true, Bool.and_eq_false_iff, Bool.or_eq_false_iff, Bool.not_eq_true', Bool.not_eq_false', Bool.not_eq_true, Bool.not_eq_false, decide_eq_true_eq, decide_eq_false_iff_not, Int.not_lt, Int.not_le, beq_iff_eq, bne_iff_ne, beq_eq_false_iff_ne, bne_eq_false_iff_eq, ne_eq, Decidable.not_not] at h2
      refine J_seq (J_reg [] (
          .cons (.no) _ _ (op_assign (Lk.k rfl)) <|
          .cons (.no) _ _ (op_assign (Lk.k rfl)) <|
          .nil) ff rfl fun g6 => ⟨_, _, [], rfl, (.cons 8 rfl <| .cons 9 rfl <| .nil), (.nil), ?_⟩)
      refine JN_then ?_
      refine J_ret ?_
      refine JN_then_ret ?_
      refine JN_ret (.cons (.tmp (Lk.t rfl)) <| .cons (.tmp (Lk.t rfl)) <| .nil) (sb_trans (sb_res (.cons sb_refl <| .cons sb_refl <| .nil)) ?_)
      exact ret_I (plac_2 h1 (by omega))
    · have h2' := h2
      try simp only [cmpB, Bool.and_eq_true, Bool.or_eq_true, Bool.and_eq_false_iff, Bool.or_eq_false_iff, Bool.not_eq_true', Bool.not_eq_false', Bool.not_eq_true, Bool.not_eq_false, decide_eq_true_eq, decide_eq_false_iff_not, Int.not_lt, Int.not_le, beq_iff_eq, bne_iff_ne, beq_eq_false_iff_ne, bne_eq_false_iff_eq, ne_eq, Decidable.not_not] at h2
      have hpr := plac_rng hgd htl (show ¬ (p < 0 ∨ (ps.length : Int) ≤ p ∨ a < 0 ∨ (ps.getD p.toNat prtD).a ≤ a ∨ o < 0 ∨ ordN (ps.getD p.toNat prtD).k ≤ o) by omega)
      refine J_skip ?_
      refine JN_then ?_
      refine J_seq (J_reg [] (
          .cons (.no) _ _ (op_assign (Lk.k rfl)) <|
          .nil) ff rfl fun g7 => ⟨_, _, [0], rfl, (.cons 1 rfl <| .cons 2 rfl <| .cons 3 rfl <| .cons 4 rfl <| .cons 11 rfl <| .nil), (.cons 0 rfl <| .nil), ?_⟩)
      refine JN_then ?_
      refine J_seq ?_
      refine J_seq (J_reg [] (
          .cons (.no) _ _ (op_assign (Lk.k rfl)) <|
          .nil) ff rfl fun g8 => ⟨_, _, [0], rfl, (.cons 1 rfl <| .cons 2 rfl <| .cons 3 rfl <| .cons 4 rfl <| .cons 11 rfl <| .cons 12 rfl <| .nil), (.cons 0 rfl <| .nil), ?_⟩)
      refine JN_then ?_
      refine J_block ?_
      refine J_loopc (α := Nat) (fun k => (k : Int) ≤ p) (fun k => p.toNat - k) (fun k restR => (12, isv (.int .i64 (k : Int))) :: (11, isv (.int .i64 (tot ps k))) :: restR) (fun k restS => restS) (ρc := [(1, _), (2, _), (3, _), (4, _)]) (σc := [_]) 0 (by omega) (To.pick (fun _ => .sub (t := 12) rfl (sp_eq (by rfl)) <| .sub (t := 11) rfl (sp_eq (by rfl)) <| .cons 1 rfl <| .cons 2 rfl <| .cons 3 rfl <| .cons 4 rfl <| .nil) (fun _ => .cons 0 rfl <| .nil) (ks := [0]) rfl) (fun k hI => ?_)
      refine J_seq ?_
      refine J_seq (J_reg [] (
          .cons (.no) _ _ (op_move (Lk.t rfl)) <|
          .cons (.no) _ _ (op_move (Lk.t rfl)) <|
          .cons (.no) _ _ (op_cmp (by simp) (Lk.t rfl) (Lk.t rfl) rfl) <|
          .nil) ff rfl fun g9 => ⟨_, _, [0], rfl, (.cons 1 rfl <| .cons 2 rfl <| .cons 3 rfl <| .cons 4 rfl <| .cons 11 rfl <| .cons 12 rfl <| .cons 58 rfl <| .nil), (.cons 0 rfl <| .nil), ?_⟩)
      refine JN_then ?_
      refine J_cond (cond_of (Lk.t rfl)) (fun h3 => ?_) (fun h3 => ?_)
      · have h3' := h3
        try simp only [cmpB, Bool.and_eq_true, Bool.or_eq_true, Bool.and_eq_false_iff, Bool.or_eq_false_iff, Bool.not_eq_true', Bool.not_eq_false', Bool.not_eq_true, Bool.not_eq_false, decide_eq_true_eq, decide_eq_false_iff_not, Int.not_lt, Int.not_le, beq_iff_eq, bne_iff_ne, beq_eq_false_iff_ne, bne_eq_false_iff_eq, ne_eq, Decidable.not_not] at h3
        have htr := tot_rng (ps := ps) (k := k) fun q hq => hgd q (by omega)
        have htm := tot_mono (ps := ps) (k := k + 1) (m := ps.length) (by omega) hgd
        rw [tot] at htm
        have hax : 1 ≤ (ps.getD ((k : Nat) : Int).toNat prtD).a * ordN (ps.getD ((k : Nat) : Int).toNat prtD).k ∧ (ps.getD ((k : Nat) : Int).toNat prtD).a * ordN (ps.getD ((k : Nat) : Int).toNat prtD).k ≤ 36 := ax_rng (p := (ps.getD ((k : Nat) : Int).toNat prtD)) (hgd _ (by omega))
        refine J_skip ?_
        refine JN_then ?_
        refine J_seq ?_
        refine J_block ?_
        refine (J_reg [[], [], [1], [], [1, 2, 3], [1, 2, 3, 4], [1, 2, 3, 4, 5], [], [7], [], [7, 8, 9], [7, 8, 9, 10], [7, 8, 9, 10, 11], [7, 8, 9, 10, 11, 12], [1, 2, 3, 4, 5, 6, 7, 8, 9, 10, 11, 12, 13], [0, 1, 2, 3, 4, 5, 6, 7, 8, 9, 10, 11, 12, 13, 14], [0, 1, 2, 3, 4, 5, 6, 7, 8, 9, 10, 11, 12, 13, 14, 15]] (
            .cons (.no) _ _ (op_move (Lk.t rfl)) <|
            .cons (.no) _ _ (op_field_own fd27_0 (Lk.t rfl) rfl) <|
            .cons (.rd 0) _ _ (op_get_sc 0 sc25 (Lk.t rfl) rfl mem_blk rfl) <|
            .cons (.no) _ _ (op_move (Lk.t rfl)) <|
            .cons (.no) _ _ (op_index_sk (mk := prtC) prtD sl25 prtC_len (Lk.t rfl) (Lk.t rfl) (by omega) (by omega)) <|
            .cons (.no) _ _ (op_field_ptr fd69_1 (Lk.t rfl) rfl) <|
            .cons (.no) _ _ (op_load_sc sc3 (Lk.t rfl) rfl) <|
            .cons (.no) _ _ (op_field_own fd27_0 (Lk.t rfl) rfl) <|
            .cons (.rd 0) _ _ (op_get_sc 0 sc25 (Lk.t rfl) rfl mem_blk rfl) <|
            .cons (.no) _ _ (op_move (Lk.t rfl)) <|
            .cons (.no) _ _ (op_index_sk (mk := prtC) prtD sl25 prtC_len (Lk.t rfl) (Lk.t rfl) (by omega) (by omega)) <|
            .cons (.no) _ _ (op_field_ptr fd69_0 (Lk.t rfl) rfl) <|
            .cons (.no) _ _ (op_load_sc sc3 (Lk.t rfl) rfl) <|
            .cons (.no) _ _ (op_call (rsize_ok) ⟨(Lk.t rfl),  trivial⟩) <|
            .cons (.no) _ _ (op_mul (Lk.t rfl) (Lk.t rfl) (wrap_id (by omega) (by omega))) <|
            .cons (.no) _ _ (op_add (Lk.t rfl) (Lk.t rfl) (wrap_id (by omega) (by omega))) <|
            .cons (.no) _ _ (op_assign (Lk.t rfl)) <|
            .nil) (fun _ => mixed) rfl fun g10 => ⟨_, _, [0], rfl, (.cons 1 rfl <| .cons 2 rfl <| .cons 3 rfl <| .cons 4 rfl <| .cons 11 rfl <| .cons 12 rfl <| .nil), (.cons 0 rfl <| .nil), ?_⟩)
        refine JN_block ?_
        refine JN_then ?_
        refine (J_reg [] (
            .cons (.no) _ _ (op_move (Lk.t rfl)) <|
            .cons (.no) _ _ (op_add (Lk.t rfl) (Lk.k rfl) (wrap_id (by omega) (by omega))) <|
            .cons (.no) _ _ (op_assign (Lk.t rfl)) <|
            .nil) ff rfl fun g11 => ⟨_, _, [0], rfl, (.cons 1 rfl <| .cons 2 rfl <| .cons 3 rfl <| .cons 4 rfl <| .cons 11 rfl <| .cons 12 rfl <| .nil), (.cons 0 rfl <| .nil), ?_⟩)
        exact JN_again (k + 1) (by omega) (by omega) (To.pick (fun _ => .sub (t := 12) rfl (sp_eq (by rfl)) <| .sub (t := 11) rfl (sp_eq (by rfl)) <| .cons 1 rfl <| .cons 2 rfl <| .cons 3 rfl <| .cons 4 rfl <| .nil) (fun _ => .cons 0 rfl <| .nil) (ks := [0]) rfl)
      · have h3' := h3
        try simp only [cmpB, Bool.and_eq_true, Bool.or_eq_true, Bool.and_eq_false_iff, Bool.or_eq_false_iff, Bool.not_eq_true', Bool.not_eq_false', Bool.not_eq_true, Bool.not_eq_false, decide_eq_true_eq, decide_eq_false_iff_not, Int.not_lt, Int.not_le, beq_iff_eq, bne_iff_ne, beq_eq_false_iff_ne, bne_eq_false_iff_eq, ne_eq, Decidable.not_not] at h3
        obtain rfl : k = p.toNat := by omega
        refine J_exit ?_
        refine JN_then_exit ?_
        refine JN_then_exit ?_
        refine JN_exit_here ?_
        refine JN_then ?_
        refine J_seq (J_reg [] (
            .cons (.no) _ _ (op_move (Lk.t rfl)) <|
            .cons (.no) _ _ (op_move (Lk.t rfl)) <|
            .cons (.no) _ _ (op_field_own fd27_0 (Lk.t rfl) rfl) <|
            .cons (.rd 0) _ _ (op_get_sc 0 sc25 (Lk.t rfl) rfl mem_blk rfl) <|
            .cons (.no) _ _ (op_move (Lk.t rfl)) <|
            .cons (.no) _ _ (op_index_sk (mk := prtC) prtD sl25 prtC_len (Lk.t rfl) (Lk.t rfl) (by omega) (by omega)) <|
            .cons (.no) _ _ (op_field_ptr fd69_0 (Lk.t rfl) rfl) <|
            .cons (.no) _ _ (op_load_sc sc3 (Lk.t rfl) rfl) <|
            .cons (.no) _ _ (op_call (rsize_ok) ⟨(Lk.t rfl),  trivial⟩) <|
            .cons (.no) _ _ (op_mul (Lk.t rfl) (Lk.t rfl) (wrap_id (by omega) (by omega))) <|
            .cons (.no) _ _ (op_add (Lk.t rfl) (Lk.t rfl) (wrap_id (by omega) (by omega))) <|
            .cons (.no) _ _ (op_move (Lk.t rfl)) <|
            .cons (.no) _ _ (op_add (Lk.t rfl) (Lk.t rfl) (wrap_id (by omega) (by omega))) <|
            .cons (.no) _ _ (op_assign (Lk.t rfl)) <|
            .cons (.no) _ _ (op_assign (Lk.k rfl)) <|
            .nil) ff rfl fun g12 => ⟨_, _, [], rfl, (.cons 8 rfl <| .cons 9 rfl <| .nil), (.nil), ?_⟩)
        refine JN_then ?_
        refine J_ret ?_
        refine JN_ret (.cons (.tmp (Lk.t rfl)) <| .cons (.tmp (Lk.t rfl)) <| .nil) (sb_trans (sb_res (.cons sb_refl <| .cons sb_refl <| .nil)) ?_)
        exact ret_I (plac_3 h1 (show ¬ (p < 0 ∨ (ps.length : Int) ≤ p ∨ a < 0 ∨ (ps.getD p.toNat prtD).a ≤ a ∨ o < 0 ∨ ordN (ps.getD p.toNat prtD).k ≤ o) by omega) (by omega))
theorem parts_ok {ls : List Prt} {p a o : Int} (hb : GoodL ls) : Ct Tryd.prog 3 [slk 4 prtU ls, isv (.int .i64 p), isv (.int .i64 a), isv (.int .i64 o)] (isv (.bool true)) := by
  refine Ct.of Tryd.func3 rfl (by kernel_rfl) rfl fun c0 => ?_
  refine J_seq (J_reg [] (
      .cons (.no) _ _ (op_assign (Lk.k rfl)) <|
      .nil) ff rfl fun g1 => ⟨_, _, [], rfl, (.cons 0 rfl <| .cons 1 rfl <| .cons 2 rfl <| .cons 3 rfl <| .nil), (.nil), ?_⟩)
  refine JN_then ?_
  refine J_seq ?_
  refine J_seq (J_reg [] (
      .cons (.no) _ _ (op_move (Lk.t rfl)) <|
      .cons (.no) _ _ (op_call (motion_ok (by assumption)) ⟨(Lk.t rfl),  trivial⟩) <|
      .cons (.no) _ _ (op_call (mchk_ok) ⟨(Lk.t rfl),  trivial⟩) <|
      .cons (.no) _ _ (op_move (Lk.t rfl)) <|
      .cons (.no) _ _ (op_call (motion_ok (by assumption)) ⟨(Lk.t rfl),  trivial⟩) <|
      .cons (.no) _ _ (op_call (rmchk_ok) ⟨(Lk.t rfl),  trivial⟩) <|
      .cons (.no) _ _ (op_cmp (by simp) (Lk.t rfl) (Lk.t rfl) rfl) <|
      .cons (.no) _ _ (op_move (Lk.t rfl)) <|
      .cons (.no) _ _ (op_guard rfl rfl (gd_b rfl) (fun hC => (op_call (awake_ok) trivial))) <|
      .cons (.no) _ _ (op_guard rfl rfl (gd_b rfl) (fun hC => (op_not (Lk.w rfl hC)))) <|
      .cons (.no) _ _ (op_or (Lk.t rfl) (fun h2 => (Lk.w rfl h2))) <|
      .nil) ff rfl fun g2 => ⟨_, _, [], rfl, (.cons 0 rfl <| .cons 1 rfl <| .cons 2 rfl <| .cons 3 rfl <| .cons 26 rfl <| .nil), (.nil), ?_⟩)
  refine JN_then ?_
  refine J_cond (cond_of (Lk.t rfl)) (fun h1 => ?_) (fun h1 => ?_)
  · have h1' := h1
    try simp only [cmpB, Bool.and_eq_true, Bool.or_eq_true, Bool.and_eq_false_iff, Bool.or_eq_false_iff, Bool.not_eq_true', Bool.not_eq_false', Bool.not_eq_true, Bool.not_eq_false, decide_eq_true_eq, decide_eq_false_iff_not, Int.not_lt, Int.not_le, beq_iff_eq, bne_iff_ne, beq_eq_false_iff_ne, bne_eq_false_iff_eq, ne_eq, Decidable.not_not] at h1
    exact absurd h1' (by simp [cmpB])
  · have h1' := h1
    try simp only [cmpB, Bool.and_eq_true, Bool.or_eq_true, Bool.and_eq_false_iff, Bool.or_eq_false_iff, Bool.not_eq_true', Bool.not_eq_false', Bool.not_eq_true, Bool.not_eq_false, decide_eq_true_eq, decide_eq_false_iff_not, Int.not_lt, Int.not_le, beq_iff_eq, bne_iff_ne, beq_eq_false_iff_ne, bne_eq_false_iff_eq, ne_eq, Decidable.not_not] at h1
    refine J_skip ?_
    refine JN_then ?_
    refine J_seq (J_reg [] (
        .cons (.no) _ _ (op_move (Lk.t rfl)) <|
        .cons (.no) _ _ (op_call (motion_ok (by assumption)) ⟨(Lk.t rfl),  trivial⟩) <|
        .cons (.no) _ _ (op_call (mdim_ok) ⟨(Lk.t rfl),  trivial⟩) <|
        .cons (.no) _ _ (op_move (Lk.t rfl)) <|
        .cons (.no) _ _ (op_extract (Lk.t rfl) rfl) <|
        .cons (.no) _ _ (op_extract (Lk.t rfl) rfl) <|
        .cons (.no) _ _ (op_assign (Lk.t rfl)) <|
        .cons (.no) _ _ (op_assign (Lk.t rfl)) <|
        .nil) ff rfl fun g3 => ⟨_, _, [], rfl, (.cons 0 rfl <| .cons 1 rfl <| .cons 2 rfl <| .cons 3 rfl <| .cons 9 rfl <| .cons 10 rfl <| .nil), (.nil), ?_⟩)
    refine JN_then ?_
    refine J_seq (J_reg [] (
        .cons (.no) _ _ (op_move (Lk.t rfl)) <|
        .cons (.no) _ _ (op_call (motion_ok (by assumption)) ⟨(Lk.t rfl),  trivial⟩) <|
        .cons (.no) _ _ (op_call (rdim_ok) ⟨(Lk.t rfl),  trivial⟩) <|
        .cons (.no) _ _ (op_move (Lk.t rfl)) <|
        .cons (.no) _ _ (op_extract (Lk.t rfl) rfl) <|
        .cons (.no) _ _ (op_extract (Lk.t rfl) rfl) <|
        .cons (.no) _ _ (op_assign (Lk.t rfl)) <|
        .cons (.no) _ _ (op_assign (Lk.t rfl)) <|
        .nil) ff rfl fun g4 => ⟨_, _, [], rfl, (.cons 0 rfl <| .cons 1 rfl <| .cons 2 rfl <| .cons 3 rfl <| .cons 9 rfl <| .cons 10 rfl <| .cons 11 rfl <| .cons 12 rfl <| .nil), (.nil), ?_⟩)
    refine JN_then ?_
    refine J_seq ?_
    refine J_seq (J_reg [] (
        .cons (.no) _ _ (op_move (Lk.t rfl)) <|
        .cons (.no) _ _ (op_move (Lk.t rfl)) <|
        .cons (.no) _ _ (op_cmp (by simp) (Lk.t rfl) (Lk.t rfl) rfl) <|
        .cons (.no) _ _ (op_move (Lk.t rfl)) <|
        .cons (.no) _ _ (op_guard rfl rfl (gd_b rfl) (fun hC => (op_move (Lk.t rfl)))) <|
        .cons (.no) _ _ (op_guard rfl rfl (gd_b rfl) (fun hC => (op_move (Lk.t rfl)))) <|
        .cons (.no) _ _ (op_guard rfl rfl (gd_b rfl) (fun hC => (op_cmp (by simp) (Lk.w rfl hC) (Lk.w rfl hC) rfl))) <|
        .cons (.no) _ _ (op_or (Lk.t rfl) (fun h2 => (Lk.w rfl h2))) <|
        .nil) ff rfl fun g5 => ⟨_, _, [], rfl, (.cons 0 rfl <| .cons 1 rfl <| .cons 2 rfl <| .cons 3 rfl <| .cons 46 rfl <| .nil), (.nil), ?_⟩)
    refine JN_then ?_
    refine J_cond (cond_of (Lk.t rfl)) (fun h2 => ?_) (fun h2 => ?_)
    · have h2' := h2
      try simp only [cmpB, Bool.and_eq_true, Bool.or_eq_true, Bool.and_eq_false_iff, Bool.or_eq_false_iff, Bool.not_eq_true', Bool.not_eq_false', Bool.not_eq_true, Bool.not_eq_false, decide_eq_true_eq, decide_eq_false_iff_not, Int.not_lt, Int.not_le, beq_iff_eq, bne_iff_ne, beq_eq_false_iff_ne, bne_eq_false_iff_eq, ne_eq, Decidable.not_not] at h2
      exact absurd h2' (by simp [cmpB])
    · have h2' := h2
      try simp only [cmpB, Bool.and_eq_true, Bool.or_eq_true, Bool.and_eq_false_iff, Bool.or_eq_false_iff, Bool.not_eq_true', Bool.not_eq_false', Bool.not_eq_true, Bool.not_eq_false, decide_eq_true_eq, decide_eq_false_iff_not, Int.not_lt, Int.not_le, beq_iff_eq, bne_iff_ne, beq_eq_false_iff_ne, bne_eq_false_iff_eq, ne_eq, Decidable.not_not] at h2
      refine J_skip ?_
      refine JN_then ?_
      refine J_seq (J_reg [] (
          .cons (.no) _ _ (op_move (Lk.t rfl)) <|
          .cons (.no) _ _ (op_call (motion_ok (by assumption)) ⟨(Lk.t rfl),  trivial⟩) <|
          .cons (.no) _ _ (op_move (Lk.t rfl)) <|
          .cons (.no) _ _ (op_move (Lk.t rfl)) <|
          .cons (.no) _ _ (op_move (Lk.t rfl)) <|
          .cons (.no) _ _ (op_call (mplace_ok) ⟨(Lk.t rfl), (Lk.t rfl), (Lk.t rfl), (Lk.t rfl),  trivial⟩) <|
          .cons (.no) _ _ (op_move (Lk.t rfl)) <|
          .cons (.no) _ _ (op_extract (Lk.t rfl) rfl) <|
          .cons (.no) _ _ (op_extract (Lk.t rfl) rfl) <|
          .cons (.no) _ _ (op_assign (Lk.t rfl)) <|
          .cons (.no) _ _ (op_assign (Lk.t rfl)) <|
          .nil) ff rfl fun g6 => ⟨_, _, [], rfl, (.cons 0 rfl <| .cons 1 rfl <| .cons 2 rfl <| .cons 3 rfl <| .cons 9 rfl <| .cons 10 rfl <| .nil), (.nil), ?_⟩)
      refine JN_then ?_
      refine J_seq (J_reg [] (
          .cons (.no) _ _ (op_move (Lk.t rfl)) <|
          .cons (.no) _ _ (op_call (motion_ok (by assumption)) ⟨(Lk.t rfl),  trivial⟩) <|
          .cons (.no) _ _ (op_move (Lk.t rfl)) <|
          .cons (.no) _ _ (op_move (Lk.t rfl)) <|
          .cons (.no) _ _ (op_move (Lk.t rfl)) <|
          .cons (.no) _ _ (op_call (rplace_ok) ⟨(Lk.t rfl), (Lk.t rfl), (Lk.t rfl), (Lk.t rfl),  trivial⟩) <|
          .cons (.no) _ _ (op_move (Lk.t rfl)) <|
          .cons (.no) _ _ (op_extract (Lk.t rfl) rfl) <|
          .cons (.no) _ _ (op_extract (Lk.t rfl) rfl) <|
          .cons (.no) _ _ (op_assign (Lk.t rfl)) <|
          .cons (.no) _ _ (op_assign (Lk.t rfl)) <|
          .nil) ff rfl fun g7 => ⟨_, _, [], rfl, (.cons 0 rfl <| .cons 9 rfl <| .cons 10 rfl <| .cons 11 rfl <| .cons 12 rfl <| .nil), (.nil), ?_⟩)
      refine JN_then ?_
      refine J_seq ?_
      refine J_seq (J_reg [] (
          .cons (.no) _ _ (op_move (Lk.t rfl)) <|
          .cons (.no) _ _ (op_move (Lk.t rfl)) <|
          .cons (.no) _ _ (op_cmp (by simp) (Lk.t rfl) (Lk.t rfl) rfl) <|
          .cons (.no) _ _ (op_move (Lk.t rfl)) <|
          .cons (.no) _ _ (op_guard rfl rfl (gd_b rfl) (fun hC => (op_move (Lk.t rfl)))) <|
          .cons (.no) _ _ (op_guard rfl rfl (gd_b rfl) (fun hC => (op_move (Lk.t rfl)))) <|
          .cons (.no) _ _ (op_guard rfl rfl (gd_b rfl) (fun hC => (op_cmp (by simp) (Lk.w rfl hC) (Lk.w rfl hC) rfl))) <|
          .cons (.no) _ _ (op_or (Lk.t rfl) (fun h2 => (Lk.w rfl h2))) <|
          .nil) ff rfl fun g8 => ⟨_, _, [], rfl, (.cons 0 rfl <| .cons 72 rfl <| .nil), (.nil), ?_⟩)
      refine JN_then ?_
      refine J_cond (cond_of (Lk.t rfl)) (fun h3 => ?_) (fun h3 => ?_)
      · have h3' := h3
        try simp only [cmpB, Bool.and_eq_true, Bool.or_eq_true, Bool.and_eq_false_iff, Bool.or_eq_false_iff, Bool.not_eq_true', Bool.not_eq_false', Bool.not_eq_true, Bool.not_eq_false, decide_eq_true_eq, decide_eq_false_iff_not, Int.not_lt, Int.not_le, beq_iff_eq, bne_iff_ne, beq_eq_false_iff_ne, bne_eq_false_iff_eq, ne_eq, Decidable.not_not] at h3
        exact absurd h3' (by simp [cmpB])
      · have h3' := h3
        try simp only [cmpB, Bool.and_eq_true, Bool.or_eq_true, Bool.and_eq_false_iff, Bool.or_eq_false_iff, Bool.not_eq_true', Bool.not_eq_false', Bool.not_eq_true, Bool.not_eq_false, decide_eq_true_eq, decide_eq_false_iff_not, Int.not_lt, Int.not_le, beq_iff_eq, bne_iff_ne, beq_eq_false_iff_ne, bne_eq_false_iff_eq, ne_eq, Decidable.not_not] at h3
        refine J_skip ?_
        refine JN_then ?_
        refine J_seq (J_reg [] (
            .cons (.no) _ _ (op_move (Lk.t rfl)) <|
            .cons (.no) _ _ (op_call (motion_ok (by assumption)) ⟨(Lk.t rfl),  trivial⟩) <|
            .cons (.no) _ _ (op_call (mnames_ok) ⟨(Lk.t rfl),  trivial⟩) <|
            .cons (.no) _ _ (op_move (Lk.t rfl)) <|
            .cons (.no) _ _ (op_extract (Lk.t rfl) rfl) <|
            .cons (.no) _ _ (op_extract (Lk.t rfl) rfl) <|
            .cons (.no) _ _ (op_assign (Lk.t rfl)) <|
            .cons (.no) _ _ (op_assign (Lk.t rfl)) <|
            .nil) ff rfl fun g9 => ⟨_, _, [], rfl, (.cons 0 rfl <| .cons 10 rfl <| .cons 13 rfl <| .nil), (.nil), ?_⟩)
        refine JN_then ?_
        refine J_seq (J_reg [] (
            .cons (.no) _ _ (op_move (Lk.t rfl)) <|
            .cons (.no) _ _ (op_call (motion_ok (by assumption)) ⟨(Lk.t rfl),  trivial⟩) <|
            .cons (.no) _ _ (op_call (rnames_ok) ⟨(Lk.t rfl),  trivial⟩) <|
            .cons (.no) _ _ (op_move (Lk.t rfl)) <|
            .cons (.no) _ _ (op_extract (Lk.t rfl) rfl) <|
            .cons (.no) _ _ (op_extract (Lk.t rfl) rfl) <|
            .cons (.no) _ _ (op_assign (Lk.t rfl)) <|
            .cons (.no) _ _ (op_assign (Lk.t rfl)) <|
            .nil) ff rfl fun g10 => ⟨_, _, [], rfl, (.cons 10 rfl <| .cons 12 rfl <| .cons 13 rfl <| .cons 14 rfl <| .nil), (.nil), ?_⟩)
        refine JN_then ?_
        refine J_seq ?_
        refine J_seq (J_reg [] (
            .cons (.no) _ _ (op_move (Lk.t rfl)) <|
            .cons (.no) _ _ (op_move (Lk.t rfl)) <|
            .cons (.no) _ _ (op_cmp (by simp) (Lk.t rfl) (Lk.t rfl) rfl) <|
            .cons (.no) _ _ (op_move (Lk.t rfl)) <|
            .cons (.no) _ _ (op_guard rfl rfl (gd_b rfl) (fun hC => (op_move (Lk.t rfl)))) <|
            .cons (.no) _ _ (op_guard rfl rfl (gd_b rfl) (fun hC => (op_len_m sl37 (Lk.w rfl hC)))) <|
            .cons (.no) _ _ (op_guard rfl rfl (gd_b rfl) (fun hC => (op_move (Lk.t rfl)))) <|
            .cons (.no) _ _ (op_guard rfl rfl (gd_b rfl) (fun hC => (op_len_m sl37 (Lk.w rfl hC)))) <|
            .cons (.no) _ _ (op_guard rfl rfl (gd_b rfl) (fun hC => (op_cmp (by simp) (Lk.w rfl hC) (Lk.w rfl hC) rfl))) <|
            .cons (.no) _ _ (op_or (Lk.t rfl) (fun h2 => (Lk.w rfl h2))) <|
            .nil) ff rfl fun g11 => ⟨_, _, [], rfl, (.cons 13 rfl <| .cons 14 rfl <| .cons 94 rfl <| .nil), (.nil), ?_⟩)
        refine JN_then ?_
        refine J_cond (cond_of (Lk.t rfl)) (fun h4 => ?_) (fun h4 => ?_)
        · have h4' := h4
          try simp only [cmpB, Bool.and_eq_true, Bool.or_eq_true, Bool.and_eq_false_iff, Bool.or_eq_false_iff, Bool.not_eq_true', Bool.not_eq_false', Bool.not_eq_true, Bool.not_eq_false, decide_eq_true_eq, decide_eq_false_iff_not, Int.not_lt, Int.not_le, beq_iff_eq, bne_iff_ne, beq_eq_false_iff_ne, bne_eq_false_iff_eq, ne_eq, Decidable.not_not] at h4
          exact absurd h4' (by simp [cmpB])
        · have h4' := h4
          try simp only [cmpB, Bool.and_eq_true, Bool.or_eq_true, Bool.and_eq_false_iff, Bool.or_eq_false_iff, Bool.not_eq_true', Bool.not_eq_false', Bool.not_eq_true, Bool.not_eq_false, decide_eq_true_eq, decide_eq_false_iff_not, Int.not_lt, Int.not_le, beq_iff_eq, bne_iff_ne, beq_eq_false_iff_ne, bne_eq_false_iff_eq, ne_eq, Decidable.not_not] at h4
          have hnl := names_len (ps := ls.map pcn)
          refine J_skip ?_
          refine JN_then ?_
          refine J_seq ?_
          refine J_seq (J_reg [] (
              .cons (.no) _ _ (op_assign (Lk.k rfl)) <|
              .nil) ff rfl fun g12 => ⟨_, _, [], rfl, (.cons 13 rfl <| .cons 14 rfl <| .cons 15 rfl <| .nil), (.nil), ?_⟩)
          refine JN_then ?_
          refine J_block ?_
          refine J_loopc (α := Nat) (fun k => k ≤ (namesR (ls.map pcn)).a.length) (fun k => (namesR (ls.map pcn)).a.length - k) (fun k restR => (15, isv (.int .i64 (k : Int))) :: restR) (fun k restS => restS) (ρc := [(13, _), (14, _)]) (σc := []) 0 (by exact Nat.zero_le _) (To.pick (fun _ => .sub (t := 15) rfl (sp_eq (by rfl)) <| .cons 13 rfl <| .cons 14 rfl <| .nil) (fun _ => .nil) (ks := []) rfl) (fun k hI => ?_)
          refine J_seq ?_
          refine J_seq (J_reg [] (
              .cons (.no) _ _ (op_move (Lk.t rfl)) <|
              .cons (.no) _ _ (op_move (Lk.t rfl)) <|
              .cons (.no) _ _ (op_len_m sl37 (Lk.t rfl)) <|
              .cons (.no) _ _ (op_cmp (by simp) (Lk.t rfl) (Lk.t rfl) rfl) <|
              .nil) ff rfl fun g13 => ⟨_, _, [], rfl, (.cons 13 rfl <| .cons 14 rfl <| .cons 15 rfl <| .cons 98 rfl <| .nil), (.nil), ?_⟩)
          refine JN_then ?_
          refine J_cond (cond_of (Lk.t rfl)) (fun h5 => ?_) (fun h5 => ?_)
          · have h5' := h5
            try simp only [cmpB, Bool.and_eq_true, Bool.or_eq_true, Bool.and_eq_false_iff, Bool.or_eq_false_iff, Bool.not_eq_true', Bool.not_eq_false', Bool.not_eq_true, Bool.not_eq_false, decide_eq_true_eq, decide_eq_false_iff_not, Int.not_lt, Int.not_le, beq_iff_eq, bne_iff_ne, beq_eq_false_iff_ne, bne_eq_false_iff_eq, ne_eq, Decidable.not_not] at h5
            refine J_skip ?_
            refine JN_then ?_
            refine J_seq ?_
            refine J_block ?_
            refine J_seq (J_reg [[], [], [0, 1], [0, 1, 2], [], [], [4, 5], [4, 5, 6], [0, 1, 2, 3, 4, 5, 6, 7]] (
                .cons (.no) _ _ (op_move (Lk.t rfl)) <|
                .cons (.no) _ _ (op_move (Lk.t rfl)) <|
                .cons (.no) _ _ (op_index_m (⟨#[]⟩ : ByteArray) sl37 (Lk.t rfl) (Lk.t rfl) (by omega) (by omega)) <|
                .cons (.no) _ _ (op_load_sc sc9 (Lk.t rfl) rfl) <|
                .cons (.no) _ _ (op_move (Lk.t rfl)) <|
                .cons (.no) _ _ (op_move (Lk.t rfl)) <|
                .cons (.no) _ _ (op_index_m (⟨#[]⟩ : ByteArray) sl37 (Lk.t rfl) (Lk.t rfl) (by omega) (by omega)) <|
                .cons (.no) _ _ (op_load_sc sc9 (Lk.t rfl) rfl) <|
                .cons (.no) _ _ (op_scmp (by simp) (Lk.t rfl) (Lk.t rfl) rfl) <|
                .nil) (fun _ => mixed) rfl fun g14 => ⟨_, _, [], rfl, (.cons 13 rfl <| .cons 14 rfl <| .cons 15 rfl <| .cons 109 rfl <| .nil), (.nil), ?_⟩)
            refine JN_then ?_
            refine J_cond (cond_of (Lk.t rfl)) (fun h6 => ?_) (fun h6 => ?_)
            · have h6' := h6
              try simp only [cmpB, Bool.and_eq_true, Bool.or_eq_true, Bool.and_eq_false_iff, Bool.or_eq_false_iff, Bool.not_eq_true', Bool.not_eq_false', Bool.not_eq_true, Bool.not_eq_false, decide_eq_true_eq, decide_eq_false_iff_not, Int.not_lt, Int.not_le, beq_iff_eq, bne_iff_ne, beq_eq_false_iff_ne, bne_eq_false_iff_eq, ne_eq, Decidable.not_not] at h6
              exact absurd h6' scmp_self
            · have h6' := h6
              try simp only [cmpB, Bool.and_eq_true, Bool.or_eq_true, Bool.and_eq_false_iff, Bool.or_eq_false_iff, Bool.not_eq_true', Bool.not_eq_false', Bool.not_eq_true, Bool.not_eq_false, decide_eq_true_eq, decide_eq_false_iff_not, Int.not_lt, Int.not_le, beq_iff_eq, bne_iff_ne, beq_eq_false_iff_ne, bne_eq_false_iff_eq, ne_eq, Decidable.not_not] at h6
              refine J_skip ?_
              refine JN_block ?_
              refine JN_then ?_
              refine (J_reg [] (
                  .cons (.no) _ _ (op_move (Lk.t rfl)) <|
                  .cons (.no) _ _ (op_add (Lk.t rfl) (Lk.k rfl) (wrap_id (by omega) (by omega))) <|
                  .cons (.no) _ _ (op_assign (Lk.t rfl)) <|
                  .nil) ff rfl fun g15 => ⟨_, _, [], rfl, (.cons 13 rfl <| .cons 14 rfl <| .cons 15 rfl <| .nil), (.nil), ?_⟩)
              exact JN_again (k + 1) (by omega) (by omega) (To.pick (fun _ => .sub (t := 15) rfl (sp_eq (by rfl)) <| .cons 13 rfl <| .cons 14 rfl <| .nil) (fun _ => .nil) (ks := []) rfl)
          · have h5' := h5
            try simp only [cmpB, Bool.and_eq_true, Bool.or_eq_true, Bool.and_eq_false_iff, Bool.or_eq_false_iff, Bool.not_eq_true', Bool.not_eq_false', Bool.not_eq_true, Bool.not_eq_false, decide_eq_true_eq, decide_eq_false_iff_not, Int.not_lt, Int.not_le, beq_iff_eq, bne_iff_ne, beq_eq_false_iff_ne, bne_eq_false_iff_eq, ne_eq, Decidable.not_not] at h5
            refine J_exit ?_
            refine JN_then_exit ?_
            refine JN_then_exit ?_
            refine JN_exit_here ?_
            refine JN_then ?_
            refine J_seq (J_reg [] (
                .cons (.no) _ _ (op_assign (Lk.k rfl)) <|
                .nil) ff rfl fun g16 => ⟨_, _, [], rfl, (.cons 8 rfl <| .nil), (.nil), ?_⟩)
            refine JN_then ?_
            refine J_ret ?_
            refine JN_ret (.cons (.tmp (Lk.t rfl)) <| .nil) (sb_trans (sb_res1 sb_refl) ?_)
            exact sb_refl
end Go.Proofs.YtcnffgbncbadbaaDoor
