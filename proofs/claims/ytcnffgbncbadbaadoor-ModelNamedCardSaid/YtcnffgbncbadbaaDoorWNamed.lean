/- Printed by a program of ours (walk.py): the walk of ModelNamed. -/
import Derived.Test.YtcnffgbncbadbaaDoorTyp
import Derived.Test.YtcnffgbncbadbaaDoorProg
import Derived.KernelRfl
import Derived.Test.YtcnffgbncbadbaaDoorTypes
import Derived.Test.YtcnffgbncbadbaaDoorWNames
import Derived.Test.YtcnffgbncbadbaaDoorWSees
import Derived.Test.YtcnffgbncbadbaaDoorNgo
set_option linter.unusedVariables false
set_option linter.unusedSimpArgs false
set_option maxRecDepth 20000
set_option maxHeartbeats 1000000
namespace Go.Proofs.YtcnffgbncbadbaaDoor
open Go Go.Bn
attribute [local irreducible] OpOK
theorem msx_ok {i r c : Int} {hs rs : List Nat} {q : Nat} {xs Z : List Nat} (h : seesR i r c hs rs q xs = ⟨Z, 0⟩) : Ct Tryd.prog 19 [SenP i r c hs rs q, fls xs] (tupp [fls Z, isv (.int .i64 0)]) := (h ▸ msees_ok : Ct Tryd.prog 19 [SenP i r c hs rs q, fls xs] (resV ⟨Z, 0⟩))
theorem named_ok {ls : List Prt} {es : List Int} {xs : List Nat} {p a o : Int} (hb : GoodL ls) (he : es.length * 8 ≤ 140737488355328) (hx : GoodU xs) : Ct Tryd.prog 4 [slk 4 prtU ls, ils .i64 es, wsl xs, isv (.int .i64 p), isv (.int .i64 a), isv (.int .i64 o)] (isv (.bool true)) := by
  refine Ct.of Tryd.func4 rfl (by kernel_rfl) rfl fun c0 => ?_
  refine J_lenk 0 rfl fun hlen => ?_
  refine J_seq (J_reg [] (
      .cons (.no) _ _ (op_assign (Lk.k rfl)) <|
      .nil) ff rfl fun g1 => ⟨_, _, [], rfl, (.cons 0 rfl <| .cons 1 rfl <| .cons 2 rfl <| .cons 3 rfl <| .cons 4 rfl <| .cons 5 rfl <| .nil), (.nil), ?_⟩)
  refine JN_then ?_
  refine J_seq ?_
  refine J_seq (J_reg [] (
      .cons (.no) _ _ (op_call (awake_ok) trivial) <|
      .cons (.no) _ _ (op_not (Lk.t rfl)) <|
      .nil) ff rfl fun g2 => ⟨_, _, [], rfl, (.cons 0 rfl <| .cons 1 rfl <| .cons 2 rfl <| .cons 3 rfl <| .cons 4 rfl <| .cons 5 rfl <| .cons 30 rfl <| .nil), (.nil), ?_⟩)
  refine JN_then ?_
  refine J_cond (cond_of (Lk.t rfl)) (fun h1 => ?_) (fun h1 => ?_)
  · have h1' := h1
    try simp only [cmpB, Bool.and_eq_true, Bool.or_eq_true, Bool.and_eq_false_iff, Bool.or_eq_false_iff, Bool.not_eq_true', Bool.not_eq_false', Bool.not_eq_true, Bool.not_eq_false, decide_eq_true_eq, decide_eq_false_iff_not, Int.not_lt, Int.not_le, beq_iff_eq, bne_iff_ne, beq_eq_false_iff_ne, bne_eq_false_iff_eq, ne_eq, Decidable.not_not] at h1
    exact absurd h1' (by simp [cmpB])
  · have h1' := h1
    try simp only [cmpB, Bool.and_eq_true, Bool.or_eq_true, Bool.and_eq_false_iff, Bool.or_eq_false_iff, Bool.not_eq_true', Bool.not_eq_false', Bool.not_eq_true, Bool.not_eq_false, decide_eq_true_eq, decide_eq_false_iff_not, Int.not_lt, Int.not_le, beq_iff_eq, bne_iff_ne, beq_eq_false_iff_ne, bne_eq_false_iff_eq, ne_eq, Decidable.not_not] at h1
    refine J_skip ?_
    refine JN_then ?_
    refine J_to (To.emps 1) ?_
    refine J_seq (J_reg [] (
        .cons (.no) _ _ (op_move (Lk.t rfl)) <|
        .cons (.no) _ _ (op_call (motion_ok (by assumption)) ⟨(Lk.t rfl),  trivial⟩) <|
        .cons (.wr 0) _ _ (op_alloc 0 zr27 rfl rfl) <|
        .cons (.wr 0) _ _ (op_store_new 0 rfl (Lk.t rfl) co_agg sz27 rfl rfl) <|
        .nil) ff rfl fun g3 => ⟨_, _, [0], rfl, (.cons 1 rfl <| .cons 2 rfl <| .cons 3 rfl <| .cons 4 rfl <| .cons 5 rfl <| .cons 13 rfl <| .nil), (.cons 0 rfl <| .nil), ?_⟩)
    refine JN_then ?_
    refine J_seq (J_reg [] (
        .cons (.rd 0) _ _ (op_get_ag 0 ag27 (Lk.t rfl) rfl mem_blk rfl rfl) <|
        .cons (.no) _ _ (op_call (mnames_ok) ⟨(Lk.t rfl),  trivial⟩) <|
        .cons (.no) _ _ (op_move (Lk.t rfl)) <|
        .cons (.no) _ _ (op_extract (Lk.t rfl) rfl) <|
        .cons (.no) _ _ (op_extract (Lk.t rfl) rfl) <|
        .cons (.no) _ _ (op_assign (Lk.t rfl)) <|
        .cons (.no) _ _ (op_assign (Lk.t rfl)) <|
        .nil) ff rfl fun g4 => ⟨_, _, [0], rfl, (.cons 1 rfl <| .cons 2 rfl <| .cons 3 rfl <| .cons 4 rfl <| .cons 5 rfl <| .cons 13 rfl <| .cons 14 rfl <| .cons 15 rfl <| .nil), (.cons 0 rfl <| .nil), ?_⟩)
    refine JN_then ?_
    refine J_seq (J_reg [] (
        .cons (.rd 0) _ _ (op_get_ag 0 ag27 (Lk.t rfl) rfl mem_blk rfl rfl) <|
        .cons (.no) _ _ (op_call (mdim_ok) ⟨(Lk.t rfl),  trivial⟩) <|
        .cons (.no) _ _ (op_move (Lk.t rfl)) <|
        .cons (.no) _ _ (op_extract (Lk.t rfl) rfl) <|
        .cons (.no) _ _ (op_extract (Lk.t rfl) rfl) <|
        .cons (.no) _ _ (op_assign (Lk.t rfl)) <|
        .cons (.no) _ _ (op_assign (Lk.t rfl)) <|
        .nil) ff rfl fun g5 => ⟨_, _, [0], rfl, (.cons 1 rfl <| .cons 2 rfl <| .cons 3 rfl <| .cons 4 rfl <| .cons 5 rfl <| .cons 13 rfl <| .cons 14 rfl <| .cons 15 rfl <| .cons 16 rfl <| .cons 17 rfl <| .nil), (.cons 0 rfl <| .nil), ?_⟩)
    refine JN_then ?_
    refine J_seq ?_
    refine J_seq (J_reg [] (
        .cons (.no) _ _ (op_move (Lk.t rfl)) <|
        .cons (.no) _ _ (op_move (Lk.t rfl)) <|
        .cons (.no) _ _ (op_cmp (by simp) (Lk.t rfl) (Lk.t rfl) rfl) <|
        .cons (.no) _ _ (op_move (Lk.t rfl)) <|
        .cons (.no) _ _ (op_guard rfl rfl (gd_b rfl) (fun hC => (op_move (Lk.t rfl)))) <|
        .cons (.no) _ _ (op_guard rfl rfl (gd_b rfl) (fun hC => (op_cmp (by simp) (Lk.w rfl hC) (Lk.k rfl) rfl))) <|
        .cons (.no) _ _ (op_guard rfl rfl (gd_b rfl) (fun hC => (op_move (Lk.w rfl hC)))) <|
        .cons (.no) _ _ (op_guard rfl rfl (gd_w rfl) (fun hC => (op_move (Lk.t rfl)))) <|
        .cons (.no) _ _ (op_guard rfl rfl (gd_w rfl) (fun hC => (op_len_m sl37 (Lk.w rfl hC)))) <|
        .cons (.no) _ _ (op_guard rfl rfl (gd_w rfl) (fun hC => (op_move (Lk.t rfl)))) <|
        .cons (.no) _ _ (op_guard rfl rfl (gd_w rfl) (fun hC => (op_cmp (by simp) (Lk.w rfl hC) (Lk.w rfl hC) rfl))) <|
        .cons (.no) _ _ (op_guard rfl rfl (gd_b rfl) (fun hC => (op_and (Lk.w rfl hC) (fun h2 => (Lk.w rfl ⟨hC, h2⟩))))) <|
        .cons (.no) _ _ (op_or (Lk.t rfl) (fun h2 => (Lk.w rfl h2))) <|
        .nil) ff rfl fun g6 => ⟨_, _, [0], rfl, (.cons 1 rfl <| .cons 2 rfl <| .cons 3 rfl <| .cons 4 rfl <| .cons 5 rfl <| .cons 13 rfl <| .cons 14 rfl <| .cons 15 rfl <| .cons 16 rfl <| .cons 55 rfl <| .nil), (.cons 0 rfl <| .nil), ?_⟩)
    refine JN_then ?_
    refine J_cond (cond_of (Lk.t rfl)) (fun h2 => ?_) (fun h2 => ?_)
    · have h2' := h2
      try simp only [cmpB, Bool.and_eq_true, Bool.or_eq_true, Bool.and_eq_false_iff, Bool.or_eq_false_iff, Bool.not_eq_true', Bool.not_eq_false', Bool.not_eq_true, Bool.not_eq_false, decide_eq_true_eq, decide_eq_false_iff_not, Int.not_lt, Int.not_le, beq_iff_eq, bne_iff_ne, beq_eq_false_iff_ne, bne_eq_false_iff_eq, ne_eq, Decidable.not_not] at h2
      exact absurd h2' named_2
    · have h2' := h2
      try simp only [cmpB, Bool.and_eq_true, Bool.or_eq_true, Bool.and_eq_false_iff, Bool.or_eq_false_iff, Bool.not_eq_true', Bool.not_eq_false', Bool.not_eq_true, Bool.not_eq_false, decide_eq_true_eq, decide_eq_false_iff_not, Int.not_lt, Int.not_le, beq_iff_eq, bne_iff_ne, beq_eq_false_iff_ne, bne_eq_false_iff_eq, ne_eq, Decidable.not_not] at h2
      refine J_skip ?_
      refine JN_then ?_
      refine J_seq ?_
      refine J_seq (J_reg [] (
          .cons (.no) _ _ (op_move (Lk.t rfl)) <|
          .cons (.no) _ _ (op_cmp (by simp) (Lk.t rfl) (Lk.k rfl) rfl) <|
          .nil) ff rfl fun g7 => ⟨_, _, [0], rfl, (.cons 1 rfl <| .cons 2 rfl <| .cons 3 rfl <| .cons 4 rfl <| .cons 5 rfl <| .cons 13 rfl <| .cons 14 rfl <| .cons 16 rfl <| .cons 57 rfl <| .nil), (.cons 0 rfl <| .nil), ?_⟩)
      refine JN_then ?_
      refine J_cond (cond_of (Lk.t rfl)) (fun h3 => ?_) (fun h3 => ?_)
      · have h3' := h3
        try simp only [cmpB, Bool.and_eq_true, Bool.or_eq_true, Bool.and_eq_false_iff, Bool.or_eq_false_iff, Bool.not_eq_true', Bool.not_eq_false', Bool.not_eq_true, Bool.not_eq_false, decide_eq_true_eq, decide_eq_false_iff_not, Int.not_lt, Int.not_le, beq_iff_eq, bne_iff_ne, beq_eq_false_iff_ne, bne_eq_false_iff_eq, ne_eq, Decidable.not_not] at h3
        refine J_seq (J_reg [] (
            .cons (.no) _ _ (op_assign (Lk.k rfl)) <|
            .nil) ff rfl fun g8 => ⟨_, _, [], rfl, (.cons 12 rfl <| .nil), (.nil), ?_⟩)
        refine JN_then ?_
        refine J_ret ?_
        refine JN_then_ret ?_
        refine JN_ret (.cons (.tmp (Lk.t rfl)) <| .nil) (sb_trans (sb_res1 sb_refl) ?_)
        exact sb_refl
      · have h3' := h3
        try simp only [cmpB, Bool.and_eq_true, Bool.or_eq_true, Bool.and_eq_false_iff, Bool.or_eq_false_iff, Bool.not_eq_true', Bool.not_eq_false', Bool.not_eq_true, Bool.not_eq_false, decide_eq_true_eq, decide_eq_false_iff_not, Int.not_lt, Int.not_le, beq_iff_eq, bne_iff_ne, beq_eq_false_iff_ne, bne_eq_false_iff_eq, ne_eq, Decidable.not_not] at h3
        have hme : motE (ls.map pcn) = 0 := by rw [← namesR_e]; exact h3
        obtain ⟨n, hn⟩ : ∃ n, tot (ls.map pcn) (ls.map pcn).length = n := ⟨_, rfl⟩
        have hda : (dimR (ls.map pcn)).a = n := by rw [dimR_ok hme]; exact hn
        rw [hda]
        have hln := names_len_ok hme hn
        obtain ⟨hs0, hn1, hgd⟩ := siz_n hme hn
        have hs2 := hs0.2.1
        refine J_skip ?_
        refine JN_then ?_
        refine J_seq ?_
        refine J_seq (J_reg [] (
            .cons (.no) _ _ (op_assign (Lk.k rfl)) <|
            .nil) ff rfl fun g9 => ⟨_, _, [0], rfl, (.cons 1 rfl <| .cons 2 rfl <| .cons 3 rfl <| .cons 4 rfl <| .cons 5 rfl <| .cons 13 rfl <| .cons 14 rfl <| .cons 16 rfl <| .cons 18 rfl <| .nil), (.cons 0 rfl <| .nil), ?_⟩)
        refine JN_then ?_
        refine J_block ?_
        refine J_loopc (α := Nat) (fun i => (i : Int) ≤ n) (fun i => n.toNat - i) (fun i restR => (18, isv (.int .i64 (i : Int))) :: restR) (fun i restS => restS) (ρc := [(1, _), (2, _), (3, _), (4, _), (5, _), (13, _), (14, _), (16, _)]) (σc := [_]) 0 (by omega) (To.pick (fun _ => .sub (t := 18) rfl (sp_eq (by rfl)) <| .cons 1 rfl <| .cons 2 rfl <| .cons 3 rfl <| .cons 4 rfl <| .cons 5 rfl <| .cons 13 rfl <| .cons 14 rfl <| .cons 16 rfl <| .nil) (fun _ => .cons 0 rfl <| .nil) (ks := [0]) rfl) (fun i hI => ?_)
        refine J_seq ?_
        refine J_seq (J_reg [] (
            .cons (.no) _ _ (op_move (Lk.t rfl)) <|
            .cons (.no) _ _ (op_move (Lk.t rfl)) <|
            .cons (.no) _ _ (op_cmp (by simp) (Lk.t rfl) (Lk.t rfl) rfl) <|
            .nil) ff rfl fun g10 => ⟨_, _, [0], rfl, (.cons 1 rfl <| .cons 2 rfl <| .cons 3 rfl <| .cons 4 rfl <| .cons 5 rfl <| .cons 13 rfl <| .cons 14 rfl <| .cons 16 rfl <| .cons 18 rfl <| .cons 60 rfl <| .nil), (.cons 0 rfl <| .nil), ?_⟩)
        refine JN_then ?_
        refine J_cond (cond_of (Lk.t rfl)) (fun h4 => ?_) (fun h4 => ?_)
        · have h4' := h4
          try simp only [cmpB, Bool.and_eq_true, Bool.or_eq_true, Bool.and_eq_false_iff, Bool.or_eq_false_iff, Bool.not_eq_true', Bool.not_eq_false', Bool.not_eq_true, Bool.not_eq_false, decide_eq_true_eq, decide_eq_false_iff_not, Int.not_lt, Int.not_le, beq_iff_eq, bne_iff_ne, beq_eq_false_iff_ne, bne_eq_false_iff_eq, ne_eq, Decidable.not_not] at h4
          refine J_skip ?_
          refine JN_then ?_
          refine J_seq ?_
          refine J_block ?_
          refine J_seq (J_reg [] (
              .cons (.no) _ _ (op_assign (Lk.k rfl)) <|
              .nil) ff rfl fun g11 => ⟨_, _, [0], rfl, (.cons 1 rfl <| .cons 2 rfl <| .cons 3 rfl <| .cons 4 rfl <| .cons 5 rfl <| .cons 13 rfl <| .cons 14 rfl <| .cons 16 rfl <| .cons 18 rfl <| .cons 19 rfl <| .nil), (.cons 0 rfl <| .nil), ?_⟩)
          refine JN_then ?_
          refine J_block ?_
          refine J_loopc (α := Nat) (fun j => j ≤ i) (fun j => i - j) (fun j restR => (19, isv (.int .i64 (j : Int))) :: restR) (fun j restS => restS) (ρc := [(1, _), (2, _), (3, _), (4, _), (5, _), (13, _), (14, _), (16, _), (18, _)]) (σc := [_]) 0 (by omega) (To.pick (fun _ => .sub (t := 19) rfl (sp_eq (by rfl)) <| .cons 1 rfl <| .cons 2 rfl <| .cons 3 rfl <| .cons 4 rfl <| .cons 5 rfl <| .cons 13 rfl <| .cons 14 rfl <| .cons 16 rfl <| .cons 18 rfl <| .nil) (fun _ => .cons 0 rfl <| .nil) (ks := [0]) rfl) (fun j hI => ?_)
          refine J_seq ?_
          refine J_seq (J_reg [] (
              .cons (.no) _ _ (op_move (Lk.t rfl)) <|
              .cons (.no) _ _ (op_move (Lk.t rfl)) <|
              .cons (.no) _ _ (op_cmp (by simp) (Lk.t rfl) (Lk.t rfl) rfl) <|
              .nil) ff rfl fun g12 => ⟨_, _, [0], rfl, (.cons 1 rfl <| .cons 2 rfl <| .cons 3 rfl <| .cons 4 rfl <| .cons 5 rfl <| .cons 13 rfl <| .cons 14 rfl <| .cons 16 rfl <| .cons 18 rfl <| .cons 19 rfl <| .cons 65 rfl <| .nil), (.cons 0 rfl <| .nil), ?_⟩)
          refine JN_then ?_
          refine J_cond (cond_of (Lk.t rfl)) (fun h5 => ?_) (fun h5 => ?_)
          · have h5' := h5
            try simp only [cmpB, Bool.and_eq_true, Bool.or_eq_true, Bool.and_eq_false_iff, Bool.or_eq_false_iff, Bool.not_eq_true', Bool.not_eq_false', Bool.not_eq_true, Bool.not_eq_false, decide_eq_true_eq, decide_eq_false_iff_not, Int.not_lt, Int.not_le, beq_iff_eq, bne_iff_ne, beq_eq_false_iff_ne, bne_eq_false_iff_eq, ne_eq, Decidable.not_not] at h5
            refine J_skip ?_
            refine JN_then ?_
            refine J_seq ?_
            refine J_block ?_
            refine J_seq (J_reg [[], [], [0, 1], [0, 1, 2], [], [], [4, 5], [4, 5, 6], [0, 1, 2, 3, 4, 5, 6, 7]] (
                .cons (.no) _ _ (op_move (Lk.t rfl)) <|
                .cons (.no) _ _ (op_move (Lk.t rfl)) <|
                .cons (.no) _ _ (op_index_m (⟨#[]⟩ : ByteArray) sl37 (Lk.t rfl) (Lk.t rfl) (by omega) (by omega)) <|
                .cons (.no) _ _ (op_load_sc sc9 (Lk.t rfl) rfl) <|
                .cons (.no) _ _ (op_move (Lk.t rfl)) <|
                .cons (.no) _ _ (op_move (Lk.t rfl)) <|
                .cons (.no) _ _ (op_index_m (⟨#[]⟩ : ByteArray) sl37 (Lk.t rfl) (Lk.t rfl) (by omega) (by omega)) <|
                .cons (.no) _ _ (op_load_sc sc9 (Lk.t rfl) rfl) <|
                .cons (.no) _ _ (op_scmp (by simp) (Lk.t rfl) (Lk.t rfl) rfl) <|
                .nil) (fun _ => mixed) rfl fun g13 => ⟨_, _, [0], rfl, (.cons 1 rfl <| .cons 2 rfl <| .cons 3 rfl <| .cons 4 rfl <| .cons 5 rfl <| .cons 13 rfl <| .cons 14 rfl <| .cons 16 rfl <| .cons 18 rfl <| .cons 19 rfl <| .cons 76 rfl <| .nil), (.cons 0 rfl <| .nil), ?_⟩)
            refine JN_then ?_
            refine J_cond (cond_of (Lk.t rfl)) (fun h6 => ?_) (fun h6 => ?_)
            · have h6' := h6
              try simp only [cmpB, Bool.and_eq_true, Bool.or_eq_true, Bool.and_eq_false_iff, Bool.or_eq_false_iff, Bool.not_eq_true', Bool.not_eq_false', Bool.not_eq_true, Bool.not_eq_false, decide_eq_true_eq, decide_eq_false_iff_not, Int.not_lt, Int.not_le, beq_iff_eq, bne_iff_ne, beq_eq_false_iff_ne, bne_eq_false_iff_eq, ne_eq, Decidable.not_not] at h6
              exact absurd h6' (names_ne hme (by omega) (by omega) (by omega))
            · have h6' := h6
              try simp only [cmpB, Bool.and_eq_true, Bool.or_eq_true, Bool.and_eq_false_iff, Bool.or_eq_false_iff, Bool.not_eq_true', Bool.not_eq_false', Bool.not_eq_true, Bool.not_eq_false, decide_eq_true_eq, decide_eq_false_iff_not, Int.not_lt, Int.not_le, beq_iff_eq, bne_iff_ne, beq_eq_false_iff_ne, bne_eq_false_iff_eq, ne_eq, Decidable.not_not] at h6
              refine J_skip ?_
              refine JN_block ?_
              refine JN_then ?_
              refine (J_reg [] (
                  .cons (.no) _ _ (op_move (Lk.t rfl)) <|
                  .cons (.no) _ _ (op_add (Lk.t rfl) (Lk.k rfl) (wrap_id (by omega) (by omega))) <|
                  .cons (.no) _ _ (op_assign (Lk.t rfl)) <|
                  .nil) ff rfl fun g14 => ⟨_, _, [0], rfl, (.cons 1 rfl <| .cons 2 rfl <| .cons 3 rfl <| .cons 4 rfl <| .cons 5 rfl <| .cons 13 rfl <| .cons 14 rfl <| .cons 16 rfl <| .cons 18 rfl <| .cons 19 rfl <| .nil), (.cons 0 rfl <| .nil), ?_⟩)
              exact JN_again (j + 1) (by omega) (by omega) (To.pick (fun _ => .sub (t := 19) rfl (sp_eq (by rfl)) <| .cons 1 rfl <| .cons 2 rfl <| .cons 3 rfl <| .cons 4 rfl <| .cons 5 rfl <| .cons 13 rfl <| .cons 14 rfl <| .cons 16 rfl <| .cons 18 rfl <| .nil) (fun _ => .cons 0 rfl <| .nil) (ks := [0]) rfl)
          · have h5' := h5
            try simp only [cmpB, Bool.and_eq_true, Bool.or_eq_true, Bool.and_eq_false_iff, Bool.or_eq_false_iff, Bool.not_eq_true', Bool.not_eq_false', Bool.not_eq_true, Bool.not_eq_false, decide_eq_true_eq, decide_eq_false_iff_not, Int.not_lt, Int.not_le, beq_iff_eq, bne_iff_ne, beq_eq_false_iff_ne, bne_eq_false_iff_eq, ne_eq, Decidable.not_not] at h5
            refine J_exit ?_
            refine JN_then_exit ?_
            refine JN_then_exit ?_
            refine JN_exit_here ?_
            refine JN_block ?_
            refine JN_then ?_
            refine (J_reg [] (
                .cons (.no) _ _ (op_move (Lk.t rfl)) <|
                .cons (.no) _ _ (op_add (Lk.t rfl) (Lk.k rfl) (wrap_id (by omega) (by omega))) <|
                .cons (.no) _ _ (op_assign (Lk.t rfl)) <|
                .nil) ff rfl fun g15 => ⟨_, _, [0], rfl, (.cons 1 rfl <| .cons 2 rfl <| .cons 3 rfl <| .cons 4 rfl <| .cons 5 rfl <| .cons 13 rfl <| .cons 14 rfl <| .cons 16 rfl <| .cons 18 rfl <| .nil), (.cons 0 rfl <| .nil), ?_⟩)
            exact JN_again (i + 1) (by omega) (by omega) (To.pick (fun _ => .sub (t := 18) rfl (sp_eq (by rfl)) <| .cons 1 rfl <| .cons 2 rfl <| .cons 3 rfl <| .cons 4 rfl <| .cons 5 rfl <| .cons 13 rfl <| .cons 14 rfl <| .cons 16 rfl <| .nil) (fun _ => .cons 0 rfl <| .nil) (ks := [0]) rfl)
        · have h4' := h4
          try simp only [cmpB, Bool.and_eq_true, Bool.or_eq_true, Bool.and_eq_false_iff, Bool.or_eq_false_iff, Bool.not_eq_true', Bool.not_eq_false', Bool.not_eq_true, Bool.not_eq_false, decide_eq_true_eq, decide_eq_false_iff_not, Int.not_lt, Int.not_le, beq_iff_eq, bne_iff_ne, beq_eq_false_iff_ne, bne_eq_false_iff_eq, ne_eq, Decidable.not_not] at h4
          refine J_exit ?_
          refine JN_then_exit ?_
          refine JN_then_exit ?_
          refine JN_exit_here ?_
          refine JN_then ?_
          refine J_seq ?_
          refine J_seq (J_reg [] (
              .cons (.rd 0) _ _ (op_get_ag 0 ag27 (Lk.t rfl) rfl mem_blk rfl rfl) <|
              .cons (.no) _ _ (op_move (Lk.t rfl)) <|
              .cons (.no) _ _ (op_move (Lk.t rfl)) <|
              .cons (.no) _ _ (op_move (Lk.t rfl)) <|
              .cons (.no) _ _ (op_call (mplace_ok) ⟨(Lk.t rfl), (Lk.t rfl), (Lk.t rfl), (Lk.t rfl),  trivial⟩) <|
              .cons (.no) _ _ (op_move (Lk.t rfl)) <|
              .cons (.no) _ _ (op_extract (Lk.t rfl) rfl) <|
              .cons (.no) _ _ (op_extract (Lk.t rfl) rfl) <|
              .cons (.no) _ _ (op_assign (Lk.t rfl)) <|
              .cons (.no) _ _ (op_assign (Lk.t rfl)) <|
              .nil) ff rfl fun g16 => ⟨_, _, [0], rfl, (.cons 1 rfl <| .cons 2 rfl <| .cons 5 rfl <| .cons 13 rfl <| .cons 14 rfl <| .cons 16 rfl <| .cons 20 rfl <| .cons 21 rfl <| .nil), (.cons 0 rfl <| .nil), ?_⟩)
          refine JN_then ?_
          refine J_seq (J_reg [[], [0], [0, 1], [0, 1, 2], [0, 1, 2, 3], [0, 1, 2, 3, 4], [0, 1, 2, 3, 4, 5], [0, 1, 2, 3, 4, 5], [0, 1, 2, 3, 4, 5, 6, 7], [0, 1, 2, 3, 4, 5, 6, 7, 8], [0, 1, 2, 3, 4, 5, 6, 7, 8, 9], [0, 1, 2, 3, 4, 5, 6, 7, 8, 9, 10], [0, 1, 2, 3, 4, 5, 6, 7, 8, 9, 10, 11], [0, 1, 2, 3, 4, 5, 6, 7, 8, 9, 10, 11, 12], [0, 1, 2, 3, 4, 5, 6, 7, 8, 9, 10, 11, 12, 13], [0, 1, 2, 3, 4, 5, 6, 7, 8, 9, 10, 11, 12, 13, 14], [0, 1, 2, 3, 4, 5, 6, 7, 8, 9, 10, 11, 12, 13, 14, 15], [0, 1, 2, 3, 4, 5, 6, 7, 8, 9, 10, 11, 12, 13, 14, 15, 16], [0, 1, 2, 3, 4, 5, 6, 7, 8, 9, 10, 11, 12, 13, 14, 15, 16, 17], [0, 1, 2, 3, 4, 5, 6, 7, 8, 9, 10, 11, 12, 13, 14, 15, 16, 17, 18], [0, 1, 2, 3, 4, 5, 6, 7, 8, 9, 10, 11, 12, 13, 14, 15, 16, 17, 18], [0, 1, 2, 3, 4, 5, 6, 7, 8, 9, 10, 11, 12, 13, 14, 15, 16, 17, 18, 19, 20], [0, 1, 2, 3, 4, 5, 6, 7, 8, 9, 10, 11, 12, 13, 14, 15, 16, 17, 18, 19, 20, 21], [0, 1, 2, 3, 4, 5, 6, 7, 8, 9, 10, 11, 12, 13, 14, 15, 16, 17, 18, 19, 20, 21, 22], [0, 1, 2, 3, 4, 5, 6, 7, 8, 9, 10, 11, 12, 13, 14, 15, 16, 17, 18, 19, 20, 21, 22, 23], [0, 1, 2, 3, 4, 5, 6, 7, 8, 9, 10, 11, 12, 13, 14, 15, 16, 17, 18, 19, 20, 21, 22, 23, 24], [0, 1, 2, 3, 4, 5, 6, 7, 8, 9, 10, 11, 12, 13, 14, 15, 16, 17, 18, 19, 20, 21, 22, 23, 24, 25], [0, 1, 2, 3, 4, 5, 6, 7, 8, 9, 10, 11, 12, 13, 14, 15, 16, 17, 18, 19, 20, 21, 22, 23, 24, 25, 26], [0, 1, 2, 3, 4, 5, 6, 7, 8, 9, 10, 11, 12, 13, 14, 15, 16, 17, 18, 19, 20, 21, 22, 23, 24, 25, 26], [0, 1, 2, 3, 4, 5, 6, 7, 8, 9, 10, 11, 12, 13, 14, 15, 16, 17, 18, 19, 20, 21, 22, 23, 24, 25, 26, 27, 28], [0, 1, 2, 3, 4, 5, 6, 7, 8, 9, 10, 11, 12, 13, 14, 15, 16, 17, 18, 19, 20, 21, 22, 23, 24, 25, 26, 27, 28, 29], [0, 1, 2, 3, 4, 5, 6, 7, 8, 9, 10, 11, 12, 13, 14, 15, 16, 17, 18, 19, 20, 21, 22, 23, 24, 25, 26, 27, 28, 29, 30], [0, 1, 2, 3, 4, 5, 6, 7, 8, 9, 10, 11, 12, 13, 14, 15, 16, 17, 18, 19, 20, 21, 22, 23, 24, 25, 26], [0, 1, 2, 3, 4, 5, 6, 7, 8, 9, 10, 11, 12, 13, 14, 15, 16, 17, 18, 19, 20, 21, 22, 23, 24, 25, 26, 32], [0, 1, 2, 3, 4, 5, 6, 7, 8, 9, 10, 11, 12, 13, 14, 15, 16, 17, 18, 19, 20, 21, 22, 23, 24, 25, 26, 27, 28, 29, 30, 31, 32, 33], [0, 1, 2, 3, 4, 5, 6, 7, 8, 9, 10, 11, 12, 13, 14, 15, 16, 17, 18, 19, 20, 21, 22, 23, 24, 25, 26, 27, 28, 29, 30, 31, 32, 33, 34], [0, 1, 2, 3, 4, 5, 6, 7, 8, 9, 10, 11, 12, 13, 14, 15, 16, 17, 18, 19, 20, 21, 22, 23, 24, 25, 26, 27, 28, 29, 30, 31, 32, 33, 34, 35]] (
              .cons (.no) _ _ (op_move (Lk.t rfl)) <|
              .cons (.no) _ _ (op_cmp (by simp) (Lk.t rfl) (Lk.k rfl) rfl) <|
              .cons (.no) _ _ (op_move (Lk.t rfl)) <|
              .cons (.no) _ _ (op_guard rfl rfl (gd_b rfl) (fun hC => (op_move (Lk.t rfl)))) <|
              .cons (.no) _ _ (op_guard rfl rfl (gd_b rfl) (fun hC => (op_cmp (by simp) (Lk.w rfl hC) (Lk.k rfl) rfl))) <|
              .cons (.no) _ _ (op_guard rfl rfl (gd_b rfl) (fun hC => (op_move (Lk.w rfl hC)))) <|
              .cons (.no) _ _ (op_guard rfl rfl (gd_w rfl) (fun hC => (op_move (Lk.t rfl)))) <|
              .cons (.no) _ _ (op_guard rfl rfl (gd_w rfl) (fun hC => (op_move (Lk.t rfl)))) <|
              .cons (.no) _ _ (op_guard rfl rfl (gd_w rfl) (fun hC => (op_cmp (by simp) (Lk.w rfl hC) (Lk.w rfl hC) rfl))) <|
              .cons (.no) _ _ (op_guard rfl rfl (gd_b rfl) (fun hC => (op_or (Lk.w rfl hC) (fun h2 => (Lk.w rfl ⟨hC, h2⟩))))) <|
              .cons (.no) _ _ (op_guard rfl rfl (gd_b rfl) (fun hC => (op_move (Lk.w rfl hC)))) <|
              .cons (.no) _ _ (op_guard rfl rfl (gd_w rfl) (fun hC => (op_move (Lk.t rfl)))) <|
              .cons (.no) _ _ (op_guard rfl rfl (gd_w rfl) (fun hC => (op_cmp (by simp) (Lk.w rfl hC) (Lk.k rfl) rfl))) <|
              .cons (.no) _ _ (op_guard rfl rfl (gd_b rfl) (fun hC => (op_or (Lk.w rfl hC) (fun h2 => (Lk.w rfl ⟨hC, h2⟩))))) <|
              .cons (.no) _ _ (op_guard rfl rfl (gd_b rfl) (fun hC => (op_move (Lk.w rfl hC)))) <|
              .cons (.no) _ _ (op_guard rfl rfl (gd_w rfl) (fun hC => (op_move (Lk.t rfl)))) <|
              .cons (.no) _ _ (op_guard rfl rfl (gd_w rfl) (fun hC => (op_cmp (by simp) (Lk.w rfl hC) (Lk.k rfl) rfl))) <|
              .cons (.no) _ _ (op_guard rfl rfl (gd_b rfl) (fun hC => (op_or (Lk.w rfl hC) (fun h2 => (Lk.w rfl ⟨hC, h2⟩))))) <|
              .cons (.no) _ _ (op_guard rfl rfl (gd_b rfl) (fun hC => (op_move (Lk.w rfl hC)))) <|
              .cons (.no) _ _ (op_guard rfl rfl (gd_w rfl) (fun hC => (op_move (Lk.t rfl)))) <|
              .cons (.no) _ _ (op_guard rfl rfl (gd_w rfl) (fun hC => (op_move (Lk.t rfl)))) <|
              .cons (.no) _ _ (op_guard rfl rfl (gd_w rfl) (fun hC => (op_index_m (⟨#[]⟩ : ByteArray) sl37 (Lk.w rfl hC) (Lk.w rfl hC) (by simp only [cmpB, Bool.or_eq_false_iff, Bool.and_eq_true, decide_eq_false_iff_not, decide_eq_true_eq, beq_iff_eq, beq_eq_false_iff_ne, bne_eq_false_iff_eq, ne_eq] at hC; omega) (by simp only [cmpB, Bool.or_eq_false_iff, Bool.and_eq_true, decide_eq_false_iff_not, decide_eq_true_eq, beq_iff_eq, beq_eq_false_iff_ne, bne_eq_false_iff_eq, ne_eq] at hC; omega)))) <|
              .cons (.no) _ _ (op_guard rfl rfl (gd_w rfl) (fun hC => (op_load_sc sc9 (Lk.w rfl hC) rfl))) <|
              .cons (.no) _ _ (op_guard rfl rfl (gd_w rfl) (fun hC => (op_slen Tryd.underlying9 (Lk.w rfl hC)))) <|
              .cons (.no) _ _ (op_guard rfl rfl (gd_w rfl) (fun hC => (op_cmp (by simp) (Lk.w rfl hC) (Lk.k rfl) rfl))) <|
              .cons (.no) _ _ (op_guard rfl rfl (gd_b rfl) (fun hC => (op_or (Lk.w rfl hC) (fun h2 => (Lk.w rfl ⟨hC, h2⟩))))) <|
              .cons (.no) _ _ (op_guard rfl rfl (gd_b rfl) (fun hC => (op_move (Lk.w rfl hC)))) <|
              .cons (.no) _ _ (op_guard rfl rfl (gd_w rfl) (fun hC => (op_move (Lk.t rfl)))) <|
              .cons (.no) _ _ (op_guard rfl rfl (gd_w rfl) (fun hC => (op_move (Lk.t rfl)))) <|
              .cons (.no) _ _ (op_guard rfl rfl (gd_w rfl) (fun hC => (op_index_m (⟨#[]⟩ : ByteArray) sl37 (Lk.w rfl hC) (Lk.w rfl hC) (by simp only [cmpB, Bool.or_eq_false_iff, Bool.and_eq_true, decide_eq_false_iff_not, decide_eq_true_eq, beq_iff_eq, beq_eq_false_iff_ne, bne_eq_false_iff_eq, ne_eq] at hC; omega) (by simp only [cmpB, Bool.or_eq_false_iff, Bool.and_eq_true, decide_eq_false_iff_not, decide_eq_true_eq, beq_iff_eq, beq_eq_false_iff_ne, bne_eq_false_iff_eq, ne_eq] at hC; omega)))) <|
              .cons (.no) _ _ (op_guard rfl rfl (gd_w rfl) (fun hC => (op_load_sc sc9 (Lk.w rfl hC) rfl))) <|
              .cons (.no) _ _ (op_guard rfl rfl (gd_w rfl) (fun hC => (op_sindex Tryd.underlying9 (Lk.w rfl hC) (Lk.k rfl) (by omega) (bAt_get (by simp only [cmpB, Bool.or_eq_false_iff, Bool.and_eq_true, decide_eq_false_iff_not, decide_eq_true_eq, beq_iff_eq, beq_eq_false_iff_ne, bne_eq_false_iff_eq, ne_eq] at hC; omega))))) <|
              .cons (.no) _ _ (op_guard rfl rfl (gd_w rfl) (fun hC => (op_move (Lk.t rfl)))) <|
              .cons (.no) _ _ (op_guard rfl rfl (gd_w rfl) (fun hC => (op_sindex Tryd.underlying9 (Lk.k rfl) (Lk.w rfl hC) (by simp only [cmpB, Bool.or_eq_false_iff, Bool.and_eq_true, decide_eq_false_iff_not, decide_eq_true_eq, beq_iff_eq, beq_eq_false_iff_ne, bne_eq_false_iff_eq, ne_eq] at hC; omega) (bAt_get (by simp only [cmpB, Bool.or_eq_false_iff, Bool.and_eq_true, decide_eq_false_iff_not, decide_eq_true_eq, beq_iff_eq, beq_eq_false_iff_ne, bne_eq_false_iff_eq, ne_eq] at hC; show o.toNat < pvaS.size; rw [pva_3]; omega))))) <|
              .cons (.no) _ _ (op_guard rfl rfl (gd_w rfl) (fun hC => (op_cmp (by simp) (Lk.w rfl hC) (Lk.w rfl hC) rfl))) <|
              .cons (.no) _ _ (op_guard rfl rfl (gd_b rfl) (fun hC => (op_or (Lk.w rfl hC) (fun h2 => (Lk.w rfl ⟨hC, h2⟩))))) <|
              .cons (.no) _ _ (op_and (Lk.t rfl) (fun h2 => (Lk.w rfl h2))) <|
              .nil) (fun _ => mixed) rfl fun g17 => ⟨_, _, [0], rfl, (.cons 1 rfl <| .cons 2 rfl <| .cons 13 rfl <| .cons 16 rfl <| .cons 121 rfl <| .nil), (.cons 0 rfl <| .nil), ?_⟩)
          refine JN_then ?_
          refine J_cond (cond_of (Lk.t rfl)) (fun h7 => ?_) (fun h7 => ?_)
          · have h7' := h7
            try simp only [cmpB, Bool.and_eq_true, Bool.or_eq_true, Bool.and_eq_false_iff, Bool.or_eq_false_iff, Bool.not_eq_true', Bool.not_eq_false', Bool.not_eq_true, Bool.not_eq_false, decide_eq_true_eq, decide_eq_false_iff_not, Int.not_lt, Int.not_le, beq_iff_eq, bne_iff_ne, beq_eq_false_iff_ne, bne_eq_false_iff_eq, ne_eq, Decidable.not_not] at h7
            exact absurd h7' (named_7 hme hn)
          · have h7' := h7
            try simp only [cmpB, Bool.and_eq_true, Bool.or_eq_true, Bool.and_eq_false_iff, Bool.or_eq_false_iff, Bool.not_eq_true', Bool.not_eq_false', Bool.not_eq_true, Bool.not_eq_false, decide_eq_true_eq, decide_eq_false_iff_not, Int.not_lt, Int.not_le, beq_iff_eq, bne_iff_ne, beq_eq_false_iff_ne, bne_eq_false_iff_eq, ne_eq, Decidable.not_not] at h7
            refine J_skip ?_
            refine JN_then ?_
            refine J_seq (J_reg [] (
                .cons (.no) _ _ (op_move (Lk.t rfl)) <|
                .cons (.no) _ _ (op_call (of64_ok hx.1 hx.2) ⟨(Lk.t rfl),  trivial⟩) <|
                .cons (.no) _ _ (op_assign (Lk.t rfl)) <|
                .nil) ff rfl fun g18 => ⟨_, _, [0], rfl, (.cons 1 rfl <| .cons 13 rfl <| .cons 16 rfl <| .cons 22 rfl <| .nil), (.cons 0 rfl <| .nil), ?_⟩)
            refine JN_then ?_
            refine J_to (To.emps 2) ?_
            refine J_seq (J_reg [[], [], [], [1, 2], [0, 1, 2, 3], [0, 1, 2, 3, 4], [0, 1, 2, 3, 4, 5], [0, 1, 2, 3, 4, 5], [], [0, 1, 2, 3, 4, 5, 6, 8], [0, 1, 2, 3, 4, 5, 6, 7, 8, 9]] (
                .cons (.rd 0) _ _ (op_get_ag 0 ag27 (Lk.t rfl) rfl mem_blk rfl rfl) <|
                .cons (.no) _ _ (op_build0L sl43) <|
                .cons (.no) _ _ (op_move (Lk.t rfl)) <|
                .cons (.no) _ _ (op_append_e0 sl43 zr3 rfl (Lk.t rfl) (Lk.t rfl) (by omega) (by omega)) <|
                .cons (.no) _ _ (op_call (mpick_ok) ⟨(Lk.t rfl), (Lk.t rfl),  trivial⟩) <|
                .cons (.no) _ _ (op_move (Lk.t rfl)) <|
                .cons (.no) _ _ (op_extract (Lk.t rfl) rfl) <|
                .cons (.no) _ _ (op_extract (Lk.t rfl) rfl) <|
                .cons (.wr 1) _ _ (op_alloc 1 zr48 rfl rfl) <|
                .cons (.wr 1) _ _ (op_store_new 1 rfl (Lk.t rfl) co_agg sz48 rfl rfl) <|
                .cons (.no) _ _ (op_assign (Lk.t rfl)) <|
                .nil) (fun _ => mixed) rfl fun g19 => ⟨_, _, [1], rfl, (.cons 1 rfl <| .cons 16 rfl <| .cons 22 rfl <| .cons 23 rfl <| .cons 24 rfl <| .nil), (.cons 1 rfl <| .nil), ?_⟩)
            refine JN_then ?_
            refine J_seq ?_
            refine J_seq (J_reg [] (
                .cons (.no) _ _ (op_move (Lk.t rfl)) <|
                .cons (.no) _ _ (op_cmp (by simp) (Lk.t rfl) (Lk.k rfl) rfl) <|
                .cons (.no) _ _ (op_move (Lk.t rfl)) <|
                .cons (.no) _ _ (op_guard rfl rfl (gd_b rfl) (fun hC => (op_move (Lk.t rfl)))) <|
                .cons (.no) _ _ (op_guard rfl rfl (gd_b rfl) (fun hC => (op_len_m sl45 (Lk.w rfl hC)))) <|
                .cons (.no) _ _ (op_guard rfl rfl (gd_b rfl) (fun hC => (op_move (Lk.t rfl)))) <|
                .cons (.no) _ _ (op_guard rfl rfl (gd_b rfl) (fun hC => (op_cmp (by simp) (Lk.w rfl hC) (Lk.w rfl hC) rfl))) <|
                .cons (.no) _ _ (op_or (Lk.t rfl) (fun h2 => (Lk.w rfl h2))) <|
                .cons (.no) _ _ (op_move (Lk.t rfl)) <|
                .cons (.no) _ _ (op_guard rfl rfl (gd_b rfl) (fun hC => (op_move (Lk.t rfl)))) <|
                .cons (.no) _ _ (op_guard rfl rfl (gd_b rfl) (fun hC => (op_call (rall_ok) ⟨(Lk.w rfl hC),  trivial⟩))) <|
                .cons (.no) _ _ (op_guard rfl rfl (gd_b rfl) (fun hC => (op_not (Lk.w rfl hC)))) <|
                .cons (.no) _ _ (op_or (Lk.t rfl) (fun h2 => (Lk.w rfl h2))) <|
                .nil) ff rfl fun g20 => ⟨_, _, [0], rfl, (.cons 1 rfl <| .cons 22 rfl <| .cons 23 rfl <| .cons 144 rfl <| .nil), (.cons 0 rfl <| .nil), ?_⟩)
            refine JN_then ?_
            refine J_cond (cond_of (Lk.t rfl)) (fun h8 => ?_) (fun h8 => ?_)
            · have h8' := h8
              try simp only [cmpB, Bool.and_eq_true, Bool.or_eq_true, Bool.and_eq_false_iff, Bool.or_eq_false_iff, Bool.not_eq_true', Bool.not_eq_false', Bool.not_eq_true, Bool.not_eq_false, decide_eq_true_eq, decide_eq_false_iff_not, Int.not_lt, Int.not_le, beq_iff_eq, bne_iff_ne, beq_eq_false_iff_ne, bne_eq_false_iff_eq, ne_eq, Decidable.not_not] at h8
              refine J_seq (J_reg [] (
                  .cons (.no) _ _ (op_assign (Lk.k rfl)) <|
                  .nil) ff rfl fun g21 => ⟨_, _, [], rfl, (.cons 12 rfl <| .nil), (.nil), ?_⟩)
              refine JN_then ?_
              refine J_ret ?_
              refine JN_then_ret ?_
              refine JN_ret (.cons (.tmp (Lk.t rfl)) <| .nil) (sb_trans (sb_res1 sb_refl) ?_)
              exact sb_refl
            · have h8' := h8
              try simp only [cmpB, Bool.and_eq_true, Bool.or_eq_true, Bool.and_eq_false_iff, Bool.or_eq_false_iff, Bool.not_eq_true', Bool.not_eq_false', Bool.not_eq_true, Bool.not_eq_false, decide_eq_true_eq, decide_eq_false_iff_not, Int.not_lt, Int.not_le, beq_iff_eq, bne_iff_ne, beq_eq_false_iff_ne, bne_eq_false_iff_eq, ne_eq, Decidable.not_not] at h8
              have hpe : (pickM (ls.map pcn) es).e = 0 := h8.1.1
              have hvl : (((xs.map cn)).length : Int) = n := h8.1.2
              have hvf : ((xs.map cn)).all finB = true := h8.2
              have hvw := words_cn hx.1
              obtain ⟨q1, q2, q3, q4⟩ := pick_ok hme hpe
              have hseen := named_sees hme hn hpe hvl hvf hvw
              rw [hn] at q3 q4
              rw [q4]
              refine J_skip ?_
              refine JN_then ?_
              refine J_to (To.freeze 0 (fun _ h => h) rfl frz_blk rfl) ?_
              refine J_seq (J_reg [] (
                  .cons (.no) _ _ (op_assign (Lk.k rfl)) <|
                  .nil) ff rfl fun g22 => ⟨_, _, [], rfl, (.cons 1 rfl <| .cons 22 rfl <| .cons 23 rfl <| .cons 25 rfl <| .nil), (.nil), ?_⟩)
              refine JN_then ?_
              refine J_seq ?_
              refine J_seq (J_reg [] (
                  .cons (.no) _ _ (op_assign (Lk.k rfl)) <|
                  .nil) ff rfl fun g23 => ⟨_, _, [], rfl, (.cons 1 rfl <| .cons 22 rfl <| .cons 23 rfl <| .cons 25 rfl <| .cons 26 rfl <| .nil), (.nil), ?_⟩)
              refine JN_then ?_
              refine J_block ?_
              refine J_to (To.emps 2) ?_
              refine J_loopc (α := Nat × Value) (fun x => x.1 ≤ es.length) (fun x => es.length - x.1) (fun x restR => (26, isv (.int .i64 (x.1 : Int))) :: (25, isv x.2) :: restR) (fun x restS => som x.2 flp (List.replicate x.1 ONE) 52 :: restS) (ρc := [(1, _), (22, _), (23, _)]) (σc := []) (0, .slice none 0 0) (by exact Nat.zero_le _) (To.pick (fun _ => .sub (t := 26) rfl (sp_eq (by rfl)) <| .sub (t := 25) rfl (sp_eq (by rfl)) <| .cons 1 rfl <| .cons 22 rfl <| .cons 23 rfl <| .nil) (fun _ => .sub 1 rfl (som_nil) <| .nil) (ks := [1]) rfl) (fun x hI => ?_)
              obtain ⟨k, sv⟩ := x
              try simp only at hI
              show J _ _ ((26, isv (.int .i64 (k : Int))) :: (25, isv sv) :: _) (som sv flp (List.replicate k ONE) 52 :: _) _ _
              refine J_seq ?_
              refine J_seq (J_reg [] (
                  .cons (.no) _ _ (op_move (Lk.t rfl)) <|
                  .cons (.no) _ _ (op_move (Lk.t rfl)) <|
                  .cons (.no) _ _ (op_len_m sl43 (Lk.t rfl)) <|
                  .cons (.no) _ _ (op_cmp (by simp) (Lk.t rfl) (Lk.t rfl) rfl) <|
                  .nil) ff rfl fun g24 => ⟨_, _, [0], rfl, (.cons 1 rfl <| .cons 22 rfl <| .cons 23 rfl <| .cons 25 rfl <| .cons 26 rfl <| .cons 148 rfl <| .nil), (.cons 0 rfl <| .nil), ?_⟩)
              refine JN_then ?_
              refine J_cond (cond_of (Lk.t rfl)) (fun h9 => ?_) (fun h9 => ?_)
              · have h9' := h9
                try simp only [cmpB, Bool.and_eq_true, Bool.or_eq_true, Bool.and_eq_false_iff, Bool.or_eq_false_iff, Bool.not_eq_true', Bool.not_eq_false', Bool.not_eq_true, Bool.not_eq_false, decide_eq_true_eq, decide_eq_false_iff_not, Int.not_lt, Int.not_le, beq_iff_eq, bne_iff_ne, beq_eq_false_iff_ne, bne_eq_false_iff_eq, ne_eq, Decidable.not_not] at h9
                refine J_skip ?_
                refine JN_then ?_
                refine J_seq ?_
                refine J_block ?_
                refine (J_reg [] (
                    .cons (.no) _ _ (op_move (Lk.t rfl)) <|
                    .cons (.no) _ _ (op_buildSlice sl45 zr52 rfl rfl rfl rfl (.cons rfl (Lk.fk rfl (by decide +kernel)) co_flp rfl (puts_l rfl (Nat.le_of_ble_eq_true rfl)) .nil)) <|
                    .cons (.wr 0) _ _ (op_append_m 0 sl45 zr52 rfl (Lk.t rfl) (Lk.t rfl) rfl (by rw [List.length_replicate]; omega) (by rw [List.length_replicate]; omega)) <|
                    .cons (.no) _ _ (op_assign_ve rfl rfl) <|
                    .nil) ff rfl fun g25 => ⟨_, _, [0], rfl, (.cons 1 rfl <| .cons 22 rfl <| .cons 23 rfl <| .cons 25 rfl <| .cons 26 rfl <| .nil), (.cons 0 rfl <| .nil), ?_⟩)
                refine JN_block ?_
                refine JN_then ?_
                refine (J_reg [] (
                    .cons (.no) _ _ (op_move (Lk.t rfl)) <|
                    .cons (.no) _ _ (op_add (Lk.t rfl) (Lk.k rfl) (wrap_id (by omega) (by omega))) <|
                    .cons (.no) _ _ (op_assign (Lk.t rfl)) <|
                    .nil) ff rfl fun g26 => ⟨_, _, [0], rfl, (.cons 1 rfl <| .cons 22 rfl <| .cons 23 rfl <| .cons 25 rfl <| .cons 26 rfl <| .nil), (.cons 0 rfl <| .nil), ?_⟩)
                exact JN_again (k + 1, g25 153) (by exact (show k + 1 ≤ es.length by omega)) (by show es.length - (_ + 1) < _; omega) (To.pick (fun _ => .sub (t := 26) rfl (sp_eq (by rfl)) <| .sub (t := 25) rfl (sp_eq (by rfl)) <| .cons 1 rfl <| .cons 22 rfl <| .cons 23 rfl <| .nil) (fun _ => .sub 0 rfl ((res_eq (by rw [rep_snoc]; rfl))) <| .nil) (ks := [0]) rfl)
              · have h9' := h9
                try simp only [cmpB, Bool.and_eq_true, Bool.or_eq_true, Bool.and_eq_false_iff, Bool.or_eq_false_iff, Bool.not_eq_true', Bool.not_eq_false', Bool.not_eq_true, Bool.not_eq_false, decide_eq_true_eq, decide_eq_false_iff_not, Int.not_lt, Int.not_le, beq_iff_eq, bne_iff_ne, beq_eq_false_iff_ne, bne_eq_false_iff_eq, ne_eq, Decidable.not_not] at h9
                obtain rfl : k = es.length := by omega
                refine J_exit ?_
                refine JN_then_exit ?_
                refine JN_then_exit ?_
                refine JN_exit_here ?_
                refine JN_then ?_
                refine J_to (To.freeze 0 (fun _ h => h) rfl frz_som rfl) ?_
                refine J_seq (J_reg [] (
                    .cons (.no) _ _ (op_load_ag ag48 (Lk.sub (sb_ok 1 3 rfl rfl) (Lk.t rfl)) rfl rfl) <|
                    .cons (.no) _ _ (op_move (Lk.t rfl)) <|
                    .cons (.no) _ _ (op_build zr58 rfl pl58 (.cons rfl (Lk.t rfl) co_agg rfl (puts_l rfl (Nat.le_of_ble_eq_true rfl)) (.cons rfl (Lk.t rfl) co_isv rfl (puts_l rfl (Nat.le_of_ble_eq_true rfl)) .nil))) <|
                    .cons (.no) _ _ (op_move (Lk.t rfl)) <|
                    .cons (.no) _ _ (op_call (msx_ok hseen) ⟨(Lk.sub (sb_agg (.cons sb_refl <| .cons sb_refl <| .cons sb_refl <| .cons sb_refl <| .cons (sb_fk 0 rfl) <| .cons sb_refl <| .cons sb_refl <| .cons sb_refl <| .cons sb_fz <| .nil)) (Lk.t rfl)), (Lk.t rfl),  trivial⟩) <|
                    .cons (.no) _ _ (op_move (Lk.t rfl)) <|
                    .cons (.no) _ _ (op_extract (Lk.t rfl) rfl) <|
                    .cons (.no) _ _ (op_extract (Lk.t rfl) rfl) <|
                    .cons (.no) _ _ (op_assign (Lk.t rfl)) <|
                    .cons (.no) _ _ (op_assign (Lk.t rfl)) <|
                    .nil) ff rfl fun g27 => ⟨_, _, [], rfl, (.cons 1 rfl <| .cons 22 rfl <| .cons 24 rfl <| .cons 27 rfl <| .nil), (.nil), ?_⟩)
                refine JN_then ?_
                refine J_seq ?_
                refine J_seq (J_reg [] (
                    .cons (.no) _ _ (op_move (Lk.t rfl)) <|
                    .cons (.no) _ _ (op_cmp (by simp) (Lk.t rfl) (Lk.k rfl) rfl) <|
                    .cons (.no) _ _ (op_move (Lk.t rfl)) <|
                    .cons (.no) _ _ (op_guard rfl rfl (gd_b rfl) (fun hC => (op_move (Lk.t rfl)))) <|
                    .cons (.no) _ _ (op_guard rfl rfl (gd_b rfl) (fun hC => (op_len_m sl45 (Lk.w rfl hC)))) <|
                    .cons (.no) _ _ (op_guard rfl rfl (gd_b rfl) (fun hC => (op_move (Lk.t rfl)))) <|
                    .cons (.no) _ _ (op_guard rfl rfl (gd_b rfl) (fun hC => (op_len_m sl43 (Lk.w rfl hC)))) <|
                    .cons (.no) _ _ (op_guard rfl rfl (gd_b rfl) (fun hC => (op_cmp (by simp) (Lk.w rfl hC) (Lk.w rfl hC) rfl))) <|
                    .cons (.no) _ _ (op_or (Lk.t rfl) (fun h2 => (Lk.w rfl h2))) <|
                    .nil) ff rfl fun g28 => ⟨_, _, [], rfl, (.cons 1 rfl <| .cons 22 rfl <| .cons 27 rfl <| .cons 170 rfl <| .nil), (.nil), ?_⟩)
                refine JN_then ?_
                refine J_cond (cond_of (Lk.t rfl)) (fun h10 => ?_) (fun h10 => ?_)
                · have h10' := h10
                  try simp only [cmpB, Bool.and_eq_true, Bool.or_eq_true, Bool.and_eq_false_iff, Bool.or_eq_false_iff, Bool.not_eq_true', Bool.not_eq_false', Bool.not_eq_true, Bool.not_eq_false, decide_eq_true_eq, decide_eq_false_iff_not, Int.not_lt, Int.not_le, beq_iff_eq, bne_iff_ne, beq_eq_false_iff_ne, bne_eq_false_iff_eq, ne_eq, Decidable.not_not] at h10
                  exact absurd h10' (by rw [seen_len]; simp [cmpB])
                · have h10' := h10
                  try simp only [cmpB, Bool.and_eq_true, Bool.or_eq_true, Bool.and_eq_false_iff, Bool.or_eq_false_iff, Bool.not_eq_true', Bool.not_eq_false', Bool.not_eq_true, Bool.not_eq_false, decide_eq_true_eq, decide_eq_false_iff_not, Int.not_lt, Int.not_le, beq_iff_eq, bne_iff_ne, beq_eq_false_iff_ne, bne_eq_false_iff_eq, ne_eq, Decidable.not_not] at h10
                  have hsl := seen_len (es := es) (v := (xs.map cn))
                  refine J_skip ?_
                  refine JN_then ?_
                  refine J_seq ?_
                  refine J_seq (J_reg [] (
                      .cons (.no) _ _ (op_assign (Lk.k rfl)) <|
                      .nil) ff rfl fun g29 => ⟨_, _, [], rfl, (.cons 1 rfl <| .cons 22 rfl <| .cons 27 rfl <| .cons 28 rfl <| .nil), (.nil), ?_⟩)
                  refine JN_then ?_
                  refine J_block ?_
                  refine J_loopc (α := Nat) (fun k => k ≤ (seenL es (xs.map cn)).length) (fun k => (seenL es (xs.map cn)).length - k) (fun k restR => (28, isv (.int .i64 (k : Int))) :: restR) (fun k restS => restS) (ρc := [(1, _), (22, _), (27, _)]) (σc := []) 0 (by exact Nat.zero_le _) (To.pick (fun _ => .sub (t := 28) rfl (sp_eq (by rfl)) <| .cons 1 rfl <| .cons 22 rfl <| .cons 27 rfl <| .nil) (fun _ => .nil) (ks := []) rfl) (fun k hI => ?_)
                  refine J_seq ?_
                  refine J_seq (J_reg [] (
                      .cons (.no) _ _ (op_move (Lk.t rfl)) <|
                      .cons (.no) _ _ (op_move (Lk.t rfl)) <|
                      .cons (.no) _ _ (op_len_m sl45 (Lk.t rfl)) <|
                      .cons (.no) _ _ (op_cmp (by simp) (Lk.t rfl) (Lk.t rfl) rfl) <|
                      .nil) ff rfl fun g30 => ⟨_, _, [], rfl, (.cons 1 rfl <| .cons 22 rfl <| .cons 27 rfl <| .cons 28 rfl <| .cons 174 rfl <| .nil), (.nil), ?_⟩)
                  refine JN_then ?_
                  refine J_cond (cond_of (Lk.t rfl)) (fun h11 => ?_) (fun h11 => ?_)
                  · have h11' := h11
                    try simp only [cmpB, Bool.and_eq_true, Bool.or_eq_true, Bool.and_eq_false_iff, Bool.or_eq_false_iff, Bool.not_eq_true', Bool.not_eq_false', Bool.not_eq_true, Bool.not_eq_false, decide_eq_true_eq, decide_eq_false_iff_not, Int.not_lt, Int.not_le, beq_iff_eq, bne_iff_ne, beq_eq_false_iff_ne, bne_eq_false_iff_eq, ne_eq, Decidable.not_not] at h11
                    have hk3 : 0 ≤ es.getD ((k : Nat) : Int).toNat 0 ∧ es.getD ((k : Nat) : Int).toNat 0 < n := q3 k (by omega)
                    have hnn : nanB (fadd ((xs.map cn).getD (es.getD ((k : Nat) : Int).toNat 0).toNat 0) 0) = false := seen_nan q3 hvl hvf hvw (k := k) (by omega)
                    have hsa : (seenL es (xs.map cn)).getD ((k : Nat) : Int).toNat 0 = fadd ((xs.map cn).getD (es.getD ((k : Nat) : Int).toNat 0).toNat 0) 0 := seen_at (k := k) (by omega)
                    refine J_skip ?_
                    refine JN_then ?_
                    refine J_seq ?_
                    refine J_block ?_
                    refine J_seq (J_reg [[], [], [0, 1], [0, 1, 2], [0, 1, 2, 3], [], [], [], [6, 7], [6, 7, 8], [5, 6, 7, 8, 9], [5, 6, 7, 8, 9, 10], [5, 6, 7, 8, 9, 10, 11], [0, 1, 2, 3, 4, 5, 6, 7, 8, 9, 10, 11, 12], [0, 1, 2, 3, 4, 5, 6, 7, 8, 9, 10, 11, 12, 13]] (
                        .cons (.no) _ _ (op_move (Lk.t rfl)) <|
                        .cons (.no) _ _ (op_move (Lk.t rfl)) <|
                        .cons (.no) _ _ (op_index_m 0 sl45 (Lk.t rfl) (Lk.t rfl) (by omega) (by omega)) <|
                        .cons (.no) _ _ (op_load_sc sc52 (Lk.t rfl) rfl) <|
                        .cons (.no) _ _ (op_f64bitsn bitsX (by rw [hsa]; exact hnn) (Lk.t rfl)) <|
                        .cons (.no) _ _ (op_move (Lk.t rfl)) <|
                        .cons (.no) _ _ (op_move (Lk.t rfl)) <|
                        .cons (.no) _ _ (op_move (Lk.t rfl)) <|
                        .cons (.no) _ _ (op_index_m 0 sl43 (Lk.t rfl) (Lk.t rfl) (by omega) (by omega)) <|
                        .cons (.no) _ _ (op_load_sc sc3 (Lk.t rfl) rfl) <|
                        .cons (.no) _ _ (op_index_m 0 sl45 (Lk.t rfl) (Lk.t rfl) (by omega) (by omega)) <|
                        .cons (.no) _ _ (op_load_sc sc52 (Lk.t rfl) rfl) <|
                        .cons (.no) _ _ (op_float (by simp) (Lk.t rfl) (Lk.fk rfl (by decide +kernel)) rfl) <|
                        .cons (.no) _ _ (op_f64bitsn bitsX hnn (Lk.t rfl)) <|
                        .cons (.no) _ _ (op_cmp (by simp) (Lk.t rfl) (Lk.t rfl) rfl) <|
                        .nil) (fun _ => mixed) rfl fun g31 => ⟨_, _, [], rfl, (.cons 1 rfl <| .cons 22 rfl <| .cons 27 rfl <| .cons 28 rfl <| .cons 191 rfl <| .nil), (.nil), ?_⟩)
                    refine JN_then ?_
                    refine J_cond (cond_of (Lk.t rfl)) (fun h12 => ?_) (fun h12 => ?_)
                    · have h12' := h12
                      try simp only [cmpB, Bool.and_eq_true, Bool.or_eq_true, Bool.and_eq_false_iff, Bool.or_eq_false_iff, Bool.not_eq_true', Bool.not_eq_false', Bool.not_eq_true, Bool.not_eq_false, decide_eq_true_eq, decide_eq_false_iff_not, Int.not_lt, Int.not_le, beq_iff_eq, bne_iff_ne, beq_eq_false_iff_ne, bne_eq_false_iff_eq, ne_eq, Decidable.not_not] at h12
                      exact absurd h12' (by rw [seen_at (by omega)]; simp [cmpB])
                    · have h12' := h12
                      try simp only [cmpB, Bool.and_eq_true, Bool.or_eq_true, Bool.and_eq_false_iff, Bool.or_eq_false_iff, Bool.not_eq_true', Bool.not_eq_false', Bool.not_eq_true, Bool.not_eq_false, decide_eq_true_eq, decide_eq_false_iff_not, Int.not_lt, Int.not_le, beq_iff_eq, bne_iff_ne, beq_eq_false_iff_ne, bne_eq_false_iff_eq, ne_eq, Decidable.not_not] at h12
                      refine J_skip ?_
                      refine JN_block ?_
                      refine JN_then ?_
                      refine (J_reg [] (
                          .cons (.no) _ _ (op_move (Lk.t rfl)) <|
                          .cons (.no) _ _ (op_add (Lk.t rfl) (Lk.k rfl) (wrap_id (by omega) (by omega))) <|
                          .cons (.no) _ _ (op_assign (Lk.t rfl)) <|
                          .nil) ff rfl fun g32 => ⟨_, _, [], rfl, (.cons 1 rfl <| .cons 22 rfl <| .cons 27 rfl <| .cons 28 rfl <| .nil), (.nil), ?_⟩)
                      exact JN_again (k + 1) (by omega) (by omega) (To.pick (fun _ => .sub (t := 28) rfl (sp_eq (by rfl)) <| .cons 1 rfl <| .cons 22 rfl <| .cons 27 rfl <| .nil) (fun _ => .nil) (ks := []) rfl)
                  · have h11' := h11
                    try simp only [cmpB, Bool.and_eq_true, Bool.or_eq_true, Bool.and_eq_false_iff, Bool.or_eq_false_iff, Bool.not_eq_true', Bool.not_eq_false', Bool.not_eq_true, Bool.not_eq_false, decide_eq_true_eq, decide_eq_false_iff_not, Int.not_lt, Int.not_le, beq_iff_eq, bne_iff_ne, beq_eq_false_iff_ne, bne_eq_false_iff_eq, ne_eq, Decidable.not_not] at h11
                    refine J_exit ?_
                    refine JN_then_exit ?_
                    refine JN_then_exit ?_
                    refine JN_exit_here ?_
                    refine JN_then ?_
                    refine J_seq (J_reg [] (
                        .cons (.no) _ _ (op_assign (Lk.k rfl)) <|
                        .nil) ff rfl fun g33 => ⟨_, _, [], rfl, (.cons 12 rfl <| .nil), (.nil), ?_⟩)
                    refine JN_then ?_
                    refine J_ret ?_
                    refine JN_ret (.cons (.tmp (Lk.t rfl)) <| .nil) (sb_trans (sb_res1 sb_refl) ?_)
                    exact sb_refl
end Go.Proofs.YtcnffgbncbadbaaDoor
