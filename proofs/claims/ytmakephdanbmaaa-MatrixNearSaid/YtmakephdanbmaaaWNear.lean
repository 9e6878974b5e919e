/- Printed by a program of ours (walk.py): the walk of MatrixNear. -/
import Derived.Test.YtmakephdanbmaaaKb
import Derived.Test.YtmakephdanbmaaaProg
import Derived.KernelRfl
import Derived.Test.YtmakephdanbmaaaTypes
import Derived.Test.YtmakephdanbmaaaWSums
import Derived.Test.YtmakephdanbmaaaWExact
import Derived.Test.YtmakephdanbmaaaKf
set_option linter.unusedVariables false
set_option linter.unusedSimpArgs false
set_option maxRecDepth 20000
set_option maxHeartbeats 1000000
namespace Go.Proofs.Ytmakephdanbmaaa
open Go Go.Bn
attribute [local irreducible] OpOK
theorem iabs_ok {u : Value} {q0 q1 : SP} {x : Int} (hx : Sml x) : CtM Try.prog 79 [ipo u 0, intP x] (blk u [q0, q1] 97) (ipo u 0) (blk u (intC ((x.natAbs : Int))) 97) := by
  refine CtM.of Try.func79 rfl (by kernel_rfl) rfl (fix_blk) fun c0 ob hr0 => ?_
  have lx := sml_len hx
  refine J_seq (J_reg [] (
      .cons (.no) _ _ (op_assign (Lk.k rfl)) <|
      .nil) ff rfl fun g1 => ⟨_, _, [0], rfl, (.cons 0 rfl <| .cons 1 rfl <| .nil), (.cons 0 rfl <| .nil), ?_⟩)
  refine JN_then ?_
  refine J_seq (J_reg [] (
      .cons (.no) _ _ (op_move (Lk.t rfl)) <|
      .cons (.no) _ _ (op_move (Lk.t rfl)) <|
      .cons (.no) _ _ (op_nilp (Lk.t rfl)) <|
      .cons (.no) _ _ (op_field_ptr fd97_1 (Lk.t rfl) rfl) <|
      .cons (.no) _ _ (op_load_sc sc95 (Lk.t rfl) rfl) <|
      .cons (.no) _ _ (op_append_nil sl95 zr132 rfl (Lk.k rfl) (Lk.t rfl) (by omega) (by omega)) <|
      .cons (.wr 0) _ _ (op_callM 0 (iput_ok (limbs_dig _)) ⟨(Lk.t rfl), (Lk.k rfl), (Lk.t rfl),  trivial⟩ rfl) <|
      .cons (.no) _ _ (op_assign (Lk.t rfl)) <|
      .nil) ff rfl fun g2 => ⟨_, _, [0], rfl, (.cons 4 rfl <| .nil), (.cons 0 rfl <| .nil), ?_⟩)
  refine JN_then ?_
  refine J_ret ?_
  refine JN_to (To.res 0 (r' := blk u (intC ((x.natAbs : Int))) 97) rfl (res_eq (by rw [mag_nat]; rfl)) rfl) ?_
  refine JN_retM 0 hr0 (fix_blk) rfl (.cons (.tmp (Lk.t rfl)) <| .nil) (sb_trans (sb_res1 sb_refl) ?_)
  exact sb_refl
theorem xabs_ok {x : Exa} (hx : Exb x) : Ct Try.prog 38 [exaP x] (exaP x.abs) := by
  refine Ct.of Try.func38 rfl (by kernel_rfl) rfl fun c0 => ?_
  have hxm := hx.h
  have hx0 := hx.e0
  have hx1 := hx.e1
  refine J_to (To.emps 2) ?_
  refine J_seq (J_reg [] (
      .cons (.wr 0) _ _ (op_box 0 (Lk.t rfl) co_agg rfl) <|
      .cons (.wr 1) _ _ (op_alloc 1 zr65 rfl rfl) <|
      .nil) ff rfl fun g1 => ⟨_, _, [0, 1], rfl, (.cons 1 rfl <| .cons 2 rfl <| .nil), (.cons 0 rfl <| .cons 1 rfl <| .nil), ?_⟩)
  refine JN_then ?_
  refine J_to (To.emps 1) ?_
  refine J_seq (J_reg [[], [], [1], [0, 1, 2], [], [4], [0, 1, 2, 3, 4, 5], [0, 1, 2, 3, 4, 5, 6]] (
      .cons (.wr 2) _ _ (op_alloc 2 zr97 rfl rfl) <|
      .cons (.no) _ _ (op_field_own fd65_0 (Lk.t rfl) rfl) <|
      .cons (.rd 0) _ _ (op_get_sc 0 sc63 (Lk.t rfl) rfl mem_blk rfl) <|
      .cons (.wr 2) _ _ (op_callMp 2 rfl rfl (fun u => iabs_ok hxm) rfl ⟨(Lk.t rfl),  trivial⟩) <|
      .cons (.no) _ _ (op_field_own fd65_1 (Lk.t rfl) rfl) <|
      .cons (.rd 0) _ _ (op_get_sc 0 sc3 (Lk.t rfl) rfl mem_blk rfl) <|
      .cons (.no) _ _ (op_ve 6 9 rfl rfl rfl (fun f => (op_build zr65 rfl pl65 (.cons rfl (Lk.t rfl) co_ipo rfl (puts_l rfl (Nat.le_of_ble_eq_true rfl)) (.cons rfl (Lk.t rfl) co_isv rfl (puts_l rfl (Nat.le_of_ble_eq_true rfl)) .nil)))) (fun f g h => by rw [h 6 (show 6 ∈ [6] from by decide)]) rfl) <|
      .cons (.wr 1) _ _ (op_ver 9 rfl rfl (fun f => op_store_b 1 (Lk.t rfl) (Lk.t rfl) co_agg sz65 rfl rfl rfl) (fun f g h => by rw [h 6 (show 6 ∈ [6] from by decide)]) rfl) <|
      .nil) (fun _ => mixed) rfl fun g2 => ⟨_, _, [1, 2], rfl, (.cons 2 rfl <| .nil), (.cons 1 rfl <| .cons 2 rfl <| .nil), ?_⟩)
  refine JN_then ?_
  refine J_ret ?_
  refine JN_to (To.freeze 1 (fun _ h => h) rfl frz_blk rfl) ?_
  refine JN_ret (.cons (.ag 0 (Lk.t rfl) ag65 rfl rfl rfl) <| .nil) (sb_trans (sb_res1 (sb_agg (.cons (sb_ok 0 2 rfl rfl) <| .cons sb_refl <| .nil))) ?_)
  exact sb_refl
theorem xwhole_ok {n : Nat} (hn : n < 9223372036854775808) : Ct Try.prog 34 [isv (.int .i64 (n : Int))] (exaP (wholeX (n : Int))) := by
  refine Ct.of Try.func34 rfl (by kernel_rfl) rfl fun c0 => ?_
  refine J_to (To.emps 1) ?_
  refine J_seq (J_reg [] (
      .cons (.wr 0) _ _ (op_alloc 0 zr65 rfl rfl) <|
      .nil) ff rfl fun g1 => ⟨_, _, [0], rfl, (.cons 0 rfl <| .cons 2 rfl <| .nil), (.cons 0 rfl <| .nil), ?_⟩)
  refine JN_then ?_
  refine J_seq (J_reg [] (
      .cons (.no) _ _ (op_move (Lk.t rfl)) <|
      .cons (.no) _ _ (op_call (newint_ok (n := n) hn) ⟨(Lk.t rfl),  trivial⟩) <|
      .cons (.no) _ _ (op_build zr65 rfl pl65 (.cons rfl (Lk.t rfl) co_ptp rfl (puts_l rfl (Nat.le_of_ble_eq_true rfl)) (.cons rfl (Lk.k rfl) co_isv rfl (puts_l rfl (Nat.le_of_ble_eq_true rfl)) .nil))) <|
      .cons (.wr 0) _ _ (op_store_b 0 (Lk.t rfl) (Lk.t rfl) co_agg sz65 rfl rfl rfl) <|
      .nil) ff rfl fun g2 => ⟨_, _, [0], rfl, (.cons 2 rfl <| .nil), (.cons 0 rfl <| .nil), ?_⟩)
  refine JN_then ?_
  refine J_ret ?_
  refine JN_ret (.cons (.ag 0 (Lk.t rfl) ag65 rfl rfl rfl) <| .nil) (sb_trans (sb_res1 sb_refl) ?_)
  exact sb_refl
theorem xwadd_ok {n : Nat} (hn : n ≤ 12) : Ct Try.prog 37 [exaP (wholeX (n : Int)), exaP (wholeX ((1 : Nat) : Int))] (exaP (wholeX ((n : Int) + 1))) := by
  rw [← whole_add]
  exact xadd_ok (whole_exb (by omega)) (whole_exb (w := 1) (by omega)) (whole_low (by omega))
theorem near_ok {x : Nat} {xs ys : List Nat} (hB : NearB x xs ys) : Ct Try.prog 13 [flp x, fls xs, fls ys] (isv (.bool true)) := by
  refine Ct.of Try.func13 rfl (by kernel_rfl) rfl fun c0 => ?_
  have hxy := hB.hl
  have hn12 := hB.hn
  refine J_seq (J_reg [] (
      .cons (.no) _ _ (op_assign (Lk.k rfl)) <|
      .nil) ff rfl fun g1 => ⟨_, _, [], rfl, (.cons 0 rfl <| .cons 1 rfl <| .cons 2 rfl <| .nil), (.nil), ?_⟩)
  refine JN_then ?_
  refine J_to (To.emps 2) ?_
  refine J_seq (J_reg [] (
      .cons (.no) _ _ (op_call (xwhole_ok (n := 0) (by omega)) ⟨(Lk.k rfl),  trivial⟩) <|
      .cons (.no) _ _ (op_call (xwhole_ok (n := 0) (by omega)) ⟨(Lk.k rfl),  trivial⟩) <|
      .cons (.wr 0) _ _ (op_alloc 0 zr65 rfl rfl) <|
      .cons (.wr 1) _ _ (op_alloc 1 zr65 rfl rfl) <|
      .cons (.wr 0) _ _ (op_store_new 0 rfl (Lk.t rfl) co_agg sz65 rfl rfl) <|
      .cons (.wr 1) _ _ (op_store_new 1 rfl (Lk.t rfl) co_agg sz65 rfl rfl) <|
      .nil) ff rfl fun g2 => ⟨_, _, [0, 1], rfl, (.cons 0 rfl <| .cons 1 rfl <| .cons 2 rfl <| .cons 7 rfl <| .cons 8 rfl <| .nil), (.cons 0 rfl <| .cons 1 rfl <| .nil), ?_⟩)
  refine JN_then ?_
  refine J_seq ?_
  refine J_seq (J_reg [] (
      .cons (.no) _ _ (op_assign (Lk.k rfl)) <|
      .nil) ff rfl fun g3 => ⟨_, _, [0, 1], rfl, (.cons 0 rfl <| .cons 1 rfl <| .cons 2 rfl <| .cons 7 rfl <| .cons 8 rfl <| .cons 9 rfl <| .nil), (.cons 0 rfl <| .cons 1 rfl <| .nil), ?_⟩)
  refine JN_then ?_
  refine J_block ?_
  refine J_loopc (α := Nat) (fun k => k ≤ xs.length) (fun k => xs.length - k) (fun k restR => (9, isv (.int .i64 (k : Int))) :: restR) (fun k restS => blk (g2 7) [intP (dotX xs ys k).m, isv (.int .i64 (dotX xs ys k).e)] 65 :: blk (g2 8) [intP (amtX xs ys k).m, isv (.int .i64 (amtX xs ys k).e)] 65 :: restS) (ρc := [(0, _), (1, _), (2, _), (7, _), (8, _)]) (σc := []) 0 (by exact Nat.zero_le _) (To.pick (fun _ => .sub (t := 9) rfl (sp_eq (by rfl)) <| .cons 0 rfl <| .cons 1 rfl <| .cons 2 rfl <| .cons 7 rfl <| .cons 8 rfl <| .nil) (fun _ => .sub 0 rfl ((fun _ _ h => h)) <| .sub 1 rfl ((fun _ _ h => h)) <| .nil) (ks := [0, 1]) rfl) (fun k hI => ?_)
  refine J_seq ?_
  refine J_seq (J_reg [] (
      .cons (.no) _ _ (op_move (Lk.t rfl)) <|
      .cons (.no) _ _ (op_move (Lk.t rfl)) <|
      .cons (.no) _ _ (op_len_m sl26 (Lk.t rfl)) <|
      .cons (.no) _ _ (op_cmp (by simp) (Lk.t rfl) (Lk.t rfl) rfl) <|
      .nil) ff rfl fun g4 => ⟨_, _, [0, 1], rfl, (.cons 0 rfl <| .cons 1 rfl <| .cons 2 rfl <| .cons 7 rfl <| .cons 8 rfl <| .cons 9 rfl <| .cons 18 rfl <| .nil), (.cons 0 rfl <| .cons 1 rfl <| .nil), ?_⟩)
  refine JN_then ?_
  refine J_cond (cond_of (Lk.t rfl)) (fun h1 => ?_) (fun h1 => ?_)
  · have h1' := h1
    try simp only [cmpB, Bool.and_eq_true, Bool.or_eq_true, Bool.and_eq_false_iff, Bool.or_eq_false_iff, Bool.not_eq_true', Bool.not_eq_false', Bool.not_eq_true, Bool.not_eq_false, decide_eq_true_eq, decide_eq_false_iff_not, Int.not_lt, Int.not_le, beq_iff_eq, bne_iff_ne, beq_eq_false_iff_ne, bne_eq_false_iff_eq, ne_eq, Decidable.not_not] at h1
    refine J_skip ?_
    refine JN_then ?_
    refine J_seq ?_
    refine J_block ?_
    refine J_to (To.emps 1) ?_
    refine J_seq (J_reg [[], [], [0, 1], [0, 1, 2], [0, 1, 2, 3], [], [], [5, 6], [5, 6, 7], [0, 1, 2, 3, 4, 5, 6, 7, 8], [0, 1, 2, 3, 4, 5, 6, 7, 8, 9], [], [0, 1, 2, 3, 4, 5, 6, 7, 8, 9, 10, 11]] (
        .cons (.no) _ _ (op_move (Lk.t rfl)) <|
        .cons (.no) _ _ (op_move (Lk.t rfl)) <|
        .cons (.no) _ _ (op_index_m 0 sl26 (Lk.t rfl) (Lk.t rfl) (by omega) (by omega)) <|
        .cons (.no) _ _ (op_load_sc sc37 (Lk.t rfl) rfl) <|
        .cons (.no) _ _ (op_call (xof_ok (hB.fx k).1) ⟨(Lk.t rfl),  trivial⟩) <|
        .cons (.no) _ _ (op_move (Lk.t rfl)) <|
        .cons (.no) _ _ (op_move (Lk.t rfl)) <|
        .cons (.no) _ _ (op_index_m 0 sl26 (Lk.t rfl) (Lk.t rfl) (by omega) (by omega)) <|
        .cons (.no) _ _ (op_load_sc sc37 (Lk.t rfl) rfl) <|
        .cons (.no) _ _ (op_call (xof_ok (hB.fy k).1) ⟨(Lk.t rfl),  trivial⟩) <|
        .cons (.no) _ _ (op_call (xmul_ok (ofX_exb (hB.fx k).1 (hB.fx k).2) (ofX_exb (hB.fy k).1 (hB.fy k).2)) ⟨(Lk.t rfl), (Lk.t rfl),  trivial⟩) <|
        .cons (.wr 2) _ _ (op_alloc 2 zr65 rfl rfl) <|
        .cons (.wr 2) _ _ (op_store_new 2 rfl (Lk.t rfl) co_agg sz65 rfl rfl) <|
        .nil) (fun _ => mixed) rfl fun g5 => ⟨_, _, [0, 1, 2], rfl, (.cons 0 rfl <| .cons 1 rfl <| .cons 2 rfl <| .cons 7 rfl <| .cons 8 rfl <| .cons 9 rfl <| .cons 10 rfl <| .nil), (.cons 0 rfl <| .cons 1 rfl <| .cons 2 rfl <| .nil), ?_⟩)
    refine JN_then ?_
    refine J_seq (J_reg [] (
        .cons (.rd 0) _ _ (op_get_ag 0 ag65 (Lk.t rfl) rfl mem_blk rfl rfl) <|
        .cons (.rd 2) _ _ (op_get_ag 2 ag65 (Lk.t rfl) rfl mem_blk rfl rfl) <|
        .cons (.no) _ _ (op_call (xadd_ok (hB.hs k (by omega)) (hB.hp k) (hB.hsa k (by omega))) ⟨(Lk.t rfl), (Lk.t rfl),  trivial⟩) <|
        .cons (.wr 0) _ _ (op_store_b 0 (Lk.t rfl) (Lk.t rfl) co_agg sz65 rfl rfl rfl) <|
        .nil) ff rfl fun g6 => ⟨_, _, [0, 1, 2], rfl, (.cons 0 rfl <| .cons 1 rfl <| .cons 2 rfl <| .cons 7 rfl <| .cons 8 rfl <| .cons 9 rfl <| .cons 10 rfl <| .nil), (.cons 0 rfl <| .cons 1 rfl <| .cons 2 rfl <| .nil), ?_⟩)
    refine JN_then ?_
    refine (J_reg [[], [], [1], [0, 1, 2], [0, 1, 2, 3]] (
        .cons (.rd 1) _ _ (op_get_ag 1 ag65 (Lk.t rfl) rfl mem_blk rfl rfl) <|
        .cons (.rd 2) _ _ (op_get_ag 2 ag65 (Lk.t rfl) rfl mem_blk rfl rfl) <|
        .cons (.no) _ _ (op_call (xabs_ok (hB.hp k)) ⟨(Lk.t rfl),  trivial⟩) <|
        .cons (.no) _ _ (op_call (xadd_ok (hB.hm k (by omega)) (hB.hq k) (hB.hma k (by omega))) ⟨(Lk.t rfl), (Lk.t rfl),  trivial⟩) <|
        .cons (.wr 1) _ _ (op_store_b 1 (Lk.t rfl) (Lk.t rfl) co_agg sz65 rfl rfl rfl) <|
        .nil) (fun _ => mixed) rfl fun g7 => ⟨_, _, [0, 1], rfl, (.cons 0 rfl <| .cons 1 rfl <| .cons 2 rfl <| .cons 7 rfl <| .cons 8 rfl <| .cons 9 rfl <| .nil), (.cons 0 rfl <| .cons 1 rfl <| .nil), ?_⟩)
    refine JN_block ?_
    refine JN_then ?_
    refine (J_reg [] (
        .cons (.no) _ _ (op_move (Lk.t rfl)) <|
        .cons (.no) _ _ (op_add (Lk.t rfl) (Lk.k rfl) (wrap_id (by omega) (by omega))) <|
        .cons (.no) _ _ (op_assign (Lk.t rfl)) <|
        .nil) ff rfl fun g8 => ⟨_, _, [0, 1], rfl, (.cons 0 rfl <| .cons 1 rfl <| .cons 2 rfl <| .cons 7 rfl <| .cons 8 rfl <| .cons 9 rfl <| .nil), (.cons 0 rfl <| .cons 1 rfl <| .nil), ?_⟩)
    exact JN_again (k + 1) (by omega) (by omega) (To.pick (fun _ => .sub (t := 9) rfl (sp_eq (by rfl)) <| .cons 0 rfl <| .cons 1 rfl <| .cons 2 rfl <| .cons 7 rfl <| .cons 8 rfl <| .nil) (fun _ => .sub 0 rfl ((fun _ _ h => h)) <| .sub 1 rfl ((fun _ _ h => h)) <| .nil) (ks := [0, 1]) rfl)
  · have h1' := h1
    try simp only [cmpB, Bool.and_eq_true, Bool.or_eq_true, Bool.and_eq_false_iff, Bool.or_eq_false_iff, Bool.not_eq_true', Bool.not_eq_false', Bool.not_eq_true, Bool.not_eq_false, decide_eq_true_eq, decide_eq_false_iff_not, Int.not_lt, Int.not_le, beq_iff_eq, bne_iff_ne, beq_eq_false_iff_ne, bne_eq_false_iff_eq, ne_eq, Decidable.not_not] at h1
    obtain rfl : k = xs.length := by omega
    refine J_exit ?_
    refine JN_then_exit ?_
    refine JN_then_exit ?_
    refine JN_exit_here ?_
    refine JN_then ?_
    refine J_to (To.emps 1) ?_
    refine J_seq (J_reg [] (
        .cons (.no) _ _ (op_move (Lk.t rfl)) <|
        .cons (.no) _ _ (op_len_m sl26 (Lk.t rfl)) <|
        .cons (.no) _ _ (op_call (xwhole_ok (n := xs.length) (by omega)) ⟨(Lk.t rfl),  trivial⟩) <|
        .cons (.wr 2) _ _ (op_alloc 2 zr65 rfl rfl) <|
        .cons (.wr 2) _ _ (op_store_new 2 rfl (Lk.t rfl) co_agg sz65 rfl rfl) <|
        .nil) ff rfl fun g9 => ⟨_, _, [0, 1, 2], rfl, (.cons 0 rfl <| .cons 7 rfl <| .cons 8 rfl <| .cons 11 rfl <| .nil), (.cons 0 rfl <| .cons 1 rfl <| .cons 2 rfl <| .nil), ?_⟩)
    refine JN_then ?_
    refine J_to (To.emps 1) ?_
    refine J_seq (J_reg [[], [], [], [1, 2], [0, 1, 2, 3], [0, 1, 2, 3, 4], [0, 1, 2, 3, 4, 5], [], [0, 1, 2, 3, 4, 5, 6], [0, 1, 2, 3, 4, 5, 6, 7, 8], [0, 1, 2, 3, 4, 5, 6, 7, 8, 9], [], [0, 1, 2, 3, 4, 5, 6, 7, 8, 9, 10, 11]] (
        .cons (.rd 1) _ _ (op_get_ag 1 ag65 (Lk.t rfl) rfl mem_blk rfl rfl) <|
        .cons (.rd 2) _ _ (op_get_ag 2 ag65 (Lk.t rfl) rfl mem_blk rfl rfl) <|
        .cons (.no) _ _ (op_call (xwhole_ok (n := 1) (by omega)) ⟨(Lk.k rfl),  trivial⟩) <|
        .cons (.no) _ _ (op_call (xwadd_ok (n := xs.length) hn12) ⟨(Lk.t rfl), (Lk.t rfl),  trivial⟩) <|
        .cons (.no) _ _ (op_call (xmul_ok (hB.hm _ hn12) (whole_exb (w := xs.length + 1) (by omega))) ⟨(Lk.t rfl), (Lk.t rfl),  trivial⟩) <|
        .cons (.no) _ _ (op_call (xpow_ok) ⟨(Lk.k rfl),  trivial⟩) <|
        .cons (.no) _ _ (op_call (xmul_ok hB.r1 (pow_exb (by omega) (by omega))) ⟨(Lk.t rfl), (Lk.t rfl),  trivial⟩) <|
        .cons (.rd 2) _ _ (op_get_ag 2 ag65 (Lk.t rfl) rfl mem_blk rfl rfl) <|
        .cons (.no) _ _ (op_call (xpow_ok) ⟨(Lk.k rfl),  trivial⟩) <|
        .cons (.no) _ _ (op_call (xmul_ok (whole_exb (by omega)) (pow_exb (by omega) (by omega))) ⟨(Lk.t rfl), (Lk.t rfl),  trivial⟩) <|
        .cons (.no) _ _ (op_call (xadd_ok hB.r2 hB.r3 hB.r4) ⟨(Lk.t rfl), (Lk.t rfl),  trivial⟩) <|
        .cons (.wr 3) _ _ (op_alloc 3 zr65 rfl rfl) <|
        .cons (.wr 3) _ _ (op_store_new 3 rfl (Lk.t rfl) co_agg sz65 rfl rfl) <|
        .nil) (fun _ => mixed) rfl fun g10 => ⟨_, _, [0, 3], rfl, (.cons 0 rfl <| .cons 7 rfl <| .cons 12 rfl <| .nil), (.cons 0 rfl <| .cons 3 rfl <| .nil), ?_⟩)
    refine JN_then ?_
    refine J_seq (J_reg [[], [0], [], [0, 1, 2], [0, 1, 2, 3], [0, 1, 2, 3, 4], [], [0, 1, 2, 3, 4, 5, 6], [0, 1, 2, 3, 4, 5, 6, 7], [0, 1, 2, 3, 4, 5, 6, 7, 8]] (
        .cons (.no) _ _ (op_move (Lk.t rfl)) <|
        .cons (.no) _ _ (op_call (xof_ok hB.hf) ⟨(Lk.t rfl),  trivial⟩) <|
        .cons (.rd 0) _ _ (op_get_ag 0 ag65 (Lk.t rfl) rfl mem_blk rfl rfl) <|
        .cons (.no) _ _ (op_call (xneg_ok (hB.hs _ hn12)) ⟨(Lk.t rfl),  trivial⟩) <|
        .cons (.no) _ _ (op_call (xadd_ok hB.hx hB.d1 hB.d2) ⟨(Lk.t rfl), (Lk.t rfl),  trivial⟩) <|
        .cons (.no) _ _ (op_call (xabs_ok hB.d3) ⟨(Lk.t rfl),  trivial⟩) <|
        .cons (.rd 1) _ _ (op_get_ag 1 ag65 (Lk.t rfl) rfl mem_blk rfl rfl) <|
        .cons (.no) _ _ (op_call (xcmp_ok hB.d4 hB.r5 hB.r6 hB.d5) ⟨(Lk.t rfl), (Lk.t rfl),  trivial⟩) <|
        .cons (.no) _ _ (op_cmp (by simp) (Lk.t rfl) (Lk.k rfl) rfl) <|
        .cons (.no) _ _ (op_assign (Lk.t rfl)) <|
        .nil) (fun _ => mixed) rfl fun g11 => ⟨_, _, [], rfl, (.cons 6 rfl <| .nil), (.nil), ?_⟩)
    refine JN_then ?_
    refine J_ret ?_
    refine JN_ret (.cons (.tmp (Lk.t rfl)) <| .nil) (sb_trans (sb_res1 sb_refl) ?_)
    exact ret_b (cmp_no hB.yes)
theorem mnear_ok {r c r' c' : Int} {bs cs us : List Nat} (hb : GoodU bs) (hc : GoodU cs) (hu : GoodU us) : Ct Try.prog 3 [MatU r c bs, MatU r' c' cs, wsl us] (isv (.bool true)) := by
  refine Ct.of Try.func3 rfl (by kernel_rfl) rfl fun c0 => ?_
  refine J_to (To.emps 2) ?_
  refine J_seq (J_reg [] (
      .cons (.wr 0) _ _ (op_box 0 (Lk.t rfl) co_agg rfl) <|
      .cons (.wr 1) _ _ (op_box 1 (Lk.t rfl) co_agg rfl) <|
      .cons (.no) _ _ (op_assign (Lk.k rfl)) <|
      .nil) ff rfl fun g1 => ⟨_, _, [0, 1], rfl, (.cons 2 rfl <| .cons 3 rfl <| .cons 4 rfl <| .nil), (.cons 0 rfl <| .cons 1 rfl <| .nil), ?_⟩)
  refine JN_then ?_
  refine J_seq ?_
  refine J_seq (J_reg [] (
      .cons (.no) _ _ (op_call (awake_ok) trivial) <|
      .cons (.no) _ _ (op_not (Lk.t rfl)) <|
      .nil) ff rfl fun g2 => ⟨_, _, [0, 1], rfl, (.cons 2 rfl <| .cons 3 rfl <| .cons 4 rfl <| .cons 25 rfl <| .nil), (.cons 0 rfl <| .cons 1 rfl <| .nil), ?_⟩)
  refine JN_then ?_
  refine J_cond (cond_of (Lk.t rfl)) (fun h1 => ?_) (fun h1 => ?_)
  · have h1' := h1
    try simp only [cmpB, Bool.and_eq_true, Bool.or_eq_true, Bool.and_eq_false_iff, Bool.or_eq_false_iff, Bool.not_eq_true', Bool.not_eq_false', Bool.not_eq_true, Bool.not_eq_false, decide_eq_true_eq, decide_eq_false_iff_not, Int.not_lt, Int.not_le, beq_iff_eq, bne_iff_ne, beq_eq_false_iff_ne, bne_eq_false_iff_eq, ne_eq, Decidable.not_not] at h1
    cases h1'
  · have h1' := h1
    try simp only [cmpB, Bool.and_eq_true, Bool.or_eq_true, Bool.and_eq_false_iff, Bool.or_eq_false_iff, Bool.not_eq_true', Bool.not_eq_false', Bool.not_eq_true, Bool.not_eq_false, decide_eq_true_eq, decide_eq_false_iff_not, Int.not_lt, Int.not_le, beq_iff_eq, bne_iff_ne, beq_eq_false_iff_ne, bne_eq_false_iff_eq, ne_eq, Decidable.not_not] at h1
    refine J_skip ?_
    refine JN_then ?_
    refine J_to (To.emps 2) ?_
    refine J_seq (J_reg [[], [0], [], [0, 1, 2], [], [], [0, 1, 2, 3, 4, 5], [0, 1, 2, 3, 4, 5, 6]] (
        .cons (.rd 0) _ _ (op_get_ag 0 ag24 (Lk.t rfl) rfl mem_blk rfl rfl) <|
        .cons (.no) _ _ (op_call (lof_ok (by assumption)) ⟨(Lk.t rfl),  trivial⟩) <|
        .cons (.rd 1) _ _ (op_get_ag 1 ag24 (Lk.t rfl) rfl mem_blk rfl rfl) <|
        .cons (.no) _ _ (op_call (lof_ok (by assumption)) ⟨(Lk.t rfl),  trivial⟩) <|
        .cons (.wr 2) _ _ (op_alloc 2 zr28 rfl rfl) <|
        .cons (.wr 3) _ _ (op_alloc 3 zr28 rfl rfl) <|
        .cons (.wr 2) _ _ (op_store_new 2 rfl (Lk.t rfl) co_agg sz28 rfl rfl) <|
        .cons (.wr 3) _ _ (op_store_new 3 rfl (Lk.t rfl) co_agg sz28 rfl rfl) <|
        .nil) (fun _ => mixed) rfl fun g3 => ⟨_, _, [2, 3], rfl, (.cons 2 rfl <| .cons 7 rfl <| .cons 8 rfl <| .nil), (.cons 2 rfl <| .cons 3 rfl <| .nil), ?_⟩)
    refine JN_then ?_
    refine J_to (To.emps 1) ?_
    refine J_seq (J_reg [] (
        .cons (.rd 0) _ _ (op_get_ag 0 ag28 (Lk.t rfl) rfl mem_blk rfl rfl) <|
        .cons (.rd 1) _ _ (op_get_ag 1 ag28 (Lk.t rfl) rfl mem_blk rfl rfl) <|
        .cons (.no) _ _ (op_call (mul_ok) ⟨(Lk.t rfl), (Lk.t rfl),  trivial⟩) <|
        .cons (.no) _ _ (op_move (Lk.t rfl)) <|
        .cons (.no) _ _ (op_extract (Lk.t rfl) rfl) <|
        .cons (.no) _ _ (op_extract (Lk.t rfl) rfl) <|
        .cons (.wr 2) _ _ (op_alloc 2 zr28 rfl rfl) <|
        .cons (.wr 2) _ _ (op_store_new 2 rfl (Lk.t rfl) co_agg sz28 rfl rfl) <|
        .cons (.no) _ _ (op_assign (Lk.t rfl)) <|
        .nil) ff rfl fun g4 => ⟨_, _, [0, 1, 2], rfl, (.cons 2 rfl <| .cons 7 rfl <| .cons 8 rfl <| .cons 9 rfl <| .cons 10 rfl <| .nil), (.cons 0 rfl <| .cons 1 rfl <| .cons 2 rfl <| .nil), ?_⟩)
    refine JN_then ?_
    refine J_seq ?_
    refine J_seq (J_reg [[], [0], [0, 1], [0, 1, 2], [0, 1, 2, 3], [0, 1, 2], [0, 1, 2, 3, 4, 5], [0, 1, 2, 3, 4, 5, 6], [0, 1, 2, 3, 4, 5, 6, 7], [0, 1, 2, 3, 4, 5, 6, 7, 8], [0, 1, 2, 3, 4, 5, 6, 7, 8, 9]] (
        .cons (.no) _ _ (op_move (Lk.t rfl)) <|
        .cons (.no) _ _ (op_cmp (by simp) (Lk.t rfl) (Lk.k rfl) rfl) <|
        .cons (.no) _ _ (op_move (Lk.t rfl)) <|
        .cons (.rd 0) _ _ (op_guard rfl rfl (gd_b rfl) (fun hC => (op_get_ag 0 ag28 (Lk.t rfl) rfl mem_blk rfl rfl))) <|
        .cons (.no) _ _ (op_guard rfl rfl (gd_b rfl) (fun hC => (op_call (rchk_ok) ⟨(Lk.w rfl hC),  trivial⟩))) <|
        .cons (.rd 1) _ _ (op_guard rfl rfl (gd_b rfl) (fun hC => (op_get_ag 1 ag28 (Lk.t rfl) rfl mem_blk rfl rfl))) <|
        .cons (.no) _ _ (op_guard rfl rfl (gd_b rfl) (fun hC => (op_call (rchk_ok) ⟨(Lk.w rfl hC),  trivial⟩))) <|
        .cons (.no) _ _ (op_guard rfl rfl (gd_b rfl) (fun hC => (op_buildSlice sl46 zr3 rfl rfl rfl rfl (.cons rfl (Lk.w rfl hC) co_isv rfl (puts_l rfl (Nat.le_of_ble_eq_true rfl)) (.cons rfl (Lk.w rfl hC) co_isv rfl (puts_l rfl (Nat.le_of_ble_eq_true rfl)) .nil))))) <|
        .cons (.no) _ _ (op_guard rfl rfl (gd_b rfl) (fun hC => (op_call (rfirst_ok2) ⟨(Lk.w rfl hC),  trivial⟩))) <|
        .cons (.no) _ _ (op_guard rfl rfl (gd_b rfl) (fun hC => (op_cmp (by simp) (Lk.w rfl hC) (Lk.k rfl) rfl))) <|
        .cons (.no) _ _ (op_and (Lk.t rfl) (fun h2 => (Lk.w rfl h2))) <|
        .nil) (fun _ => mixed) rfl fun g5 => ⟨_, _, [0, 1, 2], rfl, (.cons 2 rfl <| .cons 7 rfl <| .cons 8 rfl <| .cons 9 rfl <| .cons 10 rfl <| .cons 46 rfl <| .nil), (.cons 0 rfl <| .cons 1 rfl <| .cons 2 rfl <| .nil), ?_⟩)
    refine JN_then ?_
    refine J_cond (cond_of (Lk.t rfl)) (fun h2 => ?_) (fun h2 => ?_)
    · have h2' := h2
      try simp only [cmpB, Bool.and_eq_true, Bool.or_eq_true, Bool.and_eq_false_iff, Bool.or_eq_false_iff, Bool.not_eq_true', Bool.not_eq_false', Bool.not_eq_true, Bool.not_eq_false, decide_eq_true_eq, decide_eq_false_iff_not, Int.not_lt, Int.not_le, beq_iff_eq, bne_iff_ne, beq_eq_false_iff_ne, bne_eq_false_iff_eq, ne_eq, Decidable.not_not] at h2
      exact (near_dead h2' mul_ok0).elim
    · have h2' := h2
      try simp only [cmpB, Bool.and_eq_true, Bool.or_eq_true, Bool.and_eq_false_iff, Bool.or_eq_false_iff, Bool.not_eq_true', Bool.not_eq_false', Bool.not_eq_true, Bool.not_eq_false, decide_eq_true_eq, decide_eq_false_iff_not, Int.not_lt, Int.not_le, beq_iff_eq, bne_iff_ne, beq_eq_false_iff_ne, bne_eq_false_iff_eq, ne_eq, Decidable.not_not] at h2
      refine J_skip ?_
      refine JN_then ?_
      refine J_seq ?_
      refine J_seq (J_reg [] (
          .cons (.no) _ _ (op_assign (Lk.k rfl)) <|
          .nil) ff rfl fun g6 => ⟨_, _, [0, 1, 2], rfl, (.cons 2 rfl <| .cons 7 rfl <| .cons 8 rfl <| .cons 9 rfl <| .cons 10 rfl <| .cons 11 rfl <| .nil), (.cons 0 rfl <| .cons 1 rfl <| .cons 2 rfl <| .nil), ?_⟩)
      refine JN_then ?_
      refine J_block ?_
      refine J_loopc (α := Nat) (fun i => i ≤ 12) (fun i => r.toNat - i) (fun i restR => (11, isv (.int .i64 (i : Int))) :: restR) (fun i restS => restS) (ρc := [(2, _), (7, _), (8, _), (9, _), (10, _)]) (σc := [_, _, _]) 0 (by omega) (To.pick (fun _ => .sub (t := 11) rfl (sp_eq (by rfl)) <| .cons 2 rfl <| .cons 7 rfl <| .cons 8 rfl <| .cons 9 rfl <| .cons 10 rfl <| .nil) (fun _ => .cons 0 rfl <| .cons 1 rfl <| .cons 2 rfl <| .nil) (ks := [0, 1, 2]) rfl) (fun i hI => ?_)
      refine J_seq ?_
      refine J_seq (J_reg [] (
          .cons (.no) _ _ (op_move (Lk.t rfl)) <|
          .cons (.no) _ _ (op_field_own fd28_0 (Lk.t rfl) rfl) <|
          .cons (.rd 0) _ _ (op_get_sc 0 sc3 (Lk.t rfl) rfl mem_blk rfl) <|
          .cons (.no) _ _ (op_cmp (by simp) (Lk.t rfl) (Lk.t rfl) rfl) <|
          .cons (.no) _ _ (op_move (Lk.t rfl)) <|
          .cons (.no) _ _ (op_guard rfl rfl (gd_b rfl) (fun hC => (op_move (Lk.t rfl)))) <|
          .cons (.no) _ _ (op_guard rfl rfl (gd_b rfl) (fun hC => (op_cmp (by simp) (Lk.w rfl hC) (Lk.k rfl) rfl))) <|
          .cons (.no) _ _ (op_and (Lk.t rfl) (fun h2 => (Lk.w rfl h2))) <|
          .nil) ff rfl fun g7 => ⟨_, _, [0, 1, 2], rfl, (.cons 2 rfl <| .cons 7 rfl <| .cons 8 rfl <| .cons 9 rfl <| .cons 10 rfl <| .cons 11 rfl <| .cons 54 rfl <| .nil), (.cons 0 rfl <| .cons 1 rfl <| .cons 2 rfl <| .nil), ?_⟩)
      refine JN_then ?_
      refine J_cond (cond_of (Lk.t rfl)) (fun h3 => ?_) (fun h3 => ?_)
      · have h3' := h3
        try simp only [cmpB, Bool.and_eq_true, Bool.or_eq_true, Bool.and_eq_false_iff, Bool.or_eq_false_iff, Bool.not_eq_true', Bool.not_eq_false', Bool.not_eq_true, Bool.not_eq_false, decide_eq_true_eq, decide_eq_false_iff_not, Int.not_lt, Int.not_le, beq_iff_eq, bne_iff_ne, beq_eq_false_iff_ne, bne_eq_false_iff_eq, ne_eq, Decidable.not_not] at h3
        obtain ⟨hir, he⟩ := h3
        have hg0 := (mulE_good (mulR_fin he).1)
        obtain ⟨hs1, hs2, _, _⟩ := hg0.1.1
        obtain ⟨_, _, ht1, ht2⟩ := hg0.2.1.1
        refine J_skip ?_
        refine JN_then ?_
        refine J_seq ?_
        refine J_block ?_
        refine J_seq (J_reg [] (
            .cons (.rd 0) _ _ (op_get_ag 0 ag28 (Lk.t rfl) rfl mem_blk rfl rfl) <|
            .cons (.no) _ _ (op_move (Lk.t rfl)) <|
            .cons (.no) _ _ (op_call (Row_ok) ⟨(Lk.t rfl), (Lk.t rfl),  trivial⟩) <|
            .cons (.no) _ _ (op_move (Lk.t rfl)) <|
            .cons (.no) _ _ (op_extract (Lk.t rfl) rfl) <|
            .cons (.no) _ _ (op_extract (Lk.t rfl) rfl) <|
            .cons (.no) _ _ (op_assign (Lk.t rfl)) <|
            .cons (.no) _ _ (op_assign (Lk.t rfl)) <|
            .nil) ff rfl fun g8 => ⟨_, _, [0, 1, 2], rfl, (.cons 2 rfl <| .cons 7 rfl <| .cons 8 rfl <| .cons 9 rfl <| .cons 10 rfl <| .cons 11 rfl <| .cons 12 rfl <| .nil), (.cons 0 rfl <| .cons 1 rfl <| .cons 2 rfl <| .nil), ?_⟩)
        refine JN_then ?_
        refine J_seq (J_reg [] (
            .cons (.no) _ _ (op_assign (Lk.k rfl)) <|
            .nil) ff rfl fun g9 => ⟨_, _, [0, 1, 2], rfl, (.cons 2 rfl <| .cons 7 rfl <| .cons 8 rfl <| .cons 9 rfl <| .cons 10 rfl <| .cons 11 rfl <| .cons 12 rfl <| .cons 14 rfl <| .nil), (.cons 0 rfl <| .cons 1 rfl <| .cons 2 rfl <| .nil), ?_⟩)
        refine JN_then ?_
        refine J_block ?_
        refine J_loopc (α := Nat) (fun j => j ≤ 12) (fun j => c'.toNat - j) (fun j restR => (14, isv (.int .i64 (j : Int))) :: restR) (fun j restS => restS) (ρc := [(2, _), (7, _), (8, _), (9, _), (10, _), (11, _), (12, _)]) (σc := [_, _, _]) 0 (by omega) (To.pick (fun _ => .sub (t := 14) rfl (sp_eq (by rfl)) <| .cons 2 rfl <| .cons 7 rfl <| .cons 8 rfl <| .cons 9 rfl <| .cons 10 rfl <| .cons 11 rfl <| .cons 12 rfl <| .nil) (fun _ => .cons 0 rfl <| .cons 1 rfl <| .cons 2 rfl <| .nil) (ks := [0, 1, 2]) rfl) (fun j hI => ?_)
        refine J_seq ?_
        refine J_seq (J_reg [] (
            .cons (.no) _ _ (op_move (Lk.t rfl)) <|
            .cons (.no) _ _ (op_field_own fd28_1 (Lk.t rfl) rfl) <|
            .cons (.rd 1) _ _ (op_get_sc 1 sc3 (Lk.t rfl) rfl mem_blk rfl) <|
            .cons (.no) _ _ (op_cmp (by simp) (Lk.t rfl) (Lk.t rfl) rfl) <|
            .nil) ff rfl fun g10 => ⟨_, _, [0, 1, 2], rfl, (.cons 2 rfl <| .cons 7 rfl <| .cons 8 rfl <| .cons 9 rfl <| .cons 10 rfl <| .cons 11 rfl <| .cons 12 rfl <| .cons 14 rfl <| .cons 66 rfl <| .nil), (.cons 0 rfl <| .cons 1 rfl <| .cons 2 rfl <| .nil), ?_⟩)
        refine JN_then ?_
        refine J_cond (cond_of (Lk.t rfl)) (fun h4 => ?_) (fun h4 => ?_)
        · have h4' := h4
          try simp only [cmpB, Bool.and_eq_true, Bool.or_eq_true, Bool.and_eq_false_iff, Bool.or_eq_false_iff, Bool.not_eq_true', Bool.not_eq_false', Bool.not_eq_true, Bool.not_eq_false, decide_eq_true_eq, decide_eq_false_iff_not, Int.not_lt, Int.not_le, beq_iff_eq, bne_iff_ne, beq_eq_false_iff_ne, bne_eq_false_iff_eq, ne_eq, Decidable.not_not] at h4
          have hnr := mul_near hb.1 hc.1 he (i := (i : Int)) (j := (j : Int)) (by omega) (by omega) (by omega) (by omega)
          refine J_skip ?_
          refine JN_then ?_
          refine J_seq ?_
          refine J_block ?_
          refine J_seq (J_reg [] (
              .cons (.rd 1) _ _ (op_get_ag 1 ag28 (Lk.t rfl) rfl mem_blk rfl rfl) <|
              .cons (.no) _ _ (op_move (Lk.t rfl)) <|
              .cons (.no) _ _ (op_call (Col_ok) ⟨(Lk.t rfl), (Lk.t rfl),  trivial⟩) <|
              .cons (.no) _ _ (op_move (Lk.t rfl)) <|
              .cons (.no) _ _ (op_extract (Lk.t rfl) rfl) <|
              .cons (.no) _ _ (op_extract (Lk.t rfl) rfl) <|
              .cons (.no) _ _ (op_assign (Lk.t rfl)) <|
              .cons (.no) _ _ (op_assign (Lk.t rfl)) <|
              .nil) ff rfl fun g11 => ⟨_, _, [0, 1, 2], rfl, (.cons 2 rfl <| .cons 7 rfl <| .cons 8 rfl <| .cons 9 rfl <| .cons 10 rfl <| .cons 11 rfl <| .cons 12 rfl <| .cons 14 rfl <| .cons 15 rfl <| .nil), (.cons 0 rfl <| .cons 1 rfl <| .cons 2 rfl <| .nil), ?_⟩)
          refine JN_then ?_
          refine J_seq (J_reg [] (
              .cons (.rd 2) _ _ (op_get_ag 2 ag28 (Lk.t rfl) rfl mem_blk rfl rfl) <|
              .cons (.no) _ _ (op_move (Lk.t rfl)) <|
              .cons (.no) _ _ (op_move (Lk.t rfl)) <|
              .cons (.no) _ _ (op_call (get_ok) ⟨(Lk.t rfl), (Lk.t rfl), (Lk.t rfl),  trivial⟩) <|
              .cons (.no) _ _ (op_move (Lk.t rfl)) <|
              .cons (.no) _ _ (op_extract (Lk.t rfl) rfl) <|
              .cons (.no) _ _ (op_extract (Lk.t rfl) rfl) <|
              .cons (.no) _ _ (op_assign (Lk.t rfl)) <|
              .cons (.no) _ _ (op_assign (Lk.t rfl)) <|
              .nil) ff rfl fun g12 => ⟨_, _, [0, 1, 2], rfl, (.cons 2 rfl <| .cons 7 rfl <| .cons 8 rfl <| .cons 9 rfl <| .cons 10 rfl <| .cons 11 rfl <| .cons 12 rfl <| .cons 14 rfl <| .cons 15 rfl <| .cons 17 rfl <| .cons 18 rfl <| .nil), (.cons 0 rfl <| .cons 1 rfl <| .cons 2 rfl <| .nil), ?_⟩)
          refine JN_then ?_
          refine J_seq (J_reg [] (
              .cons (.no) _ _ (op_move (Lk.t rfl)) <|
              .cons (.no) _ _ (op_cmp (by simp) (Lk.t rfl) (Lk.k rfl) rfl) <|
              .cons (.no) _ _ (op_move (Lk.t rfl)) <|
              .cons (.no) _ _ (op_guard rfl rfl (gd_b rfl) (fun hC => (op_move (Lk.t rfl)))) <|
              .cons (.no) _ _ (op_guard rfl rfl (gd_b rfl) (fun hC => (op_len_m sl26 (Lk.w rfl hC)))) <|
              .cons (.no) _ _ (op_guard rfl rfl (gd_b rfl) (fun hC => (op_move (Lk.t rfl)))) <|
              .cons (.no) _ _ (op_guard rfl rfl (gd_b rfl) (fun hC => (op_len_m sl26 (Lk.w rfl hC)))) <|
              .cons (.no) _ _ (op_guard rfl rfl (gd_b rfl) (fun hC => (op_cmp (by simp) (Lk.w rfl hC) (Lk.w rfl hC) rfl))) <|
              .cons (.no) _ _ (op_or (Lk.t rfl) (fun h2 => (Lk.w rfl h2))) <|
              .cons (.no) _ _ (op_move (Lk.t rfl)) <|
              .cons (.no) _ _ (op_guard rfl rfl (gd_b rfl) (fun hC => (op_move (Lk.t rfl)))) <|
              .cons (.no) _ _ (op_guard rfl rfl (gd_b rfl) (fun hC => (op_move (Lk.t rfl)))) <|
              .cons (.no) _ _ (op_guard rfl rfl (gd_b rfl) (fun hC => (op_move (Lk.t rfl)))) <|
              .cons (.no) _ _ (op_guard rfl rfl (gd_b rfl) (fun hC => (op_call (near_ok hnr.2.2) ⟨(Lk.w rfl hC), (Lk.w rfl hC), (Lk.w rfl hC),  trivial⟩))) <|
              .cons (.no) _ _ (op_guard rfl rfl (gd_b rfl) (fun hC => (op_not (Lk.w rfl hC)))) <|
              .cons (.no) _ _ (op_or (Lk.t rfl) (fun h2 => (Lk.w rfl h2))) <|
              .nil) ff rfl fun g13 => ⟨_, _, [0, 1, 2], rfl, (.cons 2 rfl <| .cons 7 rfl <| .cons 8 rfl <| .cons 9 rfl <| .cons 10 rfl <| .cons 11 rfl <| .cons 12 rfl <| .cons 14 rfl <| .cons 97 rfl <| .nil), (.cons 0 rfl <| .cons 1 rfl <| .cons 2 rfl <| .nil), ?_⟩)
          refine JN_then ?_
          refine J_cond (cond_of (Lk.t rfl)) (fun h5 => ?_) (fun h5 => ?_)
          · have h5' := h5
            try simp only [cmpB, Bool.and_eq_true, Bool.or_eq_true, Bool.and_eq_false_iff, Bool.or_eq_false_iff, Bool.not_eq_true', Bool.not_eq_false', Bool.not_eq_true, Bool.not_eq_false, decide_eq_true_eq, decide_eq_false_iff_not, Int.not_lt, Int.not_le, beq_iff_eq, bne_iff_ne, beq_eq_false_iff_ne, bne_eq_false_iff_eq, ne_eq, Decidable.not_not] at h5
            exact (near_dead3 h5' hnr.1 (congrArg Int.ofNat hnr.2.1)).elim
          · have h5' := h5
            try simp only [cmpB, Bool.and_eq_true, Bool.or_eq_true, Bool.and_eq_false_iff, Bool.or_eq_false_iff, Bool.not_eq_true', Bool.not_eq_false', Bool.not_eq_true, Bool.not_eq_false, decide_eq_true_eq, decide_eq_false_iff_not, Int.not_lt, Int.not_le, beq_iff_eq, bne_iff_ne, beq_eq_false_iff_ne, bne_eq_false_iff_eq, ne_eq, Decidable.not_not] at h5
            refine J_skip ?_
            refine JN_block ?_
            refine JN_then ?_
            refine (J_reg [] (
                .cons (.no) _ _ (op_move (Lk.t rfl)) <|
                .cons (.no) _ _ (op_add (Lk.t rfl) (Lk.k rfl) (wrap_id (by omega) (by omega))) <|
                .cons (.no) _ _ (op_assign (Lk.t rfl)) <|
                .nil) ff rfl fun g14 => ⟨_, _, [0, 1, 2], rfl, (.cons 2 rfl <| .cons 7 rfl <| .cons 8 rfl <| .cons 9 rfl <| .cons 10 rfl <| .cons 11 rfl <| .cons 12 rfl <| .cons 14 rfl <| .nil), (.cons 0 rfl <| .cons 1 rfl <| .cons 2 rfl <| .nil), ?_⟩)
            exact JN_again (j + 1) (by omega) (by omega) (To.pick (fun _ => .sub (t := 14) rfl (sp_eq (by rfl)) <| .cons 2 rfl <| .cons 7 rfl <| .cons 8 rfl <| .cons 9 rfl <| .cons 10 rfl <| .cons 11 rfl <| .cons 12 rfl <| .nil) (fun _ => .cons 0 rfl <| .cons 1 rfl <| .cons 2 rfl <| .nil) (ks := [0, 1, 2]) rfl)
        · have h4' := h4
          try simp only [cmpB, Bool.and_eq_true, Bool.or_eq_true, Bool.and_eq_false_iff, Bool.or_eq_false_iff, Bool.not_eq_true', Bool.not_eq_false', Bool.not_eq_true, Bool.not_eq_false, decide_eq_true_eq, decide_eq_false_iff_not, Int.not_lt, Int.not_le, beq_iff_eq, bne_iff_ne, beq_eq_false_iff_ne, bne_eq_false_iff_eq, ne_eq, Decidable.not_not] at h4
          refine J_exit ?_
          refine JN_then_exit ?_
          refine JN_then_exit ?_
          refine JN_exit_here ?_
          refine JN_block ?_
          refine JN_then ?_
          refine (J_reg [] (
              .cons (.no) _ _ (op_move (Lk.t rfl)) <|
              .cons (.no) _ _ (op_add (Lk.t rfl) (Lk.k rfl) (wrap_id (by omega) (by omega))) <|
              .cons (.no) _ _ (op_assign (Lk.t rfl)) <|
              .nil) ff rfl fun g15 => ⟨_, _, [0, 1, 2], rfl, (.cons 2 rfl <| .cons 7 rfl <| .cons 8 rfl <| .cons 9 rfl <| .cons 10 rfl <| .cons 11 rfl <| .nil), (.cons 0 rfl <| .cons 1 rfl <| .cons 2 rfl <| .nil), ?_⟩)
          exact JN_again (i + 1) (by omega) (by omega) (To.pick (fun _ => .sub (t := 11) rfl (sp_eq (by rfl)) <| .cons 2 rfl <| .cons 7 rfl <| .cons 8 rfl <| .cons 9 rfl <| .cons 10 rfl <| .nil) (fun _ => .cons 0 rfl <| .cons 1 rfl <| .cons 2 rfl <| .nil) (ks := [0, 1, 2]) rfl)
      · have h3' := h3
        try simp only [cmpB, Bool.and_eq_true, Bool.or_eq_true, Bool.and_eq_false_iff, Bool.or_eq_false_iff, Bool.not_eq_true', Bool.not_eq_false', Bool.not_eq_true, Bool.not_eq_false, decide_eq_true_eq, decide_eq_false_iff_not, Int.not_lt, Int.not_le, beq_iff_eq, bne_iff_ne, beq_eq_false_iff_ne, bne_eq_false_iff_eq, ne_eq, Decidable.not_not] at h3
        refine J_exit ?_
        refine JN_then_exit ?_
        refine JN_then_exit ?_
        refine JN_exit_here ?_
        refine JN_then ?_
        refine J_seq (J_reg [[], [], [1], [0, 1, 2], [0, 1, 2, 3], [0, 1, 2, 3, 4], [0, 1, 2, 3, 4], [0, 1, 2, 3, 4, 5], [0, 1, 2, 3, 4, 5, 6, 7]] (
            .cons (.rd 0) _ _ (op_get_ag 0 ag28 (Lk.t rfl) rfl mem_blk rfl rfl) <|
            .cons (.no) _ _ (op_move (Lk.t rfl)) <|
            .cons (.no) _ _ (op_call (l_ok (by assumption)) ⟨(Lk.t rfl),  trivial⟩) <|
            .cons (.no) _ _ (op_call (mv_ok) ⟨(Lk.t rfl), (Lk.t rfl),  trivial⟩) <|
            .cons (.no) _ _ (op_move (Lk.t rfl)) <|
            .cons (.no) _ _ (op_extract (Lk.t rfl) rfl) <|
            .cons (.no) _ _ (op_extract (Lk.t rfl) rfl) <|
            .cons (.no) _ _ (op_assign (Lk.t rfl)) <|
            .cons (.no) _ _ (op_assign (Lk.t rfl)) <|
            .nil) (fun _ => mixed) rfl fun g16 => ⟨_, _, [0], rfl, (.cons 2 rfl <| .cons 7 rfl <| .cons 10 rfl <| .cons 19 rfl <| .nil), (.cons 0 rfl <| .nil), ?_⟩)
        refine JN_then ?_
        refine J_seq ?_
        refine J_seq (J_reg [] (
            .cons (.no) _ _ (op_move (Lk.t rfl)) <|
            .cons (.no) _ _ (op_cmp (by simp) (Lk.t rfl) (Lk.k rfl) rfl) <|
            .cons (.no) _ _ (op_move (Lk.t rfl)) <|
            .cons (.rd 0) _ _ (op_guard rfl rfl (gd_b rfl) (fun hC => (op_get_ag 0 ag28 (Lk.t rfl) rfl mem_blk rfl rfl))) <|
            .cons (.no) _ _ (op_guard rfl rfl (gd_b rfl) (fun hC => (op_call (rchk_ok) ⟨(Lk.w rfl hC),  trivial⟩))) <|
            .cons (.no) _ _ (op_guard rfl rfl (gd_b rfl) (fun hC => (op_move (Lk.t rfl)))) <|
            .cons (.no) _ _ (op_guard rfl rfl (gd_b rfl) (fun hC => (op_call (l_ok (by assumption)) ⟨(Lk.w rfl hC),  trivial⟩))) <|
            .cons (.no) _ _ (op_guard rfl rfl (gd_b rfl) (fun hC => (op_call (rlist_ok) ⟨(Lk.w rfl hC),  trivial⟩))) <|
            .cons (.no) _ _ (op_guard rfl rfl (gd_b rfl) (fun hC => (op_buildSlice sl46 zr3 rfl rfl rfl rfl (.cons rfl (Lk.w rfl hC) co_isv rfl (puts_l rfl (Nat.le_of_ble_eq_true rfl)) (.cons rfl (Lk.w rfl hC) co_isv rfl (puts_l rfl (Nat.le_of_ble_eq_true rfl)) .nil))))) <|
            .cons (.no) _ _ (op_guard rfl rfl (gd_b rfl) (fun hC => (op_call (rfirst_ok2) ⟨(Lk.w rfl hC),  trivial⟩))) <|
            .cons (.no) _ _ (op_guard rfl rfl (gd_b rfl) (fun hC => (op_cmp (by simp) (Lk.w rfl hC) (Lk.k rfl) rfl))) <|
            .cons (.no) _ _ (op_and (Lk.t rfl) (fun h2 => (Lk.w rfl h2))) <|
            .nil) ff rfl fun g17 => ⟨_, _, [0], rfl, (.cons 2 rfl <| .cons 7 rfl <| .cons 10 rfl <| .cons 19 rfl <| .cons 116 rfl <| .nil), (.cons 0 rfl <| .nil), ?_⟩)
        refine JN_then ?_
        refine J_cond (cond_of (Lk.t rfl)) (fun h6 => ?_) (fun h6 => ?_)
        · have h6' := h6
          try simp only [cmpB, Bool.and_eq_true, Bool.or_eq_true, Bool.and_eq_false_iff, Bool.or_eq_false_iff, Bool.not_eq_true', Bool.not_eq_false', Bool.not_eq_true, Bool.not_eq_false, decide_eq_true_eq, decide_eq_false_iff_not, Int.not_lt, Int.not_le, beq_iff_eq, bne_iff_ne, beq_eq_false_iff_ne, bne_eq_false_iff_eq, ne_eq, Decidable.not_not] at h6
          exact (near_dead h6' mv_ok0).elim
        · have h6' := h6
          try simp only [cmpB, Bool.and_eq_true, Bool.or_eq_true, Bool.and_eq_false_iff, Bool.or_eq_false_iff, Bool.not_eq_true', Bool.not_eq_false', Bool.not_eq_true, Bool.not_eq_false, decide_eq_true_eq, decide_eq_false_iff_not, Int.not_lt, Int.not_le, beq_iff_eq, bne_iff_ne, beq_eq_false_iff_ne, bne_eq_false_iff_eq, ne_eq, Decidable.not_not] at h6
          refine J_skip ?_
          refine JN_then ?_
          refine J_seq ?_
          refine J_seq (J_reg [] (
              .cons (.no) _ _ (op_assign (Lk.k rfl)) <|
              .nil) ff rfl fun g18 => ⟨_, _, [0], rfl, (.cons 2 rfl <| .cons 7 rfl <| .cons 10 rfl <| .cons 19 rfl <| .cons 20 rfl <| .nil), (.cons 0 rfl <| .nil), ?_⟩)
          refine JN_then ?_
          refine J_block ?_
          refine J_loopc (α := Nat) (fun k => k ≤ 12) (fun k => r.toNat - k) (fun k restR => (20, isv (.int .i64 (k : Int))) :: restR) (fun k restS => restS) (ρc := [(2, _), (7, _), (10, _), (19, _)]) (σc := [_]) 0 (by omega) (To.pick (fun _ => .sub (t := 20) rfl (sp_eq (by rfl)) <| .cons 2 rfl <| .cons 7 rfl <| .cons 10 rfl <| .cons 19 rfl <| .nil) (fun _ => .cons 0 rfl <| .nil) (ks := [0]) rfl) (fun k hI => ?_)
          refine J_seq ?_
          refine J_seq (J_reg [] (
              .cons (.no) _ _ (op_move (Lk.t rfl)) <|
              .cons (.no) _ _ (op_field_own fd28_0 (Lk.t rfl) rfl) <|
              .cons (.rd 0) _ _ (op_get_sc 0 sc3 (Lk.t rfl) rfl mem_blk rfl) <|
              .cons (.no) _ _ (op_cmp (by simp) (Lk.t rfl) (Lk.t rfl) rfl) <|
              .cons (.no) _ _ (op_move (Lk.t rfl)) <|
              .cons (.no) _ _ (op_guard rfl rfl (gd_b rfl) (fun hC => (op_move (Lk.t rfl)))) <|
              .cons (.no) _ _ (op_guard rfl rfl (gd_b rfl) (fun hC => (op_cmp (by simp) (Lk.w rfl hC) (Lk.k rfl) rfl))) <|
              .cons (.no) _ _ (op_and (Lk.t rfl) (fun h2 => (Lk.w rfl h2))) <|
              .nil) ff rfl fun g19 => ⟨_, _, [0], rfl, (.cons 2 rfl <| .cons 7 rfl <| .cons 10 rfl <| .cons 19 rfl <| .cons 20 rfl <| .cons 124 rfl <| .nil), (.cons 0 rfl <| .nil), ?_⟩)
          refine JN_then ?_
          refine J_cond (cond_of (Lk.t rfl)) (fun h7 => ?_) (fun h7 => ?_)
          · have h7' := h7
            try simp only [cmpB, Bool.and_eq_true, Bool.or_eq_true, Bool.and_eq_false_iff, Bool.or_eq_false_iff, Bool.not_eq_true', Bool.not_eq_false', Bool.not_eq_true, Bool.not_eq_false, decide_eq_true_eq, decide_eq_false_iff_not, Int.not_lt, Int.not_le, beq_iff_eq, bne_iff_ne, beq_eq_false_iff_ne, bne_eq_false_iff_eq, ne_eq, Decidable.not_not] at h7
            obtain ⟨hir, he⟩ := h7
            obtain ⟨hs1, hs2, _, _⟩ := (mvE_good (mvR_fin he).1).1.1
            have hnv := mv_near hb.1 hu.1 he (i := (k : Int)) (by omega) (by omega)
            have hnv1 := hnv.1
            refine J_skip ?_
            refine JN_then ?_
            refine J_seq ?_
            refine J_block ?_
            refine J_seq (J_reg [] (
                .cons (.rd 0) _ _ (op_get_ag 0 ag28 (Lk.t rfl) rfl mem_blk rfl rfl) <|
                .cons (.no) _ _ (op_move (Lk.t rfl)) <|
                .cons (.no) _ _ (op_call (Row_ok) ⟨(Lk.t rfl), (Lk.t rfl),  trivial⟩) <|
                .cons (.no) _ _ (op_move (Lk.t rfl)) <|
                .cons (.no) _ _ (op_extract (Lk.t rfl) rfl) <|
                .cons (.no) _ _ (op_extract (Lk.t rfl) rfl) <|
                .cons (.no) _ _ (op_assign (Lk.t rfl)) <|
                .cons (.no) _ _ (op_assign (Lk.t rfl)) <|
                .nil) ff rfl fun g20 => ⟨_, _, [0], rfl, (.cons 2 rfl <| .cons 7 rfl <| .cons 10 rfl <| .cons 19 rfl <| .cons 20 rfl <| .cons 21 rfl <| .nil), (.cons 0 rfl <| .nil), ?_⟩)
            refine JN_then ?_
            refine J_seq (J_reg [[], [0], [], [2], [0, 1, 2, 3], [0, 1, 2, 3, 4], [0, 1, 2, 3, 4, 5], [0, 1, 2, 3, 4, 5, 6], [0, 1, 2, 3, 4, 5], [0, 1, 2, 3, 4, 5, 8], [0, 1, 2, 3, 4, 5, 6, 7, 8, 9], [0, 1, 2, 3, 4, 5, 6, 7, 8, 9, 10], [0, 1, 2, 3, 4, 5, 6, 7, 8, 9, 10, 11], [0, 1, 2, 3, 4, 5, 6, 7, 8, 9, 10, 11, 12], [0, 1, 2, 3, 4, 5, 6, 7, 8, 9, 10, 11, 12], [0, 1, 2, 3, 4, 5, 6, 7, 8, 9, 10, 11, 12, 13, 14], [0, 1, 2, 3, 4, 5, 6, 7, 8, 9, 10, 11, 12, 13, 14, 15], [0, 1, 2, 3, 4, 5, 6, 7, 8, 9, 10, 11, 12], [0, 1, 2, 3, 4, 5, 6, 7, 8, 9, 10, 11, 12], [0, 1, 2, 3, 4, 5, 6, 7, 8, 9, 10, 11, 12, 18], [0, 1, 2, 3, 4, 5, 6, 7, 8, 9, 10, 11, 12, 13, 14, 15, 16, 17, 18, 19], [0, 1, 2, 3, 4, 5, 6, 7, 8, 9, 10, 11, 12, 13, 14, 15, 16, 17, 18, 19, 20], [0, 1, 2, 3, 4, 5, 6, 7, 8, 9, 10, 11, 12, 13, 14, 15, 16, 17, 18, 19, 20, 21]] (
                .cons (.no) _ _ (op_move (Lk.t rfl)) <|
                .cons (.no) _ _ (op_len_m sl26 (Lk.t rfl)) <|
                .cons (.no) _ _ (op_field_own fd28_0 (Lk.t rfl) rfl) <|
                .cons (.rd 0) _ _ (op_get_sc 0 sc3 (Lk.t rfl) rfl mem_blk rfl) <|
                .cons (.no) _ _ (op_cmp (by simp) (Lk.t rfl) (Lk.t rfl) rfl) <|
                .cons (.no) _ _ (op_move (Lk.t rfl)) <|
                .cons (.no) _ _ (op_guard rfl rfl (gd_b rfl) (fun hC => (op_move (Lk.t rfl)))) <|
                .cons (.no) _ _ (op_guard rfl rfl (gd_b rfl) (fun hC => (op_len_m sl26 (Lk.w rfl hC)))) <|
                .cons (.no) _ _ (op_guard rfl rfl (gd_b rfl) (fun hC => (op_move (Lk.t rfl)))) <|
                .cons (.no) _ _ (op_guard rfl rfl (gd_b rfl) (fun hC => (op_len_m sl22 (Lk.w rfl hC)))) <|
                .cons (.no) _ _ (op_guard rfl rfl (gd_b rfl) (fun hC => (op_cmp (by simp) (Lk.w rfl hC) (Lk.w rfl hC) rfl))) <|
                .cons (.no) _ _ (op_or (Lk.t rfl) (fun h2 => (Lk.w rfl h2))) <|
                .cons (.no) _ _ (op_move (Lk.t rfl)) <|
                .cons (.no) _ _ (op_guard rfl rfl (gd_b rfl) (fun hC => (op_move (Lk.t rfl)))) <|
                .cons (.no) _ _ (op_guard rfl rfl (gd_b rfl) (fun hC => (op_move (Lk.t rfl)))) <|
                .cons (.no) _ _ (op_guard rfl rfl (gd_b rfl) (fun hC => (op_index_m 0 sl26 (Lk.w rfl hC) (Lk.w rfl hC) (by omega) (by omega)))) <|
                .cons (.no) _ _ (op_guard rfl rfl (gd_b rfl) (fun hC => (op_load_sc sc37 (Lk.w rfl hC) rfl))) <|
                .cons (.no) _ _ (op_guard rfl rfl (gd_b rfl) (fun hC => (op_move (Lk.t rfl)))) <|
                .cons (.no) _ _ (op_guard rfl rfl (gd_b rfl) (fun hC => (op_move (Lk.t rfl)))) <|
                .cons (.no) _ _ (op_guard rfl rfl (gd_b rfl) (fun hC => (op_call (l_ok (by assumption)) ⟨(Lk.w rfl hC),  trivial⟩))) <|
                .cons (.no) _ _ (op_guard rfl rfl (gd_b rfl) (fun hC => (op_call (near_ok hnv.2.2) ⟨(Lk.w rfl hC), (Lk.w rfl hC), (Lk.w rfl hC),  trivial⟩))) <|
                .cons (.no) _ _ (op_guard rfl rfl (gd_b rfl) (fun hC => (op_not (Lk.w rfl hC)))) <|
                .cons (.no) _ _ (op_or (Lk.t rfl) (fun h2 => (Lk.w rfl h2))) <|
                .nil) (fun _ => mixed) rfl fun g21 => ⟨_, _, [0], rfl, (.cons 2 rfl <| .cons 7 rfl <| .cons 10 rfl <| .cons 19 rfl <| .cons 20 rfl <| .cons 155 rfl <| .nil), (.cons 0 rfl <| .nil), ?_⟩)
            refine JN_then ?_
            refine J_cond (cond_of (Lk.t rfl)) (fun h8 => ?_) (fun h8 => ?_)
            · have h8' := h8
              try simp only [cmpB, Bool.and_eq_true, Bool.or_eq_true, Bool.and_eq_false_iff, Bool.or_eq_false_iff, Bool.not_eq_true', Bool.not_eq_false', Bool.not_eq_true, Bool.not_eq_false, decide_eq_true_eq, decide_eq_false_iff_not, Int.not_lt, Int.not_le, beq_iff_eq, bne_iff_ne, beq_eq_false_iff_ne, bne_eq_false_iff_eq, ne_eq, Decidable.not_not] at h8
              exact (near_dead4 h8' hnv.1 hnv.2.1).elim
            · have h8' := h8
              try simp only [cmpB, Bool.and_eq_true, Bool.or_eq_true, Bool.and_eq_false_iff, Bool.or_eq_false_iff, Bool.not_eq_true', Bool.not_eq_false', Bool.not_eq_true, Bool.not_eq_false, decide_eq_true_eq, decide_eq_false_iff_not, Int.not_lt, Int.not_le, beq_iff_eq, bne_iff_ne, beq_eq_false_iff_ne, bne_eq_false_iff_eq, ne_eq, Decidable.not_not] at h8
              refine J_skip ?_
              refine JN_block ?_
              refine JN_then ?_
              refine (J_reg [] (
                  .cons (.no) _ _ (op_move (Lk.t rfl)) <|
                  .cons (.no) _ _ (op_add (Lk.t rfl) (Lk.k rfl) (wrap_id (by omega) (by omega))) <|
                  .cons (.no) _ _ (op_assign (Lk.t rfl)) <|
                  .nil) ff rfl fun g22 => ⟨_, _, [0], rfl, (.cons 2 rfl <| .cons 7 rfl <| .cons 10 rfl <| .cons 19 rfl <| .cons 20 rfl <| .nil), (.cons 0 rfl <| .nil), ?_⟩)
              exact JN_again (k + 1) (by omega) (by omega) (To.pick (fun _ => .sub (t := 20) rfl (sp_eq (by rfl)) <| .cons 2 rfl <| .cons 7 rfl <| .cons 10 rfl <| .cons 19 rfl <| .nil) (fun _ => .cons 0 rfl <| .nil) (ks := [0]) rfl)
          · have h7' := h7
            try simp only [cmpB, Bool.and_eq_true, Bool.or_eq_true, Bool.and_eq_false_iff, Bool.or_eq_false_iff, Bool.not_eq_true', Bool.not_eq_false', Bool.not_eq_true, Bool.not_eq_false, decide_eq_true_eq, decide_eq_false_iff_not, Int.not_lt, Int.not_le, beq_iff_eq, bne_iff_ne, beq_eq_false_iff_ne, bne_eq_false_iff_eq, ne_eq, Decidable.not_not] at h7
            refine J_exit ?_
            refine JN_then_exit ?_
            refine JN_then_exit ?_
            refine JN_exit_here ?_
            refine JN_then ?_
            refine J_seq (J_reg [] (
                .cons (.no) _ _ (op_move (Lk.t rfl)) <|
                .cons (.no) _ _ (op_call (l_ok (by assumption)) ⟨(Lk.t rfl),  trivial⟩) <|
                .cons (.no) _ _ (op_move (Lk.t rfl)) <|
                .cons (.no) _ _ (op_call (l_ok (by assumption)) ⟨(Lk.t rfl),  trivial⟩) <|
                .cons (.no) _ _ (op_call (Dot_ok) ⟨(Lk.t rfl), (Lk.t rfl),  trivial⟩) <|
                .cons (.no) _ _ (op_move (Lk.t rfl)) <|
                .cons (.no) _ _ (op_extract (Lk.t rfl) rfl) <|
                .cons (.no) _ _ (op_extract (Lk.t rfl) rfl) <|
                .cons (.no) _ _ (op_assign (Lk.t rfl)) <|
                .cons (.no) _ _ (op_assign (Lk.t rfl)) <|
                .nil) ff rfl fun g23 => ⟨_, _, [], rfl, (.cons 2 rfl <| .cons 10 rfl <| .cons 23 rfl <| .nil), (.nil), ?_⟩)
            refine JN_then ?_
            refine J_seq (J_reg [] (
                .cons (.no) _ _ (op_move (Lk.t rfl)) <|
                .cons (.no) _ _ (op_cmp (by simp) (Lk.t rfl) (Lk.k rfl) rfl) <|
                .cons (.no) _ _ (op_move (Lk.t rfl)) <|
                .cons (.no) _ _ (op_guard rfl rfl (gd_b rfl) (fun hC => (op_move (Lk.t rfl)))) <|
                .cons (.no) _ _ (op_guard rfl rfl (gd_b rfl) (fun hC => (op_move (Lk.t rfl)))) <|
                .cons (.no) _ _ (op_guard rfl rfl (gd_b rfl) (fun hC => (op_call (l_ok (by assumption)) ⟨(Lk.w rfl hC),  trivial⟩))) <|
                .cons (.no) _ _ (op_guard rfl rfl (gd_b rfl) (fun hC => (op_move (Lk.t rfl)))) <|
                .cons (.no) _ _ (op_guard rfl rfl (gd_b rfl) (fun hC => (op_call (l_ok (by assumption)) ⟨(Lk.w rfl hC),  trivial⟩))) <|
                .cons (.no) _ _ (op_guard rfl rfl (gd_b rfl) (fun hC => (op_call (near_ok (dot_near hu.1 (near_e hC))) ⟨(Lk.w rfl hC), (Lk.w rfl hC), (Lk.w rfl hC),  trivial⟩))) <|
                .cons (.no) _ _ (op_or (Lk.t rfl) (fun h2 => (Lk.w rfl h2))) <|
                .cons (.no) _ _ (op_assign (Lk.t rfl)) <|
                .nil) ff rfl fun g24 => ⟨_, _, [], rfl, (.cons 6 rfl <| .nil), (.nil), ?_⟩)
            refine JN_then ?_
            refine J_ret ?_
            refine JN_ret (.cons (.tmp (Lk.t rfl)) <| .nil) (sb_trans (sb_res1 sb_refl) ?_)
            exact ret_b (by simp)
end Go.Proofs.Ytmakephdanbmaaa
