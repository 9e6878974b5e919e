/- Printed by a program of ours (walk.py): walks of anatomy and of the first reference. -/
import Derived.Test.YtjfkpnacfnnkhaaDoorKb
import Derived.Test.YtjfkpnacfnnkhaaDoorProg
import Derived.KernelRfl
import Derived.Test.YtjfkpnacfnnkhaaDoorTypes
set_option linter.unusedVariables false
set_option linter.unusedSimpArgs false
set_option maxRecDepth 20000
set_option maxHeartbeats 1000000
namespace Go.Proofs.YtjfkpnacfnnkhaaDoor
open Go Go.Bn
attribute [local irreducible] OpOK
def FmtP : SP := aggp [isv (.int .u64 52), isv (.int .i64 2047), isv (.int .i64 1075)]
theorem bitsX : Ext Tryd.prog 49 Go.Extern.MathFloatBits.float64bits := ⟨_, Tryd.func49, by kernel_rfl, by kernel_rfl, by kernel_rfl, by kernel_rfl⟩
theorem fromX : Ext Tryd.prog 13 Go.Extern.MathFloatBits.float64frombits := ⟨_, Tryd.func13, by kernel_rfl, by kernel_rfl, by kernel_rfl, by kernel_rfl⟩
theorem sign_ok  : Ct Tryd.prog 66 [FmtP] (isv (.int .u64 9223372036854775808)) := by
  refine Ct.of Tryd.func66 rfl (by kernel_rfl) rfl fun c0 => ?_
  refine J_to (To.emps 1) ?_
  refine J_seq (J_reg [] (
      .cons (.wr 0) _ _ (op_box 0 (Lk.t rfl) co_agg rfl) <|
      .cons (.no) _ _ (op_assign (Lk.k rfl)) <|
      .nil) ff rfl fun g1 => ⟨_, _, [0], rfl, (.cons 1 rfl <| .nil), (.cons 0 rfl <| .nil), ?_⟩)
  refine JN_then ?_
  refine J_seq (J_reg [] (
      .cons (.no) _ _ (op_field_own fd103_1 (Lk.t rfl) rfl) <|
      .cons (.rd 0) _ _ (op_get_sc 0 sc3 (Lk.t rfl) rfl mem_blk rfl) <|
      .cons (.no) _ _ (op_add (Lk.t rfl) (Lk.k rfl) (wrap_id (by omega) (by omega))) <|
      .cons (.no) _ _ (op_conv_int it3 it24 (Lk.t rfl) rfl) <|
      .cons (.no) _ _ (op_field_own fd103_0 (Lk.t rfl) rfl) <|
      .cons (.rd 0) _ _ (op_get_sc 0 sc101 (Lk.t rfl) rfl mem_blk rfl) <|
      .cons (.no) _ _ (op_shl (Lk.t rfl) (Lk.t rfl) (by omega) rfl) <|
      .cons (.no) _ _ (op_assign (Lk.t rfl)) <|
      .nil) ff rfl fun g2 => ⟨_, _, [], rfl, (.cons 2 rfl <| .nil), (.nil), ?_⟩)
  refine JN_then ?_
  refine J_ret ?_
  refine JN_ret (.cons (.tmp (Lk.t rfl)) <| .nil) (sb_trans (sb_res1 sb_refl) ?_)
  exact ret_i (by decide +kernel)
theorem inf_ok  : Ct Tryd.prog 70 [FmtP] (isv (.int .u64 9218868437227405312)) := by
  refine Ct.of Tryd.func70 rfl (by kernel_rfl) rfl fun c0 => ?_
  refine J_to (To.emps 1) ?_
  refine J_seq (J_reg [] (
      .cons (.wr 0) _ _ (op_box 0 (Lk.t rfl) co_agg rfl) <|
      .cons (.no) _ _ (op_assign (Lk.k rfl)) <|
      .nil) ff rfl fun g1 => ⟨_, _, [0], rfl, (.cons 1 rfl <| .nil), (.cons 0 rfl <| .nil), ?_⟩)
  refine JN_then ?_
  refine J_seq (J_reg [] (
      .cons (.no) _ _ (op_field_own fd103_1 (Lk.t rfl) rfl) <|
      .cons (.rd 0) _ _ (op_get_sc 0 sc3 (Lk.t rfl) rfl mem_blk rfl) <|
      .cons (.no) _ _ (op_conv_int it3 it24 (Lk.t rfl) rfl) <|
      .cons (.no) _ _ (op_field_own fd103_0 (Lk.t rfl) rfl) <|
      .cons (.rd 0) _ _ (op_get_sc 0 sc101 (Lk.t rfl) rfl mem_blk rfl) <|
      .cons (.no) _ _ (op_shl (Lk.t rfl) (Lk.t rfl) (by omega) rfl) <|
      .cons (.no) _ _ (op_assign (Lk.t rfl)) <|
      .nil) ff rfl fun g2 => ⟨_, _, [], rfl, (.cons 2 rfl <| .nil), (.nil), ?_⟩)
  refine JN_then ?_
  refine J_ret ?_
  refine JN_ret (.cons (.tmp (Lk.t rfl)) <| .nil) (sb_trans (sb_res1 sb_refl) ?_)
  exact ret_i (by decide +kernel)
theorem hid_ok  : Ct Tryd.prog 67 [FmtP] (isv (.int .u64 4503599627370496)) := by
  refine Ct.of Tryd.func67 rfl (by kernel_rfl) rfl fun c0 => ?_
  refine J_to (To.emps 1) ?_
  refine J_seq (J_reg [] (
      .cons (.wr 0) _ _ (op_box 0 (Lk.t rfl) co_agg rfl) <|
      .cons (.no) _ _ (op_assign (Lk.k rfl)) <|
      .nil) ff rfl fun g1 => ⟨_, _, [0], rfl, (.cons 1 rfl <| .nil), (.cons 0 rfl <| .nil), ?_⟩)
  refine JN_then ?_
  refine J_seq (J_reg [] (
      .cons (.no) _ _ (op_field_own fd103_0 (Lk.t rfl) rfl) <|
      .cons (.rd 0) _ _ (op_get_sc 0 sc101 (Lk.t rfl) rfl mem_blk rfl) <|
      .cons (.no) _ _ (op_shl (Lk.k rfl) (Lk.t rfl) (by omega) rfl) <|
      .cons (.no) _ _ (op_assign (Lk.t rfl)) <|
      .nil) ff rfl fun g2 => ⟨_, _, [], rfl, (.cons 2 rfl <| .nil), (.nil), ?_⟩)
  refine JN_then ?_
  refine J_ret ?_
  refine JN_ret (.cons (.tmp (Lk.t rfl)) <| .nil) (sb_trans (sb_res1 sb_refl) ?_)
  exact ret_i (by decide +kernel)
theorem none_ok  : Ct Tryd.prog 69 [FmtP] (isv (.int .u64 9221120237041090561)) := by
  refine Ct.of Tryd.func69 rfl (by kernel_rfl) rfl fun c0 => ?_
  refine J_to (To.emps 1) ?_
  refine J_seq (J_reg [] (
      .cons (.wr 0) _ _ (op_box 0 (Lk.t rfl) co_agg rfl) <|
      .cons (.no) _ _ (op_assign (Lk.k rfl)) <|
      .nil) ff rfl fun g1 => ⟨_, _, [0], rfl, (.cons 1 rfl <| .nil), (.cons 0 rfl <| .nil), ?_⟩)
  refine JN_then ?_
  refine J_seq (J_reg [[], [0], [], [0, 1, 2], [0, 1, 2, 3], [0, 1, 2, 3, 4], [], [6], [6, 7], [0, 1, 2, 3, 4, 5, 6, 7, 8], [0, 1, 2, 3, 4, 5, 6, 7, 8, 9]] (
      .cons (.rd 0) _ _ (op_get_ag 0 ag103 (Lk.t rfl) rfl mem_blk rfl rfl) <|
      .cons (.no) _ _ (op_call (inf_ok) ⟨(Lk.t rfl),  trivial⟩) <|
      .cons (.rd 0) _ _ (op_get_ag 0 ag103 (Lk.t rfl) rfl mem_blk rfl rfl) <|
      .cons (.no) _ _ (op_call (hid_ok) ⟨(Lk.t rfl),  trivial⟩) <|
      .cons (.no) _ _ (op_shr (Lk.t rfl) (Lk.k rfl) (by omega) rfl) <|
      .cons (.no) _ _ (op_bits (by simp) (Lk.t rfl) (Lk.t rfl) rfl) <|
      .cons (.no) _ _ (op_field_own fd103_0 (Lk.t rfl) rfl) <|
      .cons (.rd 0) _ _ (op_get_sc 0 sc101 (Lk.t rfl) rfl mem_blk rfl) <|
      .cons (.no) _ _ (op_quo (Lk.t rfl) (Lk.k rfl) (by omega) rfl) <|
      .cons (.no) _ _ (op_bits (by simp) (Lk.t rfl) (Lk.t rfl) rfl) <|
      .cons (.no) _ _ (op_assign (Lk.t rfl)) <|
      .nil) (fun _ => mixed) rfl fun g2 => ⟨_, _, [], rfl, (.cons 2 rfl <| .nil), (.nil), ?_⟩)
  refine JN_then ?_
  refine J_ret ?_
  refine JN_ret (.cons (.tmp (Lk.t rfl)) <| .nil) (sb_trans (sb_res1 sb_refl) ?_)
  exact ret_i (by decide +kernel)
theorem nan_ok {b : Nat} (hb : b < 2 ^ 64) : Ct Tryd.prog 68 [isv (.int .u64 (b : Int)), FmtP] (isv (.bool (nanB b))) := by
  refine Ct.of Tryd.func68 rfl (by kernel_rfl) rfl fun c0 => ?_
  refine J_to (To.emps 1) ?_
  refine J_seq (J_reg [] (
      .cons (.wr 0) _ _ (op_box 0 (Lk.t rfl) co_agg rfl) <|
      .cons (.no) _ _ (op_assign (Lk.k rfl)) <|
      .nil) ff rfl fun g1 => ⟨_, _, [0], rfl, (.cons 0 rfl <| .cons 3 rfl <| .nil), (.cons 0 rfl <| .nil), ?_⟩)
  refine JN_then ?_
  refine J_seq (J_reg [[], [], [1], [0, 1, 2], [], [1, 2, 4], [0, 1, 2, 3, 4, 5], [0, 1, 2, 3, 4, 5, 6]] (
      .cons (.no) _ _ (op_move (Lk.t rfl)) <|
      .cons (.rd 0) _ _ (op_get_ag 0 ag103 (Lk.t rfl) rfl mem_blk rfl rfl) <|
      .cons (.no) _ _ (op_call (sign_ok) ⟨(Lk.t rfl),  trivial⟩) <|
      .cons (.no) _ _ (op_bits (by simp) (Lk.t rfl) (Lk.t rfl) rfl) <|
      .cons (.rd 0) _ _ (op_get_ag 0 ag103 (Lk.t rfl) rfl mem_blk rfl rfl) <|
      .cons (.no) _ _ (op_call (inf_ok) ⟨(Lk.t rfl),  trivial⟩) <|
      .cons (.no) _ _ (op_cmp (by simp) (Lk.t rfl) (Lk.t rfl) rfl) <|
      .cons (.no) _ _ (op_assign (Lk.t rfl)) <|
      .nil) (fun _ => mixed) rfl fun g2 => ⟨_, _, [], rfl, (.cons 4 rfl <| .nil), (.nil), ?_⟩)
  refine JN_then ?_
  refine J_ret ?_
  refine JN_ret (.cons (.tmp (Lk.t rfl)) <| .nil) (sb_trans (sb_res1 sb_refl) ?_)
  exact ret_b (by rw [nanB_iff, amount_bits b hb]; unfold cmpB; rw [decide_eq_decide]; omega)
theorem canon_ok {b : Nat} (hb : b < 2 ^ 64) : Ct Tryd.prog 65 [isv (.int .u64 (b : Int)), FmtP] (isv (.int .u64 (cn b : Int))) := by
  refine Ct.of Tryd.func65 rfl (by kernel_rfl) rfl fun c0 => ?_
  refine J_to (To.emps 1) ?_
  refine J_seq (J_reg [] (
      .cons (.wr 0) _ _ (op_box 0 (Lk.t rfl) co_agg rfl) <|
      .cons (.no) _ _ (op_assign (Lk.k rfl)) <|
      .nil) ff rfl fun g1 => ⟨_, _, [0], rfl, (.cons 0 rfl <| .cons 3 rfl <| .nil), (.cons 0 rfl <| .nil), ?_⟩)
  refine JN_then ?_
  refine J_seq ?_
  refine J_seq (J_reg [] (
      .cons (.no) _ _ (op_move (Lk.t rfl)) <|
      .cons (.rd 0) _ _ (op_get_ag 0 ag103 (Lk.t rfl) rfl mem_blk rfl rfl) <|
      .cons (.no) _ _ (op_call (nan_ok hb) ⟨(Lk.t rfl), (Lk.t rfl),  trivial⟩) <|
      .nil) ff rfl fun g2 => ⟨_, _, [0], rfl, (.cons 0 rfl <| .cons 3 rfl <| .cons 7 rfl <| .nil), (.cons 0 rfl <| .nil), ?_⟩)
  refine JN_then ?_
  refine J_cond (cond_of (Lk.t rfl)) (fun h1 => ?_) (fun h1 => ?_)
  · have h1' := h1
    try simp only [cmpB, Bool.and_eq_true, Bool.or_eq_true, Bool.and_eq_false_iff, Bool.or_eq_false_iff, Bool.not_eq_true', Bool.not_eq_false', Bool.not_eq_true, Bool.not_eq_false, decide_eq_true_eq, decide_eq_false_iff_not, Int.not_lt, Int.not_le, beq_iff_eq, bne_iff_ne, beq_eq_false_iff_ne, bne_eq_false_iff_eq, ne_eq, Decidable.not_not] at h1
    refine J_seq (J_reg [] (
        .cons (.rd 0) _ _ (op_get_ag 0 ag103 (Lk.t rfl) rfl mem_blk rfl rfl) <|
        .cons (.no) _ _ (op_call (none_ok) ⟨(Lk.t rfl),  trivial⟩) <|
        .cons (.no) _ _ (op_assign (Lk.t rfl)) <|
        .nil) ff rfl fun g3 => ⟨_, _, [], rfl, (.cons 4 rfl <| .nil), (.nil), ?_⟩)
    refine JN_then ?_
    refine J_ret ?_
    refine JN_then_ret ?_
    refine JN_ret (.cons (.tmp (Lk.t rfl)) <| .nil) (sb_trans (sb_res1 sb_refl) ?_)
    exact ret_i (by rw [cn_of_nan h1]; rfl)
  · have h1' := h1
    try simp only [cmpB, Bool.and_eq_true, Bool.or_eq_true, Bool.and_eq_false_iff, Bool.or_eq_false_iff, Bool.not_eq_true', Bool.not_eq_false', Bool.not_eq_true, Bool.not_eq_false, decide_eq_true_eq, decide_eq_false_iff_not, Int.not_lt, Int.not_le, beq_iff_eq, bne_iff_ne, beq_eq_false_iff_ne, bne_eq_false_iff_eq, ne_eq, Decidable.not_not] at h1
    refine J_skip ?_
    refine JN_then ?_
    refine J_seq (J_reg [] (
        .cons (.no) _ _ (op_move (Lk.t rfl)) <|
        .cons (.no) _ _ (op_assign (Lk.t rfl)) <|
        .nil) ff rfl fun g4 => ⟨_, _, [], rfl, (.cons 4 rfl <| .nil), (.nil), ?_⟩)
    refine JN_then ?_
    refine J_ret ?_
    refine JN_ret (.cons (.tmp (Lk.t rfl)) <| .nil) (sb_trans (sb_res1 sb_refl) ?_)
    exact ret_i (by rw [cn_of_not h1])
theorem canon_bit {x : Nat} : Ct Tryd.prog 65 [bitp x, FmtP] (isv (.int .u64 (x : Int))) := Ct.bit (canon_ok (b := 0) (by decide)).1 fun b h1 h2 => (canon_ok h1).res fun v c h => by rw [h2] at h; exact h
theorem split_ok {b : Nat} (hb : b < 2 ^ 64) : Ct Tryd.prog 62 [isv (.int .u64 (b : Int)), FmtP] (tupp [anyp, isv (.int .i64 (expo (cn b) : Int)), isv (.int .u64 (frac (cn b) : Int))]) := by
  refine Ct.of Tryd.func62 rfl (by kernel_rfl) rfl fun c0 => ?_
  refine J_to (To.emps 1) ?_
  refine J_seq (J_reg [] (
      .cons (.wr 0) _ _ (op_box 0 (Lk.t rfl) co_agg rfl) <|
      .cons (.no) _ _ (op_assign (Lk.k rfl)) <|
      .cons (.no) _ _ (op_assign (Lk.k rfl)) <|
      .cons (.no) _ _ (op_assign (Lk.k rfl)) <|
      .nil) ff rfl fun g1 => ⟨_, _, [0], rfl, (.cons 0 rfl <| .cons 3 rfl <| .nil), (.cons 0 rfl <| .nil), ?_⟩)
  refine JN_then ?_
  refine J_seq (J_reg [] (
      .cons (.no) _ _ (op_move (Lk.t rfl)) <|
      .cons (.rd 0) _ _ (op_get_ag 0 ag103 (Lk.t rfl) rfl mem_blk rfl rfl) <|
      .cons (.no) _ _ (op_call (canon_ok hb) ⟨(Lk.t rfl), (Lk.t rfl),  trivial⟩) <|
      .cons (.no) _ _ (op_assign (Lk.t rfl)) <|
      .nil) ff rfl fun g2 => ⟨_, _, [0], rfl, (.cons 3 rfl <| .cons 7 rfl <| .nil), (.cons 0 rfl <| .nil), ?_⟩)
  refine JN_then ?_
  refine J_seq (J_reg [[], [], [1], [0, 1, 2], [0, 1, 2, 3], [], [], [6], [5, 6, 7], [], [9], [9, 10], [5, 6, 7, 8, 9, 10, 11], [5, 6, 7, 8, 9, 10, 11, 12], [], [], [1, 2, 15], [1, 2, 15, 16], [1, 2, 14, 15, 16, 17], [0, 1, 2, 3, 4, 15, 16], [0, 1, 2, 3, 4, 5, 6, 7, 8, 9, 10, 11, 12, 13, 15, 16, 19], [0, 1, 2, 3, 4, 5, 6, 7, 8, 9, 10, 11, 12, 13, 14, 15, 16, 17, 18, 19, 20]] (
      .cons (.no) _ _ (op_move (Lk.t rfl)) <|
      .cons (.rd 0) _ _ (op_get_ag 0 ag103 (Lk.t rfl) rfl mem_blk rfl rfl) <|
      .cons (.no) _ _ (op_call (sign_ok) ⟨(Lk.t rfl),  trivial⟩) <|
      .cons (.no) _ _ (op_bits (by simp) (Lk.t rfl) (Lk.t rfl) rfl) <|
      .cons (.no) _ _ (op_cmp (by simp) (Lk.t rfl) (Lk.k rfl) rfl) <|
      .cons (.no) _ _ (op_move (Lk.t rfl)) <|
      .cons (.no) _ _ (op_field_own fd103_0 (Lk.t rfl) rfl) <|
      .cons (.rd 0) _ _ (op_get_sc 0 sc101 (Lk.t rfl) rfl mem_blk rfl) <|
      .cons (.no) _ _ (op_shr (Lk.t rfl) (Lk.t rfl) (by omega) (shr_bits (cn b) 52 (by omega))) <|
      .cons (.no) _ _ (op_field_own fd103_1 (Lk.t rfl) rfl) <|
      .cons (.rd 0) _ _ (op_get_sc 0 sc3 (Lk.t rfl) rfl mem_blk rfl) <|
      .cons (.no) _ _ (op_conv_int it3 it24 (Lk.t rfl) (by decide +kernel : _ = (2047 : Int))) <|
      .cons (.no) _ _ (op_bits (by simp) (Lk.t rfl) (Lk.t rfl) (expo_bits hb)) <|
      .cons (.no) _ _ (op_conv_int it24 it3 (Lk.t rfl) (expo_i64 _)) <|
      .cons (.no) _ _ (op_move (Lk.t rfl)) <|
      .cons (.rd 0) _ _ (op_get_ag 0 ag103 (Lk.t rfl) rfl mem_blk rfl rfl) <|
      .cons (.no) _ _ (op_call (hid_ok) ⟨(Lk.t rfl),  trivial⟩) <|
      .cons (.no) _ _ (op_sub (Lk.t rfl) (Lk.k rfl) (by decide +kernel : _ = (4503599627370495 : Int))) <|
      .cons (.no) _ _ (op_bits (by simp) (Lk.t rfl) (Lk.t rfl) (frac_bits hb)) <|
      .cons (.no) _ _ (op_assign (Lk.t rfl)) <|
      .cons (.no) _ _ (op_assign (Lk.t rfl)) <|
      .cons (.no) _ _ (op_assign (Lk.t rfl)) <|
      .nil) (fun _ => mixed) rfl fun g3 => ⟨_, _, [], rfl, (.cons 4 rfl <| .cons 5 rfl <| .cons 6 rfl <| .nil), (.nil), ?_⟩)
  refine JN_then ?_
  refine J_ret ?_
  refine JN_ret (.cons (.tmp (Lk.t rfl)) <| .cons (.tmp (Lk.t rfl)) <| .cons (.tmp (Lk.t rfl)) <| .nil) (sb_trans (sb_res (.cons sb_refl <| .cons sb_refl <| .cons sb_refl <| .nil)) ?_)
  exact fun _ _ _ ⟨vs, h1, h2⟩ => ⟨vs, h1, HL.sub1 h2⟩
theorem of_ok  : Ct Tryd.prog 56 [isv (.int .i64 0)] (FmtP) := by
  refine Ct.of Tryd.func56 rfl (by kernel_rfl) rfl fun c0 => ?_
  refine J_to (To.emps 1) ?_
  refine J_seq (J_reg [] (
      .cons (.wr 0) _ _ (op_alloc 0 zr103 rfl rfl) <|
      .nil) ff rfl fun g1 => ⟨_, _, [0], rfl, (.cons 0 rfl <| .cons 2 rfl <| .nil), (.cons 0 rfl <| .nil), ?_⟩)
  refine JN_then ?_
  refine J_seq (J_reg [] (
      .cons (.no) _ _ (op_build zr103 rfl pl103 (.cons rfl (Lk.k rfl) co_isv rfl (puts_l rfl (Nat.le_of_ble_eq_true rfl)) (.cons rfl (Lk.k rfl) co_isv rfl (puts_l rfl (Nat.le_of_ble_eq_true rfl)) (.cons rfl (Lk.k rfl) co_isv rfl (puts_l rfl (Nat.le_of_ble_eq_true rfl)) .nil)))) <|
      .cons (.no) _ _ (op_build zr103 rfl pl103 (.cons rfl (Lk.k rfl) co_isv rfl (puts_l rfl (Nat.le_of_ble_eq_true rfl)) (.cons rfl (Lk.k rfl) co_isv rfl (puts_l rfl (Nat.le_of_ble_eq_true rfl)) (.cons rfl (Lk.k rfl) co_isv rfl (puts_l rfl (Nat.le_of_ble_eq_true rfl)) .nil)))) <|
      .cons (.no) _ _ (op_build_ar zr112 rfl ar112 (.cons rfl (Lk.t rfl) co_agg rfl (puts_l rfl (by decide)) (.cons rfl (Lk.t rfl) co_agg rfl (puts_l rfl (by decide)) .nil))) <|
      .cons (.no) _ _ (op_move (Lk.t rfl)) <|
      .cons (.no) _ _ (op_indexv_ag ar112 ag103 (Lk.t rfl) (Lk.t rfl) (by omega) (by omega) rfl) <|
      .cons (.wr 0) _ _ (op_store_b 0 (Lk.t rfl) (Lk.t rfl) co_agg sz103 rfl rfl rfl) <|
      .nil) ff rfl fun g2 => ⟨_, _, [0], rfl, (.cons 2 rfl <| .nil), (.cons 0 rfl <| .nil), ?_⟩)
  refine JN_then ?_
  refine J_ret ?_
  refine JN_ret (.cons (.ag 0 (Lk.t rfl) ag103 rfl rfl rfl) <| .nil) (sb_trans (sb_res1 sb_refl) ?_)
  exact sb_refl
theorem cls_ok {b : Nat} (hb : b < 2 ^ 64) : Ct Tryd.prog 55 [isv (.int .u64 (b : Int)), FmtP] (isv (.int .i64 (clsI (cn b)))) := by
  refine Ct.of Tryd.func55 rfl (by kernel_rfl) rfl fun c0 => ?_
  refine J_to (To.emps 1) ?_
  refine J_seq (J_reg [] (
      .cons (.wr 0) _ _ (op_box 0 (Lk.t rfl) co_agg rfl) <|
      .cons (.no) _ _ (op_assign (Lk.k rfl)) <|
      .nil) ff rfl fun g1 => ⟨_, _, [0], rfl, (.cons 0 rfl <| .cons 3 rfl <| .nil), (.cons 0 rfl <| .nil), ?_⟩)
  refine JN_then ?_
  refine J_seq (J_reg [] (
      .cons (.no) _ _ (op_move (Lk.t rfl)) <|
      .cons (.rd 0) _ _ (op_get_ag 0 ag103 (Lk.t rfl) rfl mem_blk rfl rfl) <|
      .cons (.no) _ _ (op_call (split_ok hb) ⟨(Lk.t rfl), (Lk.t rfl),  trivial⟩) <|
      .cons (.no) _ _ (op_move (Lk.t rfl)) <|
      .cons (.no) _ _ (op_extract (Lk.t rfl) rfl) <|
      .cons (.no) _ _ (op_extract (Lk.t rfl) rfl) <|
      .cons (.no) _ _ (op_extract (Lk.t rfl) rfl) <|
      .cons (.no) _ _ (op_assign (Lk.t rfl)) <|
      .cons (.no) _ _ (op_assign (Lk.t rfl)) <|
      .cons (.no) _ _ (op_assign (Lk.t rfl)) <|
      .nil) ff rfl fun g2 => ⟨_, _, [0], rfl, (.cons 3 rfl <| .cons 6 rfl <| .cons 7 rfl <| .nil), (.cons 0 rfl <| .nil), ?_⟩)
  refine JN_then ?_
  refine J_seq ?_
  refine J_block ?_
  refine J_seq (J_reg [] (
      .cons (.no) _ _ (op_move (Lk.t rfl)) <|
      .cons (.no) _ _ (op_field_own fd103_1 (Lk.t rfl) rfl) <|
      .cons (.rd 0) _ _ (op_get_sc 0 sc3 (Lk.t rfl) rfl mem_blk rfl) <|
      .cons (.no) _ _ (op_cmp (by simp) (Lk.t rfl) (Lk.t rfl) rfl) <|
      .cons (.no) _ _ (op_move (Lk.t rfl)) <|
      .cons (.no) _ _ (op_guard rfl rfl (gd_b rfl) (fun hC => (op_move (Lk.t rfl)))) <|
      .cons (.no) _ _ (op_guard rfl rfl (gd_b rfl) (fun hC => (op_cmp (by simp) (Lk.w rfl hC) (Lk.k rfl) rfl))) <|
      .cons (.no) _ _ (op_and (Lk.t rfl) (fun h2 => (Lk.w rfl h2))) <|
      .cons (.no) _ _ (op_assign (Lk.t rfl)) <|
      .nil) ff rfl fun g3 => ⟨_, _, [0], rfl, (.cons 3 rfl <| .cons 6 rfl <| .cons 7 rfl <| .cons 15 rfl <| .nil), (.cons 0 rfl <| .nil), ?_⟩)
  refine JN_then ?_
  refine J_cond (cond_of (Lk.t rfl)) (fun h1 => ?_) (fun h1 => ?_)
  · have h1' := h1
    try simp only [cmpB, Bool.and_eq_true, Bool.or_eq_true, Bool.and_eq_false_iff, Bool.or_eq_false_iff, Bool.not_eq_true', Bool.not_eq_false', Bool.not_eq_true, Bool.not_eq_false, decide_eq_true_eq, decide_eq_false_iff_not, Int.not_lt, Int.not_le, beq_iff_eq, bne_iff_ne, beq_eq_false_iff_ne, bne_eq_false_iff_eq, ne_eq, Decidable.not_not] at h1
    refine J_seq (J_reg [] (
        .cons (.no) _ _ (op_assign (Lk.k rfl)) <|
        .nil) ff rfl fun g4 => ⟨_, _, [], rfl, (.cons 4 rfl <| .nil), (.nil), ?_⟩)
    refine JN_then ?_
    refine J_ret ?_
    refine JN_block_ret ?_
    refine JN_then_ret ?_
    refine JN_ret (.cons (.tmp (Lk.t rfl)) <| .nil) (sb_trans (sb_res1 sb_refl) ?_)
    exact ret_i (by unfold clsI; (repeat' split) <;> omega)
  · have h1' := h1
    try simp only [cmpB, Bool.and_eq_true, Bool.or_eq_true, Bool.and_eq_false_iff, Bool.or_eq_false_iff, Bool.not_eq_true', Bool.not_eq_false', Bool.not_eq_true, Bool.not_eq_false, decide_eq_true_eq, decide_eq_false_iff_not, Int.not_lt, Int.not_le, beq_iff_eq, bne_iff_ne, beq_eq_false_iff_ne, bne_eq_false_iff_eq, ne_eq, Decidable.not_not] at h1
    refine J_seq (J_reg [] (
        .cons (.no) _ _ (op_move (Lk.t rfl)) <|
        .cons (.no) _ _ (op_field_own fd103_1 (Lk.t rfl) rfl) <|
        .cons (.rd 0) _ _ (op_get_sc 0 sc3 (Lk.t rfl) rfl mem_blk rfl) <|
        .cons (.no) _ _ (op_cmp (by simp) (Lk.t rfl) (Lk.t rfl) rfl) <|
        .cons (.no) _ _ (op_assign (Lk.t rfl)) <|
        .nil) ff rfl fun g5 => ⟨_, _, [], rfl, (.cons 6 rfl <| .cons 7 rfl <| .cons 24 rfl <| .nil), (.nil), ?_⟩)
    refine JN_then ?_
    refine J_cond (cond_of (Lk.t rfl)) (fun h2 => ?_) (fun h2 => ?_)
    · have h2' := h2
      try simp only [cmpB, Bool.and_eq_true, Bool.or_eq_true, Bool.and_eq_false_iff, Bool.or_eq_false_iff, Bool.not_eq_true', Bool.not_eq_false', Bool.not_eq_true, Bool.not_eq_false, decide_eq_true_eq, decide_eq_false_iff_not, Int.not_lt, Int.not_le, beq_iff_eq, bne_iff_ne, beq_eq_false_iff_ne, bne_eq_false_iff_eq, ne_eq, Decidable.not_not] at h2
      refine J_seq (J_reg [] (
          .cons (.no) _ _ (op_assign (Lk.k rfl)) <|
          .nil) ff rfl fun g6 => ⟨_, _, [], rfl, (.cons 4 rfl <| .nil), (.nil), ?_⟩)
      refine JN_then ?_
      refine J_ret ?_
      refine JN_block_ret ?_
      refine JN_then_ret ?_
      refine JN_ret (.cons (.tmp (Lk.t rfl)) <| .nil) (sb_trans (sb_res1 sb_refl) ?_)
      exact ret_i (by unfold clsI; (repeat' split) <;> omega)
    · have h2' := h2
      try simp only [cmpB, Bool.and_eq_true, Bool.or_eq_true, Bool.and_eq_false_iff, Bool.or_eq_false_iff, Bool.not_eq_true', Bool.not_eq_false', Bool.not_eq_true, Bool.not_eq_false, decide_eq_true_eq, decide_eq_false_iff_not, Int.not_lt, Int.not_le, beq_iff_eq, bne_iff_ne, beq_eq_false_iff_ne, bne_eq_false_iff_eq, ne_eq, Decidable.not_not] at h2
      refine J_seq (J_reg [] (
          .cons (.no) _ _ (op_move (Lk.t rfl)) <|
          .cons (.no) _ _ (op_cmp (by simp) (Lk.t rfl) (Lk.k rfl) rfl) <|
          .cons (.no) _ _ (op_move (Lk.t rfl)) <|
          .cons (.no) _ _ (op_guard rfl rfl (gd_b rfl) (fun hC => (op_move (Lk.t rfl)))) <|
          .cons (.no) _ _ (op_guard rfl rfl (gd_b rfl) (fun hC => (op_cmp (by simp) (Lk.w rfl hC) (Lk.k rfl) rfl))) <|
          .cons (.no) _ _ (op_and (Lk.t rfl) (fun h2 => (Lk.w rfl h2))) <|
          .cons (.no) _ _ (op_assign (Lk.t rfl)) <|
          .nil) ff rfl fun g7 => ⟨_, _, [], rfl, (.cons 6 rfl <| .cons 29 rfl <| .nil), (.nil), ?_⟩)
      refine JN_then ?_
      refine J_cond (cond_of (Lk.t rfl)) (fun h3 => ?_) (fun h3 => ?_)
      · have h3' := h3
        try simp only [cmpB, Bool.and_eq_true, Bool.or_eq_true, Bool.and_eq_false_iff, Bool.or_eq_false_iff, Bool.not_eq_true', Bool.not_eq_false', Bool.not_eq_true, Bool.not_eq_false, decide_eq_true_eq, decide_eq_false_iff_not, Int.not_lt, Int.not_le, beq_iff_eq, bne_iff_ne, beq_eq_false_iff_ne, bne_eq_false_iff_eq, ne_eq, Decidable.not_not] at h3
        refine J_seq (J_reg [] (
            .cons (.no) _ _ (op_assign (Lk.k rfl)) <|
            .nil) ff rfl fun g8 => ⟨_, _, [], rfl, (.cons 4 rfl <| .nil), (.nil), ?_⟩)
        refine JN_then ?_
        refine J_ret ?_
        refine JN_block_ret ?_
        refine JN_then_ret ?_
        refine JN_ret (.cons (.tmp (Lk.t rfl)) <| .nil) (sb_trans (sb_res1 sb_refl) ?_)
        exact ret_i (by unfold clsI; (repeat' split) <;> omega)
      · have h3' := h3
        try simp only [cmpB, Bool.and_eq_true, Bool.or_eq_true, Bool.and_eq_false_iff, Bool.or_eq_false_iff, Bool.not_eq_true', Bool.not_eq_false', Bool.not_eq_true, Bool.not_eq_false, decide_eq_true_eq, decide_eq_false_iff_not, Int.not_lt, Int.not_le, beq_iff_eq, bne_iff_ne, beq_eq_false_iff_ne, bne_eq_false_iff_eq, ne_eq, Decidable.not_not] at h3
        refine J_seq (J_reg [] (
            .cons (.no) _ _ (op_move (Lk.t rfl)) <|
            .cons (.no) _ _ (op_cmp (by simp) (Lk.t rfl) (Lk.k rfl) rfl) <|
            .cons (.no) _ _ (op_assign (Lk.t rfl)) <|
            .nil) ff rfl fun g9 => ⟨_, _, [], rfl, (.cons 36 rfl <| .nil), (.nil), ?_⟩)
        refine JN_then ?_
        refine J_cond (cond_of (Lk.t rfl)) (fun h4 => ?_) (fun h4 => ?_)
        · have h4' := h4
          try simp only [cmpB, Bool.and_eq_true, Bool.or_eq_true, Bool.and_eq_false_iff, Bool.or_eq_false_iff, Bool.not_eq_true', Bool.not_eq_false', Bool.not_eq_true, Bool.not_eq_false, decide_eq_true_eq, decide_eq_false_iff_not, Int.not_lt, Int.not_le, beq_iff_eq, bne_iff_ne, beq_eq_false_iff_ne, bne_eq_false_iff_eq, ne_eq, Decidable.not_not] at h4
          refine J_seq (J_reg [] (
              .cons (.no) _ _ (op_assign (Lk.k rfl)) <|
              .nil) ff rfl fun g10 => ⟨_, _, [], rfl, (.cons 4 rfl <| .nil), (.nil), ?_⟩)
          refine JN_then ?_
          refine J_ret ?_
          refine JN_block_ret ?_
          refine JN_then_ret ?_
          refine JN_ret (.cons (.tmp (Lk.t rfl)) <| .nil) (sb_trans (sb_res1 sb_refl) ?_)
          exact ret_i (by unfold clsI; (repeat' split) <;> omega)
        · have h4' := h4
          try simp only [cmpB, Bool.and_eq_true, Bool.or_eq_true, Bool.and_eq_false_iff, Bool.or_eq_false_iff, Bool.not_eq_true', Bool.not_eq_false', Bool.not_eq_true, Bool.not_eq_false, decide_eq_true_eq, decide_eq_false_iff_not, Int.not_lt, Int.not_le, beq_iff_eq, bne_iff_ne, beq_eq_false_iff_ne, bne_eq_false_iff_eq, ne_eq, Decidable.not_not] at h4
          refine J_skip ?_
          refine JN_block ?_
          refine JN_then ?_
          refine J_seq (J_reg [] (
              .cons (.no) _ _ (op_assign (Lk.k rfl)) <|
              .nil) ff rfl fun g11 => ⟨_, _, [], rfl, (.cons 4 rfl <| .nil), (.nil), ?_⟩)
          refine JN_then ?_
          refine J_ret ?_
          refine JN_ret (.cons (.tmp (Lk.t rfl)) <| .nil) (sb_trans (sb_res1 sb_refl) ?_)
          exact ret_i (by unfold clsI; (repeat' split) <;> omega)
end Go.Proofs.YtjfkpnacfnnkhaaDoor
