/- Printed by a program of ours (walk.py): walks of moves, noises and roots, of the law and its examples. -/
import Derived.Test.YtcnffgbncbadbaaTyp
import Derived.Test.YtcnffgbncbadbaaProg
import Derived.KernelRfl
import Derived.Test.YtcnffgbncbadbaaTypes
import Derived.Test.YtcnffgbncbadbaaWBlk
import Derived.Test.YtcnffgbncbadbaaWLdexp
import Derived.Test.YtcnffgbncbadbaaGo
set_option linter.unusedVariables false
set_option linter.unusedSimpArgs false
set_option maxRecDepth 20000
set_option maxHeartbeats 1000000
namespace Go.Proofs.Ytcnffgbncbadbaa
open Go Go.Bn
attribute [local irreducible] OpOK
theorem mF_ok {ps : List Prt} {t : Int} : Ct Try.prog 12 [MotP ps, isv (.int .i64 t)] (resM (blkM moveB ps t)) := by
  refine Ct.of Try.func12 rfl (by kernel_rfl) rfl fun c0 => ?_
  refine J_to (To.emps 2) ?_
  refine J_seq (J_reg [] (
      .cons (.wr 0) _ _ (op_box 0 (Lk.t rfl) co_agg rfl) <|
      .cons (.wr 1) _ _ (op_alloc 1 zr34 rfl rfl) <|
      .cons (.no) _ _ (op_assign (Lk.k rfl)) <|
      .nil) ff rfl fun g1 => ⟨_, _, [0, 1], rfl, (.cons 1 rfl <| .cons 2 rfl <| .cons 4 rfl <| .nil), (.cons 0 rfl <| .cons 1 rfl <| .nil), ?_⟩)
  refine JN_then ?_
  refine J_seq (J_reg [] (
      .cons (.rd 0) _ _ (op_get_ag 0 ag26 (Lk.t rfl) rfl mem_blk rfl rfl) <|
      .cons (.no) _ _ (op_move (Lk.t rfl)) <|
      .cons (.no) _ _ (op_call (mblk_ok moveB_ok) ⟨(Lk.t rfl), (Lk.t rfl), (Lk.fnq (α := Prt × Nat) (C := fun _ => True) (ps := fun i => [aggp (prtC i.1), flp i.2]) (R := fun i => slm (slm flp) (moveB i.1 i.2)) (fun i _ => fblk_ok) fblk_ok_has),  trivial⟩) <|
      .cons (.no) _ _ (op_extract (Lk.t rfl) rfl) <|
      .cons (.no) _ _ (op_extract (Lk.t rfl) rfl) <|
      .cons (.wr 1) _ _ (op_store_b 1 (Lk.t rfl) (Lk.t rfl) co_agg sz34 rfl rfl rfl) <|
      .cons (.no) _ _ (op_assign (Lk.t rfl)) <|
      .nil) ff rfl fun g2 => ⟨_, _, [1], rfl, (.cons 4 rfl <| .cons 5 rfl <| .nil), (.cons 1 rfl <| .nil), ?_⟩)
  refine JN_then ?_
  refine J_ret ?_
  refine JN_ret (.cons (.ag 0 (Lk.t rfl) ag34 rfl rfl rfl) <| .cons (.tmp (Lk.t rfl)) <| .nil) (sb_trans (sb_res (.cons sb_refl <| .cons sb_refl <| .nil)) ?_)
  exact sb_refl
theorem mQ_ok {ps : List Prt} {t : Int} : Ct Try.prog 13 [MotP ps, isv (.int .i64 t)] (resM (blkM noiseB ps t)) := by
  refine Ct.of Try.func13 rfl (by kernel_rfl) rfl fun c0 => ?_
  refine J_to (To.emps 2) ?_
  refine J_seq (J_reg [] (
      .cons (.wr 0) _ _ (op_box 0 (Lk.t rfl) co_agg rfl) <|
      .cons (.wr 1) _ _ (op_alloc 1 zr34 rfl rfl) <|
      .cons (.no) _ _ (op_assign (Lk.k rfl)) <|
      .nil) ff rfl fun g1 => ⟨_, _, [0, 1], rfl, (.cons 1 rfl <| .cons 2 rfl <| .cons 4 rfl <| .nil), (.cons 0 rfl <| .cons 1 rfl <| .nil), ?_⟩)
  refine JN_then ?_
  refine J_seq (J_reg [] (
      .cons (.rd 0) _ _ (op_get_ag 0 ag26 (Lk.t rfl) rfl mem_blk rfl rfl) <|
      .cons (.no) _ _ (op_move (Lk.t rfl)) <|
      .cons (.no) _ _ (op_call (mblk_ok noiseB_ok) ⟨(Lk.t rfl), (Lk.t rfl), (Lk.fnq (α := Prt × Nat) (C := fun _ => True) (ps := fun i => [aggp (prtC i.1), flp i.2]) (R := fun i => slm (slm flp) (noiseB i.1 i.2)) (fun i _ => qblk_ok) qblk_ok_has),  trivial⟩) <|
      .cons (.no) _ _ (op_extract (Lk.t rfl) rfl) <|
      .cons (.no) _ _ (op_extract (Lk.t rfl) rfl) <|
      .cons (.wr 1) _ _ (op_store_b 1 (Lk.t rfl) (Lk.t rfl) co_agg sz34 rfl rfl rfl) <|
      .cons (.no) _ _ (op_assign (Lk.t rfl)) <|
      .nil) ff rfl fun g2 => ⟨_, _, [1], rfl, (.cons 4 rfl <| .cons 5 rfl <| .nil), (.cons 1 rfl <| .nil), ?_⟩)
  refine JN_then ?_
  refine J_ret ?_
  refine JN_ret (.cons (.ag 0 (Lk.t rfl) ag34 rfl rfl rfl) <| .cons (.tmp (Lk.t rfl)) <| .nil) (sb_trans (sb_res (.cons sb_refl <| .cons sb_refl <| .nil)) ?_)
  exact sb_refl
theorem f_ok {b : Nat} (hb : b < 2 ^ 64) : Ct Try.prog 26 [u64p b] (flp (cn b)) := by
  refine Ct.of Try.func26 rfl (by kernel_rfl) rfl fun c0 => ?_
  refine J_seq (J_reg [] (
      .cons (.no) _ _ (op_assign (Lk.fk rfl (by decide +kernel))) <|
      .nil) ff rfl fun g1 => ⟨_, _, [], rfl, (.cons 0 rfl <| .nil), (.nil), ?_⟩)
  refine JN_then ?_
  refine J_seq (J_reg [] (
      .cons (.no) _ _ (op_move (Lk.t rfl)) <|
      .cons (.no) _ _ (op_f64from fromX hb (Lk.t rfl)) <|
      .cons (.no) _ _ (op_assign (Lk.t rfl)) <|
      .nil) ff rfl fun g2 => ⟨_, _, [], rfl, (.cons 2 rfl <| .nil), (.nil), ?_⟩)
  refine JN_then ?_
  refine J_ret ?_
  refine JN_ret (.cons (.tmp (Lk.t rfl)) <| .nil) (sb_trans (sb_res1 sb_refl) ?_)
  exact sb_refl
theorem motion_ok {ls : List Prt} (hb : GoodL ls) : Ct Try.prog 9 [slk 4 prtU ls] (MotP (ls.map pcn)) := by
  refine Ct.of Try.func9 rfl (by kernel_rfl) rfl fun c0 => ?_
  refine J_lenk 0 rfl fun hlen => ?_
  have hb2 := hb.2
  refine J_to (To.emps 1) ?_
  refine J_seq (J_reg [] (
      .cons (.wr 0) _ _ (op_alloc 0 zr26 rfl rfl) <|
      .nil) ff rfl fun g1 => ⟨_, _, [0], rfl, (.cons 0 rfl <| .cons 2 rfl <| .nil), (.cons 0 rfl <| .nil), ?_⟩)
  refine JN_then ?_
  refine J_to (To.emps 1) ?_
  refine J_seq (J_reg [] (
      .cons (.wr 1) _ _ (op_alloc 1 zr26 rfl rfl) <|
      .nil) ff rfl fun g2 => ⟨_, _, [0, 1], rfl, (.cons 0 rfl <| .cons 2 rfl <| .cons 3 rfl <| .nil), (.cons 0 rfl <| .cons 1 rfl <| .nil), ?_⟩)
  refine JN_then ?_
  refine J_seq ?_
  refine J_seq (J_reg [] (
      .cons (.no) _ _ (op_assign (Lk.k rfl)) <|
      .nil) ff rfl fun g3 => ⟨_, _, [0, 1], rfl, (.cons 0 rfl <| .cons 2 rfl <| .cons 3 rfl <| .cons 4 rfl <| .nil), (.cons 0 rfl <| .cons 1 rfl <| .nil), ?_⟩)
  refine JN_then ?_
  refine J_block ?_
  refine J_to (To.emps 1) ?_
  refine J_loopc (α := Nat × Value) (fun x => x.1 ≤ ls.length) (fun x => ls.length - x.1) (fun x restR => (4, isv (.int .i64 (x.1 : Int))) :: restR) (fun x restS => somk x.2 4 prtC ((ls.map pcn).take x.1) 86 :: blk (g2 3) [isv x.2] 26 :: restS) (ρc := [(0, _), (2, _), (3, _)]) (σc := [_]) (0, .slice none 0 0) (by exact Nat.zero_le _) (To.pick (fun _ => .sub (t := 4) rfl (sp_eq (by rfl)) <| .cons 0 rfl <| .cons 2 rfl <| .cons 3 rfl <| .nil) (fun _ => .sub 2 rfl (somk_nil) <| .sub 1 rfl ((fun _ _ h => h)) <| .cons 0 rfl <| .nil) (ks := [2, 1, 0]) rfl) (fun x hI => ?_)
  obtain ⟨k, sv⟩ := x
  try simp only at hI
  show J _ _ ((4, isv (.int .i64 (k : Int))) :: _) (somk sv 4 prtC ((ls.map pcn).take k) 86 :: blk (g2 3) [isv sv] 26 :: _) _ _
  refine J_seq ?_
  refine J_seq (J_reg [] (
      .cons (.no) _ _ (op_move (Lk.t rfl)) <|
      .cons (.no) _ _ (op_move (Lk.t rfl)) <|
      .cons (.no) _ _ (op_len_sk sl22 (Lk.t rfl)) <|
      .cons (.no) _ _ (op_cmp (by simp) (Lk.t rfl) (Lk.t rfl) rfl) <|
      .nil) ff rfl fun g4 => ⟨_, _, [0, 1, 2], rfl, (.cons 0 rfl <| .cons 2 rfl <| .cons 3 rfl <| .cons 4 rfl <| .cons 8 rfl <| .nil), (.cons 0 rfl <| .cons 1 rfl <| .cons 2 rfl <| .nil), ?_⟩)
  refine JN_then ?_
  refine J_cond (cond_of (Lk.t rfl)) (fun h1 => ?_) (fun h1 => ?_)
  · have h1' := h1
    try simp only [cmpB, Bool.and_eq_true, Bool.or_eq_true, Bool.and_eq_false_iff, Bool.or_eq_false_iff, Bool.not_eq_true', Bool.not_eq_false', Bool.not_eq_true, Bool.not_eq_false, decide_eq_true_eq, decide_eq_false_iff_not, Int.not_lt, Int.not_le, beq_iff_eq, bne_iff_ne, beq_eq_false_iff_ne, bne_eq_false_iff_eq, ne_eq, Decidable.not_not] at h1
    have hgl : (ls.getD ((k : Nat) : Int).toNat prtD).n < 2 ^ 64 ∧ (ls.getD ((k : Nat) : Int).toNat prtD).f < 2 ^ 64 := goodL_at hb (by omega)
    refine J_skip ?_
    refine JN_then ?_
    refine J_seq ?_
    refine J_block ?_
    refine (J_reg [[], [0], [], [], [2, 3], [2, 3, 4], [2, 3, 4, 5], [], [], [7, 8], [7, 8, 9], [7, 8, 9, 10], [], [], [12, 13], [12, 13, 14], [12, 13, 14, 15], [12, 13, 14, 15, 16], [], [], [18, 19], [18, 19, 20], [18, 19, 20, 21], [12, 13, 14, 15, 16, 17, 18, 19, 20, 21, 22], [2, 3, 4, 5, 6, 7, 8, 9, 10, 11, 12, 13, 14, 15, 16, 17, 18, 19, 20, 21, 22, 23], [2, 3, 4, 5, 6, 7, 8, 9, 10, 11, 12, 13, 14, 15, 16, 17, 18, 19, 20, 21, 22, 23, 24], [0, 1, 2, 3, 4, 5, 6, 7, 8, 9, 10, 11, 12, 13, 14, 15, 16, 17, 18, 19, 20, 21, 22, 23, 24, 25], [0, 1, 2, 3, 4, 5, 6, 7, 8, 9, 10, 11, 12, 13, 14, 15, 16, 17, 18, 19, 20, 21, 22, 23, 24, 25, 26], [0, 1, 2, 3, 4, 5, 6, 7, 8, 9, 10, 11, 12, 13, 14, 15, 16, 17, 18, 19, 20, 21, 22, 23, 24, 25, 26, 27]] (
        .cons (.no) _ _ (op_field_own fd26_0 (Lk.t rfl) rfl) <|
        .cons (.rd 1) _ _ (op_get_sc 1 sc24 (Lk.t rfl) rfl mem_blk rfl) <|
        .cons (.no) _ _ (op_move (Lk.t rfl)) <|
        .cons (.no) _ _ (op_move (Lk.t rfl)) <|
        .cons (.no) _ _ (op_index_sk (mk := prtU) prtD sl22 prtU_len (Lk.t rfl) (Lk.t rfl) (by omega) (by omega)) <|
        .cons (.no) _ _ (op_field_ptr fd41_0 (Lk.t rfl) rfl) <|
        .cons (.no) _ _ (op_load_sc sc3 (Lk.t rfl) rfl) <|
        .cons (.no) _ _ (op_move (Lk.t rfl)) <|
        .cons (.no) _ _ (op_move (Lk.t rfl)) <|
        .cons (.no) _ _ (op_index_sk (mk := prtU) prtD sl22 prtU_len (Lk.t rfl) (Lk.t rfl) (by omega) (by omega)) <|
        .cons (.no) _ _ (op_field_ptr fd41_1 (Lk.t rfl) rfl) <|
        .cons (.no) _ _ (op_load_sc sc3 (Lk.t rfl) rfl) <|
        .cons (.no) _ _ (op_move (Lk.t rfl)) <|
        .cons (.no) _ _ (op_move (Lk.t rfl)) <|
        .cons (.no) _ _ (op_index_sk (mk := prtU) prtD sl22 prtU_len (Lk.t rfl) (Lk.t rfl) (by omega) (by omega)) <|
        .cons (.no) _ _ (op_field_ptr fd41_2 (Lk.t rfl) rfl) <|
        .cons (.no) _ _ (op_load_sc sc39 (Lk.t rfl) rfl) <|
        .cons (.no) _ _ (op_call (f_ok hgl.1) ⟨(Lk.t rfl),  trivial⟩) <|
        .cons (.no) _ _ (op_move (Lk.t rfl)) <|
        .cons (.no) _ _ (op_move (Lk.t rfl)) <|
        .cons (.no) _ _ (op_index_sk (mk := prtU) prtD sl22 prtU_len (Lk.t rfl) (Lk.t rfl) (by omega) (by omega)) <|
        .cons (.no) _ _ (op_field_ptr fd41_3 (Lk.t rfl) rfl) <|
        .cons (.no) _ _ (op_load_sc sc39 (Lk.t rfl) rfl) <|
        .cons (.no) _ _ (op_call (f_ok hgl.2) ⟨(Lk.t rfl),  trivial⟩) <|
        .cons (.no) _ _ (op_build zr86 rfl pl86 (.cons rfl (Lk.t rfl) co_isv rfl (puts_l rfl (Nat.le_of_ble_eq_true rfl)) (.cons rfl (Lk.t rfl) co_isv rfl (puts_l rfl (Nat.le_of_ble_eq_true rfl)) (.cons rfl (Lk.t rfl) co_flp rfl (puts_l rfl (Nat.le_of_ble_eq_true rfl)) (.cons rfl (Lk.t rfl) co_flp rfl (puts_l rfl (Nat.le_of_ble_eq_true rfl)) .nil))))) <|
        .cons (.no) _ _ (op_buildSlice sl24 zr86 rfl rfl rfl rfl (.cons rfl (Lk.t rfl) co_agg rfl (puts_l rfl (Nat.le_of_ble_eq_true rfl)) .nil)) <|
        .cons (.wr 0) _ _ (op_append_k (pcn (ls.getD ((k : Nat) : Int).toNat prtD)) 0 sl24 zr86 rfl rfl (Lk.t rfl) (Lk.t rfl) rfl (by simp; omega) (by simp; omega)) <|
        .cons (.no) _ _ (op_field_own fd26_0 (Lk.t rfl) rfl) <|
        .cons (.wr 1) _ _ (op_store_sl 1 (Lk.t rfl) rfl sz24 rfl rfl) <|
        .nil) (fun _ => mixed) rfl fun g5 => ⟨_, _, [0, 1, 2], rfl, (.cons 0 rfl <| .cons 2 rfl <| .cons 3 rfl <| .cons 4 rfl <| .nil), (.cons 0 rfl <| .cons 1 rfl <| .cons 2 rfl <| .nil), ?_⟩)
    refine JN_block ?_
    refine JN_then ?_
    refine (J_reg [] (
        .cons (.no) _ _ (op_move (Lk.t rfl)) <|
        .cons (.no) _ _ (op_add (Lk.t rfl) (Lk.k rfl) (wrap_id (by omega) (by omega))) <|
        .cons (.no) _ _ (op_assign (Lk.t rfl)) <|
        .nil) ff rfl fun g6 => ⟨_, _, [0, 1, 2], rfl, (.cons 0 rfl <| .cons 2 rfl <| .cons 3 rfl <| .cons 4 rfl <| .nil), (.cons 0 rfl <| .cons 1 rfl <| .cons 2 rfl <| .nil), ?_⟩)
    exact JN_again (k + 1, g5 37) (by exact (show k + 1 ≤ ls.length by omega)) (by show ls.length - (_ + 1) < _; omega) (To.pick (fun _ => .sub (t := 4) rfl (sp_eq (by rfl)) <| .cons 0 rfl <| .cons 2 rfl <| .cons 3 rfl <| .nil) (fun _ => .sub 0 rfl ((res_eq (by rw [show (ls.map pcn).take (k + 1) = _ from take_pcn (by omega)]; rfl))) <| .sub 1 rfl ((fun _ _ h => h)) <| .cons 2 rfl <| .nil) (ks := [0, 1, 2]) rfl)
  · have h1' := h1
    try simp only [cmpB, Bool.and_eq_true, Bool.or_eq_true, Bool.and_eq_false_iff, Bool.or_eq_false_iff, Bool.not_eq_true', Bool.not_eq_false', Bool.not_eq_true, Bool.not_eq_false, decide_eq_true_eq, decide_eq_false_iff_not, Int.not_lt, Int.not_le, beq_iff_eq, bne_iff_ne, beq_eq_false_iff_ne, bne_eq_false_iff_eq, ne_eq, Decidable.not_not] at h1
    refine J_exit ?_
    refine JN_then_exit ?_
    refine JN_then_exit ?_
    refine JN_exit_here ?_
    refine JN_then ?_
    refine J_seq (J_reg [] (
        .cons (.rd 1) _ _ (op_get_ag 1 ag26 (Lk.t rfl) rfl mem_blk rfl rfl) <|
        .cons (.wr 2) _ _ (op_store_b 2 (Lk.t rfl) (Lk.t rfl) co_agg sz26 rfl rfl rfl) <|
        .nil) ff rfl fun g7 => ⟨_, _, [0, 2], rfl, (.cons 2 rfl <| .nil), (.cons 0 rfl <| .cons 2 rfl <| .nil), ?_⟩)
    refine JN_then ?_
    refine J_ret ?_
    refine JN_to (To.freeze 0 (fun _ h => h) rfl frz_somk rfl) ?_
    refine JN_ret (.cons (.ag 1 (Lk.t rfl) ag26 rfl rfl rfl) <| .nil) (sb_trans (sb_res1 (sb_agg (.cons (sb_fk 0 rfl) <| .nil))) ?_)
    exact sb_eq (by rw [List.take_of_length_le (by simp; omega)]; rfl)
theorem awF : Ct Try.prog 12 [MotP [⟨2, 1, 0x4008000000000000, 0⟩], isv (.int .i64 2000000)] (resM ⟨2, 2, [0x3ff0000000000000, 0x4000000000000000, 0, 0x3ff0000000000000], 0⟩) := (show blkM moveB [⟨2, 1, 0x4008000000000000, 0⟩] 2000000 = ⟨2, 2, [0x3ff0000000000000, 0x4000000000000000, 0, 0x3ff0000000000000], 0⟩ from MR.eq4 (by decide +kernel)) ▸ mF_ok
theorem awQ : Ct Try.prog 13 [MotP [⟨2, 1, 0x4008000000000000, 0⟩], isv (.int .i64 2000000)] (resM ⟨2, 2, [0x4020000000000000, 0x4018000000000000, 0x4018000000000000, 0x4018000000000000], 0⟩) := (show blkM noiseB [⟨2, 1, 0x4008000000000000, 0⟩] 2000000 = ⟨2, 2, [0x4020000000000000, 0x4018000000000000, 0x4018000000000000, 0x4018000000000000], 0⟩ from MR.eq4 (by decide +kernel)) ▸ mQ_ok
theorem awE : motE [⟨2, 1, 0x4008000000000000, 0⟩] = 0 := by decide +kernel
theorem awE0 : motE [] = 1 := by decide +kernel
theorem awD : Ct Try.prog 10 [MotP [⟨2, 1, 0x4008000000000000, 0⟩]] (resI ⟨2, 0⟩) := (show dimR [⟨2, 1, 0x4008000000000000, 0⟩] = ⟨2, 0⟩ from (dimR_ok awE).trans (congrArg (fun a => (⟨a, 0⟩ : IR)) (by decide +kernel))) ▸ mdim_ok
theorem awC : Ct Try.prog 11 [MotP [⟨2, 1, 0x4008000000000000, 0⟩]] (isv (.int .i64 0)) := awE ▸ mchk_ok
theorem awC0 : Ct Try.prog 11 [MotP []] (isv (.int .i64 1)) := awE0 ▸ mchk_ok
theorem awS : Ct Try.prog 20 [isv (.int .i64 500000)] (resN ⟨0x3fe0000000000000, 0⟩) := (show secR 500000 = ⟨0x3fe0000000000000, 0⟩ from (if_neg (by decide)).trans (congrArg (fun a => (⟨a, 0⟩ : NR)) (by decide +kernel))) ▸ secs_ok
theorem awake_ok  : Ct Try.prog 8 [] (isv (.bool true)) := by
  refine Ct.of Try.func8 rfl (by kernel_rfl) rfl fun c0 => ?_
  refine J_seq (J_reg [] (
      .cons (.no) _ _ (op_assign (Lk.k rfl)) <|
      .nil) ff rfl fun g1 => ⟨_, _, [], rfl, (.nil), (.nil), ?_⟩)
  refine JN_then ?_
  refine J_to (To.emps 1) ?_
  refine J_seq (J_reg [] (
      .cons (.no) _ _ (op_build zr86 rfl pl86 (.cons rfl (Lk.k rfl) co_isv rfl (puts_l rfl (Nat.le_of_ble_eq_true rfl)) (.cons rfl (Lk.k rfl) co_isv rfl (puts_l rfl (Nat.le_of_ble_eq_true rfl)) (.cons rfl (Lk.fk rfl (by decide +kernel)) co_flp rfl (puts_l rfl (Nat.le_of_ble_eq_true rfl)) .nil)))) <|
      .cons (.no) _ _ (op_buildSlice sl24 zr86 rfl rfl rfl rfl (.cons rfl (Lk.sub (sb_agg (.cons sb_refl <| .cons sb_refl <| .cons sb_refl <| .cons sb_fz <| .nil)) (Lk.t rfl)) co_agg rfl (puts_l rfl (Nat.le_of_ble_eq_true rfl)) .nil)) <|
      .cons (.no) _ _ (op_build zr26 rfl pl26 (.cons rfl (Lk.t rfl) co_slc rfl (puts_l rfl (Nat.le_of_ble_eq_true rfl)) .nil)) <|
      .cons (.wr 0) _ _ (op_alloc 0 zr26 rfl rfl) <|
      .cons (.wr 0) _ _ (op_store_new 0 rfl (Lk.t rfl) co_agg sz26 rfl rfl) <|
      .nil) ff rfl fun g2 => ⟨_, _, [0], rfl, (.cons 1 rfl <| .nil), (.cons 0 rfl <| .nil), ?_⟩)
  refine JN_then ?_
  refine J_to (To.emps 1) ?_
  refine J_seq (J_reg [] (
      .cons (.rd 0) _ _ (op_get_ag 0 ag26 (Lk.t rfl) rfl mem_blk rfl rfl) <|
      .cons (.no) _ _ (op_call (awF) ⟨(Lk.t rfl), (Lk.k rfl),  trivial⟩) <|
      .cons (.no) _ _ (op_move (Lk.t rfl)) <|
      .cons (.no) _ _ (op_extract (Lk.t rfl) rfl) <|
      .cons (.no) _ _ (op_extract (Lk.t rfl) rfl) <|
      .cons (.wr 1) _ _ (op_alloc 1 zr34 rfl rfl) <|
      .cons (.wr 1) _ _ (op_store_new 1 rfl (Lk.t rfl) co_agg sz34 rfl rfl) <|
      .cons (.no) _ _ (op_assign (Lk.t rfl)) <|
      .nil) ff rfl fun g3 => ⟨_, _, [0, 1], rfl, (.cons 1 rfl <| .cons 2 rfl <| .cons 3 rfl <| .nil), (.cons 0 rfl <| .cons 1 rfl <| .nil), ?_⟩)
  refine JN_then ?_
  refine J_to (To.emps 1) ?_
  refine J_seq (J_reg [] (
      .cons (.rd 0) _ _ (op_get_ag 0 ag26 (Lk.t rfl) rfl mem_blk rfl rfl) <|
      .cons (.no) _ _ (op_call (awQ) ⟨(Lk.t rfl), (Lk.k rfl),  trivial⟩) <|
      .cons (.no) _ _ (op_move (Lk.t rfl)) <|
      .cons (.no) _ _ (op_extract (Lk.t rfl) rfl) <|
      .cons (.no) _ _ (op_extract (Lk.t rfl) rfl) <|
      .cons (.wr 2) _ _ (op_alloc 2 zr34 rfl rfl) <|
      .cons (.wr 2) _ _ (op_store_new 2 rfl (Lk.t rfl) co_agg sz34 rfl rfl) <|
      .cons (.no) _ _ (op_assign (Lk.t rfl)) <|
      .nil) ff rfl fun g4 => ⟨_, _, [0, 1, 2], rfl, (.cons 1 rfl <| .cons 2 rfl <| .cons 3 rfl <| .cons 4 rfl <| .cons 5 rfl <| .nil), (.cons 0 rfl <| .cons 1 rfl <| .cons 2 rfl <| .nil), ?_⟩)
  refine JN_then ?_
  refine J_seq (J_reg [] (
      .cons (.rd 0) _ _ (op_get_ag 0 ag26 (Lk.t rfl) rfl mem_blk rfl rfl) <|
      .cons (.no) _ _ (op_call (awD) ⟨(Lk.t rfl),  trivial⟩) <|
      .cons (.no) _ _ (op_move (Lk.t rfl)) <|
      .cons (.no) _ _ (op_extract (Lk.t rfl) rfl) <|
      .cons (.no) _ _ (op_extract (Lk.t rfl) rfl) <|
      .cons (.no) _ _ (op_assign (Lk.t rfl)) <|
      .cons (.no) _ _ (op_assign (Lk.t rfl)) <|
      .nil) ff rfl fun g5 => ⟨_, _, [0, 1, 2], rfl, (.cons 1 rfl <| .cons 2 rfl <| .cons 3 rfl <| .cons 4 rfl <| .cons 5 rfl <| .cons 6 rfl <| .cons 7 rfl <| .nil), (.cons 0 rfl <| .cons 1 rfl <| .cons 2 rfl <| .nil), ?_⟩)
  refine JN_then ?_
  refine J_seq (J_reg [] (
      .cons (.no) _ _ (op_call (awS) ⟨(Lk.k rfl),  trivial⟩) <|
      .cons (.no) _ _ (op_move (Lk.t rfl)) <|
      .cons (.no) _ _ (op_extract (Lk.t rfl) rfl) <|
      .cons (.no) _ _ (op_extract (Lk.t rfl) rfl) <|
      .cons (.no) _ _ (op_assign (Lk.t rfl)) <|
      .cons (.no) _ _ (op_assign (Lk.t rfl)) <|
      .nil) ff rfl fun g6 => ⟨_, _, [0, 1, 2], rfl, (.cons 1 rfl <| .cons 2 rfl <| .cons 3 rfl <| .cons 4 rfl <| .cons 5 rfl <| .cons 6 rfl <| .cons 7 rfl <| .cons 8 rfl <| .cons 9 rfl <| .nil), (.cons 0 rfl <| .cons 1 rfl <| .cons 2 rfl <| .nil), ?_⟩)
  refine JN_then ?_
  refine J_seq (J_reg [] (
      .cons (.no) _ _ (op_move (Lk.t rfl)) <|
      .cons (.no) _ _ (op_cmp (by simp) (Lk.t rfl) (Lk.k rfl) rfl) <|
      .cons (.no) _ _ (op_move (Lk.t rfl)) <|
      .cons (.no) _ _ (op_guard rfl rfl (gd_b rfl) (fun hC => (op_field_own fd34_2 (Lk.t rfl) rfl))) <|
      .cons (.rd 1) _ _ (op_guard rfl rfl (gd_b rfl) (fun hC => (op_get_sc 1 sc32 (Lk.w rfl hC) rfl mem_blk rfl))) <|
      .cons (.no) _ _ (op_guard rfl rfl (gd_b rfl) (fun hC => (op_len_m sl32 (Lk.w rfl hC)))) <|
      .cons (.no) _ _ (op_guard rfl rfl (gd_b rfl) (fun hC => (op_cmp (by simp) (Lk.w rfl hC) (Lk.k rfl) rfl))) <|
      .cons (.no) _ _ (op_and (Lk.t rfl) (fun h2 => (Lk.w rfl h2))) <|
      .cons (.no) _ _ (op_move (Lk.t rfl)) <|
      .cons (.no) _ _ (op_guard rfl rfl (gd_b rfl) (fun hC => (op_field_own fd34_2 (Lk.t rfl) rfl))) <|
      .cons (.rd 1) _ _ (op_guard rfl rfl (gd_b rfl) (fun hC => (op_get_sc 1 sc32 (Lk.w rfl hC) rfl mem_blk rfl))) <|
      .cons (.no) _ _ (op_guard rfl rfl (gd_b rfl) (fun hC => (op_index_m 0 sl32 (Lk.w rfl hC) (Lk.k rfl) (by decide) (by decide)))) <|
      .cons (.no) _ _ (op_guard rfl rfl (gd_b rfl) (fun hC => (op_load_sc sc38 (Lk.w rfl hC) rfl))) <|
      .cons (.no) _ _ (op_guard rfl rfl (gd_b rfl) (fun hC => (op_fcmp (by simp) (Lk.w rfl hC) (Lk.fk rfl (by decide +kernel)) rfl))) <|
      .cons (.no) _ _ (op_and (Lk.t rfl) (fun h2 => (Lk.w rfl h2))) <|
      .cons (.no) _ _ (op_move (Lk.t rfl)) <|
      .cons (.no) _ _ (op_guard rfl rfl (gd_b rfl) (fun hC => (op_move (Lk.t rfl)))) <|
      .cons (.no) _ _ (op_guard rfl rfl (gd_b rfl) (fun hC => (op_cmp (by simp) (Lk.w rfl hC) (Lk.k rfl) rfl))) <|
      .cons (.no) _ _ (op_and (Lk.t rfl) (fun h2 => (Lk.w rfl h2))) <|
      .cons (.no) _ _ (op_move (Lk.t rfl)) <|
      .cons (.no) _ _ (op_guard rfl rfl (gd_b rfl) (fun hC => (op_field_own fd34_2 (Lk.t rfl) rfl))) <|
      .cons (.rd 2) _ _ (op_guard rfl rfl (gd_b rfl) (fun hC => (op_get_sc 2 sc32 (Lk.w rfl hC) rfl mem_blk rfl))) <|
      .cons (.no) _ _ (op_guard rfl rfl (gd_b rfl) (fun hC => (op_len_m sl32 (Lk.w rfl hC)))) <|
      .cons (.no) _ _ (op_guard rfl rfl (gd_b rfl) (fun hC => (op_cmp (by simp) (Lk.w rfl hC) (Lk.k rfl) rfl))) <|
      .cons (.no) _ _ (op_and (Lk.t rfl) (fun h2 => (Lk.w rfl h2))) <|
      .cons (.no) _ _ (op_move (Lk.t rfl)) <|
      .cons (.no) _ _ (op_guard rfl rfl (gd_b rfl) (fun hC => (op_field_own fd34_2 (Lk.t rfl) rfl))) <|
      .cons (.rd 2) _ _ (op_guard rfl rfl (gd_b rfl) (fun hC => (op_get_sc 2 sc32 (Lk.w rfl hC) rfl mem_blk rfl))) <|
      .cons (.no) _ _ (op_guard rfl rfl (gd_b rfl) (fun hC => (op_index_m 0 sl32 (Lk.w rfl hC) (Lk.k rfl) (by decide) (by decide)))) <|
      .cons (.no) _ _ (op_guard rfl rfl (gd_b rfl) (fun hC => (op_load_sc sc38 (Lk.w rfl hC) rfl))) <|
      .cons (.no) _ _ (op_guard rfl rfl (gd_b rfl) (fun hC => (op_fcmp (by simp) (Lk.w rfl hC) (Lk.fk rfl (by decide +kernel)) rfl))) <|
      .cons (.no) _ _ (op_and (Lk.t rfl) (fun h2 => (Lk.w rfl h2))) <|
      .cons (.no) _ _ (op_move (Lk.t rfl)) <|
      .cons (.no) _ _ (op_guard rfl rfl (gd_b rfl) (fun hC => (op_field_own fd34_2 (Lk.t rfl) rfl))) <|
      .cons (.rd 2) _ _ (op_guard rfl rfl (gd_b rfl) (fun hC => (op_get_sc 2 sc32 (Lk.w rfl hC) rfl mem_blk rfl))) <|
      .cons (.no) _ _ (op_guard rfl rfl (gd_b rfl) (fun hC => (op_index_m 0 sl32 (Lk.w rfl hC) (Lk.k rfl) (by decide) (by decide)))) <|
      .cons (.no) _ _ (op_guard rfl rfl (gd_b rfl) (fun hC => (op_load_sc sc38 (Lk.w rfl hC) rfl))) <|
      .cons (.no) _ _ (op_guard rfl rfl (gd_b rfl) (fun hC => (op_fcmp (by simp) (Lk.w rfl hC) (Lk.fk rfl (by decide +kernel)) rfl))) <|
      .cons (.no) _ _ (op_and (Lk.t rfl) (fun h2 => (Lk.w rfl h2))) <|
      .cons (.no) _ _ (op_move (Lk.t rfl)) <|
      .cons (.no) _ _ (op_guard rfl rfl (gd_b rfl) (fun hC => (op_move (Lk.t rfl)))) <|
      .cons (.no) _ _ (op_guard rfl rfl (gd_b rfl) (fun hC => (op_cmp (by simp) (Lk.w rfl hC) (Lk.k rfl) rfl))) <|
      .cons (.no) _ _ (op_and (Lk.t rfl) (fun h2 => (Lk.w rfl h2))) <|
      .cons (.no) _ _ (op_move (Lk.t rfl)) <|
      .cons (.no) _ _ (op_guard rfl rfl (gd_b rfl) (fun hC => (op_move (Lk.t rfl)))) <|
      .cons (.no) _ _ (op_guard rfl rfl (gd_b rfl) (fun hC => (op_cmp (by simp) (Lk.w rfl hC) (Lk.k rfl) rfl))) <|
      .cons (.no) _ _ (op_and (Lk.t rfl) (fun h2 => (Lk.w rfl h2))) <|
      .cons (.no) _ _ (op_move (Lk.t rfl)) <|
      .cons (.no) _ _ (op_guard rfl rfl (gd_b rfl) (fun hC => (op_move (Lk.t rfl)))) <|
      .cons (.no) _ _ (op_guard rfl rfl (gd_b rfl) (fun hC => (op_cmp (by simp) (Lk.w rfl hC) (Lk.k rfl) rfl))) <|
      .cons (.no) _ _ (op_and (Lk.t rfl) (fun h2 => (Lk.w rfl h2))) <|
      .cons (.no) _ _ (op_move (Lk.t rfl)) <|
      .cons (.no) _ _ (op_guard rfl rfl (gd_b rfl) (fun hC => (op_move (Lk.t rfl)))) <|
      .cons (.no) _ _ (op_guard rfl rfl (gd_b rfl) (fun hC => (op_fcmp (by simp) (Lk.w rfl hC) (Lk.fk rfl (by decide +kernel)) rfl))) <|
      .cons (.no) _ _ (op_and (Lk.t rfl) (fun h2 => (Lk.w rfl h2))) <|
      .cons (.no) _ _ (op_move (Lk.t rfl)) <|
      .cons (.rd 0) _ _ (op_guard rfl rfl (gd_b rfl) (fun hC => (op_get_ag 0 ag26 (Lk.t rfl) rfl mem_blk rfl rfl))) <|
      .cons (.no) _ _ (op_guard rfl rfl (gd_b rfl) (fun hC => (op_call (awC) ⟨(Lk.w rfl hC),  trivial⟩))) <|
      .cons (.no) _ _ (op_guard rfl rfl (gd_b rfl) (fun hC => (op_cmp (by simp) (Lk.w rfl hC) (Lk.k rfl) rfl))) <|
      .cons (.no) _ _ (op_and (Lk.t rfl) (fun h2 => (Lk.w rfl h2))) <|
      .cons (.no) _ _ (op_move (Lk.t rfl)) <|
      .cons (.no) _ _ (op_guard rfl rfl (gd_b rfl) (fun hC => (op_build zr26 rfl pl26 .nil))) <|
      .cons (.no) _ _ (op_guard rfl rfl (gd_b rfl) (fun hC => (op_call (awC0) ⟨(Lk.sub (sb_agg (.cons (sb_nilk (mk := prtC) (k := 4)) <| .nil)) (Lk.w rfl hC)),  trivial⟩))) <|
      .cons (.no) _ _ (op_guard rfl rfl (gd_b rfl) (fun hC => (op_cmp (by simp) (Lk.w rfl hC) (Lk.k rfl) rfl))) <|
      .cons (.no) _ _ (op_and (Lk.t rfl) (fun h2 => (Lk.w rfl h2))) <|
      .cons (.no) _ _ (op_assign (Lk.t rfl)) <|
      .nil) ff rfl fun g7 => ⟨_, _, [], rfl, (.cons 0 rfl <| .nil), (.nil), ?_⟩)
  refine JN_then ?_
  refine J_ret ?_
  refine JN_ret (.cons (.tmp (Lk.t rfl)) <| .nil) (sb_trans (sb_res1 sb_refl) ?_)
  exact ret_b (by decide +kernel)
theorem sqrtX : Ext Try.prog 77 Go.Extern.MathSqrt.sqrt := ⟨_, Try.func77, by kernel_rfl, by kernel_rfl, by kernel_rfl, by kernel_rfl⟩
theorem sqrt_ok {x : Nat} : Ct Try.prog 48 [flp x] (flp (fsqrt x)) := by
  refine Ct.of Try.func48 rfl (by kernel_rfl) rfl fun c0 => ?_
  refine J_seq (J_reg [] (
      .cons (.no) _ _ (op_assign (Lk.fk rfl (by decide +kernel))) <|
      .nil) ff rfl fun g1 => ⟨_, _, [], rfl, (.cons 0 rfl <| .nil), (.nil), ?_⟩)
  refine JN_then ?_
  refine J_seq (J_reg [] (
      .cons (.no) _ _ (op_move (Lk.t rfl)) <|
      .cons (.no) _ _ (op_f64sqrt sqrtX (Lk.t rfl)) <|
      .cons (.no) _ _ (op_assign (Lk.t rfl)) <|
      .nil) ff rfl fun g2 => ⟨_, _, [], rfl, (.cons 2 rfl <| .nil), (.nil), ?_⟩)
  refine JN_then ?_
  refine J_ret ?_
  refine JN_ret (.cons (.tmp (Lk.t rfl)) <| .nil) (sb_trans (sb_res1 sb_refl) ?_)
  exact sb_refl
theorem gblk_ok_has : Has Try.prog 47 := ⟨_, Try.func47, rfl, by kernel_rfl⟩
theorem gblk_ok {p : Prt} {d : Nat} : Ct Try.prog 47 [aggp (prtC p), flp d] (slm (slm flp) (rootB p d)) := by
  refine Ct.of Try.func47 rfl (by kernel_rfl) rfl fun c0 => ?_
  refine J_to (To.emps 1) ?_
  refine J_seq (J_reg [] (
      .cons (.wr 0) _ _ (op_box 0 (Lk.t rfl) co_agg rfl) <|
      .cons (.no) _ _ (op_assign (Lk.k rfl)) <|
      .nil) ff rfl fun g1 => ⟨_, _, [0], rfl, (.cons 1 rfl <| .cons 2 rfl <| .nil), (.cons 0 rfl <| .nil), ?_⟩)
  refine JN_then ?_
  refine J_seq (J_reg [] (
      .cons (.no) _ _ (op_field_own fd86_2 (Lk.t rfl) rfl) <|
      .cons (.rd 0) _ _ (op_get_sc 0 sc38 (Lk.t rfl) rfl mem_blk rfl) <|
      .cons (.no) _ _ (op_move (Lk.t rfl)) <|
      .cons (.no) _ _ (op_float (by simp) (Lk.t rfl) (Lk.t rfl) rfl) <|
      .cons (.no) _ _ (op_call (sqrt_ok) ⟨(Lk.t rfl),  trivial⟩) <|
      .cons (.no) _ _ (op_assign (Lk.t rfl)) <|
      .nil) ff rfl fun g2 => ⟨_, _, [0], rfl, (.cons 1 rfl <| .cons 2 rfl <| .cons 5 rfl <| .nil), (.cons 0 rfl <| .nil), ?_⟩)
  refine JN_then ?_
  refine J_seq ?_
  refine J_seq (J_reg [] (
      .cons (.no) _ _ (op_field_own fd86_0 (Lk.t rfl) rfl) <|
      .cons (.rd 0) _ _ (op_get_sc 0 sc3 (Lk.t rfl) rfl mem_blk rfl) <|
      .nil) ff rfl fun g3 => ⟨_, _, [], rfl, (.cons 1 rfl <| .cons 5 rfl <| .cons 15 rfl <| .nil), (.nil), ?_⟩)
  refine JN_then ?_
  refine J_block ?_
  refine J_seq ?_
  refine J_seq (J_reg [] (
      .cons (.no) _ _ (op_cmp (by simp) (Lk.t rfl) (Lk.k rfl) rfl) <|
      .cons (.no) _ _ (op_assign (Lk.t rfl)) <|
      .nil) ff rfl fun g4 => ⟨_, _, [], rfl, (.cons 1 rfl <| .cons 5 rfl <| .cons 15 rfl <| .cons 16 rfl <| .nil), (.nil), ?_⟩)
  refine JN_then ?_
  refine J_cond (cond_of (Lk.t rfl)) (fun h1 => ?_) (fun h1 => ?_)
  · have h1' := h1
    try simp only [cmpB, Bool.and_eq_true, Bool.or_eq_true, Bool.and_eq_false_iff, Bool.or_eq_false_iff, Bool.not_eq_true', Bool.not_eq_false', Bool.not_eq_true, Bool.not_eq_false, decide_eq_true_eq, decide_eq_false_iff_not, Int.not_lt, Int.not_le, beq_iff_eq, bne_iff_ne, beq_eq_false_iff_ne, bne_eq_false_iff_eq, ne_eq, Decidable.not_not] at h1
    refine J_skip ?_
    refine JN_then ?_
    refine J_cond (cond_of (Lk.t rfl)) (fun h2 => ?_) (fun h2 => ?_)
    · have h2' := h2
      try simp only [cmpB, Bool.and_eq_true, Bool.or_eq_true, Bool.and_eq_false_iff, Bool.or_eq_false_iff, Bool.not_eq_true', Bool.not_eq_false', Bool.not_eq_true, Bool.not_eq_false, decide_eq_true_eq, decide_eq_false_iff_not, Int.not_lt, Int.not_le, beq_iff_eq, bne_iff_ne, beq_eq_false_iff_ne, bne_eq_false_iff_eq, ne_eq, Decidable.not_not] at h2
      refine J_seq (J_reg [] (
          .cons (.no) _ _ (op_move (Lk.t rfl)) <|
          .cons (.no) _ _ (op_buildSlice sl32 zr38 rfl rfl rfl rfl (.cons rfl (Lk.t rfl) co_flp rfl (puts_l rfl (Nat.le_of_ble_eq_true rfl)) .nil)) <|
          .cons (.no) _ _ (op_buildSlice sl90 zr32 rfl rfl rfl rfl (.cons rfl (Lk.t rfl) co_slc rfl (puts_l rfl (Nat.le_of_ble_eq_true rfl)) .nil)) <|
          .cons (.no) _ _ (op_assign (Lk.t rfl)) <|
          .nil) ff rfl fun g5 => ⟨_, _, [], rfl, (.cons 4 rfl <| .nil), (.nil), ?_⟩)
      refine JN_then ?_
      refine J_ret ?_
      refine JN_block_ret ?_
      refine JN_then_ret ?_
      refine JN_ret (.cons (.tmp (Lk.t rfl)) <| .nil) (sb_trans (sb_res1 sb_refl) ?_)
      first | exact sb_eq (by unfold rootB rtB; rw [if_pos (by omega)]; rfl) | exact sb_eq (by unfold rootB rtB; rw [if_neg (by omega), if_pos (by omega)]; rfl) | exact sb_eq (by unfold rootB rtB; rw [if_neg (by omega), if_neg (by omega), if_pos (by omega)]; rfl) | exact sb_eq (by unfold rootB rtB; rw [if_neg (by omega), if_neg (by omega), if_neg (by omega)]; rfl)
    · have h2' := h2
      try simp only [cmpB, Bool.and_eq_true, Bool.or_eq_true, Bool.and_eq_false_iff, Bool.or_eq_false_iff, Bool.not_eq_true', Bool.not_eq_false', Bool.not_eq_true, Bool.not_eq_false, decide_eq_true_eq, decide_eq_false_iff_not, Int.not_lt, Int.not_le, beq_iff_eq, bne_iff_ne, beq_eq_false_iff_ne, bne_eq_false_iff_eq, ne_eq, Decidable.not_not] at h2
      refine J_seq (J_reg [] (
          .cons (.no) _ _ (op_cmp (by simp) (Lk.t rfl) (Lk.k rfl) rfl) <|
          .cons (.no) _ _ (op_assign (Lk.t rfl)) <|
          .nil) ff rfl fun g6 => ⟨_, _, [], rfl, (.cons 1 rfl <| .cons 5 rfl <| .cons 15 rfl <| .cons 22 rfl <| .nil), (.nil), ?_⟩)
      refine JN_then ?_
      refine J_cond (cond_of (Lk.t rfl)) (fun h3 => ?_) (fun h3 => ?_)
      · have h3' := h3
        try simp only [cmpB, Bool.and_eq_true, Bool.or_eq_true, Bool.and_eq_false_iff, Bool.or_eq_false_iff, Bool.not_eq_true', Bool.not_eq_false', Bool.not_eq_true, Bool.not_eq_false, decide_eq_true_eq, decide_eq_false_iff_not, Int.not_lt, Int.not_le, beq_iff_eq, bne_iff_ne, beq_eq_false_iff_ne, bne_eq_false_iff_eq, ne_eq, Decidable.not_not] at h3
        refine J_seq (J_reg [] (
            .cons (.no) _ _ (op_call (sqrt_ok) ⟨(Lk.fk rfl (by decide +kernel)),  trivial⟩) <|
            .cons (.no) _ _ (op_assign (Lk.t rfl)) <|
            .nil) ff rfl fun g7 => ⟨_, _, [], rfl, (.cons 1 rfl <| .cons 5 rfl <| .cons 6 rfl <| .nil), (.nil), ?_⟩)
        refine JN_then ?_
        refine J_seq (J_reg [] (
            .cons (.no) _ _ (op_move (Lk.t rfl)) <|
            .cons (.no) _ _ (op_move (Lk.t rfl)) <|
            .cons (.no) _ _ (op_float (by simp) (Lk.t rfl) (Lk.t rfl) rfl) <|
            .cons (.no) _ _ (op_move (Lk.t rfl)) <|
            .cons (.no) _ _ (op_float (by simp) (Lk.t rfl) (Lk.t rfl) rfl) <|
            .cons (.no) _ _ (op_buildSlice sl32 zr38 rfl rfl rfl rfl (.cons rfl (Lk.t rfl) co_flp rfl (puts_l rfl (Nat.le_of_ble_eq_true rfl)) (.cons rfl (Lk.fk rfl (by decide +kernel)) co_flp rfl (puts_l rfl (Nat.le_of_ble_eq_true rfl)) .nil))) <|
            .cons (.no) _ _ (op_move (Lk.t rfl)) <|
            .cons (.no) _ _ (op_move (Lk.t rfl)) <|
            .cons (.no) _ _ (op_float (by simp) (Lk.t rfl) (Lk.t rfl) rfl) <|
            .cons (.no) _ _ (op_float (by simp) (Lk.t rfl) (Lk.fk rfl (by decide +kernel)) rfl) <|
            .cons (.no) _ _ (op_move (Lk.t rfl)) <|
            .cons (.no) _ _ (op_float (by simp) (Lk.t rfl) (Lk.fk rfl (by decide +kernel)) rfl) <|
            .cons (.no) _ _ (op_buildSlice sl32 zr38 rfl rfl rfl rfl (.cons rfl (Lk.t rfl) co_flp rfl (puts_l rfl (Nat.le_of_ble_eq_true rfl)) (.cons rfl (Lk.t rfl) co_flp rfl (puts_l rfl (Nat.le_of_ble_eq_true rfl)) .nil))) <|
            .cons (.no) _ _ (op_buildSlice sl90 zr32 rfl rfl rfl rfl (.cons rfl (Lk.t rfl) co_slc rfl (puts_l rfl (Nat.le_of_ble_eq_true rfl)) (.cons rfl (Lk.t rfl) co_slc rfl (puts_l rfl (Nat.le_of_ble_eq_true rfl)) .nil))) <|
            .cons (.no) _ _ (op_assign (Lk.t rfl)) <|
            .nil) ff rfl fun g8 => ⟨_, _, [], rfl, (.cons 4 rfl <| .nil), (.nil), ?_⟩)
        refine JN_then ?_
        refine J_ret ?_
        refine JN_block_ret ?_
        refine JN_then_ret ?_
        refine JN_ret (.cons (.tmp (Lk.t rfl)) <| .nil) (sb_trans (sb_res1 sb_refl) ?_)
        first | exact sb_eq (by unfold rootB rtB; rw [if_pos (by omega)]; rfl) | exact sb_eq (by unfold rootB rtB; rw [if_neg (by omega), if_pos (by omega)]; rfl) | exact sb_eq (by unfold rootB rtB; rw [if_neg (by omega), if_neg (by omega), if_pos (by omega)]; rfl) | exact sb_eq (by unfold rootB rtB; rw [if_neg (by omega), if_neg (by omega), if_neg (by omega)]; rfl)
      · have h3' := h3
        try simp only [cmpB, Bool.and_eq_true, Bool.or_eq_true, Bool.and_eq_false_iff, Bool.or_eq_false_iff, Bool.not_eq_true', Bool.not_eq_false', Bool.not_eq_true, Bool.not_eq_false, decide_eq_true_eq, decide_eq_false_iff_not, Int.not_lt, Int.not_le, beq_iff_eq, bne_iff_ne, beq_eq_false_iff_ne, bne_eq_false_iff_eq, ne_eq, Decidable.not_not] at h3
        refine J_seq (J_reg [] (
            .cons (.no) _ _ (op_cmp (by simp) (Lk.t rfl) (Lk.k rfl) rfl) <|
            .cons (.no) _ _ (op_assign (Lk.t rfl)) <|
            .nil) ff rfl fun g9 => ⟨_, _, [], rfl, (.cons 1 rfl <| .cons 5 rfl <| .cons 39 rfl <| .nil), (.nil), ?_⟩)
        refine JN_then ?_
        refine J_cond (cond_of (Lk.t rfl)) (fun h4 => ?_) (fun h4 => ?_)
        · have h4' := h4
          try simp only [cmpB, Bool.and_eq_true, Bool.or_eq_true, Bool.and_eq_false_iff, Bool.or_eq_false_iff, Bool.not_eq_true', Bool.not_eq_false', Bool.not_eq_true, Bool.not_eq_false, decide_eq_true_eq, decide_eq_false_iff_not, Int.not_lt, Int.not_le, beq_iff_eq, bne_iff_ne, beq_eq_false_iff_ne, bne_eq_false_iff_eq, ne_eq, Decidable.not_not] at h4
          refine J_seq (J_reg [] (
              .cons (.no) _ _ (op_call (sqrt_ok) ⟨(Lk.fk rfl (by decide +kernel)),  trivial⟩) <|
              .cons (.no) _ _ (op_call (sqrt_ok) ⟨(Lk.fk rfl (by decide +kernel)),  trivial⟩) <|
              .cons (.no) _ _ (op_assign (Lk.t rfl)) <|
              .cons (.no) _ _ (op_assign (Lk.t rfl)) <|
              .nil) ff rfl fun g10 => ⟨_, _, [], rfl, (.cons 1 rfl <| .cons 5 rfl <| .cons 7 rfl <| .cons 8 rfl <| .nil), (.nil), ?_⟩)
          refine JN_then ?_
          refine J_seq (J_reg [] (
              .cons (.no) _ _ (op_move (Lk.t rfl)) <|
              .cons (.no) _ _ (op_move (Lk.t rfl)) <|
              .cons (.no) _ _ (op_float (by simp) (Lk.t rfl) (Lk.t rfl) rfl) <|
              .cons (.no) _ _ (op_move (Lk.t rfl)) <|
              .cons (.no) _ _ (op_float (by simp) (Lk.t rfl) (Lk.t rfl) rfl) <|
              .cons (.no) _ _ (op_move (Lk.t rfl)) <|
              .cons (.no) _ _ (op_float (by simp) (Lk.t rfl) (Lk.t rfl) rfl) <|
              .cons (.no) _ _ (op_buildSlice sl32 zr38 rfl rfl rfl rfl (.cons rfl (Lk.t rfl) co_flp rfl (puts_l rfl (Nat.le_of_ble_eq_true rfl)) (.cons rfl (Lk.fk rfl (by decide +kernel)) co_flp rfl (puts_l rfl (Nat.le_of_ble_eq_true rfl)) (.cons rfl (Lk.fk rfl (by decide +kernel)) co_flp rfl (puts_l rfl (Nat.le_of_ble_eq_true rfl)) .nil)))) <|
              .cons (.no) _ _ (op_move (Lk.t rfl)) <|
              .cons (.no) _ _ (op_move (Lk.t rfl)) <|
              .cons (.no) _ _ (op_float (by simp) (Lk.t rfl) (Lk.t rfl) rfl) <|
              .cons (.no) _ _ (op_move (Lk.t rfl)) <|
              .cons (.no) _ _ (op_float (by simp) (Lk.t rfl) (Lk.t rfl) rfl) <|
              .cons (.no) _ _ (op_float (by simp) (Lk.t rfl) (Lk.fk rfl (by decide +kernel)) rfl) <|
              .cons (.no) _ _ (op_move (Lk.t rfl)) <|
              .cons (.no) _ _ (op_move (Lk.t rfl)) <|
              .cons (.no) _ _ (op_float (by simp) (Lk.t rfl) (Lk.t rfl) rfl) <|
              .cons (.no) _ _ (op_move (Lk.t rfl)) <|
              .cons (.no) _ _ (op_float (by simp) (Lk.t rfl) (Lk.t rfl) rfl) <|
              .cons (.no) _ _ (op_buildSlice sl32 zr38 rfl rfl rfl rfl (.cons rfl (Lk.t rfl) co_flp rfl (puts_l rfl (Nat.le_of_ble_eq_true rfl)) (.cons rfl (Lk.t rfl) co_flp rfl (puts_l rfl (Nat.le_of_ble_eq_true rfl)) (.cons rfl (Lk.fk rfl (by decide +kernel)) co_flp rfl (puts_l rfl (Nat.le_of_ble_eq_true rfl)) .nil)))) <|
              .cons (.no) _ _ (op_move (Lk.t rfl)) <|
              .cons (.no) _ _ (op_move (Lk.t rfl)) <|
              .cons (.no) _ _ (op_float (by simp) (Lk.t rfl) (Lk.t rfl) rfl) <|
              .cons (.no) _ _ (op_float (by simp) (Lk.t rfl) (Lk.fk rfl (by decide +kernel)) rfl) <|
              .cons (.no) _ _ (op_move (Lk.t rfl)) <|
              .cons (.no) _ _ (op_move (Lk.t rfl)) <|
              .cons (.no) _ _ (op_float (by simp) (Lk.t rfl) (Lk.t rfl) rfl) <|
              .cons (.no) _ _ (op_float (by simp) (Lk.t rfl) (Lk.fk rfl (by decide +kernel)) rfl) <|
              .cons (.no) _ _ (op_move (Lk.t rfl)) <|
              .cons (.no) _ _ (op_float (by simp) (Lk.t rfl) (Lk.fk rfl (by decide +kernel)) rfl) <|
              .cons (.no) _ _ (op_buildSlice sl32 zr38 rfl rfl rfl rfl (.cons rfl (Lk.t rfl) co_flp rfl (puts_l rfl (Nat.le_of_ble_eq_true rfl)) (.cons rfl (Lk.t rfl) co_flp rfl (puts_l rfl (Nat.le_of_ble_eq_true rfl)) (.cons rfl (Lk.t rfl) co_flp rfl (puts_l rfl (Nat.le_of_ble_eq_true rfl)) .nil)))) <|
              .cons (.no) _ _ (op_buildSlice sl90 zr32 rfl rfl rfl rfl (.cons rfl (Lk.t rfl) co_slc rfl (puts_l rfl (Nat.le_of_ble_eq_true rfl)) (.cons rfl (Lk.t rfl) co_slc rfl (puts_l rfl (Nat.le_of_ble_eq_true rfl)) (.cons rfl (Lk.t rfl) co_slc rfl (puts_l rfl (Nat.le_of_ble_eq_true rfl)) .nil)))) <|
              .cons (.no) _ _ (op_assign (Lk.t rfl)) <|
              .nil) ff rfl fun g11 => ⟨_, _, [], rfl, (.cons 4 rfl <| .nil), (.nil), ?_⟩)
          refine JN_then ?_
          refine J_ret ?_
          refine JN_block_ret ?_
          refine JN_then_ret ?_
          refine JN_ret (.cons (.tmp (Lk.t rfl)) <| .nil) (sb_trans (sb_res1 sb_refl) ?_)
          first | exact sb_eq (by unfold rootB rtB; rw [if_pos (by omega)]; rfl) | exact sb_eq (by unfold rootB rtB; rw [if_neg (by omega), if_pos (by omega)]; rfl) | exact sb_eq (by unfold rootB rtB; rw [if_neg (by omega), if_neg (by omega), if_pos (by omega)]; rfl) | exact sb_eq (by unfold rootB rtB; rw [if_neg (by omega), if_neg (by omega), if_neg (by omega)]; rfl)
        · have h4' := h4
          try simp only [cmpB, Bool.and_eq_true, Bool.or_eq_true, Bool.and_eq_false_iff, Bool.or_eq_false_iff, Bool.not_eq_true', Bool.not_eq_false', Bool.not_eq_true, Bool.not_eq_false, decide_eq_true_eq, decide_eq_false_iff_not, Int.not_lt, Int.not_le, beq_iff_eq, bne_iff_ne, beq_eq_false_iff_ne, bne_eq_false_iff_eq, ne_eq, Decidable.not_not] at h4
          refine J_skip ?_
          refine JN_block ?_
          refine JN_then ?_
          refine J_seq (J_reg [] (
              .cons (.no) _ _ (op_buildSlice sl32 zr38 rfl rfl rfl rfl (.cons rfl (Lk.fk rfl (by decide +kernel)) co_flp rfl (puts_l rfl (Nat.le_of_ble_eq_true rfl)) .nil)) <|
              .cons (.no) _ _ (op_buildSlice sl90 zr32 rfl rfl rfl rfl (.cons rfl (Lk.t rfl) co_slc rfl (puts_l rfl (Nat.le_of_ble_eq_true rfl)) .nil)) <|
              .cons (.no) _ _ (op_assign (Lk.t rfl)) <|
              .nil) ff rfl fun g12 => ⟨_, _, [], rfl, (.cons 4 rfl <| .nil), (.nil), ?_⟩)
          refine JN_then ?_
          refine J_ret ?_
          refine JN_ret (.cons (.tmp (Lk.t rfl)) <| .nil) (sb_trans (sb_res1 sb_refl) ?_)
          first | exact sb_eq (by unfold rootB rtB; rw [if_pos (by omega)]; rfl) | exact sb_eq (by unfold rootB rtB; rw [if_neg (by omega), if_pos (by omega)]; rfl) | exact sb_eq (by unfold rootB rtB; rw [if_neg (by omega), if_neg (by omega), if_pos (by omega)]; rfl) | exact sb_eq (by unfold rootB rtB; rw [if_neg (by omega), if_neg (by omega), if_neg (by omega)]; rfl)
  · have h1' := h1
    try simp only [cmpB, Bool.and_eq_true, Bool.or_eq_true, Bool.and_eq_false_iff, Bool.or_eq_false_iff, Bool.not_eq_true', Bool.not_eq_false', Bool.not_eq_true, Bool.not_eq_false, decide_eq_true_eq, decide_eq_false_iff_not, Int.not_lt, Int.not_le, beq_iff_eq, bne_iff_ne, beq_eq_false_iff_ne, bne_eq_false_iff_eq, ne_eq, Decidable.not_not] at h1
    refine (J_reg [] (
        .cons (.no) _ _ (op_cmp (by simp) (Lk.t rfl) (Lk.k rfl) rfl) <|
        .cons (.no) _ _ (op_assign (Lk.t rfl)) <|
        .nil) ff rfl fun g13 => ⟨_, _, [], rfl, (.cons 1 rfl <| .cons 5 rfl <| .cons 15 rfl <| .cons 16 rfl <| .nil), (.nil), ?_⟩)
    refine JN_then ?_
    refine J_cond (cond_of (Lk.t rfl)) (fun h5 => ?_) (fun h5 => ?_)
    · have h5' := h5
      try simp only [cmpB, Bool.and_eq_true, Bool.or_eq_true, Bool.and_eq_false_iff, Bool.or_eq_false_iff, Bool.not_eq_true', Bool.not_eq_false', Bool.not_eq_true, Bool.not_eq_false, decide_eq_true_eq, decide_eq_false_iff_not, Int.not_lt, Int.not_le, beq_iff_eq, bne_iff_ne, beq_eq_false_iff_ne, bne_eq_false_iff_eq, ne_eq, Decidable.not_not] at h5
      refine J_seq (J_reg [] (
          .cons (.no) _ _ (op_move (Lk.t rfl)) <|
          .cons (.no) _ _ (op_buildSlice sl32 zr38 rfl rfl rfl rfl (.cons rfl (Lk.t rfl) co_flp rfl (puts_l rfl (Nat.le_of_ble_eq_true rfl)) .nil)) <|
          .cons (.no) _ _ (op_buildSlice sl90 zr32 rfl rfl rfl rfl (.cons rfl (Lk.t rfl) co_slc rfl (puts_l rfl (Nat.le_of_ble_eq_true rfl)) .nil)) <|
          .cons (.no) _ _ (op_assign (Lk.t rfl)) <|
          .nil) ff rfl fun g14 => ⟨_, _, [], rfl, (.cons 4 rfl <| .nil), (.nil), ?_⟩)
      refine JN_then ?_
      refine J_ret ?_
      refine JN_block_ret ?_
      refine JN_then_ret ?_
      refine JN_ret (.cons (.tmp (Lk.t rfl)) <| .nil) (sb_trans (sb_res1 sb_refl) ?_)
      first | exact sb_eq (by unfold rootB rtB; rw [if_pos (by omega)]; rfl) | exact sb_eq (by unfold rootB rtB; rw [if_neg (by omega), if_pos (by omega)]; rfl) | exact sb_eq (by unfold rootB rtB; rw [if_neg (by omega), if_neg (by omega), if_pos (by omega)]; rfl) | exact sb_eq (by unfold rootB rtB; rw [if_neg (by omega), if_neg (by omega), if_neg (by omega)]; rfl)
    · have h5' := h5
      try simp only [cmpB, Bool.and_eq_true, Bool.or_eq_true, Bool.and_eq_false_iff, Bool.or_eq_false_iff, Bool.not_eq_true', Bool.not_eq_false', Bool.not_eq_true, Bool.not_eq_false, decide_eq_true_eq, decide_eq_false_iff_not, Int.not_lt, Int.not_le, beq_iff_eq, bne_iff_ne, beq_eq_false_iff_ne, bne_eq_false_iff_eq, ne_eq, Decidable.not_not] at h5
      refine J_seq (J_reg [] (
          .cons (.no) _ _ (op_cmp (by simp) (Lk.t rfl) (Lk.k rfl) rfl) <|
          .cons (.no) _ _ (op_assign (Lk.t rfl)) <|
          .nil) ff rfl fun g15 => ⟨_, _, [], rfl, (.cons 1 rfl <| .cons 5 rfl <| .cons 15 rfl <| .cons 22 rfl <| .nil), (.nil), ?_⟩)
      refine JN_then ?_
      refine J_cond (cond_of (Lk.t rfl)) (fun h6 => ?_) (fun h6 => ?_)
      · have h6' := h6
        try simp only [cmpB, Bool.and_eq_true, Bool.or_eq_true, Bool.and_eq_false_iff, Bool.or_eq_false_iff, Bool.not_eq_true', Bool.not_eq_false', Bool.not_eq_true, Bool.not_eq_false, decide_eq_true_eq, decide_eq_false_iff_not, Int.not_lt, Int.not_le, beq_iff_eq, bne_iff_ne, beq_eq_false_iff_ne, bne_eq_false_iff_eq, ne_eq, Decidable.not_not] at h6
        refine J_seq (J_reg [] (
            .cons (.no) _ _ (op_call (sqrt_ok) ⟨(Lk.fk rfl (by decide +kernel)),  trivial⟩) <|
            .cons (.no) _ _ (op_assign (Lk.t rfl)) <|
            .nil) ff rfl fun g16 => ⟨_, _, [], rfl, (.cons 1 rfl <| .cons 5 rfl <| .cons 6 rfl <| .nil), (.nil), ?_⟩)
        refine JN_then ?_
        refine J_seq (J_reg [] (
            .cons (.no) _ _ (op_move (Lk.t rfl)) <|
            .cons (.no) _ _ (op_move (Lk.t rfl)) <|
            .cons (.no) _ _ (op_float (by simp) (Lk.t rfl) (Lk.t rfl) rfl) <|
            .cons (.no) _ _ (op_move (Lk.t rfl)) <|
            .cons (.no) _ _ (op_float (by simp) (Lk.t rfl) (Lk.t rfl) rfl) <|
            .cons (.no) _ _ (op_buildSlice sl32 zr38 rfl rfl rfl rfl (.cons rfl (Lk.t rfl) co_flp rfl (puts_l rfl (Nat.le_of_ble_eq_true rfl)) (.cons rfl (Lk.fk rfl (by decide +kernel)) co_flp rfl (puts_l rfl (Nat.le_of_ble_eq_true rfl)) .nil))) <|
            .cons (.no) _ _ (op_move (Lk.t rfl)) <|
            .cons (.no) _ _ (op_move (Lk.t rfl)) <|
            .cons (.no) _ _ (op_float (by simp) (Lk.t rfl) (Lk.t rfl) rfl) <|
            .cons (.no) _ _ (op_float (by simp) (Lk.t rfl) (Lk.fk rfl (by decide +kernel)) rfl) <|
            .cons (.no) _ _ (op_move (Lk.t rfl)) <|
            .cons (.no) _ _ (op_float (by simp) (Lk.t rfl) (Lk.fk rfl (by decide +kernel)) rfl) <|
            .cons (.no) _ _ (op_buildSlice sl32 zr38 rfl rfl rfl rfl (.cons rfl (Lk.t rfl) co_flp rfl (puts_l rfl (Nat.le_of_ble_eq_true rfl)) (.cons rfl (Lk.t rfl) co_flp rfl (puts_l rfl (Nat.le_of_ble_eq_true rfl)) .nil))) <|
            .cons (.no) _ _ (op_buildSlice sl90 zr32 rfl rfl rfl rfl (.cons rfl (Lk.t rfl) co_slc rfl (puts_l rfl (Nat.le_of_ble_eq_true rfl)) (.cons rfl (Lk.t rfl) co_slc rfl (puts_l rfl (Nat.le_of_ble_eq_true rfl)) .nil))) <|
            .cons (.no) _ _ (op_assign (Lk.t rfl)) <|
            .nil) ff rfl fun g17 => ⟨_, _, [], rfl, (.cons 4 rfl <| .nil), (.nil), ?_⟩)
        refine JN_then ?_
        refine J_ret ?_
        refine JN_block_ret ?_
        refine JN_then_ret ?_
        refine JN_ret (.cons (.tmp (Lk.t rfl)) <| .nil) (sb_trans (sb_res1 sb_refl) ?_)
        first | exact sb_eq (by unfold rootB rtB; rw [if_pos (by omega)]; rfl) | exact sb_eq (by unfold rootB rtB; rw [if_neg (by omega), if_pos (by omega)]; rfl) | exact sb_eq (by unfold rootB rtB; rw [if_neg (by omega), if_neg (by omega), if_pos (by omega)]; rfl) | exact sb_eq (by unfold rootB rtB; rw [if_neg (by omega), if_neg (by omega), if_neg (by omega)]; rfl)
      · have h6' := h6
        try simp only [cmpB, Bool.and_eq_true, Bool.or_eq_true, Bool.and_eq_false_iff, Bool.or_eq_false_iff, Bool.not_eq_true', Bool.not_eq_false', Bool.not_eq_true, Bool.not_eq_false, decide_eq_true_eq, decide_eq_false_iff_not, Int.not_lt, Int.not_le, beq_iff_eq, bne_iff_ne, beq_eq_false_iff_ne, bne_eq_false_iff_eq, ne_eq, Decidable.not_not] at h6
        refine J_seq (J_reg [] (
            .cons (.no) _ _ (op_cmp (by simp) (Lk.t rfl) (Lk.k rfl) rfl) <|
            .cons (.no) _ _ (op_assign (Lk.t rfl)) <|
            .nil) ff rfl fun g18 => ⟨_, _, [], rfl, (.cons 1 rfl <| .cons 5 rfl <| .cons 39 rfl <| .nil), (.nil), ?_⟩)
        refine JN_then ?_
        refine J_cond (cond_of (Lk.t rfl)) (fun h7 => ?_) (fun h7 => ?_)
        · have h7' := h7
          try simp only [cmpB, Bool.and_eq_true, Bool.or_eq_true, Bool.and_eq_false_iff, Bool.or_eq_false_iff, Bool.not_eq_true', Bool.not_eq_false', Bool.not_eq_true, Bool.not_eq_false, decide_eq_true_eq, decide_eq_false_iff_not, Int.not_lt, Int.not_le, beq_iff_eq, bne_iff_ne, beq_eq_false_iff_ne, bne_eq_false_iff_eq, ne_eq, Decidable.not_not] at h7
          refine J_seq (J_reg [] (
              .cons (.no) _ _ (op_call (sqrt_ok) ⟨(Lk.fk rfl (by decide +kernel)),  trivial⟩) <|
              .cons (.no) _ _ (op_call (sqrt_ok) ⟨(Lk.fk rfl (by decide +kernel)),  trivial⟩) <|
              .cons (.no) _ _ (op_assign (Lk.t rfl)) <|
              .cons (.no) _ _ (op_assign (Lk.t rfl)) <|
              .nil) ff rfl fun g19 => ⟨_, _, [], rfl, (.cons 1 rfl <| .cons 5 rfl <| .cons 7 rfl <| .cons 8 rfl <| .nil), (.nil), ?_⟩)
          refine JN_then ?_
          refine J_seq (J_reg [] (
              .cons (.no) _ _ (op_move (Lk.t rfl)) <|
              .cons (.no) _ _ (op_move (Lk.t rfl)) <|
              .cons (.no) _ _ (op_float (by simp) (Lk.t rfl) (Lk.t rfl) rfl) <|
              .cons (.no) _ _ (op_move (Lk.t rfl)) <|
              .cons (.no) _ _ (op_float (by simp) (Lk.t rfl) (Lk.t rfl) rfl) <|
              .cons (.no) _ _ (op_move (Lk.t rfl)) <|
              .cons (.no) _ _ (op_float (by simp) (Lk.t rfl) (Lk.t rfl) rfl) <|
              .cons (.no) _ _ (op_buildSlice sl32 zr38 rfl rfl rfl rfl (.cons rfl (Lk.t rfl) co_flp rfl (puts_l rfl (Nat.le_of_ble_eq_true rfl)) (.cons rfl (Lk.fk rfl (by decide +kernel)) co_flp rfl (puts_l rfl (Nat.le_of_ble_eq_true rfl)) (.cons rfl (Lk.fk rfl (by decide +kernel)) co_flp rfl (puts_l rfl (Nat.le_of_ble_eq_true rfl)) .nil)))) <|
              .cons (.no) _ _ (op_move (Lk.t rfl)) <|
              .cons (.no) _ _ (op_move (Lk.t rfl)) <|
              .cons (.no) _ _ (op_float (by simp) (Lk.t rfl) (Lk.t rfl) rfl) <|
              .cons (.no) _ _ (op_move (Lk.t rfl)) <|
              .cons (.no) _ _ (op_float (by simp) (Lk.t rfl) (Lk.t rfl) rfl) <|
              .cons (.no) _ _ (op_float (by simp) (Lk.t rfl) (Lk.fk rfl (by decide +kernel)) rfl) <|
              .cons (.no) _ _ (op_move (Lk.t rfl)) <|
              .cons (.no) _ _ (op_move (Lk.t rfl)) <|
              .cons (.no) _ _ (op_float (by simp) (Lk.t rfl) (Lk.t rfl) rfl) <|
              .cons (.no) _ _ (op_move (Lk.t rfl)) <|
              .cons (.no) _ _ (op_float (by simp) (Lk.t rfl) (Lk.t rfl) rfl) <|
              .cons (.no) _ _ (op_buildSlice sl32 zr38 rfl rfl rfl rfl (.cons rfl (Lk.t rfl) co_flp rfl (puts_l rfl (Nat.le_of_ble_eq_true rfl)) (.cons rfl (Lk.t rfl) co_flp rfl (puts_l rfl (Nat.le_of_ble_eq_true rfl)) (.cons rfl (Lk.fk rfl (by decide +kernel)) co_flp rfl (puts_l rfl (Nat.le_of_ble_eq_true rfl)) .nil)))) <|
              .cons (.no) _ _ (op_move (Lk.t rfl)) <|
              .cons (.no) _ _ (op_move (Lk.t rfl)) <|
              .cons (.no) _ _ (op_float (by simp) (Lk.t rfl) (Lk.t rfl) rfl) <|
              .cons (.no) _ _ (op_float (by simp) (Lk.t rfl) (Lk.fk rfl (by decide +kernel)) rfl) <|
              .cons (.no) _ _ (op_move (Lk.t rfl)) <|
              .cons (.no) _ _ (op_move (Lk.t rfl)) <|
              .cons (.no) _ _ (op_float (by simp) (Lk.t rfl) (Lk.t rfl) rfl) <|
              .cons (.no) _ _ (op_float (by simp) (Lk.t rfl) (Lk.fk rfl (by decide +kernel)) rfl) <|
              .cons (.no) _ _ (op_move (Lk.t rfl)) <|
              .cons (.no) _ _ (op_float (by simp) (Lk.t rfl) (Lk.fk rfl (by decide +kernel)) rfl) <|
              .cons (.no) _ _ (op_buildSlice sl32 zr38 rfl rfl rfl rfl (.cons rfl (Lk.t rfl) co_flp rfl (puts_l rfl (Nat.le_of_ble_eq_true rfl)) (.cons rfl (Lk.t rfl) co_flp rfl (puts_l rfl (Nat.le_of_ble_eq_true rfl)) (.cons rfl (Lk.t rfl) co_flp rfl (puts_l rfl (Nat.le_of_ble_eq_true rfl)) .nil)))) <|
              .cons (.no) _ _ (op_buildSlice sl90 zr32 rfl rfl rfl rfl (.cons rfl (Lk.t rfl) co_slc rfl (puts_l rfl (Nat.le_of_ble_eq_true rfl)) (.cons rfl (Lk.t rfl) co_slc rfl (puts_l rfl (Nat.le_of_ble_eq_true rfl)) (.cons rfl (Lk.t rfl) co_slc rfl (puts_l rfl (Nat.le_of_ble_eq_true rfl)) .nil)))) <|
              .cons (.no) _ _ (op_assign (Lk.t rfl)) <|
              .nil) ff rfl fun g20 => ⟨_, _, [], rfl, (.cons 4 rfl <| .nil), (.nil), ?_⟩)
          refine JN_then ?_
          refine J_ret ?_
          refine JN_block_ret ?_
          refine JN_then_ret ?_
          refine JN_ret (.cons (.tmp (Lk.t rfl)) <| .nil) (sb_trans (sb_res1 sb_refl) ?_)
          first | exact sb_eq (by unfold rootB rtB; rw [if_pos (by omega)]; rfl) | exact sb_eq (by unfold rootB rtB; rw [if_neg (by omega), if_pos (by omega)]; rfl) | exact sb_eq (by unfold rootB rtB; rw [if_neg (by omega), if_neg (by omega), if_pos (by omega)]; rfl) | exact sb_eq (by unfold rootB rtB; rw [if_neg (by omega), if_neg (by omega), if_neg (by omega)]; rfl)
        · have h7' := h7
          try simp only [cmpB, Bool.and_eq_true, Bool.or_eq_true, Bool.and_eq_false_iff, Bool.or_eq_false_iff, Bool.not_eq_true', Bool.not_eq_false', Bool.not_eq_true, Bool.not_eq_false, decide_eq_true_eq, decide_eq_false_iff_not, Int.not_lt, Int.not_le, beq_iff_eq, bne_iff_ne, beq_eq_false_iff_ne, bne_eq_false_iff_eq, ne_eq, Decidable.not_not] at h7
          refine J_skip ?_
          refine JN_block ?_
          refine JN_then ?_
          refine J_seq (J_reg [] (
              .cons (.no) _ _ (op_buildSlice sl32 zr38 rfl rfl rfl rfl (.cons rfl (Lk.fk rfl (by decide +kernel)) co_flp rfl (puts_l rfl (Nat.le_of_ble_eq_true rfl)) .nil)) <|
              .cons (.no) _ _ (op_buildSlice sl90 zr32 rfl rfl rfl rfl (.cons rfl (Lk.t rfl) co_slc rfl (puts_l rfl (Nat.le_of_ble_eq_true rfl)) .nil)) <|
              .cons (.no) _ _ (op_assign (Lk.t rfl)) <|
              .nil) ff rfl fun g21 => ⟨_, _, [], rfl, (.cons 4 rfl <| .nil), (.nil), ?_⟩)
          refine JN_then ?_
          refine J_ret ?_
          refine JN_ret (.cons (.tmp (Lk.t rfl)) <| .nil) (sb_trans (sb_res1 sb_refl) ?_)
          first | exact sb_eq (by unfold rootB rtB; rw [if_pos (by omega)]; rfl) | exact sb_eq (by unfold rootB rtB; rw [if_neg (by omega), if_pos (by omega)]; rfl) | exact sb_eq (by unfold rootB rtB; rw [if_neg (by omega), if_neg (by omega), if_pos (by omega)]; rfl) | exact sb_eq (by unfold rootB rtB; rw [if_neg (by omega), if_neg (by omega), if_neg (by omega)]; rfl)
theorem mG_ok {ps : List Prt} {t : Int} : Ct Try.prog 14 [MotP ps, isv (.int .i64 t)] (resM (blkM rootB ps t)) := by
  refine Ct.of Try.func14 rfl (by kernel_rfl) rfl fun c0 => ?_
  refine J_to (To.emps 2) ?_
  refine J_seq (J_reg [] (
      .cons (.wr 0) _ _ (op_box 0 (Lk.t rfl) co_agg rfl) <|
      .cons (.wr 1) _ _ (op_alloc 1 zr34 rfl rfl) <|
      .cons (.no) _ _ (op_assign (Lk.k rfl)) <|
      .nil) ff rfl fun g1 => ⟨_, _, [0, 1], rfl, (.cons 1 rfl <| .cons 2 rfl <| .cons 4 rfl <| .nil), (.cons 0 rfl <| .cons 1 rfl <| .nil), ?_⟩)
  refine JN_then ?_
  refine J_seq (J_reg [] (
      .cons (.rd 0) _ _ (op_get_ag 0 ag26 (Lk.t rfl) rfl mem_blk rfl rfl) <|
      .cons (.no) _ _ (op_move (Lk.t rfl)) <|
      .cons (.no) _ _ (op_call (mblk_ok rootB_ok) ⟨(Lk.t rfl), (Lk.t rfl), (Lk.fnq (α := Prt × Nat) (C := fun _ => True) (ps := fun i => [aggp (prtC i.1), flp i.2]) (R := fun i => slm (slm flp) (rootB i.1 i.2)) (fun i _ => gblk_ok) gblk_ok_has),  trivial⟩) <|
      .cons (.no) _ _ (op_extract (Lk.t rfl) rfl) <|
      .cons (.no) _ _ (op_extract (Lk.t rfl) rfl) <|
      .cons (.wr 1) _ _ (op_store_b 1 (Lk.t rfl) (Lk.t rfl) co_agg sz34 rfl rfl rfl) <|
      .cons (.no) _ _ (op_assign (Lk.t rfl)) <|
      .nil) ff rfl fun g2 => ⟨_, _, [1], rfl, (.cons 4 rfl <| .cons 5 rfl <| .nil), (.cons 1 rfl <| .nil), ?_⟩)
  refine JN_then ?_
  refine J_ret ?_
  refine JN_ret (.cons (.ag 0 (Lk.t rfl) ag34 rfl rfl rfl) <| .cons (.tmp (Lk.t rfl)) <| .nil) (sb_trans (sb_res (.cons sb_refl <| .cons sb_refl <| .nil)) ?_)
  exact sb_refl
theorem good_ok {r c n : Int} {xs : List Nat} (hn : Siz n n) : Ct Try.prog 15 [MatP r c xs, isv (.int .i64 n)] (isv (.bool (goodB r c xs n))) := by
  refine Ct.of Try.func15 rfl (by kernel_rfl) rfl fun c0 => ?_
  have hm := hn.mul
  refine J_to (To.emps 1) ?_
  refine J_seq (J_reg [] (
      .cons (.wr 0) _ _ (op_box 0 (Lk.t rfl) co_agg rfl) <|
      .cons (.no) _ _ (op_assign (Lk.k rfl)) <|
      .nil) ff rfl fun g1 => ⟨_, _, [0], rfl, (.cons 1 rfl <| .cons 2 rfl <| .nil), (.cons 0 rfl <| .nil), ?_⟩)
  refine JN_then ?_
  refine J_seq (J_reg [] (
      .cons (.no) _ _ (op_field_own fd34_0 (Lk.t rfl) rfl) <|
      .cons (.rd 0) _ _ (op_get_sc 0 sc3 (Lk.t rfl) rfl mem_blk rfl) <|
      .cons (.no) _ _ (op_move (Lk.t rfl)) <|
      .cons (.no) _ _ (op_cmp (by simp) (Lk.t rfl) (Lk.t rfl) rfl) <|
      .cons (.no) _ _ (op_move (Lk.t rfl)) <|
      .cons (.no) _ _ (op_guard rfl rfl (gd_b rfl) (fun hC => (op_field_own fd34_1 (Lk.t rfl) rfl))) <|
      .cons (.rd 0) _ _ (op_guard rfl rfl (gd_b rfl) (fun hC => (op_get_sc 0 sc3 (Lk.w rfl hC) rfl mem_blk rfl))) <|
      .cons (.no) _ _ (op_guard rfl rfl (gd_b rfl) (fun hC => (op_move (Lk.t rfl)))) <|
      .cons (.no) _ _ (op_guard rfl rfl (gd_b rfl) (fun hC => (op_cmp (by simp) (Lk.w rfl hC) (Lk.w rfl hC) rfl))) <|
      .cons (.no) _ _ (op_and (Lk.t rfl) (fun h2 => (Lk.w rfl h2))) <|
      .cons (.no) _ _ (op_move (Lk.t rfl)) <|
      .cons (.no) _ _ (op_guard rfl rfl (gd_b rfl) (fun hC => (op_field_own fd34_2 (Lk.t rfl) rfl))) <|
      .cons (.rd 0) _ _ (op_guard rfl rfl (gd_b rfl) (fun hC => (op_get_sc 0 sc32 (Lk.w rfl hC) rfl mem_blk rfl))) <|
      .cons (.no) _ _ (op_guard rfl rfl (gd_b rfl) (fun hC => (op_len_m sl32 (Lk.w rfl hC)))) <|
      .cons (.no) _ _ (op_guard rfl rfl (gd_b rfl) (fun hC => (op_move (Lk.t rfl)))) <|
      .cons (.no) _ _ (op_guard rfl rfl (gd_b rfl) (fun hC => (op_move (Lk.t rfl)))) <|
      .cons (.no) _ _ (op_guard rfl rfl (gd_b rfl) (fun hC => (op_mul (Lk.w rfl hC) (Lk.w rfl hC) (wrap_id (by omega) (by omega))))) <|
      .cons (.no) _ _ (op_guard rfl rfl (gd_b rfl) (fun hC => (op_cmp (by simp) (Lk.w rfl hC) (Lk.w rfl hC) rfl))) <|
      .cons (.no) _ _ (op_and (Lk.t rfl) (fun h2 => (Lk.w rfl h2))) <|
      .cons (.no) _ _ (op_assign (Lk.t rfl)) <|
      .nil) ff rfl fun g2 => ⟨_, _, [], rfl, (.cons 4 rfl <| .nil), (.nil), ?_⟩)
  refine JN_then ?_
  refine J_ret ?_
  refine JN_ret (.cons (.tmp (Lk.t rfl)) <| .nil) (sb_trans (sb_res1 sb_refl) ?_)
  exact ret_b rfl
theorem at_ok {r c i j : Int} {xs : List Nat} (hg : Good r c xs) (hp : Pl r c i j) : Ct Try.prog 16 [MatP r c xs, isv (.int .i64 i), isv (.int .i64 j)] (flp (mat c xs i j)) := by
  refine Ct.of Try.func16 rfl (by kernel_rfl) rfl fun c0 => ?_
  have hq := hp.rng hg.1
  have hl := hg.2
  obtain ⟨hs1, hs2, hs3, hs4⟩ := hg.1
  obtain ⟨hp1, hp2, hp3, hp4⟩ := hp
  refine J_to (To.emps 1) ?_
  refine J_seq (J_reg [] (
      .cons (.wr 0) _ _ (op_box 0 (Lk.t rfl) co_agg rfl) <|
      .cons (.no) _ _ (op_assign (Lk.fk rfl (by decide +kernel))) <|
      .nil) ff rfl fun g1 => ⟨_, _, [0], rfl, (.cons 1 rfl <| .cons 2 rfl <| .cons 3 rfl <| .nil), (.cons 0 rfl <| .nil), ?_⟩)
  refine JN_then ?_
  refine J_seq (J_reg [] (
      .cons (.no) _ _ (op_field_own fd34_2 (Lk.t rfl) rfl) <|
      .cons (.rd 0) _ _ (op_get_sc 0 sc32 (Lk.t rfl) rfl mem_blk rfl) <|
      .cons (.no) _ _ (op_move (Lk.t rfl)) <|
      .cons (.no) _ _ (op_field_own fd34_1 (Lk.t rfl) rfl) <|
      .cons (.rd 0) _ _ (op_get_sc 0 sc3 (Lk.t rfl) rfl mem_blk rfl) <|
      .cons (.no) _ _ (op_mul (Lk.t rfl) (Lk.t rfl) (wrap_id (by omega) (by omega))) <|
      .cons (.no) _ _ (op_move (Lk.t rfl)) <|
      .cons (.no) _ _ (op_add (Lk.t rfl) (Lk.t rfl) (wrap_id (by omega) (by omega))) <|
      .cons (.no) _ _ (op_index_m 0 sl32 (Lk.t rfl) (Lk.t rfl) (by omega) (by omega)) <|
      .cons (.no) _ _ (op_load_sc sc38 (Lk.t rfl) rfl) <|
      .cons (.no) _ _ (op_assign (Lk.t rfl)) <|
      .nil) ff rfl fun g2 => ⟨_, _, [], rfl, (.cons 6 rfl <| .nil), (.nil), ?_⟩)
  refine JN_then ?_
  refine J_ret ?_
  refine JN_ret (.cons (.tmp (Lk.t rfl)) <| .nil) (sb_trans (sb_res1 sb_refl) ?_)
  exact sb_refl
end Go.Proofs.Ytcnffgbncbadbaa
