/- Printed by a program of ours (walk.py): walks of ModelFresh: a motion and a sensor whose lists may be written. -/
import Derived.Test.YtjfkpnacfnnkhaaDoorKb
import Derived.Test.YtjfkpnacfnnkhaaDoorProg
import Derived.KernelRfl
import Derived.Test.YtjfkpnacfnnkhaaDoorTypes
import Derived.Test.YtjfkpnacfnnkhaaDoorWAnse
import Derived.Test.YtjfkpnacfnnkhaaDoorWOwn
set_option linter.unusedVariables false
set_option linter.unusedSimpArgs false
set_option maxRecDepth 20000
set_option maxHeartbeats 1000000
namespace Go.Proofs.YtjfkpnacfnnkhaaDoor
open Go Go.Bn
attribute [local irreducible] OpOK
theorem motionF_ok {ls : List Prt} (hb : GoodL ls) : CtF Tryd.prog 4 [slk 4 prtU ls] (agN 0) (fun u => aggp [isv u]) (fun u => somk u 4 prtC (ls.map pcn) 51) := by
  refine CtF.of Tryd.func4 rfl (by kernel_rfl) rfl fun c0 => ?_
  refine J_lenk 0 rfl fun hlen => ?_
  have hb2 := hb.2
  refine J_to (To.emps 1) ?_
  refine J_seq (J_reg [] (
      .cons (.wr 0) _ _ (op_alloc 0 zr30 rfl rfl) <|
      .nil) ff rfl fun g1 => ⟨_, _, [0], rfl, (.cons 0 rfl <| .cons 2 rfl <| .nil), (.cons 0 rfl <| .nil), ?_⟩)
  refine JN_then ?_
  refine J_to (To.emps 1) ?_
  refine J_seq (J_reg [] (
      .cons (.wr 1) _ _ (op_alloc 1 zr30 rfl rfl) <|
      .nil) ff rfl fun g2 => ⟨_, _, [0, 1], rfl, (.cons 0 rfl <| .cons 2 rfl <| .cons 3 rfl <| .nil), (.cons 0 rfl <| .cons 1 rfl <| .nil), ?_⟩)
  refine JN_then ?_
  refine J_seq ?_
  refine J_seq (J_reg [] (
      .cons (.no) _ _ (op_assign (Lk.k rfl)) <|
      .nil) ff rfl fun g3 => ⟨_, _, [0, 1], rfl, (.cons 0 rfl <| .cons 2 rfl <| .cons 3 rfl <| .cons 4 rfl <| .nil), (.cons 0 rfl <| .cons 1 rfl <| .nil), ?_⟩)
  refine JN_then ?_
  refine J_block ?_
  refine J_to (To.emps 1) ?_
  refine J_loopc (α := Nat × Value) (fun x => x.1 ≤ ls.length) (fun x => ls.length - x.1) (fun x restR => (4, isv (.int .i64 (x.1 : Int))) :: restR) (fun x restS => somk x.2 4 prtC ((ls.map pcn).take x.1) 51 :: blk (g2 3) [isv x.2] 30 :: restS) (ρc := [(0, _), (2, _), (3, _)]) (σc := [_]) (0, .slice none 0 0) (by exact Nat.zero_le _) (To.pick (fun _ => .sub (t := 4) rfl (sp_eq (by rfl)) <| .cons 0 rfl <| .cons 2 rfl <| .cons 3 rfl <| .nil) (fun _ => .sub 2 rfl (somk_nil) <| .sub 1 rfl ((fun _ _ h => h)) <| .cons 0 rfl <| .nil) (ks := [2, 1, 0]) rfl) (fun x hI => ?_)
  obtain ⟨k, sv⟩ := x
  try simp only at hI
  show J _ _ ((4, isv (.int .i64 (k : Int))) :: _) (somk sv 4 prtC ((ls.map pcn).take k) 51 :: blk (g2 3) [isv sv] 30 :: _) _ _
  refine J_seq ?_
  refine J_seq (J_reg [] (
      .cons (.no) _ _ (op_move (Lk.t rfl)) <|
      .cons (.no) _ _ (op_move (Lk.t rfl)) <|
      .cons (.no) _ _ (op_len_sk sl22 (Lk.t rfl)) <|
      .cons (.no) _ _ (op_cmp (by simp) (Lk.t rfl) (Lk.t rfl) rfl) <|
      .nil) ff rfl fun g4 => ⟨_, _, [0, 1, 2], rfl, (.cons 0 rfl <| .cons 2 rfl <| .cons 3 rfl <| .cons 4 rfl <| .cons 8 rfl <| .nil), (.cons 0 rfl <| .cons 1 rfl <| .cons 2 rfl <| .nil), ?_⟩)
  refine JN_then ?_
  refine J_cond (cond_of (Lk.t rfl)) (fun h1 => ?_) (fun h1 => ?_)
  · have h1' := h1
    try simp only [cmpB, Bool.and_eq_true, Bool.or_eq_true, Bool.and_eq_false_iff, Bool.or_eq_false_iff, Bool.not_eq_true', Bool.not_eq_false', Bool.not_eq_true, Bool.not_eq_false, decide_eq_true_eq, decide_eq_false_iff_not, Int.not_lt, Int.not_le, beq_iff_eq, bne_iff_ne, beq_eq_false_iff_ne, bne_eq_false_iff_eq, ne_eq, Decidable.not_not] at h1
    have hgl : (ls.getD ((k : Nat) : Int).toNat prtD).n < 2 ^ 64 ∧ (ls.getD ((k : Nat) : Int).toNat prtD).f < 2 ^ 64 := goodL_at hb (by omega)
    refine J_skip ?_
    refine JN_then ?_
    refine J_seq ?_
    refine J_block ?_
    refine (J_reg [[], [0], [], [], [2, 3], [2, 3, 4], [2, 3, 4, 5], [], [], [7, 8], [7, 8, 9], [7, 8, 9, 10], [], [], [12, 13], [12, 13, 14], [12, 13, 14, 15], [12, 13, 14, 15, 16], [], [], [18, 19], [18, 19, 20], [18, 19, 20, 21], [12, 13, 14, 15, 16, 17, 18, 19, 20, 21, 22], [2, 3, 4, 5, 6, 7, 8, 9, 10, 11, 12, 13, 14, 15, 16, 17, 18, 19, 20, 21, 22, 23], [2, 3, 4, 5, 6, 7, 8, 9, 10, 11, 12, 13, 14, 15, 16, 17, 18, 19, 20, 21, 22, 23, 24], [0, 1, 2, 3, 4, 5, 6, 7, 8, 9, 10, 11, 12, 13, 14, 15, 16, 17, 18, 19, 20, 21, 22, 23, 24, 25], [0, 1, 2, 3, 4, 5, 6, 7, 8, 9, 10, 11, 12, 13, 14, 15, 16, 17, 18, 19, 20, 21, 22, 23, 24, 25, 26], [0, 1, 2, 3, 4, 5, 6, 7, 8, 9, 10, 11, 12, 13, 14, 15, 16, 17, 18, 19, 20, 21, 22, 23, 24, 25, 26, 27]] (
        .cons (.no) _ _ (op_field_own fd30_0 (Lk.t rfl) rfl) <|
        .cons (.rd 1) _ _ (op_get_sc 1 sc28 (Lk.t rfl) rfl mem_blk rfl) <|
        .cons (.no) _ _ (op_move (Lk.t rfl)) <|
        .cons (.no) _ _ (op_move (Lk.t rfl)) <|
        .cons (.no) _ _ (op_index_sk (mk := prtU) prtD sl22 prtU_len (Lk.t rfl) (Lk.t rfl) (by omega) (by omega)) <|
        .cons (.no) _ _ (op_field_ptr fd56_0 (Lk.t rfl) rfl) <|
        .cons (.no) _ _ (op_load_sc sc3 (Lk.t rfl) rfl) <|
        .cons (.no) _ _ (op_move (Lk.t rfl)) <|
        .cons (.no) _ _ (op_move (Lk.t rfl)) <|
        .cons (.no) _ _ (op_index_sk (mk := prtU) prtD sl22 prtU_len (Lk.t rfl) (Lk.t rfl) (by omega) (by omega)) <|
        .cons (.no) _ _ (op_field_ptr fd56_1 (Lk.t rfl) rfl) <|
        .cons (.no) _ _ (op_load_sc sc3 (Lk.t rfl) rfl) <|
        .cons (.no) _ _ (op_move (Lk.t rfl)) <|
        .cons (.no) _ _ (op_move (Lk.t rfl)) <|
        .cons (.no) _ _ (op_index_sk (mk := prtU) prtD sl22 prtU_len (Lk.t rfl) (Lk.t rfl) (by omega) (by omega)) <|
        .cons (.no) _ _ (op_field_ptr fd56_2 (Lk.t rfl) rfl) <|
        .cons (.no) _ _ (op_load_sc sc24 (Lk.t rfl) rfl) <|
        .cons (.no) _ _ (op_call (f_ok hgl.1) ⟨(Lk.t rfl),  trivial⟩) <|
        .cons (.no) _ _ (op_move (Lk.t rfl)) <|
        .cons (.no) _ _ (op_move (Lk.t rfl)) <|
        .cons (.no) _ _ (op_index_sk (mk := prtU) prtD sl22 prtU_len (Lk.t rfl) (Lk.t rfl) (by omega) (by omega)) <|
        .cons (.no) _ _ (op_field_ptr fd56_3 (Lk.t rfl) rfl) <|
        .cons (.no) _ _ (op_load_sc sc24 (Lk.t rfl) rfl) <|
        .cons (.no) _ _ (op_call (f_ok hgl.2) ⟨(Lk.t rfl),  trivial⟩) <|
        .cons (.no) _ _ (op_build zr51 rfl pl51 (.cons rfl (Lk.t rfl) co_isv rfl (puts_l rfl (Nat.le_of_ble_eq_true rfl)) (.cons rfl (Lk.t rfl) co_isv rfl (puts_l rfl (Nat.le_of_ble_eq_true rfl)) (.cons rfl (Lk.t rfl) co_flp rfl (puts_l rfl (Nat.le_of_ble_eq_true rfl)) (.cons rfl (Lk.t rfl) co_flp rfl (puts_l rfl (Nat.le_of_ble_eq_true rfl)) .nil))))) <|
        .cons (.no) _ _ (op_buildSlice sl28 zr51 rfl rfl rfl rfl (.cons rfl (Lk.t rfl) co_agg rfl (puts_l rfl (Nat.le_of_ble_eq_true rfl)) .nil)) <|
        .cons (.wr 0) _ _ (op_append_k (pcn (ls.getD ((k : Nat) : Int).toNat prtD)) 0 sl28 zr51 rfl rfl (Lk.t rfl) (Lk.t rfl) rfl (by simp; omega) (by simp; omega)) <|
        .cons (.no) _ _ (op_field_own fd30_0 (Lk.t rfl) rfl) <|
        .cons (.wr 1) _ _ (op_store_sl 1 (Lk.t rfl) rfl sz28 rfl rfl) <|
        .nil) (fun _ => mixed) rfl fun g5 => ⟨_, _, [0, 1, 2], rfl, (.cons 0 rfl <| .cons 2 rfl <| .cons 3 rfl <| .cons 4 rfl <| .nil), (.cons 0 rfl <| .cons 1 rfl <| .cons 2 rfl <| .nil), ?_⟩)
    refine JN_block ?_
    refine JN_then ?_
    refine (J_reg [] (
        .cons (.no) _ _ (op_move (Lk.t rfl)) <|
        .cons (.no) _ _ (op_add (Lk.t rfl) (Lk.k rfl) (wrap_id (by omega) (by omega))) <|
        .cons (.no) _ _ (op_assign (Lk.t rfl)) <|
        .nil) ff rfl fun g6 => ⟨_, _, [0, 1, 2], rfl, (.cons 0 rfl <| .cons 2 rfl <| .cons 3 rfl <| .cons 4 rfl <| .nil), (.cons 0 rfl <| .cons 1 rfl <| .cons 2 rfl <| .nil), ?_⟩)
    exact JN_again (k + 1, g5 37) (by exact (show k + 1 ≤ ls.length by omega)) (by show ls.length - (_ + 1) < _; omega) (To.pick (fun _ => .sub (t := 4) rfl (sp_eq (by rfl)) <| .cons 0 rfl <| .cons 2 rfl <| .cons 3 rfl <| .nil) (fun _ => .sub 0 rfl ((res_eq (by rw [show (ls.map pcn).take (k + 1) = _ from take_pcn (by omega)]; rfl))) <| .sub 1 rfl ((fun _ _ h => h)) <| .cons 2 rfl <| .nil) (ks := [0, 1, 2]) rfl)
  · have h1' := h1
    try simp only [cmpB, Bool.and_eq_true, Bool.or_eq_true, Bool.and_eq_false_iff, Bool.or_eq_false_iff, Bool.not_eq_true', Bool.not_eq_false', Bool.not_eq_true, Bool.not_eq_false, decide_eq_true_eq, decide_eq_false_iff_not, Int.not_lt, Int.not_le, beq_iff_eq, bne_iff_ne, beq_eq_false_iff_ne, bne_eq_false_iff_eq, ne_eq, Decidable.not_not] at h1
    refine J_exit ?_
    refine JN_then_exit ?_
    refine JN_then_exit ?_
    refine JN_exit_here ?_
    refine JN_then ?_
    refine J_seq (J_reg [] (
        .cons (.rd 1) _ _ (op_get_ag 1 ag30 (Lk.t rfl) rfl mem_blk rfl rfl) <|
        .cons (.wr 2) _ _ (op_store_b 2 (Lk.t rfl) (Lk.t rfl) co_agg sz30 rfl rfl rfl) <|
        .nil) ff rfl fun g7 => ⟨_, _, [0, 2], rfl, (.cons 2 rfl <| .nil), (.cons 0 rfl <| .cons 2 rfl <| .nil), ?_⟩)
    refine JN_then ?_
    refine J_ret ?_
    refine JN_to (To.res 0 (r' := somk sv 4 prtC (ls.map pcn) 51) rfl (res_eq (by rw [List.take_of_length_le (by simp; omega)])) rfl) ?_
    refine JN_retF (u := sv) 0 rfl rfl (.ag 1 (Lk.t rfl) ag30 rfl rfl rfl) (agN_of rfl) ?_
    exact sb_refl
theorem sensorF_ok {i r c : Int} {hs rs : List Nat} {q : Nat} (hh : GoodU hs) (hr : GoodU rs) (hq : q < 2 ^ 64) : CtF Tryd.prog 5 [SenU i r c hs rs q] (prS) (fun u => aggp [isv (.int .i64 i), isv (.int .i64 r), isv (.int .i64 c), isv (t0S u), isv (t1S u), isv (.int .i64 0), isv (.int .i64 0), isv (.int .i64 0), flp (cn q)]) (fun u => (som (t0S u) flp (hs.map cn) 37).sep (som (t1S u) flp (rs.map cn) 37)) := by
  refine CtF.of Tryd.func5 rfl (by kernel_rfl) rfl fun c0 => ?_
  refine J_to (To.emps 2) ?_
  refine J_seq (J_reg [] (
      .cons (.wr 0) _ _ (op_box 0 (Lk.t rfl) co_agg rfl) <|
      .cons (.wr 1) _ _ (op_alloc 1 zr39 rfl rfl) <|
      .nil) ff rfl fun g1 => ⟨_, _, [0, 1], rfl, (.cons 1 rfl <| .cons 2 rfl <| .nil), (.cons 0 rfl <| .cons 1 rfl <| .nil), ?_⟩)
  refine JN_then ?_
  refine J_to (To.emps 2) ?_
  refine J_seq (J_reg [[], [0], [], [2], [], [4], [], [6], [6, 7], [2, 3, 4, 5, 6, 7, 8], [], [10], [6, 7, 8, 10, 11], [], [13], [6, 7, 8, 10, 11, 12, 13, 14], [0, 1, 2, 3, 4, 5, 6, 7, 8, 9, 10, 11, 12, 13, 14, 15], [0, 1, 2, 3, 4, 5, 6, 7, 8, 9, 10, 11, 12, 13, 14, 15, 16]] (
      .cons (.no) _ _ (op_field_own fd26_0 (Lk.t rfl) rfl) <|
      .cons (.rd 0) _ _ (op_get_sc 0 sc3 (Lk.t rfl) rfl mem_blk rfl) <|
      .cons (.no) _ _ (op_field_own fd26_1 (Lk.t rfl) rfl) <|
      .cons (.rd 0) _ _ (op_get_sc 0 sc3 (Lk.t rfl) rfl mem_blk rfl) <|
      .cons (.no) _ _ (op_field_own fd26_2 (Lk.t rfl) rfl) <|
      .cons (.rd 0) _ _ (op_get_sc 0 sc3 (Lk.t rfl) rfl mem_blk rfl) <|
      .cons (.no) _ _ (op_field_own fd26_3 (Lk.t rfl) rfl) <|
      .cons (.rd 0) _ _ (op_get_sc 0 sc23 (Lk.t rfl) rfl mem_blk rfl) <|
      .cons (.wr 2) _ _ (op_callF 2 (of64F_ok hh.1 hh.2) ⟨(Lk.t rfl),  trivial⟩ rfl) <|
      .cons (.no) _ _ (op_ve 11 12 rfl rfl rfl (fun f => (op_build zr34 rfl pl34 (.cons rfl (Lk.t rfl) co_isv rfl (puts_l rfl (Nat.le_of_ble_eq_true rfl)) (.cons rfl (Lk.t rfl) co_isv rfl (puts_l rfl (Nat.le_of_ble_eq_true rfl)) (.cons rfl (Lk.t rfl) co_isv rfl (puts_l rfl (Nat.le_of_ble_eq_true rfl)) .nil))))) (fun f g h => by rw [h 11 (show 11 ∈ [11] from by decide)]) rfl) <|
      .cons (.no) _ _ (op_field_own fd26_4 (Lk.t rfl) rfl) <|
      .cons (.rd 0) _ _ (op_get_sc 0 sc23 (Lk.t rfl) rfl mem_blk rfl) <|
      .cons (.wr 3) _ _ (op_callF 3 (of64F_ok hr.1 hr.2) ⟨(Lk.t rfl),  trivial⟩ rfl) <|
      .cons (.no) _ _ (op_field_own fd26_5 (Lk.t rfl) rfl) <|
      .cons (.rd 0) _ _ (op_get_sc 0 sc24 (Lk.t rfl) rfl mem_blk rfl) <|
      .cons (.no) _ _ (op_call (f_ok hq) ⟨(Lk.t rfl),  trivial⟩) <|
      .cons (.no) _ _ (op_ve2 12 15 19 rfl rfl rfl rfl (fun f => (op_build zr39 rfl pl39 (.cons rfl (Lk.t rfl) co_isv rfl (puts_l rfl (Nat.le_of_ble_eq_true rfl)) (.cons rfl (Lk.t rfl) co_agg rfl (puts_l rfl (Nat.le_of_ble_eq_true rfl)) (.cons rfl (Lk.t rfl) co_isv rfl (puts_l rfl (Nat.le_of_ble_eq_true rfl)) (.cons rfl (Lk.t rfl) co_flp rfl (puts_l rfl (Nat.le_of_ble_eq_true rfl)) .nil)))))) (fun f g h => by rw [h 11 (show 11 ∈ [11, 15] from by decide), h 15 (show 15 ∈ [11, 15] from by decide)]) rfl) <|
      .cons (.wr 1) _ _ (op_ver 19 rfl rfl (fun f => op_store_b 1 (Lk.t rfl) (Lk.t rfl) co_agg sz39 rfl rfl rfl) (fun f g h => by rw [h 11 (show 11 ∈ [11, 15] from by decide), h 15 (show 15 ∈ [11, 15] from by decide)]) rfl) <|
      .nil) (fun _ => mixed) rfl fun g2 => ⟨_, _, [1, 2, 3], rfl, (.cons 2 rfl <| .nil), (.cons 1 rfl <| .cons 2 rfl <| .cons 3 rfl <| .nil), ?_⟩)
  refine JN_then ?_
  refine J_ret ?_
  refine JN_to (To.join 1 2 rfl rfl rfl rfl) ?_
  refine JN_retF (u := .tuple #[(g2 11), (g2 15)]) 1 rfl rfl (.ag 0 (Lk.t rfl) ag39 rfl rfl rfl) (prS_of rfl rfl) ?_
  exact sb_refl
end Go.Proofs.YtjfkpnacfnnkhaaDoor
