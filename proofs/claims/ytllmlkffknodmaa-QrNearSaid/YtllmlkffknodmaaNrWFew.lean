/- Printed by a program of ours (walk.py): walks of what the laws of layer 10 reckon with. -/
import Derived.Test.YtllmlkffknodmaaNrKb
import Derived.Test.YtllmlkffknodmaaProg
import Derived.KernelRfl
import Derived.Test.YtllmlkffknodmaaNrTypes
import Derived.Test.YtllmlkffknodmaaNrWAwk
import Derived.Test.YtllmlkffknodmaaNrWExact
import Derived.Test.YtllmlkffknodmaaNrTru
set_option linter.unusedVariables false
set_option linter.unusedSimpArgs false
set_option maxRecDepth 20000
set_option maxHeartbeats 1000000
namespace Go.Proofs.Ytllmlkffknodmaa
open Go Go.Bn
attribute [local irreducible] OpOK
theorem iabs_ok {u : Value} {q0 q1 : SP} {x : Int} (hx : Sml x) : CtM Try.prog 40 [ipo u 0, intP x] (blk u [q0, q1] 72) (ipo u 0) (blk u (intC ((x.natAbs : Int))) 72) := by
  refine CtM.of Try.func40 rfl (by kernel_rfl) rfl (fix_blk) fun c0 ob hr0 => ?_
  have lx := sml_len hx
  refine J_seq (J_reg [] (
      .cons (.no) _ _ (op_assign (Lk.k rfl)) <|
      .nil) ff rfl fun g1 => ⟨_, _, [0], rfl, (.cons 0 rfl <| .cons 1 rfl <| .nil), (.cons 0 rfl <| .nil), ?_⟩)
  refine JN_then ?_
  refine J_seq (J_reg [] (
      .cons (.no) _ _ (op_move (Lk.t rfl)) <|
      .cons (.no) _ _ (op_move (Lk.t rfl)) <|
      .cons (.no) _ _ (op_nilp (Lk.t rfl)) <|
      .cons (.no) _ _ (op_field_ptr fd72_1 (Lk.t rfl) rfl) <|
      .cons (.no) _ _ (op_load_sc sc70 (Lk.t rfl) rfl) <|
      .cons (.no) _ _ (op_append_nil sl70 zr124 rfl (Lk.k rfl) (Lk.t rfl) (by omega) (by omega)) <|
      .cons (.wr 0) _ _ (op_callM 0 (iput_ok (limbs_dig _)) ⟨(Lk.t rfl), (Lk.k rfl), (Lk.t rfl),  trivial⟩ rfl) <|
      .cons (.no) _ _ (op_assign (Lk.t rfl)) <|
      .nil) ff rfl fun g2 => ⟨_, _, [0], rfl, (.cons 4 rfl <| .nil), (.cons 0 rfl <| .nil), ?_⟩)
  refine JN_then ?_
  refine J_ret ?_
  refine JN_to (To.res 0 (r' := blk u (intC ((x.natAbs : Int))) 72) rfl (res_eq (by rw [mag_nat]; rfl)) rfl) ?_
  refine JN_retM 0 hr0 (fix_blk) rfl (.cons (.tmp (Lk.t rfl)) <| .nil) (sb_trans (sb_res1 sb_refl) ?_)
  exact sb_refl
theorem xabs_ok {x : Exa} (hx : Exb x) : Ct Try.prog 14 [exaP x] (exaP x.abs) := by
  refine Ct.of Try.func14 rfl (by kernel_rfl) rfl fun c0 => ?_
  have hxm := hx.h
  have hx0 := hx.e0
  have hx1 := hx.e1
  refine J_to (To.emps 2) ?_
  refine J_seq (J_reg [] (
      .cons (.wr 0) _ _ (op_box 0 (Lk.t rfl) co_agg rfl) <|
      .cons (.wr 1) _ _ (op_alloc 1 zr32 rfl rfl) <|
      .nil) ff rfl fun g1 => ⟨_, _, [0, 1], rfl, (.cons 1 rfl <| .cons 2 rfl <| .nil), (.cons 0 rfl <| .cons 1 rfl <| .nil), ?_⟩)
  refine JN_then ?_
  refine J_to (To.emps 1) ?_
  refine J_seq (J_reg [[], [], [1], [0, 1, 2], [], [4], [0, 1, 2, 3, 4, 5], [0, 1, 2, 3, 4, 5, 6]] (
      .cons (.wr 2) _ _ (op_alloc 2 zr72 rfl rfl) <|
      .cons (.no) _ _ (op_field_own fd32_0 (Lk.t rfl) rfl) <|
      .cons (.rd 0) _ _ (op_get_sc 0 sc30 (Lk.t rfl) rfl mem_blk rfl) <|
      .cons (.wr 2) _ _ (op_callMp 2 rfl rfl (fun u => iabs_ok hxm) rfl ⟨(Lk.t rfl),  trivial⟩) <|
      .cons (.no) _ _ (op_field_own fd32_1 (Lk.t rfl) rfl) <|
      .cons (.rd 0) _ _ (op_get_sc 0 sc3 (Lk.t rfl) rfl mem_blk rfl) <|
      .cons (.no) _ _ (op_ve 6 9 rfl rfl rfl (fun f => (op_build zr32 rfl pl32 (.cons rfl (Lk.t rfl) co_ipo rfl (puts_l rfl (Nat.le_of_ble_eq_true rfl)) (.cons rfl (Lk.t rfl) co_isv rfl (puts_l rfl (Nat.le_of_ble_eq_true rfl)) .nil)))) (fun f g h => by rw [h 6 (show 6 ∈ [6] from by decide)]) rfl) <|
      .cons (.wr 1) _ _ (op_ver 9 rfl rfl (fun f => op_store_b 1 (Lk.t rfl) (Lk.t rfl) co_agg sz32 rfl rfl rfl) (fun f g h => by rw [h 6 (show 6 ∈ [6] from by decide)]) rfl) <|
      .nil) (fun _ => mixed) rfl fun g2 => ⟨_, _, [1, 2], rfl, (.cons 2 rfl <| .nil), (.cons 1 rfl <| .cons 2 rfl <| .nil), ?_⟩)
  refine JN_then ?_
  refine J_ret ?_
  refine JN_to (To.freeze 1 (fun _ h => h) rfl frz_blk rfl) ?_
  refine JN_ret (.cons (.ag 0 (Lk.t rfl) ag32 rfl rfl rfl) <| .nil) (sb_trans (sb_res1 (sb_agg (.cons (sb_ok 0 2 rfl rfl) <| .cons sb_refl <| .nil))) ?_)
  exact sb_refl
theorem squares_ok {xs : List Nat} (hD : DotB xs xs) : Ct Try.prog 11 [fls xs] (exaP (dotX xs xs xs.length)) := by
  refine Ct.of Try.func11 rfl (by kernel_rfl) rfl fun c0 => ?_
  refine J_to (To.emps 1) ?_
  refine J_seq (J_reg [] (
      .cons (.wr 0) _ _ (op_alloc 0 zr32 rfl rfl) <|
      .nil) ff rfl fun g1 => ⟨_, _, [0], rfl, (.cons 0 rfl <| .cons 2 rfl <| .nil), (.cons 0 rfl <| .nil), ?_⟩)
  refine JN_then ?_
  refine J_seq (J_reg [] (
      .cons (.no) _ _ (op_move (Lk.t rfl)) <|
      .cons (.no) _ _ (op_move (Lk.t rfl)) <|
      .cons (.no) _ _ (op_call (xdot_ok (by assumption)) ⟨(Lk.t rfl), (Lk.t rfl),  trivial⟩) <|
      .cons (.wr 0) _ _ (op_store_b 0 (Lk.t rfl) (Lk.t rfl) co_agg sz32 rfl rfl rfl) <|
      .nil) ff rfl fun g2 => ⟨_, _, [0], rfl, (.cons 2 rfl <| .nil), (.cons 0 rfl <| .nil), ?_⟩)
  refine JN_then ?_
  refine J_ret ?_
  refine JN_ret (.cons (.ag 0 (Lk.t rfl) ag32 rfl rfl rfl) <| .nil) (sb_trans (sb_res1 sb_refl) ?_)
  exact sb_refl
theorem tame_ok {x : Nat} {k : Int} (k0 : 0 ≤ k) (k1 : k ≤ 1000) : Ct Try.prog 9 [flp x, isv (.int .i64 k)] (isv (.bool (tameB x k))) := by
  refine Ct.of Try.func9 rfl (by kernel_rfl) rfl fun c0 => ?_
  refine J_seq (J_reg [] (
      .cons (.no) _ _ (op_assign (Lk.k rfl)) <|
      .nil) ff rfl fun g1 => ⟨_, _, [], rfl, (.cons 0 rfl <| .cons 1 rfl <| .nil), (.nil), ?_⟩)
  refine JN_then ?_
  refine J_seq (J_reg [] (
      .cons (.no) _ _ (op_move (Lk.t rfl)) <|
      .cons (.no) _ _ (op_call (abs_ok) ⟨(Lk.t rfl),  trivial⟩) <|
      .cons (.no) _ _ (op_assign (Lk.t rfl)) <|
      .nil) ff rfl fun g2 => ⟨_, _, [], rfl, (.cons 0 rfl <| .cons 1 rfl <| .cons 5 rfl <| .nil), (.nil), ?_⟩)
  refine JN_then ?_
  refine J_seq (J_reg [] (
      .cons (.no) _ _ (op_move (Lk.t rfl)) <|
      .cons (.no) _ _ (op_fcmp (by simp) (Lk.t rfl) (Lk.fk rfl (by decide +kernel)) rfl) <|
      .cons (.no) _ _ (op_move (Lk.t rfl)) <|
      .cons (.no) _ _ (op_guard rfl rfl (gd_b rfl) (fun hC => (op_move (Lk.t rfl)))) <|
      .cons (.no) _ _ (op_guard rfl rfl (gd_b rfl) (fun hC => (op_move (Lk.t rfl)))) <|
      .cons (.no) _ _ (op_guard rfl rfl (gd_b rfl) (fun hC => (op_neg (Lk.w rfl hC) (wrap_id (by omega) (by omega))))) <|
      .cons (.no) _ _ (op_guard rfl rfl (gd_b rfl) (fun hC => (op_call (Ldexp_ok (by omega) (by omega)) ⟨(Lk.fk rfl (by decide +kernel)), (Lk.w rfl hC),  trivial⟩))) <|
      .cons (.no) _ _ (op_guard rfl rfl (gd_b rfl) (fun hC => (op_fcmp (by simp) (Lk.w rfl hC) (Lk.w rfl hC) rfl))) <|
      .cons (.no) _ _ (op_guard rfl rfl (gd_b rfl) (fun hC => (op_move (Lk.w rfl hC)))) <|
      .cons (.no) _ _ (op_guard rfl rfl (gd_w rfl) (fun hC => (op_move (Lk.t rfl)))) <|
      .cons (.no) _ _ (op_guard rfl rfl (gd_w rfl) (fun hC => (op_move (Lk.t rfl)))) <|
      .cons (.no) _ _ (op_guard rfl rfl (gd_w rfl) (fun hC => (op_call (Ldexp_ok (by omega) (by omega)) ⟨(Lk.fk rfl (by decide +kernel)), (Lk.w rfl hC),  trivial⟩))) <|
      .cons (.no) _ _ (op_guard rfl rfl (gd_w rfl) (fun hC => (op_fcmp (by simp) (Lk.w rfl hC) (Lk.w rfl hC) rfl))) <|
      .cons (.no) _ _ (op_guard rfl rfl (gd_b rfl) (fun hC => (op_and (Lk.w rfl hC) (fun h2 => (Lk.w rfl ⟨hC, h2⟩))))) <|
      .cons (.no) _ _ (op_or (Lk.t rfl) (fun h2 => (Lk.w rfl h2))) <|
      .cons (.no) _ _ (op_assign (Lk.t rfl)) <|
      .nil) ff rfl fun g3 => ⟨_, _, [], rfl, (.cons 4 rfl <| .nil), (.nil), ?_⟩)
  refine JN_then ?_
  refine J_ret ?_
  refine JN_ret (.cons (.tmp (Lk.t rfl)) <| .nil) (sb_trans (sb_res1 sb_refl) ?_)
  exact ret_b (by unfold tameB; rfl)
end Go.Proofs.Ytllmlkffknodmaa
