/- Printed by a program of ours (walk.py): walks of the first examples. -/
import Derived.Test.YtllmlkffknodmaaNrKb
import Derived.Test.YtllmlkffknodmaaProg
import Derived.KernelRfl
import Derived.Test.YtllmlkffknodmaaNrTypes
import Derived.Test.YtllmlkffknodmaaNrWTri
set_option linter.unusedVariables false
set_option linter.unusedSimpArgs false
set_option maxRecDepth 20000
set_option maxHeartbeats 1000000
namespace Go.Proofs.Ytllmlkffknodmaa
open Go Go.Bn
attribute [local irreducible] OpOK
theorem ql_ok {bs : List Nat} (hb : GoodU bs) : Ct Try.prog 25 [wsl bs] (fls (bs.map cn)) := by
  refine Ct.of Try.func25 rfl (by kernel_rfl) rfl fun c0 => ?_
  refine J_seq (J_reg [] (
      .cons (.no) _ _ (op_assign (Lk.k rfl)) <|
      .nil) ff rfl fun g1 => ⟨_, _, [], rfl, (.cons 0 rfl <| .nil), (.nil), ?_⟩)
  refine JN_then ?_
  refine J_seq (J_reg [] (
      .cons (.no) _ _ (op_move (Lk.t rfl)) <|
      .cons (.no) _ _ (op_call (of64_ok hb.1 hb.2) ⟨(Lk.t rfl),  trivial⟩) <|
      .cons (.no) _ _ (op_assign (Lk.t rfl)) <|
      .nil) ff rfl fun g2 => ⟨_, _, [], rfl, (.cons 2 rfl <| .nil), (.nil), ?_⟩)
  refine JN_then ?_
  refine J_ret ?_
  refine JN_ret (.cons (.tmp (Lk.t rfl)) <| .nil) (sb_trans (sb_res1 sb_refl) ?_)
  exact sb_refl
theorem House_ok2 {a b : Nat} (h : [a, b].all (fun x => decide (x < 2 ^ 64)) = true) : Ct Try.prog 34 [slc 2 1 [flp a, flp b]] (tupp [fls (houseR [a, b]).v, flp (houseR [a, b]).w, flp (houseR [a, b]).alpha, isv (.int .i64 (houseR [a, b]).e)]) := House_ok (xs := [a, b]) h
theorem qaw1 : lenR [4613937818241073152, 4616189618054758400] = ⟨4617315517961601024, 0⟩ := by have h : (lenR [4613937818241073152, 4616189618054758400]).a = 4617315517961601024 ∧ (lenR [4613937818241073152, 4616189618054758400]).e = 0 := (by decide +kernel); cases hh : lenR [4613937818241073152, 4616189618054758400]; rw [hh] at h; obtain ⟨h1, h2⟩ := h; simp only at h1 h2; rw [h1, h2]
theorem qaw2 : (givR 0 13835058055282163712).c = 0 ∧ (givR 0 13835058055282163712).s = 4607182418800017408 ∧ (givR 0 13835058055282163712).r = 13835058055282163712 ∧ (givR 0 13835058055282163712).e = 0 := by decide +kernel
theorem qaw3 : (houseR [4613937818241073152, 4616189618054758400]).v = [4611686018427387904, 4607182418800017408] ∧ (houseR [4613937818241073152, 4616189618054758400]).w = 4612811918334230528 ∧ (houseR [4613937818241073152, 4616189618054758400]).alpha = 13840687554816376832 ∧ (houseR [4613937818241073152, 4616189618054758400]).e = 0 := by decide +kernel
theorem qaw4 : triM [⟨1, 2, [4613937818241073152, 4616189618054758400]⟩] = ⟨1, 1, [4617315517961601024], 0⟩ := MR.eq4 (by decide +kernel)
theorem qae1 : Ct Try.prog 26 [slc 2 1 [flp 4613937818241073152, flp 4616189618054758400]] (resN ⟨4617315517961601024, 0⟩) := qaw1 ▸ Qlen_ok2 (by decide) (by decide)
theorem qae2 : Ct Try.prog 10 [flp 0, flp 13835058055282163712] (tupp [flp 0, flp 4607182418800017408, flp 13835058055282163712, isv (.int .i64 0)]) := by have h := givens_ok (a := 0) (b := 13835058055282163712) (by decide) (by decide); rw [qaw2.1, qaw2.2.1, qaw2.2.2.1, qaw2.2.2.2] at h; exact h
theorem qae3 : Ct Try.prog 34 [slc 2 1 [flp 4613937818241073152, flp 4616189618054758400]] (tupp [fls [4611686018427387904, 4607182418800017408], flp 4612811918334230528, flp 13840687554816376832, isv (.int .i64 0)]) := by have h := House_ok2 (a := 4613937818241073152) (b := 4616189618054758400) (by decide); rw [qaw3.1, qaw3.2.1, qaw3.2.2.1, qaw3.2.2.2] at h; exact h
theorem qae4 : Ct Try.prog 22 [slc 1 3 [isv (.int .i64 1), isv (.int .i64 2), slc 2 1 [flp 4613937818241073152, flp 4616189618054758400]]] (resM ⟨1, 1, [4617315517961601024], 0⟩) := qaw4 ▸ tri_ok (ms := [⟨1, 2, [4613937818241073152, 4616189618054758400]⟩]) (fun k => by match k with | 0 => (intro j; match j with | 0 => (show 4613937818241073152 < 2 ^ 64; decide) | 1 => (show 4616189618054758400 < 2 ^ 64; decide) | (j + 2) => (show 0 < 2 ^ 64; decide)) | (k + 1) => (intro j; show 0 < 2 ^ 64; decide))
theorem awake_ok  : Ct Try.prog 7 [] (isv (.bool true)) := by
  refine Ct.of Try.func7 rfl (by kernel_rfl) rfl fun c0 => ?_
  refine J_seq (J_reg [] (
      .cons (.no) _ _ (op_assign (Lk.k rfl)) <|
      .nil) ff rfl fun g1 => ⟨_, _, [], rfl, (.nil), (.nil), ?_⟩)
  refine JN_then ?_
  refine J_seq (J_reg [] (
      .cons (.no) _ _ (op_buildSlice sl34 zr24 rfl rfl rfl rfl (.cons rfl (Lk.fk rfl (by decide +kernel)) co_flp rfl (puts_l rfl (Nat.le_of_ble_eq_true rfl)) (.cons rfl (Lk.fk rfl (by decide +kernel)) co_flp rfl (puts_l rfl (Nat.le_of_ble_eq_true rfl)) .nil))) <|
      .cons (.no) _ _ (op_call (qae1) ⟨(Lk.t rfl),  trivial⟩) <|
      .cons (.no) _ _ (op_move (Lk.t rfl)) <|
      .cons (.no) _ _ (op_extract (Lk.t rfl) rfl) <|
      .cons (.no) _ _ (op_extract (Lk.t rfl) rfl) <|
      .cons (.no) _ _ (op_assign (Lk.t rfl)) <|
      .cons (.no) _ _ (op_assign (Lk.t rfl)) <|
      .nil) ff rfl fun g2 => ⟨_, _, [], rfl, (.cons 1 rfl <| .cons 2 rfl <| .nil), (.nil), ?_⟩)
  refine JN_then ?_
  refine J_seq (J_reg [] (
      .cons (.no) _ _ (op_call (qae2) ⟨(Lk.fk rfl (by decide +kernel)), (Lk.fk rfl (by decide +kernel)),  trivial⟩) <|
      .cons (.no) _ _ (op_move (Lk.t rfl)) <|
      .cons (.no) _ _ (op_extract (Lk.t rfl) rfl) <|
      .cons (.no) _ _ (op_extract (Lk.t rfl) rfl) <|
      .cons (.no) _ _ (op_extract (Lk.t rfl) rfl) <|
      .cons (.no) _ _ (op_extract (Lk.t rfl) rfl) <|
      .cons (.no) _ _ (op_assign (Lk.t rfl)) <|
      .cons (.no) _ _ (op_assign (Lk.t rfl)) <|
      .cons (.no) _ _ (op_assign (Lk.t rfl)) <|
      .cons (.no) _ _ (op_assign (Lk.t rfl)) <|
      .nil) ff rfl fun g3 => ⟨_, _, [], rfl, (.cons 1 rfl <| .cons 2 rfl <| .cons 3 rfl <| .cons 4 rfl <| .cons 5 rfl <| .cons 6 rfl <| .nil), (.nil), ?_⟩)
  refine JN_then ?_
  refine J_seq (J_reg [] (
      .cons (.no) _ _ (op_buildSlice sl34 zr24 rfl rfl rfl rfl (.cons rfl (Lk.fk rfl (by decide +kernel)) co_flp rfl (puts_l rfl (Nat.le_of_ble_eq_true rfl)) (.cons rfl (Lk.fk rfl (by decide +kernel)) co_flp rfl (puts_l rfl (Nat.le_of_ble_eq_true rfl)) .nil))) <|
      .cons (.no) _ _ (op_call (qae3) ⟨(Lk.t rfl),  trivial⟩) <|
      .cons (.no) _ _ (op_move (Lk.t rfl)) <|
      .cons (.no) _ _ (op_extract (Lk.t rfl) rfl) <|
      .cons (.no) _ _ (op_extract (Lk.t rfl) rfl) <|
      .cons (.no) _ _ (op_extract (Lk.t rfl) rfl) <|
      .cons (.no) _ _ (op_extract (Lk.t rfl) rfl) <|
      .cons (.no) _ _ (op_assign (Lk.t rfl)) <|
      .cons (.no) _ _ (op_assign (Lk.t rfl)) <|
      .cons (.no) _ _ (op_assign (Lk.t rfl)) <|
      .cons (.no) _ _ (op_assign (Lk.t rfl)) <|
      .nil) ff rfl fun g4 => ⟨_, _, [], rfl, (.cons 1 rfl <| .cons 2 rfl <| .cons 3 rfl <| .cons 4 rfl <| .cons 5 rfl <| .cons 6 rfl <| .cons 7 rfl <| .cons 8 rfl <| .cons 9 rfl <| .cons 10 rfl <| .nil), (.nil), ?_⟩)
  refine JN_then ?_
  refine J_to (To.emps 1) ?_
  refine J_seq (J_reg [] (
      .cons (.no) _ _ (op_buildSlice sl34 zr24 rfl rfl rfl rfl (.cons rfl (Lk.fk rfl (by decide +kernel)) co_flp rfl (puts_l rfl (Nat.le_of_ble_eq_true rfl)) (.cons rfl (Lk.fk rfl (by decide +kernel)) co_flp rfl (puts_l rfl (Nat.le_of_ble_eq_true rfl)) .nil))) <|
      .cons (.no) _ _ (op_build zr46 rfl pl46 (.cons rfl (Lk.k rfl) co_isv rfl (puts_l rfl (Nat.le_of_ble_eq_true rfl)) (.cons rfl (Lk.k rfl) co_isv rfl (puts_l rfl (Nat.le_of_ble_eq_true rfl)) (.cons rfl (Lk.t rfl) co_slc rfl (puts_l rfl (Nat.le_of_ble_eq_true rfl)) .nil)))) <|
      .cons (.no) _ _ (op_buildSlice sl50 zr46 rfl rfl rfl rfl (.cons rfl (Lk.t rfl) co_agg rfl (puts_l rfl (Nat.le_of_ble_eq_true rfl)) .nil)) <|
      .cons (.no) _ _ (op_call (qae4) ⟨(Lk.t rfl),  trivial⟩) <|
      .cons (.no) _ _ (op_move (Lk.t rfl)) <|
      .cons (.no) _ _ (op_extract (Lk.t rfl) rfl) <|
      .cons (.no) _ _ (op_extract (Lk.t rfl) rfl) <|
      .cons (.wr 0) _ _ (op_alloc 0 zr46 rfl rfl) <|
      .cons (.wr 0) _ _ (op_store_new 0 rfl (Lk.t rfl) co_agg sz46 rfl rfl) <|
      .cons (.no) _ _ (op_assign (Lk.t rfl)) <|
      .nil) ff rfl fun g5 => ⟨_, _, [0], rfl, (.cons 1 rfl <| .cons 2 rfl <| .cons 3 rfl <| .cons 4 rfl <| .cons 5 rfl <| .cons 6 rfl <| .cons 7 rfl <| .cons 8 rfl <| .cons 9 rfl <| .cons 10 rfl <| .cons 11 rfl <| .cons 12 rfl <| .nil), (.cons 0 rfl <| .nil), ?_⟩)
  refine JN_then ?_
  refine J_seq (J_reg [] (
      .cons (.no) _ _ (op_move (Lk.t rfl)) <|
      .cons (.no) _ _ (op_cmp (by simp) (Lk.t rfl) (Lk.k rfl) rfl) <|
      .cons (.no) _ _ (op_move (Lk.t rfl)) <|
      .cons (.no) _ _ (op_guard rfl rfl (gd_b rfl) (fun hC => (op_move (Lk.t rfl)))) <|
      .cons (.no) _ _ (op_guard rfl rfl (gd_b rfl) (fun hC => (op_fcmp (by simp) (Lk.w rfl hC) (Lk.fk rfl (by decide +kernel)) rfl))) <|
      .cons (.no) _ _ (op_and (Lk.t rfl) (fun h2 => (Lk.w rfl h2))) <|
      .cons (.no) _ _ (op_move (Lk.t rfl)) <|
      .cons (.no) _ _ (op_guard rfl rfl (gd_b rfl) (fun hC => (op_move (Lk.t rfl)))) <|
      .cons (.no) _ _ (op_guard rfl rfl (gd_b rfl) (fun hC => (op_cmp (by simp) (Lk.w rfl hC) (Lk.k rfl) rfl))) <|
      .cons (.no) _ _ (op_and (Lk.t rfl) (fun h2 => (Lk.w rfl h2))) <|
      .cons (.no) _ _ (op_move (Lk.t rfl)) <|
      .cons (.no) _ _ (op_guard rfl rfl (gd_b rfl) (fun hC => (op_move (Lk.t rfl)))) <|
      .cons (.no) _ _ (op_guard rfl rfl (gd_b rfl) (fun hC => (op_fcmp (by simp) (Lk.w rfl hC) (Lk.fk rfl (by decide +kernel)) rfl))) <|
      .cons (.no) _ _ (op_and (Lk.t rfl) (fun h2 => (Lk.w rfl h2))) <|
      .cons (.no) _ _ (op_move (Lk.t rfl)) <|
      .cons (.no) _ _ (op_guard rfl rfl (gd_b rfl) (fun hC => (op_move (Lk.t rfl)))) <|
      .cons (.no) _ _ (op_guard rfl rfl (gd_b rfl) (fun hC => (op_fcmp (by simp) (Lk.w rfl hC) (Lk.fk rfl (by decide +kernel)) rfl))) <|
      .cons (.no) _ _ (op_and (Lk.t rfl) (fun h2 => (Lk.w rfl h2))) <|
      .cons (.no) _ _ (op_move (Lk.t rfl)) <|
      .cons (.no) _ _ (op_guard rfl rfl (gd_b rfl) (fun hC => (op_move (Lk.t rfl)))) <|
      .cons (.no) _ _ (op_guard rfl rfl (gd_b rfl) (fun hC => (op_fcmp (by simp) (Lk.w rfl hC) (Lk.fk rfl (by decide +kernel)) rfl))) <|
      .cons (.no) _ _ (op_and (Lk.t rfl) (fun h2 => (Lk.w rfl h2))) <|
      .cons (.no) _ _ (op_move (Lk.t rfl)) <|
      .cons (.no) _ _ (op_guard rfl rfl (gd_b rfl) (fun hC => (op_move (Lk.t rfl)))) <|
      .cons (.no) _ _ (op_guard rfl rfl (gd_b rfl) (fun hC => (op_cmp (by simp) (Lk.w rfl hC) (Lk.k rfl) rfl))) <|
      .cons (.no) _ _ (op_and (Lk.t rfl) (fun h2 => (Lk.w rfl h2))) <|
      .cons (.no) _ _ (op_move (Lk.t rfl)) <|
      .cons (.no) _ _ (op_guard rfl rfl (gd_b rfl) (fun hC => (op_move (Lk.t rfl)))) <|
      .cons (.no) _ _ (op_guard rfl rfl (gd_b rfl) (fun hC => (op_len_m sl34 (Lk.w rfl hC)))) <|
      .cons (.no) _ _ (op_guard rfl rfl (gd_b rfl) (fun hC => (op_cmp (by simp) (Lk.w rfl hC) (Lk.k rfl) rfl))) <|
      .cons (.no) _ _ (op_and (Lk.t rfl) (fun h2 => (Lk.w rfl h2))) <|
      .cons (.no) _ _ (op_move (Lk.t rfl)) <|
      .cons (.no) _ _ (op_guard rfl rfl (gd_b rfl) (fun hC => (op_move (Lk.t rfl)))) <|
      .cons (.no) _ _ (op_guard rfl rfl (gd_b rfl) (fun hC => (op_index_m 0 sl34 (Lk.w rfl hC) (Lk.k rfl) (by decide) (by decide)))) <|
      .cons (.no) _ _ (op_guard rfl rfl (gd_b rfl) (fun hC => (op_load_sc sc24 (Lk.w rfl hC) rfl))) <|
      .cons (.no) _ _ (op_guard rfl rfl (gd_b rfl) (fun hC => (op_fcmp (by simp) (Lk.w rfl hC) (Lk.fk rfl (by decide +kernel)) rfl))) <|
      .cons (.no) _ _ (op_and (Lk.t rfl) (fun h2 => (Lk.w rfl h2))) <|
      .cons (.no) _ _ (op_move (Lk.t rfl)) <|
      .cons (.no) _ _ (op_guard rfl rfl (gd_b rfl) (fun hC => (op_move (Lk.t rfl)))) <|
      .cons (.no) _ _ (op_guard rfl rfl (gd_b rfl) (fun hC => (op_fcmp (by simp) (Lk.w rfl hC) (Lk.fk rfl (by decide +kernel)) rfl))) <|
      .cons (.no) _ _ (op_and (Lk.t rfl) (fun h2 => (Lk.w rfl h2))) <|
      .cons (.no) _ _ (op_move (Lk.t rfl)) <|
      .cons (.no) _ _ (op_guard rfl rfl (gd_b rfl) (fun hC => (op_move (Lk.t rfl)))) <|
      .cons (.no) _ _ (op_guard rfl rfl (gd_b rfl) (fun hC => (op_fcmp (by simp) (Lk.w rfl hC) (Lk.fk rfl (by decide +kernel)) rfl))) <|
      .cons (.no) _ _ (op_and (Lk.t rfl) (fun h2 => (Lk.w rfl h2))) <|
      .cons (.no) _ _ (op_move (Lk.t rfl)) <|
      .cons (.no) _ _ (op_guard rfl rfl (gd_b rfl) (fun hC => (op_move (Lk.t rfl)))) <|
      .cons (.no) _ _ (op_guard rfl rfl (gd_b rfl) (fun hC => (op_cmp (by simp) (Lk.w rfl hC) (Lk.k rfl) rfl))) <|
      .cons (.no) _ _ (op_and (Lk.t rfl) (fun h2 => (Lk.w rfl h2))) <|
      .cons (.no) _ _ (op_move (Lk.t rfl)) <|
      .cons (.no) _ _ (op_guard rfl rfl (gd_b rfl) (fun hC => (op_field_own fd46_2 (Lk.t rfl) rfl))) <|
      .cons (.rd 0) _ _ (op_guard rfl rfl (gd_b rfl) (fun hC => (op_get_sc 0 sc34 (Lk.w rfl hC) rfl mem_blk rfl))) <|
      .cons (.no) _ _ (op_guard rfl rfl (gd_b rfl) (fun hC => (op_len_m sl34 (Lk.w rfl hC)))) <|
      .cons (.no) _ _ (op_guard rfl rfl (gd_b rfl) (fun hC => (op_cmp (by simp) (Lk.w rfl hC) (Lk.k rfl) rfl))) <|
      .cons (.no) _ _ (op_and (Lk.t rfl) (fun h2 => (Lk.w rfl h2))) <|
      .cons (.no) _ _ (op_move (Lk.t rfl)) <|
      .cons (.no) _ _ (op_guard rfl rfl (gd_b rfl) (fun hC => (op_field_own fd46_2 (Lk.t rfl) rfl))) <|
      .cons (.rd 0) _ _ (op_guard rfl rfl (gd_b rfl) (fun hC => (op_get_sc 0 sc34 (Lk.w rfl hC) rfl mem_blk rfl))) <|
      .cons (.no) _ _ (op_guard rfl rfl (gd_b rfl) (fun hC => (op_index_m 0 sl34 (Lk.w rfl hC) (Lk.k rfl) (by decide) (by decide)))) <|
      .cons (.no) _ _ (op_guard rfl rfl (gd_b rfl) (fun hC => (op_load_sc sc24 (Lk.w rfl hC) rfl))) <|
      .cons (.no) _ _ (op_guard rfl rfl (gd_b rfl) (fun hC => (op_fcmp (by simp) (Lk.w rfl hC) (Lk.fk rfl (by decide +kernel)) rfl))) <|
      .cons (.no) _ _ (op_and (Lk.t rfl) (fun h2 => (Lk.w rfl h2))) <|
      .cons (.no) _ _ (op_assign (Lk.t rfl)) <|
      .nil) ff rfl fun g6 => ⟨_, _, [], rfl, (.cons 0 rfl <| .nil), (.nil), ?_⟩)
  refine JN_then ?_
  refine J_ret ?_
  refine JN_ret (.cons (.tmp (Lk.t rfl)) <| .nil) (sb_trans (sb_res1 sb_refl) ?_)
  exact ret_b (by decide +kernel)
end Go.Proofs.Ytllmlkffknodmaa
