/- Printed by a program of ours (walk.py): walks of the first examples. -/
import Derived.Test.YtllkellonjhalaaGreatRrKb
import Derived.Test.YtllkellonjhalaaGreatProg
import Derived.KernelRfl
import Derived.Test.YtllkellonjhalaaGreatRrTypes
import Derived.Test.YtllkellonjhalaaGreatRrWTri
set_option linter.unusedVariables false
set_option linter.unusedSimpArgs false
set_option maxRecDepth 20000
set_option maxHeartbeats 1000000
namespace Go.Proofs.YtllkellonjhalaaGreat
open Go Go.Bn
attribute [local irreducible] OpOK
theorem ql_ok {bs : List Nat} (hb : GoodU bs) : Ct Tryz.prog 30 [wsl bs] (fls (bs.map cn)) := by
 refine Ct.of Tryz.func30 rfl (by kernel_rfl) rfl fun c0 => ?_
 refine zF (zG [] (
   .n (zB (Lk.k rfl)) <| .nil) ff rfl fun g1 => ⟨_, _, [], rfl, (.cons 0 rfl <| .nil), (.nil), ?_⟩)
 refine zC ?_
 refine zF (zG [] (
   .n (zA (Lk.t rfl)) <|
   .n (zP (of64_ok hb.1 hb.2) ⟨(Lk.t rfl),  trivial⟩) <|
   .n (zB (Lk.t rfl)) <| .nil) ff rfl fun g2 => ⟨_, _, [], rfl, (.cons 2 rfl <| .nil), (.nil), ?_⟩)
 refine zC ?_
 refine J_ret ?_
 refine zQ (.cons (.tmp (Lk.t rfl)) <| .nil) (zM (sb_res1 zL) ?_)
 exact zL
theorem qof_ok {r c : Int} {bs : List Nat} (hb : GoodU bs) : Ct Tryz.prog 19 [MatU r c bs] (MatP r c (bs.map cn)) := by
 refine Ct.of Tryz.func19 rfl (by kernel_rfl) rfl fun c0 => ?_
 refine J_to (To.emps 2) ?_
 refine zF (zG [] (
   .w 0 (op_box 0 (Lk.t rfl) co_agg rfl) <|
   .w 1 (op_alloc 1 zr28 rfl rfl) <| .nil) ff rfl fun g1 => ⟨_, _, [0, 1], rfl, (.cons 1 rfl <| .cons 2 rfl <| .nil), (.cons 0 rfl <| .cons 1 rfl <| .nil), ?_⟩)
 refine zC ?_
 refine zF (zG [[], [0], [], [2], [], [4], [4, 5], [0, 1, 2, 3, 4, 5, 6], [0, 1, 2, 3, 4, 5, 6, 7]] (
   .n (zI fd50_0 (Lk.t rfl) rfl) <|
   .r 0 (zN 0 sc3 (Lk.t rfl) rfl zJ rfl) <|
   .n (zI fd50_1 (Lk.t rfl) rfl) <|
   .r 0 (zN 0 sc3 (Lk.t rfl) rfl zJ rfl) <|
   .n (zI fd50_2 (Lk.t rfl) rfl) <|
   .r 0 (zN 0 sc48 (Lk.t rfl) rfl zJ rfl) <|
   .n (zP (ql_ok (by assumption)) ⟨(Lk.t rfl),  trivial⟩) <|
   .n (op_build zr28 rfl pl28 (.cons rfl (Lk.t rfl) co_isv rfl (puts_l rfl (Nat.le_of_ble_eq_true rfl)) (.cons rfl (Lk.t rfl) co_isv rfl (puts_l rfl (Nat.le_of_ble_eq_true rfl)) (.cons rfl (Lk.t rfl) co_slm rfl (puts_l rfl (Nat.le_of_ble_eq_true rfl)) .nil)))) <|
   .w 1 (op_store_b 1 (Lk.t rfl) (Lk.t rfl) co_agg sz28 rfl rfl rfl) <| .nil) (fun _ => mixed) rfl fun g2 => ⟨_, _, [1], rfl, (.cons 2 rfl <| .nil), (.cons 1 rfl <| .nil), ?_⟩)
 refine zC ?_
 refine J_ret ?_
 refine zQ (.cons (.ag 0 (Lk.t rfl) ag28 rfl rfl rfl) <| .nil) (zM (sb_res1 zL) ?_)
 exact zL
theorem House_ok2 {a b : Nat} (h : [a, b].all (fun x => decide (x < 2 ^ 64)) = true) : Ct Tryz.prog 35 [slc 2 1 [flp a, flp b]] (tupp [fls (houseR [a, b]).v, flp (houseR [a, b]).w, flp (houseR [a, b]).alpha, isv (.int .i64 (houseR [a, b]).e)]) := House_ok (xs := [a, b]) h
theorem qaw1 : lenR [4613937818241073152, 4616189618054758400] = ⟨4617315517961601024, 0⟩ := by have h : (lenR [4613937818241073152, 4616189618054758400]).a = 4617315517961601024 ∧ (lenR [4613937818241073152, 4616189618054758400]).e = 0 := (by decide +kernel); cases hh : lenR [4613937818241073152, 4616189618054758400]; rw [hh] at h; obtain ⟨h1, h2⟩ := h; simp only at h1 h2; rw [h1, h2]
theorem qaw2 : (givR 0 13835058055282163712).c = 0 ∧ (givR 0 13835058055282163712).s = 4607182418800017408 ∧ (givR 0 13835058055282163712).r = 13835058055282163712 ∧ (givR 0 13835058055282163712).e = 0 := by decide +kernel
theorem qaw3 : (houseR [4613937818241073152, 4616189618054758400]).v = [4611686018427387904, 4607182418800017408] ∧ (houseR [4613937818241073152, 4616189618054758400]).w = 4612811918334230528 ∧ (houseR [4613937818241073152, 4616189618054758400]).alpha = 13840687554816376832 ∧ (houseR [4613937818241073152, 4616189618054758400]).e = 0 := by decide +kernel
theorem qaw4 : triM [⟨1, 2, [4613937818241073152, 4616189618054758400]⟩] = ⟨1, 1, [4617315517961601024], 0⟩ := MR.eq4 (by decide +kernel)
theorem qae1 : Ct Tryz.prog 33 [slc 2 1 [flp 4613937818241073152, flp 4616189618054758400]] (resN ⟨4617315517961601024, 0⟩) := qaw1 ▸ Qlen_ok2 (by decide) (by decide)
theorem qae2 : Ct Tryz.prog 34 [flp 0, flp 13835058055282163712] (tupp [flp 0, flp 4607182418800017408, flp 13835058055282163712, isv (.int .i64 0)]) := by have h := givens_ok (a := 0) (b := 13835058055282163712) (by decide) (by decide); rw [qaw2.1, qaw2.2.1, qaw2.2.2.1, qaw2.2.2.2] at h; exact h
theorem qae3 : Ct Tryz.prog 35 [slc 2 1 [flp 4613937818241073152, flp 4616189618054758400]] (tupp [fls [4611686018427387904, 4607182418800017408], flp 4612811918334230528, flp 13840687554816376832, isv (.int .i64 0)]) := by have h := House_ok2 (a := 4613937818241073152) (b := 4616189618054758400) (by decide); rw [qaw3.1, qaw3.2.1, qaw3.2.2.1, qaw3.2.2.2] at h; exact h
theorem qae4 : Ct Tryz.prog 8 [slc 1 3 [isv (.int .i64 1), isv (.int .i64 2), slc 2 1 [flp 4613937818241073152, flp 4616189618054758400]]] (resM ⟨1, 1, [4617315517961601024], 0⟩) := qaw4 ▸ tri_ok (ms := [⟨1, 2, [4613937818241073152, 4616189618054758400]⟩]) (fun k => by match k with | 0 => (intro j; match j with | 0 => (show 4613937818241073152 < 2 ^ 64; decide) | 1 => (show 4616189618054758400 < 2 ^ 64; decide) | (j + 2) => (show 0 < 2 ^ 64; decide)) | (k + 1) => (intro j; show 0 < 2 ^ 64; decide))
theorem awake_ok  : Ct Tryz.prog 6 [] (isv (.bool true)) := by
 refine Ct.of Tryz.func6 rfl (by kernel_rfl) rfl fun c0 => ?_
 refine zF (zG [] (
   .n (zB (Lk.k rfl)) <| .nil) ff rfl fun g1 => ⟨_, _, [], rfl, (.nil), (.nil), ?_⟩)
 refine zC ?_
 refine zF (zG [] (
   .n (op_buildSlice sl26 zr36 rfl rfl rfl rfl (.cons rfl (Lk.fk rfl (by decide +kernel)) co_flp rfl (puts_l rfl (Nat.le_of_ble_eq_true rfl)) (.cons rfl (Lk.fk rfl (by decide +kernel)) co_flp rfl (puts_l rfl (Nat.le_of_ble_eq_true rfl)) .nil))) <|
   .n (zP (qae1) ⟨(Lk.t rfl),  trivial⟩) <|
   .n (zA (Lk.t rfl)) <|
   .n (op_extract (Lk.t rfl) rfl) <|
   .n (op_extract (Lk.t rfl) rfl) <|
   .n (zB (Lk.t rfl)) <|
   .n (zB (Lk.t rfl)) <| .nil) ff rfl fun g2 => ⟨_, _, [], rfl, (.cons 1 rfl <| .cons 2 rfl <| .nil), (.nil), ?_⟩)
 refine zC ?_
 refine zF (zG [] (
   .n (zP (qae2) ⟨(Lk.fk rfl (by decide +kernel)), (Lk.fk rfl (by decide +kernel)),  trivial⟩) <|
   .n (zA (Lk.t rfl)) <|
   .n (op_extract (Lk.t rfl) rfl) <|
   .n (op_extract (Lk.t rfl) rfl) <|
   .n (op_extract (Lk.t rfl) rfl) <|
   .n (op_extract (Lk.t rfl) rfl) <|
   .n (zB (Lk.t rfl)) <|
   .n (zB (Lk.t rfl)) <|
   .n (zB (Lk.t rfl)) <|
   .n (zB (Lk.t rfl)) <| .nil) ff rfl fun g3 => ⟨_, _, [], rfl, (.cons 1 rfl <| .cons 2 rfl <| .cons 3 rfl <| .cons 4 rfl <| .cons 5 rfl <| .cons 6 rfl <| .nil), (.nil), ?_⟩)
 refine zC ?_
 refine zF (zG [] (
   .n (op_buildSlice sl26 zr36 rfl rfl rfl rfl (.cons rfl (Lk.fk rfl (by decide +kernel)) co_flp rfl (puts_l rfl (Nat.le_of_ble_eq_true rfl)) (.cons rfl (Lk.fk rfl (by decide +kernel)) co_flp rfl (puts_l rfl (Nat.le_of_ble_eq_true rfl)) .nil))) <|
   .n (zP (qae3) ⟨(Lk.t rfl),  trivial⟩) <|
   .n (zA (Lk.t rfl)) <|
   .n (op_extract (Lk.t rfl) rfl) <|
   .n (op_extract (Lk.t rfl) rfl) <|
   .n (op_extract (Lk.t rfl) rfl) <|
   .n (op_extract (Lk.t rfl) rfl) <|
   .n (zB (Lk.t rfl)) <|
   .n (zB (Lk.t rfl)) <|
   .n (zB (Lk.t rfl)) <|
   .n (zB (Lk.t rfl)) <| .nil) ff rfl fun g4 => ⟨_, _, [], rfl, (.cons 1 rfl <| .cons 2 rfl <| .cons 3 rfl <| .cons 4 rfl <| .cons 5 rfl <| .cons 6 rfl <| .cons 7 rfl <| .cons 8 rfl <| .cons 9 rfl <| .cons 10 rfl <| .nil), (.nil), ?_⟩)
 refine zC ?_
 refine J_to (To.emps 1) ?_
 refine zF (zG [] (
   .n (op_buildSlice sl26 zr36 rfl rfl rfl rfl (.cons rfl (Lk.fk rfl (by decide +kernel)) co_flp rfl (puts_l rfl (Nat.le_of_ble_eq_true rfl)) (.cons rfl (Lk.fk rfl (by decide +kernel)) co_flp rfl (puts_l rfl (Nat.le_of_ble_eq_true rfl)) .nil))) <|
   .n (op_build zr28 rfl pl28 (.cons rfl (Lk.k rfl) co_isv rfl (puts_l rfl (Nat.le_of_ble_eq_true rfl)) (.cons rfl (Lk.k rfl) co_isv rfl (puts_l rfl (Nat.le_of_ble_eq_true rfl)) (.cons rfl (Lk.t rfl) co_slc rfl (puts_l rfl (Nat.le_of_ble_eq_true rfl)) .nil)))) <|
   .n (op_buildSlice sl24 zr28 rfl rfl rfl rfl (.cons rfl (Lk.t rfl) co_agg rfl (puts_l rfl (Nat.le_of_ble_eq_true rfl)) .nil)) <|
   .n (zP (qae4) ⟨(Lk.t rfl),  trivial⟩) <|
   .n (zA (Lk.t rfl)) <|
   .n (op_extract (Lk.t rfl) rfl) <|
   .n (op_extract (Lk.t rfl) rfl) <|
   .w 0 (op_alloc 0 zr28 rfl rfl) <|
   .w 0 (op_store_new 0 rfl (Lk.t rfl) co_agg sz28 rfl rfl) <|
   .n (zB (Lk.t rfl)) <| .nil) ff rfl fun g5 => ⟨_, _, [0], rfl, (.cons 1 rfl <| .cons 2 rfl <| .cons 3 rfl <| .cons 4 rfl <| .cons 5 rfl <| .cons 6 rfl <| .cons 7 rfl <| .cons 8 rfl <| .cons 9 rfl <| .cons 10 rfl <| .cons 11 rfl <| .cons 12 rfl <| .nil), (.cons 0 rfl <| .nil), ?_⟩)
 refine zC ?_
 refine zF (zG [] (
   .n (zA (Lk.t rfl)) <|
   .n (op_cmp (by simp) (Lk.t rfl) (Lk.k rfl) rfl) <|
   .n (zA (Lk.t rfl)) <|
   .n (op_guard rfl rfl (gd_b rfl) (fun hC => (zA (Lk.t rfl)))) <|
   .n (op_guard rfl rfl (gd_b rfl) (fun hC => (op_fcmp (by simp) (Lk.w rfl hC) (Lk.fk rfl (by decide +kernel)) rfl))) <|
   .n (op_and (Lk.t rfl) (fun h2 => (Lk.w rfl h2))) <|
   .n (zA (Lk.t rfl)) <|
   .n (op_guard rfl rfl (gd_b rfl) (fun hC => (zA (Lk.t rfl)))) <|
   .n (op_guard rfl rfl (gd_b rfl) (fun hC => (op_cmp (by simp) (Lk.w rfl hC) (Lk.k rfl) rfl))) <|
   .n (op_and (Lk.t rfl) (fun h2 => (Lk.w rfl h2))) <|
   .n (zA (Lk.t rfl)) <|
   .n (op_guard rfl rfl (gd_b rfl) (fun hC => (zA (Lk.t rfl)))) <|
   .n (op_guard rfl rfl (gd_b rfl) (fun hC => (op_fcmp (by simp) (Lk.w rfl hC) (Lk.fk rfl (by decide +kernel)) rfl))) <|
   .n (op_and (Lk.t rfl) (fun h2 => (Lk.w rfl h2))) <|
   .n (zA (Lk.t rfl)) <|
   .n (op_guard rfl rfl (gd_b rfl) (fun hC => (zA (Lk.t rfl)))) <|
   .n (op_guard rfl rfl (gd_b rfl) (fun hC => (op_fcmp (by simp) (Lk.w rfl hC) (Lk.fk rfl (by decide +kernel)) rfl))) <|
   .n (op_and (Lk.t rfl) (fun h2 => (Lk.w rfl h2))) <|
   .n (zA (Lk.t rfl)) <|
   .n (op_guard rfl rfl (gd_b rfl) (fun hC => (zA (Lk.t rfl)))) <|
   .n (op_guard rfl rfl (gd_b rfl) (fun hC => (op_fcmp (by simp) (Lk.w rfl hC) (Lk.fk rfl (by decide +kernel)) rfl))) <|
   .n (op_and (Lk.t rfl) (fun h2 => (Lk.w rfl h2))) <|
   .n (zA (Lk.t rfl)) <|
   .n (op_guard rfl rfl (gd_b rfl) (fun hC => (zA (Lk.t rfl)))) <|
   .n (op_guard rfl rfl (gd_b rfl) (fun hC => (op_cmp (by simp) (Lk.w rfl hC) (Lk.k rfl) rfl))) <|
   .n (op_and (Lk.t rfl) (fun h2 => (Lk.w rfl h2))) <|
   .n (zA (Lk.t rfl)) <|
   .n (op_guard rfl rfl (gd_b rfl) (fun hC => (zA (Lk.t rfl)))) <|
   .n (op_guard rfl rfl (gd_b rfl) (fun hC => (op_len_m sl26 (Lk.w rfl hC)))) <|
   .n (op_guard rfl rfl (gd_b rfl) (fun hC => (op_cmp (by simp) (Lk.w rfl hC) (Lk.k rfl) rfl))) <|
   .n (op_and (Lk.t rfl) (fun h2 => (Lk.w rfl h2))) <|
   .n (zA (Lk.t rfl)) <|
   .n (op_guard rfl rfl (gd_b rfl) (fun hC => (zA (Lk.t rfl)))) <|
   .n (op_guard rfl rfl (gd_b rfl) (fun hC => (op_index_m 0 sl26 (Lk.w rfl hC) (Lk.k rfl) (by decide) (by decide)))) <|
   .n (op_guard rfl rfl (gd_b rfl) (fun hC => (op_load_sc sc36 (Lk.w rfl hC) rfl))) <|
   .n (op_guard rfl rfl (gd_b rfl) (fun hC => (op_fcmp (by simp) (Lk.w rfl hC) (Lk.fk rfl (by decide +kernel)) rfl))) <|
   .n (op_and (Lk.t rfl) (fun h2 => (Lk.w rfl h2))) <|
   .n (zA (Lk.t rfl)) <|
   .n (op_guard rfl rfl (gd_b rfl) (fun hC => (zA (Lk.t rfl)))) <|
   .n (op_guard rfl rfl (gd_b rfl) (fun hC => (op_fcmp (by simp) (Lk.w rfl hC) (Lk.fk rfl (by decide +kernel)) rfl))) <|
   .n (op_and (Lk.t rfl) (fun h2 => (Lk.w rfl h2))) <|
   .n (zA (Lk.t rfl)) <|
   .n (op_guard rfl rfl (gd_b rfl) (fun hC => (zA (Lk.t rfl)))) <|
   .n (op_guard rfl rfl (gd_b rfl) (fun hC => (op_fcmp (by simp) (Lk.w rfl hC) (Lk.fk rfl (by decide +kernel)) rfl))) <|
   .n (op_and (Lk.t rfl) (fun h2 => (Lk.w rfl h2))) <|
   .n (zA (Lk.t rfl)) <|
   .n (op_guard rfl rfl (gd_b rfl) (fun hC => (zA (Lk.t rfl)))) <|
   .n (op_guard rfl rfl (gd_b rfl) (fun hC => (op_cmp (by simp) (Lk.w rfl hC) (Lk.k rfl) rfl))) <|
   .n (op_and (Lk.t rfl) (fun h2 => (Lk.w rfl h2))) <|
   .n (zA (Lk.t rfl)) <|
   .n (op_guard rfl rfl (gd_b rfl) (fun hC => (zI fd28_2 (Lk.t rfl) rfl))) <|
   .r 0 (op_guard rfl rfl (gd_b rfl) (fun hC => (zN 0 sc26 (Lk.w rfl hC) rfl zJ rfl))) <|
   .n (op_guard rfl rfl (gd_b rfl) (fun hC => (op_len_m sl26 (Lk.w rfl hC)))) <|
   .n (op_guard rfl rfl (gd_b rfl) (fun hC => (op_cmp (by simp) (Lk.w rfl hC) (Lk.k rfl) rfl))) <|
   .n (op_and (Lk.t rfl) (fun h2 => (Lk.w rfl h2))) <|
   .n (zA (Lk.t rfl)) <|
   .n (op_guard rfl rfl (gd_b rfl) (fun hC => (zI fd28_2 (Lk.t rfl) rfl))) <|
   .r 0 (op_guard rfl rfl (gd_b rfl) (fun hC => (zN 0 sc26 (Lk.w rfl hC) rfl zJ rfl))) <|
   .n (op_guard rfl rfl (gd_b rfl) (fun hC => (op_index_m 0 sl26 (Lk.w rfl hC) (Lk.k rfl) (by decide) (by decide)))) <|
   .n (op_guard rfl rfl (gd_b rfl) (fun hC => (op_load_sc sc36 (Lk.w rfl hC) rfl))) <|
   .n (op_guard rfl rfl (gd_b rfl) (fun hC => (op_fcmp (by simp) (Lk.w rfl hC) (Lk.fk rfl (by decide +kernel)) rfl))) <|
   .n (op_and (Lk.t rfl) (fun h2 => (Lk.w rfl h2))) <|
   .n (zB (Lk.t rfl)) <| .nil) ff rfl fun g6 => ⟨_, _, [], rfl, (.cons 0 rfl <| .nil), (.nil), ?_⟩)
 refine zC ?_
 refine J_ret ?_
 refine zQ (.cons (.tmp (Lk.t rfl)) <| .nil) (zM (sb_res1 zL) ?_)
 exact ret_b (by decide +kernel)
end Go.Proofs.YtllkellonjhalaaGreat
