/- Printed by a program of ours (walk.py): walks of numbers taken apart and put together. -/
import Derived.Test.YtcpififnffmjfaaGreatDoorZsKb
import Derived.Test.YtcpififnffmjfaaGreatDoorProg
import Derived.KernelRfl
import Derived.Test.YtcpififnffmjfaaGreatDoorZsTypes
import Derived.Test.YtcpififnffmjfaaGreatDoorZsWInj
import Derived.Test.YtcpififnffmjfaaGreatDoorZsAna
set_option linter.unusedVariables false
set_option linter.unusedSimpArgs false
set_option maxRecDepth 20000
set_option maxHeartbeats 4000000
namespace Go.Proofs.YtcpififnffmjfaaGreatDoor
open Go Go.Bn
attribute [local irreducible] OpOK
theorem splitS_ok {b : Nat} (hb : b < 2 ^ 64) (hf : finB b = true) : Ct Tryz.prog 102 [isv (.int .u64 (b : Int)), FmtP] (tupp [isv (.bool (sgn b)), isv (.int .i64 (expo b : Int)), isv (.int .u64 (frac b : Int))]) := by
 refine Ct.of Tryz.func102 rfl (by kernel_rfl) rfl fun c0 => ?_
 have hcn : cn b = b := cn_of_not (fin_not_nan hf)
 refine J_to (To.emps 1) ?_
 refine zF (zG [] (.w 0 (op_box 0 (.t rfl) co_agg rfl)<|.n (zB (.k rfl))<|.n (zB (.k rfl))<|.n (zB (.k rfl))<|.nil) ff rfl fun g1 => ⟨_, _, [0], rfl, (.k 0 rfl<|.k 3 rfl<|.nil), (.k 0 rfl<|.nil), ?_⟩)
 refine zC ?_
 refine zF (zG [] (.n (zA (.t rfl))<|.r 0 (op_get_ag 0 ag106 (.t rfl) rfl zJ rfl rfl)<|.n (zP (canon_ok hb) ⟨(.t rfl), (.t rfl),  trivial⟩)<|.n (zB (.t rfl))<|.nil) ff rfl fun g2 => ⟨_, _, [0], rfl, (.k 3 rfl<|.k 7 rfl<|.nil), (.k 0 rfl<|.nil), ?_⟩)
 refine zC ?_
 refine J_to (To.slot 7 rfl (q := isv (.int .u64 ((b : Nat) : Int))) (sb_eq (by rw [hcn]))) ?_
 refine zF (zG [[], [], [1], [0, 1, 2], [0, 1, 2, 3], [], [], [6], [5, 6, 7], [], [9], [9, 10], [5, 6, 7, 8, 9, 10, 11], [5, 6, 7, 8, 9, 10, 11, 12], [], [], [1, 2, 15], [1, 2, 15, 16], [1, 2, 14, 15, 16, 17], [0, 1, 2, 3, 4, 15, 16], [0, 1, 2, 3, 4, 5, 6, 7, 8, 9, 10, 11, 12, 13, 15, 16, 19], [0, 1, 2, 3, 4, 5, 6, 7, 8, 9, 10, 11, 12, 13, 14, 15, 16, 17, 18, 19, 20]] (.n (zA (.t rfl))<|.r 0 (op_get_ag 0 ag106 (.t rfl) rfl zJ rfl rfl)<|.n (zP (sign_ok) ⟨(.t rfl),  trivial⟩)<|.n (op_bits (by simp) (.t rfl) (.t rfl) rfl)<|.n (op_cmp (by simp) (.t rfl) (.k rfl) rfl)<|.n (zA (.t rfl))<|.n (zI fd106_0 (.t rfl) rfl)<|.r 0 (zN 0 sc98 (.t rfl) rfl zJ rfl)<|.n (op_shr (.t rfl) (.t rfl) (by omega) (shr_bits b 52 (by omega)))<|.n (zI fd106_1 (.t rfl) rfl)<|.r 0 (zN 0 sc3 (.t rfl) rfl zJ rfl)<|.n (op_conv_int it3 it38 (.t rfl) (by decide +kernel : _ = (2047 : Int)))<|.n (op_bits (by simp) (.t rfl) (.t rfl) (expo_bitsN hb))<|.n (op_conv_int it38 it3 (.t rfl) (expo_i64 _))<|.n (zA (.t rfl))<|.r 0 (op_get_ag 0 ag106 (.t rfl) rfl zJ rfl rfl)<|.n (zP (hid_ok) ⟨(.t rfl),  trivial⟩)<|.n (op_sub (.t rfl) (.k rfl) (by decide +kernel : _ = (4503599627370495 : Int)))<|.n (op_bits (by simp) (.t rfl) (.t rfl) (show _ = ((frac b : Nat) : Int) by have := frac_bits hb; rw [hcn] at this; exact this))<|.n (zB (.t rfl))<|.n (zB (.t rfl))<|.n (zB (.t rfl))<|.nil) (fun _ => mixed) rfl fun g3 => ⟨_, _, [], rfl, (.k 4 rfl<|.k 5 rfl<|.k 6 rfl<|.nil), (.nil), ?_⟩)
 refine zC ?_
 refine J_ret ?_
 refine zQ (.cons (.tmp (.t rfl))<|.cons (.tmp (.t rfl))<|.cons (.tmp (.t rfl))<|.nil) (zM (sb_res (.cons zL<|.cons zL<|.cons zL<|.nil)) ?_)
 exact sb_eq (by rw [sgn_and hb])
theorem parts_ok {b : Nat} (hb : b < 2 ^ 64) (hf : finB b = true) : Ct Tryz.prog 79 [isv (.int .u64 (b : Int)), FmtP] (tupp [aggp [isv (.bool (sgn b)), isv (.int .u64 ((oddM (mgn b) : Nat) : Int)), isv (.int .i64 (oddE (mgn b) (plc b)))], isv (.int .i64 0)]) := by
 refine Ct.of Tryz.func79 rfl (by kernel_rfl) rfl fun c0 => ?_
 have hcn : cn b = b := cn_of_not (fin_not_nan hf)
 have hcl := cls_fin hf
 have hcc : clsI (cn b) = clsI b := by rw [hcn]
 have hfl := frac_lt b
 have hel := expo_lt b
 have hml := mgn_lt b
 have hpg := plc_ge b
 refine J_to (To.emps 2) ?_
 refine zF (zG [] (.w 0 (op_box 0 (.t rfl) co_agg rfl)<|.w 1 (op_alloc 1 zr76 rfl rfl)<|.n (zB (.k rfl))<|.nil) ff rfl fun g1 => ⟨_, _, [0, 1], rfl, (.k 0 rfl<|.k 3 rfl<|.k 4 rfl<|.nil), (.k 0 rfl<|.k 1 rfl<|.nil), ?_⟩)
 refine zC ?_
 refine zF (zG [] (.n (zA (.t rfl))<|.r 0 (op_get_ag 0 ag106 (.t rfl) rfl zJ rfl rfl)<|.n (zP (splitS_ok hb hf) ⟨(.t rfl), (.t rfl),  trivial⟩)<|.n (zA (.t rfl))<|.n (op_extract (.t rfl) rfl)<|.n (op_extract (.t rfl) rfl)<|.n (op_extract (.t rfl) rfl)<|.n (zB (.t rfl))<|.n (zB (.t rfl))<|.n (zB (.t rfl))<|.nil) ff rfl fun g2 => ⟨_, _, [0, 1], rfl, (.k 0 rfl<|.k 3 rfl<|.k 4 rfl<|.k 6 rfl<|.k 7 rfl<|.k 8 rfl<|.nil), (.k 0 rfl<|.k 1 rfl<|.nil), ?_⟩)
 refine zC ?_
 refine J_to (To.emps 1) ?_
 refine zF (zG [] (.n (zA (.t rfl))<|.n (zA (.t rfl))<|.n (zA (.t rfl))<|.n (zI fd106_2 (.t rfl) rfl)<|.r 0 (zN 0 sc3 (.t rfl) rfl zJ rfl)<|.n (op_sub (.t rfl) (.t rfl) (zO (by omega) (by omega)))<|.n (op_build zr76 rfl pl76 (.cons rfl (.t rfl) co_isv rfl (puts_l rfl (Nat.le_of_ble_eq_true rfl)) (.cons rfl (.t rfl) co_isv rfl (puts_l rfl (Nat.le_of_ble_eq_true rfl)) (.cons rfl (.t rfl) co_isv rfl (puts_l rfl (Nat.le_of_ble_eq_true rfl)) .nil))))<|.w 2 (op_alloc 2 zr76 rfl rfl)<|.w 2 (op_store_new 2 rfl (.t rfl) co_agg sz76 rfl rfl)<|.nil) ff rfl fun g3 => ⟨_, _, [0, 1, 2], rfl, (.k 0 rfl<|.k 3 rfl<|.k 4 rfl<|.k 6 rfl<|.k 9 rfl<|.nil), (.k 0 rfl<|.k 1 rfl<|.k 2 rfl<|.nil), ?_⟩)
 refine zC ?_
 refine zF ?_
 refine zF (zG [] (.n (zA (.t rfl))<|.r 0 (op_get_ag 0 ag106 (.t rfl) rfl zJ rfl rfl)<|.n (zP (cls_ok hb) ⟨(.t rfl), (.t rfl),  trivial⟩)<|.nil) ff rfl fun g4 => ⟨_, _, [0, 1, 2], rfl, (.k 3 rfl<|.k 4 rfl<|.k 6 rfl<|.k 9 rfl<|.k 27 rfl<|.nil), (.k 0 rfl<|.k 1 rfl<|.k 2 rfl<|.nil), ?_⟩)
 refine zC ?_
 refine zT ?_
 refine zF ?_
 refine zF (zG [] (.n (op_cmp (by simp) (.t rfl) (.k rfl) rfl)<|.n (zB (.t rfl))<|.nil) ff rfl fun g5 => ⟨_, _, [0, 1, 2], rfl, (.k 3 rfl<|.k 4 rfl<|.k 6 rfl<|.k 9 rfl<|.k 27 rfl<|.k 34 rfl<|.nil), (.k 0 rfl<|.k 1 rfl<|.k 2 rfl<|.nil), ?_⟩)
 refine zC ?_
 refine zH (zK (.t rfl)) (fun h1 => ?_) (fun h1 => ?_)
 ·try simp only [cmpB, Z] at h1
  exact absurd h1 (by omega)
 ·try simp only [cmpB, Z] at h1
  refine (zG [] (.n (op_cmp (by simp) (.t rfl) (.k rfl) rfl)<|.n (zB (.t rfl))<|.nil) ff rfl fun g6 => ⟨_, _, [0, 1, 2], rfl, (.k 3 rfl<|.k 4 rfl<|.k 6 rfl<|.k 9 rfl<|.k 27 rfl<|.k 34 rfl<|.nil), (.k 0 rfl<|.k 1 rfl<|.k 2 rfl<|.nil), ?_⟩)
  refine zC ?_
  refine zH (zK (.t rfl)) (fun h2 => ?_) (fun h2 => ?_)
  ·try simp only [cmpB, Z] at h2
   exact absurd h2 (by omega)
  ·try simp only [cmpB, Z] at h2
   refine zF (zG [] (.n (op_cmp (by simp) (.t rfl) (.k rfl) rfl)<|.n (zB (.t rfl))<|.nil) ff rfl fun g7 => ⟨_, _, [0, 1, 2], rfl, (.k 3 rfl<|.k 4 rfl<|.k 6 rfl<|.k 9 rfl<|.k 27 rfl<|.k 38 rfl<|.nil), (.k 0 rfl<|.k 1 rfl<|.k 2 rfl<|.nil), ?_⟩)
   refine zC ?_
   refine zH (zK (.t rfl)) (fun h3 => ?_) (fun h3 => ?_)
   ·try simp only [cmpB, Z] at h3
    obtain ⟨ho1, ho2⟩ := odd_0 (e := plc b) (show mgn b = 0 by omega)
    refine zF (zG [] (.n (zA (.t rfl))<|.n (op_build zr76 rfl pl76 (.cons rfl (.t rfl) co_isv rfl (puts_l rfl (Nat.le_of_ble_eq_true rfl)) .nil))<|.w 1 (op_store_b 1 (.t rfl) (.t rfl) co_agg sz76 rfl rfl rfl)<|.n (zB (.k rfl))<|.nil) ff rfl fun g8 => ⟨_, _, [1], rfl, (.k 4 rfl<|.k 5 rfl<|.nil), (.k 1 rfl<|.nil), ?_⟩)
    refine zC ?_
    refine J_ret ?_
    refine JN_block_ret ?_
    refine zD ?_
    refine zQ (.cons (.ag 0 (.t rfl) ag76 rfl rfl rfl)<|.cons (.tmp (.t rfl))<|.nil) (zM (sb_res (.cons zL<|.cons zL<|.nil)) ?_)
    exact sb_eq (by rw [ho1, ho2]; rfl)
   ·try simp only [cmpB, Z] at h3
    refine zF (zG [] (.n (op_cmp (by simp) (.t rfl) (.k rfl) rfl)<|.n (zB (.t rfl))<|.nil) ff rfl fun g9 => ⟨_, _, [0, 1, 2], rfl, (.k 3 rfl<|.k 4 rfl<|.k 9 rfl<|.k 42 rfl<|.nil), (.k 0 rfl<|.k 1 rfl<|.k 2 rfl<|.nil), ?_⟩)
    refine zC ?_
    refine zH (zK (.t rfl)) (fun h4 => ?_) (fun h4 => ?_)
    ·try simp only [cmpB, Z] at h4
     have h4m : mgn b = frac b := by omega
     have h4p : plc b = (expo b : Int) - 1075 + 1 := by omega
     have h4n : frac b ≠ 0 := by omega
     refine (zG [] (.n (zI fd76_2 (.t rfl) rfl)<|.r 2 (zN 2 sc3 (.t rfl) rfl zJ rfl)<|.n (op_add (.t rfl) (.k rfl) (zO (by omega) (by omega)))<|.n (zI fd76_2 (.t rfl) rfl)<|.w 2 (op_store_b 2 (.t rfl) (.t rfl) co_isv sz3 rfl rfl rfl)<|.nil) ff rfl fun g10 => ⟨_, _, [1, 2], rfl, (.k 4 rfl<|.k 9 rfl<|.nil), (.k 1 rfl<|.k 2 rfl<|.nil), ?_⟩)
     refine zR ?_
     refine zC ?_
     refine zF (zG [] (.n (zI fd76_1 (.t rfl) rfl)<|.r 1 (zN 1 sc38 (.t rfl) rfl zJ rfl)<|.n (zP (tz64_ok (by omega) (by omega)) ⟨(.t rfl),  trivial⟩)<|.n (zB (.t rfl))<|.nil) ff rfl fun g11 => ⟨_, _, [0, 1], rfl, (.k 4 rfl<|.k 9 rfl<|.k 10 rfl<|.nil), (.k 0 rfl<|.k 1 rfl<|.nil), ?_⟩)
     refine zC ?_
     refine zF (zG [] (.n (zI fd76_1 (.t rfl) rfl)<|.r 1 (zN 1 sc38 (.t rfl) rfl zJ rfl)<|.n (zA (.t rfl))<|.n (op_shr (.t rfl) (.t rfl) (by omega) (shr_tz (by omega) (by omega)))<|.n (zI fd76_1 (.t rfl) rfl)<|.w 1 (op_store_b 1 (.t rfl) (.t rfl) co_isv sz38 rfl rfl rfl)<|.nil) ff rfl fun g12 => ⟨_, _, [0, 1], rfl, (.k 4 rfl<|.k 9 rfl<|.k 10 rfl<|.nil), (.k 0 rfl<|.k 1 rfl<|.nil), ?_⟩)
     refine zC ?_
     refine zF (zG [] (.n (zI fd76_2 (.t rfl) rfl)<|.r 1 (zN 1 sc3 (.t rfl) rfl zJ rfl)<|.n (zA (.t rfl))<|.n (op_add (.t rfl) (.t rfl) (add_odd (by omega) (by omega) (by omega) (by omega)))<|.n (zI fd76_2 (.t rfl) rfl)<|.w 1 (op_store_b 1 (.t rfl) (.t rfl) co_isv sz3 rfl rfl rfl)<|.nil) ff rfl fun g13 => ⟨_, _, [0, 1], rfl, (.k 4 rfl<|.k 9 rfl<|.nil), (.k 0 rfl<|.k 1 rfl<|.nil), ?_⟩)
     refine zC ?_
     refine zF (zG [] (.r 1 (op_get_ag 1 ag76 (.t rfl) rfl zJ rfl rfl)<|.w 0 (op_store_b 0 (.t rfl) (.t rfl) co_agg sz76 rfl rfl rfl)<|.n (zB (.k rfl))<|.nil) ff rfl fun g14 => ⟨_, _, [0], rfl, (.k 4 rfl<|.k 5 rfl<|.nil), (.k 0 rfl<|.nil), ?_⟩)
     refine zC ?_
     refine J_ret ?_
     refine zQ (.cons (.ag 0 (.t rfl) ag76 rfl rfl rfl)<|.cons (.tmp (.t rfl))<|.nil) (zM (sb_res (.cons zL<|.cons zL<|.nil)) ?_)
     exact sb_eq (by rw [h4m, h4p]; rfl)
    ·try simp only [cmpB, Z] at h4
     have h5m : mgn b = frac b + 4503599627370496 := by omega
     have h5p : plc b = (expo b : Int) - 1075 := by omega
     refine (zG [[], [0], [], [2], [0, 1, 2, 3], [0, 1, 2, 3, 4], [0, 1, 2, 3, 4, 5]] (.n (zI fd76_1 (.t rfl) rfl)<|.r 2 (zN 2 sc38 (.t rfl) rfl zJ rfl)<|.r 0 (op_get_ag 0 ag106 (.t rfl) rfl zJ rfl rfl)<|.n (zP (hid_ok) ⟨(.t rfl),  trivial⟩)<|.n (op_bits (by simp) (.t rfl) (.t rfl) (or_mgn h5m))<|.n (zI fd76_1 (.t rfl) rfl)<|.w 2 (op_store_b 2 (.t rfl) (.t rfl) co_isv sz38 rfl rfl rfl)<|.nil) (fun _ => mixed) rfl fun g15 => ⟨_, _, [1, 2], rfl, (.k 4 rfl<|.k 9 rfl<|.nil), (.k 1 rfl<|.k 2 rfl<|.nil), ?_⟩)
     refine zR ?_
     refine zC ?_
     refine zF (zG [] (.n (zI fd76_1 (.t rfl) rfl)<|.r 1 (zN 1 sc38 (.t rfl) rfl zJ rfl)<|.n (zP (tz64_ok (by omega) (by omega)) ⟨(.t rfl),  trivial⟩)<|.n (zB (.t rfl))<|.nil) ff rfl fun g16 => ⟨_, _, [0, 1], rfl, (.k 4 rfl<|.k 9 rfl<|.k 10 rfl<|.nil), (.k 0 rfl<|.k 1 rfl<|.nil), ?_⟩)
     refine zC ?_
     refine zF (zG [] (.n (zI fd76_1 (.t rfl) rfl)<|.r 1 (zN 1 sc38 (.t rfl) rfl zJ rfl)<|.n (zA (.t rfl))<|.n (op_shr (.t rfl) (.t rfl) (by omega) (shr_tz (by omega) (by omega)))<|.n (zI fd76_1 (.t rfl) rfl)<|.w 1 (op_store_b 1 (.t rfl) (.t rfl) co_isv sz38 rfl rfl rfl)<|.nil) ff rfl fun g17 => ⟨_, _, [0, 1], rfl, (.k 4 rfl<|.k 9 rfl<|.k 10 rfl<|.nil), (.k 0 rfl<|.k 1 rfl<|.nil), ?_⟩)
     refine zC ?_
     refine zF (zG [] (.n (zI fd76_2 (.t rfl) rfl)<|.r 1 (zN 1 sc3 (.t rfl) rfl zJ rfl)<|.n (zA (.t rfl))<|.n (op_add (.t rfl) (.t rfl) (add_odd (by omega) (by omega) (by omega) (by omega)))<|.n (zI fd76_2 (.t rfl) rfl)<|.w 1 (op_store_b 1 (.t rfl) (.t rfl) co_isv sz3 rfl rfl rfl)<|.nil) ff rfl fun g18 => ⟨_, _, [0, 1], rfl, (.k 4 rfl<|.k 9 rfl<|.nil), (.k 0 rfl<|.k 1 rfl<|.nil), ?_⟩)
     refine zC ?_
     refine zF (zG [] (.r 1 (op_get_ag 1 ag76 (.t rfl) rfl zJ rfl rfl)<|.w 0 (op_store_b 0 (.t rfl) (.t rfl) co_agg sz76 rfl rfl rfl)<|.n (zB (.k rfl))<|.nil) ff rfl fun g19 => ⟨_, _, [0], rfl, (.k 4 rfl<|.k 5 rfl<|.nil), (.k 0 rfl<|.nil), ?_⟩)
     refine zC ?_
     refine J_ret ?_
     refine zQ (.cons (.ag 0 (.t rfl) ag76 rfl rfl rfl)<|.cons (.tmp (.t rfl))<|.nil) (zM (sb_res (.cons zL<|.cons zL<|.nil)) ?_)
     exact sb_eq (by rw [h5p]; rfl)
theorem aparts_ok {x : Nat} (hf : finB x = true) : Ct Tryz.prog 52 [flp x] (tupp [aggp [isv (.bool (sgn x)), isv (.int .u64 ((oddM (mgn x) : Nat) : Int)), isv (.int .i64 (oddE (mgn x) (plc x)))], isv (.int .i64 0)]) := by
 refine Ct.of Tryz.func52 rfl (by kernel_rfl) rfl fun c0 => ?_
 refine J_fl 0 rfl fun hx1 hx2 => ?_
 have hn1 := fin_not_nan hf
 refine J_to (To.emps 1) ?_
 refine zF (zG [] (.w 0 (op_alloc 0 zr76 rfl rfl)<|.n (zB (.k rfl))<|.nil) ff rfl fun g1 => ⟨_, _, [0], rfl, (.k 0 rfl<|.k 2 rfl<|.nil), (.k 0 rfl<|.nil), ?_⟩)
 refine zC ?_
 refine zF (zG [] (.n (zA (.t rfl))<|.n (op_f64bitsn bitsX hn1 (.t rfl))<|.n (zP (of_ok) ⟨(.k rfl),  trivial⟩)<|.n (zP (parts_ok hx1 hf) ⟨(.t rfl), (.t rfl),  trivial⟩)<|.n (op_extract (.t rfl) rfl)<|.n (op_extract (.t rfl) rfl)<|.w 0 (op_store_b 0 (.t rfl) (.t rfl) co_agg sz76 rfl rfl rfl)<|.n (zB (.t rfl))<|.nil) ff rfl fun g2 => ⟨_, _, [0], rfl, (.k 2 rfl<|.k 3 rfl<|.nil), (.k 0 rfl<|.nil), ?_⟩)
 refine zC ?_
 refine J_ret ?_
 refine zQ (.cons (.ag 0 (.t rfl) ag76 rfl rfl rfl)<|.cons (.tmp (.t rfl))<|.nil) (zM (sb_res (.cons zL<|.cons zL<|.nil)) ?_)
 exact zL
theorem join_ok {neg : Bool} {n f : Nat} (hn : n < 2047) (hf : f < 4503599627370496) : Ct Tryz.prog 96 [isv (.bool neg), isv (.int .i64 (n : Int)), isv (.int .u64 (f : Int)), FmtP] (tupp [isv (.int .u64 ((putW neg n f : Nat) : Int)), isv (.int .i64 0)]) := by
 refine Ct.of Tryz.func96 rfl (by kernel_rfl) rfl fun c0 => ?_
 refine J_to (To.emps 1) ?_
 refine zF (zG [] (.w 0 (op_box 0 (.t rfl) co_agg rfl)<|.n (zB (.k rfl))<|.n (zB (.k rfl))<|.nil) ff rfl fun g1 => ⟨_, _, [0], rfl, (.k 0 rfl<|.k 1 rfl<|.k 2 rfl<|.k 7 rfl<|.nil), (.k 0 rfl<|.nil), ?_⟩)
 refine zC ?_
 refine zF ?_
 refine zF (zG [] (.n (zA (.t rfl))<|.n (op_cmp (by simp) (.t rfl) (.k rfl) rfl)<|.n (zA (.t rfl))<|.n (op_guard rfl rfl (gd_b rfl) (fun hC => (zA (.t rfl))))<|.n (op_guard rfl rfl (gd_b rfl) (fun hC => (zI fd106_1 (.t rfl) rfl)))<|.r 0 (op_guard rfl rfl (gd_b rfl) (fun hC => (zN 0 sc3 (.w rfl hC) rfl zJ rfl)))<|.n (op_guard rfl rfl (gd_b rfl) (fun hC => (op_cmp (by simp) (.w rfl hC) (.w rfl hC) rfl)))<|.n (op_or (.t rfl) (fun h2 => (.w rfl h2)))<|.n (zA (.t rfl))<|.n (op_guard rfl rfl (gd_b rfl) (fun hC => (zA (.t rfl))))<|.r 0 (op_guard rfl rfl (gd_b rfl) (fun hC => (op_get_ag 0 ag106 (.t rfl) rfl zJ rfl rfl)))<|.n (op_guard rfl rfl (gd_b rfl) (fun hC => (zP (hid_ok) ⟨(.w rfl hC),  trivial⟩)))<|.n (op_guard rfl rfl (gd_b rfl) (fun hC => (op_cmp (by simp) (.w rfl hC) (.w rfl hC) rfl)))<|.n (op_or (.t rfl) (fun h2 => (.w rfl h2)))<|.nil) ff rfl fun g2 => ⟨_, _, [0], rfl, (.k 0 rfl<|.k 1 rfl<|.k 2 rfl<|.k 7 rfl<|.k 24 rfl<|.nil), (.k 0 rfl<|.nil), ?_⟩)
 refine zC ?_
 refine zH (zK (.t rfl)) (fun h1 => ?_) (fun h1 => ?_)
 ·try simp only [cmpB, Z] at h1
  exact absurd h1 (by omega)
 ·try simp only [cmpB, Z] at h1
  refine J_skip ?_
  refine zC ?_
  refine zF (zG [] (.n (zA (.t rfl))<|.n (op_conv_int it3 it38 (.t rfl) (wr64 (by omega) (by omega)))<|.n (zI fd106_0 (.t rfl) rfl)<|.r 0 (zN 0 sc98 (.t rfl) rfl zJ rfl)<|.n (op_shl (.t rfl) (.t rfl) (by omega) (shl52 (by omega)))<|.n (zA (.t rfl))<|.n (op_bits (by simp) (.t rfl) (.t rfl) (put_or (by omega) hf))<|.n (zB (.t rfl))<|.nil) ff rfl fun g3 => ⟨_, _, [0], rfl, (.k 0 rfl<|.k 7 rfl<|.k 10 rfl<|.nil), (.k 0 rfl<|.nil), ?_⟩)
  refine zC ?_
  refine zF ?_
  refine zF (zG [] (.n (zA (.t rfl))<|.nil) ff rfl fun g4 => ⟨_, _, [0], rfl, (.k 7 rfl<|.k 10 rfl<|.k 32 rfl<|.nil), (.k 0 rfl<|.nil), ?_⟩)
  refine zC ?_
  refine zH (zK (.t rfl)) (fun h2 => ?_) (fun h2 => ?_)
  ·have h2' := h2
   try simp only [cmpB, Z] at h2
   refine (zG [] (.n (zA (.t rfl))<|.r 0 (op_get_ag 0 ag106 (.t rfl) rfl zJ rfl rfl)<|.n (zP (sign_ok) ⟨(.t rfl),  trivial⟩)<|.n (op_bits (by simp) (.t rfl) (.t rfl) (put_top (by omega) hf))<|.n (zB (.t rfl))<|.nil) ff rfl fun g5 => ⟨_, _, [0], rfl, (.k 7 rfl<|.k 10 rfl<|.nil), (.k 0 rfl<|.nil), ?_⟩)
   refine zC ?_
   refine zF (zG [] (.n (zA (.t rfl))<|.r 0 (op_get_ag 0 ag106 (.t rfl) rfl zJ rfl rfl)<|.n (zP (canon_ok (by first | exact (put_parts hn hf).1 | omega)) ⟨(.t rfl), (.t rfl),  trivial⟩)<|.n (zB (.t rfl))<|.n (zB (.k rfl))<|.nil) ff rfl fun g6 => ⟨_, _, [], rfl, (.k 8 rfl<|.k 9 rfl<|.nil), (.nil), ?_⟩)
   refine zC ?_
   refine J_ret ?_
   refine zQ (.cons (.tmp (.t rfl))<|.cons (.tmp (.t rfl))<|.nil) (zM (sb_res (.cons zL<|.cons zL<|.nil)) ?_)
   exact sb_eq (by rw [h2', putW_cn hn hf])
  ·have h2' := h2
   try simp only [cmpB, Z] at h2
   refine J_skip ?_
   refine zC ?_
   refine zF (zG [] (.n (zA (.t rfl))<|.r 0 (op_get_ag 0 ag106 (.t rfl) rfl zJ rfl rfl)<|.n (zP (canon_ok (by first | exact (put_parts hn hf).1 | omega)) ⟨(.t rfl), (.t rfl),  trivial⟩)<|.n (zB (.t rfl))<|.n (zB (.k rfl))<|.nil) ff rfl fun g7 => ⟨_, _, [], rfl, (.k 8 rfl<|.k 9 rfl<|.nil), (.nil), ?_⟩)
   refine zC ?_
   refine J_ret ?_
   refine zQ (.cons (.tmp (.t rfl))<|.cons (.tmp (.t rfl))<|.nil) (zM (sb_res (.cons zL<|.cons zL<|.nil)) ?_)
   exact sb_eq (by rw [h2', join_no hn hf])
theorem number_ok {b : Nat} {c : Int} (hb : b < 2 ^ 64) : Ct Tryz.prog 67 [isv (.int .u64 (b : Int)), isv (.int .i64 c)] (tupp [flp (cn b), isv (.int .i64 c)]) := by
 refine Ct.of Tryz.func67 rfl (by kernel_rfl) rfl fun c0 => ?_
 refine zF (zG [] (.n (zB (Lk.fk rfl (by decide +kernel)))<|.n (zB (.k rfl))<|.nil) ff rfl fun g1 => ⟨_, _, [], rfl, (.k 0 rfl<|.k 1 rfl<|.nil), (.nil), ?_⟩)
 refine zC ?_
 refine zF (zG [] (.n (zA (.t rfl))<|.n (op_f64from fromX hb (.t rfl))<|.n (zA (.t rfl))<|.n (zB (.t rfl))<|.n (zB (.t rfl))<|.nil) ff rfl fun g2 => ⟨_, _, [], rfl, (.k 4 rfl<|.k 5 rfl<|.nil), (.nil), ?_⟩)
 refine zC ?_
 refine J_ret ?_
 refine zQ (.cons (.tmp (.t rfl))<|.cons (.tmp (.t rfl))<|.nil) (zM (sb_res (.cons zL<|.cons zL<|.nil)) ?_)
 exact zL
theorem made_ok {neg : Bool} {m : Nat} {e : Int} (hM : MdH m e) : Ct Tryz.prog 68 [aggp [isv (.bool neg), isv (.int .u64 (m : Int)), isv (.int .i64 e)], FmtP] (tupp [isv (.int .u64 ((mdW neg m e : Nat) : Int)), isv (.int .i64 0)]) := by
 refine Ct.of Tryz.func68 rfl (by kernel_rfl) rfl fun c0 => ?_
 have hm1 := hM.h
 have hm2 := hM.e0
 have hm3 := hM.e1
 have hm4 := hM.o
 have hm5 := oddM_le2 (m := m)
 have hm6 := mdM_lt hM
 have hm7 := mdF_lt hM
 refine J_to (To.emps 2) ?_
 refine zF (zG [] (.w 0 (op_box 0 (.t rfl) co_agg rfl)<|.w 1 (op_box 1 (.t rfl) co_agg rfl)<|.n (zB (.k rfl))<|.n (zB (.k rfl))<|.nil) ff rfl fun g1 => ⟨_, _, [0, 1], rfl, (.k 2 rfl<|.k 3 rfl<|.nil), (.k 0 rfl<|.k 1 rfl<|.nil), ?_⟩)
 refine zC ?_
 refine zF ?_
 refine zF (zG [] (.n (zI fd76_1 (.t rfl) rfl)<|.r 0 (zN 0 sc38 (.t rfl) rfl zJ rfl)<|.n (op_cmp (by simp) (.t rfl) (.k rfl) rfl)<|.nil) ff rfl fun g2 => ⟨_, _, [0, 1], rfl, (.k 2 rfl<|.k 3 rfl<|.k 15 rfl<|.nil), (.k 0 rfl<|.k 1 rfl<|.nil), ?_⟩)
 refine zC ?_
 refine zH (zK (.t rfl)) (fun h1 => ?_) (fun h1 => ?_)
 ·try simp only [cmpB, Z] at h1
  refine zF (zG [] (.n (zI fd76_0 (.t rfl) rfl)<|.r 0 (zN 0 sc4 (.t rfl) rfl zJ rfl)<|.r 1 (op_get_ag 1 ag106 (.t rfl) rfl zJ rfl rfl)<|.n (zP (join_ok (n := 0) (f := 0) (by omega) (by omega)) ⟨(.t rfl), (.k rfl), (.k rfl), (.t rfl),  trivial⟩)<|.n (op_extract (.t rfl) rfl)<|.n (op_extract (.t rfl) rfl)<|.n (zB (.t rfl))<|.n (zB (.t rfl))<|.nil) ff rfl fun g3 => ⟨_, _, [], rfl, (.k 4 rfl<|.k 5 rfl<|.nil), (.nil), ?_⟩)
  refine zC ?_
  refine J_ret ?_
  refine zD ?_
  refine zQ (.cons (.tmp (.t rfl))<|.cons (.tmp (.t rfl))<|.nil) (zM (sb_res (.cons zL<|.cons zL<|.nil)) ?_)
  exact sb_eq (by rw [mdW_0 (neg := neg) (e := e) (show m = 0 by omega)])
 ·try simp only [cmpB, Z] at h1
  have h0 : m ≠ 0 := by omega
  have hE := oddE_ge (e := e) h0
  have ht := tz_lt h0 hm1
  have hU := mdU_le hM
  have hN := mdN_lt hM h0
  have hbt : bl ((oddM m : Nat) : Int).toNat = bl (oddM m) := rfl
  have hoe := hM.e2 h0
  have hoz : oddE ((m : Nat) : Int).toNat e = oddE m e := rfl
  refine J_skip ?_
  refine zC ?_
  refine zF ?_
  refine zF (zG [] (.n (zI fd76_2 (.t rfl) rfl)<|.r 0 (zN 0 sc3 (.t rfl) rfl zJ rfl)<|.n (zI fd106_2 (.t rfl) rfl)<|.r 1 (zN 1 sc3 (.t rfl) rfl zJ rfl)<|.n (op_mul (.k rfl) (.t rfl) (zO (by omega) (by omega)))<|.n (op_cmp (by simp) (.t rfl) (.t rfl) rfl)<|.n (zA (.t rfl))<|.n (op_guard rfl rfl (gd_b rfl) (fun hC => (zI fd76_2 (.t rfl) rfl)))<|.r 0 (op_guard rfl rfl (gd_b rfl) (fun hC => (zN 0 sc3 (.w rfl hC) rfl zJ rfl)))<|.n (op_guard rfl rfl (gd_b rfl) (fun hC => (zI fd106_2 (.t rfl) rfl)))<|.r 1 (op_guard rfl rfl (gd_b rfl) (fun hC => (zN 1 sc3 (.w rfl hC) rfl zJ rfl)))<|.n (op_guard rfl rfl (gd_b rfl) (fun hC => (op_mul (.k rfl) (.w rfl hC) (zO (by omega) (by omega)))))<|.n (op_guard rfl rfl (gd_b rfl) (fun hC => (op_cmp (by simp) (.w rfl hC) (.w rfl hC) rfl)))<|.n (op_or (.t rfl) (fun h2 => (.w rfl h2)))<|.nil) ff rfl fun g4 => ⟨_, _, [0, 1], rfl, (.k 2 rfl<|.k 3 rfl<|.k 35 rfl<|.nil), (.k 0 rfl<|.k 1 rfl<|.nil), ?_⟩)
  refine zC ?_
  refine zH (zK (.t rfl)) (fun h2 => ?_) (fun h2 => ?_)
  ·try simp only [cmpB, Z] at h2
   exact absurd h2 (by omega)
  ·try simp only [cmpB, Z] at h2
   refine J_skip ?_
   refine zC ?_
   refine zF (zG [] (.n (zI fd76_1 (.t rfl) rfl)<|.r 0 (zN 0 sc38 (.t rfl) rfl zJ rfl)<|.n (zP (tz64_ok (by omega) (by omega)) ⟨(.t rfl),  trivial⟩)<|.n (zB (.t rfl))<|.nil) ff rfl fun g5 => ⟨_, _, [0, 1], rfl, (.k 2 rfl<|.k 3 rfl<|.k 6 rfl<|.nil), (.k 0 rfl<|.k 1 rfl<|.nil), ?_⟩)
   refine zC ?_
   refine zF (zG [[], [0], [], [0, 1, 2], [], [4], [], [4, 5, 6], [0, 1, 2, 3], [0, 1, 2, 3, 4, 5, 6, 7, 8]] (.n (zI fd76_1 (.t rfl) rfl)<|.r 0 (zN 0 sc38 (.t rfl) rfl zJ rfl)<|.n (zA (.t rfl))<|.n (op_shr (.t rfl) (.t rfl) (by omega) (shr_tz h0 hm1))<|.n (zI fd76_2 (.t rfl) rfl)<|.r 0 (zN 0 sc3 (.t rfl) rfl zJ rfl)<|.n (zA (.t rfl))<|.n (op_add (.t rfl) (.t rfl) (show _ = oddE m e from add_odd h0 hm1 (by omega) (by omega)))<|.n (zB (.t rfl))<|.n (zB (.t rfl))<|.nil) (fun _ => mixed) rfl fun g6 => ⟨_, _, [0, 1], rfl, (.k 2 rfl<|.k 3 rfl<|.k 7 rfl<|.k 8 rfl<|.nil), (.k 0 rfl<|.k 1 rfl<|.nil), ?_⟩)
   refine zC ?_
   refine zF (zG [] (.n (zA (.t rfl))<|.n (zP (len64_ok (by omega) (by omega)) ⟨(.t rfl),  trivial⟩)<|.n (zB (.t rfl))<|.nil) ff rfl fun g7 => ⟨_, _, [0, 1], rfl, (.k 2 rfl<|.k 3 rfl<|.k 7 rfl<|.k 8 rfl<|.k 9 rfl<|.nil), (.k 0 rfl<|.k 1 rfl<|.nil), ?_⟩)
   refine zC ?_
   refine zF (zG [] (.n (zI fd106_2 (.t rfl) rfl)<|.r 1 (zN 1 sc3 (.t rfl) rfl zJ rfl)<|.n (op_sub (.k rfl) (.t rfl) (zO (by omega) (by omega)))<|.n (zB (.t rfl))<|.nil) ff rfl fun g8 => ⟨_, _, [0, 1], rfl, (.k 2 rfl<|.k 3 rfl<|.k 7 rfl<|.k 8 rfl<|.k 9 rfl<|.k 10 rfl<|.nil), (.k 0 rfl<|.k 1 rfl<|.nil), ?_⟩)
   refine zC ?_
   refine zF ?_
   refine zF (zG [] (.n (zA (.t rfl))<|.n (zI fd106_0 (.t rfl) rfl)<|.r 1 (zN 1 sc98 (.t rfl) rfl zJ rfl)<|.n (op_conv_int it98 it3 (.t rfl) (by decide +kernel : _ = (52 : Int)))<|.n (op_add (.t rfl) (.k rfl) (zO (by omega) (by omega)))<|.n (op_cmp (by simp) (.t rfl) (.t rfl) rfl)<|.n (zA (.t rfl))<|.n (op_guard rfl rfl (gd_b rfl) (fun hC => (zA (.t rfl))))<|.n (op_guard rfl rfl (gd_b rfl) (fun hC => (zA (.t rfl))))<|.n (op_guard rfl rfl (gd_b rfl) (fun hC => (op_cmp (by simp) (.w rfl hC) (.w rfl hC) rfl)))<|.n (op_or (.t rfl) (fun h2 => (.w rfl h2)))<|.nil) ff rfl fun g9 => ⟨_, _, [0, 1], rfl, (.k 2 rfl<|.k 3 rfl<|.k 7 rfl<|.k 8 rfl<|.k 9 rfl<|.k 10 rfl<|.k 62 rfl<|.nil), (.k 0 rfl<|.k 1 rfl<|.nil), ?_⟩)
   refine zC ?_
   refine zH (zK (.t rfl)) (fun h3 => ?_) (fun h3 => ?_)
   ·try simp only [cmpB, Z] at h3
    exact absurd h3 (by omega)
   ·try simp only [cmpB, Z] at h3
    refine J_skip ?_
    refine zC ?_
    refine zF (zG [] (.n (zI fd106_0 (.t rfl) rfl)<|.r 1 (zN 1 sc98 (.t rfl) rfl zJ rfl)<|.n (op_conv_int it98 it3 (.t rfl) (by decide +kernel : _ = (52 : Int)))<|.n (op_add (.t rfl) (.k rfl) (zO (by omega) (by omega)))<|.n (zA (.t rfl))<|.n (op_sub (.t rfl) (.t rfl) (zO (by omega) (by omega)))<|.n (zA (.t rfl))<|.n (zA (.t rfl))<|.n (op_sub (.t rfl) (.t rfl) (zO (by omega) (by omega)))<|.n (op_imin (.t rfl) (.t rfl))<|.n (zB (.t rfl))<|.nil) ff rfl fun g10 => ⟨_, _, [0, 1], rfl, (.k 2 rfl<|.k 3 rfl<|.k 7 rfl<|.k 8 rfl<|.k 11 rfl<|.nil), (.k 0 rfl<|.k 1 rfl<|.nil), ?_⟩)
    refine zC ?_
    refine J_to (To.slot 11 rfl (q := isv (.int .i64 ((mdU m e : Nat) : Int))) (sb_eq (by rw [← mdU_eq hM h0]; exact congrArg (fun z => isv (.int .i64 z)) (by omega)))) ?_
    refine zF (zG [] (.n (zA (.t rfl))<|.n (zA (.t rfl))<|.n (op_shl (.t rfl) (.t rfl) (by omega) (shl_md hM h0))<|.n (zB (.t rfl))<|.nil) ff rfl fun g11 => ⟨_, _, [0, 1], rfl, (.k 2 rfl<|.k 3 rfl<|.k 7 rfl<|.k 8 rfl<|.k 11 rfl<|.nil), (.k 0 rfl<|.k 1 rfl<|.nil), ?_⟩)
    refine zC ?_
    refine zF (zG [] (.n (zA (.t rfl))<|.n (zA (.t rfl))<|.n (op_sub (.t rfl) (.t rfl) (zO (by omega) (by omega)))<|.n (zB (.t rfl))<|.nil) ff rfl fun g12 => ⟨_, _, [0, 1], rfl, (.k 2 rfl<|.k 3 rfl<|.k 7 rfl<|.k 8 rfl<|.nil), (.k 0 rfl<|.k 1 rfl<|.nil), ?_⟩)
    refine zC ?_
    refine zF ?_
    refine zF (zG [] (.n (zA (.t rfl))<|.r 1 (op_get_ag 1 ag106 (.t rfl) rfl zJ rfl rfl)<|.n (zP (hid_ok) ⟨(.t rfl),  trivial⟩)<|.n (op_cmp (by simp) (.t rfl) (.t rfl) rfl)<|.nil) ff rfl fun g13 => ⟨_, _, [0, 1], rfl, (.k 2 rfl<|.k 3 rfl<|.k 7 rfl<|.k 8 rfl<|.k 82 rfl<|.nil), (.k 0 rfl<|.k 1 rfl<|.nil), ?_⟩)
    refine zC ?_
    refine zH (zK (.t rfl)) (fun h4 => ?_) (fun h4 => ?_)
    ·try simp only [cmpB, Z] at h4
     have hl : mdM m e < 4503599627370496 := by omega
     refine zF (zG [] (.n (zI fd76_0 (.t rfl) rfl)<|.r 0 (zN 0 sc4 (.t rfl) rfl zJ rfl)<|.n (zA (.t rfl))<|.r 1 (op_get_ag 1 ag106 (.t rfl) rfl zJ rfl rfl)<|.n (zP (join_ok (n := 0) (by omega) hl) ⟨(.t rfl), (.k rfl), (.t rfl), (.t rfl),  trivial⟩)<|.n (op_extract (.t rfl) rfl)<|.n (op_extract (.t rfl) rfl)<|.n (zB (.t rfl))<|.n (zB (.t rfl))<|.nil) ff rfl fun g14 => ⟨_, _, [], rfl, (.k 4 rfl<|.k 5 rfl<|.nil), (.nil), ?_⟩)
     refine zC ?_
     refine J_ret ?_
     refine zD ?_
     refine zQ (.cons (.tmp (.t rfl))<|.cons (.tmp (.t rfl))<|.nil) (zM (sb_res (.cons zL<|.cons zL<|.nil)) ?_)
     exact sb_eq (by rw [mdW_1 h0 hl])
    ·try simp only [cmpB, Z] at h4
     have hl : ¬ mdM m e < 4503599627370496 := by omega
     refine J_skip ?_
     refine zC ?_
     refine zF (zG [] (.n (zA (.t rfl))<|.n (zI fd106_2 (.t rfl) rfl)<|.r 1 (zN 1 sc3 (.t rfl) rfl zJ rfl)<|.n (op_add (.t rfl) (.t rfl) (mdN_eq hM h0 hl))<|.n (zB (.t rfl))<|.nil) ff rfl fun g15 => ⟨_, _, [0, 1], rfl, (.k 2 rfl<|.k 3 rfl<|.k 7 rfl<|.k 12 rfl<|.nil), (.k 0 rfl<|.k 1 rfl<|.nil), ?_⟩)
     refine zC ?_
     refine zF ?_
     refine zF (zG [] (.n (zA (.t rfl))<|.n (zI fd106_1 (.t rfl) rfl)<|.r 1 (zN 1 sc3 (.t rfl) rfl zJ rfl)<|.n (op_cmp (by simp) (.t rfl) (.t rfl) rfl)<|.nil) ff rfl fun g16 => ⟨_, _, [0, 1], rfl, (.k 2 rfl<|.k 3 rfl<|.k 7 rfl<|.k 12 rfl<|.k 97 rfl<|.nil), (.k 0 rfl<|.k 1 rfl<|.nil), ?_⟩)
     refine zC ?_
     refine zH (zK (.t rfl)) (fun h5 => ?_) (fun h5 => ?_)
     ·try simp only [cmpB, Z] at h5
      exact absurd h5 (by omega)
     ·try simp only [cmpB, Z] at h5
      refine J_skip ?_
      refine zC ?_
      refine zF (zG [[], [0], [], [], [], [4], [3, 4, 5], [], [0, 1, 2, 3, 4, 5, 6, 7], [0, 1, 2, 3, 4, 5, 6, 7, 8], [0, 1, 2, 3, 4, 5, 6, 7, 8], [0, 1, 2, 3, 4, 5, 6, 7, 8, 9, 10], [0, 1, 2, 3, 4, 5, 6, 7, 8, 9, 10, 11]] (.n (zI fd76_0 (.t rfl) rfl)<|.r 0 (zN 0 sc4 (.t rfl) rfl zJ rfl)<|.n (zA (.t rfl))<|.n (zA (.t rfl))<|.r 1 (op_get_ag 1 ag106 (.t rfl) rfl zJ rfl rfl)<|.n (zP (hid_ok) ⟨(.t rfl),  trivial⟩)<|.n (op_sub (.t rfl) (.t rfl) (mdF_eq hl hm6))<|.r 1 (op_get_ag 1 ag106 (.t rfl) rfl zJ rfl rfl)<|.n (zP (join_ok hN hm7) ⟨(.t rfl), (.t rfl), (.t rfl), (.t rfl),  trivial⟩)<|.n (op_extract (.t rfl) rfl)<|.n (op_extract (.t rfl) rfl)<|.n (zB (.t rfl))<|.n (zB (.t rfl))<|.nil) (fun _ => mixed) rfl fun g17 => ⟨_, _, [], rfl, (.k 4 rfl<|.k 5 rfl<|.nil), (.nil), ?_⟩)
      refine zC ?_
      refine J_ret ?_
      refine zQ (.cons (.tmp (.t rfl))<|.cons (.tmp (.t rfl))<|.nil) (zM (sb_res (.cons zL<|.cons zL<|.nil)) ?_)
      exact sb_eq (by rw [mdW_2 h0])
theorem aof_ok {neg : Bool} {m : Nat} {e : Int} (hM : MdH m e) : Ct Tryz.prog 35 [aggp [isv (.bool neg), isv (.int .u64 (m : Int)), isv (.int .i64 e)]] (tupp [flp (mdW neg m e), isv (.int .i64 0)]) := by
 refine Ct.of Tryz.func35 rfl (by kernel_rfl) rfl fun c0 => ?_
 refine J_to (To.emps 1) ?_
 refine zF (zG [] (.w 0 (op_box 0 (.t rfl) co_agg rfl)<|.n (zB (Lk.fk rfl (by decide +kernel)))<|.n (zB (.k rfl))<|.nil) ff rfl fun g1 => ⟨_, _, [0], rfl, (.k 1 rfl<|.nil), (.k 0 rfl<|.nil), ?_⟩)
 refine zC ?_
 refine zF (zG [[], [], [0, 1], [0, 1, 2], [0, 1, 2], [0, 1, 2, 3, 4], [0, 1, 2, 3, 4, 5], [0, 1, 2, 3, 4, 5], [0, 1, 2, 3, 4, 5, 6, 7], [0, 1, 2, 3, 4, 5, 6, 7, 8]] (.r 0 (op_get_ag 0 ag76 (.t rfl) rfl zJ rfl rfl)<|.n (zP (of_ok) ⟨(.k rfl),  trivial⟩)<|.n (zP (made_ok hM) ⟨(.t rfl), (.t rfl),  trivial⟩)<|.n (op_extract (.t rfl) rfl)<|.n (op_extract (.t rfl) rfl)<|.n (zP (number_ok (mdW_fin hM).1) ⟨(.t rfl), (.t rfl),  trivial⟩)<|.n (op_extract (.t rfl) rfl)<|.n (op_extract (.t rfl) rfl)<|.n (zB (.t rfl))<|.n (zB (.t rfl))<|.nil) (fun _ => mixed) rfl fun g2 => ⟨_, _, [], rfl, (.k 2 rfl<|.k 3 rfl<|.nil), (.nil), ?_⟩)
 refine zC ?_
 refine J_ret ?_
 refine zQ (.cons (.tmp (.t rfl))<|.cons (.tmp (.t rfl))<|.nil) (zM (sb_res (.cons zL<|.cons zL<|.nil)) ?_)
 exact sb_eq (by rw [mdW_cn hM])
end Go.Proofs.YtcpififnffmjfaaGreatDoor
