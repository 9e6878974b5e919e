/- Printed by a program of ours (walk.py): walks of moves and noises, of the law and its examples, of places picked. -/
import Derived.Test.YtjnmgcglooeooaaGreatDoorPsKb
import Derived.Test.YtjnmgcglooeooaaGreatDoorProg
import Derived.KernelRfl
import Derived.Test.YtjnmgcglooeooaaGreatDoorPsTypes
import Derived.Test.YtjnmgcglooeooaaGreatDoorPsWBlk
import Derived.Test.YtjnmgcglooeooaaGreatDoorPsWLdexp
set_option linter.unusedVariables false
set_option linter.unusedSimpArgs false
set_option maxRecDepth 20000
set_option maxHeartbeats 1000000
namespace Go.Proofs.YtjnmgcglooeooaaGreatDoor
open Go Go.Bn
attribute [local irreducible] OpOK
theorem mF_ok {ps : List Prt} {t : Int} : Ct Tryz.prog 13 [MotP ps, isv (.int .i64 t)] (resM (blkM moveB ps t)) := by
 refine Ct.of Tryz.func13 rfl (by kernel_rfl) rfl fun c0 => ?_
 refine J_to (To.emps 2) ?_
 refine zF (zG [] (.w 0 (op_box 0 (.t rfl) co_agg rfl)<|.w 1 (op_alloc 1 zr30 rfl rfl)<|.n (zB (.k rfl))<|.nil) ff rfl fun g1 => ⟨_, _, [0, 1], rfl, (.k 1 rfl<|.k 2 rfl<|.k 4 rfl<|.nil), (.k 0 rfl<|.k 1 rfl<|.nil), ?_⟩)
 refine zC ?_
 refine zF (zG [] (.r 0 (op_get_ag 0 ag26 (.t rfl) rfl zJ rfl rfl)<|.n (zA (.t rfl))<|.n (zP (mblk_ok moveB_ok) ⟨(.t rfl), (.t rfl), (Lk.fnq (α := Prt × Nat) (C := fun _ => True) (ps := fun i => [aggp (prtC i.1), flp i.2]) (R := fun i => slm (slm flp) (moveB i.1 i.2)) (fun i _ => fblk_ok) fblk_ok_has),  trivial⟩)<|.n (op_extract (.t rfl) rfl)<|.n (op_extract (.t rfl) rfl)<|.w 1 (op_store_b 1 (.t rfl) (.t rfl) co_agg sz30 rfl rfl rfl)<|.n (zB (.t rfl))<|.nil) ff rfl fun g2 => ⟨_, _, [1], rfl, (.k 4 rfl<|.k 5 rfl<|.nil), (.k 1 rfl<|.nil), ?_⟩)
 refine zC ?_
 refine J_ret ?_
 refine zQ (.cons (.ag 0 (.t rfl) ag30 rfl rfl rfl)<|.cons (.tmp (.t rfl))<|.nil) (zM (sb_res (.cons zL<|.cons zL<|.nil)) ?_)
 exact zL
theorem mQ_ok {ps : List Prt} {t : Int} : Ct Tryz.prog 6 [MotP ps, isv (.int .i64 t)] (resM (blkM noiseB ps t)) := by
 refine Ct.of Tryz.func6 rfl (by kernel_rfl) rfl fun c0 => ?_
 refine J_to (To.emps 2) ?_
 refine zF (zG [] (.w 0 (op_box 0 (.t rfl) co_agg rfl)<|.w 1 (op_alloc 1 zr30 rfl rfl)<|.n (zB (.k rfl))<|.nil) ff rfl fun g1 => ⟨_, _, [0, 1], rfl, (.k 1 rfl<|.k 2 rfl<|.k 4 rfl<|.nil), (.k 0 rfl<|.k 1 rfl<|.nil), ?_⟩)
 refine zC ?_
 refine zF (zG [] (.r 0 (op_get_ag 0 ag26 (.t rfl) rfl zJ rfl rfl)<|.n (zA (.t rfl))<|.n (zP (mblk_ok noiseB_ok) ⟨(.t rfl), (.t rfl), (Lk.fnq (α := Prt × Nat) (C := fun _ => True) (ps := fun i => [aggp (prtC i.1), flp i.2]) (R := fun i => slm (slm flp) (noiseB i.1 i.2)) (fun i _ => qblk_ok) qblk_ok_has),  trivial⟩)<|.n (op_extract (.t rfl) rfl)<|.n (op_extract (.t rfl) rfl)<|.w 1 (op_store_b 1 (.t rfl) (.t rfl) co_agg sz30 rfl rfl rfl)<|.n (zB (.t rfl))<|.nil) ff rfl fun g2 => ⟨_, _, [1], rfl, (.k 4 rfl<|.k 5 rfl<|.nil), (.k 1 rfl<|.nil), ?_⟩)
 refine zC ?_
 refine J_ret ?_
 refine zQ (.cons (.ag 0 (.t rfl) ag30 rfl rfl rfl)<|.cons (.tmp (.t rfl))<|.nil) (zM (sb_res (.cons zL<|.cons zL<|.nil)) ?_)
 exact zL
theorem f_ok {b : Nat} (hb : b < 2 ^ 64) : Ct Tryz.prog 16 [u64p b] (flp (cn b)) := by
 refine Ct.of Tryz.func16 rfl (by kernel_rfl) rfl fun c0 => ?_
 refine zF (zG [] (.n (zB (Lk.fk rfl (by decide +kernel)))<|.nil) ff rfl fun g1 => ⟨_, _, [], rfl, (.k 0 rfl<|.nil), (.nil), ?_⟩)
 refine zC ?_
 refine zF (zG [] (.n (zA (.t rfl))<|.n (op_f64from fromX hb (.t rfl))<|.n (zB (.t rfl))<|.nil) ff rfl fun g2 => ⟨_, _, [], rfl, (.k 2 rfl<|.nil), (.nil), ?_⟩)
 refine zC ?_
 refine J_ret ?_
 refine zQ (.cons (.tmp (.t rfl))<|.nil) (zM (sb_res1 zL) ?_)
 exact zL
theorem motion_ok {ls : List Prt} (hb : GoodL ls) : Ct Tryz.prog 5 [slk 4 prtU ls] (MotP (ls.map pcn)) := by
 refine Ct.of Tryz.func5 rfl (by kernel_rfl) rfl fun c0 => ?_
 refine J_lenk 0 rfl fun hlen => ?_
 have hb2 := hb.2
 refine J_to (To.emps 1) ?_
 refine zF (zG [] (.w 0 (op_alloc 0 zr26 rfl rfl)<|.nil) ff rfl fun g1 => ⟨_, _, [0], rfl, (.k 0 rfl<|.k 2 rfl<|.nil), (.k 0 rfl<|.nil), ?_⟩)
 refine zC ?_
 refine J_to (To.emps 1) ?_
 refine zF (zG [] (.w 1 (op_alloc 1 zr26 rfl rfl)<|.nil) ff rfl fun g2 => ⟨_, _, [0, 1], rfl, (.k 0 rfl<|.k 2 rfl<|.k 3 rfl<|.nil), (.k 0 rfl<|.k 1 rfl<|.nil), ?_⟩)
 refine zC ?_
 refine zF ?_
 refine zF (zG [] (.n (zB (.k rfl))<|.nil) ff rfl fun g3 => ⟨_, _, [0, 1], rfl, (.k 0 rfl<|.k 2 rfl<|.k 3 rfl<|.k 4 rfl<|.nil), (.k 0 rfl<|.k 1 rfl<|.nil), ?_⟩)
 refine zC ?_
 refine zT ?_
 refine J_to (To.emps 1) ?_
 refine J_loopc (α := Nat × Value) (fun x => x.1 ≤ ls.length) (fun x => ls.length - x.1) (fun x restR => (4, isv (.int .i64 (x.1 : Int))) :: restR) (fun x restS => somk x.2 4 prtC ((ls.map pcn).take x.1) 46 :: blk (g2 3) [isv x.2] 26 :: restS) (ρc := [(0, _), (2, _), (3, _)]) (σc := [_]) (0, .slice none 0 0) (by exact Nat.zero_le _) (To.pick (fun _ => .sub (t := 4) rfl (sp_eq (by rfl))<|.k 0 rfl<|.k 2 rfl<|.k 3 rfl<|.nil) (fun _ => .sub 2 rfl (somk_nil)<|.sub 1 rfl ((fun _ _ h => h))<|.k 0 rfl<|.nil) (ks := [2, 1, 0]) rfl) (fun x hI => ?_)
 obtain ⟨k, sv⟩ := x
 try simp only at hI
 show J _ _ ((4, isv (.int .i64 (k : Int))) :: _) (somk sv 4 prtC ((ls.map pcn).take k) 46 :: blk (g2 3) [isv sv] 26 :: _) _ _
 refine zF ?_
 refine zF (zG [] (.n (zA (.t rfl))<|.n (zA (.t rfl))<|.n (op_len_sk sl22 (.t rfl))<|.n (op_cmp (by simp) (.t rfl) (.t rfl) rfl)<|.nil) ff rfl fun g4 => ⟨_, _, [0, 1, 2], rfl, (.k 0 rfl<|.k 2 rfl<|.k 3 rfl<|.k 4 rfl<|.k 8 rfl<|.nil), (.k 0 rfl<|.k 1 rfl<|.k 2 rfl<|.nil), ?_⟩)
 refine zC ?_
 refine zH (zK (.t rfl)) (fun h1 => ?_) (fun h1 => ?_)
 ·try simp only [cmpB, Z] at h1
  have hgl : (ls.getD ((k : Nat) : Int).toNat prtD).n < 2 ^ 64 ∧ (ls.getD ((k : Nat) : Int).toNat prtD).f < 2 ^ 64 := goodL_at hb (by omega)
  refine J_skip ?_
  refine zC ?_
  refine zF ?_
  refine zT ?_
  refine (zG [[], [0], [], [], [2, 3], [2, 3, 4], [2, 3, 4, 5], [], [], [7, 8], [7, 8, 9], [7, 8, 9, 10], [], [], [12, 13], [12, 13, 14], [12, 13, 14, 15], [12, 13, 14, 15, 16], [], [], [18, 19], [18, 19, 20], [18, 19, 20, 21], [12, 13, 14, 15, 16, 17, 18, 19, 20, 21, 22], [2, 3, 4, 5, 6, 7, 8, 9, 10, 11, 12, 13, 14, 15, 16, 17, 18, 19, 20, 21, 22, 23], [2, 3, 4, 5, 6, 7, 8, 9, 10, 11, 12, 13, 14, 15, 16, 17, 18, 19, 20, 21, 22, 23, 24], [0, 1, 2, 3, 4, 5, 6, 7, 8, 9, 10, 11, 12, 13, 14, 15, 16, 17, 18, 19, 20, 21, 22, 23, 24, 25], [0, 1, 2, 3, 4, 5, 6, 7, 8, 9, 10, 11, 12, 13, 14, 15, 16, 17, 18, 19, 20, 21, 22, 23, 24, 25, 26], [0, 1, 2, 3, 4, 5, 6, 7, 8, 9, 10, 11, 12, 13, 14, 15, 16, 17, 18, 19, 20, 21, 22, 23, 24, 25, 26, 27]] (.n (zI fd26_0 (.t rfl) rfl)<|.r 1 (zN 1 sc24 (.t rfl) rfl zJ rfl)<|.n (zA (.t rfl))<|.n (zA (.t rfl))<|.n (op_index_sk (mk := prtU) prtD sl22 prtU_len (.t rfl) (.t rfl) (by omega) (by omega))<|.n (op_field_ptr fd51_0 (.t rfl) rfl)<|.n (op_load_sc sc3 (.t rfl) rfl)<|.n (zA (.t rfl))<|.n (zA (.t rfl))<|.n (op_index_sk (mk := prtU) prtD sl22 prtU_len (.t rfl) (.t rfl) (by omega) (by omega))<|.n (op_field_ptr fd51_1 (.t rfl) rfl)<|.n (op_load_sc sc3 (.t rfl) rfl)<|.n (zA (.t rfl))<|.n (zA (.t rfl))<|.n (op_index_sk (mk := prtU) prtD sl22 prtU_len (.t rfl) (.t rfl) (by omega) (by omega))<|.n (op_field_ptr fd51_2 (.t rfl) rfl)<|.n (op_load_sc sc37 (.t rfl) rfl)<|.n (zP (f_ok hgl.1) ⟨(.t rfl),  trivial⟩)<|.n (zA (.t rfl))<|.n (zA (.t rfl))<|.n (op_index_sk (mk := prtU) prtD sl22 prtU_len (.t rfl) (.t rfl) (by omega) (by omega))<|.n (op_field_ptr fd51_3 (.t rfl) rfl)<|.n (op_load_sc sc37 (.t rfl) rfl)<|.n (zP (f_ok hgl.2) ⟨(.t rfl),  trivial⟩)<|.n (op_build zr46 rfl pl46 (.cons rfl (.t rfl) co_isv rfl (puts_l rfl (Nat.le_of_ble_eq_true rfl)) (.cons rfl (.t rfl) co_isv rfl (puts_l rfl (Nat.le_of_ble_eq_true rfl)) (.cons rfl (.t rfl) co_flp rfl (puts_l rfl (Nat.le_of_ble_eq_true rfl)) (.cons rfl (.t rfl) co_flp rfl (puts_l rfl (Nat.le_of_ble_eq_true rfl)) .nil)))))<|.n (op_buildSlice sl24 zr46 rfl rfl rfl rfl (.cons rfl (.t rfl) co_agg rfl (puts_l rfl (Nat.le_of_ble_eq_true rfl)) .nil))<|.w 0 (op_append_k (pcn (ls.getD ((k : Nat) : Int).toNat prtD)) 0 sl24 zr46 rfl rfl (.t rfl) (.t rfl) rfl (by simp; omega) (by simp; omega))<|.n (zI fd26_0 (.t rfl) rfl)<|.w 1 (op_store_sl 1 (.t rfl) rfl sz24 rfl rfl)<|.nil) (fun _ => mixed) rfl fun g5 => ⟨_, _, [0, 1, 2], rfl, (.k 0 rfl<|.k 2 rfl<|.k 3 rfl<|.k 4 rfl<|.nil), (.k 0 rfl<|.k 1 rfl<|.k 2 rfl<|.nil), ?_⟩)
  refine zR ?_
  refine zC ?_
  refine (zG [] (.n (zA (.t rfl))<|.n (op_add (.t rfl) (.k rfl) (zO (by omega) (by omega)))<|.n (zB (.t rfl))<|.nil) ff rfl fun g6 => ⟨_, _, [0, 1, 2], rfl, (.k 0 rfl<|.k 2 rfl<|.k 3 rfl<|.k 4 rfl<|.nil), (.k 0 rfl<|.k 1 rfl<|.k 2 rfl<|.nil), ?_⟩)
  exact JN_again (k + 1, g5 37) (by exact (show k + 1 ≤ ls.length by omega)) (by show ls.length - (_ + 1) < _; omega) (To.pick (fun _ => .sub (t := 4) rfl (sp_eq (by rfl))<|.k 0 rfl<|.k 2 rfl<|.k 3 rfl<|.nil) (fun _ => .sub 0 rfl ((res_eq (by rw [show (ls.map pcn).take (k + 1) = _ from take_pcn (by omega)]; rfl)))<|.sub 1 rfl ((fun _ _ h => h))<|.k 2 rfl<|.nil) (ks := [0, 1, 2]) rfl)
 ·try simp only [cmpB, Z] at h1
  refine J_exit ?_
  refine zE ?_
  refine zE ?_
  refine zS ?_
  refine zC ?_
  refine zF (zG [] (.r 1 (op_get_ag 1 ag26 (.t rfl) rfl zJ rfl rfl)<|.w 2 (op_store_b 2 (.t rfl) (.t rfl) co_agg sz26 rfl rfl rfl)<|.nil) ff rfl fun g7 => ⟨_, _, [0, 2], rfl, (.k 2 rfl<|.nil), (.k 0 rfl<|.k 2 rfl<|.nil), ?_⟩)
  refine zC ?_
  refine J_ret ?_
  refine JN_to (To.freeze 0 (fun _ h => h) rfl frz_somk rfl) ?_
  refine zQ (.cons (.ag 1 (.t rfl) ag26 rfl rfl rfl)<|.nil) (zM (sb_res1 (sb_agg (.cons (sb_fk 0 rfl)<|.nil))) ?_)
  exact sb_eq (by rw [List.take_of_length_le (by simp; omega)]; rfl)
theorem awF : Ct Tryz.prog 13 [MotP [⟨2, 1, 0x4008000000000000, 0⟩], isv (.int .i64 2000000)] (resM ⟨2, 2, [0x3ff0000000000000, 0x4000000000000000, 0, 0x3ff0000000000000], 0⟩) := (show blkM moveB [⟨2, 1, 0x4008000000000000, 0⟩] 2000000 = ⟨2, 2, [0x3ff0000000000000, 0x4000000000000000, 0, 0x3ff0000000000000], 0⟩ from MR.eq4 (by decide +kernel)) ▸ mF_ok
theorem awQ : Ct Tryz.prog 6 [MotP [⟨2, 1, 0x4008000000000000, 0⟩], isv (.int .i64 2000000)] (resM ⟨2, 2, [0x4020000000000000, 0x4018000000000000, 0x4018000000000000, 0x4018000000000000], 0⟩) := (show blkM noiseB [⟨2, 1, 0x4008000000000000, 0⟩] 2000000 = ⟨2, 2, [0x4020000000000000, 0x4018000000000000, 0x4018000000000000, 0x4018000000000000], 0⟩ from MR.eq4 (by decide +kernel)) ▸ mQ_ok
theorem awE : motE [⟨2, 1, 0x4008000000000000, 0⟩] = 0 := by decide +kernel
theorem awE0 : motE [] = 1 := by decide +kernel
theorem awD : Ct Tryz.prog 7 [MotP [⟨2, 1, 0x4008000000000000, 0⟩]] (resI ⟨2, 0⟩) := (show dimR [⟨2, 1, 0x4008000000000000, 0⟩] = ⟨2, 0⟩ from (dimR_ok awE).trans (congrArg (fun a => (⟨a, 0⟩ : IR)) (by decide +kernel))) ▸ mdim_ok
theorem awC : Ct Tryz.prog 15 [MotP [⟨2, 1, 0x4008000000000000, 0⟩]] (isv (.int .i64 0)) := awE ▸ mchk_ok
theorem awC0 : Ct Tryz.prog 15 [MotP []] (isv (.int .i64 1)) := awE0 ▸ mchk_ok
theorem awS : Ct Tryz.prog 14 [isv (.int .i64 500000)] (resN ⟨0x3fe0000000000000, 0⟩) := (show secR 500000 = ⟨0x3fe0000000000000, 0⟩ from (if_neg (by decide)).trans (congrArg (fun a => (⟨a, 0⟩ : NR)) (by decide +kernel))) ▸ secs_ok
theorem awake_ok  : Ct Tryz.prog 4 [] (isv (.bool true)) := by
 refine Ct.of Tryz.func4 rfl (by kernel_rfl) rfl fun c0 => ?_
 refine zF (zG [] (.n (zB (.k rfl))<|.nil) ff rfl fun g1 => ⟨_, _, [], rfl, (.nil), (.nil), ?_⟩)
 refine zC ?_
 refine J_to (To.emps 1) ?_
 refine zF (zG [] (.n (op_build zr46 rfl pl46 (.cons rfl (.k rfl) co_isv rfl (puts_l rfl (Nat.le_of_ble_eq_true rfl)) (.cons rfl (.k rfl) co_isv rfl (puts_l rfl (Nat.le_of_ble_eq_true rfl)) (.cons rfl (Lk.fk rfl (by decide +kernel)) co_flp rfl (puts_l rfl (Nat.le_of_ble_eq_true rfl)) .nil))))<|.n (op_buildSlice sl24 zr46 rfl rfl rfl rfl (.cons rfl (Lk.sub (sb_agg (.cons zL<|.cons zL<|.cons zL<|.cons sb_fz<|.nil)) (.t rfl)) co_agg rfl (puts_l rfl (Nat.le_of_ble_eq_true rfl)) .nil))<|.n (op_build zr26 rfl pl26 (.cons rfl (.t rfl) co_slc rfl (puts_l rfl (Nat.le_of_ble_eq_true rfl)) .nil))<|.w 0 (op_alloc 0 zr26 rfl rfl)<|.w 0 (op_store_new 0 rfl (.t rfl) co_agg sz26 rfl rfl)<|.nil) ff rfl fun g2 => ⟨_, _, [0], rfl, (.k 1 rfl<|.nil), (.k 0 rfl<|.nil), ?_⟩)
 refine zC ?_
 refine J_to (To.emps 1) ?_
 refine zF (zG [] (.r 0 (op_get_ag 0 ag26 (.t rfl) rfl zJ rfl rfl)<|.n (zP (awF) ⟨(.t rfl), (.k rfl),  trivial⟩)<|.n (zA (.t rfl))<|.n (op_extract (.t rfl) rfl)<|.n (op_extract (.t rfl) rfl)<|.w 1 (op_alloc 1 zr30 rfl rfl)<|.w 1 (op_store_new 1 rfl (.t rfl) co_agg sz30 rfl rfl)<|.n (zB (.t rfl))<|.nil) ff rfl fun g3 => ⟨_, _, [0, 1], rfl, (.k 1 rfl<|.k 2 rfl<|.k 3 rfl<|.nil), (.k 0 rfl<|.k 1 rfl<|.nil), ?_⟩)
 refine zC ?_
 refine J_to (To.emps 1) ?_
 refine zF (zG [] (.r 0 (op_get_ag 0 ag26 (.t rfl) rfl zJ rfl rfl)<|.n (zP (awQ) ⟨(.t rfl), (.k rfl),  trivial⟩)<|.n (zA (.t rfl))<|.n (op_extract (.t rfl) rfl)<|.n (op_extract (.t rfl) rfl)<|.w 2 (op_alloc 2 zr30 rfl rfl)<|.w 2 (op_store_new 2 rfl (.t rfl) co_agg sz30 rfl rfl)<|.n (zB (.t rfl))<|.nil) ff rfl fun g4 => ⟨_, _, [0, 1, 2], rfl, (.k 1 rfl<|.k 2 rfl<|.k 3 rfl<|.k 4 rfl<|.k 5 rfl<|.nil), (.k 0 rfl<|.k 1 rfl<|.k 2 rfl<|.nil), ?_⟩)
 refine zC ?_
 refine zF (zG [] (.r 0 (op_get_ag 0 ag26 (.t rfl) rfl zJ rfl rfl)<|.n (zP (awD) ⟨(.t rfl),  trivial⟩)<|.n (zA (.t rfl))<|.n (op_extract (.t rfl) rfl)<|.n (op_extract (.t rfl) rfl)<|.n (zB (.t rfl))<|.n (zB (.t rfl))<|.nil) ff rfl fun g5 => ⟨_, _, [0, 1, 2], rfl, (.k 1 rfl<|.k 2 rfl<|.k 3 rfl<|.k 4 rfl<|.k 5 rfl<|.k 6 rfl<|.k 7 rfl<|.nil), (.k 0 rfl<|.k 1 rfl<|.k 2 rfl<|.nil), ?_⟩)
 refine zC ?_
 refine zF (zG [] (.n (zP (awS) ⟨(.k rfl),  trivial⟩)<|.n (zA (.t rfl))<|.n (op_extract (.t rfl) rfl)<|.n (op_extract (.t rfl) rfl)<|.n (zB (.t rfl))<|.n (zB (.t rfl))<|.nil) ff rfl fun g6 => ⟨_, _, [0, 1, 2], rfl, (.k 1 rfl<|.k 2 rfl<|.k 3 rfl<|.k 4 rfl<|.k 5 rfl<|.k 6 rfl<|.k 7 rfl<|.k 8 rfl<|.k 9 rfl<|.nil), (.k 0 rfl<|.k 1 rfl<|.k 2 rfl<|.nil), ?_⟩)
 refine zC ?_
 refine zF (zG [] (.n (zA (.t rfl))<|.n (op_cmp (by simp) (.t rfl) (.k rfl) rfl)<|.n (zA (.t rfl))<|.n (op_guard rfl rfl (gd_b rfl) (fun hC => (zI fd30_2 (.t rfl) rfl)))<|.r 1 (op_guard rfl rfl (gd_b rfl) (fun hC => (zN 1 sc28 (.w rfl hC) rfl zJ rfl)))<|.n (op_guard rfl rfl (gd_b rfl) (fun hC => (op_len_m sl28 (.w rfl hC))))<|.n (op_guard rfl rfl (gd_b rfl) (fun hC => (op_cmp (by simp) (.w rfl hC) (.k rfl) rfl)))<|.n (op_and (.t rfl) (fun h2 => (.w rfl h2)))<|.n (zA (.t rfl))<|.n (op_guard rfl rfl (gd_b rfl) (fun hC => (zI fd30_2 (.t rfl) rfl)))<|.r 1 (op_guard rfl rfl (gd_b rfl) (fun hC => (zN 1 sc28 (.w rfl hC) rfl zJ rfl)))<|.n (op_guard rfl rfl (gd_b rfl) (fun hC => (op_index_m 0 sl28 (.w rfl hC) (.k rfl) (by decide) (by decide))))<|.n (op_guard rfl rfl (gd_b rfl) (fun hC => (op_load_sc sc39 (.w rfl hC) rfl)))<|.n (op_guard rfl rfl (gd_b rfl) (fun hC => (op_fcmp (by simp) (.w rfl hC) (Lk.fk rfl (by decide +kernel)) rfl)))<|.n (op_and (.t rfl) (fun h2 => (.w rfl h2)))<|.n (zA (.t rfl))<|.n (op_guard rfl rfl (gd_b rfl) (fun hC => (zA (.t rfl))))<|.n (op_guard rfl rfl (gd_b rfl) (fun hC => (op_cmp (by simp) (.w rfl hC) (.k rfl) rfl)))<|.n (op_and (.t rfl) (fun h2 => (.w rfl h2)))<|.n (zA (.t rfl))<|.n (op_guard rfl rfl (gd_b rfl) (fun hC => (zI fd30_2 (.t rfl) rfl)))<|.r 2 (op_guard rfl rfl (gd_b rfl) (fun hC => (zN 2 sc28 (.w rfl hC) rfl zJ rfl)))<|.n (op_guard rfl rfl (gd_b rfl) (fun hC => (op_len_m sl28 (.w rfl hC))))<|.n (op_guard rfl rfl (gd_b rfl) (fun hC => (op_cmp (by simp) (.w rfl hC) (.k rfl) rfl)))<|.n (op_and (.t rfl) (fun h2 => (.w rfl h2)))<|.n (zA (.t rfl))<|.n (op_guard rfl rfl (gd_b rfl) (fun hC => (zI fd30_2 (.t rfl) rfl)))<|.r 2 (op_guard rfl rfl (gd_b rfl) (fun hC => (zN 2 sc28 (.w rfl hC) rfl zJ rfl)))<|.n (op_guard rfl rfl (gd_b rfl) (fun hC => (op_index_m 0 sl28 (.w rfl hC) (.k rfl) (by decide) (by decide))))<|.n (op_guard rfl rfl (gd_b rfl) (fun hC => (op_load_sc sc39 (.w rfl hC) rfl)))<|.n (op_guard rfl rfl (gd_b rfl) (fun hC => (op_fcmp (by simp) (.w rfl hC) (Lk.fk rfl (by decide +kernel)) rfl)))<|.n (op_and (.t rfl) (fun h2 => (.w rfl h2)))<|.n (zA (.t rfl))<|.n (op_guard rfl rfl (gd_b rfl) (fun hC => (zI fd30_2 (.t rfl) rfl)))<|.r 2 (op_guard rfl rfl (gd_b rfl) (fun hC => (zN 2 sc28 (.w rfl hC) rfl zJ rfl)))<|.n (op_guard rfl rfl (gd_b rfl) (fun hC => (op_index_m 0 sl28 (.w rfl hC) (.k rfl) (by decide) (by decide))))<|.n (op_guard rfl rfl (gd_b rfl) (fun hC => (op_load_sc sc39 (.w rfl hC) rfl)))<|.n (op_guard rfl rfl (gd_b rfl) (fun hC => (op_fcmp (by simp) (.w rfl hC) (Lk.fk rfl (by decide +kernel)) rfl)))<|.n (op_and (.t rfl) (fun h2 => (.w rfl h2)))<|.n (zA (.t rfl))<|.n (op_guard rfl rfl (gd_b rfl) (fun hC => (zA (.t rfl))))<|.n (op_guard rfl rfl (gd_b rfl) (fun hC => (op_cmp (by simp) (.w rfl hC) (.k rfl) rfl)))<|.n (op_and (.t rfl) (fun h2 => (.w rfl h2)))<|.n (zA (.t rfl))<|.n (op_guard rfl rfl (gd_b rfl) (fun hC => (zA (.t rfl))))<|.n (op_guard rfl rfl (gd_b rfl) (fun hC => (op_cmp (by simp) (.w rfl hC) (.k rfl) rfl)))<|.n (op_and (.t rfl) (fun h2 => (.w rfl h2)))<|.n (zA (.t rfl))<|.n (op_guard rfl rfl (gd_b rfl) (fun hC => (zA (.t rfl))))<|.n (op_guard rfl rfl (gd_b rfl) (fun hC => (op_cmp (by simp) (.w rfl hC) (.k rfl) rfl)))<|.n (op_and (.t rfl) (fun h2 => (.w rfl h2)))<|.n (zA (.t rfl))<|.n (op_guard rfl rfl (gd_b rfl) (fun hC => (zA (.t rfl))))<|.n (op_guard rfl rfl (gd_b rfl) (fun hC => (op_fcmp (by simp) (.w rfl hC) (Lk.fk rfl (by decide +kernel)) rfl)))<|.n (op_and (.t rfl) (fun h2 => (.w rfl h2)))<|.n (zA (.t rfl))<|.r 0 (op_guard rfl rfl (gd_b rfl) (fun hC => (op_get_ag 0 ag26 (.t rfl) rfl zJ rfl rfl)))<|.n (op_guard rfl rfl (gd_b rfl) (fun hC => (zP (awC) ⟨(.w rfl hC),  trivial⟩)))<|.n (op_guard rfl rfl (gd_b rfl) (fun hC => (op_cmp (by simp) (.w rfl hC) (.k rfl) rfl)))<|.n (op_and (.t rfl) (fun h2 => (.w rfl h2)))<|.n (zA (.t rfl))<|.n (op_guard rfl rfl (gd_b rfl) (fun hC => (op_build zr26 rfl pl26 .nil)))<|.n (op_guard rfl rfl (gd_b rfl) (fun hC => (zP (awC0) ⟨(Lk.sub (sb_agg (.cons (sb_nilk (mk := prtC) (k := 4))<|.nil)) (.w rfl hC)),  trivial⟩)))<|.n (op_guard rfl rfl (gd_b rfl) (fun hC => (op_cmp (by simp) (.w rfl hC) (.k rfl) rfl)))<|.n (op_and (.t rfl) (fun h2 => (.w rfl h2)))<|.n (zB (.t rfl))<|.nil) ff rfl fun g7 => ⟨_, _, [], rfl, (.k 0 rfl<|.nil), (.nil), ?_⟩)
 refine zC ?_
 refine J_ret ?_
 refine zQ (.cons (.tmp (.t rfl))<|.nil) (zM (sb_res1 zL) ?_)
 exact ret_b (by decide +kernel)
end Go.Proofs.YtjnmgcglooeooaaGreatDoor
