/- Printed by a program of ours (walk.py): walks of exact numbers. -/
import Derived.Test.YtjnmgcglooeooaaGreatDoorPsKb
import Derived.Test.YtjnmgcglooeooaaGreatDoorProg
import Derived.KernelRfl
import Derived.Test.YtjnmgcglooeooaaGreatDoorPsTypes
import Derived.Test.YtjnmgcglooeooaaGreatDoorPsWInt
set_option linter.unusedVariables false
set_option linter.unusedSimpArgs false
set_option maxRecDepth 20000
set_option maxHeartbeats 1000000
namespace Go.Proofs.YtjnmgcglooeooaaGreatDoor
open Go Go.Bn
attribute [local irreducible] OpOK
theorem ineg2_ok {u : Value} {x : Int} (hx : Sml x) : CtM Tryz.prog 77 [ipo u 0, ipo u 0] (blk u (intC (x)) 88) (ipo u 0) (blk u (intC (-x)) 88) := by
 refine CtM.of Tryz.func77 rfl (by kernel_rfl) rfl (fix_blk) fun c0 ob hr0 => ?_
 have lx := sml_len hx
 refine zF (zG [] (.n (zB (.k rfl))<|.nil) ff rfl fun g1 => ⟨_, _, [0], rfl, (.k 0 rfl<|.k 1 rfl<|.nil), (.k 0 rfl<|.nil), ?_⟩)
 refine zC ?_
 refine zF (zG [[], [], [1], [1, 2], [1, 2, 3], [1, 2, 3, 4], [], [6], [6, 7], [6, 7, 8], [6, 7, 8, 9], [0, 1, 2, 3, 4, 5, 6, 7, 8, 9, 10], [0, 1, 2, 3, 4, 5, 6, 7, 8, 9, 10, 11]] (.n (zA (.t rfl))<|.n (zA (.t rfl))<|.n (op_nilo (.t rfl))<|.n (zI fd88_0 (.t rfl) rfl)<|.r 0 (zN 0 sc4 (.t rfl) rfl zJ rfl)<|.n (op_not (.t rfl))<|.n (zA (.t rfl))<|.n (op_nilo (.t rfl))<|.n (zI fd88_1 (.t rfl) rfl)<|.r 0 (zN 0 sc86 (.t rfl) rfl zJ rfl)<|.n (op_append_nil sl86 zr132 rfl (.k rfl) (.t rfl) (by omega) (by omega))<|.w 0 (op_callM 0 (iput_ok (limbs_dig _)) ⟨(.t rfl), (.t rfl), (.t rfl),  trivial⟩ rfl)<|.n (zB (.t rfl))<|.nil) (fun _ => mixed) rfl fun g2 => ⟨_, _, [0], rfl, (.k 4 rfl<|.nil), (.k 0 rfl<|.nil), ?_⟩)
 refine zC ?_
 refine J_ret ?_
 refine JN_to (To.res 0 (r' := blk u (intC (-x)) 88) rfl (res_eq (by rw [mag_nat, neg_1])) rfl) ?_
 refine JN_retM 0 hr0 (fix_blk) rfl (.cons (.tmp (.t rfl))<|.nil) (zM (sb_res1 zL) ?_)
 exact zL
theorem iseti_ok {u : Value} {q0 q1 : SP} {n : Nat} (hn : n < 9223372036854775808) : CtM Tryz.prog 94 [ipo u 0, isv (.int .i64 (n : Int))] (blk u [q0, q1] 88) (ipo u 0) (blk u (intC ((n : Int))) 88) := by
 refine CtM.of Tryz.func94 rfl (by kernel_rfl) rfl (fix_blk) fun c0 ob hr0 => ?_
 refine zF (zG [] (.n (zB (.k rfl))<|.nil) ff rfl fun g1 => ⟨_, _, [0], rfl, (.k 0 rfl<|.k 1 rfl<|.nil), (.k 0 rfl<|.nil), ?_⟩)
 refine zC ?_
 refine zF (zG [] (.n (zA (.t rfl))<|.n (op_conv_int it2 it37 (.t rfl) (wr64 (by omega) (by omega)))<|.n (zB (.t rfl))<|.nil) ff rfl fun g2 => ⟨_, _, [0], rfl, (.k 0 rfl<|.k 1 rfl<|.k 5 rfl<|.nil), (.k 0 rfl<|.nil), ?_⟩)
 refine zC ?_
 refine zF ?_
 refine zF (zG [] (.n (zA (.t rfl))<|.n (op_cmp (by simp) (.t rfl) (.k rfl) rfl)<|.nil) ff rfl fun g3 => ⟨_, _, [0], rfl, (.k 0 rfl<|.k 1 rfl<|.k 5 rfl<|.k 9 rfl<|.nil), (.k 0 rfl<|.nil), ?_⟩)
 refine zC ?_
 refine zH (zK (.t rfl)) (fun h1 => ?_) (fun h1 => ?_)
 ·try simp only [cmpB, Z] at h1
  exact absurd h1 (by omega)
 ·try simp only [cmpB, Z] at h1
  refine J_skip ?_
  refine zC ?_
  refine zF (zG [] (.n (zA (.t rfl))<|.n (zA (.t rfl))<|.n (op_cmp (by simp) (.t rfl) (.k rfl) rfl)<|.n (zA (.t rfl))<|.n (zP (words_ok (n := n) (by omega)) ⟨(.t rfl),  trivial⟩)<|.w 0 (op_callM 0 (iput_ok (limbs_dig _)) ⟨(.t rfl), (.t rfl), (.t rfl),  trivial⟩ rfl)<|.n (zB (.t rfl))<|.nil) ff rfl fun g4 => ⟨_, _, [0], rfl, (.k 4 rfl<|.nil), (.k 0 rfl<|.nil), ?_⟩)
  refine zC ?_
  refine J_ret ?_
  refine JN_to (To.res 0 (r' := blk u (intC ((n : Int))) 88) rfl (res_eq (by rw [mag_nat, sgnI_nat])) rfl) ?_
  refine JN_retM 0 hr0 (fix_blk) rfl (.cons (.tmp (.t rfl))<|.nil) (zM (sb_res1 zL) ?_)
  exact zL
theorem newint_ok {n : Nat} (hn : n < 9223372036854775808) : Ct Tryz.prog 74 [isv (.int .i64 (n : Int))] (intP (n : Int)) := by
 refine Ct.of Tryz.func74 rfl (by kernel_rfl) rfl fun c0 => ?_
 refine zF (zG [] (.n (zB (.k rfl))<|.nil) ff rfl fun g1 => ⟨_, _, [], rfl, (.k 0 rfl<|.nil), (.nil), ?_⟩)
 refine zC ?_
 refine J_to (To.emps 1) ?_
 refine zF (zG [] (.n (op_build zr88 rfl pl88 .nil)<|.w 0 (op_box 0 (.t rfl) co_agg rfl)<|.n (op_assign_ve rfl rfl)<|.nil) ff rfl fun g2 => ⟨_, _, [0], rfl, (.k 0 rfl<|.k 3 rfl<|.nil), (.k 0 rfl<|.nil), ?_⟩)
 refine zC ?_
 refine zF (zG [] (.n (zA (.t rfl))<|.n (zA (.t rfl))<|.w 0 (op_callM 0 (iseti_ok hn) ⟨(.t rfl), (.t rfl),  trivial⟩ rfl)<|.n (zB (.t rfl))<|.nil) ff rfl fun g3 => ⟨_, _, [0], rfl, (.k 2 rfl<|.nil), (.k 0 rfl<|.nil), ?_⟩)
 refine zC ?_
 refine J_ret ?_
 refine JN_to (To.freeze 0 (fun _ h => h) rfl frz_blk rfl) ?_
 refine zQ (.cons (.tmp (.t rfl))<|.nil) (zM (sb_res1 (sb_ok 0 2 rfl rfl)) ?_)
 exact zL
theorem xlow_ok {x : Exa} {e : Int} (hx : Exb x) (h0 : -1000000 ≤ e) (h1 : e ≤ 1000000) : Ct Tryz.prog 71 [exaP x, isv (.int .i64 e)] (exaP (x.low e)) := by
 refine Ct.of Tryz.func71 rfl (by kernel_rfl) rfl fun c0 => ?_
 have hxm := hx.h
 have hx0 := hx.e0
 have hx1 := hx.e1
 refine J_to (To.emps 2) ?_
 refine zF (zG [] (.w 0 (op_box 0 (.t rfl) co_agg rfl)<|.w 1 (op_alloc 1 zr100 rfl rfl)<|.nil) ff rfl fun g1 => ⟨_, _, [0, 1], rfl, (.k 1 rfl<|.k 2 rfl<|.k 4 rfl<|.nil), (.k 0 rfl<|.k 1 rfl<|.nil), ?_⟩)
 refine zC ?_
 refine zF ?_
 refine zF (zG [] (.n (zA (.t rfl))<|.n (zI fd100_1 (.t rfl) rfl)<|.r 0 (zN 0 sc3 (.t rfl) rfl zJ rfl)<|.n (op_cmp (by simp) (.t rfl) (.t rfl) rfl)<|.nil) ff rfl fun g2 => ⟨_, _, [0, 1], rfl, (.k 1 rfl<|.k 2 rfl<|.k 4 rfl<|.k 8 rfl<|.nil), (.k 0 rfl<|.k 1 rfl<|.nil), ?_⟩)
 refine zC ?_
 refine zH (zK (.t rfl)) (fun h1 => ?_) (fun h1 => ?_)
 ·try simp only [cmpB, Z] at h1
  refine zF (zG [] (.r 0 (op_get_ag 0 ag100 (.t rfl) rfl zJ rfl rfl)<|.w 1 (op_store_b 1 (.t rfl) (.t rfl) co_agg sz100 rfl rfl rfl)<|.nil) ff rfl fun g3 => ⟨_, _, [1], rfl, (.k 4 rfl<|.nil), (.k 1 rfl<|.nil), ?_⟩)
  refine zC ?_
  refine J_ret ?_
  refine zD ?_
  refine zQ (.cons (.ag 0 (.t rfl) ag100 rfl rfl rfl)<|.nil) (zM (sb_res1 zL) ?_)
  exact sb_eq (by unfold Exa.low; rw [if_pos (by omega)])
 ·try simp only [cmpB, Z] at h1
  refine J_skip ?_
  refine zC ?_
  refine J_to (To.emps 1) ?_
  refine zF (zG [] (.w 2 (op_alloc 2 zr88 rfl rfl)<|.n (zI fd100_0 (.t rfl) rfl)<|.r 0 (zN 0 sc98 (.t rfl) rfl zJ rfl)<|.n (zI fd100_1 (.t rfl) rfl)<|.r 0 (zN 0 sc3 (.t rfl) rfl zJ rfl)<|.n (zA (.t rfl))<|.n (op_sub (.t rfl) (.t rfl) (zO (by omega) (by omega)))<|.n (op_conv_int it3 it76 (.t rfl) (show IntKind.u64.wrap (x.e - e) = (((x.e - e).toNat : Nat) : Int) by rw [wr64 (by omega) (by omega)]; omega))<|.w 2 (op_callMp 2 rfl rfl (fun u => ilsh_ok hxm (by omega)) rfl ⟨(.t rfl), (.t rfl),  trivial⟩)<|.n (zA (.t rfl))<|.n (op_ve 18 20 rfl rfl rfl (fun f => (op_build zr100 rfl pl100 (.cons rfl (.t rfl) co_ipo rfl (puts_l rfl (Nat.le_of_ble_eq_true rfl)) (.cons rfl (.t rfl) co_isv rfl (puts_l rfl (Nat.le_of_ble_eq_true rfl)) .nil)))) (fun f g h => by rw [h 18 (show 18 ∈ [18] from by decide)]) rfl)<|.w 1 (op_ver 20 rfl rfl (fun f => op_store_b 1 (.t rfl) (.t rfl) co_agg sz100 rfl rfl rfl) (fun f g h => by rw [h 18 (show 18 ∈ [18] from by decide)]) rfl)<|.nil) ff rfl fun g4 => ⟨_, _, [1, 2], rfl, (.k 4 rfl<|.nil), (.k 1 rfl<|.k 2 rfl<|.nil), ?_⟩)
  refine zC ?_
  refine J_ret ?_
  refine JN_to (To.freeze 1 (fun _ h => h) rfl frz_blk rfl) ?_
  refine zQ (.cons (.ag 0 (.t rfl) ag100 rfl rfl rfl)<|.nil) (zM (sb_res1 (sb_agg (.cons (sb_ok 0 2 rfl rfl)<|.cons zL<|.nil))) ?_)
  exact sb_eq (by unfold Exa.low; rw [if_neg (by omega)])
theorem odd_ok {m : Nat} {e : Int} (hm : m < 18446744073709551616) (h0 : -1000000 ≤ e) (h1 : e ≤ 1000000) : Ct Tryz.prog 95 [isv (.int .u64 (m : Int)), isv (.int .i64 e)] (tupp [isv (.int .u64 (oddM m : Int)), isv (.int .i64 (oddE m e))]) := by
 refine Ct.of Tryz.func95 rfl (by kernel_rfl) rfl fun c0 => ?_
 refine zF (zG [] (.n (zB (.k rfl))<|.n (zB (.k rfl))<|.nil) ff rfl fun g1 => ⟨_, _, [], rfl, (.k 0 rfl<|.k 1 rfl<|.nil), (.nil), ?_⟩)
 refine zC ?_
 refine zF ?_
 refine zF (zG [] (.n (zA (.t rfl))<|.n (op_cmp (by simp) (.t rfl) (.k rfl) rfl)<|.nil) ff rfl fun g2 => ⟨_, _, [], rfl, (.k 0 rfl<|.k 1 rfl<|.k 7 rfl<|.nil), (.nil), ?_⟩)
 refine zC ?_
 refine zH (zK (.t rfl)) (fun h1 => ?_) (fun h1 => ?_)
 ·try simp only [cmpB, Z] at h1
  refine zF (zG [] (.n (zB (.k rfl))<|.n (zB (.k rfl))<|.nil) ff rfl fun g3 => ⟨_, _, [], rfl, (.k 4 rfl<|.k 5 rfl<|.nil), (.nil), ?_⟩)
  refine zC ?_
  refine J_ret ?_
  refine zD ?_
  refine zQ (.cons (.tmp (.t rfl))<|.cons (.tmp (.t rfl))<|.nil) (zM (sb_res (.cons zL<|.cons zL<|.nil)) ?_)
  exact sb_eq (by unfold oddM oddE; rw [if_pos (by omega), if_pos (by omega)]; rfl)
 ·try simp only [cmpB, Z] at h1
  refine J_skip ?_
  refine zC ?_
  refine zF ?_
  refine zT ?_
  refine J_loopc (α := Nat) (fun k => OddI m k) (fun k => 64 - k) (fun k restR => (0, isv (.int .u64 ((m / 2 ^ k : Nat) : Int))) :: (1, isv (.int .i64 (e + (k : Int)))) :: restR) (fun k restS => restS) (ρc := []) (σc := []) 0 (by exact odd_zero (by omega)) (To.pick (fun _ => .sub (t := 0) rfl (sp_eq (by exact congrArg (fun z => isv (.int .u64 z)) (by simp)))<|.sub (t := 1) rfl (sp_eq (by exact congrArg (fun z => isv (.int .i64 z)) (by omega)))<|.nil) (fun _ => .nil) (ks := []) rfl) (fun k hI => ?_)
  have hk64 := odd_lt hI hm
  refine zF ?_
  refine zF (zG [] (.n (zA (.t rfl))<|.n (op_rem (.t rfl) (.k rfl) (by omega) rfl)<|.n (op_cmp (by simp) (.t rfl) (.k rfl) rfl)<|.nil) ff rfl fun g4 => ⟨_, _, [], rfl, (.k 0 rfl<|.k 1 rfl<|.k 10 rfl<|.nil), (.nil), ?_⟩)
  refine zC ?_
  refine zH (zK (.t rfl)) (fun h2 => ?_) (fun h2 => ?_)
  ·try simp only [cmpB, Z] at h2
   have hlm : m / 2 ^ k ≤ m := Nat.div_le_self _ _
   have hev : (m / 2 ^ k) % 2 = 0 := (tmod2 _).1 h2
   refine J_skip ?_
   refine zC ?_
   refine zT ?_
   refine zF (zG [] (.n (zA (.t rfl))<|.n (op_quo (.t rfl) (.k rfl) (by omega) (quo2 (div_lt hm)))<|.n (zB (.t rfl))<|.nil) ff rfl fun g5 => ⟨_, _, [], rfl, (.k 0 rfl<|.k 1 rfl<|.nil), (.nil), ?_⟩)
   refine zC ?_
   refine (zG [] (.n (zA (.t rfl))<|.n (op_add (.t rfl) (.k rfl) (zO (by omega) (by omega)))<|.n (zB (.t rfl))<|.nil) ff rfl fun g6 => ⟨_, _, [], rfl, (.k 0 rfl<|.k 1 rfl<|.nil), (.nil), ?_⟩)
   refine zR ?_
   exact JN_again (k + 1) (by exact odd_step hI hev) (by omega) (To.pick (fun _ => .sub (t := 0) rfl (sp_eq (by exact congrArg (fun z => isv (.int .u64 z)) (by rw [Nat.pow_succ, ← Nat.div_div_eq_div_mul])))<|.sub (t := 1) rfl (sp_eq (by exact congrArg (fun z => isv (.int .i64 z)) (by omega)))<|.nil) (fun _ => .nil) (ks := []) rfl)
  ·try simp only [cmpB, Z] at h2
   refine J_exit ?_
   refine zE ?_
   refine zE ?_
   refine zS ?_
   refine zC ?_
   refine zF (zG [] (.n (zA (.t rfl))<|.n (zA (.t rfl))<|.n (zB (.t rfl))<|.n (zB (.t rfl))<|.nil) ff rfl fun g7 => ⟨_, _, [], rfl, (.k 4 rfl<|.k 5 rfl<|.nil), (.nil), ?_⟩)
   refine zC ?_
   refine J_ret ?_
   refine zQ (.cons (.tmp (.t rfl))<|.cons (.tmp (.t rfl))<|.nil) (zM (sb_res (.cons zL<|.cons zL<|.nil)) ?_)
   have hod : ¬ (m / 2 ^ k) % 2 = 0 := fun e => h2 ((tmod2 _).2 e)
   have hkt := odd_done hI hod
   have hm0 := hI.h0
   exact sb_eq (by unfold oddM oddE; rw [if_neg hm0, if_neg hm0, ← hkt])
theorem rsplitF_ok {x : Nat} (hn : nanB x = false) : Ct Tryz.prog 91 [flp x] (tupp [isv (.bool (sgn x)), isv (.int .i64 (expo x : Int)), isv (.int .u64 (frac x : Int))]) := by
 refine Ct.of Tryz.func91 rfl (by kernel_rfl) rfl fun c0 => ?_
 refine J_fl 0 rfl fun hx1 hx2 => ?_
 refine zF (zG [] (.n (zB (.k rfl))<|.n (zB (.k rfl))<|.n (zB (.k rfl))<|.nil) ff rfl fun g1 => ⟨_, _, [], rfl, (.k 0 rfl<|.nil), (.nil), ?_⟩)
 refine zC ?_
 refine zF (zG [] (.n (zA (.t rfl))<|.n (zP (bits_ok) ⟨(.t rfl),  trivial⟩)<|.n (zB (.t rfl))<|.nil) ff rfl fun g2 => ⟨_, _, [], rfl, (.k 5 rfl<|.nil), (.nil), ?_⟩)
 refine zC ?_
 refine zF (zG [] (.n (zA (.t rfl))<|.n (op_shr (.t rfl) (.k rfl) (by omega) (shr_bits x 63 (by omega)))<|.n (op_cmp (by simp) (.t rfl) (.k rfl) rfl)<|.n (zA (.t rfl))<|.n (op_shr (.t rfl) (.k rfl) (by omega) (shr_bits x 52 (by omega)))<|.n (op_rem (.t rfl) (.k rfl) (by omega) (show _ = ((expo x : Nat) : Int) from rfl))<|.n (op_conv_int it37 it3 (.t rfl) (expo_i64 x))<|.n (zA (.t rfl))<|.n (op_rem (.t rfl) (.k rfl) (by omega) (show _ = ((frac x : Nat) : Int) from rfl))<|.n (zB (.t rfl))<|.n (zB (.t rfl))<|.n (zB (.t rfl))<|.nil) ff rfl fun g3 => ⟨_, _, [], rfl, (.k 2 rfl<|.k 3 rfl<|.k 4 rfl<|.nil), (.nil), ?_⟩)
 refine zC ?_
 refine J_ret ?_
 refine zQ (.cons (.tmp (.t rfl))<|.cons (.tmp (.t rfl))<|.cons (.tmp (.t rfl))<|.nil) (zM (sb_res (.cons zL<|.cons zL<|.cons zL<|.nil)) ?_)
 exact sb_eq (by rw [sgn_top hx1])
theorem rparts_ok {x : Nat} (hf : finB x = true) : Ct Tryz.prog 75 [flp x] (tupp [aggp [isv (.bool (sgn x)), isv (.int .u64 ((oddM (mgn x) : Nat) : Int)), isv (.int .i64 (oddE (mgn x) (plc x)))], isv (.int .i64 0)]) := by
 refine Ct.of Tryz.func75 rfl (by kernel_rfl) rfl fun c0 => ?_
 have hex : expo x < 2047 := by unfold finB at hf; simpa using hf
 have hml := mgn_lt x
 have hpg := plc_ge x
 refine J_to (To.emps 1) ?_
 refine zF (zG [] (.w 0 (op_alloc 0 zr120 rfl rfl)<|.n (zB (.k rfl))<|.nil) ff rfl fun g1 => ⟨_, _, [0], rfl, (.k 0 rfl<|.k 2 rfl<|.nil), (.k 0 rfl<|.nil), ?_⟩)
 refine zC ?_
 refine zF (zG [] (.n (zA (.t rfl))<|.n (zP (rsplitF_ok (fin_not_nan hf)) ⟨(.t rfl),  trivial⟩)<|.n (zA (.t rfl))<|.n (op_extract (.t rfl) rfl)<|.n (op_extract (.t rfl) rfl)<|.n (op_extract (.t rfl) rfl)<|.n (zB (.t rfl))<|.n (zB (.t rfl))<|.n (zB (.t rfl))<|.nil) ff rfl fun g2 => ⟨_, _, [0], rfl, (.k 2 rfl<|.k 4 rfl<|.k 5 rfl<|.k 6 rfl<|.nil), (.k 0 rfl<|.nil), ?_⟩)
 refine zC ?_
 refine zF ?_
 refine zF (zG [] (.n (zA (.t rfl))<|.n (op_cmp (by simp) (.t rfl) (.k rfl) rfl)<|.nil) ff rfl fun g3 => ⟨_, _, [0], rfl, (.k 2 rfl<|.k 4 rfl<|.k 5 rfl<|.k 6 rfl<|.k 16 rfl<|.nil), (.k 0 rfl<|.nil), ?_⟩)
 refine zC ?_
 refine zH (zK (.t rfl)) (fun h1 => ?_) (fun h1 => ?_)
 ·try simp only [cmpB, Z] at h1
  exact absurd h1 (by omega)
 ·try simp only [cmpB, Z] at h1
  refine J_skip ?_
  refine zC ?_
  refine zF ?_
  refine zF (zG [] (.n (zA (.t rfl))<|.n (op_cmp (by simp) (.t rfl) (.k rfl) rfl)<|.nil) ff rfl fun g4 => ⟨_, _, [0], rfl, (.k 2 rfl<|.k 4 rfl<|.k 5 rfl<|.k 6 rfl<|.k 19 rfl<|.nil), (.k 0 rfl<|.nil), ?_⟩)
  refine zC ?_
  refine zH (zK (.t rfl)) (fun h2 => ?_) (fun h2 => ?_)
  ·try simp only [cmpB, Z] at h2
   have hpp := (mgn_1 (x := x) (by omega)).2
   have hpl : IntKind.i64.wrap ((expo x : Int) - 1 - 1074) = plc x := by rw [← hpp]; exact zO (by omega) (by omega)
   have hmg : mgn x = mgn x := rfl
   refine zF (zG [] (.n (zA (.t rfl))<|.n (op_add (.t rfl) (.k rfl) (mgn_big (by omega)))<|.n (zB (.t rfl))<|.nil) ff rfl fun g5 => ⟨_, _, [0], rfl, (.k 2 rfl<|.k 4 rfl<|.k 5 rfl<|.k 6 rfl<|.nil), (.k 0 rfl<|.nil), ?_⟩)
   refine zC ?_
   refine (zG [] (.n (zA (.t rfl))<|.n (op_sub (.t rfl) (.k rfl) (zO (by omega) (by omega)))<|.n (zB (.t rfl))<|.nil) ff rfl fun g6 => ⟨_, _, [0], rfl, (.k 2 rfl<|.k 4 rfl<|.k 5 rfl<|.k 6 rfl<|.nil), (.k 0 rfl<|.nil), ?_⟩)
   refine zC ?_
   refine zF (zG [] (.n (zA (.t rfl))<|.n (zA (.t rfl))<|.n (op_sub (.t rfl) (.k rfl) hpl)<|.n (zP (odd_ok (by omega) (by omega) (by omega)) ⟨(.t rfl), (.t rfl),  trivial⟩)<|.n (zA (.t rfl))<|.n (op_extract (.t rfl) rfl)<|.n (op_extract (.t rfl) rfl)<|.n (zB (.t rfl))<|.n (zB (.t rfl))<|.nil) ff rfl fun g7 => ⟨_, _, [0], rfl, (.k 2 rfl<|.k 4 rfl<|.k 7 rfl<|.k 8 rfl<|.nil), (.k 0 rfl<|.nil), ?_⟩)
   refine zC ?_
   refine zF (zG [] (.n (zA (.t rfl))<|.n (zA (.t rfl))<|.n (zA (.t rfl))<|.n (op_build zr120 rfl pl120 (.cons rfl (.t rfl) co_isv rfl (puts_l rfl (Nat.le_of_ble_eq_true rfl)) (.cons rfl (.t rfl) co_isv rfl (puts_l rfl (Nat.le_of_ble_eq_true rfl)) (.cons rfl (.t rfl) co_isv rfl (puts_l rfl (Nat.le_of_ble_eq_true rfl)) .nil))))<|.w 0 (op_store_b 0 (.t rfl) (.t rfl) co_agg sz120 rfl rfl rfl)<|.n (zB (.k rfl))<|.nil) ff rfl fun g8 => ⟨_, _, [0], rfl, (.k 2 rfl<|.k 3 rfl<|.nil), (.k 0 rfl<|.nil), ?_⟩)
   refine zC ?_
   refine J_ret ?_
   refine zQ (.cons (.ag 0 (.t rfl) ag120 rfl rfl rfl)<|.cons (.tmp (.t rfl))<|.nil) (zM (sb_res (.cons zL<|.cons zL<|.nil)) ?_)
   first | exact zL | exact sb_eq (by rw [hmg])
  ·try simp only [cmpB, Z] at h2
   obtain ⟨hmg, hpp⟩ := mgn_0 (x := x) (by omega)
   have hpl : IntKind.i64.wrap ((expo x : Int) - 1074) = plc x := by rw [hpp, show (expo x : Int) = 0 by omega]; exact zO (by omega) (by omega)
   refine J_skip ?_
   refine zC ?_
   refine zF (zG [] (.n (zA (.t rfl))<|.n (zA (.t rfl))<|.n (op_sub (.t rfl) (.k rfl) hpl)<|.n (zP (odd_ok (by omega) (by omega) (by omega)) ⟨(.t rfl), (.t rfl),  trivial⟩)<|.n (zA (.t rfl))<|.n (op_extract (.t rfl) rfl)<|.n (op_extract (.t rfl) rfl)<|.n (zB (.t rfl))<|.n (zB (.t rfl))<|.nil) ff rfl fun g9 => ⟨_, _, [0], rfl, (.k 2 rfl<|.k 4 rfl<|.k 7 rfl<|.k 8 rfl<|.nil), (.k 0 rfl<|.nil), ?_⟩)
   refine zC ?_
   refine zF (zG [] (.n (zA (.t rfl))<|.n (zA (.t rfl))<|.n (zA (.t rfl))<|.n (op_build zr120 rfl pl120 (.cons rfl (.t rfl) co_isv rfl (puts_l rfl (Nat.le_of_ble_eq_true rfl)) (.cons rfl (.t rfl) co_isv rfl (puts_l rfl (Nat.le_of_ble_eq_true rfl)) (.cons rfl (.t rfl) co_isv rfl (puts_l rfl (Nat.le_of_ble_eq_true rfl)) .nil))))<|.w 0 (op_store_b 0 (.t rfl) (.t rfl) co_agg sz120 rfl rfl rfl)<|.n (zB (.k rfl))<|.nil) ff rfl fun g10 => ⟨_, _, [0], rfl, (.k 2 rfl<|.k 3 rfl<|.nil), (.k 0 rfl<|.nil), ?_⟩)
   refine zC ?_
   refine J_ret ?_
   refine zQ (.cons (.ag 0 (.t rfl) ag120 rfl rfl rfl)<|.cons (.tmp (.t rfl))<|.nil) (zM (sb_res (.cons zL<|.cons zL<|.nil)) ?_)
   first | exact zL | exact sb_eq (by rw [hmg])
theorem xof_ok {x : Nat} (hf : finB x = true) : Ct Tryz.prog 57 [flp x] (exaP (ofX x)) := by
 refine Ct.of Tryz.func57 rfl (by kernel_rfl) rfl fun c0 => ?_
 have hml := mgn_lt x
 have hol := oddM_le (mgn x)
 refine J_to (To.emps 1) ?_
 refine zF (zG [] (.w 0 (op_alloc 0 zr100 rfl rfl)<|.nil) ff rfl fun g1 => ⟨_, _, [0], rfl, (.k 0 rfl<|.k 2 rfl<|.nil), (.k 0 rfl<|.nil), ?_⟩)
 refine zC ?_
 refine J_to (To.emps 1) ?_
 refine zF (zG [] (.n (zA (.t rfl))<|.n (zP (rparts_ok hf) ⟨(.t rfl),  trivial⟩)<|.n (zA (.t rfl))<|.n (op_extract (.t rfl) rfl)<|.n (op_extract (.t rfl) rfl)<|.w 1 (op_alloc 1 zr120 rfl rfl)<|.w 1 (op_store_new 1 rfl (.t rfl) co_agg sz120 rfl rfl)<|.n (zB (.t rfl))<|.nil) ff rfl fun g2 => ⟨_, _, [0, 1], rfl, (.k 2 rfl<|.k 3 rfl<|.nil), (.k 0 rfl<|.k 1 rfl<|.nil), ?_⟩)
 refine zC ?_
 refine J_to (To.emps 1) ?_
 refine zF (zG [] (.w 2 (op_alloc 2 zr88 rfl rfl)<|.n (zI fd120_1 (.t rfl) rfl)<|.r 1 (zN 1 sc37 (.t rfl) rfl zJ rfl)<|.w 2 (op_callMp 2 rfl rfl (fun u => isetu_ok (by omega)) rfl ⟨(.t rfl),  trivial⟩)<|.n (op_assign_ve rfl rfl)<|.nil) ff rfl fun g3 => ⟨_, _, [0, 1, 2], rfl, (.k 2 rfl<|.k 3 rfl<|.k 5 rfl<|.nil), (.k 0 rfl<|.k 1 rfl<|.k 2 rfl<|.nil), ?_⟩)
 refine zC ?_
 refine zF ?_
 refine zF (zG [] (.n (zI fd120_0 (.t rfl) rfl)<|.r 1 (zN 1 sc4 (.t rfl) rfl zJ rfl)<|.nil) ff rfl fun g4 => ⟨_, _, [0, 1, 2], rfl, (.k 2 rfl<|.k 3 rfl<|.k 5 rfl<|.k 16 rfl<|.nil), (.k 0 rfl<|.k 1 rfl<|.k 2 rfl<|.nil), ?_⟩)
 refine zC ?_
 refine zH (zK (.t rfl)) (fun h1 => ?_) (fun h1 => ?_)
 ·try simp only [cmpB, Z] at h1
  refine (zG [] (.n (zA (.t rfl))<|.n (zA (.t rfl))<|.w 2 (op_callM 2 (ineg2_ok (sml_of (by omega))) ⟨(.t rfl), (.t rfl),  trivial⟩ rfl)<|.nil) ff rfl fun g5 => ⟨_, _, [0, 1, 2], rfl, (.k 2 rfl<|.k 3 rfl<|.k 5 rfl<|.nil), (.k 0 rfl<|.k 1 rfl<|.k 2 rfl<|.nil), ?_⟩)
  refine zC ?_
  refine zF (zG [] (.n (zA (.t rfl))<|.n (zI fd120_2 (.t rfl) rfl)<|.r 1 (zN 1 sc3 (.t rfl) rfl zJ rfl)<|.n (op_build zr100 rfl pl100 (.cons rfl (.t rfl) co_ipo rfl (puts_l rfl (Nat.le_of_ble_eq_true rfl)) (.cons rfl (.t rfl) co_isv rfl (puts_l rfl (Nat.le_of_ble_eq_true rfl)) .nil)))<|.w 0 (op_store_b 0 (.t rfl) (.t rfl) co_agg sz100 rfl rfl rfl)<|.nil) ff rfl fun g6 => ⟨_, _, [0, 2], rfl, (.k 2 rfl<|.nil), (.k 0 rfl<|.k 2 rfl<|.nil), ?_⟩)
  refine zC ?_
  refine J_ret ?_
  refine JN_to (To.freeze 1 (fun _ h => h) rfl frz_blk rfl) ?_
  refine zQ (.cons (.ag 0 (.t rfl) ag100 rfl rfl rfl)<|.nil) (zM (sb_res1 (sb_agg (.cons (sb_ok 0 2 rfl rfl)<|.cons zL<|.nil))) ?_)
  exact sb_eq (by unfold ofX; rw [if_pos (by simpa using h1)])
 ·try simp only [cmpB, Z] at h1
  refine J_skip ?_
  refine zC ?_
  refine zF (zG [] (.n (zA (.t rfl))<|.n (zI fd120_2 (.t rfl) rfl)<|.r 1 (zN 1 sc3 (.t rfl) rfl zJ rfl)<|.n (op_build zr100 rfl pl100 (.cons rfl (.t rfl) co_ipo rfl (puts_l rfl (Nat.le_of_ble_eq_true rfl)) (.cons rfl (.t rfl) co_isv rfl (puts_l rfl (Nat.le_of_ble_eq_true rfl)) .nil)))<|.w 0 (op_store_b 0 (.t rfl) (.t rfl) co_agg sz100 rfl rfl rfl)<|.nil) ff rfl fun g7 => ⟨_, _, [0, 2], rfl, (.k 2 rfl<|.nil), (.k 0 rfl<|.k 2 rfl<|.nil), ?_⟩)
  refine zC ?_
  refine J_ret ?_
  refine JN_to (To.freeze 1 (fun _ h => h) rfl frz_blk rfl) ?_
  refine zQ (.cons (.ag 0 (.t rfl) ag100 rfl rfl rfl)<|.nil) (zM (sb_res1 (sb_agg (.cons (sb_ok 0 2 rfl rfl)<|.cons zL<|.nil))) ?_)
  exact sb_eq (by unfold ofX; rw [if_neg (by simpa using h1)])
end Go.Proofs.YtjnmgcglooeooaaGreatDoor
