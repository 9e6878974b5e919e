/- Printed by a program of ours (walk.py): walks of numbers of two: sums, halves. -/
import Derived.Test.YtcpififnffmjfaaGreatDoorZsKb
import Derived.Test.YtcpififnffmjfaaGreatDoorProg
import Derived.KernelRfl
import Derived.Test.YtcpififnffmjfaaGreatDoorZsTypes
import Derived.Test.YtcpififnffmjfaaGreatDoorZsWAna
import Derived.Test.YtcpififnffmjfaaGreatDoorZsDyc
set_option linter.unusedVariables false
set_option linter.unusedSimpArgs false
set_option maxRecDepth 20000
set_option maxHeartbeats 4000000
namespace Go.Proofs.YtcpififnffmjfaaGreatDoor
open Go Go.Bn
attribute [local irreducible] OpOK
theorem dof_ok {x : Nat} (hf : finB x = true) : Ct Tryz.prog 22 [flp x] (exaPJ (ofX x)) := by
 refine Ct.of Tryz.func22 rfl (by kernel_rfl) rfl fun c0 => ?_
 have hml := mgn_lt x
 have hol := oddM_le (mgn x)
 refine J_to (To.emps 1) ?_
 refine zF (zG [] (.w 0 (op_alloc 0 zr57 rfl rfl)<|.nil) ff rfl fun g1 => ⟨_, _, [0], rfl, (.k 0 rfl<|.k 2 rfl<|.nil), (.k 0 rfl<|.nil), ?_⟩)
 refine zC ?_
 refine J_to (To.emps 1) ?_
 refine zF (zG [] (.n (zA (.t rfl))<|.n (zP (aparts_ok hf) ⟨(.t rfl),  trivial⟩)<|.n (zA (.t rfl))<|.n (op_extract (.t rfl) rfl)<|.n (op_extract (.t rfl) rfl)<|.w 1 (op_alloc 1 zr76 rfl rfl)<|.w 1 (op_store_new 1 rfl (.t rfl) co_agg sz76 rfl rfl)<|.n (zB (.t rfl))<|.nil) ff rfl fun g2 => ⟨_, _, [0, 1], rfl, (.k 2 rfl<|.k 3 rfl<|.nil), (.k 0 rfl<|.k 1 rfl<|.nil), ?_⟩)
 refine zC ?_
 refine J_to (To.emps 1) ?_
 refine zF (zG [] (.w 2 (op_alloc 2 zr55 rfl rfl)<|.n (zI fd76_1 (.t rfl) rfl)<|.r 1 (zN 1 sc38 (.t rfl) rfl zJ rfl)<|.w 2 (op_callMp 2 rfl rfl (fun u => isetu_ok (by omega)) rfl ⟨(.t rfl),  trivial⟩)<|.n (op_assign_ve rfl rfl)<|.nil) ff rfl fun g3 => ⟨_, _, [0, 1, 2], rfl, (.k 2 rfl<|.k 3 rfl<|.k 5 rfl<|.nil), (.k 0 rfl<|.k 1 rfl<|.k 2 rfl<|.nil), ?_⟩)
 refine zC ?_
 refine zF ?_
 refine zF (zG [] (.n (zI fd76_0 (.t rfl) rfl)<|.r 1 (zN 1 sc4 (.t rfl) rfl zJ rfl)<|.nil) ff rfl fun g4 => ⟨_, _, [0, 1, 2], rfl, (.k 2 rfl<|.k 3 rfl<|.k 5 rfl<|.k 16 rfl<|.nil), (.k 0 rfl<|.k 1 rfl<|.k 2 rfl<|.nil), ?_⟩)
 refine zC ?_
 refine zH (zK (.t rfl)) (fun h1 => ?_) (fun h1 => ?_)
 ·try simp only [cmpB, Z] at h1
  refine (zG [] (.n (zA (.t rfl))<|.n (zA (.t rfl))<|.w 2 (op_callM 2 (ineg2_ok (sml_ofJ (by omega))) ⟨(.t rfl), (.t rfl),  trivial⟩ rfl)<|.nil) ff rfl fun g5 => ⟨_, _, [0, 1, 2], rfl, (.k 2 rfl<|.k 3 rfl<|.k 5 rfl<|.nil), (.k 0 rfl<|.k 1 rfl<|.k 2 rfl<|.nil), ?_⟩)
  refine zC ?_
  refine zF (zG [] (.n (zA (.t rfl))<|.n (zI fd76_2 (.t rfl) rfl)<|.r 1 (zN 1 sc3 (.t rfl) rfl zJ rfl)<|.n (op_build zr57 rfl pl57 (.cons rfl (.t rfl) co_ipo rfl (puts_l rfl (Nat.le_of_ble_eq_true rfl)) (.cons rfl (.t rfl) co_isv rfl (puts_l rfl (Nat.le_of_ble_eq_true rfl)) .nil)))<|.w 0 (op_store_b 0 (.t rfl) (.t rfl) co_agg sz57 rfl rfl rfl)<|.nil) ff rfl fun g6 => ⟨_, _, [0, 2], rfl, (.k 2 rfl<|.nil), (.k 0 rfl<|.k 2 rfl<|.nil), ?_⟩)
  refine zC ?_
  refine J_ret ?_
  refine JN_to (To.freeze 1 (fun _ h => h) rfl frz_blk rfl) ?_
  refine zQ (.cons (.ag 0 (.t rfl) ag57 rfl rfl rfl)<|.nil) (zM (sb_res1 (sb_agg (.cons (sb_ok 0 2 rfl rfl)<|.cons zL<|.nil))) ?_)
  exact sb_eq (by unfold ofX; rw [if_pos (by simpa using h1)])
 ·try simp only [cmpB, Z] at h1
  refine J_skip ?_
  refine zC ?_
  refine zF (zG [] (.n (zA (.t rfl))<|.n (zI fd76_2 (.t rfl) rfl)<|.r 1 (zN 1 sc3 (.t rfl) rfl zJ rfl)<|.n (op_build zr57 rfl pl57 (.cons rfl (.t rfl) co_ipo rfl (puts_l rfl (Nat.le_of_ble_eq_true rfl)) (.cons rfl (.t rfl) co_isv rfl (puts_l rfl (Nat.le_of_ble_eq_true rfl)) .nil)))<|.w 0 (op_store_b 0 (.t rfl) (.t rfl) co_agg sz57 rfl rfl rfl)<|.nil) ff rfl fun g7 => ⟨_, _, [0, 2], rfl, (.k 2 rfl<|.nil), (.k 0 rfl<|.k 2 rfl<|.nil), ?_⟩)
  refine zC ?_
  refine J_ret ?_
  refine JN_to (To.freeze 1 (fun _ h => h) rfl frz_blk rfl) ?_
  refine zQ (.cons (.ag 0 (.t rfl) ag57 rfl rfl rfl)<|.nil) (zM (sb_res1 (sb_agg (.cons (sb_ok 0 2 rfl rfl)<|.cons zL<|.nil))) ?_)
  exact sb_eq (by unfold ofX; rw [if_neg (by simpa using h1)])
theorem dat_ok {x : Exa} {e : Int} (hx : DyB x) (h0 : e ≤ x.e) (h1 : -100000 ≤ e) : Ct Tryz.prog 51 [exaPJ x, isv (.int .i64 e)] (intPJ (x.m * 2 ^ (x.e - e).toNat)) := by
 refine Ct.of Tryz.func51 rfl (by kernel_rfl) rfl fun c0 => ?_
 have hx1 := hx.e1
 have hxm := hx.h
 refine J_to (To.emps 1) ?_
 refine zF (zG [] (.w 0 (op_box 0 (.t rfl) co_agg rfl)<|.n (zB (.k rfl))<|.nil) ff rfl fun g1 => ⟨_, _, [0], rfl, (.k 1 rfl<|.k 2 rfl<|.nil), (.k 0 rfl<|.nil), ?_⟩)
 refine zC ?_
 refine J_to (To.emps 1) ?_
 refine zF (zG [] (.w 1 (op_alloc 1 zr55 rfl rfl)<|.n (zI fd57_0 (.t rfl) rfl)<|.r 0 (zN 0 sc52 (.t rfl) rfl zJ rfl)<|.n (zI fd57_1 (.t rfl) rfl)<|.r 0 (zN 0 sc3 (.t rfl) rfl zJ rfl)<|.n (zA (.t rfl))<|.n (op_sub (.t rfl) (.t rfl) (zO (by omega) (by omega)))<|.n (op_conv_int it3 it98 (.t rfl) (show IntKind.u64.wrap (x.e - e) = (((x.e - e).toNat : Nat) : Int) by rw [wr64 (by omega) (by omega)]; omega))<|.w 1 (op_callMp 1 rfl rfl (fun u => ilsh_ok hxm (by omega)) rfl ⟨(.t rfl), (.t rfl),  trivial⟩)<|.n (op_assign_ve rfl rfl)<|.nil) ff rfl fun g2 => ⟨_, _, [1], rfl, (.k 4 rfl<|.nil), (.k 1 rfl<|.nil), ?_⟩)
 refine zC ?_
 refine J_ret ?_
 refine JN_to (To.freeze 0 (fun _ h => h) rfl frz_blk rfl) ?_
 refine zQ (.cons (.tmp (.t rfl))<|.nil) (zM (sb_res1 (sb_ok 0 2 rfl rfl)) ?_)
 exact zL
theorem dplus_ok {x y : Exa} (hx : DyB x) (hy : DyB y) (hl : DyL x y) : Ct Tryz.prog 21 [exaPJ x, exaPJ y] (exaPJ (dyAdd x y)) := by
 refine Ct.of Tryz.func21 rfl (by kernel_rfl) rfl fun c0 => ?_
 have hx0 := hx.e0
 have hx1 := hx.e1
 have hy0 := hy.e0
 have hy1 := hy.e1
 refine J_to (To.emps 3) ?_
 refine zF (zG [] (.w 0 (op_box 0 (.t rfl) co_agg rfl)<|.w 1 (op_box 1 (.t rfl) co_agg rfl)<|.w 2 (op_alloc 2 zr57 rfl rfl)<|.nil) ff rfl fun g1 => ⟨_, _, [0, 1, 2], rfl, (.k 2 rfl<|.k 3 rfl<|.k 4 rfl<|.nil), (.k 0 rfl<|.k 1 rfl<|.k 2 rfl<|.nil), ?_⟩)
 refine zC ?_
 refine zF ?_
 refine zT ?_
 refine zF (zG [] (.n (zI fd57_0 (.t rfl) rfl)<|.r 0 (zN 0 sc52 (.t rfl) rfl zJ rfl)<|.n (zP (isign_ok) ⟨(.t rfl),  trivial⟩)<|.n (op_cmp (by simp) (.t rfl) (.k rfl) rfl)<|.n (zB (.t rfl))<|.nil) ff rfl fun g2 => ⟨_, _, [0, 1, 2], rfl, (.k 2 rfl<|.k 3 rfl<|.k 4 rfl<|.k 6 rfl<|.nil), (.k 0 rfl<|.k 1 rfl<|.k 2 rfl<|.nil), ?_⟩)
 refine zC ?_
 refine zH (zK (.t rfl)) (fun h1 => ?_) (fun h1 => ?_)
 ·try simp only [cmpB, Z] at h1
  refine zF (zG [] (.r 1 (op_get_ag 1 ag57 (.t rfl) rfl zJ rfl rfl)<|.w 2 (op_store_b 2 (.t rfl) (.t rfl) co_agg sz57 rfl rfl rfl)<|.nil) ff rfl fun g3 => ⟨_, _, [2], rfl, (.k 4 rfl<|.nil), (.k 2 rfl<|.nil), ?_⟩)
  refine zC ?_
  refine J_ret ?_
  refine JN_block_ret ?_
  refine zD ?_
  refine zQ (.cons (.ag 0 (.t rfl) ag57 rfl rfl rfl)<|.nil) (zM (sb_res1 zL) ?_)
  exact sb_eq (by rw [dyAdd_1 (signI_zero.1 h1)])
 ·try simp only [cmpB, Z] at h1
  refine zF (zG [] (.n (zI fd57_0 (.t rfl) rfl)<|.r 1 (zN 1 sc52 (.t rfl) rfl zJ rfl)<|.n (zP (isign_ok) ⟨(.t rfl),  trivial⟩)<|.n (op_cmp (by simp) (.t rfl) (.k rfl) rfl)<|.n (zB (.t rfl))<|.nil) ff rfl fun g4 => ⟨_, _, [0, 1, 2], rfl, (.k 2 rfl<|.k 3 rfl<|.k 4 rfl<|.k 12 rfl<|.nil), (.k 0 rfl<|.k 1 rfl<|.k 2 rfl<|.nil), ?_⟩)
  refine zC ?_
  refine zH (zK (.t rfl)) (fun h2 => ?_) (fun h2 => ?_)
  ·try simp only [cmpB, Z] at h2
   refine zF (zG [] (.r 0 (op_get_ag 0 ag57 (.t rfl) rfl zJ rfl rfl)<|.w 2 (op_store_b 2 (.t rfl) (.t rfl) co_agg sz57 rfl rfl rfl)<|.nil) ff rfl fun g5 => ⟨_, _, [2], rfl, (.k 4 rfl<|.nil), (.k 2 rfl<|.nil), ?_⟩)
   refine zC ?_
   refine J_ret ?_
   refine JN_block_ret ?_
   refine zD ?_
   refine zQ (.cons (.ag 0 (.t rfl) ag57 rfl rfl rfl)<|.nil) (zM (sb_res1 zL) ?_)
   exact sb_eq (by rw [dyAdd_2 (fun e => h1 (signI_zero.2 e)) (signI_zero.1 h2)])
  ·try simp only [cmpB, Z] at h2
   refine J_skip ?_
   refine zR ?_
   refine zC ?_
   refine zF (zG [] (.n (zI fd57_1 (.t rfl) rfl)<|.r 0 (zN 0 sc3 (.t rfl) rfl zJ rfl)<|.n (zI fd57_1 (.t rfl) rfl)<|.r 1 (zN 1 sc3 (.t rfl) rfl zJ rfl)<|.n (op_imin (.t rfl) (.t rfl))<|.n (zB (.t rfl))<|.nil) ff rfl fun g6 => ⟨_, _, [0, 1, 2], rfl, (.k 2 rfl<|.k 3 rfl<|.k 4 rfl<|.k 5 rfl<|.nil), (.k 0 rfl<|.k 1 rfl<|.k 2 rfl<|.nil), ?_⟩)
   refine zC ?_
   refine J_to (To.emps 1) ?_
   refine zF (zG [[], [], [], [1, 2], [], [], [1, 2, 3, 4, 5], [0, 1, 2, 3, 4, 5, 6], [], [0, 1, 2, 3, 4, 5, 6, 7, 8], [0, 1, 2, 3, 4, 5, 6, 7, 8, 9]] (.w 3 (op_alloc 3 zr55 rfl rfl)<|.r 0 (op_get_ag 0 ag57 (.t rfl) rfl zJ rfl rfl)<|.n (zA (.t rfl))<|.n (zP (dat_ok hx (by omega) (by omega)) ⟨(.t rfl), (.t rfl),  trivial⟩)<|.r 1 (op_get_ag 1 ag57 (.t rfl) rfl zJ rfl rfl)<|.n (zA (.t rfl))<|.n (zP (dat_ok hy (by omega) (by omega)) ⟨(.t rfl), (.t rfl),  trivial⟩)<|.w 3 (op_callMp 3 rfl rfl (fun u => iadd_ok hl.hx hl.hy) rfl ⟨(.t rfl), (.t rfl),  trivial⟩)<|.n (zA (.t rfl))<|.n (op_ve 30 32 rfl rfl rfl (fun f => (op_build zr57 rfl pl57 (.cons rfl (.t rfl) co_ipo rfl (puts_l rfl (Nat.le_of_ble_eq_true rfl)) (.cons rfl (.t rfl) co_isv rfl (puts_l rfl (Nat.le_of_ble_eq_true rfl)) .nil)))) (fun f g h => by rw [h 30 (show 30 ∈ [30] from by decide)]) rfl)<|.w 2 (op_ver 32 rfl rfl (fun f => op_store_b 2 (.t rfl) (.t rfl) co_agg sz57 rfl rfl rfl) (fun f g h => by rw [h 30 (show 30 ∈ [30] from by decide)]) rfl)<|.nil) (fun _ => mixed) rfl fun g7 => ⟨_, _, [2, 3], rfl, (.k 4 rfl<|.nil), (.k 2 rfl<|.k 3 rfl<|.nil), ?_⟩)
   refine zC ?_
   refine J_ret ?_
   refine JN_to (To.freeze 1 (fun _ h => h) rfl frz_blk rfl) ?_
   refine zQ (.cons (.ag 0 (.t rfl) ag57 rfl rfl rfl)<|.nil) (zM (sb_res1 (sb_agg (.cons (sb_ok 0 2 rfl rfl)<|.cons zL<|.nil))) ?_)
   exact sb_eq (by rw [dyAdd_3 (fun e => h1 (signI_zero.2 e)) (fun e => h2 (signI_zero.2 e))])
theorem dhalf_ok {x : Exa} (hx : DyB x) : Ct Tryz.prog 55 [exaPJ x] (exaPJ (dyHalf x)) := by
 refine Ct.of Tryz.func55 rfl (by kernel_rfl) rfl fun c0 => ?_
 have hx0 := hx.e0
 have hx1 := hx.e1
 have hxm := hx.h
 have hl4 : (limbsJ x.m.natAbs).length ≤ 4000 := limbs_lenJ hxm.h
 obtain ⟨htl, _⟩ := tz_limJ hl4
 refine J_to (To.emps 2) ?_
 refine zF (zG [] (.w 0 (op_box 0 (.t rfl) co_agg rfl)<|.w 1 (op_alloc 1 zr57 rfl rfl)<|.nil) ff rfl fun g1 => ⟨_, _, [0, 1], rfl, (.k 1 rfl<|.k 2 rfl<|.nil), (.k 0 rfl<|.k 1 rfl<|.nil), ?_⟩)
 refine zC ?_
 refine J_to (To.emps 1) ?_
 refine zF (zG [[], [], [1], [0, 1, 2], [], [4], [0, 1, 2, 3], [0, 1, 2, 3, 4, 5, 6]] (.w 2 (op_alloc 2 zr55 rfl rfl)<|.n (zI fd57_0 (.t rfl) rfl)<|.r 0 (zN 0 sc52 (.t rfl) rfl zJ rfl)<|.w 2 (op_callMp 2 rfl rfl (fun u => iset_ok hxm) rfl ⟨(.t rfl),  trivial⟩)<|.n (zI fd57_1 (.t rfl) rfl)<|.r 0 (zN 0 sc3 (.t rfl) rfl zJ rfl)<|.n (op_assign_ve rfl rfl)<|.n (zB (.t rfl))<|.nil) (fun _ => mixed) rfl fun g2 => ⟨_, _, [1, 2], rfl, (.k 2 rfl<|.k 3 rfl<|.k 4 rfl<|.nil), (.k 1 rfl<|.k 2 rfl<|.nil), ?_⟩)
 refine zC ?_
 refine zF ?_
 refine zT ?_
 refine J_loopc (α := Nat) (fun n => HalfI x n) (fun n => 1 - n) (fun n restR => (4, isv (.int .i64 (halfN x n).e)) :: restR) (fun n restS => blk (g2 9) (intCJ (halfN x n).m) 55 :: restS) (ρc := [(2, _), (3, _)]) (σc := [_]) 0 (by exact half_i0) (To.pick (fun _ => .sub (t := 4) rfl (sp_eq (by rfl))<|.k 2 rfl<|.k 3 rfl<|.nil) (fun _ => .sub 1 rfl ((fun _ _ h => h))<|.k 0 rfl<|.nil) (ks := [1, 0]) rfl) (fun n hI => ?_)
 refine zF ?_
 refine zF (zG [] (.n (zA (.t rfl))<|.r 0 (op_callL 0 (isign_ok) (pure_isv _) ⟨.inr ⟨_, (.t rfl), lent_blk⟩,  trivial⟩ rfl)<|.n (op_cmp (by simp) (.t rfl) (.k rfl) rfl)<|.n (zA (.t rfl))<|.n (op_guard rfl rfl (gd_b rfl) (fun hC => (zA (.t rfl))))<|.r 0 (op_guard rfl rfl (gd_b rfl) (fun hC => (op_callL 0 (ibit_ok) (pure_isv _) ⟨.inr ⟨_, (.w rfl hC), lent_blk⟩, .inl (.k rfl),  trivial⟩ rfl)))<|.n (op_guard rfl rfl (gd_b rfl) (fun hC => (op_cmp (by simp) (.w rfl hC) (.k rfl) rfl)))<|.n (op_and (.t rfl) (fun h2 => (.w rfl h2)))<|.nil) ff rfl fun g3 => ⟨_, _, [0, 1], rfl, (.k 2 rfl<|.k 3 rfl<|.k 4 rfl<|.k 19 rfl<|.nil), (.k 0 rfl<|.k 1 rfl<|.nil), ?_⟩)
 refine zC ?_
 refine zH (zK (.t rfl)) (fun h1 => ?_) (fun h1 => ?_)
 ·try simp only [cmpB, Z] at h1
  obtain ⟨hn0, hnz⟩ := half_at (n := n) hI (by simpa [cmpB, signI_zero] using h1.1) (by have h9 := h1.2; simp [cmpB] at h9; omega)
  subst hn0
  have hx0e : (halfN x 0).e = x.e := rfl
  have hno := half_mod hnz
  refine J_skip ?_
  refine zC ?_
  refine zT ?_
  refine zF (zG [] (.n (zA (.t rfl))<|.r 0 (op_callL 0 (itzb_ok hxm) (pure_isv _) ⟨.inr ⟨_, (.t rfl), lent_blk⟩,  trivial⟩ rfl)<|.n (zB (.t rfl))<|.nil) ff rfl fun g4 => ⟨_, _, [0, 1], rfl, (.k 2 rfl<|.k 3 rfl<|.k 4 rfl<|.k 5 rfl<|.nil), (.k 0 rfl<|.k 1 rfl<|.nil), ?_⟩)
  refine zC ?_
  refine zF (zG [] (.n (zA (.t rfl))<|.n (zA (.t rfl))<|.n (zA (.t rfl))<|.w 0 (op_callM 0 (irsh2_ok hxm (by omega) (fun _ => hno)) ⟨(.t rfl), (.t rfl), (.t rfl),  trivial⟩ rfl)<|.nil) ff rfl fun g5 => ⟨_, _, [0, 1], rfl, (.k 2 rfl<|.k 3 rfl<|.k 4 rfl<|.k 5 rfl<|.nil), (.k 0 rfl<|.k 1 rfl<|.nil), ?_⟩)
  refine zC ?_
  refine (zG [] (.n (zA (.t rfl))<|.n (zA (.t rfl))<|.n (op_conv_int it98 it3 (.t rfl) (zO (by omega) (by omega)))<|.n (op_add (.t rfl) (.t rfl) (zO (by omega) (by omega)))<|.n (zB (.t rfl))<|.nil) ff rfl fun g6 => ⟨_, _, [0, 1], rfl, (.k 2 rfl<|.k 3 rfl<|.k 4 rfl<|.nil), (.k 0 rfl<|.k 1 rfl<|.nil), ?_⟩)
  refine zR ?_
  exact JN_again 1 (by exact ⟨Nat.le_refl _, fun _ => hnz⟩) (by omega) (To.pick (fun _ => .sub (t := 4) rfl (sp_eq (by exact congrArg (fun z => isv (.int .i64 z)) (show _ = (dyHalf x).e by unfold dyHalf; rw [if_neg hnz]; rfl)))<|.k 2 rfl<|.k 3 rfl<|.nil) (fun _ => .sub 0 rfl ((res_eq (show _ = blk _ (intCJ (dyHalf x).m) _ by unfold dyHalf; rw [if_neg hnz])))<|.k 1 rfl<|.nil) (ks := [0, 1]) rfl)
 ·try simp only [cmpB, Z] at h1
  have hend := half_end (n := n) hI (by first | (rcases h1 with h9 | h9; exact .inl (by simpa [cmpB, signI_zero] using h9); exact .inr (by simp [cmpB] at h9; omega)))
  refine J_exit ?_
  refine zE ?_
  refine zE ?_
  refine zS ?_
  refine zC ?_
  refine zF (zG [] (.n (zA (.t rfl))<|.n (zA (.t rfl))<|.n (op_build zr57 rfl pl57 (.cons rfl (.t rfl) co_ipo rfl (puts_l rfl (Nat.le_of_ble_eq_true rfl)) (.cons rfl (.t rfl) co_isv rfl (puts_l rfl (Nat.le_of_ble_eq_true rfl)) .nil)))<|.w 1 (op_store_b 1 (.t rfl) (.t rfl) co_agg sz57 rfl rfl rfl)<|.nil) ff rfl fun g7 => ⟨_, _, [0, 1], rfl, (.k 2 rfl<|.nil), (.k 0 rfl<|.k 1 rfl<|.nil), ?_⟩)
  refine zC ?_
  refine J_ret ?_
  refine JN_to (To.freeze 0 (fun _ h => h) rfl frz_blk rfl) ?_
  refine zQ (.cons (.ag 1 (.t rfl) ag57 rfl rfl rfl)<|.nil) (zM (sb_res1 (sb_agg (.cons (sb_ok 0 2 rfl rfl)<|.cons zL<|.nil))) ?_)
  exact sb_eq (by rw [hend])
theorem dput_ok {x : Exa} (hx : DyB x) (hb : bl (dyHalf x).m.natAbs ≤ 65536) (h0 : -100000 ≤ (dyHalf x).e) (h1 : (dyHalf x).e ≤ 100000) : Ct Tryz.prog 23 [exaPJ x] (tupp [dyP x, isv (.int .i64 0)]) := by
 refine Ct.of Tryz.func23 rfl (by kernel_rfl) rfl fun c0 => ?_
 have hbm : SmlJ (dyHalf x).m := bl_sml hb
 refine J_to (To.emps 2) ?_
 refine zF (zG [] (.w 0 (op_box 0 (.t rfl) co_agg rfl)<|.w 1 (op_alloc 1 zr31 rfl rfl)<|.n (zB (.k rfl))<|.nil) ff rfl fun g1 => ⟨_, _, [0, 1], rfl, (.k 1 rfl<|.k 2 rfl<|.nil), (.k 0 rfl<|.k 1 rfl<|.nil), ?_⟩)
 refine zC ?_
 refine zF (zG [] (.r 0 (op_get_ag 0 ag57 (.t rfl) rfl zJ rfl rfl)<|.n (zP (dhalf_ok hx) ⟨(.t rfl),  trivial⟩)<|.w 0 (op_store_b 0 (.t rfl) (.t rfl) co_agg sz57 rfl rfl rfl)<|.nil) ff rfl fun g2 => ⟨_, _, [0, 1], rfl, (.k 1 rfl<|.k 2 rfl<|.nil), (.k 0 rfl<|.k 1 rfl<|.nil), ?_⟩)
 refine zC ?_
 refine zF ?_
 refine zF (zG [] (.n (zI fd57_0 (.t rfl) rfl)<|.r 0 (zN 0 sc52 (.t rfl) rfl zJ rfl)<|.n (zP (isign_ok) ⟨(.t rfl),  trivial⟩)<|.n (op_cmp (by simp) (.t rfl) (.k rfl) rfl)<|.nil) ff rfl fun g3 => ⟨_, _, [0, 1], rfl, (.k 1 rfl<|.k 2 rfl<|.k 12 rfl<|.nil), (.k 0 rfl<|.k 1 rfl<|.nil), ?_⟩)
 refine zC ?_
 refine zH (zK (.t rfl)) (fun h1 => ?_) (fun h1 => ?_)
 ·try simp only [cmpB, Z] at h1
  refine zF (zG [] (.n (op_build zr31 rfl pl31 .nil)<|.w 1 (op_store_b 1 (.t rfl) (.t rfl) co_agg sz31 rfl rfl rfl)<|.n (zB (.k rfl))<|.nil) ff rfl fun g4 => ⟨_, _, [1], rfl, (.k 2 rfl<|.k 3 rfl<|.nil), (.k 1 rfl<|.nil), ?_⟩)
  refine zC ?_
  refine J_ret ?_
  refine zD ?_
  refine zQ (.cons (.ag 0 (.t rfl) ag31 rfl rfl rfl)<|.cons (.tmp (.t rfl))<|.nil) (zM (sb_res (.cons (sb_agg (.cons zL<|.cons (sb_nil (mk := inp .u32))<|.cons zL<|.nil))<|.cons zL<|.nil)) ?_)
  exact sb_eq (by rw [← dyP_0 (signI_zero.1 h1)])
 ·try simp only [cmpB, Z] at h1
  have hz0 : ¬ (dyHalf x).m = 0 := fun e => h1 (signI_zero.2 e)
  refine J_skip ?_
  refine zC ?_
  refine zF ?_
  refine zF (zG [] (.n (zI fd57_0 (.t rfl) rfl)<|.r 0 (zN 0 sc52 (.t rfl) rfl zJ rfl)<|.n (zP (ibl_ok hbm) ⟨(.t rfl),  trivial⟩)<|.n (op_cmp (by simp) (.t rfl) (.k rfl) rfl)<|.n (zA (.t rfl))<|.n (op_guard rfl rfl (gd_b rfl) (fun hC => (zI fd57_1 (.t rfl) rfl)))<|.r 0 (op_guard rfl rfl (gd_b rfl) (fun hC => (zN 0 sc3 (.w rfl hC) rfl zJ rfl)))<|.n (op_guard rfl rfl (gd_b rfl) (fun hC => (op_cmp (by simp) (.w rfl hC) (.k rfl) rfl)))<|.n (op_or (.t rfl) (fun h2 => (.w rfl h2)))<|.n (zA (.t rfl))<|.n (op_guard rfl rfl (gd_b rfl) (fun hC => (zI fd57_1 (.t rfl) rfl)))<|.r 0 (op_guard rfl rfl (gd_b rfl) (fun hC => (zN 0 sc3 (.w rfl hC) rfl zJ rfl)))<|.n (op_guard rfl rfl (gd_b rfl) (fun hC => (op_cmp (by simp) (.w rfl hC) (.k rfl) rfl)))<|.n (op_or (.t rfl) (fun h2 => (.w rfl h2)))<|.nil) ff rfl fun g5 => ⟨_, _, [0, 1], rfl, (.k 1 rfl<|.k 2 rfl<|.k 27 rfl<|.nil), (.k 0 rfl<|.k 1 rfl<|.nil), ?_⟩)
  refine zC ?_
  refine zH (zK (.t rfl)) (fun h2 => ?_) (fun h2 => ?_)
  ·try simp only [cmpB, Z] at h2
   exact absurd h2 (by omega)
  ·try simp only [cmpB, Z] at h2
   refine J_skip ?_
   refine zC ?_
   refine J_to (To.emps 1) ?_
   refine zF (zG [[], [0], [0, 1], [0, 1, 2], [], [4], [0, 1, 2, 3, 4, 5], [], [0, 1, 2, 3, 4, 5, 6, 7]] (.n (zI fd57_0 (.t rfl) rfl)<|.r 0 (zN 0 sc52 (.t rfl) rfl zJ rfl)<|.n (zP (isign_ok) ⟨(.t rfl),  trivial⟩)<|.n (op_cmp (by simp) (.t rfl) (.k rfl) rfl)<|.n (zI fd57_1 (.t rfl) rfl)<|.r 0 (zN 0 sc3 (.t rfl) rfl zJ rfl)<|.n (op_build zr31 rfl pl31 (.cons rfl (.t rfl) co_isv rfl (puts_l rfl (Nat.le_of_ble_eq_true rfl)) (.cons rfl (.t rfl) co_isv rfl (puts_l rfl (Nat.le_of_ble_eq_true rfl)) .nil)))<|.w 2 (op_alloc 2 zr31 rfl rfl)<|.w 2 (op_store_new 2 rfl (.t rfl) co_agg sz31 rfl rfl)<|.nil) (fun _ => mixed) rfl fun g6 => ⟨_, _, [0, 1, 2], rfl, (.k 1 rfl<|.k 2 rfl<|.k 4 rfl<|.nil), (.k 0 rfl<|.k 1 rfl<|.k 2 rfl<|.nil), ?_⟩)
   refine zC ?_
   refine zF (zG [] (.n (zP (newint_ok (n := 4294967295) (by omega)) ⟨(.k rfl),  trivial⟩)<|.n (zB (.t rfl))<|.nil) ff rfl fun g7 => ⟨_, _, [0, 1, 2], rfl, (.k 1 rfl<|.k 2 rfl<|.k 4 rfl<|.k 5 rfl<|.nil), (.k 0 rfl<|.k 1 rfl<|.k 2 rfl<|.nil), ?_⟩)
   refine zC ?_
   refine zF ?_
   refine J_to (To.emps 1) ?_
   refine J_to (To.res 3 (r' := som (.slice none 0 0) (inp .u32) [] 78) rfl som_nil rfl) ?_
   refine J_to (To.emps 1) ?_
   refine zF (zG [] (.w 4 (op_alloc 4 zr55 rfl rfl)<|.n (zI fd57_0 (.t rfl) rfl)<|.r 0 (zN 0 sc52 (.t rfl) rfl zJ rfl)<|.w 4 (op_callMp 4 rfl rfl (fun u => iabs_ok hbm) rfl ⟨(.t rfl),  trivial⟩)<|.n (op_assign_ve rfl rfl)<|.nil) ff rfl fun g8 => ⟨_, _, [1, 2, 3, 4], rfl, (.k 2 rfl<|.k 4 rfl<|.k 5 rfl<|.k 6 rfl<|.nil), (.k 1 rfl<|.k 2 rfl<|.k 3 rfl<|.k 4 rfl<|.nil), ?_⟩)
   refine zC ?_
   refine zT ?_
   refine J_loopc (α := Nat × Value × List Int) (fun y => y.2.2 ++ limbs y.1 = limbs (dyHalf x).m.natAbs ∧ y.1 ≤ (dyHalf x).m.natAbs) (fun y => y.1) (fun y restR => restR) (fun y restS => blk (g8 40) (intCJ ((y.1 : Nat) : Int)) 55 :: blk (g6 4) [isv (.bool (cmpB .lss (signI (dyHalf x).m) 0)), isv y.2.1, isv (.int .i64 (dyHalf x).e)] 31 :: som y.2.1 (inp .u32) y.2.2 78 :: restS) (ρc := [(2, _), (4, _), (5, _), (6, _)]) (σc := [_]) ((dyHalf x).m.natAbs, .slice none 0 0, []) (by exact ⟨rfl, Nat.le_refl _⟩) (To.pick (fun _ => .k 2 rfl<|.k 4 rfl<|.k 5 rfl<|.k 6 rfl<|.nil) (fun _ => .sub 3 rfl ((fun _ _ h => h))<|.sub 1 rfl ((fun _ _ h => h))<|.sub 2 rfl ((fun _ _ h => h))<|.k 0 rfl<|.nil) (ks := [3, 1, 2, 0]) rfl) (fun y hI => ?_)
   obtain ⟨r, sv, L⟩ := y
   try simp only at hI
   show J _ _ (_) (blk (g8 40) (intCJ ((r : Nat) : Int)) 55 :: blk (g6 4) [isv (.bool (cmpB .lss (signI (dyHalf x).m) 0)), isv sv, isv (.int .i64 (dyHalf x).e)] 31 :: som sv (inp .u32) L 78 :: _) _ _
   have hrm : SmlJ (r : Int) := sml_leJ hI.2 ⟨by rw [Int.natAbs_natCast]; exact hbm.h⟩
   refine zF ?_
   refine zF (zG [] (.n (zA (.t rfl))<|.r 0 (op_callL 0 (isign_ok) (pure_isv _) ⟨.inr ⟨_, (.t rfl), lent_blk⟩,  trivial⟩ rfl)<|.n (op_cmp (by simp) (.t rfl) (.k rfl) rfl)<|.nil) ff rfl fun g9 => ⟨_, _, [0, 1, 2, 3], rfl, (.k 2 rfl<|.k 4 rfl<|.k 5 rfl<|.k 6 rfl<|.k 43 rfl<|.nil), (.k 0 rfl<|.k 1 rfl<|.k 2 rfl<|.k 3 rfl<|.nil), ?_⟩)
   refine zC ?_
   refine zH (zK (.t rfl)) (fun h3 => ?_) (fun h3 => ?_)
   ·try simp only [cmpB, Z] at h3
    have hr0 : r ≠ 0 := fun e => h3 (signI_zero.2 (by rw [e]; rfl))
    have hLl := words_lim hI.1 hb
    refine J_skip ?_
    refine zC ?_
    refine zF ?_
    refine zT ?_
    refine J_to (To.emps 1) ?_
    refine (zG [[], [0], [], [], [], [2, 3, 4], [2, 3, 4, 5], [2, 3, 4, 5, 6], [2, 3, 4, 5, 6, 7], [0, 1, 2, 3, 4, 5, 6, 7, 8], [0, 1, 2, 3, 4, 5, 6, 7, 8, 9], [0, 1, 2, 3, 4, 5, 6, 7, 8, 9, 10]] (.n (zI fd31_1 (.t rfl) rfl)<|.r 1 (zN 1 sc29 (.t rfl) rfl zJ rfl)<|.w 0 (op_alloc_sep 0 zr55 rfl rfl)<|.n (zA (.t rfl))<|.n (zA (.t rfl))<|.w 0 (op_callSF 0 rfl rfl (fun u => CtM.oneI (iand_ok hrm (sml_ofJ (by decide))) (.inr lent_blk) (.inl rfl)) rfl ⟨(.t rfl), (.t rfl), trivial⟩)<|.n (zP (iu64_ok) ⟨(.t rfl),  trivial⟩)<|.n (op_conv_int it38 it78 (.t rfl) (low_word r))<|.n (op_buildSlice sl29 zr78 rfl rfl rfl rfl (.cons rfl (.t rfl) co_isv rfl (puts_l rfl (Nat.le_of_ble_eq_true rfl)) .nil))<|.w 2 (op_append_m (mk := inp .u32) 2 sl29 zr78 rfl (.t rfl) (.t rfl) rfl (by omega) (by omega))<|.n (zI fd31_1 (.t rfl) rfl)<|.w 1 (op_store_sl 1 (.t rfl) rfl sz29 rfl rfl)<|.nil) (fun _ => mixed) rfl fun g10 => ⟨_, _, [0, 1, 2, 3], rfl, (.k 2 rfl<|.k 4 rfl<|.k 5 rfl<|.k 6 rfl<|.nil), (.k 0 rfl<|.k 1 rfl<|.k 2 rfl<|.k 3 rfl<|.nil), ?_⟩)
    refine zR ?_
    refine zC ?_
    refine (zG [] (.n (zA (.t rfl))<|.n (zA (.t rfl))<|.w 0 (op_callM 0 (irsh2_ok (n := 32) hrm (by omega) (fun h => absurd h (by omega))) ⟨(.t rfl), (.t rfl), (.k rfl),  trivial⟩ rfl)<|.nil) ff rfl fun g11 => ⟨_, _, [0, 1, 2, 3], rfl, (.k 2 rfl<|.k 4 rfl<|.k 5 rfl<|.k 6 rfl<|.nil), (.k 0 rfl<|.k 1 rfl<|.k 2 rfl<|.k 3 rfl<|.nil), ?_⟩)
    exact JN_again (r / 4294967296, (g10 56), L ++ [((r % 4294967296 : Nat) : Int)]) (by exact ⟨words_step hI.1 hr0, Nat.le_trans (Nat.div_le_self _ _) hI.2⟩) (by exact Nat.div_lt_self (by omega) (by decide)) (To.pick (fun _ => .k 2 rfl<|.k 4 rfl<|.k 5 rfl<|.k 6 rfl<|.nil) (fun _ => .sub 0 rfl ((res_eq (by rw [rsh_nat])))<|.sub 1 rfl ((fun _ _ h => h))<|.sub 2 rfl ((fun _ _ h => h))<|.k 3 rfl<|.nil) (ks := [0, 1, 2, 3]) rfl)
   ·try simp only [cmpB, Z] at h3
    have hr0 : r = 0 := by have h9 := signI_zero.1 h3; omega
    refine J_exit ?_
    refine zE ?_
    refine zE ?_
    refine zS ?_
    refine zC ?_
    refine zF (zG [] (.r 1 (op_get_ag 1 ag31 (.t rfl) rfl zJ rfl rfl)<|.w 3 (op_store_b 3 (.t rfl) (.t rfl) co_agg sz31 rfl rfl rfl)<|.n (zB (.k rfl))<|.nil) ff rfl fun g12 => ⟨_, _, [0, 1, 2, 3], rfl, (.k 2 rfl<|.k 3 rfl<|.nil), (.k 0 rfl<|.k 1 rfl<|.k 2 rfl<|.k 3 rfl<|.nil), ?_⟩)
    refine zC ?_
    refine J_ret ?_
    refine JN_to (To.freeze 2 (fun _ h => h) rfl frz_som rfl) ?_
    refine zQ (.cons (.ag 3 (.t rfl) ag31 rfl rfl rfl)<|.cons (.tmp (.t rfl))<|.nil) (zM (sb_res (.cons (sb_agg (.cons zL<|.cons (sb_fk 0 rfl)<|.cons zL<|.nil))<|.cons zL<|.nil)) ?_)
    exact sb_eq (by rw [← dyP_1 hz0 hI.1 hr0])
end Go.Proofs.YtcpififnffmjfaaGreatDoor
