/- Printed by a program of ours (walk.py): walks of numbers of two: taken in. -/
import Derived.Test.YtcpififnffmjfaaGreatDoorZsKb
import Derived.Test.YtcpififnffmjfaaGreatDoorProg
import Derived.KernelRfl
import Derived.Test.YtcpififnffmjfaaGreatDoorZsTypes
import Derived.Test.YtcpififnffmjfaaGreatDoorZsWDyb
import Derived.Test.YtcpififnffmjfaaGreatDoorZsDyc
set_option linter.unusedVariables false
set_option linter.unusedSimpArgs false
set_option maxRecDepth 20000
set_option maxHeartbeats 4000000
namespace Go.Proofs.YtcpififnffmjfaaGreatDoor
open Go Go.Bn
attribute [local irreducible] OpOK
theorem ior2_ok {u : Value} {x y : Int} (hx : SmlJ x) (hy : SmlJ y) : CtM Tryz.prog 64 [ipo u 0, ipo u 0, intPJ y] (blk u (intCJ (x)) 55) (ipo u 0) (blk u (intCJ (((x.natAbs ||| y.natAbs : Nat) : Int))) 55) := by
 refine CtM.of Tryz.func64 rfl (by kernel_rfl) rfl (fix_blk) fun c0 ob hr0 => ?_
 have lx := sml_lenJ hx
 have ly := sml_lenJ hy
 have hdx := limbs_digJ x.natAbs
 have hdy := limbs_digJ y.natAbs
 have hTl := orLJ_len (limbsJ x.natAbs) (limbsJ y.natAbs)
 have hrl : ((List.replicate (max ((limbsJ x.natAbs).length : Int) ((limbsJ y.natAbs).length : Int)).toNat (0 : Int)).length : Int) = max ((limbsJ x.natAbs).length : Int) ((limbsJ y.natAbs).length : Int) := by rw [List.length_replicate]; omega
 refine zF (zG [] (.n (zB (.k rfl))<|.nil) ff rfl fun g1 => ⟨_, _, [0], rfl, (.k 0 rfl<|.k 1 rfl<|.k 2 rfl<|.nil), (.k 0 rfl<|.nil), ?_⟩)
 refine zC ?_
 refine J_to (To.emps 1) ?_
 refine zF (zG [[], [0], [0, 1], [0, 1, 2], [0, 1, 2, 3], [], [5], [5, 6], [5, 6, 7], [5, 6, 7, 8], [0, 1, 2, 3, 4, 5, 6, 7, 8, 9], [0, 1, 2, 3, 4, 5, 6, 7, 8, 9, 10], [0, 1, 2, 3, 4, 5, 6, 7, 8, 9, 10, 11]] (.n (zA (.t rfl))<|.n (op_nilo (.t rfl))<|.n (zI fd55_1 (.t rfl) rfl)<|.r 0 (zN 0 sc53 (.t rfl) rfl zJ rfl)<|.n (op_len_m sl53 (.t rfl))<|.n (zA (.t rfl))<|.n (op_nilp (.t rfl))<|.n (op_field_ptr fd55_1 (.t rfl) rfl)<|.n (op_load_sc sc53 (.t rfl) rfl)<|.n (op_len_m sl53 (.t rfl))<|.n (op_imax (.t rfl) (.t rfl))<|.w 1 (op_make_m (mk := inp .u64) 0 1 sl53 zr38 rfl (fun _ => ⟨rfl, rfl⟩) (.t rfl) (.t rfl) (by omega) (by omega) (by omega) (by omega) rfl)<|.n (op_assign_ve rfl rfl)<|.nil) (fun _ => mixed) rfl fun g2 => ⟨_, _, [0, 1], rfl, (.k 0 rfl<|.k 1 rfl<|.k 2 rfl<|.k 7 rfl<|.nil), (.k 0 rfl<|.k 1 rfl<|.nil), ?_⟩)
 refine zC ?_
 refine zF ?_
 refine zF (zG [] (.n (zA (.t rfl))<|.r 1 (op_len_som 1 sl53 (.t rfl) rfl)<|.n (zA (.k rfl))<|.nil) ff rfl fun g3 => ⟨_, _, [0, 1], rfl, (.k 0 rfl<|.k 1 rfl<|.k 2 rfl<|.k 7 rfl<|.k 22 rfl<|.k 23 rfl<|.nil), (.k 0 rfl<|.k 1 rfl<|.nil), ?_⟩)
 refine zC ?_
 refine zT ?_
 refine J_loopc (α := Nat) (fun k => k ≤ (orLJ (limbsJ x.natAbs) (limbsJ y.natAbs)).length) (fun k => (orLJ (limbsJ x.natAbs) (limbsJ y.natAbs)).length - k) (fun k restR => (23, isv (.int .i64 (k : Int))) :: restR) (fun k restS => som (g2 20) (inp .u64) (fillP (orLJ (limbsJ x.natAbs) (limbsJ y.natAbs)) k) 38 :: restS) (ρc := [(0, _), (1, _), (2, _), (7, _), (22, _)]) (σc := [_]) 0 (by exact Nat.zero_le _) (To.pick (fun _ => .sub (t := 23) rfl (sp_eq (by rfl))<|.k 0 rfl<|.k 1 rfl<|.k 2 rfl<|.k 7 rfl<|.k 22 rfl<|.nil) (fun _ => .sub 1 rfl ((res_eq (by rw [fill_zero]; exact congrArg (fun n => som _ _ (List.replicate n 0) _) (by omega))))<|.k 0 rfl<|.nil) (ks := [1, 0]) rfl) (fun k hI => ?_)
 refine zF (zG [] (.n (op_cmp (by simp) (.t rfl) (.t rfl) rfl)<|.nil) ff rfl fun g4 => ⟨_, _, [0, 1], rfl, (.k 0 rfl<|.k 1 rfl<|.k 2 rfl<|.k 7 rfl<|.k 22 rfl<|.k 23 rfl<|.k 24 rfl<|.nil), (.k 0 rfl<|.k 1 rfl<|.nil), ?_⟩)
 refine zC ?_
 refine zF ?_
 refine zH (zK (.t rfl)) (fun h1 => ?_) (fun h1 => ?_)
 ·try simp only [cmpB, Z] at h1
  have hfl := fill_len (T := orLJ (limbsJ x.natAbs) (limbsJ y.natAbs)) (i := k) (by omega)
  have hTa := orLJ_at (a := limbsJ x.natAbs) (b := limbsJ y.natAbs) (i := k) hdx hdy (by omega)
  have hTb := hTa.symm
  rw [← digB_eq (limbsJ x.natAbs), ← digB_eq (limbsJ y.natAbs)] at hTb
  refine J_skip ?_
  refine zC ?_
  refine zF ?_
  refine zT ?_
  refine zF (zG [] (.n (zA (.t rfl))<|.n (zB (.t rfl))<|.nil) ff rfl fun g5 => ⟨_, _, [0, 1], rfl, (.k 0 rfl<|.k 1 rfl<|.k 2 rfl<|.k 7 rfl<|.k 8 rfl<|.k 22 rfl<|.k 23 rfl<|.nil), (.k 0 rfl<|.k 1 rfl<|.nil), ?_⟩)
  refine zC ?_
  refine (zG [[], [], [], [2], [2, 3], [2, 3, 4], [], [2, 3, 4, 5, 6], [], [8], [8, 9], [8, 9, 10], [], [2, 3, 4, 5, 6, 7, 8, 9, 10, 11, 12], [2, 3, 4, 5, 6, 7, 8, 9, 10, 11, 12, 13], [0, 1, 2, 3, 4, 5, 6, 7, 8, 9, 10, 11, 12, 13, 14], [0, 1, 2, 3, 4, 5, 6, 7, 8, 9, 10, 11, 12, 13, 14, 15]] (.n (zA (.t rfl))<|.n (zA (.t rfl))<|.n (zA (.t rfl))<|.n (op_nilo (.t rfl))<|.n (zI fd55_1 (.t rfl) rfl)<|.r 1 (zN 1 sc53 (.t rfl) rfl zJ rfl)<|.n (zA (.t rfl))<|.n (zP (digit_ok) ⟨(.t rfl), (.t rfl),  trivial⟩)<|.n (zA (.t rfl))<|.n (op_nilp (.t rfl))<|.n (op_field_ptr fd55_1 (.t rfl) rfl)<|.n (op_load_sc sc53 (.t rfl) rfl)<|.n (zA (.t rfl))<|.n (zP (digit_ok) ⟨(.t rfl), (.t rfl),  trivial⟩)<|.n (op_bits (by simp) (.t rfl) (.t rfl) rfl)<|.r 0 (op_index_som 0 sl53 (.t rfl) (.t rfl) rfl (by omega) (by omega))<|.w 0 (op_store_som (mk := inp .u64) 0 (.t rfl) (.t rfl) co_inp sz38 rfl (by omega))<|.nil) (fun _ => mixed) rfl fun g6 => ⟨_, _, [0, 1], rfl, (.k 0 rfl<|.k 1 rfl<|.k 2 rfl<|.k 7 rfl<|.k 22 rfl<|.k 23 rfl<|.nil), (.k 0 rfl<|.k 1 rfl<|.nil), ?_⟩)
  refine zR ?_
  refine zC ?_
  refine (zG [] (.n (op_add (.t rfl) (.k rfl) (zO (by omega) (by omega)))<|.n (zA (.t rfl))<|.nil) ff rfl fun g7 => ⟨_, _, [0, 1], rfl, (.k 0 rfl<|.k 1 rfl<|.k 2 rfl<|.k 7 rfl<|.k 22 rfl<|.k 23 rfl<|.nil), (.k 0 rfl<|.k 1 rfl<|.nil), ?_⟩)
  exact JN_again (k + 1) (by omega) (by omega) (To.pick (fun _ => .sub (t := 23) rfl (sp_eq (by rfl))<|.k 0 rfl<|.k 1 rfl<|.k 2 rfl<|.k 7 rfl<|.k 22 rfl<|.nil) (fun _ => .sub 0 rfl ((res_eq (congrArg (fun l => som _ _ l _) (fill_set (by omega) hTb))))<|.k 1 rfl<|.nil) (ks := [0, 1]) rfl)
 ·try simp only [cmpB, Z] at h1
  have hke : k = (orLJ (limbsJ x.natAbs) (limbsJ y.natAbs)).length := by omega
  refine J_exit ?_
  refine zE ?_
  refine zE ?_
  refine zS ?_
  refine zC ?_
  refine J_to (To.freezeM 0 1 hr0 (fix_blk) rfl rfl rfl frz_som rfl) ?_
  refine zF (zG [] (.n (zA (.t rfl))<|.n (zA (.t rfl))<|.n (zP (norm_ok (by rw [fill_all hke]; exact (orLJ_mag _ _).1)) ⟨(Lk.sub (sb_fk 0 rfl) (.t rfl)),  trivial⟩)<|.w 1 (op_callM 1 (imade_ok) ⟨(.t rfl), (.k rfl), (.t rfl),  trivial⟩ rfl)<|.n (zB (.t rfl))<|.nil) ff rfl fun g8 => ⟨_, _, [1], rfl, (.k 6 rfl<|.nil), (.k 1 rfl<|.nil), ?_⟩)
  refine zC ?_
  refine J_ret ?_
  refine JN_to (To.res 0 (r' := blk u (intCJ (((x.natAbs ||| y.natAbs : Nat) : Int))) 55) rfl (res_eq (by rw [fill_all hke, nat_mag (orLJ_mag _ _).2]; rfl)) rfl) ?_
  refine JN_retM 0 hr0 (fix_blk) rfl (.cons (.tmp (.t rfl))<|.nil) (zM (sb_res1 zL) ?_)
  exact zL
theorem dtake_ok {x : Exa} (h : PutH x) : Ct Tryz.prog 29 [dyP x] (exaPJ ⟨(dyHalf x).m, dyE x⟩) := by
 refine Ct.of Tryz.func29 rfl (by kernel_rfl) rfl fun c0 => ?_
 have hbm : SmlJ (dyHalf x).m := bl_sml h.hb
 have hln : (limbs (dyHalf x).m.natAbs).length ≤ 2048 := words_len (k := 2048) (by have := h.hb; omega)
 refine J_to (To.emps 2) ?_
 refine zF (zG [] (.w 0 (op_box 0 (.t rfl) co_agg rfl)<|.w 1 (op_alloc 1 zr57 rfl rfl)<|.nil) ff rfl fun g1 => ⟨_, _, [0, 1], rfl, (.k 1 rfl<|.k 2 rfl<|.nil), (.k 0 rfl<|.k 1 rfl<|.nil), ?_⟩)
 refine zC ?_
 refine J_to (To.emps 1) ?_
 refine zF (zG [] (.w 2 (op_alloc 2 zr55 rfl rfl)<|.n (op_assign_ve rfl rfl)<|.nil) ff rfl fun g2 => ⟨_, _, [0, 1, 2], rfl, (.k 1 rfl<|.k 2 rfl<|.k 3 rfl<|.nil), (.k 0 rfl<|.k 1 rfl<|.k 2 rfl<|.nil), ?_⟩)
 refine zC ?_
 refine zF ?_
 refine zF (zG [] (.n (zI fd31_1 (.t rfl) rfl)<|.r 0 (zN 0 sc29 (.t rfl) rfl zJ rfl)<|.n (op_len_m sl29 (.t rfl))<|.n (op_sub (.t rfl) (.k rfl) (zO (by omega) (by omega)))<|.n (zB (.t rfl))<|.nil) ff rfl fun g3 => ⟨_, _, [0, 1, 2], rfl, (.k 1 rfl<|.k 2 rfl<|.k 3 rfl<|.k 4 rfl<|.nil), (.k 0 rfl<|.k 1 rfl<|.k 2 rfl<|.nil), ?_⟩)
 refine zC ?_
 refine zT ?_
 refine J_loopc (α := Nat) (fun k => k ≤ (limbs (dyHalf x).m.natAbs).length) (fun k => (limbs (dyHalf x).m.natAbs).length - k) (fun k restR => (4, isv (.int .i64 (((limbs (dyHalf x).m.natAbs).length : Int) - 1 - (k : Int)))) :: restR) (fun k restS => blk (g2 5) (intCJ (((tkN (dyHalf x).m.natAbs (limbs (dyHalf x).m.natAbs).length k) : Nat) : Int)) 55 :: restS) (ρc := [(1, _), (2, _), (3, _)]) (σc := [_, _]) 0 (by exact Nat.zero_le _) (To.pick (fun _ => .sub (t := 4) rfl (sp_eq (by exact congrArg (fun z => isv (.int .i64 z)) (by omega)))<|.k 1 rfl<|.k 2 rfl<|.k 3 rfl<|.nil) (fun _ => .sub 2 rfl ((by rw [tk_zero]; exact blk_int0))<|.k 0 rfl<|.k 1 rfl<|.nil) (ks := [2, 0, 1]) rfl) (fun k hI => ?_)
 refine zF ?_
 refine zF (zG [] (.n (zA (.t rfl))<|.n (op_cmp (by simp) (.t rfl) (.k rfl) rfl)<|.nil) ff rfl fun g4 => ⟨_, _, [0, 1, 2], rfl, (.k 1 rfl<|.k 2 rfl<|.k 3 rfl<|.k 4 rfl<|.k 11 rfl<|.nil), (.k 0 rfl<|.k 1 rfl<|.k 2 rfl<|.nil), ?_⟩)
 refine zC ?_
 refine zH (zK (.t rfl)) (fun h1 => ?_) (fun h1 => ?_)
 ·try simp only [cmpB, Z] at h1
  have hwk := tk_word (M := (dyHalf x).m.natAbs) (L := (limbs (dyHalf x).m.natAbs).length) (k := k) (by omega)
  have hwl := tkW_lt (dyHalf x).m.natAbs ((limbs (dyHalf x).m.natAbs).length - 1 - k)
  have hts := tk_step (M := (dyHalf x).m.natAbs) (L := (limbs (dyHalf x).m.natAbs).length) (k := k) (by omega)
  have htm : SmlJ (((tkN (dyHalf x).m.natAbs (limbs (dyHalf x).m.natAbs).length k : Nat) : Int) * 2 ^ 32) := take_sml h
  have htn : SmlJ ((tkN (dyHalf x).m.natAbs (limbs (dyHalf x).m.natAbs).length k : Nat) : Int) := sml_leJ (tkN_le _ _ _) ⟨by rw [Int.natAbs_natCast]; exact hbm.h⟩
  refine J_skip ?_
  refine zC ?_
  refine zF ?_
  refine zT ?_
  refine zF (zG [] (.n (zA (.t rfl))<|.n (zA (.t rfl))<|.w 0 (op_callM 0 (ilsh2_ok (n := 32) htn (by omega)) ⟨(.t rfl), (.t rfl), (.k rfl),  trivial⟩ rfl)<|.nil) ff rfl fun g5 => ⟨_, _, [0, 1, 2], rfl, (.k 1 rfl<|.k 2 rfl<|.k 3 rfl<|.k 4 rfl<|.nil), (.k 0 rfl<|.k 1 rfl<|.k 2 rfl<|.nil), ?_⟩)
  refine zC ?_
  refine (zG [] (.n (zA (.t rfl))<|.n (zA (.t rfl))<|.n (zI fd31_1 (.t rfl) rfl)<|.r 1 (zN 1 sc29 (.t rfl) rfl zJ rfl)<|.n (zA (.t rfl))<|.n (op_index_m 0 sl29 (.t rfl) (.t rfl) (by omega) (by omega))<|.n (op_load_sc sc78 (.t rfl) rfl)<|.n (op_conv_int it78 it2 (.t rfl) hwk)<|.n (zP (newint_ok (by omega)) ⟨(.t rfl),  trivial⟩)<|.w 0 (op_callM 0 (ior2_ok htm (sml_ofJ (by omega))) ⟨(.t rfl), (.t rfl), (.t rfl),  trivial⟩ rfl)<|.nil) ff rfl fun g6 => ⟨_, _, [0, 1, 2], rfl, (.k 1 rfl<|.k 2 rfl<|.k 3 rfl<|.k 4 rfl<|.nil), (.k 0 rfl<|.k 1 rfl<|.k 2 rfl<|.nil), ?_⟩)
  refine zR ?_
  refine zC ?_
  refine (zG [] (.n (zA (.t rfl))<|.n (op_sub (.t rfl) (.k rfl) (zO (by omega) (by omega)))<|.n (zB (.t rfl))<|.nil) ff rfl fun g7 => ⟨_, _, [0, 1, 2], rfl, (.k 1 rfl<|.k 2 rfl<|.k 3 rfl<|.k 4 rfl<|.nil), (.k 0 rfl<|.k 1 rfl<|.k 2 rfl<|.nil), ?_⟩)
  exact JN_again (k + 1) (by omega) (by omega) (To.pick (fun _ => .sub (t := 4) rfl (sp_eq (by exact congrArg (fun z => isv (.int .i64 z)) (by omega)))<|.k 1 rfl<|.k 2 rfl<|.k 3 rfl<|.nil) (fun _ => .sub 0 rfl ((res_eq (by rw [hts])))<|.k 1 rfl<|.k 2 rfl<|.nil) (ks := [0, 1, 2]) rfl)
 ·try simp only [cmpB, Z] at h1
  have hke : k = (limbs (dyHalf x).m.natAbs).length := by omega
  have hkd := tk_done (M := (dyHalf x).m.natAbs) hke
  refine J_exit ?_
  refine zE ?_
  refine zE ?_
  refine zS ?_
  refine zC ?_
  refine zF ?_
  refine zF (zG [] (.n (zI fd31_0 (.t rfl) rfl)<|.r 1 (zN 1 sc4 (.t rfl) rfl zJ rfl)<|.nil) ff rfl fun g8 => ⟨_, _, [0, 1, 2], rfl, (.k 1 rfl<|.k 2 rfl<|.k 3 rfl<|.k 28 rfl<|.nil), (.k 0 rfl<|.k 1 rfl<|.k 2 rfl<|.nil), ?_⟩)
  refine zC ?_
  refine zH (zK (.t rfl)) (fun h2 => ?_) (fun h2 => ?_)
  ·try simp only [cmpB, Z] at h2
   refine (zG [] (.n (zA (.t rfl))<|.n (zA (.t rfl))<|.w 0 (op_callM 0 (ineg2_ok (sml_leJ (tkN_le _ _ _) ⟨by rw [Int.natAbs_natCast]; exact hbm.h⟩)) ⟨(.t rfl), (.t rfl),  trivial⟩ rfl)<|.nil) ff rfl fun g9 => ⟨_, _, [0, 1, 2], rfl, (.k 1 rfl<|.k 2 rfl<|.k 3 rfl<|.nil), (.k 0 rfl<|.k 1 rfl<|.k 2 rfl<|.nil), ?_⟩)
   refine zC ?_
   refine zF (zG [] (.n (zA (.t rfl))<|.n (zI fd31_2 (.t rfl) rfl)<|.r 1 (zN 1 sc3 (.t rfl) rfl zJ rfl)<|.n (op_build zr57 rfl pl57 (.cons rfl (.t rfl) co_ipo rfl (puts_l rfl (Nat.le_of_ble_eq_true rfl)) (.cons rfl (.t rfl) co_isv rfl (puts_l rfl (Nat.le_of_ble_eq_true rfl)) .nil)))<|.w 2 (op_store_b 2 (.t rfl) (.t rfl) co_agg sz57 rfl rfl rfl)<|.nil) ff rfl fun g10 => ⟨_, _, [0, 2], rfl, (.k 2 rfl<|.nil), (.k 0 rfl<|.k 2 rfl<|.nil), ?_⟩)
   refine zC ?_
   refine J_ret ?_
   refine JN_to (To.freeze 0 (fun _ h => h) rfl frz_blk rfl) ?_
   refine zQ (.cons (.ag 1 (.t rfl) ag57 rfl rfl rfl)<|.nil) (zM (sb_res1 (sb_agg (.cons (sb_ok 0 2 rfl rfl)<|.cons zL<|.nil))) ?_)
   exact sb_eq (by rw [hkd, abs_neg (by simpa using h2)])
  ·try simp only [cmpB, Z] at h2
   refine J_skip ?_
   refine zC ?_
   refine zF (zG [] (.n (zA (.t rfl))<|.n (zI fd31_2 (.t rfl) rfl)<|.r 1 (zN 1 sc3 (.t rfl) rfl zJ rfl)<|.n (op_build zr57 rfl pl57 (.cons rfl (.t rfl) co_ipo rfl (puts_l rfl (Nat.le_of_ble_eq_true rfl)) (.cons rfl (.t rfl) co_isv rfl (puts_l rfl (Nat.le_of_ble_eq_true rfl)) .nil)))<|.w 2 (op_store_b 2 (.t rfl) (.t rfl) co_agg sz57 rfl rfl rfl)<|.nil) ff rfl fun g11 => ⟨_, _, [0, 2], rfl, (.k 2 rfl<|.nil), (.k 0 rfl<|.k 2 rfl<|.nil), ?_⟩)
   refine zC ?_
   refine J_ret ?_
   refine JN_to (To.freeze 0 (fun _ h => h) rfl frz_blk rfl) ?_
   refine zQ (.cons (.ag 1 (.t rfl) ag57 rfl rfl rfl)<|.nil) (zM (sb_res1 (sb_agg (.cons (sb_ok 0 2 rfl rfl)<|.cons zL<|.nil))) ?_)
   exact sb_eq (by rw [hkd, abs_pos (by simpa using h2)])
end Go.Proofs.YtcpififnffmjfaaGreatDoor
