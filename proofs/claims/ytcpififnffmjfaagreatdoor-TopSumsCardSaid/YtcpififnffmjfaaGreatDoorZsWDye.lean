/- Printed by a program of ours (walk.py): walks of numbers of two: rounded. -/
import Derived.Test.YtcpififnffmjfaaGreatDoorZsKb
import Derived.Test.YtcpififnffmjfaaGreatDoorProg
import Derived.KernelRfl
import Derived.Test.YtcpififnffmjfaaGreatDoorZsTypes
import Derived.Test.YtcpififnffmjfaaGreatDoorZsWDyd
import Derived.Test.YtcpififnffmjfaaGreatDoorZsDyc
set_option linter.unusedVariables false
set_option linter.unusedSimpArgs false
set_option maxRecDepth 20000
set_option maxHeartbeats 4000000
namespace Go.Proofs.YtcpififnffmjfaaGreatDoor
open Go Go.Bn
attribute [local irreducible] OpOK
theorem minf1_ok  : Ct Tryz.prog 34 [isv (.int .i64 1)] (flp PINF) := by
 refine Ct.of Tryz.func34 rfl (by kernel_rfl) rfl fun c0 => ?_
 refine zF (zG [] (.n (zB (Lk.fk rfl (by decide +kernel)))<|.nil) ff rfl fun g1 => ⟨_, _, [], rfl, (.k 0 rfl<|.nil), (.nil), ?_⟩)
 refine zC ?_
 refine zF (zG [] (.n (zB (.k rfl))<|.nil) ff rfl fun g2 => ⟨_, _, [], rfl, (.k 0 rfl<|.nil), (.nil), ?_⟩)
 refine zC ?_
 refine zF ?_
 refine zF (zG [] (.n (zA (.t rfl))<|.n (op_cmp (by simp) (.t rfl) (.k rfl) rfl)<|.nil) ff rfl fun g3 => ⟨_, _, [], rfl, (.k 5 rfl<|.nil), (.nil), ?_⟩)
 refine zC ?_
 refine zH (zK (.t rfl)) (fun h1 => ?_) (fun h1 => ?_)
 ·have h1' := h1
  try simp only [cmpB, Z] at h1
  refine (zG [] (.n (zB (.k rfl))<|.nil) ff rfl fun g4 => ⟨_, _, [], rfl, (.k 3 rfl<|.nil), (.nil), ?_⟩)
  refine zC ?_
  refine zF (zG [] (.n (zA (.t rfl))<|.n (op_f64from (b := 9218868437227405312) fromX (by decide) (.t rfl))<|.n (zB (.t rfl))<|.nil) ff rfl fun g5 => ⟨_, _, [], rfl, (.k 2 rfl<|.nil), (.nil), ?_⟩)
  refine zC ?_
  refine J_ret ?_
  refine zQ (.cons (.tmp (.t rfl))<|.nil) (zM (sb_res1 zL) ?_)
  exact ret_f (by decide +kernel)
 ·have h1' := h1
  try simp only [cmpB, Z] at h1
  exact absurd h1' (by decide)
theorem drnd_ok {m e : Int} (hz : SmlJ m) (h0 : -100000 ≤ e) (h1 : e ≤ 100000) (hb : bl m.natAbs ≤ 65536) : Ct Tryz.prog 30 [aggp [intPJ m, isv (.int .i64 e)], isv (.int .i64 53), isv (.int .i64 (-1074)), isv (.int .i64 0)] (tupp [intPJ ((rnM m.natAbs e : Nat) : Int), isv (.int .i64 (rexp m.natAbs e))]) := by
 refine Ct.of Tryz.func30 rfl (by kernel_rfl) rfl fun c0 => ?_
 have hza : SmlJ ((m.natAbs : Nat) : Int) := ⟨by rw [Int.natAbs_natCast]; exact hz.h⟩
 have hre : rexp m.natAbs e = max (e + (bl m.natAbs : Int) - 53) (-1074) := rfl
 have hbz : bl ((m.natAbs : Nat) : Int).natAbs = bl m.natAbs := by rw [Int.natAbs_natCast]
 refine J_to (To.emps 1) ?_
 refine zF (zG [] (.w 0 (op_box 0 (.t rfl) co_agg rfl)<|.n (zB (.k rfl))<|.n (zB (.k rfl))<|.nil) ff rfl fun g1 => ⟨_, _, [0], rfl, (.k 1 rfl<|.k 2 rfl<|.k 3 rfl<|.k 4 rfl<|.nil), (.k 0 rfl<|.nil), ?_⟩)
 refine zC ?_
 refine J_to (To.emps 1) ?_
 refine zF (zG [] (.w 1 (op_alloc 1 zr55 rfl rfl)<|.n (zI fd57_0 (.t rfl) rfl)<|.r 0 (zN 0 sc52 (.t rfl) rfl zJ rfl)<|.w 1 (op_callMp 1 rfl rfl (fun u => iabs_ok hz) rfl ⟨(.t rfl),  trivial⟩)<|.n (op_assign_ve rfl rfl)<|.nil) ff rfl fun g2 => ⟨_, _, [0, 1], rfl, (.k 1 rfl<|.k 2 rfl<|.k 3 rfl<|.k 4 rfl<|.k 10 rfl<|.nil), (.k 0 rfl<|.k 1 rfl<|.nil), ?_⟩)
 refine zC ?_
 refine J_to (To.freeze 1 (fun _ h => h) rfl frz_blk rfl) ?_
 refine zF (zG [[], [0], [], [2], [0, 1, 2, 3], [], [0, 1, 2, 3, 4, 5], [], [0, 1, 2, 3, 4, 5, 6, 7], [0, 1, 2, 3, 4, 5, 6, 7, 8]] (.n (zI fd57_1 (.t rfl) rfl)<|.r 0 (zN 0 sc3 (.t rfl) rfl zJ rfl)<|.n (zA (.t rfl))<|.n (zP (ibl_ok hza) ⟨(Lk.sub (sb_ok 0 2 rfl rfl) (.t rfl)),  trivial⟩)<|.n (op_add (.t rfl) (.t rfl) (zO (by omega) (by omega)))<|.n (zA (.t rfl))<|.n (op_sub (.t rfl) (.t rfl) (zO (by omega) (by omega)))<|.n (zA (.t rfl))<|.n (op_imax (.t rfl) (.t rfl))<|.n (zB (.t rfl))<|.nil) (fun _ => mixed) rfl fun g3 => ⟨_, _, [0], rfl, (.k 3 rfl<|.k 4 rfl<|.k 10 rfl<|.k 11 rfl<|.nil), (.k 0 rfl<|.nil), ?_⟩)
 refine zC ?_
 refine zF (zG [[], [], [], [2], [1, 2, 3], [], [5], [5, 6], [5, 6, 7], [], [0, 1, 2, 3, 4, 5, 6, 7, 8, 9], [], [0, 1, 2, 3, 4, 5, 6, 7, 8, 9, 10], [0, 1, 2, 3, 4, 5, 6, 7, 8, 9, 10, 11, 12]] (.n (zA (.t rfl))<|.n (zA (.t rfl))<|.n (zI fd57_1 (.t rfl) rfl)<|.r 0 (zN 0 sc3 (.t rfl) rfl zJ rfl)<|.n (op_sub (.t rfl) (.t rfl) (zO (by omega) (by omega)))<|.n (zI fd57_0 (.t rfl) rfl)<|.r 0 (zN 0 sc52 (.t rfl) rfl zJ rfl)<|.n (zP (isign_ok) ⟨(.t rfl),  trivial⟩)<|.n (op_cmp (by simp) (.t rfl) (.k rfl) rfl)<|.n (zA (.t rfl))<|.n (zP (dcut_ok hza (by omega) (by omega)) ⟨(Lk.sub (sb_ok 0 2 rfl rfl) (.t rfl)), (.t rfl), (.t rfl), (.t rfl),  trivial⟩)<|.n (zA (.t rfl))<|.n (zB (.t rfl))<|.n (zB (.t rfl))<|.nil) (fun _ => mixed) rfl fun g4 => ⟨_, _, [], rfl, (.k 8 rfl<|.k 9 rfl<|.nil), (.nil), ?_⟩)
 refine zC ?_
 refine J_ret ?_
 refine zQ (.cons (.tmp (.t rfl))<|.cons (.tmp (.t rfl))<|.nil) (zM (sb_res (.cons zL<|.cons zL<|.nil)) ?_)
 exact zL
theorem dround_ok {x : Exa} (h : PutH x) (hE : -100000 ≤ dyE x ∧ dyE x ≤ 100000) : Ct Tryz.prog 9 [dyP x, isv (.int .i64 0)] (tupp [flp (rndD (decide ((dyHalf x).m < 0)) (dyHalf x).m.natAbs (dyE x)), isv (.int .i64 0)]) := by
 refine Ct.of Tryz.func9 rfl (by kernel_rfl) rfl fun c0 => ?_
 have hbm : SmlJ (dyHalf x).m := bl_sml h.hb
 have hrm : SmlJ ((rnM (dyHalf x).m.natAbs (dyE x) : Nat) : Int) := sml_ofJ (by have := rnM_le (dyHalf x).m.natAbs (dyE x); have e53 : (2 : Nat) ^ 53 = 9007199254740992 := (by decide); rw [Int.natAbs_natCast]; omega)
 have hbr : bl ((rnM (dyHalf x).m.natAbs (dyE x) : Nat) : Int).natAbs = bl (rnM (dyHalf x).m.natAbs (dyE x)) := by rw [Int.natAbs_natCast]
 have hbl : bl (rnM (dyHalf x).m.natAbs (dyE x)) ≤ 54 := bl_lt (by have := rnM_le (dyHalf x).m.natAbs (dyE x); have e53 : (2 : Nat) ^ 53 = 9007199254740992 := (by decide); show _ < 18014398509481984; omega)
 have hxe : rexp (dyHalf x).m.natAbs (dyE x) = max (dyE x + (bl (dyHalf x).m.natAbs : Int) - 53) (-1074) := rfl
 have hbb := h.hb
 obtain ⟨hE0, hE1⟩ := hE
 refine J_to (To.emps 1) ?_
 refine zF (zG [] (.w 0 (op_box 0 (.t rfl) co_agg rfl)<|.n (zB (Lk.fk rfl (by decide +kernel)))<|.n (zB (.k rfl))<|.nil) ff rfl fun g1 => ⟨_, _, [0], rfl, (.k 1 rfl<|.k 2 rfl<|.nil), (.k 0 rfl<|.nil), ?_⟩)
 refine zC ?_
 refine zF ?_
 refine zF (zG [] (.r 0 (op_get_ag 0 ag31 (.t rfl) rfl zJ rfl rfl)<|.n (zP (dmay_ok h) ⟨(.t rfl),  trivial⟩)<|.n (op_not (.t rfl))<|.nil) ff rfl fun g2 => ⟨_, _, [0], rfl, (.k 1 rfl<|.k 2 rfl<|.k 13 rfl<|.nil), (.k 0 rfl<|.nil), ?_⟩)
 refine zC ?_
 refine zH (zK (.t rfl)) (fun h1 => ?_) (fun h1 => ?_)
 ·have h1' := h1
  try simp only [cmpB, Z] at h1
  exact absurd h1' (by decide)
 ·have h1' := h1
  try simp only [cmpB, Z] at h1
  refine J_skip ?_
  refine zC ?_
  refine zF ?_
  refine zF (zG [] (.n (zA (.t rfl))<|.n (zP (dknow_ok) ⟨(.t rfl),  trivial⟩)<|.n (op_not (.t rfl))<|.nil) ff rfl fun g3 => ⟨_, _, [0], rfl, (.k 1 rfl<|.k 2 rfl<|.k 16 rfl<|.nil), (.k 0 rfl<|.nil), ?_⟩)
  refine zC ?_
  refine zH (zK (.t rfl)) (fun h2 => ?_) (fun h2 => ?_)
  ·have h2' := h2
   try simp only [cmpB, Z] at h2
   exact absurd h2' (by decide)
  ·have h2' := h2
   try simp only [cmpB, Z] at h2
   refine J_skip ?_
   refine zC ?_
   refine J_to (To.emps 1) ?_
   refine zF (zG [] (.r 0 (op_get_ag 0 ag31 (.t rfl) rfl zJ rfl rfl)<|.n (zP (dtake_ok h) ⟨(.t rfl),  trivial⟩)<|.w 1 (op_alloc 1 zr57 rfl rfl)<|.w 1 (op_store_new 1 rfl (.t rfl) co_agg sz57 rfl rfl)<|.nil) ff rfl fun g4 => ⟨_, _, [0, 1], rfl, (.k 1 rfl<|.k 2 rfl<|.k 6 rfl<|.nil), (.k 0 rfl<|.k 1 rfl<|.nil), ?_⟩)
   refine zC ?_
   refine zF (zG [] (.r 1 (op_get_ag 1 ag57 (.t rfl) rfl zJ rfl rfl)<|.n (zA (.t rfl))<|.n (zP (drnd_ok (m := (dyHalf x).m) (e := dyE x) hbm hE0 hE1 h.hb) ⟨(.t rfl), (.k rfl), (.k rfl), (.t rfl),  trivial⟩)<|.n (zA (.t rfl))<|.n (op_extract (.t rfl) rfl)<|.n (op_extract (.t rfl) rfl)<|.n (zB (.t rfl))<|.n (zB (.t rfl))<|.nil) ff rfl fun g5 => ⟨_, _, [0], rfl, (.k 1 rfl<|.k 2 rfl<|.k 7 rfl<|.k 8 rfl<|.nil), (.k 0 rfl<|.nil), ?_⟩)
   refine zC ?_
   refine zF ?_
   refine zF (zG [] (.n (zA (.t rfl))<|.n (zA (.t rfl))<|.n (zP (ibl_ok hrm) ⟨(.t rfl),  trivial⟩)<|.n (op_add (.t rfl) (.t rfl) (zO (by omega) (by omega)))<|.n (op_cmp (by simp) (.t rfl) (.k rfl) rfl)<|.nil) ff rfl fun g6 => ⟨_, _, [0], rfl, (.k 1 rfl<|.k 2 rfl<|.k 7 rfl<|.k 8 rfl<|.k 29 rfl<|.nil), (.k 0 rfl<|.nil), ?_⟩)
   refine zC ?_
   refine zH (zK (.t rfl)) (fun h3 => ?_) (fun h3 => ?_)
   ·try simp only [cmpB, Z] at h3
    refine zF ?_
    refine zF (zG [] (.n (zI fd31_0 (.t rfl) rfl)<|.r 0 (zN 0 sc4 (.t rfl) rfl zJ rfl)<|.n (zA (.t rfl))<|.n (zP (dbey_ok) ⟨(.t rfl), (.t rfl),  trivial⟩)<|.nil) ff rfl fun g7 => ⟨_, _, [0], rfl, (.k 2 rfl<|.k 33 rfl<|.nil), (.k 0 rfl<|.nil), ?_⟩)
    refine zC ?_
    refine zH (zK (.t rfl)) (fun h4 => ?_) (fun h4 => ?_)
    ·have h4' := h4
     try simp only [cmpB, Z] at h4
     exact absurd h4' (by decide)
    ·have h4' := h4
     try simp only [cmpB, Z] at h4
     refine J_skip ?_
     refine zC ?_
     refine zF (zG [[], [], [1], [0, 1, 2], [0, 1, 2, 3], [0, 1, 2, 3, 4]] (.n (zP (minf1_ok) ⟨(.k rfl),  trivial⟩)<|.n (zI fd31_0 (.t rfl) rfl)<|.r 0 (zN 0 sc4 (.t rfl) rfl zJ rfl)<|.n (zP (dsgn_ok) ⟨(.t rfl), (.t rfl),  trivial⟩)<|.n (zB (.t rfl))<|.n (zB (.k rfl))<|.nil) (fun _ => mixed) rfl fun g8 => ⟨_, _, [], rfl, (.k 4 rfl<|.k 5 rfl<|.nil), (.nil), ?_⟩)
     refine zC ?_
     refine J_ret ?_
     refine zD ?_
     refine zQ (.cons (.tmp (.t rfl))<|.cons (.tmp (.t rfl))<|.nil) (zM (sb_res (.cons zL<|.cons zL<|.nil)) ?_)
     exact sb_eq (by rw [rnd_1 (by omega)])
   ·try simp only [cmpB, Z] at h3
    refine J_skip ?_
    refine zC ?_
    refine zF (zG [[], [0], [], [2], [], [0, 1, 2, 3, 4], [0, 1, 2, 3, 4, 5], [0, 1, 2, 3, 4, 5, 6], [0, 1, 2, 3, 4, 5, 6, 7], [0, 1, 2, 3, 4, 5, 6, 7], [0, 1, 2, 3, 4, 5, 6, 7, 8], [0, 1, 2, 3, 4, 5, 6, 7, 8, 9, 10]] (.n (zI fd31_0 (.t rfl) rfl)<|.r 0 (zN 0 sc4 (.t rfl) rfl zJ rfl)<|.n (zA (.t rfl))<|.n (zP (iu64_ok) ⟨(.t rfl),  trivial⟩)<|.n (zA (.t rfl))<|.n (op_build zr76 rfl pl76 (.cons rfl (.t rfl) co_isv rfl (puts_l rfl (Nat.le_of_ble_eq_true rfl)) (.cons rfl (.t rfl) co_isv rfl (puts_l rfl (Nat.le_of_ble_eq_true rfl)) (.cons rfl (.t rfl) co_isv rfl (puts_l rfl (Nat.le_of_ble_eq_true rfl)) .nil))))<|.n (zP (aof_ok (by rw [mod_rn]; exact md_rn hE1 (by omega))) ⟨(.t rfl),  trivial⟩)<|.n (zA (.t rfl))<|.n (op_extract (.t rfl) rfl)<|.n (op_extract (.t rfl) rfl)<|.n (zB (.t rfl))<|.n (zB (.t rfl))<|.nil) (fun _ => mixed) rfl fun g9 => ⟨_, _, [], rfl, (.k 9 rfl<|.nil), (.nil), ?_⟩)
    refine zC ?_
    refine zF (zG [] (.n (zA (.t rfl))<|.n (zB (.t rfl))<|.n (zB (.k rfl))<|.nil) ff rfl fun g10 => ⟨_, _, [], rfl, (.k 4 rfl<|.k 5 rfl<|.nil), (.nil), ?_⟩)
    refine zC ?_
    refine J_ret ?_
    refine zQ (.cons (.tmp (.t rfl))<|.cons (.tmp (.t rfl))<|.nil) (zM (sb_res (.cons zL<|.cons zL<|.nil)) ?_)
    exact sb_eq (by rw [mod_rn, rnd_2 (by omega)])
end Go.Proofs.YtcpififnffmjfaaGreatDoor
