/- Printed by a program of ours (walk.py): walks of numbers of two: sums, what may be. -/
import Derived.Test.YtcpififnffmjfaaGreatDoorZsKb
import Derived.Test.YtcpififnffmjfaaGreatDoorProg
import Derived.KernelRfl
import Derived.Test.YtcpififnffmjfaaGreatDoorZsTypes
import Derived.Test.YtcpififnffmjfaaGreatDoorZsWDya
set_option linter.unusedVariables false
set_option linter.unusedSimpArgs false
set_option maxRecDepth 20000
set_option maxHeartbeats 4000000
namespace Go.Proofs.YtcpififnffmjfaaGreatDoor
open Go Go.Bn
attribute [local irreducible] OpOK
theorem dsum_ok {l : List Nat} (h : SumH l) (hp : PutH (dySum l l.length)) (hl : l.length ≤ 100000) : Ct Tryz.prog 7 [fls l] (tupp [dyP (dySum l l.length), isv (.int .i64 0)]) := by
 refine Ct.of Tryz.func7 rfl (by kernel_rfl) rfl fun c0 => ?_
 refine J_len 0 rfl fun hlen => ?_
 have ha := h.all
 refine J_to (To.emps 1) ?_
 refine zF (zG [] (.w 0 (op_alloc 0 zr31 rfl rfl)<|.n (zB (.k rfl))<|.nil) ff rfl fun g1 => ⟨_, _, [0], rfl, (.k 0 rfl<|.k 2 rfl<|.nil), (.k 0 rfl<|.nil), ?_⟩)
 refine zC ?_
 refine zF ?_
 refine zF (zG [] (.n (zA (.t rfl))<|.n (zP (finite_ok) ⟨(.t rfl),  trivial⟩)<|.n (op_not (.t rfl))<|.nil) ff rfl fun g2 => ⟨_, _, [0], rfl, (.k 0 rfl<|.k 2 rfl<|.k 9 rfl<|.nil), (.k 0 rfl<|.nil), ?_⟩)
 refine zC ?_
 refine zH (zK (.t rfl)) (fun h1 => ?_) (fun h1 => ?_)
 ·have h1' := h1
  try simp only [cmpB, Z] at h1
  exact absurd h1' (by rw [ha]; decide)
 ·have h1' := h1
  try simp only [cmpB, Z] at h1
  refine J_skip ?_
  refine zC ?_
  refine J_to (To.emps 2) ?_
  refine zF (zG [] (.n (op_alloc_int0 zr55)<|.n (op_build zr57 rfl pl57 (.cons rfl (.t rfl) co_ptp rfl (puts_l rfl (Nat.le_of_ble_eq_true rfl)) (.cons rfl (.k rfl) co_isv rfl (puts_l rfl (Nat.le_of_ble_eq_true rfl)) .nil)))<|.w 1 (op_alloc 1 zr57 rfl rfl)<|.w 1 (op_store_new 1 rfl (.t rfl) co_agg sz57 rfl rfl)<|.nil) ff rfl fun g3 => ⟨_, _, [0, 1], rfl, (.k 0 rfl<|.k 2 rfl<|.k 4 rfl<|.nil), (.k 0 rfl<|.k 1 rfl<|.nil), ?_⟩)
  refine zC ?_
  refine zF ?_
  refine zF (zG [] (.n (zA (.t rfl))<|.n (op_len_m sl24 (.t rfl))<|.n (zA (.k rfl))<|.nil) ff rfl fun g4 => ⟨_, _, [0, 1], rfl, (.k 2 rfl<|.k 4 rfl<|.k 13 rfl<|.k 14 rfl<|.k 15 rfl<|.nil), (.k 0 rfl<|.k 1 rfl<|.nil), ?_⟩)
  refine zC ?_
  refine zT ?_
  refine J_loopc (α := Nat) (fun k => k ≤ l.length) (fun k => l.length - k) (fun k restR => (15, isv (.int .i64 (k : Int))) :: restR) (fun k restS => blk (g3 4) [intPJ (dySum l k).m, isv (.int .i64 (dySum l k).e)] 57 :: restS) (ρc := [(2, _), (4, _), (13, _), (14, _)]) (σc := [_]) 0 (by exact Nat.zero_le _) (To.pick (fun _ => .sub (t := 15) rfl (sp_eq (by rfl))<|.k 2 rfl<|.k 4 rfl<|.k 13 rfl<|.k 14 rfl<|.nil) (fun _ => .sub 1 rfl ((fun _ _ h => h))<|.k 0 rfl<|.nil) (ks := [1, 0]) rfl) (fun k hI => ?_)
  refine zF (zG [] (.n (op_cmp (by simp) (.t rfl) (.t rfl) rfl)<|.nil) ff rfl fun g5 => ⟨_, _, [0, 1], rfl, (.k 2 rfl<|.k 4 rfl<|.k 13 rfl<|.k 14 rfl<|.k 15 rfl<|.k 16 rfl<|.nil), (.k 0 rfl<|.k 1 rfl<|.nil), ?_⟩)
  refine zC ?_
  refine zF ?_
  refine zH (zK (.t rfl)) (fun h2 => ?_) (fun h2 => ?_)
  ·try simp only [cmpB, Z] at h2
   have hkf := h.hf k (by omega)
   have hkx := h.hx k (by omega)
   have hks := h.hs k (by omega)
   have hkl := h.hl k (by omega)
   refine J_skip ?_
   refine zC ?_
   refine zF ?_
   refine zT ?_
   refine zF (zG [] (.n (op_index_m 0 sl24 (.t rfl) (.t rfl) (by omega) (by omega))<|.n (op_load_sc sc28 (.t rfl) rfl)<|.n (zB (.t rfl))<|.nil) ff rfl fun g6 => ⟨_, _, [0, 1], rfl, (.k 2 rfl<|.k 4 rfl<|.k 6 rfl<|.k 13 rfl<|.k 14 rfl<|.k 15 rfl<|.nil), (.k 0 rfl<|.k 1 rfl<|.nil), ?_⟩)
   refine zC ?_
   refine (zG [[], [], [1], [0, 1, 2], [0, 1, 2, 3]] (.r 0 (op_get_ag 0 ag57 (.t rfl) rfl zJ rfl rfl)<|.n (zA (.t rfl))<|.n (zP (dof_ok hkf) ⟨(.t rfl),  trivial⟩)<|.n (zP (dplus_ok hks hkx hkl) ⟨(.t rfl), (.t rfl),  trivial⟩)<|.w 0 (op_store_b 0 (.t rfl) (.t rfl) co_agg sz57 rfl rfl rfl)<|.nil) (fun _ => mixed) rfl fun g7 => ⟨_, _, [0, 1], rfl, (.k 2 rfl<|.k 4 rfl<|.k 13 rfl<|.k 14 rfl<|.k 15 rfl<|.nil), (.k 0 rfl<|.k 1 rfl<|.nil), ?_⟩)
   refine zR ?_
   refine zC ?_
   refine (zG [] (.n (op_add (.t rfl) (.k rfl) (zO (by omega) (by omega)))<|.n (zA (.t rfl))<|.nil) ff rfl fun g8 => ⟨_, _, [0, 1], rfl, (.k 2 rfl<|.k 4 rfl<|.k 13 rfl<|.k 14 rfl<|.k 15 rfl<|.nil), (.k 0 rfl<|.k 1 rfl<|.nil), ?_⟩)
   exact JN_again (k + 1) (by omega) (by omega) (To.pick (fun _ => .sub (t := 15) rfl (sp_eq (by rfl))<|.k 2 rfl<|.k 4 rfl<|.k 13 rfl<|.k 14 rfl<|.nil) (fun _ => .sub 0 rfl ((fun _ _ h => h))<|.k 1 rfl<|.nil) (ks := [0, 1]) rfl)
  ·try simp only [cmpB, Z] at h2
   obtain rfl : k = l.length := by omega
   refine J_exit ?_
   refine zE ?_
   refine zE ?_
   refine zS ?_
   refine zC ?_
   refine zF (zG [] (.r 0 (op_get_ag 0 ag57 (.t rfl) rfl zJ rfl rfl)<|.n (zP (dput_ok hp.hx hp.hb hp.h0 hp.h1) ⟨(.t rfl),  trivial⟩)<|.n (op_extract (.t rfl) rfl)<|.n (op_extract (.t rfl) rfl)<|.w 1 (op_store_b 1 (.t rfl) (.t rfl) co_agg sz31 rfl rfl rfl)<|.n (zB (.t rfl))<|.nil) ff rfl fun g9 => ⟨_, _, [0, 1], rfl, (.k 2 rfl<|.k 3 rfl<|.nil), (.k 0 rfl<|.k 1 rfl<|.nil), ?_⟩)
   refine zC ?_
   refine J_ret ?_
   refine zQ (.cons (.ag 1 (.t rfl) ag31 rfl rfl rfl)<|.cons (.tmp (.t rfl))<|.nil) (zM (sb_res (.cons zL<|.cons zL<|.nil)) ?_)
   exact zL
theorem dmay_ok {x : Exa} (h : PutH x) : Ct Tryz.prog 27 [dyP x] (isv (.bool true)) := by
 refine Ct.of Tryz.func27 rfl (by kernel_rfl) rfl fun c0 => ?_
 refine J_to (To.emps 1) ?_
 refine zF (zG [] (.w 0 (op_box 0 (.t rfl) co_agg rfl)<|.n (zB (.k rfl))<|.nil) ff rfl fun g1 => ⟨_, _, [0], rfl, (.k 1 rfl<|.nil), (.k 0 rfl<|.nil), ?_⟩)
 refine zC ?_
 refine zF (zG [] (.n (zI fd31_1 (.t rfl) rfl)<|.r 0 (zN 0 sc29 (.t rfl) rfl zJ rfl)<|.n (op_len_m sl29 (.t rfl))<|.n (zB (.t rfl))<|.nil) ff rfl fun g2 => ⟨_, _, [0], rfl, (.k 1 rfl<|.k 3 rfl<|.nil), (.k 0 rfl<|.nil), ?_⟩)
 refine zC ?_
 refine zF ?_
 refine zF (zG [] (.n (zA (.t rfl))<|.n (op_cmp (by simp) (.t rfl) (.k rfl) rfl)<|.nil) ff rfl fun g3 => ⟨_, _, [0], rfl, (.k 1 rfl<|.k 3 rfl<|.k 8 rfl<|.nil), (.k 0 rfl<|.nil), ?_⟩)
 refine zC ?_
 refine zH (zK (.t rfl)) (fun h1 => ?_) (fun h1 => ?_)
 ·try simp only [cmpB, Z] at h1
  refine zF (zG [] (.n (zI fd31_0 (.t rfl) rfl)<|.r 0 (zN 0 sc4 (.t rfl) rfl zJ rfl)<|.n (op_not (.t rfl))<|.n (zA (.t rfl))<|.n (op_guard rfl rfl (gd_b rfl) (fun hC => (zI fd31_2 (.t rfl) rfl)))<|.r 0 (op_guard rfl rfl (gd_b rfl) (fun hC => (zN 0 sc3 (.w rfl hC) rfl zJ rfl)))<|.n (op_guard rfl rfl (gd_b rfl) (fun hC => (op_cmp (by simp) (.w rfl hC) (.k rfl) rfl)))<|.n (op_and (.t rfl) (fun h2 => (.w rfl h2)))<|.n (zB (.t rfl))<|.nil) ff rfl fun g4 => ⟨_, _, [], rfl, (.k 2 rfl<|.nil), (.nil), ?_⟩)
  refine zC ?_
  refine J_ret ?_
  refine zD ?_
  refine zQ (.cons (.tmp (.t rfl))<|.nil) (zM (sb_res1 zL) ?_)
  exact ret_b (may_0 (by omega))
 ·try simp only [cmpB, Z] at h1
  have hl0 : (limbs (dyHalf x).m.natAbs).length ≠ 0 := by omega
  have hl1 := words_len (k := 2048) (M := (dyHalf x).m.natAbs) (by have := h.hb; omega)
  refine J_skip ?_
  refine zC ?_
  refine zF (zG [] (.n (zA (.t rfl))<|.n (op_cmp (by simp) (.t rfl) (.k rfl) rfl)<|.n (zA (.t rfl))<|.n (op_guard rfl rfl (gd_b rfl) (fun hC => (zI fd31_1 (.t rfl) rfl)))<|.r 0 (op_guard rfl rfl (gd_b rfl) (fun hC => (zN 0 sc29 (.w rfl hC) rfl zJ rfl)))<|.n (op_guard rfl rfl (gd_b rfl) (fun hC => (zA (.t rfl))))<|.n (op_guard rfl rfl (gd_b rfl) (fun hC => (op_sub (.w rfl hC) (.k rfl) (zO (by omega) (by omega)))))<|.n (op_guard rfl rfl (gd_b rfl) (fun hC => (op_index_m 0 sl29 (.w rfl hC) (.w rfl hC) (by omega) (by omega))))<|.n (op_guard rfl rfl (gd_b rfl) (fun hC => (op_load_sc sc78 (.w rfl hC) rfl)))<|.n (op_guard rfl rfl (gd_b rfl) (fun hC => (op_cmp (by simp) (.w rfl hC) (.k rfl) rfl)))<|.n (op_and (.t rfl) (fun h2 => (.w rfl h2)))<|.n (zA (.t rfl))<|.n (op_guard rfl rfl (gd_b rfl) (fun hC => (zI fd31_1 (.t rfl) rfl)))<|.r 0 (op_guard rfl rfl (gd_b rfl) (fun hC => (zN 0 sc29 (.w rfl hC) rfl zJ rfl)))<|.n (op_guard rfl rfl (gd_b rfl) (fun hC => (op_index_m 0 sl29 (.w rfl hC) (.k rfl) (by omega) (by omega))))<|.n (op_guard rfl rfl (gd_b rfl) (fun hC => (op_load_sc sc78 (.w rfl hC) rfl)))<|.n (op_guard rfl rfl (gd_b rfl) (fun hC => (op_rem (.w rfl hC) (.k rfl) (by omega) rfl)))<|.n (op_guard rfl rfl (gd_b rfl) (fun hC => (op_cmp (by simp) (.w rfl hC) (.k rfl) rfl)))<|.n (op_and (.t rfl) (fun h2 => (.w rfl h2)))<|.n (zA (.t rfl))<|.n (op_guard rfl rfl (gd_b rfl) (fun hC => (zI fd31_2 (.t rfl) rfl)))<|.r 0 (op_guard rfl rfl (gd_b rfl) (fun hC => (zN 0 sc3 (.w rfl hC) rfl zJ rfl)))<|.n (op_guard rfl rfl (gd_b rfl) (fun hC => (op_cmp (by simp) (.w rfl hC) (.k rfl) rfl)))<|.n (op_and (.t rfl) (fun h2 => (.w rfl h2)))<|.n (zA (.t rfl))<|.n (op_guard rfl rfl (gd_b rfl) (fun hC => (zI fd31_2 (.t rfl) rfl)))<|.r 0 (op_guard rfl rfl (gd_b rfl) (fun hC => (zN 0 sc3 (.w rfl hC) rfl zJ rfl)))<|.n (op_guard rfl rfl (gd_b rfl) (fun hC => (op_cmp (by simp) (.w rfl hC) (.k rfl) rfl)))<|.n (op_and (.t rfl) (fun h2 => (.w rfl h2)))<|.n (zB (.t rfl))<|.nil) ff rfl fun g5 => ⟨_, _, [], rfl, (.k 2 rfl<|.nil), (.nil), ?_⟩)
  refine zC ?_
  refine J_ret ?_
  refine zQ (.cons (.tmp (.t rfl))<|.nil) (zM (sb_res1 zL) ?_)
  exact ret_b (may_1 h rfl hl0)
theorem dknow_ok  : Ct Tryz.prog 28 [isv (.int .i64 0)] (isv (.bool true)) := by
 refine Ct.of Tryz.func28 rfl (by kernel_rfl) rfl fun c0 => ?_
 refine zF (zG [] (.n (zB (.k rfl))<|.nil) ff rfl fun g1 => ⟨_, _, [], rfl, (.k 0 rfl<|.nil), (.nil), ?_⟩)
 refine zC ?_
 refine zF (zG [] (.n (zA (.t rfl))<|.n (op_cmp (by simp) (.t rfl) (.k rfl) rfl)<|.n (zA (.t rfl))<|.n (op_guard rfl rfl (gd_b rfl) (fun hC => (zA (.t rfl))))<|.n (op_guard rfl rfl (gd_b rfl) (fun hC => (op_cmp (by simp) (.w rfl hC) (.k rfl) rfl)))<|.n (op_and (.t rfl) (fun h2 => (.w rfl h2)))<|.n (zB (.t rfl))<|.nil) ff rfl fun g2 => ⟨_, _, [], rfl, (.k 2 rfl<|.nil), (.nil), ?_⟩)
 refine zC ?_
 refine J_ret ?_
 refine zQ (.cons (.tmp (.t rfl))<|.nil) (zM (sb_res1 zL) ?_)
 exact ret_b (by decide)
theorem dbey_ok {neg : Bool} : Ct Tryz.prog 32 [isv (.bool neg), isv (.int .i64 0)] (isv (.bool false)) := by
 refine Ct.of Tryz.func32 rfl (by kernel_rfl) rfl fun c0 => ?_
 refine zF (zG [] (.n (zB (.k rfl))<|.nil) ff rfl fun g1 => ⟨_, _, [], rfl, (.k 0 rfl<|.k 1 rfl<|.nil), (.nil), ?_⟩)
 refine zC ?_
 refine zF (zG [] (.n (zA (.t rfl))<|.n (op_cmp (by simp) (.t rfl) (.k rfl) rfl)<|.n (zA (.t rfl))<|.n (op_guard rfl rfl (gd_b rfl) (fun hC => (zA (.t rfl))))<|.n (op_guard rfl rfl (gd_b rfl) (fun hC => (op_cmp (by simp) (.w rfl hC) (.k rfl) rfl)))<|.n (op_guard rfl rfl (gd_b rfl) (fun hC => (zA (.w rfl hC))))<|.n (op_guard rfl rfl (gd_w rfl) (fun hC => (zA (.t rfl))))<|.n (op_guard rfl rfl (gd_b rfl) (fun hC => (op_and (.w rfl hC) (fun h2 => (.w rfl ⟨hC, h2⟩)))))<|.n (op_or (.t rfl) (fun h2 => (.w rfl h2)))<|.n (zA (.t rfl))<|.n (op_guard rfl rfl (gd_b rfl) (fun hC => (zA (.t rfl))))<|.n (op_guard rfl rfl (gd_b rfl) (fun hC => (op_cmp (by simp) (.w rfl hC) (.k rfl) rfl)))<|.n (op_guard rfl rfl (gd_b rfl) (fun hC => (zA (.w rfl hC))))<|.n (op_guard rfl rfl (gd_w rfl) (fun hC => (zA (.t rfl))))<|.n (op_guard rfl rfl (gd_w rfl) (fun hC => (op_not (.w rfl hC))))<|.n (op_guard rfl rfl (gd_b rfl) (fun hC => (op_and (.w rfl hC) (fun h2 => (.w rfl ⟨hC, h2⟩)))))<|.n (op_or (.t rfl) (fun h2 => (.w rfl h2)))<|.n (zB (.t rfl))<|.nil) ff rfl fun g2 => ⟨_, _, [], rfl, (.k 4 rfl<|.nil), (.nil), ?_⟩)
 refine zC ?_
 refine J_ret ?_
 refine zQ (.cons (.tmp (.t rfl))<|.nil) (zM (sb_res1 zL) ?_)
 exact ret_b (by cases neg <;> decide)
theorem dsgn_ok {x : Nat} {neg : Bool} : Ct Tryz.prog 33 [flp x, isv (.bool neg)] (flp (if neg = true then fneg x else x)) := by
 refine Ct.of Tryz.func33 rfl (by kernel_rfl) rfl fun c0 => ?_
 refine zF (zG [] (.n (zB (Lk.fk rfl (by decide +kernel)))<|.nil) ff rfl fun g1 => ⟨_, _, [], rfl, (.k 0 rfl<|.k 1 rfl<|.nil), (.nil), ?_⟩)
 refine zC ?_
 refine zF ?_
 refine zF (zG [] (.n (zA (.t rfl))<|.nil) ff rfl fun g2 => ⟨_, _, [], rfl, (.k 0 rfl<|.k 5 rfl<|.nil), (.nil), ?_⟩)
 refine zC ?_
 refine zH (zK (.t rfl)) (fun h1 => ?_) (fun h1 => ?_)
 ·have h1' := h1
  try simp only [cmpB, Z] at h1
  refine zF (zG [] (.n (zA (.t rfl))<|.n (op_negf (.t rfl))<|.n (zB (.t rfl))<|.nil) ff rfl fun g3 => ⟨_, _, [], rfl, (.k 4 rfl<|.nil), (.nil), ?_⟩)
  refine zC ?_
  refine J_ret ?_
  refine zD ?_
  refine zQ (.cons (.tmp (.t rfl))<|.nil) (zM (sb_res1 zL) ?_)
  exact sb_eq (by rw [if_pos h1'])
 ·have h1' := h1
  try simp only [cmpB, Z] at h1
  refine J_skip ?_
  refine zC ?_
  refine zF (zG [] (.n (zA (.t rfl))<|.n (zB (.t rfl))<|.nil) ff rfl fun g4 => ⟨_, _, [], rfl, (.k 4 rfl<|.nil), (.nil), ?_⟩)
  refine zC ?_
  refine J_ret ?_
  refine zQ (.cons (.tmp (.t rfl))<|.nil) (zM (sb_res1 zL) ?_)
  exact sb_eq (by rw [if_neg (by rw [h1']; decide)])
end Go.Proofs.YtcpififnffmjfaaGreatDoor
