/- Printed by a program of ours (walk.py): walks of what the law tries first. -/
import Derived.Test.YtcpififnffmjfaaGreatDoorZsKb
import Derived.Test.YtcpififnffmjfaaGreatDoorProg
import Derived.KernelRfl
import Derived.Test.YtcpififnffmjfaaGreatDoorZsTypes
import Derived.Test.YtcpififnffmjfaaGreatDoorZsWSmx
import Derived.Test.YtcpififnffmjfaaGreatDoorZsWEfw
import Derived.Test.YtcpififnffmjfaaGreatDoorZsWLdexp
import Derived.Test.YtcpififnffmjfaaGreatDoorZsTps
set_option linter.unusedVariables false
set_option linter.unusedSimpArgs false
set_option maxRecDepth 20000
set_option maxHeartbeats 4000000
namespace Go.Proofs.YtcpififnffmjfaaGreatDoor
open Go Go.Bn
attribute [local irreducible] OpOK
theorem bits5_ok {l : List Nat} (hn : ∀ x, x ∈ l → nanB x = false) : Ct Tryz.prog 19 [fls l, fls l] (isv (.bool true)) := by
 refine Ct.of Tryz.func19 rfl (by kernel_rfl) rfl fun c0 => ?_
 refine J_len 0 rfl fun hlen => ?_
 refine zF (zG [] (.n (zB (.k rfl))<|.nil) ff rfl fun g1 => ⟨_, _, [], rfl, (.k 0 rfl<|.k 1 rfl<|.nil), (.nil), ?_⟩)
 refine zC ?_
 refine zF ?_
 refine zF (zG [] (.n (zA (.t rfl))<|.n (op_len_m sl24 (.t rfl))<|.n (zA (.t rfl))<|.n (op_len_m sl24 (.t rfl))<|.n (op_cmp (by simp) (.t rfl) (.t rfl) rfl)<|.nil) ff rfl fun g2 => ⟨_, _, [], rfl, (.k 0 rfl<|.k 1 rfl<|.k 10 rfl<|.nil), (.nil), ?_⟩)
 refine zC ?_
 refine zH (zK (.t rfl)) (fun h1 => ?_) (fun h1 => ?_)
 ·have h1' := h1
  try simp only [cmpB, Z] at h1
  exact absurd h1' (by simp [cmpB])
 ·have h1' := h1
  try simp only [cmpB, Z] at h1
  refine J_skip ?_
  refine zC ?_
  refine zF ?_
  refine zF (zG [] (.n (zA (.t rfl))<|.n (op_len_m sl24 (.t rfl))<|.n (zA (.k rfl))<|.nil) ff rfl fun g3 => ⟨_, _, [], rfl, (.k 0 rfl<|.k 1 rfl<|.k 12 rfl<|.k 13 rfl<|.nil), (.nil), ?_⟩)
  refine zC ?_
  refine zT ?_
  refine J_loopc (α := Nat) (fun k => k ≤ l.length) (fun k => l.length - k) (fun k restR => (13, isv (.int .i64 (k : Int))) :: restR) (fun k restS => restS) (ρc := [(0, _), (1, _), (12, _)]) (σc := []) 0 (by exact Nat.zero_le _) (To.pick (fun _ => .sub (t := 13) rfl (sp_eq (by rfl))<|.k 0 rfl<|.k 1 rfl<|.k 12 rfl<|.nil) (fun _ => .nil) (ks := []) rfl) (fun k hI => ?_)
  refine zF (zG [] (.n (op_cmp (by simp) (.t rfl) (.t rfl) rfl)<|.nil) ff rfl fun g4 => ⟨_, _, [], rfl, (.k 0 rfl<|.k 1 rfl<|.k 12 rfl<|.k 13 rfl<|.k 14 rfl<|.nil), (.nil), ?_⟩)
  refine zC ?_
  refine zF ?_
  refine zH (zK (.t rfl)) (fun h2 => ?_) (fun h2 => ?_)
  ·try simp only [cmpB, Z] at h2
   have hnk := hn _ (mem_getD 0 (show ((k : Nat) : Int).toNat < l.length by omega))
   refine J_skip ?_
   refine zC ?_
   refine zF ?_
   refine zT ?_
   refine zF (zG [] (.n (zA (.t rfl))<|.n (zB (.t rfl))<|.nil) ff rfl fun g5 => ⟨_, _, [], rfl, (.k 0 rfl<|.k 1 rfl<|.k 5 rfl<|.k 12 rfl<|.k 13 rfl<|.nil), (.nil), ?_⟩)
   refine zC ?_
   refine zF (zG [[], [], [0, 1], [0, 1, 2], [0, 1, 2, 3], [], [], [5, 6], [5, 6, 7], [0, 1, 2, 3, 4, 5, 6, 7, 8], [0, 1, 2, 3, 4, 5, 6, 7, 8, 9]] (.n (zA (.t rfl))<|.n (zA (.t rfl))<|.n (op_index_m 0 sl24 (.t rfl) (.t rfl) (by omega) (by omega))<|.n (op_load_sc sc28 (.t rfl) rfl)<|.n (op_f64bitsn bitsX hnk (.t rfl))<|.n (zA (.t rfl))<|.n (zA (.t rfl))<|.n (op_index_m 0 sl24 (.t rfl) (.t rfl) (by omega) (by omega))<|.n (op_load_sc sc28 (.t rfl) rfl)<|.n (op_f64bitsn bitsX hnk (.t rfl))<|.n (op_cmp (by simp) (.t rfl) (.t rfl) rfl)<|.nil) (fun _ => mixed) rfl fun g6 => ⟨_, _, [], rfl, (.k 0 rfl<|.k 1 rfl<|.k 12 rfl<|.k 13 rfl<|.k 26 rfl<|.nil), (.nil), ?_⟩)
   refine zC ?_
   refine zH (zK (.t rfl)) (fun h3 => ?_) (fun h3 => ?_)
   ·have h3' := h3
    try simp only [cmpB, Z] at h3
    exact absurd h3' (by simp [cmpB])
   ·have h3' := h3
    try simp only [cmpB, Z] at h3
    refine J_skip ?_
    refine zR ?_
    refine zC ?_
    refine (zG [] (.n (op_add (.t rfl) (.k rfl) (zO (by omega) (by omega)))<|.n (zA (.t rfl))<|.nil) ff rfl fun g7 => ⟨_, _, [], rfl, (.k 0 rfl<|.k 1 rfl<|.k 12 rfl<|.k 13 rfl<|.nil), (.nil), ?_⟩)
    exact JN_again (k + 1) (by omega) (by omega) (To.pick (fun _ => .sub (t := 13) rfl (sp_eq (by rfl))<|.k 0 rfl<|.k 1 rfl<|.k 12 rfl<|.nil) (fun _ => .nil) (ks := []) rfl)
  ·try simp only [cmpB, Z] at h2
   refine J_exit ?_
   refine zE ?_
   refine zE ?_
   refine zS ?_
   refine zC ?_
   refine zF (zG [] (.n (zB (.k rfl))<|.nil) ff rfl fun g8 => ⟨_, _, [], rfl, (.k 4 rfl<|.nil), (.nil), ?_⟩)
   refine zC ?_
   refine J_ret ?_
   refine zQ (.cons (.tmp (.t rfl))<|.nil) (zM (sb_res1 zL) ?_)
   exact zL
theorem sexa_aw : Ct Tryz.prog 8 [slc 3 1 [flp ONE, flp (P2 100), flp (fneg (P2 100))]] (tupp [flp ONE, isv (.int .i64 0)]) := (by have h := sexa_ok (l := AW1) aw1_sum.1 aw1_sum.2 (by decide); rw [aw1_exa] at h; exact h)
theorem grow_aw : Ct Tryz.prog 13 [slc 1 1 [flp ONE], flp (P2 60)] (tupp [fls [ONE, P2 60], isv (.int .i64 0)]) := (by have h := eGrow_ok aw2_h; rw [aw2_grow] at h; exact h)
theorem bits_aw : Ct Tryz.prog 19 [fls [ONE, P2 60], slc 2 1 [flp ONE, flp (P2 60)]] (isv (.bool true)) := bits5_ok aw2_nan
theorem awake5_ok  : Ct Tryz.prog 6 [] (isv (.bool true)) := by
 refine Ct.of Tryz.func6 rfl (by kernel_rfl) rfl fun c0 => ?_
 refine zF (zG [] (.n (zB (.k rfl))<|.nil) ff rfl fun g1 => ⟨_, _, [], rfl, (.nil), (.nil), ?_⟩)
 refine zC ?_
 refine zF (zG [] (.n (zP (Ldexp_ok (by omega) (by omega)) ⟨(Lk.fk rfl (by decide +kernel)), (.k rfl),  trivial⟩)<|.n (zP (Ldexp_ok (by omega) (by omega)) ⟨(Lk.fk rfl (by decide +kernel)), (.k rfl),  trivial⟩)<|.n (op_negf (.t rfl))<|.n (op_buildSlice sl24 zr28 rfl rfl rfl rfl (.cons rfl (Lk.fk rfl (by decide +kernel)) co_flp rfl (puts_l rfl (Nat.le_of_ble_eq_true rfl)) (.cons rfl (.t rfl) co_flp rfl (puts_l rfl (Nat.le_of_ble_eq_true rfl)) (.cons rfl (.t rfl) co_flp rfl (puts_l rfl (Nat.le_of_ble_eq_true rfl)) .nil))))<|.n (zP (sexa_aw) ⟨(.t rfl),  trivial⟩)<|.n (zA (.t rfl))<|.n (op_extract (.t rfl) rfl)<|.n (op_extract (.t rfl) rfl)<|.n (zB (.t rfl))<|.n (zB (.t rfl))<|.nil) ff rfl fun g2 => ⟨_, _, [], rfl, (.k 1 rfl<|.k 2 rfl<|.nil), (.nil), ?_⟩)
 refine zC ?_
 refine zF (zG [] (.n (op_buildSlice sl24 zr28 rfl rfl rfl rfl (.cons rfl (Lk.fk rfl (by decide +kernel)) co_flp rfl (puts_l rfl (Nat.le_of_ble_eq_true rfl)) .nil))<|.n (zP (Ldexp_ok (by omega) (by omega)) ⟨(Lk.fk rfl (by decide +kernel)), (.k rfl),  trivial⟩)<|.n (zP (grow_aw) ⟨(.t rfl), (.t rfl),  trivial⟩)<|.n (zA (.t rfl))<|.n (op_extract (.t rfl) rfl)<|.n (op_extract (.t rfl) rfl)<|.n (zB (.t rfl))<|.n (zB (.t rfl))<|.nil) ff rfl fun g3 => ⟨_, _, [], rfl, (.k 1 rfl<|.k 2 rfl<|.k 3 rfl<|.k 4 rfl<|.nil), (.nil), ?_⟩)
 refine zC ?_
 refine zF (zG [] (.n (zA (.t rfl))<|.n (op_cmp (by simp) (.t rfl) (.k rfl) rfl)<|.n (zA (.t rfl))<|.n (op_guard rfl rfl (gd_b rfl) (fun hC => (zA (.t rfl))))<|.n (op_guard rfl rfl (gd_b rfl) (fun hC => (op_fcmp (by simp) (.w rfl hC) (Lk.fk rfl (by decide +kernel)) rfl)))<|.n (op_and (.t rfl) (fun h2 => (.w rfl h2)))<|.n (zA (.t rfl))<|.n (op_guard rfl rfl (gd_b rfl) (fun hC => (zA (.t rfl))))<|.n (op_guard rfl rfl (gd_b rfl) (fun hC => (op_cmp (by simp) (.w rfl hC) (.k rfl) rfl)))<|.n (op_and (.t rfl) (fun h2 => (.w rfl h2)))<|.n (zA (.t rfl))<|.n (op_guard rfl rfl (gd_b rfl) (fun hC => (zA (.t rfl))))<|.n (op_guard rfl rfl (gd_b rfl) (fun hC => (zP (Ldexp_ok (by omega) (by omega)) ⟨(Lk.fk rfl (by decide +kernel)), (.k rfl),  trivial⟩)))<|.n (op_guard rfl rfl (gd_b rfl) (fun hC => (op_buildSlice sl24 zr28 rfl rfl rfl rfl (.cons rfl (Lk.fk rfl (by decide +kernel)) co_flp rfl (puts_l rfl (Nat.le_of_ble_eq_true rfl)) (.cons rfl (.w rfl hC) co_flp rfl (puts_l rfl (Nat.le_of_ble_eq_true rfl)) .nil)))))<|.n (op_guard rfl rfl (gd_b rfl) (fun hC => (zP (bits_aw) ⟨(.w rfl hC), (.w rfl hC),  trivial⟩)))<|.n (op_and (.t rfl) (fun h2 => (.w rfl h2)))<|.n (zB (.t rfl))<|.nil) ff rfl fun g4 => ⟨_, _, [], rfl, (.k 0 rfl<|.nil), (.nil), ?_⟩)
 refine zC ?_
 refine J_ret ?_
 refine zQ (.cons (.tmp (.t rfl))<|.nil) (zM (sb_res1 zL) ?_)
 exact ret_b (by first | rfl | decide +kernel)
end Go.Proofs.YtcpififnffmjfaaGreatDoor
