/- Printed by a program of ours (walk.py): the walk of the law of sums. -/
import Derived.Test.YtcpififnffmjfaaGreatDoorZsKb
import Derived.Test.YtcpififnffmjfaaGreatDoorProg
import Derived.KernelRfl
import Derived.Test.YtcpififnffmjfaaGreatDoorZsTypes
import Derived.Test.YtcpififnffmjfaaGreatDoorZsWTps
set_option linter.unusedVariables false
set_option linter.unusedSimpArgs false
set_option maxRecDepth 20000
set_option maxHeartbeats 4000000
namespace Go.Proofs.YtcpififnffmjfaaGreatDoor
open Go Go.Bn
attribute [local irreducible] OpOK
theorem top_ok {bs : List Nat} {ps : List Int} (hb : ∀ b, b ∈ bs → b < 2 ^ 64) (hl8 : bs.length * 8 ≤ 140737488355328) (hps : ps.length ≤ 9000000000000000000) : Ct Tryz.prog 3 [wsl bs, ils .i64 ps] (isv (.bool true)) := by
 refine Ct.of Tryz.func3 rfl (by kernel_rfl) rfl fun c0 => ?_
 refine zF (zG [] (.n (zB (.k rfl))<|.nil) ff rfl fun g1 => ⟨_, _, [], rfl, (.k 0 rfl<|.k 1 rfl<|.nil), (.nil), ?_⟩)
 refine zC ?_
 refine zF (zG [] (.n (zA (.t rfl))<|.n (zP (of64_ok hb hl8) ⟨(.t rfl),  trivial⟩)<|.n (zB (.t rfl))<|.nil) ff rfl fun g2 => ⟨_, _, [], rfl, (.k 1 rfl<|.k 5 rfl<|.nil), (.nil), ?_⟩)
 refine zC ?_
 refine zF ?_
 refine zF (zG [] (.n (zA (.t rfl))<|.n (op_len_m sl24 (.t rfl))<|.n (op_cmp (by simp) (.t rfl) (.k rfl) rfl)<|.n (zA (.t rfl))<|.n (op_guard rfl rfl (gd_b rfl) (fun hC => (zA (.t rfl))))<|.n (op_guard rfl rfl (gd_b rfl) (fun hC => (zP (rall_ok) ⟨(.w rfl hC),  trivial⟩)))<|.n (op_guard rfl rfl (gd_b rfl) (fun hC => (op_not (.w rfl hC))))<|.n (op_or (.t rfl) (fun h2 => (.w rfl h2)))<|.n (zA (.t rfl))<|.n (op_guard rfl rfl (gd_b rfl) (fun hC => (zP (awake5_ok) trivial)))<|.n (op_guard rfl rfl (gd_b rfl) (fun hC => (op_not (.w rfl hC))))<|.n (op_or (.t rfl) (fun h2 => (.w rfl h2)))<|.nil) ff rfl fun g3 => ⟨_, _, [], rfl, (.k 1 rfl<|.k 5 rfl<|.k 36 rfl<|.nil), (.nil), ?_⟩)
 refine zC ?_
 refine zH (zK (.t rfl)) (fun h1 => ?_) (fun h1 => ?_)
 ·try simp only [cmpB, Z] at h1
  refine zF (zG [] (.n (zP (awake5_ok) trivial)<|.n (zB (.t rfl))<|.nil) ff rfl fun g4 => ⟨_, _, [], rfl, (.k 4 rfl<|.nil), (.nil), ?_⟩)
  refine zC ?_
  refine J_ret ?_
  refine zD ?_
  refine zQ (.cons (.tmp (.t rfl))<|.nil) (zM (sb_res1 zL) ?_)
  exact zL
 ·try simp only [cmpB, Z] at h1
  have hl30 : (bs.map cn).length ≤ 30 := by have := h1.1.1; omega
  have hFa : FinA (bs.map cn) := top_fin hb h1.1.2
  obtain ⟨hSa, hPa⟩ := fin_sumH (l := bs.map cn) (by omega) hFa.w
  have hEa := put_dyE hPa
  have hl5 : (bs.map cn).length ≤ 100000 := by omega
  have hna : nanB (rndD (decide ((dyHalf (dySum (bs.map cn) (bs.map cn).length)).m < 0)) (dyHalf (dySum (bs.map cn) (bs.map cn).length)).m.natAbs (dyE (dySum (bs.map cn) (bs.map cn).length))) = false := rndA_nan hFa (by omega)
  refine J_skip ?_
  refine zC ?_
  refine zF (zG [] (.n (zB (.k rfl))<|.nil) ff rfl fun g5 => ⟨_, _, [], rfl, (.k 1 rfl<|.k 5 rfl<|.k 6 rfl<|.nil), (.nil), ?_⟩)
  refine zC ?_
  refine J_to (To.emps 1) ?_
  refine J_to (To.res 0 (r' := som (.slice none 0 0) flp [] 28) rfl som_nil rfl) ?_
  refine J_to (To.emps 1) ?_
  refine J_to (To.res 1 (r' := som (.slice none 0 0) flp [] 28) rfl som_nil rfl) ?_
  refine zF (zG [] (.n (zA (.t rfl))<|.w 1 (op_append_ms (mk := flp) 1 sl24 zr28 rfl (.k rfl) (.t rfl) rfl (by simp; omega) (by simp; omega))<|.n (op_assign_ve rfl rfl)<|.nil) ff rfl fun g6 => ⟨_, _, [0, 1], rfl, (.k 1 rfl<|.k 5 rfl<|.k 6 rfl<|.k 7 rfl<|.nil), (.k 0 rfl<|.k 1 rfl<|.nil), ?_⟩)
  refine zC ?_
  refine zF ?_
  refine zF (zG [] (.n (zB (.k rfl))<|.nil) ff rfl fun g7 => ⟨_, _, [0, 1], rfl, (.k 1 rfl<|.k 5 rfl<|.k 6 rfl<|.k 7 rfl<|.k 8 rfl<|.nil), (.k 0 rfl<|.k 1 rfl<|.nil), ?_⟩)
  refine zC ?_
  refine zT ?_
  refine J_loopc (α := List Nat × List Nat × Nat × Value × Value) (fun y => (y.2.1 ++ y.1).Perm (bs.map cn) ∧ y.2.2.1 + y.1.length = (bs.map cn).length) (fun y => y.1.length) (fun y restR => (8, isv (.int .i64 (y.2.2.1 : Int))) :: (7, isv y.2.2.2.1) :: (6, isv y.2.2.2.2) :: restR) (fun y restS => som y.2.2.2.1 flp y.1 28 :: som y.2.2.2.2 flp y.2.1 28 :: restS) (ρc := [(1, _), (5, _)]) (σc := []) ((bs.map cn), [], 0, (g6 39), .slice none 0 0) (by exact ⟨List.Perm.refl _, by simp⟩) (To.pick (fun _ => .sub (t := 8) rfl (sp_eq (by rfl))<|.sub (t := 7) rfl (sp_eq (by rfl))<|.sub (t := 6) rfl (sp_eq (by rfl))<|.k 1 rfl<|.k 5 rfl<|.nil) (fun _ => .sub 1 rfl ((fun _ _ h => h))<|.sub 0 rfl ((fun _ _ h => h))<|.nil) (ks := [1, 0]) rfl) (fun y hI => ?_)
  obtain ⟨L, p, s, lv, pv⟩ := y
  try simp only at hI
  show J _ _ ((8, isv (.int .i64 (s : Int))) :: (7, isv lv) :: (6, isv pv) :: _) (som lv flp L 28 :: som pv flp p 28 :: _) _ _
  refine zF ?_
  refine zF (zG [] (.n (zA (.t rfl))<|.r 0 (op_len_som 0 sl24 (.t rfl) rfl)<|.n (op_cmp (by simp) (.t rfl) (.k rfl) rfl)<|.nil) ff rfl fun g8 => ⟨_, _, [0, 1], rfl, (.k 1 rfl<|.k 5 rfl<|.k 6 rfl<|.k 7 rfl<|.k 8 rfl<|.k 42 rfl<|.nil), (.k 0 rfl<|.k 1 rfl<|.nil), ?_⟩)
  refine zC ?_
  refine zH (zK (.t rfl)) (fun h2 => ?_) (fun h2 => ?_)
  ·try simp only [cmpB, Z] at h2
   obtain ⟨hI1, hI2⟩ := hI
   have hI2 : s + L.length = (bs.map cn).length := hI2
   have hpl : p.length + L.length = (bs.map cn).length := by have := hI1.length_eq; rw [List.length_append] at this; exact this
   refine J_skip ?_
   refine zC ?_
   refine zF ?_
   refine zT ?_
   refine zF (zG [] (.n (zB (.k rfl))<|.nil) ff rfl fun g9 => ⟨_, _, [0, 1], rfl, (.k 1 rfl<|.k 5 rfl<|.k 6 rfl<|.k 7 rfl<|.k 8 rfl<|.k 9 rfl<|.nil), (.k 0 rfl<|.k 1 rfl<|.nil), ?_⟩)
   refine zC ?_
   refine zF ?_
   refine zF (zG [] (.n (zA (.t rfl))<|.n (zA (.t rfl))<|.n (op_len_m sl23 (.t rfl))<|.n (op_cmp (by simp) (.t rfl) (.t rfl) rfl)<|.nil) ff rfl fun g10 => ⟨_, _, [0, 1], rfl, (.k 1 rfl<|.k 5 rfl<|.k 6 rfl<|.k 7 rfl<|.k 8 rfl<|.k 9 rfl<|.k 48 rfl<|.nil), (.k 0 rfl<|.k 1 rfl<|.nil), ?_⟩)
   refine zC ?_
   refine zH (zK (.t rfl)) (fun h3 => ?_) (fun h3 => ?_)
   ·try simp only [cmpB, Z] at h3
    have hL0 : 0 < L.length := by omega
    obtain ⟨hr0, hr1⟩ := pickI_rng (z := ps.getD ((s : Nat) : Int).toNat 0) hL0
    unfold pickI at hr0 hr1
    have ht1 := Int.tmod_lt_of_pos (ps.getD ((s : Nat) : Int).toNat 0) (show (0 : Int) < (L.length : Int) by omega)
    have ht2 := Int.lt_tmod_of_pos (ps.getD ((s : Nat) : Int).toNat 0) (show (0 : Int) < (L.length : Int) by omega)
    refine (zG [] (.n (zA (.t rfl))<|.n (zA (.t rfl))<|.n (op_index_m 0 sl23 (.t rfl) (.t rfl) (by omega) (by omega))<|.n (op_load_sc sc3 (.t rfl) rfl)<|.n (zA (.t rfl))<|.r 0 (op_len_som 0 sl24 (.t rfl) rfl)<|.n (op_rem (.t rfl) (.t rfl) (by omega) rfl)<|.n (zA (.t rfl))<|.r 0 (op_len_som 0 sl24 (.t rfl) rfl)<|.n (op_add (.t rfl) (.t rfl) (zO (by omega) (by omega)))<|.n (zA (.t rfl))<|.r 0 (op_len_som 0 sl24 (.t rfl) rfl)<|.n (op_rem (.t rfl) (.t rfl) (by omega) rfl)<|.n (zB (.t rfl))<|.nil) ff rfl fun g11 => ⟨_, _, [0, 1], rfl, (.k 1 rfl<|.k 5 rfl<|.k 6 rfl<|.k 7 rfl<|.k 8 rfl<|.k 9 rfl<|.nil), (.k 0 rfl<|.k 1 rfl<|.nil), ?_⟩)
    refine zC ?_
    refine zF (zG [] (.n (zA (.t rfl))<|.n (zA (.t rfl))<|.n (zA (.t rfl))<|.r 0 (op_index_som 0 sl24 (.t rfl) (.t rfl) rfl (by omega) (by omega))<|.r 0 (op_get_som 0 0 sc28 (.t rfl) rfl (by omega))<|.n (op_buildSlice sl24 zr28 rfl rfl rfl rfl (.cons rfl (.t rfl) co_flp rfl (puts_l rfl (Nat.le_of_ble_eq_true rfl)) .nil))<|.w 1 (op_append_m 1 sl24 zr28 rfl (.t rfl) (.t rfl) rfl (by omega) (by omega))<|.n (op_assign_ve rfl rfl)<|.nil) ff rfl fun g12 => ⟨_, _, [0, 1], rfl, (.k 1 rfl<|.k 5 rfl<|.k 6 rfl<|.k 7 rfl<|.k 8 rfl<|.k 9 rfl<|.nil), (.k 0 rfl<|.k 1 rfl<|.nil), ?_⟩)
    refine zC ?_
    refine (zG [[], [], [0, 1], [], [], [4], [3, 4, 5], [0, 1, 2, 3, 4, 5, 6], [0, 1, 2, 3, 4, 5, 6, 7]] (.n (zA (.t rfl))<|.n (zA (.t rfl))<|.r 0 (op_slice_cut 0 sl24 (.t rfl) (.t rfl) rfl (by omega) (by omega) (by omega))<|.n (zA (.t rfl))<|.n (zA (.t rfl))<|.n (op_add (.t rfl) (.k rfl) (zO (by omega) (by omega)))<|.r 0 (op_slice_vslm 0 sl24 (.t rfl) (.t rfl) rfl (by omega) (by omega) (by omega))<|.w 0 (op_append_self 0 sl24 zr28 rfl (.t rfl) (.t rfl) rfl (by omega) (by omega) (by omega))<|.n (op_assign_ve rfl rfl)<|.nil) (fun _ => mixed) rfl fun g13 => ⟨_, _, [0, 1], rfl, (.k 1 rfl<|.k 5 rfl<|.k 6 rfl<|.k 7 rfl<|.k 8 rfl<|.nil), (.k 0 rfl<|.k 1 rfl<|.nil), ?_⟩)
    refine zR ?_
    refine zC ?_
    refine (zG [] (.n (zA (.t rfl))<|.n (op_add (.t rfl) (.k rfl) (zO (by omega) (by omega)))<|.n (zB (.t rfl))<|.nil) ff rfl fun g14 => ⟨_, _, [0, 1], rfl, (.k 1 rfl<|.k 5 rfl<|.k 6 rfl<|.k 7 rfl<|.k 8 rfl<|.nil), (.k 0 rfl<|.k 1 rfl<|.nil), ?_⟩)
    exact JN_again (_, _, s + 1, (g13 76), (g12 68)) (by exact ⟨pick_perm hI1 (by omega), by show s + 1 + (L.take _ ++ L.drop _).length = _; rw [List.length_append, List.length_take, List.length_drop]; omega⟩) (by show (L.take _ ++ L.drop _).length < L.length; rw [List.length_append, List.length_take, List.length_drop]; omega) (To.pick (fun _ => .sub (t := 8) rfl (sp_eq (by rfl))<|.sub (t := 7) rfl (sp_eq (by rfl))<|.sub (t := 6) rfl (sp_eq (by rfl))<|.k 1 rfl<|.k 5 rfl<|.nil) (fun _ => .sub 0 rfl ((fun _ _ h => h))<|.sub 1 rfl ((fun _ _ h => h))<|.nil) (ks := [0, 1]) rfl)
   ·try simp only [cmpB, Z] at h3
    refine J_skip ?_
    refine zC ?_
    refine zF (zG [] (.n (zA (.t rfl))<|.n (zA (.t rfl))<|.n (zA (.t rfl))<|.r 0 (op_index_som 0 sl24 (.t rfl) (.t rfl) rfl (by omega) (by omega))<|.r 0 (op_get_som 0 0 sc28 (.t rfl) rfl (by omega))<|.n (op_buildSlice sl24 zr28 rfl rfl rfl rfl (.cons rfl (.t rfl) co_flp rfl (puts_l rfl (Nat.le_of_ble_eq_true rfl)) .nil))<|.w 1 (op_append_m 1 sl24 zr28 rfl (.t rfl) (.t rfl) rfl (by omega) (by omega))<|.n (op_assign_ve rfl rfl)<|.nil) ff rfl fun g15 => ⟨_, _, [0, 1], rfl, (.k 1 rfl<|.k 5 rfl<|.k 6 rfl<|.k 7 rfl<|.k 8 rfl<|.k 9 rfl<|.nil), (.k 0 rfl<|.k 1 rfl<|.nil), ?_⟩)
    refine zC ?_
    refine (zG [[], [], [0, 1], [], [], [4], [3, 4, 5], [0, 1, 2, 3, 4, 5, 6], [0, 1, 2, 3, 4, 5, 6, 7]] (.n (zA (.t rfl))<|.n (zA (.t rfl))<|.r 0 (op_slice_cut 0 sl24 (.t rfl) (.t rfl) rfl (by omega) (by omega) (by omega))<|.n (zA (.t rfl))<|.n (zA (.t rfl))<|.n (op_add (.t rfl) (.k rfl) (zO (by omega) (by omega)))<|.r 0 (op_slice_vslm 0 sl24 (.t rfl) (.t rfl) rfl (by omega) (by omega) (by omega))<|.w 0 (op_append_self 0 sl24 zr28 rfl (.t rfl) (.t rfl) rfl (by omega) (by omega) (by omega))<|.n (op_assign_ve rfl rfl)<|.nil) (fun _ => mixed) rfl fun g16 => ⟨_, _, [0, 1], rfl, (.k 1 rfl<|.k 5 rfl<|.k 6 rfl<|.k 7 rfl<|.k 8 rfl<|.nil), (.k 0 rfl<|.k 1 rfl<|.nil), ?_⟩)
    refine zR ?_
    refine zC ?_
    refine (zG [] (.n (zA (.t rfl))<|.n (op_add (.t rfl) (.k rfl) (zO (by omega) (by omega)))<|.n (zB (.t rfl))<|.nil) ff rfl fun g17 => ⟨_, _, [0, 1], rfl, (.k 1 rfl<|.k 5 rfl<|.k 6 rfl<|.k 7 rfl<|.k 8 rfl<|.nil), (.k 0 rfl<|.k 1 rfl<|.nil), ?_⟩)
    exact JN_again (_, _, s + 1, (g16 76), (g15 68)) (by exact ⟨pick_perm hI1 (by omega), by show s + 1 + (L.take _ ++ L.drop _).length = _; rw [List.length_append, List.length_take, List.length_drop]; omega⟩) (by show (L.take _ ++ L.drop _).length < L.length; rw [List.length_append, List.length_take, List.length_drop]; omega) (To.pick (fun _ => .sub (t := 8) rfl (sp_eq (by rfl))<|.sub (t := 7) rfl (sp_eq (by rfl))<|.sub (t := 6) rfl (sp_eq (by rfl))<|.k 1 rfl<|.k 5 rfl<|.nil) (fun _ => .sub 0 rfl ((fun _ _ h => h))<|.sub 1 rfl ((fun _ _ h => h))<|.nil) (ks := [0, 1]) rfl)
  ·try simp only [cmpB, Z] at h2
   have hL0 : L = [] := List.length_eq_zero_iff.1 (by omega)
   obtain ⟨hI1, hI2⟩ := hI
   subst hL0
   have hper : p.Perm (bs.map cn) := by have := hI1; simpa using this
   have hFp := perm_fin hper hFa
   have hpn := hper.length_eq
   obtain ⟨hSp, hPp⟩ := fin_sumH (l := p) (by omega) hFp.w
   have hp46 : p.length ≤ 4096 := by omega
   have hp5 : p.length ≤ 100000 := by omega
   obtain ⟨hno1, hno2, hno3⟩ := ans_no hper hFa (by omega)
   refine J_exit ?_
   refine zE ?_
   refine zE ?_
   refine zS ?_
   refine zC ?_
   refine J_to (To.freeze 1 (fun _ h => h) rfl frz_som rfl) ?_
   refine J_to (To.slot 6 rfl (q := fls p) (sb_fk 0 rfl)) ?_
   refine J_to (To.emps 1) ?_
   refine zF (zG [] (.n (zA (.t rfl))<|.n (zP (dsum_ok (by assumption) (by assumption) (by assumption)) ⟨(.t rfl),  trivial⟩)<|.n (zA (.t rfl))<|.n (op_extract (.t rfl) rfl)<|.n (op_extract (.t rfl) rfl)<|.w 1 (op_alloc 1 zr31 rfl rfl)<|.w 1 (op_store_new 1 rfl (.t rfl) co_agg sz31 rfl rfl)<|.n (zB (.t rfl))<|.nil) ff rfl fun g18 => ⟨_, _, [0, 1], rfl, (.k 6 rfl<|.k 10 rfl<|.k 11 rfl<|.nil), (.k 0 rfl<|.k 1 rfl<|.nil), ?_⟩)
   refine zC ?_
   refine zF (zG [] (.n (zA (.t rfl))<|.n (zP (sexa_ok (by assumption) (by assumption) (by assumption)) ⟨(.t rfl),  trivial⟩)<|.n (zA (.t rfl))<|.n (op_extract (.t rfl) rfl)<|.n (op_extract (.t rfl) rfl)<|.n (zB (.t rfl))<|.n (zB (.t rfl))<|.nil) ff rfl fun g19 => ⟨_, _, [0, 1], rfl, (.k 6 rfl<|.k 10 rfl<|.k 11 rfl<|.k 12 rfl<|.k 13 rfl<|.nil), (.k 0 rfl<|.k 1 rfl<|.nil), ?_⟩)
   refine zC ?_
   refine zF ?_
   refine zF (zG [] (.n (zA (.t rfl))<|.n (op_cmp (by simp) (.t rfl) (.k rfl) rfl)<|.n (zA (.t rfl))<|.n (op_guard rfl rfl (gd_b rfl) (fun hC => (zA (.t rfl))))<|.n (op_guard rfl rfl (gd_b rfl) (fun hC => (op_cmp (by simp) (.w rfl hC) (.k rfl) rfl)))<|.n (op_or (.t rfl) (fun h2 => (.w rfl h2)))<|.nil) ff rfl fun g20 => ⟨_, _, [0, 1], rfl, (.k 6 rfl<|.k 10 rfl<|.k 12 rfl<|.k 92 rfl<|.nil), (.k 0 rfl<|.k 1 rfl<|.nil), ?_⟩)
   refine zC ?_
   refine zH (zK (.t rfl)) (fun h4 => ?_) (fun h4 => ?_)
   ·have h4' := h4
    try simp only [cmpB, Z] at h4
    exact absurd h4' (by decide)
   ·have h4' := h4
    try simp only [cmpB, Z] at h4
    refine J_skip ?_
    refine zC ?_
    refine zF (zG [] (.r 1 (op_get_ag 1 ag31 (.t rfl) rfl zJ rfl rfl)<|.n (zP (dround_ok (by assumption) (by assumption)) ⟨(.t rfl), (.k rfl),  trivial⟩)<|.n (zA (.t rfl))<|.n (op_extract (.t rfl) rfl)<|.n (op_extract (.t rfl) rfl)<|.n (zB (.t rfl))<|.n (zB (.t rfl))<|.nil) ff rfl fun g21 => ⟨_, _, [0, 1], rfl, (.k 6 rfl<|.k 10 rfl<|.k 11 rfl<|.k 12 rfl<|.k 14 rfl<|.nil), (.k 0 rfl<|.k 1 rfl<|.nil), ?_⟩)
    refine zC ?_
    refine zF ?_
    refine zF (zG [] (.n (zA (.t rfl))<|.n (op_cmp (by simp) (.t rfl) (.k rfl) rfl)<|.n (zA (.t rfl))<|.n (op_guard rfl rfl (gd_b rfl) (fun hC => (zA (.t rfl))))<|.n (op_guard rfl rfl (gd_b rfl) (fun hC => (zA (.t rfl))))<|.n (op_guard rfl rfl (gd_b rfl) (fun hC => (op_fcmp (by simp) (.w rfl hC) (.w rfl hC) rfl)))<|.n (op_or (.t rfl) (fun h2 => (.w rfl h2)))<|.n (zA (.t rfl))<|.n (op_guard rfl rfl (gd_b rfl) (fun hC => (zA (.t rfl))))<|.n (op_guard rfl rfl (gd_b rfl) (fun hC => (op_fcmp (by simp) (.w rfl hC) (Lk.fk rfl (by decide +kernel)) rfl)))<|.n (op_guard rfl rfl (gd_b rfl) (fun hC => (zA (.w rfl hC))))<|.n (op_guard rfl rfl (gd_w rfl) (fun hC => (zA (.t rfl))))<|.n (op_guard rfl rfl (gd_w rfl) (fun hC => (op_f64bitsn bitsX hno3 (.w rfl hC))))<|.n (op_guard rfl rfl (gd_w rfl) (fun hC => (zA (.t rfl))))<|.n (op_guard rfl rfl (gd_w rfl) (fun hC => (op_f64bitsn bitsX hna (.w rfl hC))))<|.n (op_guard rfl rfl (gd_w rfl) (fun hC => (op_cmp (by simp) (.w rfl hC) (.w rfl hC) rfl)))<|.n (op_guard rfl rfl (gd_b rfl) (fun hC => (op_and (.w rfl hC) (fun h2 => (.w rfl ⟨hC, h2⟩)))))<|.n (op_or (.t rfl) (fun h2 => (.w rfl h2)))<|.nil) ff rfl fun g22 => ⟨_, _, [0, 1], rfl, (.k 6 rfl<|.k 10 rfl<|.k 115 rfl<|.nil), (.k 0 rfl<|.k 1 rfl<|.nil), ?_⟩)
    refine zC ?_
    refine zH (zK (.t rfl)) (fun h5 => ?_) (fun h5 => ?_)
    ·have h5' := h5
     try simp only [cmpB, Z] at h5
     exact (h5.elim (fun h9 => h9.elim (fun h => h trivial) (fun h => Bool.noConfusion (hno1.symm.trans h))) (fun h => h.2 (congrArg (fun x : Nat => (x : Int)) (hno2 h.1)))).elim
    ·have h5' := h5
     try simp only [cmpB, Z] at h5
     clear h5 h5'
     refine J_skip ?_
     refine zC ?_
     refine zF (zG [] (.n (zB (.k rfl))<|.nil) ff rfl fun g23 => ⟨_, _, [0, 1], rfl, (.k 6 rfl<|.k 10 rfl<|.k 15 rfl<|.nil), (.k 0 rfl<|.k 1 rfl<|.nil), ?_⟩)
     refine zC ?_
     refine zF ?_
     refine J_to (To.slot 15 rfl (q := fls (eK p 0)) (fun _ _ _ h => h.1 ▸ slm_nil)) ?_
     refine zF (zG [] (.n (zA (.t rfl))<|.n (op_len_m sl24 (.t rfl))<|.n (zA (.k rfl))<|.nil) ff rfl fun g24 => ⟨_, _, [0, 1], rfl, (.k 10 rfl<|.k 15 rfl<|.k 116 rfl<|.k 117 rfl<|.k 118 rfl<|.nil), (.k 0 rfl<|.k 1 rfl<|.nil), ?_⟩)
     refine zC ?_
     refine zT ?_
     refine J_loopc (α := Nat) (fun k => EI p k ∧ k ≤ p.length) (fun k => p.length - k) (fun k restR => (118, isv (.int .i64 (k : Int))) :: (15, fls (eK p k)) :: restR) (fun k restS => restS) (ρc := [(10, _), (116, _), (117, _)]) (σc := [_, _]) 0 (by exact ⟨ei_zero, Nat.zero_le _⟩) (To.pick (fun _ => .sub (t := 118) rfl (sp_eq (by rfl))<|.sub (t := 15) rfl (sp_eq (by rfl))<|.k 10 rfl<|.k 116 rfl<|.k 117 rfl<|.nil) (fun _ => .k 0 rfl<|.k 1 rfl<|.nil) (ks := [0, 1]) rfl) (fun k hE => ?_)
     refine zF (zG [] (.n (op_cmp (by simp) (.t rfl) (.t rfl) rfl)<|.nil) ff rfl fun g25 => ⟨_, _, [0, 1], rfl, (.k 10 rfl<|.k 15 rfl<|.k 116 rfl<|.k 117 rfl<|.k 118 rfl<|.k 119 rfl<|.nil), (.k 0 rfl<|.k 1 rfl<|.nil), ?_⟩)
     refine zC ?_
     refine zF ?_
     refine zH (zK (.t rfl)) (fun h6 => ?_) (fun h6 => ?_)
     ·try simp only [cmpB, Z] at h6
      obtain ⟨hE1, hE2⟩ := hE
      refine J_skip ?_
      refine zC ?_
      refine zF ?_
      refine zT ?_
      refine zF (zG [] (.n (op_index_m 0 sl24 (.t rfl) (.t rfl) (by omega) (by omega))<|.n (op_load_sc sc28 (.t rfl) rfl)<|.n (zB (.t rfl))<|.nil) ff rfl fun g26 => ⟨_, _, [0, 1], rfl, (.k 10 rfl<|.k 15 rfl<|.k 17 rfl<|.k 116 rfl<|.k 117 rfl<|.k 118 rfl<|.nil), (.k 0 rfl<|.k 1 rfl<|.nil), ?_⟩)
      refine zC ?_
      refine zF ?_
      refine zF (zG [] (.n (zA (.t rfl))<|.n (zP (abs_ok) ⟨(.t rfl),  trivial⟩)<|.n (zP (Ldexp1000) ⟨(Lk.fk rfl (by decide +kernel)), (.k rfl),  trivial⟩)<|.n (op_fcmp (by simp) (.t rfl) (.t rfl) rfl)<|.nil) ff rfl fun g27 => ⟨_, _, [0, 1], rfl, (.k 10 rfl<|.k 15 rfl<|.k 17 rfl<|.k 116 rfl<|.k 117 rfl<|.k 118 rfl<|.k 125 rfl<|.nil), (.k 0 rfl<|.k 1 rfl<|.nil), ?_⟩)
      refine zC ?_
      refine zH (zK (.t rfl)) (fun h7 => ?_) (fun h7 => ?_)
      ·try simp only [cmpB, Z] at h7
       refine zF (zG [] (.n (zB (.k rfl))<|.nil) ff rfl fun g28 => ⟨_, _, [0], rfl, (.k 4 rfl<|.nil), (.k 0 rfl<|.nil), ?_⟩)
       refine zC ?_
       refine J_ret ?_
       refine zD ?_
       refine JN_block_ret ?_
       refine zD ?_
       refine zD ?_
       refine JN_block_ret ?_
       refine zD ?_
       refine zQ (.cons (.tmp (.t rfl))<|.nil) (zM (sb_res1 zL) ?_)
       exact zL
      ·try simp only [cmpB, Z] at h7
       obtain ⟨hG, hE3⟩ := ei_step hE1 (by omega) (by omega) (hFp.at (by omega)) (big_no (hFp.at (by omega)) h7)
       refine J_skip ?_
       refine zC ?_
       refine zF (zG [] (.n (zA (.t rfl))<|.n (zA (.t rfl))<|.n (zP (eGrow_ok (by assumption)) ⟨(.t rfl), (.t rfl),  trivial⟩)<|.n (zA (.t rfl))<|.n (op_extract (.t rfl) rfl)<|.n (op_extract (.t rfl) rfl)<|.n (zB (.t rfl))<|.n (zB (.t rfl))<|.nil) ff rfl fun g29 => ⟨_, _, [0, 1], rfl, (.k 10 rfl<|.k 18 rfl<|.k 19 rfl<|.k 116 rfl<|.k 117 rfl<|.k 118 rfl<|.nil), (.k 0 rfl<|.k 1 rfl<|.nil), ?_⟩)
       refine zC ?_
       refine zF ?_
       refine zF (zG [] (.n (zA (.t rfl))<|.n (op_cmp (by simp) (.t rfl) (.k rfl) rfl)<|.nil) ff rfl fun g30 => ⟨_, _, [0, 1], rfl, (.k 10 rfl<|.k 18 rfl<|.k 19 rfl<|.k 116 rfl<|.k 117 rfl<|.k 118 rfl<|.k 133 rfl<|.nil), (.k 0 rfl<|.k 1 rfl<|.nil), ?_⟩)
       refine zC ?_
       refine zH (zK (.t rfl)) (fun h8 => ?_) (fun h8 => ?_)
       ·have h8' := h8
        try simp only [cmpB, Z] at h8
        exact absurd h8' (by decide)
       ·have h8' := h8
        try simp only [cmpB, Z] at h8
        refine J_skip ?_
        refine zC ?_
        refine (zG [] (.n (zA (.t rfl))<|.n (zB (.t rfl))<|.nil) ff rfl fun g31 => ⟨_, _, [0, 1], rfl, (.k 10 rfl<|.k 15 rfl<|.k 116 rfl<|.k 117 rfl<|.k 118 rfl<|.nil), (.k 0 rfl<|.k 1 rfl<|.nil), ?_⟩)
        refine zR ?_
        refine zC ?_
        refine (zG [] (.n (op_add (.t rfl) (.k rfl) (zO (by omega) (by omega)))<|.n (zA (.t rfl))<|.nil) ff rfl fun g32 => ⟨_, _, [0, 1], rfl, (.k 10 rfl<|.k 15 rfl<|.k 116 rfl<|.k 117 rfl<|.k 118 rfl<|.nil), (.k 0 rfl<|.k 1 rfl<|.nil), ?_⟩)
        exact JN_again (k + 1) (by exact ⟨hE3, by omega⟩) (by omega) (To.pick (fun _ => .sub (t := 118) rfl (sp_eq (by rfl))<|.sub (t := 15) rfl (sp_eq (by rfl))<|.k 10 rfl<|.k 116 rfl<|.k 117 rfl<|.nil) (fun _ => .k 0 rfl<|.k 1 rfl<|.nil) (ks := [0, 1]) rfl)
     ·try simp only [cmpB, Z] at h6
      obtain ⟨hE1, hE2⟩ := hE
      have hkp : k = p.length := by omega
      subst hkp
      obtain ⟨hC1, hC2, hC3, hC4, hC5⟩ := ei_comp hE1 (by omega)
      have hs0 : sumI ((p.map sval).take p.length) = sumI ((bs.map cn).map sval) := by rw [List.take_of_length_le (by simp), perm_sum hper]
      have hs1 := hE1.s.trans hs0
      have hs2 := hC4.trans hs0
      have hEl := hE1.l
      obtain ⟨hSe, hPe⟩ := fin_sumH (l := eK p p.length) (by omega) hE1.f.w
      obtain ⟨hSc, hPc⟩ := fin_sumH (l := cmpR (eK p p.length)) (by omega) hC2.w
      have hle5 : (eK p p.length).length ≤ 100000 := by omega
      have hlc5 : (cmpR (eK p p.length)).length ≤ 100000 := by omega
      have hIc := is_of_nov (l := cmpR (eK p p.length)) (by omega) (fun k hk => hC2.at hk) hC3
      have hDe := dyP_same hE1.f hFa hs1
      have hDc := dyP_same hC2 hFa hs2
      obtain ⟨hL0, hL1⟩ := sign_law hC2 hC3
      rw [hs2] at hL0 hL1
      obtain ⟨hZ1, hZ2⟩ := dy_zero hFa
      refine J_exit ?_
      refine zE ?_
      refine zE ?_
      refine zS ?_
      refine zC ?_
      refine J_to (To.emps 1) ?_
      refine zF (zG [] (.n (zA (.t rfl))<|.n (zP (dsum_ok (by assumption) (by assumption) (by assumption)) ⟨(.t rfl),  trivial⟩)<|.n (zA (.t rfl))<|.n (op_extract (.t rfl) rfl)<|.n (op_extract (.t rfl) rfl)<|.w 2 (op_alloc 2 zr31 rfl rfl)<|.w 2 (op_store_new 2 rfl (.t rfl) co_agg sz31 rfl rfl)<|.n (zB (.t rfl))<|.nil) ff rfl fun g33 => ⟨_, _, [0, 1, 2], rfl, (.k 10 rfl<|.k 11 rfl<|.k 15 rfl<|.k 20 rfl<|.nil), (.k 0 rfl<|.k 1 rfl<|.k 2 rfl<|.nil), ?_⟩)
      refine zC ?_
      refine zF ?_
      refine zF (zG [] (.n (zA (.t rfl))<|.n (op_cmp (by simp) (.t rfl) (.k rfl) rfl)<|.n (zA (.t rfl))<|.r 2 (op_guard rfl rfl (gd_b rfl) (fun hC => (op_get_ag 2 ag31 (.t rfl) rfl zJ rfl rfl)))<|.r 1 (op_guard rfl rfl (gd_b rfl) (fun hC => (op_get_ag 1 ag31 (.t rfl) rfl zJ rfl rfl)))<|.n (op_guard rfl rfl (gd_b rfl) (fun hC => (zP (rsame2 hDe hPe) ⟨(.w rfl hC), (.w rfl hC),  trivial⟩)))<|.n (op_guard rfl rfl (gd_b rfl) (fun hC => (op_not (.w rfl hC))))<|.n (op_or (.t rfl) (fun h2 => (.w rfl h2)))<|.nil) ff rfl fun g34 => ⟨_, _, [0, 1, 2], rfl, (.k 10 rfl<|.k 15 rfl<|.k 20 rfl<|.k 150 rfl<|.nil), (.k 0 rfl<|.k 1 rfl<|.k 2 rfl<|.nil), ?_⟩)
      refine zC ?_
      refine zH (zK (.t rfl)) (fun h9 => ?_) (fun h9 => ?_)
      ·have h9' := h9
       try simp only [cmpB, Z] at h9
       exact absurd h9' (by decide)
      ·have h9' := h9
       try simp only [cmpB, Z] at h9
       refine J_skip ?_
       refine zC ?_
       refine zF (zG [] (.n (zA (.t rfl))<|.n (zP (eComp_ok (by assumption)) ⟨(.t rfl),  trivial⟩)<|.n (zA (.t rfl))<|.n (op_extract (.t rfl) rfl)<|.n (op_extract (.t rfl) rfl)<|.n (zB (.t rfl))<|.n (zB (.t rfl))<|.nil) ff rfl fun g35 => ⟨_, _, [0, 1, 2], rfl, (.k 10 rfl<|.k 11 rfl<|.k 20 rfl<|.k 21 rfl<|.nil), (.k 0 rfl<|.k 1 rfl<|.k 2 rfl<|.nil), ?_⟩)
       refine zC ?_
       refine zF ?_
       refine zF (zG [] (.n (zA (.t rfl))<|.n (op_cmp (by simp) (.t rfl) (.k rfl) rfl)<|.nil) ff rfl fun g36 => ⟨_, _, [0, 1, 2], rfl, (.k 10 rfl<|.k 20 rfl<|.k 21 rfl<|.k 157 rfl<|.nil), (.k 0 rfl<|.k 1 rfl<|.k 2 rfl<|.nil), ?_⟩)
       refine zC ?_
       refine zH (zK (.t rfl)) (fun h10 => ?_) (fun h10 => ?_)
       ·have h10' := h10
        try simp only [cmpB, Z] at h10
        exact absurd h10' (by decide)
       ·have h10' := h10
        try simp only [cmpB, Z] at h10
        refine J_skip ?_
        refine zC ?_
        refine zF (zG [] (.n (zA (.t rfl))<|.n (zP (dsum_ok (by assumption) (by assumption) (by assumption)) ⟨(.t rfl),  trivial⟩)<|.n (zA (.t rfl))<|.n (op_extract (.t rfl) rfl)<|.n (op_extract (.t rfl) rfl)<|.w 2 (op_store_b 2 (.t rfl) (.t rfl) co_agg sz31 rfl rfl rfl)<|.n (zB (.t rfl))<|.nil) ff rfl fun g37 => ⟨_, _, [0, 1, 2], rfl, (.k 10 rfl<|.k 11 rfl<|.k 20 rfl<|.k 21 rfl<|.nil), (.k 0 rfl<|.k 1 rfl<|.k 2 rfl<|.nil), ?_⟩)
        refine zC ?_
        refine zF ?_
        refine zF (zG [] (.n (zA (.t rfl))<|.n (op_cmp (by simp) (.t rfl) (.k rfl) rfl)<|.n (zA (.t rfl))<|.r 2 (op_guard rfl rfl (gd_b rfl) (fun hC => (op_get_ag 2 ag31 (.t rfl) rfl zJ rfl rfl)))<|.r 1 (op_guard rfl rfl (gd_b rfl) (fun hC => (op_get_ag 1 ag31 (.t rfl) rfl zJ rfl rfl)))<|.n (op_guard rfl rfl (gd_b rfl) (fun hC => (zP (rsame2 hDc hPc) ⟨(.w rfl hC), (.w rfl hC),  trivial⟩)))<|.n (op_guard rfl rfl (gd_b rfl) (fun hC => (op_not (.w rfl hC))))<|.n (op_or (.t rfl) (fun h2 => (.w rfl h2)))<|.n (zA (.t rfl))<|.n (op_guard rfl rfl (gd_b rfl) (fun hC => (zA (.t rfl))))<|.n (op_guard rfl rfl (gd_b rfl) (fun hC => (op_len_m sl24 (.w rfl hC))))<|.n (op_guard rfl rfl (gd_b rfl) (fun hC => (op_cmp (by simp) (.w rfl hC) (.k rfl) rfl)))<|.n (op_guard rfl rfl (gd_b rfl) (fun hC => (zI fd31_1 (.t rfl) rfl)))<|.r 1 (op_guard rfl rfl (gd_b rfl) (fun hC => (zN 1 sc29 (.w rfl hC) rfl zJ rfl)))<|.n (op_guard rfl rfl (gd_b rfl) (fun hC => (op_len_m sl29 (.w rfl hC))))<|.n (op_guard rfl rfl (gd_b rfl) (fun hC => (op_cmp (by simp) (.w rfl hC) (.k rfl) rfl)))<|.n (op_guard rfl rfl (gd_b rfl) (fun hC => (op_bne Tryz.underlying4 (.w rfl hC) (.w rfl hC))))<|.n (op_or (.t rfl) (fun h2 => (.w rfl h2)))<|.nil) ff rfl fun g38 => ⟨_, _, [0, 1], rfl, (.k 10 rfl<|.k 21 rfl<|.k 180 rfl<|.nil), (.k 0 rfl<|.k 1 rfl<|.nil), ?_⟩)
        refine zC ?_
        refine zH (zK (.t rfl)) (fun h11 => ?_) (fun h11 => ?_)
        ·have h11' := h11
         try simp only [cmpB, Z] at h11
         exact absurd h11' (by rw [len_both hL1 hZ1]; decide)
        ·have h11' := h11
         try simp only [cmpB, Z] at h11
         refine J_skip ?_
         refine zC ?_
         refine zF (zG [] (.n (zA (.t rfl))<|.n (zP (eSign_ok (by assumption)) ⟨(.t rfl),  trivial⟩)<|.n (zA (.t rfl))<|.n (op_extract (.t rfl) rfl)<|.n (op_extract (.t rfl) rfl)<|.n (zB (.t rfl))<|.n (zB (.t rfl))<|.nil) ff rfl fun g39 => ⟨_, _, [0, 1], rfl, (.k 10 rfl<|.k 11 rfl<|.k 22 rfl<|.nil), (.k 0 rfl<|.k 1 rfl<|.nil), ?_⟩)
         refine zC ?_
         refine zF (zG [] (.n (zA (.t rfl))<|.n (op_cmp (by simp) (.t rfl) (.k rfl) rfl)<|.n (zA (.t rfl))<|.n (op_guard rfl rfl (gd_b rfl) (fun hC => (zA (.t rfl))))<|.n (op_guard rfl rfl (gd_b rfl) (fun hC => (op_cmp (by simp) (.w rfl hC) (.k rfl) rfl)))<|.n (op_guard rfl rfl (gd_b rfl) (fun hC => (zI fd31_1 (.t rfl) rfl)))<|.r 1 (op_guard rfl rfl (gd_b rfl) (fun hC => (zN 1 sc29 (.w rfl hC) rfl zJ rfl)))<|.n (op_guard rfl rfl (gd_b rfl) (fun hC => (op_len_m sl29 (.w rfl hC))))<|.n (op_guard rfl rfl (gd_b rfl) (fun hC => (op_cmp (by simp) (.w rfl hC) (.k rfl) rfl)))<|.n (op_guard rfl rfl (gd_b rfl) (fun hC => (zA (.w rfl hC))))<|.n (op_guard rfl rfl (gd_w rfl) (fun hC => (zI fd31_0 (.t rfl) rfl)))<|.r 1 (op_guard rfl rfl (gd_w rfl) (fun hC => (zN 1 sc4 (.w rfl hC) rfl zJ rfl)))<|.n (op_guard rfl rfl (gd_w rfl) (fun hC => (op_not (.w rfl hC))))<|.n (op_guard rfl rfl (gd_b rfl) (fun hC => (op_and (.w rfl hC) (fun h2 => (.w rfl ⟨hC, h2⟩)))))<|.n (op_guard rfl rfl (gd_b rfl) (fun hC => (op_beql Tryz.underlying4 (.w rfl hC) (.w rfl hC))))<|.n (op_and (.t rfl) (fun h2 => (.w rfl h2)))<|.n (zA (.t rfl))<|.n (op_guard rfl rfl (gd_b rfl) (fun hC => (zA (.t rfl))))<|.n (op_guard rfl rfl (gd_b rfl) (fun hC => (op_cmp (by simp) (.w rfl hC) (.k rfl) rfl)))<|.n (op_guard rfl rfl (gd_b rfl) (fun hC => (zI fd31_1 (.t rfl) rfl)))<|.r 1 (op_guard rfl rfl (gd_b rfl) (fun hC => (zN 1 sc29 (.w rfl hC) rfl zJ rfl)))<|.n (op_guard rfl rfl (gd_b rfl) (fun hC => (op_len_m sl29 (.w rfl hC))))<|.n (op_guard rfl rfl (gd_b rfl) (fun hC => (op_cmp (by simp) (.w rfl hC) (.k rfl) rfl)))<|.n (op_guard rfl rfl (gd_b rfl) (fun hC => (zA (.w rfl hC))))<|.n (op_guard rfl rfl (gd_w rfl) (fun hC => (zI fd31_0 (.t rfl) rfl)))<|.r 1 (op_guard rfl rfl (gd_w rfl) (fun hC => (zN 1 sc4 (.w rfl hC) rfl zJ rfl)))<|.n (op_guard rfl rfl (gd_b rfl) (fun hC => (op_and (.w rfl hC) (fun h2 => (.w rfl ⟨hC, h2⟩)))))<|.n (op_guard rfl rfl (gd_b rfl) (fun hC => (op_beql Tryz.underlying4 (.w rfl hC) (.w rfl hC))))<|.n (op_and (.t rfl) (fun h2 => (.w rfl h2)))<|.n (zB (.t rfl))<|.nil) ff rfl fun g40 => ⟨_, _, [0], rfl, (.k 4 rfl<|.nil), (.k 0 rfl<|.nil), ?_⟩)
         refine zC ?_
         refine J_ret ?_
         refine zQ (.cons (.tmp (.t rfl))<|.nil) (zM (sb_res1 zL) ?_)
         exact ret_b (end_true hL0 hZ1 hZ2)
end Go.Proofs.YtcpififnffmjfaaGreatDoor
