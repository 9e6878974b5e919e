/- Printed by a program of ours (walk.py): walks of expansions: compressing. -/
import Derived.Test.YtcpififnffmjfaaGreatDoorZsKb
import Derived.Test.YtcpififnffmjfaaGreatDoorProg
import Derived.KernelRfl
import Derived.Test.YtcpififnffmjfaaGreatDoorZsTypes
import Derived.Test.YtcpififnffmjfaaGreatDoorZsWEfv
set_option linter.unusedVariables false
set_option linter.unusedSimpArgs false
set_option maxRecDepth 20000
set_option maxHeartbeats 4000000
namespace Go.Proofs.YtcpififnffmjfaaGreatDoor
open Go Go.Bn
attribute [local irreducible] OpOK
theorem eComp_ok {l : List Nat} (hC : CpH l) : Ct Tryz.prog 15 [fls l] (tupp [fls (cmpR l), isv (.int .i64 0)]) := by
 refine Ct.of Tryz.func15 rfl (by kernel_rfl) rfl fun c0 => ?_
 refine J_len 0 rfl fun hlen => ?_
 have hl := hC.is.hl
 have hca := fun k => cmpA_len l k
 refine zF (zG [] (.n (zB (.k rfl))<|.n (zB (.k rfl))<|.nil) ff rfl fun g1 => ⟨_, _, [], rfl, (.k 0 rfl<|.nil), (.nil), ?_⟩)
 refine zC ?_
 refine zF ?_
 refine zF (zG [] (.n (zA (.t rfl))<|.n (zP (echk_ok hC.is) ⟨(.t rfl),  trivial⟩)<|.n (zB (.t rfl))<|.nil) ff rfl fun g2 => ⟨_, _, [], rfl, (.k 0 rfl<|.k 4 rfl<|.nil), (.nil), ?_⟩)
 refine zC ?_
 refine zF (zG [] (.n (zA (.t rfl))<|.n (op_cmp (by simp) (.t rfl) (.k rfl) rfl)<|.nil) ff rfl fun g3 => ⟨_, _, [], rfl, (.k 0 rfl<|.k 4 rfl<|.k 14 rfl<|.nil), (.nil), ?_⟩)
 refine zC ?_
 refine zH (zK (.t rfl)) (fun h1 => ?_) (fun h1 => ?_)
 ·have h1' := h1
  try simp only [cmpB, Z] at h1
  exact absurd h1' (by decide)
 ·have h1' := h1
  try simp only [cmpB, Z] at h1
  refine J_skip ?_
  refine zC ?_
  refine zF ?_
  refine zF (zG [] (.n (zA (.t rfl))<|.n (op_len_m sl24 (.t rfl))<|.n (op_cmp (by simp) (.t rfl) (.k rfl) rfl)<|.nil) ff rfl fun g4 => ⟨_, _, [], rfl, (.k 0 rfl<|.k 18 rfl<|.nil), (.nil), ?_⟩)
  refine zC ?_
  refine zH (zK (.t rfl)) (fun h2 => ?_) (fun h2 => ?_)
  ·try simp only [cmpB, Z] at h2
   refine zF (zG [] (.n (zB (.k rfl))<|.n (zB (.k rfl))<|.nil) ff rfl fun g5 => ⟨_, _, [], rfl, (.k 2 rfl<|.k 3 rfl<|.nil), (.nil), ?_⟩)
   refine zC ?_
   refine J_ret ?_
   refine zD ?_
   refine zQ (.cons (.tmp (.t rfl))<|.cons (.tmp (.t rfl))<|.nil) (zM (sb_res (.cons (sb_nil (mk := flp))<|.cons zL<|.nil)) ?_)
   exact sb_eq (by rw [cmpR_0 (by omega)])
  ·try simp only [cmpB, Z] at h2
   refine J_skip ?_
   refine zC ?_
   refine J_to (To.emps 1) ?_
   refine zF (zG [] (.n (op_build zr81 rfl pl81 .nil)<|.w 0 (op_box 0 (.t rfl) co_agg rfl)<|.n (op_assign_ve rfl rfl)<|.nil) ff rfl fun g6 => ⟨_, _, [0], rfl, (.k 0 rfl<|.k 5 rfl<|.nil), (.k 0 rfl<|.nil), ?_⟩)
   refine zC ?_
   refine zF (zG [] (.n (zB (.k rfl))<|.nil) ff rfl fun g7 => ⟨_, _, [0], rfl, (.k 0 rfl<|.k 5 rfl<|.k 6 rfl<|.nil), (.k 0 rfl<|.nil), ?_⟩)
   refine zC ?_
   refine zF (zG [] (.n (zA (.t rfl))<|.n (zA (.t rfl))<|.n (op_len_m sl24 (.t rfl))<|.n (op_sub (.t rfl) (.k rfl) (zO (by omega) (by omega)))<|.n (op_index_m 0 sl24 (.t rfl) (.t rfl) (by omega) (by omega))<|.n (op_load_sc sc28 (.t rfl) rfl)<|.n (zB (.t rfl))<|.n (zB (Lk.fk rfl (by decide +kernel)))<|.nil) ff rfl fun g8 => ⟨_, _, [0], rfl, (.k 0 rfl<|.k 5 rfl<|.k 6 rfl<|.k 7 rfl<|.nil), (.k 0 rfl<|.nil), ?_⟩)
   refine zC ?_
   refine zF ?_
   refine zF (zG [] (.n (zA (.t rfl))<|.n (op_len_m sl24 (.t rfl))<|.n (op_sub (.t rfl) (.k rfl) (zO (by omega) (by omega)))<|.n (zB (.t rfl))<|.nil) ff rfl fun g9 => ⟨_, _, [0], rfl, (.k 0 rfl<|.k 5 rfl<|.k 6 rfl<|.k 7 rfl<|.k 9 rfl<|.nil), (.k 0 rfl<|.nil), ?_⟩)
   refine zC ?_
   refine zT ?_
   refine J_to (To.emps 1) ?_
   refine J_loopc (α := Nat × Value) (fun x => x.1 ≤ l.length - 1) (fun x => l.length - 1 - x.1) (fun x restR => (9, isv (.int .i64 ((l.length : Int) - 2 - (x.1 : Int)))) :: (7, flp (cmpA l x.1).2) :: (6, isv x.2) :: restR) (fun x restS => som x.2 flp (cmpA l x.1).1 28 :: restS) (ρc := [(0, _), (5, _)]) (σc := [_]) (0, .slice none 0 0) (by exact Nat.zero_le _) (To.pick (fun _ => .sub (t := 9) rfl (sp_eq (by exact congrArg (fun z => isv (.int .i64 z)) (by omega)))<|.sub (t := 7) rfl (sp_eq (by rfl))<|.sub (t := 6) rfl (sp_eq (by rfl))<|.k 0 rfl<|.k 5 rfl<|.nil) (fun _ => .sub 1 rfl (som_nil)<|.k 0 rfl<|.nil) (ks := [1, 0]) rfl) (fun x hI => ?_)
   obtain ⟨k, av⟩ := x
   try simp only at hI
   show J _ _ ((9, isv (.int .i64 ((l.length : Int) - 2 - (k : Int)))) :: (7, flp (cmpA l k).2) :: (6, isv av) :: _) (som av flp (cmpA l k).1 28 :: _) _ _
   refine zF ?_
   refine zF (zG [] (.n (zA (.t rfl))<|.n (op_cmp (by simp) (.t rfl) (.k rfl) rfl)<|.nil) ff rfl fun g10 => ⟨_, _, [0, 1], rfl, (.k 0 rfl<|.k 5 rfl<|.k 6 rfl<|.k 7 rfl<|.k 9 rfl<|.k 31 rfl<|.nil), (.k 0 rfl<|.k 1 rfl<|.nil), ?_⟩)
   refine zC ?_
   refine zH (zK (.t rfl)) (fun h3 => ?_) (fun h3 => ?_)
   ·try simp only [cmpB, Z] at h3
    obtain ⟨ha1, ha2⟩ := hC.ha k (by omega)
    have hak := hca k
    refine J_skip ?_
    refine zC ?_
    refine zF ?_
    refine zT ?_
    refine zF (zG [] (.n (zA (.t rfl))<|.n (zA (.t rfl))<|.n (zA (.t rfl))<|.n (zA (.t rfl))<|.n (op_index_m 0 sl24 (.t rfl) (.t rfl) (by omega) (by omega))<|.n (op_load_sc sc28 (.t rfl) rfl)<|.n (zP (equi_ok) ⟨(.t rfl), (.t rfl),  trivial⟩)<|.n (op_extract (.t rfl) rfl)<|.n (op_extract (.t rfl) rfl)<|.w 1 (op_callM 1 (see_ok ha1 ha2) ⟨(.t rfl), (.t rfl), (.t rfl),  trivial⟩ rfl)<|.n (zA (.t rfl))<|.n (op_extract (.t rfl) rfl)<|.n (op_extract (.t rfl) rfl)<|.n (zB (.t rfl))<|.n (zB (.t rfl))<|.nil) ff rfl fun g11 => ⟨_, _, [0, 1], rfl, (.k 0 rfl<|.k 5 rfl<|.k 6 rfl<|.k 7 rfl<|.k 8 rfl<|.k 9 rfl<|.nil), (.k 0 rfl<|.k 1 rfl<|.nil), ?_⟩)
    refine zC ?_
    refine zF (zG [] (.n (zA (.t rfl))<|.n (op_fcmp (by simp) (.t rfl) (Lk.fk rfl (by decide +kernel)) rfl)<|.nil) ff rfl fun g12 => ⟨_, _, [0, 1], rfl, (.k 0 rfl<|.k 5 rfl<|.k 6 rfl<|.k 7 rfl<|.k 8 rfl<|.k 9 rfl<|.k 48 rfl<|.nil), (.k 0 rfl<|.k 1 rfl<|.nil), ?_⟩)
    refine zC ?_
    refine zH (zK (.t rfl)) (fun h4 => ?_) (fun h4 => ?_)
    ·try simp only [cmpB, Z] at h4
     refine zF (zG [] (.n (zA (.t rfl))<|.n (zA (.t rfl))<|.n (op_buildSlice sl24 zr28 rfl rfl rfl rfl (.cons rfl (.t rfl) co_flp rfl (puts_l rfl (Nat.le_of_ble_eq_true rfl)) .nil))<|.w 0 (op_append_m 0 sl24 zr28 rfl (.t rfl) (.t rfl) rfl (by omega) (by omega))<|.n (op_assign_ve rfl rfl)<|.nil) ff rfl fun g13 => ⟨_, _, [0, 1], rfl, (.k 0 rfl<|.k 5 rfl<|.k 6 rfl<|.k 8 rfl<|.k 9 rfl<|.nil), (.k 0 rfl<|.k 1 rfl<|.nil), ?_⟩)
     refine zC ?_
     refine (zG [] (.n (zA (.t rfl))<|.n (zB (.t rfl))<|.nil) ff rfl fun g14 => ⟨_, _, [0, 1], rfl, (.k 0 rfl<|.k 5 rfl<|.k 6 rfl<|.k 7 rfl<|.k 9 rfl<|.nil), (.k 0 rfl<|.k 1 rfl<|.nil), ?_⟩)
     refine zR ?_
     refine zC ?_
     refine (zG [] (.n (zA (.t rfl))<|.n (op_sub (.t rfl) (.k rfl) (zO (by omega) (by omega)))<|.n (zB (.t rfl))<|.nil) ff rfl fun g15 => ⟨_, _, [0, 1], rfl, (.k 0 rfl<|.k 5 rfl<|.k 6 rfl<|.k 7 rfl<|.k 9 rfl<|.nil), (.k 0 rfl<|.k 1 rfl<|.nil), ?_⟩)
     exact JN_again (k + 1, (g13 52)) (by exact (show k + 1 ≤ _ by omega)) (by show _ - (_ + 1) < _; omega) (To.pick (fun _ => .sub (t := 9) rfl (sp_eq (by exact congrArg (fun z => isv (.int .i64 z)) (by omega)))<|.sub (t := 7) rfl (sp_eq (by exact congrArg flp (by first | rw [cmpA_1 (by assumption)] | rw [cmpA_0 (by assumption)])))<|.sub (t := 6) rfl (sp_eq (by rfl))<|.k 0 rfl<|.k 5 rfl<|.nil) (fun _ => .sub 0 rfl ((res_eq (by first | rw [cmpA_1 (by assumption)] | rw [cmpA_0 (by assumption)])))<|.k 1 rfl<|.nil) (ks := [0, 1]) rfl)
    ·try simp only [cmpB, Z] at h4
     refine J_skip ?_
     refine zR ?_
     refine zC ?_
     refine (zG [] (.n (zA (.t rfl))<|.n (op_sub (.t rfl) (.k rfl) (zO (by omega) (by omega)))<|.n (zB (.t rfl))<|.nil) ff rfl fun g16 => ⟨_, _, [0, 1], rfl, (.k 0 rfl<|.k 5 rfl<|.k 6 rfl<|.k 7 rfl<|.k 9 rfl<|.nil), (.k 0 rfl<|.k 1 rfl<|.nil), ?_⟩)
     exact JN_again (k + 1, av) (by exact (show k + 1 ≤ _ by omega)) (by show _ - (_ + 1) < _; omega) (To.pick (fun _ => .sub (t := 9) rfl (sp_eq (by exact congrArg (fun z => isv (.int .i64 z)) (by omega)))<|.sub (t := 7) rfl (sp_eq (by exact congrArg flp (by first | rw [cmpA_1 (by assumption)] | rw [cmpA_0 (by assumption)])))<|.sub (t := 6) rfl (sp_eq (by rfl))<|.k 0 rfl<|.k 5 rfl<|.nil) (fun _ => .sub 0 rfl ((res_eq (by first | rw [cmpA_1 (by assumption)] | rw [cmpA_0 (by assumption)])))<|.k 1 rfl<|.nil) (ks := [0, 1]) rfl)
   ·try simp only [cmpB, Z] at h3
    have hke : k = l.length - 1 := by omega
    subst hke
    have hak := hca (l.length - 1)
    refine J_exit ?_
    refine zE ?_
    refine zE ?_
    refine zS ?_
    refine zC ?_
    refine zF ?_
    refine J_to (To.emps 1) ?_
    refine J_to (To.res 2 (r' := som (.slice none 0 0) flp [] 28) rfl som_nil rfl) ?_
    refine J_to (To.join 1 2 rfl rfl rfl rfl) ?_
    refine J_to (To.res 1 (r' := layR (g6 20) ((cmpL (cmpA l (l.length - 1)).1 (cmpA l (l.length - 1)).2 0).1) 81 28) rfl lay_close rfl) ?_
    refine zF (zG [] (.n (zA (.t rfl))<|.r 0 (op_len_som 0 sl24 (.t rfl) rfl)<|.n (op_sub (.t rfl) (.k rfl) (zO (by omega) (by omega)))<|.n (zB (.t rfl))<|.nil) ff rfl fun g17 => ⟨_, _, [0, 1], rfl, (.k 5 rfl<|.k 6 rfl<|.k 7 rfl<|.k 10 rfl<|.nil), (.k 0 rfl<|.k 1 rfl<|.nil), ?_⟩)
    refine zC ?_
    refine zT ?_
    refine J_loopc (α := Nat) (fun m => m ≤ (cmpA l (l.length - 1)).1.length) (fun m => (cmpA l (l.length - 1)).1.length - m) (fun m restR => (10, isv (.int .i64 (((cmpA l (l.length - 1)).1.length : Int) - 1 - (m : Int)))) :: (7, flp (cmpL (cmpA l (l.length - 1)).1 (cmpA l (l.length - 1)).2 m).2) :: restR) (fun m restS => layR (g6 20) (cmpL (cmpA l (l.length - 1)).1 (cmpA l (l.length - 1)).2 m).1 81 28 :: restS) (ρc := [(5, _), (6, _)]) (σc := [_]) 0 (by exact Nat.zero_le _) (To.pick (fun _ => .sub (t := 10) rfl (sp_eq (by exact congrArg (fun z => isv (.int .i64 z)) (by omega)))<|.sub (t := 7) rfl (sp_eq (by rfl))<|.k 5 rfl<|.k 6 rfl<|.nil) (fun _ => .sub 1 rfl ((fun _ _ h => h))<|.k 0 rfl<|.nil) (ks := [1, 0]) rfl) (fun m hM => ?_)
    refine zF ?_
    refine zF (zG [] (.n (zA (.t rfl))<|.n (op_cmp (by simp) (.t rfl) (.k rfl) rfl)<|.nil) ff rfl fun g18 => ⟨_, _, [0, 1], rfl, (.k 5 rfl<|.k 6 rfl<|.k 7 rfl<|.k 10 rfl<|.k 58 rfl<|.nil), (.k 0 rfl<|.k 1 rfl<|.nil), ?_⟩)
    refine zC ?_
    refine zH (zK (.t rfl)) (fun h5 => ?_) (fun h5 => ?_)
    ·try simp only [cmpB, Z] at h5
     obtain ⟨hb1, hb2⟩ := hC.hb m (by omega)
     have hml := cmpL_len (cmpA l (l.length - 1)).1 (cmpA l (l.length - 1)).2 m
     refine J_skip ?_
     refine zC ?_
     refine zF ?_
     refine zT ?_
     refine J_ex 0 rfl fun sv => ?_
     refine J_to (To.emps 1) ?_
     refine J_to (To.split 0 2 rfl rfl rfl rfl) ?_
     refine zF (zG [] (.n (zA (.t rfl))<|.n (zA (.t rfl))<|.n (zA (.t rfl))<|.r 1 (op_index_som 1 sl24 (.t rfl) (.t rfl) rfl (by omega) (by omega))<|.r 1 (op_get_som 0 1 sc28 (.t rfl) rfl (by omega))<|.n (zA (.t rfl))<|.n (zP (equi_ok) ⟨(.t rfl), (.t rfl),  trivial⟩)<|.n (op_extract (.t rfl) rfl)<|.n (op_extract (.t rfl) rfl)<|.w 0 (op_callM 0 (see_ok hb1 hb2) ⟨(.t rfl), (.t rfl), (.t rfl),  trivial⟩ rfl)<|.n (zA (.t rfl))<|.n (op_extract (.t rfl) rfl)<|.n (op_extract (.t rfl) rfl)<|.n (zB (.t rfl))<|.n (zB (.t rfl))<|.nil) ff rfl fun g19 => ⟨_, _, [0, 1, 2], rfl, (.k 5 rfl<|.k 6 rfl<|.k 7 rfl<|.k 8 rfl<|.k 10 rfl<|.nil), (.k 0 rfl<|.k 1 rfl<|.k 2 rfl<|.nil), ?_⟩)
     refine zC ?_
     refine J_to (To.join 0 2 rfl rfl rfl rfl) ?_
     refine J_to (To.res 0 (r' := layR (g6 20) ((cmpL (cmpA l (l.length - 1)).1 (cmpA l (l.length - 1)).2 m).1) 81 28) rfl lay_close rfl) ?_
     refine (zG [] (.n (zA (.t rfl))<|.n (zA (.t rfl))<|.w 0 (op_callX 0 (lay_ok (by omega)) ⟨(.t rfl), (.t rfl),  trivial⟩ rfl)<|.nil) ff rfl fun g20 => ⟨_, _, [0, 1], rfl, (.k 5 rfl<|.k 6 rfl<|.k 7 rfl<|.k 10 rfl<|.nil), (.k 0 rfl<|.k 1 rfl<|.nil), ?_⟩)
     refine zR ?_
     refine zC ?_
     refine (zG [] (.n (zA (.t rfl))<|.n (op_sub (.t rfl) (.k rfl) (zO (by omega) (by omega)))<|.n (zB (.t rfl))<|.nil) ff rfl fun g21 => ⟨_, _, [0, 1], rfl, (.k 5 rfl<|.k 6 rfl<|.k 7 rfl<|.k 10 rfl<|.nil), (.k 0 rfl<|.k 1 rfl<|.nil), ?_⟩)
     exact JN_again (m + 1) (by omega) (by omega) (To.pick (fun _ => .sub (t := 10) rfl (sp_eq (by exact congrArg (fun z => isv (.int .i64 z)) (by omega)))<|.sub (t := 7) rfl (sp_eq (by rfl))<|.k 5 rfl<|.k 6 rfl<|.nil) (fun _ => .sub 0 rfl ((fun _ _ h => h))<|.k 1 rfl<|.nil) (ks := [0, 1]) rfl)
    ·try simp only [cmpB, Z] at h5
     have hme : m = (cmpA l (l.length - 1)).1.length := by omega
     have hml := cmpL_len (cmpA l (l.length - 1)).1 (cmpA l (l.length - 1)).2 m
     have hmr := layF_len (cmpL (cmpA l (l.length - 1)).1 (cmpA l (l.length - 1)).2 m).1 (cmpL (cmpA l (l.length - 1)).1 (cmpA l (l.length - 1)).2 m).2
     refine J_exit ?_
     refine zE ?_
     refine zE ?_
     refine zS ?_
     refine zC ?_
     refine zF (zG [] (.n (zA (.t rfl))<|.n (zA (.t rfl))<|.w 0 (op_callX 0 (lay_ok (by omega)) ⟨(.t rfl), (.t rfl),  trivial⟩ rfl)<|.nil) ff rfl fun g22 => ⟨_, _, [0, 1], rfl, (.k 5 rfl<|.nil), (.k 0 rfl<|.k 1 rfl<|.nil), ?_⟩)
     refine zC ?_
     refine J_ex 0 rfl fun sv => ?_
     refine zF (J_JO ?_)
     refine JO_split 2 rfl ?_
     refine (JO_reg (.n (zA (.t rfl))<|.w 0 (op_callM 0 (end_ok (by omega)) ⟨(.t rfl), trivial⟩ rfl)<|.nil) rfl fun g23 => ⟨_, _, [0, 1], rfl, (.k 81 rfl<|.nil), (.k 0 rfl<|.k 1 rfl<|.nil), ?_⟩)
     refine JN_to (To.emps 1) ?_
     refine JN_to (To.split 0 2 rfl rfl rfl rfl) ?_
     refine JN_seg ?_
     refine (JO_reg (.n (op_extract (.t rfl) rfl)<|.n (op_extract (.t rfl) rfl)<|.n (zB (.t rfl))<|.n (zB (.t rfl))<|.nil) rfl fun g24 => ⟨_, _, [0, 1, 2], rfl, (.k 2 rfl<|.k 3 rfl<|.nil), (.k 0 rfl<|.k 1 rfl<|.k 2 rfl<|.nil), ?_⟩)
     refine zC ?_
     refine J_ret ?_
     refine JN_to (To.freeze 2 (fun _ h => h) rfl frz_som rfl) ?_
     refine zQ (.cons (.tmp (.t rfl))<|.cons (.tmp (.t rfl))<|.nil) (zM (sb_res (.cons (sb_fk 0 rfl)<|.cons zL<|.nil)) ?_)
     exact sb_eq (by rw [cmpR_1 (by omega) hme])
end Go.Proofs.YtcpififnffmjfaaGreatDoor
