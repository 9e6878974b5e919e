/- Printed by a program of ours (walk.py): walks of expansions: growing, compressing. -/
import Derived.Test.YtcpififnffmjfaaGreatDoorZsKb
import Derived.Test.YtcpififnffmjfaaGreatDoorProg
import Derived.KernelRfl
import Derived.Test.YtcpififnffmjfaaGreatDoorZsTypes
import Derived.Test.YtcpififnffmjfaaGreatDoorZsWEft
set_option linter.unusedVariables false
set_option linter.unusedSimpArgs false
set_option maxRecDepth 20000
set_option maxHeartbeats 4000000
namespace Go.Proofs.YtcpififnffmjfaaGreatDoor
open Go Go.Bn
attribute [local irreducible] OpOK
theorem end_ok {u sv : Value} {L : List Nat} (hL : L.length ≤ 64) : CtM Tryz.prog 45 [ipo u 0] ((blk u [isv sv, isv (.bool false)] 81).sep (som sv flp L 28)) (tupp [isv sv, isv (.int .i64 0)]) ((blk u [isv sv, isv (.bool false)] 81).sep (som sv flp L 28)) := by
 refine CtM.of Tryz.func45 rfl (by kernel_rfl) rfl (fix_sep fix_blk (fix_som rfl)) fun c0 ob hr0 => ?_
 refine J_to (To.emps 1) ?_
 refine J_to (To.split 0 1 rfl rfl rfl rfl) ?_
 refine zF (zG [] (.n (zB (.k rfl))<|.n (zB (.k rfl))<|.nil) ff rfl fun g1 => ⟨_, _, [0, 1], rfl, (.k 0 rfl<|.nil), (.k 0 rfl<|.k 1 rfl<|.nil), ?_⟩)
 refine zC ?_
 refine zF ?_
 refine zT ?_
 refine zF (zG [] (.n (zA (.t rfl))<|.n (op_nilo (.t rfl))<|.n (zI fd81_1 (.t rfl) rfl)<|.r 0 (zN 0 sc4 (.t rfl) rfl zJ rfl)<|.n (zB (.t rfl))<|.nil) ff rfl fun g2 => ⟨_, _, [0, 1], rfl, (.k 0 rfl<|.k 4 rfl<|.nil), (.k 0 rfl<|.k 1 rfl<|.nil), ?_⟩)
 refine zC ?_
 refine zH (zK (.t rfl)) (fun h1 => ?_) (fun h1 => ?_)
 ·try simp only [cmpB, Z] at h1
  exact absurd h1 (by decide)
 ·try simp only [cmpB, Z] at h1
  refine zF (zG [] (.n (zA (.t rfl))<|.n (op_nilo (.t rfl))<|.n (zI fd81_0 (.t rfl) rfl)<|.r 0 (zN 0 sc24 (.t rfl) rfl zJ rfl)<|.r 1 (op_len_som 1 sl24 (.t rfl) rfl)<|.n (op_cmp (by simp) (.t rfl) (.k rfl) rfl)<|.n (zB (.t rfl))<|.nil) ff rfl fun g3 => ⟨_, _, [0, 1], rfl, (.k 0 rfl<|.k 9 rfl<|.nil), (.k 0 rfl<|.k 1 rfl<|.nil), ?_⟩)
  refine zC ?_
  refine zH (zK (.t rfl)) (fun h2 => ?_) (fun h2 => ?_)
  ·try simp only [cmpB, Z] at h2
   exact absurd h2 (by omega)
  ·try simp only [cmpB, Z] at h2
   refine J_skip ?_
   refine zR ?_
   refine zC ?_
   refine zF (zG [] (.n (zA (.t rfl))<|.n (op_nilo (.t rfl))<|.n (zI fd81_0 (.t rfl) rfl)<|.r 0 (zN 0 sc24 (.t rfl) rfl zJ rfl)<|.n (zB (.t rfl))<|.n (zB (.k rfl))<|.nil) ff rfl fun g4 => ⟨_, _, [0, 1], rfl, (.k 2 rfl<|.k 3 rfl<|.nil), (.k 0 rfl<|.k 1 rfl<|.nil), ?_⟩)
   refine zC ?_
   refine J_ret ?_
   refine JN_to (To.join 0 1 rfl rfl rfl rfl) ?_
   refine JN_retM 0 hr0 (fix_sep fix_blk (fix_som rfl)) rfl (.cons (.tmp (.t rfl))<|.cons (.tmp (.t rfl))<|.nil) (zM (sb_res1 zL) ?_)
   exact zL
theorem esgn_ok {x : Nat} : Ct Tryz.prog 46 [flp x] (isv (.int .i64 (if fcmp .lss x 0 = true then -1 else if fcmp .gtr x 0 = true then 1 else 0))) := by
 refine Ct.of Tryz.func46 rfl (by kernel_rfl) rfl fun c0 => ?_
 refine zF (zG [] (.n (zB (.k rfl))<|.nil) ff rfl fun g1 => ⟨_, _, [], rfl, (.k 0 rfl<|.nil), (.nil), ?_⟩)
 refine zC ?_
 refine zF ?_
 refine zT ?_
 refine zF (zG [] (.n (zA (.t rfl))<|.n (op_fcmp (by simp) (.t rfl) (Lk.fk rfl (by decide +kernel)) rfl)<|.n (zB (.t rfl))<|.nil) ff rfl fun g2 => ⟨_, _, [], rfl, (.k 0 rfl<|.k 3 rfl<|.nil), (.nil), ?_⟩)
 refine zC ?_
 refine zH (zK (.t rfl)) (fun h1 => ?_) (fun h1 => ?_)
 ·have h1' := h1
  try simp only [cmpB, Z] at h1
  refine zF (zG [] (.n (zB (.k rfl))<|.nil) ff rfl fun g3 => ⟨_, _, [], rfl, (.k 2 rfl<|.nil), (.nil), ?_⟩)
  refine zC ?_
  refine J_ret ?_
  refine JN_block_ret ?_
  refine zD ?_
  refine zQ (.cons (.tmp (.t rfl))<|.nil) (zM (sb_res1 zL) ?_)
  exact ret_i (by rw [if_pos h1'])
 ·have h1' := h1
  try simp only [cmpB, Z] at h1
  refine zF (zG [] (.n (zA (.t rfl))<|.n (op_fcmp (by simp) (.t rfl) (Lk.fk rfl (by decide +kernel)) rfl)<|.n (zB (.t rfl))<|.nil) ff rfl fun g4 => ⟨_, _, [], rfl, (.k 6 rfl<|.nil), (.nil), ?_⟩)
  refine zC ?_
  refine zH (zK (.t rfl)) (fun h2 => ?_) (fun h2 => ?_)
  ·have h2' := h2
   try simp only [cmpB, Z] at h2
   refine zF (zG [] (.n (zB (.k rfl))<|.nil) ff rfl fun g5 => ⟨_, _, [], rfl, (.k 2 rfl<|.nil), (.nil), ?_⟩)
   refine zC ?_
   refine J_ret ?_
   refine JN_block_ret ?_
   refine zD ?_
   refine zQ (.cons (.tmp (.t rfl))<|.nil) (zM (sb_res1 zL) ?_)
   exact ret_i (by rw [if_neg (by rw [h1']; decide), if_pos h2'])
  ·have h2' := h2
   try simp only [cmpB, Z] at h2
   refine J_skip ?_
   refine zR ?_
   refine zC ?_
   refine zF (zG [] (.n (zB (.k rfl))<|.nil) ff rfl fun g6 => ⟨_, _, [], rfl, (.k 2 rfl<|.nil), (.nil), ?_⟩)
   refine zC ?_
   refine J_ret ?_
   refine zQ (.cons (.tmp (.t rfl))<|.nil) (zM (sb_res1 zL) ?_)
   exact ret_i (by rw [if_neg (by rw [h1']; decide), if_neg (by rw [h2']; decide)])
theorem grow_ok {e : List Nat} {b : Nat} (hl : e.length ≤ 60) (hG : ∀ i, i < e.length → finB (twoS (growS e b i).2 (e.getD i 0)) = true ∧ finB (twoE (growS e b i).2 (e.getD i 0)) = true) : Ct Tryz.prog 41 [fls e, flp b] (tupp [fls (growR e b), isv (.int .i64 0)]) := by
 refine Ct.of Tryz.func41 rfl (by kernel_rfl) rfl fun c0 => ?_
 refine J_len 0 rfl fun hlen => ?_
 refine zF (zG [] (.n (zB (.k rfl))<|.n (zB (.k rfl))<|.nil) ff rfl fun g1 => ⟨_, _, [], rfl, (.k 0 rfl<|.k 1 rfl<|.nil), (.nil), ?_⟩)
 refine zC ?_
 refine J_to (To.emps 1) ?_
 refine zF (zG [] (.n (op_build zr81 rfl pl81 .nil)<|.w 0 (op_box 0 (.t rfl) co_agg rfl)<|.n (op_assign_ve rfl rfl)<|.nil) ff rfl fun g2 => ⟨_, _, [0], rfl, (.k 0 rfl<|.k 1 rfl<|.k 6 rfl<|.nil), (.k 0 rfl<|.nil), ?_⟩)
 refine zC ?_
 refine zF (zG [] (.n (zA (.t rfl))<|.n (zB (.t rfl))<|.n (zB (Lk.fk rfl (by decide +kernel)))<|.nil) ff rfl fun g3 => ⟨_, _, [0], rfl, (.k 0 rfl<|.k 6 rfl<|.k 7 rfl<|.nil), (.k 0 rfl<|.nil), ?_⟩)
 refine zC ?_
 refine zF ?_
 refine J_to (To.emps 1) ?_
 refine J_to (To.res 1 (r' := som (.slice none 0 0) flp [] 28) rfl som_nil rfl) ?_
 refine J_to (To.join 0 1 rfl rfl rfl rfl) ?_
 refine J_to (To.res 0 (r' := layR (g2 11) ((growS e b 0).1) 81 28) rfl lay_close rfl) ?_
 refine zF (zG [] (.n (zA (.t rfl))<|.n (op_len_m sl24 (.t rfl))<|.n (zA (.k rfl))<|.nil) ff rfl fun g4 => ⟨_, _, [0], rfl, (.k 0 rfl<|.k 6 rfl<|.k 7 rfl<|.k 14 rfl<|.k 15 rfl<|.nil), (.k 0 rfl<|.nil), ?_⟩)
 refine zC ?_
 refine zT ?_
 refine J_loopc (α := Nat) (fun i => i ≤ e.length) (fun i => e.length - i) (fun i restR => (15, isv (.int .i64 (i : Int))) :: (7, flp (growS e b i).2) :: restR) (fun i restS => layR (g2 11) (growS e b i).1 81 28 :: restS) (ρc := [(0, _), (6, _), (14, _)]) (σc := []) 0 (by exact Nat.zero_le _) (To.pick (fun _ => .sub (t := 15) rfl (sp_eq (by rfl))<|.sub (t := 7) rfl (sp_eq (by rfl))<|.k 0 rfl<|.k 6 rfl<|.k 14 rfl<|.nil) (fun _ => .sub 0 rfl ((fun _ _ h => h))<|.nil) (ks := [0]) rfl) (fun i hI => ?_)
 refine zF (zG [] (.n (op_cmp (by simp) (.t rfl) (.t rfl) rfl)<|.nil) ff rfl fun g5 => ⟨_, _, [0], rfl, (.k 0 rfl<|.k 6 rfl<|.k 7 rfl<|.k 14 rfl<|.k 15 rfl<|.k 16 rfl<|.nil), (.k 0 rfl<|.nil), ?_⟩)
 refine zC ?_
 refine zF ?_
 refine zH (zK (.t rfl)) (fun h1 => ?_) (fun h1 => ?_)
 ·try simp only [cmpB, Z] at h1
  obtain ⟨hs1, hs2⟩ := hG i (by omega)
  have hgl := grow_len e b i
  refine J_skip ?_
  refine zC ?_
  refine zF ?_
  refine zT ?_
  refine zF (zG [] (.n (zA (.t rfl))<|.n (zB (.t rfl))<|.nil) ff rfl fun g6 => ⟨_, _, [0], rfl, (.k 0 rfl<|.k 6 rfl<|.k 7 rfl<|.k 9 rfl<|.k 14 rfl<|.k 15 rfl<|.nil), (.k 0 rfl<|.nil), ?_⟩)
  refine zC ?_
  refine J_ex 0 rfl fun sv => ?_
  refine J_to (To.emps 1) ?_
  refine J_to (To.split 0 1 rfl rfl rfl rfl) ?_
  refine zF (zG [] (.n (zA (.t rfl))<|.n (zA (.t rfl))<|.n (zA (.t rfl))<|.n (zA (.t rfl))<|.n (op_index_m 0 sl24 (.t rfl) (.t rfl) (by omega) (by omega))<|.n (op_load_sc sc28 (.t rfl) rfl)<|.n (zP (etwo_ok) ⟨(.t rfl), (.t rfl),  trivial⟩)<|.n (op_extract (.t rfl) rfl)<|.n (op_extract (.t rfl) rfl)<|.w 0 (op_callM 0 (see_ok hs1 hs2) ⟨(.t rfl), (.t rfl), (.t rfl),  trivial⟩ rfl)<|.n (zA (.t rfl))<|.n (op_extract (.t rfl) rfl)<|.n (op_extract (.t rfl) rfl)<|.n (zB (.t rfl))<|.n (zB (.t rfl))<|.nil) ff rfl fun g7 => ⟨_, _, [0, 1], rfl, (.k 0 rfl<|.k 6 rfl<|.k 7 rfl<|.k 8 rfl<|.k 14 rfl<|.k 15 rfl<|.nil), (.k 0 rfl<|.k 1 rfl<|.nil), ?_⟩)
  refine zC ?_
  refine J_to (To.join 0 1 rfl rfl rfl rfl) ?_
  refine J_to (To.res 0 (r' := layR (g2 11) ((growS e b i).1) 81 28) rfl lay_close rfl) ?_
  refine (zG [] (.n (zA (.t rfl))<|.n (zA (.t rfl))<|.w 0 (op_callX 0 (lay_ok (by omega)) ⟨(.t rfl), (.t rfl),  trivial⟩ rfl)<|.nil) ff rfl fun g8 => ⟨_, _, [0], rfl, (.k 0 rfl<|.k 6 rfl<|.k 7 rfl<|.k 14 rfl<|.k 15 rfl<|.nil), (.k 0 rfl<|.nil), ?_⟩)
  refine zR ?_
  refine zC ?_
  refine (zG [] (.n (op_add (.t rfl) (.k rfl) (zO (by omega) (by omega)))<|.n (zA (.t rfl))<|.nil) ff rfl fun g9 => ⟨_, _, [0], rfl, (.k 0 rfl<|.k 6 rfl<|.k 7 rfl<|.k 14 rfl<|.k 15 rfl<|.nil), (.k 0 rfl<|.nil), ?_⟩)
  exact JN_again (i + 1) (by omega) (by omega) (To.pick (fun _ => .sub (t := 15) rfl (sp_eq (by rfl))<|.sub (t := 7) rfl (sp_eq (by rfl))<|.k 0 rfl<|.k 6 rfl<|.k 14 rfl<|.nil) (fun _ => .sub 0 rfl ((fun _ _ h => h))<|.nil) (ks := [0]) rfl)
 ·try simp only [cmpB, Z] at h1
  have hgl := grow_len e b i
  have hie : i = e.length := by omega
  have hgr := layF_len (growS e b i).1 (growS e b i).2
  refine J_exit ?_
  refine zE ?_
  refine zE ?_
  refine zS ?_
  refine zC ?_
  refine zF (zG [] (.n (zA (.t rfl))<|.n (zA (.t rfl))<|.w 0 (op_callX 0 (lay_ok (by omega)) ⟨(.t rfl), (.t rfl),  trivial⟩ rfl)<|.nil) ff rfl fun g10 => ⟨_, _, [0], rfl, (.k 6 rfl<|.nil), (.k 0 rfl<|.nil), ?_⟩)
  refine zC ?_
  refine J_ex 0 rfl fun sv => ?_
  refine zF (J_JO ?_)
  refine JO_split 2 rfl ?_
  refine (JO_reg (.n (zA (.t rfl))<|.w 0 (op_callM 0 (end_ok (by omega)) ⟨(.t rfl), trivial⟩ rfl)<|.nil) rfl fun g11 => ⟨_, _, [0], rfl, (.k 39 rfl<|.nil), (.k 0 rfl<|.nil), ?_⟩)
  refine JN_to (To.emps 1) ?_
  refine JN_to (To.split 0 1 rfl rfl rfl rfl) ?_
  refine JN_seg ?_
  refine (JO_reg (.n (op_extract (.t rfl) rfl)<|.n (op_extract (.t rfl) rfl)<|.n (zB (.t rfl))<|.n (zB (.t rfl))<|.nil) rfl fun g12 => ⟨_, _, [0, 1], rfl, (.k 4 rfl<|.k 5 rfl<|.nil), (.k 0 rfl<|.k 1 rfl<|.nil), ?_⟩)
  refine zC ?_
  refine J_ret ?_
  refine JN_to (To.freeze 1 (fun _ h => h) rfl frz_som rfl) ?_
  refine zQ (.cons (.tmp (.t rfl))<|.cons (.tmp (.t rfl))<|.nil) (zM (sb_res (.cons (sb_fk 0 rfl)<|.cons zL<|.nil)) ?_)
  exact sb_eq (by rw [hie]; rfl)
end Go.Proofs.YtcpififnffmjfaaGreatDoor
