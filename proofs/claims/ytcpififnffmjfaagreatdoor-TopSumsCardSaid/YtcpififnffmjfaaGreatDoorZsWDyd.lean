/- Printed by a program of ours (walk.py): walks of numbers of two: cut, rounded. -/
import Derived.Test.YtcpififnffmjfaaGreatDoorZsKb
import Derived.Test.YtcpififnffmjfaaGreatDoorProg
import Derived.KernelRfl
import Derived.Test.YtcpififnffmjfaaGreatDoorZsTypes
import Derived.Test.YtcpififnffmjfaaGreatDoorZsWDyc
set_option linter.unusedVariables false
set_option linter.unusedSimpArgs false
set_option maxRecDepth 20000
set_option maxHeartbeats 4000000
namespace Go.Proofs.YtcpififnffmjfaaGreatDoor
open Go Go.Bn
attribute [local irreducible] OpOK
theorem dcut_ok {x : Nat} {s : Int} {neg : Bool} (hx : SmlJ (x : Int)) (h0 : -1000000 ≤ s) (h1 : s ≤ 1000000) : Ct Tryz.prog 65 [intPJ (x : Int), isv (.int .i64 s), isv (.bool neg), isv (.int .i64 0)] (intPJ ((cutD x s : Nat) : Int)) := by
 refine Ct.of Tryz.func65 rfl (by kernel_rfl) rfl fun c0 => ?_
 have hq : SmlJ ((x / 2 ^ s.toNat : Nat) : Int) := sml_leJ (Nat.div_le_self _ _) hx
 have hqs : SmlJ (((x / 2 ^ s.toNat : Nat) : Int) * 2 ^ s.toNat) := cut_sml hx
 refine zF (zG [] (.n (zB (.k rfl))<|.nil) ff rfl fun g1 => ⟨_, _, [], rfl, (.k 0 rfl<|.k 1 rfl<|.k 2 rfl<|.k 3 rfl<|.nil), (.nil), ?_⟩)
 refine zC ?_
 refine zF ?_
 refine zF (zG [] (.n (zA (.t rfl))<|.n (op_cmp (by simp) (.t rfl) (.k rfl) rfl)<|.nil) ff rfl fun g2 => ⟨_, _, [], rfl, (.k 0 rfl<|.k 1 rfl<|.k 2 rfl<|.k 3 rfl<|.k 14 rfl<|.nil), (.nil), ?_⟩)
 refine zC ?_
 refine zH (zK (.t rfl)) (fun h1 => ?_) (fun h1 => ?_)
 ·try simp only [cmpB, Z] at h1
  refine J_to (To.emps 1) ?_
  refine zF (zG [] (.w 0 (op_alloc 0 zr55 rfl rfl)<|.n (zA (.t rfl))<|.n (zA (.t rfl))<|.n (op_neg (.t rfl) (zO (by omega) (by omega)))<|.n (op_conv_int it3 it98 (.t rfl) (show IntKind.u64.wrap (-s) = (((-s).toNat : Nat) : Int) by rw [wr64 (by omega) (by omega)]; omega))<|.w 0 (op_callMp 0 rfl rfl (fun u => ilsh_ok hx (by omega)) rfl ⟨(.t rfl), (.t rfl),  trivial⟩)<|.n (op_assign_ve rfl rfl)<|.nil) ff rfl fun g3 => ⟨_, _, [0], rfl, (.k 8 rfl<|.nil), (.k 0 rfl<|.nil), ?_⟩)
  refine zC ?_
  refine J_ret ?_
  refine zD ?_
  refine JN_to (To.freeze 0 (fun _ h => h) rfl frz_blk rfl) ?_
  refine zQ (.cons (.tmp (.t rfl))<|.nil) (zM (sb_res1 (sb_ok 0 2 rfl rfl)) ?_)
  exact sb_eq (by rw [cut_1 (by omega)])
 ·try simp only [cmpB, Z] at h1
  refine J_skip ?_
  refine zC ?_
  refine J_to (To.emps 1) ?_
  refine zF (zG [] (.w 0 (op_alloc 0 zr55 rfl rfl)<|.n (zA (.t rfl))<|.n (zA (.t rfl))<|.n (op_conv_int it3 it98 (.t rfl) (show IntKind.u64.wrap (s) = (((s).toNat : Nat) : Int) by rw [wr64 (by omega) (by omega)]; omega))<|.w 0 (op_callMp 0 rfl rfl (fun u => irsh_ok hx (by omega) (fun h => absurd h (by omega))) rfl ⟨(.t rfl), (.t rfl),  trivial⟩)<|.n (op_assign_ve rfl rfl)<|.nil) ff rfl fun g4 => ⟨_, _, [0], rfl, (.k 0 rfl<|.k 1 rfl<|.k 2 rfl<|.k 3 rfl<|.k 9 rfl<|.nil), (.k 0 rfl<|.nil), ?_⟩)
  refine zC ?_
  refine J_to (To.res 0 (r' := blk (g4 25) (intCJ (((x / 2 ^ s.toNat : Nat) : Int))) 55) rfl (res_eq (by rw [cut_q])) rfl) ?_
  refine J_to (To.emps 2) ?_
  refine zF (zG [] (.w 1 (op_alloc 1 zr55 rfl rfl)<|.n (zA (.t rfl))<|.w 0 (op_alloc_sep 0 zr55 rfl rfl)<|.n (zA (.t rfl))<|.n (zA (.t rfl))<|.n (op_conv_int it3 it98 (.t rfl) (show IntKind.u64.wrap (s) = (((s).toNat : Nat) : Int) by rw [wr64 (by omega) (by omega)]; omega))<|.w 0 (op_callSF 0 rfl rfl (fun u => CtM.oneI (ilsh_ok hq (by omega)) (.inr lent_blk) (.inl rfl)) rfl ⟨(.t rfl), (.t rfl), trivial⟩)<|.w 1 (op_callMp 1 rfl rfl (fun u => isub_ok hx hqs) rfl ⟨(.t rfl), (.t rfl),  trivial⟩)<|.n (op_assign_ve rfl rfl)<|.nil) ff rfl fun g5 => ⟨_, _, [0, 1], rfl, (.k 1 rfl<|.k 2 rfl<|.k 3 rfl<|.k 9 rfl<|.k 10 rfl<|.nil), (.k 0 rfl<|.k 1 rfl<|.nil), ?_⟩)
  refine zC ?_
  refine J_to (To.res 1 (r' := blk (g5 33) (intCJ (((x % 2 ^ s.toNat : Nat) : Int))) 55) rfl (res_eq (by rw [cut_r])) rfl) ?_
  refine J_to (To.emps 1) ?_
  refine zF (J_JO ?_)
  refine JO_split 7 rfl ?_
  refine (JO_reg (.n (zA (.t rfl))<|.w 2 (op_alloc 2 zr55 rfl rfl)<|.n (zP (newint_ok (n := 1) (by omega)) ⟨(.k rfl),  trivial⟩)<|.n (zA (.t rfl))<|.n (op_sub (.t rfl) (.k rfl) (zO (by omega) (by omega)))<|.n (op_conv_int it3 it98 (.t rfl) (show IntKind.u64.wrap (s - 1) = (((s - 1).toNat : Nat) : Int) by rw [wr64 (by omega) (by omega)]; omega))<|.w 2 (op_callMp 2 rfl rfl (fun u => ilsh_ok (x := ((1 : Nat) : Int)) (sml_ofJ (by decide)) (by omega)) rfl ⟨(.t rfl), (.t rfl),  trivial⟩)<|.nil) rfl fun g6 => ⟨_, _, [0, 1, 2], rfl, (.k 2 rfl<|.k 3 rfl<|.k 9 rfl<|.k 10 rfl<|.k 34 rfl<|.k 40 rfl<|.nil), (.k 0 rfl<|.k 1 rfl<|.k 2 rfl<|.nil), ?_⟩)
  refine JN_to (To.res 2 (r' := blk (g6 40) (intCJ (((2 ^ (s - 1).toNat : Nat) : Int))) 55) rfl (res_eq (by rw [cut_h])) rfl) ?_
  refine JN_to (To.freeze 1 (fun _ h => h) rfl frz_blk rfl) ?_
  refine JN_to (To.freeze 2 (fun _ h => h) rfl frz_blk rfl) ?_
  refine JN_seg ?_
  refine (JO_reg (.n (zP (icmp_ok (Int.natCast_nonneg _) (Int.natCast_nonneg _)) ⟨(Lk.sub (sb_ok 1 2 rfl rfl) (.t rfl)), (Lk.sub (sb_ok 0 2 rfl rfl) (.t rfl)),  trivial⟩)<|.n (zB (.t rfl))<|.nil) rfl fun g7 => ⟨_, _, [0], rfl, (.k 2 rfl<|.k 3 rfl<|.k 9 rfl<|.k 10 rfl<|.k 11 rfl<|.nil), (.k 0 rfl<|.nil), ?_⟩)
  refine zC ?_
  refine zF (zG [] (.n (zB (.k rfl))<|.nil) ff rfl fun g8 => ⟨_, _, [0], rfl, (.k 2 rfl<|.k 3 rfl<|.k 9 rfl<|.k 10 rfl<|.k 11 rfl<|.k 12 rfl<|.nil), (.k 0 rfl<|.nil), ?_⟩)
  refine zC ?_
  refine zF ?_
  refine zT ?_
  refine zF (zG [] (.n (zA (.t rfl))<|.n (zP (isign_ok) ⟨(Lk.sub (sb_ok 1 2 rfl rfl) (.t rfl)),  trivial⟩)<|.n (op_cmp (by simp) (.t rfl) (.k rfl) rfl)<|.n (zB (.t rfl))<|.nil) ff rfl fun g9 => ⟨_, _, [0], rfl, (.k 2 rfl<|.k 3 rfl<|.k 9 rfl<|.k 11 rfl<|.k 12 rfl<|.k 42 rfl<|.nil), (.k 0 rfl<|.nil), ?_⟩)
  refine zC ?_
  refine zH (zK (.t rfl)) (fun h2 => ?_) (fun h2 => ?_)
  ·try simp only [cmpB, Z] at h2
   refine J_skip ?_
   refine zR ?_
   refine zC ?_
   refine zF ?_
   refine zF (zG [] (.n (zA (.t rfl))<|.nil) ff rfl fun g10 => ⟨_, _, [0], rfl, (.k 9 rfl<|.k 74 rfl<|.nil), (.k 0 rfl<|.nil), ?_⟩)
   refine zC ?_
   refine zH (zK (.t rfl)) (fun h3 => ?_) (fun h3 => ?_)
   ·have h3' := h3
    try simp only [cmpB, Z] at h3
    exact absurd h3' (by decide)
   ·have h3' := h3
    try simp only [cmpB, Z] at h3
    refine J_skip ?_
    refine zC ?_
    refine zF (zG [] (.n (zA (.t rfl))<|.n (zB (.t rfl))<|.nil) ff rfl fun g11 => ⟨_, _, [0], rfl, (.k 8 rfl<|.nil), (.k 0 rfl<|.nil), ?_⟩)
    refine zC ?_
    refine J_ret ?_
    refine JN_to (To.freeze 0 (fun _ h => h) rfl frz_blk rfl) ?_
    refine zQ (.cons (.tmp (.t rfl))<|.nil) (zM (sb_res1 (sb_ok 0 2 rfl rfl)) ?_)
    exact sb_eq (by rw [cut_3 (by omega) (cutU_0 h2)])
  ·try simp only [cmpB, Z] at h2
   refine zF (zG [] (.n (zA (.t rfl))<|.n (op_cmp (by simp) (.t rfl) (.k rfl) rfl)<|.n (zB (.t rfl))<|.nil) ff rfl fun g12 => ⟨_, _, [0], rfl, (.k 2 rfl<|.k 3 rfl<|.k 9 rfl<|.k 11 rfl<|.k 12 rfl<|.k 46 rfl<|.nil), (.k 0 rfl<|.nil), ?_⟩)
   refine zC ?_
   refine zH (zK (.t rfl)) (fun h4 => ?_) (fun h4 => ?_)
   ·have h4' := h4
    try simp only [cmpB, Z] at h4
    exact absurd h4' (by decide)
   ·have h4' := h4
    try simp only [cmpB, Z] at h4
    refine zF (zG [] (.n (zA (.t rfl))<|.n (op_cmp (by simp) (.t rfl) (.k rfl) rfl)<|.n (zB (.t rfl))<|.nil) ff rfl fun g13 => ⟨_, _, [0], rfl, (.k 2 rfl<|.k 3 rfl<|.k 9 rfl<|.k 11 rfl<|.k 12 rfl<|.k 51 rfl<|.nil), (.k 0 rfl<|.nil), ?_⟩)
    refine zC ?_
    refine zH (zK (.t rfl)) (fun h5 => ?_) (fun h5 => ?_)
    ·have h5' := h5
     try simp only [cmpB, Z] at h5
     exact absurd h5' (by decide)
    ·have h5' := h5
     try simp only [cmpB, Z] at h5
     refine zF (zG [] (.n (zA (.t rfl))<|.n (op_cmp (by simp) (.t rfl) (.k rfl) rfl)<|.n (zB (.t rfl))<|.nil) ff rfl fun g14 => ⟨_, _, [0], rfl, (.k 3 rfl<|.k 9 rfl<|.k 11 rfl<|.k 12 rfl<|.k 55 rfl<|.nil), (.k 0 rfl<|.nil), ?_⟩)
     refine zC ?_
     refine zH (zK (.t rfl)) (fun h6 => ?_) (fun h6 => ?_)
     ·have h6' := h6
      try simp only [cmpB, Z] at h6
      exact absurd h6' (by decide)
     ·have h6' := h6
      try simp only [cmpB, Z] at h6
      refine zF (zG [] (.n (zA (.t rfl))<|.n (op_cmp (by simp) (.t rfl) (.k rfl) rfl)<|.n (zB (.t rfl))<|.nil) ff rfl fun g15 => ⟨_, _, [0], rfl, (.k 9 rfl<|.k 11 rfl<|.k 12 rfl<|.k 60 rfl<|.nil), (.k 0 rfl<|.nil), ?_⟩)
      refine zC ?_
      refine zH (zK (.t rfl)) (fun h7 => ?_) (fun h7 => ?_)
      ·have h7' := h7
       try simp only [cmpB, Z] at h7
       refine (zG [] (.n (zA (.t rfl))<|.n (op_cmp (by simp) (.t rfl) (.k rfl) rfl)<|.n (zA (.t rfl))<|.n (op_guard rfl rfl (gd_b rfl) (fun hC => (zA (.t rfl))))<|.n (op_guard rfl rfl (gd_b rfl) (fun hC => (op_cmp (by simp) (.w rfl hC) (.k rfl) rfl)))<|.n (op_guard rfl rfl (gd_b rfl) (fun hC => (zA (.w rfl hC))))<|.n (op_guard rfl rfl (gd_w rfl) (fun hC => (zA (.t rfl))))<|.r 0 (op_guard rfl rfl (gd_w rfl) (fun hC => (op_callL 0 (ibit_ok) (pure_isv _) ⟨.inr ⟨_, (.w rfl hC), lent_blk⟩, .inl (.k rfl),  trivial⟩ rfl)))<|.n (op_guard rfl rfl (gd_w rfl) (fun hC => (op_cmp (by simp) (.w rfl hC) (.k rfl) rfl)))<|.n (op_guard rfl rfl (gd_b rfl) (fun hC => (op_and (.w rfl hC) (fun h2 => (.w rfl ⟨hC, h2⟩)))))<|.n (op_or (.t rfl) (fun h2 => (.w rfl h2)))<|.n (zB (.t rfl))<|.nil) ff rfl fun g16 => ⟨_, _, [0], rfl, (.k 9 rfl<|.k 12 rfl<|.nil), (.k 0 rfl<|.nil), ?_⟩)
       refine zR ?_
       refine zC ?_
       refine zF ?_
       refine zF (zG [] (.n (zA (.t rfl))<|.nil) ff rfl fun g17 => ⟨_, _, [0], rfl, (.k 9 rfl<|.k 74 rfl<|.nil), (.k 0 rfl<|.nil), ?_⟩)
       refine zC ?_
       refine zH (zK (.t rfl)) (fun h8 => ?_) (fun h8 => ?_)
       ·have h8' := h8
        try simp only [cmpB, Z] at h8
        refine (zG [] (.n (zA (.t rfl))<|.n (zA (.t rfl))<|.n (zP (newint_ok (n := 1) (by omega)) ⟨(.k rfl),  trivial⟩)<|.w 0 (op_callM 0 (iadd2_ok hq (sml_ofJ (by decide))) ⟨(.t rfl), (.t rfl), (.t rfl),  trivial⟩ rfl)<|.nil) ff rfl fun g18 => ⟨_, _, [0], rfl, (.k 9 rfl<|.nil), (.k 0 rfl<|.nil), ?_⟩)
        refine zC ?_
        refine zF (zG [] (.n (zA (.t rfl))<|.n (zB (.t rfl))<|.nil) ff rfl fun g19 => ⟨_, _, [0], rfl, (.k 8 rfl<|.nil), (.k 0 rfl<|.nil), ?_⟩)
        refine zC ?_
        refine J_ret ?_
        refine JN_to (To.freeze 0 (fun _ h => h) rfl frz_blk rfl) ?_
        refine zQ (.cons (.tmp (.t rfl))<|.nil) (zM (sb_res1 (sb_ok 0 2 rfl rfl)) ?_)
        exact sb_eq (by rw [cut_2 (by omega) ((cutU_1 h2).trans h8')])
       ·have h8' := h8
        try simp only [cmpB, Z] at h8
        refine J_skip ?_
        refine zC ?_
        refine zF (zG [] (.n (zA (.t rfl))<|.n (zB (.t rfl))<|.nil) ff rfl fun g20 => ⟨_, _, [0], rfl, (.k 8 rfl<|.nil), (.k 0 rfl<|.nil), ?_⟩)
        refine zC ?_
        refine J_ret ?_
        refine JN_to (To.freeze 0 (fun _ h => h) rfl frz_blk rfl) ?_
        refine zQ (.cons (.tmp (.t rfl))<|.nil) (zM (sb_res1 (sb_ok 0 2 rfl rfl)) ?_)
        exact sb_eq (by rw [cut_3 (by omega) ((cutU_1 h2).trans h8')])
      ·have h7' := h7
       try simp only [cmpB, Z] at h7
       exact absurd h7' (by decide)
end Go.Proofs.YtcpififnffmjfaaGreatDoor
