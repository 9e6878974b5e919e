/- Printed by a program of ours (walk.py): walks of lengths of words, shifts to the right. -/
import Derived.Test.YtcpififnffmjfaaGreatDoorZsKb
import Derived.Test.YtcpififnffmjfaaGreatDoorProg
import Derived.KernelRfl
import Derived.Test.YtcpififnffmjfaaGreatDoorZsTypes
import Derived.Test.YtcpififnffmjfaaGreatDoorZsWBih
import Derived.Test.YtcpififnffmjfaaGreatDoorZsBik
set_option linter.unusedVariables false
set_option linter.unusedSimpArgs false
set_option maxRecDepth 20000
set_option maxHeartbeats 4000000
namespace Go.Proofs.YtcpififnffmjfaaGreatDoor
open Go Go.Bn
attribute [local irreducible] OpOK
theorem len64_ok {z : Int} (z0 : 0 ≤ z) (z1 : z < 18446744073709551616) : Ct Tryz.prog 95 [isv (.int .u64 z)] (isv (.int .i64 (bl z.toNat : Int))) := by
 refine Ct.of Tryz.func95 rfl (by kernel_rfl) rfl fun c0 => ?_
 refine zF (zG [] (.n (zB (.k rfl))<|.nil) ff rfl fun g1 => ⟨_, _, [], rfl, (.k 0 rfl<|.k 2 rfl<|.nil), (.nil), ?_⟩)
 refine zC ?_
 refine zF ?_
 refine zF (zG [] (.n (zA (.t rfl))<|.n (op_cmp (by simp) (.t rfl) (.k rfl) rfl)<|.nil) ff rfl fun g2 => ⟨_, _, [], rfl, (.k 0 rfl<|.k 2 rfl<|.k 4 rfl<|.nil), (.nil), ?_⟩)
 refine zC ?_
 refine zH (zK (.t rfl)) (fun h1 => ?_) (fun h1 => ?_)
 ·try simp only [cmpB, Z] at h1
  have e1 := bl_32 h1
  refine zF (zG [] (.n (zA (.t rfl))<|.n (op_shr (.t rfl) (.k rfl) (by omega) (shr64_32 _))<|.n (zB (.t rfl))<|.nil) ff rfl fun g3 => ⟨_, _, [], rfl, (.k 0 rfl<|.nil), (.nil), ?_⟩)
  refine zC ?_
  refine (zG [] (.n (zB (.k rfl))<|.nil) ff rfl fun g4 => ⟨_, _, [], rfl, (.k 0 rfl<|.k 2 rfl<|.nil), (.nil), ?_⟩)
  refine zC ?_
  refine zF ?_
  refine zF (zG [] (.n (zA (.t rfl))<|.n (op_cmp (by simp) (.t rfl) (.k rfl) rfl)<|.nil) ff rfl fun g5 => ⟨_, _, [], rfl, (.k 0 rfl<|.k 2 rfl<|.k 8 rfl<|.nil), (.nil), ?_⟩)
  refine zC ?_
  refine zH (zK (.t rfl)) (fun h2 => ?_) (fun h2 => ?_)
  ·try simp only [cmpB, Z] at h2
   have e2 := bl_16 h2
   refine zF (zG [] (.n (zA (.t rfl))<|.n (op_shr (.t rfl) (.k rfl) (by omega) (shr64_16 _))<|.n (zB (.t rfl))<|.nil) ff rfl fun g6 => ⟨_, _, [], rfl, (.k 0 rfl<|.k 2 rfl<|.nil), (.nil), ?_⟩)
   refine zC ?_
   refine (zG [] (.n (zA (.t rfl))<|.n (op_add (.t rfl) (.k rfl) (zO (by omega) (by omega)))<|.n (zB (.t rfl))<|.nil) ff rfl fun g7 => ⟨_, _, [], rfl, (.k 0 rfl<|.k 2 rfl<|.nil), (.nil), ?_⟩)
   refine zC ?_
   refine zF ?_
   refine zF (zG [] (.n (zA (.t rfl))<|.n (op_cmp (by simp) (.t rfl) (.k rfl) rfl)<|.nil) ff rfl fun g8 => ⟨_, _, [], rfl, (.k 0 rfl<|.k 2 rfl<|.k 14 rfl<|.nil), (.nil), ?_⟩)
   refine zC ?_
   refine zH (zK (.t rfl)) (fun h3 => ?_) (fun h3 => ?_)
   ·try simp only [cmpB, Z] at h3
    have e3 := bl_8 h3
    refine zF (zG [] (.n (zA (.t rfl))<|.n (op_shr (.t rfl) (.k rfl) (by omega) (shr64_8 _))<|.n (zB (.t rfl))<|.nil) ff rfl fun g9 => ⟨_, _, [], rfl, (.k 0 rfl<|.k 2 rfl<|.nil), (.nil), ?_⟩)
    refine zC ?_
    refine (zG [] (.n (zA (.t rfl))<|.n (op_add (.t rfl) (.k rfl) (zO (by omega) (by omega)))<|.n (zB (.t rfl))<|.nil) ff rfl fun g10 => ⟨_, _, [], rfl, (.k 0 rfl<|.k 2 rfl<|.nil), (.nil), ?_⟩)
    refine zC ?_
    refine zF (zG [] (.n (zA (.t rfl))<|.n (zA (.t rfl))<|.n (op_conv_int it38 it5 (.t rfl) (wr8 (by omega) (by omega)))<|.n (op_sindex Tryz.underlying9 (.k rfl) (.t rfl) (by omega) (len8_at (by omega) (by omega)))<|.n (op_conv_int it5 it3 (.t rfl) (len8_wrap (by omega) (by omega)))<|.n (op_add (.t rfl) (.t rfl) (wr_bl (by omega) (by omega) (by omega) (by omega)))<|.n (zB (.t rfl))<|.nil) ff rfl fun g11 => ⟨_, _, [], rfl, (.k 2 rfl<|.nil), (.nil), ?_⟩)
    refine zC ?_
    refine J_ret ?_
    refine zQ (.cons (.tmp (.t rfl))<|.nil) (zM (sb_res1 zL) ?_)
    exact ret_i (by omega)
   ·try simp only [cmpB, Z] at h3
    refine J_skip ?_
    refine zC ?_
    refine zF (zG [] (.n (zA (.t rfl))<|.n (zA (.t rfl))<|.n (op_conv_int it38 it5 (.t rfl) (wr8 (by omega) (by omega)))<|.n (op_sindex Tryz.underlying9 (.k rfl) (.t rfl) (by omega) (len8_at (by omega) (by omega)))<|.n (op_conv_int it5 it3 (.t rfl) (len8_wrap (by omega) (by omega)))<|.n (op_add (.t rfl) (.t rfl) (wr_bl (by omega) (by omega) (by omega) (by omega)))<|.n (zB (.t rfl))<|.nil) ff rfl fun g12 => ⟨_, _, [], rfl, (.k 2 rfl<|.nil), (.nil), ?_⟩)
    refine zC ?_
    refine J_ret ?_
    refine zQ (.cons (.tmp (.t rfl))<|.nil) (zM (sb_res1 zL) ?_)
    exact ret_i (by omega)
  ·try simp only [cmpB, Z] at h2
   refine J_skip ?_
   refine zC ?_
   refine zF ?_
   refine zF (zG [] (.n (zA (.t rfl))<|.n (op_cmp (by simp) (.t rfl) (.k rfl) rfl)<|.nil) ff rfl fun g13 => ⟨_, _, [], rfl, (.k 0 rfl<|.k 2 rfl<|.k 14 rfl<|.nil), (.nil), ?_⟩)
   refine zC ?_
   refine zH (zK (.t rfl)) (fun h4 => ?_) (fun h4 => ?_)
   ·try simp only [cmpB, Z] at h4
    have e3 := bl_8 h4
    refine zF (zG [] (.n (zA (.t rfl))<|.n (op_shr (.t rfl) (.k rfl) (by omega) (shr64_8 _))<|.n (zB (.t rfl))<|.nil) ff rfl fun g14 => ⟨_, _, [], rfl, (.k 0 rfl<|.k 2 rfl<|.nil), (.nil), ?_⟩)
    refine zC ?_
    refine (zG [] (.n (zA (.t rfl))<|.n (op_add (.t rfl) (.k rfl) (zO (by omega) (by omega)))<|.n (zB (.t rfl))<|.nil) ff rfl fun g15 => ⟨_, _, [], rfl, (.k 0 rfl<|.k 2 rfl<|.nil), (.nil), ?_⟩)
    refine zC ?_
    refine zF (zG [] (.n (zA (.t rfl))<|.n (zA (.t rfl))<|.n (op_conv_int it38 it5 (.t rfl) (wr8 (by omega) (by omega)))<|.n (op_sindex Tryz.underlying9 (.k rfl) (.t rfl) (by omega) (len8_at (by omega) (by omega)))<|.n (op_conv_int it5 it3 (.t rfl) (len8_wrap (by omega) (by omega)))<|.n (op_add (.t rfl) (.t rfl) (wr_bl (by omega) (by omega) (by omega) (by omega)))<|.n (zB (.t rfl))<|.nil) ff rfl fun g16 => ⟨_, _, [], rfl, (.k 2 rfl<|.nil), (.nil), ?_⟩)
    refine zC ?_
    refine J_ret ?_
    refine zQ (.cons (.tmp (.t rfl))<|.nil) (zM (sb_res1 zL) ?_)
    exact ret_i (by omega)
   ·try simp only [cmpB, Z] at h4
    refine J_skip ?_
    refine zC ?_
    refine zF (zG [] (.n (zA (.t rfl))<|.n (zA (.t rfl))<|.n (op_conv_int it38 it5 (.t rfl) (wr8 (by omega) (by omega)))<|.n (op_sindex Tryz.underlying9 (.k rfl) (.t rfl) (by omega) (len8_at (by omega) (by omega)))<|.n (op_conv_int it5 it3 (.t rfl) (len8_wrap (by omega) (by omega)))<|.n (op_add (.t rfl) (.t rfl) (wr_bl (by omega) (by omega) (by omega) (by omega)))<|.n (zB (.t rfl))<|.nil) ff rfl fun g17 => ⟨_, _, [], rfl, (.k 2 rfl<|.nil), (.nil), ?_⟩)
    refine zC ?_
    refine J_ret ?_
    refine zQ (.cons (.tmp (.t rfl))<|.nil) (zM (sb_res1 zL) ?_)
    exact ret_i (by omega)
 ·try simp only [cmpB, Z] at h1
  refine J_skip ?_
  refine zC ?_
  refine zF ?_
  refine zF (zG [] (.n (zA (.t rfl))<|.n (op_cmp (by simp) (.t rfl) (.k rfl) rfl)<|.nil) ff rfl fun g18 => ⟨_, _, [], rfl, (.k 0 rfl<|.k 2 rfl<|.k 8 rfl<|.nil), (.nil), ?_⟩)
  refine zC ?_
  refine zH (zK (.t rfl)) (fun h5 => ?_) (fun h5 => ?_)
  ·try simp only [cmpB, Z] at h5
   have e2 := bl_16 h5
   refine zF (zG [] (.n (zA (.t rfl))<|.n (op_shr (.t rfl) (.k rfl) (by omega) (shr64_16 _))<|.n (zB (.t rfl))<|.nil) ff rfl fun g19 => ⟨_, _, [], rfl, (.k 0 rfl<|.k 2 rfl<|.nil), (.nil), ?_⟩)
   refine zC ?_
   refine (zG [] (.n (zA (.t rfl))<|.n (op_add (.t rfl) (.k rfl) (zO (by omega) (by omega)))<|.n (zB (.t rfl))<|.nil) ff rfl fun g20 => ⟨_, _, [], rfl, (.k 0 rfl<|.k 2 rfl<|.nil), (.nil), ?_⟩)
   refine zC ?_
   refine zF ?_
   refine zF (zG [] (.n (zA (.t rfl))<|.n (op_cmp (by simp) (.t rfl) (.k rfl) rfl)<|.nil) ff rfl fun g21 => ⟨_, _, [], rfl, (.k 0 rfl<|.k 2 rfl<|.k 14 rfl<|.nil), (.nil), ?_⟩)
   refine zC ?_
   refine zH (zK (.t rfl)) (fun h6 => ?_) (fun h6 => ?_)
   ·try simp only [cmpB, Z] at h6
    have e3 := bl_8 h6
    refine zF (zG [] (.n (zA (.t rfl))<|.n (op_shr (.t rfl) (.k rfl) (by omega) (shr64_8 _))<|.n (zB (.t rfl))<|.nil) ff rfl fun g22 => ⟨_, _, [], rfl, (.k 0 rfl<|.k 2 rfl<|.nil), (.nil), ?_⟩)
    refine zC ?_
    refine (zG [] (.n (zA (.t rfl))<|.n (op_add (.t rfl) (.k rfl) (zO (by omega) (by omega)))<|.n (zB (.t rfl))<|.nil) ff rfl fun g23 => ⟨_, _, [], rfl, (.k 0 rfl<|.k 2 rfl<|.nil), (.nil), ?_⟩)
    refine zC ?_
    refine zF (zG [] (.n (zA (.t rfl))<|.n (zA (.t rfl))<|.n (op_conv_int it38 it5 (.t rfl) (wr8 (by omega) (by omega)))<|.n (op_sindex Tryz.underlying9 (.k rfl) (.t rfl) (by omega) (len8_at (by omega) (by omega)))<|.n (op_conv_int it5 it3 (.t rfl) (len8_wrap (by omega) (by omega)))<|.n (op_add (.t rfl) (.t rfl) (wr_bl (by omega) (by omega) (by omega) (by omega)))<|.n (zB (.t rfl))<|.nil) ff rfl fun g24 => ⟨_, _, [], rfl, (.k 2 rfl<|.nil), (.nil), ?_⟩)
    refine zC ?_
    refine J_ret ?_
    refine zQ (.cons (.tmp (.t rfl))<|.nil) (zM (sb_res1 zL) ?_)
    exact ret_i (by omega)
   ·try simp only [cmpB, Z] at h6
    refine J_skip ?_
    refine zC ?_
    refine zF (zG [] (.n (zA (.t rfl))<|.n (zA (.t rfl))<|.n (op_conv_int it38 it5 (.t rfl) (wr8 (by omega) (by omega)))<|.n (op_sindex Tryz.underlying9 (.k rfl) (.t rfl) (by omega) (len8_at (by omega) (by omega)))<|.n (op_conv_int it5 it3 (.t rfl) (len8_wrap (by omega) (by omega)))<|.n (op_add (.t rfl) (.t rfl) (wr_bl (by omega) (by omega) (by omega) (by omega)))<|.n (zB (.t rfl))<|.nil) ff rfl fun g25 => ⟨_, _, [], rfl, (.k 2 rfl<|.nil), (.nil), ?_⟩)
    refine zC ?_
    refine J_ret ?_
    refine zQ (.cons (.tmp (.t rfl))<|.nil) (zM (sb_res1 zL) ?_)
    exact ret_i (by omega)
  ·try simp only [cmpB, Z] at h5
   refine J_skip ?_
   refine zC ?_
   refine zF ?_
   refine zF (zG [] (.n (zA (.t rfl))<|.n (op_cmp (by simp) (.t rfl) (.k rfl) rfl)<|.nil) ff rfl fun g26 => ⟨_, _, [], rfl, (.k 0 rfl<|.k 2 rfl<|.k 14 rfl<|.nil), (.nil), ?_⟩)
   refine zC ?_
   refine zH (zK (.t rfl)) (fun h7 => ?_) (fun h7 => ?_)
   ·try simp only [cmpB, Z] at h7
    have e3 := bl_8 h7
    refine zF (zG [] (.n (zA (.t rfl))<|.n (op_shr (.t rfl) (.k rfl) (by omega) (shr64_8 _))<|.n (zB (.t rfl))<|.nil) ff rfl fun g27 => ⟨_, _, [], rfl, (.k 0 rfl<|.k 2 rfl<|.nil), (.nil), ?_⟩)
    refine zC ?_
    refine (zG [] (.n (zA (.t rfl))<|.n (op_add (.t rfl) (.k rfl) (zO (by omega) (by omega)))<|.n (zB (.t rfl))<|.nil) ff rfl fun g28 => ⟨_, _, [], rfl, (.k 0 rfl<|.k 2 rfl<|.nil), (.nil), ?_⟩)
    refine zC ?_
    refine zF (zG [] (.n (zA (.t rfl))<|.n (zA (.t rfl))<|.n (op_conv_int it38 it5 (.t rfl) (wr8 (by omega) (by omega)))<|.n (op_sindex Tryz.underlying9 (.k rfl) (.t rfl) (by omega) (len8_at (by omega) (by omega)))<|.n (op_conv_int it5 it3 (.t rfl) (len8_wrap (by omega) (by omega)))<|.n (op_add (.t rfl) (.t rfl) (wr_bl (by omega) (by omega) (by omega) (by omega)))<|.n (zB (.t rfl))<|.nil) ff rfl fun g29 => ⟨_, _, [], rfl, (.k 2 rfl<|.nil), (.nil), ?_⟩)
    refine zC ?_
    refine J_ret ?_
    refine zQ (.cons (.tmp (.t rfl))<|.nil) (zM (sb_res1 zL) ?_)
    exact ret_i (by omega)
   ·try simp only [cmpB, Z] at h7
    refine J_skip ?_
    refine zC ?_
    refine zF (zG [] (.n (zA (.t rfl))<|.n (zA (.t rfl))<|.n (op_conv_int it38 it5 (.t rfl) (wr8 (by omega) (by omega)))<|.n (op_sindex Tryz.underlying9 (.k rfl) (.t rfl) (by omega) (len8_at (by omega) (by omega)))<|.n (op_conv_int it5 it3 (.t rfl) (len8_wrap (by omega) (by omega)))<|.n (op_add (.t rfl) (.t rfl) (wr_bl (by omega) (by omega) (by omega) (by omega)))<|.n (zB (.t rfl))<|.nil) ff rfl fun g30 => ⟨_, _, [], rfl, (.k 2 rfl<|.nil), (.nil), ?_⟩)
    refine zC ?_
    refine J_ret ?_
    refine zQ (.cons (.tmp (.t rfl))<|.nil) (zM (sb_res1 zL) ?_)
    exact ret_i (by omega)
theorem blen_ok {n : Nat} (hn : (limbsJ n).length ≤ 1000000) : Ct Tryz.prog 66 [ils .u64 (limbsJ n)] (isv (.int .i64 (bl n : Int))) := by
 refine Ct.of Tryz.func66 rfl (by kernel_rfl) rfl fun c0 => ?_
 refine zF (zG [] (.n (zB (.k rfl))<|.nil) ff rfl fun g1 => ⟨_, _, [], rfl, (.k 0 rfl<|.nil), (.nil), ?_⟩)
 refine zC ?_
 refine zF ?_
 refine zF (zG [] (.n (zA (.t rfl))<|.n (op_len_m sl53 (.t rfl))<|.n (op_cmp (by simp) (.t rfl) (.k rfl) rfl)<|.nil) ff rfl fun g2 => ⟨_, _, [], rfl, (.k 0 rfl<|.k 5 rfl<|.nil), (.nil), ?_⟩)
 refine zC ?_
 refine zH (zK (.t rfl)) (fun h1 => ?_) (fun h1 => ?_)
 ·try simp only [cmpB, Z] at h1
  refine zF (zG [] (.n (zB (.k rfl))<|.nil) ff rfl fun g3 => ⟨_, _, [], rfl, (.k 2 rfl<|.nil), (.nil), ?_⟩)
  refine zC ?_
  refine J_ret ?_
  refine zD ?_
  refine zQ (.cons (.tmp (.t rfl))<|.nil) (zM (sb_res1 zL) ?_)
  exact ret_i (bl_limbsJ (by have := h1; omega))
 ·try simp only [cmpB, Z] at h1
  have gd := (limbs_digJ n).at (k := ((limbsJ n).length - 1 : Int).toNat) (by have := h1; omega)
  have hbb := bl_limbs2J (n := n) (by have := h1; omega)
  have hb4 := bl_lt (t := ((limbsJ n).getD ((limbsJ n).length - 1 : Int).toNat 0).toNat) (k := 64) (by show _ < 18446744073709551616; omega)
  refine J_skip ?_
  refine zC ?_
  refine zF (zG [] (.n (zA (.t rfl))<|.n (op_len_m sl53 (.t rfl))<|.n (op_sub (.t rfl) (.k rfl) (zO (by omega) (by omega)))<|.n (op_mul (.k rfl) (.t rfl) (zO (by omega) (by omega)))<|.n (zA (.t rfl))<|.n (zA (.t rfl))<|.n (op_len_m sl53 (.t rfl))<|.n (op_sub (.t rfl) (.k rfl) (zO (by omega) (by omega)))<|.n (op_index_m 0 sl53 (.t rfl) (.t rfl) (by omega) (by omega))<|.n (op_load_sc sc38 (.t rfl) rfl)<|.n (zP (len64_ok gd.1 gd.2) ⟨(.t rfl),  trivial⟩)<|.n (op_add (.t rfl) (.t rfl) (zO (by omega) (by omega)))<|.n (zB (.t rfl))<|.nil) ff rfl fun g4 => ⟨_, _, [], rfl, (.k 2 rfl<|.nil), (.nil), ?_⟩)
  refine zC ?_
  refine J_ret ?_
  refine zQ (.cons (.tmp (.t rfl))<|.nil) (zM (sb_res1 zL) ?_)
  exact ret_i hbb
theorem tz64_ok {z : Int} (z0 : 0 < z) (z1 : z < 18446744073709551616) : Ct Tryz.prog 97 [isv (.int .u64 z)] (isv (.int .i64 (tzNJ z.toNat : Int))) := by
 refine Ct.of Tryz.func97 rfl (by kernel_rfl) rfl fun c0 => ?_
 obtain ⟨hal, htz⟩ := and_lowJ z0 z1
 have hdk := deb_atJ _ htz
 obtain ⟨K, hK⟩ : ∃ K, K = 2 ^ tzNJ z.toNat * 285870213051353865 % 18446744073709551616 := ⟨_, rfl⟩
 obtain ⟨I, hI⟩ : ∃ I, I = K / 288230376151711744 := ⟨_, rfl⟩
 rw [← hK, ← hI] at hdk
 have hm1 : IntKind.u64.wrap (((2 ^ tzNJ z.toNat : Nat) : Int) * 285870213051353865) = ((K : Nat) : Int) := by rw [hK]; exact deb_mulJ _
 have hm2 : ((K : Nat) : Int).fdiv (2 ^ min (58 : Int).toNat IntKind.u64.bits) = ((I : Nat) : Int) := by rw [hI]; exact shr27J _
 obtain ⟨J, hJ⟩ : ∃ J, J = 2 ^ tzNJ z.toNat := ⟨_, rfl⟩
 rw [← hJ] at hal hm1
 clear hK hI hJ
 refine zF (zG [] (.n (zB (.k rfl))<|.nil) ff rfl fun g1 => ⟨_, _, [], rfl, (.k 0 rfl<|.nil), (.nil), ?_⟩)
 refine zC ?_
 refine zF ?_
 refine zF (zG [] (.n (zA (.t rfl))<|.n (op_cmp (by simp) (.t rfl) (.k rfl) rfl)<|.nil) ff rfl fun g2 => ⟨_, _, [], rfl, (.k 0 rfl<|.k 4 rfl<|.nil), (.nil), ?_⟩)
 refine zC ?_
 refine zH (zK (.t rfl)) (fun h1 => ?_) (fun h1 => ?_)
 ·try simp only [cmpB, Z] at h1
  exact absurd h1 (by omega)
 ·try simp only [cmpB, Z] at h1
  refine J_skip ?_
  refine zC ?_
  refine zF (zG [] (.n (zA (.t rfl))<|.n (zA (.t rfl))<|.n (op_neg (.t rfl) (wneg32J z0 z1))<|.n (op_bits (by simp) (.t rfl) (.t rfl) hal)<|.n (op_mul (.t rfl) (.k rfl) hm1)<|.n (op_shr (.t rfl) (.k rfl) (by omega) hm2)<|.n (op_index_arr1 (base := tabV) ar137 (fun c _ => ⟨1, .inl rfl, rfl⟩) (.t rfl) (by omega) (by omega))<|.n (op_load_sc sc5 (Lk.sub (tab_atJ hdk.2) (.t rfl)) rfl)<|.n (op_conv_int it5 it3 (.t rfl) (zO (by rw [hdk.1]; omega) (by rw [hdk.1]; omega)))<|.n (zB (.t rfl))<|.nil) ff rfl fun g3 => ⟨_, _, [], rfl, (.k 2 rfl<|.nil), (.nil), ?_⟩)
  refine zC ?_
  refine J_ret ?_
  refine zQ (.cons (.tmp (.t rfl))<|.nil) (zM (sb_res1 zL) ?_)
  exact ret_i hdk.1
theorem bright_ok {x n : Nat} (hlm : (limbsJ x).length ≤ 1000000) (hn : n ≤ 32000000) : Ct Tryz.prog 87 [ils .u64 (limbsJ x), isv (.int .u64 (n : Int))] (tupp [ils .u64 (limbsJ (x / 2 ^ n)), isv (.bool (decide (x % 2 ^ n ≠ 0)))]) := by
 refine Ct.of Tryz.func87 rfl (by kernel_rfl) rfl fun c0 => ?_
 refine J_len 0 rfl fun hlen => ?_
 have hs64 : n % 64 < 64 := Nat.mod_lt _ (by omega)
 obtain ⟨hp1, hp2, hp3, hp4⟩ := pow_32J hs64
 have hm := limbs_digJ x
 refine zF (zG [] (.n (zB (.k rfl))<|.n (zB (.k rfl))<|.nil) ff rfl fun g1 => ⟨_, _, [], rfl, (.k 0 rfl<|.k 1 rfl<|.nil), (.nil), ?_⟩)
 refine zC ?_
 refine zF ?_
 refine zF (zG [] (.n (zA (.t rfl))<|.n (op_quo (.t rfl) (.k rfl) (by omega) (quo64 n (by omega)))<|.n (zA (.t rfl))<|.n (op_len_m sl53 (.t rfl))<|.n (op_conv_int it3 it98 (.t rfl) (wr64 (by omega) (by omega)))<|.n (op_cmp (by simp) (.t rfl) (.t rfl) rfl)<|.nil) ff rfl fun g2 => ⟨_, _, [], rfl, (.k 0 rfl<|.k 1 rfl<|.k 18 rfl<|.nil), (.nil), ?_⟩)
 refine zC ?_
 refine zH (zK (.t rfl)) (fun h1 => ?_) (fun h1 => ?_)
 ·try simp only [cmpB, Z] at h1
  refine zF (zG [] (.n (zA (.t rfl))<|.n (op_len_m sl53 (.t rfl))<|.n (op_cmp (by simp) (.t rfl) (.k rfl) rfl)<|.n (zB (.k rfl))<|.n (zB (.t rfl))<|.nil) ff rfl fun g3 => ⟨_, _, [], rfl, (.k 4 rfl<|.k 5 rfl<|.nil), (.nil), ?_⟩)
  refine zC ?_
  refine J_ret ?_
  refine zD ?_
  refine zQ (.cons (.tmp (.t rfl))<|.cons (.tmp (.t rfl))<|.nil) (zM (sb_res (.cons (sb_nil (mk := inp .u64))<|.cons zL<|.nil)) ?_)
  exact sb_tup (.cons (sb_eq (by rw [quot_big (by omega), limbs_zeroJ]))<|.cons (sb_eq (by rw [lost_1 (n := n) (by omega)]))<|.nil)
 ·try simp only [cmpB, Z] at h1
  have hwl : n / 64 < (limbsJ x).length := by omega
  have gw : 0 ≤ (limbsJ x).getD ((n / 64 : Nat) : Int).toNat 0 ∧ (limbsJ x).getD ((n / 64 : Nat) : Int).toNat 0 < 18446744073709551616 := hm.at (k := n / 64) hwl
  have hlt : (((limbsJ x).take (n / 64)).length : Int) = ((n / 64 : Nat) : Int) := by rw [List.length_take]; omega
  have hlt3 : (((limbsJ x).take ((n / 64 : Nat) : Int).toNat).length : Int) = ((n / 64 : Nat) : Int) := hlt
  refine J_skip ?_
  refine zC ?_
  refine zF (zG [] (.n (zA (.t rfl))<|.n (op_quo (.t rfl) (.k rfl) (by omega) (quo64 n (by omega)))<|.n (op_conv_int it98 it3 (.t rfl) (zO (by omega) (by omega)))<|.n (zA (.t rfl))<|.n (op_rem (.t rfl) (.k rfl) (by omega) (rem64 n))<|.n (zB (.t rfl))<|.n (zB (.t rfl))<|.nil) ff rfl fun g4 => ⟨_, _, [], rfl, (.k 0 rfl<|.k 6 rfl<|.k 7 rfl<|.nil), (.nil), ?_⟩)
  refine zC ?_
  refine zF (zG [] (.n (zA (.t rfl))<|.n (zA (.t rfl))<|.n (op_index_m 0 sl53 (.t rfl) (.t rfl) (by omega) (by omega))<|.n (op_load_sc sc38 (.t rfl) rfl)<|.n (zA (.t rfl))<|.n (op_shl (.k rfl) (.t rfl) (by omega) (oneJ hs64))<|.n (op_sub (.t rfl) (.k rfl) (maskJ hs64))<|.n (op_bits (by simp) (.t rfl) (.t rfl) (and_maskJ gw hs64))<|.n (zB (.t rfl))<|.nil) ff rfl fun g5 => ⟨_, _, [], rfl, (.k 0 rfl<|.k 6 rfl<|.k 7 rfl<|.k 8 rfl<|.nil), (.nil), ?_⟩)
  refine zC ?_
  refine zF ?_
  refine zF (zG [] (.n (zA (.t rfl))<|.n (zA (.t rfl))<|.n (op_slice_mn sl53 (.t rfl) (.t rfl) (by omega) (by omega))<|.n (op_len_m sl53 (.t rfl))<|.n (zA (.k rfl))<|.nil) ff rfl fun g6 => ⟨_, _, [], rfl, (.k 0 rfl<|.k 6 rfl<|.k 7 rfl<|.k 8 rfl<|.k 37 rfl<|.k 38 rfl<|.k 39 rfl<|.nil), (.nil), ?_⟩)
  refine zC ?_
  refine zT ?_
  refine J_loopc (α := Nat × Int) (fun z => LostI ((limbsJ x).take (n / 64)) ((limbsJ x).getD (n / 64) 0 % 2 ^ (n % 64)) z.1 z.2) (fun z => n / 64 - z.1) (fun z restR => (39, isv (.int .i64 (z.1 : Int))) :: (8, isv (.int .u64 z.2)) :: restR) (fun z restS => restS) (ρc := [(0, _), (6, _), (7, _), (37, _), (38, _)]) (σc := []) (0, (limbsJ x).getD (n / 64) 0 % 2 ^ (n % 64)) (by exact lost_zero (mod_rng gw)) (To.pick (fun _ => .sub (t := 39) rfl (sp_eq (by rfl))<|.sub (t := 8) rfl (sp_eq (by rfl))<|.k 0 rfl<|.k 6 rfl<|.k 7 rfl<|.k 37 rfl<|.k 38 rfl<|.nil) (fun _ => .nil) (ks := []) rfl) (fun z hI => ?_)
  obtain ⟨i, c⟩ := z
  try simp only at hI
  show J _ _ ((39, isv (.int .i64 (i : Int))) :: (8, isv (.int .u64 c)) :: _) (_) _ _
  have hIi := hI.hi
  refine zF (zG [] (.n (op_cmp (by simp) (.t rfl) (.t rfl) rfl)<|.nil) ff rfl fun g7 => ⟨_, _, [], rfl, (.k 0 rfl<|.k 6 rfl<|.k 7 rfl<|.k 8 rfl<|.k 37 rfl<|.k 38 rfl<|.k 39 rfl<|.k 40 rfl<|.nil), (.nil), ?_⟩)
  refine zC ?_
  refine zF ?_
  refine zH (zK (.t rfl)) (fun h2 => ?_) (fun h2 => ?_)
  ·try simp only [cmpB, Z] at h2
   have hIc := hI.hc
   have gi := (hm.take (n / 64)).at (k := ((i : Nat) : Int).toNat) (by omega)
   refine J_skip ?_
   refine zC ?_
   refine zF ?_
   refine zT ?_
   refine zF (zG [] (.n (op_index_m 0 sl53 (.t rfl) (.t rfl) (by omega) (by omega))<|.n (op_load_sc sc38 (.t rfl) rfl)<|.n (zB (.t rfl))<|.nil) ff rfl fun g8 => ⟨_, _, [], rfl, (.k 0 rfl<|.k 6 rfl<|.k 7 rfl<|.k 8 rfl<|.k 10 rfl<|.k 37 rfl<|.k 38 rfl<|.k 39 rfl<|.nil), (.nil), ?_⟩)
   refine zC ?_
   refine (zG [] (.n (zA (.t rfl))<|.n (zA (.t rfl))<|.n (op_bits (by simp) (.t rfl) (.t rfl) rfl)<|.n (zB (.t rfl))<|.nil) ff rfl fun g9 => ⟨_, _, [], rfl, (.k 0 rfl<|.k 6 rfl<|.k 7 rfl<|.k 8 rfl<|.k 37 rfl<|.k 38 rfl<|.k 39 rfl<|.nil), (.nil), ?_⟩)
   refine zR ?_
   refine zC ?_
   refine (zG [] (.n (op_add (.t rfl) (.k rfl) (zO (by omega) (by omega)))<|.n (zA (.t rfl))<|.nil) ff rfl fun g10 => ⟨_, _, [], rfl, (.k 0 rfl<|.k 6 rfl<|.k 7 rfl<|.k 8 rfl<|.k 37 rfl<|.k 38 rfl<|.k 39 rfl<|.nil), (.nil), ?_⟩)
   exact JN_again (i + 1, bitsOf .or .u64 c (((limbsJ x).take (n / 64)).getD i 0)) (by exact lost_step (hm.take _) hI (by omega)) (by show n / 64 - (_ + 1) < _; omega) (To.pick (fun _ => .sub (t := 39) rfl (sp_eq (by rfl))<|.sub (t := 8) rfl (sp_eq (by rfl))<|.k 0 rfl<|.k 6 rfl<|.k 7 rfl<|.k 37 rfl<|.k 38 rfl<|.nil) (fun _ => .nil) (ks := []) rfl)
  ·try simp only [cmpB, Z] at h2
   have hli := lost_done hwl hI (by have := hI.hi; omega)
   have hrl : ((List.replicate (((limbsJ x).length : Int) - ((n / 64 : Nat) : Int)).toNat (0 : Int)).length : Int) = ((limbsJ x).length : Int) - ((n / 64 : Nat) : Int) := by rw [List.length_replicate]; omega
   refine J_exit ?_
   refine zE ?_
   refine zE ?_
   refine zS ?_
   refine zC ?_
   refine J_to (To.emps 1) ?_
   refine zF (zG [] (.n (zA (.t rfl))<|.n (op_len_m sl53 (.t rfl))<|.n (zA (.t rfl))<|.n (op_sub (.t rfl) (.t rfl) (zO (by omega) (by omega)))<|.w 0 (op_make_m (mk := inp .u64) 0 0 sl53 zr38 rfl (fun _ => ⟨rfl, rfl⟩) (.t rfl) (.t rfl) (by omega) (by omega) (by omega) (by omega) rfl)<|.n (op_assign_ve rfl rfl)<|.nil) ff rfl fun g11 => ⟨_, _, [0], rfl, (.k 0 rfl<|.k 6 rfl<|.k 7 rfl<|.k 8 rfl<|.k 11 rfl<|.nil), (.k 0 rfl<|.nil), ?_⟩)
   refine zC ?_
   refine zF ?_
   refine zF (zG [] (.n (zA (.t rfl))<|.r 0 (op_len_som 0 sl53 (.t rfl) rfl)<|.n (zA (.k rfl))<|.nil) ff rfl fun g12 => ⟨_, _, [0], rfl, (.k 0 rfl<|.k 6 rfl<|.k 7 rfl<|.k 8 rfl<|.k 11 rfl<|.k 53 rfl<|.k 54 rfl<|.nil), (.k 0 rfl<|.nil), ?_⟩)
   refine zC ?_
   refine zT ?_
   refine J_loopc (α := Nat) (fun j => j ≤ (limbsJ x).length - n / 64) (fun j => (limbsJ x).length - n / 64 - j) (fun j restR => (54, isv (.int .i64 (j : Int))) :: restR) (fun j restS => som (g11 51) (inp .u64) (rgtPJ (limbsJ x) (n / 64) (n % 64) j) 38 :: restS) (ρc := [(0, _), (6, _), (7, _), (8, _), (11, _), (53, _)]) (σc := []) 0 (by exact Nat.zero_le _) (To.pick (fun _ => .sub (t := 54) rfl (sp_eq (by rfl))<|.k 0 rfl<|.k 6 rfl<|.k 7 rfl<|.k 8 rfl<|.k 11 rfl<|.k 53 rfl<|.nil) (fun _ => .sub 0 rfl ((res_eq (by rw [rgtP_zeroJ, show (((limbsJ x).length : Int) - ((n / 64 : Nat) : Int)).toNat = (limbsJ x).length - n / 64 by omega])))<|.nil) (ks := [0]) rfl) (fun j hJ => ?_)
   refine zF (zG [] (.n (op_cmp (by simp) (.t rfl) (.t rfl) rfl)<|.nil) ff rfl fun g13 => ⟨_, _, [0], rfl, (.k 0 rfl<|.k 6 rfl<|.k 7 rfl<|.k 8 rfl<|.k 11 rfl<|.k 53 rfl<|.k 54 rfl<|.k 55 rfl<|.nil), (.k 0 rfl<|.nil), ?_⟩)
   refine zC ?_
   refine zF ?_
   refine zH (zK (.t rfl)) (fun h3 => ?_) (fun h3 => ?_)
   ·try simp only [cmpB, Z] at h3
    have hil := length_rgtPJ (m := limbsJ x) (w := n / 64) (s := n % 64) (i := j) (by omega)
    have gx := digB_rngJ hm (n / 64 + j)
    have gy := digB_rngJ hm (n / 64 + j + 1)
    refine J_skip ?_
    refine zC ?_
    refine zF ?_
    refine zT ?_
    refine zF (zG [] (.n (zA (.t rfl))<|.n (zB (.t rfl))<|.nil) ff rfl fun g14 => ⟨_, _, [0], rfl, (.k 0 rfl<|.k 6 rfl<|.k 7 rfl<|.k 8 rfl<|.k 11 rfl<|.k 12 rfl<|.k 53 rfl<|.k 54 rfl<|.nil), (.k 0 rfl<|.nil), ?_⟩)
    refine zC ?_
    refine (zG [] (.n (zA (.t rfl))<|.n (zA (.t rfl))<|.n (zA (.t rfl))<|.n (zA (.t rfl))<|.n (zA (.t rfl))<|.n (op_add (.t rfl) (.t rfl) (show IntKind.i64.wrap (((n / 64 : Nat) : Int) + (j : Int)) = ((n / 64 + j : Nat) : Int) by rw [zO (by omega) (by omega)]; omega))<|.n (zP (digit_ok) ⟨(.t rfl), (.t rfl),  trivial⟩)<|.n (zA (.t rfl))<|.n (op_shr (.t rfl) (.t rfl) (by omega) (shrJ (by omega)))<|.n (zA (.t rfl))<|.n (zA (.t rfl))<|.n (zA (.t rfl))<|.n (op_add (.t rfl) (.t rfl) (show IntKind.i64.wrap (((n / 64 : Nat) : Int) + (j : Int)) = ((n / 64 + j : Nat) : Int) by rw [zO (by omega) (by omega)]; omega))<|.n (op_add (.t rfl) (.k rfl) (show IntKind.i64.wrap (((n / 64 + j : Nat) : Int) + 1) = ((n / 64 + j + 1 : Nat) : Int) by rw [zO (by omega) (by omega)]; omega))<|.n (zP (digit_ok) ⟨(.t rfl), (.t rfl),  trivial⟩)<|.n (zA (.t rfl))<|.n (op_sub (.k rfl) (.t rfl) (sub64 hs64))<|.n (op_shl (.t rfl) (.t rfl) (by omega) rfl)<|.n (op_bits (by simp) (.t rfl) (.t rfl) (rgt_or gx gy hs64))<|.r 0 (op_index_som 0 sl53 (.t rfl) (.t rfl) rfl (by omega) (by omega))<|.w 0 (op_store_som (mk := inp .u64) 0 (.t rfl) (.t rfl) co_inp sz38 rfl (by omega))<|.nil) ff rfl fun g15 => ⟨_, _, [0], rfl, (.k 0 rfl<|.k 6 rfl<|.k 7 rfl<|.k 8 rfl<|.k 11 rfl<|.k 53 rfl<|.k 54 rfl<|.nil), (.k 0 rfl<|.nil), ?_⟩)
    refine zR ?_
    refine zC ?_
    refine (zG [] (.n (op_add (.t rfl) (.k rfl) (zO (by omega) (by omega)))<|.n (zA (.t rfl))<|.nil) ff rfl fun g16 => ⟨_, _, [0], rfl, (.k 0 rfl<|.k 6 rfl<|.k 7 rfl<|.k 8 rfl<|.k 11 rfl<|.k 53 rfl<|.k 54 rfl<|.nil), (.k 0 rfl<|.nil), ?_⟩)
    exact JN_again (j + 1) (by omega) (by omega) (To.pick (fun _ => .sub (t := 54) rfl (sp_eq (by rfl))<|.k 0 rfl<|.k 6 rfl<|.k 7 rfl<|.k 8 rfl<|.k 11 rfl<|.k 53 rfl<|.nil) (fun _ => .sub 0 rfl ((res_eq (by rw [← rgtP_setJ (by omega) rgtd_eq]; rfl)))<|.nil) (ks := [0]) rfl)
   ·try simp only [cmpB, Z] at h3
    have hil := length_rgtPJ (m := limbsJ x) (w := n / 64) (s := n % 64) (i := j) (by omega)
    refine J_exit ?_
    refine zE ?_
    refine zE ?_
    refine zS ?_
    refine zC ?_
    refine J_to (To.freeze 0 (fun _ h => h) rfl frz_som rfl) ?_
    refine zF (zG [] (.n (zA (.t rfl))<|.n (zP (norm_ok (rgtP_digJ _ _ _ _)) ⟨(Lk.sub (sb_fk 0 rfl) (.t rfl)),  trivial⟩)<|.n (zA (.t rfl))<|.n (op_cmp (by simp) (.t rfl) (.k rfl) rfl)<|.n (zB (.t rfl))<|.n (zB (.t rfl))<|.nil) ff rfl fun g17 => ⟨_, _, [], rfl, (.k 4 rfl<|.k 5 rfl<|.nil), (.nil), ?_⟩)
    refine zC ?_
    refine J_ret ?_
    refine zQ (.cons (.tmp (.t rfl))<|.cons (.tmp (.t rfl))<|.nil) (zM (sb_res (.cons zL<|.cons zL<|.nil)) ?_)
    exact sb_tup (.cons (sb_eq (by rw [rgt_endL hwl (by omega)]))<|.cons (sb_eq (by rw [lost_2 hli]))<|.nil)
end Go.Proofs.YtcpififnffmjfaaGreatDoor
