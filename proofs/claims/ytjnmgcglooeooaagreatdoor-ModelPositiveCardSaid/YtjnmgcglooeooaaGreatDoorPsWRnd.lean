/- Printed by a program of ours (walk.py): walks of rounding by shifts. -/
import Derived.Test.YtjnmgcglooeooaaGreatDoorPsKb
import Derived.Test.YtjnmgcglooeooaaGreatDoorProg
import Derived.KernelRfl
import Derived.Test.YtjnmgcglooeooaaGreatDoorPsTypes
import Derived.Test.YtjnmgcglooeooaaGreatDoorPsWExact
import Derived.Test.YtjnmgcglooeooaaGreatDoorPsWRef1
import Derived.Test.YtjnmgcglooeooaaGreatDoorPsRne
set_option linter.unusedVariables false
set_option linter.unusedSimpArgs false
set_option maxRecDepth 20000
set_option maxHeartbeats 1000000
namespace Go.Proofs.YtjnmgcglooeooaaGreatDoor
open Go Go.Bn
attribute [local irreducible] OpOK
theorem len32_ok {z : Int} (z0 : 0 ≤ z) (z1 : z < 4294967296) : Ct Tryz.prog 99 [isv (.int .u32 z)] (isv (.int .i64 (bl z.toNat : Int))) := by
 refine Ct.of Tryz.func99 rfl (by kernel_rfl) rfl fun c0 => ?_
 refine zF (zG [] (.n (zB (.k rfl))<|.nil) ff rfl fun g1 => ⟨_, _, [], rfl, (.k 0 rfl<|.k 2 rfl<|.nil), (.nil), ?_⟩)
 refine zC ?_
 refine zF ?_
 refine zF (zG [] (.n (zA (.t rfl))<|.n (op_cmp (by simp) (.t rfl) (.k rfl) rfl)<|.nil) ff rfl fun g2 => ⟨_, _, [], rfl, (.k 0 rfl<|.k 2 rfl<|.k 4 rfl<|.nil), (.nil), ?_⟩)
 refine zC ?_
 refine zH (zK (.t rfl)) (fun h1 => ?_) (fun h1 => ?_)
 ·try simp only [cmpB, Z] at h1
  have e1 := bl_16 h1
  refine zF (zG [] (.n (zA (.t rfl))<|.n (op_shr (.t rfl) (.k rfl) (by omega) (shr32_16 _))<|.n (zB (.t rfl))<|.nil) ff rfl fun g3 => ⟨_, _, [], rfl, (.k 0 rfl<|.nil), (.nil), ?_⟩)
  refine zC ?_
  refine (zG [] (.n (zB (.k rfl))<|.nil) ff rfl fun g4 => ⟨_, _, [], rfl, (.k 0 rfl<|.k 2 rfl<|.nil), (.nil), ?_⟩)
  refine zC ?_
  refine zF ?_
  refine zF (zG [] (.n (zA (.t rfl))<|.n (op_cmp (by simp) (.t rfl) (.k rfl) rfl)<|.nil) ff rfl fun g5 => ⟨_, _, [], rfl, (.k 0 rfl<|.k 2 rfl<|.k 8 rfl<|.nil), (.nil), ?_⟩)
  refine zC ?_
  refine zH (zK (.t rfl)) (fun h2 => ?_) (fun h2 => ?_)
  ·try simp only [cmpB, Z] at h2
   first | have e2 := bl_8 (z := z / 65536) (by omega) | have e2 := bl_8 (z := z) (by omega)
   refine zF (zG [] (.n (zA (.t rfl))<|.n (op_shr (.t rfl) (.k rfl) (by omega) (shr32_8 _))<|.n (zB (.t rfl))<|.nil) ff rfl fun g6 => ⟨_, _, [], rfl, (.k 0 rfl<|.k 2 rfl<|.nil), (.nil), ?_⟩)
   refine zC ?_
   refine (zG [] (.n (zA (.t rfl))<|.n (op_add (.t rfl) (.k rfl) (zO (by omega) (by omega)))<|.n (zB (.t rfl))<|.nil) ff rfl fun g7 => ⟨_, _, [], rfl, (.k 0 rfl<|.k 2 rfl<|.nil), (.nil), ?_⟩)
   refine zC ?_
   refine zF (zG [] (.n (zA (.t rfl))<|.n (zA (.t rfl))<|.n (op_conv_int it132 it5 (.t rfl) (wr8 (by omega) (by omega)))<|.n (op_sindex Tryz.underlying9 (.k rfl) (.t rfl) (by omega) (len8_at (by omega) (by omega)))<|.n (op_conv_int it5 it3 (.t rfl) (len8_wrap (by omega) (by omega)))<|.n (op_add (.t rfl) (.t rfl) (wr_bl (by omega) (by omega) (by omega) (by omega)))<|.n (zB (.t rfl))<|.nil) ff rfl fun g8 => ⟨_, _, [], rfl, (.k 2 rfl<|.nil), (.nil), ?_⟩)
   refine zC ?_
   refine J_ret ?_
   refine zQ (.cons (.tmp (.t rfl))<|.nil) (zM (sb_res1 zL) ?_)
   exact ret_i (by omega)
  ·try simp only [cmpB, Z] at h2
   refine J_skip ?_
   refine zC ?_
   refine zF (zG [] (.n (zA (.t rfl))<|.n (zA (.t rfl))<|.n (op_conv_int it132 it5 (.t rfl) (wr8 (by omega) (by omega)))<|.n (op_sindex Tryz.underlying9 (.k rfl) (.t rfl) (by omega) (len8_at (by omega) (by omega)))<|.n (op_conv_int it5 it3 (.t rfl) (len8_wrap (by omega) (by omega)))<|.n (op_add (.t rfl) (.t rfl) (wr_bl (by omega) (by omega) (by omega) (by omega)))<|.n (zB (.t rfl))<|.nil) ff rfl fun g9 => ⟨_, _, [], rfl, (.k 2 rfl<|.nil), (.nil), ?_⟩)
   refine zC ?_
   refine J_ret ?_
   refine zQ (.cons (.tmp (.t rfl))<|.nil) (zM (sb_res1 zL) ?_)
   exact ret_i (by omega)
 ·try simp only [cmpB, Z] at h1
  refine J_skip ?_
  refine zC ?_
  refine zF ?_
  refine zF (zG [] (.n (zA (.t rfl))<|.n (op_cmp (by simp) (.t rfl) (.k rfl) rfl)<|.nil) ff rfl fun g10 => ⟨_, _, [], rfl, (.k 0 rfl<|.k 2 rfl<|.k 8 rfl<|.nil), (.nil), ?_⟩)
  refine zC ?_
  refine zH (zK (.t rfl)) (fun h3 => ?_) (fun h3 => ?_)
  ·try simp only [cmpB, Z] at h3
   first | have e2 := bl_8 (z := z / 65536) (by omega) | have e2 := bl_8 (z := z) (by omega)
   refine zF (zG [] (.n (zA (.t rfl))<|.n (op_shr (.t rfl) (.k rfl) (by omega) (shr32_8 _))<|.n (zB (.t rfl))<|.nil) ff rfl fun g11 => ⟨_, _, [], rfl, (.k 0 rfl<|.k 2 rfl<|.nil), (.nil), ?_⟩)
   refine zC ?_
   refine (zG [] (.n (zA (.t rfl))<|.n (op_add (.t rfl) (.k rfl) (zO (by omega) (by omega)))<|.n (zB (.t rfl))<|.nil) ff rfl fun g12 => ⟨_, _, [], rfl, (.k 0 rfl<|.k 2 rfl<|.nil), (.nil), ?_⟩)
   refine zC ?_
   refine zF (zG [] (.n (zA (.t rfl))<|.n (zA (.t rfl))<|.n (op_conv_int it132 it5 (.t rfl) (wr8 (by omega) (by omega)))<|.n (op_sindex Tryz.underlying9 (.k rfl) (.t rfl) (by omega) (len8_at (by omega) (by omega)))<|.n (op_conv_int it5 it3 (.t rfl) (len8_wrap (by omega) (by omega)))<|.n (op_add (.t rfl) (.t rfl) (wr_bl (by omega) (by omega) (by omega) (by omega)))<|.n (zB (.t rfl))<|.nil) ff rfl fun g13 => ⟨_, _, [], rfl, (.k 2 rfl<|.nil), (.nil), ?_⟩)
   refine zC ?_
   refine J_ret ?_
   refine zQ (.cons (.tmp (.t rfl))<|.nil) (zM (sb_res1 zL) ?_)
   exact ret_i (by omega)
  ·try simp only [cmpB, Z] at h3
   refine J_skip ?_
   refine zC ?_
   refine zF (zG [] (.n (zA (.t rfl))<|.n (zA (.t rfl))<|.n (op_conv_int it132 it5 (.t rfl) (wr8 (by omega) (by omega)))<|.n (op_sindex Tryz.underlying9 (.k rfl) (.t rfl) (by omega) (len8_at (by omega) (by omega)))<|.n (op_conv_int it5 it3 (.t rfl) (len8_wrap (by omega) (by omega)))<|.n (op_add (.t rfl) (.t rfl) (wr_bl (by omega) (by omega) (by omega) (by omega)))<|.n (zB (.t rfl))<|.nil) ff rfl fun g14 => ⟨_, _, [], rfl, (.k 2 rfl<|.nil), (.nil), ?_⟩)
   refine zC ?_
   refine J_ret ?_
   refine zQ (.cons (.tmp (.t rfl))<|.nil) (zM (sb_res1 zL) ?_)
   exact ret_i (by omega)
theorem right_ok {m : List Int} {n : Nat} (hm : Dig m) (hlm : m.length ≤ 1000000) (hn : n ≤ 32000000) : Ct Tryz.prog 83 [ils .u32 m, isv (.int .u64 (n : Int))] (ils .u32 (limbs (magI m / 2 ^ n).toNat)) := by
 refine Ct.of Tryz.func83 rfl (by kernel_rfl) rfl fun c0 => ?_
 refine J_len 0 rfl fun hlen => ?_
 have hs32 : n % 32 < 32 := Nat.mod_lt _ (by omega)
 refine zF (zG [] (.n (zB (.k rfl))<|.nil) ff rfl fun g1 => ⟨_, _, [], rfl, (.k 0 rfl<|.k 1 rfl<|.nil), (.nil), ?_⟩)
 refine zC ?_
 refine zF (zG [] (.n (zA (.t rfl))<|.n (op_quo (.t rfl) (.k rfl) (by omega) (quo32 n (by omega)))<|.n (op_conv_int it76 it3 (.t rfl) (zO (by omega) (by omega)))<|.n (zB (.t rfl))<|.nil) ff rfl fun g2 => ⟨_, _, [], rfl, (.k 0 rfl<|.k 1 rfl<|.k 5 rfl<|.nil), (.nil), ?_⟩)
 refine zC ?_
 refine zF (zG [] (.n (zA (.t rfl))<|.n (op_rem (.t rfl) (.k rfl) (by omega) (rem32 n))<|.n (zB (.t rfl))<|.nil) ff rfl fun g3 => ⟨_, _, [], rfl, (.k 0 rfl<|.k 5 rfl<|.k 6 rfl<|.nil), (.nil), ?_⟩)
 refine zC ?_
 refine zF ?_
 refine zF (zG [] (.n (zA (.t rfl))<|.n (zA (.t rfl))<|.n (op_len_m sl86 (.t rfl))<|.n (op_cmp (by simp) (.t rfl) (.t rfl) rfl)<|.nil) ff rfl fun g4 => ⟨_, _, [], rfl, (.k 0 rfl<|.k 5 rfl<|.k 6 rfl<|.k 18 rfl<|.nil), (.nil), ?_⟩)
 refine zC ?_
 refine zH (zK (.t rfl)) (fun h1 => ?_) (fun h1 => ?_)
 ·try simp only [cmpB, Z] at h1
  refine zF (zG [] (.n (zB (.k rfl))<|.nil) ff rfl fun g5 => ⟨_, _, [], rfl, (.k 4 rfl<|.nil), (.nil), ?_⟩)
  refine zC ?_
  refine J_ret ?_
  refine zD ?_
  refine zQ (.cons (.tmp (.t rfl))<|.nil) (zM (sb_res1 (sb_nil (mk := inp .u32))) ?_)
  exact sb_eq (by rw [rgt_big hm (by omega), limbs_zero])
 ·try simp only [cmpB, Z] at h1
  refine J_skip ?_
  refine zC ?_
  refine J_to (To.emps 1) ?_
  refine zF (zG [] (.n (zA (.t rfl))<|.n (op_len_m sl86 (.t rfl))<|.n (zA (.t rfl))<|.n (op_sub (.t rfl) (.t rfl) (zO (by omega) (by omega)))<|.w 0 (op_make_m (mk := inp .u32) 0 0 sl86 zr132 rfl (fun _ => ⟨rfl, rfl⟩) (.t rfl) (.t rfl) (by omega) (by omega) (by omega) (by omega) rfl)<|.n (op_assign_ve rfl rfl)<|.nil) ff rfl fun g6 => ⟨_, _, [0], rfl, (.k 0 rfl<|.k 5 rfl<|.k 6 rfl<|.k 7 rfl<|.nil), (.k 0 rfl<|.nil), ?_⟩)
  refine zC ?_
  refine zF ?_
  refine zF (zG [] (.n (zB (.k rfl))<|.nil) ff rfl fun g7 => ⟨_, _, [0], rfl, (.k 0 rfl<|.k 5 rfl<|.k 6 rfl<|.k 7 rfl<|.k 8 rfl<|.nil), (.k 0 rfl<|.nil), ?_⟩)
  refine zC ?_
  refine zT ?_
  refine J_loopc (α := Nat) (fun i => i ≤ m.length - n / 32) (fun i => m.length - n / 32 - i) (fun i restR => (8, isv (.int .i64 (i : Int))) :: restR) (fun i restS => som (g6 23) (inp .u32) (rgtP m (n / 32) (n % 32) i) 132 :: restS) (ρc := [(0, _), (5, _), (6, _), (7, _)]) (σc := []) 0 (by exact Nat.zero_le _) (To.pick (fun _ => .sub (t := 8) rfl (sp_eq (by rfl))<|.k 0 rfl<|.k 5 rfl<|.k 6 rfl<|.k 7 rfl<|.nil) (fun _ => .sub 0 rfl ((res_eq (by rw [rgtP_zero, show ((m.length : Int) - ((n / 32 : Nat) : Int)).toNat = m.length - n / 32 by omega])))<|.nil) (ks := [0]) rfl) (fun i hI => ?_)
  refine zF ?_
  refine zF (zG [] (.n (zA (.t rfl))<|.n (zA (.t rfl))<|.r 0 (op_len_som 0 sl86 (.t rfl) rfl)<|.n (op_cmp (by simp) (.t rfl) (.t rfl) rfl)<|.nil) ff rfl fun g8 => ⟨_, _, [0], rfl, (.k 0 rfl<|.k 5 rfl<|.k 6 rfl<|.k 7 rfl<|.k 8 rfl<|.k 27 rfl<|.nil), (.k 0 rfl<|.nil), ?_⟩)
  refine zC ?_
  refine zH (zK (.t rfl)) (fun h2 => ?_) (fun h2 => ?_)
  ·try simp only [cmpB, Z] at h2
   have hil := length_rgtP (m := m) (w := n / 32) (s := n % 32) (i := i) (by omega)
   have gm := hm.at (k := (((n / 32 : Nat) : Int) + (i : Int)).toNat) (by omega)
   refine J_skip ?_
   refine zC ?_
   refine zF ?_
   refine zT ?_
   refine zF (zG [] (.n (zA (.t rfl))<|.n (zA (.t rfl))<|.n (zA (.t rfl))<|.n (op_add (.t rfl) (.t rfl) (zO (by omega) (by omega)))<|.n (op_index_m 0 sl86 (.t rfl) (.t rfl) (by omega) (by omega))<|.n (op_load_sc sc132 (.t rfl) rfl)<|.n (op_conv_int it132 it37 (.t rfl) (wr64 (by omega) (by omega)))<|.n (zB (.t rfl))<|.nil) ff rfl fun g9 => ⟨_, _, [0], rfl, (.k 0 rfl<|.k 5 rfl<|.k 6 rfl<|.k 7 rfl<|.k 8 rfl<|.k 9 rfl<|.nil), (.k 0 rfl<|.nil), ?_⟩)
   refine zC ?_
   refine zF ?_
   refine zF (zG [] (.n (zA (.t rfl))<|.n (zA (.t rfl))<|.n (op_add (.t rfl) (.t rfl) (zO (by omega) (by omega)))<|.n (op_add (.t rfl) (.k rfl) (zO (by omega) (by omega)))<|.n (zA (.t rfl))<|.n (op_len_m sl86 (.t rfl))<|.n (op_cmp (by simp) (.t rfl) (.t rfl) rfl)<|.nil) ff rfl fun g10 => ⟨_, _, [0], rfl, (.k 0 rfl<|.k 5 rfl<|.k 6 rfl<|.k 7 rfl<|.k 8 rfl<|.k 9 rfl<|.k 43 rfl<|.nil), (.k 0 rfl<|.nil), ?_⟩)
   refine zC ?_
   refine zH (zK (.t rfl)) (fun h3 => ?_) (fun h3 => ?_)
   ·try simp only [cmpB, Z] at h3
    have gn := hm.at (k := (((n / 32 : Nat) : Int) + (i : Int) + 1).toNat) (by omega)
    have hz := rgtD_1 (m := m) (w := n / 32) (s := n % 32) (i := i)
    refine (zG [] (.n (zA (.t rfl))<|.n (zA (.t rfl))<|.n (zA (.t rfl))<|.n (zA (.t rfl))<|.n (op_add (.t rfl) (.t rfl) (zO (by omega) (by omega)))<|.n (op_add (.t rfl) (.k rfl) (zO (by omega) (by omega)))<|.n (op_index_m 0 sl86 (.t rfl) (.t rfl) (by omega) (by omega))<|.n (op_load_sc sc132 (.t rfl) rfl)<|.n (op_conv_int it132 it37 (.t rfl) (wr64 (by omega) (by omega)))<|.n (op_shl (.t rfl) (.k rfl) (by omega) rfl)<|.n (op_bits (by simp) (.t rfl) (.t rfl) (or64 gm gn))<|.n (zB (.t rfl))<|.nil) ff rfl fun g11 => ⟨_, _, [0], rfl, (.k 0 rfl<|.k 5 rfl<|.k 6 rfl<|.k 7 rfl<|.k 8 rfl<|.k 9 rfl<|.nil), (.k 0 rfl<|.nil), ?_⟩)
    refine zC ?_
    refine (zG [] (.n (zA (.t rfl))<|.n (zA (.t rfl))<|.n (zA (.t rfl))<|.n (zA (.t rfl))<|.n (op_shr (.t rfl) (.t rfl) (by omega) (shrs64 hs32))<|.n (op_conv_int it37 it132 (.t rfl) (wr32 _))<|.r 0 (op_index_som 0 sl86 (.t rfl) (.t rfl) rfl (by omega) (by omega))<|.w 0 (op_store_som (mk := inp .u32) 0 (.t rfl) (.t rfl) co_inp sz132 rfl (by omega))<|.nil) ff rfl fun g12 => ⟨_, _, [0], rfl, (.k 0 rfl<|.k 5 rfl<|.k 6 rfl<|.k 7 rfl<|.k 8 rfl<|.nil), (.k 0 rfl<|.nil), ?_⟩)
    refine zR ?_
    refine zC ?_
    refine (zG [] (.n (zA (.t rfl))<|.n (op_add (.t rfl) (.k rfl) (zO (by omega) (by omega)))<|.n (zB (.t rfl))<|.nil) ff rfl fun g13 => ⟨_, _, [0], rfl, (.k 0 rfl<|.k 5 rfl<|.k 6 rfl<|.k 7 rfl<|.k 8 rfl<|.nil), (.k 0 rfl<|.nil), ?_⟩)
    exact JN_again (i + 1) (by omega) (by omega) (To.pick (fun _ => .sub (t := 8) rfl (sp_eq (by rfl))<|.k 0 rfl<|.k 5 rfl<|.k 6 rfl<|.k 7 rfl<|.nil) (fun _ => .sub 0 rfl ((res_eq (by rw [← rgtP_set (by omega) hz]; rfl)))<|.nil) (ks := [0]) rfl)
   ·try simp only [cmpB, Z] at h3
    have hz := rgtD_2 (m := m) (w := n / 32) (s := n % 32) (i := i) (by omega)
    refine J_skip ?_
    refine zC ?_
    refine (zG [] (.n (zA (.t rfl))<|.n (zA (.t rfl))<|.n (zA (.t rfl))<|.n (zA (.t rfl))<|.n (op_shr (.t rfl) (.t rfl) (by omega) (shrs64 hs32))<|.n (op_conv_int it37 it132 (.t rfl) (wr32 _))<|.r 0 (op_index_som 0 sl86 (.t rfl) (.t rfl) rfl (by omega) (by omega))<|.w 0 (op_store_som (mk := inp .u32) 0 (.t rfl) (.t rfl) co_inp sz132 rfl (by omega))<|.nil) ff rfl fun g14 => ⟨_, _, [0], rfl, (.k 0 rfl<|.k 5 rfl<|.k 6 rfl<|.k 7 rfl<|.k 8 rfl<|.nil), (.k 0 rfl<|.nil), ?_⟩)
    refine zR ?_
    refine zC ?_
    refine (zG [] (.n (zA (.t rfl))<|.n (op_add (.t rfl) (.k rfl) (zO (by omega) (by omega)))<|.n (zB (.t rfl))<|.nil) ff rfl fun g15 => ⟨_, _, [0], rfl, (.k 0 rfl<|.k 5 rfl<|.k 6 rfl<|.k 7 rfl<|.k 8 rfl<|.nil), (.k 0 rfl<|.nil), ?_⟩)
    exact JN_again (i + 1) (by omega) (by omega) (To.pick (fun _ => .sub (t := 8) rfl (sp_eq (by rfl))<|.k 0 rfl<|.k 5 rfl<|.k 6 rfl<|.k 7 rfl<|.nil) (fun _ => .sub 0 rfl ((res_eq (by rw [← rgtP_set (by omega) hz]; rfl)))<|.nil) (ks := [0]) rfl)
  ·try simp only [cmpB, Z] at h2
   have hil := length_rgtP (m := m) (w := n / 32) (s := n % 32) (i := i) (by omega)
   have hie : i = m.length - n / 32 := by omega
   refine J_exit ?_
   refine zE ?_
   refine zE ?_
   refine zS ?_
   refine zC ?_
   refine J_to (To.freeze 0 (fun _ h => h) rfl frz_som rfl) ?_
   refine zF (zG [] (.n (zA (.t rfl))<|.n (zP (cut_ok (rgtP_dig _ _ _ _)) ⟨(Lk.sub (sb_fk 0 rfl) (.t rfl)),  trivial⟩)<|.n (zB (.t rfl))<|.nil) ff rfl fun g16 => ⟨_, _, [], rfl, (.k 4 rfl<|.nil), (.nil), ?_⟩)
   refine zC ?_
   refine J_ret ?_
   refine zQ (.cons (.tmp (.t rfl))<|.nil) (zM (sb_res1 zL) ?_)
   exact sb_eq (congrArg (fun z => ils .u32 (limbs z.toNat)) (rgt_end hm (by omega) hie))
theorem ibl0_ok {x : Int} (hx : Sml x) : Ct Tryz.prog 84 [intP x] (isv (.int .i64 (bl x.natAbs : Int))) := by
 refine Ct.of Tryz.func84 rfl (by kernel_rfl) rfl fun c0 => ?_
 have hl : (limbs x.natAbs).length ≤ 1000000 := sml_len hx
 refine zF (zG [] (.n (zB (.k rfl))<|.nil) ff rfl fun g1 => ⟨_, _, [], rfl, (.k 0 rfl<|.nil), (.nil), ?_⟩)
 refine zC ?_
 refine zF ?_
 refine zF (zG [] (.n (zA (.t rfl))<|.n (op_nilp (.t rfl))<|.n (op_field_ptr fd88_1 (.t rfl) rfl)<|.n (op_load_sc sc86 (.t rfl) rfl)<|.n (op_len_m sl86 (.t rfl))<|.n (op_cmp (by simp) (.t rfl) (.k rfl) rfl)<|.nil) ff rfl fun g2 => ⟨_, _, [], rfl, (.k 0 rfl<|.k 8 rfl<|.nil), (.nil), ?_⟩)
 refine zC ?_
 refine zH (zK (.t rfl)) (fun h1 => ?_) (fun h1 => ?_)
 ·try simp only [cmpB, Z] at h1
  refine zF (zG [] (.n (zB (.k rfl))<|.nil) ff rfl fun g3 => ⟨_, _, [], rfl, (.k 2 rfl<|.nil), (.nil), ?_⟩)
  refine zC ?_
  refine J_ret ?_
  refine zD ?_
  refine zQ (.cons (.tmp (.t rfl))<|.nil) (zM (sb_res1 zL) ?_)
  exact ret_i (bl_limbs (by have := h1; omega))
 ·try simp only [cmpB, Z] at h1
  have gd := (limbs_dig x.natAbs).at (k := ((limbs x.natAbs).length - 1 : Int).toNat) (by have := h1; omega)
  have hbb := bl_limbs2 (n := x.natAbs) (by have := h1; omega)
  have hb4 := bl_lt (t := ((limbs x.natAbs).getD ((limbs x.natAbs).length - 1 : Int).toNat 0).toNat) (k := 32) (by show _ < 4294967296; omega)
  refine J_skip ?_
  refine zC ?_
  refine zF (zG [[], [0], [0, 1], [0, 1, 2], [0, 1, 2, 3], [0, 1, 2, 3, 4], [0, 1, 2, 3, 4, 5], [], [7], [7, 8], [7, 8, 9], [], [11], [11, 12], [11, 12, 13], [11, 12, 13, 14], [11, 12, 13, 14, 15], [7, 8, 9, 10, 11, 12, 13, 14, 15, 16], [7, 8, 9, 10, 11, 12, 13, 14, 15, 16, 17], [7, 8, 9, 10, 11, 12, 13, 14, 15, 16, 17, 18], [0, 1, 2, 3, 4, 5, 6, 7, 8, 9, 10, 11, 12, 13, 14, 15, 16, 17, 18, 19], [0, 1, 2, 3, 4, 5, 6, 7, 8, 9, 10, 11, 12, 13, 14, 15, 16, 17, 18, 19, 20]] (.n (zA (.t rfl))<|.n (op_nilp (.t rfl))<|.n (op_field_ptr fd88_1 (.t rfl) rfl)<|.n (op_load_sc sc86 (.t rfl) rfl)<|.n (op_len_m sl86 (.t rfl))<|.n (op_sub (.t rfl) (.k rfl) (zO (by omega) (by omega)))<|.n (op_mul (.k rfl) (.t rfl) (zO (by omega) (by omega)))<|.n (zA (.t rfl))<|.n (op_nilp (.t rfl))<|.n (op_field_ptr fd88_1 (.t rfl) rfl)<|.n (op_load_sc sc86 (.t rfl) rfl)<|.n (zA (.t rfl))<|.n (op_nilp (.t rfl))<|.n (op_field_ptr fd88_1 (.t rfl) rfl)<|.n (op_load_sc sc86 (.t rfl) rfl)<|.n (op_len_m sl86 (.t rfl))<|.n (op_sub (.t rfl) (.k rfl) (zO (by omega) (by omega)))<|.n (op_index_m 0 sl86 (.t rfl) (.t rfl) (by omega) (by omega))<|.n (op_load_sc sc132 (.t rfl) rfl)<|.n (zP (len32_ok gd.1 gd.2) ⟨(.t rfl),  trivial⟩)<|.n (op_add (.t rfl) (.t rfl) (zO (by omega) (by omega)))<|.n (zB (.t rfl))<|.nil) (fun _ => mixed) rfl fun g4 => ⟨_, _, [], rfl, (.k 2 rfl<|.nil), (.nil), ?_⟩)
  refine zC ?_
  refine J_ret ?_
  refine zQ (.cons (.tmp (.t rfl))<|.nil) (zM (sb_res1 zL) ?_)
  exact ret_i hbb
theorem ibl_ok {x : Nat} (hx : Sml (x : Int)) : Ct Tryz.prog 84 [intP (x : Int)] (isv (.int .i64 (bl x : Int))) := ibl0_ok hx
theorem isub_ok {u : Value} {q0 q1 : SP} {x y : Int} (hx : Sml x) (hy : Sml y) : CtM Tryz.prog 80 [ipo u 0, intP x, intP y] (blk u [q0, q1] 88) (ipo u 0) (blk u (intC (x - y)) 88) := by
 refine CtM.of Tryz.func80 rfl (by kernel_rfl) rfl (fix_blk) fun c0 ob hr0 => ?_
 refine zF (zG [] (.n (zB (.k rfl))<|.nil) ff rfl fun g1 => ⟨_, _, [0], rfl, (.k 0 rfl<|.k 1 rfl<|.k 2 rfl<|.nil), (.k 0 rfl<|.nil), ?_⟩)
 refine zC ?_
 refine zF (zG [] (.n (zA (.t rfl))<|.n (zA (.t rfl))<|.n (zA (.t rfl))<|.w 0 (op_callM 0 (isum_ok hx hy) ⟨(.t rfl), (.t rfl), (.t rfl), (.k rfl),  trivial⟩ rfl)<|.n (zB (.t rfl))<|.nil) ff rfl fun g2 => ⟨_, _, [0], rfl, (.k 6 rfl<|.nil), (.k 0 rfl<|.nil), ?_⟩)
 refine zC ?_
 refine J_ret ?_
 refine JN_to (To.res 0 (r' := blk u (intC (x - y)) 88) rfl (res_eq (by rw [show x + sgnI true 1 * y = x - y by simp [sgnI]; omega])) rfl) ?_
 refine JN_retM 0 hr0 (fix_blk) rfl (.cons (.tmp (.t rfl))<|.nil) (zM (sb_res1 zL) ?_)
 exact zL
end Go.Proofs.YtjnmgcglooeooaaGreatDoor
