/- Printed by a program of ours (walk.py): walks of rounding by shifts. -/
import Derived.Test.YtllkellonjhalaaGreatRrKb
import Derived.Test.YtllkellonjhalaaGreatProg
import Derived.KernelRfl
import Derived.Test.YtllkellonjhalaaGreatRrTypes
import Derived.Test.YtllkellonjhalaaGreatRrWExact
import Derived.Test.YtllkellonjhalaaGreatRrWRef1
import Derived.Test.YtllkellonjhalaaGreatRrRne
set_option linter.unusedVariables false
set_option linter.unusedSimpArgs false
set_option maxRecDepth 20000
set_option maxHeartbeats 1000000
namespace Go.Proofs.YtllkellonjhalaaGreat
open Go Go.Bn
attribute [local irreducible] OpOK
theorem len32_ok {z : Int} (z0 : 0 ≤ z) (z1 : z < 4294967296) : Ct Tryz.prog 147 [isv (.int .u32 z)] (isv (.int .i64 (bl z.toNat : Int))) := by
 refine Ct.of Tryz.func147 rfl (by kernel_rfl) rfl fun c0 => ?_
 refine zF (zG [] (
   .n (zB (Lk.k rfl)) <| .nil) ff rfl fun g1 => ⟨_, _, [], rfl, (.cons 0 rfl <| .cons 2 rfl <| .nil), (.nil), ?_⟩)
 refine zC ?_
 refine zF ?_
 refine zF (zG [] (
   .n (zA (Lk.t rfl)) <|
   .n (op_cmp (by simp) (Lk.t rfl) (Lk.k rfl) rfl) <| .nil) ff rfl fun g2 => ⟨_, _, [], rfl, (.cons 0 rfl <| .cons 2 rfl <| .cons 4 rfl <| .nil), (.nil), ?_⟩)
 refine zC ?_
 refine zH (zK (Lk.t rfl)) (fun h1 => ?_) (fun h1 => ?_)
 ·have h1' := h1
  try simp only [cmpB, Z] at h1
  have e1 := bl_16 h1
  refine zF (zG [] (
    .n (zA (Lk.t rfl)) <|
    .n (op_shr (Lk.t rfl) (Lk.k rfl) (by omega) (shr32_16 _)) <|
    .n (zB (Lk.t rfl)) <| .nil) ff rfl fun g3 => ⟨_, _, [], rfl, (.cons 0 rfl <| .nil), (.nil), ?_⟩)
  refine zC ?_
  refine (zG [] (
    .n (zB (Lk.k rfl)) <| .nil) ff rfl fun g4 => ⟨_, _, [], rfl, (.cons 0 rfl <| .cons 2 rfl <| .nil), (.nil), ?_⟩)
  refine zC ?_
  refine zF ?_
  refine zF (zG [] (
    .n (zA (Lk.t rfl)) <|
    .n (op_cmp (by simp) (Lk.t rfl) (Lk.k rfl) rfl) <| .nil) ff rfl fun g5 => ⟨_, _, [], rfl, (.cons 0 rfl <| .cons 2 rfl <| .cons 8 rfl <| .nil), (.nil), ?_⟩)
  refine zC ?_
  refine zH (zK (Lk.t rfl)) (fun h2 => ?_) (fun h2 => ?_)
  ·have h2' := h2
   try simp only [cmpB, Z] at h2
   first | have e2 := bl_8 (z := z / 65536) (by omega) | have e2 := bl_8 (z := z) (by omega)
   refine zF (zG [] (
     .n (zA (Lk.t rfl)) <|
     .n (op_shr (Lk.t rfl) (Lk.k rfl) (by omega) (shr32_8 _)) <|
     .n (zB (Lk.t rfl)) <| .nil) ff rfl fun g6 => ⟨_, _, [], rfl, (.cons 0 rfl <| .cons 2 rfl <| .nil), (.nil), ?_⟩)
   refine zC ?_
   refine (zG [] (
     .n (zA (Lk.t rfl)) <|
     .n (op_add (Lk.t rfl) (Lk.k rfl) (zO (by omega) (by omega))) <|
     .n (zB (Lk.t rfl)) <| .nil) ff rfl fun g7 => ⟨_, _, [], rfl, (.cons 0 rfl <| .cons 2 rfl <| .nil), (.nil), ?_⟩)
   refine zC ?_
   refine zF (zG [] (
     .n (zA (Lk.t rfl)) <|
     .n (zA (Lk.t rfl)) <|
     .n (op_conv_int it153 it5 (Lk.t rfl) (wr8 (by omega) (by omega))) <|
     .n (op_sindex Tryz.underlying9 (Lk.k rfl) (Lk.t rfl) (by omega) (len8_at (by omega) (by omega))) <|
     .n (op_conv_int it5 it3 (Lk.t rfl) (len8_wrap (by omega) (by omega))) <|
     .n (op_add (Lk.t rfl) (Lk.t rfl) (wr_bl (by omega) (by omega) (by omega) (by omega))) <|
     .n (zB (Lk.t rfl)) <| .nil) ff rfl fun g8 => ⟨_, _, [], rfl, (.cons 2 rfl <| .nil), (.nil), ?_⟩)
   refine zC ?_
   refine J_ret ?_
   refine zQ (.cons (.tmp (Lk.t rfl)) <| .nil) (zM (sb_res1 zL) ?_)
   exact ret_i (by omega)
  ·have h2' := h2
   try simp only [cmpB, Z] at h2
   refine J_skip ?_
   refine zC ?_
   refine zF (zG [] (
     .n (zA (Lk.t rfl)) <|
     .n (zA (Lk.t rfl)) <|
     .n (op_conv_int it153 it5 (Lk.t rfl) (wr8 (by omega) (by omega))) <|
     .n (op_sindex Tryz.underlying9 (Lk.k rfl) (Lk.t rfl) (by omega) (len8_at (by omega) (by omega))) <|
     .n (op_conv_int it5 it3 (Lk.t rfl) (len8_wrap (by omega) (by omega))) <|
     .n (op_add (Lk.t rfl) (Lk.t rfl) (wr_bl (by omega) (by omega) (by omega) (by omega))) <|
     .n (zB (Lk.t rfl)) <| .nil) ff rfl fun g9 => ⟨_, _, [], rfl, (.cons 2 rfl <| .nil), (.nil), ?_⟩)
   refine zC ?_
   refine J_ret ?_
   refine zQ (.cons (.tmp (Lk.t rfl)) <| .nil) (zM (sb_res1 zL) ?_)
   exact ret_i (by omega)
 ·have h1' := h1
  try simp only [cmpB, Z] at h1
  refine J_skip ?_
  refine zC ?_
  refine zF ?_
  refine zF (zG [] (
    .n (zA (Lk.t rfl)) <|
    .n (op_cmp (by simp) (Lk.t rfl) (Lk.k rfl) rfl) <| .nil) ff rfl fun g10 => ⟨_, _, [], rfl, (.cons 0 rfl <| .cons 2 rfl <| .cons 8 rfl <| .nil), (.nil), ?_⟩)
  refine zC ?_
  refine zH (zK (Lk.t rfl)) (fun h3 => ?_) (fun h3 => ?_)
  ·have h3' := h3
   try simp only [cmpB, Z] at h3
   first | have e2 := bl_8 (z := z / 65536) (by omega) | have e2 := bl_8 (z := z) (by omega)
   refine zF (zG [] (
     .n (zA (Lk.t rfl)) <|
     .n (op_shr (Lk.t rfl) (Lk.k rfl) (by omega) (shr32_8 _)) <|
     .n (zB (Lk.t rfl)) <| .nil) ff rfl fun g11 => ⟨_, _, [], rfl, (.cons 0 rfl <| .cons 2 rfl <| .nil), (.nil), ?_⟩)
   refine zC ?_
   refine (zG [] (
     .n (zA (Lk.t rfl)) <|
     .n (op_add (Lk.t rfl) (Lk.k rfl) (zO (by omega) (by omega))) <|
     .n (zB (Lk.t rfl)) <| .nil) ff rfl fun g12 => ⟨_, _, [], rfl, (.cons 0 rfl <| .cons 2 rfl <| .nil), (.nil), ?_⟩)
   refine zC ?_
   refine zF (zG [] (
     .n (zA (Lk.t rfl)) <|
     .n (zA (Lk.t rfl)) <|
     .n (op_conv_int it153 it5 (Lk.t rfl) (wr8 (by omega) (by omega))) <|
     .n (op_sindex Tryz.underlying9 (Lk.k rfl) (Lk.t rfl) (by omega) (len8_at (by omega) (by omega))) <|
     .n (op_conv_int it5 it3 (Lk.t rfl) (len8_wrap (by omega) (by omega))) <|
     .n (op_add (Lk.t rfl) (Lk.t rfl) (wr_bl (by omega) (by omega) (by omega) (by omega))) <|
     .n (zB (Lk.t rfl)) <| .nil) ff rfl fun g13 => ⟨_, _, [], rfl, (.cons 2 rfl <| .nil), (.nil), ?_⟩)
   refine zC ?_
   refine J_ret ?_
   refine zQ (.cons (.tmp (Lk.t rfl)) <| .nil) (zM (sb_res1 zL) ?_)
   exact ret_i (by omega)
  ·have h3' := h3
   try simp only [cmpB, Z] at h3
   refine J_skip ?_
   refine zC ?_
   refine zF (zG [] (
     .n (zA (Lk.t rfl)) <|
     .n (zA (Lk.t rfl)) <|
     .n (op_conv_int it153 it5 (Lk.t rfl) (wr8 (by omega) (by omega))) <|
     .n (op_sindex Tryz.underlying9 (Lk.k rfl) (Lk.t rfl) (by omega) (len8_at (by omega) (by omega))) <|
     .n (op_conv_int it5 it3 (Lk.t rfl) (len8_wrap (by omega) (by omega))) <|
     .n (op_add (Lk.t rfl) (Lk.t rfl) (wr_bl (by omega) (by omega) (by omega) (by omega))) <|
     .n (zB (Lk.t rfl)) <| .nil) ff rfl fun g14 => ⟨_, _, [], rfl, (.cons 2 rfl <| .nil), (.nil), ?_⟩)
   refine zC ?_
   refine J_ret ?_
   refine zQ (.cons (.tmp (Lk.t rfl)) <| .nil) (zM (sb_res1 zL) ?_)
   exact ret_i (by omega)
theorem right_ok {m : List Int} {n : Nat} (hm : Dig m) (hlm : m.length ≤ 1000000) (hn : n ≤ 32000000) : Ct Tryz.prog 151 [ils .u32 m, isv (.int .u64 (n : Int))] (ils .u32 (limbs (magI m / 2 ^ n).toNat)) := by
 refine Ct.of Tryz.func151 rfl (by kernel_rfl) rfl fun c0 => ?_
 refine J_len 0 rfl fun hlen => ?_
 have hs32 : n % 32 < 32 := Nat.mod_lt _ (by omega)
 refine zF (zG [] (
   .n (zB (Lk.k rfl)) <| .nil) ff rfl fun g1 => ⟨_, _, [], rfl, (.cons 0 rfl <| .cons 1 rfl <| .nil), (.nil), ?_⟩)
 refine zC ?_
 refine zF (zG [] (
   .n (zA (Lk.t rfl)) <|
   .n (op_quo (Lk.t rfl) (Lk.k rfl) (by omega) (quo32 n (by omega))) <|
   .n (op_conv_int it131 it3 (Lk.t rfl) (zO (by omega) (by omega))) <|
   .n (zB (Lk.t rfl)) <| .nil) ff rfl fun g2 => ⟨_, _, [], rfl, (.cons 0 rfl <| .cons 1 rfl <| .cons 5 rfl <| .nil), (.nil), ?_⟩)
 refine zC ?_
 refine zF (zG [] (
   .n (zA (Lk.t rfl)) <|
   .n (op_rem (Lk.t rfl) (Lk.k rfl) (by omega) (rem32 n)) <|
   .n (zB (Lk.t rfl)) <| .nil) ff rfl fun g3 => ⟨_, _, [], rfl, (.cons 0 rfl <| .cons 5 rfl <| .cons 6 rfl <| .nil), (.nil), ?_⟩)
 refine zC ?_
 refine zF ?_
 refine zF (zG [] (
   .n (zA (Lk.t rfl)) <|
   .n (zA (Lk.t rfl)) <|
   .n (op_len_m sl94 (Lk.t rfl)) <|
   .n (op_cmp (by simp) (Lk.t rfl) (Lk.t rfl) rfl) <| .nil) ff rfl fun g4 => ⟨_, _, [], rfl, (.cons 0 rfl <| .cons 5 rfl <| .cons 6 rfl <| .cons 18 rfl <| .nil), (.nil), ?_⟩)
 refine zC ?_
 refine zH (zK (Lk.t rfl)) (fun h1 => ?_) (fun h1 => ?_)
 ·have h1' := h1
  try simp only [cmpB, Z] at h1
  refine zF (zG [] (
    .n (zB (Lk.k rfl)) <| .nil) ff rfl fun g5 => ⟨_, _, [], rfl, (.cons 4 rfl <| .nil), (.nil), ?_⟩)
  refine zC ?_
  refine J_ret ?_
  refine zD ?_
  refine zQ (.cons (.tmp (Lk.t rfl)) <| .nil) (zM (sb_res1 (sb_nil (mk := inp .u32))) ?_)
  exact sb_eq (by rw [rgt_big hm (by omega), limbs_zero])
 ·have h1' := h1
  try simp only [cmpB, Z] at h1
  refine J_skip ?_
  refine zC ?_
  refine J_to (To.emps 1) ?_
  refine zF (zG [] (
    .n (zA (Lk.t rfl)) <|
    .n (op_len_m sl94 (Lk.t rfl)) <|
    .n (zA (Lk.t rfl)) <|
    .n (op_sub (Lk.t rfl) (Lk.t rfl) (zO (by omega) (by omega))) <|
    .w 0 (op_make_m (mk := inp .u32) 0 0 sl94 zr153 rfl (fun _ => ⟨rfl, rfl⟩) (Lk.t rfl) (Lk.t rfl) (by omega) (by omega) (by omega) (by omega) rfl) <|
    .n (op_assign_ve rfl rfl) <| .nil) ff rfl fun g6 => ⟨_, _, [0], rfl, (.cons 0 rfl <| .cons 5 rfl <| .cons 6 rfl <| .cons 7 rfl <| .nil), (.cons 0 rfl <| .nil), ?_⟩)
  refine zC ?_
  refine zF ?_
  refine zF (zG [] (
    .n (zB (Lk.k rfl)) <| .nil) ff rfl fun g7 => ⟨_, _, [0], rfl, (.cons 0 rfl <| .cons 5 rfl <| .cons 6 rfl <| .cons 7 rfl <| .cons 8 rfl <| .nil), (.cons 0 rfl <| .nil), ?_⟩)
  refine zC ?_
  refine zT ?_
  refine J_loopc (α := Nat) (fun i => i ≤ m.length - n / 32) (fun i => m.length - n / 32 - i) (fun i restR => (8, isv (.int .i64 (i : Int))) :: restR) (fun i restS => som (g6 23) (inp .u32) (rgtP m (n / 32) (n % 32) i) 153 :: restS) (ρc := [(0, _), (5, _), (6, _), (7, _)]) (σc := []) 0 (by exact Nat.zero_le _) (To.pick (fun _ => .sub (t := 8) rfl (sp_eq (by rfl)) <| .cons 0 rfl <| .cons 5 rfl <| .cons 6 rfl <| .cons 7 rfl <| .nil) (fun _ => .sub 0 rfl ((res_eq (by rw [rgtP_zero, show ((m.length : Int) - ((n / 32 : Nat) : Int)).toNat = m.length - n / 32 by omega]))) <| .nil) (ks := [0]) rfl) (fun i hI => ?_)
  refine zF ?_
  refine zF (zG [] (
    .n (zA (Lk.t rfl)) <|
    .n (zA (Lk.t rfl)) <|
    .r 0 (op_len_som 0 sl94 (Lk.t rfl) rfl) <|
    .n (op_cmp (by simp) (Lk.t rfl) (Lk.t rfl) rfl) <| .nil) ff rfl fun g8 => ⟨_, _, [0], rfl, (.cons 0 rfl <| .cons 5 rfl <| .cons 6 rfl <| .cons 7 rfl <| .cons 8 rfl <| .cons 27 rfl <| .nil), (.cons 0 rfl <| .nil), ?_⟩)
  refine zC ?_
  refine zH (zK (Lk.t rfl)) (fun h2 => ?_) (fun h2 => ?_)
  ·have h2' := h2
   try simp only [cmpB, Z] at h2
   have hil := length_rgtP (m := m) (w := n / 32) (s := n % 32) (i := i) (by omega)
   have gm := hm.at (k := (((n / 32 : Nat) : Int) + (i : Int)).toNat) (by omega)
   refine J_skip ?_
   refine zC ?_
   refine zF ?_
   refine zT ?_
   refine zF (zG [] (
     .n (zA (Lk.t rfl)) <|
     .n (zA (Lk.t rfl)) <|
     .n (zA (Lk.t rfl)) <|
     .n (op_add (Lk.t rfl) (Lk.t rfl) (zO (by omega) (by omega))) <|
     .n (op_index_m 0 sl94 (Lk.t rfl) (Lk.t rfl) (by omega) (by omega)) <|
     .n (op_load_sc sc153 (Lk.t rfl) rfl) <|
     .n (op_conv_int it153 it34 (Lk.t rfl) (wr64 (by omega) (by omega))) <|
     .n (zB (Lk.t rfl)) <| .nil) ff rfl fun g9 => ⟨_, _, [0], rfl, (.cons 0 rfl <| .cons 5 rfl <| .cons 6 rfl <| .cons 7 rfl <| .cons 8 rfl <| .cons 9 rfl <| .nil), (.cons 0 rfl <| .nil), ?_⟩)
   refine zC ?_
   refine zF ?_
   refine zF (zG [] (
     .n (zA (Lk.t rfl)) <|
     .n (zA (Lk.t rfl)) <|
     .n (op_add (Lk.t rfl) (Lk.t rfl) (zO (by omega) (by omega))) <|
     .n (op_add (Lk.t rfl) (Lk.k rfl) (zO (by omega) (by omega))) <|
     .n (zA (Lk.t rfl)) <|
     .n (op_len_m sl94 (Lk.t rfl)) <|
     .n (op_cmp (by simp) (Lk.t rfl) (Lk.t rfl) rfl) <| .nil) ff rfl fun g10 => ⟨_, _, [0], rfl, (.cons 0 rfl <| .cons 5 rfl <| .cons 6 rfl <| .cons 7 rfl <| .cons 8 rfl <| .cons 9 rfl <| .cons 43 rfl <| .nil), (.cons 0 rfl <| .nil), ?_⟩)
   refine zC ?_
   refine zH (zK (Lk.t rfl)) (fun h3 => ?_) (fun h3 => ?_)
   ·have h3' := h3
    try simp only [cmpB, Z] at h3
    have gn := hm.at (k := (((n / 32 : Nat) : Int) + (i : Int) + 1).toNat) (by omega)
    have hz := rgtD_1 (m := m) (w := n / 32) (s := n % 32) (i := i)
    refine (zG [] (
      .n (zA (Lk.t rfl)) <|
      .n (zA (Lk.t rfl)) <|
      .n (zA (Lk.t rfl)) <|
      .n (zA (Lk.t rfl)) <|
      .n (op_add (Lk.t rfl) (Lk.t rfl) (zO (by omega) (by omega))) <|
      .n (op_add (Lk.t rfl) (Lk.k rfl) (zO (by omega) (by omega))) <|
      .n (op_index_m 0 sl94 (Lk.t rfl) (Lk.t rfl) (by omega) (by omega)) <|
      .n (op_load_sc sc153 (Lk.t rfl) rfl) <|
      .n (op_conv_int it153 it34 (Lk.t rfl) (wr64 (by omega) (by omega))) <|
      .n (op_shl (Lk.t rfl) (Lk.k rfl) (by omega) rfl) <|
      .n (op_bits (by simp) (Lk.t rfl) (Lk.t rfl) (or64 gm gn)) <|
      .n (zB (Lk.t rfl)) <| .nil) ff rfl fun g11 => ⟨_, _, [0], rfl, (.cons 0 rfl <| .cons 5 rfl <| .cons 6 rfl <| .cons 7 rfl <| .cons 8 rfl <| .cons 9 rfl <| .nil), (.cons 0 rfl <| .nil), ?_⟩)
    refine zC ?_
    refine (zG [] (
      .n (zA (Lk.t rfl)) <|
      .n (zA (Lk.t rfl)) <|
      .n (zA (Lk.t rfl)) <|
      .n (zA (Lk.t rfl)) <|
      .n (op_shr (Lk.t rfl) (Lk.t rfl) (by omega) (shrs64 hs32)) <|
      .n (op_conv_int it34 it153 (Lk.t rfl) (wr32 _)) <|
      .r 0 (op_index_som 0 sl94 (Lk.t rfl) (Lk.t rfl) rfl (by omega) (by omega)) <|
      .w 0 (op_store_som (mk := inp .u32) 0 (Lk.t rfl) (Lk.t rfl) co_inp sz153 rfl (by omega)) <| .nil) ff rfl fun g12 => ⟨_, _, [0], rfl, (.cons 0 rfl <| .cons 5 rfl <| .cons 6 rfl <| .cons 7 rfl <| .cons 8 rfl <| .nil), (.cons 0 rfl <| .nil), ?_⟩)
    refine zR ?_
    refine zC ?_
    refine (zG [] (
      .n (zA (Lk.t rfl)) <|
      .n (op_add (Lk.t rfl) (Lk.k rfl) (zO (by omega) (by omega))) <|
      .n (zB (Lk.t rfl)) <| .nil) ff rfl fun g13 => ⟨_, _, [0], rfl, (.cons 0 rfl <| .cons 5 rfl <| .cons 6 rfl <| .cons 7 rfl <| .cons 8 rfl <| .nil), (.cons 0 rfl <| .nil), ?_⟩)
    exact JN_again (i + 1) (by omega) (by omega) (To.pick (fun _ => .sub (t := 8) rfl (sp_eq (by rfl)) <| .cons 0 rfl <| .cons 5 rfl <| .cons 6 rfl <| .cons 7 rfl <| .nil) (fun _ => .sub 0 rfl ((res_eq (by rw [← rgtP_set (by omega) hz]; rfl))) <| .nil) (ks := [0]) rfl)
   ·have h3' := h3
    try simp only [cmpB, Z] at h3
    have hz := rgtD_2 (m := m) (w := n / 32) (s := n % 32) (i := i) (by omega)
    refine J_skip ?_
    refine zC ?_
    refine (zG [] (
      .n (zA (Lk.t rfl)) <|
      .n (zA (Lk.t rfl)) <|
      .n (zA (Lk.t rfl)) <|
      .n (zA (Lk.t rfl)) <|
      .n (op_shr (Lk.t rfl) (Lk.t rfl) (by omega) (shrs64 hs32)) <|
      .n (op_conv_int it34 it153 (Lk.t rfl) (wr32 _)) <|
      .r 0 (op_index_som 0 sl94 (Lk.t rfl) (Lk.t rfl) rfl (by omega) (by omega)) <|
      .w 0 (op_store_som (mk := inp .u32) 0 (Lk.t rfl) (Lk.t rfl) co_inp sz153 rfl (by omega)) <| .nil) ff rfl fun g14 => ⟨_, _, [0], rfl, (.cons 0 rfl <| .cons 5 rfl <| .cons 6 rfl <| .cons 7 rfl <| .cons 8 rfl <| .nil), (.cons 0 rfl <| .nil), ?_⟩)
    refine zR ?_
    refine zC ?_
    refine (zG [] (
      .n (zA (Lk.t rfl)) <|
      .n (op_add (Lk.t rfl) (Lk.k rfl) (zO (by omega) (by omega))) <|
      .n (zB (Lk.t rfl)) <| .nil) ff rfl fun g15 => ⟨_, _, [0], rfl, (.cons 0 rfl <| .cons 5 rfl <| .cons 6 rfl <| .cons 7 rfl <| .cons 8 rfl <| .nil), (.cons 0 rfl <| .nil), ?_⟩)
    exact JN_again (i + 1) (by omega) (by omega) (To.pick (fun _ => .sub (t := 8) rfl (sp_eq (by rfl)) <| .cons 0 rfl <| .cons 5 rfl <| .cons 6 rfl <| .cons 7 rfl <| .nil) (fun _ => .sub 0 rfl ((res_eq (by rw [← rgtP_set (by omega) hz]; rfl))) <| .nil) (ks := [0]) rfl)
  ·have h2' := h2
   try simp only [cmpB, Z] at h2
   have hil := length_rgtP (m := m) (w := n / 32) (s := n % 32) (i := i) (by omega)
   have hie : i = m.length - n / 32 := by omega
   refine J_exit ?_
   refine zE ?_
   refine zE ?_
   refine zS ?_
   refine zC ?_
   refine J_to (To.freeze 0 (fun _ h => h) rfl frz_som rfl) ?_
   refine zF (zG [] (
     .n (zA (Lk.t rfl)) <|
     .n (zP (cut_ok (rgtP_dig _ _ _ _)) ⟨(Lk.sub (sb_fk 0 rfl) (Lk.t rfl)),  trivial⟩) <|
     .n (zB (Lk.t rfl)) <| .nil) ff rfl fun g16 => ⟨_, _, [], rfl, (.cons 4 rfl <| .nil), (.nil), ?_⟩)
   refine zC ?_
   refine J_ret ?_
   refine zQ (.cons (.tmp (Lk.t rfl)) <| .nil) (zM (sb_res1 zL) ?_)
   exact sb_eq (congrArg (fun z => ils .u32 (limbs z.toNat)) (rgt_end hm (by omega) hie))
theorem ibl0_ok {x : Int} (hx : Sml x) : Ct Tryz.prog 139 [intP x] (isv (.int .i64 (bl x.natAbs : Int))) := by
 refine Ct.of Tryz.func139 rfl (by kernel_rfl) rfl fun c0 => ?_
 have hl : (limbs x.natAbs).length ≤ 1000000 := sml_len hx
 refine zF (zG [] (
   .n (zB (Lk.k rfl)) <| .nil) ff rfl fun g1 => ⟨_, _, [], rfl, (.cons 0 rfl <| .nil), (.nil), ?_⟩)
 refine zC ?_
 refine zF ?_
 refine zF (zG [] (
   .n (zA (Lk.t rfl)) <|
   .n (op_nilp (Lk.t rfl)) <|
   .n (op_field_ptr fd96_1 (Lk.t rfl) rfl) <|
   .n (op_load_sc sc94 (Lk.t rfl) rfl) <|
   .n (op_len_m sl94 (Lk.t rfl)) <|
   .n (op_cmp (by simp) (Lk.t rfl) (Lk.k rfl) rfl) <| .nil) ff rfl fun g2 => ⟨_, _, [], rfl, (.cons 0 rfl <| .cons 8 rfl <| .nil), (.nil), ?_⟩)
 refine zC ?_
 refine zH (zK (Lk.t rfl)) (fun h1 => ?_) (fun h1 => ?_)
 ·have h1' := h1
  try simp only [cmpB, Z] at h1
  refine zF (zG [] (
    .n (zB (Lk.k rfl)) <| .nil) ff rfl fun g3 => ⟨_, _, [], rfl, (.cons 2 rfl <| .nil), (.nil), ?_⟩)
  refine zC ?_
  refine J_ret ?_
  refine zD ?_
  refine zQ (.cons (.tmp (Lk.t rfl)) <| .nil) (zM (sb_res1 zL) ?_)
  exact ret_i (bl_limbs (by have := h1; omega))
 ·have h1' := h1
  try simp only [cmpB, Z] at h1
  have gd := (limbs_dig x.natAbs).at (k := ((limbs x.natAbs).length - 1 : Int).toNat) (by have := h1; omega)
  have hbb := bl_limbs2 (n := x.natAbs) (by have := h1; omega)
  have hb4 := bl_lt (t := ((limbs x.natAbs).getD ((limbs x.natAbs).length - 1 : Int).toNat 0).toNat) (k := 32) (by show _ < 4294967296; omega)
  refine J_skip ?_
  refine zC ?_
  refine zF (zG [[], [0], [0, 1], [0, 1, 2], [0, 1, 2, 3], [0, 1, 2, 3, 4], [0, 1, 2, 3, 4, 5], [], [7], [7, 8], [7, 8, 9], [], [11], [11, 12], [11, 12, 13], [11, 12, 13, 14], [11, 12, 13, 14, 15], [7, 8, 9, 10, 11, 12, 13, 14, 15, 16], [7, 8, 9, 10, 11, 12, 13, 14, 15, 16, 17], [7, 8, 9, 10, 11, 12, 13, 14, 15, 16, 17, 18], [0, 1, 2, 3, 4, 5, 6, 7, 8, 9, 10, 11, 12, 13, 14, 15, 16, 17, 18, 19], [0, 1, 2, 3, 4, 5, 6, 7, 8, 9, 10, 11, 12, 13, 14, 15, 16, 17, 18, 19, 20]] (
    .n (zA (Lk.t rfl)) <|
    .n (op_nilp (Lk.t rfl)) <|
    .n (op_field_ptr fd96_1 (Lk.t rfl) rfl) <|
    .n (op_load_sc sc94 (Lk.t rfl) rfl) <|
    .n (op_len_m sl94 (Lk.t rfl)) <|
    .n (op_sub (Lk.t rfl) (Lk.k rfl) (zO (by omega) (by omega))) <|
    .n (op_mul (Lk.k rfl) (Lk.t rfl) (zO (by omega) (by omega))) <|
    .n (zA (Lk.t rfl)) <|
    .n (op_nilp (Lk.t rfl)) <|
    .n (op_field_ptr fd96_1 (Lk.t rfl) rfl) <|
    .n (op_load_sc sc94 (Lk.t rfl) rfl) <|
    .n (zA (Lk.t rfl)) <|
    .n (op_nilp (Lk.t rfl)) <|
    .n (op_field_ptr fd96_1 (Lk.t rfl) rfl) <|
    .n (op_load_sc sc94 (Lk.t rfl) rfl) <|
    .n (op_len_m sl94 (Lk.t rfl)) <|
    .n (op_sub (Lk.t rfl) (Lk.k rfl) (zO (by omega) (by omega))) <|
    .n (op_index_m 0 sl94 (Lk.t rfl) (Lk.t rfl) (by omega) (by omega)) <|
    .n (op_load_sc sc153 (Lk.t rfl) rfl) <|
    .n (zP (len32_ok gd.1 gd.2) ⟨(Lk.t rfl),  trivial⟩) <|
    .n (op_add (Lk.t rfl) (Lk.t rfl) (zO (by omega) (by omega))) <|
    .n (zB (Lk.t rfl)) <| .nil) (fun _ => mixed) rfl fun g4 => ⟨_, _, [], rfl, (.cons 2 rfl <| .nil), (.nil), ?_⟩)
  refine zC ?_
  refine J_ret ?_
  refine zQ (.cons (.tmp (Lk.t rfl)) <| .nil) (zM (sb_res1 zL) ?_)
  exact ret_i hbb
theorem ibl_ok {x : Nat} (hx : Sml (x : Int)) : Ct Tryz.prog 139 [intP (x : Int)] (isv (.int .i64 (bl x : Int))) := ibl0_ok hx
theorem ibit0_ok {x : Int} (hx : Sml x) (hx0 : 0 ≤ x) : Ct Tryz.prog 150 [intP x, isv (.int .i64 0)] (isv (.int .u64 ((x.natAbs % 2 : Nat) : Int))) := by
 refine Ct.of Tryz.func150 rfl (by kernel_rfl) rfl fun c0 => ?_
 have hl : (limbs x.natAbs).length ≤ 1000000 := sml_len hx
 refine zF (zG [] (
   .n (zB (Lk.k rfl)) <| .nil) ff rfl fun g1 => ⟨_, _, [], rfl, (.cons 0 rfl <| .cons 1 rfl <| .nil), (.nil), ?_⟩)
 refine zC ?_
 refine zF (zG [] (
   .n (zA (Lk.t rfl)) <|
   .n (op_nilp (Lk.t rfl)) <|
   .n (op_field_ptr fd96_1 (Lk.t rfl) rfl) <|
   .n (op_load_sc sc94 (Lk.t rfl) rfl) <|
   .n (zB (Lk.t rfl)) <| .nil) ff rfl fun g2 => ⟨_, _, [], rfl, (.cons 0 rfl <| .cons 1 rfl <| .cons 5 rfl <| .nil), (.nil), ?_⟩)
 refine zC ?_
 refine zF ?_
 refine zF (zG [] (
   .n (zA (Lk.t rfl)) <|
   .n (op_nilp (Lk.t rfl)) <|
   .n (op_field_ptr fd96_0 (Lk.t rfl) rfl) <|
   .n (op_load_sc sc4 (Lk.t rfl) rfl) <| .nil) ff rfl fun g3 => ⟨_, _, [], rfl, (.cons 0 rfl <| .cons 1 rfl <| .cons 5 rfl <| .cons 14 rfl <| .nil), (.nil), ?_⟩)
 refine zC ?_
 refine zH (zK (Lk.t rfl)) (fun h1 => ?_) (fun h1 => ?_)
 ·have h1' := h1
  try simp only [cmpB, Z] at h1
  exact absurd h1 (by simp; omega)
 ·have h1' := h1
  try simp only [cmpB, Z] at h1
  refine J_skip ?_
  refine zC ?_
  refine zF (zG [] (
    .n (zB (Lk.k rfl)) <| .nil) ff rfl fun g4 => ⟨_, _, [], rfl, (.cons 0 rfl <| .cons 1 rfl <| .cons 5 rfl <| .cons 6 rfl <| .nil), (.nil), ?_⟩)
  refine zC ?_
  refine zF ?_
  refine zF (zG [] (
    .n (zA (Lk.t rfl)) <|
    .n (op_quo (Lk.t rfl) (Lk.k rfl) (by omega) (by decide +kernel : _ = (0 : Int))) <|
    .n (zA (Lk.t rfl)) <|
    .n (op_len_m sl94 (Lk.t rfl)) <|
    .n (op_cmp (by simp) (Lk.t rfl) (Lk.t rfl) rfl) <| .nil) ff rfl fun g5 => ⟨_, _, [], rfl, (.cons 0 rfl <| .cons 1 rfl <| .cons 5 rfl <| .cons 6 rfl <| .cons 22 rfl <| .nil), (.nil), ?_⟩)
  refine zC ?_
  refine zH (zK (Lk.t rfl)) (fun h2 => ?_) (fun h2 => ?_)
  ·have h2' := h2
   try simp only [cmpB, Z] at h2
   refine (zG [] (
     .n (zA (Lk.t rfl)) <|
     .n (zA (Lk.t rfl)) <|
     .n (op_quo (Lk.t rfl) (Lk.k rfl) (by omega) (by decide +kernel : _ = (0 : Int))) <|
     .n (op_index_m 0 sl94 (Lk.t rfl) (Lk.t rfl) (by decide) (by have := h2; simpa using this)) <|
     .n (op_load_sc sc153 (Lk.t rfl) rfl) <|
     .n (zA (Lk.t rfl)) <|
     .n (op_rem (Lk.t rfl) (Lk.k rfl) (by omega) (by decide +kernel : _ = (0 : Int))) <|
     .n (op_conv_int it3 it131 (Lk.t rfl) (wr64 (by omega) (by omega))) <|
     .n (op_shr (Lk.t rfl) (Lk.t rfl) (by omega) (show Int.fdiv _ _ = (limbs x.natAbs).getD 0 0 from Int.fdiv_one _)) <|
     .n (op_bits (by simp) (Lk.t rfl) (Lk.k rfl) (bit_and x.natAbs)) <|
     .n (zB (Lk.t rfl)) <| .nil) ff rfl fun g6 => ⟨_, _, [], rfl, (.cons 0 rfl <| .cons 6 rfl <| .nil), (.nil), ?_⟩)
   refine zC ?_
   refine zF ?_
   refine zF (zG [] (
     .n (zA (Lk.t rfl)) <|
     .n (op_nilp (Lk.t rfl)) <|
     .n (op_field_ptr fd96_0 (Lk.t rfl) rfl) <|
     .n (op_load_sc sc4 (Lk.t rfl) rfl) <| .nil) ff rfl fun g7 => ⟨_, _, [], rfl, (.cons 6 rfl <| .cons 36 rfl <| .nil), (.nil), ?_⟩)
   refine zC ?_
   refine zH (zK (Lk.t rfl)) (fun h3 => ?_) (fun h3 => ?_)
   ·have h3' := h3
    try simp only [cmpB, Z] at h3
    exact absurd h3 (by simp; omega)
   ·have h3' := h3
    try simp only [cmpB, Z] at h3
    refine J_skip ?_
    refine zC ?_
    refine zF (zG [] (
      .n (zA (Lk.t rfl)) <|
      .n (op_conv_int it153 it131 (Lk.t rfl) (wr64 (by omega) (by omega))) <|
      .n (zB (Lk.t rfl)) <| .nil) ff rfl fun g8 => ⟨_, _, [], rfl, (.cons 4 rfl <| .nil), (.nil), ?_⟩)
    refine zC ?_
    refine J_ret ?_
    refine zQ (.cons (.tmp (Lk.t rfl)) <| .nil) (zM (sb_res1 zL) ?_)
    exact zL
  ·have h2' := h2
   try simp only [cmpB, Z] at h2
   refine J_skip ?_
   refine zC ?_
   refine zF ?_
   refine zF (zG [] (
     .n (zA (Lk.t rfl)) <|
     .n (op_nilp (Lk.t rfl)) <|
     .n (op_field_ptr fd96_0 (Lk.t rfl) rfl) <|
     .n (op_load_sc sc4 (Lk.t rfl) rfl) <| .nil) ff rfl fun g9 => ⟨_, _, [], rfl, (.cons 6 rfl <| .cons 36 rfl <| .nil), (.nil), ?_⟩)
   refine zC ?_
   refine zH (zK (Lk.t rfl)) (fun h4 => ?_) (fun h4 => ?_)
   ·have h4' := h4
    try simp only [cmpB, Z] at h4
    exact absurd h4 (by simp; omega)
   ·have h4' := h4
    try simp only [cmpB, Z] at h4
    refine J_skip ?_
    refine zC ?_
    refine zF (zG [] (
      .n (zA (Lk.t rfl)) <|
      .n (op_conv_int it153 it131 (Lk.t rfl) (wr64 (by omega) (by omega))) <|
      .n (zB (Lk.t rfl)) <| .nil) ff rfl fun g10 => ⟨_, _, [], rfl, (.cons 4 rfl <| .nil), (.nil), ?_⟩)
    refine zC ?_
    refine J_ret ?_
    refine zQ (.cons (.tmp (Lk.t rfl)) <| .nil) (zM (sb_res1 zL) ?_)
    exact ret_i (by rw [bit_0 (x := x.natAbs) (by have := h2; omega)]; rfl)
theorem ibit_ok {x : Nat} (hx : Sml (x : Int)) : Ct Tryz.prog 150 [intP (x : Int), isv (.int .i64 0)] (isv (.int .u64 ((x % 2 : Nat) : Int))) := ibit0_ok hx (by omega)
theorem iset_ok {u : Value} {q0 q1 : SP} {x : Int} (hx : Sml x) : CtM Tryz.prog 140 [ipo u 0, intP x] (blk u [q0, q1] 96) (ipo u 0) (blk u (intC (x)) 96) := by
 refine CtM.of Tryz.func140 rfl (by kernel_rfl) rfl (fix_blk) fun c0 ob hr0 => ?_
 have lx := sml_len hx
 refine zF (zG [] (
   .n (zB (Lk.k rfl)) <| .nil) ff rfl fun g1 => ⟨_, _, [0], rfl, (.cons 0 rfl <| .cons 1 rfl <| .nil), (.cons 0 rfl <| .nil), ?_⟩)
 refine zC ?_
 refine zF (zG [[], [], [1], [1, 2], [1, 2, 3], [], [5], [5, 6], [5, 6, 7], [5, 6, 7, 8], [0, 1, 2, 3, 4, 5, 6, 7, 8, 9], [0, 1, 2, 3, 4, 5, 6, 7, 8, 9, 10]] (
   .n (zA (Lk.t rfl)) <|
   .n (zA (Lk.t rfl)) <|
   .n (op_nilp (Lk.t rfl)) <|
   .n (op_field_ptr fd96_0 (Lk.t rfl) rfl) <|
   .n (op_load_sc sc4 (Lk.t rfl) rfl) <|
   .n (zA (Lk.t rfl)) <|
   .n (op_nilp (Lk.t rfl)) <|
   .n (op_field_ptr fd96_1 (Lk.t rfl) rfl) <|
   .n (op_load_sc sc94 (Lk.t rfl) rfl) <|
   .n (op_append_nil sl94 zr153 rfl (Lk.k rfl) (Lk.t rfl) (by omega) (by omega)) <|
   .w 0 (op_callM 0 (iput_ok (limbs_dig _)) ⟨(Lk.t rfl), (Lk.t rfl), (Lk.t rfl),  trivial⟩ rfl) <|
   .n (zB (Lk.t rfl)) <| .nil) (fun _ => mixed) rfl fun g2 => ⟨_, _, [0], rfl, (.cons 4 rfl <| .nil), (.cons 0 rfl <| .nil), ?_⟩)
 refine zC ?_
 refine J_ret ?_
 refine JN_to (To.res 0 (r' := blk u (intC (x)) 96) rfl (res_eq (by rw [mag_nat, set_1])) rfl) ?_
 refine JN_retM 0 hr0 (fix_blk) rfl (.cons (.tmp (Lk.t rfl)) <| .nil) (zM (sb_res1 zL) ?_)
 exact zL
theorem irsh0_ok {u : Value} {q0 q1 : SP} {x : Int} {n : Nat} (hx : Sml x) (hx0 : 0 ≤ x) (hn : n ≤ 32000000) : CtM Tryz.prog 143 [ipo u 0, intP x, isv (.int .u64 (n : Int))] (blk u [q0, q1] 96) (ipo u 0) (blk u (intC (((x.natAbs / 2 ^ n : Nat) : Int))) 96) := by
 refine CtM.of Tryz.func143 rfl (by kernel_rfl) rfl (fix_blk) fun c0 ob hr0 => ?_
 have lx := sml_len hx
 refine zF (zG [] (
   .n (zB (Lk.k rfl)) <| .nil) ff rfl fun g1 => ⟨_, _, [0], rfl, (.cons 0 rfl <| .cons 1 rfl <| .cons 2 rfl <| .nil), (.cons 0 rfl <| .nil), ?_⟩)
 refine zC ?_
 refine zF ?_
 refine zF (zG [] (
   .n (zA (Lk.t rfl)) <|
   .n (op_nilp (Lk.t rfl)) <|
   .n (op_field_ptr fd96_0 (Lk.t rfl) rfl) <|
   .n (op_load_sc sc4 (Lk.t rfl) rfl) <|
   .n (op_not (Lk.t rfl)) <| .nil) ff rfl fun g2 => ⟨_, _, [0], rfl, (.cons 0 rfl <| .cons 1 rfl <| .cons 2 rfl <| .cons 12 rfl <| .nil), (.cons 0 rfl <| .nil), ?_⟩)
 refine zC ?_
 refine zH (zK (Lk.t rfl)) (fun h1 => ?_) (fun h1 => ?_)
 ·have h1' := h1
  try simp only [cmpB, Z] at h1
  refine zF (zG [] (
    .n (zA (Lk.t rfl)) <|
    .n (zA (Lk.t rfl)) <|
    .n (op_nilp (Lk.t rfl)) <|
    .n (op_field_ptr fd96_1 (Lk.t rfl) rfl) <|
    .n (op_load_sc sc94 (Lk.t rfl) rfl) <|
    .n (zA (Lk.t rfl)) <|
    .n (zP (right_ok (limbs_dig _) lx hn) ⟨(Lk.t rfl), (Lk.t rfl),  trivial⟩) <|
    .w 0 (op_callM 0 (iput_ok (limbs_dig _)) ⟨(Lk.t rfl), (Lk.k rfl), (Lk.t rfl),  trivial⟩ rfl) <|
    .n (zB (Lk.t rfl)) <| .nil) ff rfl fun g3 => ⟨_, _, [0], rfl, (.cons 6 rfl <| .nil), (.cons 0 rfl <| .nil), ?_⟩)
  refine zC ?_
  refine J_ret ?_
  refine zD ?_
  refine JN_to (To.res 0 (r' := blk u (intC (((x.natAbs / 2 ^ n : Nat) : Int))) 96) rfl (res_eq (by rw [mag_nat, mag_shr]; rfl)) rfl) ?_
  refine JN_retM 0 hr0 (fix_blk) rfl (.cons (.tmp (Lk.t rfl)) <| .nil) (zM (sb_res1 zL) ?_)
  exact zL
 ·have h1' := h1
  try simp only [cmpB, Z] at h1
  exact absurd h1 (by simp; omega)
theorem irsh_ok {u : Value} {q0 q1 : SP} {x n : Nat} (hx : Sml (x : Int)) (hn : n ≤ 32000000) : CtM Tryz.prog 143 [ipo u 0, intP (x : Int), isv (.int .u64 (n : Int))] (blk u [q0, q1] 96) (ipo u 0) (blk u (intC (((x / 2 ^ n : Nat) : Int))) 96) := irsh0_ok hx (by omega) hn
theorem irshA0_ok {u : Value} {x : Int} {n : Nat} (hx : Sml x) (hx0 : 0 ≤ x) (hn : n ≤ 32000000) : CtM Tryz.prog 143 [ipo u 0, ipo u 0, isv (.int .u64 (n : Int))] (blk u (intC (x)) 96) (ipo u 0) (blk u (intC (((x.natAbs / 2 ^ n : Nat) : Int))) 96) := by
 refine CtM.of Tryz.func143 rfl (by kernel_rfl) rfl (fix_blk) fun c0 ob hr0 => ?_
 have lx := sml_len hx
 refine zF (zG [] (
   .n (zB (Lk.k rfl)) <| .nil) ff rfl fun g1 => ⟨_, _, [0], rfl, (.cons 0 rfl <| .cons 1 rfl <| .cons 2 rfl <| .nil), (.cons 0 rfl <| .nil), ?_⟩)
 refine zC ?_
 refine zF ?_
 refine zF (zG [] (
   .n (zA (Lk.t rfl)) <|
   .n (op_nilo (Lk.t rfl)) <|
   .n (zI fd96_0 (Lk.t rfl) rfl) <|
   .r 0 (zN 0 sc4 (Lk.t rfl) rfl zJ rfl) <|
   .n (op_not (Lk.t rfl)) <| .nil) ff rfl fun g2 => ⟨_, _, [0], rfl, (.cons 0 rfl <| .cons 1 rfl <| .cons 2 rfl <| .cons 12 rfl <| .nil), (.cons 0 rfl <| .nil), ?_⟩)
 refine zC ?_
 refine zH (zK (Lk.t rfl)) (fun h1 => ?_) (fun h1 => ?_)
 ·have h1' := h1
  try simp only [cmpB, Z] at h1
  refine zF (zG [] (
    .n (zA (Lk.t rfl)) <|
    .n (zA (Lk.t rfl)) <|
    .n (op_nilo (Lk.t rfl)) <|
    .n (zI fd96_1 (Lk.t rfl) rfl) <|
    .r 0 (zN 0 sc94 (Lk.t rfl) rfl zJ rfl) <|
    .n (zA (Lk.t rfl)) <|
    .n (zP (right_ok (limbs_dig _) lx hn) ⟨(Lk.t rfl), (Lk.t rfl),  trivial⟩) <|
    .w 0 (op_callM 0 (iput_ok (limbs_dig _)) ⟨(Lk.t rfl), (Lk.k rfl), (Lk.t rfl),  trivial⟩ rfl) <|
    .n (zB (Lk.t rfl)) <| .nil) ff rfl fun g3 => ⟨_, _, [0], rfl, (.cons 6 rfl <| .nil), (.cons 0 rfl <| .nil), ?_⟩)
  refine zC ?_
  refine J_ret ?_
  refine zD ?_
  refine JN_to (To.res 0 (r' := blk u (intC (((x.natAbs / 2 ^ n : Nat) : Int))) 96) rfl (res_eq (by rw [mag_nat, mag_shr]; rfl)) rfl) ?_
  refine JN_retM 0 hr0 (fix_blk) rfl (.cons (.tmp (Lk.t rfl)) <| .nil) (zM (sb_res1 zL) ?_)
  exact zL
 ·have h1' := h1
  try simp only [cmpB, Z] at h1
  exact absurd h1 (by simp; omega)
theorem irshA_ok {u : Value} {x n : Nat} (hx : Sml (x : Int)) (hn : n ≤ 32000000) : CtM Tryz.prog 143 [ipo u 0, ipo u 0, isv (.int .u64 (n : Int))] (blk u (intC ((x : Int))) 96) (ipo u 0) (blk u (intC (((x / 2 ^ n : Nat) : Int))) 96) := irshA0_ok hx (by omega) hn
theorem ilshA_ok {u : Value} {x : Int} {n : Nat} (hx : Sml x) (hn : n ≤ 32000000) : CtM Tryz.prog 90 [ipo u 0, ipo u 0, isv (.int .u64 (n : Int))] (blk u (intC (x)) 96) (ipo u 0) (blk u (intC (x * 2 ^ n)) 96) := by
 refine CtM.of Tryz.func90 rfl (by kernel_rfl) rfl (fix_blk) fun c0 ob hr0 => ?_
 have lx := sml_len hx
 refine zF (zG [] (
   .n (zB (Lk.k rfl)) <| .nil) ff rfl fun g1 => ⟨_, _, [0], rfl, (.cons 0 rfl <| .cons 1 rfl <| .cons 2 rfl <| .nil), (.cons 0 rfl <| .nil), ?_⟩)
 refine zC ?_
 refine zF (zG [[], [], [1], [1, 2], [1, 2, 3], [], [5], [5, 6], [5, 6, 7], [], [5, 6, 7, 8, 9], [0, 1, 2, 3, 4, 5, 6, 7, 8, 9, 10], [0, 1, 2, 3, 4, 5, 6, 7, 8, 9, 10, 11]] (
   .n (zA (Lk.t rfl)) <|
   .n (zA (Lk.t rfl)) <|
   .n (op_nilo (Lk.t rfl)) <|
   .n (zI fd96_0 (Lk.t rfl) rfl) <|
   .r 0 (zN 0 sc4 (Lk.t rfl) rfl zJ rfl) <|
   .n (zA (Lk.t rfl)) <|
   .n (op_nilo (Lk.t rfl)) <|
   .n (zI fd96_1 (Lk.t rfl) rfl) <|
   .r 0 (zN 0 sc94 (Lk.t rfl) rfl zJ rfl) <|
   .n (zA (Lk.t rfl)) <|
   .n (zP (left_ok (limbs_dig _) lx hn) ⟨(Lk.t rfl), (Lk.t rfl),  trivial⟩) <|
   .w 0 (op_callM 0 (iput_ok (limbs_dig _)) ⟨(Lk.t rfl), (Lk.t rfl), (Lk.t rfl),  trivial⟩ rfl) <|
   .n (zB (Lk.t rfl)) <| .nil) (fun _ => mixed) rfl fun g2 => ⟨_, _, [0], rfl, (.cons 6 rfl <| .nil), (.cons 0 rfl <| .nil), ?_⟩)
 refine zC ?_
 refine J_ret ?_
 refine JN_to (To.res 0 (r' := blk u (intC (x * 2 ^ n)) 96) rfl (res_eq (by rw [mag_nat, mag_shl, shl_1])) rfl) ?_
 refine JN_retM 0 hr0 (fix_blk) rfl (.cons (.tmp (Lk.t rfl)) <| .nil) (zM (sb_res1 zL) ?_)
 exact zL
theorem ilshB_ok {u w : Value} {q0 q1 : SP} {x : Int} {n : Nat} (hx : Sml x) (hn : n ≤ 32000000) : CtM Tryz.prog 90 [ipo u 0, ipo w 0, isv (.int .u64 (n : Int))] ((blk u [q0, q1] 96).sep (blk w (intC (x)) 96)) (ipo u 0) ((blk u (intC (x * 2 ^ n)) 96).sep (blk w (intC (x)) 96)) := by
 refine CtM.of Tryz.func90 rfl (by kernel_rfl) rfl (fix_sep fix_blk fix_blk) fun c0 ob hr0 => ?_
 have lx := sml_len hx
 refine J_to (To.emps 1) ?_
 refine J_to (To.split 0 1 rfl rfl rfl rfl) ?_
 refine zF (zG [] (
   .n (zB (Lk.k rfl)) <| .nil) ff rfl fun g1 => ⟨_, _, [0, 1], rfl, (.cons 0 rfl <| .cons 1 rfl <| .cons 2 rfl <| .nil), (.cons 0 rfl <| .cons 1 rfl <| .nil), ?_⟩)
 refine zC ?_
 refine zF (zG [[], [], [1], [1, 2], [1, 2, 3], [], [5], [5, 6], [5, 6, 7], [], [5, 6, 7, 8, 9], [0, 1, 2, 3, 4, 5, 6, 7, 8, 9, 10], [0, 1, 2, 3, 4, 5, 6, 7, 8, 9, 10, 11]] (
   .n (zA (Lk.t rfl)) <|
   .n (zA (Lk.t rfl)) <|
   .n (op_nilo (Lk.t rfl)) <|
   .n (zI fd96_0 (Lk.t rfl) rfl) <|
   .r 1 (zN 1 sc4 (Lk.t rfl) rfl zJ rfl) <|
   .n (zA (Lk.t rfl)) <|
   .n (op_nilo (Lk.t rfl)) <|
   .n (zI fd96_1 (Lk.t rfl) rfl) <|
   .r 1 (zN 1 sc94 (Lk.t rfl) rfl zJ rfl) <|
   .n (zA (Lk.t rfl)) <|
   .n (zP (left_ok (limbs_dig _) lx hn) ⟨(Lk.t rfl), (Lk.t rfl),  trivial⟩) <|
   .w 0 (op_callM 0 (iput_ok (limbs_dig _)) ⟨(Lk.t rfl), (Lk.t rfl), (Lk.t rfl),  trivial⟩ rfl) <|
   .n (zB (Lk.t rfl)) <| .nil) (fun _ => mixed) rfl fun g2 => ⟨_, _, [0, 1], rfl, (.cons 6 rfl <| .nil), (.cons 0 rfl <| .cons 1 rfl <| .nil), ?_⟩)
 refine zC ?_
 refine J_ret ?_
 refine JN_to (To.res 0 (r' := blk u (intC (x * 2 ^ n)) 96) rfl (res_eq (by rw [mag_nat, mag_shl, shl_1])) rfl) ?_
 refine JN_to (To.join 0 1 rfl rfl rfl rfl) ?_
 refine JN_retM 0 hr0 (fix_sep fix_blk fix_blk) rfl (.cons (.tmp (Lk.t rfl)) <| .nil) (zM (sb_res1 zL) ?_)
 exact zL
theorem isub_ok {u : Value} {q0 q1 : SP} {x y : Int} (hx : Sml x) (hy : Sml y) : CtM Tryz.prog 148 [ipo u 0, intP x, intP y] (blk u [q0, q1] 96) (ipo u 0) (blk u (intC (x - y)) 96) := by
 refine CtM.of Tryz.func148 rfl (by kernel_rfl) rfl (fix_blk) fun c0 ob hr0 => ?_
 refine zF (zG [] (
   .n (zB (Lk.k rfl)) <| .nil) ff rfl fun g1 => ⟨_, _, [0], rfl, (.cons 0 rfl <| .cons 1 rfl <| .cons 2 rfl <| .nil), (.cons 0 rfl <| .nil), ?_⟩)
 refine zC ?_
 refine zF (zG [] (
   .n (zA (Lk.t rfl)) <|
   .n (zA (Lk.t rfl)) <|
   .n (zA (Lk.t rfl)) <|
   .w 0 (op_callM 0 (isum_ok hx hy) ⟨(Lk.t rfl), (Lk.t rfl), (Lk.t rfl), (Lk.k rfl),  trivial⟩ rfl) <|
   .n (zB (Lk.t rfl)) <| .nil) ff rfl fun g2 => ⟨_, _, [0], rfl, (.cons 6 rfl <| .nil), (.cons 0 rfl <| .nil), ?_⟩)
 refine zC ?_
 refine J_ret ?_
 refine JN_to (To.res 0 (r' := blk u (intC (x - y)) 96) rfl (res_eq (by rw [show x + sgnI true 1 * y = x - y by simp [sgnI]; omega])) rfl) ?_
 refine JN_retM 0 hr0 (fix_blk) rfl (.cons (.tmp (Lk.t rfl)) <| .nil) (zM (sb_res1 zL) ?_)
 exact zL
theorem isumA_ok {u : Value} {x y : Int} (hx : Sml x) (hy : Sml y) (hx0 : 0 ≤ x) (hy0 : 0 ≤ y) : CtM Tryz.prog 89 [ipo u 0, ipo u 0, intP y, isv (.bool false)] (blk u (intC (x)) 96) (ipo u 0) (blk u (intC (x + y)) 96) := by
 refine CtM.of Tryz.func89 rfl (by kernel_rfl) rfl (fix_blk) fun c0 ob hr0 => ?_
 have lx := sml_len hx
 have ly := sml_len hy
 refine zF (zG [] (
   .n (zB (Lk.k rfl)) <| .nil) ff rfl fun g1 => ⟨_, _, [0], rfl, (.cons 0 rfl <| .cons 1 rfl <| .cons 2 rfl <| .cons 3 rfl <| .nil), (.cons 0 rfl <| .nil), ?_⟩)
 refine zC ?_
 refine zF (zG [] (
   .n (zA (Lk.t rfl)) <|
   .n (op_nilp (Lk.t rfl)) <|
   .n (op_field_ptr fd96_0 (Lk.t rfl) rfl) <|
   .n (op_load_sc sc4 (Lk.t rfl) rfl) <|
   .n (zA (Lk.t rfl)) <|
   .n (op_bne Tryz.underlying4 (Lk.t rfl) (Lk.t rfl)) <|
   .n (zB (Lk.t rfl)) <| .nil) ff rfl fun g2 => ⟨_, _, [0], rfl, (.cons 0 rfl <| .cons 1 rfl <| .cons 2 rfl <| .cons 9 rfl <| .nil), (.cons 0 rfl <| .nil), ?_⟩)
 refine zC ?_
 refine zF ?_
 refine zF (zG [] (
   .n (zA (Lk.t rfl)) <|
   .n (op_nilo (Lk.t rfl)) <|
   .n (zI fd96_0 (Lk.t rfl) rfl) <|
   .r 0 (zN 0 sc4 (Lk.t rfl) rfl zJ rfl) <|
   .n (zA (Lk.t rfl)) <|
   .n (op_beql Tryz.underlying4 (Lk.t rfl) (Lk.t rfl)) <| .nil) ff rfl fun g3 => ⟨_, _, [0], rfl, (.cons 0 rfl <| .cons 1 rfl <| .cons 2 rfl <| .cons 9 rfl <| .cons 21 rfl <| .nil), (.cons 0 rfl <| .nil), ?_⟩)
 refine zC ?_
 refine zH (zK (Lk.t rfl)) (fun h1 => ?_) (fun h1 => ?_)
 ·have h1' := h1
  try simp only [cmpB, Z] at h1
  refine zF (zG [[], [], [], [2], [2, 3], [2, 3, 4], [], [6], [6, 7], [6, 7, 8], [2, 3, 4, 5, 6, 7, 8, 9], [0, 1, 2, 3, 4, 5, 6, 7, 8, 9, 10], [0, 1, 2, 3, 4, 5, 6, 7, 8, 9, 10, 11]] (
    .n (zA (Lk.t rfl)) <|
    .n (zA (Lk.t rfl)) <|
    .n (zA (Lk.t rfl)) <|
    .n (op_nilo (Lk.t rfl)) <|
    .n (zI fd96_1 (Lk.t rfl) rfl) <|
    .r 0 (zN 0 sc94 (Lk.t rfl) rfl zJ rfl) <|
    .n (zA (Lk.t rfl)) <|
    .n (op_nilp (Lk.t rfl)) <|
    .n (op_field_ptr fd96_1 (Lk.t rfl) rfl) <|
    .n (op_load_sc sc94 (Lk.t rfl) rfl) <|
    .n (zP (plus_ok (limbs_dig _) (limbs_dig _) lx ly) ⟨(Lk.t rfl), (Lk.t rfl),  trivial⟩) <|
    .w 0 (op_callM 0 (iput_ok (limbs_dig _)) ⟨(Lk.t rfl), (Lk.t rfl), (Lk.t rfl),  trivial⟩ rfl) <|
    .n (zB (Lk.t rfl)) <| .nil) (fun _ => mixed) rfl fun g4 => ⟨_, _, [0], rfl, (.cons 8 rfl <| .nil), (.cons 0 rfl <| .nil), ?_⟩)
  refine zC ?_
  refine J_ret ?_
  refine zD ?_
  refine JN_to (To.res 0 (r' := blk u (intC (x + y)) 96) rfl (res_eq (by rw [mag_nat, mag_add, sumA_1 hx0 hy0])) rfl) ?_
  refine JN_retM 0 hr0 (fix_blk) rfl (.cons (.tmp (Lk.t rfl)) <| .nil) (zM (sb_res1 zL) ?_)
  exact zL
 ·have h1' := h1
  try simp only [cmpB, Z] at h1
  exact absurd h1 (by simp; omega)
theorem iaddA_ok {u : Value} {x y : Int} (hx : Sml x) (hy : Sml y) (hx0 : 0 ≤ x) (hy0 : 0 ≤ y) : CtM Tryz.prog 53 [ipo u 0, ipo u 0, intP y] (blk u (intC (x)) 96) (ipo u 0) (blk u (intC (x + y)) 96) := by
 refine CtM.of Tryz.func53 rfl (by kernel_rfl) rfl (fix_blk) fun c0 ob hr0 => ?_
 refine zF (zG [] (
   .n (zB (Lk.k rfl)) <| .nil) ff rfl fun g1 => ⟨_, _, [0], rfl, (.cons 0 rfl <| .cons 1 rfl <| .cons 2 rfl <| .nil), (.cons 0 rfl <| .nil), ?_⟩)
 refine zC ?_
 refine zF (zG [] (
   .n (zA (Lk.t rfl)) <|
   .n (zA (Lk.t rfl)) <|
   .n (zA (Lk.t rfl)) <|
   .w 0 (op_callM 0 (isumA_ok hx hy hx0 hy0) ⟨(Lk.t rfl), (Lk.t rfl), (Lk.t rfl), (Lk.k rfl),  trivial⟩ rfl) <|
   .n (zB (Lk.t rfl)) <| .nil) ff rfl fun g2 => ⟨_, _, [0], rfl, (.cons 6 rfl <| .nil), (.cons 0 rfl <| .nil), ?_⟩)
 refine zC ?_
 refine J_ret ?_
 refine JN_retM 0 hr0 (fix_blk) rfl (.cons (.tmp (Lk.t rfl)) <| .nil) (zM (sb_res1 zL) ?_)
 exact zL
theorem icmp0_ok {x y : Int} (hx0 : 0 ≤ x) (hy0 : 0 ≤ y) : Ct Tryz.prog 149 [intP x, intP y] (isv (.int .i64 (cmpN x.natAbs y.natAbs))) := by
 refine Ct.of Tryz.func149 rfl (by kernel_rfl) rfl fun c0 => ?_
 refine zF (zG [] (
   .n (zB (Lk.k rfl)) <| .nil) ff rfl fun g1 => ⟨_, _, [], rfl, (.cons 0 rfl <| .cons 1 rfl <| .nil), (.nil), ?_⟩)
 refine zC ?_
 refine zF ?_
 refine zF (zG [[], [0], [0, 1], [0, 1, 2], [], [4], [4, 5], [4, 5, 6], [0, 1, 2, 3, 4, 5, 6, 7]] (
   .n (zA (Lk.t rfl)) <|
   .n (op_nilp (Lk.t rfl)) <|
   .n (op_field_ptr fd96_0 (Lk.t rfl) rfl) <|
   .n (op_load_sc sc4 (Lk.t rfl) rfl) <|
   .n (zA (Lk.t rfl)) <|
   .n (op_nilp (Lk.t rfl)) <|
   .n (op_field_ptr fd96_0 (Lk.t rfl) rfl) <|
   .n (op_load_sc sc4 (Lk.t rfl) rfl) <|
   .n (op_bne Tryz.underlying4 (Lk.t rfl) (Lk.t rfl)) <| .nil) (fun _ => mixed) rfl fun g2 => ⟨_, _, [], rfl, (.cons 0 rfl <| .cons 1 rfl <| .cons 14 rfl <| .nil), (.nil), ?_⟩)
 refine zC ?_
 refine zH (zK (Lk.t rfl)) (fun h1 => ?_) (fun h1 => ?_)
 ·have h1' := h1
  try simp only [cmpB, Z] at h1
  exact absurd h1' (by rw [show decide (x < 0) = false by simp; omega, show decide (y < 0) = false by simp; omega]; decide)
 ·have h1' := h1
  try simp only [cmpB, Z] at h1
  refine J_skip ?_
  refine zC ?_
  refine zF (zG [[], [0], [0, 1], [0, 1, 2], [], [4], [4, 5], [4, 5, 6], [0, 1, 2, 3, 4, 5, 6, 7], [0, 1, 2, 3, 4, 5, 6, 7, 8]] (
    .n (zA (Lk.t rfl)) <|
    .n (op_nilp (Lk.t rfl)) <|
    .n (op_field_ptr fd96_1 (Lk.t rfl) rfl) <|
    .n (op_load_sc sc94 (Lk.t rfl) rfl) <|
    .n (zA (Lk.t rfl)) <|
    .n (op_nilp (Lk.t rfl)) <|
    .n (op_field_ptr fd96_1 (Lk.t rfl) rfl) <|
    .n (op_load_sc sc94 (Lk.t rfl) rfl) <|
    .n (zP (cmp_ok) ⟨(Lk.t rfl), (Lk.t rfl),  trivial⟩) <|
    .n (zB (Lk.t rfl)) <| .nil) (fun _ => mixed) rfl fun g3 => ⟨_, _, [], rfl, (.cons 0 rfl <| .cons 5 rfl <| .nil), (.nil), ?_⟩)
  refine zC ?_
  refine zF ?_
  refine zF (zG [] (
    .n (zA (Lk.t rfl)) <|
    .n (op_nilp (Lk.t rfl)) <|
    .n (op_field_ptr fd96_0 (Lk.t rfl) rfl) <|
    .n (op_load_sc sc4 (Lk.t rfl) rfl) <| .nil) ff rfl fun g4 => ⟨_, _, [], rfl, (.cons 5 rfl <| .cons 31 rfl <| .nil), (.nil), ?_⟩)
  refine zC ?_
  refine zH (zK (Lk.t rfl)) (fun h2 => ?_) (fun h2 => ?_)
  ·have h2' := h2
   try simp only [cmpB, Z] at h2
   exact absurd h2 (by simp; omega)
  ·have h2' := h2
   try simp only [cmpB, Z] at h2
   refine J_skip ?_
   refine zC ?_
   refine zF (zG [] (
     .n (zA (Lk.t rfl)) <|
     .n (zB (Lk.t rfl)) <| .nil) ff rfl fun g5 => ⟨_, _, [], rfl, (.cons 4 rfl <| .nil), (.nil), ?_⟩)
   refine zC ?_
   refine J_ret ?_
   refine zQ (.cons (.tmp (Lk.t rfl)) <| .nil) (zM (sb_res1 zL) ?_)
   exact zL
theorem icmp_ok {x y : Nat} : Ct Tryz.prog 149 [intP (x : Int), intP (y : Int)] (isv (.int .i64 (cmpN x y))) := icmp0_ok (by omega) (by omega)
theorem iu0_ok {x : Int} (hx0 : 0 ≤ x) (hx : x < 18446744073709551616) : Ct Tryz.prog 145 [intP x] (isv (.int .u64 ((x.natAbs : Nat) : Int))) := by
 refine Ct.of Tryz.func145 rfl (by kernel_rfl) rfl fun c0 => ?_
 have hl : (limbs x.natAbs).length ≤ 1000000 := sml_len (sml_of (by omega))
 have hd := limbs_dig x.natAbs
 refine zF (zG [] (
   .n (zB (Lk.k rfl)) <| .nil) ff rfl fun g1 => ⟨_, _, [], rfl, (.cons 0 rfl <| .nil), (.nil), ?_⟩)
 refine zC ?_
 refine zF (zG [] (
   .n (zB (Lk.k rfl)) <| .nil) ff rfl fun g2 => ⟨_, _, [], rfl, (.cons 0 rfl <| .cons 3 rfl <| .nil), (.nil), ?_⟩)
 refine zC ?_
 refine zF ?_
 refine zF (zG [] (
   .n (zA (Lk.t rfl)) <|
   .n (op_nilp (Lk.t rfl)) <|
   .n (op_field_ptr fd96_1 (Lk.t rfl) rfl) <|
   .n (op_load_sc sc94 (Lk.t rfl) rfl) <|
   .n (op_len_m sl94 (Lk.t rfl)) <|
   .n (op_cmp (by simp) (Lk.t rfl) (Lk.k rfl) rfl) <| .nil) ff rfl fun g3 => ⟨_, _, [], rfl, (.cons 0 rfl <| .cons 3 rfl <| .cons 9 rfl <| .nil), (.nil), ?_⟩)
 refine zC ?_
 refine zH (zK (Lk.t rfl)) (fun h1 => ?_) (fun h1 => ?_)
 ·have h1' := h1
  try simp only [cmpB, Z] at h1
  have gd := hd.at (k := 0) (by have := h1; omega)
  refine (zG [] (
    .n (zA (Lk.t rfl)) <|
    .n (op_nilp (Lk.t rfl)) <|
    .n (op_field_ptr fd96_1 (Lk.t rfl) rfl) <|
    .n (op_load_sc sc94 (Lk.t rfl) rfl) <|
    .n (op_index_m 0 sl94 (Lk.t rfl) (Lk.k rfl) (by decide) (by omega)) <|
    .n (op_load_sc sc153 (Lk.t rfl) rfl) <|
    .n (op_conv_int it153 it34 (Lk.t rfl) (show _ = (limbs x.natAbs).getD 0 0 from wr64 gd.1 (by have := gd.2; exact Int.lt_trans this (by decide)))) <|
    .n (zB (Lk.t rfl)) <| .nil) ff rfl fun g4 => ⟨_, _, [], rfl, (.cons 0 rfl <| .cons 3 rfl <| .nil), (.nil), ?_⟩)
  refine zC ?_
  refine zF ?_
  refine zF (zG [] (
    .n (zA (Lk.t rfl)) <|
    .n (op_nilp (Lk.t rfl)) <|
    .n (op_field_ptr fd96_1 (Lk.t rfl) rfl) <|
    .n (op_load_sc sc94 (Lk.t rfl) rfl) <|
    .n (op_len_m sl94 (Lk.t rfl)) <|
    .n (op_cmp (by simp) (Lk.t rfl) (Lk.k rfl) rfl) <| .nil) ff rfl fun g5 => ⟨_, _, [], rfl, (.cons 0 rfl <| .cons 3 rfl <| .cons 22 rfl <| .nil), (.nil), ?_⟩)
  refine zC ?_
  refine zH (zK (Lk.t rfl)) (fun h2 => ?_) (fun h2 => ?_)
  ·have h2' := h2
   try simp only [cmpB, Z] at h2
   have ge := hd.at (k := 1) (by have := h2; omega)
   refine (zG [] (
     .n (zA (Lk.t rfl)) <|
     .n (zA (Lk.t rfl)) <|
     .n (op_nilp (Lk.t rfl)) <|
     .n (op_field_ptr fd96_1 (Lk.t rfl) rfl) <|
     .n (op_load_sc sc94 (Lk.t rfl) rfl) <|
     .n (op_index_m 0 sl94 (Lk.t rfl) (Lk.k rfl) (by decide) (by omega)) <|
     .n (op_load_sc sc153 (Lk.t rfl) rfl) <|
     .n (op_conv_int it153 it34 (Lk.t rfl) (show _ = (limbs x.natAbs).getD 1 0 from wr64 ge.1 (by have := ge.2; exact Int.lt_trans this (by decide)))) <|
     .n (op_shl (Lk.t rfl) (Lk.k rfl) (by omega) rfl) <|
     .n (op_bits (by simp) (Lk.t rfl) (Lk.t rfl) (or64 gd ge)) <|
     .n (zB (Lk.t rfl)) <| .nil) ff rfl fun g6 => ⟨_, _, [], rfl, (.cons 3 rfl <| .nil), (.nil), ?_⟩)
   refine zC ?_
   refine zF (zG [] (
     .n (zA (Lk.t rfl)) <|
     .n (zB (Lk.t rfl)) <| .nil) ff rfl fun g7 => ⟨_, _, [], rfl, (.cons 2 rfl <| .nil), (.nil), ?_⟩)
   refine zC ?_
   refine J_ret ?_
   refine zQ (.cons (.tmp (Lk.t rfl)) <| .nil) (zM (sb_res1 zL) ?_)
   exact ret_i (u64_2 (by omega))
  ·have h2' := h2
   try simp only [cmpB, Z] at h2
   refine J_skip ?_
   refine zC ?_
   refine zF (zG [] (
     .n (zA (Lk.t rfl)) <|
     .n (zB (Lk.t rfl)) <| .nil) ff rfl fun g8 => ⟨_, _, [], rfl, (.cons 2 rfl <| .nil), (.nil), ?_⟩)
   refine zC ?_
   refine J_ret ?_
   refine zQ (.cons (.tmp (Lk.t rfl)) <| .nil) (zM (sb_res1 zL) ?_)
   exact ret_i (u64_1 (by have := h2; omega))
 ·have h1' := h1
  try simp only [cmpB, Z] at h1
  refine J_skip ?_
  refine zC ?_
  refine zF ?_
  refine zF (zG [] (
    .n (zA (Lk.t rfl)) <|
    .n (op_nilp (Lk.t rfl)) <|
    .n (op_field_ptr fd96_1 (Lk.t rfl) rfl) <|
    .n (op_load_sc sc94 (Lk.t rfl) rfl) <|
    .n (op_len_m sl94 (Lk.t rfl)) <|
    .n (op_cmp (by simp) (Lk.t rfl) (Lk.k rfl) rfl) <| .nil) ff rfl fun g9 => ⟨_, _, [], rfl, (.cons 0 rfl <| .cons 3 rfl <| .cons 22 rfl <| .nil), (.nil), ?_⟩)
  refine zC ?_
  refine zH (zK (Lk.t rfl)) (fun h3 => ?_) (fun h3 => ?_)
  ·have h3' := h3
   try simp only [cmpB, Z] at h3
   have ge := hd.at (k := 1) (by have := h3; omega)
   exact absurd h3 (by have := h1; omega)
  ·have h3' := h3
   try simp only [cmpB, Z] at h3
   refine J_skip ?_
   refine zC ?_
   refine zF (zG [] (
     .n (zA (Lk.t rfl)) <|
     .n (zB (Lk.t rfl)) <| .nil) ff rfl fun g10 => ⟨_, _, [], rfl, (.cons 2 rfl <| .nil), (.nil), ?_⟩)
   refine zC ?_
   refine J_ret ?_
   refine zQ (.cons (.tmp (Lk.t rfl)) <| .nil) (zM (sb_res1 zL) ?_)
   exact ret_i (by rw [limbs_len0.1 (show (limbs x.natAbs).length = 0 by have := h1; omega)]; rfl)
theorem iu64_ok {x : Nat} (hx : x < 18446744073709551616) : Ct Tryz.prog 145 [intP (x : Int)] (isv (.int .u64 (x : Int))) := iu0_ok (by omega) (by omega)
theorem known_ok  : Ct Tryz.prog 123 [isv (.int .i64 0)] (isv (.bool true)) := by
 refine Ct.of Tryz.func123 rfl (by kernel_rfl) rfl fun c0 => ?_
 refine zF (zG [] (
   .n (zB (Lk.k rfl)) <| .nil) ff rfl fun g1 => ⟨_, _, [], rfl, (.cons 0 rfl <| .nil), (.nil), ?_⟩)
 refine zC ?_
 refine zF (zG [] (
   .n (zA (Lk.t rfl)) <|
   .n (op_cmp (by simp) (Lk.t rfl) (Lk.k rfl) rfl) <|
   .n (zA (Lk.t rfl)) <|
   .n (op_guard rfl rfl (gd_b rfl) (fun hC => (zA (Lk.t rfl)))) <|
   .n (op_guard rfl rfl (gd_b rfl) (fun hC => (op_cmp (by simp) (Lk.w rfl hC) (Lk.k rfl) rfl))) <|
   .n (op_and (Lk.t rfl) (fun h2 => (Lk.w rfl h2))) <|
   .n (zB (Lk.t rfl)) <| .nil) ff rfl fun g2 => ⟨_, _, [], rfl, (.cons 2 rfl <| .nil), (.nil), ?_⟩)
 refine zC ?_
 refine J_ret ?_
 refine zQ (.cons (.tmp (Lk.t rfl)) <| .nil) (zM (sb_res1 zL) ?_)
 exact zL
theorem dbl_ok  : Ct Tryz.prog 124 [] (dblP) := by
 refine Ct.of Tryz.func124 rfl (by kernel_rfl) rfl fun c0 => ?_
 refine J_to (To.emps 1) ?_
 refine zF (zG [] (
   .w 0 (op_alloc 0 zr161 rfl rfl) <| .nil) ff rfl fun g1 => ⟨_, _, [0], rfl, (.cons 0 rfl <| .nil), (.cons 0 rfl <| .nil), ?_⟩)
 refine zC ?_
 refine zF (zG [] (
   .n (op_build zr161 rfl pl161 (.cons rfl (Lk.k rfl) co_isv rfl (puts_l rfl (Nat.le_of_ble_eq_true rfl)) (.cons rfl (Lk.k rfl) co_isv rfl (puts_l rfl (Nat.le_of_ble_eq_true rfl)) (.cons rfl (Lk.k rfl) co_isv rfl (puts_l rfl (Nat.le_of_ble_eq_true rfl)) (.cons rfl (Lk.k rfl) co_isv rfl (puts_l rfl (Nat.le_of_ble_eq_true rfl)) .nil))))) <|
   .w 0 (op_store_b 0 (Lk.t rfl) (Lk.t rfl) co_agg sz161 rfl rfl rfl) <| .nil) ff rfl fun g2 => ⟨_, _, [0], rfl, (.cons 0 rfl <| .nil), (.cons 0 rfl <| .nil), ?_⟩)
 refine zC ?_
 refine J_ret ?_
 refine zQ (.cons (.ag 0 (Lk.t rfl) ag161 rfl rfl rfl) <| .nil) (zM (sb_res1 zL) ?_)
 exact zL
theorem fput_ok {neg : Bool} {n f : Nat} (hn : n < 2048) (hf : f < 4503599627370496) : Ct Tryz.prog 138 [dblP, isv (.bool neg), isv (.int .i64 (n : Int)), isv (.int .u64 (f : Int))] (isv (.int .u64 ((putW neg n f : Nat) : Int))) := by
 refine Ct.of Tryz.func138 rfl (by kernel_rfl) rfl fun c0 => ?_
 refine J_to (To.emps 1) ?_
 refine zF (zG [] (
   .w 0 (op_box 0 (Lk.t rfl) co_agg rfl) <|
   .n (zB (Lk.k rfl)) <| .nil) ff rfl fun g1 => ⟨_, _, [0], rfl, (.cons 1 rfl <| .cons 2 rfl <| .cons 3 rfl <| .cons 4 rfl <| .nil), (.cons 0 rfl <| .nil), ?_⟩)
 refine zC ?_
 refine zF (zG [] (
   .n (zA (Lk.t rfl)) <|
   .n (op_conv_int it3 it34 (Lk.t rfl) (wr64 (by omega) (by omega))) <|
   .n (zI fd161_0 (Lk.t rfl) rfl) <|
   .r 0 (zN 0 sc3 (Lk.t rfl) rfl zJ rfl) <|
   .n (op_sub (Lk.t rfl) (Lk.k rfl) (zO (by omega) (by omega))) <|
   .n (op_conv_int it3 it131 (Lk.t rfl) (by decide +kernel : _ = (52 : Int))) <|
   .n (op_shl (Lk.t rfl) (Lk.t rfl) (by omega) (shl52 hn)) <|
   .n (zA (Lk.t rfl)) <|
   .n (op_bits (by simp) (Lk.t rfl) (Lk.t rfl) (put_or hn hf)) <|
   .n (zB (Lk.t rfl)) <| .nil) ff rfl fun g2 => ⟨_, _, [0], rfl, (.cons 1 rfl <| .cons 4 rfl <| .cons 9 rfl <| .nil), (.cons 0 rfl <| .nil), ?_⟩)
 refine zC ?_
 refine zF ?_
 refine zF (zG [] (
   .n (zA (Lk.t rfl)) <| .nil) ff rfl fun g3 => ⟨_, _, [0], rfl, (.cons 4 rfl <| .cons 9 rfl <| .cons 19 rfl <| .nil), (.cons 0 rfl <| .nil), ?_⟩)
 refine zC ?_
 refine zH (zK (Lk.t rfl)) (fun h1 => ?_) (fun h1 => ?_)
 ·have h1' := h1
  try simp only [cmpB, Z] at h1
  refine (zG [] (
    .n (zA (Lk.t rfl)) <|
    .n (zI fd161_0 (Lk.t rfl) rfl) <|
    .r 0 (zN 0 sc3 (Lk.t rfl) rfl zJ rfl) <|
    .n (op_sub (Lk.t rfl) (Lk.k rfl) (zO (by omega) (by omega))) <|
    .n (zI fd161_3 (Lk.t rfl) rfl) <|
    .r 0 (zN 0 sc3 (Lk.t rfl) rfl zJ rfl) <|
    .n (op_add (Lk.t rfl) (Lk.t rfl) (zO (by omega) (by omega))) <|
    .n (op_conv_int it3 it131 (Lk.t rfl) (by decide +kernel : _ = (63 : Int))) <|
    .n (op_shl (Lk.k rfl) (Lk.t rfl) (by omega) (by decide +kernel : _ = (9223372036854775808 : Int))) <|
    .n (op_bits (by simp) (Lk.t rfl) (Lk.t rfl) (put_top hn hf)) <|
    .n (zB (Lk.t rfl)) <| .nil) ff rfl fun g4 => ⟨_, _, [], rfl, (.cons 9 rfl <| .nil), (.nil), ?_⟩)
  refine zC ?_
  refine zF (zG [] (
    .n (zA (Lk.t rfl)) <|
    .n (zB (Lk.t rfl)) <| .nil) ff rfl fun g5 => ⟨_, _, [], rfl, (.cons 8 rfl <| .nil), (.nil), ?_⟩)
  refine zC ?_
  refine J_ret ?_
  refine zQ (.cons (.tmp (Lk.t rfl)) <| .nil) (zM (sb_res1 zL) ?_)
  exact ret_i (by rw [h1'])
 ·have h1' := h1
  try simp only [cmpB, Z] at h1
  refine J_skip ?_
  refine zC ?_
  refine zF (zG [] (
    .n (zA (Lk.t rfl)) <|
    .n (zB (Lk.t rfl)) <| .nil) ff rfl fun g6 => ⟨_, _, [], rfl, (.cons 8 rfl <| .nil), (.nil), ?_⟩)
  refine zC ?_
  refine J_ret ?_
  refine zQ (.cons (.tmp (Lk.t rfl)) <| .nil) (zM (sb_res1 zL) ?_)
  exact ret_i (by rw [h1']; exact put_no)
theorem finf_ok {neg : Bool} : Ct Tryz.prog 132 [dblP, isv (.bool neg)] (isv (.int .u64 ((putW neg 2047 0 : Nat) : Int))) := by
 refine Ct.of Tryz.func132 rfl (by kernel_rfl) rfl fun c0 => ?_
 refine J_to (To.emps 1) ?_
 refine zF (zG [] (
   .w 0 (op_box 0 (Lk.t rfl) co_agg rfl) <|
   .n (zB (Lk.k rfl)) <| .nil) ff rfl fun g1 => ⟨_, _, [0], rfl, (.cons 1 rfl <| .cons 2 rfl <| .nil), (.cons 0 rfl <| .nil), ?_⟩)
 refine zC ?_
 refine zF (zG [] (
   .r 0 (op_get_ag 0 ag161 (Lk.t rfl) rfl zJ rfl rfl) <|
   .n (zA (Lk.t rfl)) <|
   .n (zI fd161_3 (Lk.t rfl) rfl) <|
   .r 0 (zN 0 sc3 (Lk.t rfl) rfl zJ rfl) <|
   .n (op_conv_int it3 it131 (Lk.t rfl) (by decide +kernel : _ = (11 : Int))) <|
   .n (op_shl (Lk.k rfl) (Lk.t rfl) (by omega) (by decide +kernel : _ = (2048 : Int))) <|
   .n (op_sub (Lk.t rfl) (Lk.k rfl) (by decide +kernel : _ = (((2047 : Nat) : Int) : Int))) <|
   .n (zP (fput_ok (n := 2047) (f := 0) (by decide) (by decide)) ⟨(Lk.t rfl), (Lk.t rfl), (Lk.t rfl), (Lk.k rfl),  trivial⟩) <|
   .n (zB (Lk.t rfl)) <| .nil) ff rfl fun g2 => ⟨_, _, [], rfl, (.cons 4 rfl <| .nil), (.nil), ?_⟩)
 refine zC ?_
 refine J_ret ?_
 refine zQ (.cons (.tmp (Lk.t rfl)) <| .nil) (zM (sb_res1 zL) ?_)
 exact zL
theorem fnou_ok {neg : Bool} : Ct Tryz.prog 134 [dblP, isv (.bool neg)] (isv (.int .u64 ((putW neg 0 0 : Nat) : Int))) := by
 refine Ct.of Tryz.func134 rfl (by kernel_rfl) rfl fun c0 => ?_
 refine J_to (To.emps 1) ?_
 refine zF (zG [] (
   .w 0 (op_box 0 (Lk.t rfl) co_agg rfl) <|
   .n (zB (Lk.k rfl)) <| .nil) ff rfl fun g1 => ⟨_, _, [0], rfl, (.cons 1 rfl <| .cons 2 rfl <| .nil), (.cons 0 rfl <| .nil), ?_⟩)
 refine zC ?_
 refine zF (zG [] (
   .r 0 (op_get_ag 0 ag161 (Lk.t rfl) rfl zJ rfl rfl) <|
   .n (zA (Lk.t rfl)) <|
   .n (zP (fput_ok (n := 0) (f := 0) (by decide) (by decide)) ⟨(Lk.t rfl), (Lk.t rfl), (Lk.k rfl), (Lk.k rfl),  trivial⟩) <|
   .n (zB (Lk.t rfl)) <| .nil) ff rfl fun g2 => ⟨_, _, [], rfl, (.cons 4 rfl <| .nil), (.nil), ?_⟩)
 refine zC ?_
 refine J_ret ?_
 refine zQ (.cons (.tmp (Lk.t rfl)) <| .nil) (zM (sb_res1 zL) ?_)
 exact zL
theorem fnone_ok  : Ct Tryz.prog 131 [dblP] (isv (.int .u64 ((NAN : Nat) : Int))) := by
 refine Ct.of Tryz.func131 rfl (by kernel_rfl) rfl fun c0 => ?_
 refine J_to (To.emps 1) ?_
 refine zF (zG [] (
   .w 0 (op_box 0 (Lk.t rfl) co_agg rfl) <|
   .n (zB (Lk.k rfl)) <| .nil) ff rfl fun g1 => ⟨_, _, [0], rfl, (.cons 1 rfl <| .nil), (.cons 0 rfl <| .nil), ?_⟩)
 refine zC ?_
 refine zF ?_
 refine zF (zG [] (
   .n (zI fd161_0 (Lk.t rfl) rfl) <|
   .r 0 (zN 0 sc3 (Lk.t rfl) rfl zJ rfl) <|
   .n (op_cmp (by simp) (Lk.t rfl) (Lk.k rfl) rfl) <| .nil) ff rfl fun g2 => ⟨_, _, [], rfl, (.cons 5 rfl <| .nil), (.nil), ?_⟩)
 refine zC ?_
 refine zH (zK (Lk.t rfl)) (fun h1 => ?_) (fun h1 => ?_)
 ·have h1' := h1
  try simp only [cmpB, Z] at h1
  exact absurd h1 (by decide)
 ·have h1' := h1
  try simp only [cmpB, Z] at h1
  refine J_skip ?_
  refine zC ?_
  refine zF (zG [] (
    .n (zB (Lk.k rfl)) <| .nil) ff rfl fun g3 => ⟨_, _, [], rfl, (.cons 2 rfl <| .nil), (.nil), ?_⟩)
  refine zC ?_
  refine J_ret ?_
  refine zQ (.cons (.tmp (Lk.t rfl)) <| .nil) (zM (sb_res1 zL) ?_)
  exact zL
theorem fover_ok {neg : Bool} : Ct Tryz.prog 144 [dblP, isv (.bool neg), isv (.int .i64 0)] (isv (.int .u64 ((putW neg 2047 0 : Nat) : Int))) := by
 refine Ct.of Tryz.func144 rfl (by kernel_rfl) rfl fun c0 => ?_
 refine J_to (To.emps 1) ?_
 refine zF (zG [] (
   .w 0 (op_box 0 (Lk.t rfl) co_agg rfl) <|
   .n (zB (Lk.k rfl)) <| .nil) ff rfl fun g1 => ⟨_, _, [0], rfl, (.cons 1 rfl <| .cons 2 rfl <| .cons 3 rfl <| .nil), (.cons 0 rfl <| .nil), ?_⟩)
 refine zC ?_
 refine zF ?_
 refine zF (zG [] (
   .n (zA (Lk.t rfl)) <|
   .n (op_cmp (by simp) (Lk.t rfl) (Lk.k rfl) rfl) <|
   .n (zA (Lk.t rfl)) <|
   .n (op_guard rfl rfl (gd_b rfl) (fun hC => (zA (Lk.t rfl)))) <|
   .n (op_guard rfl rfl (gd_b rfl) (fun hC => (op_cmp (by simp) (Lk.w rfl hC) (Lk.k rfl) rfl))) <|
   .n (op_guard rfl rfl (gd_b rfl) (fun hC => (zA (Lk.w rfl hC)))) <|
   .n (op_guard rfl rfl (gd_w rfl) (fun hC => (zA (Lk.t rfl)))) <|
   .n (op_guard rfl rfl (gd_b rfl) (fun hC => (op_and (Lk.w rfl hC) (fun h2 => (Lk.w rfl ⟨hC, h2⟩))))) <|
   .n (op_or (Lk.t rfl) (fun h2 => (Lk.w rfl h2))) <|
   .n (zA (Lk.t rfl)) <|
   .n (op_guard rfl rfl (gd_b rfl) (fun hC => (zA (Lk.t rfl)))) <|
   .n (op_guard rfl rfl (gd_b rfl) (fun hC => (op_cmp (by simp) (Lk.w rfl hC) (Lk.k rfl) rfl))) <|
   .n (op_guard rfl rfl (gd_b rfl) (fun hC => (zA (Lk.w rfl hC)))) <|
   .n (op_guard rfl rfl (gd_w rfl) (fun hC => (zA (Lk.t rfl)))) <|
   .n (op_guard rfl rfl (gd_w rfl) (fun hC => (op_not (Lk.w rfl hC)))) <|
   .n (op_guard rfl rfl (gd_b rfl) (fun hC => (op_and (Lk.w rfl hC) (fun h2 => (Lk.w rfl ⟨hC, h2⟩))))) <|
   .n (op_or (Lk.t rfl) (fun h2 => (Lk.w rfl h2))) <| .nil) ff rfl fun g2 => ⟨_, _, [0], rfl, (.cons 1 rfl <| .cons 3 rfl <| .cons 23 rfl <| .nil), (.cons 0 rfl <| .nil), ?_⟩)
 refine zC ?_
 refine zH (zK (Lk.t rfl)) (fun h1 => ?_) (fun h1 => ?_)
 ·have h1' := h1
  try simp only [cmpB, Z] at h1
  exact absurd h1' (by cases neg <;> decide)
 ·have h1' := h1
  try simp only [cmpB, Z] at h1
  refine J_skip ?_
  refine zC ?_
  refine zF (zG [] (
    .r 0 (op_get_ag 0 ag161 (Lk.t rfl) rfl zJ rfl rfl) <|
    .n (zA (Lk.t rfl)) <|
    .n (zP (finf_ok) ⟨(Lk.t rfl), (Lk.t rfl),  trivial⟩) <|
    .n (zB (Lk.t rfl)) <| .nil) ff rfl fun g3 => ⟨_, _, [], rfl, (.cons 6 rfl <| .nil), (.nil), ?_⟩)
  refine zC ?_
  refine J_ret ?_
  refine zQ (.cons (.tmp (Lk.t rfl)) <| .nil) (zM (sb_res1 zL) ?_)
  exact zL
theorem nzero_ok {n : Nm} : Ct Tryz.prog 133 [numP n] (isv (.bool (decide (n.k = 0) && decide (signI (n.m : Int) = 0)))) := by
 refine Ct.of Tryz.func133 rfl (by kernel_rfl) rfl fun c0 => ?_
 refine J_to (To.emps 1) ?_
 refine zF (zG [] (
   .w 0 (op_box 0 (Lk.t rfl) co_agg rfl) <|
   .n (zB (Lk.k rfl)) <| .nil) ff rfl fun g1 => ⟨_, _, [0], rfl, (.cons 1 rfl <| .nil), (.cons 0 rfl <| .nil), ?_⟩)
 refine zC ?_
 refine zF (zG [] (
   .n (zI fd159_0 (Lk.t rfl) rfl) <|
   .r 0 (zN 0 sc3 (Lk.t rfl) rfl zJ rfl) <|
   .n (op_cmp (by simp) (Lk.t rfl) (Lk.k rfl) rfl) <|
   .n (zA (Lk.t rfl)) <|
   .n (op_guard rfl rfl (gd_b rfl) (fun hC => (zI fd159_2 (Lk.t rfl) rfl))) <|
   .r 0 (op_guard rfl rfl (gd_b rfl) (fun hC => (zN 0 sc39 (Lk.w rfl hC) rfl zJ rfl))) <|
   .n (op_guard rfl rfl (gd_b rfl) (fun hC => (zP (isign_ok) ⟨(Lk.w rfl hC),  trivial⟩))) <|
   .n (op_guard rfl rfl (gd_b rfl) (fun hC => (op_cmp (by simp) (Lk.w rfl hC) (Lk.k rfl) rfl))) <|
   .n (op_and (Lk.t rfl) (fun h2 => (Lk.w rfl h2))) <|
   .n (zB (Lk.t rfl)) <| .nil) ff rfl fun g2 => ⟨_, _, [], rfl, (.cons 2 rfl <| .nil), (.nil), ?_⟩)
 refine zC ?_
 refine J_ret ?_
 refine zQ (.cons (.tmp (Lk.t rfl)) <| .nil) (zM (sb_res1 zL) ?_)
 exact ret_b rfl
theorem goup_ok {neg : Bool} {q : Nat} {c : Int} (hq : Sml (q : Int)) : Ct Tryz.prog 142 [isv (.bool neg), intP (q : Int), isv (.int .i64 c), isv (.int .i64 0)] (isv (.bool (upB q c))) := by
 refine Ct.of Tryz.func142 rfl (by kernel_rfl) rfl fun c0 => ?_
 refine zF (zG [] (
   .n (zB (Lk.k rfl)) <| .nil) ff rfl fun g1 => ⟨_, _, [], rfl, (.cons 0 rfl <| .cons 1 rfl <| .cons 2 rfl <| .cons 3 rfl <| .nil), (.nil), ?_⟩)
 refine zC ?_
 refine zF ?_
 refine zF (zG [] (
   .n (zA (Lk.t rfl)) <| .nil) ff rfl fun g2 => ⟨_, _, [], rfl, (.cons 0 rfl <| .cons 1 rfl <| .cons 2 rfl <| .cons 9 rfl <| .nil), (.nil), ?_⟩)
 refine zC ?_
 refine zT ?_
 refine zF (zG [] (
   .n (op_cmp (by simp) (Lk.t rfl) (Lk.k rfl) rfl) <|
   .n (zB (Lk.t rfl)) <| .nil) ff rfl fun g3 => ⟨_, _, [], rfl, (.cons 0 rfl <| .cons 1 rfl <| .cons 2 rfl <| .cons 9 rfl <| .cons 10 rfl <| .nil), (.nil), ?_⟩)
 refine zC ?_
 refine zH (zK (Lk.t rfl)) (fun h1 => ?_) (fun h1 => ?_)
 ·have h1' := h1
  try simp only [cmpB, Z] at h1
  refine zF (zG [] (
    .n (zA (Lk.t rfl)) <|
    .n (op_cmp (by simp) (Lk.t rfl) (Lk.k rfl) rfl) <|
    .n (zA (Lk.t rfl)) <|
    .n (op_guard rfl rfl (gd_b rfl) (fun hC => (zA (Lk.t rfl)))) <|
    .n (op_guard rfl rfl (gd_b rfl) (fun hC => (op_cmp (by simp) (Lk.w rfl hC) (Lk.k rfl) rfl))) <|
    .n (op_guard rfl rfl (gd_b rfl) (fun hC => (zA (Lk.w rfl hC)))) <|
    .n (op_guard rfl rfl (gd_w rfl) (fun hC => (zA (Lk.t rfl)))) <|
    .n (op_guard rfl rfl (gd_w rfl) (fun hC => (zP (ibit_ok (by assumption)) ⟨(Lk.w rfl hC), (Lk.k rfl),  trivial⟩))) <|
    .n (op_guard rfl rfl (gd_w rfl) (fun hC => (op_cmp (by simp) (Lk.w rfl hC) (Lk.k rfl) rfl))) <|
    .n (op_guard rfl rfl (gd_b rfl) (fun hC => (op_and (Lk.w rfl hC) (fun h2 => (Lk.w rfl ⟨hC, h2⟩))))) <|
    .n (op_or (Lk.t rfl) (fun h2 => (Lk.w rfl h2))) <|
    .n (zB (Lk.t rfl)) <| .nil) ff rfl fun g4 => ⟨_, _, [], rfl, (.cons 8 rfl <| .nil), (.nil), ?_⟩)
  refine zC ?_
  refine J_ret ?_
  refine JN_block_ret ?_
  refine zD ?_
  refine zQ (.cons (.tmp (Lk.t rfl)) <| .nil) (zM (sb_res1 zL) ?_)
  exact ret_b (up_eq q c)
 ·have h1' := h1
  try simp only [cmpB, Z] at h1
  exact absurd h1 (by decide)
theorem cutF_ok {m s : Nat} (hm : m < 18446744073709551616) (hs : 1 ≤ s) (hs2 : s ≤ 30000) : CtF Tryz.prog 141 [intP (m : Int), isv (.int .i64 (s : Int)), isv (.bool false)] (tp0) (fun u => tupp [ipo u 0, isv (.int .i64 (cutC m s))]) (fun u => blk u (intC ((m / 2 ^ s : Nat) : Int)) 96) := by
 refine CtF.of Tryz.func141 rfl (by kernel_rfl) rfl fun c0 => ?_
 have hml : Sml (m : Int) := sml_of (by omega)
 have hdm : m / 2 ^ s ≤ m := Nat.div_le_self _ _
 have hrm : m % 2 ^ s ≤ m := Nat.mod_le _ _
 have hqs := sml_low m s hm
 have hqm : Sml ((m / 2 ^ s : Nat) : Int) := sml_of (by rw [Int.natAbs_natCast]; omega)
 refine zF (zG [] (
   .n (zB (Lk.k rfl)) <|
   .n (zB (Lk.k rfl)) <| .nil) ff rfl fun g1 => ⟨_, _, [], rfl, (.cons 0 rfl <| .cons 1 rfl <| .cons 2 rfl <| .nil), (.nil), ?_⟩)
 refine zC ?_
 refine J_to (To.emps 1) ?_
 refine zF (zG [] (
   .w 0 (op_alloc 0 zr96 rfl rfl) <|
   .n (zA (Lk.t rfl)) <|
   .n (zA (Lk.t rfl)) <|
   .n (op_conv_int it3 it131 (Lk.t rfl) (wr64 (by omega) (by omega))) <|
   .w 0 (op_callMp 0 rfl rfl (fun u => irsh_ok hml (by omega)) rfl ⟨(Lk.t rfl), (Lk.t rfl),  trivial⟩) <|
   .n (op_assign_ve rfl rfl) <| .nil) ff rfl fun g2 => ⟨_, _, [0], rfl, (.cons 0 rfl <| .cons 1 rfl <| .cons 2 rfl <| .cons 8 rfl <| .nil), (.cons 0 rfl <| .nil), ?_⟩)
 refine zC ?_
 refine J_to (To.emps 2) ?_
 refine zF (J_JO ?_)
 refine JO_split 6 rfl ?_
 refine (JO_reg (
   .w 1 (op_alloc 1 zr96 rfl rfl) <|
   .n (zA (Lk.t rfl)) <|
   .w 2 (op_alloc 2 zr96 rfl rfl) <|
   .n (zA (Lk.t rfl)) <|
   .n (zA (Lk.t rfl)) <|
   .n (op_conv_int it3 it131 (Lk.t rfl) (wr64 (by omega) (by omega))) <| .nil) rfl fun g3 => ⟨_, _, [0, 1, 2], rfl, (.cons 1 rfl <| .cons 2 rfl <| .cons 8 rfl <| .cons 16 rfl <| .cons 17 rfl <| .cons 18 rfl <| .cons 19 rfl <| .cons 21 rfl <| .nil), (.cons 0 rfl <| .cons 1 rfl <| .cons 2 rfl <| .nil), ?_⟩)
 refine JN_to (To.join 2 0 rfl rfl rfl rfl) ?_
 refine JN_seg ?_
 refine JO_split 1 rfl ?_
 refine (JO_reg (
   .w 2 (op_callM 2 (ilshB_ok (x := ((m / 2 ^ s : Nat) : Int)) (n := s) hqm (by omega)) ⟨(Lk.t rfl), (Lk.t rfl), (Lk.t rfl), trivial⟩ rfl) <| .nil) rfl fun g4 => ⟨_, _, [1, 2], rfl, (.cons 1 rfl <| .cons 2 rfl <| .cons 8 rfl <| .cons 16 rfl <| .cons 17 rfl <| .cons 22 rfl <| .nil), (.cons 1 rfl <| .cons 2 rfl <| .nil), ?_⟩)
 refine JN_to (To.emps 1) ?_
 refine JN_to (To.split 1 2 rfl rfl rfl rfl) ?_
 refine JN_to (To.freeze 1 (fun _ h => h) rfl frz_blk rfl) ?_
 refine JN_seg ?_
 refine (JO_reg (
   .w 0 (op_callM 0 (isub_ok hml hqs) ⟨(Lk.t rfl), (Lk.t rfl), (Lk.sub (sb_ok 0 2 rfl rfl) (Lk.t rfl)),  trivial⟩ rfl) <|
   .n (zB (Lk.t rfl)) <| .nil) rfl fun g5 => ⟨_, _, [0, 2], rfl, (.cons 1 rfl <| .cons 2 rfl <| .cons 8 rfl <| .cons 9 rfl <| .nil), (.cons 0 rfl <| .cons 2 rfl <| .nil), ?_⟩)
 refine zC ?_
 refine zF ?_
 refine J_to (To.res 0 (r' := blk (g3 16) (intC (((m % 2 ^ s : Nat) : Int))) 96) rfl (res_eq (by rw [low_rest])) rfl) ?_
 refine zF (zG [] (
   .n (zA (Lk.t rfl)) <|
   .n (op_cmp (by simp) (Lk.t rfl) (Lk.k rfl) rfl) <| .nil) ff rfl fun g6 => ⟨_, _, [0, 1], rfl, (.cons 1 rfl <| .cons 2 rfl <| .cons 8 rfl <| .cons 9 rfl <| .cons 25 rfl <| .nil), (.cons 0 rfl <| .cons 1 rfl <| .nil), ?_⟩)
 refine zC ?_
 refine zH (zK (Lk.t rfl)) (fun h1 => ?_) (fun h1 => ?_)
 ·have h1' := h1
  try simp only [cmpB, Z] at h1
  exact absurd h1 (by omega)
 ·have h1' := h1
  try simp only [cmpB, Z] at h1
  refine J_skip ?_
  refine zC ?_
  refine zF ?_
  refine J_to (To.freeze 0 (fun _ h => h) rfl frz_blk rfl) ?_
  refine zF (zG [] (
    .n (zA (Lk.t rfl)) <|
    .n (zP (isign_ok) ⟨(Lk.sub (sb_ok 0 2 rfl rfl) (Lk.t rfl)),  trivial⟩) <|
    .n (op_cmp (by simp) (Lk.t rfl) (Lk.k rfl) rfl) <|
    .n (zA (Lk.t rfl)) <|
    .n (op_guard rfl rfl (gd_b rfl) (fun hC => (zA (Lk.t rfl)))) <|
    .n (op_guard rfl rfl (gd_b rfl) (fun hC => (op_not (Lk.w rfl hC)))) <|
    .n (op_and (Lk.t rfl) (fun h2 => (Lk.w rfl h2))) <| .nil) ff rfl fun g7 => ⟨_, _, [1], rfl, (.cons 1 rfl <| .cons 2 rfl <| .cons 8 rfl <| .cons 9 rfl <| .cons 35 rfl <| .nil), (.cons 1 rfl <| .nil), ?_⟩)
  refine zC ?_
  refine zH (zK (Lk.t rfl)) (fun h2 => ?_) (fun h2 => ?_)
  ·have h2' := h2
   try simp only [cmpB, Z] at h2
   have hz : m % 2 ^ s = 0 := by have := signI_zero.1 (show signI ((m % 2 ^ s : Nat) : Int) = 0 by simpa using h2); omega
   refine zF (zG [] (
     .n (zA (Lk.t rfl)) <|
     .n (zB (Lk.t rfl)) <|
     .n (zB (Lk.k rfl)) <| .nil) ff rfl fun g8 => ⟨_, _, [0], rfl, (.cons 6 rfl <| .cons 7 rfl <| .nil), (.cons 0 rfl <| .nil), ?_⟩)
   refine zC ?_
   refine J_ret ?_
   refine zD ?_
   refine JN_to (To.isq 0 6 rfl rfl) ?_
   refine JN_retF2 (u := (g2 15)) 0 rfl rfl (.cons (.tmp (Lk.t rfl)) <| .cons (.tmp (Lk.t rfl)) <| .nil) (fun v1 v2 c h => h.1) ?_
   exact sb_tup (.cons sb_isq <| .cons (sb_eq (by rw [cutC_no hz])) <| .nil)
  ·have h2' := h2
   try simp only [cmpB, Z] at h2
   have hz : ¬ m % 2 ^ s = 0 := fun h => absurd h2' (by rw [h]; decide)
   refine J_skip ?_
   refine zC ?_
   refine J_to (To.emps 1) ?_
   refine zF (J_JO ?_)
   refine JO_split 7 rfl ?_
   refine (JO_reg (
     .n (zA (Lk.t rfl)) <|
     .w 1 (op_alloc 1 zr96 rfl rfl) <|
     .n (zP (newint_ok (n := 1) (by omega)) ⟨(Lk.k rfl),  trivial⟩) <|
     .n (zA (Lk.t rfl)) <|
     .n (op_sub (Lk.t rfl) (Lk.k rfl) (zO (by omega) (by omega))) <|
     .n (op_conv_int it3 it131 (Lk.t rfl) (show IntKind.u64.wrap ((s : Int) - 1) = ((s - 1 : Nat) : Int) by rw [wr64 (by omega) (by omega)]; omega)) <|
     .w 1 (op_callMp 1 rfl rfl (fun u => ilsh_ok (x := 1) (n := s - 1) (sml_of (by decide)) (by omega)) rfl ⟨(Lk.t rfl), (Lk.t rfl),  trivial⟩) <| .nil) rfl fun g9 => ⟨_, _, [0, 1], rfl, (.cons 2 rfl <| .cons 8 rfl <| .cons 37 rfl <| .cons 43 rfl <| .nil), (.cons 0 rfl <| .cons 1 rfl <| .nil), ?_⟩)
   refine JN_to (To.res 1 (r' := blk (g9 43) (intC (((2 ^ (s - 1) : Nat) : Int))) 96) rfl (res_eq (by rw [half_nat])) rfl) ?_
   refine JN_to (To.freeze 1 (fun _ h => h) rfl frz_blk rfl) ?_
   refine JN_seg ?_
   refine (JO_reg (
     .n (zP (icmp_ok) ⟨(Lk.sub (sb_ok 1 2 rfl rfl) (Lk.t rfl)), (Lk.sub (sb_ok 0 2 rfl rfl) (Lk.t rfl)),  trivial⟩) <|
     .n (zB (Lk.t rfl)) <| .nil) rfl fun g10 => ⟨_, _, [0], rfl, (.cons 2 rfl <| .cons 8 rfl <| .cons 10 rfl <| .nil), (.cons 0 rfl <| .nil), ?_⟩)
   refine zC ?_
   refine zF ?_
   refine zF (zG [] (
     .n (zA (Lk.t rfl)) <|
     .n (op_cmp (by simp) (Lk.t rfl) (Lk.k rfl) rfl) <|
     .n (zA (Lk.t rfl)) <|
     .n (op_guard rfl rfl (gd_b rfl) (fun hC => (zA (Lk.t rfl)))) <|
     .n (op_and (Lk.t rfl) (fun h2 => (Lk.w rfl h2))) <| .nil) ff rfl fun g11 => ⟨_, _, [0], rfl, (.cons 8 rfl <| .cons 10 rfl <| .cons 49 rfl <| .nil), (.cons 0 rfl <| .nil), ?_⟩)
   refine zC ?_
   refine zH (zK (Lk.t rfl)) (fun h3 => ?_) (fun h3 => ?_)
   ·have h3' := h3
    try simp only [cmpB, Z] at h3
    exact absurd h3 (by simp)
   ·have h3' := h3
    try simp only [cmpB, Z] at h3
    refine J_skip ?_
    refine zC ?_
    refine zF (zG [] (
      .n (zA (Lk.t rfl)) <|
      .n (zA (Lk.t rfl)) <|
      .n (zB (Lk.t rfl)) <|
      .n (zB (Lk.t rfl)) <| .nil) ff rfl fun g12 => ⟨_, _, [0], rfl, (.cons 6 rfl <| .cons 7 rfl <| .nil), (.cons 0 rfl <| .nil), ?_⟩)
    refine zC ?_
    refine J_ret ?_
    refine JN_to (To.isq 0 6 rfl rfl) ?_
    refine JN_retF2 (u := (g2 15)) 0 rfl rfl (.cons (.tmp (Lk.t rfl)) <| .cons (.tmp (Lk.t rfl)) <| .nil) (fun v1 v2 c h => h.1) ?_
    exact sb_tup (.cons sb_isq <| .cons (sb_eq (by rw [cutC_yes hz])) <| .nil)
end Go.Proofs.YtllkellonjhalaaGreat
