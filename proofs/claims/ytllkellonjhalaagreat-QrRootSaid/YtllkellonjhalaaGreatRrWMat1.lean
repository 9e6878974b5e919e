/- Printed by a program of ours (walk.py): walks of the matrix package, its inner functions. -/
import Derived.Test.YtllkellonjhalaaGreatRrKb
import Derived.Test.YtllkellonjhalaaGreatProg
import Derived.KernelRfl
import Derived.Test.YtllkellonjhalaaGreatRrTypes
import Derived.Test.YtllkellonjhalaaGreatRrWRef1
import Derived.Test.YtllkellonjhalaaGreatRrKc
set_option linter.unusedVariables false
set_option linter.unusedSimpArgs false
set_option maxRecDepth 20000
set_option maxHeartbeats 1000000
namespace Go.Proofs.YtllkellonjhalaaGreat
open Go Go.Bn
attribute [local irreducible] OpOK
theorem size_ok {n : Int} : Ct Tryz.prog 79 [isv (.int .i64 n)] (isv (.bool (sizB n))) := by
 refine Ct.of Tryz.func79 rfl (by kernel_rfl) rfl fun c0 => ?_
 refine zF (zG [] (
   .n (zB (Lk.k rfl)) <| .nil) ff rfl fun g1 => ⟨_, _, [], rfl, (.cons 0 rfl <| .nil), (.nil), ?_⟩)
 refine zC ?_
 refine zF (zG [] (
   .n (zA (Lk.t rfl)) <|
   .n (op_cmp (by simp) (Lk.t rfl) (Lk.k rfl) rfl) <|
   .n (zA (Lk.t rfl)) <|
   .n (op_guard rfl rfl (gd_b rfl) (fun hC => (zA (Lk.t rfl)))) <|
   .n (op_guard rfl rfl (gd_b rfl) (fun hC => (op_cmp (by simp) (Lk.w rfl hC) (Lk.k rfl) rfl))) <|
   .n (op_and (Lk.t rfl) (fun h2 => (Lk.w rfl h2))) <|
   .n (zB (Lk.t rfl)) <| .nil) ff rfl fun g2 => ⟨_, _, [], rfl, (.cons 2 rfl <| .nil), (.nil), ?_⟩)
 refine zC ?_
 refine J_ret ?_
 refine zQ (.cons (.tmp (Lk.t rfl)) <| .nil) (zM (sb_res1 zL) ?_)
 exact ret_b (by unfold sizB cmpB; rfl)
theorem chk_ok {r c : Int} {xs : List Nat} : Ct Tryz.prog 36 [MatP r c xs] (isv (.int .i64 (chk r c xs))) := by
 refine Ct.of Tryz.func36 rfl (by kernel_rfl) rfl fun c0 => ?_
 refine J_to (To.emps 1) ?_
 refine zF (zG [] (
   .w 0 (op_box 0 (Lk.t rfl) co_agg rfl) <|
   .n (zB (Lk.k rfl)) <| .nil) ff rfl fun g1 => ⟨_, _, [0], rfl, (.cons 1 rfl <| .nil), (.cons 0 rfl <| .nil), ?_⟩)
 refine zC ?_
 refine zF ?_
 refine zT ?_
 refine zF (zG [] (
   .n (zI fd28_0 (Lk.t rfl) rfl) <|
   .r 0 (zN 0 sc3 (Lk.t rfl) rfl zJ rfl) <|
   .n (zP (size_ok) ⟨(Lk.t rfl),  trivial⟩) <|
   .n (op_not (Lk.t rfl)) <|
   .n (zA (Lk.t rfl)) <|
   .n (op_guard rfl rfl (gd_b rfl) (fun hC => (zI fd28_1 (Lk.t rfl) rfl))) <|
   .r 0 (op_guard rfl rfl (gd_b rfl) (fun hC => (zN 0 sc3 (Lk.w rfl hC) rfl zJ rfl))) <|
   .n (op_guard rfl rfl (gd_b rfl) (fun hC => (zP (size_ok) ⟨(Lk.w rfl hC),  trivial⟩))) <|
   .n (op_guard rfl rfl (gd_b rfl) (fun hC => (op_not (Lk.w rfl hC)))) <|
   .n (op_or (Lk.t rfl) (fun h2 => (Lk.w rfl h2))) <|
   .n (zB (Lk.t rfl)) <| .nil) ff rfl fun g2 => ⟨_, _, [0], rfl, (.cons 1 rfl <| .cons 3 rfl <| .nil), (.cons 0 rfl <| .nil), ?_⟩)
 refine zC ?_
 refine zH (zK (Lk.t rfl)) (fun h1 => ?_) (fun h1 => ?_)
 ·have h1' := h1
  try simp only [cmpB, Z] at h1
  refine zF (zG [] (
    .n (zB (Lk.k rfl)) <| .nil) ff rfl fun g3 => ⟨_, _, [], rfl, (.cons 2 rfl <| .nil), (.nil), ?_⟩)
  refine zC ?_
  refine J_ret ?_
  refine JN_block_ret ?_
  refine zD ?_
  refine zQ (.cons (.tmp (Lk.t rfl)) <| .nil) (zM (sb_res1 zL) ?_)
  exact ret_i (by unfold chk; rw [if_pos h1])
 ·have h1' := h1
  try simp only [cmpB, Z] at h1
  have hm := (sizT h1).mul
  refine zF (zG [] (
    .n (zI fd28_2 (Lk.t rfl) rfl) <|
    .r 0 (zN 0 sc26 (Lk.t rfl) rfl zJ rfl) <|
    .n (op_len_m sl26 (Lk.t rfl)) <|
    .n (zI fd28_0 (Lk.t rfl) rfl) <|
    .r 0 (zN 0 sc3 (Lk.t rfl) rfl zJ rfl) <|
    .n (zI fd28_1 (Lk.t rfl) rfl) <|
    .r 0 (zN 0 sc3 (Lk.t rfl) rfl zJ rfl) <|
    .n (op_mul (Lk.t rfl) (Lk.t rfl) (zO (by omega) (by omega))) <|
    .n (op_cmp (by simp) (Lk.t rfl) (Lk.t rfl) rfl) <|
    .n (zB (Lk.t rfl)) <| .nil) ff rfl fun g4 => ⟨_, _, [0], rfl, (.cons 1 rfl <| .cons 14 rfl <| .nil), (.cons 0 rfl <| .nil), ?_⟩)
  refine zC ?_
  refine zH (zK (Lk.t rfl)) (fun h2 => ?_) (fun h2 => ?_)
  ·have h2' := h2
   try simp only [cmpB, Z] at h2
   refine zF (zG [] (
     .n (zB (Lk.k rfl)) <| .nil) ff rfl fun g5 => ⟨_, _, [], rfl, (.cons 2 rfl <| .nil), (.nil), ?_⟩)
   refine zC ?_
   refine J_ret ?_
   refine JN_block_ret ?_
   refine zD ?_
   refine zQ (.cons (.tmp (Lk.t rfl)) <| .nil) (zM (sb_res1 zL) ?_)
   exact ret_i (by unfold chk; rw [if_neg (by simp [h1]), if_pos h2])
  ·have h2' := h2
   try simp only [cmpB, Z] at h2
   refine zF (zG [] (
     .n (zI fd28_2 (Lk.t rfl) rfl) <|
     .r 0 (zN 0 sc26 (Lk.t rfl) rfl zJ rfl) <|
     .n (zP (finite_ok) ⟨(Lk.t rfl),  trivial⟩) <|
     .n (op_not (Lk.t rfl)) <|
     .n (zB (Lk.t rfl)) <| .nil) ff rfl fun g6 => ⟨_, _, [], rfl, (.cons 24 rfl <| .nil), (.nil), ?_⟩)
   refine zC ?_
   refine zH (zK (Lk.t rfl)) (fun h3 => ?_) (fun h3 => ?_)
   ·have h3' := h3
    try simp only [cmpB, Z] at h3
    refine zF (zG [] (
      .n (zB (Lk.k rfl)) <| .nil) ff rfl fun g7 => ⟨_, _, [], rfl, (.cons 2 rfl <| .nil), (.nil), ?_⟩)
    refine zC ?_
    refine J_ret ?_
    refine JN_block_ret ?_
    refine zD ?_
    refine zQ (.cons (.tmp (Lk.t rfl)) <| .nil) (zM (sb_res1 zL) ?_)
    exact ret_i (by unfold chk; rw [if_neg (by simp [h1]), if_neg (by simpa using h2), if_pos h3])
   ·have h3' := h3
    try simp only [cmpB, Z] at h3
    refine J_skip ?_
    refine zR ?_
    refine zC ?_
    refine zF (zG [] (
      .n (zB (Lk.k rfl)) <| .nil) ff rfl fun g8 => ⟨_, _, [], rfl, (.cons 2 rfl <| .nil), (.nil), ?_⟩)
    refine zC ?_
    refine J_ret ?_
    refine zQ (.cons (.tmp (Lk.t rfl)) <| .nil) (zM (sb_res1 zL) ?_)
    exact ret_i (by unfold chk; rw [if_neg (by simp [h1]), if_neg (by simpa using h2), if_neg (by simp [h3])])
end Go.Proofs.YtllkellonjhalaaGreat
