/- Printed by a program of ours (walk.py): walks of the eighth reference. -/
import Derived.Test.YtllkellonjhalaaGreatRrKb
import Derived.Test.YtllkellonjhalaaGreatProg
import Derived.KernelRfl
import Derived.Test.YtllkellonjhalaaGreatRrTypes
import Derived.Test.YtllkellonjhalaaGreatRrWLaw1
import Derived.Test.YtllkellonjhalaaGreatRrKc
set_option linter.unusedVariables false
set_option linter.unusedSimpArgs false
set_option maxRecDepth 20000
set_option maxHeartbeats 1000000
namespace Go.Proofs.YtllkellonjhalaaGreat
open Go Go.Bn
attribute [local irreducible] OpOK
theorem rif_ok {b : Bool} {e : Int} : Ct Tryz.prog 72 [isv (.bool b), isv (.int .i64 e)] (isv (.int .i64 (whenE b e))) := by
 refine Ct.of Tryz.func72 rfl (by kernel_rfl) rfl fun c0 => ?_
 refine zF (zG [] (
   .n (zB (Lk.k rfl)) <| .nil) ff rfl fun g1 => ⟨_, _, [], rfl, (.cons 0 rfl <| .cons 1 rfl <| .nil), (.nil), ?_⟩)
 refine zC ?_
 refine zF ?_
 refine zF (zG [] (
   .n (zA (Lk.t rfl)) <| .nil) ff rfl fun g2 => ⟨_, _, [], rfl, (.cons 1 rfl <| .cons 5 rfl <| .nil), (.nil), ?_⟩)
 refine zC ?_
 refine zH (zK (Lk.t rfl)) (fun h1 => ?_) (fun h1 => ?_)
 ·have h1' := h1
  try simp only [cmpB, Z] at h1
  refine zF (zG [] (
    .n (zA (Lk.t rfl)) <|
    .n (zB (Lk.t rfl)) <| .nil) ff rfl fun g3 => ⟨_, _, [], rfl, (.cons 4 rfl <| .nil), (.nil), ?_⟩)
  refine zC ?_
  refine J_ret ?_
  refine zD ?_
  refine zQ (.cons (.tmp (Lk.t rfl)) <| .nil) (zM (sb_res1 zL) ?_)
  exact ret_i (by rw [h1]; rfl)
 ·have h1' := h1
  try simp only [cmpB, Z] at h1
  refine J_skip ?_
  refine zC ?_
  refine zF (zG [] (
    .n (zB (Lk.k rfl)) <| .nil) ff rfl fun g4 => ⟨_, _, [], rfl, (.cons 4 rfl <| .nil), (.nil), ?_⟩)
  refine zC ?_
  refine J_ret ?_
  refine zQ (.cons (.tmp (Lk.t rfl)) <| .nil) (zM (sb_res1 zL) ?_)
  exact ret_i (by rw [h1]; rfl)
theorem rchk_ok {r c : Int} {xs : List Nat} : Ct Tryz.prog 59 [MatP r c xs] (isv (.int .i64 (chk r c xs))) := by
 refine Ct.of Tryz.func59 rfl (by kernel_rfl) rfl fun c0 => ?_
 refine J_to (To.emps 1) ?_
 refine zF (zG [] (
   .w 0 (op_box 0 (Lk.t rfl) co_agg rfl) <|
   .n (zB (Lk.k rfl)) <| .nil) ff rfl fun g1 => ⟨_, _, [0], rfl, (.cons 1 rfl <| .nil), (.cons 0 rfl <| .nil), ?_⟩)
 refine zC ?_
 refine zF ?_
 refine zF (zG [] (
   .n (zI fd28_0 (Lk.t rfl) rfl) <|
   .r 0 (zN 0 sc3 (Lk.t rfl) rfl zJ rfl) <|
   .n (op_cmp (by simp) (Lk.t rfl) (Lk.k rfl) rfl) <|
   .n (zA (Lk.t rfl)) <|
   .n (op_guard rfl rfl (gd_b rfl) (fun hC => (zI fd28_0 (Lk.t rfl) rfl))) <|
   .r 0 (op_guard rfl rfl (gd_b rfl) (fun hC => (zN 0 sc3 (Lk.w rfl hC) rfl zJ rfl))) <|
   .n (op_guard rfl rfl (gd_b rfl) (fun hC => (op_cmp (by simp) (Lk.w rfl hC) (Lk.k rfl) rfl))) <|
   .n (op_or (Lk.t rfl) (fun h2 => (Lk.w rfl h2))) <|
   .n (zA (Lk.t rfl)) <|
   .n (op_guard rfl rfl (gd_b rfl) (fun hC => (zI fd28_1 (Lk.t rfl) rfl))) <|
   .r 0 (op_guard rfl rfl (gd_b rfl) (fun hC => (zN 0 sc3 (Lk.w rfl hC) rfl zJ rfl))) <|
   .n (op_guard rfl rfl (gd_b rfl) (fun hC => (op_cmp (by simp) (Lk.w rfl hC) (Lk.k rfl) rfl))) <|
   .n (op_or (Lk.t rfl) (fun h2 => (Lk.w rfl h2))) <|
   .n (zA (Lk.t rfl)) <|
   .n (op_guard rfl rfl (gd_b rfl) (fun hC => (zI fd28_1 (Lk.t rfl) rfl))) <|
   .r 0 (op_guard rfl rfl (gd_b rfl) (fun hC => (zN 0 sc3 (Lk.w rfl hC) rfl zJ rfl))) <|
   .n (op_guard rfl rfl (gd_b rfl) (fun hC => (op_cmp (by simp) (Lk.w rfl hC) (Lk.k rfl) rfl))) <|
   .n (op_or (Lk.t rfl) (fun h2 => (Lk.w rfl h2))) <| .nil) ff rfl fun g2 => ⟨_, _, [0], rfl, (.cons 1 rfl <| .cons 20 rfl <| .nil), (.cons 0 rfl <| .nil), ?_⟩)
 refine zC ?_
 refine zH (zK (Lk.t rfl)) (fun h1 => ?_) (fun h1 => ?_)
 ·have h1' := h1
  try simp only [cmpB, Z] at h1
  refine zF (zG [] (
    .n (zB (Lk.k rfl)) <| .nil) ff rfl fun g3 => ⟨_, _, [], rfl, (.cons 2 rfl <| .nil), (.nil), ?_⟩)
  refine zC ?_
  refine J_ret ?_
  refine zD ?_
  refine zQ (.cons (.tmp (Lk.t rfl)) <| .nil) (zM (sb_res1 zL) ?_)
  exact ret_i (by unfold chk; rw [if_pos]; have h3 := @sizB_iff r; have h4 := @sizB_iff c; cases e1 : sizB r <;> cases e2 : sizB c <;> simp only [e1, e2] at h3 h4 ⊢ <;> simp at h3 h4 ⊢ <;> omega)
 ·have h1' := h1
  try simp only [cmpB, Z] at h1
  have hz : Siz r c := by unfold Siz; omega
  have hm := hz.mul
  have hsr : sizB r = true := sizB_iff.2 ⟨hz.1, hz.2.1⟩
  have hsc : sizB c = true := sizB_iff.2 ⟨hz.2.2.1, hz.2.2.2⟩
  refine J_skip ?_
  refine zC ?_
  refine zF ?_
  refine zF (zG [] (
    .n (zI fd28_2 (Lk.t rfl) rfl) <|
    .r 0 (zN 0 sc26 (Lk.t rfl) rfl zJ rfl) <|
    .n (op_len_m sl26 (Lk.t rfl)) <|
    .n (zI fd28_0 (Lk.t rfl) rfl) <|
    .r 0 (zN 0 sc3 (Lk.t rfl) rfl zJ rfl) <|
    .n (zI fd28_1 (Lk.t rfl) rfl) <|
    .r 0 (zN 0 sc3 (Lk.t rfl) rfl zJ rfl) <|
    .n (op_mul (Lk.t rfl) (Lk.t rfl) (zO (by omega) (by omega))) <|
    .n (op_cmp (by simp) (Lk.t rfl) (Lk.t rfl) rfl) <| .nil) ff rfl fun g4 => ⟨_, _, [0], rfl, (.cons 1 rfl <| .cons 29 rfl <| .nil), (.cons 0 rfl <| .nil), ?_⟩)
  refine zC ?_
  refine zH (zK (Lk.t rfl)) (fun h2 => ?_) (fun h2 => ?_)
  ·have h2' := h2
   try simp only [cmpB, Z] at h2
   refine zF (zG [] (
     .n (zB (Lk.k rfl)) <| .nil) ff rfl fun g5 => ⟨_, _, [], rfl, (.cons 2 rfl <| .nil), (.nil), ?_⟩)
   refine zC ?_
   refine J_ret ?_
   refine zD ?_
   refine zQ (.cons (.tmp (Lk.t rfl)) <| .nil) (zM (sb_res1 zL) ?_)
   exact ret_i (by unfold chk; rw [if_neg (by simp [hsr, hsc]), if_pos h2])
  ·have h2' := h2
   try simp only [cmpB, Z] at h2
   refine J_skip ?_
   refine zC ?_
   refine zF ?_
   refine zF (zG [] (
     .n (zI fd28_2 (Lk.t rfl) rfl) <|
     .r 0 (zN 0 sc26 (Lk.t rfl) rfl zJ rfl) <|
     .n (zP (rall_ok) ⟨(Lk.t rfl),  trivial⟩) <|
     .n (op_not (Lk.t rfl)) <| .nil) ff rfl fun g6 => ⟨_, _, [], rfl, (.cons 33 rfl <| .nil), (.nil), ?_⟩)
   refine zC ?_
   refine zH (zK (Lk.t rfl)) (fun h3 => ?_) (fun h3 => ?_)
   ·have h3' := h3
    try simp only [cmpB, Z] at h3
    refine zF (zG [] (
      .n (zB (Lk.k rfl)) <| .nil) ff rfl fun g7 => ⟨_, _, [], rfl, (.cons 2 rfl <| .nil), (.nil), ?_⟩)
    refine zC ?_
    refine J_ret ?_
    refine zD ?_
    refine zQ (.cons (.tmp (Lk.t rfl)) <| .nil) (zM (sb_res1 zL) ?_)
    exact ret_i (by unfold chk; rw [if_neg (by simp [hsr, hsc]), if_neg (by simpa using h2), if_pos h3])
   ·have h3' := h3
    try simp only [cmpB, Z] at h3
    refine J_skip ?_
    refine zC ?_
    refine zF (zG [] (
      .n (zB (Lk.k rfl)) <| .nil) ff rfl fun g8 => ⟨_, _, [], rfl, (.cons 2 rfl <| .nil), (.nil), ?_⟩)
    refine zC ?_
    refine J_ret ?_
    refine zQ (.cons (.tmp (Lk.t rfl)) <| .nil) (zM (sb_res1 zL) ?_)
    exact ret_i (by unfold chk; rw [if_neg (by simp [hsr, hsc]), if_neg (by simpa using h2), if_neg (by simp [h3])])
theorem rat_ok {r c i j : Int} {xs : List Nat} (hg : Good r c xs) (hp : Pl r c i j) : Ct Tryz.prog 73 [MatP r c xs, isv (.int .i64 i), isv (.int .i64 j)] (flp (mat c xs i j)) := by
 refine Ct.of Tryz.func73 rfl (by kernel_rfl) rfl fun c0 => ?_
 have hq := hp.rng hg.1
 have hl := hg.2
 obtain ⟨hs1, hs2, hs3, hs4⟩ := hg.1
 obtain ⟨hp1, hp2, hp3, hp4⟩ := hp
 refine J_to (To.emps 1) ?_
 refine zF (zG [] (
   .w 0 (op_box 0 (Lk.t rfl) co_agg rfl) <|
   .n (zB (Lk.fk rfl (by decide +kernel))) <| .nil) ff rfl fun g1 => ⟨_, _, [0], rfl, (.cons 1 rfl <| .cons 2 rfl <| .cons 3 rfl <| .nil), (.cons 0 rfl <| .nil), ?_⟩)
 refine zC ?_
 refine zF (zG [] (
   .n (zI fd28_2 (Lk.t rfl) rfl) <|
   .r 0 (zN 0 sc26 (Lk.t rfl) rfl zJ rfl) <|
   .n (zA (Lk.t rfl)) <|
   .n (zI fd28_1 (Lk.t rfl) rfl) <|
   .r 0 (zN 0 sc3 (Lk.t rfl) rfl zJ rfl) <|
   .n (op_mul (Lk.t rfl) (Lk.t rfl) (zO (by omega) (by omega))) <|
   .n (zA (Lk.t rfl)) <|
   .n (op_add (Lk.t rfl) (Lk.t rfl) (zO (by omega) (by omega))) <|
   .n (op_index_m 0 sl26 (Lk.t rfl) (Lk.t rfl) (by omega) (by omega)) <|
   .n (op_load_sc sc36 (Lk.t rfl) rfl) <|
   .n (zB (Lk.t rfl)) <| .nil) ff rfl fun g2 => ⟨_, _, [], rfl, (.cons 6 rfl <| .nil), (.nil), ?_⟩)
 refine zC ?_
 refine J_ret ?_
 refine zQ (.cons (.tmp (Lk.t rfl)) <| .nil) (zM (sb_res1 zL) ?_)
 exact zL
theorem rawF_ok {r c : Int} (hs : Siz r c) : CtF Tryz.prog 46 [isv (.int .i64 r), isv (.int .i64 c)] (agN 2) (fun u => aggp [isv (.int .i64 r), isv (.int .i64 c), isv u]) (fun u => som u flp (grid r c fun _ _ => 0) 36) := by
 refine CtF.of Tryz.func46 rfl (by kernel_rfl) rfl fun c0 => ?_
 have hm := hs.mul
 have hn := siz_nat hs
 have hs0 := hs
 obtain ⟨hs1, hs2, hs3, hs4⟩ := hs
 refine J_to (To.emps 1) ?_
 refine zF (zG [] (
   .w 0 (op_alloc 0 zr28 rfl rfl) <| .nil) ff rfl fun g1 => ⟨_, _, [0], rfl, (.cons 0 rfl <| .cons 1 rfl <| .cons 4 rfl <| .nil), (.cons 0 rfl <| .nil), ?_⟩)
 refine zC ?_
 refine J_to (To.emps 1) ?_
 refine zF (zG [] (
   .n (zA (Lk.t rfl)) <|
   .n (zA (Lk.t rfl)) <|
   .n (zA (Lk.t rfl)) <|
   .n (zA (Lk.t rfl)) <|
   .n (op_mul (Lk.t rfl) (Lk.t rfl) (zO (by omega) (by omega))) <|
   .w 1 (op_make_m (mk := flp) 0 1 sl26 zr36 rfl (fun _ => flp_zero) (Lk.t rfl) (Lk.t rfl) (by omega) (by omega) (by omega) (by omega) rfl) <|
   .n (op_ve 10 11 rfl rfl rfl (fun f => (op_build zr28 rfl pl28 (.cons rfl (Lk.t rfl) co_isv rfl (puts_l rfl (Nat.le_of_ble_eq_true rfl)) (.cons rfl (Lk.t rfl) co_isv rfl (puts_l rfl (Nat.le_of_ble_eq_true rfl)) (.cons rfl (Lk.t rfl) co_isv rfl (puts_l rfl (Nat.le_of_ble_eq_true rfl)) .nil))))) (fun f g h => by rw [h 10 (show 10 ∈ [10] from by decide)]) rfl) <|
   .w 0 (op_ver 11 rfl rfl (fun f => op_store_b 0 (Lk.t rfl) (Lk.t rfl) co_agg sz28 rfl rfl rfl) (fun f g h => by rw [h 10 (show 10 ∈ [10] from by decide)]) rfl) <| .nil) ff rfl fun g2 => ⟨_, _, [0, 1], rfl, (.cons 4 rfl <| .nil), (.cons 0 rfl <| .cons 1 rfl <| .nil), ?_⟩)
 refine zC ?_
 refine J_ret ?_
 refine JN_to (To.res 1 (r' := som (g2 10) flp (grid r c fun _ _ => 0) 36) rfl (res_eq (by rw [grid_zero, show r.toNat * c.toNat = (r * c).toNat by omega])) rfl) ?_
 refine JN_retF (u := (g2 10)) 1 rfl rfl (.ag 0 (Lk.t rfl) ag28 rfl rfl rfl) (agN_of rfl) ?_
 exact zL
theorem put_ok {r c i j : Int} {u : Value} {xs : List Nat} {x : Nat} (hs : Siz r c) (hl : (xs.length : Int) = r * c) (hp : Pl r c i j) : CtM Tryz.prog 47 [aggp [isv (.int .i64 r), isv (.int .i64 c), isv u], isv (.int .i64 i), isv (.int .i64 j), flp x] (som u flp xs 36) (anyp) (som u flp (xs.set (i * c + j).toNat x) 36) := by
 refine CtM.of Tryz.func47 rfl (by kernel_rfl) rfl (fix_som (by rw [List.length_set])) fun c0 ob hr0 => ?_
 have hq := hp.rng hs
 obtain ⟨hs1, hs2, hs3, hs4⟩ := hs
 obtain ⟨hp1, hp2, hp3, hp4⟩ := hp
 refine J_to (To.emps 1) ?_
 refine zF (zG [] (
   .w 1 (op_box 1 (Lk.t rfl) co_agg rfl) <| .nil) ff rfl fun g1 => ⟨_, _, [0, 1], rfl, (.cons 1 rfl <| .cons 2 rfl <| .cons 3 rfl <| .cons 4 rfl <| .nil), (.cons 0 rfl <| .cons 1 rfl <| .nil), ?_⟩)
 refine zC ?_
 refine (zG [] (
   .n (zI fd28_2 (Lk.t rfl) rfl) <|
   .r 1 (zN 1 sc26 (Lk.t rfl) rfl zJ rfl) <|
   .n (zA (Lk.t rfl)) <|
   .n (zI fd28_1 (Lk.t rfl) rfl) <|
   .r 1 (zN 1 sc3 (Lk.t rfl) rfl zJ rfl) <|
   .n (op_mul (Lk.t rfl) (Lk.t rfl) (zO (by omega) (by omega))) <|
   .n (zA (Lk.t rfl)) <|
   .n (op_add (Lk.t rfl) (Lk.t rfl) (zO (by omega) (by omega))) <|
   .n (zA (Lk.t rfl)) <|
   .r 0 (op_index_som 0 sl26 (Lk.t rfl) (Lk.t rfl) rfl (by omega) (by omega)) <|
   .w 0 (op_store_som 0 (Lk.t rfl) (Lk.t rfl) co_flp sz36 rfl (by omega)) <| .nil) ff rfl fun g2 => ⟨_, _, [0], rfl, (.nil), (.cons 0 rfl <| .nil), ?_⟩)
 refine JN_end ?_
 refine JN_retM 0 hr0 (fix_som (by rw [List.length_set])) rfl (.nil) (zM zL ?_)
 exact sb_any
theorem over_ok {r c : Int} {xs : List Nat} : Ct Tryz.prog 49 [MatP r c xs] (resM (toldR r c xs)) := by
 refine Ct.of Tryz.func49 rfl (by kernel_rfl) rfl fun c0 => ?_
 refine J_to (To.emps 2) ?_
 refine zF (zG [] (
   .w 0 (op_box 0 (Lk.t rfl) co_agg rfl) <|
   .w 1 (op_alloc 1 zr28 rfl rfl) <|
   .n (zB (Lk.k rfl)) <| .nil) ff rfl fun g1 => ⟨_, _, [0, 1], rfl, (.cons 1 rfl <| .cons 2 rfl <| .nil), (.cons 0 rfl <| .cons 1 rfl <| .nil), ?_⟩)
 refine zC ?_
 refine zF ?_
 refine zF (zG [] (
   .n (zI fd28_2 (Lk.t rfl) rfl) <|
   .r 0 (zN 0 sc26 (Lk.t rfl) rfl zJ rfl) <|
   .n (zP (rall_ok) ⟨(Lk.t rfl),  trivial⟩) <|
   .n (op_not (Lk.t rfl)) <| .nil) ff rfl fun g2 => ⟨_, _, [0, 1], rfl, (.cons 1 rfl <| .cons 2 rfl <| .cons 7 rfl <| .nil), (.cons 0 rfl <| .cons 1 rfl <| .nil), ?_⟩)
 refine zC ?_
 refine zH (zK (Lk.t rfl)) (fun h1 => ?_) (fun h1 => ?_)
 ·have h1' := h1
  try simp only [cmpB, Z] at h1
  refine zF (zG [] (
    .n (op_build zr28 rfl pl28 .nil) <|
    .w 1 (op_store_b 1 (Lk.t rfl) (Lk.t rfl) co_agg sz28 rfl rfl rfl) <|
    .n (zB (Lk.k rfl)) <| .nil) ff rfl fun g3 => ⟨_, _, [1], rfl, (.cons 2 rfl <| .cons 3 rfl <| .nil), (.cons 1 rfl <| .nil), ?_⟩)
  refine zC ?_
  refine J_ret ?_
  refine zD ?_
  refine zQ (.cons (.ag 0 (Lk.t rfl) ag28 rfl rfl rfl) <| .cons (.tmp (Lk.t rfl)) <| .nil) (zM (sb_res (.cons (sb_agg (.cons zL <| .cons zL <| .cons (sb_nil (mk := flp)) <| .nil)) <| .cons zL <| .nil)) ?_)
  exact ret_M (by unfold toldR; rw [if_pos h1]; rfl)
 ·have h1' := h1
  try simp only [cmpB, Z] at h1
  refine J_skip ?_
  refine zC ?_
  refine zF (zG [] (
    .r 0 (op_get_ag 0 ag28 (Lk.t rfl) rfl zJ rfl rfl) <|
    .w 1 (op_store_b 1 (Lk.t rfl) (Lk.t rfl) co_agg sz28 rfl rfl rfl) <|
    .n (zB (Lk.k rfl)) <| .nil) ff rfl fun g4 => ⟨_, _, [1], rfl, (.cons 2 rfl <| .cons 3 rfl <| .nil), (.cons 1 rfl <| .nil), ?_⟩)
  refine zC ?_
  refine J_ret ?_
  refine zQ (.cons (.ag 0 (Lk.t rfl) ag28 rfl rfl rfl) <| .cons (.tmp (Lk.t rfl)) <| .nil) (zM (sb_res (.cons zL <| .cons zL <| .nil)) ?_)
  exact ret_M (by unfold toldR; rw [if_neg (by simp [h1])])
theorem rrow_ok {r c i : Int} {xs : List Nat} (hg : Good r c xs) (i0 : 0 ≤ i) (i1 : i < r) : Ct Tryz.prog 75 [MatP r c xs, isv (.int .i64 i)] (fls (rowL c xs i)) := by
 refine Ct.of Tryz.func75 rfl (by kernel_rfl) rfl fun c0 => ?_
 obtain ⟨hs1, hs2, hs3, hs4⟩ := hg.1
 refine J_to (To.emps 1) ?_
 refine zF (zG [] (
   .w 0 (op_box 0 (Lk.t rfl) co_agg rfl) <|
   .n (zB (Lk.k rfl)) <| .nil) ff rfl fun g1 => ⟨_, _, [0], rfl, (.cons 1 rfl <| .cons 2 rfl <| .nil), (.cons 0 rfl <| .nil), ?_⟩)
 refine zC ?_
 refine zF (zG [] (
   .n (zB (Lk.k rfl)) <| .nil) ff rfl fun g2 => ⟨_, _, [0], rfl, (.cons 1 rfl <| .cons 2 rfl <| .cons 5 rfl <| .nil), (.cons 0 rfl <| .nil), ?_⟩)
 refine zC ?_
 refine zF ?_
 refine zF (zG [] (
   .n (zB (Lk.k rfl)) <| .nil) ff rfl fun g3 => ⟨_, _, [0], rfl, (.cons 1 rfl <| .cons 2 rfl <| .cons 5 rfl <| .cons 6 rfl <| .nil), (.cons 0 rfl <| .nil), ?_⟩)
 refine zC ?_
 refine zT ?_
 refine J_to (To.emps 1) ?_
 refine J_loopc (α := Nat × Value) (fun x => x.1 ≤ c.toNat) (fun x => c.toNat - x.1) (fun x restR => (6, isv (.int .i64 (x.1 : Int))) :: (5, isv x.2) :: restR) (fun x restS => som x.2 flp ((rowL c xs i).take x.1) 36 :: restS) (ρc := [(1, _), (2, _)]) (σc := [_]) (0, .slice none 0 0) (by exact Nat.zero_le _) (To.pick (fun _ => .sub (t := 6) rfl (sp_eq (by rfl)) <| .sub (t := 5) rfl (sp_eq (by rfl)) <| .cons 1 rfl <| .cons 2 rfl <| .nil) (fun _ => .sub 1 rfl (som_nil) <| .cons 0 rfl <| .nil) (ks := [1, 0]) rfl) (fun x hI => ?_)
 obtain ⟨k, sv⟩ := x
 try simp only at hI
 show J _ _ ((6, isv (.int .i64 (k : Int))) :: (5, isv sv) :: _) (som sv flp ((rowL c xs i).take k) 36 :: _) _ _
 refine zF ?_
 refine zF (zG [] (
   .n (zA (Lk.t rfl)) <|
   .n (zI fd28_1 (Lk.t rfl) rfl) <|
   .r 1 (zN 1 sc3 (Lk.t rfl) rfl zJ rfl) <|
   .n (op_cmp (by simp) (Lk.t rfl) (Lk.t rfl) rfl) <| .nil) ff rfl fun g4 => ⟨_, _, [0, 1], rfl, (.cons 1 rfl <| .cons 2 rfl <| .cons 5 rfl <| .cons 6 rfl <| .cons 10 rfl <| .nil), (.cons 0 rfl <| .cons 1 rfl <| .nil), ?_⟩)
 refine zC ?_
 refine zH (zK (Lk.t rfl)) (fun h1 => ?_) (fun h1 => ?_)
 ·have h1' := h1
  try simp only [cmpB, Z] at h1
  refine J_skip ?_
  refine zC ?_
  refine zF ?_
  refine zT ?_
  refine (zG [] (
    .n (zA (Lk.t rfl)) <|
    .r 1 (op_get_ag 1 ag28 (Lk.t rfl) rfl zJ rfl rfl) <|
    .n (zA (Lk.t rfl)) <|
    .n (zA (Lk.t rfl)) <|
    .n (zP (rat_ok hg ⟨i0, i1, by omega, by omega⟩) ⟨(Lk.t rfl), (Lk.t rfl), (Lk.t rfl),  trivial⟩) <|
    .n (op_buildSlice sl26 zr36 rfl rfl rfl rfl (.cons rfl (Lk.t rfl) co_flp rfl (puts_l rfl (Nat.le_of_ble_eq_true rfl)) .nil)) <|
    .w 0 (op_append_m 0 sl26 zr36 rfl (Lk.t rfl) (Lk.t rfl) rfl (by rw [List.length_take, length_rowL]; omega) (by rw [List.length_take, length_rowL]; omega)) <|
    .n (op_assign_ve rfl rfl) <| .nil) ff rfl fun g5 => ⟨_, _, [0, 1], rfl, (.cons 1 rfl <| .cons 2 rfl <| .cons 5 rfl <| .cons 6 rfl <| .nil), (.cons 0 rfl <| .cons 1 rfl <| .nil), ?_⟩)
  refine zR ?_
  refine zC ?_
  refine (zG [] (
    .n (zA (Lk.t rfl)) <|
    .n (op_add (Lk.t rfl) (Lk.k rfl) (zO (by omega) (by omega))) <|
    .n (zB (Lk.t rfl)) <| .nil) ff rfl fun g6 => ⟨_, _, [0, 1], rfl, (.cons 1 rfl <| .cons 2 rfl <| .cons 5 rfl <| .cons 6 rfl <| .nil), (.cons 0 rfl <| .cons 1 rfl <| .nil), ?_⟩)
  exact JN_again (k + 1, g5 19) (by exact (show k + 1 ≤ c.toNat by omega)) (by show c.toNat - (_ + 1) < _; omega) (To.pick (fun _ => .sub (t := 6) rfl (sp_eq (by rfl)) <| .sub (t := 5) rfl (sp_eq (by rfl)) <| .cons 1 rfl <| .cons 2 rfl <| .nil) (fun _ => .sub 0 rfl ((res_eq (by rw [show (rowL c xs i).take (k + 1) = (rowL c xs i).take k ++ [mat c xs i k] from take_rowL (by omega)]))) <| .cons 1 rfl <| .nil) (ks := [0, 1]) rfl)
 ·have h1' := h1
  try simp only [cmpB, Z] at h1
  refine J_exit ?_
  refine zE ?_
  refine zE ?_
  refine zS ?_
  refine zC ?_
  refine zF (zG [] (
    .n (zA (Lk.t rfl)) <|
    .n (zB (Lk.t rfl)) <| .nil) ff rfl fun g7 => ⟨_, _, [0], rfl, (.cons 4 rfl <| .nil), (.cons 0 rfl <| .nil), ?_⟩)
  refine zC ?_
  refine J_ret ?_
  refine JN_to (To.freeze 0 (fun _ h => h) rfl frz_som rfl) ?_
  refine zQ (.cons (.tmp (Lk.t rfl)) <| .nil) (zM (sb_res1 (sb_fk 0 rfl)) ?_)
  exact ret_eq (by rw [List.take_of_length_le (by rw [length_rowL]; omega)])
theorem rdot_ok {xs ys : List Nat} (hl : xs.length ≤ ys.length) : Ct Tryz.prog 74 [fls xs, fls ys] (flp (dotL xs ys)) := by
 refine Ct.of Tryz.func74 rfl (by kernel_rfl) rfl fun c0 => ?_
 refine J_len 0 rfl fun hlen => ?_
 refine zF (zG [] (
   .n (zB (Lk.fk rfl (by decide +kernel))) <| .nil) ff rfl fun g1 => ⟨_, _, [], rfl, (.cons 0 rfl <| .cons 1 rfl <| .nil), (.nil), ?_⟩)
 refine zC ?_
 refine zF (zG [] (
   .n (zB (Lk.fk rfl (by decide +kernel))) <| .nil) ff rfl fun g2 => ⟨_, _, [], rfl, (.cons 0 rfl <| .cons 1 rfl <| .cons 5 rfl <| .nil), (.nil), ?_⟩)
 refine zC ?_
 refine zF ?_
 refine zF (zG [] (
   .n (zB (Lk.k rfl)) <| .nil) ff rfl fun g3 => ⟨_, _, [], rfl, (.cons 0 rfl <| .cons 1 rfl <| .cons 5 rfl <| .cons 6 rfl <| .nil), (.nil), ?_⟩)
 refine zC ?_
 refine zT ?_
 refine J_loopc (α := Nat) (fun k => k ≤ xs.length) (fun k => xs.length - k) (fun k restR => (5, flp (dotTo xs ys k)) :: (6, isv (.int .i64 (k : Int))) :: restR) (fun k restS => restS) (ρc := [(0, _), (1, _)]) (σc := []) 0 (by exact Nat.zero_le _) (To.pick (fun _ => .sub (t := 5) rfl (sp_eq (by rfl)) <| .sub (t := 6) rfl (sp_eq (by rfl)) <| .cons 0 rfl <| .cons 1 rfl <| .nil) (fun _ => .nil) (ks := []) rfl) (fun k hI => ?_)
 refine zF ?_
 refine zF (zG [] (
   .n (zA (Lk.t rfl)) <|
   .n (zA (Lk.t rfl)) <|
   .n (op_len_m sl26 (Lk.t rfl)) <|
   .n (op_cmp (by simp) (Lk.t rfl) (Lk.t rfl) rfl) <| .nil) ff rfl fun g4 => ⟨_, _, [], rfl, (.cons 0 rfl <| .cons 1 rfl <| .cons 5 rfl <| .cons 6 rfl <| .cons 10 rfl <| .nil), (.nil), ?_⟩)
 refine zC ?_
 refine zH (zK (Lk.t rfl)) (fun h1 => ?_) (fun h1 => ?_)
 ·have h1' := h1
  try simp only [cmpB, Z] at h1
  refine J_skip ?_
  refine zC ?_
  refine zF ?_
  refine zT ?_
  refine (zG [[], [], [], [1, 2], [1, 2, 3], [], [], [5, 6], [5, 6, 7], [1, 2, 3, 4, 5, 6, 7, 8], [0, 1, 2, 3, 4, 5, 6, 7, 8, 9], [0, 1, 2, 3, 4, 5, 6, 7, 8, 9, 10]] (
    .n (zA (Lk.t rfl)) <|
    .n (zA (Lk.t rfl)) <|
    .n (zA (Lk.t rfl)) <|
    .n (op_index_m 0 sl26 (Lk.t rfl) (Lk.t rfl) (by omega) (by omega)) <|
    .n (op_load_sc sc36 (Lk.t rfl) rfl) <|
    .n (zA (Lk.t rfl)) <|
    .n (zA (Lk.t rfl)) <|
    .n (op_index_m 0 sl26 (Lk.t rfl) (Lk.t rfl) (by omega) (by omega)) <|
    .n (op_load_sc sc36 (Lk.t rfl) rfl) <|
    .n (op_float (by simp) (Lk.t rfl) (Lk.t rfl) rfl) <|
    .n (op_float (by simp) (Lk.t rfl) (Lk.t rfl) rfl) <|
    .n (zB (Lk.t rfl)) <| .nil) (fun _ => mixed) rfl fun g5 => ⟨_, _, [], rfl, (.cons 0 rfl <| .cons 1 rfl <| .cons 5 rfl <| .cons 6 rfl <| .nil), (.nil), ?_⟩)
  refine zR ?_
  refine zC ?_
  refine (zG [] (
    .n (zA (Lk.t rfl)) <|
    .n (op_add (Lk.t rfl) (Lk.k rfl) (zO (by omega) (by omega))) <|
    .n (zB (Lk.t rfl)) <| .nil) ff rfl fun g6 => ⟨_, _, [], rfl, (.cons 0 rfl <| .cons 1 rfl <| .cons 5 rfl <| .cons 6 rfl <| .nil), (.nil), ?_⟩)
  exact JN_again (k + 1) (by omega) (by omega) (To.pick (fun _ => .sub (t := 5) rfl (sp_eq (by rfl)) <| .sub (t := 6) rfl (sp_eq (by rfl)) <| .cons 0 rfl <| .cons 1 rfl <| .nil) (fun _ => .nil) (ks := []) rfl)
 ·have h1' := h1
  try simp only [cmpB, Z] at h1
  refine J_exit ?_
  refine zE ?_
  refine zE ?_
  refine zS ?_
  refine zC ?_
  refine zF (zG [] (
    .n (zA (Lk.t rfl)) <|
    .n (zB (Lk.t rfl)) <| .nil) ff rfl fun g7 => ⟨_, _, [], rfl, (.cons 4 rfl <| .nil), (.nil), ?_⟩)
  refine zC ?_
  refine J_ret ?_
  refine zQ (.cons (.tmp (Lk.t rfl)) <| .nil) (zM (sb_res1 zL) ?_)
  exact ret_f (by rw [show k = xs.length by omega]; rfl)
end Go.Proofs.YtllkellonjhalaaGreat
