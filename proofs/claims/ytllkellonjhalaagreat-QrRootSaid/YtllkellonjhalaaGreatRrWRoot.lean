/- Printed by a program of ours (walk.py): the walk of QrRoot. -/
import Derived.Test.YtllkellonjhalaaGreatRrKb
import Derived.Test.YtllkellonjhalaaGreatProg
import Derived.KernelRfl
import Derived.Test.YtllkellonjhalaaGreatRrTypes
import Derived.Test.YtllkellonjhalaaGreatRrWFew
import Derived.Test.YtllkellonjhalaaGreatRrWTriangles
import Derived.Test.YtllkellonjhalaaGreatRrGrc
set_option linter.unusedVariables false
set_option linter.unusedSimpArgs false
set_option maxRecDepth 20000
set_option maxHeartbeats 1000000
namespace Go.Proofs.YtllkellonjhalaaGreat
open Go Go.Bn
attribute [local irreducible] OpOK
theorem alltame_ok {xs : List Nat} {z : Int} (k0 : 0 ≤ z) (k1 : z ≤ 1000) : Ct Tryz.prog 11 [fls xs, isv (.int .i64 z)] (isv (.bool (allTB xs z))) := by
 refine Ct.of Tryz.func11 rfl (by kernel_rfl) rfl fun c0 => ?_
 refine J_len 0 rfl fun hlen => ?_
 refine zF (zG [] (
   .n (zB (Lk.k rfl)) <| .nil) ff rfl fun g1 => ⟨_, _, [], rfl, (.cons 0 rfl <| .cons 1 rfl <| .nil), (.nil), ?_⟩)
 refine zC ?_
 refine zF ?_
 refine zF (zG [] (
   .n (zB (Lk.k rfl)) <| .nil) ff rfl fun g2 => ⟨_, _, [], rfl, (.cons 0 rfl <| .cons 1 rfl <| .cons 5 rfl <| .nil), (.nil), ?_⟩)
 refine zC ?_
 refine zT ?_
 refine J_loopc (α := Nat) (fun k => k ≤ xs.length ∧ (xs.take k).all (fun x => tameB x z) = true) (fun k => xs.length - k) (fun k restR => (5, isv (.int .i64 (k : Int))) :: restR) (fun k restS => restS) (ρc := [(0, _), (1, _)]) (σc := []) 0 (by exact ⟨Nat.zero_le _, rfl⟩) (To.pick (fun _ => .sub (t := 5) rfl (sp_eq (by rfl)) <| .cons 0 rfl <| .cons 1 rfl <| .nil) (fun _ => .nil) (ks := []) rfl) (fun k hI => ?_)
 refine zF ?_
 refine zF (zG [] (
   .n (zA (Lk.t rfl)) <|
   .n (zA (Lk.t rfl)) <|
   .n (op_len_m sl26 (Lk.t rfl)) <|
   .n (op_cmp (by simp) (Lk.t rfl) (Lk.t rfl) rfl) <| .nil) ff rfl fun g3 => ⟨_, _, [], rfl, (.cons 0 rfl <| .cons 1 rfl <| .cons 5 rfl <| .cons 9 rfl <| .nil), (.nil), ?_⟩)
 refine zC ?_
 refine zH (zK (Lk.t rfl)) (fun h1 => ?_) (fun h1 => ?_)
 ·have h1' := h1
  try simp only [cmpB, Z] at h1
  refine J_skip ?_
  refine zC ?_
  refine zF ?_
  refine zT ?_
  refine zF (zG [] (
    .n (zA (Lk.t rfl)) <|
    .n (zA (Lk.t rfl)) <|
    .n (op_index_m 0 sl26 (Lk.t rfl) (Lk.t rfl) (by omega) (by omega)) <|
    .n (op_load_sc sc36 (Lk.t rfl) rfl) <|
    .n (zA (Lk.t rfl)) <|
    .n (zP (tame_ok k0 k1) ⟨(Lk.t rfl), (Lk.t rfl),  trivial⟩) <|
    .n (op_not (Lk.t rfl)) <| .nil) ff rfl fun g4 => ⟨_, _, [], rfl, (.cons 0 rfl <| .cons 1 rfl <| .cons 5 rfl <| .cons 18 rfl <| .nil), (.nil), ?_⟩)
  refine zC ?_
  refine zH (zK (Lk.t rfl)) (fun h2 => ?_) (fun h2 => ?_)
  ·have h2' := h2
   try simp only [cmpB, Z] at h2
   refine zF (zG [] (
     .n (zB (Lk.k rfl)) <| .nil) ff rfl fun g5 => ⟨_, _, [], rfl, (.cons 4 rfl <| .nil), (.nil), ?_⟩)
   refine zC ?_
   refine J_ret ?_
   refine JN_block_ret ?_
   refine zD ?_
   refine zD ?_
   refine JN_block_ret ?_
   refine zD ?_
   refine zQ (.cons (.tmp (Lk.t rfl)) <| .nil) (zM (sb_res1 zL) ?_)
   exact ret_b (all_no 0 (by omega : k < xs.length) (by simpa using h2')).symm
  ·have h2' := h2
   try simp only [cmpB, Z] at h2
   refine J_skip ?_
   refine zR ?_
   refine zC ?_
   refine (zG [] (
     .n (zA (Lk.t rfl)) <|
     .n (op_add (Lk.t rfl) (Lk.k rfl) (zO (by omega) (by omega))) <|
     .n (zB (Lk.t rfl)) <| .nil) ff rfl fun g6 => ⟨_, _, [], rfl, (.cons 0 rfl <| .cons 1 rfl <| .cons 5 rfl <| .nil), (.nil), ?_⟩)
   exact JN_again (k + 1) (by exact ⟨by omega, all_take 0 (by omega) hI.2 (by simpa using h2')⟩) (by omega) (To.pick (fun _ => .sub (t := 5) rfl (sp_eq (by rfl)) <| .cons 0 rfl <| .cons 1 rfl <| .nil) (fun _ => .nil) (ks := []) rfl)
 ·have h1' := h1
  try simp only [cmpB, Z] at h1
  refine J_exit ?_
  refine zE ?_
  refine zE ?_
  refine zS ?_
  refine zC ?_
  refine zF (zG [] (
    .n (zB (Lk.k rfl)) <| .nil) ff rfl fun g7 => ⟨_, _, [], rfl, (.cons 4 rfl <| .nil), (.nil), ?_⟩)
  refine zC ?_
  refine J_ret ?_
  refine zQ (.cons (.tmp (Lk.t rfl)) <| .nil) (zM (sb_res1 zL) ?_)
  exact ret_b (all_whole (by omega) hI.2).symm
theorem within_ok {d w : Exa} (hW : WinB d w) : Ct Tryz.prog 16 [exaP d, isv (.int .i64 (-38)), exaP w] (isv (.bool true)) := by
 refine Ct.of Tryz.func16 rfl (by kernel_rfl) rfl fun c0 => ?_
 refine J_to (To.emps 2) ?_
 refine zF (zG [] (
   .w 0 (op_box 0 (Lk.t rfl) co_agg rfl) <|
   .w 1 (op_box 1 (Lk.t rfl) co_agg rfl) <|
   .n (zB (Lk.k rfl)) <| .nil) ff rfl fun g1 => ⟨_, _, [0, 1], rfl, (.cons 1 rfl <| .cons 3 rfl <| .cons 5 rfl <| .nil), (.cons 0 rfl <| .cons 1 rfl <| .nil), ?_⟩)
 refine zC ?_
 refine zF (zG [[], [], [0, 1], [], [], [4], [0, 1, 2, 4, 5], [0, 1, 2, 3, 4, 5, 6], [0, 1, 2, 3, 4, 5, 6, 7], [0, 1, 2, 3, 4, 5, 6, 7, 8], [0, 1, 2, 3, 4, 5, 6, 7, 8, 9]] (
   .r 0 (op_get_ag 0 ag41 (Lk.t rfl) rfl zJ rfl rfl) <|
   .r 0 (op_get_ag 0 ag41 (Lk.t rfl) rfl zJ rfl rfl) <|
   .n (zP (xmul_ok hW.hd hW.hd) ⟨(Lk.t rfl), (Lk.t rfl),  trivial⟩) <|
   .r 1 (op_get_ag 1 ag41 (Lk.t rfl) rfl zJ rfl rfl) <|
   .n (zA (Lk.t rfl)) <|
   .n (op_mul (Lk.k rfl) (Lk.t rfl) (zO (by omega) (by omega))) <|
   .n (zP (xpow_ok) ⟨(Lk.t rfl),  trivial⟩) <|
   .n (zP (xmul_ok hW.hw (pow_exb (by omega) (by omega))) ⟨(Lk.t rfl), (Lk.t rfl),  trivial⟩) <|
   .n (zP (xcmp_ok hW.h1 hW.h2 hW.h3 hW.h4) ⟨(Lk.t rfl), (Lk.t rfl),  trivial⟩) <|
   .n (op_cmp (by simp) (Lk.t rfl) (Lk.k rfl) rfl) <|
   .n (zB (Lk.t rfl)) <| .nil) (fun _ => mixed) rfl fun g2 => ⟨_, _, [], rfl, (.cons 6 rfl <| .nil), (.nil), ?_⟩)
 refine zC ?_
 refine J_ret ?_
 refine zQ (.cons (.tmp (Lk.t rfl)) <| .nil) (zM (sb_res1 zL) ?_)
 exact ret_b (cmp_no hW.yes)
theorem dotr_ok {c : Int} {xs : List Nat} {i j : Nat} (hc : 0 ≤ c) (hl : (xs.length : Int) = c * c) (hD : DotB (rowL c xs i) (rowL c xs j)) (hi : (i : Int) < c) (hj : (j : Int) < c) : Ct Tryz.prog 13 [fls ((xs.drop ((i : Int) * c).toNat).take ((((i : Int) + 1) * c).toNat - ((i : Int) * c).toNat)), fls ((xs.drop ((j : Int) * c).toNat).take ((((j : Int) + 1) * c).toNat - ((j : Int) * c).toNat))] (exaP (dotX (rowL c xs i) (rowL c xs j) (rowL c xs i).length)) := by
 rw [rowL_slice hc hl (by omega) hi, rowL_slice hc hl (by omega) hj]
 exact xdot_ok hD
theorem qrow_ok {ms : List Mt} {n : Int} (h : BesOk ms n) {i : Nat} (hi : (i : Int) < n) : Ct Tryz.prog 12 [slk 3 mtU ms, isv (.int .i64 (i : Int))] (fls (besTo ms i ms.length)) := by
 refine Ct.of Tryz.func12 rfl (by kernel_rfl) rfl fun c0 => ?_
 refine J_lenk 0 rfl fun hlen => ?_
 have h0 := h.h0
 have hc48 := h.hc
 obtain ⟨hn0, hn12, _, _⟩ := (h.hg 0 h.h0).1
 refine zF (zG [] (
   .n (zB (Lk.k rfl)) <| .nil) ff rfl fun g1 => ⟨_, _, [], rfl, (.cons 0 rfl <| .cons 1 rfl <| .nil), (.nil), ?_⟩)
 refine zC ?_
 refine zF (zG [] (
   .n (zB (Lk.k rfl)) <| .nil) ff rfl fun g2 => ⟨_, _, [], rfl, (.cons 0 rfl <| .cons 1 rfl <| .cons 5 rfl <| .nil), (.nil), ?_⟩)
 refine zC ?_
 refine zF ?_
 refine zF (zG [] (
   .n (zB (Lk.k rfl)) <| .nil) ff rfl fun g3 => ⟨_, _, [], rfl, (.cons 0 rfl <| .cons 1 rfl <| .cons 5 rfl <| .cons 6 rfl <| .nil), (.nil), ?_⟩)
 refine zC ?_
 refine zT ?_
 refine J_to (To.emps 1) ?_
 refine J_loopc (α := Nat × Value) (fun x => x.1 ≤ ms.length) (fun x => ms.length - x.1) (fun x restR => (6, isv (.int .i64 (x.1 : Int))) :: (5, isv x.2) :: restR) (fun x restS => som x.2 flp (besTo ms i x.1) 36 :: restS) (ρc := [(0, _), (1, _)]) (σc := []) (0, .slice none 0 0) (by exact Nat.zero_le _) (To.pick (fun _ => .sub (t := 6) rfl (sp_eq (by rfl)) <| .sub (t := 5) rfl (sp_eq (by rfl)) <| .cons 0 rfl <| .cons 1 rfl <| .nil) (fun _ => .sub 0 rfl (som_nil) <| .nil) (ks := [0]) rfl) (fun x hI => ?_)
 obtain ⟨k, sv⟩ := x
 try simp only at hI
 show J _ _ ((6, isv (.int .i64 (k : Int))) :: (5, isv sv) :: _) (som sv flp (besTo ms i k) 36 :: _) _ _
 refine zF ?_
 refine zF (zG [] (
   .n (zA (Lk.t rfl)) <|
   .n (zA (Lk.t rfl)) <|
   .n (op_len_sk sl24 (Lk.t rfl)) <|
   .n (op_cmp (by simp) (Lk.t rfl) (Lk.t rfl) rfl) <| .nil) ff rfl fun g4 => ⟨_, _, [0], rfl, (.cons 0 rfl <| .cons 1 rfl <| .cons 5 rfl <| .cons 6 rfl <| .cons 10 rfl <| .nil), (.cons 0 rfl <| .nil), ?_⟩)
 refine zC ?_
 refine zH (zK (Lk.t rfl)) (fun h1 => ?_) (fun h1 => ?_)
 ·have h1' := h1
  try simp only [cmpB, Z] at h1
  have hgk : Good n (ms.getD ((k : Int)).toNat mtD).c (ms.getD ((k : Int)).toNat mtD).a := h.hg k (by omega)
  obtain ⟨hk1, hk2, hk3, hk4⟩ := hgk.row (i := (i : Int)) (by omega) (by omega)
  obtain ⟨_, _, hkc0, hkc1⟩ := hgk.1
  have hbl := length_besTo ms i k
  have hbm := colsTo_le ms (show k ≤ ms.length by omega)
  have hxl : (List.take ((((i : Int) + 1) * (ms.getD ((k : Int)).toNat mtD).c).toNat - ((i : Int) * (ms.getD ((k : Int)).toNat mtD).c).toNat) (List.drop ((i : Int) * (ms.getD ((k : Int)).toNat mtD).c).toNat (ms.getD ((k : Int)).toNat mtD).a)).length ≤ 144 := by rw [List.length_take, List.length_drop]; omega
  refine J_skip ?_
  refine zC ?_
  refine zF ?_
  refine zT ?_
  refine (zG [[], [], [], [1, 2], [1, 2, 3], [1, 2, 3, 4], [], [], [], [7, 8], [7, 8, 9], [7, 8, 9, 10], [6, 7, 8, 9, 10, 11], [], [13], [], [], [15, 16], [15, 16, 17], [15, 16, 17, 18], [13, 14, 15, 16, 17, 18, 19], [1, 2, 3, 4, 5, 6, 7, 8, 9, 10, 11, 12, 13, 14, 15, 16, 17, 18, 19, 20], [0, 1, 2, 3, 4, 5, 6, 7, 8, 9, 10, 11, 12, 13, 14, 15, 16, 17, 18, 19, 20, 21], [0, 1, 2, 3, 4, 5, 6, 7, 8, 9, 10, 11, 12, 13, 14, 15, 16, 17, 18, 19, 20, 21, 22]] (
    .n (zA (Lk.t rfl)) <|
    .n (zA (Lk.t rfl)) <|
    .n (zA (Lk.t rfl)) <|
    .n (op_index_sk (mk := mtU) mtD sl24 mtU_len (Lk.t rfl) (Lk.t rfl) (by omega) (by omega)) <|
    .n (op_field_ptr fd28_2 (Lk.t rfl) rfl) <|
    .n (op_load_sc sc26 (Lk.t rfl) rfl) <|
    .n (zA (Lk.t rfl)) <|
    .n (zA (Lk.t rfl)) <|
    .n (zA (Lk.t rfl)) <|
    .n (op_index_sk (mk := mtU) mtD sl24 mtU_len (Lk.t rfl) (Lk.t rfl) (by omega) (by omega)) <|
    .n (op_field_ptr fd28_1 (Lk.t rfl) rfl) <|
    .n (op_load_sc sc3 (Lk.t rfl) rfl) <|
    .n (op_mul (Lk.t rfl) (Lk.t rfl) (zO (by omega) (by omega))) <|
    .n (zA (Lk.t rfl)) <|
    .n (op_add (Lk.t rfl) (Lk.k rfl) (zO (by omega) (by omega))) <|
    .n (zA (Lk.t rfl)) <|
    .n (zA (Lk.t rfl)) <|
    .n (op_index_sk (mk := mtU) mtD sl24 mtU_len (Lk.t rfl) (Lk.t rfl) (by omega) (by omega)) <|
    .n (op_field_ptr fd28_1 (Lk.t rfl) rfl) <|
    .n (op_load_sc sc3 (Lk.t rfl) rfl) <|
    .n (op_mul (Lk.t rfl) (Lk.t rfl) (zO (by omega) (by omega))) <|
    .n (op_slice_m sl26 (Lk.t rfl) (Lk.t rfl) (Lk.t rfl) (by omega) (by omega) (by omega)) <|
    .w 0 (op_append_ms 0 sl26 zr36 rfl (Lk.t rfl) (Lk.t rfl) rfl (by omega) (by omega)) <|
    .n (op_assign_ve rfl rfl) <| .nil) (fun _ => mixed) rfl fun g5 => ⟨_, _, [0], rfl, (.cons 0 rfl <| .cons 1 rfl <| .cons 5 rfl <| .cons 6 rfl <| .nil), (.cons 0 rfl <| .nil), ?_⟩)
  refine zR ?_
  refine zC ?_
  refine (zG [] (
    .n (zA (Lk.t rfl)) <|
    .n (op_add (Lk.t rfl) (Lk.k rfl) (zO (by omega) (by omega))) <|
    .n (zB (Lk.t rfl)) <| .nil) ff rfl fun g6 => ⟨_, _, [0], rfl, (.cons 0 rfl <| .cons 1 rfl <| .cons 5 rfl <| .cons 6 rfl <| .nil), (.cons 0 rfl <| .nil), ?_⟩)
  exact JN_again (k + 1, g5 35) (by exact (show k + 1 ≤ ms.length by omega)) (by show ms.length - (_ + 1) < _; omega) (To.pick (fun _ => .sub (t := 6) rfl (sp_eq (by rfl)) <| .sub (t := 5) rfl (sp_eq (by rfl)) <| .cons 0 rfl <| .cons 1 rfl <| .nil) (fun _ => .sub 0 rfl ((res_eq (by rw [← bes_step h (by omega) (by omega)]; rfl))) <| .nil) (ks := [0]) rfl)
 ·have h1' := h1
  try simp only [cmpB, Z] at h1
  obtain rfl : k = ms.length := by omega
  refine J_exit ?_
  refine zE ?_
  refine zE ?_
  refine zS ?_
  refine zC ?_
  refine zF (zG [] (
    .n (zA (Lk.t rfl)) <|
    .n (zB (Lk.t rfl)) <| .nil) ff rfl fun g7 => ⟨_, _, [0], rfl, (.cons 4 rfl <| .nil), (.cons 0 rfl <| .nil), ?_⟩)
  refine zC ?_
  refine J_ret ?_
  refine JN_to (To.freeze 0 (fun _ h => h) rfl frz_som rfl) ?_
  refine zQ (.cons (.tmp (Lk.t rfl)) <| .nil) (zM (sb_res1 (sb_fk 0 rfl)) ?_)
  exact zL
theorem root_ok {ms : List Mt} (hb : GoodMs ms) : Ct Tryz.prog 3 [slk 3 mtW ms] (isv (.bool true)) := by
 refine Ct.of Tryz.func3 rfl (by kernel_rfl) rfl fun c0 => ?_
 have hlt := goodMs_lt hb
 have hEq := rtriM_eq hlt
 have hb2 := hb.2
 refine zF (zG [] (
   .n (zB (Lk.k rfl)) <| .nil) ff rfl fun g1 => ⟨_, _, [], rfl, (.cons 0 rfl <| .nil), (.nil), ?_⟩)
 refine zC ?_
 refine zF ?_
 refine zF (zG [] (
   .n (zP (awake_ok) trivial) <|
   .n (op_not (Lk.t rfl)) <| .nil) ff rfl fun g2 => ⟨_, _, [], rfl, (.cons 0 rfl <| .cons 18 rfl <| .nil), (.nil), ?_⟩)
 refine zC ?_
 refine zH (zK (Lk.t rfl)) (fun h1 => ?_) (fun h1 => ?_)
 ·have h1' := h1
  try simp only [cmpB, Z] at h1
  cases h1'
 ·have h1' := h1
  try simp only [cmpB, Z] at h1
  refine J_skip ?_
  refine zC ?_
  refine zF (zG [] (
    .n (zA (Lk.t rfl)) <|
    .n (zP (qall_ok hb) ⟨(Lk.t rfl),  trivial⟩) <|
    .n (zB (Lk.t rfl)) <| .nil) ff rfl fun g3 => ⟨_, _, [], rfl, (.cons 3 rfl <| .nil), (.nil), ?_⟩)
  refine zC ?_
  refine J_to (To.emps 1) ?_
  refine zF (zG [] (
    .n (zA (Lk.t rfl)) <|
    .n (zP (tri_ok hlt) ⟨(Lk.t rfl),  trivial⟩) <|
    .n (zA (Lk.t rfl)) <|
    .n (op_extract (Lk.t rfl) rfl) <|
    .n (op_extract (Lk.t rfl) rfl) <|
    .w 0 (op_alloc 0 zr28 rfl rfl) <|
    .w 0 (op_store_new 0 rfl (Lk.t rfl) co_agg sz28 rfl rfl) <|
    .n (zB (Lk.t rfl)) <| .nil) ff rfl fun g4 => ⟨_, _, [0], rfl, (.cons 3 rfl <| .cons 4 rfl <| .cons 5 rfl <| .nil), (.cons 0 rfl <| .nil), ?_⟩)
  refine zC ?_
  refine zF ?_
  refine zF (zG [] (
    .n (zA (Lk.t rfl)) <|
    .n (op_cmp (by simp) (Lk.t rfl) (Lk.k rfl) rfl) <| .nil) ff rfl fun g5 => ⟨_, _, [0], rfl, (.cons 3 rfl <| .cons 4 rfl <| .cons 27 rfl <| .nil), (.cons 0 rfl <| .nil), ?_⟩)
  refine zC ?_
  refine zH (zK (Lk.t rfl)) (fun h2 => ?_) (fun h2 => ?_)
  ·have h2' := h2
   try simp only [cmpB, Z] at h2
   refine zF (zG [] (
     .n (zI fd28_2 (Lk.t rfl) rfl) <|
     .r 0 (zN 0 sc26 (Lk.t rfl) rfl zJ rfl) <|
     .n (op_len_m sl26 (Lk.t rfl)) <|
     .n (op_cmp (by simp) (Lk.t rfl) (Lk.k rfl) rfl) <|
     .n (zB (Lk.t rfl)) <| .nil) ff rfl fun g6 => ⟨_, _, [], rfl, (.cons 2 rfl <| .nil), (.nil), ?_⟩)
   refine zC ?_
   refine J_ret ?_
   refine zD ?_
   refine zQ (.cons (.tmp (Lk.t rfl)) <| .nil) (zM (sb_res1 zL) ?_)
   exact ret_b (by rw [tri_nil h2']; rfl)
  ·have h2' := h2
   try simp only [cmpB, Z] at h2
   obtain ⟨n, hR⟩ := rootB_all hlt h2'
   have hR0 := hR.b.h0
   have hRnd := hR.nd
   have hRn12 := hR.n12
   have hRr := hR.Tr
   have hRc := hR.Tc
   have hRl := hR.Tl
   have hRg := root_good hR
   have hnn := hRg.1.mul
   refine J_skip ?_
   refine zC ?_
   refine zF ?_
   refine J_to (To.emps 1) ?_
   refine zF (zG [] (
     .n (zA (Lk.t rfl)) <|
     .n (zP (rtri_ok hlt) ⟨(Lk.t rfl),  trivial⟩) <|
     .n (zA (Lk.t rfl)) <|
     .n (op_extract (Lk.t rfl) rfl) <|
     .n (op_extract (Lk.t rfl) rfl) <|
     .w 1 (op_alloc 1 zr28 rfl rfl) <|
     .w 1 (op_store_new 1 rfl (Lk.t rfl) co_agg sz28 rfl rfl) <|
     .n (zB (Lk.t rfl)) <| .nil) ff rfl fun g7 => ⟨_, _, [0], rfl, (.cons 3 rfl <| .cons 4 rfl <| .cons 7 rfl <| .nil), (.cons 0 rfl <| .nil), ?_⟩)
   refine zC ?_
   refine zF (zG [] (
     .n (zA (Lk.t rfl)) <|
     .n (op_cmp (by simp) (Lk.t rfl) (Lk.k rfl) rfl) <| .nil) ff rfl fun g8 => ⟨_, _, [0], rfl, (.cons 3 rfl <| .cons 4 rfl <| .cons 38 rfl <| .nil), (.cons 0 rfl <| .nil), ?_⟩)
   refine zC ?_
   refine zH (zK (Lk.t rfl)) (fun h3 => ?_) (fun h3 => ?_)
   ·have h3' := h3
    try simp only [cmpB, Z] at h3
    exact absurd h3' (by rw [hEq]; simpa [cmpB] using h2')
   ·have h3' := h3
    try simp only [cmpB, Z] at h3
    refine J_skip ?_
    refine zC ?_
    refine zF (zG [] (
      .n (zA (Lk.t rfl)) <|
      .n (op_index_sk (mk := mtU) mtD sl24 mtU_len (Lk.t rfl) (Lk.k rfl) (by omega) (by omega)) <|
      .n (op_field_ptr fd28_0 (Lk.t rfl) rfl) <|
      .n (op_load_sc sc3 (Lk.t rfl) rfl) <|
      .n (zB (Lk.t rfl)) <| .nil) ff rfl fun g9 => ⟨_, _, [0], rfl, (.cons 3 rfl <| .cons 4 rfl <| .cons 8 rfl <| .nil), (.cons 0 rfl <| .nil), ?_⟩)
    refine zC ?_
    refine zF ?_
    refine J_to (To.slot 8 rfl (q := isv (.int .i64 (n : Int))) (sb_eq (by rw [← hR.nd]; rfl))) ?_
    refine zF (zG [] (
      .n (zI fd28_0 (Lk.t rfl) rfl) <|
      .r 0 (zN 0 sc3 (Lk.t rfl) rfl zJ rfl) <|
      .n (zA (Lk.t rfl)) <|
      .n (op_cmp (by simp) (Lk.t rfl) (Lk.t rfl) rfl) <|
      .n (zA (Lk.t rfl)) <|
      .n (op_guard rfl rfl (gd_b rfl) (fun hC => (zI fd28_1 (Lk.t rfl) rfl))) <|
      .r 0 (op_guard rfl rfl (gd_b rfl) (fun hC => (zN 0 sc3 (Lk.w rfl hC) rfl zJ rfl))) <|
      .n (op_guard rfl rfl (gd_b rfl) (fun hC => (zA (Lk.t rfl)))) <|
      .n (op_guard rfl rfl (gd_b rfl) (fun hC => (op_cmp (by simp) (Lk.w rfl hC) (Lk.w rfl hC) rfl))) <|
      .n (op_or (Lk.t rfl) (fun h2 => (Lk.w rfl h2))) <|
      .n (zA (Lk.t rfl)) <|
      .n (op_guard rfl rfl (gd_b rfl) (fun hC => (zI fd28_2 (Lk.t rfl) rfl))) <|
      .r 0 (op_guard rfl rfl (gd_b rfl) (fun hC => (zN 0 sc26 (Lk.w rfl hC) rfl zJ rfl))) <|
      .n (op_guard rfl rfl (gd_b rfl) (fun hC => (op_len_m sl26 (Lk.w rfl hC)))) <|
      .n (op_guard rfl rfl (gd_b rfl) (fun hC => (zA (Lk.t rfl)))) <|
      .n (op_guard rfl rfl (gd_b rfl) (fun hC => (zA (Lk.t rfl)))) <|
      .n (op_guard rfl rfl (gd_b rfl) (fun hC => (op_mul (Lk.w rfl hC) (Lk.w rfl hC) (zO (by omega) (by omega))))) <|
      .n (op_guard rfl rfl (gd_b rfl) (fun hC => (op_cmp (by simp) (Lk.w rfl hC) (Lk.w rfl hC) rfl))) <|
      .n (op_or (Lk.t rfl) (fun h2 => (Lk.w rfl h2))) <| .nil) ff rfl fun g10 => ⟨_, _, [0], rfl, (.cons 3 rfl <| .cons 4 rfl <| .cons 8 rfl <| .cons 61 rfl <| .nil), (.cons 0 rfl <| .nil), ?_⟩)
    refine zC ?_
    refine zH (zK (Lk.t rfl)) (fun h4 => ?_) (fun h4 => ?_)
    ·have h4' := h4
     try simp only [cmpB, Z] at h4
     exact (root_no hR h4').elim
    ·have h4' := h4
     try simp only [cmpB, Z] at h4
     refine J_skip ?_
     refine zC ?_
     refine zF ?_
     refine zF (zG [] (
       .n (zB (Lk.k rfl)) <| .nil) ff rfl fun g11 => ⟨_, _, [0], rfl, (.cons 3 rfl <| .cons 4 rfl <| .cons 8 rfl <| .cons 9 rfl <| .nil), (.cons 0 rfl <| .nil), ?_⟩)
     refine zC ?_
     refine zT ?_
     refine J_loopc (α := Nat) (fun i => i ≤ n) (fun i => n - i) (fun i restR => (9, isv (.int .i64 (i : Int))) :: restR) (fun i restS => restS) (ρc := [(3, _), (4, _), (8, _)]) (σc := [_]) 0 (by exact Nat.zero_le _) (To.pick (fun _ => .sub (t := 9) rfl (sp_eq (by rfl)) <| .cons 3 rfl <| .cons 4 rfl <| .cons 8 rfl <| .nil) (fun _ => .cons 0 rfl <| .nil) (ks := [0]) rfl) (fun i hI => ?_)
     refine zF ?_
     refine zF (zG [] (
       .n (zA (Lk.t rfl)) <|
       .n (zA (Lk.t rfl)) <|
       .n (op_cmp (by simp) (Lk.t rfl) (Lk.t rfl) rfl) <| .nil) ff rfl fun g12 => ⟨_, _, [0], rfl, (.cons 3 rfl <| .cons 4 rfl <| .cons 8 rfl <| .cons 9 rfl <| .cons 64 rfl <| .nil), (.cons 0 rfl <| .nil), ?_⟩)
     refine zC ?_
     refine zH (zK (Lk.t rfl)) (fun h5 => ?_) (fun h5 => ?_)
     ·have h5' := h5
      try simp only [cmpB, Z] at h5
      refine J_skip ?_
      refine zC ?_
      refine zF ?_
      refine zT ?_
      refine zF ?_
      refine zF (zG [] (
        .n (zA (Lk.t rfl)) <|
        .n (op_add (Lk.t rfl) (Lk.k rfl) (zO (by omega) (by omega))) <|
        .n (zB (Lk.t rfl)) <| .nil) ff rfl fun g13 => ⟨_, _, [0], rfl, (.cons 3 rfl <| .cons 4 rfl <| .cons 8 rfl <| .cons 9 rfl <| .cons 10 rfl <| .nil), (.cons 0 rfl <| .nil), ?_⟩)
      refine zC ?_
      refine zT ?_
      refine J_loopc (α := Nat) (fun j => i < j ∧ j ≤ n) (fun j => n - j) (fun j restR => (10, isv (.int .i64 (j : Int))) :: restR) (fun j restS => restS) (ρc := [(3, _), (4, _), (8, _), (9, _)]) (σc := [_]) (i + 1) (by exact ⟨by omega, by omega⟩) (To.pick (fun _ => .sub (t := 10) rfl (sp_eq (by rfl)) <| .cons 3 rfl <| .cons 4 rfl <| .cons 8 rfl <| .cons 9 rfl <| .nil) (fun _ => .cons 0 rfl <| .nil) (ks := [0]) rfl) (fun j hI => ?_)
      refine zF ?_
      refine zF (zG [] (
        .n (zA (Lk.t rfl)) <|
        .n (zA (Lk.t rfl)) <|
        .n (op_cmp (by simp) (Lk.t rfl) (Lk.t rfl) rfl) <| .nil) ff rfl fun g14 => ⟨_, _, [0], rfl, (.cons 3 rfl <| .cons 4 rfl <| .cons 8 rfl <| .cons 9 rfl <| .cons 10 rfl <| .cons 71 rfl <| .nil), (.cons 0 rfl <| .nil), ?_⟩)
      refine zC ?_
      refine zH (zK (Lk.t rfl)) (fun h6 => ?_) (fun h6 => ?_)
      ·have h6' := h6
       try simp only [cmpB, Z] at h6
       have hij := (show Pl (n : Int) (n : Int) (i : Int) (j : Int) from ⟨by omega, by omega, by omega, by omega⟩).rng hRg.1
       have hnan := fin_not_nan (root_fin hR ((i : Int) * (n : Int) + (j : Int)).toNat).1
       refine J_skip ?_
       refine zC ?_
       refine zF ?_
       refine zT ?_
       refine zF (zG [] (
         .n (zI fd28_2 (Lk.t rfl) rfl) <|
         .r 0 (zN 0 sc26 (Lk.t rfl) rfl zJ rfl) <|
         .n (zA (Lk.t rfl)) <|
         .n (zA (Lk.t rfl)) <|
         .n (op_mul (Lk.t rfl) (Lk.t rfl) (zO (by omega) (by omega))) <|
         .n (zA (Lk.t rfl)) <|
         .n (op_add (Lk.t rfl) (Lk.t rfl) (zO (by omega) (by omega))) <|
         .n (op_index_m 0 sl26 (Lk.t rfl) (Lk.t rfl) (by omega) (by omega)) <|
         .n (op_load_sc sc36 (Lk.t rfl) rfl) <|
         .n (op_f64bitsn bitsX hnan (Lk.t rfl)) <|
         .n (op_cmp (by simp) (Lk.t rfl) (Lk.k rfl) rfl) <| .nil) ff rfl fun g15 => ⟨_, _, [0], rfl, (.cons 3 rfl <| .cons 4 rfl <| .cons 8 rfl <| .cons 9 rfl <| .cons 10 rfl <| .cons 84 rfl <| .nil), (.cons 0 rfl <| .nil), ?_⟩)
       refine zC ?_
       refine zH (zK (Lk.t rfl)) (fun h7 => ?_) (fun h7 => ?_)
       ·have h7' := h7
        try simp only [cmpB, Z] at h7
        exact absurd h7' (by rw [root_up hR hI.1 (by omega)]; decide)
       ·have h7' := h7
        try simp only [cmpB, Z] at h7
        refine J_skip ?_
        refine zR ?_
        refine zC ?_
        refine (zG [] (
          .n (zA (Lk.t rfl)) <|
          .n (op_add (Lk.t rfl) (Lk.k rfl) (zO (by omega) (by omega))) <|
          .n (zB (Lk.t rfl)) <| .nil) ff rfl fun g16 => ⟨_, _, [0], rfl, (.cons 3 rfl <| .cons 4 rfl <| .cons 8 rfl <| .cons 9 rfl <| .cons 10 rfl <| .nil), (.cons 0 rfl <| .nil), ?_⟩)
        exact JN_again (j + 1) (by exact ⟨by omega, by omega⟩) (by omega) (To.pick (fun _ => .sub (t := 10) rfl (sp_eq (by rfl)) <| .cons 3 rfl <| .cons 4 rfl <| .cons 8 rfl <| .cons 9 rfl <| .nil) (fun _ => .cons 0 rfl <| .nil) (ks := [0]) rfl)
      ·have h6' := h6
       try simp only [cmpB, Z] at h6
       have hii := (show Pl (n : Int) (n : Int) (i : Int) (i : Int) from ⟨by omega, by omega, by omega, by omega⟩).rng hRg.1
       refine J_exit ?_
       refine zE ?_
       refine zE ?_
       refine zS ?_
       refine zC ?_
       refine zF (zG [] (
         .n (zI fd28_2 (Lk.t rfl) rfl) <|
         .r 0 (zN 0 sc26 (Lk.t rfl) rfl zJ rfl) <|
         .n (zA (Lk.t rfl)) <|
         .n (zA (Lk.t rfl)) <|
         .n (op_mul (Lk.t rfl) (Lk.t rfl) (zO (by omega) (by omega))) <|
         .n (zA (Lk.t rfl)) <|
         .n (op_add (Lk.t rfl) (Lk.t rfl) (zO (by omega) (by omega))) <|
         .n (op_index_m 0 sl26 (Lk.t rfl) (Lk.t rfl) (by omega) (by omega)) <|
         .n (op_load_sc sc36 (Lk.t rfl) rfl) <|
         .n (op_fcmp (by simp) (Lk.t rfl) (Lk.fk rfl (by decide +kernel)) rfl) <|
         .n (op_not (Lk.t rfl)) <| .nil) ff rfl fun g17 => ⟨_, _, [0], rfl, (.cons 3 rfl <| .cons 4 rfl <| .cons 8 rfl <| .cons 9 rfl <| .cons 95 rfl <| .nil), (.cons 0 rfl <| .nil), ?_⟩)
       refine zC ?_
       refine zH (zK (Lk.t rfl)) (fun h8 => ?_) (fun h8 => ?_)
       ·have h8' := h8
        try simp only [cmpB, Z] at h8
        exact absurd h8' (by rw [root_dia hR (by omega)]; decide)
       ·have h8' := h8
        try simp only [cmpB, Z] at h8
        refine J_skip ?_
        refine zR ?_
        refine zC ?_
        refine (zG [] (
          .n (zA (Lk.t rfl)) <|
          .n (op_add (Lk.t rfl) (Lk.k rfl) (zO (by omega) (by omega))) <|
          .n (zB (Lk.t rfl)) <| .nil) ff rfl fun g18 => ⟨_, _, [0], rfl, (.cons 3 rfl <| .cons 4 rfl <| .cons 8 rfl <| .cons 9 rfl <| .nil), (.cons 0 rfl <| .nil), ?_⟩)
        exact JN_again (i + 1) (by omega) (by omega) (To.pick (fun _ => .sub (t := 9) rfl (sp_eq (by rfl)) <| .cons 3 rfl <| .cons 4 rfl <| .cons 8 rfl <| .nil) (fun _ => .cons 0 rfl <| .nil) (ks := [0]) rfl)
     ·have h5' := h5
      try simp only [cmpB, Z] at h5
      refine J_exit ?_
      refine zE ?_
      refine zE ?_
      refine zS ?_
      refine zC ?_
      refine zF ?_
      refine zF (zG [] (
        .n (zB (Lk.k rfl)) <| .nil) ff rfl fun g19 => ⟨_, _, [0], rfl, (.cons 3 rfl <| .cons 4 rfl <| .cons 8 rfl <| .cons 11 rfl <| .nil), (.cons 0 rfl <| .nil), ?_⟩)
      refine zC ?_
      refine zT ?_
      refine J_loopc (α := Nat) (fun k => k ≤ (ms.map mcn).length ∧ ∀ q, q < k → allTB ((ms.map mcn).getD q mtD).a 400 = true) (fun k => (ms.map mcn).length - k) (fun k restR => (11, isv (.int .i64 (k : Int))) :: restR) (fun k restS => restS) (ρc := [(3, _), (4, _), (8, _)]) (σc := [_]) 0 (by exact ⟨Nat.zero_le _, fun q h => absurd h (Nat.not_lt_zero q)⟩) (To.pick (fun _ => .sub (t := 11) rfl (sp_eq (by rfl)) <| .cons 3 rfl <| .cons 4 rfl <| .cons 8 rfl <| .nil) (fun _ => .cons 0 rfl <| .nil) (ks := [0]) rfl) (fun k hI => ?_)
      refine zF ?_
      refine zF (zG [] (
        .n (zA (Lk.t rfl)) <|
        .n (zA (Lk.t rfl)) <|
        .n (op_len_sk sl24 (Lk.t rfl)) <|
        .n (op_cmp (by simp) (Lk.t rfl) (Lk.t rfl) rfl) <| .nil) ff rfl fun g20 => ⟨_, _, [0], rfl, (.cons 3 rfl <| .cons 4 rfl <| .cons 8 rfl <| .cons 11 rfl <| .cons 99 rfl <| .nil), (.cons 0 rfl <| .nil), ?_⟩)
      refine zC ?_
      refine zH (zK (Lk.t rfl)) (fun h9 => ?_) (fun h9 => ?_)
      ·have h9' := h9
       try simp only [cmpB, Z] at h9
       have hlen2 : ((ms.map mcn).length : Int) < 9223372036854775807 := by rw [List.length_map]; omega
       refine J_skip ?_
       refine zC ?_
       refine zF ?_
       refine zT ?_
       refine zF (zG [] (
         .n (zA (Lk.t rfl)) <|
         .n (zA (Lk.t rfl)) <|
         .n (op_index_sk (mk := mtU) mtD sl24 mtU_len (Lk.t rfl) (Lk.t rfl) (by omega) (by omega)) <|
         .n (op_field_ptr fd28_2 (Lk.t rfl) rfl) <|
         .n (op_load_sc sc26 (Lk.t rfl) rfl) <|
         .n (zP (alltame_ok (by decide) (by decide)) ⟨(Lk.t rfl), (Lk.k rfl),  trivial⟩) <|
         .n (op_not (Lk.t rfl)) <| .nil) ff rfl fun g21 => ⟨_, _, [0], rfl, (.cons 3 rfl <| .cons 4 rfl <| .cons 8 rfl <| .cons 11 rfl <| .cons 108 rfl <| .nil), (.cons 0 rfl <| .nil), ?_⟩)
       refine zC ?_
       refine zH (zK (Lk.t rfl)) (fun h10 => ?_) (fun h10 => ?_)
       ·have h10' := h10
        try simp only [cmpB, Z] at h10
        refine zF (zG [] (
          .n (zB (Lk.k rfl)) <| .nil) ff rfl fun g22 => ⟨_, _, [], rfl, (.cons 2 rfl <| .nil), (.nil), ?_⟩)
        refine zC ?_
        refine J_ret ?_
        refine JN_block_ret ?_
        refine zD ?_
        refine zD ?_
        refine JN_block_ret ?_
        refine zD ?_
        refine zQ (.cons (.tmp (Lk.t rfl)) <| .nil) (zM (sb_res1 zL) ?_)
        exact zL
       ·have h10' := h10
        try simp only [cmpB, Z] at h10
        refine J_skip ?_
        refine zR ?_
        refine zC ?_
        refine (zG [] (
          .n (zA (Lk.t rfl)) <|
          .n (op_add (Lk.t rfl) (Lk.k rfl) (zO (by omega) (by omega))) <|
          .n (zB (Lk.t rfl)) <| .nil) ff rfl fun g23 => ⟨_, _, [0], rfl, (.cons 3 rfl <| .cons 4 rfl <| .cons 8 rfl <| .cons 11 rfl <| .nil), (.cons 0 rfl <| .nil), ?_⟩)
        exact JN_again (k + 1) (by exact ⟨by omega, tam_step hI.2 (not_b h10')⟩) (by omega) (To.pick (fun _ => .sub (t := 11) rfl (sp_eq (by rfl)) <| .cons 3 rfl <| .cons 4 rfl <| .cons 8 rfl <| .nil) (fun _ => .cons 0 rfl <| .nil) (ks := [0]) rfl)
      ·have h9' := h9
       try simp only [cmpB, Z] at h9
       have hTm : ∀ k, k < (ms.map mcn).length → allTB ((ms.map mcn).getD k mtD).a 400 = true := fun q hq => hI.2 q (by omega)
       refine J_exit ?_
       refine zE ?_
       refine zE ?_
       refine zS ?_
       refine zC ?_
       refine zF ?_
       refine zF (zG [] (
         .n (zB (Lk.k rfl)) <| .nil) ff rfl fun g24 => ⟨_, _, [0], rfl, (.cons 3 rfl <| .cons 4 rfl <| .cons 8 rfl <| .cons 12 rfl <| .nil), (.cons 0 rfl <| .nil), ?_⟩)
       refine zC ?_
       refine zT ?_
       refine J_loopc (α := Nat) (fun p => p ≤ n) (fun p => n - p) (fun p restR => (12, isv (.int .i64 (p : Int))) :: restR) (fun p restS => restS) (ρc := [(3, _), (4, _), (8, _)]) (σc := [_]) 0 (by exact Nat.zero_le _) (To.pick (fun _ => .sub (t := 12) rfl (sp_eq (by rfl)) <| .cons 3 rfl <| .cons 4 rfl <| .cons 8 rfl <| .nil) (fun _ => .cons 0 rfl <| .nil) (ks := [0]) rfl) (fun p hI => ?_)
       refine zF ?_
       refine zF (zG [] (
         .n (zA (Lk.t rfl)) <|
         .n (zA (Lk.t rfl)) <|
         .n (op_cmp (by simp) (Lk.t rfl) (Lk.t rfl) rfl) <| .nil) ff rfl fun g25 => ⟨_, _, [0], rfl, (.cons 3 rfl <| .cons 4 rfl <| .cons 8 rfl <| .cons 12 rfl <| .cons 111 rfl <| .nil), (.cons 0 rfl <| .nil), ?_⟩)
       refine zC ?_
       refine zH (zK (Lk.t rfl)) (fun h11 => ?_) (fun h11 => ?_)
       ·have h11' := h11
        try simp only [cmpB, Z] at h11
        refine J_skip ?_
        refine zC ?_
        refine zF ?_
        refine zT ?_
        refine zF (zG [] (
          .n (zB (Lk.k rfl)) <| .nil) ff rfl fun g26 => ⟨_, _, [0], rfl, (.cons 3 rfl <| .cons 4 rfl <| .cons 8 rfl <| .cons 12 rfl <| .cons 13 rfl <| .nil), (.cons 0 rfl <| .nil), ?_⟩)
        refine zC ?_
        refine zT ?_
        refine J_loopc (α := Nat) (fun q => q ≤ p + 1) (fun q => p + 1 - q) (fun q restR => (13, isv (.int .i64 (q : Int))) :: restR) (fun q restS => restS) (ρc := [(3, _), (4, _), (8, _), (12, _)]) (σc := [_]) 0 (by exact Nat.zero_le _) (To.pick (fun _ => .sub (t := 13) rfl (sp_eq (by rfl)) <| .cons 3 rfl <| .cons 4 rfl <| .cons 8 rfl <| .cons 12 rfl <| .nil) (fun _ => .cons 0 rfl <| .nil) (ks := [0]) rfl) (fun q hI => ?_)
        refine zF ?_
        refine zF (zG [] (
          .n (zA (Lk.t rfl)) <|
          .n (zA (Lk.t rfl)) <|
          .n (op_cmp (by simp) (Lk.t rfl) (Lk.t rfl) rfl) <| .nil) ff rfl fun g27 => ⟨_, _, [0], rfl, (.cons 3 rfl <| .cons 4 rfl <| .cons 8 rfl <| .cons 12 rfl <| .cons 13 rfl <| .cons 116 rfl <| .nil), (.cons 0 rfl <| .nil), ?_⟩)
        refine zC ?_
        refine zH (zK (Lk.t rfl)) (fun h12 => ?_) (fun h12 => ?_)
        ·have h12' := h12
         try simp only [cmpB, Z] at h12
         have hW := root_w hR hTm (i := p) (j := q) (by omega) (by omega)
         obtain ⟨hq1, hq2, hq3⟩ := row_rng (c := (n : Int)) (p := p) (by omega) (by omega)
         obtain ⟨hq4, hq5, hq6⟩ := row_rng (c := (n : Int)) (p := q) (by omega) (by omega)
         refine J_skip ?_
         refine zC ?_
         refine zF ?_
         refine zT ?_
         refine zF (zG [] (
           .n (zA (Lk.t rfl)) <|
           .n (zA (Lk.t rfl)) <|
           .n (zP (qrow_ok hR.b (by omega)) ⟨(Lk.t rfl), (Lk.t rfl),  trivial⟩) <|
           .n (zA (Lk.t rfl)) <|
           .n (zA (Lk.t rfl)) <|
           .n (zP (qrow_ok hR.b (by omega)) ⟨(Lk.t rfl), (Lk.t rfl),  trivial⟩) <|
           .n (zB (Lk.t rfl)) <|
           .n (zB (Lk.t rfl)) <| .nil) ff rfl fun g28 => ⟨_, _, [0], rfl, (.cons 3 rfl <| .cons 4 rfl <| .cons 8 rfl <| .cons 12 rfl <| .cons 13 rfl <| .cons 14 rfl <| .cons 15 rfl <| .nil), (.cons 0 rfl <| .nil), ?_⟩)
         refine zC ?_
         refine J_to (To.emps 1) ?_
         refine zF (zG [[], [0], [], [], [2, 3], [], [5], [], [5, 6, 7], [0, 1, 2, 3, 4, 5, 6, 7, 8], [], [10], [], [], [12, 13], [], [15], [], [15, 16, 17], [10, 11, 12, 13, 14, 15, 16, 17, 18], [0, 1, 2, 3, 4, 5, 6, 7, 8, 9, 10, 11, 12, 13, 14, 15, 16, 17, 18, 19], [], [], [0, 1, 2, 3, 4, 5, 6, 7, 8, 9, 10, 11, 12, 13, 14, 15, 16, 17, 18, 19, 20, 21, 22], [0, 1, 2, 3, 4, 5, 6, 7, 8, 9, 10, 11, 12, 13, 14, 15, 16, 17, 18, 19, 20, 21, 22, 23], [0, 1, 2, 3, 4, 5, 6, 7, 8, 9, 10, 11, 12, 13, 14, 15, 16, 17, 18, 19, 20, 21, 22, 23, 24], [], [0, 1, 2, 3, 4, 5, 6, 7, 8, 9, 10, 11, 12, 13, 14, 15, 16, 17, 18, 19, 20, 21, 22, 23, 24, 25, 26]] (
           .n (zI fd28_2 (Lk.t rfl) rfl) <|
           .r 0 (zN 0 sc26 (Lk.t rfl) rfl zJ rfl) <|
           .n (zA (Lk.t rfl)) <|
           .n (zA (Lk.t rfl)) <|
           .n (op_mul (Lk.t rfl) (Lk.t rfl) (zO (by omega) (by omega))) <|
           .n (zA (Lk.t rfl)) <|
           .n (op_add (Lk.t rfl) (Lk.k rfl) (zO (by omega) (by omega))) <|
           .n (zA (Lk.t rfl)) <|
           .n (op_mul (Lk.t rfl) (Lk.t rfl) (zO (by omega) (by omega))) <|
           .n (op_slice_m sl26 (Lk.t rfl) (Lk.t rfl) (Lk.t rfl) (by omega) (by omega) (by omega)) <|
           .n (zI fd28_2 (Lk.t rfl) rfl) <|
           .r 0 (zN 0 sc26 (Lk.t rfl) rfl zJ rfl) <|
           .n (zA (Lk.t rfl)) <|
           .n (zA (Lk.t rfl)) <|
           .n (op_mul (Lk.t rfl) (Lk.t rfl) (zO (by omega) (by omega))) <|
           .n (zA (Lk.t rfl)) <|
           .n (op_add (Lk.t rfl) (Lk.k rfl) (zO (by omega) (by omega))) <|
           .n (zA (Lk.t rfl)) <|
           .n (op_mul (Lk.t rfl) (Lk.t rfl) (zO (by omega) (by omega))) <|
           .n (op_slice_m sl26 (Lk.t rfl) (Lk.t rfl) (Lk.t rfl) (by omega) (by omega) (by omega)) <|
           .n (zP (dotr_ok (by omega) hRl hW.d1 (by omega) (by omega)) ⟨(Lk.t rfl), (Lk.t rfl),  trivial⟩) <|
           .n (zA (Lk.t rfl)) <|
           .n (zA (Lk.t rfl)) <|
           .n (zP (xdot_ok hW.d2) ⟨(Lk.t rfl), (Lk.t rfl),  trivial⟩) <|
           .n (zP (xneg_ok hW.e2) ⟨(Lk.t rfl),  trivial⟩) <|
           .n (zP (xadd_ok hW.e1 hW.e2n hW.sm) ⟨(Lk.t rfl), (Lk.t rfl),  trivial⟩) <|
           .w 1 (op_alloc 1 zr41 rfl rfl) <|
           .w 1 (op_store_new 1 rfl (Lk.t rfl) co_agg sz41 rfl rfl) <| .nil) (fun _ => mixed) rfl fun g29 => ⟨_, _, [0, 1], rfl, (.cons 3 rfl <| .cons 4 rfl <| .cons 8 rfl <| .cons 12 rfl <| .cons 13 rfl <| .cons 14 rfl <| .cons 15 rfl <| .cons 16 rfl <| .nil), (.cons 0 rfl <| .cons 1 rfl <| .nil), ?_⟩)
         refine zC ?_
         refine zF (zG [[], [], [1], [], [1, 2, 3], [1, 2, 3, 4], [0, 1, 2, 3, 4, 5], [0, 1, 2, 3, 4, 5, 6]] (
           .r 1 (op_get_ag 1 ag41 (Lk.t rfl) rfl zJ rfl rfl) <|
           .n (zA (Lk.t rfl)) <|
           .n (zP (squares_ok hW.d3) ⟨(Lk.t rfl),  trivial⟩) <|
           .n (zA (Lk.t rfl)) <|
           .n (zP (squares_ok hW.d4) ⟨(Lk.t rfl),  trivial⟩) <|
           .n (zP (xmul_ok hW.e3 hW.e4) ⟨(Lk.t rfl), (Lk.t rfl),  trivial⟩) <|
           .n (zP (within_ok hW.w) ⟨(Lk.t rfl), (Lk.k rfl), (Lk.t rfl),  trivial⟩) <|
           .n (op_not (Lk.t rfl)) <| .nil) (fun _ => mixed) rfl fun g30 => ⟨_, _, [0], rfl, (.cons 3 rfl <| .cons 4 rfl <| .cons 8 rfl <| .cons 12 rfl <| .cons 13 rfl <| .cons 158 rfl <| .nil), (.cons 0 rfl <| .nil), ?_⟩)
         refine zC ?_
         refine zH (zK (Lk.t rfl)) (fun h13 => ?_) (fun h13 => ?_)
         ·have h13' := h13
          try simp only [cmpB, Z] at h13
          cases h13'
         ·have h13' := h13
          try simp only [cmpB, Z] at h13
          refine J_skip ?_
          refine zR ?_
          refine zC ?_
          refine (zG [] (
            .n (zA (Lk.t rfl)) <|
            .n (op_add (Lk.t rfl) (Lk.k rfl) (zO (by omega) (by omega))) <|
            .n (zB (Lk.t rfl)) <| .nil) ff rfl fun g31 => ⟨_, _, [0], rfl, (.cons 3 rfl <| .cons 4 rfl <| .cons 8 rfl <| .cons 12 rfl <| .cons 13 rfl <| .nil), (.cons 0 rfl <| .nil), ?_⟩)
          exact JN_again (q + 1) (by omega) (by omega) (To.pick (fun _ => .sub (t := 13) rfl (sp_eq (by rfl)) <| .cons 3 rfl <| .cons 4 rfl <| .cons 8 rfl <| .cons 12 rfl <| .nil) (fun _ => .cons 0 rfl <| .nil) (ks := [0]) rfl)
        ·have h12' := h12
         try simp only [cmpB, Z] at h12
         refine J_exit ?_
         refine zE ?_
         refine zE ?_
         refine zS ?_
         refine zR ?_
         refine zC ?_
         refine (zG [] (
           .n (zA (Lk.t rfl)) <|
           .n (op_add (Lk.t rfl) (Lk.k rfl) (zO (by omega) (by omega))) <|
           .n (zB (Lk.t rfl)) <| .nil) ff rfl fun g32 => ⟨_, _, [0], rfl, (.cons 3 rfl <| .cons 4 rfl <| .cons 8 rfl <| .cons 12 rfl <| .nil), (.cons 0 rfl <| .nil), ?_⟩)
         exact JN_again (p + 1) (by omega) (by omega) (To.pick (fun _ => .sub (t := 12) rfl (sp_eq (by rfl)) <| .cons 3 rfl <| .cons 4 rfl <| .cons 8 rfl <| .nil) (fun _ => .cons 0 rfl <| .nil) (ks := [0]) rfl)
       ·have h11' := h11
        try simp only [cmpB, Z] at h11
        refine J_exit ?_
        refine zE ?_
        refine zE ?_
        refine zS ?_
        refine zC ?_
        refine zF (zG [] (
          .n (zB (Lk.k rfl)) <| .nil) ff rfl fun g33 => ⟨_, _, [], rfl, (.cons 2 rfl <| .nil), (.nil), ?_⟩)
        refine zC ?_
        refine J_ret ?_
        refine zQ (.cons (.tmp (Lk.t rfl)) <| .nil) (zM (sb_res1 zL) ?_)
        exact zL
end Go.Proofs.YtllkellonjhalaaGreat
