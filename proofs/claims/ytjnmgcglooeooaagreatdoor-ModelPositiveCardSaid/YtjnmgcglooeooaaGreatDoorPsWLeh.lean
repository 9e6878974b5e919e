/- Printed by a program of ours (walk.py): walks of Lehmer's steps. -/
import Derived.Test.YtjnmgcglooeooaaGreatDoorPsKb
import Derived.Test.YtjnmgcglooeooaaGreatDoorProg
import Derived.KernelRfl
import Derived.Test.YtjnmgcglooeooaaGreatDoorPsTypes
import Derived.Test.YtjnmgcglooeooaaGreatDoorPsWDiv
set_option linter.unusedVariables false
set_option linter.unusedSimpArgs false
set_option maxRecDepth 20000
set_option maxHeartbeats 1000000
namespace Go.Proofs.YtjnmgcglooeooaaGreatDoor
open Go Go.Bn
attribute [local irreducible] OpOK
theorem lead_ok {X at_ : Nat} (hX : (limbs X).length ≤ 400000) (ha : at_ ≤ 32000000) (hb : X / 2 ^ at_ < 18446744073709551616) : Ct Tryz.prog 101 [ils .u32 (limbs X), isv (.int .i64 (at_ : Int))] (isv (.int .u64 ((X / 2 ^ at_ : Nat) : Int))) := by
 refine Ct.of Tryz.func101 rfl (by kernel_rfl) rfl fun c0 => ?_
 refine zF (zG [] (.n (zB (.k rfl))<|.nil) ff rfl fun g1 => ⟨_, _, [], rfl, (.k 0 rfl<|.k 1 rfl<|.nil), (.nil), ?_⟩)
 refine zC ?_
 refine zF (zG [] (.n (zA (.t rfl))<|.n (zA (.t rfl))<|.n (op_conv_int it3 it76 (.t rfl) (wr64 (by omega) (by omega) : IntKind.u64.wrap (at_ : Int) = ((at_ : Nat) : Int)))<|.n (zP (right_ok (limbs_dig _) (by omega) (by omega)) ⟨(.t rfl), (.t rfl),  trivial⟩)<|.n (zB (.t rfl))<|.nil) ff rfl fun g2 => ⟨_, _, [], rfl, (.k 5 rfl<|.nil), (.nil), ?_⟩)
 refine zC ?_
 refine J_to (To.slot 5 rfl (q := ils .u32 (limbs (X / 2 ^ at_))) (sb_eq (congrArg (fun z => ils .u32 (limbs z)) lea_x))) ?_
 refine J_len 5 rfl fun hlen => ?_
 have hmag := limbs_mag (X / 2 ^ at_)
 have hdl := limbs_dig (X / 2 ^ at_)
 refine zF (zG [] (.n (zB (.k rfl))<|.nil) ff rfl fun g3 => ⟨_, _, [], rfl, (.k 5 rfl<|.k 6 rfl<|.nil), (.nil), ?_⟩)
 refine zC ?_
 refine zF ?_
 refine zF (zG [] (.n (zA (.t rfl))<|.n (op_len_m sl86 (.t rfl))<|.n (op_sub (.t rfl) (.k rfl) (zO (by omega) (by omega)))<|.n (zB (.t rfl))<|.nil) ff rfl fun g4 => ⟨_, _, [], rfl, (.k 5 rfl<|.k 6 rfl<|.k 7 rfl<|.nil), (.nil), ?_⟩)
 refine zC ?_
 refine zT ?_
 refine J_loopc (α := Nat × Int) (fun z => LeaI (limbs (X / 2 ^ at_)) z.1 z.2) (fun z => z.1) (fun z restR => (7, isv (.int .i64 ((z.1 : Int) - 1))) :: (6, isv (.int .u64 z.2)) :: restR) (fun z restS => restS) (ρc := [(5, _)]) (σc := []) ((limbs (X / 2 ^ at_)).length, 0) (by exact lea_zero _) (To.pick (fun _ => .sub (t := 7) rfl (sp_eq (by rfl))<|.sub (t := 6) rfl (sp_eq (by rfl))<|.k 5 rfl<|.nil) (fun _ => .nil) (ks := []) rfl) (fun z hI => ?_)
 obtain ⟨k, u⟩ := z
 try simp only at hI
 show J _ _ ((7, isv (.int .i64 ((k : Int) - 1))) :: (6, isv (.int .u64 u)) :: _) (_) _ _
 refine zF ?_
 refine zF (zG [] (.n (zA (.t rfl))<|.n (op_cmp (by simp) (.t rfl) (.k rfl) rfl)<|.nil) ff rfl fun g5 => ⟨_, _, [], rfl, (.k 5 rfl<|.k 6 rfl<|.k 7 rfl<|.k 16 rfl<|.nil), (.nil), ?_⟩)
 refine zC ?_
 refine zH (zK (.t rfl)) (fun h1 => ?_) (fun h1 => ?_)
 ·try simp only [cmpB, Z] at h1
  obtain ⟨j, rfl⟩ : ∃ j, k = j + 1 := ⟨k - 1, by omega⟩
  have hIk := hI.hk
  have gl := hdl.at (k := (((j + 1 : Nat) : Int) - 1).toNat) (by omega)
  have ej : (((j + 1 : Nat) : Int) - 1).toNat = j := by omega
  have hS := lea_step hdl (by rw [hmag]; omega) hI
  refine J_skip ?_
  refine zC ?_
  refine zF ?_
  refine zT ?_
  refine (zG [] (.n (zA (.t rfl))<|.n (op_shl (.t rfl) (.k rfl) (by omega) rfl)<|.n (zA (.t rfl))<|.n (zA (.t rfl))<|.n (op_index_m 0 sl86 (.t rfl) (.t rfl) (by omega) (by omega))<|.n (op_load_sc sc132 (.t rfl) rfl)<|.n (op_conv_int it132 it37 (.t rfl) (wr64 (by omega) (by omega)))<|.n (op_bits (by simp) (.t rfl) (.t rfl) (hi64 (by omega) gl))<|.n (zB (.t rfl))<|.nil) ff rfl fun g6 => ⟨_, _, [], rfl, (.k 5 rfl<|.k 6 rfl<|.k 7 rfl<|.nil), (.nil), ?_⟩)
  refine zR ?_
  refine zC ?_
  refine (zG [] (.n (zA (.t rfl))<|.n (op_sub (.t rfl) (.k rfl) (zO (by omega) (by omega)))<|.n (zB (.t rfl))<|.nil) ff rfl fun g7 => ⟨_, _, [], rfl, (.k 5 rfl<|.k 6 rfl<|.k 7 rfl<|.nil), (.nil), ?_⟩)
  exact JN_again (j, u * 4294967296 + (limbs (X / 2 ^ at_)).getD (((j + 1 : Nat) : Int) - 1).toNat 0) (by exact (by show LeaI (limbs (X / 2 ^ at_)) j (u * 4294967296 + (limbs (X / 2 ^ at_)).getD (((j + 1 : Nat) : Int) - 1).toNat 0); rw [ej]; exact hS.1)) (by show j < j + 1; omega) (To.pick (fun _ => .sub (t := 7) rfl (sp_eq (by exact congrArg (fun z => isv (.int .i64 z)) (by omega)))<|.sub (t := 6) rfl (sp_eq (by rfl))<|.k 5 rfl<|.nil) (fun _ => .nil) (ks := []) rfl)
 ·try simp only [cmpB, Z] at h1
  obtain rfl : k = 0 := by omega
  have hu := hI.hu
  rw [List.drop_zero, hmag] at hu
  refine J_exit ?_
  refine zE ?_
  refine zE ?_
  refine zS ?_
  refine zC ?_
  refine zF (zG [] (.n (zA (.t rfl))<|.n (zB (.t rfl))<|.nil) ff rfl fun g8 => ⟨_, _, [], rfl, (.k 4 rfl<|.nil), (.nil), ?_⟩)
  refine zC ?_
  refine J_ret ?_
  refine zQ (.cons (.tmp (.t rfl))<|.nil) (zM (sb_res1 zL) ?_)
  exact sb_eq (by rw [hu])
theorem mix_ok {X Y : Nat} {u v : Int} (hX : (limbs X).length ≤ 400000) (hY : (limbs Y).length ≤ 400000) (hu : -1073741824 ≤ u ∧ u ≤ 1073741824) (hv : -1073741824 ≤ v ∧ v ≤ 1073741824) (hs : (v ≤ 0 ∧ 0 ≤ u) ∨ (0 < v ∧ u ≤ 0)) (h0 : 0 ≤ u * X + v * Y) : Ct Tryz.prog 102 [ils .u32 (limbs X), isv (.int .i64 u), ils .u32 (limbs Y), isv (.int .i64 v)] (ils .u32 (limbs (u * X + v * Y).toNat)) := by
 refine Ct.of Tryz.func102 rfl (by kernel_rfl) rfl fun c0 => ?_
 refine zF (zG [] (.n (zB (.k rfl))<|.nil) ff rfl fun g1 => ⟨_, _, [], rfl, (.k 0 rfl<|.k 1 rfl<|.k 2 rfl<|.k 3 rfl<|.nil), (.nil), ?_⟩)
 refine zC ?_
 refine zF ?_
 refine zF (zG [] (.n (zA (.t rfl))<|.n (op_cmp (by simp) (.t rfl) (.k rfl) rfl)<|.nil) ff rfl fun g2 => ⟨_, _, [], rfl, (.k 0 rfl<|.k 1 rfl<|.k 2 rfl<|.k 3 rfl<|.k 10 rfl<|.nil), (.nil), ?_⟩)
 refine zC ?_
 refine zH (zK (.t rfl)) (fun h1 => ?_) (fun h1 => ?_)
 ·try simp only [cmpB, Z] at h1
  obtain ⟨m1, m2⟩ := mix_le h0 (by omega) (by omega)
  refine zF (zG [] (.n (zA (.t rfl))<|.n (zA (.t rfl))<|.n (op_conv_int it2 it37 (.t rfl) (show IntKind.u64.wrap u = ((u.toNat : Nat) : Int) by rw [wr64 (by omega) (by omega)]; omega))<|.n (zA (.t rfl))<|.n (zA (.t rfl))<|.n (op_neg (.t rfl) (zO (by omega) (by omega)))<|.n (op_conv_int it2 it37 (.t rfl) (show IntKind.u64.wrap (-v) = (((-v).toNat : Nat) : Int) by rw [wr64 (by omega) (by omega)]; omega))<|.n (zP (spread_ok hX hY (by omega) (by omega) m1) ⟨(.t rfl), (.t rfl), (.t rfl), (.t rfl),  trivial⟩)<|.n (zB (.t rfl))<|.nil) ff rfl fun g3 => ⟨_, _, [], rfl, (.k 8 rfl<|.nil), (.nil), ?_⟩)
  refine zC ?_
  refine J_ret ?_
  refine zD ?_
  refine zQ (.cons (.tmp (.t rfl))<|.nil) (zM (sb_res1 zL) ?_)
  exact sb_eq (by rw [m2])
 ·try simp only [cmpB, Z] at h1
  obtain ⟨m1, m2⟩ := mix_le (X := Y) (Y := X) (u := v) (v := u) (by omega) (by omega) (by omega)
  refine J_skip ?_
  refine zC ?_
  refine zF (zG [] (.n (zA (.t rfl))<|.n (zA (.t rfl))<|.n (op_conv_int it2 it37 (.t rfl) (show IntKind.u64.wrap v = ((v.toNat : Nat) : Int) by rw [wr64 (by omega) (by omega)]; omega))<|.n (zA (.t rfl))<|.n (zA (.t rfl))<|.n (op_neg (.t rfl) (zO (by omega) (by omega)))<|.n (op_conv_int it2 it37 (.t rfl) (show IntKind.u64.wrap (-u) = (((-u).toNat : Nat) : Int) by rw [wr64 (by omega) (by omega)]; omega))<|.n (zP (spread_ok hY hX (by omega) (by omega) m1) ⟨(.t rfl), (.t rfl), (.t rfl), (.t rfl),  trivial⟩)<|.n (zB (.t rfl))<|.nil) ff rfl fun g4 => ⟨_, _, [], rfl, (.k 8 rfl<|.nil), (.nil), ?_⟩)
  refine zC ?_
  refine J_ret ?_
  refine zQ (.cons (.tmp (.t rfl))<|.nil) (zM (sb_res1 zL) ?_)
  exact sb_eq (by rw [m2, Int.add_comm])
theorem steps_ok {x y : Int} (hy0 : 0 ≤ y) (hyx : y ≤ x) (hxb : x < 4611686018427387904) : Ct Tryz.prog 100 [isv (.int .u64 x), isv (.int .u64 y)] (tupp [isv (.int .i64 (lehN (y.toNat + 1) (lst0 x y)).a), isv (.int .i64 (lehN (y.toNat + 1) (lst0 x y)).b), isv (.int .i64 (lehN (y.toNat + 1) (lst0 x y)).c), isv (.int .i64 (lehN (y.toNat + 1) (lst0 x y)).d)]) := by
 refine Ct.of Tryz.func100 rfl (by kernel_rfl) rfl fun c0 => ?_
 refine zF (zG [] (.n (zB (.k rfl))<|.n (zB (.k rfl))<|.n (zB (.k rfl))<|.n (zB (.k rfl))<|.nil) ff rfl fun g1 => ⟨_, _, [], rfl, (.k 0 rfl<|.k 1 rfl<|.nil), (.nil), ?_⟩)
 refine zC ?_
 refine zF (zG [] (.n (zB (.k rfl))<|.n (zB (.k rfl))<|.n (zB (.k rfl))<|.n (zB (.k rfl))<|.nil) ff rfl fun g2 => ⟨_, _, [], rfl, (.k 0 rfl<|.k 1 rfl<|.k 8 rfl<|.k 9 rfl<|.k 10 rfl<|.k 11 rfl<|.nil), (.nil), ?_⟩)
 refine zC ?_
 refine zF (zG [] (.n (zA (.t rfl))<|.n (op_conv_int it37 it2 (.t rfl) (zO (by omega) (by omega)))<|.n (zA (.t rfl))<|.n (op_conv_int it37 it2 (.t rfl) (zO (by omega) (by omega)))<|.n (zB (.t rfl))<|.n (zB (.t rfl))<|.nil) ff rfl fun g3 => ⟨_, _, [], rfl, (.k 8 rfl<|.k 9 rfl<|.k 10 rfl<|.k 11 rfl<|.k 12 rfl<|.k 13 rfl<|.nil), (.nil), ?_⟩)
 refine zC ?_
 refine zF ?_
 refine zT ?_
 refine J_loopc (α := Nat × LSt) (fun z => StpI x y z.1 z.2) (fun z => z.2.q.toNat) (fun z restR => (8, isv (.int .i64 z.2.a)) :: (9, isv (.int .i64 z.2.b)) :: (10, isv (.int .i64 z.2.c)) :: (11, isv (.int .i64 z.2.d)) :: (12, isv (.int .i64 z.2.p)) :: (13, isv (.int .i64 z.2.q)) :: restR) (fun z restS => restS) (ρc := []) (σc := []) (y.toNat + 1, lst0 x y) (by exact stp_zero hy0 hyx hxb) (To.pick (fun _ => .sub (t := 8) rfl (sp_eq (by rfl))<|.sub (t := 9) rfl (sp_eq (by rfl))<|.sub (t := 10) rfl (sp_eq (by rfl))<|.sub (t := 11) rfl (sp_eq (by rfl))<|.sub (t := 12) rfl (sp_eq (by rfl))<|.sub (t := 13) rfl (sp_eq (by rfl))<|.nil) (fun _ => .nil) (ks := []) rfl) (fun z hI => ?_)
 obtain ⟨F, s⟩ := z
 try simp only at hI
 show J _ _ ((8, isv (.int .i64 s.a)) :: (9, isv (.int .i64 s.b)) :: (10, isv (.int .i64 s.c)) :: (11, isv (.int .i64 s.d)) :: (12, isv (.int .i64 s.p)) :: (13, isv (.int .i64 s.q)) :: _) (_) _ _
 have hB := stp_b hxb hI
 obtain ⟨hBa, hBb, hBc, hBd, hBp, hBq, hBpa, hBpb, hBqc, hBqd⟩ := hB
 refine zF ?_
 refine zF (zG [] (.n (zA (.t rfl))<|.n (zA (.t rfl))<|.n (op_add (.t rfl) (.t rfl) (zO (by omega) (by omega)))<|.n (op_cmp (by simp) (.t rfl) (.k rfl) rfl)<|.n (zA (.t rfl))<|.n (op_guard rfl rfl (gd_b rfl) (fun hC => (zA (.t rfl))))<|.n (op_guard rfl rfl (gd_b rfl) (fun hC => (zA (.t rfl))))<|.n (op_guard rfl rfl (gd_b rfl) (fun hC => (op_add (.w rfl hC) (.w rfl hC) (zO (by omega) (by omega)))))<|.n (op_guard rfl rfl (gd_b rfl) (fun hC => (op_cmp (by simp) (.w rfl hC) (.k rfl) rfl)))<|.n (op_and (.t rfl) (fun h2 => (.w rfl h2)))<|.nil) ff rfl fun g4 => ⟨_, _, [], rfl, (.k 8 rfl<|.k 9 rfl<|.k 10 rfl<|.k 11 rfl<|.k 12 rfl<|.k 13 rfl<|.k 30 rfl<|.nil), (.nil), ?_⟩)
 refine zC ?_
 refine zH (zK (.t rfl)) (fun h1 => ?_) (fun h1 => ?_)
 ·have h1' := h1
  try simp only [cmpB, Z] at h1
  have c1 : s.q + s.c ≠ 0 := by have := h1'; simp [cmpB] at this; omega
  have c2 : s.q + s.d ≠ 0 := by have := h1'; simp [cmpB] at this; omega
  have hq1 := quo_b (P := s.p + s.a) (Q := s.q + s.c) (by omega) (by omega)
  have hq2 := quo_b (P := s.p + s.b) (Q := s.q + s.d) (by omega) (by omega)
  refine J_skip ?_
  refine zC ?_
  refine zT ?_
  refine zF (zG [] (.n (zA (.t rfl))<|.n (zA (.t rfl))<|.n (op_add (.t rfl) (.t rfl) (zO (by omega) (by omega)))<|.n (zA (.t rfl))<|.n (zA (.t rfl))<|.n (op_add (.t rfl) (.t rfl) (zO (by omega) (by omega)))<|.n (op_quo (.t rfl) (.t rfl) c1 (zO hq1.1 hq1.2))<|.n (zB (.t rfl))<|.nil) ff rfl fun g5 => ⟨_, _, [], rfl, (.k 8 rfl<|.k 9 rfl<|.k 10 rfl<|.k 11 rfl<|.k 12 rfl<|.k 13 rfl<|.k 14 rfl<|.nil), (.nil), ?_⟩)
  refine zC ?_
  refine zF ?_
  refine zF (zG [] (.n (zA (.t rfl))<|.n (zA (.t rfl))<|.n (zA (.t rfl))<|.n (op_add (.t rfl) (.t rfl) (zO (by omega) (by omega)))<|.n (zA (.t rfl))<|.n (zA (.t rfl))<|.n (op_add (.t rfl) (.t rfl) (zO (by omega) (by omega)))<|.n (op_quo (.t rfl) (.t rfl) c2 (zO hq2.1 hq2.2))<|.n (op_cmp (by simp) (.t rfl) (.t rfl) rfl)<|.nil) ff rfl fun g6 => ⟨_, _, [], rfl, (.k 8 rfl<|.k 9 rfl<|.k 10 rfl<|.k 11 rfl<|.k 12 rfl<|.k 13 rfl<|.k 14 rfl<|.k 46 rfl<|.nil), (.nil), ?_⟩)
  refine zC ?_
  refine zH (zK (.t rfl)) (fun h2 => ?_) (fun h2 => ?_)
  ·have h2' := h2
   try simp only [cmpB, Z] at h2
   have hgo : lstGo s = false := go_no2 (by have := h2'; simpa [cmpB, lstN] using this)
   have hst := stp_stop hI hgo
   refine J_exit ?_
   refine zE ?_
   refine JN_exit_on rfl ?_
   refine zE ?_
   refine zS ?_
   refine zC ?_
   refine zF (zG [] (.n (zA (.t rfl))<|.n (zA (.t rfl))<|.n (zA (.t rfl))<|.n (zA (.t rfl))<|.n (zB (.t rfl))<|.n (zB (.t rfl))<|.n (zB (.t rfl))<|.n (zB (.t rfl))<|.nil) ff rfl fun g7 => ⟨_, _, [], rfl, (.k 4 rfl<|.k 5 rfl<|.k 6 rfl<|.k 7 rfl<|.nil), (.nil), ?_⟩)
   refine zC ?_
   refine J_ret ?_
   refine zQ (.cons (.tmp (.t rfl))<|.cons (.tmp (.t rfl))<|.cons (.tmp (.t rfl))<|.cons (.tmp (.t rfl))<|.nil) (zM (sb_res (.cons zL<|.cons zL<|.cons zL<|.cons zL<|.nil)) ?_)
   exact sb_eq (by rw [← hst])
  ·have h2' := h2
   try simp only [cmpB, Z] at h2
   have c3 : lstN s = (s.p + s.b).tdiv (s.q + s.d) := by have := h2'; simpa [cmpB, lstN] using this
   obtain ⟨hn1, hn2, hn3, hn4⟩ := stp_n hxb hyx hI c1 c2 c3
   unfold lstN at hn1 hn2 hn3 hn4
   refine J_skip ?_
   refine zC ?_
   refine zF (zG [] (.n (zA (.t rfl))<|.n (zA (.t rfl))<|.n (zA (.t rfl))<|.n (op_mul (.t rfl) (.t rfl) (zO (by omega) (by omega)))<|.n (op_sub (.t rfl) (.t rfl) (zO (by omega) (by omega)))<|.n (zB (.t rfl))<|.nil) ff rfl fun g8 => ⟨_, _, [], rfl, (.k 8 rfl<|.k 9 rfl<|.k 10 rfl<|.k 11 rfl<|.k 12 rfl<|.k 13 rfl<|.k 14 rfl<|.k 15 rfl<|.nil), (.nil), ?_⟩)
   refine zC ?_
   refine zF (zG [] (.n (zA (.t rfl))<|.n (zA (.t rfl))<|.n (zA (.t rfl))<|.n (op_mul (.t rfl) (.t rfl) (zO (by omega) (by omega)))<|.n (op_sub (.t rfl) (.t rfl) (zO (by omega) (by omega)))<|.n (zB (.t rfl))<|.nil) ff rfl fun g9 => ⟨_, _, [], rfl, (.k 8 rfl<|.k 9 rfl<|.k 10 rfl<|.k 11 rfl<|.k 12 rfl<|.k 13 rfl<|.k 14 rfl<|.k 15 rfl<|.k 16 rfl<|.nil), (.nil), ?_⟩)
   refine zC ?_
   refine zF ?_
   refine zF (zG [] (.n (zA (.t rfl))<|.n (op_cmp (by simp) (.t rfl) (.k rfl) rfl)<|.n (zA (.t rfl))<|.n (op_guard rfl rfl (gd_b rfl) (fun hC => (zA (.t rfl))))<|.n (op_guard rfl rfl (gd_b rfl) (fun hC => (op_cmp (by simp) (.w rfl hC) (.k rfl) rfl)))<|.n (op_or (.t rfl) (fun h2 => (.w rfl h2)))<|.n (zA (.t rfl))<|.n (op_guard rfl rfl (gd_b rfl) (fun hC => (zA (.t rfl))))<|.n (op_guard rfl rfl (gd_b rfl) (fun hC => (op_cmp (by simp) (.w rfl hC) (.k rfl) rfl)))<|.n (op_or (.t rfl) (fun h2 => (.w rfl h2)))<|.n (zA (.t rfl))<|.n (op_guard rfl rfl (gd_b rfl) (fun hC => (zA (.t rfl))))<|.n (op_guard rfl rfl (gd_b rfl) (fun hC => (op_cmp (by simp) (.w rfl hC) (.k rfl) rfl)))<|.n (op_or (.t rfl) (fun h2 => (.w rfl h2)))<|.nil) ff rfl fun g10 => ⟨_, _, [], rfl, (.k 8 rfl<|.k 9 rfl<|.k 10 rfl<|.k 11 rfl<|.k 12 rfl<|.k 13 rfl<|.k 14 rfl<|.k 15 rfl<|.k 16 rfl<|.k 70 rfl<|.nil), (.nil), ?_⟩)
   refine zC ?_
   refine zH (zK (.t rfl)) (fun h3 => ?_) (fun h3 => ?_)
   ·have h3' := h3
    try simp only [cmpB, Z] at h3
    have hgo : lstGo s = false := go_no3 (by unfold lstE lstF lstN; have := h3'; simp [cmpB] at this; omega)
    have hst := stp_stop hI hgo
    refine J_exit ?_
    refine zE ?_
    refine JN_exit_on rfl ?_
    refine zE ?_
    refine zS ?_
    refine zC ?_
    refine zF (zG [] (.n (zA (.t rfl))<|.n (zA (.t rfl))<|.n (zA (.t rfl))<|.n (zA (.t rfl))<|.n (zB (.t rfl))<|.n (zB (.t rfl))<|.n (zB (.t rfl))<|.n (zB (.t rfl))<|.nil) ff rfl fun g11 => ⟨_, _, [], rfl, (.k 4 rfl<|.k 5 rfl<|.k 6 rfl<|.k 7 rfl<|.nil), (.nil), ?_⟩)
    refine zC ?_
    refine J_ret ?_
    refine zQ (.cons (.tmp (.t rfl))<|.cons (.tmp (.t rfl))<|.cons (.tmp (.t rfl))<|.cons (.tmp (.t rfl))<|.nil) (zM (sb_res (.cons zL<|.cons zL<|.cons zL<|.cons zL<|.nil)) ?_)
    exact sb_eq (by rw [← hst])
   ·have h3' := h3
    try simp only [cmpB, Z] at h3
    have hgo : lstGo s = true := go_yes c1 c2 c3 (by unfold lstE lstF lstN; have := h3'; simp [cmpB] at this; omega)
    obtain ⟨hS, hSq⟩ := stp_step hy0 hyx hxb hI hgo
    have hBn := (stp_b hxb hS).q
    refine J_skip ?_
    refine zC ?_
    refine zF (zG [] (.n (zA (.t rfl))<|.n (zA (.t rfl))<|.n (zB (.t rfl))<|.n (zB (.t rfl))<|.nil) ff rfl fun g12 => ⟨_, _, [], rfl, (.k 8 rfl<|.k 10 rfl<|.k 11 rfl<|.k 12 rfl<|.k 13 rfl<|.k 14 rfl<|.k 16 rfl<|.nil), (.nil), ?_⟩)
    refine zC ?_
    refine zF (zG [] (.n (zA (.t rfl))<|.n (zA (.t rfl))<|.n (zB (.t rfl))<|.n (zB (.t rfl))<|.nil) ff rfl fun g13 => ⟨_, _, [], rfl, (.k 8 rfl<|.k 9 rfl<|.k 10 rfl<|.k 11 rfl<|.k 12 rfl<|.k 13 rfl<|.k 14 rfl<|.nil), (.nil), ?_⟩)
    refine zC ?_
    refine (zG [] (.n (zA (.t rfl))<|.n (zA (.t rfl))<|.n (zA (.t rfl))<|.n (zA (.t rfl))<|.n (op_mul (.t rfl) (.t rfl) (zO (by omega) (by omega)))<|.n (op_sub (.t rfl) (.t rfl) (zO (by omega) (by omega)))<|.n (zB (.t rfl))<|.n (zB (.t rfl))<|.nil) ff rfl fun g14 => ⟨_, _, [], rfl, (.k 8 rfl<|.k 9 rfl<|.k 10 rfl<|.k 11 rfl<|.k 12 rfl<|.k 13 rfl<|.nil), (.nil), ?_⟩)
    refine zR ?_
    exact JN_again (F - 1, lstNx s) (by exact hS) (by show (lstNx s).q.toNat < s.q.toNat; omega) (To.pick (fun _ => .sub (t := 8) rfl (sp_eq (by rfl))<|.sub (t := 9) rfl (sp_eq (by rfl))<|.sub (t := 10) rfl (sp_eq (by rfl))<|.sub (t := 11) rfl (sp_eq (by rfl))<|.sub (t := 12) rfl (sp_eq (by rfl))<|.sub (t := 13) rfl (sp_eq (by rfl))<|.nil) (fun _ => .nil) (ks := []) rfl)
 ·have h1' := h1
  try simp only [cmpB, Z] at h1
  have hgo : lstGo s = false := go_no1 (by have := h1'; simp [cmpB] at this; omega)
  have hst := stp_stop hI hgo
  refine J_exit ?_
  refine zE ?_
  refine zE ?_
  refine zS ?_
  refine zC ?_
  refine zF (zG [] (.n (zA (.t rfl))<|.n (zA (.t rfl))<|.n (zA (.t rfl))<|.n (zA (.t rfl))<|.n (zB (.t rfl))<|.n (zB (.t rfl))<|.n (zB (.t rfl))<|.n (zB (.t rfl))<|.nil) ff rfl fun g15 => ⟨_, _, [], rfl, (.k 4 rfl<|.k 5 rfl<|.k 6 rfl<|.k 7 rfl<|.nil), (.nil), ?_⟩)
  refine zC ?_
  refine J_ret ?_
  refine zQ (.cons (.tmp (.t rfl))<|.cons (.tmp (.t rfl))<|.cons (.tmp (.t rfl))<|.cons (.tmp (.t rfl))<|.nil) (zM (sb_res (.cons zL<|.cons zL<|.cons zL<|.cons zL<|.nil)) ?_)
  exact sb_eq (by rw [← hst])
end Go.Proofs.YtjnmgcglooeooaaGreatDoor
