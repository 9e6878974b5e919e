/- Printed by a program of ours (walk.py): walks of long division, by one word and by steps. -/
import Derived.Test.YtjnmgcglooeooaaGreatDoorPsKb
import Derived.Test.YtjnmgcglooeooaaGreatDoorProg
import Derived.KernelRfl
import Derived.Test.YtjnmgcglooeooaaGreatDoorPsTypes
import Derived.Test.YtjnmgcglooeooaaGreatDoorPsWRnd
import Derived.Test.YtjnmgcglooeooaaGreatDoorPsGcd
set_option linter.unusedVariables false
set_option linter.unusedSimpArgs false
set_option maxRecDepth 20000
set_option maxHeartbeats 1000000
namespace Go.Proofs.YtjnmgcglooeooaaGreatDoor
open Go Go.Bn
attribute [local irreducible] OpOK
theorem lz32_ok {z : Int} (z0 : 0 ≤ z) (z1 : z < 4294967296) : Ct Tryz.prog 104 [isv (.int .u32 z)] (isv (.int .i64 (32 - (bl z.toNat : Int)))) := by
 refine Ct.of Tryz.func104 rfl (by kernel_rfl) rfl fun c0 => ?_
 have hbl := bl_32 z0 z1
 refine zF (zG [] (.n (zB (.k rfl))<|.nil) ff rfl fun g1 => ⟨_, _, [], rfl, (.k 0 rfl<|.nil), (.nil), ?_⟩)
 refine zC ?_
 refine zF (zG [] (.n (zA (.t rfl))<|.n (zP (len32_ok (by omega) (by omega)) ⟨(.t rfl),  trivial⟩)<|.n (op_sub (.k rfl) (.t rfl) (zO (by omega) (by omega)))<|.n (zB (.t rfl))<|.nil) ff rfl fun g2 => ⟨_, _, [], rfl, (.k 2 rfl<|.nil), (.nil), ?_⟩)
 refine zC ?_
 refine J_ret ?_
 refine zQ (.cons (.tmp (.t rfl))<|.nil) (zM (sb_res1 zL) ?_)
 exact zL
theorem short_ok {m : List Int} {d : Int} (hm : Dig m) (hlm : m.length ≤ 1000000) (d0 : 0 < d) (d1 : d < 4294967296) : Ct Tryz.prog 103 [ils .u32 m, isv (.int .u32 d)] (tupp [ils .u32 (limbs (magI m / d).toNat), isv (.int .u32 (magI m % d))]) := by
 refine Ct.of Tryz.func103 rfl (by kernel_rfl) rfl fun c0 => ?_
 refine J_len 0 rfl fun hlen => ?_
 refine zF (zG [] (.n (zB (.k rfl))<|.n (zB (.k rfl))<|.nil) ff rfl fun g1 => ⟨_, _, [], rfl, (.k 0 rfl<|.k 1 rfl<|.nil), (.nil), ?_⟩)
 refine zC ?_
 refine J_to (To.emps 1) ?_
 refine zF (zG [] (.n (zA (.t rfl))<|.n (op_len_m sl86 (.t rfl))<|.w 0 (op_make_m (mk := inp .u32) 0 0 sl86 zr132 rfl (fun _ => ⟨rfl, rfl⟩) (.t rfl) (.t rfl) (by omega) (by omega) (by omega) (by omega) rfl)<|.n (op_assign_ve rfl rfl)<|.nil) ff rfl fun g2 => ⟨_, _, [0], rfl, (.k 0 rfl<|.k 1 rfl<|.k 6 rfl<|.nil), (.k 0 rfl<|.nil), ?_⟩)
 refine zC ?_
 refine zF (zG [] (.n (zB (.k rfl))<|.nil) ff rfl fun g3 => ⟨_, _, [0], rfl, (.k 0 rfl<|.k 1 rfl<|.k 6 rfl<|.k 7 rfl<|.nil), (.k 0 rfl<|.nil), ?_⟩)
 refine zC ?_
 refine zF ?_
 refine zF (zG [] (.n (zA (.t rfl))<|.n (op_len_m sl86 (.t rfl))<|.n (op_sub (.t rfl) (.k rfl) (zO (by omega) (by omega)))<|.n (zB (.t rfl))<|.nil) ff rfl fun g4 => ⟨_, _, [0], rfl, (.k 0 rfl<|.k 1 rfl<|.k 6 rfl<|.k 7 rfl<|.k 8 rfl<|.nil), (.k 0 rfl<|.nil), ?_⟩)
 refine zC ?_
 refine zT ?_
 refine J_loopc (α := Nat × List Int × Int) (fun x => ShoI m x.2.1 d x.1 x.2.2) (fun x => x.1) (fun x restR => (8, isv (.int .i64 ((x.1 : Int) - 1))) :: (7, isv (.int .u64 x.2.2)) :: restR) (fun x restS => som (g2 12) (inp .u32) x.2.1 132 :: restS) (ρc := [(0, _), (1, _), (6, _)]) (σc := []) (m.length, List.replicate m.length 0, 0) (by exact sho_zero d0) (To.pick (fun _ => .sub (t := 8) rfl (sp_eq (by rfl))<|.sub (t := 7) rfl (sp_eq (by rfl))<|.k 0 rfl<|.k 1 rfl<|.k 6 rfl<|.nil) (fun _ => .sub 0 rfl ((res_eq (by rw [show ((m.length : Int)).toNat = m.length by omega])))<|.nil) (ks := [0]) rfl) (fun x hI => ?_)
 obtain ⟨k, l, r⟩ := x
 try simp only at hI
 show J _ _ ((8, isv (.int .i64 ((k : Int) - 1))) :: (7, isv (.int .u64 r)) :: _) (som (g2 12) (inp .u32) l 132 :: _) _ _
 refine zF ?_
 refine zF (zG [] (.n (zA (.t rfl))<|.n (op_cmp (by simp) (.t rfl) (.k rfl) rfl)<|.nil) ff rfl fun g5 => ⟨_, _, [0], rfl, (.k 0 rfl<|.k 1 rfl<|.k 6 rfl<|.k 7 rfl<|.k 8 rfl<|.k 17 rfl<|.nil), (.k 0 rfl<|.nil), ?_⟩)
 refine zC ?_
 refine zH (zK (.t rfl)) (fun h1 => ?_) (fun h1 => ?_)
 ·try simp only [cmpB, Z] at h1
  obtain ⟨j, rfl⟩ : ∃ j, k = j + 1 := ⟨k - 1, by omega⟩
  have hIk := hI.hk
  have hIl := hI.hl
  have hIr := hI.hr
  have gm := hm.at (k := (((j + 1 : Nat) : Int) - 1).toNat) (by omega)
  obtain ⟨t, ht⟩ : ∃ t, t = r * 4294967296 + m.getD j 0 := ⟨_, rfl⟩
  have ej : (((j + 1 : Nat) : Int) - 1).toNat = j := by omega
  have htm : r * 4294967296 + (m.getD (((j + 1 : Nat) : Int) - 1).toNat 0) = t := by rw [ej]; exact ht.symm
  have hS := sho_step hm d0 hI ht
  refine J_skip ?_
  refine zC ?_
  refine zF ?_
  refine zT ?_
  refine zF (zG [] (.n (zA (.t rfl))<|.n (op_shl (.t rfl) (.k rfl) (by omega) rfl)<|.n (zA (.t rfl))<|.n (zA (.t rfl))<|.n (op_index_m 0 sl86 (.t rfl) (.t rfl) (by omega) (by omega))<|.n (op_load_sc sc132 (.t rfl) rfl)<|.n (op_conv_int it132 it37 (.t rfl) (wr64 (by omega) (by omega)))<|.n (op_bits (by simp) (.t rfl) (.t rfl) (hi64 (by omega) gm))<|.n (zB (.t rfl))<|.nil) ff rfl fun g6 => ⟨_, _, [0], rfl, (.k 0 rfl<|.k 1 rfl<|.k 6 rfl<|.k 8 rfl<|.k 9 rfl<|.nil), (.k 0 rfl<|.nil), ?_⟩)
  refine zC ?_
  rw [htm]
  refine zF (zG [] (.n (zA (.t rfl))<|.n (zA (.t rfl))<|.n (zA (.t rfl))<|.n (zA (.t rfl))<|.n (op_conv_int it132 it37 (.t rfl) (wr64 (by omega) (by omega)))<|.n (op_quo (.t rfl) (.t rfl) (by omega) (quo64 hS.2.2.2.1 (by omega) d0))<|.n (op_conv_int it37 it132 (.t rfl) (wr32s hS.2.1 hS.2.2.1))<|.r 0 (op_index_som 0 sl86 (.t rfl) (.t rfl) rfl (by omega) (by omega))<|.w 0 (op_store_som (mk := inp .u32) 0 (.t rfl) (.t rfl) co_inp sz132 rfl (by omega))<|.nil) ff rfl fun g7 => ⟨_, _, [0], rfl, (.k 0 rfl<|.k 1 rfl<|.k 6 rfl<|.k 8 rfl<|.k 9 rfl<|.nil), (.k 0 rfl<|.nil), ?_⟩)
  refine zC ?_
  refine (zG [] (.n (zA (.t rfl))<|.n (zA (.t rfl))<|.n (op_conv_int it132 it37 (.t rfl) (wr64 (by omega) (by omega)))<|.n (op_rem (.t rfl) (.t rfl) (by omega) (rem64 hS.2.2.2.1))<|.n (zB (.t rfl))<|.nil) ff rfl fun g8 => ⟨_, _, [0], rfl, (.k 0 rfl<|.k 1 rfl<|.k 6 rfl<|.k 7 rfl<|.k 8 rfl<|.nil), (.k 0 rfl<|.nil), ?_⟩)
  refine zR ?_
  refine zC ?_
  refine (zG [] (.n (zA (.t rfl))<|.n (op_sub (.t rfl) (.k rfl) (zO (by omega) (by omega)))<|.n (zB (.t rfl))<|.nil) ff rfl fun g9 => ⟨_, _, [0], rfl, (.k 0 rfl<|.k 1 rfl<|.k 6 rfl<|.k 7 rfl<|.k 8 rfl<|.nil), (.k 0 rfl<|.nil), ?_⟩)
  exact JN_again (j, l.set (((j + 1 : Nat) : Int) - 1).toNat (t / d), t % d) (by exact (by show ShoI m (l.set (((j + 1 : Nat) : Int) - 1).toNat (t / d)) d j (t % d); rw [ej]; exact hS.1)) (by show j < j + 1; omega) (To.pick (fun _ => .sub (t := 8) rfl (sp_eq (by exact congrArg (fun z => isv (.int .i64 z)) (by omega)))<|.sub (t := 7) rfl (sp_eq (by rfl))<|.k 0 rfl<|.k 1 rfl<|.k 6 rfl<|.nil) (fun _ => .sub 0 rfl ((fun _ _ h => h))<|.nil) (ks := [0]) rfl)
 ·try simp only [cmpB, Z] at h1
  obtain rfl : k = 0 := by omega
  obtain ⟨hq, hr⟩ := sho_done d0 hI
  have hIr := hI.hr
  have hdg := hI.hd
  refine J_exit ?_
  refine zE ?_
  refine zE ?_
  refine zS ?_
  refine zC ?_
  refine J_to (To.freeze 0 (fun _ h => h) rfl frz_som rfl) ?_
  refine zF (zG [] (.n (zA (.t rfl))<|.n (zP (cut_ok hdg) ⟨(Lk.sub (sb_fk 0 rfl) (.t rfl)),  trivial⟩)<|.n (zA (.t rfl))<|.n (op_conv_int it37 it132 (.t rfl) (wr32s (by omega) (by omega)))<|.n (zB (.t rfl))<|.n (zB (.t rfl))<|.nil) ff rfl fun g10 => ⟨_, _, [], rfl, (.k 4 rfl<|.k 5 rfl<|.nil), (.nil), ?_⟩)
  refine zC ?_
  refine J_ret ?_
  refine zQ (.cons (.tmp (.t rfl))<|.cons (.tmp (.t rfl))<|.nil) (zM (sb_res (.cons zL<|.cons zL<|.nil)) ?_)
  exact sb_eq (by rw [← hq, ← hr])
theorem spread_ok {X Y a b : Nat} (hX : (limbs X).length ≤ 400000) (hY : (limbs Y).length ≤ 400000) (ha : a < 18446744073709551616) (hb : b < 18446744073709551616) (hle : b * Y ≤ a * X) : Ct Tryz.prog 112 [ils .u32 (limbs X), isv (.int .u64 (a : Int)), ils .u32 (limbs Y), isv (.int .u64 (b : Int))] (ils .u32 (limbs (a * X - b * Y))) := by
 refine Ct.of Tryz.func112 rfl (by kernel_rfl) rfl fun c0 => ?_
 have la := limbs2 ha
 have lb := limbs2 hb
 refine zF (zG [] (.n (zB (.k rfl))<|.nil) ff rfl fun g1 => ⟨_, _, [], rfl, (.k 0 rfl<|.k 1 rfl<|.k 2 rfl<|.k 3 rfl<|.nil), (.nil), ?_⟩)
 refine zC ?_
 refine zF (zG [] (.n (zA (.t rfl))<|.n (zA (.t rfl))<|.n (zP (words_ok (by omega)) ⟨(.t rfl),  trivial⟩)<|.n (zP (times_ok (limbs_dig _) (limbs_dig _) (by omega) (by omega)) ⟨(.t rfl), (.t rfl),  trivial⟩)<|.n (zA (.t rfl))<|.n (zA (.t rfl))<|.n (zP (words_ok (by omega)) ⟨(.t rfl),  trivial⟩)<|.n (zP (times_ok (limbs_dig _) (limbs_dig _) (by omega) (by omega)) ⟨(.t rfl), (.t rfl),  trivial⟩)<|.n (zP (minus_ok (limbs_dig _) (limbs_dig _) (spr_len la hX) (spr_len lb hY) (spr_le hle).1 (spr_le hle).2) ⟨(.t rfl), (.t rfl),  trivial⟩)<|.n (zB (.t rfl))<|.nil) ff rfl fun g2 => ⟨_, _, [], rfl, (.k 8 rfl<|.nil), (.nil), ?_⟩)
 refine zC ?_
 refine J_ret ?_
 refine zQ (.cons (.tmp (.t rfl))<|.nil) (zM (sb_res1 zL) ?_)
 exact sb_eq (congrArg (fun z => ils .u32 (limbs z)) (spr_val hle))
theorem less_ok {u : Value} {us d : List Int} {j : Nat} {g : Int} (hu : Dig us) (hd : Dig d) (hj : j + d.length < us.length) (hg0 : 0 ≤ g) (hg1 : g ≤ 4294967296) (h9 : us.length ≤ 3000000) : CtM Tryz.prog 105 [isv u, ils .u32 d, isv (.int .i64 (j : Int)), isv (.int .u64 g)] (som u (inp .u32) us 132) (isv (.bool (decide (lesV us d j g < 0)))) (som u (inp .u32) (lesL us d j g) 132) := by
 refine CtM.of Tryz.func105 rfl (by kernel_rfl) rfl (fix_som (putI_len (by omega)).symm) fun c0 ob hr0 => ?_
 refine J_len 1 rfl fun hlen => ?_
 refine zF (zG [] (.n (zB (.k rfl))<|.nil) ff rfl fun g1 => ⟨_, _, [0], rfl, (.k 0 rfl<|.k 1 rfl<|.k 2 rfl<|.k 3 rfl<|.nil), (.k 0 rfl<|.nil), ?_⟩)
 refine zC ?_
 refine zF (zG [] (.n (zB (.k rfl))<|.nil) ff rfl fun g2 => ⟨_, _, [0], rfl, (.k 0 rfl<|.k 1 rfl<|.k 2 rfl<|.k 3 rfl<|.k 9 rfl<|.nil), (.k 0 rfl<|.nil), ?_⟩)
 refine zC ?_
 refine zF (zG [] (.n (zB (.k rfl))<|.nil) ff rfl fun g3 => ⟨_, _, [0], rfl, (.k 0 rfl<|.k 1 rfl<|.k 2 rfl<|.k 3 rfl<|.k 9 rfl<|.k 10 rfl<|.nil), (.k 0 rfl<|.nil), ?_⟩)
 refine zC ?_
 refine zF ?_
 refine zF (zG [] (.n (zB (.k rfl))<|.nil) ff rfl fun g4 => ⟨_, _, [0], rfl, (.k 0 rfl<|.k 1 rfl<|.k 2 rfl<|.k 3 rfl<|.k 9 rfl<|.k 10 rfl<|.k 11 rfl<|.nil), (.k 0 rfl<|.nil), ?_⟩)
 refine zC ?_
 refine zT ?_
 refine J_loopc (α := Nat × List Int × Int × Int) (fun x => LesI us d x.2.1 j g x.1 x.2.2.1 x.2.2.2) (fun x => d.length - x.1) (fun x restR => (11, isv (.int .i64 (x.1 : Int))) :: (9, isv (.int .u64 x.2.2.1)) :: (10, isv (.int .u64 x.2.2.2)) :: restR) (fun x restS => som u (inp .u32) x.2.1 132 :: restS) (ρc := [(0, _), (1, _), (2, _), (3, _)]) (σc := []) (0, us, 0, 0) (by exact les_zero hu) (To.pick (fun _ => .sub (t := 11) rfl (sp_eq (by rfl))<|.sub (t := 9) rfl (sp_eq (by rfl))<|.sub (t := 10) rfl (sp_eq (by rfl))<|.k 0 rfl<|.k 1 rfl<|.k 2 rfl<|.k 3 rfl<|.nil) (fun _ => .sub 0 rfl ((fun _ _ h => h))<|.nil) (ks := [0]) rfl) (fun x hI => ?_)
 obtain ⟨k, l, c, b⟩ := x
 try simp only at hI
 show J _ _ ((11, isv (.int .i64 (k : Int))) :: (9, isv (.int .u64 c)) :: (10, isv (.int .u64 b)) :: _) (som u (inp .u32) l 132 :: _) _ _
 refine zF ?_
 refine zF (zG [] (.n (zA (.t rfl))<|.n (zA (.t rfl))<|.n (op_len_m sl86 (.t rfl))<|.n (op_cmp (by simp) (.t rfl) (.t rfl) rfl)<|.nil) ff rfl fun g5 => ⟨_, _, [0], rfl, (.k 0 rfl<|.k 1 rfl<|.k 2 rfl<|.k 3 rfl<|.k 9 rfl<|.k 10 rfl<|.k 11 rfl<|.k 20 rfl<|.nil), (.k 0 rfl<|.nil), ?_⟩)
 refine zC ?_
 refine zH (zK (.t rfl)) (fun h1 => ?_) (fun h1 => ?_)
 ·try simp only [cmpB, Z] at h1
  have hIl := hI.hl
  have hIc := hI.hc
  have hIb := hI.hb
  have hIi := hI.hi
  have gd := hd.at (k := ((k : Nat) : Int).toNat) (by omega)
  have gl := hI.hd.at (k := ((j : Int) + (k : Int)).toNat) (by omega)
  have gm := les_mul hg0 hg1 gd
  obtain ⟨p, hp⟩ : ∃ p, p = g * d.getD k 0 + c := ⟨_, rfl⟩
  have hpe : g * (d.getD ((k : Nat) : Int).toNat 0) + c = p := hp.symm
  have hp0 : 0 ≤ p ∧ p < 18446744073709551616 := by rw [← hpe]; omega
  obtain ⟨y, hy⟩ : ∃ y, y = p % 4294967296 + b := ⟨_, rfl⟩
  have hy0 : 0 ≤ y ∧ y ≤ 4294967296 := by omega
  have ejk : ((j : Int) + (k : Int)).toNat = j + k := by omega
  refine J_skip ?_
  refine zC ?_
  refine zF ?_
  refine zT ?_
  refine zF (zG [] (.n (zA (.t rfl))<|.n (zA (.t rfl))<|.n (zA (.t rfl))<|.n (op_index_m 0 sl86 (.t rfl) (.t rfl) (by omega) (by omega))<|.n (op_load_sc sc132 (.t rfl) rfl)<|.n (op_conv_int it132 it37 (.t rfl) (wr64 (by omega) (by omega)))<|.n (op_mul (.t rfl) (.t rfl) (wr64 (by omega) (by omega)))<|.n (zA (.t rfl))<|.n (op_add (.t rfl) (.t rfl) (wr64 (by omega) (by omega)))<|.n (zB (.t rfl))<|.nil) ff rfl fun g6 => ⟨_, _, [0], rfl, (.k 0 rfl<|.k 1 rfl<|.k 2 rfl<|.k 3 rfl<|.k 10 rfl<|.k 11 rfl<|.k 12 rfl<|.nil), (.k 0 rfl<|.nil), ?_⟩)
  refine zC ?_
  rw [hpe]
  refine zF (zG [] (.n (zA (.t rfl))<|.n (op_shr (.t rfl) (.k rfl) (by omega) (shr32 _))<|.n (zB (.t rfl))<|.nil) ff rfl fun g7 => ⟨_, _, [0], rfl, (.k 0 rfl<|.k 1 rfl<|.k 2 rfl<|.k 3 rfl<|.k 9 rfl<|.k 10 rfl<|.k 11 rfl<|.k 12 rfl<|.nil), (.k 0 rfl<|.nil), ?_⟩)
  refine zC ?_
  refine zF (zG [] (.n (zA (.t rfl))<|.n (op_bits (by simp) (.t rfl) (.k rfl) (and64 hp0.1 hp0.2))<|.n (zA (.t rfl))<|.n (op_add (.t rfl) (.t rfl) (wr64 (by omega) (by omega)))<|.n (zB (.t rfl))<|.nil) ff rfl fun g8 => ⟨_, _, [0], rfl, (.k 0 rfl<|.k 1 rfl<|.k 2 rfl<|.k 3 rfl<|.k 9 rfl<|.k 11 rfl<|.k 13 rfl<|.nil), (.k 0 rfl<|.nil), ?_⟩)
  refine zC ?_
  rw [show p % 4294967296 + b = y from hy.symm]
  refine zF (zG [] (.n (zA (.t rfl))<|.n (zA (.t rfl))<|.n (zA (.t rfl))<|.n (op_add (.t rfl) (.t rfl) (zO (by omega) (by omega)))<|.r 0 (op_index_som 0 sl86 (.t rfl) (.t rfl) rfl (by omega) (by omega))<|.r 0 (op_get_som 0 0 sc132 (.t rfl) rfl (by omega))<|.n (op_conv_int it132 it37 (.t rfl) (wr64 (by omega) (by omega)))<|.n (zB (.t rfl))<|.nil) ff rfl fun g9 => ⟨_, _, [0], rfl, (.k 0 rfl<|.k 1 rfl<|.k 2 rfl<|.k 3 rfl<|.k 9 rfl<|.k 11 rfl<|.k 13 rfl<|.k 14 rfl<|.nil), (.k 0 rfl<|.nil), ?_⟩)
  refine zC ?_
  refine zF (zG [] (.n (zA (.t rfl))<|.n (zA (.t rfl))<|.n (op_cmp (by simp) (.t rfl) (.t rfl) rfl)<|.nil) ff rfl fun g10 => ⟨_, _, [0], rfl, (.k 0 rfl<|.k 1 rfl<|.k 2 rfl<|.k 3 rfl<|.k 9 rfl<|.k 11 rfl<|.k 13 rfl<|.k 14 rfl<|.k 47 rfl<|.nil), (.k 0 rfl<|.nil), ?_⟩)
  refine zC ?_
  refine zH (zK (.t rfl)) (fun h2 => ?_) (fun h2 => ?_)
  ·try simp only [cmpB, Z] at h2
   refine zF (zG [] (.n (zA (.t rfl))<|.n (zA (.t rfl))<|.n (zA (.t rfl))<|.n (op_add (.t rfl) (.t rfl) (zO (by omega) (by omega)))<|.n (zA (.t rfl))<|.n (op_add (.t rfl) (.k rfl) (wr64 (by omega) (by omega)))<|.n (zA (.t rfl))<|.n (op_sub (.t rfl) (.t rfl) (wr64 (by omega) (by omega)))<|.n (op_conv_int it37 it132 (.t rfl) (wr32s (by omega) (by omega)))<|.r 0 (op_index_som 0 sl86 (.t rfl) (.t rfl) rfl (by omega) (by omega))<|.w 0 (op_store_som (mk := inp .u32) 0 (.t rfl) (.t rfl) co_inp sz132 rfl (by omega))<|.nil) ff rfl fun g11 => ⟨_, _, [0], rfl, (.k 0 rfl<|.k 1 rfl<|.k 2 rfl<|.k 3 rfl<|.k 9 rfl<|.k 11 rfl<|.nil), (.k 0 rfl<|.nil), ?_⟩)
   refine zC ?_
   refine (zG [] (.n (zB (.k rfl))<|.nil) ff rfl fun g12 => ⟨_, _, [0], rfl, (.k 0 rfl<|.k 1 rfl<|.k 2 rfl<|.k 3 rfl<|.k 9 rfl<|.k 10 rfl<|.k 11 rfl<|.nil), (.k 0 rfl<|.nil), ?_⟩)
   refine zR ?_
   refine zC ?_
   refine (zG [] (.n (zA (.t rfl))<|.n (op_add (.t rfl) (.k rfl) (zO (by omega) (by omega)))<|.n (zB (.t rfl))<|.nil) ff rfl fun g13 => ⟨_, _, [0], rfl, (.k 0 rfl<|.k 1 rfl<|.k 2 rfl<|.k 3 rfl<|.k 9 rfl<|.k 10 rfl<|.k 11 rfl<|.nil), (.k 0 rfl<|.nil), ?_⟩)
   exact JN_again (k + 1, l.set ((j : Int) + (k : Int)).toNat ((l.getD ((j : Int) + (k : Int)).toNat 0) + 4294967296 - y), p / 4294967296, 1) (by have hxy := h2; rw [ejk] at gl hxy; rw [ejk]; first | exact (show LesI us d (l.set (j + k) (l.getD (j + k) 0 + 4294967296 - y)) j g (k + 1) (p / 4294967296) 1 from les_step hd ⟨hg0, hg1⟩ hI (by omega) hj hp hy (.inr rfl) (by omega) ⟨by omega, by omega⟩) | exact (show LesI us d (l.set (j + k) (l.getD (j + k) 0 - y)) j g (k + 1) (p / 4294967296) 0 from les_step hd ⟨hg0, hg1⟩ hI (by omega) hj hp hy (.inl rfl) (by omega) ⟨by omega, by omega⟩)) (by show d.length - (_ + 1) < _; omega) (To.pick (fun _ => .sub (t := 11) rfl (sp_eq (by rfl))<|.sub (t := 9) rfl (sp_eq (by rfl))<|.sub (t := 10) rfl (sp_eq (by rfl))<|.k 0 rfl<|.k 1 rfl<|.k 2 rfl<|.k 3 rfl<|.nil) (fun _ => .sub 0 rfl ((fun _ _ h => h))<|.nil) (ks := [0]) rfl)
  ·try simp only [cmpB, Z] at h2
   refine zF (zG [] (.n (zA (.t rfl))<|.n (zA (.t rfl))<|.n (zA (.t rfl))<|.n (op_add (.t rfl) (.t rfl) (zO (by omega) (by omega)))<|.n (zA (.t rfl))<|.n (zA (.t rfl))<|.n (op_sub (.t rfl) (.t rfl) (wr64 (by omega) (by omega)))<|.n (op_conv_int it37 it132 (.t rfl) (wr32s (by omega) (by omega)))<|.r 0 (op_index_som 0 sl86 (.t rfl) (.t rfl) rfl (by omega) (by omega))<|.w 0 (op_store_som (mk := inp .u32) 0 (.t rfl) (.t rfl) co_inp sz132 rfl (by omega))<|.nil) ff rfl fun g14 => ⟨_, _, [0], rfl, (.k 0 rfl<|.k 1 rfl<|.k 2 rfl<|.k 3 rfl<|.k 9 rfl<|.k 11 rfl<|.nil), (.k 0 rfl<|.nil), ?_⟩)
   refine zC ?_
   refine (zG [] (.n (zB (.k rfl))<|.nil) ff rfl fun g15 => ⟨_, _, [0], rfl, (.k 0 rfl<|.k 1 rfl<|.k 2 rfl<|.k 3 rfl<|.k 9 rfl<|.k 10 rfl<|.k 11 rfl<|.nil), (.k 0 rfl<|.nil), ?_⟩)
   refine zR ?_
   refine zC ?_
   refine (zG [] (.n (zA (.t rfl))<|.n (op_add (.t rfl) (.k rfl) (zO (by omega) (by omega)))<|.n (zB (.t rfl))<|.nil) ff rfl fun g16 => ⟨_, _, [0], rfl, (.k 0 rfl<|.k 1 rfl<|.k 2 rfl<|.k 3 rfl<|.k 9 rfl<|.k 10 rfl<|.k 11 rfl<|.nil), (.k 0 rfl<|.nil), ?_⟩)
   exact JN_again (k + 1, l.set ((j : Int) + (k : Int)).toNat ((l.getD ((j : Int) + (k : Int)).toNat 0) - y), p / 4294967296, 0) (by have hxy := h2; rw [ejk] at gl hxy; rw [ejk]; first | exact (show LesI us d (l.set (j + k) (l.getD (j + k) 0 + 4294967296 - y)) j g (k + 1) (p / 4294967296) 1 from les_step hd ⟨hg0, hg1⟩ hI (by omega) hj hp hy (.inr rfl) (by omega) ⟨by omega, by omega⟩) | exact (show LesI us d (l.set (j + k) (l.getD (j + k) 0 - y)) j g (k + 1) (p / 4294967296) 0 from les_step hd ⟨hg0, hg1⟩ hI (by omega) hj hp hy (.inl rfl) (by omega) ⟨by omega, by omega⟩)) (by show d.length - (_ + 1) < _; omega) (To.pick (fun _ => .sub (t := 11) rfl (sp_eq (by rfl))<|.sub (t := 9) rfl (sp_eq (by rfl))<|.sub (t := 10) rfl (sp_eq (by rfl))<|.k 0 rfl<|.k 1 rfl<|.k 2 rfl<|.k 3 rfl<|.nil) (fun _ => .sub 0 rfl ((fun _ _ h => h))<|.nil) (ks := [0]) rfl)
 ·try simp only [cmpB, Z] at h1
  have hIi := hI.hi
  obtain rfl : k = d.length := by omega
  have hIl := hI.hl
  have hIc := hI.hc
  have hIb := hI.hb
  have gl := hI.hd.at (k := ((j : Int) + (d.length : Int)).toNat) (by omega)
  have ejn : ((j : Int) + (d.length : Int)).toNat = j + d.length := by omega
  obtain ⟨hdl, hds⟩ := les_done hu hI hj (x := (l.getD ((j : Int) + (d.length : Int)).toNat 0)) (y := c + b) (by rw [ejn]) rfl
  refine J_exit ?_
  refine zE ?_
  refine zE ?_
  refine zS ?_
  refine zC ?_
  refine zF (zG [] (.n (zA (.t rfl))<|.n (zA (.t rfl))<|.n (zA (.t rfl))<|.n (op_len_m sl86 (.t rfl))<|.n (op_add (.t rfl) (.t rfl) (zO (by omega) (by omega)))<|.r 0 (op_index_som 0 sl86 (.t rfl) (.t rfl) rfl (by omega) (by omega))<|.r 0 (op_get_som 0 0 sc132 (.t rfl) rfl (by omega))<|.n (op_conv_int it132 it37 (.t rfl) (wr64 (by omega) (by omega)))<|.n (zB (.t rfl))<|.nil) ff rfl fun g17 => ⟨_, _, [0], rfl, (.k 0 rfl<|.k 1 rfl<|.k 2 rfl<|.k 9 rfl<|.k 10 rfl<|.k 15 rfl<|.nil), (.k 0 rfl<|.nil), ?_⟩)
  refine zC ?_
  refine zF (zG [] (.n (zA (.t rfl))<|.n (zA (.t rfl))<|.n (op_add (.t rfl) (.t rfl) (wr64 (by omega) (by omega)))<|.n (zB (.t rfl))<|.nil) ff rfl fun g18 => ⟨_, _, [0], rfl, (.k 0 rfl<|.k 1 rfl<|.k 2 rfl<|.k 15 rfl<|.k 16 rfl<|.nil), (.k 0 rfl<|.nil), ?_⟩)
  refine zC ?_
  refine zF (zG [] (.n (zA (.t rfl))<|.n (zA (.t rfl))<|.n (zA (.t rfl))<|.n (op_len_m sl86 (.t rfl))<|.n (op_add (.t rfl) (.t rfl) (zO (by omega) (by omega)))<|.n (zA (.t rfl))<|.n (zA (.t rfl))<|.n (op_sub (.t rfl) (.t rfl) rfl)<|.n (op_conv_int it37 it132 (.t rfl) (wr32w _))<|.r 0 (op_index_som 0 sl86 (.t rfl) (.t rfl) rfl (by omega) (by omega))<|.w 0 (op_store_som (mk := inp .u32) 0 (.t rfl) (.t rfl) co_inp sz132 rfl (by omega))<|.nil) ff rfl fun g19 => ⟨_, _, [0], rfl, (.k 15 rfl<|.k 16 rfl<|.nil), (.k 0 rfl<|.nil), ?_⟩)
  refine zC ?_
  refine zF (zG [] (.n (zA (.t rfl))<|.n (zA (.t rfl))<|.n (op_cmp (by simp) (.t rfl) (.t rfl) rfl)<|.n (zB (.t rfl))<|.nil) ff rfl fun g20 => ⟨_, _, [0], rfl, (.k 8 rfl<|.nil), (.k 0 rfl<|.nil), ?_⟩)
  refine zC ?_
  refine J_ret ?_
  refine JN_to (To.res 0 (r' := som u (inp .u32) (lesL us d j g) 132) rfl (res_eq (by rw [← hdl, ejn])) rfl) ?_
  refine JN_retM 0 hr0 (fix_som (putI_len (by omega)).symm) rfl (.cons (.tmp (.t rfl))<|.nil) (zM (sb_res1 zL) ?_)
  exact ret_b (by exact decide_eq_decide.2 hds)
theorem more_ok {u : Value} {us d : List Int} {j : Nat} (hu : Dig us) (hd : Dig d) (hj : j + d.length < us.length) (h9 : us.length ≤ 3000000) : CtM Tryz.prog 106 [isv u, ils .u32 d, isv (.int .i64 (j : Int))] (som u (inp .u32) us 132) (anyp) (som u (inp .u32) (morL us d j) 132) := by
 refine CtM.of Tryz.func106 rfl (by kernel_rfl) rfl (fix_som (putI_len (by omega)).symm) fun c0 ob hr0 => ?_
 refine J_len 1 rfl fun hlen => ?_
 refine zF (zG [] (.n (zB (.k rfl))<|.nil) ff rfl fun g1 => ⟨_, _, [0], rfl, (.k 0 rfl<|.k 1 rfl<|.k 2 rfl<|.k 6 rfl<|.nil), (.k 0 rfl<|.nil), ?_⟩)
 refine zC ?_
 refine zF ?_
 refine zF (zG [] (.n (zB (.k rfl))<|.nil) ff rfl fun g2 => ⟨_, _, [0], rfl, (.k 0 rfl<|.k 1 rfl<|.k 2 rfl<|.k 6 rfl<|.k 7 rfl<|.nil), (.k 0 rfl<|.nil), ?_⟩)
 refine zC ?_
 refine zT ?_
 refine J_loopc (α := Nat × List Int × Int) (fun x => MorI us d x.2.1 j x.1 x.2.2) (fun x => d.length - x.1) (fun x restR => (7, isv (.int .i64 (x.1 : Int))) :: (6, isv (.int .u64 x.2.2)) :: restR) (fun x restS => som u (inp .u32) x.2.1 132 :: restS) (ρc := [(0, _), (1, _), (2, _)]) (σc := []) (0, us, 0) (by exact mor_zero hu) (To.pick (fun _ => .sub (t := 7) rfl (sp_eq (by rfl))<|.sub (t := 6) rfl (sp_eq (by rfl))<|.k 0 rfl<|.k 1 rfl<|.k 2 rfl<|.nil) (fun _ => .sub 0 rfl ((fun _ _ h => h))<|.nil) (ks := [0]) rfl) (fun x hI => ?_)
 obtain ⟨k, l, c⟩ := x
 try simp only at hI
 show J _ _ ((7, isv (.int .i64 (k : Int))) :: (6, isv (.int .u64 c)) :: _) (som u (inp .u32) l 132 :: _) _ _
 refine zF ?_
 refine zF (zG [] (.n (zA (.t rfl))<|.n (zA (.t rfl))<|.n (op_len_m sl86 (.t rfl))<|.n (op_cmp (by simp) (.t rfl) (.t rfl) rfl)<|.nil) ff rfl fun g3 => ⟨_, _, [0], rfl, (.k 0 rfl<|.k 1 rfl<|.k 2 rfl<|.k 6 rfl<|.k 7 rfl<|.k 12 rfl<|.nil), (.k 0 rfl<|.nil), ?_⟩)
 refine zC ?_
 refine zH (zK (.t rfl)) (fun h1 => ?_) (fun h1 => ?_)
 ·try simp only [cmpB, Z] at h1
  have hIl := hI.hl
  have hIc := hI.hc
  have hIi := hI.hi
  have gd := hd.at (k := ((k : Nat) : Int).toNat) (by omega)
  have gl := hI.hd.at (k := ((j : Int) + (k : Int)).toNat) (by omega)
  obtain ⟨t, ht⟩ : ∃ t, t = l.getD (j + k) 0 + d.getD k 0 + c := ⟨_, rfl⟩
  have ejk : ((j : Int) + (k : Int)).toNat = j + k := by omega
  have hte : (l.getD ((j : Int) + (k : Int)).toNat 0) + (d.getD ((k : Nat) : Int).toNat 0) + c = t := by rw [ejk]; exact ht.symm
  refine J_skip ?_
  refine zC ?_
  refine zF ?_
  refine zT ?_
  refine zF (zG [[], [], [], [1, 2], [0, 1, 2, 3], [0, 1, 2, 3, 4], [0, 1, 2, 3, 4, 5], [], [], [7, 8], [7, 8, 9], [7, 8, 9, 10], [0, 1, 2, 3, 4, 5, 6, 7, 8, 9, 10, 11], [], [0, 1, 2, 3, 4, 5, 6, 7, 8, 9, 10, 11, 12, 13], [0, 1, 2, 3, 4, 5, 6, 7, 8, 9, 10, 11, 12, 13, 14]] (.n (zA (.t rfl))<|.n (zA (.t rfl))<|.n (zA (.t rfl))<|.n (op_add (.t rfl) (.t rfl) (zO (by omega) (by omega)))<|.r 0 (op_index_som 0 sl86 (.t rfl) (.t rfl) rfl (by omega) (by omega))<|.r 0 (op_get_som 0 0 sc132 (.t rfl) rfl (by omega))<|.n (op_conv_int it132 it37 (.t rfl) (wr64 (by omega) (by omega)))<|.n (zA (.t rfl))<|.n (zA (.t rfl))<|.n (op_index_m 0 sl86 (.t rfl) (.t rfl) (by omega) (by omega))<|.n (op_load_sc sc132 (.t rfl) rfl)<|.n (op_conv_int it132 it37 (.t rfl) (wr64 (by omega) (by omega)))<|.n (op_add (.t rfl) (.t rfl) (wr64 (by omega) (by omega)))<|.n (zA (.t rfl))<|.n (op_add (.t rfl) (.t rfl) (wr64 (by omega) (by omega)))<|.n (zB (.t rfl))<|.nil) (fun _ => mixed) rfl fun g4 => ⟨_, _, [0], rfl, (.k 0 rfl<|.k 1 rfl<|.k 2 rfl<|.k 7 rfl<|.k 8 rfl<|.nil), (.k 0 rfl<|.nil), ?_⟩)
  refine zC ?_
  rw [hte]
  refine zF (zG [] (.n (zA (.t rfl))<|.n (zA (.t rfl))<|.n (zA (.t rfl))<|.n (op_add (.t rfl) (.t rfl) (zO (by omega) (by omega)))<|.n (zA (.t rfl))<|.n (op_conv_int it37 it132 (.t rfl) (wr32 _))<|.r 0 (op_index_som 0 sl86 (.t rfl) (.t rfl) rfl (by omega) (by omega))<|.w 0 (op_store_som (mk := inp .u32) 0 (.t rfl) (.t rfl) co_inp sz132 rfl (by omega))<|.nil) ff rfl fun g5 => ⟨_, _, [0], rfl, (.k 0 rfl<|.k 1 rfl<|.k 2 rfl<|.k 7 rfl<|.k 8 rfl<|.nil), (.k 0 rfl<|.nil), ?_⟩)
  refine zC ?_
  refine (zG [] (.n (zA (.t rfl))<|.n (op_shr (.t rfl) (.k rfl) (by omega) (shr32 _))<|.n (zB (.t rfl))<|.nil) ff rfl fun g6 => ⟨_, _, [0], rfl, (.k 0 rfl<|.k 1 rfl<|.k 2 rfl<|.k 6 rfl<|.k 7 rfl<|.nil), (.k 0 rfl<|.nil), ?_⟩)
  refine zR ?_
  refine zC ?_
  refine (zG [] (.n (zA (.t rfl))<|.n (op_add (.t rfl) (.k rfl) (zO (by omega) (by omega)))<|.n (zB (.t rfl))<|.nil) ff rfl fun g7 => ⟨_, _, [0], rfl, (.k 0 rfl<|.k 1 rfl<|.k 2 rfl<|.k 6 rfl<|.k 7 rfl<|.nil), (.k 0 rfl<|.nil), ?_⟩)
  exact JN_again (k + 1, l.set ((j : Int) + (k : Int)).toNat (t % 4294967296), t / 4294967296) (by rw [ejk]; exact mor_step hd hI (by omega) hj ht) (by show d.length - (_ + 1) < _; omega) (To.pick (fun _ => .sub (t := 7) rfl (sp_eq (by rfl))<|.sub (t := 6) rfl (sp_eq (by rfl))<|.k 0 rfl<|.k 1 rfl<|.k 2 rfl<|.nil) (fun _ => .sub 0 rfl ((fun _ _ h => h))<|.nil) (ks := [0]) rfl)
 ·try simp only [cmpB, Z] at h1
  have hIi := hI.hi
  obtain rfl : k = d.length := by omega
  have hIl := hI.hl
  have hIc := hI.hc
  have gl := hI.hd.at (k := ((j : Int) + (d.length : Int)).toNat) (by omega)
  have ejn : ((j : Int) + (d.length : Int)).toNat = j + d.length := by omega
  have hdl := mor_done hu hI hj
  refine J_exit ?_
  refine zE ?_
  refine zE ?_
  refine zS ?_
  refine zC ?_
  refine (zG [] (.n (zA (.t rfl))<|.n (zA (.t rfl))<|.n (zA (.t rfl))<|.n (op_len_m sl86 (.t rfl))<|.n (op_add (.t rfl) (.t rfl) (zO (by omega) (by omega)))<|.r 0 (op_index_som 0 sl86 (.t rfl) (.t rfl) rfl (by omega) (by omega))<|.r 0 (op_get_som 0 0 sc132 (.t rfl) rfl (by omega))<|.n (zA (.t rfl))<|.n (op_conv_int it37 it132 (.t rfl) (wr32s (by omega) (by omega)))<|.n (op_add (.t rfl) (.t rfl) (wr32 _))<|.r 0 (op_index_som 0 sl86 (.t rfl) (.t rfl) rfl (by omega) (by omega))<|.w 0 (op_store_som (mk := inp .u32) 0 (.t rfl) (.t rfl) co_inp sz132 rfl (by omega))<|.nil) ff rfl fun g8 => ⟨_, _, [0], rfl, (.nil), (.k 0 rfl<|.nil), ?_⟩)
  refine JN_end ?_
  refine JN_to (To.res 0 (r' := som u (inp .u32) (morL us d j) 132) rfl (res_eq (by rw [← hdl, ejn])) rfl) ?_
  refine JN_retM 0 hr0 (fix_som (putI_len (by omega)).symm) rfl (.nil) (zM zL ?_)
  exact sb_any
end Go.Proofs.YtjnmgcglooeooaaGreatDoor
