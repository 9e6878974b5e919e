/- Printed by a program of ours (walk.py): walks of whole numbers as words. -/
import Derived.Test.YtjnmgcglooeooaaGreatDoorPsKb
import Derived.Test.YtjnmgcglooeooaaGreatDoorProg
import Derived.KernelRfl
import Derived.Test.YtjnmgcglooeooaaGreatDoorPsTypes
import Derived.Test.YtjnmgcglooeooaaGreatDoorPsWRef1
import Derived.Test.YtjnmgcglooeooaaGreatDoorPsKe
import Derived.Test.YtjnmgcglooeooaaGreatDoorPsKc
set_option linter.unusedVariables false
set_option linter.unusedSimpArgs false
set_option maxRecDepth 20000
set_option maxHeartbeats 1000000
namespace Go.Proofs.YtjnmgcglooeooaaGreatDoor
open Go Go.Bn
attribute [local irreducible] OpOK
theorem cut_ok {l : List Int} (hd : Dig l) : Ct Tryz.prog 87 [ils .u32 l] (ils .u32 (limbs (magI l).toNat)) := by
 refine Ct.of Tryz.func87 rfl (by kernel_rfl) rfl fun c0 => ?_
 refine J_len 0 rfl fun hlen => ?_
 refine zF (zG [] (.n (zB (.k rfl))<|.nil) ff rfl fun g1 => ⟨_, _, [], rfl, (.k 0 rfl<|.nil), (.nil), ?_⟩)
 refine zC ?_
 refine zF ?_
 refine zT ?_
 refine J_loopc (α := Nat) (fun k => k ≤ l.length ∧ magI (l.take k) = magI l) (fun k => k) (fun k restR => (0, ils .u32 (l.take k)) :: restR) (fun k restS => restS) (ρc := []) (σc := []) l.length (by exact ⟨Nat.le_refl _, by rw [List.take_length]⟩) (To.pick (fun _ => .sub (t := 0) rfl (sp_eq (by rw [List.take_length]))<|.nil) (fun _ => .nil) (ks := []) rfl) (fun k hI => ?_)
 obtain ⟨hk, hm⟩ := hI
 have hkl : (l.take k).length = k := by rw [List.length_take]; omega
 refine zF ?_
 refine zF (zG [] (.n (zA (.t rfl))<|.n (op_len_m sl86 (.t rfl))<|.n (op_cmp (by simp) (.t rfl) (.k rfl) rfl)<|.n (zA (.t rfl))<|.n (op_guard rfl rfl (gd_b rfl) (fun hC => (zA (.t rfl))))<|.n (op_guard rfl rfl (gd_b rfl) (fun hC => (zA (.t rfl))))<|.n (op_guard rfl rfl (gd_b rfl) (fun hC => (op_len_m sl86 (.w rfl hC))))<|.n (op_guard rfl rfl (gd_b rfl) (fun hC => (op_sub (.w rfl hC) (.k rfl) (zO (by omega) (by omega)))))<|.n (op_guard rfl rfl (gd_b rfl) (fun hC => (op_index_m 0 sl86 (.w rfl hC) (.w rfl hC) (by simp only [cmpB, Bool.and_eq_true, decide_eq_true_eq, beq_iff_eq] at hC; omega) (by omega))))<|.n (op_guard rfl rfl (gd_b rfl) (fun hC => (op_load_sc sc132 (.w rfl hC) rfl)))<|.n (op_guard rfl rfl (gd_b rfl) (fun hC => (op_cmp (by simp) (.w rfl hC) (.k rfl) rfl)))<|.n (op_and (.t rfl) (fun h2 => (.w rfl h2)))<|.nil) ff rfl fun g2 => ⟨_, _, [], rfl, (.k 0 rfl<|.k 14 rfl<|.nil), (.nil), ?_⟩)
 refine zC ?_
 refine zH (zK (.t rfl)) (fun h1 => ?_) (fun h1 => ?_)
 ·have h1' := h1
  try simp only [cmpB, Z] at h1
  have hca := cut_again hk h1'
  refine J_skip ?_
  refine zC ?_
  refine zT ?_
  refine (zG [] (.n (zA (.t rfl))<|.n (zA (.t rfl))<|.n (op_len_m sl86 (.t rfl))<|.n (op_sub (.t rfl) (.k rfl) (zO (by omega) (by omega)))<|.n (op_slice_mn sl86 (.t rfl) (.t rfl) (by omega) (by omega))<|.n (zB (.t rfl))<|.nil) ff rfl fun g3 => ⟨_, _, [], rfl, (.k 0 rfl<|.nil), (.nil), ?_⟩)
  refine zR ?_
  exact JN_again (k - 1) (by exact ⟨by omega, cut_mag hk hca.1 hca.2 hm⟩) (by omega) (To.pick (fun _ => .sub (t := 0) rfl (sp_eq (by exact congrArg (fun z => ils .u32 z) (cut_take hk hca.1 rfl)))<|.nil) (fun _ => .nil) (ks := []) rfl)
 ·have h1' := h1
  try simp only [cmpB, Z] at h1
  refine J_exit ?_
  refine zE ?_
  refine zE ?_
  refine zS ?_
  refine zC ?_
  refine zF (zG [] (.n (zA (.t rfl))<|.n (zB (.t rfl))<|.nil) ff rfl fun g4 => ⟨_, _, [], rfl, (.k 2 rfl<|.nil), (.nil), ?_⟩)
  refine zC ?_
  refine J_ret ?_
  refine zQ (.cons (.tmp (.t rfl))<|.nil) (zM (sb_res1 zL) ?_)
  exact sb_eq (congrArg (fun z => ils .u32 z) (cut_done hd hk hm (cut_exit hk h1')))
theorem cut_ok2 {a b : Int} (hd : Dig [a, b]) : Ct Tryz.prog 87 [slc 2 1 [isv (.int .u32 a), isv (.int .u32 b)]] (ils .u32 (limbs (magI [a, b]).toNat)) := cut_ok (l := [a, b]) hd
theorem plusG_ok {a b : List Int} (ha : Dig a) (hb : Dig b) (hla : a.length ≤ 1000000) (hlb : b.length ≤ 1000000) (hAB : b.length ≤ a.length) : Ct Tryz.prog 110 [ils .u32 a, ils .u32 b] (ils .u32 (limbs (magI a + magI b).toNat)) := by
 refine Ct.of Tryz.func110 rfl (by kernel_rfl) rfl fun c0 => ?_
 refine J_len 0 rfl fun hlen => ?_
 refine J_len 1 rfl fun hlen2 => ?_
 refine zF (zG [] (.n (zB (.k rfl))<|.nil) ff rfl fun g1 => ⟨_, _, [], rfl, (.k 0 rfl<|.k 1 rfl<|.nil), (.nil), ?_⟩)
 refine zC ?_
 refine zF ?_
 refine zF (zG [] (.n (zA (.t rfl))<|.n (op_len_m sl86 (.t rfl))<|.n (zA (.t rfl))<|.n (op_len_m sl86 (.t rfl))<|.n (op_cmp (by simp) (.t rfl) (.t rfl) rfl)<|.nil) ff rfl fun g2 => ⟨_, _, [], rfl, (.k 0 rfl<|.k 1 rfl<|.k 14 rfl<|.nil), (.nil), ?_⟩)
 refine zC ?_
 refine zH (zK (.t rfl)) (fun h1 => ?_) (fun h1 => ?_)
 ·try simp only [cmpB, Z] at h1
  exact absurd h1 (by omega)
 ·try simp only [cmpB, Z] at h1
  refine J_skip ?_
  refine zC ?_
  refine J_to (To.emps 1) ?_
  refine zF (zG [] (.n (zA (.t rfl))<|.n (op_len_m sl86 (.t rfl))<|.n (op_add (.t rfl) (.k rfl) (zO (by omega) (by omega)))<|.w 0 (op_make_m (mk := inp .u32) 0 0 sl86 zr132 rfl (fun _ => ⟨rfl, rfl⟩) (.t rfl) (.t rfl) (by omega) (by omega) (by omega) (by omega) rfl)<|.n (op_assign_ve rfl rfl)<|.nil) ff rfl fun g3 => ⟨_, _, [0], rfl, (.k 0 rfl<|.k 1 rfl<|.k 6 rfl<|.nil), (.k 0 rfl<|.nil), ?_⟩)
  refine zC ?_
  refine zF (zG [] (.n (zB (.k rfl))<|.nil) ff rfl fun g4 => ⟨_, _, [0], rfl, (.k 0 rfl<|.k 1 rfl<|.k 6 rfl<|.k 7 rfl<|.nil), (.k 0 rfl<|.nil), ?_⟩)
  refine zC ?_
  refine zF ?_
  refine zF (zG [] (.n (zB (.k rfl))<|.nil) ff rfl fun g5 => ⟨_, _, [0], rfl, (.k 0 rfl<|.k 1 rfl<|.k 6 rfl<|.k 7 rfl<|.k 8 rfl<|.nil), (.k 0 rfl<|.nil), ?_⟩)
  refine zC ?_
  refine zT ?_
  refine J_loopc (α := Nat × List Int × Int) (fun x => PluI a b x.2.1 x.1 x.2.2) (fun x => a.length - x.1) (fun x restR => (8, isv (.int .i64 (x.1 : Int))) :: (7, isv (.int .u64 x.2.2)) :: restR) (fun x restS => som (g3 21) (inp .u32) x.2.1 132 :: restS) (ρc := [(0, _), (1, _), (6, _)]) (σc := []) (0, List.replicate (a.length + 1) 0, 0) (by exact plu_zero rfl) (To.pick (fun _ => .sub (t := 8) rfl (sp_eq (by rfl))<|.sub (t := 7) rfl (sp_eq (by rfl))<|.k 0 rfl<|.k 1 rfl<|.k 6 rfl<|.nil) (fun _ => .sub 0 rfl ((res_eq (by rw [show ((a.length : Int) + 1).toNat = a.length + 1 by omega])))<|.nil) (ks := [0]) rfl) (fun x hI => ?_)
  obtain ⟨k, l, c⟩ := x
  try simp only at hI
  show J _ _ ((8, isv (.int .i64 (k : Int))) :: (7, isv (.int .u64 c)) :: _) (som (g3 21) (inp .u32) l 132 :: _) _ _
  refine zF ?_
  refine zF (zG [] (.n (zA (.t rfl))<|.n (zA (.t rfl))<|.n (op_len_m sl86 (.t rfl))<|.n (op_cmp (by simp) (.t rfl) (.t rfl) rfl)<|.nil) ff rfl fun g6 => ⟨_, _, [0], rfl, (.k 0 rfl<|.k 1 rfl<|.k 6 rfl<|.k 7 rfl<|.k 8 rfl<|.k 25 rfl<|.nil), (.k 0 rfl<|.nil), ?_⟩)
  refine zC ?_
  refine zH (zK (.t rfl)) (fun h2 => ?_) (fun h2 => ?_)
  ·try simp only [cmpB, Z] at h2
   have hIk := hI.hk
   have hIl := hI.hl
   have hIc := hI.hc
   have ga := ha.at (k := ((k : Nat) : Int).toNat) (show k < a.length by omega)
   refine J_skip ?_
   refine zC ?_
   refine zF ?_
   refine zT ?_
   refine zF (zG [] (.n (zA (.t rfl))<|.n (zA (.t rfl))<|.n (op_index_m 0 sl86 (.t rfl) (.t rfl) (by omega) (by omega))<|.n (op_load_sc sc132 (.t rfl) rfl)<|.n (op_conv_int it132 it37 (.t rfl) (wr64 (by omega) (by omega)))<|.n (zA (.t rfl))<|.n (op_add (.t rfl) (.t rfl) (wr64 (by omega) (by omega)))<|.n (zB (.t rfl))<|.nil) ff rfl fun g7 => ⟨_, _, [0], rfl, (.k 0 rfl<|.k 1 rfl<|.k 6 rfl<|.k 8 rfl<|.k 9 rfl<|.nil), (.k 0 rfl<|.nil), ?_⟩)
   refine zC ?_
   refine zF ?_
   refine zF (zG [] (.n (zA (.t rfl))<|.n (zA (.t rfl))<|.n (op_len_m sl86 (.t rfl))<|.n (op_cmp (by simp) (.t rfl) (.t rfl) rfl)<|.nil) ff rfl fun g8 => ⟨_, _, [0], rfl, (.k 0 rfl<|.k 1 rfl<|.k 6 rfl<|.k 8 rfl<|.k 9 rfl<|.k 38 rfl<|.nil), (.k 0 rfl<|.nil), ?_⟩)
   refine zC ?_
   refine zH (zK (.t rfl)) (fun h3 => ?_) (fun h3 => ?_)
   ·try simp only [cmpB, Z] at h3
    have gb := hb.at (k := ((k : Nat) : Int).toNat) (show k < b.length by omega)
    refine (zG [] (.n (zA (.t rfl))<|.n (zA (.t rfl))<|.n (zA (.t rfl))<|.n (op_index_m 0 sl86 (.t rfl) (.t rfl) (by omega) (by omega))<|.n (op_load_sc sc132 (.t rfl) rfl)<|.n (op_conv_int it132 it37 (.t rfl) (wr64 (by omega) (by omega)))<|.n (op_add (.t rfl) (.t rfl) (wr64 (by omega) (by omega)))<|.n (zB (.t rfl))<|.nil) ff rfl fun g9 => ⟨_, _, [0], rfl, (.k 0 rfl<|.k 1 rfl<|.k 6 rfl<|.k 8 rfl<|.k 9 rfl<|.nil), (.k 0 rfl<|.nil), ?_⟩)
    refine zC ?_
    obtain ⟨s, hs⟩ : ∃ s, s = (a.getD ((k : Nat) : Int).toNat 0) + c + (if k < b.length then b.getD k 0 else 0) := ⟨_, rfl⟩
    first | rw [show (a.getD ((k : Nat) : Int).toNat 0) + c + (b.getD ((k : Nat) : Int).toNat 0) = s by rw [hs, if_pos (by omega)]; rfl] | rw [show (a.getD ((k : Nat) : Int).toNat 0) + c = s by rw [hs, if_neg (by omega)]; omega]
    have hs2 : 0 ≤ s ∧ s < 8589934592 := plu_rng ha hb (show k < a.length by omega) hIc hs
    refine zF (zG [] (.n (zA (.t rfl))<|.n (zA (.t rfl))<|.n (zA (.t rfl))<|.n (op_conv_int it37 it132 (.t rfl) (wr32 _))<|.r 0 (op_index_som 0 sl86 (.t rfl) (.t rfl) rfl (by omega) (by omega))<|.w 0 (op_store_som (mk := inp .u32) 0 (.t rfl) (.t rfl) co_inp sz132 rfl (by omega))<|.nil) ff rfl fun g10 => ⟨_, _, [0], rfl, (.k 0 rfl<|.k 1 rfl<|.k 6 rfl<|.k 8 rfl<|.k 9 rfl<|.nil), (.k 0 rfl<|.nil), ?_⟩)
    refine zC ?_
    refine (zG [] (.n (zA (.t rfl))<|.n (op_shr (.t rfl) (.k rfl) (by omega) (shr32 _))<|.n (zB (.t rfl))<|.nil) ff rfl fun g11 => ⟨_, _, [0], rfl, (.k 0 rfl<|.k 1 rfl<|.k 6 rfl<|.k 7 rfl<|.k 8 rfl<|.nil), (.k 0 rfl<|.nil), ?_⟩)
    refine zR ?_
    refine zC ?_
    refine (zG [] (.n (zA (.t rfl))<|.n (op_add (.t rfl) (.k rfl) (zO (by omega) (by omega)))<|.n (zB (.t rfl))<|.nil) ff rfl fun g12 => ⟨_, _, [0], rfl, (.k 0 rfl<|.k 1 rfl<|.k 6 rfl<|.k 7 rfl<|.k 8 rfl<|.nil), (.k 0 rfl<|.nil), ?_⟩)
    exact JN_again (k + 1, l.set k (s % 4294967296), s / 4294967296) (by exact plu_step ha hb hI (by omega) hs) (by show a.length - (_ + 1) < _; omega) (To.pick (fun _ => .sub (t := 8) rfl (sp_eq (by rfl))<|.sub (t := 7) rfl (sp_eq (by rfl))<|.k 0 rfl<|.k 1 rfl<|.k 6 rfl<|.nil) (fun _ => .sub 0 rfl ((fun _ _ h => h))<|.nil) (ks := [0]) rfl)
   ·try simp only [cmpB, Z] at h3
    refine J_skip ?_
    refine zC ?_
    obtain ⟨s, hs⟩ : ∃ s, s = (a.getD ((k : Nat) : Int).toNat 0) + c + (if k < b.length then b.getD k 0 else 0) := ⟨_, rfl⟩
    first | rw [show (a.getD ((k : Nat) : Int).toNat 0) + c + (b.getD ((k : Nat) : Int).toNat 0) = s by rw [hs, if_pos (by omega)]; rfl] | rw [show (a.getD ((k : Nat) : Int).toNat 0) + c = s by rw [hs, if_neg (by omega)]; omega]
    have hs2 : 0 ≤ s ∧ s < 8589934592 := plu_rng ha hb (show k < a.length by omega) hIc hs
    refine zF (zG [] (.n (zA (.t rfl))<|.n (zA (.t rfl))<|.n (zA (.t rfl))<|.n (op_conv_int it37 it132 (.t rfl) (wr32 _))<|.r 0 (op_index_som 0 sl86 (.t rfl) (.t rfl) rfl (by omega) (by omega))<|.w 0 (op_store_som (mk := inp .u32) 0 (.t rfl) (.t rfl) co_inp sz132 rfl (by omega))<|.nil) ff rfl fun g13 => ⟨_, _, [0], rfl, (.k 0 rfl<|.k 1 rfl<|.k 6 rfl<|.k 8 rfl<|.k 9 rfl<|.nil), (.k 0 rfl<|.nil), ?_⟩)
    refine zC ?_
    refine (zG [] (.n (zA (.t rfl))<|.n (op_shr (.t rfl) (.k rfl) (by omega) (shr32 _))<|.n (zB (.t rfl))<|.nil) ff rfl fun g14 => ⟨_, _, [0], rfl, (.k 0 rfl<|.k 1 rfl<|.k 6 rfl<|.k 7 rfl<|.k 8 rfl<|.nil), (.k 0 rfl<|.nil), ?_⟩)
    refine zR ?_
    refine zC ?_
    refine (zG [] (.n (zA (.t rfl))<|.n (op_add (.t rfl) (.k rfl) (zO (by omega) (by omega)))<|.n (zB (.t rfl))<|.nil) ff rfl fun g15 => ⟨_, _, [0], rfl, (.k 0 rfl<|.k 1 rfl<|.k 6 rfl<|.k 7 rfl<|.k 8 rfl<|.nil), (.k 0 rfl<|.nil), ?_⟩)
    exact JN_again (k + 1, l.set k (s % 4294967296), s / 4294967296) (by exact plu_step ha hb hI (by omega) hs) (by show a.length - (_ + 1) < _; omega) (To.pick (fun _ => .sub (t := 8) rfl (sp_eq (by rfl))<|.sub (t := 7) rfl (sp_eq (by rfl))<|.k 0 rfl<|.k 1 rfl<|.k 6 rfl<|.nil) (fun _ => .sub 0 rfl ((fun _ _ h => h))<|.nil) (ks := [0]) rfl)
  ·try simp only [cmpB, Z] at h2
   have hIl := hI.hl
   have hIc := hI.hc
   obtain ⟨hdg, hmg⟩ := plu_done hAB hI (show k = a.length by have := hI.hk; omega)
   refine J_exit ?_
   refine zE ?_
   refine zE ?_
   refine zS ?_
   refine zC ?_
   refine zF (zG [] (.n (zA (.t rfl))<|.n (zA (.t rfl))<|.n (op_len_m sl86 (.t rfl))<|.n (zA (.t rfl))<|.n (op_conv_int it37 it132 (.t rfl) (wr32s (by omega) (by omega)))<|.r 0 (op_index_som 0 sl86 (.t rfl) (.t rfl) rfl (by omega) (by omega))<|.w 0 (op_store_som (mk := inp .u32) 0 (.t rfl) (.t rfl) co_inp sz132 rfl (by omega))<|.nil) ff rfl fun g16 => ⟨_, _, [0], rfl, (.k 6 rfl<|.nil), (.k 0 rfl<|.nil), ?_⟩)
   refine zC ?_
   refine J_to (To.freeze 0 (fun _ h => h) rfl frz_som rfl) ?_
   refine zF (zG [] (.n (zA (.t rfl))<|.n (zP (cut_ok hdg) ⟨(Lk.sub (sb_fk 0 rfl) (.t rfl)),  trivial⟩)<|.n (zB (.t rfl))<|.nil) ff rfl fun g17 => ⟨_, _, [], rfl, (.k 4 rfl<|.nil), (.nil), ?_⟩)
   refine zC ?_
   refine J_ret ?_
   refine zQ (.cons (.tmp (.t rfl))<|.nil) (zM (sb_res1 zL) ?_)
   exact sb_eq (congrArg (fun z => ils .u32 (limbs z.toNat)) hmg)
theorem plusL_ok {a b : List Int} (ha : Dig a) (hb : Dig b) (hla : a.length ≤ 1000000) (hlb : b.length ≤ 1000000) (hAB : a.length ≤ b.length) (hne : a.length < b.length) : Ct Tryz.prog 110 [ils .u32 a, ils .u32 b] (ils .u32 (limbs (magI a + magI b).toNat)) := by
 refine Ct.of Tryz.func110 rfl (by kernel_rfl) rfl fun c0 => ?_
 refine J_len 0 rfl fun hlen => ?_
 refine J_len 1 rfl fun hlen2 => ?_
 refine zF (zG [] (.n (zB (.k rfl))<|.nil) ff rfl fun g1 => ⟨_, _, [], rfl, (.k 0 rfl<|.k 1 rfl<|.nil), (.nil), ?_⟩)
 refine zC ?_
 refine zF ?_
 refine zF (zG [] (.n (zA (.t rfl))<|.n (op_len_m sl86 (.t rfl))<|.n (zA (.t rfl))<|.n (op_len_m sl86 (.t rfl))<|.n (op_cmp (by simp) (.t rfl) (.t rfl) rfl)<|.nil) ff rfl fun g2 => ⟨_, _, [], rfl, (.k 0 rfl<|.k 1 rfl<|.k 14 rfl<|.nil), (.nil), ?_⟩)
 refine zC ?_
 refine zH (zK (.t rfl)) (fun h1 => ?_) (fun h1 => ?_)
 ·try simp only [cmpB, Z] at h1
  refine zF (zG [] (.n (zA (.t rfl))<|.n (zB (.t rfl))<|.nil) ff rfl fun g3 => ⟨_, _, [], rfl, (.k 1 rfl<|.k 5 rfl<|.nil), (.nil), ?_⟩)
  refine zC ?_
  refine zF (zG [] (.n (zA (.t rfl))<|.n (zB (.t rfl))<|.nil) ff rfl fun g4 => ⟨_, _, [], rfl, (.k 0 rfl<|.k 5 rfl<|.nil), (.nil), ?_⟩)
  refine zC ?_
  refine (zG [] (.n (zA (.t rfl))<|.n (zB (.t rfl))<|.nil) ff rfl fun g5 => ⟨_, _, [], rfl, (.k 0 rfl<|.k 1 rfl<|.nil), (.nil), ?_⟩)
  refine zC ?_
  refine J_to (To.emps 1) ?_
  refine zF (zG [] (.n (zA (.t rfl))<|.n (op_len_m sl86 (.t rfl))<|.n (op_add (.t rfl) (.k rfl) (zO (by omega) (by omega)))<|.w 0 (op_make_m (mk := inp .u32) 0 0 sl86 zr132 rfl (fun _ => ⟨rfl, rfl⟩) (.t rfl) (.t rfl) (by omega) (by omega) (by omega) (by omega) rfl)<|.n (op_assign_ve rfl rfl)<|.nil) ff rfl fun g6 => ⟨_, _, [0], rfl, (.k 0 rfl<|.k 1 rfl<|.k 6 rfl<|.nil), (.k 0 rfl<|.nil), ?_⟩)
  refine zC ?_
  refine zF (zG [] (.n (zB (.k rfl))<|.nil) ff rfl fun g7 => ⟨_, _, [0], rfl, (.k 0 rfl<|.k 1 rfl<|.k 6 rfl<|.k 7 rfl<|.nil), (.k 0 rfl<|.nil), ?_⟩)
  refine zC ?_
  refine zF ?_
  refine zF (zG [] (.n (zB (.k rfl))<|.nil) ff rfl fun g8 => ⟨_, _, [0], rfl, (.k 0 rfl<|.k 1 rfl<|.k 6 rfl<|.k 7 rfl<|.k 8 rfl<|.nil), (.k 0 rfl<|.nil), ?_⟩)
  refine zC ?_
  refine zT ?_
  refine J_loopc (α := Nat × List Int × Int) (fun x => PluI b a x.2.1 x.1 x.2.2) (fun x => b.length - x.1) (fun x restR => (8, isv (.int .i64 (x.1 : Int))) :: (7, isv (.int .u64 x.2.2)) :: restR) (fun x restS => som (g6 21) (inp .u32) x.2.1 132 :: restS) (ρc := [(0, _), (1, _), (6, _)]) (σc := []) (0, List.replicate (b.length + 1) 0, 0) (by exact plu_zero rfl) (To.pick (fun _ => .sub (t := 8) rfl (sp_eq (by rfl))<|.sub (t := 7) rfl (sp_eq (by rfl))<|.k 0 rfl<|.k 1 rfl<|.k 6 rfl<|.nil) (fun _ => .sub 0 rfl ((res_eq (by rw [show ((b.length : Int) + 1).toNat = b.length + 1 by omega])))<|.nil) (ks := [0]) rfl) (fun x hI => ?_)
  obtain ⟨k, l, c⟩ := x
  try simp only at hI
  show J _ _ ((8, isv (.int .i64 (k : Int))) :: (7, isv (.int .u64 c)) :: _) (som (g6 21) (inp .u32) l 132 :: _) _ _
  refine zF ?_
  refine zF (zG [] (.n (zA (.t rfl))<|.n (zA (.t rfl))<|.n (op_len_m sl86 (.t rfl))<|.n (op_cmp (by simp) (.t rfl) (.t rfl) rfl)<|.nil) ff rfl fun g9 => ⟨_, _, [0], rfl, (.k 0 rfl<|.k 1 rfl<|.k 6 rfl<|.k 7 rfl<|.k 8 rfl<|.k 25 rfl<|.nil), (.k 0 rfl<|.nil), ?_⟩)
  refine zC ?_
  refine zH (zK (.t rfl)) (fun h2 => ?_) (fun h2 => ?_)
  ·try simp only [cmpB, Z] at h2
   have hIk := hI.hk
   have hIl := hI.hl
   have hIc := hI.hc
   have ga := hb.at (k := ((k : Nat) : Int).toNat) (show k < b.length by omega)
   refine J_skip ?_
   refine zC ?_
   refine zF ?_
   refine zT ?_
   refine zF (zG [] (.n (zA (.t rfl))<|.n (zA (.t rfl))<|.n (op_index_m 0 sl86 (.t rfl) (.t rfl) (by omega) (by omega))<|.n (op_load_sc sc132 (.t rfl) rfl)<|.n (op_conv_int it132 it37 (.t rfl) (wr64 (by omega) (by omega)))<|.n (zA (.t rfl))<|.n (op_add (.t rfl) (.t rfl) (wr64 (by omega) (by omega)))<|.n (zB (.t rfl))<|.nil) ff rfl fun g10 => ⟨_, _, [0], rfl, (.k 0 rfl<|.k 1 rfl<|.k 6 rfl<|.k 8 rfl<|.k 9 rfl<|.nil), (.k 0 rfl<|.nil), ?_⟩)
   refine zC ?_
   refine zF ?_
   refine zF (zG [] (.n (zA (.t rfl))<|.n (zA (.t rfl))<|.n (op_len_m sl86 (.t rfl))<|.n (op_cmp (by simp) (.t rfl) (.t rfl) rfl)<|.nil) ff rfl fun g11 => ⟨_, _, [0], rfl, (.k 0 rfl<|.k 1 rfl<|.k 6 rfl<|.k 8 rfl<|.k 9 rfl<|.k 38 rfl<|.nil), (.k 0 rfl<|.nil), ?_⟩)
   refine zC ?_
   refine zH (zK (.t rfl)) (fun h3 => ?_) (fun h3 => ?_)
   ·try simp only [cmpB, Z] at h3
    have gb := ha.at (k := ((k : Nat) : Int).toNat) (show k < a.length by omega)
    refine (zG [] (.n (zA (.t rfl))<|.n (zA (.t rfl))<|.n (zA (.t rfl))<|.n (op_index_m 0 sl86 (.t rfl) (.t rfl) (by omega) (by omega))<|.n (op_load_sc sc132 (.t rfl) rfl)<|.n (op_conv_int it132 it37 (.t rfl) (wr64 (by omega) (by omega)))<|.n (op_add (.t rfl) (.t rfl) (wr64 (by omega) (by omega)))<|.n (zB (.t rfl))<|.nil) ff rfl fun g12 => ⟨_, _, [0], rfl, (.k 0 rfl<|.k 1 rfl<|.k 6 rfl<|.k 8 rfl<|.k 9 rfl<|.nil), (.k 0 rfl<|.nil), ?_⟩)
    refine zC ?_
    obtain ⟨s, hs⟩ : ∃ s, s = (b.getD ((k : Nat) : Int).toNat 0) + c + (if k < a.length then a.getD k 0 else 0) := ⟨_, rfl⟩
    first | rw [show (b.getD ((k : Nat) : Int).toNat 0) + c + (a.getD ((k : Nat) : Int).toNat 0) = s by rw [hs, if_pos (by omega)]; rfl] | rw [show (b.getD ((k : Nat) : Int).toNat 0) + c = s by rw [hs, if_neg (by omega)]; omega]
    have hs2 : 0 ≤ s ∧ s < 8589934592 := plu_rng hb ha (show k < b.length by omega) hIc hs
    refine zF (zG [] (.n (zA (.t rfl))<|.n (zA (.t rfl))<|.n (zA (.t rfl))<|.n (op_conv_int it37 it132 (.t rfl) (wr32 _))<|.r 0 (op_index_som 0 sl86 (.t rfl) (.t rfl) rfl (by omega) (by omega))<|.w 0 (op_store_som (mk := inp .u32) 0 (.t rfl) (.t rfl) co_inp sz132 rfl (by omega))<|.nil) ff rfl fun g13 => ⟨_, _, [0], rfl, (.k 0 rfl<|.k 1 rfl<|.k 6 rfl<|.k 8 rfl<|.k 9 rfl<|.nil), (.k 0 rfl<|.nil), ?_⟩)
    refine zC ?_
    refine (zG [] (.n (zA (.t rfl))<|.n (op_shr (.t rfl) (.k rfl) (by omega) (shr32 _))<|.n (zB (.t rfl))<|.nil) ff rfl fun g14 => ⟨_, _, [0], rfl, (.k 0 rfl<|.k 1 rfl<|.k 6 rfl<|.k 7 rfl<|.k 8 rfl<|.nil), (.k 0 rfl<|.nil), ?_⟩)
    refine zR ?_
    refine zC ?_
    refine (zG [] (.n (zA (.t rfl))<|.n (op_add (.t rfl) (.k rfl) (zO (by omega) (by omega)))<|.n (zB (.t rfl))<|.nil) ff rfl fun g15 => ⟨_, _, [0], rfl, (.k 0 rfl<|.k 1 rfl<|.k 6 rfl<|.k 7 rfl<|.k 8 rfl<|.nil), (.k 0 rfl<|.nil), ?_⟩)
    exact JN_again (k + 1, l.set k (s % 4294967296), s / 4294967296) (by exact plu_step hb ha hI (by omega) hs) (by show b.length - (_ + 1) < _; omega) (To.pick (fun _ => .sub (t := 8) rfl (sp_eq (by rfl))<|.sub (t := 7) rfl (sp_eq (by rfl))<|.k 0 rfl<|.k 1 rfl<|.k 6 rfl<|.nil) (fun _ => .sub 0 rfl ((fun _ _ h => h))<|.nil) (ks := [0]) rfl)
   ·try simp only [cmpB, Z] at h3
    refine J_skip ?_
    refine zC ?_
    obtain ⟨s, hs⟩ : ∃ s, s = (b.getD ((k : Nat) : Int).toNat 0) + c + (if k < a.length then a.getD k 0 else 0) := ⟨_, rfl⟩
    first | rw [show (b.getD ((k : Nat) : Int).toNat 0) + c + (a.getD ((k : Nat) : Int).toNat 0) = s by rw [hs, if_pos (by omega)]; rfl] | rw [show (b.getD ((k : Nat) : Int).toNat 0) + c = s by rw [hs, if_neg (by omega)]; omega]
    have hs2 : 0 ≤ s ∧ s < 8589934592 := plu_rng hb ha (show k < b.length by omega) hIc hs
    refine zF (zG [] (.n (zA (.t rfl))<|.n (zA (.t rfl))<|.n (zA (.t rfl))<|.n (op_conv_int it37 it132 (.t rfl) (wr32 _))<|.r 0 (op_index_som 0 sl86 (.t rfl) (.t rfl) rfl (by omega) (by omega))<|.w 0 (op_store_som (mk := inp .u32) 0 (.t rfl) (.t rfl) co_inp sz132 rfl (by omega))<|.nil) ff rfl fun g16 => ⟨_, _, [0], rfl, (.k 0 rfl<|.k 1 rfl<|.k 6 rfl<|.k 8 rfl<|.k 9 rfl<|.nil), (.k 0 rfl<|.nil), ?_⟩)
    refine zC ?_
    refine (zG [] (.n (zA (.t rfl))<|.n (op_shr (.t rfl) (.k rfl) (by omega) (shr32 _))<|.n (zB (.t rfl))<|.nil) ff rfl fun g17 => ⟨_, _, [0], rfl, (.k 0 rfl<|.k 1 rfl<|.k 6 rfl<|.k 7 rfl<|.k 8 rfl<|.nil), (.k 0 rfl<|.nil), ?_⟩)
    refine zR ?_
    refine zC ?_
    refine (zG [] (.n (zA (.t rfl))<|.n (op_add (.t rfl) (.k rfl) (zO (by omega) (by omega)))<|.n (zB (.t rfl))<|.nil) ff rfl fun g18 => ⟨_, _, [0], rfl, (.k 0 rfl<|.k 1 rfl<|.k 6 rfl<|.k 7 rfl<|.k 8 rfl<|.nil), (.k 0 rfl<|.nil), ?_⟩)
    exact JN_again (k + 1, l.set k (s % 4294967296), s / 4294967296) (by exact plu_step hb ha hI (by omega) hs) (by show b.length - (_ + 1) < _; omega) (To.pick (fun _ => .sub (t := 8) rfl (sp_eq (by rfl))<|.sub (t := 7) rfl (sp_eq (by rfl))<|.k 0 rfl<|.k 1 rfl<|.k 6 rfl<|.nil) (fun _ => .sub 0 rfl ((fun _ _ h => h))<|.nil) (ks := [0]) rfl)
  ·try simp only [cmpB, Z] at h2
   have hIl := hI.hl
   have hIc := hI.hc
   obtain ⟨hdg, hmg⟩ := plu_done hAB hI (show k = b.length by have := hI.hk; omega)
   refine J_exit ?_
   refine zE ?_
   refine zE ?_
   refine zS ?_
   refine zC ?_
   refine zF (zG [] (.n (zA (.t rfl))<|.n (zA (.t rfl))<|.n (op_len_m sl86 (.t rfl))<|.n (zA (.t rfl))<|.n (op_conv_int it37 it132 (.t rfl) (wr32s (by omega) (by omega)))<|.r 0 (op_index_som 0 sl86 (.t rfl) (.t rfl) rfl (by omega) (by omega))<|.w 0 (op_store_som (mk := inp .u32) 0 (.t rfl) (.t rfl) co_inp sz132 rfl (by omega))<|.nil) ff rfl fun g19 => ⟨_, _, [0], rfl, (.k 6 rfl<|.nil), (.k 0 rfl<|.nil), ?_⟩)
   refine zC ?_
   refine J_to (To.freeze 0 (fun _ h => h) rfl frz_som rfl) ?_
   refine zF (zG [] (.n (zA (.t rfl))<|.n (zP (cut_ok hdg) ⟨(Lk.sub (sb_fk 0 rfl) (.t rfl)),  trivial⟩)<|.n (zB (.t rfl))<|.nil) ff rfl fun g20 => ⟨_, _, [], rfl, (.k 4 rfl<|.nil), (.nil), ?_⟩)
   refine zC ?_
   refine J_ret ?_
   refine zQ (.cons (.tmp (.t rfl))<|.nil) (zM (sb_res1 zL) ?_)
   exact sb_eq (congrArg (fun z => ils .u32 (limbs z.toNat)) (hmg.trans (Int.add_comm _ _)))
 ·try simp only [cmpB, Z] at h1
  exact absurd h1 (by omega)
theorem plus_ok {a b : List Int} (ha : Dig a) (hb : Dig b) (hla : a.length ≤ 1000000) (hlb : b.length ≤ 1000000) : Ct Tryz.prog 110 [ils .u32 a, ils .u32 b] (ils .u32 (limbs (magI a + magI b).toNat)) := if h : a.length < b.length then plusL_ok ha hb hla hlb (Nat.le_of_lt h) h else plusG_ok ha hb hla hlb (Nat.le_of_not_lt h)
theorem minus_ok {a b : List Int} (ha : Dig a) (hb : Dig b) (hla : a.length ≤ 1000000) (hlb : b.length ≤ 1000000) (hAB : b.length ≤ a.length) (hle : magI b ≤ magI a) : Ct Tryz.prog 111 [ils .u32 a, ils .u32 b] (ils .u32 (limbs (magI a - magI b).toNat)) := by
 refine Ct.of Tryz.func111 rfl (by kernel_rfl) rfl fun c0 => ?_
 refine J_len 0 rfl fun hlen => ?_
 refine J_len 1 rfl fun hlen2 => ?_
 refine zF (zG [] (.n (zB (.k rfl))<|.nil) ff rfl fun g1 => ⟨_, _, [], rfl, (.k 0 rfl<|.k 1 rfl<|.nil), (.nil), ?_⟩)
 refine zC ?_
 refine J_to (To.emps 1) ?_
 refine zF (zG [] (.n (zA (.t rfl))<|.n (op_len_m sl86 (.t rfl))<|.w 0 (op_make_m (mk := inp .u32) 0 0 sl86 zr132 rfl (fun _ => ⟨rfl, rfl⟩) (.t rfl) (.t rfl) (by omega) (by omega) (by omega) (by omega) rfl)<|.n (op_assign_ve rfl rfl)<|.nil) ff rfl fun g2 => ⟨_, _, [0], rfl, (.k 0 rfl<|.k 1 rfl<|.k 5 rfl<|.nil), (.k 0 rfl<|.nil), ?_⟩)
 refine zC ?_
 refine zF (zG [] (.n (zB (.k rfl))<|.nil) ff rfl fun g3 => ⟨_, _, [0], rfl, (.k 0 rfl<|.k 1 rfl<|.k 5 rfl<|.k 6 rfl<|.nil), (.k 0 rfl<|.nil), ?_⟩)
 refine zC ?_
 refine zF ?_
 refine zF (zG [] (.n (zB (.k rfl))<|.nil) ff rfl fun g4 => ⟨_, _, [0], rfl, (.k 0 rfl<|.k 1 rfl<|.k 5 rfl<|.k 6 rfl<|.k 7 rfl<|.nil), (.k 0 rfl<|.nil), ?_⟩)
 refine zC ?_
 refine zT ?_
 refine J_loopc (α := Nat × List Int × Int) (fun x => MinI a b x.2.1 x.1 x.2.2) (fun x => a.length - x.1) (fun x restR => (7, isv (.int .i64 (x.1 : Int))) :: (6, isv (.int .u64 x.2.2)) :: restR) (fun x restS => som (g2 12) (inp .u32) x.2.1 132 :: restS) (ρc := [(0, _), (1, _), (5, _)]) (σc := []) (0, List.replicate (a.length : Int).toNat 0, 0) (by exact min_zero (by omega)) (To.pick (fun _ => .sub (t := 7) rfl (sp_eq (by rfl))<|.sub (t := 6) rfl (sp_eq (by rfl))<|.k 0 rfl<|.k 1 rfl<|.k 5 rfl<|.nil) (fun _ => .sub 0 rfl ((fun _ _ h => h))<|.nil) (ks := [0]) rfl) (fun x hI => ?_)
 obtain ⟨k, l, c⟩ := x
 try simp only at hI
 show J _ _ ((7, isv (.int .i64 (k : Int))) :: (6, isv (.int .u64 c)) :: _) (som (g2 12) (inp .u32) l 132 :: _) _ _
 refine zF ?_
 refine zF (zG [] (.n (zA (.t rfl))<|.n (zA (.t rfl))<|.n (op_len_m sl86 (.t rfl))<|.n (op_cmp (by simp) (.t rfl) (.t rfl) rfl)<|.nil) ff rfl fun g5 => ⟨_, _, [0], rfl, (.k 0 rfl<|.k 1 rfl<|.k 5 rfl<|.k 6 rfl<|.k 7 rfl<|.k 16 rfl<|.nil), (.k 0 rfl<|.nil), ?_⟩)
 refine zC ?_
 refine zH (zK (.t rfl)) (fun h1 => ?_) (fun h1 => ?_)
 ·try simp only [cmpB, Z] at h1
  have hIk := hI.hk
  have hIl := hI.hl
  have hIc := hI.hc
  have ga := ha.at (k := ((k : Nat) : Int).toNat) (show k < a.length by omega)
  have gd := digB_rng hb k
  refine J_skip ?_
  refine zC ?_
  refine zF ?_
  refine zT ?_
  refine zF (zG [] (.n (zA (.t rfl))<|.n (zB (.t rfl))<|.nil) ff rfl fun g6 => ⟨_, _, [0], rfl, (.k 0 rfl<|.k 1 rfl<|.k 5 rfl<|.k 7 rfl<|.k 8 rfl<|.nil), (.k 0 rfl<|.nil), ?_⟩)
  refine zC ?_
  refine zF ?_
  refine zF (zG [] (.n (zA (.t rfl))<|.n (zA (.t rfl))<|.n (op_len_m sl86 (.t rfl))<|.n (op_cmp (by simp) (.t rfl) (.t rfl) rfl)<|.nil) ff rfl fun g7 => ⟨_, _, [0], rfl, (.k 0 rfl<|.k 1 rfl<|.k 5 rfl<|.k 7 rfl<|.k 8 rfl<|.k 23 rfl<|.nil), (.k 0 rfl<|.nil), ?_⟩)
  refine zC ?_
  refine zH (zK (.t rfl)) (fun h2 => ?_) (fun h2 => ?_)
  ·try simp only [cmpB, Z] at h2
   have gb := hb.at (k := ((k : Nat) : Int).toNat) (show k < b.length by omega)
   refine (zG [] (.n (zA (.t rfl))<|.n (zA (.t rfl))<|.n (zA (.t rfl))<|.n (op_index_m 0 sl86 (.t rfl) (.t rfl) (by omega) (by omega))<|.n (op_load_sc sc132 (.t rfl) rfl)<|.n (op_conv_int it132 it37 (.t rfl) (wr64 (by omega) (by omega)))<|.n (op_add (.t rfl) (.t rfl) (wr64 (by omega) (by omega)))<|.n (zB (.t rfl))<|.nil) ff rfl fun g8 => ⟨_, _, [0], rfl, (.k 0 rfl<|.k 1 rfl<|.k 5 rfl<|.k 7 rfl<|.k 8 rfl<|.nil), (.k 0 rfl<|.nil), ?_⟩)
   refine zC ?_
   obtain ⟨y, hy⟩ : ∃ y, y = c + digB b k := ⟨_, rfl⟩
   first | rw [show c + (b.getD ((k : Nat) : Int).toNat 0) = y by rw [hy]; unfold digB; rw [if_pos (by omega)]; rfl] | rw [show isv (.int .u64 c) = isv (.int .u64 y) by rw [hy]; unfold digB; rw [if_neg (by omega), Int.add_zero]]
   refine zF (zG [] (.n (zA (.t rfl))<|.n (zA (.t rfl))<|.n (op_index_m 0 sl86 (.t rfl) (.t rfl) (by omega) (by omega))<|.n (op_load_sc sc132 (.t rfl) rfl)<|.n (op_conv_int it132 it37 (.t rfl) (wr64 (by omega) (by omega)))<|.n (zB (.t rfl))<|.nil) ff rfl fun g9 => ⟨_, _, [0], rfl, (.k 0 rfl<|.k 1 rfl<|.k 5 rfl<|.k 7 rfl<|.k 8 rfl<|.k 9 rfl<|.nil), (.k 0 rfl<|.nil), ?_⟩)
   refine zC ?_
   refine zF (zG [] (.n (zA (.t rfl))<|.n (zA (.t rfl))<|.n (op_cmp (by simp) (.t rfl) (.t rfl) rfl)<|.nil) ff rfl fun g10 => ⟨_, _, [0], rfl, (.k 0 rfl<|.k 1 rfl<|.k 5 rfl<|.k 7 rfl<|.k 8 rfl<|.k 9 rfl<|.k 38 rfl<|.nil), (.k 0 rfl<|.nil), ?_⟩)
   refine zC ?_
   refine zH (zK (.t rfl)) (fun h3 => ?_) (fun h3 => ?_)
   ·try simp only [cmpB, Z] at h3
    refine zF (zG [] (.n (zA (.t rfl))<|.n (zA (.t rfl))<|.n (zA (.t rfl))<|.n (op_add (.t rfl) (.k rfl) (wr64 (by omega) (by omega)))<|.n (zA (.t rfl))<|.n (op_sub (.t rfl) (.t rfl) (wr64 (by omega) (by omega)))<|.n (op_conv_int it37 it132 (.t rfl) (wr32s (by omega) (by omega)))<|.r 0 (op_index_som 0 sl86 (.t rfl) (.t rfl) rfl (by omega) (by omega))<|.w 0 (op_store_som (mk := inp .u32) 0 (.t rfl) (.t rfl) co_inp sz132 rfl (by omega))<|.nil) ff rfl fun g11 => ⟨_, _, [0], rfl, (.k 0 rfl<|.k 1 rfl<|.k 5 rfl<|.k 7 rfl<|.nil), (.k 0 rfl<|.nil), ?_⟩)
    refine zC ?_
    refine (zG [] (.n (zB (.k rfl))<|.nil) ff rfl fun g12 => ⟨_, _, [0], rfl, (.k 0 rfl<|.k 1 rfl<|.k 5 rfl<|.k 6 rfl<|.k 7 rfl<|.nil), (.k 0 rfl<|.nil), ?_⟩)
    refine zR ?_
    refine zC ?_
    refine (zG [] (.n (zA (.t rfl))<|.n (op_add (.t rfl) (.k rfl) (zO (by omega) (by omega)))<|.n (zB (.t rfl))<|.nil) ff rfl fun g13 => ⟨_, _, [0], rfl, (.k 0 rfl<|.k 1 rfl<|.k 5 rfl<|.k 6 rfl<|.k 7 rfl<|.nil), (.k 0 rfl<|.nil), ?_⟩)
    exact JN_again (k + 1, l.set k ((a.getD ((k : Nat) : Int).toNat 0) + 4294967296 - y), 1) (by first | exact min_step ha hb hI (by omega) (.inr rfl) ⟨by omega, by omega⟩ (show (a.getD ((k : Nat) : Int).toNat 0) + 4294967296 - y = (a.getD ((k : Nat) : Int).toNat 0) - (c + digB b k) + 4294967296 * 1 by omega) | exact min_step ha hb hI (by omega) (.inl rfl) ⟨by omega, by omega⟩ (show (a.getD ((k : Nat) : Int).toNat 0) - y = (a.getD ((k : Nat) : Int).toNat 0) - (c + digB b k) + 4294967296 * 0 by omega)) (by show a.length - (_ + 1) < _; omega) (To.pick (fun _ => .sub (t := 7) rfl (sp_eq (by rfl))<|.sub (t := 6) rfl (sp_eq (by rfl))<|.k 0 rfl<|.k 1 rfl<|.k 5 rfl<|.nil) (fun _ => .sub 0 rfl ((fun _ _ h => h))<|.nil) (ks := [0]) rfl)
   ·try simp only [cmpB, Z] at h3
    refine zF (zG [] (.n (zA (.t rfl))<|.n (zA (.t rfl))<|.n (zA (.t rfl))<|.n (zA (.t rfl))<|.n (op_sub (.t rfl) (.t rfl) (wr64 (by omega) (by omega)))<|.n (op_conv_int it37 it132 (.t rfl) (wr32s (by omega) (by omega)))<|.r 0 (op_index_som 0 sl86 (.t rfl) (.t rfl) rfl (by omega) (by omega))<|.w 0 (op_store_som (mk := inp .u32) 0 (.t rfl) (.t rfl) co_inp sz132 rfl (by omega))<|.nil) ff rfl fun g14 => ⟨_, _, [0], rfl, (.k 0 rfl<|.k 1 rfl<|.k 5 rfl<|.k 7 rfl<|.nil), (.k 0 rfl<|.nil), ?_⟩)
    refine zC ?_
    refine (zG [] (.n (zB (.k rfl))<|.nil) ff rfl fun g15 => ⟨_, _, [0], rfl, (.k 0 rfl<|.k 1 rfl<|.k 5 rfl<|.k 6 rfl<|.k 7 rfl<|.nil), (.k 0 rfl<|.nil), ?_⟩)
    refine zR ?_
    refine zC ?_
    refine (zG [] (.n (zA (.t rfl))<|.n (op_add (.t rfl) (.k rfl) (zO (by omega) (by omega)))<|.n (zB (.t rfl))<|.nil) ff rfl fun g16 => ⟨_, _, [0], rfl, (.k 0 rfl<|.k 1 rfl<|.k 5 rfl<|.k 6 rfl<|.k 7 rfl<|.nil), (.k 0 rfl<|.nil), ?_⟩)
    exact JN_again (k + 1, l.set k ((a.getD ((k : Nat) : Int).toNat 0) - y), 0) (by first | exact min_step ha hb hI (by omega) (.inr rfl) ⟨by omega, by omega⟩ (show (a.getD ((k : Nat) : Int).toNat 0) + 4294967296 - y = (a.getD ((k : Nat) : Int).toNat 0) - (c + digB b k) + 4294967296 * 1 by omega) | exact min_step ha hb hI (by omega) (.inl rfl) ⟨by omega, by omega⟩ (show (a.getD ((k : Nat) : Int).toNat 0) - y = (a.getD ((k : Nat) : Int).toNat 0) - (c + digB b k) + 4294967296 * 0 by omega)) (by show a.length - (_ + 1) < _; omega) (To.pick (fun _ => .sub (t := 7) rfl (sp_eq (by rfl))<|.sub (t := 6) rfl (sp_eq (by rfl))<|.k 0 rfl<|.k 1 rfl<|.k 5 rfl<|.nil) (fun _ => .sub 0 rfl ((fun _ _ h => h))<|.nil) (ks := [0]) rfl)
  ·try simp only [cmpB, Z] at h2
   refine J_skip ?_
   refine zC ?_
   obtain ⟨y, hy⟩ : ∃ y, y = c + digB b k := ⟨_, rfl⟩
   first | rw [show c + (b.getD ((k : Nat) : Int).toNat 0) = y by rw [hy]; unfold digB; rw [if_pos (by omega)]; rfl] | rw [show isv (.int .u64 c) = isv (.int .u64 y) by rw [hy]; unfold digB; rw [if_neg (by omega), Int.add_zero]]
   refine zF (zG [] (.n (zA (.t rfl))<|.n (zA (.t rfl))<|.n (op_index_m 0 sl86 (.t rfl) (.t rfl) (by omega) (by omega))<|.n (op_load_sc sc132 (.t rfl) rfl)<|.n (op_conv_int it132 it37 (.t rfl) (wr64 (by omega) (by omega)))<|.n (zB (.t rfl))<|.nil) ff rfl fun g17 => ⟨_, _, [0], rfl, (.k 0 rfl<|.k 1 rfl<|.k 5 rfl<|.k 7 rfl<|.k 8 rfl<|.k 9 rfl<|.nil), (.k 0 rfl<|.nil), ?_⟩)
   refine zC ?_
   refine zF (zG [] (.n (zA (.t rfl))<|.n (zA (.t rfl))<|.n (op_cmp (by simp) (.t rfl) (.t rfl) rfl)<|.nil) ff rfl fun g18 => ⟨_, _, [0], rfl, (.k 0 rfl<|.k 1 rfl<|.k 5 rfl<|.k 7 rfl<|.k 8 rfl<|.k 9 rfl<|.k 38 rfl<|.nil), (.k 0 rfl<|.nil), ?_⟩)
   refine zC ?_
   refine zH (zK (.t rfl)) (fun h4 => ?_) (fun h4 => ?_)
   ·try simp only [cmpB, Z] at h4
    refine zF (zG [] (.n (zA (.t rfl))<|.n (zA (.t rfl))<|.n (zA (.t rfl))<|.n (op_add (.t rfl) (.k rfl) (wr64 (by omega) (by omega)))<|.n (zA (.t rfl))<|.n (op_sub (.t rfl) (.t rfl) (wr64 (by omega) (by omega)))<|.n (op_conv_int it37 it132 (.t rfl) (wr32s (by omega) (by omega)))<|.r 0 (op_index_som 0 sl86 (.t rfl) (.t rfl) rfl (by omega) (by omega))<|.w 0 (op_store_som (mk := inp .u32) 0 (.t rfl) (.t rfl) co_inp sz132 rfl (by omega))<|.nil) ff rfl fun g19 => ⟨_, _, [0], rfl, (.k 0 rfl<|.k 1 rfl<|.k 5 rfl<|.k 7 rfl<|.nil), (.k 0 rfl<|.nil), ?_⟩)
    refine zC ?_
    refine (zG [] (.n (zB (.k rfl))<|.nil) ff rfl fun g20 => ⟨_, _, [0], rfl, (.k 0 rfl<|.k 1 rfl<|.k 5 rfl<|.k 6 rfl<|.k 7 rfl<|.nil), (.k 0 rfl<|.nil), ?_⟩)
    refine zR ?_
    refine zC ?_
    refine (zG [] (.n (zA (.t rfl))<|.n (op_add (.t rfl) (.k rfl) (zO (by omega) (by omega)))<|.n (zB (.t rfl))<|.nil) ff rfl fun g21 => ⟨_, _, [0], rfl, (.k 0 rfl<|.k 1 rfl<|.k 5 rfl<|.k 6 rfl<|.k 7 rfl<|.nil), (.k 0 rfl<|.nil), ?_⟩)
    exact JN_again (k + 1, l.set k ((a.getD ((k : Nat) : Int).toNat 0) + 4294967296 - y), 1) (by first | exact min_step ha hb hI (by omega) (.inr rfl) ⟨by omega, by omega⟩ (show (a.getD ((k : Nat) : Int).toNat 0) + 4294967296 - y = (a.getD ((k : Nat) : Int).toNat 0) - (c + digB b k) + 4294967296 * 1 by omega) | exact min_step ha hb hI (by omega) (.inl rfl) ⟨by omega, by omega⟩ (show (a.getD ((k : Nat) : Int).toNat 0) - y = (a.getD ((k : Nat) : Int).toNat 0) - (c + digB b k) + 4294967296 * 0 by omega)) (by show a.length - (_ + 1) < _; omega) (To.pick (fun _ => .sub (t := 7) rfl (sp_eq (by rfl))<|.sub (t := 6) rfl (sp_eq (by rfl))<|.k 0 rfl<|.k 1 rfl<|.k 5 rfl<|.nil) (fun _ => .sub 0 rfl ((fun _ _ h => h))<|.nil) (ks := [0]) rfl)
   ·try simp only [cmpB, Z] at h4
    refine zF (zG [] (.n (zA (.t rfl))<|.n (zA (.t rfl))<|.n (zA (.t rfl))<|.n (zA (.t rfl))<|.n (op_sub (.t rfl) (.t rfl) (wr64 (by omega) (by omega)))<|.n (op_conv_int it37 it132 (.t rfl) (wr32s (by omega) (by omega)))<|.r 0 (op_index_som 0 sl86 (.t rfl) (.t rfl) rfl (by omega) (by omega))<|.w 0 (op_store_som (mk := inp .u32) 0 (.t rfl) (.t rfl) co_inp sz132 rfl (by omega))<|.nil) ff rfl fun g22 => ⟨_, _, [0], rfl, (.k 0 rfl<|.k 1 rfl<|.k 5 rfl<|.k 7 rfl<|.nil), (.k 0 rfl<|.nil), ?_⟩)
    refine zC ?_
    refine (zG [] (.n (zB (.k rfl))<|.nil) ff rfl fun g23 => ⟨_, _, [0], rfl, (.k 0 rfl<|.k 1 rfl<|.k 5 rfl<|.k 6 rfl<|.k 7 rfl<|.nil), (.k 0 rfl<|.nil), ?_⟩)
    refine zR ?_
    refine zC ?_
    refine (zG [] (.n (zA (.t rfl))<|.n (op_add (.t rfl) (.k rfl) (zO (by omega) (by omega)))<|.n (zB (.t rfl))<|.nil) ff rfl fun g24 => ⟨_, _, [0], rfl, (.k 0 rfl<|.k 1 rfl<|.k 5 rfl<|.k 6 rfl<|.k 7 rfl<|.nil), (.k 0 rfl<|.nil), ?_⟩)
    exact JN_again (k + 1, l.set k ((a.getD ((k : Nat) : Int).toNat 0) - y), 0) (by first | exact min_step ha hb hI (by omega) (.inr rfl) ⟨by omega, by omega⟩ (show (a.getD ((k : Nat) : Int).toNat 0) + 4294967296 - y = (a.getD ((k : Nat) : Int).toNat 0) - (c + digB b k) + 4294967296 * 1 by omega) | exact min_step ha hb hI (by omega) (.inl rfl) ⟨by omega, by omega⟩ (show (a.getD ((k : Nat) : Int).toNat 0) - y = (a.getD ((k : Nat) : Int).toNat 0) - (c + digB b k) + 4294967296 * 0 by omega)) (by show a.length - (_ + 1) < _; omega) (To.pick (fun _ => .sub (t := 7) rfl (sp_eq (by rfl))<|.sub (t := 6) rfl (sp_eq (by rfl))<|.k 0 rfl<|.k 1 rfl<|.k 5 rfl<|.nil) (fun _ => .sub 0 rfl ((fun _ _ h => h))<|.nil) (ks := [0]) rfl)
 ·try simp only [cmpB, Z] at h1
  obtain ⟨hdg, hmg⟩ := min_done ha hb hAB hle hI (show k = a.length by have := hI.hk; omega)
  refine J_exit ?_
  refine zE ?_
  refine zE ?_
  refine zS ?_
  refine zC ?_
  refine J_to (To.freeze 0 (fun _ h => h) rfl frz_som rfl) ?_
  refine zF (zG [] (.n (zA (.t rfl))<|.n (zP (cut_ok hdg) ⟨(Lk.sub (sb_fk 0 rfl) (.t rfl)),  trivial⟩)<|.n (zB (.t rfl))<|.nil) ff rfl fun g25 => ⟨_, _, [], rfl, (.k 4 rfl<|.nil), (.nil), ?_⟩)
  refine zC ?_
  refine J_ret ?_
  refine zQ (.cons (.tmp (.t rfl))<|.nil) (zM (sb_res1 zL) ?_)
  exact sb_eq (congrArg (fun z => ils .u32 (limbs z.toNat)) hmg)
theorem cmp_ok {x y : Nat} : Ct Tryz.prog 78 [ils .u32 (limbs x), ils .u32 (limbs y)] (isv (.int .i64 (cmpN x y))) := by
 refine Ct.of Tryz.func78 rfl (by kernel_rfl) rfl fun c0 => ?_
 refine J_len 0 rfl fun hlen => ?_
 refine J_len 1 rfl fun hlen2 => ?_
 refine zF (zG [] (.n (zB (.k rfl))<|.nil) ff rfl fun g1 => ⟨_, _, [], rfl, (.k 0 rfl<|.k 1 rfl<|.nil), (.nil), ?_⟩)
 refine zC ?_
 refine zF ?_
 refine zF (zG [] (.n (zA (.t rfl))<|.n (op_len_m sl86 (.t rfl))<|.n (zA (.t rfl))<|.n (op_len_m sl86 (.t rfl))<|.n (op_cmp (by simp) (.t rfl) (.t rfl) rfl)<|.nil) ff rfl fun g2 => ⟨_, _, [], rfl, (.k 0 rfl<|.k 1 rfl<|.k 10 rfl<|.nil), (.nil), ?_⟩)
 refine zC ?_
 refine zH (zK (.t rfl)) (fun h1 => ?_) (fun h1 => ?_)
 ·try simp only [cmpB, Z] at h1
  refine zF ?_
  refine zF (zG [] (.n (zA (.t rfl))<|.n (op_len_m sl86 (.t rfl))<|.n (zA (.t rfl))<|.n (op_len_m sl86 (.t rfl))<|.n (op_cmp (by simp) (.t rfl) (.t rfl) rfl)<|.nil) ff rfl fun g3 => ⟨_, _, [], rfl, (.k 15 rfl<|.nil), (.nil), ?_⟩)
  refine zC ?_
  refine zH (zK (.t rfl)) (fun h2 => ?_) (fun h2 => ?_)
  ·try simp only [cmpB, Z] at h2
   refine zF (zG [] (.n (zB (.k rfl))<|.nil) ff rfl fun g4 => ⟨_, _, [], rfl, (.k 4 rfl<|.nil), (.nil), ?_⟩)
   refine zC ?_
   refine J_ret ?_
   refine zD ?_
   refine zD ?_
   refine zQ (.cons (.tmp (.t rfl))<|.nil) (zM (sb_res1 zL) ?_)
   exact ret_i (cmpN_1 (by omega))
  ·try simp only [cmpB, Z] at h2
   refine J_skip ?_
   refine zC ?_
   refine zF (zG [] (.n (zB (.k rfl))<|.nil) ff rfl fun g5 => ⟨_, _, [], rfl, (.k 4 rfl<|.nil), (.nil), ?_⟩)
   refine zC ?_
   refine J_ret ?_
   refine zD ?_
   refine zQ (.cons (.tmp (.t rfl))<|.nil) (zM (sb_res1 zL) ?_)
   exact ret_i (cmpN_2 (by omega))
 ·try simp only [cmpB, Z] at h1
  have hle : (limbs x).length = (limbs y).length := by omega
  refine J_skip ?_
  refine zC ?_
  refine zF ?_
  refine zF (zG [] (.n (zA (.t rfl))<|.n (op_len_m sl86 (.t rfl))<|.n (op_sub (.t rfl) (.k rfl) (zO (by omega) (by omega)))<|.n (zB (.t rfl))<|.nil) ff rfl fun g6 => ⟨_, _, [], rfl, (.k 0 rfl<|.k 1 rfl<|.k 5 rfl<|.nil), (.nil), ?_⟩)
  refine zC ?_
  refine zT ?_
  refine J_loopc (α := Nat) (fun k => TopI (limbs x) (limbs y) k) (fun k => k) (fun k restR => (5, isv (.int .i64 ((k : Int) - 1))) :: restR) (fun k restS => restS) (ρc := [(0, _), (1, _)]) (σc := []) (limbs x).length (by exact top_zero hle rfl) (To.pick (fun _ => .sub (t := 5) rfl (sp_eq (by rfl))<|.k 0 rfl<|.k 1 rfl<|.nil) (fun _ => .nil) (ks := []) rfl) (fun k hI => ?_)
  refine zF ?_
  refine zF (zG [] (.n (zA (.t rfl))<|.n (op_cmp (by simp) (.t rfl) (.k rfl) rfl)<|.nil) ff rfl fun g7 => ⟨_, _, [], rfl, (.k 0 rfl<|.k 1 rfl<|.k 5 rfl<|.k 20 rfl<|.nil), (.nil), ?_⟩)
  refine zC ?_
  refine zH (zK (.t rfl)) (fun h3 => ?_) (fun h3 => ?_)
  ·try simp only [cmpB, Z] at h3
   obtain ⟨j, rfl⟩ : ∃ j, k = j + 1 := ⟨k - 1, by omega⟩
   have hIk := hI.1
   have ej : (((j + 1 : Nat) : Int) - 1).toNat = j := by omega
   refine J_skip ?_
   refine zC ?_
   refine zF ?_
   refine zT ?_
   refine zF ?_
   refine zF (zG [[], [], [0, 1], [0, 1, 2], [], [], [4, 5], [4, 5, 6], [0, 1, 2, 3, 4, 5, 6, 7]] (.n (zA (.t rfl))<|.n (zA (.t rfl))<|.n (op_index_m 0 sl86 (.t rfl) (.t rfl) (by omega) (by omega))<|.n (op_load_sc sc132 (.t rfl) rfl)<|.n (zA (.t rfl))<|.n (zA (.t rfl))<|.n (op_index_m 0 sl86 (.t rfl) (.t rfl) (by omega) (by omega))<|.n (op_load_sc sc132 (.t rfl) rfl)<|.n (op_cmp (by simp) (.t rfl) (.t rfl) rfl)<|.nil) (fun _ => mixed) rfl fun g8 => ⟨_, _, [], rfl, (.k 0 rfl<|.k 1 rfl<|.k 5 rfl<|.k 31 rfl<|.nil), (.nil), ?_⟩)
   refine zC ?_
   refine zH (zK (.t rfl)) (fun h4 => ?_) (fun h4 => ?_)
   ·try simp only [cmpB, Z] at h4
    refine zF (zG [] (.n (zB (.k rfl))<|.nil) ff rfl fun g9 => ⟨_, _, [], rfl, (.k 4 rfl<|.nil), (.nil), ?_⟩)
    refine zC ?_
    refine J_ret ?_
    refine zD ?_
    refine JN_block_ret ?_
    refine zD ?_
    refine zD ?_
    refine JN_block_ret ?_
    refine zD ?_
    refine zQ (.cons (.tmp (.t rfl))<|.nil) (zM (sb_res1 zL) ?_)
    exact ret_i (cmpN_3 hle hI (by have e := h4; rw [ej] at e; exact e))
   ·try simp only [cmpB, Z] at h4
    refine J_skip ?_
    refine zC ?_
    refine zF (zG [[], [], [0, 1], [0, 1, 2], [], [], [4, 5], [4, 5, 6], [0, 1, 2, 3, 4, 5, 6, 7]] (.n (zA (.t rfl))<|.n (zA (.t rfl))<|.n (op_index_m 0 sl86 (.t rfl) (.t rfl) (by omega) (by omega))<|.n (op_load_sc sc132 (.t rfl) rfl)<|.n (zA (.t rfl))<|.n (zA (.t rfl))<|.n (op_index_m 0 sl86 (.t rfl) (.t rfl) (by omega) (by omega))<|.n (op_load_sc sc132 (.t rfl) rfl)<|.n (op_cmp (by simp) (.t rfl) (.t rfl) rfl)<|.nil) (fun _ => mixed) rfl fun g10 => ⟨_, _, [], rfl, (.k 0 rfl<|.k 1 rfl<|.k 5 rfl<|.k 40 rfl<|.nil), (.nil), ?_⟩)
    refine zC ?_
    refine zH (zK (.t rfl)) (fun h5 => ?_) (fun h5 => ?_)
    ·try simp only [cmpB, Z] at h5
     refine zF (zG [] (.n (zB (.k rfl))<|.nil) ff rfl fun g11 => ⟨_, _, [], rfl, (.k 4 rfl<|.nil), (.nil), ?_⟩)
     refine zC ?_
     refine J_ret ?_
     refine JN_block_ret ?_
     refine zD ?_
     refine zD ?_
     refine JN_block_ret ?_
     refine zD ?_
     refine zQ (.cons (.tmp (.t rfl))<|.nil) (zM (sb_res1 zL) ?_)
     exact ret_i (cmpN_4 hle hI (by have e := h5; rw [ej] at e; exact e))
    ·try simp only [cmpB, Z] at h5
     have hn4 : ¬ (limbs x).getD j 0 < (limbs y).getD j 0 := by have e := h4; rw [ej] at e; omega
     have hn5 : ¬ (limbs y).getD j 0 < (limbs x).getD j 0 := by have e := h5; rw [ej] at e; omega
     refine J_skip ?_
     refine zR ?_
     refine zC ?_
     refine (zG [] (.n (zA (.t rfl))<|.n (op_sub (.t rfl) (.k rfl) (zO (by omega) (by omega)))<|.n (zB (.t rfl))<|.nil) ff rfl fun g12 => ⟨_, _, [], rfl, (.k 0 rfl<|.k 1 rfl<|.k 5 rfl<|.nil), (.nil), ?_⟩)
     exact JN_again j (by exact top_step hle hI hn4 hn5) (by omega) (To.pick (fun _ => .sub (t := 5) rfl (sp_eq (by exact congrArg (fun z => isv (.int .i64 z)) (by omega)))<|.k 0 rfl<|.k 1 rfl<|.nil) (fun _ => .nil) (ks := []) rfl)
  ·try simp only [cmpB, Z] at h3
   refine J_exit ?_
   refine zE ?_
   refine zE ?_
   refine zS ?_
   refine zC ?_
   refine zF (zG [] (.n (zB (.k rfl))<|.nil) ff rfl fun g13 => ⟨_, _, [], rfl, (.k 4 rfl<|.nil), (.nil), ?_⟩)
   refine zC ?_
   refine J_ret ?_
   refine zQ (.cons (.tmp (.t rfl))<|.nil) (zM (sb_res1 zL) ?_)
   exact ret_i (cmpN_5 hI (by omega))
theorem times_ok {a b : List Int} (ha : Dig a) (hb : Dig b) (hla : a.length ≤ 1000000) (hlb : b.length ≤ 1000000) : Ct Tryz.prog 66 [ils .u32 a, ils .u32 b] (ils .u32 (limbs (magI a * magI b).toNat)) := by
 refine Ct.of Tryz.func66 rfl (by kernel_rfl) rfl fun c0 => ?_
 refine J_len 0 rfl fun hlen => ?_
 refine J_len 1 rfl fun hlen2 => ?_
 refine zF (zG [] (.n (zB (.k rfl))<|.nil) ff rfl fun g1 => ⟨_, _, [], rfl, (.k 0 rfl<|.k 1 rfl<|.nil), (.nil), ?_⟩)
 refine zC ?_
 refine J_to (To.emps 1) ?_
 refine zF (zG [] (.n (zA (.t rfl))<|.n (op_len_m sl86 (.t rfl))<|.n (zA (.t rfl))<|.n (op_len_m sl86 (.t rfl))<|.n (op_add (.t rfl) (.t rfl) (zO (by omega) (by omega)))<|.w 0 (op_make_m (mk := inp .u32) 0 0 sl86 zr132 rfl (fun _ => ⟨rfl, rfl⟩) (.t rfl) (.t rfl) (by omega) (by omega) (by omega) (by omega) rfl)<|.n (op_assign_ve rfl rfl)<|.nil) ff rfl fun g2 => ⟨_, _, [0], rfl, (.k 0 rfl<|.k 1 rfl<|.k 5 rfl<|.nil), (.k 0 rfl<|.nil), ?_⟩)
 refine zC ?_
 refine zF ?_
 refine zF (zG [] (.n (zB (.k rfl))<|.nil) ff rfl fun g3 => ⟨_, _, [0], rfl, (.k 0 rfl<|.k 1 rfl<|.k 5 rfl<|.k 6 rfl<|.nil), (.k 0 rfl<|.nil), ?_⟩)
 refine zC ?_
 refine zT ?_
 refine J_loopc (α := Nat × List Int) (fun x => MulO a b x.2 x.1) (fun x => a.length - x.1) (fun x restR => (6, isv (.int .i64 (x.1 : Int))) :: restR) (fun x restS => som (g2 15) (inp .u32) x.2 132 :: restS) (ρc := [(0, _), (1, _), (5, _)]) (σc := []) (0, List.replicate (a.length + b.length) 0) (by exact mulO_zero rfl) (To.pick (fun _ => .sub (t := 6) rfl (sp_eq (by rfl))<|.k 0 rfl<|.k 1 rfl<|.k 5 rfl<|.nil) (fun _ => .sub 0 rfl ((res_eq (by rw [show ((a.length : Int) + (b.length : Int)).toNat = a.length + b.length by omega])))<|.nil) (ks := [0]) rfl) (fun x hI => ?_)
 obtain ⟨i, l0⟩ := x
 try simp only at hI
 show J _ _ ((6, isv (.int .i64 (i : Int))) :: _) (som (g2 15) (inp .u32) l0 132 :: _) _ _
 refine zF ?_
 refine zF (zG [] (.n (zA (.t rfl))<|.n (zA (.t rfl))<|.n (op_len_m sl86 (.t rfl))<|.n (op_cmp (by simp) (.t rfl) (.t rfl) rfl)<|.nil) ff rfl fun g4 => ⟨_, _, [0], rfl, (.k 0 rfl<|.k 1 rfl<|.k 5 rfl<|.k 6 rfl<|.k 19 rfl<|.nil), (.k 0 rfl<|.nil), ?_⟩)
 refine zC ?_
 refine zH (zK (.t rfl)) (fun h1 => ?_) (fun h1 => ?_)
 ·try simp only [cmpB, Z] at h1
  have hIi := hI.hi
  have hIl := hI.hl
  have ga := ha.at (k := ((i : Nat) : Int).toNat) (show i < a.length by omega)
  refine J_skip ?_
  refine zC ?_
  refine zF ?_
  refine zT ?_
  refine zF (zG [] (.n (zB (.k rfl))<|.nil) ff rfl fun g5 => ⟨_, _, [0], rfl, (.k 0 rfl<|.k 1 rfl<|.k 5 rfl<|.k 6 rfl<|.k 7 rfl<|.nil), (.k 0 rfl<|.nil), ?_⟩)
  refine zC ?_
  refine zF ?_
  refine zF (zG [] (.n (zB (.k rfl))<|.nil) ff rfl fun g6 => ⟨_, _, [0], rfl, (.k 0 rfl<|.k 1 rfl<|.k 5 rfl<|.k 6 rfl<|.k 7 rfl<|.k 8 rfl<|.nil), (.k 0 rfl<|.nil), ?_⟩)
  refine zC ?_
  refine zT ?_
  refine J_loopc (α := Nat × List Int × Int) (fun y => MulJ a b l0 y.2.1 i y.1 y.2.2) (fun y => b.length - y.1) (fun y restR => (8, isv (.int .i64 (y.1 : Int))) :: (7, isv (.int .u64 y.2.2)) :: restR) (fun y restS => som (g2 15) (inp .u32) y.2.1 132 :: restS) (ρc := [(0, _), (1, _), (5, _), (6, _)]) (σc := []) (0, l0, 0) (by exact mulJ_zero hI) (To.pick (fun _ => .sub (t := 8) rfl (sp_eq (by rfl))<|.sub (t := 7) rfl (sp_eq (by rfl))<|.k 0 rfl<|.k 1 rfl<|.k 5 rfl<|.k 6 rfl<|.nil) (fun _ => .sub 0 rfl ((fun _ _ h => h))<|.nil) (ks := [0]) rfl) (fun y hJ => ?_)
  obtain ⟨k, l, c⟩ := y
  try simp only at hJ
  show J _ _ ((8, isv (.int .i64 (k : Int))) :: (7, isv (.int .u64 c)) :: _) (som (g2 15) (inp .u32) l 132 :: _) _ _
  refine zF ?_
  refine zF (zG [] (.n (zA (.t rfl))<|.n (zA (.t rfl))<|.n (op_len_m sl86 (.t rfl))<|.n (op_cmp (by simp) (.t rfl) (.t rfl) rfl)<|.nil) ff rfl fun g7 => ⟨_, _, [0], rfl, (.k 0 rfl<|.k 1 rfl<|.k 5 rfl<|.k 6 rfl<|.k 7 rfl<|.k 8 rfl<|.k 25 rfl<|.nil), (.k 0 rfl<|.nil), ?_⟩)
  refine zC ?_
  refine zH (zK (.t rfl)) (fun h2 => ?_) (fun h2 => ?_)
  ·try simp only [cmpB, Z] at h2
   have hJk := hJ.hk
   have hJl := hJ.hl
   have hJc := hJ.hc
   have gb := hb.at (k := ((k : Nat) : Int).toNat) (show k < b.length by omega)
   have gm := mul_le ga gb
   have gl := hJ.hd.at (k := ((i : Int) + (k : Int)).toNat) (by omega)
   refine J_skip ?_
   refine zC ?_
   refine zF ?_
   refine zT ?_
   refine zF (zG [[], [], [0, 1], [0, 1, 2], [0, 1, 2, 3], [], [], [5, 6], [5, 6, 7], [5, 6, 7, 8], [0, 1, 2, 3, 4, 5, 6, 7, 8, 9], [], [], [], [12, 13], [11, 12, 13, 14], [11, 12, 13, 14, 15], [11, 12, 13, 14, 15, 16], [0, 1, 2, 3, 4, 5, 6, 7, 8, 9, 10, 11, 12, 13, 14, 15, 16, 17], [], [0, 1, 2, 3, 4, 5, 6, 7, 8, 9, 10, 11, 12, 13, 14, 15, 16, 17, 18, 19], [0, 1, 2, 3, 4, 5, 6, 7, 8, 9, 10, 11, 12, 13, 14, 15, 16, 17, 18, 19, 20]] (.n (zA (.t rfl))<|.n (zA (.t rfl))<|.n (op_index_m 0 sl86 (.t rfl) (.t rfl) (by omega) (by omega))<|.n (op_load_sc sc132 (.t rfl) rfl)<|.n (op_conv_int it132 it37 (.t rfl) (wr64 (by omega) (by omega)))<|.n (zA (.t rfl))<|.n (zA (.t rfl))<|.n (op_index_m 0 sl86 (.t rfl) (.t rfl) (by omega) (by omega))<|.n (op_load_sc sc132 (.t rfl) rfl)<|.n (op_conv_int it132 it37 (.t rfl) (wr64 (by omega) (by omega)))<|.n (op_mul (.t rfl) (.t rfl) (wr64 (by omega) (by omega)))<|.n (zA (.t rfl))<|.n (zA (.t rfl))<|.n (zA (.t rfl))<|.n (op_add (.t rfl) (.t rfl) (zO (by omega) (by omega)))<|.r 0 (op_index_som 0 sl86 (.t rfl) (.t rfl) rfl (by omega) (by omega))<|.r 0 (op_get_som 0 0 sc132 (.t rfl) rfl (by omega))<|.n (op_conv_int it132 it37 (.t rfl) (wr64 (by omega) (by omega)))<|.n (op_add (.t rfl) (.t rfl) (wr64 (by omega) (by omega)))<|.n (zA (.t rfl))<|.n (op_add (.t rfl) (.t rfl) (wr64 (by omega) (by omega)))<|.n (zB (.t rfl))<|.nil) (fun _ => mixed) rfl fun g8 => ⟨_, _, [0], rfl, (.k 0 rfl<|.k 1 rfl<|.k 5 rfl<|.k 6 rfl<|.k 8 rfl<|.k 9 rfl<|.nil), (.k 0 rfl<|.nil), ?_⟩)
   refine zC ?_
   obtain ⟨t, ht⟩ : ∃ t, t = a.getD i 0 * b.getD k 0 + l.getD (i + k) 0 + c := ⟨_, rfl⟩
   rw [show a.getD ((i : Nat) : Int).toNat 0 * b.getD ((k : Nat) : Int).toNat 0 + l.getD ((i : Int) + (k : Int)).toNat 0 + c = t from ht.symm]
   refine zF (zG [] (.n (zA (.t rfl))<|.n (zA (.t rfl))<|.n (zA (.t rfl))<|.n (op_add (.t rfl) (.t rfl) (zO (by omega) (by omega)))<|.n (zA (.t rfl))<|.n (op_conv_int it37 it132 (.t rfl) (wr32 _))<|.r 0 (op_index_som 0 sl86 (.t rfl) (.t rfl) rfl (by omega) (by omega))<|.w 0 (op_store_som (mk := inp .u32) 0 (.t rfl) (.t rfl) co_inp sz132 rfl (by omega))<|.nil) ff rfl fun g9 => ⟨_, _, [0], rfl, (.k 0 rfl<|.k 1 rfl<|.k 5 rfl<|.k 6 rfl<|.k 8 rfl<|.k 9 rfl<|.nil), (.k 0 rfl<|.nil), ?_⟩)
   refine zC ?_
   refine (zG [] (.n (zA (.t rfl))<|.n (op_shr (.t rfl) (.k rfl) (by omega) (shr32 _))<|.n (zB (.t rfl))<|.nil) ff rfl fun g10 => ⟨_, _, [0], rfl, (.k 0 rfl<|.k 1 rfl<|.k 5 rfl<|.k 6 rfl<|.k 7 rfl<|.k 8 rfl<|.nil), (.k 0 rfl<|.nil), ?_⟩)
   refine zR ?_
   refine zC ?_
   refine (zG [] (.n (zA (.t rfl))<|.n (op_add (.t rfl) (.k rfl) (zO (by omega) (by omega)))<|.n (zB (.t rfl))<|.nil) ff rfl fun g11 => ⟨_, _, [0], rfl, (.k 0 rfl<|.k 1 rfl<|.k 5 rfl<|.k 6 rfl<|.k 7 rfl<|.k 8 rfl<|.nil), (.k 0 rfl<|.nil), ?_⟩)
   exact JN_again (k + 1, l.set (i + k) (t % 4294967296), t / 4294967296) (by exact mulJ_step ha hb hJ (by omega) (by omega) hI.hl ht) (by show b.length - (_ + 1) < _; omega) (To.pick (fun _ => .sub (t := 8) rfl (sp_eq (by rfl))<|.sub (t := 7) rfl (sp_eq (by rfl))<|.k 0 rfl<|.k 1 rfl<|.k 5 rfl<|.k 6 rfl<|.nil) (fun _ => .sub 0 rfl ((fun _ _ h => h))<|.nil) (ks := [0]) rfl)
  ·try simp only [cmpB, Z] at h2
   have hJk := hJ.hk
   have hJl := hJ.hl
   have hJc := hJ.hc
   refine J_exit ?_
   refine zE ?_
   refine zE ?_
   refine zS ?_
   refine zC ?_
   refine (zG [] (.n (zA (.t rfl))<|.n (zA (.t rfl))<|.n (zA (.t rfl))<|.n (op_len_m sl86 (.t rfl))<|.n (op_add (.t rfl) (.t rfl) (zO (by omega) (by omega)))<|.n (zA (.t rfl))<|.n (op_conv_int it37 it132 (.t rfl) (wr32s (by omega) (by omega)))<|.r 0 (op_index_som 0 sl86 (.t rfl) (.t rfl) rfl (by omega) (by omega))<|.w 0 (op_store_som (mk := inp .u32) 0 (.t rfl) (.t rfl) co_inp sz132 rfl (by omega))<|.nil) ff rfl fun g12 => ⟨_, _, [0], rfl, (.k 0 rfl<|.k 1 rfl<|.k 5 rfl<|.k 6 rfl<|.nil), (.k 0 rfl<|.nil), ?_⟩)
   refine zR ?_
   refine zC ?_
   refine (zG [] (.n (zA (.t rfl))<|.n (op_add (.t rfl) (.k rfl) (zO (by omega) (by omega)))<|.n (zB (.t rfl))<|.nil) ff rfl fun g13 => ⟨_, _, [0], rfl, (.k 0 rfl<|.k 1 rfl<|.k 5 rfl<|.k 6 rfl<|.nil), (.k 0 rfl<|.nil), ?_⟩)
   exact JN_again (i + 1, l.set (i + b.length) c) (by exact mulO_step hI hJ (by omega) (by omega)) (by show a.length - (_ + 1) < _; omega) (To.pick (fun _ => .sub (t := 6) rfl (sp_eq (by rfl))<|.k 0 rfl<|.k 1 rfl<|.k 5 rfl<|.nil) (fun _ => .sub 0 rfl ((fun _ _ h => h))<|.nil) (ks := [0]) rfl)
 ·try simp only [cmpB, Z] at h1
  obtain ⟨hdg, hmg⟩ := mulO_done hI (show i = a.length by have := hI.hi; omega)
  refine J_exit ?_
  refine zE ?_
  refine zE ?_
  refine zS ?_
  refine zC ?_
  refine J_to (To.freeze 0 (fun _ h => h) rfl frz_som rfl) ?_
  refine zF (zG [] (.n (zA (.t rfl))<|.n (zP (cut_ok hdg) ⟨(Lk.sub (sb_fk 0 rfl) (.t rfl)),  trivial⟩)<|.n (zB (.t rfl))<|.nil) ff rfl fun g14 => ⟨_, _, [], rfl, (.k 4 rfl<|.nil), (.nil), ?_⟩)
  refine zC ?_
  refine J_ret ?_
  refine zQ (.cons (.tmp (.t rfl))<|.nil) (zM (sb_res1 zL) ?_)
  exact sb_eq (congrArg (fun z => ils .u32 (limbs z.toNat)) hmg)
theorem words_ok {n : Nat} (hn : n < 18446744073709551616) : Ct Tryz.prog 96 [isv (.int .u64 (n : Int))] (ils .u32 (limbs n)) := by
 refine Ct.of Tryz.func96 rfl (by kernel_rfl) rfl fun c0 => ?_
 refine zF (zG [] (.n (zB (.k rfl))<|.nil) ff rfl fun g1 => ⟨_, _, [], rfl, (.k 0 rfl<|.nil), (.nil), ?_⟩)
 refine zC ?_
 refine zF (zG [] (.n (zA (.t rfl))<|.n (op_conv_int it37 it132 (.t rfl) (wr32 _))<|.n (zA (.t rfl))<|.n (op_shr (.t rfl) (.k rfl) (by omega) (shr32 _))<|.n (op_conv_int it37 it132 (.t rfl) (wr32s (by omega) (by omega)))<|.n (op_buildSlice sl86 zr132 rfl rfl rfl rfl (.cons rfl (.t rfl) co_isv rfl (puts_l rfl (Nat.le_of_ble_eq_true rfl)) (.cons rfl (.t rfl) co_isv rfl (puts_l rfl (Nat.le_of_ble_eq_true rfl)) .nil)))<|.n (zP (cut_ok2 (dig_two (by omega) (by omega))) ⟨(.t rfl),  trivial⟩)<|.n (zB (.t rfl))<|.nil) ff rfl fun g2 => ⟨_, _, [], rfl, (.k 2 rfl<|.nil), (.nil), ?_⟩)
 refine zC ?_
 refine J_ret ?_
 refine zQ (.cons (.tmp (.t rfl))<|.nil) (zM (sb_res1 zL) ?_)
 exact sb_eq (congrArg (fun z => ils .u32 z) (words_mag hn))
theorem left_ok {m : List Int} {n : Nat} (hm : Dig m) (hlm : m.length ≤ 1000000) (hn : n ≤ 32000000) : Ct Tryz.prog 93 [ils .u32 m, isv (.int .u64 (n : Int))] (ils .u32 (limbs (magI m * 2 ^ n).toNat)) := by
 refine Ct.of Tryz.func93 rfl (by kernel_rfl) rfl fun c0 => ?_
 refine J_len 0 rfl fun hlen => ?_
 have hs32 : n % 32 < 32 := Nat.mod_lt _ (by omega)
 obtain ⟨hp1, hp2, hp3, hp4⟩ := pow_32 hs32
 refine zF (zG [] (.n (zB (.k rfl))<|.nil) ff rfl fun g1 => ⟨_, _, [], rfl, (.k 0 rfl<|.k 1 rfl<|.nil), (.nil), ?_⟩)
 refine zC ?_
 refine zF ?_
 refine zF (zG [] (.n (zA (.t rfl))<|.n (op_len_m sl86 (.t rfl))<|.n (op_cmp (by simp) (.t rfl) (.k rfl) rfl)<|.nil) ff rfl fun g2 => ⟨_, _, [], rfl, (.k 0 rfl<|.k 1 rfl<|.k 12 rfl<|.nil), (.nil), ?_⟩)
 refine zC ?_
 refine zH (zK (.t rfl)) (fun h1 => ?_) (fun h1 => ?_)
 ·try simp only [cmpB, Z] at h1
  refine zF (zG [] (.n (zB (.k rfl))<|.nil) ff rfl fun g3 => ⟨_, _, [], rfl, (.k 4 rfl<|.nil), (.nil), ?_⟩)
  refine zC ?_
  refine J_ret ?_
  refine zD ?_
  refine zQ (.cons (.tmp (.t rfl))<|.nil) (zM (sb_res1 (sb_nil (mk := inp .u32))) ?_)
  have hm0 : m = [] := List.length_eq_zero_iff.1 (by omega)
  exact sb_eq (by rw [hm0]; simp [magI, limbs_zero])
 ·try simp only [cmpB, Z] at h1
  refine J_skip ?_
  refine zC ?_
  refine zF (zG [] (.n (zA (.t rfl))<|.n (op_quo (.t rfl) (.k rfl) (by omega) (quo32 n (by omega)))<|.n (op_conv_int it76 it3 (.t rfl) (zO (by omega) (by omega)))<|.n (zB (.t rfl))<|.nil) ff rfl fun g4 => ⟨_, _, [], rfl, (.k 0 rfl<|.k 1 rfl<|.k 5 rfl<|.nil), (.nil), ?_⟩)
  refine zC ?_
  refine zF (zG [] (.n (zA (.t rfl))<|.n (op_rem (.t rfl) (.k rfl) (by omega) (rem32 n))<|.n (zB (.t rfl))<|.nil) ff rfl fun g5 => ⟨_, _, [], rfl, (.k 0 rfl<|.k 5 rfl<|.k 6 rfl<|.nil), (.nil), ?_⟩)
  refine zC ?_
  refine J_to (To.emps 1) ?_
  refine zF (zG [] (.n (zA (.t rfl))<|.n (zA (.t rfl))<|.n (op_len_m sl86 (.t rfl))<|.n (op_add (.t rfl) (.t rfl) (zO (by omega) (by omega)))<|.n (op_add (.t rfl) (.k rfl) (zO (by omega) (by omega)))<|.w 0 (op_make_m (mk := inp .u32) 0 0 sl86 zr132 rfl (fun _ => ⟨rfl, rfl⟩) (.t rfl) (.t rfl) (by omega) (by omega) (by omega) (by omega) rfl)<|.n (op_assign_ve rfl rfl)<|.nil) ff rfl fun g6 => ⟨_, _, [0], rfl, (.k 0 rfl<|.k 5 rfl<|.k 6 rfl<|.k 7 rfl<|.nil), (.k 0 rfl<|.nil), ?_⟩)
  refine zC ?_
  refine zF ?_
  refine zF (zG [] (.n (zB (.k rfl))<|.nil) ff rfl fun g7 => ⟨_, _, [0], rfl, (.k 0 rfl<|.k 5 rfl<|.k 6 rfl<|.k 7 rfl<|.k 8 rfl<|.nil), (.k 0 rfl<|.nil), ?_⟩)
  refine zC ?_
  refine zT ?_
  refine J_loopc (α := Nat × List Int) (fun x => LefI m x.2 (n / 32) (2 ^ (n % 32)) x.1) (fun x => m.length - x.1) (fun x restR => (8, isv (.int .i64 (x.1 : Int))) :: restR) (fun x restS => som (g6 23) (inp .u32) x.2 132 :: restS) (ρc := [(0, _), (5, _), (6, _), (7, _)]) (σc := []) (0, List.replicate (n / 32 + m.length + 1) 0) (by exact lef_zero rfl hp1) (To.pick (fun _ => .sub (t := 8) rfl (sp_eq (by rfl))<|.k 0 rfl<|.k 5 rfl<|.k 6 rfl<|.k 7 rfl<|.nil) (fun _ => .sub 0 rfl ((res_eq (by rw [show (((n / 32 : Nat) : Int) + (m.length : Int) + 1).toNat = n / 32 + m.length + 1 by omega])))<|.nil) (ks := [0]) rfl) (fun x hI => ?_)
  obtain ⟨i, l⟩ := x
  try simp only at hI
  show J _ _ ((8, isv (.int .i64 (i : Int))) :: _) (som (g6 23) (inp .u32) l 132 :: _) _ _
  refine zF ?_
  refine zF (zG [] (.n (zA (.t rfl))<|.n (zA (.t rfl))<|.n (op_len_m sl86 (.t rfl))<|.n (op_cmp (by simp) (.t rfl) (.t rfl) rfl)<|.nil) ff rfl fun g8 => ⟨_, _, [0], rfl, (.k 0 rfl<|.k 5 rfl<|.k 6 rfl<|.k 7 rfl<|.k 8 rfl<|.k 27 rfl<|.nil), (.k 0 rfl<|.nil), ?_⟩)
  refine zC ?_
  refine zH (zK (.t rfl)) (fun h2 => ?_) (fun h2 => ?_)
  ·try simp only [cmpB, Z] at h2
   have hIi := hI.hi
   have hIl := hI.hl
   have gm := hm.at (k := ((i : Nat) : Int).toNat) (show i < m.length by omega)
   have gl := hI.hd.at (k := (((n / 32 : Nat) : Int) + (i : Int)).toNat) (by omega)
   obtain ⟨x, hx⟩ : ∃ x, x = m.getD i 0 := ⟨_, rfl⟩
   obtain ⟨t, ht⟩ : ∃ t, t = x * 2 ^ (n % 32) := ⟨_, rfl⟩
   have htx : m.getD ((i : Nat) : Int).toNat 0 * 2 ^ (n % 32) = t := by rw [ht, hx]; rfl
   have hor : bitsOf .or .u32 (l.getD (((n / 32 : Nat) : Int) + (i : Int)).toNat 0) (t % 4294967296) = l.getD (n / 32 + i) 0 + t % 4294967296 := lef_or hs32 hm hI (show i < m.length by omega) hx ht
   have hpt := lef_parts (x := x) (p := 2 ^ (n % 32)) (by rw [hx]; exact gm) hp1 hp2 hp3
   rw [← ht] at hpt
   refine J_skip ?_
   refine zC ?_
   refine zF ?_
   refine zT ?_
   refine zF (zG [] (.n (zA (.t rfl))<|.n (zA (.t rfl))<|.n (op_index_m 0 sl86 (.t rfl) (.t rfl) (by omega) (by omega))<|.n (op_load_sc sc132 (.t rfl) rfl)<|.n (op_conv_int it132 it37 (.t rfl) (wr64 (by omega) (by omega)))<|.n (zA (.t rfl))<|.n (op_shl (.t rfl) (.t rfl) (by omega) (shl64 gm hs32))<|.n (zB (.t rfl))<|.nil) ff rfl fun g9 => ⟨_, _, [0], rfl, (.k 0 rfl<|.k 5 rfl<|.k 6 rfl<|.k 7 rfl<|.k 8 rfl<|.k 9 rfl<|.nil), (.k 0 rfl<|.nil), ?_⟩)
   refine zC ?_
   rw [htx]
   refine zF (zG [] (.n (zA (.t rfl))<|.n (zA (.t rfl))<|.n (zA (.t rfl))<|.n (op_add (.t rfl) (.t rfl) (zO (by omega) (by omega)))<|.r 0 (op_index_som 0 sl86 (.t rfl) (.t rfl) rfl (by omega) (by omega))<|.r 0 (op_get_som 0 0 sc132 (.t rfl) rfl (by omega))<|.n (zA (.t rfl))<|.n (op_conv_int it37 it132 (.t rfl) (wr32 _))<|.n (op_bits (by simp) (.t rfl) (.t rfl) hor)<|.r 0 (op_index_som 0 sl86 (.t rfl) (.t rfl) rfl (by omega) (by omega))<|.w 0 (op_store_som (mk := inp .u32) 0 (.t rfl) (.t rfl) co_inp sz132 rfl (by omega))<|.nil) ff rfl fun g10 => ⟨_, _, [0], rfl, (.k 0 rfl<|.k 5 rfl<|.k 6 rfl<|.k 7 rfl<|.k 8 rfl<|.k 9 rfl<|.nil), (.k 0 rfl<|.nil), ?_⟩)
   refine zC ?_
   refine (zG [] (.n (zA (.t rfl))<|.n (zA (.t rfl))<|.n (zA (.t rfl))<|.n (op_add (.t rfl) (.t rfl) (zO (by omega) (by omega)))<|.n (op_add (.t rfl) (.k rfl) (zO (by omega) (by omega)))<|.n (zA (.t rfl))<|.n (op_shr (.t rfl) (.k rfl) (by omega) (shr32 _))<|.n (op_conv_int it37 it132 (.t rfl) (wr32s (by omega) (by omega)))<|.r 0 (op_index_som 0 sl86 (.t rfl) (.t rfl) rfl (by omega) (by rw [List.length_set]; omega))<|.w 0 (op_store_som (mk := inp .u32) 0 (.t rfl) (.t rfl) co_inp sz132 rfl (by rw [List.length_set]; omega))<|.nil) ff rfl fun g11 => ⟨_, _, [0], rfl, (.k 0 rfl<|.k 5 rfl<|.k 6 rfl<|.k 7 rfl<|.k 8 rfl<|.nil), (.k 0 rfl<|.nil), ?_⟩)
   refine zR ?_
   refine zC ?_
   refine (zG [] (.n (zA (.t rfl))<|.n (op_add (.t rfl) (.k rfl) (zO (by omega) (by omega)))<|.n (zB (.t rfl))<|.nil) ff rfl fun g12 => ⟨_, _, [0], rfl, (.k 0 rfl<|.k 5 rfl<|.k 6 rfl<|.k 7 rfl<|.k 8 rfl<|.nil), (.k 0 rfl<|.nil), ?_⟩)
   exact JN_again (i + 1, (l.set (n / 32 + i) (l.getD (n / 32 + i) 0 + t % 4294967296)).set (n / 32 + i + 1) (t / 4294967296)) (by exact lef_step hm hI (by omega) hp1 hp2 hp3 hx ht) (by show m.length - (_ + 1) < _; omega) (To.pick (fun _ => .sub (t := 8) rfl (sp_eq (by rfl))<|.k 0 rfl<|.k 5 rfl<|.k 6 rfl<|.k 7 rfl<|.nil) (fun _ => .sub 0 rfl ((fun _ _ h => h))<|.nil) (ks := [0]) rfl)
  ·try simp only [cmpB, Z] at h2
   obtain ⟨hdg, hmg⟩ := lef_done hI (show i = m.length by have := hI.hi; omega)
   rw [lef_val] at hmg
   refine J_exit ?_
   refine zE ?_
   refine zE ?_
   refine zS ?_
   refine zC ?_
   refine J_to (To.freeze 0 (fun _ h => h) rfl frz_som rfl) ?_
   refine zF (zG [] (.n (zA (.t rfl))<|.n (zP (cut_ok hdg) ⟨(Lk.sub (sb_fk 0 rfl) (.t rfl)),  trivial⟩)<|.n (zB (.t rfl))<|.nil) ff rfl fun g13 => ⟨_, _, [], rfl, (.k 4 rfl<|.nil), (.nil), ?_⟩)
   refine zC ?_
   refine J_ret ?_
   refine zQ (.cons (.tmp (.t rfl))<|.nil) (zM (sb_res1 zL) ?_)
   exact sb_eq (congrArg (fun z => ils .u32 (limbs z.toNat)) hmg)
end Go.Proofs.YtjnmgcglooeooaaGreatDoor
