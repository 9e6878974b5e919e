/- Printed by a program of ours (walk.py): walks of greatest divisors and lowest bits. -/
import Derived.Test.YtjnmgcglooeooaaGreatDoorPsKb
import Derived.Test.YtjnmgcglooeooaaGreatDoorProg
import Derived.KernelRfl
import Derived.Test.YtjnmgcglooeooaaGreatDoorPsTypes
import Derived.Test.YtjnmgcglooeooaaGreatDoorPsWOver
import Derived.Test.YtjnmgcglooeooaaGreatDoorPsWLeh
import Derived.Test.YtjnmgcglooeooaaGreatDoorPsWRnd
import Derived.Test.YtjnmgcglooeooaaGreatDoorPsRac
set_option linter.unusedVariables false
set_option linter.unusedSimpArgs false
set_option maxRecDepth 20000
set_option maxHeartbeats 4000000
namespace Go.Proofs.YtjnmgcglooeooaaGreatDoor
open Go Go.Bn
attribute [local irreducible] OpOK
theorem tz32_ok {z : Int} (z0 : 0 < z) (z1 : z < 4294967296) : Ct Tryz.prog 98 [isv (.int .u32 z)] (isv (.int .i64 (tzN z.toNat : Int))) := by
 refine Ct.of Tryz.func98 rfl (by kernel_rfl) rfl fun c0 => ?_
 obtain ⟨hal, htz⟩ := and_low z0 z1
 have hdk := deb_at _ htz
 obtain ⟨K, hK⟩ : ∃ K, K = 2 ^ tzN z.toNat * 125613361 % 4294967296 := ⟨_, rfl⟩
 obtain ⟨I, hI⟩ : ∃ I, I = K / 134217728 := ⟨_, rfl⟩
 rw [← hK, ← hI] at hdk
 have hm1 : IntKind.u32.wrap (((2 ^ tzN z.toNat : Nat) : Int) * 125613361) = ((K : Nat) : Int) := by rw [hK]; exact deb_mul _
 have hm2 : ((K : Nat) : Int).fdiv (2 ^ min (27 : Int).toNat IntKind.u32.bits) = ((I : Nat) : Int) := by rw [hI]; exact shr27 _
 obtain ⟨J, hJ⟩ : ∃ J, J = 2 ^ tzN z.toNat := ⟨_, rfl⟩
 rw [← hJ] at hal hm1
 clear hK hI hJ
 refine zF (zG [] (.n (zB (.k rfl))<|.nil) ff rfl fun g1 => ⟨_, _, [], rfl, (.k 0 rfl<|.nil), (.nil), ?_⟩)
 refine zC ?_
 refine zF ?_
 refine zF (zG [] (.n (zA (.t rfl))<|.n (op_cmp (by simp) (.t rfl) (.k rfl) rfl)<|.nil) ff rfl fun g2 => ⟨_, _, [], rfl, (.k 0 rfl<|.k 4 rfl<|.nil), (.nil), ?_⟩)
 refine zC ?_
 refine zH (zK (.t rfl)) (fun h1 => ?_) (fun h1 => ?_)
 ·try simp only [cmpB, Z] at h1
  exact absurd h1 (by omega)
 ·try simp only [cmpB, Z] at h1
  refine J_skip ?_
  refine zC ?_
  refine zF (zG [] (.n (zA (.t rfl))<|.n (zA (.t rfl))<|.n (op_neg (.t rfl) (wneg32 z0 z1))<|.n (op_bits (by simp) (.t rfl) (.t rfl) hal)<|.n (op_mul (.t rfl) (.k rfl) hm1)<|.n (op_shr (.t rfl) (.k rfl) (by omega) hm2)<|.n (op_index_arr1 (base := tabV) ar152 (fun c _ => ⟨1, .inl rfl, rfl⟩) (.t rfl) (by omega) (by omega))<|.n (op_load_sc sc5 (Lk.sub (tab_at hdk.2) (.t rfl)) rfl)<|.n (op_conv_int it5 it3 (.t rfl) (zO (by rw [hdk.1]; omega) (by rw [hdk.1]; omega)))<|.n (zB (.t rfl))<|.nil) ff rfl fun g3 => ⟨_, _, [], rfl, (.k 2 rfl<|.nil), (.nil), ?_⟩)
  refine zC ?_
  refine J_ret ?_
  refine zQ (.cons (.tmp (.t rfl))<|.nil) (zM (sb_res1 zL) ?_)
  exact ret_i hdk.1
theorem one0_ok  : Ct Tryz.prog 81 [] (ils .u32 [1]) := by
 refine Ct.of Tryz.func81 rfl (by kernel_rfl) rfl fun c0 => ?_
 refine zF (zG [] (.n (zB (.k rfl))<|.nil) ff rfl fun g1 => ⟨_, _, [], rfl, (.nil), (.nil), ?_⟩)
 refine zC ?_
 refine zF (zG [] (.n (op_buildSlice sl86 zr132 rfl rfl rfl rfl (.cons rfl (.k rfl) co_isv rfl (puts_l rfl (Nat.le_of_ble_eq_true rfl)) .nil))<|.n (zB (.t rfl))<|.nil) ff rfl fun g2 => ⟨_, _, [], rfl, (.k 0 rfl<|.nil), (.nil), ?_⟩)
 refine zC ?_
 refine J_ret ?_
 refine zQ (.cons (.tmp (.t rfl))<|.nil) (zM (sb_res1 zL) ?_)
 exact zL
theorem one_ok : Ct Tryz.prog 81 [] (ils .u32 (limbs 1)) := (by have h := one0_ok; rw [← limbs_1'] at h; exact h)
theorem tzb_ok {b : Bool} {n : Nat} (hn : (limbs n).length ≤ 4000) : Ct Tryz.prog 82 [ptp [isv (.bool b), ils .u32 (limbs n)]] (isv (.int .u64 (tzN n : Int))) := by
 refine Ct.of Tryz.func82 rfl (by kernel_rfl) rfl fun c0 => ?_
 have hdn := limbs_dig n
 refine zF (zG [] (.n (zB (.k rfl))<|.nil) ff rfl fun g1 => ⟨_, _, [], rfl, (.k 0 rfl<|.nil), (.nil), ?_⟩)
 refine zC ?_
 refine zF ?_
 refine zF (zG [] (.n (zB (.k rfl))<|.nil) ff rfl fun g2 => ⟨_, _, [], rfl, (.k 0 rfl<|.k 3 rfl<|.nil), (.nil), ?_⟩)
 refine zC ?_
 refine zT ?_
 refine J_loopc (α := Nat) (fun k => k ≤ (limbs n).length ∧ magI ((limbs n).take k) = 0) (fun k => (limbs n).length - k) (fun k restR => (3, isv (.int .i64 (k : Int))) :: restR) (fun k restS => restS) (ρc := [(0, _)]) (σc := []) 0 (by exact ⟨Nat.zero_le _, rfl⟩) (To.pick (fun _ => .sub (t := 3) rfl (sp_eq (by rfl))<|.k 0 rfl<|.nil) (fun _ => .nil) (ks := []) rfl) (fun k hI => ?_)
 refine zF ?_
 refine zF (zG [] (.n (zA (.t rfl))<|.n (zA (.t rfl))<|.n (op_nilp (.t rfl))<|.n (op_field_ptr fd88_1 (.t rfl) rfl)<|.n (op_load_sc sc86 (.t rfl) rfl)<|.n (op_len_m sl86 (.t rfl))<|.n (op_cmp (by simp) (.t rfl) (.t rfl) rfl)<|.nil) ff rfl fun g3 => ⟨_, _, [], rfl, (.k 0 rfl<|.k 3 rfl<|.k 10 rfl<|.nil), (.nil), ?_⟩)
 refine zC ?_
 refine zH (zK (.t rfl)) (fun h1 => ?_) (fun h1 => ?_)
 ·try simp only [cmpB, Z] at h1
  have gl := hdn.at (k := ((k : Nat) : Int).toNat) (by have := h1; omega)
  refine J_skip ?_
  refine zC ?_
  refine zF ?_
  refine zT ?_
  refine zF (zG [] (.n (zA (.t rfl))<|.n (op_nilp (.t rfl))<|.n (op_field_ptr fd88_1 (.t rfl) rfl)<|.n (op_load_sc sc86 (.t rfl) rfl)<|.n (zA (.t rfl))<|.n (op_index_m 0 sl86 (.t rfl) (.t rfl) (by omega) (by omega))<|.n (op_load_sc sc132 (.t rfl) rfl)<|.n (op_cmp (by simp) (.t rfl) (.k rfl) rfl)<|.nil) ff rfl fun g4 => ⟨_, _, [], rfl, (.k 0 rfl<|.k 3 rfl<|.k 20 rfl<|.nil), (.nil), ?_⟩)
  refine zC ?_
  refine zH (zK (.t rfl)) (fun h2 => ?_) (fun h2 => ?_)
  ·try simp only [cmpB, Z] at h2
   obtain ⟨ht1, ht2⟩ := tz_limb (n := n) (k := k) (by have := h1; omega) hI.2 h2
   have gt : tzN ((limbs n).getD ((k : Nat) : Int).toNat 0).toNat < 32 := ht2
   refine zF (zG [] (.n (zA (.t rfl))<|.n (op_mul (.k rfl) (.t rfl) (zO (by omega) (by omega)))<|.n (zA (.t rfl))<|.n (op_nilp (.t rfl))<|.n (op_field_ptr fd88_1 (.t rfl) rfl)<|.n (op_load_sc sc86 (.t rfl) rfl)<|.n (zA (.t rfl))<|.n (op_index_m 0 sl86 (.t rfl) (.t rfl) (by omega) (by omega))<|.n (op_load_sc sc132 (.t rfl) rfl)<|.n (zP (tz32_ok (by have := gl.1; have := h2; omega) gl.2) ⟨(.t rfl),  trivial⟩)<|.n (op_add (.t rfl) (.t rfl) (zO (by omega) (by omega)))<|.n (op_conv_int it3 it76 (.t rfl) (wr64 (by omega) (by omega)))<|.n (zB (.t rfl))<|.nil) ff rfl fun g5 => ⟨_, _, [], rfl, (.k 2 rfl<|.nil), (.nil), ?_⟩)
   refine zC ?_
   refine J_ret ?_
   refine JN_block_ret ?_
   refine zD ?_
   refine zD ?_
   refine JN_block_ret ?_
   refine zD ?_
   refine zQ (.cons (.tmp (.t rfl))<|.nil) (zM (sb_res1 zL) ?_)
   exact ret_i (by rw [ht1]; show _ = ((32 * k + tzN ((limbs n).getD ((k : Nat) : Int).toNat 0).toNat : Nat) : Int); omega)
  ·try simp only [cmpB, Z] at h2
   have hst := tz_step (n := n) (k := k) (by have := h1; omega) hI.2 h2
   refine J_skip ?_
   refine zR ?_
   refine zC ?_
   refine (zG [] (.n (zA (.t rfl))<|.n (op_add (.t rfl) (.k rfl) (zO (by omega) (by omega)))<|.n (zB (.t rfl))<|.nil) ff rfl fun g6 => ⟨_, _, [], rfl, (.k 0 rfl<|.k 3 rfl<|.nil), (.nil), ?_⟩)
   exact JN_again (k + 1) (by exact ⟨by omega, hst⟩) (by omega) (To.pick (fun _ => .sub (t := 3) rfl (sp_eq (by rfl))<|.k 0 rfl<|.nil) (fun _ => .nil) (ks := []) rfl)
 ·try simp only [cmpB, Z] at h1
  have hno := tz_none (n := n) (k := k) (by have := h1; have := hI.1; omega) hI.2
  refine J_exit ?_
  refine zE ?_
  refine zE ?_
  refine zS ?_
  refine zC ?_
  refine zF (zG [] (.n (zB (.k rfl))<|.nil) ff rfl fun g7 => ⟨_, _, [], rfl, (.k 2 rfl<|.nil), (.nil), ?_⟩)
  refine zC ?_
  refine J_ret ?_
  refine zQ (.cons (.tmp (.t rfl))<|.nil) (zM (sb_res1 zL) ?_)
  exact ret_i (by rw [hno]; rfl)
theorem iblN_ok {n : Nat} (h : Sml (n : Int)) : Ct Tryz.prog 84 [ptp [isv (.bool false), ils .u32 (limbs n)]] (isv (.int .i64 (bl n : Int))) := (by have h1 := ibl_ok h; rw [intP_nat] at h1; exact h1)
theorem bottom_ok {q : Rat} : Ct Tryz.prog 67 [ratP q] (ils .u32 (limbs q.den)) := by
 refine Ct.of Tryz.func67 rfl (by kernel_rfl) rfl fun c0 => ?_
 have hden := q.den_nz
 have hdl := limbs_len0 (n := q.den)
 refine zF (zG [] (.n (zB (.k rfl))<|.nil) ff rfl fun g1 => ⟨_, _, [], rfl, (.k 0 rfl<|.nil), (.nil), ?_⟩)
 refine zC ?_
 refine zF ?_
 refine zF (zG [] (.n (zA (.t rfl))<|.n (op_nilp (.t rfl))<|.n (op_field_ptr fd90_1 (.t rfl) rfl)<|.n (op_field_ptr fd88_1 (.t rfl) rfl)<|.n (op_load_sc sc86 (.t rfl) rfl)<|.n (op_len_m sl86 (.t rfl))<|.n (op_cmp (by simp) (.t rfl) (.k rfl) rfl)<|.nil) ff rfl fun g2 => ⟨_, _, [], rfl, (.k 0 rfl<|.k 9 rfl<|.nil), (.nil), ?_⟩)
 refine zC ?_
 refine zH (zK (.t rfl)) (fun h1 => ?_) (fun h1 => ?_)
 ·try simp only [cmpB, Z] at h1
  exact absurd h1 (fun e => hden (hdl.1 (by omega)))
 ·try simp only [cmpB, Z] at h1
  refine J_skip ?_
  refine zC ?_
  refine zF (zG [] (.n (zA (.t rfl))<|.n (op_nilp (.t rfl))<|.n (op_field_ptr fd90_1 (.t rfl) rfl)<|.n (op_field_ptr fd88_1 (.t rfl) rfl)<|.n (op_load_sc sc86 (.t rfl) rfl)<|.n (zB (.t rfl))<|.nil) ff rfl fun g3 => ⟨_, _, [], rfl, (.k 2 rfl<|.nil), (.nil), ?_⟩)
  refine zC ?_
  refine J_ret ?_
  refine zQ (.cons (.tmp (.t rfl))<|.nil) (zM (sb_res1 zL) ?_)
  exact zL
theorem common_ok {X Y : Nat} (hX : Sml (X : Int)) (hY : Sml (Y : Int)) : Ct Tryz.prog 85 [ils .u32 (limbs X), ils .u32 (limbs Y)] (ils .u32 (limbs (Nat.gcd X Y))) := by
 refine Ct.of Tryz.func85 rfl (by kernel_rfl) rfl fun c0 => ?_
 refine zF (zG [] (.n (zB (.k rfl))<|.nil) ff rfl fun g1 => ⟨_, _, [], rfl, (.k 0 rfl<|.k 1 rfl<|.nil), (.nil), ?_⟩)
 refine zC ?_
 refine zF ?_
 refine zF (zG [] (.n (zA (.t rfl))<|.n (zA (.t rfl))<|.n (zP (cmp_ok) ⟨(.t rfl), (.t rfl),  trivial⟩)<|.n (op_cmp (by simp) (.t rfl) (.k rfl) rfl)<|.nil) ff rfl fun g2 => ⟨_, _, [], rfl, (.k 0 rfl<|.k 1 rfl<|.k 20 rfl<|.nil), (.nil), ?_⟩)
 refine zC ?_
 refine J_cutS (ρc := []) (ρ1 := [(0, ils .u32 (limbs (max X Y))), (1, ils .u32 (limbs (min X Y)))]) (σ' := []) (To.pick (fun _ => .nil) (fun _ => .nil) (ks := []) rfl) ?_ ?_
 ·skip
  refine zH (zK (.t rfl)) (fun h1 => ?_) (fun h1 => ?_)
  ·have h1' := h1
   try simp only [cmpB, Z] at h1
   refine zF (zG [] (.n (zA (.t rfl))<|.n (zB (.t rfl))<|.nil) ff rfl fun g3 => ⟨_, _, [], rfl, (.k 1 rfl<|.k 5 rfl<|.nil), (.nil), ?_⟩)
   refine zC ?_
   refine zF (zG [] (.n (zA (.t rfl))<|.n (zB (.t rfl))<|.nil) ff rfl fun g4 => ⟨_, _, [], rfl, (.k 0 rfl<|.k 5 rfl<|.nil), (.nil), ?_⟩)
   refine zC ?_
   refine (zG [] (.n (zA (.t rfl))<|.n (zB (.t rfl))<|.nil) ff rfl fun g5 => ⟨_, _, [], rfl, (.k 0 rfl<|.k 1 rfl<|.nil), (.nil), ?_⟩)
   exact JN_cutT (To.pick (fun _ => .sub (t := 0) rfl (sb_eq (by first | rw [Nat.max_eq_right (Nat.le_of_lt (over_lt h1'))] | rw [Nat.max_eq_left (Nat.le_of_not_lt (over_ge h1'))]))<|.sub (t := 1) rfl (sb_eq (by first | rw [Nat.min_eq_left (Nat.le_of_lt (over_lt h1'))] | rw [Nat.min_eq_right (Nat.le_of_not_lt (over_ge h1'))]))<|.nil) (fun _ => .nil) (ks := []) rfl)
  ·have h1' := h1
   try simp only [cmpB, Z] at h1
   refine J_skip ?_
   exact JN_cutT (To.pick (fun _ => .sub (t := 0) rfl (sb_eq (by first | rw [Nat.max_eq_right (Nat.le_of_lt (over_lt h1'))] | rw [Nat.max_eq_left (Nat.le_of_not_lt (over_ge h1'))]))<|.sub (t := 1) rfl (sb_eq (by first | rw [Nat.min_eq_left (Nat.le_of_lt (over_lt h1'))] | rw [Nat.min_eq_right (Nat.le_of_not_lt (over_ge h1'))]))<|.nil) (fun _ => .nil) (ks := []) rfl)
 ·skip
  refine zF ?_
  refine zT ?_
  refine J_loopc (α := Nat × Nat) (fun z => z.2 ≤ z.1 ∧ Nat.gcd z.1 z.2 = Nat.gcd X Y ∧ Sml (z.1 : Int)) (fun z => z.2) (fun z restR => (0, ils .u32 (limbs z.1)) :: (1, ils .u32 (limbs z.2)) :: restR) (fun z restS => restS) (ρc := []) (σc := []) (max X Y, min X Y) (by exact ⟨by omega, gc_max, gc_sml hX hY⟩) (To.pick (fun _ => .sub (t := 0) rfl (sp_eq (by rfl))<|.sub (t := 1) rfl (sp_eq (by rfl))<|.nil) (fun _ => .nil) (ks := []) rfl) (fun z hI => ?_)
  obtain ⟨x, y⟩ := z
  try simp only at hI
  show J _ _ ((0, ils .u32 (limbs x)) :: (1, ils .u32 (limbs y)) :: _) (_) _ _
  obtain ⟨hyx, hgd, hsx⟩ := hI
  have hsy := sml_le hyx hsx
  have hxl := sml_lim hsx
  have hyl := sml_lim hsy
  refine zF ?_
  refine zF (zG [] (.n (zA (.t rfl))<|.n (op_len_m sl86 (.t rfl))<|.n (op_cmp (by simp) (.t rfl) (.k rfl) rfl)<|.nil) ff rfl fun g6 => ⟨_, _, [], rfl, (.k 0 rfl<|.k 1 rfl<|.k 26 rfl<|.nil), (.nil), ?_⟩)
  refine zC ?_
  refine zH (zK (.t rfl)) (fun h2 => ?_) (fun h2 => ?_)
  ·try simp only [cmpB, Z] at h2
   obtain ⟨at_, hat⟩ := gc_bl (x := x) (y := y) (by have := h2; omega) hyx
   have hbm := bl_lim hxl
   obtain ⟨hl1, hl2, hlx, _⟩ := gc_lead hat hyx
   have hlp := hlx.xp
   have hlb := hlx.xb
   have hy0 : 0 < y := Nat.pos_of_ne_zero (fun e => by have h9 := limbs_len0.2 e; have := h2; omega)
   obtain ⟨s, hs⟩ : ∃ s, s = lehN (((y / 2 ^ at_ : Nat) : Int).toNat + 1) (lst0 ((x / 2 ^ at_ : Nat) : Int) ((y / 2 ^ at_ : Nat) : Int)) := ⟨_, rfl⟩
   refine J_skip ?_
   refine zC ?_
   refine zT ?_
   refine J_to (To.emps 1) ?_
   refine zF (zG [] (.n (zA (.t rfl))<|.n (op_build zr88 rfl pl88 (.cons rfl (.t rfl) co_slm rfl (puts_l rfl (Nat.le_of_ble_eq_true rfl)) .nil))<|.w 0 (op_box 0 (.t rfl) co_agg rfl)<|.n (op_assign_ve rfl rfl)<|.nil) ff rfl fun g7 => ⟨_, _, [0], rfl, (.k 0 rfl<|.k 1 rfl<|.k 6 rfl<|.nil), (.k 0 rfl<|.nil), ?_⟩)
   refine zC ?_
   refine J_to (To.freeze 0 (fun _ h => h) rfl frz_blk rfl) ?_
   refine zF (zG [] (.n (zA (.t rfl))<|.n (zP (iblN_ok hsx) ⟨(Lk.sub (sb_ok 0 2 rfl rfl) (.t rfl)),  trivial⟩)<|.n (op_sub (.t rfl) (.k rfl) (zO (by omega) (by omega)))<|.n (zB (.t rfl))<|.nil) ff rfl fun g8 => ⟨_, _, [], rfl, (.k 0 rfl<|.k 1 rfl<|.k 7 rfl<|.nil), (.nil), ?_⟩)
   refine zC ?_
   refine J_to (To.slot 7 rfl (q := isv (.int .i64 (at_ : Int))) (sb_eq (by rw [hat]; exact congrArg (fun z => isv (.int .i64 z)) (by omega)))) ?_
   refine zF (zG [] (.n (zA (.t rfl))<|.n (zA (.t rfl))<|.n (zP (lead_ok (by omega) (by omega) hl1) ⟨(.t rfl), (.t rfl),  trivial⟩)<|.n (zA (.t rfl))<|.n (zA (.t rfl))<|.n (zP (lead_ok (by omega) (by omega) hl2) ⟨(.t rfl), (.t rfl),  trivial⟩)<|.n (zP (steps_ok hlp.1 hlp.2 hlb) ⟨(.t rfl), (.t rfl),  trivial⟩)<|.n (zA (.t rfl))<|.n (op_extract (.t rfl) rfl)<|.n (op_extract (.t rfl) rfl)<|.n (op_extract (.t rfl) rfl)<|.n (op_extract (.t rfl) rfl)<|.n (zB (.t rfl))<|.n (zB (.t rfl))<|.n (zB (.t rfl))<|.n (zB (.t rfl))<|.nil) ff rfl fun g9 => ⟨_, _, [], rfl, (.k 0 rfl<|.k 1 rfl<|.k 8 rfl<|.k 9 rfl<|.k 10 rfl<|.k 11 rfl<|.nil), (.nil), ?_⟩)
   refine zC ?_
   refine zF ?_
   rw [← hs]
   refine zF (zG [] (.n (zA (.t rfl))<|.n (op_cmp (by simp) (.t rfl) (.k rfl) rfl)<|.nil) ff rfl fun g10 => ⟨_, _, [], rfl, (.k 0 rfl<|.k 1 rfl<|.k 8 rfl<|.k 9 rfl<|.k 10 rfl<|.k 11 rfl<|.k 46 rfl<|.nil), (.nil), ?_⟩)
   refine zC ?_
   refine zH (zK (.t rfl)) (fun h3 => ?_) (fun h3 => ?_)
   ·try simp only [cmpB, Z] at h3
    refine zF (zG [] (.n (zA (.t rfl))<|.n (zA (.t rfl))<|.n (zP (over_ok (by omega) (by omega) hy0) ⟨(.t rfl), (.t rfl),  trivial⟩)<|.n (zA (.t rfl))<|.n (op_extract (.t rfl) rfl)<|.n (op_extract (.t rfl) rfl)<|.n (zB (.t rfl))<|.n (zB (.t rfl))<|.nil) ff rfl fun g11 => ⟨_, _, [], rfl, (.k 1 rfl<|.k 13 rfl<|.nil), (.nil), ?_⟩)
    refine zC ?_
    refine zF (zG [] (.n (zA (.t rfl))<|.n (zB (.t rfl))<|.nil) ff rfl fun g12 => ⟨_, _, [], rfl, (.k 0 rfl<|.k 13 rfl<|.nil), (.nil), ?_⟩)
    refine zC ?_
    refine zF (zG [] (.n (zA (.t rfl))<|.n (zB (.t rfl))<|.nil) ff rfl fun g13 => ⟨_, _, [], rfl, (.k 0 rfl<|.k 1 rfl<|.nil), (.nil), ?_⟩)
    refine zC ?_
    refine J_exit ?_
    refine zE ?_
    refine zS ?_
    refine JN_to To.fdrop ?_
    exact JN_again (y, x % y) (by first | exact ⟨Nat.le_of_lt (Nat.mod_lt _ hy0), (gc_mod x y).trans hgd, hsy⟩ | exact ⟨hG.vu, hG.g.trans hgd, sml_le hG.ux hsx⟩) (by first | exact Nat.mod_lt _ hy0 | exact hG.vy) (To.pick (fun _ => .sub (t := 0) rfl (sp_eq (by rfl))<|.sub (t := 1) rfl (sp_eq (by rfl))<|.nil) (fun _ => .nil) (ks := []) rfl)
   ·try simp only [cmpB, Z] at h3
    have hG := gc_step hat hyx hs h3
    have hGa := hG.a
    have hGb := hG.b
    have hGc := hG.c
    have hGd := hG.d
    have hGu := hG.u0
    have hGv := hG.v0
    refine J_skip ?_
    refine zC ?_
    refine zF (zG [] (.n (zA (.t rfl))<|.n (zA (.t rfl))<|.n (zA (.t rfl))<|.n (zA (.t rfl))<|.n (zP (mix_ok (by omega) (by omega) hGa hGb hG.s1 hGu) ⟨(.t rfl), (.t rfl), (.t rfl), (.t rfl),  trivial⟩)<|.n (zB (.t rfl))<|.nil) ff rfl fun g14 => ⟨_, _, [], rfl, (.k 0 rfl<|.k 1 rfl<|.k 10 rfl<|.k 11 rfl<|.k 14 rfl<|.nil), (.nil), ?_⟩)
    refine zC ?_
    refine zF (zG [] (.n (zA (.t rfl))<|.n (zA (.t rfl))<|.n (zA (.t rfl))<|.n (zA (.t rfl))<|.n (zP (mix_ok (by omega) (by omega) hGc hGd hG.s2 hGv) ⟨(.t rfl), (.t rfl), (.t rfl), (.t rfl),  trivial⟩)<|.n (zB (.t rfl))<|.nil) ff rfl fun g15 => ⟨_, _, [], rfl, (.k 1 rfl<|.k 14 rfl<|.nil), (.nil), ?_⟩)
    refine zC ?_
    refine (zG [] (.n (zA (.t rfl))<|.n (zB (.t rfl))<|.nil) ff rfl fun g16 => ⟨_, _, [], rfl, (.k 0 rfl<|.k 1 rfl<|.nil), (.nil), ?_⟩)
    refine zR ?_
    refine JN_to To.fdrop ?_
    exact JN_again ((s.a * x + s.b * y).toNat, (s.c * x + s.d * y).toNat) (by first | exact ⟨Nat.le_of_lt (Nat.mod_lt _ hy0), (gc_mod x y).trans hgd, hsy⟩ | exact ⟨hG.vu, hG.g.trans hgd, sml_le hG.ux hsx⟩) (by first | exact Nat.mod_lt _ hy0 | exact hG.vy) (To.pick (fun _ => .sub (t := 0) rfl (sp_eq (by rfl))<|.sub (t := 1) rfl (sp_eq (by rfl))<|.nil) (fun _ => .nil) (ks := []) rfl)
  ·try simp only [cmpB, Z] at h2
   refine J_exit ?_
   refine zE ?_
   refine zE ?_
   refine zS ?_
   refine zC ?_
   refine zF ?_
   refine zT ?_
   refine J_loopc (α := Nat × Nat) (fun z => z.2 ≤ z.1 ∧ Nat.gcd z.1 z.2 = Nat.gcd X Y ∧ Sml (z.1 : Int)) (fun z => z.2) (fun z restR => (0, ils .u32 (limbs z.1)) :: (1, ils .u32 (limbs z.2)) :: restR) (fun z restS => restS) (ρc := []) (σc := []) (x, y) (by exact ⟨hyx, hgd, hsx⟩) (To.pick (fun _ => .sub (t := 0) rfl (sp_eq (by rfl))<|.sub (t := 1) rfl (sp_eq (by rfl))<|.nil) (fun _ => .nil) (ks := []) rfl) (fun z hI2 => ?_)
   obtain ⟨x2, y2⟩ := z
   try simp only at hI2
   show J _ _ ((0, ils .u32 (limbs x2)) :: (1, ils .u32 (limbs y2)) :: _) (_) _ _
   obtain ⟨hyx2, hgd2, hsx2⟩ := hI2
   have hsy2 := sml_le hyx2 hsx2
   have hxl2 := sml_lim hsx2
   have hyl2 := sml_lim hsy2
   refine zF ?_
   refine zF (zG [] (.n (zA (.t rfl))<|.n (op_len_m sl86 (.t rfl))<|.n (op_cmp (by simp) (.t rfl) (.k rfl) rfl)<|.nil) ff rfl fun g17 => ⟨_, _, [], rfl, (.k 0 rfl<|.k 1 rfl<|.k 68 rfl<|.nil), (.nil), ?_⟩)
   refine zC ?_
   refine zH (zK (.t rfl)) (fun h4 => ?_) (fun h4 => ?_)
   ·try simp only [cmpB, Z] at h4
    have hz0 : 0 < y2 := Nat.pos_of_ne_zero (fun e => by have h9 := limbs_len0.2 e; have := h4; omega)
    refine J_skip ?_
    refine zC ?_
    refine zT ?_
    refine zF (zG [] (.n (zA (.t rfl))<|.n (zA (.t rfl))<|.n (zP (over_ok (by omega) (by omega) hz0) ⟨(.t rfl), (.t rfl),  trivial⟩)<|.n (zA (.t rfl))<|.n (op_extract (.t rfl) rfl)<|.n (op_extract (.t rfl) rfl)<|.n (zB (.t rfl))<|.n (zB (.t rfl))<|.nil) ff rfl fun g18 => ⟨_, _, [], rfl, (.k 1 rfl<|.k 16 rfl<|.nil), (.nil), ?_⟩)
    refine zC ?_
    refine zF (zG [] (.n (zA (.t rfl))<|.n (zB (.t rfl))<|.nil) ff rfl fun g19 => ⟨_, _, [], rfl, (.k 0 rfl<|.k 16 rfl<|.nil), (.nil), ?_⟩)
    refine zC ?_
    refine (zG [] (.n (zA (.t rfl))<|.n (zB (.t rfl))<|.nil) ff rfl fun g20 => ⟨_, _, [], rfl, (.k 0 rfl<|.k 1 rfl<|.nil), (.nil), ?_⟩)
    refine zR ?_
    exact JN_again (y2, x2 % y2) (by exact ⟨Nat.le_of_lt (Nat.mod_lt _ hz0), (gc_mod x2 y2).trans hgd2, hsy2⟩) (by exact Nat.mod_lt _ hz0) (To.pick (fun _ => .sub (t := 0) rfl (sp_eq (by rfl))<|.sub (t := 1) rfl (sp_eq (by rfl))<|.nil) (fun _ => .nil) (ks := []) rfl)
   ·try simp only [cmpB, Z] at h4
    have hz0 : y2 = 0 := limbs_len0.1 (by have := h4; omega)
    refine J_exit ?_
    refine zE ?_
    refine zE ?_
    refine zS ?_
    refine zC ?_
    refine zF (zG [] (.n (zA (.t rfl))<|.n (op_append_nil sl86 zr132 rfl (.k rfl) (.t rfl) (by omega) (by omega))<|.n (zB (.t rfl))<|.nil) ff rfl fun g21 => ⟨_, _, [], rfl, (.k 4 rfl<|.nil), (.nil), ?_⟩)
    refine zC ?_
    refine J_ret ?_
    refine zQ (.cons (.tmp (.t rfl))<|.nil) (zM (sb_res1 zL) ?_)
    exact sb_eq (by rw [← hgd2, hz0, Nat.gcd_zero_right])
end Go.Proofs.YtjnmgcglooeooaaGreatDoor
