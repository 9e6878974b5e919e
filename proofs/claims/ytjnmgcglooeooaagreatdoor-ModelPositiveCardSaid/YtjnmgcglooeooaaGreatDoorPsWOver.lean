/- Printed by a program of ours (walk.py): walks of long division. -/
import Derived.Test.YtjnmgcglooeooaaGreatDoorPsKb
import Derived.Test.YtjnmgcglooeooaaGreatDoorProg
import Derived.KernelRfl
import Derived.Test.YtjnmgcglooeooaaGreatDoorPsTypes
import Derived.Test.YtjnmgcglooeooaaGreatDoorPsWDiv
import Derived.Test.YtjnmgcglooeooaaGreatDoorPsCtv
set_option linter.unusedVariables false
set_option linter.unusedSimpArgs false
set_option maxRecDepth 20000
set_option maxHeartbeats 8000000
namespace Go.Proofs.YtjnmgcglooeooaaGreatDoor
open Go Go.Bn
attribute [local irreducible] OpOK
theorem cutM_ok {u : Value} {l : List Int} (hd : Dig l) (hl9 : l.length ≤ 3000000) : CtM Tryz.prog 87 [isv u] (som u (inp .u32) l 132) (isv (cutV u (limbs (magI l).toNat).length)) (som (cutV u (limbs (magI l).toNat).length) (inp .u32) (limbs (magI l).toNat) 132) := by
 refine CtM.of Tryz.func87 rfl (by kernel_rfl) rfl (fix_cut) fun c0 ob hr0 => ?_
 refine J_know 0 rfl cutV_self fun hcu => ?_
 refine zF (zG [] (.n (zB (.k rfl))<|.nil) ff rfl fun g1 => ⟨_, _, [0], rfl, (.k 0 rfl<|.nil), (.k 0 rfl<|.nil), ?_⟩)
 refine zC ?_
 refine zF ?_
 refine zT ?_
 refine J_loopc (α := Nat) (fun k => k ≤ l.length ∧ magI (l.take k) = magI l) (fun k => k) (fun k restR => (0, isv (cutV u k)) :: restR) (fun k restS => som (cutV u k) (inp .u32) (l.take k) 132 :: restS) (ρc := []) (σc := []) l.length (by exact ⟨Nat.le_refl _, by rw [List.take_length]⟩) (To.pick (fun _ => .sub (t := 0) rfl (sp_eq (by rw [hcu]))<|.nil) (fun _ => .sub 0 rfl ((res_eq (by rw [hcu, List.take_length])))<|.nil) (ks := [0]) rfl) (fun k hI => ?_)
 obtain ⟨hk, hm⟩ := hI
 have hkl : (l.take k).length = k := by rw [List.length_take]; omega
 refine zF ?_
 refine zF (zG [] (.n (zA (.t rfl))<|.r 0 (op_len_som 0 sl86 (.t rfl) rfl)<|.n (op_cmp (by simp) (.t rfl) (.k rfl) rfl)<|.n (zA (.t rfl))<|.n (op_guard rfl rfl (gd_b rfl) (fun hC => (zA (.t rfl))))<|.n (op_guard rfl rfl (gd_b rfl) (fun hC => (zA (.t rfl))))<|.r 0 (op_guard rfl rfl (gd_b rfl) (fun hC => (op_len_som 0 sl86 (.w rfl hC) rfl)))<|.n (op_guard rfl rfl (gd_b rfl) (fun hC => (op_sub (.w rfl hC) (.k rfl) (zO (by omega) (by omega)))))<|.r 0 (op_guard rfl rfl (gd_b rfl) (fun hC => (op_index_som 0 sl86 (.w rfl hC) (.w rfl hC) rfl (by simp only [cmpB, Bool.and_eq_true, decide_eq_true_eq, beq_iff_eq] at hC; omega) (by omega))))<|.r 0 (op_guard rfl rfl (gd_b rfl) (fun hC => (op_get_som 0 0 sc132 (.w rfl hC) rfl (by simp only [cmpB, Bool.and_eq_true, decide_eq_true_eq, beq_iff_eq] at hC; omega))))<|.n (op_guard rfl rfl (gd_b rfl) (fun hC => (op_cmp (by simp) (.w rfl hC) (.k rfl) rfl)))<|.n (op_and (.t rfl) (fun h2 => (.w rfl h2)))<|.nil) ff rfl fun g2 => ⟨_, _, [0], rfl, (.k 0 rfl<|.k 14 rfl<|.nil), (.k 0 rfl<|.nil), ?_⟩)
 refine zC ?_
 refine zH (zK (.t rfl)) (fun h1 => ?_) (fun h1 => ?_)
 ·have h1' := h1
  try simp only [cmpB, Z] at h1
  have hca := cut_again hk h1'
  refine J_skip ?_
  refine zC ?_
  refine zT ?_
  refine (zG [] (.n (zA (.t rfl))<|.n (zA (.t rfl))<|.r 0 (op_len_som 0 sl86 (.t rfl) rfl)<|.n (op_sub (.t rfl) (.k rfl) (zO (by omega) (by omega)))<|.r 0 (op_slice_topV 0 sl86 (.t rfl) (.t rfl) rfl (by omega) (by omega))<|.n (zB (.t rfl))<|.nil) ff rfl fun g3 => ⟨_, _, [0], rfl, (.k 0 rfl<|.nil), (.k 0 rfl<|.nil), ?_⟩)
  refine zR ?_
  exact JN_again (k - 1) (by exact ⟨by omega, cut_mag hk hca.1 hca.2 hm⟩) (by omega) (To.pick (fun _ => .sub (t := 0) rfl (sp_eq (by exact congrArg isv (by rw [cutV_cut]; congr 1; omega)))<|.nil) (fun _ => .sub 0 rfl ((som_down (by omega)))<|.nil) (ks := [0]) rfl)
 ·have h1' := h1
  try simp only [cmpB, Z] at h1
  refine J_exit ?_
  refine zE ?_
  refine zE ?_
  refine zS ?_
  refine zC ?_
  refine zF (zG [] (.n (zA (.t rfl))<|.n (zB (.t rfl))<|.nil) ff rfl fun g4 => ⟨_, _, [0], rfl, (.k 2 rfl<|.nil), (.k 0 rfl<|.nil), ?_⟩)
  refine zC ?_
  refine J_ret ?_
  refine JN_to (To.res 0 (r' := som (cutV u (limbs (magI l).toNat).length) (inp .u32) (limbs (magI l).toNat) 132) rfl (res_eq (by rw [← cut_done hd hk hm (cut_exit hk h1'), hkl])) rfl) ?_
  refine JN_retM 0 hr0 (fix_cut) rfl (.cons (.tmp (.t rfl))<|.nil) (zM (sb_res1 zL) ?_)
  exact sb_eq (by rw [← cut_done hd hk hm (cut_exit hk h1'), hkl])
theorem leftF_ok {m : List Int} {n : Nat} (hm : Dig m) (hlm : m.length ≤ 1000000) (hn : n ≤ 32000000) : CtF Tryz.prog 93 [ils .u32 m, isv (.int .u64 (n : Int))] (id) (fun u => isv u) (fun u => som u (inp .u32) (limbs (magI m * 2 ^ n).toNat) 132) := by
 refine CtF.of Tryz.func93 rfl (by kernel_rfl) rfl fun c0 => ?_
 refine J_len 0 rfl fun hlen => ?_
 have hs32 : n % 32 < 32 := Nat.mod_lt _ (by omega)
 obtain ⟨hp1, hp2, hp3, hp4⟩ := pow_32 hs32
 refine zF (zG [] (.n (zB (.k rfl))<|.nil) ff rfl fun g1 => ⟨_, _, [], rfl, (.k 0 rfl<|.k 1 rfl<|.nil), (.nil), ?_⟩)
 refine zC ?_
 refine zF ?_
 refine zF (zG [] (.n (zA (.t rfl))<|.n (op_len_m sl86 (.t rfl))<|.n (op_cmp (by simp) (.t rfl) (.k rfl) rfl)<|.nil) ff rfl fun g2 => ⟨_, _, [], rfl, (.k 0 rfl<|.k 1 rfl<|.k 12 rfl<|.nil), (.nil), ?_⟩)
 refine zC ?_
 refine zH (zK (.t rfl)) (fun h1 => ?_) (fun h1 => ?_)
 ·try simp only [cmpB, Z] at h1
  refine zF (zG [] (.n (zB (.k rfl))<|.nil) ff rfl fun g3 => ⟨_, _, [], rfl, (.k 4 rfl<|.nil), (.nil), ?_⟩)
  refine zC ?_
  refine J_ret ?_
  refine zD ?_
  have hm0 : m = [] := List.length_eq_zero_iff.1 (by omega)
  refine JN_to (To.emps 1) ?_
  refine JN_to (To.res 0 (r' := som (.slice none 0 0) (inp .u32) (limbs (magI m * 2 ^ n).toNat) 132) rfl (by rw [hm0, show (magI [] * 2 ^ n).toNat = 0 by simp [magI], limbs_zero]; exact som_nil) rfl) ?_
  refine JN_retF (u := (.slice none 0 0)) 0 rfl rfl (.tmp (.t rfl)) (fun _ _ h => h.1) ?_
  exact zL
 ·try simp only [cmpB, Z] at h1
  refine J_skip ?_
  refine zC ?_
  refine zF (zG [] (.n (zA (.t rfl))<|.n (op_quo (.t rfl) (.k rfl) (by omega) (quo32 n (by omega)))<|.n (op_conv_int it76 it3 (.t rfl) (zO (by omega) (by omega)))<|.n (zB (.t rfl))<|.nil) ff rfl fun g4 => ⟨_, _, [], rfl, (.k 0 rfl<|.k 1 rfl<|.k 5 rfl<|.nil), (.nil), ?_⟩)
  refine zC ?_
  refine zF (zG [] (.n (zA (.t rfl))<|.n (op_rem (.t rfl) (.k rfl) (by omega) (rem32 n))<|.n (zB (.t rfl))<|.nil) ff rfl fun g5 => ⟨_, _, [], rfl, (.k 0 rfl<|.k 5 rfl<|.k 6 rfl<|.nil), (.nil), ?_⟩)
  refine zC ?_
  refine J_to (To.emps 1) ?_
  refine zF (zG [] (.n (zA (.t rfl))<|.n (zA (.t rfl))<|.n (op_len_m sl86 (.t rfl))<|.n (op_add (.t rfl) (.t rfl) (zO (by omega) (by omega)))<|.n (op_add (.t rfl) (.k rfl) (zO (by omega) (by omega)))<|.w 0 (op_make_m (mk := inp .u32) 0 0 sl86 zr132 rfl (fun _ => ⟨rfl, rfl⟩) (.t rfl) (.t rfl) (by omega) (by omega) (by omega) (by omega) rfl)<|.n (op_assign_ve rfl rfl)<|.nil) ff rfl fun g6 => ⟨_, _, [0], rfl, (.k 0 rfl<|.k 5 rfl<|.k 6 rfl<|.k 7 rfl<|.nil), (.k 0 rfl<|.nil), ?_⟩)
  refine zC ?_
  refine zF ?_
  refine zF (zG [] (.n (zB (.k rfl))<|.nil) ff rfl fun g7 => ⟨_, _, [0], rfl, (.k 0 rfl<|.k 5 rfl<|.k 6 rfl<|.k 7 rfl<|.k 8 rfl<|.nil), (.k 0 rfl<|.nil), ?_⟩)
  refine zC ?_
  refine zT ?_
  refine J_loopc (α := Nat × List Int) (fun x => LefI m x.2 (n / 32) (2 ^ (n % 32)) x.1) (fun x => m.length - x.1) (fun x restR => (8, isv (.int .i64 (x.1 : Int))) :: restR) (fun x restS => som (g6 23) (inp .u32) x.2 132 :: restS) (ρc := [(0, _), (5, _), (6, _), (7, _)]) (σc := []) (0, List.replicate (n / 32 + m.length + 1) 0) (by exact lef_zero rfl hp1) (To.pick (fun _ => .sub (t := 8) rfl (sp_eq (by rfl))<|.k 0 rfl<|.k 5 rfl<|.k 6 rfl<|.k 7 rfl<|.nil) (fun _ => .sub 0 rfl ((res_eq (by rw [show (((n / 32 : Nat) : Int) + (m.length : Int) + 1).toNat = n / 32 + m.length + 1 by omega])))<|.nil) (ks := [0]) rfl) (fun x hI => ?_)
  obtain ⟨i, l⟩ := x
  try simp only at hI
  show J _ _ ((8, isv (.int .i64 (i : Int))) :: _) (som (g6 23) (inp .u32) l 132 :: _) _ _
  refine zF ?_
  refine zF (zG [] (.n (zA (.t rfl))<|.n (zA (.t rfl))<|.n (op_len_m sl86 (.t rfl))<|.n (op_cmp (by simp) (.t rfl) (.t rfl) rfl)<|.nil) ff rfl fun g8 => ⟨_, _, [0], rfl, (.k 0 rfl<|.k 5 rfl<|.k 6 rfl<|.k 7 rfl<|.k 8 rfl<|.k 27 rfl<|.nil), (.k 0 rfl<|.nil), ?_⟩)
  refine zC ?_
  refine zH (zK (.t rfl)) (fun h2 => ?_) (fun h2 => ?_)
  ·try simp only [cmpB, Z] at h2
   have hIi := hI.hi
   have hIl := hI.hl
   have gm := hm.at (k := ((i : Nat) : Int).toNat) (show i < m.length by omega)
   have gl := hI.hd.at (k := (((n / 32 : Nat) : Int) + (i : Int)).toNat) (by omega)
   obtain ⟨x, hx⟩ : ∃ x, x = m.getD i 0 := ⟨_, rfl⟩
   obtain ⟨t, ht⟩ : ∃ t, t = x * 2 ^ (n % 32) := ⟨_, rfl⟩
   have htx : m.getD ((i : Nat) : Int).toNat 0 * 2 ^ (n % 32) = t := by rw [ht, hx]; rfl
   have hor : bitsOf .or .u32 (l.getD (((n / 32 : Nat) : Int) + (i : Int)).toNat 0) (t % 4294967296) = l.getD (n / 32 + i) 0 + t % 4294967296 := lef_or hs32 hm hI (show i < m.length by omega) hx ht
   have hpt := lef_parts (x := x) (p := 2 ^ (n % 32)) (by rw [hx]; exact gm) hp1 hp2 hp3
   rw [← ht] at hpt
   refine J_skip ?_
   refine zC ?_
   refine zF ?_
   refine zT ?_
   refine zF (zG [] (.n (zA (.t rfl))<|.n (zA (.t rfl))<|.n (op_index_m 0 sl86 (.t rfl) (.t rfl) (by omega) (by omega))<|.n (op_load_sc sc132 (.t rfl) rfl)<|.n (op_conv_int it132 it37 (.t rfl) (wr64 (by omega) (by omega)))<|.n (zA (.t rfl))<|.n (op_shl (.t rfl) (.t rfl) (by omega) (shl64 gm hs32))<|.n (zB (.t rfl))<|.nil) ff rfl fun g9 => ⟨_, _, [0], rfl, (.k 0 rfl<|.k 5 rfl<|.k 6 rfl<|.k 7 rfl<|.k 8 rfl<|.k 9 rfl<|.nil), (.k 0 rfl<|.nil), ?_⟩)
   refine zC ?_
   rw [htx]
   refine zF (zG [] (.n (zA (.t rfl))<|.n (zA (.t rfl))<|.n (zA (.t rfl))<|.n (op_add (.t rfl) (.t rfl) (zO (by omega) (by omega)))<|.r 0 (op_index_som 0 sl86 (.t rfl) (.t rfl) rfl (by omega) (by omega))<|.r 0 (op_get_som 0 0 sc132 (.t rfl) rfl (by omega))<|.n (zA (.t rfl))<|.n (op_conv_int it37 it132 (.t rfl) (wr32 _))<|.n (op_bits (by simp) (.t rfl) (.t rfl) hor)<|.r 0 (op_index_som 0 sl86 (.t rfl) (.t rfl) rfl (by omega) (by omega))<|.w 0 (op_store_som (mk := inp .u32) 0 (.t rfl) (.t rfl) co_inp sz132 rfl (by omega))<|.nil) ff rfl fun g10 => ⟨_, _, [0], rfl, (.k 0 rfl<|.k 5 rfl<|.k 6 rfl<|.k 7 rfl<|.k 8 rfl<|.k 9 rfl<|.nil), (.k 0 rfl<|.nil), ?_⟩)
   refine zC ?_
   refine (zG [] (.n (zA (.t rfl))<|.n (zA (.t rfl))<|.n (zA (.t rfl))<|.n (op_add (.t rfl) (.t rfl) (zO (by omega) (by omega)))<|.n (op_add (.t rfl) (.k rfl) (zO (by omega) (by omega)))<|.n (zA (.t rfl))<|.n (op_shr (.t rfl) (.k rfl) (by omega) (shr32 _))<|.n (op_conv_int it37 it132 (.t rfl) (wr32s (by omega) (by omega)))<|.r 0 (op_index_som 0 sl86 (.t rfl) (.t rfl) rfl (by omega) (by rw [List.length_set]; omega))<|.w 0 (op_store_som (mk := inp .u32) 0 (.t rfl) (.t rfl) co_inp sz132 rfl (by rw [List.length_set]; omega))<|.nil) ff rfl fun g11 => ⟨_, _, [0], rfl, (.k 0 rfl<|.k 5 rfl<|.k 6 rfl<|.k 7 rfl<|.k 8 rfl<|.nil), (.k 0 rfl<|.nil), ?_⟩)
   refine zR ?_
   refine zC ?_
   refine (zG [] (.n (zA (.t rfl))<|.n (op_add (.t rfl) (.k rfl) (zO (by omega) (by omega)))<|.n (zB (.t rfl))<|.nil) ff rfl fun g12 => ⟨_, _, [0], rfl, (.k 0 rfl<|.k 5 rfl<|.k 6 rfl<|.k 7 rfl<|.k 8 rfl<|.nil), (.k 0 rfl<|.nil), ?_⟩)
   exact JN_again (i + 1, (l.set (n / 32 + i) (l.getD (n / 32 + i) 0 + t % 4294967296)).set (n / 32 + i + 1) (t / 4294967296)) (by exact lef_step hm hI (by omega) hp1 hp2 hp3 hx ht) (by show m.length - (_ + 1) < _; omega) (To.pick (fun _ => .sub (t := 8) rfl (sp_eq (by rfl))<|.k 0 rfl<|.k 5 rfl<|.k 6 rfl<|.k 7 rfl<|.nil) (fun _ => .sub 0 rfl ((fun _ _ h => h))<|.nil) (ks := [0]) rfl)
  ·try simp only [cmpB, Z] at h2
   have hIl := hI.hl
   have hIi := hI.hi
   obtain ⟨hdg, hmg⟩ := lef_done hI (show i = m.length by have := hI.hi; omega)
   rw [lef_val] at hmg
   refine J_exit ?_
   refine zE ?_
   refine zE ?_
   refine zS ?_
   refine zC ?_
   refine zF (zG [] (.n (zA (.t rfl))<|.w 0 (op_callM 0 (cutM_ok hdg (by omega)) ⟨(.t rfl), trivial⟩ rfl)<|.n (zB (.t rfl))<|.nil) ff rfl fun g13 => ⟨_, _, [0], rfl, (.k 4 rfl<|.nil), (.k 0 rfl<|.nil), ?_⟩)
   refine zC ?_
   refine J_ret ?_
   refine JN_to (To.res 0 (r' := som (cutV (g6 23) (limbs (magI l).toNat).length) (inp .u32) (limbs (magI m * 2 ^ n).toNat) 132) rfl (res_eq (by rw [hmg])) rfl) ?_
   refine JN_retF (u := (cutV (g6 23) (limbs (magI l).toNat).length)) 0 rfl rfl (.tmp (.t rfl)) (fun _ _ h => h.1) ?_
   exact zL
theorem cut_ok1 {a : Int} (hd : Dig [a]) : Ct Tryz.prog 87 [slc 1 1 [isv (.int .u32 a)]] (ils .u32 (limbs (magI [a]).toNat)) := cut_ok (l := [a]) hd
theorem over_ok {X Y : Nat} (hX : (limbs X).length ≤ 400000) (hY : (limbs Y).length ≤ 400000) (hY0 : 0 < Y) : Ct Tryz.prog 86 [ils .u32 (limbs X), ils .u32 (limbs Y)] (tupp [ils .u32 (limbs (X / Y)), ils .u32 (limbs (X % Y))]) := by
 refine Ct.of Tryz.func86 rfl (by kernel_rfl) rfl fun c0 => ?_
 refine J_len 0 rfl fun hlen => ?_
 refine J_len 1 rfl fun hlen2 => ?_
 have hYl := limbs_len0 (n := Y)
 have hdX := limbs_dig X
 have hdY := limbs_dig Y
 have hmX := limbs_mag X
 have hmY := limbs_mag Y
 refine zF (zG [] (.n (zB (.k rfl))<|.n (zB (.k rfl))<|.nil) ff rfl fun g1 => ⟨_, _, [], rfl, (.k 0 rfl<|.k 1 rfl<|.nil), (.nil), ?_⟩)
 refine zC ?_
 refine zF ?_
 refine zF (zG [] (.n (zA (.t rfl))<|.n (zA (.t rfl))<|.n (zP (cmp_ok) ⟨(.t rfl), (.t rfl),  trivial⟩)<|.n (op_cmp (by simp) (.t rfl) (.k rfl) rfl)<|.nil) ff rfl fun g2 => ⟨_, _, [], rfl, (.k 0 rfl<|.k 1 rfl<|.k 21 rfl<|.nil), (.nil), ?_⟩)
 refine zC ?_
 refine zH (zK (.t rfl)) (fun h1 => ?_) (fun h1 => ?_)
 ·have h1' := h1
  try simp only [cmpB, Z] at h1
  have hlt : X < Y := over_lt h1'
  refine zF (zG [] (.n (zA (.t rfl))<|.n (op_append_nil sl86 zr132 rfl (.k rfl) (.t rfl) (by omega) (by omega))<|.n (zB (.k rfl))<|.n (zB (.t rfl))<|.nil) ff rfl fun g3 => ⟨_, _, [], rfl, (.k 4 rfl<|.k 5 rfl<|.nil), (.nil), ?_⟩)
  refine zC ?_
  refine J_ret ?_
  refine zD ?_
  refine zQ (.cons (.tmp (.t rfl))<|.cons (.tmp (.t rfl))<|.nil) (zM (sb_res (.cons (sb_nil (mk := inp .u32))<|.cons zL<|.nil)) ?_)
  exact sb_eq (by rw [Nat.div_eq_of_lt hlt, Nat.mod_eq_of_lt hlt, limbs_zero])
 ·have h1' := h1
  try simp only [cmpB, Z] at h1
  have hge : ¬ X < Y := over_ge h1'
  have hXY := over_len hge
  refine J_skip ?_
  refine zC ?_
  refine zF ?_
  refine zF (zG [] (.n (zA (.t rfl))<|.n (op_len_m sl86 (.t rfl))<|.n (op_cmp (by simp) (.t rfl) (.k rfl) rfl)<|.nil) ff rfl fun g4 => ⟨_, _, [], rfl, (.k 0 rfl<|.k 1 rfl<|.k 26 rfl<|.nil), (.nil), ?_⟩)
  refine zC ?_
  refine zH (zK (.t rfl)) (fun h2 => ?_) (fun h2 => ?_)
  ·try simp only [cmpB, Z] at h2
   have hy1 := limbs_one (Y := Y) (by omega)
   have gy := hdY.at (k := ((0 : Int)).toNat) (by show 0 < _; omega)
   rw [hy1] at gy
   have hr0 := Int.emod_nonneg (X : Int) (show (Y : Int) ≠ 0 by omega)
   have hr1 := Int.emod_lt_of_pos (X : Int) (show (0 : Int) < Y by omega)
   refine zF (zG [] (.n (zA (.t rfl))<|.n (zA (.t rfl))<|.n (op_index_m 0 sl86 (.t rfl) (.k rfl) (by omega) (by omega))<|.n (op_load_sc sc132 (.t rfl) rfl)<|.n (zP (short_ok hdX (by omega) (by omega) (by omega)) ⟨(.t rfl), (.t rfl),  trivial⟩)<|.n (zA (.t rfl))<|.n (op_extract (.t rfl) rfl)<|.n (op_extract (.t rfl) rfl)<|.n (zB (.t rfl))<|.n (zB (.t rfl))<|.nil) ff rfl fun g5 => ⟨_, _, [], rfl, (.k 6 rfl<|.k 7 rfl<|.nil), (.nil), ?_⟩)
   refine zC ?_
   refine zF (zG [] (.n (zA (.t rfl))<|.n (zA (.t rfl))<|.n (op_buildSlice sl86 zr132 rfl rfl rfl rfl (.cons rfl (.t rfl) co_isv rfl (puts_l rfl (Nat.le_of_ble_eq_true rfl)) .nil))<|.n (zP (cut_ok1 (dig_one (by rw [hmX, hy1]; exact hr0) (by rw [hmX, hy1]; omega))) ⟨(.t rfl),  trivial⟩)<|.n (zB (.t rfl))<|.n (zB (.t rfl))<|.nil) ff rfl fun g6 => ⟨_, _, [], rfl, (.k 4 rfl<|.k 5 rfl<|.nil), (.nil), ?_⟩)
   refine zC ?_
   refine J_ret ?_
   refine zD ?_
   refine zQ (.cons (.tmp (.t rfl))<|.cons (.tmp (.t rfl))<|.nil) (zM (sb_res (.cons zL<|.cons zL<|.nil)) ?_)
   exact sb_eq (by rw [hmX, hy1, magI_one, ← Int.natCast_ediv, ← Int.natCast_emod, Int.toNat_natCast, Int.toNat_natCast])
  ·try simp only [cmpB, Z] at h2
   obtain ⟨N, hN⟩ : ∃ N, (limbs Y).length = N + 1 + 1 := ⟨(limbs Y).length - 2, by omega⟩
   obtain ⟨S, hS, hS2, hlD, htop⟩ := over_norm hN
   have gtop := hdY.at (k := (((limbs Y).length : Int) - 1).toNat) (by omega)
   have etop : (((limbs Y).length : Int) - 1).toNat = N + 1 := by omega
   have hlU := over_len2 (X := X) hS
   obtain ⟨m, hm⟩ : ∃ m, (limbs X).length + 1 = m + (N + 1 + 1) := ⟨(limbs X).length - N - 1, by omega⟩
   have hDB := over_b hN hm hlD
   have hsx := sh_mag X S
   have hsy := sh_mag Y S
   refine J_skip ?_
   refine zC ?_
   refine zF (zG [] (.n (zA (.t rfl))<|.n (zA (.t rfl))<|.n (op_len_m sl86 (.t rfl))<|.n (op_sub (.t rfl) (.k rfl) (zO (by omega) (by omega)))<|.n (op_index_m 0 sl86 (.t rfl) (.t rfl) (by omega) (by omega))<|.n (op_load_sc sc132 (.t rfl) rfl)<|.n (zP (lz32_ok (by omega) (by omega)) ⟨(.t rfl),  trivial⟩)<|.n (op_conv_int it3 it76 (.t rfl) (show IntKind.u64.wrap (32 - (bl ((limbs Y).getD (((limbs Y).length : Int) - 1).toNat 0).toNat : Int)) = ((S : Nat) : Int) by rw [etop, ← hS2]; exact wr64 (by omega) (by omega)))<|.n (zB (.t rfl))<|.nil) ff rfl fun g7 => ⟨_, _, [], rfl, (.k 0 rfl<|.k 1 rfl<|.k 8 rfl<|.nil), (.nil), ?_⟩)
   refine zC ?_
   refine zF (zG [] (.n (zA (.t rfl))<|.n (zA (.t rfl))<|.n (zP (left_ok hdY (by omega) (by omega)) ⟨(.t rfl), (.t rfl),  trivial⟩)<|.n (zB (.t rfl))<|.nil) ff rfl fun g8 => ⟨_, _, [], rfl, (.k 0 rfl<|.k 8 rfl<|.k 9 rfl<|.nil), (.nil), ?_⟩)
   refine zC ?_
   refine J_to (To.emps 1) ?_
   refine zF (zG [] (.n (zA (.t rfl))<|.n (zA (.t rfl))<|.w 0 (op_callF 0 (leftF_ok hdX (by omega) (by omega)) ⟨(.t rfl), (.t rfl),  trivial⟩ rfl)<|.n (op_assign_ve rfl rfl)<|.nil) ff rfl fun g9 => ⟨_, _, [0], rfl, (.k 0 rfl<|.k 8 rfl<|.k 9 rfl<|.k 10 rfl<|.nil), (.k 0 rfl<|.nil), ?_⟩)
   refine zC ?_
   refine zF ?_
   refine zT ?_
   refine J_loopc (α := Nat × Value) (fun x => (limbs (X * 2 ^ S)).length + x.1 ≤ (limbs X).length + 1) (fun x => (limbs X).length + 1 - ((limbs (X * 2 ^ S)).length + x.1)) (fun x restR => (10, isv x.2) :: restR) (fun x restS => som x.2 (inp .u32) (limbs (X * 2 ^ S) ++ List.replicate x.1 0) 132 :: restS) (ρc := [(0, _), (8, _), (9, _)]) (σc := []) (0, (g9 52)) (by exact (by show _ + 0 ≤ _; omega)) (To.pick (fun _ => .sub (t := 10) rfl (sp_eq (by rfl))<|.k 0 rfl<|.k 8 rfl<|.k 9 rfl<|.nil) (fun _ => .sub 0 rfl ((res_eq (by rw [hsx, List.replicate_zero, List.append_nil]; try rfl)))<|.nil) (ks := [0]) rfl) (fun x hI => ?_)
   obtain ⟨c, sv⟩ := x
   try simp only at hI
   show J _ _ ((10, isv sv) :: _) (som sv (inp .u32) (limbs (X * 2 ^ S) ++ List.replicate c 0) 132 :: _) _ _
   have hIp : (limbs (X * 2 ^ S)).length + c ≤ (limbs X).length + 1 := hI
   refine zF ?_
   refine zF (zG [] (.n (zA (.t rfl))<|.r 0 (op_len_som 0 sl86 (.t rfl) rfl)<|.n (zA (.t rfl))<|.n (op_len_m sl86 (.t rfl))<|.n (op_add (.t rfl) (.k rfl) (zO (by omega) (by omega)))<|.n (op_cmp (by simp) (.t rfl) (.t rfl) rfl)<|.nil) ff rfl fun g10 => ⟨_, _, [0], rfl, (.k 0 rfl<|.k 8 rfl<|.k 9 rfl<|.k 10 rfl<|.k 58 rfl<|.nil), (.k 0 rfl<|.nil), ?_⟩)
   refine zC ?_
   refine zH (zK (.t rfl)) (fun h3 => ?_) (fun h3 => ?_)
   ·try simp only [cmpB, Z] at h3
    refine J_skip ?_
    refine zC ?_
    refine zT ?_
    refine (zG [] (.n (zA (.t rfl))<|.n (op_buildSlice sl86 zr132 rfl rfl rfl rfl (.cons rfl (.k rfl) co_isv rfl (puts_l rfl (Nat.le_of_ble_eq_true rfl)) .nil))<|.w 0 (op_append_m (mk := inp .u32) 0 sl86 zr132 rfl (.t rfl) (.t rfl) rfl (by omega) (by omega))<|.n (op_assign_ve rfl rfl)<|.nil) ff rfl fun g11 => ⟨_, _, [0], rfl, (.k 0 rfl<|.k 8 rfl<|.k 9 rfl<|.k 10 rfl<|.nil), (.k 0 rfl<|.nil), ?_⟩)
    refine zR ?_
    exact JN_again (c + 1, (g11 61)) (by exact (by show _ + (c + 1) ≤ _; rw [List.length_append, List.length_replicate] at h3; omega)) (by show _ - (_ + (c + 1)) < _; rw [List.length_append, List.length_replicate] at h3; omega) (To.pick (fun _ => .sub (t := 10) rfl (sp_eq (by rfl))<|.k 0 rfl<|.k 8 rfl<|.k 9 rfl<|.nil) (fun _ => .sub 0 rfl ((res_eq (by rw [← pad_suc]; try rfl)))<|.nil) (ks := [0]) rfl)
   ·try simp only [cmpB, Z] at h3
    have hIe := h3
    rw [List.length_append, List.length_replicate] at hIe
    obtain ⟨U, hU⟩ : ∃ U, U = limbs (X * 2 ^ S) ++ List.replicate c 0 := ⟨_, rfl⟩
    have hUl : U.length = m + (limbs (Y * 2 ^ S)).length := by rw [hU, List.length_append, List.length_replicate]; omega
    have hUd : Dig U := by rw [hU]; exact dig_pad (limbs_dig _) c
    have hUm : magI U = ((X * 2 ^ S : Nat) : Int) := by rw [hU, magI_pad, limbs_mag]
    obtain ⟨d, hd⟩ : ∃ d, d = limbs (Y * 2 ^ S) := ⟨_, rfl⟩
    have hdd : Dig d := by rw [hd]; exact limbs_dig _
    have hdm : magI d = ((Y * 2 ^ S : Nat) : Int) := by rw [hd, limbs_mag]
    have hdl : d.length = N + 2 := by rw [hd]; exact hlD
    have hD0 : 0 < magI d := by rw [hdm]; exact Int.ofNat_lt.2 (Nat.mul_pos hY0 (Nat.two_pow_pos S))
    have hdt : 2147483648 ≤ d.getD (N + 1) 0 := by rw [hd]; exact htop
    have gdt := hdd.at (k := N + 1) (by omega)
    have gdx := hdd.at (k := ((d.length : Int) - 1).toNat) (by omega)
    have gd2 := hdd.at (k := N) (by omega)
    rw [← hd] at hUl
    have hRl : (List.replicate ((U.length : Int) - (d.length : Int)).toNat (0 : Int)).length = m := by rw [List.length_replicate]; omega
    refine J_exit ?_
    refine zE ?_
    refine zE ?_
    refine zS ?_
    refine zC ?_
    refine J_to (To.slot 9 rfl (q := ils .u32 d) (sb_eq (by rw [hsy, ← hd]))) ?_
    refine J_to (To.res 0 (r' := som sv (inp .u32) U 132) rfl (res_eq (by rw [hU])) rfl) ?_
    refine zF (zG [] (.n (zA (.t rfl))<|.n (op_len_m sl86 (.t rfl))<|.n (zB (.t rfl))<|.nil) ff rfl fun g12 => ⟨_, _, [0], rfl, (.k 8 rfl<|.k 9 rfl<|.k 10 rfl<|.k 11 rfl<|.nil), (.k 0 rfl<|.nil), ?_⟩)
    refine zC ?_
    refine J_to (To.emps 1) ?_
    refine zF (zG [] (.n (zA (.t rfl))<|.r 0 (op_len_som 0 sl86 (.t rfl) rfl)<|.n (zA (.t rfl))<|.n (op_sub (.t rfl) (.t rfl) (zO (by omega) (by omega)))<|.w 1 (op_make_m (mk := inp .u32) 0 1 sl86 zr132 rfl (fun _ => ⟨rfl, rfl⟩) (.t rfl) (.t rfl) (by omega) (by omega) (by omega) (by omega) rfl)<|.n (op_assign_ve rfl rfl)<|.nil) ff rfl fun g13 => ⟨_, _, [0, 1], rfl, (.k 8 rfl<|.k 9 rfl<|.k 10 rfl<|.k 11 rfl<|.k 12 rfl<|.nil), (.k 0 rfl<|.k 1 rfl<|.nil), ?_⟩)
    refine zC ?_
    refine zF (zG [] (.n (zA (.t rfl))<|.n (zA (.t rfl))<|.n (op_sub (.t rfl) (.k rfl) (zO (by omega) (by omega)))<|.n (op_index_m 0 sl86 (.t rfl) (.t rfl) (by omega) (by omega))<|.n (op_load_sc sc132 (.t rfl) rfl)<|.n (op_conv_int it132 it37 (.t rfl) (wr64 gdx.1 (by omega)))<|.n (zB (.t rfl))<|.nil) ff rfl fun g14 => ⟨_, _, [0, 1], rfl, (.k 8 rfl<|.k 9 rfl<|.k 10 rfl<|.k 11 rfl<|.k 12 rfl<|.k 13 rfl<|.nil), (.k 0 rfl<|.k 1 rfl<|.nil), ?_⟩)
    refine zC ?_
    refine zF ?_
    refine J_to (To.slot 13 rfl (q := isv (.int .u64 (d.getD (N + 1) 0))) (sb_eq (by rw [show ((d.length : Int) - 1).toNat = N + 1 by omega]))) ?_
    refine zF (zG [] (.n (zA (.t rfl))<|.r 1 (op_len_som 1 sl86 (.t rfl) rfl)<|.n (op_sub (.t rfl) (.k rfl) (zO (by omega) (by omega)))<|.n (zB (.t rfl))<|.nil) ff rfl fun g15 => ⟨_, _, [0, 1], rfl, (.k 8 rfl<|.k 9 rfl<|.k 10 rfl<|.k 11 rfl<|.k 12 rfl<|.k 13 rfl<|.k 14 rfl<|.nil), (.k 0 rfl<|.k 1 rfl<|.nil), ?_⟩)
    refine zC ?_
    refine zT ?_
    refine J_loopc (α := Nat × List Int × List Int) (fun x => OveI ((X * 2 ^ S : Nat) : Int) d x.2.1 x.2.2 m x.1) (fun x => x.1) (fun x restR => (14, isv (.int .i64 ((x.1 : Int) - 1))) :: restR) (fun x restS => som sv (inp .u32) x.2.1 132 :: som (g13 68) (inp .u32) x.2.2 132 :: restS) (ρc := [(8, _), (9, _), (10, _), (11, _), (12, _), (13, _)]) (σc := []) (m, U, List.replicate m 0) (by exact (by rw [← hUm]; exact ove_zero hUd hUl (by rw [hUm, hdm]; exact hDB))) (To.pick (fun _ => .sub (t := 14) rfl (sp_eq (by exact congrArg (fun z => isv (.int .i64 z)) (by rw [List.length_replicate]; omega)))<|.k 8 rfl<|.k 9 rfl<|.k 10 rfl<|.k 11 rfl<|.k 12 rfl<|.k 13 rfl<|.nil) (fun _ => .sub 0 rfl ((fun _ _ h => h))<|.sub 1 rfl ((res_eq (by rw [show ((U.length : Int) - (d.length : Int)).toNat = m by omega])))<|.nil) (ks := [0, 1]) rfl) (fun x hI => ?_)
    obtain ⟨k, u, q⟩ := x
    try simp only at hI
    show J _ _ ((14, isv (.int .i64 ((k : Int) - 1))) :: _) (som sv (inp .u32) u 132 :: som (g13 68) (inp .u32) q 132 :: _) _ _
    refine zF ?_
    refine zF (zG [] (.n (zA (.t rfl))<|.n (op_cmp (by simp) (.t rfl) (.k rfl) rfl)<|.nil) ff rfl fun g16 => ⟨_, _, [0, 1], rfl, (.k 8 rfl<|.k 9 rfl<|.k 10 rfl<|.k 11 rfl<|.k 12 rfl<|.k 13 rfl<|.k 14 rfl<|.k 79 rfl<|.nil), (.k 0 rfl<|.k 1 rfl<|.nil), ?_⟩)
    refine zC ?_
    refine zH (zK (.t rfl)) (fun h4 => ?_) (fun h4 => ?_)
    ·try simp only [cmpB, Z] at h4
     obtain ⟨j, rfl⟩ : ∃ j, k = j + 1 := ⟨k - 1, by omega⟩
     have hIk := hI.hk
     have hIu := hI.hul
     have hIq := hI.hql
     have hIud := hI.hud
     have ej : (((j + 1 : Nat) : Int) - 1).toNat = j := by omega
     have gu0 := hIud.at (k := j + (N + 2)) (by omega)
     have gu1 := hIud.at (k := j + (N + 1)) (by omega)
     have gu2 := hIud.at (k := j + N) (by omega)
     obtain ⟨hWe, hW0, hW1, _, _⟩ := ove_W hdd hI (by omega)
     have hDW := ove_div hdd hI (by omega) hdl hdt
     obtain ⟨T, hT⟩ : ∃ T, T = u.getD (j + (N + 2)) 0 * 4294967296 + u.getD (j + (N + 1)) 0 := ⟨_, rfl⟩
     obtain ⟨Q, hQ⟩ : ∃ Q, Q = segI u j (d.length + 1) / magI d := ⟨_, rfl⟩
     rw [← hT] at hDW
     have hT0 := try_zero hDW
     have hTn : 0 ≤ T ∧ T < 18446744073709551616 := by omega
     obtain ⟨hOs, hQ0, hQ1⟩ := ove_step hdd hI (by omega) hD0
     rw [← hQ] at hT0 hQ0 hQ1 hOs
     have rr0 := Int.emod_nonneg T (show d.getD (N + 1) 0 ≠ 0 by omega)
     have rr1 := Int.emod_lt_of_pos T (show 0 < d.getD (N + 1) 0 by omega)
     have hQD : Q = segI u j (d.length + 1) / magI d := hQ
     refine J_skip ?_
     refine zC ?_
     refine zF ?_
     refine zT ?_
     refine J_to (To.slot 14 rfl (q := isv (.int .i64 (j : Int))) (sb_eq (by rw [show (((j + 1 : Nat) : Int) - 1) = (j : Int) by omega]))) ?_
     have e0 : ((j : Int) + (d.length : Int)).toNat = j + (N + 2) := by omega
     have e1 : ((j : Int) + (d.length : Int) - 1).toNat = j + (N + 1) := by omega
     have e2 : ((j : Int) + (d.length : Int) - 2).toNat = j + N := by omega
     have e3 : ((d.length : Int) - 2).toNat = N := by omega
     have gu0e := gu0
     rw [← e0] at gu0e
     have gu1e := gu1
     rw [← e1] at gu1e
     have gu2e := gu2
     rw [← e2] at gu2e
     have gd2e := gd2
     rw [← e3] at gd2e
     refine zF (zG [[], [], [], [1, 2], [0, 1, 2, 3], [0, 1, 2, 3, 4], [0, 1, 2, 3, 4, 5], [0, 1, 2, 3, 4, 5, 6], [], [], [], [9, 10], [9, 10, 11], [8, 9, 10, 11, 12], [8, 9, 10, 11, 12, 13], [8, 9, 10, 11, 12, 13, 14], [0, 1, 2, 3, 4, 5, 6, 7, 8, 9, 10, 11, 12, 13, 14, 15], [0, 1, 2, 3, 4, 5, 6, 7, 8, 9, 10, 11, 12, 13, 14, 15, 16]] (.n (zA (.t rfl))<|.n (zA (.t rfl))<|.n (zA (.t rfl))<|.n (op_add (.t rfl) (.t rfl) (zO (by omega) (by omega)))<|.r 0 (op_index_som 0 sl86 (.t rfl) (.t rfl) rfl (by omega) (by omega))<|.r 0 (op_get_som 0 0 sc132 (.t rfl) rfl (by omega))<|.n (op_conv_int it132 it37 (.t rfl) (wr64 gu0e.1 (by omega)))<|.n (op_shl (.t rfl) (.k rfl) (by omega) rfl)<|.n (zA (.t rfl))<|.n (zA (.t rfl))<|.n (zA (.t rfl))<|.n (op_add (.t rfl) (.t rfl) (zO (by omega) (by omega)))<|.n (op_sub (.t rfl) (.k rfl) (zO (by omega) (by omega)))<|.r 0 (op_index_som 0 sl86 (.t rfl) (.t rfl) rfl (by omega) (by omega))<|.r 0 (op_get_som 0 0 sc132 (.t rfl) rfl (by omega))<|.n (op_conv_int it132 it37 (.t rfl) (wr64 gu1e.1 (by omega)))<|.n (op_bits (by simp) (.t rfl) (.t rfl) ((hi64 gu0e gu1e).trans (show _ = T by rw [hT, e0, e1])))<|.n (zB (.t rfl))<|.nil) (fun _ => mixed) rfl fun g17 => ⟨_, _, [0, 1], rfl, (.k 8 rfl<|.k 9 rfl<|.k 10 rfl<|.k 11 rfl<|.k 12 rfl<|.k 13 rfl<|.k 14 rfl<|.k 15 rfl<|.nil), (.k 0 rfl<|.k 1 rfl<|.nil), ?_⟩)
     refine zC ?_
     refine zF (zG [] (.n (zA (.t rfl))<|.n (zA (.t rfl))<|.n (op_quo (.t rfl) (.t rfl) (by omega) (quo64 hTn.1 hTn.2 (by omega)))<|.n (zB (.t rfl))<|.nil) ff rfl fun g18 => ⟨_, _, [0, 1], rfl, (.k 8 rfl<|.k 9 rfl<|.k 10 rfl<|.k 11 rfl<|.k 12 rfl<|.k 13 rfl<|.k 14 rfl<|.k 15 rfl<|.k 16 rfl<|.nil), (.k 0 rfl<|.k 1 rfl<|.nil), ?_⟩)
     refine zC ?_
     refine zF (zG [] (.n (zA (.t rfl))<|.n (zA (.t rfl))<|.n (op_rem (.t rfl) (.t rfl) (by omega) (rem64 hTn.1))<|.n (zB (.t rfl))<|.nil) ff rfl fun g19 => ⟨_, _, [0, 1], rfl, (.k 8 rfl<|.k 9 rfl<|.k 10 rfl<|.k 11 rfl<|.k 12 rfl<|.k 13 rfl<|.k 14 rfl<|.k 16 rfl<|.k 17 rfl<|.nil), (.k 0 rfl<|.k 1 rfl<|.nil), ?_⟩)
     refine zC ?_
     refine zF ?_
     refine zT ?_
     refine J_loopc (α := Int × Int) (fun z => TryI T (d.getD (N + 1) 0) (d.getD N 0) (u.getD (j + N) 0) Q z.1 z.2 ∧ z.2 < 4294967296) (fun z => (4294967296 - z.2).toNat) (fun z restR => (16, isv (.int .u64 z.1)) :: (17, isv (.int .u64 z.2)) :: restR) (fun z restS => restS) (ρc := [(8, _), (9, _), (10, _), (11, _), (12, _), (13, _), (14, _)]) (σc := [_, _]) (T / d.getD (N + 1) 0, T % d.getD (N + 1) 0) (by exact ⟨hT0, by show T % _ < _; omega⟩) (To.pick (fun _ => .sub (t := 16) rfl (sp_eq (by rfl))<|.sub (t := 17) rfl (sp_eq (by rfl))<|.k 8 rfl<|.k 9 rfl<|.k 10 rfl<|.k 11 rfl<|.k 12 rfl<|.k 13 rfl<|.k 14 rfl<|.nil) (fun _ => .k 0 rfl<|.k 1 rfl<|.nil) (ks := [0, 1]) rfl) (fun z hJ => ?_)
     obtain ⟨g, r⟩ := z
     try simp only at hJ
     show J _ _ ((16, isv (.int .u64 g)) :: (17, isv (.int .u64 r)) :: _) (_) _ _
     obtain ⟨hJ1, hJ2⟩ := hJ
     have hJq := hJ1.hq
     have hJg := hJ1.hg
     have hr0 := hJ1.hr
     have hg0 : 0 ≤ g := by omega
     refine zF ?_
     refine zF (zG [[], [0], [0, 1], [0, 1, 2], [0, 1, 2], [0, 1, 2], [0, 1, 2, 5], [0, 1, 2, 4, 5, 6], [0, 1, 2, 4, 5, 6, 7], [0, 1, 2, 4, 5, 6, 7, 8], [0, 1, 2, 3, 4, 5, 6, 7, 8, 9], [0, 1, 2], [0, 1, 2, 11], [0, 1, 2], [0, 1, 2], [0, 1, 2], [0, 1, 2, 14, 15], [0, 1, 2, 14, 15, 16], [0, 1, 2, 13, 14, 15, 16, 17], [0, 1, 2, 13, 14, 15, 16, 17, 18], [0, 1, 2, 13, 14, 15, 16, 17, 18, 19], [0, 1, 2, 11, 12, 13, 14, 15, 16, 17, 18, 19, 20], [0, 1, 2, 3, 4, 5, 6, 7, 8, 9, 10, 11, 12, 13, 14, 15, 16, 17, 18, 19, 20, 21], [0, 1, 2, 3, 4, 5, 6, 7, 8, 9, 10, 11, 12, 13, 14, 15, 16, 17, 18, 19, 20, 21, 22]] (.n (zA (.t rfl))<|.n (op_cmp (by simp) (.t rfl) (.k rfl) rfl)<|.n (zA (.t rfl))<|.n (op_guard rfl rfl (gd_b rfl) (fun hC => (zA (.t rfl))))<|.n (op_guard rfl rfl (gd_b rfl) (fun hC => (zA (.t rfl))))<|.n (op_guard rfl rfl (gd_b rfl) (fun hC => (zA (.t rfl))))<|.n (op_guard rfl rfl (gd_b rfl) (fun hC => (op_sub (.w rfl hC) (.k rfl) (zO (by omega) (by omega)))))<|.n (op_guard rfl rfl (gd_b rfl) (fun hC => (op_index_m 0 sl86 (.w rfl hC) (.w rfl hC) (by omega) (by omega))))<|.n (op_guard rfl rfl (gd_b rfl) (fun hC => (op_load_sc sc132 (.w rfl hC) rfl)))<|.n (op_guard rfl rfl (gd_b rfl) (fun hC => (op_conv_int it132 it37 (.w rfl hC) (wr64 gd2e.1 (by omega)))))<|.n (op_guard rfl rfl (gd_b rfl) (fun hC => (op_mul (.w rfl hC) (.w rfl hC) (gd_mul hC hg0 gd2e))))<|.n (op_guard rfl rfl (gd_b rfl) (fun hC => (zA (.t rfl))))<|.n (op_guard rfl rfl (gd_b rfl) (fun hC => (op_shl (.w rfl hC) (.k rfl) (by omega) rfl)))<|.n (op_guard rfl rfl (gd_b rfl) (fun hC => (zA (.t rfl))))<|.n (op_guard rfl rfl (gd_b rfl) (fun hC => (zA (.t rfl))))<|.n (op_guard rfl rfl (gd_b rfl) (fun hC => (zA (.t rfl))))<|.n (op_guard rfl rfl (gd_b rfl) (fun hC => (op_add (.w rfl hC) (.w rfl hC) (zO (by omega) (by omega)))))<|.n (op_guard rfl rfl (gd_b rfl) (fun hC => (op_sub (.w rfl hC) (.k rfl) (zO (by omega) (by omega)))))<|.r 0 (op_guard rfl rfl (gd_b rfl) (fun hC => (op_index_som 0 sl86 (.w rfl hC) (.w rfl hC) rfl (by omega) (by omega))))<|.r 0 (op_guard rfl rfl (gd_b rfl) (fun hC => (op_get_som 0 0 sc132 (.w rfl hC) rfl (by omega))))<|.n (op_guard rfl rfl (gd_b rfl) (fun hC => (op_conv_int it132 it37 (.w rfl hC) (wr64 gu2e.1 (by omega)))))<|.n (op_guard rfl rfl (gd_b rfl) (fun hC => (op_bits (by simp) (.w rfl hC) (.w rfl hC) (hi64 ⟨hr0, hJ2⟩ gu2e))))<|.n (op_guard rfl rfl (gd_b rfl) (fun hC => (op_cmp (by simp) (.w rfl hC) (.w rfl hC) rfl)))<|.n (op_or (.t rfl) (fun h2 => (.w rfl h2)))<|.nil) (fun _ => mixed) rfl fun g20 => ⟨_, _, [0, 1], rfl, (.k 8 rfl<|.k 9 rfl<|.k 10 rfl<|.k 11 rfl<|.k 12 rfl<|.k 13 rfl<|.k 14 rfl<|.k 16 rfl<|.k 17 rfl<|.k 128 rfl<|.nil), (.k 0 rfl<|.k 1 rfl<|.nil), ?_⟩)
     refine zC ?_
     refine zH (zK (.t rfl)) (fun h5 => ?_) (fun h5 => ?_)
     ·have h5' := h5
      try simp only [cmpB, Z] at h5
      have hTs : TryI T (d.getD (N + 1) 0) (d.getD N 0) (u.getD (j + N) 0) Q (g - 1) (r + d.getD (N + 1) 0) := by have h := try_step hDW (by rw [← hQD]; exact hJ1) (by have h := h5'; rw [e2, e3] at h; simpa [cmpB] using h); rw [← hQD] at h; exact h
      have hTsq := hTs.hq
      refine J_skip ?_
      refine zC ?_
      refine zT ?_
      refine zF (zG [] (.n (zA (.t rfl))<|.n (op_sub (.t rfl) (.k rfl) (wr64 (by omega) (by omega)))<|.n (zB (.t rfl))<|.nil) ff rfl fun g21 => ⟨_, _, [0, 1], rfl, (.k 8 rfl<|.k 9 rfl<|.k 10 rfl<|.k 11 rfl<|.k 12 rfl<|.k 13 rfl<|.k 14 rfl<|.k 16 rfl<|.k 17 rfl<|.nil), (.k 0 rfl<|.k 1 rfl<|.nil), ?_⟩)
      refine zC ?_
      refine zF (zG [] (.n (zA (.t rfl))<|.n (zA (.t rfl))<|.n (op_add (.t rfl) (.t rfl) (wr64 (by omega) (by omega)))<|.n (zB (.t rfl))<|.nil) ff rfl fun g22 => ⟨_, _, [0, 1], rfl, (.k 8 rfl<|.k 9 rfl<|.k 10 rfl<|.k 11 rfl<|.k 12 rfl<|.k 13 rfl<|.k 14 rfl<|.k 16 rfl<|.k 17 rfl<|.nil), (.k 0 rfl<|.k 1 rfl<|.nil), ?_⟩)
      refine zC ?_
      refine zF (zG [] (.n (zA (.t rfl))<|.n (op_cmp (by simp) (.t rfl) (.k rfl) rfl)<|.nil) ff rfl fun g23 => ⟨_, _, [0, 1], rfl, (.k 8 rfl<|.k 9 rfl<|.k 10 rfl<|.k 11 rfl<|.k 12 rfl<|.k 13 rfl<|.k 14 rfl<|.k 16 rfl<|.k 17 rfl<|.k 135 rfl<|.nil), (.k 0 rfl<|.k 1 rfl<|.nil), ?_⟩)
      refine zC ?_
      refine zH (zK (.t rfl)) (fun h6 => ?_) (fun h6 => ?_)
      ·have h6' := h6
       try simp only [cmpB, Z] at h6
       have hgd : g - 1 ≤ Q + 1 := by have h := try_done hDW (by rw [← hQD]; exact hTs) (by omega) (.inl (by have h := h6'; simp [cmpB] at h; omega)); rw [← hQD] at h; exact h
       have hV := lesV_q (u := u) (d := d) (j := j) hD0 (g := g - 1) hW1 hW0 (by rw [← hQD]; exact hTsq) (by rw [← hQD]; exact hgd)
       rw [← hQD] at hV
       have hll : (lesL u d j (g - 1)).length = u.length := putI_len (by omega)
       refine J_exit ?_
       refine JN_exit_on rfl ?_
       refine zE ?_
       refine zS ?_
       refine zC ?_
       refine zF ?_
       refine zF (zG [] (.n (zA (.t rfl))<|.n (zA (.t rfl))<|.n (zA (.t rfl))<|.n (zA (.t rfl))<|.w 0 (op_callM 0 (less_ok hIud hdd (by omega) (by omega) (by omega) (by omega)) ⟨(.t rfl), (.t rfl), (.t rfl), (.t rfl),  trivial⟩ rfl)<|.nil) ff rfl fun g24 => ⟨_, _, [0, 1], rfl, (.k 8 rfl<|.k 9 rfl<|.k 10 rfl<|.k 11 rfl<|.k 12 rfl<|.k 13 rfl<|.k 14 rfl<|.k 16 rfl<|.k 140 rfl<|.nil), (.k 0 rfl<|.k 1 rfl<|.nil), ?_⟩)
       refine zC ?_
       refine zH (zK (.t rfl)) (fun h7 => ?_) (fun h7 => ?_)
       ·have h7' := h7
        try simp only [cmpB, Z] at h7
        have hneg := of_decide_eq_true h7'
        have hgQ := hV.1.1 hneg
        have hve := hV.2.2 hneg
        refine zF (zG [] (.n (zA (.t rfl))<|.n (op_sub (.t rfl) (.k rfl) (wr64 (by omega) (by omega)))<|.n (zB (.t rfl))<|.nil) ff rfl fun g25 => ⟨_, _, [0, 1], rfl, (.k 8 rfl<|.k 9 rfl<|.k 10 rfl<|.k 11 rfl<|.k 12 rfl<|.k 13 rfl<|.k 14 rfl<|.k 16 rfl<|.nil), (.k 0 rfl<|.k 1 rfl<|.nil), ?_⟩)
        refine zC ?_
        refine (zG [] (.n (zA (.t rfl))<|.n (zA (.t rfl))<|.n (zA (.t rfl))<|.w 0 (op_callM 0 (more_ok (putI_dig hIud _ _ _) hdd (by rw [putI_len (by omega)]; omega) (by rw [putI_len (by omega)]; omega)) ⟨(.t rfl), (.t rfl), (.t rfl),  trivial⟩ rfl)<|.nil) ff rfl fun g26 => ⟨_, _, [0, 1], rfl, (.k 8 rfl<|.k 9 rfl<|.k 10 rfl<|.k 11 rfl<|.k 12 rfl<|.k 13 rfl<|.k 14 rfl<|.k 16 rfl<|.nil), (.k 0 rfl<|.k 1 rfl<|.nil), ?_⟩)
        refine zC ?_
        refine (zG [] (.n (zA (.t rfl))<|.n (zA (.t rfl))<|.n (zA (.t rfl))<|.n (op_conv_int it37 it132 (.t rfl) (wr32s (by omega) (by omega)))<|.r 1 (op_index_som 1 sl86 (.t rfl) (.t rfl) rfl (by omega) (by omega))<|.w 1 (op_store_som (mk := inp .u32) 1 (.t rfl) (.t rfl) co_inp sz132 rfl (by omega))<|.nil) ff rfl fun g27 => ⟨_, _, [0, 1], rfl, (.k 8 rfl<|.k 9 rfl<|.k 10 rfl<|.k 11 rfl<|.k 12 rfl<|.k 13 rfl<|.k 14 rfl<|.nil), (.k 0 rfl<|.k 1 rfl<|.nil), ?_⟩)
        refine zR ?_
        refine zC ?_
        refine (zG [] (.n (zA (.t rfl))<|.n (op_sub (.t rfl) (.k rfl) (zO (by omega) (by omega)))<|.n (zB (.t rfl))<|.nil) ff rfl fun g28 => ⟨_, _, [0, 1], rfl, (.k 8 rfl<|.k 9 rfl<|.k 10 rfl<|.k 11 rfl<|.k 12 rfl<|.k 13 rfl<|.k 14 rfl<|.nil), (.k 0 rfl<|.k 1 rfl<|.nil), ?_⟩)
        exact JN_again (j, putI u j (d.length + 1) (segI u j (d.length + 1) % magI d), q.set j Q) (by exact hOs) (by show j < j + 1; omega) (To.pick (fun _ => .sub (t := 14) rfl (sp_eq (by rfl))<|.k 8 rfl<|.k 9 rfl<|.k 10 rfl<|.k 11 rfl<|.k 12 rfl<|.k 13 rfl<|.nil) (fun _ => .sub 0 rfl ((res_eq (by first | exact congrArg (fun z => som _ (inp .u32) z _) (ove_more hdd hD0 hIud (by omega) hneg hve) | exact congrArg (fun z => som _ (inp .u32) z _) (ove_les (by omega) hneg hve))))<|.sub 1 rfl ((res_eq (by rw [show ((j : Nat) : Int).toNat = j by omega]; exact congrArg (fun z => som _ (inp .u32) (q.set j z) _) (by omega))))<|.nil) (ks := [0, 1]) rfl)
       ·have h7' := h7
        try simp only [cmpB, Z] at h7
        have hneg := of_decide_eq_false h7'
        obtain ⟨hgQ, hve⟩ := hV.2.1 hneg
        refine J_skip ?_
        refine zC ?_
        refine (zG [] (.n (zA (.t rfl))<|.n (zA (.t rfl))<|.n (zA (.t rfl))<|.n (op_conv_int it37 it132 (.t rfl) (wr32s (by omega) (by omega)))<|.r 1 (op_index_som 1 sl86 (.t rfl) (.t rfl) rfl (by omega) (by omega))<|.w 1 (op_store_som (mk := inp .u32) 1 (.t rfl) (.t rfl) co_inp sz132 rfl (by omega))<|.nil) ff rfl fun g29 => ⟨_, _, [0, 1], rfl, (.k 8 rfl<|.k 9 rfl<|.k 10 rfl<|.k 11 rfl<|.k 12 rfl<|.k 13 rfl<|.k 14 rfl<|.nil), (.k 0 rfl<|.k 1 rfl<|.nil), ?_⟩)
        refine zR ?_
        refine zC ?_
        refine (zG [] (.n (zA (.t rfl))<|.n (op_sub (.t rfl) (.k rfl) (zO (by omega) (by omega)))<|.n (zB (.t rfl))<|.nil) ff rfl fun g30 => ⟨_, _, [0, 1], rfl, (.k 8 rfl<|.k 9 rfl<|.k 10 rfl<|.k 11 rfl<|.k 12 rfl<|.k 13 rfl<|.k 14 rfl<|.nil), (.k 0 rfl<|.k 1 rfl<|.nil), ?_⟩)
        exact JN_again (j, putI u j (d.length + 1) (segI u j (d.length + 1) % magI d), q.set j Q) (by exact hOs) (by show j < j + 1; omega) (To.pick (fun _ => .sub (t := 14) rfl (sp_eq (by rfl))<|.k 8 rfl<|.k 9 rfl<|.k 10 rfl<|.k 11 rfl<|.k 12 rfl<|.k 13 rfl<|.nil) (fun _ => .sub 0 rfl ((res_eq (by first | exact congrArg (fun z => som _ (inp .u32) z _) (ove_more hdd hD0 hIud (by omega) hneg hve) | exact congrArg (fun z => som _ (inp .u32) z _) (ove_les (by omega) hneg hve))))<|.sub 1 rfl ((res_eq (by rw [show ((j : Nat) : Int).toNat = j by omega]; exact congrArg (fun z => som _ (inp .u32) (q.set j z) _) (by omega))))<|.nil) (ks := [0, 1]) rfl)
      ·have h6' := h6
       try simp only [cmpB, Z] at h6
       refine J_skip ?_
       refine zR ?_
       exact JN_again (g - 1, r + d.getD (N + 1) 0) (by exact ⟨hTs, by show r + _ < _; omega⟩) (by show (4294967296 - (r + d.getD (N + 1) 0)).toNat < (4294967296 - r).toNat; omega) (To.pick (fun _ => .sub (t := 16) rfl (sp_eq (by rfl))<|.sub (t := 17) rfl (sp_eq (by rfl))<|.k 8 rfl<|.k 9 rfl<|.k 10 rfl<|.k 11 rfl<|.k 12 rfl<|.k 13 rfl<|.k 14 rfl<|.nil) (fun _ => .k 0 rfl<|.k 1 rfl<|.nil) (ks := [0, 1]) rfl)
     ·have h5' := h5
      try simp only [cmpB, Z] at h5
      have hgd : g ≤ Q + 1 := by have h := try_done hDW (by rw [← hQD]; exact hJ1) (by have h := h5'; simp [cmpB] at h; omega) (.inr (by have h := h5'; rw [e2, e3] at h; simp only [cmpB, Bool.or_eq_false_iff, decide_eq_false_iff_not] at h; have h := h.2; omega)); rw [← hQD] at h; exact h
      have hgb : g ≤ 4294967296 := by have h := h5'; simp [cmpB] at h; omega
      have hV := lesV_q (u := u) (d := d) (j := j) hD0 (g := g) hW1 hW0 (by rw [← hQD]; exact hJq) (by rw [← hQD]; exact hgd)
      rw [← hQD] at hV
      have hll : (lesL u d j g).length = u.length := putI_len (by omega)
      refine J_exit ?_
      refine zE ?_
      refine zE ?_
      refine zS ?_
      refine zC ?_
      refine zF ?_
      refine zF (zG [] (.n (zA (.t rfl))<|.n (zA (.t rfl))<|.n (zA (.t rfl))<|.n (zA (.t rfl))<|.w 0 (op_callM 0 (less_ok hIud hdd (by omega) (by omega) (by omega) (by omega)) ⟨(.t rfl), (.t rfl), (.t rfl), (.t rfl),  trivial⟩ rfl)<|.nil) ff rfl fun g31 => ⟨_, _, [0, 1], rfl, (.k 8 rfl<|.k 9 rfl<|.k 10 rfl<|.k 11 rfl<|.k 12 rfl<|.k 13 rfl<|.k 14 rfl<|.k 16 rfl<|.k 140 rfl<|.nil), (.k 0 rfl<|.k 1 rfl<|.nil), ?_⟩)
      refine zC ?_
      refine zH (zK (.t rfl)) (fun h8 => ?_) (fun h8 => ?_)
      ·have h8' := h8
       try simp only [cmpB, Z] at h8
       have hneg := of_decide_eq_true h8'
       have hgQ := hV.1.1 hneg
       have hve := hV.2.2 hneg
       refine zF (zG [] (.n (zA (.t rfl))<|.n (op_sub (.t rfl) (.k rfl) (wr64 (by omega) (by omega)))<|.n (zB (.t rfl))<|.nil) ff rfl fun g32 => ⟨_, _, [0, 1], rfl, (.k 8 rfl<|.k 9 rfl<|.k 10 rfl<|.k 11 rfl<|.k 12 rfl<|.k 13 rfl<|.k 14 rfl<|.k 16 rfl<|.nil), (.k 0 rfl<|.k 1 rfl<|.nil), ?_⟩)
       refine zC ?_
       refine (zG [] (.n (zA (.t rfl))<|.n (zA (.t rfl))<|.n (zA (.t rfl))<|.w 0 (op_callM 0 (more_ok (putI_dig hIud _ _ _) hdd (by rw [putI_len (by omega)]; omega) (by rw [putI_len (by omega)]; omega)) ⟨(.t rfl), (.t rfl), (.t rfl),  trivial⟩ rfl)<|.nil) ff rfl fun g33 => ⟨_, _, [0, 1], rfl, (.k 8 rfl<|.k 9 rfl<|.k 10 rfl<|.k 11 rfl<|.k 12 rfl<|.k 13 rfl<|.k 14 rfl<|.k 16 rfl<|.nil), (.k 0 rfl<|.k 1 rfl<|.nil), ?_⟩)
       refine zC ?_
       refine (zG [] (.n (zA (.t rfl))<|.n (zA (.t rfl))<|.n (zA (.t rfl))<|.n (op_conv_int it37 it132 (.t rfl) (wr32s (by omega) (by omega)))<|.r 1 (op_index_som 1 sl86 (.t rfl) (.t rfl) rfl (by omega) (by omega))<|.w 1 (op_store_som (mk := inp .u32) 1 (.t rfl) (.t rfl) co_inp sz132 rfl (by omega))<|.nil) ff rfl fun g34 => ⟨_, _, [0, 1], rfl, (.k 8 rfl<|.k 9 rfl<|.k 10 rfl<|.k 11 rfl<|.k 12 rfl<|.k 13 rfl<|.k 14 rfl<|.nil), (.k 0 rfl<|.k 1 rfl<|.nil), ?_⟩)
       refine zR ?_
       refine zC ?_
       refine (zG [] (.n (zA (.t rfl))<|.n (op_sub (.t rfl) (.k rfl) (zO (by omega) (by omega)))<|.n (zB (.t rfl))<|.nil) ff rfl fun g35 => ⟨_, _, [0, 1], rfl, (.k 8 rfl<|.k 9 rfl<|.k 10 rfl<|.k 11 rfl<|.k 12 rfl<|.k 13 rfl<|.k 14 rfl<|.nil), (.k 0 rfl<|.k 1 rfl<|.nil), ?_⟩)
       exact JN_again (j, putI u j (d.length + 1) (segI u j (d.length + 1) % magI d), q.set j Q) (by exact hOs) (by show j < j + 1; omega) (To.pick (fun _ => .sub (t := 14) rfl (sp_eq (by rfl))<|.k 8 rfl<|.k 9 rfl<|.k 10 rfl<|.k 11 rfl<|.k 12 rfl<|.k 13 rfl<|.nil) (fun _ => .sub 0 rfl ((res_eq (by first | exact congrArg (fun z => som _ (inp .u32) z _) (ove_more hdd hD0 hIud (by omega) hneg hve) | exact congrArg (fun z => som _ (inp .u32) z _) (ove_les (by omega) hneg hve))))<|.sub 1 rfl ((res_eq (by rw [show ((j : Nat) : Int).toNat = j by omega]; exact congrArg (fun z => som _ (inp .u32) (q.set j z) _) (by omega))))<|.nil) (ks := [0, 1]) rfl)
      ·have h8' := h8
       try simp only [cmpB, Z] at h8
       have hneg := of_decide_eq_false h8'
       obtain ⟨hgQ, hve⟩ := hV.2.1 hneg
       refine J_skip ?_
       refine zC ?_
       refine (zG [] (.n (zA (.t rfl))<|.n (zA (.t rfl))<|.n (zA (.t rfl))<|.n (op_conv_int it37 it132 (.t rfl) (wr32s (by omega) (by omega)))<|.r 1 (op_index_som 1 sl86 (.t rfl) (.t rfl) rfl (by omega) (by omega))<|.w 1 (op_store_som (mk := inp .u32) 1 (.t rfl) (.t rfl) co_inp sz132 rfl (by omega))<|.nil) ff rfl fun g36 => ⟨_, _, [0, 1], rfl, (.k 8 rfl<|.k 9 rfl<|.k 10 rfl<|.k 11 rfl<|.k 12 rfl<|.k 13 rfl<|.k 14 rfl<|.nil), (.k 0 rfl<|.k 1 rfl<|.nil), ?_⟩)
       refine zR ?_
       refine zC ?_
       refine (zG [] (.n (zA (.t rfl))<|.n (op_sub (.t rfl) (.k rfl) (zO (by omega) (by omega)))<|.n (zB (.t rfl))<|.nil) ff rfl fun g37 => ⟨_, _, [0, 1], rfl, (.k 8 rfl<|.k 9 rfl<|.k 10 rfl<|.k 11 rfl<|.k 12 rfl<|.k 13 rfl<|.k 14 rfl<|.nil), (.k 0 rfl<|.k 1 rfl<|.nil), ?_⟩)
       exact JN_again (j, putI u j (d.length + 1) (segI u j (d.length + 1) % magI d), q.set j Q) (by exact hOs) (by show j < j + 1; omega) (To.pick (fun _ => .sub (t := 14) rfl (sp_eq (by rfl))<|.k 8 rfl<|.k 9 rfl<|.k 10 rfl<|.k 11 rfl<|.k 12 rfl<|.k 13 rfl<|.nil) (fun _ => .sub 0 rfl ((res_eq (by first | exact congrArg (fun z => som _ (inp .u32) z _) (ove_more hdd hD0 hIud (by omega) hneg hve) | exact congrArg (fun z => som _ (inp .u32) z _) (ove_les (by omega) hneg hve))))<|.sub 1 rfl ((res_eq (by rw [show ((j : Nat) : Int).toNat = j by omega]; exact congrArg (fun z => som _ (inp .u32) (q.set j z) _) (by omega))))<|.nil) (ks := [0, 1]) rfl)
    ·try simp only [cmpB, Z] at h4
     obtain rfl : k = 0 := by omega
     obtain ⟨hq1, hq2, hq3⟩ := ove_done hdd hI hD0
     have hrl : (limbs (magI (u.take d.length)).toNat).length ≤ 400001 := by rw [hq2, hdm, over_r hY0, Int.toNat_natCast]; exact Nat.le_trans (limbs_mono (Nat.mul_le_mul_right _ (Nat.mod_le X Y))) (Nat.le_trans hlU (by omega))
     have hIu := hI.hul
     have hIq := hI.hql
     have hIud := hI.hud
     have hIqd := hI.hqd
     refine J_exit ?_
     refine zE ?_
     refine zE ?_
     refine zS ?_
     refine zC ?_
     refine J_to (To.freeze 0 (fun _ h => h) rfl frz_som rfl) ?_
     refine J_to (To.freeze 1 (fun _ h => h) rfl frz_som rfl) ?_
     refine zF (zG [[], [0], [], [], [2, 3], [0, 1, 2, 3, 4], [], [0, 1, 2, 3, 4, 5, 6], [0, 1, 2, 3, 4, 5, 6, 7], [0, 1, 2, 3, 4, 5, 6, 7, 8]] (.n (zA (.t rfl))<|.n (zP (cut_ok hIqd) ⟨(Lk.sub (sb_fk 0 rfl) (.t rfl)),  trivial⟩)<|.n (zA (.t rfl))<|.n (zA (.t rfl))<|.n (op_slice_mn sl86 (Lk.sub (sb_fk 1 rfl) (.t rfl)) (.t rfl) (by omega) (by omega))<|.n (zP (cut_ok hq3) ⟨(.t rfl),  trivial⟩)<|.n (zA (.t rfl))<|.n (zP (right_ok (limbs_dig _) (by first | omega | exact Nat.le_trans hrl (by omega)) (by omega)) ⟨(.t rfl), (.t rfl),  trivial⟩)<|.n (zB (.t rfl))<|.n (zB (.t rfl))<|.nil) (fun _ => mixed) rfl fun g38 => ⟨_, _, [], rfl, (.k 4 rfl<|.k 5 rfl<|.nil), (.nil), ?_⟩)
     refine zC ?_
     refine J_ret ?_
     refine zQ (.cons (.tmp (.t rfl))<|.cons (.tmp (.t rfl))<|.nil) (zM (sb_res (.cons zL<|.cons zL<|.nil)) ?_)
     exact sb_eq (by rw [hq1, hq2, hdm, over_q hY0, over_r hY0, over_s])
end Go.Proofs.YtjnmgcglooeooaaGreatDoor
