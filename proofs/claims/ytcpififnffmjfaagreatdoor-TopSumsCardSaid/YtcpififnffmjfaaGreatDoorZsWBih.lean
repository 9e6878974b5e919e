/- Printed by a program of ours (walk.py): walks of whole numbers as words of 64 bits. -/
import Derived.Test.YtcpififnffmjfaaGreatDoorZsKb
import Derived.Test.YtcpififnffmjfaaGreatDoorProg
import Derived.KernelRfl
import Derived.Test.YtcpififnffmjfaaGreatDoorZsTypes
import Derived.Test.YtcpififnffmjfaaGreatDoorZsWRef1
import Derived.Test.YtcpififnffmjfaaGreatDoorZsCar
set_option linter.unusedVariables false
set_option linter.unusedSimpArgs false
set_option maxRecDepth 20000
set_option maxHeartbeats 4000000
namespace Go.Proofs.YtcpififnffmjfaaGreatDoor
open Go Go.Bn
attribute [local irreducible] OpOK
theorem addX : Ext Tryz.prog 105 Add64G := ⟨_, Tryz.func105, by kernel_rfl, by kernel_rfl, by kernel_rfl, by kernel_rfl⟩
theorem subX : Ext Tryz.prog 109 Sub64G := ⟨_, Tryz.func109, by kernel_rfl, by kernel_rfl, by kernel_rfl, by kernel_rfl⟩
theorem norm_ok {l : List Int} (hd : DigJ l) : Ct Tryz.prog 89 [ils .u64 l] (ils .u64 (limbsJ (magIJ l).toNat)) := by
 refine Ct.of Tryz.func89 rfl (by kernel_rfl) rfl fun c0 => ?_
 refine J_len 0 rfl fun hlen => ?_
 refine zF (zG [] (.n (zB (.k rfl))<|.nil) ff rfl fun g1 => ⟨_, _, [], rfl, (.k 0 rfl<|.nil), (.nil), ?_⟩)
 refine zC ?_
 refine zF (zG [] (.n (zA (.t rfl))<|.n (op_len_m sl53 (.t rfl))<|.n (zB (.t rfl))<|.nil) ff rfl fun g2 => ⟨_, _, [], rfl, (.k 0 rfl<|.k 3 rfl<|.nil), (.nil), ?_⟩)
 refine zC ?_
 refine zF ?_
 refine zT ?_
 refine J_loopc (α := Nat) (fun k => k ≤ l.length ∧ magIJ (l.take k) = magIJ l) (fun k => k) (fun k restR => (3, isv (.int .i64 (k : Int))) :: restR) (fun k restS => restS) (ρc := [(0, _)]) (σc := []) l.length (by exact ⟨Nat.le_refl _, by rw [List.take_length]⟩) (To.pick (fun _ => .sub (t := 3) rfl (sp_eq (by rfl))<|.k 0 rfl<|.nil) (fun _ => .nil) (ks := []) rfl) (fun k hI => ?_)
 obtain ⟨hk, hm⟩ := hI
 refine zF ?_
 refine zF (zG [] (.n (zA (.t rfl))<|.n (op_cmp (by simp) (.t rfl) (.k rfl) rfl)<|.n (zA (.t rfl))<|.n (op_guard rfl rfl (gd_b rfl) (fun hC => (zA (.t rfl))))<|.n (op_guard rfl rfl (gd_b rfl) (fun hC => (zA (.t rfl))))<|.n (op_guard rfl rfl (gd_b rfl) (fun hC => (op_sub (.w rfl hC) (.k rfl) (zO (by omega) (by omega)))))<|.n (op_guard rfl rfl (gd_b rfl) (fun hC => (op_index_m 0 sl53 (.w rfl hC) (.w rfl hC) (by simp only [cmpB, Bool.and_eq_true, decide_eq_true_eq, beq_iff_eq] at hC; omega) (by simp only [cmpB, Bool.and_eq_true, decide_eq_true_eq, beq_iff_eq] at hC; omega))))<|.n (op_guard rfl rfl (gd_b rfl) (fun hC => (op_load_sc sc38 (.w rfl hC) rfl)))<|.n (op_guard rfl rfl (gd_b rfl) (fun hC => (op_cmp (by simp) (.w rfl hC) (.k rfl) rfl)))<|.n (op_and (.t rfl) (fun h2 => (.w rfl h2)))<|.nil) ff rfl fun g3 => ⟨_, _, [], rfl, (.k 0 rfl<|.k 3 rfl<|.k 15 rfl<|.nil), (.nil), ?_⟩)
 refine zC ?_
 refine zH (zK (.t rfl)) (fun h1 => ?_) (fun h1 => ?_)
 ·try simp only [cmpB, Z] at h1
  have ek : (((k : Nat) : Int) - 1).toNat = k - 1 := by omega
  have hz : l.getD (k - 1) 0 = 0 := by rw [← ek]; exact h1.2
  have hk0 : 0 < k := by have := h1.1; omega
  refine J_skip ?_
  refine zC ?_
  refine zT ?_
  refine (zG [] (.n (zA (.t rfl))<|.n (op_sub (.t rfl) (.k rfl) (zO (by omega) (by omega)))<|.n (zB (.t rfl))<|.nil) ff rfl fun g4 => ⟨_, _, [], rfl, (.k 0 rfl<|.k 3 rfl<|.nil), (.nil), ?_⟩)
  refine zR ?_
  exact JN_again (k - 1) (by exact ⟨by omega, norm_again hk hk0 hz hm⟩) (by omega) (To.pick (fun _ => .sub (t := 3) rfl (sp_eq (by exact congrArg (fun z => isv (.int .i64 z)) (by omega)))<|.k 0 rfl<|.nil) (fun _ => .nil) (ks := []) rfl)
 ·try simp only [cmpB, Z] at h1
  have ek : (((k : Nat) : Int) - 1).toNat = k - 1 := by omega
  refine J_exit ?_
  refine zE ?_
  refine zE ?_
  refine zS ?_
  refine zC ?_
  refine zF (zG [] (.n (zA (.t rfl))<|.n (zA (.t rfl))<|.n (op_slice_mn sl53 (.t rfl) (.t rfl) (by omega) (by omega))<|.n (zB (.t rfl))<|.nil) ff rfl fun g5 => ⟨_, _, [], rfl, (.k 2 rfl<|.nil), (.nil), ?_⟩)
  refine zC ?_
  refine J_ret ?_
  refine zQ (.cons (.tmp (.t rfl))<|.nil) (zM (sb_res1 zL) ?_)
  exact sb_eq (congrArg (fun z => ils .u64 z) (cut_doneJ hd hk hm (by have h9 := h1; rw [ek] at h9; rcases h9 with h9 | h9; exact .inl (by omega); exact .inr h9)))
theorem norm_ok1 {a : Int} (hd : DigJ [a]) : Ct Tryz.prog 89 [slc 1 1 [isv (.int .u64 a)]] (ils .u64 (limbsJ (magIJ [a]).toNat)) := norm_ok (l := [a]) hd
theorem word_ok {n : Nat} (hn : n < 18446744073709551616) : Ct Tryz.prog 81 [isv (.int .u64 (n : Int))] (ils .u64 (limbsJ n)) := by
 refine Ct.of Tryz.func81 rfl (by kernel_rfl) rfl fun c0 => ?_
 refine zF (zG [] (.n (zB (.k rfl))<|.nil) ff rfl fun g1 => ⟨_, _, [], rfl, (.k 0 rfl<|.nil), (.nil), ?_⟩)
 refine zC ?_
 refine zF (zG [] (.n (zA (.t rfl))<|.n (op_buildSlice sl53 zr38 rfl rfl rfl rfl (.cons rfl (.t rfl) co_isv rfl (puts_l rfl (Nat.le_of_ble_eq_true rfl)) .nil))<|.n (zP (norm_ok1 (dig_one1 hn)) ⟨(.t rfl),  trivial⟩)<|.n (zB (.t rfl))<|.nil) ff rfl fun g2 => ⟨_, _, [], rfl, (.k 2 rfl<|.nil), (.nil), ?_⟩)
 refine zC ?_
 refine J_ret ?_
 refine zQ (.cons (.tmp (.t rfl))<|.nil) (zM (sb_res1 zL) ?_)
 exact sb_eq (by rw [magI_oneJ, Int.toNat_natCast])
theorem clone_ok {l : List Int} (hl : l.length ≤ 1000000) : Ct Tryz.prog 82 [ils .u64 l] (ils .u64 l) := by
 refine Ct.of Tryz.func82 rfl (by kernel_rfl) rfl fun c0 => ?_
 refine zF (zG [] (.n (zB (.k rfl))<|.nil) ff rfl fun g1 => ⟨_, _, [], rfl, (.k 0 rfl<|.nil), (.nil), ?_⟩)
 refine zC ?_
 refine zF (zG [] (.n (zA (.t rfl))<|.n (op_append_nil sl53 zr38 rfl (.k rfl) (.t rfl) (by omega) (by omega))<|.n (zB (.t rfl))<|.nil) ff rfl fun g2 => ⟨_, _, [], rfl, (.k 2 rfl<|.nil), (.nil), ?_⟩)
 refine zC ?_
 refine J_ret ?_
 refine zQ (.cons (.tmp (.t rfl))<|.nil) (zM (sb_res1 zL) ?_)
 exact zL
theorem digit_ok {l : List Int} {k : Nat} : Ct Tryz.prog 92 [ils .u64 l, isv (.int .i64 (k : Int))] (isv (.int .u64 (digBJ l k))) := by
 refine Ct.of Tryz.func92 rfl (by kernel_rfl) rfl fun c0 => ?_
 refine J_len 0 rfl fun hlen => ?_
 refine zF (zG [] (.n (zB (.k rfl))<|.nil) ff rfl fun g1 => ⟨_, _, [], rfl, (.k 0 rfl<|.k 1 rfl<|.nil), (.nil), ?_⟩)
 refine zC ?_
 refine zF ?_
 refine zF (zG [] (.n (zA (.t rfl))<|.n (zA (.t rfl))<|.n (op_len_m sl53 (.t rfl))<|.n (op_cmp (by simp) (.t rfl) (.t rfl) rfl)<|.nil) ff rfl fun g2 => ⟨_, _, [], rfl, (.k 0 rfl<|.k 1 rfl<|.k 8 rfl<|.nil), (.nil), ?_⟩)
 refine zC ?_
 refine zH (zK (.t rfl)) (fun h1 => ?_) (fun h1 => ?_)
 ·try simp only [cmpB, Z] at h1
  refine zF (zG [] (.n (zA (.t rfl))<|.n (zA (.t rfl))<|.n (op_index_m 0 sl53 (.t rfl) (.t rfl) (by omega) (by omega))<|.n (op_load_sc sc38 (.t rfl) rfl)<|.n (zB (.t rfl))<|.nil) ff rfl fun g3 => ⟨_, _, [], rfl, (.k 4 rfl<|.nil), (.nil), ?_⟩)
  refine zC ?_
  refine J_ret ?_
  refine zD ?_
  refine zQ (.cons (.tmp (.t rfl))<|.nil) (zM (sb_res1 zL) ?_)
  exact ret_i (by unfold digBJ; rw [if_pos (by omega)]; rfl)
 ·try simp only [cmpB, Z] at h1
  refine J_skip ?_
  refine zC ?_
  refine zF (zG [] (.n (zB (.k rfl))<|.nil) ff rfl fun g4 => ⟨_, _, [], rfl, (.k 4 rfl<|.nil), (.nil), ?_⟩)
  refine zC ?_
  refine J_ret ?_
  refine zQ (.cons (.tmp (.t rfl))<|.nil) (zM (sb_res1 zL) ?_)
  exact ret_i (by unfold digBJ; rw [if_neg (by omega)])
theorem low_ok {n : Nat} : Ct Tryz.prog 70 [ils .u64 (limbsJ n)] (isv (.int .u64 ((n % 18446744073709551616 : Nat) : Int))) := by
 refine Ct.of Tryz.func70 rfl (by kernel_rfl) rfl fun c0 => ?_
 refine zF (zG [] (.n (zB (.k rfl))<|.nil) ff rfl fun g1 => ⟨_, _, [], rfl, (.k 0 rfl<|.nil), (.nil), ?_⟩)
 refine zC ?_
 refine zF (zG [] (.n (zA (.t rfl))<|.n (zP (digit_ok (k := 0)) ⟨(.t rfl), (.k rfl),  trivial⟩)<|.n (zB (.t rfl))<|.nil) ff rfl fun g2 => ⟨_, _, [], rfl, (.k 2 rfl<|.nil), (.nil), ?_⟩)
 refine zC ?_
 refine J_ret ?_
 refine zQ (.cons (.tmp (.t rfl))<|.nil) (zM (sb_res1 zL) ?_)
 exact ret_i (by rw [digB_0J])
theorem cmp_ok {x y : Nat} : Ct Tryz.prog 103 [ils .u64 (limbsJ x), ils .u64 (limbsJ y)] (isv (.int .i64 (cmpN x y))) := by
 refine Ct.of Tryz.func103 rfl (by kernel_rfl) rfl fun c0 => ?_
 refine J_len 0 rfl fun hlen => ?_
 refine J_len 1 rfl fun hlen2 => ?_
 refine zF (zG [] (.n (zB (.k rfl))<|.nil) ff rfl fun g1 => ⟨_, _, [], rfl, (.k 0 rfl<|.k 1 rfl<|.nil), (.nil), ?_⟩)
 refine zC ?_
 refine zF ?_
 refine zF (zG [] (.n (zA (.t rfl))<|.n (op_len_m sl53 (.t rfl))<|.n (zA (.t rfl))<|.n (op_len_m sl53 (.t rfl))<|.n (op_cmp (by simp) (.t rfl) (.t rfl) rfl)<|.nil) ff rfl fun g2 => ⟨_, _, [], rfl, (.k 0 rfl<|.k 1 rfl<|.k 10 rfl<|.nil), (.nil), ?_⟩)
 refine zC ?_
 refine zH (zK (.t rfl)) (fun h1 => ?_) (fun h1 => ?_)
 ·try simp only [cmpB, Z] at h1
  refine zF ?_
  refine zF (zG [] (.n (zA (.t rfl))<|.n (op_len_m sl53 (.t rfl))<|.n (zA (.t rfl))<|.n (op_len_m sl53 (.t rfl))<|.n (op_cmp (by simp) (.t rfl) (.t rfl) rfl)<|.nil) ff rfl fun g3 => ⟨_, _, [], rfl, (.k 15 rfl<|.nil), (.nil), ?_⟩)
  refine zC ?_
  refine zH (zK (.t rfl)) (fun h2 => ?_) (fun h2 => ?_)
  ·try simp only [cmpB, Z] at h2
   refine zF (zG [] (.n (zB (.k rfl))<|.nil) ff rfl fun g4 => ⟨_, _, [], rfl, (.k 4 rfl<|.nil), (.nil), ?_⟩)
   refine zC ?_
   refine J_ret ?_
   refine zD ?_
   refine zD ?_
   refine zQ (.cons (.tmp (.t rfl))<|.nil) (zM (sb_res1 zL) ?_)
   exact ret_i (cmpN_1J (by omega))
  ·try simp only [cmpB, Z] at h2
   refine J_skip ?_
   refine zC ?_
   refine zF (zG [] (.n (zB (.k rfl))<|.nil) ff rfl fun g5 => ⟨_, _, [], rfl, (.k 4 rfl<|.nil), (.nil), ?_⟩)
   refine zC ?_
   refine J_ret ?_
   refine zD ?_
   refine zQ (.cons (.tmp (.t rfl))<|.nil) (zM (sb_res1 zL) ?_)
   exact ret_i (cmpN_2J (by omega))
 ·try simp only [cmpB, Z] at h1
  have hle : (limbsJ x).length = (limbsJ y).length := by omega
  refine J_skip ?_
  refine zC ?_
  refine zF ?_
  refine zF (zG [] (.n (zA (.t rfl))<|.n (op_len_m sl53 (.t rfl))<|.n (op_sub (.t rfl) (.k rfl) (zO (by omega) (by omega)))<|.n (zB (.t rfl))<|.nil) ff rfl fun g6 => ⟨_, _, [], rfl, (.k 0 rfl<|.k 1 rfl<|.k 5 rfl<|.nil), (.nil), ?_⟩)
  refine zC ?_
  refine zT ?_
  refine J_loopc (α := Nat) (fun k => TopI (limbsJ x) (limbsJ y) k) (fun k => k) (fun k restR => (5, isv (.int .i64 ((k : Int) - 1))) :: restR) (fun k restS => restS) (ρc := [(0, _), (1, _)]) (σc := []) (limbsJ x).length (by exact top_zero hle rfl) (To.pick (fun _ => .sub (t := 5) rfl (sp_eq (by rfl))<|.k 0 rfl<|.k 1 rfl<|.nil) (fun _ => .nil) (ks := []) rfl) (fun k hI => ?_)
  refine zF ?_
  refine zF (zG [] (.n (zA (.t rfl))<|.n (op_cmp (by simp) (.t rfl) (.k rfl) rfl)<|.nil) ff rfl fun g7 => ⟨_, _, [], rfl, (.k 0 rfl<|.k 1 rfl<|.k 5 rfl<|.k 20 rfl<|.nil), (.nil), ?_⟩)
  refine zC ?_
  refine zH (zK (.t rfl)) (fun h3 => ?_) (fun h3 => ?_)
  ·try simp only [cmpB, Z] at h3
   obtain ⟨j, rfl⟩ : ∃ j, k = j + 1 := ⟨k - 1, by omega⟩
   have hIk := hI.1
   have ej : (((j + 1 : Nat) : Int) - 1).toNat = j := by omega
   refine J_skip ?_
   refine zC ?_
   refine zF ?_
   refine zT ?_
   refine zF (zG [[], [], [0, 1], [0, 1, 2], [], [], [4, 5], [4, 5, 6], [0, 1, 2, 3, 4, 5, 6, 7]] (.n (zA (.t rfl))<|.n (zA (.t rfl))<|.n (op_index_m 0 sl53 (.t rfl) (.t rfl) (by omega) (by omega))<|.n (op_load_sc sc38 (.t rfl) rfl)<|.n (zA (.t rfl))<|.n (zA (.t rfl))<|.n (op_index_m 0 sl53 (.t rfl) (.t rfl) (by omega) (by omega))<|.n (op_load_sc sc38 (.t rfl) rfl)<|.n (op_cmp (by simp) (.t rfl) (.t rfl) rfl)<|.nil) (fun _ => mixed) rfl fun g8 => ⟨_, _, [], rfl, (.k 0 rfl<|.k 1 rfl<|.k 5 rfl<|.k 31 rfl<|.nil), (.nil), ?_⟩)
   refine zC ?_
   refine zH (zK (.t rfl)) (fun h4 => ?_) (fun h4 => ?_)
   ·try simp only [cmpB, Z] at h4
    refine zF ?_
    refine zF (zG [[], [], [0, 1], [0, 1, 2], [], [], [4, 5], [4, 5, 6], [0, 1, 2, 3, 4, 5, 6, 7]] (.n (zA (.t rfl))<|.n (zA (.t rfl))<|.n (op_index_m 0 sl53 (.t rfl) (.t rfl) (by omega) (by omega))<|.n (op_load_sc sc38 (.t rfl) rfl)<|.n (zA (.t rfl))<|.n (zA (.t rfl))<|.n (op_index_m 0 sl53 (.t rfl) (.t rfl) (by omega) (by omega))<|.n (op_load_sc sc38 (.t rfl) rfl)<|.n (op_cmp (by simp) (.t rfl) (.t rfl) rfl)<|.nil) (fun _ => mixed) rfl fun g9 => ⟨_, _, [], rfl, (.k 40 rfl<|.nil), (.nil), ?_⟩)
    refine zC ?_
    refine zH (zK (.t rfl)) (fun h5 => ?_) (fun h5 => ?_)
    ·try simp only [cmpB, Z] at h5
     refine zF (zG [] (.n (zB (.k rfl))<|.nil) ff rfl fun g10 => ⟨_, _, [], rfl, (.k 4 rfl<|.nil), (.nil), ?_⟩)
     refine zC ?_
     refine J_ret ?_
     refine zD ?_
     refine JN_block_ret ?_
     refine zD ?_
     refine zD ?_
     refine JN_block_ret ?_
     refine zD ?_
     refine zQ (.cons (.tmp (.t rfl))<|.nil) (zM (sb_res1 zL) ?_)
     exact ret_i (cmpN_3J hle hI (by have e := h5; rw [ej] at e; exact e))
    ·try simp only [cmpB, Z] at h5
     refine J_skip ?_
     refine zC ?_
     refine zF (zG [] (.n (zB (.k rfl))<|.nil) ff rfl fun g11 => ⟨_, _, [], rfl, (.k 4 rfl<|.nil), (.nil), ?_⟩)
     refine zC ?_
     refine J_ret ?_
     refine JN_block_ret ?_
     refine zD ?_
     refine zD ?_
     refine JN_block_ret ?_
     refine zD ?_
     refine zQ (.cons (.tmp (.t rfl))<|.nil) (zM (sb_res1 zL) ?_)
     exact ret_i (cmpN_4J hle hI (by have e := h5; have e4 := h4; rw [ej] at e e4; omega))
   ·try simp only [cmpB, Z] at h4
    have hn4 : (limbsJ x).getD j 0 = (limbsJ y).getD j 0 := by have e := h4; rw [ej] at e; exact e
    refine J_skip ?_
    refine zR ?_
    refine zC ?_
    refine (zG [] (.n (zA (.t rfl))<|.n (op_sub (.t rfl) (.k rfl) (zO (by omega) (by omega)))<|.n (zB (.t rfl))<|.nil) ff rfl fun g12 => ⟨_, _, [], rfl, (.k 0 rfl<|.k 1 rfl<|.k 5 rfl<|.nil), (.nil), ?_⟩)
    exact JN_again j (by exact top_step hle hI (by omega) (by omega)) (by omega) (To.pick (fun _ => .sub (t := 5) rfl (sp_eq (by exact congrArg (fun z => isv (.int .i64 z)) (by omega)))<|.k 0 rfl<|.k 1 rfl<|.nil) (fun _ => .nil) (ks := []) rfl)
  ·try simp only [cmpB, Z] at h3
   refine J_exit ?_
   refine zE ?_
   refine zE ?_
   refine zS ?_
   refine zC ?_
   refine zF (zG [] (.n (zB (.k rfl))<|.nil) ff rfl fun g13 => ⟨_, _, [], rfl, (.k 4 rfl<|.nil), (.nil), ?_⟩)
   refine zC ?_
   refine J_ret ?_
   refine zQ (.cons (.tmp (.t rfl))<|.nil) (zM (sb_res1 zL) ?_)
   exact ret_i (cmpN_5J hI (by omega))
theorem sum_ok {a b : List Int} (ha : DigJ a) (hb : DigJ b) (hla : a.length ≤ 1000000) (hlb : b.length ≤ 1000000) : Ct Tryz.prog 88 [ils .u64 a, ils .u64 b] (ils .u64 (limbsJ (magIJ a + magIJ b).toNat)) := by
 refine Ct.of Tryz.func88 rfl (by kernel_rfl) rfl fun c0 => ?_
 refine J_len 0 rfl fun hlen => ?_
 refine J_len 1 rfl fun hlen2 => ?_
 obtain ⟨n, hn⟩ : ∃ n, n = max a.length b.length := ⟨_, rfl⟩
 have hnI : max (a.length : Int) (b.length : Int) = (n : Int) := by omega
 refine zF (zG [] (.n (zB (.k rfl))<|.nil) ff rfl fun g1 => ⟨_, _, [], rfl, (.k 0 rfl<|.k 1 rfl<|.nil), (.nil), ?_⟩)
 refine zC ?_
 refine zF (zG [] (.n (zA (.t rfl))<|.n (op_len_m sl53 (.t rfl))<|.n (zA (.t rfl))<|.n (op_len_m sl53 (.t rfl))<|.n (op_imax (.t rfl) (.t rfl))<|.n (zB (.t rfl))<|.nil) ff rfl fun g2 => ⟨_, _, [], rfl, (.k 0 rfl<|.k 1 rfl<|.k 5 rfl<|.nil), (.nil), ?_⟩)
 refine zC ?_
 rw [hnI]
 refine J_to (To.emps 1) ?_
 refine zF (zG [] (.n (zA (.t rfl))<|.n (op_add (.t rfl) (.k rfl) (zO (by omega) (by omega)))<|.w 0 (op_make_m (mk := inp .u64) 0 0 sl53 zr38 rfl (fun _ => ⟨rfl, rfl⟩) (.t rfl) (.t rfl) (by omega) (by omega) (by omega) (by omega) rfl)<|.n (op_assign_ve rfl rfl)<|.nil) ff rfl fun g3 => ⟨_, _, [0], rfl, (.k 0 rfl<|.k 1 rfl<|.k 5 rfl<|.k 6 rfl<|.nil), (.k 0 rfl<|.nil), ?_⟩)
 refine zC ?_
 refine zF (zG [] (.n (zB (.k rfl))<|.nil) ff rfl fun g4 => ⟨_, _, [0], rfl, (.k 0 rfl<|.k 1 rfl<|.k 5 rfl<|.k 6 rfl<|.k 7 rfl<|.nil), (.k 0 rfl<|.nil), ?_⟩)
 refine zC ?_
 refine zF ?_
 refine zF (zG [] (.n (zA (.t rfl))<|.n (zA (.k rfl))<|.nil) ff rfl fun g5 => ⟨_, _, [0], rfl, (.k 0 rfl<|.k 1 rfl<|.k 5 rfl<|.k 6 rfl<|.k 7 rfl<|.k 17 rfl<|.k 18 rfl<|.nil), (.k 0 rfl<|.nil), ?_⟩)
 refine zC ?_
 refine zT ?_
 refine J_loopc (α := Nat × List Int × Int) (fun x => SumI' a b x.2.1 n x.1 x.2.2) (fun x => n - x.1) (fun x restR => (18, isv (.int .i64 (x.1 : Int))) :: (7, isv (.int .u64 x.2.2)) :: restR) (fun x restS => som (g3 16) (inp .u64) x.2.1 38 :: restS) (ρc := [(0, _), (1, _), (5, _), (6, _), (17, _)]) (σc := []) (0, List.replicate (n + 1) 0, 0) (by exact sumj_zero rfl) (To.pick (fun _ => .sub (t := 18) rfl (sp_eq (by rfl))<|.sub (t := 7) rfl (sp_eq (by rfl))<|.k 0 rfl<|.k 1 rfl<|.k 5 rfl<|.k 6 rfl<|.k 17 rfl<|.nil) (fun _ => .sub 0 rfl ((res_eq (by rw [show ((n : Int) + 1).toNat = n + 1 by omega])))<|.nil) (ks := [0]) rfl) (fun x hI => ?_)
 obtain ⟨k, l, c⟩ := x
 try simp only at hI
 show J _ _ ((18, isv (.int .i64 (k : Int))) :: (7, isv (.int .u64 c)) :: _) (som (g3 16) (inp .u64) l 38 :: _) _ _
 refine zF (zG [] (.n (op_cmp (by simp) (.t rfl) (.t rfl) rfl)<|.nil) ff rfl fun g6 => ⟨_, _, [0], rfl, (.k 0 rfl<|.k 1 rfl<|.k 5 rfl<|.k 6 rfl<|.k 7 rfl<|.k 17 rfl<|.k 18 rfl<|.k 19 rfl<|.nil), (.k 0 rfl<|.nil), ?_⟩)
 refine zC ?_
 refine zF ?_
 refine zH (zK (.t rfl)) (fun h1 => ?_) (fun h1 => ?_)
 ·try simp only [cmpB, Z] at h1
  have hIl := hI.hl
  have hIc := hI.hc
  have gx := digB_rngJ ha k
  have gy := digB_rngJ hb k
  refine J_skip ?_
  refine zC ?_
  refine zF ?_
  refine zT ?_
  refine zF (zG [] (.n (zA (.t rfl))<|.n (zB (.t rfl))<|.nil) ff rfl fun g7 => ⟨_, _, [0], rfl, (.k 0 rfl<|.k 1 rfl<|.k 5 rfl<|.k 6 rfl<|.k 7 rfl<|.k 8 rfl<|.k 17 rfl<|.k 18 rfl<|.nil), (.k 0 rfl<|.nil), ?_⟩)
  refine zC ?_
  refine (zG [] (.n (zA (.t rfl))<|.n (zA (.t rfl))<|.n (zA (.t rfl))<|.n (zA (.t rfl))<|.n (zP (digit_ok) ⟨(.t rfl), (.t rfl),  trivial⟩)<|.n (zA (.t rfl))<|.n (zA (.t rfl))<|.n (zP (digit_ok) ⟨(.t rfl), (.t rfl),  trivial⟩)<|.n (zA (.t rfl))<|.n (op_add64 addX (.t rfl) (.t rfl) (.t rfl) gx.1 gy.1 hIc)<|.n (zA (.t rfl))<|.n (op_extract (.t rfl) rfl)<|.n (op_extract (.t rfl) rfl)<|.r 0 (op_index_som 0 sl53 (.t rfl) (.t rfl) rfl (by omega) (by omega))<|.w 0 (op_store_som (mk := inp .u64) 0 (.t rfl) (.t rfl) co_inp sz38 rfl (by omega))<|.n (zB (.t rfl))<|.nil) ff rfl fun g8 => ⟨_, _, [0], rfl, (.k 0 rfl<|.k 1 rfl<|.k 5 rfl<|.k 6 rfl<|.k 7 rfl<|.k 17 rfl<|.k 18 rfl<|.nil), (.k 0 rfl<|.nil), ?_⟩)
  refine zR ?_
  refine zC ?_
  refine (zG [] (.n (op_add (.t rfl) (.k rfl) (zO (by omega) (by omega)))<|.n (zA (.t rfl))<|.nil) ff rfl fun g9 => ⟨_, _, [0], rfl, (.k 0 rfl<|.k 1 rfl<|.k 5 rfl<|.k 6 rfl<|.k 7 rfl<|.k 17 rfl<|.k 18 rfl<|.nil), (.k 0 rfl<|.nil), ?_⟩)
  exact JN_again (k + 1, l.set k (addD (digBJ a k) (digBJ b k) c), addC (digBJ a k) (digBJ b k) c) (by exact sumj_step ha hb hI (by omega) rfl rfl) (by show n - (_ + 1) < _; omega) (To.pick (fun _ => .sub (t := 18) rfl (sp_eq (by rfl))<|.sub (t := 7) rfl (sp_eq (by rfl))<|.k 0 rfl<|.k 1 rfl<|.k 5 rfl<|.k 6 rfl<|.k 17 rfl<|.nil) (fun _ => .sub 0 rfl ((fun _ _ h => h))<|.nil) (ks := [0]) rfl)
 ·try simp only [cmpB, Z] at h1
  have hIl := hI.hl
  obtain ⟨hdg, hmg⟩ := sumj_done (by omega) (by omega) hI (show k = n by have := hI.hk; omega)
  refine J_exit ?_
  refine zE ?_
  refine zE ?_
  refine zS ?_
  refine zC ?_
  refine zF (zG [] (.n (zA (.t rfl))<|.n (zA (.t rfl))<|.n (zA (.t rfl))<|.r 0 (op_index_som 0 sl53 (.t rfl) (.t rfl) rfl (by omega) (by omega))<|.w 0 (op_store_som (mk := inp .u64) 0 (.t rfl) (.t rfl) co_inp sz38 rfl (by omega))<|.nil) ff rfl fun g10 => ⟨_, _, [0], rfl, (.k 6 rfl<|.nil), (.k 0 rfl<|.nil), ?_⟩)
  refine zC ?_
  refine J_to (To.freeze 0 (fun _ h => h) rfl frz_som rfl) ?_
  refine zF (zG [] (.n (zA (.t rfl))<|.n (zP (norm_ok hdg) ⟨(Lk.sub (sb_fk 0 rfl) (.t rfl)),  trivial⟩)<|.n (zB (.t rfl))<|.nil) ff rfl fun g11 => ⟨_, _, [], rfl, (.k 4 rfl<|.nil), (.nil), ?_⟩)
  refine zC ?_
  refine J_ret ?_
  refine zQ (.cons (.tmp (.t rfl))<|.nil) (zM (sb_res1 zL) ?_)
  exact sb_eq (congrArg (fun z => ils .u64 (limbsJ z.toNat)) hmg)
theorem less_ok {a b : List Int} (ha : DigJ a) (hb : DigJ b) (hla : a.length ≤ 1000000) (hlb : b.length ≤ 1000000) (hAB : b.length ≤ a.length) (hle : magIJ b ≤ magIJ a) : Ct Tryz.prog 104 [ils .u64 a, ils .u64 b] (ils .u64 (limbsJ (magIJ a - magIJ b).toNat)) := by
 refine Ct.of Tryz.func104 rfl (by kernel_rfl) rfl fun c0 => ?_
 refine J_len 0 rfl fun hlen => ?_
 refine J_len 1 rfl fun hlen2 => ?_
 refine zF (zG [] (.n (zB (.k rfl))<|.nil) ff rfl fun g1 => ⟨_, _, [], rfl, (.k 0 rfl<|.k 1 rfl<|.nil), (.nil), ?_⟩)
 refine zC ?_
 refine J_to (To.emps 1) ?_
 refine zF (zG [] (.n (zA (.t rfl))<|.n (op_len_m sl53 (.t rfl))<|.w 0 (op_make_m (mk := inp .u64) 0 0 sl53 zr38 rfl (fun _ => ⟨rfl, rfl⟩) (.t rfl) (.t rfl) (by omega) (by omega) (by omega) (by omega) rfl)<|.n (op_assign_ve rfl rfl)<|.nil) ff rfl fun g2 => ⟨_, _, [0], rfl, (.k 0 rfl<|.k 1 rfl<|.k 5 rfl<|.nil), (.k 0 rfl<|.nil), ?_⟩)
 refine zC ?_
 refine zF (zG [] (.n (zB (.k rfl))<|.nil) ff rfl fun g3 => ⟨_, _, [0], rfl, (.k 0 rfl<|.k 1 rfl<|.k 5 rfl<|.k 6 rfl<|.nil), (.k 0 rfl<|.nil), ?_⟩)
 refine zC ?_
 refine zF ?_
 refine zF (zG [] (.n (zA (.t rfl))<|.n (op_len_m sl53 (.t rfl))<|.n (zA (.k rfl))<|.nil) ff rfl fun g4 => ⟨_, _, [0], rfl, (.k 0 rfl<|.k 1 rfl<|.k 5 rfl<|.k 6 rfl<|.k 12 rfl<|.k 13 rfl<|.nil), (.k 0 rfl<|.nil), ?_⟩)
 refine zC ?_
 refine zT ?_
 refine J_loopc (α := Nat × List Int × Int) (fun x => MinIJ a b x.2.1 x.1 x.2.2) (fun x => a.length - x.1) (fun x restR => (13, isv (.int .i64 (x.1 : Int))) :: (6, isv (.int .u64 x.2.2)) :: restR) (fun x restS => som (g2 10) (inp .u64) x.2.1 38 :: restS) (ρc := [(0, _), (1, _), (5, _), (12, _)]) (σc := []) (0, List.replicate (a.length : Int).toNat 0, 0) (by exact min_zeroJ (by omega)) (To.pick (fun _ => .sub (t := 13) rfl (sp_eq (by rfl))<|.sub (t := 6) rfl (sp_eq (by rfl))<|.k 0 rfl<|.k 1 rfl<|.k 5 rfl<|.k 12 rfl<|.nil) (fun _ => .sub 0 rfl ((fun _ _ h => h))<|.nil) (ks := [0]) rfl) (fun x hI => ?_)
 obtain ⟨k, l, c⟩ := x
 try simp only at hI
 show J _ _ ((13, isv (.int .i64 (k : Int))) :: (6, isv (.int .u64 c)) :: _) (som (g2 10) (inp .u64) l 38 :: _) _ _
 refine zF (zG [] (.n (op_cmp (by simp) (.t rfl) (.t rfl) rfl)<|.nil) ff rfl fun g5 => ⟨_, _, [0], rfl, (.k 0 rfl<|.k 1 rfl<|.k 5 rfl<|.k 6 rfl<|.k 12 rfl<|.k 13 rfl<|.k 14 rfl<|.nil), (.k 0 rfl<|.nil), ?_⟩)
 refine zC ?_
 refine zF ?_
 refine zH (zK (.t rfl)) (fun h1 => ?_) (fun h1 => ?_)
 ·try simp only [cmpB, Z] at h1
  have hIl := hI.hl
  have hIc := hI.hc
  have gx : 0 ≤ a.getD ((k : Nat) : Int).toNat 0 ∧ a.getD ((k : Nat) : Int).toNat 0 < 18446744073709551616 := ha.at (k := k) (by omega)
  have gy := digB_rngJ hb k
  obtain ⟨s1, s2, s3, s4⟩ := subD_rng gx gy hIc
  refine J_skip ?_
  refine zC ?_
  refine zF ?_
  refine zT ?_
  refine zF (zG [] (.n (zA (.t rfl))<|.n (zB (.t rfl))<|.nil) ff rfl fun g6 => ⟨_, _, [0], rfl, (.k 0 rfl<|.k 1 rfl<|.k 5 rfl<|.k 6 rfl<|.k 7 rfl<|.k 12 rfl<|.k 13 rfl<|.nil), (.k 0 rfl<|.nil), ?_⟩)
  refine zC ?_
  refine (zG [[], [], [], [], [2, 3], [2, 3, 4], [], [], [6, 7], [], [2, 3, 4, 5, 6, 7, 8, 9], [2, 3, 4, 5, 6, 7, 8, 9, 10], [2, 3, 4, 5, 6, 7, 8, 9, 10, 11], [2, 3, 4, 5, 6, 7, 8, 9, 10, 11], [0, 1, 2, 3, 4, 5, 6, 7, 8, 9, 10, 11, 12], [0, 1, 2, 3, 4, 5, 6, 7, 8, 9, 10, 11, 12, 14], [0, 1, 2, 3, 4, 5, 6, 7, 8, 9, 10, 11, 12, 13, 14, 15]] (.n (zA (.t rfl))<|.n (zA (.t rfl))<|.n (zA (.t rfl))<|.n (zA (.t rfl))<|.n (op_index_m 0 sl53 (.t rfl) (.t rfl) (by omega) (by omega))<|.n (op_load_sc sc38 (.t rfl) rfl)<|.n (zA (.t rfl))<|.n (zA (.t rfl))<|.n (zP (digit_ok) ⟨(.t rfl), (.t rfl),  trivial⟩)<|.n (zA (.t rfl))<|.n (op_sub64 subX (.t rfl) (.t rfl) (.t rfl) gx gy hIc)<|.n (zA (.t rfl))<|.n (op_extract (.t rfl) rfl)<|.n (op_extract (.t rfl) rfl)<|.r 0 (op_index_som 0 sl53 (.t rfl) (.t rfl) rfl (by omega) (by omega))<|.w 0 (op_store_som (mk := inp .u64) 0 (.t rfl) (.t rfl) co_inp sz38 rfl (by omega))<|.n (zB (.t rfl))<|.nil) (fun _ => mixed) rfl fun g7 => ⟨_, _, [0], rfl, (.k 0 rfl<|.k 1 rfl<|.k 5 rfl<|.k 6 rfl<|.k 12 rfl<|.k 13 rfl<|.nil), (.k 0 rfl<|.nil), ?_⟩)
  refine zR ?_
  refine zC ?_
  refine (zG [] (.n (op_add (.t rfl) (.k rfl) (zO (by omega) (by omega)))<|.n (zA (.t rfl))<|.nil) ff rfl fun g8 => ⟨_, _, [0], rfl, (.k 0 rfl<|.k 1 rfl<|.k 5 rfl<|.k 6 rfl<|.k 12 rfl<|.k 13 rfl<|.nil), (.k 0 rfl<|.nil), ?_⟩)
  exact JN_again (k + 1, l.set k (subD (a.getD k 0) (digBJ b k) c), subC (a.getD k 0) (digBJ b k) c) (by exact min_stepJ ha hb hI (by omega) s3 ⟨s1, s2⟩ s4) (by show a.length - (_ + 1) < _; omega) (To.pick (fun _ => .sub (t := 13) rfl (sp_eq (by rfl))<|.sub (t := 6) rfl (sp_eq (by rfl))<|.k 0 rfl<|.k 1 rfl<|.k 5 rfl<|.k 12 rfl<|.nil) (fun _ => .sub 0 rfl ((fun _ _ h => h))<|.nil) (ks := [0]) rfl)
 ·try simp only [cmpB, Z] at h1
  obtain ⟨hdg, hmg⟩ := min_doneJ ha hb hAB hle hI (show k = a.length by have := hI.hk; omega)
  refine J_exit ?_
  refine zE ?_
  refine zE ?_
  refine zS ?_
  refine zC ?_
  refine J_to (To.freeze 0 (fun _ h => h) rfl frz_som rfl) ?_
  refine zF (zG [] (.n (zA (.t rfl))<|.n (zP (norm_ok hdg) ⟨(Lk.sub (sb_fk 0 rfl) (.t rfl)),  trivial⟩)<|.n (zB (.t rfl))<|.nil) ff rfl fun g9 => ⟨_, _, [], rfl, (.k 4 rfl<|.nil), (.nil), ?_⟩)
  refine zC ?_
  refine J_ret ?_
  refine zQ (.cons (.tmp (.t rfl))<|.nil) (zM (sb_res1 zL) ?_)
  exact sb_eq (congrArg (fun z => ils .u64 (limbsJ z.toNat)) hmg)
theorem left_ok {m : List Int} {n : Nat} (hm : DigJ m) (hlm : m.length ≤ 1000000) (hn : n ≤ 32000000) : Ct Tryz.prog 91 [ils .u64 m, isv (.int .u64 (n : Int))] (ils .u64 (limbsJ (magIJ m * 2 ^ n).toNat)) := by
 refine Ct.of Tryz.func91 rfl (by kernel_rfl) rfl fun c0 => ?_
 refine J_len 0 rfl fun hlen => ?_
 have hs64 : n % 64 < 64 := Nat.mod_lt _ (by omega)
 obtain ⟨hp1, hp2, hp3, hp4⟩ := pow_32J hs64
 refine zF (zG [] (.n (zB (.k rfl))<|.nil) ff rfl fun g1 => ⟨_, _, [], rfl, (.k 0 rfl<|.k 1 rfl<|.nil), (.nil), ?_⟩)
 refine zC ?_
 refine zF ?_
 refine zF (zG [] (.n (zA (.t rfl))<|.n (op_len_m sl53 (.t rfl))<|.n (op_cmp (by simp) (.t rfl) (.k rfl) rfl)<|.nil) ff rfl fun g2 => ⟨_, _, [], rfl, (.k 0 rfl<|.k 1 rfl<|.k 12 rfl<|.nil), (.nil), ?_⟩)
 refine zC ?_
 refine zH (zK (.t rfl)) (fun h1 => ?_) (fun h1 => ?_)
 ·try simp only [cmpB, Z] at h1
  refine zF (zG [] (.n (zB (.k rfl))<|.nil) ff rfl fun g3 => ⟨_, _, [], rfl, (.k 4 rfl<|.nil), (.nil), ?_⟩)
  refine zC ?_
  refine J_ret ?_
  refine zD ?_
  refine zQ (.cons (.tmp (.t rfl))<|.nil) (zM (sb_res1 (sb_nil (mk := inp .u64))) ?_)
  have hm0 : m = [] := List.length_eq_zero_iff.1 (by omega)
  exact sb_eq (by rw [hm0]; simp [magIJ, limbs_zeroJ])
 ·try simp only [cmpB, Z] at h1
  refine J_skip ?_
  refine zC ?_
  refine zF (zG [] (.n (zA (.t rfl))<|.n (op_quo (.t rfl) (.k rfl) (by omega) (quo64 n (by omega)))<|.n (op_conv_int it98 it3 (.t rfl) (zO (by omega) (by omega)))<|.n (zA (.t rfl))<|.n (op_rem (.t rfl) (.k rfl) (by omega) (rem64 n))<|.n (zB (.t rfl))<|.n (zB (.t rfl))<|.nil) ff rfl fun g4 => ⟨_, _, [], rfl, (.k 0 rfl<|.k 5 rfl<|.k 6 rfl<|.nil), (.nil), ?_⟩)
  refine zC ?_
  refine J_to (To.emps 1) ?_
  refine zF (zG [] (.n (zA (.t rfl))<|.n (zA (.t rfl))<|.n (op_len_m sl53 (.t rfl))<|.n (op_add (.t rfl) (.t rfl) (zO (by omega) (by omega)))<|.n (op_add (.t rfl) (.k rfl) (zO (by omega) (by omega)))<|.w 0 (op_make_m (mk := inp .u64) 0 0 sl53 zr38 rfl (fun _ => ⟨rfl, rfl⟩) (.t rfl) (.t rfl) (by omega) (by omega) (by omega) (by omega) rfl)<|.n (op_assign_ve rfl rfl)<|.nil) ff rfl fun g5 => ⟨_, _, [0], rfl, (.k 0 rfl<|.k 5 rfl<|.k 6 rfl<|.k 7 rfl<|.nil), (.k 0 rfl<|.nil), ?_⟩)
  refine zC ?_
  refine zF ?_
  refine zF (zG [] (.n (zA (.t rfl))<|.n (op_len_m sl53 (.t rfl))<|.n (zA (.k rfl))<|.nil) ff rfl fun g6 => ⟨_, _, [0], rfl, (.k 5 rfl<|.k 6 rfl<|.k 7 rfl<|.k 24 rfl<|.k 25 rfl<|.k 26 rfl<|.nil), (.k 0 rfl<|.nil), ?_⟩)
  refine zC ?_
  refine zT ?_
  refine J_loopc (α := Nat × List Int) (fun x => LefIJ m x.2 (n / 64) (2 ^ (n % 64)) x.1) (fun x => m.length - x.1) (fun x restR => (26, isv (.int .i64 (x.1 : Int))) :: restR) (fun x restS => som (g5 23) (inp .u64) x.2 38 :: restS) (ρc := [(5, _), (6, _), (7, _), (24, _), (25, _)]) (σc := []) (0, List.replicate (n / 64 + m.length + 1) 0) (by exact lef_zeroJ rfl hp1) (To.pick (fun _ => .sub (t := 26) rfl (sp_eq (by rfl))<|.k 5 rfl<|.k 6 rfl<|.k 7 rfl<|.k 24 rfl<|.k 25 rfl<|.nil) (fun _ => .sub 0 rfl ((res_eq (by rw [show (((n / 64 : Nat) : Int) + (m.length : Int) + 1).toNat = n / 64 + m.length + 1 by omega])))<|.nil) (ks := [0]) rfl) (fun x hI => ?_)
  obtain ⟨i, l⟩ := x
  try simp only at hI
  show J _ _ ((26, isv (.int .i64 (i : Int))) :: _) (som (g5 23) (inp .u64) l 38 :: _) _ _
  refine zF (zG [] (.n (op_cmp (by simp) (.t rfl) (.t rfl) rfl)<|.nil) ff rfl fun g7 => ⟨_, _, [0], rfl, (.k 5 rfl<|.k 6 rfl<|.k 7 rfl<|.k 24 rfl<|.k 25 rfl<|.k 26 rfl<|.k 27 rfl<|.nil), (.k 0 rfl<|.nil), ?_⟩)
  refine zC ?_
  refine zF ?_
  refine zH (zK (.t rfl)) (fun h2 => ?_) (fun h2 => ?_)
  ·try simp only [cmpB, Z] at h2
   have hIi := hI.hi
   have hIl := hI.hl
   have gm : 0 ≤ m.getD ((i : Nat) : Int).toNat 0 ∧ m.getD ((i : Nat) : Int).toNat 0 < 18446744073709551616 := hm.at (k := i) (by omega)
   obtain ⟨x, hx⟩ : ∃ x, x = m.getD i 0 := ⟨_, rfl⟩
   obtain ⟨t, ht⟩ : ∃ t, t = x * 2 ^ (n % 64) := ⟨_, rfl⟩
   have hx9 : m.getD ((i : Nat) : Int).toNat 0 = x := hx.symm
   have gx : 0 ≤ x ∧ x < 18446744073709551616 := by rw [← hx9]; exact gm
   have hsh : IntKind.u64.wrap (m.getD ((i : Nat) : Int).toNat 0 * 2 ^ min ((n % 64 : Nat) : Int).toNat IntKind.u64.bits) = t % 18446744073709551616 := by rw [hx9, shlJ hs64, ht]
   have hor : bitsOf .or .u64 (l.getD (((n / 64 : Nat) : Int) + (i : Int)).toNat 0) (t % 18446744073709551616) = l.getD (n / 64 + i) 0 + t % 18446744073709551616 := lef_orJ hs64 hm hI (show i < m.length by omega) hx ht
   have hup : (m.getD ((i : Nat) : Int).toNat 0).fdiv (2 ^ min ((64 - n % 64 : Nat) : Int).toNat IntKind.u64.bits) = t / 18446744073709551616 := by rw [hx9, shrJ (by omega), shr_up gx hs64, ht]
   refine J_skip ?_
   refine zC ?_
   refine zF ?_
   refine zT ?_
   refine zF (zG [] (.n (zA (.t rfl))<|.n (op_index_m 0 sl53 (.t rfl) (.t rfl) (by omega) (by omega))<|.n (op_load_sc sc38 (.t rfl) rfl)<|.n (zB (.t rfl))<|.n (zB (.t rfl))<|.nil) ff rfl fun g8 => ⟨_, _, [0], rfl, (.k 5 rfl<|.k 6 rfl<|.k 7 rfl<|.k 8 rfl<|.k 9 rfl<|.k 24 rfl<|.k 25 rfl<|.k 26 rfl<|.nil), (.k 0 rfl<|.nil), ?_⟩)
   refine zC ?_
   refine zF (zG [] (.n (zA (.t rfl))<|.n (zA (.t rfl))<|.n (zA (.t rfl))<|.n (op_add (.t rfl) (.t rfl) (zO (by omega) (by omega)))<|.r 0 (op_index_som 0 sl53 (.t rfl) (.t rfl) rfl (by omega) (by omega))<|.r 0 (op_get_som 0 0 sc38 (.t rfl) rfl (by omega))<|.n (zA (.t rfl))<|.n (zA (.t rfl))<|.n (op_shl (.t rfl) (.t rfl) (by omega) hsh)<|.n (op_bits (by simp) (.t rfl) (.t rfl) hor)<|.r 0 (op_index_som 0 sl53 (.t rfl) (.t rfl) rfl (by omega) (by omega))<|.w 0 (op_store_som (mk := inp .u64) 0 (.t rfl) (.t rfl) co_inp sz38 rfl (by omega))<|.nil) ff rfl fun g9 => ⟨_, _, [0], rfl, (.k 5 rfl<|.k 6 rfl<|.k 7 rfl<|.k 8 rfl<|.k 9 rfl<|.k 24 rfl<|.k 25 rfl<|.k 26 rfl<|.nil), (.k 0 rfl<|.nil), ?_⟩)
   refine zC ?_
   refine (zG [] (.n (zA (.t rfl))<|.n (zA (.t rfl))<|.n (zA (.t rfl))<|.n (op_add (.t rfl) (.t rfl) (zO (by omega) (by omega)))<|.n (op_add (.t rfl) (.k rfl) (zO (by omega) (by omega)))<|.n (zA (.t rfl))<|.n (zA (.t rfl))<|.n (op_sub (.k rfl) (.t rfl) (sub64 hs64))<|.n (op_shr (.t rfl) (.t rfl) (by omega) hup)<|.r 0 (op_index_som 0 sl53 (.t rfl) (.t rfl) rfl (by omega) (by rw [List.length_set]; omega))<|.w 0 (op_store_som (mk := inp .u64) 0 (.t rfl) (.t rfl) co_inp sz38 rfl (by rw [List.length_set]; omega))<|.nil) ff rfl fun g10 => ⟨_, _, [0], rfl, (.k 5 rfl<|.k 6 rfl<|.k 7 rfl<|.k 24 rfl<|.k 25 rfl<|.k 26 rfl<|.nil), (.k 0 rfl<|.nil), ?_⟩)
   refine zR ?_
   refine zC ?_
   refine (zG [] (.n (op_add (.t rfl) (.k rfl) (zO (by omega) (by omega)))<|.n (zA (.t rfl))<|.nil) ff rfl fun g11 => ⟨_, _, [0], rfl, (.k 5 rfl<|.k 6 rfl<|.k 7 rfl<|.k 24 rfl<|.k 25 rfl<|.k 26 rfl<|.nil), (.k 0 rfl<|.nil), ?_⟩)
   exact JN_again (i + 1, (l.set (n / 64 + i) (l.getD (n / 64 + i) 0 + t % 18446744073709551616)).set (n / 64 + i + 1) (t / 18446744073709551616)) (by exact lef_stepJ hm hI (by omega) hp1 hp2 hp3 hx ht) (by show m.length - (_ + 1) < _; omega) (To.pick (fun _ => .sub (t := 26) rfl (sp_eq (by rfl))<|.k 5 rfl<|.k 6 rfl<|.k 7 rfl<|.k 24 rfl<|.k 25 rfl<|.nil) (fun _ => .sub 0 rfl ((fun _ _ h => h))<|.nil) (ks := [0]) rfl)
  ·try simp only [cmpB, Z] at h2
   obtain ⟨hdg, hmg⟩ := lef_doneJ hI (show i = m.length by have := hI.hi; omega)
   rw [lef_valJ] at hmg
   refine J_exit ?_
   refine zE ?_
   refine zE ?_
   refine zS ?_
   refine zC ?_
   refine J_to (To.freeze 0 (fun _ h => h) rfl frz_som rfl) ?_
   refine zF (zG [] (.n (zA (.t rfl))<|.n (zP (norm_ok hdg) ⟨(Lk.sub (sb_fk 0 rfl) (.t rfl)),  trivial⟩)<|.n (zB (.t rfl))<|.nil) ff rfl fun g12 => ⟨_, _, [], rfl, (.k 4 rfl<|.nil), (.nil), ?_⟩)
   refine zC ?_
   refine J_ret ?_
   refine zQ (.cons (.tmp (.t rfl))<|.nil) (zM (sb_res1 zL) ?_)
   exact sb_eq (congrArg (fun z => ils .u64 (limbsJ z.toNat)) hmg)
end Go.Proofs.YtcpififnffmjfaaGreatDoor
