/- Printed by a program of ours (walk.py): walks of fractions in memory. -/
import Derived.Test.YtjnmgcglooeooaaGreatDoorPsKb
import Derived.Test.YtjnmgcglooeooaaGreatDoorProg
import Derived.KernelRfl
import Derived.Test.YtjnmgcglooeooaaGreatDoorPsTypes
import Derived.Test.YtjnmgcglooeooaaGreatDoorPsWGcd
import Derived.Test.YtjnmgcglooeooaaGreatDoorPsQle
set_option linter.unusedVariables false
set_option linter.unusedSimpArgs false
set_option maxRecDepth 20000
set_option maxHeartbeats 4000000
namespace Go.Proofs.YtjnmgcglooeooaaGreatDoor
open Go Go.Bn
attribute [local irreducible] OpOK
theorem iputN_ok {u : Value} {q0 q1 q2 q3 : SP} {b : Bool} {l : List Int} (hd : Dig l) : CtM Tryz.prog 79 [ipo u 0, isv (.bool b), ils .u32 l] (blk u [q0, q1, q2, q3] 90) (ipo u 0) (blk u [isv (.bool (decide (sgnI b (magI l).toNat < 0))), ils .u32 (limbs (sgnI b (magI l).toNat).natAbs), q2, q3] 90) := by
 refine CtM.of Tryz.func79 rfl (by kernel_rfl) rfl (fix_blk) fun c0 ob hr0 => ?_
 refine zF (zG [] (.n (zB (.k rfl))<|.nil) ff rfl fun g1 => ⟨_, _, [0], rfl, (.k 0 rfl<|.k 1 rfl<|.k 2 rfl<|.nil), (.k 0 rfl<|.nil), ?_⟩)
 refine zC ?_
 refine zF (zG [] (.n (zA (.t rfl))<|.n (zP (cut_ok hd) ⟨(.t rfl),  trivial⟩)<|.n (zB (.t rfl))<|.nil) ff rfl fun g2 => ⟨_, _, [0], rfl, (.k 0 rfl<|.k 1 rfl<|.k 2 rfl<|.nil), (.k 0 rfl<|.nil), ?_⟩)
 refine zC ?_
 refine zF (zG [] (.n (zA (.t rfl))<|.n (zA (.t rfl))<|.n (op_nilo (.t rfl))<|.n (zI fd88_1 (.t rfl) rfl)<|.w 0 (op_store_b 0 (.t rfl) (.t rfl) co_slm sz86 rfl rfl rfl)<|.nil) ff rfl fun g3 => ⟨_, _, [0], rfl, (.k 0 rfl<|.k 1 rfl<|.k 2 rfl<|.nil), (.k 0 rfl<|.nil), ?_⟩)
 refine zC ?_
 refine zF (zG [] (.n (zA (.t rfl))<|.n (zA (.t rfl))<|.n (zA (.t rfl))<|.n (op_guard rfl rfl (gd_b rfl) (fun hC => (zA (.t rfl))))<|.n (op_guard rfl rfl (gd_b rfl) (fun hC => (op_len_m sl86 (.w rfl hC))))<|.n (op_guard rfl rfl (gd_b rfl) (fun hC => (op_cmp (by simp) (.w rfl hC) (.k rfl) rfl)))<|.n (op_and (.t rfl) (fun h2 => (.w rfl h2)))<|.n (op_nilo (.t rfl))<|.n (zI fd88_0 (.t rfl) rfl)<|.w 0 (op_store_b 0 (.t rfl) (.t rfl) co_isv sz4 rfl rfl rfl)<|.nil) ff rfl fun g4 => ⟨_, _, [0], rfl, (.k 0 rfl<|.nil), (.k 0 rfl<|.nil), ?_⟩)
 refine zC ?_
 refine zF (zG [] (.n (zA (.t rfl))<|.n (zB (.t rfl))<|.nil) ff rfl fun g5 => ⟨_, _, [0], rfl, (.k 6 rfl<|.nil), (.k 0 rfl<|.nil), ?_⟩)
 refine zC ?_
 refine J_ret ?_
 refine JN_to (To.res 0 (r' := blk u [isv (.bool (decide (sgnI b (magI l).toNat < 0))), ils .u32 (limbs (sgnI b (magI l).toNat).natAbs), q2, q3] 90) rfl (res_eq (congrArg (fun cs => blk u (cs ++ [q2, q3]) 90) (put_cells b (magI l).toNat))) rfl) ?_
 refine JN_retM 0 hr0 (fix_blk) rfl (.cons (.tmp (.t rfl))<|.nil) (zM (sb_res1 zL) ?_)
 exact zL
theorem iputD_ok {u : Value} {q0 q1 q2 q3 : SP} {b : Bool} {l : List Int} (hd : Dig l) : CtM Tryz.prog 79 [ipo u 2, isv (.bool b), ils .u32 l] (blk u [q0, q1, q2, q3] 90) (ipo u 2) (blk u [q0, q1, isv (.bool (decide (sgnI b (magI l).toNat < 0))), ils .u32 (limbs (sgnI b (magI l).toNat).natAbs)] 90) := by
 refine CtM.of Tryz.func79 rfl (by kernel_rfl) rfl (fix_blk) fun c0 ob hr0 => ?_
 refine zF (zG [] (.n (zB (.k rfl))<|.nil) ff rfl fun g1 => ⟨_, _, [0], rfl, (.k 0 rfl<|.k 1 rfl<|.k 2 rfl<|.nil), (.k 0 rfl<|.nil), ?_⟩)
 refine zC ?_
 refine zF (zG [] (.n (zA (.t rfl))<|.n (zP (cut_ok hd) ⟨(.t rfl),  trivial⟩)<|.n (zB (.t rfl))<|.nil) ff rfl fun g2 => ⟨_, _, [0], rfl, (.k 0 rfl<|.k 1 rfl<|.k 2 rfl<|.nil), (.k 0 rfl<|.nil), ?_⟩)
 refine zC ?_
 refine zF (zG [] (.n (zA (.t rfl))<|.n (zA (.t rfl))<|.n (op_nilo (.t rfl))<|.n (zI fd88_1 (.t rfl) rfl)<|.w 0 (op_store_b 0 (.t rfl) (.t rfl) co_slm sz86 rfl rfl rfl)<|.nil) ff rfl fun g3 => ⟨_, _, [0], rfl, (.k 0 rfl<|.k 1 rfl<|.k 2 rfl<|.nil), (.k 0 rfl<|.nil), ?_⟩)
 refine zC ?_
 refine zF (zG [] (.n (zA (.t rfl))<|.n (zA (.t rfl))<|.n (zA (.t rfl))<|.n (op_guard rfl rfl (gd_b rfl) (fun hC => (zA (.t rfl))))<|.n (op_guard rfl rfl (gd_b rfl) (fun hC => (op_len_m sl86 (.w rfl hC))))<|.n (op_guard rfl rfl (gd_b rfl) (fun hC => (op_cmp (by simp) (.w rfl hC) (.k rfl) rfl)))<|.n (op_and (.t rfl) (fun h2 => (.w rfl h2)))<|.n (op_nilo (.t rfl))<|.n (zI fd88_0 (.t rfl) rfl)<|.w 0 (op_store_b 0 (.t rfl) (.t rfl) co_isv sz4 rfl rfl rfl)<|.nil) ff rfl fun g4 => ⟨_, _, [0], rfl, (.k 0 rfl<|.nil), (.k 0 rfl<|.nil), ?_⟩)
 refine zC ?_
 refine zF (zG [] (.n (zA (.t rfl))<|.n (zB (.t rfl))<|.nil) ff rfl fun g5 => ⟨_, _, [0], rfl, (.k 6 rfl<|.nil), (.k 0 rfl<|.nil), ?_⟩)
 refine zC ?_
 refine J_ret ?_
 refine JN_to (To.res 0 (r' := blk u [q0, q1, isv (.bool (decide (sgnI b (magI l).toNat < 0))), ils .u32 (limbs (sgnI b (magI l).toNat).natAbs)] 90) rfl (res_eq (congrArg (fun cs => blk u ([q0, q1] ++ cs) 90) (put_cells b (magI l).toNat))) rfl) ?_
 refine JN_retM 0 hr0 (fix_blk) rfl (.cons (.tmp (.t rfl))<|.nil) (zM (sb_res1 zL) ?_)
 exact zL
theorem rmade_ok {u : Value} {q0 q1 q2 q3 : SP} {b : Bool} {A B : Nat} (hA : Sml (A : Int)) (hB : Sml (B : Int)) (hB0 : B ≠ 0) : CtM Tryz.prog 65 [ipo u 0, isv (.bool b), ils .u32 (limbs A), ils .u32 (limbs B)] (blk u [q0, q1, q2, q3] 90) (ipo u 0) (blk u (ratC (mkRat (sgnI b A) B)) 90) := by
 refine CtM.of Tryz.func65 rfl (by kernel_rfl) rfl (fix_blk) fun c0 ob hr0 => ?_
 have hAl := sml_lim hA
 have hBl := sml_lim hB
 have hA0 := limbs_len0 (n := A)
 have htA := (tz_lim hAl).1
 have htB := (tz_lim hBl).1
 have hmp := mkr_parts b (A := A) hB0
 refine zF (zG [] (.n (zB (.k rfl))<|.nil) ff rfl fun g1 => ⟨_, _, [0], rfl, (.k 0 rfl<|.k 1 rfl<|.k 2 rfl<|.k 3 rfl<|.nil), (.k 0 rfl<|.nil), ?_⟩)
 refine zC ?_
 refine J_to (To.emps 1) ?_
 refine zF (zG [] (.n (zA (.t rfl))<|.n (op_build zr88 rfl pl88 (.cons rfl (.t rfl) co_slm rfl (puts_l rfl (Nat.le_of_ble_eq_true rfl)) .nil))<|.w 1 (op_box 1 (.t rfl) co_agg rfl)<|.n (op_assign_ve rfl rfl)<|.nil) ff rfl fun g2 => ⟨_, _, [0, 1], rfl, (.k 0 rfl<|.k 1 rfl<|.k 2 rfl<|.k 3 rfl<|.k 9 rfl<|.nil), (.k 0 rfl<|.k 1 rfl<|.nil), ?_⟩)
 refine zC ?_
 refine J_to (To.emps 1) ?_
 refine zF (zG [] (.n (zA (.t rfl))<|.n (op_build zr88 rfl pl88 (.cons rfl (.t rfl) co_slm rfl (puts_l rfl (Nat.le_of_ble_eq_true rfl)) .nil))<|.w 2 (op_box 2 (.t rfl) co_agg rfl)<|.n (op_assign_ve rfl rfl)<|.nil) ff rfl fun g3 => ⟨_, _, [0, 1, 2], rfl, (.k 0 rfl<|.k 1 rfl<|.k 2 rfl<|.k 3 rfl<|.k 9 rfl<|.k 10 rfl<|.nil), (.k 0 rfl<|.k 1 rfl<|.k 2 rfl<|.nil), ?_⟩)
 refine zC ?_
 refine zF ?_
 refine zF (zG [] (.n (zA (.t rfl))<|.n (op_len_m sl86 (.t rfl))<|.n (op_cmp (by simp) (.t rfl) (.k rfl) rfl)<|.nil) ff rfl fun g4 => ⟨_, _, [0, 1, 2], rfl, (.k 0 rfl<|.k 1 rfl<|.k 2 rfl<|.k 3 rfl<|.k 9 rfl<|.k 10 rfl<|.k 22 rfl<|.nil), (.k 0 rfl<|.k 1 rfl<|.k 2 rfl<|.nil), ?_⟩)
 refine zC ?_
 refine zH (zK (.t rfl)) (fun h1 => ?_) (fun h1 => ?_)
 ·try simp only [cmpB, Z] at h1
  have hAz : A = 0 := hA0.1 (by have := h1; omega)
  refine zF (zG [] (.n (zA (.t rfl))<|.n (op_nilo (.t rfl))<|.n (zI fd90_0 (.t rfl) rfl)<|.w 0 (op_callM 0 (iputN_ok dig_nil) ⟨(.t rfl), (.k rfl), (Lk.sub (sb_nil (mk := inp .u32)) (.k rfl)),  trivial⟩ rfl)<|.nil) ff rfl fun g5 => ⟨_, _, [0], rfl, (.k 0 rfl<|.nil), (.k 0 rfl<|.nil), ?_⟩)
  refine zC ?_
  refine zF (zG [[], [0], [0, 1], [], [0, 1, 2, 3]] (.n (zA (.t rfl))<|.n (op_nilo (.t rfl))<|.n (zI fd90_1 (.t rfl) rfl)<|.n (zP (one_ok) trivial)<|.w 0 (op_callM 0 (iputD_ok (limbs_dig _)) ⟨(.t rfl), (.k rfl), (.t rfl),  trivial⟩ rfl)<|.nil) (fun _ => mixed) rfl fun g6 => ⟨_, _, [0], rfl, (.k 0 rfl<|.nil), (.k 0 rfl<|.nil), ?_⟩)
  refine zC ?_
  refine zF (zG [] (.n (zA (.t rfl))<|.n (zB (.t rfl))<|.nil) ff rfl fun g7 => ⟨_, _, [0], rfl, (.k 8 rfl<|.nil), (.k 0 rfl<|.nil), ?_⟩)
  refine zC ?_
  refine J_ret ?_
  refine zD ?_
  refine JN_to (To.res 0 (r' := blk u (ratC (mkRat (sgnI b A) B)) 90) rfl (res_eq (by have e := rat_cells (b := false) (n := 0) (d := 1) ((mk_zero b B).1.trans (sgnI_zero false).symm) (mk_zero b B).2; rw [limbs_zero] at e; rw [hAz]; exact (congrArg (fun cs => blk u cs 90) (e)))) rfl) ?_
  refine JN_retM 0 hr0 (fix_blk) rfl (.cons (.tmp (.t rfl))<|.nil) (zM (sb_res1 zL) ?_)
  exact zL
 ·try simp only [cmpB, Z] at h1
  have hAn : A ≠ 0 := fun e => by have := hA0.2 e; have := h1; omega
  refine J_skip ?_
  refine zC ?_
  refine J_to (To.freezeM 1 0 hr0 (fix_blk) rfl rfl rfl frz_blk rfl) ?_
  refine zF (zG [] (.n (zA (.t rfl))<|.n (zP (tzb_ok hAl) ⟨(Lk.sub (sb_ok 0 2 rfl rfl) (.t rfl)),  trivial⟩)<|.n (zB (.t rfl))<|.nil) ff rfl fun g8 => ⟨_, _, [0, 2], rfl, (.k 0 rfl<|.k 1 rfl<|.k 2 rfl<|.k 3 rfl<|.k 10 rfl<|.k 11 rfl<|.nil), (.k 0 rfl<|.k 2 rfl<|.nil), ?_⟩)
  refine zC ?_
  refine zF ?_
  refine zF (zG [] (.n (zA (.t rfl))<|.r 1 (op_callL 1 (tzb_ok hBl) (pure_isv _) ⟨.inr ⟨_, (.t rfl), lent_blk⟩,  trivial⟩ rfl)<|.n (zB (.t rfl))<|.nil) ff rfl fun g9 => ⟨_, _, [0, 1], rfl, (.k 0 rfl<|.k 1 rfl<|.k 2 rfl<|.k 3 rfl<|.k 10 rfl<|.k 11 rfl<|.k 12 rfl<|.nil), (.k 0 rfl<|.k 1 rfl<|.nil), ?_⟩)
  refine zC ?_
  refine zF (zG [] (.n (zA (.t rfl))<|.n (zA (.t rfl))<|.n (op_cmp (by simp) (.t rfl) (.t rfl) rfl)<|.nil) ff rfl fun g10 => ⟨_, _, [0, 1], rfl, (.k 0 rfl<|.k 1 rfl<|.k 2 rfl<|.k 3 rfl<|.k 10 rfl<|.k 11 rfl<|.k 12 rfl<|.k 39 rfl<|.nil), (.k 0 rfl<|.k 1 rfl<|.nil), ?_⟩)
  refine zC ?_
  refine J_cutS (ρc := [(0, _), (1, _), (2, _), (3, _), (10, _)]) (ρ1 := [(11, isv (.int .u64 ((min (tzN A) (tzN B) : Nat) : Int)))]) (σ' := [_, _]) (To.pick (fun _ => .k 0 rfl<|.k 1 rfl<|.k 2 rfl<|.k 3 rfl<|.k 10 rfl<|.nil) (fun _ => .k 0 rfl<|.k 1 rfl<|.nil) (ks := [0, 1]) rfl) ?_ ?_
  ·skip
   refine zH (zK (.t rfl)) (fun h2 => ?_) (fun h2 => ?_)
   ·try simp only [cmpB, Z] at h2
    refine (zG [] (.n (zA (.t rfl))<|.n (zB (.t rfl))<|.nil) ff rfl fun g11 => ⟨_, _, [0, 1], rfl, (.k 0 rfl<|.k 1 rfl<|.k 2 rfl<|.k 3 rfl<|.k 10 rfl<|.k 11 rfl<|.nil), (.k 0 rfl<|.k 1 rfl<|.nil), ?_⟩)
    exact JN_cutT (To.pick (fun _ => .sub (t := 11) rfl (sb_eq (congrArg (fun z => isv (.int .u64 z)) (by omega)))<|.k 0 rfl<|.k 1 rfl<|.k 2 rfl<|.k 3 rfl<|.k 10 rfl<|.nil) (fun _ => .k 0 rfl<|.k 1 rfl<|.nil) (ks := [0, 1]) rfl)
   ·try simp only [cmpB, Z] at h2
    refine J_skip ?_
    exact JN_cutT (To.pick (fun _ => .sub (t := 11) rfl (sb_eq (congrArg (fun z => isv (.int .u64 z)) (by omega)))<|.k 0 rfl<|.k 1 rfl<|.k 2 rfl<|.k 3 rfl<|.k 10 rfl<|.nil) (fun _ => .k 0 rfl<|.k 1 rfl<|.nil) (ks := [0, 1]) rfl)
  ·skip
   obtain ⟨t, ht⟩ : ∃ t, t = min (tzN A) (tzN B) := ⟨_, rfl⟩
   rw [← ht]
   have hbn : (B / 2 ^ t) ≠ 0 := (sh_ne hB0 (by omega)).1
   have hsa : Sml (((A / 2 ^ t) : Nat) : Int) := sml_div hA
   have hsb : Sml (((B / 2 ^ t) : Nat) : Int) := sml_div hB
   have hal := sml_lim hsa
   have hbl := sml_lim hsb
   have hbb := bl_lim hbl
   have hbt := tz_lim hbl
   have hbt2 := hbt.2 hbn
   have hgl : (limbs (Nat.gcd (A / 2 ^ t) (B / 2 ^ t))).length ≤ 4000 := sml_lim (sml_le (Nat.gcd_le_right _ (Nat.pos_of_ne_zero hbn)) hsb)
   refine zF (zG [] (.n (zA (.t rfl))<|.n (zA (.t rfl))<|.n (zP (right_ok (limbs_dig _) (by omega) (by omega)) ⟨(.t rfl), (.t rfl),  trivial⟩)<|.n (zB (.t rfl))<|.nil) ff rfl fun g12 => ⟨_, _, [0, 1], rfl, (.k 0 rfl<|.k 1 rfl<|.k 2 rfl<|.k 3 rfl<|.k 10 rfl<|.k 11 rfl<|.nil), (.k 0 rfl<|.k 1 rfl<|.nil), ?_⟩)
   refine zC ?_
   refine J_to (To.slot 2 rfl (q := ils .u32 (limbs (A / 2 ^ t))) (sb_eq (congrArg (fun z => ils .u32 (limbs z)) lea_x))) ?_
   refine zF (zG [] (.n (zA (.t rfl))<|.n (zA (.t rfl))<|.n (zP (right_ok (limbs_dig _) (by omega) (by omega)) ⟨(.t rfl), (.t rfl),  trivial⟩)<|.n (zB (.t rfl))<|.nil) ff rfl fun g13 => ⟨_, _, [0, 1], rfl, (.k 0 rfl<|.k 1 rfl<|.k 2 rfl<|.k 3 rfl<|.k 10 rfl<|.nil), (.k 0 rfl<|.k 1 rfl<|.nil), ?_⟩)
   refine zC ?_
   refine J_to (To.slot 3 rfl (q := ils .u32 (limbs (B / 2 ^ t))) (sb_eq (congrArg (fun z => ils .u32 (limbs z)) lea_x))) ?_
   refine zF (zG [] (.n (zA (.t rfl))<|.n (zA (.t rfl))<|.n (op_nilo (.t rfl))<|.n (zI fd88_1 (.t rfl) rfl)<|.w 1 (op_store_b 1 (.t rfl) (.t rfl) co_slm sz86 rfl rfl rfl)<|.nil) ff rfl fun g14 => ⟨_, _, [0, 1], rfl, (.k 0 rfl<|.k 1 rfl<|.k 2 rfl<|.k 3 rfl<|.k 10 rfl<|.nil), (.k 0 rfl<|.k 1 rfl<|.nil), ?_⟩)
   refine zC ?_
   refine zF ?_
   refine J_to (To.freezeM 1 0 hr0 (fix_blk) rfl rfl rfl frz_blk rfl) ?_
   refine zF (zG [] (.n (zA (.t rfl))<|.n (zP (tzb_ok hbl) ⟨(Lk.sub (sb_ok 0 2 rfl rfl) (.t rfl)),  trivial⟩)<|.n (op_conv_int it76 it3 (.t rfl) (zO (by omega) (by omega)))<|.n (zA (.t rfl))<|.n (zP (iblN_ok hsb) ⟨(Lk.sub (sb_ok 0 2 rfl rfl) (.t rfl)),  trivial⟩)<|.n (op_sub (.t rfl) (.k rfl) (zO (by omega) (by omega)))<|.n (op_cmp (by simp) (.t rfl) (.t rfl) rfl)<|.nil) ff rfl fun g15 => ⟨_, _, [0], rfl, (.k 0 rfl<|.k 1 rfl<|.k 2 rfl<|.k 3 rfl<|.k 57 rfl<|.nil), (.k 0 rfl<|.nil), ?_⟩)
   refine zC ?_
   refine J_cutS (ρc := [(0, _), (1, _)]) (ρ1 := [(2, ils .u32 (limbs ((A / 2 ^ t) / (Nat.gcd (A / 2 ^ t) (B / 2 ^ t))))), (3, ils .u32 (limbs ((B / 2 ^ t) / (Nat.gcd (A / 2 ^ t) (B / 2 ^ t)))))]) (σ' := [_]) (To.pick (fun _ => .k 0 rfl<|.k 1 rfl<|.nil) (fun _ => .k 0 rfl<|.nil) (ks := [0]) rfl) ?_ ?_
   ·skip
    refine zH (zK (.t rfl)) (fun h3 => ?_) (fun h3 => ?_)
    ·try simp only [cmpB, Z] at h3
     refine zF (zG [] (.n (zA (.t rfl))<|.n (zA (.t rfl))<|.n (zP (common_ok hsa hsb) ⟨(.t rfl), (.t rfl),  trivial⟩)<|.n (zB (.t rfl))<|.nil) ff rfl fun g16 => ⟨_, _, [0], rfl, (.k 0 rfl<|.k 1 rfl<|.k 2 rfl<|.k 3 rfl<|.k 13 rfl<|.nil), (.k 0 rfl<|.nil), ?_⟩)
     refine zC ?_
     refine zF (zG [] (.n (zA (.t rfl))<|.n (zP (one_ok) trivial)<|.n (zP (cmp_ok) ⟨(.t rfl), (.t rfl),  trivial⟩)<|.n (op_cmp (by simp) (.t rfl) (.k rfl) rfl)<|.nil) ff rfl fun g17 => ⟨_, _, [0], rfl, (.k 0 rfl<|.k 1 rfl<|.k 2 rfl<|.k 3 rfl<|.k 13 rfl<|.k 64 rfl<|.nil), (.k 0 rfl<|.nil), ?_⟩)
     refine zC ?_
     refine zH (zK (.t rfl)) (fun h4 => ?_) (fun h4 => ?_)
     ·try simp only [cmpB, Z] at h4
      have hGn : 0 < (Nat.gcd (A / 2 ^ t) (B / 2 ^ t)) := Nat.gcd_pos_of_pos_right _ (Nat.pos_of_ne_zero hbn)
      refine zF (zG [] (.n (zA (.t rfl))<|.n (zA (.t rfl))<|.n (zP (over_ok (by omega) (by omega) hGn) ⟨(.t rfl), (.t rfl),  trivial⟩)<|.n (zA (.t rfl))<|.n (op_extract (.t rfl) rfl)<|.n (op_extract (.t rfl) rfl)<|.n (zB (.t rfl))<|.nil) ff rfl fun g18 => ⟨_, _, [0], rfl, (.k 0 rfl<|.k 1 rfl<|.k 2 rfl<|.k 3 rfl<|.k 13 rfl<|.nil), (.k 0 rfl<|.nil), ?_⟩)
      refine zC ?_
      refine (zG [] (.n (zA (.t rfl))<|.n (zA (.t rfl))<|.n (zP (over_ok (by omega) (by omega) hGn) ⟨(.t rfl), (.t rfl),  trivial⟩)<|.n (zA (.t rfl))<|.n (op_extract (.t rfl) rfl)<|.n (op_extract (.t rfl) rfl)<|.n (zB (.t rfl))<|.nil) ff rfl fun g19 => ⟨_, _, [0], rfl, (.k 0 rfl<|.k 1 rfl<|.k 2 rfl<|.k 3 rfl<|.nil), (.k 0 rfl<|.nil), ?_⟩)
      exact JN_cutT (To.pick (fun _ => .sub (t := 2) rfl (sb_eq (by first | rw [hG1, Nat.div_one] | rfl))<|.sub (t := 3) rfl (sb_eq (by first | rw [hG1, Nat.div_one] | rfl))<|.k 0 rfl<|.k 1 rfl<|.nil) (fun _ => .k 0 rfl<|.nil) (ks := [0]) rfl)
     ·try simp only [cmpB, Z] at h4
      have hG1 : (Nat.gcd (A / 2 ^ t) (B / 2 ^ t)) = 1 := Classical.byContradiction fun e => cmpN_ne.2 e (by have := h4; omega)
      refine J_skip ?_
      exact JN_cutT (To.pick (fun _ => .sub (t := 2) rfl (sb_eq (by first | rw [hG1, Nat.div_one] | rfl))<|.sub (t := 3) rfl (sb_eq (by first | rw [hG1, Nat.div_one] | rfl))<|.k 0 rfl<|.k 1 rfl<|.nil) (fun _ => .k 0 rfl<|.nil) (ks := [0]) rfl)
    ·try simp only [cmpB, Z] at h3
     have hG1 : (Nat.gcd (A / 2 ^ t) (B / 2 ^ t)) = 1 := gc_pow hAn hB0 ht (by have := h3; omega)
     refine J_skip ?_
     exact JN_cutT (To.pick (fun _ => .sub (t := 2) rfl (sb_eq (by first | rw [hG1, Nat.div_one] | rfl))<|.sub (t := 3) rfl (sb_eq (by first | rw [hG1, Nat.div_one] | rfl))<|.k 0 rfl<|.k 1 rfl<|.nil) (fun _ => .k 0 rfl<|.nil) (ks := [0]) rfl)
   ·skip
    refine zF (zG [] (.n (zA (.t rfl))<|.n (op_nilo (.t rfl))<|.n (zI fd90_0 (.t rfl) rfl)<|.n (zA (.t rfl))<|.n (zA (.t rfl))<|.w 0 (op_callM 0 (iputN_ok (limbs_dig _)) ⟨(.t rfl), (.t rfl), (.t rfl),  trivial⟩ rfl)<|.nil) ff rfl fun g20 => ⟨_, _, [0], rfl, (.k 0 rfl<|.k 3 rfl<|.nil), (.k 0 rfl<|.nil), ?_⟩)
    refine zC ?_
    refine zF (zG [] (.n (zA (.t rfl))<|.n (op_nilo (.t rfl))<|.n (zI fd90_1 (.t rfl) rfl)<|.n (zA (.t rfl))<|.w 0 (op_callM 0 (iputD_ok (limbs_dig _)) ⟨(.t rfl), (.k rfl), (.t rfl),  trivial⟩ rfl)<|.nil) ff rfl fun g21 => ⟨_, _, [0], rfl, (.k 0 rfl<|.nil), (.k 0 rfl<|.nil), ?_⟩)
    refine zC ?_
    refine zF (zG [] (.n (zA (.t rfl))<|.n (zB (.t rfl))<|.nil) ff rfl fun g22 => ⟨_, _, [0], rfl, (.k 8 rfl<|.nil), (.k 0 rfl<|.nil), ?_⟩)
    refine zC ?_
    refine J_ret ?_
    refine JN_to (To.res 0 (r' := blk u (ratC (mkRat (sgnI b A) B)) 90) rfl (res_eq (by exact (congrArg (fun cs => blk u cs 90) (rat_cells (hmp.1.trans (by rw [(gc_shift hAn hB0 ht).1])) (hmp.2.trans (gc_shift hAn hB0 ht).2))))) rfl) ?_
    refine JN_retM 0 hr0 (fix_blk) rfl (.cons (.tmp (.t rfl))<|.nil) (zM (sb_res1 zL) ?_)
    exact zL
theorem rfrac_ok {u : Value} {q0 q1 q2 q3 : SP} {x y : Int} (hx : Sml x) (hy : Sml y) (hy0 : y ≠ 0) : CtM Tryz.prog 72 [ipo u 0, intP x, intP y] (blk u [q0, q1, q2, q3] 90) (ipo u 0) (blk u (ratC (mkRat (sgnI (decide (x < 0) != decide (y < 0)) x.natAbs) y.natAbs)) 90) := by
 refine CtM.of Tryz.func72 rfl (by kernel_rfl) rfl (fix_blk) fun c0 ob hr0 => ?_
 refine zF (zG [] (.n (zB (.k rfl))<|.nil) ff rfl fun g1 => ⟨_, _, [0], rfl, (.k 0 rfl<|.k 1 rfl<|.k 2 rfl<|.nil), (.k 0 rfl<|.nil), ?_⟩)
 refine zC ?_
 refine zF (zG [[], [], [1], [1, 2], [1, 2, 3], [], [5], [5, 6], [5, 6, 7], [1, 2, 3, 4, 5, 6, 7, 8], [], [10], [10, 11], [10, 11, 12], [], [14], [14, 15], [14, 15, 16], [0, 1, 2, 3, 4, 5, 6, 7, 8, 9, 10, 11, 12, 13, 14, 15, 16, 17], [0, 1, 2, 3, 4, 5, 6, 7, 8, 9, 10, 11, 12, 13, 14, 15, 16, 17, 18]] (.n (zA (.t rfl))<|.n (zA (.t rfl))<|.n (op_nilp (.t rfl))<|.n (op_field_ptr fd88_0 (.t rfl) rfl)<|.n (op_load_sc sc4 (.t rfl) rfl)<|.n (zA (.t rfl))<|.n (op_nilp (.t rfl))<|.n (op_field_ptr fd88_0 (.t rfl) rfl)<|.n (op_load_sc sc4 (.t rfl) rfl)<|.n (op_bne Tryz.underlying4 (.t rfl) (.t rfl))<|.n (zA (.t rfl))<|.n (op_nilp (.t rfl))<|.n (op_field_ptr fd88_1 (.t rfl) rfl)<|.n (op_load_sc sc86 (.t rfl) rfl)<|.n (zA (.t rfl))<|.n (op_nilp (.t rfl))<|.n (op_field_ptr fd88_1 (.t rfl) rfl)<|.n (op_load_sc sc86 (.t rfl) rfl)<|.w 0 (op_callM 0 (rmade_ok (sml_abs hx) (sml_abs hy) (by omega)) ⟨(.t rfl), (.t rfl), (.t rfl), (.t rfl),  trivial⟩ rfl)<|.n (zB (.t rfl))<|.nil) (fun _ => mixed) rfl fun g2 => ⟨_, _, [0], rfl, (.k 6 rfl<|.nil), (.k 0 rfl<|.nil), ?_⟩)
 refine zC ?_
 refine J_ret ?_
 refine JN_retM 0 hr0 (fix_blk) rfl (.cons (.tmp (.t rfl))<|.nil) (zM (sb_res1 zL) ?_)
 exact zL
theorem rint_ok {u : Value} {q0 q1 q2 q3 : SP} {x : Int} (hx : Sml x) : CtM Tryz.prog 70 [ipo u 0, intP x] (blk u [q0, q1, q2, q3] 90) (ipo u 0) (blk u (ratC (mkRat (sgnI (decide (x < 0)) x.natAbs) 1)) 90) := by
 refine CtM.of Tryz.func70 rfl (by kernel_rfl) rfl (fix_blk) fun c0 ob hr0 => ?_
 refine zF (zG [] (.n (zB (.k rfl))<|.nil) ff rfl fun g1 => ⟨_, _, [0], rfl, (.k 0 rfl<|.k 1 rfl<|.nil), (.k 0 rfl<|.nil), ?_⟩)
 refine zC ?_
 refine zF (zG [[], [], [1], [1, 2], [1, 2, 3], [], [5], [5, 6], [5, 6, 7], [], [0, 1, 2, 3, 4, 5, 6, 7, 8, 9], [0, 1, 2, 3, 4, 5, 6, 7, 8, 9, 10]] (.n (zA (.t rfl))<|.n (zA (.t rfl))<|.n (op_nilp (.t rfl))<|.n (op_field_ptr fd88_0 (.t rfl) rfl)<|.n (op_load_sc sc4 (.t rfl) rfl)<|.n (zA (.t rfl))<|.n (op_nilp (.t rfl))<|.n (op_field_ptr fd88_1 (.t rfl) rfl)<|.n (op_load_sc sc86 (.t rfl) rfl)<|.n (zP (one_ok) trivial)<|.w 0 (op_callM 0 (rmade_ok (sml_abs hx) sml_1 (by omega)) ⟨(.t rfl), (.t rfl), (.t rfl), (.t rfl),  trivial⟩ rfl)<|.n (zB (.t rfl))<|.nil) (fun _ => mixed) rfl fun g2 => ⟨_, _, [0], rfl, (.k 4 rfl<|.nil), (.k 0 rfl<|.nil), ?_⟩)
 refine zC ?_
 refine J_ret ?_
 refine JN_retM 0 hr0 (fix_blk) rfl (.cons (.tmp (.t rfl))<|.nil) (zM (sb_res1 zL) ?_)
 exact zL
theorem rset_ok {u : Value} {q0 q1 q2 q3 : SP} {x : Rat} (hx : Rsz 4000 x) : CtM Tryz.prog 61 [ipo u 0, ratP x] (blk u [q0, q1, q2, q3] 90) (ipo u 0) (blk u (ratC (x)) 90) := by
 refine CtM.of Tryz.func61 rfl (by kernel_rfl) rfl (fix_blk) fun c0 ob hr0 => ?_
 obtain ⟨hxl, hxd⟩ := hx.len (Nat.le_refl _)
 refine zF (zG [] (.n (zB (.k rfl))<|.nil) ff rfl fun g1 => ⟨_, _, [0], rfl, (.k 0 rfl<|.k 1 rfl<|.nil), (.k 0 rfl<|.nil), ?_⟩)
 refine zC ?_
 refine zF (zG [] (.n (zA (.t rfl))<|.n (op_nilp (.t rfl))<|.n (op_field_ptr fd90_0 (.t rfl) rfl)<|.n (op_field_ptr fd88_0 (.t rfl) rfl)<|.n (op_load_sc sc4 (.t rfl) rfl)<|.n (zB (.t rfl))<|.nil) ff rfl fun g2 => ⟨_, _, [0], rfl, (.k 0 rfl<|.k 1 rfl<|.k 5 rfl<|.nil), (.k 0 rfl<|.nil), ?_⟩)
 refine zC ?_
 refine zF (zG [] (.n (zA (.t rfl))<|.n (op_nilp (.t rfl))<|.n (op_field_ptr fd90_0 (.t rfl) rfl)<|.n (op_field_ptr fd88_1 (.t rfl) rfl)<|.n (op_load_sc sc86 (.t rfl) rfl)<|.n (op_append_nil sl86 zr132 rfl (.k rfl) (.t rfl) (by omega) (by omega))<|.n (zB (.t rfl))<|.nil) ff rfl fun g3 => ⟨_, _, [0], rfl, (.k 0 rfl<|.k 1 rfl<|.k 5 rfl<|.k 6 rfl<|.nil), (.k 0 rfl<|.nil), ?_⟩)
 refine zC ?_
 refine zF (zG [] (.n (zA (.t rfl))<|.n (zP (bottom_ok) ⟨(.t rfl),  trivial⟩)<|.n (op_append_nil sl86 zr132 rfl (.k rfl) (.t rfl) (by omega) (by omega))<|.n (zB (.t rfl))<|.nil) ff rfl fun g4 => ⟨_, _, [0], rfl, (.k 0 rfl<|.k 5 rfl<|.k 6 rfl<|.k 7 rfl<|.nil), (.k 0 rfl<|.nil), ?_⟩)
 refine zC ?_
 refine zF (zG [] (.n (zA (.t rfl))<|.n (op_nilo (.t rfl))<|.n (zI fd90_0 (.t rfl) rfl)<|.n (zA (.t rfl))<|.n (zA (.t rfl))<|.w 0 (op_callM 0 (iputN_ok (limbs_dig _)) ⟨(.t rfl), (.t rfl), (.t rfl),  trivial⟩ rfl)<|.nil) ff rfl fun g5 => ⟨_, _, [0], rfl, (.k 0 rfl<|.k 7 rfl<|.nil), (.k 0 rfl<|.nil), ?_⟩)
 refine zC ?_
 refine zF (zG [] (.n (zA (.t rfl))<|.n (op_nilo (.t rfl))<|.n (zI fd90_1 (.t rfl) rfl)<|.n (zA (.t rfl))<|.w 0 (op_callM 0 (iputD_ok (limbs_dig _)) ⟨(.t rfl), (.k rfl), (.t rfl),  trivial⟩ rfl)<|.nil) ff rfl fun g6 => ⟨_, _, [0], rfl, (.k 0 rfl<|.nil), (.k 0 rfl<|.nil), ?_⟩)
 refine zC ?_
 refine zF (zG [] (.n (zA (.t rfl))<|.n (zB (.t rfl))<|.nil) ff rfl fun g7 => ⟨_, _, [0], rfl, (.k 4 rfl<|.nil), (.k 0 rfl<|.nil), ?_⟩)
 refine zC ?_
 refine J_ret ?_
 refine JN_to (To.res 0 (r' := blk u (ratC (x)) 90) rfl (res_eq (by exact (congrArg (fun cs => blk u cs 90) (rat_cells (b := decide (x.num < 0)) (n := x.num.natAbs) (d := x.den) set_1.symm rfl)))) rfl) ?_
 refine JN_retM 0 hr0 (fix_blk) rfl (.cons (.tmp (.t rfl))<|.nil) (zM (sb_res1 zL) ?_)
 exact zL
theorem rmul_ok {u : Value} {q0 q1 q2 q3 : SP} {x y : Rat} (hx : Rsz 2000 x) (hy : Rsz 2000 y) : CtM Tryz.prog 64 [ipo u 0, ratP x, ratP y] (blk u [q0, q1, q2, q3] 90) (ipo u 0) (blk u (ratC (x * y)) 90) := by
 refine CtM.of Tryz.func64 rfl (by kernel_rfl) rfl (fix_blk) fun c0 ob hr0 => ?_
 obtain ⟨hxl, hxd⟩ := hx.len (by omega)
 obtain ⟨hyl, hyd⟩ := hy.len (by omega)
 refine zF (zG [] (.n (zB (.k rfl))<|.nil) ff rfl fun g1 => ⟨_, _, [0], rfl, (.k 0 rfl<|.k 1 rfl<|.k 2 rfl<|.nil), (.k 0 rfl<|.nil), ?_⟩)
 refine zC ?_
 refine zF (zG [[], [], [1], [1, 2], [1, 2, 3], [1, 2, 3, 4], [], [6], [6, 7], [6, 7, 8], [6, 7, 8, 9], [1, 2, 3, 4, 5, 6, 7, 8, 9, 10], [], [12], [12, 13], [12, 13, 14], [12, 13, 14, 15], [], [17], [17, 18], [17, 18, 19], [17, 18, 19, 20], [12, 13, 14, 15, 16, 17, 18, 19, 20, 21], [], [12, 13, 14, 15, 16, 17, 18, 19, 20, 21, 22, 23], [], [12, 13, 14, 15, 16, 17, 18, 19, 20, 21, 22, 23, 24, 25], [12, 13, 14, 15, 16, 17, 18, 19, 20, 21, 22, 23, 24, 25, 26], [0, 1, 2, 3, 4, 5, 6, 7, 8, 9, 10, 11, 12, 13, 14, 15, 16, 17, 18, 19, 20, 21, 22, 23, 24, 25, 26, 27], [0, 1, 2, 3, 4, 5, 6, 7, 8, 9, 10, 11, 12, 13, 14, 15, 16, 17, 18, 19, 20, 21, 22, 23, 24, 25, 26, 27, 28]] (.n (zA (.t rfl))<|.n (zA (.t rfl))<|.n (op_nilp (.t rfl))<|.n (op_field_ptr fd90_0 (.t rfl) rfl)<|.n (op_field_ptr fd88_0 (.t rfl) rfl)<|.n (op_load_sc sc4 (.t rfl) rfl)<|.n (zA (.t rfl))<|.n (op_nilp (.t rfl))<|.n (op_field_ptr fd90_0 (.t rfl) rfl)<|.n (op_field_ptr fd88_0 (.t rfl) rfl)<|.n (op_load_sc sc4 (.t rfl) rfl)<|.n (op_bne Tryz.underlying4 (.t rfl) (.t rfl))<|.n (zA (.t rfl))<|.n (op_nilp (.t rfl))<|.n (op_field_ptr fd90_0 (.t rfl) rfl)<|.n (op_field_ptr fd88_1 (.t rfl) rfl)<|.n (op_load_sc sc86 (.t rfl) rfl)<|.n (zA (.t rfl))<|.n (op_nilp (.t rfl))<|.n (op_field_ptr fd90_0 (.t rfl) rfl)<|.n (op_field_ptr fd88_1 (.t rfl) rfl)<|.n (op_load_sc sc86 (.t rfl) rfl)<|.n (zP (times_ok (limbs_dig _) (limbs_dig _) (by omega) (by omega)) ⟨(.t rfl), (.t rfl),  trivial⟩)<|.n (zA (.t rfl))<|.n (zP (bottom_ok) ⟨(.t rfl),  trivial⟩)<|.n (zA (.t rfl))<|.n (zP (bottom_ok) ⟨(.t rfl),  trivial⟩)<|.n (zP (times_ok (limbs_dig _) (limbs_dig _) (by omega) (by omega)) ⟨(.t rfl), (.t rfl),  trivial⟩)<|.w 0 (op_callM 0 (rmade_ok (tim_sml hx.a hy.a (by omega)) (tim_sml hx.b hy.b (by omega)) (tim_ne x.den_nz y.den_nz)) ⟨(.t rfl), (.t rfl), (.t rfl), (.t rfl),  trivial⟩ rfl)<|.n (zB (.t rfl))<|.nil) (fun _ => mixed) rfl fun g2 => ⟨_, _, [0], rfl, (.k 6 rfl<|.nil), (.k 0 rfl<|.nil), ?_⟩)
 refine zC ?_
 refine J_ret ?_
 refine JN_to (To.res 0 (r' := blk u (ratC (x * y)) 90) rfl (res_eq (by rw [tim_nat, tim_nat, rat_mul])) rfl) ?_
 refine JN_retM 0 hr0 (fix_blk) rfl (.cons (.tmp (.t rfl))<|.nil) (zM (sb_res1 zL) ?_)
 exact zL
theorem rquo_ok {u : Value} {q0 q1 q2 q3 : SP} {x y : Rat} (hx : Rsz 2000 x) (hy : Rsz 2000 y) (hy0 : y ≠ 0) : CtM Tryz.prog 51 [ipo u 0, ratP x, ratP y] (blk u [q0, q1, q2, q3] 90) (ipo u 0) (blk u (ratC (x / y)) 90) := by
 refine CtM.of Tryz.func51 rfl (by kernel_rfl) rfl (fix_blk) fun c0 ob hr0 => ?_
 obtain ⟨hxl, hxd⟩ := hx.len (by omega)
 obtain ⟨hyl, hyd⟩ := hy.len (by omega)
 have hyn : y.num.natAbs ≠ 0 := fun e => hy0 (Rat.num_eq_zero.1 (by omega))
 refine zF (zG [] (.n (zB (.k rfl))<|.nil) ff rfl fun g1 => ⟨_, _, [0], rfl, (.k 0 rfl<|.k 1 rfl<|.k 2 rfl<|.nil), (.k 0 rfl<|.nil), ?_⟩)
 refine zC ?_
 refine zF (zG [[], [], [1], [1, 2], [1, 2, 3], [1, 2, 3, 4], [], [6], [6, 7], [6, 7, 8], [6, 7, 8, 9], [1, 2, 3, 4, 5, 6, 7, 8, 9, 10], [], [12], [12, 13], [12, 13, 14], [12, 13, 14, 15], [], [17], [12, 13, 14, 15, 16, 17, 18], [], [12, 13, 14, 15, 16, 17, 18, 19, 20], [], [22], [22, 23], [22, 23, 24], [22, 23, 24, 25], [12, 13, 14, 15, 16, 17, 18, 19, 20, 21, 22, 23, 24, 25, 26], [0, 1, 2, 3, 4, 5, 6, 7, 8, 9, 10, 11, 12, 13, 14, 15, 16, 17, 18, 19, 20, 21, 22, 23, 24, 25, 26, 27], [0, 1, 2, 3, 4, 5, 6, 7, 8, 9, 10, 11, 12, 13, 14, 15, 16, 17, 18, 19, 20, 21, 22, 23, 24, 25, 26, 27, 28]] (.n (zA (.t rfl))<|.n (zA (.t rfl))<|.n (op_nilp (.t rfl))<|.n (op_field_ptr fd90_0 (.t rfl) rfl)<|.n (op_field_ptr fd88_0 (.t rfl) rfl)<|.n (op_load_sc sc4 (.t rfl) rfl)<|.n (zA (.t rfl))<|.n (op_nilp (.t rfl))<|.n (op_field_ptr fd90_0 (.t rfl) rfl)<|.n (op_field_ptr fd88_0 (.t rfl) rfl)<|.n (op_load_sc sc4 (.t rfl) rfl)<|.n (op_bne Tryz.underlying4 (.t rfl) (.t rfl))<|.n (zA (.t rfl))<|.n (op_nilp (.t rfl))<|.n (op_field_ptr fd90_0 (.t rfl) rfl)<|.n (op_field_ptr fd88_1 (.t rfl) rfl)<|.n (op_load_sc sc86 (.t rfl) rfl)<|.n (zA (.t rfl))<|.n (zP (bottom_ok) ⟨(.t rfl),  trivial⟩)<|.n (zP (times_ok (limbs_dig _) (limbs_dig _) (by omega) (by omega)) ⟨(.t rfl), (.t rfl),  trivial⟩)<|.n (zA (.t rfl))<|.n (zP (bottom_ok) ⟨(.t rfl),  trivial⟩)<|.n (zA (.t rfl))<|.n (op_nilp (.t rfl))<|.n (op_field_ptr fd90_0 (.t rfl) rfl)<|.n (op_field_ptr fd88_1 (.t rfl) rfl)<|.n (op_load_sc sc86 (.t rfl) rfl)<|.n (zP (times_ok (limbs_dig _) (limbs_dig _) (by omega) (by omega)) ⟨(.t rfl), (.t rfl),  trivial⟩)<|.w 0 (op_callM 0 (rmade_ok (tim_sml hx.a hy.b (by omega)) (tim_sml hx.b hy.a (by omega)) (tim_ne x.den_nz hyn)) ⟨(.t rfl), (.t rfl), (.t rfl), (.t rfl),  trivial⟩ rfl)<|.n (zB (.t rfl))<|.nil) (fun _ => mixed) rfl fun g2 => ⟨_, _, [0], rfl, (.k 6 rfl<|.nil), (.k 0 rfl<|.nil), ?_⟩)
 refine zC ?_
 refine J_ret ?_
 refine JN_to (To.res 0 (r' := blk u (ratC (x / y)) 90) rfl (res_eq (by rw [tim_nat, tim_nat, rat_quo hy0])) rfl) ?_
 refine JN_retM 0 hr0 (fix_blk) rfl (.cons (.tmp (.t rfl))<|.nil) (zM (sb_res1 zL) ?_)
 exact zL
theorem cross_ok {x y : Rat} (hx : Rsz 2000 x) (hy : Rsz 2000 y) : Ct Tryz.prog 58 [ratP x, ratP y] (tupp [ptp [isv (.bool (decide (x.num < 0))), ils .u32 (limbs (magI (limbs x.num.natAbs) * magI (limbs y.den)).toNat)], ptp [isv (.bool (decide (y.num < 0))), ils .u32 (limbs (magI (limbs y.num.natAbs) * magI (limbs x.den)).toNat)]]) := by
 refine Ct.of Tryz.func58 rfl (by kernel_rfl) rfl fun c0 => ?_
 obtain ⟨hxl, hxd⟩ := hx.len (by omega)
 obtain ⟨hyl, hyd⟩ := hy.len (by omega)
 refine zF (zG [] (.n (zB (.k rfl))<|.n (zB (.k rfl))<|.nil) ff rfl fun g1 => ⟨_, _, [], rfl, (.k 0 rfl<|.k 1 rfl<|.nil), (.nil), ?_⟩)
 refine zC ?_
 refine J_to (To.emps 1) ?_
 refine zF (zG [[], [0], [0, 1], [0, 1, 2], [0, 1, 2, 3], [], [5], [5, 6], [5, 6, 7], [5, 6, 7, 8], [], [10], [5, 6, 7, 8, 9, 10, 11], [0, 1, 2, 3, 4, 5, 6, 7, 8, 9, 10, 11, 12], [0, 1, 2, 3, 4, 5, 6, 7, 8, 9, 10, 11, 12, 13], [0, 1, 2, 3, 4, 5, 6, 7, 8, 9, 10, 11, 12, 13, 14]] (.n (zA (.t rfl))<|.n (op_nilp (.t rfl))<|.n (op_field_ptr fd90_0 (.t rfl) rfl)<|.n (op_field_ptr fd88_0 (.t rfl) rfl)<|.n (op_load_sc sc4 (.t rfl) rfl)<|.n (zA (.t rfl))<|.n (op_nilp (.t rfl))<|.n (op_field_ptr fd90_0 (.t rfl) rfl)<|.n (op_field_ptr fd88_1 (.t rfl) rfl)<|.n (op_load_sc sc86 (.t rfl) rfl)<|.n (zA (.t rfl))<|.n (zP (bottom_ok) ⟨(.t rfl),  trivial⟩)<|.n (zP (times_ok (limbs_dig _) (limbs_dig _) (by omega) (by omega)) ⟨(.t rfl), (.t rfl),  trivial⟩)<|.n (op_build zr88 rfl pl88 (.cons rfl (.t rfl) co_isv rfl (puts_l rfl (Nat.le_of_ble_eq_true rfl)) (.cons rfl (.t rfl) co_slm rfl (puts_l rfl (Nat.le_of_ble_eq_true rfl)) .nil)))<|.w 0 (op_box 0 (.t rfl) co_agg rfl)<|.n (op_assign_ve rfl rfl)<|.nil) (fun _ => mixed) rfl fun g2 => ⟨_, _, [0], rfl, (.k 0 rfl<|.k 1 rfl<|.k 6 rfl<|.nil), (.k 0 rfl<|.nil), ?_⟩)
 refine zC ?_
 refine J_to (To.emps 1) ?_
 refine zF (zG [[], [0], [0, 1], [0, 1, 2], [0, 1, 2, 3], [], [5], [5, 6], [5, 6, 7], [5, 6, 7, 8], [], [10], [5, 6, 7, 8, 9, 10, 11], [0, 1, 2, 3, 4, 5, 6, 7, 8, 9, 10, 11, 12], [0, 1, 2, 3, 4, 5, 6, 7, 8, 9, 10, 11, 12, 13], [0, 1, 2, 3, 4, 5, 6, 7, 8, 9, 10, 11, 12, 13, 14]] (.n (zA (.t rfl))<|.n (op_nilp (.t rfl))<|.n (op_field_ptr fd90_0 (.t rfl) rfl)<|.n (op_field_ptr fd88_0 (.t rfl) rfl)<|.n (op_load_sc sc4 (.t rfl) rfl)<|.n (zA (.t rfl))<|.n (op_nilp (.t rfl))<|.n (op_field_ptr fd90_0 (.t rfl) rfl)<|.n (op_field_ptr fd88_1 (.t rfl) rfl)<|.n (op_load_sc sc86 (.t rfl) rfl)<|.n (zA (.t rfl))<|.n (zP (bottom_ok) ⟨(.t rfl),  trivial⟩)<|.n (zP (times_ok (limbs_dig _) (limbs_dig _) (by omega) (by omega)) ⟨(.t rfl), (.t rfl),  trivial⟩)<|.n (op_build zr88 rfl pl88 (.cons rfl (.t rfl) co_isv rfl (puts_l rfl (Nat.le_of_ble_eq_true rfl)) (.cons rfl (.t rfl) co_slm rfl (puts_l rfl (Nat.le_of_ble_eq_true rfl)) .nil)))<|.w 1 (op_box 1 (.t rfl) co_agg rfl)<|.n (op_assign_ve rfl rfl)<|.nil) (fun _ => mixed) rfl fun g3 => ⟨_, _, [0, 1], rfl, (.k 6 rfl<|.k 7 rfl<|.nil), (.k 0 rfl<|.k 1 rfl<|.nil), ?_⟩)
 refine zC ?_
 refine zF (zG [] (.n (zA (.t rfl))<|.n (zA (.t rfl))<|.n (zB (.t rfl))<|.n (zB (.t rfl))<|.nil) ff rfl fun g4 => ⟨_, _, [0, 1], rfl, (.k 4 rfl<|.k 5 rfl<|.nil), (.k 0 rfl<|.k 1 rfl<|.nil), ?_⟩)
 refine zC ?_
 refine J_ret ?_
 refine JN_to (To.freeze 0 (fun _ h => h) rfl frz_blk rfl) ?_
 refine JN_to (To.freeze 1 (fun _ h => h) rfl frz_blk rfl) ?_
 refine zQ (.cons (.tmp (.t rfl))<|.cons (.tmp (.t rfl))<|.nil) (zM (sb_res (.cons (sb_ok 1 2 rfl rfl)<|.cons (sb_ok 0 2 rfl rfl)<|.nil)) ?_)
 exact zL
theorem bottomA_ok {u : Value} {q : Rat} : CtM Tryz.prog 67 [ipo u 0] (blk u (ratC (q)) 90) (ils .u32 (limbs q.den)) (blk u (ratC (q)) 90) := by
 refine CtM.of Tryz.func67 rfl (by kernel_rfl) rfl (fix_blk) fun c0 ob hr0 => ?_
 have hden := q.den_nz
 have hdl := limbs_len0 (n := q.den)
 refine zF (zG [] (.n (zB (.k rfl))<|.nil) ff rfl fun g1 => ⟨_, _, [0], rfl, (.k 0 rfl<|.nil), (.k 0 rfl<|.nil), ?_⟩)
 refine zC ?_
 refine zF ?_
 refine zF (zG [] (.n (zA (.t rfl))<|.n (op_nilo (.t rfl))<|.n (zI fd90_1 (.t rfl) rfl)<|.n (zI fd88_1 (.t rfl) rfl)<|.r 0 (zN 0 sc86 (.t rfl) rfl zJ rfl)<|.n (op_len_m sl86 (.t rfl))<|.n (op_cmp (by simp) (.t rfl) (.k rfl) rfl)<|.nil) ff rfl fun g2 => ⟨_, _, [0], rfl, (.k 0 rfl<|.k 9 rfl<|.nil), (.k 0 rfl<|.nil), ?_⟩)
 refine zC ?_
 refine zH (zK (.t rfl)) (fun h1 => ?_) (fun h1 => ?_)
 ·try simp only [cmpB, Z] at h1
  exact absurd h1 (fun e => hden (hdl.1 (by omega)))
 ·try simp only [cmpB, Z] at h1
  refine J_skip ?_
  refine zC ?_
  refine zF (zG [] (.n (zA (.t rfl))<|.n (op_nilo (.t rfl))<|.n (zI fd90_1 (.t rfl) rfl)<|.n (zI fd88_1 (.t rfl) rfl)<|.r 0 (zN 0 sc86 (.t rfl) rfl zJ rfl)<|.n (zB (.t rfl))<|.nil) ff rfl fun g3 => ⟨_, _, [0], rfl, (.k 2 rfl<|.nil), (.k 0 rfl<|.nil), ?_⟩)
  refine zC ?_
  refine J_ret ?_
  refine JN_retM 0 hr0 (fix_blk) rfl (.cons (.tmp (.t rfl))<|.nil) (zM (sb_res1 zL) ?_)
  exact zL
theorem crossC_ok {u : Value} {x y : Rat} (hx : Rsz 900 x) (hy : Rsz 3000 y) : CtM Tryz.prog 58 [ipo u 0, ratP y] (blk u (ratC (x)) 90) (tupp [ptp [isv (.bool (decide (x.num < 0))), ils .u32 (limbs (magI (limbs x.num.natAbs) * magI (limbs y.den)).toNat)], ptp [isv (.bool (decide (y.num < 0))), ils .u32 (limbs (magI (limbs y.num.natAbs) * magI (limbs x.den)).toNat)]]) (blk u (ratC (x)) 90) := by
 refine CtM.of Tryz.func58 rfl (by kernel_rfl) rfl (fix_blk) fun c0 ob hr0 => ?_
 obtain ⟨hxl, hxd⟩ := hx.len (by omega)
 obtain ⟨hyl, hyd⟩ := hy.len (by omega)
 refine zF (zG [] (.n (zB (.k rfl))<|.n (zB (.k rfl))<|.nil) ff rfl fun g1 => ⟨_, _, [0], rfl, (.k 0 rfl<|.k 1 rfl<|.nil), (.k 0 rfl<|.nil), ?_⟩)
 refine zC ?_
 refine J_to (To.emps 1) ?_
 refine zF (zG [[], [0], [0, 1], [0, 1, 2], [0, 1, 2, 3], [], [5], [5, 6], [5, 6, 7], [5, 6, 7, 8], [], [10], [5, 6, 7, 8, 9, 10, 11], [0, 1, 2, 3, 4, 5, 6, 7, 8, 9, 10, 11, 12], [0, 1, 2, 3, 4, 5, 6, 7, 8, 9, 10, 11, 12, 13], [0, 1, 2, 3, 4, 5, 6, 7, 8, 9, 10, 11, 12, 13, 14]] (.n (zA (.t rfl))<|.n (op_nilo (.t rfl))<|.n (zI fd90_0 (.t rfl) rfl)<|.n (zI fd88_0 (.t rfl) rfl)<|.r 0 (zN 0 sc4 (.t rfl) rfl zJ rfl)<|.n (zA (.t rfl))<|.n (op_nilo (.t rfl))<|.n (zI fd90_0 (.t rfl) rfl)<|.n (zI fd88_1 (.t rfl) rfl)<|.r 0 (zN 0 sc86 (.t rfl) rfl zJ rfl)<|.n (zA (.t rfl))<|.n (zP (bottom_ok) ⟨(.t rfl),  trivial⟩)<|.n (zP (times_ok (limbs_dig _) (limbs_dig _) (by omega) (by omega)) ⟨(.t rfl), (.t rfl),  trivial⟩)<|.n (op_build zr88 rfl pl88 (.cons rfl (.t rfl) co_isv rfl (puts_l rfl (Nat.le_of_ble_eq_true rfl)) (.cons rfl (.t rfl) co_slm rfl (puts_l rfl (Nat.le_of_ble_eq_true rfl)) .nil)))<|.w 1 (op_box 1 (.t rfl) co_agg rfl)<|.n (op_assign_ve rfl rfl)<|.nil) (fun _ => mixed) rfl fun g2 => ⟨_, _, [0, 1], rfl, (.k 0 rfl<|.k 1 rfl<|.k 6 rfl<|.nil), (.k 0 rfl<|.k 1 rfl<|.nil), ?_⟩)
 refine zC ?_
 refine J_to (To.emps 1) ?_
 refine zF (zG [[], [0], [0, 1], [0, 1, 2], [0, 1, 2, 3], [], [5], [5, 6], [5, 6, 7], [5, 6, 7, 8], [], [10], [5, 6, 7, 8, 9, 10, 11], [0, 1, 2, 3, 4, 5, 6, 7, 8, 9, 10, 11, 12], [0, 1, 2, 3, 4, 5, 6, 7, 8, 9, 10, 11, 12, 13], [0, 1, 2, 3, 4, 5, 6, 7, 8, 9, 10, 11, 12, 13, 14]] (.n (zA (.t rfl))<|.n (op_nilp (.t rfl))<|.n (op_field_ptr fd90_0 (.t rfl) rfl)<|.n (op_field_ptr fd88_0 (.t rfl) rfl)<|.n (op_load_sc sc4 (.t rfl) rfl)<|.n (zA (.t rfl))<|.n (op_nilp (.t rfl))<|.n (op_field_ptr fd90_0 (.t rfl) rfl)<|.n (op_field_ptr fd88_1 (.t rfl) rfl)<|.n (op_load_sc sc86 (.t rfl) rfl)<|.n (zA (.t rfl))<|.w 0 (op_callM 0 (bottomA_ok) ⟨(.t rfl),  trivial⟩ rfl)<|.n (zP (times_ok (limbs_dig _) (limbs_dig _) (by omega) (by omega)) ⟨(.t rfl), (.t rfl),  trivial⟩)<|.n (op_build zr88 rfl pl88 (.cons rfl (.t rfl) co_isv rfl (puts_l rfl (Nat.le_of_ble_eq_true rfl)) (.cons rfl (.t rfl) co_slm rfl (puts_l rfl (Nat.le_of_ble_eq_true rfl)) .nil)))<|.w 2 (op_box 2 (.t rfl) co_agg rfl)<|.n (op_assign_ve rfl rfl)<|.nil) (fun _ => mixed) rfl fun g3 => ⟨_, _, [0, 1, 2], rfl, (.k 6 rfl<|.k 7 rfl<|.nil), (.k 0 rfl<|.k 1 rfl<|.k 2 rfl<|.nil), ?_⟩)
 refine zC ?_
 refine zF (zG [] (.n (zA (.t rfl))<|.n (zA (.t rfl))<|.n (zB (.t rfl))<|.n (zB (.t rfl))<|.nil) ff rfl fun g4 => ⟨_, _, [0, 1, 2], rfl, (.k 4 rfl<|.k 5 rfl<|.nil), (.k 0 rfl<|.k 1 rfl<|.k 2 rfl<|.nil), ?_⟩)
 refine zC ?_
 refine J_ret ?_
 refine JN_to (To.freezeM 1 0 hr0 (fix_blk) rfl rfl rfl frz_blk rfl) ?_
 refine JN_to (To.freezeM 2 0 hr0 (fix_blk) rfl rfl rfl frz_blk rfl) ?_
 refine JN_retM 0 hr0 (fix_blk) rfl (.cons (.tmp (.t rfl))<|.cons (.tmp (.t rfl))<|.nil) (zM (sb_res (.cons (sb_ok 1 2 rfl rfl)<|.cons (sb_ok 0 2 rfl rfl)<|.nil)) ?_)
 exact zL
theorem icmpZ_ok {x y : Int} : Ct Tryz.prog 59 [intP x, intP y] (isv (.int .i64 (cmpZ x y))) := by
 refine Ct.of Tryz.func59 rfl (by kernel_rfl) rfl fun c0 => ?_
 have hcr : -1 ≤ cmpN x.natAbs y.natAbs ∧ cmpN x.natAbs y.natAbs ≤ 1 := by unfold cmpN; split <;> (try split) <;> omega
 refine zF (zG [] (.n (zB (.k rfl))<|.nil) ff rfl fun g1 => ⟨_, _, [], rfl, (.k 0 rfl<|.k 1 rfl<|.nil), (.nil), ?_⟩)
 refine zC ?_
 refine zF ?_
 refine zF (zG [[], [0], [0, 1], [0, 1, 2], [], [4], [4, 5], [4, 5, 6], [0, 1, 2, 3, 4, 5, 6, 7]] (.n (zA (.t rfl))<|.n (op_nilp (.t rfl))<|.n (op_field_ptr fd88_0 (.t rfl) rfl)<|.n (op_load_sc sc4 (.t rfl) rfl)<|.n (zA (.t rfl))<|.n (op_nilp (.t rfl))<|.n (op_field_ptr fd88_0 (.t rfl) rfl)<|.n (op_load_sc sc4 (.t rfl) rfl)<|.n (op_bne Tryz.underlying4 (.t rfl) (.t rfl))<|.nil) (fun _ => mixed) rfl fun g2 => ⟨_, _, [], rfl, (.k 0 rfl<|.k 1 rfl<|.k 14 rfl<|.nil), (.nil), ?_⟩)
 refine zC ?_
 refine zH (zK (.t rfl)) (fun h1 => ?_) (fun h1 => ?_)
 ·have h1' := h1
  try simp only [cmpB, Z] at h1
  refine zF ?_
  refine zF (zG [] (.n (zA (.t rfl))<|.n (op_nilp (.t rfl))<|.n (op_field_ptr fd88_0 (.t rfl) rfl)<|.n (op_load_sc sc4 (.t rfl) rfl)<|.nil) ff rfl fun g3 => ⟨_, _, [], rfl, (.k 18 rfl<|.nil), (.nil), ?_⟩)
  refine zC ?_
  refine zH (zK (.t rfl)) (fun h2 => ?_) (fun h2 => ?_)
  ·have h2' := h2
   try simp only [cmpB, Z] at h2
   refine zF (zG [] (.n (zB (.k rfl))<|.nil) ff rfl fun g4 => ⟨_, _, [], rfl, (.k 4 rfl<|.nil), (.nil), ?_⟩)
   refine zC ?_
   refine J_ret ?_
   refine zD ?_
   refine zD ?_
   refine zQ (.cons (.tmp (.t rfl))<|.nil) (zM (sb_res1 zL) ?_)
   exact ret_i (by rw [cmpZ_1 h1', if_pos (by simpa using h2')])
  ·have h2' := h2
   try simp only [cmpB, Z] at h2
   refine J_skip ?_
   refine zC ?_
   refine zF (zG [] (.n (zB (.k rfl))<|.nil) ff rfl fun g5 => ⟨_, _, [], rfl, (.k 4 rfl<|.nil), (.nil), ?_⟩)
   refine zC ?_
   refine J_ret ?_
   refine zD ?_
   refine zQ (.cons (.tmp (.t rfl))<|.nil) (zM (sb_res1 zL) ?_)
   exact ret_i (by rw [cmpZ_1 h1', if_neg (by simpa using h2')])
 ·have h1' := h1
  try simp only [cmpB, Z] at h1
  refine J_skip ?_
  refine zC ?_
  refine zF (zG [[], [0], [0, 1], [0, 1, 2], [], [4], [4, 5], [4, 5, 6], [0, 1, 2, 3, 4, 5, 6, 7], [0, 1, 2, 3, 4, 5, 6, 7, 8]] (.n (zA (.t rfl))<|.n (op_nilp (.t rfl))<|.n (op_field_ptr fd88_1 (.t rfl) rfl)<|.n (op_load_sc sc86 (.t rfl) rfl)<|.n (zA (.t rfl))<|.n (op_nilp (.t rfl))<|.n (op_field_ptr fd88_1 (.t rfl) rfl)<|.n (op_load_sc sc86 (.t rfl) rfl)<|.n (zP (cmp_ok) ⟨(.t rfl), (.t rfl),  trivial⟩)<|.n (zB (.t rfl))<|.nil) (fun _ => mixed) rfl fun g6 => ⟨_, _, [], rfl, (.k 0 rfl<|.k 5 rfl<|.nil), (.nil), ?_⟩)
  refine zC ?_
  refine zF ?_
  refine zF (zG [] (.n (zA (.t rfl))<|.n (op_nilp (.t rfl))<|.n (op_field_ptr fd88_0 (.t rfl) rfl)<|.n (op_load_sc sc4 (.t rfl) rfl)<|.nil) ff rfl fun g7 => ⟨_, _, [], rfl, (.k 5 rfl<|.k 31 rfl<|.nil), (.nil), ?_⟩)
  refine zC ?_
  refine zH (zK (.t rfl)) (fun h3 => ?_) (fun h3 => ?_)
  ·have h3' := h3
   try simp only [cmpB, Z] at h3
   refine (zG [] (.n (zA (.t rfl))<|.n (op_neg (.t rfl) (zO (by omega) (by omega)))<|.n (zB (.t rfl))<|.nil) ff rfl fun g8 => ⟨_, _, [], rfl, (.k 5 rfl<|.nil), (.nil), ?_⟩)
   refine zC ?_
   refine zF (zG [] (.n (zA (.t rfl))<|.n (zB (.t rfl))<|.nil) ff rfl fun g9 => ⟨_, _, [], rfl, (.k 4 rfl<|.nil), (.nil), ?_⟩)
   refine zC ?_
   refine J_ret ?_
   refine zQ (.cons (.tmp (.t rfl))<|.nil) (zM (sb_res1 zL) ?_)
   exact ret_i (by rw [cmpZ_2 h1', if_pos (by simpa using h3')])
  ·have h3' := h3
   try simp only [cmpB, Z] at h3
   refine J_skip ?_
   refine zC ?_
   refine zF (zG [] (.n (zA (.t rfl))<|.n (zB (.t rfl))<|.nil) ff rfl fun g10 => ⟨_, _, [], rfl, (.k 4 rfl<|.nil), (.nil), ?_⟩)
   refine zC ?_
   refine J_ret ?_
   refine zQ (.cons (.tmp (.t rfl))<|.nil) (zM (sb_res1 zL) ?_)
   exact ret_i (by rw [cmpZ_2 h1', if_neg (by simpa using h3')])
theorem rcmp_ok {x y : Rat} (hx : Rsz 2000 x) (hy : Rsz 2000 y) : Ct Tryz.prog 47 [ratP x, ratP y] (isv (.int .i64 (cmpZ (x.num * y.den) (y.num * x.den)))) := by
 refine Ct.of Tryz.func47 rfl (by kernel_rfl) rfl fun c0 => ?_
 refine zF (zG [] (.n (zB (.k rfl))<|.nil) ff rfl fun g1 => ⟨_, _, [], rfl, (.k 0 rfl<|.k 1 rfl<|.nil), (.nil), ?_⟩)
 refine zC ?_
 refine zF (zG [] (.n (zA (.t rfl))<|.n (zA (.t rfl))<|.n (zP (cross_ok (by assumption) (by assumption)) ⟨(.t rfl), (.t rfl),  trivial⟩)<|.n (zA (.t rfl))<|.n (op_extract (.t rfl) rfl)<|.n (op_extract (.t rfl) rfl)<|.n (zB (.t rfl))<|.n (zB (.t rfl))<|.nil) ff rfl fun g2 => ⟨_, _, [], rfl, (.k 5 rfl<|.k 6 rfl<|.nil), (.nil), ?_⟩)
 refine zC ?_
 refine J_to (To.slot 5 rfl (q := intP (x.num * y.den)) (sb_eq (congrArg ptp (crs_eq x y)))) ?_
 refine J_to (To.slot 6 rfl (q := intP (y.num * x.den)) (sb_eq (congrArg ptp (crs_eq y x)))) ?_
 refine zF (zG [] (.n (zA (.t rfl))<|.n (zA (.t rfl))<|.n (zP (icmpZ_ok) ⟨(.t rfl), (.t rfl),  trivial⟩)<|.n (zB (.t rfl))<|.nil) ff rfl fun g3 => ⟨_, _, [], rfl, (.k 4 rfl<|.nil), (.nil), ?_⟩)
 refine zC ?_
 refine J_ret ?_
 refine zQ (.cons (.tmp (.t rfl))<|.nil) (zM (sb_res1 zL) ?_)
 exact zL
theorem rsign_ok {x : Rat} : Ct Tryz.prog 49 [ratP x] (isv (.int .i64 (signI x.num))) := by
 refine Ct.of Tryz.func49 rfl (by kernel_rfl) rfl fun c0 => ?_
 refine zF (zG [] (.n (zB (.k rfl))<|.nil) ff rfl fun g1 => ⟨_, _, [], rfl, (.k 0 rfl<|.nil), (.nil), ?_⟩)
 refine zC ?_
 refine zF (zG [] (.n (zA (.t rfl))<|.n (op_nilp (.t rfl))<|.n (op_field_ptr fd90_0 (.t rfl) rfl)<|.n (zP (isign_ok) ⟨(.t rfl),  trivial⟩)<|.n (zB (.t rfl))<|.nil) ff rfl fun g2 => ⟨_, _, [], rfl, (.k 2 rfl<|.nil), (.nil), ?_⟩)
 refine zC ?_
 refine J_ret ?_
 refine zQ (.cons (.tmp (.t rfl))<|.nil) (zM (sb_res1 zL) ?_)
 exact zL
theorem rsubA_ok {u : Value} {x y : Rat} (hx : Rsz 900 x) (hy : Rsz 3000 y) : CtM Tryz.prog 63 [ipo u 0, ipo u 0, ratP y] (blk u (ratC (x)) 90) (ipo u 0) (blk u (ratC (x - y)) 90) := by
 refine CtM.of Tryz.func63 rfl (by kernel_rfl) rfl (fix_blk) fun c0 ob hr0 => ?_
 obtain ⟨hxl, hxd⟩ := hx.len (by omega)
 obtain ⟨hyl, hyd⟩ := hy.len (by omega)
 obtain ⟨hs1, hs2, hs3⟩ := sub_sml hx hy
 refine zF (zG [] (.n (zB (.k rfl))<|.nil) ff rfl fun g1 => ⟨_, _, [0], rfl, (.k 0 rfl<|.k 1 rfl<|.k 2 rfl<|.nil), (.k 0 rfl<|.nil), ?_⟩)
 refine zC ?_
 refine zF (zG [] (.n (zA (.t rfl))<|.n (zA (.t rfl))<|.w 0 (op_callM 0 (crossC_ok hx hy) ⟨(.t rfl), (.t rfl),  trivial⟩ rfl)<|.n (zA (.t rfl))<|.n (op_extract (.t rfl) rfl)<|.n (op_extract (.t rfl) rfl)<|.n (zB (.t rfl))<|.n (zB (.t rfl))<|.nil) ff rfl fun g2 => ⟨_, _, [0], rfl, (.k 0 rfl<|.k 1 rfl<|.k 2 rfl<|.k 7 rfl<|.k 8 rfl<|.nil), (.k 0 rfl<|.nil), ?_⟩)
 refine zC ?_
 refine zF (zG [] (.n (zA (.t rfl))<|.w 0 (op_callM 0 (bottomA_ok) ⟨(.t rfl),  trivial⟩ rfl)<|.n (zA (.t rfl))<|.n (zP (bottom_ok) ⟨(.t rfl),  trivial⟩)<|.n (zP (times_ok (limbs_dig _) (limbs_dig _) (by omega) (by omega)) ⟨(.t rfl), (.t rfl),  trivial⟩)<|.n (zB (.t rfl))<|.nil) ff rfl fun g3 => ⟨_, _, [0], rfl, (.k 0 rfl<|.k 7 rfl<|.k 8 rfl<|.k 9 rfl<|.nil), (.k 0 rfl<|.nil), ?_⟩)
 refine zC ?_
 refine J_to (To.slot 7 rfl (q := intP (x.num * y.den)) (sb_eq (congrArg ptp (crs_eq x y)))) ?_
 refine J_to (To.slot 8 rfl (q := intP (y.num * x.den)) (sb_eq (congrArg ptp (crs_eq y x)))) ?_
 refine J_to (To.emps 1) ?_
 refine zF (zG [] (.n (op_build zr88 rfl pl88 .nil)<|.w 1 (op_box 1 (.t rfl) co_agg rfl)<|.n (op_assign_ve rfl rfl)<|.nil) ff rfl fun g4 => ⟨_, _, [0, 1], rfl, (.k 0 rfl<|.k 7 rfl<|.k 8 rfl<|.k 9 rfl<|.k 10 rfl<|.nil), (.k 0 rfl<|.k 1 rfl<|.nil), ?_⟩)
 refine zC ?_
 refine zF (zG [] (.n (zA (.t rfl))<|.n (zA (.t rfl))<|.n (zA (.t rfl))<|.w 1 (op_callM 1 (isub_ok hs1 hs2) ⟨(.t rfl), (.t rfl), (.t rfl),  trivial⟩ rfl)<|.nil) ff rfl fun g5 => ⟨_, _, [0, 1], rfl, (.k 0 rfl<|.k 9 rfl<|.k 10 rfl<|.nil), (.k 0 rfl<|.k 1 rfl<|.nil), ?_⟩)
 refine zC ?_
 refine zF (zG [[], [], [1], [1, 2], [1, 2, 3], [], [5], [5, 6], [5, 6, 7], [], [0, 1, 2, 3, 4, 5, 6, 7, 8, 9], [0, 1, 2, 3, 4, 5, 6, 7, 8, 9, 10]] (.n (zA (.t rfl))<|.n (zA (.t rfl))<|.n (op_nilo (.t rfl))<|.n (zI fd88_0 (.t rfl) rfl)<|.r 1 (zN 1 sc4 (.t rfl) rfl zJ rfl)<|.n (zA (.t rfl))<|.n (op_nilo (.t rfl))<|.n (zI fd88_1 (.t rfl) rfl)<|.r 1 (zN 1 sc86 (.t rfl) rfl zJ rfl)<|.n (zA (.t rfl))<|.w 0 (op_callM 0 (rmade_ok (sml_abs hs3) (tim_sml hx.b hy.b (by omega)) (tim_ne x.den_nz y.den_nz)) ⟨(.t rfl), (.t rfl), (.t rfl), (.t rfl),  trivial⟩ rfl)<|.n (zB (.t rfl))<|.nil) (fun _ => mixed) rfl fun g6 => ⟨_, _, [0], rfl, (.k 6 rfl<|.nil), (.k 0 rfl<|.nil), ?_⟩)
 refine zC ?_
 refine J_ret ?_
 refine JN_to (To.res 0 (r' := blk u (ratC (x - y)) 90) rfl (res_eq (by rw [tim_nat, rat_sub])) rfl) ?_
 refine JN_retM 0 hr0 (fix_blk) rfl (.cons (.tmp (.t rfl))<|.nil) (zM (sb_res1 zL) ?_)
 exact zL
end Go.Proofs.YtjnmgcglooeooaaGreatDoor
