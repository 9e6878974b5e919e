/- Printed by a program of ours (walk.py): walks of exact numbers. -/
import Derived.Test.YtllkellonjhalaaGreatOoKb
import Derived.Test.YtllkellonjhalaaGreatProg
import Derived.KernelRfl
import Derived.Test.YtllkellonjhalaaGreatOoTypes
import Derived.Test.YtllkellonjhalaaGreatOoWInt
set_option linter.unusedVariables false
set_option linter.unusedSimpArgs false
set_option maxRecDepth 20000
set_option maxHeartbeats 1000000
namespace Go.Proofs.YtllkellonjhalaaGreat
open Go Go.Bn
attribute [local irreducible] OpOK
theorem ineg2_ok {u : Value} {x : Int} (hx : Sml x) : CtM Tryz.prog 55 [ipo u 0, ipo u 0] (blk u (intC (x)) 96) (ipo u 0) (blk u (intC (-x)) 96) := by
 refine CtM.of Tryz.func55 rfl (by kernel_rfl) rfl (fix_blk) fun c0 ob hr0 => ?_
 have lx := sml_len hx
 refine zF (zG [] (.n (zB (.k rfl))<|.nil) ff rfl fun g1 => ⟨_, _, [0], rfl, (.k 0 rfl<|.k 1 rfl<|.nil), (.k 0 rfl<|.nil), ?_⟩)
 refine zC<|zF (zG [[], [], [1], [1, 2], [1, 2, 3], [1, 2, 3, 4], [], [6], [6, 7], [6, 7, 8], [6, 7, 8, 9], [0, 1, 2, 3, 4, 5, 6, 7, 8, 9, 10], [0, 1, 2, 3, 4, 5, 6, 7, 8, 9, 10, 11]] (.n (zA (.t rfl))<|.n (zA (.t rfl))<|.n (op_nilo (.t rfl))<|.n (zI fd96_0 (.t rfl) rfl)<|.r 0 (zN 0 sc4 (.t rfl) rfl zJ rfl)<|.n (op_not (.t rfl))<|.n (zA (.t rfl))<|.n (op_nilo (.t rfl))<|.n (zI fd96_1 (.t rfl) rfl)<|.r 0 (zN 0 sc94 (.t rfl) rfl zJ rfl)<|.n (op_append_nil sl94 zr153 rfl (.k rfl) (.t rfl) (by omega) (by omega))<|.w 0 (op_callM 0 (iput_ok (limbs_dig _)) ⟨(.t rfl), (.t rfl), (.t rfl),  trivial⟩ rfl)<|.n (zB (.t rfl))<|.nil) (fun _ => mixed) rfl fun g2 => ⟨_, _, [0], rfl, (.k 4 rfl<|.nil), (.k 0 rfl<|.nil), ?_⟩)
 refine zC<|yF<|JN_to (To.res 0 (r' := blk u (intC (-x)) 96) rfl (yQ (by rw [mag_nat, neg_1])) rfl) ?_
 refine JN_retM 0 hr0 (fix_blk) rfl (.cons (.tmp (.t rfl))<|.nil) (zM (yD zL) ?_)
 exact zL
theorem iseti_ok {u : Value} {q0 q1 : SP} {n : Nat} (hn : n < 9223372036854775808) : CtM Tryz.prog 97 [ipo u 0, isv (.int .i64 (n : Int))] (blk u [q0, q1] 96) (ipo u 0) (blk u (intC ((n : Int))) 96) := by
 refine CtM.of Tryz.func97 rfl (by kernel_rfl) rfl (fix_blk) fun c0 ob hr0 => ?_
 refine zF (zG [] (.n (zB (.k rfl))<|.nil) ff rfl fun g1 => ⟨_, _, [0], rfl, (.k 0 rfl<|.k 1 rfl<|.nil), (.k 0 rfl<|.nil), ?_⟩)
 refine zC<|zF (zG [] (.n (zA (.t rfl))<|.n (yG it2 it34 (.t rfl) (wr64 (by omega) (by omega)))<|.n (zB (.t rfl))<|.nil) ff rfl fun g2 => ⟨_, _, [0], rfl, (.k 0 rfl<|.k 1 rfl<|.k 5 rfl<|.nil), (.k 0 rfl<|.nil), ?_⟩)
 refine zC<|zF<|zF (zG [] (.n (zA (.t rfl))<|.n (yB (by simp) (.t rfl) (.k rfl) rfl)<|.nil) ff rfl fun g3 => ⟨_, _, [0], rfl, (.k 0 rfl<|.k 1 rfl<|.k 5 rfl<|.k 9 rfl<|.nil), (.k 0 rfl<|.nil), ?_⟩)
 refine zC<|zH (zK (.t rfl)) (fun h1 => ?_) (fun h1 => ?_)
 ·try simp only [cmpB, Z] at h1
  exact absurd h1 (by omega)
 ·try simp only [cmpB, Z] at h1
  refine yE<|zC<|zF (zG [] (.n (zA (.t rfl))<|.n (zA (.t rfl))<|.n (yB (by simp) (.t rfl) (.k rfl) rfl)<|.n (zA (.t rfl))<|.n (zP (words_ok (n := n) (by omega)) ⟨(.t rfl),  trivial⟩)<|.w 0 (op_callM 0 (iput_ok (limbs_dig _)) ⟨(.t rfl), (.t rfl), (.t rfl),  trivial⟩ rfl)<|.n (zB (.t rfl))<|.nil) ff rfl fun g4 => ⟨_, _, [0], rfl, (.k 4 rfl<|.nil), (.k 0 rfl<|.nil), ?_⟩)
  refine zC<|yF<|JN_to (To.res 0 (r' := blk u (intC ((n : Int))) 96) rfl (yQ (by rw [mag_nat, sgnI_nat])) rfl) ?_
  refine JN_retM 0 hr0 (fix_blk) rfl (.cons (.tmp (.t rfl))<|.nil) (zM (yD zL) ?_)
  exact zL
theorem newint_ok {n : Nat} (hn : n < 9223372036854775808) : Ct Tryz.prog 66 [isv (.int .i64 (n : Int))] (intP (n : Int)) := by
 refine Ct.of Tryz.func66 rfl (by kernel_rfl) rfl fun c0 => ?_
 refine zF (zG [] (.n (zB (.k rfl))<|.nil) ff rfl fun g1 => ⟨_, _, [], rfl, (.k 0 rfl<|.nil), (.nil), ?_⟩)
 refine zC<|yN (To.emps 1) ?_
 refine zF (zG [] (.n (op_build zr96 rfl pl96 .nil)<|.w 0 (op_box 0 (.t rfl) yL rfl)<|.n (yX rfl rfl)<|.nil) ff rfl fun g2 => ⟨_, _, [0], rfl, (.k 0 rfl<|.k 3 rfl<|.nil), (.k 0 rfl<|.nil), ?_⟩)
 refine zC<|zF (zG [] (.n (zA (.t rfl))<|.n (zA (.t rfl))<|.w 0 (op_callM 0 (iseti_ok hn) ⟨(.t rfl), (.t rfl),  trivial⟩ rfl)<|.n (zB (.t rfl))<|.nil) ff rfl fun g3 => ⟨_, _, [0], rfl, (.k 2 rfl<|.nil), (.k 0 rfl<|.nil), ?_⟩)
 refine zC<|yF<|JN_to (To.freeze 0 (fun _ h => h) rfl frz_blk rfl) ?_
 refine zQ (.cons (.tmp (.t rfl))<|.nil) (zM (yD (sb_ok 0 2 rfl rfl)) ?_)
 exact zL
theorem xzero0_ok  : Ct Tryz.prog 51 [] (aggp [ptp [isv (.bool false), ils .u32 []], isv (.int .i64 0)]) := by
 refine Ct.of Tryz.func51 rfl (by kernel_rfl) rfl fun c0 => ?_
 refine yN (To.emps 1) ?_
 refine zF (zG [] (.w 0 (yT 0 zr41 rfl rfl)<|.nil) ff rfl fun g1 => ⟨_, _, [0], rfl, (.k 0 rfl<|.nil), (.k 0 rfl<|.nil), ?_⟩)
 refine zC<|yN (To.emps 1) ?_
 refine zF (zG [] (.w 1 (yT 1 zr96 rfl rfl)<|.n (op_ve 1 2 rfl rfl rfl (fun f => (op_build zr41 rfl pl41 (.cons rfl (.t rfl) co_ipo rfl (yU rfl (Nat.le_of_ble_eq_true rfl)) (.cons rfl (.k rfl) co_isv rfl (yU rfl (Nat.le_of_ble_eq_true rfl)) .nil)))) (fun f g h => by rw [h 1 (show 1 ∈ [1] from by decide)]) rfl)<|.w 0 (op_ver 2 rfl rfl (fun f => yM 0 (.t rfl) (.t rfl) yL sz41 rfl rfl rfl) (fun f g h => by rw [h 1 (show 1 ∈ [1] from by decide)]) rfl)<|.nil) ff rfl fun g2 => ⟨_, _, [0, 1], rfl, (.k 0 rfl<|.nil), (.k 0 rfl<|.k 1 rfl<|.nil), ?_⟩)
 refine zC<|yF<|JN_to (To.freeze 1 (fun _ h => h) rfl frz_blk rfl) ?_
 refine zQ (.cons (.ag 0 (.t rfl) ag41 rfl rfl rfl)<|.nil) (zM (yD (sb_agg (.cons (zM (sb_ok 0 2 rfl rfl) (sb_ptp (.cons zL<|.cons (sb_nil (mk := inp .u32))<|.nil)))<|.cons zL<|.nil))) ?_)
 exact zL
theorem xzero_ok : Ct Tryz.prog 51 [] (exaP Exa.zero) := (by have h := xzero0_ok; rw [← limbs_zero] at h; exact h)
theorem xneg_ok {x : Exa} (hx : Exb x) : Ct Tryz.prog 15 [exaP x] (exaP x.neg) := by
 refine Ct.of Tryz.func15 rfl (by kernel_rfl) rfl fun c0 => ?_
 have hxm := hx.h
 have hx0 := hx.e0
 have hx1 := hx.e1
 refine yN (To.emps 2) ?_
 refine zF (zG [] (.w 0 (op_box 0 (.t rfl) yL rfl)<|.w 1 (yT 1 zr41 rfl rfl)<|.nil) ff rfl fun g1 => ⟨_, _, [0, 1], rfl, (.k 1 rfl<|.k 2 rfl<|.nil), (.k 0 rfl<|.k 1 rfl<|.nil), ?_⟩)
 refine zC<|yN (To.emps 1) ?_
 refine zF (zG [[], [], [1], [0, 1, 2], [], [4], [0, 1, 2, 3, 4, 5], [0, 1, 2, 3, 4, 5, 6]] (.w 2 (yT 2 zr96 rfl rfl)<|.n (zI fd41_0 (.t rfl) rfl)<|.r 0 (zN 0 sc39 (.t rfl) rfl zJ rfl)<|.w 2 (op_callMp 2 rfl rfl (fun u => ineg_ok hxm) rfl ⟨(.t rfl),  trivial⟩)<|.n (zI fd41_1 (.t rfl) rfl)<|.r 0 (zN 0 sc3 (.t rfl) rfl zJ rfl)<|.n (op_ve 6 9 rfl rfl rfl (fun f => (op_build zr41 rfl pl41 (.cons rfl (.t rfl) co_ipo rfl (yU rfl (Nat.le_of_ble_eq_true rfl)) (.cons rfl (.t rfl) co_isv rfl (yU rfl (Nat.le_of_ble_eq_true rfl)) .nil)))) (fun f g h => by rw [h 6 (show 6 ∈ [6] from by decide)]) rfl)<|.w 1 (op_ver 9 rfl rfl (fun f => yM 1 (.t rfl) (.t rfl) yL sz41 rfl rfl rfl) (fun f g h => by rw [h 6 (show 6 ∈ [6] from by decide)]) rfl)<|.nil) (fun _ => mixed) rfl fun g2 => ⟨_, _, [1, 2], rfl, (.k 2 rfl<|.nil), (.k 1 rfl<|.k 2 rfl<|.nil), ?_⟩)
 refine zC<|yF<|JN_to (To.freeze 1 (fun _ h => h) rfl frz_blk rfl) ?_
 refine zQ (.cons (.ag 0 (.t rfl) ag41 rfl rfl rfl)<|.nil) (zM (yD (sb_agg (.cons (sb_ok 0 2 rfl rfl)<|.cons zL<|.nil))) ?_)
 exact zL
theorem xmul_ok {x y : Exa} (hx : Exb x) (hy : Exb y) : Ct Tryz.prog 18 [exaP x, exaP y] (exaP (x.mul y)) := by
 refine Ct.of Tryz.func18 rfl (by kernel_rfl) rfl fun c0 => ?_
 have hxm := hx.h
 have hx0 := hx.e0
 have hx1 := hx.e1
 have hym := hy.h
 have hy0 := hy.e0
 have hy1 := hy.e1
 refine yN (To.emps 3) ?_
 refine zF (zG [] (.w 0 (op_box 0 (.t rfl) yL rfl)<|.w 1 (op_box 1 (.t rfl) yL rfl)<|.w 2 (yT 2 zr41 rfl rfl)<|.nil) ff rfl fun g1 => ⟨_, _, [0, 1, 2], rfl, (.k 2 rfl<|.k 3 rfl<|.k 4 rfl<|.nil), (.k 0 rfl<|.k 1 rfl<|.k 2 rfl<|.nil), ?_⟩)
 refine zC<|yN (To.emps 1) ?_
 refine zF (zG [[], [], [1], [], [3], [0, 1, 2, 3, 4], [], [6], [], [8], [6, 7, 8, 9], [0, 1, 2, 3, 4, 5, 6, 7, 8, 9, 10], [0, 1, 2, 3, 4, 5, 6, 7, 8, 9, 10, 11]] (.w 3 (yT 3 zr96 rfl rfl)<|.n (zI fd41_0 (.t rfl) rfl)<|.r 0 (zN 0 sc39 (.t rfl) rfl zJ rfl)<|.n (zI fd41_0 (.t rfl) rfl)<|.r 1 (zN 1 sc39 (.t rfl) rfl zJ rfl)<|.w 3 (op_callMp 3 rfl rfl (fun u => imul_ok hxm hym) rfl ⟨(.t rfl), (.t rfl),  trivial⟩)<|.n (zI fd41_1 (.t rfl) rfl)<|.r 0 (zN 0 sc3 (.t rfl) rfl zJ rfl)<|.n (zI fd41_1 (.t rfl) rfl)<|.r 1 (zN 1 sc3 (.t rfl) rfl zJ rfl)<|.n (yK (.t rfl) (.t rfl) (zO (by omega) (by omega)))<|.n (op_ve 10 16 rfl rfl rfl (fun f => (op_build zr41 rfl pl41 (.cons rfl (.t rfl) co_ipo rfl (yU rfl (Nat.le_of_ble_eq_true rfl)) (.cons rfl (.t rfl) co_isv rfl (yU rfl (Nat.le_of_ble_eq_true rfl)) .nil)))) (fun f g h => by rw [h 10 (show 10 ∈ [10] from by decide)]) rfl)<|.w 2 (op_ver 16 rfl rfl (fun f => yM 2 (.t rfl) (.t rfl) yL sz41 rfl rfl rfl) (fun f g h => by rw [h 10 (show 10 ∈ [10] from by decide)]) rfl)<|.nil) (fun _ => mixed) rfl fun g2 => ⟨_, _, [2, 3], rfl, (.k 4 rfl<|.nil), (.k 2 rfl<|.k 3 rfl<|.nil), ?_⟩)
 refine zC<|yF<|JN_to (To.freeze 1 (fun _ h => h) rfl frz_blk rfl) ?_
 refine zQ (.cons (.ag 0 (.t rfl) ag41 rfl rfl rfl)<|.nil) (zM (yD (sb_agg (.cons (sb_ok 0 2 rfl rfl)<|.cons zL<|.nil))) ?_)
 exact zL
theorem xlow_ok {x : Exa} {e : Int} (hx : Exb x) (h0 : -1000000 ≤ e) (h1 : e ≤ 1000000) : Ct Tryz.prog 54 [exaP x, isv (.int .i64 e)] (exaP (x.low e)) := by
 refine Ct.of Tryz.func54 rfl (by kernel_rfl) rfl fun c0 => ?_
 have hxm := hx.h
 have hx0 := hx.e0
 have hx1 := hx.e1
 refine yN (To.emps 2) ?_
 refine zF (zG [] (.w 0 (op_box 0 (.t rfl) yL rfl)<|.w 1 (yT 1 zr41 rfl rfl)<|.nil) ff rfl fun g1 => ⟨_, _, [0, 1], rfl, (.k 1 rfl<|.k 2 rfl<|.k 4 rfl<|.nil), (.k 0 rfl<|.k 1 rfl<|.nil), ?_⟩)
 refine zC<|zF<|zF (zG [] (.n (zA (.t rfl))<|.n (zI fd41_1 (.t rfl) rfl)<|.r 0 (zN 0 sc3 (.t rfl) rfl zJ rfl)<|.n (yB (by simp) (.t rfl) (.t rfl) rfl)<|.nil) ff rfl fun g2 => ⟨_, _, [0, 1], rfl, (.k 1 rfl<|.k 2 rfl<|.k 4 rfl<|.k 8 rfl<|.nil), (.k 0 rfl<|.k 1 rfl<|.nil), ?_⟩)
 refine zC<|zH (zK (.t rfl)) (fun h1 => ?_) (fun h1 => ?_)
 ·try simp only [cmpB, Z] at h1
  refine zF (zG [] (.r 0 (yI 0 ag41 (.t rfl) rfl zJ rfl rfl)<|.w 1 (yM 1 (.t rfl) (.t rfl) yL sz41 rfl rfl rfl)<|.nil) ff rfl fun g3 => ⟨_, _, [1], rfl, (.k 4 rfl<|.nil), (.k 1 rfl<|.nil), ?_⟩)
  refine zC<|yF<|zD<|zQ (.cons (.ag 0 (.t rfl) ag41 rfl rfl rfl)<|.nil) (zM (yD zL) ?_)
  exact sb_eq (by unfold Exa.low; rw [if_pos (by omega)])
 ·try simp only [cmpB, Z] at h1
  refine yE<|zC<|yN (To.emps 1) ?_
  refine zF (zG [] (.w 2 (yT 2 zr96 rfl rfl)<|.n (zI fd41_0 (.t rfl) rfl)<|.r 0 (zN 0 sc39 (.t rfl) rfl zJ rfl)<|.n (zI fd41_1 (.t rfl) rfl)<|.r 0 (zN 0 sc3 (.t rfl) rfl zJ rfl)<|.n (zA (.t rfl))<|.n (op_sub (.t rfl) (.t rfl) (zO (by omega) (by omega)))<|.n (yG it3 it131 (.t rfl) (show IntKind.u64.wrap (x.e - e) = (((x.e - e).toNat : Nat) : Int) by rw [wr64 (by omega) (by omega)]; omega))<|.w 2 (op_callMp 2 rfl rfl (fun u => ilsh_ok hxm (by omega)) rfl ⟨(.t rfl), (.t rfl),  trivial⟩)<|.n (zA (.t rfl))<|.n (op_ve 18 20 rfl rfl rfl (fun f => (op_build zr41 rfl pl41 (.cons rfl (.t rfl) co_ipo rfl (yU rfl (Nat.le_of_ble_eq_true rfl)) (.cons rfl (.t rfl) co_isv rfl (yU rfl (Nat.le_of_ble_eq_true rfl)) .nil)))) (fun f g h => by rw [h 18 (show 18 ∈ [18] from by decide)]) rfl)<|.w 1 (op_ver 20 rfl rfl (fun f => yM 1 (.t rfl) (.t rfl) yL sz41 rfl rfl rfl) (fun f g h => by rw [h 18 (show 18 ∈ [18] from by decide)]) rfl)<|.nil) ff rfl fun g4 => ⟨_, _, [1, 2], rfl, (.k 4 rfl<|.nil), (.k 1 rfl<|.k 2 rfl<|.nil), ?_⟩)
  refine zC<|yF<|JN_to (To.freeze 1 (fun _ h => h) rfl frz_blk rfl) ?_
  refine zQ (.cons (.ag 0 (.t rfl) ag41 rfl rfl rfl)<|.nil) (zM (yD (sb_agg (.cons (sb_ok 0 2 rfl rfl)<|.cons zL<|.nil))) ?_)
  exact sb_eq (by unfold Exa.low; rw [if_neg (by omega)])
theorem xadd_ok {x y : Exa} (hx : Exb x) (hy : Exb y) (hl : ∀ e, e = min x.e y.e → Sml (x.low e).m ∧ Sml (y.low e).m) : Ct Tryz.prog 14 [exaP x, exaP y] (exaP (x.add y)) := by
 refine Ct.of Tryz.func14 rfl (by kernel_rfl) rfl fun c0 => ?_
 have hxm := hx.h
 have hx0 := hx.e0
 have hx1 := hx.e1
 have hym := hy.h
 have hy0 := hy.e0
 have hy1 := hy.e1
 obtain ⟨hl1, hl2⟩ := hl _ rfl
 refine yN (To.emps 3) ?_
 refine zF (zG [] (.w 0 (op_box 0 (.t rfl) yL rfl)<|.w 1 (op_box 1 (.t rfl) yL rfl)<|.w 2 (yT 2 zr41 rfl rfl)<|.nil) ff rfl fun g1 => ⟨_, _, [0, 1, 2], rfl, (.k 2 rfl<|.k 3 rfl<|.k 4 rfl<|.nil), (.k 0 rfl<|.k 1 rfl<|.k 2 rfl<|.nil), ?_⟩)
 refine zC<|zF (zG [] (.n (zI fd41_1 (.t rfl) rfl)<|.r 0 (zN 0 sc3 (.t rfl) rfl zJ rfl)<|.n (zI fd41_1 (.t rfl) rfl)<|.r 1 (zN 1 sc3 (.t rfl) rfl zJ rfl)<|.n (op_imin (.t rfl) (.t rfl))<|.n (zB (.t rfl))<|.nil) ff rfl fun g2 => ⟨_, _, [0, 1, 2], rfl, (.k 2 rfl<|.k 3 rfl<|.k 4 rfl<|.k 5 rfl<|.nil), (.k 0 rfl<|.k 1 rfl<|.k 2 rfl<|.nil), ?_⟩)
 refine zC<|zF<|zF (zG [] (.n (zI fd41_0 (.t rfl) rfl)<|.r 0 (zN 0 sc39 (.t rfl) rfl zJ rfl)<|.n (zP (isign_ok) ⟨(.t rfl),  trivial⟩)<|.n (yB (by simp) (.t rfl) (.k rfl) rfl)<|.nil) ff rfl fun g3 => ⟨_, _, [0, 1, 2], rfl, (.k 2 rfl<|.k 3 rfl<|.k 4 rfl<|.k 5 rfl<|.k 14 rfl<|.nil), (.k 0 rfl<|.k 1 rfl<|.k 2 rfl<|.nil), ?_⟩)
 refine zC<|zH (zK (.t rfl)) (fun h1 => ?_) (fun h1 => ?_)
 ·try simp only [cmpB, Z] at h1
  refine zF (zG [] (.r 1 (yI 1 ag41 (.t rfl) rfl zJ rfl rfl)<|.w 2 (yM 2 (.t rfl) (.t rfl) yL sz41 rfl rfl rfl)<|.nil) ff rfl fun g4 => ⟨_, _, [2], rfl, (.k 4 rfl<|.nil), (.k 2 rfl<|.nil), ?_⟩)
  refine zC<|yF<|zD<|zQ (.cons (.ag 0 (.t rfl) ag41 rfl rfl rfl)<|.nil) (zM (yD zL) ?_)
  have h9 := signI_zero.1 h1
  exact sb_eq (by unfold Exa.add; rw [if_pos h9])
 ·try simp only [cmpB, Z] at h1
  refine yE<|zC<|zF<|zF (zG [] (.n (zI fd41_0 (.t rfl) rfl)<|.r 1 (zN 1 sc39 (.t rfl) rfl zJ rfl)<|.n (zP (isign_ok) ⟨(.t rfl),  trivial⟩)<|.n (yB (by simp) (.t rfl) (.k rfl) rfl)<|.nil) ff rfl fun g5 => ⟨_, _, [0, 1, 2], rfl, (.k 2 rfl<|.k 3 rfl<|.k 4 rfl<|.k 5 rfl<|.k 19 rfl<|.nil), (.k 0 rfl<|.k 1 rfl<|.k 2 rfl<|.nil), ?_⟩)
  refine zC<|zH (zK (.t rfl)) (fun h2 => ?_) (fun h2 => ?_)
  ·try simp only [cmpB, Z] at h2
   refine zF (zG [] (.r 0 (yI 0 ag41 (.t rfl) rfl zJ rfl rfl)<|.w 2 (yM 2 (.t rfl) (.t rfl) yL sz41 rfl rfl rfl)<|.nil) ff rfl fun g6 => ⟨_, _, [2], rfl, (.k 4 rfl<|.nil), (.k 2 rfl<|.nil), ?_⟩)
   refine zC<|yF<|zD<|zQ (.cons (.ag 0 (.t rfl) ag41 rfl rfl rfl)<|.nil) (zM (yD zL) ?_)
   have h8 := (fun e => h1 (signI_zero.2 e) : ¬ x.m = 0)
   have h9 := signI_zero.1 h2
   exact sb_eq (by unfold Exa.add; rw [if_neg h8, if_pos h9])
  ·try simp only [cmpB, Z] at h2
   refine yE<|zC<|yN (To.emps 1) ?_
   refine zF (zG [[], [], [], [1, 2], [1, 2, 3], [], [], [1, 2, 3, 5, 6], [1, 2, 3, 5, 6, 7], [0, 1, 2, 3, 4, 5, 6, 7, 8], [], [0, 1, 2, 3, 4, 5, 6, 7, 8, 9, 10], [0, 1, 2, 3, 4, 5, 6, 7, 8, 9, 10, 11]] (.w 3 (yT 3 zr96 rfl rfl)<|.r 0 (yI 0 ag41 (.t rfl) rfl zJ rfl rfl)<|.n (zA (.t rfl))<|.n (zP (xlow_ok hx (by omega) (by omega)) ⟨(.t rfl), (.t rfl),  trivial⟩)<|.n (op_fieldv_sc fd41_0 ft41_0 sc39 (.t rfl) rfl)<|.r 1 (yI 1 ag41 (.t rfl) rfl zJ rfl rfl)<|.n (zA (.t rfl))<|.n (zP (xlow_ok hy (by omega) (by omega)) ⟨(.t rfl), (.t rfl),  trivial⟩)<|.n (op_fieldv_sc fd41_0 ft41_0 sc39 (.t rfl) rfl)<|.w 3 (op_callMp 3 rfl rfl (fun u => iadd_ok hl1 hl2) rfl ⟨(.t rfl), (.t rfl),  trivial⟩)<|.n (zA (.t rfl))<|.n (op_ve 30 32 rfl rfl rfl (fun f => (op_build zr41 rfl pl41 (.cons rfl (.t rfl) co_ipo rfl (yU rfl (Nat.le_of_ble_eq_true rfl)) (.cons rfl (.t rfl) co_isv rfl (yU rfl (Nat.le_of_ble_eq_true rfl)) .nil)))) (fun f g h => by rw [h 30 (show 30 ∈ [30] from by decide)]) rfl)<|.w 2 (op_ver 32 rfl rfl (fun f => yM 2 (.t rfl) (.t rfl) yL sz41 rfl rfl rfl) (fun f g h => by rw [h 30 (show 30 ∈ [30] from by decide)]) rfl)<|.nil) (fun _ => mixed) rfl fun g7 => ⟨_, _, [2, 3], rfl, (.k 4 rfl<|.nil), (.k 2 rfl<|.k 3 rfl<|.nil), ?_⟩)
   refine zC<|yF<|JN_to (To.freeze 1 (fun _ h => h) rfl frz_blk rfl) ?_
   refine zQ (.cons (.ag 0 (.t rfl) ag41 rfl rfl rfl)<|.nil) (zM (yD (sb_agg (.cons (sb_ok 0 2 rfl rfl)<|.cons zL<|.nil))) ?_)
   have h8 := (fun e => h1 (signI_zero.2 e) : ¬ x.m = 0)
   have h9 := (fun e => h2 (signI_zero.2 e) : ¬ y.m = 0)
   exact sb_eq (by unfold Exa.add; rw [if_neg h8, if_neg h9])
theorem xcmp_ok {x y : Exa} (hx : Exb x) (hy : Exb y) (hn : Exb y.neg) (hl : ∀ e, e = min x.e y.neg.e → Sml (x.low e).m ∧ Sml (y.neg.low e).m) : Ct Tryz.prog 26 [exaP x, exaP y] (isv (.int .i64 (x.cmp y))) := by
 refine Ct.of Tryz.func26 rfl (by kernel_rfl) rfl fun c0 => ?_
 refine yN (To.emps 2) ?_
 refine zF (zG [] (.w 0 (op_box 0 (.t rfl) yL rfl)<|.w 1 (op_box 1 (.t rfl) yL rfl)<|.n (zB (.k rfl))<|.nil) ff rfl fun g1 => ⟨_, _, [0, 1], rfl, (.k 2 rfl<|.k 3 rfl<|.nil), (.k 0 rfl<|.k 1 rfl<|.nil), ?_⟩)
 refine zC<|zF (zG [[], [], [1], [0, 1, 2], [0, 1, 2, 3], [0, 1, 2, 3, 4], [0, 1, 2, 3, 4, 5]] (.r 0 (yI 0 ag41 (.t rfl) rfl zJ rfl rfl)<|.r 1 (yI 1 ag41 (.t rfl) rfl zJ rfl rfl)<|.n (zP (xneg_ok hy) ⟨(.t rfl),  trivial⟩)<|.n (zP (xadd_ok hx hn hl) ⟨(.t rfl), (.t rfl),  trivial⟩)<|.n (op_fieldv_sc fd41_0 ft41_0 sc39 (.t rfl) rfl)<|.n (zP (isign_ok) ⟨(.t rfl),  trivial⟩)<|.n (zB (.t rfl))<|.nil) (fun _ => mixed) rfl fun g2 => ⟨_, _, [], rfl, (.k 4 rfl<|.nil), (.nil), ?_⟩)
 refine zC<|yF<|zQ (.cons (.tmp (.t rfl))<|.nil) (zM (yD zL) ?_)
 exact ret_i rfl
theorem xpow_ok {e : Int} : Ct Tryz.prog 27 [isv (.int .i64 e)] (exaP ⟨1, e⟩) := by
 refine Ct.of Tryz.func27 rfl (by kernel_rfl) rfl fun c0 => ?_
 refine yN (To.emps 1) ?_
 refine zF (zG [] (.w 0 (yT 0 zr41 rfl rfl)<|.nil) ff rfl fun g1 => ⟨_, _, [0], rfl, (.k 0 rfl<|.k 2 rfl<|.nil), (.k 0 rfl<|.nil), ?_⟩)
 refine zC<|zF (zG [] (.n (zP (newint_ok (n := 1) (by omega)) ⟨(.k rfl),  trivial⟩)<|.n (zA (.t rfl))<|.n (op_build zr41 rfl pl41 (.cons rfl (.t rfl) co_ptp rfl (yU rfl (Nat.le_of_ble_eq_true rfl)) (.cons rfl (.t rfl) co_isv rfl (yU rfl (Nat.le_of_ble_eq_true rfl)) .nil)))<|.w 0 (yM 0 (.t rfl) (.t rfl) yL sz41 rfl rfl rfl)<|.nil) ff rfl fun g2 => ⟨_, _, [0], rfl, (.k 2 rfl<|.nil), (.k 0 rfl<|.nil), ?_⟩)
 refine zC<|yF<|zQ (.cons (.ag 0 (.t rfl) ag41 rfl rfl rfl)<|.nil) (zM (yD zL) ?_)
 exact zL
theorem odd_ok {m : Nat} {e : Int} (hm : m < 18446744073709551616) (h0 : -1000000 ≤ e) (h1 : e ≤ 1000000) : Ct Tryz.prog 95 [isv (.int .u64 (m : Int)), isv (.int .i64 e)] (tupp [isv (.int .u64 (oddM m : Int)), isv (.int .i64 (oddE m e))]) := by
 refine Ct.of Tryz.func95 rfl (by kernel_rfl) rfl fun c0 => ?_
 refine zF (zG [] (.n (zB (.k rfl))<|.n (zB (.k rfl))<|.nil) ff rfl fun g1 => ⟨_, _, [], rfl, (.k 0 rfl<|.k 1 rfl<|.nil), (.nil), ?_⟩)
 refine zC<|zF<|zF (zG [] (.n (zA (.t rfl))<|.n (yB (by simp) (.t rfl) (.k rfl) rfl)<|.nil) ff rfl fun g2 => ⟨_, _, [], rfl, (.k 0 rfl<|.k 1 rfl<|.k 7 rfl<|.nil), (.nil), ?_⟩)
 refine zC<|zH (zK (.t rfl)) (fun h1 => ?_) (fun h1 => ?_)
 ·try simp only [cmpB, Z] at h1
  refine zF (zG [] (.n (zB (.k rfl))<|.n (zB (.k rfl))<|.nil) ff rfl fun g3 => ⟨_, _, [], rfl, (.k 4 rfl<|.k 5 rfl<|.nil), (.nil), ?_⟩)
  refine zC<|yF<|zD<|zQ (.cons (.tmp (.t rfl))<|.cons (.tmp (.t rfl))<|.nil) (zM (sb_res (.cons zL<|.cons zL<|.nil)) ?_)
  exact sb_eq (by unfold oddM oddE; rw [if_pos (by omega), if_pos (by omega)]; rfl)
 ·try simp only [cmpB, Z] at h1
  refine yE<|zC<|zF<|zT<|J_loopc (α := Nat) (fun k => OddI m k) (fun k => 64 - k) (fun k restR => (0, isv (.int .u64 ((m / 2 ^ k : Nat) : Int))) :: (1, isv (.int .i64 (e + (k : Int)))) :: restR) (fun k restS => restS) (ρc := []) (σc := []) 0 (by exact odd_zero (by omega)) (To.pick (fun _ => .sub (t := 0) rfl (yO (by exact congrArg (fun z => isv (.int .u64 z)) (by simp)))<|.sub (t := 1) rfl (yO (by exact congrArg (fun z => isv (.int .i64 z)) (by omega)))<|.nil) (fun _ => .nil) (ks := []) rfl) (fun k hI => ?_)
  have hk64 := odd_lt hI hm
  refine zF<|zF (zG [] (.n (zA (.t rfl))<|.n (op_rem (.t rfl) (.k rfl) (by omega) rfl)<|.n (yB (by simp) (.t rfl) (.k rfl) rfl)<|.nil) ff rfl fun g4 => ⟨_, _, [], rfl, (.k 0 rfl<|.k 1 rfl<|.k 10 rfl<|.nil), (.nil), ?_⟩)
  refine zC<|zH (zK (.t rfl)) (fun h2 => ?_) (fun h2 => ?_)
  ·try simp only [cmpB, Z] at h2
   have hlm : m / 2 ^ k ≤ m := Nat.div_le_self _ _
   have hev : (m / 2 ^ k) % 2 = 0 := (tmod2 _).1 h2
   refine yE<|zC<|zT<|zF (zG [] (.n (zA (.t rfl))<|.n (op_quo (.t rfl) (.k rfl) (by omega) (quo2 (div_lt hm)))<|.n (zB (.t rfl))<|.nil) ff rfl fun g5 => ⟨_, _, [], rfl, (.k 0 rfl<|.k 1 rfl<|.nil), (.nil), ?_⟩)
   refine zC<|(zG [] (.n (zA (.t rfl))<|.n (yK (.t rfl) (.k rfl) (zO (by omega) (by omega)))<|.n (zB (.t rfl))<|.nil) ff rfl fun g6 => ⟨_, _, [], rfl, (.k 0 rfl<|.k 1 rfl<|.nil), (.nil), ?_⟩)
   refine zR ?_
   exact yW (k + 1) (by exact odd_step hI hev) (by omega) (To.pick (fun _ => .sub (t := 0) rfl (yO (by exact congrArg (fun z => isv (.int .u64 z)) (by rw [Nat.pow_succ, ← Nat.div_div_eq_div_mul])))<|.sub (t := 1) rfl (yO (by exact congrArg (fun z => isv (.int .i64 z)) (by omega)))<|.nil) (fun _ => .nil) (ks := []) rfl)
  ·try simp only [cmpB, Z] at h2
   refine J_exit ?_
   refine zE<|zE<|zS<|zC<|zF (zG [] (.n (zA (.t rfl))<|.n (zA (.t rfl))<|.n (zB (.t rfl))<|.n (zB (.t rfl))<|.nil) ff rfl fun g7 => ⟨_, _, [], rfl, (.k 4 rfl<|.k 5 rfl<|.nil), (.nil), ?_⟩)
   refine zC<|yF<|zQ (.cons (.tmp (.t rfl))<|.cons (.tmp (.t rfl))<|.nil) (zM (sb_res (.cons zL<|.cons zL<|.nil)) ?_)
   have hod : ¬ (m / 2 ^ k) % 2 = 0 := fun e => h2 ((tmod2 _).2 e)
   have hkt := odd_done hI hod
   have hm0 := hI.h0
   exact sb_eq (by unfold oddM oddE; rw [if_neg hm0, if_neg hm0, ← hkt])
theorem rsplitF_ok {x : Nat} (hn : nanB x = false) : Ct Tryz.prog 94 [flp x] (tupp [isv (.bool (sgn x)), isv (.int .i64 (expo x : Int)), isv (.int .u64 (frac x : Int))]) := by
 refine Ct.of Tryz.func94 rfl (by kernel_rfl) rfl fun c0 => ?_
 refine J_fl 0 rfl fun hx1 hx2 => ?_
 refine zF (zG [] (.n (zB (.k rfl))<|.n (zB (.k rfl))<|.n (zB (.k rfl))<|.nil) ff rfl fun g1 => ⟨_, _, [], rfl, (.k 0 rfl<|.nil), (.nil), ?_⟩)
 refine zC<|zF (zG [] (.n (zA (.t rfl))<|.n (zP (bits_ok) ⟨(.t rfl),  trivial⟩)<|.n (zB (.t rfl))<|.nil) ff rfl fun g2 => ⟨_, _, [], rfl, (.k 5 rfl<|.nil), (.nil), ?_⟩)
 refine zC<|zF (zG [] (.n (zA (.t rfl))<|.n (op_shr (.t rfl) (.k rfl) (by omega) (shr_bits x 63 (by omega)))<|.n (yB (by simp) (.t rfl) (.k rfl) rfl)<|.n (zA (.t rfl))<|.n (op_shr (.t rfl) (.k rfl) (by omega) (shr_bits x 52 (by omega)))<|.n (op_rem (.t rfl) (.k rfl) (by omega) (show _ = ((expo x : Nat) : Int) from rfl))<|.n (yG it34 it3 (.t rfl) (expo_i64 x))<|.n (zA (.t rfl))<|.n (op_rem (.t rfl) (.k rfl) (by omega) (show _ = ((frac x : Nat) : Int) from rfl))<|.n (zB (.t rfl))<|.n (zB (.t rfl))<|.n (zB (.t rfl))<|.nil) ff rfl fun g3 => ⟨_, _, [], rfl, (.k 2 rfl<|.k 3 rfl<|.k 4 rfl<|.nil), (.nil), ?_⟩)
 refine zC<|yF<|zQ (.cons (.tmp (.t rfl))<|.cons (.tmp (.t rfl))<|.cons (.tmp (.t rfl))<|.nil) (zM (sb_res (.cons zL<|.cons zL<|.cons zL<|.nil)) ?_)
 exact sb_eq (by rw [sgn_top hx1])
theorem rparts_ok {x : Nat} (hf : finB x = true) : Ct Tryz.prog 64 [flp x] (tupp [aggp [isv (.bool (sgn x)), isv (.int .u64 ((oddM (mgn x) : Nat) : Int)), isv (.int .i64 (oddE (mgn x) (plc x)))], isv (.int .i64 0)]) := by
 refine Ct.of Tryz.func64 rfl (by kernel_rfl) rfl fun c0 => ?_
 have hex : expo x < 2047 := by unfold finB at hf; simpa using hf
 have hml := mgn_lt x
 have hpg := plc_ge x
 refine yN (To.emps 1) ?_
 refine zF (zG [] (.w 0 (yT 0 zr107 rfl rfl)<|.n (zB (.k rfl))<|.nil) ff rfl fun g1 => ⟨_, _, [0], rfl, (.k 0 rfl<|.k 2 rfl<|.nil), (.k 0 rfl<|.nil), ?_⟩)
 refine zC<|zF (zG [] (.n (zA (.t rfl))<|.n (zP (rsplitF_ok (fin_not_nan hf)) ⟨(.t rfl),  trivial⟩)<|.n (zA (.t rfl))<|.n (yJ (.t rfl) rfl)<|.n (yJ (.t rfl) rfl)<|.n (yJ (.t rfl) rfl)<|.n (zB (.t rfl))<|.n (zB (.t rfl))<|.n (zB (.t rfl))<|.nil) ff rfl fun g2 => ⟨_, _, [0], rfl, (.k 2 rfl<|.k 4 rfl<|.k 5 rfl<|.k 6 rfl<|.nil), (.k 0 rfl<|.nil), ?_⟩)
 refine zC<|zF<|zF (zG [] (.n (zA (.t rfl))<|.n (yB (by simp) (.t rfl) (.k rfl) rfl)<|.nil) ff rfl fun g3 => ⟨_, _, [0], rfl, (.k 2 rfl<|.k 4 rfl<|.k 5 rfl<|.k 6 rfl<|.k 16 rfl<|.nil), (.k 0 rfl<|.nil), ?_⟩)
 refine zC<|zH (zK (.t rfl)) (fun h1 => ?_) (fun h1 => ?_)
 ·try simp only [cmpB, Z] at h1
  exact absurd h1 (by omega)
 ·try simp only [cmpB, Z] at h1
  refine yE<|zC<|zF<|zF (zG [] (.n (zA (.t rfl))<|.n (yB (by simp) (.t rfl) (.k rfl) rfl)<|.nil) ff rfl fun g4 => ⟨_, _, [0], rfl, (.k 2 rfl<|.k 4 rfl<|.k 5 rfl<|.k 6 rfl<|.k 19 rfl<|.nil), (.k 0 rfl<|.nil), ?_⟩)
  refine zC<|zH (zK (.t rfl)) (fun h2 => ?_) (fun h2 => ?_)
  ·try simp only [cmpB, Z] at h2
   have hpp := (mgn_1 (x := x) (by omega)).2
   have hpl : IntKind.i64.wrap ((expo x : Int) - 1 - 1074) = plc x := by rw [← hpp]; exact zO (by omega) (by omega)
   have hmg : mgn x = mgn x := rfl
   refine zF (zG [] (.n (zA (.t rfl))<|.n (yK (.t rfl) (.k rfl) (mgn_big (by omega)))<|.n (zB (.t rfl))<|.nil) ff rfl fun g5 => ⟨_, _, [0], rfl, (.k 2 rfl<|.k 4 rfl<|.k 5 rfl<|.k 6 rfl<|.nil), (.k 0 rfl<|.nil), ?_⟩)
   refine zC<|(zG [] (.n (zA (.t rfl))<|.n (op_sub (.t rfl) (.k rfl) (zO (by omega) (by omega)))<|.n (zB (.t rfl))<|.nil) ff rfl fun g6 => ⟨_, _, [0], rfl, (.k 2 rfl<|.k 4 rfl<|.k 5 rfl<|.k 6 rfl<|.nil), (.k 0 rfl<|.nil), ?_⟩)
   refine zC<|zF (zG [] (.n (zA (.t rfl))<|.n (zA (.t rfl))<|.n (op_sub (.t rfl) (.k rfl) hpl)<|.n (zP (odd_ok (by omega) (by omega) (by omega)) ⟨(.t rfl), (.t rfl),  trivial⟩)<|.n (zA (.t rfl))<|.n (yJ (.t rfl) rfl)<|.n (yJ (.t rfl) rfl)<|.n (zB (.t rfl))<|.n (zB (.t rfl))<|.nil) ff rfl fun g7 => ⟨_, _, [0], rfl, (.k 2 rfl<|.k 4 rfl<|.k 7 rfl<|.k 8 rfl<|.nil), (.k 0 rfl<|.nil), ?_⟩)
   refine zC<|zF (zG [] (.n (zA (.t rfl))<|.n (zA (.t rfl))<|.n (zA (.t rfl))<|.n (op_build zr107 rfl pl107 (.cons rfl (.t rfl) co_isv rfl (yU rfl (Nat.le_of_ble_eq_true rfl)) (.cons rfl (.t rfl) co_isv rfl (yU rfl (Nat.le_of_ble_eq_true rfl)) (.cons rfl (.t rfl) co_isv rfl (yU rfl (Nat.le_of_ble_eq_true rfl)) .nil))))<|.w 0 (yM 0 (.t rfl) (.t rfl) yL sz107 rfl rfl rfl)<|.n (zB (.k rfl))<|.nil) ff rfl fun g8 => ⟨_, _, [0], rfl, (.k 2 rfl<|.k 3 rfl<|.nil), (.k 0 rfl<|.nil), ?_⟩)
   refine zC<|yF<|zQ (.cons (.ag 0 (.t rfl) ag107 rfl rfl rfl)<|.cons (.tmp (.t rfl))<|.nil) (zM (sb_res (.cons zL<|.cons zL<|.nil)) ?_)
   first | exact zL | exact sb_eq (by rw [hmg])
  ·try simp only [cmpB, Z] at h2
   obtain ⟨hmg, hpp⟩ := mgn_0 (x := x) (by omega)
   have hpl : IntKind.i64.wrap ((expo x : Int) - 1074) = plc x := by rw [hpp, show (expo x : Int) = 0 by omega]; exact zO (by omega) (by omega)
   refine yE<|zC<|zF (zG [] (.n (zA (.t rfl))<|.n (zA (.t rfl))<|.n (op_sub (.t rfl) (.k rfl) hpl)<|.n (zP (odd_ok (by omega) (by omega) (by omega)) ⟨(.t rfl), (.t rfl),  trivial⟩)<|.n (zA (.t rfl))<|.n (yJ (.t rfl) rfl)<|.n (yJ (.t rfl) rfl)<|.n (zB (.t rfl))<|.n (zB (.t rfl))<|.nil) ff rfl fun g9 => ⟨_, _, [0], rfl, (.k 2 rfl<|.k 4 rfl<|.k 7 rfl<|.k 8 rfl<|.nil), (.k 0 rfl<|.nil), ?_⟩)
   refine zC<|zF (zG [] (.n (zA (.t rfl))<|.n (zA (.t rfl))<|.n (zA (.t rfl))<|.n (op_build zr107 rfl pl107 (.cons rfl (.t rfl) co_isv rfl (yU rfl (Nat.le_of_ble_eq_true rfl)) (.cons rfl (.t rfl) co_isv rfl (yU rfl (Nat.le_of_ble_eq_true rfl)) (.cons rfl (.t rfl) co_isv rfl (yU rfl (Nat.le_of_ble_eq_true rfl)) .nil))))<|.w 0 (yM 0 (.t rfl) (.t rfl) yL sz107 rfl rfl rfl)<|.n (zB (.k rfl))<|.nil) ff rfl fun g10 => ⟨_, _, [0], rfl, (.k 2 rfl<|.k 3 rfl<|.nil), (.k 0 rfl<|.nil), ?_⟩)
   refine zC<|yF<|zQ (.cons (.ag 0 (.t rfl) ag107 rfl rfl rfl)<|.cons (.tmp (.t rfl))<|.nil) (zM (sb_res (.cons zL<|.cons zL<|.nil)) ?_)
   first | exact zL | exact sb_eq (by rw [hmg])
theorem xof_ok {x : Nat} (hf : finB x = true) : Ct Tryz.prog 23 [flp x] (exaP (ofX x)) := by
 refine Ct.of Tryz.func23 rfl (by kernel_rfl) rfl fun c0 => ?_
 have hml := mgn_lt x
 have hol := oddM_le (mgn x)
 refine yN (To.emps 1) ?_
 refine zF (zG [] (.w 0 (yT 0 zr41 rfl rfl)<|.nil) ff rfl fun g1 => ⟨_, _, [0], rfl, (.k 0 rfl<|.k 2 rfl<|.nil), (.k 0 rfl<|.nil), ?_⟩)
 refine zC<|yN (To.emps 1) ?_
 refine zF (zG [] (.n (zA (.t rfl))<|.n (zP (rparts_ok hf) ⟨(.t rfl),  trivial⟩)<|.n (zA (.t rfl))<|.n (yJ (.t rfl) rfl)<|.n (yJ (.t rfl) rfl)<|.w 1 (yT 1 zr107 rfl rfl)<|.w 1 (op_store_new 1 rfl (.t rfl) yL sz107 rfl rfl)<|.n (zB (.t rfl))<|.nil) ff rfl fun g2 => ⟨_, _, [0, 1], rfl, (.k 2 rfl<|.k 3 rfl<|.nil), (.k 0 rfl<|.k 1 rfl<|.nil), ?_⟩)
 refine zC<|yN (To.emps 1) ?_
 refine zF (zG [] (.w 2 (yT 2 zr96 rfl rfl)<|.n (zI fd107_1 (.t rfl) rfl)<|.r 1 (zN 1 sc34 (.t rfl) rfl zJ rfl)<|.w 2 (op_callMp 2 rfl rfl (fun u => isetu_ok (by omega)) rfl ⟨(.t rfl),  trivial⟩)<|.n (yX rfl rfl)<|.nil) ff rfl fun g3 => ⟨_, _, [0, 1, 2], rfl, (.k 2 rfl<|.k 3 rfl<|.k 5 rfl<|.nil), (.k 0 rfl<|.k 1 rfl<|.k 2 rfl<|.nil), ?_⟩)
 refine zC<|zF<|zF (zG [] (.n (zI fd107_0 (.t rfl) rfl)<|.r 1 (zN 1 sc4 (.t rfl) rfl zJ rfl)<|.nil) ff rfl fun g4 => ⟨_, _, [0, 1, 2], rfl, (.k 2 rfl<|.k 3 rfl<|.k 5 rfl<|.k 16 rfl<|.nil), (.k 0 rfl<|.k 1 rfl<|.k 2 rfl<|.nil), ?_⟩)
 refine zC<|zH (zK (.t rfl)) (fun h1 => ?_) (fun h1 => ?_)
 ·try simp only [cmpB, Z] at h1
  refine (zG [] (.n (zA (.t rfl))<|.n (zA (.t rfl))<|.w 2 (op_callM 2 (ineg2_ok (sml_of (by omega))) ⟨(.t rfl), (.t rfl),  trivial⟩ rfl)<|.nil) ff rfl fun g5 => ⟨_, _, [0, 1, 2], rfl, (.k 2 rfl<|.k 3 rfl<|.k 5 rfl<|.nil), (.k 0 rfl<|.k 1 rfl<|.k 2 rfl<|.nil), ?_⟩)
  refine zC<|zF (zG [] (.n (zA (.t rfl))<|.n (zI fd107_2 (.t rfl) rfl)<|.r 1 (zN 1 sc3 (.t rfl) rfl zJ rfl)<|.n (op_build zr41 rfl pl41 (.cons rfl (.t rfl) co_ipo rfl (yU rfl (Nat.le_of_ble_eq_true rfl)) (.cons rfl (.t rfl) co_isv rfl (yU rfl (Nat.le_of_ble_eq_true rfl)) .nil)))<|.w 0 (yM 0 (.t rfl) (.t rfl) yL sz41 rfl rfl rfl)<|.nil) ff rfl fun g6 => ⟨_, _, [0, 2], rfl, (.k 2 rfl<|.nil), (.k 0 rfl<|.k 2 rfl<|.nil), ?_⟩)
  refine zC<|yF<|JN_to (To.freeze 1 (fun _ h => h) rfl frz_blk rfl) ?_
  refine zQ (.cons (.ag 0 (.t rfl) ag41 rfl rfl rfl)<|.nil) (zM (yD (sb_agg (.cons (sb_ok 0 2 rfl rfl)<|.cons zL<|.nil))) ?_)
  exact sb_eq (by unfold ofX; rw [if_pos (by simpa using h1)])
 ·try simp only [cmpB, Z] at h1
  refine yE<|zC<|zF (zG [] (.n (zA (.t rfl))<|.n (zI fd107_2 (.t rfl) rfl)<|.r 1 (zN 1 sc3 (.t rfl) rfl zJ rfl)<|.n (op_build zr41 rfl pl41 (.cons rfl (.t rfl) co_ipo rfl (yU rfl (Nat.le_of_ble_eq_true rfl)) (.cons rfl (.t rfl) co_isv rfl (yU rfl (Nat.le_of_ble_eq_true rfl)) .nil)))<|.w 0 (yM 0 (.t rfl) (.t rfl) yL sz41 rfl rfl rfl)<|.nil) ff rfl fun g7 => ⟨_, _, [0, 2], rfl, (.k 2 rfl<|.nil), (.k 0 rfl<|.k 2 rfl<|.nil), ?_⟩)
  refine zC<|yF<|JN_to (To.freeze 1 (fun _ h => h) rfl frz_blk rfl) ?_
  refine zQ (.cons (.ag 0 (.t rfl) ag41 rfl rfl rfl)<|.nil) (zM (yD (sb_agg (.cons (sb_ok 0 2 rfl rfl)<|.cons zL<|.nil))) ?_)
  exact sb_eq (by unfold ofX; rw [if_neg (by simpa using h1)])
theorem xdot_ok {xs ys : List Nat} (hD : DotB xs ys) : Ct Tryz.prog 13 [fls xs, fls ys] (exaP (dotX xs ys xs.length)) := by
 refine Ct.of Tryz.func13 rfl (by kernel_rfl) rfl fun c0 => ?_
 refine J_len 0 rfl fun hlen => ?_
 have hxy := hD.hl
 refine yN (To.emps 1) ?_
 refine zF (zG [] (.w 0 (yT 0 zr41 rfl rfl)<|.nil) ff rfl fun g1 => ⟨_, _, [0], rfl, (.k 0 rfl<|.k 1 rfl<|.k 4 rfl<|.nil), (.k 0 rfl<|.nil), ?_⟩)
 refine zC<|yN (To.emps 1) ?_
 refine zF (zG [] (.n (zP (xzero_ok) trivial)<|.w 1 (yT 1 zr41 rfl rfl)<|.w 1 (op_store_new 1 rfl (.t rfl) yL sz41 rfl rfl)<|.nil) ff rfl fun g2 => ⟨_, _, [0, 1], rfl, (.k 0 rfl<|.k 1 rfl<|.k 4 rfl<|.k 5 rfl<|.nil), (.k 0 rfl<|.k 1 rfl<|.nil), ?_⟩)
 refine zC<|zF<|zF (zG [] (.n (zA (.t rfl))<|.n (yV sl26 (.t rfl))<|.n (zA (.k rfl))<|.nil) ff rfl fun g3 => ⟨_, _, [0, 1], rfl, (.k 0 rfl<|.k 1 rfl<|.k 4 rfl<|.k 5 rfl<|.k 9 rfl<|.k 10 rfl<|.nil), (.k 0 rfl<|.k 1 rfl<|.nil), ?_⟩)
 refine zC<|zT<|J_loopc (α := Nat) (fun k => k ≤ xs.length) (fun k => xs.length - k) (fun k restR => (10, isv (.int .i64 (k : Int))) :: restR) (fun k restS => blk (g2 5) [intP (dotX xs ys k).m, isv (.int .i64 (dotX xs ys k).e)] 41 :: restS) (ρc := [(0, _), (1, _), (4, _), (5, _), (9, _)]) (σc := [_]) 0 (by exact Nat.zero_le _) (To.pick (fun _ => .sub (t := 10) rfl (yO (by rfl))<|.k 0 rfl<|.k 1 rfl<|.k 4 rfl<|.k 5 rfl<|.k 9 rfl<|.nil) (fun _ => .sub 1 rfl ((fun _ _ h => h))<|.k 0 rfl<|.nil) (ks := [1, 0]) rfl) (fun k hI => ?_)
 refine zF (zG [] (.n (yB (by simp) (.t rfl) (.t rfl) rfl)<|.nil) ff rfl fun g4 => ⟨_, _, [0, 1], rfl, (.k 0 rfl<|.k 1 rfl<|.k 4 rfl<|.k 5 rfl<|.k 9 rfl<|.k 10 rfl<|.k 11 rfl<|.nil), (.k 0 rfl<|.k 1 rfl<|.nil), ?_⟩)
 refine zC<|zF<|zH (zK (.t rfl)) (fun h1 => ?_) (fun h1 => ?_)
 ·try simp only [cmpB, Z] at h1
  have hkx := hD.hx k (by omega)
  have hky := hD.hy k (by omega)
  have hkp := hD.hp k (by omega)
  have hks := hD.hs k (by omega)
  have hka := hD.ha k (by omega)
  refine yE<|zC<|zF<|zT<|zF (zG [] (.n (zA (.t rfl))<|.n (zB (.t rfl))<|.nil) ff rfl fun g5 => ⟨_, _, [0, 1], rfl, (.k 0 rfl<|.k 1 rfl<|.k 4 rfl<|.k 5 rfl<|.k 6 rfl<|.k 9 rfl<|.k 10 rfl<|.nil), (.k 0 rfl<|.k 1 rfl<|.nil), ?_⟩)
  refine zC<|(zG [[], [], [], [1, 2], [1, 2, 3], [1, 2, 3, 4], [], [], [6, 7], [6, 7, 8], [1, 2, 3, 4, 5, 6, 7, 8, 9], [1, 2, 3, 4, 5, 6, 7, 8, 9, 10], [0, 1, 2, 3, 4, 5, 6, 7, 8, 9, 10, 11], [0, 1, 2, 3, 4, 5, 6, 7, 8, 9, 10, 11, 12]] (.r 0 (yI 0 ag41 (.t rfl) rfl zJ rfl rfl)<|.n (zA (.t rfl))<|.n (zA (.t rfl))<|.n (yS 0 sl26 (.t rfl) (.t rfl) (by omega) (by omega))<|.n (yC sc36 (.t rfl) rfl)<|.n (zP (xof_ok hkx.1) ⟨(.t rfl),  trivial⟩)<|.n (zA (.t rfl))<|.n (zA (.t rfl))<|.n (yS 0 sl26 (.t rfl) (.t rfl) (by omega) (by omega))<|.n (yC sc36 (.t rfl) rfl)<|.n (zP (xof_ok hky.1) ⟨(.t rfl),  trivial⟩)<|.n (zP (xmul_ok hkx.2 hky.2) ⟨(.t rfl), (.t rfl),  trivial⟩)<|.n (zP (xadd_ok hks hkp hka) ⟨(.t rfl), (.t rfl),  trivial⟩)<|.w 0 (yM 0 (.t rfl) (.t rfl) yL sz41 rfl rfl rfl)<|.nil) (fun _ => mixed) rfl fun g6 => ⟨_, _, [0, 1], rfl, (.k 0 rfl<|.k 1 rfl<|.k 4 rfl<|.k 5 rfl<|.k 9 rfl<|.k 10 rfl<|.nil), (.k 0 rfl<|.k 1 rfl<|.nil), ?_⟩)
  refine zR<|zC<|(zG [] (.n (yK (.t rfl) (.k rfl) (zO (by omega) (by omega)))<|.n (zA (.t rfl))<|.nil) ff rfl fun g7 => ⟨_, _, [0, 1], rfl, (.k 0 rfl<|.k 1 rfl<|.k 4 rfl<|.k 5 rfl<|.k 9 rfl<|.k 10 rfl<|.nil), (.k 0 rfl<|.k 1 rfl<|.nil), ?_⟩)
  exact yW (k + 1) (by omega) (by omega) (To.pick (fun _ => .sub (t := 10) rfl (yO (by rfl))<|.k 0 rfl<|.k 1 rfl<|.k 4 rfl<|.k 5 rfl<|.k 9 rfl<|.nil) (fun _ => .sub 0 rfl ((fun _ _ h => h))<|.k 1 rfl<|.nil) (ks := [0, 1]) rfl)
 ·try simp only [cmpB, Z] at h1
  obtain rfl : k = xs.length := by omega
  refine J_exit ?_
  refine zE<|zE<|zS<|zC<|zF (zG [] (.r 0 (yI 0 ag41 (.t rfl) rfl zJ rfl rfl)<|.w 1 (yM 1 (.t rfl) (.t rfl) yL sz41 rfl rfl rfl)<|.nil) ff rfl fun g8 => ⟨_, _, [1], rfl, (.k 4 rfl<|.nil), (.k 1 rfl<|.nil), ?_⟩)
  refine zC<|yF<|zQ (.cons (.ag 0 (.t rfl) ag41 rfl rfl rfl)<|.nil) (zM (yD zL) ?_)
  exact zL
end Go.Proofs.YtllkellonjhalaaGreat
