/- Printed by a program of ours (walk.py): walks of whole numbers in memory. -/
import Derived.Test.YtllkellonjhalaaGreatOoKb
import Derived.Test.YtllkellonjhalaaGreatProg
import Derived.KernelRfl
import Derived.Test.YtllkellonjhalaaGreatOoTypes
import Derived.Test.YtllkellonjhalaaGreatOoWBig
set_option linter.unusedVariables false
set_option linter.unusedSimpArgs false
set_option maxRecDepth 20000
set_option maxHeartbeats 1000000
namespace Go.Proofs.YtllkellonjhalaaGreat
open Go Go.Bn
attribute [local irreducible] OpOK
theorem iput_ok {u : Value} {q0 q1 : SP} {b : Bool} {l : List Int} (hd : Dig l) : CtM Tryz.prog 91 [ipo u 0, isv (.bool b), ils .u32 l] (blk u [q0, q1] 96) (ipo u 0) (blk u (intC (sgnI b (magI l).toNat)) 96) := by
 refine CtM.of Tryz.func91 rfl (by kernel_rfl) rfl (fix_blk) fun c0 ob hr0 => ?_
 refine zF (zG [] (.n (zB (.k rfl))<|.nil) ff rfl fun g1 => ⟨_, _, [0], rfl, (.k 0 rfl<|.k 1 rfl<|.k 2 rfl<|.nil), (.k 0 rfl<|.nil), ?_⟩)
 refine zC<|zF (zG [] (.n (zA (.t rfl))<|.n (zP (cut_ok hd) ⟨(.t rfl),  trivial⟩)<|.n (zB (.t rfl))<|.nil) ff rfl fun g2 => ⟨_, _, [0], rfl, (.k 0 rfl<|.k 1 rfl<|.k 2 rfl<|.nil), (.k 0 rfl<|.nil), ?_⟩)
 refine zC<|zF (zG [] (.n (zA (.t rfl))<|.n (zA (.t rfl))<|.n (op_nilo (.t rfl))<|.n (zI fd96_1 (.t rfl) rfl)<|.w 0 (yM 0 (.t rfl) (.t rfl) co_slm sz94 rfl rfl rfl)<|.nil) ff rfl fun g3 => ⟨_, _, [0], rfl, (.k 0 rfl<|.k 1 rfl<|.k 2 rfl<|.nil), (.k 0 rfl<|.nil), ?_⟩)
 refine zC<|zF (zG [] (.n (zA (.t rfl))<|.n (zA (.t rfl))<|.n (zA (.t rfl))<|.n (yA rfl rfl (gd_b rfl) (fun hC => (zA (.t rfl))))<|.n (yA rfl rfl (gd_b rfl) (fun hC => (yV sl94 (.w rfl hC))))<|.n (yA rfl rfl (gd_b rfl) (fun hC => (yB (by simp) (.w rfl hC) (.k rfl) rfl)))<|.n (op_and (.t rfl) (fun h2 => (.w rfl h2)))<|.n (op_nilo (.t rfl))<|.n (zI fd96_0 (.t rfl) rfl)<|.w 0 (yM 0 (.t rfl) (.t rfl) co_isv sz4 rfl rfl rfl)<|.nil) ff rfl fun g4 => ⟨_, _, [0], rfl, (.k 0 rfl<|.nil), (.k 0 rfl<|.nil), ?_⟩)
 refine zC<|zF (zG [] (.n (zA (.t rfl))<|.n (zB (.t rfl))<|.nil) ff rfl fun g5 => ⟨_, _, [0], rfl, (.k 6 rfl<|.nil), (.k 0 rfl<|.nil), ?_⟩)
 refine zC<|yF<|JN_to (To.res 0 (r' := blk u (intC (sgnI b (magI l).toNat)) 96) rfl (yQ (congrArg (fun cs => blk u cs 96) (put_cells b (magI l).toNat))) rfl) ?_
 refine JN_retM 0 hr0 (fix_blk) rfl (.cons (.tmp (.t rfl))<|.nil) (zM (yD zL) ?_)
 exact zL
theorem isetu_ok {u : Value} {q0 q1 : SP} {n : Nat} (hn : n < 18446744073709551616) : CtM Tryz.prog 65 [ipo u 0, isv (.int .u64 (n : Int))] (blk u [q0, q1] 96) (ipo u 0) (blk u (intC ((n : Int))) 96) := by
 refine CtM.of Tryz.func65 rfl (by kernel_rfl) rfl (fix_blk) fun c0 ob hr0 => ?_
 refine zF (zG [] (.n (zB (.k rfl))<|.nil) ff rfl fun g1 => ⟨_, _, [0], rfl, (.k 0 rfl<|.k 1 rfl<|.nil), (.k 0 rfl<|.nil), ?_⟩)
 refine zC<|zF (zG [] (.n (zA (.t rfl))<|.n (zA (.t rfl))<|.n (zP (words_ok (by omega)) ⟨(.t rfl),  trivial⟩)<|.w 0 (op_callM 0 (iput_ok (limbs_dig _)) ⟨(.t rfl), (.k rfl), (.t rfl),  trivial⟩ rfl)<|.n (zB (.t rfl))<|.nil) ff rfl fun g2 => ⟨_, _, [0], rfl, (.k 4 rfl<|.nil), (.k 0 rfl<|.nil), ?_⟩)
 refine zC<|yF<|JN_to (To.res 0 (r' := blk u (intC ((n : Int))) 96) rfl (yQ (by rw [mag_nat]; rfl)) rfl) ?_
 refine JN_retM 0 hr0 (fix_blk) rfl (.cons (.tmp (.t rfl))<|.nil) (zM (yD zL) ?_)
 exact zL
theorem isum_ok {u : Value} {q0 q1 : SP} {x y : Int} {t : Bool} (hx : Sml x) (hy : Sml y) : CtM Tryz.prog 89 [ipo u 0, intP x, intP y, isv (.bool t)] (blk u [q0, q1] 96) (ipo u 0) (blk u (intC (x + sgnI t 1 * y)) 96) := by
 refine CtM.of Tryz.func89 rfl (by kernel_rfl) rfl (fix_blk) fun c0 ob hr0 => ?_
 have lx := sml_len hx
 have ly := sml_len hy
 refine zF (zG [] (.n (zB (.k rfl))<|.nil) ff rfl fun g1 => ⟨_, _, [0], rfl, (.k 0 rfl<|.k 1 rfl<|.k 2 rfl<|.k 3 rfl<|.nil), (.k 0 rfl<|.nil), ?_⟩)
 refine zC<|zF (zG [] (.n (zA (.t rfl))<|.n (op_nilp (.t rfl))<|.n (yR fd96_0 (.t rfl) rfl)<|.n (yC sc4 (.t rfl) rfl)<|.n (zA (.t rfl))<|.n (op_bne Tryz.underlying4 (.t rfl) (.t rfl))<|.n (zB (.t rfl))<|.nil) ff rfl fun g2 => ⟨_, _, [0], rfl, (.k 0 rfl<|.k 1 rfl<|.k 2 rfl<|.k 9 rfl<|.nil), (.k 0 rfl<|.nil), ?_⟩)
 refine zC<|zF<|zF (zG [] (.n (zA (.t rfl))<|.n (op_nilp (.t rfl))<|.n (yR fd96_0 (.t rfl) rfl)<|.n (yC sc4 (.t rfl) rfl)<|.n (zA (.t rfl))<|.n (op_beql Tryz.underlying4 (.t rfl) (.t rfl))<|.nil) ff rfl fun g3 => ⟨_, _, [0], rfl, (.k 0 rfl<|.k 1 rfl<|.k 2 rfl<|.k 9 rfl<|.k 21 rfl<|.nil), (.k 0 rfl<|.nil), ?_⟩)
 refine zC<|zH (zK (.t rfl)) (fun h1 => ?_) (fun h1 => ?_)
 ·have h1' := h1
  try simp only [cmpB, Z] at h1
  refine zF (zG [[], [], [], [2], [2, 3], [2, 3, 4], [], [6], [6, 7], [6, 7, 8], [2, 3, 4, 5, 6, 7, 8, 9], [0, 1, 2, 3, 4, 5, 6, 7, 8, 9, 10], [0, 1, 2, 3, 4, 5, 6, 7, 8, 9, 10, 11]] (.n (zA (.t rfl))<|.n (zA (.t rfl))<|.n (zA (.t rfl))<|.n (op_nilp (.t rfl))<|.n (yR fd96_1 (.t rfl) rfl)<|.n (yC sc94 (.t rfl) rfl)<|.n (zA (.t rfl))<|.n (op_nilp (.t rfl))<|.n (yR fd96_1 (.t rfl) rfl)<|.n (yC sc94 (.t rfl) rfl)<|.n (zP (plus_ok (limbs_dig _) (limbs_dig _) lx ly) ⟨(.t rfl), (.t rfl),  trivial⟩)<|.w 0 (op_callM 0 (iput_ok (limbs_dig _)) ⟨(.t rfl), (.t rfl), (.t rfl),  trivial⟩ rfl)<|.n (zB (.t rfl))<|.nil) (fun _ => mixed) rfl fun g4 => ⟨_, _, [0], rfl, (.k 8 rfl<|.nil), (.k 0 rfl<|.nil), ?_⟩)
  refine zC<|yF<|zD<|JN_to (To.res 0 (r' := blk u (intC (x + sgnI t 1 * y)) 96) rfl (yQ (by rw [mag_nat, mag_add, sum_1 h1'])) rfl) ?_
  refine JN_retM 0 hr0 (fix_blk) rfl (.cons (.tmp (.t rfl))<|.nil) (zM (yD zL) ?_)
  exact zL
 ·have h1' := h1
  try simp only [cmpB, Z] at h1
  refine yE<|zC<|zF<|zF (zG [[], [0], [0, 1], [0, 1, 2], [], [4], [4, 5], [4, 5, 6], [0, 1, 2, 3, 4, 5, 6, 7], [0, 1, 2, 3, 4, 5, 6, 7, 8]] (.n (zA (.t rfl))<|.n (op_nilp (.t rfl))<|.n (yR fd96_1 (.t rfl) rfl)<|.n (yC sc94 (.t rfl) rfl)<|.n (zA (.t rfl))<|.n (op_nilp (.t rfl))<|.n (yR fd96_1 (.t rfl) rfl)<|.n (yC sc94 (.t rfl) rfl)<|.n (zP (cmp_ok) ⟨(.t rfl), (.t rfl),  trivial⟩)<|.n (yB (by simp) (.t rfl) (.k rfl) rfl)<|.nil) (fun _ => mixed) rfl fun g5 => ⟨_, _, [0], rfl, (.k 0 rfl<|.k 1 rfl<|.k 2 rfl<|.k 9 rfl<|.k 43 rfl<|.nil), (.k 0 rfl<|.nil), ?_⟩)
  refine zC<|zH (zK (.t rfl)) (fun h2 => ?_) (fun h2 => ?_)
  ·try simp only [cmpB, Z] at h2
   have hle := cmpN_le h2
   refine zF (zG [[], [], [1], [1, 2], [1, 2, 3], [], [5], [5, 6], [5, 6, 7], [], [9], [9, 10], [9, 10, 11], [5, 6, 7, 8, 9, 10, 11, 12], [0, 1, 2, 3, 4, 5, 6, 7, 8, 9, 10, 11, 12, 13], [0, 1, 2, 3, 4, 5, 6, 7, 8, 9, 10, 11, 12, 13, 14]] (.n (zA (.t rfl))<|.n (zA (.t rfl))<|.n (op_nilp (.t rfl))<|.n (yR fd96_0 (.t rfl) rfl)<|.n (yC sc4 (.t rfl) rfl)<|.n (zA (.t rfl))<|.n (op_nilp (.t rfl))<|.n (yR fd96_1 (.t rfl) rfl)<|.n (yC sc94 (.t rfl) rfl)<|.n (zA (.t rfl))<|.n (op_nilp (.t rfl))<|.n (yR fd96_1 (.t rfl) rfl)<|.n (yC sc94 (.t rfl) rfl)<|.n (zP (minus_ok (limbs_dig _) (limbs_dig _) lx ly (len_le hle) (mag_le hle)) ⟨(.t rfl), (.t rfl),  trivial⟩)<|.w 0 (op_callM 0 (iput_ok (limbs_dig _)) ⟨(.t rfl), (.t rfl), (.t rfl),  trivial⟩ rfl)<|.n (zB (.t rfl))<|.nil) (fun _ => mixed) rfl fun g6 => ⟨_, _, [0], rfl, (.k 8 rfl<|.nil), (.k 0 rfl<|.nil), ?_⟩)
   refine zC<|yF<|zD<|JN_to (To.res 0 (r' := blk u (intC (x + sgnI t 1 * y)) 96) rfl (yQ (by rw [mag_nat, mag_sub hle, sum_2 h1' hle])) rfl) ?_
   refine JN_retM 0 hr0 (fix_blk) rfl (.cons (.tmp (.t rfl))<|.nil) (zM (yD zL) ?_)
   exact zL
  ·try simp only [cmpB, Z] at h2
   have hle := cmpN_gt (x := x.natAbs) (y := y.natAbs) (by omega)
   refine yE<|zC<|zF (zG [[], [], [], [2], [2, 3], [2, 3, 4], [], [6], [6, 7], [6, 7, 8], [2, 3, 4, 5, 6, 7, 8, 9], [0, 1, 2, 3, 4, 5, 6, 7, 8, 9, 10], [0, 1, 2, 3, 4, 5, 6, 7, 8, 9, 10, 11]] (.n (zA (.t rfl))<|.n (zA (.t rfl))<|.n (zA (.t rfl))<|.n (op_nilp (.t rfl))<|.n (yR fd96_1 (.t rfl) rfl)<|.n (yC sc94 (.t rfl) rfl)<|.n (zA (.t rfl))<|.n (op_nilp (.t rfl))<|.n (yR fd96_1 (.t rfl) rfl)<|.n (yC sc94 (.t rfl) rfl)<|.n (zP (minus_ok (limbs_dig _) (limbs_dig _) ly lx (len_le hle) (mag_le hle)) ⟨(.t rfl), (.t rfl),  trivial⟩)<|.w 0 (op_callM 0 (iput_ok (limbs_dig _)) ⟨(.t rfl), (.t rfl), (.t rfl),  trivial⟩ rfl)<|.n (zB (.t rfl))<|.nil) (fun _ => mixed) rfl fun g7 => ⟨_, _, [0], rfl, (.k 8 rfl<|.nil), (.k 0 rfl<|.nil), ?_⟩)
   refine zC<|yF<|JN_to (To.res 0 (r' := blk u (intC (x + sgnI t 1 * y)) 96) rfl (yQ (by rw [mag_nat, mag_sub hle, sum_3 h1' hle])) rfl) ?_
   refine JN_retM 0 hr0 (fix_blk) rfl (.cons (.tmp (.t rfl))<|.nil) (zM (yD zL) ?_)
   exact zL
theorem iadd_ok {u : Value} {q0 q1 : SP} {x y : Int} (hx : Sml x) (hy : Sml y) : CtM Tryz.prog 53 [ipo u 0, intP x, intP y] (blk u [q0, q1] 96) (ipo u 0) (blk u (intC (x + y)) 96) := by
 refine CtM.of Tryz.func53 rfl (by kernel_rfl) rfl (fix_blk) fun c0 ob hr0 => ?_
 refine zF (zG [] (.n (zB (.k rfl))<|.nil) ff rfl fun g1 => ⟨_, _, [0], rfl, (.k 0 rfl<|.k 1 rfl<|.k 2 rfl<|.nil), (.k 0 rfl<|.nil), ?_⟩)
 refine zC<|zF (zG [] (.n (zA (.t rfl))<|.n (zA (.t rfl))<|.n (zA (.t rfl))<|.w 0 (op_callM 0 (isum_ok hx hy) ⟨(.t rfl), (.t rfl), (.t rfl), (.k rfl),  trivial⟩ rfl)<|.n (zB (.t rfl))<|.nil) ff rfl fun g2 => ⟨_, _, [0], rfl, (.k 6 rfl<|.nil), (.k 0 rfl<|.nil), ?_⟩)
 refine zC<|yF<|JN_to (To.res 0 (r' := blk u (intC (x + y)) 96) rfl (yQ (by rw [show x + sgnI false 1 * y = x + y by simp [sgnI]])) rfl) ?_
 refine JN_retM 0 hr0 (fix_blk) rfl (.cons (.tmp (.t rfl))<|.nil) (zM (yD zL) ?_)
 exact zL
theorem ineg_ok {u : Value} {q0 q1 : SP} {x : Int} (hx : Sml x) : CtM Tryz.prog 55 [ipo u 0, intP x] (blk u [q0, q1] 96) (ipo u 0) (blk u (intC (-x)) 96) := by
 refine CtM.of Tryz.func55 rfl (by kernel_rfl) rfl (fix_blk) fun c0 ob hr0 => ?_
 have lx := sml_len hx
 refine zF (zG [] (.n (zB (.k rfl))<|.nil) ff rfl fun g1 => ⟨_, _, [0], rfl, (.k 0 rfl<|.k 1 rfl<|.nil), (.k 0 rfl<|.nil), ?_⟩)
 refine zC<|zF (zG [[], [], [1], [1, 2], [1, 2, 3], [1, 2, 3, 4], [], [6], [6, 7], [6, 7, 8], [6, 7, 8, 9], [0, 1, 2, 3, 4, 5, 6, 7, 8, 9, 10], [0, 1, 2, 3, 4, 5, 6, 7, 8, 9, 10, 11]] (.n (zA (.t rfl))<|.n (zA (.t rfl))<|.n (op_nilp (.t rfl))<|.n (yR fd96_0 (.t rfl) rfl)<|.n (yC sc4 (.t rfl) rfl)<|.n (op_not (.t rfl))<|.n (zA (.t rfl))<|.n (op_nilp (.t rfl))<|.n (yR fd96_1 (.t rfl) rfl)<|.n (yC sc94 (.t rfl) rfl)<|.n (op_append_nil sl94 zr153 rfl (.k rfl) (.t rfl) (by omega) (by omega))<|.w 0 (op_callM 0 (iput_ok (limbs_dig _)) ⟨(.t rfl), (.t rfl), (.t rfl),  trivial⟩ rfl)<|.n (zB (.t rfl))<|.nil) (fun _ => mixed) rfl fun g2 => ⟨_, _, [0], rfl, (.k 4 rfl<|.nil), (.k 0 rfl<|.nil), ?_⟩)
 refine zC<|yF<|JN_to (To.res 0 (r' := blk u (intC (-x)) 96) rfl (yQ (by rw [mag_nat, neg_1])) rfl) ?_
 refine JN_retM 0 hr0 (fix_blk) rfl (.cons (.tmp (.t rfl))<|.nil) (zM (yD zL) ?_)
 exact zL
theorem imul_ok {u : Value} {q0 q1 : SP} {x y : Int} (hx : Sml x) (hy : Sml y) : CtM Tryz.prog 56 [ipo u 0, intP x, intP y] (blk u [q0, q1] 96) (ipo u 0) (blk u (intC (x * y)) 96) := by
 refine CtM.of Tryz.func56 rfl (by kernel_rfl) rfl (fix_blk) fun c0 ob hr0 => ?_
 have lx := sml_len hx
 have ly := sml_len hy
 refine zF (zG [] (.n (zB (.k rfl))<|.nil) ff rfl fun g1 => ⟨_, _, [0], rfl, (.k 0 rfl<|.k 1 rfl<|.k 2 rfl<|.nil), (.k 0 rfl<|.nil), ?_⟩)
 refine zC<|zF (zG [[], [], [1], [1, 2], [1, 2, 3], [], [5], [5, 6], [5, 6, 7], [1, 2, 3, 4, 5, 6, 7, 8], [], [10], [10, 11], [10, 11, 12], [], [14], [14, 15], [14, 15, 16], [10, 11, 12, 13, 14, 15, 16, 17], [0, 1, 2, 3, 4, 5, 6, 7, 8, 9, 10, 11, 12, 13, 14, 15, 16, 17, 18], [0, 1, 2, 3, 4, 5, 6, 7, 8, 9, 10, 11, 12, 13, 14, 15, 16, 17, 18, 19]] (.n (zA (.t rfl))<|.n (zA (.t rfl))<|.n (op_nilp (.t rfl))<|.n (yR fd96_0 (.t rfl) rfl)<|.n (yC sc4 (.t rfl) rfl)<|.n (zA (.t rfl))<|.n (op_nilp (.t rfl))<|.n (yR fd96_0 (.t rfl) rfl)<|.n (yC sc4 (.t rfl) rfl)<|.n (op_bne Tryz.underlying4 (.t rfl) (.t rfl))<|.n (zA (.t rfl))<|.n (op_nilp (.t rfl))<|.n (yR fd96_1 (.t rfl) rfl)<|.n (yC sc94 (.t rfl) rfl)<|.n (zA (.t rfl))<|.n (op_nilp (.t rfl))<|.n (yR fd96_1 (.t rfl) rfl)<|.n (yC sc94 (.t rfl) rfl)<|.n (zP (times_ok (limbs_dig _) (limbs_dig _) lx ly) ⟨(.t rfl), (.t rfl),  trivial⟩)<|.w 0 (op_callM 0 (iput_ok (limbs_dig _)) ⟨(.t rfl), (.t rfl), (.t rfl),  trivial⟩ rfl)<|.n (zB (.t rfl))<|.nil) (fun _ => mixed) rfl fun g2 => ⟨_, _, [0], rfl, (.k 6 rfl<|.nil), (.k 0 rfl<|.nil), ?_⟩)
 refine zC<|yF<|JN_to (To.res 0 (r' := blk u (intC (x * y)) 96) rfl (yQ (by rw [mag_nat, mag_mul, mul_1])) rfl) ?_
 refine JN_retM 0 hr0 (fix_blk) rfl (.cons (.tmp (.t rfl))<|.nil) (zM (yD zL) ?_)
 exact zL
theorem ilsh_ok {u : Value} {q0 q1 : SP} {x : Int} {n : Nat} (hx : Sml x) (hn : n ≤ 32000000) : CtM Tryz.prog 90 [ipo u 0, intP x, isv (.int .u64 (n : Int))] (blk u [q0, q1] 96) (ipo u 0) (blk u (intC (x * 2 ^ n)) 96) := by
 refine CtM.of Tryz.func90 rfl (by kernel_rfl) rfl (fix_blk) fun c0 ob hr0 => ?_
 have lx := sml_len hx
 refine zF (zG [] (.n (zB (.k rfl))<|.nil) ff rfl fun g1 => ⟨_, _, [0], rfl, (.k 0 rfl<|.k 1 rfl<|.k 2 rfl<|.nil), (.k 0 rfl<|.nil), ?_⟩)
 refine zC<|zF (zG [[], [], [1], [1, 2], [1, 2, 3], [], [5], [5, 6], [5, 6, 7], [], [5, 6, 7, 8, 9], [0, 1, 2, 3, 4, 5, 6, 7, 8, 9, 10], [0, 1, 2, 3, 4, 5, 6, 7, 8, 9, 10, 11]] (.n (zA (.t rfl))<|.n (zA (.t rfl))<|.n (op_nilp (.t rfl))<|.n (yR fd96_0 (.t rfl) rfl)<|.n (yC sc4 (.t rfl) rfl)<|.n (zA (.t rfl))<|.n (op_nilp (.t rfl))<|.n (yR fd96_1 (.t rfl) rfl)<|.n (yC sc94 (.t rfl) rfl)<|.n (zA (.t rfl))<|.n (zP (left_ok (limbs_dig _) lx hn) ⟨(.t rfl), (.t rfl),  trivial⟩)<|.w 0 (op_callM 0 (iput_ok (limbs_dig _)) ⟨(.t rfl), (.t rfl), (.t rfl),  trivial⟩ rfl)<|.n (zB (.t rfl))<|.nil) (fun _ => mixed) rfl fun g2 => ⟨_, _, [0], rfl, (.k 6 rfl<|.nil), (.k 0 rfl<|.nil), ?_⟩)
 refine zC<|yF<|JN_to (To.res 0 (r' := blk u (intC (x * 2 ^ n)) 96) rfl (yQ (by rw [mag_nat, mag_shl, shl_1])) rfl) ?_
 refine JN_retM 0 hr0 (fix_blk) rfl (.cons (.tmp (.t rfl))<|.nil) (zM (yD zL) ?_)
 exact zL
theorem isign_ok {x : Int} : Ct Tryz.prog 52 [intP x] (isv (.int .i64 (signI x))) := by
 refine Ct.of Tryz.func52 rfl (by kernel_rfl) rfl fun c0 => ?_
 have hl0 := limbs_len0 (n := x.natAbs)
 refine zF (zG [] (.n (zB (.k rfl))<|.nil) ff rfl fun g1 => ⟨_, _, [], rfl, (.k 0 rfl<|.nil), (.nil), ?_⟩)
 refine zC<|zF<|zF (zG [] (.n (zA (.t rfl))<|.n (op_nilp (.t rfl))<|.n (yR fd96_1 (.t rfl) rfl)<|.n (yC sc94 (.t rfl) rfl)<|.n (yV sl94 (.t rfl))<|.n (yB (by simp) (.t rfl) (.k rfl) rfl)<|.nil) ff rfl fun g2 => ⟨_, _, [], rfl, (.k 0 rfl<|.k 8 rfl<|.nil), (.nil), ?_⟩)
 refine zC<|zH (zK (.t rfl)) (fun h1 => ?_) (fun h1 => ?_)
 ·try simp only [cmpB, Z] at h1
  refine zF (zG [] (.n (zB (.k rfl))<|.nil) ff rfl fun g3 => ⟨_, _, [], rfl, (.k 2 rfl<|.nil), (.nil), ?_⟩)
  refine zC<|yF<|zD<|zQ (.cons (.tmp (.t rfl))<|.nil) (zM (yD zL) ?_)
  exact ret_i (by have h9 := hl0.1 (by omega); unfold signI; rw [if_neg (by omega), if_pos (by omega)])
 ·try simp only [cmpB, Z] at h1
  refine yE<|zC<|zF<|zF (zG [] (.n (zA (.t rfl))<|.n (op_nilp (.t rfl))<|.n (yR fd96_0 (.t rfl) rfl)<|.n (yC sc4 (.t rfl) rfl)<|.nil) ff rfl fun g4 => ⟨_, _, [], rfl, (.k 12 rfl<|.nil), (.nil), ?_⟩)
  refine zC<|zH (zK (.t rfl)) (fun h2 => ?_) (fun h2 => ?_)
  ·try simp only [cmpB, Z] at h2
   refine zF (zG [] (.n (zB (.k rfl))<|.nil) ff rfl fun g5 => ⟨_, _, [], rfl, (.k 2 rfl<|.nil), (.nil), ?_⟩)
   refine zC<|yF<|zD<|zQ (.cons (.tmp (.t rfl))<|.nil) (zM (yD zL) ?_)
   exact ret_i (by have e : x < 0 := (by simpa using h2); unfold signI; rw [if_pos e])
  ·try simp only [cmpB, Z] at h2
   refine yE<|zC<|zF (zG [] (.n (zB (.k rfl))<|.nil) ff rfl fun g6 => ⟨_, _, [], rfl, (.k 2 rfl<|.nil), (.nil), ?_⟩)
   refine zC<|yF<|zQ (.cons (.tmp (.t rfl))<|.nil) (zM (yD zL) ?_)
   exact ret_i (by have e : ¬ x < 0 := (by simpa using h2); have h9 : ¬ x = 0 := (fun e0 => by subst e0; have := hl0.2 rfl; omega); unfold signI; rw [if_neg e, if_neg h9])
end Go.Proofs.YtllkellonjhalaaGreat
