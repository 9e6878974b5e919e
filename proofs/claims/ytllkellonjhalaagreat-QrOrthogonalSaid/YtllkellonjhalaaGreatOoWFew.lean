/- Printed by a program of ours (walk.py): walks of what the laws of layer 10 reckon with. -/
import Derived.Test.YtllkellonjhalaaGreatOoKb
import Derived.Test.YtllkellonjhalaaGreatProg
import Derived.KernelRfl
import Derived.Test.YtllkellonjhalaaGreatOoTypes
import Derived.Test.YtllkellonjhalaaGreatOoWAwk
import Derived.Test.YtllkellonjhalaaGreatOoWExact
import Derived.Test.YtllkellonjhalaaGreatOoSam
set_option linter.unusedVariables false
set_option linter.unusedSimpArgs false
set_option maxRecDepth 20000
set_option maxHeartbeats 1000000
namespace Go.Proofs.YtllkellonjhalaaGreat
open Go Go.Bn
attribute [local irreducible] OpOK
theorem iabs_ok {u : Value} {q0 q1 : SP} {x : Int} (hx : Sml x) : CtM Tryz.prog 67 [ipo u 0, intP x] (blk u [q0, q1] 96) (ipo u 0) (blk u (intC ((x.natAbs : Int))) 96) := by
 refine CtM.of Tryz.func67 rfl (by kernel_rfl) rfl (fix_blk) fun c0 ob hr0 => ?_
 have lx := sml_len hx
 refine zF (zG [] (.n (zB (.k rfl))<|.nil) ff rfl fun g1 => ⟨_, _, [0], rfl, (.k 0 rfl<|.k 1 rfl<|.nil), (.k 0 rfl<|.nil), ?_⟩)
 refine zC<|zF (zG [] (.n (zA (.t rfl))<|.n (zA (.t rfl))<|.n (op_nilp (.t rfl))<|.n (yR fd96_1 (.t rfl) rfl)<|.n (yC sc94 (.t rfl) rfl)<|.n (op_append_nil sl94 zr153 rfl (.k rfl) (.t rfl) (by omega) (by omega))<|.w 0 (op_callM 0 (iput_ok (limbs_dig _)) ⟨(.t rfl), (.k rfl), (.t rfl),  trivial⟩ rfl)<|.n (zB (.t rfl))<|.nil) ff rfl fun g2 => ⟨_, _, [0], rfl, (.k 4 rfl<|.nil), (.k 0 rfl<|.nil), ?_⟩)
 refine zC<|yF<|JN_to (To.res 0 (r' := blk u (intC ((x.natAbs : Int))) 96) rfl (yQ (by rw [mag_nat]; rfl)) rfl) ?_
 refine JN_retM 0 hr0 (fix_blk) rfl (.cons (.tmp (.t rfl))<|.nil) (zM (yD zL) ?_)
 exact zL
theorem xabs_ok {x : Exa} (hx : Exb x) : Ct Tryz.prog 25 [exaP x] (exaP x.abs) := by
 refine Ct.of Tryz.func25 rfl (by kernel_rfl) rfl fun c0 => ?_
 have hxm := hx.h
 have hx0 := hx.e0
 have hx1 := hx.e1
 refine yN (To.emps 2) ?_
 refine zF (zG [] (.w 0 (op_box 0 (.t rfl) yL rfl)<|.w 1 (yT 1 zr41 rfl rfl)<|.nil) ff rfl fun g1 => ⟨_, _, [0, 1], rfl, (.k 1 rfl<|.k 2 rfl<|.nil), (.k 0 rfl<|.k 1 rfl<|.nil), ?_⟩)
 refine zC<|yN (To.emps 1) ?_
 refine zF (zG [[], [], [1], [0, 1, 2], [], [4], [0, 1, 2, 3, 4, 5], [0, 1, 2, 3, 4, 5, 6]] (.w 2 (yT 2 zr96 rfl rfl)<|.n (zI fd41_0 (.t rfl) rfl)<|.r 0 (zN 0 sc39 (.t rfl) rfl zJ rfl)<|.w 2 (op_callMp 2 rfl rfl (fun u => iabs_ok hxm) rfl ⟨(.t rfl),  trivial⟩)<|.n (zI fd41_1 (.t rfl) rfl)<|.r 0 (zN 0 sc3 (.t rfl) rfl zJ rfl)<|.n (op_ve 6 9 rfl rfl rfl (fun f => (op_build zr41 rfl pl41 (.cons rfl (.t rfl) co_ipo rfl (yU rfl (Nat.le_of_ble_eq_true rfl)) (.cons rfl (.t rfl) co_isv rfl (yU rfl (Nat.le_of_ble_eq_true rfl)) .nil)))) (fun f g h => by rw [h 6 (show 6 ∈ [6] from by decide)]) rfl)<|.w 1 (op_ver 9 rfl rfl (fun f => yM 1 (.t rfl) (.t rfl) yL sz41 rfl rfl rfl) (fun f g h => by rw [h 6 (show 6 ∈ [6] from by decide)]) rfl)<|.nil) (fun _ => mixed) rfl fun g2 => ⟨_, _, [1, 2], rfl, (.k 2 rfl<|.nil), (.k 1 rfl<|.k 2 rfl<|.nil), ?_⟩)
 refine zC<|yF<|JN_to (To.freeze 1 (fun _ h => h) rfl frz_blk rfl) ?_
 refine zQ (.cons (.ag 0 (.t rfl) ag41 rfl rfl rfl)<|.nil) (zM (yD (sb_agg (.cons (sb_ok 0 2 rfl rfl)<|.cons zL<|.nil))) ?_)
 exact zL
theorem iset1_ok {u : Value} {q0 q1 : SP} : CtM Tryz.prog 97 [ipo u 0, isv (.int .i64 (-1))] (blk u [q0, q1] 96) (ipo u 0) (blk u (intC ((-1 : Int))) 96) := by
 refine CtM.of Tryz.func97 rfl (by kernel_rfl) rfl (fix_blk) fun c0 ob hr0 => ?_
 refine zF (zG [] (.n (zB (.k rfl))<|.nil) ff rfl fun g1 => ⟨_, _, [0], rfl, (.k 0 rfl<|.k 1 rfl<|.nil), (.k 0 rfl<|.nil), ?_⟩)
 refine zC<|zF (zG [] (.n (zA (.t rfl))<|.n (yG it2 it34 (.t rfl) rfl)<|.n (zB (.t rfl))<|.nil) ff rfl fun g2 => ⟨_, _, [0], rfl, (.k 0 rfl<|.k 1 rfl<|.k 5 rfl<|.nil), (.k 0 rfl<|.nil), ?_⟩)
 refine zC<|zF<|zF (zG [] (.n (zA (.t rfl))<|.n (yB (by simp) (.t rfl) (.k rfl) rfl)<|.nil) ff rfl fun g3 => ⟨_, _, [0], rfl, (.k 0 rfl<|.k 1 rfl<|.k 5 rfl<|.k 9 rfl<|.nil), (.k 0 rfl<|.nil), ?_⟩)
 refine zC<|zH (zK (.t rfl)) (fun h1 => ?_) (fun h1 => ?_)
 ·have h1' := h1
  try simp only [cmpB, Z] at h1
  refine (zG [] (.n (zA (.t rfl))<|.n (op_neg (.t rfl) (show IntKind.u64.wrap (-IntKind.u64.wrap (-1)) = ((1 : Nat) : Int) by decide))<|.n (zB (.t rfl))<|.nil) ff rfl fun g4 => ⟨_, _, [0], rfl, (.k 0 rfl<|.k 1 rfl<|.k 5 rfl<|.nil), (.k 0 rfl<|.nil), ?_⟩)
  refine zC<|zF (zG [] (.n (zA (.t rfl))<|.n (zA (.t rfl))<|.n (yB (by simp) (.t rfl) (.k rfl) rfl)<|.n (zA (.t rfl))<|.n (zP (words_ok (n := 1) (by omega)) ⟨(.t rfl),  trivial⟩)<|.w 0 (op_callM 0 (iput_ok (limbs_dig _)) ⟨(.t rfl), (.t rfl), (.t rfl),  trivial⟩ rfl)<|.n (zB (.t rfl))<|.nil) ff rfl fun g5 => ⟨_, _, [0], rfl, (.k 4 rfl<|.nil), (.k 0 rfl<|.nil), ?_⟩)
  refine zC<|yF<|JN_to (To.res 0 (r' := blk u (intC ((-1 : Int))) 96) rfl (yQ (by rw [mag_nat]; rfl)) rfl) ?_
  refine JN_retM 0 hr0 (fix_blk) rfl (.cons (.tmp (.t rfl))<|.nil) (zM (yD zL) ?_)
  exact zL
 ·have h1' := h1
  try simp only [cmpB, Z] at h1
  exact absurd h1' (by decide)
theorem newint1_ok  : Ct Tryz.prog 66 [isv (.int .i64 (-1))] (intP (-1)) := by
 refine Ct.of Tryz.func66 rfl (by kernel_rfl) rfl fun c0 => ?_
 refine zF (zG [] (.n (zB (.k rfl))<|.nil) ff rfl fun g1 => ⟨_, _, [], rfl, (.k 0 rfl<|.nil), (.nil), ?_⟩)
 refine zC<|yN (To.emps 1) ?_
 refine zF (zG [] (.n (op_build zr96 rfl pl96 .nil)<|.w 0 (op_box 0 (.t rfl) yL rfl)<|.n (yX rfl rfl)<|.nil) ff rfl fun g2 => ⟨_, _, [0], rfl, (.k 0 rfl<|.k 3 rfl<|.nil), (.k 0 rfl<|.nil), ?_⟩)
 refine zC<|zF (zG [] (.n (zA (.t rfl))<|.n (zA (.t rfl))<|.w 0 (op_callM 0 (iset1_ok) ⟨(.t rfl), (.t rfl),  trivial⟩ rfl)<|.n (zB (.t rfl))<|.nil) ff rfl fun g3 => ⟨_, _, [0], rfl, (.k 2 rfl<|.nil), (.k 0 rfl<|.nil), ?_⟩)
 refine zC<|yF<|JN_to (To.freeze 0 (fun _ h => h) rfl frz_blk rfl) ?_
 refine zQ (.cons (.tmp (.t rfl))<|.nil) (zM (yD (sb_ok 0 2 rfl rfl)) ?_)
 exact zL
theorem xwhole1_ok  : Ct Tryz.prog 24 [isv (.int .i64 (-1))] (exaP (wholeX (-1))) := by
 refine Ct.of Tryz.func24 rfl (by kernel_rfl) rfl fun c0 => ?_
 refine yN (To.emps 1) ?_
 refine zF (zG [] (.w 0 (yT 0 zr41 rfl rfl)<|.nil) ff rfl fun g1 => ⟨_, _, [0], rfl, (.k 0 rfl<|.k 2 rfl<|.nil), (.k 0 rfl<|.nil), ?_⟩)
 refine zC<|zF (zG [] (.n (zA (.t rfl))<|.n (zP (newint1_ok) ⟨(.t rfl),  trivial⟩)<|.n (op_build zr41 rfl pl41 (.cons rfl (.t rfl) co_ptp rfl (yU rfl (Nat.le_of_ble_eq_true rfl)) (.cons rfl (.k rfl) co_isv rfl (yU rfl (Nat.le_of_ble_eq_true rfl)) .nil)))<|.w 0 (yM 0 (.t rfl) (.t rfl) yL sz41 rfl rfl rfl)<|.nil) ff rfl fun g2 => ⟨_, _, [0], rfl, (.k 2 rfl<|.nil), (.k 0 rfl<|.nil), ?_⟩)
 refine zC<|yF<|zQ (.cons (.ag 0 (.t rfl) ag41 rfl rfl rfl)<|.nil) (zM (yD zL) ?_)
 exact zL
theorem squares_ok {xs : List Nat} (hD : DotB xs xs) : Ct Tryz.prog 17 [fls xs] (exaP (dotX xs xs xs.length)) := by
 refine Ct.of Tryz.func17 rfl (by kernel_rfl) rfl fun c0 => ?_
 refine yN (To.emps 1) ?_
 refine zF (zG [] (.w 0 (yT 0 zr41 rfl rfl)<|.nil) ff rfl fun g1 => ⟨_, _, [0], rfl, (.k 0 rfl<|.k 2 rfl<|.nil), (.k 0 rfl<|.nil), ?_⟩)
 refine zC<|zF (zG [] (.n (zA (.t rfl))<|.n (zA (.t rfl))<|.n (zP (xdot_ok (by assumption)) ⟨(.t rfl), (.t rfl),  trivial⟩)<|.w 0 (yM 0 (.t rfl) (.t rfl) yL sz41 rfl rfl rfl)<|.nil) ff rfl fun g2 => ⟨_, _, [0], rfl, (.k 2 rfl<|.nil), (.k 0 rfl<|.nil), ?_⟩)
 refine zC<|yF<|zQ (.cons (.ag 0 (.t rfl) ag41 rfl rfl rfl)<|.nil) (zM (yD zL) ?_)
 exact zL
theorem tame_ok {x : Nat} {k : Int} (k0 : 0 ≤ k) (k1 : k ≤ 1000) : Ct Tryz.prog 50 [flp x, isv (.int .i64 k)] (isv (.bool (tameB x k))) := by
 refine Ct.of Tryz.func50 rfl (by kernel_rfl) rfl fun c0 => ?_
 refine zF (zG [] (.n (zB (.k rfl))<|.nil) ff rfl fun g1 => ⟨_, _, [], rfl, (.k 0 rfl<|.k 1 rfl<|.nil), (.nil), ?_⟩)
 refine zC<|zF (zG [] (.n (zA (.t rfl))<|.n (zP (abs_ok) ⟨(.t rfl),  trivial⟩)<|.n (zB (.t rfl))<|.nil) ff rfl fun g2 => ⟨_, _, [], rfl, (.k 0 rfl<|.k 1 rfl<|.k 5 rfl<|.nil), (.nil), ?_⟩)
 refine zC<|zF (zG [] (.n (zA (.t rfl))<|.n (op_fcmp (by simp) (.t rfl) (Lk.fk rfl (by decide +kernel)) rfl)<|.n (zA (.t rfl))<|.n (yA rfl rfl (gd_b rfl) (fun hC => (zA (.t rfl))))<|.n (yA rfl rfl (gd_b rfl) (fun hC => (zA (.t rfl))))<|.n (yA rfl rfl (gd_b rfl) (fun hC => (op_neg (.w rfl hC) (zO (by omega) (by omega)))))<|.n (yA rfl rfl (gd_b rfl) (fun hC => (zP (Ldexp_ok (by omega) (by omega)) ⟨(Lk.fk rfl (by decide +kernel)), (.w rfl hC),  trivial⟩)))<|.n (yA rfl rfl (gd_b rfl) (fun hC => (op_fcmp (by simp) (.w rfl hC) (.w rfl hC) rfl)))<|.n (yA rfl rfl (gd_b rfl) (fun hC => (zA (.w rfl hC))))<|.n (yA rfl rfl (gd_w rfl) (fun hC => (zA (.t rfl))))<|.n (yA rfl rfl (gd_w rfl) (fun hC => (zA (.t rfl))))<|.n (yA rfl rfl (gd_w rfl) (fun hC => (zP (Ldexp_ok (by omega) (by omega)) ⟨(Lk.fk rfl (by decide +kernel)), (.w rfl hC),  trivial⟩)))<|.n (yA rfl rfl (gd_w rfl) (fun hC => (op_fcmp (by simp) (.w rfl hC) (.w rfl hC) rfl)))<|.n (yA rfl rfl (gd_b rfl) (fun hC => (op_and (.w rfl hC) (fun h2 => (.w rfl ⟨hC, h2⟩)))))<|.n (op_or (.t rfl) (fun h2 => (.w rfl h2)))<|.n (zB (.t rfl))<|.nil) ff rfl fun g3 => ⟨_, _, [], rfl, (.k 4 rfl<|.nil), (.nil), ?_⟩)
 refine zC<|yF<|zQ (.cons (.tmp (.t rfl))<|.nil) (zM (yD zL) ?_)
 exact ret_b (by unfold tameB; rfl)
end Go.Proofs.YtllkellonjhalaaGreat
