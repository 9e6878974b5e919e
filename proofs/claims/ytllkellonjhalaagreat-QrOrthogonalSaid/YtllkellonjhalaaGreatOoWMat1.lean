/- Printed by a program of ours (walk.py): walks of the matrix package, its inner functions. -/
import Derived.Test.YtllkellonjhalaaGreatOoKb
import Derived.Test.YtllkellonjhalaaGreatProg
import Derived.KernelRfl
import Derived.Test.YtllkellonjhalaaGreatOoTypes
import Derived.Test.YtllkellonjhalaaGreatOoWRef1
import Derived.Test.YtllkellonjhalaaGreatOoKc
set_option linter.unusedVariables false
set_option linter.unusedSimpArgs false
set_option maxRecDepth 20000
set_option maxHeartbeats 1000000
namespace Go.Proofs.YtllkellonjhalaaGreat
open Go Go.Bn
attribute [local irreducible] OpOK
theorem size_ok {n : Int} : Ct Tryz.prog 79 [isv (.int .i64 n)] (isv (.bool (sizB n))) := by
 refine Ct.of Tryz.func79 rfl (by kernel_rfl) rfl fun c0 => ?_
 refine zF (zG [] (.n (zB (.k rfl))<|.nil) ff rfl fun g1 => ⟨_, _, [], rfl, (.k 0 rfl<|.nil), (.nil), ?_⟩)
 refine zC<|zF (zG [] (.n (zA (.t rfl))<|.n (yB (by simp) (.t rfl) (.k rfl) rfl)<|.n (zA (.t rfl))<|.n (yA rfl rfl (gd_b rfl) (fun hC => (zA (.t rfl))))<|.n (yA rfl rfl (gd_b rfl) (fun hC => (yB (by simp) (.w rfl hC) (.k rfl) rfl)))<|.n (op_and (.t rfl) (fun h2 => (.w rfl h2)))<|.n (zB (.t rfl))<|.nil) ff rfl fun g2 => ⟨_, _, [], rfl, (.k 2 rfl<|.nil), (.nil), ?_⟩)
 refine zC<|yF<|zQ (.cons (.tmp (.t rfl))<|.nil) (zM (yD zL) ?_)
 exact ret_b (by unfold sizB cmpB; rfl)
theorem chk_ok {r c : Int} {xs : List Nat} : Ct Tryz.prog 36 [MatP r c xs] (isv (.int .i64 (chk r c xs))) := by
 refine Ct.of Tryz.func36 rfl (by kernel_rfl) rfl fun c0 => ?_
 refine yN (To.emps 1) ?_
 refine zF (zG [] (.w 0 (op_box 0 (.t rfl) yL rfl)<|.n (zB (.k rfl))<|.nil) ff rfl fun g1 => ⟨_, _, [0], rfl, (.k 1 rfl<|.nil), (.k 0 rfl<|.nil), ?_⟩)
 refine zC<|zF<|zT<|zF (zG [] (.n (zI fd28_0 (.t rfl) rfl)<|.r 0 (zN 0 sc3 (.t rfl) rfl zJ rfl)<|.n (zP (size_ok) ⟨(.t rfl),  trivial⟩)<|.n (op_not (.t rfl))<|.n (zA (.t rfl))<|.n (yA rfl rfl (gd_b rfl) (fun hC => (zI fd28_1 (.t rfl) rfl)))<|.r 0 (yA rfl rfl (gd_b rfl) (fun hC => (zN 0 sc3 (.w rfl hC) rfl zJ rfl)))<|.n (yA rfl rfl (gd_b rfl) (fun hC => (zP (size_ok) ⟨(.w rfl hC),  trivial⟩)))<|.n (yA rfl rfl (gd_b rfl) (fun hC => (op_not (.w rfl hC))))<|.n (op_or (.t rfl) (fun h2 => (.w rfl h2)))<|.n (zB (.t rfl))<|.nil) ff rfl fun g2 => ⟨_, _, [0], rfl, (.k 1 rfl<|.k 3 rfl<|.nil), (.k 0 rfl<|.nil), ?_⟩)
 refine zC<|zH (zK (.t rfl)) (fun h1 => ?_) (fun h1 => ?_)
 ·try simp only [cmpB, Z] at h1
  refine zF (zG [] (.n (zB (.k rfl))<|.nil) ff rfl fun g3 => ⟨_, _, [], rfl, (.k 2 rfl<|.nil), (.nil), ?_⟩)
  refine zC<|yF<|yP<|zD<|zQ (.cons (.tmp (.t rfl))<|.nil) (zM (yD zL) ?_)
  exact ret_i (by unfold chk; rw [if_pos h1])
 ·try simp only [cmpB, Z] at h1
  have hm := (sizT h1).mul
  refine zF (zG [] (.n (zI fd28_2 (.t rfl) rfl)<|.r 0 (zN 0 sc26 (.t rfl) rfl zJ rfl)<|.n (yV sl26 (.t rfl))<|.n (zI fd28_0 (.t rfl) rfl)<|.r 0 (zN 0 sc3 (.t rfl) rfl zJ rfl)<|.n (zI fd28_1 (.t rfl) rfl)<|.r 0 (zN 0 sc3 (.t rfl) rfl zJ rfl)<|.n (op_mul (.t rfl) (.t rfl) (zO (by omega) (by omega)))<|.n (yB (by simp) (.t rfl) (.t rfl) rfl)<|.n (zB (.t rfl))<|.nil) ff rfl fun g4 => ⟨_, _, [0], rfl, (.k 1 rfl<|.k 14 rfl<|.nil), (.k 0 rfl<|.nil), ?_⟩)
  refine zC<|zH (zK (.t rfl)) (fun h2 => ?_) (fun h2 => ?_)
  ·try simp only [cmpB, Z] at h2
   refine zF (zG [] (.n (zB (.k rfl))<|.nil) ff rfl fun g5 => ⟨_, _, [], rfl, (.k 2 rfl<|.nil), (.nil), ?_⟩)
   refine zC<|yF<|yP<|zD<|zQ (.cons (.tmp (.t rfl))<|.nil) (zM (yD zL) ?_)
   exact ret_i (by unfold chk; rw [if_neg (by simp [h1]), if_pos h2])
  ·try simp only [cmpB, Z] at h2
   refine zF (zG [] (.n (zI fd28_2 (.t rfl) rfl)<|.r 0 (zN 0 sc26 (.t rfl) rfl zJ rfl)<|.n (zP (finite_ok) ⟨(.t rfl),  trivial⟩)<|.n (op_not (.t rfl))<|.n (zB (.t rfl))<|.nil) ff rfl fun g6 => ⟨_, _, [], rfl, (.k 24 rfl<|.nil), (.nil), ?_⟩)
   refine zC<|zH (zK (.t rfl)) (fun h3 => ?_) (fun h3 => ?_)
   ·try simp only [cmpB, Z] at h3
    refine zF (zG [] (.n (zB (.k rfl))<|.nil) ff rfl fun g7 => ⟨_, _, [], rfl, (.k 2 rfl<|.nil), (.nil), ?_⟩)
    refine zC<|yF<|yP<|zD<|zQ (.cons (.tmp (.t rfl))<|.nil) (zM (yD zL) ?_)
    exact ret_i (by unfold chk; rw [if_neg (by simp [h1]), if_neg (by simpa using h2), if_pos h3])
   ·try simp only [cmpB, Z] at h3
    refine yE<|zR<|zC<|zF (zG [] (.n (zB (.k rfl))<|.nil) ff rfl fun g8 => ⟨_, _, [], rfl, (.k 2 rfl<|.nil), (.nil), ?_⟩)
    refine zC<|yF<|zQ (.cons (.tmp (.t rfl))<|.nil) (zM (yD zL) ?_)
    exact ret_i (by unfold chk; rw [if_neg (by simp [h1]), if_neg (by simpa using h2), if_neg (by simp [h3])])
end Go.Proofs.YtllkellonjhalaaGreat
