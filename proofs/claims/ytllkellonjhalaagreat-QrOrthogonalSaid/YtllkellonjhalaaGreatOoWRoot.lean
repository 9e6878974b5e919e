/- Printed by a program of ours (walk.py): the walk of QrRoot. -/
import Derived.Test.YtllkellonjhalaaGreatOoKb
import Derived.Test.YtllkellonjhalaaGreatProg
import Derived.KernelRfl
import Derived.Test.YtllkellonjhalaaGreatOoTypes
import Derived.Test.YtllkellonjhalaaGreatOoWFew
import Derived.Test.YtllkellonjhalaaGreatOoWTri10
import Derived.Test.YtllkellonjhalaaGreatOoGrc
set_option linter.unusedVariables false
set_option linter.unusedSimpArgs false
set_option maxRecDepth 20000
set_option maxHeartbeats 1000000
namespace Go.Proofs.YtllkellonjhalaaGreat
open Go Go.Bn
attribute [local irreducible] OpOK
theorem alltame_ok {xs : List Nat} {z : Int} (k0 : 0 ≤ z) (k1 : z ≤ 1000) : Ct Tryz.prog 11 [fls xs, isv (.int .i64 z)] (isv (.bool (allTB xs z))) := by
 refine Ct.of Tryz.func11 rfl (by kernel_rfl) rfl fun c0 => ?_
 refine J_len 0 rfl fun hlen => ?_
 refine zF (zG [] (.n (zB (.k rfl))<|.nil) ff rfl fun g1 => ⟨_, _, [], rfl, (.k 0 rfl<|.k 1 rfl<|.nil), (.nil), ?_⟩)
 refine zC<|zF<|zF (zG [] (.n (zB (.k rfl))<|.nil) ff rfl fun g2 => ⟨_, _, [], rfl, (.k 0 rfl<|.k 1 rfl<|.k 5 rfl<|.nil), (.nil), ?_⟩)
 refine zC<|zT<|J_loopc (α := Nat) (fun k => k ≤ xs.length ∧ (xs.take k).all (fun x => tameB x z) = true) (fun k => xs.length - k) (fun k restR => (5, isv (.int .i64 (k : Int))) :: restR) (fun k restS => restS) (ρc := [(0, _), (1, _)]) (σc := []) 0 (by exact ⟨Nat.zero_le _, rfl⟩) (To.pick (fun _ => .sub (t := 5) rfl (yO (by rfl))<|.k 0 rfl<|.k 1 rfl<|.nil) (fun _ => .nil) (ks := []) rfl) (fun k hI => ?_)
 refine zF<|zF (zG [] (.n (zA (.t rfl))<|.n (zA (.t rfl))<|.n (yV sl26 (.t rfl))<|.n (yB (by simp) (.t rfl) (.t rfl) rfl)<|.nil) ff rfl fun g3 => ⟨_, _, [], rfl, (.k 0 rfl<|.k 1 rfl<|.k 5 rfl<|.k 9 rfl<|.nil), (.nil), ?_⟩)
 refine zC<|zH (zK (.t rfl)) (fun h1 => ?_) (fun h1 => ?_)
 ·try simp only [cmpB, Z] at h1
  refine yE<|zC<|zF<|zT<|zF (zG [] (.n (zA (.t rfl))<|.n (zA (.t rfl))<|.n (yS 0 sl26 (.t rfl) (.t rfl) (by omega) (by omega))<|.n (yC sc36 (.t rfl) rfl)<|.n (zA (.t rfl))<|.n (zP (tame_ok k0 k1) ⟨(.t rfl), (.t rfl),  trivial⟩)<|.n (op_not (.t rfl))<|.nil) ff rfl fun g4 => ⟨_, _, [], rfl, (.k 0 rfl<|.k 1 rfl<|.k 5 rfl<|.k 18 rfl<|.nil), (.nil), ?_⟩)
  refine zC<|zH (zK (.t rfl)) (fun h2 => ?_) (fun h2 => ?_)
  ·have h2' := h2
   try simp only [cmpB, Z] at h2
   refine zF (zG [] (.n (zB (.k rfl))<|.nil) ff rfl fun g5 => ⟨_, _, [], rfl, (.k 4 rfl<|.nil), (.nil), ?_⟩)
   refine zC<|yF<|yP<|zD<|zD<|yP<|zD<|zQ (.cons (.tmp (.t rfl))<|.nil) (zM (yD zL) ?_)
   exact ret_b (all_no 0 (by omega : k < xs.length) (by simpa using h2')).symm
  ·have h2' := h2
   try simp only [cmpB, Z] at h2
   refine yE<|zR<|zC<|(zG [] (.n (zA (.t rfl))<|.n (yK (.t rfl) (.k rfl) (zO (by omega) (by omega)))<|.n (zB (.t rfl))<|.nil) ff rfl fun g6 => ⟨_, _, [], rfl, (.k 0 rfl<|.k 1 rfl<|.k 5 rfl<|.nil), (.nil), ?_⟩)
   exact yW (k + 1) (by exact ⟨by omega, all_take 0 (by omega) hI.2 (by simpa using h2')⟩) (by omega) (To.pick (fun _ => .sub (t := 5) rfl (yO (by rfl))<|.k 0 rfl<|.k 1 rfl<|.nil) (fun _ => .nil) (ks := []) rfl)
 ·try simp only [cmpB, Z] at h1
  refine J_exit ?_
  refine zE<|zE<|zS<|zC<|zF (zG [] (.n (zB (.k rfl))<|.nil) ff rfl fun g7 => ⟨_, _, [], rfl, (.k 4 rfl<|.nil), (.nil), ?_⟩)
  refine zC<|yF<|zQ (.cons (.tmp (.t rfl))<|.nil) (zM (yD zL) ?_)
  exact ret_b (all_whole (by omega) hI.2).symm
theorem within_ok {d w : Exa} (hW : WinB d w) : Ct Tryz.prog 16 [exaP d, isv (.int .i64 (-38)), exaP w] (isv (.bool true)) := by
 refine Ct.of Tryz.func16 rfl (by kernel_rfl) rfl fun c0 => ?_
 refine yN (To.emps 2) ?_
 refine zF (zG [] (.w 0 (op_box 0 (.t rfl) yL rfl)<|.w 1 (op_box 1 (.t rfl) yL rfl)<|.n (zB (.k rfl))<|.nil) ff rfl fun g1 => ⟨_, _, [0, 1], rfl, (.k 1 rfl<|.k 3 rfl<|.k 5 rfl<|.nil), (.k 0 rfl<|.k 1 rfl<|.nil), ?_⟩)
 refine zC<|zF (zG [[], [], [0, 1], [], [], [4], [0, 1, 2, 4, 5], [0, 1, 2, 3, 4, 5, 6], [0, 1, 2, 3, 4, 5, 6, 7], [0, 1, 2, 3, 4, 5, 6, 7, 8], [0, 1, 2, 3, 4, 5, 6, 7, 8, 9]] (.r 0 (yI 0 ag41 (.t rfl) rfl zJ rfl rfl)<|.r 0 (yI 0 ag41 (.t rfl) rfl zJ rfl rfl)<|.n (zP (xmul_ok hW.hd hW.hd) ⟨(.t rfl), (.t rfl),  trivial⟩)<|.r 1 (yI 1 ag41 (.t rfl) rfl zJ rfl rfl)<|.n (zA (.t rfl))<|.n (op_mul (.k rfl) (.t rfl) (zO (by omega) (by omega)))<|.n (zP (xpow_ok) ⟨(.t rfl),  trivial⟩)<|.n (zP (xmul_ok hW.hw (pow_exb (by omega) (by omega))) ⟨(.t rfl), (.t rfl),  trivial⟩)<|.n (zP (xcmp_ok hW.h1 hW.h2 hW.h3 hW.h4) ⟨(.t rfl), (.t rfl),  trivial⟩)<|.n (yB (by simp) (.t rfl) (.k rfl) rfl)<|.n (zB (.t rfl))<|.nil) (fun _ => mixed) rfl fun g2 => ⟨_, _, [], rfl, (.k 6 rfl<|.nil), (.nil), ?_⟩)
 refine zC<|yF<|zQ (.cons (.tmp (.t rfl))<|.nil) (zM (yD zL) ?_)
 exact ret_b (cmp_no hW.yes)
end Go.Proofs.YtllkellonjhalaaGreat
