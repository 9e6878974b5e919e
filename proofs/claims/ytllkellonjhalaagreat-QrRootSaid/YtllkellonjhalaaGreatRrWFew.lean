/- Printed by a program of ours (walk.py): walks of what the laws of layer 10 reckon with. -/
import Derived.Test.YtllkellonjhalaaGreatRrKb
import Derived.Test.YtllkellonjhalaaGreatProg
import Derived.KernelRfl
import Derived.Test.YtllkellonjhalaaGreatRrTypes
import Derived.Test.YtllkellonjhalaaGreatRrWAwk
import Derived.Test.YtllkellonjhalaaGreatRrWExact
import Derived.Test.YtllkellonjhalaaGreatRrTru
set_option linter.unusedVariables false
set_option linter.unusedSimpArgs false
set_option maxRecDepth 20000
set_option maxHeartbeats 1000000
namespace Go.Proofs.YtllkellonjhalaaGreat
open Go Go.Bn
attribute [local irreducible] OpOK
theorem squares_ok {xs : List Nat} (hD : DotB xs xs) : Ct Tryz.prog 17 [fls xs] (exaP (dotX xs xs xs.length)) := by
 refine Ct.of Tryz.func17 rfl (by kernel_rfl) rfl fun c0 => ?_
 refine J_to (To.emps 1) ?_
 refine zF (zG [] (
   .w 0 (op_alloc 0 zr41 rfl rfl) <| .nil) ff rfl fun g1 => ⟨_, _, [0], rfl, (.cons 0 rfl <| .cons 2 rfl <| .nil), (.cons 0 rfl <| .nil), ?_⟩)
 refine zC ?_
 refine zF (zG [] (
   .n (zA (Lk.t rfl)) <|
   .n (zA (Lk.t rfl)) <|
   .n (zP (xdot_ok (by assumption)) ⟨(Lk.t rfl), (Lk.t rfl),  trivial⟩) <|
   .w 0 (op_store_b 0 (Lk.t rfl) (Lk.t rfl) co_agg sz41 rfl rfl rfl) <| .nil) ff rfl fun g2 => ⟨_, _, [0], rfl, (.cons 2 rfl <| .nil), (.cons 0 rfl <| .nil), ?_⟩)
 refine zC ?_
 refine J_ret ?_
 refine zQ (.cons (.ag 0 (Lk.t rfl) ag41 rfl rfl rfl) <| .nil) (zM (sb_res1 zL) ?_)
 exact zL
theorem tame_ok {x : Nat} {k : Int} (k0 : 0 ≤ k) (k1 : k ≤ 1000) : Ct Tryz.prog 50 [flp x, isv (.int .i64 k)] (isv (.bool (tameB x k))) := by
 refine Ct.of Tryz.func50 rfl (by kernel_rfl) rfl fun c0 => ?_
 refine zF (zG [] (
   .n (zB (Lk.k rfl)) <| .nil) ff rfl fun g1 => ⟨_, _, [], rfl, (.cons 0 rfl <| .cons 1 rfl <| .nil), (.nil), ?_⟩)
 refine zC ?_
 refine zF (zG [] (
   .n (zA (Lk.t rfl)) <|
   .n (zP (abs_ok) ⟨(Lk.t rfl),  trivial⟩) <|
   .n (zB (Lk.t rfl)) <| .nil) ff rfl fun g2 => ⟨_, _, [], rfl, (.cons 0 rfl <| .cons 1 rfl <| .cons 5 rfl <| .nil), (.nil), ?_⟩)
 refine zC ?_
 refine zF (zG [] (
   .n (zA (Lk.t rfl)) <|
   .n (op_fcmp (by simp) (Lk.t rfl) (Lk.fk rfl (by decide +kernel)) rfl) <|
   .n (zA (Lk.t rfl)) <|
   .n (op_guard rfl rfl (gd_b rfl) (fun hC => (zA (Lk.t rfl)))) <|
   .n (op_guard rfl rfl (gd_b rfl) (fun hC => (zA (Lk.t rfl)))) <|
   .n (op_guard rfl rfl (gd_b rfl) (fun hC => (op_neg (Lk.w rfl hC) (zO (by omega) (by omega))))) <|
   .n (op_guard rfl rfl (gd_b rfl) (fun hC => (zP (Ldexp_ok (by omega) (by omega)) ⟨(Lk.fk rfl (by decide +kernel)), (Lk.w rfl hC),  trivial⟩))) <|
   .n (op_guard rfl rfl (gd_b rfl) (fun hC => (op_fcmp (by simp) (Lk.w rfl hC) (Lk.w rfl hC) rfl))) <|
   .n (op_guard rfl rfl (gd_b rfl) (fun hC => (zA (Lk.w rfl hC)))) <|
   .n (op_guard rfl rfl (gd_w rfl) (fun hC => (zA (Lk.t rfl)))) <|
   .n (op_guard rfl rfl (gd_w rfl) (fun hC => (zA (Lk.t rfl)))) <|
   .n (op_guard rfl rfl (gd_w rfl) (fun hC => (zP (Ldexp_ok (by omega) (by omega)) ⟨(Lk.fk rfl (by decide +kernel)), (Lk.w rfl hC),  trivial⟩))) <|
   .n (op_guard rfl rfl (gd_w rfl) (fun hC => (op_fcmp (by simp) (Lk.w rfl hC) (Lk.w rfl hC) rfl))) <|
   .n (op_guard rfl rfl (gd_b rfl) (fun hC => (op_and (Lk.w rfl hC) (fun h2 => (Lk.w rfl ⟨hC, h2⟩))))) <|
   .n (op_or (Lk.t rfl) (fun h2 => (Lk.w rfl h2))) <|
   .n (zB (Lk.t rfl)) <| .nil) ff rfl fun g3 => ⟨_, _, [], rfl, (.cons 4 rfl <| .nil), (.nil), ?_⟩)
 refine zC ?_
 refine J_ret ?_
 refine zQ (.cons (.tmp (Lk.t rfl)) <| .nil) (zM (sb_res1 zL) ?_)
 exact ret_b (by unfold tameB; rfl)
end Go.Proofs.YtllkellonjhalaaGreat
