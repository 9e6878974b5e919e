/- Printed by a program of ours (walk.py): walks of the triangle of the reference. -/
import Derived.Test.YtllkellonjhalaaGreatSpKb
import Derived.Test.YtllkellonjhalaaGreatProg
import Derived.KernelRfl
import Derived.Test.YtllkellonjhalaaGreatSpTypes
import Derived.Test.YtllkellonjhalaaGreatSpWRf10
import Derived.Test.YtllkellonjhalaaGreatSpRtr
set_option linter.unusedVariables false
set_option linter.unusedSimpArgs false
set_option maxRecDepth 20000
set_option maxHeartbeats 1000000
namespace Go.Proofs.YtllkellonjhalaaGreat
open Go Go.Bn
attribute [local irreducible] OpOK
theorem rmirFA_ok {xs : List Nat} (hC : CnL xs) (h9 : xs.length ≤ 1000) (hn : powB xs = true → nanB ((sclL xs (powG xs)).getD 0 0) = false) : CtF Tryz.prog 44 [fls xs] (tp0) (fun u => tupp [isv u, flp (rglsL xs).w, flp (rglsL xs).alpha]) (fun u => som u flp (rglsL xs).v 36) := by
 refine CtF.of Tryz.func44 rfl (by kernel_rfl) rfl fun c0 => ?_
 have hrg := powG_rng xs
 have hlen := length_sclL xs (powG xs)
 refine J_seq (J_reg [] (.cons (.no) _ _ (op_assign (Lk.k rfl)) <| .cons (.no) _ _ (op_assign (Lk.fk rfl (by decide +kernel))) <| .cons (.no) _ _ (op_assign (Lk.fk rfl (by decide +kernel))) <| .nil) ff rfl fun g1 => ⟨_, _, [], rfl, (.cons 0 rfl <| .nil), (.nil), ?_⟩)
 refine JN_then ?_
 refine J_seq (J_reg [] (.cons (.no) _ _ (op_move (Lk.t rfl)) <| .cons (.no) _ _ (op_call (rpow_ok (fun k => (hC k).1)) ⟨(Lk.t rfl),  trivial⟩) <| .cons (.no) _ _ (op_move (Lk.t rfl)) <| .cons (.no) _ _ (op_extract (Lk.t rfl) rfl) <| .cons (.no) _ _ (op_extract (Lk.t rfl) rfl) <| .cons (.no) _ _ (op_assign (Lk.t rfl)) <| .cons (.no) _ _ (op_assign (Lk.t rfl)) <| .nil) ff rfl fun g2 => ⟨_, _, [], rfl, (.cons 0 rfl <| .cons 5 rfl <| .cons 6 rfl <| .nil), (.nil), ?_⟩)
 refine JN_then ?_
 refine J_seq ?_
 refine J_seq (J_reg [] (.cons (.no) _ _ (op_move (Lk.t rfl)) <| .cons (.no) _ _ (op_not (Lk.t rfl)) <| .nil) ff rfl fun g3 => ⟨_, _, [], rfl, (.cons 0 rfl <| .cons 5 rfl <| .cons 17 rfl <| .nil), (.nil), ?_⟩)
 refine JN_then ?_
 refine J_cond (cond_of (Lk.t rfl)) (fun h1 => ?_) (fun h1 => ?_)
 ·have h1' := h1
  try simp only [cmpB, Za, Zb, Zc, Zd, Ze, Zf, Zg, Zh, Zi, Zj, Zk, Zl, Zm, Zn, Zo, Zp, Zq, Zr] at h1
  refine J_to (To.emps 1) ?_
  refine J_seq (J_reg [] (.cons (.no) _ _ (op_move (Lk.t rfl)) <| .cons (.no) _ _ (op_len_m sl26 (Lk.t rfl)) <| .cons (.wr 0) _ _ (op_make_m (mk := flp) 0 0 sl26 zr36 rfl (fun _ => flp_zero) (Lk.t rfl) (Lk.t rfl) (by omega) (by omega) (by omega) (by omega) rfl) <| .cons (.no) _ _ (op_assign_ve rfl rfl) <| .cons (.no) _ _ (op_assign (Lk.fk rfl (by decide +kernel))) <| .cons (.no) _ _ (op_assign (Lk.fk rfl (by decide +kernel))) <| .nil) ff rfl fun g4 => ⟨_, _, [0], rfl, (.cons 2 rfl <| .cons 3 rfl <| .cons 4 rfl <| .nil), (.cons 0 rfl <| .nil), ?_⟩)
  refine JN_then ?_
  refine J_ret ?_
  refine JN_then_ret ?_
  refine JN_to (To.res 0 (r' := som (g4 20) flp (rglsL xs).v 36) rfl (res_eq (by rw [gls_0 (by simpa using h1)]; rfl)) rfl) ?_
  refine JN_retF3 (u := (g4 20)) 0 rfl rfl (.cons (.tmp (Lk.t rfl)) <| .cons (.tmp (Lk.t rfl)) <| .cons (.tmp (Lk.t rfl)) <| .nil) (fun v1 v2 v3 c h => h.1) ?_
  exact sb_eq (by rw [gls_0 (by simpa using h1)] <;> rfl)
 ·have h1' := h1
  try simp only [cmpB, Za, Zb, Zc, Zd, Ze, Zf, Zg, Zh, Zi, Zj, Zk, Zl, Zm, Zn, Zo, Zp, Zq, Zr] at h1
  have hb : powB xs = true := by simpa using h1
  have hp0 := powB_pos hb
  have hn0 := hn hb
  refine J_skip ?_
  refine JN_then ?_
  refine J_to (To.emps 1) ?_
  refine J_seq (J_reg [] (.cons (.no) _ _ (op_move (Lk.t rfl)) <| .cons (.no) _ _ (op_move (Lk.t rfl)) <| .cons (.wr 0) _ _ (op_callF 0 (rsclF_ok (by omega) (by omega) (by omega)) ⟨(Lk.t rfl), (Lk.t rfl),  trivial⟩ rfl) <| .cons (.no) _ _ (op_move_ve rfl rfl) <| .cons (.no) _ _ (op_ve 21 25 rfl rfl rfl (fun f => op_extract (Lk.t rfl) rfl) (fun f g h => by first | rfl | rw [h 24 (show 24 ∈ [24] from by decide)]) rfl) <| .cons (.no) _ _ (op_ve 21 26 rfl rfl rfl (fun f => op_extract (Lk.t rfl) rfl) (fun f g h => by first | rfl | rw [h 24 (show 24 ∈ [24] from by decide)]) rfl) <| .cons (.no) _ _ (op_assign_ve rfl rfl) <| .cons (.no) _ _ (op_assign_ve rfl rfl) <| .nil) ff rfl fun g5 => ⟨_, _, [0], rfl, (.cons 5 rfl <| .cons 7 rfl <| .cons 8 rfl <| .nil), (.cons 0 rfl <| .nil), ?_⟩)
  refine JN_then ?_
  refine J_seq (J_reg [] (.cons (.no) _ _ (op_move (Lk.t rfl)) <| .cons (.no) _ _ (op_assign (Lk.t rfl)) <| .nil) ff rfl fun g6 => ⟨_, _, [0], rfl, (.cons 5 rfl <| .cons 7 rfl <| .cons 8 rfl <| .cons 9 rfl <| .nil), (.cons 0 rfl <| .nil), ?_⟩)
  refine JN_then ?_
  refine J_seq ?_
  refine J_seq (J_reg [] (.cons (.no) _ _ (op_move (Lk.t rfl)) <| .cons (.rd 0) _ _ (op_index_som 0 sl26 (Lk.t rfl) (Lk.k rfl) rfl (by omega) (by omega)) <| .cons (.rd 0) _ _ (op_get_som 0 0 sc36 (Lk.t rfl) rfl (by omega)) <| .cons (.no) _ _ (op_call (sbit_ok hn0) ⟨(Lk.t rfl),  trivial⟩) <| .cons (.no) _ _ (op_not (Lk.t rfl)) <| .nil) ff rfl fun g7 => ⟨_, _, [0], rfl, (.cons 5 rfl <| .cons 7 rfl <| .cons 8 rfl <| .cons 9 rfl <| .cons 32 rfl <| .nil), (.cons 0 rfl <| .nil), ?_⟩)
  refine JN_then ?_
  refine J_cond (cond_of (Lk.t rfl)) (fun h2 => ?_) (fun h2 => ?_)
  ·have h2' := h2
   try simp only [cmpB, Za, Zb, Zc, Zd, Ze, Zf, Zg, Zh, Zi, Zj, Zk, Zl, Zm, Zn, Zo, Zp, Zq, Zr] at h2
   refine (J_reg [] (.cons (.no) _ _ (op_move (Lk.t rfl)) <| .cons (.no) _ _ (op_negf (Lk.t rfl)) <| .cons (.no) _ _ (op_assign (Lk.t rfl)) <| .nil) ff rfl fun g8 => ⟨_, _, [0], rfl, (.cons 5 rfl <| .cons 7 rfl <| .cons 8 rfl <| .cons 9 rfl <| .nil), (.cons 0 rfl <| .nil), ?_⟩)
   refine JN_then ?_
   refine J_seq (J_reg [] (.cons (.no) _ _ (op_move (Lk.t rfl)) <| .cons (.no) _ _ (op_move (Lk.t rfl)) <| .cons (.no) _ _ (op_move (Lk.t rfl)) <| .cons (.rd 0) _ _ (op_index_som 0 sl26 (Lk.t rfl) (Lk.k rfl) rfl (by omega) (by omega)) <| .cons (.rd 0) _ _ (op_get_som 0 0 sc36 (Lk.t rfl) rfl (by omega)) <| .cons (.no) _ _ (op_call (abs_ok) ⟨(Lk.t rfl),  trivial⟩) <| .cons (.no) _ _ (op_float (by simp) (Lk.t rfl) (Lk.t rfl) rfl) <| .cons (.no) _ _ (op_float (by simp) (Lk.t rfl) (Lk.t rfl) rfl) <| .cons (.no) _ _ (op_assign (Lk.t rfl)) <| .nil) ff rfl fun g9 => ⟨_, _, [0], rfl, (.cons 5 rfl <| .cons 7 rfl <| .cons 9 rfl <| .cons 10 rfl <| .nil), (.cons 0 rfl <| .nil), ?_⟩)
   refine JN_then ?_
   refine J_seq (J_reg [] (.cons (.no) _ _ (op_move (Lk.t rfl)) <| .cons (.no) _ _ (op_move (Lk.t rfl)) <| .cons (.rd 0) _ _ (op_index_som 0 sl26 (Lk.t rfl) (Lk.k rfl) rfl (by omega) (by omega)) <| .cons (.rd 0) _ _ (op_get_som 0 0 sc36 (Lk.t rfl) rfl (by omega)) <| .cons (.no) _ _ (op_move (Lk.t rfl)) <| .cons (.no) _ _ (op_float (by simp) (Lk.t rfl) (Lk.t rfl) rfl) <| .cons (.rd 0) _ _ (op_index_som 0 sl26 (Lk.t rfl) (Lk.k rfl) rfl (by omega) (by omega)) <| .cons (.wr 0) _ _ (op_store_som 0 (Lk.t rfl) (Lk.t rfl) co_flp sz36 rfl (by omega)) <| .nil) ff rfl fun g10 => ⟨_, _, [0], rfl, (.cons 5 rfl <| .cons 7 rfl <| .cons 9 rfl <| .cons 10 rfl <| .nil), (.cons 0 rfl <| .nil), ?_⟩)
   refine JN_then ?_
   refine J_seq (J_reg [] (.cons (.no) _ _ (op_move (Lk.t rfl)) <| .cons (.no) _ _ (op_move (Lk.t rfl)) <| .cons (.no) _ _ (op_move (Lk.t rfl)) <| .cons (.no) _ _ (op_move (Lk.t rfl)) <| .cons (.no) _ _ (op_call (rtimes_ok (by omega) (by omega)) ⟨(Lk.t rfl), (Lk.t rfl),  trivial⟩) <| .cons (.no) _ _ (op_assign (Lk.t rfl)) <| .cons (.no) _ _ (op_assign (Lk.t rfl)) <| .cons (.no) _ _ (op_assign (Lk.t rfl)) <| .nil) ff rfl fun g11 => ⟨_, _, [0], rfl, (.cons 2 rfl <| .cons 3 rfl <| .cons 4 rfl <| .nil), (.cons 0 rfl <| .nil), ?_⟩)
   refine JN_then ?_
   refine J_ret ?_
   refine JN_to (To.res 0 (r' := som (tp0 (g5 24)) flp (rglsL xs).v 36) rfl (res_eq (by rw [gls_n hb (by simpa using h2)]; rfl)) rfl) ?_
   refine JN_retF3 (u := (tp0 (g5 24))) 0 rfl rfl (.cons (.tmp (Lk.t rfl)) <| .cons (.tmp (Lk.t rfl)) <| .cons (.tmp (Lk.t rfl)) <| .nil) (fun v1 v2 v3 c h => h.1) ?_
   exact sb_eq (by rw [gls_n hb (by simpa using h2)] <;> rfl)
  ·have h2' := h2
   try simp only [cmpB, Za, Zb, Zc, Zd, Ze, Zf, Zg, Zh, Zi, Zj, Zk, Zl, Zm, Zn, Zo, Zp, Zq, Zr] at h2
   refine J_skip ?_
   refine JN_then ?_
   refine J_seq (J_reg [] (.cons (.no) _ _ (op_move (Lk.t rfl)) <| .cons (.no) _ _ (op_move (Lk.t rfl)) <| .cons (.no) _ _ (op_move (Lk.t rfl)) <| .cons (.rd 0) _ _ (op_index_som 0 sl26 (Lk.t rfl) (Lk.k rfl) rfl (by omega) (by omega)) <| .cons (.rd 0) _ _ (op_get_som 0 0 sc36 (Lk.t rfl) rfl (by omega)) <| .cons (.no) _ _ (op_call (abs_ok) ⟨(Lk.t rfl),  trivial⟩) <| .cons (.no) _ _ (op_float (by simp) (Lk.t rfl) (Lk.t rfl) rfl) <| .cons (.no) _ _ (op_float (by simp) (Lk.t rfl) (Lk.t rfl) rfl) <| .cons (.no) _ _ (op_assign (Lk.t rfl)) <| .nil) ff rfl fun g12 => ⟨_, _, [0], rfl, (.cons 5 rfl <| .cons 7 rfl <| .cons 9 rfl <| .cons 10 rfl <| .nil), (.cons 0 rfl <| .nil), ?_⟩)
   refine JN_then ?_
   refine J_seq (J_reg [] (.cons (.no) _ _ (op_move (Lk.t rfl)) <| .cons (.no) _ _ (op_move (Lk.t rfl)) <| .cons (.rd 0) _ _ (op_index_som 0 sl26 (Lk.t rfl) (Lk.k rfl) rfl (by omega) (by omega)) <| .cons (.rd 0) _ _ (op_get_som 0 0 sc36 (Lk.t rfl) rfl (by omega)) <| .cons (.no) _ _ (op_move (Lk.t rfl)) <| .cons (.no) _ _ (op_float (by simp) (Lk.t rfl) (Lk.t rfl) rfl) <| .cons (.rd 0) _ _ (op_index_som 0 sl26 (Lk.t rfl) (Lk.k rfl) rfl (by omega) (by omega)) <| .cons (.wr 0) _ _ (op_store_som 0 (Lk.t rfl) (Lk.t rfl) co_flp sz36 rfl (by omega)) <| .nil) ff rfl fun g13 => ⟨_, _, [0], rfl, (.cons 5 rfl <| .cons 7 rfl <| .cons 9 rfl <| .cons 10 rfl <| .nil), (.cons 0 rfl <| .nil), ?_⟩)
   refine JN_then ?_
   refine J_seq (J_reg [] (.cons (.no) _ _ (op_move (Lk.t rfl)) <| .cons (.no) _ _ (op_move (Lk.t rfl)) <| .cons (.no) _ _ (op_move (Lk.t rfl)) <| .cons (.no) _ _ (op_move (Lk.t rfl)) <| .cons (.no) _ _ (op_call (rtimes_ok (by omega) (by omega)) ⟨(Lk.t rfl), (Lk.t rfl),  trivial⟩) <| .cons (.no) _ _ (op_assign (Lk.t rfl)) <| .cons (.no) _ _ (op_assign (Lk.t rfl)) <| .cons (.no) _ _ (op_assign (Lk.t rfl)) <| .nil) ff rfl fun g14 => ⟨_, _, [0], rfl, (.cons 2 rfl <| .cons 3 rfl <| .cons 4 rfl <| .nil), (.cons 0 rfl <| .nil), ?_⟩)
   refine JN_then ?_
   refine J_ret ?_
   refine JN_to (To.res 0 (r' := som (tp0 (g5 24)) flp (rglsL xs).v 36) rfl (res_eq (by rw [gls_s hb (by simpa using h2)]; rfl)) rfl) ?_
   refine JN_retF3 (u := (tp0 (g5 24))) 0 rfl rfl (.cons (.tmp (Lk.t rfl)) <| .cons (.tmp (Lk.t rfl)) <| .cons (.tmp (Lk.t rfl)) <| .nil) (fun v1 v2 v3 c h => h.1) ?_
   exact sb_eq (by rw [gls_s hb (by simpa using h2)] <;> rfl)
theorem rmirFN_ok {xs : List Nat} (hC : CnL xs) (h9 : xs.length ≤ 1000) (hn : powB xs = true → nanB ((sclL xs (powG xs)).getD 0 0) = true) : CtF Tryz.prog 44 [fls xs] (tp0) (fun u => tupp [isv u, flp (rglsL xs).w, flp (rglsL xs).alpha]) (fun u => som u flp (rglsL xs).v 36) := by
 refine CtF.of Tryz.func44 rfl (by kernel_rfl) rfl fun c0 => ?_
 have hrg := powG_rng xs
 have hlen := length_sclL xs (powG xs)
 refine J_seq (J_reg [] (.cons (.no) _ _ (op_assign (Lk.k rfl)) <| .cons (.no) _ _ (op_assign (Lk.fk rfl (by decide +kernel))) <| .cons (.no) _ _ (op_assign (Lk.fk rfl (by decide +kernel))) <| .nil) ff rfl fun g1 => ⟨_, _, [], rfl, (.cons 0 rfl <| .nil), (.nil), ?_⟩)
 refine JN_then ?_
 refine J_seq (J_reg [] (.cons (.no) _ _ (op_move (Lk.t rfl)) <| .cons (.no) _ _ (op_call (rpow_ok (fun k => (hC k).1)) ⟨(Lk.t rfl),  trivial⟩) <| .cons (.no) _ _ (op_move (Lk.t rfl)) <| .cons (.no) _ _ (op_extract (Lk.t rfl) rfl) <| .cons (.no) _ _ (op_extract (Lk.t rfl) rfl) <| .cons (.no) _ _ (op_assign (Lk.t rfl)) <| .cons (.no) _ _ (op_assign (Lk.t rfl)) <| .nil) ff rfl fun g2 => ⟨_, _, [], rfl, (.cons 0 rfl <| .cons 5 rfl <| .cons 6 rfl <| .nil), (.nil), ?_⟩)
 refine JN_then ?_
 refine J_seq ?_
 refine J_seq (J_reg [] (.cons (.no) _ _ (op_move (Lk.t rfl)) <| .cons (.no) _ _ (op_not (Lk.t rfl)) <| .nil) ff rfl fun g3 => ⟨_, _, [], rfl, (.cons 0 rfl <| .cons 5 rfl <| .cons 17 rfl <| .nil), (.nil), ?_⟩)
 refine JN_then ?_
 refine J_cond (cond_of (Lk.t rfl)) (fun h1 => ?_) (fun h1 => ?_)
 ·have h1' := h1
  try simp only [cmpB, Za, Zb, Zc, Zd, Ze, Zf, Zg, Zh, Zi, Zj, Zk, Zl, Zm, Zn, Zo, Zp, Zq, Zr] at h1
  refine J_to (To.emps 1) ?_
  refine J_seq (J_reg [] (.cons (.no) _ _ (op_move (Lk.t rfl)) <| .cons (.no) _ _ (op_len_m sl26 (Lk.t rfl)) <| .cons (.wr 0) _ _ (op_make_m (mk := flp) 0 0 sl26 zr36 rfl (fun _ => flp_zero) (Lk.t rfl) (Lk.t rfl) (by omega) (by omega) (by omega) (by omega) rfl) <| .cons (.no) _ _ (op_assign_ve rfl rfl) <| .cons (.no) _ _ (op_assign (Lk.fk rfl (by decide +kernel))) <| .cons (.no) _ _ (op_assign (Lk.fk rfl (by decide +kernel))) <| .nil) ff rfl fun g4 => ⟨_, _, [0], rfl, (.cons 2 rfl <| .cons 3 rfl <| .cons 4 rfl <| .nil), (.cons 0 rfl <| .nil), ?_⟩)
  refine JN_then ?_
  refine J_ret ?_
  refine JN_then_ret ?_
  refine JN_to (To.res 0 (r' := som (g4 20) flp (rglsL xs).v 36) rfl (res_eq (by rw [gls_0 (by simpa using h1)]; rfl)) rfl) ?_
  refine JN_retF3 (u := (g4 20)) 0 rfl rfl (.cons (.tmp (Lk.t rfl)) <| .cons (.tmp (Lk.t rfl)) <| .cons (.tmp (Lk.t rfl)) <| .nil) (fun v1 v2 v3 c h => h.1) ?_
  exact sb_eq (by rw [gls_0 (by simpa using h1)] <;> rfl)
 ·have h1' := h1
  try simp only [cmpB, Za, Zb, Zc, Zd, Ze, Zf, Zg, Zh, Zi, Zj, Zk, Zl, Zm, Zn, Zo, Zp, Zq, Zr] at h1
  have hb : powB xs = true := by simpa using h1
  have hp0 := powB_pos hb
  have hn0 := hn hb
  refine J_skip ?_
  refine JN_then ?_
  refine J_to (To.emps 1) ?_
  refine J_seq (J_reg [] (.cons (.no) _ _ (op_move (Lk.t rfl)) <| .cons (.no) _ _ (op_move (Lk.t rfl)) <| .cons (.wr 0) _ _ (op_callF 0 (rsclF_ok (by omega) (by omega) (by omega)) ⟨(Lk.t rfl), (Lk.t rfl),  trivial⟩ rfl) <| .cons (.no) _ _ (op_move_ve rfl rfl) <| .cons (.no) _ _ (op_ve 21 25 rfl rfl rfl (fun f => op_extract (Lk.t rfl) rfl) (fun f g h => by first | rfl | rw [h 24 (show 24 ∈ [24] from by decide)]) rfl) <| .cons (.no) _ _ (op_ve 21 26 rfl rfl rfl (fun f => op_extract (Lk.t rfl) rfl) (fun f g h => by first | rfl | rw [h 24 (show 24 ∈ [24] from by decide)]) rfl) <| .cons (.no) _ _ (op_assign_ve rfl rfl) <| .cons (.no) _ _ (op_assign_ve rfl rfl) <| .nil) ff rfl fun g5 => ⟨_, _, [0], rfl, (.cons 5 rfl <| .cons 7 rfl <| .cons 8 rfl <| .nil), (.cons 0 rfl <| .nil), ?_⟩)
  refine JN_then ?_
  refine J_seq (J_reg [] (.cons (.no) _ _ (op_move (Lk.t rfl)) <| .cons (.no) _ _ (op_assign (Lk.t rfl)) <| .nil) ff rfl fun g6 => ⟨_, _, [0], rfl, (.cons 5 rfl <| .cons 7 rfl <| .cons 8 rfl <| .cons 9 rfl <| .nil), (.cons 0 rfl <| .nil), ?_⟩)
  refine JN_then ?_
  refine J_seq ?_
  refine J_seq (J_reg [] (.cons (.no) _ _ (op_move (Lk.t rfl)) <| .cons (.rd 0) _ _ (op_index_som 0 sl26 (Lk.t rfl) (Lk.k rfl) rfl (by omega) (by omega)) <| .cons (.rd 0) _ _ (op_get_som 0 0 sc36 (Lk.t rfl) rfl (by omega)) <| .cons (.no) _ _ (op_call (sbitN_ok) ⟨(Lk.t rfl),  trivial⟩) <| .cons (.no) _ _ (op_notA (Lk.t rfl)) <| .nil) ff rfl fun g7 => ⟨_, _, [0], rfl, (.cons 5 rfl <| .cons 7 rfl <| .cons 8 rfl <| .cons 9 rfl <| .cons 32 rfl <| .nil), (.cons 0 rfl <| .nil), ?_⟩)
  refine JN_then ?_
  refine J_condA (Lk.t rfl) ?_ ?_
  ·skip
   refine (J_reg [] (.cons (.no) _ _ (op_move (Lk.t rfl)) <| .cons (.no) _ _ (op_negf (Lk.t rfl)) <| .cons (.no) _ _ (op_assign (Lk.t rfl)) <| .nil) ff rfl fun g8 => ⟨_, _, [0], rfl, (.cons 5 rfl <| .cons 7 rfl <| .cons 8 rfl <| .cons 9 rfl <| .nil), (.cons 0 rfl <| .nil), ?_⟩)
   refine JN_then ?_
   refine J_seq (J_reg [] (.cons (.no) _ _ (op_move (Lk.t rfl)) <| .cons (.no) _ _ (op_move (Lk.t rfl)) <| .cons (.no) _ _ (op_move (Lk.t rfl)) <| .cons (.rd 0) _ _ (op_index_som 0 sl26 (Lk.t rfl) (Lk.k rfl) rfl (by omega) (by omega)) <| .cons (.rd 0) _ _ (op_get_som 0 0 sc36 (Lk.t rfl) rfl (by omega)) <| .cons (.no) _ _ (op_call (abs_ok) ⟨(Lk.t rfl),  trivial⟩) <| .cons (.no) _ _ (op_float (by simp) (Lk.t rfl) (Lk.t rfl) rfl) <| .cons (.no) _ _ (op_float (by simp) (Lk.t rfl) (Lk.t rfl) rfl) <| .cons (.no) _ _ (op_assign (Lk.t rfl)) <| .nil) ff rfl fun g9 => ⟨_, _, [0], rfl, (.cons 5 rfl <| .cons 7 rfl <| .cons 9 rfl <| .cons 10 rfl <| .nil), (.cons 0 rfl <| .nil), ?_⟩)
   refine JN_then ?_
   refine J_seq (J_reg [] (.cons (.no) _ _ (op_move (Lk.t rfl)) <| .cons (.no) _ _ (op_move (Lk.t rfl)) <| .cons (.rd 0) _ _ (op_index_som 0 sl26 (Lk.t rfl) (Lk.k rfl) rfl (by omega) (by omega)) <| .cons (.rd 0) _ _ (op_get_som 0 0 sc36 (Lk.t rfl) rfl (by omega)) <| .cons (.no) _ _ (op_move (Lk.t rfl)) <| .cons (.no) _ _ (op_float (by simp) (Lk.t rfl) (Lk.t rfl) rfl) <| .cons (.rd 0) _ _ (op_index_som 0 sl26 (Lk.t rfl) (Lk.k rfl) rfl (by omega) (by omega)) <| .cons (.wr 0) _ _ (op_store_som 0 (Lk.t rfl) (Lk.t rfl) co_flp sz36 rfl (by omega)) <| .nil) ff rfl fun g10 => ⟨_, _, [0], rfl, (.cons 5 rfl <| .cons 7 rfl <| .cons 9 rfl <| .cons 10 rfl <| .nil), (.cons 0 rfl <| .nil), ?_⟩)
   refine JN_then ?_
   refine J_seq (J_reg [] (.cons (.no) _ _ (op_move (Lk.t rfl)) <| .cons (.no) _ _ (op_move (Lk.t rfl)) <| .cons (.no) _ _ (op_move (Lk.t rfl)) <| .cons (.no) _ _ (op_move (Lk.t rfl)) <| .cons (.no) _ _ (op_call (rtimes_ok (by omega) (by omega)) ⟨(Lk.t rfl), (Lk.t rfl),  trivial⟩) <| .cons (.no) _ _ (op_assign (Lk.t rfl)) <| .cons (.no) _ _ (op_assign (Lk.t rfl)) <| .cons (.no) _ _ (op_assign (Lk.t rfl)) <| .nil) ff rfl fun g11 => ⟨_, _, [0], rfl, (.cons 2 rfl <| .cons 3 rfl <| .cons 4 rfl <| .nil), (.cons 0 rfl <| .nil), ?_⟩)
   refine JN_then ?_
   refine J_ret ?_
   refine JN_to (To.res 0 (r' := som (tp0 (g5 24)) flp (rglsL xs).v 36) rfl (res_eq (by rw [gls_nan hC hb hn0, scl_nan hp0 hn0, fneg_nan]; rfl)) rfl) ?_
   refine JN_retF3 (u := (tp0 (g5 24))) 0 rfl rfl (.cons (.tmp (Lk.t rfl)) <| .cons (.tmp (Lk.t rfl)) <| .cons (.tmp (Lk.t rfl)) <| .nil) (fun v1 v2 v3 c h => h.1) ?_
   exact sb_eq (by rw [gls_nan hC hb hn0, scl_nan hp0 hn0]; rw [fneg_nan] <;> rfl)
  ·skip
   refine J_skip ?_
   refine JN_then ?_
   refine J_seq (J_reg [] (.cons (.no) _ _ (op_move (Lk.t rfl)) <| .cons (.no) _ _ (op_move (Lk.t rfl)) <| .cons (.no) _ _ (op_move (Lk.t rfl)) <| .cons (.rd 0) _ _ (op_index_som 0 sl26 (Lk.t rfl) (Lk.k rfl) rfl (by omega) (by omega)) <| .cons (.rd 0) _ _ (op_get_som 0 0 sc36 (Lk.t rfl) rfl (by omega)) <| .cons (.no) _ _ (op_call (abs_ok) ⟨(Lk.t rfl),  trivial⟩) <| .cons (.no) _ _ (op_float (by simp) (Lk.t rfl) (Lk.t rfl) rfl) <| .cons (.no) _ _ (op_float (by simp) (Lk.t rfl) (Lk.t rfl) rfl) <| .cons (.no) _ _ (op_assign (Lk.t rfl)) <| .nil) ff rfl fun g12 => ⟨_, _, [0], rfl, (.cons 5 rfl <| .cons 7 rfl <| .cons 9 rfl <| .cons 10 rfl <| .nil), (.cons 0 rfl <| .nil), ?_⟩)
   refine JN_then ?_
   refine J_seq (J_reg [] (.cons (.no) _ _ (op_move (Lk.t rfl)) <| .cons (.no) _ _ (op_move (Lk.t rfl)) <| .cons (.rd 0) _ _ (op_index_som 0 sl26 (Lk.t rfl) (Lk.k rfl) rfl (by omega) (by omega)) <| .cons (.rd 0) _ _ (op_get_som 0 0 sc36 (Lk.t rfl) rfl (by omega)) <| .cons (.no) _ _ (op_move (Lk.t rfl)) <| .cons (.no) _ _ (op_float (by simp) (Lk.t rfl) (Lk.t rfl) rfl) <| .cons (.rd 0) _ _ (op_index_som 0 sl26 (Lk.t rfl) (Lk.k rfl) rfl (by omega) (by omega)) <| .cons (.wr 0) _ _ (op_store_som 0 (Lk.t rfl) (Lk.t rfl) co_flp sz36 rfl (by omega)) <| .nil) ff rfl fun g13 => ⟨_, _, [0], rfl, (.cons 5 rfl <| .cons 7 rfl <| .cons 9 rfl <| .cons 10 rfl <| .nil), (.cons 0 rfl <| .nil), ?_⟩)
   refine JN_then ?_
   refine J_seq (J_reg [] (.cons (.no) _ _ (op_move (Lk.t rfl)) <| .cons (.no) _ _ (op_move (Lk.t rfl)) <| .cons (.no) _ _ (op_move (Lk.t rfl)) <| .cons (.no) _ _ (op_move (Lk.t rfl)) <| .cons (.no) _ _ (op_call (rtimes_ok (by omega) (by omega)) ⟨(Lk.t rfl), (Lk.t rfl),  trivial⟩) <| .cons (.no) _ _ (op_assign (Lk.t rfl)) <| .cons (.no) _ _ (op_assign (Lk.t rfl)) <| .cons (.no) _ _ (op_assign (Lk.t rfl)) <| .nil) ff rfl fun g14 => ⟨_, _, [0], rfl, (.cons 2 rfl <| .cons 3 rfl <| .cons 4 rfl <| .nil), (.cons 0 rfl <| .nil), ?_⟩)
   refine JN_then ?_
   refine J_ret ?_
   refine JN_to (To.res 0 (r' := som (tp0 (g5 24)) flp (rglsL xs).v 36) rfl (res_eq (by rw [gls_nan hC hb hn0, scl_nan hp0 hn0]; rfl)) rfl) ?_
   refine JN_retF3 (u := (tp0 (g5 24))) 0 rfl rfl (.cons (.tmp (Lk.t rfl)) <| .cons (.tmp (Lk.t rfl)) <| .cons (.tmp (Lk.t rfl)) <| .nil) (fun v1 v2 v3 c h => h.1) ?_
   exact sb_eq (by rw [gls_nan hC hb hn0, scl_nan hp0 hn0] <;> rfl)
theorem rmirF_ok {xs : List Nat} (hC : CnL xs) (h9 : xs.length ≤ 1000) : CtF Tryz.prog 44 [fls xs] tp0 (fun u => tupp [isv u, flp (rglsL xs).w, flp (rglsL xs).alpha]) (fun u => som u flp (rglsL xs).v 36) := by
 cases h : nanB ((sclL xs (powG xs)).getD 0 0)
 ·exact rmirFA_ok hC h9 fun _ => h
 ·exact rmirFN_ok hC h9 fun _ => h
theorem tidy_ok {x : Nat} {t : Bool} : Ct Tryz.prog 48 [flp x, isv (.bool t)] (flp (tidN x t)) := by
 refine Ct.of Tryz.func48 rfl (by kernel_rfl) rfl fun c0 => ?_
 refine J_seq (J_reg [] (.cons (.no) _ _ (op_assign (Lk.fk rfl (by decide +kernel))) <| .nil) ff rfl fun g1 => ⟨_, _, [], rfl, (.cons 0 rfl <| .cons 1 rfl <| .nil), (.nil), ?_⟩)
 refine JN_then ?_
 refine J_seq ?_
 refine J_seq (J_reg [] (.cons (.no) _ _ (op_move (Lk.t rfl)) <| .cons (.no) _ _ (op_fcmp (by simp) (Lk.t rfl) (Lk.fk rfl (by decide +kernel)) rfl) <| .nil) ff rfl fun g2 => ⟨_, _, [], rfl, (.cons 0 rfl <| .cons 1 rfl <| .cons 6 rfl <| .nil), (.nil), ?_⟩)
 refine JN_then ?_
 refine J_cond (cond_of (Lk.t rfl)) (fun h1 => ?_) (fun h1 => ?_)
 ·have h1' := h1
  try simp only [cmpB, Za, Zb, Zc, Zd, Ze, Zf, Zg, Zh, Zi, Zj, Zk, Zl, Zm, Zn, Zo, Zp, Zq, Zr] at h1
  refine J_seq (J_reg [] (.cons (.no) _ _ (op_assign (Lk.fk rfl (by decide +kernel))) <| .nil) ff rfl fun g3 => ⟨_, _, [], rfl, (.cons 4 rfl <| .nil), (.nil), ?_⟩)
  refine JN_then ?_
  refine J_ret ?_
  refine JN_then_ret ?_
  refine JN_ret (.cons (.tmp (Lk.t rfl)) <| .nil) (sb_trans (sb_res1 sb_refl) ?_)
  exact ret_f (by unfold tidN; rw [if_pos h1'])
 ·have h1' := h1
  try simp only [cmpB, Za, Zb, Zc, Zd, Ze, Zf, Zg, Zh, Zi, Zj, Zk, Zl, Zm, Zn, Zo, Zp, Zq, Zr] at h1
  refine J_skip ?_
  refine JN_then ?_
  refine J_seq ?_
  refine J_seq (J_reg [] (.cons (.no) _ _ (op_move (Lk.t rfl)) <| .nil) ff rfl fun g4 => ⟨_, _, [], rfl, (.cons 0 rfl <| .cons 7 rfl <| .nil), (.nil), ?_⟩)
  refine JN_then ?_
  refine J_cond (cond_of (Lk.t rfl)) (fun h2 => ?_) (fun h2 => ?_)
  ·have h2' := h2
   try simp only [cmpB, Za, Zb, Zc, Zd, Ze, Zf, Zg, Zh, Zi, Zj, Zk, Zl, Zm, Zn, Zo, Zp, Zq, Zr] at h2
   refine J_seq (J_reg [] (.cons (.no) _ _ (op_move (Lk.t rfl)) <| .cons (.no) _ _ (op_negf (Lk.t rfl)) <| .cons (.no) _ _ (op_assign (Lk.t rfl)) <| .nil) ff rfl fun g5 => ⟨_, _, [], rfl, (.cons 4 rfl <| .nil), (.nil), ?_⟩)
   refine JN_then ?_
   refine J_ret ?_
   refine JN_then_ret ?_
   refine JN_ret (.cons (.tmp (Lk.t rfl)) <| .nil) (sb_trans (sb_res1 sb_refl) ?_)
   exact ret_f (by unfold tidN; rw [if_neg (by rw [h1']; decide), if_pos h2])
  ·have h2' := h2
   try simp only [cmpB, Za, Zb, Zc, Zd, Ze, Zf, Zg, Zh, Zi, Zj, Zk, Zl, Zm, Zn, Zo, Zp, Zq, Zr] at h2
   refine J_skip ?_
   refine JN_then ?_
   refine J_seq (J_reg [] (.cons (.no) _ _ (op_move (Lk.t rfl)) <| .cons (.no) _ _ (op_assign (Lk.t rfl)) <| .nil) ff rfl fun g6 => ⟨_, _, [], rfl, (.cons 4 rfl <| .nil), (.nil), ?_⟩)
   refine JN_then ?_
   refine J_ret ?_
   refine JN_ret (.cons (.tmp (Lk.t rfl)) <| .nil) (sb_trans (sb_res1 sb_refl) ?_)
   exact ret_f (by unfold tidN; rw [if_neg (by rw [h1']; decide), if_neg (by simp [h2])])
end Go.Proofs.YtllkellonjhalaaGreat
