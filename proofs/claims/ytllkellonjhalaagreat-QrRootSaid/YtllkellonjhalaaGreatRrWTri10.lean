/- Printed by a program of ours (walk.py): walks of the triangle of the reference. -/
import Derived.Test.YtllkellonjhalaaGreatRrKb
import Derived.Test.YtllkellonjhalaaGreatProg
import Derived.KernelRfl
import Derived.Test.YtllkellonjhalaaGreatRrTypes
import Derived.Test.YtllkellonjhalaaGreatRrWRf10
import Derived.Test.YtllkellonjhalaaGreatRrRtr
set_option linter.unusedVariables false
set_option linter.unusedSimpArgs false
set_option maxRecDepth 20000
set_option maxHeartbeats 1000000
namespace Go.Proofs.YtllkellonjhalaaGreat
open Go Go.Bn
attribute [local irreducible] OpOK
theorem rmirFA_ok {xs : List Nat} (hC : CnL xs) (h9 : xs.length ≤ 1000) (hn : powB xs = true → nanB ((sclL xs (powG xs)).getD 0 0) = false) : CtF Tryz.prog 44 [fls xs] (tp0) (fun u => tupp [isv u, flp (rglsL xs).w, flp (rglsL xs).alpha]) (fun u => som u flp (rglsL xs).v 36) := by
 refine CtF.of Tryz.func44 rfl (by kernel_rfl) rfl fun c0 => ?_
 have hrg := powG_rng xs
 have hlen := length_sclL xs (powG xs)
 refine zF (zG [] (
   .n (zB (Lk.k rfl)) <|
   .n (zB (Lk.fk rfl (by decide +kernel))) <|
   .n (zB (Lk.fk rfl (by decide +kernel))) <| .nil) ff rfl fun g1 => ⟨_, _, [], rfl, (.cons 0 rfl <| .nil), (.nil), ?_⟩)
 refine zC ?_
 refine zF (zG [] (
   .n (zA (Lk.t rfl)) <|
   .n (zP (rpow_ok (fun k => (hC k).1)) ⟨(Lk.t rfl),  trivial⟩) <|
   .n (zA (Lk.t rfl)) <|
   .n (op_extract (Lk.t rfl) rfl) <|
   .n (op_extract (Lk.t rfl) rfl) <|
   .n (zB (Lk.t rfl)) <|
   .n (zB (Lk.t rfl)) <| .nil) ff rfl fun g2 => ⟨_, _, [], rfl, (.cons 0 rfl <| .cons 5 rfl <| .cons 6 rfl <| .nil), (.nil), ?_⟩)
 refine zC ?_
 refine zF ?_
 refine zF (zG [] (
   .n (zA (Lk.t rfl)) <|
   .n (op_not (Lk.t rfl)) <| .nil) ff rfl fun g3 => ⟨_, _, [], rfl, (.cons 0 rfl <| .cons 5 rfl <| .cons 17 rfl <| .nil), (.nil), ?_⟩)
 refine zC ?_
 refine zH (zK (Lk.t rfl)) (fun h1 => ?_) (fun h1 => ?_)
 ·have h1' := h1
  try simp only [cmpB, Z] at h1
  refine J_to (To.emps 1) ?_
  refine zF (zG [] (
    .n (zA (Lk.t rfl)) <|
    .n (op_len_m sl26 (Lk.t rfl)) <|
    .w 0 (op_make_m (mk := flp) 0 0 sl26 zr36 rfl (fun _ => flp_zero) (Lk.t rfl) (Lk.t rfl) (by omega) (by omega) (by omega) (by omega) rfl) <|
    .n (op_assign_ve rfl rfl) <|
    .n (zB (Lk.fk rfl (by decide +kernel))) <|
    .n (zB (Lk.fk rfl (by decide +kernel))) <| .nil) ff rfl fun g4 => ⟨_, _, [0], rfl, (.cons 2 rfl <| .cons 3 rfl <| .cons 4 rfl <| .nil), (.cons 0 rfl <| .nil), ?_⟩)
  refine zC ?_
  refine J_ret ?_
  refine zD ?_
  refine JN_to (To.res 0 (r' := som (g4 20) flp (rglsL xs).v 36) rfl (res_eq (by rw [gls_0 (by simpa using h1)]; rfl)) rfl) ?_
  refine JN_retF3 (u := (g4 20)) 0 rfl rfl (.cons (.tmp (Lk.t rfl)) <| .cons (.tmp (Lk.t rfl)) <| .cons (.tmp (Lk.t rfl)) <| .nil) (fun v1 v2 v3 c h => h.1) ?_
  exact sb_eq (by rw [gls_0 (by simpa using h1)] <;> rfl)
 ·have h1' := h1
  try simp only [cmpB, Z] at h1
  have hb : powB xs = true := by simpa using h1
  have hp0 := powB_pos hb
  have hn0 := hn hb
  refine J_skip ?_
  refine zC ?_
  refine J_to (To.emps 1) ?_
  refine zF (zG [] (
    .n (zA (Lk.t rfl)) <|
    .n (zA (Lk.t rfl)) <|
    .w 0 (op_callF 0 (rsclF_ok (by omega) (by omega) (by omega)) ⟨(Lk.t rfl), (Lk.t rfl),  trivial⟩ rfl) <|
    .n (op_move_ve rfl rfl) <|
    .n (op_ve 21 25 rfl rfl rfl (fun f => op_extract (Lk.t rfl) rfl) (fun f g h => by first | rfl | rw [h 24 (show 24 ∈ [24] from by decide)]) rfl) <|
    .n (op_ve 21 26 rfl rfl rfl (fun f => op_extract (Lk.t rfl) rfl) (fun f g h => by first | rfl | rw [h 24 (show 24 ∈ [24] from by decide)]) rfl) <|
    .n (op_assign_ve rfl rfl) <|
    .n (op_assign_ve rfl rfl) <| .nil) ff rfl fun g5 => ⟨_, _, [0], rfl, (.cons 5 rfl <| .cons 7 rfl <| .cons 8 rfl <| .nil), (.cons 0 rfl <| .nil), ?_⟩)
  refine zC ?_
  refine zF (zG [] (
    .n (zA (Lk.t rfl)) <|
    .n (zB (Lk.t rfl)) <| .nil) ff rfl fun g6 => ⟨_, _, [0], rfl, (.cons 5 rfl <| .cons 7 rfl <| .cons 8 rfl <| .cons 9 rfl <| .nil), (.cons 0 rfl <| .nil), ?_⟩)
  refine zC ?_
  refine zF ?_
  refine zF (zG [] (
    .n (zA (Lk.t rfl)) <|
    .r 0 (op_index_som 0 sl26 (Lk.t rfl) (Lk.k rfl) rfl (by omega) (by omega)) <|
    .r 0 (op_get_som 0 0 sc36 (Lk.t rfl) rfl (by omega)) <|
    .n (zP (sbit_ok hn0) ⟨(Lk.t rfl),  trivial⟩) <|
    .n (op_not (Lk.t rfl)) <| .nil) ff rfl fun g7 => ⟨_, _, [0], rfl, (.cons 5 rfl <| .cons 7 rfl <| .cons 8 rfl <| .cons 9 rfl <| .cons 32 rfl <| .nil), (.cons 0 rfl <| .nil), ?_⟩)
  refine zC ?_
  refine zH (zK (Lk.t rfl)) (fun h2 => ?_) (fun h2 => ?_)
  ·have h2' := h2
   try simp only [cmpB, Z] at h2
   refine (zG [] (
     .n (zA (Lk.t rfl)) <|
     .n (op_negf (Lk.t rfl)) <|
     .n (zB (Lk.t rfl)) <| .nil) ff rfl fun g8 => ⟨_, _, [0], rfl, (.cons 5 rfl <| .cons 7 rfl <| .cons 8 rfl <| .cons 9 rfl <| .nil), (.cons 0 rfl <| .nil), ?_⟩)
   refine zC ?_
   refine zF (zG [] (
     .n (zA (Lk.t rfl)) <|
     .n (zA (Lk.t rfl)) <|
     .n (zA (Lk.t rfl)) <|
     .r 0 (op_index_som 0 sl26 (Lk.t rfl) (Lk.k rfl) rfl (by omega) (by omega)) <|
     .r 0 (op_get_som 0 0 sc36 (Lk.t rfl) rfl (by omega)) <|
     .n (zP (abs_ok) ⟨(Lk.t rfl),  trivial⟩) <|
     .n (op_float (by simp) (Lk.t rfl) (Lk.t rfl) rfl) <|
     .n (op_float (by simp) (Lk.t rfl) (Lk.t rfl) rfl) <|
     .n (zB (Lk.t rfl)) <| .nil) ff rfl fun g9 => ⟨_, _, [0], rfl, (.cons 5 rfl <| .cons 7 rfl <| .cons 9 rfl <| .cons 10 rfl <| .nil), (.cons 0 rfl <| .nil), ?_⟩)
   refine zC ?_
   refine zF (zG [] (
     .n (zA (Lk.t rfl)) <|
     .n (zA (Lk.t rfl)) <|
     .r 0 (op_index_som 0 sl26 (Lk.t rfl) (Lk.k rfl) rfl (by omega) (by omega)) <|
     .r 0 (op_get_som 0 0 sc36 (Lk.t rfl) rfl (by omega)) <|
     .n (zA (Lk.t rfl)) <|
     .n (op_float (by simp) (Lk.t rfl) (Lk.t rfl) rfl) <|
     .r 0 (op_index_som 0 sl26 (Lk.t rfl) (Lk.k rfl) rfl (by omega) (by omega)) <|
     .w 0 (op_store_som 0 (Lk.t rfl) (Lk.t rfl) co_flp sz36 rfl (by omega)) <| .nil) ff rfl fun g10 => ⟨_, _, [0], rfl, (.cons 5 rfl <| .cons 7 rfl <| .cons 9 rfl <| .cons 10 rfl <| .nil), (.cons 0 rfl <| .nil), ?_⟩)
   refine zC ?_
   refine zF (zG [] (
     .n (zA (Lk.t rfl)) <|
     .n (zA (Lk.t rfl)) <|
     .n (zA (Lk.t rfl)) <|
     .n (zA (Lk.t rfl)) <|
     .n (zP (rtimes_ok (by omega) (by omega)) ⟨(Lk.t rfl), (Lk.t rfl),  trivial⟩) <|
     .n (zB (Lk.t rfl)) <|
     .n (zB (Lk.t rfl)) <|
     .n (zB (Lk.t rfl)) <| .nil) ff rfl fun g11 => ⟨_, _, [0], rfl, (.cons 2 rfl <| .cons 3 rfl <| .cons 4 rfl <| .nil), (.cons 0 rfl <| .nil), ?_⟩)
   refine zC ?_
   refine J_ret ?_
   refine JN_to (To.res 0 (r' := som (tp0 (g5 24)) flp (rglsL xs).v 36) rfl (res_eq (by rw [gls_n hb (by simpa using h2)]; rfl)) rfl) ?_
   refine JN_retF3 (u := (tp0 (g5 24))) 0 rfl rfl (.cons (.tmp (Lk.t rfl)) <| .cons (.tmp (Lk.t rfl)) <| .cons (.tmp (Lk.t rfl)) <| .nil) (fun v1 v2 v3 c h => h.1) ?_
   exact sb_eq (by rw [gls_n hb (by simpa using h2)] <;> rfl)
  ·have h2' := h2
   try simp only [cmpB, Z] at h2
   refine J_skip ?_
   refine zC ?_
   refine zF (zG [] (
     .n (zA (Lk.t rfl)) <|
     .n (zA (Lk.t rfl)) <|
     .n (zA (Lk.t rfl)) <|
     .r 0 (op_index_som 0 sl26 (Lk.t rfl) (Lk.k rfl) rfl (by omega) (by omega)) <|
     .r 0 (op_get_som 0 0 sc36 (Lk.t rfl) rfl (by omega)) <|
     .n (zP (abs_ok) ⟨(Lk.t rfl),  trivial⟩) <|
     .n (op_float (by simp) (Lk.t rfl) (Lk.t rfl) rfl) <|
     .n (op_float (by simp) (Lk.t rfl) (Lk.t rfl) rfl) <|
     .n (zB (Lk.t rfl)) <| .nil) ff rfl fun g12 => ⟨_, _, [0], rfl, (.cons 5 rfl <| .cons 7 rfl <| .cons 9 rfl <| .cons 10 rfl <| .nil), (.cons 0 rfl <| .nil), ?_⟩)
   refine zC ?_
   refine zF (zG [] (
     .n (zA (Lk.t rfl)) <|
     .n (zA (Lk.t rfl)) <|
     .r 0 (op_index_som 0 sl26 (Lk.t rfl) (Lk.k rfl) rfl (by omega) (by omega)) <|
     .r 0 (op_get_som 0 0 sc36 (Lk.t rfl) rfl (by omega)) <|
     .n (zA (Lk.t rfl)) <|
     .n (op_float (by simp) (Lk.t rfl) (Lk.t rfl) rfl) <|
     .r 0 (op_index_som 0 sl26 (Lk.t rfl) (Lk.k rfl) rfl (by omega) (by omega)) <|
     .w 0 (op_store_som 0 (Lk.t rfl) (Lk.t rfl) co_flp sz36 rfl (by omega)) <| .nil) ff rfl fun g13 => ⟨_, _, [0], rfl, (.cons 5 rfl <| .cons 7 rfl <| .cons 9 rfl <| .cons 10 rfl <| .nil), (.cons 0 rfl <| .nil), ?_⟩)
   refine zC ?_
   refine zF (zG [] (
     .n (zA (Lk.t rfl)) <|
     .n (zA (Lk.t rfl)) <|
     .n (zA (Lk.t rfl)) <|
     .n (zA (Lk.t rfl)) <|
     .n (zP (rtimes_ok (by omega) (by omega)) ⟨(Lk.t rfl), (Lk.t rfl),  trivial⟩) <|
     .n (zB (Lk.t rfl)) <|
     .n (zB (Lk.t rfl)) <|
     .n (zB (Lk.t rfl)) <| .nil) ff rfl fun g14 => ⟨_, _, [0], rfl, (.cons 2 rfl <| .cons 3 rfl <| .cons 4 rfl <| .nil), (.cons 0 rfl <| .nil), ?_⟩)
   refine zC ?_
   refine J_ret ?_
   refine JN_to (To.res 0 (r' := som (tp0 (g5 24)) flp (rglsL xs).v 36) rfl (res_eq (by rw [gls_s hb (by simpa using h2)]; rfl)) rfl) ?_
   refine JN_retF3 (u := (tp0 (g5 24))) 0 rfl rfl (.cons (.tmp (Lk.t rfl)) <| .cons (.tmp (Lk.t rfl)) <| .cons (.tmp (Lk.t rfl)) <| .nil) (fun v1 v2 v3 c h => h.1) ?_
   exact sb_eq (by rw [gls_s hb (by simpa using h2)] <;> rfl)
theorem rmirFN_ok {xs : List Nat} (hC : CnL xs) (h9 : xs.length ≤ 1000) (hn : powB xs = true → nanB ((sclL xs (powG xs)).getD 0 0) = true) : CtF Tryz.prog 44 [fls xs] (tp0) (fun u => tupp [isv u, flp (rglsL xs).w, flp (rglsL xs).alpha]) (fun u => som u flp (rglsL xs).v 36) := by
 refine CtF.of Tryz.func44 rfl (by kernel_rfl) rfl fun c0 => ?_
 have hrg := powG_rng xs
 have hlen := length_sclL xs (powG xs)
 refine zF (zG [] (
   .n (zB (Lk.k rfl)) <|
   .n (zB (Lk.fk rfl (by decide +kernel))) <|
   .n (zB (Lk.fk rfl (by decide +kernel))) <| .nil) ff rfl fun g1 => ⟨_, _, [], rfl, (.cons 0 rfl <| .nil), (.nil), ?_⟩)
 refine zC ?_
 refine zF (zG [] (
   .n (zA (Lk.t rfl)) <|
   .n (zP (rpow_ok (fun k => (hC k).1)) ⟨(Lk.t rfl),  trivial⟩) <|
   .n (zA (Lk.t rfl)) <|
   .n (op_extract (Lk.t rfl) rfl) <|
   .n (op_extract (Lk.t rfl) rfl) <|
   .n (zB (Lk.t rfl)) <|
   .n (zB (Lk.t rfl)) <| .nil) ff rfl fun g2 => ⟨_, _, [], rfl, (.cons 0 rfl <| .cons 5 rfl <| .cons 6 rfl <| .nil), (.nil), ?_⟩)
 refine zC ?_
 refine zF ?_
 refine zF (zG [] (
   .n (zA (Lk.t rfl)) <|
   .n (op_not (Lk.t rfl)) <| .nil) ff rfl fun g3 => ⟨_, _, [], rfl, (.cons 0 rfl <| .cons 5 rfl <| .cons 17 rfl <| .nil), (.nil), ?_⟩)
 refine zC ?_
 refine zH (zK (Lk.t rfl)) (fun h1 => ?_) (fun h1 => ?_)
 ·have h1' := h1
  try simp only [cmpB, Z] at h1
  refine J_to (To.emps 1) ?_
  refine zF (zG [] (
    .n (zA (Lk.t rfl)) <|
    .n (op_len_m sl26 (Lk.t rfl)) <|
    .w 0 (op_make_m (mk := flp) 0 0 sl26 zr36 rfl (fun _ => flp_zero) (Lk.t rfl) (Lk.t rfl) (by omega) (by omega) (by omega) (by omega) rfl) <|
    .n (op_assign_ve rfl rfl) <|
    .n (zB (Lk.fk rfl (by decide +kernel))) <|
    .n (zB (Lk.fk rfl (by decide +kernel))) <| .nil) ff rfl fun g4 => ⟨_, _, [0], rfl, (.cons 2 rfl <| .cons 3 rfl <| .cons 4 rfl <| .nil), (.cons 0 rfl <| .nil), ?_⟩)
  refine zC ?_
  refine J_ret ?_
  refine zD ?_
  refine JN_to (To.res 0 (r' := som (g4 20) flp (rglsL xs).v 36) rfl (res_eq (by rw [gls_0 (by simpa using h1)]; rfl)) rfl) ?_
  refine JN_retF3 (u := (g4 20)) 0 rfl rfl (.cons (.tmp (Lk.t rfl)) <| .cons (.tmp (Lk.t rfl)) <| .cons (.tmp (Lk.t rfl)) <| .nil) (fun v1 v2 v3 c h => h.1) ?_
  exact sb_eq (by rw [gls_0 (by simpa using h1)] <;> rfl)
 ·have h1' := h1
  try simp only [cmpB, Z] at h1
  have hb : powB xs = true := by simpa using h1
  have hp0 := powB_pos hb
  have hn0 := hn hb
  refine J_skip ?_
  refine zC ?_
  refine J_to (To.emps 1) ?_
  refine zF (zG [] (
    .n (zA (Lk.t rfl)) <|
    .n (zA (Lk.t rfl)) <|
    .w 0 (op_callF 0 (rsclF_ok (by omega) (by omega) (by omega)) ⟨(Lk.t rfl), (Lk.t rfl),  trivial⟩ rfl) <|
    .n (op_move_ve rfl rfl) <|
    .n (op_ve 21 25 rfl rfl rfl (fun f => op_extract (Lk.t rfl) rfl) (fun f g h => by first | rfl | rw [h 24 (show 24 ∈ [24] from by decide)]) rfl) <|
    .n (op_ve 21 26 rfl rfl rfl (fun f => op_extract (Lk.t rfl) rfl) (fun f g h => by first | rfl | rw [h 24 (show 24 ∈ [24] from by decide)]) rfl) <|
    .n (op_assign_ve rfl rfl) <|
    .n (op_assign_ve rfl rfl) <| .nil) ff rfl fun g5 => ⟨_, _, [0], rfl, (.cons 5 rfl <| .cons 7 rfl <| .cons 8 rfl <| .nil), (.cons 0 rfl <| .nil), ?_⟩)
  refine zC ?_
  refine zF (zG [] (
    .n (zA (Lk.t rfl)) <|
    .n (zB (Lk.t rfl)) <| .nil) ff rfl fun g6 => ⟨_, _, [0], rfl, (.cons 5 rfl <| .cons 7 rfl <| .cons 8 rfl <| .cons 9 rfl <| .nil), (.cons 0 rfl <| .nil), ?_⟩)
  refine zC ?_
  refine zF ?_
  refine zF (zG [] (
    .n (zA (Lk.t rfl)) <|
    .r 0 (op_index_som 0 sl26 (Lk.t rfl) (Lk.k rfl) rfl (by omega) (by omega)) <|
    .r 0 (op_get_som 0 0 sc36 (Lk.t rfl) rfl (by omega)) <|
    .n (zP (sbitN_ok) ⟨(Lk.t rfl),  trivial⟩) <|
    .n (op_notA (Lk.t rfl)) <| .nil) ff rfl fun g7 => ⟨_, _, [0], rfl, (.cons 5 rfl <| .cons 7 rfl <| .cons 8 rfl <| .cons 9 rfl <| .cons 32 rfl <| .nil), (.cons 0 rfl <| .nil), ?_⟩)
  refine zC ?_
  refine J_condA (Lk.t rfl) ?_ ?_
  ·skip
   refine (zG [] (
     .n (zA (Lk.t rfl)) <|
     .n (op_negf (Lk.t rfl)) <|
     .n (zB (Lk.t rfl)) <| .nil) ff rfl fun g8 => ⟨_, _, [0], rfl, (.cons 5 rfl <| .cons 7 rfl <| .cons 8 rfl <| .cons 9 rfl <| .nil), (.cons 0 rfl <| .nil), ?_⟩)
   refine zC ?_
   refine zF (zG [] (
     .n (zA (Lk.t rfl)) <|
     .n (zA (Lk.t rfl)) <|
     .n (zA (Lk.t rfl)) <|
     .r 0 (op_index_som 0 sl26 (Lk.t rfl) (Lk.k rfl) rfl (by omega) (by omega)) <|
     .r 0 (op_get_som 0 0 sc36 (Lk.t rfl) rfl (by omega)) <|
     .n (zP (abs_ok) ⟨(Lk.t rfl),  trivial⟩) <|
     .n (op_float (by simp) (Lk.t rfl) (Lk.t rfl) rfl) <|
     .n (op_float (by simp) (Lk.t rfl) (Lk.t rfl) rfl) <|
     .n (zB (Lk.t rfl)) <| .nil) ff rfl fun g9 => ⟨_, _, [0], rfl, (.cons 5 rfl <| .cons 7 rfl <| .cons 9 rfl <| .cons 10 rfl <| .nil), (.cons 0 rfl <| .nil), ?_⟩)
   refine zC ?_
   refine zF (zG [] (
     .n (zA (Lk.t rfl)) <|
     .n (zA (Lk.t rfl)) <|
     .r 0 (op_index_som 0 sl26 (Lk.t rfl) (Lk.k rfl) rfl (by omega) (by omega)) <|
     .r 0 (op_get_som 0 0 sc36 (Lk.t rfl) rfl (by omega)) <|
     .n (zA (Lk.t rfl)) <|
     .n (op_float (by simp) (Lk.t rfl) (Lk.t rfl) rfl) <|
     .r 0 (op_index_som 0 sl26 (Lk.t rfl) (Lk.k rfl) rfl (by omega) (by omega)) <|
     .w 0 (op_store_som 0 (Lk.t rfl) (Lk.t rfl) co_flp sz36 rfl (by omega)) <| .nil) ff rfl fun g10 => ⟨_, _, [0], rfl, (.cons 5 rfl <| .cons 7 rfl <| .cons 9 rfl <| .cons 10 rfl <| .nil), (.cons 0 rfl <| .nil), ?_⟩)
   refine zC ?_
   refine zF (zG [] (
     .n (zA (Lk.t rfl)) <|
     .n (zA (Lk.t rfl)) <|
     .n (zA (Lk.t rfl)) <|
     .n (zA (Lk.t rfl)) <|
     .n (zP (rtimes_ok (by omega) (by omega)) ⟨(Lk.t rfl), (Lk.t rfl),  trivial⟩) <|
     .n (zB (Lk.t rfl)) <|
     .n (zB (Lk.t rfl)) <|
     .n (zB (Lk.t rfl)) <| .nil) ff rfl fun g11 => ⟨_, _, [0], rfl, (.cons 2 rfl <| .cons 3 rfl <| .cons 4 rfl <| .nil), (.cons 0 rfl <| .nil), ?_⟩)
   refine zC ?_
   refine J_ret ?_
   refine JN_to (To.res 0 (r' := som (tp0 (g5 24)) flp (rglsL xs).v 36) rfl (res_eq (by rw [gls_nan hC hb hn0, scl_nan hp0 hn0, fneg_nan]; rfl)) rfl) ?_
   refine JN_retF3 (u := (tp0 (g5 24))) 0 rfl rfl (.cons (.tmp (Lk.t rfl)) <| .cons (.tmp (Lk.t rfl)) <| .cons (.tmp (Lk.t rfl)) <| .nil) (fun v1 v2 v3 c h => h.1) ?_
   exact sb_eq (by rw [gls_nan hC hb hn0, scl_nan hp0 hn0]; rw [fneg_nan] <;> rfl)
  ·skip
   refine J_skip ?_
   refine zC ?_
   refine zF (zG [] (
     .n (zA (Lk.t rfl)) <|
     .n (zA (Lk.t rfl)) <|
     .n (zA (Lk.t rfl)) <|
     .r 0 (op_index_som 0 sl26 (Lk.t rfl) (Lk.k rfl) rfl (by omega) (by omega)) <|
     .r 0 (op_get_som 0 0 sc36 (Lk.t rfl) rfl (by omega)) <|
     .n (zP (abs_ok) ⟨(Lk.t rfl),  trivial⟩) <|
     .n (op_float (by simp) (Lk.t rfl) (Lk.t rfl) rfl) <|
     .n (op_float (by simp) (Lk.t rfl) (Lk.t rfl) rfl) <|
     .n (zB (Lk.t rfl)) <| .nil) ff rfl fun g12 => ⟨_, _, [0], rfl, (.cons 5 rfl <| .cons 7 rfl <| .cons 9 rfl <| .cons 10 rfl <| .nil), (.cons 0 rfl <| .nil), ?_⟩)
   refine zC ?_
   refine zF (zG [] (
     .n (zA (Lk.t rfl)) <|
     .n (zA (Lk.t rfl)) <|
     .r 0 (op_index_som 0 sl26 (Lk.t rfl) (Lk.k rfl) rfl (by omega) (by omega)) <|
     .r 0 (op_get_som 0 0 sc36 (Lk.t rfl) rfl (by omega)) <|
     .n (zA (Lk.t rfl)) <|
     .n (op_float (by simp) (Lk.t rfl) (Lk.t rfl) rfl) <|
     .r 0 (op_index_som 0 sl26 (Lk.t rfl) (Lk.k rfl) rfl (by omega) (by omega)) <|
     .w 0 (op_store_som 0 (Lk.t rfl) (Lk.t rfl) co_flp sz36 rfl (by omega)) <| .nil) ff rfl fun g13 => ⟨_, _, [0], rfl, (.cons 5 rfl <| .cons 7 rfl <| .cons 9 rfl <| .cons 10 rfl <| .nil), (.cons 0 rfl <| .nil), ?_⟩)
   refine zC ?_
   refine zF (zG [] (
     .n (zA (Lk.t rfl)) <|
     .n (zA (Lk.t rfl)) <|
     .n (zA (Lk.t rfl)) <|
     .n (zA (Lk.t rfl)) <|
     .n (zP (rtimes_ok (by omega) (by omega)) ⟨(Lk.t rfl), (Lk.t rfl),  trivial⟩) <|
     .n (zB (Lk.t rfl)) <|
     .n (zB (Lk.t rfl)) <|
     .n (zB (Lk.t rfl)) <| .nil) ff rfl fun g14 => ⟨_, _, [0], rfl, (.cons 2 rfl <| .cons 3 rfl <| .cons 4 rfl <| .nil), (.cons 0 rfl <| .nil), ?_⟩)
   refine zC ?_
   refine J_ret ?_
   refine JN_to (To.res 0 (r' := som (tp0 (g5 24)) flp (rglsL xs).v 36) rfl (res_eq (by rw [gls_nan hC hb hn0, scl_nan hp0 hn0]; rfl)) rfl) ?_
   refine JN_retF3 (u := (tp0 (g5 24))) 0 rfl rfl (.cons (.tmp (Lk.t rfl)) <| .cons (.tmp (Lk.t rfl)) <| .cons (.tmp (Lk.t rfl)) <| .nil) (fun v1 v2 v3 c h => h.1) ?_
   exact sb_eq (by rw [gls_nan hC hb hn0, scl_nan hp0 hn0] <;> rfl)
theorem rmirF_ok {xs : List Nat} (hC : CnL xs) (h9 : xs.length ≤ 1000) : CtF Tryz.prog 44 [fls xs] tp0 (fun u => tupp [isv u, flp (rglsL xs).w, flp (rglsL xs).alpha]) (fun u => som u flp (rglsL xs).v 36) := by
 cases h : nanB ((sclL xs (powG xs)).getD 0 0)
 ·exact rmirFA_ok hC h9 fun _ => h
 ·exact rmirFN_ok hC h9 fun _ => h
theorem rmird_ok {a v : List Nat} {w : Nat} (hl : a.length ≤ v.length) (h9 : a.length ≤ 1000) : Ct Tryz.prog 45 [fls a, fls v, flp w] (fls (mirG v (fdiv (dotL a v) w) a)) := by
 refine Ct.of Tryz.func45 rfl (by kernel_rfl) rfl fun c0 => ?_
 have hml := length_mirG v (fdiv (dotL a v) w) a
 refine zF (zG [] (
   .n (zB (Lk.k rfl)) <| .nil) ff rfl fun g1 => ⟨_, _, [], rfl, (.cons 0 rfl <| .cons 1 rfl <| .cons 2 rfl <| .nil), (.nil), ?_⟩)
 refine zC ?_
 refine zF (zG [] (
   .n (zA (Lk.t rfl)) <|
   .n (zA (Lk.t rfl)) <|
   .n (zP (rdot_ok hl) ⟨(Lk.t rfl), (Lk.t rfl),  trivial⟩) <|
   .n (zA (Lk.t rfl)) <|
   .n (op_float (by simp) (Lk.t rfl) (Lk.t rfl) rfl) <|
   .n (zB (Lk.t rfl)) <| .nil) ff rfl fun g2 => ⟨_, _, [], rfl, (.cons 0 rfl <| .cons 1 rfl <| .cons 7 rfl <| .nil), (.nil), ?_⟩)
 refine zC ?_
 refine zF (zG [] (
   .n (zB (Lk.k rfl)) <| .nil) ff rfl fun g3 => ⟨_, _, [], rfl, (.cons 0 rfl <| .cons 1 rfl <| .cons 7 rfl <| .cons 8 rfl <| .nil), (.nil), ?_⟩)
 refine zC ?_
 refine zF ?_
 refine zF (zG [] (
   .n (zB (Lk.k rfl)) <| .nil) ff rfl fun g4 => ⟨_, _, [], rfl, (.cons 0 rfl <| .cons 1 rfl <| .cons 7 rfl <| .cons 8 rfl <| .cons 9 rfl <| .nil), (.nil), ?_⟩)
 refine zC ?_
 refine zT ?_
 refine J_to (To.emps 1) ?_
 refine J_loopc (α := Nat × Value) (fun x => x.1 ≤ a.length) (fun x => a.length - x.1) (fun x restR => (9, isv (.int .i64 (x.1 : Int))) :: (8, isv x.2) :: restR) (fun x restS => som x.2 flp ((mirG v (fdiv (dotL a v) w) a).take x.1) 36 :: restS) (ρc := [(0, _), (1, _), (7, _)]) (σc := []) (0, .slice none 0 0) (by exact Nat.zero_le _) (To.pick (fun _ => .sub (t := 9) rfl (sp_eq (by rfl)) <| .sub (t := 8) rfl (sp_eq (by rfl)) <| .cons 0 rfl <| .cons 1 rfl <| .cons 7 rfl <| .nil) (fun _ => .sub 0 rfl (som_nil) <| .nil) (ks := [0]) rfl) (fun x hI => ?_)
 obtain ⟨j, sv⟩ := x
 try simp only at hI
 show J _ _ ((9, isv (.int .i64 (j : Int))) :: (8, isv sv) :: _) (som sv flp ((mirG v (fdiv (dotL a v) w) a).take j) 36 :: _) _ _
 have hjl : ((mirG v (fdiv (dotL a v) w) a).take j).length ≤ 1000 := by rw [List.length_take, hml]; omega
 refine zF ?_
 refine zF (zG [] (
   .n (zA (Lk.t rfl)) <|
   .n (zA (Lk.t rfl)) <|
   .n (op_len_m sl26 (Lk.t rfl)) <|
   .n (op_cmp (by simp) (Lk.t rfl) (Lk.t rfl) rfl) <| .nil) ff rfl fun g5 => ⟨_, _, [0], rfl, (.cons 0 rfl <| .cons 1 rfl <| .cons 7 rfl <| .cons 8 rfl <| .cons 9 rfl <| .cons 18 rfl <| .nil), (.cons 0 rfl <| .nil), ?_⟩)
 refine zC ?_
 refine zH (zK (Lk.t rfl)) (fun h1 => ?_) (fun h1 => ?_)
 ·have h1' := h1
  try simp only [cmpB, Z] at h1
  refine J_skip ?_
  refine zC ?_
  refine zF ?_
  refine zT ?_
  refine (zG [[], [], [], [1, 2], [1, 2, 3], [], [], [], [6, 7], [6, 7, 8], [5, 6, 7, 8, 9], [1, 2, 3, 4, 5, 6, 7, 8, 9, 10], [1, 2, 3, 4, 5, 6, 7, 8, 9, 10, 11], [0, 1, 2, 3, 4, 5, 6, 7, 8, 9, 10, 11, 12], [0, 1, 2, 3, 4, 5, 6, 7, 8, 9, 10, 11, 12, 13]] (
    .n (zA (Lk.t rfl)) <|
    .n (zA (Lk.t rfl)) <|
    .n (zA (Lk.t rfl)) <|
    .n (op_index_m 0 sl26 (Lk.t rfl) (Lk.t rfl) (by omega) (by omega)) <|
    .n (op_load_sc sc36 (Lk.t rfl) rfl) <|
    .n (zA (Lk.t rfl)) <|
    .n (zA (Lk.t rfl)) <|
    .n (zA (Lk.t rfl)) <|
    .n (op_index_m 0 sl26 (Lk.t rfl) (Lk.t rfl) (by omega) (by omega)) <|
    .n (op_load_sc sc36 (Lk.t rfl) rfl) <|
    .n (op_float (by simp) (Lk.t rfl) (Lk.t rfl) rfl) <|
    .n (op_float (by simp) (Lk.t rfl) (Lk.t rfl) rfl) <|
    .n (op_buildSlice sl26 zr36 rfl rfl rfl rfl (.cons rfl (Lk.t rfl) co_flp rfl (puts_l rfl (Nat.le_of_ble_eq_true rfl)) .nil)) <|
    .w 0 (op_append_m 0 sl26 zr36 rfl (Lk.t rfl) (Lk.t rfl) rfl (by simp; omega) (by simp; omega)) <|
    .n (op_assign_ve rfl rfl) <| .nil) (fun _ => mixed) rfl fun g6 => ⟨_, _, [0], rfl, (.cons 0 rfl <| .cons 1 rfl <| .cons 7 rfl <| .cons 8 rfl <| .cons 9 rfl <| .nil), (.cons 0 rfl <| .nil), ?_⟩)
  refine zR ?_
  refine zC ?_
  refine (zG [] (
    .n (zA (Lk.t rfl)) <|
    .n (op_add (Lk.t rfl) (Lk.k rfl) (zO (by omega) (by omega))) <|
    .n (zB (Lk.t rfl)) <| .nil) ff rfl fun g7 => ⟨_, _, [0], rfl, (.cons 0 rfl <| .cons 1 rfl <| .cons 7 rfl <| .cons 8 rfl <| .cons 9 rfl <| .nil), (.cons 0 rfl <| .nil), ?_⟩)
  exact JN_again (j + 1, g6 34) (by exact (show j + 1 ≤ a.length by omega)) (by show a.length - (_ + 1) < _; omega) (To.pick (fun _ => .sub (t := 9) rfl (sp_eq (by rfl)) <| .sub (t := 8) rfl (sp_eq (by rfl)) <| .cons 0 rfl <| .cons 1 rfl <| .cons 7 rfl <| .nil) (fun _ => .sub 0 rfl ((res_eq (by rw [mirG_take (by omega)]; rfl))) <| .nil) (ks := [0]) rfl)
 ·have h1' := h1
  try simp only [cmpB, Z] at h1
  refine J_exit ?_
  refine zE ?_
  refine zE ?_
  refine zS ?_
  refine zC ?_
  refine zF (zG [] (
    .n (zA (Lk.t rfl)) <|
    .n (zB (Lk.t rfl)) <| .nil) ff rfl fun g8 => ⟨_, _, [0], rfl, (.cons 6 rfl <| .nil), (.cons 0 rfl <| .nil), ?_⟩)
  refine zC ?_
  refine J_ret ?_
  refine JN_to (To.freeze 0 (fun _ h => h) rfl frz_som rfl) ?_
  refine zQ (.cons (.tmp (Lk.t rfl)) <| .nil) (zM (sb_res1 (sb_fk 0 rfl)) ?_)
  exact ret_eq (by rw [List.take_of_length_le (by rw [hml]; omega)])
theorem tidy_ok {x : Nat} {t : Bool} : Ct Tryz.prog 48 [flp x, isv (.bool t)] (flp (tidN x t)) := by
 refine Ct.of Tryz.func48 rfl (by kernel_rfl) rfl fun c0 => ?_
 refine zF (zG [] (
   .n (zB (Lk.fk rfl (by decide +kernel))) <| .nil) ff rfl fun g1 => ⟨_, _, [], rfl, (.cons 0 rfl <| .cons 1 rfl <| .nil), (.nil), ?_⟩)
 refine zC ?_
 refine zF ?_
 refine zF (zG [] (
   .n (zA (Lk.t rfl)) <|
   .n (op_fcmp (by simp) (Lk.t rfl) (Lk.fk rfl (by decide +kernel)) rfl) <| .nil) ff rfl fun g2 => ⟨_, _, [], rfl, (.cons 0 rfl <| .cons 1 rfl <| .cons 6 rfl <| .nil), (.nil), ?_⟩)
 refine zC ?_
 refine zH (zK (Lk.t rfl)) (fun h1 => ?_) (fun h1 => ?_)
 ·have h1' := h1
  try simp only [cmpB, Z] at h1
  refine zF (zG [] (
    .n (zB (Lk.fk rfl (by decide +kernel))) <| .nil) ff rfl fun g3 => ⟨_, _, [], rfl, (.cons 4 rfl <| .nil), (.nil), ?_⟩)
  refine zC ?_
  refine J_ret ?_
  refine zD ?_
  refine zQ (.cons (.tmp (Lk.t rfl)) <| .nil) (zM (sb_res1 zL) ?_)
  exact ret_f (by unfold tidN; rw [if_pos h1'])
 ·have h1' := h1
  try simp only [cmpB, Z] at h1
  refine J_skip ?_
  refine zC ?_
  refine zF ?_
  refine zF (zG [] (
    .n (zA (Lk.t rfl)) <| .nil) ff rfl fun g4 => ⟨_, _, [], rfl, (.cons 0 rfl <| .cons 7 rfl <| .nil), (.nil), ?_⟩)
  refine zC ?_
  refine zH (zK (Lk.t rfl)) (fun h2 => ?_) (fun h2 => ?_)
  ·have h2' := h2
   try simp only [cmpB, Z] at h2
   refine zF (zG [] (
     .n (zA (Lk.t rfl)) <|
     .n (op_negf (Lk.t rfl)) <|
     .n (zB (Lk.t rfl)) <| .nil) ff rfl fun g5 => ⟨_, _, [], rfl, (.cons 4 rfl <| .nil), (.nil), ?_⟩)
   refine zC ?_
   refine J_ret ?_
   refine zD ?_
   refine zQ (.cons (.tmp (Lk.t rfl)) <| .nil) (zM (sb_res1 zL) ?_)
   exact ret_f (by unfold tidN; rw [if_neg (by rw [h1']; decide), if_pos h2])
  ·have h2' := h2
   try simp only [cmpB, Z] at h2
   refine J_skip ?_
   refine zC ?_
   refine zF (zG [] (
     .n (zA (Lk.t rfl)) <|
     .n (zB (Lk.t rfl)) <| .nil) ff rfl fun g6 => ⟨_, _, [], rfl, (.cons 4 rfl <| .nil), (.nil), ?_⟩)
   refine zC ?_
   refine J_ret ?_
   refine zQ (.cons (.tmp (Lk.t rfl)) <| .nil) (zM (sb_res1 zL) ?_)
   exact ret_f (by unfold tidN; rw [if_neg (by rw [h1']; decide), if_neg (by simp [h2])])
theorem rfit_ok {ms : List Mt} : Ct Tryz.prog 42 [slk 3 mtU ms] (isv (.int .i64 (rfitE ms))) := by
 refine Ct.of Tryz.func42 rfl (by kernel_rfl) rfl fun c0 => ?_
 refine J_lenk 0 rfl fun hlen => ?_
 refine zF (zG [] (
   .n (zB (Lk.k rfl)) <| .nil) ff rfl fun g1 => ⟨_, _, [], rfl, (.cons 0 rfl <| .nil), (.nil), ?_⟩)
 refine zC ?_
 refine zF ?_
 refine zF (zG [] (
   .n (zA (Lk.t rfl)) <|
   .n (op_len_sk sl24 (Lk.t rfl)) <|
   .n (op_cmp (by simp) (Lk.t rfl) (Lk.k rfl) rfl) <| .nil) ff rfl fun g2 => ⟨_, _, [], rfl, (.cons 0 rfl <| .cons 9 rfl <| .nil), (.nil), ?_⟩)
 refine zC ?_
 refine zH (zK (Lk.t rfl)) (fun h1 => ?_) (fun h1 => ?_)
 ·have h1' := h1
  try simp only [cmpB, Z] at h1
  refine zF (zG [] (
    .n (zB (Lk.k rfl)) <| .nil) ff rfl fun g3 => ⟨_, _, [], rfl, (.cons 2 rfl <| .nil), (.nil), ?_⟩)
  refine zC ?_
  refine J_ret ?_
  refine zD ?_
  refine zQ (.cons (.tmp (Lk.t rfl)) <| .nil) (zM (sb_res1 zL) ?_)
  exact ret_i (by unfold rfitE; rw [if_pos (by omega)])
 ·have h1' := h1
  try simp only [cmpB, Z] at h1
  have hne : ¬ ms.length = 0 := by omega
  refine J_skip ?_
  refine zC ?_
  refine zF ?_
  refine zF (zG [] (
    .n (zB (Lk.k rfl)) <| .nil) ff rfl fun g4 => ⟨_, _, [], rfl, (.cons 0 rfl <| .cons 3 rfl <| .nil), (.nil), ?_⟩)
  refine zC ?_
  refine zT ?_
  refine J_loopc (α := Nat) (fun k => k ≤ ms.length ∧ fstE (mtChk ms) = fstE ((mtChk ms).drop k)) (fun k => ms.length - k) (fun k restR => (3, isv (.int .i64 (k : Int))) :: restR) (fun k restS => restS) (ρc := [(0, _)]) (σc := []) 0 (by exact ⟨Nat.zero_le _, rfl⟩) (To.pick (fun _ => .sub (t := 3) rfl (sp_eq (by rfl)) <| .cons 0 rfl <| .nil) (fun _ => .nil) (ks := []) rfl) (fun k hI => ?_)
  refine zF ?_
  refine zF (zG [] (
    .n (zA (Lk.t rfl)) <|
    .n (zA (Lk.t rfl)) <|
    .n (op_len_sk sl24 (Lk.t rfl)) <|
    .n (op_cmp (by simp) (Lk.t rfl) (Lk.t rfl) rfl) <| .nil) ff rfl fun g5 => ⟨_, _, [], rfl, (.cons 0 rfl <| .cons 3 rfl <| .cons 13 rfl <| .nil), (.nil), ?_⟩)
  refine zC ?_
  refine zH (zK (Lk.t rfl)) (fun h2 => ?_) (fun h2 => ?_)
  ·have h2' := h2
   try simp only [cmpB, Z] at h2
   refine J_skip ?_
   refine zC ?_
   refine zF ?_
   refine zT ?_
   refine zF (zG [] (
     .n (zA (Lk.t rfl)) <|
     .n (zA (Lk.t rfl)) <|
     .n (op_index_sk (mk := mtU) mtD sl24 mtU_len (Lk.t rfl) (Lk.t rfl) (by omega) (by omega)) <|
     .n (op_load_ag ag28 (Lk.t rfl) rfl rfl) <|
     .n (zP (rchk_ok) ⟨(Lk.t rfl),  trivial⟩) <|
     .n (zB (Lk.t rfl)) <| .nil) ff rfl fun g6 => ⟨_, _, [], rfl, (.cons 0 rfl <| .cons 3 rfl <| .cons 4 rfl <| .nil), (.nil), ?_⟩)
   refine zC ?_
   refine zF (zG [] (
     .n (zA (Lk.t rfl)) <|
     .n (op_cmp (by simp) (Lk.t rfl) (Lk.k rfl) rfl) <| .nil) ff rfl fun g7 => ⟨_, _, [], rfl, (.cons 0 rfl <| .cons 3 rfl <| .cons 4 rfl <| .cons 22 rfl <| .nil), (.nil), ?_⟩)
   refine zC ?_
   refine zH (zK (Lk.t rfl)) (fun h3 => ?_) (fun h3 => ?_)
   ·have h3' := h3
    try simp only [cmpB, Z] at h3
    refine zF (zG [] (
      .n (zA (Lk.t rfl)) <|
      .n (zB (Lk.t rfl)) <| .nil) ff rfl fun g8 => ⟨_, _, [], rfl, (.cons 2 rfl <| .nil), (.nil), ?_⟩)
    refine zC ?_
    refine J_ret ?_
    refine JN_block_ret ?_
    refine zD ?_
    refine zD ?_
    refine JN_block_ret ?_
    refine zD ?_
    refine zQ (.cons (.tmp (Lk.t rfl)) <| .nil) (zM (sb_res1 zL) ?_)
    exact ret_i (rfit_2 hne (chk_bad (by omega) hI.2 h3) h3).symm
   ·have h3' := h3
    try simp only [cmpB, Z] at h3
    refine J_skip ?_
    refine zR ?_
    refine zC ?_
    refine (zG [] (
      .n (zA (Lk.t rfl)) <|
      .n (op_add (Lk.t rfl) (Lk.k rfl) (zO (by omega) (by omega))) <|
      .n (zB (Lk.t rfl)) <| .nil) ff rfl fun g9 => ⟨_, _, [], rfl, (.cons 0 rfl <| .cons 3 rfl <| .nil), (.nil), ?_⟩)
    exact JN_again (k + 1) (by exact ⟨by omega, chk_step (by omega) hI.2 (by assumption)⟩) (by omega) (To.pick (fun _ => .sub (t := 3) rfl (sp_eq (by rfl)) <| .cons 0 rfl <| .nil) (fun _ => .nil) (ks := []) rfl)
  ·have h2' := h2
   try simp only [cmpB, Z] at h2
   have hz := chk_end (show k = ms.length by omega) hI.2
   refine J_exit ?_
   refine zE ?_
   refine zE ?_
   refine zS ?_
   refine zC ?_
   refine zF (zG [] (
     .n (zB (Lk.k rfl)) <| .nil) ff rfl fun g10 => ⟨_, _, [], rfl, (.cons 0 rfl <| .cons 5 rfl <| .nil), (.nil), ?_⟩)
   refine zC ?_
   refine zF ?_
   refine zF (zG [] (
     .n (zB (Lk.k rfl)) <| .nil) ff rfl fun g11 => ⟨_, _, [], rfl, (.cons 0 rfl <| .cons 5 rfl <| .cons 6 rfl <| .nil), (.nil), ?_⟩)
   refine zC ?_
   refine zT ?_
   refine J_loopc (α := Nat) (fun k => k ≤ ms.length ∧ (ms.take k).all (fun m => decide (m.r = (ms.getD 0 mtD).r)) = true) (fun k => ms.length - k) (fun k restR => (6, isv (.int .i64 (k : Int))) :: (5, isv (.int .i64 ((min (colsTo ms k) 49 : Nat) : Int))) :: restR) (fun k restS => restS) (ρc := [(0, _)]) (σc := []) 0 (by exact ⟨Nat.zero_le _, rfl⟩) (To.pick (fun _ => .sub (t := 6) rfl (sp_eq (by rfl)) <| .sub (t := 5) rfl (sp_eq (by rfl)) <| .cons 0 rfl <| .nil) (fun _ => .nil) (ks := []) rfl) (fun k hI => ?_)
   refine zF ?_
   refine zF (zG [] (
     .n (zA (Lk.t rfl)) <|
     .n (zA (Lk.t rfl)) <|
     .n (op_len_sk sl24 (Lk.t rfl)) <|
     .n (op_cmp (by simp) (Lk.t rfl) (Lk.t rfl) rfl) <| .nil) ff rfl fun g12 => ⟨_, _, [], rfl, (.cons 0 rfl <| .cons 5 rfl <| .cons 6 rfl <| .cons 27 rfl <| .nil), (.nil), ?_⟩)
   refine zC ?_
   refine zH (zK (Lk.t rfl)) (fun h4 => ?_) (fun h4 => ?_)
   ·have h4' := h4
    try simp only [cmpB, Z] at h4
    have hck := chk_good (chk_all hz (show k < ms.length by omega))
    obtain ⟨_, _, hc0, hc1⟩ := hck.1
    have hce : (ms.getD ((k : Int)).toNat mtD).c = (ms.getD k mtD).c := rfl
    refine J_skip ?_
    refine zC ?_
    refine zF ?_
    refine zT ?_
    refine zF ?_
    refine zF (zG [[], [], [0, 1], [0, 1, 2], [0, 1, 2, 3], [], [5], [5, 6], [5, 6, 7], [0, 1, 2, 3, 4, 5, 6, 7, 8]] (
      .n (zA (Lk.t rfl)) <|
      .n (zA (Lk.t rfl)) <|
      .n (op_index_sk (mk := mtU) mtD sl24 mtU_len (Lk.t rfl) (Lk.t rfl) (by omega) (by omega)) <|
      .n (op_field_ptr fd28_0 (Lk.t rfl) rfl) <|
      .n (op_load_sc sc3 (Lk.t rfl) rfl) <|
      .n (zA (Lk.t rfl)) <|
      .n (op_index_sk (mk := mtU) mtD sl24 mtU_len (Lk.t rfl) (Lk.k rfl) (by omega) (by omega)) <|
      .n (op_field_ptr fd28_0 (Lk.t rfl) rfl) <|
      .n (op_load_sc sc3 (Lk.t rfl) rfl) <|
      .n (op_cmp (by simp) (Lk.t rfl) (Lk.t rfl) rfl) <| .nil) (fun _ => mixed) rfl fun g13 => ⟨_, _, [], rfl, (.cons 0 rfl <| .cons 5 rfl <| .cons 6 rfl <| .cons 39 rfl <| .nil), (.nil), ?_⟩)
    refine zC ?_
    refine zH (zK (Lk.t rfl)) (fun h5 => ?_) (fun h5 => ?_)
    ·have h5' := h5
     try simp only [cmpB, Z] at h5
     refine zF (zG [] (
       .n (zB (Lk.k rfl)) <| .nil) ff rfl fun g14 => ⟨_, _, [], rfl, (.cons 2 rfl <| .nil), (.nil), ?_⟩)
     refine zC ?_
     refine J_ret ?_
     refine zD ?_
     refine JN_block_ret ?_
     refine zD ?_
     refine zD ?_
     refine JN_block_ret ?_
     refine zD ?_
     refine zQ (.cons (.tmp (Lk.t rfl)) <| .nil) (zM (sb_res1 zL) ?_)
     exact ret_i (rfit_3 hne hz (all_no mtD (show k < ms.length by omega) (by simpa using h5))).symm
    ·have h5' := h5
     try simp only [cmpB, Z] at h5
     refine J_skip ?_
     refine zC ?_
     refine (zG [] (
       .n (zA (Lk.t rfl)) <|
       .n (zA (Lk.t rfl)) <|
       .n (zA (Lk.t rfl)) <|
       .n (op_index_sk (mk := mtU) mtD sl24 mtU_len (Lk.t rfl) (Lk.t rfl) (by omega) (by omega)) <|
       .n (op_field_ptr fd28_1 (Lk.t rfl) rfl) <|
       .n (op_load_sc sc3 (Lk.t rfl) rfl) <|
       .n (op_add (Lk.t rfl) (Lk.t rfl) (zO (by omega) (by omega))) <|
       .n (op_imin (Lk.t rfl) (Lk.k rfl)) <|
       .n (zB (Lk.t rfl)) <| .nil) ff rfl fun g15 => ⟨_, _, [], rfl, (.cons 0 rfl <| .cons 5 rfl <| .cons 6 rfl <| .nil), (.nil), ?_⟩)
     refine zR ?_
     refine zC ?_
     refine (zG [] (
       .n (zA (Lk.t rfl)) <|
       .n (op_add (Lk.t rfl) (Lk.k rfl) (zO (by omega) (by omega))) <|
       .n (zB (Lk.t rfl)) <| .nil) ff rfl fun g16 => ⟨_, _, [], rfl, (.cons 0 rfl <| .cons 5 rfl <| .cons 6 rfl <| .nil), (.nil), ?_⟩)
     exact JN_again (k + 1) (by exact ⟨by omega, all_take mtD (by omega) hI.2 (by simpa using h5)⟩) (by omega) (To.pick (fun _ => .sub (t := 6) rfl (sp_eq (by rfl)) <| .sub (t := 5) rfl (sp_eq (by exact congrArg (fun z => isv (.int .i64 z)) (by show _ = ((min (colsTo ms k + (ms.getD k mtD).c.toNat) 49 : Nat) : Int); omega))) <| .cons 0 rfl <| .nil) (fun _ => .nil) (ks := []) rfl)
   ·have h4' := h4
    try simp only [cmpB, Z] at h4
    refine J_exit ?_
    refine zE ?_
    refine zE ?_
    refine zS ?_
    refine zC ?_
    refine zF (zG [] (
      .n (zA (Lk.t rfl)) <|
      .n (op_cmp (by simp) (Lk.t rfl) (Lk.k rfl) rfl) <|
      .n (zP (rif_ok) ⟨(Lk.t rfl), (Lk.k rfl),  trivial⟩) <|
      .n (zB (Lk.t rfl)) <| .nil) ff rfl fun g17 => ⟨_, _, [], rfl, (.cons 2 rfl <| .nil), (.nil), ?_⟩)
    refine zC ?_
    refine J_ret ?_
    refine zQ (.cons (.tmp (Lk.t rfl)) <| .nil) (zM (sb_res1 zL) ?_)
    exact ret_i (rfit_4 hne hz (all_whole (show ms.length ≤ k by omega) hI.2) (by rw [show ms.length = k by omega])).symm
theorem rbesF_ok {ms : List Mt} {n : Int} (h : BesOk ms n) (hsh : shpB ms = true) : CtF Tryz.prog 43 [slk 3 mtU ms] (id) (fun u => isv u) (fun u => rowsR u (besL ms n.toNat) 26 36) := by
 refine CtF.of Tryz.func43 rfl (by kernel_rfl) rfl fun c0 => ?_
 refine J_lenk 0 rfl fun hlen => ?_
 have hr := h.hr
 have hr2 : (ms.getD ((0 : Int)).toNat mtD).r = n := hr
 have hgs := (h.hg 0 h.h0).1
 obtain ⟨hn0, hn12, _, _⟩ := hgs
 have h0 := h.h0
 have hc48 := h.hc
 refine zF (zG [] (
   .n (zB (Lk.k rfl)) <| .nil) ff rfl fun g1 => ⟨_, _, [], rfl, (.cons 0 rfl <| .nil), (.nil), ?_⟩)
 refine zC ?_
 refine J_to (To.emps 1) ?_
 refine zF (zG [] (
   .n (zA (Lk.t rfl)) <|
   .n (op_index_sk (mk := mtU) mtD sl24 mtU_len (Lk.t rfl) (Lk.k rfl) (by omega) (by omega)) <|
   .n (op_field_ptr fd28_0 (Lk.t rfl) rfl) <|
   .n (op_load_sc sc3 (Lk.t rfl) rfl) <|
   .w 0 (op_make_m (mk := isv) (.slice none 0 0) 0 sl76 zr26 rfl (fun _ => ⟨rfl, rfl⟩) (Lk.t rfl) (Lk.t rfl) (by omega) (by omega) (by omega) (by omega) rfl) <|
   .n (op_assign_ve rfl rfl) <| .nil) ff rfl fun g2 => ⟨_, _, [0], rfl, (.cons 0 rfl <| .cons 3 rfl <| .nil), (.cons 0 rfl <| .nil), ?_⟩)
 refine zC ?_
 refine zF ?_
 refine J_to (To.emps 1) ?_
 refine J_to (To.res 1 (r' := pool 0 (fun _ => Go.Bn.emp)) rfl pool_nil rfl) ?_
 refine zF (zG [] (
   .n (zB (Lk.k rfl)) <| .nil) ff rfl fun g3 => ⟨_, _, [0, 1], rfl, (.cons 0 rfl <| .cons 3 rfl <| .cons 4 rfl <| .nil), (.cons 0 rfl <| .cons 1 rfl <| .nil), ?_⟩)
 refine zC ?_
 refine zT ?_
 refine J_loopc (α := Nat × List Value) (fun x => x.1 ≤ n.toNat ∧ x.2.length = n.toNat ∧ ∀ j, x.1 ≤ j → x.2.getD j NILV = NILV) (fun x => n.toNat - x.1) (fun x restR => (4, isv (.int .i64 (x.1 : Int))) :: restR) (fun x restS => som (g2 10) isv x.2 26 :: pool x.1 (fun j => som (x.2.getD j NILV) flp (besRow ms n.toNat j) 36) :: restS) (ρc := [(0, _), (3, _)]) (σc := []) (0, List.replicate n.toNat NILV) (by exact ⟨Nat.zero_le _, by simp, fun j _ => by simp [List.getD, List.getElem?_replicate]; split <;> rfl⟩) (To.pick (fun _ => .sub (t := 4) rfl (sp_eq (by rfl)) <| .cons 0 rfl <| .cons 3 rfl <| .nil) (fun _ => .sub 0 rfl ((res_eq (by rw [show ms.getD ((0 : Int)).toNat mtD = ms.getD 0 mtD from rfl, hr]))) <| .sub 1 rfl ((pool_congr fun j hj => absurd hj (Nat.not_lt_zero j))) <| .nil) (ks := [0, 1]) rfl) (fun x hI => ?_)
 obtain ⟨i, vs⟩ := x
 try simp only at hI
 show J _ _ ((4, isv (.int .i64 (i : Int))) :: _) (som (g2 10) isv vs 26 :: pool i (fun j => som (vs.getD j NILV) flp (besRow ms n.toNat j) 36) :: _) _ _
 have hvl := hI.2.1
 refine zF ?_
 refine zF (zG [] (
   .n (zA (Lk.t rfl)) <|
   .n (zA (Lk.t rfl)) <|
   .r 0 (op_len_som 0 sl76 (Lk.t rfl) rfl) <|
   .n (op_cmp (by simp) (Lk.t rfl) (Lk.t rfl) rfl) <| .nil) ff rfl fun g4 => ⟨_, _, [0, 1], rfl, (.cons 0 rfl <| .cons 3 rfl <| .cons 4 rfl <| .cons 14 rfl <| .nil), (.cons 0 rfl <| .cons 1 rfl <| .nil), ?_⟩)
 refine zC ?_
 refine zH (zK (Lk.t rfl)) (fun h1 => ?_) (fun h1 => ?_)
 ·have h1' := h1
  try simp only [cmpB, Z] at h1
  refine J_skip ?_
  refine zC ?_
  refine zF ?_
  refine zT ?_
  refine zF ?_
  refine J_to (To.emps 1) ?_
  refine J_to (To.res 2 (r' := som (.slice none 0 0) flp [] 36) rfl som_nil rfl) ?_
  refine zF (zG [] (
    .n (zB (Lk.k rfl)) <| .nil) ff rfl fun g5 => ⟨_, _, [0, 1, 2], rfl, (.cons 0 rfl <| .cons 3 rfl <| .cons 4 rfl <| .cons 5 rfl <| .nil), (.cons 0 rfl <| .cons 1 rfl <| .cons 2 rfl <| .nil), ?_⟩)
  refine zC ?_
  refine zT ?_
  refine J_loopc (α := Nat × Value) (fun y => y.1 ≤ ms.length) (fun y => ms.length - y.1) (fun y restR => (5, isv (.int .i64 (y.1 : Int))) :: restR) (fun y restS => som (g2 10) isv (vs.set i y.2) 26 :: som y.2 flp (besTo ms i y.1) 36 :: restS) (ρc := [(0, _), (3, _), (4, _)]) (σc := [_]) (0, NILV) (by exact Nat.zero_le _) (To.pick (fun _ => .sub (t := 5) rfl (sp_eq (by rfl)) <| .cons 0 rfl <| .cons 3 rfl <| .cons 4 rfl <| .nil) (fun _ => .sub 0 rfl ((res_eq (by rw [vset_same (hI.2.2 i (Nat.le_refl _)) (by omega)]))) <| .sub 2 rfl ((fun _ _ h => h)) <| .cons 1 rfl <| .nil) (ks := [0, 2, 1]) rfl) (fun y hJ => ?_)
  obtain ⟨k, sv⟩ := y
  try simp only at hJ
  show J _ _ ((5, isv (.int .i64 (k : Int))) :: _) (som (g2 10) isv (vs.set i sv) 26 :: som sv flp (besTo ms i k) 36 :: _) _ _
  have hsl : (vs.set i sv).length = n.toNat := by rw [List.length_set]; exact hvl
  refine zF ?_
  refine zF (zG [] (
    .n (zA (Lk.t rfl)) <|
    .n (zA (Lk.t rfl)) <|
    .n (op_len_sk sl24 (Lk.t rfl)) <|
    .n (op_cmp (by simp) (Lk.t rfl) (Lk.t rfl) rfl) <| .nil) ff rfl fun g6 => ⟨_, _, [0, 1, 2], rfl, (.cons 0 rfl <| .cons 3 rfl <| .cons 4 rfl <| .cons 5 rfl <| .cons 20 rfl <| .nil), (.cons 0 rfl <| .cons 1 rfl <| .cons 2 rfl <| .nil), ?_⟩)
  refine zC ?_
  refine zH (zK (Lk.t rfl)) (fun h2 => ?_) (fun h2 => ?_)
  ·have h2' := h2
   try simp only [cmpB, Z] at h2
   have hgk : Good n (ms.getD ((k : Int)).toNat mtD).c (ms.getD ((k : Int)).toNat mtD).a := h.hg k (by omega)
   have hkr : (ms.getD ((k : Int)).toNat mtD).r = n := (shp_r hsh (show k < ms.length by omega)).trans hr
   have hgr : Good (ms.getD ((k : Int)).toNat mtD).r (ms.getD ((k : Int)).toNat mtD).c (ms.getD ((k : Int)).toNat mtD).a := by rw [hkr]; exact hgk
   have hbl := length_besTo ms i k
   have hbm := colsTo_le ms (show k ≤ ms.length by omega)
   obtain ⟨_, _, hkc0, hkc1⟩ := hgk.1
   have hrl := @length_rowL (ms.getD ((k : Int)).toNat mtD).c (ms.getD ((k : Int)).toNat mtD).a (i : Int)
   refine J_skip ?_
   refine zC ?_
   refine zF ?_
   refine zT ?_
   refine (zG [[], [], [], [], [2, 3], [2, 3, 4], [], [], [6, 7], [6, 7, 8], [], [6, 7, 8, 9, 10], [2, 3, 4, 5, 6, 7, 8, 9, 10, 11], [0, 1, 2, 3, 4, 5, 6, 7, 8, 9, 10, 11, 12], [0, 1, 2, 3, 4, 5, 6, 7, 8, 9, 10, 11, 12, 13]] (
     .n (zA (Lk.t rfl)) <|
     .n (zA (Lk.t rfl)) <|
     .n (zA (Lk.t rfl)) <|
     .n (zA (Lk.t rfl)) <|
     .r 0 (op_index_som 0 sl76 (Lk.t rfl) (Lk.t rfl) rfl (by omega) (by omega)) <|
     .r 0 ((op_get_som (mk := isv) (.slice none 0 0) 0 sc26 (Lk.t rfl) rfl (by rw [List.length_set]; omega)).sub rfl (isv_eq (by exact vset_at (by omega)))) <|
     .n (zA (Lk.t rfl)) <|
     .n (zA (Lk.t rfl)) <|
     .n (op_index_sk (mk := mtU) mtD sl24 mtU_len (Lk.t rfl) (Lk.t rfl) (by omega) (by omega)) <|
     .n (op_load_ag ag28 (Lk.t rfl) rfl rfl) <|
     .n (zA (Lk.t rfl)) <|
     .n (zP (rrow_ok hgr (by omega) (by omega)) ⟨(Lk.t rfl), (Lk.t rfl),  trivial⟩) <|
     .w 1 (op_append_ms 1 sl26 zr36 rfl (Lk.t rfl) (Lk.t rfl) rfl (by rw [hbl, hrl]; omega) (by rw [hbl, hrl]; omega)) <|
     .r 0 (op_index_som 0 sl76 (Lk.t rfl) (Lk.t rfl) rfl (by omega) (by omega)) <|
     .w 0 (op_ver 35 rfl rfl (fun f => op_store_som (mk := isv) 0 (Lk.t rfl) (Lk.t rfl) co_isv sz26 rfl (by rw [List.length_set]; omega)) (fun f g h => by rw [h 35 (show 35 ∈ [35] from by decide)]) rfl) <| .nil) (fun _ => mixed) rfl fun g7 => ⟨_, _, [0, 1, 2], rfl, (.cons 0 rfl <| .cons 3 rfl <| .cons 4 rfl <| .cons 5 rfl <| .nil), (.cons 0 rfl <| .cons 1 rfl <| .cons 2 rfl <| .nil), ?_⟩)
   refine zR ?_
   refine zC ?_
   refine (zG [] (
     .n (zA (Lk.t rfl)) <|
     .n (op_add (Lk.t rfl) (Lk.k rfl) (zO (by omega) (by omega))) <|
     .n (zB (Lk.t rfl)) <| .nil) ff rfl fun g8 => ⟨_, _, [0, 1, 2], rfl, (.cons 0 rfl <| .cons 3 rfl <| .cons 4 rfl <| .cons 5 rfl <| .nil), (.cons 0 rfl <| .cons 1 rfl <| .cons 2 rfl <| .nil), ?_⟩)
   exact JN_again (k + 1, (g7 35)) (by exact (show k + 1 ≤ _ by omega)) (by show ms.length - (_ + 1) < _; omega) (To.pick (fun _ => .sub (t := 5) rfl (sp_eq (by rfl)) <| .cons 0 rfl <| .cons 3 rfl <| .cons 4 rfl <| .nil) (fun _ => .sub 0 rfl ((res_eq (by show som _ isv ((vs.set i sv).set i _) _ = som _ isv (vs.set i _) _; rw [List.set_set]))) <| .sub 1 rfl ((fun _ _ h => h)) <| .cons 2 rfl <| .nil) (ks := [0, 1, 2]) rfl)
  ·have h2' := h2
   try simp only [cmpB, Z] at h2
   have hbl := length_besTo ms i ms.length
   refine J_exit ?_
   refine zE ?_
   refine zE ?_
   refine zS ?_
   refine zC ?_
   refine zT ?_
   refine J_loopc (α := Nat × Value) (fun z => z.1 ≤ n.toNat - (besTo ms i ms.length).length) (fun z => n.toNat - (besTo ms i ms.length).length - z.1) (fun z restR => restR) (fun z restS => som (g2 10) isv (vs.set i z.2) 26 :: som z.2 flp (besTo ms i ms.length ++ List.replicate z.1 0) 36 :: restS) (ρc := [(0, _), (3, _), (4, _)]) (σc := [_]) (0, sv) (by exact Nat.zero_le _) (To.pick (fun _ => .cons 0 rfl <| .cons 3 rfl <| .cons 4 rfl <| .nil) (fun _ => .sub 0 rfl ((fun _ _ h => h)) <| .sub 1 rfl ((res_eq (by rw [show k = ms.length by omega, List.replicate_zero, List.append_nil]))) <| .cons 2 rfl <| .nil) (ks := [0, 1, 2]) rfl) (fun z hQ => ?_)
   obtain ⟨q, tv⟩ := z
   try simp only at hQ
   show J _ _ (_) (som (g2 10) isv (vs.set i tv) 26 :: som tv flp (besTo ms i ms.length ++ List.replicate q 0) 36 :: _) _ _
   have hsl2 : (vs.set i tv).length = n.toNat := by rw [List.length_set]; exact hvl
   refine zF ?_
   refine zF (zG [] (
     .n (zA (Lk.t rfl)) <|
     .n (zA (Lk.t rfl)) <|
     .r 0 (op_index_som 0 sl76 (Lk.t rfl) (Lk.t rfl) rfl (by omega) (by omega)) <|
     .r 0 ((op_get_som (mk := isv) (.slice none 0 0) 0 sc26 (Lk.t rfl) rfl (by rw [List.length_set]; omega)).sub rfl (isv_eq (by exact vset_at (by omega)))) <|
     .r 1 (op_len_som 1 sl26 (Lk.t rfl) rfl) <|
     .n (zA (Lk.t rfl)) <|
     .r 0 (op_len_som 0 sl76 (Lk.t rfl) rfl) <|
     .n (op_cmp (by simp) (Lk.t rfl) (Lk.t rfl) rfl) <| .nil) ff rfl fun g9 => ⟨_, _, [0, 1, 2], rfl, (.cons 0 rfl <| .cons 3 rfl <| .cons 4 rfl <| .cons 44 rfl <| .nil), (.cons 0 rfl <| .cons 1 rfl <| .cons 2 rfl <| .nil), ?_⟩)
   refine zC ?_
   refine zH (zK (Lk.t rfl)) (fun h3 => ?_) (fun h3 => ?_)
   ·have h3' := h3
    try simp only [cmpB, Z] at h3
    have hbl2 : (besTo ms i ms.length ++ List.replicate q 0).length = colsTo ms ms.length + q := by rw [List.length_append, List.length_replicate, hbl]
    refine J_skip ?_
    refine zC ?_
    refine zT ?_
    refine (zG [] (
      .n (zA (Lk.t rfl)) <|
      .n (zA (Lk.t rfl)) <|
      .n (zA (Lk.t rfl)) <|
      .n (zA (Lk.t rfl)) <|
      .r 0 (op_index_som 0 sl76 (Lk.t rfl) (Lk.t rfl) rfl (by omega) (by omega)) <|
      .r 0 ((op_get_som (mk := isv) (.slice none 0 0) 0 sc26 (Lk.t rfl) rfl (by rw [List.length_set]; omega)).sub rfl (isv_eq (by exact vset_at (by omega)))) <|
      .n (op_buildSlice sl26 zr36 rfl rfl rfl rfl (.cons rfl (Lk.fk rfl (by decide +kernel)) co_flp rfl (puts_l rfl (Nat.le_of_ble_eq_true rfl)) .nil)) <|
      .w 1 (op_append_m 1 sl26 zr36 rfl (Lk.t rfl) (Lk.t rfl) rfl (by omega) (by omega)) <|
      .r 0 (op_index_som 0 sl76 (Lk.t rfl) (Lk.t rfl) rfl (by omega) (by omega)) <|
      .w 0 (op_ver 52 rfl rfl (fun f => op_store_som (mk := isv) 0 (Lk.t rfl) (Lk.t rfl) co_isv sz26 rfl (by rw [List.length_set]; omega)) (fun f g h => by rw [h 52 (show 52 ∈ [52] from by decide)]) rfl) <| .nil) ff rfl fun g10 => ⟨_, _, [0, 1, 2], rfl, (.cons 0 rfl <| .cons 3 rfl <| .cons 4 rfl <| .nil), (.cons 0 rfl <| .cons 1 rfl <| .cons 2 rfl <| .nil), ?_⟩)
    refine zR ?_
    exact JN_again (q + 1, (g10 52)) (by exact (show q + 1 ≤ _ by omega)) (by show _ - (_ + 1) < _; omega) (To.pick (fun _ => .cons 0 rfl <| .cons 3 rfl <| .cons 4 rfl <| .nil) (fun _ => .sub 0 rfl ((res_eq (by show som _ isv ((vs.set i tv).set i _) _ = som _ isv (vs.set i _) _; rw [List.set_set]))) <| .sub 1 rfl ((res_eq (by rw [List.append_assoc, List.replicate_succ']))) <| .cons 2 rfl <| .nil) (ks := [0, 1, 2]) rfl)
   ·have h3' := h3
    try simp only [cmpB, Z] at h3
    refine J_exit ?_
    refine zE ?_
    refine zE ?_
    refine zS ?_
    refine zR ?_
    refine zC ?_
    refine J_to (To.res 1 (r' := som tv flp (besRow ms n.toNat i) 36) rfl (res_eq (by rw [bes_fill (by omega) hQ])) rfl) ?_
    refine J_to (To.push 2 1 rfl rfl rfl rfl) ?_
    refine (zG [] (
      .n (zA (Lk.t rfl)) <|
      .n (op_add (Lk.t rfl) (Lk.k rfl) (zO (by omega) (by omega))) <|
      .n (zB (Lk.t rfl)) <| .nil) ff rfl fun g11 => ⟨_, _, [0, 2], rfl, (.cons 0 rfl <| .cons 3 rfl <| .cons 4 rfl <| .nil), (.cons 0 rfl <| .cons 2 rfl <| .nil), ?_⟩)
    exact JN_again (i + 1, vs.set i tv) (by exact ⟨show i + 1 ≤ _ by omega, by rw [List.length_set]; exact hI.2.1, fun j hj => by rw [vset_ne (show i ≠ j by have : i + 1 ≤ j := hj; omega)]; exact hI.2.2 j (by have : i + 1 ≤ j := hj; omega)⟩) (by show n.toNat - (_ + 1) < _; omega) (To.pick (fun _ => .sub (t := 4) rfl (sp_eq (by rfl)) <| .cons 0 rfl <| .cons 3 rfl <| .nil) (fun _ => .sub 0 rfl ((fun _ _ h => h)) <| .sub 1 rfl ((bes_push (by omega))) <| .nil) (ks := [0, 1]) rfl)
 ·have h1' := h1
  try simp only [cmpB, Z] at h1
  refine J_exit ?_
  refine zE ?_
  refine zE ?_
  refine zS ?_
  refine zC ?_
  refine zF (zG [] (
    .n (zA (Lk.t rfl)) <|
    .n (zB (Lk.t rfl)) <| .nil) ff rfl fun g12 => ⟨_, _, [0, 1], rfl, (.cons 2 rfl <| .nil), (.cons 0 rfl <| .cons 1 rfl <| .nil), ?_⟩)
  refine zC ?_
  refine J_ret ?_
  refine JN_to (To.join 0 1 rfl rfl rfl rfl) ?_
  refine JN_to (To.res 0 (r' := rowsR (g2 10) (besL ms n.toNat) 26 36) rfl (bes_done (by omega) (by omega)) rfl) ?_
  refine JN_retF (u := (g2 10)) 0 rfl rfl (.tmp (Lk.t rfl)) (fun _ _ h => h.1) ?_
  exact zL
end Go.Proofs.YtllkellonjhalaaGreat
