/- Printed by a program of ours (walk.py): walks of the triangle of the reference. -/
import Derived.Test.YtllkellonjhalaaGreatOoKb
import Derived.Test.YtllkellonjhalaaGreatProg
import Derived.KernelRfl
import Derived.Test.YtllkellonjhalaaGreatOoTypes
import Derived.Test.YtllkellonjhalaaGreatOoWRf10
import Derived.Test.YtllkellonjhalaaGreatOoRtr
set_option linter.unusedVariables false
set_option linter.unusedSimpArgs false
set_option maxRecDepth 20000
set_option maxHeartbeats 1000000
namespace Go.Proofs.YtllkellonjhalaaGreat
open Go Go.Bn
attribute [local irreducible] OpOK
theorem rmirFA_ok {xs : List Nat} (hC : CnL xs) (h9 : xs.length ≤ 1000) (hn : powB xs = true → nanB ((sclL xs (powG xs)).getD 0 0) = false) : CtF Tryz.prog 44 [fls xs] (tp0) (fun u => tupp [isv u, flp (rglsL xs).w, flp (rglsL xs).alpha]) (fun u => som u flp (rglsL xs).v 36) := by
 refine CtF.of Tryz.func44 rfl (by kernel_rfl) rfl fun c0 => ?_
 have hrg := powG_rng xs
 have hlen := length_sclL xs (powG xs)
 refine zF (zG [] (.n (zB (.k rfl))<|.n (zB (Lk.fk rfl (by decide +kernel)))<|.n (zB (Lk.fk rfl (by decide +kernel)))<|.nil) ff rfl fun g1 => ⟨_, _, [], rfl, (.k 0 rfl<|.nil), (.nil), ?_⟩)
 refine zC<|zF (zG [] (.n (zA (.t rfl))<|.n (zP (rpow_ok (fun k => (hC k).1)) ⟨(.t rfl),  trivial⟩)<|.n (zA (.t rfl))<|.n (yJ (.t rfl) rfl)<|.n (yJ (.t rfl) rfl)<|.n (zB (.t rfl))<|.n (zB (.t rfl))<|.nil) ff rfl fun g2 => ⟨_, _, [], rfl, (.k 0 rfl<|.k 5 rfl<|.k 6 rfl<|.nil), (.nil), ?_⟩)
 refine zC<|zF<|zF (zG [] (.n (zA (.t rfl))<|.n (op_not (.t rfl))<|.nil) ff rfl fun g3 => ⟨_, _, [], rfl, (.k 0 rfl<|.k 5 rfl<|.k 17 rfl<|.nil), (.nil), ?_⟩)
 refine zC<|zH (zK (.t rfl)) (fun h1 => ?_) (fun h1 => ?_)
 ·try simp only [cmpB, Z] at h1
  refine yN (To.emps 1) ?_
  refine zF (zG [] (.n (zA (.t rfl))<|.n (yV sl26 (.t rfl))<|.w 0 (op_make_m (mk := flp) 0 0 sl26 zr36 rfl (fun _ => flp_zero) (.t rfl) (.t rfl) (by omega) (by omega) (by omega) (by omega) rfl)<|.n (yX rfl rfl)<|.n (zB (Lk.fk rfl (by decide +kernel)))<|.n (zB (Lk.fk rfl (by decide +kernel)))<|.nil) ff rfl fun g4 => ⟨_, _, [0], rfl, (.k 2 rfl<|.k 3 rfl<|.k 4 rfl<|.nil), (.k 0 rfl<|.nil), ?_⟩)
  refine zC<|yF<|zD<|JN_to (To.res 0 (r' := som (g4 20) flp (rglsL xs).v 36) rfl (yQ (by rw [gls_0 (by simpa using h1)]; rfl)) rfl) ?_
  refine JN_retF3 (u := (g4 20)) 0 rfl rfl (.cons (.tmp (.t rfl))<|.cons (.tmp (.t rfl))<|.cons (.tmp (.t rfl))<|.nil) (fun v1 v2 v3 c h => h.1) ?_
  exact sb_eq (by rw [gls_0 (by simpa using h1)] <;> rfl)
 ·try simp only [cmpB, Z] at h1
  have hb : powB xs = true := by simpa using h1
  have hp0 := powB_pos hb
  have hn0 := hn hb
  refine yE<|zC<|yN (To.emps 1) ?_
  refine zF (zG [] (.n (zA (.t rfl))<|.n (zA (.t rfl))<|.w 0 (op_callF 0 (rsclF_ok (by omega) (by omega) (by omega)) ⟨(.t rfl), (.t rfl),  trivial⟩ rfl)<|.n (op_move_ve rfl rfl)<|.n (op_ve 21 25 rfl rfl rfl (fun f => yJ (.t rfl) rfl) (fun f g h => by first | rfl | rw [h 24 (show 24 ∈ [24] from by decide)]) rfl)<|.n (op_ve 21 26 rfl rfl rfl (fun f => yJ (.t rfl) rfl) (fun f g h => by first | rfl | rw [h 24 (show 24 ∈ [24] from by decide)]) rfl)<|.n (yX rfl rfl)<|.n (yX rfl rfl)<|.nil) ff rfl fun g5 => ⟨_, _, [0], rfl, (.k 5 rfl<|.k 7 rfl<|.k 8 rfl<|.nil), (.k 0 rfl<|.nil), ?_⟩)
  refine zC<|zF (zG [] (.n (zA (.t rfl))<|.n (zB (.t rfl))<|.nil) ff rfl fun g6 => ⟨_, _, [0], rfl, (.k 5 rfl<|.k 7 rfl<|.k 8 rfl<|.k 9 rfl<|.nil), (.k 0 rfl<|.nil), ?_⟩)
  refine zC<|zF<|zF (zG [] (.n (zA (.t rfl))<|.r 0 (yH 0 sl26 (.t rfl) (.k rfl) rfl (by omega) (by omega))<|.r 0 (op_get_som 0 0 sc36 (.t rfl) rfl (by omega))<|.n (zP (sbit_ok hn0) ⟨(.t rfl),  trivial⟩)<|.n (op_not (.t rfl))<|.nil) ff rfl fun g7 => ⟨_, _, [0], rfl, (.k 5 rfl<|.k 7 rfl<|.k 8 rfl<|.k 9 rfl<|.k 32 rfl<|.nil), (.k 0 rfl<|.nil), ?_⟩)
  refine zC<|zH (zK (.t rfl)) (fun h2 => ?_) (fun h2 => ?_)
  ·try simp only [cmpB, Z] at h2
   refine (zG [] (.n (zA (.t rfl))<|.n (op_negf (.t rfl))<|.n (zB (.t rfl))<|.nil) ff rfl fun g8 => ⟨_, _, [0], rfl, (.k 5 rfl<|.k 7 rfl<|.k 8 rfl<|.k 9 rfl<|.nil), (.k 0 rfl<|.nil), ?_⟩)
   refine zC<|zF (zG [] (.n (zA (.t rfl))<|.n (zA (.t rfl))<|.n (zA (.t rfl))<|.r 0 (yH 0 sl26 (.t rfl) (.k rfl) rfl (by omega) (by omega))<|.r 0 (op_get_som 0 0 sc36 (.t rfl) rfl (by omega))<|.n (zP (abs_ok) ⟨(.t rfl),  trivial⟩)<|.n (op_float (by simp) (.t rfl) (.t rfl) rfl)<|.n (op_float (by simp) (.t rfl) (.t rfl) rfl)<|.n (zB (.t rfl))<|.nil) ff rfl fun g9 => ⟨_, _, [0], rfl, (.k 5 rfl<|.k 7 rfl<|.k 9 rfl<|.k 10 rfl<|.nil), (.k 0 rfl<|.nil), ?_⟩)
   refine zC<|zF (zG [] (.n (zA (.t rfl))<|.n (zA (.t rfl))<|.r 0 (yH 0 sl26 (.t rfl) (.k rfl) rfl (by omega) (by omega))<|.r 0 (op_get_som 0 0 sc36 (.t rfl) rfl (by omega))<|.n (zA (.t rfl))<|.n (op_float (by simp) (.t rfl) (.t rfl) rfl)<|.r 0 (yH 0 sl26 (.t rfl) (.k rfl) rfl (by omega) (by omega))<|.w 0 (op_store_som 0 (.t rfl) (.t rfl) co_flp sz36 rfl (by omega))<|.nil) ff rfl fun g10 => ⟨_, _, [0], rfl, (.k 5 rfl<|.k 7 rfl<|.k 9 rfl<|.k 10 rfl<|.nil), (.k 0 rfl<|.nil), ?_⟩)
   refine zC<|zF (zG [] (.n (zA (.t rfl))<|.n (zA (.t rfl))<|.n (zA (.t rfl))<|.n (zA (.t rfl))<|.n (zP (rtimes_ok (by omega) (by omega)) ⟨(.t rfl), (.t rfl),  trivial⟩)<|.n (zB (.t rfl))<|.n (zB (.t rfl))<|.n (zB (.t rfl))<|.nil) ff rfl fun g11 => ⟨_, _, [0], rfl, (.k 2 rfl<|.k 3 rfl<|.k 4 rfl<|.nil), (.k 0 rfl<|.nil), ?_⟩)
   refine zC<|yF<|JN_to (To.res 0 (r' := som (tp0 (g5 24)) flp (rglsL xs).v 36) rfl (yQ (by rw [gls_n hb (by simpa using h2)]; rfl)) rfl) ?_
   refine JN_retF3 (u := (tp0 (g5 24))) 0 rfl rfl (.cons (.tmp (.t rfl))<|.cons (.tmp (.t rfl))<|.cons (.tmp (.t rfl))<|.nil) (fun v1 v2 v3 c h => h.1) ?_
   exact sb_eq (by rw [gls_n hb (by simpa using h2)] <;> rfl)
  ·try simp only [cmpB, Z] at h2
   refine yE<|zC<|zF (zG [] (.n (zA (.t rfl))<|.n (zA (.t rfl))<|.n (zA (.t rfl))<|.r 0 (yH 0 sl26 (.t rfl) (.k rfl) rfl (by omega) (by omega))<|.r 0 (op_get_som 0 0 sc36 (.t rfl) rfl (by omega))<|.n (zP (abs_ok) ⟨(.t rfl),  trivial⟩)<|.n (op_float (by simp) (.t rfl) (.t rfl) rfl)<|.n (op_float (by simp) (.t rfl) (.t rfl) rfl)<|.n (zB (.t rfl))<|.nil) ff rfl fun g12 => ⟨_, _, [0], rfl, (.k 5 rfl<|.k 7 rfl<|.k 9 rfl<|.k 10 rfl<|.nil), (.k 0 rfl<|.nil), ?_⟩)
   refine zC<|zF (zG [] (.n (zA (.t rfl))<|.n (zA (.t rfl))<|.r 0 (yH 0 sl26 (.t rfl) (.k rfl) rfl (by omega) (by omega))<|.r 0 (op_get_som 0 0 sc36 (.t rfl) rfl (by omega))<|.n (zA (.t rfl))<|.n (op_float (by simp) (.t rfl) (.t rfl) rfl)<|.r 0 (yH 0 sl26 (.t rfl) (.k rfl) rfl (by omega) (by omega))<|.w 0 (op_store_som 0 (.t rfl) (.t rfl) co_flp sz36 rfl (by omega))<|.nil) ff rfl fun g13 => ⟨_, _, [0], rfl, (.k 5 rfl<|.k 7 rfl<|.k 9 rfl<|.k 10 rfl<|.nil), (.k 0 rfl<|.nil), ?_⟩)
   refine zC<|zF (zG [] (.n (zA (.t rfl))<|.n (zA (.t rfl))<|.n (zA (.t rfl))<|.n (zA (.t rfl))<|.n (zP (rtimes_ok (by omega) (by omega)) ⟨(.t rfl), (.t rfl),  trivial⟩)<|.n (zB (.t rfl))<|.n (zB (.t rfl))<|.n (zB (.t rfl))<|.nil) ff rfl fun g14 => ⟨_, _, [0], rfl, (.k 2 rfl<|.k 3 rfl<|.k 4 rfl<|.nil), (.k 0 rfl<|.nil), ?_⟩)
   refine zC<|yF<|JN_to (To.res 0 (r' := som (tp0 (g5 24)) flp (rglsL xs).v 36) rfl (yQ (by rw [gls_s hb (by simpa using h2)]; rfl)) rfl) ?_
   refine JN_retF3 (u := (tp0 (g5 24))) 0 rfl rfl (.cons (.tmp (.t rfl))<|.cons (.tmp (.t rfl))<|.cons (.tmp (.t rfl))<|.nil) (fun v1 v2 v3 c h => h.1) ?_
   exact sb_eq (by rw [gls_s hb (by simpa using h2)] <;> rfl)
theorem rmirFN_ok {xs : List Nat} (hC : CnL xs) (h9 : xs.length ≤ 1000) (hn : powB xs = true → nanB ((sclL xs (powG xs)).getD 0 0) = true) : CtF Tryz.prog 44 [fls xs] (tp0) (fun u => tupp [isv u, flp (rglsL xs).w, flp (rglsL xs).alpha]) (fun u => som u flp (rglsL xs).v 36) := by
 refine CtF.of Tryz.func44 rfl (by kernel_rfl) rfl fun c0 => ?_
 have hrg := powG_rng xs
 have hlen := length_sclL xs (powG xs)
 refine zF (zG [] (.n (zB (.k rfl))<|.n (zB (Lk.fk rfl (by decide +kernel)))<|.n (zB (Lk.fk rfl (by decide +kernel)))<|.nil) ff rfl fun g1 => ⟨_, _, [], rfl, (.k 0 rfl<|.nil), (.nil), ?_⟩)
 refine zC<|zF (zG [] (.n (zA (.t rfl))<|.n (zP (rpow_ok (fun k => (hC k).1)) ⟨(.t rfl),  trivial⟩)<|.n (zA (.t rfl))<|.n (yJ (.t rfl) rfl)<|.n (yJ (.t rfl) rfl)<|.n (zB (.t rfl))<|.n (zB (.t rfl))<|.nil) ff rfl fun g2 => ⟨_, _, [], rfl, (.k 0 rfl<|.k 5 rfl<|.k 6 rfl<|.nil), (.nil), ?_⟩)
 refine zC<|zF<|zF (zG [] (.n (zA (.t rfl))<|.n (op_not (.t rfl))<|.nil) ff rfl fun g3 => ⟨_, _, [], rfl, (.k 0 rfl<|.k 5 rfl<|.k 17 rfl<|.nil), (.nil), ?_⟩)
 refine zC<|zH (zK (.t rfl)) (fun h1 => ?_) (fun h1 => ?_)
 ·try simp only [cmpB, Z] at h1
  refine yN (To.emps 1) ?_
  refine zF (zG [] (.n (zA (.t rfl))<|.n (yV sl26 (.t rfl))<|.w 0 (op_make_m (mk := flp) 0 0 sl26 zr36 rfl (fun _ => flp_zero) (.t rfl) (.t rfl) (by omega) (by omega) (by omega) (by omega) rfl)<|.n (yX rfl rfl)<|.n (zB (Lk.fk rfl (by decide +kernel)))<|.n (zB (Lk.fk rfl (by decide +kernel)))<|.nil) ff rfl fun g4 => ⟨_, _, [0], rfl, (.k 2 rfl<|.k 3 rfl<|.k 4 rfl<|.nil), (.k 0 rfl<|.nil), ?_⟩)
  refine zC<|yF<|zD<|JN_to (To.res 0 (r' := som (g4 20) flp (rglsL xs).v 36) rfl (yQ (by rw [gls_0 (by simpa using h1)]; rfl)) rfl) ?_
  refine JN_retF3 (u := (g4 20)) 0 rfl rfl (.cons (.tmp (.t rfl))<|.cons (.tmp (.t rfl))<|.cons (.tmp (.t rfl))<|.nil) (fun v1 v2 v3 c h => h.1) ?_
  exact sb_eq (by rw [gls_0 (by simpa using h1)] <;> rfl)
 ·try simp only [cmpB, Z] at h1
  have hb : powB xs = true := by simpa using h1
  have hp0 := powB_pos hb
  have hn0 := hn hb
  refine yE<|zC<|yN (To.emps 1) ?_
  refine zF (zG [] (.n (zA (.t rfl))<|.n (zA (.t rfl))<|.w 0 (op_callF 0 (rsclF_ok (by omega) (by omega) (by omega)) ⟨(.t rfl), (.t rfl),  trivial⟩ rfl)<|.n (op_move_ve rfl rfl)<|.n (op_ve 21 25 rfl rfl rfl (fun f => yJ (.t rfl) rfl) (fun f g h => by first | rfl | rw [h 24 (show 24 ∈ [24] from by decide)]) rfl)<|.n (op_ve 21 26 rfl rfl rfl (fun f => yJ (.t rfl) rfl) (fun f g h => by first | rfl | rw [h 24 (show 24 ∈ [24] from by decide)]) rfl)<|.n (yX rfl rfl)<|.n (yX rfl rfl)<|.nil) ff rfl fun g5 => ⟨_, _, [0], rfl, (.k 5 rfl<|.k 7 rfl<|.k 8 rfl<|.nil), (.k 0 rfl<|.nil), ?_⟩)
  refine zC<|zF (zG [] (.n (zA (.t rfl))<|.n (zB (.t rfl))<|.nil) ff rfl fun g6 => ⟨_, _, [0], rfl, (.k 5 rfl<|.k 7 rfl<|.k 8 rfl<|.k 9 rfl<|.nil), (.k 0 rfl<|.nil), ?_⟩)
  refine zC<|zF<|zF (zG [] (.n (zA (.t rfl))<|.r 0 (yH 0 sl26 (.t rfl) (.k rfl) rfl (by omega) (by omega))<|.r 0 (op_get_som 0 0 sc36 (.t rfl) rfl (by omega))<|.n (zP (sbitN_ok) ⟨(.t rfl),  trivial⟩)<|.n (op_notA (.t rfl))<|.nil) ff rfl fun g7 => ⟨_, _, [0], rfl, (.k 5 rfl<|.k 7 rfl<|.k 8 rfl<|.k 9 rfl<|.k 32 rfl<|.nil), (.k 0 rfl<|.nil), ?_⟩)
  refine zC<|J_condA (.t rfl) ?_ ?_
  ·skip
   refine (zG [] (.n (zA (.t rfl))<|.n (op_negf (.t rfl))<|.n (zB (.t rfl))<|.nil) ff rfl fun g8 => ⟨_, _, [0], rfl, (.k 5 rfl<|.k 7 rfl<|.k 8 rfl<|.k 9 rfl<|.nil), (.k 0 rfl<|.nil), ?_⟩)
   refine zC<|zF (zG [] (.n (zA (.t rfl))<|.n (zA (.t rfl))<|.n (zA (.t rfl))<|.r 0 (yH 0 sl26 (.t rfl) (.k rfl) rfl (by omega) (by omega))<|.r 0 (op_get_som 0 0 sc36 (.t rfl) rfl (by omega))<|.n (zP (abs_ok) ⟨(.t rfl),  trivial⟩)<|.n (op_float (by simp) (.t rfl) (.t rfl) rfl)<|.n (op_float (by simp) (.t rfl) (.t rfl) rfl)<|.n (zB (.t rfl))<|.nil) ff rfl fun g9 => ⟨_, _, [0], rfl, (.k 5 rfl<|.k 7 rfl<|.k 9 rfl<|.k 10 rfl<|.nil), (.k 0 rfl<|.nil), ?_⟩)
   refine zC<|zF (zG [] (.n (zA (.t rfl))<|.n (zA (.t rfl))<|.r 0 (yH 0 sl26 (.t rfl) (.k rfl) rfl (by omega) (by omega))<|.r 0 (op_get_som 0 0 sc36 (.t rfl) rfl (by omega))<|.n (zA (.t rfl))<|.n (op_float (by simp) (.t rfl) (.t rfl) rfl)<|.r 0 (yH 0 sl26 (.t rfl) (.k rfl) rfl (by omega) (by omega))<|.w 0 (op_store_som 0 (.t rfl) (.t rfl) co_flp sz36 rfl (by omega))<|.nil) ff rfl fun g10 => ⟨_, _, [0], rfl, (.k 5 rfl<|.k 7 rfl<|.k 9 rfl<|.k 10 rfl<|.nil), (.k 0 rfl<|.nil), ?_⟩)
   refine zC<|zF (zG [] (.n (zA (.t rfl))<|.n (zA (.t rfl))<|.n (zA (.t rfl))<|.n (zA (.t rfl))<|.n (zP (rtimes_ok (by omega) (by omega)) ⟨(.t rfl), (.t rfl),  trivial⟩)<|.n (zB (.t rfl))<|.n (zB (.t rfl))<|.n (zB (.t rfl))<|.nil) ff rfl fun g11 => ⟨_, _, [0], rfl, (.k 2 rfl<|.k 3 rfl<|.k 4 rfl<|.nil), (.k 0 rfl<|.nil), ?_⟩)
   refine zC<|yF<|JN_to (To.res 0 (r' := som (tp0 (g5 24)) flp (rglsL xs).v 36) rfl (yQ (by rw [gls_nan hC hb hn0, scl_nan hp0 hn0, fneg_nan]; rfl)) rfl) ?_
   refine JN_retF3 (u := (tp0 (g5 24))) 0 rfl rfl (.cons (.tmp (.t rfl))<|.cons (.tmp (.t rfl))<|.cons (.tmp (.t rfl))<|.nil) (fun v1 v2 v3 c h => h.1) ?_
   exact sb_eq (by rw [gls_nan hC hb hn0, scl_nan hp0 hn0]; rw [fneg_nan] <;> rfl)
  ·skip
   refine yE<|zC<|zF (zG [] (.n (zA (.t rfl))<|.n (zA (.t rfl))<|.n (zA (.t rfl))<|.r 0 (yH 0 sl26 (.t rfl) (.k rfl) rfl (by omega) (by omega))<|.r 0 (op_get_som 0 0 sc36 (.t rfl) rfl (by omega))<|.n (zP (abs_ok) ⟨(.t rfl),  trivial⟩)<|.n (op_float (by simp) (.t rfl) (.t rfl) rfl)<|.n (op_float (by simp) (.t rfl) (.t rfl) rfl)<|.n (zB (.t rfl))<|.nil) ff rfl fun g12 => ⟨_, _, [0], rfl, (.k 5 rfl<|.k 7 rfl<|.k 9 rfl<|.k 10 rfl<|.nil), (.k 0 rfl<|.nil), ?_⟩)
   refine zC<|zF (zG [] (.n (zA (.t rfl))<|.n (zA (.t rfl))<|.r 0 (yH 0 sl26 (.t rfl) (.k rfl) rfl (by omega) (by omega))<|.r 0 (op_get_som 0 0 sc36 (.t rfl) rfl (by omega))<|.n (zA (.t rfl))<|.n (op_float (by simp) (.t rfl) (.t rfl) rfl)<|.r 0 (yH 0 sl26 (.t rfl) (.k rfl) rfl (by omega) (by omega))<|.w 0 (op_store_som 0 (.t rfl) (.t rfl) co_flp sz36 rfl (by omega))<|.nil) ff rfl fun g13 => ⟨_, _, [0], rfl, (.k 5 rfl<|.k 7 rfl<|.k 9 rfl<|.k 10 rfl<|.nil), (.k 0 rfl<|.nil), ?_⟩)
   refine zC<|zF (zG [] (.n (zA (.t rfl))<|.n (zA (.t rfl))<|.n (zA (.t rfl))<|.n (zA (.t rfl))<|.n (zP (rtimes_ok (by omega) (by omega)) ⟨(.t rfl), (.t rfl),  trivial⟩)<|.n (zB (.t rfl))<|.n (zB (.t rfl))<|.n (zB (.t rfl))<|.nil) ff rfl fun g14 => ⟨_, _, [0], rfl, (.k 2 rfl<|.k 3 rfl<|.k 4 rfl<|.nil), (.k 0 rfl<|.nil), ?_⟩)
   refine zC<|yF<|JN_to (To.res 0 (r' := som (tp0 (g5 24)) flp (rglsL xs).v 36) rfl (yQ (by rw [gls_nan hC hb hn0, scl_nan hp0 hn0]; rfl)) rfl) ?_
   refine JN_retF3 (u := (tp0 (g5 24))) 0 rfl rfl (.cons (.tmp (.t rfl))<|.cons (.tmp (.t rfl))<|.cons (.tmp (.t rfl))<|.nil) (fun v1 v2 v3 c h => h.1) ?_
   exact sb_eq (by rw [gls_nan hC hb hn0, scl_nan hp0 hn0] <;> rfl)
theorem rmirF_ok {xs : List Nat} (hC : CnL xs) (h9 : xs.length ≤ 1000) : CtF Tryz.prog 44 [fls xs] tp0 (fun u => tupp [isv u, flp (rglsL xs).w, flp (rglsL xs).alpha]) (fun u => som u flp (rglsL xs).v 36) := by
 cases h : nanB ((sclL xs (powG xs)).getD 0 0)
 ·exact rmirFA_ok hC h9 fun _ => h
 ·exact rmirFN_ok hC h9 fun _ => h
theorem tidy_ok {x : Nat} {t : Bool} : Ct Tryz.prog 48 [flp x, isv (.bool t)] (flp (tidN x t)) := by
 refine Ct.of Tryz.func48 rfl (by kernel_rfl) rfl fun c0 => ?_
 refine zF (zG [] (.n (zB (Lk.fk rfl (by decide +kernel)))<|.nil) ff rfl fun g1 => ⟨_, _, [], rfl, (.k 0 rfl<|.k 1 rfl<|.nil), (.nil), ?_⟩)
 refine zC<|zF<|zF (zG [] (.n (zA (.t rfl))<|.n (op_fcmp (by simp) (.t rfl) (Lk.fk rfl (by decide +kernel)) rfl)<|.nil) ff rfl fun g2 => ⟨_, _, [], rfl, (.k 0 rfl<|.k 1 rfl<|.k 6 rfl<|.nil), (.nil), ?_⟩)
 refine zC<|zH (zK (.t rfl)) (fun h1 => ?_) (fun h1 => ?_)
 ·have h1' := h1
  try simp only [cmpB, Z] at h1
  refine zF (zG [] (.n (zB (Lk.fk rfl (by decide +kernel)))<|.nil) ff rfl fun g3 => ⟨_, _, [], rfl, (.k 4 rfl<|.nil), (.nil), ?_⟩)
  refine zC<|yF<|zD<|zQ (.cons (.tmp (.t rfl))<|.nil) (zM (yD zL) ?_)
  exact ret_f (by unfold tidN; rw [if_pos h1'])
 ·have h1' := h1
  try simp only [cmpB, Z] at h1
  refine yE<|zC<|zF<|zF (zG [] (.n (zA (.t rfl))<|.nil) ff rfl fun g4 => ⟨_, _, [], rfl, (.k 0 rfl<|.k 7 rfl<|.nil), (.nil), ?_⟩)
  refine zC<|zH (zK (.t rfl)) (fun h2 => ?_) (fun h2 => ?_)
  ·try simp only [cmpB, Z] at h2
   refine zF (zG [] (.n (zA (.t rfl))<|.n (op_negf (.t rfl))<|.n (zB (.t rfl))<|.nil) ff rfl fun g5 => ⟨_, _, [], rfl, (.k 4 rfl<|.nil), (.nil), ?_⟩)
   refine zC<|yF<|zD<|zQ (.cons (.tmp (.t rfl))<|.nil) (zM (yD zL) ?_)
   exact ret_f (by unfold tidN; rw [if_neg (by rw [h1']; decide), if_pos h2])
  ·try simp only [cmpB, Z] at h2
   refine yE<|zC<|zF (zG [] (.n (zA (.t rfl))<|.n (zB (.t rfl))<|.nil) ff rfl fun g6 => ⟨_, _, [], rfl, (.k 4 rfl<|.nil), (.nil), ?_⟩)
   refine zC<|yF<|zQ (.cons (.tmp (.t rfl))<|.nil) (zM (yD zL) ?_)
   exact ret_f (by unfold tidN; rw [if_neg (by rw [h1']; decide), if_neg (by simp [h2])])
end Go.Proofs.YtllkellonjhalaaGreat
