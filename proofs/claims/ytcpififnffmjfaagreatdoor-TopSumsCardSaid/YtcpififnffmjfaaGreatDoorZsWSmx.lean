/- Printed by a program of ours (walk.py): walks of exact sums. -/
import Derived.Test.YtcpififnffmjfaaGreatDoorZsKb
import Derived.Test.YtcpififnffmjfaaGreatDoorProg
import Derived.KernelRfl
import Derived.Test.YtcpififnffmjfaaGreatDoorZsTypes
import Derived.Test.YtcpififnffmjfaaGreatDoorZsWDye
import Derived.Test.YtcpififnffmjfaaGreatDoorZsWLdexp
import Derived.Test.YtcpififnffmjfaaGreatDoorZsSmz
set_option linter.unusedVariables false
set_option linter.unusedSimpArgs false
set_option maxRecDepth 20000
set_option maxHeartbeats 4000000
namespace Go.Proofs.YtcpififnffmjfaaGreatDoor
open Go Go.Bn
attribute [local irreducible] OpOK
theorem sbit_ok {x : Nat} (hn : nanB x = false) : Ct Tryz.prog 62 [flp x] (isv (.bool (sgn x))) := by
 refine Ct.of Tryz.func62 rfl (by kernel_rfl) rfl fun c0 => ?_
 refine J_fl 0 rfl fun hx1 hx2 => ?_
 refine zF (zG [] (.n (zB (.k rfl))<|.nil) ff rfl fun g1 => ⟨_, _, [], rfl, (.k 0 rfl<|.nil), (.nil), ?_⟩)
 refine zC ?_
 refine zF (zG [] (.n (zA (.t rfl))<|.n (op_f64bitsn bitsX hn (.t rfl))<|.n (op_conv_int it38 it2 (.t rfl) rfl)<|.n (op_cmp (by simp) (.t rfl) (.k rfl) rfl)<|.n (zB (.t rfl))<|.nil) ff rfl fun g2 => ⟨_, _, [], rfl, (.k 2 rfl<|.nil), (.nil), ?_⟩)
 refine zC ?_
 refine J_ret ?_
 refine zQ (.cons (.tmp (.t rfl))<|.nil) (zM (sb_res1 zL) ?_)
 exact ret_b (sgn_i64 hx1)
theorem acan_ok {x : Nat} (hn : nanB x = false) : Ct Tryz.prog 61 [flp x] (flp x) := by
 refine Ct.of Tryz.func61 rfl (by kernel_rfl) rfl fun c0 => ?_
 refine J_fl 0 rfl fun hx1 hx2 => ?_
 refine zF (zG [] (.n (zB (Lk.fk rfl (by decide +kernel)))<|.nil) ff rfl fun g1 => ⟨_, _, [], rfl, (.k 0 rfl<|.nil), (.nil), ?_⟩)
 refine zC ?_
 refine zF (zG [] (.n (zA (.t rfl))<|.n (op_f64bitsn bitsX hn (.t rfl))<|.n (zP (of_ok) ⟨(.k rfl),  trivial⟩)<|.n (zP (canon_ok hx1) ⟨(.t rfl), (.t rfl),  trivial⟩)<|.n (op_f64from fromX (by rw [cn_of_not hn]; exact hx1) (.t rfl))<|.n (zB (.t rfl))<|.nil) ff rfl fun g2 => ⟨_, _, [], rfl, (.k 2 rfl<|.nil), (.nil), ?_⟩)
 refine zC ?_
 refine J_ret ?_
 refine zQ (.cons (.tmp (.t rfl))<|.nil) (zM (sb_res1 zL) ?_)
 exact sb_eq (by rw [cn_of_not hn, cn_of_not hn])
theorem spec_ok {l : List Nat} (hf : ∀ k, k < l.length → finB (l.getD k 0) = true) : Ct Tryz.prog 24 [fls l] (tupp [flp 0, isv (.bool false)]) := by
 refine Ct.of Tryz.func24 rfl (by kernel_rfl) rfl fun c0 => ?_
 refine J_len 0 rfl fun hlen => ?_
 refine zF (zG [] (.n (zB (Lk.fk rfl (by decide +kernel)))<|.n (zB (.k rfl))<|.nil) ff rfl fun g1 => ⟨_, _, [], rfl, (.k 0 rfl<|.nil), (.nil), ?_⟩)
 refine zC ?_
 refine zF (zG [] (.n (zB (Lk.fk rfl (by decide +kernel)))<|.n (zB (.k rfl))<|.nil) ff rfl fun g2 => ⟨_, _, [], rfl, (.k 0 rfl<|.k 4 rfl<|.k 5 rfl<|.nil), (.nil), ?_⟩)
 refine zC ?_
 refine zF ?_
 refine zF (zG [] (.n (zA (.t rfl))<|.n (op_len_m sl24 (.t rfl))<|.n (zA (.k rfl))<|.nil) ff rfl fun g3 => ⟨_, _, [], rfl, (.k 4 rfl<|.k 5 rfl<|.k 8 rfl<|.k 9 rfl<|.k 10 rfl<|.nil), (.nil), ?_⟩)
 refine zC ?_
 refine zT ?_
 refine J_loopc (α := Nat) (fun k => k ≤ l.length) (fun k => l.length - k) (fun k restR => (10, isv (.int .i64 (k : Int))) :: (4, flp 0) :: (5, isv (.bool false)) :: restR) (fun k restS => restS) (ρc := [(8, _), (9, _)]) (σc := []) 0 (by exact Nat.zero_le _) (To.pick (fun _ => .sub (t := 10) rfl (sp_eq (by rfl))<|.sub (t := 4) rfl (sp_eq (by rfl))<|.sub (t := 5) rfl (sp_eq (by rfl))<|.k 8 rfl<|.k 9 rfl<|.nil) (fun _ => .nil) (ks := []) rfl) (fun k hI => ?_)
 refine zF (zG [] (.n (op_cmp (by simp) (.t rfl) (.t rfl) rfl)<|.nil) ff rfl fun g4 => ⟨_, _, [], rfl, (.k 4 rfl<|.k 5 rfl<|.k 8 rfl<|.k 9 rfl<|.k 10 rfl<|.k 11 rfl<|.nil), (.nil), ?_⟩)
 refine zC ?_
 refine zF ?_
 refine zH (zK (.t rfl)) (fun h1 => ?_) (fun h1 => ?_)
 ·try simp only [cmpB, Z] at h1
  have hfk := hf k (by omega)
  refine J_skip ?_
  refine zC ?_
  refine zF ?_
  refine zT ?_
  refine zF (zG [] (.n (op_index_m 0 sl24 (.t rfl) (.t rfl) (by omega) (by omega))<|.n (op_load_sc sc28 (.t rfl) rfl)<|.n (zB (.t rfl))<|.nil) ff rfl fun g5 => ⟨_, _, [], rfl, (.k 4 rfl<|.k 5 rfl<|.k 7 rfl<|.k 8 rfl<|.k 9 rfl<|.k 10 rfl<|.nil), (.nil), ?_⟩)
  refine zC ?_
  refine J_fl 7 rfl fun hx1 hx2 => ?_
  have hsp := spec_no hx1 hfk
  refine zF (zG [] (.n (zA (.t rfl))<|.n (zA (.t rfl))<|.n (op_fcmp (by simp) (.t rfl) (.t rfl) rfl)<|.n (zA (.t rfl))<|.n (op_guard rfl rfl (gd_b rfl) (fun hC => (zA (.t rfl))))<|.n (op_guard rfl rfl (gd_b rfl) (fun hC => (zP (isinf_ok) ⟨(.w rfl hC), (.k rfl),  trivial⟩)))<|.n (op_or (.t rfl) (fun h2 => (.w rfl h2)))<|.nil) ff rfl fun g6 => ⟨_, _, [], rfl, (.k 4 rfl<|.k 5 rfl<|.k 7 rfl<|.k 8 rfl<|.k 9 rfl<|.k 10 rfl<|.k 20 rfl<|.nil), (.nil), ?_⟩)
  refine zC ?_
  refine zH (zK (.t rfl)) (fun h2 => ?_) (fun h2 => ?_)
  ·have h2' := h2
   try simp only [cmpB, Z] at h2
   exact absurd (hsp.symm.trans h2') (by decide)
  ·have h2' := h2
   try simp only [cmpB, Z] at h2
   refine J_skip ?_
   refine zR ?_
   refine zC ?_
   refine (zG [] (.n (op_add (.t rfl) (.k rfl) (zO (by omega) (by omega)))<|.n (zA (.t rfl))<|.nil) ff rfl fun g7 => ⟨_, _, [], rfl, (.k 4 rfl<|.k 5 rfl<|.k 8 rfl<|.k 9 rfl<|.k 10 rfl<|.nil), (.nil), ?_⟩)
   exact JN_again (k + 1) (by omega) (by omega) (To.pick (fun _ => .sub (t := 10) rfl (sp_eq (by rfl))<|.sub (t := 4) rfl (sp_eq (by rfl))<|.sub (t := 5) rfl (sp_eq (by rfl))<|.k 8 rfl<|.k 9 rfl<|.nil) (fun _ => .nil) (ks := []) rfl)
 ·try simp only [cmpB, Z] at h1
  refine J_exit ?_
  refine zE ?_
  refine zE ?_
  refine zS ?_
  refine zC ?_
  refine zF (zG [] (.n (zA (.t rfl))<|.n (zP (acan_ok (by decide +kernel)) ⟨(.t rfl),  trivial⟩)<|.n (zA (.t rfl))<|.n (zB (.t rfl))<|.n (zB (.t rfl))<|.nil) ff rfl fun g8 => ⟨_, _, [], rfl, (.k 2 rfl<|.k 3 rfl<|.nil), (.nil), ?_⟩)
  refine zC ?_
  refine J_ret ?_
  refine zQ (.cons (.tmp (.t rfl))<|.cons (.tmp (.t rfl))<|.nil) (zM (sb_res (.cons zL<|.cons zL<|.nil)) ?_)
  exact zL
theorem nou_ok {l : List Nat} (hf : ∀ k, k < l.length → finB (l.getD k 0) = true) : Ct Tryz.prog 25 [fls l] (isv (.bool (nouL l))) := by
 refine Ct.of Tryz.func25 rfl (by kernel_rfl) rfl fun c0 => ?_
 refine J_len 0 rfl fun hlen => ?_
 refine zF (zG [] (.n (zB (.k rfl))<|.nil) ff rfl fun g1 => ⟨_, _, [], rfl, (.k 0 rfl<|.nil), (.nil), ?_⟩)
 refine zC ?_
 refine zF ?_
 refine zF (zG [] (.n (zA (.t rfl))<|.n (op_len_m sl24 (.t rfl))<|.n (zA (.k rfl))<|.nil) ff rfl fun g2 => ⟨_, _, [], rfl, (.k 0 rfl<|.k 5 rfl<|.k 6 rfl<|.k 7 rfl<|.nil), (.nil), ?_⟩)
 refine zC ?_
 refine zT ?_
 refine J_loopc (α := Nat) (fun k => NouI l k) (fun k => l.length - k) (fun k restR => (7, isv (.int .i64 (k : Int))) :: restR) (fun k restS => restS) (ρc := [(0, _), (5, _), (6, _)]) (σc := []) 0 (by exact nou_zero) (To.pick (fun _ => .sub (t := 7) rfl (sp_eq (by rfl))<|.k 0 rfl<|.k 5 rfl<|.k 6 rfl<|.nil) (fun _ => .nil) (ks := []) rfl) (fun k hI => ?_)
 refine zF (zG [] (.n (op_cmp (by simp) (.t rfl) (.t rfl) rfl)<|.nil) ff rfl fun g3 => ⟨_, _, [], rfl, (.k 0 rfl<|.k 5 rfl<|.k 6 rfl<|.k 7 rfl<|.k 8 rfl<|.nil), (.nil), ?_⟩)
 refine zC ?_
 refine zF ?_
 refine zH (zK (.t rfl)) (fun h1 => ?_) (fun h1 => ?_)
 ·try simp only [cmpB, Z] at h1
  have hfk := hf k (by have := hI.1; omega)
  refine J_skip ?_
  refine zC ?_
  refine zF ?_
  refine zT ?_
  refine zF (zG [] (.n (op_index_m 0 sl24 (.t rfl) (.t rfl) (by omega) (by omega))<|.n (op_load_sc sc28 (.t rfl) rfl)<|.n (zB (.t rfl))<|.nil) ff rfl fun g4 => ⟨_, _, [], rfl, (.k 0 rfl<|.k 4 rfl<|.k 5 rfl<|.k 6 rfl<|.k 7 rfl<|.nil), (.nil), ?_⟩)
  refine zC ?_
  refine zF (zG [] (.n (zA (.t rfl))<|.n (op_fcmp (by simp) (.t rfl) (Lk.fk rfl (by decide +kernel)) rfl)<|.n (zA (.t rfl))<|.n (op_guard rfl rfl (gd_b rfl) (fun hC => (zA (.t rfl))))<|.n (op_guard rfl rfl (gd_b rfl) (fun hC => (zP (sbit_ok (fin_not_nan hfk)) ⟨(.w rfl hC),  trivial⟩)))<|.n (op_guard rfl rfl (gd_b rfl) (fun hC => (op_not (.w rfl hC))))<|.n (op_or (.t rfl) (fun h2 => (.w rfl h2)))<|.nil) ff rfl fun g5 => ⟨_, _, [], rfl, (.k 0 rfl<|.k 5 rfl<|.k 6 rfl<|.k 7 rfl<|.k 17 rfl<|.nil), (.nil), ?_⟩)
  refine zC ?_
  refine zH (zK (.t rfl)) (fun h2 => ?_) (fun h2 => ?_)
  ·have h2' := h2
   try simp only [cmpB, Z] at h2
   refine zF (zG [] (.n (zB (.k rfl))<|.nil) ff rfl fun g6 => ⟨_, _, [], rfl, (.k 2 rfl<|.nil), (.nil), ?_⟩)
   refine zC ?_
   refine J_ret ?_
   refine JN_block_ret ?_
   refine zD ?_
   refine zD ?_
   refine JN_block_ret ?_
   refine zD ?_
   refine zQ (.cons (.tmp (.t rfl))<|.nil) (zM (sb_res1 zL) ?_)
   exact ret_b (by rw [nou_no (k := k) (by omega) h2'])
  ·have h2' := h2
   try simp only [cmpB, Z] at h2
   refine J_skip ?_
   refine zR ?_
   refine zC ?_
   refine (zG [] (.n (op_add (.t rfl) (.k rfl) (zO (by omega) (by omega)))<|.n (zA (.t rfl))<|.nil) ff rfl fun g7 => ⟨_, _, [], rfl, (.k 0 rfl<|.k 5 rfl<|.k 6 rfl<|.k 7 rfl<|.nil), (.nil), ?_⟩)
   exact JN_again (k + 1) (by exact nou_step hI (by omega) (by assumption)) (by omega) (To.pick (fun _ => .sub (t := 7) rfl (sp_eq (by rfl))<|.k 0 rfl<|.k 5 rfl<|.k 6 rfl<|.nil) (fun _ => .nil) (ks := []) rfl)
 ·try simp only [cmpB, Z] at h1
  refine J_exit ?_
  refine zE ?_
  refine zE ?_
  refine zS ?_
  refine zC ?_
  refine zF (zG [] (.n (zA (.t rfl))<|.n (op_len_m sl24 (.t rfl))<|.n (op_cmp (by simp) (.t rfl) (.k rfl) rfl)<|.n (zB (.t rfl))<|.nil) ff rfl fun g8 => ⟨_, _, [], rfl, (.k 2 rfl<|.nil), (.nil), ?_⟩)
  refine zC ?_
  refine J_ret ?_
  refine zQ (.cons (.tmp (.t rfl))<|.nil) (zM (sb_res1 zL) ?_)
  exact ret_b (by rw [nou_yes hI (by have := hI.1; omega)])
theorem cps_ok  : Ct Tryz.prog 26 [flp 0, flp 13830554455654793216] (flp NEG0) := by
 refine Ct.of Tryz.func26 rfl (by kernel_rfl) rfl fun c0 => ?_
 refine zF (zG [] (.n (zB (Lk.fk rfl (by decide +kernel)))<|.nil) ff rfl fun g1 => ⟨_, _, [], rfl, (.k 0 rfl<|.k 1 rfl<|.nil), (.nil), ?_⟩)
 refine zC ?_
 refine zF (zG [] (.n (zA (.t rfl))<|.n (op_f64bitsn bitsX (show nanB 0 = false by decide +kernel) (.t rfl))<|.n (op_bits (by simp) (.t rfl) (.k rfl) (by decide +kernel : _ = (0 : Int)))<|.n (zA (.t rfl))<|.n (op_f64bitsn bitsX (show nanB 13830554455654793216 = false by decide +kernel) (.t rfl))<|.n (op_bits (by simp) (.t rfl) (.k rfl) (by decide +kernel : _ = (9223372036854775808 : Int)))<|.n (op_bits (by simp) (.t rfl) (.t rfl) (by decide +kernel : _ = (((9223372036854775808 : Nat)) : Int)))<|.n (op_f64from (b := 9223372036854775808) fromX (by decide) (.t rfl))<|.n (zB (.t rfl))<|.nil) ff rfl fun g2 => ⟨_, _, [], rfl, (.k 4 rfl<|.nil), (.nil), ?_⟩)
 refine zC ?_
 refine J_ret ?_
 refine zQ (.cons (.tmp (.t rfl))<|.nil) (zM (sb_res1 zL) ?_)
 exact ret_f (by decide +kernel)
theorem sexa_ok {l : List Nat} (h : SumH l) (hp : PutH (dySum l l.length)) (hl : l.length ≤ 4096) : Ct Tryz.prog 8 [fls l] (tupp [flp (exaD l), isv (.int .i64 0)]) := by
 refine Ct.of Tryz.func8 rfl (by kernel_rfl) rfl fun c0 => ?_
 have hlf := h.hf
 have hpe := put_dyE hp
 refine zF (zG [] (.n (zB (Lk.fk rfl (by decide +kernel)))<|.n (zB (.k rfl))<|.nil) ff rfl fun g1 => ⟨_, _, [], rfl, (.k 0 rfl<|.nil), (.nil), ?_⟩)
 refine zC ?_
 refine zF ?_
 refine zF (zG [] (.n (zA (.t rfl))<|.n (op_len_m sl24 (.t rfl))<|.n (op_cmp (by simp) (.t rfl) (.k rfl) rfl)<|.nil) ff rfl fun g2 => ⟨_, _, [], rfl, (.k 0 rfl<|.k 10 rfl<|.nil), (.nil), ?_⟩)
 refine zC ?_
 refine zH (zK (.t rfl)) (fun h1 => ?_) (fun h1 => ?_)
 ·try simp only [cmpB, Z] at h1
  exact absurd h1 (by omega)
 ·try simp only [cmpB, Z] at h1
  refine J_skip ?_
  refine zC ?_
  refine zF ?_
  refine zF (zG [] (.n (zA (.t rfl))<|.n (zP (spec_ok hlf) ⟨(.t rfl),  trivial⟩)<|.n (zA (.t rfl))<|.n (op_extract (.t rfl) rfl)<|.n (op_extract (.t rfl) rfl)<|.n (zB (.t rfl))<|.n (zB (.t rfl))<|.nil) ff rfl fun g3 => ⟨_, _, [], rfl, (.k 0 rfl<|.k 4 rfl<|.k 5 rfl<|.nil), (.nil), ?_⟩)
  refine zC ?_
  refine zF (zG [] (.n (zA (.t rfl))<|.nil) ff rfl fun g4 => ⟨_, _, [], rfl, (.k 0 rfl<|.k 4 rfl<|.k 16 rfl<|.nil), (.nil), ?_⟩)
  refine zC ?_
  refine zH (zK (.t rfl)) (fun h2 => ?_) (fun h2 => ?_)
  ·have h2' := h2
   try simp only [cmpB, Z] at h2
   exact absurd h2' (by decide)
  ·have h2' := h2
   try simp only [cmpB, Z] at h2
   refine J_skip ?_
   refine zC ?_
   refine zF ?_
   refine zF (zG [] (.n (zA (.t rfl))<|.n (zP (nou_ok hlf) ⟨(.t rfl),  trivial⟩)<|.nil) ff rfl fun g5 => ⟨_, _, [], rfl, (.k 0 rfl<|.k 19 rfl<|.nil), (.nil), ?_⟩)
   refine zC ?_
   refine zH (zK (.t rfl)) (fun h3 => ?_) (fun h3 => ?_)
   ·have h3' := h3
    try simp only [cmpB, Z] at h3
    refine zF (zG [] (.n (zP (cps_ok) ⟨(Lk.fk rfl (by decide +kernel)), (Lk.fk rfl (by decide +kernel)),  trivial⟩)<|.n (zB (.t rfl))<|.n (zB (.k rfl))<|.nil) ff rfl fun g6 => ⟨_, _, [], rfl, (.k 2 rfl<|.k 3 rfl<|.nil), (.nil), ?_⟩)
    refine zC ?_
    refine J_ret ?_
    refine zD ?_
    refine zQ (.cons (.tmp (.t rfl))<|.cons (.tmp (.t rfl))<|.nil) (zM (sb_res (.cons zL<|.cons zL<|.nil)) ?_)
    exact sb_eq (by rw [exa_1 h3'])
   ·have h3' := h3
    try simp only [cmpB, Z] at h3
    refine J_skip ?_
    refine zC ?_
    refine J_to (To.emps 1) ?_
    refine zF (zG [] (.n (zA (.t rfl))<|.n (zP (dsum_ok h hp (by omega)) ⟨(.t rfl),  trivial⟩)<|.n (zA (.t rfl))<|.n (op_extract (.t rfl) rfl)<|.n (op_extract (.t rfl) rfl)<|.w 0 (op_alloc 0 zr31 rfl rfl)<|.w 0 (op_store_new 0 rfl (.t rfl) co_agg sz31 rfl rfl)<|.n (zB (.t rfl))<|.nil) ff rfl fun g7 => ⟨_, _, [0], rfl, (.k 6 rfl<|.nil), (.k 0 rfl<|.nil), ?_⟩)
    refine zC ?_
    refine zF (zG [] (.r 0 (op_get_ag 0 ag31 (.t rfl) rfl zJ rfl rfl)<|.n (zP (dround_ok hp hpe) ⟨(.t rfl), (.k rfl),  trivial⟩)<|.n (op_extract (.t rfl) rfl)<|.n (op_extract (.t rfl) rfl)<|.n (zB (.t rfl))<|.n (zB (.t rfl))<|.nil) ff rfl fun g8 => ⟨_, _, [], rfl, (.k 2 rfl<|.k 3 rfl<|.nil), (.nil), ?_⟩)
    refine zC ?_
    refine J_ret ?_
    refine zQ (.cons (.tmp (.t rfl))<|.cons (.tmp (.t rfl))<|.nil) (zM (sb_res (.cons zL<|.cons zL<|.nil)) ?_)
    exact sb_eq (by rw [exa_2 h3'])
theorem rsameD_ok {b : Bool} {l : List Int} {e : Int} (hl : l.length ≤ 100000) : Ct Tryz.prog 14 [aggp [isv (.bool b), ils .u32 l, isv (.int .i64 e)], aggp [isv (.bool b), ils .u32 l, isv (.int .i64 e)]] (isv (.bool true)) := by
 refine Ct.of Tryz.func14 rfl (by kernel_rfl) rfl fun c0 => ?_
 refine J_to (To.emps 2) ?_
 refine zF (zG [] (.w 0 (op_box 0 (.t rfl) co_agg rfl)<|.w 1 (op_box 1 (.t rfl) co_agg rfl)<|.n (zB (.k rfl))<|.nil) ff rfl fun g1 => ⟨_, _, [0, 1], rfl, (.k 2 rfl<|.k 3 rfl<|.nil), (.k 0 rfl<|.k 1 rfl<|.nil), ?_⟩)
 refine zC ?_
 refine zF ?_
 refine zF (zG [] (.n (zI fd31_0 (.t rfl) rfl)<|.r 0 (zN 0 sc4 (.t rfl) rfl zJ rfl)<|.n (zI fd31_0 (.t rfl) rfl)<|.r 1 (zN 1 sc4 (.t rfl) rfl zJ rfl)<|.n (op_bne Tryz.underlying4 (.t rfl) (.t rfl))<|.n (zA (.t rfl))<|.n (op_guard rfl rfl (gd_b rfl) (fun hC => (zI fd31_2 (.t rfl) rfl)))<|.r 0 (op_guard rfl rfl (gd_b rfl) (fun hC => (zN 0 sc3 (.w rfl hC) rfl zJ rfl)))<|.n (op_guard rfl rfl (gd_b rfl) (fun hC => (zI fd31_2 (.t rfl) rfl)))<|.r 1 (op_guard rfl rfl (gd_b rfl) (fun hC => (zN 1 sc3 (.w rfl hC) rfl zJ rfl)))<|.n (op_guard rfl rfl (gd_b rfl) (fun hC => (op_cmp (by simp) (.w rfl hC) (.w rfl hC) rfl)))<|.n (op_or (.t rfl) (fun h2 => (.w rfl h2)))<|.n (zA (.t rfl))<|.n (op_guard rfl rfl (gd_b rfl) (fun hC => (zI fd31_1 (.t rfl) rfl)))<|.r 0 (op_guard rfl rfl (gd_b rfl) (fun hC => (zN 0 sc29 (.w rfl hC) rfl zJ rfl)))<|.n (op_guard rfl rfl (gd_b rfl) (fun hC => (op_len_m sl29 (.w rfl hC))))<|.n (op_guard rfl rfl (gd_b rfl) (fun hC => (zI fd31_1 (.t rfl) rfl)))<|.r 1 (op_guard rfl rfl (gd_b rfl) (fun hC => (zN 1 sc29 (.w rfl hC) rfl zJ rfl)))<|.n (op_guard rfl rfl (gd_b rfl) (fun hC => (op_len_m sl29 (.w rfl hC))))<|.n (op_guard rfl rfl (gd_b rfl) (fun hC => (op_cmp (by simp) (.w rfl hC) (.w rfl hC) rfl)))<|.n (op_or (.t rfl) (fun h2 => (.w rfl h2)))<|.nil) ff rfl fun g2 => ⟨_, _, [0, 1], rfl, (.k 2 rfl<|.k 3 rfl<|.k 26 rfl<|.nil), (.k 0 rfl<|.k 1 rfl<|.nil), ?_⟩)
 refine zC ?_
 refine zH (zK (.t rfl)) (fun h1 => ?_) (fun h1 => ?_)
 ·have h1' := h1
  try simp only [cmpB, Z] at h1
  exact absurd h1' (by simp [cmpB])
 ·have h1' := h1
  try simp only [cmpB, Z] at h1
  refine J_skip ?_
  refine zC ?_
  refine zF ?_
  refine zF (zG [] (.n (zI fd31_1 (.t rfl) rfl)<|.r 0 (zN 0 sc29 (.t rfl) rfl zJ rfl)<|.n (op_len_m sl29 (.t rfl))<|.n (zA (.k rfl))<|.nil) ff rfl fun g3 => ⟨_, _, [0, 1], rfl, (.k 2 rfl<|.k 3 rfl<|.k 29 rfl<|.k 30 rfl<|.nil), (.k 0 rfl<|.k 1 rfl<|.nil), ?_⟩)
  refine zC ?_
  refine zT ?_
  refine J_loopc (α := Nat) (fun k => k ≤ l.length) (fun k => l.length - k) (fun k restR => (30, isv (.int .i64 (k : Int))) :: restR) (fun k restS => restS) (ρc := [(2, _), (3, _), (29, _)]) (σc := [_, _]) 0 (by exact Nat.zero_le _) (To.pick (fun _ => .sub (t := 30) rfl (sp_eq (by rfl))<|.k 2 rfl<|.k 3 rfl<|.k 29 rfl<|.nil) (fun _ => .k 0 rfl<|.k 1 rfl<|.nil) (ks := [0, 1]) rfl) (fun k hI => ?_)
  refine zF (zG [] (.n (op_cmp (by simp) (.t rfl) (.t rfl) rfl)<|.nil) ff rfl fun g4 => ⟨_, _, [0, 1], rfl, (.k 2 rfl<|.k 3 rfl<|.k 29 rfl<|.k 30 rfl<|.k 31 rfl<|.nil), (.k 0 rfl<|.k 1 rfl<|.nil), ?_⟩)
  refine zC ?_
  refine zF ?_
  refine zH (zK (.t rfl)) (fun h2 => ?_) (fun h2 => ?_)
  ·try simp only [cmpB, Z] at h2
   refine J_skip ?_
   refine zC ?_
   refine zF ?_
   refine zT ?_
   refine zF (zG [] (.n (zA (.t rfl))<|.n (zB (.t rfl))<|.nil) ff rfl fun g5 => ⟨_, _, [0, 1], rfl, (.k 2 rfl<|.k 3 rfl<|.k 5 rfl<|.k 29 rfl<|.k 30 rfl<|.nil), (.k 0 rfl<|.k 1 rfl<|.nil), ?_⟩)
   refine zC ?_
   refine zF (zG [[], [0], [], [0, 1, 2], [0, 1, 2, 3], [], [5], [], [5, 6, 7], [5, 6, 7, 8], [0, 1, 2, 3, 4, 5, 6, 7, 8, 9]] (.n (zI fd31_1 (.t rfl) rfl)<|.r 0 (zN 0 sc29 (.t rfl) rfl zJ rfl)<|.n (zA (.t rfl))<|.n (op_index_m 0 sl29 (.t rfl) (.t rfl) (by omega) (by omega))<|.n (op_load_sc sc78 (.t rfl) rfl)<|.n (zI fd31_1 (.t rfl) rfl)<|.r 1 (zN 1 sc29 (.t rfl) rfl zJ rfl)<|.n (zA (.t rfl))<|.n (op_index_m 0 sl29 (.t rfl) (.t rfl) (by omega) (by omega))<|.n (op_load_sc sc78 (.t rfl) rfl)<|.n (op_cmp (by simp) (.t rfl) (.t rfl) rfl)<|.nil) (fun _ => mixed) rfl fun g6 => ⟨_, _, [0, 1], rfl, (.k 2 rfl<|.k 3 rfl<|.k 29 rfl<|.k 30 rfl<|.k 43 rfl<|.nil), (.k 0 rfl<|.k 1 rfl<|.nil), ?_⟩)
   refine zC ?_
   refine zH (zK (.t rfl)) (fun h3 => ?_) (fun h3 => ?_)
   ·have h3' := h3
    try simp only [cmpB, Z] at h3
    exact absurd h3' (by simp [cmpB])
   ·have h3' := h3
    try simp only [cmpB, Z] at h3
    refine J_skip ?_
    refine zR ?_
    refine zC ?_
    refine (zG [] (.n (op_add (.t rfl) (.k rfl) (zO (by omega) (by omega)))<|.n (zA (.t rfl))<|.nil) ff rfl fun g7 => ⟨_, _, [0, 1], rfl, (.k 2 rfl<|.k 3 rfl<|.k 29 rfl<|.k 30 rfl<|.nil), (.k 0 rfl<|.k 1 rfl<|.nil), ?_⟩)
    exact JN_again (k + 1) (by omega) (by omega) (To.pick (fun _ => .sub (t := 30) rfl (sp_eq (by rfl))<|.k 2 rfl<|.k 3 rfl<|.k 29 rfl<|.nil) (fun _ => .k 0 rfl<|.k 1 rfl<|.nil) (ks := [0, 1]) rfl)
  ·try simp only [cmpB, Z] at h2
   refine J_exit ?_
   refine zE ?_
   refine zE ?_
   refine zS ?_
   refine zC ?_
   refine zF (zG [] (.n (zB (.k rfl))<|.nil) ff rfl fun g8 => ⟨_, _, [], rfl, (.k 4 rfl<|.nil), (.nil), ?_⟩)
   refine zC ?_
   refine J_ret ?_
   refine zQ (.cons (.tmp (.t rfl))<|.nil) (zM (sb_res1 zL) ?_)
   exact zL
end Go.Proofs.YtcpififnffmjfaaGreatDoor
