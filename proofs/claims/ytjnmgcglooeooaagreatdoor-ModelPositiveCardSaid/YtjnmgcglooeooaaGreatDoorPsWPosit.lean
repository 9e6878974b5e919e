/- Printed by a program of ours (walk.py): the walk of ModelPositive. -/
import Derived.Test.YtjnmgcglooeooaaGreatDoorPsKb
import Derived.Test.YtjnmgcglooeooaaGreatDoorProg
import Derived.KernelRfl
import Derived.Test.YtjnmgcglooeooaaGreatDoorPsTypes
import Derived.Test.YtjnmgcglooeooaaGreatDoorPsWQsi
import Derived.Test.YtjnmgcglooeooaaGreatDoorPsWPick
import Derived.Test.YtjnmgcglooeooaaGreatDoorPsWLdexp
import Derived.Test.YtjnmgcglooeooaaGreatDoorPsPoc
set_option linter.unusedVariables false
set_option linter.unusedSimpArgs false
set_option maxRecDepth 20000
set_option maxHeartbeats 4000000
namespace Go.Proofs.YtjnmgcglooeooaaGreatDoor
open Go Go.Bn
attribute [local irreducible] OpOK
theorem good_ok {r c n : Int} {xs : List Nat} (hn : Siz n n) : Ct Tryz.prog 8 [MatP r c xs, isv (.int .i64 n)] (isv (.bool (goodB r c xs n))) := by
 refine Ct.of Tryz.func8 rfl (by kernel_rfl) rfl fun c0 => ?_
 have hm := hn.mul
 refine J_to (To.emps 1) ?_
 refine zF (zG [] (.w 0 (op_box 0 (.t rfl) co_agg rfl)<|.n (zB (.k rfl))<|.nil) ff rfl fun g1 => ⟨_, _, [0], rfl, (.k 1 rfl<|.k 2 rfl<|.nil), (.k 0 rfl<|.nil), ?_⟩)
 refine zC ?_
 refine zF (zG [] (.n (zI fd30_0 (.t rfl) rfl)<|.r 0 (zN 0 sc3 (.t rfl) rfl zJ rfl)<|.n (zA (.t rfl))<|.n (op_cmp (by simp) (.t rfl) (.t rfl) rfl)<|.n (zA (.t rfl))<|.n (op_guard rfl rfl (gd_b rfl) (fun hC => (zI fd30_1 (.t rfl) rfl)))<|.r 0 (op_guard rfl rfl (gd_b rfl) (fun hC => (zN 0 sc3 (.w rfl hC) rfl zJ rfl)))<|.n (op_guard rfl rfl (gd_b rfl) (fun hC => (zA (.t rfl))))<|.n (op_guard rfl rfl (gd_b rfl) (fun hC => (op_cmp (by simp) (.w rfl hC) (.w rfl hC) rfl)))<|.n (op_and (.t rfl) (fun h2 => (.w rfl h2)))<|.n (zA (.t rfl))<|.n (op_guard rfl rfl (gd_b rfl) (fun hC => (zI fd30_2 (.t rfl) rfl)))<|.r 0 (op_guard rfl rfl (gd_b rfl) (fun hC => (zN 0 sc28 (.w rfl hC) rfl zJ rfl)))<|.n (op_guard rfl rfl (gd_b rfl) (fun hC => (op_len_m sl28 (.w rfl hC))))<|.n (op_guard rfl rfl (gd_b rfl) (fun hC => (zA (.t rfl))))<|.n (op_guard rfl rfl (gd_b rfl) (fun hC => (zA (.t rfl))))<|.n (op_guard rfl rfl (gd_b rfl) (fun hC => (op_mul (.w rfl hC) (.w rfl hC) (zO (by omega) (by omega)))))<|.n (op_guard rfl rfl (gd_b rfl) (fun hC => (op_cmp (by simp) (.w rfl hC) (.w rfl hC) rfl)))<|.n (op_and (.t rfl) (fun h2 => (.w rfl h2)))<|.n (zB (.t rfl))<|.nil) ff rfl fun g2 => ⟨_, _, [], rfl, (.k 4 rfl<|.nil), (.nil), ?_⟩)
 refine zC ?_
 refine J_ret ?_
 refine zQ (.cons (.tmp (.t rfl))<|.nil) (zM (sb_res1 zL) ?_)
 exact ret_b rfl
theorem at_ok {r c i j : Int} {xs : List Nat} (hg : Good r c xs) (hp : Pl r c i j) : Ct Tryz.prog 10 [MatP r c xs, isv (.int .i64 i), isv (.int .i64 j)] (flp (mat c xs i j)) := by
 refine Ct.of Tryz.func10 rfl (by kernel_rfl) rfl fun c0 => ?_
 have hq := hp.rng hg.1
 have hl := hg.2
 obtain ⟨hs1, hs2, hs3, hs4⟩ := hg.1
 obtain ⟨hp1, hp2, hp3, hp4⟩ := hp
 refine J_to (To.emps 1) ?_
 refine zF (zG [] (.w 0 (op_box 0 (.t rfl) co_agg rfl)<|.n (zB (Lk.fk rfl (by decide +kernel)))<|.nil) ff rfl fun g1 => ⟨_, _, [0], rfl, (.k 1 rfl<|.k 2 rfl<|.k 3 rfl<|.nil), (.k 0 rfl<|.nil), ?_⟩)
 refine zC ?_
 refine zF (zG [] (.n (zI fd30_2 (.t rfl) rfl)<|.r 0 (zN 0 sc28 (.t rfl) rfl zJ rfl)<|.n (zA (.t rfl))<|.n (zI fd30_1 (.t rfl) rfl)<|.r 0 (zN 0 sc3 (.t rfl) rfl zJ rfl)<|.n (op_mul (.t rfl) (.t rfl) (zO (by omega) (by omega)))<|.n (zA (.t rfl))<|.n (op_add (.t rfl) (.t rfl) (zO (by omega) (by omega)))<|.n (op_index_m 0 sl28 (.t rfl) (.t rfl) (by omega) (by omega))<|.n (op_load_sc sc39 (.t rfl) rfl)<|.n (zB (.t rfl))<|.nil) ff rfl fun g2 => ⟨_, _, [], rfl, (.k 6 rfl<|.nil), (.nil), ?_⟩)
 refine zC ?_
 refine J_ret ?_
 refine zQ (.cons (.tmp (.t rfl))<|.nil) (zM (sb_res1 zL) ?_)
 exact zL
theorem ldexpM100 : Ct Tryz.prog 20 [flp 4607182418800017408, isv (.int .i64 (-100))] (flp M100) := (show P2 (-100) = M100 from by decide +kernel) ▸ Ldexp_ok (k := -100) (by decide) (by decide)
theorem mDimx_ok {ps : List Prt} {n : Int} (hm : motE ps = 0) (hn : tot ps ps.length = n) : Ct Tryz.prog 7 [MotP ps] (tupp [isv (.int .i64 n), isv (.int .i64 0)]) := ((show dimR ps = ⟨n, 0⟩ by rw [dimR_ok hm, hn]) ▸ mdim_ok : Ct Tryz.prog 7 [MotP ps] (resI ⟨n, 0⟩))
theorem shape_ok {N L : Nat} (hN : N ≤ 12) (hL : L = N * N) : Ct Tryz.prog 43 [isv (.int .i64 (N : Int)), isv (.int .i64 (N : Int)), isv (.int .i64 (L : Int))] (isv (.int .i64 0)) := by
 refine Ct.of Tryz.func43 rfl (by kernel_rfl) rfl fun c0 => ?_
 have hnn : (N : Int) * (N : Int) = ((N * N : Nat) : Int) := (Int.natCast_mul N N).symm
 have hNN : N * N ≤ 144 := Nat.mul_le_mul hN hN
 refine zF (zG [] (.n (zB (.k rfl))<|.nil) ff rfl fun g1 => ⟨_, _, [], rfl, (.k 0 rfl<|.k 1 rfl<|.k 2 rfl<|.nil), (.nil), ?_⟩)
 refine zC ?_
 refine zF ?_
 refine zT ?_
 refine zF (zG [] (.n (zA (.t rfl))<|.n (op_cmp (by simp) (.t rfl) (.k rfl) rfl)<|.n (zA (.t rfl))<|.n (op_guard rfl rfl (gd_b rfl) (fun hC => (zA (.t rfl))))<|.n (op_guard rfl rfl (gd_b rfl) (fun hC => (op_cmp (by simp) (.w rfl hC) (.k rfl) rfl)))<|.n (op_or (.t rfl) (fun h2 => (.w rfl h2)))<|.n (zA (.t rfl))<|.n (op_guard rfl rfl (gd_b rfl) (fun hC => (zA (.t rfl))))<|.n (op_guard rfl rfl (gd_b rfl) (fun hC => (op_cmp (by simp) (.w rfl hC) (.k rfl) rfl)))<|.n (op_or (.t rfl) (fun h2 => (.w rfl h2)))<|.n (zA (.t rfl))<|.n (op_guard rfl rfl (gd_b rfl) (fun hC => (zA (.t rfl))))<|.n (op_guard rfl rfl (gd_b rfl) (fun hC => (op_cmp (by simp) (.w rfl hC) (.k rfl) rfl)))<|.n (op_or (.t rfl) (fun h2 => (.w rfl h2)))<|.n (zB (.t rfl))<|.nil) ff rfl fun g2 => ⟨_, _, [], rfl, (.k 0 rfl<|.k 1 rfl<|.k 2 rfl<|.k 7 rfl<|.nil), (.nil), ?_⟩)
 refine zC ?_
 refine zH (zK (.t rfl)) (fun h1 => ?_) (fun h1 => ?_)
 ·try simp only [cmpB, Z] at h1
  omega
 ·try simp only [cmpB, Z] at h1
  refine zF (zG [] (.n (zA (.t rfl))<|.n (zA (.t rfl))<|.n (zA (.t rfl))<|.n (op_mul (.t rfl) (.t rfl) (show IntKind.i64.wrap ((N : Int) * (N : Int)) = ((N * N : Nat) : Int) by rw [hnn]; exact zO (by omega) (by omega)))<|.n (op_cmp (by simp) (.t rfl) (.t rfl) rfl)<|.n (zB (.t rfl))<|.nil) ff rfl fun g3 => ⟨_, _, [], rfl, (.k 22 rfl<|.nil), (.nil), ?_⟩)
  refine zC ?_
  refine zH (zK (.t rfl)) (fun h2 => ?_) (fun h2 => ?_)
  ·try simp only [cmpB, Z] at h2
   omega
  ·try simp only [cmpB, Z] at h2
   refine J_skip ?_
   refine zR ?_
   refine zC ?_
   refine zF (zG [] (.n (zB (.k rfl))<|.nil) ff rfl fun g4 => ⟨_, _, [], rfl, (.k 6 rfl<|.nil), (.nil), ?_⟩)
   refine zC ?_
   refine J_ret ?_
   refine zQ (.cons (.tmp (.t rfl))<|.nil) (zM (sb_res1 zL) ?_)
   exact zL
theorem good3_ok {N : Nat} {Q : List Nat} (hN : N ≤ 12) (hL : Q.length = N * N) (hf : Q.all finB = true) : Ct Tryz.prog 29 [MatP (N : Int) (N : Int) Q] (isv (.int .i64 0)) := by
 refine Ct.of Tryz.func29 rfl (by kernel_rfl) rfl fun c0 => ?_
 refine J_to (To.emps 1) ?_
 refine zF (zG [] (.w 0 (op_box 0 (.t rfl) co_agg rfl)<|.n (zB (.k rfl))<|.nil) ff rfl fun g1 => ⟨_, _, [0], rfl, (.k 1 rfl<|.nil), (.k 0 rfl<|.nil), ?_⟩)
 refine zC ?_
 refine zF ?_
 refine zF (zG [] (.n (zI fd30_0 (.t rfl) rfl)<|.r 0 (zN 0 sc3 (.t rfl) rfl zJ rfl)<|.n (zI fd30_1 (.t rfl) rfl)<|.r 0 (zN 0 sc3 (.t rfl) rfl zJ rfl)<|.n (zI fd30_2 (.t rfl) rfl)<|.r 0 (zN 0 sc28 (.t rfl) rfl zJ rfl)<|.n (op_len_m sl28 (.t rfl))<|.n (zP (shape_ok hN hL) ⟨(.t rfl), (.t rfl), (.t rfl),  trivial⟩)<|.n (zB (.t rfl))<|.nil) ff rfl fun g2 => ⟨_, _, [0], rfl, (.k 1 rfl<|.k 3 rfl<|.nil), (.k 0 rfl<|.nil), ?_⟩)
 refine zC ?_
 refine zF (zG [] (.n (zA (.t rfl))<|.n (op_cmp (by simp) (.t rfl) (.k rfl) rfl)<|.nil) ff rfl fun g3 => ⟨_, _, [0], rfl, (.k 1 rfl<|.k 3 rfl<|.k 13 rfl<|.nil), (.k 0 rfl<|.nil), ?_⟩)
 refine zC ?_
 refine zH (zK (.t rfl)) (fun h1 => ?_) (fun h1 => ?_)
 ·have h1' := h1
  try simp only [cmpB, Z] at h1
  exact absurd h1' (by decide)
 ·have h1' := h1
  try simp only [cmpB, Z] at h1
  refine J_skip ?_
  refine zC ?_
  refine zF ?_
  refine zF (zG [] (.n (zI fd30_2 (.t rfl) rfl)<|.r 0 (zN 0 sc28 (.t rfl) rfl zJ rfl)<|.n (zP (rall_ok) ⟨(.t rfl),  trivial⟩)<|.n (op_not (.t rfl))<|.nil) ff rfl fun g4 => ⟨_, _, [], rfl, (.k 18 rfl<|.nil), (.nil), ?_⟩)
  refine zC ?_
  refine zH (zK (.t rfl)) (fun h2 => ?_) (fun h2 => ?_)
  ·have h2' := h2
   try simp only [cmpB, Z] at h2
   exact absurd h2' (by rw [hf]; decide)
  ·have h2' := h2
   try simp only [cmpB, Z] at h2
   refine J_skip ?_
   refine zC ?_
   refine zF (zG [] (.n (zB (.k rfl))<|.nil) ff rfl fun g5 => ⟨_, _, [], rfl, (.k 2 rfl<|.nil), (.nil), ?_⟩)
   refine zC ?_
   refine J_ret ?_
   refine zQ (.cons (.tmp (.t rfl))<|.nil) (zM (sb_res1 zL) ?_)
   exact zL
theorem qsm_ok {N : Nat} {Q : List Nat} {l : Prop} (hP : PMat (N : Int) Q l) (hl : l) : Ct Tryz.prog 21 [MatP (N : Int) (N : Int) Q] (tupp [isv (.int .i64 3), isv (.int .i64 0)]) := by
 refine Ct.of Tryz.func21 rfl (by kernel_rfl) rfl fun c0 => ?_
 have hs0 := hP.s
 have hN12 : N ≤ 12 := by have := hs0.2.1; omega
 have hNN : N * N ≤ 144 := Nat.mul_le_mul hN12 hN12
 have hQl : Q.length = N * N := by have := hP.l; rw [← Int.natCast_mul] at this; omega
 have hmq : ∀ r j, r < N → j < N → (Q.map fltQ).getD (r * N + j) 0 = matQ N Q r j := fun r j hr hj => by unfold matQ; rw [if_pos ⟨hr, hj⟩, map_getQ (by rw [hQl]; exact row_lt hr hj)]
 have hml : (Q.map fltQ).length = N * N := by rw [List.length_map]; exact hQl
 have hE := hP.e hl N rfl
 have hsz := elp_sz hml hmq hE
 have hsy : ∀ i j, i < N → j < N → (Q.map fltQ).getD (i * N + j) 0 = (Q.map fltQ).getD (j * N + i) 0 := fun i j hi hj => by rw [hmq i j hi hj, hmq j i hj hi, matQ_at hi hj, matQ_at hj hi, hP.y j i ⟨by omega, by omega, by omega, by omega⟩]
 refine J_to (To.emps 1) ?_
 refine zF (zG [] (.w 0 (op_box 0 (.t rfl) co_agg rfl)<|.n (zB (.k rfl))<|.n (zB (.k rfl))<|.nil) ff rfl fun g1 => ⟨_, _, [0], rfl, (.k 1 rfl<|.nil), (.k 0 rfl<|.nil), ?_⟩)
 refine zC ?_
 refine zF ?_
 refine zF (zG [] (.r 0 (op_get_ag 0 ag30 (.t rfl) rfl zJ rfl rfl)<|.n (zP (good3_ok hN12 hQl (List.all_eq_true.2 fun x hx => by obtain ⟨i, hi, e⟩ := List.getElem_of_mem hx; have := hP.f i hi; rw [List.getD, List.getElem?_eq_getElem hi] at this; rw [← e]; exact this)) ⟨(.t rfl),  trivial⟩)<|.n (zB (.t rfl))<|.nil) ff rfl fun g2 => ⟨_, _, [0], rfl, (.k 1 rfl<|.k 4 rfl<|.nil), (.k 0 rfl<|.nil), ?_⟩)
 refine zC ?_
 refine zF (zG [] (.n (zA (.t rfl))<|.n (op_cmp (by simp) (.t rfl) (.k rfl) rfl)<|.nil) ff rfl fun g3 => ⟨_, _, [0], rfl, (.k 1 rfl<|.k 4 rfl<|.k 9 rfl<|.nil), (.k 0 rfl<|.nil), ?_⟩)
 refine zC ?_
 refine zH (zK (.t rfl)) (fun h1 => ?_) (fun h1 => ?_)
 ·have h1' := h1
  try simp only [cmpB, Z] at h1
  exact absurd h1' (by decide)
 ·have h1' := h1
  try simp only [cmpB, Z] at h1
  refine J_skip ?_
  refine zC ?_
  refine zF ?_
  refine zF (zG [] (.n (zI fd30_0 (.t rfl) rfl)<|.r 0 (zN 0 sc3 (.t rfl) rfl zJ rfl)<|.n (zI fd30_1 (.t rfl) rfl)<|.r 0 (zN 0 sc3 (.t rfl) rfl zJ rfl)<|.n (op_cmp (by simp) (.t rfl) (.t rfl) rfl)<|.nil) ff rfl fun g4 => ⟨_, _, [0], rfl, (.k 1 rfl<|.k 15 rfl<|.nil), (.k 0 rfl<|.nil), ?_⟩)
  refine zC ?_
  refine zH (zK (.t rfl)) (fun h2 => ?_) (fun h2 => ?_)
  ·have h2' := h2
   try simp only [cmpB, Z] at h2
   exact absurd h2' (by simp [cmpB])
  ·have h2' := h2
   try simp only [cmpB, Z] at h2
   refine J_skip ?_
   refine zC ?_
   refine J_to (To.emps 1) ?_
   refine zF (zG [] (.r 0 (op_get_ag 0 ag30 (.t rfl) rfl zJ rfl rfl)<|.n (zP (ofmat_ok hP.f (by omega)) ⟨(.t rfl),  trivial⟩)<|.w 1 (op_alloc 1 zr64 rfl rfl)<|.w 1 (op_store_new 1 rfl (.t rfl) co_agg sz64 rfl rfl)<|.nil) ff rfl fun g5 => ⟨_, _, [1], rfl, (.k 5 rfl<|.nil), (.k 1 rfl<|.nil), ?_⟩)
   refine zC ?_
   refine zF ?_
   refine zF (zG [] (.r 0 (op_get_ag 0 ag64 (.t rfl) rfl zJ rfl rfl)<|.n (zP (qsym_ok hml hN12 (fun m => (hsz m).mono (by omega)) hsy) ⟨(.t rfl),  trivial⟩)<|.n (op_not (.t rfl))<|.nil) ff rfl fun g6 => ⟨_, _, [0], rfl, (.k 5 rfl<|.k 20 rfl<|.nil), (.k 0 rfl<|.nil), ?_⟩)
   refine zC ?_
   refine zH (zK (.t rfl)) (fun h3 => ?_) (fun h3 => ?_)
   ·have h3' := h3
    try simp only [cmpB, Z] at h3
    exact absurd h3' (by decide)
   ·have h3' := h3
    try simp only [cmpB, Z] at h3
    refine J_skip ?_
    refine zC ?_
    refine zF (zG [] (.r 0 (op_get_ag 0 ag64 (.t rfl) rfl zJ rfl rfl)<|.n (zP (qsign_ok hml hN12 hmq hE) ⟨(.t rfl),  trivial⟩)<|.n (zB (.t rfl))<|.n (zB (.k rfl))<|.nil) ff rfl fun g7 => ⟨_, _, [], rfl, (.k 2 rfl<|.k 3 rfl<|.nil), (.nil), ?_⟩)
    refine zC ?_
    refine J_ret ?_
    refine zQ (.cons (.tmp (.t rfl))<|.cons (.tmp (.t rfl))<|.nil) (zM (sb_res (.cons zL<|.cons zL<|.nil)) ?_)
    exact zL
theorem rsm_ok {N : Nat} {Q : List Nat} {l : Prop} (hP : PMat (N : Int) Q l) (hl : l) : Ct Tryz.prog 12 [MatP (N : Int) (N : Int) Q] (tupp [isv (.int .i64 3), isv (.int .i64 0)]) := by
 refine Ct.of Tryz.func12 rfl (by kernel_rfl) rfl fun c0 => ?_
 refine J_to (To.emps 1) ?_
 refine zF (zG [] (.w 0 (op_box 0 (.t rfl) co_agg rfl)<|.n (zB (.k rfl))<|.n (zB (.k rfl))<|.nil) ff rfl fun g1 => ⟨_, _, [0], rfl, (.k 1 rfl<|.nil), (.k 0 rfl<|.nil), ?_⟩)
 refine zC ?_
 refine zF (zG [] (.r 0 (op_get_ag 0 ag30 (.t rfl) rfl zJ rfl rfl)<|.n (zP (qsm_ok hP hl) ⟨(.t rfl),  trivial⟩)<|.n (op_extract (.t rfl) rfl)<|.n (op_extract (.t rfl) rfl)<|.n (zB (.t rfl))<|.n (zB (.t rfl))<|.nil) ff rfl fun g2 => ⟨_, _, [], rfl, (.k 2 rfl<|.k 3 rfl<|.nil), (.nil), ?_⟩)
 refine zC ?_
 refine J_ret ?_
 refine zQ (.cons (.tmp (.t rfl))<|.cons (.tmp (.t rfl))<|.nil) (zM (sb_res (.cons zL<|.cons zL<|.nil)) ?_)
 exact zL
theorem loud_ok {ls : List Prt} (hb : GoodL ls) : Ct Tryz.prog 11 [slk 4 prtU ls] (isv (.bool (loudL ls))) := by
 refine Ct.of Tryz.func11 rfl (by kernel_rfl) rfl fun c0 => ?_
 refine J_lenk 0 rfl fun hlen => ?_
 refine zF (zG [] (.n (zB (.k rfl))<|.nil) ff rfl fun g1 => ⟨_, _, [], rfl, (.k 0 rfl<|.nil), (.nil), ?_⟩)
 refine zC ?_
 refine zF ?_
 refine zF (zG [] (.n (zB (.k rfl))<|.nil) ff rfl fun g2 => ⟨_, _, [], rfl, (.k 0 rfl<|.k 3 rfl<|.nil), (.nil), ?_⟩)
 refine zC ?_
 refine zT ?_
 refine J_loopc (α := Nat) (fun k => k ≤ ls.length ∧ LoudG ls k) (fun k => ls.length - k) (fun k restR => (3, isv (.int .i64 (k : Int))) :: restR) (fun k restS => restS) (ρc := [(0, _)]) (σc := []) 0 (by exact ⟨Nat.zero_le _, loudG_zero⟩) (To.pick (fun _ => .sub (t := 3) rfl (sp_eq (by rfl))<|.k 0 rfl<|.nil) (fun _ => .nil) (ks := []) rfl) (fun k hI => ?_)
 obtain ⟨hk, hp⟩ := hI
 refine zF ?_
 refine zF (zG [] (.n (zA (.t rfl))<|.n (zA (.t rfl))<|.n (op_len_sk sl22 (.t rfl))<|.n (op_cmp (by simp) (.t rfl) (.t rfl) rfl)<|.nil) ff rfl fun g3 => ⟨_, _, [], rfl, (.k 0 rfl<|.k 3 rfl<|.k 7 rfl<|.nil), (.nil), ?_⟩)
 refine zC ?_
 refine zH (zK (.t rfl)) (fun h1 => ?_) (fun h1 => ?_)
 ·try simp only [cmpB, Z] at h1
  refine J_skip ?_
  refine zC ?_
  refine zF ?_
  refine zT ?_
  refine zF (zG [] (.n (zA (.t rfl))<|.n (zA (.t rfl))<|.n (op_index_sk (mk := prtU) prtD sl22 prtU_len (.t rfl) (.t rfl) (by omega) (by omega))<|.n (op_field_ptr fd51_0 (.t rfl) rfl)<|.n (op_load_sc sc3 (.t rfl) rfl)<|.n (op_cmp (by simp) (.t rfl) (.k rfl) rfl)<|.n (zA (.t rfl))<|.n (op_guard rfl rfl (gd_b rfl) (fun hC => (zA (.t rfl))))<|.n (op_guard rfl rfl (gd_b rfl) (fun hC => (zA (.t rfl))))<|.n (op_guard rfl rfl (gd_b rfl) (fun hC => (op_index_sk (mk := prtU) prtD sl22 prtU_len (.w rfl hC) (.w rfl hC) (by omega) (by omega))))<|.n (op_guard rfl rfl (gd_b rfl) (fun hC => (op_field_ptr fd51_2 (.w rfl hC) rfl)))<|.n (op_guard rfl rfl (gd_b rfl) (fun hC => (op_load_sc sc37 (.w rfl hC) rfl)))<|.n (op_guard rfl rfl (gd_b rfl) (fun hC => (zP (f_ok (goodL_at hb (by omega)).1) ⟨(.w rfl hC),  trivial⟩)))<|.n (op_guard rfl rfl (gd_b rfl) (fun hC => (zP (ldexpM100) ⟨(Lk.fk rfl (by decide +kernel)), (.k rfl),  trivial⟩)))<|.n (op_guard rfl rfl (gd_b rfl) (fun hC => (op_fcmp (by simp) (.w rfl hC) (.w rfl hC) rfl)))<|.n (op_guard rfl rfl (gd_b rfl) (fun hC => (op_not (.w rfl hC))))<|.n (op_or (.t rfl) (fun h2 => (.w rfl h2)))<|.nil) ff rfl fun g4 => ⟨_, _, [], rfl, (.k 0 rfl<|.k 3 rfl<|.k 26 rfl<|.nil), (.nil), ?_⟩)
  refine zC ?_
  refine zH (zK (.t rfl)) (fun h2 => ?_) (fun h2 => ?_)
  ·try simp only [cmpB, Z] at h2
   refine zF (zG [] (.n (zB (.k rfl))<|.nil) ff rfl fun g5 => ⟨_, _, [], rfl, (.k 2 rfl<|.nil), (.nil), ?_⟩)
   refine zC ?_
   refine J_ret ?_
   refine JN_block_ret ?_
   refine zD ?_
   refine zD ?_
   refine JN_block_ret ?_
   refine zD ?_
   refine zQ (.cons (.tmp (.t rfl))<|.nil) (zM (sb_res1 zL) ?_)
   exact ret_b (loudL_false (k := k) (by omega) (loudP_0 h2)).symm
  ·try simp only [cmpB, Z] at h2
   have hlk : loudP (ls.getD k prtD) = true := loudP_1 h2
   refine J_skip ?_
   refine zR ?_
   refine zC ?_
   refine (zG [] (.n (zA (.t rfl))<|.n (op_add (.t rfl) (.k rfl) (zO (by omega) (by omega)))<|.n (zB (.t rfl))<|.nil) ff rfl fun g6 => ⟨_, _, [], rfl, (.k 0 rfl<|.k 3 rfl<|.nil), (.nil), ?_⟩)
   exact JN_again (k + 1) (by exact ⟨by omega, loudG_step hp hlk⟩) (by omega) (To.pick (fun _ => .sub (t := 3) rfl (sp_eq (by rfl))<|.k 0 rfl<|.nil) (fun _ => .nil) (ks := []) rfl)
 ·try simp only [cmpB, Z] at h1
  refine J_exit ?_
  refine zE ?_
  refine zE ?_
  refine zS ?_
  refine zC ?_
  refine zF (zG [] (.n (zB (.k rfl))<|.nil) ff rfl fun g7 => ⟨_, _, [], rfl, (.k 2 rfl<|.nil), (.nil), ?_⟩)
  refine zC ?_
  refine J_ret ?_
  refine zQ (.cons (.tmp (.t rfl))<|.nil) (zM (sb_res1 zL) ?_)
  exact ret_b (loudL_true.2 ((show k = ls.length by omega) ▸ hp)).symm
theorem positive_ok {ls : List Prt} {t : Int} (hb : GoodL ls) : Ct Tryz.prog 3 [slk 4 prtU ls, isv (.int .i64 t)] (isv (.bool true)) := by
 refine Ct.of Tryz.func3 rfl (by kernel_rfl) rfl fun c0 => ?_
 refine J_lenk 0 rfl fun hlen => ?_
 refine zF (zG [] (.n (zB (.k rfl))<|.nil) ff rfl fun g1 => ⟨_, _, [], rfl, (.k 0 rfl<|.k 1 rfl<|.nil), (.nil), ?_⟩)
 refine zC ?_
 refine zF ?_
 refine zF (zG [] (.n (zP (awake_ok) trivial)<|.n (op_not (.t rfl))<|.nil) ff rfl fun g2 => ⟨_, _, [], rfl, (.k 0 rfl<|.k 1 rfl<|.k 15 rfl<|.nil), (.nil), ?_⟩)
 refine zC ?_
 refine zH (zK (.t rfl)) (fun h1 => ?_) (fun h1 => ?_)
 ·have h1' := h1
  try simp only [cmpB, Z] at h1
  exact absurd h1' (by simp [cmpB])
 ·have h1' := h1
  try simp only [cmpB, Z] at h1
  refine J_skip ?_
  refine zC ?_
  refine J_to (To.emps 1) ?_
  refine zF (zG [] (.n (zA (.t rfl))<|.n (zP (motion_ok (by assumption)) ⟨(.t rfl),  trivial⟩)<|.w 0 (op_alloc 0 zr26 rfl rfl)<|.w 0 (op_store_new 0 rfl (.t rfl) co_agg sz26 rfl rfl)<|.nil) ff rfl fun g3 => ⟨_, _, [0], rfl, (.k 0 rfl<|.k 1 rfl<|.k 5 rfl<|.nil), (.k 0 rfl<|.nil), ?_⟩)
  refine zC ?_
  refine J_to (To.emps 1) ?_
  refine zF (zG [] (.r 0 (op_get_ag 0 ag26 (.t rfl) rfl zJ rfl rfl)<|.n (zA (.t rfl))<|.n (zP (mQ_ok) ⟨(.t rfl), (.t rfl),  trivial⟩)<|.n (zA (.t rfl))<|.n (op_extract (.t rfl) rfl)<|.n (op_extract (.t rfl) rfl)<|.w 1 (op_alloc 1 zr30 rfl rfl)<|.w 1 (op_store_new 1 rfl (.t rfl) co_agg sz30 rfl rfl)<|.n (zB (.t rfl))<|.nil) ff rfl fun g4 => ⟨_, _, [0, 1], rfl, (.k 0 rfl<|.k 1 rfl<|.k 5 rfl<|.k 6 rfl<|.k 7 rfl<|.nil), (.k 0 rfl<|.k 1 rfl<|.nil), ?_⟩)
  refine zC ?_
  refine zF ?_
  refine zF (zG [] (.n (zA (.t rfl))<|.n (op_cmp (by simp) (.t rfl) (.k rfl) rfl)<|.nil) ff rfl fun g5 => ⟨_, _, [0, 1], rfl, (.k 0 rfl<|.k 1 rfl<|.k 5 rfl<|.k 6 rfl<|.k 25 rfl<|.nil), (.k 0 rfl<|.k 1 rfl<|.nil), ?_⟩)
  refine zC ?_
  refine zH (zK (.t rfl)) (fun h2 => ?_) (fun h2 => ?_)
  ·try simp only [cmpB, Z] at h2
   refine zF (zG [] (.n (zI fd30_2 (.t rfl) rfl)<|.r 1 (zN 1 sc28 (.t rfl) rfl zJ rfl)<|.n (op_len_m sl28 (.t rfl))<|.n (op_cmp (by simp) (.t rfl) (.k rfl) rfl)<|.n (zB (.t rfl))<|.nil) ff rfl fun g6 => ⟨_, _, [], rfl, (.k 4 rfl<|.nil), (.nil), ?_⟩)
   refine zC ?_
   refine J_ret ?_
   refine zD ?_
   refine zQ (.cons (.tmp (.t rfl))<|.nil) (zM (sb_res1 zL) ?_)
   exact ret_b (by simp [cmpB, blkM_nil h2])
  ·try simp only [cmpB, Z] at h2
   have hq0 : (blkM noiseB (ls.map pcn) t).e = 0 := h2
   obtain ⟨hme, ht0, ht1, hQE⟩ := blkM_fin hq0
   obtain ⟨n, hn⟩ : ∃ n, tot (ls.map pcn) (ls.map pcn).length = n := ⟨_, rfl⟩
   have hPM := pmat_of hb hq0 hn
   obtain ⟨N, rfl⟩ := hPM.N
   rw [hn] at hQE
   have hs0 := hPM.s
   have hsq := hs0.mul
   have hs2 := hs0.2.1
   rw [hQE]
   dsimp only
   generalize layP noiseB (secR t).a (ls.map pcn) (N : Int) (ls.map pcn).length = Q at *
   have lQ := hPM.l
   have gQ : Good (N : Int) (N : Int) Q := ⟨hs0, hPM.l⟩
   refine J_skip ?_
   refine zC ?_
   refine zF (zG [] (.r 0 (op_get_ag 0 ag26 (.t rfl) rfl zJ rfl rfl)<|.n (zP (mDimx_ok hme hn) ⟨(.t rfl),  trivial⟩)<|.n (zA (.t rfl))<|.n (op_extract (.t rfl) rfl)<|.n (op_extract (.t rfl) rfl)<|.n (zB (.t rfl))<|.n (zB (.t rfl))<|.nil) ff rfl fun g7 => ⟨_, _, [1], rfl, (.k 0 rfl<|.k 1 rfl<|.k 6 rfl<|.k 8 rfl<|.nil), (.k 1 rfl<|.nil), ?_⟩)
   refine zC ?_
   refine zF ?_
   refine zF (zG [] (.r 0 (op_get_ag 0 ag30 (.t rfl) rfl zJ rfl rfl)<|.n (zA (.t rfl))<|.n (zP (good_ok hs0) ⟨(.t rfl), (.t rfl),  trivial⟩)<|.n (op_not (.t rfl))<|.nil) ff rfl fun g8 => ⟨_, _, [0], rfl, (.k 0 rfl<|.k 1 rfl<|.k 6 rfl<|.k 8 rfl<|.k 38 rfl<|.nil), (.k 0 rfl<|.nil), ?_⟩)
   refine zC ?_
   refine zH (zK (.t rfl)) (fun h3 => ?_) (fun h3 => ?_)
   ·have h3' := h3
    try simp only [cmpB, Z] at h3
    exact absurd h3' (by rw [goodB_ok lQ]; simp [cmpB])
   ·have h3' := h3
    try simp only [cmpB, Z] at h3
    refine J_skip ?_
    refine zC ?_
    refine zF ?_
    refine zF (zG [] (.n (zB (.k rfl))<|.nil) ff rfl fun g9 => ⟨_, _, [0], rfl, (.k 0 rfl<|.k 1 rfl<|.k 6 rfl<|.k 8 rfl<|.k 10 rfl<|.nil), (.k 0 rfl<|.nil), ?_⟩)
    refine zC ?_
    refine zT ?_
    refine J_loopc (α := Nat) (fun i => i ≤ N) (fun i => N - i) (fun i restR => (10, isv (.int .i64 (i : Int))) :: restR) (fun i restS => restS) (ρc := [(0, _), (1, _), (6, _), (8, _)]) (σc := [_]) 0 (by omega) (To.pick (fun _ => .sub (t := 10) rfl (sp_eq (by rfl))<|.k 0 rfl<|.k 1 rfl<|.k 6 rfl<|.k 8 rfl<|.nil) (fun _ => .k 0 rfl<|.nil) (ks := [0]) rfl) (fun i hI => ?_)
    refine zF ?_
    refine zF (zG [] (.n (zA (.t rfl))<|.n (zA (.t rfl))<|.n (op_cmp (by simp) (.t rfl) (.t rfl) rfl)<|.nil) ff rfl fun g10 => ⟨_, _, [0], rfl, (.k 0 rfl<|.k 1 rfl<|.k 6 rfl<|.k 8 rfl<|.k 10 rfl<|.k 41 rfl<|.nil), (.k 0 rfl<|.nil), ?_⟩)
    refine zC ?_
    refine zH (zK (.t rfl)) (fun h4 => ?_) (fun h4 => ?_)
    ·try simp only [cmpB, Z] at h4
     refine J_skip ?_
     refine zC ?_
     refine zF ?_
     refine zT ?_
     refine zF (zG [] (.n (zB (.k rfl))<|.nil) ff rfl fun g11 => ⟨_, _, [0], rfl, (.k 0 rfl<|.k 1 rfl<|.k 6 rfl<|.k 8 rfl<|.k 10 rfl<|.k 11 rfl<|.nil), (.k 0 rfl<|.nil), ?_⟩)
     refine zC ?_
     refine zT ?_
     refine J_loopc (α := Nat) (fun j => j ≤ N) (fun j => N - j) (fun j restR => (11, isv (.int .i64 (j : Int))) :: restR) (fun j restS => restS) (ρc := [(0, _), (1, _), (6, _), (8, _), (10, _)]) (σc := [_]) 0 (by omega) (To.pick (fun _ => .sub (t := 11) rfl (sp_eq (by rfl))<|.k 0 rfl<|.k 1 rfl<|.k 6 rfl<|.k 8 rfl<|.k 10 rfl<|.nil) (fun _ => .k 0 rfl<|.nil) (ks := [0]) rfl) (fun j hI => ?_)
     refine zF ?_
     refine zF (zG [] (.n (zA (.t rfl))<|.n (zA (.t rfl))<|.n (op_cmp (by simp) (.t rfl) (.t rfl) rfl)<|.nil) ff rfl fun g12 => ⟨_, _, [0], rfl, (.k 0 rfl<|.k 1 rfl<|.k 6 rfl<|.k 8 rfl<|.k 10 rfl<|.k 11 rfl<|.k 46 rfl<|.nil), (.k 0 rfl<|.nil), ?_⟩)
     refine zC ?_
     refine zH (zK (.t rfl)) (fun h5 => ?_) (fun h5 => ?_)
     ·try simp only [cmpB, Z] at h5
      have hsy := hPM.y i j ⟨by omega, by omega, by omega, by omega⟩
      have hng := hPM.g i j ⟨by omega, by omega, by omega, by omega⟩
      have hnn := fin_not_nan hng.fin
      have hnn2 : nanB (mat (N : Int) Q (j : Int) (i : Int)) = false := by rw [hsy]; exact hnn
      have hge := nng_geq hng
      refine J_skip ?_
      refine zC ?_
      refine zF ?_
      refine zT ?_
      refine zF (zG [[], [], [], [0, 1, 2], [0, 1, 2, 3], [], [], [], [0, 1, 2, 3, 4, 5, 6, 7], [0, 1, 2, 3, 4, 5, 6, 7, 8], [0, 1, 2, 3, 4, 5, 6, 7, 8, 9], [0, 1, 2, 3, 4, 5, 6, 7, 8, 9, 10], [0, 1, 2, 3, 4, 5, 6, 7, 8, 9, 10, 11], [0, 1, 2, 3, 4, 5, 6, 7, 8, 9, 10, 11], [0, 1, 2, 3, 4, 5, 6, 7, 8, 9, 10, 11], [0, 1, 2, 3, 4, 5, 6, 7, 8, 9, 10, 11, 12, 13, 14], [0, 1, 2, 3, 4, 5, 6, 7, 8, 9, 10, 11, 12, 13, 14, 15], [0, 1, 2, 3, 4, 5, 6, 7, 8, 9, 10, 11, 12, 13, 14, 15, 16], [0, 1, 2, 3, 4, 5, 6, 7, 8, 9, 10, 11, 12, 13, 14, 15, 16, 17]] (.r 0 (op_get_ag 0 ag30 (.t rfl) rfl zJ rfl rfl)<|.n (zA (.t rfl))<|.n (zA (.t rfl))<|.n (zP (at_ok gQ ⟨by omega, by omega, by omega, by omega⟩) ⟨(.t rfl), (.t rfl), (.t rfl),  trivial⟩)<|.n (op_f64bitsn bitsX hnn (.t rfl))<|.r 0 (op_get_ag 0 ag30 (.t rfl) rfl zJ rfl rfl)<|.n (zA (.t rfl))<|.n (zA (.t rfl))<|.n (zP (at_ok gQ ⟨by omega, by omega, by omega, by omega⟩) ⟨(.t rfl), (.t rfl), (.t rfl),  trivial⟩)<|.n (op_f64bitsn bitsX hnn2 (.t rfl))<|.n (op_cmp (by simp) (.t rfl) (.t rfl) rfl)<|.n (zA (.t rfl))<|.r 0 (op_guard rfl rfl (gd_b rfl) (fun hC => (op_get_ag 0 ag30 (.t rfl) rfl zJ rfl rfl)))<|.n (op_guard rfl rfl (gd_b rfl) (fun hC => (zA (.t rfl))))<|.n (op_guard rfl rfl (gd_b rfl) (fun hC => (zA (.t rfl))))<|.n (op_guard rfl rfl (gd_b rfl) (fun hC => (zP (at_ok gQ ⟨by omega, by omega, by omega, by omega⟩) ⟨(.w rfl hC), (.w rfl hC), (.w rfl hC),  trivial⟩)))<|.n (op_guard rfl rfl (gd_b rfl) (fun hC => (op_fcmp (by simp) (.w rfl hC) (Lk.fk rfl (by decide +kernel)) rfl)))<|.n (op_guard rfl rfl (gd_b rfl) (fun hC => (op_not (.w rfl hC))))<|.n (op_or (.t rfl) (fun h2 => (.w rfl h2)))<|.nil) (fun _ => mixed) rfl fun g13 => ⟨_, _, [0], rfl, (.k 0 rfl<|.k 1 rfl<|.k 6 rfl<|.k 8 rfl<|.k 10 rfl<|.k 11 rfl<|.k 67 rfl<|.nil), (.k 0 rfl<|.nil), ?_⟩)
      refine zC ?_
      refine zH (zK (.t rfl)) (fun h6 => ?_) (fun h6 => ?_)
      ·have h6' := h6
       try simp only [cmpB, Z] at h6
       exact absurd h6' (by rw [hsy, hge]; simp [cmpB])
      ·have h6' := h6
       try simp only [cmpB, Z] at h6
       refine J_skip ?_
       refine zR ?_
       refine zC ?_
       refine (zG [] (.n (zA (.t rfl))<|.n (op_add (.t rfl) (.k rfl) (zO (by omega) (by omega)))<|.n (zB (.t rfl))<|.nil) ff rfl fun g14 => ⟨_, _, [0], rfl, (.k 0 rfl<|.k 1 rfl<|.k 6 rfl<|.k 8 rfl<|.k 10 rfl<|.k 11 rfl<|.nil), (.k 0 rfl<|.nil), ?_⟩)
       exact JN_again (j + 1) (by omega) (by omega) (To.pick (fun _ => .sub (t := 11) rfl (sp_eq (by rfl))<|.k 0 rfl<|.k 1 rfl<|.k 6 rfl<|.k 8 rfl<|.k 10 rfl<|.nil) (fun _ => .k 0 rfl<|.nil) (ks := [0]) rfl)
     ·try simp only [cmpB, Z] at h5
      refine J_exit ?_
      refine zE ?_
      refine zE ?_
      refine zS ?_
      refine zR ?_
      refine zC ?_
      refine (zG [] (.n (zA (.t rfl))<|.n (op_add (.t rfl) (.k rfl) (zO (by omega) (by omega)))<|.n (zB (.t rfl))<|.nil) ff rfl fun g15 => ⟨_, _, [0], rfl, (.k 0 rfl<|.k 1 rfl<|.k 6 rfl<|.k 8 rfl<|.k 10 rfl<|.nil), (.k 0 rfl<|.nil), ?_⟩)
      exact JN_again (i + 1) (by omega) (by omega) (To.pick (fun _ => .sub (t := 10) rfl (sp_eq (by rfl))<|.k 0 rfl<|.k 1 rfl<|.k 6 rfl<|.k 8 rfl<|.nil) (fun _ => .k 0 rfl<|.nil) (ks := [0]) rfl)
    ·try simp only [cmpB, Z] at h4
     refine J_exit ?_
     refine zE ?_
     refine zE ?_
     refine zS ?_
     refine zC ?_
     refine zF ?_
     refine zF (zG [] (.n (zA (.t rfl))<|.n (op_cmp (by simp) (.t rfl) (.k rfl) rfl)<|.n (zA (.t rfl))<|.n (op_guard rfl rfl (gd_b rfl) (fun hC => (zA (.t rfl))))<|.n (op_guard rfl rfl (gd_b rfl) (fun hC => (zP (loud_ok hb) ⟨(.w rfl hC),  trivial⟩)))<|.n (op_guard rfl rfl (gd_b rfl) (fun hC => (op_not (.w rfl hC))))<|.n (op_or (.t rfl) (fun h2 => (.w rfl h2)))<|.nil) ff rfl fun g16 => ⟨_, _, [0], rfl, (.k 6 rfl<|.k 74 rfl<|.nil), (.k 0 rfl<|.nil), ?_⟩)
     refine zC ?_
     refine zH (zK (.t rfl)) (fun h7 => ?_) (fun h7 => ?_)
     ·try simp only [cmpB, Z] at h7
      refine zF (zG [] (.n (zB (.k rfl))<|.nil) ff rfl fun g17 => ⟨_, _, [], rfl, (.k 4 rfl<|.nil), (.nil), ?_⟩)
      refine zC ?_
      refine J_ret ?_
      refine zD ?_
      refine zQ (.cons (.tmp (.t rfl))<|.nil) (zM (sb_res1 zL) ?_)
      exact zL
     ·try simp only [cmpB, Z] at h7
      have hLo : 1 ≤ t ∧ loudL ls = true := h7
      refine J_skip ?_
      refine zC ?_
      refine zF (zG [] (.r 0 (op_get_ag 0 ag30 (.t rfl) rfl zJ rfl rfl)<|.n (zP (rsm_ok hPM hLo) ⟨(.t rfl),  trivial⟩)<|.n (zA (.t rfl))<|.n (op_extract (.t rfl) rfl)<|.n (op_extract (.t rfl) rfl)<|.n (zB (.t rfl))<|.n (zB (.t rfl))<|.nil) ff rfl fun g18 => ⟨_, _, [], rfl, (.k 12 rfl<|.nil), (.nil), ?_⟩)
      refine zC ?_
      refine zF (zG [] (.n (zA (.t rfl))<|.n (op_cmp (by simp) (.t rfl) (.k rfl) rfl)<|.n (zB (.t rfl))<|.nil) ff rfl fun g19 => ⟨_, _, [], rfl, (.k 4 rfl<|.nil), (.nil), ?_⟩)
      refine zC ?_
      refine J_ret ?_
      refine zQ (.cons (.tmp (.t rfl))<|.nil) (zM (sb_res1 zL) ?_)
      exact zL
end Go.Proofs.YtjnmgcglooeooaaGreatDoor
