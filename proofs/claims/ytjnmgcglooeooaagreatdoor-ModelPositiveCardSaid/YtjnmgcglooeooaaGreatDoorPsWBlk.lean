/- Printed by a program of ours (walk.py): walks of the blocks of a motion. -/
import Derived.Test.YtjnmgcglooeooaaGreatDoorPsKb
import Derived.Test.YtjnmgcglooeooaaGreatDoorProg
import Derived.KernelRfl
import Derived.Test.YtjnmgcglooeooaaGreatDoorPsTypes
import Derived.Test.YtjnmgcglooeooaaGreatDoorPsWModel
set_option linter.unusedVariables false
set_option linter.unusedSimpArgs false
set_option maxRecDepth 20000
set_option maxHeartbeats 1000000
namespace Go.Proofs.YtjnmgcglooeooaaGreatDoor
open Go Go.Bn
attribute [local irreducible] OpOK
theorem mblk_ok {ps : List Prt} {t : Int} {g : BF} (hb : BOk g) : Ct Tryz.prog 17 [MotP ps, isv (.int .i64 t), fnq Tryz.prog (α := Prt × Nat) (fun _ => True) (fun i => [aggp (prtC i.1), flp i.2]) (fun i => slm (slm flp) (g i.1 i.2))] (resM (blkM g ps t)) := by
 refine Ct.of Tryz.func17 rfl (by kernel_rfl) rfl fun c0 => ?_
 refine J_lenP 0 rfl fun hlen => ?_
 refine J_to (To.emps 2) ?_
 refine zF (zG [] (.w 0 (op_box 0 (.t rfl) co_agg rfl)<|.w 1 (op_alloc 1 zr30 rfl rfl)<|.n (zB (.k rfl))<|.nil) ff rfl fun g1 => ⟨_, _, [0, 1], rfl, (.k 1 rfl<|.k 2 rfl<|.k 3 rfl<|.k 6 rfl<|.nil), (.k 0 rfl<|.k 1 rfl<|.nil), ?_⟩)
 refine zC ?_
 refine zF (zG [] (.r 0 (op_get_ag 0 ag26 (.t rfl) rfl zJ rfl rfl)<|.n (zP (mdim_ok) ⟨(.t rfl),  trivial⟩)<|.n (zA (.t rfl))<|.n (op_extract (.t rfl) rfl)<|.n (op_extract (.t rfl) rfl)<|.n (zB (.t rfl))<|.n (zB (.t rfl))<|.nil) ff rfl fun g2 => ⟨_, _, [0, 1], rfl, (.k 1 rfl<|.k 2 rfl<|.k 3 rfl<|.k 6 rfl<|.k 8 rfl<|.k 9 rfl<|.nil), (.k 0 rfl<|.k 1 rfl<|.nil), ?_⟩)
 refine zC ?_
 refine zF ?_
 refine zF (zG [] (.n (zA (.t rfl))<|.n (op_cmp (by simp) (.t rfl) (.k rfl) rfl)<|.nil) ff rfl fun g3 => ⟨_, _, [0, 1], rfl, (.k 1 rfl<|.k 2 rfl<|.k 3 rfl<|.k 6 rfl<|.k 8 rfl<|.k 9 rfl<|.k 26 rfl<|.nil), (.k 0 rfl<|.k 1 rfl<|.nil), ?_⟩)
 refine zC ?_
 refine zH (zK (.t rfl)) (fun h1 => ?_) (fun h1 => ?_)
 ·try simp only [cmpB, Z] at h1
  rw [dimR_e] at h1
  refine zF (zG [] (.n (op_build zr30 rfl pl30 .nil)<|.n (zA (.t rfl))<|.w 1 (op_store_b 1 (.t rfl) (.t rfl) co_agg sz30 rfl rfl rfl)<|.n (zB (.t rfl))<|.nil) ff rfl fun g4 => ⟨_, _, [1], rfl, (.k 6 rfl<|.k 7 rfl<|.nil), (.k 1 rfl<|.nil), ?_⟩)
  refine zC ?_
  refine J_ret ?_
  refine zD ?_
  refine zQ (.cons (.ag 0 (.t rfl) ag30 rfl rfl rfl)<|.cons (.tmp (.t rfl))<|.nil) (zM (sb_res (.cons (sb_agg (.cons zL<|.cons zL<|.cons (sb_nil (mk := flp))<|.nil))<|.cons zL<|.nil)) ?_)
  rw [dimR_e]
  exact ret_M (blkM_1 h1)
 ·try simp only [cmpB, Z] at h1
  rw [dimR_e] at h1
  obtain ⟨h0, hgd, htl⟩ := mot_good h1
  have htl0 := (tot_rng hgd).1
  have hda : (dimR ps).a = tot ps ps.length := by rw [dimR_ok h1]
  obtain ⟨n, hn⟩ : ∃ n, n = tot ps ps.length := ⟨_, rfl⟩
  rw [hda, ← hn]
  have hs : Siz n n := ⟨by omega, by omega, by omega, by omega⟩
  have hsq := sq_rng (n := n) (by omega) (by omega)
  refine J_skip ?_
  refine zC ?_
  refine zF ?_
  refine zF (zG [] (.n (zA (.t rfl))<|.n (op_cmp (by simp) (.t rfl) (.k rfl) rfl)<|.n (zA (.t rfl))<|.n (op_guard rfl rfl (gd_b rfl) (fun hC => (zA (.t rfl))))<|.n (op_guard rfl rfl (gd_b rfl) (fun hC => (op_cmp (by simp) (.w rfl hC) (.k rfl) rfl)))<|.n (op_or (.t rfl) (fun h2 => (.w rfl h2)))<|.nil) ff rfl fun g5 => ⟨_, _, [0, 1], rfl, (.k 1 rfl<|.k 2 rfl<|.k 3 rfl<|.k 6 rfl<|.k 8 rfl<|.k 34 rfl<|.nil), (.k 0 rfl<|.k 1 rfl<|.nil), ?_⟩)
  refine zC ?_
  refine zH (zK (.t rfl)) (fun h2 => ?_) (fun h2 => ?_)
  ·try simp only [cmpB, Z] at h2
   refine zF (zG [] (.n (op_build zr30 rfl pl30 .nil)<|.w 1 (op_store_b 1 (.t rfl) (.t rfl) co_agg sz30 rfl rfl rfl)<|.n (zB (.k rfl))<|.nil) ff rfl fun g6 => ⟨_, _, [1], rfl, (.k 6 rfl<|.k 7 rfl<|.nil), (.k 1 rfl<|.nil), ?_⟩)
   refine zC ?_
   refine J_ret ?_
   refine zD ?_
   refine zQ (.cons (.ag 0 (.t rfl) ag30 rfl rfl rfl)<|.cons (.tmp (.t rfl))<|.nil) (zM (sb_res (.cons (sb_agg (.cons zL<|.cons zL<|.cons (sb_nil (mk := flp))<|.nil))<|.cons zL<|.nil)) ?_)
   exact ret_M (blkM_2 h1 h2)
  ·try simp only [cmpB, Z] at h2
   refine J_skip ?_
   refine zC ?_
   refine zF (zG [] (.n (zA (.t rfl))<|.n (zP (secs_ok) ⟨(.t rfl),  trivial⟩)<|.n (zA (.t rfl))<|.n (op_extract (.t rfl) rfl)<|.n (op_extract (.t rfl) rfl)<|.n (zB (.t rfl))<|.n (zB (.t rfl))<|.nil) ff rfl fun g7 => ⟨_, _, [0, 1], rfl, (.k 2 rfl<|.k 3 rfl<|.k 6 rfl<|.k 8 rfl<|.k 10 rfl<|.nil), (.k 0 rfl<|.k 1 rfl<|.nil), ?_⟩)
   refine zC ?_
   refine J_to (To.emps 2) ?_
   refine zF (zG [] (.n (zA (.t rfl))<|.n (zA (.t rfl))<|.w 2 (op_callF 2 (zeroF_ok hs) ⟨(.t rfl), (.t rfl),  trivial⟩ rfl)<|.n (op_move_ve rfl rfl)<|.n (op_ve 41 45 rfl rfl rfl (fun f => op_extract (.t rfl) rfl) (fun f g h => by first | rfl | rw [h 44 (show 44 ∈ [44] from by decide)]) rfl)<|.n (op_ve 41 46 rfl rfl rfl (fun f => op_extract (.t rfl) rfl) (fun f g h => by first | rfl | rw [h 44 (show 44 ∈ [44] from by decide)]) rfl)<|.w 3 (op_alloc 3 zr30 rfl rfl)<|.w 3 (op_store_new_ve 3 rfl rfl rfl (fun f => co_agg) (fun f g h => by rw [h 44 (show 44 ∈ [44] from by decide)]) (fun _ => sz30) rfl (fun _ => rfl) rfl)<|.n (op_assign_ve rfl rfl)<|.nil) ff rfl fun g8 => ⟨_, _, [0, 1, 2, 3], rfl, (.k 2 rfl<|.k 3 rfl<|.k 6 rfl<|.k 8 rfl<|.k 10 rfl<|.k 12 rfl<|.nil), (.k 0 rfl<|.k 1 rfl<|.k 2 rfl<|.k 3 rfl<|.nil), ?_⟩)
   refine zC ?_
   refine zF (zG [] (.n (zB (.k rfl))<|.nil) ff rfl fun g9 => ⟨_, _, [0, 1, 2, 3], rfl, (.k 2 rfl<|.k 3 rfl<|.k 6 rfl<|.k 8 rfl<|.k 10 rfl<|.k 12 rfl<|.k 14 rfl<|.nil), (.k 0 rfl<|.k 1 rfl<|.k 2 rfl<|.k 3 rfl<|.nil), ?_⟩)
   refine zC ?_
   refine zF ?_
   refine zF (zG [] (.n (zI fd26_0 (.t rfl) rfl)<|.r 0 (zN 0 sc24 (.t rfl) rfl zJ rfl)<|.n (op_len_sk sl24 (.t rfl))<|.n (zA (.k rfl))<|.nil) ff rfl fun g10 => ⟨_, _, [1, 2, 3], rfl, (.k 2 rfl<|.k 6 rfl<|.k 8 rfl<|.k 10 rfl<|.k 12 rfl<|.k 14 rfl<|.k 48 rfl<|.k 49 rfl<|.k 50 rfl<|.nil), (.k 1 rfl<|.k 2 rfl<|.k 3 rfl<|.nil), ?_⟩)
   refine zC ?_
   refine zT ?_
   refine J_loopc (α := Nat) (fun k => k ≤ ps.length) (fun k => ((ps.length : Int)).toNat - k) (fun k restR => (50, isv (.int .i64 (k : Int))) :: (14, isv (.int .i64 (tot ps k))) :: restR) (fun k restS => som (agP (g8 44)) flp (layP g (secR t).a ps n k) 39 :: restS) (ρc := [(2, _), (6, _), (8, _), (10, _), (12, _), (48, _), (49, _)]) (σc := [_, _]) 0 (by exact Nat.zero_le _) (To.pick (fun _ => .sub (t := 50) rfl (sp_eq (by rfl))<|.sub (t := 14) rfl (sp_eq (by rfl))<|.k 2 rfl<|.k 6 rfl<|.k 8 rfl<|.k 10 rfl<|.k 12 rfl<|.k 48 rfl<|.k 49 rfl<|.nil) (fun _ => .sub 1 rfl ((fun _ _ h => h))<|.k 0 rfl<|.k 2 rfl<|.nil) (ks := [1, 0, 2]) rfl) (fun k hI => ?_)
   refine zF (zG [] (.n (op_cmp (by simp) (.t rfl) (.t rfl) rfl)<|.nil) ff rfl fun g11 => ⟨_, _, [0, 1, 2], rfl, (.k 2 rfl<|.k 6 rfl<|.k 8 rfl<|.k 10 rfl<|.k 12 rfl<|.k 14 rfl<|.k 48 rfl<|.k 49 rfl<|.k 50 rfl<|.k 51 rfl<|.nil), (.k 0 rfl<|.k 1 rfl<|.k 2 rfl<|.nil), ?_⟩)
   refine zC ?_
   refine zF ?_
   refine zH (zK (.t rfl)) (fun h3 => ?_) (fun h3 => ?_)
   ·try simp only [cmpB, Z] at h3
    have htr := tot_rng (ps := ps) (k := k) fun q hq => hgd q (by omega)
    have hpk : partE (ps.getD ((k : Nat) : Int).toNat prtD) = 0 := hgd k (by omega)
    obtain ⟨hp1, hp2, hp3, _⟩ := partE_good hpk
    have hor := (ordN_rng (ps.getD ((k : Nat) : Int).toNat prtD).k).2
    obtain ⟨hL, hR⟩ := hb (ps.getD ((k : Nat) : Int).toNat prtD) (secR t).a hp1
    refine J_skip ?_
    refine zC ?_
    refine zF ?_
    refine zT ?_
    refine J_to (To.emps 1) ?_
    refine zF (zG [] (.n (op_index_sk (mk := prtC) prtD sl24 prtC_len (.t rfl) (.t rfl) (by omega) (by omega))<|.n (op_load_ag ag46 (.t rfl) rfl rfl)<|.w 3 (op_alloc 3 zr46 rfl rfl)<|.w 3 (op_store_new 3 rfl (.t rfl) co_agg sz46 rfl rfl)<|.nil) ff rfl fun g12 => ⟨_, _, [0, 1, 2, 3], rfl, (.k 2 rfl<|.k 6 rfl<|.k 8 rfl<|.k 10 rfl<|.k 12 rfl<|.k 14 rfl<|.k 16 rfl<|.k 48 rfl<|.k 49 rfl<|.k 50 rfl<|.nil), (.k 0 rfl<|.k 1 rfl<|.k 2 rfl<|.k 3 rfl<|.nil), ?_⟩)
    refine zC ?_
    refine zF (zG [] (.n (zA (.t rfl))<|.r 3 (op_get_ag 3 ag46 (.t rfl) rfl zJ rfl rfl)<|.n (zA (.t rfl))<|.n (op_callq (P := Tryz.prog) ((ps.getD ((k : Nat) : Int).toNat prtD), (secR t).a) (.t rfl) ⟨(.t rfl), (.t rfl),  trivial⟩ trivial)<|.n (zB (.t rfl))<|.nil) ff rfl fun g13 => ⟨_, _, [0, 1, 2, 3], rfl, (.k 2 rfl<|.k 6 rfl<|.k 8 rfl<|.k 10 rfl<|.k 12 rfl<|.k 14 rfl<|.k 16 rfl<|.k 17 rfl<|.k 48 rfl<|.k 49 rfl<|.k 50 rfl<|.nil), (.k 0 rfl<|.k 1 rfl<|.k 2 rfl<|.k 3 rfl<|.nil), ?_⟩)
    refine zC ?_
    refine zF (zG [] (.n (zI fd46_1 (.t rfl) rfl)<|.r 3 (zN 3 sc3 (.t rfl) rfl zJ rfl)<|.n (zA (.k rfl))<|.nil) ff rfl fun g14 => ⟨_, _, [0, 1, 2], rfl, (.k 2 rfl<|.k 6 rfl<|.k 8 rfl<|.k 10 rfl<|.k 12 rfl<|.k 14 rfl<|.k 17 rfl<|.k 48 rfl<|.k 49 rfl<|.k 50 rfl<|.k 59 rfl<|.k 60 rfl<|.nil), (.k 0 rfl<|.k 1 rfl<|.k 2 rfl<|.nil), ?_⟩)
    refine zC ?_
    refine zT ?_
    refine J_loopc (α := Nat) (fun a => (a : Int) ≤ (ps.getD ((k : Nat) : Int).toNat prtD).a) (fun a => ((ps.getD ((k : Nat) : Int).toNat prtD).a).toNat - a) (fun a restR => (60, isv (.int .i64 (a : Int))) :: (14, isv (.int .i64 (tot ps k + (a : Int) * ((g (ps.getD ((k : Nat) : Int).toNat prtD) (secR t).a).length : Int)))) :: restR) (fun a restS => som (agP (g8 44)) flp (layA (g (ps.getD ((k : Nat) : Int).toNat prtD) (secR t).a) n (tot ps k) (layP g (secR t).a ps n k) a) 39 :: restS) (ρc := [(2, _), (6, _), (8, _), (10, _), (12, _), (17, _), (48, _), (49, _), (50, _), (59, _)]) (σc := [_, _]) 0 (by omega) (To.pick (fun _ => .sub (t := 60) rfl (sp_eq (by rfl))<|.sub (t := 14) rfl (sp_eq (by exact congrArg (fun z => isv (.int .i64 z)) (by simp)))<|.k 2 rfl<|.k 6 rfl<|.k 8 rfl<|.k 10 rfl<|.k 12 rfl<|.k 17 rfl<|.k 48 rfl<|.k 49 rfl<|.k 50 rfl<|.k 59 rfl<|.nil) (fun _ => .sub 0 rfl ((fun _ _ h => h))<|.k 1 rfl<|.k 2 rfl<|.nil) (ks := [0, 1, 2]) rfl) (fun a hI => ?_)
    obtain ⟨fr, hfr⟩ : ∃ fr, fr = tot ps k + (a : Int) * ((g (ps.getD ((k : Nat) : Int).toNat prtD) (secR t).a).length : Int) := ⟨_, rfl⟩
    rw [← hfr]
    refine zF (zG [] (.n (op_cmp (by simp) (.t rfl) (.t rfl) rfl)<|.nil) ff rfl fun g15 => ⟨_, _, [0, 1, 2], rfl, (.k 2 rfl<|.k 6 rfl<|.k 8 rfl<|.k 10 rfl<|.k 12 rfl<|.k 14 rfl<|.k 17 rfl<|.k 48 rfl<|.k 49 rfl<|.k 50 rfl<|.k 59 rfl<|.k 60 rfl<|.k 61 rfl<|.nil), (.k 0 rfl<|.k 1 rfl<|.k 2 rfl<|.nil), ?_⟩)
    refine zC ?_
    refine zF ?_
    refine zH (zK (.t rfl)) (fun h4 => ?_) (fun h4 => ?_)
    ·try simp only [cmpB, Z] at h4
     have hin : 0 ≤ tot ps k ∧ 0 ≤ (a : Int) * ordN (ps.getD ((k : Nat) : Int).toNat prtD).k ∧ tot ps k + (a : Int) * ordN (ps.getD ((k : Nat) : Int).toNat prtD).k + ordN (ps.getD ((k : Nat) : Int).toNat prtD).k ≤ tot ps ps.length ∧ 1 ≤ ordN (ps.getD ((k : Nat) : Int).toNat prtD).k := ax_in hgd htl (by omega) (show (a : Int) < (ps.getD ((k : Nat) : Int).toNat prtD).a by omega)
     have hf0 : 0 ≤ fr := by rw [hfr, hL]; omega
     have hf1 : fr + ((g (ps.getD ((k : Nat) : Int).toNat prtD) (secR t).a).length : Int) ≤ n := by rw [hfr, hL]; omega
     refine J_skip ?_
     refine zC ?_
     refine zF ?_
     refine zT ?_
     refine zF ?_
     refine zF (zG [] (.n (zA (.t rfl))<|.n (op_len_m sl54 (.t rfl))<|.n (zA (.k rfl))<|.nil) ff rfl fun g16 => ⟨_, _, [0, 1, 2], rfl, (.k 2 rfl<|.k 6 rfl<|.k 8 rfl<|.k 10 rfl<|.k 12 rfl<|.k 14 rfl<|.k 17 rfl<|.k 48 rfl<|.k 49 rfl<|.k 50 rfl<|.k 59 rfl<|.k 60 rfl<|.k 63 rfl<|.k 64 rfl<|.nil), (.k 0 rfl<|.k 1 rfl<|.k 2 rfl<|.nil), ?_⟩)
     refine zC ?_
     refine zT ?_
     refine J_loopc (α := Nat) (fun i => i ≤ (g (ps.getD ((k : Nat) : Int).toNat prtD) (secR t).a).length) (fun i => (((g (ps.getD ((k : Nat) : Int).toNat prtD) (secR t).a).length : Int)).toNat - i) (fun i restR => (64, isv (.int .i64 (i : Int))) :: restR) (fun i restS => som (agP (g8 44)) flp (layI (g (ps.getD ((k : Nat) : Int).toNat prtD) (secR t).a) n fr (layA (g (ps.getD ((k : Nat) : Int).toNat prtD) (secR t).a) n (tot ps k) (layP g (secR t).a ps n k) a) i) 39 :: restS) (ρc := [(2, _), (6, _), (8, _), (10, _), (12, _), (14, _), (17, _), (48, _), (49, _), (50, _), (59, _), (60, _), (63, _)]) (σc := [_, _]) 0 (by exact Nat.zero_le _) (To.pick (fun _ => .sub (t := 64) rfl (sp_eq (by rfl))<|.k 2 rfl<|.k 6 rfl<|.k 8 rfl<|.k 10 rfl<|.k 12 rfl<|.k 14 rfl<|.k 17 rfl<|.k 48 rfl<|.k 49 rfl<|.k 50 rfl<|.k 59 rfl<|.k 60 rfl<|.k 63 rfl<|.nil) (fun _ => .sub 0 rfl ((fun _ _ h => h))<|.k 1 rfl<|.k 2 rfl<|.nil) (ks := [0, 1, 2]) rfl) (fun i hI => ?_)
     refine zF (zG [] (.n (op_cmp (by simp) (.t rfl) (.t rfl) rfl)<|.nil) ff rfl fun g17 => ⟨_, _, [0, 1, 2], rfl, (.k 2 rfl<|.k 6 rfl<|.k 8 rfl<|.k 10 rfl<|.k 12 rfl<|.k 14 rfl<|.k 17 rfl<|.k 48 rfl<|.k 49 rfl<|.k 50 rfl<|.k 59 rfl<|.k 60 rfl<|.k 63 rfl<|.k 64 rfl<|.k 65 rfl<|.nil), (.k 0 rfl<|.k 1 rfl<|.k 2 rfl<|.nil), ?_⟩)
     refine zC ?_
     refine zF ?_
     refine zH (zK (.t rfl)) (fun h5 => ?_) (fun h5 => ?_)
     ·try simp only [cmpB, Z] at h5
      have hRi : ((g (ps.getD ((k : Nat) : Int).toNat prtD) (secR t).a).getD ((i : Nat) : Int).toNat []).length = (g (ps.getD ((k : Nat) : Int).toNat prtD) (secR t).a).length := hR i (by omega)
      refine J_skip ?_
      refine zC ?_
      refine zF ?_
      refine zT ?_
      refine zF (zG [] (.n (zA (.t rfl))<|.n (zB (.t rfl))<|.nil) ff rfl fun g18 => ⟨_, _, [0, 1, 2], rfl, (.k 2 rfl<|.k 6 rfl<|.k 8 rfl<|.k 10 rfl<|.k 12 rfl<|.k 14 rfl<|.k 17 rfl<|.k 18 rfl<|.k 48 rfl<|.k 49 rfl<|.k 50 rfl<|.k 59 rfl<|.k 60 rfl<|.k 63 rfl<|.k 64 rfl<|.nil), (.k 0 rfl<|.k 1 rfl<|.k 2 rfl<|.nil), ?_⟩)
      refine zC ?_
      refine zF (zG [] (.n (zA (.t rfl))<|.n (zA (.t rfl))<|.n (op_index_m [] sl54 (.t rfl) (.t rfl) (by omega) (by omega))<|.n (op_load_sc sc28 (.t rfl) rfl)<|.n (op_len_m sl28 (.t rfl))<|.n (zA (.k rfl))<|.nil) ff rfl fun g19 => ⟨_, _, [0, 1, 2], rfl, (.k 2 rfl<|.k 6 rfl<|.k 8 rfl<|.k 10 rfl<|.k 12 rfl<|.k 14 rfl<|.k 17 rfl<|.k 18 rfl<|.k 48 rfl<|.k 49 rfl<|.k 50 rfl<|.k 59 rfl<|.k 60 rfl<|.k 63 rfl<|.k 64 rfl<|.k 71 rfl<|.k 72 rfl<|.nil), (.k 0 rfl<|.k 1 rfl<|.k 2 rfl<|.nil), ?_⟩)
      refine zC ?_
      refine zT ?_
      refine J_loopc (α := Nat) (fun j => j ≤ ((g (ps.getD ((k : Nat) : Int).toNat prtD) (secR t).a).getD ((i : Nat) : Int).toNat []).length) (fun j => ((((g (ps.getD ((k : Nat) : Int).toNat prtD) (secR t).a).getD ((i : Nat) : Int).toNat []).length : Int)).toNat - j) (fun j restR => (72, isv (.int .i64 (j : Int))) :: restR) (fun j restS => som (agP (g8 44)) flp (layJ (g (ps.getD ((k : Nat) : Int).toNat prtD) (secR t).a) n fr i (layI (g (ps.getD ((k : Nat) : Int).toNat prtD) (secR t).a) n fr (layA (g (ps.getD ((k : Nat) : Int).toNat prtD) (secR t).a) n (tot ps k) (layP g (secR t).a ps n k) a) i) j) 39 :: restS) (ρc := [(2, _), (6, _), (8, _), (10, _), (12, _), (14, _), (17, _), (18, _), (48, _), (49, _), (50, _), (59, _), (60, _), (63, _), (64, _), (71, _)]) (σc := [_, _]) 0 (by exact Nat.zero_le _) (To.pick (fun _ => .sub (t := 72) rfl (sp_eq (by rfl))<|.k 2 rfl<|.k 6 rfl<|.k 8 rfl<|.k 10 rfl<|.k 12 rfl<|.k 14 rfl<|.k 17 rfl<|.k 18 rfl<|.k 48 rfl<|.k 49 rfl<|.k 50 rfl<|.k 59 rfl<|.k 60 rfl<|.k 63 rfl<|.k 64 rfl<|.k 71 rfl<|.nil) (fun _ => .sub 0 rfl ((fun _ _ h => h))<|.k 1 rfl<|.k 2 rfl<|.nil) (ks := [0, 1, 2]) rfl) (fun j hI => ?_)
      refine zF (zG [] (.n (op_cmp (by simp) (.t rfl) (.t rfl) rfl)<|.nil) ff rfl fun g20 => ⟨_, _, [0, 1, 2], rfl, (.k 2 rfl<|.k 6 rfl<|.k 8 rfl<|.k 10 rfl<|.k 12 rfl<|.k 14 rfl<|.k 17 rfl<|.k 18 rfl<|.k 48 rfl<|.k 49 rfl<|.k 50 rfl<|.k 59 rfl<|.k 60 rfl<|.k 63 rfl<|.k 64 rfl<|.k 71 rfl<|.k 72 rfl<|.k 73 rfl<|.nil), (.k 0 rfl<|.k 1 rfl<|.k 2 rfl<|.nil), ?_⟩)
      refine zC ?_
      refine zF ?_
      refine zH (zK (.t rfl)) (fun h6 => ?_) (fun h6 => ?_)
      ·try simp only [cmpB, Z] at h6
       have hq := place_rng (n := n) (x := fr + (i : Int)) (y := fr + (j : Int)) (by omega) (by omega) (by omega) (by omega)
       have hln := @layJ_len (g (ps.getD ((k : Nat) : Int).toNat prtD) (secR t).a) n fr i (layI (g (ps.getD ((k : Nat) : Int).toNat prtD) (secR t).a) n fr (layA (g (ps.getD ((k : Nat) : Int).toNat prtD) (secR t).a) n (tot ps k) (layP g (secR t).a ps n k) a) i) j
       rw [layI_len, layA_len, layP_len] at hln
       refine J_skip ?_
       refine zC ?_
       refine zF ?_
       refine zT ?_
       refine zF (zG [] (.n (zA (.t rfl))<|.n (zB (.t rfl))<|.nil) ff rfl fun g21 => ⟨_, _, [0, 1, 2], rfl, (.k 2 rfl<|.k 6 rfl<|.k 8 rfl<|.k 10 rfl<|.k 12 rfl<|.k 14 rfl<|.k 17 rfl<|.k 18 rfl<|.k 19 rfl<|.k 48 rfl<|.k 49 rfl<|.k 50 rfl<|.k 59 rfl<|.k 60 rfl<|.k 63 rfl<|.k 64 rfl<|.k 71 rfl<|.k 72 rfl<|.nil), (.k 0 rfl<|.k 1 rfl<|.k 2 rfl<|.nil), ?_⟩)
       refine zC ?_
       refine (zG [[], [0], [], [], [2, 3], [], [2, 3, 4, 5], [], [2, 3, 4, 5, 6, 7], [], [2, 3, 4, 5, 6, 7, 8, 9], [], [], [11, 12], [11, 12, 13], [], [11, 12, 13, 14, 15], [11, 12, 13, 14, 15, 16], [0, 1, 2, 3, 4, 5, 6, 7, 8, 9, 10, 11, 12, 13, 14, 15, 16, 17], [0, 1, 2, 3, 4, 5, 6, 7, 8, 9, 10, 11, 12, 13, 14, 15, 16, 17, 18]] (.n (zI fd30_2 (.t rfl) rfl)<|.r 2 (zN 2 sc28 (.t rfl) rfl zJ rfl)<|.n (zA (.t rfl))<|.n (zA (.t rfl))<|.n (op_add (.t rfl) (.t rfl) (zO (by omega) (by omega)))<|.n (zA (.t rfl))<|.n (op_mul (.t rfl) (.t rfl) (zO (by omega) (by omega)))<|.n (zA (.t rfl))<|.n (op_add (.t rfl) (.t rfl) (zO (by omega) (by omega)))<|.n (zA (.t rfl))<|.n (op_add (.t rfl) (.t rfl) (zO (by omega) (by omega)))<|.n (zA (.t rfl))<|.n (zA (.t rfl))<|.n (op_index_m [] sl54 (.t rfl) (.t rfl) (by omega) (by omega))<|.n (op_load_sc sc28 (.t rfl) rfl)<|.n (zA (.t rfl))<|.n (op_index_m 0 sl28 (.t rfl) (.t rfl) (by omega) (by omega))<|.n (op_load_sc sc39 (.t rfl) rfl)<|.r 0 (op_index_som 0 sl28 (.t rfl) (.t rfl) rfl (by omega) (by omega))<|.w 0 (op_store_som 0 (.t rfl) (.t rfl) co_flp sz39 rfl (by omega))<|.nil) (fun _ => mixed) rfl fun g22 => ⟨_, _, [0, 1, 2], rfl, (.k 2 rfl<|.k 6 rfl<|.k 8 rfl<|.k 10 rfl<|.k 12 rfl<|.k 14 rfl<|.k 17 rfl<|.k 18 rfl<|.k 48 rfl<|.k 49 rfl<|.k 50 rfl<|.k 59 rfl<|.k 60 rfl<|.k 63 rfl<|.k 64 rfl<|.k 71 rfl<|.k 72 rfl<|.nil), (.k 0 rfl<|.k 1 rfl<|.k 2 rfl<|.nil), ?_⟩)
       refine zR ?_
       refine zC ?_
       refine (zG [] (.n (op_add (.t rfl) (.k rfl) (zO (by omega) (by omega)))<|.n (zA (.t rfl))<|.nil) ff rfl fun g23 => ⟨_, _, [0, 1, 2], rfl, (.k 2 rfl<|.k 6 rfl<|.k 8 rfl<|.k 10 rfl<|.k 12 rfl<|.k 14 rfl<|.k 17 rfl<|.k 18 rfl<|.k 48 rfl<|.k 49 rfl<|.k 50 rfl<|.k 59 rfl<|.k 60 rfl<|.k 63 rfl<|.k 64 rfl<|.k 71 rfl<|.k 72 rfl<|.nil), (.k 0 rfl<|.k 1 rfl<|.k 2 rfl<|.nil), ?_⟩)
       exact JN_again (j + 1) (by omega) (by omega) (To.pick (fun _ => .sub (t := 72) rfl (sp_eq (by rfl))<|.k 2 rfl<|.k 6 rfl<|.k 8 rfl<|.k 10 rfl<|.k 12 rfl<|.k 14 rfl<|.k 17 rfl<|.k 18 rfl<|.k 48 rfl<|.k 49 rfl<|.k 50 rfl<|.k 59 rfl<|.k 60 rfl<|.k 63 rfl<|.k 64 rfl<|.k 71 rfl<|.nil) (fun _ => .sub 0 rfl ((fun _ _ h => h))<|.k 1 rfl<|.k 2 rfl<|.nil) (ks := [0, 1, 2]) rfl)
      ·try simp only [cmpB, Z] at h6
       refine J_exit ?_
       refine zE ?_
       refine zE ?_
       refine zS ?_
       refine zR ?_
       refine zC ?_
       refine (zG [] (.n (op_add (.t rfl) (.k rfl) (zO (by omega) (by omega)))<|.n (zA (.t rfl))<|.nil) ff rfl fun g24 => ⟨_, _, [0, 1, 2], rfl, (.k 2 rfl<|.k 6 rfl<|.k 8 rfl<|.k 10 rfl<|.k 12 rfl<|.k 14 rfl<|.k 17 rfl<|.k 48 rfl<|.k 49 rfl<|.k 50 rfl<|.k 59 rfl<|.k 60 rfl<|.k 63 rfl<|.k 64 rfl<|.nil), (.k 0 rfl<|.k 1 rfl<|.k 2 rfl<|.nil), ?_⟩)
       exact JN_again (i + 1) (by omega) (by omega) (To.pick (fun _ => .sub (t := 64) rfl (sp_eq (by rfl))<|.k 2 rfl<|.k 6 rfl<|.k 8 rfl<|.k 10 rfl<|.k 12 rfl<|.k 14 rfl<|.k 17 rfl<|.k 48 rfl<|.k 49 rfl<|.k 50 rfl<|.k 59 rfl<|.k 60 rfl<|.k 63 rfl<|.nil) (fun _ => .sub 0 rfl ((res_eq (by rw [show j = ((g (ps.getD ((k : Nat) : Int).toNat prtD) (secR t).a).getD ((i : Nat) : Int).toNat []).length by omega]; rfl)))<|.k 1 rfl<|.k 2 rfl<|.nil) (ks := [0, 1, 2]) rfl)
     ·try simp only [cmpB, Z] at h5
      refine J_exit ?_
      refine zE ?_
      refine zE ?_
      refine zS ?_
      refine zC ?_
      refine (zG [] (.n (zA (.t rfl))<|.n (zA (.t rfl))<|.n (op_len_m sl54 (.t rfl))<|.n (op_add (.t rfl) (.t rfl) (zO (show _ ≤ fr + ((g (ps.getD ((k : Nat) : Int).toNat prtD) (secR t).a).length : Int) by omega) (show fr + ((g (ps.getD ((k : Nat) : Int).toNat prtD) (secR t).a).length : Int) ≤ _ by omega)))<|.n (zB (.t rfl))<|.nil) ff rfl fun g25 => ⟨_, _, [0, 1, 2], rfl, (.k 2 rfl<|.k 6 rfl<|.k 8 rfl<|.k 10 rfl<|.k 12 rfl<|.k 14 rfl<|.k 17 rfl<|.k 48 rfl<|.k 49 rfl<|.k 50 rfl<|.k 59 rfl<|.k 60 rfl<|.nil), (.k 0 rfl<|.k 1 rfl<|.k 2 rfl<|.nil), ?_⟩)
      refine zR ?_
      refine zC ?_
      refine (zG [] (.n (op_add (.t rfl) (.k rfl) (zO (by omega) (by omega)))<|.n (zA (.t rfl))<|.nil) ff rfl fun g26 => ⟨_, _, [0, 1, 2], rfl, (.k 2 rfl<|.k 6 rfl<|.k 8 rfl<|.k 10 rfl<|.k 12 rfl<|.k 14 rfl<|.k 17 rfl<|.k 48 rfl<|.k 49 rfl<|.k 50 rfl<|.k 59 rfl<|.k 60 rfl<|.nil), (.k 0 rfl<|.k 1 rfl<|.k 2 rfl<|.nil), ?_⟩)
      exact JN_again (a + 1) (by omega) (by omega) (To.pick (fun _ => .sub (t := 60) rfl (sp_eq (by rfl))<|.sub (t := 14) rfl (sp_eq (by exact congrArg (fun z => isv (.int .i64 z)) (by  rw [hfr, ax_next])))<|.k 2 rfl<|.k 6 rfl<|.k 8 rfl<|.k 10 rfl<|.k 12 rfl<|.k 17 rfl<|.k 48 rfl<|.k 49 rfl<|.k 50 rfl<|.k 59 rfl<|.nil) (fun _ => .sub 0 rfl ((res_eq (by rw [show i = (g (ps.getD ((k : Nat) : Int).toNat prtD) (secR t).a).length by omega, hfr]; rfl)))<|.k 1 rfl<|.k 2 rfl<|.nil) (ks := [0, 1, 2]) rfl)
    ·try simp only [cmpB, Z] at h4
     refine J_exit ?_
     refine zE ?_
     refine zE ?_
     refine zS ?_
     refine zR ?_
     refine zC ?_
     refine (zG [] (.n (op_add (.t rfl) (.k rfl) (zO (by omega) (by omega)))<|.n (zA (.t rfl))<|.nil) ff rfl fun g27 => ⟨_, _, [0, 1, 2], rfl, (.k 2 rfl<|.k 6 rfl<|.k 8 rfl<|.k 10 rfl<|.k 12 rfl<|.k 14 rfl<|.k 48 rfl<|.k 49 rfl<|.k 50 rfl<|.nil), (.k 0 rfl<|.k 1 rfl<|.k 2 rfl<|.nil), ?_⟩)
     exact JN_again (k + 1) (by omega) (by omega) (To.pick (fun _ => .sub (t := 50) rfl (sp_eq (by rfl))<|.sub (t := 14) rfl (sp_eq (by exact congrArg (fun z => isv (.int .i64 z)) (by rw [hfr, hL, show (a : Int) = (ps.getD ((k : Nat) : Int).toNat prtD).a by omega]; rfl)))<|.k 2 rfl<|.k 6 rfl<|.k 8 rfl<|.k 10 rfl<|.k 12 rfl<|.k 48 rfl<|.k 49 rfl<|.nil) (fun _ => .sub 0 rfl ((res_eq (by rw [show a = ((ps.getD ((k : Nat) : Int).toNat prtD).a).toNat by omega]; rfl)))<|.k 1 rfl<|.k 2 rfl<|.nil) (ks := [0, 1, 2]) rfl)
   ·try simp only [cmpB, Z] at h3
    refine J_exit ?_
    refine zE ?_
    refine zE ?_
    refine zS ?_
    refine zC ?_
    refine zF ?_
    refine J_to (To.freeze 0 (fun _ h => h) rfl frz_som rfl) ?_
    refine zF (zG [] (.n (zI fd30_2 (.t rfl) rfl)<|.r 2 (zN 2 sc28 (.t rfl) rfl zJ rfl)<|.n (zP (finite_ok) ⟨(Lk.sub (sb_fk 0 rfl) (.t rfl)),  trivial⟩)<|.n (op_not (.t rfl))<|.nil) ff rfl fun g28 => ⟨_, _, [1, 2], rfl, (.k 6 rfl<|.k 12 rfl<|.k 105 rfl<|.nil), (.k 1 rfl<|.k 2 rfl<|.nil), ?_⟩)
    refine zC ?_
    refine zH (zK (.t rfl)) (fun h7 => ?_) (fun h7 => ?_)
    ·try simp only [cmpB, Z] at h7
     refine zF (zG [] (.n (op_build zr30 rfl pl30 .nil)<|.w 0 (op_store_b 0 (.t rfl) (.t rfl) co_agg sz30 rfl rfl rfl)<|.n (zB (.k rfl))<|.nil) ff rfl fun g29 => ⟨_, _, [0], rfl, (.k 6 rfl<|.k 7 rfl<|.nil), (.k 0 rfl<|.nil), ?_⟩)
     refine zC ?_
     refine J_ret ?_
     refine zD ?_
     refine zQ (.cons (.ag 0 (.t rfl) ag30 rfl rfl rfl)<|.cons (.tmp (.t rfl))<|.nil) (zM (sb_res (.cons (sb_agg (.cons zL<|.cons zL<|.cons (sb_nil (mk := flp))<|.nil))<|.cons zL<|.nil)) ?_)
     exact ret_M (by rw [← blkM_3 h1 (by omega) hn (show k = ps.length by omega)]; unfold toldR; rw [if_pos h7]; rfl)
    ·try simp only [cmpB, Z] at h7
     refine J_skip ?_
     refine zC ?_
     refine zF (zG [] (.r 1 (op_get_ag 1 ag30 (.t rfl) rfl zJ rfl rfl)<|.w 0 (op_store_b 0 (.t rfl) (.t rfl) co_agg sz30 rfl rfl rfl)<|.n (zB (.k rfl))<|.nil) ff rfl fun g30 => ⟨_, _, [0], rfl, (.k 6 rfl<|.k 7 rfl<|.nil), (.k 0 rfl<|.nil), ?_⟩)
     refine zC ?_
     refine J_ret ?_
     refine zQ (.cons (.ag 0 (.t rfl) ag30 rfl rfl rfl)<|.cons (.tmp (.t rfl))<|.nil) (zM (sb_res (.cons (sb_agg (.cons zL<|.cons zL<|.cons (sb_fk 0 rfl)<|.nil))<|.cons zL<|.nil)) ?_)
     exact ret_M (by rw [← blkM_3 h1 (by omega) hn (show k = ps.length by omega)]; unfold toldR; rw [if_neg (by simp [h7])])
end Go.Proofs.YtjnmgcglooeooaaGreatDoor
