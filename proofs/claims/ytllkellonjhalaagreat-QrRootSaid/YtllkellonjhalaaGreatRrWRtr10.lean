/- Printed by a program of ours (walk.py): walk of the triangle of the reference; matrices as they are handed in. -/
import Derived.Test.YtllkellonjhalaaGreatRrKb
import Derived.Test.YtllkellonjhalaaGreatProg
import Derived.KernelRfl
import Derived.Test.YtllkellonjhalaaGreatRrTypes
import Derived.Test.YtllkellonjhalaaGreatRrWTri10
set_option linter.unusedVariables false
set_option linter.unusedSimpArgs false
set_option maxRecDepth 20000
set_option maxHeartbeats 1000000
namespace Go.Proofs.YtllkellonjhalaaGreat
open Go Go.Bn
attribute [local irreducible] OpOK
theorem rtri_ok {ms : List Mt} (hlt : ∀ k, LtL (ms.getD k mtD).a) : Ct Tryz.prog 9 [slk 3 mtU ms] (resM (rtriM ms)) := by
 refine Ct.of Tryz.func9 rfl (by kernel_rfl) rfl fun c0 => ?_
 refine J_lenk 0 rfl fun hlen => ?_
 refine J_to (To.emps 1) ?_
 refine zF (zG [] (
   .w 0 (op_alloc 0 zr28 rfl rfl) <|
   .n (zB (Lk.k rfl)) <| .nil) ff rfl fun g1 => ⟨_, _, [0], rfl, (.cons 0 rfl <| .cons 2 rfl <| .nil), (.cons 0 rfl <| .nil), ?_⟩)
 refine zC ?_
 refine zF ?_
 refine zF (zG [] (
   .n (zA (Lk.t rfl)) <|
   .n (zP (rfit_ok) ⟨(Lk.t rfl),  trivial⟩) <|
   .n (zB (Lk.t rfl)) <| .nil) ff rfl fun g2 => ⟨_, _, [0], rfl, (.cons 0 rfl <| .cons 2 rfl <| .cons 4 rfl <| .nil), (.cons 0 rfl <| .nil), ?_⟩)
 refine zC ?_
 refine zF (zG [] (
   .n (zA (Lk.t rfl)) <|
   .n (op_cmp (by simp) (Lk.t rfl) (Lk.k rfl) rfl) <| .nil) ff rfl fun g3 => ⟨_, _, [0], rfl, (.cons 0 rfl <| .cons 2 rfl <| .cons 4 rfl <| .cons 19 rfl <| .nil), (.cons 0 rfl <| .nil), ?_⟩)
 refine zC ?_
 refine zH (zK (Lk.t rfl)) (fun h1 => ?_) (fun h1 => ?_)
 ·have h1' := h1
  try simp only [cmpB, Z] at h1
  refine zF (zG [] (
    .n (op_build zr28 rfl pl28 .nil) <|
    .n (zA (Lk.t rfl)) <|
    .w 0 (op_store_b 0 (Lk.t rfl) (Lk.t rfl) co_agg sz28 rfl rfl rfl) <|
    .n (zB (Lk.t rfl)) <| .nil) ff rfl fun g4 => ⟨_, _, [0], rfl, (.cons 2 rfl <| .cons 3 rfl <| .nil), (.cons 0 rfl <| .nil), ?_⟩)
  refine zC ?_
  refine J_ret ?_
  refine zD ?_
  refine zQ (.cons (.ag 0 (Lk.t rfl) ag28 rfl rfl rfl) <| .cons (.tmp (Lk.t rfl)) <| .nil) (zM (sb_res (.cons (sb_agg (.cons zL <| .cons zL <| .cons (sb_nil (mk := flp)) <| .nil)) <| .cons zL <| .nil)) ?_)
  exact ret_M (rtr_1 h1).symm
 ·have h1' := h1
  try simp only [cmpB, Z] at h1
  have he0 : rfitE ms = 0 := by simpa using h1
  obtain ⟨hne, hz, hsh, hcm⟩ := rfit_zero he0
  obtain ⟨n, hn⟩ : ∃ n : Nat, (ms.getD 0 mtD).r = (n : Int) := ⟨(ms.getD 0 mtD).r.toNat, by have := (chk_good (chk_all hz (show 0 < ms.length by omega))).1.1; omega⟩
  have hB : BesOk ms (n : Int) := besOk_of hne hz hsh hcm hn
  have hfl : ∀ k, FinL (ms.getD k mtD).a := fun k => finL_mk (if hk : k < ms.length then (chk_zero.1 (chk_all hz hk)).2 else by rw [List.getD, List.getElem?_eq_none (by omega)]; rfl) (hlt k)
  have hT0 := rtr_start (n := n) hfl
  obtain ⟨_, hn12, _, _⟩ := (hB.hg 0 hB.h0).1
  have hs0 : Siz (n : Int) (n : Int) := ⟨by omega, hn12, by omega, hn12⟩
  refine J_skip ?_
  refine zC ?_
  refine J_to (To.emps 1) ?_
  refine zF (zG [] (
    .n (zA (Lk.t rfl)) <|
    .w 1 (op_callF 1 (rbesF_ok (n := (n : Int)) hB hsh) ⟨(Lk.t rfl),  trivial⟩ rfl) <|
    .n (op_assign_ve rfl rfl) <| .nil) ff rfl fun g5 => ⟨_, _, [0, 1], rfl, (.cons 2 rfl <| .cons 5 rfl <| .nil), (.cons 0 rfl <| .cons 1 rfl <| .nil), ?_⟩)
  refine zC ?_
  refine J_ex 1 rfl fun vsp => ?_
  obtain ⟨vs0, hvs0⟩ := vsp
  rw [length_besL] at hvs0
  have hvs0 : vs0.length = n := hvs0
  refine J_to (To.emps 1) ?_
  refine J_to (To.res 1 (r' := (som (g5 23) isv vs0 26).sep (pool n (poolX vs0 36 (besRow ms n)))) rfl rows_open rfl) ?_
  refine J_to (To.split 1 2 rfl rfl rfl rfl) ?_
  refine zF (zG [] (
    .n (zA (Lk.t rfl)) <|
    .r 1 (op_len_som 1 sl76 (Lk.t rfl) rfl) <|
    .n (zB (Lk.t rfl)) <| .nil) ff rfl fun g6 => ⟨_, _, [0, 1, 2], rfl, (.cons 2 rfl <| .cons 5 rfl <| .cons 6 rfl <| .nil), (.cons 0 rfl <| .cons 1 rfl <| .cons 2 rfl <| .nil), ?_⟩)
  refine zC ?_
  refine zF ?_
  refine J_to (To.slot 6 rfl (q := isv (.int .i64 (n : Int))) (sb_eq (by rw [hvs0]))) ?_
  refine zF (zG [] (
    .n (zB (Lk.k rfl)) <| .nil) ff rfl fun g7 => ⟨_, _, [0, 1, 2], rfl, (.cons 2 rfl <| .cons 5 rfl <| .cons 6 rfl <| .cons 7 rfl <| .nil), (.cons 0 rfl <| .cons 1 rfl <| .cons 2 rfl <| .nil), ?_⟩)
  refine zC ?_
  refine zT ?_
  refine J_loopc (α := Nat × List Value) (fun x => x.1 ≤ n ∧ RtrI (besRow ms n) n (colsTo ms ms.length + (n - colsTo ms ms.length)) x.1 ∧ x.2.length = n) (fun x => n - x.1) (fun x restR => (7, isv (.int .i64 (x.1 : Int))) :: restR) (fun x restS => som (g5 23) isv x.2 26 :: pool n (poolX x.2 36 (rtriTo (besRow ms n) x.1)) :: restS) (ρc := [(2, _), (5, _), (6, _)]) (σc := [_]) (0, vs0) (by exact ⟨Nat.zero_le _, hT0, hvs0⟩) (To.pick (fun _ => .sub (t := 7) rfl (sp_eq (by rfl)) <| .cons 2 rfl <| .cons 5 rfl <| .cons 6 rfl <| .nil) (fun _ => .sub 1 rfl ((fun _ _ h => h)) <| .sub 2 rfl ((fun _ _ h => h)) <| .cons 0 rfl <| .nil) (ks := [1, 2, 0]) rfl) (fun x hI => ?_)
  obtain ⟨i, vs⟩ := x
  try simp only at hI
  show J _ _ ((7, isv (.int .i64 (i : Int))) :: _) (som (g5 23) isv vs 26 :: pool n (poolX vs 36 (rtriTo (besRow ms n) i)) :: _) _ _
  have hvl : vs.length = n := hI.2.2
  have hin0 : i ≤ n := hI.1
  have hT := hI.2.1
  refine zF ?_
  refine zF (zG [] (
    .n (zA (Lk.t rfl)) <|
    .n (zA (Lk.t rfl)) <|
    .n (op_cmp (by simp) (Lk.t rfl) (Lk.t rfl) rfl) <| .nil) ff rfl fun g8 => ⟨_, _, [0, 1, 2], rfl, (.cons 2 rfl <| .cons 5 rfl <| .cons 6 rfl <| .cons 7 rfl <| .cons 28 rfl <| .nil), (.cons 0 rfl <| .cons 1 rfl <| .cons 2 rfl <| .nil), ?_⟩)
  refine zC ?_
  refine zH (zK (Lk.t rfl)) (fun h2 => ?_) (fun h2 => ?_)
  ·have h2' := h2
   try simp only [cmpB, Z] at h2
   have hli := hT.hl i (by omega)
   have hci := hT.hc i (by omega)
   have hgl0 : (rglsL (((rtriTo (besRow ms n) i) i).drop i)).v.length = (colsTo ms ms.length + (n - colsTo ms ms.length)) - i := by rw [length_rgls, List.length_drop, hli]
   refine J_skip ?_
   refine zC ?_
   refine zF ?_
   refine zT ?_
   refine J_to (To.emps 1) ?_
   refine J_to (To.focus 1 3 i (by omega) rfl rfl rfl rfl) ?_
   refine J_to (To.res 3 (r' := som (vs.getD i NILV) flp (rtriTo (besRow ms n) i i) 36) rfl (res_eq (by show som _ flp _ _ = _; rfl)) rfl) ?_
   refine J_to (To.emps 1) ?_
   refine zF (zG [] (
     .n (zA (Lk.t rfl)) <|
     .n (zA (Lk.t rfl)) <|
     .r 0 (op_index_som 0 sl76 (Lk.t rfl) (Lk.t rfl) rfl (by omega) (by omega)) <|
     .r 0 ((op_get_som (mk := isv) (.slice none 0 0) 0 sc26 (Lk.t rfl) rfl (by omega)).sub rfl (isv_eq (by exact rfl))) <|
     .n (zA (Lk.t rfl)) <|
     .r 3 (op_slice_vsl 3 sl26 (Lk.t rfl) (Lk.t rfl) rfl (by omega) (by omega)) <|
     .w 3 (op_callLF 3 (rmirF_ok (xs := ((rtriTo (besRow ms n) i) i).drop i) (cnL_drop hci i) (by rw [List.length_drop]; omega)) (fun _ => pure_tup3 (pure_isv _) (pure_flp _) (pure_flp _)) (fun _ => pure_som pure_flp) ⟨.inr ⟨_, (Lk.t rfl), lent_vsl⟩,  trivial⟩ rfl) <|
     .n (op_move_ve rfl rfl) <|
     .n (op_ve 31 39 rfl rfl rfl (fun f => op_extract (Lk.t rfl) rfl) (fun f g h => by first | rfl | rw [h 38 (show 38 ∈ [38] from by decide)]) rfl) <|
     .n (op_ve 31 40 rfl rfl rfl (fun f => op_extract (Lk.t rfl) rfl) (fun f g h => by first | rfl | rw [h 38 (show 38 ∈ [38] from by decide)]) rfl) <|
     .n (op_ve 31 41 rfl rfl rfl (fun f => op_extract (Lk.t rfl) rfl) (fun f g h => by first | rfl | rw [h 38 (show 38 ∈ [38] from by decide)]) rfl) <|
     .n (op_assign_ve rfl rfl) <|
     .n (op_assign_ve rfl rfl) <|
     .n (op_assign_ve rfl rfl) <| .nil) ff rfl fun g9 => ⟨_, _, [0, 1, 2, 3], rfl, (.cons 2 rfl <| .cons 5 rfl <| .cons 6 rfl <| .cons 7 rfl <| .cons 8 rfl <| .cons 9 rfl <| .cons 10 rfl <| .nil), (.cons 0 rfl <| .cons 1 rfl <| .cons 2 rfl <| .cons 3 rfl <| .nil), ?_⟩)
   refine zC ?_
   refine zF ?_
   refine J_to (To.emps 1) ?_
   refine J_to (To.split 3 4 rfl rfl rfl rfl) ?_
   refine J_to (To.unfocus 1 3 i (by omega) rfl rfl rfl rfl) ?_
   refine J_to (To.res 1 (r' := pool n (poolX vs 36 (rtriTo (besRow ms n) i))) rfl (pool_back rfl) rfl) ?_
   refine J_to (To.freeze 4 (fun _ h => h) rfl frz_som rfl) ?_
   refine zF (zG [] (
     .n (zA (Lk.t rfl)) <|
     .n (op_add (Lk.t rfl) (Lk.k rfl) (zO (by omega) (by omega))) <|
     .n (zB (Lk.t rfl)) <| .nil) ff rfl fun g10 => ⟨_, _, [0, 1, 2], rfl, (.cons 2 rfl <| .cons 5 rfl <| .cons 6 rfl <| .cons 7 rfl <| .cons 8 rfl <| .cons 9 rfl <| .cons 10 rfl <| .cons 11 rfl <| .nil), (.cons 0 rfl <| .cons 1 rfl <| .cons 2 rfl <| .nil), ?_⟩)
   refine zC ?_
   refine zT ?_
   refine J_loopc (α := Nat × List Value) (fun y => i + 1 ≤ y.1 ∧ y.1 ≤ n ∧ y.2.length = n) (fun y => n - y.1) (fun y restR => (11, isv (.int .i64 (y.1 : Int))) :: restR) (fun y restS => som (g5 23) isv y.2 26 :: pool n (poolX y.2 36 (rmidF (rtriTo (besRow ms n) i) i y.1)) :: restS) (ρc := [(2, _), (5, _), (6, _), (7, _), (8, _), (9, _), (10, _)]) (σc := [_]) (i + 1, vs) (by exact ⟨Nat.le_refl _, by show i + 1 ≤ n; omega, hvl⟩) (To.pick (fun _ => .sub (t := 11) rfl (sp_eq (by rfl)) <| .cons 2 rfl <| .cons 5 rfl <| .cons 6 rfl <| .cons 7 rfl <| .cons 8 rfl <| .cons 9 rfl <| .cons 10 rfl <| .nil) (fun _ => .sub 0 rfl ((fun _ _ h => h)) <| .sub 1 rfl ((rpool_mid0)) <| .cons 2 rfl <| .nil) (ks := [0, 1, 2]) rfl) (fun y hK => ?_)
   obtain ⟨k, ws⟩ := y
   try simp only at hK
   show J _ _ ((11, isv (.int .i64 (k : Int))) :: _) (som (g5 23) isv ws 26 :: pool n (poolX ws 36 (rmidF (rtriTo (besRow ms n) i) i k)) :: _) _ _
   have hwl : ws.length = n := hK.2.2
   have hik : i + 1 ≤ k := hK.1
   have hkn : k ≤ n := hK.2.1
   refine zF ?_
   refine zF (zG [] (
     .n (zA (Lk.t rfl)) <|
     .n (zA (Lk.t rfl)) <|
     .n (op_cmp (by simp) (Lk.t rfl) (Lk.t rfl) rfl) <|
     .n (zA (Lk.t rfl)) <|
     .n (op_guard rfl rfl (gd_b rfl) (fun hC => (zA (Lk.t rfl)))) <|
     .n (op_guard rfl rfl (gd_b rfl) (fun hC => (op_fcmp (by simp) (Lk.w rfl hC) (Lk.fk rfl (by decide +kernel)) rfl))) <|
     .n (op_and (Lk.t rfl) (fun h2 => (Lk.w rfl h2))) <| .nil) ff rfl fun g11 => ⟨_, _, [0, 1, 2], rfl, (.cons 2 rfl <| .cons 5 rfl <| .cons 6 rfl <| .cons 7 rfl <| .cons 8 rfl <| .cons 9 rfl <| .cons 10 rfl <| .cons 11 rfl <| .cons 50 rfl <| .nil), (.cons 0 rfl <| .cons 1 rfl <| .cons 2 rfl <| .nil), ?_⟩)
   refine zC ?_
   refine zH (zK (Lk.t rfl)) (fun h3 => ?_) (fun h3 => ?_)
   ·have h3' := h3
    try simp only [cmpB, Z] at h3
    have hkn2 : k < n := nat_and h3'
    have hw0 : fcmp .eql (rgl (rtriTo (besRow ms n) i) i).w 0 = false := neq_and h3'
    have hlk := hT.hl k (by omega)
    have hap1 : (([] : List Nat) ++ ((rtriTo (besRow ms n) i) k).take ((i : Int)).toNat).length ≤ 100 := by rw [List.nil_append, List.length_take]; omega
    refine J_skip ?_
    refine zC ?_
    refine zF ?_
    refine zT ?_
    refine J_to (To.emps 1) ?_
    refine J_to (To.focus 1 3 k (by omega) rfl rfl rfl rfl) ?_
    refine J_to (To.res 3 (r' := som (ws.getD k NILV) flp (rtriTo (besRow ms n) i k) 36) rfl (res_eq (by show som _ flp _ _ = _; rw [rmid_at (by omega)])) rfl) ?_
    refine J_to (To.freeze 3 (fun _ h => h) rfl frz_som rfl) ?_
    refine J_to (To.emps 1) ?_
    refine (zG [[], [], [], [], [], [3, 4], [3, 4, 5], [], [3, 4, 5, 6, 7], [2, 3, 4, 5, 6, 7, 8], [], [], [10, 11], [10, 11, 12], [], [10, 11, 12, 13, 14], [], [], [2, 3, 4, 5, 6, 7, 8, 9, 10, 11, 12, 13, 14, 15, 16, 17], [2, 3, 4, 5, 6, 7, 8, 9, 10, 11, 12, 13, 14, 15, 16, 17, 18], [0, 1, 2, 3, 4, 5, 6, 7, 8, 9, 10, 11, 12, 13, 14, 15, 16, 17, 18, 19], [0, 1, 2, 3, 4, 5, 6, 7, 8, 9, 10, 11, 12, 13, 14, 15, 16, 17, 18, 19, 20]] (
      .n (zA (Lk.t rfl)) <|
      .n (zA (Lk.t rfl)) <|
      .w 3 (op_build0 (mk := flp) 3 sl26 rfl) <|
      .n (zA (Lk.t rfl)) <|
      .n (zA (Lk.t rfl)) <|
      .r 0 (op_index_som 0 sl76 (Lk.t rfl) (Lk.t rfl) rfl (by omega) (by omega)) <|
      .r 0 (OpOK.subF ((op_get_som (mk := isv) (.slice none 0 0) 0 sc26 (Lk.t rfl) rfl (by omega)).sub rfl (isv_eq (b := (ws.getD k NILV)) (by exact rfl))) rfl (sb_fk 0 rfl)) <|
      .n (zA (Lk.t rfl)) <|
      .n (op_slice_mn sl26 (Lk.t rfl) (Lk.t rfl) (by omega) (by omega)) <|
      .w 3 (op_vr 55 3 rfl rfl (fun u => (op_append_ms 3 sl26 zr36 rfl (Lk.t rfl) (Lk.t rfl) rfl (by rw [List.length_nil, List.length_take]; omega) (by rw [List.length_nil, List.length_take]; omega)))) <|
      .n (zA (Lk.t rfl)) <|
      .n (zA (Lk.t rfl)) <|
      .r 0 (op_index_som 0 sl76 (Lk.t rfl) (Lk.t rfl) rfl (by omega) (by omega)) <|
      .r 0 (OpOK.subF ((op_get_som (mk := isv) (.slice none 0 0) 0 sc26 (Lk.t rfl) rfl (by omega)).sub rfl (isv_eq (b := (ws.getD k NILV)) (by exact rfl))) rfl (sb_fk 0 rfl)) <|
      .n (zA (Lk.t rfl)) <|
      .n (op_slice_md sl26 (Lk.t rfl) (Lk.t rfl) (by omega) (by omega)) <|
      .n (zA (Lk.t rfl)) <|
      .n (zA (Lk.t rfl)) <|
      .n (zP (rmird_ok (a := ((rtriTo (besRow ms n) i) k).drop ((i : Int)).toNat) (v := (rglsL (((rtriTo (besRow ms n) i) i).drop i)).v) (by rw [List.length_drop]; omega) (by rw [List.length_drop]; omega)) ⟨(Lk.t rfl), (Lk.sub (sb_fk 1 rfl) (Lk.t rfl)), (Lk.t rfl),  trivial⟩) <|
      .w 3 (op_vr 62 3 rfl rfl (fun u => (op_append_ms 3 sl26 zr36 rfl (Lk.t rfl) (Lk.t rfl) rfl (by rw [length_mirG, List.length_drop]; omega) (by rw [length_mirG, List.length_drop]; omega)))) <|
      .r 0 (op_index_som 0 sl76 (Lk.t rfl) (Lk.t rfl) rfl (by omega) (by omega)) <|
      .w 0 (op_ver 72 rfl rfl (fun f => op_store_som (mk := isv) 0 (Lk.t rfl) (Lk.t rfl) co_isv sz26 rfl (by omega)) (fun f g h => by rw [h 72 (show 72 ∈ [72] from by decide)]) rfl) <| .nil) (fun _ => mixed) rfl fun g12 => ⟨_, _, [0, 1, 2, 3], rfl, (.cons 2 rfl <| .cons 5 rfl <| .cons 6 rfl <| .cons 7 rfl <| .cons 8 rfl <| .cons 9 rfl <| .cons 10 rfl <| .cons 11 rfl <| .nil), (.cons 0 rfl <| .cons 1 rfl <| .cons 2 rfl <| .cons 3 rfl <| .nil), ?_⟩)
    refine zR ?_
    refine zC ?_
    refine J_to (To.unfocus 1 3 k (by omega) rfl rfl rfl rfl) ?_
    refine J_to (To.res 1 (r' := pool n (poolX (ws.set k (g12 72)) 36 (rmidF (rtriTo (besRow ms n) i) i (k + 1)))) rfl (rpool_new (by omega) (by omega) (by rw [mirW_yes hw0]; rfl)) rfl) ?_
    refine (zG [] (
      .n (zA (Lk.t rfl)) <|
      .n (op_add (Lk.t rfl) (Lk.k rfl) (zO (by omega) (by omega))) <|
      .n (zB (Lk.t rfl)) <| .nil) ff rfl fun g13 => ⟨_, _, [0, 1, 2], rfl, (.cons 2 rfl <| .cons 5 rfl <| .cons 6 rfl <| .cons 7 rfl <| .cons 8 rfl <| .cons 9 rfl <| .cons 10 rfl <| .cons 11 rfl <| .nil), (.cons 0 rfl <| .cons 1 rfl <| .cons 2 rfl <| .nil), ?_⟩)
    refine JN_to To.fdrop ?_
    exact JN_again (k + 1, ws.set k (g12 72)) (by exact ⟨show i + 1 ≤ k + 1 by omega, show k + 1 ≤ n by omega, by rw [List.length_set]; exact hK.2.2⟩) (by show n - (_ + 1) < _; omega) (To.pick (fun _ => .sub (t := 11) rfl (sp_eq (by rfl)) <| .cons 2 rfl <| .cons 5 rfl <| .cons 6 rfl <| .cons 7 rfl <| .cons 8 rfl <| .cons 9 rfl <| .cons 10 rfl <| .nil) (fun _ => .sub 0 rfl ((fun _ _ h => h)) <| .sub 1 rfl ((fun _ _ h => h)) <| .cons 2 rfl <| .nil) (ks := [0, 1, 2]) rfl)
   ·have h3' := h3
    try simp only [cmpB, Z] at h3
    have hkw : k = n ∨ fcmp .eql (rgl (rtriTo (besRow ms n) i) i).w 0 = true := neq_or h3' hkn
    refine J_exit ?_
    refine zE ?_
    refine zE ?_
    refine zS ?_
    refine zC ?_
    refine zF ?_
    refine J_to (To.emps 1) ?_
    refine J_to (To.focus 1 3 i (by omega) rfl rfl rfl rfl) ?_
    refine J_to (To.res 3 (r' := som (ws.getD i NILV) flp (rtriTo (besRow ms n) i i) 36) rfl (res_eq (by show som _ flp _ _ = _; rw [rmid_at (by omega)])) rfl) ?_
    refine zF (zG [] (
      .n (zA (Lk.t rfl)) <|
      .n (zB (Lk.t rfl)) <| .nil) ff rfl fun g14 => ⟨_, _, [0, 1, 2, 3], rfl, (.cons 2 rfl <| .cons 5 rfl <| .cons 6 rfl <| .cons 7 rfl <| .cons 10 rfl <| .cons 12 rfl <| .nil), (.cons 0 rfl <| .cons 1 rfl <| .cons 2 rfl <| .cons 3 rfl <| .nil), ?_⟩)
    refine zC ?_
    refine zT ?_
    refine J_loopc (α := Nat) (fun j => i ≤ j ∧ j ≤ (colsTo ms ms.length + (n - colsTo ms ms.length))) (fun j => (colsTo ms ms.length + (n - colsTo ms ms.length)) - j) (fun j restR => (12, isv (.int .i64 (j : Int))) :: restR) (fun j restS => som (ws.getD i NILV) flp (zerR ((rtriTo (besRow ms n) i) i) i j) 36 :: restS) (ρc := [(2, _), (5, _), (6, _), (7, _), (10, _)]) (σc := [_, _, _]) i (by exact ⟨Nat.le_refl _, by omega⟩) (To.pick (fun _ => .sub (t := 12) rfl (sp_eq (by rfl)) <| .cons 2 rfl <| .cons 5 rfl <| .cons 6 rfl <| .cons 7 rfl <| .cons 10 rfl <| .nil) (fun _ => .sub 3 rfl ((res_eq (by rw [zerR_0]))) <| .cons 0 rfl <| .cons 1 rfl <| .cons 2 rfl <| .nil) (ks := [3, 0, 1, 2]) rfl) (fun j hJ3 => ?_)
    have hij : i ≤ j := hJ3.1
    have hjm : j ≤ (colsTo ms ms.length + (n - colsTo ms ms.length)) := hJ3.2
    have hzl := length_zerR (x := (rtriTo (besRow ms n) i) i) hij (by rw [hli]; exact hjm)
    refine zF ?_
    refine zF (zG [] (
      .n (zA (Lk.t rfl)) <|
      .n (zA (Lk.t rfl)) <|
      .n (zA (Lk.t rfl)) <|
      .r 1 (op_index_som 1 sl76 (Lk.t rfl) (Lk.t rfl) rfl (by omega) (by omega)) <|
      .r 1 ((op_get_som (mk := isv) (.slice none 0 0) 1 sc26 (Lk.t rfl) rfl (by omega)).sub rfl (isv_eq (by exact rfl))) <|
      .r 0 (op_len_som 0 sl26 (Lk.t rfl) rfl) <|
      .n (op_cmp (by simp) (Lk.t rfl) (Lk.t rfl) rfl) <| .nil) ff rfl fun g15 => ⟨_, _, [0, 1, 2, 3], rfl, (.cons 2 rfl <| .cons 5 rfl <| .cons 6 rfl <| .cons 7 rfl <| .cons 10 rfl <| .cons 12 rfl <| .cons 81 rfl <| .nil), (.cons 0 rfl <| .cons 1 rfl <| .cons 2 rfl <| .cons 3 rfl <| .nil), ?_⟩)
    refine zC ?_
    refine zH (zK (Lk.t rfl)) (fun h4 => ?_) (fun h4 => ?_)
    ·have h4' := h4
     try simp only [cmpB, Z] at h4
     refine J_skip ?_
     refine zC ?_
     refine zF ?_
     refine zT ?_
     refine (zG [] (
       .n (zA (Lk.t rfl)) <|
       .n (zA (Lk.t rfl)) <|
       .r 1 (op_index_som 1 sl76 (Lk.t rfl) (Lk.t rfl) rfl (by omega) (by omega)) <|
       .r 1 ((op_get_som (mk := isv) (.slice none 0 0) 1 sc26 (Lk.t rfl) rfl (by omega)).sub rfl (isv_eq (by exact rfl))) <|
       .n (zA (Lk.t rfl)) <|
       .r 0 (op_index_som 0 sl26 (Lk.t rfl) (Lk.t rfl) rfl (by omega) (by omega)) <|
       .w 0 (op_store_som 0 (Lk.t rfl) (Lk.fk rfl (by decide +kernel)) co_flp sz36 rfl (by omega)) <| .nil) ff rfl fun g16 => ⟨_, _, [0, 1, 2, 3], rfl, (.cons 2 rfl <| .cons 5 rfl <| .cons 6 rfl <| .cons 7 rfl <| .cons 10 rfl <| .cons 12 rfl <| .nil), (.cons 0 rfl <| .cons 1 rfl <| .cons 2 rfl <| .cons 3 rfl <| .nil), ?_⟩)
     refine zR ?_
     refine zC ?_
     refine (zG [] (
       .n (zA (Lk.t rfl)) <|
       .n (op_add (Lk.t rfl) (Lk.k rfl) (zO (by omega) (by omega))) <|
       .n (zB (Lk.t rfl)) <| .nil) ff rfl fun g17 => ⟨_, _, [0, 1, 2, 3], rfl, (.cons 2 rfl <| .cons 5 rfl <| .cons 6 rfl <| .cons 7 rfl <| .cons 10 rfl <| .cons 12 rfl <| .nil), (.cons 0 rfl <| .cons 1 rfl <| .cons 2 rfl <| .cons 3 rfl <| .nil), ?_⟩)
     exact JN_again (j + 1) (by exact ⟨by omega, by omega⟩) (by omega) (To.pick (fun _ => .sub (t := 12) rfl (sp_eq (by rfl)) <| .cons 2 rfl <| .cons 5 rfl <| .cons 6 rfl <| .cons 7 rfl <| .cons 10 rfl <| .nil) (fun _ => .sub 0 rfl ((res_eq (by rw [← zerR_set (by omega) (by omega)]; rfl))) <| .cons 1 rfl <| .cons 2 rfl <| .cons 3 rfl <| .nil) (ks := [0, 1, 2, 3]) rfl)
    ·have h4' := h4
     try simp only [cmpB, Z] at h4
     have hje : j = (colsTo ms ms.length + (n - colsTo ms ms.length)) := by omega
     have hclr : zerR ((rtriTo (besRow ms n) i) i) i j = clrR ((rtriTo (besRow ms n) i) i) i := zerR_all (by rw [hli]; exact hje) (by omega)
     have hcl := @length_clrR ((rtriTo (besRow ms n) i) i) i
     refine J_exit ?_
     refine zE ?_
     refine zE ?_
     refine zS ?_
     refine zC ?_
     refine J_to (To.res 0 (r' := som (ws.getD i NILV) flp (clrR ((rtriTo (besRow ms n) i) i) i) 36) rfl (res_eq (by rw [hclr])) rfl) ?_
     refine (zG [] (
       .n (zA (Lk.t rfl)) <|
       .n (zA (Lk.t rfl)) <|
       .r 1 (op_index_som 1 sl76 (Lk.t rfl) (Lk.t rfl) rfl (by omega) (by omega)) <|
       .r 1 ((op_get_som (mk := isv) (.slice none 0 0) 1 sc26 (Lk.t rfl) rfl (by omega)).sub rfl (isv_eq (by exact rfl))) <|
       .n (zA (Lk.t rfl)) <|
       .n (zA (Lk.t rfl)) <|
       .r 0 (op_index_som 0 sl26 (Lk.t rfl) (Lk.t rfl) rfl (by omega) (by omega)) <|
       .w 0 (op_store_som 0 (Lk.t rfl) (Lk.t rfl) co_flp sz36 rfl (by omega)) <| .nil) ff rfl fun g18 => ⟨_, _, [0, 1, 2, 3], rfl, (.cons 2 rfl <| .cons 5 rfl <| .cons 6 rfl <| .cons 7 rfl <| .nil), (.cons 0 rfl <| .cons 1 rfl <| .cons 2 rfl <| .cons 3 rfl <| .nil), ?_⟩)
     refine zR ?_
     refine zC ?_
     refine J_to (To.unfocus 2 0 i (by omega) rfl rfl rfl rfl) ?_
     refine J_to (To.res 2 (r' := pool n (poolX ws 36 (rendF (rtriTo (besRow ms n) i) i))) rfl (rpool_end hkw (by omega) rfl) rfl) ?_
     refine (zG [] (
       .n (zA (Lk.t rfl)) <|
       .n (op_add (Lk.t rfl) (Lk.k rfl) (zO (by omega) (by omega))) <|
       .n (zB (Lk.t rfl)) <| .nil) ff rfl fun g19 => ⟨_, _, [1, 2, 3], rfl, (.cons 2 rfl <| .cons 5 rfl <| .cons 6 rfl <| .cons 7 rfl <| .nil), (.cons 1 rfl <| .cons 2 rfl <| .cons 3 rfl <| .nil), ?_⟩)
     refine JN_to To.fdrop ?_
     exact JN_again (i + 1, ws) (by exact ⟨show i + 1 ≤ n by omega, rtrI_step hT (by omega), hK.2.2⟩) (by show n - (_ + 1) < _; omega) (To.pick (fun _ => .sub (t := 7) rfl (sp_eq (by rfl)) <| .cons 2 rfl <| .cons 5 rfl <| .cons 6 rfl <| .nil) (fun _ => .sub 0 rfl ((fun _ _ h => h)) <| .sub 1 rfl ((fun _ _ h => h)) <| .cons 2 rfl <| .nil) (ks := [0, 1, 2]) rfl)
  ·have h2' := h2
   try simp only [cmpB, Z] at h2
   have hin : i = n := by omega
   have hTn := hI.2.1
   rw [hin] at hTn
   have hrl : ((List.range n).map (rtriTo (besRow ms n) n)).length = n := by simp
   refine J_exit ?_
   refine zE ?_
   refine zE ?_
   refine zS ?_
   refine zC ?_
   refine J_to (To.emps 2) ?_
   refine zF (zG [] (
     .n (zA (Lk.t rfl)) <|
     .n (zA (Lk.t rfl)) <|
     .w 3 (op_callF 3 (rawF_ok hs0) ⟨(Lk.t rfl), (Lk.t rfl),  trivial⟩ rfl) <|
     .w 4 (op_alloc 4 zr28 rfl rfl) <|
     .w 4 (op_store_new_ve 4 rfl rfl rfl (fun f => co_agg) (fun f g h => by rw [h 99 (show 99 ∈ [99] from by decide)]) (fun _ => sz28) rfl (fun _ => rfl) rfl) <| .nil) ff rfl fun g20 => ⟨_, _, [0, 1, 2, 3, 4], rfl, (.cons 2 rfl <| .cons 5 rfl <| .cons 6 rfl <| .cons 13 rfl <| .nil), (.cons 0 rfl <| .cons 1 rfl <| .cons 2 rfl <| .cons 3 rfl <| .cons 4 rfl <| .nil), ?_⟩)
   refine zC ?_
   refine zF ?_
   refine J_to (To.join 0 1 rfl rfl rfl rfl) ?_
   refine J_to (To.freeze 0 (fun _ h => h) rfl (frz_rows hI.2.2) rfl) ?_
   refine J_to (To.slot 5 rfl (q := slm (slm flp) ((List.range n).map (rtriTo (besRow ms n) n))) (zM (sb_fk 0 rfl) (sb_eq (by rw [hin])))) ?_
   refine zF (zG [] (
     .n (zB (Lk.k rfl)) <| .nil) ff rfl fun g21 => ⟨_, _, [2, 3, 4], rfl, (.cons 2 rfl <| .cons 5 rfl <| .cons 6 rfl <| .cons 13 rfl <| .cons 14 rfl <| .nil), (.cons 2 rfl <| .cons 3 rfl <| .cons 4 rfl <| .nil), ?_⟩)
   refine zC ?_
   refine zT ?_
   refine J_loopc (α := Nat × List Nat) (fun x => x.1 ≤ (n : Int).toNat ∧ PutI (n : Int) (n : Int) (fun i j => rtriN (rtriTo (besRow ms n) n) i.toNat j.toNat) (RowD x.1 (0 : Nat)) x.2) (fun x => (n : Int).toNat - x.1) (fun x restR => (14, isv (.int .i64 (x.1 : Int))) :: restR) (fun x restS => som (agN 2 (g20 99)) flp x.2 36 :: restS) (ρc := [(2, _), (5, _), (6, _), (13, _)]) (σc := [_, _]) (0, grid (n : Int) (n : Int) fun _ _ => 0) (by exact ⟨Nat.zero_le _, putI_grid0 hs0⟩) (To.pick (fun _ => .sub (t := 14) rfl (sp_eq (by rfl)) <| .cons 2 rfl <| .cons 5 rfl <| .cons 6 rfl <| .cons 13 rfl <| .nil) (fun _ => .sub 1 rfl ((fun _ _ h => h)) <| .cons 0 rfl <| .cons 2 rfl <| .nil) (ks := [1, 0, 2]) rfl) (fun x hI => ?_)
   obtain ⟨k, l⟩ := x
   try simp only at hI
   show J _ _ ((14, isv (.int .i64 (k : Int))) :: _) (som (agN 2 (g20 99)) flp l 36 :: _) _ _
   refine zF ?_
   refine zF (zG [] (
     .n (zA (Lk.t rfl)) <|
     .n (zA (Lk.t rfl)) <|
     .n (op_cmp (by simp) (Lk.t rfl) (Lk.t rfl) rfl) <| .nil) ff rfl fun g22 => ⟨_, _, [0, 1, 2], rfl, (.cons 2 rfl <| .cons 5 rfl <| .cons 6 rfl <| .cons 13 rfl <| .cons 14 rfl <| .cons 102 rfl <| .nil), (.cons 0 rfl <| .cons 1 rfl <| .cons 2 rfl <| .nil), ?_⟩)
   refine zC ?_
   refine zH (zK (Lk.t rfl)) (fun h5 => ?_) (fun h5 => ?_)
   ·have h5' := h5
    try simp only [cmpB, Z] at h5
    refine J_skip ?_
    refine zC ?_
    refine zF ?_
    refine zT ?_
    refine zF (zG [] (
      .n (zB (Lk.k rfl)) <| .nil) ff rfl fun g23 => ⟨_, _, [0, 1, 2], rfl, (.cons 2 rfl <| .cons 5 rfl <| .cons 6 rfl <| .cons 13 rfl <| .cons 14 rfl <| .cons 15 rfl <| .nil), (.cons 0 rfl <| .cons 1 rfl <| .cons 2 rfl <| .nil), ?_⟩)
    refine zC ?_
    refine zT ?_
    refine J_loopc (α := Nat × List Nat) (fun y => y.1 ≤ (n : Int).toNat ∧ PutI (n : Int) (n : Int) (fun i j => rtriN (rtriTo (besRow ms n) n) i.toNat j.toNat) (RowD k y.1) y.2) (fun y => (n : Int).toNat - y.1) (fun y restR => (15, isv (.int .i64 (y.1 : Int))) :: restR) (fun y restS => som (agN 2 (g20 99)) flp y.2 36 :: restS) (ρc := [(2, _), (5, _), (6, _), (13, _), (14, _)]) (σc := [_, _]) (0, l) (by exact ⟨Nat.zero_le _, hI.2⟩) (To.pick (fun _ => .sub (t := 15) rfl (sp_eq (by rfl)) <| .cons 2 rfl <| .cons 5 rfl <| .cons 6 rfl <| .cons 13 rfl <| .cons 14 rfl <| .nil) (fun _ => .sub 0 rfl ((fun _ _ h => h)) <| .cons 1 rfl <| .cons 2 rfl <| .nil) (ks := [0, 1, 2]) rfl) (fun y hJ => ?_)
    obtain ⟨q, m⟩ := y
    try simp only at hJ
    show J _ _ ((15, isv (.int .i64 (q : Int))) :: _) (som (agN 2 (g20 99)) flp m 36 :: _) _ _
    have hml := hJ.2.1
    have hLk : (((List.range n).map (rtriTo (besRow ms n) n)).getD ((k : Nat) : Int).toNat []).length = (colsTo ms ms.length + (n - colsTo ms ms.length)) := by rw [Int.toNat_natCast, map_at (by omega)]; exact hTn.hl k (by omega)
    refine zF ?_
    refine zF (zG [] (
      .n (zA (Lk.t rfl)) <|
      .n (zA (Lk.t rfl)) <|
      .n (op_cmp (by simp) (Lk.t rfl) (Lk.t rfl) rfl) <| .nil) ff rfl fun g24 => ⟨_, _, [0, 1, 2], rfl, (.cons 2 rfl <| .cons 5 rfl <| .cons 6 rfl <| .cons 13 rfl <| .cons 14 rfl <| .cons 15 rfl <| .cons 107 rfl <| .nil), (.cons 0 rfl <| .cons 1 rfl <| .cons 2 rfl <| .nil), ?_⟩)
    refine zC ?_
    refine zH (zK (Lk.t rfl)) (fun h6 => ?_) (fun h6 => ?_)
    ·have h6' := h6
     try simp only [cmpB, Z] at h6
     have hLq : (((List.range n).map (rtriTo (besRow ms n) n)).getD ((q : Nat) : Int).toNat []).length = (colsTo ms ms.length + (n - colsTo ms ms.length)) := by rw [Int.toNat_natCast, map_at (by omega)]; exact hTn.hl q (by omega)
     refine J_skip ?_
     refine zC ?_
     refine zF ?_
     refine zT ?_
     refine (zG [[], [], [], [], [], [3, 4], [3, 4, 5], [], [3, 4, 5, 6, 7], [3, 4, 5, 6, 7, 8], [], [], [10, 11], [10, 11, 12], [], [10, 11, 12, 13, 14], [10, 11, 12, 13, 14, 15], [10, 11, 12, 13, 14, 15, 16], [3, 4, 5, 6, 7, 8, 9, 10, 11, 12, 13, 14, 15, 16, 17], [0, 1, 2, 3, 4, 5, 6, 7, 8, 9, 10, 11, 12, 13, 14, 15, 16, 17, 18]] (
       .r 2 (op_get_ag 2 ag28 (Lk.t rfl) rfl zJ rfl rfl) <|
       .n (zA (Lk.t rfl)) <|
       .n (zA (Lk.t rfl)) <|
       .n (zA (Lk.t rfl)) <|
       .n (zA (Lk.t rfl)) <|
       .n (op_index_m [] sl76 (Lk.t rfl) (Lk.t rfl) (by omega) (by omega)) <|
       .n (op_load_sc sc26 (Lk.t rfl) rfl) <|
       .n (zA (Lk.t rfl)) <|
       .n (op_index_m 0 sl26 (Lk.t rfl) (Lk.t rfl) (by omega) (by omega)) <|
       .n (op_load_sc sc36 (Lk.t rfl) rfl) <|
       .n (zA (Lk.t rfl)) <|
       .n (zA (Lk.t rfl)) <|
       .n (op_index_m [] sl76 (Lk.t rfl) (Lk.t rfl) (by omega) (by omega)) <|
       .n (op_load_sc sc26 (Lk.t rfl) rfl) <|
       .n (zA (Lk.t rfl)) <|
       .n (op_index_m 0 sl26 (Lk.t rfl) (Lk.t rfl) (by omega) (by omega)) <|
       .n (op_load_sc sc36 (Lk.t rfl) rfl) <|
       .n (op_fcmp (by simp) (Lk.t rfl) (Lk.fk rfl (by decide +kernel)) rfl) <|
       .n (zP (tidy_ok) ⟨(Lk.t rfl), (Lk.t rfl),  trivial⟩) <|
       .w 0 (op_callM 0 (put_ok hs0 hml ⟨by omega, by omega, by omega, by omega⟩) ⟨(Lk.t rfl), (Lk.t rfl), (Lk.t rfl), (Lk.t rfl),  trivial⟩ rfl) <| .nil) (fun _ => mixed) rfl fun g25 => ⟨_, _, [0, 1, 2], rfl, (.cons 2 rfl <| .cons 5 rfl <| .cons 6 rfl <| .cons 13 rfl <| .cons 14 rfl <| .cons 15 rfl <| .nil), (.cons 0 rfl <| .cons 1 rfl <| .cons 2 rfl <| .nil), ?_⟩)
     refine zR ?_
     refine zC ?_
     refine (zG [] (
       .n (zA (Lk.t rfl)) <|
       .n (op_add (Lk.t rfl) (Lk.k rfl) (zO (by omega) (by omega))) <|
       .n (zB (Lk.t rfl)) <| .nil) ff rfl fun g26 => ⟨_, _, [0, 1, 2], rfl, (.cons 2 rfl <| .cons 5 rfl <| .cons 6 rfl <| .cons 13 rfl <| .cons 14 rfl <| .cons 15 rfl <| .nil), (.cons 0 rfl <| .cons 1 rfl <| .cons 2 rfl <| .nil), ?_⟩)
     exact JN_again (q + 1, m.set ((k : Int) * (n : Int) + (q : Int)).toNat (tidN ((((List.range n).map (rtriTo (besRow ms n) n)).getD ((k : Nat) : Int).toNat []).getD ((q : Nat) : Int).toNat 0) (fcmp .lss ((((List.range n).map (rtriTo (besRow ms n) n)).getD ((q : Nat) : Int).toNat []).getD ((q : Nat) : Int).toNat 0) 0))) (by exact ⟨show q + 1 ≤ _ by omega, row_step hs0 (by omega) (by omega) hJ.2 (rtr_val (by omega) (by omega))⟩) (by show (n : Int).toNat - (_ + 1) < _; omega) (To.pick (fun _ => .sub (t := 15) rfl (sp_eq (by rfl)) <| .cons 2 rfl <| .cons 5 rfl <| .cons 6 rfl <| .cons 13 rfl <| .cons 14 rfl <| .nil) (fun _ => .sub 0 rfl ((fun _ _ h => h)) <| .cons 1 rfl <| .cons 2 rfl <| .nil) (ks := [0, 1, 2]) rfl)
    ·have h6' := h6
     try simp only [cmpB, Z] at h6
     refine J_exit ?_
     refine zE ?_
     refine zE ?_
     refine zS ?_
     refine zR ?_
     refine zC ?_
     refine (zG [] (
       .n (zA (Lk.t rfl)) <|
       .n (op_add (Lk.t rfl) (Lk.k rfl) (zO (by omega) (by omega))) <|
       .n (zB (Lk.t rfl)) <| .nil) ff rfl fun g27 => ⟨_, _, [0, 1, 2], rfl, (.cons 2 rfl <| .cons 5 rfl <| .cons 6 rfl <| .cons 13 rfl <| .cons 14 rfl <| .nil), (.cons 0 rfl <| .cons 1 rfl <| .cons 2 rfl <| .nil), ?_⟩)
     exact JN_again (k + 1, m) (by exact ⟨show k + 1 ≤ _ by omega, row_end hs0 (show q = (n : Int).toNat by omega) hJ.2⟩) (by show (n : Int).toNat - (_ + 1) < _; omega) (To.pick (fun _ => .sub (t := 14) rfl (sp_eq (by rfl)) <| .cons 2 rfl <| .cons 5 rfl <| .cons 6 rfl <| .cons 13 rfl <| .nil) (fun _ => .sub 0 rfl ((fun _ _ h => h)) <| .cons 1 rfl <| .cons 2 rfl <| .nil) (ks := [0, 1, 2]) rfl)
   ·have h5' := h5
    try simp only [cmpB, Z] at h5
    have hgr := row_done hs0 (show k = ((n : Int)).toNat by omega) hI.2
    refine J_exit ?_
    refine zE ?_
    refine zE ?_
    refine zS ?_
    refine zC ?_
    refine J_to (To.freeze 0 (fun _ h => h) rfl frz_som rfl) ?_
    refine zF (zG [] (
      .r 2 (op_get_ag 2 ag28 (Lk.t rfl) rfl zJ rfl rfl) <|
      .n (zP (over_ok) ⟨(Lk.sub (sb_agg (.cons zL <| .cons zL <| .cons (sb_fk 0 rfl) <| .nil)) (Lk.t rfl)),  trivial⟩) <|
      .n (op_extract (Lk.t rfl) rfl) <|
      .n (op_extract (Lk.t rfl) rfl) <|
      .w 1 (op_store_b 1 (Lk.t rfl) (Lk.t rfl) co_agg sz28 rfl rfl rfl) <|
      .n (zB (Lk.t rfl)) <| .nil) ff rfl fun g28 => ⟨_, _, [1], rfl, (.cons 2 rfl <| .cons 3 rfl <| .nil), (.cons 1 rfl <| .nil), ?_⟩)
    refine zC ?_
    refine J_ret ?_
    refine zQ (.cons (.ag 0 (Lk.t rfl) ag28 rfl rfl rfl) <| .cons (.tmp (Lk.t rfl)) <| .nil) (zM (sb_res (.cons zL <| .cons zL <| .nil)) ?_)
    exact sb_eq (by rw [rtr_2 he0, hn, hgr]; rfl)
end Go.Proofs.YtllkellonjhalaaGreat
