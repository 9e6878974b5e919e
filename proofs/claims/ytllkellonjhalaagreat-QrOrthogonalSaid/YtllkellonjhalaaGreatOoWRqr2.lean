/- Printed by a program of ours (walk.py): walks of what the reference splits with. -/
import Derived.Test.YtllkellonjhalaaGreatOoKb
import Derived.Test.YtllkellonjhalaaGreatProg
import Derived.KernelRfl
import Derived.Test.YtllkellonjhalaaGreatOoTypes
import Derived.Test.YtllkellonjhalaaGreatOoWQr2
import Derived.Test.YtllkellonjhalaaGreatOoQrf
set_option linter.unusedVariables false
set_option linter.unusedSimpArgs false
set_option maxRecDepth 20000
set_option maxHeartbeats 1000000
namespace Go.Proofs.YtllkellonjhalaaGreat
open Go Go.Bn
attribute [local irreducible] OpOK
theorem rcolF_ok {r c j : Int} {xs : List Nat} (hg : Good r c xs) (i0 : 0 ≤ j) (i1 : j < c) : CtF Tryz.prog 60 [MatP r c xs, isv (.int .i64 j)] (id) (fun u => isv u) (fun u => som u flp (colL r c xs j) 36) := by
 refine CtF.of Tryz.func60 rfl (by kernel_rfl) rfl fun c0 => ?_
 obtain ⟨hs1, hs2, hs3, hs4⟩ := hg.1
 refine yN (To.emps 1) ?_
 refine zF (zG [] (.w 0 (op_box 0 (.t rfl) yL rfl)<|.n (zB (.k rfl))<|.nil) ff rfl fun g1 => ⟨_, _, [0], rfl, (.k 1 rfl<|.k 2 rfl<|.nil), (.k 0 rfl<|.nil), ?_⟩)
 refine zC<|zF (zG [] (.n (zB (.k rfl))<|.nil) ff rfl fun g2 => ⟨_, _, [0], rfl, (.k 1 rfl<|.k 2 rfl<|.k 5 rfl<|.nil), (.k 0 rfl<|.nil), ?_⟩)
 refine zC<|zF<|zF (zG [] (.n (zB (.k rfl))<|.nil) ff rfl fun g3 => ⟨_, _, [0], rfl, (.k 1 rfl<|.k 2 rfl<|.k 5 rfl<|.k 6 rfl<|.nil), (.k 0 rfl<|.nil), ?_⟩)
 refine zC<|zT<|yN (To.emps 1) ?_
 refine J_loopc (α := Nat × Value) (fun x => x.1 ≤ r.toNat) (fun x => r.toNat - x.1) (fun x restR => (6, isv (.int .i64 (x.1 : Int))) :: (5, isv x.2) :: restR) (fun x restS => som x.2 flp ((colL r c xs j).take x.1) 36 :: restS) (ρc := [(1, _), (2, _)]) (σc := [_]) (0, .slice none 0 0) (by exact Nat.zero_le _) (To.pick (fun _ => .sub (t := 6) rfl (yO (by rfl))<|.sub (t := 5) rfl (yO (by rfl))<|.k 1 rfl<|.k 2 rfl<|.nil) (fun _ => .sub 1 rfl (som_nil)<|.k 0 rfl<|.nil) (ks := [1, 0]) rfl) (fun x hI => ?_)
 obtain ⟨k, sv⟩ := x
 try simp only at hI
 show J _ _ ((6, isv (.int .i64 (k : Int))) :: (5, isv sv) :: _) (som sv flp ((colL r c xs j).take k) 36 :: _) _ _
 refine zF<|zF (zG [] (.n (zA (.t rfl))<|.n (zI fd28_0 (.t rfl) rfl)<|.r 1 (zN 1 sc3 (.t rfl) rfl zJ rfl)<|.n (yB (by simp) (.t rfl) (.t rfl) rfl)<|.nil) ff rfl fun g4 => ⟨_, _, [0, 1], rfl, (.k 1 rfl<|.k 2 rfl<|.k 5 rfl<|.k 6 rfl<|.k 10 rfl<|.nil), (.k 0 rfl<|.k 1 rfl<|.nil), ?_⟩)
 refine zC<|zH (zK (.t rfl)) (fun h1 => ?_) (fun h1 => ?_)
 ·try simp only [cmpB, Z] at h1
  refine yE<|zC<|zF<|zT<|(zG [] (.n (zA (.t rfl))<|.r 1 (yI 1 ag28 (.t rfl) rfl zJ rfl rfl)<|.n (zA (.t rfl))<|.n (zA (.t rfl))<|.n (zP (rat_ok hg ⟨by omega, by omega, i0, i1⟩) ⟨(.t rfl), (.t rfl), (.t rfl),  trivial⟩)<|.n (op_buildSlice sl26 zr36 rfl rfl rfl rfl (.cons rfl (.t rfl) co_flp rfl (yU rfl (Nat.le_of_ble_eq_true rfl)) .nil))<|.w 0 (op_append_m 0 sl26 zr36 rfl (.t rfl) (.t rfl) rfl (by rw [List.length_take, length_colL]; omega) (by rw [List.length_take, length_colL]; omega))<|.n (yX rfl rfl)<|.nil) ff rfl fun g5 => ⟨_, _, [0, 1], rfl, (.k 1 rfl<|.k 2 rfl<|.k 5 rfl<|.k 6 rfl<|.nil), (.k 0 rfl<|.k 1 rfl<|.nil), ?_⟩)
  refine zR<|zC<|(zG [] (.n (zA (.t rfl))<|.n (yK (.t rfl) (.k rfl) (zO (by omega) (by omega)))<|.n (zB (.t rfl))<|.nil) ff rfl fun g6 => ⟨_, _, [0, 1], rfl, (.k 1 rfl<|.k 2 rfl<|.k 5 rfl<|.k 6 rfl<|.nil), (.k 0 rfl<|.k 1 rfl<|.nil), ?_⟩)
  exact yW (k + 1, g5 19) (by exact (show k + 1 ≤ r.toNat by omega)) (by show r.toNat - (_ + 1) < _; omega) (To.pick (fun _ => .sub (t := 6) rfl (yO (by rfl))<|.sub (t := 5) rfl (yO (by rfl))<|.k 1 rfl<|.k 2 rfl<|.nil) (fun _ => .sub 0 rfl ((yQ (by rw [show (colL r c xs j).take (k + 1) = (colL r c xs j).take k ++ [mat c xs k j] from take_colL (by omega)])))<|.k 1 rfl<|.nil) (ks := [0, 1]) rfl)
 ·try simp only [cmpB, Z] at h1
  refine J_exit ?_
  refine zE<|zE<|zS<|zC<|zF (zG [] (.n (zA (.t rfl))<|.n (zB (.t rfl))<|.nil) ff rfl fun g7 => ⟨_, _, [0], rfl, (.k 4 rfl<|.nil), (.k 0 rfl<|.nil), ?_⟩)
  refine zC<|yF<|JN_to (To.res 0 (r' := som sv flp (colL r c xs j) 36) rfl (yQ (by rw [List.take_of_length_le (by rw [length_colL]; omega)])) rfl) ?_
  refine JN_retF (u := sv) 0 rfl rfl (.tmp (.t rfl)) (fun _ _ h => h.1) ?_
  exact zL
theorem rmirdF_ok {a v : List Nat} {w : Nat} (hl : a.length ≤ v.length) (h9 : a.length ≤ 1000) : CtF Tryz.prog 45 [fls a, fls v, flp w] (id) (fun u => isv u) (fun u => som u flp (mirG v (fdiv (dotL a v) w) a) 36) := by
 refine CtF.of Tryz.func45 rfl (by kernel_rfl) rfl fun c0 => ?_
 have hml := length_mirG v (fdiv (dotL a v) w) a
 refine zF (zG [] (.n (zB (.k rfl))<|.nil) ff rfl fun g1 => ⟨_, _, [], rfl, (.k 0 rfl<|.k 1 rfl<|.k 2 rfl<|.nil), (.nil), ?_⟩)
 refine zC<|zF (zG [] (.n (zA (.t rfl))<|.n (zA (.t rfl))<|.n (zP (rdot_ok hl) ⟨(.t rfl), (.t rfl),  trivial⟩)<|.n (zA (.t rfl))<|.n (op_float (by simp) (.t rfl) (.t rfl) rfl)<|.n (zB (.t rfl))<|.nil) ff rfl fun g2 => ⟨_, _, [], rfl, (.k 0 rfl<|.k 1 rfl<|.k 7 rfl<|.nil), (.nil), ?_⟩)
 refine zC<|zF (zG [] (.n (zB (.k rfl))<|.nil) ff rfl fun g3 => ⟨_, _, [], rfl, (.k 0 rfl<|.k 1 rfl<|.k 7 rfl<|.k 8 rfl<|.nil), (.nil), ?_⟩)
 refine zC<|zF<|zF (zG [] (.n (zB (.k rfl))<|.nil) ff rfl fun g4 => ⟨_, _, [], rfl, (.k 0 rfl<|.k 1 rfl<|.k 7 rfl<|.k 8 rfl<|.k 9 rfl<|.nil), (.nil), ?_⟩)
 refine zC<|zT<|yN (To.emps 1) ?_
 refine J_loopc (α := Nat × Value) (fun x => x.1 ≤ a.length) (fun x => a.length - x.1) (fun x restR => (9, isv (.int .i64 (x.1 : Int))) :: (8, isv x.2) :: restR) (fun x restS => som x.2 flp ((mirG v (fdiv (dotL a v) w) a).take x.1) 36 :: restS) (ρc := [(0, _), (1, _), (7, _)]) (σc := []) (0, .slice none 0 0) (by exact Nat.zero_le _) (To.pick (fun _ => .sub (t := 9) rfl (yO (by rfl))<|.sub (t := 8) rfl (yO (by rfl))<|.k 0 rfl<|.k 1 rfl<|.k 7 rfl<|.nil) (fun _ => .sub 0 rfl (som_nil)<|.nil) (ks := [0]) rfl) (fun x hI => ?_)
 obtain ⟨j, sv⟩ := x
 try simp only at hI
 show J _ _ ((9, isv (.int .i64 (j : Int))) :: (8, isv sv) :: _) (som sv flp ((mirG v (fdiv (dotL a v) w) a).take j) 36 :: _) _ _
 have hjl : ((mirG v (fdiv (dotL a v) w) a).take j).length ≤ 1000 := by rw [List.length_take, hml]; omega
 refine zF<|zF (zG [] (.n (zA (.t rfl))<|.n (zA (.t rfl))<|.n (yV sl26 (.t rfl))<|.n (yB (by simp) (.t rfl) (.t rfl) rfl)<|.nil) ff rfl fun g5 => ⟨_, _, [0], rfl, (.k 0 rfl<|.k 1 rfl<|.k 7 rfl<|.k 8 rfl<|.k 9 rfl<|.k 18 rfl<|.nil), (.k 0 rfl<|.nil), ?_⟩)
 refine zC<|zH (zK (.t rfl)) (fun h1 => ?_) (fun h1 => ?_)
 ·try simp only [cmpB, Z] at h1
  refine yE<|zC<|zF<|zT<|(zG [[], [], [], [1, 2], [1, 2, 3], [], [], [], [6, 7], [6, 7, 8], [5, 6, 7, 8, 9], [1, 2, 3, 4, 5, 6, 7, 8, 9, 10], [1, 2, 3, 4, 5, 6, 7, 8, 9, 10, 11], [0, 1, 2, 3, 4, 5, 6, 7, 8, 9, 10, 11, 12], [0, 1, 2, 3, 4, 5, 6, 7, 8, 9, 10, 11, 12, 13]] (.n (zA (.t rfl))<|.n (zA (.t rfl))<|.n (zA (.t rfl))<|.n (yS 0 sl26 (.t rfl) (.t rfl) (by omega) (by omega))<|.n (yC sc36 (.t rfl) rfl)<|.n (zA (.t rfl))<|.n (zA (.t rfl))<|.n (zA (.t rfl))<|.n (yS 0 sl26 (.t rfl) (.t rfl) (by omega) (by omega))<|.n (yC sc36 (.t rfl) rfl)<|.n (op_float (by simp) (.t rfl) (.t rfl) rfl)<|.n (op_float (by simp) (.t rfl) (.t rfl) rfl)<|.n (op_buildSlice sl26 zr36 rfl rfl rfl rfl (.cons rfl (.t rfl) co_flp rfl (yU rfl (Nat.le_of_ble_eq_true rfl)) .nil))<|.w 0 (op_append_m 0 sl26 zr36 rfl (.t rfl) (.t rfl) rfl (by simp; omega) (by simp; omega))<|.n (yX rfl rfl)<|.nil) (fun _ => mixed) rfl fun g6 => ⟨_, _, [0], rfl, (.k 0 rfl<|.k 1 rfl<|.k 7 rfl<|.k 8 rfl<|.k 9 rfl<|.nil), (.k 0 rfl<|.nil), ?_⟩)
  refine zR<|zC<|(zG [] (.n (zA (.t rfl))<|.n (yK (.t rfl) (.k rfl) (zO (by omega) (by omega)))<|.n (zB (.t rfl))<|.nil) ff rfl fun g7 => ⟨_, _, [0], rfl, (.k 0 rfl<|.k 1 rfl<|.k 7 rfl<|.k 8 rfl<|.k 9 rfl<|.nil), (.k 0 rfl<|.nil), ?_⟩)
  exact yW (j + 1, g6 34) (by exact (show j + 1 ≤ a.length by omega)) (by show a.length - (_ + 1) < _; omega) (To.pick (fun _ => .sub (t := 9) rfl (yO (by rfl))<|.sub (t := 8) rfl (yO (by rfl))<|.k 0 rfl<|.k 1 rfl<|.k 7 rfl<|.nil) (fun _ => .sub 0 rfl ((yQ (by rw [mirG_take (by omega)]; rfl)))<|.nil) (ks := [0]) rfl)
 ·try simp only [cmpB, Z] at h1
  refine J_exit ?_
  refine zE<|zE<|zS<|zC<|zF (zG [] (.n (zA (.t rfl))<|.n (zB (.t rfl))<|.nil) ff rfl fun g8 => ⟨_, _, [0], rfl, (.k 6 rfl<|.nil), (.k 0 rfl<|.nil), ?_⟩)
  refine zC<|yF<|JN_to (To.res 0 (r' := som sv flp (mirG v (fdiv (dotL a v) w) a) 36) rfl (yQ (by rw [List.take_of_length_le (by rw [hml]; omega)])) rfl) ?_
  refine JN_retF (u := sv) 0 rfl rfl (.tmp (.t rfl)) (fun _ _ h => h.1) ?_
  exact zL
theorem down_ok {m n i q : Nat} {u : Value} {X : Nat → List Nat} {v : List Nat} {w : Nat} (hs0 : Siz (m : Int) (n : Int)) (hq : q < n) (hi : i ≤ m) (hl : (X q).length = m) (hv : v.length = m - i) : CtM Tryz.prog 61 [aggp [isv (.int .i64 (m : Int)), isv (.int .i64 (n : Int)), isv u], isv (.int .i64 (q : Int)), isv (.int .i64 (i : Int)), fls v, flp w] (som u flp (colsM m n X) 36) (anyp) (som u flp (colsM m n (updC X q (dwnL v w i (X q)))) 36) := by
 refine CtM.of Tryz.func61 rfl (by kernel_rfl) rfl (fix_som (by rw [length_colsM, length_colsM])) fun c0 ob hr0 => ?_
 obtain ⟨hs1, hs2, hs3, hs4⟩ := id hs0
 refine yN (To.emps 1) ?_
 refine zF (zG [] (.w 1 (op_box 1 (.t rfl) yL rfl)<|.nil) ff rfl fun g1 => ⟨_, _, [0, 1], rfl, (.k 1 rfl<|.k 2 rfl<|.k 3 rfl<|.k 4 rfl<|.k 5 rfl<|.nil), (.k 0 rfl<|.k 1 rfl<|.nil), ?_⟩)
 refine zC<|yN (To.emps 1) ?_
 refine zF (J_JO ?_)
 refine JO_split 3 rfl ?_
 refine (JO_reg (.r 1 (yI 1 ag28 (.t rfl) rfl zJ rfl rfl)<|.n (zA (.t rfl))<|.w 0 (op_callLF 0 (rcolF_ok (r := (m : Int)) (c := (n : Int)) (xs := colsM m n X) (j := (q : Int)) (colsM_good hs0) (by omega) (by omega)) (fun _ => pure_isv _) (fun _ => pure_som pure_flp) ⟨.inr ⟨_, Lk.t rfl, lent_mat⟩, .inl (.t rfl),  trivial⟩ rfl)<|.nil) rfl fun g2 => ⟨_, _, [0, 1], rfl, (.k 1 rfl<|.k 2 rfl<|.k 3 rfl<|.k 4 rfl<|.k 5 rfl<|.k 14 rfl<|.nil), (.k 0 rfl<|.k 1 rfl<|.nil), ?_⟩)
 refine JN_to (To.emps 1) ?_
 refine JN_to (To.split 0 2 rfl rfl rfl rfl) ?_
 refine JN_to (To.res 2 (r' := som (g2 14) flp (X q) 36) rfl (yQ (by rw [colsM_col hq hl]; rfl)) rfl) ?_
 refine JN_to (To.emps 1) ?_
 refine JN_seg ?_
 refine (JO_reg (.n (zA (.t rfl))<|.r 2 (op_slice_vsl 2 sl26 (.t rfl) (.t rfl) rfl (by omega) (by omega))<|.n (zA (.t rfl))<|.n (zA (.t rfl))<|.w 2 (op_callLF 2 (rmirdF_ok (a := (X q).drop i) (v := v) (w := w) (by rw [List.length_drop]; omega) (by rw [List.length_drop]; omega)) (fun _ => pure_isv _) (fun _ => pure_som pure_flp) ⟨.inr ⟨_, (.t rfl), lent_vsl⟩, .inl (.t rfl), .inl (.t rfl),  trivial⟩ rfl)<|.n (yX rfl rfl)<|.nil) rfl fun g3 => ⟨_, _, [0, 1, 2], rfl, (.k 1 rfl<|.k 2 rfl<|.k 5 rfl<|.k 10 rfl<|.nil), (.k 0 rfl<|.k 1 rfl<|.k 2 rfl<|.nil), ?_⟩)
 refine zC<|yN (To.emps 1) ?_
 refine yN (To.split 2 3 rfl rfl rfl rfl) ?_
 have hml : (mirG v (fdiv (dotL (List.drop ((i : Int)).toNat (X q)) v) w) (List.drop ((i : Int)).toNat (X q))).length = m - i := by rw [length_mirG, List.length_drop, hl]; rfl
 have hml2 : (mirG v (fdiv (dotL (List.drop i (X q)) v) w) (List.drop i (X q))).length = m - i := hml
 refine zF (zG [] (.n (zB (.k rfl))<|.nil) ff rfl fun g4 => ⟨_, _, [0, 1, 2, 3], rfl, (.k 1 rfl<|.k 2 rfl<|.k 5 rfl<|.k 10 rfl<|.k 11 rfl<|.nil), (.k 0 rfl<|.k 1 rfl<|.k 2 rfl<|.k 3 rfl<|.nil), ?_⟩)
 refine zC<|zT<|J_loopc (α := Nat) (fun k => k ≤ m - i) (fun k => m - i - k) (fun k restR => (11, isv (.int .i64 (k : Int))) :: restR) (fun k restS => som u flp (colsM m n (updC X q (mirC (X q) i v (dwnT v w i (X q)) k))) 36 :: restS) (ρc := [(1, _), (2, _), (5, _), (10, _)]) (σc := [_, _, _]) 0 (by exact Nat.zero_le _) (To.pick (fun _ => .sub (t := 11) rfl (yO (by rfl))<|.k 1 rfl<|.k 2 rfl<|.k 5 rfl<|.k 10 rfl<|.nil) (fun _ => .sub 0 rfl ((yQ (by rw [← dwn_0])))<|.k 1 rfl<|.k 2 rfl<|.k 3 rfl<|.nil) (ks := [0, 1, 2, 3]) rfl) (fun k hI => ?_)
 refine zF<|zF (zG [] (.n (zA (.t rfl))<|.n (zA (.t rfl))<|.r 3 (op_len_som 3 sl26 (.t rfl) rfl)<|.n (yB (by simp) (.t rfl) (.t rfl) rfl)<|.nil) ff rfl fun g5 => ⟨_, _, [0, 1, 2, 3], rfl, (.k 1 rfl<|.k 2 rfl<|.k 5 rfl<|.k 10 rfl<|.k 11 rfl<|.k 23 rfl<|.nil), (.k 0 rfl<|.k 1 rfl<|.k 2 rfl<|.k 3 rfl<|.nil), ?_⟩)
 refine zC<|zH (zK (.t rfl)) (fun h1 => ?_) (fun h1 => ?_)
 ·try simp only [cmpB, Z] at h1
  refine yE<|zC<|zF<|zT<|(zG [[], [], [], [1, 2], [], [], [], [5, 6], [5, 6, 7], [0, 1, 2, 3, 4, 5, 6, 7, 8]] (.r 1 (yI 1 ag28 (.t rfl) rfl zJ rfl rfl)<|.n (zA (.t rfl))<|.n (zA (.t rfl))<|.n (yK (.t rfl) (.t rfl) (zO (by omega) (by omega)))<|.n (zA (.t rfl))<|.n (zA (.t rfl))<|.n (zA (.t rfl))<|.r 3 (yH 3 sl26 (.t rfl) (.t rfl) rfl (by omega) (by omega))<|.r 3 (op_get_som 0 3 sc36 (.t rfl) rfl (by omega))<|.w 0 (op_callM 0 (put_ok hs0 (colsM_len m n _) ⟨by omega, by omega, by omega, by omega⟩) ⟨(.t rfl), (.t rfl), (.t rfl), (.t rfl),  trivial⟩ rfl)<|.nil) (fun _ => mixed) rfl fun g6 => ⟨_, _, [0, 1, 2, 3], rfl, (.k 1 rfl<|.k 2 rfl<|.k 5 rfl<|.k 10 rfl<|.k 11 rfl<|.nil), (.k 0 rfl<|.k 1 rfl<|.k 2 rfl<|.k 3 rfl<|.nil), ?_⟩)
  refine zR<|zC<|(zG [] (.n (zA (.t rfl))<|.n (yK (.t rfl) (.k rfl) (zO (by omega) (by omega)))<|.n (zB (.t rfl))<|.nil) ff rfl fun g7 => ⟨_, _, [0, 1, 2, 3], rfl, (.k 1 rfl<|.k 2 rfl<|.k 5 rfl<|.k 10 rfl<|.k 11 rfl<|.nil), (.k 0 rfl<|.k 1 rfl<|.k 2 rfl<|.k 3 rfl<|.nil), ?_⟩)
  exact yW (k + 1) (by omega) (by omega) (To.pick (fun _ => .sub (t := 11) rfl (yO (by rfl))<|.k 1 rfl<|.k 2 rfl<|.k 5 rfl<|.k 10 rfl<|.nil) (fun _ => .sub 0 rfl ((yQ (congrArg (fun z => som u flp z 36) (dwn_step hs0 hq hl (by omega) rfl))))<|.k 1 rfl<|.k 2 rfl<|.k 3 rfl<|.nil) (ks := [0, 1, 2, 3]) rfl)
 ·try simp only [cmpB, Z] at h1
  refine J_exit ?_
  refine zE<|zE<|zS<|JN_end<|JN_to (To.res 0 (r' := som u flp (colsM m n (updC X q (dwnL v w i (X q)))) 36) rfl (yQ (by rw [dwn_all hl hi (by omega)])) rfl) ?_
  refine JN_retM 0 hr0 (fix_som (by rw [length_colsM, length_colsM])) rfl (.nil) (zM zL ?_)
  exact sb_any
theorem rzeroC_ok {n : Int} (hs : Siz n n) : CtF Tryz.prog 93 [isv (.int .i64 n), isv (.int .i64 n)] (agP) (fun u => tupp [aggp [isv (.int .i64 n), isv (.int .i64 n), isv u], isv (.int .i64 0)]) (fun u => som u flp (grid n n fun _ _ => 0) 36) := by
 refine CtF.of Tryz.func93 rfl (by kernel_rfl) rfl fun c0 => ?_
 obtain ⟨hz1, hz2, _, _⟩ := id hs
 refine yN (To.emps 1) ?_
 refine zF (zG [] (.w 0 (yT 0 zr28 rfl rfl)<|.n (zB (.k rfl))<|.nil) ff rfl fun g1 => ⟨_, _, [0], rfl, (.k 0 rfl<|.k 1 rfl<|.k 4 rfl<|.nil), (.k 0 rfl<|.nil), ?_⟩)
 refine zC<|zF<|zF (zG [] (.n (zA (.t rfl))<|.n (yB (by simp) (.t rfl) (.k rfl) rfl)<|.n (zA (.t rfl))<|.n (yA rfl rfl (gd_b rfl) (fun hC => (zA (.t rfl))))<|.n (yA rfl rfl (gd_b rfl) (fun hC => (yB (by simp) (.w rfl hC) (.k rfl) rfl)))<|.n (op_or (.t rfl) (fun h2 => (.w rfl h2)))<|.n (zA (.t rfl))<|.n (yA rfl rfl (gd_b rfl) (fun hC => (zA (.t rfl))))<|.n (yA rfl rfl (gd_b rfl) (fun hC => (yB (by simp) (.w rfl hC) (.k rfl) rfl)))<|.n (op_or (.t rfl) (fun h2 => (.w rfl h2)))<|.n (zA (.t rfl))<|.n (yA rfl rfl (gd_b rfl) (fun hC => (zA (.t rfl))))<|.n (yA rfl rfl (gd_b rfl) (fun hC => (yB (by simp) (.w rfl hC) (.k rfl) rfl)))<|.n (op_or (.t rfl) (fun h2 => (.w rfl h2)))<|.nil) ff rfl fun g2 => ⟨_, _, [0], rfl, (.k 0 rfl<|.k 1 rfl<|.k 4 rfl<|.k 19 rfl<|.nil), (.k 0 rfl<|.nil), ?_⟩)
 refine zC<|zH (zK (.t rfl)) (fun h1 => ?_) (fun h1 => ?_)
 ·try simp only [cmpB, Z] at h1
  exfalso; omega
 ·try simp only [cmpB, Z] at h1
  refine yE<|zC<|yN (To.emps 1) ?_
  refine zF (zG [] (.n (zA (.t rfl))<|.n (zA (.t rfl))<|.w 1 (op_callF 1 (rawF_ok hs) ⟨(.t rfl), (.t rfl),  trivial⟩ rfl)<|.w 0 (op_ver 23 rfl rfl (fun f => yM 0 (.t rfl) (.t rfl) yL sz28 rfl rfl rfl) (fun f g h => by rw [h 23 (show 23 ∈ [23] from by decide)]) rfl)<|.n (zB (.k rfl))<|.nil) ff rfl fun g3 => ⟨_, _, [0, 1], rfl, (.k 4 rfl<|.k 5 rfl<|.nil), (.k 0 rfl<|.k 1 rfl<|.nil), ?_⟩)
  refine zC<|yF<|JN_retF2 (u := (agN 2 (g3 23))) 1 rfl rfl (.cons (.ag 0 (.t rfl) ag28 rfl rfl rfl)<|.cons (.tmp (.t rfl))<|.nil) (fun v1 v2 c h => agN_of rfl v1 c h) ?_
  exact zL
theorem reyeC_ok {m : Nat} (hs0 : Siz (m : Int) (m : Int)) : CtF Tryz.prog 62 [isv (.int .i64 (m : Int))] (agP) (fun u => tupp [aggp [isv (.int .i64 (m : Int)), isv (.int .i64 (m : Int)), isv u], isv (.int .i64 0)]) (fun u => som u flp (colsM m m (eyeTo m m)) 36) := by
 refine CtF.of Tryz.func62 rfl (by kernel_rfl) rfl fun c0 => ?_
 obtain ⟨hz1, hz2, _, _⟩ := id hs0
 refine yN (To.emps 1) ?_
 refine zF (zG [] (.w 0 (yT 0 zr28 rfl rfl)<|.n (zB (.k rfl))<|.nil) ff rfl fun g1 => ⟨_, _, [0], rfl, (.k 0 rfl<|.k 2 rfl<|.nil), (.k 0 rfl<|.nil), ?_⟩)
 refine zC<|yN (To.emps 2) ?_
 refine zF (zG [] (.n (zA (.t rfl))<|.n (zA (.t rfl))<|.w 1 (op_callF 1 (rzeroC_ok hs0) ⟨(.t rfl), (.t rfl),  trivial⟩ rfl)<|.n (op_move_ve rfl rfl)<|.n (op_ve 7 11 rfl rfl rfl (fun f => yJ (.t rfl) rfl) (fun f g h => by first | rfl | rw [h 10 (show 10 ∈ [10] from by decide)]) rfl)<|.n (op_ve 7 12 rfl rfl rfl (fun f => yJ (.t rfl) rfl) (fun f g h => by first | rfl | rw [h 10 (show 10 ∈ [10] from by decide)]) rfl)<|.w 2 (yT 2 zr28 rfl rfl)<|.w 2 (op_store_new_ve 2 rfl rfl rfl (fun f => yL) (fun f g h => by rw [h 10 (show 10 ∈ [10] from by decide)]) (fun _ => sz28) rfl (fun _ => rfl) rfl)<|.n (yX rfl rfl)<|.nil) ff rfl fun g2 => ⟨_, _, [0, 1, 2], rfl, (.k 0 rfl<|.k 2 rfl<|.k 4 rfl<|.k 5 rfl<|.nil), (.k 0 rfl<|.k 1 rfl<|.k 2 rfl<|.nil), ?_⟩)
 refine zC<|zF<|zF (zG [] (.n (zB (.k rfl))<|.nil) ff rfl fun g3 => ⟨_, _, [0, 1, 2], rfl, (.k 0 rfl<|.k 2 rfl<|.k 4 rfl<|.k 5 rfl<|.k 6 rfl<|.nil), (.k 0 rfl<|.k 1 rfl<|.k 2 rfl<|.nil), ?_⟩)
 refine zC<|zT<|J_loopc (α := Nat) (fun k => k ≤ m) (fun k => m - k) (fun k restR => (6, isv (.int .i64 (k : Int))) :: restR) (fun k restS => som (agP (g2 10)) flp (colsM m m (eyeTo m k)) 36 :: restS) (ρc := [(0, _), (2, _), (4, _), (5, _)]) (σc := [_, _]) 0 (by exact Nat.zero_le _) (To.pick (fun _ => .sub (t := 6) rfl (yO (by rfl))<|.k 0 rfl<|.k 2 rfl<|.k 4 rfl<|.k 5 rfl<|.nil) (fun _ => .sub 1 rfl ((yQ (by rw [eyeTo_0])))<|.k 0 rfl<|.k 2 rfl<|.nil) (ks := [1, 0, 2]) rfl) (fun k hI => ?_)
 refine zF<|zF (zG [] (.n (zA (.t rfl))<|.n (zA (.t rfl))<|.n (yB (by simp) (.t rfl) (.t rfl) rfl)<|.n (zA (.t rfl))<|.n (yA rfl rfl (gd_b rfl) (fun hC => (zA (.t rfl))))<|.n (yA rfl rfl (gd_b rfl) (fun hC => (yB (by simp) (.w rfl hC) (.k rfl) rfl)))<|.n (op_and (.t rfl) (fun h2 => (.w rfl h2)))<|.nil) ff rfl fun g4 => ⟨_, _, [0, 1, 2], rfl, (.k 0 rfl<|.k 2 rfl<|.k 4 rfl<|.k 5 rfl<|.k 6 rfl<|.k 19 rfl<|.nil), (.k 0 rfl<|.k 1 rfl<|.k 2 rfl<|.nil), ?_⟩)
 refine zC<|zH (zK (.t rfl)) (fun h1 => ?_) (fun h1 => ?_)
 ·have h1' := h1
  try simp only [cmpB, Z] at h1
  refine yE<|zC<|zF<|zT<|(zG [] (.r 2 (yI 2 ag28 (.t rfl) rfl zJ rfl rfl)<|.n (zA (.t rfl))<|.n (zA (.t rfl))<|.w 0 (op_callM 0 (put_ok hs0 (colsM_len m m _) ⟨by omega, by omega, by omega, by omega⟩) ⟨(.t rfl), (.t rfl), (.t rfl), (Lk.fk rfl (by decide +kernel)),  trivial⟩ rfl)<|.nil) ff rfl fun g5 => ⟨_, _, [0, 1, 2], rfl, (.k 0 rfl<|.k 2 rfl<|.k 4 rfl<|.k 5 rfl<|.k 6 rfl<|.nil), (.k 0 rfl<|.k 1 rfl<|.k 2 rfl<|.nil), ?_⟩)
  refine zR<|zC<|(zG [] (.n (zA (.t rfl))<|.n (yK (.t rfl) (.k rfl) (zO (by omega) (by omega)))<|.n (zB (.t rfl))<|.nil) ff rfl fun g6 => ⟨_, _, [0, 1, 2], rfl, (.k 0 rfl<|.k 2 rfl<|.k 4 rfl<|.k 5 rfl<|.k 6 rfl<|.nil), (.k 0 rfl<|.k 1 rfl<|.k 2 rfl<|.nil), ?_⟩)
  exact yW (k + 1) (by omega) (by omega) (To.pick (fun _ => .sub (t := 6) rfl (yO (by rfl))<|.k 0 rfl<|.k 2 rfl<|.k 4 rfl<|.k 5 rfl<|.nil) (fun _ => .sub 0 rfl ((yQ (congrArg (fun z => som (agP (g2 10)) flp z 36) (eyeTo_step hs0 (by omega)))))<|.k 1 rfl<|.k 2 rfl<|.nil) (ks := [0, 1, 2]) rfl)
 ·have h1' := h1
  try simp only [cmpB, Z] at h1
  have hkn : (m : Int) ≤ (k : Int) := by rw [Bool.and_eq_false_iff] at h1'; rcases h1' with q | q; (· simp [cmpB] at q; omega); exact absurd q (by decide)
  refine J_exit ?_
  refine zE<|zE<|zS<|zC<|zF (zG [] (.r 2 (yI 2 ag28 (.t rfl) rfl zJ rfl rfl)<|.n (zA (.t rfl))<|.w 1 (yM 1 (.t rfl) (.t rfl) yL sz28 rfl rfl rfl)<|.n (zB (.t rfl))<|.nil) ff rfl fun g7 => ⟨_, _, [0, 1], rfl, (.k 2 rfl<|.k 3 rfl<|.nil), (.k 0 rfl<|.k 1 rfl<|.nil), ?_⟩)
  refine zC<|yF<|JN_to (To.res 0 (r' := som (agP (g2 10)) flp (colsM m m (eyeTo m m)) 36) rfl (yQ (by rw [show k = m by omega])) rfl) ?_
  refine JN_retF2 (u := (agP (g2 10))) 0 rfl rfl (.cons (.ag 1 (.t rfl) ag28 rfl rfl rfl)<|.cons (.tmp (.t rfl))<|.nil) (fun v1 v2 c h => agN_of rfl v1 c h) ?_
  exact zL
theorem ends_ok {m n : Nat} {xs ys : List Nat} (hs0 : Siz (m : Int) (n : Int)) (hsn : Siz (n : Int) (n : Int)) (hgq : Good (m : Int) (m : Int) ys) (hga : Good (m : Int) (n : Int) xs) (hmn : n ≤ m) : Ct Tryz.prog 63 [MatP (m : Int) (m : Int) ys, MatP (m : Int) (n : Int) xs, isv (.int .i64 (n : Int))] (resQ2 (endsQ (m : Int) (n : Int) (eQ m n ys xs) (eR n xs))) := by
 refine Ct.of Tryz.func63 rfl (by kernel_rfl) rfl fun c0 => ?_
 obtain ⟨hs1, hs2, hs3, hs4⟩ := id hs0
 refine yN (To.emps 4) ?_
 refine zF (zG [] (.w 0 (op_box 0 (.t rfl) yL rfl)<|.w 1 (op_box 1 (.t rfl) yL rfl)<|.w 2 (yT 2 zr28 rfl rfl)<|.w 3 (yT 3 zr28 rfl rfl)<|.n (zB (.k rfl))<|.nil) ff rfl fun g1 => ⟨_, _, [0, 1, 2, 3], rfl, (.k 2 rfl<|.k 3 rfl<|.k 4 rfl<|.k 6 rfl<|.k 7 rfl<|.nil), (.k 0 rfl<|.k 1 rfl<|.k 2 rfl<|.k 3 rfl<|.nil), ?_⟩)
 refine zC<|yN (To.emps 4) ?_
 refine zF (zG [] (.n (zI fd28_0 (.t rfl) rfl)<|.r 0 (zN 0 sc3 (.t rfl) rfl zJ rfl)<|.n (zA (.t rfl))<|.w 4 (op_callF 4 (rawF_ok hs0) ⟨(.t rfl), (.t rfl),  trivial⟩ rfl)<|.n (zA (.t rfl))<|.n (zA (.t rfl))<|.w 5 (op_callF 5 (rawF_ok hsn) ⟨(.t rfl), (.t rfl),  trivial⟩ rfl)<|.w 6 (yT 6 zr28 rfl rfl)<|.w 7 (yT 7 zr28 rfl rfl)<|.w 6 (op_store_new_ve 6 rfl rfl rfl (fun f => yL) (fun f g h => by rw [h 18 (show 18 ∈ [18] from by decide)]) (fun _ => sz28) rfl (fun _ => rfl) rfl)<|.w 7 (op_store_new_ve 7 rfl rfl rfl (fun f => yL) (fun f g h => by rw [h 21 (show 21 ∈ [21] from by decide)]) (fun _ => sz28) rfl (fun _ => rfl) rfl)<|.nil) ff rfl fun g2 => ⟨_, _, [0, 1, 2, 3, 4, 5, 6, 7], rfl, (.k 2 rfl<|.k 3 rfl<|.k 4 rfl<|.k 6 rfl<|.k 7 rfl<|.k 9 rfl<|.k 10 rfl<|.nil), (.k 0 rfl<|.k 1 rfl<|.k 2 rfl<|.k 3 rfl<|.k 4 rfl<|.k 5 rfl<|.k 6 rfl<|.k 7 rfl<|.nil), ?_⟩)
 refine zC<|zF<|zF (zG [] (.n (zB (.k rfl))<|.nil) ff rfl fun g3 => ⟨_, _, [0, 1, 2, 3, 4, 5, 6, 7], rfl, (.k 2 rfl<|.k 3 rfl<|.k 4 rfl<|.k 6 rfl<|.k 7 rfl<|.k 9 rfl<|.k 10 rfl<|.k 11 rfl<|.nil), (.k 0 rfl<|.k 1 rfl<|.k 2 rfl<|.k 3 rfl<|.k 4 rfl<|.k 5 rfl<|.k 6 rfl<|.k 7 rfl<|.nil), ?_⟩)
 refine zC<|zT<|J_loopc (α := Nat × List Nat × List Nat) (fun x => x.1 ≤ n ∧ PutI (m : Int) (n : Int) (fun i j => tidB (mat (m : Int) ys i j) (mat (n : Int) xs j j)) (ClmD (0 : Nat) x.1) x.2.1 ∧ PutI (n : Int) (n : Int) (fun i j => tidB (mat (n : Int) xs i j) (mat (n : Int) xs i i)) (RowD x.1 (0 : Nat)) x.2.2) (fun x => n - x.1) (fun x restR => (11, isv (.int .i64 (x.1 : Int))) :: restR) (fun x restS => som (agN 2 (g2 18)) flp x.2.1 36 :: som (agN 2 (g2 21)) flp x.2.2 36 :: restS) (ρc := [(2, _), (3, _), (4, _), (6, _), (7, _), (9, _), (10, _)]) (σc := [_, _, _, _, _, _]) (0, grid (m : Int) (n : Int) fun _ _ => 0, grid (n : Int) (n : Int) fun _ _ => 0) (by exact ⟨Nat.zero_le _, clm_grid0 hs0, putI_grid0 hsn⟩) (To.pick (fun _ => .sub (t := 11) rfl (yO (by rfl))<|.k 2 rfl<|.k 3 rfl<|.k 4 rfl<|.k 6 rfl<|.k 7 rfl<|.k 9 rfl<|.k 10 rfl<|.nil) (fun _ => .sub 4 rfl ((fun _ _ h => h))<|.sub 5 rfl ((fun _ _ h => h))<|.k 0 rfl<|.k 1 rfl<|.k 2 rfl<|.k 3 rfl<|.k 6 rfl<|.k 7 rfl<|.nil) (ks := [4, 5, 0, 1, 2, 3, 6, 7]) rfl) (fun x hI => ?_)
 obtain ⟨j, l, l2⟩ := x
 try simp only at hI
 show J _ _ ((11, isv (.int .i64 (j : Int))) :: _) (som (agN 2 (g2 18)) flp l 36 :: som (agN 2 (g2 21)) flp l2 36 :: _) _ _
 refine zF<|zF (zG [] (.n (zA (.t rfl))<|.n (zA (.t rfl))<|.n (yB (by simp) (.t rfl) (.t rfl) rfl)<|.nil) ff rfl fun g4 => ⟨_, _, [0, 1, 2, 3, 4, 5, 6, 7], rfl, (.k 2 rfl<|.k 3 rfl<|.k 4 rfl<|.k 6 rfl<|.k 7 rfl<|.k 9 rfl<|.k 10 rfl<|.k 11 rfl<|.k 24 rfl<|.nil), (.k 0 rfl<|.k 1 rfl<|.k 2 rfl<|.k 3 rfl<|.k 4 rfl<|.k 5 rfl<|.k 6 rfl<|.k 7 rfl<|.nil), ?_⟩)
 refine zC<|zH (zK (.t rfl)) (fun h1 => ?_) (fun h1 => ?_)
 ·try simp only [cmpB, Z] at h1
  refine yE<|zC<|zF<|zT<|zF (zG [] (.r 3 (yI 3 ag28 (.t rfl) rfl zJ rfl rfl)<|.n (zA (.t rfl))<|.n (zA (.t rfl))<|.n (zP (rat_ok hga ⟨by omega, by omega, by omega, by omega⟩) ⟨(.t rfl), (.t rfl), (.t rfl),  trivial⟩)<|.n (op_fcmp (by simp) (.t rfl) (Lk.fk rfl (by decide +kernel)) rfl)<|.n (zB (.t rfl))<|.nil) ff rfl fun g5 => ⟨_, _, [0, 1, 2, 3, 4, 5, 6, 7], rfl, (.k 2 rfl<|.k 3 rfl<|.k 4 rfl<|.k 6 rfl<|.k 7 rfl<|.k 9 rfl<|.k 10 rfl<|.k 11 rfl<|.k 12 rfl<|.nil), (.k 0 rfl<|.k 1 rfl<|.k 2 rfl<|.k 3 rfl<|.k 4 rfl<|.k 5 rfl<|.k 6 rfl<|.k 7 rfl<|.nil), ?_⟩)
  refine zC<|zF<|zF (zG [] (.n (zB (.k rfl))<|.nil) ff rfl fun g6 => ⟨_, _, [0, 1, 2, 3, 4, 5, 6, 7], rfl, (.k 2 rfl<|.k 3 rfl<|.k 4 rfl<|.k 6 rfl<|.k 7 rfl<|.k 9 rfl<|.k 10 rfl<|.k 11 rfl<|.k 12 rfl<|.k 13 rfl<|.nil), (.k 0 rfl<|.k 1 rfl<|.k 2 rfl<|.k 3 rfl<|.k 4 rfl<|.k 5 rfl<|.k 6 rfl<|.k 7 rfl<|.nil), ?_⟩)
  refine zC<|zT<|J_loopc (α := Nat × List Nat) (fun y => y.1 ≤ m ∧ PutI (m : Int) (n : Int) (fun i j => tidB (mat (m : Int) ys i j) (mat (n : Int) xs j j)) (ClmD y.1 j) y.2) (fun y => m - y.1) (fun y restR => (13, isv (.int .i64 (y.1 : Int))) :: restR) (fun y restS => som (agN 2 (g2 18)) flp y.2 36 :: restS) (ρc := [(2, _), (3, _), (4, _), (6, _), (7, _), (9, _), (10, _), (11, _), (12, _)]) (σc := [_, _, _, _, _, _, _]) (0, l) (by exact ⟨Nat.zero_le _, hI.2.1⟩) (To.pick (fun _ => .sub (t := 13) rfl (yO (by rfl))<|.k 2 rfl<|.k 3 rfl<|.k 4 rfl<|.k 6 rfl<|.k 7 rfl<|.k 9 rfl<|.k 10 rfl<|.k 11 rfl<|.k 12 rfl<|.nil) (fun _ => .sub 0 rfl ((fun _ _ h => h))<|.k 1 rfl<|.k 2 rfl<|.k 3 rfl<|.k 4 rfl<|.k 5 rfl<|.k 6 rfl<|.k 7 rfl<|.nil) (ks := [0, 1, 2, 3, 4, 5, 6, 7]) rfl) (fun y hJ => ?_)
  obtain ⟨i, a1⟩ := y
  try simp only at hJ
  show J _ _ ((13, isv (.int .i64 (i : Int))) :: _) (som (agN 2 (g2 18)) flp a1 36 :: _) _ _
  have hml := hJ.2.1
  refine zF<|zF (zG [] (.n (zA (.t rfl))<|.n (zI fd28_0 (.t rfl) rfl)<|.r 2 (zN 2 sc3 (.t rfl) rfl zJ rfl)<|.n (yB (by simp) (.t rfl) (.t rfl) rfl)<|.nil) ff rfl fun g7 => ⟨_, _, [0, 1, 2, 3, 4, 5, 6, 7], rfl, (.k 2 rfl<|.k 3 rfl<|.k 4 rfl<|.k 6 rfl<|.k 7 rfl<|.k 9 rfl<|.k 10 rfl<|.k 11 rfl<|.k 12 rfl<|.k 13 rfl<|.k 35 rfl<|.nil), (.k 0 rfl<|.k 1 rfl<|.k 2 rfl<|.k 3 rfl<|.k 4 rfl<|.k 5 rfl<|.k 6 rfl<|.k 7 rfl<|.nil), ?_⟩)
  refine zC<|zH (zK (.t rfl)) (fun h2 => ?_) (fun h2 => ?_)
  ·try simp only [cmpB, Z] at h2
   refine yE<|zC<|zF<|zT<|(zG [[], [], [], [], [], [], [3, 4, 5], [], [3, 4, 5, 6, 7], [0, 1, 2, 3, 4, 5, 6, 7, 8]] (.r 6 (yI 6 ag28 (.t rfl) rfl zJ rfl rfl)<|.n (zA (.t rfl))<|.n (zA (.t rfl))<|.r 2 (yI 2 ag28 (.t rfl) rfl zJ rfl rfl)<|.n (zA (.t rfl))<|.n (zA (.t rfl))<|.n (zP (rat_ok hgq ⟨by omega, by omega, by omega, by omega⟩) ⟨(.t rfl), (.t rfl), (.t rfl),  trivial⟩)<|.n (zA (.t rfl))<|.n (zP (tidy_ok) ⟨(.t rfl), (.t rfl),  trivial⟩)<|.w 0 (op_callM 0 (put_ok hs0 hml ⟨by omega, by omega, by omega, by omega⟩) ⟨(.t rfl), (.t rfl), (.t rfl), (.t rfl),  trivial⟩ rfl)<|.nil) (fun _ => mixed) rfl fun g8 => ⟨_, _, [0, 1, 2, 3, 4, 5, 6, 7], rfl, (.k 2 rfl<|.k 3 rfl<|.k 4 rfl<|.k 6 rfl<|.k 7 rfl<|.k 9 rfl<|.k 10 rfl<|.k 11 rfl<|.k 12 rfl<|.k 13 rfl<|.nil), (.k 0 rfl<|.k 1 rfl<|.k 2 rfl<|.k 3 rfl<|.k 4 rfl<|.k 5 rfl<|.k 6 rfl<|.k 7 rfl<|.nil), ?_⟩)
   refine zR<|zC<|(zG [] (.n (zA (.t rfl))<|.n (yK (.t rfl) (.k rfl) (zO (by omega) (by omega)))<|.n (zB (.t rfl))<|.nil) ff rfl fun g9 => ⟨_, _, [0, 1, 2, 3, 4, 5, 6, 7], rfl, (.k 2 rfl<|.k 3 rfl<|.k 4 rfl<|.k 6 rfl<|.k 7 rfl<|.k 9 rfl<|.k 10 rfl<|.k 11 rfl<|.k 12 rfl<|.k 13 rfl<|.nil), (.k 0 rfl<|.k 1 rfl<|.k 2 rfl<|.k 3 rfl<|.k 4 rfl<|.k 5 rfl<|.k 6 rfl<|.k 7 rfl<|.nil), ?_⟩)
   exact yW (i + 1, a1.set ((i : Int) * (n : Int) + (j : Int)).toNat (tidN (mat (m : Int) ys i j) (fcmp .lss (mat (n : Int) xs j j) 0))) (by exact ⟨show i + 1 ≤ m by omega, clm_step hs0 (by omega) (by omega) hJ.2 rfl⟩) (by show m - (_ + 1) < _; omega) (To.pick (fun _ => .sub (t := 13) rfl (yO (by rfl))<|.k 2 rfl<|.k 3 rfl<|.k 4 rfl<|.k 6 rfl<|.k 7 rfl<|.k 9 rfl<|.k 10 rfl<|.k 11 rfl<|.k 12 rfl<|.nil) (fun _ => .sub 0 rfl ((fun _ _ h => h))<|.k 1 rfl<|.k 2 rfl<|.k 3 rfl<|.k 4 rfl<|.k 5 rfl<|.k 6 rfl<|.k 7 rfl<|.nil) (ks := [0, 1, 2, 3, 4, 5, 6, 7]) rfl)
  ·try simp only [cmpB, Z] at h2
   refine J_exit ?_
   refine zE<|zE<|zS<|zC<|zF (zG [] (.n (zB (.k rfl))<|.nil) ff rfl fun g10 => ⟨_, _, [0, 1, 2, 3, 4, 5, 6, 7], rfl, (.k 2 rfl<|.k 3 rfl<|.k 4 rfl<|.k 6 rfl<|.k 7 rfl<|.k 9 rfl<|.k 10 rfl<|.k 11 rfl<|.k 12 rfl<|.k 14 rfl<|.nil), (.k 0 rfl<|.k 1 rfl<|.k 2 rfl<|.k 3 rfl<|.k 4 rfl<|.k 5 rfl<|.k 6 rfl<|.k 7 rfl<|.nil), ?_⟩)
   refine zC<|zT<|J_loopc (α := Nat × List Nat) (fun y => y.1 ≤ n ∧ PutI (n : Int) (n : Int) (fun i j => tidB (mat (n : Int) xs i j) (mat (n : Int) xs i i)) (RowD j y.1) y.2) (fun y => n - y.1) (fun y restR => (14, isv (.int .i64 (y.1 : Int))) :: restR) (fun y restS => som (agN 2 (g2 21)) flp y.2 36 :: restS) (ρc := [(2, _), (3, _), (4, _), (6, _), (7, _), (9, _), (10, _), (11, _), (12, _)]) (σc := [_, _, _, _, _, _, _]) (0, l2) (by exact ⟨Nat.zero_le _, hI.2.2⟩) (To.pick (fun _ => .sub (t := 14) rfl (yO (by rfl))<|.k 2 rfl<|.k 3 rfl<|.k 4 rfl<|.k 6 rfl<|.k 7 rfl<|.k 9 rfl<|.k 10 rfl<|.k 11 rfl<|.k 12 rfl<|.nil) (fun _ => .sub 1 rfl ((fun _ _ h => h))<|.k 0 rfl<|.k 2 rfl<|.k 3 rfl<|.k 4 rfl<|.k 5 rfl<|.k 6 rfl<|.k 7 rfl<|.nil) (ks := [1, 0, 2, 3, 4, 5, 6, 7]) rfl) (fun y hK => ?_)
   obtain ⟨k, a2⟩ := y
   try simp only at hK
   show J _ _ ((14, isv (.int .i64 (k : Int))) :: _) (som (agN 2 (g2 21)) flp a2 36 :: _) _ _
   have hml := hK.2.1
   refine zF<|zF (zG [] (.n (zA (.t rfl))<|.n (zA (.t rfl))<|.n (yB (by simp) (.t rfl) (.t rfl) rfl)<|.nil) ff rfl fun g11 => ⟨_, _, [0, 1, 2, 3, 4, 5, 6, 7], rfl, (.k 2 rfl<|.k 3 rfl<|.k 4 rfl<|.k 6 rfl<|.k 7 rfl<|.k 9 rfl<|.k 10 rfl<|.k 11 rfl<|.k 12 rfl<|.k 14 rfl<|.k 50 rfl<|.nil), (.k 0 rfl<|.k 1 rfl<|.k 2 rfl<|.k 3 rfl<|.k 4 rfl<|.k 5 rfl<|.k 6 rfl<|.k 7 rfl<|.nil), ?_⟩)
   refine zC<|zH (zK (.t rfl)) (fun h3 => ?_) (fun h3 => ?_)
   ·try simp only [cmpB, Z] at h3
    refine yE<|zC<|zF<|zT<|(zG [[], [], [], [], [], [], [3, 4, 5], [], [3, 4, 5, 6, 7], [0, 1, 2, 3, 4, 5, 6, 7, 8]] (.r 7 (yI 7 ag28 (.t rfl) rfl zJ rfl rfl)<|.n (zA (.t rfl))<|.n (zA (.t rfl))<|.r 3 (yI 3 ag28 (.t rfl) rfl zJ rfl rfl)<|.n (zA (.t rfl))<|.n (zA (.t rfl))<|.n (zP (rat_ok hga ⟨by omega, by omega, by omega, by omega⟩) ⟨(.t rfl), (.t rfl), (.t rfl),  trivial⟩)<|.n (zA (.t rfl))<|.n (zP (tidy_ok) ⟨(.t rfl), (.t rfl),  trivial⟩)<|.w 0 (op_callM 0 (put_ok hsn hml ⟨by omega, by omega, by omega, by omega⟩) ⟨(.t rfl), (.t rfl), (.t rfl), (.t rfl),  trivial⟩ rfl)<|.nil) (fun _ => mixed) rfl fun g12 => ⟨_, _, [0, 1, 2, 3, 4, 5, 6, 7], rfl, (.k 2 rfl<|.k 3 rfl<|.k 4 rfl<|.k 6 rfl<|.k 7 rfl<|.k 9 rfl<|.k 10 rfl<|.k 11 rfl<|.k 12 rfl<|.k 14 rfl<|.nil), (.k 0 rfl<|.k 1 rfl<|.k 2 rfl<|.k 3 rfl<|.k 4 rfl<|.k 5 rfl<|.k 6 rfl<|.k 7 rfl<|.nil), ?_⟩)
    refine zR<|zC<|(zG [] (.n (zA (.t rfl))<|.n (yK (.t rfl) (.k rfl) (zO (by omega) (by omega)))<|.n (zB (.t rfl))<|.nil) ff rfl fun g13 => ⟨_, _, [0, 1, 2, 3, 4, 5, 6, 7], rfl, (.k 2 rfl<|.k 3 rfl<|.k 4 rfl<|.k 6 rfl<|.k 7 rfl<|.k 9 rfl<|.k 10 rfl<|.k 11 rfl<|.k 12 rfl<|.k 14 rfl<|.nil), (.k 0 rfl<|.k 1 rfl<|.k 2 rfl<|.k 3 rfl<|.k 4 rfl<|.k 5 rfl<|.k 6 rfl<|.k 7 rfl<|.nil), ?_⟩)
    exact yW (k + 1, a2.set ((j : Int) * (n : Int) + (k : Int)).toNat (tidN (mat (n : Int) xs j k) (fcmp .lss (mat (n : Int) xs j j) 0))) (by exact ⟨show k + 1 ≤ n by omega, row_step hsn (by omega) (by omega) hK.2 rfl⟩) (by show n - (_ + 1) < _; omega) (To.pick (fun _ => .sub (t := 14) rfl (yO (by rfl))<|.k 2 rfl<|.k 3 rfl<|.k 4 rfl<|.k 6 rfl<|.k 7 rfl<|.k 9 rfl<|.k 10 rfl<|.k 11 rfl<|.k 12 rfl<|.nil) (fun _ => .sub 0 rfl ((fun _ _ h => h))<|.k 1 rfl<|.k 2 rfl<|.k 3 rfl<|.k 4 rfl<|.k 5 rfl<|.k 6 rfl<|.k 7 rfl<|.nil) (ks := [0, 1, 2, 3, 4, 5, 6, 7]) rfl)
   ·try simp only [cmpB, Z] at h3
    refine J_exit ?_
    refine zE<|zE<|zS<|zR<|zC<|(zG [] (.n (zA (.t rfl))<|.n (yK (.t rfl) (.k rfl) (zO (by omega) (by omega)))<|.n (zB (.t rfl))<|.nil) ff rfl fun g14 => ⟨_, _, [0, 1, 2, 3, 4, 5, 6, 7], rfl, (.k 2 rfl<|.k 3 rfl<|.k 4 rfl<|.k 6 rfl<|.k 7 rfl<|.k 9 rfl<|.k 10 rfl<|.k 11 rfl<|.nil), (.k 0 rfl<|.k 1 rfl<|.k 2 rfl<|.k 3 rfl<|.k 4 rfl<|.k 5 rfl<|.k 6 rfl<|.k 7 rfl<|.nil), ?_⟩)
    exact yW (j + 1, a1, a2) (by exact ⟨show j + 1 ≤ n by omega, clm_end hs0 (show i = ((m : Int)).toNat by omega) hJ.2, row_end hsn (show k = ((n : Int)).toNat by omega) hK.2⟩) (by show n - (_ + 1) < _; omega) (To.pick (fun _ => .sub (t := 11) rfl (yO (by rfl))<|.k 2 rfl<|.k 3 rfl<|.k 4 rfl<|.k 6 rfl<|.k 7 rfl<|.k 9 rfl<|.k 10 rfl<|.nil) (fun _ => .sub 1 rfl ((fun _ _ h => h))<|.sub 0 rfl ((fun _ _ h => h))<|.k 2 rfl<|.k 3 rfl<|.k 4 rfl<|.k 5 rfl<|.k 6 rfl<|.k 7 rfl<|.nil) (ks := [1, 0, 2, 3, 4, 5, 6, 7]) rfl)
 ·try simp only [cmpB, Z] at h1
  refine J_exit ?_
  refine zE<|zE<|zS<|zC<|zF<|yN (To.res 0 (r' := som (agN 2 (g2 18)) flp (eQ m n ys xs) 36) rfl (yQ (by rw [clm_done hs0 (show j = ((n : Int)).toNat by omega) hI.2.1]; rfl)) rfl) ?_
  refine yN (To.res 1 (r' := som (agN 2 (g2 21)) flp (eR n xs) 36) rfl (yQ (by rw [row_done hsn (show j = ((n : Int)).toNat by omega) hI.2.2]; rfl)) rfl) ?_
  refine yN (To.freeze 0 (fun _ h => h) rfl frz_som rfl) ?_
  refine yN (To.freeze 1 (fun _ h => h) rfl frz_som rfl) ?_
  refine zF (zG [] (.n (zI fd28_2 (.t rfl) rfl)<|.r 6 (zN 6 sc26 (.t rfl) rfl zJ rfl)<|.n (zP (rall_ok) ⟨(Lk.sub (sb_fk 1 rfl) (.t rfl)),  trivial⟩)<|.n (op_not (.t rfl))<|.n (zA (.t rfl))<|.n (yA rfl rfl (gd_b rfl) (fun hC => (zI fd28_2 (.t rfl) rfl)))<|.r 7 (yA rfl rfl (gd_b rfl) (fun hC => (zN 7 sc26 (.w rfl hC) rfl zJ rfl)))<|.n (yA rfl rfl (gd_b rfl) (fun hC => (zP (rall_ok) ⟨(Lk.sub (sb_fk 0 rfl) (.w rfl hC)),  trivial⟩)))<|.n (yA rfl rfl (gd_b rfl) (fun hC => (op_not (.w rfl hC))))<|.n (op_or (.t rfl) (fun h2 => (.w rfl h2)))<|.nil) ff rfl fun g15 => ⟨_, _, [4, 5, 6, 7], rfl, (.k 6 rfl<|.k 7 rfl<|.k 9 rfl<|.k 10 rfl<|.k 72 rfl<|.nil), (.k 4 rfl<|.k 5 rfl<|.k 6 rfl<|.k 7 rfl<|.nil), ?_⟩)
  refine zC<|zH (zK (.t rfl)) (fun h4 => ?_) (fun h4 => ?_)
  ·have h4' := h4
   try simp only [cmpB, Z] at h4
   refine zF (zG [] (.n (op_build zr28 rfl pl28 .nil)<|.n (op_build zr28 rfl pl28 .nil)<|.w 0 (yM 0 (.t rfl) (.t rfl) yL sz28 rfl rfl rfl)<|.w 1 (yM 1 (.t rfl) (.t rfl) yL sz28 rfl rfl rfl)<|.n (zB (.k rfl))<|.nil) ff rfl fun g16 => ⟨_, _, [0, 1], rfl, (.k 6 rfl<|.k 7 rfl<|.k 8 rfl<|.nil), (.k 0 rfl<|.k 1 rfl<|.nil), ?_⟩)
   refine zC<|yF<|zD<|zQ (.cons (.ag 0 (.t rfl) ag28 rfl rfl rfl)<|.cons (.ag 1 (.t rfl) ag28 rfl rfl rfl)<|.cons (.tmp (.t rfl))<|.nil) (zM (sb_res (.cons (sb_agg (.cons zL<|.cons zL<|.cons (sb_nil (mk := flp))<|.nil))<|.cons (sb_agg (.cons zL<|.cons zL<|.cons (sb_nil (mk := flp))<|.nil))<|.cons zL<|.nil)) ?_)
   exact sb_eq (by unfold endsQ; rw [if_pos h4']; rfl)
  ·have h4' := h4
   try simp only [cmpB, Z] at h4
   refine yE<|zC<|zF (zG [[], [], [0], [0, 1, 2], [0, 1, 2, 3]] (.r 2 (yI 2 ag28 (.t rfl) rfl zJ rfl rfl)<|.r 3 (yI 3 ag28 (.t rfl) rfl zJ rfl rfl)<|.w 0 (yM 0 (.t rfl) (.t rfl) yL sz28 rfl rfl rfl)<|.w 1 (yM 1 (.t rfl) (.t rfl) yL sz28 rfl rfl rfl)<|.n (zB (.k rfl))<|.nil) (fun _ => mixed) rfl fun g17 => ⟨_, _, [0, 1], rfl, (.k 6 rfl<|.k 7 rfl<|.k 8 rfl<|.nil), (.k 0 rfl<|.k 1 rfl<|.nil), ?_⟩)
   refine zC<|yF<|zQ (.cons (.ag 0 (.t rfl) ag28 rfl rfl rfl)<|.cons (.ag 1 (.t rfl) ag28 rfl rfl rfl)<|.cons (.tmp (.t rfl))<|.nil) (zM (sb_res (.cons (sb_agg (.cons zL<|.cons zL<|.cons (sb_fk 1 rfl)<|.nil))<|.cons (sb_agg (.cons zL<|.cons zL<|.cons (sb_fk 0 rfl)<|.nil))<|.cons zL<|.nil)) ?_)
   exact sb_eq (by unfold endsQ; rw [if_neg (by rw [show (!(eQ m n ys xs).all finB || !(eR n xs).all finB) = false from h4']; decide)]; rfl)
end Go.Proofs.YtllkellonjhalaaGreat
set_option maxRecDepth 20000
set_option maxHeartbeats 1000000
namespace Go.Proofs.YtllkellonjhalaaGreat
open Go Go.Bn
attribute [local irreducible] OpOK
theorem rqr_ok {r c : Int} {xs : List Nat} (hlt : LtL xs) : Ct Tryz.prog 21 [MatP r c xs] (resQ2 (rqrM r c xs)) := by
 refine Ct.of Tryz.func21 rfl (by kernel_rfl) rfl fun c0 => ?_
 refine yN (To.emps 3) ?_
 refine zF (zG [] (.w 0 (op_box 0 (.t rfl) yL rfl)<|.w 1 (yT 1 zr28 rfl rfl)<|.w 2 (yT 2 zr28 rfl rfl)<|.n (zB (.k rfl))<|.nil) ff rfl fun g1 => ⟨_, _, [0, 1, 2], rfl, (.k 1 rfl<|.k 2 rfl<|.k 3 rfl<|.nil), (.k 0 rfl<|.k 1 rfl<|.k 2 rfl<|.nil), ?_⟩)
 refine zC<|zF<|zF (zG [] (.r 0 (yI 0 ag28 (.t rfl) rfl zJ rfl rfl)<|.n (zP (rchk_ok) ⟨(.t rfl),  trivial⟩)<|.n (zB (.t rfl))<|.nil) ff rfl fun g2 => ⟨_, _, [0, 1, 2], rfl, (.k 1 rfl<|.k 2 rfl<|.k 3 rfl<|.k 5 rfl<|.nil), (.k 0 rfl<|.k 1 rfl<|.k 2 rfl<|.nil), ?_⟩)
 refine zC<|zF (zG [] (.n (zA (.t rfl))<|.n (yB (by simp) (.t rfl) (.k rfl) rfl)<|.nil) ff rfl fun g3 => ⟨_, _, [0, 1, 2], rfl, (.k 1 rfl<|.k 2 rfl<|.k 3 rfl<|.k 5 rfl<|.k 22 rfl<|.nil), (.k 0 rfl<|.k 1 rfl<|.k 2 rfl<|.nil), ?_⟩)
 refine zC<|zH (zK (.t rfl)) (fun h1 => ?_) (fun h1 => ?_)
 ·try simp only [cmpB, Z] at h1
  refine zF (zG [] (.n (op_build zr28 rfl pl28 .nil)<|.n (op_build zr28 rfl pl28 .nil)<|.n (zA (.t rfl))<|.w 1 (yM 1 (.t rfl) (.t rfl) yL sz28 rfl rfl rfl)<|.w 2 (yM 2 (.t rfl) (.t rfl) yL sz28 rfl rfl rfl)<|.n (zB (.t rfl))<|.nil) ff rfl fun g4 => ⟨_, _, [1, 2], rfl, (.k 2 rfl<|.k 3 rfl<|.k 4 rfl<|.nil), (.k 1 rfl<|.k 2 rfl<|.nil), ?_⟩)
  refine zC<|yF<|zD<|zQ (.cons (.ag 0 (.t rfl) ag28 rfl rfl rfl)<|.cons (.ag 1 (.t rfl) ag28 rfl rfl rfl)<|.cons (.tmp (.t rfl))<|.nil) (zM (sb_res (.cons (sb_agg (.cons zL<|.cons zL<|.cons (sb_nil (mk := flp))<|.nil))<|.cons (sb_agg (.cons zL<|.cons zL<|.cons (sb_nil (mk := flp))<|.nil))<|.cons zL<|.nil)) ?_)
  exact sb_eq (by rw [rqrM_1 (by simpa using h1)]; rfl)
 ·try simp only [cmpB, Z] at h1
  have hz : chk r c xs = 0 := by simpa using h1
  have hck := chk_good hz
  obtain ⟨hs1, hs2, hs3, hs4⟩ := hck.1
  have hl := hck.2
  have hF : FinL xs := finL_mk (chk_zero.1 hz).2 hlt
  refine yE<|zC<|zF<|zF (zG [] (.n (zI fd28_0 (.t rfl) rfl)<|.r 0 (zN 0 sc3 (.t rfl) rfl zJ rfl)<|.n (zI fd28_1 (.t rfl) rfl)<|.r 0 (zN 0 sc3 (.t rfl) rfl zJ rfl)<|.n (yB (by simp) (.t rfl) (.t rfl) rfl)<|.nil) ff rfl fun g5 => ⟨_, _, [0, 1, 2], rfl, (.k 1 rfl<|.k 2 rfl<|.k 3 rfl<|.k 30 rfl<|.nil), (.k 0 rfl<|.k 1 rfl<|.k 2 rfl<|.nil), ?_⟩)
  refine zC<|zH (zK (.t rfl)) (fun h2 => ?_) (fun h2 => ?_)
  ·try simp only [cmpB, Z] at h2
   refine zF (zG [] (.n (op_build zr28 rfl pl28 .nil)<|.n (op_build zr28 rfl pl28 .nil)<|.w 1 (yM 1 (.t rfl) (.t rfl) yL sz28 rfl rfl rfl)<|.w 2 (yM 2 (.t rfl) (.t rfl) yL sz28 rfl rfl rfl)<|.n (zB (.k rfl))<|.nil) ff rfl fun g6 => ⟨_, _, [1, 2], rfl, (.k 2 rfl<|.k 3 rfl<|.k 4 rfl<|.nil), (.k 1 rfl<|.k 2 rfl<|.nil), ?_⟩)
   refine zC<|yF<|zD<|zQ (.cons (.ag 0 (.t rfl) ag28 rfl rfl rfl)<|.cons (.ag 1 (.t rfl) ag28 rfl rfl rfl)<|.cons (.tmp (.t rfl))<|.nil) (zM (sb_res (.cons (sb_agg (.cons zL<|.cons zL<|.cons (sb_nil (mk := flp))<|.nil))<|.cons (sb_agg (.cons zL<|.cons zL<|.cons (sb_nil (mk := flp))<|.nil))<|.cons zL<|.nil)) ?_)
   exact sb_eq (by rw [rqrM_2 hz h2]; rfl)
  ·try simp only [cmpB, Z] at h2
   have hrc : ¬ r < c := by omega
   obtain ⟨n, rfl⟩ : ∃ n : Nat, c = (n : Int) := ⟨c.toNat, by omega⟩
   obtain ⟨m, rfl⟩ : ∃ m : Nat, r = (m : Int) := ⟨r.toNat, by omega⟩
   have hT0 : RtrI (colX (m : Int) (n : Int) xs) n m 0 := rqr_start hF
   have hs0 : Siz (m : Int) (n : Int) := hck.1
   have hsm : Siz (m : Int) (m : Int) := ⟨by omega, by omega, by omega, by omega⟩
   have hsn : Siz (n : Int) (n : Int) := ⟨by omega, by omega, by omega, by omega⟩
   have hnm : n ≤ m := by omega
   have hmm := hs0.mul
   have hxl : xs.length ≤ 144 := by omega
   refine yE<|zC<|yN (To.emps 2) ?_
   refine zF (zG [[], [0], [], [2], [], [], [5], [4, 5, 6], [0, 1, 2, 3, 4, 5, 6, 7], [], [0, 1, 2, 3, 4, 5, 6, 7, 8, 9]] (.n (zI fd28_0 (.t rfl) rfl)<|.r 0 (zN 0 sc3 (.t rfl) rfl zJ rfl)<|.n (zI fd28_1 (.t rfl) rfl)<|.r 0 (zN 0 sc3 (.t rfl) rfl zJ rfl)<|.w 3 (op_build0 (mk := flp) 3 sl26 rfl)<|.n (zI fd28_2 (.t rfl) rfl)<|.r 0 (zN 0 sc26 (.t rfl) rfl zJ rfl)<|.w 3 (op_vr 37 3 rfl rfl (fun u => (op_append_ms 3 sl26 zr36 rfl (.t rfl) (.t rfl) rfl (by rw [List.length_nil]; omega) (by rw [List.length_nil]; omega))))<|.n (op_ve 40 41 rfl rfl rfl (fun f => (op_build zr28 rfl pl28 (.cons rfl (.t rfl) co_isv rfl (yU rfl (Nat.le_of_ble_eq_true rfl)) (.cons rfl (.t rfl) co_isv rfl (yU rfl (Nat.le_of_ble_eq_true rfl)) (.cons rfl (.t rfl) co_isv rfl (yU rfl (Nat.le_of_ble_eq_true rfl)) .nil))))) (fun f g h => by rw [h 40 (show 40 ∈ [40] from by decide)]) rfl)<|.w 4 (yT 4 zr28 rfl rfl)<|.w 4 (op_store_new_ve 4 rfl rfl rfl (fun f => yL) (fun f g h => by rw [h 40 (show 40 ∈ [40] from by decide)]) (fun _ => sz28) rfl (fun _ => rfl) rfl)<|.nil) (fun _ => mixed) rfl fun g7 => ⟨_, _, [0, 1, 2, 3, 4], rfl, (.k 1 rfl<|.k 2 rfl<|.k 3 rfl<|.k 6 rfl<|.nil), (.k 0 rfl<|.k 1 rfl<|.k 2 rfl<|.k 3 rfl<|.k 4 rfl<|.nil), ?_⟩)
   refine zC<|zF (zG [] (.n (zB (.k rfl))<|.nil) ff rfl fun g8 => ⟨_, _, [0, 1, 2, 3, 4], rfl, (.k 1 rfl<|.k 2 rfl<|.k 3 rfl<|.k 6 rfl<|.k 7 rfl<|.nil), (.k 0 rfl<|.k 1 rfl<|.k 2 rfl<|.k 3 rfl<|.k 4 rfl<|.nil), ?_⟩)
   refine zC<|zF (zG [] (.n (zB (.k rfl))<|.nil) ff rfl fun g9 => ⟨_, _, [0, 1, 2, 3, 4], rfl, (.k 1 rfl<|.k 2 rfl<|.k 3 rfl<|.k 6 rfl<|.k 7 rfl<|.k 8 rfl<|.nil), (.k 0 rfl<|.k 1 rfl<|.k 2 rfl<|.k 3 rfl<|.k 4 rfl<|.nil), ?_⟩)
   refine zC<|zF<|yN (To.res 3 (r' := som (g7 40) flp (colsM m n (colX (m : Int) (n : Int) xs)) 36) rfl (yQ (by rw [List.nil_append, colsM_self hck])) rfl) ?_
   refine yN (To.emps 2) ?_
   refine yN (To.res 5 (r' := som (.slice none 0 0) (slm flp) [] 26) rfl som_nil rfl) ?_
   refine yN (To.res 6 (r' := som (.slice none 0 0) flp [] 36) rfl som_nil rfl) ?_
   refine zF (zG [] (.n (zB (.k rfl))<|.nil) ff rfl fun g10 => ⟨_, _, [0, 1, 2, 3, 4, 5, 6], rfl, (.k 1 rfl<|.k 2 rfl<|.k 3 rfl<|.k 6 rfl<|.k 7 rfl<|.k 8 rfl<|.k 9 rfl<|.nil), (.k 0 rfl<|.k 1 rfl<|.k 2 rfl<|.k 3 rfl<|.k 4 rfl<|.k 5 rfl<|.k 6 rfl<|.nil), ?_⟩)
   refine zC<|zT<|J_loopc (α := Nat × Value × Value) (fun x => x.1 ≤ n ∧ RtrI (colX (m : Int) (n : Int) xs) n m x.1) (fun x => n - x.1) (fun x restR => (9, isv (.int .i64 (x.1 : Int))) :: (7, isv x.2.1) :: (8, isv x.2.2) :: restR) (fun x restS => som (g7 40) flp (colsM m n (rtriTo (colX (m : Int) (n : Int) xs) x.1)) 36 :: som x.2.1 (slm flp) (vsTo (colX (m : Int) (n : Int) xs) x.1) 26 :: som x.2.2 flp (wsTo (colX (m : Int) (n : Int) xs) x.1) 36 :: restS) (ρc := [(1, _), (2, _), (3, _), (6, _)]) (σc := [_, _, _, _]) (0, NILV, NILV) (by exact ⟨Nat.zero_le _, hT0⟩) (To.pick (fun _ => .sub (t := 9) rfl (yO (by rfl))<|.sub (t := 7) rfl (yO (by rfl))<|.sub (t := 8) rfl (yO (by rfl))<|.k 1 rfl<|.k 2 rfl<|.k 3 rfl<|.k 6 rfl<|.nil) (fun _ => .sub 3 rfl ((fun _ _ h => h))<|.sub 5 rfl ((fun _ _ h => h))<|.sub 6 rfl ((fun _ _ h => h))<|.k 0 rfl<|.k 1 rfl<|.k 2 rfl<|.k 4 rfl<|.nil) (ks := [3, 5, 6, 0, 1, 2, 4]) rfl) (fun x hI => ?_)
   obtain ⟨i, sv, sw⟩ := x
   try simp only at hI
   show J _ _ ((9, isv (.int .i64 (i : Int))) :: (7, isv sv) :: (8, isv sw) :: _) (som (g7 40) flp (colsM m n (rtriTo (colX (m : Int) (n : Int) xs) i)) 36 :: som sv (slm flp) (vsTo (colX (m : Int) (n : Int) xs) i) 26 :: som sw flp (wsTo (colX (m : Int) (n : Int) xs) i) 36 :: _) _ _
   have hin0 : i ≤ n := hI.1
   have hT : RtrI (colX (m : Int) (n : Int) xs) n m i := hI.2
   refine zF<|zF (zG [] (.n (zA (.t rfl))<|.n (zI fd28_1 (.t rfl) rfl)<|.r 3 (zN 3 sc3 (.t rfl) rfl zJ rfl)<|.n (yB (by simp) (.t rfl) (.t rfl) rfl)<|.nil) ff rfl fun g11 => ⟨_, _, [0, 1, 2, 3, 4, 5, 6], rfl, (.k 1 rfl<|.k 2 rfl<|.k 3 rfl<|.k 6 rfl<|.k 7 rfl<|.k 8 rfl<|.k 9 rfl<|.k 45 rfl<|.nil), (.k 0 rfl<|.k 1 rfl<|.k 2 rfl<|.k 3 rfl<|.k 4 rfl<|.k 5 rfl<|.k 6 rfl<|.nil), ?_⟩)
   refine zC<|zH (zK (.t rfl)) (fun h3 => ?_) (fun h3 => ?_)
   ·try simp only [cmpB, Z] at h3
    have hli := hT.hl i (by omega)
    have hci := hT.hc i (by omega)
    have hvl := length_vsTo (colX (m : Int) (n : Int) xs) i
    have hwl := length_wsTo (colX (m : Int) (n : Int) xs) i
    have hrv : (rgl (rtriTo (colX (m : Int) (n : Int) xs) i) i).v.length = m - i := by unfold rgl; rw [length_rgls, List.length_drop, hli]
    refine yE<|zC<|zF<|zT<|yN (To.emps 1) ?_
    refine zF (J_JO ?_)
    refine JO_split 3 rfl ?_
    refine (JO_reg (.r 6 (yI 6 ag28 (.t rfl) rfl zJ rfl rfl)<|.n (zA (.t rfl))<|.w 0 (op_callLF 0 (rcolF_ok (r := (m : Int)) (c := (n : Int)) (xs := colsM m n (rtriTo (colX (m : Int) (n : Int) xs) i)) (j := (i : Int)) (colsM_good hs0) (by omega) (by omega)) (fun _ => pure_isv _) (fun _ => pure_som pure_flp) ⟨.inr ⟨_, Lk.t rfl, lent_mat⟩, .inl (.t rfl),  trivial⟩ rfl)<|.nil) rfl fun g12 => ⟨_, _, [0, 1, 2, 3, 4, 5, 6], rfl, (.k 1 rfl<|.k 2 rfl<|.k 3 rfl<|.k 6 rfl<|.k 7 rfl<|.k 8 rfl<|.k 9 rfl<|.k 51 rfl<|.nil), (.k 0 rfl<|.k 1 rfl<|.k 2 rfl<|.k 3 rfl<|.k 4 rfl<|.k 5 rfl<|.k 6 rfl<|.nil), ?_⟩)
    refine JN_to (To.emps 1) ?_
    refine JN_to (To.split 0 7 rfl rfl rfl rfl) ?_
    refine JN_to (To.res 7 (r' := som (g12 51) flp ((rtriTo (colX (m : Int) (n : Int) xs) i) i) 36) rfl (yQ (by rw [colsM_col (by omega) hli]; rfl)) rfl) ?_
    refine JN_to (To.freeze 7 (fun _ h => h) rfl frz_som rfl) ?_
    refine JN_to (To.slot 51 rfl (q := slm flp ((rtriTo (colX (m : Int) (n : Int) xs) i) i)) (sb_fk 0 rfl)) ?_
    refine JN_to (To.emps 1) ?_
    refine JN_seg ?_
    refine (JO_reg (.n (zA (.t rfl))<|.n (op_slice_md sl26 (.t rfl) (.t rfl) (by omega) (by omega))<|.w 7 (op_callF 7 (rmirF_ok (xs := ((rtriTo (colX (m : Int) (n : Int) xs) i) i).drop i) (cnL_drop hci i) (by rw [List.length_drop]; omega)) ⟨(.t rfl),  trivial⟩ rfl)<|.n (op_move_ve rfl rfl)<|.n (op_ve 48 55 rfl rfl rfl (fun f => yJ (.t rfl) rfl) (fun f g h => by first | rfl | rw [h 54 (show 54 ∈ [54] from by decide)]) rfl)<|.n (op_ve 48 56 rfl rfl rfl (fun f => yJ (.t rfl) rfl) (fun f g h => by first | rfl | rw [h 54 (show 54 ∈ [54] from by decide)]) rfl)<|.n (op_ve 48 57 rfl rfl rfl (fun f => yJ (.t rfl) rfl) (fun f g h => by first | rfl | rw [h 54 (show 54 ∈ [54] from by decide)]) rfl)<|.n (yX rfl rfl)<|.n (yX rfl rfl)<|.n (yX rfl rfl)<|.nil) rfl fun g13 => ⟨_, _, [0, 1, 2, 3, 4, 5, 6, 7], rfl, (.k 1 rfl<|.k 2 rfl<|.k 3 rfl<|.k 6 rfl<|.k 7 rfl<|.k 8 rfl<|.k 9 rfl<|.k 10 rfl<|.k 11 rfl<|.k 12 rfl<|.nil), (.k 0 rfl<|.k 1 rfl<|.k 2 rfl<|.k 3 rfl<|.k 4 rfl<|.k 5 rfl<|.k 6 rfl<|.k 7 rfl<|.nil), ?_⟩)
    refine zC<|zF<|yN (To.freeze 7 (fun _ h => h) rfl frz_som rfl) ?_
    refine yN (To.slot 10 rfl (q := slm flp (rgl (rtriTo (colX (m : Int) (n : Int) xs) i) i).v) (sb_fk 0 rfl)) ?_
    refine zF (zG [] (.n (zA (.t rfl))<|.n (yK (.t rfl) (.k rfl) (zO (by omega) (by omega)))<|.n (zB (.t rfl))<|.nil) ff rfl fun g14 => ⟨_, _, [0, 1, 2, 3, 4, 5, 6], rfl, (.k 1 rfl<|.k 2 rfl<|.k 3 rfl<|.k 6 rfl<|.k 7 rfl<|.k 8 rfl<|.k 9 rfl<|.k 10 rfl<|.k 11 rfl<|.k 12 rfl<|.k 13 rfl<|.nil), (.k 0 rfl<|.k 1 rfl<|.k 2 rfl<|.k 3 rfl<|.k 4 rfl<|.k 5 rfl<|.k 6 rfl<|.nil), ?_⟩)
    refine zC<|zT<|J_loopc (α := Nat) (fun k => i + 1 ≤ k ∧ k ≤ n) (fun k => n - k) (fun k restR => (13, isv (.int .i64 (k : Int))) :: restR) (fun k restS => som (g7 40) flp (colsM m n (rmidF (rtriTo (colX (m : Int) (n : Int) xs) i) i k)) 36 :: restS) (ρc := [(1, _), (2, _), (3, _), (6, _), (7, _), (8, _), (9, _), (10, _), (11, _), (12, _)]) (σc := [_, _, _, _, _, _]) (i + 1) (by exact ⟨Nat.le_refl _, by omega⟩) (To.pick (fun _ => .sub (t := 13) rfl (yO (by rfl))<|.k 1 rfl<|.k 2 rfl<|.k 3 rfl<|.k 6 rfl<|.k 7 rfl<|.k 8 rfl<|.k 9 rfl<|.k 10 rfl<|.k 11 rfl<|.k 12 rfl<|.nil) (fun _ => .sub 0 rfl ((yQ (by rw [← colM_mid0])))<|.k 1 rfl<|.k 2 rfl<|.k 3 rfl<|.k 4 rfl<|.k 5 rfl<|.k 6 rfl<|.nil) (ks := [0, 1, 2, 3, 4, 5, 6]) rfl) (fun k hK => ?_)
    have hik : i + 1 ≤ k := hK.1
    have hkn : k ≤ n := hK.2
    refine zF<|zF (zG [] (.n (zA (.t rfl))<|.n (zI fd28_1 (.t rfl) rfl)<|.r 3 (zN 3 sc3 (.t rfl) rfl zJ rfl)<|.n (yB (by simp) (.t rfl) (.t rfl) rfl)<|.n (zA (.t rfl))<|.n (yA rfl rfl (gd_b rfl) (fun hC => (zA (.t rfl))))<|.n (yA rfl rfl (gd_b rfl) (fun hC => (op_fcmp (by simp) (.w rfl hC) (Lk.fk rfl (by decide +kernel)) rfl)))<|.n (op_and (.t rfl) (fun h2 => (.w rfl h2)))<|.nil) ff rfl fun g15 => ⟨_, _, [0, 1, 2, 3, 4, 5, 6], rfl, (.k 1 rfl<|.k 2 rfl<|.k 3 rfl<|.k 6 rfl<|.k 7 rfl<|.k 8 rfl<|.k 9 rfl<|.k 10 rfl<|.k 11 rfl<|.k 12 rfl<|.k 13 rfl<|.k 67 rfl<|.nil), (.k 0 rfl<|.k 1 rfl<|.k 2 rfl<|.k 3 rfl<|.k 4 rfl<|.k 5 rfl<|.k 6 rfl<|.nil), ?_⟩)
    refine zC<|zH (zK (.t rfl)) (fun h4 => ?_) (fun h4 => ?_)
    ·have h4' := h4
     try simp only [cmpB, Z] at h4
     have hkn2 : k < n := nat_and h4'
     have hw0 : fcmp .eql (rgl (rtriTo (colX (m : Int) (n : Int) xs) i) i).w 0 = false := neq_and h4'
     have hlk : ((rmidF (rtriTo (colX (m : Int) (n : Int) xs) i) i k) k).length = m := by rw [rmid_at (by omega)]; exact hT.hl k hkn2
     refine yE<|zC<|zF<|zT<|(zG [] (.r 6 (yI 6 ag28 (.t rfl) rfl zJ rfl rfl)<|.n (zA (.t rfl))<|.n (zA (.t rfl))<|.n (zA (.t rfl))<|.n (zA (.t rfl))<|.w 0 (op_callM 0 (down_ok (i := i) (q := k) (X := rmidF (rtriTo (colX (m : Int) (n : Int) xs) i) i k) (v := (rgl (rtriTo (colX (m : Int) (n : Int) xs) i) i).v) (w := (rgl (rtriTo (colX (m : Int) (n : Int) xs) i) i).w) hs0 (by omega) (by omega) hlk hrv) ⟨(.t rfl), (.t rfl), (.t rfl), (.t rfl), (.t rfl),  trivial⟩ rfl)<|.nil) ff rfl fun g16 => ⟨_, _, [0, 1, 2, 3, 4, 5, 6], rfl, (.k 1 rfl<|.k 2 rfl<|.k 3 rfl<|.k 6 rfl<|.k 7 rfl<|.k 8 rfl<|.k 9 rfl<|.k 10 rfl<|.k 11 rfl<|.k 12 rfl<|.k 13 rfl<|.nil), (.k 0 rfl<|.k 1 rfl<|.k 2 rfl<|.k 3 rfl<|.k 4 rfl<|.k 5 rfl<|.k 6 rfl<|.nil), ?_⟩)
     refine zR<|zC<|(zG [] (.n (zA (.t rfl))<|.n (yK (.t rfl) (.k rfl) (zO (by omega) (by omega)))<|.n (zB (.t rfl))<|.nil) ff rfl fun g17 => ⟨_, _, [0, 1, 2, 3, 4, 5, 6], rfl, (.k 1 rfl<|.k 2 rfl<|.k 3 rfl<|.k 6 rfl<|.k 7 rfl<|.k 8 rfl<|.k 9 rfl<|.k 10 rfl<|.k 11 rfl<|.k 12 rfl<|.k 13 rfl<|.nil), (.k 0 rfl<|.k 1 rfl<|.k 2 rfl<|.k 3 rfl<|.k 4 rfl<|.k 5 rfl<|.k 6 rfl<|.nil), ?_⟩)
     exact yW (k + 1) (by exact ⟨by omega, by omega⟩) (by omega) (To.pick (fun _ => .sub (t := 13) rfl (yO (by rfl))<|.k 1 rfl<|.k 2 rfl<|.k 3 rfl<|.k 6 rfl<|.k 7 rfl<|.k 8 rfl<|.k 9 rfl<|.k 10 rfl<|.k 11 rfl<|.k 12 rfl<|.nil) (fun _ => .sub 0 rfl ((yQ (congrArg (fun z => som (g7 40) flp z 36) (colM_mid (by omega) hw0))))<|.k 1 rfl<|.k 2 rfl<|.k 3 rfl<|.k 4 rfl<|.k 5 rfl<|.k 6 rfl<|.nil) (ks := [0, 1, 2, 3, 4, 5, 6]) rfl)
    ·have h4' := h4
     try simp only [cmpB, Z] at h4
     have hkw : k = n ∨ fcmp .eql (rgl (rtriTo (colX (m : Int) (n : Int) xs) i) i).w 0 = true := neq_or h4' hkn
     refine J_exit ?_
     refine zE<|zE<|zS<|zC<|zF<|zF (zG [] (.n (zA (.t rfl))<|.n (zB (.t rfl))<|.nil) ff rfl fun g18 => ⟨_, _, [0, 1, 2, 3, 4, 5, 6], rfl, (.k 1 rfl<|.k 2 rfl<|.k 3 rfl<|.k 6 rfl<|.k 7 rfl<|.k 8 rfl<|.k 9 rfl<|.k 10 rfl<|.k 11 rfl<|.k 12 rfl<|.k 14 rfl<|.nil), (.k 0 rfl<|.k 1 rfl<|.k 2 rfl<|.k 3 rfl<|.k 4 rfl<|.k 5 rfl<|.k 6 rfl<|.nil), ?_⟩)
     refine zC<|zT<|J_loopc (α := Nat) (fun j => i ≤ j ∧ j ≤ m) (fun j => m - j) (fun j restR => (14, isv (.int .i64 (j : Int))) :: restR) (fun j restS => som (g7 40) flp (colsM m n (updC (rmidF (rtriTo (colX (m : Int) (n : Int) xs) i) i k) i (zerR ((rtriTo (colX (m : Int) (n : Int) xs) i) i) i j))) 36 :: restS) (ρc := [(1, _), (2, _), (3, _), (6, _), (7, _), (8, _), (9, _), (10, _), (11, _), (12, _)]) (σc := [_, _, _, _, _, _]) i (by exact ⟨Nat.le_refl _, by omega⟩) (To.pick (fun _ => .sub (t := 14) rfl (yO (by rfl))<|.k 1 rfl<|.k 2 rfl<|.k 3 rfl<|.k 6 rfl<|.k 7 rfl<|.k 8 rfl<|.k 9 rfl<|.k 10 rfl<|.k 11 rfl<|.k 12 rfl<|.nil) (fun _ => .sub 0 rfl ((yQ (by rw [← colM_zer0])))<|.k 1 rfl<|.k 2 rfl<|.k 3 rfl<|.k 4 rfl<|.k 5 rfl<|.k 6 rfl<|.nil) (ks := [0, 1, 2, 3, 4, 5, 6]) rfl) (fun j hJ3 => ?_)
     have hij : i ≤ j := hJ3.1
     have hjm : j ≤ m := hJ3.2
     refine zF<|zF (zG [] (.n (zA (.t rfl))<|.n (zI fd28_0 (.t rfl) rfl)<|.r 3 (zN 3 sc3 (.t rfl) rfl zJ rfl)<|.n (yB (by simp) (.t rfl) (.t rfl) rfl)<|.nil) ff rfl fun g19 => ⟨_, _, [0, 1, 2, 3, 4, 5, 6], rfl, (.k 1 rfl<|.k 2 rfl<|.k 3 rfl<|.k 6 rfl<|.k 7 rfl<|.k 8 rfl<|.k 9 rfl<|.k 10 rfl<|.k 11 rfl<|.k 12 rfl<|.k 14 rfl<|.k 80 rfl<|.nil), (.k 0 rfl<|.k 1 rfl<|.k 2 rfl<|.k 3 rfl<|.k 4 rfl<|.k 5 rfl<|.k 6 rfl<|.nil), ?_⟩)
     refine zC<|zH (zK (.t rfl)) (fun h5 => ?_) (fun h5 => ?_)
     ·try simp only [cmpB, Z] at h5
      refine yE<|zC<|zF<|zT<|(zG [] (.r 6 (yI 6 ag28 (.t rfl) rfl zJ rfl rfl)<|.n (zA (.t rfl))<|.n (zA (.t rfl))<|.w 0 (op_callM 0 (put_ok hs0 (colsM_len m n _) ⟨by omega, by omega, by omega, by omega⟩) ⟨(.t rfl), (.t rfl), (.t rfl), (Lk.fk rfl (by decide +kernel)),  trivial⟩ rfl)<|.nil) ff rfl fun g20 => ⟨_, _, [0, 1, 2, 3, 4, 5, 6], rfl, (.k 1 rfl<|.k 2 rfl<|.k 3 rfl<|.k 6 rfl<|.k 7 rfl<|.k 8 rfl<|.k 9 rfl<|.k 10 rfl<|.k 11 rfl<|.k 12 rfl<|.k 14 rfl<|.nil), (.k 0 rfl<|.k 1 rfl<|.k 2 rfl<|.k 3 rfl<|.k 4 rfl<|.k 5 rfl<|.k 6 rfl<|.nil), ?_⟩)
      refine zR<|zC<|(zG [] (.n (zA (.t rfl))<|.n (yK (.t rfl) (.k rfl) (zO (by omega) (by omega)))<|.n (zB (.t rfl))<|.nil) ff rfl fun g21 => ⟨_, _, [0, 1, 2, 3, 4, 5, 6], rfl, (.k 1 rfl<|.k 2 rfl<|.k 3 rfl<|.k 6 rfl<|.k 7 rfl<|.k 8 rfl<|.k 9 rfl<|.k 10 rfl<|.k 11 rfl<|.k 12 rfl<|.k 14 rfl<|.nil), (.k 0 rfl<|.k 1 rfl<|.k 2 rfl<|.k 3 rfl<|.k 4 rfl<|.k 5 rfl<|.k 6 rfl<|.nil), ?_⟩)
      exact yW (j + 1) (by exact ⟨by omega, by omega⟩) (by omega) (To.pick (fun _ => .sub (t := 14) rfl (yO (by rfl))<|.k 1 rfl<|.k 2 rfl<|.k 3 rfl<|.k 6 rfl<|.k 7 rfl<|.k 8 rfl<|.k 9 rfl<|.k 10 rfl<|.k 11 rfl<|.k 12 rfl<|.nil) (fun _ => .sub 0 rfl ((yQ (congrArg (fun z => som (g7 40) flp z 36) (colM_zer hs0 hli (by omega) hij (by omega)))))<|.k 1 rfl<|.k 2 rfl<|.k 3 rfl<|.k 4 rfl<|.k 5 rfl<|.k 6 rfl<|.nil) (ks := [0, 1, 2, 3, 4, 5, 6]) rfl)
     ·try simp only [cmpB, Z] at h5
      have hje : j = m := by omega
      refine J_exit ?_
      refine zE<|zE<|zS<|zC<|zF (zG [] (.r 6 (yI 6 ag28 (.t rfl) rfl zJ rfl rfl)<|.n (zA (.t rfl))<|.n (zA (.t rfl))<|.n (zA (.t rfl))<|.w 0 (op_callM 0 (put_ok hs0 (colsM_len m n _) ⟨by omega, by omega, by omega, by omega⟩) ⟨(.t rfl), (.t rfl), (.t rfl), (.t rfl),  trivial⟩ rfl)<|.nil) ff rfl fun g22 => ⟨_, _, [0, 1, 2, 3, 4, 5, 6], rfl, (.k 1 rfl<|.k 2 rfl<|.k 3 rfl<|.k 6 rfl<|.k 7 rfl<|.k 8 rfl<|.k 9 rfl<|.k 10 rfl<|.k 11 rfl<|.nil), (.k 0 rfl<|.k 1 rfl<|.k 2 rfl<|.k 3 rfl<|.k 4 rfl<|.k 5 rfl<|.k 6 rfl<|.nil), ?_⟩)
      refine zC<|yN (To.res 0 (r' := som (g7 40) flp (colsM m n (rtriTo (colX (m : Int) (n : Int) xs) (i + 1))) 36) rfl (yQ (by exact congrArg (fun z => som (g7 40) flp z 36) (colM_end hs0 hli (by omega) hnm hje hkw))) rfl) ?_
      refine (zG [] (.n (zA (.t rfl))<|.n (zA (.t rfl))<|.n (op_buildSlice sl76 zr26 rfl rfl rfl rfl (.cons rfl (.t rfl) co_slm rfl (yU rfl (Nat.le_of_ble_eq_true rfl)) .nil))<|.w 1 (op_append_m 1 sl76 zr26 rfl (.t rfl) (.t rfl) rfl (by rw [hvl]; omega) (by rw [hvl]; omega))<|.n (zA (.t rfl))<|.n (zA (.t rfl))<|.n (op_buildSlice sl26 zr36 rfl rfl rfl rfl (.cons rfl (.t rfl) co_flp rfl (yU rfl (Nat.le_of_ble_eq_true rfl)) .nil))<|.w 2 (op_append_m 2 sl26 zr36 rfl (.t rfl) (.t rfl) rfl (by rw [hwl]; omega) (by rw [hwl]; omega))<|.n (yX rfl rfl)<|.n (yX rfl rfl)<|.nil) ff rfl fun g23 => ⟨_, _, [0, 1, 2, 3, 4, 5, 6], rfl, (.k 1 rfl<|.k 2 rfl<|.k 3 rfl<|.k 6 rfl<|.k 7 rfl<|.k 8 rfl<|.k 9 rfl<|.nil), (.k 0 rfl<|.k 1 rfl<|.k 2 rfl<|.k 3 rfl<|.k 4 rfl<|.k 5 rfl<|.k 6 rfl<|.nil), ?_⟩)
      refine zR<|zC<|(zG [] (.n (zA (.t rfl))<|.n (yK (.t rfl) (.k rfl) (zO (by omega) (by omega)))<|.n (zB (.t rfl))<|.nil) ff rfl fun g24 => ⟨_, _, [0, 1, 2, 3, 4, 5, 6], rfl, (.k 1 rfl<|.k 2 rfl<|.k 3 rfl<|.k 6 rfl<|.k 7 rfl<|.k 8 rfl<|.k 9 rfl<|.nil), (.k 0 rfl<|.k 1 rfl<|.k 2 rfl<|.k 3 rfl<|.k 4 rfl<|.k 5 rfl<|.k 6 rfl<|.nil), ?_⟩)
      refine JN_to To.fdrop ?_
      refine JN_to To.fdrop ?_
      exact yW (i + 1, (g23 95), (g23 99)) (by exact ⟨show i + 1 ≤ n by omega, rtrI_step hT (by omega)⟩) (by show n - (_ + 1) < _; omega) (To.pick (fun _ => .sub (t := 9) rfl (yO (by rfl))<|.sub (t := 7) rfl (yO (by rfl))<|.sub (t := 8) rfl (yO (by rfl))<|.k 1 rfl<|.k 2 rfl<|.k 3 rfl<|.k 6 rfl<|.nil) (fun _ => .sub 0 rfl ((fun _ _ h => h))<|.sub 1 rfl ((yQ (by rw [vsTo_succ])))<|.sub 2 rfl ((yQ (by rw [wsTo_succ]; rfl)))<|.k 3 rfl<|.k 4 rfl<|.k 5 rfl<|.k 6 rfl<|.nil) (ks := [0, 1, 2, 3, 4, 5, 6]) rfl)
   ·try simp only [cmpB, Z] at h3
    have hin : i = n := by omega
    have hvl := length_vsTo (colX (m : Int) (n : Int) xs) n
    have hwl := length_wsTo (colX (m : Int) (n : Int) xs) n
    refine J_exit ?_
    refine zE<|zE<|zS<|zC<|yN (To.res 0 (r' := som (g7 40) flp (colsM m n (rtriTo (colX (m : Int) (n : Int) xs) n)) 36) rfl (yQ (by rw [hin])) rfl) ?_
    refine yN (To.freeze 1 (fun _ h => h) rfl frz_som rfl) ?_
    refine yN (To.slot 7 rfl (q := slm (slm flp) (vsTo (colX (m : Int) (n : Int) xs) n)) (zM (sb_fk 0 rfl) (sb_eq (by rw [hin])))) ?_
    refine yN (To.freeze 2 (fun _ h => h) rfl frz_som rfl) ?_
    refine yN (To.slot 8 rfl (q := slm flp (wsTo (colX (m : Int) (n : Int) xs) n)) (zM (sb_fk 0 rfl) (sb_eq (by rw [hin])))) ?_
    refine yN (To.emps 2) ?_
    refine zF (zG [] (.n (zI fd28_0 (.t rfl) rfl)<|.r 3 (zN 3 sc3 (.t rfl) rfl zJ rfl)<|.w 1 (op_callF 1 (reyeC_ok hsm) ⟨(.t rfl),  trivial⟩ rfl)<|.n (op_move_ve rfl rfl)<|.n (op_ve 100 104 rfl rfl rfl (fun f => yJ (.t rfl) rfl) (fun f g h => by first | rfl | rw [h 103 (show 103 ∈ [103] from by decide)]) rfl)<|.n (op_ve 100 105 rfl rfl rfl (fun f => yJ (.t rfl) rfl) (fun f g h => by first | rfl | rw [h 103 (show 103 ∈ [103] from by decide)]) rfl)<|.w 2 (yT 2 zr28 rfl rfl)<|.w 2 (op_store_new_ve 2 rfl rfl rfl (fun f => yL) (fun f g h => by rw [h 103 (show 103 ∈ [103] from by decide)]) (fun _ => sz28) rfl (fun _ => rfl) rfl)<|.n (yX rfl rfl)<|.nil) ff rfl fun g25 => ⟨_, _, [0, 1, 2, 3, 4, 5, 6], rfl, (.k 1 rfl<|.k 2 rfl<|.k 3 rfl<|.k 6 rfl<|.k 7 rfl<|.k 8 rfl<|.k 15 rfl<|.nil), (.k 0 rfl<|.k 1 rfl<|.k 2 rfl<|.k 3 rfl<|.k 4 rfl<|.k 5 rfl<|.k 6 rfl<|.nil), ?_⟩)
    refine zC<|zF<|zF (zG [] (.n (zI fd28_1 (.t rfl) rfl)<|.r 3 (zN 3 sc3 (.t rfl) rfl zJ rfl)<|.n (op_sub (.t rfl) (.k rfl) (zO (by omega) (by omega)))<|.n (zB (.t rfl))<|.nil) ff rfl fun g26 => ⟨_, _, [0, 1, 2, 3, 4, 5, 6], rfl, (.k 1 rfl<|.k 2 rfl<|.k 3 rfl<|.k 6 rfl<|.k 7 rfl<|.k 8 rfl<|.k 15 rfl<|.k 17 rfl<|.nil), (.k 0 rfl<|.k 1 rfl<|.k 2 rfl<|.k 3 rfl<|.k 4 rfl<|.k 5 rfl<|.k 6 rfl<|.nil), ?_⟩)
    refine zC<|zT<|J_loopc (α := Nat) (fun d => d ≤ n) (fun d => n - d) (fun d restR => (17, isv (.int .i64 ((n : Int) - 1 - (d : Int)))) :: restR) (fun d restS => som (agP (g25 103)) flp (colsM m m (fun q => turnP (rglsAt (colX (m : Int) (n : Int) xs)) m n q d)) 36 :: restS) (ρc := [(1, _), (2, _), (3, _), (6, _), (7, _), (8, _), (15, _)]) (σc := [_, _, _, _, _, _]) 0 (by exact Nat.zero_le _) (To.pick (fun _ => .sub (t := 17) rfl (yO (by exact congrArg (fun z => isv (.int .i64 z)) (by omega)))<|.k 1 rfl<|.k 2 rfl<|.k 3 rfl<|.k 6 rfl<|.k 7 rfl<|.k 8 rfl<|.k 15 rfl<|.nil) (fun _ => .sub 1 rfl ((yQ (by rw [eyeTo_all (H := (rglsAt (colX (m : Int) (n : Int) xs))) (n := n) rfl])))<|.k 0 rfl<|.k 2 rfl<|.k 3 rfl<|.k 4 rfl<|.k 5 rfl<|.k 6 rfl<|.nil) (ks := [1, 0, 2, 3, 4, 5, 6]) rfl) (fun d hI4 => ?_)
    refine zF<|zF (zG [] (.n (zA (.t rfl))<|.n (yB (by simp) (.t rfl) (.k rfl) rfl)<|.nil) ff rfl fun g27 => ⟨_, _, [0, 1, 2, 3, 4, 5, 6], rfl, (.k 1 rfl<|.k 2 rfl<|.k 3 rfl<|.k 6 rfl<|.k 7 rfl<|.k 8 rfl<|.k 15 rfl<|.k 17 rfl<|.k 110 rfl<|.nil), (.k 0 rfl<|.k 1 rfl<|.k 2 rfl<|.k 3 rfl<|.k 4 rfl<|.k 5 rfl<|.k 6 rfl<|.nil), ?_⟩)
    refine zC<|zH (zK (.t rfl)) (fun h6 => ?_) (fun h6 => ?_)
    ·try simp only [cmpB, Z] at h6
     have hdn : d < n := by omega
     have hvv : (vsTo (colX (m : Int) (n : Int) xs) n).getD ((n - 1 - d : Nat) : Int).toNat [] = ((rglsAt (colX (m : Int) (n : Int) xs)) (n - 1 - d)).v := vsTo_at (by omega)
     have hww : ((wsTo (colX (m : Int) (n : Int) xs) n).getD ((n - 1 - d : Nat) : Int).toNat 0) = ((rglsAt (colX (m : Int) (n : Int) xs)) (n - 1 - d)).w := wsTo_at (by omega)
     have hvn : ((vsTo (colX (m : Int) (n : Int) xs) n).getD ((n - 1 - d : Nat) : Int).toNat []).length = m - (n - 1 - d) := by rw [hvv]; unfold rglsAt rgl; rw [length_rgls, List.length_drop, (rtr_all hT0 (n - 1 - d) (by omega)).hl (n - 1 - d) (by omega)]
     refine yE<|zC<|zF<|zT<|yN (To.slot 17 rfl (q := isv (.int .i64 ((n - 1 - d : Nat) : Int))) (sb_eq (congrArg (fun z => isv (.int .i64 z)) (by omega)))) ?_
     refine zF (zG [] (.n (zB (.k rfl))<|.nil) ff rfl fun g28 => ⟨_, _, [0, 1, 2, 3, 4, 5, 6], rfl, (.k 1 rfl<|.k 2 rfl<|.k 3 rfl<|.k 6 rfl<|.k 7 rfl<|.k 8 rfl<|.k 15 rfl<|.k 17 rfl<|.k 18 rfl<|.nil), (.k 0 rfl<|.k 1 rfl<|.k 2 rfl<|.k 3 rfl<|.k 4 rfl<|.k 5 rfl<|.k 6 rfl<|.nil), ?_⟩)
     refine zC<|zT<|J_loopc (α := Nat) (fun j => j ≤ m) (fun j => m - j) (fun j restR => (18, isv (.int .i64 (j : Int))) :: restR) (fun j restS => som (agP (g25 103)) flp (colsM m m (turnM (rglsAt (colX (m : Int) (n : Int) xs)) m n d j)) 36 :: restS) (ρc := [(1, _), (2, _), (3, _), (6, _), (7, _), (8, _), (15, _), (17, _)]) (σc := [_, _, _, _, _, _]) 0 (by exact Nat.zero_le _) (To.pick (fun _ => .sub (t := 18) rfl (yO (by rfl))<|.k 1 rfl<|.k 2 rfl<|.k 3 rfl<|.k 6 rfl<|.k 7 rfl<|.k 8 rfl<|.k 15 rfl<|.k 17 rfl<|.nil) (fun _ => .sub 0 rfl ((fun _ _ h => h))<|.k 1 rfl<|.k 2 rfl<|.k 3 rfl<|.k 4 rfl<|.k 5 rfl<|.k 6 rfl<|.nil) (ks := [0, 1, 2, 3, 4, 5, 6]) rfl) (fun j hI5 => ?_)
     refine zF<|zF (zG [] (.n (zA (.t rfl))<|.n (zI fd28_0 (.t rfl) rfl)<|.r 3 (zN 3 sc3 (.t rfl) rfl zJ rfl)<|.n (yB (by simp) (.t rfl) (.t rfl) rfl)<|.n (zA (.t rfl))<|.n (yA rfl rfl (gd_b rfl) (fun hC => (zA (.t rfl))))<|.n (yA rfl rfl (gd_b rfl) (fun hC => (zA (.t rfl))))<|.n (yA rfl rfl (gd_b rfl) (fun hC => (yS 0 sl26 (.w rfl hC) (.w rfl hC) (by omega) (by omega))))<|.n (yA rfl rfl (gd_b rfl) (fun hC => (yC sc36 (.w rfl hC) rfl)))<|.n (yA rfl rfl (gd_b rfl) (fun hC => (op_fcmp (by simp) (.w rfl hC) (Lk.fk rfl (by decide +kernel)) rfl)))<|.n (op_and (.t rfl) (fun h2 => (.w rfl h2)))<|.nil) ff rfl fun g29 => ⟨_, _, [0, 1, 2, 3, 4, 5, 6], rfl, (.k 1 rfl<|.k 2 rfl<|.k 3 rfl<|.k 6 rfl<|.k 7 rfl<|.k 8 rfl<|.k 15 rfl<|.k 17 rfl<|.k 18 rfl<|.k 123 rfl<|.nil), (.k 0 rfl<|.k 1 rfl<|.k 2 rfl<|.k 3 rfl<|.k 4 rfl<|.k 5 rfl<|.k 6 rfl<|.nil), ?_⟩)
     refine zC<|zH (zK (.t rfl)) (fun h7 => ?_) (fun h7 => ?_)
     ·have h7' := h7
      try simp only [cmpB, Z] at h7
      have hjm : j < m := nat_and h7'
      have hw0 : fcmp .eql ((wsTo (colX (m : Int) (n : Int) xs) n).getD ((n - 1 - d : Nat) : Int).toNat 0) 0 = false := neq_and h7'
      refine yE<|zC<|zF<|zT<|(zG [[], [], [], [], [], [3, 4], [3, 4, 5], [], [], [7, 8], [7, 8, 9], [0, 1, 2, 3, 4, 5, 6, 7, 8, 9, 10]] (.r 2 (yI 2 ag28 (.t rfl) rfl zJ rfl rfl)<|.n (zA (.t rfl))<|.n (zA (.t rfl))<|.n (zA (.t rfl))<|.n (zA (.t rfl))<|.n (yS [] sl76 (.t rfl) (.t rfl) (by omega) (by omega))<|.n (yC sc26 (.t rfl) rfl)<|.n (zA (.t rfl))<|.n (zA (.t rfl))<|.n (yS 0 sl26 (.t rfl) (.t rfl) (by omega) (by omega))<|.n (yC sc36 (.t rfl) rfl)<|.w 0 (op_callM 0 (down_ok (i := n - 1 - d) (q := j) (X := turnM (rglsAt (colX (m : Int) (n : Int) xs)) m n d j) (v := (vsTo (colX (m : Int) (n : Int) xs) n).getD ((n - 1 - d : Nat) : Int).toNat []) (w := ((wsTo (colX (m : Int) (n : Int) xs) n).getD ((n - 1 - d : Nat) : Int).toNat 0)) hsm (by omega) (by omega) turnM_len hvn) ⟨(.t rfl), (.t rfl), (.t rfl), (.t rfl), (.t rfl),  trivial⟩ rfl)<|.nil) (fun _ => mixed) rfl fun g30 => ⟨_, _, [0, 1, 2, 3, 4, 5, 6], rfl, (.k 1 rfl<|.k 2 rfl<|.k 3 rfl<|.k 6 rfl<|.k 7 rfl<|.k 8 rfl<|.k 15 rfl<|.k 17 rfl<|.k 18 rfl<|.nil), (.k 0 rfl<|.k 1 rfl<|.k 2 rfl<|.k 3 rfl<|.k 4 rfl<|.k 5 rfl<|.k 6 rfl<|.nil), ?_⟩)
      refine zR<|zC<|(zG [] (.n (zA (.t rfl))<|.n (yK (.t rfl) (.k rfl) (zO (by omega) (by omega)))<|.n (zB (.t rfl))<|.nil) ff rfl fun g31 => ⟨_, _, [0, 1, 2, 3, 4, 5, 6], rfl, (.k 1 rfl<|.k 2 rfl<|.k 3 rfl<|.k 6 rfl<|.k 7 rfl<|.k 8 rfl<|.k 15 rfl<|.k 17 rfl<|.k 18 rfl<|.nil), (.k 0 rfl<|.k 1 rfl<|.k 2 rfl<|.k 3 rfl<|.k 4 rfl<|.k 5 rfl<|.k 6 rfl<|.nil), ?_⟩)
      exact yW (j + 1) (by omega) (by omega) (To.pick (fun _ => .sub (t := 18) rfl (yO (by rfl))<|.k 1 rfl<|.k 2 rfl<|.k 3 rfl<|.k 6 rfl<|.k 7 rfl<|.k 8 rfl<|.k 15 rfl<|.k 17 rfl<|.nil) (fun _ => .sub 0 rfl ((yQ (congrArg (fun z => som (agP (g25 103)) flp z 36) (turnM_step rfl hvv hww hw0))))<|.k 1 rfl<|.k 2 rfl<|.k 3 rfl<|.k 4 rfl<|.k 5 rfl<|.k 6 rfl<|.nil) (ks := [0, 1, 2, 3, 4, 5, 6]) rfl)
     ·have h7' := h7
      try simp only [cmpB, Z] at h7
      have hjw : j = m ∨ fcmp .eql ((wsTo (colX (m : Int) (n : Int) xs) n).getD ((n - 1 - d : Nat) : Int).toNat 0) 0 = true := neq_or h7' hI5
      rw [hww] at hjw
      refine J_exit ?_
      refine zE<|zE<|zS<|zR<|zC<|yN (To.res 0 (r' := som (agP (g25 103)) flp (colsM m m (fun q => turnP (rglsAt (colX (m : Int) (n : Int) xs)) m n q (d + 1))) 36) rfl (yQ (by rw [turnM_end hjw])) rfl) ?_
      refine (zG [] (.n (zA (.t rfl))<|.n (op_sub (.t rfl) (.k rfl) (zO (by omega) (by omega)))<|.n (zB (.t rfl))<|.nil) ff rfl fun g32 => ⟨_, _, [0, 1, 2, 3, 4, 5, 6], rfl, (.k 1 rfl<|.k 2 rfl<|.k 3 rfl<|.k 6 rfl<|.k 7 rfl<|.k 8 rfl<|.k 15 rfl<|.k 17 rfl<|.nil), (.k 0 rfl<|.k 1 rfl<|.k 2 rfl<|.k 3 rfl<|.k 4 rfl<|.k 5 rfl<|.k 6 rfl<|.nil), ?_⟩)
      exact yW (d + 1) (by omega) (by omega) (To.pick (fun _ => .sub (t := 17) rfl (yO (by exact congrArg (fun z => isv (.int .i64 z)) (by omega)))<|.k 1 rfl<|.k 2 rfl<|.k 3 rfl<|.k 6 rfl<|.k 7 rfl<|.k 8 rfl<|.k 15 rfl<|.nil) (fun _ => .sub 0 rfl ((fun _ _ h => h))<|.k 1 rfl<|.k 2 rfl<|.k 3 rfl<|.k 4 rfl<|.k 5 rfl<|.k 6 rfl<|.nil) (ks := [0, 1, 2, 3, 4, 5, 6]) rfl)
    ·try simp only [cmpB, Z] at h6
     have hde : d = n := by omega
     refine J_exit ?_
     refine zE<|zE<|zS<|zC<|yN (To.res 0 (r' := som (agP (g25 103)) flp (colsM m m (fun q => turnP (rglsAt (colX (m : Int) (n : Int) xs)) m n q n)) 36) rfl (yQ (by rw [hde])) rfl) ?_
     refine yN (To.freeze 0 (fun _ h => h) rfl frz_som rfl) ?_
     refine yN (To.freeze 1 (fun _ h => h) rfl frz_som rfl) ?_
     refine zF (zG [] (.r 2 (yI 2 ag28 (.t rfl) rfl zJ rfl rfl)<|.r 6 (yI 6 ag28 (.t rfl) rfl zJ rfl rfl)<|.n (zI fd28_1 (.t rfl) rfl)<|.r 3 (zN 3 sc3 (.t rfl) rfl zJ rfl)<|.n (zP (ends_ok (ys := colsM m m (fun q => turnP (rglsAt (colX (m : Int) (n : Int) xs)) m n q n)) (xs := colsM m n (rtriTo (colX (m : Int) (n : Int) xs) n)) hs0 hsn (colsM_good hsm) (colsM_good hs0) hnm) ⟨(Lk.sub (sb_agg (.cons zL<|.cons zL<|.cons (sb_fk 1 rfl)<|.nil)) (.t rfl)), (Lk.sub (sb_agg (.cons zL<|.cons zL<|.cons (sb_fk 0 rfl)<|.nil)) (.t rfl)), (.t rfl),  trivial⟩)<|.n (yJ (.t rfl) rfl)<|.n (yJ (.t rfl) rfl)<|.n (yJ (.t rfl) rfl)<|.w 4 (yM 4 (.t rfl) (.t rfl) yL sz28 rfl rfl rfl)<|.w 5 (yM 5 (.t rfl) (.t rfl) yL sz28 rfl rfl rfl)<|.n (zB (.t rfl))<|.nil) ff rfl fun g33 => ⟨_, _, [4, 5], rfl, (.k 2 rfl<|.k 3 rfl<|.k 4 rfl<|.nil), (.k 4 rfl<|.k 5 rfl<|.nil), ?_⟩)
     refine zC<|yF<|zQ (.cons (.ag 0 (.t rfl) ag28 rfl rfl rfl)<|.cons (.ag 1 (.t rfl) ag28 rfl rfl rfl)<|.cons (.tmp (.t rfl))<|.nil) (zM (sb_res (.cons zL<|.cons zL<|.cons zL<|.nil)) ?_)
     exact sb_eq (by rw [rqrM_4 hz hrc, ← eQ_eq hnm, ← eR_eq hnm]; rfl)
end Go.Proofs.YtllkellonjhalaaGreat
