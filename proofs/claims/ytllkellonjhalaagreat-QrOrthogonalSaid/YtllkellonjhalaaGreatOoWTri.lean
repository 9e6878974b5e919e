/- Printed by a program of ours (walk.py): walks of mirrors in place, rows and triangles. -/
import Derived.Test.YtllkellonjhalaaGreatOoKb
import Derived.Test.YtllkellonjhalaaGreatProg
import Derived.KernelRfl
import Derived.Test.YtllkellonjhalaaGreatOoTypes
import Derived.Test.YtllkellonjhalaaGreatOoWLen
import Derived.Test.YtllkellonjhalaaGreatOoTri
set_option linter.unusedVariables false
set_option linter.unusedSimpArgs false
set_option maxRecDepth 20000
set_option maxHeartbeats 1000000
namespace Go.Proofs.YtllkellonjhalaaGreat
open Go Go.Bn
attribute [local irreducible] OpOK
theorem mirror_ok {u : Value} {i w al : Nat} {xs v : List Nat} (hi : i ≤ xs.length) (hv : v.length = xs.length - i) (h9 : xs.length ≤ 1000) : CtM Tryz.prog 39 [aggp [fls v, flp w, flp al], vsl u i xs.length] (som u flp xs 36) (anyp) (som u flp (xs.take i ++ mirL v w (xs.drop i)) 36) := by
 refine CtM.of Tryz.func39 rfl (by kernel_rfl) rfl (fix_som (by rw [List.length_append, length_mirL, List.length_take, List.length_drop]; omega)) fun c0 ob hr0 => ?_
 refine yN (To.emps 1) ?_
 refine zF (zG [] (.w 1 (op_box 1 (.t rfl) yL rfl)<|.nil) ff rfl fun g1 => ⟨_, _, [0, 1], rfl, (.k 1 rfl<|.k 2 rfl<|.nil), (.k 0 rfl<|.k 1 rfl<|.nil), ?_⟩)
 refine zC<|zF<|zF (zG [] (.n (zI fd79_1 (.t rfl) rfl)<|.r 1 (zN 1 sc36 (.t rfl) rfl zJ rfl)<|.n (op_fcmp (by simp) (.t rfl) (Lk.fk rfl (by decide +kernel)) rfl)<|.nil) ff rfl fun g2 => ⟨_, _, [0, 1], rfl, (.k 1 rfl<|.k 2 rfl<|.k 9 rfl<|.nil), (.k 0 rfl<|.k 1 rfl<|.nil), ?_⟩)
 refine zC<|zH (zK (.t rfl)) (fun h1 => ?_) (fun h1 => ?_)
 ·have h1' := h1
  try simp only [cmpB, Z] at h1
  refine yF<|zD<|JN_to (To.res 0 (r' := som u flp (xs.take i ++ mirL v w (xs.drop i)) 36) rfl (yQ (by rw [← mir_no h1'])) rfl) ?_
  refine JN_retM 0 hr0 (fix_som (by rw [List.length_append, length_mirL, List.length_take, List.length_drop]; omega)) rfl (.nil) (zM zL ?_)
  exact sb_any
 ·have h1' := h1
  try simp only [cmpB, Z] at h1
  refine yE<|zC<|zF (zG [] (.n (zB (Lk.fk rfl (by decide +kernel)))<|.nil) ff rfl fun g3 => ⟨_, _, [0, 1], rfl, (.k 1 rfl<|.k 2 rfl<|.k 4 rfl<|.nil), (.k 0 rfl<|.k 1 rfl<|.nil), ?_⟩)
  refine zC<|zF<|zF (zG [] (.n (zA (.t rfl))<|.n (op_len_vsl sl26 (.t rfl))<|.n (zA (.k rfl))<|.nil) ff rfl fun g4 => ⟨_, _, [0, 1], rfl, (.k 1 rfl<|.k 2 rfl<|.k 4 rfl<|.k 11 rfl<|.k 12 rfl<|.nil), (.k 0 rfl<|.k 1 rfl<|.nil), ?_⟩)
  refine zC<|zT<|J_loopc (α := Nat) (fun j => j ≤ xs.length - i) (fun j => xs.length - i - j) (fun j restR => (12, isv (.int .i64 (j : Int))) :: (4, flp (dotTo (xs.drop i) v j)) :: restR) (fun j restS => som u flp xs 36 :: restS) (ρc := [(1, _), (2, _), (11, _)]) (σc := [_]) 0 (by exact Nat.zero_le _) (To.pick (fun _ => .sub (t := 12) rfl (yO (by rfl))<|.sub (t := 4) rfl (yO (by rfl))<|.k 1 rfl<|.k 2 rfl<|.k 11 rfl<|.nil) (fun _ => .sub 0 rfl ((fun _ _ h => h))<|.k 1 rfl<|.nil) (ks := [0, 1]) rfl) (fun j hI => ?_)
  refine zF (zG [] (.n (yB (by simp) (.t rfl) (.t rfl) rfl)<|.nil) ff rfl fun g5 => ⟨_, _, [0, 1], rfl, (.k 1 rfl<|.k 2 rfl<|.k 4 rfl<|.k 11 rfl<|.k 12 rfl<|.k 13 rfl<|.nil), (.k 0 rfl<|.k 1 rfl<|.nil), ?_⟩)
  refine zC<|zF<|zH (zK (.t rfl)) (fun h2 => ?_) (fun h2 => ?_)
  ·try simp only [cmpB, Z] at h2
   have hji : i + j < xs.length := by omega
   refine yE<|zC<|zF<|zT<|zF (zG [] (.n (zA (.t rfl))<|.n (zB (.t rfl))<|.nil) ff rfl fun g6 => ⟨_, _, [0, 1], rfl, (.k 1 rfl<|.k 2 rfl<|.k 4 rfl<|.k 5 rfl<|.k 11 rfl<|.k 12 rfl<|.nil), (.k 0 rfl<|.k 1 rfl<|.nil), ?_⟩)
   refine zC<|(zG [[], [], [], [1, 2], [1, 2, 3], [], [5], [], [5, 6, 7], [5, 6, 7, 8], [1, 2, 3, 4, 5, 6, 7, 8, 9], [0, 1, 2, 3, 4, 5, 6, 7, 8, 9, 10], [0, 1, 2, 3, 4, 5, 6, 7, 8, 9, 10, 11]] (.n (zA (.t rfl))<|.n (zA (.t rfl))<|.n (zA (.t rfl))<|.n (op_index_vsl sl26 (.t rfl) (.t rfl) (by omega) (by omega))<|.r 0 (op_get_som 0 0 sc36 (.t rfl) rfl (by omega))<|.n (zI fd79_0 (.t rfl) rfl)<|.r 1 (zN 1 sc26 (.t rfl) rfl zJ rfl)<|.n (zA (.t rfl))<|.n (yS 0 sl26 (.t rfl) (.t rfl) (by omega) (by omega))<|.n (yC sc36 (.t rfl) rfl)<|.n (op_float (by simp) (.t rfl) (.t rfl) rfl)<|.n (op_float (by simp) (.t rfl) (.t rfl) rfl)<|.n (zB (.t rfl))<|.nil) (fun _ => mixed) rfl fun g7 => ⟨_, _, [0, 1], rfl, (.k 1 rfl<|.k 2 rfl<|.k 4 rfl<|.k 11 rfl<|.k 12 rfl<|.nil), (.k 0 rfl<|.k 1 rfl<|.nil), ?_⟩)
   refine zR<|zC<|(zG [] (.n (yK (.t rfl) (.k rfl) (zO (by omega) (by omega)))<|.n (zA (.t rfl))<|.nil) ff rfl fun g8 => ⟨_, _, [0, 1], rfl, (.k 1 rfl<|.k 2 rfl<|.k 4 rfl<|.k 11 rfl<|.k 12 rfl<|.nil), (.k 0 rfl<|.k 1 rfl<|.nil), ?_⟩)
   exact yW (j + 1) (by omega) (by omega) (To.pick (fun _ => .sub (t := 12) rfl (yO (by rfl))<|.sub (t := 4) rfl (yO (by exact congrArg flp mir_dot))<|.k 1 rfl<|.k 2 rfl<|.k 11 rfl<|.nil) (fun _ => .sub 0 rfl ((fun _ _ h => h))<|.k 1 rfl<|.nil) (ks := [0, 1]) rfl)
  ·try simp only [cmpB, Z] at h2
   refine J_exit ?_
   refine zE<|zE<|zS<|zC<|zF (zG [] (.n (zA (.t rfl))<|.n (zI fd79_1 (.t rfl) rfl)<|.r 1 (zN 1 sc36 (.t rfl) rfl zJ rfl)<|.n (op_float (by simp) (.t rfl) (.t rfl) rfl)<|.n (zB (.t rfl))<|.nil) ff rfl fun g9 => ⟨_, _, [0, 1], rfl, (.k 1 rfl<|.k 2 rfl<|.k 4 rfl<|.nil), (.k 0 rfl<|.k 1 rfl<|.nil), ?_⟩)
   refine zC<|zF (zG [] (.n (zA (.t rfl))<|.n (op_len_vsl sl26 (.t rfl))<|.n (zA (.k rfl))<|.nil) ff rfl fun g10 => ⟨_, _, [0, 1], rfl, (.k 1 rfl<|.k 2 rfl<|.k 4 rfl<|.k 33 rfl<|.k 34 rfl<|.nil), (.k 0 rfl<|.k 1 rfl<|.nil), ?_⟩)
   refine zC<|zT<|J_loopc (α := Nat) (fun m => m ≤ xs.length - i) (fun m => xs.length - i - m) (fun m restR => (34, isv (.int .i64 (m : Int))) :: (4, flp (mirT v w (xs.drop i))) :: restR) (fun m restS => som u flp (mirC xs i v (mirT v w (xs.drop i)) m) 36 :: restS) (ρc := [(1, _), (2, _), (33, _)]) (σc := [_]) 0 (by exact Nat.zero_le _) (To.pick (fun _ => .sub (t := 34) rfl (yO (by rfl))<|.sub (t := 4) rfl (yO (by exact congrArg flp (by unfold mirT; rw [List.length_drop, show xs.length - i = j by omega]; rfl)))<|.k 1 rfl<|.k 2 rfl<|.k 33 rfl<|.nil) (fun _ => .sub 0 rfl ((yQ (by rw [mirC_zero])))<|.k 1 rfl<|.nil) (ks := [0, 1]) rfl) (fun m hI => ?_)
   refine zF (zG [] (.n (yB (by simp) (.t rfl) (.t rfl) rfl)<|.nil) ff rfl fun g11 => ⟨_, _, [0, 1], rfl, (.k 1 rfl<|.k 2 rfl<|.k 4 rfl<|.k 33 rfl<|.k 34 rfl<|.k 35 rfl<|.nil), (.k 0 rfl<|.k 1 rfl<|.nil), ?_⟩)
   refine zC<|zF<|zH (zK (.t rfl)) (fun h3 => ?_) (fun h3 => ?_)
   ·try simp only [cmpB, Z] at h3
    have hmi : i + m < xs.length := by omega
    have hml := length_mirC (xs := xs) (i := i) (v := v) (t := mirT v w (xs.drop i)) (k := m) (by omega)
    refine yE<|zC<|zF<|zT<|zF (zG [] (.n (zA (.t rfl))<|.n (zB (.t rfl))<|.nil) ff rfl fun g12 => ⟨_, _, [0, 1], rfl, (.k 1 rfl<|.k 2 rfl<|.k 4 rfl<|.k 6 rfl<|.k 33 rfl<|.k 34 rfl<|.nil), (.k 0 rfl<|.k 1 rfl<|.nil), ?_⟩)
    refine zC<|(zG [[], [], [0, 1], [0, 1, 2], [], [], [5], [], [5, 6, 7], [5, 6, 7, 8], [4, 5, 6, 7, 8, 9], [0, 1, 2, 3, 4, 5, 6, 7, 8, 9, 10], [0, 1, 2, 3, 4, 5, 6, 7, 8, 9, 10, 11], [0, 1, 2, 3, 4, 5, 6, 7, 8, 9, 10, 11, 12]] (.n (zA (.t rfl))<|.n (zA (.t rfl))<|.n (op_index_vsl sl26 (.t rfl) (.t rfl) (by omega) (by omega))<|.r 0 (op_get_som 0 0 sc36 (.t rfl) rfl (by omega))<|.n (zA (.t rfl))<|.n (zI fd79_0 (.t rfl) rfl)<|.r 1 (zN 1 sc26 (.t rfl) rfl zJ rfl)<|.n (zA (.t rfl))<|.n (yS 0 sl26 (.t rfl) (.t rfl) (by omega) (by omega))<|.n (yC sc36 (.t rfl) rfl)<|.n (op_float (by simp) (.t rfl) (.t rfl) rfl)<|.n (op_float (by simp) (.t rfl) (.t rfl) rfl)<|.n (op_index_vsl sl26 (.t rfl) (.t rfl) (by omega) (by omega))<|.w 0 (op_store_som 0 (.t rfl) (.t rfl) co_flp sz36 rfl (by omega))<|.nil) (fun _ => mixed) rfl fun g13 => ⟨_, _, [0, 1], rfl, (.k 1 rfl<|.k 2 rfl<|.k 4 rfl<|.k 33 rfl<|.k 34 rfl<|.nil), (.k 0 rfl<|.k 1 rfl<|.nil), ?_⟩)
    refine zR<|zC<|(zG [] (.n (yK (.t rfl) (.k rfl) (zO (by omega) (by omega)))<|.n (zA (.t rfl))<|.nil) ff rfl fun g14 => ⟨_, _, [0, 1], rfl, (.k 1 rfl<|.k 2 rfl<|.k 4 rfl<|.k 33 rfl<|.k 34 rfl<|.nil), (.k 0 rfl<|.k 1 rfl<|.nil), ?_⟩)
    exact yW (m + 1) (by omega) (by omega) (To.pick (fun _ => .sub (t := 34) rfl (yO (by rfl))<|.sub (t := 4) rfl (yO (by rfl))<|.k 1 rfl<|.k 2 rfl<|.k 33 rfl<|.nil) (fun _ => .sub 0 rfl ((yQ (by rw [← mirr_step hmi])))<|.k 1 rfl<|.nil) (ks := [0, 1]) rfl)
   ·try simp only [cmpB, Z] at h3
    refine J_exit ?_
    refine zE<|zE<|zS<|JN_end<|JN_to (To.res 0 (r' := som u flp (xs.take i ++ mirL v w (xs.drop i)) 36) rfl (yQ (by rw [← mir_yes h1' (show m = xs.length - i by omega) hi])) rfl) ?_
    refine JN_retM 0 hr0 (fix_som (by rw [List.length_append, length_mirL, List.length_take, List.length_drop]; omega)) rfl (.nil) (zM zL ?_)
    exact sb_any
theorem besideF_ok {ms : List Mt} {n : Int} (h : BesOk ms n) : CtF Tryz.prog 37 [slk 3 mtU ms] (id) (fun u => isv u) (fun u => rowsR u (besL ms n.toNat) 26 36) := by
 refine CtF.of Tryz.func37 rfl (by kernel_rfl) rfl fun c0 => ?_
 refine J_lenk 0 rfl fun hlen => ?_
 have hr := h.hr
 have hgs := (h.hg 0 h.h0).1
 obtain ⟨hn0, hn12, _, _⟩ := hgs
 have h0 := h.h0
 have hc48 := h.hc
 refine zF (zG [] (.n (zB (.k rfl))<|.nil) ff rfl fun g1 => ⟨_, _, [], rfl, (.k 0 rfl<|.nil), (.nil), ?_⟩)
 refine zC<|zF (zG [] (.n (zA (.t rfl))<|.n (op_index_sk (mk := mtU) mtD sl24 mtU_len (.t rfl) (.k rfl) (by omega) (by omega))<|.n (yR fd28_0 (.t rfl) rfl)<|.n (yC sc3 (.t rfl) rfl)<|.n (zB (.t rfl))<|.nil) ff rfl fun g2 => ⟨_, _, [], rfl, (.k 0 rfl<|.k 3 rfl<|.nil), (.nil), ?_⟩)
 refine zC<|yN (To.slot 3 rfl (q := isv (.int .i64 n)) (sb_eq (by rw [← hr]; rfl))) ?_
 refine yN (To.emps 1) ?_
 refine zF (zG [] (.n (zA (.t rfl))<|.w 0 (op_make_m (mk := isv) (.slice none 0 0) 0 sl76 zr26 rfl (fun _ => ⟨rfl, rfl⟩) (.t rfl) (.t rfl) (by omega) (by omega) (by omega) (by omega) rfl)<|.n (yX rfl rfl)<|.nil) ff rfl fun g3 => ⟨_, _, [0], rfl, (.k 0 rfl<|.k 3 rfl<|.k 4 rfl<|.nil), (.k 0 rfl<|.nil), ?_⟩)
 refine zC<|zF<|yN (To.emps 1) ?_
 refine yN (To.res 1 (r' := pool 0 (fun _ => Go.Bn.emp)) rfl pool_nil rfl) ?_
 refine zF (zG [] (.n (zA (.t rfl))<|.n (zA (.k rfl))<|.nil) ff rfl fun g4 => ⟨_, _, [0, 1], rfl, (.k 0 rfl<|.k 3 rfl<|.k 4 rfl<|.k 14 rfl<|.k 15 rfl<|.nil), (.k 0 rfl<|.k 1 rfl<|.nil), ?_⟩)
 refine zC<|zT<|J_loopc (α := Nat × List Value) (fun x => x.1 ≤ n.toNat ∧ x.2.length = n.toNat ∧ ∀ j, x.1 ≤ j → x.2.getD j NILV = NILV) (fun x => n.toNat - x.1) (fun x restR => (15, isv (.int .i64 (x.1 : Int))) :: restR) (fun x restS => som (g3 13) isv x.2 26 :: pool x.1 (fun j => som (x.2.getD j NILV) flp (besRow ms n.toNat j) 36) :: restS) (ρc := [(0, _), (3, _), (4, _), (14, _)]) (σc := []) (0, List.replicate n.toNat NILV) (by exact ⟨Nat.zero_le _, by simp, fun j _ => by simp [List.getD, List.getElem?_replicate]; split <;> rfl⟩) (To.pick (fun _ => .sub (t := 15) rfl (yO (by rfl))<|.k 0 rfl<|.k 3 rfl<|.k 4 rfl<|.k 14 rfl<|.nil) (fun _ => .sub 0 rfl ((fun _ _ h => h))<|.sub 1 rfl ((pool_congr fun j hj => absurd hj (Nat.not_lt_zero j)))<|.nil) (ks := [0, 1]) rfl) (fun x hI => ?_)
 obtain ⟨i, vs⟩ := x
 try simp only at hI
 show J _ _ ((15, isv (.int .i64 (i : Int))) :: _) (som (g3 13) isv vs 26 :: pool i (fun j => som (vs.getD j NILV) flp (besRow ms n.toNat j) 36) :: _) _ _
 have hvl := hI.2.1
 refine zF (zG [] (.n (yB (by simp) (.t rfl) (.t rfl) rfl)<|.nil) ff rfl fun g5 => ⟨_, _, [0, 1], rfl, (.k 0 rfl<|.k 3 rfl<|.k 4 rfl<|.k 14 rfl<|.k 15 rfl<|.k 16 rfl<|.nil), (.k 0 rfl<|.k 1 rfl<|.nil), ?_⟩)
 refine zC<|zF<|zH (zK (.t rfl)) (fun h1 => ?_) (fun h1 => ?_)
 ·try simp only [cmpB, Z] at h1
  refine yE<|zC<|zF<|zT<|zF (zG [] (.n (zA (.t rfl))<|.n (zB (.t rfl))<|.nil) ff rfl fun g6 => ⟨_, _, [0, 1], rfl, (.k 0 rfl<|.k 3 rfl<|.k 4 rfl<|.k 5 rfl<|.k 14 rfl<|.k 15 rfl<|.nil), (.k 0 rfl<|.k 1 rfl<|.nil), ?_⟩)
  refine zC<|zF<|yN (To.emps 1) ?_
  refine yN (To.res 2 (r' := som (.slice none 0 0) flp [] 36) rfl som_nil rfl) ?_
  refine zF (zG [] (.n (zA (.t rfl))<|.n (op_len_sk sl24 (.t rfl))<|.n (zA (.k rfl))<|.nil) ff rfl fun g7 => ⟨_, _, [0, 1, 2], rfl, (.k 0 rfl<|.k 3 rfl<|.k 4 rfl<|.k 5 rfl<|.k 14 rfl<|.k 15 rfl<|.k 18 rfl<|.k 19 rfl<|.k 20 rfl<|.nil), (.k 0 rfl<|.k 1 rfl<|.k 2 rfl<|.nil), ?_⟩)
  refine zC<|zT<|J_loopc (α := Nat × Value) (fun y => y.1 ≤ ms.length) (fun y => ms.length - y.1) (fun y restR => (20, isv (.int .i64 (y.1 : Int))) :: restR) (fun y restS => som (g3 13) isv (vs.set i y.2) 26 :: som y.2 flp (besTo ms i y.1) 36 :: restS) (ρc := [(0, _), (3, _), (4, _), (5, _), (14, _), (15, _), (18, _), (19, _)]) (σc := [_]) (0, NILV) (by exact Nat.zero_le _) (To.pick (fun _ => .sub (t := 20) rfl (yO (by rfl))<|.k 0 rfl<|.k 3 rfl<|.k 4 rfl<|.k 5 rfl<|.k 14 rfl<|.k 15 rfl<|.k 18 rfl<|.k 19 rfl<|.nil) (fun _ => .sub 0 rfl ((yQ (by rw [vset_same (hI.2.2 i (Nat.le_refl _)) (by omega)])))<|.sub 2 rfl ((fun _ _ h => h))<|.k 1 rfl<|.nil) (ks := [0, 2, 1]) rfl) (fun y hJ => ?_)
  obtain ⟨k, sv⟩ := y
  try simp only at hJ
  show J _ _ ((20, isv (.int .i64 (k : Int))) :: _) (som (g3 13) isv (vs.set i sv) 26 :: som sv flp (besTo ms i k) 36 :: _) _ _
  have hsl : (vs.set i sv).length = n.toNat := by rw [List.length_set]; exact hvl
  refine zF (zG [] (.n (yB (by simp) (.t rfl) (.t rfl) rfl)<|.nil) ff rfl fun g8 => ⟨_, _, [0, 1, 2], rfl, (.k 0 rfl<|.k 3 rfl<|.k 4 rfl<|.k 5 rfl<|.k 14 rfl<|.k 15 rfl<|.k 18 rfl<|.k 19 rfl<|.k 20 rfl<|.k 21 rfl<|.nil), (.k 0 rfl<|.k 1 rfl<|.k 2 rfl<|.nil), ?_⟩)
  refine zC<|zF<|zH (zK (.t rfl)) (fun h2 => ?_) (fun h2 => ?_)
  ·try simp only [cmpB, Z] at h2
   have hgk : Good n (ms.getD ((k : Int)).toNat mtD).c (ms.getD ((k : Int)).toNat mtD).a := h.hg k (by omega)
   obtain ⟨hk1, hk2, hk3, hk4⟩ := hgk.row (i := (i : Int)) (by omega) (by omega)
   obtain ⟨_, _, hkc0, hkc1⟩ := hgk.1
   have hbl := length_besTo ms i k
   have hbm := colsTo_le ms (show k ≤ ms.length by omega)
   have hxl : (List.take ((((i : Int) + 1) * (ms.getD ((k : Int)).toNat mtD).c).toNat - ((i : Int) * (ms.getD ((k : Int)).toNat mtD).c).toNat) (List.drop ((i : Int) * (ms.getD ((k : Int)).toNat mtD).c).toNat (ms.getD ((k : Int)).toNat mtD).a)).length ≤ 144 := by rw [List.length_take, List.length_drop]; omega
   refine yE<|zC<|zF<|zT<|yN (To.emps 1) ?_
   refine zF (zG [] (.n (op_index_sk (mk := mtU) mtD sl24 mtU_len (.t rfl) (.t rfl) (by omega) (by omega))<|.n (op_load_ag ag28 (.t rfl) rfl rfl)<|.w 3 (yT 3 zr28 rfl rfl)<|.w 3 (op_store_new 3 rfl (.t rfl) yL sz28 rfl rfl)<|.nil) ff rfl fun g9 => ⟨_, _, [0, 1, 2, 3], rfl, (.k 0 rfl<|.k 3 rfl<|.k 4 rfl<|.k 5 rfl<|.k 7 rfl<|.k 14 rfl<|.k 15 rfl<|.k 18 rfl<|.k 19 rfl<|.k 20 rfl<|.nil), (.k 0 rfl<|.k 1 rfl<|.k 2 rfl<|.k 3 rfl<|.nil), ?_⟩)
   refine zC<|(zG [[], [], [], [], [2, 3], [2, 3, 4], [], [6], [], [], [9], [8, 9, 10], [], [12], [], [14], [12, 13, 14, 15], [6, 7, 8, 9, 10, 11, 12, 13, 14, 15, 16], [2, 3, 4, 5, 6, 7, 8, 9, 10, 11, 12, 13, 14, 15, 16, 17], [0, 1, 2, 3, 4, 5, 6, 7, 8, 9, 10, 11, 12, 13, 14, 15, 16, 17, 18], [0, 1, 2, 3, 4, 5, 6, 7, 8, 9, 10, 11, 12, 13, 14, 15, 16, 17, 18, 19]] (.n (zA (.t rfl))<|.n (zA (.t rfl))<|.n (zA (.t rfl))<|.n (zA (.t rfl))<|.r 0 (yH 0 sl76 (.t rfl) (.t rfl) rfl (by omega) (by omega))<|.r 0 ((op_get_som (mk := isv) (.slice none 0 0) 0 sc26 (.t rfl) rfl (by rw [List.length_set]; omega)).sub rfl (isv_eq (by exact vset_at (by omega))))<|.n (zI fd28_2 (.t rfl) rfl)<|.r 3 (zN 3 sc26 (.t rfl) rfl zJ rfl)<|.n (zA (.t rfl))<|.n (zI fd28_1 (.t rfl) rfl)<|.r 3 (zN 3 sc3 (.t rfl) rfl zJ rfl)<|.n (op_mul (.t rfl) (.t rfl) (zO (by omega) (by omega)))<|.n (zA (.t rfl))<|.n (yK (.t rfl) (.k rfl) (zO (by omega) (by omega)))<|.n (zI fd28_1 (.t rfl) rfl)<|.r 3 (zN 3 sc3 (.t rfl) rfl zJ rfl)<|.n (op_mul (.t rfl) (.t rfl) (zO (by omega) (by omega)))<|.n (op_slice_m sl26 (.t rfl) (.t rfl) (.t rfl) (by omega) (by omega) (by omega))<|.w 1 (op_append_ms 1 sl26 zr36 rfl (.t rfl) (.t rfl) rfl (by omega) (by omega))<|.r 0 (yH 0 sl76 (.t rfl) (.t rfl) rfl (by omega) (by omega))<|.w 0 (op_ver 42 rfl rfl (fun f => op_store_som (mk := isv) 0 (.t rfl) (.t rfl) co_isv sz26 rfl (by rw [List.length_set]; omega)) (fun f g h => by rw [h 42 (show 42 ∈ [42] from by decide)]) rfl)<|.nil) (fun _ => mixed) rfl fun g10 => ⟨_, _, [0, 1, 2], rfl, (.k 0 rfl<|.k 3 rfl<|.k 4 rfl<|.k 5 rfl<|.k 14 rfl<|.k 15 rfl<|.k 18 rfl<|.k 19 rfl<|.k 20 rfl<|.nil), (.k 0 rfl<|.k 1 rfl<|.k 2 rfl<|.nil), ?_⟩)
   refine zR<|zC<|(zG [] (.n (yK (.t rfl) (.k rfl) (zO (by omega) (by omega)))<|.n (zA (.t rfl))<|.nil) ff rfl fun g11 => ⟨_, _, [0, 1, 2], rfl, (.k 0 rfl<|.k 3 rfl<|.k 4 rfl<|.k 5 rfl<|.k 14 rfl<|.k 15 rfl<|.k 18 rfl<|.k 19 rfl<|.k 20 rfl<|.nil), (.k 0 rfl<|.k 1 rfl<|.k 2 rfl<|.nil), ?_⟩)
   exact yW (k + 1, (g10 42)) (by exact (show k + 1 ≤ _ by omega)) (by show ms.length - (_ + 1) < _; omega) (To.pick (fun _ => .sub (t := 20) rfl (yO (by rfl))<|.k 0 rfl<|.k 3 rfl<|.k 4 rfl<|.k 5 rfl<|.k 14 rfl<|.k 15 rfl<|.k 18 rfl<|.k 19 rfl<|.nil) (fun _ => .sub 0 rfl ((yQ (by show som _ isv ((vs.set i sv).set i _) _ = som _ isv (vs.set i _) _; rw [List.set_set])))<|.sub 1 rfl ((yQ (by rw [← bes_step h (by omega) (by omega)]; rfl)))<|.k 2 rfl<|.nil) (ks := [0, 1, 2]) rfl)
  ·try simp only [cmpB, Z] at h2
   have hbl := length_besTo ms i ms.length
   refine J_exit ?_
   refine zE<|zE<|zS<|zC<|zT<|J_loopc (α := Nat × Value) (fun z => z.1 ≤ n.toNat - (besTo ms i ms.length).length) (fun z => n.toNat - (besTo ms i ms.length).length - z.1) (fun z restR => restR) (fun z restS => som (g3 13) isv (vs.set i z.2) 26 :: som z.2 flp (besTo ms i ms.length ++ List.replicate z.1 0) 36 :: restS) (ρc := [(0, _), (3, _), (4, _), (5, _), (14, _), (15, _)]) (σc := [_]) (0, sv) (by exact Nat.zero_le _) (To.pick (fun _ => .k 0 rfl<|.k 3 rfl<|.k 4 rfl<|.k 5 rfl<|.k 14 rfl<|.k 15 rfl<|.nil) (fun _ => .sub 0 rfl ((fun _ _ h => h))<|.sub 1 rfl ((yQ (by rw [show k = ms.length by omega, List.replicate_zero, List.append_nil])))<|.k 2 rfl<|.nil) (ks := [0, 1, 2]) rfl) (fun z hQ => ?_)
   obtain ⟨q, tv⟩ := z
   try simp only at hQ
   show J _ _ (_) (som (g3 13) isv (vs.set i tv) 26 :: som tv flp (besTo ms i ms.length ++ List.replicate q 0) 36 :: _) _ _
   have hsl2 : (vs.set i tv).length = n.toNat := by rw [List.length_set]; exact hvl
   refine zF<|zF (zG [] (.n (zA (.t rfl))<|.n (zA (.t rfl))<|.r 0 (yH 0 sl76 (.t rfl) (.t rfl) rfl (by omega) (by omega))<|.r 0 ((op_get_som (mk := isv) (.slice none 0 0) 0 sc26 (.t rfl) rfl (by rw [List.length_set]; omega)).sub rfl (isv_eq (by exact vset_at (by omega))))<|.r 1 (op_len_som 1 sl26 (.t rfl) rfl)<|.n (zA (.t rfl))<|.n (yB (by simp) (.t rfl) (.t rfl) rfl)<|.nil) ff rfl fun g12 => ⟨_, _, [0, 1, 2], rfl, (.k 0 rfl<|.k 3 rfl<|.k 4 rfl<|.k 5 rfl<|.k 14 rfl<|.k 15 rfl<|.k 51 rfl<|.nil), (.k 0 rfl<|.k 1 rfl<|.k 2 rfl<|.nil), ?_⟩)
   refine zC<|zH (zK (.t rfl)) (fun h3 => ?_) (fun h3 => ?_)
   ·try simp only [cmpB, Z] at h3
    have hbl2 : (besTo ms i ms.length ++ List.replicate q 0).length = colsTo ms ms.length + q := by rw [List.length_append, List.length_replicate, hbl]
    refine yE<|zC<|zT<|(zG [] (.n (zA (.t rfl))<|.n (zA (.t rfl))<|.n (zA (.t rfl))<|.n (zA (.t rfl))<|.r 0 (yH 0 sl76 (.t rfl) (.t rfl) rfl (by omega) (by omega))<|.r 0 ((op_get_som (mk := isv) (.slice none 0 0) 0 sc26 (.t rfl) rfl (by rw [List.length_set]; omega)).sub rfl (isv_eq (by exact vset_at (by omega))))<|.n (op_buildSlice sl26 zr36 rfl rfl rfl rfl (.cons rfl (Lk.fk rfl (by decide +kernel)) co_flp rfl (yU rfl (Nat.le_of_ble_eq_true rfl)) .nil))<|.w 1 (op_append_m 1 sl26 zr36 rfl (.t rfl) (.t rfl) rfl (by omega) (by omega))<|.r 0 (yH 0 sl76 (.t rfl) (.t rfl) rfl (by omega) (by omega))<|.w 0 (op_ver 59 rfl rfl (fun f => op_store_som (mk := isv) 0 (.t rfl) (.t rfl) co_isv sz26 rfl (by rw [List.length_set]; omega)) (fun f g h => by rw [h 59 (show 59 ∈ [59] from by decide)]) rfl)<|.nil) ff rfl fun g13 => ⟨_, _, [0, 1, 2], rfl, (.k 0 rfl<|.k 3 rfl<|.k 4 rfl<|.k 5 rfl<|.k 14 rfl<|.k 15 rfl<|.nil), (.k 0 rfl<|.k 1 rfl<|.k 2 rfl<|.nil), ?_⟩)
    refine zR ?_
    exact yW (q + 1, (g13 59)) (by exact (show q + 1 ≤ _ by omega)) (by show _ - (_ + 1) < _; omega) (To.pick (fun _ => .k 0 rfl<|.k 3 rfl<|.k 4 rfl<|.k 5 rfl<|.k 14 rfl<|.k 15 rfl<|.nil) (fun _ => .sub 0 rfl ((yQ (by show som _ isv ((vs.set i tv).set i _) _ = som _ isv (vs.set i _) _; rw [List.set_set])))<|.sub 1 rfl ((yQ (by rw [List.append_assoc, List.replicate_succ'])))<|.k 2 rfl<|.nil) (ks := [0, 1, 2]) rfl)
   ·try simp only [cmpB, Z] at h3
    refine J_exit ?_
    refine zE<|zE<|zS<|zR<|zC<|yN (To.res 1 (r' := som tv flp (besRow ms n.toNat i) 36) rfl (yQ (by rw [bes_fill (by omega) hQ])) rfl) ?_
    refine yN (To.push 2 1 rfl rfl rfl rfl) ?_
    refine (zG [] (.n (yK (.t rfl) (.k rfl) (zO (by omega) (by omega)))<|.n (zA (.t rfl))<|.nil) ff rfl fun g14 => ⟨_, _, [0, 2], rfl, (.k 0 rfl<|.k 3 rfl<|.k 4 rfl<|.k 14 rfl<|.k 15 rfl<|.nil), (.k 0 rfl<|.k 2 rfl<|.nil), ?_⟩)
    exact yW (i + 1, vs.set i tv) (by exact ⟨show i + 1 ≤ _ by omega, by rw [List.length_set]; exact hI.2.1, fun j hj => by rw [vset_ne (show i ≠ j by have : i + 1 ≤ j := hj; omega)]; exact hI.2.2 j (by have : i + 1 ≤ j := hj; omega)⟩) (by show n.toNat - (_ + 1) < _; omega) (To.pick (fun _ => .sub (t := 15) rfl (yO (by rfl))<|.k 0 rfl<|.k 3 rfl<|.k 4 rfl<|.k 14 rfl<|.nil) (fun _ => .sub 0 rfl ((fun _ _ h => h))<|.sub 1 rfl ((bes_push (by omega)))<|.nil) (ks := [0, 1]) rfl)
 ·try simp only [cmpB, Z] at h1
  refine J_exit ?_
  refine zE<|zE<|zS<|zC<|zF (zG [] (.n (zA (.t rfl))<|.n (zB (.t rfl))<|.nil) ff rfl fun g15 => ⟨_, _, [0, 1], rfl, (.k 2 rfl<|.nil), (.k 0 rfl<|.k 1 rfl<|.nil), ?_⟩)
  refine zC<|yF<|JN_to (To.join 0 1 rfl rfl rfl rfl) ?_
  refine JN_to (To.res 0 (r' := rowsR (g3 13) (besL ms n.toNat) 26 36) rfl (bes_done (by omega) (by omega)) rfl) ?_
  refine JN_retF (u := (g3 13)) 0 rfl rfl (.tmp (.t rfl)) (fun _ _ h => h.1) ?_
  exact zL
theorem tri_ok {ms : List Mt} (hlt : ∀ k, LtL (ms.getD k mtD).a) : Ct Tryz.prog 8 [slk 3 mtU ms] (resM (triM ms)) := by
 refine Ct.of Tryz.func8 rfl (by kernel_rfl) rfl fun c0 => ?_
 refine J_lenk 0 rfl fun hlen => ?_
 refine yN (To.emps 1) ?_
 refine zF (zG [] (.w 0 (yT 0 zr28 rfl rfl)<|.n (zB (.k rfl))<|.nil) ff rfl fun g1 => ⟨_, _, [0], rfl, (.k 0 rfl<|.k 2 rfl<|.nil), (.k 0 rfl<|.nil), ?_⟩)
 refine zC<|zF<|zF (zG [] (.n (zA (.t rfl))<|.n (op_len_sk sl24 (.t rfl))<|.n (yB (by simp) (.t rfl) (.k rfl) rfl)<|.nil) ff rfl fun g2 => ⟨_, _, [0], rfl, (.k 0 rfl<|.k 2 rfl<|.k 21 rfl<|.nil), (.k 0 rfl<|.nil), ?_⟩)
 refine zC<|zH (zK (.t rfl)) (fun h1 => ?_) (fun h1 => ?_)
 ·try simp only [cmpB, Z] at h1
  refine zF (zG [] (.n (op_build zr28 rfl pl28 .nil)<|.w 0 (yM 0 (.t rfl) (.t rfl) yL sz28 rfl rfl rfl)<|.n (zB (.k rfl))<|.nil) ff rfl fun g3 => ⟨_, _, [0], rfl, (.k 2 rfl<|.k 3 rfl<|.nil), (.k 0 rfl<|.nil), ?_⟩)
  refine zC<|yF<|zD<|zQ (.cons (.ag 0 (.t rfl) ag28 rfl rfl rfl)<|.cons (.tmp (.t rfl))<|.nil) (zM (sb_res (.cons (sb_agg (.cons zL<|.cons zL<|.cons (sb_nil (mk := flp))<|.nil))<|.cons zL<|.nil)) ?_)
  exact ret_M (triM_1 (by omega)).symm
 ·try simp only [cmpB, Z] at h1
  have hne : ¬ ms.length = 0 := by omega
  refine yE<|zC<|zF<|zF (zG [] (.n (zA (.t rfl))<|.n (op_len_sk sl24 (.t rfl))<|.n (zA (.k rfl))<|.nil) ff rfl fun g4 => ⟨_, _, [0], rfl, (.k 0 rfl<|.k 2 rfl<|.k 23 rfl<|.k 24 rfl<|.k 25 rfl<|.nil), (.k 0 rfl<|.nil), ?_⟩)
  refine zC<|zT<|J_loopc (α := Nat) (fun k => k ≤ ms.length ∧ fstE (mtChk ms) = fstE ((mtChk ms).drop k)) (fun k => ms.length - k) (fun k restR => (25, isv (.int .i64 (k : Int))) :: restR) (fun k restS => restS) (ρc := [(0, _), (2, _), (23, _), (24, _)]) (σc := [_]) 0 (by exact ⟨Nat.zero_le _, rfl⟩) (To.pick (fun _ => .sub (t := 25) rfl (yO (by rfl))<|.k 0 rfl<|.k 2 rfl<|.k 23 rfl<|.k 24 rfl<|.nil) (fun _ => .k 0 rfl<|.nil) (ks := [0]) rfl) (fun k hI => ?_)
  refine zF (zG [] (.n (yB (by simp) (.t rfl) (.t rfl) rfl)<|.nil) ff rfl fun g5 => ⟨_, _, [0], rfl, (.k 0 rfl<|.k 2 rfl<|.k 23 rfl<|.k 24 rfl<|.k 25 rfl<|.k 26 rfl<|.nil), (.k 0 rfl<|.nil), ?_⟩)
  refine zC<|zF<|zH (zK (.t rfl)) (fun h2 => ?_) (fun h2 => ?_)
  ·try simp only [cmpB, Z] at h2
   refine yE<|zC<|zF<|zT<|yN (To.emps 1) ?_
   refine zF (zG [] (.n (op_index_sk (mk := mtU) mtD sl24 mtU_len (.t rfl) (.t rfl) (by omega) (by omega))<|.n (op_load_ag ag28 (.t rfl) rfl rfl)<|.w 1 (yT 1 zr28 rfl rfl)<|.w 1 (op_store_new 1 rfl (.t rfl) yL sz28 rfl rfl)<|.nil) ff rfl fun g6 => ⟨_, _, [0, 1], rfl, (.k 0 rfl<|.k 2 rfl<|.k 5 rfl<|.k 23 rfl<|.k 24 rfl<|.k 25 rfl<|.nil), (.k 0 rfl<|.k 1 rfl<|.nil), ?_⟩)
   refine zC<|zF (zG [] (.r 1 (yI 1 ag28 (.t rfl) rfl zJ rfl rfl)<|.n (zP (chk_ok) ⟨(.t rfl),  trivial⟩)<|.n (zB (.t rfl))<|.nil) ff rfl fun g7 => ⟨_, _, [0], rfl, (.k 0 rfl<|.k 2 rfl<|.k 6 rfl<|.k 23 rfl<|.k 24 rfl<|.k 25 rfl<|.nil), (.k 0 rfl<|.nil), ?_⟩)
   refine zC<|zF (zG [] (.n (zA (.t rfl))<|.n (yB (by simp) (.t rfl) (.k rfl) rfl)<|.nil) ff rfl fun g8 => ⟨_, _, [0], rfl, (.k 0 rfl<|.k 2 rfl<|.k 6 rfl<|.k 23 rfl<|.k 24 rfl<|.k 25 rfl<|.k 32 rfl<|.nil), (.k 0 rfl<|.nil), ?_⟩)
   refine zC<|zH (zK (.t rfl)) (fun h3 => ?_) (fun h3 => ?_)
   ·try simp only [cmpB, Z] at h3
    refine zF (zG [] (.n (op_build zr28 rfl pl28 .nil)<|.n (zA (.t rfl))<|.w 0 (yM 0 (.t rfl) (.t rfl) yL sz28 rfl rfl rfl)<|.n (zB (.t rfl))<|.nil) ff rfl fun g9 => ⟨_, _, [0], rfl, (.k 2 rfl<|.k 3 rfl<|.nil), (.k 0 rfl<|.nil), ?_⟩)
    refine zC<|yF<|yP<|zD<|zD<|yP<|zD<|zQ (.cons (.ag 0 (.t rfl) ag28 rfl rfl rfl)<|.cons (.tmp (.t rfl))<|.nil) (zM (sb_res (.cons (sb_agg (.cons zL<|.cons zL<|.cons (sb_nil (mk := flp))<|.nil))<|.cons zL<|.nil)) ?_)
    exact ret_M (triM_2 hne (chk_bad (by omega) hI.2 h3) h3).symm
   ·try simp only [cmpB, Z] at h3
    refine yE<|zR<|zC<|(zG [] (.n (yK (.t rfl) (.k rfl) (zO (by omega) (by omega)))<|.n (zA (.t rfl))<|.nil) ff rfl fun g10 => ⟨_, _, [0], rfl, (.k 0 rfl<|.k 2 rfl<|.k 23 rfl<|.k 24 rfl<|.k 25 rfl<|.nil), (.k 0 rfl<|.nil), ?_⟩)
    exact yW (k + 1) (by exact ⟨by omega, chk_step (by omega) hI.2 (by assumption)⟩) (by omega) (To.pick (fun _ => .sub (t := 25) rfl (yO (by rfl))<|.k 0 rfl<|.k 2 rfl<|.k 23 rfl<|.k 24 rfl<|.nil) (fun _ => .k 0 rfl<|.nil) (ks := [0]) rfl)
  ·try simp only [cmpB, Z] at h2
   have hz := chk_end (show k = ms.length by omega) hI.2
   refine J_exit ?_
   refine zE<|zE<|zS<|zC<|zF (zG [] (.n (zB (.k rfl))<|.nil) ff rfl fun g11 => ⟨_, _, [0], rfl, (.k 0 rfl<|.k 2 rfl<|.k 7 rfl<|.nil), (.k 0 rfl<|.nil), ?_⟩)
   refine zC<|zF<|zF (zG [] (.n (zA (.t rfl))<|.n (op_len_sk sl24 (.t rfl))<|.n (zA (.k rfl))<|.nil) ff rfl fun g12 => ⟨_, _, [0], rfl, (.k 0 rfl<|.k 2 rfl<|.k 7 rfl<|.k 36 rfl<|.k 37 rfl<|.k 38 rfl<|.nil), (.k 0 rfl<|.nil), ?_⟩)
   refine zC<|zT<|J_loopc (α := Nat) (fun k => k ≤ ms.length ∧ (ms.take k).all (fun m => decide (m.r = (ms.getD 0 mtD).r)) = true) (fun k => ms.length - k) (fun k restR => (38, isv (.int .i64 (k : Int))) :: (7, isv (.int .i64 ((min (colsTo ms k) 49 : Nat) : Int))) :: restR) (fun k restS => restS) (ρc := [(0, _), (2, _), (36, _), (37, _)]) (σc := [_]) 0 (by exact ⟨Nat.zero_le _, rfl⟩) (To.pick (fun _ => .sub (t := 38) rfl (yO (by rfl))<|.sub (t := 7) rfl (yO (by rfl))<|.k 0 rfl<|.k 2 rfl<|.k 36 rfl<|.k 37 rfl<|.nil) (fun _ => .k 0 rfl<|.nil) (ks := [0]) rfl) (fun k hI => ?_)
   refine zF (zG [] (.n (yB (by simp) (.t rfl) (.t rfl) rfl)<|.nil) ff rfl fun g13 => ⟨_, _, [0], rfl, (.k 0 rfl<|.k 2 rfl<|.k 7 rfl<|.k 36 rfl<|.k 37 rfl<|.k 38 rfl<|.k 39 rfl<|.nil), (.k 0 rfl<|.nil), ?_⟩)
   refine zC<|zF<|zH (zK (.t rfl)) (fun h4 => ?_) (fun h4 => ?_)
   ·try simp only [cmpB, Z] at h4
    have hck := chk_good (chk_all hz (show k < ms.length by omega))
    obtain ⟨_, _, hc0, hc1⟩ := hck.1
    have hce : (ms.getD ((k : Int)).toNat mtD).c = (ms.getD k mtD).c := rfl
    refine yE<|zC<|zF<|zT<|yN (To.emps 1) ?_
    refine zF (zG [] (.n (op_index_sk (mk := mtU) mtD sl24 mtU_len (.t rfl) (.t rfl) (by omega) (by omega))<|.n (op_load_ag ag28 (.t rfl) rfl rfl)<|.w 1 (yT 1 zr28 rfl rfl)<|.w 1 (op_store_new 1 rfl (.t rfl) yL sz28 rfl rfl)<|.nil) ff rfl fun g14 => ⟨_, _, [0, 1], rfl, (.k 0 rfl<|.k 2 rfl<|.k 7 rfl<|.k 9 rfl<|.k 36 rfl<|.k 37 rfl<|.k 38 rfl<|.nil), (.k 0 rfl<|.k 1 rfl<|.nil), ?_⟩)
    refine zC<|zF<|zF (zG [[], [0], [], [2], [2, 3], [2, 3, 4], [0, 1, 2, 3, 4, 5]] (.n (zI fd28_0 (.t rfl) rfl)<|.r 1 (zN 1 sc3 (.t rfl) rfl zJ rfl)<|.n (zA (.t rfl))<|.n (op_index_sk (mk := mtU) mtD sl24 mtU_len (.t rfl) (.k rfl) (by omega) (by omega))<|.n (yR fd28_0 (.t rfl) rfl)<|.n (yC sc3 (.t rfl) rfl)<|.n (yB (by simp) (.t rfl) (.t rfl) rfl)<|.nil) (fun _ => mixed) rfl fun g15 => ⟨_, _, [0, 1], rfl, (.k 0 rfl<|.k 2 rfl<|.k 7 rfl<|.k 9 rfl<|.k 36 rfl<|.k 37 rfl<|.k 38 rfl<|.k 48 rfl<|.nil), (.k 0 rfl<|.k 1 rfl<|.nil), ?_⟩)
    refine zC<|zH (zK (.t rfl)) (fun h5 => ?_) (fun h5 => ?_)
    ·try simp only [cmpB, Z] at h5
     refine zF (zG [] (.n (op_build zr28 rfl pl28 .nil)<|.w 0 (yM 0 (.t rfl) (.t rfl) yL sz28 rfl rfl rfl)<|.n (zB (.k rfl))<|.nil) ff rfl fun g16 => ⟨_, _, [0], rfl, (.k 2 rfl<|.k 3 rfl<|.nil), (.k 0 rfl<|.nil), ?_⟩)
     refine zC<|yF<|zD<|yP<|zD<|zD<|yP<|zD<|zQ (.cons (.ag 0 (.t rfl) ag28 rfl rfl rfl)<|.cons (.tmp (.t rfl))<|.nil) (zM (sb_res (.cons (sb_agg (.cons zL<|.cons zL<|.cons (sb_nil (mk := flp))<|.nil))<|.cons zL<|.nil)) ?_)
     exact ret_M (triM_3 hne hz (all_no mtD (show k < ms.length by omega) (by simpa using h5))).symm
    ·try simp only [cmpB, Z] at h5
     refine yE<|zC<|zF (zG [] (.n (zA (.t rfl))<|.n (zI fd28_1 (.t rfl) rfl)<|.r 1 (zN 1 sc3 (.t rfl) rfl zJ rfl)<|.n (yK (.t rfl) (.t rfl) (zO (by omega) (by omega)))<|.n (zB (.t rfl))<|.nil) ff rfl fun g17 => ⟨_, _, [0], rfl, (.k 0 rfl<|.k 2 rfl<|.k 7 rfl<|.k 36 rfl<|.k 37 rfl<|.k 38 rfl<|.nil), (.k 0 rfl<|.nil), ?_⟩)
     refine zC<|zF (zG [] (.n (zA (.t rfl))<|.n (yB (by simp) (.t rfl) (.k rfl) rfl)<|.nil) ff rfl fun g18 => ⟨_, _, [0], rfl, (.k 0 rfl<|.k 2 rfl<|.k 7 rfl<|.k 36 rfl<|.k 37 rfl<|.k 38 rfl<|.k 55 rfl<|.nil), (.k 0 rfl<|.nil), ?_⟩)
     refine zC<|zH (zK (.t rfl)) (fun h6 => ?_) (fun h6 => ?_)
     ·try simp only [cmpB, Z] at h6
      refine (zG [] (.n (zB (.k rfl))<|.nil) ff rfl fun g19 => ⟨_, _, [0], rfl, (.k 0 rfl<|.k 2 rfl<|.k 7 rfl<|.k 36 rfl<|.k 37 rfl<|.k 38 rfl<|.nil), (.k 0 rfl<|.nil), ?_⟩)
      refine zR<|zC<|(zG [] (.n (yK (.t rfl) (.k rfl) (zO (by omega) (by omega)))<|.n (zA (.t rfl))<|.nil) ff rfl fun g20 => ⟨_, _, [0], rfl, (.k 0 rfl<|.k 2 rfl<|.k 7 rfl<|.k 36 rfl<|.k 37 rfl<|.k 38 rfl<|.nil), (.k 0 rfl<|.nil), ?_⟩)
      exact yW (k + 1) (by exact ⟨by omega, all_take mtD (by omega) hI.2 (by simpa using h5)⟩) (by omega) (To.pick (fun _ => .sub (t := 38) rfl (yO (by rfl))<|.sub (t := 7) rfl (yO (by exact congrArg (fun z => isv (.int .i64 z)) (by show _ = ((min (colsTo ms k + (ms.getD k mtD).c.toNat) 49 : Nat) : Int); omega)))<|.k 0 rfl<|.k 2 rfl<|.k 36 rfl<|.k 37 rfl<|.nil) (fun _ => .k 0 rfl<|.nil) (ks := [0]) rfl)
     ·try simp only [cmpB, Z] at h6
      refine yE<|zR<|zC<|(zG [] (.n (yK (.t rfl) (.k rfl) (zO (by omega) (by omega)))<|.n (zA (.t rfl))<|.nil) ff rfl fun g21 => ⟨_, _, [0], rfl, (.k 0 rfl<|.k 2 rfl<|.k 7 rfl<|.k 36 rfl<|.k 37 rfl<|.k 38 rfl<|.nil), (.k 0 rfl<|.nil), ?_⟩)
      exact yW (k + 1) (by exact ⟨by omega, all_take mtD (by omega) hI.2 (by simpa using h5)⟩) (by omega) (To.pick (fun _ => .sub (t := 38) rfl (yO (by rfl))<|.sub (t := 7) rfl (yO (by exact congrArg (fun z => isv (.int .i64 z)) (by show _ = ((min (colsTo ms k + (ms.getD k mtD).c.toNat) 49 : Nat) : Int); omega)))<|.k 0 rfl<|.k 2 rfl<|.k 36 rfl<|.k 37 rfl<|.nil) (fun _ => .k 0 rfl<|.nil) (ks := [0]) rfl)
   ·try simp only [cmpB, Z] at h4
    obtain rfl : k = ms.length := by omega
    refine J_exit ?_
    refine zE<|zE<|zS<|zC<|zF<|zF (zG [] (.n (zA (.t rfl))<|.n (yB (by simp) (.t rfl) (.k rfl) rfl)<|.nil) ff rfl fun g22 => ⟨_, _, [0], rfl, (.k 0 rfl<|.k 2 rfl<|.k 58 rfl<|.nil), (.k 0 rfl<|.nil), ?_⟩)
    refine zC<|zH (zK (.t rfl)) (fun h7 => ?_) (fun h7 => ?_)
    ·try simp only [cmpB, Z] at h7
     refine zF (zG [] (.n (op_build zr28 rfl pl28 .nil)<|.w 0 (yM 0 (.t rfl) (.t rfl) yL sz28 rfl rfl rfl)<|.n (zB (.k rfl))<|.nil) ff rfl fun g23 => ⟨_, _, [0], rfl, (.k 2 rfl<|.k 3 rfl<|.nil), (.k 0 rfl<|.nil), ?_⟩)
     refine zC<|yF<|zD<|zQ (.cons (.ag 0 (.t rfl) ag28 rfl rfl rfl)<|.cons (.tmp (.t rfl))<|.nil) (zM (sb_res (.cons (sb_agg (.cons zL<|.cons zL<|.cons (sb_nil (mk := flp))<|.nil))<|.cons zL<|.nil)) ?_)
     exact ret_M (triM_4 hne hz (all_whole (Nat.le_refl _) hI.2) (by omega)).symm
    ·try simp only [cmpB, Z] at h7
     have hsh : shpB ms = true := all_whole (by omega) hI.2
     obtain ⟨n, hn⟩ : ∃ n : Nat, (ms.getD 0 mtD).r = (n : Int) := ⟨(ms.getD 0 mtD).r.toNat, by have := (chk_good (chk_all hz (show 0 < ms.length by omega))).1.1; omega⟩
     have hcm : ¬ 48 < colsTo ms ms.length := by omega
     have hB : BesOk ms (n : Int) := besOk_of hne hz hsh hcm hn
     have hM := triM_5 hne hz hsh hcm hn
     have hfl : ∀ k, FinL (ms.getD k mtD).a := fun k => finL_mk (if hk : k < ms.length then (chk_zero.1 (chk_all hz hk)).2 else by rw [List.getD, List.getElem?_eq_none (by omega)]; rfl) (hlt k)
     have hT0 := tri_start (n := n) hfl
     obtain ⟨_, hn12, _, _⟩ := (hB.hg 0 hB.h0).1
     refine yE<|zC<|yN (To.emps 1) ?_
     refine zF (zG [] (.n (zA (.t rfl))<|.w 1 (op_callF 1 (besideF_ok (n := (n : Int)) hB) ⟨(.t rfl),  trivial⟩ rfl)<|.n (yX rfl rfl)<|.nil) ff rfl fun g24 => ⟨_, _, [0, 1], rfl, (.k 2 rfl<|.k 10 rfl<|.nil), (.k 0 rfl<|.k 1 rfl<|.nil), ?_⟩)
     refine zC<|J_ex 1 rfl fun vsp => ?_
     obtain ⟨vs, hvs⟩ := vsp
     rw [length_besL] at hvs
     have hvs : vs.length = n := hvs
     refine yN (To.emps 1) ?_
     refine yN (To.res 1 (r' := (som (g24 61) isv vs 26).sep (pool n (poolX vs 36 (besRow ms n)))) rfl rows_open rfl) ?_
     refine yN (To.split 1 2 rfl rfl rfl rfl) ?_
     refine zF (zG [] (.n (zA (.t rfl))<|.r 1 (op_len_som 1 sl76 (.t rfl) rfl)<|.n (zB (.t rfl))<|.nil) ff rfl fun g25 => ⟨_, _, [0, 1, 2], rfl, (.k 2 rfl<|.k 10 rfl<|.k 11 rfl<|.nil), (.k 0 rfl<|.k 1 rfl<|.k 2 rfl<|.nil), ?_⟩)
     refine zC<|zF<|yN (To.slot 11 rfl (q := isv (.int .i64 (n : Int))) (sb_eq (by rw [hvs]))) ?_
     refine zF (zG [] (.n (zA (.t rfl))<|.n (zA (.k rfl))<|.nil) ff rfl fun g26 => ⟨_, _, [0, 1, 2], rfl, (.k 2 rfl<|.k 10 rfl<|.k 11 rfl<|.k 64 rfl<|.k 65 rfl<|.nil), (.k 0 rfl<|.k 1 rfl<|.k 2 rfl<|.nil), ?_⟩)
     refine zC<|zT<|J_loopc (α := Nat) (fun i => i ≤ n ∧ TriI (besRow ms n) n (colsTo ms ms.length + (n - colsTo ms ms.length)) i) (fun i => n - i) (fun i restR => (65, isv (.int .i64 (i : Int))) :: restR) (fun i restS => pool n (poolX vs 36 (triTo (besRow ms n) i)) :: restS) (ρc := [(2, _), (10, _), (11, _), (64, _)]) (σc := [_, _]) 0 (by exact ⟨Nat.zero_le _, hT0⟩) (To.pick (fun _ => .sub (t := 65) rfl (yO (by rfl))<|.k 2 rfl<|.k 10 rfl<|.k 11 rfl<|.k 64 rfl<|.nil) (fun _ => .sub 2 rfl ((fun _ _ h => h))<|.k 0 rfl<|.k 1 rfl<|.nil) (ks := [2, 0, 1]) rfl) (fun i hI => ?_)
     refine zF (zG [] (.n (yB (by simp) (.t rfl) (.t rfl) rfl)<|.nil) ff rfl fun g27 => ⟨_, _, [0, 1, 2], rfl, (.k 2 rfl<|.k 10 rfl<|.k 11 rfl<|.k 64 rfl<|.k 65 rfl<|.k 66 rfl<|.nil), (.k 0 rfl<|.k 1 rfl<|.k 2 rfl<|.nil), ?_⟩)
     refine zC<|zF<|zH (zK (.t rfl)) (fun h8 => ?_) (fun h8 => ?_)
     ·try simp only [cmpB, Z] at h8
      have hT := hI.2
      have hli := hT.hl i (by omega)
      refine yE<|zC<|zF<|zT<|zF (zG [] (.n (zA (.t rfl))<|.n (zB (.t rfl))<|.nil) ff rfl fun g28 => ⟨_, _, [0, 1, 2], rfl, (.k 2 rfl<|.k 10 rfl<|.k 11 rfl<|.k 12 rfl<|.k 64 rfl<|.k 65 rfl<|.nil), (.k 0 rfl<|.k 1 rfl<|.k 2 rfl<|.nil), ?_⟩)
      refine zC<|yN (To.emps 1) ?_
      refine yN (To.focus 0 3 i (by omega) rfl rfl rfl rfl) ?_
      refine yN (To.res 3 (r' := som (vs.getD i NILV) flp (triTo (besRow ms n) i i) 36) rfl (yQ (by show som _ flp _ _ = _; rfl)) rfl) ?_
      refine yN (To.emps 2) ?_
      refine zF (zG [] (.n (zA (.t rfl))<|.n (zA (.t rfl))<|.r 2 (yH 2 sl76 (.t rfl) (.t rfl) rfl (by omega) (by omega))<|.r 2 ((op_get_som (mk := isv) (.slice none 0 0) 2 sc26 (.t rfl) rfl (by omega)).sub rfl (isv_eq (by exact rfl)))<|.n (zA (.t rfl))<|.r 3 (op_slice_vsl 3 sl26 (.t rfl) (.t rfl) rfl (by omega) (by omega))<|.w 3 (op_callBF 3 (houseF_ok (xs := (triTo (besRow ms n) i i).drop i) (finL_drop (hT.hf i (by omega)) i) (by rw [List.length_drop]; omega)) (fun _ => pure_agg (.cons (pure_isv _)<|.cons (pure_flp _)<|.cons (pure_flp _) .nil)) (fun _ => pure_som pure_flp) (.t rfl) rfl)<|.w 4 (yT 4 zr79 rfl rfl)<|.w 4 (op_store_new_ve 4 rfl rfl rfl (fun f => yL) (fun f g h => by rw [h 74 (show 74 ∈ [74] from by decide)]) (fun _ => sz79) rfl (fun _ => rfl) rfl)<|.nil) ff rfl fun g29 => ⟨_, _, [0, 1, 2, 3, 4], rfl, (.k 2 rfl<|.k 10 rfl<|.k 11 rfl<|.k 12 rfl<|.k 13 rfl<|.k 64 rfl<|.k 65 rfl<|.nil), (.k 0 rfl<|.k 1 rfl<|.k 2 rfl<|.k 3 rfl<|.k 4 rfl<|.nil), ?_⟩)
      refine zC<|zF<|yN (To.emps 1) ?_
      refine yN (To.split 3 5 rfl rfl rfl rfl) ?_
      refine yN (To.unfocus 0 3 i (by omega) rfl rfl rfl rfl) ?_
      refine yN (To.res 0 (r' := pool n (poolX vs 36 (triTo (besRow ms n) i))) rfl (pool_back rfl) rfl) ?_
      refine yN (To.freeze 5 (fun _ h => h) rfl frz_som rfl) ?_
      refine zF (zG [] (.n (zA (.t rfl))<|.n (yK (.t rfl) (.k rfl) (zO (by omega) (by omega)))<|.n (zB (.t rfl))<|.nil) ff rfl fun g30 => ⟨_, _, [0, 1, 2, 4], rfl, (.k 2 rfl<|.k 10 rfl<|.k 11 rfl<|.k 12 rfl<|.k 13 rfl<|.k 14 rfl<|.k 64 rfl<|.k 65 rfl<|.nil), (.k 0 rfl<|.k 1 rfl<|.k 2 rfl<|.k 4 rfl<|.nil), ?_⟩)
      refine zC<|zT<|J_loopc (α := Nat) (fun k => i + 1 ≤ k ∧ k ≤ n ∧ ∀ j, i < j → j < k → (mirW (gls (triTo (besRow ms n) i) i) i (triTo (besRow ms n) i j)).all finB = true) (fun k => n - k) (fun k restR => (14, isv (.int .i64 (k : Int))) :: restR) (fun k restS => pool n (poolX vs 36 (midF (triTo (besRow ms n) i) i k)) :: restS) (ρc := [(2, _), (10, _), (11, _), (12, _), (13, _), (64, _), (65, _)]) (σc := [_, _, _]) (i + 1) (by exact ⟨Nat.le_refl _, by omega, fun j h1 h2 => by omega⟩) (To.pick (fun _ => .sub (t := 14) rfl (yO (by rfl))<|.k 2 rfl<|.k 10 rfl<|.k 11 rfl<|.k 12 rfl<|.k 13 rfl<|.k 64 rfl<|.k 65 rfl<|.nil) (fun _ => .sub 0 rfl ((pool_mid0))<|.k 1 rfl<|.k 2 rfl<|.k 3 rfl<|.nil) (ks := [0, 1, 2, 3]) rfl) (fun k hK => ?_)
      refine zF<|zF (zG [] (.n (zA (.t rfl))<|.n (zA (.t rfl))<|.n (yB (by simp) (.t rfl) (.t rfl) rfl)<|.nil) ff rfl fun g31 => ⟨_, _, [0, 1, 2, 3], rfl, (.k 2 rfl<|.k 10 rfl<|.k 11 rfl<|.k 12 rfl<|.k 13 rfl<|.k 14 rfl<|.k 64 rfl<|.k 65 rfl<|.k 79 rfl<|.nil), (.k 0 rfl<|.k 1 rfl<|.k 2 rfl<|.k 3 rfl<|.nil), ?_⟩)
      refine zC<|zH (zK (.t rfl)) (fun h9 => ?_) (fun h9 => ?_)
      ·try simp only [cmpB, Z] at h9
       have hlk := hT.hl k (by omega)
       have hvk : (houseL ((triTo (besRow ms n) i i).drop i)).v.length = (triTo (besRow ms n) i k).length - i := by rw [length_houseL, List.length_drop, hli, hlk]
       refine yE<|zC<|zF<|zT<|yN (To.emps 1) ?_
       refine yN (To.focus 0 4 k (by omega) rfl rfl rfl rfl) ?_
       refine yN (To.res 4 (r' := som (vs.getD k NILV) flp (triTo (besRow ms n) i k) 36) rfl (yQ (by show som _ flp _ _ = _; rw [mid_at (by omega)])) rfl) ?_
       refine zF (zG [[], [], [], [1, 2], [1, 2, 3], [], [1, 2, 3, 4, 5], [0, 1, 2, 3, 4, 5, 6]] (.r 3 (yI 3 ag79 (.t rfl) rfl zJ rfl rfl)<|.n (zA (.t rfl))<|.n (zA (.t rfl))<|.r 2 (yH 2 sl76 (.t rfl) (.t rfl) rfl (by omega) (by omega))<|.r 2 ((op_get_som (mk := isv) (.slice none 0 0) 2 sc26 (.t rfl) rfl (by omega)).sub rfl (isv_eq (by exact rfl)))<|.n (zA (.t rfl))<|.r 4 (op_slice_vsl 4 sl26 (.t rfl) (.t rfl) rfl (by omega) (by omega))<|.w 4 (op_callM 4 (mirror_ok (i := i) (xs := triTo (besRow ms n) i k) (v := (houseL ((triTo (besRow ms n) i i).drop i)).v) (by omega) hvk (by omega)) ⟨(Lk.sub (sb_agg (.cons (sb_fk 0 rfl)<|.cons zL<|.cons zL<|.nil)) (.t rfl)), (.t rfl),  trivial⟩ rfl)<|.nil) (fun _ => mixed) rfl fun g32 => ⟨_, _, [0, 1, 2, 3, 4], rfl, (.k 2 rfl<|.k 10 rfl<|.k 11 rfl<|.k 12 rfl<|.k 13 rfl<|.k 14 rfl<|.k 64 rfl<|.k 65 rfl<|.nil), (.k 0 rfl<|.k 1 rfl<|.k 2 rfl<|.k 3 rfl<|.k 4 rfl<|.nil), ?_⟩)
       refine zC<|zF (zG [] (.n (zA (.t rfl))<|.n (zA (.t rfl))<|.r 2 (yH 2 sl76 (.t rfl) (.t rfl) rfl (by omega) (by omega))<|.r 2 ((op_get_som (mk := isv) (.slice none 0 0) 2 sc26 (.t rfl) rfl (by omega)).sub rfl (isv_eq (by exact rfl)))<|.r 4 (op_callB0 4 (finite_ok (xs := mirW (gls (triTo (besRow ms n) i) i) i (triTo (besRow ms n) i k))) (pure_isv _) (.t rfl) rfl)<|.n (op_not (.t rfl))<|.nil) ff rfl fun g33 => ⟨_, _, [0, 1, 2, 3, 4], rfl, (.k 2 rfl<|.k 10 rfl<|.k 11 rfl<|.k 12 rfl<|.k 13 rfl<|.k 14 rfl<|.k 64 rfl<|.k 65 rfl<|.k 95 rfl<|.nil), (.k 0 rfl<|.k 1 rfl<|.k 2 rfl<|.k 3 rfl<|.k 4 rfl<|.nil), ?_⟩)
       refine zC<|zH (zK (.t rfl)) (fun h10 => ?_) (fun h10 => ?_)
       ·try simp only [cmpB, Z] at h10
        refine zF (zG [] (.n (op_build zr28 rfl pl28 .nil)<|.w 1 (yM 1 (.t rfl) (.t rfl) yL sz28 rfl rfl rfl)<|.n (zB (.k rfl))<|.nil) ff rfl fun g34 => ⟨_, _, [0, 1, 2, 4], rfl, (.k 2 rfl<|.k 3 rfl<|.nil), (.k 0 rfl<|.k 1 rfl<|.k 2 rfl<|.k 4 rfl<|.nil), ?_⟩)
        refine zC<|yF<|yP<|zD<|zD<|yP<|zD<|yP<|zD<|zD<|yP<|zD<|zQ (.cons (.ag 1 (.t rfl) ag28 rfl rfl rfl)<|.cons (.tmp (.t rfl))<|.nil) (zM (sb_res (.cons (sb_agg (.cons zL<|.cons zL<|.cons (sb_nil (mk := flp))<|.nil))<|.cons zL<|.nil)) ?_)
        exact ret_M ((tri_over1 (n := n) (i := i) (k := k) (by omega) (by omega) (by omega) (by simpa using h10)).trans hM.symm)
       ·try simp only [cmpB, Z] at h10
        have hfk : (mirW (gls (triTo (besRow ms n) i) i) i (triTo (besRow ms n) i k)).all finB = true := by simpa using h10
        refine yE<|zR<|zC<|yN (To.unfocus 0 4 k (by omega) rfl rfl rfl rfl) ?_
        refine yN (To.res 0 (r' := pool n (poolX vs 36 (midF (triTo (besRow ms n) i) i (k + 1)))) rfl (pool_mid (by omega) rfl) rfl) ?_
        refine (zG [] (.n (zA (.t rfl))<|.n (yK (.t rfl) (.k rfl) (zO (by omega) (by omega)))<|.n (zB (.t rfl))<|.nil) ff rfl fun g35 => ⟨_, _, [0, 1, 2, 3], rfl, (.k 2 rfl<|.k 10 rfl<|.k 11 rfl<|.k 12 rfl<|.k 13 rfl<|.k 14 rfl<|.k 64 rfl<|.k 65 rfl<|.nil), (.k 0 rfl<|.k 1 rfl<|.k 2 rfl<|.k 3 rfl<|.nil), ?_⟩)
        exact yW (k + 1) (by exact ⟨by omega, by omega, fun j h1 h2 => if e : j = k then e ▸ hfk else hK.2.2 j h1 (by omega)⟩) (by omega) (To.pick (fun _ => .sub (t := 14) rfl (yO (by rfl))<|.k 2 rfl<|.k 10 rfl<|.k 11 rfl<|.k 12 rfl<|.k 13 rfl<|.k 64 rfl<|.k 65 rfl<|.nil) (fun _ => .sub 0 rfl ((fun _ _ h => h))<|.k 1 rfl<|.k 2 rfl<|.k 3 rfl<|.nil) (ks := [0, 1, 2, 3]) rfl)
      ·try simp only [cmpB, Z] at h9
       have hkn : k = n := by omega
       have hcl : (List.take ((i : Int)).toNat (triTo (besRow ms n) i i) ++ List.replicate ((triTo (besRow ms n) i i).length - ((i : Int)).toNat) 0).length = (triTo (besRow ms n) i i).length := length_clrR
       refine J_exit ?_
       refine zE<|zE<|zS<|zC<|yN (To.emps 1) ?_
       refine yN (To.focus 0 4 i (by omega) rfl rfl rfl rfl) ?_
       refine yN (To.res 4 (r' := som (vs.getD i NILV) flp (triTo (besRow ms n) i i) 36) rfl (yQ (by show som _ flp _ _ = _; rw [mid_at (by omega)])) rfl) ?_
       refine zF (zG [] (.n (zA (.t rfl))<|.n (zA (.t rfl))<|.r 2 (yH 2 sl76 (.t rfl) (.t rfl) rfl (by omega) (by omega))<|.r 2 ((op_get_som (mk := isv) (.slice none 0 0) 2 sc26 (.t rfl) rfl (by omega)).sub rfl (isv_eq (by exact rfl)))<|.n (zA (.t rfl))<|.r 4 (op_slice_vsl 4 sl26 (.t rfl) (.t rfl) rfl (by omega) (by omega))<|.w 4 (op_clear_vsl 0 4 sl26 zr36 rfl (fun _ => flp_zero) (.t rfl) rfl (by omega))<|.nil) ff rfl fun g36 => ⟨_, _, [0, 1, 2, 3, 4], rfl, (.k 2 rfl<|.k 10 rfl<|.k 11 rfl<|.k 12 rfl<|.k 13 rfl<|.k 64 rfl<|.k 65 rfl<|.nil), (.k 0 rfl<|.k 1 rfl<|.k 2 rfl<|.k 3 rfl<|.k 4 rfl<|.nil), ?_⟩)
       refine zC<|zF (zG [[], [], [0, 1], [0, 1, 2], [], [], [5], [0, 1, 2, 3, 4, 5, 6], [0, 1, 2, 3, 4, 5, 6, 7]] (.n (zA (.t rfl))<|.n (zA (.t rfl))<|.r 2 (yH 2 sl76 (.t rfl) (.t rfl) rfl (by omega) (by omega))<|.r 2 ((op_get_som (mk := isv) (.slice none 0 0) 2 sc26 (.t rfl) rfl (by omega)).sub rfl (isv_eq (by exact rfl)))<|.n (zA (.t rfl))<|.n (zI fd79_2 (.t rfl) rfl)<|.r 3 (zN 3 sc36 (.t rfl) rfl zJ rfl)<|.r 4 (yH 4 sl26 (.t rfl) (.t rfl) rfl (by omega) (by omega))<|.w 4 (op_store_som 4 (.t rfl) (.t rfl) co_flp sz36 rfl (by omega))<|.nil) (fun _ => mixed) rfl fun g37 => ⟨_, _, [0, 1, 2, 3, 4], rfl, (.k 2 rfl<|.k 10 rfl<|.k 11 rfl<|.k 13 rfl<|.k 64 rfl<|.k 65 rfl<|.nil), (.k 0 rfl<|.k 1 rfl<|.k 2 rfl<|.k 3 rfl<|.k 4 rfl<|.nil), ?_⟩)
       refine zC<|zF (zG [] (.n (zI fd79_2 (.t rfl) rfl)<|.r 3 (zN 3 sc36 (.t rfl) rfl zJ rfl)<|.n (zP (qfin_ok) ⟨(.t rfl),  trivial⟩)<|.n (op_not (.t rfl))<|.nil) ff rfl fun g38 => ⟨_, _, [0, 1, 2, 4], rfl, (.k 2 rfl<|.k 10 rfl<|.k 11 rfl<|.k 64 rfl<|.k 65 rfl<|.k 114 rfl<|.nil), (.k 0 rfl<|.k 1 rfl<|.k 2 rfl<|.k 4 rfl<|.nil), ?_⟩)
       refine zC<|zH (zK (.t rfl)) (fun h11 => ?_) (fun h11 => ?_)
       ·try simp only [cmpB, Z] at h11
        refine zF (zG [] (.n (op_build zr28 rfl pl28 .nil)<|.w 1 (yM 1 (.t rfl) (.t rfl) yL sz28 rfl rfl rfl)<|.n (zB (.k rfl))<|.nil) ff rfl fun g39 => ⟨_, _, [0, 1, 2, 3], rfl, (.k 2 rfl<|.k 3 rfl<|.nil), (.k 0 rfl<|.k 1 rfl<|.k 2 rfl<|.k 3 rfl<|.nil), ?_⟩)
        refine zC<|yF<|yP<|zD<|zD<|yP<|zD<|zQ (.cons (.ag 1 (.t rfl) ag28 rfl rfl rfl)<|.cons (.tmp (.t rfl))<|.nil) (zM (sb_res (.cons (sb_agg (.cons zL<|.cons zL<|.cons (sb_nil (mk := flp))<|.nil))<|.cons zL<|.nil)) ?_)
        exact ret_M ((tri_over2 (n := n) (i := i) (by omega) (show finQ (houseL ((triTo (besRow ms n) i i).drop i)).alpha = false by simpa using h11)).trans hM.symm)
       ·try simp only [cmpB, Z] at h11
        have ha : finQ (houseL ((triTo (besRow ms n) i i).drop i)).alpha = true := by simpa using h11
        refine yE<|zR<|zC<|yN (To.unfocus 0 3 i (by omega) rfl rfl rfl rfl) ?_
        refine yN (To.res 0 (r' := pool n (poolX vs 36 (endF (triTo (besRow ms n) i) i))) rfl (pool_end (by omega) rfl) rfl) ?_
        refine (zG [] (.n (yK (.t rfl) (.k rfl) (zO (by omega) (by omega)))<|.n (zA (.t rfl))<|.nil) ff rfl fun g40 => ⟨_, _, [0, 1, 2], rfl, (.k 2 rfl<|.k 10 rfl<|.k 11 rfl<|.k 64 rfl<|.k 65 rfl<|.nil), (.k 0 rfl<|.k 1 rfl<|.k 2 rfl<|.nil), ?_⟩)
        refine JN_to To.fdrop ?_
        exact yW (i + 1) (by exact ⟨by omega, triI_step hT (fun j h1 h2 => hK.2.2 j h1 (by omega)) ha⟩) (by omega) (To.pick (fun _ => .sub (t := 65) rfl (yO (by rfl))<|.k 2 rfl<|.k 10 rfl<|.k 11 rfl<|.k 64 rfl<|.nil) (fun _ => .sub 0 rfl ((fun _ _ h => h))<|.k 1 rfl<|.k 2 rfl<|.nil) (ks := [0, 1, 2]) rfl)
     ·try simp only [cmpB, Z] at h8
      have hin : i = n := by omega
      have hTn := hI.2
      rw [hin] at hTn
      refine J_exit ?_
      refine zE<|zE<|zS<|zC<|yN (To.emps 1) ?_
      refine zF (zG [] (.n (zA (.t rfl))<|.n (zA (.t rfl))<|.n (op_build zr28 rfl pl28 (.cons rfl (.t rfl) co_isv rfl (yU rfl (Nat.le_of_ble_eq_true rfl)) (.cons rfl (.t rfl) co_isv rfl (yU rfl (Nat.le_of_ble_eq_true rfl)) .nil)))<|.w 3 (yT 3 zr28 rfl rfl)<|.w 3 (op_store_new 3 rfl (.t rfl) yL sz28 rfl rfl)<|.nil) ff rfl fun g41 => ⟨_, _, [0, 1, 2, 3], rfl, (.k 2 rfl<|.k 10 rfl<|.k 11 rfl<|.k 15 rfl<|.nil), (.k 0 rfl<|.k 1 rfl<|.k 2 rfl<|.k 3 rfl<|.nil), ?_⟩)
      refine zC<|zF<|yN (To.res 0 (r' := pool n (poolX vs 36 (triTo (besRow ms n) n))) rfl (yQ (by rw [hin])) rfl) ?_
      refine yN (To.emps 1) ?_
      refine yN (To.res 4 (r' := som (.slice none 0 0) flp [] 36) rfl som_nil rfl) ?_
      refine zF (zG [] (.n (zA (.t rfl))<|.n (zA (.k rfl))<|.nil) ff rfl fun g42 => ⟨_, _, [0, 1, 2, 3, 4], rfl, (.k 2 rfl<|.k 10 rfl<|.k 11 rfl<|.k 15 rfl<|.k 120 rfl<|.k 121 rfl<|.nil), (.k 0 rfl<|.k 1 rfl<|.k 2 rfl<|.k 3 rfl<|.k 4 rfl<|.nil), ?_⟩)
      refine zC<|zT<|J_loopc (α := Nat × Value) (fun x => x.1 ≤ n) (fun x => n - x.1) (fun x restR => (121, isv (.int .i64 (x.1 : Int))) :: restR) (fun x restS => som x.2 flp ((grid (n : Int) (n : Int) fun a b => triN (triTo (besRow ms n) n) a.toNat b.toNat).take (x.1 * n)) 36 :: blk (g41 15) [isv (.int .i64 (n : Int)), isv (.int .i64 (n : Int)), isv x.2] 28 :: restS) (ρc := [(2, _), (10, _), (11, _), (15, _), (120, _)]) (σc := [_, _, _]) (0, NILV) (by exact Nat.zero_le _) (To.pick (fun _ => .sub (t := 121) rfl (yO (by rfl))<|.k 2 rfl<|.k 10 rfl<|.k 11 rfl<|.k 15 rfl<|.k 120 rfl<|.nil) (fun _ => .sub 4 rfl ((yQ (by rw [Nat.zero_mul, List.take_zero])))<|.sub 3 rfl ((fun _ _ h => h))<|.k 0 rfl<|.k 1 rfl<|.k 2 rfl<|.nil) (ks := [4, 3, 0, 1, 2]) rfl) (fun x hI => ?_)
      obtain ⟨p, sv⟩ := x
      try simp only at hI
      show J _ _ ((121, isv (.int .i64 (p : Int))) :: _) (som sv flp ((grid (n : Int) (n : Int) fun a b => triN (triTo (besRow ms n) n) a.toNat b.toNat).take (p * n)) 36 :: blk (g41 15) [isv (.int .i64 (n : Int)), isv (.int .i64 (n : Int)), isv sv] 28 :: _) _ _
      refine zF (zG [] (.n (yB (by simp) (.t rfl) (.t rfl) rfl)<|.nil) ff rfl fun g43 => ⟨_, _, [0, 1, 2, 3, 4], rfl, (.k 2 rfl<|.k 10 rfl<|.k 11 rfl<|.k 15 rfl<|.k 120 rfl<|.k 121 rfl<|.k 122 rfl<|.nil), (.k 0 rfl<|.k 1 rfl<|.k 2 rfl<|.k 3 rfl<|.k 4 rfl<|.nil), ?_⟩)
      refine zC<|zF<|zH (zK (.t rfl)) (fun h12 => ?_) (fun h12 => ?_)
      ·try simp only [cmpB, Z] at h12
       refine yE<|zC<|zF<|zT<|zF (zG [] (.n (zA (.t rfl))<|.n (zB (.t rfl))<|.nil) ff rfl fun g44 => ⟨_, _, [0, 1, 2, 3, 4], rfl, (.k 2 rfl<|.k 10 rfl<|.k 11 rfl<|.k 15 rfl<|.k 16 rfl<|.k 120 rfl<|.k 121 rfl<|.nil), (.k 0 rfl<|.k 1 rfl<|.k 2 rfl<|.k 3 rfl<|.k 4 rfl<|.nil), ?_⟩)
       refine zC<|zF (zG [] (.n (zA (.t rfl))<|.n (zA (.k rfl))<|.nil) ff rfl fun g45 => ⟨_, _, [0, 1, 2, 3, 4], rfl, (.k 2 rfl<|.k 10 rfl<|.k 11 rfl<|.k 15 rfl<|.k 16 rfl<|.k 120 rfl<|.k 121 rfl<|.k 124 rfl<|.k 125 rfl<|.nil), (.k 0 rfl<|.k 1 rfl<|.k 2 rfl<|.k 3 rfl<|.k 4 rfl<|.nil), ?_⟩)
       refine zC<|zT<|J_loopc (α := Nat × Value) (fun y => y.1 ≤ n) (fun y => n - y.1) (fun y restR => (125, isv (.int .i64 (y.1 : Int))) :: restR) (fun y restS => som y.2 flp ((grid (n : Int) (n : Int) fun a b => triN (triTo (besRow ms n) n) a.toNat b.toNat).take (p * n + y.1)) 36 :: blk (g41 15) [isv (.int .i64 (n : Int)), isv (.int .i64 (n : Int)), isv y.2] 28 :: restS) (ρc := [(2, _), (10, _), (11, _), (15, _), (16, _), (120, _), (121, _), (124, _)]) (σc := [_, _, _]) (0, sv) (by exact Nat.zero_le _) (To.pick (fun _ => .sub (t := 125) rfl (yO (by rfl))<|.k 2 rfl<|.k 10 rfl<|.k 11 rfl<|.k 15 rfl<|.k 16 rfl<|.k 120 rfl<|.k 121 rfl<|.k 124 rfl<|.nil) (fun _ => .sub 0 rfl ((fun _ _ h => h))<|.sub 1 rfl ((fun _ _ h => h))<|.k 2 rfl<|.k 3 rfl<|.k 4 rfl<|.nil) (ks := [0, 1, 2, 3, 4]) rfl) (fun y hQ => ?_)
       obtain ⟨q, tv⟩ := y
       try simp only at hQ
       show J _ _ ((125, isv (.int .i64 (q : Int))) :: _) (som tv flp ((grid (n : Int) (n : Int) fun a b => triN (triTo (besRow ms n) n) a.toNat b.toNat).take (p * n + q)) 36 :: blk (g41 15) [isv (.int .i64 (n : Int)), isv (.int .i64 (n : Int)), isv tv] 28 :: _) _ _
       refine zF (zG [] (.n (yB (by simp) (.t rfl) (.t rfl) rfl)<|.nil) ff rfl fun g46 => ⟨_, _, [0, 1, 2, 3, 4], rfl, (.k 2 rfl<|.k 10 rfl<|.k 11 rfl<|.k 15 rfl<|.k 16 rfl<|.k 120 rfl<|.k 121 rfl<|.k 124 rfl<|.k 125 rfl<|.k 126 rfl<|.nil), (.k 0 rfl<|.k 1 rfl<|.k 2 rfl<|.k 3 rfl<|.k 4 rfl<|.nil), ?_⟩)
       refine zC<|zF<|zH (zK (.t rfl)) (fun h13 => ?_) (fun h13 => ?_)
       ·try simp only [cmpB, Z] at h13
        have htl := tri_take_le (F := triN (triTo (besRow ms n) n)) (n := n) (k := p * n + q) (by omega)
        have hlp := hTn.hl p (by omega)
        have hlq := hTn.hl q (by omega)
        refine yE<|zC<|zF<|zT<|zF (zG [] (.n (zA (.t rfl))<|.n (zB (.t rfl))<|.nil) ff rfl fun g47 => ⟨_, _, [0, 1, 2, 3, 4], rfl, (.k 2 rfl<|.k 10 rfl<|.k 11 rfl<|.k 15 rfl<|.k 16 rfl<|.k 17 rfl<|.k 120 rfl<|.k 121 rfl<|.k 124 rfl<|.k 125 rfl<|.nil), (.k 0 rfl<|.k 1 rfl<|.k 2 rfl<|.k 3 rfl<|.k 4 rfl<|.nil), ?_⟩)
        refine zC<|yN (To.emps 1) ?_
        refine yN (To.focus 2 5 p (by omega) rfl rfl rfl rfl) ?_
        refine yN (To.res 5 (r' := som (vs.getD p NILV) flp (triTo (besRow ms n) n p) 36) rfl (yQ (by show som _ flp _ _ = _; rfl)) rfl) ?_
        refine zF (zG [] (.n (zA (.t rfl))<|.n (zA (.t rfl))<|.r 4 (yH 4 sl76 (.t rfl) (.t rfl) rfl (by omega) (by omega))<|.r 4 ((op_get_som (mk := isv) (.slice none 0 0) 4 sc26 (.t rfl) rfl (by omega)).sub rfl (isv_eq (by exact rfl)))<|.n (zA (.t rfl))<|.r 5 (yH 5 sl26 (.t rfl) (.t rfl) rfl (by omega) (by omega))<|.r 5 (op_get_som 0 5 sc36 (.t rfl) rfl (by omega))<|.n (zB (.t rfl))<|.nil) ff rfl fun g48 => ⟨_, _, [0, 1, 2, 3, 4, 5], rfl, (.k 2 rfl<|.k 10 rfl<|.k 11 rfl<|.k 15 rfl<|.k 16 rfl<|.k 17 rfl<|.k 18 rfl<|.k 120 rfl<|.k 121 rfl<|.k 124 rfl<|.k 125 rfl<|.nil), (.k 0 rfl<|.k 1 rfl<|.k 2 rfl<|.k 3 rfl<|.k 4 rfl<|.k 5 rfl<|.nil), ?_⟩)
        refine zC<|zF<|yN (To.unfocus 2 5 p (by omega) rfl rfl rfl rfl) ?_
        refine yN (To.res 2 (r' := pool n (poolX vs 36 (triTo (besRow ms n) n))) rfl (pool_back rfl) rfl) ?_
        refine yN (To.emps 1) ?_
        refine yN (To.focus 2 6 q (by omega) rfl rfl rfl rfl) ?_
        refine yN (To.res 6 (r' := som (vs.getD q NILV) flp (triTo (besRow ms n) n q) 36) rfl (yQ (by show som _ flp _ _ = _; rfl)) rfl) ?_
        refine zF (zG [] (.n (zA (.t rfl))<|.n (zA (.t rfl))<|.r 4 (yH 4 sl76 (.t rfl) (.t rfl) rfl (by omega) (by omega))<|.r 4 ((op_get_som (mk := isv) (.slice none 0 0) 4 sc26 (.t rfl) rfl (by omega)).sub rfl (isv_eq (by exact rfl)))<|.n (zA (.t rfl))<|.r 6 (yH 6 sl26 (.t rfl) (.t rfl) rfl (by omega) (by omega))<|.r 6 (op_get_som 0 6 sc36 (.t rfl) rfl (by omega))<|.n (op_fcmp (by simp) (.t rfl) (Lk.fk rfl (by decide +kernel)) rfl)<|.nil) ff rfl fun g49 => ⟨_, _, [0, 1, 2, 3, 4, 6], rfl, (.k 2 rfl<|.k 10 rfl<|.k 11 rfl<|.k 15 rfl<|.k 16 rfl<|.k 18 rfl<|.k 120 rfl<|.k 121 rfl<|.k 124 rfl<|.k 125 rfl<|.k 142 rfl<|.nil), (.k 0 rfl<|.k 1 rfl<|.k 2 rfl<|.k 3 rfl<|.k 4 rfl<|.k 6 rfl<|.nil), ?_⟩)
        refine zC<|zH (zK (.t rfl)) (fun h14 => ?_) (fun h14 => ?_)
        ·have h14' := h14
         try simp only [cmpB, Z] at h14
         have hput := tri_put1 (X := triTo (besRow ms n) n) (i := p) (j := q) h14'
         refine (zG [] (.n (zA (.t rfl))<|.n (op_negf (.t rfl))<|.n (zB (.t rfl))<|.nil) ff rfl fun g50 => ⟨_, _, [0, 1, 2, 3, 4, 5], rfl, (.k 2 rfl<|.k 10 rfl<|.k 11 rfl<|.k 15 rfl<|.k 16 rfl<|.k 18 rfl<|.k 120 rfl<|.k 121 rfl<|.k 124 rfl<|.k 125 rfl<|.nil), (.k 0 rfl<|.k 1 rfl<|.k 2 rfl<|.k 3 rfl<|.k 4 rfl<|.k 5 rfl<|.nil), ?_⟩)
         refine zC<|yN (To.unfocus 2 5 q (by omega) rfl rfl rfl rfl) ?_
         refine yN (To.res 2 (r' := pool n (poolX vs 36 (triTo (besRow ms n) n))) rfl (pool_back rfl) rfl) ?_
         refine (zG [] (.n (zI fd28_2 (.t rfl) rfl)<|.r 1 (zN 1 sc26 (.t rfl) rfl zJ rfl)<|.n (zA (.t rfl))<|.n (op_float (by simp) (.t rfl) (Lk.fk rfl (by decide +kernel)) rfl)<|.n (op_buildSlice sl26 zr36 rfl rfl rfl rfl (.cons rfl (.t rfl) co_flp rfl (yU rfl (Nat.le_of_ble_eq_true rfl)) .nil))<|.w 0 (op_append_m 0 sl26 zr36 rfl (.t rfl) (.t rfl) rfl (by omega) (by omega))<|.n (zI fd28_2 (.t rfl) rfl)<|.w 1 (op_store_sl 1 (.t rfl) rfl sz26 rfl rfl)<|.nil) ff rfl fun g51 => ⟨_, _, [0, 1, 2, 3, 4], rfl, (.k 2 rfl<|.k 10 rfl<|.k 11 rfl<|.k 15 rfl<|.k 16 rfl<|.k 120 rfl<|.k 121 rfl<|.k 124 rfl<|.k 125 rfl<|.nil), (.k 0 rfl<|.k 1 rfl<|.k 2 rfl<|.k 3 rfl<|.k 4 rfl<|.nil), ?_⟩)
         refine zR<|zC<|(zG [] (.n (yK (.t rfl) (.k rfl) (zO (by omega) (by omega)))<|.n (zA (.t rfl))<|.nil) ff rfl fun g52 => ⟨_, _, [0, 1, 2, 3, 4], rfl, (.k 2 rfl<|.k 10 rfl<|.k 11 rfl<|.k 15 rfl<|.k 16 rfl<|.k 120 rfl<|.k 121 rfl<|.k 124 rfl<|.k 125 rfl<|.nil), (.k 0 rfl<|.k 1 rfl<|.k 2 rfl<|.k 3 rfl<|.k 4 rfl<|.nil), ?_⟩)
         exact yW (q + 1, (g51 150)) (by exact (show q + 1 ≤ n by omega)) (by show n - (_ + 1) < _; omega) (To.pick (fun _ => .sub (t := 125) rfl (yO (by rfl))<|.k 2 rfl<|.k 10 rfl<|.k 11 rfl<|.k 15 rfl<|.k 16 rfl<|.k 120 rfl<|.k 121 rfl<|.k 124 rfl<|.nil) (fun _ => .sub 0 rfl ((yQ (by rw [tri_take (F := triN (triTo (besRow ms n) n)) (by omega) (by omega), hput]; rfl)))<|.sub 1 rfl ((fun _ _ h => h))<|.k 2 rfl<|.k 3 rfl<|.k 4 rfl<|.nil) (ks := [0, 1, 2, 3, 4]) rfl)
        ·have h14' := h14
         try simp only [cmpB, Z] at h14
         have hput := tri_put0 (X := triTo (besRow ms n) n) (i := p) (j := q) h14'
         refine yE<|zC<|yN (To.unfocus 2 5 q (by omega) rfl rfl rfl rfl) ?_
         refine yN (To.res 2 (r' := pool n (poolX vs 36 (triTo (besRow ms n) n))) rfl (pool_back rfl) rfl) ?_
         refine (zG [] (.n (zI fd28_2 (.t rfl) rfl)<|.r 1 (zN 1 sc26 (.t rfl) rfl zJ rfl)<|.n (zA (.t rfl))<|.n (op_float (by simp) (.t rfl) (Lk.fk rfl (by decide +kernel)) rfl)<|.n (op_buildSlice sl26 zr36 rfl rfl rfl rfl (.cons rfl (.t rfl) co_flp rfl (yU rfl (Nat.le_of_ble_eq_true rfl)) .nil))<|.w 0 (op_append_m 0 sl26 zr36 rfl (.t rfl) (.t rfl) rfl (by omega) (by omega))<|.n (zI fd28_2 (.t rfl) rfl)<|.w 1 (op_store_sl 1 (.t rfl) rfl sz26 rfl rfl)<|.nil) ff rfl fun g53 => ⟨_, _, [0, 1, 2, 3, 4], rfl, (.k 2 rfl<|.k 10 rfl<|.k 11 rfl<|.k 15 rfl<|.k 16 rfl<|.k 120 rfl<|.k 121 rfl<|.k 124 rfl<|.k 125 rfl<|.nil), (.k 0 rfl<|.k 1 rfl<|.k 2 rfl<|.k 3 rfl<|.k 4 rfl<|.nil), ?_⟩)
         refine zR<|zC<|(zG [] (.n (yK (.t rfl) (.k rfl) (zO (by omega) (by omega)))<|.n (zA (.t rfl))<|.nil) ff rfl fun g54 => ⟨_, _, [0, 1, 2, 3, 4], rfl, (.k 2 rfl<|.k 10 rfl<|.k 11 rfl<|.k 15 rfl<|.k 16 rfl<|.k 120 rfl<|.k 121 rfl<|.k 124 rfl<|.k 125 rfl<|.nil), (.k 0 rfl<|.k 1 rfl<|.k 2 rfl<|.k 3 rfl<|.k 4 rfl<|.nil), ?_⟩)
         exact yW (q + 1, (g53 150)) (by exact (show q + 1 ≤ n by omega)) (by show n - (_ + 1) < _; omega) (To.pick (fun _ => .sub (t := 125) rfl (yO (by rfl))<|.k 2 rfl<|.k 10 rfl<|.k 11 rfl<|.k 15 rfl<|.k 16 rfl<|.k 120 rfl<|.k 121 rfl<|.k 124 rfl<|.nil) (fun _ => .sub 0 rfl ((yQ (by rw [tri_take (F := triN (triTo (besRow ms n) n)) (by omega) (by omega), hput]; rfl)))<|.sub 1 rfl ((fun _ _ h => h))<|.k 2 rfl<|.k 3 rfl<|.k 4 rfl<|.nil) (ks := [0, 1, 2, 3, 4]) rfl)
       ·try simp only [cmpB, Z] at h13
        refine J_exit ?_
        refine zE<|zE<|zS<|zR<|zC<|(zG [] (.n (yK (.t rfl) (.k rfl) (zO (by omega) (by omega)))<|.n (zA (.t rfl))<|.nil) ff rfl fun g55 => ⟨_, _, [0, 1, 2, 3, 4], rfl, (.k 2 rfl<|.k 10 rfl<|.k 11 rfl<|.k 15 rfl<|.k 120 rfl<|.k 121 rfl<|.nil), (.k 0 rfl<|.k 1 rfl<|.k 2 rfl<|.k 3 rfl<|.k 4 rfl<|.nil), ?_⟩)
        exact yW (p + 1, tv) (by exact (show p + 1 ≤ n by omega)) (by show n - (_ + 1) < _; omega) (To.pick (fun _ => .sub (t := 121) rfl (yO (by rfl))<|.k 2 rfl<|.k 10 rfl<|.k 11 rfl<|.k 15 rfl<|.k 120 rfl<|.nil) (fun _ => .sub 0 rfl ((yQ (by rw [show (p + 1) * n = p * n + q by rw [Nat.add_mul, Nat.one_mul]; omega])))<|.sub 1 rfl ((fun _ _ h => h))<|.k 2 rfl<|.k 3 rfl<|.k 4 rfl<|.nil) (ks := [0, 1, 2, 3, 4]) rfl)
      ·try simp only [cmpB, Z] at h12
       refine J_exit ?_
       refine zE<|zE<|zS<|zC<|zF (zG [] (.r 1 (yI 1 ag28 (.t rfl) rfl zJ rfl rfl)<|.w 3 (yM 3 (.t rfl) (.t rfl) yL sz28 rfl rfl rfl)<|.n (zB (.k rfl))<|.nil) ff rfl fun g56 => ⟨_, _, [0, 2, 3, 4], rfl, (.k 2 rfl<|.k 3 rfl<|.nil), (.k 0 rfl<|.k 2 rfl<|.k 3 rfl<|.k 4 rfl<|.nil), ?_⟩)
       refine zC<|yF<|JN_to (To.res 0 (r' := som sv flp (grid (n : Int) (n : Int) fun a b => triN (triTo (besRow ms n) n) a.toNat b.toNat) 36) rfl (yQ (by rw [show p * n = ((n : Int)).toNat * ((n : Int)).toNat by rw [show p = n by omega]; rfl, take_grid_all])) rfl) ?_
       refine JN_to (To.freeze 0 (fun _ h => h) rfl frz_som rfl) ?_
       refine zQ (.cons (.ag 2 (.t rfl) ag28 rfl rfl rfl)<|.cons (.tmp (.t rfl))<|.nil) (zM (sb_res (.cons (sb_agg (.cons zL<|.cons zL<|.cons (sb_fk 0 rfl)<|.nil))<|.cons zL<|.nil)) ?_)
       exact ret_M ((tri_done hTn).symm.trans hM.symm)
end Go.Proofs.YtllkellonjhalaaGreat
