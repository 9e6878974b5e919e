/- Printed by a program of ours (walk.py): walks of a matrix split into two. -/
import Derived.Test.YtllkellonjhalaaGreatOoKb
import Derived.Test.YtllkellonjhalaaGreatProg
import Derived.KernelRfl
import Derived.Test.YtllkellonjhalaaGreatOoTypes
import Derived.Test.YtllkellonjhalaaGreatOoWTri10
import Derived.Test.YtllkellonjhalaaGreatOoQrf
set_option linter.unusedVariables false
set_option linter.unusedSimpArgs false
set_option maxRecDepth 20000
set_option maxHeartbeats 1000000
namespace Go.Proofs.YtllkellonjhalaaGreat
open Go Go.Bn
attribute [local irreducible] OpOK
theorem flip_ok {x b : Nat} : Ct Tryz.prog 58 [flp x, flp b] (flp (flipN x b)) := by
 refine Ct.of Tryz.func58 rfl (by kernel_rfl) rfl fun c0 => ?_
 refine zF (zG [] (.n (zB (Lk.fk rfl (by decide +kernel)))<|.nil) ff rfl fun g1 => ⟨_, _, [], rfl, (.k 0 rfl<|.k 1 rfl<|.nil), (.nil), ?_⟩)
 refine zC<|zF<|zF (zG [] (.n (zA (.t rfl))<|.n (op_fcmp (by simp) (.t rfl) (Lk.fk rfl (by decide +kernel)) rfl)<|.nil) ff rfl fun g2 => ⟨_, _, [], rfl, (.k 0 rfl<|.k 6 rfl<|.nil), (.nil), ?_⟩)
 refine zC<|zH (zK (.t rfl)) (fun h1 => ?_) (fun h1 => ?_)
 ·have h1' := h1
  try simp only [cmpB, Z] at h1
  refine (zG [] (.n (zA (.t rfl))<|.n (op_negf (.t rfl))<|.n (zB (.t rfl))<|.nil) ff rfl fun g3 => ⟨_, _, [], rfl, (.k 0 rfl<|.nil), (.nil), ?_⟩)
  refine zC<|zF (zG [] (.n (zA (.t rfl))<|.n (op_float (by simp) (.t rfl) (Lk.fk rfl (by decide +kernel)) rfl)<|.n (zB (.t rfl))<|.nil) ff rfl fun g4 => ⟨_, _, [], rfl, (.k 4 rfl<|.nil), (.nil), ?_⟩)
  refine zC<|yF<|zQ (.cons (.tmp (.t rfl))<|.nil) (zM (yD zL) ?_)
  exact ret_f (flip_1 h1').symm
 ·have h1' := h1
  try simp only [cmpB, Z] at h1
  refine yE<|zC<|zF (zG [] (.n (zA (.t rfl))<|.n (op_float (by simp) (.t rfl) (Lk.fk rfl (by decide +kernel)) rfl)<|.n (zB (.t rfl))<|.nil) ff rfl fun g5 => ⟨_, _, [], rfl, (.k 4 rfl<|.nil), (.nil), ?_⟩)
  refine zC<|yF<|zQ (.cons (.tmp (.t rfl))<|.nil) (zM (yD zL) ?_)
  exact ret_f (flip_0 h1').symm
theorem colsF_ok {r c : Int} {xs : List Nat} (hg : Good r c xs) : CtF Tryz.prog 57 [MatP r c xs] (id) (fun u => isv u) (fun u => rowsR u (colsL r c xs) 26 36) := by
 refine CtF.of Tryz.func57 rfl (by kernel_rfl) rfl fun c0 => ?_
 obtain ⟨hs1, hs2, hs3, hs4⟩ := hg.1
 have hl := hg.2
 refine yN (To.emps 1) ?_
 refine zF (zG [] (.w 0 (op_box 0 (.t rfl) yL rfl)<|.n (zB (.k rfl))<|.nil) ff rfl fun g1 => ⟨_, _, [0], rfl, (.k 1 rfl<|.nil), (.k 0 rfl<|.nil), ?_⟩)
 refine zC<|yN (To.emps 1) ?_
 refine zF (zG [] (.n (zI fd28_1 (.t rfl) rfl)<|.r 0 (zN 0 sc3 (.t rfl) rfl zJ rfl)<|.w 1 (op_make_m (mk := isv) (.slice none 0 0) 1 sl76 zr26 rfl (fun _ => ⟨rfl, rfl⟩) (.t rfl) (.t rfl) (by omega) (by omega) (by omega) (by omega) rfl)<|.n (yX rfl rfl)<|.nil) ff rfl fun g2 => ⟨_, _, [0, 1], rfl, (.k 1 rfl<|.k 3 rfl<|.nil), (.k 0 rfl<|.k 1 rfl<|.nil), ?_⟩)
 refine zC<|zF<|yN (To.emps 1) ?_
 refine yN (To.res 2 (r' := pool 0 (fun _ => Go.Bn.emp)) rfl pool_nil rfl) ?_
 refine zF (zG [] (.n (zI fd28_1 (.t rfl) rfl)<|.r 0 (zN 0 sc3 (.t rfl) rfl zJ rfl)<|.n (zA (.k rfl))<|.nil) ff rfl fun g3 => ⟨_, _, [0, 1, 2], rfl, (.k 1 rfl<|.k 3 rfl<|.k 10 rfl<|.k 11 rfl<|.nil), (.k 0 rfl<|.k 1 rfl<|.k 2 rfl<|.nil), ?_⟩)
 refine zC<|zT<|J_loopc (α := Nat × List Value) (fun x => x.1 ≤ c.toNat ∧ x.2.length = c.toNat ∧ ∀ j, x.1 ≤ j → x.2.getD j NILV = NILV) (fun x => c.toNat - x.1) (fun x restR => (11, isv (.int .i64 (x.1 : Int))) :: restR) (fun x restS => som (g2 8) isv x.2 26 :: pool x.1 (fun j => som (x.2.getD j NILV) flp (colX r c xs j) 36) :: restS) (ρc := [(1, _), (3, _), (10, _)]) (σc := [_]) (0, List.replicate c.toNat NILV) (by exact ⟨Nat.zero_le _, by simp, fun j _ => by simp [List.getD, List.getElem?_replicate]; split <;> rfl⟩) (To.pick (fun _ => .sub (t := 11) rfl (yO (by rfl))<|.k 1 rfl<|.k 3 rfl<|.k 10 rfl<|.nil) (fun _ => .sub 1 rfl ((fun _ _ h => h))<|.sub 2 rfl ((pool_congr fun j hj => absurd hj (Nat.not_lt_zero j)))<|.k 0 rfl<|.nil) (ks := [1, 2, 0]) rfl) (fun x hI => ?_)
 obtain ⟨i, vs⟩ := x
 try simp only at hI
 show J _ _ ((11, isv (.int .i64 (i : Int))) :: _) (som (g2 8) isv vs 26 :: pool i (fun j => som (vs.getD j NILV) flp (colX r c xs j) 36) :: _) _ _
 have hvl := hI.2.1
 refine zF (zG [] (.n (yB (by simp) (.t rfl) (.t rfl) rfl)<|.nil) ff rfl fun g4 => ⟨_, _, [0, 1, 2], rfl, (.k 1 rfl<|.k 3 rfl<|.k 10 rfl<|.k 11 rfl<|.k 12 rfl<|.nil), (.k 0 rfl<|.k 1 rfl<|.k 2 rfl<|.nil), ?_⟩)
 refine zC<|zF<|zH (zK (.t rfl)) (fun h1 => ?_) (fun h1 => ?_)
 ·try simp only [cmpB, Z] at h1
  refine yE<|zC<|zF<|zT<|zF (zG [] (.n (zA (.t rfl))<|.n (zB (.t rfl))<|.nil) ff rfl fun g5 => ⟨_, _, [0, 1, 2], rfl, (.k 1 rfl<|.k 3 rfl<|.k 4 rfl<|.k 10 rfl<|.k 11 rfl<|.nil), (.k 0 rfl<|.k 1 rfl<|.k 2 rfl<|.nil), ?_⟩)
  refine zC<|yN (To.emps 1) ?_
  refine yN (To.res 3 (r' := som (.slice none 0 0) flp [] 36) rfl som_nil rfl) ?_
  refine zF (zG [] (.n (zI fd28_0 (.t rfl) rfl)<|.r 2 (zN 2 sc3 (.t rfl) rfl zJ rfl)<|.n (zA (.k rfl))<|.nil) ff rfl fun g6 => ⟨_, _, [0, 1, 2, 3], rfl, (.k 1 rfl<|.k 3 rfl<|.k 4 rfl<|.k 10 rfl<|.k 11 rfl<|.k 15 rfl<|.k 16 rfl<|.nil), (.k 0 rfl<|.k 1 rfl<|.k 2 rfl<|.k 3 rfl<|.nil), ?_⟩)
  refine zC<|zT<|J_loopc (α := Nat × Value) (fun y => y.1 ≤ r.toNat) (fun y => r.toNat - y.1) (fun y restR => (16, isv (.int .i64 (y.1 : Int))) :: restR) (fun y restS => som (g2 8) isv (vs.set i y.2) 26 :: som y.2 flp ((colL r c xs (i : Int)).take y.1) 36 :: restS) (ρc := [(1, _), (3, _), (4, _), (10, _), (11, _), (15, _)]) (σc := [_, _]) (0, NILV) (by exact Nat.zero_le _) (To.pick (fun _ => .sub (t := 16) rfl (yO (by rfl))<|.k 1 rfl<|.k 3 rfl<|.k 4 rfl<|.k 10 rfl<|.k 11 rfl<|.k 15 rfl<|.nil) (fun _ => .sub 0 rfl ((yQ (by rw [vset_same (hI.2.2 i (Nat.le_refl _)) (by omega)])))<|.sub 3 rfl ((yQ (by rw [List.take_zero])))<|.k 1 rfl<|.k 2 rfl<|.nil) (ks := [0, 3, 1, 2]) rfl) (fun y hJ => ?_)
  obtain ⟨k, sv⟩ := y
  try simp only at hJ
  show J _ _ ((16, isv (.int .i64 (k : Int))) :: _) (som (g2 8) isv (vs.set i sv) 26 :: som sv flp ((colL r c xs (i : Int)).take k) 36 :: _) _ _
  have hsl : (vs.set i sv).length = c.toNat := by rw [List.length_set]; exact hvl
  refine zF (zG [] (.n (yB (by simp) (.t rfl) (.t rfl) rfl)<|.nil) ff rfl fun g7 => ⟨_, _, [0, 1, 2, 3], rfl, (.k 1 rfl<|.k 3 rfl<|.k 4 rfl<|.k 10 rfl<|.k 11 rfl<|.k 15 rfl<|.k 16 rfl<|.k 17 rfl<|.nil), (.k 0 rfl<|.k 1 rfl<|.k 2 rfl<|.k 3 rfl<|.nil), ?_⟩)
  refine zC<|zF<|zH (zK (.t rfl)) (fun h2 => ?_) (fun h2 => ?_)
  ·try simp only [cmpB, Z] at h2
   have hpx := (show Pl r c (k : Int) (i : Int) from ⟨by omega, by omega, by omega, by omega⟩).rng hg.1
   have hkl : ((colL r c xs (i : Int)).take k).length ≤ 12 := by rw [List.length_take, length_colL]; omega
   refine yE<|zC<|zF<|zT<|zF (zG [] (.n (zA (.t rfl))<|.n (zB (.t rfl))<|.nil) ff rfl fun g8 => ⟨_, _, [0, 1, 2, 3], rfl, (.k 1 rfl<|.k 3 rfl<|.k 4 rfl<|.k 5 rfl<|.k 10 rfl<|.k 11 rfl<|.k 15 rfl<|.k 16 rfl<|.nil), (.k 0 rfl<|.k 1 rfl<|.k 2 rfl<|.k 3 rfl<|.nil), ?_⟩)
   refine zC<|(zG [[], [], [], [], [2, 3], [2, 3, 4], [], [6], [], [], [9], [8, 9, 10], [], [8, 9, 10, 11, 12], [6, 7, 8, 9, 10, 11, 12, 13], [6, 7, 8, 9, 10, 11, 12, 13, 14], [6, 7, 8, 9, 10, 11, 12, 13, 14, 15], [2, 3, 4, 5, 6, 7, 8, 9, 10, 11, 12, 13, 14, 15, 16], [0, 1, 2, 3, 4, 5, 6, 7, 8, 9, 10, 11, 12, 13, 14, 15, 16, 17], [0, 1, 2, 3, 4, 5, 6, 7, 8, 9, 10, 11, 12, 13, 14, 15, 16, 17, 18]] (.n (zA (.t rfl))<|.n (zA (.t rfl))<|.n (zA (.t rfl))<|.n (zA (.t rfl))<|.r 0 (yH 0 sl76 (.t rfl) (.t rfl) rfl (by omega) (by omega))<|.r 0 ((op_get_som (mk := isv) (.slice none 0 0) 0 sc26 (.t rfl) rfl (by rw [List.length_set]; omega)).sub rfl (isv_eq (by exact vset_at (by omega))))<|.n (zI fd28_2 (.t rfl) rfl)<|.r 3 (zN 3 sc26 (.t rfl) rfl zJ rfl)<|.n (zA (.t rfl))<|.n (zI fd28_1 (.t rfl) rfl)<|.r 3 (zN 3 sc3 (.t rfl) rfl zJ rfl)<|.n (op_mul (.t rfl) (.t rfl) (zO (by omega) (by omega)))<|.n (zA (.t rfl))<|.n (yK (.t rfl) (.t rfl) (zO (by omega) (by omega)))<|.n (yS 0 sl26 (.t rfl) (.t rfl) (by omega) (by omega))<|.n (yC sc36 (.t rfl) rfl)<|.n (op_buildSlice sl26 zr36 rfl rfl rfl rfl (.cons rfl (.t rfl) co_flp rfl (yU rfl (Nat.le_of_ble_eq_true rfl)) .nil))<|.w 1 (op_append_m 1 sl26 zr36 rfl (.t rfl) (.t rfl) rfl (by omega) (by omega))<|.r 0 (yH 0 sl76 (.t rfl) (.t rfl) rfl (by omega) (by omega))<|.w 0 (op_ver 36 rfl rfl (fun f => op_store_som (mk := isv) 0 (.t rfl) (.t rfl) co_isv sz26 rfl (by rw [List.length_set]; omega)) (fun f g h => by rw [h 36 (show 36 ∈ [36] from by decide)]) rfl)<|.nil) (fun _ => mixed) rfl fun g9 => ⟨_, _, [0, 1, 2, 3], rfl, (.k 1 rfl<|.k 3 rfl<|.k 4 rfl<|.k 10 rfl<|.k 11 rfl<|.k 15 rfl<|.k 16 rfl<|.nil), (.k 0 rfl<|.k 1 rfl<|.k 2 rfl<|.k 3 rfl<|.nil), ?_⟩)
   refine zR<|zC<|(zG [] (.n (yK (.t rfl) (.k rfl) (zO (by omega) (by omega)))<|.n (zA (.t rfl))<|.nil) ff rfl fun g10 => ⟨_, _, [0, 1, 2, 3], rfl, (.k 1 rfl<|.k 3 rfl<|.k 4 rfl<|.k 10 rfl<|.k 11 rfl<|.k 15 rfl<|.k 16 rfl<|.nil), (.k 0 rfl<|.k 1 rfl<|.k 2 rfl<|.k 3 rfl<|.nil), ?_⟩)
   exact yW (k + 1, (g9 36)) (by exact (show k + 1 ≤ _ by omega)) (by show r.toNat - (_ + 1) < _; omega) (To.pick (fun _ => .sub (t := 16) rfl (yO (by rfl))<|.k 1 rfl<|.k 3 rfl<|.k 4 rfl<|.k 10 rfl<|.k 11 rfl<|.k 15 rfl<|.nil) (fun _ => .sub 0 rfl ((yQ (by show som _ isv ((vs.set i sv).set i _) _ = som _ isv (vs.set i _) _; rw [List.set_set])))<|.sub 1 rfl ((yQ (by rw [take_colL (by omega)]; rfl)))<|.k 2 rfl<|.k 3 rfl<|.nil) (ks := [0, 1, 2, 3]) rfl)
  ·try simp only [cmpB, Z] at h2
   refine J_exit ?_
   refine zE<|zE<|zS<|zR<|zC<|yN (To.res 1 (r' := som sv flp (colX r c xs i) 36) rfl (yQ (by rw [List.take_of_length_le (by rw [length_colL]; omega)]; rfl)) rfl) ?_
   refine yN (To.push 2 1 rfl rfl rfl rfl) ?_
   refine (zG [] (.n (yK (.t rfl) (.k rfl) (zO (by omega) (by omega)))<|.n (zA (.t rfl))<|.nil) ff rfl fun g11 => ⟨_, _, [0, 2, 3], rfl, (.k 1 rfl<|.k 3 rfl<|.k 10 rfl<|.k 11 rfl<|.nil), (.k 0 rfl<|.k 2 rfl<|.k 3 rfl<|.nil), ?_⟩)
   exact yW (i + 1, vs.set i sv) (by exact ⟨show i + 1 ≤ _ by omega, by rw [List.length_set]; exact hI.2.1, fun j hj => by rw [vset_ne (show i ≠ j by have : i + 1 ≤ j := hj; omega)]; exact hI.2.2 j (by have : i + 1 ≤ j := hj; omega)⟩) (by show c.toNat - (_ + 1) < _; omega) (To.pick (fun _ => .sub (t := 11) rfl (yO (by rfl))<|.k 1 rfl<|.k 3 rfl<|.k 10 rfl<|.nil) (fun _ => .sub 0 rfl ((fun _ _ h => h))<|.sub 1 rfl ((cols_push (by omega)))<|.k 2 rfl<|.nil) (ks := [0, 1, 2]) rfl)
 ·try simp only [cmpB, Z] at h1
  refine J_exit ?_
  refine zE<|zE<|zS<|zC<|zF (zG [] (.n (zA (.t rfl))<|.n (zB (.t rfl))<|.nil) ff rfl fun g12 => ⟨_, _, [0, 1], rfl, (.k 2 rfl<|.nil), (.k 0 rfl<|.k 1 rfl<|.nil), ?_⟩)
  refine zC<|yF<|JN_to (To.join 0 1 rfl rfl rfl rfl) ?_
  refine JN_to (To.res 0 (r' := rowsR (g2 8) (colsL r c xs) 26 36) rfl (cols_done (by omega) (by omega)) rfl) ?_
  refine JN_retF (u := (g2 8)) 0 rfl rfl (.tmp (.t rfl)) (fun _ _ h => h.1) ?_
  exact zL
end Go.Proofs.YtllkellonjhalaaGreat
set_option maxRecDepth 20000
set_option maxHeartbeats 1000000
namespace Go.Proofs.YtllkellonjhalaaGreat
open Go Go.Bn
attribute [local irreducible] OpOK
theorem qr_ok {r c : Int} {xs : List Nat} (hlt : LtL xs) : Ct Tryz.prog 20 [MatP r c xs] (resQ2 (qrM r c xs)) := by
 refine Ct.of Tryz.func20 rfl (by kernel_rfl) rfl fun c0 => ?_
 refine yN (To.emps 3) ?_
 refine zF (zG [] (.w 0 (op_box 0 (.t rfl) yL rfl)<|.w 1 (yT 1 zr28 rfl rfl)<|.w 2 (yT 2 zr28 rfl rfl)<|.n (zB (.k rfl))<|.nil) ff rfl fun g1 => ⟨_, _, [0, 1, 2], rfl, (.k 1 rfl<|.k 2 rfl<|.k 3 rfl<|.nil), (.k 0 rfl<|.k 1 rfl<|.k 2 rfl<|.nil), ?_⟩)
 refine zC<|zF<|zF (zG [] (.r 0 (yI 0 ag28 (.t rfl) rfl zJ rfl rfl)<|.n (zP (chk_ok) ⟨(.t rfl),  trivial⟩)<|.n (zB (.t rfl))<|.nil) ff rfl fun g2 => ⟨_, _, [0, 1, 2], rfl, (.k 1 rfl<|.k 2 rfl<|.k 3 rfl<|.k 4 rfl<|.nil), (.k 0 rfl<|.k 1 rfl<|.k 2 rfl<|.nil), ?_⟩)
 refine zC<|zF (zG [] (.n (zA (.t rfl))<|.n (yB (by simp) (.t rfl) (.k rfl) rfl)<|.nil) ff rfl fun g3 => ⟨_, _, [0, 1, 2], rfl, (.k 1 rfl<|.k 2 rfl<|.k 3 rfl<|.k 4 rfl<|.k 20 rfl<|.nil), (.k 0 rfl<|.k 1 rfl<|.k 2 rfl<|.nil), ?_⟩)
 refine zC<|zH (zK (.t rfl)) (fun h1 => ?_) (fun h1 => ?_)
 ·try simp only [cmpB, Z] at h1
  refine yF<|zD<|zQ (.cons (.ag 1 (.t rfl) ag28 rfl rfl rfl)<|.cons (.ag 2 (.t rfl) ag28 rfl rfl rfl)<|.cons (.tmp (.t rfl))<|.nil) (zM (sb_res (.cons (sb_agg (.cons zL<|.cons zL<|.cons (sb_nil (mk := flp))<|.nil))<|.cons (sb_agg (.cons zL<|.cons zL<|.cons (sb_nil (mk := flp))<|.nil))<|.cons zL<|.nil)) ?_)
  exact sb_eq (by rw [qrM_1 (by simpa using h1)]; rfl)
 ·try simp only [cmpB, Z] at h1
  have hz : chk r c xs = 0 := by simpa using h1
  have hck := chk_good hz
  obtain ⟨hs1, hs2, hs3, hs4⟩ := hck.1
  have hl := hck.2
  have hF : FinL xs := finL_mk (chk_zero.1 hz).2 hlt
  refine yE<|zC<|zF<|zF (zG [] (.n (zI fd28_0 (.t rfl) rfl)<|.r 0 (zN 0 sc3 (.t rfl) rfl zJ rfl)<|.n (zI fd28_1 (.t rfl) rfl)<|.r 0 (zN 0 sc3 (.t rfl) rfl zJ rfl)<|.n (yB (by simp) (.t rfl) (.t rfl) rfl)<|.nil) ff rfl fun g4 => ⟨_, _, [0, 1, 2], rfl, (.k 1 rfl<|.k 2 rfl<|.k 3 rfl<|.k 25 rfl<|.nil), (.k 0 rfl<|.k 1 rfl<|.k 2 rfl<|.nil), ?_⟩)
  refine zC<|zH (zK (.t rfl)) (fun h2 => ?_) (fun h2 => ?_)
  ·try simp only [cmpB, Z] at h2
   refine zF (zG [[], [], [0], [0, 1, 2], [0, 1, 2, 3]] (.r 1 (yI 1 ag28 (.t rfl) rfl zJ rfl rfl)<|.r 2 (yI 2 ag28 (.t rfl) rfl zJ rfl rfl)<|.w 1 (yM 1 (.t rfl) (.t rfl) yL sz28 rfl rfl rfl)<|.w 2 (yM 2 (.t rfl) (.t rfl) yL sz28 rfl rfl rfl)<|.n (zB (.k rfl))<|.nil) (fun _ => mixed) rfl fun g5 => ⟨_, _, [1, 2], rfl, (.k 2 rfl<|.k 3 rfl<|.k 4 rfl<|.nil), (.k 1 rfl<|.k 2 rfl<|.nil), ?_⟩)
   refine zC<|yF<|zD<|zQ (.cons (.ag 0 (.t rfl) ag28 rfl rfl rfl)<|.cons (.ag 1 (.t rfl) ag28 rfl rfl rfl)<|.cons (.tmp (.t rfl))<|.nil) (zM (sb_res (.cons (sb_agg (.cons zL<|.cons zL<|.cons (sb_nil (mk := flp))<|.nil))<|.cons (sb_agg (.cons zL<|.cons zL<|.cons (sb_nil (mk := flp))<|.nil))<|.cons zL<|.nil)) ?_)
   exact sb_eq (by rw [qrM_2 hz h2]; rfl)
  ·try simp only [cmpB, Z] at h2
   have hrc : ¬ r < c := by omega
   obtain ⟨n, rfl⟩ : ∃ n : Nat, c = (n : Int) := ⟨c.toNat, by omega⟩
   obtain ⟨m, rfl⟩ : ∃ m : Nat, r = (m : Int) := ⟨r.toNat, by omega⟩
   have hT0 : TriI (colX (m : Int) (n : Int) xs) n m 0 := qtri_start rfl hF
   have hX0 : ∀ j, j < n → ((colX (m : Int) (n : Int) xs) j).length = m := fun j _ => colX_len j
   refine yE<|zC<|yN (To.emps 1) ?_
   refine zF (zG [] (.r 0 (yI 0 ag28 (.t rfl) rfl zJ rfl rfl)<|.w 3 (op_callF 3 (colsF_ok (by assumption)) ⟨(.t rfl),  trivial⟩ rfl)<|.n (yX rfl rfl)<|.nil) ff rfl fun g6 => ⟨_, _, [0, 1, 2, 3], rfl, (.k 1 rfl<|.k 2 rfl<|.k 3 rfl<|.k 5 rfl<|.nil), (.k 0 rfl<|.k 1 rfl<|.k 2 rfl<|.k 3 rfl<|.nil), ?_⟩)
   refine zC<|zF (zG [] (.n (zB (.k rfl))<|.nil) ff rfl fun g7 => ⟨_, _, [0, 1, 2, 3], rfl, (.k 1 rfl<|.k 2 rfl<|.k 3 rfl<|.k 5 rfl<|.k 6 rfl<|.nil), (.k 0 rfl<|.k 1 rfl<|.k 2 rfl<|.k 3 rfl<|.nil), ?_⟩)
   refine zC<|zF<|J_ex 3 rfl fun vsp => ?_
   obtain ⟨vs0, hvs0⟩ := vsp
   rw [length_colsL] at hvs0
   have hvs0 : vs0.length = n := hvs0
   refine yN (To.emps 1) ?_
   refine yN (To.res 3 (r' := (som (g6 29) isv vs0 26).sep (pool n (poolX vs0 36 (colX (m : Int) (n : Int) xs)))) rfl (cols_open rfl) rfl) ?_
   refine yN (To.split 3 4 rfl rfl rfl rfl) ?_
   refine yN (To.emps 1) ?_
   refine yN (To.res 5 (r' := somk (.slice none 0 0) 3 glsU [] 79) rfl somk_nil rfl) ?_
   refine zF (zG [] (.n (zI fd28_1 (.t rfl) rfl)<|.r 0 (zN 0 sc3 (.t rfl) rfl zJ rfl)<|.n (zA (.k rfl))<|.nil) ff rfl fun g8 => ⟨_, _, [0, 1, 2, 3, 4, 5], rfl, (.k 1 rfl<|.k 2 rfl<|.k 3 rfl<|.k 5 rfl<|.k 6 rfl<|.k 31 rfl<|.k 32 rfl<|.nil), (.k 0 rfl<|.k 1 rfl<|.k 2 rfl<|.k 3 rfl<|.k 4 rfl<|.k 5 rfl<|.nil), ?_⟩)
   refine zC<|zT<|J_loopc (α := Nat × Value) (fun x => x.1 ≤ n ∧ TriI (colX (m : Int) (n : Int) xs) n m x.1) (fun x => n - x.1) (fun x restR => (32, isv (.int .i64 (x.1 : Int))) :: (6, isv x.2) :: restR) (fun x restS => somk x.2 3 glsU (glsTo (colX (m : Int) (n : Int) xs) x.1) 79 :: pool n (poolX vs0 36 (triTo (colX (m : Int) (n : Int) xs) x.1)) :: restS) (ρc := [(1, _), (2, _), (3, _), (5, _), (31, _)]) (σc := [_, _, _, _]) (0, NILV) (by exact ⟨Nat.zero_le _, hT0⟩) (To.pick (fun _ => .sub (t := 32) rfl (yO (by rfl))<|.sub (t := 6) rfl (yO (by rfl))<|.k 1 rfl<|.k 2 rfl<|.k 3 rfl<|.k 5 rfl<|.k 31 rfl<|.nil) (fun _ => .sub 5 rfl ((fun _ _ h => h))<|.sub 4 rfl ((fun _ _ h => h))<|.k 0 rfl<|.k 1 rfl<|.k 2 rfl<|.k 3 rfl<|.nil) (ks := [5, 4, 0, 1, 2, 3]) rfl) (fun x hI => ?_)
   obtain ⟨i, gv⟩ := x
   try simp only at hI
   show J _ _ ((32, isv (.int .i64 (i : Int))) :: (6, isv gv) :: _) (somk gv 3 glsU (glsTo (colX (m : Int) (n : Int) xs) i) 79 :: pool n (poolX vs0 36 (triTo (colX (m : Int) (n : Int) xs) i)) :: _) _ _
   have hin0 : i ≤ n := hI.1
   have hT : TriI (colX (m : Int) (n : Int) xs) n m i := hI.2
   refine zF (zG [] (.n (yB (by simp) (.t rfl) (.t rfl) rfl)<|.nil) ff rfl fun g9 => ⟨_, _, [0, 1, 2, 3, 4, 5], rfl, (.k 1 rfl<|.k 2 rfl<|.k 3 rfl<|.k 5 rfl<|.k 6 rfl<|.k 31 rfl<|.k 32 rfl<|.k 33 rfl<|.nil), (.k 0 rfl<|.k 1 rfl<|.k 2 rfl<|.k 3 rfl<|.k 4 rfl<|.k 5 rfl<|.nil), ?_⟩)
   refine zC<|zF<|zH (zK (.t rfl)) (fun h3 => ?_) (fun h3 => ?_)
   ·try simp only [cmpB, Z] at h3
    have hli := hT.hl i (by omega)
    have hgll := length_glsTo (colX (m : Int) (n : Int) xs) i
    refine yE<|zC<|zF<|zT<|zF (zG [] (.n (zA (.t rfl))<|.n (zB (.t rfl))<|.nil) ff rfl fun g10 => ⟨_, _, [0, 1, 2, 3, 4, 5], rfl, (.k 1 rfl<|.k 2 rfl<|.k 3 rfl<|.k 5 rfl<|.k 6 rfl<|.k 7 rfl<|.k 31 rfl<|.k 32 rfl<|.nil), (.k 0 rfl<|.k 1 rfl<|.k 2 rfl<|.k 3 rfl<|.k 4 rfl<|.k 5 rfl<|.nil), ?_⟩)
    refine zC<|yN (To.emps 1) ?_
    refine yN (To.focus 1 6 i (by omega) rfl rfl rfl rfl) ?_
    refine yN (To.res 6 (r' := som (vs0.getD i NILV) flp (triTo (colX (m : Int) (n : Int) xs) i i) 36) rfl (yQ (by show som _ flp _ _ = _; rfl)) rfl) ?_
    refine yN (To.emps 2) ?_
    refine zF (zG [] (.n (zA (.t rfl))<|.n (zA (.t rfl))<|.r 5 (yH 5 sl76 (.t rfl) (.t rfl) rfl (by omega) (by omega))<|.r 5 ((op_get_som (mk := isv) (.slice none 0 0) 5 sc26 (.t rfl) rfl (by omega)).sub rfl (isv_eq (by exact rfl)))<|.n (zA (.t rfl))<|.r 6 (op_slice_vsl 6 sl26 (.t rfl) (.t rfl) rfl (by omega) (by omega))<|.w 6 (op_callBF 6 (houseF_ok (xs := (triTo (colX (m : Int) (n : Int) xs) i i).drop i) (finL_drop (hT.hf i (by omega)) i) (by rw [List.length_drop]; omega)) (fun _ => pure_agg (.cons (pure_isv _)<|.cons (pure_flp _)<|.cons (pure_flp _) .nil)) (fun _ => pure_som pure_flp) (.t rfl) rfl)<|.w 7 (yT 7 zr79 rfl rfl)<|.w 7 (op_store_new_ve 7 rfl rfl rfl (fun f => yL) (fun f g h => by rw [h 41 (show 41 ∈ [41] from by decide)]) (fun _ => sz79) rfl (fun _ => rfl) rfl)<|.nil) ff rfl fun g11 => ⟨_, _, [0, 1, 2, 3, 4, 5, 6, 7], rfl, (.k 1 rfl<|.k 2 rfl<|.k 3 rfl<|.k 5 rfl<|.k 6 rfl<|.k 7 rfl<|.k 8 rfl<|.k 31 rfl<|.k 32 rfl<|.nil), (.k 0 rfl<|.k 1 rfl<|.k 2 rfl<|.k 3 rfl<|.k 4 rfl<|.k 5 rfl<|.k 6 rfl<|.k 7 rfl<|.nil), ?_⟩)
    refine zC<|yN (To.emps 1) ?_
    refine yN (To.split 6 8 rfl rfl rfl rfl) ?_
    refine yN (To.unfocus 1 6 i (by omega) rfl rfl rfl rfl) ?_
    refine yN (To.res 1 (r' := pool n (poolX vs0 36 (triTo (colX (m : Int) (n : Int) xs) i))) rfl (pool_back rfl) rfl) ?_
    refine yN (To.freeze 8 (fun _ h => h) rfl frz_som rfl) ?_
    refine zF (J_JO ?_)
    refine JO_split 2 rfl ?_
    refine (JO_reg (.n (zA (.t rfl))<|.r 7 (yI 7 ag79 (.t rfl) rfl zJ rfl rfl)<|.nil) rfl fun g12 => ⟨_, _, [0, 1, 2, 3, 4, 5, 7], rfl, (.k 1 rfl<|.k 2 rfl<|.k 3 rfl<|.k 5 rfl<|.k 7 rfl<|.k 8 rfl<|.k 31 rfl<|.k 32 rfl<|.k 42 rfl<|.k 43 rfl<|.nil), (.k 0 rfl<|.k 1 rfl<|.k 2 rfl<|.k 3 rfl<|.k 4 rfl<|.k 5 rfl<|.k 7 rfl<|.nil), ?_⟩)
    refine JN_to (To.slot 43 rfl (q := aggp (glsU (glsAt (colX (m : Int) (n : Int) xs) i))) (sb_agg (.cons (sb_fk 0 rfl)<|.cons zL<|.cons zL<|.nil))) ?_
    refine JN_seg ?_
    refine (JO_reg (.n (op_buildSlice sl100 zr79 rfl rfl rfl rfl (.cons rfl (.t rfl) yL rfl (yU rfl (Nat.le_of_ble_eq_true rfl)) .nil))<|.w 0 (op_append_k (glsAt (colX (m : Int) (n : Int) xs) i) 0 sl100 zr79 rfl rfl (.t rfl) (.t rfl) rfl (by rw [hgll]; omega) (by rw [hgll]; omega))<|.n (yX rfl rfl)<|.nil) rfl fun g13 => ⟨_, _, [0, 1, 2, 3, 4, 5, 6], rfl, (.k 1 rfl<|.k 2 rfl<|.k 3 rfl<|.k 5 rfl<|.k 6 rfl<|.k 7 rfl<|.k 8 rfl<|.k 31 rfl<|.k 32 rfl<|.nil), (.k 0 rfl<|.k 1 rfl<|.k 2 rfl<|.k 3 rfl<|.k 4 rfl<|.k 5 rfl<|.k 6 rfl<|.nil), ?_⟩)
    refine zC<|zF<|zF (zG [] (.n (zA (.t rfl))<|.n (yK (.t rfl) (.k rfl) (zO (by omega) (by omega)))<|.n (zB (.t rfl))<|.nil) ff rfl fun g14 => ⟨_, _, [0, 1, 2, 3, 4, 5, 6], rfl, (.k 1 rfl<|.k 2 rfl<|.k 3 rfl<|.k 5 rfl<|.k 6 rfl<|.k 7 rfl<|.k 8 rfl<|.k 9 rfl<|.k 31 rfl<|.k 32 rfl<|.nil), (.k 0 rfl<|.k 1 rfl<|.k 2 rfl<|.k 3 rfl<|.k 4 rfl<|.k 5 rfl<|.k 6 rfl<|.nil), ?_⟩)
    refine zC<|zT<|J_loopc (α := Nat) (fun k => i + 1 ≤ k ∧ k ≤ n ∧ ∀ j, i < j → j < k → (mirW (gls (triTo (colX (m : Int) (n : Int) xs) i) i) i (triTo (colX (m : Int) (n : Int) xs) i j)).all finB = true) (fun k => n - k) (fun k restR => (9, isv (.int .i64 (k : Int))) :: restR) (fun k restS => pool n (poolX vs0 36 (midF (triTo (colX (m : Int) (n : Int) xs) i) i k)) :: restS) (ρc := [(1, _), (2, _), (3, _), (5, _), (6, _), (7, _), (8, _), (31, _), (32, _)]) (σc := [_, _, _, _, _, _]) (i + 1) (by exact ⟨Nat.le_refl _, by omega, fun j h1 h2 => by omega⟩) (To.pick (fun _ => .sub (t := 9) rfl (yO (by rfl))<|.k 1 rfl<|.k 2 rfl<|.k 3 rfl<|.k 5 rfl<|.k 6 rfl<|.k 7 rfl<|.k 8 rfl<|.k 31 rfl<|.k 32 rfl<|.nil) (fun _ => .sub 1 rfl ((pool_mid0))<|.k 0 rfl<|.k 2 rfl<|.k 3 rfl<|.k 4 rfl<|.k 5 rfl<|.k 6 rfl<|.nil) (ks := [1, 0, 2, 3, 4, 5, 6]) rfl) (fun k hK => ?_)
    refine zF<|zF (zG [] (.n (zA (.t rfl))<|.n (zI fd28_1 (.t rfl) rfl)<|.r 2 (zN 2 sc3 (.t rfl) rfl zJ rfl)<|.n (yB (by simp) (.t rfl) (.t rfl) rfl)<|.nil) ff rfl fun g15 => ⟨_, _, [0, 1, 2, 3, 4, 5, 6], rfl, (.k 1 rfl<|.k 2 rfl<|.k 3 rfl<|.k 5 rfl<|.k 6 rfl<|.k 7 rfl<|.k 8 rfl<|.k 9 rfl<|.k 31 rfl<|.k 32 rfl<|.k 51 rfl<|.nil), (.k 0 rfl<|.k 1 rfl<|.k 2 rfl<|.k 3 rfl<|.k 4 rfl<|.k 5 rfl<|.k 6 rfl<|.nil), ?_⟩)
    refine zC<|zH (zK (.t rfl)) (fun h4 => ?_) (fun h4 => ?_)
    ·try simp only [cmpB, Z] at h4
     have hlk := hT.hl k (by omega)
     have hvk : (houseL ((triTo (colX (m : Int) (n : Int) xs) i i).drop i)).v.length = (triTo (colX (m : Int) (n : Int) xs) i k).length - i := by rw [length_houseL, List.length_drop, hli, hlk]
     refine yE<|zC<|zF<|zT<|yN (To.emps 1) ?_
     refine yN (To.focus 0 7 k (by omega) rfl rfl rfl rfl) ?_
     refine yN (To.res 7 (r' := som (vs0.getD k NILV) flp (triTo (colX (m : Int) (n : Int) xs) i k) 36) rfl (yQ (by show som _ flp _ _ = _; rw [mid_at (by omega)])) rfl) ?_
     refine zF (zG [[], [], [], [1, 2], [1, 2, 3], [], [1, 2, 3, 4, 5], [0, 1, 2, 3, 4, 5, 6]] (.r 6 (yI 6 ag79 (.t rfl) rfl zJ rfl rfl)<|.n (zA (.t rfl))<|.n (zA (.t rfl))<|.r 5 (yH 5 sl76 (.t rfl) (.t rfl) rfl (by omega) (by omega))<|.r 5 ((op_get_som (mk := isv) (.slice none 0 0) 5 sc26 (.t rfl) rfl (by omega)).sub rfl (isv_eq (by exact rfl)))<|.n (zA (.t rfl))<|.r 7 (op_slice_vsl 7 sl26 (.t rfl) (.t rfl) rfl (by omega) (by omega))<|.w 7 (op_callM 7 (mirror_ok (i := i) (xs := triTo (colX (m : Int) (n : Int) xs) i k) (v := (houseL ((triTo (colX (m : Int) (n : Int) xs) i i).drop i)).v) (by omega) hvk (by omega)) ⟨(Lk.sub (sb_agg (.cons (sb_fk 0 rfl)<|.cons zL<|.cons zL<|.nil)) (.t rfl)), (.t rfl),  trivial⟩ rfl)<|.nil) (fun _ => mixed) rfl fun g16 => ⟨_, _, [0, 1, 2, 3, 4, 5, 6, 7], rfl, (.k 1 rfl<|.k 2 rfl<|.k 3 rfl<|.k 5 rfl<|.k 6 rfl<|.k 7 rfl<|.k 8 rfl<|.k 9 rfl<|.k 31 rfl<|.k 32 rfl<|.nil), (.k 0 rfl<|.k 1 rfl<|.k 2 rfl<|.k 3 rfl<|.k 4 rfl<|.k 5 rfl<|.k 6 rfl<|.k 7 rfl<|.nil), ?_⟩)
     refine zC<|zF (zG [] (.n (zA (.t rfl))<|.n (zA (.t rfl))<|.r 5 (yH 5 sl76 (.t rfl) (.t rfl) rfl (by omega) (by omega))<|.r 5 ((op_get_som (mk := isv) (.slice none 0 0) 5 sc26 (.t rfl) rfl (by omega)).sub rfl (isv_eq (by exact rfl)))<|.r 7 (op_callB0 7 (finite_ok (xs := mirW (gls (triTo (colX (m : Int) (n : Int) xs) i) i) i (triTo (colX (m : Int) (n : Int) xs) i k))) (pure_isv _) (.t rfl) rfl)<|.n (op_not (.t rfl))<|.nil) ff rfl fun g17 => ⟨_, _, [0, 1, 2, 3, 4, 5, 6, 7], rfl, (.k 1 rfl<|.k 2 rfl<|.k 3 rfl<|.k 5 rfl<|.k 6 rfl<|.k 7 rfl<|.k 8 rfl<|.k 9 rfl<|.k 31 rfl<|.k 32 rfl<|.k 67 rfl<|.nil), (.k 0 rfl<|.k 1 rfl<|.k 2 rfl<|.k 3 rfl<|.k 4 rfl<|.k 5 rfl<|.k 6 rfl<|.k 7 rfl<|.nil), ?_⟩)
     refine zC<|zH (zK (.t rfl)) (fun h5 => ?_) (fun h5 => ?_)
     ·try simp only [cmpB, Z] at h5
      refine zF (zG [[], [], [0], [0, 1, 2], [0, 1, 2, 3]] (.r 3 (yI 3 ag28 (.t rfl) rfl zJ rfl rfl)<|.r 4 (yI 4 ag28 (.t rfl) rfl zJ rfl rfl)<|.w 3 (yM 3 (.t rfl) (.t rfl) yL sz28 rfl rfl rfl)<|.w 4 (yM 4 (.t rfl) (.t rfl) yL sz28 rfl rfl rfl)<|.n (zB (.k rfl))<|.nil) (fun _ => mixed) rfl fun g18 => ⟨_, _, [0, 1, 3, 4, 5, 7], rfl, (.k 2 rfl<|.k 3 rfl<|.k 4 rfl<|.nil), (.k 0 rfl<|.k 1 rfl<|.k 3 rfl<|.k 4 rfl<|.k 5 rfl<|.k 7 rfl<|.nil), ?_⟩)
      refine zC<|yF<|yP<|zD<|zD<|yP<|zD<|yP<|zD<|zD<|yP<|zD<|zQ (.cons (.ag 2 (.t rfl) ag28 rfl rfl rfl)<|.cons (.ag 3 (.t rfl) ag28 rfl rfl rfl)<|.cons (.tmp (.t rfl))<|.nil) (zM (sb_res (.cons (sb_agg (.cons zL<|.cons zL<|.cons (sb_nil (mk := flp))<|.nil))<|.cons (sb_agg (.cons zL<|.cons zL<|.cons (sb_nil (mk := flp))<|.nil))<|.cons zL<|.nil)) ?_)
      exact sb_eq (by rw [qrM_3 hz hrc rfl (show i < n by omega) (over_1 (i := i) (k := k) (by omega) (by omega) (by simpa using h5))]; rfl)
     ·try simp only [cmpB, Z] at h5
      have hfk : (mirW (gls (triTo (colX (m : Int) (n : Int) xs) i) i) i (triTo (colX (m : Int) (n : Int) xs) i k)).all finB = true := by simpa using h5
      refine yE<|zR<|zC<|yN (To.unfocus 0 7 k (by omega) rfl rfl rfl rfl) ?_
      refine yN (To.res 0 (r' := pool n (poolX vs0 36 (midF (triTo (colX (m : Int) (n : Int) xs) i) i (k + 1)))) rfl (pool_mid (by omega) rfl) rfl) ?_
      refine (zG [] (.n (zA (.t rfl))<|.n (yK (.t rfl) (.k rfl) (zO (by omega) (by omega)))<|.n (zB (.t rfl))<|.nil) ff rfl fun g19 => ⟨_, _, [0, 1, 2, 3, 4, 5, 6], rfl, (.k 1 rfl<|.k 2 rfl<|.k 3 rfl<|.k 5 rfl<|.k 6 rfl<|.k 7 rfl<|.k 8 rfl<|.k 9 rfl<|.k 31 rfl<|.k 32 rfl<|.nil), (.k 0 rfl<|.k 1 rfl<|.k 2 rfl<|.k 3 rfl<|.k 4 rfl<|.k 5 rfl<|.k 6 rfl<|.nil), ?_⟩)
      exact yW (k + 1) (by exact ⟨by omega, by omega, fun j h1 h2 => if e : j = k then e ▸ hfk else hK.2.2 j h1 (by omega)⟩) (by omega) (To.pick (fun _ => .sub (t := 9) rfl (yO (by rfl))<|.k 1 rfl<|.k 2 rfl<|.k 3 rfl<|.k 5 rfl<|.k 6 rfl<|.k 7 rfl<|.k 8 rfl<|.k 31 rfl<|.k 32 rfl<|.nil) (fun _ => .sub 0 rfl ((fun _ _ h => h))<|.k 1 rfl<|.k 2 rfl<|.k 3 rfl<|.k 4 rfl<|.k 5 rfl<|.k 6 rfl<|.nil) (ks := [0, 1, 2, 3, 4, 5, 6]) rfl)
    ·try simp only [cmpB, Z] at h4
     have hkn : k = n := by omega
     have hcl : (List.take ((i : Int)).toNat (triTo (colX (m : Int) (n : Int) xs) i i) ++ List.replicate ((triTo (colX (m : Int) (n : Int) xs) i i).length - ((i : Int)).toNat) 0).length = (triTo (colX (m : Int) (n : Int) xs) i i).length := length_clrR
     refine J_exit ?_
     refine zE<|zE<|zS<|zC<|yN (To.emps 1) ?_
     refine yN (To.focus 0 7 i (by omega) rfl rfl rfl rfl) ?_
     refine yN (To.res 7 (r' := som (vs0.getD i NILV) flp (triTo (colX (m : Int) (n : Int) xs) i i) 36) rfl (yQ (by show som _ flp _ _ = _; rw [mid_at (by omega)])) rfl) ?_
     refine zF (zG [] (.n (zA (.t rfl))<|.n (zA (.t rfl))<|.r 5 (yH 5 sl76 (.t rfl) (.t rfl) rfl (by omega) (by omega))<|.r 5 ((op_get_som (mk := isv) (.slice none 0 0) 5 sc26 (.t rfl) rfl (by omega)).sub rfl (isv_eq (by exact rfl)))<|.n (zA (.t rfl))<|.r 7 (op_slice_vsl 7 sl26 (.t rfl) (.t rfl) rfl (by omega) (by omega))<|.w 7 (op_clear_vsl 0 7 sl26 zr36 rfl (fun _ => flp_zero) (.t rfl) rfl (by omega))<|.nil) ff rfl fun g20 => ⟨_, _, [0, 1, 2, 3, 4, 5, 6, 7], rfl, (.k 1 rfl<|.k 2 rfl<|.k 3 rfl<|.k 5 rfl<|.k 6 rfl<|.k 7 rfl<|.k 8 rfl<|.k 31 rfl<|.k 32 rfl<|.nil), (.k 0 rfl<|.k 1 rfl<|.k 2 rfl<|.k 3 rfl<|.k 4 rfl<|.k 5 rfl<|.k 6 rfl<|.k 7 rfl<|.nil), ?_⟩)
     refine zC<|zF (zG [[], [], [0, 1], [0, 1, 2], [], [], [5], [0, 1, 2, 3, 4, 5, 6], [0, 1, 2, 3, 4, 5, 6, 7]] (.n (zA (.t rfl))<|.n (zA (.t rfl))<|.r 5 (yH 5 sl76 (.t rfl) (.t rfl) rfl (by omega) (by omega))<|.r 5 ((op_get_som (mk := isv) (.slice none 0 0) 5 sc26 (.t rfl) rfl (by omega)).sub rfl (isv_eq (by exact rfl)))<|.n (zA (.t rfl))<|.n (zI fd79_2 (.t rfl) rfl)<|.r 6 (zN 6 sc36 (.t rfl) rfl zJ rfl)<|.r 7 (yH 7 sl26 (.t rfl) (.t rfl) rfl (by omega) (by omega))<|.w 7 (op_store_som 7 (.t rfl) (.t rfl) co_flp sz36 rfl (by omega))<|.nil) (fun _ => mixed) rfl fun g21 => ⟨_, _, [0, 1, 2, 3, 4, 5, 6, 7], rfl, (.k 1 rfl<|.k 2 rfl<|.k 3 rfl<|.k 5 rfl<|.k 6 rfl<|.k 8 rfl<|.k 31 rfl<|.k 32 rfl<|.nil), (.k 0 rfl<|.k 1 rfl<|.k 2 rfl<|.k 3 rfl<|.k 4 rfl<|.k 5 rfl<|.k 6 rfl<|.k 7 rfl<|.nil), ?_⟩)
     refine zC<|zF (zG [] (.n (zI fd79_2 (.t rfl) rfl)<|.r 6 (zN 6 sc36 (.t rfl) rfl zJ rfl)<|.n (zP (qfin_ok) ⟨(.t rfl),  trivial⟩)<|.n (op_not (.t rfl))<|.nil) ff rfl fun g22 => ⟨_, _, [0, 1, 2, 3, 4, 5, 7], rfl, (.k 1 rfl<|.k 2 rfl<|.k 3 rfl<|.k 5 rfl<|.k 6 rfl<|.k 31 rfl<|.k 32 rfl<|.k 87 rfl<|.nil), (.k 0 rfl<|.k 1 rfl<|.k 2 rfl<|.k 3 rfl<|.k 4 rfl<|.k 5 rfl<|.k 7 rfl<|.nil), ?_⟩)
     refine zC<|zH (zK (.t rfl)) (fun h6 => ?_) (fun h6 => ?_)
     ·try simp only [cmpB, Z] at h6
      refine zF (zG [[], [], [0], [0, 1, 2], [0, 1, 2, 3]] (.r 3 (yI 3 ag28 (.t rfl) rfl zJ rfl rfl)<|.r 4 (yI 4 ag28 (.t rfl) rfl zJ rfl rfl)<|.w 3 (yM 3 (.t rfl) (.t rfl) yL sz28 rfl rfl rfl)<|.w 4 (yM 4 (.t rfl) (.t rfl) yL sz28 rfl rfl rfl)<|.n (zB (.k rfl))<|.nil) (fun _ => mixed) rfl fun g23 => ⟨_, _, [0, 1, 3, 4, 5, 6], rfl, (.k 2 rfl<|.k 3 rfl<|.k 4 rfl<|.nil), (.k 0 rfl<|.k 1 rfl<|.k 3 rfl<|.k 4 rfl<|.k 5 rfl<|.k 6 rfl<|.nil), ?_⟩)
      refine zC<|yF<|yP<|zD<|zD<|yP<|zD<|zQ (.cons (.ag 2 (.t rfl) ag28 rfl rfl rfl)<|.cons (.ag 3 (.t rfl) ag28 rfl rfl rfl)<|.cons (.tmp (.t rfl))<|.nil) (zM (sb_res (.cons (sb_agg (.cons zL<|.cons zL<|.cons (sb_nil (mk := flp))<|.nil))<|.cons (sb_agg (.cons zL<|.cons zL<|.cons (sb_nil (mk := flp))<|.nil))<|.cons zL<|.nil)) ?_)
      exact sb_eq (by rw [qrM_3 hz hrc rfl (show i < n by omega) (over_2 (i := i) (show finQ (houseL ((triTo (colX (m : Int) (n : Int) xs) i i).drop i)).alpha = false by simpa using h6))]; rfl)
     ·try simp only [cmpB, Z] at h6
      have ha : finQ (houseL ((triTo (colX (m : Int) (n : Int) xs) i i).drop i)).alpha = true := by simpa using h6
      refine yE<|zR<|zC<|yN (To.unfocus 0 6 i (by omega) rfl rfl rfl rfl) ?_
      refine yN (To.res 0 (r' := pool n (poolX vs0 36 (endF (triTo (colX (m : Int) (n : Int) xs) i) i))) rfl (pool_end (by omega) rfl) rfl) ?_
      refine (zG [] (.n (yK (.t rfl) (.k rfl) (zO (by omega) (by omega)))<|.n (zA (.t rfl))<|.nil) ff rfl fun g24 => ⟨_, _, [0, 1, 2, 3, 4, 5], rfl, (.k 1 rfl<|.k 2 rfl<|.k 3 rfl<|.k 5 rfl<|.k 6 rfl<|.k 31 rfl<|.k 32 rfl<|.nil), (.k 0 rfl<|.k 1 rfl<|.k 2 rfl<|.k 3 rfl<|.k 4 rfl<|.k 5 rfl<|.nil), ?_⟩)
      refine JN_to To.fdrop ?_
      exact yW (i + 1, (g13 45)) (by exact ⟨show i + 1 ≤ n by omega, triI_step hT (fun j h1 h2 => hK.2.2 j h1 (by omega)) ha⟩) (by show n - (_ + 1) < _; omega) (To.pick (fun _ => .sub (t := 32) rfl (yO (by rfl))<|.sub (t := 6) rfl (yO (by rfl))<|.k 1 rfl<|.k 2 rfl<|.k 3 rfl<|.k 5 rfl<|.k 31 rfl<|.nil) (fun _ => .sub 1 rfl ((yQ (by rw [glsTo_succ])))<|.sub 0 rfl ((fun _ _ h => h))<|.k 2 rfl<|.k 3 rfl<|.k 4 rfl<|.k 5 rfl<|.nil) (ks := [1, 0, 2, 3, 4, 5]) rfl)
   ·try simp only [cmpB, Z] at h3
    have hin : i = n := by omega
    have hTn := hI.2
    rw [hin] at hTn
    refine J_exit ?_
    refine zE<|zE<|zS<|zC<|yN (To.res 1 (r' := pool n (poolX vs0 36 (triTo (colX (m : Int) (n : Int) xs) n))) rfl (yQ (by rw [hin])) rfl) ?_
    refine yN (To.freeze 0 (fun _ h => h) rfl frz_somk rfl) ?_
    refine yN (To.slot 6 rfl (q := slk 3 glsU (glsTo (colX (m : Int) (n : Int) xs) n)) (zM (sb_fk 0 rfl) (sb_eq (by rw [hin])))) ?_
    refine yN (To.emps 1) ?_
    refine zF (zG [] (.n (zI fd28_1 (.t rfl) rfl)<|.r 2 (zN 2 sc3 (.t rfl) rfl zJ rfl)<|.w 0 (op_make_m (mk := isv) (.slice none 0 0) 0 sl76 zr26 rfl (fun _ => ⟨rfl, rfl⟩) (.t rfl) (.t rfl) (by omega) (by omega) (by omega) (by omega) rfl)<|.n (yX rfl rfl)<|.nil) ff rfl fun g25 => ⟨_, _, [0, 1, 2, 3, 4, 5], rfl, (.k 1 rfl<|.k 2 rfl<|.k 3 rfl<|.k 5 rfl<|.k 6 rfl<|.k 10 rfl<|.nil), (.k 0 rfl<|.k 1 rfl<|.k 2 rfl<|.k 3 rfl<|.k 4 rfl<|.k 5 rfl<|.nil), ?_⟩)
    refine zC<|zF<|yN (To.emps 1) ?_
    refine yN (To.res 6 (r' := pool 0 (fun _ => Go.Bn.emp)) rfl pool_nil rfl) ?_
    refine zF (zG [] (.n (zI fd28_1 (.t rfl) rfl)<|.r 2 (zN 2 sc3 (.t rfl) rfl zJ rfl)<|.n (zA (.k rfl))<|.nil) ff rfl fun g26 => ⟨_, _, [0, 1, 2, 3, 4, 5, 6], rfl, (.k 1 rfl<|.k 2 rfl<|.k 3 rfl<|.k 5 rfl<|.k 6 rfl<|.k 10 rfl<|.k 95 rfl<|.k 96 rfl<|.nil), (.k 0 rfl<|.k 1 rfl<|.k 2 rfl<|.k 3 rfl<|.k 4 rfl<|.k 5 rfl<|.k 6 rfl<|.nil), ?_⟩)
    refine zC<|zT<|J_loopc (α := Nat × List Value) (fun x => x.1 ≤ n ∧ x.2.length = n) (fun x => n - x.1) (fun x restR => (96, isv (.int .i64 (x.1 : Int))) :: restR) (fun x restS => som (g25 93) isv x.2 26 :: pool x.1 (fun q => som (x.2.getD q NILV) flp (turnP (glsAt (colX (m : Int) (n : Int) xs)) m n q n) 36) :: restS) (ρc := [(1, _), (2, _), (3, _), (5, _), (6, _), (10, _), (95, _)]) (σc := [_, _, _, _, _]) (0, List.replicate n NILV) (by exact ⟨Nat.zero_le _, by simp⟩) (To.pick (fun _ => .sub (t := 96) rfl (yO (by rfl))<|.k 1 rfl<|.k 2 rfl<|.k 3 rfl<|.k 5 rfl<|.k 6 rfl<|.k 10 rfl<|.k 95 rfl<|.nil) (fun _ => .sub 0 rfl ((fun _ _ h => h))<|.sub 6 rfl ((pool_congr fun j hj => absurd hj (Nat.not_lt_zero j)))<|.k 1 rfl<|.k 2 rfl<|.k 3 rfl<|.k 4 rfl<|.k 5 rfl<|.nil) (ks := [0, 6, 1, 2, 3, 4, 5]) rfl) (fun x hI3 => ?_)
    obtain ⟨j, us⟩ := x
    try simp only at hI3
    show J _ _ ((96, isv (.int .i64 (j : Int))) :: _) (som (g25 93) isv us 26 :: pool j (fun q => som (us.getD q NILV) flp (turnP (glsAt (colX (m : Int) (n : Int) xs)) m n q n) 36) :: _) _ _
    have hus : us.length = n := hI3.2
    refine zF (zG [] (.n (yB (by simp) (.t rfl) (.t rfl) rfl)<|.nil) ff rfl fun g27 => ⟨_, _, [0, 1, 2, 3, 4, 5, 6], rfl, (.k 1 rfl<|.k 2 rfl<|.k 3 rfl<|.k 5 rfl<|.k 6 rfl<|.k 10 rfl<|.k 95 rfl<|.k 96 rfl<|.k 97 rfl<|.nil), (.k 0 rfl<|.k 1 rfl<|.k 2 rfl<|.k 3 rfl<|.k 4 rfl<|.k 5 rfl<|.k 6 rfl<|.nil), ?_⟩)
    refine zC<|zF<|zH (zK (.t rfl)) (fun h7 => ?_) (fun h7 => ?_)
    ·try simp only [cmpB, Z] at h7
     have hjn1 : j < n := by omega
     have hul : (us.set j NILV).length = n := by rw [List.length_set]; exact hus
     refine yE<|zC<|zF<|zT<|zF (zG [] (.n (zA (.t rfl))<|.n (zB (.t rfl))<|.nil) ff rfl fun g28 => ⟨_, _, [0, 1, 2, 3, 4, 5, 6], rfl, (.k 1 rfl<|.k 2 rfl<|.k 3 rfl<|.k 5 rfl<|.k 6 rfl<|.k 10 rfl<|.k 11 rfl<|.k 95 rfl<|.k 96 rfl<|.nil), (.k 0 rfl<|.k 1 rfl<|.k 2 rfl<|.k 3 rfl<|.k 4 rfl<|.k 5 rfl<|.k 6 rfl<|.nil), ?_⟩)
     refine zC<|yN (To.emps 1) ?_
     refine zF (zG [] (.n (zA (.t rfl))<|.n (zA (.t rfl))<|.n (zI fd28_0 (.t rfl) rfl)<|.r 3 (zN 3 sc3 (.t rfl) rfl zJ rfl)<|.w 7 (op_make_m (mk := flp) 0 7 sl26 zr36 rfl (fun _ => flp_zero) (.t rfl) (.t rfl) (by omega) (by omega) (by omega) (by omega) rfl)<|.r 0 (yH 0 sl76 (.t rfl) (.t rfl) rfl (by omega) (by omega))<|.w 0 (op_ver 103 rfl rfl (fun f => op_store_som (mk := isv) 0 (.t rfl) (.t rfl) co_isv sz26 rfl (by omega)) (fun f g h => by rw [h 103 (show 103 ∈ [103] from by decide)]) rfl)<|.nil) ff rfl fun g29 => ⟨_, _, [0, 1, 2, 3, 4, 5, 6, 7], rfl, (.k 1 rfl<|.k 2 rfl<|.k 3 rfl<|.k 5 rfl<|.k 6 rfl<|.k 10 rfl<|.k 11 rfl<|.k 95 rfl<|.k 96 rfl<|.nil), (.k 0 rfl<|.k 1 rfl<|.k 2 rfl<|.k 3 rfl<|.k 4 rfl<|.k 5 rfl<|.k 6 rfl<|.k 7 rfl<|.nil), ?_⟩)
     refine zC ?_
     have hul2 : (us.set ((j : Nat) : Int).toNat (g29 103)).length = n := by rw [List.length_set]; exact hus
     have hrp : (List.replicate ((m : Int)).toNat 0).length = m := by simp
     refine zF (zG [] (.n (zA (.t rfl))<|.n (zA (.t rfl))<|.r 0 (yH 0 sl76 (.t rfl) (.t rfl) rfl (by omega) (by omega))<|.r 0 ((op_get_som (mk := isv) (.slice none 0 0) 0 sc26 (.t rfl) rfl (by rw [List.length_set]; omega)).sub rfl (isv_eq (by exact vset_at (by omega))))<|.n (zA (.t rfl))<|.r 7 (yH 7 sl26 (.t rfl) (.t rfl) rfl (by omega) (by omega))<|.w 7 (op_store_som 7 (.t rfl) (Lk.fk rfl (by decide +kernel)) co_flp sz36 rfl (by omega))<|.nil) ff rfl fun g30 => ⟨_, _, [0, 1, 2, 3, 4, 5, 6, 7], rfl, (.k 1 rfl<|.k 2 rfl<|.k 3 rfl<|.k 5 rfl<|.k 6 rfl<|.k 10 rfl<|.k 11 rfl<|.k 95 rfl<|.k 96 rfl<|.nil), (.k 0 rfl<|.k 1 rfl<|.k 2 rfl<|.k 3 rfl<|.k 4 rfl<|.k 5 rfl<|.k 6 rfl<|.k 7 rfl<|.nil), ?_⟩)
     refine zC<|zF (zG [] (.n (zI fd28_1 (.t rfl) rfl)<|.r 3 (zN 3 sc3 (.t rfl) rfl zJ rfl)<|.n (op_sub (.t rfl) (.k rfl) (zO (by omega) (by omega)))<|.n (zB (.t rfl))<|.nil) ff rfl fun g31 => ⟨_, _, [0, 1, 2, 3, 4, 5, 6, 7], rfl, (.k 1 rfl<|.k 2 rfl<|.k 3 rfl<|.k 5 rfl<|.k 6 rfl<|.k 10 rfl<|.k 11 rfl<|.k 12 rfl<|.k 95 rfl<|.k 96 rfl<|.nil), (.k 0 rfl<|.k 1 rfl<|.k 2 rfl<|.k 3 rfl<|.k 4 rfl<|.k 5 rfl<|.k 6 rfl<|.k 7 rfl<|.nil), ?_⟩)
     refine zC<|zT<|J_loopc (α := Nat) (fun d => d ≤ n) (fun d => n - d) (fun d restR => (12, isv (.int .i64 ((n : Int) - 1 - (d : Int)))) :: restR) (fun d restS => som (g29 103) flp (turnP (glsAt (colX (m : Int) (n : Int) xs)) m n j d) 36 :: restS) (ρc := [(1, _), (2, _), (3, _), (5, _), (6, _), (10, _), (11, _), (95, _), (96, _)]) (σc := [_, _, _, _, _, _, _]) 0 (by exact Nat.zero_le _) (To.pick (fun _ => .sub (t := 12) rfl (yO (by exact congrArg (fun z => isv (.int .i64 z)) (by omega)))<|.k 1 rfl<|.k 2 rfl<|.k 3 rfl<|.k 5 rfl<|.k 6 rfl<|.k 10 rfl<|.k 11 rfl<|.k 95 rfl<|.k 96 rfl<|.nil) (fun _ => .sub 7 rfl ((fun _ _ h => h))<|.k 0 rfl<|.k 1 rfl<|.k 2 rfl<|.k 3 rfl<|.k 4 rfl<|.k 5 rfl<|.k 6 rfl<|.nil) (ks := [7, 0, 1, 2, 3, 4, 5, 6]) rfl) (fun d hI4 => ?_)
     refine zF<|zF (zG [] (.n (zA (.t rfl))<|.n (yB (by simp) (.t rfl) (.k rfl) rfl)<|.nil) ff rfl fun g32 => ⟨_, _, [0, 1, 2, 3, 4, 5, 6, 7], rfl, (.k 1 rfl<|.k 2 rfl<|.k 3 rfl<|.k 5 rfl<|.k 6 rfl<|.k 10 rfl<|.k 11 rfl<|.k 12 rfl<|.k 95 rfl<|.k 96 rfl<|.k 115 rfl<|.nil), (.k 0 rfl<|.k 1 rfl<|.k 2 rfl<|.k 3 rfl<|.k 4 rfl<|.k 5 rfl<|.k 6 rfl<|.k 7 rfl<|.nil), ?_⟩)
     refine zC<|zH (zK (.t rfl)) (fun h8 => ?_) (fun h8 => ?_)
     ·try simp only [cmpB, Z] at h8
      have hkt : ((n : Int) - 1 - (d : Int)).toNat = n - 1 - d := by omega
      have hgl : (glsTo (colX (m : Int) (n : Int) xs) n).getD ((n : Int) - 1 - (d : Int)).toNat glsD = glsAt (colX (m : Int) (n : Int) xs) (n - 1 - d) := by rw [hkt]; exact glsTo_at (by omega)
      have htl := length_turnP (glsAt (colX (m : Int) (n : Int) xs)) m n j d
      have hvk : ((glsTo (colX (m : Int) (n : Int) xs) n).getD ((n : Int) - 1 - (d : Int)).toNat glsD).v.length = (turnP (glsAt (colX (m : Int) (n : Int) xs)) m n j d).length - ((n : Int) - 1 - (d : Int)).toNat := by rw [hgl, hkt, htl]; exact glsAt_len hX0 (by omega)
      have hgll := length_glsTo (colX (m : Int) (n : Int) xs) n
      refine yE<|zC<|zF<|zT<|(zG [[], [], [0, 1], [0, 1, 2], [], [], [4, 5], [4, 5, 6], [], [4, 5, 6, 7, 8], [0, 1, 2, 3, 4, 5, 6, 7, 8, 9]] (.n (zA (.t rfl))<|.n (zA (.t rfl))<|.n (op_index_sk (mk := glsU) glsD sl100 glsU_len (.t rfl) (.t rfl) (by omega) (by omega))<|.n (op_load_ag ag79 (.t rfl) rfl rfl)<|.n (zA (.t rfl))<|.n (zA (.t rfl))<|.r 1 (yH 1 sl76 (.t rfl) (.t rfl) rfl (by omega) (by omega))<|.r 1 ((op_get_som (mk := isv) (.slice none 0 0) 1 sc26 (.t rfl) rfl (by rw [List.length_set]; omega)).sub rfl (isv_eq (by exact vset_at (by omega))))<|.n (zA (.t rfl))<|.r 0 (op_slice_vsl 0 sl26 (.t rfl) (.t rfl) rfl (by omega) (by omega))<|.w 0 (op_callM 0 (mirror_ok (i := ((n : Int) - 1 - (d : Int)).toNat) (xs := turnP (glsAt (colX (m : Int) (n : Int) xs)) m n j d) (v := ((glsTo (colX (m : Int) (n : Int) xs) n).getD ((n : Int) - 1 - (d : Int)).toNat glsD).v) (by rw [htl]; omega) hvk (by rw [htl]; omega)) ⟨(.t rfl), (.t rfl),  trivial⟩ rfl)<|.nil) (fun _ => mixed) rfl fun g33 => ⟨_, _, [0, 1, 2, 3, 4, 5, 6, 7], rfl, (.k 1 rfl<|.k 2 rfl<|.k 3 rfl<|.k 5 rfl<|.k 6 rfl<|.k 10 rfl<|.k 11 rfl<|.k 12 rfl<|.k 95 rfl<|.k 96 rfl<|.nil), (.k 0 rfl<|.k 1 rfl<|.k 2 rfl<|.k 3 rfl<|.k 4 rfl<|.k 5 rfl<|.k 6 rfl<|.k 7 rfl<|.nil), ?_⟩)
      refine zR<|zC<|(zG [] (.n (zA (.t rfl))<|.n (op_sub (.t rfl) (.k rfl) (zO (by omega) (by omega)))<|.n (zB (.t rfl))<|.nil) ff rfl fun g34 => ⟨_, _, [0, 1, 2, 3, 4, 5, 6, 7], rfl, (.k 1 rfl<|.k 2 rfl<|.k 3 rfl<|.k 5 rfl<|.k 6 rfl<|.k 10 rfl<|.k 11 rfl<|.k 12 rfl<|.k 95 rfl<|.k 96 rfl<|.nil), (.k 0 rfl<|.k 1 rfl<|.k 2 rfl<|.k 3 rfl<|.k 4 rfl<|.k 5 rfl<|.k 6 rfl<|.k 7 rfl<|.nil), ?_⟩)
      exact yW (d + 1) (by omega) (by omega) (To.pick (fun _ => .sub (t := 12) rfl (yO (by exact congrArg (fun z => isv (.int .i64 z)) (by omega)))<|.k 1 rfl<|.k 2 rfl<|.k 3 rfl<|.k 5 rfl<|.k 6 rfl<|.k 10 rfl<|.k 11 rfl<|.k 95 rfl<|.k 96 rfl<|.nil) (fun _ => .sub 0 rfl ((yQ (by rw [← turn_step (d := d) hkt hgl])))<|.k 1 rfl<|.k 2 rfl<|.k 3 rfl<|.k 4 rfl<|.k 5 rfl<|.k 6 rfl<|.k 7 rfl<|.nil) (ks := [0, 1, 2, 3, 4, 5, 6, 7]) rfl)
     ·try simp only [cmpB, Z] at h8
      refine J_exit ?_
      refine zE<|zE<|zS<|zR<|zC<|yN (To.res 0 (r' := som (g29 103) flp (turnP (glsAt (colX (m : Int) (n : Int) xs)) m n j n) 36) rfl (yQ (by rw [show d = n by omega])) rfl) ?_
      refine yN (To.push 2 0 rfl rfl rfl rfl) ?_
      refine (zG [] (.n (yK (.t rfl) (.k rfl) (zO (by omega) (by omega)))<|.n (zA (.t rfl))<|.nil) ff rfl fun g35 => ⟨_, _, [1, 2, 3, 4, 5, 6, 7], rfl, (.k 1 rfl<|.k 2 rfl<|.k 3 rfl<|.k 5 rfl<|.k 6 rfl<|.k 10 rfl<|.k 95 rfl<|.k 96 rfl<|.nil), (.k 1 rfl<|.k 2 rfl<|.k 3 rfl<|.k 4 rfl<|.k 5 rfl<|.k 6 rfl<|.k 7 rfl<|.nil), ?_⟩)
      exact yW (j + 1, us.set j (g29 103)) (by exact ⟨show j + 1 ≤ n by omega, by rw [List.length_set]; exact hI3.2⟩) (by show n - (_ + 1) < _; omega) (To.pick (fun _ => .sub (t := 96) rfl (yO (by rfl))<|.k 1 rfl<|.k 2 rfl<|.k 3 rfl<|.k 5 rfl<|.k 6 rfl<|.k 10 rfl<|.k 95 rfl<|.nil) (fun _ => .sub 0 rfl ((fun _ _ h => h))<|.sub 1 rfl ((turn_push (by omega)))<|.k 2 rfl<|.k 3 rfl<|.k 4 rfl<|.k 5 rfl<|.k 6 rfl<|.nil) (ks := [0, 1, 2, 3, 4, 5, 6]) rfl)
    ·try simp only [cmpB, Z] at h7
     have hjn : j = n := by omega
     have hrl1 : ((List.range n).map (triTo (colX (m : Int) (n : Int) xs) n)).length = n := by simp
     have hrl2 : ((List.range n).map (fun q => turnP (glsAt (colX (m : Int) (n : Int) xs)) m n q n)).length = n := by simp
     refine J_exit ?_
     refine zE<|zE<|zS<|zC<|yN (To.join 6 2 rfl rfl rfl rfl) ?_
     refine yN (To.freeze 6 (fun _ h => h) rfl (frz_rows hvs0) rfl) ?_
     refine yN (To.slot 5 rfl (q := slm (slm flp) ((List.range n).map (triTo (colX (m : Int) (n : Int) xs) n))) (sb_fk 0 rfl)) ?_
     refine yN (To.res 1 (r' := pool n (poolX us 36 (fun q => turnP (glsAt (colX (m : Int) (n : Int) xs)) m n q n))) rfl (yQ (by rw [← hjn]; rfl)) rfl) ?_
     refine yN (To.join 0 1 rfl rfl rfl rfl) ?_
     refine yN (To.freeze 0 (fun _ h => h) rfl (frz_rows hus) rfl) ?_
     refine yN (To.slot 10 rfl (q := slm (slm flp) ((List.range n).map ((fun q => turnP (glsAt (colX (m : Int) (n : Int) xs)) m n q n)))) (sb_fk 0 rfl)) ?_
     refine zF (zG [] (.n (zI fd28_0 (.t rfl) rfl)<|.r 3 (zN 3 sc3 (.t rfl) rfl zJ rfl)<|.n (zI fd28_1 (.t rfl) rfl)<|.r 3 (zN 3 sc3 (.t rfl) rfl zJ rfl)<|.n (op_build zr28 rfl pl28 (.cons rfl (.t rfl) co_isv rfl (yU rfl (Nat.le_of_ble_eq_true rfl)) (.cons rfl (.t rfl) co_isv rfl (yU rfl (Nat.le_of_ble_eq_true rfl)) .nil)))<|.w 4 (yM 4 (.t rfl) (.t rfl) yL sz28 rfl rfl rfl)<|.nil) ff rfl fun g36 => ⟨_, _, [3, 4, 5], rfl, (.k 1 rfl<|.k 2 rfl<|.k 3 rfl<|.k 5 rfl<|.k 10 rfl<|.nil), (.k 3 rfl<|.k 4 rfl<|.k 5 rfl<|.nil), ?_⟩)
     refine zC<|zF<|yN (To.emps 1) ?_
     refine yN (To.res 3 (r' := som (.slice none 0 0) flp [] 36) rfl som_nil rfl) ?_
     refine zF (zG [] (.n (zI fd28_0 (.t rfl) rfl)<|.r 0 (zN 0 sc3 (.t rfl) rfl zJ rfl)<|.n (zA (.k rfl))<|.nil) ff rfl fun g37 => ⟨_, _, [0, 1, 2, 3], rfl, (.k 1 rfl<|.k 2 rfl<|.k 3 rfl<|.k 5 rfl<|.k 10 rfl<|.k 136 rfl<|.k 137 rfl<|.nil), (.k 0 rfl<|.k 1 rfl<|.k 2 rfl<|.k 3 rfl<|.nil), ?_⟩)
     refine zC<|zT<|J_loopc (α := Nat × Value) (fun x => x.1 ≤ m) (fun x => m - x.1) (fun x restR => (137, isv (.int .i64 (x.1 : Int))) :: restR) (fun x restS => som x.2 flp ((grid (m : Int) (n : Int) fun a b => FQ (triTo (colX (m : Int) (n : Int) xs) n) (glsAt (colX (m : Int) (n : Int) xs)) m n a.toNat b.toNat).take (x.1 * n)) 36 :: blk (g1 2) [isv (.int .i64 (m : Int)), isv (.int .i64 (n : Int)), isv x.2] 28 :: restS) (ρc := [(1, _), (2, _), (3, _), (5, _), (10, _), (136, _)]) (σc := [_, _]) (0, NILV) (by exact Nat.zero_le _) (To.pick (fun _ => .sub (t := 137) rfl (yO (by rfl))<|.k 1 rfl<|.k 2 rfl<|.k 3 rfl<|.k 5 rfl<|.k 10 rfl<|.k 136 rfl<|.nil) (fun _ => .sub 3 rfl ((yQ (by rw [Nat.zero_mul, List.take_zero])))<|.sub 1 rfl ((fun _ _ h => h))<|.k 0 rfl<|.k 2 rfl<|.nil) (ks := [3, 1, 0, 2]) rfl) (fun x hI => ?_)
     obtain ⟨p, sv⟩ := x
     try simp only at hI
     show J _ _ ((137, isv (.int .i64 (p : Int))) :: _) (som sv flp ((grid (m : Int) (n : Int) fun a b => FQ (triTo (colX (m : Int) (n : Int) xs) n) (glsAt (colX (m : Int) (n : Int) xs)) m n a.toNat b.toNat).take (p * n)) 36 :: blk (g1 2) [isv (.int .i64 (m : Int)), isv (.int .i64 (n : Int)), isv sv] 28 :: _) _ _
     refine zF (zG [] (.n (yB (by simp) (.t rfl) (.t rfl) rfl)<|.nil) ff rfl fun g38 => ⟨_, _, [0, 1, 2, 3], rfl, (.k 1 rfl<|.k 2 rfl<|.k 3 rfl<|.k 5 rfl<|.k 10 rfl<|.k 136 rfl<|.k 137 rfl<|.k 138 rfl<|.nil), (.k 0 rfl<|.k 1 rfl<|.k 2 rfl<|.k 3 rfl<|.nil), ?_⟩)
     refine zC<|zF<|zH (zK (.t rfl)) (fun h9 => ?_) (fun h9 => ?_)
     ·try simp only [cmpB, Z] at h9
      refine yE<|zC<|zF<|zT<|zF (zG [] (.n (zA (.t rfl))<|.n (zB (.t rfl))<|.nil) ff rfl fun g39 => ⟨_, _, [0, 1, 2, 3], rfl, (.k 1 rfl<|.k 2 rfl<|.k 3 rfl<|.k 5 rfl<|.k 10 rfl<|.k 13 rfl<|.k 136 rfl<|.k 137 rfl<|.nil), (.k 0 rfl<|.k 1 rfl<|.k 2 rfl<|.k 3 rfl<|.nil), ?_⟩)
      refine zC<|zF (zG [] (.n (zI fd28_1 (.t rfl) rfl)<|.r 2 (zN 2 sc3 (.t rfl) rfl zJ rfl)<|.n (zA (.k rfl))<|.nil) ff rfl fun g40 => ⟨_, _, [0, 1, 2, 3], rfl, (.k 1 rfl<|.k 2 rfl<|.k 3 rfl<|.k 5 rfl<|.k 10 rfl<|.k 13 rfl<|.k 136 rfl<|.k 137 rfl<|.k 141 rfl<|.k 142 rfl<|.nil), (.k 0 rfl<|.k 1 rfl<|.k 2 rfl<|.k 3 rfl<|.nil), ?_⟩)
      refine zC<|zT<|J_loopc (α := Nat × Value) (fun y => y.1 ≤ n) (fun y => n - y.1) (fun y restR => (142, isv (.int .i64 (y.1 : Int))) :: restR) (fun y restS => som y.2 flp ((grid (m : Int) (n : Int) fun a b => FQ (triTo (colX (m : Int) (n : Int) xs) n) (glsAt (colX (m : Int) (n : Int) xs)) m n a.toNat b.toNat).take (p * n + y.1)) 36 :: blk (g1 2) [isv (.int .i64 (m : Int)), isv (.int .i64 (n : Int)), isv y.2] 28 :: restS) (ρc := [(1, _), (2, _), (3, _), (5, _), (10, _), (13, _), (136, _), (137, _), (141, _)]) (σc := [_, _]) (0, sv) (by exact Nat.zero_le _) (To.pick (fun _ => .sub (t := 142) rfl (yO (by rfl))<|.k 1 rfl<|.k 2 rfl<|.k 3 rfl<|.k 5 rfl<|.k 10 rfl<|.k 13 rfl<|.k 136 rfl<|.k 137 rfl<|.k 141 rfl<|.nil) (fun _ => .sub 0 rfl ((fun _ _ h => h))<|.sub 1 rfl ((fun _ _ h => h))<|.k 2 rfl<|.k 3 rfl<|.nil) (ks := [0, 1, 2, 3]) rfl) (fun y hQ => ?_)
      obtain ⟨q, tv⟩ := y
      try simp only at hQ
      show J _ _ ((142, isv (.int .i64 (q : Int))) :: _) (som tv flp ((grid (m : Int) (n : Int) fun a b => FQ (triTo (colX (m : Int) (n : Int) xs) n) (glsAt (colX (m : Int) (n : Int) xs)) m n a.toNat b.toNat).take (p * n + q)) 36 :: blk (g1 2) [isv (.int .i64 (m : Int)), isv (.int .i64 (n : Int)), isv tv] 28 :: _) _ _
      refine zF (zG [] (.n (yB (by simp) (.t rfl) (.t rfl) rfl)<|.nil) ff rfl fun g41 => ⟨_, _, [0, 1, 2, 3], rfl, (.k 1 rfl<|.k 2 rfl<|.k 3 rfl<|.k 5 rfl<|.k 10 rfl<|.k 13 rfl<|.k 136 rfl<|.k 137 rfl<|.k 141 rfl<|.k 142 rfl<|.k 143 rfl<|.nil), (.k 0 rfl<|.k 1 rfl<|.k 2 rfl<|.k 3 rfl<|.nil), ?_⟩)
      refine zC<|zF<|zH (zK (.t rfl)) (fun h10 => ?_) (fun h10 => ?_)
      ·try simp only [cmpB, Z] at h10
       have hT1 : (((List.range n).map ((fun q => turnP (glsAt (colX (m : Int) (n : Int) xs)) m n q n))).getD ((q : Nat) : Int).toNat []).length = m := by rw [Int.toNat_natCast, map_at (by omega)]; exact length_turnP _ _ _ _ _
       have hT2 : (((List.range n).map (triTo (colX (m : Int) (n : Int) xs) n)).getD ((q : Nat) : Int).toNat []).length = m := by rw [Int.toNat_natCast, map_at (by omega)]; exact hTn.hl q (by omega)
       have htk := take_gridN_le (F := FQ (triTo (colX (m : Int) (n : Int) xs) n) (glsAt (colX (m : Int) (n : Int) xs)) m n) (m := m) (n := n) (k := p * n + q) (by omega) (by omega)
       have hput : flipN ((((List.range n).map ((fun q => turnP (glsAt (colX (m : Int) (n : Int) xs)) m n q n))).getD ((q : Nat) : Int).toNat []).getD ((p : Nat) : Int).toNat 0) ((((List.range n).map (triTo (colX (m : Int) (n : Int) xs) n)).getD ((q : Nat) : Int).toNat []).getD ((q : Nat) : Int).toNat 0) = FQ (triTo (colX (m : Int) (n : Int) xs) n) (glsAt (colX (m : Int) (n : Int) xs)) m n p q := by rw [Int.toNat_natCast, Int.toNat_natCast, map_at (by omega), map_at (by omega)]; rfl
       refine yE<|zC<|zF<|zT<|zF (zG [] (.n (zA (.t rfl))<|.n (zB (.t rfl))<|.nil) ff rfl fun g42 => ⟨_, _, [0, 1, 2, 3], rfl, (.k 1 rfl<|.k 2 rfl<|.k 3 rfl<|.k 5 rfl<|.k 10 rfl<|.k 13 rfl<|.k 14 rfl<|.k 136 rfl<|.k 137 rfl<|.k 141 rfl<|.k 142 rfl<|.nil), (.k 0 rfl<|.k 1 rfl<|.k 2 rfl<|.k 3 rfl<|.nil), ?_⟩)
       refine zC<|(zG [[], [0], [], [], [2, 3], [2, 3, 4], [], [2, 3, 4, 5, 6], [2, 3, 4, 5, 6, 7], [], [], [9, 10], [9, 10, 11], [], [9, 10, 11, 12, 13], [9, 10, 11, 12, 13, 14], [2, 3, 4, 5, 6, 7, 8, 9, 10, 11, 12, 13, 14, 15], [2, 3, 4, 5, 6, 7, 8, 9, 10, 11, 12, 13, 14, 15, 16], [0, 1, 2, 3, 4, 5, 6, 7, 8, 9, 10, 11, 12, 13, 14, 15, 16, 17], [0, 1, 2, 3, 4, 5, 6, 7, 8, 9, 10, 11, 12, 13, 14, 15, 16, 17, 18], [0, 1, 2, 3, 4, 5, 6, 7, 8, 9, 10, 11, 12, 13, 14, 15, 16, 17, 18, 19]] (.n (zI fd28_2 (.t rfl) rfl)<|.r 1 (zN 1 sc26 (.t rfl) rfl zJ rfl)<|.n (zA (.t rfl))<|.n (zA (.t rfl))<|.n (yS [] sl76 (.t rfl) (.t rfl) (by omega) (by omega))<|.n (yC sc26 (.t rfl) rfl)<|.n (zA (.t rfl))<|.n (yS 0 sl26 (.t rfl) (.t rfl) (by omega) (by omega))<|.n (yC sc36 (.t rfl) rfl)<|.n (zA (.t rfl))<|.n (zA (.t rfl))<|.n (yS [] sl76 (.t rfl) (.t rfl) (by omega) (by omega))<|.n (yC sc26 (.t rfl) rfl)<|.n (zA (.t rfl))<|.n (yS 0 sl26 (.t rfl) (.t rfl) (by omega) (by omega))<|.n (yC sc36 (.t rfl) rfl)<|.n (zP (flip_ok) ⟨(.t rfl), (.t rfl),  trivial⟩)<|.n (op_buildSlice sl26 zr36 rfl rfl rfl rfl (.cons rfl (.t rfl) co_flp rfl (yU rfl (Nat.le_of_ble_eq_true rfl)) .nil))<|.w 0 (op_append_m 0 sl26 zr36 rfl (.t rfl) (.t rfl) rfl (by omega) (by omega))<|.n (zI fd28_2 (.t rfl) rfl)<|.w 1 (op_store_sl 1 (.t rfl) rfl sz26 rfl rfl)<|.nil) (fun _ => mixed) rfl fun g43 => ⟨_, _, [0, 1, 2, 3], rfl, (.k 1 rfl<|.k 2 rfl<|.k 3 rfl<|.k 5 rfl<|.k 10 rfl<|.k 13 rfl<|.k 136 rfl<|.k 137 rfl<|.k 141 rfl<|.k 142 rfl<|.nil), (.k 0 rfl<|.k 1 rfl<|.k 2 rfl<|.k 3 rfl<|.nil), ?_⟩)
       refine zR<|zC<|(zG [] (.n (yK (.t rfl) (.k rfl) (zO (by omega) (by omega)))<|.n (zA (.t rfl))<|.nil) ff rfl fun g44 => ⟨_, _, [0, 1, 2, 3], rfl, (.k 1 rfl<|.k 2 rfl<|.k 3 rfl<|.k 5 rfl<|.k 10 rfl<|.k 13 rfl<|.k 136 rfl<|.k 137 rfl<|.k 141 rfl<|.k 142 rfl<|.nil), (.k 0 rfl<|.k 1 rfl<|.k 2 rfl<|.k 3 rfl<|.nil), ?_⟩)
       exact yW (q + 1, (g43 163)) (by exact (show q + 1 ≤ n by omega)) (by show n - (_ + 1) < _; omega) (To.pick (fun _ => .sub (t := 142) rfl (yO (by rfl))<|.k 1 rfl<|.k 2 rfl<|.k 3 rfl<|.k 5 rfl<|.k 10 rfl<|.k 13 rfl<|.k 136 rfl<|.k 137 rfl<|.k 141 rfl<|.nil) (fun _ => .sub 0 rfl ((yQ (by rw [take_gridN (F := (FQ (triTo (colX (m : Int) (n : Int) xs) n) (glsAt (colX (m : Int) (n : Int) xs)) m n)) (by omega) (by omega), ← hput])))<|.sub 1 rfl ((fun _ _ h => h))<|.k 2 rfl<|.k 3 rfl<|.nil) (ks := [0, 1, 2, 3]) rfl)
      ·try simp only [cmpB, Z] at h10
       refine J_exit ?_
       refine zE<|zE<|zS<|zR<|zC<|(zG [] (.n (yK (.t rfl) (.k rfl) (zO (by omega) (by omega)))<|.n (zA (.t rfl))<|.nil) ff rfl fun g45 => ⟨_, _, [0, 1, 2, 3], rfl, (.k 1 rfl<|.k 2 rfl<|.k 3 rfl<|.k 5 rfl<|.k 10 rfl<|.k 136 rfl<|.k 137 rfl<|.nil), (.k 0 rfl<|.k 1 rfl<|.k 2 rfl<|.k 3 rfl<|.nil), ?_⟩)
       exact yW (p + 1, tv) (by exact (show p + 1 ≤ m by omega)) (by show m - (_ + 1) < _; omega) (To.pick (fun _ => .sub (t := 137) rfl (yO (by rfl))<|.k 1 rfl<|.k 2 rfl<|.k 3 rfl<|.k 5 rfl<|.k 10 rfl<|.k 136 rfl<|.nil) (fun _ => .sub 0 rfl ((yQ (by rw [show (p + 1) * n = p * n + q by rw [Nat.add_mul, Nat.one_mul]; omega])))<|.sub 1 rfl ((fun _ _ h => h))<|.k 2 rfl<|.k 3 rfl<|.nil) (ks := [0, 1, 2, 3]) rfl)
     ·try simp only [cmpB, Z] at h9
      refine J_exit ?_
      refine zE<|zE<|zS<|zC<|yN (To.res 0 (r' := som sv flp (grid (m : Int) (n : Int) fun a b => FQ (triTo (colX (m : Int) (n : Int) xs) n) (glsAt (colX (m : Int) (n : Int) xs)) m n a.toNat b.toNat) 36) rfl (yQ (by rw [take_gridN_all (show p = m by omega)])) rfl) ?_
      refine zF (zG [] (.n (zI fd28_1 (.t rfl) rfl)<|.r 2 (zN 2 sc3 (.t rfl) rfl zJ rfl)<|.n (zI fd28_1 (.t rfl) rfl)<|.r 2 (zN 2 sc3 (.t rfl) rfl zJ rfl)<|.n (op_build zr28 rfl pl28 (.cons rfl (.t rfl) co_isv rfl (yU rfl (Nat.le_of_ble_eq_true rfl)) (.cons rfl (.t rfl) co_isv rfl (yU rfl (Nat.le_of_ble_eq_true rfl)) .nil)))<|.w 3 (yM 3 (.t rfl) (.t rfl) yL sz28 rfl rfl rfl)<|.nil) ff rfl fun g46 => ⟨_, _, [0, 1, 2, 3], rfl, (.k 1 rfl<|.k 2 rfl<|.k 3 rfl<|.k 5 rfl<|.nil), (.k 0 rfl<|.k 1 rfl<|.k 2 rfl<|.k 3 rfl<|.nil), ?_⟩)
      refine zC<|zF<|yN (To.emps 1) ?_
      refine yN (To.res 4 (r' := som (.slice none 0 0) flp [] 36) rfl som_nil rfl) ?_
      refine zF (zG [] (.n (zI fd28_1 (.t rfl) rfl)<|.r 2 (zN 2 sc3 (.t rfl) rfl zJ rfl)<|.n (zA (.k rfl))<|.nil) ff rfl fun g47 => ⟨_, _, [0, 1, 2, 3, 4], rfl, (.k 1 rfl<|.k 2 rfl<|.k 3 rfl<|.k 5 rfl<|.k 173 rfl<|.k 174 rfl<|.nil), (.k 0 rfl<|.k 1 rfl<|.k 2 rfl<|.k 3 rfl<|.k 4 rfl<|.nil), ?_⟩)
      refine zC<|zT<|J_loopc (α := Nat × Value) (fun x => x.1 ≤ n) (fun x => n - x.1) (fun x restR => (174, isv (.int .i64 (x.1 : Int))) :: restR) (fun x restS => som x.2 flp ((grid (n : Int) (n : Int) fun a b => FR (triTo (colX (m : Int) (n : Int) xs) n) a.toNat b.toNat).take (x.1 * n)) 36 :: blk (g1 3) [isv (.int .i64 (n : Int)), isv (.int .i64 (n : Int)), isv x.2] 28 :: restS) (ρc := [(1, _), (2, _), (3, _), (5, _), (173, _)]) (σc := [_, _, _]) (0, NILV) (by exact Nat.zero_le _) (To.pick (fun _ => .sub (t := 174) rfl (yO (by rfl))<|.k 1 rfl<|.k 2 rfl<|.k 3 rfl<|.k 5 rfl<|.k 173 rfl<|.nil) (fun _ => .sub 4 rfl ((yQ (by rw [Nat.zero_mul, List.take_zero])))<|.sub 3 rfl ((fun _ _ h => h))<|.k 0 rfl<|.k 1 rfl<|.k 2 rfl<|.nil) (ks := [4, 3, 0, 1, 2]) rfl) (fun x hI7 => ?_)
      obtain ⟨a, sw⟩ := x
      try simp only at hI7
      show J _ _ ((174, isv (.int .i64 (a : Int))) :: _) (som sw flp ((grid (n : Int) (n : Int) fun a b => FR (triTo (colX (m : Int) (n : Int) xs) n) a.toNat b.toNat).take (a * n)) 36 :: blk (g1 3) [isv (.int .i64 (n : Int)), isv (.int .i64 (n : Int)), isv sw] 28 :: _) _ _
      refine zF (zG [] (.n (yB (by simp) (.t rfl) (.t rfl) rfl)<|.nil) ff rfl fun g48 => ⟨_, _, [0, 1, 2, 3, 4], rfl, (.k 1 rfl<|.k 2 rfl<|.k 3 rfl<|.k 5 rfl<|.k 173 rfl<|.k 174 rfl<|.k 175 rfl<|.nil), (.k 0 rfl<|.k 1 rfl<|.k 2 rfl<|.k 3 rfl<|.k 4 rfl<|.nil), ?_⟩)
      refine zC<|zF<|zH (zK (.t rfl)) (fun h11 => ?_) (fun h11 => ?_)
      ·try simp only [cmpB, Z] at h11
       refine yE<|zC<|zF<|zT<|zF (zG [] (.n (zA (.t rfl))<|.n (zB (.t rfl))<|.nil) ff rfl fun g49 => ⟨_, _, [0, 1, 2, 3, 4], rfl, (.k 1 rfl<|.k 2 rfl<|.k 3 rfl<|.k 5 rfl<|.k 15 rfl<|.k 173 rfl<|.k 174 rfl<|.nil), (.k 0 rfl<|.k 1 rfl<|.k 2 rfl<|.k 3 rfl<|.k 4 rfl<|.nil), ?_⟩)
       refine zC<|zF (zG [] (.n (zI fd28_1 (.t rfl) rfl)<|.r 4 (zN 4 sc3 (.t rfl) rfl zJ rfl)<|.n (zA (.k rfl))<|.nil) ff rfl fun g50 => ⟨_, _, [0, 1, 2, 3, 4], rfl, (.k 1 rfl<|.k 2 rfl<|.k 3 rfl<|.k 5 rfl<|.k 15 rfl<|.k 173 rfl<|.k 174 rfl<|.k 178 rfl<|.k 179 rfl<|.nil), (.k 0 rfl<|.k 1 rfl<|.k 2 rfl<|.k 3 rfl<|.k 4 rfl<|.nil), ?_⟩)
       refine zC<|zT<|J_loopc (α := Nat × Value) (fun y => y.1 ≤ n) (fun y => n - y.1) (fun y restR => (179, isv (.int .i64 (y.1 : Int))) :: restR) (fun y restS => som y.2 flp ((grid (n : Int) (n : Int) fun a b => FR (triTo (colX (m : Int) (n : Int) xs) n) a.toNat b.toNat).take (a * n + y.1)) 36 :: blk (g1 3) [isv (.int .i64 (n : Int)), isv (.int .i64 (n : Int)), isv y.2] 28 :: restS) (ρc := [(1, _), (2, _), (3, _), (5, _), (15, _), (173, _), (174, _), (178, _)]) (σc := [_, _, _]) (0, sw) (by exact Nat.zero_le _) (To.pick (fun _ => .sub (t := 179) rfl (yO (by rfl))<|.k 1 rfl<|.k 2 rfl<|.k 3 rfl<|.k 5 rfl<|.k 15 rfl<|.k 173 rfl<|.k 174 rfl<|.k 178 rfl<|.nil) (fun _ => .sub 0 rfl ((fun _ _ h => h))<|.sub 1 rfl ((fun _ _ h => h))<|.k 2 rfl<|.k 3 rfl<|.k 4 rfl<|.nil) (ks := [0, 1, 2, 3, 4]) rfl) (fun y hQ7 => ?_)
       obtain ⟨b, tw⟩ := y
       try simp only at hQ7
       show J _ _ ((179, isv (.int .i64 (b : Int))) :: _) (som tw flp ((grid (n : Int) (n : Int) fun a b => FR (triTo (colX (m : Int) (n : Int) xs) n) a.toNat b.toNat).take (a * n + b)) 36 :: blk (g1 3) [isv (.int .i64 (n : Int)), isv (.int .i64 (n : Int)), isv tw] 28 :: _) _ _
       refine zF (zG [] (.n (yB (by simp) (.t rfl) (.t rfl) rfl)<|.nil) ff rfl fun g51 => ⟨_, _, [0, 1, 2, 3, 4], rfl, (.k 1 rfl<|.k 2 rfl<|.k 3 rfl<|.k 5 rfl<|.k 15 rfl<|.k 173 rfl<|.k 174 rfl<|.k 178 rfl<|.k 179 rfl<|.k 180 rfl<|.nil), (.k 0 rfl<|.k 1 rfl<|.k 2 rfl<|.k 3 rfl<|.k 4 rfl<|.nil), ?_⟩)
       refine zC<|zF<|zH (zK (.t rfl)) (fun h12 => ?_) (fun h12 => ?_)
       ·try simp only [cmpB, Z] at h12
        have hT3 : (((List.range n).map (triTo (colX (m : Int) (n : Int) xs) n)).getD ((a : Nat) : Int).toNat []).length = m := by rw [Int.toNat_natCast, map_at (by omega)]; exact hTn.hl a (by omega)
        have hT4 : (((List.range n).map (triTo (colX (m : Int) (n : Int) xs) n)).getD ((b : Nat) : Int).toNat []).length = m := by rw [Int.toNat_natCast, map_at (by omega)]; exact hTn.hl b (by omega)
        have htk := take_gridN_le (F := FR (triTo (colX (m : Int) (n : Int) xs) n)) (m := n) (n := n) (k := a * n + b) (by omega) (by omega)
        have hput2 : flipN ((((List.range n).map (triTo (colX (m : Int) (n : Int) xs) n)).getD ((b : Nat) : Int).toNat []).getD ((a : Nat) : Int).toNat 0) ((((List.range n).map (triTo (colX (m : Int) (n : Int) xs) n)).getD ((a : Nat) : Int).toNat []).getD ((a : Nat) : Int).toNat 0) = FR (triTo (colX (m : Int) (n : Int) xs) n) a b := by rw [Int.toNat_natCast, Int.toNat_natCast, map_at (by omega), map_at (by omega)]; rfl
        refine yE<|zC<|zF<|zT<|zF (zG [] (.n (zA (.t rfl))<|.n (zB (.t rfl))<|.nil) ff rfl fun g52 => ⟨_, _, [0, 1, 2, 3, 4], rfl, (.k 1 rfl<|.k 2 rfl<|.k 3 rfl<|.k 5 rfl<|.k 15 rfl<|.k 16 rfl<|.k 173 rfl<|.k 174 rfl<|.k 178 rfl<|.k 179 rfl<|.nil), (.k 0 rfl<|.k 1 rfl<|.k 2 rfl<|.k 3 rfl<|.k 4 rfl<|.nil), ?_⟩)
        refine zC<|(zG [[], [0], [], [], [2, 3], [2, 3, 4], [], [2, 3, 4, 5, 6], [2, 3, 4, 5, 6, 7], [], [], [9, 10], [9, 10, 11], [], [9, 10, 11, 12, 13], [9, 10, 11, 12, 13, 14], [2, 3, 4, 5, 6, 7, 8, 9, 10, 11, 12, 13, 14, 15], [2, 3, 4, 5, 6, 7, 8, 9, 10, 11, 12, 13, 14, 15, 16], [0, 1, 2, 3, 4, 5, 6, 7, 8, 9, 10, 11, 12, 13, 14, 15, 16, 17], [0, 1, 2, 3, 4, 5, 6, 7, 8, 9, 10, 11, 12, 13, 14, 15, 16, 17, 18], [0, 1, 2, 3, 4, 5, 6, 7, 8, 9, 10, 11, 12, 13, 14, 15, 16, 17, 18, 19]] (.n (zI fd28_2 (.t rfl) rfl)<|.r 1 (zN 1 sc26 (.t rfl) rfl zJ rfl)<|.n (zA (.t rfl))<|.n (zA (.t rfl))<|.n (yS [] sl76 (.t rfl) (.t rfl) (by omega) (by omega))<|.n (yC sc26 (.t rfl) rfl)<|.n (zA (.t rfl))<|.n (yS 0 sl26 (.t rfl) (.t rfl) (by omega) (by omega))<|.n (yC sc36 (.t rfl) rfl)<|.n (zA (.t rfl))<|.n (zA (.t rfl))<|.n (yS [] sl76 (.t rfl) (.t rfl) (by omega) (by omega))<|.n (yC sc26 (.t rfl) rfl)<|.n (zA (.t rfl))<|.n (yS 0 sl26 (.t rfl) (.t rfl) (by omega) (by omega))<|.n (yC sc36 (.t rfl) rfl)<|.n (zP (flip_ok) ⟨(.t rfl), (.t rfl),  trivial⟩)<|.n (op_buildSlice sl26 zr36 rfl rfl rfl rfl (.cons rfl (.t rfl) co_flp rfl (yU rfl (Nat.le_of_ble_eq_true rfl)) .nil))<|.w 0 (op_append_m 0 sl26 zr36 rfl (.t rfl) (.t rfl) rfl (by omega) (by omega))<|.n (zI fd28_2 (.t rfl) rfl)<|.w 1 (op_store_sl 1 (.t rfl) rfl sz26 rfl rfl)<|.nil) (fun _ => mixed) rfl fun g53 => ⟨_, _, [0, 1, 2, 3, 4], rfl, (.k 1 rfl<|.k 2 rfl<|.k 3 rfl<|.k 5 rfl<|.k 15 rfl<|.k 173 rfl<|.k 174 rfl<|.k 178 rfl<|.k 179 rfl<|.nil), (.k 0 rfl<|.k 1 rfl<|.k 2 rfl<|.k 3 rfl<|.k 4 rfl<|.nil), ?_⟩)
        refine zR<|zC<|(zG [] (.n (yK (.t rfl) (.k rfl) (zO (by omega) (by omega)))<|.n (zA (.t rfl))<|.nil) ff rfl fun g54 => ⟨_, _, [0, 1, 2, 3, 4], rfl, (.k 1 rfl<|.k 2 rfl<|.k 3 rfl<|.k 5 rfl<|.k 15 rfl<|.k 173 rfl<|.k 174 rfl<|.k 178 rfl<|.k 179 rfl<|.nil), (.k 0 rfl<|.k 1 rfl<|.k 2 rfl<|.k 3 rfl<|.k 4 rfl<|.nil), ?_⟩)
        exact yW (b + 1, (g53 200)) (by exact (show b + 1 ≤ n by omega)) (by show n - (_ + 1) < _; omega) (To.pick (fun _ => .sub (t := 179) rfl (yO (by rfl))<|.k 1 rfl<|.k 2 rfl<|.k 3 rfl<|.k 5 rfl<|.k 15 rfl<|.k 173 rfl<|.k 174 rfl<|.k 178 rfl<|.nil) (fun _ => .sub 0 rfl ((yQ (by rw [take_gridN (F := (FR (triTo (colX (m : Int) (n : Int) xs) n))) (by omega) (by omega), ← hput2])))<|.sub 1 rfl ((fun _ _ h => h))<|.k 2 rfl<|.k 3 rfl<|.k 4 rfl<|.nil) (ks := [0, 1, 2, 3, 4]) rfl)
       ·try simp only [cmpB, Z] at h12
        refine J_exit ?_
        refine zE<|zE<|zS<|zR<|zC<|(zG [] (.n (yK (.t rfl) (.k rfl) (zO (by omega) (by omega)))<|.n (zA (.t rfl))<|.nil) ff rfl fun g55 => ⟨_, _, [0, 1, 2, 3, 4], rfl, (.k 1 rfl<|.k 2 rfl<|.k 3 rfl<|.k 5 rfl<|.k 173 rfl<|.k 174 rfl<|.nil), (.k 0 rfl<|.k 1 rfl<|.k 2 rfl<|.k 3 rfl<|.k 4 rfl<|.nil), ?_⟩)
        exact yW (a + 1, tw) (by exact (show a + 1 ≤ n by omega)) (by show n - (_ + 1) < _; omega) (To.pick (fun _ => .sub (t := 174) rfl (yO (by rfl))<|.k 1 rfl<|.k 2 rfl<|.k 3 rfl<|.k 5 rfl<|.k 173 rfl<|.nil) (fun _ => .sub 0 rfl ((yQ (by rw [show (a + 1) * n = a * n + b by rw [Nat.add_mul, Nat.one_mul]; omega])))<|.sub 1 rfl ((fun _ _ h => h))<|.k 2 rfl<|.k 3 rfl<|.k 4 rfl<|.nil) (ks := [0, 1, 2, 3, 4]) rfl)
      ·try simp only [cmpB, Z] at h11
       refine J_exit ?_
       refine zE<|zE<|zS<|zC<|zF<|yN (To.res 0 (r' := som sw flp (grid (n : Int) (n : Int) fun a b => FR (triTo (colX (m : Int) (n : Int) xs) n) a.toNat b.toNat) 36) rfl (yQ (by rw [take_gridN_all (show a = n by omega)])) rfl) ?_
       refine yN (To.freeze 2 (fun _ h => h) rfl frz_som rfl) ?_
       refine yN (To.freeze 0 (fun _ h => h) rfl frz_som rfl) ?_
       refine zF (zG [] (.n (zI fd28_2 (.t rfl) rfl)<|.r 3 (zN 3 sc26 (.t rfl) rfl zJ rfl)<|.n (zP (finite_ok) ⟨(Lk.sub (sb_fk 1 rfl) (.t rfl)),  trivial⟩)<|.n (op_not (.t rfl))<|.n (zA (.t rfl))<|.n (yA rfl rfl (gd_b rfl) (fun hC => (zI fd28_2 (.t rfl) rfl)))<|.r 1 (yA rfl rfl (gd_b rfl) (fun hC => (zN 1 sc26 (.w rfl hC) rfl zJ rfl)))<|.n (yA rfl rfl (gd_b rfl) (fun hC => (zP (finite_ok) ⟨(Lk.sub (sb_fk 0 rfl) (.w rfl hC)),  trivial⟩)))<|.n (yA rfl rfl (gd_b rfl) (fun hC => (op_not (.w rfl hC))))<|.n (op_or (.t rfl) (fun h2 => (.w rfl h2)))<|.nil) ff rfl fun g56 => ⟨_, _, [1, 3], rfl, (.k 2 rfl<|.k 3 rfl<|.k 213 rfl<|.nil), (.k 1 rfl<|.k 3 rfl<|.nil), ?_⟩)
       refine zC<|zH (zK (.t rfl)) (fun h13 => ?_) (fun h13 => ?_)
       ·have h13' := h13
        try simp only [cmpB, Z] at h13
        refine zF (zG [] (.n (op_build zr28 rfl pl28 .nil)<|.n (op_build zr28 rfl pl28 .nil)<|.w 1 (yM 1 (.t rfl) (.t rfl) yL sz28 rfl rfl rfl)<|.w 0 (yM 0 (.t rfl) (.t rfl) yL sz28 rfl rfl rfl)<|.n (zB (.k rfl))<|.nil) ff rfl fun g57 => ⟨_, _, [0, 1], rfl, (.k 2 rfl<|.k 3 rfl<|.k 4 rfl<|.nil), (.k 0 rfl<|.k 1 rfl<|.nil), ?_⟩)
        refine zC<|yF<|zD<|zQ (.cons (.ag 1 (.t rfl) ag28 rfl rfl rfl)<|.cons (.ag 0 (.t rfl) ag28 rfl rfl rfl)<|.cons (.tmp (.t rfl))<|.nil) (zM (sb_res (.cons (sb_agg (.cons zL<|.cons zL<|.cons (sb_nil (mk := flp))<|.nil))<|.cons (sb_agg (.cons zL<|.cons zL<|.cons (sb_nil (mk := flp))<|.nil))<|.cons zL<|.nil)) ?_)
        exact sb_eq (by rw [qrM_4 hz hrc rfl rfl hTn]; unfold endsQ; rw [if_pos (by rw [← qQ_eq, ← qR_eq]; exact h13')]; rfl)
       ·have h13' := h13
        try simp only [cmpB, Z] at h13
        refine yE<|zC<|zF (zG [[], [], [0], [0, 1, 2], [0, 1, 2, 3]] (.r 1 (yI 1 ag28 (.t rfl) rfl zJ rfl rfl)<|.r 0 (yI 0 ag28 (.t rfl) rfl zJ rfl rfl)<|.w 1 (yM 1 (.t rfl) (.t rfl) yL sz28 rfl rfl rfl)<|.w 0 (yM 0 (.t rfl) (.t rfl) yL sz28 rfl rfl rfl)<|.n (zB (.k rfl))<|.nil) (fun _ => mixed) rfl fun g58 => ⟨_, _, [0, 1], rfl, (.k 2 rfl<|.k 3 rfl<|.k 4 rfl<|.nil), (.k 0 rfl<|.k 1 rfl<|.nil), ?_⟩)
        refine zC<|yF<|zQ (.cons (.ag 1 (.t rfl) ag28 rfl rfl rfl)<|.cons (.ag 0 (.t rfl) ag28 rfl rfl rfl)<|.cons (.tmp (.t rfl))<|.nil) (zM (sb_res (.cons (sb_agg (.cons zL<|.cons zL<|.cons (sb_fk 1 rfl)<|.nil))<|.cons (sb_agg (.cons zL<|.cons zL<|.cons (sb_fk 0 rfl)<|.nil))<|.cons zL<|.nil)) ?_)
        exact sb_eq (by rw [qrM_4 hz hrc rfl rfl hTn]; unfold endsQ; rw [if_neg (by rw [← qQ_eq, ← qR_eq, h13']; decide)]; rfl)
end Go.Proofs.YtllkellonjhalaaGreat
