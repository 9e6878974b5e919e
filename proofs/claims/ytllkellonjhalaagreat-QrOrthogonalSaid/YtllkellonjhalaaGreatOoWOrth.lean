/- Printed by a program of ours (walk.py): the walk of QrOrthogonal. -/
import Derived.Test.YtllkellonjhalaaGreatOoKb
import Derived.Test.YtllkellonjhalaaGreatProg
import Derived.KernelRfl
import Derived.Test.YtllkellonjhalaaGreatOoTypes
import Derived.Test.YtllkellonjhalaaGreatOoWRoot
import Derived.Test.YtllkellonjhalaaGreatOoWRqr2
import Derived.Test.YtllkellonjhalaaGreatOoWQr2
import Derived.Test.YtllkellonjhalaaGreatOoQrf
import Derived.Test.YtllkellonjhalaaGreatOoOrc
set_option linter.unusedVariables false
set_option linter.unusedSimpArgs false
set_option maxRecDepth 20000
set_option maxHeartbeats 1000000
namespace Go.Proofs.YtllkellonjhalaaGreat
open Go Go.Bn
attribute [local irreducible] OpOK
theorem qcol_ok {r c j : Int} {xs : List Nat} (hg : Good r c xs) (i0 : 0 ≤ j) (i1 : j < c) : Ct Tryz.prog 22 [MatP r c xs, isv (.int .i64 j)] (fls (colL r c xs j)) := by
 refine Ct.of Tryz.func22 rfl (by kernel_rfl) rfl fun c0 => ?_
 obtain ⟨hs1, hs2, hs3, hs4⟩ := hg.1
 have hgl := hg.2
 have hgm := hg.1.mul
 refine yN (To.emps 1) ?_
 refine zF (zG [] (.w 0 (op_box 0 (.t rfl) yL rfl)<|.n (zB (.k rfl))<|.nil) ff rfl fun g1 => ⟨_, _, [0], rfl, (.k 1 rfl<|.k 2 rfl<|.nil), (.k 0 rfl<|.nil), ?_⟩)
 refine zC<|zF (zG [] (.n (zB (.k rfl))<|.nil) ff rfl fun g2 => ⟨_, _, [0], rfl, (.k 1 rfl<|.k 2 rfl<|.k 5 rfl<|.nil), (.k 0 rfl<|.nil), ?_⟩)
 refine zC<|zF<|zF (zG [] (.n (zB (.k rfl))<|.nil) ff rfl fun g3 => ⟨_, _, [0], rfl, (.k 1 rfl<|.k 2 rfl<|.k 5 rfl<|.k 6 rfl<|.nil), (.k 0 rfl<|.nil), ?_⟩)
 refine zC<|zT<|yN (To.emps 1) ?_
 refine J_loopc (α := Nat × Value) (fun x => x.1 ≤ r.toNat) (fun x => r.toNat - x.1) (fun x restR => (6, isv (.int .i64 (x.1 : Int))) :: (5, isv x.2) :: restR) (fun x restS => som x.2 flp ((colL r c xs j).take x.1) 36 :: restS) (ρc := [(1, _), (2, _)]) (σc := [_]) (0, .slice none 0 0) (by exact Nat.zero_le _) (To.pick (fun _ => .sub (t := 6) rfl (yO (by rfl))<|.sub (t := 5) rfl (yO (by rfl))<|.k 1 rfl<|.k 2 rfl<|.nil) (fun _ => .sub 1 rfl (som_nil)<|.k 0 rfl<|.nil) (ks := [1, 0]) rfl) (fun x hI => ?_)
 obtain ⟨k, sv⟩ := x
 try simp only at hI
 show J _ _ ((6, isv (.int .i64 (k : Int))) :: (5, isv sv) :: _) (som sv flp ((colL r c xs j).take k) 36 :: _) _ _
 refine zF<|zF (zG [] (.n (zA (.t rfl))<|.n (zI fd28_0 (.t rfl) rfl)<|.r 1 (zN 1 sc3 (.t rfl) rfl zJ rfl)<|.n (yB (by simp) (.t rfl) (.t rfl) rfl)<|.nil) ff rfl fun g4 => ⟨_, _, [0, 1], rfl, (.k 1 rfl<|.k 2 rfl<|.k 5 rfl<|.k 6 rfl<|.k 10 rfl<|.nil), (.k 0 rfl<|.k 1 rfl<|.nil), ?_⟩)
 refine zC<|zH (zK (.t rfl)) (fun h1 => ?_) (fun h1 => ?_)
 ·try simp only [cmpB, Z] at h1
  have hpl := (show Pl r c (k : Int) j from ⟨by omega, by omega, i0, i1⟩).rng hg.1
  refine yE<|zC<|zF<|zT<|(zG [] (.n (zA (.t rfl))<|.n (zI fd28_2 (.t rfl) rfl)<|.r 1 (zN 1 sc26 (.t rfl) rfl zJ rfl)<|.n (zA (.t rfl))<|.n (zI fd28_1 (.t rfl) rfl)<|.r 1 (zN 1 sc3 (.t rfl) rfl zJ rfl)<|.n (op_mul (.t rfl) (.t rfl) (zO (by omega) (by omega)))<|.n (zA (.t rfl))<|.n (yK (.t rfl) (.t rfl) (zO (by omega) (by omega)))<|.n (yS 0 sl26 (.t rfl) (.t rfl) (by omega) (by omega))<|.n (yC sc36 (.t rfl) rfl)<|.n (op_buildSlice sl26 zr36 rfl rfl rfl rfl (.cons rfl (.t rfl) co_flp rfl (yU rfl (Nat.le_of_ble_eq_true rfl)) .nil))<|.w 0 (op_append_m 0 sl26 zr36 rfl (.t rfl) (.t rfl) rfl (by rw [List.length_take, length_colL]; show _ + 1 ≤ _; omega) (by rw [List.length_take, length_colL]; show (_ + 1) * _ ≤ _; omega))<|.n (yX rfl rfl)<|.nil) ff rfl fun g5 => ⟨_, _, [0, 1], rfl, (.k 1 rfl<|.k 2 rfl<|.k 5 rfl<|.k 6 rfl<|.nil), (.k 0 rfl<|.k 1 rfl<|.nil), ?_⟩)
  refine zR<|zC<|(zG [] (.n (zA (.t rfl))<|.n (yK (.t rfl) (.k rfl) (zO (by omega) (by omega)))<|.n (zB (.t rfl))<|.nil) ff rfl fun g6 => ⟨_, _, [0, 1], rfl, (.k 1 rfl<|.k 2 rfl<|.k 5 rfl<|.k 6 rfl<|.nil), (.k 0 rfl<|.k 1 rfl<|.nil), ?_⟩)
  exact yW (k + 1, g5 25) (by exact (show k + 1 ≤ r.toNat by omega)) (by show r.toNat - (_ + 1) < _; omega) (To.pick (fun _ => .sub (t := 6) rfl (yO (by rfl))<|.sub (t := 5) rfl (yO (by rfl))<|.k 1 rfl<|.k 2 rfl<|.nil) (fun _ => .sub 0 rfl ((yQ (by rw [show (colL r c xs j).take (k + 1) = (colL r c xs j).take k ++ [mat c xs k j] from take_colL (by omega)]; rfl)))<|.k 1 rfl<|.nil) (ks := [0, 1]) rfl)
 ·try simp only [cmpB, Z] at h1
  refine J_exit ?_
  refine zE<|zE<|zS<|zC<|zF (zG [] (.n (zA (.t rfl))<|.n (zB (.t rfl))<|.nil) ff rfl fun g7 => ⟨_, _, [0], rfl, (.k 4 rfl<|.nil), (.k 0 rfl<|.nil), ?_⟩)
  refine zC<|yF<|JN_to (To.freeze 0 (fun _ h => h) rfl frz_som rfl) ?_
  refine zQ (.cons (.tmp (.t rfl))<|.nil) (zM (yD (sb_fk 0 rfl)) ?_)
  exact ret_eq (by rw [List.take_of_length_le (by rw [length_colL]; omega)])
theorem dots_ok {r c : Int} {xs ys : List Nat} {i : Nat} (hc : 0 ≤ c) (hl : (xs.length : Int) = r * c) (hD : DotB (rowL c xs i) ys) (hi : (i : Int) < r) : Ct Tryz.prog 13 [fls ((xs.drop ((i : Int) * c).toNat).take ((((i : Int) + 1) * c).toNat - ((i : Int) * c).toNat)), fls ys] (exaP (dotX (rowL c xs i) ys (rowL c xs i).length)) := by
 rw [rowL_slice hc hl (by omega) hi]
 exact xdot_ok hD
theorem orth_ok {r c : Int} {bs : List Nat} (hb : GoodU bs) : Ct Tryz.prog 4 [MatU r c bs] (isv (.bool true)) := by
 refine Ct.of Tryz.func4 rfl (by kernel_rfl) rfl fun c0 => ?_
 have hlt := ltL_cn2 hb.1
 refine yN (To.emps 1) ?_
 refine zF (zG [] (.w 0 (op_box 0 (.t rfl) yL rfl)<|.n (zB (.k rfl))<|.nil) ff rfl fun g1 => ⟨_, _, [0], rfl, (.k 1 rfl<|.nil), (.k 0 rfl<|.nil), ?_⟩)
 refine zC<|zF<|zF (zG [] (.n (zP (awake_ok) trivial)<|.n (op_not (.t rfl))<|.nil) ff rfl fun g2 => ⟨_, _, [0], rfl, (.k 1 rfl<|.k 20 rfl<|.nil), (.k 0 rfl<|.nil), ?_⟩)
 refine zC<|zH (zK (.t rfl)) (fun h1 => ?_) (fun h1 => ?_)
 ·have h1' := h1
  try simp only [cmpB, Z] at h1
  cases h1'
 ·have h1' := h1
  try simp only [cmpB, Z] at h1
  refine yE<|zC<|yN (To.emps 1) ?_
  refine zF (zG [] (.r 0 (yI 0 ag50 (.t rfl) rfl zJ rfl rfl)<|.n (zP (qof_ok hb) ⟨(.t rfl),  trivial⟩)<|.w 1 (yT 1 zr28 rfl rfl)<|.w 1 (op_store_new 1 rfl (.t rfl) yL sz28 rfl rfl)<|.nil) ff rfl fun g3 => ⟨_, _, [1], rfl, (.k 3 rfl<|.nil), (.k 1 rfl<|.nil), ?_⟩)
  refine zC<|yN (To.emps 2) ?_
  refine zF (zG [] (.r 0 (yI 0 ag28 (.t rfl) rfl zJ rfl rfl)<|.n (zP (qr_ok hlt) ⟨(.t rfl),  trivial⟩)<|.n (zA (.t rfl))<|.n (yJ (.t rfl) rfl)<|.n (yJ (.t rfl) rfl)<|.n (yJ (.t rfl) rfl)<|.w 1 (yT 1 zr28 rfl rfl)<|.w 2 (yT 2 zr28 rfl rfl)<|.w 1 (op_store_new 1 rfl (.t rfl) yL sz28 rfl rfl)<|.w 2 (op_store_new 2 rfl (.t rfl) yL sz28 rfl rfl)<|.n (zB (.t rfl))<|.nil) ff rfl fun g4 => ⟨_, _, [0, 1, 2], rfl, (.k 3 rfl<|.k 4 rfl<|.k 5 rfl<|.k 6 rfl<|.nil), (.k 0 rfl<|.k 1 rfl<|.k 2 rfl<|.nil), ?_⟩)
  refine zC<|zF<|zF (zG [] (.n (zA (.t rfl))<|.n (yB (by simp) (.t rfl) (.k rfl) rfl)<|.nil) ff rfl fun g5 => ⟨_, _, [0, 1, 2], rfl, (.k 3 rfl<|.k 4 rfl<|.k 5 rfl<|.k 30 rfl<|.nil), (.k 0 rfl<|.k 1 rfl<|.k 2 rfl<|.nil), ?_⟩)
  refine zC<|zH (zK (.t rfl)) (fun h2 => ?_) (fun h2 => ?_)
  ·have h2' := h2
   try simp only [cmpB, Z] at h2
   refine zF (zG [] (.n (zI fd28_2 (.t rfl) rfl)<|.r 1 (zN 1 sc26 (.t rfl) rfl zJ rfl)<|.n (yV sl26 (.t rfl))<|.n (yB (by simp) (.t rfl) (.k rfl) rfl)<|.n (zA (.t rfl))<|.n (yA rfl rfl (gd_b rfl) (fun hC => (zI fd28_2 (.t rfl) rfl)))<|.r 2 (yA rfl rfl (gd_b rfl) (fun hC => (zN 2 sc26 (.w rfl hC) rfl zJ rfl)))<|.n (yA rfl rfl (gd_b rfl) (fun hC => (yV sl26 (.w rfl hC))))<|.n (yA rfl rfl (gd_b rfl) (fun hC => (yB (by simp) (.w rfl hC) (.k rfl) rfl)))<|.n (op_and (.t rfl) (fun h2 => (.w rfl h2)))<|.n (zB (.t rfl))<|.nil) ff rfl fun g6 => ⟨_, _, [], rfl, (.k 2 rfl<|.nil), (.nil), ?_⟩)
   refine zC<|yF<|zD<|zQ (.cons (.tmp (.t rfl))<|.nil) (zM (yD zL) ?_)
   exact ret_b (by rw [(qrM_nil h2').1, (qrM_nil h2').2]; rfl)
  ·have h2' := h2
   try simp only [cmpB, Z] at h2
   have hO := ortB_of hlt h2'
   obtain ⟨ho1, ho2, ho3, ho4, ho5, ho6, ho7, ho8⟩ := ort_n hO
   have hg := hO.g
   have hgl := hg.2
   have hgm := hg.1.mul
   have hg1 := ort_g1 hO
   have hg2 := ort_g2 hO
   have hq1 := hO.r1
   have hq2 := hO.c1
   have hq3 := hO.r2
   have hq4 := hO.c2
   have hl1 := hg1.2
   have hl2 := hg2.2
   have hm1 := hg1.1.mul
   have hm2 := hg2.1.mul
   have hcc := (show Siz c c from ⟨by omega, by omega, by omega, by omega⟩).mul
   refine yE<|zC<|zF<|yN (To.emps 2) ?_
   refine zF (zG [] (.r 0 (yI 0 ag28 (.t rfl) rfl zJ rfl rfl)<|.n (zP (rqr_ok hlt) ⟨(.t rfl),  trivial⟩)<|.n (zA (.t rfl))<|.n (yJ (.t rfl) rfl)<|.n (yJ (.t rfl) rfl)<|.n (yJ (.t rfl) rfl)<|.w 3 (yT 3 zr28 rfl rfl)<|.w 4 (yT 4 zr28 rfl rfl)<|.w 3 (op_store_new 3 rfl (.t rfl) yL sz28 rfl rfl)<|.w 4 (op_store_new 4 rfl (.t rfl) yL sz28 rfl rfl)<|.n (zB (.t rfl))<|.nil) ff rfl fun g7 => ⟨_, _, [0, 1, 2], rfl, (.k 3 rfl<|.k 4 rfl<|.k 5 rfl<|.k 9 rfl<|.nil), (.k 0 rfl<|.k 1 rfl<|.k 2 rfl<|.nil), ?_⟩)
   refine zC<|zF (zG [] (.n (zA (.t rfl))<|.n (yB (by simp) (.t rfl) (.k rfl) rfl)<|.nil) ff rfl fun g8 => ⟨_, _, [0, 1, 2], rfl, (.k 3 rfl<|.k 4 rfl<|.k 5 rfl<|.k 48 rfl<|.nil), (.k 0 rfl<|.k 1 rfl<|.k 2 rfl<|.nil), ?_⟩)
   refine zC<|zH (zK (.t rfl)) (fun h3 => ?_) (fun h3 => ?_)
   ·have h3' := h3
    try simp only [cmpB, Z] at h3
    exact absurd h3' (by rw [rqrM_eq hlt]; simpa [cmpB] using h2')
   ·have h3' := h3
    try simp only [cmpB, Z] at h3
    refine yE<|zC<|zF<|zF (zG [] (.n (zI fd28_0 (.t rfl) rfl)<|.r 1 (zN 1 sc3 (.t rfl) rfl zJ rfl)<|.n (zI fd28_0 (.t rfl) rfl)<|.r 0 (zN 0 sc3 (.t rfl) rfl zJ rfl)<|.n (yB (by simp) (.t rfl) (.t rfl) rfl)<|.n (zA (.t rfl))<|.n (yA rfl rfl (gd_b rfl) (fun hC => (zI fd28_1 (.t rfl) rfl)))<|.r 1 (yA rfl rfl (gd_b rfl) (fun hC => (zN 1 sc3 (.w rfl hC) rfl zJ rfl)))<|.n (yA rfl rfl (gd_b rfl) (fun hC => (zI fd28_1 (.t rfl) rfl)))<|.r 0 (yA rfl rfl (gd_b rfl) (fun hC => (zN 0 sc3 (.w rfl hC) rfl zJ rfl)))<|.n (yA rfl rfl (gd_b rfl) (fun hC => (yB (by simp) (.w rfl hC) (.w rfl hC) rfl)))<|.n (op_or (.t rfl) (fun h2 => (.w rfl h2)))<|.n (zA (.t rfl))<|.n (yA rfl rfl (gd_b rfl) (fun hC => (zI fd28_0 (.t rfl) rfl)))<|.r 2 (yA rfl rfl (gd_b rfl) (fun hC => (zN 2 sc3 (.w rfl hC) rfl zJ rfl)))<|.n (yA rfl rfl (gd_b rfl) (fun hC => (zI fd28_1 (.t rfl) rfl)))<|.r 0 (yA rfl rfl (gd_b rfl) (fun hC => (zN 0 sc3 (.w rfl hC) rfl zJ rfl)))<|.n (yA rfl rfl (gd_b rfl) (fun hC => (yB (by simp) (.w rfl hC) (.w rfl hC) rfl)))<|.n (op_or (.t rfl) (fun h2 => (.w rfl h2)))<|.n (zA (.t rfl))<|.n (yA rfl rfl (gd_b rfl) (fun hC => (zI fd28_1 (.t rfl) rfl)))<|.r 2 (yA rfl rfl (gd_b rfl) (fun hC => (zN 2 sc3 (.w rfl hC) rfl zJ rfl)))<|.n (yA rfl rfl (gd_b rfl) (fun hC => (zI fd28_1 (.t rfl) rfl)))<|.r 0 (yA rfl rfl (gd_b rfl) (fun hC => (zN 0 sc3 (.w rfl hC) rfl zJ rfl)))<|.n (yA rfl rfl (gd_b rfl) (fun hC => (yB (by simp) (.w rfl hC) (.w rfl hC) rfl)))<|.n (op_or (.t rfl) (fun h2 => (.w rfl h2)))<|.n (zA (.t rfl))<|.n (yA rfl rfl (gd_b rfl) (fun hC => (zI fd28_2 (.t rfl) rfl)))<|.r 1 (yA rfl rfl (gd_b rfl) (fun hC => (zN 1 sc26 (.w rfl hC) rfl zJ rfl)))<|.n (yA rfl rfl (gd_b rfl) (fun hC => (yV sl26 (.w rfl hC))))<|.n (yA rfl rfl (gd_b rfl) (fun hC => (zI fd28_2 (.t rfl) rfl)))<|.r 0 (yA rfl rfl (gd_b rfl) (fun hC => (zN 0 sc26 (.w rfl hC) rfl zJ rfl)))<|.n (yA rfl rfl (gd_b rfl) (fun hC => (yV sl26 (.w rfl hC))))<|.n (yA rfl rfl (gd_b rfl) (fun hC => (yB (by simp) (.w rfl hC) (.w rfl hC) rfl)))<|.n (op_or (.t rfl) (fun h2 => (.w rfl h2)))<|.n (zA (.t rfl))<|.n (yA rfl rfl (gd_b rfl) (fun hC => (zI fd28_2 (.t rfl) rfl)))<|.r 2 (yA rfl rfl (gd_b rfl) (fun hC => (zN 2 sc26 (.w rfl hC) rfl zJ rfl)))<|.n (yA rfl rfl (gd_b rfl) (fun hC => (yV sl26 (.w rfl hC))))<|.n (yA rfl rfl (gd_b rfl) (fun hC => (zI fd28_1 (.t rfl) rfl)))<|.r 0 (yA rfl rfl (gd_b rfl) (fun hC => (zN 0 sc3 (.w rfl hC) rfl zJ rfl)))<|.n (yA rfl rfl (gd_b rfl) (fun hC => (zI fd28_1 (.t rfl) rfl)))<|.r 0 (yA rfl rfl (gd_b rfl) (fun hC => (zN 0 sc3 (.w rfl hC) rfl zJ rfl)))<|.n (yA rfl rfl (gd_b rfl) (fun hC => (op_mul (.w rfl hC) (.w rfl hC) (zO (by omega) (by omega)))))<|.n (yA rfl rfl (gd_b rfl) (fun hC => (yB (by simp) (.w rfl hC) (.w rfl hC) rfl)))<|.n (op_or (.t rfl) (fun h2 => (.w rfl h2)))<|.nil) ff rfl fun g9 => ⟨_, _, [0, 1, 2], rfl, (.k 3 rfl<|.k 4 rfl<|.k 5 rfl<|.k 94 rfl<|.nil), (.k 0 rfl<|.k 1 rfl<|.k 2 rfl<|.nil), ?_⟩)
    refine zC<|zH (zK (.t rfl)) (fun h4 => ?_) (fun h4 => ?_)
    ·have h4' := h4
     try simp only [cmpB, Z] at h4
     exact (ort_no hO h4').elim
    ·have h4' := h4
     try simp only [cmpB, Z] at h4
     refine yE<|zC<|zF<|zF (zG [] (.n (zB (.k rfl))<|.nil) ff rfl fun g10 => ⟨_, _, [0, 1, 2], rfl, (.k 3 rfl<|.k 4 rfl<|.k 5 rfl<|.k 10 rfl<|.nil), (.k 0 rfl<|.k 1 rfl<|.k 2 rfl<|.nil), ?_⟩)
     refine zC<|zT<|J_loopc (α := Nat) (fun i => i ≤ c.toNat) (fun i => c.toNat - i) (fun i restR => (10, isv (.int .i64 (i : Int))) :: restR) (fun i restS => restS) (ρc := [(3, _), (4, _), (5, _)]) (σc := [_, _, _]) 0 (by exact Nat.zero_le _) (To.pick (fun _ => .sub (t := 10) rfl (yO (by rfl))<|.k 3 rfl<|.k 4 rfl<|.k 5 rfl<|.nil) (fun _ => .k 0 rfl<|.k 1 rfl<|.k 2 rfl<|.nil) (ks := [0, 1, 2]) rfl) (fun i hI => ?_)
     refine zF<|zF (zG [] (.n (zA (.t rfl))<|.n (zI fd28_0 (.t rfl) rfl)<|.r 2 (zN 2 sc3 (.t rfl) rfl zJ rfl)<|.n (yB (by simp) (.t rfl) (.t rfl) rfl)<|.nil) ff rfl fun g11 => ⟨_, _, [0, 1, 2], rfl, (.k 3 rfl<|.k 4 rfl<|.k 5 rfl<|.k 10 rfl<|.k 98 rfl<|.nil), (.k 0 rfl<|.k 1 rfl<|.k 2 rfl<|.nil), ?_⟩)
     refine zC<|zH (zK (.t rfl)) (fun h5 => ?_) (fun h5 => ?_)
     ·try simp only [cmpB, Z] at h5
      refine yE<|zC<|zF<|zT<|zF<|zF (zG [] (.n (zB (.k rfl))<|.nil) ff rfl fun g12 => ⟨_, _, [0, 1, 2], rfl, (.k 3 rfl<|.k 4 rfl<|.k 5 rfl<|.k 10 rfl<|.k 11 rfl<|.nil), (.k 0 rfl<|.k 1 rfl<|.k 2 rfl<|.nil), ?_⟩)
      refine zC<|zT<|J_loopc (α := Nat) (fun j => j ≤ i) (fun j => i - j) (fun j restR => (11, isv (.int .i64 (j : Int))) :: restR) (fun j restS => restS) (ρc := [(3, _), (4, _), (5, _), (10, _)]) (σc := [_, _, _]) 0 (by exact Nat.zero_le _) (To.pick (fun _ => .sub (t := 11) rfl (yO (by rfl))<|.k 3 rfl<|.k 4 rfl<|.k 5 rfl<|.k 10 rfl<|.nil) (fun _ => .k 0 rfl<|.k 1 rfl<|.k 2 rfl<|.nil) (ks := [0, 1, 2]) rfl) (fun j hI => ?_)
      refine zF<|zF (zG [] (.n (zA (.t rfl))<|.n (zA (.t rfl))<|.n (yB (by simp) (.t rfl) (.t rfl) rfl)<|.nil) ff rfl fun g13 => ⟨_, _, [0, 1, 2], rfl, (.k 3 rfl<|.k 4 rfl<|.k 5 rfl<|.k 10 rfl<|.k 11 rfl<|.k 103 rfl<|.nil), (.k 0 rfl<|.k 1 rfl<|.k 2 rfl<|.nil), ?_⟩)
      refine zC<|zH (zK (.t rfl)) (fun h6 => ?_) (fun h6 => ?_)
      ·try simp only [cmpB, Z] at h6
       have hij := (show Pl (qrM r c (bs.map cn)).r2 (qrM r c (bs.map cn)).c2 (i : Int) (j : Int) from ⟨by omega, by omega, by omega, by omega⟩).rng hg2.1
       have hnan := fin_not_nan (ort_F2 hO ((i : Int) * (qrM r c (bs.map cn)).c2 + (j : Int)).toNat).1
       refine yE<|zC<|zF<|zT<|zF (zG [] (.n (zI fd28_2 (.t rfl) rfl)<|.r 2 (zN 2 sc26 (.t rfl) rfl zJ rfl)<|.n (zA (.t rfl))<|.n (zI fd28_1 (.t rfl) rfl)<|.r 2 (zN 2 sc3 (.t rfl) rfl zJ rfl)<|.n (op_mul (.t rfl) (.t rfl) (zO (by omega) (by omega)))<|.n (zA (.t rfl))<|.n (yK (.t rfl) (.t rfl) (zO (by omega) (by omega)))<|.n (yS 0 sl26 (.t rfl) (.t rfl) (by omega) (by omega))<|.n (yC sc36 (.t rfl) rfl)<|.n (op_f64bitsn bitsX hnan (.t rfl))<|.n (yB (by simp) (.t rfl) (.k rfl) rfl)<|.nil) ff rfl fun g14 => ⟨_, _, [0, 1, 2], rfl, (.k 3 rfl<|.k 4 rfl<|.k 5 rfl<|.k 10 rfl<|.k 11 rfl<|.k 117 rfl<|.nil), (.k 0 rfl<|.k 1 rfl<|.k 2 rfl<|.nil), ?_⟩)
       refine zC<|zH (zK (.t rfl)) (fun h7 => ?_) (fun h7 => ?_)
       ·have h7' := h7
        try simp only [cmpB, Z] at h7
        exact absurd h7' (by rw [ort_up2 hO (i := i) (j := j) (by omega) (by omega)]; decide)
       ·have h7' := h7
        try simp only [cmpB, Z] at h7
        refine yE<|zR<|zC<|(zG [] (.n (zA (.t rfl))<|.n (yK (.t rfl) (.k rfl) (zO (by omega) (by omega)))<|.n (zB (.t rfl))<|.nil) ff rfl fun g15 => ⟨_, _, [0, 1, 2], rfl, (.k 3 rfl<|.k 4 rfl<|.k 5 rfl<|.k 10 rfl<|.k 11 rfl<|.nil), (.k 0 rfl<|.k 1 rfl<|.k 2 rfl<|.nil), ?_⟩)
        exact yW (j + 1) (by omega) (by omega) (To.pick (fun _ => .sub (t := 11) rfl (yO (by rfl))<|.k 3 rfl<|.k 4 rfl<|.k 5 rfl<|.k 10 rfl<|.nil) (fun _ => .k 0 rfl<|.k 1 rfl<|.k 2 rfl<|.nil) (ks := [0, 1, 2]) rfl)
      ·try simp only [cmpB, Z] at h6
       have hii := (show Pl (qrM r c (bs.map cn)).r2 (qrM r c (bs.map cn)).c2 (i : Int) (i : Int) from ⟨by omega, by omega, by omega, by omega⟩).rng hg2.1
       refine J_exit ?_
       refine zE<|zE<|zS<|zC<|zF (zG [] (.n (zI fd28_2 (.t rfl) rfl)<|.r 2 (zN 2 sc26 (.t rfl) rfl zJ rfl)<|.n (zA (.t rfl))<|.n (zI fd28_1 (.t rfl) rfl)<|.r 2 (zN 2 sc3 (.t rfl) rfl zJ rfl)<|.n (op_mul (.t rfl) (.t rfl) (zO (by omega) (by omega)))<|.n (zA (.t rfl))<|.n (yK (.t rfl) (.t rfl) (zO (by omega) (by omega)))<|.n (yS 0 sl26 (.t rfl) (.t rfl) (by omega) (by omega))<|.n (yC sc36 (.t rfl) rfl)<|.n (op_fcmp (by simp) (.t rfl) (Lk.fk rfl (by decide +kernel)) rfl)<|.n (op_not (.t rfl))<|.nil) ff rfl fun g16 => ⟨_, _, [0, 1, 2], rfl, (.k 3 rfl<|.k 4 rfl<|.k 5 rfl<|.k 10 rfl<|.k 129 rfl<|.nil), (.k 0 rfl<|.k 1 rfl<|.k 2 rfl<|.nil), ?_⟩)
       refine zC<|zH (zK (.t rfl)) (fun h8 => ?_) (fun h8 => ?_)
       ·have h8' := h8
        try simp only [cmpB, Z] at h8
        exact absurd h8' (by rw [ort_dia2 hO (i := i) (by omega)]; decide)
       ·have h8' := h8
        try simp only [cmpB, Z] at h8
        refine yE<|zR<|zC<|(zG [] (.n (zA (.t rfl))<|.n (yK (.t rfl) (.k rfl) (zO (by omega) (by omega)))<|.n (zB (.t rfl))<|.nil) ff rfl fun g17 => ⟨_, _, [0, 1, 2], rfl, (.k 3 rfl<|.k 4 rfl<|.k 5 rfl<|.k 10 rfl<|.nil), (.k 0 rfl<|.k 1 rfl<|.k 2 rfl<|.nil), ?_⟩)
        exact yW (i + 1) (by omega) (by omega) (To.pick (fun _ => .sub (t := 10) rfl (yO (by rfl))<|.k 3 rfl<|.k 4 rfl<|.k 5 rfl<|.nil) (fun _ => .k 0 rfl<|.k 1 rfl<|.k 2 rfl<|.nil) (ks := [0, 1, 2]) rfl)
     ·try simp only [cmpB, Z] at h5
      refine J_exit ?_
      refine zE<|zE<|zS<|zC<|zF<|zF (zG [] (.n (zI fd28_2 (.t rfl) rfl)<|.r 0 (zN 0 sc26 (.t rfl) rfl zJ rfl)<|.n (zP (alltame_ok (by decide) (by decide)) ⟨(.t rfl), (.k rfl),  trivial⟩)<|.n (op_not (.t rfl))<|.nil) ff rfl fun g18 => ⟨_, _, [0, 1, 2], rfl, (.k 3 rfl<|.k 4 rfl<|.k 5 rfl<|.k 133 rfl<|.nil), (.k 0 rfl<|.k 1 rfl<|.k 2 rfl<|.nil), ?_⟩)
      refine zC<|zH (zK (.t rfl)) (fun h9 => ?_) (fun h9 => ?_)
      ·have h9' := h9
       try simp only [cmpB, Z] at h9
       refine zF (zG [] (.n (zB (.k rfl))<|.nil) ff rfl fun g19 => ⟨_, _, [], rfl, (.k 2 rfl<|.nil), (.nil), ?_⟩)
       refine zC<|yF<|zD<|zQ (.cons (.tmp (.t rfl))<|.nil) (zM (yD zL) ?_)
       exact zL
      ·have h9' := h9
       try simp only [cmpB, Z] at h9
       have hTm : allTB (bs.map cn) 400 = true := not_b h9'
       refine yE<|zC<|zF<|zF (zG [] (.n (zB (.k rfl))<|.nil) ff rfl fun g20 => ⟨_, _, [0, 1, 2], rfl, (.k 3 rfl<|.k 4 rfl<|.k 5 rfl<|.k 12 rfl<|.nil), (.k 0 rfl<|.k 1 rfl<|.k 2 rfl<|.nil), ?_⟩)
       refine zC<|zT<|J_loopc (α := Nat) (fun p => p ≤ c.toNat) (fun p => c.toNat - p) (fun p restR => (12, isv (.int .i64 (p : Int))) :: restR) (fun p restS => restS) (ρc := [(3, _), (4, _), (5, _)]) (σc := [_, _, _]) 0 (by exact Nat.zero_le _) (To.pick (fun _ => .sub (t := 12) rfl (yO (by rfl))<|.k 3 rfl<|.k 4 rfl<|.k 5 rfl<|.nil) (fun _ => .k 0 rfl<|.k 1 rfl<|.k 2 rfl<|.nil) (ks := [0, 1, 2]) rfl) (fun p hI => ?_)
       refine zF<|zF (zG [] (.n (zA (.t rfl))<|.n (zI fd28_1 (.t rfl) rfl)<|.r 0 (zN 0 sc3 (.t rfl) rfl zJ rfl)<|.n (yB (by simp) (.t rfl) (.t rfl) rfl)<|.nil) ff rfl fun g21 => ⟨_, _, [0, 1, 2], rfl, (.k 3 rfl<|.k 4 rfl<|.k 5 rfl<|.k 12 rfl<|.k 137 rfl<|.nil), (.k 0 rfl<|.k 1 rfl<|.k 2 rfl<|.nil), ?_⟩)
       refine zC<|zH (zK (.t rfl)) (fun h10 => ?_) (fun h10 => ?_)
       ·try simp only [cmpB, Z] at h10
        refine yE<|zC<|zF<|zT<|yN (To.emps 1) ?_
        refine zF (zG [[], [], [0, 1], [], [], [0, 1, 2, 3, 4], [0, 1, 2, 3, 4, 5], [], [0, 1, 2, 3, 4, 5, 6, 7], [0, 1, 2, 3, 4, 5, 6, 7, 8]] (.r 2 (yI 2 ag28 (.t rfl) rfl zJ rfl rfl)<|.n (zA (.t rfl))<|.n (zP (qcol_ok hg2 (by omega) (by omega)) ⟨(.t rfl), (.t rfl),  trivial⟩)<|.r 0 (yI 0 ag28 (.t rfl) rfl zJ rfl rfl)<|.n (zA (.t rfl))<|.n (zP (qcol_ok hg (by omega) (by omega)) ⟨(.t rfl), (.t rfl),  trivial⟩)<|.n (zP (squares_ok (ort_sq hO p)) ⟨(.t rfl),  trivial⟩)<|.w 3 (yT 3 zr41 rfl rfl)<|.n (zB (.t rfl))<|.w 3 (op_store_new 3 rfl (.t rfl) yL sz41 rfl rfl)<|.nil) (fun _ => mixed) rfl fun g22 => ⟨_, _, [0, 1, 2, 3], rfl, (.k 3 rfl<|.k 4 rfl<|.k 5 rfl<|.k 12 rfl<|.k 13 rfl<|.k 14 rfl<|.nil), (.k 0 rfl<|.k 1 rfl<|.k 2 rfl<|.k 3 rfl<|.nil), ?_⟩)
        refine zC<|zF<|zF (zG [] (.n (zB (.k rfl))<|.nil) ff rfl fun g23 => ⟨_, _, [0, 1, 2, 3], rfl, (.k 3 rfl<|.k 4 rfl<|.k 5 rfl<|.k 12 rfl<|.k 13 rfl<|.k 14 rfl<|.k 15 rfl<|.nil), (.k 0 rfl<|.k 1 rfl<|.k 2 rfl<|.k 3 rfl<|.nil), ?_⟩)
        refine zC<|zT<|J_loopc (α := Nat) (fun q => q ≤ r.toNat) (fun q => r.toNat - q) (fun q restR => (15, isv (.int .i64 (q : Int))) :: restR) (fun q restS => blk (g22 14) [intP (dotX (colL r c (bs.map cn) (p : Int)) (colL r c (bs.map cn) (p : Int)) (colL r c (bs.map cn) (p : Int)).length).m, isv (.int .i64 (dotX (colL r c (bs.map cn) (p : Int)) (colL r c (bs.map cn) (p : Int)) (colL r c (bs.map cn) (p : Int)).length).e)] 41 :: restS) (ρc := [(3, _), (4, _), (5, _), (12, _), (13, _), (14, _)]) (σc := [_, _, _]) 0 (by exact Nat.zero_le _) (To.pick (fun _ => .sub (t := 15) rfl (yO (by rfl))<|.k 3 rfl<|.k 4 rfl<|.k 5 rfl<|.k 12 rfl<|.k 13 rfl<|.k 14 rfl<|.nil) (fun _ => .sub 3 rfl ((fun _ _ h => h))<|.k 0 rfl<|.k 1 rfl<|.k 2 rfl<|.nil) (ks := [3, 0, 1, 2]) rfl) (fun q hI => ?_)
        refine zF<|zF (zG [] (.n (zA (.t rfl))<|.n (zI fd28_0 (.t rfl) rfl)<|.r 1 (zN 1 sc3 (.t rfl) rfl zJ rfl)<|.n (yB (by simp) (.t rfl) (.t rfl) rfl)<|.nil) ff rfl fun g24 => ⟨_, _, [0, 1, 2, 3], rfl, (.k 3 rfl<|.k 4 rfl<|.k 5 rfl<|.k 12 rfl<|.k 13 rfl<|.k 14 rfl<|.k 15 rfl<|.k 150 rfl<|.nil), (.k 0 rfl<|.k 1 rfl<|.k 2 rfl<|.k 3 rfl<|.nil), ?_⟩)
        refine zC<|zH (zK (.t rfl)) (fun h11 => ?_) (fun h11 => ?_)
        ·try simp only [cmpB, Z] at h11
         have hW := ort_w2 hO hTm (i := q) (j := p) (by omega) (by omega)
         have hqp := (show Pl r c (q : Int) (p : Int) from ⟨by omega, by omega, by omega, by omega⟩).rng hg.1
         obtain ⟨hr1, hr2, hr3, hr4⟩ := hg1.row (i := (q : Int)) (by omega) (by omega)
         refine yE<|zC<|zF<|zT<|yN (To.emps 1) ?_
         refine zF (zG [[], [0], [], [], [3], [2, 3, 4], [], [6], [], [8], [6, 7, 8, 9], [0, 1, 2, 3, 4, 5, 6, 7, 8, 9, 10], [], [0, 1, 2, 3, 4, 5, 6, 7, 8, 9, 10, 11, 12], [], [14], [], [], [17], [16, 17, 18], [], [16, 17, 18, 19, 20], [14, 15, 16, 17, 18, 19, 20, 21], [14, 15, 16, 17, 18, 19, 20, 21, 22], [0, 1, 2, 3, 4, 5, 6, 7, 8, 9, 10, 11, 12, 13, 14, 15, 16, 17, 18, 19, 20, 21, 22, 23], [0, 1, 2, 3, 4, 5, 6, 7, 8, 9, 10, 11, 12, 13, 14, 15, 16, 17, 18, 19, 20, 21, 22, 23, 24], [0, 1, 2, 3, 4, 5, 6, 7, 8, 9, 10, 11, 12, 13, 14, 15, 16, 17, 18, 19, 20, 21, 22, 23, 24, 25], [], [0, 1, 2, 3, 4, 5, 6, 7, 8, 9, 10, 11, 12, 13, 14, 15, 16, 17, 18, 19, 20, 21, 22, 23, 24, 25, 26, 27]] (.n (zI fd28_2 (.t rfl) rfl)<|.r 2 (zN 2 sc26 (.t rfl) rfl zJ rfl)<|.n (zA (.t rfl))<|.n (zI fd28_1 (.t rfl) rfl)<|.r 2 (zN 2 sc3 (.t rfl) rfl zJ rfl)<|.n (op_mul (.t rfl) (.t rfl) (zO (by omega) (by omega)))<|.n (zA (.t rfl))<|.n (yK (.t rfl) (.k rfl) (zO (by omega) (by omega)))<|.n (zI fd28_1 (.t rfl) rfl)<|.r 2 (zN 2 sc3 (.t rfl) rfl zJ rfl)<|.n (op_mul (.t rfl) (.t rfl) (zO (by omega) (by omega)))<|.n (op_slice_m sl26 (.t rfl) (.t rfl) (.t rfl) (by omega) (by omega) (by omega))<|.n (zA (.t rfl))<|.n (zP (dots_ok (by omega) hl1 hW.d1 (by omega)) ⟨(.t rfl), (.t rfl),  trivial⟩)<|.n (zI fd28_2 (.t rfl) rfl)<|.r 1 (zN 1 sc26 (.t rfl) rfl zJ rfl)<|.n (zA (.t rfl))<|.n (zI fd28_1 (.t rfl) rfl)<|.r 1 (zN 1 sc3 (.t rfl) rfl zJ rfl)<|.n (op_mul (.t rfl) (.t rfl) (zO (by omega) (by omega)))<|.n (zA (.t rfl))<|.n (yK (.t rfl) (.t rfl) (zO (by omega) (by omega)))<|.n (yS 0 sl26 (.t rfl) (.t rfl) (by omega) (by omega))<|.n (yC sc36 (.t rfl) rfl)<|.n (zP (xof_ok (hO.f _).1) ⟨(.t rfl),  trivial⟩)<|.n (zP (xneg_ok hW.ex) ⟨(.t rfl),  trivial⟩)<|.n (zP (xadd_ok hW.e1 hW.en hW.sm) ⟨(.t rfl), (.t rfl),  trivial⟩)<|.w 4 (yT 4 zr41 rfl rfl)<|.w 4 (op_store_new 4 rfl (.t rfl) yL sz41 rfl rfl)<|.nil) (fun _ => mixed) rfl fun g25 => ⟨_, _, [0, 1, 2, 3, 4], rfl, (.k 3 rfl<|.k 4 rfl<|.k 5 rfl<|.k 12 rfl<|.k 13 rfl<|.k 14 rfl<|.k 15 rfl<|.k 16 rfl<|.nil), (.k 0 rfl<|.k 1 rfl<|.k 2 rfl<|.k 3 rfl<|.k 4 rfl<|.nil), ?_⟩)
         refine zC<|zF (zG [] (.r 4 (yI 4 ag41 (.t rfl) rfl zJ rfl rfl)<|.r 0 (yI 0 ag41 (.t rfl) rfl zJ rfl rfl)<|.n (zP (within_ok hW.w) ⟨(.t rfl), (.k rfl), (.t rfl),  trivial⟩)<|.n (op_not (.t rfl))<|.nil) ff rfl fun g26 => ⟨_, _, [0, 1, 2, 3], rfl, (.k 3 rfl<|.k 4 rfl<|.k 5 rfl<|.k 12 rfl<|.k 13 rfl<|.k 14 rfl<|.k 15 rfl<|.k 183 rfl<|.nil), (.k 0 rfl<|.k 1 rfl<|.k 2 rfl<|.k 3 rfl<|.nil), ?_⟩)
         refine zC<|zH (zK (.t rfl)) (fun h12 => ?_) (fun h12 => ?_)
         ·have h12' := h12
          try simp only [cmpB, Z] at h12
          cases h12'
         ·have h12' := h12
          try simp only [cmpB, Z] at h12
          refine yE<|zR<|zC<|(zG [] (.n (zA (.t rfl))<|.n (yK (.t rfl) (.k rfl) (zO (by omega) (by omega)))<|.n (zB (.t rfl))<|.nil) ff rfl fun g27 => ⟨_, _, [0, 1, 2, 3], rfl, (.k 3 rfl<|.k 4 rfl<|.k 5 rfl<|.k 12 rfl<|.k 13 rfl<|.k 14 rfl<|.k 15 rfl<|.nil), (.k 0 rfl<|.k 1 rfl<|.k 2 rfl<|.k 3 rfl<|.nil), ?_⟩)
          exact yW (q + 1) (by omega) (by omega) (To.pick (fun _ => .sub (t := 15) rfl (yO (by rfl))<|.k 3 rfl<|.k 4 rfl<|.k 5 rfl<|.k 12 rfl<|.k 13 rfl<|.k 14 rfl<|.nil) (fun _ => .sub 0 rfl ((fun _ _ h => h))<|.k 1 rfl<|.k 2 rfl<|.k 3 rfl<|.nil) (ks := [0, 1, 2, 3]) rfl)
        ·try simp only [cmpB, Z] at h11
         refine J_exit ?_
         refine zE<|zE<|zS<|zC<|zF (zG [] (.n (zB (.k rfl))<|.nil) ff rfl fun g28 => ⟨_, _, [1, 2, 3], rfl, (.k 3 rfl<|.k 4 rfl<|.k 5 rfl<|.k 12 rfl<|.k 17 rfl<|.nil), (.k 1 rfl<|.k 2 rfl<|.k 3 rfl<|.nil), ?_⟩)
         refine zC<|zT<|J_loopc (α := Nat) (fun s => s ≤ p + 1) (fun s => p + 1 - s) (fun s restR => (17, isv (.int .i64 (s : Int))) :: restR) (fun s restS => restS) (ρc := [(3, _), (4, _), (5, _), (12, _)]) (σc := [_, _, _]) 0 (by exact Nat.zero_le _) (To.pick (fun _ => .sub (t := 17) rfl (yO (by rfl))<|.k 3 rfl<|.k 4 rfl<|.k 5 rfl<|.k 12 rfl<|.nil) (fun _ => .k 0 rfl<|.k 1 rfl<|.k 2 rfl<|.nil) (ks := [0, 1, 2]) rfl) (fun s hI => ?_)
         refine zF<|zF (zG [] (.n (zA (.t rfl))<|.n (zA (.t rfl))<|.n (yB (by simp) (.t rfl) (.t rfl) rfl)<|.nil) ff rfl fun g29 => ⟨_, _, [0, 1, 2], rfl, (.k 3 rfl<|.k 4 rfl<|.k 5 rfl<|.k 12 rfl<|.k 17 rfl<|.k 186 rfl<|.nil), (.k 0 rfl<|.k 1 rfl<|.k 2 rfl<|.nil), ?_⟩)
         refine zC<|zH (zK (.t rfl)) (fun h13 => ?_) (fun h13 => ?_)
         ·try simp only [cmpB, Z] at h13
          have hU := ort_u hO hTm (i := p) (j := s) (by omega) (by omega)
          refine yE<|zC<|zF<|zT<|yN (To.emps 1) ?_
          refine zF (zG [[], [], [0, 1], [], [], [0, 1, 2, 3, 4], [0, 1, 2, 3, 4, 5], [], [0, 1, 2, 3, 4, 5, 6, 7]] (.r 1 (yI 1 ag28 (.t rfl) rfl zJ rfl rfl)<|.n (zA (.t rfl))<|.n (zP (qcol_ok hg1 (by omega) (by omega)) ⟨(.t rfl), (.t rfl),  trivial⟩)<|.r 1 (yI 1 ag28 (.t rfl) rfl zJ rfl rfl)<|.n (zA (.t rfl))<|.n (zP (qcol_ok hg1 (by omega) (by omega)) ⟨(.t rfl), (.t rfl),  trivial⟩)<|.n (zP (xdot_ok hU.d) ⟨(.t rfl), (.t rfl),  trivial⟩)<|.w 3 (yT 3 zr41 rfl rfl)<|.w 3 (op_store_new 3 rfl (.t rfl) yL sz41 rfl rfl)<|.nil) (fun _ => mixed) rfl fun g30 => ⟨_, _, [0, 1, 2, 3], rfl, (.k 3 rfl<|.k 4 rfl<|.k 5 rfl<|.k 12 rfl<|.k 17 rfl<|.k 18 rfl<|.nil), (.k 0 rfl<|.k 1 rfl<|.k 2 rfl<|.k 3 rfl<|.nil), ?_⟩)
          refine zC<|zF<|zF (zG [] (.n (zA (.t rfl))<|.n (zA (.t rfl))<|.n (yB (by simp) (.t rfl) (.t rfl) rfl)<|.nil) ff rfl fun g31 => ⟨_, _, [0, 1, 2, 3], rfl, (.k 3 rfl<|.k 4 rfl<|.k 5 rfl<|.k 12 rfl<|.k 17 rfl<|.k 18 rfl<|.k 198 rfl<|.nil), (.k 0 rfl<|.k 1 rfl<|.k 2 rfl<|.k 3 rfl<|.nil), ?_⟩)
          refine zC<|zH (zK (.t rfl)) (fun h14 => ?_) (fun h14 => ?_)
          ·try simp only [cmpB, Z] at h14
           have hV := hU.yes (by omega)
           refine (zG [[], [], [0, 1], [0, 1, 2]] (.r 3 (yI 3 ag41 (.t rfl) rfl zJ rfl rfl)<|.n (zP (xwhole1_ok) ⟨(.k rfl),  trivial⟩)<|.n (zP (xadd_ok hV.1 hV.2.1 hV.2.2.1) ⟨(.t rfl), (.t rfl),  trivial⟩)<|.w 3 (yM 3 (.t rfl) (.t rfl) yL sz41 rfl rfl rfl)<|.nil) (fun _ => mixed) rfl fun g32 => ⟨_, _, [0, 1, 2, 3], rfl, (.k 3 rfl<|.k 4 rfl<|.k 5 rfl<|.k 12 rfl<|.k 17 rfl<|.k 18 rfl<|.nil), (.k 0 rfl<|.k 1 rfl<|.k 2 rfl<|.k 3 rfl<|.nil), ?_⟩)
           refine zC<|zF (zG [] (.r 3 (yI 3 ag41 (.t rfl) rfl zJ rfl rfl)<|.n (zP (xabs_ok hV.2.2.2.h0) ⟨(.t rfl),  trivial⟩)<|.n (zP (xpow_ok) ⟨(.k rfl),  trivial⟩)<|.n (zP (xcmp_ok hV.2.2.2.ha hV.2.2.2.hp hV.2.2.2.hn hV.2.2.2.sm) ⟨(.t rfl), (.t rfl),  trivial⟩)<|.n (yB (by simp) (.t rfl) (.k rfl) rfl)<|.nil) ff rfl fun g33 => ⟨_, _, [0, 1, 2], rfl, (.k 3 rfl<|.k 4 rfl<|.k 5 rfl<|.k 12 rfl<|.k 17 rfl<|.k 206 rfl<|.nil), (.k 0 rfl<|.k 1 rfl<|.k 2 rfl<|.nil), ?_⟩)
           refine zC<|zH (zK (.t rfl)) (fun h15 => ?_) (fun h15 => ?_)
           ·have h15' := h15
            try simp only [cmpB, Z] at h15
            exact absurd h15' (by have := hV.2.2.2.yes; simp [cmpB]; omega)
           ·have h15' := h15
            try simp only [cmpB, Z] at h15
            refine yE<|zR<|zC<|(zG [] (.n (zA (.t rfl))<|.n (yK (.t rfl) (.k rfl) (zO (by omega) (by omega)))<|.n (zB (.t rfl))<|.nil) ff rfl fun g34 => ⟨_, _, [0, 1, 2], rfl, (.k 3 rfl<|.k 4 rfl<|.k 5 rfl<|.k 12 rfl<|.k 17 rfl<|.nil), (.k 0 rfl<|.k 1 rfl<|.k 2 rfl<|.nil), ?_⟩)
            exact yW (s + 1) (by omega) (by omega) (To.pick (fun _ => .sub (t := 17) rfl (yO (by rfl))<|.k 3 rfl<|.k 4 rfl<|.k 5 rfl<|.k 12 rfl<|.nil) (fun _ => .k 0 rfl<|.k 1 rfl<|.k 2 rfl<|.nil) (ks := [0, 1, 2]) rfl)
          ·try simp only [cmpB, Z] at h14
           have hV := hU.no (by omega)
           refine yE<|zC<|zF (zG [] (.r 3 (yI 3 ag41 (.t rfl) rfl zJ rfl rfl)<|.n (zP (xabs_ok hV.h0) ⟨(.t rfl),  trivial⟩)<|.n (zP (xpow_ok) ⟨(.k rfl),  trivial⟩)<|.n (zP (xcmp_ok hV.ha hV.hp hV.hn hV.sm) ⟨(.t rfl), (.t rfl),  trivial⟩)<|.n (yB (by simp) (.t rfl) (.k rfl) rfl)<|.nil) ff rfl fun g35 => ⟨_, _, [0, 1, 2], rfl, (.k 3 rfl<|.k 4 rfl<|.k 5 rfl<|.k 12 rfl<|.k 17 rfl<|.k 206 rfl<|.nil), (.k 0 rfl<|.k 1 rfl<|.k 2 rfl<|.nil), ?_⟩)
           refine zC<|zH (zK (.t rfl)) (fun h16 => ?_) (fun h16 => ?_)
           ·have h16' := h16
            try simp only [cmpB, Z] at h16
            exact absurd h16' (by have := hV.yes; simp [cmpB]; omega)
           ·have h16' := h16
            try simp only [cmpB, Z] at h16
            refine yE<|zR<|zC<|(zG [] (.n (zA (.t rfl))<|.n (yK (.t rfl) (.k rfl) (zO (by omega) (by omega)))<|.n (zB (.t rfl))<|.nil) ff rfl fun g36 => ⟨_, _, [0, 1, 2], rfl, (.k 3 rfl<|.k 4 rfl<|.k 5 rfl<|.k 12 rfl<|.k 17 rfl<|.nil), (.k 0 rfl<|.k 1 rfl<|.k 2 rfl<|.nil), ?_⟩)
            exact yW (s + 1) (by omega) (by omega) (To.pick (fun _ => .sub (t := 17) rfl (yO (by rfl))<|.k 3 rfl<|.k 4 rfl<|.k 5 rfl<|.k 12 rfl<|.nil) (fun _ => .k 0 rfl<|.k 1 rfl<|.k 2 rfl<|.nil) (ks := [0, 1, 2]) rfl)
         ·try simp only [cmpB, Z] at h13
          refine J_exit ?_
          refine zE<|zE<|zS<|zR<|zC<|(zG [] (.n (zA (.t rfl))<|.n (yK (.t rfl) (.k rfl) (zO (by omega) (by omega)))<|.n (zB (.t rfl))<|.nil) ff rfl fun g37 => ⟨_, _, [0, 1, 2], rfl, (.k 3 rfl<|.k 4 rfl<|.k 5 rfl<|.k 12 rfl<|.nil), (.k 0 rfl<|.k 1 rfl<|.k 2 rfl<|.nil), ?_⟩)
          exact yW (p + 1) (by omega) (by omega) (To.pick (fun _ => .sub (t := 12) rfl (yO (by rfl))<|.k 3 rfl<|.k 4 rfl<|.k 5 rfl<|.nil) (fun _ => .k 0 rfl<|.k 1 rfl<|.k 2 rfl<|.nil) (ks := [0, 1, 2]) rfl)
       ·try simp only [cmpB, Z] at h10
        refine J_exit ?_
        refine zE<|zE<|zS<|zC<|zF (zG [] (.n (zB (.k rfl))<|.nil) ff rfl fun g38 => ⟨_, _, [], rfl, (.k 2 rfl<|.nil), (.nil), ?_⟩)
        refine zC<|yF<|zQ (.cons (.tmp (.t rfl))<|.nil) (zM (yD zL) ?_)
        exact zL
end Go.Proofs.YtllkellonjhalaaGreat
