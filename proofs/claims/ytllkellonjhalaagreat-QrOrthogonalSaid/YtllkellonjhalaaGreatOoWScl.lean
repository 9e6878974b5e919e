/- Printed by a program of ours (walk.py): walks of scaling by the second reference. -/
import Derived.Test.YtllkellonjhalaaGreatOoKb
import Derived.Test.YtllkellonjhalaaGreatProg
import Derived.KernelRfl
import Derived.Test.YtllkellonjhalaaGreatOoTypes
import Derived.Test.YtllkellonjhalaaGreatOoWRnd
import Derived.Test.YtllkellonjhalaaGreatOoWRef8
import Derived.Test.YtllkellonjhalaaGreatOoLdx
set_option linter.unusedVariables false
set_option linter.unusedSimpArgs false
set_option maxRecDepth 20000
set_option maxHeartbeats 1000000
namespace Go.Proofs.YtllkellonjhalaaGreat
open Go Go.Bn
attribute [local irreducible] OpOK
theorem ftake_ok {b : Nat} (hb : b < 2 ^ 64) : Ct Tryz.prog 125 [dblP, isv (.int .u64 (b : Int))] (numP (takN b)) := by
 refine Ct.of Tryz.func125 rfl (by kernel_rfl) rfl fun c0 => ?_
 have hfl := frac_lt b
 have hel := expo_lt b
 refine yN (To.emps 2) ?_
 refine zF (zG [] (.w 0 (op_box 0 (.t rfl) yL rfl)<|.w 1 (yT 1 zr159 rfl rfl)<|.nil) ff rfl fun g1 => ⟨_, _, [0, 1], rfl, (.k 1 rfl<|.k 2 rfl<|.k 4 rfl<|.nil), (.k 0 rfl<|.k 1 rfl<|.nil), ?_⟩)
 refine zC<|zF (zG [] (.n (zA (.t rfl))<|.n (zI fd161_0 (.t rfl) rfl)<|.r 0 (zN 0 sc3 (.t rfl) rfl zJ rfl)<|.n (op_sub (.t rfl) (.k rfl) (zO (by omega) (by omega)))<|.n (yG it3 it131 (.t rfl) (by decide +kernel : _ = (52 : Int)))<|.n (op_shl (.k rfl) (.t rfl) (by omega) (by decide +kernel : _ = (4503599627370496 : Int)))<|.n (op_sub (.t rfl) (.k rfl) (by decide +kernel : _ = (4503599627370495 : Int)))<|.n (op_bits (by simp) (.t rfl) (.t rfl) (show _ = ((frac b : Nat) : Int) from and_frac b hb))<|.n (zB (.t rfl))<|.nil) ff rfl fun g2 => ⟨_, _, [0, 1], rfl, (.k 1 rfl<|.k 2 rfl<|.k 4 rfl<|.k 5 rfl<|.nil), (.k 0 rfl<|.k 1 rfl<|.nil), ?_⟩)
 refine zC<|zF (zG [] (.n (zA (.t rfl))<|.n (zI fd161_0 (.t rfl) rfl)<|.r 0 (zN 0 sc3 (.t rfl) rfl zJ rfl)<|.n (op_sub (.t rfl) (.k rfl) (zO (by omega) (by omega)))<|.n (yG it3 it131 (.t rfl) (by decide +kernel : _ = (52 : Int)))<|.n (op_shr (.t rfl) (.t rfl) (by omega) (shr_bits b 52 (by omega)))<|.n (zI fd161_3 (.t rfl) rfl)<|.r 0 (zN 0 sc3 (.t rfl) rfl zJ rfl)<|.n (yG it3 it131 (.t rfl) (by decide +kernel : _ = (11 : Int)))<|.n (op_shl (.k rfl) (.t rfl) (by omega) (by decide +kernel : _ = (2048 : Int)))<|.n (op_sub (.t rfl) (.k rfl) (by decide +kernel : _ = (2047 : Int)))<|.n (op_bits (by simp) (.t rfl) (.t rfl) (and_expo b hb))<|.n (yG it34 it3 (.t rfl) (expo_i64 b))<|.n (zB (.t rfl))<|.nil) ff rfl fun g3 => ⟨_, _, [0, 1], rfl, (.k 1 rfl<|.k 2 rfl<|.k 4 rfl<|.k 5 rfl<|.k 6 rfl<|.nil), (.k 0 rfl<|.k 1 rfl<|.nil), ?_⟩)
 refine zC<|yN (To.emps 2) ?_
 refine zF (zG [[], [], [1], [1, 2], [], [4], [1, 2, 3, 4, 5], [1, 2, 3, 4, 5, 6], [0, 1, 2, 3, 4, 5, 6, 7], [0, 1, 2, 3, 4, 5, 6, 7, 8], [0, 1, 2, 3, 4, 5, 6, 7, 8, 9], [], [], [11, 12], [], [14], [], [16], [14, 15, 16, 17], [14, 15, 16, 17, 18], [0, 1, 2, 3, 4, 5, 6, 7, 8, 9, 10, 11, 12, 13, 14, 15, 16, 17, 18, 19], [], [0, 1, 2, 3, 4, 5, 6, 7, 8, 9, 10, 11, 12, 13, 14, 15, 16, 17, 18, 19, 20, 21]] (.n (zA (.t rfl))<|.n (zI fd161_0 (.t rfl) rfl)<|.r 0 (zN 0 sc3 (.t rfl) rfl zJ rfl)<|.n (op_sub (.t rfl) (.k rfl) (zO (by omega) (by omega)))<|.n (zI fd161_3 (.t rfl) rfl)<|.r 0 (zN 0 sc3 (.t rfl) rfl zJ rfl)<|.n (yK (.t rfl) (.t rfl) (zO (by omega) (by omega)))<|.n (yG it3 it131 (.t rfl) (by decide +kernel : _ = (63 : Int)))<|.n (op_shr (.t rfl) (.t rfl) (by omega) (shr_bits b 63 (by omega)))<|.n (op_bits (by simp) (.t rfl) (.k rfl) rfl)<|.n (yB (by simp) (.t rfl) (.k rfl) (and_sign b hb))<|.w 2 (yT 2 zr96 rfl rfl)<|.n (zA (.t rfl))<|.w 2 (op_callMp 2 rfl rfl (fun u => isetu_ok (n := frac b) (by omega)) rfl ⟨(.t rfl),  trivial⟩)<|.n (zI fd161_1 (.t rfl) rfl)<|.r 0 (zN 0 sc3 (.t rfl) rfl zJ rfl)<|.n (zI fd161_0 (.t rfl) rfl)<|.r 0 (zN 0 sc3 (.t rfl) rfl zJ rfl)<|.n (op_sub (.t rfl) (.t rfl) (zO (by omega) (by omega)))<|.n (yK (.t rfl) (.k rfl) (zO (by omega) (by omega)))<|.n (op_ve 42 49 rfl rfl rfl (fun f => (op_build zr159 rfl pl159 (.cons rfl (.t rfl) co_isv rfl (yU rfl (Nat.le_of_ble_eq_true rfl)) (.cons rfl (.t rfl) co_ipo rfl (yU rfl (Nat.le_of_ble_eq_true rfl)) (.cons rfl (.t rfl) co_isv rfl (yU rfl (Nat.le_of_ble_eq_true rfl)) .nil))))) (fun f g h => by rw [h 42 (show 42 ∈ [42] from by decide)]) rfl)<|.w 3 (yT 3 zr159 rfl rfl)<|.w 3 (op_store_new_ve 3 rfl rfl rfl (fun f => yL) (fun f g h => by rw [h 42 (show 42 ∈ [42] from by decide)]) (fun _ => sz159) rfl (fun _ => rfl) rfl)<|.nil) (fun _ => mixed) rfl fun g4 => ⟨_, _, [0, 1, 2, 3], rfl, (.k 2 rfl<|.k 4 rfl<|.k 5 rfl<|.k 6 rfl<|.k 7 rfl<|.nil), (.k 0 rfl<|.k 1 rfl<|.k 2 rfl<|.k 3 rfl<|.nil), ?_⟩)
 refine zC<|zF<|zF (zG [] (.n (zA (.t rfl))<|.n (zI fd161_3 (.t rfl) rfl)<|.r 0 (zN 0 sc3 (.t rfl) rfl zJ rfl)<|.n (yG it3 it131 (.t rfl) (by decide +kernel : _ = (11 : Int)))<|.n (op_shl (.k rfl) (.t rfl) (by omega) (by decide +kernel : _ = (2048 : Int)))<|.n (op_sub (.t rfl) (.k rfl) (zO (by omega) (by omega)))<|.n (yB (by simp) (.t rfl) (.t rfl) rfl)<|.nil) ff rfl fun g5 => ⟨_, _, [0, 1, 2, 3], rfl, (.k 2 rfl<|.k 4 rfl<|.k 5 rfl<|.k 6 rfl<|.k 7 rfl<|.k 56 rfl<|.nil), (.k 0 rfl<|.k 1 rfl<|.k 2 rfl<|.k 3 rfl<|.nil), ?_⟩)
 refine zC<|zH (zK (.t rfl)) (fun h1 => ?_) (fun h1 => ?_)
 ·try simp only [cmpB, Z] at h1
  refine zF (zG [] (.n (zI fd159_0 (.t rfl) rfl)<|.w 3 (yM 3 (.t rfl) (.k rfl) co_isv sz3 rfl rfl rfl)<|.nil) ff rfl fun g6 => ⟨_, _, [1, 2, 3], rfl, (.k 4 rfl<|.k 5 rfl<|.k 7 rfl<|.nil), (.k 1 rfl<|.k 2 rfl<|.k 3 rfl<|.nil), ?_⟩)
  refine zC<|zF<|zF (zG [] (.n (zA (.t rfl))<|.n (yB (by simp) (.t rfl) (.k rfl) rfl)<|.nil) ff rfl fun g7 => ⟨_, _, [0, 1, 2], rfl, (.k 4 rfl<|.k 7 rfl<|.k 59 rfl<|.nil), (.k 0 rfl<|.k 1 rfl<|.k 2 rfl<|.nil), ?_⟩)
  refine zC<|zH (zK (.t rfl)) (fun h2 => ?_) (fun h2 => ?_)
  ·try simp only [cmpB, Z] at h2
   refine yN (To.emps 1) ?_
   refine zF (zG [] (.w 3 (yT 3 zr96 rfl rfl)<|.n (op_ve 60 61 rfl rfl rfl (fun f => (op_build zr159 rfl pl159 (.cons rfl (.k rfl) co_isv rfl (yU rfl (Nat.le_of_ble_eq_true rfl)) (.cons rfl (.t rfl) co_ipo rfl (yU rfl (Nat.le_of_ble_eq_true rfl)) .nil)))) (fun f g h => by rw [h 60 (show 60 ∈ [60] from by decide)]) rfl)<|.w 0 (op_ver 61 rfl rfl (fun f => yM 0 (.t rfl) (.t rfl) yL sz159 rfl rfl rfl) (fun f g h => by rw [h 60 (show 60 ∈ [60] from by decide)]) rfl)<|.nil) ff rfl fun g8 => ⟨_, _, [0, 3], rfl, (.k 4 rfl<|.nil), (.k 0 rfl<|.k 3 rfl<|.nil), ?_⟩)
   refine zC<|yF<|zD<|zD<|JN_to (To.freeze 1 (fun _ h => h) rfl frz_blk rfl) ?_
   refine zQ (.cons (.ag 0 (.t rfl) ag159 rfl rfl rfl)<|.nil) (zM (yD (sb_agg (.cons zL<|.cons zL<|.cons (zM (sb_ok 0 2 rfl rfl) (sb_ptp (.cons zL<|.cons (sb_nil (mk := inp .u32))<|.nil)))<|.cons zL<|.nil))) ?_)
   exact sb_eq (by rw [take_nan (by have := h1; omega) (by have := h2; omega)]; show _ = aggp [_, _, intP 0, _]; rw [intP_zero])
  ·try simp only [cmpB, Z] at h2
   refine yE<|zC<|zF (zG [] (.r 2 (yI 2 ag159 (.t rfl) rfl zJ rfl rfl)<|.w 0 (yM 0 (.t rfl) (.t rfl) yL sz159 rfl rfl rfl)<|.nil) ff rfl fun g9 => ⟨_, _, [0, 1], rfl, (.k 4 rfl<|.nil), (.k 0 rfl<|.k 1 rfl<|.nil), ?_⟩)
   refine zC<|yF<|zD<|JN_to (To.freeze 1 (fun _ h => h) rfl frz_blk rfl) ?_
   refine zQ (.cons (.ag 0 (.t rfl) ag159 rfl rfl rfl)<|.nil) (zM (yD (sb_agg (.cons zL<|.cons zL<|.cons (sb_ok 0 2 rfl rfl)<|.cons zL<|.nil))) ?_)
   exact sb_eq (by rw [take_inf (by have := h1; omega) (by have := h2; omega)]; rfl)
 ·try simp only [cmpB, Z] at h1
  refine yE<|zC<|zF<|zF (zG [] (.n (zA (.t rfl))<|.n (yB (by simp) (.t rfl) (.k rfl) rfl)<|.nil) ff rfl fun g10 => ⟨_, _, [0, 1, 2, 3], rfl, (.k 2 rfl<|.k 4 rfl<|.k 5 rfl<|.k 6 rfl<|.k 7 rfl<|.k 64 rfl<|.nil), (.k 0 rfl<|.k 1 rfl<|.k 2 rfl<|.k 3 rfl<|.nil), ?_⟩)
  refine zC<|zH (zK (.t rfl)) (fun h3 => ?_) (fun h3 => ?_)
  ·try simp only [cmpB, Z] at h3
   refine zF (zG [] (.n (zI fd159_2 (.t rfl) rfl)<|.r 3 (zN 3 sc39 (.t rfl) rfl zJ rfl)<|.n (zA (.t rfl))<|.n (zI fd161_0 (.t rfl) rfl)<|.r 0 (zN 0 sc3 (.t rfl) rfl zJ rfl)<|.n (op_sub (.t rfl) (.k rfl) (zO (by omega) (by omega)))<|.n (yG it3 it131 (.t rfl) (by decide +kernel : _ = (52 : Int)))<|.n (op_shl (.k rfl) (.t rfl) (by omega) (by decide +kernel : _ = (4503599627370496 : Int)))<|.n (op_bits (by simp) (.t rfl) (.t rfl) (or_frac b))<|.w 2 (op_callM 2 (isetu_ok (n := frac b + 4503599627370496) (by omega)) ⟨(.t rfl), (.t rfl),  trivial⟩ rfl)<|.nil) ff rfl fun g11 => ⟨_, _, [0, 1, 2, 3], rfl, (.k 2 rfl<|.k 4 rfl<|.k 6 rfl<|.k 7 rfl<|.nil), (.k 0 rfl<|.k 1 rfl<|.k 2 rfl<|.k 3 rfl<|.nil), ?_⟩)
   refine zC<|(zG [] (.n (zA (.t rfl))<|.n (op_sub (.t rfl) (.k rfl) (zO (by omega) (by omega)))<|.n (zI fd161_1 (.t rfl) rfl)<|.r 0 (zN 0 sc3 (.t rfl) rfl zJ rfl)<|.n (yK (.t rfl) (.t rfl) (zO (by omega) (by omega)))<|.n (zI fd161_0 (.t rfl) rfl)<|.r 0 (zN 0 sc3 (.t rfl) rfl zJ rfl)<|.n (op_sub (.t rfl) (.t rfl) (zO (by omega) (by omega)))<|.n (yK (.t rfl) (.k rfl) (zO (by omega) (by omega)))<|.n (zI fd159_3 (.t rfl) rfl)<|.w 3 (yM 3 (.t rfl) (.t rfl) co_isv sz3 rfl rfl rfl)<|.nil) ff rfl fun g12 => ⟨_, _, [1, 2, 3], rfl, (.k 4 rfl<|.k 7 rfl<|.nil), (.k 1 rfl<|.k 2 rfl<|.k 3 rfl<|.nil), ?_⟩)
   refine zC<|zF (zG [] (.r 2 (yI 2 ag159 (.t rfl) rfl zJ rfl rfl)<|.w 0 (yM 0 (.t rfl) (.t rfl) yL sz159 rfl rfl rfl)<|.nil) ff rfl fun g13 => ⟨_, _, [0, 1], rfl, (.k 4 rfl<|.nil), (.k 0 rfl<|.k 1 rfl<|.nil), ?_⟩)
   refine zC<|yF<|JN_to (To.freeze 1 (fun _ h => h) rfl frz_blk rfl) ?_
   refine zQ (.cons (.ag 0 (.t rfl) ag159 rfl rfl rfl)<|.nil) (zM (yD (sb_agg (.cons zL<|.cons zL<|.cons (sb_ok 0 2 rfl rfl)<|.cons zL<|.nil))) ?_)
   exact sb_eq (by rw [take_nrm (by have := h1; omega) (by have := h3; omega)]; simp only [show (expo b : Int) - 1 + -1022 - 53 + 1 = (expo b : Int) - 1 - 1074 by omega])
  ·try simp only [cmpB, Z] at h3
   refine yE<|zC<|zF (zG [] (.r 3 (yI 3 ag159 (.t rfl) rfl zJ rfl rfl)<|.w 1 (yM 1 (.t rfl) (.t rfl) yL sz159 rfl rfl rfl)<|.nil) ff rfl fun g14 => ⟨_, _, [1, 2], rfl, (.k 4 rfl<|.nil), (.k 1 rfl<|.k 2 rfl<|.nil), ?_⟩)
   refine zC<|yF<|JN_to (To.freeze 1 (fun _ h => h) rfl frz_blk rfl) ?_
   refine zQ (.cons (.ag 0 (.t rfl) ag159 rfl rfl rfl)<|.nil) (zM (yD (sb_agg (.cons zL<|.cons zL<|.cons (sb_ok 0 2 rfl rfl)<|.cons zL<|.nil))) ?_)
   exact sb_eq (by rw [take_sub (by have := h3; omega)]; rfl)
theorem fround_ok {neg : Bool} {m : Nat} {e : Int} (hm : m ≠ 0) (hm2 : m < 18446744073709551616) (h0 : -10000 ≤ e) (h1 : e ≤ 10000) : Ct Tryz.prog 135 [dblP, isv (.bool neg), intP (m : Int), isv (.int .i64 e), isv (.bool false), isv (.int .i64 0)] (tupp [isv (.int .u64 ((Ieee.double.nearest neg m e : Nat) : Int)), anyp]) := by
 refine Ct.of Tryz.func135 rfl (by kernel_rfl) rfl fun c0 => ?_
 have hml : Sml (m : Int) := sml_of (by omega)
 have hbl := bl_pos hm
 have hb64 := bl_lt (t := m) (k := 64) hm2
 have hqd : qtm m e = max (e + m.log2 - 52) (-1074) := rfl
 obtain ⟨K, hKe⟩ : ∃ K, kpt neg m e = K := ⟨_, rfl⟩
 have hKb := kpt_le (neg := neg) (e := e) hm
 have hKf : K = kpt neg m e := Eq.symm hKe
 rw [hKe] at hKb
 have hKs := hKb.2
 have hKl := hKb.1
 have hKsm : Sml (K : Int) := sml_of (by omega)
 have hK64 := bl_lt (t := K) (k := 54) (Nat.lt_of_le_of_lt hKl (by decide))
 have hblh := bl_half
 refine yN (To.emps 1) ?_
 refine zF (zG [] (.w 0 (op_box 0 (.t rfl) yL rfl)<|.n (zB (.k rfl))<|.n (zB (.k rfl))<|.nil) ff rfl fun g1 => ⟨_, _, [0], rfl, (.k 1 rfl<|.k 2 rfl<|.k 3 rfl<|.k 4 rfl<|.k 5 rfl<|.k 6 rfl<|.nil), (.k 0 rfl<|.nil), ?_⟩)
 refine zC<|zF (zG [] (.n (zA (.t rfl))<|.n (zA (.t rfl))<|.n (zP (ibl_ok (by assumption)) ⟨(.t rfl),  trivial⟩)<|.n (yK (.t rfl) (.t rfl) (zO (by omega) (by omega)))<|.n (op_sub (.t rfl) (.k rfl) (zO (by omega) (by omega)))<|.n (zB (.t rfl))<|.nil) ff rfl fun g2 => ⟨_, _, [0], rfl, (.k 1 rfl<|.k 2 rfl<|.k 3 rfl<|.k 4 rfl<|.k 5 rfl<|.k 6 rfl<|.k 14 rfl<|.nil), (.k 0 rfl<|.nil), ?_⟩)
 refine zC<|zF (zG [] (.n (zA (.t rfl))<|.n (zI fd161_0 (.t rfl) rfl)<|.r 0 (zN 0 sc3 (.t rfl) rfl zJ rfl)<|.n (op_sub (.t rfl) (.t rfl) (zO (by omega) (by omega)))<|.n (yK (.t rfl) (.k rfl) (zO (by omega) (by omega)))<|.n (zI fd161_1 (.t rfl) rfl)<|.r 0 (zN 0 sc3 (.t rfl) rfl zJ rfl)<|.n (zI fd161_0 (.t rfl) rfl)<|.r 0 (zN 0 sc3 (.t rfl) rfl zJ rfl)<|.n (op_sub (.t rfl) (.t rfl) (zO (by omega) (by omega)))<|.n (yK (.t rfl) (.k rfl) (zO (by omega) (by omega)))<|.n (op_imax (.t rfl) (.t rfl))<|.n (zB (.t rfl))<|.nil) ff rfl fun g3 => ⟨_, _, [0], rfl, (.k 1 rfl<|.k 2 rfl<|.k 3 rfl<|.k 4 rfl<|.k 5 rfl<|.k 6 rfl<|.k 14 rfl<|.k 15 rfl<|.nil), (.k 0 rfl<|.nil), ?_⟩)
 refine zC<|yN (To.emps 1) ?_
 refine zF (zG [] (.w 1 (yT 1 zr96 rfl rfl)<|.n (zA (.t rfl))<|.w 1 (op_callMp 1 rfl rfl (fun u => iset_ok hml) rfl ⟨(.t rfl),  trivial⟩)<|.n (yX rfl rfl)<|.n (zB (.k rfl))<|.nil) ff rfl fun g4 => ⟨_, _, [0, 1], rfl, (.k 1 rfl<|.k 2 rfl<|.k 3 rfl<|.k 4 rfl<|.k 5 rfl<|.k 6 rfl<|.k 14 rfl<|.k 15 rfl<|.k 16 rfl<|.k 17 rfl<|.nil), (.k 0 rfl<|.k 1 rfl<|.nil), ?_⟩)
 refine zC<|zF<|yN (To.slot 15 rfl (q := isv (.int .i64 (qtm m e))) (sb_eq (by rw [hqd, hbl, show (e + ((m.log2 + 1 : Nat) : Int) - 1 - 53 + 1) = e + m.log2 - 52 by omega, show ((-1022 : Int) - 53 + 1) = -1074 by decide]))) ?_
 refine zF (zG [] (.n (zA (.t rfl))<|.n (zA (.t rfl))<|.n (yB (by simp) (.t rfl) (.t rfl) rfl)<|.nil) ff rfl fun g5 => ⟨_, _, [0, 1], rfl, (.k 1 rfl<|.k 2 rfl<|.k 3 rfl<|.k 4 rfl<|.k 5 rfl<|.k 6 rfl<|.k 14 rfl<|.k 15 rfl<|.k 16 rfl<|.k 17 rfl<|.k 42 rfl<|.nil), (.k 0 rfl<|.k 1 rfl<|.nil), ?_⟩)
 refine zC<|zH (zK (.t rfl)) (fun h1 => ?_) (fun h1 => ?_)
 ·try simp only [cmpB, Z] at h1
  have hgE : qtm m e ≤ e := h1
  refine zF (zG [] (.n (zA (.t rfl))<|.n (zA (.t rfl))<|.n (zA (.t rfl))<|.n (zA (.t rfl))<|.n (op_sub (.t rfl) (.t rfl) (zO (by omega) (by omega)))<|.n (yG it3 it131 (.t rfl) (wr64n (by omega) (by omega)))<|.w 1 (op_callM 1 (ilshA_ok hml (by omega)) ⟨(.t rfl), (.t rfl), (.t rfl),  trivial⟩ rfl)<|.nil) ff rfl fun g6 => ⟨_, _, [0, 1], rfl, (.k 1 rfl<|.k 4 rfl<|.k 5 rfl<|.k 6 rfl<|.k 14 rfl<|.k 15 rfl<|.k 16 rfl<|.k 17 rfl<|.nil), (.k 0 rfl<|.k 1 rfl<|.nil), ?_⟩)
  refine zC<|yN (To.res 1 (r' := blk (g4 39) (intC (((m * 2 ^ (e - qtm m e).toNat : Nat) : Int))) 96) rfl (yQ (by rw [nat_mul2])) rfl) ?_
  refine zF (zG [] (.n (zA (.t rfl))<|.nil) ff rfl fun g7 => ⟨_, _, [0, 1], rfl, (.k 1 rfl<|.k 5 rfl<|.k 6 rfl<|.k 14 rfl<|.k 15 rfl<|.k 16 rfl<|.k 17 rfl<|.k 50 rfl<|.nil), (.k 0 rfl<|.k 1 rfl<|.nil), ?_⟩)
  refine zC<|zH (zK (.t rfl)) (fun h2 => ?_) (fun h2 => ?_)
  ·try simp only [cmpB, Z] at h2
   exact absurd h2 (by simp)
  ·try simp only [cmpB, Z] at h2
   refine yE<|zC<|zF ?_
   obtain ⟨k0, hk0e⟩ : ∃ k0 : Nat, m * 2 ^ (e - qtm m e).toNat = k0 := ⟨_, rfl⟩
   rw [hk0e]
   rw [kpt_hi hgE, hk0e] at hKe
   rw [up_no] at hKe
   have hk0 : Sml (k0 : Int) := sml_of (by simp at hKe; omega)
   refine zF (zG [] (.n (zA (.t rfl))<|.n (zA (.t rfl))<|.n (zA (.t rfl))<|.n (zA (.t rfl))<|.r 1 (op_callL 1 (goup_ok hk0) (pure_isv _) ⟨.inl (.t rfl), .inr ⟨_, (.t rfl), lent_blk⟩, .inl (.t rfl), .inl (.t rfl),  trivial⟩ rfl)<|.nil) ff rfl fun g8 => ⟨_, _, [0, 1], rfl, (.k 1 rfl<|.k 5 rfl<|.k 6 rfl<|.k 14 rfl<|.k 15 rfl<|.k 16 rfl<|.k 17 rfl<|.k 64 rfl<|.nil), (.k 0 rfl<|.k 1 rfl<|.nil), ?_⟩)
   refine zC<|zH (zK (.t rfl)) (fun h3 => ?_) (fun h3 => ?_)
   ·have h3' := h3
    try simp only [cmpB, Z] at h3
    exact absurd h3' (by rw [up_no]; decide)
   ·have h3' := h3
    try simp only [cmpB, Z] at h3
    refine yE<|zC ?_
    have hKv : (k0 : Int) = (K : Int) := by simp at hKe; omega
    refine yN (To.res 1 (r' := blk (g4 39) (intC ((K : Int))) 96) rfl (yQ (by exact congrArg (fun z => blk _ (intC z) _) hKv)) rfl) ?_
    refine zF (zG [] (.n (zB (.k rfl))<|.nil) ff rfl fun g9 => ⟨_, _, [0, 1], rfl, (.k 1 rfl<|.k 5 rfl<|.k 6 rfl<|.k 14 rfl<|.k 15 rfl<|.k 16 rfl<|.k 17 rfl<|.k 18 rfl<|.nil), (.k 0 rfl<|.k 1 rfl<|.nil), ?_⟩)
    refine zC<|zF<|zF (zG [] (.n (zA (.t rfl))<|.n (yB (by simp) (.t rfl) (.k rfl) rfl)<|.nil) ff rfl fun g10 => ⟨_, _, [0, 1], rfl, (.k 1 rfl<|.k 5 rfl<|.k 6 rfl<|.k 14 rfl<|.k 15 rfl<|.k 16 rfl<|.k 18 rfl<|.k 70 rfl<|.nil), (.k 0 rfl<|.k 1 rfl<|.nil), ?_⟩)
    refine zC<|J_cutS (ρc := [(1, _), (5, _), (6, _), (15, _), (16, _)]) (ρ1 := [(18, anyp)]) (σ' := [_, _]) (To.pick (fun _ => .k 1 rfl<|.k 5 rfl<|.k 6 rfl<|.k 15 rfl<|.k 16 rfl<|.nil) (fun _ => .k 0 rfl<|.k 1 rfl<|.nil) (ks := [0, 1]) rfl) ?_ ?_
    ·skip
     refine zH (zK (.t rfl)) (fun h4 => ?_) (fun h4 => ?_)
     ·try simp only [cmpB, Z] at h4
      refine zF (zG [] (.n (zB (.k rfl))<|.nil) ff rfl fun g11 => ⟨_, _, [0, 1], rfl, (.k 1 rfl<|.k 5 rfl<|.k 6 rfl<|.k 14 rfl<|.k 15 rfl<|.k 16 rfl<|.k 18 rfl<|.nil), (.k 0 rfl<|.k 1 rfl<|.nil), ?_⟩)
      refine zC<|zF (zG [] (.n (zA (.t rfl))<|.n (zI fd161_1 (.t rfl) rfl)<|.r 0 (zN 0 sc3 (.t rfl) rfl zJ rfl)<|.n (yB (by simp) (.t rfl) (.t rfl) rfl)<|.nil) ff rfl fun g12 => ⟨_, _, [0, 1], rfl, (.k 1 rfl<|.k 5 rfl<|.k 6 rfl<|.k 15 rfl<|.k 16 rfl<|.k 18 rfl<|.k 74 rfl<|.nil), (.k 0 rfl<|.k 1 rfl<|.nil), ?_⟩)
      refine zC<|zH (zK (.t rfl)) (fun h5 => ?_) (fun h5 => ?_)
      ·try simp only [cmpB, Z] at h5
       refine (zG [] (.n (zA (.t rfl))<|.n (op_bits (by simp) (.t rfl) (.k rfl) rfl)<|.n (zB (.t rfl))<|.nil) ff rfl fun g13 => ⟨_, _, [0, 1], rfl, (.k 1 rfl<|.k 5 rfl<|.k 6 rfl<|.k 15 rfl<|.k 16 rfl<|.k 18 rfl<|.nil), (.k 0 rfl<|.k 1 rfl<|.nil), ?_⟩)
       exact JN_cutT (To.pick (fun _ => .sub (t := 18) rfl (sb_any)<|.k 1 rfl<|.k 5 rfl<|.k 6 rfl<|.k 15 rfl<|.k 16 rfl<|.nil) (fun _ => .k 0 rfl<|.k 1 rfl<|.nil) (ks := [0, 1]) rfl)
      ·try simp only [cmpB, Z] at h5
       refine yE ?_
       exact JN_cutT (To.pick (fun _ => .sub (t := 18) rfl (sb_any)<|.k 1 rfl<|.k 5 rfl<|.k 6 rfl<|.k 15 rfl<|.k 16 rfl<|.nil) (fun _ => .k 0 rfl<|.k 1 rfl<|.nil) (ks := [0, 1]) rfl)
     ·try simp only [cmpB, Z] at h4
      refine yE ?_
      exact JN_cutT (To.pick (fun _ => .sub (t := 18) rfl (sb_any)<|.k 1 rfl<|.k 5 rfl<|.k 6 rfl<|.k 15 rfl<|.k 16 rfl<|.nil) (fun _ => .k 0 rfl<|.k 1 rfl<|.nil) (ks := [0, 1]) rfl)
    ·skip
     refine zF<|zF (zG [[], [0], [], [2], [0, 1, 2, 3]] (.n (zA (.t rfl))<|.r 1 (op_callL 1 (ibl_ok hKsm) (pure_isv _) ⟨.inr ⟨_, (.t rfl), lent_blk⟩,  trivial⟩ rfl)<|.n (zI fd161_0 (.t rfl) rfl)<|.r 0 (zN 0 sc3 (.t rfl) rfl zJ rfl)<|.n (yB (by simp) (.t rfl) (.t rfl) rfl)<|.nil) (fun _ => mixed) rfl fun g14 => ⟨_, _, [0, 1], rfl, (.k 1 rfl<|.k 5 rfl<|.k 6 rfl<|.k 15 rfl<|.k 16 rfl<|.k 18 rfl<|.k 81 rfl<|.nil), (.k 0 rfl<|.k 1 rfl<|.nil), ?_⟩)
     refine zC<|zH (zK (.t rfl)) (fun h6 => ?_) (fun h6 => ?_)
     ·try simp only [cmpB, Z] at h6
      have hK2 := k_two hKl h6
      have hKt : Sml ((4503599627370496 : Nat) : Int) := sml_of (by decide)
      have hKu : 4503599627370496 < 18446744073709551616 := by decide
      refine zF (zG [] (.n (zA (.t rfl))<|.n (zA (.t rfl))<|.w 1 (op_callM 1 (irshA_ok (n := 1) hKsm (by omega)) ⟨(.t rfl), (.t rfl), (.k rfl),  trivial⟩ rfl)<|.nil) ff rfl fun g15 => ⟨_, _, [0, 1], rfl, (.k 1 rfl<|.k 5 rfl<|.k 6 rfl<|.k 15 rfl<|.k 16 rfl<|.k 18 rfl<|.nil), (.k 0 rfl<|.k 1 rfl<|.nil), ?_⟩)
      refine zC<|yN (To.res 1 (r' := blk (g4 39) (intC (((4503599627370496 : Nat) : Int))) 96) rfl (yQ (by rw [show K / 2 ^ 1 = 4503599627370496 by omega])) rfl) ?_
      refine (zG [] (.n (zA (.t rfl))<|.n (yK (.t rfl) (.k rfl) (zO (by omega) (by omega)))<|.n (zB (.t rfl))<|.nil) ff rfl fun g16 => ⟨_, _, [0, 1], rfl, (.k 1 rfl<|.k 5 rfl<|.k 6 rfl<|.k 15 rfl<|.k 16 rfl<|.k 18 rfl<|.nil), (.k 0 rfl<|.k 1 rfl<|.nil), ?_⟩)
      refine zC<|zF<|zF (zG [[], [], [1], [0, 1, 2], [0, 1, 2, 3], [], [5], [0, 1, 2, 3, 4, 5, 6]] (.n (zA (.t rfl))<|.n (zA (.t rfl))<|.r 1 (op_callL 1 (ibl_ok hKt) (pure_isv _) ⟨.inr ⟨_, (.t rfl), lent_blk⟩,  trivial⟩ rfl)<|.n (yK (.t rfl) (.t rfl) (zO (by omega) (by omega)))<|.n (op_sub (.t rfl) (.k rfl) (zO (by omega) (by omega)))<|.n (zI fd161_2 (.t rfl) rfl)<|.r 0 (zN 0 sc3 (.t rfl) rfl zJ rfl)<|.n (yB (by simp) (.t rfl) (.t rfl) rfl)<|.nil) (fun _ => mixed) rfl fun g17 => ⟨_, _, [0, 1], rfl, (.k 1 rfl<|.k 5 rfl<|.k 6 rfl<|.k 15 rfl<|.k 16 rfl<|.k 18 rfl<|.k 94 rfl<|.nil), (.k 0 rfl<|.k 1 rfl<|.nil), ?_⟩)
      refine zC<|zH (zK (.t rfl)) (fun h7 => ?_) (fun h7 => ?_)
      ·try simp only [cmpB, Z] at h7
       have hov : 1023 < qtm m e + 1 + 52 := by have h9 := h7; rw [bl_half] at h9; omega
       refine zF (zG [] (.r 0 (yI 0 ag161 (.t rfl) rfl zJ rfl rfl)<|.n (zA (.t rfl))<|.n (zA (.t rfl))<|.n (zP (fover_ok) ⟨(.t rfl), (.t rfl), (.t rfl),  trivial⟩)<|.n (zB (.t rfl))<|.n (zB (.k rfl))<|.nil) ff rfl fun g18 => ⟨_, _, [], rfl, (.k 12 rfl<|.k 13 rfl<|.nil), (.nil), ?_⟩)
       refine zC<|yF<|zD<|zQ (.cons (.tmp (.t rfl))<|.cons (.tmp (.t rfl))<|.nil) (zM (sb_res (.cons zL<|.cons zL<|.nil)) ?_)
       exact sb_tup (.cons (sb_eq (congrArg (fun z : Nat => isv (.int .u64 (z : Int))) (rnd_inf2 hm hKf rfl hK2 hov)))<|.cons sb_any<|.nil)
      ·try simp only [cmpB, Z] at h7
       refine yE<|zC<|zF ?_
       have hov : qtm m e + 1 + 52 ≤ 1023 := by have h9 := h7; rw [bl_half] at h9; omega
       refine zF (zG [[], [0], [], [2], [0, 1, 2, 3]] (.n (zA (.t rfl))<|.r 1 (op_callL 1 (ibl_ok hKt) (pure_isv _) ⟨.inr ⟨_, (.t rfl), lent_blk⟩,  trivial⟩ rfl)<|.n (zI fd161_0 (.t rfl) rfl)<|.r 0 (zN 0 sc3 (.t rfl) rfl zJ rfl)<|.n (yB (by simp) (.t rfl) (.t rfl) rfl)<|.nil) (fun _ => mixed) rfl fun g19 => ⟨_, _, [0, 1], rfl, (.k 1 rfl<|.k 6 rfl<|.k 15 rfl<|.k 16 rfl<|.k 18 rfl<|.k 103 rfl<|.nil), (.k 0 rfl<|.k 1 rfl<|.nil), ?_⟩)
       refine zC<|zH (zK (.t rfl)) (fun h8 => ?_) (fun h8 => ?_)
       ·try simp only [cmpB, Z] at h8
        first | have hKlt := k_small (K := K) h8 | skip
        exact absurd h8 (by omega)
       ·try simp only [cmpB, Z] at h8
        refine yE<|zC<|zF (zG [] (.n (zA (.t rfl))<|.n (zI fd161_1 (.t rfl) rfl)<|.r 0 (zN 0 sc3 (.t rfl) rfl zJ rfl)<|.n (zI fd161_0 (.t rfl) rfl)<|.r 0 (zN 0 sc3 (.t rfl) rfl zJ rfl)<|.n (op_sub (.t rfl) (.t rfl) (zO (by omega) (by omega)))<|.n (yK (.t rfl) (.k rfl) (zO (by omega) (by omega)))<|.n (op_sub (.t rfl) (.t rfl) (zO (by omega) (by omega)))<|.n (yK (.t rfl) (.k rfl) (zO (by omega) (by omega)))<|.n (zB (.t rfl))<|.nil) ff rfl fun g20 => ⟨_, _, [0, 1], rfl, (.k 1 rfl<|.k 6 rfl<|.k 16 rfl<|.k 18 rfl<|.k 19 rfl<|.nil), (.k 0 rfl<|.k 1 rfl<|.nil), ?_⟩)
        refine zC ?_
        have hfn : (qtm m e + 1 + 1075).toNat < 2048 := by omega
        refine yN (To.slot 19 rfl (q := isv (.int .i64 (((qtm m e + 1 + 1075).toNat : Nat) : Int))) (sb_eq (congrArg (fun z => isv (.int .i64 z)) (by omega)))) ?_
        refine zF (zG [[], [], [], [], [3], [], [5], [5, 6], [5, 6, 7], [5, 6, 7, 8], [5, 6, 7, 8, 9], [3, 4, 5, 6, 7, 8, 9, 10], [0, 1, 2, 3, 4, 5, 6, 7, 8, 9, 10, 11], [], [0, 1, 2, 3, 4, 5, 6, 7, 8, 9, 10, 11, 12], [0, 1, 2, 3, 4, 5, 6, 7, 8, 9, 10, 11, 12, 13, 14]] (.r 0 (yI 0 ag161 (.t rfl) rfl zJ rfl rfl)<|.n (zA (.t rfl))<|.n (zA (.t rfl))<|.n (zA (.t rfl))<|.r 1 (op_callL 1 (iu64_ok hKu) (pure_isv _) ⟨.inr ⟨_, (.t rfl), lent_blk⟩,  trivial⟩ rfl)<|.n (zI fd161_0 (.t rfl) rfl)<|.r 0 (zN 0 sc3 (.t rfl) rfl zJ rfl)<|.n (op_sub (.t rfl) (.k rfl) (zO (by omega) (by omega)))<|.n (yG it3 it131 (.t rfl) (by decide +kernel : _ = (52 : Int)))<|.n (op_shl (.k rfl) (.t rfl) (by omega) (by decide +kernel : _ = (4503599627370496 : Int)))<|.n (op_sub (.t rfl) (.k rfl) (by decide +kernel : _ = (4503599627370495 : Int)))<|.n (op_bits (by simp) (.t rfl) (.t rfl) (and_frac _ hKu))<|.n (zP (fput_ok hfn (Nat.mod_lt _ (by decide))) ⟨(.t rfl), (.t rfl), (.t rfl), (.t rfl),  trivial⟩)<|.n (zA (.t rfl))<|.n (zB (.t rfl))<|.n (zB (.t rfl))<|.nil) (fun _ => mixed) rfl fun g21 => ⟨_, _, [], rfl, (.k 12 rfl<|.k 13 rfl<|.nil), (.nil), ?_⟩)
        refine zC<|yF<|zQ (.cons (.tmp (.t rfl))<|.cons (.tmp (.t rfl))<|.nil) (zM (sb_res (.cons zL<|.cons zL<|.nil)) ?_)
        exact sb_tup (.cons (sb_eq (congrArg (fun z : Nat => isv (.int .u64 (z : Int))) (rnd_two hm hKf rfl hK2 hov)))<|.cons sb_any<|.nil)
     ·try simp only [cmpB, Z] at h6
      have hK53 : (bl K : Int) ≤ 53 := by have := h6; omega
      have hKt := hKsm
      have hKu : K < 18446744073709551616 := by omega
      have hKlt0 := k_lt hK53
      refine yE<|zC<|zF<|zF (zG [[], [], [1], [0, 1, 2], [0, 1, 2, 3], [], [5], [0, 1, 2, 3, 4, 5, 6]] (.n (zA (.t rfl))<|.n (zA (.t rfl))<|.r 1 (op_callL 1 (ibl_ok hKt) (pure_isv _) ⟨.inr ⟨_, (.t rfl), lent_blk⟩,  trivial⟩ rfl)<|.n (yK (.t rfl) (.t rfl) (zO (by omega) (by omega)))<|.n (op_sub (.t rfl) (.k rfl) (zO (by omega) (by omega)))<|.n (zI fd161_2 (.t rfl) rfl)<|.r 0 (zN 0 sc3 (.t rfl) rfl zJ rfl)<|.n (yB (by simp) (.t rfl) (.t rfl) rfl)<|.nil) (fun _ => mixed) rfl fun g22 => ⟨_, _, [0, 1], rfl, (.k 1 rfl<|.k 5 rfl<|.k 6 rfl<|.k 15 rfl<|.k 16 rfl<|.k 18 rfl<|.k 94 rfl<|.nil), (.k 0 rfl<|.k 1 rfl<|.nil), ?_⟩)
      refine zC<|zH (zK (.t rfl)) (fun h9 => ?_) (fun h9 => ?_)
      ·try simp only [cmpB, Z] at h9
       have hov : 4503599627370496 ≤ K ∧ 1023 < qtm m e + 52 := by have h9 := h9; exact ⟨hKs (by omega), by omega⟩
       refine zF (zG [] (.r 0 (yI 0 ag161 (.t rfl) rfl zJ rfl rfl)<|.n (zA (.t rfl))<|.n (zA (.t rfl))<|.n (zP (fover_ok) ⟨(.t rfl), (.t rfl), (.t rfl),  trivial⟩)<|.n (zB (.t rfl))<|.n (zB (.k rfl))<|.nil) ff rfl fun g23 => ⟨_, _, [], rfl, (.k 12 rfl<|.k 13 rfl<|.nil), (.nil), ?_⟩)
       refine zC<|yF<|zD<|zQ (.cons (.tmp (.t rfl))<|.cons (.tmp (.t rfl))<|.nil) (zM (sb_res (.cons zL<|.cons zL<|.nil)) ?_)
       exact sb_tup (.cons (sb_eq (congrArg (fun z : Nat => isv (.int .u64 (z : Int))) (rnd_inf hm hKf rfl hov.1 hov.2)))<|.cons sb_any<|.nil)
      ·try simp only [cmpB, Z] at h9
       refine yE<|zC<|zF<|zF (zG [[], [0], [], [2], [0, 1, 2, 3]] (.n (zA (.t rfl))<|.r 1 (op_callL 1 (ibl_ok hKt) (pure_isv _) ⟨.inr ⟨_, (.t rfl), lent_blk⟩,  trivial⟩ rfl)<|.n (zI fd161_0 (.t rfl) rfl)<|.r 0 (zN 0 sc3 (.t rfl) rfl zJ rfl)<|.n (yB (by simp) (.t rfl) (.t rfl) rfl)<|.nil) (fun _ => mixed) rfl fun g24 => ⟨_, _, [0, 1], rfl, (.k 1 rfl<|.k 6 rfl<|.k 15 rfl<|.k 16 rfl<|.k 18 rfl<|.k 103 rfl<|.nil), (.k 0 rfl<|.k 1 rfl<|.nil), ?_⟩)
       refine zC<|zH (zK (.t rfl)) (fun h10 => ?_) (fun h10 => ?_)
       ·try simp only [cmpB, Z] at h10
        first | have hKlt := k_small (K := K) h10 | skip
        refine zF (zG [[], [], [], [2], [0, 1, 2, 3], [], [0, 1, 2, 3, 4], [0, 1, 2, 3, 4, 5, 6]] (.r 0 (yI 0 ag161 (.t rfl) rfl zJ rfl rfl)<|.n (zA (.t rfl))<|.n (zA (.t rfl))<|.r 1 (op_callL 1 (iu64_ok hKu) (pure_isv _) ⟨.inr ⟨_, (.t rfl), lent_blk⟩,  trivial⟩ rfl)<|.n (zP (fput_ok (n := 0) (by decide) hKlt) ⟨(.t rfl), (.t rfl), (.k rfl), (.t rfl),  trivial⟩)<|.n (zA (.t rfl))<|.n (zB (.t rfl))<|.n (zB (.t rfl))<|.nil) (fun _ => mixed) rfl fun g25 => ⟨_, _, [], rfl, (.k 12 rfl<|.k 13 rfl<|.nil), (.nil), ?_⟩)
        refine zC<|yF<|zD<|zQ (.cons (.tmp (.t rfl))<|.cons (.tmp (.t rfl))<|.nil) (zM (sb_res (.cons zL<|.cons zL<|.nil)) ?_)
        exact sb_tup (.cons (sb_eq (congrArg (fun z : Nat => isv (.int .u64 (z : Int))) (rnd_sub hm hKf hKlt)))<|.cons sb_any<|.nil)
       ·try simp only [cmpB, Z] at h10
        refine yE<|zC<|zF (zG [] (.n (zA (.t rfl))<|.n (zI fd161_1 (.t rfl) rfl)<|.r 0 (zN 0 sc3 (.t rfl) rfl zJ rfl)<|.n (zI fd161_0 (.t rfl) rfl)<|.r 0 (zN 0 sc3 (.t rfl) rfl zJ rfl)<|.n (op_sub (.t rfl) (.t rfl) (zO (by omega) (by omega)))<|.n (yK (.t rfl) (.k rfl) (zO (by omega) (by omega)))<|.n (op_sub (.t rfl) (.t rfl) (zO (by omega) (by omega)))<|.n (yK (.t rfl) (.k rfl) (zO (by omega) (by omega)))<|.n (zB (.t rfl))<|.nil) ff rfl fun g26 => ⟨_, _, [0, 1], rfl, (.k 1 rfl<|.k 6 rfl<|.k 16 rfl<|.k 18 rfl<|.k 19 rfl<|.nil), (.k 0 rfl<|.k 1 rfl<|.nil), ?_⟩)
        refine zC ?_
        have hov : qtm m e + 52 ≤ 1023 := by have h9 := h9; have h8 := h10; omega
        have hKge := k_big (K := K) (by have := h10; omega)
        have hKlt := hKlt0
        have hfn : (qtm m e + 1075).toNat < 2048 := by omega
        refine yN (To.slot 19 rfl (q := isv (.int .i64 (((qtm m e + 1075).toNat : Nat) : Int))) (sb_eq (congrArg (fun z => isv (.int .i64 z)) (by omega)))) ?_
        refine zF (zG [[], [], [], [], [3], [], [5], [5, 6], [5, 6, 7], [5, 6, 7, 8], [5, 6, 7, 8, 9], [3, 4, 5, 6, 7, 8, 9, 10], [0, 1, 2, 3, 4, 5, 6, 7, 8, 9, 10, 11], [], [0, 1, 2, 3, 4, 5, 6, 7, 8, 9, 10, 11, 12], [0, 1, 2, 3, 4, 5, 6, 7, 8, 9, 10, 11, 12, 13, 14]] (.r 0 (yI 0 ag161 (.t rfl) rfl zJ rfl rfl)<|.n (zA (.t rfl))<|.n (zA (.t rfl))<|.n (zA (.t rfl))<|.r 1 (op_callL 1 (iu64_ok hKu) (pure_isv _) ⟨.inr ⟨_, (.t rfl), lent_blk⟩,  trivial⟩ rfl)<|.n (zI fd161_0 (.t rfl) rfl)<|.r 0 (zN 0 sc3 (.t rfl) rfl zJ rfl)<|.n (op_sub (.t rfl) (.k rfl) (zO (by omega) (by omega)))<|.n (yG it3 it131 (.t rfl) (by decide +kernel : _ = (52 : Int)))<|.n (op_shl (.k rfl) (.t rfl) (by omega) (by decide +kernel : _ = (4503599627370496 : Int)))<|.n (op_sub (.t rfl) (.k rfl) (by decide +kernel : _ = (4503599627370495 : Int)))<|.n (op_bits (by simp) (.t rfl) (.t rfl) (and_frac _ hKu))<|.n (zP (fput_ok hfn (Nat.mod_lt _ (by decide))) ⟨(.t rfl), (.t rfl), (.t rfl), (.t rfl),  trivial⟩)<|.n (zA (.t rfl))<|.n (zB (.t rfl))<|.n (zB (.t rfl))<|.nil) (fun _ => mixed) rfl fun g27 => ⟨_, _, [], rfl, (.k 12 rfl<|.k 13 rfl<|.nil), (.nil), ?_⟩)
        refine zC<|yF<|zQ (.cons (.tmp (.t rfl))<|.cons (.tmp (.t rfl))<|.nil) (zM (sb_res (.cons zL<|.cons zL<|.nil)) ?_)
        exact sb_tup (.cons (sb_eq (congrArg (fun z : Nat => isv (.int .u64 (z : Int))) (rnd_nrm hm hKf rfl hKge hKlt hov)))<|.cons sb_any<|.nil)
 ·try simp only [cmpB, Z] at h1
  have hgE : ¬ qtm m e ≤ e := by have := h1; omega
  refine yN (To.emps 1) ?_
  refine (zG [] (.n (zA (.t rfl))<|.n (zA (.t rfl))<|.n (zA (.t rfl))<|.n (op_sub (.t rfl) (.t rfl) (wrI_nat (by omega) (by omega)))<|.n (zA (.t rfl))<|.w 2 (op_callF 2 (cutF_ok hm2 (by omega) (by omega)) ⟨(.t rfl), (.t rfl), (.t rfl),  trivial⟩ rfl)<|.n (op_move_ve rfl rfl)<|.n (op_ve 51 58 rfl rfl rfl (fun f => yJ (.t rfl) rfl) (fun f g h => by first | rfl | rw [h 57 (show 57 ∈ [57] from by decide)]) rfl)<|.n (op_ve 51 59 rfl rfl rfl (fun f => yJ (.t rfl) rfl) (fun f g h => by first | rfl | rw [h 57 (show 57 ∈ [57] from by decide)]) rfl)<|.n (yX rfl rfl)<|.n (yX rfl rfl)<|.nil) ff rfl fun g28 => ⟨_, _, [0, 2], rfl, (.k 1 rfl<|.k 5 rfl<|.k 6 rfl<|.k 14 rfl<|.k 15 rfl<|.k 16 rfl<|.k 17 rfl<|.nil), (.k 0 rfl<|.k 2 rfl<|.nil), ?_⟩)
  refine zC<|zF ?_
  obtain ⟨k0, hk0e⟩ : ∃ k0 : Nat, m / 2 ^ (qtm m e - e).toNat = k0 := ⟨_, rfl⟩
  rw [hk0e]
  rw [kpt_lo hm hgE, hk0e] at hKe
  have hk0 : Sml (k0 : Int) := sml_of (by have := Nat.div_le_self m (2 ^ (qtm m e - e).toNat); omega)
  refine zF (zG [] (.n (zA (.t rfl))<|.n (zA (.t rfl))<|.n (zA (.t rfl))<|.n (zA (.t rfl))<|.r 1 (op_callL 1 (goup_ok hk0) (pure_isv _) ⟨.inl (.t rfl), .inr ⟨_, (.t rfl), lent_blk⟩, .inl (.t rfl), .inl (.t rfl),  trivial⟩ rfl)<|.nil) ff rfl fun g29 => ⟨_, _, [0, 1], rfl, (.k 1 rfl<|.k 5 rfl<|.k 6 rfl<|.k 14 rfl<|.k 15 rfl<|.k 16 rfl<|.k 17 rfl<|.k 64 rfl<|.nil), (.k 0 rfl<|.k 1 rfl<|.nil), ?_⟩)
  refine zC<|zH (zK (.t rfl)) (fun h11 => ?_) (fun h11 => ?_)
  ·have h11' := h11
   try simp only [cmpB, Z] at h11
   refine (zG [] (.n (zA (.t rfl))<|.n (zA (.t rfl))<|.n (zP (newint_ok (n := 1) (by omega)) ⟨(.k rfl),  trivial⟩)<|.w 1 (op_callM 1 (iaddA_ok hk0 (sml_of (by decide)) (by omega) (by omega)) ⟨(.t rfl), (.t rfl), (.t rfl),  trivial⟩ rfl)<|.nil) ff rfl fun g30 => ⟨_, _, [0, 1], rfl, (.k 1 rfl<|.k 5 rfl<|.k 6 rfl<|.k 14 rfl<|.k 15 rfl<|.k 16 rfl<|.k 17 rfl<|.nil), (.k 0 rfl<|.k 1 rfl<|.nil), ?_⟩)
   refine zC ?_
   have hKv : (k0 : Int) + 1 = (K : Int) := by rw [if_pos h11'] at hKe; omega
   refine yN (To.res 1 (r' := blk (tp0 (g28 57)) (intC ((K : Int))) 96) rfl (yQ (by exact congrArg (fun z => blk _ (intC z) _) hKv)) rfl) ?_
   refine zF (zG [] (.n (zB (.k rfl))<|.nil) ff rfl fun g31 => ⟨_, _, [0, 1], rfl, (.k 1 rfl<|.k 5 rfl<|.k 6 rfl<|.k 14 rfl<|.k 15 rfl<|.k 16 rfl<|.k 17 rfl<|.k 18 rfl<|.nil), (.k 0 rfl<|.k 1 rfl<|.nil), ?_⟩)
   refine zC<|zF<|zF (zG [] (.n (zA (.t rfl))<|.n (yB (by simp) (.t rfl) (.k rfl) rfl)<|.nil) ff rfl fun g32 => ⟨_, _, [0, 1], rfl, (.k 1 rfl<|.k 5 rfl<|.k 6 rfl<|.k 14 rfl<|.k 15 rfl<|.k 16 rfl<|.k 18 rfl<|.k 70 rfl<|.nil), (.k 0 rfl<|.k 1 rfl<|.nil), ?_⟩)
   refine zC<|J_cutS (ρc := [(1, _), (5, _), (6, _), (15, _), (16, _)]) (ρ1 := [(18, anyp)]) (σ' := [_, _]) (To.pick (fun _ => .k 1 rfl<|.k 5 rfl<|.k 6 rfl<|.k 15 rfl<|.k 16 rfl<|.nil) (fun _ => .k 0 rfl<|.k 1 rfl<|.nil) (ks := [0, 1]) rfl) ?_ ?_
   ·skip
    refine zH (zK (.t rfl)) (fun h12 => ?_) (fun h12 => ?_)
    ·try simp only [cmpB, Z] at h12
     refine zF (zG [] (.n (zB (.k rfl))<|.nil) ff rfl fun g33 => ⟨_, _, [0, 1], rfl, (.k 1 rfl<|.k 5 rfl<|.k 6 rfl<|.k 14 rfl<|.k 15 rfl<|.k 16 rfl<|.k 18 rfl<|.nil), (.k 0 rfl<|.k 1 rfl<|.nil), ?_⟩)
     refine zC<|zF (zG [] (.n (zA (.t rfl))<|.n (zI fd161_1 (.t rfl) rfl)<|.r 0 (zN 0 sc3 (.t rfl) rfl zJ rfl)<|.n (yB (by simp) (.t rfl) (.t rfl) rfl)<|.nil) ff rfl fun g34 => ⟨_, _, [0, 1], rfl, (.k 1 rfl<|.k 5 rfl<|.k 6 rfl<|.k 15 rfl<|.k 16 rfl<|.k 18 rfl<|.k 74 rfl<|.nil), (.k 0 rfl<|.k 1 rfl<|.nil), ?_⟩)
     refine zC<|zH (zK (.t rfl)) (fun h13 => ?_) (fun h13 => ?_)
     ·try simp only [cmpB, Z] at h13
      refine (zG [] (.n (zA (.t rfl))<|.n (op_bits (by simp) (.t rfl) (.k rfl) rfl)<|.n (zB (.t rfl))<|.nil) ff rfl fun g35 => ⟨_, _, [0, 1], rfl, (.k 1 rfl<|.k 5 rfl<|.k 6 rfl<|.k 15 rfl<|.k 16 rfl<|.k 18 rfl<|.nil), (.k 0 rfl<|.k 1 rfl<|.nil), ?_⟩)
      exact JN_cutT (To.pick (fun _ => .sub (t := 18) rfl (sb_any)<|.k 1 rfl<|.k 5 rfl<|.k 6 rfl<|.k 15 rfl<|.k 16 rfl<|.nil) (fun _ => .k 0 rfl<|.k 1 rfl<|.nil) (ks := [0, 1]) rfl)
     ·try simp only [cmpB, Z] at h13
      refine yE ?_
      exact JN_cutT (To.pick (fun _ => .sub (t := 18) rfl (sb_any)<|.k 1 rfl<|.k 5 rfl<|.k 6 rfl<|.k 15 rfl<|.k 16 rfl<|.nil) (fun _ => .k 0 rfl<|.k 1 rfl<|.nil) (ks := [0, 1]) rfl)
    ·try simp only [cmpB, Z] at h12
     refine yE ?_
     exact JN_cutT (To.pick (fun _ => .sub (t := 18) rfl (sb_any)<|.k 1 rfl<|.k 5 rfl<|.k 6 rfl<|.k 15 rfl<|.k 16 rfl<|.nil) (fun _ => .k 0 rfl<|.k 1 rfl<|.nil) (ks := [0, 1]) rfl)
   ·skip
    refine zF<|zF (zG [[], [0], [], [2], [0, 1, 2, 3]] (.n (zA (.t rfl))<|.r 1 (op_callL 1 (ibl_ok hKsm) (pure_isv _) ⟨.inr ⟨_, (.t rfl), lent_blk⟩,  trivial⟩ rfl)<|.n (zI fd161_0 (.t rfl) rfl)<|.r 0 (zN 0 sc3 (.t rfl) rfl zJ rfl)<|.n (yB (by simp) (.t rfl) (.t rfl) rfl)<|.nil) (fun _ => mixed) rfl fun g36 => ⟨_, _, [0, 1], rfl, (.k 1 rfl<|.k 5 rfl<|.k 6 rfl<|.k 15 rfl<|.k 16 rfl<|.k 18 rfl<|.k 81 rfl<|.nil), (.k 0 rfl<|.k 1 rfl<|.nil), ?_⟩)
    refine zC<|zH (zK (.t rfl)) (fun h14 => ?_) (fun h14 => ?_)
    ·try simp only [cmpB, Z] at h14
     have hK2 := k_two hKl h14
     have hKt : Sml ((4503599627370496 : Nat) : Int) := sml_of (by decide)
     have hKu : 4503599627370496 < 18446744073709551616 := by decide
     refine zF (zG [] (.n (zA (.t rfl))<|.n (zA (.t rfl))<|.w 1 (op_callM 1 (irshA_ok (n := 1) hKsm (by omega)) ⟨(.t rfl), (.t rfl), (.k rfl),  trivial⟩ rfl)<|.nil) ff rfl fun g37 => ⟨_, _, [0, 1], rfl, (.k 1 rfl<|.k 5 rfl<|.k 6 rfl<|.k 15 rfl<|.k 16 rfl<|.k 18 rfl<|.nil), (.k 0 rfl<|.k 1 rfl<|.nil), ?_⟩)
     refine zC<|yN (To.res 1 (r' := blk (tp0 (g28 57)) (intC (((4503599627370496 : Nat) : Int))) 96) rfl (yQ (by rw [show K / 2 ^ 1 = 4503599627370496 by omega])) rfl) ?_
     refine (zG [] (.n (zA (.t rfl))<|.n (yK (.t rfl) (.k rfl) (zO (by omega) (by omega)))<|.n (zB (.t rfl))<|.nil) ff rfl fun g38 => ⟨_, _, [0, 1], rfl, (.k 1 rfl<|.k 5 rfl<|.k 6 rfl<|.k 15 rfl<|.k 16 rfl<|.k 18 rfl<|.nil), (.k 0 rfl<|.k 1 rfl<|.nil), ?_⟩)
     refine zC<|zF<|zF (zG [[], [], [1], [0, 1, 2], [0, 1, 2, 3], [], [5], [0, 1, 2, 3, 4, 5, 6]] (.n (zA (.t rfl))<|.n (zA (.t rfl))<|.r 1 (op_callL 1 (ibl_ok hKt) (pure_isv _) ⟨.inr ⟨_, (.t rfl), lent_blk⟩,  trivial⟩ rfl)<|.n (yK (.t rfl) (.t rfl) (zO (by omega) (by omega)))<|.n (op_sub (.t rfl) (.k rfl) (zO (by omega) (by omega)))<|.n (zI fd161_2 (.t rfl) rfl)<|.r 0 (zN 0 sc3 (.t rfl) rfl zJ rfl)<|.n (yB (by simp) (.t rfl) (.t rfl) rfl)<|.nil) (fun _ => mixed) rfl fun g39 => ⟨_, _, [0, 1], rfl, (.k 1 rfl<|.k 5 rfl<|.k 6 rfl<|.k 15 rfl<|.k 16 rfl<|.k 18 rfl<|.k 94 rfl<|.nil), (.k 0 rfl<|.k 1 rfl<|.nil), ?_⟩)
     refine zC<|zH (zK (.t rfl)) (fun h15 => ?_) (fun h15 => ?_)
     ·try simp only [cmpB, Z] at h15
      have hov : 1023 < qtm m e + 1 + 52 := by have h9 := h15; rw [bl_half] at h9; omega
      refine zF (zG [] (.r 0 (yI 0 ag161 (.t rfl) rfl zJ rfl rfl)<|.n (zA (.t rfl))<|.n (zA (.t rfl))<|.n (zP (fover_ok) ⟨(.t rfl), (.t rfl), (.t rfl),  trivial⟩)<|.n (zB (.t rfl))<|.n (zB (.k rfl))<|.nil) ff rfl fun g40 => ⟨_, _, [], rfl, (.k 12 rfl<|.k 13 rfl<|.nil), (.nil), ?_⟩)
      refine zC<|yF<|zD<|zQ (.cons (.tmp (.t rfl))<|.cons (.tmp (.t rfl))<|.nil) (zM (sb_res (.cons zL<|.cons zL<|.nil)) ?_)
      exact sb_tup (.cons (sb_eq (congrArg (fun z : Nat => isv (.int .u64 (z : Int))) (rnd_inf2 hm hKf rfl hK2 hov)))<|.cons sb_any<|.nil)
     ·try simp only [cmpB, Z] at h15
      refine yE<|zC<|zF ?_
      have hov : qtm m e + 1 + 52 ≤ 1023 := by have h9 := h15; rw [bl_half] at h9; omega
      refine zF (zG [[], [0], [], [2], [0, 1, 2, 3]] (.n (zA (.t rfl))<|.r 1 (op_callL 1 (ibl_ok hKt) (pure_isv _) ⟨.inr ⟨_, (.t rfl), lent_blk⟩,  trivial⟩ rfl)<|.n (zI fd161_0 (.t rfl) rfl)<|.r 0 (zN 0 sc3 (.t rfl) rfl zJ rfl)<|.n (yB (by simp) (.t rfl) (.t rfl) rfl)<|.nil) (fun _ => mixed) rfl fun g41 => ⟨_, _, [0, 1], rfl, (.k 1 rfl<|.k 6 rfl<|.k 15 rfl<|.k 16 rfl<|.k 18 rfl<|.k 103 rfl<|.nil), (.k 0 rfl<|.k 1 rfl<|.nil), ?_⟩)
      refine zC<|zH (zK (.t rfl)) (fun h16 => ?_) (fun h16 => ?_)
      ·try simp only [cmpB, Z] at h16
       first | have hKlt := k_small (K := K) h16 | skip
       exact absurd h16 (by omega)
      ·try simp only [cmpB, Z] at h16
       refine yE<|zC<|zF (zG [] (.n (zA (.t rfl))<|.n (zI fd161_1 (.t rfl) rfl)<|.r 0 (zN 0 sc3 (.t rfl) rfl zJ rfl)<|.n (zI fd161_0 (.t rfl) rfl)<|.r 0 (zN 0 sc3 (.t rfl) rfl zJ rfl)<|.n (op_sub (.t rfl) (.t rfl) (zO (by omega) (by omega)))<|.n (yK (.t rfl) (.k rfl) (zO (by omega) (by omega)))<|.n (op_sub (.t rfl) (.t rfl) (zO (by omega) (by omega)))<|.n (yK (.t rfl) (.k rfl) (zO (by omega) (by omega)))<|.n (zB (.t rfl))<|.nil) ff rfl fun g42 => ⟨_, _, [0, 1], rfl, (.k 1 rfl<|.k 6 rfl<|.k 16 rfl<|.k 18 rfl<|.k 19 rfl<|.nil), (.k 0 rfl<|.k 1 rfl<|.nil), ?_⟩)
       refine zC ?_
       have hfn : (qtm m e + 1 + 1075).toNat < 2048 := by omega
       refine yN (To.slot 19 rfl (q := isv (.int .i64 (((qtm m e + 1 + 1075).toNat : Nat) : Int))) (sb_eq (congrArg (fun z => isv (.int .i64 z)) (by omega)))) ?_
       refine zF (zG [[], [], [], [], [3], [], [5], [5, 6], [5, 6, 7], [5, 6, 7, 8], [5, 6, 7, 8, 9], [3, 4, 5, 6, 7, 8, 9, 10], [0, 1, 2, 3, 4, 5, 6, 7, 8, 9, 10, 11], [], [0, 1, 2, 3, 4, 5, 6, 7, 8, 9, 10, 11, 12], [0, 1, 2, 3, 4, 5, 6, 7, 8, 9, 10, 11, 12, 13, 14]] (.r 0 (yI 0 ag161 (.t rfl) rfl zJ rfl rfl)<|.n (zA (.t rfl))<|.n (zA (.t rfl))<|.n (zA (.t rfl))<|.r 1 (op_callL 1 (iu64_ok hKu) (pure_isv _) ⟨.inr ⟨_, (.t rfl), lent_blk⟩,  trivial⟩ rfl)<|.n (zI fd161_0 (.t rfl) rfl)<|.r 0 (zN 0 sc3 (.t rfl) rfl zJ rfl)<|.n (op_sub (.t rfl) (.k rfl) (zO (by omega) (by omega)))<|.n (yG it3 it131 (.t rfl) (by decide +kernel : _ = (52 : Int)))<|.n (op_shl (.k rfl) (.t rfl) (by omega) (by decide +kernel : _ = (4503599627370496 : Int)))<|.n (op_sub (.t rfl) (.k rfl) (by decide +kernel : _ = (4503599627370495 : Int)))<|.n (op_bits (by simp) (.t rfl) (.t rfl) (and_frac _ hKu))<|.n (zP (fput_ok hfn (Nat.mod_lt _ (by decide))) ⟨(.t rfl), (.t rfl), (.t rfl), (.t rfl),  trivial⟩)<|.n (zA (.t rfl))<|.n (zB (.t rfl))<|.n (zB (.t rfl))<|.nil) (fun _ => mixed) rfl fun g43 => ⟨_, _, [], rfl, (.k 12 rfl<|.k 13 rfl<|.nil), (.nil), ?_⟩)
       refine zC<|yF<|zQ (.cons (.tmp (.t rfl))<|.cons (.tmp (.t rfl))<|.nil) (zM (sb_res (.cons zL<|.cons zL<|.nil)) ?_)
       exact sb_tup (.cons (sb_eq (congrArg (fun z : Nat => isv (.int .u64 (z : Int))) (rnd_two hm hKf rfl hK2 hov)))<|.cons sb_any<|.nil)
    ·try simp only [cmpB, Z] at h14
     have hK53 : (bl K : Int) ≤ 53 := by have := h14; omega
     have hKt := hKsm
     have hKu : K < 18446744073709551616 := by omega
     have hKlt0 := k_lt hK53
     refine yE<|zC<|zF<|zF (zG [[], [], [1], [0, 1, 2], [0, 1, 2, 3], [], [5], [0, 1, 2, 3, 4, 5, 6]] (.n (zA (.t rfl))<|.n (zA (.t rfl))<|.r 1 (op_callL 1 (ibl_ok hKt) (pure_isv _) ⟨.inr ⟨_, (.t rfl), lent_blk⟩,  trivial⟩ rfl)<|.n (yK (.t rfl) (.t rfl) (zO (by omega) (by omega)))<|.n (op_sub (.t rfl) (.k rfl) (zO (by omega) (by omega)))<|.n (zI fd161_2 (.t rfl) rfl)<|.r 0 (zN 0 sc3 (.t rfl) rfl zJ rfl)<|.n (yB (by simp) (.t rfl) (.t rfl) rfl)<|.nil) (fun _ => mixed) rfl fun g44 => ⟨_, _, [0, 1], rfl, (.k 1 rfl<|.k 5 rfl<|.k 6 rfl<|.k 15 rfl<|.k 16 rfl<|.k 18 rfl<|.k 94 rfl<|.nil), (.k 0 rfl<|.k 1 rfl<|.nil), ?_⟩)
     refine zC<|zH (zK (.t rfl)) (fun h17 => ?_) (fun h17 => ?_)
     ·try simp only [cmpB, Z] at h17
      have hov : 4503599627370496 ≤ K ∧ 1023 < qtm m e + 52 := by have h9 := h17; exact ⟨hKs (by omega), by omega⟩
      refine zF (zG [] (.r 0 (yI 0 ag161 (.t rfl) rfl zJ rfl rfl)<|.n (zA (.t rfl))<|.n (zA (.t rfl))<|.n (zP (fover_ok) ⟨(.t rfl), (.t rfl), (.t rfl),  trivial⟩)<|.n (zB (.t rfl))<|.n (zB (.k rfl))<|.nil) ff rfl fun g45 => ⟨_, _, [], rfl, (.k 12 rfl<|.k 13 rfl<|.nil), (.nil), ?_⟩)
      refine zC<|yF<|zD<|zQ (.cons (.tmp (.t rfl))<|.cons (.tmp (.t rfl))<|.nil) (zM (sb_res (.cons zL<|.cons zL<|.nil)) ?_)
      exact sb_tup (.cons (sb_eq (congrArg (fun z : Nat => isv (.int .u64 (z : Int))) (rnd_inf hm hKf rfl hov.1 hov.2)))<|.cons sb_any<|.nil)
     ·try simp only [cmpB, Z] at h17
      refine yE<|zC<|zF<|zF (zG [[], [0], [], [2], [0, 1, 2, 3]] (.n (zA (.t rfl))<|.r 1 (op_callL 1 (ibl_ok hKt) (pure_isv _) ⟨.inr ⟨_, (.t rfl), lent_blk⟩,  trivial⟩ rfl)<|.n (zI fd161_0 (.t rfl) rfl)<|.r 0 (zN 0 sc3 (.t rfl) rfl zJ rfl)<|.n (yB (by simp) (.t rfl) (.t rfl) rfl)<|.nil) (fun _ => mixed) rfl fun g46 => ⟨_, _, [0, 1], rfl, (.k 1 rfl<|.k 6 rfl<|.k 15 rfl<|.k 16 rfl<|.k 18 rfl<|.k 103 rfl<|.nil), (.k 0 rfl<|.k 1 rfl<|.nil), ?_⟩)
      refine zC<|zH (zK (.t rfl)) (fun h18 => ?_) (fun h18 => ?_)
      ·try simp only [cmpB, Z] at h18
       first | have hKlt := k_small (K := K) h18 | skip
       refine zF (zG [[], [], [], [2], [0, 1, 2, 3], [], [0, 1, 2, 3, 4], [0, 1, 2, 3, 4, 5, 6]] (.r 0 (yI 0 ag161 (.t rfl) rfl zJ rfl rfl)<|.n (zA (.t rfl))<|.n (zA (.t rfl))<|.r 1 (op_callL 1 (iu64_ok hKu) (pure_isv _) ⟨.inr ⟨_, (.t rfl), lent_blk⟩,  trivial⟩ rfl)<|.n (zP (fput_ok (n := 0) (by decide) hKlt) ⟨(.t rfl), (.t rfl), (.k rfl), (.t rfl),  trivial⟩)<|.n (zA (.t rfl))<|.n (zB (.t rfl))<|.n (zB (.t rfl))<|.nil) (fun _ => mixed) rfl fun g47 => ⟨_, _, [], rfl, (.k 12 rfl<|.k 13 rfl<|.nil), (.nil), ?_⟩)
       refine zC<|yF<|zD<|zQ (.cons (.tmp (.t rfl))<|.cons (.tmp (.t rfl))<|.nil) (zM (sb_res (.cons zL<|.cons zL<|.nil)) ?_)
       exact sb_tup (.cons (sb_eq (congrArg (fun z : Nat => isv (.int .u64 (z : Int))) (rnd_sub hm hKf hKlt)))<|.cons sb_any<|.nil)
      ·try simp only [cmpB, Z] at h18
       refine yE<|zC<|zF (zG [] (.n (zA (.t rfl))<|.n (zI fd161_1 (.t rfl) rfl)<|.r 0 (zN 0 sc3 (.t rfl) rfl zJ rfl)<|.n (zI fd161_0 (.t rfl) rfl)<|.r 0 (zN 0 sc3 (.t rfl) rfl zJ rfl)<|.n (op_sub (.t rfl) (.t rfl) (zO (by omega) (by omega)))<|.n (yK (.t rfl) (.k rfl) (zO (by omega) (by omega)))<|.n (op_sub (.t rfl) (.t rfl) (zO (by omega) (by omega)))<|.n (yK (.t rfl) (.k rfl) (zO (by omega) (by omega)))<|.n (zB (.t rfl))<|.nil) ff rfl fun g48 => ⟨_, _, [0, 1], rfl, (.k 1 rfl<|.k 6 rfl<|.k 16 rfl<|.k 18 rfl<|.k 19 rfl<|.nil), (.k 0 rfl<|.k 1 rfl<|.nil), ?_⟩)
       refine zC ?_
       have hov : qtm m e + 52 ≤ 1023 := by have h9 := h17; have h8 := h18; omega
       have hKge := k_big (K := K) (by have := h18; omega)
       have hKlt := hKlt0
       have hfn : (qtm m e + 1075).toNat < 2048 := by omega
       refine yN (To.slot 19 rfl (q := isv (.int .i64 (((qtm m e + 1075).toNat : Nat) : Int))) (sb_eq (congrArg (fun z => isv (.int .i64 z)) (by omega)))) ?_
       refine zF (zG [[], [], [], [], [3], [], [5], [5, 6], [5, 6, 7], [5, 6, 7, 8], [5, 6, 7, 8, 9], [3, 4, 5, 6, 7, 8, 9, 10], [0, 1, 2, 3, 4, 5, 6, 7, 8, 9, 10, 11], [], [0, 1, 2, 3, 4, 5, 6, 7, 8, 9, 10, 11, 12], [0, 1, 2, 3, 4, 5, 6, 7, 8, 9, 10, 11, 12, 13, 14]] (.r 0 (yI 0 ag161 (.t rfl) rfl zJ rfl rfl)<|.n (zA (.t rfl))<|.n (zA (.t rfl))<|.n (zA (.t rfl))<|.r 1 (op_callL 1 (iu64_ok hKu) (pure_isv _) ⟨.inr ⟨_, (.t rfl), lent_blk⟩,  trivial⟩ rfl)<|.n (zI fd161_0 (.t rfl) rfl)<|.r 0 (zN 0 sc3 (.t rfl) rfl zJ rfl)<|.n (op_sub (.t rfl) (.k rfl) (zO (by omega) (by omega)))<|.n (yG it3 it131 (.t rfl) (by decide +kernel : _ = (52 : Int)))<|.n (op_shl (.k rfl) (.t rfl) (by omega) (by decide +kernel : _ = (4503599627370496 : Int)))<|.n (op_sub (.t rfl) (.k rfl) (by decide +kernel : _ = (4503599627370495 : Int)))<|.n (op_bits (by simp) (.t rfl) (.t rfl) (and_frac _ hKu))<|.n (zP (fput_ok hfn (Nat.mod_lt _ (by decide))) ⟨(.t rfl), (.t rfl), (.t rfl), (.t rfl),  trivial⟩)<|.n (zA (.t rfl))<|.n (zB (.t rfl))<|.n (zB (.t rfl))<|.nil) (fun _ => mixed) rfl fun g49 => ⟨_, _, [], rfl, (.k 12 rfl<|.k 13 rfl<|.nil), (.nil), ?_⟩)
       refine zC<|yF<|zQ (.cons (.tmp (.t rfl))<|.cons (.tmp (.t rfl))<|.nil) (zM (sb_res (.cons zL<|.cons zL<|.nil)) ?_)
       exact sb_tup (.cons (sb_eq (congrArg (fun z : Nat => isv (.int .u64 (z : Int))) (rnd_nrm hm hKf rfl hKge hKlt hov)))<|.cons sb_any<|.nil)
  ·have h11' := h11
   try simp only [cmpB, Z] at h11
   refine yE<|zC ?_
   have hKv : (k0 : Int) = (K : Int) := by rw [if_neg (by rw [h11']; decide)] at hKe; omega
   refine yN (To.res 1 (r' := blk (tp0 (g28 57)) (intC ((K : Int))) 96) rfl (yQ (by exact congrArg (fun z => blk _ (intC z) _) hKv)) rfl) ?_
   refine zF (zG [] (.n (zB (.k rfl))<|.nil) ff rfl fun g50 => ⟨_, _, [0, 1], rfl, (.k 1 rfl<|.k 5 rfl<|.k 6 rfl<|.k 14 rfl<|.k 15 rfl<|.k 16 rfl<|.k 17 rfl<|.k 18 rfl<|.nil), (.k 0 rfl<|.k 1 rfl<|.nil), ?_⟩)
   refine zC<|zF<|zF (zG [] (.n (zA (.t rfl))<|.n (yB (by simp) (.t rfl) (.k rfl) rfl)<|.nil) ff rfl fun g51 => ⟨_, _, [0, 1], rfl, (.k 1 rfl<|.k 5 rfl<|.k 6 rfl<|.k 14 rfl<|.k 15 rfl<|.k 16 rfl<|.k 18 rfl<|.k 70 rfl<|.nil), (.k 0 rfl<|.k 1 rfl<|.nil), ?_⟩)
   refine zC<|J_cutS (ρc := [(1, _), (5, _), (6, _), (15, _), (16, _)]) (ρ1 := [(18, anyp)]) (σ' := [_, _]) (To.pick (fun _ => .k 1 rfl<|.k 5 rfl<|.k 6 rfl<|.k 15 rfl<|.k 16 rfl<|.nil) (fun _ => .k 0 rfl<|.k 1 rfl<|.nil) (ks := [0, 1]) rfl) ?_ ?_
   ·skip
    refine zH (zK (.t rfl)) (fun h19 => ?_) (fun h19 => ?_)
    ·try simp only [cmpB, Z] at h19
     refine zF (zG [] (.n (zB (.k rfl))<|.nil) ff rfl fun g52 => ⟨_, _, [0, 1], rfl, (.k 1 rfl<|.k 5 rfl<|.k 6 rfl<|.k 14 rfl<|.k 15 rfl<|.k 16 rfl<|.k 18 rfl<|.nil), (.k 0 rfl<|.k 1 rfl<|.nil), ?_⟩)
     refine zC<|zF (zG [] (.n (zA (.t rfl))<|.n (zI fd161_1 (.t rfl) rfl)<|.r 0 (zN 0 sc3 (.t rfl) rfl zJ rfl)<|.n (yB (by simp) (.t rfl) (.t rfl) rfl)<|.nil) ff rfl fun g53 => ⟨_, _, [0, 1], rfl, (.k 1 rfl<|.k 5 rfl<|.k 6 rfl<|.k 15 rfl<|.k 16 rfl<|.k 18 rfl<|.k 74 rfl<|.nil), (.k 0 rfl<|.k 1 rfl<|.nil), ?_⟩)
     refine zC<|zH (zK (.t rfl)) (fun h20 => ?_) (fun h20 => ?_)
     ·try simp only [cmpB, Z] at h20
      refine (zG [] (.n (zA (.t rfl))<|.n (op_bits (by simp) (.t rfl) (.k rfl) rfl)<|.n (zB (.t rfl))<|.nil) ff rfl fun g54 => ⟨_, _, [0, 1], rfl, (.k 1 rfl<|.k 5 rfl<|.k 6 rfl<|.k 15 rfl<|.k 16 rfl<|.k 18 rfl<|.nil), (.k 0 rfl<|.k 1 rfl<|.nil), ?_⟩)
      exact JN_cutT (To.pick (fun _ => .sub (t := 18) rfl (sb_any)<|.k 1 rfl<|.k 5 rfl<|.k 6 rfl<|.k 15 rfl<|.k 16 rfl<|.nil) (fun _ => .k 0 rfl<|.k 1 rfl<|.nil) (ks := [0, 1]) rfl)
     ·try simp only [cmpB, Z] at h20
      refine yE ?_
      exact JN_cutT (To.pick (fun _ => .sub (t := 18) rfl (sb_any)<|.k 1 rfl<|.k 5 rfl<|.k 6 rfl<|.k 15 rfl<|.k 16 rfl<|.nil) (fun _ => .k 0 rfl<|.k 1 rfl<|.nil) (ks := [0, 1]) rfl)
    ·try simp only [cmpB, Z] at h19
     refine yE ?_
     exact JN_cutT (To.pick (fun _ => .sub (t := 18) rfl (sb_any)<|.k 1 rfl<|.k 5 rfl<|.k 6 rfl<|.k 15 rfl<|.k 16 rfl<|.nil) (fun _ => .k 0 rfl<|.k 1 rfl<|.nil) (ks := [0, 1]) rfl)
   ·skip
    refine zF<|zF (zG [[], [0], [], [2], [0, 1, 2, 3]] (.n (zA (.t rfl))<|.r 1 (op_callL 1 (ibl_ok hKsm) (pure_isv _) ⟨.inr ⟨_, (.t rfl), lent_blk⟩,  trivial⟩ rfl)<|.n (zI fd161_0 (.t rfl) rfl)<|.r 0 (zN 0 sc3 (.t rfl) rfl zJ rfl)<|.n (yB (by simp) (.t rfl) (.t rfl) rfl)<|.nil) (fun _ => mixed) rfl fun g55 => ⟨_, _, [0, 1], rfl, (.k 1 rfl<|.k 5 rfl<|.k 6 rfl<|.k 15 rfl<|.k 16 rfl<|.k 18 rfl<|.k 81 rfl<|.nil), (.k 0 rfl<|.k 1 rfl<|.nil), ?_⟩)
    refine zC<|zH (zK (.t rfl)) (fun h21 => ?_) (fun h21 => ?_)
    ·try simp only [cmpB, Z] at h21
     have hK2 := k_two hKl h21
     have hKt : Sml ((4503599627370496 : Nat) : Int) := sml_of (by decide)
     have hKu : 4503599627370496 < 18446744073709551616 := by decide
     refine zF (zG [] (.n (zA (.t rfl))<|.n (zA (.t rfl))<|.w 1 (op_callM 1 (irshA_ok (n := 1) hKsm (by omega)) ⟨(.t rfl), (.t rfl), (.k rfl),  trivial⟩ rfl)<|.nil) ff rfl fun g56 => ⟨_, _, [0, 1], rfl, (.k 1 rfl<|.k 5 rfl<|.k 6 rfl<|.k 15 rfl<|.k 16 rfl<|.k 18 rfl<|.nil), (.k 0 rfl<|.k 1 rfl<|.nil), ?_⟩)
     refine zC<|yN (To.res 1 (r' := blk (tp0 (g28 57)) (intC (((4503599627370496 : Nat) : Int))) 96) rfl (yQ (by rw [show K / 2 ^ 1 = 4503599627370496 by omega])) rfl) ?_
     refine (zG [] (.n (zA (.t rfl))<|.n (yK (.t rfl) (.k rfl) (zO (by omega) (by omega)))<|.n (zB (.t rfl))<|.nil) ff rfl fun g57 => ⟨_, _, [0, 1], rfl, (.k 1 rfl<|.k 5 rfl<|.k 6 rfl<|.k 15 rfl<|.k 16 rfl<|.k 18 rfl<|.nil), (.k 0 rfl<|.k 1 rfl<|.nil), ?_⟩)
     refine zC<|zF<|zF (zG [[], [], [1], [0, 1, 2], [0, 1, 2, 3], [], [5], [0, 1, 2, 3, 4, 5, 6]] (.n (zA (.t rfl))<|.n (zA (.t rfl))<|.r 1 (op_callL 1 (ibl_ok hKt) (pure_isv _) ⟨.inr ⟨_, (.t rfl), lent_blk⟩,  trivial⟩ rfl)<|.n (yK (.t rfl) (.t rfl) (zO (by omega) (by omega)))<|.n (op_sub (.t rfl) (.k rfl) (zO (by omega) (by omega)))<|.n (zI fd161_2 (.t rfl) rfl)<|.r 0 (zN 0 sc3 (.t rfl) rfl zJ rfl)<|.n (yB (by simp) (.t rfl) (.t rfl) rfl)<|.nil) (fun _ => mixed) rfl fun g58 => ⟨_, _, [0, 1], rfl, (.k 1 rfl<|.k 5 rfl<|.k 6 rfl<|.k 15 rfl<|.k 16 rfl<|.k 18 rfl<|.k 94 rfl<|.nil), (.k 0 rfl<|.k 1 rfl<|.nil), ?_⟩)
     refine zC<|zH (zK (.t rfl)) (fun h22 => ?_) (fun h22 => ?_)
     ·try simp only [cmpB, Z] at h22
      have hov : 1023 < qtm m e + 1 + 52 := by have h9 := h22; rw [bl_half] at h9; omega
      refine zF (zG [] (.r 0 (yI 0 ag161 (.t rfl) rfl zJ rfl rfl)<|.n (zA (.t rfl))<|.n (zA (.t rfl))<|.n (zP (fover_ok) ⟨(.t rfl), (.t rfl), (.t rfl),  trivial⟩)<|.n (zB (.t rfl))<|.n (zB (.k rfl))<|.nil) ff rfl fun g59 => ⟨_, _, [], rfl, (.k 12 rfl<|.k 13 rfl<|.nil), (.nil), ?_⟩)
      refine zC<|yF<|zD<|zQ (.cons (.tmp (.t rfl))<|.cons (.tmp (.t rfl))<|.nil) (zM (sb_res (.cons zL<|.cons zL<|.nil)) ?_)
      exact sb_tup (.cons (sb_eq (congrArg (fun z : Nat => isv (.int .u64 (z : Int))) (rnd_inf2 hm hKf rfl hK2 hov)))<|.cons sb_any<|.nil)
     ·try simp only [cmpB, Z] at h22
      refine yE<|zC<|zF ?_
      have hov : qtm m e + 1 + 52 ≤ 1023 := by have h9 := h22; rw [bl_half] at h9; omega
      refine zF (zG [[], [0], [], [2], [0, 1, 2, 3]] (.n (zA (.t rfl))<|.r 1 (op_callL 1 (ibl_ok hKt) (pure_isv _) ⟨.inr ⟨_, (.t rfl), lent_blk⟩,  trivial⟩ rfl)<|.n (zI fd161_0 (.t rfl) rfl)<|.r 0 (zN 0 sc3 (.t rfl) rfl zJ rfl)<|.n (yB (by simp) (.t rfl) (.t rfl) rfl)<|.nil) (fun _ => mixed) rfl fun g60 => ⟨_, _, [0, 1], rfl, (.k 1 rfl<|.k 6 rfl<|.k 15 rfl<|.k 16 rfl<|.k 18 rfl<|.k 103 rfl<|.nil), (.k 0 rfl<|.k 1 rfl<|.nil), ?_⟩)
      refine zC<|zH (zK (.t rfl)) (fun h23 => ?_) (fun h23 => ?_)
      ·try simp only [cmpB, Z] at h23
       first | have hKlt := k_small (K := K) h23 | skip
       exact absurd h23 (by omega)
      ·try simp only [cmpB, Z] at h23
       refine yE<|zC<|zF (zG [] (.n (zA (.t rfl))<|.n (zI fd161_1 (.t rfl) rfl)<|.r 0 (zN 0 sc3 (.t rfl) rfl zJ rfl)<|.n (zI fd161_0 (.t rfl) rfl)<|.r 0 (zN 0 sc3 (.t rfl) rfl zJ rfl)<|.n (op_sub (.t rfl) (.t rfl) (zO (by omega) (by omega)))<|.n (yK (.t rfl) (.k rfl) (zO (by omega) (by omega)))<|.n (op_sub (.t rfl) (.t rfl) (zO (by omega) (by omega)))<|.n (yK (.t rfl) (.k rfl) (zO (by omega) (by omega)))<|.n (zB (.t rfl))<|.nil) ff rfl fun g61 => ⟨_, _, [0, 1], rfl, (.k 1 rfl<|.k 6 rfl<|.k 16 rfl<|.k 18 rfl<|.k 19 rfl<|.nil), (.k 0 rfl<|.k 1 rfl<|.nil), ?_⟩)
       refine zC ?_
       have hfn : (qtm m e + 1 + 1075).toNat < 2048 := by omega
       refine yN (To.slot 19 rfl (q := isv (.int .i64 (((qtm m e + 1 + 1075).toNat : Nat) : Int))) (sb_eq (congrArg (fun z => isv (.int .i64 z)) (by omega)))) ?_
       refine zF (zG [[], [], [], [], [3], [], [5], [5, 6], [5, 6, 7], [5, 6, 7, 8], [5, 6, 7, 8, 9], [3, 4, 5, 6, 7, 8, 9, 10], [0, 1, 2, 3, 4, 5, 6, 7, 8, 9, 10, 11], [], [0, 1, 2, 3, 4, 5, 6, 7, 8, 9, 10, 11, 12], [0, 1, 2, 3, 4, 5, 6, 7, 8, 9, 10, 11, 12, 13, 14]] (.r 0 (yI 0 ag161 (.t rfl) rfl zJ rfl rfl)<|.n (zA (.t rfl))<|.n (zA (.t rfl))<|.n (zA (.t rfl))<|.r 1 (op_callL 1 (iu64_ok hKu) (pure_isv _) ⟨.inr ⟨_, (.t rfl), lent_blk⟩,  trivial⟩ rfl)<|.n (zI fd161_0 (.t rfl) rfl)<|.r 0 (zN 0 sc3 (.t rfl) rfl zJ rfl)<|.n (op_sub (.t rfl) (.k rfl) (zO (by omega) (by omega)))<|.n (yG it3 it131 (.t rfl) (by decide +kernel : _ = (52 : Int)))<|.n (op_shl (.k rfl) (.t rfl) (by omega) (by decide +kernel : _ = (4503599627370496 : Int)))<|.n (op_sub (.t rfl) (.k rfl) (by decide +kernel : _ = (4503599627370495 : Int)))<|.n (op_bits (by simp) (.t rfl) (.t rfl) (and_frac _ hKu))<|.n (zP (fput_ok hfn (Nat.mod_lt _ (by decide))) ⟨(.t rfl), (.t rfl), (.t rfl), (.t rfl),  trivial⟩)<|.n (zA (.t rfl))<|.n (zB (.t rfl))<|.n (zB (.t rfl))<|.nil) (fun _ => mixed) rfl fun g62 => ⟨_, _, [], rfl, (.k 12 rfl<|.k 13 rfl<|.nil), (.nil), ?_⟩)
       refine zC<|yF<|zQ (.cons (.tmp (.t rfl))<|.cons (.tmp (.t rfl))<|.nil) (zM (sb_res (.cons zL<|.cons zL<|.nil)) ?_)
       exact sb_tup (.cons (sb_eq (congrArg (fun z : Nat => isv (.int .u64 (z : Int))) (rnd_two hm hKf rfl hK2 hov)))<|.cons sb_any<|.nil)
    ·try simp only [cmpB, Z] at h21
     have hK53 : (bl K : Int) ≤ 53 := by have := h21; omega
     have hKt := hKsm
     have hKu : K < 18446744073709551616 := by omega
     have hKlt0 := k_lt hK53
     refine yE<|zC<|zF<|zF (zG [[], [], [1], [0, 1, 2], [0, 1, 2, 3], [], [5], [0, 1, 2, 3, 4, 5, 6]] (.n (zA (.t rfl))<|.n (zA (.t rfl))<|.r 1 (op_callL 1 (ibl_ok hKt) (pure_isv _) ⟨.inr ⟨_, (.t rfl), lent_blk⟩,  trivial⟩ rfl)<|.n (yK (.t rfl) (.t rfl) (zO (by omega) (by omega)))<|.n (op_sub (.t rfl) (.k rfl) (zO (by omega) (by omega)))<|.n (zI fd161_2 (.t rfl) rfl)<|.r 0 (zN 0 sc3 (.t rfl) rfl zJ rfl)<|.n (yB (by simp) (.t rfl) (.t rfl) rfl)<|.nil) (fun _ => mixed) rfl fun g63 => ⟨_, _, [0, 1], rfl, (.k 1 rfl<|.k 5 rfl<|.k 6 rfl<|.k 15 rfl<|.k 16 rfl<|.k 18 rfl<|.k 94 rfl<|.nil), (.k 0 rfl<|.k 1 rfl<|.nil), ?_⟩)
     refine zC<|zH (zK (.t rfl)) (fun h24 => ?_) (fun h24 => ?_)
     ·try simp only [cmpB, Z] at h24
      have hov : 4503599627370496 ≤ K ∧ 1023 < qtm m e + 52 := by have h9 := h24; exact ⟨hKs (by omega), by omega⟩
      refine zF (zG [] (.r 0 (yI 0 ag161 (.t rfl) rfl zJ rfl rfl)<|.n (zA (.t rfl))<|.n (zA (.t rfl))<|.n (zP (fover_ok) ⟨(.t rfl), (.t rfl), (.t rfl),  trivial⟩)<|.n (zB (.t rfl))<|.n (zB (.k rfl))<|.nil) ff rfl fun g64 => ⟨_, _, [], rfl, (.k 12 rfl<|.k 13 rfl<|.nil), (.nil), ?_⟩)
      refine zC<|yF<|zD<|zQ (.cons (.tmp (.t rfl))<|.cons (.tmp (.t rfl))<|.nil) (zM (sb_res (.cons zL<|.cons zL<|.nil)) ?_)
      exact sb_tup (.cons (sb_eq (congrArg (fun z : Nat => isv (.int .u64 (z : Int))) (rnd_inf hm hKf rfl hov.1 hov.2)))<|.cons sb_any<|.nil)
     ·try simp only [cmpB, Z] at h24
      refine yE<|zC<|zF<|zF (zG [[], [0], [], [2], [0, 1, 2, 3]] (.n (zA (.t rfl))<|.r 1 (op_callL 1 (ibl_ok hKt) (pure_isv _) ⟨.inr ⟨_, (.t rfl), lent_blk⟩,  trivial⟩ rfl)<|.n (zI fd161_0 (.t rfl) rfl)<|.r 0 (zN 0 sc3 (.t rfl) rfl zJ rfl)<|.n (yB (by simp) (.t rfl) (.t rfl) rfl)<|.nil) (fun _ => mixed) rfl fun g65 => ⟨_, _, [0, 1], rfl, (.k 1 rfl<|.k 6 rfl<|.k 15 rfl<|.k 16 rfl<|.k 18 rfl<|.k 103 rfl<|.nil), (.k 0 rfl<|.k 1 rfl<|.nil), ?_⟩)
      refine zC<|zH (zK (.t rfl)) (fun h25 => ?_) (fun h25 => ?_)
      ·try simp only [cmpB, Z] at h25
       first | have hKlt := k_small (K := K) h25 | skip
       refine zF (zG [[], [], [], [2], [0, 1, 2, 3], [], [0, 1, 2, 3, 4], [0, 1, 2, 3, 4, 5, 6]] (.r 0 (yI 0 ag161 (.t rfl) rfl zJ rfl rfl)<|.n (zA (.t rfl))<|.n (zA (.t rfl))<|.r 1 (op_callL 1 (iu64_ok hKu) (pure_isv _) ⟨.inr ⟨_, (.t rfl), lent_blk⟩,  trivial⟩ rfl)<|.n (zP (fput_ok (n := 0) (by decide) hKlt) ⟨(.t rfl), (.t rfl), (.k rfl), (.t rfl),  trivial⟩)<|.n (zA (.t rfl))<|.n (zB (.t rfl))<|.n (zB (.t rfl))<|.nil) (fun _ => mixed) rfl fun g66 => ⟨_, _, [], rfl, (.k 12 rfl<|.k 13 rfl<|.nil), (.nil), ?_⟩)
       refine zC<|yF<|zD<|zQ (.cons (.tmp (.t rfl))<|.cons (.tmp (.t rfl))<|.nil) (zM (sb_res (.cons zL<|.cons zL<|.nil)) ?_)
       exact sb_tup (.cons (sb_eq (congrArg (fun z : Nat => isv (.int .u64 (z : Int))) (rnd_sub hm hKf hKlt)))<|.cons sb_any<|.nil)
      ·try simp only [cmpB, Z] at h25
       refine yE<|zC<|zF (zG [] (.n (zA (.t rfl))<|.n (zI fd161_1 (.t rfl) rfl)<|.r 0 (zN 0 sc3 (.t rfl) rfl zJ rfl)<|.n (zI fd161_0 (.t rfl) rfl)<|.r 0 (zN 0 sc3 (.t rfl) rfl zJ rfl)<|.n (op_sub (.t rfl) (.t rfl) (zO (by omega) (by omega)))<|.n (yK (.t rfl) (.k rfl) (zO (by omega) (by omega)))<|.n (op_sub (.t rfl) (.t rfl) (zO (by omega) (by omega)))<|.n (yK (.t rfl) (.k rfl) (zO (by omega) (by omega)))<|.n (zB (.t rfl))<|.nil) ff rfl fun g67 => ⟨_, _, [0, 1], rfl, (.k 1 rfl<|.k 6 rfl<|.k 16 rfl<|.k 18 rfl<|.k 19 rfl<|.nil), (.k 0 rfl<|.k 1 rfl<|.nil), ?_⟩)
       refine zC ?_
       have hov : qtm m e + 52 ≤ 1023 := by have h9 := h24; have h8 := h25; omega
       have hKge := k_big (K := K) (by have := h25; omega)
       have hKlt := hKlt0
       have hfn : (qtm m e + 1075).toNat < 2048 := by omega
       refine yN (To.slot 19 rfl (q := isv (.int .i64 (((qtm m e + 1075).toNat : Nat) : Int))) (sb_eq (congrArg (fun z => isv (.int .i64 z)) (by omega)))) ?_
       refine zF (zG [[], [], [], [], [3], [], [5], [5, 6], [5, 6, 7], [5, 6, 7, 8], [5, 6, 7, 8, 9], [3, 4, 5, 6, 7, 8, 9, 10], [0, 1, 2, 3, 4, 5, 6, 7, 8, 9, 10, 11], [], [0, 1, 2, 3, 4, 5, 6, 7, 8, 9, 10, 11, 12], [0, 1, 2, 3, 4, 5, 6, 7, 8, 9, 10, 11, 12, 13, 14]] (.r 0 (yI 0 ag161 (.t rfl) rfl zJ rfl rfl)<|.n (zA (.t rfl))<|.n (zA (.t rfl))<|.n (zA (.t rfl))<|.r 1 (op_callL 1 (iu64_ok hKu) (pure_isv _) ⟨.inr ⟨_, (.t rfl), lent_blk⟩,  trivial⟩ rfl)<|.n (zI fd161_0 (.t rfl) rfl)<|.r 0 (zN 0 sc3 (.t rfl) rfl zJ rfl)<|.n (op_sub (.t rfl) (.k rfl) (zO (by omega) (by omega)))<|.n (yG it3 it131 (.t rfl) (by decide +kernel : _ = (52 : Int)))<|.n (op_shl (.k rfl) (.t rfl) (by omega) (by decide +kernel : _ = (4503599627370496 : Int)))<|.n (op_sub (.t rfl) (.k rfl) (by decide +kernel : _ = (4503599627370495 : Int)))<|.n (op_bits (by simp) (.t rfl) (.t rfl) (and_frac _ hKu))<|.n (zP (fput_ok hfn (Nat.mod_lt _ (by decide))) ⟨(.t rfl), (.t rfl), (.t rfl), (.t rfl),  trivial⟩)<|.n (zA (.t rfl))<|.n (zB (.t rfl))<|.n (zB (.t rfl))<|.nil) (fun _ => mixed) rfl fun g68 => ⟨_, _, [], rfl, (.k 12 rfl<|.k 13 rfl<|.nil), (.nil), ?_⟩)
       refine zC<|yF<|zQ (.cons (.tmp (.t rfl))<|.cons (.tmp (.t rfl))<|.nil) (zM (sb_res (.cons zL<|.cons zL<|.nil)) ?_)
       exact sb_tup (.cons (sb_eq (congrArg (fun z : Nat => isv (.int .u64 (z : Int))) (rnd_nrm hm hKf rfl hKge hKlt hov)))<|.cons sb_any<|.nil)
theorem fsame_ok {n : Nm} (hk : n.k = 0 ∨ n.k = 1 ∨ n.k = 2) (hm2 : n.m < 18446744073709551616) (he0 : -10000 ≤ n.e) (he1 : n.e ≤ 10000) : Ct Tryz.prog 126 [dblP, numP n, isv (.int .i64 0)] (tupp [isv (.int .u64 ((samW n : Nat) : Int)), anyp]) := by
 refine Ct.of Tryz.func126 rfl (by kernel_rfl) rfl fun c0 => ?_
 refine yN (To.emps 2) ?_
 refine zF (zG [] (.w 0 (op_box 0 (.t rfl) yL rfl)<|.w 1 (op_box 1 (.t rfl) yL rfl)<|.n (zB (.k rfl))<|.n (zB (.k rfl))<|.nil) ff rfl fun g1 => ⟨_, _, [0, 1], rfl, (.k 2 rfl<|.k 3 rfl<|.k 4 rfl<|.nil), (.k 0 rfl<|.k 1 rfl<|.nil), ?_⟩)
 refine zC<|zF<|zT<|zF (zG [] (.n (zI fd159_0 (.t rfl) rfl)<|.r 1 (zN 1 sc3 (.t rfl) rfl zJ rfl)<|.n (yB (by simp) (.t rfl) (.k rfl) rfl)<|.n (zB (.t rfl))<|.nil) ff rfl fun g2 => ⟨_, _, [0, 1], rfl, (.k 2 rfl<|.k 3 rfl<|.k 4 rfl<|.k 8 rfl<|.nil), (.k 0 rfl<|.k 1 rfl<|.nil), ?_⟩)
 refine zC<|zH (zK (.t rfl)) (fun h1 => ?_) (fun h1 => ?_)
 ·try simp only [cmpB, Z] at h1
  refine zF (zG [] (.r 0 (yI 0 ag161 (.t rfl) rfl zJ rfl rfl)<|.n (zP (fnone_ok) ⟨(.t rfl),  trivial⟩)<|.n (zB (.t rfl))<|.n (zB (.k rfl))<|.nil) ff rfl fun g3 => ⟨_, _, [], rfl, (.k 6 rfl<|.k 7 rfl<|.nil), (.nil), ?_⟩)
  refine zC<|yF<|yP<|zD<|zQ (.cons (.tmp (.t rfl))<|.cons (.tmp (.t rfl))<|.nil) (zM (sb_res (.cons zL<|.cons zL<|.nil)) ?_)
  exact sb_tup (.cons (sb_eq (by rw [sam_nan h1]))<|.cons sb_any<|.nil)
 ·try simp only [cmpB, Z] at h1
  refine zF (zG [] (.n (zI fd159_0 (.t rfl) rfl)<|.r 1 (zN 1 sc3 (.t rfl) rfl zJ rfl)<|.n (yB (by simp) (.t rfl) (.k rfl) rfl)<|.n (zB (.t rfl))<|.nil) ff rfl fun g4 => ⟨_, _, [0, 1], rfl, (.k 2 rfl<|.k 3 rfl<|.k 4 rfl<|.k 14 rfl<|.nil), (.k 0 rfl<|.k 1 rfl<|.nil), ?_⟩)
  refine zC<|zH (zK (.t rfl)) (fun h2 => ?_) (fun h2 => ?_)
  ·try simp only [cmpB, Z] at h2
   refine zF (zG [] (.r 0 (yI 0 ag161 (.t rfl) rfl zJ rfl rfl)<|.n (zI fd159_1 (.t rfl) rfl)<|.r 1 (zN 1 sc4 (.t rfl) rfl zJ rfl)<|.n (zP (finf_ok) ⟨(.t rfl), (.t rfl),  trivial⟩)<|.n (zB (.t rfl))<|.n (zB (.k rfl))<|.nil) ff rfl fun g5 => ⟨_, _, [], rfl, (.k 6 rfl<|.k 7 rfl<|.nil), (.nil), ?_⟩)
   refine zC<|yF<|yP<|zD<|zQ (.cons (.tmp (.t rfl))<|.cons (.tmp (.t rfl))<|.nil) (zM (sb_res (.cons zL<|.cons zL<|.nil)) ?_)
   exact sb_tup (.cons (sb_eq (by rw [sam_inf h2]))<|.cons sb_any<|.nil)
  ·try simp only [cmpB, Z] at h2
   refine zF (zG [] (.r 1 (yI 1 ag159 (.t rfl) rfl zJ rfl rfl)<|.n (zP (nzero_ok) ⟨(.t rfl),  trivial⟩)<|.n (zB (.t rfl))<|.nil) ff rfl fun g6 => ⟨_, _, [0, 1], rfl, (.k 2 rfl<|.k 3 rfl<|.k 4 rfl<|.k 22 rfl<|.nil), (.k 0 rfl<|.k 1 rfl<|.nil), ?_⟩)
   refine zC<|zH (zK (.t rfl)) (fun h3 => ?_) (fun h3 => ?_)
   ·have h3' := h3
    try simp only [cmpB, Z] at h3
    refine zF (zG [] (.r 0 (yI 0 ag161 (.t rfl) rfl zJ rfl rfl)<|.n (zI fd159_1 (.t rfl) rfl)<|.r 1 (zN 1 sc4 (.t rfl) rfl zJ rfl)<|.n (zP (fnou_ok) ⟨(.t rfl), (.t rfl),  trivial⟩)<|.n (zB (.t rfl))<|.n (zB (.k rfl))<|.nil) ff rfl fun g7 => ⟨_, _, [], rfl, (.k 6 rfl<|.k 7 rfl<|.nil), (.nil), ?_⟩)
    refine zC<|yF<|yP<|zD<|zQ (.cons (.tmp (.t rfl))<|.cons (.tmp (.t rfl))<|.nil) (zM (sb_res (.cons zL<|.cons zL<|.nil)) ?_)
    exact sb_tup (.cons (sb_eq (by rw [sam_zero (by have := h3; omega) (by have := h3; have h9 := signI_zero.1 this.2; omega)]))<|.cons sb_any<|.nil)
   ·have h3' := h3
    try simp only [cmpB, Z] at h3
    have hk0 : n.k = 0 := by have h8 := h1; have h9 := h2; omega
    have hm0 : n.m ≠ 0 := fun h => absurd h3' (by rw [h, hk0]; decide)
    refine yE<|zR<|zC<|zF (zG [] (.r 0 (yI 0 ag161 (.t rfl) rfl zJ rfl rfl)<|.n (zI fd159_1 (.t rfl) rfl)<|.r 1 (zN 1 sc4 (.t rfl) rfl zJ rfl)<|.n (zI fd159_2 (.t rfl) rfl)<|.r 1 (zN 1 sc39 (.t rfl) rfl zJ rfl)<|.n (zI fd159_3 (.t rfl) rfl)<|.r 1 (zN 1 sc3 (.t rfl) rfl zJ rfl)<|.n (zA (.t rfl))<|.n (zP (fround_ok hm0 hm2 he0 he1) ⟨(.t rfl), (.t rfl), (.t rfl), (.t rfl), (.k rfl), (.t rfl),  trivial⟩)<|.n (yJ (.t rfl) rfl)<|.n (yJ (.t rfl) rfl)<|.n (zB (.t rfl))<|.n (zB (.t rfl))<|.nil) ff rfl fun g8 => ⟨_, _, [], rfl, (.k 6 rfl<|.k 7 rfl<|.nil), (.nil), ?_⟩)
    refine zC<|yF<|zQ (.cons (.tmp (.t rfl))<|.cons (.tmp (.t rfl))<|.nil) (zM (sb_res (.cons zL<|.cons zL<|.nil)) ?_)
    exact sb_tup (.cons (sb_eq (by rw [sam_fin hk0 hm0]))<|.cons sb_any<|.nil)
theorem rscale_ok {b : Nat} {k : Int} (hb : b < 2 ^ 64) (k0 : -6000 ≤ k) (k1 : k ≤ 6000) : Ct Tryz.prog 107 [isv (.int .u64 (b : Int)), isv (.int .i64 k), isv (.int .i64 0)] (tupp [isv (.int .u64 ((sclW b k : Nat) : Int)), anyp, isv (.int .i64 0)]) := by
 refine Ct.of Tryz.func107 rfl (by kernel_rfl) rfl fun c0 => ?_
 obtain ⟨hmm, he0, he1⟩ := takN_m b
 have hkk := takN_k b
 refine zF (zG [] (.n (zB (.k rfl))<|.n (zB (.k rfl))<|.n (zB (.k rfl))<|.nil) ff rfl fun g1 => ⟨_, _, [], rfl, (.k 0 rfl<|.k 1 rfl<|.k 2 rfl<|.nil), (.nil), ?_⟩)
 refine zC<|zF<|zF (zG [] (.n (zA (.t rfl))<|.n (zP (known_ok) ⟨(.t rfl),  trivial⟩)<|.n (op_not (.t rfl))<|.nil) ff rfl fun g2 => ⟨_, _, [], rfl, (.k 0 rfl<|.k 1 rfl<|.k 2 rfl<|.k 14 rfl<|.nil), (.nil), ?_⟩)
 refine zC<|zH (zK (.t rfl)) (fun h1 => ?_) (fun h1 => ?_)
 ·have h1' := h1
  try simp only [cmpB, Z] at h1
  exact absurd h1' (by decide)
 ·have h1' := h1
  try simp only [cmpB, Z] at h1
  refine yE<|zC<|yN (To.emps 1) ?_
  refine zF (zG [] (.n (zP (dbl_ok) trivial)<|.n (zA (.t rfl))<|.n (zP (ftake_ok (by assumption)) ⟨(.t rfl), (.t rfl),  trivial⟩)<|.w 0 (yT 0 zr159 rfl rfl)<|.w 0 (op_store_new 0 rfl (.t rfl) yL sz159 rfl rfl)<|.nil) ff rfl fun g3 => ⟨_, _, [0], rfl, (.k 1 rfl<|.k 2 rfl<|.k 9 rfl<|.nil), (.k 0 rfl<|.nil), ?_⟩)
  refine zC<|zF<|zF (zG [] (.n (zI fd159_0 (.t rfl) rfl)<|.r 0 (zN 0 sc3 (.t rfl) rfl zJ rfl)<|.n (yB (by simp) (.t rfl) (.k rfl) rfl)<|.nil) ff rfl fun g4 => ⟨_, _, [0], rfl, (.k 1 rfl<|.k 2 rfl<|.k 9 rfl<|.k 20 rfl<|.nil), (.k 0 rfl<|.nil), ?_⟩)
  refine zC<|zH (zK (.t rfl)) (fun h2 => ?_) (fun h2 => ?_)
  ·try simp only [cmpB, Z] at h2
   refine (zG [] (.n (zI fd159_3 (.t rfl) rfl)<|.r 0 (zN 0 sc3 (.t rfl) rfl zJ rfl)<|.n (zA (.t rfl))<|.n (op_imin (.t rfl) (.k rfl))<|.n (op_imax (.k rfl) (.t rfl))<|.n (yK (.t rfl) (.t rfl) (zO (by omega) (by omega)))<|.n (zI fd159_3 (.t rfl) rfl)<|.w 0 (yM 0 (.t rfl) (.t rfl) co_isv sz3 rfl rfl rfl)<|.nil) ff rfl fun g5 => ⟨_, _, [0], rfl, (.k 2 rfl<|.k 9 rfl<|.nil), (.k 0 rfl<|.nil), ?_⟩)
   refine zC<|zF (zG [[], [], [], [0, 1, 2], [0, 1, 2, 3], [0, 1, 2, 3, 4], [0, 1, 2, 3, 4], [0, 1, 2, 3, 4, 5], [0, 1, 2, 3, 4, 5, 6, 7]] (.n (zP (dbl_ok) trivial)<|.r 0 (yI 0 ag159 (.t rfl) rfl zJ rfl rfl)<|.n (zA (.t rfl))<|.n (zP (fsame_ok (n := ⟨(takN b).k, (takN b).s, (takN b).m, (takN b).e + max (-5000) (min k 5000)⟩) hkk hmm (by show -10000 ≤ (takN b).e + max (-5000) (min k 5000); omega) (by show (takN b).e + max (-5000) (min k 5000) ≤ 10000; omega)) ⟨(.t rfl), (.t rfl), (.t rfl),  trivial⟩)<|.n (zA (.t rfl))<|.n (yJ (.t rfl) rfl)<|.n (yJ (.t rfl) rfl)<|.n (zB (.t rfl))<|.n (zB (.t rfl))<|.nil) (fun _ => mixed) rfl fun g6 => ⟨_, _, [], rfl, (.k 10 rfl<|.k 11 rfl<|.nil), (.nil), ?_⟩)
   refine zC<|zF (zG [] (.n (zA (.t rfl))<|.n (zA (.t rfl))<|.n (zB (.t rfl))<|.n (zB (.t rfl))<|.n (zB (.k rfl))<|.nil) ff rfl fun g7 => ⟨_, _, [], rfl, (.k 6 rfl<|.k 7 rfl<|.k 8 rfl<|.nil), (.nil), ?_⟩)
   refine zC<|yF<|zQ (.cons (.tmp (.t rfl))<|.cons (.tmp (.t rfl))<|.cons (.tmp (.t rfl))<|.nil) (zM (sb_res (.cons zL<|.cons zL<|.cons zL<|.nil)) ?_)
   exact sb_eq (by rw [scl_at h2])
  ·try simp only [cmpB, Z] at h2
   refine yE<|zC<|zF (zG [[], [], [], [0, 1, 2], [0, 1, 2, 3], [0, 1, 2, 3, 4], [0, 1, 2, 3, 4], [0, 1, 2, 3, 4, 5], [0, 1, 2, 3, 4, 5, 6, 7]] (.n (zP (dbl_ok) trivial)<|.r 0 (yI 0 ag159 (.t rfl) rfl zJ rfl rfl)<|.n (zA (.t rfl))<|.n (zP (fsame_ok (n := takN b) hkk hmm (by omega) (by omega)) ⟨(.t rfl), (.t rfl), (.t rfl),  trivial⟩)<|.n (zA (.t rfl))<|.n (yJ (.t rfl) rfl)<|.n (yJ (.t rfl) rfl)<|.n (zB (.t rfl))<|.n (zB (.t rfl))<|.nil) (fun _ => mixed) rfl fun g8 => ⟨_, _, [], rfl, (.k 10 rfl<|.k 11 rfl<|.nil), (.nil), ?_⟩)
   refine zC<|zF (zG [] (.n (zA (.t rfl))<|.n (zA (.t rfl))<|.n (zB (.t rfl))<|.n (zB (.t rfl))<|.n (zB (.k rfl))<|.nil) ff rfl fun g9 => ⟨_, _, [], rfl, (.k 6 rfl<|.k 7 rfl<|.k 8 rfl<|.nil), (.nil), ?_⟩)
   refine zC<|yF<|zQ (.cons (.tmp (.t rfl))<|.cons (.tmp (.t rfl))<|.cons (.tmp (.t rfl))<|.nil) (zM (sb_res (.cons zL<|.cons zL<|.cons zL<|.nil)) ?_)
   exact sb_eq (by rw [scl_no h2])
theorem rtimes_ok {x : Nat} {k : Int} (k0 : -5000 ≤ k) (k1 : k ≤ 5000) : Ct Tryz.prog 88 [flp x, isv (.int .i64 k)] (flp (ldx x k)) := by
 refine Ct.of Tryz.func88 rfl (by kernel_rfl) rfl fun c0 => ?_
 refine zF (zG [] (.n (zB (Lk.fk rfl (by decide +kernel)))<|.nil) ff rfl fun g1 => ⟨_, _, [], rfl, (.k 0 rfl<|.k 1 rfl<|.nil), (.nil), ?_⟩)
 refine zC<|zF (J_JO ?_)
 refine JO_split 2 rfl ?_
 refine (JO_reg (.n (zA (.t rfl))<|.n (op_f64bits bitsX (.t rfl))<|.nil) rfl fun g2 => ⟨_, _, [], rfl, (.k 1 rfl<|.k 10 rfl<|.nil), (.nil), ?_⟩)
 refine To_bit 10 rfl fun b hb hcb => ?_
 refine JN_seg ?_
 refine (JO_reg (.n (zA (.t rfl))<|.n (zP (rscale_ok (by assumption) (by omega) (by omega)) ⟨(.t rfl), (.t rfl), (.k rfl),  trivial⟩)<|.n (zA (.t rfl))<|.n (yJ (.t rfl) rfl)<|.n (yJ (.t rfl) rfl)<|.n (yJ (.t rfl) rfl)<|.n (zB (.t rfl))<|.n (zB (.t rfl))<|.n (zB (.t rfl))<|.nil) rfl fun g3 => ⟨_, _, [], rfl, (.k 5 rfl<|.nil), (.nil), ?_⟩)
 refine zC<|zF (zG [] (.n (zA (.t rfl))<|.n (op_f64from fromX (samW_lt _ : sclW b k < 2 ^ 64) (.t rfl))<|.n (zB (.t rfl))<|.nil) ff rfl fun g4 => ⟨_, _, [], rfl, (.k 4 rfl<|.nil), (.nil), ?_⟩)
 refine zC<|yF<|zQ (.cons (.tmp (.t rfl))<|.nil) (zM (yD zL) ?_)
 exact ret_f (tms_ldx hb hcb k0 k1)
end Go.Proofs.YtllkellonjhalaaGreat
