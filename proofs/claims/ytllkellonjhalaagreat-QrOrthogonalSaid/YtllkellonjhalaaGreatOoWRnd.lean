/- Printed by a program of ours (walk.py): walks of rounding by shifts. -/
import Derived.Test.YtllkellonjhalaaGreatOoKb
import Derived.Test.YtllkellonjhalaaGreatProg
import Derived.KernelRfl
import Derived.Test.YtllkellonjhalaaGreatOoTypes
import Derived.Test.YtllkellonjhalaaGreatOoWExact
import Derived.Test.YtllkellonjhalaaGreatOoWRef1
import Derived.Test.YtllkellonjhalaaGreatOoRne
set_option linter.unusedVariables false
set_option linter.unusedSimpArgs false
set_option maxRecDepth 20000
set_option maxHeartbeats 1000000
namespace Go.Proofs.YtllkellonjhalaaGreat
open Go Go.Bn
attribute [local irreducible] OpOK
theorem len32_ok {z : Int} (z0 : 0 ≤ z) (z1 : z < 4294967296) : Ct Tryz.prog 147 [isv (.int .u32 z)] (isv (.int .i64 (bl z.toNat : Int))) := by
 refine Ct.of Tryz.func147 rfl (by kernel_rfl) rfl fun c0 => ?_
 refine zF (zG [] (.n (zB (.k rfl))<|.nil) ff rfl fun g1 => ⟨_, _, [], rfl, (.k 0 rfl<|.k 2 rfl<|.nil), (.nil), ?_⟩)
 refine zC<|zF<|zF (zG [] (.n (zA (.t rfl))<|.n (yB (by simp) (.t rfl) (.k rfl) rfl)<|.nil) ff rfl fun g2 => ⟨_, _, [], rfl, (.k 0 rfl<|.k 2 rfl<|.k 4 rfl<|.nil), (.nil), ?_⟩)
 refine zC<|zH (zK (.t rfl)) (fun h1 => ?_) (fun h1 => ?_)
 ·try simp only [cmpB, Z] at h1
  have e1 := bl_16 h1
  refine zF (zG [] (.n (zA (.t rfl))<|.n (op_shr (.t rfl) (.k rfl) (by omega) (shr32_16 _))<|.n (zB (.t rfl))<|.nil) ff rfl fun g3 => ⟨_, _, [], rfl, (.k 0 rfl<|.nil), (.nil), ?_⟩)
  refine zC<|(zG [] (.n (zB (.k rfl))<|.nil) ff rfl fun g4 => ⟨_, _, [], rfl, (.k 0 rfl<|.k 2 rfl<|.nil), (.nil), ?_⟩)
  refine zC<|zF<|zF (zG [] (.n (zA (.t rfl))<|.n (yB (by simp) (.t rfl) (.k rfl) rfl)<|.nil) ff rfl fun g5 => ⟨_, _, [], rfl, (.k 0 rfl<|.k 2 rfl<|.k 8 rfl<|.nil), (.nil), ?_⟩)
  refine zC<|zH (zK (.t rfl)) (fun h2 => ?_) (fun h2 => ?_)
  ·try simp only [cmpB, Z] at h2
   first | have e2 := bl_8 (z := z / 65536) (by omega) | have e2 := bl_8 (z := z) (by omega)
   refine zF (zG [] (.n (zA (.t rfl))<|.n (op_shr (.t rfl) (.k rfl) (by omega) (shr32_8 _))<|.n (zB (.t rfl))<|.nil) ff rfl fun g6 => ⟨_, _, [], rfl, (.k 0 rfl<|.k 2 rfl<|.nil), (.nil), ?_⟩)
   refine zC<|(zG [] (.n (zA (.t rfl))<|.n (yK (.t rfl) (.k rfl) (zO (by omega) (by omega)))<|.n (zB (.t rfl))<|.nil) ff rfl fun g7 => ⟨_, _, [], rfl, (.k 0 rfl<|.k 2 rfl<|.nil), (.nil), ?_⟩)
   refine zC<|zF (zG [] (.n (zA (.t rfl))<|.n (zA (.t rfl))<|.n (yG it153 it5 (.t rfl) (wr8 (by omega) (by omega)))<|.n (op_sindex Tryz.underlying9 (.k rfl) (.t rfl) (by omega) (len8_at (by omega) (by omega)))<|.n (yG it5 it3 (.t rfl) (len8_wrap (by omega) (by omega)))<|.n (yK (.t rfl) (.t rfl) (wr_bl (by omega) (by omega) (by omega) (by omega)))<|.n (zB (.t rfl))<|.nil) ff rfl fun g8 => ⟨_, _, [], rfl, (.k 2 rfl<|.nil), (.nil), ?_⟩)
   refine zC<|yF<|zQ (.cons (.tmp (.t rfl))<|.nil) (zM (yD zL) ?_)
   exact ret_i (by omega)
  ·try simp only [cmpB, Z] at h2
   refine yE<|zC<|zF (zG [] (.n (zA (.t rfl))<|.n (zA (.t rfl))<|.n (yG it153 it5 (.t rfl) (wr8 (by omega) (by omega)))<|.n (op_sindex Tryz.underlying9 (.k rfl) (.t rfl) (by omega) (len8_at (by omega) (by omega)))<|.n (yG it5 it3 (.t rfl) (len8_wrap (by omega) (by omega)))<|.n (yK (.t rfl) (.t rfl) (wr_bl (by omega) (by omega) (by omega) (by omega)))<|.n (zB (.t rfl))<|.nil) ff rfl fun g9 => ⟨_, _, [], rfl, (.k 2 rfl<|.nil), (.nil), ?_⟩)
   refine zC<|yF<|zQ (.cons (.tmp (.t rfl))<|.nil) (zM (yD zL) ?_)
   exact ret_i (by omega)
 ·try simp only [cmpB, Z] at h1
  refine yE<|zC<|zF<|zF (zG [] (.n (zA (.t rfl))<|.n (yB (by simp) (.t rfl) (.k rfl) rfl)<|.nil) ff rfl fun g10 => ⟨_, _, [], rfl, (.k 0 rfl<|.k 2 rfl<|.k 8 rfl<|.nil), (.nil), ?_⟩)
  refine zC<|zH (zK (.t rfl)) (fun h3 => ?_) (fun h3 => ?_)
  ·try simp only [cmpB, Z] at h3
   first | have e2 := bl_8 (z := z / 65536) (by omega) | have e2 := bl_8 (z := z) (by omega)
   refine zF (zG [] (.n (zA (.t rfl))<|.n (op_shr (.t rfl) (.k rfl) (by omega) (shr32_8 _))<|.n (zB (.t rfl))<|.nil) ff rfl fun g11 => ⟨_, _, [], rfl, (.k 0 rfl<|.k 2 rfl<|.nil), (.nil), ?_⟩)
   refine zC<|(zG [] (.n (zA (.t rfl))<|.n (yK (.t rfl) (.k rfl) (zO (by omega) (by omega)))<|.n (zB (.t rfl))<|.nil) ff rfl fun g12 => ⟨_, _, [], rfl, (.k 0 rfl<|.k 2 rfl<|.nil), (.nil), ?_⟩)
   refine zC<|zF (zG [] (.n (zA (.t rfl))<|.n (zA (.t rfl))<|.n (yG it153 it5 (.t rfl) (wr8 (by omega) (by omega)))<|.n (op_sindex Tryz.underlying9 (.k rfl) (.t rfl) (by omega) (len8_at (by omega) (by omega)))<|.n (yG it5 it3 (.t rfl) (len8_wrap (by omega) (by omega)))<|.n (yK (.t rfl) (.t rfl) (wr_bl (by omega) (by omega) (by omega) (by omega)))<|.n (zB (.t rfl))<|.nil) ff rfl fun g13 => ⟨_, _, [], rfl, (.k 2 rfl<|.nil), (.nil), ?_⟩)
   refine zC<|yF<|zQ (.cons (.tmp (.t rfl))<|.nil) (zM (yD zL) ?_)
   exact ret_i (by omega)
  ·try simp only [cmpB, Z] at h3
   refine yE<|zC<|zF (zG [] (.n (zA (.t rfl))<|.n (zA (.t rfl))<|.n (yG it153 it5 (.t rfl) (wr8 (by omega) (by omega)))<|.n (op_sindex Tryz.underlying9 (.k rfl) (.t rfl) (by omega) (len8_at (by omega) (by omega)))<|.n (yG it5 it3 (.t rfl) (len8_wrap (by omega) (by omega)))<|.n (yK (.t rfl) (.t rfl) (wr_bl (by omega) (by omega) (by omega) (by omega)))<|.n (zB (.t rfl))<|.nil) ff rfl fun g14 => ⟨_, _, [], rfl, (.k 2 rfl<|.nil), (.nil), ?_⟩)
   refine zC<|yF<|zQ (.cons (.tmp (.t rfl))<|.nil) (zM (yD zL) ?_)
   exact ret_i (by omega)
theorem right_ok {m : List Int} {n : Nat} (hm : Dig m) (hlm : m.length ≤ 1000000) (hn : n ≤ 32000000) : Ct Tryz.prog 151 [ils .u32 m, isv (.int .u64 (n : Int))] (ils .u32 (limbs (magI m / 2 ^ n).toNat)) := by
 refine Ct.of Tryz.func151 rfl (by kernel_rfl) rfl fun c0 => ?_
 refine J_len 0 rfl fun hlen => ?_
 have hs32 : n % 32 < 32 := Nat.mod_lt _ (by omega)
 refine zF (zG [] (.n (zB (.k rfl))<|.nil) ff rfl fun g1 => ⟨_, _, [], rfl, (.k 0 rfl<|.k 1 rfl<|.nil), (.nil), ?_⟩)
 refine zC<|zF (zG [] (.n (zA (.t rfl))<|.n (op_quo (.t rfl) (.k rfl) (by omega) (quo32 n (by omega)))<|.n (yG it131 it3 (.t rfl) (zO (by omega) (by omega)))<|.n (zB (.t rfl))<|.nil) ff rfl fun g2 => ⟨_, _, [], rfl, (.k 0 rfl<|.k 1 rfl<|.k 5 rfl<|.nil), (.nil), ?_⟩)
 refine zC<|zF (zG [] (.n (zA (.t rfl))<|.n (op_rem (.t rfl) (.k rfl) (by omega) (rem32 n))<|.n (zB (.t rfl))<|.nil) ff rfl fun g3 => ⟨_, _, [], rfl, (.k 0 rfl<|.k 5 rfl<|.k 6 rfl<|.nil), (.nil), ?_⟩)
 refine zC<|zF<|zF (zG [] (.n (zA (.t rfl))<|.n (zA (.t rfl))<|.n (yV sl94 (.t rfl))<|.n (yB (by simp) (.t rfl) (.t rfl) rfl)<|.nil) ff rfl fun g4 => ⟨_, _, [], rfl, (.k 0 rfl<|.k 5 rfl<|.k 6 rfl<|.k 18 rfl<|.nil), (.nil), ?_⟩)
 refine zC<|zH (zK (.t rfl)) (fun h1 => ?_) (fun h1 => ?_)
 ·try simp only [cmpB, Z] at h1
  refine zF (zG [] (.n (zB (.k rfl))<|.nil) ff rfl fun g5 => ⟨_, _, [], rfl, (.k 4 rfl<|.nil), (.nil), ?_⟩)
  refine zC<|yF<|zD<|zQ (.cons (.tmp (.t rfl))<|.nil) (zM (yD (sb_nil (mk := inp .u32))) ?_)
  exact sb_eq (by rw [rgt_big hm (by omega), limbs_zero])
 ·try simp only [cmpB, Z] at h1
  refine yE<|zC<|yN (To.emps 1) ?_
  refine zF (zG [] (.n (zA (.t rfl))<|.n (yV sl94 (.t rfl))<|.n (zA (.t rfl))<|.n (op_sub (.t rfl) (.t rfl) (zO (by omega) (by omega)))<|.w 0 (op_make_m (mk := inp .u32) 0 0 sl94 zr153 rfl (fun _ => ⟨rfl, rfl⟩) (.t rfl) (.t rfl) (by omega) (by omega) (by omega) (by omega) rfl)<|.n (yX rfl rfl)<|.nil) ff rfl fun g6 => ⟨_, _, [0], rfl, (.k 0 rfl<|.k 5 rfl<|.k 6 rfl<|.k 7 rfl<|.nil), (.k 0 rfl<|.nil), ?_⟩)
  refine zC<|zF<|zF (zG [] (.n (zB (.k rfl))<|.nil) ff rfl fun g7 => ⟨_, _, [0], rfl, (.k 0 rfl<|.k 5 rfl<|.k 6 rfl<|.k 7 rfl<|.k 8 rfl<|.nil), (.k 0 rfl<|.nil), ?_⟩)
  refine zC<|zT<|J_loopc (α := Nat) (fun i => i ≤ m.length - n / 32) (fun i => m.length - n / 32 - i) (fun i restR => (8, isv (.int .i64 (i : Int))) :: restR) (fun i restS => som (g6 23) (inp .u32) (rgtP m (n / 32) (n % 32) i) 153 :: restS) (ρc := [(0, _), (5, _), (6, _), (7, _)]) (σc := []) 0 (by exact Nat.zero_le _) (To.pick (fun _ => .sub (t := 8) rfl (yO (by rfl))<|.k 0 rfl<|.k 5 rfl<|.k 6 rfl<|.k 7 rfl<|.nil) (fun _ => .sub 0 rfl ((yQ (by rw [rgtP_zero, show ((m.length : Int) - ((n / 32 : Nat) : Int)).toNat = m.length - n / 32 by omega])))<|.nil) (ks := [0]) rfl) (fun i hI => ?_)
  refine zF<|zF (zG [] (.n (zA (.t rfl))<|.n (zA (.t rfl))<|.r 0 (op_len_som 0 sl94 (.t rfl) rfl)<|.n (yB (by simp) (.t rfl) (.t rfl) rfl)<|.nil) ff rfl fun g8 => ⟨_, _, [0], rfl, (.k 0 rfl<|.k 5 rfl<|.k 6 rfl<|.k 7 rfl<|.k 8 rfl<|.k 27 rfl<|.nil), (.k 0 rfl<|.nil), ?_⟩)
  refine zC<|zH (zK (.t rfl)) (fun h2 => ?_) (fun h2 => ?_)
  ·try simp only [cmpB, Z] at h2
   have hil := length_rgtP (m := m) (w := n / 32) (s := n % 32) (i := i) (by omega)
   have gm := hm.at (k := (((n / 32 : Nat) : Int) + (i : Int)).toNat) (by omega)
   refine yE<|zC<|zF<|zT<|zF (zG [] (.n (zA (.t rfl))<|.n (zA (.t rfl))<|.n (zA (.t rfl))<|.n (yK (.t rfl) (.t rfl) (zO (by omega) (by omega)))<|.n (yS 0 sl94 (.t rfl) (.t rfl) (by omega) (by omega))<|.n (yC sc153 (.t rfl) rfl)<|.n (yG it153 it34 (.t rfl) (wr64 (by omega) (by omega)))<|.n (zB (.t rfl))<|.nil) ff rfl fun g9 => ⟨_, _, [0], rfl, (.k 0 rfl<|.k 5 rfl<|.k 6 rfl<|.k 7 rfl<|.k 8 rfl<|.k 9 rfl<|.nil), (.k 0 rfl<|.nil), ?_⟩)
   refine zC<|zF<|zF (zG [] (.n (zA (.t rfl))<|.n (zA (.t rfl))<|.n (yK (.t rfl) (.t rfl) (zO (by omega) (by omega)))<|.n (yK (.t rfl) (.k rfl) (zO (by omega) (by omega)))<|.n (zA (.t rfl))<|.n (yV sl94 (.t rfl))<|.n (yB (by simp) (.t rfl) (.t rfl) rfl)<|.nil) ff rfl fun g10 => ⟨_, _, [0], rfl, (.k 0 rfl<|.k 5 rfl<|.k 6 rfl<|.k 7 rfl<|.k 8 rfl<|.k 9 rfl<|.k 43 rfl<|.nil), (.k 0 rfl<|.nil), ?_⟩)
   refine zC<|zH (zK (.t rfl)) (fun h3 => ?_) (fun h3 => ?_)
   ·try simp only [cmpB, Z] at h3
    have gn := hm.at (k := (((n / 32 : Nat) : Int) + (i : Int) + 1).toNat) (by omega)
    have hz := rgtD_1 (m := m) (w := n / 32) (s := n % 32) (i := i)
    refine (zG [] (.n (zA (.t rfl))<|.n (zA (.t rfl))<|.n (zA (.t rfl))<|.n (zA (.t rfl))<|.n (yK (.t rfl) (.t rfl) (zO (by omega) (by omega)))<|.n (yK (.t rfl) (.k rfl) (zO (by omega) (by omega)))<|.n (yS 0 sl94 (.t rfl) (.t rfl) (by omega) (by omega))<|.n (yC sc153 (.t rfl) rfl)<|.n (yG it153 it34 (.t rfl) (wr64 (by omega) (by omega)))<|.n (op_shl (.t rfl) (.k rfl) (by omega) rfl)<|.n (op_bits (by simp) (.t rfl) (.t rfl) (or64 gm gn))<|.n (zB (.t rfl))<|.nil) ff rfl fun g11 => ⟨_, _, [0], rfl, (.k 0 rfl<|.k 5 rfl<|.k 6 rfl<|.k 7 rfl<|.k 8 rfl<|.k 9 rfl<|.nil), (.k 0 rfl<|.nil), ?_⟩)
    refine zC<|(zG [] (.n (zA (.t rfl))<|.n (zA (.t rfl))<|.n (zA (.t rfl))<|.n (zA (.t rfl))<|.n (op_shr (.t rfl) (.t rfl) (by omega) (shrs64 hs32))<|.n (yG it34 it153 (.t rfl) (wr32 _))<|.r 0 (yH 0 sl94 (.t rfl) (.t rfl) rfl (by omega) (by omega))<|.w 0 (op_store_som (mk := inp .u32) 0 (.t rfl) (.t rfl) co_inp sz153 rfl (by omega))<|.nil) ff rfl fun g12 => ⟨_, _, [0], rfl, (.k 0 rfl<|.k 5 rfl<|.k 6 rfl<|.k 7 rfl<|.k 8 rfl<|.nil), (.k 0 rfl<|.nil), ?_⟩)
    refine zR<|zC<|(zG [] (.n (zA (.t rfl))<|.n (yK (.t rfl) (.k rfl) (zO (by omega) (by omega)))<|.n (zB (.t rfl))<|.nil) ff rfl fun g13 => ⟨_, _, [0], rfl, (.k 0 rfl<|.k 5 rfl<|.k 6 rfl<|.k 7 rfl<|.k 8 rfl<|.nil), (.k 0 rfl<|.nil), ?_⟩)
    exact yW (i + 1) (by omega) (by omega) (To.pick (fun _ => .sub (t := 8) rfl (yO (by rfl))<|.k 0 rfl<|.k 5 rfl<|.k 6 rfl<|.k 7 rfl<|.nil) (fun _ => .sub 0 rfl ((yQ (by rw [← rgtP_set (by omega) hz]; rfl)))<|.nil) (ks := [0]) rfl)
   ·try simp only [cmpB, Z] at h3
    have hz := rgtD_2 (m := m) (w := n / 32) (s := n % 32) (i := i) (by omega)
    refine yE<|zC<|(zG [] (.n (zA (.t rfl))<|.n (zA (.t rfl))<|.n (zA (.t rfl))<|.n (zA (.t rfl))<|.n (op_shr (.t rfl) (.t rfl) (by omega) (shrs64 hs32))<|.n (yG it34 it153 (.t rfl) (wr32 _))<|.r 0 (yH 0 sl94 (.t rfl) (.t rfl) rfl (by omega) (by omega))<|.w 0 (op_store_som (mk := inp .u32) 0 (.t rfl) (.t rfl) co_inp sz153 rfl (by omega))<|.nil) ff rfl fun g14 => ⟨_, _, [0], rfl, (.k 0 rfl<|.k 5 rfl<|.k 6 rfl<|.k 7 rfl<|.k 8 rfl<|.nil), (.k 0 rfl<|.nil), ?_⟩)
    refine zR<|zC<|(zG [] (.n (zA (.t rfl))<|.n (yK (.t rfl) (.k rfl) (zO (by omega) (by omega)))<|.n (zB (.t rfl))<|.nil) ff rfl fun g15 => ⟨_, _, [0], rfl, (.k 0 rfl<|.k 5 rfl<|.k 6 rfl<|.k 7 rfl<|.k 8 rfl<|.nil), (.k 0 rfl<|.nil), ?_⟩)
    exact yW (i + 1) (by omega) (by omega) (To.pick (fun _ => .sub (t := 8) rfl (yO (by rfl))<|.k 0 rfl<|.k 5 rfl<|.k 6 rfl<|.k 7 rfl<|.nil) (fun _ => .sub 0 rfl ((yQ (by rw [← rgtP_set (by omega) hz]; rfl)))<|.nil) (ks := [0]) rfl)
  ·try simp only [cmpB, Z] at h2
   have hil := length_rgtP (m := m) (w := n / 32) (s := n % 32) (i := i) (by omega)
   have hie : i = m.length - n / 32 := by omega
   refine J_exit ?_
   refine zE<|zE<|zS<|zC<|yN (To.freeze 0 (fun _ h => h) rfl frz_som rfl) ?_
   refine zF (zG [] (.n (zA (.t rfl))<|.n (zP (cut_ok (rgtP_dig _ _ _ _)) ⟨(Lk.sub (sb_fk 0 rfl) (.t rfl)),  trivial⟩)<|.n (zB (.t rfl))<|.nil) ff rfl fun g16 => ⟨_, _, [], rfl, (.k 4 rfl<|.nil), (.nil), ?_⟩)
   refine zC<|yF<|zQ (.cons (.tmp (.t rfl))<|.nil) (zM (yD zL) ?_)
   exact sb_eq (congrArg (fun z => ils .u32 (limbs z.toNat)) (rgt_end hm (by omega) hie))
theorem ibl0_ok {x : Int} (hx : Sml x) : Ct Tryz.prog 139 [intP x] (isv (.int .i64 (bl x.natAbs : Int))) := by
 refine Ct.of Tryz.func139 rfl (by kernel_rfl) rfl fun c0 => ?_
 have hl : (limbs x.natAbs).length ≤ 1000000 := sml_len hx
 refine zF (zG [] (.n (zB (.k rfl))<|.nil) ff rfl fun g1 => ⟨_, _, [], rfl, (.k 0 rfl<|.nil), (.nil), ?_⟩)
 refine zC<|zF<|zF (zG [] (.n (zA (.t rfl))<|.n (op_nilp (.t rfl))<|.n (yR fd96_1 (.t rfl) rfl)<|.n (yC sc94 (.t rfl) rfl)<|.n (yV sl94 (.t rfl))<|.n (yB (by simp) (.t rfl) (.k rfl) rfl)<|.nil) ff rfl fun g2 => ⟨_, _, [], rfl, (.k 0 rfl<|.k 8 rfl<|.nil), (.nil), ?_⟩)
 refine zC<|zH (zK (.t rfl)) (fun h1 => ?_) (fun h1 => ?_)
 ·try simp only [cmpB, Z] at h1
  refine zF (zG [] (.n (zB (.k rfl))<|.nil) ff rfl fun g3 => ⟨_, _, [], rfl, (.k 2 rfl<|.nil), (.nil), ?_⟩)
  refine zC<|yF<|zD<|zQ (.cons (.tmp (.t rfl))<|.nil) (zM (yD zL) ?_)
  exact ret_i (bl_limbs (by have := h1; omega))
 ·try simp only [cmpB, Z] at h1
  have gd := (limbs_dig x.natAbs).at (k := ((limbs x.natAbs).length - 1 : Int).toNat) (by have := h1; omega)
  have hbb := bl_limbs2 (n := x.natAbs) (by have := h1; omega)
  have hb4 := bl_lt (t := ((limbs x.natAbs).getD ((limbs x.natAbs).length - 1 : Int).toNat 0).toNat) (k := 32) (by show _ < 4294967296; omega)
  refine yE<|zC<|zF (zG [[], [0], [0, 1], [0, 1, 2], [0, 1, 2, 3], [0, 1, 2, 3, 4], [0, 1, 2, 3, 4, 5], [], [7], [7, 8], [7, 8, 9], [], [11], [11, 12], [11, 12, 13], [11, 12, 13, 14], [11, 12, 13, 14, 15], [7, 8, 9, 10, 11, 12, 13, 14, 15, 16], [7, 8, 9, 10, 11, 12, 13, 14, 15, 16, 17], [7, 8, 9, 10, 11, 12, 13, 14, 15, 16, 17, 18], [0, 1, 2, 3, 4, 5, 6, 7, 8, 9, 10, 11, 12, 13, 14, 15, 16, 17, 18, 19], [0, 1, 2, 3, 4, 5, 6, 7, 8, 9, 10, 11, 12, 13, 14, 15, 16, 17, 18, 19, 20]] (.n (zA (.t rfl))<|.n (op_nilp (.t rfl))<|.n (yR fd96_1 (.t rfl) rfl)<|.n (yC sc94 (.t rfl) rfl)<|.n (yV sl94 (.t rfl))<|.n (op_sub (.t rfl) (.k rfl) (zO (by omega) (by omega)))<|.n (op_mul (.k rfl) (.t rfl) (zO (by omega) (by omega)))<|.n (zA (.t rfl))<|.n (op_nilp (.t rfl))<|.n (yR fd96_1 (.t rfl) rfl)<|.n (yC sc94 (.t rfl) rfl)<|.n (zA (.t rfl))<|.n (op_nilp (.t rfl))<|.n (yR fd96_1 (.t rfl) rfl)<|.n (yC sc94 (.t rfl) rfl)<|.n (yV sl94 (.t rfl))<|.n (op_sub (.t rfl) (.k rfl) (zO (by omega) (by omega)))<|.n (yS 0 sl94 (.t rfl) (.t rfl) (by omega) (by omega))<|.n (yC sc153 (.t rfl) rfl)<|.n (zP (len32_ok gd.1 gd.2) ⟨(.t rfl),  trivial⟩)<|.n (yK (.t rfl) (.t rfl) (zO (by omega) (by omega)))<|.n (zB (.t rfl))<|.nil) (fun _ => mixed) rfl fun g4 => ⟨_, _, [], rfl, (.k 2 rfl<|.nil), (.nil), ?_⟩)
  refine zC<|yF<|zQ (.cons (.tmp (.t rfl))<|.nil) (zM (yD zL) ?_)
  exact ret_i hbb
theorem ibl_ok {x : Nat} (hx : Sml (x : Int)) : Ct Tryz.prog 139 [intP (x : Int)] (isv (.int .i64 (bl x : Int))) := ibl0_ok hx
theorem ibit0_ok {x : Int} (hx : Sml x) (hx0 : 0 ≤ x) : Ct Tryz.prog 150 [intP x, isv (.int .i64 0)] (isv (.int .u64 ((x.natAbs % 2 : Nat) : Int))) := by
 refine Ct.of Tryz.func150 rfl (by kernel_rfl) rfl fun c0 => ?_
 have hl : (limbs x.natAbs).length ≤ 1000000 := sml_len hx
 refine zF (zG [] (.n (zB (.k rfl))<|.nil) ff rfl fun g1 => ⟨_, _, [], rfl, (.k 0 rfl<|.k 1 rfl<|.nil), (.nil), ?_⟩)
 refine zC<|zF (zG [] (.n (zA (.t rfl))<|.n (op_nilp (.t rfl))<|.n (yR fd96_1 (.t rfl) rfl)<|.n (yC sc94 (.t rfl) rfl)<|.n (zB (.t rfl))<|.nil) ff rfl fun g2 => ⟨_, _, [], rfl, (.k 0 rfl<|.k 1 rfl<|.k 5 rfl<|.nil), (.nil), ?_⟩)
 refine zC<|zF<|zF (zG [] (.n (zA (.t rfl))<|.n (op_nilp (.t rfl))<|.n (yR fd96_0 (.t rfl) rfl)<|.n (yC sc4 (.t rfl) rfl)<|.nil) ff rfl fun g3 => ⟨_, _, [], rfl, (.k 0 rfl<|.k 1 rfl<|.k 5 rfl<|.k 14 rfl<|.nil), (.nil), ?_⟩)
 refine zC<|zH (zK (.t rfl)) (fun h1 => ?_) (fun h1 => ?_)
 ·try simp only [cmpB, Z] at h1
  exact absurd h1 (by simp; omega)
 ·try simp only [cmpB, Z] at h1
  refine yE<|zC<|zF (zG [] (.n (zB (.k rfl))<|.nil) ff rfl fun g4 => ⟨_, _, [], rfl, (.k 0 rfl<|.k 1 rfl<|.k 5 rfl<|.k 6 rfl<|.nil), (.nil), ?_⟩)
  refine zC<|zF<|zF (zG [] (.n (zA (.t rfl))<|.n (op_quo (.t rfl) (.k rfl) (by omega) (by decide +kernel : _ = (0 : Int)))<|.n (zA (.t rfl))<|.n (yV sl94 (.t rfl))<|.n (yB (by simp) (.t rfl) (.t rfl) rfl)<|.nil) ff rfl fun g5 => ⟨_, _, [], rfl, (.k 0 rfl<|.k 1 rfl<|.k 5 rfl<|.k 6 rfl<|.k 22 rfl<|.nil), (.nil), ?_⟩)
  refine zC<|zH (zK (.t rfl)) (fun h2 => ?_) (fun h2 => ?_)
  ·try simp only [cmpB, Z] at h2
   refine (zG [] (.n (zA (.t rfl))<|.n (zA (.t rfl))<|.n (op_quo (.t rfl) (.k rfl) (by omega) (by decide +kernel : _ = (0 : Int)))<|.n (yS 0 sl94 (.t rfl) (.t rfl) (by decide) (by have := h2; simpa using this))<|.n (yC sc153 (.t rfl) rfl)<|.n (zA (.t rfl))<|.n (op_rem (.t rfl) (.k rfl) (by omega) (by decide +kernel : _ = (0 : Int)))<|.n (yG it3 it131 (.t rfl) (wr64 (by omega) (by omega)))<|.n (op_shr (.t rfl) (.t rfl) (by omega) (show Int.fdiv _ _ = (limbs x.natAbs).getD 0 0 from Int.fdiv_one _))<|.n (op_bits (by simp) (.t rfl) (.k rfl) (bit_and x.natAbs))<|.n (zB (.t rfl))<|.nil) ff rfl fun g6 => ⟨_, _, [], rfl, (.k 0 rfl<|.k 6 rfl<|.nil), (.nil), ?_⟩)
   refine zC<|zF<|zF (zG [] (.n (zA (.t rfl))<|.n (op_nilp (.t rfl))<|.n (yR fd96_0 (.t rfl) rfl)<|.n (yC sc4 (.t rfl) rfl)<|.nil) ff rfl fun g7 => ⟨_, _, [], rfl, (.k 6 rfl<|.k 36 rfl<|.nil), (.nil), ?_⟩)
   refine zC<|zH (zK (.t rfl)) (fun h3 => ?_) (fun h3 => ?_)
   ·try simp only [cmpB, Z] at h3
    exact absurd h3 (by simp; omega)
   ·try simp only [cmpB, Z] at h3
    refine yE<|zC<|zF (zG [] (.n (zA (.t rfl))<|.n (yG it153 it131 (.t rfl) (wr64 (by omega) (by omega)))<|.n (zB (.t rfl))<|.nil) ff rfl fun g8 => ⟨_, _, [], rfl, (.k 4 rfl<|.nil), (.nil), ?_⟩)
    refine zC<|yF<|zQ (.cons (.tmp (.t rfl))<|.nil) (zM (yD zL) ?_)
    exact zL
  ·try simp only [cmpB, Z] at h2
   refine yE<|zC<|zF<|zF (zG [] (.n (zA (.t rfl))<|.n (op_nilp (.t rfl))<|.n (yR fd96_0 (.t rfl) rfl)<|.n (yC sc4 (.t rfl) rfl)<|.nil) ff rfl fun g9 => ⟨_, _, [], rfl, (.k 6 rfl<|.k 36 rfl<|.nil), (.nil), ?_⟩)
   refine zC<|zH (zK (.t rfl)) (fun h4 => ?_) (fun h4 => ?_)
   ·try simp only [cmpB, Z] at h4
    exact absurd h4 (by simp; omega)
   ·try simp only [cmpB, Z] at h4
    refine yE<|zC<|zF (zG [] (.n (zA (.t rfl))<|.n (yG it153 it131 (.t rfl) (wr64 (by omega) (by omega)))<|.n (zB (.t rfl))<|.nil) ff rfl fun g10 => ⟨_, _, [], rfl, (.k 4 rfl<|.nil), (.nil), ?_⟩)
    refine zC<|yF<|zQ (.cons (.tmp (.t rfl))<|.nil) (zM (yD zL) ?_)
    exact ret_i (by rw [bit_0 (x := x.natAbs) (by have := h2; omega)]; rfl)
theorem ibit_ok {x : Nat} (hx : Sml (x : Int)) : Ct Tryz.prog 150 [intP (x : Int), isv (.int .i64 0)] (isv (.int .u64 ((x % 2 : Nat) : Int))) := ibit0_ok hx (by omega)
theorem iset_ok {u : Value} {q0 q1 : SP} {x : Int} (hx : Sml x) : CtM Tryz.prog 140 [ipo u 0, intP x] (blk u [q0, q1] 96) (ipo u 0) (blk u (intC (x)) 96) := by
 refine CtM.of Tryz.func140 rfl (by kernel_rfl) rfl (fix_blk) fun c0 ob hr0 => ?_
 have lx := sml_len hx
 refine zF (zG [] (.n (zB (.k rfl))<|.nil) ff rfl fun g1 => ⟨_, _, [0], rfl, (.k 0 rfl<|.k 1 rfl<|.nil), (.k 0 rfl<|.nil), ?_⟩)
 refine zC<|zF (zG [[], [], [1], [1, 2], [1, 2, 3], [], [5], [5, 6], [5, 6, 7], [5, 6, 7, 8], [0, 1, 2, 3, 4, 5, 6, 7, 8, 9], [0, 1, 2, 3, 4, 5, 6, 7, 8, 9, 10]] (.n (zA (.t rfl))<|.n (zA (.t rfl))<|.n (op_nilp (.t rfl))<|.n (yR fd96_0 (.t rfl) rfl)<|.n (yC sc4 (.t rfl) rfl)<|.n (zA (.t rfl))<|.n (op_nilp (.t rfl))<|.n (yR fd96_1 (.t rfl) rfl)<|.n (yC sc94 (.t rfl) rfl)<|.n (op_append_nil sl94 zr153 rfl (.k rfl) (.t rfl) (by omega) (by omega))<|.w 0 (op_callM 0 (iput_ok (limbs_dig _)) ⟨(.t rfl), (.t rfl), (.t rfl),  trivial⟩ rfl)<|.n (zB (.t rfl))<|.nil) (fun _ => mixed) rfl fun g2 => ⟨_, _, [0], rfl, (.k 4 rfl<|.nil), (.k 0 rfl<|.nil), ?_⟩)
 refine zC<|yF<|JN_to (To.res 0 (r' := blk u (intC (x)) 96) rfl (yQ (by rw [mag_nat, set_1])) rfl) ?_
 refine JN_retM 0 hr0 (fix_blk) rfl (.cons (.tmp (.t rfl))<|.nil) (zM (yD zL) ?_)
 exact zL
theorem irsh0_ok {u : Value} {q0 q1 : SP} {x : Int} {n : Nat} (hx : Sml x) (hx0 : 0 ≤ x) (hn : n ≤ 32000000) : CtM Tryz.prog 143 [ipo u 0, intP x, isv (.int .u64 (n : Int))] (blk u [q0, q1] 96) (ipo u 0) (blk u (intC (((x.natAbs / 2 ^ n : Nat) : Int))) 96) := by
 refine CtM.of Tryz.func143 rfl (by kernel_rfl) rfl (fix_blk) fun c0 ob hr0 => ?_
 have lx := sml_len hx
 refine zF (zG [] (.n (zB (.k rfl))<|.nil) ff rfl fun g1 => ⟨_, _, [0], rfl, (.k 0 rfl<|.k 1 rfl<|.k 2 rfl<|.nil), (.k 0 rfl<|.nil), ?_⟩)
 refine zC<|zF<|zF (zG [] (.n (zA (.t rfl))<|.n (op_nilp (.t rfl))<|.n (yR fd96_0 (.t rfl) rfl)<|.n (yC sc4 (.t rfl) rfl)<|.n (op_not (.t rfl))<|.nil) ff rfl fun g2 => ⟨_, _, [0], rfl, (.k 0 rfl<|.k 1 rfl<|.k 2 rfl<|.k 12 rfl<|.nil), (.k 0 rfl<|.nil), ?_⟩)
 refine zC<|zH (zK (.t rfl)) (fun h1 => ?_) (fun h1 => ?_)
 ·try simp only [cmpB, Z] at h1
  refine zF (zG [] (.n (zA (.t rfl))<|.n (zA (.t rfl))<|.n (op_nilp (.t rfl))<|.n (yR fd96_1 (.t rfl) rfl)<|.n (yC sc94 (.t rfl) rfl)<|.n (zA (.t rfl))<|.n (zP (right_ok (limbs_dig _) lx hn) ⟨(.t rfl), (.t rfl),  trivial⟩)<|.w 0 (op_callM 0 (iput_ok (limbs_dig _)) ⟨(.t rfl), (.k rfl), (.t rfl),  trivial⟩ rfl)<|.n (zB (.t rfl))<|.nil) ff rfl fun g3 => ⟨_, _, [0], rfl, (.k 6 rfl<|.nil), (.k 0 rfl<|.nil), ?_⟩)
  refine zC<|yF<|zD<|JN_to (To.res 0 (r' := blk u (intC (((x.natAbs / 2 ^ n : Nat) : Int))) 96) rfl (yQ (by rw [mag_nat, mag_shr]; rfl)) rfl) ?_
  refine JN_retM 0 hr0 (fix_blk) rfl (.cons (.tmp (.t rfl))<|.nil) (zM (yD zL) ?_)
  exact zL
 ·try simp only [cmpB, Z] at h1
  exact absurd h1 (by simp; omega)
theorem irsh_ok {u : Value} {q0 q1 : SP} {x n : Nat} (hx : Sml (x : Int)) (hn : n ≤ 32000000) : CtM Tryz.prog 143 [ipo u 0, intP (x : Int), isv (.int .u64 (n : Int))] (blk u [q0, q1] 96) (ipo u 0) (blk u (intC (((x / 2 ^ n : Nat) : Int))) 96) := irsh0_ok hx (by omega) hn
theorem irshA0_ok {u : Value} {x : Int} {n : Nat} (hx : Sml x) (hx0 : 0 ≤ x) (hn : n ≤ 32000000) : CtM Tryz.prog 143 [ipo u 0, ipo u 0, isv (.int .u64 (n : Int))] (blk u (intC (x)) 96) (ipo u 0) (blk u (intC (((x.natAbs / 2 ^ n : Nat) : Int))) 96) := by
 refine CtM.of Tryz.func143 rfl (by kernel_rfl) rfl (fix_blk) fun c0 ob hr0 => ?_
 have lx := sml_len hx
 refine zF (zG [] (.n (zB (.k rfl))<|.nil) ff rfl fun g1 => ⟨_, _, [0], rfl, (.k 0 rfl<|.k 1 rfl<|.k 2 rfl<|.nil), (.k 0 rfl<|.nil), ?_⟩)
 refine zC<|zF<|zF (zG [] (.n (zA (.t rfl))<|.n (op_nilo (.t rfl))<|.n (zI fd96_0 (.t rfl) rfl)<|.r 0 (zN 0 sc4 (.t rfl) rfl zJ rfl)<|.n (op_not (.t rfl))<|.nil) ff rfl fun g2 => ⟨_, _, [0], rfl, (.k 0 rfl<|.k 1 rfl<|.k 2 rfl<|.k 12 rfl<|.nil), (.k 0 rfl<|.nil), ?_⟩)
 refine zC<|zH (zK (.t rfl)) (fun h1 => ?_) (fun h1 => ?_)
 ·try simp only [cmpB, Z] at h1
  refine zF (zG [] (.n (zA (.t rfl))<|.n (zA (.t rfl))<|.n (op_nilo (.t rfl))<|.n (zI fd96_1 (.t rfl) rfl)<|.r 0 (zN 0 sc94 (.t rfl) rfl zJ rfl)<|.n (zA (.t rfl))<|.n (zP (right_ok (limbs_dig _) lx hn) ⟨(.t rfl), (.t rfl),  trivial⟩)<|.w 0 (op_callM 0 (iput_ok (limbs_dig _)) ⟨(.t rfl), (.k rfl), (.t rfl),  trivial⟩ rfl)<|.n (zB (.t rfl))<|.nil) ff rfl fun g3 => ⟨_, _, [0], rfl, (.k 6 rfl<|.nil), (.k 0 rfl<|.nil), ?_⟩)
  refine zC<|yF<|zD<|JN_to (To.res 0 (r' := blk u (intC (((x.natAbs / 2 ^ n : Nat) : Int))) 96) rfl (yQ (by rw [mag_nat, mag_shr]; rfl)) rfl) ?_
  refine JN_retM 0 hr0 (fix_blk) rfl (.cons (.tmp (.t rfl))<|.nil) (zM (yD zL) ?_)
  exact zL
 ·try simp only [cmpB, Z] at h1
  exact absurd h1 (by simp; omega)
theorem irshA_ok {u : Value} {x n : Nat} (hx : Sml (x : Int)) (hn : n ≤ 32000000) : CtM Tryz.prog 143 [ipo u 0, ipo u 0, isv (.int .u64 (n : Int))] (blk u (intC ((x : Int))) 96) (ipo u 0) (blk u (intC (((x / 2 ^ n : Nat) : Int))) 96) := irshA0_ok hx (by omega) hn
theorem ilshA_ok {u : Value} {x : Int} {n : Nat} (hx : Sml x) (hn : n ≤ 32000000) : CtM Tryz.prog 90 [ipo u 0, ipo u 0, isv (.int .u64 (n : Int))] (blk u (intC (x)) 96) (ipo u 0) (blk u (intC (x * 2 ^ n)) 96) := by
 refine CtM.of Tryz.func90 rfl (by kernel_rfl) rfl (fix_blk) fun c0 ob hr0 => ?_
 have lx := sml_len hx
 refine zF (zG [] (.n (zB (.k rfl))<|.nil) ff rfl fun g1 => ⟨_, _, [0], rfl, (.k 0 rfl<|.k 1 rfl<|.k 2 rfl<|.nil), (.k 0 rfl<|.nil), ?_⟩)
 refine zC<|zF (zG [[], [], [1], [1, 2], [1, 2, 3], [], [5], [5, 6], [5, 6, 7], [], [5, 6, 7, 8, 9], [0, 1, 2, 3, 4, 5, 6, 7, 8, 9, 10], [0, 1, 2, 3, 4, 5, 6, 7, 8, 9, 10, 11]] (.n (zA (.t rfl))<|.n (zA (.t rfl))<|.n (op_nilo (.t rfl))<|.n (zI fd96_0 (.t rfl) rfl)<|.r 0 (zN 0 sc4 (.t rfl) rfl zJ rfl)<|.n (zA (.t rfl))<|.n (op_nilo (.t rfl))<|.n (zI fd96_1 (.t rfl) rfl)<|.r 0 (zN 0 sc94 (.t rfl) rfl zJ rfl)<|.n (zA (.t rfl))<|.n (zP (left_ok (limbs_dig _) lx hn) ⟨(.t rfl), (.t rfl),  trivial⟩)<|.w 0 (op_callM 0 (iput_ok (limbs_dig _)) ⟨(.t rfl), (.t rfl), (.t rfl),  trivial⟩ rfl)<|.n (zB (.t rfl))<|.nil) (fun _ => mixed) rfl fun g2 => ⟨_, _, [0], rfl, (.k 6 rfl<|.nil), (.k 0 rfl<|.nil), ?_⟩)
 refine zC<|yF<|JN_to (To.res 0 (r' := blk u (intC (x * 2 ^ n)) 96) rfl (yQ (by rw [mag_nat, mag_shl, shl_1])) rfl) ?_
 refine JN_retM 0 hr0 (fix_blk) rfl (.cons (.tmp (.t rfl))<|.nil) (zM (yD zL) ?_)
 exact zL
theorem ilshB_ok {u w : Value} {q0 q1 : SP} {x : Int} {n : Nat} (hx : Sml x) (hn : n ≤ 32000000) : CtM Tryz.prog 90 [ipo u 0, ipo w 0, isv (.int .u64 (n : Int))] ((blk u [q0, q1] 96).sep (blk w (intC (x)) 96)) (ipo u 0) ((blk u (intC (x * 2 ^ n)) 96).sep (blk w (intC (x)) 96)) := by
 refine CtM.of Tryz.func90 rfl (by kernel_rfl) rfl (fix_sep fix_blk fix_blk) fun c0 ob hr0 => ?_
 have lx := sml_len hx
 refine yN (To.emps 1) ?_
 refine yN (To.split 0 1 rfl rfl rfl rfl) ?_
 refine zF (zG [] (.n (zB (.k rfl))<|.nil) ff rfl fun g1 => ⟨_, _, [0, 1], rfl, (.k 0 rfl<|.k 1 rfl<|.k 2 rfl<|.nil), (.k 0 rfl<|.k 1 rfl<|.nil), ?_⟩)
 refine zC<|zF (zG [[], [], [1], [1, 2], [1, 2, 3], [], [5], [5, 6], [5, 6, 7], [], [5, 6, 7, 8, 9], [0, 1, 2, 3, 4, 5, 6, 7, 8, 9, 10], [0, 1, 2, 3, 4, 5, 6, 7, 8, 9, 10, 11]] (.n (zA (.t rfl))<|.n (zA (.t rfl))<|.n (op_nilo (.t rfl))<|.n (zI fd96_0 (.t rfl) rfl)<|.r 1 (zN 1 sc4 (.t rfl) rfl zJ rfl)<|.n (zA (.t rfl))<|.n (op_nilo (.t rfl))<|.n (zI fd96_1 (.t rfl) rfl)<|.r 1 (zN 1 sc94 (.t rfl) rfl zJ rfl)<|.n (zA (.t rfl))<|.n (zP (left_ok (limbs_dig _) lx hn) ⟨(.t rfl), (.t rfl),  trivial⟩)<|.w 0 (op_callM 0 (iput_ok (limbs_dig _)) ⟨(.t rfl), (.t rfl), (.t rfl),  trivial⟩ rfl)<|.n (zB (.t rfl))<|.nil) (fun _ => mixed) rfl fun g2 => ⟨_, _, [0, 1], rfl, (.k 6 rfl<|.nil), (.k 0 rfl<|.k 1 rfl<|.nil), ?_⟩)
 refine zC<|yF<|JN_to (To.res 0 (r' := blk u (intC (x * 2 ^ n)) 96) rfl (yQ (by rw [mag_nat, mag_shl, shl_1])) rfl) ?_
 refine JN_to (To.join 0 1 rfl rfl rfl rfl) ?_
 refine JN_retM 0 hr0 (fix_sep fix_blk fix_blk) rfl (.cons (.tmp (.t rfl))<|.nil) (zM (yD zL) ?_)
 exact zL
theorem isub_ok {u : Value} {q0 q1 : SP} {x y : Int} (hx : Sml x) (hy : Sml y) : CtM Tryz.prog 148 [ipo u 0, intP x, intP y] (blk u [q0, q1] 96) (ipo u 0) (blk u (intC (x - y)) 96) := by
 refine CtM.of Tryz.func148 rfl (by kernel_rfl) rfl (fix_blk) fun c0 ob hr0 => ?_
 refine zF (zG [] (.n (zB (.k rfl))<|.nil) ff rfl fun g1 => ⟨_, _, [0], rfl, (.k 0 rfl<|.k 1 rfl<|.k 2 rfl<|.nil), (.k 0 rfl<|.nil), ?_⟩)
 refine zC<|zF (zG [] (.n (zA (.t rfl))<|.n (zA (.t rfl))<|.n (zA (.t rfl))<|.w 0 (op_callM 0 (isum_ok hx hy) ⟨(.t rfl), (.t rfl), (.t rfl), (.k rfl),  trivial⟩ rfl)<|.n (zB (.t rfl))<|.nil) ff rfl fun g2 => ⟨_, _, [0], rfl, (.k 6 rfl<|.nil), (.k 0 rfl<|.nil), ?_⟩)
 refine zC<|yF<|JN_to (To.res 0 (r' := blk u (intC (x - y)) 96) rfl (yQ (by rw [show x + sgnI true 1 * y = x - y by simp [sgnI]; omega])) rfl) ?_
 refine JN_retM 0 hr0 (fix_blk) rfl (.cons (.tmp (.t rfl))<|.nil) (zM (yD zL) ?_)
 exact zL
theorem isumA_ok {u : Value} {x y : Int} (hx : Sml x) (hy : Sml y) (hx0 : 0 ≤ x) (hy0 : 0 ≤ y) : CtM Tryz.prog 89 [ipo u 0, ipo u 0, intP y, isv (.bool false)] (blk u (intC (x)) 96) (ipo u 0) (blk u (intC (x + y)) 96) := by
 refine CtM.of Tryz.func89 rfl (by kernel_rfl) rfl (fix_blk) fun c0 ob hr0 => ?_
 have lx := sml_len hx
 have ly := sml_len hy
 refine zF (zG [] (.n (zB (.k rfl))<|.nil) ff rfl fun g1 => ⟨_, _, [0], rfl, (.k 0 rfl<|.k 1 rfl<|.k 2 rfl<|.k 3 rfl<|.nil), (.k 0 rfl<|.nil), ?_⟩)
 refine zC<|zF (zG [] (.n (zA (.t rfl))<|.n (op_nilp (.t rfl))<|.n (yR fd96_0 (.t rfl) rfl)<|.n (yC sc4 (.t rfl) rfl)<|.n (zA (.t rfl))<|.n (op_bne Tryz.underlying4 (.t rfl) (.t rfl))<|.n (zB (.t rfl))<|.nil) ff rfl fun g2 => ⟨_, _, [0], rfl, (.k 0 rfl<|.k 1 rfl<|.k 2 rfl<|.k 9 rfl<|.nil), (.k 0 rfl<|.nil), ?_⟩)
 refine zC<|zF<|zF (zG [] (.n (zA (.t rfl))<|.n (op_nilo (.t rfl))<|.n (zI fd96_0 (.t rfl) rfl)<|.r 0 (zN 0 sc4 (.t rfl) rfl zJ rfl)<|.n (zA (.t rfl))<|.n (op_beql Tryz.underlying4 (.t rfl) (.t rfl))<|.nil) ff rfl fun g3 => ⟨_, _, [0], rfl, (.k 0 rfl<|.k 1 rfl<|.k 2 rfl<|.k 9 rfl<|.k 21 rfl<|.nil), (.k 0 rfl<|.nil), ?_⟩)
 refine zC<|zH (zK (.t rfl)) (fun h1 => ?_) (fun h1 => ?_)
 ·try simp only [cmpB, Z] at h1
  refine zF (zG [[], [], [], [2], [2, 3], [2, 3, 4], [], [6], [6, 7], [6, 7, 8], [2, 3, 4, 5, 6, 7, 8, 9], [0, 1, 2, 3, 4, 5, 6, 7, 8, 9, 10], [0, 1, 2, 3, 4, 5, 6, 7, 8, 9, 10, 11]] (.n (zA (.t rfl))<|.n (zA (.t rfl))<|.n (zA (.t rfl))<|.n (op_nilo (.t rfl))<|.n (zI fd96_1 (.t rfl) rfl)<|.r 0 (zN 0 sc94 (.t rfl) rfl zJ rfl)<|.n (zA (.t rfl))<|.n (op_nilp (.t rfl))<|.n (yR fd96_1 (.t rfl) rfl)<|.n (yC sc94 (.t rfl) rfl)<|.n (zP (plus_ok (limbs_dig _) (limbs_dig _) lx ly) ⟨(.t rfl), (.t rfl),  trivial⟩)<|.w 0 (op_callM 0 (iput_ok (limbs_dig _)) ⟨(.t rfl), (.t rfl), (.t rfl),  trivial⟩ rfl)<|.n (zB (.t rfl))<|.nil) (fun _ => mixed) rfl fun g4 => ⟨_, _, [0], rfl, (.k 8 rfl<|.nil), (.k 0 rfl<|.nil), ?_⟩)
  refine zC<|yF<|zD<|JN_to (To.res 0 (r' := blk u (intC (x + y)) 96) rfl (yQ (by rw [mag_nat, mag_add, sumA_1 hx0 hy0])) rfl) ?_
  refine JN_retM 0 hr0 (fix_blk) rfl (.cons (.tmp (.t rfl))<|.nil) (zM (yD zL) ?_)
  exact zL
 ·try simp only [cmpB, Z] at h1
  exact absurd h1 (by simp; omega)
theorem iaddA_ok {u : Value} {x y : Int} (hx : Sml x) (hy : Sml y) (hx0 : 0 ≤ x) (hy0 : 0 ≤ y) : CtM Tryz.prog 53 [ipo u 0, ipo u 0, intP y] (blk u (intC (x)) 96) (ipo u 0) (blk u (intC (x + y)) 96) := by
 refine CtM.of Tryz.func53 rfl (by kernel_rfl) rfl (fix_blk) fun c0 ob hr0 => ?_
 refine zF (zG [] (.n (zB (.k rfl))<|.nil) ff rfl fun g1 => ⟨_, _, [0], rfl, (.k 0 rfl<|.k 1 rfl<|.k 2 rfl<|.nil), (.k 0 rfl<|.nil), ?_⟩)
 refine zC<|zF (zG [] (.n (zA (.t rfl))<|.n (zA (.t rfl))<|.n (zA (.t rfl))<|.w 0 (op_callM 0 (isumA_ok hx hy hx0 hy0) ⟨(.t rfl), (.t rfl), (.t rfl), (.k rfl),  trivial⟩ rfl)<|.n (zB (.t rfl))<|.nil) ff rfl fun g2 => ⟨_, _, [0], rfl, (.k 6 rfl<|.nil), (.k 0 rfl<|.nil), ?_⟩)
 refine zC<|yF<|JN_retM 0 hr0 (fix_blk) rfl (.cons (.tmp (.t rfl))<|.nil) (zM (yD zL) ?_)
 exact zL
theorem icmp0_ok {x y : Int} (hx0 : 0 ≤ x) (hy0 : 0 ≤ y) : Ct Tryz.prog 149 [intP x, intP y] (isv (.int .i64 (cmpN x.natAbs y.natAbs))) := by
 refine Ct.of Tryz.func149 rfl (by kernel_rfl) rfl fun c0 => ?_
 refine zF (zG [] (.n (zB (.k rfl))<|.nil) ff rfl fun g1 => ⟨_, _, [], rfl, (.k 0 rfl<|.k 1 rfl<|.nil), (.nil), ?_⟩)
 refine zC<|zF<|zF (zG [[], [0], [0, 1], [0, 1, 2], [], [4], [4, 5], [4, 5, 6], [0, 1, 2, 3, 4, 5, 6, 7]] (.n (zA (.t rfl))<|.n (op_nilp (.t rfl))<|.n (yR fd96_0 (.t rfl) rfl)<|.n (yC sc4 (.t rfl) rfl)<|.n (zA (.t rfl))<|.n (op_nilp (.t rfl))<|.n (yR fd96_0 (.t rfl) rfl)<|.n (yC sc4 (.t rfl) rfl)<|.n (op_bne Tryz.underlying4 (.t rfl) (.t rfl))<|.nil) (fun _ => mixed) rfl fun g2 => ⟨_, _, [], rfl, (.k 0 rfl<|.k 1 rfl<|.k 14 rfl<|.nil), (.nil), ?_⟩)
 refine zC<|zH (zK (.t rfl)) (fun h1 => ?_) (fun h1 => ?_)
 ·have h1' := h1
  try simp only [cmpB, Z] at h1
  exact absurd h1' (by rw [show decide (x < 0) = false by simp; omega, show decide (y < 0) = false by simp; omega]; decide)
 ·have h1' := h1
  try simp only [cmpB, Z] at h1
  refine yE<|zC<|zF (zG [[], [0], [0, 1], [0, 1, 2], [], [4], [4, 5], [4, 5, 6], [0, 1, 2, 3, 4, 5, 6, 7], [0, 1, 2, 3, 4, 5, 6, 7, 8]] (.n (zA (.t rfl))<|.n (op_nilp (.t rfl))<|.n (yR fd96_1 (.t rfl) rfl)<|.n (yC sc94 (.t rfl) rfl)<|.n (zA (.t rfl))<|.n (op_nilp (.t rfl))<|.n (yR fd96_1 (.t rfl) rfl)<|.n (yC sc94 (.t rfl) rfl)<|.n (zP (cmp_ok) ⟨(.t rfl), (.t rfl),  trivial⟩)<|.n (zB (.t rfl))<|.nil) (fun _ => mixed) rfl fun g3 => ⟨_, _, [], rfl, (.k 0 rfl<|.k 5 rfl<|.nil), (.nil), ?_⟩)
  refine zC<|zF<|zF (zG [] (.n (zA (.t rfl))<|.n (op_nilp (.t rfl))<|.n (yR fd96_0 (.t rfl) rfl)<|.n (yC sc4 (.t rfl) rfl)<|.nil) ff rfl fun g4 => ⟨_, _, [], rfl, (.k 5 rfl<|.k 31 rfl<|.nil), (.nil), ?_⟩)
  refine zC<|zH (zK (.t rfl)) (fun h2 => ?_) (fun h2 => ?_)
  ·try simp only [cmpB, Z] at h2
   exact absurd h2 (by simp; omega)
  ·try simp only [cmpB, Z] at h2
   refine yE<|zC<|zF (zG [] (.n (zA (.t rfl))<|.n (zB (.t rfl))<|.nil) ff rfl fun g5 => ⟨_, _, [], rfl, (.k 4 rfl<|.nil), (.nil), ?_⟩)
   refine zC<|yF<|zQ (.cons (.tmp (.t rfl))<|.nil) (zM (yD zL) ?_)
   exact zL
theorem icmp_ok {x y : Nat} : Ct Tryz.prog 149 [intP (x : Int), intP (y : Int)] (isv (.int .i64 (cmpN x y))) := icmp0_ok (by omega) (by omega)
theorem iu0_ok {x : Int} (hx0 : 0 ≤ x) (hx : x < 18446744073709551616) : Ct Tryz.prog 145 [intP x] (isv (.int .u64 ((x.natAbs : Nat) : Int))) := by
 refine Ct.of Tryz.func145 rfl (by kernel_rfl) rfl fun c0 => ?_
 have hl : (limbs x.natAbs).length ≤ 1000000 := sml_len (sml_of (by omega))
 have hd := limbs_dig x.natAbs
 refine zF (zG [] (.n (zB (.k rfl))<|.nil) ff rfl fun g1 => ⟨_, _, [], rfl, (.k 0 rfl<|.nil), (.nil), ?_⟩)
 refine zC<|zF (zG [] (.n (zB (.k rfl))<|.nil) ff rfl fun g2 => ⟨_, _, [], rfl, (.k 0 rfl<|.k 3 rfl<|.nil), (.nil), ?_⟩)
 refine zC<|zF<|zF (zG [] (.n (zA (.t rfl))<|.n (op_nilp (.t rfl))<|.n (yR fd96_1 (.t rfl) rfl)<|.n (yC sc94 (.t rfl) rfl)<|.n (yV sl94 (.t rfl))<|.n (yB (by simp) (.t rfl) (.k rfl) rfl)<|.nil) ff rfl fun g3 => ⟨_, _, [], rfl, (.k 0 rfl<|.k 3 rfl<|.k 9 rfl<|.nil), (.nil), ?_⟩)
 refine zC<|zH (zK (.t rfl)) (fun h1 => ?_) (fun h1 => ?_)
 ·try simp only [cmpB, Z] at h1
  have gd := hd.at (k := 0) (by have := h1; omega)
  refine (zG [] (.n (zA (.t rfl))<|.n (op_nilp (.t rfl))<|.n (yR fd96_1 (.t rfl) rfl)<|.n (yC sc94 (.t rfl) rfl)<|.n (yS 0 sl94 (.t rfl) (.k rfl) (by decide) (by omega))<|.n (yC sc153 (.t rfl) rfl)<|.n (yG it153 it34 (.t rfl) (show _ = (limbs x.natAbs).getD 0 0 from wr64 gd.1 (by have := gd.2; exact Int.lt_trans this (by decide))))<|.n (zB (.t rfl))<|.nil) ff rfl fun g4 => ⟨_, _, [], rfl, (.k 0 rfl<|.k 3 rfl<|.nil), (.nil), ?_⟩)
  refine zC<|zF<|zF (zG [] (.n (zA (.t rfl))<|.n (op_nilp (.t rfl))<|.n (yR fd96_1 (.t rfl) rfl)<|.n (yC sc94 (.t rfl) rfl)<|.n (yV sl94 (.t rfl))<|.n (yB (by simp) (.t rfl) (.k rfl) rfl)<|.nil) ff rfl fun g5 => ⟨_, _, [], rfl, (.k 0 rfl<|.k 3 rfl<|.k 22 rfl<|.nil), (.nil), ?_⟩)
  refine zC<|zH (zK (.t rfl)) (fun h2 => ?_) (fun h2 => ?_)
  ·try simp only [cmpB, Z] at h2
   have ge := hd.at (k := 1) (by have := h2; omega)
   refine (zG [] (.n (zA (.t rfl))<|.n (zA (.t rfl))<|.n (op_nilp (.t rfl))<|.n (yR fd96_1 (.t rfl) rfl)<|.n (yC sc94 (.t rfl) rfl)<|.n (yS 0 sl94 (.t rfl) (.k rfl) (by decide) (by omega))<|.n (yC sc153 (.t rfl) rfl)<|.n (yG it153 it34 (.t rfl) (show _ = (limbs x.natAbs).getD 1 0 from wr64 ge.1 (by have := ge.2; exact Int.lt_trans this (by decide))))<|.n (op_shl (.t rfl) (.k rfl) (by omega) rfl)<|.n (op_bits (by simp) (.t rfl) (.t rfl) (or64 gd ge))<|.n (zB (.t rfl))<|.nil) ff rfl fun g6 => ⟨_, _, [], rfl, (.k 3 rfl<|.nil), (.nil), ?_⟩)
   refine zC<|zF (zG [] (.n (zA (.t rfl))<|.n (zB (.t rfl))<|.nil) ff rfl fun g7 => ⟨_, _, [], rfl, (.k 2 rfl<|.nil), (.nil), ?_⟩)
   refine zC<|yF<|zQ (.cons (.tmp (.t rfl))<|.nil) (zM (yD zL) ?_)
   exact ret_i (u64_2 (by omega))
  ·try simp only [cmpB, Z] at h2
   refine yE<|zC<|zF (zG [] (.n (zA (.t rfl))<|.n (zB (.t rfl))<|.nil) ff rfl fun g8 => ⟨_, _, [], rfl, (.k 2 rfl<|.nil), (.nil), ?_⟩)
   refine zC<|yF<|zQ (.cons (.tmp (.t rfl))<|.nil) (zM (yD zL) ?_)
   exact ret_i (u64_1 (by have := h2; omega))
 ·try simp only [cmpB, Z] at h1
  refine yE<|zC<|zF<|zF (zG [] (.n (zA (.t rfl))<|.n (op_nilp (.t rfl))<|.n (yR fd96_1 (.t rfl) rfl)<|.n (yC sc94 (.t rfl) rfl)<|.n (yV sl94 (.t rfl))<|.n (yB (by simp) (.t rfl) (.k rfl) rfl)<|.nil) ff rfl fun g9 => ⟨_, _, [], rfl, (.k 0 rfl<|.k 3 rfl<|.k 22 rfl<|.nil), (.nil), ?_⟩)
  refine zC<|zH (zK (.t rfl)) (fun h3 => ?_) (fun h3 => ?_)
  ·try simp only [cmpB, Z] at h3
   have ge := hd.at (k := 1) (by have := h3; omega)
   exact absurd h3 (by have := h1; omega)
  ·try simp only [cmpB, Z] at h3
   refine yE<|zC<|zF (zG [] (.n (zA (.t rfl))<|.n (zB (.t rfl))<|.nil) ff rfl fun g10 => ⟨_, _, [], rfl, (.k 2 rfl<|.nil), (.nil), ?_⟩)
   refine zC<|yF<|zQ (.cons (.tmp (.t rfl))<|.nil) (zM (yD zL) ?_)
   exact ret_i (by rw [limbs_len0.1 (show (limbs x.natAbs).length = 0 by have := h1; omega)]; rfl)
theorem iu64_ok {x : Nat} (hx : x < 18446744073709551616) : Ct Tryz.prog 145 [intP (x : Int)] (isv (.int .u64 (x : Int))) := iu0_ok (by omega) (by omega)
theorem known_ok  : Ct Tryz.prog 123 [isv (.int .i64 0)] (isv (.bool true)) := by
 refine Ct.of Tryz.func123 rfl (by kernel_rfl) rfl fun c0 => ?_
 refine zF (zG [] (.n (zB (.k rfl))<|.nil) ff rfl fun g1 => ⟨_, _, [], rfl, (.k 0 rfl<|.nil), (.nil), ?_⟩)
 refine zC<|zF (zG [] (.n (zA (.t rfl))<|.n (yB (by simp) (.t rfl) (.k rfl) rfl)<|.n (zA (.t rfl))<|.n (yA rfl rfl (gd_b rfl) (fun hC => (zA (.t rfl))))<|.n (yA rfl rfl (gd_b rfl) (fun hC => (yB (by simp) (.w rfl hC) (.k rfl) rfl)))<|.n (op_and (.t rfl) (fun h2 => (.w rfl h2)))<|.n (zB (.t rfl))<|.nil) ff rfl fun g2 => ⟨_, _, [], rfl, (.k 2 rfl<|.nil), (.nil), ?_⟩)
 refine zC<|yF<|zQ (.cons (.tmp (.t rfl))<|.nil) (zM (yD zL) ?_)
 exact zL
theorem dbl_ok  : Ct Tryz.prog 124 [] (dblP) := by
 refine Ct.of Tryz.func124 rfl (by kernel_rfl) rfl fun c0 => ?_
 refine yN (To.emps 1) ?_
 refine zF (zG [] (.w 0 (yT 0 zr161 rfl rfl)<|.nil) ff rfl fun g1 => ⟨_, _, [0], rfl, (.k 0 rfl<|.nil), (.k 0 rfl<|.nil), ?_⟩)
 refine zC<|zF (zG [] (.n (op_build zr161 rfl pl161 (.cons rfl (.k rfl) co_isv rfl (yU rfl (Nat.le_of_ble_eq_true rfl)) (.cons rfl (.k rfl) co_isv rfl (yU rfl (Nat.le_of_ble_eq_true rfl)) (.cons rfl (.k rfl) co_isv rfl (yU rfl (Nat.le_of_ble_eq_true rfl)) (.cons rfl (.k rfl) co_isv rfl (yU rfl (Nat.le_of_ble_eq_true rfl)) .nil)))))<|.w 0 (yM 0 (.t rfl) (.t rfl) yL sz161 rfl rfl rfl)<|.nil) ff rfl fun g2 => ⟨_, _, [0], rfl, (.k 0 rfl<|.nil), (.k 0 rfl<|.nil), ?_⟩)
 refine zC<|yF<|zQ (.cons (.ag 0 (.t rfl) ag161 rfl rfl rfl)<|.nil) (zM (yD zL) ?_)
 exact zL
theorem fput_ok {neg : Bool} {n f : Nat} (hn : n < 2048) (hf : f < 4503599627370496) : Ct Tryz.prog 138 [dblP, isv (.bool neg), isv (.int .i64 (n : Int)), isv (.int .u64 (f : Int))] (isv (.int .u64 ((putW neg n f : Nat) : Int))) := by
 refine Ct.of Tryz.func138 rfl (by kernel_rfl) rfl fun c0 => ?_
 refine yN (To.emps 1) ?_
 refine zF (zG [] (.w 0 (op_box 0 (.t rfl) yL rfl)<|.n (zB (.k rfl))<|.nil) ff rfl fun g1 => ⟨_, _, [0], rfl, (.k 1 rfl<|.k 2 rfl<|.k 3 rfl<|.k 4 rfl<|.nil), (.k 0 rfl<|.nil), ?_⟩)
 refine zC<|zF (zG [] (.n (zA (.t rfl))<|.n (yG it3 it34 (.t rfl) (wr64 (by omega) (by omega)))<|.n (zI fd161_0 (.t rfl) rfl)<|.r 0 (zN 0 sc3 (.t rfl) rfl zJ rfl)<|.n (op_sub (.t rfl) (.k rfl) (zO (by omega) (by omega)))<|.n (yG it3 it131 (.t rfl) (by decide +kernel : _ = (52 : Int)))<|.n (op_shl (.t rfl) (.t rfl) (by omega) (shl52 hn))<|.n (zA (.t rfl))<|.n (op_bits (by simp) (.t rfl) (.t rfl) (put_or hn hf))<|.n (zB (.t rfl))<|.nil) ff rfl fun g2 => ⟨_, _, [0], rfl, (.k 1 rfl<|.k 4 rfl<|.k 9 rfl<|.nil), (.k 0 rfl<|.nil), ?_⟩)
 refine zC<|zF<|zF (zG [] (.n (zA (.t rfl))<|.nil) ff rfl fun g3 => ⟨_, _, [0], rfl, (.k 4 rfl<|.k 9 rfl<|.k 19 rfl<|.nil), (.k 0 rfl<|.nil), ?_⟩)
 refine zC<|zH (zK (.t rfl)) (fun h1 => ?_) (fun h1 => ?_)
 ·have h1' := h1
  try simp only [cmpB, Z] at h1
  refine (zG [] (.n (zA (.t rfl))<|.n (zI fd161_0 (.t rfl) rfl)<|.r 0 (zN 0 sc3 (.t rfl) rfl zJ rfl)<|.n (op_sub (.t rfl) (.k rfl) (zO (by omega) (by omega)))<|.n (zI fd161_3 (.t rfl) rfl)<|.r 0 (zN 0 sc3 (.t rfl) rfl zJ rfl)<|.n (yK (.t rfl) (.t rfl) (zO (by omega) (by omega)))<|.n (yG it3 it131 (.t rfl) (by decide +kernel : _ = (63 : Int)))<|.n (op_shl (.k rfl) (.t rfl) (by omega) (by decide +kernel : _ = (9223372036854775808 : Int)))<|.n (op_bits (by simp) (.t rfl) (.t rfl) (put_top hn hf))<|.n (zB (.t rfl))<|.nil) ff rfl fun g4 => ⟨_, _, [], rfl, (.k 9 rfl<|.nil), (.nil), ?_⟩)
  refine zC<|zF (zG [] (.n (zA (.t rfl))<|.n (zB (.t rfl))<|.nil) ff rfl fun g5 => ⟨_, _, [], rfl, (.k 8 rfl<|.nil), (.nil), ?_⟩)
  refine zC<|yF<|zQ (.cons (.tmp (.t rfl))<|.nil) (zM (yD zL) ?_)
  exact ret_i (by rw [h1'])
 ·have h1' := h1
  try simp only [cmpB, Z] at h1
  refine yE<|zC<|zF (zG [] (.n (zA (.t rfl))<|.n (zB (.t rfl))<|.nil) ff rfl fun g6 => ⟨_, _, [], rfl, (.k 8 rfl<|.nil), (.nil), ?_⟩)
  refine zC<|yF<|zQ (.cons (.tmp (.t rfl))<|.nil) (zM (yD zL) ?_)
  exact ret_i (by rw [h1']; exact put_no)
theorem finf_ok {neg : Bool} : Ct Tryz.prog 132 [dblP, isv (.bool neg)] (isv (.int .u64 ((putW neg 2047 0 : Nat) : Int))) := by
 refine Ct.of Tryz.func132 rfl (by kernel_rfl) rfl fun c0 => ?_
 refine yN (To.emps 1) ?_
 refine zF (zG [] (.w 0 (op_box 0 (.t rfl) yL rfl)<|.n (zB (.k rfl))<|.nil) ff rfl fun g1 => ⟨_, _, [0], rfl, (.k 1 rfl<|.k 2 rfl<|.nil), (.k 0 rfl<|.nil), ?_⟩)
 refine zC<|zF (zG [] (.r 0 (yI 0 ag161 (.t rfl) rfl zJ rfl rfl)<|.n (zA (.t rfl))<|.n (zI fd161_3 (.t rfl) rfl)<|.r 0 (zN 0 sc3 (.t rfl) rfl zJ rfl)<|.n (yG it3 it131 (.t rfl) (by decide +kernel : _ = (11 : Int)))<|.n (op_shl (.k rfl) (.t rfl) (by omega) (by decide +kernel : _ = (2048 : Int)))<|.n (op_sub (.t rfl) (.k rfl) (by decide +kernel : _ = (((2047 : Nat) : Int) : Int)))<|.n (zP (fput_ok (n := 2047) (f := 0) (by decide) (by decide)) ⟨(.t rfl), (.t rfl), (.t rfl), (.k rfl),  trivial⟩)<|.n (zB (.t rfl))<|.nil) ff rfl fun g2 => ⟨_, _, [], rfl, (.k 4 rfl<|.nil), (.nil), ?_⟩)
 refine zC<|yF<|zQ (.cons (.tmp (.t rfl))<|.nil) (zM (yD zL) ?_)
 exact zL
theorem fnou_ok {neg : Bool} : Ct Tryz.prog 134 [dblP, isv (.bool neg)] (isv (.int .u64 ((putW neg 0 0 : Nat) : Int))) := by
 refine Ct.of Tryz.func134 rfl (by kernel_rfl) rfl fun c0 => ?_
 refine yN (To.emps 1) ?_
 refine zF (zG [] (.w 0 (op_box 0 (.t rfl) yL rfl)<|.n (zB (.k rfl))<|.nil) ff rfl fun g1 => ⟨_, _, [0], rfl, (.k 1 rfl<|.k 2 rfl<|.nil), (.k 0 rfl<|.nil), ?_⟩)
 refine zC<|zF (zG [] (.r 0 (yI 0 ag161 (.t rfl) rfl zJ rfl rfl)<|.n (zA (.t rfl))<|.n (zP (fput_ok (n := 0) (f := 0) (by decide) (by decide)) ⟨(.t rfl), (.t rfl), (.k rfl), (.k rfl),  trivial⟩)<|.n (zB (.t rfl))<|.nil) ff rfl fun g2 => ⟨_, _, [], rfl, (.k 4 rfl<|.nil), (.nil), ?_⟩)
 refine zC<|yF<|zQ (.cons (.tmp (.t rfl))<|.nil) (zM (yD zL) ?_)
 exact zL
theorem fnone_ok  : Ct Tryz.prog 131 [dblP] (isv (.int .u64 ((NAN : Nat) : Int))) := by
 refine Ct.of Tryz.func131 rfl (by kernel_rfl) rfl fun c0 => ?_
 refine yN (To.emps 1) ?_
 refine zF (zG [] (.w 0 (op_box 0 (.t rfl) yL rfl)<|.n (zB (.k rfl))<|.nil) ff rfl fun g1 => ⟨_, _, [0], rfl, (.k 1 rfl<|.nil), (.k 0 rfl<|.nil), ?_⟩)
 refine zC<|zF<|zF (zG [] (.n (zI fd161_0 (.t rfl) rfl)<|.r 0 (zN 0 sc3 (.t rfl) rfl zJ rfl)<|.n (yB (by simp) (.t rfl) (.k rfl) rfl)<|.nil) ff rfl fun g2 => ⟨_, _, [], rfl, (.k 5 rfl<|.nil), (.nil), ?_⟩)
 refine zC<|zH (zK (.t rfl)) (fun h1 => ?_) (fun h1 => ?_)
 ·try simp only [cmpB, Z] at h1
  exact absurd h1 (by decide)
 ·try simp only [cmpB, Z] at h1
  refine yE<|zC<|zF (zG [] (.n (zB (.k rfl))<|.nil) ff rfl fun g3 => ⟨_, _, [], rfl, (.k 2 rfl<|.nil), (.nil), ?_⟩)
  refine zC<|yF<|zQ (.cons (.tmp (.t rfl))<|.nil) (zM (yD zL) ?_)
  exact zL
theorem fover_ok {neg : Bool} : Ct Tryz.prog 144 [dblP, isv (.bool neg), isv (.int .i64 0)] (isv (.int .u64 ((putW neg 2047 0 : Nat) : Int))) := by
 refine Ct.of Tryz.func144 rfl (by kernel_rfl) rfl fun c0 => ?_
 refine yN (To.emps 1) ?_
 refine zF (zG [] (.w 0 (op_box 0 (.t rfl) yL rfl)<|.n (zB (.k rfl))<|.nil) ff rfl fun g1 => ⟨_, _, [0], rfl, (.k 1 rfl<|.k 2 rfl<|.k 3 rfl<|.nil), (.k 0 rfl<|.nil), ?_⟩)
 refine zC<|zF<|zF (zG [] (.n (zA (.t rfl))<|.n (yB (by simp) (.t rfl) (.k rfl) rfl)<|.n (zA (.t rfl))<|.n (yA rfl rfl (gd_b rfl) (fun hC => (zA (.t rfl))))<|.n (yA rfl rfl (gd_b rfl) (fun hC => (yB (by simp) (.w rfl hC) (.k rfl) rfl)))<|.n (yA rfl rfl (gd_b rfl) (fun hC => (zA (.w rfl hC))))<|.n (yA rfl rfl (gd_w rfl) (fun hC => (zA (.t rfl))))<|.n (yA rfl rfl (gd_b rfl) (fun hC => (op_and (.w rfl hC) (fun h2 => (.w rfl ⟨hC, h2⟩)))))<|.n (op_or (.t rfl) (fun h2 => (.w rfl h2)))<|.n (zA (.t rfl))<|.n (yA rfl rfl (gd_b rfl) (fun hC => (zA (.t rfl))))<|.n (yA rfl rfl (gd_b rfl) (fun hC => (yB (by simp) (.w rfl hC) (.k rfl) rfl)))<|.n (yA rfl rfl (gd_b rfl) (fun hC => (zA (.w rfl hC))))<|.n (yA rfl rfl (gd_w rfl) (fun hC => (zA (.t rfl))))<|.n (yA rfl rfl (gd_w rfl) (fun hC => (op_not (.w rfl hC))))<|.n (yA rfl rfl (gd_b rfl) (fun hC => (op_and (.w rfl hC) (fun h2 => (.w rfl ⟨hC, h2⟩)))))<|.n (op_or (.t rfl) (fun h2 => (.w rfl h2)))<|.nil) ff rfl fun g2 => ⟨_, _, [0], rfl, (.k 1 rfl<|.k 3 rfl<|.k 23 rfl<|.nil), (.k 0 rfl<|.nil), ?_⟩)
 refine zC<|zH (zK (.t rfl)) (fun h1 => ?_) (fun h1 => ?_)
 ·have h1' := h1
  try simp only [cmpB, Z] at h1
  exact absurd h1' (by cases neg <;> decide)
 ·have h1' := h1
  try simp only [cmpB, Z] at h1
  refine yE<|zC<|zF (zG [] (.r 0 (yI 0 ag161 (.t rfl) rfl zJ rfl rfl)<|.n (zA (.t rfl))<|.n (zP (finf_ok) ⟨(.t rfl), (.t rfl),  trivial⟩)<|.n (zB (.t rfl))<|.nil) ff rfl fun g3 => ⟨_, _, [], rfl, (.k 6 rfl<|.nil), (.nil), ?_⟩)
  refine zC<|yF<|zQ (.cons (.tmp (.t rfl))<|.nil) (zM (yD zL) ?_)
  exact zL
theorem nzero_ok {n : Nm} : Ct Tryz.prog 133 [numP n] (isv (.bool (decide (n.k = 0) && decide (signI (n.m : Int) = 0)))) := by
 refine Ct.of Tryz.func133 rfl (by kernel_rfl) rfl fun c0 => ?_
 refine yN (To.emps 1) ?_
 refine zF (zG [] (.w 0 (op_box 0 (.t rfl) yL rfl)<|.n (zB (.k rfl))<|.nil) ff rfl fun g1 => ⟨_, _, [0], rfl, (.k 1 rfl<|.nil), (.k 0 rfl<|.nil), ?_⟩)
 refine zC<|zF (zG [] (.n (zI fd159_0 (.t rfl) rfl)<|.r 0 (zN 0 sc3 (.t rfl) rfl zJ rfl)<|.n (yB (by simp) (.t rfl) (.k rfl) rfl)<|.n (zA (.t rfl))<|.n (yA rfl rfl (gd_b rfl) (fun hC => (zI fd159_2 (.t rfl) rfl)))<|.r 0 (yA rfl rfl (gd_b rfl) (fun hC => (zN 0 sc39 (.w rfl hC) rfl zJ rfl)))<|.n (yA rfl rfl (gd_b rfl) (fun hC => (zP (isign_ok) ⟨(.w rfl hC),  trivial⟩)))<|.n (yA rfl rfl (gd_b rfl) (fun hC => (yB (by simp) (.w rfl hC) (.k rfl) rfl)))<|.n (op_and (.t rfl) (fun h2 => (.w rfl h2)))<|.n (zB (.t rfl))<|.nil) ff rfl fun g2 => ⟨_, _, [], rfl, (.k 2 rfl<|.nil), (.nil), ?_⟩)
 refine zC<|yF<|zQ (.cons (.tmp (.t rfl))<|.nil) (zM (yD zL) ?_)
 exact ret_b rfl
theorem goup_ok {neg : Bool} {q : Nat} {c : Int} (hq : Sml (q : Int)) : Ct Tryz.prog 142 [isv (.bool neg), intP (q : Int), isv (.int .i64 c), isv (.int .i64 0)] (isv (.bool (upB q c))) := by
 refine Ct.of Tryz.func142 rfl (by kernel_rfl) rfl fun c0 => ?_
 refine zF (zG [] (.n (zB (.k rfl))<|.nil) ff rfl fun g1 => ⟨_, _, [], rfl, (.k 0 rfl<|.k 1 rfl<|.k 2 rfl<|.k 3 rfl<|.nil), (.nil), ?_⟩)
 refine zC<|zF<|zF (zG [] (.n (zA (.t rfl))<|.nil) ff rfl fun g2 => ⟨_, _, [], rfl, (.k 0 rfl<|.k 1 rfl<|.k 2 rfl<|.k 9 rfl<|.nil), (.nil), ?_⟩)
 refine zC<|zT<|zF (zG [] (.n (yB (by simp) (.t rfl) (.k rfl) rfl)<|.n (zB (.t rfl))<|.nil) ff rfl fun g3 => ⟨_, _, [], rfl, (.k 0 rfl<|.k 1 rfl<|.k 2 rfl<|.k 9 rfl<|.k 10 rfl<|.nil), (.nil), ?_⟩)
 refine zC<|zH (zK (.t rfl)) (fun h1 => ?_) (fun h1 => ?_)
 ·try simp only [cmpB, Z] at h1
  refine zF (zG [] (.n (zA (.t rfl))<|.n (yB (by simp) (.t rfl) (.k rfl) rfl)<|.n (zA (.t rfl))<|.n (yA rfl rfl (gd_b rfl) (fun hC => (zA (.t rfl))))<|.n (yA rfl rfl (gd_b rfl) (fun hC => (yB (by simp) (.w rfl hC) (.k rfl) rfl)))<|.n (yA rfl rfl (gd_b rfl) (fun hC => (zA (.w rfl hC))))<|.n (yA rfl rfl (gd_w rfl) (fun hC => (zA (.t rfl))))<|.n (yA rfl rfl (gd_w rfl) (fun hC => (zP (ibit_ok (by assumption)) ⟨(.w rfl hC), (.k rfl),  trivial⟩)))<|.n (yA rfl rfl (gd_w rfl) (fun hC => (yB (by simp) (.w rfl hC) (.k rfl) rfl)))<|.n (yA rfl rfl (gd_b rfl) (fun hC => (op_and (.w rfl hC) (fun h2 => (.w rfl ⟨hC, h2⟩)))))<|.n (op_or (.t rfl) (fun h2 => (.w rfl h2)))<|.n (zB (.t rfl))<|.nil) ff rfl fun g4 => ⟨_, _, [], rfl, (.k 8 rfl<|.nil), (.nil), ?_⟩)
  refine zC<|yF<|yP<|zD<|zQ (.cons (.tmp (.t rfl))<|.nil) (zM (yD zL) ?_)
  exact ret_b (up_eq q c)
 ·try simp only [cmpB, Z] at h1
  exact absurd h1 (by decide)
theorem cutF_ok {m s : Nat} (hm : m < 18446744073709551616) (hs : 1 ≤ s) (hs2 : s ≤ 30000) : CtF Tryz.prog 141 [intP (m : Int), isv (.int .i64 (s : Int)), isv (.bool false)] (tp0) (fun u => tupp [ipo u 0, isv (.int .i64 (cutC m s))]) (fun u => blk u (intC ((m / 2 ^ s : Nat) : Int)) 96) := by
 refine CtF.of Tryz.func141 rfl (by kernel_rfl) rfl fun c0 => ?_
 have hml : Sml (m : Int) := sml_of (by omega)
 have hdm : m / 2 ^ s ≤ m := Nat.div_le_self _ _
 have hrm : m % 2 ^ s ≤ m := Nat.mod_le _ _
 have hqs := sml_low m s hm
 have hqm : Sml ((m / 2 ^ s : Nat) : Int) := sml_of (by rw [Int.natAbs_natCast]; omega)
 refine zF (zG [] (.n (zB (.k rfl))<|.n (zB (.k rfl))<|.nil) ff rfl fun g1 => ⟨_, _, [], rfl, (.k 0 rfl<|.k 1 rfl<|.k 2 rfl<|.nil), (.nil), ?_⟩)
 refine zC<|yN (To.emps 1) ?_
 refine zF (zG [] (.w 0 (yT 0 zr96 rfl rfl)<|.n (zA (.t rfl))<|.n (zA (.t rfl))<|.n (yG it3 it131 (.t rfl) (wr64 (by omega) (by omega)))<|.w 0 (op_callMp 0 rfl rfl (fun u => irsh_ok hml (by omega)) rfl ⟨(.t rfl), (.t rfl),  trivial⟩)<|.n (yX rfl rfl)<|.nil) ff rfl fun g2 => ⟨_, _, [0], rfl, (.k 0 rfl<|.k 1 rfl<|.k 2 rfl<|.k 8 rfl<|.nil), (.k 0 rfl<|.nil), ?_⟩)
 refine zC<|yN (To.emps 2) ?_
 refine zF (J_JO ?_)
 refine JO_split 6 rfl ?_
 refine (JO_reg (.w 1 (yT 1 zr96 rfl rfl)<|.n (zA (.t rfl))<|.w 2 (yT 2 zr96 rfl rfl)<|.n (zA (.t rfl))<|.n (zA (.t rfl))<|.n (yG it3 it131 (.t rfl) (wr64 (by omega) (by omega)))<|.nil) rfl fun g3 => ⟨_, _, [0, 1, 2], rfl, (.k 1 rfl<|.k 2 rfl<|.k 8 rfl<|.k 16 rfl<|.k 17 rfl<|.k 18 rfl<|.k 19 rfl<|.k 21 rfl<|.nil), (.k 0 rfl<|.k 1 rfl<|.k 2 rfl<|.nil), ?_⟩)
 refine JN_to (To.join 2 0 rfl rfl rfl rfl) ?_
 refine JN_seg ?_
 refine JO_split 1 rfl ?_
 refine (JO_reg (.w 2 (op_callM 2 (ilshB_ok (x := ((m / 2 ^ s : Nat) : Int)) (n := s) hqm (by omega)) ⟨(.t rfl), (.t rfl), (.t rfl), trivial⟩ rfl)<|.nil) rfl fun g4 => ⟨_, _, [1, 2], rfl, (.k 1 rfl<|.k 2 rfl<|.k 8 rfl<|.k 16 rfl<|.k 17 rfl<|.k 22 rfl<|.nil), (.k 1 rfl<|.k 2 rfl<|.nil), ?_⟩)
 refine JN_to (To.emps 1) ?_
 refine JN_to (To.split 1 2 rfl rfl rfl rfl) ?_
 refine JN_to (To.freeze 1 (fun _ h => h) rfl frz_blk rfl) ?_
 refine JN_seg ?_
 refine (JO_reg (.w 0 (op_callM 0 (isub_ok hml hqs) ⟨(.t rfl), (.t rfl), (Lk.sub (sb_ok 0 2 rfl rfl) (.t rfl)),  trivial⟩ rfl)<|.n (zB (.t rfl))<|.nil) rfl fun g5 => ⟨_, _, [0, 2], rfl, (.k 1 rfl<|.k 2 rfl<|.k 8 rfl<|.k 9 rfl<|.nil), (.k 0 rfl<|.k 2 rfl<|.nil), ?_⟩)
 refine zC<|zF<|yN (To.res 0 (r' := blk (g3 16) (intC (((m % 2 ^ s : Nat) : Int))) 96) rfl (yQ (by rw [low_rest])) rfl) ?_
 refine zF (zG [] (.n (zA (.t rfl))<|.n (yB (by simp) (.t rfl) (.k rfl) rfl)<|.nil) ff rfl fun g6 => ⟨_, _, [0, 1], rfl, (.k 1 rfl<|.k 2 rfl<|.k 8 rfl<|.k 9 rfl<|.k 25 rfl<|.nil), (.k 0 rfl<|.k 1 rfl<|.nil), ?_⟩)
 refine zC<|zH (zK (.t rfl)) (fun h1 => ?_) (fun h1 => ?_)
 ·try simp only [cmpB, Z] at h1
  exact absurd h1 (by omega)
 ·try simp only [cmpB, Z] at h1
  refine yE<|zC<|zF<|yN (To.freeze 0 (fun _ h => h) rfl frz_blk rfl) ?_
  refine zF (zG [] (.n (zA (.t rfl))<|.n (zP (isign_ok) ⟨(Lk.sub (sb_ok 0 2 rfl rfl) (.t rfl)),  trivial⟩)<|.n (yB (by simp) (.t rfl) (.k rfl) rfl)<|.n (zA (.t rfl))<|.n (yA rfl rfl (gd_b rfl) (fun hC => (zA (.t rfl))))<|.n (yA rfl rfl (gd_b rfl) (fun hC => (op_not (.w rfl hC))))<|.n (op_and (.t rfl) (fun h2 => (.w rfl h2)))<|.nil) ff rfl fun g7 => ⟨_, _, [1], rfl, (.k 1 rfl<|.k 2 rfl<|.k 8 rfl<|.k 9 rfl<|.k 35 rfl<|.nil), (.k 1 rfl<|.nil), ?_⟩)
  refine zC<|zH (zK (.t rfl)) (fun h2 => ?_) (fun h2 => ?_)
  ·have h2' := h2
   try simp only [cmpB, Z] at h2
   have hz : m % 2 ^ s = 0 := by have := signI_zero.1 (show signI ((m % 2 ^ s : Nat) : Int) = 0 by simpa using h2); omega
   refine zF (zG [] (.n (zA (.t rfl))<|.n (zB (.t rfl))<|.n (zB (.k rfl))<|.nil) ff rfl fun g8 => ⟨_, _, [0], rfl, (.k 6 rfl<|.k 7 rfl<|.nil), (.k 0 rfl<|.nil), ?_⟩)
   refine zC<|yF<|zD<|JN_to (To.isq 0 6 rfl rfl) ?_
   refine JN_retF2 (u := (g2 15)) 0 rfl rfl (.cons (.tmp (.t rfl))<|.cons (.tmp (.t rfl))<|.nil) (fun v1 v2 c h => h.1) ?_
   exact sb_tup (.cons sb_isq<|.cons (sb_eq (by rw [cutC_no hz]))<|.nil)
  ·have h2' := h2
   try simp only [cmpB, Z] at h2
   have hz : ¬ m % 2 ^ s = 0 := fun h => absurd h2' (by rw [h]; decide)
   refine yE<|zC<|yN (To.emps 1) ?_
   refine zF (J_JO ?_)
   refine JO_split 7 rfl ?_
   refine (JO_reg (.n (zA (.t rfl))<|.w 1 (yT 1 zr96 rfl rfl)<|.n (zP (newint_ok (n := 1) (by omega)) ⟨(.k rfl),  trivial⟩)<|.n (zA (.t rfl))<|.n (op_sub (.t rfl) (.k rfl) (zO (by omega) (by omega)))<|.n (yG it3 it131 (.t rfl) (show IntKind.u64.wrap ((s : Int) - 1) = ((s - 1 : Nat) : Int) by rw [wr64 (by omega) (by omega)]; omega))<|.w 1 (op_callMp 1 rfl rfl (fun u => ilsh_ok (x := 1) (n := s - 1) (sml_of (by decide)) (by omega)) rfl ⟨(.t rfl), (.t rfl),  trivial⟩)<|.nil) rfl fun g9 => ⟨_, _, [0, 1], rfl, (.k 2 rfl<|.k 8 rfl<|.k 37 rfl<|.k 43 rfl<|.nil), (.k 0 rfl<|.k 1 rfl<|.nil), ?_⟩)
   refine JN_to (To.res 1 (r' := blk (g9 43) (intC (((2 ^ (s - 1) : Nat) : Int))) 96) rfl (yQ (by rw [half_nat])) rfl) ?_
   refine JN_to (To.freeze 1 (fun _ h => h) rfl frz_blk rfl) ?_
   refine JN_seg ?_
   refine (JO_reg (.n (zP (icmp_ok) ⟨(Lk.sub (sb_ok 1 2 rfl rfl) (.t rfl)), (Lk.sub (sb_ok 0 2 rfl rfl) (.t rfl)),  trivial⟩)<|.n (zB (.t rfl))<|.nil) rfl fun g10 => ⟨_, _, [0], rfl, (.k 2 rfl<|.k 8 rfl<|.k 10 rfl<|.nil), (.k 0 rfl<|.nil), ?_⟩)
   refine zC<|zF<|zF (zG [] (.n (zA (.t rfl))<|.n (yB (by simp) (.t rfl) (.k rfl) rfl)<|.n (zA (.t rfl))<|.n (yA rfl rfl (gd_b rfl) (fun hC => (zA (.t rfl))))<|.n (op_and (.t rfl) (fun h2 => (.w rfl h2)))<|.nil) ff rfl fun g11 => ⟨_, _, [0], rfl, (.k 8 rfl<|.k 10 rfl<|.k 49 rfl<|.nil), (.k 0 rfl<|.nil), ?_⟩)
   refine zC<|zH (zK (.t rfl)) (fun h3 => ?_) (fun h3 => ?_)
   ·try simp only [cmpB, Z] at h3
    exact absurd h3 (by simp)
   ·try simp only [cmpB, Z] at h3
    refine yE<|zC<|zF (zG [] (.n (zA (.t rfl))<|.n (zA (.t rfl))<|.n (zB (.t rfl))<|.n (zB (.t rfl))<|.nil) ff rfl fun g12 => ⟨_, _, [0], rfl, (.k 6 rfl<|.k 7 rfl<|.nil), (.k 0 rfl<|.nil), ?_⟩)
    refine zC<|yF<|JN_to (To.isq 0 6 rfl rfl) ?_
    refine JN_retF2 (u := (g2 15)) 0 rfl rfl (.cons (.tmp (.t rfl))<|.cons (.tmp (.t rfl))<|.nil) (fun v1 v2 c h => h.1) ?_
    exact sb_tup (.cons sb_isq<|.cons (sb_eq (by rw [cutC_yes hz]))<|.nil)
end Go.Proofs.YtllkellonjhalaaGreat
