/- Printed by a program of ours (walk.py): walks of the tenth reference: lengths, mirrors, rotations. -/
import Derived.Test.YtllkellonjhalaaGreatOoKb
import Derived.Test.YtllkellonjhalaaGreatProg
import Derived.KernelRfl
import Derived.Test.YtllkellonjhalaaGreatOoTypes
import Derived.Test.YtllkellonjhalaaGreatOoWScl
import Derived.Test.YtllkellonjhalaaGreatOoWAwk
import Derived.Test.YtllkellonjhalaaGreatOoScl
set_option linter.unusedVariables false
set_option linter.unusedSimpArgs false
set_option maxRecDepth 20000
set_option maxHeartbeats 1000000
namespace Go.Proofs.YtllkellonjhalaaGreat
open Go Go.Bn
attribute [local irreducible] OpOK
theorem frexpN_ok {x : Nat} (hx : x < 2 ^ 64) (hf : finB x = false) (hz : fcmp .eql x 0 = false) : Ct Tryz.prog 115 [flp x] (tupp [anyp, isv (.int .i64 0)]) := by
 refine Ct.of Tryz.func115 rfl (by kernel_rfl) rfl fun c0 => ?_
 refine zF (zG [] (.n (zB (Lk.fk rfl (by decide +kernel)))<|.n (zB (.k rfl))<|.nil) ff rfl fun g1 => ⟨_, _, [], rfl, (.k 0 rfl<|.nil), (.nil), ?_⟩)
 refine zC<|zF<|zT<|zF (zG [] (.n (zA (.t rfl))<|.n (op_fcmp (by simp) (.t rfl) (Lk.fk rfl (by decide +kernel)) rfl)<|.n (zB (.t rfl))<|.nil) ff rfl fun g2 => ⟨_, _, [], rfl, (.k 0 rfl<|.k 5 rfl<|.nil), (.nil), ?_⟩)
 refine zC<|zH (zK (.t rfl)) (fun h1 => ?_) (fun h1 => ?_)
 ·have h1' := h1
  try simp only [cmpB, Z] at h1
  exact absurd (h1'.symm.trans hz) (by decide)
 ·have h1' := h1
  try simp only [cmpB, Z] at h1
  refine zF (zG [] (.n (zA (.t rfl))<|.n (zP (isinf_ok) ⟨(.t rfl), (.k rfl),  trivial⟩)<|.n (zA (.t rfl))<|.n (yA rfl rfl (gd_b rfl) (fun hC => (zA (.t rfl))))<|.n (yA rfl rfl (gd_b rfl) (fun hC => (zP (isnan_ok) ⟨(.w rfl hC),  trivial⟩)))<|.n (op_or (.t rfl) (fun h2 => (.w rfl h2)))<|.n (zB (.t rfl))<|.nil) ff rfl fun g3 => ⟨_, _, [], rfl, (.k 0 rfl<|.k 9 rfl<|.nil), (.nil), ?_⟩)
  refine zC<|zH (zK (.t rfl)) (fun h2 => ?_) (fun h2 => ?_)
  ·have h2' := h2
   try simp only [cmpB, Z] at h2
   refine zF (zG [] (.n (zA (.t rfl))<|.n (zB (.t rfl))<|.n (zB (.k rfl))<|.nil) ff rfl fun g4 => ⟨_, _, [], rfl, (.k 2 rfl<|.k 3 rfl<|.nil), (.nil), ?_⟩)
   refine zC<|yF<|yP<|zD<|zQ (.cons (.tmp (.t rfl))<|.cons (.tmp (.t rfl))<|.nil) (zM (sb_res (.cons zL<|.cons zL<|.nil)) ?_)
   exact fun _ _ _ ⟨vs, h1, h2⟩ => ⟨vs, h1, HL.sub1 h2⟩
  ·have h2' := h2
   try simp only [cmpB, Z] at h2
   exact absurd (fin_of_not hx h2') (by rw [hf]; decide)
theorem FrexpN_ok {x : Nat} (hx : x < 2 ^ 64) (hf : finB x = false) (hz : fcmp .eql x 0 = false) : Ct Tryz.prog 101 [flp x] (tupp [anyp, isv (.int .i64 0)]) := by
 refine Ct.of Tryz.func101 rfl (by kernel_rfl) rfl fun c0 => ?_
 refine zF (zG [] (.n (zB (Lk.fk rfl (by decide +kernel)))<|.n (zB (.k rfl))<|.nil) ff rfl fun g1 => ⟨_, _, [], rfl, (.k 0 rfl<|.nil), (.nil), ?_⟩)
 refine zC<|zF<|zH (zK (.k rfl)) (fun h1 => ?_) (fun h1 => ?_)
 ·have h1' := h1
  try simp only [cmpB, Z] at h1
  cases h1'
 ·have h1' := h1
  try simp only [cmpB, Z] at h1
  refine yE<|zC<|zF (zG [] (.n (zA (.t rfl))<|.n (zP (frexpN_ok hx hf hz) ⟨(.t rfl),  trivial⟩)<|.n (yJ (.t rfl) rfl)<|.n (yJ (.t rfl) rfl)<|.n (zB (.t rfl))<|.n (zB (.t rfl))<|.nil) ff rfl fun g2 => ⟨_, _, [], rfl, (.k 2 rfl<|.k 3 rfl<|.nil), (.nil), ?_⟩)
  refine zC<|yF<|zQ (.cons (.tmp (.t rfl))<|.cons (.tmp (.t rfl))<|.nil) (zM (sb_res (.cons zL<|.cons zL<|.nil)) ?_)
  exact zL
theorem FrexpG_ok {x : Nat} (hx : x < 2 ^ 64) (hz : fcmp .eql x 0 = false) : Ct Tryz.prog 101 [flp x] (tupp [anyp, isv (.int .i64 (frxG x))]) := by
 unfold frxG
 cases hf : finB x
 ·exact FrexpN_ok hx hf hz
 ·exact Frexp_ok ⟨hx, hf⟩ hz
theorem sbitN_ok {x : Nat} : Ct Tryz.prog 82 [flp x] (boolp) := by
 refine Ct.of Tryz.func82 rfl (by kernel_rfl) rfl fun c0 => ?_
 refine zF (zG [] (.n (zB (.k rfl))<|.nil) ff rfl fun g1 => ⟨_, _, [], rfl, (.k 0 rfl<|.nil), (.nil), ?_⟩)
 refine zC<|zF (J_JO ?_)
 refine JO_split 2 rfl ?_
 refine (JO_reg (.n (zA (.t rfl))<|.n (op_f64bits bitsX (.t rfl))<|.nil) rfl fun g2 => ⟨_, _, [], rfl, (.k 4 rfl<|.nil), (.nil), ?_⟩)
 refine To_bit 4 rfl fun b hb hcb => ?_
 refine JN_seg ?_
 refine (JO_reg (.n (yG it34 it2 (.t rfl) rfl)<|.n (yB (by simp) (.t rfl) (.k rfl) rfl)<|.n (zB (.t rfl))<|.nil) rfl fun g3 => ⟨_, _, [], rfl, (.k 2 rfl<|.nil), (.nil), ?_⟩)
 refine zC<|yF<|zQ (.cons (.tmp (.t rfl))<|.nil) (zM (yD zL) ?_)
 exact sb_boolp
theorem rpow_ok {xs : List Nat} (hL : ∀ k, xs.getD k 0 < 2 ^ 64) : Ct Tryz.prog 86 [fls xs] (tupp [isv (.int .i64 (powG xs)), isv (.bool (powB xs))]) := by
 refine Ct.of Tryz.func86 rfl (by kernel_rfl) rfl fun c0 => ?_
 refine J_len 0 rfl fun hlen => ?_
 refine zF (zG [] (.n (zB (.k rfl))<|.n (zB (.k rfl))<|.nil) ff rfl fun g1 => ⟨_, _, [], rfl, (.k 0 rfl<|.nil), (.nil), ?_⟩)
 refine zC<|zF (zG [] (.n (zB (Lk.fk rfl (by decide +kernel)))<|.nil) ff rfl fun g2 => ⟨_, _, [], rfl, (.k 0 rfl<|.k 4 rfl<|.nil), (.nil), ?_⟩)
 refine zC<|zF<|zF (zG [] (.n (zB (.k rfl))<|.nil) ff rfl fun g3 => ⟨_, _, [], rfl, (.k 0 rfl<|.k 4 rfl<|.k 5 rfl<|.nil), (.nil), ?_⟩)
 refine zC<|zT<|J_loopc (α := Nat) (fun k => k ≤ xs.length) (fun k => xs.length - k) (fun k restR => (4, flp (maxTo xs k)) :: (5, isv (.int .i64 (k : Int))) :: restR) (fun k restS => restS) (ρc := [(0, _)]) (σc := []) 0 (by exact Nat.zero_le _) (To.pick (fun _ => .sub (t := 4) rfl (yO (by rfl))<|.sub (t := 5) rfl (yO (by rfl))<|.k 0 rfl<|.nil) (fun _ => .nil) (ks := []) rfl) (fun k hI => ?_)
 refine zF<|zF (zG [] (.n (zA (.t rfl))<|.n (zA (.t rfl))<|.n (yV sl26 (.t rfl))<|.n (yB (by simp) (.t rfl) (.t rfl) rfl)<|.nil) ff rfl fun g4 => ⟨_, _, [], rfl, (.k 0 rfl<|.k 4 rfl<|.k 5 rfl<|.k 11 rfl<|.nil), (.nil), ?_⟩)
 refine zC<|zH (zK (.t rfl)) (fun h1 => ?_) (fun h1 => ?_)
 ·try simp only [cmpB, Z] at h1
  refine yE<|zC<|zF<|zT<|(zG [] (.n (zA (.t rfl))<|.n (zA (.t rfl))<|.n (zA (.t rfl))<|.n (yS 0 sl26 (.t rfl) (.t rfl) (by omega) (by omega))<|.n (yC sc36 (.t rfl) rfl)<|.n (zP (abs_ok) ⟨(.t rfl),  trivial⟩)<|.n (op_fmax (.t rfl) (.t rfl))<|.n (zB (.t rfl))<|.nil) ff rfl fun g5 => ⟨_, _, [], rfl, (.k 0 rfl<|.k 4 rfl<|.k 5 rfl<|.nil), (.nil), ?_⟩)
  refine zR<|zC<|(zG [] (.n (zA (.t rfl))<|.n (yK (.t rfl) (.k rfl) (zO (by omega) (by omega)))<|.n (zB (.t rfl))<|.nil) ff rfl fun g6 => ⟨_, _, [], rfl, (.k 0 rfl<|.k 4 rfl<|.k 5 rfl<|.nil), (.nil), ?_⟩)
  exact yW (k + 1) (by omega) (by omega) (To.pick (fun _ => .sub (t := 4) rfl (yO (by rfl))<|.sub (t := 5) rfl (yO (by rfl))<|.k 0 rfl<|.nil) (fun _ => .nil) (ks := []) rfl)
 ·try simp only [cmpB, Z] at h1
  have hk : k = xs.length := by omega
  refine J_exit ?_
  refine zE<|zE<|zS<|zC<|zF<|zF (zG [] (.n (zA (.t rfl))<|.n (op_fcmp (by simp) (.t rfl) (Lk.fk rfl (by decide +kernel)) rfl)<|.nil) ff rfl fun g7 => ⟨_, _, [], rfl, (.k 4 rfl<|.k 22 rfl<|.nil), (.nil), ?_⟩)
  refine zC<|zH (zK (.t rfl)) (fun h2 => ?_) (fun h2 => ?_)
  ·have h2' := h2
   try simp only [cmpB, Z] at h2
   refine zF (zG [] (.n (zB (.k rfl))<|.n (zB (.k rfl))<|.nil) ff rfl fun g8 => ⟨_, _, [], rfl, (.k 2 rfl<|.k 3 rfl<|.nil), (.nil), ?_⟩)
   refine zC<|yF<|zD<|zQ (.cons (.tmp (.t rfl))<|.cons (.tmp (.t rfl))<|.nil) (zM (sb_res (.cons zL<|.cons zL<|.nil)) ?_)
   exact sb_eq (by have e : powB xs = false := (by unfold powB maxL; rw [← hk, h2']; rfl); rw [e, ← powG_0 e])
  ·have h2' := h2
   try simp only [cmpB, Z] at h2
   have hz0 : fcmp .eql (maxTo xs k) 0 = false := h2'
   have hpb : powB xs = true := by unfold powB maxL; rw [← hk, hz0]; rfl
   have hrg := powG_rng xs
   have hpe : frxG (maxTo xs k) - 1 = powG xs := by unfold powG maxL; rw [if_pos hpb, hk]
   refine yE<|zC<|zF (zG [] (.n (zA (.t rfl))<|.n (zP (FrexpG_ok (maxTo_lt hL _) hz0) ⟨(.t rfl),  trivial⟩)<|.n (zA (.t rfl))<|.n (yJ (.t rfl) rfl)<|.n (yJ (.t rfl) rfl)<|.n (zB (.t rfl))<|.n (zB (.t rfl))<|.nil) ff rfl fun g9 => ⟨_, _, [], rfl, (.k 7 rfl<|.nil), (.nil), ?_⟩)
   refine zC<|zF (zG [] (.n (zA (.t rfl))<|.n (op_sub (.t rfl) (.k rfl) (zO (by omega) (by omega)))<|.n (zB (.t rfl))<|.n (zB (.k rfl))<|.nil) ff rfl fun g10 => ⟨_, _, [], rfl, (.k 2 rfl<|.k 3 rfl<|.nil), (.nil), ?_⟩)
   refine zC<|yF<|zQ (.cons (.tmp (.t rfl))<|.cons (.tmp (.t rfl))<|.nil) (zM (sb_res (.cons zL<|.cons zL<|.nil)) ?_)
   exact sb_eq (by rw [hpb, hpe])
theorem rsclF_ok {xs : List Nat} {k : Int} (h0 : -3000 ≤ k) (h1 : k ≤ 3000) (h9 : xs.length ≤ 1000) : CtF Tryz.prog 87 [fls xs, isv (.int .i64 k)] (tp0) (fun u => tupp [isv u, flp (sclN xs k)]) (fun u => som u flp (sclL xs k) 36) := by
 refine CtF.of Tryz.func87 rfl (by kernel_rfl) rfl fun c0 => ?_
 refine zF (zG [] (.n (zB (.k rfl))<|.n (zB (Lk.fk rfl (by decide +kernel)))<|.nil) ff rfl fun g1 => ⟨_, _, [], rfl, (.k 0 rfl<|.k 1 rfl<|.nil), (.nil), ?_⟩)
 refine zC<|zF (zG [] (.n (zB (.k rfl))<|.nil) ff rfl fun g2 => ⟨_, _, [], rfl, (.k 0 rfl<|.k 1 rfl<|.k 6 rfl<|.nil), (.nil), ?_⟩)
 refine zC<|zF<|zF (zG [] (.n (zB (.k rfl))<|.nil) ff rfl fun g3 => ⟨_, _, [], rfl, (.k 0 rfl<|.k 1 rfl<|.k 6 rfl<|.k 7 rfl<|.nil), (.nil), ?_⟩)
 refine zC<|zT<|yN (To.emps 1) ?_
 refine J_loopc (α := Nat × Value) (fun x => x.1 ≤ xs.length) (fun x => xs.length - x.1) (fun x restR => (7, isv (.int .i64 (x.1 : Int))) :: (6, isv x.2) :: restR) (fun x restS => som x.2 flp ((sclL xs k).take x.1) 36 :: restS) (ρc := [(0, _), (1, _)]) (σc := []) (0, .slice none 0 0) (by exact Nat.zero_le _) (To.pick (fun _ => .sub (t := 7) rfl (yO (by rfl))<|.sub (t := 6) rfl (yO (by rfl))<|.k 0 rfl<|.k 1 rfl<|.nil) (fun _ => .sub 0 rfl (som_nil)<|.nil) (ks := [0]) rfl) (fun x hI => ?_)
 obtain ⟨j, sv⟩ := x
 try simp only at hI
 show J _ _ ((7, isv (.int .i64 (j : Int))) :: (6, isv sv) :: _) (som sv flp ((sclL xs k).take j) 36 :: _) _ _
 have hjl : ((sclL xs k).take j).length ≤ 1000 := by rw [List.length_take, length_sclL]; omega
 refine zF<|zF (zG [] (.n (zA (.t rfl))<|.n (zA (.t rfl))<|.n (yV sl26 (.t rfl))<|.n (yB (by simp) (.t rfl) (.t rfl) rfl)<|.nil) ff rfl fun g4 => ⟨_, _, [0], rfl, (.k 0 rfl<|.k 1 rfl<|.k 6 rfl<|.k 7 rfl<|.k 11 rfl<|.nil), (.k 0 rfl<|.nil), ?_⟩)
 refine zC<|zH (zK (.t rfl)) (fun h1 => ?_) (fun h1 => ?_)
 ·try simp only [cmpB, Z] at h1
  refine yE<|zC<|zF<|zT<|(zG [] (.n (zA (.t rfl))<|.n (zA (.t rfl))<|.n (zA (.t rfl))<|.n (yS 0 sl26 (.t rfl) (.t rfl) (by omega) (by omega))<|.n (yC sc36 (.t rfl) rfl)<|.n (zA (.t rfl))<|.n (op_neg (.t rfl) (zO (by omega) (by omega)))<|.n (zP (rtimes_ok (by omega) (by omega)) ⟨(.t rfl), (.t rfl),  trivial⟩)<|.n (op_buildSlice sl26 zr36 rfl rfl rfl rfl (.cons rfl (.t rfl) co_flp rfl (yU rfl (Nat.le_of_ble_eq_true rfl)) .nil))<|.w 0 (op_append_m 0 sl26 zr36 rfl (.t rfl) (.t rfl) rfl (by simp; omega) (by simp; omega))<|.n (yX rfl rfl)<|.nil) ff rfl fun g5 => ⟨_, _, [0], rfl, (.k 0 rfl<|.k 1 rfl<|.k 6 rfl<|.k 7 rfl<|.nil), (.k 0 rfl<|.nil), ?_⟩)
  refine zR<|zC<|(zG [] (.n (zA (.t rfl))<|.n (yK (.t rfl) (.k rfl) (zO (by omega) (by omega)))<|.n (zB (.t rfl))<|.nil) ff rfl fun g6 => ⟨_, _, [0], rfl, (.k 0 rfl<|.k 1 rfl<|.k 6 rfl<|.k 7 rfl<|.nil), (.k 0 rfl<|.nil), ?_⟩)
  exact yW (j + 1, g5 23) (by exact (show j + 1 ≤ xs.length by omega)) (by show xs.length - (_ + 1) < _; omega) (To.pick (fun _ => .sub (t := 7) rfl (yO (by rfl))<|.sub (t := 6) rfl (yO (by rfl))<|.k 0 rfl<|.k 1 rfl<|.nil) (fun _ => .sub 0 rfl ((yQ (by rw [take_sclL (by omega)]; rfl)))<|.nil) (ks := [0]) rfl)
 ·try simp only [cmpB, Z] at h1
  refine J_exit ?_
  refine zE<|zE<|zS<|zC<|yN (To.res 0 (r' := som sv flp (sclL xs k) 36) rfl (yQ (by rw [List.take_of_length_le (by rw [length_sclL]; omega)])) rfl) ?_
  refine zF (zG [] (.n (zA (.t rfl))<|.n (zA (.t rfl))<|.n (zA (.t rfl))<|.r 0 (op_callL 0 (rdot_ok (Nat.le_refl _)) (pure_flp _) ⟨.inr ⟨_, (.t rfl), lent_som⟩, .inr ⟨_, (.t rfl), lent_som⟩,  trivial⟩ rfl)<|.n (zP (sqrt_ok) ⟨(.t rfl),  trivial⟩)<|.n (zB (.t rfl))<|.n (zB (.t rfl))<|.nil) ff rfl fun g7 => ⟨_, _, [0], rfl, (.k 4 rfl<|.k 5 rfl<|.nil), (.k 0 rfl<|.nil), ?_⟩)
  refine zC<|yF<|JN_retF2 (u := sv) 0 rfl rfl (.cons (.tmp (.t rfl))<|.cons (.tmp (.t rfl))<|.nil) (fun v1 v2 c h => h.1) ?_
  exact zL
end Go.Proofs.YtllkellonjhalaaGreat
