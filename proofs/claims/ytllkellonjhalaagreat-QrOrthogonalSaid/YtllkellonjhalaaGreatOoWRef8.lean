/- Printed by a program of ours (walk.py): walks of the eighth reference. -/
import Derived.Test.YtllkellonjhalaaGreatOoKb
import Derived.Test.YtllkellonjhalaaGreatProg
import Derived.KernelRfl
import Derived.Test.YtllkellonjhalaaGreatOoTypes
import Derived.Test.YtllkellonjhalaaGreatOoWLaw1
import Derived.Test.YtllkellonjhalaaGreatOoKc
set_option linter.unusedVariables false
set_option linter.unusedSimpArgs false
set_option maxRecDepth 20000
set_option maxHeartbeats 1000000
namespace Go.Proofs.YtllkellonjhalaaGreat
open Go Go.Bn
attribute [local irreducible] OpOK
theorem rchk_ok {r c : Int} {xs : List Nat} : Ct Tryz.prog 59 [MatP r c xs] (isv (.int .i64 (chk r c xs))) := by
 refine Ct.of Tryz.func59 rfl (by kernel_rfl) rfl fun c0 => ?_
 refine yN (To.emps 1) ?_
 refine zF (zG [] (.w 0 (op_box 0 (.t rfl) yL rfl)<|.n (zB (.k rfl))<|.nil) ff rfl fun g1 => ⟨_, _, [0], rfl, (.k 1 rfl<|.nil), (.k 0 rfl<|.nil), ?_⟩)
 refine zC<|zF<|zF (zG [] (.n (zI fd28_0 (.t rfl) rfl)<|.r 0 (zN 0 sc3 (.t rfl) rfl zJ rfl)<|.n (yB (by simp) (.t rfl) (.k rfl) rfl)<|.n (zA (.t rfl))<|.n (yA rfl rfl (gd_b rfl) (fun hC => (zI fd28_0 (.t rfl) rfl)))<|.r 0 (yA rfl rfl (gd_b rfl) (fun hC => (zN 0 sc3 (.w rfl hC) rfl zJ rfl)))<|.n (yA rfl rfl (gd_b rfl) (fun hC => (yB (by simp) (.w rfl hC) (.k rfl) rfl)))<|.n (op_or (.t rfl) (fun h2 => (.w rfl h2)))<|.n (zA (.t rfl))<|.n (yA rfl rfl (gd_b rfl) (fun hC => (zI fd28_1 (.t rfl) rfl)))<|.r 0 (yA rfl rfl (gd_b rfl) (fun hC => (zN 0 sc3 (.w rfl hC) rfl zJ rfl)))<|.n (yA rfl rfl (gd_b rfl) (fun hC => (yB (by simp) (.w rfl hC) (.k rfl) rfl)))<|.n (op_or (.t rfl) (fun h2 => (.w rfl h2)))<|.n (zA (.t rfl))<|.n (yA rfl rfl (gd_b rfl) (fun hC => (zI fd28_1 (.t rfl) rfl)))<|.r 0 (yA rfl rfl (gd_b rfl) (fun hC => (zN 0 sc3 (.w rfl hC) rfl zJ rfl)))<|.n (yA rfl rfl (gd_b rfl) (fun hC => (yB (by simp) (.w rfl hC) (.k rfl) rfl)))<|.n (op_or (.t rfl) (fun h2 => (.w rfl h2)))<|.nil) ff rfl fun g2 => ⟨_, _, [0], rfl, (.k 1 rfl<|.k 20 rfl<|.nil), (.k 0 rfl<|.nil), ?_⟩)
 refine zC<|zH (zK (.t rfl)) (fun h1 => ?_) (fun h1 => ?_)
 ·try simp only [cmpB, Z] at h1
  refine zF (zG [] (.n (zB (.k rfl))<|.nil) ff rfl fun g3 => ⟨_, _, [], rfl, (.k 2 rfl<|.nil), (.nil), ?_⟩)
  refine zC<|yF<|zD<|zQ (.cons (.tmp (.t rfl))<|.nil) (zM (yD zL) ?_)
  exact ret_i (by unfold chk; rw [if_pos]; have h3 := @sizB_iff r; have h4 := @sizB_iff c; cases e1 : sizB r <;> cases e2 : sizB c <;> simp only [e1, e2] at h3 h4 ⊢ <;> simp at h3 h4 ⊢ <;> omega)
 ·try simp only [cmpB, Z] at h1
  have hz : Siz r c := by unfold Siz; omega
  have hm := hz.mul
  have hsr : sizB r = true := sizB_iff.2 ⟨hz.1, hz.2.1⟩
  have hsc : sizB c = true := sizB_iff.2 ⟨hz.2.2.1, hz.2.2.2⟩
  refine yE<|zC<|zF<|zF (zG [] (.n (zI fd28_2 (.t rfl) rfl)<|.r 0 (zN 0 sc26 (.t rfl) rfl zJ rfl)<|.n (yV sl26 (.t rfl))<|.n (zI fd28_0 (.t rfl) rfl)<|.r 0 (zN 0 sc3 (.t rfl) rfl zJ rfl)<|.n (zI fd28_1 (.t rfl) rfl)<|.r 0 (zN 0 sc3 (.t rfl) rfl zJ rfl)<|.n (op_mul (.t rfl) (.t rfl) (zO (by omega) (by omega)))<|.n (yB (by simp) (.t rfl) (.t rfl) rfl)<|.nil) ff rfl fun g4 => ⟨_, _, [0], rfl, (.k 1 rfl<|.k 29 rfl<|.nil), (.k 0 rfl<|.nil), ?_⟩)
  refine zC<|zH (zK (.t rfl)) (fun h2 => ?_) (fun h2 => ?_)
  ·try simp only [cmpB, Z] at h2
   refine zF (zG [] (.n (zB (.k rfl))<|.nil) ff rfl fun g5 => ⟨_, _, [], rfl, (.k 2 rfl<|.nil), (.nil), ?_⟩)
   refine zC<|yF<|zD<|zQ (.cons (.tmp (.t rfl))<|.nil) (zM (yD zL) ?_)
   exact ret_i (by unfold chk; rw [if_neg (by simp [hsr, hsc]), if_pos h2])
  ·try simp only [cmpB, Z] at h2
   refine yE<|zC<|zF<|zF (zG [] (.n (zI fd28_2 (.t rfl) rfl)<|.r 0 (zN 0 sc26 (.t rfl) rfl zJ rfl)<|.n (zP (rall_ok) ⟨(.t rfl),  trivial⟩)<|.n (op_not (.t rfl))<|.nil) ff rfl fun g6 => ⟨_, _, [], rfl, (.k 33 rfl<|.nil), (.nil), ?_⟩)
   refine zC<|zH (zK (.t rfl)) (fun h3 => ?_) (fun h3 => ?_)
   ·try simp only [cmpB, Z] at h3
    refine zF (zG [] (.n (zB (.k rfl))<|.nil) ff rfl fun g7 => ⟨_, _, [], rfl, (.k 2 rfl<|.nil), (.nil), ?_⟩)
    refine zC<|yF<|zD<|zQ (.cons (.tmp (.t rfl))<|.nil) (zM (yD zL) ?_)
    exact ret_i (by unfold chk; rw [if_neg (by simp [hsr, hsc]), if_neg (by simpa using h2), if_pos h3])
   ·try simp only [cmpB, Z] at h3
    refine yE<|zC<|zF (zG [] (.n (zB (.k rfl))<|.nil) ff rfl fun g8 => ⟨_, _, [], rfl, (.k 2 rfl<|.nil), (.nil), ?_⟩)
    refine zC<|yF<|zQ (.cons (.tmp (.t rfl))<|.nil) (zM (yD zL) ?_)
    exact ret_i (by unfold chk; rw [if_neg (by simp [hsr, hsc]), if_neg (by simpa using h2), if_neg (by simp [h3])])
theorem rat_ok {r c i j : Int} {xs : List Nat} (hg : Good r c xs) (hp : Pl r c i j) : Ct Tryz.prog 73 [MatP r c xs, isv (.int .i64 i), isv (.int .i64 j)] (flp (mat c xs i j)) := by
 refine Ct.of Tryz.func73 rfl (by kernel_rfl) rfl fun c0 => ?_
 have hq := hp.rng hg.1
 have hl := hg.2
 obtain ⟨hs1, hs2, hs3, hs4⟩ := hg.1
 obtain ⟨hp1, hp2, hp3, hp4⟩ := hp
 refine yN (To.emps 1) ?_
 refine zF (zG [] (.w 0 (op_box 0 (.t rfl) yL rfl)<|.n (zB (Lk.fk rfl (by decide +kernel)))<|.nil) ff rfl fun g1 => ⟨_, _, [0], rfl, (.k 1 rfl<|.k 2 rfl<|.k 3 rfl<|.nil), (.k 0 rfl<|.nil), ?_⟩)
 refine zC<|zF (zG [] (.n (zI fd28_2 (.t rfl) rfl)<|.r 0 (zN 0 sc26 (.t rfl) rfl zJ rfl)<|.n (zA (.t rfl))<|.n (zI fd28_1 (.t rfl) rfl)<|.r 0 (zN 0 sc3 (.t rfl) rfl zJ rfl)<|.n (op_mul (.t rfl) (.t rfl) (zO (by omega) (by omega)))<|.n (zA (.t rfl))<|.n (yK (.t rfl) (.t rfl) (zO (by omega) (by omega)))<|.n (yS 0 sl26 (.t rfl) (.t rfl) (by omega) (by omega))<|.n (yC sc36 (.t rfl) rfl)<|.n (zB (.t rfl))<|.nil) ff rfl fun g2 => ⟨_, _, [], rfl, (.k 6 rfl<|.nil), (.nil), ?_⟩)
 refine zC<|yF<|zQ (.cons (.tmp (.t rfl))<|.nil) (zM (yD zL) ?_)
 exact zL
theorem rawF_ok {r c : Int} (hs : Siz r c) : CtF Tryz.prog 46 [isv (.int .i64 r), isv (.int .i64 c)] (agN 2) (fun u => aggp [isv (.int .i64 r), isv (.int .i64 c), isv u]) (fun u => som u flp (grid r c fun _ _ => 0) 36) := by
 refine CtF.of Tryz.func46 rfl (by kernel_rfl) rfl fun c0 => ?_
 have hm := hs.mul
 have hn := siz_nat hs
 have hs0 := hs
 obtain ⟨hs1, hs2, hs3, hs4⟩ := hs
 refine yN (To.emps 1) ?_
 refine zF (zG [] (.w 0 (yT 0 zr28 rfl rfl)<|.nil) ff rfl fun g1 => ⟨_, _, [0], rfl, (.k 0 rfl<|.k 1 rfl<|.k 4 rfl<|.nil), (.k 0 rfl<|.nil), ?_⟩)
 refine zC<|yN (To.emps 1) ?_
 refine zF (zG [] (.n (zA (.t rfl))<|.n (zA (.t rfl))<|.n (zA (.t rfl))<|.n (zA (.t rfl))<|.n (op_mul (.t rfl) (.t rfl) (zO (by omega) (by omega)))<|.w 1 (op_make_m (mk := flp) 0 1 sl26 zr36 rfl (fun _ => flp_zero) (.t rfl) (.t rfl) (by omega) (by omega) (by omega) (by omega) rfl)<|.n (op_ve 10 11 rfl rfl rfl (fun f => (op_build zr28 rfl pl28 (.cons rfl (.t rfl) co_isv rfl (yU rfl (Nat.le_of_ble_eq_true rfl)) (.cons rfl (.t rfl) co_isv rfl (yU rfl (Nat.le_of_ble_eq_true rfl)) (.cons rfl (.t rfl) co_isv rfl (yU rfl (Nat.le_of_ble_eq_true rfl)) .nil))))) (fun f g h => by rw [h 10 (show 10 ∈ [10] from by decide)]) rfl)<|.w 0 (op_ver 11 rfl rfl (fun f => yM 0 (.t rfl) (.t rfl) yL sz28 rfl rfl rfl) (fun f g h => by rw [h 10 (show 10 ∈ [10] from by decide)]) rfl)<|.nil) ff rfl fun g2 => ⟨_, _, [0, 1], rfl, (.k 4 rfl<|.nil), (.k 0 rfl<|.k 1 rfl<|.nil), ?_⟩)
 refine zC<|yF<|JN_to (To.res 1 (r' := som (g2 10) flp (grid r c fun _ _ => 0) 36) rfl (yQ (by rw [grid_zero, show r.toNat * c.toNat = (r * c).toNat by omega])) rfl) ?_
 refine JN_retF (u := (g2 10)) 1 rfl rfl (.ag 0 (.t rfl) ag28 rfl rfl rfl) (agN_of rfl) ?_
 exact zL
theorem put_ok {r c i j : Int} {u : Value} {xs : List Nat} {x : Nat} (hs : Siz r c) (hl : (xs.length : Int) = r * c) (hp : Pl r c i j) : CtM Tryz.prog 47 [aggp [isv (.int .i64 r), isv (.int .i64 c), isv u], isv (.int .i64 i), isv (.int .i64 j), flp x] (som u flp xs 36) (anyp) (som u flp (xs.set (i * c + j).toNat x) 36) := by
 refine CtM.of Tryz.func47 rfl (by kernel_rfl) rfl (fix_som (by rw [List.length_set])) fun c0 ob hr0 => ?_
 have hq := hp.rng hs
 obtain ⟨hs1, hs2, hs3, hs4⟩ := hs
 obtain ⟨hp1, hp2, hp3, hp4⟩ := hp
 refine yN (To.emps 1) ?_
 refine zF (zG [] (.w 1 (op_box 1 (.t rfl) yL rfl)<|.nil) ff rfl fun g1 => ⟨_, _, [0, 1], rfl, (.k 1 rfl<|.k 2 rfl<|.k 3 rfl<|.k 4 rfl<|.nil), (.k 0 rfl<|.k 1 rfl<|.nil), ?_⟩)
 refine zC<|(zG [] (.n (zI fd28_2 (.t rfl) rfl)<|.r 1 (zN 1 sc26 (.t rfl) rfl zJ rfl)<|.n (zA (.t rfl))<|.n (zI fd28_1 (.t rfl) rfl)<|.r 1 (zN 1 sc3 (.t rfl) rfl zJ rfl)<|.n (op_mul (.t rfl) (.t rfl) (zO (by omega) (by omega)))<|.n (zA (.t rfl))<|.n (yK (.t rfl) (.t rfl) (zO (by omega) (by omega)))<|.n (zA (.t rfl))<|.r 0 (yH 0 sl26 (.t rfl) (.t rfl) rfl (by omega) (by omega))<|.w 0 (op_store_som 0 (.t rfl) (.t rfl) co_flp sz36 rfl (by omega))<|.nil) ff rfl fun g2 => ⟨_, _, [0], rfl, (.nil), (.k 0 rfl<|.nil), ?_⟩)
 refine JN_end ?_
 refine JN_retM 0 hr0 (fix_som (by rw [List.length_set])) rfl (.nil) (zM zL ?_)
 exact sb_any
theorem rdot_ok {xs ys : List Nat} (hl : xs.length ≤ ys.length) : Ct Tryz.prog 74 [fls xs, fls ys] (flp (dotL xs ys)) := by
 refine Ct.of Tryz.func74 rfl (by kernel_rfl) rfl fun c0 => ?_
 refine J_len 0 rfl fun hlen => ?_
 refine zF (zG [] (.n (zB (Lk.fk rfl (by decide +kernel)))<|.nil) ff rfl fun g1 => ⟨_, _, [], rfl, (.k 0 rfl<|.k 1 rfl<|.nil), (.nil), ?_⟩)
 refine zC<|zF (zG [] (.n (zB (Lk.fk rfl (by decide +kernel)))<|.nil) ff rfl fun g2 => ⟨_, _, [], rfl, (.k 0 rfl<|.k 1 rfl<|.k 5 rfl<|.nil), (.nil), ?_⟩)
 refine zC<|zF<|zF (zG [] (.n (zB (.k rfl))<|.nil) ff rfl fun g3 => ⟨_, _, [], rfl, (.k 0 rfl<|.k 1 rfl<|.k 5 rfl<|.k 6 rfl<|.nil), (.nil), ?_⟩)
 refine zC<|zT<|J_loopc (α := Nat) (fun k => k ≤ xs.length) (fun k => xs.length - k) (fun k restR => (5, flp (dotTo xs ys k)) :: (6, isv (.int .i64 (k : Int))) :: restR) (fun k restS => restS) (ρc := [(0, _), (1, _)]) (σc := []) 0 (by exact Nat.zero_le _) (To.pick (fun _ => .sub (t := 5) rfl (yO (by rfl))<|.sub (t := 6) rfl (yO (by rfl))<|.k 0 rfl<|.k 1 rfl<|.nil) (fun _ => .nil) (ks := []) rfl) (fun k hI => ?_)
 refine zF<|zF (zG [] (.n (zA (.t rfl))<|.n (zA (.t rfl))<|.n (yV sl26 (.t rfl))<|.n (yB (by simp) (.t rfl) (.t rfl) rfl)<|.nil) ff rfl fun g4 => ⟨_, _, [], rfl, (.k 0 rfl<|.k 1 rfl<|.k 5 rfl<|.k 6 rfl<|.k 10 rfl<|.nil), (.nil), ?_⟩)
 refine zC<|zH (zK (.t rfl)) (fun h1 => ?_) (fun h1 => ?_)
 ·try simp only [cmpB, Z] at h1
  refine yE<|zC<|zF<|zT<|(zG [[], [], [], [1, 2], [1, 2, 3], [], [], [5, 6], [5, 6, 7], [1, 2, 3, 4, 5, 6, 7, 8], [0, 1, 2, 3, 4, 5, 6, 7, 8, 9], [0, 1, 2, 3, 4, 5, 6, 7, 8, 9, 10]] (.n (zA (.t rfl))<|.n (zA (.t rfl))<|.n (zA (.t rfl))<|.n (yS 0 sl26 (.t rfl) (.t rfl) (by omega) (by omega))<|.n (yC sc36 (.t rfl) rfl)<|.n (zA (.t rfl))<|.n (zA (.t rfl))<|.n (yS 0 sl26 (.t rfl) (.t rfl) (by omega) (by omega))<|.n (yC sc36 (.t rfl) rfl)<|.n (op_float (by simp) (.t rfl) (.t rfl) rfl)<|.n (op_float (by simp) (.t rfl) (.t rfl) rfl)<|.n (zB (.t rfl))<|.nil) (fun _ => mixed) rfl fun g5 => ⟨_, _, [], rfl, (.k 0 rfl<|.k 1 rfl<|.k 5 rfl<|.k 6 rfl<|.nil), (.nil), ?_⟩)
  refine zR<|zC<|(zG [] (.n (zA (.t rfl))<|.n (yK (.t rfl) (.k rfl) (zO (by omega) (by omega)))<|.n (zB (.t rfl))<|.nil) ff rfl fun g6 => ⟨_, _, [], rfl, (.k 0 rfl<|.k 1 rfl<|.k 5 rfl<|.k 6 rfl<|.nil), (.nil), ?_⟩)
  exact yW (k + 1) (by omega) (by omega) (To.pick (fun _ => .sub (t := 5) rfl (yO (by rfl))<|.sub (t := 6) rfl (yO (by rfl))<|.k 0 rfl<|.k 1 rfl<|.nil) (fun _ => .nil) (ks := []) rfl)
 ·try simp only [cmpB, Z] at h1
  refine J_exit ?_
  refine zE<|zE<|zS<|zC<|zF (zG [] (.n (zA (.t rfl))<|.n (zB (.t rfl))<|.nil) ff rfl fun g7 => ⟨_, _, [], rfl, (.k 4 rfl<|.nil), (.nil), ?_⟩)
  refine zC<|yF<|zQ (.cons (.tmp (.t rfl))<|.nil) (zM (yD zL) ?_)
  exact ret_f (by rw [show k = xs.length by omega]; rfl)
end Go.Proofs.YtllkellonjhalaaGreat
