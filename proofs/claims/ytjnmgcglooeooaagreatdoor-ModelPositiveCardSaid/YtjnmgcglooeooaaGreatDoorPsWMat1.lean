/- Printed by a program of ours (walk.py): walks of the matrix package, its inner functions. -/
import Derived.Test.YtjnmgcglooeooaaGreatDoorPsKb
import Derived.Test.YtjnmgcglooeooaaGreatDoorProg
import Derived.KernelRfl
import Derived.Test.YtjnmgcglooeooaaGreatDoorPsTypes
import Derived.Test.YtjnmgcglooeooaaGreatDoorPsWRef1
import Derived.Test.YtjnmgcglooeooaaGreatDoorPsKc
set_option linter.unusedVariables false
set_option linter.unusedSimpArgs false
set_option maxRecDepth 20000
set_option maxHeartbeats 1000000
namespace Go.Proofs.YtjnmgcglooeooaaGreatDoor
open Go Go.Bn
attribute [local irreducible] OpOK
theorem size_ok {n : Int} : Ct Tryz.prog 34 [isv (.int .i64 n)] (isv (.bool (sizB n))) := by
 refine Ct.of Tryz.func34 rfl (by kernel_rfl) rfl fun c0 => ?_
 refine zF (zG [] (.n (zB (.k rfl))<|.nil) ff rfl fun g1 => ⟨_, _, [], rfl, (.k 0 rfl<|.nil), (.nil), ?_⟩)
 refine zC ?_
 refine zF (zG [] (.n (zA (.t rfl))<|.n (op_cmp (by simp) (.t rfl) (.k rfl) rfl)<|.n (zA (.t rfl))<|.n (op_guard rfl rfl (gd_b rfl) (fun hC => (zA (.t rfl))))<|.n (op_guard rfl rfl (gd_b rfl) (fun hC => (op_cmp (by simp) (.w rfl hC) (.k rfl) rfl)))<|.n (op_and (.t rfl) (fun h2 => (.w rfl h2)))<|.n (zB (.t rfl))<|.nil) ff rfl fun g2 => ⟨_, _, [], rfl, (.k 2 rfl<|.nil), (.nil), ?_⟩)
 refine zC ?_
 refine J_ret ?_
 refine zQ (.cons (.tmp (.t rfl))<|.nil) (zM (sb_res1 zL) ?_)
 exact ret_b (by unfold sizB cmpB; rfl)
theorem fillF_ok {r c : Int} {f : Int → Int → Nat} (hs : Siz r c) : CtF Tryz.prog 35 [isv (.int .i64 r), isv (.int .i64 c), fnp (P := Tryz.prog) (Pl r c) (fun i j => flp (f i j))] (agN 2) (fun u => aggp [isv (.int .i64 r), isv (.int .i64 c), isv u]) (fun u => som u flp (grid r c f) 39) := by
 refine CtF.of Tryz.func35 rfl (by kernel_rfl) rfl fun c0 => ?_
 have hm := hs.mul
 have hn := siz_nat hs
 have hs0 := hs
 obtain ⟨hs1, hs2, hs3, hs4⟩ := hs
 refine J_to (To.emps 1) ?_
 refine zF (zG [] (.w 0 (op_alloc 0 zr30 rfl rfl)<|.nil) ff rfl fun g1 => ⟨_, _, [0], rfl, (.k 0 rfl<|.k 1 rfl<|.k 2 rfl<|.k 6 rfl<|.nil), (.k 0 rfl<|.nil), ?_⟩)
 refine zC ?_
 refine J_to (To.emps 2) ?_
 refine zF (zG [] (.n (zA (.t rfl))<|.n (zA (.t rfl))<|.n (zA (.t rfl))<|.n (zA (.t rfl))<|.n (op_mul (.t rfl) (.t rfl) (zO (by omega) (by omega)))<|.w 1 (op_make_m (mk := flp) 0 1 sl28 zr39 rfl (fun _ => flp_zero) (.k rfl) (.t rfl) (by omega) (by omega) (by omega) (by omega) rfl)<|.n (op_ve 15 16 rfl rfl rfl (fun f => (op_build zr30 rfl pl30 (.cons rfl (.t rfl) co_isv rfl (puts_l rfl (Nat.le_of_ble_eq_true rfl)) (.cons rfl (.t rfl) co_isv rfl (puts_l rfl (Nat.le_of_ble_eq_true rfl)) (.cons rfl (.t rfl) co_isv rfl (puts_l rfl (Nat.le_of_ble_eq_true rfl)) .nil))))) (fun f g h => by rw [h 15 (show 15 ∈ [15] from by decide)]) rfl)<|.w 2 (op_alloc 2 zr30 rfl rfl)<|.w 2 (op_store_new_ve 2 rfl rfl rfl (fun f => co_agg) (fun f g h => by rw [h 15 (show 15 ∈ [15] from by decide)]) (fun _ => sz30) rfl (fun _ => rfl) rfl)<|.nil) ff rfl fun g2 => ⟨_, _, [0, 1, 2], rfl, (.k 0 rfl<|.k 1 rfl<|.k 2 rfl<|.k 6 rfl<|.k 7 rfl<|.nil), (.k 0 rfl<|.k 1 rfl<|.k 2 rfl<|.nil), ?_⟩)
 refine zC ?_
 refine zF ?_
 refine zF (zG [] (.n (zA (.t rfl))<|.n (zA (.k rfl))<|.nil) ff rfl fun g3 => ⟨_, _, [0, 1, 2], rfl, (.k 1 rfl<|.k 2 rfl<|.k 6 rfl<|.k 7 rfl<|.k 17 rfl<|.k 18 rfl<|.nil), (.k 0 rfl<|.k 1 rfl<|.k 2 rfl<|.nil), ?_⟩)
 refine zC ?_
 refine zT ?_
 refine J_loopc (α := Nat × Value) (fun x => x.1 ≤ r.toNat) (fun x => r.toNat - x.1) (fun x restR => (18, isv (.int .i64 (x.1 : Int))) :: restR) (fun x restS => som x.2 flp ((grid r c f).take (x.1 * c.toNat)) 39 :: blk (g2 7) [isv (.int .i64 r), isv (.int .i64 c), isv x.2] 30 :: restS) (ρc := [(1, _), (2, _), (6, _), (7, _), (17, _)]) (σc := [_]) (0, g2 15) (by exact Nat.zero_le _) (To.pick (fun _ => .sub (t := 18) rfl (sp_eq (by rfl))<|.k 1 rfl<|.k 2 rfl<|.k 6 rfl<|.k 7 rfl<|.k 17 rfl<|.nil) (fun _ => .sub 1 rfl ((res_eq (by rw [Nat.zero_mul, List.take_zero]; rfl)))<|.sub 2 rfl ((fun _ _ h => h))<|.k 0 rfl<|.nil) (ks := [1, 2, 0]) rfl) (fun x hI => ?_)
 obtain ⟨k, sv⟩ := x
 try simp only at hI
 show J _ _ ((18, isv (.int .i64 (k : Int))) :: _) (som sv flp ((grid r c f).take (k * c.toNat)) 39 :: blk (g2 7) [isv (.int .i64 r), isv (.int .i64 c), isv sv] 30 :: _) _ _
 refine zF (zG [] (.n (op_cmp (by simp) (.t rfl) (.t rfl) rfl)<|.nil) ff rfl fun g4 => ⟨_, _, [0, 1, 2], rfl, (.k 1 rfl<|.k 2 rfl<|.k 6 rfl<|.k 7 rfl<|.k 17 rfl<|.k 18 rfl<|.k 19 rfl<|.nil), (.k 0 rfl<|.k 1 rfl<|.k 2 rfl<|.nil), ?_⟩)
 refine zC ?_
 refine zF ?_
 refine zH (zK (.t rfl)) (fun h1 => ?_) (fun h1 => ?_)
 ·try simp only [cmpB, Z] at h1
  refine J_skip ?_
  refine zC ?_
  refine zF ?_
  refine zT ?_
  refine zF (zG [] (.n (zA (.t rfl))<|.n (zB (.t rfl))<|.nil) ff rfl fun g5 => ⟨_, _, [0, 1, 2], rfl, (.k 1 rfl<|.k 2 rfl<|.k 6 rfl<|.k 7 rfl<|.k 8 rfl<|.k 17 rfl<|.k 18 rfl<|.nil), (.k 0 rfl<|.k 1 rfl<|.k 2 rfl<|.nil), ?_⟩)
  refine zC ?_
  refine zF (zG [] (.n (zA (.t rfl))<|.n (zA (.k rfl))<|.nil) ff rfl fun g6 => ⟨_, _, [0, 1, 2], rfl, (.k 1 rfl<|.k 2 rfl<|.k 6 rfl<|.k 7 rfl<|.k 8 rfl<|.k 17 rfl<|.k 18 rfl<|.k 21 rfl<|.k 22 rfl<|.nil), (.k 0 rfl<|.k 1 rfl<|.k 2 rfl<|.nil), ?_⟩)
  refine zC ?_
  refine zT ?_
  refine J_loopc (α := Nat × Value) (fun y => y.1 ≤ c.toNat) (fun y => c.toNat - y.1) (fun y restR => (22, isv (.int .i64 (y.1 : Int))) :: restR) (fun y restS => som y.2 flp ((grid r c f).take (k * c.toNat + y.1)) 39 :: blk (g2 7) [isv (.int .i64 r), isv (.int .i64 c), isv y.2] 30 :: restS) (ρc := [(1, _), (2, _), (6, _), (7, _), (8, _), (17, _), (18, _), (21, _)]) (σc := [_]) (0, sv) (by exact Nat.zero_le _) (To.pick (fun _ => .sub (t := 22) rfl (sp_eq (by rfl))<|.k 1 rfl<|.k 2 rfl<|.k 6 rfl<|.k 7 rfl<|.k 8 rfl<|.k 17 rfl<|.k 18 rfl<|.k 21 rfl<|.nil) (fun _ => .sub 0 rfl ((fun _ _ h => h))<|.sub 1 rfl ((fun _ _ h => h))<|.k 2 rfl<|.nil) (ks := [0, 1, 2]) rfl) (fun y hI => ?_)
  obtain ⟨m, tv⟩ := y
  try simp only at hI
  show J _ _ ((22, isv (.int .i64 (m : Int))) :: _) (som tv flp ((grid r c f).take (k * c.toNat + m)) 39 :: blk (g2 7) [isv (.int .i64 r), isv (.int .i64 c), isv tv] 30 :: _) _ _
  refine zF (zG [] (.n (op_cmp (by simp) (.t rfl) (.t rfl) rfl)<|.nil) ff rfl fun g7 => ⟨_, _, [0, 1, 2], rfl, (.k 1 rfl<|.k 2 rfl<|.k 6 rfl<|.k 7 rfl<|.k 8 rfl<|.k 17 rfl<|.k 18 rfl<|.k 21 rfl<|.k 22 rfl<|.k 23 rfl<|.nil), (.k 0 rfl<|.k 1 rfl<|.k 2 rfl<|.nil), ?_⟩)
  refine zC ?_
  refine zF ?_
  refine zH (zK (.t rfl)) (fun h2 => ?_) (fun h2 => ?_)
  ·try simp only [cmpB, Z] at h2
   refine J_skip ?_
   refine zC ?_
   refine zF ?_
   refine zT ?_
   refine zF (zG [] (.n (zA (.t rfl))<|.n (zB (.t rfl))<|.nil) ff rfl fun g8 => ⟨_, _, [0, 1, 2], rfl, (.k 1 rfl<|.k 2 rfl<|.k 6 rfl<|.k 7 rfl<|.k 8 rfl<|.k 9 rfl<|.k 17 rfl<|.k 18 rfl<|.k 21 rfl<|.k 22 rfl<|.nil), (.k 0 rfl<|.k 1 rfl<|.k 2 rfl<|.nil), ?_⟩)
   refine zC ?_
   refine (zG [[], [0], [], [], [], [2, 3, 4], [2, 3, 4, 5], [0, 1, 2, 3, 4, 5, 6], [0, 1, 2, 3, 4, 5, 6, 7], [0, 1, 2, 3, 4, 5, 6, 7, 8]] (.n (zI fd30_2 (.t rfl) rfl)<|.r 1 (zN 1 sc28 (.t rfl) rfl zJ rfl)<|.n (zA (.t rfl))<|.n (zA (.t rfl))<|.n (zA (.t rfl))<|.n (op_callv (P := Tryz.prog) (.t rfl) (.t rfl) (.t rfl) ⟨by omega, by omega, by omega, by omega⟩)<|.n (op_buildSlice sl28 zr39 rfl rfl rfl rfl (.cons rfl (.t rfl) co_flp rfl (puts_l rfl (Nat.le_of_ble_eq_true rfl)) .nil))<|.w 0 (op_append_m 0 sl28 zr39 rfl (.t rfl) (.t rfl) rfl (by have := @take_grid_le r c f (k * c.toNat + m) hs0; show (List.take (k * c.toNat + m) _).length + 1 ≤ _; omega) (by have := @take_grid_le r c f (k * c.toNat + m) hs0; show ((List.take (k * c.toNat + m) _).length + 1) * _ ≤ _; omega))<|.n (zI fd30_2 (.t rfl) rfl)<|.w 1 (op_store_sl 1 (.t rfl) rfl sz28 rfl rfl)<|.nil) (fun _ => mixed) rfl fun g9 => ⟨_, _, [0, 1, 2], rfl, (.k 1 rfl<|.k 2 rfl<|.k 6 rfl<|.k 7 rfl<|.k 8 rfl<|.k 17 rfl<|.k 18 rfl<|.k 21 rfl<|.k 22 rfl<|.nil), (.k 0 rfl<|.k 1 rfl<|.k 2 rfl<|.nil), ?_⟩)
   refine zR ?_
   refine zC ?_
   refine (zG [] (.n (op_add (.t rfl) (.k rfl) (zO (by omega) (by omega)))<|.n (zA (.t rfl))<|.nil) ff rfl fun g10 => ⟨_, _, [0, 1, 2], rfl, (.k 1 rfl<|.k 2 rfl<|.k 6 rfl<|.k 7 rfl<|.k 8 rfl<|.k 17 rfl<|.k 18 rfl<|.k 21 rfl<|.k 22 rfl<|.nil), (.k 0 rfl<|.k 1 rfl<|.k 2 rfl<|.nil), ?_⟩)
   exact JN_again (m + 1, g9 32) (by exact (show m + 1 ≤ c.toNat by omega)) (by show c.toNat - (_ + 1) < _; omega) (To.pick (fun _ => .sub (t := 22) rfl (sp_eq (by rfl))<|.k 1 rfl<|.k 2 rfl<|.k 6 rfl<|.k 7 rfl<|.k 8 rfl<|.k 17 rfl<|.k 18 rfl<|.k 21 rfl<|.nil) (fun _ => .sub 0 rfl ((res_eq (by rw [show (grid r c f).take (k * c.toNat + (m + 1)) = _ from take_grid (by omega) (by omega)])))<|.sub 1 rfl ((fun _ _ h => h))<|.k 2 rfl<|.nil) (ks := [0, 1, 2]) rfl)
  ·try simp only [cmpB, Z] at h2
   refine J_exit ?_
   refine zE ?_
   refine zE ?_
   refine zS ?_
   refine zR ?_
   refine zC ?_
   refine (zG [] (.n (op_add (.t rfl) (.k rfl) (zO (by omega) (by omega)))<|.n (zA (.t rfl))<|.nil) ff rfl fun g11 => ⟨_, _, [0, 1, 2], rfl, (.k 1 rfl<|.k 2 rfl<|.k 6 rfl<|.k 7 rfl<|.k 17 rfl<|.k 18 rfl<|.nil), (.k 0 rfl<|.k 1 rfl<|.k 2 rfl<|.nil), ?_⟩)
   exact JN_again (k + 1, tv) (by exact (show k + 1 ≤ r.toNat by omega)) (by show r.toNat - (_ + 1) < _; omega) (To.pick (fun _ => .sub (t := 18) rfl (sp_eq (by rfl))<|.k 1 rfl<|.k 2 rfl<|.k 6 rfl<|.k 7 rfl<|.k 17 rfl<|.nil) (fun _ => .sub 0 rfl ((res_eq (by rw [show (k + 1) * c.toNat = k * c.toNat + m by rw [Nat.add_mul, Nat.one_mul]; omega])))<|.sub 1 rfl ((fun _ _ h => h))<|.k 2 rfl<|.nil) (ks := [0, 1, 2]) rfl)
 ·try simp only [cmpB, Z] at h1
  refine J_exit ?_
  refine zE ?_
  refine zE ?_
  refine zS ?_
  refine zC ?_
  refine zF (zG [] (.r 1 (op_get_ag 1 ag30 (.t rfl) rfl zJ rfl rfl)<|.w 2 (op_store_b 2 (.t rfl) (.t rfl) co_agg sz30 rfl rfl rfl)<|.nil) ff rfl fun g12 => ⟨_, _, [0, 2], rfl, (.k 6 rfl<|.nil), (.k 0 rfl<|.k 2 rfl<|.nil), ?_⟩)
  refine zC ?_
  refine J_ret ?_
  refine JN_to (To.res 0 (r' := som sv flp (grid r c f) 39) rfl (res_eq (by rw [show k = r.toNat by omega, take_grid_all])) rfl) ?_
  refine JN_retF (u := sv) 0 rfl rfl (.ag 1 (.t rfl) ag30 rfl rfl rfl) (agN_of rfl) ?_
  exact zL
end Go.Proofs.YtjnmgcglooeooaaGreatDoor
