/- Printed by a program of ours (walk.py): walks of matrices of fractions. -/
import Derived.Test.YtjnmgcglooeooaaGreatDoorPsKb
import Derived.Test.YtjnmgcglooeooaaGreatDoorProg
import Derived.KernelRfl
import Derived.Test.YtjnmgcglooeooaaGreatDoorPsTypes
import Derived.Test.YtjnmgcglooeooaaGreatDoorPsWRat
import Derived.Test.YtjnmgcglooeooaaGreatDoorPsWExact
import Derived.Test.YtjnmgcglooeooaaGreatDoorPsQle
import Derived.Test.YtjnmgcglooeooaaGreatDoorPsRtr
set_option linter.unusedVariables false
set_option linter.unusedSimpArgs false
set_option maxRecDepth 20000
set_option maxHeartbeats 4000000
namespace Go.Proofs.YtjnmgcglooeooaaGreatDoor
open Go Go.Bn
attribute [local irreducible] OpOK
theorem ratx_ok {x : Exa} (hx : Exf x) : Ct Tryz.prog 56 [exaP x] (ratP (exaQ x)) := by
 refine Ct.of Tryz.func56 rfl (by kernel_rfl) rfl fun c0 => ?_
 have hx0 := hx.e0
 have hx1 := hx.e1
 have hxb := hx.b
 refine J_to (To.emps 1) ?_
 refine zF (zG [] (.w 0 (op_box 0 (.t rfl) co_agg rfl)<|.n (zB (.k rfl))<|.nil) ff rfl fun g1 => ⟨_, _, [0], rfl, (.k 1 rfl<|.nil), (.k 0 rfl<|.nil), ?_⟩)
 refine zC ?_
 refine zF ?_
 refine zF (zG [] (.n (zI fd100_1 (.t rfl) rfl)<|.r 0 (zN 0 sc3 (.t rfl) rfl zJ rfl)<|.n (op_cmp (by simp) (.t rfl) (.k rfl) rfl)<|.nil) ff rfl fun g2 => ⟨_, _, [0], rfl, (.k 1 rfl<|.k 5 rfl<|.nil), (.k 0 rfl<|.nil), ?_⟩)
 refine zC ?_
 refine zH (zK (.t rfl)) (fun h1 => ?_) (fun h1 => ?_)
 ·try simp only [cmpB, Z] at h1
  refine J_to (To.emps 1) ?_
  refine zF (zG [] (.w 1 (op_alloc 1 zr90 rfl rfl)<|.r 0 (op_get_ag 0 ag100 (.t rfl) rfl zJ rfl rfl)<|.n (zP (xlow_ok hxb (by omega) (by omega)) ⟨(.t rfl), (.k rfl),  trivial⟩)<|.n (op_fieldv_sc fd100_0 ft100_0 sc98 (.t rfl) rfl)<|.w 1 (op_callMp 1 rfl rfl (fun u => rint_ok (sml_40 (exf_low hx h1))) rfl ⟨(.t rfl),  trivial⟩)<|.n (op_assign_ve rfl rfl)<|.nil) ff rfl fun g3 => ⟨_, _, [1], rfl, (.k 2 rfl<|.nil), (.k 1 rfl<|.nil), ?_⟩)
  refine zC ?_
  refine J_ret ?_
  refine zD ?_
  refine JN_to (To.freeze 0 (fun _ h => h) rfl frz_blk rfl) ?_
  refine zQ (.cons (.tmp (.t rfl))<|.nil) (zM (sb_res1 (sb_ok 0 4 rfl rfl)) ?_)
  exact sb_eq (congrArg ratP (exaQ_1 h1))
 ·try simp only [cmpB, Z] at h1
  refine J_skip ?_
  refine zC ?_
  refine J_to (To.emps 2) ?_
  refine zF (zG [[], [], [1], [], [], [], [5], [5, 6], [5, 6, 7], [3, 4, 5, 6, 7, 8], [0, 1, 2, 3, 4, 5, 6, 7, 8, 9], [0, 1, 2, 3, 4, 5, 6, 7, 8, 9, 10]] (.w 1 (op_alloc 1 zr90 rfl rfl)<|.n (zI fd100_0 (.t rfl) rfl)<|.r 0 (zN 0 sc98 (.t rfl) rfl zJ rfl)<|.w 2 (op_alloc 2 zr88 rfl rfl)<|.n (zP (newint_ok (n := 1) (by omega)) ⟨(.k rfl),  trivial⟩)<|.n (zI fd100_1 (.t rfl) rfl)<|.r 0 (zN 0 sc3 (.t rfl) rfl zJ rfl)<|.n (op_neg (.t rfl) (zO (by omega) (by omega)))<|.n (op_conv_int it3 it76 (.t rfl) (show IntKind.u64.wrap (-x.e) = (((-x.e).toNat : Nat) : Int) by rw [wr64 (by omega) (by omega)]; omega))<|.w 2 (op_callPF 2 rfl rfl (fun u => ilsh_ok sml_1 (by omega)) rfl ⟨(.t rfl), (.t rfl), trivial⟩)<|.w 1 (op_callMp 1 rfl rfl (fun u => rfrac_ok hxb.h (sml_pow (by omega)) (by have := (one_pow_abs (-x.e).toNat).2; omega)) rfl ⟨(.t rfl), (.t rfl),  trivial⟩)<|.n (op_assign_ve rfl rfl)<|.nil) (fun _ => mixed) rfl fun g4 => ⟨_, _, [1], rfl, (.k 2 rfl<|.nil), (.k 1 rfl<|.nil), ?_⟩)
  refine zC ?_
  refine J_ret ?_
  refine JN_to (To.freeze 0 (fun _ h => h) rfl frz_blk rfl) ?_
  refine zQ (.cons (.tmp (.t rfl))<|.nil) (zM (sb_res1 (sb_ok 0 4 rfl rfl)) ?_)
  exact sb_eq (congrArg ratP (exaQ_0 (by have := h1; omega)))
theorem ratf_ok {x : Nat} (hf : finB x = true) : Ct Tryz.prog 45 [flp x] (ratP (fltQ x)) := by
 refine Ct.of Tryz.func45 rfl (by kernel_rfl) rfl fun c0 => ?_
 refine J_fl 0 rfl fun hx1 hx2 => ?_
 refine zF (zG [] (.n (zB (.k rfl))<|.nil) ff rfl fun g1 => ⟨_, _, [], rfl, (.k 0 rfl<|.nil), (.nil), ?_⟩)
 refine zC ?_
 refine zF (zG [] (.n (zA (.t rfl))<|.n (zP (xof_ok hf) ⟨(.t rfl),  trivial⟩)<|.n (zP (ratx_ok (ofX_exf hf hx1)) ⟨(.t rfl),  trivial⟩)<|.n (zB (.t rfl))<|.nil) ff rfl fun g2 => ⟨_, _, [], rfl, (.k 2 rfl<|.nil), (.nil), ?_⟩)
 refine zC ?_
 refine J_ret ?_
 refine zQ (.cons (.tmp (.t rfl))<|.nil) (zM (sb_res1 zL) ?_)
 exact zL
theorem mget_ok {α : Type} {mk : α → SP} (dv : α) {r c : Int} {xs : List α} {i j : Int} (h0 : 0 ≤ i * c + j) (h1 : i * c + j < xs.length) (h2 : -1000000 ≤ i * c ∧ i * c ≤ 1000000) (h3 : xs.length ≤ 1000000) : Ct Tryz.prog 46 [aggp [isv (.int .i64 r), isv (.int .i64 c), slm mk xs], isv (.int .i64 i), isv (.int .i64 j)] (mk (xs.getD (i * c + j).toNat dv)) := by
 refine Ct.of Tryz.func46 rfl (by kernel_rfl) rfl fun c0 => ?_
 refine J_to (To.emps 1) ?_
 refine zF (zG [] (.w 0 (op_box 0 (.t rfl) co_agg rfl)<|.n (zB (.k rfl))<|.nil) ff rfl fun g1 => ⟨_, _, [0], rfl, (.k 1 rfl<|.k 2 rfl<|.k 3 rfl<|.nil), (.k 0 rfl<|.nil), ?_⟩)
 refine zC ?_
 refine zF (zG [] (.n (zI fd64_2 (.t rfl) rfl)<|.r 0 (zN 0 sc62 (.t rfl) rfl zJ rfl)<|.n (zA (.t rfl))<|.n (zI fd64_1 (.t rfl) rfl)<|.r 0 (zN 0 sc3 (.t rfl) rfl zJ rfl)<|.n (op_mul (.t rfl) (.t rfl) (zO (by omega) (by omega)))<|.n (zA (.t rfl))<|.n (op_add (.t rfl) (.t rfl) (zO (by omega) (by omega)))<|.n (op_index_m dv sl62 (.t rfl) (.t rfl) (by omega) (by omega))<|.n (op_load_sc sc80 (.t rfl) rfl)<|.n (zB (.t rfl))<|.nil) ff rfl fun g2 => ⟨_, _, [], rfl, (.k 6 rfl<|.nil), (.nil), ?_⟩)
 refine zC ?_
 refine J_ret ?_
 refine zQ (.cons (.tmp (.t rfl))<|.nil) (zM (sb_res1 zL) ?_)
 exact zL
theorem mgetN_ok {α : Type} {mk : α → SP} (dv : α) {r c i j : Nat} {xs : List α} (h1 : i * c + j < xs.length) (h3 : xs.length ≤ 1000000) : Ct Tryz.prog 46 [aggp [isv (.int .i64 (r : Int)), isv (.int .i64 (c : Int)), slm mk xs], isv (.int .i64 (i : Int)), isv (.int .i64 (j : Int))] (mk (xs.getD (i * c + j) dv)) := (by have e : (i : Int) * (c : Int) + (j : Int) = ((i * c + j : Nat) : Int) := (by rw [Int.natCast_add, Int.natCast_mul]); have e2 : (i : Int) * (c : Int) = ((i * c : Nat) : Int) := (by rw [Int.natCast_mul]); have h := mget_ok (mk := mk) dv (r := (r : Int)) (c := (c : Int)) (xs := xs) (i := (i : Int)) (j := (j : Int)) (by rw [e]; omega) (by rw [e]; omega) (by rw [e2]; omega) h3; rw [e, Int.toNat_natCast] at h; exact h)
theorem ofmat_ok {r c : Int} {xs : List Nat} (hx : ∀ k, k < xs.length → finB (xs.getD k 0) = true) (h9 : xs.length ≤ 1000) : Ct Tryz.prog 30 [aggp [isv (.int .i64 r), isv (.int .i64 c), fls xs]] (aggp [isv (.int .i64 r), isv (.int .i64 c), slm ratP (xs.map fltQ)]) := by
 refine Ct.of Tryz.func30 rfl (by kernel_rfl) rfl fun c0 => ?_
 refine J_to (To.emps 2) ?_
 refine zF (zG [] (.w 0 (op_box 0 (.t rfl) co_agg rfl)<|.w 1 (op_alloc 1 zr64 rfl rfl)<|.nil) ff rfl fun g1 => ⟨_, _, [0, 1], rfl, (.k 1 rfl<|.k 2 rfl<|.nil), (.k 0 rfl<|.k 1 rfl<|.nil), ?_⟩)
 refine zC ?_
 refine J_to (To.emps 1) ?_
 refine zF (zG [] (.n (zI fd30_0 (.t rfl) rfl)<|.r 0 (zN 0 sc3 (.t rfl) rfl zJ rfl)<|.n (zI fd30_1 (.t rfl) rfl)<|.r 0 (zN 0 sc3 (.t rfl) rfl zJ rfl)<|.n (op_build zr64 rfl pl64 (.cons rfl (.t rfl) co_isv rfl (puts_l rfl (Nat.le_of_ble_eq_true rfl)) (.cons rfl (.t rfl) co_isv rfl (puts_l rfl (Nat.le_of_ble_eq_true rfl)) .nil)))<|.w 2 (op_alloc 2 zr64 rfl rfl)<|.w 2 (op_store_new 2 rfl (.t rfl) co_agg sz64 rfl rfl)<|.nil) ff rfl fun g2 => ⟨_, _, [0, 1, 2], rfl, (.k 1 rfl<|.k 2 rfl<|.k 3 rfl<|.nil), (.k 0 rfl<|.k 1 rfl<|.k 2 rfl<|.nil), ?_⟩)
 refine zC ?_
 refine zF ?_
 refine zF (zG [] (.n (zI fd30_2 (.t rfl) rfl)<|.r 0 (zN 0 sc28 (.t rfl) rfl zJ rfl)<|.n (op_len_m sl28 (.t rfl))<|.n (zA (.k rfl))<|.nil) ff rfl fun g3 => ⟨_, _, [1, 2], rfl, (.k 2 rfl<|.k 3 rfl<|.k 12 rfl<|.k 13 rfl<|.k 14 rfl<|.nil), (.k 1 rfl<|.k 2 rfl<|.nil), ?_⟩)
 refine zC ?_
 refine zT ?_
 refine J_to (To.emps 1) ?_
 refine J_loopc (α := Nat × Value) (fun x => x.1 ≤ xs.length) (fun x => xs.length - x.1) (fun x restR => (14, isv (.int .i64 (x.1 : Int))) :: restR) (fun x restS => som x.2 ratP ((xs.map fltQ).take x.1) 80 :: blk (g2 3) [isv (.int .i64 r), isv (.int .i64 c), isv x.2] 64 :: restS) (ρc := [(2, _), (3, _), (12, _), (13, _)]) (σc := [_]) (0, .slice none 0 0) (by exact Nat.zero_le _) (To.pick (fun _ => .sub (t := 14) rfl (sp_eq (by rfl))<|.k 2 rfl<|.k 3 rfl<|.k 12 rfl<|.k 13 rfl<|.nil) (fun _ => .sub 2 rfl (som_nil)<|.sub 1 rfl ((fun _ _ h => h))<|.k 0 rfl<|.nil) (ks := [2, 1, 0]) rfl) (fun x hI => ?_)
 obtain ⟨k, sv⟩ := x
 try simp only at hI
 show J _ _ ((14, isv (.int .i64 (k : Int))) :: _) (som sv ratP ((xs.map fltQ).take k) 80 :: blk (g2 3) [isv (.int .i64 r), isv (.int .i64 c), isv sv] 64 :: _) _ _
 refine zF (zG [] (.n (op_cmp (by simp) (.t rfl) (.t rfl) rfl)<|.nil) ff rfl fun g4 => ⟨_, _, [0, 1, 2], rfl, (.k 2 rfl<|.k 3 rfl<|.k 12 rfl<|.k 13 rfl<|.k 14 rfl<|.k 15 rfl<|.nil), (.k 0 rfl<|.k 1 rfl<|.k 2 rfl<|.nil), ?_⟩)
 refine zC ?_
 refine zF ?_
 refine zH (zK (.t rfl)) (fun h1 => ?_) (fun h1 => ?_)
 ·try simp only [cmpB, Z] at h1
  have hfk : finB (xs.getD ((k : Nat) : Int).toNat 0) = true := hx k (by omega)
  have htl : (List.take k (xs.map fltQ)).length = k := by rw [List.length_take, List.length_map]; omega
  refine J_skip ?_
  refine zC ?_
  refine zF ?_
  refine zT ?_
  refine zF (zG [] (.n (op_index_m 0 sl28 (.t rfl) (.t rfl) (by omega) (by omega))<|.n (op_load_sc sc39 (.t rfl) rfl)<|.n (zB (.t rfl))<|.nil) ff rfl fun g5 => ⟨_, _, [0, 1, 2], rfl, (.k 2 rfl<|.k 3 rfl<|.k 5 rfl<|.k 12 rfl<|.k 13 rfl<|.k 14 rfl<|.nil), (.k 0 rfl<|.k 1 rfl<|.k 2 rfl<|.nil), ?_⟩)
  refine zC ?_
  refine (zG [[], [0], [], [2], [2, 3], [0, 1, 2, 3, 4], [0, 1, 2, 3, 4, 5], [0, 1, 2, 3, 4, 5, 6]] (.n (zI fd64_2 (.t rfl) rfl)<|.r 1 (zN 1 sc62 (.t rfl) rfl zJ rfl)<|.n (zA (.t rfl))<|.n (zP (ratf_ok hfk) ⟨(.t rfl),  trivial⟩)<|.n (op_buildSlice sl62 zr80 rfl rfl rfl rfl (.cons rfl (.t rfl) co_ptp rfl (puts_l rfl (Nat.le_of_ble_eq_true rfl)) .nil))<|.w 0 (op_append_m (mk := ratP) 0 sl62 zr80 rfl (.t rfl) (.t rfl) rfl (by omega) (by omega))<|.n (zI fd64_2 (.t rfl) rfl)<|.w 1 (op_store_sl 1 (.t rfl) rfl sz62 rfl rfl)<|.nil) (fun _ => mixed) rfl fun g6 => ⟨_, _, [0, 1, 2], rfl, (.k 2 rfl<|.k 3 rfl<|.k 12 rfl<|.k 13 rfl<|.k 14 rfl<|.nil), (.k 0 rfl<|.k 1 rfl<|.k 2 rfl<|.nil), ?_⟩)
  refine zR ?_
  refine zC ?_
  refine (zG [] (.n (op_add (.t rfl) (.k rfl) (zO (by omega) (by omega)))<|.n (zA (.t rfl))<|.nil) ff rfl fun g7 => ⟨_, _, [0, 1, 2], rfl, (.k 2 rfl<|.k 3 rfl<|.k 12 rfl<|.k 13 rfl<|.k 14 rfl<|.nil), (.k 0 rfl<|.k 1 rfl<|.k 2 rfl<|.nil), ?_⟩)
  exact JN_again (k + 1, g6 23) (by exact (show k + 1 ≤ xs.length by omega)) (by show xs.length - (_ + 1) < _; omega) (To.pick (fun _ => .sub (t := 14) rfl (sp_eq (by rfl))<|.k 2 rfl<|.k 3 rfl<|.k 12 rfl<|.k 13 rfl<|.nil) (fun _ => .sub 0 rfl ((res_eq (by rw [← take_map_snoc 0 (by omega)]; rfl)))<|.sub 1 rfl ((fun _ _ h => h))<|.k 2 rfl<|.nil) (ks := [0, 1, 2]) rfl)
 ·try simp only [cmpB, Z] at h1
  refine J_exit ?_
  refine zE ?_
  refine zE ?_
  refine zS ?_
  refine zC ?_
  refine zF (zG [] (.r 1 (op_get_ag 1 ag64 (.t rfl) rfl zJ rfl rfl)<|.w 2 (op_store_b 2 (.t rfl) (.t rfl) co_agg sz64 rfl rfl rfl)<|.nil) ff rfl fun g8 => ⟨_, _, [0, 2], rfl, (.k 2 rfl<|.nil), (.k 0 rfl<|.k 2 rfl<|.nil), ?_⟩)
  refine zC ?_
  refine J_ret ?_
  refine JN_to (To.freeze 0 (fun _ h => h) rfl frz_som rfl) ?_
  refine zQ (.cons (.ag 1 (.t rfl) ag64 rfl rfl rfl)<|.nil) (zM (sb_res1 (sb_agg (.cons zL<|.cons zL<|.cons (sb_fk 0 rfl)<|.nil))) ?_)
  exact sb_eq (by rw [List.take_of_length_le (by simp; omega)])
end Go.Proofs.YtjnmgcglooeooaaGreatDoor
set_option maxRecDepth 20000
set_option maxHeartbeats 4000000
namespace Go.Proofs.YtjnmgcglooeooaaGreatDoor
open Go Go.Bn
attribute [local irreducible] OpOK
theorem newmatF_ok {r c : Nat} (h9 : r * c ≤ 1000) : CtF Tryz.prog 60 [isv (.int .i64 (r : Int)), isv (.int .i64 (c : Int))] (agN 2) (fun u => aggp [isv (.int .i64 (r : Int)), isv (.int .i64 (c : Int)), isv u]) (fun u => zerM u (r * c) 80 90) := by
 refine CtF.of Tryz.func60 rfl (by kernel_rfl) rfl fun c0 => ?_
 have hrc : (r : Int) * (c : Int) = ((r * c : Nat) : Int) := (Int.natCast_mul r c).symm
 refine J_to (To.emps 1) ?_
 refine zF (zG [] (.w 0 (op_alloc 0 zr64 rfl rfl)<|.nil) ff rfl fun g1 => ⟨_, _, [0], rfl, (.k 0 rfl<|.k 1 rfl<|.k 4 rfl<|.nil), (.k 0 rfl<|.nil), ?_⟩)
 refine zC ?_
 refine J_to (To.emps 1) ?_
 refine zF (zG [] (.n (zA (.t rfl))<|.n (zA (.t rfl))<|.n (op_build zr64 rfl pl64 (.cons rfl (.t rfl) co_isv rfl (puts_l rfl (Nat.le_of_ble_eq_true rfl)) (.cons rfl (.t rfl) co_isv rfl (puts_l rfl (Nat.le_of_ble_eq_true rfl)) .nil)))<|.w 1 (op_alloc 1 zr64 rfl rfl)<|.w 1 (op_store_new 1 rfl (.t rfl) co_agg sz64 rfl rfl)<|.nil) ff rfl fun g2 => ⟨_, _, [0, 1], rfl, (.k 0 rfl<|.k 1 rfl<|.k 4 rfl<|.k 5 rfl<|.nil), (.k 0 rfl<|.k 1 rfl<|.nil), ?_⟩)
 refine zC ?_
 refine zF ?_
 refine zF (zG [] (.n (zB (.k rfl))<|.nil) ff rfl fun g3 => ⟨_, _, [0, 1], rfl, (.k 0 rfl<|.k 1 rfl<|.k 4 rfl<|.k 5 rfl<|.k 6 rfl<|.nil), (.k 0 rfl<|.k 1 rfl<|.nil), ?_⟩)
 refine zC ?_
 refine zT ?_
 refine J_to (To.emps 2) ?_
 refine J_loopc (α := Nat × Value × List Value) (fun x => x.1 ≤ r * c ∧ x.2.2.length = x.1) (fun x => r * c - x.1) (fun x restR => (6, isv (.int .i64 (x.1 : Int))) :: restR) (fun x restS => som x.2.1 isv x.2.2 80 :: pool x.1 (zerX 90 x.2.2) :: blk (g2 5) [isv (.int .i64 (r : Int)), isv (.int .i64 (c : Int)), isv x.2.1] 64 :: restS) (ρc := [(0, _), (1, _), (4, _), (5, _)]) (σc := [_]) (0, .slice none 0 0, []) (by exact ⟨Nat.zero_le _, rfl⟩) (To.pick (fun _ => .sub (t := 6) rfl (sp_eq (by rfl))<|.k 0 rfl<|.k 1 rfl<|.k 4 rfl<|.k 5 rfl<|.nil) (fun _ => .sub 2 rfl (som_nil)<|.sub 3 rfl (pool_nil)<|.sub 1 rfl ((fun _ _ h => h))<|.k 0 rfl<|.nil) (ks := [2, 3, 1, 0]) rfl) (fun x hI => ?_)
 obtain ⟨k, sv, vs⟩ := x
 try simp only at hI
 show J _ _ ((6, isv (.int .i64 (k : Int))) :: _) (som sv isv vs 80 :: pool k (zerX 90 vs) :: blk (g2 5) [isv (.int .i64 (r : Int)), isv (.int .i64 (c : Int)), isv sv] 64 :: _) _ _
 have hkn : k ≤ r * c := hI.1
 have hvl : vs.length = k := hI.2
 refine zF ?_
 refine zF (zG [] (.n (zA (.t rfl))<|.n (zA (.t rfl))<|.n (zA (.t rfl))<|.n (op_mul (.t rfl) (.t rfl) (show IntKind.i64.wrap ((r : Int) * (c : Int)) = ((r * c : Nat) : Int) by rw [hrc]; exact zO (by omega) (by omega)))<|.n (op_cmp (by simp) (.t rfl) (.t rfl) rfl)<|.nil) ff rfl fun g4 => ⟨_, _, [0, 1, 2, 3], rfl, (.k 0 rfl<|.k 1 rfl<|.k 4 rfl<|.k 5 rfl<|.k 6 rfl<|.k 14 rfl<|.nil), (.k 0 rfl<|.k 1 rfl<|.k 2 rfl<|.k 3 rfl<|.nil), ?_⟩)
 refine zC ?_
 refine zH (zK (.t rfl)) (fun h1 => ?_) (fun h1 => ?_)
 ·try simp only [cmpB, Z] at h1
  refine J_skip ?_
  refine zC ?_
  refine zF ?_
  refine zT ?_
  refine J_to (To.emps 1) ?_
  refine (J_JO ?_)
  refine JO_split 3 rfl ?_
  refine (JO_reg (.n (zI fd64_2 (.t rfl) rfl)<|.r 2 (zN 2 sc62 (.t rfl) rfl zJ rfl)<|.w 4 (op_alloc 4 zr90 rfl rfl)<|.nil) rfl fun g5 => ⟨_, _, [0, 1, 2, 3, 4], rfl, (.k 0 rfl<|.k 1 rfl<|.k 4 rfl<|.k 5 rfl<|.k 6 rfl<|.k 18 rfl<|.k 19 rfl<|.nil), (.k 0 rfl<|.k 1 rfl<|.k 2 rfl<|.k 3 rfl<|.k 4 rfl<|.nil), ?_⟩)
  refine JN_know 4 rfl blk_ptr fun hbp => ?_
  refine JN_to (To.slot 19 rfl (q := isv (g5 19)) (ipo_isv hbp)) ?_
  refine JN_seg ?_
  refine (JO_reg (.n (op_buildSlice sl62 zr80 rfl rfl rfl rfl (.cons rfl (.t rfl) co_isv rfl (puts_l rfl (Nat.le_of_ble_eq_true rfl)) .nil))<|.w 0 (op_append_m (mk := isv) 0 sl62 zr80 rfl (.t rfl) (.t rfl) rfl (by omega) (by omega))<|.n (zI fd64_2 (.t rfl) rfl)<|.w 2 (op_store_sl 2 (.t rfl) rfl sz62 rfl rfl)<|.nil) rfl fun g6 => ⟨_, _, [0, 1, 2, 3, 4], rfl, (.k 0 rfl<|.k 1 rfl<|.k 4 rfl<|.k 5 rfl<|.k 6 rfl<|.nil), (.k 0 rfl<|.k 1 rfl<|.k 2 rfl<|.k 3 rfl<|.k 4 rfl<|.nil), ?_⟩)
  refine zR ?_
  refine zC ?_
  refine J_to (To.push 1 4 rfl rfl rfl rfl) ?_
  refine (zG [] (.n (zA (.t rfl))<|.n (op_add (.t rfl) (.k rfl) (zO (by omega) (by omega)))<|.n (zB (.t rfl))<|.nil) ff rfl fun g7 => ⟨_, _, [0, 1, 2, 3], rfl, (.k 0 rfl<|.k 1 rfl<|.k 4 rfl<|.k 5 rfl<|.k 6 rfl<|.nil), (.k 0 rfl<|.k 1 rfl<|.k 2 rfl<|.k 3 rfl<|.nil), ?_⟩)
  exact JN_again (k + 1, (g6 21), vs ++ [(g5 19)]) (by exact ⟨show k + 1 ≤ _ by omega, by show (vs ++ [_]).length = k + 1; rw [List.length_append, hvl]; rfl⟩) (by show r * c - (_ + 1) < _; omega) (To.pick (fun _ => .sub (t := 6) rfl (sp_eq (by rfl))<|.k 0 rfl<|.k 1 rfl<|.k 4 rfl<|.k 5 rfl<|.nil) (fun _ => .sub 0 rfl ((fun _ _ h => h))<|.sub 1 rfl ((push_zer hvl))<|.sub 2 rfl ((fun _ _ h => h))<|.k 3 rfl<|.nil) (ks := [0, 1, 2, 3]) rfl)
 ·try simp only [cmpB, Z] at h1
  refine J_exit ?_
  refine zE ?_
  refine zE ?_
  refine zS ?_
  refine zC ?_
  refine zF (zG [] (.r 2 (op_get_ag 2 ag64 (.t rfl) rfl zJ rfl rfl)<|.w 3 (op_store_b 3 (.t rfl) (.t rfl) co_agg sz64 rfl rfl rfl)<|.nil) ff rfl fun g8 => ⟨_, _, [0, 1, 3], rfl, (.k 4 rfl<|.nil), (.k 0 rfl<|.k 1 rfl<|.k 3 rfl<|.nil), ?_⟩)
  refine zC ?_
  refine J_ret ?_
  refine JN_to (To.join 0 1 rfl rfl rfl rfl) ?_
  refine JN_to (To.res 0 (r' := zerM sv (r * c) 80 90) rfl (zer_close (by omega) hvl) rfl) ?_
  refine JN_retF (u := sv) 0 rfl rfl (.ag 2 (.t rfl) ag64 rfl rfl rfl) (agN_of rfl) ?_
  exact zL
theorem copF_ok {r c : Nat} {qs : List Rat} (hl : qs.length = r * c) (h9 : r * c ≤ 1000) (hq : ∀ m, Rsz 4000 (qs.getD m 0)) : CtF Tryz.prog 48 [aggp [isv (.int .i64 (r : Int)), isv (.int .i64 (c : Int)), slm ratP qs]] (agN 2) (fun u => aggp [isv (.int .i64 (r : Int)), isv (.int .i64 (c : Int)), isv u]) (fun u => ratM u qs 80 90) := by
 refine CtF.of Tryz.func48 rfl (by kernel_rfl) rfl fun c0 => ?_
 refine J_to (To.emps 2) ?_
 refine zF (zG [] (.w 0 (op_box 0 (.t rfl) co_agg rfl)<|.w 1 (op_alloc 1 zr64 rfl rfl)<|.nil) ff rfl fun g1 => ⟨_, _, [0, 1], rfl, (.k 1 rfl<|.k 2 rfl<|.nil), (.k 0 rfl<|.k 1 rfl<|.nil), ?_⟩)
 refine zC ?_
 refine J_to (To.emps 2) ?_
 refine zF (zG [] (.n (zI fd64_0 (.t rfl) rfl)<|.r 0 (zN 0 sc3 (.t rfl) rfl zJ rfl)<|.n (zI fd64_1 (.t rfl) rfl)<|.r 0 (zN 0 sc3 (.t rfl) rfl zJ rfl)<|.w 2 (op_callF 2 (newmatF_ok (by omega)) ⟨(.t rfl), (.t rfl),  trivial⟩ rfl)<|.w 3 (op_alloc 3 zr64 rfl rfl)<|.w 3 (op_store_new_ve 3 rfl rfl rfl (fun f => co_agg) (fun f g h => by rw [h 9 (show 9 ∈ [9] from by decide)]) (fun _ => sz64) rfl (fun _ => rfl) rfl)<|.nil) ff rfl fun g2 => ⟨_, _, [0, 1, 2, 3], rfl, (.k 1 rfl<|.k 2 rfl<|.k 3 rfl<|.nil), (.k 0 rfl<|.k 1 rfl<|.k 2 rfl<|.k 3 rfl<|.nil), ?_⟩)
 refine zC ?_
 refine zF ?_
 refine J_ex 2 rfl fun vsp => ?_
 obtain ⟨vs, hvs⟩ := vsp
 refine J_to (To.emps 1) ?_
 refine J_to (To.res 2 (r' := (som (agN 2 (g2 9)) isv vs 80).sep (pool (r * c) (zerX 90 vs))) rfl (fun _ _ h => h) rfl) ?_
 refine J_to (To.split 2 4 rfl rfl rfl rfl) ?_
 refine zF (zG [] (.n (zI fd64_2 (.t rfl) rfl)<|.r 0 (zN 0 sc62 (.t rfl) rfl zJ rfl)<|.n (op_len_m sl62 (.t rfl))<|.n (zA (.k rfl))<|.nil) ff rfl fun g3 => ⟨_, _, [0, 1, 2, 3, 4], rfl, (.k 1 rfl<|.k 2 rfl<|.k 3 rfl<|.k 12 rfl<|.k 13 rfl<|.nil), (.k 0 rfl<|.k 1 rfl<|.k 2 rfl<|.k 3 rfl<|.k 4 rfl<|.nil), ?_⟩)
 refine zC ?_
 refine zT ?_
 refine J_loopc (α := Nat) (fun k => k ≤ qs.length) (fun k => qs.length - k) (fun k restR => (13, isv (.int .i64 (k : Int))) :: restR) (fun k restS => pool qs.length (mixX 90 vs qs k) :: restS) (ρc := [(1, _), (2, _), (3, _), (12, _)]) (σc := [_, _, _, _]) 0 (by exact Nat.zero_le _) (To.pick (fun _ => .sub (t := 13) rfl (sp_eq (by rfl))<|.k 1 rfl<|.k 2 rfl<|.k 3 rfl<|.k 12 rfl<|.nil) (fun _ => .sub 4 rfl ((hl ▸ mix_zero))<|.k 0 rfl<|.k 1 rfl<|.k 2 rfl<|.k 3 rfl<|.nil) (ks := [4, 0, 1, 2, 3]) rfl) (fun k hI => ?_)
 refine zF (zG [] (.n (op_cmp (by simp) (.t rfl) (.t rfl) rfl)<|.nil) ff rfl fun g4 => ⟨_, _, [0, 1, 2, 3, 4], rfl, (.k 1 rfl<|.k 2 rfl<|.k 3 rfl<|.k 12 rfl<|.k 13 rfl<|.k 14 rfl<|.nil), (.k 0 rfl<|.k 1 rfl<|.k 2 rfl<|.k 3 rfl<|.k 4 rfl<|.nil), ?_⟩)
 refine zC ?_
 refine zF ?_
 refine zH (zK (.t rfl)) (fun h1 => ?_) (fun h1 => ?_)
 ·try simp only [cmpB, Z] at h1
  refine J_skip ?_
  refine zC ?_
  refine zF ?_
  refine zT ?_
  refine zF (zG [] (.n (zA (.t rfl))<|.n (zB (.t rfl))<|.nil) ff rfl fun g5 => ⟨_, _, [0, 1, 2, 3, 4], rfl, (.k 1 rfl<|.k 2 rfl<|.k 3 rfl<|.k 4 rfl<|.k 12 rfl<|.k 13 rfl<|.nil), (.k 0 rfl<|.k 1 rfl<|.k 2 rfl<|.k 3 rfl<|.k 4 rfl<|.nil), ?_⟩)
  refine zC ?_
  refine J_to (To.emps 1) ?_
  refine J_to (To.focus 0 5 k (by omega) rfl rfl rfl rfl) ?_
  refine J_to (To.res 5 (r' := blk (vs.getD k NILP) ratZ 90) rfl (res_eq (mix_at)) rfl) ?_
  refine J_know 5 rfl blk_ptr fun hbp => ?_
  refine (zG [[], [0], [], [0, 1, 2], [0, 1, 2, 3], [], [5], [], [5, 6, 7], [5, 6, 7, 8], [0, 1, 2, 3, 4, 5, 6, 7, 8, 9]] (.n (zI fd64_2 (.t rfl) rfl)<|.r 4 (zN 4 sc62 (.t rfl) rfl zJ rfl)<|.n (zA (.t rfl))<|.r 3 (op_index_som 3 sl62 (.t rfl) (.t rfl) rfl (by omega) (by omega))<|.r 3 (OpOK.subF (op_get_som (mk := isv) NILP 3 sc80 (.t rfl) rfl (by omega)) rfl (isv_ipo hbp))<|.n (zI fd64_2 (.t rfl) rfl)<|.r 1 (zN 1 sc62 (.t rfl) rfl zJ rfl)<|.n (zA (.t rfl))<|.n (op_index_m 0 sl62 (.t rfl) (.t rfl) (by omega) (by omega))<|.n (op_load_sc sc80 (.t rfl) rfl)<|.w 5 (op_callM 5 (rset_ok (hq _)) ⟨(.t rfl), (.t rfl),  trivial⟩ rfl)<|.nil) (fun _ => mixed) rfl fun g6 => ⟨_, _, [0, 1, 2, 3, 4, 5], rfl, (.k 1 rfl<|.k 2 rfl<|.k 3 rfl<|.k 12 rfl<|.k 13 rfl<|.nil), (.k 0 rfl<|.k 1 rfl<|.k 2 rfl<|.k 3 rfl<|.k 4 rfl<|.k 5 rfl<|.nil), ?_⟩)
  refine zR ?_
  refine zC ?_
  refine J_to (To.unfocus 0 5 k (by omega) rfl rfl rfl rfl) ?_
  refine J_to (To.res 0 (r' := pool (qs.length) (mixX 90 vs qs (k + 1))) rfl (hl ▸ mix_step) rfl) ?_
  refine (zG [] (.n (op_add (.t rfl) (.k rfl) (zO (by omega) (by omega)))<|.n (zA (.t rfl))<|.nil) ff rfl fun g7 => ⟨_, _, [0, 1, 2, 3, 4], rfl, (.k 1 rfl<|.k 2 rfl<|.k 3 rfl<|.k 12 rfl<|.k 13 rfl<|.nil), (.k 0 rfl<|.k 1 rfl<|.k 2 rfl<|.k 3 rfl<|.k 4 rfl<|.nil), ?_⟩)
  exact JN_again (k + 1) (by omega) (by omega) (To.pick (fun _ => .sub (t := 13) rfl (sp_eq (by rfl))<|.k 1 rfl<|.k 2 rfl<|.k 3 rfl<|.k 12 rfl<|.nil) (fun _ => .sub 0 rfl ((fun _ _ h => h))<|.k 1 rfl<|.k 2 rfl<|.k 3 rfl<|.k 4 rfl<|.nil) (ks := [0, 1, 2, 3, 4]) rfl)
 ·try simp only [cmpB, Z] at h1
  refine J_exit ?_
  refine zE ?_
  refine zE ?_
  refine zS ?_
  refine zC ?_
  refine zF (zG [] (.r 4 (op_get_ag 4 ag64 (.t rfl) rfl zJ rfl rfl)<|.w 2 (op_store_b 2 (.t rfl) (.t rfl) co_agg sz64 rfl rfl rfl)<|.nil) ff rfl fun g8 => ⟨_, _, [0, 2, 3], rfl, (.k 2 rfl<|.nil), (.k 0 rfl<|.k 2 rfl<|.k 3 rfl<|.nil), ?_⟩)
  refine zC ?_
  refine J_ret ?_
  refine JN_to (To.join 2 0 rfl rfl rfl rfl) ?_
  refine JN_to (To.res 2 (r' := ratM (agN 2 (g2 9)) qs 80 90) rfl (rat_close (by omega) (by omega)) rfl) ?_
  refine JN_retF (u := (agN 2 (g2 9))) 2 rfl rfl (.ag 1 (.t rfl) ag64 rfl rfl rfl) (agN_of rfl) ?_
  exact zL
end Go.Proofs.YtjnmgcglooeooaaGreatDoor
set_option maxRecDepth 20000
set_option maxHeartbeats 4000000
namespace Go.Proofs.YtjnmgcglooeooaaGreatDoor
open Go Go.Bn
attribute [local irreducible] OpOK
theorem qless_ok {r c i k n : Nat} {vs : List Value} {qs : List Rat} {f : Rat} (hv : vs.length = n) (hl : qs.length = n) (h9 : n ≤ 1000) (hi : i * c + c ≤ n) (hk : k * c + c ≤ n) (hik : i ≠ k) (hf : Rsz 2000 f) (hA : ∀ j, j < c → Rsz 900 (qs.getD (i * c + j) 0)) (hB : ∀ j, j < c → Rsz 900 (qs.getD (k * c + j) 0)) : CtM Tryz.prog 50 [aggp [isv (.int .i64 (r : Int)), isv (.int .i64 (c : Int)), slm isv vs], isv (.int .i64 (i : Int)), isv (.int .i64 (k : Int)), ratP f] (pool n (ratX 90 vs qs)) (anyp) (pool n (ratX 90 vs (lesQ qs i k c f c))) := by
 refine CtM.of Tryz.func50 rfl (by kernel_rfl) rfl (fix_ratX) fun c0 ob hr0 => ?_
 refine J_know 0 rfl pool_ptr fun hptr => ?_
 refine J_to (To.emps 1) ?_
 refine zF (zG [] (.w 1 (op_box 1 (.t rfl) co_agg rfl)<|.nil) ff rfl fun g1 => ⟨_, _, [0, 1], rfl, (.k 1 rfl<|.k 2 rfl<|.k 3 rfl<|.k 4 rfl<|.nil), (.k 0 rfl<|.k 1 rfl<|.nil), ?_⟩)
 refine zC ?_
 refine zF (zG [] (.n (zB (.k rfl))<|.nil) ff rfl fun g2 => ⟨_, _, [0, 1], rfl, (.k 1 rfl<|.k 2 rfl<|.k 3 rfl<|.k 4 rfl<|.k 8 rfl<|.nil), (.k 0 rfl<|.k 1 rfl<|.nil), ?_⟩)
 refine zC ?_
 refine zT ?_
 refine J_loopc (α := Nat) (fun j => j ≤ c) (fun j => c - j) (fun j restR => (8, isv (.int .i64 (j : Int))) :: restR) (fun j restS => pool n (ratX 90 vs (lesQ qs i k c f j)) :: restS) (ρc := [(1, _), (2, _), (3, _), (4, _)]) (σc := [_]) 0 (by exact Nat.zero_le _) (To.pick (fun _ => .sub (t := 8) rfl (sp_eq (by rfl))<|.k 1 rfl<|.k 2 rfl<|.k 3 rfl<|.k 4 rfl<|.nil) (fun _ => .sub 0 rfl ((fun _ _ h => h))<|.k 1 rfl<|.nil) (ks := [0, 1]) rfl) (fun j hI => ?_)
 refine zF ?_
 refine zF (zG [] (.n (zA (.t rfl))<|.n (zI fd64_1 (.t rfl) rfl)<|.r 1 (zN 1 sc3 (.t rfl) rfl zJ rfl)<|.n (op_cmp (by simp) (.t rfl) (.t rfl) rfl)<|.nil) ff rfl fun g3 => ⟨_, _, [0, 1], rfl, (.k 1 rfl<|.k 2 rfl<|.k 3 rfl<|.k 4 rfl<|.k 8 rfl<|.k 12 rfl<|.nil), (.k 0 rfl<|.k 1 rfl<|.nil), ?_⟩)
 refine zC ?_
 refine zH (zK (.t rfl)) (fun h1 => ?_) (fun h1 => ?_)
 ·try simp only [cmpB, Z] at h1
  obtain ⟨hX, hY⟩ := les_get (qs := qs) (f := f) (n := n) hl hik hi hk (show j < c by omega)
  have hxs : Rsz 900 ((lesQ qs i k c f j).getD (i * c + j) 0) := by rw [hX]; exact hA j (by omega)
  have hys : Rsz 900 ((lesQ qs i k c f j).getD (k * c + j) 0) := by rw [hY]; exact hB j (by omega)
  have hll : (lesQ qs i k c f j).length = n := by rw [length_lesQ]; exact hl
  refine J_skip ?_
  refine zC ?_
  refine zF ?_
  refine zT ?_
  refine J_to (To.emps 1) ?_
  refine (zG [[], [], [], [0, 1, 2], [], [], [], [0, 1, 2, 3, 4, 5, 6], [], [], [], [], [], [0, 1, 2, 3, 4, 5, 6, 7, 10, 11, 12], [0, 1, 2, 3, 4, 5, 6, 7, 8, 9, 10, 11, 12, 13], [0, 1, 2, 3, 4, 5, 6, 7, 8, 9, 10, 11, 12, 13, 14]] (.r 1 (op_get_ag 1 ag64 (.t rfl) rfl zJ rfl rfl)<|.n (zA (.t rfl))<|.n (zA (.t rfl))<|.n (zP (mgetN_ok (mk := isv) NILP (by omega) (by omega)) ⟨(.t rfl), (.t rfl), (.t rfl),  trivial⟩)<|.r 1 (op_get_ag 1 ag64 (.t rfl) rfl zJ rfl rfl)<|.n (zA (.t rfl))<|.n (zA (.t rfl))<|.n (zP (mgetN_ok (mk := isv) NILP (by omega) (by omega)) ⟨(.t rfl), (.t rfl), (.t rfl),  trivial⟩)<|.w 0 (op_alloc_sep 0 zr90 rfl rfl)<|.n (zA (.t rfl))<|.r 1 (op_get_ag 1 ag64 (.t rfl) rfl zJ rfl rfl)<|.n (zA (.t rfl))<|.n (zA (.t rfl))<|.n (zP (mgetN_ok (mk := isv) NILP (by omega) (by omega)) ⟨(.t rfl), (.t rfl), (.t rfl),  trivial⟩)<|.w 0 (op_callSF 0 rfl rfl (fun u => CtM.two (rmul_ok hf (hys.mono (by omega))) (.inl rfl) (.inr (lent_ratX (by omega))) noi_ratX) rfl ⟨(.t rfl), (.t rfl), trivial⟩)<|.w 0 (op_callM 0 (CtM.inpool (by omega) (by omega) (rsubA_ok hxs (rsz_mul hf hys (by omega)))) ⟨(Lk.sub (isv_ipo (hptr _ (by omega))) (.t rfl)), (Lk.sub (isv_ipo (hptr _ (by omega))) (.t rfl)), (.t rfl), trivial⟩ rfl)<|.nil) (fun _ => mixed) rfl fun g4 => ⟨_, _, [0, 1], rfl, (.k 1 rfl<|.k 2 rfl<|.k 3 rfl<|.k 4 rfl<|.k 8 rfl<|.nil), (.k 0 rfl<|.k 1 rfl<|.nil), ?_⟩)
  refine zR ?_
  refine zC ?_
  refine (zG [] (.n (zA (.t rfl))<|.n (op_add (.t rfl) (.k rfl) (zO (by omega) (by omega)))<|.n (zB (.t rfl))<|.nil) ff rfl fun g5 => ⟨_, _, [0, 1], rfl, (.k 1 rfl<|.k 2 rfl<|.k 3 rfl<|.k 4 rfl<|.k 8 rfl<|.nil), (.k 0 rfl<|.k 1 rfl<|.nil), ?_⟩)
  exact JN_again (j + 1) (by omega) (by omega) (To.pick (fun _ => .sub (t := 8) rfl (sp_eq (by rfl))<|.k 1 rfl<|.k 2 rfl<|.k 3 rfl<|.k 4 rfl<|.nil) (fun _ => .sub 0 rfl ((res_eq (by rw [hX, hY]; rfl)))<|.k 1 rfl<|.nil) (ks := [0, 1]) rfl)
 ·try simp only [cmpB, Z] at h1
  refine J_exit ?_
  refine zE ?_
  refine zE ?_
  refine zS ?_
  refine JN_end ?_
  refine JN_to (To.res 0 (r' := pool n (ratX 90 vs (lesQ qs i k c f c))) rfl (res_eq (by rw [show j = c by omega])) rfl) ?_
  refine JN_retM 0 hr0 (fix_ratX) rfl (.nil) (zM zL ?_)
  exact sb_any
theorem qsym_ok {n : Nat} {qs : List Rat} (hl : qs.length = n * n) (h9 : n ≤ 12) (hz : ∀ m, Rsz 2000 (qs.getD m 0)) (hs : ∀ i j, i < n → j < n → qs.getD (i * n + j) 0 = qs.getD (j * n + i) 0) : Ct Tryz.prog 31 [aggp [isv (.int .i64 (n : Int)), isv (.int .i64 (n : Int)), slm ratP qs]] (isv (.bool true)) := by
 refine Ct.of Tryz.func31 rfl (by kernel_rfl) rfl fun c0 => ?_
 have hnn : n * n ≤ 144 := Nat.mul_le_mul h9 h9
 refine J_to (To.emps 1) ?_
 refine zF (zG [] (.w 0 (op_box 0 (.t rfl) co_agg rfl)<|.n (zB (.k rfl))<|.nil) ff rfl fun g1 => ⟨_, _, [0], rfl, (.k 1 rfl<|.nil), (.k 0 rfl<|.nil), ?_⟩)
 refine zC ?_
 refine zF ?_
 refine zF (zG [] (.n (zB (.k rfl))<|.nil) ff rfl fun g2 => ⟨_, _, [0], rfl, (.k 1 rfl<|.k 3 rfl<|.nil), (.k 0 rfl<|.nil), ?_⟩)
 refine zC ?_
 refine zT ?_
 refine J_loopc (α := Nat) (fun i => i ≤ n) (fun i => n - i) (fun i restR => (3, isv (.int .i64 (i : Int))) :: restR) (fun i restS => restS) (ρc := [(1, _)]) (σc := [_]) 0 (by exact Nat.zero_le _) (To.pick (fun _ => .sub (t := 3) rfl (sp_eq (by rfl))<|.k 1 rfl<|.nil) (fun _ => .k 0 rfl<|.nil) (ks := [0]) rfl) (fun i hI => ?_)
 refine zF ?_
 refine zF (zG [] (.n (zA (.t rfl))<|.n (zI fd64_0 (.t rfl) rfl)<|.r 0 (zN 0 sc3 (.t rfl) rfl zJ rfl)<|.n (op_cmp (by simp) (.t rfl) (.t rfl) rfl)<|.nil) ff rfl fun g3 => ⟨_, _, [0], rfl, (.k 1 rfl<|.k 3 rfl<|.k 8 rfl<|.nil), (.k 0 rfl<|.nil), ?_⟩)
 refine zC ?_
 refine zH (zK (.t rfl)) (fun h1 => ?_) (fun h1 => ?_)
 ·try simp only [cmpB, Z] at h1
  refine J_skip ?_
  refine zC ?_
  refine zF ?_
  refine zT ?_
  refine zF (zG [] (.n (zB (.k rfl))<|.nil) ff rfl fun g4 => ⟨_, _, [0], rfl, (.k 1 rfl<|.k 3 rfl<|.k 4 rfl<|.nil), (.k 0 rfl<|.nil), ?_⟩)
  refine zC ?_
  refine zT ?_
  refine J_loopc (α := Nat) (fun j => j ≤ i) (fun j => i - j) (fun j restR => (4, isv (.int .i64 (j : Int))) :: restR) (fun j restS => restS) (ρc := [(1, _), (3, _)]) (σc := [_]) 0 (by exact Nat.zero_le _) (To.pick (fun _ => .sub (t := 4) rfl (sp_eq (by rfl))<|.k 1 rfl<|.k 3 rfl<|.nil) (fun _ => .k 0 rfl<|.nil) (ks := [0]) rfl) (fun j hI => ?_)
  refine zF ?_
  refine zF (zG [] (.n (zA (.t rfl))<|.n (zA (.t rfl))<|.n (op_cmp (by simp) (.t rfl) (.t rfl) rfl)<|.nil) ff rfl fun g5 => ⟨_, _, [0], rfl, (.k 1 rfl<|.k 3 rfl<|.k 4 rfl<|.k 13 rfl<|.nil), (.k 0 rfl<|.nil), ?_⟩)
  refine zC ?_
  refine zH (zK (.t rfl)) (fun h2 => ?_) (fun h2 => ?_)
  ·try simp only [cmpB, Z] at h2
   have hij := row_lt (i := i) (c := n) (k := j) (n := n) (by omega) (by omega)
   have hji := row_lt (i := j) (c := n) (k := i) (n := n) (by omega) (by omega)
   refine J_skip ?_
   refine zC ?_
   refine zF ?_
   refine zT ?_
   refine zF (zG [[], [], [], [0, 1, 2], [], [], [], [0, 1, 2, 3, 4, 5, 6], [0, 1, 2, 3, 4, 5, 6, 7], [0, 1, 2, 3, 4, 5, 6, 7, 8]] (.r 0 (op_get_ag 0 ag64 (.t rfl) rfl zJ rfl rfl)<|.n (zA (.t rfl))<|.n (zA (.t rfl))<|.n (zP (mgetN_ok (mk := ratP) 0 (by omega) (by omega)) ⟨(.t rfl), (.t rfl), (.t rfl),  trivial⟩)<|.r 0 (op_get_ag 0 ag64 (.t rfl) rfl zJ rfl rfl)<|.n (zA (.t rfl))<|.n (zA (.t rfl))<|.n (zP (mgetN_ok (mk := ratP) 0 (by omega) (by omega)) ⟨(.t rfl), (.t rfl), (.t rfl),  trivial⟩)<|.n (zP (rcmp_ok (hz _) (hz _)) ⟨(.t rfl), (.t rfl),  trivial⟩)<|.n (op_cmp (by simp) (.t rfl) (.k rfl) rfl)<|.nil) (fun _ => mixed) rfl fun g6 => ⟨_, _, [0], rfl, (.k 1 rfl<|.k 3 rfl<|.k 4 rfl<|.k 25 rfl<|.nil), (.k 0 rfl<|.nil), ?_⟩)
   refine zC ?_
   refine zH (zK (.t rfl)) (fun h3 => ?_) (fun h3 => ?_)
   ·try simp only [cmpB, Z] at h3
    exact absurd ((cmpZ_rat _ _).2 (hs i j (by omega) (by omega))) h3
   ·try simp only [cmpB, Z] at h3
    refine J_skip ?_
    refine zR ?_
    refine zC ?_
    refine (zG [] (.n (zA (.t rfl))<|.n (op_add (.t rfl) (.k rfl) (zO (by omega) (by omega)))<|.n (zB (.t rfl))<|.nil) ff rfl fun g7 => ⟨_, _, [0], rfl, (.k 1 rfl<|.k 3 rfl<|.k 4 rfl<|.nil), (.k 0 rfl<|.nil), ?_⟩)
    exact JN_again (j + 1) (by omega) (by omega) (To.pick (fun _ => .sub (t := 4) rfl (sp_eq (by rfl))<|.k 1 rfl<|.k 3 rfl<|.nil) (fun _ => .k 0 rfl<|.nil) (ks := [0]) rfl)
  ·try simp only [cmpB, Z] at h2
   refine J_exit ?_
   refine zE ?_
   refine zE ?_
   refine zS ?_
   refine zR ?_
   refine zC ?_
   refine (zG [] (.n (zA (.t rfl))<|.n (op_add (.t rfl) (.k rfl) (zO (by omega) (by omega)))<|.n (zB (.t rfl))<|.nil) ff rfl fun g8 => ⟨_, _, [0], rfl, (.k 1 rfl<|.k 3 rfl<|.nil), (.k 0 rfl<|.nil), ?_⟩)
   exact JN_again (i + 1) (by omega) (by omega) (To.pick (fun _ => .sub (t := 3) rfl (sp_eq (by rfl))<|.k 1 rfl<|.nil) (fun _ => .k 0 rfl<|.nil) (ks := [0]) rfl)
 ·try simp only [cmpB, Z] at h1
  refine J_exit ?_
  refine zE ?_
  refine zE ?_
  refine zS ?_
  refine zC ?_
  refine zF (zG [] (.n (zB (.k rfl))<|.nil) ff rfl fun g9 => ⟨_, _, [], rfl, (.k 2 rfl<|.nil), (.nil), ?_⟩)
  refine zC ?_
  refine J_ret ?_
  refine zQ (.cons (.tmp (.t rfl))<|.nil) (zM (sb_res1 zL) ?_)
  exact zL
theorem qsign_ok {n : Nat} {qs : List Rat} {M : Nat → Nat → Rat} (hl : qs.length = n * n) (h9 : n ≤ 12) (hM : ∀ r j, r < n → j < n → qs.getD (r * n + j) 0 = M r j) (hE : Elp n M) : Ct Tryz.prog 32 [aggp [isv (.int .i64 (n : Int)), isv (.int .i64 (n : Int)), slm ratP qs]] (isv (.int .i64 3)) := by
 refine Ct.of Tryz.func32 rfl (by kernel_rfl) rfl fun c0 => ?_
 have hnn : n * n ≤ 144 := Nat.mul_le_mul h9 h9
 have hz := elp_sz hl hM hE
 refine J_to (To.emps 1) ?_
 refine zF (zG [] (.w 0 (op_box 0 (.t rfl) co_agg rfl)<|.n (zB (.k rfl))<|.nil) ff rfl fun g1 => ⟨_, _, [0], rfl, (.k 1 rfl<|.nil), (.k 0 rfl<|.nil), ?_⟩)
 refine zC ?_
 refine J_to (To.emps 2) ?_
 refine zF (zG [] (.r 0 (op_get_ag 0 ag64 (.t rfl) rfl zJ rfl rfl)<|.w 1 (op_callF 1 (copF_ok hl (by omega) (fun m => (hz m).mono (by omega))) ⟨(.t rfl),  trivial⟩ rfl)<|.w 2 (op_alloc 2 zr64 rfl rfl)<|.w 2 (op_store_new_ve 2 rfl rfl rfl (fun f => co_agg) (fun f g h => by rw [h 10 (show 10 ∈ [10] from by decide)]) (fun _ => sz64) rfl (fun _ => rfl) rfl)<|.nil) ff rfl fun g2 => ⟨_, _, [1, 2], rfl, (.k 3 rfl<|.nil), (.k 1 rfl<|.k 2 rfl<|.nil), ?_⟩)
 refine zC ?_
 refine J_ex 0 rfl fun vsp => ?_
 obtain ⟨vs, hvs⟩ := vsp
 refine J_to (To.emps 1) ?_
 refine J_to (To.res 0 (r' := (som (agN 2 (g2 10)) isv vs 80).sep (pool qs.length (ratX 90 vs qs))) rfl (fun _ _ h => h) rfl) ?_
 refine J_to (To.split 0 2 rfl rfl rfl rfl) ?_
 refine J_know 2 rfl pool_ptr fun hptr => ?_
 refine J_to (To.freeze 0 (fun _ h => h) rfl frz_som rfl) ?_
 refine zF (zG [] (.n (zB (.k rfl))<|.nil) ff rfl fun g3 => ⟨_, _, [1, 2], rfl, (.k 3 rfl<|.k 4 rfl<|.nil), (.k 1 rfl<|.k 2 rfl<|.nil), ?_⟩)
 refine zC ?_
 refine zF ?_
 refine zF (zG [] (.n (zB (.k rfl))<|.nil) ff rfl fun g4 => ⟨_, _, [0, 1], rfl, (.k 3 rfl<|.k 4 rfl<|.k 5 rfl<|.nil), (.k 0 rfl<|.k 1 rfl<|.nil), ?_⟩)
 refine zC ?_
 refine zT ?_
 refine J_loopc (α := Nat × List Rat) (fun x => x.1 ≤ n ∧ AtQ x.2 M n x.1 0) (fun x => n - x.1) (fun x restR => (5, isv (.int .i64 (x.1 : Int))) :: (4, isv (.int .i64 3)) :: restR) (fun x restS => pool qs.length (ratX 90 vs x.2) :: restS) (ρc := [(3, _)]) (σc := [_]) (0, qs) (by exact ⟨Nat.zero_le _, atQ_zero hl hM⟩) (To.pick (fun _ => .sub (t := 5) rfl (sp_eq (by rfl))<|.sub (t := 4) rfl (sp_eq (by rfl))<|.k 3 rfl<|.nil) (fun _ => .sub 1 rfl ((fun _ _ h => h))<|.k 0 rfl<|.nil) (ks := [1, 0]) rfl) (fun x hI => ?_)
 obtain ⟨c, l⟩ := x
 try simp only at hI
 show J _ _ ((5, isv (.int .i64 (c : Int))) :: (4, isv (.int .i64 3)) :: _) (pool qs.length (ratX 90 vs l) :: _) _ _
 refine zF ?_
 refine zF (zG [] (.n (zA (.t rfl))<|.n (zI fd64_0 (.t rfl) rfl)<|.r 1 (zN 1 sc3 (.t rfl) rfl zJ rfl)<|.n (op_cmp (by simp) (.t rfl) (.t rfl) rfl)<|.nil) ff rfl fun g5 => ⟨_, _, [0, 1], rfl, (.k 3 rfl<|.k 4 rfl<|.k 5 rfl<|.k 14 rfl<|.nil), (.k 0 rfl<|.k 1 rfl<|.nil), ?_⟩)
 refine zC ?_
 refine zH (zK (.t rfl)) (fun h1 => ?_) (fun h1 => ?_)
 ·try simp only [cmpB, Z] at h1
  obtain ⟨hI1, hI2⟩ := hI
  have hcn : c < n := by omega
  have hcc := row_lt hcn hcn
  have hll : l.length = n * n := hI2.1
  obtain ⟨hsg, hpn⟩ := atQ_pos hE hI2 hcn
  refine J_skip ?_
  refine zC ?_
  refine zF ?_
  refine zT ?_
  refine zF (zG [] (.r 1 (op_get_ag 1 ag64 (.t rfl) rfl zJ rfl rfl)<|.n (zA (.t rfl))<|.n (zA (.t rfl))<|.n (zP (mgetN_ok (mk := isv) NILP (by omega) (by omega)) ⟨(Lk.sub (sb_agg (.cons zL<|.cons zL<|.cons (sb_fk 0 rfl)<|.nil)) (.t rfl)), (.t rfl), (.t rfl),  trivial⟩)<|.n (zB (.t rfl))<|.nil) ff rfl fun g6 => ⟨_, _, [0, 1], rfl, (.k 3 rfl<|.k 4 rfl<|.k 5 rfl<|.k 6 rfl<|.nil), (.k 0 rfl<|.k 1 rfl<|.nil), ?_⟩)
  refine zC ?_
  refine zF ?_
  refine zF (zG [] (.n (zA (.t rfl))<|.r 0 (op_callL 0 rsign_ok (pure_isv _) ⟨.inr ⟨_, (.t rfl), lent_ratX (by omega)⟩, trivial⟩ rfl)<|.n (op_cmp (by simp) (.t rfl) (.k rfl) rfl)<|.nil) ff rfl fun g7 => ⟨_, _, [0, 1], rfl, (.k 3 rfl<|.k 4 rfl<|.k 5 rfl<|.k 6 rfl<|.k 23 rfl<|.nil), (.k 0 rfl<|.k 1 rfl<|.nil), ?_⟩)
  refine zC ?_
  refine zH (zK (.t rfl)) (fun h2 => ?_) (fun h2 => ?_)
  ·try simp only [cmpB, Z] at h2
   exact absurd h2 (by rw [hsg]; decide)
  ·try simp only [cmpB, Z] at h2
   refine J_skip ?_
   refine zC ?_
   refine zF ?_
   refine zF (zG [] (.n (zA (.t rfl))<|.r 0 (op_callL 0 rsign_ok (pure_isv _) ⟨.inr ⟨_, (.t rfl), lent_ratX (by omega)⟩, trivial⟩ rfl)<|.n (op_cmp (by simp) (.t rfl) (.k rfl) rfl)<|.nil) ff rfl fun g8 => ⟨_, _, [0, 1], rfl, (.k 3 rfl<|.k 4 rfl<|.k 5 rfl<|.k 6 rfl<|.k 26 rfl<|.nil), (.k 0 rfl<|.k 1 rfl<|.nil), ?_⟩)
   refine zC ?_
   refine zH (zK (.t rfl)) (fun h3 => ?_) (fun h3 => ?_)
   ·try simp only [cmpB, Z] at h3
    exact absurd h3 (by rw [hsg]; decide)
   ·try simp only [cmpB, Z] at h3
    refine J_skip ?_
    refine zC ?_
    refine zF (zG [] (.n (zA (.t rfl))<|.n (op_add (.t rfl) (.k rfl) (zO (by omega) (by omega)))<|.n (zB (.t rfl))<|.nil) ff rfl fun g9 => ⟨_, _, [0, 1], rfl, (.k 3 rfl<|.k 4 rfl<|.k 5 rfl<|.k 6 rfl<|.k 8 rfl<|.nil), (.k 0 rfl<|.k 1 rfl<|.nil), ?_⟩)
    refine zC ?_
    refine zT ?_
    refine J_loopc (α := Nat × List Rat) (fun x => c + 1 ≤ x.1 ∧ x.1 ≤ n ∧ AtQ x.2 M n c x.1) (fun x => n - x.1) (fun x restR => (8, isv (.int .i64 (x.1 : Int))) :: restR) (fun x restS => pool qs.length (ratX 90 vs x.2) :: restS) (ρc := [(3, _), (4, _), (5, _), (6, _)]) (σc := [_]) (c + 1, l) (by exact ⟨Nat.le_refl _, hcn, atQ_first hI2⟩) (To.pick (fun _ => .sub (t := 8) rfl (sp_eq (by rfl))<|.k 3 rfl<|.k 4 rfl<|.k 5 rfl<|.k 6 rfl<|.nil) (fun _ => .sub 0 rfl ((fun _ _ h => h))<|.k 1 rfl<|.nil) (ks := [0, 1]) rfl) (fun x hJ => ?_)
    obtain ⟨i, m⟩ := x
    try simp only at hJ
    show J _ _ ((8, isv (.int .i64 (i : Int))) :: _) (pool qs.length (ratX 90 vs m) :: _) _ _
    obtain ⟨hJ1, hJ2, hm⟩ := hJ
    have hml0 : m.length = n * n := hm.1
    refine zF ?_
    refine zF (zG [] (.n (zA (.t rfl))<|.n (zI fd64_0 (.t rfl) rfl)<|.r 1 (zN 1 sc3 (.t rfl) rfl zJ rfl)<|.n (op_cmp (by simp) (.t rfl) (.t rfl) rfl)<|.nil) ff rfl fun g10 => ⟨_, _, [0, 1], rfl, (.k 3 rfl<|.k 4 rfl<|.k 5 rfl<|.k 6 rfl<|.k 8 rfl<|.k 46 rfl<|.nil), (.k 0 rfl<|.k 1 rfl<|.nil), ?_⟩)
    refine zC ?_
    refine zH (zK (.t rfl)) (fun h4 => ?_) (fun h4 => ?_)
    ·try simp only [cmpB, Z] at h4
     refine J_skip ?_
     refine zC ?_
     refine zF ?_
     refine zT ?_
     have hin : i < n := by omega
     have hic := row_lt (c := n) (k := c) hin hcn
     have hml : m.length = qs.length := by omega
     have hir : i * n + n ≤ n * n := by rw [← Nat.succ_mul]; exact Nat.mul_le_mul_right n hin
     have hcr : c * n + n ≤ n * n := by rw [← Nat.succ_mul]; exact Nat.mul_le_mul_right n hcn
     obtain ⟨hA, hB, hq1, hq2, hq3, hqz⟩ := atQ_sz hE hm hin hcn
     refine J_to (To.emps 1) ?_
     refine (zG [[], [], [], [], [], [], [], [4, 5, 6], [], [3, 4, 5, 6, 7, 8], [0, 1, 2, 3, 4, 5, 6, 7, 8, 9]] (.r 1 (op_get_ag 1 ag64 (.t rfl) rfl zJ rfl rfl)<|.n (zA (.t rfl))<|.n (zA (.t rfl))<|.w 0 (op_alloc_sep 0 zr90 rfl rfl)<|.r 1 (op_get_ag 1 ag64 (.t rfl) rfl zJ rfl rfl)<|.n (zA (.t rfl))<|.n (zA (.t rfl))<|.n (zP (mgetN_ok (mk := isv) NILP (by omega) (by omega)) ⟨(Lk.sub (sb_agg (.cons zL<|.cons zL<|.cons (sb_fk 0 rfl)<|.nil)) (.t rfl)), (.t rfl), (.t rfl),  trivial⟩)<|.n (zA (.t rfl))<|.w 0 (op_callSF 0 rfl rfl (fun u => CtM.two (rquo_ok hq1 hq2 hq3) (.inr (lent_ratX (by omega))) (.inr (lent_ratX (by omega))) noi_ratX) rfl ⟨(.t rfl), (.t rfl), trivial⟩)<|.w 0 (op_callM 0 (qless_ok (by omega) hml (by omega) (by omega) (by omega) (by omega) hqz hA hB) ⟨(Lk.sub (sb_agg (.cons zL<|.cons zL<|.cons (sb_fk 0 rfl)<|.nil)) (.t rfl)), (.t rfl), (.t rfl), (.t rfl), trivial⟩ rfl)<|.nil) (fun _ => mixed) rfl fun g11 => ⟨_, _, [0, 1], rfl, (.k 3 rfl<|.k 4 rfl<|.k 5 rfl<|.k 6 rfl<|.k 8 rfl<|.nil), (.k 0 rfl<|.k 1 rfl<|.nil), ?_⟩)
     refine zR ?_
     refine zC ?_
     refine (zG [] (.n (zA (.t rfl))<|.n (op_add (.t rfl) (.k rfl) (zO (by omega) (by omega)))<|.n (zB (.t rfl))<|.nil) ff rfl fun g12 => ⟨_, _, [0, 1], rfl, (.k 3 rfl<|.k 4 rfl<|.k 5 rfl<|.k 6 rfl<|.k 8 rfl<|.nil), (.k 0 rfl<|.k 1 rfl<|.nil), ?_⟩)
     exact JN_again (i + 1, lesQ m i c n (m.getD (i * n + c) 0 / m.getD (c * n + c) 0) n) (by exact ⟨show c + 1 ≤ i + 1 by omega, show i + 1 ≤ n by omega, atQ_row hm (by omega) (by omega)⟩) (by show n - (_ + 1) < _; omega) (To.pick (fun _ => .sub (t := 8) rfl (sp_eq (by rfl))<|.k 3 rfl<|.k 4 rfl<|.k 5 rfl<|.k 6 rfl<|.nil) (fun _ => .sub 0 rfl ((fun _ _ h => h))<|.k 1 rfl<|.nil) (ks := [0, 1]) rfl)
    ·try simp only [cmpB, Z] at h4
     refine J_exit ?_
     refine zE ?_
     refine zE ?_
     refine zS ?_
     refine zR ?_
     refine zC ?_
     refine (zG [] (.n (zA (.t rfl))<|.n (op_add (.t rfl) (.k rfl) (zO (by omega) (by omega)))<|.n (zB (.t rfl))<|.nil) ff rfl fun g13 => ⟨_, _, [0, 1], rfl, (.k 3 rfl<|.k 4 rfl<|.k 5 rfl<|.nil), (.k 0 rfl<|.k 1 rfl<|.nil), ?_⟩)
     exact JN_again (c + 1, m) (by exact ⟨show c + 1 ≤ n by omega, atQ_next ((show i = n by omega) ▸ hm)⟩) (by show n - (_ + 1) < _; omega) (To.pick (fun _ => .sub (t := 5) rfl (sp_eq (by rfl))<|.sub (t := 4) rfl (sp_eq (by rfl))<|.k 3 rfl<|.nil) (fun _ => .sub 0 rfl ((fun _ _ h => h))<|.k 1 rfl<|.nil) (ks := [0, 1]) rfl)
 ·try simp only [cmpB, Z] at h1
  refine J_exit ?_
  refine zE ?_
  refine zE ?_
  refine zS ?_
  refine zC ?_
  refine zF (zG [] (.n (zA (.t rfl))<|.n (zB (.t rfl))<|.nil) ff rfl fun g14 => ⟨_, _, [0], rfl, (.k 2 rfl<|.nil), (.k 0 rfl<|.nil), ?_⟩)
  refine zC ?_
  refine J_ret ?_
  refine zQ (.cons (.tmp (.t rfl))<|.nil) (zM (sb_res1 zL) ?_)
  exact zL
end Go.Proofs.YtjnmgcglooeooaaGreatDoor
