/- Printed by a program of ours (walk.py): walks of matrices as they are handed in, and of QrTriangles. -/
import Derived.Test.YtllkellonjhalaaGreatRrKb
import Derived.Test.YtllkellonjhalaaGreatProg
import Derived.KernelRfl
import Derived.Test.YtllkellonjhalaaGreatRrTypes
import Derived.Test.YtllkellonjhalaaGreatRrWRtr10
set_option linter.unusedVariables false
set_option linter.unusedSimpArgs false
set_option maxRecDepth 20000
set_option maxHeartbeats 1000000
namespace Go.Proofs.YtllkellonjhalaaGreat
open Go Go.Bn
attribute [local irreducible] OpOK
def GoodMs (ms : List Mt) : Prop := (∀ m, m ∈ ms → GoodU m.a) ∧ ms.length * 40 ≤ 140737488355328
theorem goodMs_at {ms : List Mt} (h : GoodMs ms) {k : Nat} (hk : k < ms.length) : GoodU (ms.getD k mtD).a := h.1 _ (mem_getD mtD hk)
theorem goodMs_lt {ms : List Mt} (h : GoodMs ms) : ∀ k, LtL ((ms.map mcn).getD k mtD).a := fun k => by
 by_cases hk : k < ms.length
 ·rw [mcn_at hk]; exact ltL_cn2 (goodMs_at h hk).1
 ·rw [List.getD, List.getElem?_eq_none (by rw [List.length_map]; omega)]; exact fun j => by show ([] : List Nat).getD j 0 < 2 ^ 64; simp
theorem qall_ok {ms : List Mt} (hb : GoodMs ms) : Ct Tryz.prog 7 [slk 3 mtW ms] (slk 3 mtU (ms.map mcn)) := by
 refine Ct.of Tryz.func7 rfl (by kernel_rfl) rfl fun c0 => ?_
 refine J_lenk 0 rfl fun hlen => ?_
 have hb2 := hb.2
 refine zF (zG [] (
   .n (zB (Lk.k rfl)) <| .nil) ff rfl fun g1 => ⟨_, _, [], rfl, (.cons 0 rfl <| .nil), (.nil), ?_⟩)
 refine zC ?_
 refine zF (zG [] (
   .n (zB (Lk.k rfl)) <| .nil) ff rfl fun g2 => ⟨_, _, [], rfl, (.cons 0 rfl <| .cons 3 rfl <| .nil), (.nil), ?_⟩)
 refine zC ?_
 refine zF ?_
 refine zF (zG [] (
   .n (zB (Lk.k rfl)) <| .nil) ff rfl fun g3 => ⟨_, _, [], rfl, (.cons 0 rfl <| .cons 3 rfl <| .cons 4 rfl <| .nil), (.nil), ?_⟩)
 refine zC ?_
 refine zT ?_
 refine J_to (To.emps 1) ?_
 refine J_loopc (α := Nat × Value) (fun x => x.1 ≤ ms.length) (fun x => ms.length - x.1) (fun x restR => (4, isv (.int .i64 (x.1 : Int))) :: (3, isv x.2) :: restR) (fun x restS => somk x.2 3 mtU ((ms.map mcn).take x.1) 28 :: restS) (ρc := [(0, _)]) (σc := []) (0, .slice none 0 0) (by exact Nat.zero_le _) (To.pick (fun _ => .sub (t := 4) rfl (sp_eq (by rfl)) <| .sub (t := 3) rfl (sp_eq (by rfl)) <| .cons 0 rfl <| .nil) (fun _ => .sub 0 rfl (somk_nil) <| .nil) (ks := [0]) rfl) (fun x hI => ?_)
 obtain ⟨k, sv⟩ := x
 try simp only at hI
 show J _ _ ((4, isv (.int .i64 (k : Int))) :: (3, isv sv) :: _) (somk sv 3 mtU ((ms.map mcn).take k) 28 :: _) _ _
 refine zF ?_
 refine zF (zG [] (
   .n (zA (Lk.t rfl)) <|
   .n (zA (Lk.t rfl)) <|
   .n (op_len_sk sl22 (Lk.t rfl)) <|
   .n (op_cmp (by simp) (Lk.t rfl) (Lk.t rfl) rfl) <| .nil) ff rfl fun g4 => ⟨_, _, [0], rfl, (.cons 0 rfl <| .cons 3 rfl <| .cons 4 rfl <| .cons 8 rfl <| .nil), (.cons 0 rfl <| .nil), ?_⟩)
 refine zC ?_
 refine zH (zK (Lk.t rfl)) (fun h1 => ?_) (fun h1 => ?_)
 ·have h1' := h1
  try simp only [cmpB, Z] at h1
  have hgm : GoodU (ms.getD ((k : Nat) : Int).toNat mtD).a := goodMs_at hb (by omega)
  refine J_skip ?_
  refine zC ?_
  refine zF ?_
  refine zT ?_
  refine (zG [] (
    .n (zA (Lk.t rfl)) <|
    .n (zA (Lk.t rfl)) <|
    .n (zA (Lk.t rfl)) <|
    .n (op_index_sk (mk := mtW) mtD sl22 mtW_len (Lk.t rfl) (Lk.t rfl) (by omega) (by omega)) <|
    .n (op_load_ag ag50 (Lk.t rfl) rfl rfl) <|
    .n (zP (qof_ok hgm) ⟨(Lk.t rfl),  trivial⟩) <|
    .n (op_buildSlice sl24 zr28 rfl rfl rfl rfl (.cons rfl (Lk.t rfl) co_agg rfl (puts_l rfl (Nat.le_of_ble_eq_true rfl)) .nil)) <|
    .w 0 (op_append_k (mcn (ms.getD ((k : Nat) : Int).toNat mtD)) 0 sl24 zr28 rfl rfl (Lk.t rfl) (Lk.t rfl) rfl (by simp; omega) (by simp; omega)) <|
    .n (op_assign_ve rfl rfl) <| .nil) ff rfl fun g5 => ⟨_, _, [0], rfl, (.cons 0 rfl <| .cons 3 rfl <| .cons 4 rfl <| .nil), (.cons 0 rfl <| .nil), ?_⟩)
  refine zR ?_
  refine zC ?_
  refine (zG [] (
    .n (zA (Lk.t rfl)) <|
    .n (op_add (Lk.t rfl) (Lk.k rfl) (zO (by omega) (by omega))) <|
    .n (zB (Lk.t rfl)) <| .nil) ff rfl fun g6 => ⟨_, _, [0], rfl, (.cons 0 rfl <| .cons 3 rfl <| .cons 4 rfl <| .nil), (.cons 0 rfl <| .nil), ?_⟩)
  exact JN_again (k + 1, g5 18) (by exact (show k + 1 ≤ ms.length by omega)) (by show ms.length - (_ + 1) < _; omega) (To.pick (fun _ => .sub (t := 4) rfl (sp_eq (by rfl)) <| .sub (t := 3) rfl (sp_eq (by rfl)) <| .cons 0 rfl <| .nil) (fun _ => .sub 0 rfl ((res_eq (by rw [show (ms.map mcn).take (k + 1) = _ from take_mcn (by omega)]; rfl))) <| .nil) (ks := [0]) rfl)
 ·have h1' := h1
  try simp only [cmpB, Z] at h1
  refine J_exit ?_
  refine zE ?_
  refine zE ?_
  refine zS ?_
  refine zC ?_
  refine zF (zG [] (
    .n (zA (Lk.t rfl)) <|
    .n (zB (Lk.t rfl)) <| .nil) ff rfl fun g7 => ⟨_, _, [0], rfl, (.cons 2 rfl <| .nil), (.cons 0 rfl <| .nil), ?_⟩)
  refine zC ?_
  refine J_ret ?_
  refine JN_to (To.freeze 0 (fun _ h => h) rfl frz_somk rfl) ?_
  refine zQ (.cons (.tmp (Lk.t rfl)) <| .nil) (zM (sb_res1 (sb_fk 0 rfl)) ?_)
  exact sb_eq (by rw [List.take_of_length_le (by simp; omega)])
end Go.Proofs.YtllkellonjhalaaGreat
